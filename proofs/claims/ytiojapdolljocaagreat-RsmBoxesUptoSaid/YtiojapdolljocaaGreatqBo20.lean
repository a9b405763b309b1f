/- Parts of a proof, laid together: EnX, RX5, WC1, WC2, BX0. -/
import Derived.RangeFuncNested
import Derived.Test.YtiojapdolljocaaGreatqBo15
import Derived.Test.YtiojapdolljocaaGreatqBo19
set_option linter.unusedSimpArgs false
set_option maxHeartbeats 8000000
set_option linter.unusedVariables false
set_option linter.unusedSectionVars false
section
namespace Go.Dm
variable [DMode]
def Cw (ok:Nat->Bool):Nat->Option Nat
 | 0=>none
 | n+1=>match Cw ok n with
  | some k=>some k
  | none=>if ok n then none else some n
def BN_ (P:Program) (f:FuncId) (us cs:List DVal) (xs:List (List DVal)) (ok:Nat->Bool):Prop :=
 ∀(l:Nat) (A Z:Nat->Abs),(∀k x,xs[k]? =some x->(∀j,j<k->ok j=true)->YAt P l (A k) x (ok k) (if ok k then A (k+1)else Z k)) ->
  Bh P (.func f) (us++ .pk 0 0::cs) [⟨0,0,.abs (yH l)⟩,⟨1,0,.abs (A 0)⟩] (.tup []) [⟨0,0,.abs (yH l)⟩,⟨1,1,.abs (match Cw ok xs.length with | none=>A xs.length | some k=>Z k)⟩]
def Aq_ (P:Program) (c:Code) (idx:List Nat) (nt:Nat) (e0:Exit):Dx_:=fun vs w R=>∀a:Act,idx.map (fun i=>a.tmps.getD i Go.undef)=vs.toList->a.tmps.size=nt ->
 c.wpIn (wd none) 0 P (fun e a' w'=>e=e0/\(∃D,a'={ a with defers:={ target:= .collected D,args:= #[] }::a.defers }/\w.heap.size<=D/\w'.heap[D]? =some (.deferred (some [])))/\R (.tuple #[]) w') a w
theorem eA {cur:Er} {M:List Nat} {h:Array Obj} {f:Nat->Value}:∀{sl:List (Nat×DVal)},Au cur M h (sl.map (·.2)) (sl.map fun p=>f p.1)->∀p∈sl,rd cur M h p.2 (f p.1)
 | [],_,p,hp=>by cases hp
 | q::sl,hr,p,hp=>by
  simp only[List.map_cons,Au]at hr;obtain⟨v,r,he,h1,h2⟩:=hr;simp only[bG0]at he;obtain⟨rfl,rfl⟩:=he
  rcases aJ0.1 hp with rfl | hp
  ·exact h1
  ·exact eA h2 p hp
theorem rS {P:Program} {gt nt:Nat} {ps:Array Tmp} {assign body:Code} {f:FuncId} {us cs:List DVal} {xs:List (List DVal)} {ok:Nat->Bool} {sl:List (Nat×DVal)} {S Z:Nat->List Ent} {jc:Nat->Code} {T:List Ent} {e0:Exit}
  (hsl:Jp sl<=1) (hI:BN_ P f us cs xs ok) (vU:AH us=0/\AH cs=0) (hgt:(gt,.fn (.func f) us cs)∈sl) (mN:∀x∈xs,x.length=ps.size/\AH x=0) (hpn:∀p∈ps.toList,p<nt)
  (round:∀k x,xs[k]? =some x->(∀j,j<k->ok j=true)->∀B:Base,B.nt=nt->DW P B assign (RA P nt body (ok k) (if ok k then S (k+1)else Z k) (jc k)) ⟨Rh ps.toList x sl,S k⟩)
  (hT:match Cw ok xs.length with | none=>e0= .normal/\T=S xs.length | some k=>(jc k= .ret/\e0= .ret\/(∃id,jc k= .exit id/\e0= .exit id)\/(∃t,jc k= .goto t/\e0= .goto t))/\T=Z k) :
  BS_ (Aq_ P (.rangeFunc (.tmp gt) ps assign body) (sl.map (·.1)) nt e0) (sl.map (·.2)) (S 0) (.tup []) T:=by
 intro M w loc vs St0 hr a wF qX
 have jJ:∀p∈sl,rd (Ad (S 0) loc) (Aa (S 0) loc++M) w.heap p.2 (a.tmps.getD p.1 Go.undef):=by
  refine eA (f:=fun i=>a.tmps.getD i Go.undef) ?_;rw[<-wF,bY0]at hr;exact hr
 have hg:=jJ _ hgt;simp only[rd]at hg;obtain⟨us',cs',hv,vO,kY⟩:=hg;refine wpIn_rangeFunc ?_;intro fn hfn;obtain⟨rec,zJ⟩:∃rec:Loop,rec={ state:= .ready,pending:=none,fn,tmps:=a.tmps,params:=ps,assign,body,defers:=w.heap.size }:=⟨_,rfl⟩;obtain⟨W1,mP⟩:∃W1,W1=(w.alloc (.deferred (some []))).alloc (.loop rec):=⟨_,rfl⟩;obtain⟨l,hl⟩:∃l,l=w.heap.size+1:=⟨_,rfl⟩;have hsz1:W1.heap.size=w.heap.size+2:=by rw[mP];simp
 have bF:∀b,b<w.heap.size->W1.heap[b]? =w.heap[b]? :=by
  intro b hb;rw[mP];simp only[World.alloc,bO0,Array.size_push];rw[if_neg (by omega),if_neg (by omega)]
 have hD1:W1.heap[w.heap.size]? =some (.deferred (some [])):=by
  rw[mP];simp only[World.alloc,bO0,Array.size_push];rw[if_neg (by omega)];simp
 have jI:W1.heap[l]? =some (.loop rec):=by
  rw[mP,hl];simp only[World.alloc,bO0,Array.size_push];simp
 have vH:=run_enterLoop_outer (P:=P) (w:=w) fn a.tmps ps assign body;rw[<-zJ,<-mP,<-hl]at vH
 let A:Nat->Abs:=fun k=>tY sl hsl (S k) a.tmps (S 0) loc l rec
 let Zs:Nat->Abs:=fun k=>tY sl hsl (Z k) a.tmps (S 0) loc l { rec with state:= .done,pending:=some (jc k) }
 have hy:∀k x,xs[k]? =some x->(∀j,j<k->ok j=true)->YAt P l (A k) x (ok k) (if ok k then A (k+1)else Zs k):=by
  intro k x hx hj;have vN:=mN x (bU0 hx);have hY:=Ez_ (hsl:=hsl) (own:=S k) (S:=if ok k then S (k+1)else Z k) (own0:=S 0) (loc0:=loc) (l:=l) (L:=rec) (tm:=a.tmps) (nt:=nt) (x:=x) (okk:=ok k) (j:=jc k) (by rw[zJ]) (by rw[zJ]) (by rw[zJ]) qX (by rw[zJ];exact vN.1) (by rw[zJ];exact hpn) vN.2 (by rw[zJ];exact round k x hx hj)
  cases hk:ok k with
  | true =>
   rw[hk]at hY;have e1:({ rec with state:=if true=true then .ready else .done,pending:=if true=true then none else some (jc k) }:Loop)=rec:=by rw[zJ];rfl
   rw[e1]at hY;exact hY
  | false =>
   rw[hk]at hY;exact hY
 have hD:=hI l A Zs hy;have fW:∀b∈Aa (S 0) loc,b<w.heap.size:=fun b hb=>St0.lt b (aL0 _ hb)
 let loc1:Nat->Loc:=fun i=>if i=0 then ⟨[],.func (.yield l) #[] #[]⟩else ⟨Aa (S 0) loc++[l],.func (.yield l) #[] #[]⟩
 have zB:Aa [⟨0,0,.abs (yH l)⟩,⟨1,0,.abs (A 0)⟩] loc1=Aa (S 0) loc++[l]:=by simp[Aa,loc1]
 have W1w:∀n,Weak (Ad (S 0) loc) (Ad (S 0) loc) (Aa (S 0) loc++M) (Aa (S 0) loc++[l]++M) w.heap W1.heap n:=fun n =>
  ⟨fun _ _ _ _ h=>h,fun b o _ (_:FY o=true) ho=>by rw[bF b (aC0.1 ho).1];exact ho,fun b o hb (_:FY o=true) ho hm=>by
   have qV:=(aC0.1 ho).1;simp only[aI0,aE0]at hm hb
   rcases hm with (hm | hm) | hm
   ·exact hb (.inl hm)
   ·omega
   ·exact hb (.inr hm)⟩
 have St1:St [⟨0,0,.abs (yH l)⟩,⟨1,0,.abs (A 0)⟩] loc1 M W1.heap:=by
  refine⟨by simp,?_,?_,?_,?_⟩
  ·rw[zB,bS0];exact⟨St0.bl,by simp,fun b hb b' qG=>by simp only[aE0]at qG;have:=fW b hb;omega⟩
  ·rw[zB];intro b hb hm
   rcases aI0.1 hb with hb | hb
   ·exact St0.ap b hb hm
   ·simp only[aE0]at hb;have:=St0.lt b (aP0 _ hm);omega
  ·rw[zB];intro b hb;simp only[aI0,aE0]at hb
   rcases hb with (hb | hb) | hb
   ·have:=fW b hb;omega
   ·omega
   ·have:=St0.lt b (aP0 _ hb);omega
  ·intro e he;simp only[aJ0,List.not_mem_nil,or_false]at he
   rcases he with rfl | rfl
   ·exact⟨rfl,rfl⟩
   ·refine⟨rfl,loc,rfl,St0.nd,fun e he=> ?_,fun p hp=> ?_,jI,fun e he _=>AG St0.nd he⟩
    ·rw[zB];exact Bd (W1w _) (Nat.le_refl _) (fun b o hb ho=>by rw[bF b (aC0.1 ho).1];exact ho) (St0.ok e he)
    ·rw[zB];exact Cc (W1w _) _ _ (Nat.le_refl _) (jJ p hp)
 have W1z:Weak (Ad (S 0) loc) (Ad [⟨0,0,.abs (yH l)⟩,⟨1,0,.abs (A 0)⟩] loc1) (Aa (S 0) loc++M) (Aa [⟨0,0,.abs (yH l)⟩,⟨1,0,.abs (A 0)⟩] loc1++M) w.heap W1.heap 0:=by
  rw[zB];exact⟨fun _ _ _ h=>by omega,(W1w 0).b,(W1w 0).m⟩
 have jG:=hD.2.2 M W1 loc1 (us'++ #[.func (.yield l) #[] #[]]++cs') St1 (by
  have e1:(us'++ #[Value.func (.yield l) #[] #[]]++cs').toList=us'.toList++Value.func (.yield l) #[] #[]::cs'.toList:=by simp
  rw[e1];refine BW _ _ _ _ (AQ W1z _ _ (dF0 vU.1) vO) ?_;simp only[Au];refine⟨_,_,rfl,?_,AQ W1z _ _ (dF0 vU.2) kY⟩;simp only[rd];intro lc hlc;have:Ad [⟨0,0,.abs (yH l)⟩,⟨1,0,.abs (A 0)⟩] loc1 0 0=some (loc1 0):=rfl;rw[this]at hlc;simp only[aA0]at hlc;rw[<-hlc]
  rfl)
 have yA:a.eval (.tmp gt)= .func (.func f) us' cs':=hv;refine⟨l,[{ target:= .collected w.heap.size,args:= #[] }],W1,{ target:= .fn (.func f) cs',args:=us'++ #[.func (.yield l) #[] #[]] },W1,f,us'++ #[.func (.yield l) #[] #[]]++cs',W1,vH,?_,fun _ _=>trivial,?_,fun h=>by simp[wd]at h,?_⟩
 ·simp only[resolve,rangeCall,yA];simp[Deferred.ofValue,Act.eval]
 ·simp only[invoke];exact jG.1 _ _
 ·refine(QB none _ jG.2).mono ?_;rintro e w2 ⟨v,rfl,loc2,S2,hu,wZ,vC,_⟩;have hk:=S2.ok _ (aF0 _ aH0);have zU:=S2.ok _ aH0;have qC:(loc2 0).blks=[]:=zU.1
  -- what is known behind, by the loop's state
  have main:∀(L:Loop) (T':List Ent),(tY sl hsl T' a.tmps (S 0) loc l L).J (Aa [⟨0,0,.abs (yH l)⟩,⟨1,1,.abs (match Cw ok xs.length with | none=>A xs.length | some k=>Zs k)⟩] loc2++M) (loc2 1).blks (loc2 1).hdr w2.heap->L.state≠ .busy ->
    (Instr.endLoop l).run P w2= .ok L.pending (w2.putObj l (.loop { L with state:= .exhausted }))/\(∃D,({ a with defers:=[{ target:= .collected w.heap.size,args:= #[] }]++a.defers }:Act)={ a with defers:={ target:= .collected D,args:= #[] }::a.defers }/\w.heap.size<=D/\(w2.putObj l (.loop { L with state:= .exhausted })).heap[D]? =some (.deferred (some []))) /\
    ∃loc',St T' loc' M (w2.putObj l (.loop { L with state:= .exhausted })).heap/\Upd (Aa (S 0) loc) w (w2.putObj l (.loop { L with state:= .exhausted }))/\(∀b∈Aa T' loc',b∈Aa (S 0) loc\/w.heap.size<=b) /\
     (∀e∈T',e.r<1->Ad (S 0) loc e.id e.r=some (loc' e.id))/\rd (Ad T' loc') (Aa T' loc'++M) (w2.putObj l (.loop { L with state:= .exhausted })).heap (.tup []) (.tuple #[]):=by
   rintro L T' ⟨_,loc3,jK,hnd3,hob3,hsl3,gS,hver3⟩ hbusy
   have yT:Aa [⟨0,0,.abs (yH l)⟩,⟨1,1,.abs (match Cw ok xs.length with | none=>A xs.length | some k=>Zs k)⟩] loc2=Aa T' loc3++[l]:=by
    simp[Aa,qC];simpa[Aa]using jK
   obtain⟨w4,bU⟩:∃w4,w4=w2.putObj l (.loop { L with state:= .exhausted }):=⟨_,rfl⟩;rw[<-bU];have qM:=run_endLoop (P:=P) gS hbusy;rw[<-bU]at qM;have mJ:w4.heap.size=w2.heap.size:=by rw[bU];exact EN _ _ _
   have yR:∀b,b≠l->w4.heap[b]? =w2.heap[b]? :=fun b hb=>by rw[bU];exact World.putObj_heap_other hb
   rw[zB]at hu
   have fH:l∉Aa T' loc3:=by
    have:=S2.bl;rw[yT,bS0]at this;exact fun hm=>this.2.2 l hm l (by simp) rfl
   refine⟨qM,⟨w.heap.size,rfl,Nat.le_refl _,?_⟩,loc3,?_,?_,?_,hver3,?_⟩
   ·rw[yR _ (by omega),hu.blk _ (by omega) (fun h=>by
     simp only[aI0,aE0]at h
     rcases h with h | h
     ·have:=fW _ h;omega
     ·omega)]
    exact hD1
   ·have yJ:∀b∈Aa T' loc3,b∈Aa T' loc3++[l]:=fun b hb=>aL0 _ hb
    have hd4:∀(b:Nat) (o:Obj),FY o=true->w2.heap[b]? =some o->w4.heap[b]? =some o:=by
     intro b o ho hb;rw[yR b (fun he=>by subst he;rw[gS]at hb;simp only[aA0]at hb;subst hb;simp[FY]at ho)];exact hb
    refine⟨hnd3,?_,fun b hb=>S2.ap b (by rw[yT];exact yJ b hb),fun b hb=> ?_,fun e he=> ?_⟩
    ·have:=S2.bl;rw[yT,bS0]at this;exact this.1
    ·rw[mJ];refine S2.lt b ?_;rw[yT]
     rcases aI0.1 hb with hb | hb
     ·exact aL0 _ (yJ b hb)
     ·exact aP0 _ hb
    ·have h3:=hob3 e he;rw[yT]at h3;refine Bd (n:=Ez e.obj) ⟨fun _ _ _ _ h=>h,fun b o _ (h1:FY o=true) h2=>hd4 b o h1 h2,fun b o hb (_:FY o=true) _ hm=>hb ?_⟩ (Nat.le_refl _) (fun b o hb ho=>by rw[yR b (fun h=>fH (h▸AZ he hb))];exact ho) h3
     rcases aI0.1 hm with hm | hm
     ·exact aL0 _ (yJ b hm)
     ·exact aP0 _ hm
   ·have U1:Upd (Aa (S 0) loc) w W1:=⟨by rw[mP];rfl,by rw[mP];rfl,by rw[mP];rfl,fun _=>by rw[mP];exact Nat.le_refl _,by omega,fun b hb _=>bF b hb⟩
    have U2:Upd (Aa (S 0) loc) w w2:=U1.trans hu (fun x hx=>by
     simp only[aI0,aE0]at hx
     rcases hx with hx | hx
     ·exact .inl hx
     ·exact .inr (by omega))
    have U3:Upd [l] w2 w4:=by
     rw[bU];exact⟨rfl,rfl,rfl,fun _=>Nat.le_refl _,by rw[EN];exact Nat.le_refl _,fun b _ hb=>World.putObj_heap_other (fun h=>hb (by simp[h]))⟩
    exact U2.trans U3 (fun x hx=> .inr (by simp only[aE0]at hx;omega))
   ·intro b hb;have hbm:b∈Aa [⟨0,0,.abs (yH l)⟩,⟨1,1,.abs (match Cw ok xs.length with | none=>A xs.length | some k=>Zs k)⟩] loc2:=by rw[yT];exact aL0 _ hb
    rcases wZ b hbm with h | h
    ·rw[zB]at h;simp only[aI0,aE0]at h
     rcases h with h | h
     ·exact .inl h
     ·exact .inr (by omega)
    ·exact .inr (by omega)
   ·simp only[rd];exact⟨#[],rfl,by simp[Au]⟩
  clear wZ vC
  cases qK:Cw ok xs.length with
  | none =>
   rw[qK]at hT;obtain⟨rfl,rfl⟩:=hT
   have vM:(A xs.length).J (Aa [⟨0,0,.abs (yH l)⟩,⟨1,1,.abs (match Cw ok xs.length with | none=>A xs.length | some k=>Zs k)⟩] loc2++M) (loc2 1).blks (loc2 1).hdr w2.heap:=by
    have h:=hk;simp only[Jd]at h
    generalize hF:(match Cw ok xs.length with | none=>A xs.length | some k=>Zs k)=F at h |-
    rw[qK]at hF;simp only at hF;subst hF;exact h
   obtain⟨h1,h2,h3⟩:=main rec _ vM (by rw[zJ];simp);refine⟨_,_,h1,?_⟩;rw[zJ];simp only;rw[zJ]at h2 h3;exact⟨trivial,h2,h3⟩
  | some k =>
   rw[qK]at hT;obtain⟨hj,rfl⟩:=hT
   have vM:(Zs k).J (Aa [⟨0,0,.abs (yH l)⟩,⟨1,1,.abs (match Cw ok xs.length with | none=>A xs.length | some k=>Zs k)⟩] loc2++M) (loc2 1).blks (loc2 1).hdr w2.heap:=by
    have h:=hk;simp only[Jd]at h
    generalize hF:(match Cw ok xs.length with | none=>A xs.length | some k=>Zs k)=F at h |-
    rw[qK]at hF;simp only at hF;subst hF;exact h
   obtain⟨h1,h2,h3⟩:=main _ _ vM (by simp);refine⟨_,_,h1,?_⟩;simp only
   rcases hj with ⟨hj,rfl⟩ | ⟨id,hj,rfl⟩ | ⟨t,hj,rfl⟩
   ·rw[hj]at h2 h3 |-;exact wpIn_ret ⟨rfl,h2,h3⟩
   ·rw[hj]at h2 h3 |-;exact wpIn_exit ⟨rfl,h2,h3⟩
   ·rw[hj]at h2 h3 |-;exact wpIn_goto ⟨rfl,h2,h3⟩
theorem UP {P:Program} {B:Base} {Q:Exit->DS->Prop} {s:DS} {gt nt:Nat} {ps:Array Tmp} {assign body:Code} {f:FuncId} {us cs:List DVal} {xs:List (List DVal)} {ok:Nat->Bool} (ρ ν:List (Nat×Nat)) (sl:List (Nat×DVal)) (S Z:Nat->List Ent) (jc:Nat->Code) (T:List Ent) (e0:Exit)
  (hI:BN_ P f us cs xs ok) (hB:B.nt=nt/\B.ro=none) (hsl:Jp sl<=1) (vU:AH us=0/\AH cs=0) (hgt:(gt,.fn (.func f) us cs)∈sl) (mN:∀x∈xs,x.length=ps.size/\AH x=0) (hpn:∀p∈ps.toList,p<nt)
  (wU:Km s.own (BJ s.own (DC ρ)) (DC ρ)=some (S 0)/\Uf s.own ρ/\(TN (sl.map fun p=>Be s.slots p.1)/\uG ((sl.map fun p=>Be s.slots p.1).map (Gu (BJ s.own (DC ρ)))) (sl.map (·.2)))/\(((ρ++ν).map (·.1)).Nodup/\(ρ.map (·.2)).Nodup))
  (round:∀k x,xs[k]? =some x->(∀j,j<k->ok j=true)->∀B:Base,B.nt=nt->DW P B assign (RA P nt body (ok k) (if ok k then S (k+1)else Z k) (jc k)) ⟨Rh ps.toList x sl,S k⟩)
  (hT:match Cw ok xs.length with | none=>e0= .normal/\T=S xs.length | some k=>(jc k= .ret/\e0= .ret\/(∃id,jc k= .exit id/\e0= .exit id)\/(∃t,jc k= .goto t/\e0= .goto t))/\T=Z k)
  (hTo:TM T)
  (hk:∀r,match Hn (Dn s.own ρ ν r) T with
   | some l=>((Bc s.own ((ρ++ν).map (·.1))++l).map (·.id)).Nodup/\Q e0 ⟨s.slots,Bc s.own ((ρ++ν).map (·.1))++l⟩
   | none=>False):DW P B (.rangeFunc (.tmp gt) ps assign body) Q s:=by
 intro a w loc R;have h:=hk (BU B s)
 split at h
 rotate_left
 ·exact h.elim
 rename_i l hl;obtain⟨hnd,hQ⟩:=h
 have hC:∀vs w (R R':Value->World->Prop),(∀v w',R v w'->R' v w')->Aq_ P (.rangeFunc (.tmp gt) ps assign body) (sl.map (·.1)) nt e0 vs w R->Aq_ P (.rangeFunc (.tmp gt) ps assign body) (sl.map (·.1)) nt e0 vs w R' :=
  fun vs w R R' h hc a h1 h2=>wpIn_mono (hc a h1 h2) (fun e a' w' ⟨k1,k2,k3⟩=>⟨k1,k2,h _ _ k3⟩)
 have hS:=Yp hC ρ ν (rS hsl hI vU hgt mN hpn round hT) wU.1 wU.2.1 wU.2.2.1 wU.2.2.2 hl hTo (by simp[TO,VL]) hnd;have qB:BU B s=max B.N (max (Jp s.slots) (FZ s.own)):=rfl
 have hw:=hS B.M0 w loc ((sl.map fun p=>a.tmps.getD p.1 Go.undef).toArray) (by omega) R.st (by
  have key:∀l:List (Nat×DVal),Au (Ad s.own loc) (Aa s.own loc++B.M0) w.heap (l.map fun p=>Be s.slots p.1) (l.map fun p=>a.tmps.getD p.1 Go.undef):=by
   intro l
   induction l with
   | nil=>simp[Au]
   | cons p l ih=>simp only[List.map_cons,Au];exact⟨_,_,rfl,R.sl p.1,ih⟩
  simpa using key sl) a (by simp) (by rw[R.nt];exact hB.1)
 rw[hB.2];refine wpIn_mono hw ?_;rintro e a' w' ⟨rfl,⟨D,rfl,hD1,mR⟩,loc',St',hu,wZ,vC,_⟩;have R':=R.step (dst:=none) (v:=Go.undef) (d:= .any) (n:=BU B s) (by omega) (by omega) (fun i hi=>by simp at hi) St' hu wZ vC (by simp[rd]);refine⟨_,loc',hQ,⟨R'.st,R'.upd,R'.new,R'.ver,R'.sl,R'.nt,?_⟩⟩;obtain⟨rs,h1,h2,h3,h4⟩:=R.df;obtain⟨rs',g1,g2,g3,g4⟩:=R'.df;have mU:∀r∈rs,r<w.heap.size:=fun r hr=>(aC0.1 (h3 r hr).1).1
 refine⟨D::rs,by simp[h1],?_,?_,fun h=>absurd hB.2 h⟩
 ·rw[cH0];exact⟨fun hm=>by have:=mU D hm;omega,h2⟩
 ·intro r hr
  rcases aJ0.1 hr with rfl | hr
  ·refine⟨mR,Nat.le_trans B.hnd (Nat.le_trans R.upd.size hD1),fun hm=> ?_⟩
   rcases aI0.1 hm with hm | hm
   ·obtain⟨e,he,hb⟩:=bQ0.1 hm;exact Aa_ (St'.ok e he) _ hb _ mR
   ·have:=R.st.lt r (aP0 _ hm);omega
  ·obtain⟨k1,k2,k3⟩:=h3 r hr;have qV:=mU r hr;refine⟨?_,k2,fun hm=> ?_⟩
   ·rw[hu.blk r qV (fun hm=>k3 (aL0 _ hm))];exact k1
   ·rcases aI0.1 hm with hm | hm
    ·rcases wZ r hm with h | h
     ·exact k3 (aL0 _ h)
     ·omega
    ·exact k3 (aP0 _ hm)
def yOK (own:List Ent) (id r' l:Nat) (A:Abs):Prop:=match Aj own id,Aj own (id+1)with
 | some e0,some e=>e0.r=r'/\e0.obj= .abs (yH l)/\e.obj= .abs A
 | _,_=>False
theorem LM {P:Program} {id r' l:Nat} {args:List DVal} {own:List Ent} {K:ContE} {A A':Abs} {b:Bool} (hY:YAt P l A args b A') (wU:yOK own id r' l A/\AH args=0)
  (hk:∀r,K.f (.bool b) (upE own (id+1) r (.abs A'))):Bl_ P id r' args own K:=by
 obtain⟨h,hm⟩:=wU;unfold yOK at h
 split at h
 ·rename_i e0 e h1 h2;exact⟨e0,l,e,A,A',b,h1,h.1,h.2.1,h2,h.2.2,hm,hY,hk⟩
 ·exact h.elim
theorem Iq {ok:Nat->Bool}:∀{n k:Nat},k<n->(∀j,j<k->ok j=true)->ok k=false->Cw ok n=some k
 | n+1,k,hk,hj,ho=>by
  simp only[Cw]
  by_cases h:k<n
  ·rw[Iq h hj ho]
  ·have:k=n:=by omega
   subst this
   have:Cw ok k=none:=by
    have key:∀m,m<=k->Cw ok m=none:=by
     intro m
     induction m with
     | zero=>intro _;rfl
     | succ m ih=>intro hm;simp only[Cw,ih (by omega),hj m (by omega),if_true]
    exact key k (Nat.le_refl _)
   rw[this,ho];rfl
theorem Ir {ok:Nat->Bool}:∀{n:Nat},(∀j,j<n->ok j=true)->Cw ok n=none
 | 0,_=>rfl
 | n+1,hj=>by simp only[Cw,Ir (n:=n) (fun j h=>hj j (by omega)),hj n (by omega),if_true]
attribute [simp] yOK RA RQ Rh
end Go.Dm
end
section
namespace Go.Proofs.Wy
open Go Go.Dm Tryz
variable [DMode]
attribute [local irreducible] DW Bm Bq Bl_ RB Dm.Sub
set_option maxRecDepth 100000
def Co (x:Nd):Bool:=decide (x.k=2)||decide (x.k=3)
def xZ (l:List Nd) (j:Nat):Option (Nat×ByteArray):=match l[j]? with
 | some p=>if Co p=true then some (j,p.s)else none
 | none=>none
def Cl (l:List Nd) (n:Nat):List (Nat×ByteArray):=(List.range n).filterMap (xZ l)
def Ur (x:Nat×ByteArray):List DVal:=[.int .i64 x.1,.str x.2]
theorem Kn {l:List Nd} {n:Nat} {p:Nd} (h:l[n]? =some p):Cl l (n+1)=Cl l n++(if Co p=true then [(n,p.s)]else []):=by
 simp only[Cl,List.range_succ,List.filterMap_append,List.filterMap_cons,List.filterMap_nil,xZ,h]
 by_cases hp:Co p=true<;>simp[hp]
theorem VM {l:List Nd} {n m:Nat} (h:n<=m):∃r,Cl l m=Cl l n++r:=by
 obtain⟨d,rfl⟩:∃d,m=n+d:=⟨m-n,by omega⟩;exact⟨((List.range d).map (n+ ·)).filterMap (xZ l),by simp only[Cl,List.range_add,List.filterMap_append]⟩
theorem VO {l:List Nd} {n m:Nat} {p:Nd} (h:l[n]? =some p) (hp:Co p=true) (hm:n<m):(Cl l m)[(Cl l n).length]? =some (n,p.s):=by
 obtain⟨r,hr⟩:=VM (l:=l)  (show n+1<=m from hm);rw[hr,Kn h,if_pos hp];simp
theorem VN {l:List Nd} {n m:Nat} {p:Nd} (h:l[n]? =some p) (hp:Co p=true) (hm:n<m):(Cl l n).length<(Cl l m).length:=(aG0.1 (VO h hp hm)).1
def iY : Ann:=⟨[],[]⟩
def Jy : Ann:=⟨[5],[]⟩
theorem Nx (l:List Nd):Ae prog 66 [Bl l] (Bl l):=by
 match l with
 | [] =>
  refine Yw [] ?_ ?_
  ·refine Ac [7] iY func66 call66 ntmps66 mxd (Ar @iY.eq_1 results66) rfl (fun qJ B qX qQ=> ?_) (hd:=(by simp[mx,Bo]));simp only[Ak,List.nil_append,Bl,List.map_cons];exact Aw Ab Ab Ab
  ·refine Ac [7,5] Jy func66 call66 ntmps66 mxd (Ar @Jy.eq_1 results66) rfl (fun qJ B qX qQ=> ?_) (hd:=(by simp[mx,Bo]));simp only[Ak,List.nil_append,Bl,List.map_cons];exact Aw Ab Ab Ab
 | s::l =>
  refine Ac [7,5] Jy func66 call66 ntmps66 mxd (Ar @Jy.eq_1 results66) rfl (fun qJ B qX qQ=> ?_) (hd:=(by simp[mx,Bo]));have qF:(s::l).length*32<=150000000000000:=by have:=qJ.1;simp only[EX,aO0]at this;exact this.1
  clear qJ;have z2:(s::l).length<=9223372036854775807:=by omega
  simp only[List.length_cons]at qF z2;simp only[Ak,List.nil_append,Bl,List.map_cons];exact Aw Ab Ab (Ar qF z2)
def Hs : Ann:=⟨[25],[⟨2,[4],[],[]⟩]⟩
theorem TS (l:List Nd) (ok:Nat->Bool):BN_ prog 160 [] [.ref [Bl l]] ((Cl l l.length).map Ur) ok:=by
 intro lb A Z hY;refine BI [] [(0,0,0),(1,1,1)] Hs func160 call160 ntmps160 mxd (Ar @Hs.eq_1 results160) rfl (fun qJ B qX qQ=> ?_);have fG:l.length<9223372036854775807:=Oq (by simpa[JP,EX]using qJ);clear qJ;simp only[Ak,List.nil_append]
 (refine AX Ab Ab Ab ?_;intros;refine Am ?_)
 refine Al (X:={k:Nat//k<=l.length/\∀j,j<(Cl l k).length->ok j=true}) (fun k=>⟨[(0,.pk 0 0),(5,Bl l),(6,.int .i64 l.length),(7,.int .i64 k.1)],[⟨0,0,.abs (yH lb)⟩,⟨1,1,.abs (A (Cl l k.1).length)⟩]⟩) (fun k=>l.length-k.1) ⟨0,by simp[Cl]⟩ (Sub.lit (by simp[Cl])) ?_;rintro⟨k,hk,hj⟩
 by_cases qV:k<l.length
 ·obtain⟨p,hp,zS,gO⟩:=Ax qV;have hs:=Kn hp
  by_cases hh:Co p=true
  ·have hx:=hY (Cl l k).length (Ur (k,p.s)) (by rw[bM0,VO hp hh qV];rfl) hj;rw[if_pos hh]at hs;have hkd:p.k=2\/p.k=3:=by unfold Co at hh;simpa using hh
   have fL:∀j,j<(Cl l (k+1)).length->ok (Cl l k).length=true->ok j=true:=by
    rw[hs];intro j kE qW;simp at kE
    by_cases hjk:j=(Cl l k).length
    ·subst hjk;exact qW
    ·exact hj j (by omega)
   rcases hkd with hkd | hkd
   ·(refine AX Ab Ab (Mj @BM.eq_1 qV hp zS hkd) ?_;intros;refine Am ?_)
    cases qW:ok (Cl l k).length
    ·rw[qW]at hx;refine LM hx (by simp[Ur]) (fun r=> ?_);have qK:=Iq (VN hp hh qV) hj qW;simp[qX,results160,Hs,qK];exact Aw Ab Ab (AJ qK)
    ·rw[qW]at hx;refine LM hx (by simp[Ur]) (fun r=> ?_);simp[qX,results160,Hs]
     (refine AX Ab Ab Ab ?_;intros;refine Am ?_)
     refine An.mk ⟨k+1,by omega,fun j kE=>fL j kE qW⟩ (Sub.lit (by simp[hs])) (by simp;omega)
     skip
   ·(refine AX Ab Ab (Mj @BM.eq_1 qV hp zS hkd) ?_;intros;refine Am ?_)
    cases qW:ok (Cl l k).length
    ·rw[qW]at hx;refine LM hx (by simp[Ur]) (fun r=> ?_);have qK:=Iq (VN hp hh qV) hj qW;simp[qX,results160,Hs,qK];exact Aw Ab Ab (AJ qK)
    ·rw[qW]at hx;refine LM hx (by simp[Ur]) (fun r=> ?_);simp[qX,results160,Hs]
     (refine AX Ab Ab Ab ?_;intros;refine Am ?_)
     refine An.mk ⟨k+1,by omega,fun j kE=>fL j kE qW⟩ (Sub.lit (by simp[hs])) (by simp;omega)
     skip
  ·rw[if_neg hh,bX0]at hs;have h2:¬p.k=2:=fun e=>hh (by unfold Co;simp[e])
   have h3:¬p.k=3:=fun e=>hh (by unfold Co;simp[e])
   have kH:(p.k==2)=false:=by simpa using h2
   have h3':(p.k==3)=false:=by simpa using h3
   (refine AX Ab Ab (Mi @BM.eq_1 qV hp zS h2 h3 kH h3') ?_;intros;refine Am ?_)
   refine An.mk ⟨k+1,by omega,by rw[hs];exact hj⟩ (Sub.lit (by simp[hs])) (by simp;omega)
   skip
 ·have qZ:k=l.length:=by omega
  subst qZ;have qK:=Ir hj;exact Aw Ab Ab (AJ qK)
def XN : Ann:=⟨[1],[⟨1,[1],[],[]⟩]⟩
theorem TT (l:List Nd):Ae prog 107 [Bl l] (.fn (.func 160) [] [.ref [Bl l]]):=by
 refine Ac [] XN func107 call107 ntmps107 mxd (Ar @XN.eq_1 results107) rfl (fun qJ B qX qQ=> ?_) (hd:=(by simp[mx,AH]));clear qJ;simp only[Ak];have h1:=Nx l;exact Aw (AJ h1) Ab Ab
def EP (l:List Nd):Nat:=(Cl l l.length).length
def iZ : Ann:=⟨[],[]⟩
theorem Pp (l:List Nd):Ae prog 57 [Bl l] (.int .i64 (EP l)):=by
 refine Ac [] iZ func57 call57 ntmps57 mxd (Ar @iZ.eq_1 results57) rfl (fun qJ B qX qQ=> ?_);have fG:=Oq qJ.1;clear qJ;simp only[Ak];have h1:=TT l
 (refine AX (AJ h1) Ab Ab ?_;intros;refine Am ?_)
 have hI:=TS l (fun _=>true);have qK:Cw (fun _:Nat=>true) (Cl l l.length).length=none:=Ir fun _ _=>rfl
 have hocc:∀x∈(Cl l l.length).map Ur,x.length=2/\AH x=0:=by
  intro x hx;obtain⟨y,_,rfl⟩:=aR0.1 hx;exact⟨rfl,by simp[Ur,mx]⟩
 have qU:(Cl l l.length).length<=l.length:=by
  simp only[Cl];exact Nat.le_trans (List.length_filterMap_le _ _) (by simp)
 refine UP (nt:=11) [(3,3)] [] [(0,Bl l),(3,.bx 3 0 0),(5,.fn (.func 160) [] [.ref [Bl l]])]
  (fun k=>[⟨3,0,.box [.int .i64 (k:Int)]⟩]) (fun k=>[⟨3,0,.box [.int .i64 (k:Int)]⟩]) (fun _=> .ret) [⟨3,0,.box [.int .i64 (EP l:Int)]⟩] .normal
  hI (by simp[qX]) (by simp[Jp]) (by simp) (bU0 (i:=2) rfl) hocc (by simp) ?_ ?_ ?_ ?_ ?_
 ·simp
 ·intro k x hx hj B1 qX;rw[bM0,bA0]at hx;obtain⟨⟨j,s⟩,hy,rfl⟩:=hx;have wH:k<(Cl l l.length).length:=(aG0.1 hy).1;have hw:IntKind.i64.wrap ((k:Int)+1)=(k:Int)+1:=wq;simp only[Array.toList,Rh]
  (refine AX Ab Ab Ab ?_;intros;refine Am ?_)
  refine FI_ fun B2 qX=> ?_
  (refine AX Ab Ab (Ar @Ur.eq_1 hw) ?_;intros;refine Am ?_)
  refine Sub.lit ?_;simp
 ·simp only[aO0,qK];exact⟨trivial,rfl⟩
 ·simp
 ·intro r;simp;exact Aw Ab Ab Ab
end Go.Proofs.Wy
end
section
namespace Go.Proofs.Wy
open Go Go.Dm Tryz
variable [DMode]
attribute [local irreducible] DW Bm Bq
set_option maxRecDepth 100000
def XB : Ann:=⟨[],[]⟩
theorem xQ (a b c:Int):Ae prog 112 [.sl 1 8 [[.int .i64 a],[.int .i64 b],[.int .i64 c]]] (.int .i64 (if a=0 then (if b=0 then c else b)else a)):=by
 refine Ac [] XB func112 call112 ntmps112 mxd (Ar @XB.eq_1 results112) rfl (fun qJ B qX qQ=> ?_);simp only[Ak]
 (refine AX Ab Ab Ab ?_;intros;refine Am ?_)
 refine Al (X:={k:Nat//k<=3/\(0<k->a=0)/\(1<k->b=0)/\(2<k->c=0)}) (fun k=>⟨[(3,.int .i64 0),(6,.sl 1 8 [[.int .i64 a],[.int .i64 b],[.int .i64 c]]),(7,.int .i64 3),(8,.int .i64 k.1)],[]⟩) (fun k=>3-k.1) ⟨0,by simp⟩ (Sub.lit (by simp)) ?_;rintro⟨k,hk,ha,hb,hc⟩
 match k,hk,ha,hb,hc with
 | 0,_,_,_,_ =>
  by_cases h:a=0
  ·(refine AX Ab Ab (AJ h) ?_;intros;refine Am ?_)
   refine An.mk ⟨1,by simp[h]⟩ (Sub.lit (by simp)) (by simp)
   skip
  ·have h':(a != 0)=true:=by simpa using h
   exact Aw Ab Ab (Ar h h')
 | 1,_,ha,_,_ =>
  have ha:=ha (by omega)
  by_cases h:b=0
  ·(refine AX Ab Ab (AJ h) ?_;intros;refine Am ?_)
   refine An.mk ⟨2,by simp[h,ha]⟩ (Sub.lit (by simp)) (by simp)
   skip
  ·have h':(b != 0)=true:=by simpa using h
   exact Aw Ab Ab (GE h h' ha)
 | 2,_,ha,hb,_ =>
  have ha:=ha (by omega);have hb:=hb (by omega)
  by_cases h:c=0
  ·(refine AX Ab Ab (AJ h) ?_;intros;refine Am ?_)
   refine An.mk ⟨3,by simp[h,ha,hb]⟩ (Sub.lit (by simp)) (by simp)
   skip
  ·have h':(c != 0)=true:=by simpa using h
   exact Aw Ab Ab (Ik h h' ha hb)
 | 3,_,ha,hb,hc =>
  have ha:=ha (by omega);have hb:=hb (by omega);have hc:=hc (by omega);exact Aw Ab Ab (GE ha hb hc)
def Ct {α:Type} (e:α->α->Bool) (p:α):List α->List α
 | []=>[]
 | y::l=>if e y p then Ct e y l else y::Ct e y l
def CA {α:Type} (e:α->α->Bool):List α->List α
 | []=>[]
 | x::l=>x::Ct e x l
theorem Nv {α:Type} {e:α->α->Bool} {y:α}:∀{l:List α} {p:α},Ct e p (l++[y])=Ct e p l++(if e y (l.getLast?.getD p)then []else [y])
 | [],p=>by by_cases h:e y p<;>simp[Ct,h]
 | x::l,p=>by
  have h:=Nv (e:=e) (y:=y) (l:=l) (p:=x)
  have h2:(x::l).getLast?.getD p=l.getLast?.getD x:=by
   cases l with
   | nil=>rfl
   | cons z l=>simp[List.getLast?_cons_cons,List.getLast?_eq_some_getLast]
  rw[h2];simp only[List.cons_append,Ct]
  split
  ·exact h
  ·rw[h];rfl
theorem Qt {α:Type} {e:α->α->Bool} {l:List α} {k:Nat} {x y:α} (h0:0<k) (hx:l[k-1]? =some x) (hy:l[k]? =some y):CA e (l.take (k+1))=CA e (l.take k)++(if e y x then []else [y]):=by
 rw[bP0,hy]
 obtain⟨z,t,hz⟩:∃z t,l.take k=z::t:=by
  cases h:l.take k with
  | nil =>
   have h1:=congrArg List.length h;have:=(aG0.1 hy).1;rw[bD0]at h1;simp only[List.length_nil]at h1;omega
  | cons z t=>exact⟨z,t,rfl⟩
 have hl:(l.take k).getLast?=some x:=by
  rw[List.getLast?_eq_getElem?,eK0];have:=(aG0.1 hy).1;simp only[bD0];rw[show min k l.length-1=k-1 by omega,if_pos (by omega)];exact hx
 rw[hz]at hl |-
 have h2:t.getLast?.getD z=x:=by
  cases t with
  | nil=>simpa using hl
  | cons a t=>simpa[List.getLast?_cons_cons,List.getLast?_eq_some_getLast]using hl
 simp only[Option.toList_some,List.cons_append,CA,Nv,h2]
def GB (a b:Int):Int:=if a<b then -1 else if b<a then 1 else 0
def Xz : Ann:=⟨[],[]⟩
theorem EA (n:Int):Ae prog 172 [.int .i64 n] (.bool false):=by
 refine Ac [] Xz func172 call172 ntmps172 mxd (Ar @Xz.eq_1 results172) rfl (fun qJ B qX qQ=> ?_);simp only[Ak];exact Aw Ab Ab Ab
def XA : Ann:=⟨[],[]⟩
theorem IY (a b:Int):Ae prog 113 [.int .i64 a,.int .i64 b] (.int .i64 (GB a b)):=by
 refine Ac [] XA func113 call113 ntmps113 mxd (Ar @XA.eq_1 results113) rfl (fun qJ B qX qQ=> ?_);simp only[Ak]
 by_cases h1:a<b
 ·exact Aw (Ar (EA a) (EA b)) Ab (Ar h1 @GB.eq_1)
 ·by_cases h2:b<a
  ·exact Aw (Ar (EA a) (EA b)) Ab (GE h1 h2 @GB.eq_1)
  ·exact Aw (Ar (EA a) (EA b)) Ab (GE h1 h2 @GB.eq_1)
def Mm (x y:Sym):Int:=if x.label=y.label then GB x.n y.n else if x.label then 1 else -1
end Go.Proofs.Wy
end
section
namespace Go.Proofs.Wy
open Go Go.Dm Tryz
variable [DMode]
structure Arc where
 fr:Int
 sy:Sym
 to:Int
 deriving DecidableEq
def Cs (x:Arc):List DVal:=[.int .i64 x.fr,.bool x.sy.label,.int .i64 x.sy.n,.int .i64 x.to]
abbrev FS (l:List Arc):DVal:= .sl 4 32 (l.map Cs)
def Qn (n:Int):List DVal:=[.int .i64 n]
abbrev Gk (l:List Int):DVal:= .sl 1 8 (l.map Qn)
def dBl (b:Bool):List DVal:=[.bool b]
structure Auto where
 st:Int
 fin:List Int
 arcs:List Arc
 deriving DecidableEq
def FQ (a:Auto):List DVal:=[.int .i64 a.st,Gk a.fin,FS a.arcs]
@[simp] theorem CK_ (s:Arc):AH (Cs s)=0:=by simp[Cs,AH,mx]
@[simp] theorem Ai_ (l:List Arc):Bo (l.map Cs)=0:=Ie _ CK_ l
@[simp] theorem CI_ (s:Int):AH (Qn s)=0:=by simp[Qn,AH,mx]
@[simp] theorem Af_ (l:List Int):Bo (l.map Qn)=0:=Ie _ CI_ l
@[simp] theorem Ef_ (s:Bool):AH (dBl s)=0:=by simp[dBl,AH,mx]
@[simp] theorem CJ_ (l:List Bool):Bo (l.map dBl)=0:=Ie _ Ef_ l
@[simp] theorem Ah_ (a:Auto):AH (FQ a)=0:=by simp[FQ,AH,mx]
theorem Au_ {l:List Int} (h:EX (Gk l)):l.length<9223372036854775807:=by
 simp only[EX,aO0]at h;omega
def stB (s q:Int):Bool:=decide (0<=q)&&decide (q<s)
def okF (s:Int) (l:List Int) (k:Nat):Bool:=match l[k]? with
 | none=>true
 | some q=>stB s q&&(decide (k=0)||match l[k-1]? with | none=>true | some p=>decide (p<q))
theorem xT {s:Int} {l:List Int} {q:Int} (h:l[0]? =some q):okF s l 0=stB s q:=by
 unfold okF;rw[h];simp
theorem Cr_ {s:Int} {l:List Int} {k:Nat} {p q:Int} (hk:0<k) (h:l[k]? =some q) (hp:l[k-1]? =some p):okF s l k=(stB s q&&decide (p<q)):=by
 unfold okF;rw[h];simp only[hp,show ¬k=0 by omega,decide_false,Bool.false_or]
def Gd (x y:Arc):Int:=if GB x.fr y.fr=0 then (if Mm x.sy y.sy=0 then GB x.to y.to else Mm x.sy y.sy)else GB x.fr y.fr
def Tm (x y:Sym):Bool:=if x.label=y.label then decide (x.n<y.n)else y.label
def Fo (x y:Arc):Bool:=if x.fr=y.fr then (if x.sy=y.sy then decide (x.to<y.to)else Tm x.sy y.sy)else decide (x.fr<y.fr)
theorem MP {a b:Int}:GB a b=0↔a=b:=by unfold GB;split<;>(try split)<;>omega
theorem Qv {a b:Int}:GB a b<0↔a<b:=by unfold GB;split<;>(try split)<;>omega
theorem RJ {x y:Sym}:Mm x y=0↔x=y:=by
 obtain⟨a,n⟩:=x;obtain⟨b,m⟩:=y;unfold Mm;cases a<;>cases b<;>simp[MP]
theorem YL (x y:Sym):Tm x y=decide (Mm x y<0):=by
 obtain⟨a,n⟩:=x;obtain⟨b,m⟩:=y;unfold Mm Tm;cases a<;>cases b<;>simp[Qv]
theorem QI (x y:Arc):Fo x y=decide (Gd x y<0):=by
 unfold Fo Gd
 by_cases h1:x.fr=y.fr
 ·rw[if_pos h1,if_pos (MP.2 h1)]
  by_cases h2:x.sy=y.sy
  ·rw[if_pos h2,if_pos (RJ.2 h2)];exact decide_eq_decide.2 Qv.symm
  ·rw[if_neg h2,if_neg (fun h=>h2 (RJ.1 h)),YL]
 ·rw[if_neg h1,if_neg (fun h=>h1 (MP.1 h))];exact decide_eq_decide.2 Qv.symm
def SP (s:Int) (x:Arc):Bool:=stB s x.fr&&(stB s x.to&&decide (0<=x.sy.n))
def okA (s:Int) (l:List Arc) (k:Nat):Bool:=match l[k]? with
 | none=>true
 | some q=>SP s q&&(decide (k=0)||match l[k-1]? with | none=>true | some p=>Fo p q)
theorem xU {s:Int} {l:List Arc} {q:Arc} (h:l[0]? =some q):okA s l 0=SP s q:=by
 unfold okA;rw[h];simp
theorem Cs_ {s:Int} {l:List Arc} {k:Nat} {p q:Arc} (hk:0<k) (h:l[k]? =some q) (hp:l[k-1]? =some p):okA s l k=(SP s q&&Fo p q):=by
 unfold okA;rw[h];simp only[hp,show ¬k=0 by omega,decide_false,Bool.false_or]
def GC (a:Auto):Bool:=decide (1<=a.st)&&decide (a.st<=65)&&((List.range a.fin.length).all (okF a.st a.fin)&&(List.range a.arcs.length).all (okA a.st a.arcs))
theorem Pj {a:Auto} (h:GC a=true):1<=a.st/\a.st<=65:=by
 unfold GC at h;simp only[aN0,decide_eq_true_eq]at h;exact h.1
theorem Pk {a:Auto} (h:GC a=true) {x:Arc} (hx:x∈a.arcs):0<=x.fr/\x.fr<a.st/\0<=x.to/\x.to<a.st:=by
 unfold GC at h;simp only[aN0,bB0]at h;obtain⟨k,hk,rfl⟩:=bW0 hx;have:=h.2.2 k (dQ0.2 hk);unfold okA SP stB at this;rw[aD0 hk]at this;simp only[aN0,decide_eq_true_eq]at this;exact⟨this.1.1.1,this.1.1.2,this.1.2.1.1,this.1.2.1.2⟩
def bD (l:List Bool):List (List DVal):=l.map dBl
@[simp] theorem GE_ (l:List Bool):Bo (bD l)=0:=CJ_ l
end Go.Proofs.Wy
end
