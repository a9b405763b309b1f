/- Parts of a proof, laid together: EnX, RX5, WC1, WC2, BX0. -/
import Derived.RangeFuncNested
import Derived.Test.YtiojapdolljocaaGreatqBw15
import Derived.Test.YtiojapdolljocaaGreatqBw17
set_option linter.unusedSimpArgs false
set_option maxHeartbeats 8000000
set_option linter.unusedVariables false
set_option linter.unusedSectionVars false
section
namespace Go.Dm
variable [DMode]
def Cx (ok:Nat->Bool):Nat->Option Nat
 | 0=>none
 | n+1=>match Cx ok n with
  | some k=>some k
  | none=>if ok n then none else some n
def Ci_ (P:Program) (f:FuncId) (us cs:List DVal) (xs:List (List DVal)) (ok:Nat->Bool):Prop :=
 ∀(l:Nat) (A Z:Nat->Abs),(∀k x,xs[k]? =some x->(∀j,j<k->ok j=true)->YAt P l (A k) x (ok k) (if ok k then A (k+1)else Z k)) ->
  Bl P (.func f) (us++ .pk 0 0::cs) [⟨0,0,.abs (yH l)⟩,⟨1,0,.abs (A 0)⟩] (.tup []) [⟨0,0,.abs (yH l)⟩,⟨1,1,.abs (match Cx ok xs.length with | none=>A xs.length | some k=>Z k)⟩]
def AK_ (P:Program) (c:Code) (idx:List Nat) (nt:Nat) (e0:Exit):DG_:=fun vs w R=>∀a:Act,idx.map (fun i=>a.tmps.getD i Go.undef)=vs.toList->a.tmps.size=nt ->
 c.wpIn (wd none) 0 P (fun e a' w'=>e=e0/\(∃D,a'={ a with defers:={ target:= .collected D,args:= #[] }::a.defers }/\w.heap.size<=D/\w'.heap[D]? =some (.deferred (some [])))/\R (.tuple #[]) w') a w
theorem iK {cur:EF} {M:List Nat} {h:Array Obj} {f:Nat->Value}:∀{sl:List (Nat×DVal)},Aw cur M h (sl.map (·.2)) (sl.map fun p=>f p.1)->∀p∈sl,rd cur M h p.2 (f p.1)
 | [],_,p,hp=>by cases hp
 | q::sl,hr,p,hp=>by
  simp only[List.map_cons,Aw]at hr;obtain⟨v,r,he,h1,h2⟩:=hr;simp only[bF0]at he;obtain⟨rfl,rfl⟩:=he
  rcases aL0.1 hp with rfl | hp
  ·exact h1
  ·exact iK h2 p hp
theorem sS {P:Program} {gt nt:Nat} {ps:Array Tmp} {assign body:Code} {f:FuncId} {us cs:List DVal} {xs:List (List DVal)} {ok:Nat->Bool} {sl:List (Nat×DVal)} {S Z:Nat->List Ent} {jc:Nat->Code} {T:List Ent} {e0:Exit}
  (hsl:JK sl<=1) (hI:Ci_ P f us cs xs ok) (vY:AJ us=0/\AJ cs=0) (hgt:(gt,.fn (.func f) us cs)∈sl) (mY:∀x∈xs,x.length=ps.size/\AJ x=0) (hpn:∀p∈ps.toList,p<nt)
  (round:∀k x,xs[k]? =some x->(∀j,j<k->ok j=true)->∀B:Base,B.nt=nt->DW P B assign (RA P nt body (ok k) (if ok k then S (k+1)else Z k) (jc k)) ⟨RV ps.toList x sl,S k⟩)
  (hT:match Cx ok xs.length with | none=>e0= .normal/\T=S xs.length | some k=>(jc k= .ret/\e0= .ret\/(∃id,jc k= .exit id/\e0= .exit id)\/(∃t,jc k= .goto t/\e0= .goto t))/\T=Z k) :
  Cp_ (AK_ P (.rangeFunc (.tmp gt) ps assign body) (sl.map (·.1)) nt e0) (sl.map (·.2)) (S 0) (.tup []) T:=by
 intro M w loc vs St0 hr a wI qX
 have jN:∀p∈sl,rd (Ab (S 0) loc) (Aa (S 0) loc++M) w.heap p.2 (a.tmps.getD p.1 Go.undef):=by
  refine iK (f:=fun i=>a.tmps.getD i Go.undef) ?_;rw[<-wI,cA0]at hr;exact hr
 have hg:=jN _ hgt;simp only[rd]at hg;obtain⟨us',cs',hv,vO,kN⟩:=hg;refine wpIn_rangeFunc ?_;intro fn hfn;obtain⟨rec,zY⟩:∃rec:Loop,rec={ state:= .ready,pending:=none,fn,tmps:=a.tmps,params:=ps,assign,body,defers:=w.heap.size }:=⟨_,rfl⟩;obtain⟨W1,mH⟩:∃W1,W1=(w.alloc (.deferred (some []))).alloc (.loop rec):=⟨_,rfl⟩;obtain⟨l,hl⟩:∃l,l=w.heap.size+1:=⟨_,rfl⟩;have hsz1:W1.heap.size=w.heap.size+2:=by rw[mH];simp
 have bK:∀b,b<w.heap.size->W1.heap[b]? =w.heap[b]? :=by
  intro b hb;rw[mH];simp only[World.alloc,bP0,Array.size_push];rw[if_neg (by omega),if_neg (by omega)]
 have hD1:W1.heap[w.heap.size]? =some (.deferred (some [])):=by
  rw[mH];simp only[World.alloc,bP0,Array.size_push];rw[if_neg (by omega)];simp
 have jV:W1.heap[l]? =some (.loop rec):=by
  rw[mH,hl];simp only[World.alloc,bP0,Array.size_push];simp
 have vK:=run_enterLoop_outer (P:=P) (w:=w) fn a.tmps ps assign body;rw[<-zY,<-mH,<-hl]at vK
 let A:Nat->Abs:=fun k=>uZ sl hsl (S k) a.tmps (S 0) loc l rec
 let Zs:Nat->Abs:=fun k=>uZ sl hsl (Z k) a.tmps (S 0) loc l { rec with state:= .done,pending:=some (jc k) }
 have hy:∀k x,xs[k]? =some x->(∀j,j<k->ok j=true)->YAt P l (A k) x (ok k) (if ok k then A (k+1)else Zs k):=by
  intro k x hx hj;have zJ:=mY x (bJ0 hx);have hY:=EI_ (hsl:=hsl) (own:=S k) (S:=if ok k then S (k+1)else Z k) (own0:=S 0) (loc0:=loc) (l:=l) (L:=rec) (tm:=a.tmps) (nt:=nt) (x:=x) (okk:=ok k) (j:=jc k) (by rw[zY]) (by rw[zY]) (by rw[zY]) qX (by rw[zY];exact zJ.1) (by rw[zY];exact hpn) zJ.2 (by rw[zY];exact round k x hx hj)
  cases hk:ok k with
  | true =>
   rw[hk]at hY;have e1:({ rec with state:=if true=true then .ready else .done,pending:=if true=true then none else some (jc k) }:Loop)=rec:=by rw[zY];rfl
   rw[e1]at hY;exact hY
  | false =>
   rw[hk]at hY;exact hY
 have hD:=hI l A Zs hy;have fE:∀b∈Aa (S 0) loc,b<w.heap.size:=fun b hb=>St0.lt b (aH0 _ hb)
 let loc1:Nat->Loc:=fun i=>if i=0 then ⟨[],.func (.yield l) #[] #[]⟩else ⟨Aa (S 0) loc++[l],.func (.yield l) #[] #[]⟩
 have zP:Aa [⟨0,0,.abs (yH l)⟩,⟨1,0,.abs (A 0)⟩] loc1=Aa (S 0) loc++[l]:=by simp[Aa,loc1]
 have W1w:∀n,Weak (Ab (S 0) loc) (Ab (S 0) loc) (Aa (S 0) loc++M) (Aa (S 0) loc++[l]++M) w.heap W1.heap n:=fun n =>
  ⟨fun _ _ _ _ h=>h,fun b o _ (_:Gh o=true) ho=>by rw[bK b (aD0.1 ho).1];exact ho,fun b o hb (_:Gh o=true) ho hm=>by
   have qV:=(aD0.1 ho).1;simp only[aC0,aG0]at hm hb
   rcases hm with (hm | hm) | hm
   ·exact hb (.inl hm)
   ·omega
   ·exact hb (.inr hm)⟩
 have St1:St [⟨0,0,.abs (yH l)⟩,⟨1,0,.abs (A 0)⟩] loc1 M W1.heap:=by
  refine⟨by simp,?_,?_,?_,?_⟩
  ·rw[zP,bS0];exact⟨St0.bl,by simp,fun b hb b' qL=>by simp only[aG0]at qL;have:=fE b hb;omega⟩
  ·rw[zP];intro b hb hm
   rcases aC0.1 hb with hb | hb
   ·exact St0.ap b hb hm
   ·simp only[aG0]at hb;have:=St0.lt b (aJ0 _ hm);omega
  ·rw[zP];intro b hb;simp only[aC0,aG0]at hb
   rcases hb with (hb | hb) | hb
   ·have:=fE b hb;omega
   ·omega
   ·have:=St0.lt b (aJ0 _ hb);omega
  ·intro e he;simp only[aL0,List.not_mem_nil,or_false]at he
   rcases he with rfl | rfl
   ·exact⟨rfl,rfl⟩
   ·refine⟨rfl,loc,rfl,St0.nd,fun e he=> ?_,fun p hp=> ?_,jV,fun e he _=>AG St0.nd he⟩
    ·rw[zP];exact Bd (W1w _) (Nat.le_refl _) (fun b o hb ho=>by rw[bK b (aD0.1 ho).1];exact ho) (St0.ok e he)
    ·rw[zP];exact Ch (W1w _) _ _ (Nat.le_refl _) (jN p hp)
 have W1z:Weak (Ab (S 0) loc) (Ab [⟨0,0,.abs (yH l)⟩,⟨1,0,.abs (A 0)⟩] loc1) (Aa (S 0) loc++M) (Aa [⟨0,0,.abs (yH l)⟩,⟨1,0,.abs (A 0)⟩] loc1++M) w.heap W1.heap 0:=by
  rw[zP];exact⟨fun _ _ _ h=>by omega,(W1w 0).b,(W1w 0).m⟩
 have jB:=hD.2.2 M W1 loc1 (us'++ #[.func (.yield l) #[] #[]]++cs') St1 (by
  have e1:(us'++ #[Value.func (.yield l) #[] #[]]++cs').toList=us'.toList++Value.func (.yield l) #[] #[]::cs'.toList:=by simp
  rw[e1];refine BV _ _ _ _ (AL W1z _ _ (cU0 vY.1) vO) ?_;simp only[Aw];refine⟨_,_,rfl,?_,AL W1z _ _ (cU0 vY.2) kN⟩;simp only[rd];intro lc hlc;have:Ab [⟨0,0,.abs (yH l)⟩,⟨1,0,.abs (A 0)⟩] loc1 0 0=some (loc1 0):=rfl;rw[this]at hlc;simp only[aA0]at hlc;rw[<-hlc]
  rfl)
 have yD:a.eval (.tmp gt)= .func (.func f) us' cs':=hv;refine⟨l,[{ target:= .collected w.heap.size,args:= #[] }],W1,{ target:= .fn (.func f) cs',args:=us'++ #[.func (.yield l) #[] #[]] },W1,f,us'++ #[.func (.yield l) #[] #[]]++cs',W1,vK,?_,fun _ _=>trivial,?_,fun h=>by simp[wd]at h,?_⟩
 ·simp only[resolve,rangeCall,yD];simp[Deferred.ofValue,Act.eval]
 ·simp only[invoke];exact jB.1 _ _
 ·refine(QZ none _ jB.2).mono ?_;rintro e w2 ⟨v,rfl,loc2,S2,hu,wZ,vD,_⟩;have hk:=S2.ok _ (aI0 _ aK0);have zA:=S2.ok _ aK0;have qH:(loc2 0).blks=[]:=zA.1
  -- what is known behind, by the loop's state
  have main:∀(L:Loop) (T':List Ent),(uZ sl hsl T' a.tmps (S 0) loc l L).J (Aa [⟨0,0,.abs (yH l)⟩,⟨1,1,.abs (match Cx ok xs.length with | none=>A xs.length | some k=>Zs k)⟩] loc2++M) (loc2 1).blks (loc2 1).hdr w2.heap->L.state≠ .busy ->
    (Instr.endLoop l).run P w2= .ok L.pending (w2.putObj l (.loop { L with state:= .exhausted }))/\(∃D,({ a with defers:=[{ target:= .collected w.heap.size,args:= #[] }]++a.defers }:Act)={ a with defers:={ target:= .collected D,args:= #[] }::a.defers }/\w.heap.size<=D/\(w2.putObj l (.loop { L with state:= .exhausted })).heap[D]? =some (.deferred (some []))) /\
    ∃loc',St T' loc' M (w2.putObj l (.loop { L with state:= .exhausted })).heap/\Upd (Aa (S 0) loc) w (w2.putObj l (.loop { L with state:= .exhausted }))/\(∀b∈Aa T' loc',b∈Aa (S 0) loc\/w.heap.size<=b) /\
     (∀e∈T',e.r<1->Ab (S 0) loc e.id e.r=some (loc' e.id))/\rd (Ab T' loc') (Aa T' loc'++M) (w2.putObj l (.loop { L with state:= .exhausted })).heap (.tup []) (.tuple #[]):=by
   rintro L T' ⟨_,loc3,yS,hnd3,hob3,hsl3,dN,hver3⟩ hbusy
   have zK:Aa [⟨0,0,.abs (yH l)⟩,⟨1,1,.abs (match Cx ok xs.length with | none=>A xs.length | some k=>Zs k)⟩] loc2=Aa T' loc3++[l]:=by
    simp[Aa,qH];simpa[Aa]using yS
   obtain⟨w4,bN⟩:∃w4,w4=w2.putObj l (.loop { L with state:= .exhausted }):=⟨_,rfl⟩;rw[<-bN];have qM:=run_endLoop (P:=P) dN hbusy;rw[<-bN]at qM;have mX:w4.heap.size=w2.heap.size:=by rw[bN];exact Fc _ _ _
   have kY:∀b,b≠l->w4.heap[b]? =w2.heap[b]? :=fun b hb=>by rw[bN];exact World.putObj_heap_other hb
   rw[zP]at hu
   have fP:l∉Aa T' loc3:=by
    have:=S2.bl;rw[zK,bS0]at this;exact fun hm=>this.2.2 l hm l (by simp) rfl
   refine⟨qM,⟨w.heap.size,rfl,Nat.le_refl _,?_⟩,loc3,?_,?_,?_,hver3,?_⟩
   ·rw[kY _ (by omega),hu.blk _ (by omega) (fun h=>by
     simp only[aC0,aG0]at h
     rcases h with h | h
     ·have:=fE _ h;omega
     ·omega)]
    exact hD1
   ·have yY:∀b∈Aa T' loc3,b∈Aa T' loc3++[l]:=fun b hb=>aH0 _ hb
    have hd4:∀(b:Nat) (o:Obj),Gh o=true->w2.heap[b]? =some o->w4.heap[b]? =some o:=by
     intro b o ho hb;rw[kY b (fun he=>by subst he;rw[dN]at hb;simp only[aA0]at hb;subst hb;simp[Gh]at ho)];exact hb
    refine⟨hnd3,?_,fun b hb=>S2.ap b (by rw[zK];exact yY b hb),fun b hb=> ?_,fun e he=> ?_⟩
    ·have:=S2.bl;rw[zK,bS0]at this;exact this.1
    ·rw[mX];refine S2.lt b ?_;rw[zK]
     rcases aC0.1 hb with hb | hb
     ·exact aH0 _ (yY b hb)
     ·exact aJ0 _ hb
    ·have h3:=hob3 e he;rw[zK]at h3;refine Bd (n:=EP e.obj) ⟨fun _ _ _ _ h=>h,fun b o _ (h1:Gh o=true) h2=>hd4 b o h1 h2,fun b o hb (_:Gh o=true) _ hm=>hb ?_⟩ (Nat.le_refl _) (fun b o hb ho=>by rw[kY b (fun h=>fP (h▸AY he hb))];exact ho) h3
     rcases aC0.1 hm with hm | hm
     ·exact aH0 _ (yY b hm)
     ·exact aJ0 _ hm
   ·have U1:Upd (Aa (S 0) loc) w W1:=⟨by rw[mH];rfl,by rw[mH];rfl,by rw[mH];rfl,fun _=>by rw[mH];exact Nat.le_refl _,by omega,fun b hb _=>bK b hb⟩
    have U2:Upd (Aa (S 0) loc) w w2:=U1.trans hu (fun x hx=>by
     simp only[aC0,aG0]at hx
     rcases hx with hx | hx
     ·exact .inl hx
     ·exact .inr (by omega))
    have U3:Upd [l] w2 w4:=by
     rw[bN];exact⟨rfl,rfl,rfl,fun _=>Nat.le_refl _,by rw[Fc];exact Nat.le_refl _,fun b _ hb=>World.putObj_heap_other (fun h=>hb (by simp[h]))⟩
    exact U2.trans U3 (fun x hx=> .inr (by simp only[aG0]at hx;omega))
   ·intro b hb;have hbm:b∈Aa [⟨0,0,.abs (yH l)⟩,⟨1,1,.abs (match Cx ok xs.length with | none=>A xs.length | some k=>Zs k)⟩] loc2:=by rw[zK];exact aH0 _ hb
    rcases wZ b hbm with h | h
    ·rw[zP]at h;simp only[aC0,aG0]at h
     rcases h with h | h
     ·exact .inl h
     ·exact .inr (by omega)
    ·exact .inr (by omega)
   ·simp only[rd];exact⟨#[],rfl,by simp[Aw]⟩
  clear wZ vD
  cases qR:Cx ok xs.length with
  | none =>
   rw[qR]at hT;obtain⟨rfl,rfl⟩:=hT
   have vI:(A xs.length).J (Aa [⟨0,0,.abs (yH l)⟩,⟨1,1,.abs (match Cx ok xs.length with | none=>A xs.length | some k=>Zs k)⟩] loc2++M) (loc2 1).blks (loc2 1).hdr w2.heap:=by
    have h:=hk;simp only[Gy]at h
    generalize hF:(match Cx ok xs.length with | none=>A xs.length | some k=>Zs k)=F at h |-
    rw[qR]at hF;simp only at hF;subst hF;exact h
   obtain⟨h1,h2,h3⟩:=main rec _ vI (by rw[zY];simp);refine⟨_,_,h1,?_⟩;rw[zY];simp only;rw[zY]at h2 h3;exact⟨trivial,h2,h3⟩
  | some k =>
   rw[qR]at hT;obtain⟨hj,rfl⟩:=hT
   have vI:(Zs k).J (Aa [⟨0,0,.abs (yH l)⟩,⟨1,1,.abs (match Cx ok xs.length with | none=>A xs.length | some k=>Zs k)⟩] loc2++M) (loc2 1).blks (loc2 1).hdr w2.heap:=by
    have h:=hk;simp only[Gy]at h
    generalize hF:(match Cx ok xs.length with | none=>A xs.length | some k=>Zs k)=F at h |-
    rw[qR]at hF;simp only at hF;subst hF;exact h
   obtain⟨h1,h2,h3⟩:=main _ _ vI (by simp);refine⟨_,_,h1,?_⟩;simp only
   rcases hj with ⟨hj,rfl⟩ | ⟨id,hj,rfl⟩ | ⟨t,hj,rfl⟩
   ·rw[hj]at h2 h3 |-;exact wpIn_ret ⟨rfl,h2,h3⟩
   ·rw[hj]at h2 h3 |-;exact wpIn_exit ⟨rfl,h2,h3⟩
   ·rw[hj]at h2 h3 |-;exact wpIn_goto ⟨rfl,h2,h3⟩
theorem Vt {P:Program} {B:Base} {Q:Exit->DS->Prop} {s:DS} {gt nt:Nat} {ps:Array Tmp} {assign body:Code} {f:FuncId} {us cs:List DVal} {xs:List (List DVal)} {ok:Nat->Bool} (ρ ν:List (Nat×Nat)) (sl:List (Nat×DVal)) (S Z:Nat->List Ent) (jc:Nat->Code) (T:List Ent) (e0:Exit)
  (hI:Ci_ P f us cs xs ok) (hB:B.nt=nt/\B.ro=none) (hsl:JK sl<=1) (vY:AJ us=0/\AJ cs=0) (hgt:(gt,.fn (.func f) us cs)∈sl) (mY:∀x∈xs,x.length=ps.size/\AJ x=0) (hpn:∀p∈ps.toList,p<nt)
  (wU:KL s.own (BM s.own (DL ρ)) (DL ρ)=some (S 0)/\UK s.own ρ/\(Ur (sl.map fun p=>Bg s.slots p.1)/\xH ((sl.map fun p=>Bg s.slots p.1).map (GC (BM s.own (DL ρ)))) (sl.map (·.2)))/\(((ρ++ν).map (·.1)).Nodup/\(ρ.map (·.2)).Nodup))
  (round:∀k x,xs[k]? =some x->(∀j,j<k->ok j=true)->∀B:Base,B.nt=nt->DW P B assign (RA P nt body (ok k) (if ok k then S (k+1)else Z k) (jc k)) ⟨RV ps.toList x sl,S k⟩)
  (hT:match Cx ok xs.length with | none=>e0= .normal/\T=S xs.length | some k=>(jc k= .ret/\e0= .ret\/(∃id,jc k= .exit id/\e0= .exit id)\/(∃t,jc k= .goto t/\e0= .goto t))/\T=Z k)
  (hTo:Uq T)
  (hk:∀r,match Ht (Du s.own ρ ν r) T with
   | some l=>((Bc s.own ((ρ++ν).map (·.1))++l).map (·.id)).Nodup/\Q e0 ⟨s.slots,Bc s.own ((ρ++ν).map (·.1))++l⟩
   | none=>False):DW P B (.rangeFunc (.tmp gt) ps assign body) Q s:=by
 intro a w loc R;have h:=hk (Cb B s)
 split at h
 rotate_left
 ·exact h.elim
 rename_i l hl;obtain⟨hnd,hQ⟩:=h
 have hC:∀vs w (R R':Value->World->Prop),(∀v w',R v w'->R' v w')->AK_ P (.rangeFunc (.tmp gt) ps assign body) (sl.map (·.1)) nt e0 vs w R->AK_ P (.rangeFunc (.tmp gt) ps assign body) (sl.map (·.1)) nt e0 vs w R' :=
  fun vs w R R' h hc a h1 h2=>wpIn_mono (hc a h1 h2) (fun e a' w' ⟨k1,k2,k3⟩=>⟨k1,k2,h _ _ k3⟩)
 have hS:=YU hC ρ ν (sS hsl hI vY hgt mY hpn round hT) wU.1 wU.2.1 wU.2.2.1 wU.2.2.2 hl hTo (by simp[Us,Wu]) hnd;have qE:Cb B s=max B.N (max (JK s.slots) (Gj s.own)):=rfl
 have hw:=hS B.M0 w loc ((sl.map fun p=>a.tmps.getD p.1 Go.undef).toArray) (by omega) R.st (by
  have key:∀l:List (Nat×DVal),Aw (Ab s.own loc) (Aa s.own loc++B.M0) w.heap (l.map fun p=>Bg s.slots p.1) (l.map fun p=>a.tmps.getD p.1 Go.undef):=by
   intro l
   induction l with
   | nil=>simp[Aw]
   | cons p l ih=>simp only[List.map_cons,Aw];exact⟨_,_,rfl,R.sl p.1,ih⟩
  simpa using key sl) a (by simp) (by rw[R.nt];exact hB.1)
 rw[hB.2];refine wpIn_mono hw ?_;rintro e a' w' ⟨rfl,⟨D,rfl,hD1,mI⟩,loc',St',hu,wZ,vD,_⟩;have R':=R.step (dst:=none) (v:=Go.undef) (d:= .any) (n:=Cb B s) (by omega) (by omega) (fun i hi=>by simp at hi) St' hu wZ vD (by simp[rd]);refine⟨_,loc',hQ,⟨R'.st,R'.upd,R'.new,R'.ver,R'.sl,R'.nt,?_⟩⟩;obtain⟨rs,h1,h2,h3,h4⟩:=R.df;obtain⟨rs',g1,g2,g3,g4⟩:=R'.df;have hrs:∀r∈rs,r<w.heap.size:=fun r hr=>(aD0.1 (h3 r hr).1).1
 refine⟨D::rs,by simp[h1],?_,?_,fun h=>absurd hB.2 h⟩
 ·rw[cG0];exact⟨fun hm=>by have:=hrs D hm;omega,h2⟩
 ·intro r hr
  rcases aL0.1 hr with rfl | hr
  ·refine⟨mI,Nat.le_trans B.hnd (Nat.le_trans R.upd.size hD1),fun hm=> ?_⟩
   rcases aC0.1 hm with hm | hm
   ·obtain⟨e,he,hb⟩:=bW0.1 hm;exact Au_ (St'.ok e he) _ hb _ mI
   ·have:=R.st.lt r (aJ0 _ hm);omega
  ·obtain⟨k1,k2,k3⟩:=h3 r hr;have qV:=hrs r hr;refine⟨?_,k2,fun hm=> ?_⟩
   ·rw[hu.blk r qV (fun hm=>k3 (aH0 _ hm))];exact k1
   ·rcases aC0.1 hm with hm | hm
    ·rcases wZ r hm with h | h
     ·exact k3 (aH0 _ h)
     ·omega
    ·exact k3 (aJ0 _ hm)
def yOK (own:List Ent) (id r' l:Nat) (A:Abs):Prop:=match Aj own id,Aj own (id+1)with
 | some e0,some e=>e0.r=r'/\e0.obj= .abs (yH l)/\e.obj= .abs A
 | _,_=>False
theorem Mj {P:Program} {id r' l:Nat} {args:List DVal} {own:List Ent} {K:ContE} {A A':Abs} {b:Bool} (hY:YAt P l A args b A') (wU:yOK own id r' l A/\AJ args=0)
  (hk:∀r,K.f (.bool b) (upE own (id+1) r (.abs A'))):BJ_ P id r' args own K:=by
 obtain⟨h,hm⟩:=wU;unfold yOK at h
 split at h
 ·rename_i e0 e h1 h2;exact⟨e0,l,e,A,A',b,h1,h.1,h.2.1,h2,h.2.2,hm,hY,hk⟩
 ·exact h.elim
theorem IB {ok:Nat->Bool}:∀{n k:Nat},k<n->(∀j,j<k->ok j=true)->ok k=false->Cx ok n=some k
 | n+1,k,hk,hj,ho=>by
  simp only[Cx]
  by_cases h:k<n
  ·rw[IB h hj ho]
  ·have:k=n:=by omega
   subst this
   have:Cx ok k=none:=by
    have key:∀m,m<=k->Cx ok m=none:=by
     intro m
     induction m with
     | zero=>intro _;rfl
     | succ m ih=>intro hm;simp only[Cx,ih (by omega),hj m (by omega),if_true]
    exact key k (Nat.le_refl _)
   rw[this,ho];rfl
theorem IC {ok:Nat->Bool}:∀{n:Nat},(∀j,j<n->ok j=true)->Cx ok n=none
 | 0,_=>rfl
 | n+1,hj=>by simp only[Cx,IC (n:=n) (fun j h=>hj j (by omega)),hj n (by omega),if_true]
attribute [simp] yOK RA RQ RV
end Go.Dm
end
section
namespace Go.Proofs.Wy
open Go Go.Dm Tryz
variable [DMode]
attribute [local irreducible] DW Bh Bk BJ_ RB Dm.Sub
set_option maxRecDepth 100000
def BQ (x:Nd):Bool:=decide (x.k=2)||decide (x.k=3)
def At_ (l:List Nd) (j:Nat):Option (Nat×ByteArray):=match l[j]? with
 | some p=>if BQ p=true then some (j,p.s)else none
 | none=>none
def Cp (l:List Nd) (n:Nat):List (Nat×ByteArray):=(List.range n).filterMap (At_ l)
def UX (x:Nat×ByteArray):List DVal:=[.int .i64 x.1,.str x.2]
theorem KN {l:List Nd} {n:Nat} {p:Nd} (h:l[n]? =some p):Cp l (n+1)=Cp l n++(if BQ p=true then [(n,p.s)]else []):=by
 simp only[Cp,eH0,List.filterMap_append,List.filterMap_cons,List.filterMap_nil,At_,h]
 by_cases hp:BQ p=true<;>simp[hp]
theorem Wv {l:List Nd} {n m:Nat} (h:n<=m):∃r,Cp l m=Cp l n++r:=by
 obtain⟨d,rfl⟩:∃d,m=n+d:=⟨m-n,by omega⟩;exact⟨((List.range d).map (n+ ·)).filterMap (At_ l),by simp only[Cp,List.range_add,List.filterMap_append]⟩
theorem Wx {l:List Nd} {n m:Nat} {p:Nd} (h:l[n]? =some p) (hp:BQ p=true) (hm:n<m):(Cp l m)[(Cp l n).length]? =some (n,p.s):=by
 obtain⟨r,hr⟩:=Wv (l:=l)  (show n+1<=m from hm);rw[hr,KN h,if_pos hp];simp
theorem Ww {l:List Nd} {n m:Nat} {p:Nd} (h:l[n]? =some p) (hp:BQ p=true) (hm:n<m):(Cp l n).length<(Cp l m).length:=(aF0.1 (Wx h hp hm)).1
def oD : Ann:=⟨[],[]⟩
def JR : Ann:=⟨[5],[]⟩
theorem XK (l:List Nd):Ag prog 66 [Bi l] (Bi l):=by
 match l with
 | [] =>
  refine Zb [] ?_ ?_
  ·refine Ad [7] oD func66 call66 ntmps66 mxd (Az @oD.eq_1 results66) rfl (fun qJ B qX qQ=> ?_) (hd:=(by simp[mx,Bq]));simp only[Ap,List.nil_append,Bi,List.map_cons];exact AA Ac Ac Ac
  ·refine Ad [7,5] JR func66 call66 ntmps66 mxd (Az @JR.eq_1 results66) rfl (fun qJ B qX qQ=> ?_) (hd:=(by simp[mx,Bq]));simp only[Ap,List.nil_append,Bi,List.map_cons];exact AA Ac Ac Ac
 | s::l =>
  refine Ad [7,5] JR func66 call66 ntmps66 mxd (Az @JR.eq_1 results66) rfl (fun qJ B qX qQ=> ?_) (hd:=(by simp[mx,Bq]));have qD:(s::l).length*32<=150000000000000:=by have:=qJ.1;simp only[Ef,aO0]at this;exact this.1
  clear qJ;have z2:(s::l).length<=9223372036854775807:=by omega
  simp only[List.length_cons]at qD z2;simp only[Ap,List.nil_append,Bi,List.map_cons];exact AA Ac Ac (Az qD z2)
def Hy : Ann:=⟨[25],[⟨2,[4],[],[]⟩]⟩
theorem Uv (l:List Nd) (ok:Nat->Bool):Ci_ prog 160 [] [.ref [Bi l]] ((Cp l l.length).map UX) ok:=by
 intro lb A Z hY;refine BU [] [(0,0,0),(1,1,1)] Hy func160 call160 ntmps160 mxd (Az @Hy.eq_1 results160) rfl (fun qJ B qX qQ=> ?_);have dH:l.length<9223372036854775807:=OX (by simpa[Iy,Ef]using qJ);clear qJ;simp only[Ap,List.nil_append]
 (refine Ba Ac Ac Ac ?_;intros;refine Al ?_)
 refine An (X:={k:Nat//k<=l.length/\∀j,j<(Cp l k).length->ok j=true}) (fun k=>⟨[(0,.pk 0 0),(5,Bi l),(6,.int .i64 l.length),(7,.int .i64 k.1)],[⟨0,0,.abs (yH lb)⟩,⟨1,1,.abs (A (Cp l k.1).length)⟩]⟩) (fun k=>l.length-k.1) ⟨0,by simp[Cp]⟩ (Sub.lit (by simp[Cp])) ?_;rintro⟨k,hk,hj⟩
 by_cases qV:k<l.length
 ·obtain⟨p,hp,zD,bM⟩:=Ar qV;have hs:=KN hp
  by_cases hh:BQ p=true
  ·have hx:=hY (Cp l k).length (UX (k,p.s)) (by rw[bH0,Wx hp hh qV];rfl) hj;rw[if_pos hh]at hs;have mW:p.k=2\/p.k=3:=by unfold BQ at hh;simpa using hh
   have bJ:∀j,j<(Cp l (k+1)).length->ok (Cp l k).length=true->ok j=true:=by
    rw[hs];intro j fG qO;simp at fG
    by_cases hjk:j=(Cp l k).length
    ·subst hjk;exact qO
    ·exact hj j (by omega)
   rcases mW with mW | mW
   ·(refine Ba Ac Ac (Lj @Bu.eq_1 qV hp zD mW) ?_;intros;refine Al ?_)
    cases qO:ok (Cp l k).length
    ·rw[qO]at hx;refine Mj hx (by simp[UX]) (fun r=> ?_);have qR:=IB (Ww hp hh qV) hj qO;simp[qX,results160,Hy,qR];exact AA Ac Ac (AQ qR)
    ·rw[qO]at hx;refine Mj hx (by simp[UX]) (fun r=> ?_);simp[qX,results160,Hy]
     (refine Ba Ac Ac Ac ?_;intros;refine Al ?_)
     refine Ak.mk ⟨k+1,by omega,fun j fG=>bJ j fG qO⟩ (Sub.lit (by simp[hs])) (by simp;omega)
     skip
   ·(refine Ba Ac Ac (Lj @Bu.eq_1 qV hp zD mW) ?_;intros;refine Al ?_)
    cases qO:ok (Cp l k).length
    ·rw[qO]at hx;refine Mj hx (by simp[UX]) (fun r=> ?_);have qR:=IB (Ww hp hh qV) hj qO;simp[qX,results160,Hy,qR];exact AA Ac Ac (AQ qR)
    ·rw[qO]at hx;refine Mj hx (by simp[UX]) (fun r=> ?_);simp[qX,results160,Hy]
     (refine Ba Ac Ac Ac ?_;intros;refine Al ?_)
     refine Ak.mk ⟨k+1,by omega,fun j fG=>bJ j fG qO⟩ (Sub.lit (by simp[hs])) (by simp;omega)
     skip
  ·rw[if_neg hh,bO0]at hs;have h2:¬p.k=2:=fun e=>hh (by unfold BQ;simp[e])
   have h3:¬p.k=3:=fun e=>hh (by unfold BQ;simp[e])
   have kW:(p.k==2)=false:=by simpa using h2
   have h3':(p.k==3)=false:=by simpa using h3
   (refine Ba Ac Ac (Np @Bu.eq_1 qV hp zD h2 h3 kW h3') ?_;intros;refine Al ?_)
   refine Ak.mk ⟨k+1,by omega,by rw[hs];exact hj⟩ (Sub.lit (by simp[hs])) (by simp;omega)
   skip
 ·have qN:k=l.length:=by omega
  subst qN;have qR:=IC hj;exact AA Ac Ac (AQ qR)
def Yt : Ann:=⟨[1],[⟨1,[1],[],[]⟩]⟩
theorem Ux (l:List Nd):Ag prog 107 [Bi l] (.fn (.func 160) [] [.ref [Bi l]]):=by
 refine Ad [] Yt func107 call107 ntmps107 mxd (Az @Yt.eq_1 results107) rfl (fun qJ B qX qQ=> ?_) (hd:=(by simp[mx,AJ]));clear qJ;simp only[Ap];have h1:=XK l;exact AA (AQ h1) Ac Ac
def Ir (l:List Nd):Nat:=(Cp l l.length).length
def oE : Ann:=⟨[],[]⟩
theorem Qb (l:List Nd):Ag prog 57 [Bi l] (.int .i64 (Ir l)):=by
 refine Ad [] oE func57 call57 ntmps57 mxd (Az @oE.eq_1 results57) rfl (fun qJ B qX qQ=> ?_);have dH:=OX qJ.1;clear qJ;simp only[Ap];have h1:=Ux l
 (refine Ba (AQ h1) Ac Ac ?_;intros;refine Al ?_)
 have hI:=Uv l (fun _=>true);have qR:Cx (fun _:Nat=>true) (Cp l l.length).length=none:=IC fun _ _=>rfl
 have hocc:∀x∈(Cp l l.length).map UX,x.length=2/\AJ x=0:=by
  intro x hx;obtain⟨y,_,rfl⟩:=aQ0.1 hx;exact⟨rfl,by simp[UX,mx]⟩
 have qY:(Cp l l.length).length<=l.length:=by
  simp only[Cp];exact Nat.le_trans (List.length_filterMap_le _ _) (by simp)
 refine Vt (nt:=11) [(3,3)] [] [(0,Bi l),(3,.bx 3 0 0),(5,.fn (.func 160) [] [.ref [Bi l]])]
  (fun k=>[⟨3,0,.box [.int .i64 (k:Int)]⟩]) (fun k=>[⟨3,0,.box [.int .i64 (k:Int)]⟩]) (fun _=> .ret) [⟨3,0,.box [.int .i64 (Ir l:Int)]⟩] .normal
  hI (by simp[qX]) (by simp[JK]) (by simp) (bJ0 (i:=2) rfl) hocc (by simp) ?_ ?_ ?_ ?_ ?_
 ·simp
 ·intro k x hx hj B1 qX;rw[bH0,aY0]at hx;obtain⟨⟨j,s⟩,hy,rfl⟩:=hx;have vJ:k<(Cp l l.length).length:=(aF0.1 hy).1;have hw:IntKind.i64.wrap ((k:Int)+1)=(k:Int)+1:=wq;simp only[Array.toList,RV]
  (refine Ba Ac Ac Ac ?_;intros;refine Al ?_)
  refine FM_ fun B2 qX=> ?_
  (refine Ba Ac Ac (Az @UX.eq_1 hw) ?_;intros;refine Al ?_)
  refine Sub.lit ?_;simp
 ·simp only[aO0,qR];exact⟨trivial,rfl⟩
 ·simp
 ·intro r;simp;exact AA Ac Ac Ac
end Go.Proofs.Wy
end
section
namespace Go.Proofs.Wy
open Go Go.Dm Tryz
variable [DMode]
attribute [local irreducible] DW Bh Bk
set_option maxRecDepth 100000
def Yh : Ann:=⟨[],[]⟩
theorem Ak_ (a b c:Int):Ag prog 112 [.sl 1 8 [[.int .i64 a],[.int .i64 b],[.int .i64 c]]] (.int .i64 (if a=0 then (if b=0 then c else b)else a)):=by
 refine Ad [] Yh func112 call112 ntmps112 mxd (Az @Yh.eq_1 results112) rfl (fun qJ B qX qQ=> ?_);simp only[Ap]
 (refine Ba Ac Ac Ac ?_;intros;refine Al ?_)
 refine An (X:={k:Nat//k<=3/\(0<k->a=0)/\(1<k->b=0)/\(2<k->c=0)}) (fun k=>⟨[(3,.int .i64 0),(6,.sl 1 8 [[.int .i64 a],[.int .i64 b],[.int .i64 c]]),(7,.int .i64 3),(8,.int .i64 k.1)],[]⟩) (fun k=>3-k.1) ⟨0,by simp⟩ (Sub.lit (by simp)) ?_;rintro⟨k,hk,ha,hb,hc⟩
 match k,hk,ha,hb,hc with
 | 0,_,_,_,_ =>
  by_cases h:a=0
  ·(refine Ba Ac Ac (AQ h) ?_;intros;refine Al ?_)
   refine Ak.mk ⟨1,by simp[h]⟩ (Sub.lit (by simp)) (by simp)
   skip
  ·have h':(a != 0)=true:=by simpa using h
   exact AA Ac Ac (Az h h')
 | 1,_,ha,_,_ =>
  have ha:=ha (by omega)
  by_cases h:b=0
  ·(refine Ba Ac Ac (AQ h) ?_;intros;refine Al ?_)
   refine Ak.mk ⟨2,by simp[h,ha]⟩ (Sub.lit (by simp)) (by simp)
   skip
  ·have h':(b != 0)=true:=by simpa using h
   exact AA Ac Ac (HB h h' ha)
 | 2,_,ha,hb,_ =>
  have ha:=ha (by omega);have hb:=hb (by omega)
  by_cases h:c=0
  ·(refine Ba Ac Ac (AQ h) ?_;intros;refine Al ?_)
   refine Ak.mk ⟨3,by simp[h,ha,hb]⟩ (Sub.lit (by simp)) (by simp)
   skip
  ·have h':(c != 0)=true:=by simpa using h
   exact AA Ac Ac (JV h h' ha hb)
 | 3,_,ha,hb,hc =>
  have ha:=ha (by omega);have hb:=hb (by omega);have hc:=hc (by omega);exact AA Ac Ac (HB ha hb hc)
def Cv {α:Type} (e:α->α->Bool) (p:α):List α->List α
 | []=>[]
 | y::l=>if e y p then Cv e y l else y::Cv e y l
def Df {α:Type} (e:α->α->Bool):List α->List α
 | []=>[]
 | x::l=>x::Cv e x l
theorem NU {α:Type} {e:α->α->Bool} {y:α}:∀{l:List α} {p:α},Cv e p (l++[y])=Cv e p l++(if e y (l.getLast?.getD p)then []else [y])
 | [],p=>by by_cases h:e y p<;>simp[Cv,h]
 | x::l,p=>by
  have h:=NU (e:=e) (y:=y) (l:=l) (p:=x)
  have h2:(x::l).getLast?.getD p=l.getLast?.getD x:=by
   cases l with
   | nil=>rfl
   | cons z l=>simp[List.getLast?_cons_cons,List.getLast?_eq_some_getLast]
  rw[h2];simp only[List.cons_append,Cv]
  split
  ·exact h
  ·rw[h];rfl
theorem QT {α:Type} {e:α->α->Bool} {l:List α} {k:Nat} {x y:α} (h0:0<k) (hx:l[k-1]? =some x) (hy:l[k]? =some y):Df e (l.take (k+1))=Df e (l.take k)++(if e y x then []else [y]):=by
 rw[bR0,hy]
 obtain⟨z,t,hz⟩:∃z t,l.take k=z::t:=by
  cases h:l.take k with
  | nil =>
   have h1:=congrArg List.length h;have:=(aF0.1 hy).1;rw[aW0]at h1;simp only[List.length_nil]at h1;omega
  | cons z t=>exact⟨z,t,rfl⟩
 have hl:(l.take k).getLast?=some x:=by
  rw[List.getLast?_eq_getElem?,eK0];have:=(aF0.1 hy).1;simp only[aW0];rw[show min k l.length-1=k-1 by omega,if_pos (by omega)];exact hx
 rw[hz]at hl |-
 have h2:t.getLast?.getD z=x:=by
  cases t with
  | nil=>simpa using hl
  | cons a t=>simpa[List.getLast?_cons_cons,List.getLast?_eq_some_getLast]using hl
 simp only[Option.toList_some,List.cons_append,Df,NU,h2]
def GK (a b:Int):Int:=if a<b then -1 else if b<a then 1 else 0
def Yf : Ann:=⟨[],[]⟩
theorem EQ (n:Int):Ag prog 172 [.int .i64 n] (.bool false):=by
 refine Ad [] Yf func172 call172 ntmps172 mxd (Az @Yf.eq_1 results172) rfl (fun qJ B qX qQ=> ?_);simp only[Ap];exact AA Ac Ac Ac
def Yg : Ann:=⟨[],[]⟩
theorem Jq (a b:Int):Ag prog 113 [.int .i64 a,.int .i64 b] (.int .i64 (GK a b)):=by
 refine Ad [] Yg func113 call113 ntmps113 mxd (Az @Yg.eq_1 results113) rfl (fun qJ B qX qQ=> ?_);simp only[Ap]
 by_cases h1:a<b
 ·exact AA (Az (EQ a) (EQ b)) Ac (Az h1 @GK.eq_1)
 ·by_cases h2:b<a
  ·exact AA (Az (EQ a) (EQ b)) Ac (HB h1 h2 @GK.eq_1)
  ·exact AA (Az (EQ a) (EQ b)) Ac (HB h1 h2 @GK.eq_1)
def MD (x y:Sym):Int:=if x.label=y.label then GK x.n y.n else if x.label then 1 else -1
end Go.Proofs.Wy
end
section
namespace Go.Proofs.Wy
open Go Go.Dm Tryz
variable [DMode]
structure Arc where
 fr:Int
 sy:Sym
 to:Int
 deriving DecidableEq
def CB (x:Arc):List DVal:=[.int .i64 x.fr,.bool x.sy.label,.int .i64 x.sy.n,.int .i64 x.to]
abbrev Ga (l:List Arc):DVal:= .sl 4 32 (l.map CB)
def CT (n:Int):List DVal:=[.int .i64 n]
abbrev Fu (l:List Int):DVal:= .sl 1 8 (l.map CT)
def RJ (b:Bool):List DVal:=[.bool b]
abbrev Mc (l:List Bool):DVal:= .sl 1 1 (l.map RJ)
structure Auto where
 st:Int
 fin:List Int
 arcs:List Arc
 deriving DecidableEq
def Bj (a:Auto):List DVal:=[.int .i64 a.st,Fu a.fin,Ga a.arcs]
@[simp] theorem CV_ (s:Arc):AJ (CB s)=0:=by simp[CB,AJ,mx]
@[simp] theorem AD_ (l:List Arc):Bq (l.map CB)=0:=HM _ CV_ l
@[simp] theorem CT_ (s:Int):AJ (CT s)=0:=by simp[CT,AJ,mx]
@[simp] theorem AA_ (l:List Int):Bq (l.map CT)=0:=HM _ CT_ l
@[simp] theorem Eo_ (s:Bool):AJ (RJ s)=0:=by simp[RJ,AJ,mx]
@[simp] theorem CU_ (l:List Bool):Bq (l.map RJ)=0:=HM _ Eo_ l
@[simp] theorem AC_ (a:Auto):AJ (Bj a)=0:=by simp[Bj,AJ,mx]
theorem WV {l:List Int} (h:Ef (Fu l)):l.length<9223372036854775807:=by
 simp only[Ef,aO0]at h;omega
theorem WW {l:List Arc} (h:Ef (Ga l)):l.length<9223372036854775807:=by
 simp only[Ef,aO0]at h;omega
theorem DV_ {a:Auto} (h:Iy (Bj a)):Kx .i64 a.st/\a.fin.length<9223372036854775807/\a.arcs.length<9223372036854775807:=by
 simp only[Bj,Iy]at h;exact⟨by have:=h.1;simpa only[Ef]using this,WV h.2.1,WW h.2.2.1⟩
theorem IP {n:Nat} (f:Nat->Bool):(List.range (n+1)).all f=((List.range n).all f&&f n):=by
 rw[eH0,List.all_append];simp
def Zf (s q:Int):Bool:=decide (0<=q)&&decide (q<s)
def iU (s:Int) (l:List Int) (k:Nat):Bool:=match l[k]? with
 | none=>true
 | some q=>Zf s q&&(decide (k=0)||match l[k-1]? with | none=>true | some p=>decide (p<q))
theorem Ws {s:Int} {l:List Int} {q:Int} (h:l[0]? =some q):iU s l 0=Zf s q:=by
 unfold iU;rw[h];simp
theorem iT {s:Int} {l:List Int} {k:Nat} {p q:Int} (hk:0<k) (h:l[k]? =some q) (hp:l[k-1]? =some p):iU s l k=(Zf s q&&decide (p<q)):=by
 unfold iU;rw[h];simp only[hp,show ¬k=0 by omega,decide_false,Bool.false_or]
def HZ (x y:Arc):Int:=if GK x.fr y.fr=0 then (if MD x.sy y.sy=0 then GK x.to y.to else MD x.sy y.sy)else GK x.fr y.fr
def TO (x y:Sym):Bool:=if x.label=y.label then decide (x.n<y.n)else y.label
def Pf (x y:Arc):Bool:=if x.fr=y.fr then (if x.sy=y.sy then decide (x.to<y.to)else TO x.sy y.sy)else decide (x.fr<y.fr)
theorem Ni {a b:Int}:GK a b=0↔a=b:=by unfold GK;split<;>(try split)<;>omega
theorem QV {a b:Int}:GK a b<0↔a<b:=by unfold GK;split<;>(try split)<;>omega
theorem Sv {x y:Sym}:MD x y=0↔x=y:=by
 obtain⟨a,n⟩:=x;obtain⟨b,m⟩:=y;unfold MD;cases a<;>cases b<;>simp[Ni]
theorem Zq (x y:Sym):TO x y=decide (MD x y<0):=by
 obtain⟨a,n⟩:=x;obtain⟨b,m⟩:=y;unfold MD TO;cases a<;>cases b<;>simp[QV]
theorem Rh (x y:Arc):Pf x y=decide (HZ x y<0):=by
 unfold Pf HZ
 by_cases h1:x.fr=y.fr
 ·rw[if_pos h1,if_pos (Ni.2 h1)]
  by_cases h2:x.sy=y.sy
  ·rw[if_pos h2,if_pos (Sv.2 h2)];exact decide_eq_decide.2 QV.symm
  ·rw[if_neg h2,if_neg (fun h=>h2 (Sv.1 h)),Zq]
 ·rw[if_neg h1,if_neg (fun h=>h1 (Ni.1 h))];exact decide_eq_decide.2 QV.symm
def NX (s:Int) (x:Arc):Bool:=Zf s x.fr&&(Zf s x.to&&decide (0<=x.sy.n))
def sF (s:Int) (l:List Arc) (k:Nat):Bool:=match l[k]? with
 | none=>true
 | some q=>NX s q&&(decide (k=0)||match l[k-1]? with | none=>true | some p=>Pf p q)
theorem Wt {s:Int} {l:List Arc} {q:Arc} (h:l[0]? =some q):sF s l 0=NX s q:=by
 unfold sF;rw[h];simp
theorem iV {s:Int} {l:List Arc} {k:Nat} {p q:Arc} (hk:0<k) (h:l[k]? =some q) (hp:l[k-1]? =some p):sF s l k=(NX s q&&Pf p q):=by
 unfold sF;rw[h];simp only[hp,show ¬k=0 by omega,decide_false,Bool.false_or]
def Cf (a:Auto):Bool:=decide (1<=a.st)&&decide (a.st<=65)&&((List.range a.fin.length).all (iU a.st a.fin)&&(List.range a.arcs.length).all (sF a.st a.arcs))
theorem An_ {a:Auto} (h:Cf a=true):1<=a.st/\a.st<=65:=by
 unfold Cf at h;simp only[aM0,decide_eq_true_eq]at h;exact h.1
theorem Eg_ {a:Auto} (h:Cf a=true) {q:Int} (hq:q∈a.fin):0<=q/\q<a.st:=by
 unfold Cf at h;simp only[aM0,aX0]at h;obtain⟨k,hk,rfl⟩:=bU0 hq;have:=h.2.1 k (dP0.2 hk);unfold iU Zf at this;rw[aB0 hk]at this;simp only[aM0,decide_eq_true_eq]at this;exact this.1
theorem Ao_ {a:Auto} (h:Cf a=true) {x:Arc} (hx:x∈a.arcs):0<=x.fr/\x.fr<a.st/\0<=x.to/\x.to<a.st:=by
 unfold Cf at h;simp only[aM0,aX0]at h;obtain⟨k,hk,rfl⟩:=bU0 hx;have:=h.2.2 k (dP0.2 hk);unfold sF NX Zf at this;rw[aB0 hk]at this;simp only[aM0,decide_eq_true_eq]at this;exact⟨this.1.1.1,this.1.1.2,this.1.2.1.1,this.1.2.1.2⟩
def bAt (l:List Bool) (q:Int):Bool:=l[q.toNat]?.getD false
def stepG (fr:List Bool) (s:Sym) (to:List Bool) (x:Arc):List Bool:=if bAt fr x.fr&&decide (x.sy=s)then to.set x.to.toNat true else to
def Km (a:Auto) (fr:List Bool) (s:Sym) (k:Nat):List Bool:=(a.arcs.take k).foldl (stepG fr s) (List.replicate a.st.toNat false)
def ID (a:Auto) (fr:List Bool) (s:Sym):List Bool:=a.arcs.foldl (stepG fr s) (List.replicate a.st.toNat false)
theorem Sz (fr:List Bool) (s:Sym) (to:List Bool) (x:Arc):(stepG fr s to x).length=to.length:=by
 unfold stepG;split<;>simp
theorem Na (fr:List Bool) (s:Sym):∀(l:List Arc) (to:List Bool),(l.foldl (stepG fr s) to).length=to.length
 | [],to=>rfl
 | x::l,to=>by rw[cH0,Na fr s l,Sz]
theorem rD (a:Auto) (fr:List Bool) (s:Sym) (k:Nat):(Km a fr s k).length=a.st.toNat:=by
 unfold Km;rw[Na,dO0]
theorem rF (a:Auto) (fr:List Bool) (s:Sym):(ID a fr s).length=a.st.toNat:=by
 unfold ID;rw[Na,dO0]
theorem Zt {a:Auto} {fr:List Bool} {s:Sym} {k:Nat} {x:Arc} (h:a.arcs[k]? =some x):Km a fr s (k+1)=stepG fr s (Km a fr s k) x:=by
 unfold Km;rw[bR0,h,cV0];rfl
theorem rE (a:Auto) (fr:List Bool) (s:Sym):Km a fr s a.arcs.length=ID a fr s:=by
 unfold Km ID;rw[aT0]
def bD (l:List Bool):List (List DVal):=l.map RJ
theorem Li (l:List Bool):(bD l).length=l.length:=by unfold bD;rw[aO0]
@[simp] theorem DO_ (l:List Bool):Bq (bD l)=0:=CU_ l
theorem Rf (l:List Bool) (k:Nat) (b:Bool):(bD l).set k [.bool b]=bD (l.set k b):=by unfold bD;rw[List.map_set];rfl
theorem Lh (n:Nat) (b:Bool):bD (List.replicate n b)=List.replicate n [.bool b]:=by unfold bD;rw[List.map_replicate];rfl
end Go.Proofs.Wy
end
