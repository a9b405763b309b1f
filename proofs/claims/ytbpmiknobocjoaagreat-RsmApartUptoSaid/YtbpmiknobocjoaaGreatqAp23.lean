/- Parts of a proof, laid together: EnW, EnX. -/
import Derived.RangeFuncNested
import Derived.Test.YtbpmiknobocjoaaGreatqAp17
set_option linter.unusedSimpArgs false
set_option maxHeartbeats 8000000
set_option linter.unusedVariables false
set_option linter.unusedSectionVars false
section
namespace Go.Dm
variable [DMode]
theorem CZ_ {cur:ES} {M:List Nat} {h:Array Obj} {l:Loc} {obj:DObj} (hk:KH cur M h l obj):∀b∈l.blks,∀c,h[b]? ≠some (.deferred c):=by
 intro b hb c hc
 cases obj with
 | box cs =>
  obtain⟨b',arr,ty,h1,h2,_⟩:=hk;rw[h1]at hb;simp only[aE0]at hb;subst hb;rw[h2]at hc;simp at hc
 | row et k bs es =>
  obtain⟨_,⟨_,h1,_⟩ | ⟨b',arr,cap,h1,h2,h3,_⟩⟩:=hk
  ·rw[h1]at hb;cases hb
  ·rw[h1]at hb;simp only[aE0]at hb;subst hb;rw[h3]at hc;simp at hc
 | map ks vs =>
  obtain⟨b',es,clk,h1,h2,_⟩:=hk;rw[h1]at hb;simp only[aE0]at hb;subst hb;rw[h2]at hc;simp at hc
 | mapD ks vs =>
  obtain⟨b',es,clk,h1,h2,_⟩:=hk;rw[h1]at hb;simp only[aE0]at hb;subst hb;rw[h2]at hc;simp at hc
 | abs A=>exact A.nd _ _ _ _ hk b hb c hc
 | lrec st sl nt ps assign body =>
  obtain⟨b',fn,tm,df,h1,h2,h3,_⟩:=hk;rw[h1]at hb;simp only[aE0]at hb;subst hb;rw[h3]at hc;simp at hc
 | glob g vs =>
  obtain⟨h1,arr,ty,h2,_⟩:=hk;rw[h1]at hb;simp only[aE0]at hb;subst hb;rw[h2]at hc;simp at hc
def BU_ (sl:List (Nat×DVal)) (hsl:Hk sl<=1) (own:List Ent) (tm:Array Value) (own0:List Ent) (loc0:Nat->Loc) (l:Nat) (L:Loop):Abs where
 J:=fun M bl hd h=>hd= .func (.yield l) #[] #[]/\∃loc,bl=Aa own loc++[l]/\(own.map (·.id)).Nodup/\(∀e∈own,KH (Ac own loc) M h (loc e.id) e.obj) /\
  (∀p∈sl,rd (Ac own loc) M h p.2 (tm.getD p.1 Go.undef))/\h[l]? =some (.loop L)/\(∀e∈own,e.r<1->Ac own0 loc0 e.id e.r=some (loc e.id))
 weak:=by
  rintro M M' bl hd h h' hb hm hk ⟨h1,loc,h2,h3,h4,h5,h6,h7⟩;have W:∀n,Weak (Ac own loc) (Ac own loc) M M' h h' n:=fun n=>⟨fun _ _ _ _ h=>h,hb,hm⟩
  refine⟨h1,loc,h2,h3,fun e he=>AV (W _) (Nat.le_refl _) (fun b o qM ho=>hk b o ?_ ho) (h4 e he),fun p hp=>Bk (W _) _ _ (Nat.le_refl _) (h5 p hp),hk l _ ?_ h6,h7⟩
  ·rw[h2];exact aM0 _ (AW he qM)
  ·rw[h2];simp
 one:=by rintro _ _ _ _ ⟨rfl,_⟩;exact⟨rfl,rfl⟩
 nd:=by
  rintro M bl hd h ⟨_,loc,rfl,_,h4,_,h6,_⟩ b hb c hc
  rcases aG0.1 hb with hb | hb
  ·obtain⟨e,he,hb⟩:=bP0.1 hb;exact CZ_ (h4 e he) b hb c hc
  ·simp only[aE0]at hb;subst hb;rw[h6]at hc;simp at hc
def SY : List Nat->List DVal->List (Nat×DVal)->List (Nat×DVal)
 | p::ps,d::ds,l=>SY ps ds ((p,d)::l)
 | _,_,l=>l
theorem ON : ∀(z:List (Nat×Value)) (t:Array Value),(z.foldl (fun t p=>t.setIfInBounds p.1 p.2) t).size=t.size
 | [],t=>rfl
 | p::z,t=>by rw[cY0,ON z];simp
theorem rI {cur:ES} {M:List Nat} {h:Array Obj}:∀(ps:List Nat) (ds:List DVal) (vs:List Value) (l:List (Nat×DVal)) (t:Array Value),ds.length=ps.length->(∀p∈ps,p<t.size)->rdV cur M h ds vs ->
  (∀i,rd cur M h (getS l i) (t.getD i Go.undef))->∀i,rd cur M h (getS (SY ps ds l) i) (((ps.zip vs).foldl (fun t p=>t.setIfInBounds p.1 p.2) t).getD i Go.undef)
 | [],ds,vs,l,t,hl,hp,hr,hs=>by
  cases ds with
  | nil=>simpa[SY]using hs
  | cons d ds=>simp at hl
 | p::ps,[],vs,l,t,hl,hp,hr,hs=>by simp at hl
 | p::ps,d::ds,vs,l,t,hl,hp,hr,hs=>by
  simp only[rdV]at hr;obtain⟨v,r,rfl,h1,h2⟩:=hr;simp only[SY,List.zip_cons_cons,cY0];refine rI ps ds r _ _ (by simpa using hl) (fun q hq=>by simpa using hp q (aF0 _ hq)) h2 ?_;intro i;have qV:=hp p aH0;simp only[getS,aO0,cW0]
  by_cases hi:i=p
  ·subst hi;simpa[qV]using h1
  ·rw[if_neg hi,if_neg (fun h=>hi h.symm)];have:=hs i;simpa[aO0]using this
theorem YD : ∀(l:List (Nat×DVal)) (i:Nat),getS l i= .any\/(i,getS l i)∈l
 | [],i=> .inl rfl
 | (j,d)::l,i=>by
  simp only[getS]
  split
  ·rename_i h;subst h;exact .inr (by simp)
  ·exact(YD l i).imp id (fun h=>aF0 _ h)
def RQ (B:Base) (okk:Bool) (S:List Ent) (j:Code):Exit->DS->Prop
 | .normal,s=>okk=true/\Sub B ⟨[],s.own⟩ ⟨[],S⟩
 | .ret,s=>okk=false/\j= .ret/\Sub B ⟨[],s.own⟩ ⟨[],S⟩
 | .exit id,s=>okk=false/\j= .exit id/\Sub B ⟨[],s.own⟩ ⟨[],S⟩
 | .goto t,s=>okk=false/\j= .goto t/\Sub B ⟨[],s.own⟩ ⟨[],S⟩
 | _,_=>False
def RB (P:Program) (nt:Nat) (body:Code) (okk:Bool) (S:List Ent) (j:Code) (s:DS):Prop:=∀B:BaseN,B.nt=nt->DW P B body (RQ B okk S j) s
theorem Iu_ {P:Program} {nt:Nat} {body:Code} {okk:Bool} {S:List Ent} {j:Code} {s:DS} (h:∀B:BaseN,B.nt=nt->DW P B body (RQ B okk S j) s):RB P nt body okk S j s:=h
def RA (P:Program) (nt:Nat) (body:Code) (okk:Bool) (S:List Ent) (j:Code):Exit->DS->Prop
 | .normal,s=>RB P nt body okk S j s
 | _,_=>False
theorem lU {own own':List Ent} {loc loc':Nat->Loc} {M M':List Nat} {h h':Array Obj} {n:Nat} (hc:∀e∈own',e.r<n->Ac own loc e.id e.r=some (loc' e.id)) (hb:∀(b:Nat) (o:Obj),b∉M->FE o=true->h[b]? =some o->h'[b]? =some o)
  (hm:∀b∈M',b∈M\/h.size<=b):Weak (Ac own loc) (Ac own' loc') M M' h h' n where
 c:=by
  intro id r l hr hl;obtain⟨e,he,rfl,rfl,rfl⟩:=BE hl;exact hc e he hr
 b:=hb
 m:=by
  intro b o qM _ ho wR
  rcases hm b wR with h1 | h1
  ·exact qM h1
  ·have:=(aC0.1 ho).1;omega
theorem Fw (w:World) (l:Nat) (o:Obj):(w.putObj l o).heap.size=w.heap.size:=by simp[World.putObj]
theorem Ht_ {P:Program} {sl:List (Nat×DVal)} {hsl:Hk sl<=1} {own S:List Ent} {tm:Array Value} {own0:List Ent} {loc0:Nat->Loc} {l nt:Nat} {L:Loop} {x:List DVal} {okk:Bool} {j:Code}
  (hL:L.state= .ready) (hLp:L.pending=none) (hLt:L.tmps=tm) (qX:tm.size=nt) (hx:x.length=L.params.size) (bM:∀p∈L.params.toList,p<nt) (hx0:AJ x=0)
  (h:∀B:BaseN,B.nt=nt->DW P B L.assign (RA P nt L.body okk S j) ⟨SY L.params.toList x sl,own⟩) :
  YAt P l (BU_ sl hsl own tm own0 loc0 l L) x okk (BU_ sl hsl S tm own0 loc0 l { L with state:=if okk then .ready else .done,pending:=if okk then none else some j }):=by
 rintro M bl hd w vs hnd nC bS ⟨rfl,loc,rfl,hidn,qK,jR,zG,hver0⟩ wS;have hlM:l∈M:=nC l (by simp)
 have gR:l∉Aa own loc:=by
  intro hm;rw[bX0]at hnd;exact hnd.2.2 l hm l (by simp) rfl
 have hhotM:∀b∈Aa own loc,b∈M:=fun b hb=>nC b (aM0 _ hb)
 have qU:=AA _ _ wS;simp only[bI0]at qU;have hy:=run_yield (P:=P) (args:=vs) zG (by omega)
 -- the base of the assignment
 let M0:List Nat:=M.filter (fun b=> !(Aa own loc).contains b)
 have hM0:∀b,b∈M0↔b∈M/\b∉Aa own loc:=by
  intro b;simp only[M0,cG0,List.contains_eq_mem,Bool.not_eq_true',decide_eq_false_iff_not]
 have hMM:∀b,b∈Aa own loc++M0↔b∈M:=by
  intro b;rw[aG0,hM0]
  constructor
  ·rintro (h | h)
   ·exact hhotM b h
   ·exact h.1
  ·intro h
   by_cases hb:b∈Aa own loc
   ·exact .inl hb
   ·exact .inr ⟨h,hb⟩
 have W0:∀n,Weak (Ac own loc) (Ac own loc) M (Aa own loc++M0) w.heap w.heap n:=fun n =>
  ⟨fun _ _ _ _ h=>h,fun b o _ (_:FE o=true) ho=>ho,fun b o hb (_:FE o=true) _ hm=>hb ((hMM b).1 hm)⟩
 let B1:Base:=⟨own,loc,M0,1,w,nt,some l,w.heap.size,Nat.le_refl _,[]⟩
 let a1:Act:={ tmps:=(L.params.zip vs).foldl (fun tmps (t,a)=>tmps.setIfInBounds t a) L.tmps,defers:=[] }
 have pC:a1.tmps=(L.params.toList.zip vs.toList).foldl (fun t p=>t.setIfInBounds p.1 p.2) tm:=by
  show (L.params.zip vs).foldl _ _=_
  rw[<-Array.foldl_toList,Array.toList_zip,hLt]
 have R1:Rel B1 ⟨SY L.params.toList x sl,own⟩ a1 w loc:=by
  refine⟨⟨hidn,?_,fun b hb hm=>((hM0 b).1 hm).2 hb,fun b hb=>bS b ((hMM b).1 hb),fun e he=>AV (W0 _) (Nat.le_refl _) (fun _ _ _ h=>h) (qK e he)⟩,Upd.refl _ _,fun b hb=> .inl hb,fun e he _=>Ay hidn he,?_,?_,⟨[],rfl,List.nodup_nil,by simp[CV],by simp,by simp⟩⟩
  ·rw[bX0]at hnd;exact hnd.1
  ·intro i;rw[pC];refine rI _ _ _ _ _ (by simpa using hx) (fun p hp=>by rw[qX];exact bM p hp) ?_ ?_ i
   ·exact AP (n:=0) ⟨fun _ _ _ h=>by omega,fun b o _ (_:FE o=true) ho=>ho,fun b o hb (_:FE o=true) _ hm=>hb ((hMM b).1 hm)⟩ _ _ (dD0 hx0) wS
   ·intro q
    rcases YD sl q with h1 | h1
    ·rw[h1];simp[rd]
    ·exact Bk (W0 _) _ _ (Nat.le_refl _) (jR _ h1)
  ·rw[pC,ON];exact qX
 refine⟨L.fn,_,L.assign,L.body,hy,roundIn_of_wpIn (F:=wd none) trivial ?_⟩;refine wpIn_mono (h ⟨B1,Nat.le_refl _⟩ rfl a1 w loc R1) ?_;rintro e a' w' ⟨s',loc',hq,R'⟩
 cases e<;>simp only[RA]at hq<;>first
  | exact hq.elim
  | skip
 -- the record lies as it lay
 have fC:w'.heap[l]? =some (.loop L):=by
  rw[R'.upd.blk l (aC0.1 zG).1 gR];exact zG
 have hllt:l<w'.heap.size:=(aC0.1 fC).1;refine⟨w'.putObj l (.loop { L with state:= .busy }),run_beginRound fC hL,?_⟩;obtain⟨w2,mU⟩:∃w2,w2=w'.putObj l (.loop { L with state:= .busy }):=⟨_,rfl⟩;rw[<-mU];have hsz2:w2.heap.size=w'.heap.size:=by rw[mU];exact Fw _ _ _
 have hoth:∀b,b≠l->w2.heap[b]? =w'.heap[b]? :=fun b hb=>by rw[mU];exact World.putObj_heap_other hb
 have hlb:w2.heap[l]? =some (.loop { L with state:= .busy }):=by rw[mU];exact World.putObj_heap_same hllt
 have hlM0:l∈M0:=(hM0 l).2 ⟨hlM,gR⟩;have dW:l∉Aa s'.own loc':=fun hm=>R'.st.ap l hm hlM0
 have hd2:∀(b:Nat) (o:Obj),FE o=true->w'.heap[b]? =some o->w2.heap[b]? =some o:=by
  intro b o ho hb;rw[hoth b (fun he=>by subst he;rw[fC]at hb;simp only[aA0]at hb;subst hb;simp[FE]at ho)];exact hb
 have St2:St s'.own loc' M0 w2.heap:=R'.st.same (dD0 hsz2.symm) hd2 (fun b o hm hb=>by rw[hoth b (fun he=>dW (he▸hm))];exact hb)
 have W2:∀n,Weak (Ac s'.own loc') (Ac s'.own loc') (Aa s'.own loc'++M0) (Aa s'.own loc'++M0) w'.heap w2.heap n:=fun n =>
  ⟨fun _ _ _ _ h=>h,fun b o _ (h1:FE o=true) h2=>hd2 b o h1 h2,fun b o hb (_:FE o=true) _=>hb⟩
 let B2:Base:=⟨s'.own,loc',M0,1,w2,nt,some l,w2.heap.size,Nat.le_refl _,[]⟩
 obtain⟨rs,cE,_,_,hrs2,_⟩:=R'.df;have hz:rs=[]:=hrs2 (by simp[B1])
 let B2:Base:=⟨s'.own,loc',M0,1,w2,nt,some l,w2.heap.size,Nat.le_refl _,[]⟩
 have R2:Rel B2 s' a' w2 loc' :=
  ⟨St2,Upd.refl _ _,fun b hb=> .inl hb,fun e he _=>Ay St2.nd he,fun i=>Bk (W2 _) _ _ (Nat.le_refl _) (R'.sl i),R'.nt,⟨[],by rw[hz]at cE;simpa using cE,List.nodup_nil,by simp[CV],by simp,by simp⟩⟩
 refine wpIn_mono (hq ⟨B2,Nat.le_refl _⟩ rfl a' w2 loc' R2) ?_;rintro e a2 w3 ⟨s3,loc3,gW,R3⟩
 have fU:w3.heap[l]? =some (.loop { L with state:= .busy }):=by
  rw[R3.upd.blk l (aC0.1 hlb).1 dW];exact hlb
 have fin:∀(jump:Option Code),Sub B2 ⟨[],s3.own⟩ ⟨[],S⟩->jump.isNone=okk->jump=(if okk then none else some j)->∃v w4,(Instr.endRound l jump).run P w3= .ok v w4/\∃v0,Ending.returned v= .returned v0/\v0= .bool okk/\∃bl',Upd (Aa own loc++[l]) w w4/\bl'.Nodup/\(∀q∈bl',q<w4.heap.size/\(q∈Aa own loc++[l]\/w.heap.size<=q)) /\
   ∀M',(∀q∈M',q∈bl'\/(q∈M/\q∉Aa own loc++[l]))->(BU_ sl hsl S tm own0 loc0 l { L with state:=if okk then .ready else .done,pending:=if okk then none else some j }).J M' bl' (.func (.yield l) #[] #[]) w4.heap:=by
  intro jump vN hj1 hj2;have qD:=run_endRound (P:=P) jump fU
  have hrec':({ ({ L with state:= .busy }:Loop)with state:=if jump.isNone then .ready else .done,pending:=jump }:Loop)={ L with state:=if okk then .ready else .done,pending:=if okk then none else some j }:=by
   rw[hj1,hj2]
  rw[hrec',hj1]at qD;obtain⟨w4,cL⟩:∃w4,w4=w3.putObj l (.loop { L with state:=if okk then .ready else .done,pending:=if okk then none else some j }):=⟨_,rfl⟩;rw[<-cL]at qD;have pL:=(aC0.1 fU).1;have nX:w4.heap.size=w3.heap.size:=by rw[cL];exact Fw _ _ _
  have jJ:∀b,b≠l->w4.heap[b]? =w3.heap[b]? :=fun b hb=>by rw[cL];exact World.putObj_heap_other hb
  have hl4:w4.heap[l]? =some (.loop { L with state:=if okk then .ready else .done,pending:=if okk then none else some j }):=by rw[cL];exact World.putObj_heap_same pL
  have R3':Rel B2 ⟨[],s3.own⟩ a2 w3 loc3:=⟨R3.st,R3.upd,R3.new,R3.ver,fun i=>by simp[getS,rd],R3.nt,R3.df⟩;obtain⟨loc4,R4⟩:=vN a2 w3 loc3 R3';have dG:l∉Aa S loc4:=fun hm=>R4.st.ap l hm hlM0
  have uput:∀(v:World) (o:Obj),Upd [l] v (v.putObj l o):=fun v o=>⟨rfl,rfl,rfl,fun _=>Nat.le_refl _,by rw[Fw];exact Nat.le_refl _,fun b _ hb=>World.putObj_heap_other (fun h=>hb (by simp[h]))⟩
  have U1:Upd (Aa own loc++[l]) w w':=(Upd.refl _ w).trans R'.upd (fun x hx=> .inl (aM0 _ hx));have U2:Upd (Aa own loc++[l]) w w2:=by rw[mU];exact U1.trans (uput _ _) (fun x hx=> .inl (aN0 _ hx))
  have U3:Upd (Aa own loc++[l]) w w3:=U2.trans R4.upd (fun x hx=>(R'.new x hx).imp (fun h=>aM0 _ h) id);have U4:Upd (Aa own loc++[l]) w w4:=by rw[cL];exact U3.trans (uput _ _) (fun x hx=> .inl (aN0 _ hx))
  have kP:∀q∈Aa S loc4,q<w4.heap.size/\(q∈Aa own loc++[l]\/w.heap.size<=q):=by
   intro q hq;refine⟨by rw[nX];exact R4.st.lt q (aM0 _ hq),?_⟩
   rcases R4.new q hq with h | h
   ·exact(R'.new q h).imp (fun h=>aM0 _ h) id
   ·exact .inr (Nat.le_trans U2.size h)
  refine⟨_,w4,qD,_,rfl,rfl,Aa S loc4++[l],U4,?_,?_,?_⟩
  ·rw[bX0];exact⟨R4.st.bl,by simp,fun b hb b' qM jI=>dG (by simp only[aE0]at qM;rw[<-qM,<-jI];exact hb)⟩
  ·intro q hq
   rcases aG0.1 hq with hq | hq
   ·exact kP q hq
   ·simp only[aE0]at hq;subst hq;exact⟨by rw[nX];exact pL,.inl (by simp)⟩
  ·intro M' hM'
   have dS:∀e∈S,e.r<1->Ac own loc e.id e.r=some (loc4 e.id):=by
    intro e he qV;obtain⟨e1,h1,h2,h3,h4⟩:=BE (R4.ver e he qV);have h5:=R'.ver e1 h1 (by show e1.r<1;omega);rw[h2,h3]at h5;rw[h4];exact h5
   have hinM:∀b∈M',b∈Aa S loc4++M0:=by
    intro b hb
    rcases hM' b hb with h | ⟨h1,h2⟩
    ·rcases aG0.1 h with h | h
     ·exact aM0 _ h
     ·simp only[aE0]at h;subst h;exact aN0 _ hlM0
    ·exact aN0 _ ((hM0 b).2 ⟨h1,fun h=>h2 (aM0 _ h)⟩)
   have hd4:∀(b:Nat) (o:Obj),FE o=true->w3.heap[b]? =some o->w4.heap[b]? =some o:=by
    intro b o ho hb;rw[jJ b (fun he=>by subst he;rw[fU]at hb;simp only[aA0]at hb;subst hb;simp[FE]at ho)];exact hb
   have W4:∀n,Weak (Ac S loc4) (Ac S loc4) (Aa S loc4++M0) M' w3.heap w4.heap n:=fun n =>
    ⟨fun _ _ _ _ h=>h,fun b o _ (h1:FE o=true) h2=>hd4 b o h1 h2,fun b o hb (_:FE o=true) _ hm=>hb (hinM b hm)⟩
   have W5:Weak (Ac own loc) (Ac S loc4) M M' w.heap w4.heap 1:=by
    refine lU dS (fun b o hb _ ho=> ?_) (fun b hb=> ?_)
    ·rw[U4.blk b (aC0.1 ho).1 (fun h=>hb (nC b h))];exact ho
    ·rcases hM' b hb with h | ⟨h1,_⟩
     ·rcases aG0.1 h with h | h
      ·exact(kP b h).2.imp (nC b) id
      ·simp only[aE0]at h;subst h;exact .inl hlM
     ·exact .inl h1
   refine⟨rfl,loc4,rfl,R4.st.nd,fun e he=> ?_,fun p hp=> ?_,hl4,fun e he qV=> ?_⟩
   ·exact AV (W4 _) (Nat.le_refl _) (fun b o hb ho=>by rw[jJ b (fun h=>dG (h▸AW he hb))];exact ho) (R4.st.ok e he)
   ·refine Bk W5 _ _ (Nat.le_trans ?_ hsl) (jR p hp)
    have:∀(l:List (Nat×DVal)),p∈l->mx p.2<=Hk l:=by
     intro l
     induction l with
     | nil=>intro h;cases h
     | cons q l ih =>
      intro h;simp only[Hk]
      rcases aK0.1 h with rfl | h
      ·omega
      ·have:=ih h;omega
    exact this sl hp
   ·obtain⟨e1,h1,h2,h3,h4⟩:=BE (dS e he qV);have h5:=hver0 e1 h1 (by omega);rw[h2,h3]at h5;rw[h4];exact h5
 cases e<;>simp only[RQ]at gW<;>simp only[roundPost]
 ·obtain⟨rfl,hs⟩:=gW;exact fin none hs rfl rfl
 ·obtain⟨rfl,rfl,hs⟩:=gW;exact fin _ hs rfl rfl
 ·obtain⟨rfl,rfl,hs⟩:=gW;exact fin _ hs rfl rfl
 ·obtain⟨rfl,rfl,hs⟩:=gW;exact fin _ hs rfl rfl
def CG (ok:Nat->Bool):Nat->Option Nat
 | 0=>none
 | n+1=>match CG ok n with
  | some k=>some k
  | none=>if ok n then none else some n
def ES_ (P:Program) (f:FuncId) (us cs:List DVal) (xs:List (List DVal)) (ok:Nat->Bool):Prop :=
 ∀(l:Nat) (A Z:Nat->Abs),(∀k x,xs[k]? =some x->(∀j,j<k->ok j=true)->YAt P l (A k) x (ok k) (if ok k then A (k+1)else Z k)) ->
  Bj P (.func f) (us++ .pk 0 0::cs) [⟨0,0,.abs (yH l)⟩,⟨1,0,.abs (A 0)⟩] (.tup []) [⟨0,0,.abs (yH l)⟩,⟨1,1,.abs (match CG ok xs.length with | none=>A xs.length | some k=>Z k)⟩]
def Dr_ (P:Program) (c:Code) (idx:List Nat) (nt:Nat) (e0:Exit):Gn_:=fun vs w R=>∀a:Act,idx.map (fun i=>a.tmps.getD i Go.undef)=vs.toList->a.tmps.size=nt ->
 c.wpIn (wd none) 0 P (fun e a' w'=>e=e0/\(∃D,a'={ a with defers:={ target:= .collected D,args:= #[] }::a.defers }/\w.heap.size<=D/\w'.heap[D]? =some (.deferred (some [])))/\R (.tuple #[]) w') a w
theorem rG {cur:ES} {M:List Nat} {h:Array Obj} {f:Nat->Value}:∀{sl:List (Nat×DVal)},rdV cur M h (sl.map (·.2)) (sl.map fun p=>f p.1)->∀p∈sl,rd cur M h p.2 (f p.1)
 | [],_,p,hp=>by cases hp
 | q::sl,hr,p,hp=>by
  simp only[List.map_cons,rdV]at hr;obtain⟨v,r,he,h1,h2⟩:=hr;simp only[bG0]at he;obtain⟨rfl,rfl⟩:=he
  rcases aK0.1 hp with rfl | hp
  ·exact h1
  ·exact rG h2 p hp
theorem AW_ {P:Program} {gt nt:Nat} {ps:Array Tmp} {assign body:Code} {f:FuncId} {us cs:List DVal} {xs:List (List DVal)} {ok:Nat->Bool} {sl:List (Nat×DVal)} {S Z:Nat->List Ent} {jc:Nat->Code} {T:List Ent} {e0:Exit}
  (hsl:Hk sl<=1) (hI:ES_ P f us cs xs ok) (vG:AJ us=0/\AJ cs=0) (hgt:(gt,.fn (.func f) us cs)∈sl) (bM:∀x∈xs,x.length=ps.size/\AJ x=0) (hpn:∀p∈ps.toList,p<nt)
  (round:∀k x,xs[k]? =some x->(∀j,j<k->ok j=true)->∀B:BaseN,B.nt=nt->DW P B assign (RA P nt body (ok k) (if ok k then S (k+1)else Z k) (jc k)) ⟨SY ps.toList x sl,S k⟩)
  (hT:match CG ok xs.length with | none=>e0= .normal/\T=S xs.length | some k=>(jc k= .ret/\e0= .ret\/(∃id,jc k= .exit id/\e0= .exit id)\/(∃t,jc k= .goto t/\e0= .goto t))/\T=Z k) :
  EW_ (Dr_ P (.rangeFunc (.tmp gt) ps assign body) (sl.map (·.1)) nt e0) (sl.map (·.2)) (S 0) (.tup []) T:=by
 intro M w loc vs St0 hr a wS qX
 have jR:∀p∈sl,rd (Ac (S 0) loc) (Aa (S 0) loc++M) w.heap p.2 (a.tmps.getD p.1 Go.undef):=by
  refine rG (f:=fun i=>a.tmps.getD i Go.undef) ?_;rw[<-wS,cC0]at hr;exact hr
 have hg:=jR _ hgt;simp only[rd]at hg;obtain⟨us',cs',hv,vV,yY⟩:=hg;refine wpIn_rangeFunc ?_;intro fn hfn;obtain⟨rec,zG⟩:∃rec:Loop,rec={ state:= .ready,pending:=none,fn,tmps:=a.tmps,params:=ps,assign,body,defers:=w.heap.size }:=⟨_,rfl⟩;obtain⟨W1,nH⟩:∃W1,W1=(w.alloc (.deferred (some []))).alloc (.loop rec):=⟨_,rfl⟩;obtain⟨l,hl⟩:∃l,l=w.heap.size+1:=⟨_,rfl⟩;have hsz1:W1.heap.size=w.heap.size+2:=by rw[nH];simp
 have cR:∀b,b<w.heap.size->W1.heap[b]? =w.heap[b]? :=by
  intro b hb;rw[nH];simp only[World.alloc,bS0,Array.size_push];rw[if_neg (by omega),if_neg (by omega)]
 have hD1:W1.heap[w.heap.size]? =some (.deferred (some [])):=by
  rw[nH];simp only[World.alloc,bS0,Array.size_push];rw[if_neg (by omega)];simp
 have kX:W1.heap[l]? =some (.loop rec):=by
  rw[nH,hl];simp only[World.alloc,bS0,Array.size_push];simp
 have vJ:=run_enterLoop_outer (P:=P) (w:=w) fn a.tmps ps assign body;rw[<-zG,<-nH,<-hl]at vJ
 let A:Nat->Abs:=fun k=>BU_ sl hsl (S k) a.tmps (S 0) loc l rec
 let Zs:Nat->Abs:=fun k=>BU_ sl hsl (Z k) a.tmps (S 0) loc l { rec with state:= .done,pending:=some (jc k) }
 have hy:∀k x,xs[k]? =some x->(∀j,j<k->ok j=true)->YAt P l (A k) x (ok k) (if ok k then A (k+1)else Zs k):=by
  intro k x hx hj;have vD:=bM x (bJ0 hx);have hY:=Ht_ (hsl:=hsl) (own:=S k) (S:=if ok k then S (k+1)else Z k) (own0:=S 0) (loc0:=loc) (l:=l) (L:=rec) (tm:=a.tmps) (nt:=nt) (x:=x) (okk:=ok k) (j:=jc k) (by rw[zG]) (by rw[zG]) (by rw[zG]) qX (by rw[zG];exact vD.1) (by rw[zG];exact hpn) vD.2 (by rw[zG];exact round k x hx hj)
  cases hk:ok k with
  | true =>
   rw[hk]at hY;have e1:({ rec with state:=if true=true then .ready else .done,pending:=if true=true then none else some (jc k) }:Loop)=rec:=by rw[zG];rfl
   rw[e1]at hY;exact hY
  | false =>
   rw[hk]at hY;exact hY
 have hD:=hI l A Zs hy;have gM:∀b∈Aa (S 0) loc,b<w.heap.size:=fun b hb=>St0.lt b (aM0 _ hb)
 let loc1:Nat->Loc:=fun i=>if i=0 then ⟨[],.func (.yield l) #[] #[]⟩else ⟨Aa (S 0) loc++[l],.func (.yield l) #[] #[]⟩
 have yV:Aa [⟨0,0,.abs (yH l)⟩,⟨1,0,.abs (A 0)⟩] loc1=Aa (S 0) loc++[l]:=by simp[Aa,loc1]
 have W1w:∀n,Weak (Ac (S 0) loc) (Ac (S 0) loc) (Aa (S 0) loc++M) (Aa (S 0) loc++[l]++M) w.heap W1.heap n:=fun n =>
  ⟨fun _ _ _ _ h=>h,fun b o _ (_:FE o=true) ho=>by rw[cR b (aC0.1 ho).1];exact ho,fun b o hb (_:FE o=true) ho hm=>by
   have qV:=(aC0.1 ho).1;simp only[aG0,aE0]at hm hb
   rcases hm with (hm | hm) | hm
   ·exact hb (.inl hm)
   ·omega
   ·exact hb (.inr hm)⟩
 have St1:St [⟨0,0,.abs (yH l)⟩,⟨1,0,.abs (A 0)⟩] loc1 M W1.heap:=by
  refine⟨by simp,?_,?_,?_,?_⟩
  ·rw[yV,bX0];exact⟨St0.bl,by simp,fun b hb b' qM=>by simp only[aE0]at qM;have:=gM b hb;omega⟩
  ·rw[yV];intro b hb hm
   rcases aG0.1 hb with hb | hb
   ·exact St0.ap b hb hm
   ·simp only[aE0]at hb;have:=St0.lt b (aN0 _ hm);omega
  ·rw[yV];intro b hb;simp only[aG0,aE0]at hb
   rcases hb with (hb | hb) | hb
   ·have:=gM b hb;omega
   ·omega
   ·have:=St0.lt b (aN0 _ hb);omega
  ·intro e he;simp only[aK0,eX0,or_false]at he
   rcases he with rfl | rfl
   ·exact⟨rfl,rfl⟩
   ·refine⟨rfl,loc,rfl,St0.nd,fun e he=> ?_,fun p hp=> ?_,kX,fun e he _=>Ay St0.nd he⟩
    ·rw[yV];exact AV (W1w _) (Nat.le_refl _) (fun b o hb ho=>by rw[cR b (aC0.1 ho).1];exact ho) (St0.ok e he)
    ·rw[yV];exact Bk (W1w _) _ _ (Nat.le_refl _) (jR p hp)
 have W1z:Weak (Ac (S 0) loc) (Ac [⟨0,0,.abs (yH l)⟩,⟨1,0,.abs (A 0)⟩] loc1) (Aa (S 0) loc++M) (Aa [⟨0,0,.abs (yH l)⟩,⟨1,0,.abs (A 0)⟩] loc1++M) w.heap W1.heap 0:=by
  rw[yV];exact⟨fun _ _ _ h=>by omega,(W1w 0).b,(W1w 0).m⟩
 have fZ:=hD.2.2 M W1 loc1 (us'++ #[.func (.yield l) #[] #[]]++cs') St1 (by
  have e1:(us'++ #[Value.func (.yield l) #[] #[]]++cs').toList=us'.toList++Value.func (.yield l) #[] #[]::cs'.toList:=by simp
  rw[e1];refine Cf _ _ _ _ (AP W1z _ _ (dD0 vG.1) vV) ?_;simp only[rdV];refine⟨_,_,rfl,?_,AP W1z _ _ (dD0 vG.2) yY⟩;simp only[rd];intro lc hlc;have:Ac [⟨0,0,.abs (yH l)⟩,⟨1,0,.abs (A 0)⟩] loc1 0 0=some (loc1 0):=rfl;rw[this]at hlc;simp only[aA0]at hlc;rw[<-hlc]
  rfl)
 have kW:a.eval (.tmp gt)= .func (.func f) us' cs':=hv;refine⟨l,[{ target:= .collected w.heap.size,args:= #[] }],W1,{ target:= .fn (.func f) cs',args:=us'++ #[.func (.yield l) #[] #[]] },W1,f,us'++ #[.func (.yield l) #[] #[]]++cs',W1,vJ,?_,fun _ _=>trivial,?_,fun h=>by simp[wd]at h,?_⟩
 ·simp only[resolve,rangeCall,kW];simp[Deferred.ofValue,Act.eval]
 ·simp only[invoke];exact fZ.1 _ _
 ·refine(KA none _ fZ.2).mono ?_;rintro e w2 ⟨v,rfl,loc2,S2,hu,wG,vB,_⟩;have hk:=S2.ok _ (aF0 _ aH0);have zD:=S2.ok _ aH0;have qR:(loc2 0).blks=[]:=zD.1
  -- what is known behind, by the loop's state
  have main:∀(L:Loop) (T':List Ent),(BU_ sl hsl T' a.tmps (S 0) loc l L).J (Aa [⟨0,0,.abs (yH l)⟩,⟨1,1,.abs (match CG ok xs.length with | none=>A xs.length | some k=>Zs k)⟩] loc2++M) (loc2 1).blks (loc2 1).hdr w2.heap->L.state≠ .busy ->
    (Instr.endLoop l).run P w2= .ok L.pending (w2.putObj l (.loop { L with state:= .exhausted }))/\(∃D,({ a with defers:=[{ target:= .collected w.heap.size,args:= #[] }]++a.defers }:Act)={ a with defers:={ target:= .collected D,args:= #[] }::a.defers }/\w.heap.size<=D/\(w2.putObj l (.loop { L with state:= .exhausted })).heap[D]? =some (.deferred (some []))) /\
    ∃loc',St T' loc' M (w2.putObj l (.loop { L with state:= .exhausted })).heap/\Upd (Aa (S 0) loc) w (w2.putObj l (.loop { L with state:= .exhausted }))/\(∀b∈Aa T' loc',b∈Aa (S 0) loc\/w.heap.size<=b) /\
     (∀e∈T',e.r<1->Ac (S 0) loc e.id e.r=some (loc' e.id))/\rd (Ac T' loc') (Aa T' loc'++M) (w2.putObj l (.loop { L with state:= .exhausted })).heap (.tup []) (.tuple #[]):=by
   rintro L T' ⟨_,loc3,kP,hnd3,hob3,hsl3,fU,hver3⟩ hbusy
   have jY:Aa [⟨0,0,.abs (yH l)⟩,⟨1,1,.abs (match CG ok xs.length with | none=>A xs.length | some k=>Zs k)⟩] loc2=Aa T' loc3++[l]:=by
    simp[Aa,qR];simpa[Aa]using kP
   obtain⟨w4,cL⟩:∃w4,w4=w2.putObj l (.loop { L with state:= .exhausted }):=⟨_,rfl⟩;rw[<-cL];have qD:=run_endLoop (P:=P) fU hbusy;rw[<-cL]at qD;have nX:w4.heap.size=w2.heap.size:=by rw[cL];exact Fw _ _ _
   have jJ:∀b,b≠l->w4.heap[b]? =w2.heap[b]? :=fun b hb=>by rw[cL];exact World.putObj_heap_other hb
   rw[yV]at hu
   have gR:l∉Aa T' loc3:=by
    have:=S2.bl;rw[jY,bX0]at this;exact fun hm=>this.2.2 l hm l (by simp) rfl
   refine⟨qD,⟨w.heap.size,rfl,Nat.le_refl _,?_⟩,loc3,?_,?_,?_,hver3,?_⟩
   ·rw[jJ _ (by omega),hu.blk _ (by omega) (fun h=>by
     simp only[aG0,aE0]at h
     rcases h with h | h
     ·have:=gM _ h;omega
     ·omega)]
    exact hD1
   ·have vN:∀b∈Aa T' loc3,b∈Aa T' loc3++[l]:=fun b hb=>aM0 _ hb
    have hd4:∀(b:Nat) (o:Obj),FE o=true->w2.heap[b]? =some o->w4.heap[b]? =some o:=by
     intro b o ho hb;rw[jJ b (fun he=>by subst he;rw[fU]at hb;simp only[aA0]at hb;subst hb;simp[FE]at ho)];exact hb
    refine⟨hnd3,?_,fun b hb=>S2.ap b (by rw[jY];exact vN b hb),fun b hb=> ?_,fun e he=> ?_⟩
    ·have:=S2.bl;rw[jY,bX0]at this;exact this.1
    ·rw[nX];refine S2.lt b ?_;rw[jY]
     rcases aG0.1 hb with hb | hb
     ·exact aM0 _ (vN b hb)
     ·exact aN0 _ hb
    ·have h3:=hob3 e he;rw[jY]at h3;refine AV (n:=Em e.obj) ⟨fun _ _ _ _ h=>h,fun b o _ (h1:FE o=true) h2=>hd4 b o h1 h2,fun b o hb (_:FE o=true) _ hm=>hb ?_⟩ (Nat.le_refl _) (fun b o hb ho=>by rw[jJ b (fun h=>gR (h▸AW he hb))];exact ho) h3
     rcases aG0.1 hm with hm | hm
     ·exact aM0 _ (vN b hm)
     ·exact aN0 _ hm
   ·have U1:Upd (Aa (S 0) loc) w W1:=⟨by rw[nH];rfl,by rw[nH];rfl,by rw[nH];rfl,fun _=>by rw[nH];exact Nat.le_refl _,by omega,fun b hb _=>cR b hb⟩
    have U2:Upd (Aa (S 0) loc) w w2:=U1.trans hu (fun x hx=>by
     simp only[aG0,aE0]at hx
     rcases hx with hx | hx
     ·exact .inl hx
     ·exact .inr (by omega))
    have U3:Upd [l] w2 w4:=by
     rw[cL];exact⟨rfl,rfl,rfl,fun _=>Nat.le_refl _,by rw[Fw];exact Nat.le_refl _,fun b _ hb=>World.putObj_heap_other (fun h=>hb (by simp[h]))⟩
    exact U2.trans U3 (fun x hx=> .inr (by simp only[aE0]at hx;omega))
   ·intro b hb;have hbm:b∈Aa [⟨0,0,.abs (yH l)⟩,⟨1,1,.abs (match CG ok xs.length with | none=>A xs.length | some k=>Zs k)⟩] loc2:=by rw[jY];exact aM0 _ hb
    rcases wG b hbm with h | h
    ·rw[yV]at h;simp only[aG0,aE0]at h
     rcases h with h | h
     ·exact .inl h
     ·exact .inr (by omega)
    ·exact .inr (by omega)
   ·simp only[rd];exact⟨#[],rfl,by simp[rdV]⟩
  clear wG vB
  cases wO:CG ok xs.length with
  | none =>
   rw[wO]at hT;obtain⟨rfl,rfl⟩:=hT
   have vH:(A xs.length).J (Aa [⟨0,0,.abs (yH l)⟩,⟨1,1,.abs (match CG ok xs.length with | none=>A xs.length | some k=>Zs k)⟩] loc2++M) (loc2 1).blks (loc2 1).hdr w2.heap:=by
    have h:=hk;simp only[KH]at h
    generalize hF:(match CG ok xs.length with | none=>A xs.length | some k=>Zs k)=F at h |-
    rw[wO]at hF;simp only at hF;subst hF;exact h
   obtain⟨h1,h2,h3⟩:=main rec _ vH (by rw[zG];simp);refine⟨_,_,h1,?_⟩;rw[zG];simp only;rw[zG]at h2 h3;exact⟨trivial,h2,h3⟩
  | some k =>
   rw[wO]at hT;obtain⟨hj,rfl⟩:=hT
   have vH:(Zs k).J (Aa [⟨0,0,.abs (yH l)⟩,⟨1,1,.abs (match CG ok xs.length with | none=>A xs.length | some k=>Zs k)⟩] loc2++M) (loc2 1).blks (loc2 1).hdr w2.heap:=by
    have h:=hk;simp only[KH]at h
    generalize hF:(match CG ok xs.length with | none=>A xs.length | some k=>Zs k)=F at h |-
    rw[wO]at hF;simp only at hF;subst hF;exact h
   obtain⟨h1,h2,h3⟩:=main _ _ vH (by simp);refine⟨_,_,h1,?_⟩;simp only
   rcases hj with ⟨hj,rfl⟩ | ⟨id,hj,rfl⟩ | ⟨t,hj,rfl⟩
   ·rw[hj]at h2 h3 |-;exact wpIn_ret ⟨rfl,h2,h3⟩
   ·rw[hj]at h2 h3 |-;exact wpIn_exit ⟨rfl,h2,h3⟩
   ·rw[hj]at h2 h3 |-;exact wpIn_goto ⟨rfl,h2,h3⟩
theorem WP {P:Program} {B:Base} {Q:Exit->DS->Prop} {s:DS} {gt nt:Nat} {ps:Array Tmp} {assign body:Code} {f:FuncId} {us cs:List DVal} {xs:List (List DVal)} {ok:Nat->Bool} (ρ ν:List (Nat×Nat)) (sl:List (Nat×DVal)) (S Z:Nat->List Ent) (jc:Nat->Code) (T:List Ent) (e0:Exit)
  (hI:ES_ P f us cs xs ok) (hB:B.nt=nt/\B.ro=none) (hsl:Hk sl<=1) (vG:AJ us=0/\AJ cs=0) (hgt:(gt,.fn (.func f) us cs)∈sl) (bM:∀x∈xs,x.length=ps.size/\AJ x=0) (hpn:∀p∈ps.toList,p<nt)
  (wL:LW s.own (BT s.own (Eb ρ)) (Eb ρ)=some (S 0)/\VR s.own ρ/\(Vv (sl.map fun p=>getS s.slots p.1)/\wkA ((sl.map fun p=>getS s.slots p.1).map (Hy (BT s.own (Eb ρ)))) (sl.map (·.2)))/\(((ρ++ν).map (·.1)).Nodup/\(ρ.map (·.2)).Nodup))
  (round:∀k x,xs[k]? =some x->(∀j,j<k->ok j=true)->∀B:BaseN,B.nt=nt->DW P B assign (RA P nt body (ok k) (if ok k then S (k+1)else Z k) (jc k)) ⟨SY ps.toList x sl,S k⟩)
  (hT:match CG ok xs.length with | none=>e0= .normal/\T=S xs.length | some k=>(jc k= .ret/\e0= .ret\/(∃id,jc k= .exit id/\e0= .exit id)\/(∃t,jc k= .goto t/\e0= .goto t))/\T=Z k)
  (hTo:Vu T)
  (hk:∀r,match Iz (DF s.own ρ ν r) T with
   | some l=>((Bl s.own ((ρ++ν).map (·.1))++l).map (·.id)).Nodup/\Q e0 ⟨s.slots,Bl s.own ((ρ++ν).map (·.1))++l⟩
   | none=>False):DW P B (.rangeFunc (.tmp gt) ps assign body) Q s:=by
 intro a w loc R;have h:=hk (Cd B s)
 split at h
 rotate_left
 ·exact h.elim
 rename_i l hl;obtain⟨hnd,hQ⟩:=h
 have hC:∀vs w (R R':Value->World->Prop),(∀v w',R v w'->R' v w')->Dr_ P (.rangeFunc (.tmp gt) ps assign body) (sl.map (·.1)) nt e0 vs w R->Dr_ P (.rangeFunc (.tmp gt) ps assign body) (sl.map (·.1)) nt e0 vs w R' :=
  fun vs w R R' h hc a h1 h2=>wpIn_mono (hc a h1 h2) (fun e a' w' ⟨k1,k2,k3⟩=>⟨k1,k2,h _ _ k3⟩)
 have hS:=aB hC ρ ν (AW_ hsl hI vG hgt bM hpn round hT) wL.1 wL.2.1 wL.2.2.1 wL.2.2.2 hl hTo (by simp[Vw,XP]) hnd;have qP:Cd B s=max B.N (max (Hk s.slots) (GY s.own)):=rfl
 have hw:=hS B.M0 w loc ((sl.map fun p=>a.tmps.getD p.1 Go.undef).toArray) (by omega) R.st (by
  have key:∀l:List (Nat×DVal),rdV (Ac s.own loc) (Aa s.own loc++B.M0) w.heap (l.map fun p=>getS s.slots p.1) (l.map fun p=>a.tmps.getD p.1 Go.undef):=by
   intro l
   induction l with
   | nil=>simp[rdV]
   | cons p l ih=>simp only[List.map_cons,rdV];exact⟨_,_,rfl,R.sl p.1,ih⟩
  simpa using key sl) a (by simp) (by rw[R.nt];exact hB.1)
 rw[hB.2];refine wpIn_mono hw ?_;rintro e a' w' ⟨rfl,⟨D,rfl,hD1,nK⟩,loc',St',hu,wG,vB,_⟩;have R':=R.step (dst:=none) (v:=Go.undef) (d:= .any) (n:=Cd B s) (by omega) (by omega) (fun i hi=>by simp at hi) St' hu wG vB (by simp[rd]);refine⟨_,loc',hQ,⟨R'.st,R'.upd,R'.new,R'.ver,R'.sl,R'.nt,?_⟩⟩;obtain⟨rs,h1,h2,h3,h4,h5⟩:=R.df;have cE:∀r∈CV rs,r<w.heap.size:=fun r hr=>(aC0.1 (h3 r hr).1).1
 refine⟨.inl D::rs,by simp[h1,Ck_],?_,?_,fun h=>absurd hB.2 h,fun g cs hm=>h5 g cs (by simpa using hm)⟩
 ·show (D::CV rs).Nodup
  rw[cV0];exact⟨fun hm=>by have:=cE D hm;omega,h2⟩
 ·intro r hr
  rcases aK0.1 (show r∈D::CV rs from hr)with rfl | hr
  ·refine⟨nK,Nat.le_trans B.hnd (Nat.le_trans R.upd.size hD1),fun hm=> ?_⟩
   rcases aG0.1 hm with hm | hm
   ·obtain⟨e,he,hb⟩:=bP0.1 hm;exact CZ_ (St'.ok e he) _ hb _ nK
   ·have:=R.st.lt r (aN0 _ hm);omega
  ·obtain⟨k1,k2,k3⟩:=h3 r hr;have qV:=cE r hr;refine⟨?_,k2,fun hm=> ?_⟩
   ·rw[hu.blk r qV (fun hm=>k3 (aM0 _ hm))];exact k1
   ·rcases aG0.1 hm with hm | hm
    ·rcases wG r hm with h | h
     ·exact k3 (aM0 _ h)
     ·omega
    ·exact k3 (aN0 _ hm)
def yOK (own:List Ent) (id r' l:Nat) (A:Abs):Prop:=match Ah own id,Ah own (id+1)with
 | some e0,some e=>e0.r=r'/\e0.obj= .abs (yH l)/\e.obj= .abs A
 | _,_=>False
theorem Nr {P:Program} {id r' l:Nat} {args:List DVal} {own:List Ent} {K:ContE} {A A':Abs} {b:Bool} (hY:YAt P l A args b A') (wL:yOK own id r' l A/\AJ args=0)
  (hk:∀r,K.f (.bool b) (upE own (id+1) r (.abs A'))):Es_ P id r' args own K:=by
 obtain⟨h,hm⟩:=wL;unfold yOK at h
 split at h
 ·rename_i e0 e h1 h2;exact⟨e0,l,e,A,A',b,h1,h.1,h.2.1,h2,h.2.2,hm,hY,hk⟩
 ·exact h.elim
theorem JJ {ok:Nat->Bool}:∀{n k:Nat},k<n->(∀j,j<k->ok j=true)->ok k=false->CG ok n=some k
 | n+1,k,hk,hj,ho=>by
  simp only[CG]
  by_cases h:k<n
  ·rw[JJ h hj ho]
  ·have:k=n:=by omega
   subst this
   have:CG ok k=none:=by
    have key:∀m,m<=k->CG ok m=none:=by
     intro m
     induction m with
     | zero=>intro _;rfl
     | succ m ih=>intro hm;simp only[CG,ih (by omega),hj m (by omega),if_true]
    exact key k (Nat.le_refl _)
   rw[this,ho];rfl
theorem JK {ok:Nat->Bool}:∀{n:Nat},(∀j,j<n->ok j=true)->CG ok n=none
 | 0,_=>rfl
 | n+1,hj=>by simp only[CG,JK (n:=n) (fun j h=>hj j (by omega)),hj n (by omega),if_true]
attribute [simp] yOK RA RQ SY
end Go.Dm
end
