/- Parts of a proof, laid together: EnW, EnX. -/
import Derived.RangeFuncNested
import Derived.Test.YtiojapdolljocaaGreatqMx15
set_option linter.unusedSimpArgs false
set_option maxHeartbeats 8000000
set_option linter.unusedVariables false
set_option linter.unusedSectionVars false
section
namespace Go.Dm
variable [DMode]
theorem CK_ {cur:ER} {M:List Nat} {h:Array Obj} {l:Loc} {obj:DObj} (hk:Kh cur M h l obj):∀b∈l.blks,∀c,h[b]? ≠some (.deferred c):=by
 intro b hb c hc
 cases obj with
 | box cs =>
  obtain⟨b',arr,ty,h1,h2,_⟩:=hk;rw[h1]at hb;simp only[aF0]at hb;subst hb;rw[h2]at hc;simp at hc
 | row et k bs es =>
  obtain⟨_,⟨_,h1,_⟩ | ⟨b',arr,cap,h1,h2,h3,_⟩⟩:=hk
  ·rw[h1]at hb;cases hb
  ·rw[h1]at hb;simp only[aF0]at hb;subst hb;rw[h3]at hc;simp at hc
 | map ks vs =>
  obtain⟨b',es,clk,h1,h2,_⟩:=hk;rw[h1]at hb;simp only[aF0]at hb;subst hb;rw[h2]at hc;simp at hc
 | abs A=>exact A.nd _ _ _ _ hk b hb c hc
def BE_ (sl:List (Nat×DVal)) (hsl:Ku sl<=1) (own:List Ent) (tm:Array Value) (own0:List Ent) (loc0:Nat->Loc) (l:Nat) (L:Loop):Abs where
 J:=fun M bl hd h=>hd= .func (.yield l) #[] #[]/\∃loc,bl=Aa own loc++[l]/\(own.map (·.id)).Nodup/\(∀e∈own,Kh (Ad own loc) M h (loc e.id) e.obj) /\
  (∀p∈sl,rd (Ad own loc) M h p.2 (tm.getD p.1 Go.undef))/\h[l]? =some (.loop L)/\(∀e∈own,e.r<1->Ad own0 loc0 e.id e.r=some (loc e.id))
 weak:=by
  rintro M M' bl hd h h' hb hm hk ⟨h1,loc,h2,h3,h4,h5,h6,h7⟩;have W:∀n,Weak (Ad own loc) (Ad own loc) M M' h h' n:=fun n=>⟨fun _ _ _ _ h=>h,hb,hm⟩
  refine⟨h1,loc,h2,h3,fun e he=>Bk (W _) (Nat.le_refl _) (fun b o qM ho=>hk b o ?_ ho) (h4 e he),fun p hp=>Cn (W _) _ _ (Nat.le_refl _) (h5 p hp),hk l _ ?_ h6,h7⟩
  ·rw[h2];exact aM0 _ (Bf he qM)
  ·rw[h2];simp
 one:=by rintro _ _ _ _ ⟨rfl,_⟩;exact⟨rfl,rfl⟩
 nd:=by
  rintro M bl hd h ⟨_,loc,rfl,_,h4,_,h6,_⟩ b hb c hc
  rcases aH0.1 hb with hb | hb
  ·obtain⟨e,he,hb⟩:=bQ0.1 hb;exact CK_ (h4 e he) b hb c hc
  ·simp only[aF0]at hb;subst hb;rw[h6]at hc;simp at hc
def SE : List Nat->List DVal->List (Nat×DVal)->List (Nat×DVal)
 | p::ps,d::ds,l=>SE ps ds ((p,d)::l)
 | _,_,l=>l
theorem Oq : ∀(z:List (Nat×Value)) (t:Array Value),(z.foldl (fun t p=>t.setIfInBounds p.1 p.2) t).size=t.size
 | [],t=>rfl
 | p::z,t=>by rw[cT0,Oq z];simp
theorem rA {cur:ER} {M:List Nat} {h:Array Obj}:∀(ps:List Nat) (ds:List DVal) (vs:List Value) (l:List (Nat×DVal)) (t:Array Value),ds.length=ps.length->(∀p∈ps,p<t.size)->Az cur M h ds vs ->
  (∀i,rd cur M h (Bl l i) (t.getD i Go.undef))->∀i,rd cur M h (Bl (SE ps ds l) i) (((ps.zip vs).foldl (fun t p=>t.setIfInBounds p.1 p.2) t).getD i Go.undef)
 | [],ds,vs,l,t,hl,hp,hr,hs=>by
  cases ds with
  | nil=>simpa[SE]using hs
  | cons d ds=>simp at hl
 | p::ps,[],vs,l,t,hl,hp,hr,hs=>by simp at hl
 | p::ps,d::ds,vs,l,t,hl,hp,hr,hs=>by
  simp only[Az]at hr;obtain⟨v,r,rfl,h1,h2⟩:=hr;simp only[SE,List.zip_cons_cons,cT0];refine rA ps ds r _ _ (by simpa using hl) (fun q hq=>by simpa using hp q (aG0 _ hq)) h2 ?_;intro i;have qV:=hp p aI0;simp only[Bl,aL0,cR0]
  by_cases hi:i=p
  ·subst hi;simpa[qV]using h1
  ·rw[if_neg hi,if_neg (fun h=>hi h.symm)];have:=hs i;simpa[aL0]using this
theorem XY : ∀(l:List (Nat×DVal)) (i:Nat),Bl l i= .any\/(i,Bl l i)∈l
 | [],i=> .inl rfl
 | (j,d)::l,i=>by
  simp only[Bl]
  split
  ·rename_i h;subst h;exact .inr (by simp)
  ·exact(XY l i).imp id (fun h=>aG0 _ h)
def RQ (B:Base) (okk:Bool) (S:List Ent) (j:Code):Exit->DS->Prop
 | .normal,s=>okk=true/\Sub B ⟨[],s.own⟩ ⟨[],S⟩
 | .ret,s=>okk=false/\j= .ret/\Sub B ⟨[],s.own⟩ ⟨[],S⟩
 | .exit id,s=>okk=false/\j= .exit id/\Sub B ⟨[],s.own⟩ ⟨[],S⟩
 | .goto t,s=>okk=false/\j= .goto t/\Sub B ⟨[],s.own⟩ ⟨[],S⟩
 | _,_=>False
def RB (P:Program) (nt:Nat) (body:Code) (okk:Bool) (S:List Ent) (j:Code) (s:DS):Prop:=∀B:Base,B.nt=nt->DW P B body (RQ B okk S j) s
theorem Il_ {P:Program} {nt:Nat} {body:Code} {okk:Bool} {S:List Ent} {j:Code} {s:DS} (h:∀B:Base,B.nt=nt->DW P B body (RQ B okk S j) s):RB P nt body okk S j s:=h
def RA (P:Program) (nt:Nat) (body:Code) (okk:Bool) (S:List Ent) (j:Code):Exit->DS->Prop
 | .normal,s=>RB P nt body okk S j s
 | _,_=>False
theorem lK {own own':List Ent} {loc loc':Nat->Loc} {M M':List Nat} {h h':Array Obj} {n:Nat} (hc:∀e∈own',e.r<n->Ad own loc e.id e.r=some (loc' e.id)) (hb:∀(b:Nat) (o:Obj),b∉M->GM o=true->h[b]? =some o->h'[b]? =some o)
  (hm:∀b∈M',b∈M\/h.size<=b):Weak (Ad own loc) (Ad own' loc') M M' h h' n where
 c:=by
  intro id r l hr hl;obtain⟨e,he,rfl,rfl,rfl⟩:=BJ hl;exact hc e he hr
 b:=hb
 m:=by
  intro b o qM _ ho vN
  rcases hm b vN with h1 | h1
  ·exact qM h1
  ·have:=(aD0.1 ho).1;omega
theorem Fm (w:World) (l:Nat) (o:Obj):(w.putObj l o).heap.size=w.heap.size:=by simp[World.putObj]
theorem Ha_ {P:Program} {sl:List (Nat×DVal)} {hsl:Ku sl<=1} {own S:List Ent} {tm:Array Value} {own0:List Ent} {loc0:Nat->Loc} {l nt:Nat} {L:Loop} {x:List DVal} {okk:Bool} {j:Code}
  (hL:L.state= .ready) (hLp:L.pending=none) (hLt:L.tmps=tm) (qX:tm.size=nt) (hx:x.length=L.params.size) (gO:∀p∈L.params.toList,p<nt) (hx0:AL x=0)
  (h:∀B:Base,B.nt=nt->DW P B L.assign (RA P nt L.body okk S j) ⟨SE L.params.toList x sl,own⟩) :
  YAt P l (BE_ sl hsl own tm own0 loc0 l L) x okk (BE_ sl hsl S tm own0 loc0 l { L with state:=if okk then .ready else .done,pending:=if okk then none else some j }):=by
 rintro M bl hd w vs hnd pJ cV ⟨rfl,loc,rfl,hidn,wG,jT,zW,hver0⟩ vX;have hlM:l∈M:=pJ l (by simp)
 have bX:l∉Aa own loc:=by
  intro hm;rw[bV0]at hnd;exact hnd.2.2 l hm l (by simp) rfl
 have hhotM:∀b∈Aa own loc,b∈M:=fun b hb=>pJ b (aM0 _ hb)
 have qU:=Aw _ _ vX;simp only[bI0]at qU;have hy:=run_yield (P:=P) (args:=vs) zW (by omega)
 -- the base of the assignment
 let M0:List Nat:=M.filter (fun b=> !(Aa own loc).contains b)
 have hM0:∀b,b∈M0↔b∈M/\b∉Aa own loc:=by
  intro b;simp only[M0,cE0,List.contains_eq_mem,Bool.not_eq_true',decide_eq_false_iff_not]
 have hMM:∀b,b∈Aa own loc++M0↔b∈M:=by
  intro b;rw[aH0,hM0]
  constructor
  ·rintro (h | h)
   ·exact hhotM b h
   ·exact h.1
  ·intro h
   by_cases hb:b∈Aa own loc
   ·exact .inl hb
   ·exact .inr ⟨h,hb⟩
 have W0:∀n,Weak (Ad own loc) (Ad own loc) M (Aa own loc++M0) w.heap w.heap n:=fun n =>
  ⟨fun _ _ _ _ h=>h,fun b o _ (_:GM o=true) ho=>ho,fun b o hb (_:GM o=true) _ hm=>hb ((hMM b).1 hm)⟩
 let B1:Base:=⟨own,loc,M0,1,w,nt,some l,by decide,w.heap.size,Nat.le_refl _⟩
 let a1:Act:={ tmps:=(L.params.zip vs).foldl (fun tmps (t,a)=>tmps.setIfInBounds t a) L.tmps,defers:=[] }
 have pS:a1.tmps=(L.params.toList.zip vs.toList).foldl (fun t p=>t.setIfInBounds p.1 p.2) tm:=by
  show (L.params.zip vs).foldl _ _=_
  rw[<-Array.foldl_toList,Array.toList_zip,hLt]
 have R1:Rel B1 ⟨SE L.params.toList x sl,own⟩ a1 w loc:=by
  refine⟨⟨hidn,?_,fun b hb hm=>((hM0 b).1 hm).2 hb,fun b hb=>cV b ((hMM b).1 hb),fun e he=>Bk (W0 _) (Nat.le_refl _) (fun _ _ _ h=>h) (wG e he)⟩,Upd.refl _ _,fun b hb=> .inl hb,fun e he _=>AK hidn he,?_,?_,⟨[],rfl,List.nodup_nil,by simp⟩⟩
  ·rw[bV0]at hnd;exact hnd.1
  ·intro i;rw[pS];refine rA _ _ _ _ _ (by simpa using hx) (fun p hp=>by rw[qX];exact gO p hp) ?_ ?_ i
   ·exact AY (n:=0) ⟨fun _ _ _ h=>by omega,fun b o _ (_:GM o=true) ho=>ho,fun b o hb (_:GM o=true) _ hm=>hb ((hMM b).1 hm)⟩ _ _ (dH0 hx0) vX
   ·intro q
    rcases XY sl q with h1 | h1
    ·rw[h1];simp[rd]
    ·exact Cn (W0 _) _ _ (Nat.le_refl _) (jT _ h1)
  ·rw[pS,Oq];exact qX
 refine⟨L.fn,_,L.assign,L.body,hy,roundIn_of_wpIn (F:=wd none) trivial ?_⟩;refine wpIn_mono (h B1 rfl a1 w loc R1) ?_;rintro e a' w' ⟨s',loc',hq,R'⟩
 cases e<;>simp only[RA]at hq<;>first
  | exact hq.elim
  | skip
 -- the record lies as it lay
 have bK:w'.heap[l]? =some (.loop L):=by
  rw[R'.upd.blk l (aD0.1 zW).1 bX];exact zW
 have hllt:l<w'.heap.size:=(aD0.1 bK).1;refine⟨w'.putObj l (.loop { L with state:= .busy }),run_beginRound bK hL,?_⟩;obtain⟨w2,mF⟩:∃w2,w2=w'.putObj l (.loop { L with state:= .busy }):=⟨_,rfl⟩;rw[<-mF];have hsz2:w2.heap.size=w'.heap.size:=by rw[mF];exact Fm _ _ _
 have hoth:∀b,b≠l->w2.heap[b]? =w'.heap[b]? :=fun b hb=>by rw[mF];exact World.putObj_heap_other hb
 have hlb:w2.heap[l]? =some (.loop { L with state:= .busy }):=by rw[mF];exact World.putObj_heap_same hllt
 have hlM0:l∈M0:=(hM0 l).2 ⟨hlM,bX⟩;have dE:l∉Aa s'.own loc':=fun hm=>R'.st.ap l hm hlM0
 have hd2:∀(b:Nat) (o:Obj),GM o=true->w'.heap[b]? =some o->w2.heap[b]? =some o:=by
  intro b o ho hb;rw[hoth b (fun he=>by subst he;rw[bK]at hb;simp only[aA0]at hb;subst hb;simp[GM]at ho)];exact hb
 have St2:St s'.own loc' M0 w2.heap:=R'.st.same (dH0 hsz2.symm) hd2 (fun b o hm hb=>by rw[hoth b (fun he=>dE (he▸hm))];exact hb)
 have W2:∀n,Weak (Ad s'.own loc') (Ad s'.own loc') (Aa s'.own loc'++M0) (Aa s'.own loc'++M0) w'.heap w2.heap n:=fun n =>
  ⟨fun _ _ _ _ h=>h,fun b o _ (h1:GM o=true) h2=>hd2 b o h1 h2,fun b o hb (_:GM o=true) _=>hb⟩
 let B2:Base:=⟨s'.own,loc',M0,1,w2,nt,some l,by decide,w2.heap.size,Nat.le_refl _⟩
 obtain⟨rs,gP,_,_,hrs2⟩:=R'.df;have hz:rs=[]:=hrs2 (by simp[B1])
 let B2:Base:=⟨s'.own,loc',M0,1,w2,nt,some l,by decide,w2.heap.size,Nat.le_refl _⟩
 have R2:Rel B2 s' a' w2 loc' :=
  ⟨St2,Upd.refl _ _,fun b hb=> .inl hb,fun e he _=>AK St2.nd he,fun i=>Cn (W2 _) _ _ (Nat.le_refl _) (R'.sl i),R'.nt,⟨[],by rw[hz]at gP;simpa using gP,List.nodup_nil,by simp⟩⟩
 refine wpIn_mono (hq B2 rfl a' w2 loc' R2) ?_;rintro e a2 w3 ⟨s3,loc3,gU,R3⟩
 have gA:w3.heap[l]? =some (.loop { L with state:= .busy }):=by
  rw[R3.upd.blk l (aD0.1 hlb).1 dE];exact hlb
 have fin:∀(jump:Option Code),Sub B2 ⟨[],s3.own⟩ ⟨[],S⟩->jump.isNone=okk->jump=(if okk then none else some j)->∃v w4,(Instr.endRound l jump).run P w3= .ok v w4/\∃v0,Ending.returned v= .returned v0/\v0= .bool okk/\∃bl',Upd (Aa own loc++[l]) w w4/\bl'.Nodup/\(∀q∈bl',q<w4.heap.size/\(q∈Aa own loc++[l]\/w.heap.size<=q)) /\
   ∀M',(∀q∈M',q∈bl'\/(q∈M/\q∉Aa own loc++[l]))->(BE_ sl hsl S tm own0 loc0 l { L with state:=if okk then .ready else .done,pending:=if okk then none else some j }).J M' bl' (.func (.yield l) #[] #[]) w4.heap:=by
  intro jump yF hj1 pP;have qB:=run_endRound (P:=P) jump gA
  have hrec':({ ({ L with state:= .busy }:Loop)with state:=if jump.isNone then .ready else .done,pending:=jump }:Loop)={ L with state:=if okk then .ready else .done,pending:=if okk then none else some j }:=by
   rw[hj1,pP]
  rw[hrec',hj1]at qB;obtain⟨w4,cC⟩:∃w4,w4=w3.putObj l (.loop { L with state:=if okk then .ready else .done,pending:=if okk then none else some j }):=⟨_,rfl⟩;rw[<-cC]at qB;have pI:=(aD0.1 gA).1;have nA:w4.heap.size=w3.heap.size:=by rw[cC];exact Fm _ _ _
  have kK:∀b,b≠l->w4.heap[b]? =w3.heap[b]? :=fun b hb=>by rw[cC];exact World.putObj_heap_other hb
  have hl4:w4.heap[l]? =some (.loop { L with state:=if okk then .ready else .done,pending:=if okk then none else some j }):=by rw[cC];exact World.putObj_heap_same pI
  have R3':Rel B2 ⟨[],s3.own⟩ a2 w3 loc3:=⟨R3.st,R3.upd,R3.new,R3.ver,fun i=>by simp[Bl,rd],R3.nt,R3.df⟩;obtain⟨loc4,R4⟩:=yF a2 w3 loc3 R3';have dH:l∉Aa S loc4:=fun hm=>R4.st.ap l hm hlM0
  have uput:∀(v:World) (o:Obj),Upd [l] v (v.putObj l o):=fun v o=>⟨rfl,rfl,rfl,fun _=>Nat.le_refl _,by rw[Fm];exact Nat.le_refl _,fun b _ hb=>World.putObj_heap_other (fun h=>hb (by simp[h]))⟩
  have U1:Upd (Aa own loc++[l]) w w':=(Upd.refl _ w).trans R'.upd (fun x hx=> .inl (aM0 _ hx));have U2:Upd (Aa own loc++[l]) w w2:=by rw[mF];exact U1.trans (uput _ _) (fun x hx=> .inl (aP0 _ hx))
  have U3:Upd (Aa own loc++[l]) w w3:=U2.trans R4.upd (fun x hx=>(R'.new x hx).imp (fun h=>aM0 _ h) id);have U4:Upd (Aa own loc++[l]) w w4:=by rw[cC];exact U3.trans (uput _ _) (fun x hx=> .inl (aP0 _ hx))
  have jD:∀q∈Aa S loc4,q<w4.heap.size/\(q∈Aa own loc++[l]\/w.heap.size<=q):=by
   intro q hq;refine⟨by rw[nA];exact R4.st.lt q (aM0 _ hq),?_⟩
   rcases R4.new q hq with h | h
   ·exact(R'.new q h).imp (fun h=>aM0 _ h) id
   ·exact .inr (Nat.le_trans U2.size h)
  refine⟨_,w4,qB,_,rfl,rfl,Aa S loc4++[l],U4,?_,?_,?_⟩
  ·rw[bV0];exact⟨R4.st.bl,by simp,fun b hb b' qM cX=>dH (by simp only[aF0]at qM;rw[<-qM,<-cX];exact hb)⟩
  ·intro q hq
   rcases aH0.1 hq with hq | hq
   ·exact jD q hq
   ·simp only[aF0]at hq;subst hq;exact⟨by rw[nA];exact pI,.inl (by simp)⟩
  ·intro M' hM'
   have mO:∀e∈S,e.r<1->Ad own loc e.id e.r=some (loc4 e.id):=by
    intro e he qV;obtain⟨e1,h1,h2,h3,h4⟩:=BJ (R4.ver e he qV);have h5:=R'.ver e1 h1 (by show e1.r<1;omega);rw[h2,h3]at h5;rw[h4];exact h5
   have hinM:∀b∈M',b∈Aa S loc4++M0:=by
    intro b hb
    rcases hM' b hb with h | ⟨h1,h2⟩
    ·rcases aH0.1 h with h | h
     ·exact aM0 _ h
     ·simp only[aF0]at h;subst h;exact aP0 _ hlM0
    ·exact aP0 _ ((hM0 b).2 ⟨h1,fun h=>h2 (aM0 _ h)⟩)
   have hd4:∀(b:Nat) (o:Obj),GM o=true->w3.heap[b]? =some o->w4.heap[b]? =some o:=by
    intro b o ho hb;rw[kK b (fun he=>by subst he;rw[gA]at hb;simp only[aA0]at hb;subst hb;simp[GM]at ho)];exact hb
   have W4:∀n,Weak (Ad S loc4) (Ad S loc4) (Aa S loc4++M0) M' w3.heap w4.heap n:=fun n =>
    ⟨fun _ _ _ _ h=>h,fun b o _ (h1:GM o=true) h2=>hd4 b o h1 h2,fun b o hb (_:GM o=true) _ hm=>hb (hinM b hm)⟩
   have W5:Weak (Ad own loc) (Ad S loc4) M M' w.heap w4.heap 1:=by
    refine lK mO (fun b o hb _ ho=> ?_) (fun b hb=> ?_)
    ·rw[U4.blk b (aD0.1 ho).1 (fun h=>hb (pJ b h))];exact ho
    ·rcases hM' b hb with h | ⟨h1,_⟩
     ·rcases aH0.1 h with h | h
      ·exact(jD b h).2.imp (pJ b) id
      ·simp only[aF0]at h;subst h;exact .inl hlM
     ·exact .inl h1
   refine⟨rfl,loc4,rfl,R4.st.nd,fun e he=> ?_,fun p hp=> ?_,hl4,fun e he qV=> ?_⟩
   ·exact Bk (W4 _) (Nat.le_refl _) (fun b o hb ho=>by rw[kK b (fun h=>dH (h▸Bf he hb))];exact ho) (R4.st.ok e he)
   ·refine Cn W5 _ _ (Nat.le_trans ?_ hsl) (jT p hp)
    have:∀(l:List (Nat×DVal)),p∈l->mx p.2<=Ku l:=by
     intro l
     induction l with
     | nil=>intro h;cases h
     | cons q l ih =>
      intro h;simp only[Ku]
      rcases aK0.1 h with rfl | h
      ·omega
      ·have:=ih h;omega
    exact this sl hp
   ·obtain⟨e1,h1,h2,h3,h4⟩:=BJ (mO e he qV);have h5:=hver0 e1 h1 (by omega);rw[h2,h3]at h5;rw[h4];exact h5
 cases e<;>simp only[RQ]at gU<;>simp only[roundPost]
 ·obtain⟨rfl,hs⟩:=gU;exact fin none hs rfl rfl
 ·obtain⟨rfl,rfl,hs⟩:=gU;exact fin _ hs rfl rfl
 ·obtain⟨rfl,rfl,hs⟩:=gU;exact fin _ hs rfl rfl
 ·obtain⟨rfl,rfl,hs⟩:=gU;exact fin _ hs rfl rfl
def CG (ok:Nat->Bool):Nat->Option Nat
 | 0=>none
 | n+1=>match CG ok n with
  | some k=>some k
  | none=>if ok n then none else some n
def Ez_ (P:Program) (f:FuncId) (us cs:List DVal) (xs:List (List DVal)) (ok:Nat->Bool):Prop :=
 ∀(l:Nat) (A Z:Nat->Abs),(∀k x,xs[k]? =some x->(∀j,j<k->ok j=true)->YAt P l (A k) x (ok k) (if ok k then A (k+1)else Z k)) ->
  Bn P (.func f) (us++ .pk 0 0::cs) [⟨0,0,.abs (yH l)⟩,⟨1,0,.abs (A 0)⟩] (.tup []) [⟨0,0,.abs (yH l)⟩,⟨1,1,.abs (match CG ok xs.length with | none=>A xs.length | some k=>Z k)⟩]
def Da_ (P:Program) (c:Code) (idx:List Nat) (nt:Nat) (e0:Exit):Ga_:=fun vs w R=>∀a:Act,idx.map (fun i=>a.tmps.getD i Go.undef)=vs.toList->a.tmps.size=nt ->
 c.wpIn (wd none) 0 P (fun e a' w'=>e=e0/\(∃D,a'={ a with defers:={ target:= .collected D,args:= #[] }::a.defers }/\w.heap.size<=D/\w'.heap[D]? =some (.deferred (some [])))/\R (.tuple #[]) w') a w
theorem oZ {cur:ER} {M:List Nat} {h:Array Obj} {f:Nat->Value}:∀{sl:List (Nat×DVal)},Az cur M h (sl.map (·.2)) (sl.map fun p=>f p.1)->∀p∈sl,rd cur M h p.2 (f p.1)
 | [],_,p,hp=>by cases hp
 | q::sl,hr,p,hp=>by
  simp only[List.map_cons,Az]at hr;obtain⟨v,r,he,h1,h2⟩:=hr;simp only[bH0]at he;obtain⟨rfl,rfl⟩:=he
  rcases aK0.1 hp with rfl | hp
  ·exact h1
  ·exact oZ h2 p hp
theorem AA_ {P:Program} {gt nt:Nat} {ps:Array Tmp} {assign body:Code} {f:FuncId} {us cs:List DVal} {xs:List (List DVal)} {ok:Nat->Bool} {sl:List (Nat×DVal)} {S Z:Nat->List Ent} {jc:Nat->Code} {T:List Ent} {e0:Exit}
  (hsl:Ku sl<=1) (hI:Ez_ P f us cs xs ok) (vA:AL us=0/\AL cs=0) (hgt:(gt,.fn (.func f) us cs)∈sl) (gO:∀x∈xs,x.length=ps.size/\AL x=0) (hpn:∀p∈ps.toList,p<nt)
  (round:∀k x,xs[k]? =some x->(∀j,j<k->ok j=true)->∀B:Base,B.nt=nt->DW P B assign (RA P nt body (ok k) (if ok k then S (k+1)else Z k) (jc k)) ⟨SE ps.toList x sl,S k⟩)
  (hT:match CG ok xs.length with | none=>e0= .normal/\T=S xs.length | some k=>(jc k= .ret/\e0= .ret\/(∃id,jc k= .exit id/\e0= .exit id)\/(∃t,jc k= .goto t/\e0= .goto t))/\T=Z k) :
  EE_ (Da_ P (.rangeFunc (.tmp gt) ps assign body) (sl.map (·.1)) nt e0) (sl.map (·.2)) (S 0) (.tup []) T:=by
 intro M w loc vs St0 hr a vX qX
 have jT:∀p∈sl,rd (Ad (S 0) loc) (Aa (S 0) loc++M) w.heap p.2 (a.tmps.getD p.1 Go.undef):=by
  refine oZ (f:=fun i=>a.tmps.getD i Go.undef) ?_;rw[<-vX,bY0]at hr;exact hr
 have hg:=jT _ hgt;simp only[rd]at hg;obtain⟨us',cs',hv,vE,jQ⟩:=hg;refine wpIn_rangeFunc ?_;intro fn hfn;obtain⟨rec,zW⟩:∃rec:Loop,rec={ state:= .ready,pending:=none,fn,tmps:=a.tmps,params:=ps,assign,body,defers:=w.heap.size }:=⟨_,rfl⟩;obtain⟨W1,pV⟩:∃W1,W1=(w.alloc (.deferred (some []))).alloc (.loop rec):=⟨_,rfl⟩;obtain⟨l,hl⟩:∃l,l=w.heap.size+1:=⟨_,rfl⟩;have hsz1:W1.heap.size=w.heap.size+2:=by rw[pV];simp
 have dU:∀b,b<w.heap.size->W1.heap[b]? =w.heap[b]? :=by
  intro b hb;rw[pV];simp only[World.alloc,bS0,Array.size_push];rw[if_neg (by omega),if_neg (by omega)]
 have hD1:W1.heap[w.heap.size]? =some (.deferred (some [])):=by
  rw[pV];simp only[World.alloc,bS0,Array.size_push];rw[if_neg (by omega)];simp
 have yK:W1.heap[l]? =some (.loop rec):=by
  rw[pV,hl];simp only[World.alloc,bS0,Array.size_push];simp
 have vG:=run_enterLoop_outer (P:=P) (w:=w) fn a.tmps ps assign body;rw[<-zW,<-pV,<-hl]at vG
 let A:Nat->Abs:=fun k=>BE_ sl hsl (S k) a.tmps (S 0) loc l rec
 let Zs:Nat->Abs:=fun k=>BE_ sl hsl (Z k) a.tmps (S 0) loc l { rec with state:= .done,pending:=some (jc k) }
 have hy:∀k x,xs[k]? =some x->(∀j,j<k->ok j=true)->YAt P l (A k) x (ok k) (if ok k then A (k+1)else Zs k):=by
  intro k x hx hj;have vO:=gO x (bP0 hx);have hY:=Ha_ (hsl:=hsl) (own:=S k) (S:=if ok k then S (k+1)else Z k) (own0:=S 0) (loc0:=loc) (l:=l) (L:=rec) (tm:=a.tmps) (nt:=nt) (x:=x) (okk:=ok k) (j:=jc k) (by rw[zW]) (by rw[zW]) (by rw[zW]) qX (by rw[zW];exact vO.1) (by rw[zW];exact hpn) vO.2 (by rw[zW];exact round k x hx hj)
  cases hk:ok k with
  | true =>
   rw[hk]at hY;have e1:({ rec with state:=if true=true then .ready else .done,pending:=if true=true then none else some (jc k) }:Loop)=rec:=by rw[zW];rfl
   rw[e1]at hY;exact hY
  | false =>
   rw[hk]at hY;exact hY
 have hD:=hI l A Zs hy;have gM:∀b∈Aa (S 0) loc,b<w.heap.size:=fun b hb=>St0.lt b (aM0 _ hb)
 let loc1:Nat->Loc:=fun i=>if i=0 then ⟨[],.func (.yield l) #[] #[]⟩else ⟨Aa (S 0) loc++[l],.func (.yield l) #[] #[]⟩
 have yY:Aa [⟨0,0,.abs (yH l)⟩,⟨1,0,.abs (A 0)⟩] loc1=Aa (S 0) loc++[l]:=by simp[Aa,loc1]
 have W1w:∀n,Weak (Ad (S 0) loc) (Ad (S 0) loc) (Aa (S 0) loc++M) (Aa (S 0) loc++[l]++M) w.heap W1.heap n:=fun n =>
  ⟨fun _ _ _ _ h=>h,fun b o _ (_:GM o=true) ho=>by rw[dU b (aD0.1 ho).1];exact ho,fun b o hb (_:GM o=true) ho hm=>by
   have qV:=(aD0.1 ho).1;simp only[aH0,aF0]at hm hb
   rcases hm with (hm | hm) | hm
   ·exact hb (.inl hm)
   ·omega
   ·exact hb (.inr hm)⟩
 have St1:St [⟨0,0,.abs (yH l)⟩,⟨1,0,.abs (A 0)⟩] loc1 M W1.heap:=by
  refine⟨by simp,?_,?_,?_,?_⟩
  ·rw[yY,bV0];exact⟨St0.bl,by simp,fun b hb b' qM=>by simp only[aF0]at qM;have:=gM b hb;omega⟩
  ·rw[yY];intro b hb hm
   rcases aH0.1 hb with hb | hb
   ·exact St0.ap b hb hm
   ·simp only[aF0]at hb;have:=St0.lt b (aP0 _ hm);omega
  ·rw[yY];intro b hb;simp only[aH0,aF0]at hb
   rcases hb with (hb | hb) | hb
   ·have:=gM b hb;omega
   ·omega
   ·have:=St0.lt b (aP0 _ hb);omega
  ·intro e he;simp only[aK0,fB0,or_false]at he
   rcases he with rfl | rfl
   ·exact⟨rfl,rfl⟩
   ·refine⟨rfl,loc,rfl,St0.nd,fun e he=> ?_,fun p hp=> ?_,yK,fun e he _=>AK St0.nd he⟩
    ·rw[yY];exact Bk (W1w _) (Nat.le_refl _) (fun b o hb ho=>by rw[dU b (aD0.1 ho).1];exact ho) (St0.ok e he)
    ·rw[yY];exact Cn (W1w _) _ _ (Nat.le_refl _) (jT p hp)
 have W1z:Weak (Ad (S 0) loc) (Ad [⟨0,0,.abs (yH l)⟩,⟨1,0,.abs (A 0)⟩] loc1) (Aa (S 0) loc++M) (Aa [⟨0,0,.abs (yH l)⟩,⟨1,0,.abs (A 0)⟩] loc1++M) w.heap W1.heap 0:=by
  rw[yY];exact⟨fun _ _ _ h=>by omega,(W1w 0).b,(W1w 0).m⟩
 have fL:=hD.2.2 M W1 loc1 (us'++ #[.func (.yield l) #[] #[]]++cs') St1 (by
  have e1:(us'++ #[Value.func (.yield l) #[] #[]]++cs').toList=us'.toList++Value.func (.yield l) #[] #[]::cs'.toList:=by simp
  rw[e1];refine Ci _ _ _ _ (AY W1z _ _ (dH0 vA.1) vE) ?_;simp only[Az];refine⟨_,_,rfl,?_,AY W1z _ _ (dH0 vA.2) jQ⟩;simp only[rd];intro lc hlc;have:Ad [⟨0,0,.abs (yH l)⟩,⟨1,0,.abs (A 0)⟩] loc1 0 0=some (loc1 0):=rfl;rw[this]at hlc;simp only[aA0]at hlc;rw[<-hlc]
  rfl)
 have kJ:a.eval (.tmp gt)= .func (.func f) us' cs':=hv;refine⟨l,[{ target:= .collected w.heap.size,args:= #[] }],W1,{ target:= .fn (.func f) cs',args:=us'++ #[.func (.yield l) #[] #[]] },W1,f,us'++ #[.func (.yield l) #[] #[]]++cs',W1,vG,?_,fun _ _=>trivial,?_,fun h=>by simp[wd]at h,?_⟩
 ·simp only[resolve,rangeCall,kJ];simp[Deferred.ofValue,Act.eval]
 ·simp only[invoke];exact fL.1 _ _
 ·refine(RY none _ fL.2).mono ?_;rintro e w2 ⟨v,rfl,loc2,S2,hu,wM,zQ,_⟩;have hk:=S2.ok _ (aG0 _ aI0);have zB:=S2.ok _ aI0;have qR:(loc2 0).blks=[]:=zB.1
  -- what is known behind, by the loop's state
  have main:∀(L:Loop) (T':List Ent),(BE_ sl hsl T' a.tmps (S 0) loc l L).J (Aa [⟨0,0,.abs (yH l)⟩,⟨1,1,.abs (match CG ok xs.length with | none=>A xs.length | some k=>Zs k)⟩] loc2++M) (loc2 1).blks (loc2 1).hdr w2.heap->L.state≠ .busy ->
    (Instr.endLoop l).run P w2= .ok L.pending (w2.putObj l (.loop { L with state:= .exhausted }))/\(∃D,({ a with defers:=[{ target:= .collected w.heap.size,args:= #[] }]++a.defers }:Act)={ a with defers:={ target:= .collected D,args:= #[] }::a.defers }/\w.heap.size<=D/\(w2.putObj l (.loop { L with state:= .exhausted })).heap[D]? =some (.deferred (some []))) /\
    ∃loc',St T' loc' M (w2.putObj l (.loop { L with state:= .exhausted })).heap/\Upd (Aa (S 0) loc) w (w2.putObj l (.loop { L with state:= .exhausted }))/\(∀b∈Aa T' loc',b∈Aa (S 0) loc\/w.heap.size<=b) /\
     (∀e∈T',e.r<1->Ad (S 0) loc e.id e.r=some (loc' e.id))/\rd (Ad T' loc') (Aa T' loc'++M) (w2.putObj l (.loop { L with state:= .exhausted })).heap (.tup []) (.tuple #[]):=by
   rintro L T' ⟨_,loc3,jD,hnd3,hob3,hsl3,gA,hver3⟩ hbusy
   have kR:Aa [⟨0,0,.abs (yH l)⟩,⟨1,1,.abs (match CG ok xs.length with | none=>A xs.length | some k=>Zs k)⟩] loc2=Aa T' loc3++[l]:=by
    simp[Aa,qR];simpa[Aa]using jD
   obtain⟨w4,cC⟩:∃w4,w4=w2.putObj l (.loop { L with state:= .exhausted }):=⟨_,rfl⟩;rw[<-cC];have qB:=run_endLoop (P:=P) gA hbusy;rw[<-cC]at qB;have nA:w4.heap.size=w2.heap.size:=by rw[cC];exact Fm _ _ _
   have kK:∀b,b≠l->w4.heap[b]? =w2.heap[b]? :=fun b hb=>by rw[cC];exact World.putObj_heap_other hb
   rw[yY]at hu
   have bX:l∉Aa T' loc3:=by
    have:=S2.bl;rw[kR,bV0]at this;exact fun hm=>this.2.2 l hm l (by simp) rfl
   refine⟨qB,⟨w.heap.size,rfl,Nat.le_refl _,?_⟩,loc3,?_,?_,?_,hver3,?_⟩
   ·rw[kK _ (by omega),hu.blk _ (by omega) (fun h=>by
     simp only[aH0,aF0]at h
     rcases h with h | h
     ·have:=gM _ h;omega
     ·omega)]
    exact hD1
   ·have yF:∀b∈Aa T' loc3,b∈Aa T' loc3++[l]:=fun b hb=>aM0 _ hb
    have hd4:∀(b:Nat) (o:Obj),GM o=true->w2.heap[b]? =some o->w4.heap[b]? =some o:=by
     intro b o ho hb;rw[kK b (fun he=>by subst he;rw[gA]at hb;simp only[aA0]at hb;subst hb;simp[GM]at ho)];exact hb
    refine⟨hnd3,?_,fun b hb=>S2.ap b (by rw[kR];exact yF b hb),fun b hb=> ?_,fun e he=> ?_⟩
    ·have:=S2.bl;rw[kR,bV0]at this;exact this.1
    ·rw[nA];refine S2.lt b ?_;rw[kR]
     rcases aH0.1 hb with hb | hb
     ·exact aM0 _ (yF b hb)
     ·exact aP0 _ hb
    ·have h3:=hob3 e he;rw[kR]at h3;refine Bk (n:=Fa e.obj) ⟨fun _ _ _ _ h=>h,fun b o _ (h1:GM o=true) h2=>hd4 b o h1 h2,fun b o hb (_:GM o=true) _ hm=>hb ?_⟩ (Nat.le_refl _) (fun b o hb ho=>by rw[kK b (fun h=>bX (h▸Bf he hb))];exact ho) h3
     rcases aH0.1 hm with hm | hm
     ·exact aM0 _ (yF b hm)
     ·exact aP0 _ hm
   ·have U1:Upd (Aa (S 0) loc) w W1:=⟨by rw[pV];rfl,by rw[pV];rfl,by rw[pV];rfl,fun _=>by rw[pV];exact Nat.le_refl _,by omega,fun b hb _=>dU b hb⟩
    have U2:Upd (Aa (S 0) loc) w w2:=U1.trans hu (fun x hx=>by
     simp only[aH0,aF0]at hx
     rcases hx with hx | hx
     ·exact .inl hx
     ·exact .inr (by omega))
    have U3:Upd [l] w2 w4:=by
     rw[cC];exact⟨rfl,rfl,rfl,fun _=>Nat.le_refl _,by rw[Fm];exact Nat.le_refl _,fun b _ hb=>World.putObj_heap_other (fun h=>hb (by simp[h]))⟩
    exact U2.trans U3 (fun x hx=> .inr (by simp only[aF0]at hx;omega))
   ·intro b hb;have hbm:b∈Aa [⟨0,0,.abs (yH l)⟩,⟨1,1,.abs (match CG ok xs.length with | none=>A xs.length | some k=>Zs k)⟩] loc2:=by rw[kR];exact aM0 _ hb
    rcases wM b hbm with h | h
    ·rw[yY]at h;simp only[aH0,aF0]at h
     rcases h with h | h
     ·exact .inl h
     ·exact .inr (by omega)
    ·exact .inr (by omega)
   ·simp only[rd];exact⟨#[],rfl,by simp[Az]⟩
  clear wM zQ
  cases wJ:CG ok xs.length with
  | none =>
   rw[wJ]at hT;obtain⟨rfl,rfl⟩:=hT
   have vK:(A xs.length).J (Aa [⟨0,0,.abs (yH l)⟩,⟨1,1,.abs (match CG ok xs.length with | none=>A xs.length | some k=>Zs k)⟩] loc2++M) (loc2 1).blks (loc2 1).hdr w2.heap:=by
    have h:=hk;simp only[Kh]at h
    generalize hF:(match CG ok xs.length with | none=>A xs.length | some k=>Zs k)=F at h |-
    rw[wJ]at hF;simp only at hF;subst hF;exact h
   obtain⟨h1,h2,h3⟩:=main rec _ vK (by rw[zW];simp);refine⟨_,_,h1,?_⟩;rw[zW];simp only;rw[zW]at h2 h3;exact⟨trivial,h2,h3⟩
  | some k =>
   rw[wJ]at hT;obtain⟨hj,rfl⟩:=hT
   have vK:(Zs k).J (Aa [⟨0,0,.abs (yH l)⟩,⟨1,1,.abs (match CG ok xs.length with | none=>A xs.length | some k=>Zs k)⟩] loc2++M) (loc2 1).blks (loc2 1).hdr w2.heap:=by
    have h:=hk;simp only[Kh]at h
    generalize hF:(match CG ok xs.length with | none=>A xs.length | some k=>Zs k)=F at h |-
    rw[wJ]at hF;simp only at hF;subst hF;exact h
   obtain⟨h1,h2,h3⟩:=main _ _ vK (by simp);refine⟨_,_,h1,?_⟩;simp only
   rcases hj with ⟨hj,rfl⟩ | ⟨id,hj,rfl⟩ | ⟨t,hj,rfl⟩
   ·rw[hj]at h2 h3 |-;exact wpIn_ret ⟨rfl,h2,h3⟩
   ·rw[hj]at h2 h3 |-;exact wpIn_exit ⟨rfl,h2,h3⟩
   ·rw[hj]at h2 h3 |-;exact wpIn_goto ⟨rfl,h2,h3⟩
theorem Wo {P:Program} {B:Base} {Q:Exit->DS->Prop} {s:DS} {gt nt:Nat} {ps:Array Tmp} {assign body:Code} {f:FuncId} {us cs:List DVal} {xs:List (List DVal)} {ok:Nat->Bool} (ρ ν:List (Nat×Nat)) (sl:List (Nat×DVal)) (S Z:Nat->List Ent) (jc:Nat->Code) (T:List Ent) (e0:Exit)
  (hI:Ez_ P f us cs xs ok) (hB:B.nt=nt/\B.ro=none) (hsl:Ku sl<=1) (vA:AL us=0/\AL cs=0) (hgt:(gt,.fn (.func f) us cs)∈sl) (gO:∀x∈xs,x.length=ps.size/\AL x=0) (hpn:∀p∈ps.toList,p<nt)
  (wW:Lr s.own (BP s.own (DQ ρ)) (DQ ρ)=some (S 0)/\Vy s.own ρ/\(Ve (sl.map fun p=>Bl s.slots p.1)/\wkA ((sl.map fun p=>Bl s.slots p.1).map (Hr (BP s.own (DQ ρ)))) (sl.map (·.2)))/\(((ρ++ν).map (·.1)).Nodup/\(ρ.map (·.2)).Nodup))
  (round:∀k x,xs[k]? =some x->(∀j,j<k->ok j=true)->∀B:Base,B.nt=nt->DW P B assign (RA P nt body (ok k) (if ok k then S (k+1)else Z k) (jc k)) ⟨SE ps.toList x sl,S k⟩)
  (hT:match CG ok xs.length with | none=>e0= .normal/\T=S xs.length | some k=>(jc k= .ret/\e0= .ret\/(∃id,jc k= .exit id/\e0= .exit id)\/(∃t,jc k= .goto t/\e0= .goto t))/\T=Z k)
  (hTo:Vd T)
  (hk:∀r,match Io (Dx s.own ρ ν r) T with
   | some l=>((Bj s.own ((ρ++ν).map (·.1))++l).map (·.id)).Nodup/\Q e0 ⟨s.slots,Bj s.own ((ρ++ν).map (·.1))++l⟩
   | none=>False):DW P B (.rangeFunc (.tmp gt) ps assign body) Q s:=by
 intro a w loc R;have h:=hk (Ce B s)
 split at h
 rotate_left
 ·exact h.elim
 rename_i l hl;obtain⟨hnd,hQ⟩:=h
 have hC:∀vs w (R R':Value->World->Prop),(∀v w',R v w'->R' v w')->Da_ P (.rangeFunc (.tmp gt) ps assign body) (sl.map (·.1)) nt e0 vs w R->Da_ P (.rangeFunc (.tmp gt) ps assign body) (sl.map (·.1)) nt e0 vs w R' :=
  fun vs w R R' h hc a h1 h2=>wpIn_mono (hc a h1 h2) (fun e a' w' ⟨k1,k2,k3⟩=>⟨k1,k2,h _ _ k3⟩)
 have hS:=ZZ hC ρ ν (AA_ hsl hI vA hgt gO hpn round hT) wW.1 wW.2.1 wW.2.2.1 wW.2.2.2 hl hTo (by simp[Vf,Xm]) hnd;have qH:Ce B s=max B.N (max (Ku s.slots) (GO s.own)):=rfl
 have hw:=hS B.M0 w loc ((sl.map fun p=>a.tmps.getD p.1 Go.undef).toArray) (by omega) R.st (by
  have key:∀l:List (Nat×DVal),Az (Ad s.own loc) (Aa s.own loc++B.M0) w.heap (l.map fun p=>Bl s.slots p.1) (l.map fun p=>a.tmps.getD p.1 Go.undef):=by
   intro l
   induction l with
   | nil=>simp[Az]
   | cons p l ih=>simp only[List.map_cons,Az];exact⟨_,_,rfl,R.sl p.1,ih⟩
  simpa using key sl) a (by simp) (by rw[R.nt];exact hB.1)
 rw[hB.2];refine wpIn_mono hw ?_;rintro e a' w' ⟨rfl,⟨D,rfl,hD1,pU⟩,loc',St',hu,wM,zQ,_⟩;have R':=R.step (dst:=none) (v:=Go.undef) (d:= .any) (n:=Ce B s) (by omega) (by omega) (fun i hi=>by simp at hi) St' hu wM zQ (by simp[rd]);refine⟨_,loc',hQ,⟨R'.st,R'.upd,R'.new,R'.ver,R'.sl,R'.nt,?_⟩⟩;obtain⟨rs,h1,h2,h3,h4⟩:=R.df;obtain⟨rs',g1,g2,g3,g4⟩:=R'.df;have gP:∀r∈rs,r<w.heap.size:=fun r hr=>(aD0.1 (h3 r hr).1).1
 refine⟨D::rs,by simp[h1],?_,?_,fun h=>absurd hB.2 h⟩
 ·rw[cP0];exact⟨fun hm=>by have:=gP D hm;omega,h2⟩
 ·intro r hr
  rcases aK0.1 hr with rfl | hr
  ·refine⟨pU,Nat.le_trans B.hnd (Nat.le_trans R.upd.size hD1),fun hm=> ?_⟩
   rcases aH0.1 hm with hm | hm
   ·obtain⟨e,he,hb⟩:=bQ0.1 hm;exact CK_ (St'.ok e he) _ hb _ pU
   ·have:=R.st.lt r (aP0 _ hm);omega
  ·obtain⟨k1,k2,k3⟩:=h3 r hr;have qV:=gP r hr;refine⟨?_,k2,fun hm=> ?_⟩
   ·rw[hu.blk r qV (fun hm=>k3 (aM0 _ hm))];exact k1
   ·rcases aH0.1 hm with hm | hm
    ·rcases wM r hm with h | h
     ·exact k3 (aM0 _ h)
     ·omega
    ·exact k3 (aP0 _ hm)
def yOK (own:List Ent) (id r' l:Nat) (A:Abs):Prop:=match An own id,An own (id+1)with
 | some e0,some e=>e0.r=r'/\e0.obj= .abs (yH l)/\e.obj= .abs A
 | _,_=>False
theorem MT {P:Program} {id r' l:Nat} {args:List DVal} {own:List Ent} {K:ContE} {A A':Abs} {b:Bool} (hY:YAt P l A args b A') (wW:yOK own id r' l A/\AL args=0)
  (hk:∀r,K.f (.bool b) (upE own (id+1) r (.abs A'))):DZ_ P id r' args own K:=by
 obtain⟨h,hm⟩:=wW;unfold yOK at h
 split at h
 ·rename_i e0 e h1 h2;exact⟨e0,l,e,A,A',b,h1,h.1,h.2.1,h2,h.2.2,hm,hY,hk⟩
 ·exact h.elim
theorem Jr {ok:Nat->Bool}:∀{n k:Nat},k<n->(∀j,j<k->ok j=true)->ok k=false->CG ok n=some k
 | n+1,k,hk,hj,ho=>by
  simp only[CG]
  by_cases h:k<n
  ·rw[Jr h hj ho]
  ·have:k=n:=by omega
   subst this
   have:CG ok k=none:=by
    have key:∀m,m<=k->CG ok m=none:=by
     intro m
     induction m with
     | zero=>intro _;rfl
     | succ m ih=>intro hm;simp only[CG,ih (by omega),hj m (by omega),if_true]
    exact key k (Nat.le_refl _)
   rw[this,ho];rfl
theorem Js {ok:Nat->Bool}:∀{n:Nat},(∀j,j<n->ok j=true)->CG ok n=none
 | 0,_=>rfl
 | n+1,hj=>by simp only[CG,Js (n:=n) (fun j h=>hj j (by omega)),hj n (by omega),if_true]
attribute [simp] yOK RA RQ SE
end Go.Dm
end
