/- Parts of a proof, laid together: BN4, SY0, WB14. -/
import Derived.Test.YtiojapdolljocaaGreatqBo15
import Derived.Test.YtiojapdolljocaaGreatqBo24
import Derived.Test.YtiojapdolljocaaGreatqBo26
set_option linter.unusedSimpArgs false
set_option maxHeartbeats 8000000
set_option linter.unusedVariables false
set_option linter.unusedSectionVars false
section
namespace Go.Proofs.Wy
open Go Go.Dm Tryz
variable [DMode]
attribute [local irreducible] DW Bm Bq
set_option maxRecDepth 100000
def EE (g:List Rul):Prop:=∀r∈g,r.b.length<=1572864
theorem EQ {k:Int}:∀{g:List Rul},EE g->(AK k g).length<=g.length*1572864
 | [],_=>by simp[AK]
 | r::g,h=>by
  have h1:=h r aH0;have h2:=EQ (k:=k) (g:=g) fun x hx=>h x (aF0 _ hx)
  have h3:=Zq k r.b;have h4:AK k (r::g)=Cg k r.b++AK k g:=by simp[AK]
  rw[h4,aB0,List.length_cons];omega
theorem TP (l:List Nd):EP l<=l.length:=by rw[Lk];exact cI0 _ _
theorem TQ : ∀{g:List Rul},EE g->BX g<=g.length*1572864
 | [],_=>by simp[BX]
 | r::g,h=>by
  have h1:=h r aH0;have h2:=TQ (g:=g) fun x hx=>h x (aF0 _ hx)
  have h3:=TP r.b;have h4:BX (r::g)=EP r.b+BX g:=by simp[BX]
  rw[h4,List.length_cons];omega
theorem Sg {g:List Rul} {i:Nat} {r:Rul} (h:g[i]? =some r):BX (g.take (i+1))=BX (g.take i)+EP r.b:=by
 unfold BX;rw[bP0,h];simp
theorem Ll (g:List Rul) (i:Nat):BX (g.take i)<=BX g:=by
 have h:BX g=BX (g.take i)+BX (g.drop i):=by
  unfold BX;rw[<-List.sum_append,<-bF0,List.take_append_drop]
 omega
theorem TU (s:ByteArray):Ae prog 116 [.str s,.int .u8 85] (.bool (Dd 2 s)):=Gt 2 85 (.inl ⟨rfl,rfl⟩) s
def nT : Ann:=⟨[],[]⟩
theorem JR (g:List Rul) (hs:EE g):Ae prog 73 [AB g] (.bool (Eu g)):=by
 refine Ac [] nT func73 call73 ntmps73 mxd (Ar @nT.eq_1 results73) rfl (fun qJ B qX qQ=> ?_);have fG:=II qJ.1;clear qJ;simp only[Ak];obtain⟨R,hR⟩:∃R,R=Eu g:=⟨_,rfl⟩;rw[<-hR]
 (refine AX Ab Ab Ab ?_;intros;refine Am ?_)
 refine Al (X:={i:Nat//i<=g.length/\R=Eu (g.drop i)}) (fun i=>⟨[(0,AB g),(3,.int .i64 i.1)],[]⟩) (fun i=>g.length-i.1) ⟨0,by simp[hR]⟩ (Sub.lit (by simp)) ?_;clear hR;rintro⟨i,hi,hR⟩;simp only
 by_cases qV:i<g.length
 ·obtain⟨r,hr,wJ,gY⟩:=Ax qV;rw[aW0 qV,wJ]at hR;unfold Eu at hR;rw[dA0]at hR;have e1:=TU r.h;have e2:=Ed r.b (hs r gY);have w2:IntKind.i64.wrap ((i:Int)+1)=(i:Int)+1:=wq;cases h1:Dd 2 r.h
  ·rw[h1]at e1 hR;simp only[Bool.false_and]at hR;subst hR;exact Aw (AJ e1) Ab (Ik @BB.eq_1 qV hr wJ)
  ·cases h2:CT r.b
   ·rw[h2]at e2 hR;rw[h1]at e1 hR;simp only[Bool.false_and,Bool.and_false]at hR;subst hR;exact Aw (Ar e1 e2) Ab (Ik @BB.eq_1 qV hr wJ)
   ·rw[h2]at e2 hR;rw[h1]at e1 hR;simp only[dO0]at hR
    (refine AX (Ar e1 e2) Ab (Mj @BB.eq_1 qV hr wJ w2) ?_;intros;refine Am ?_)
    refine An.mk ⟨i+1,by omega,hR⟩ (Sub.lit (by simp)) (by simp;omega)
    skip
 ·have qZ:i=g.length:=by omega
  subst qZ;rw[cN0]at hR;have vJ:R=true:=hR;subst vJ;exact Aw Ab Ab Ab
def nS : Ann:=⟨[],[]⟩
theorem Tz (g:List Rul) (hs:EE g) (hl:g.length<=64):Ae prog 75 [AB g] (.int .i64 (BX g)):=by
 refine Ac [] nS func75 call75 ntmps75 mxd (Ar @nS.eq_1 results75) rfl (fun qJ B qX qQ=> ?_);clear qJ;simp only[Ak];have ho:=TQ hs
 (refine AX Ab Ab Ab ?_;intros;refine Am ?_)
 refine Al (X:={i:Nat//i<=g.length}) (fun i=>⟨[(0,AB g),(3,.int .i64 (BX (g.take i.1))),(4,.int .i64 i.1)],[]⟩) (fun i=>g.length-i.1) ⟨0,by omega⟩ (Sub.lit (by simp[BX])) ?_;rintro⟨i,hi⟩;simp only
 by_cases qV:i<g.length
 ·obtain⟨r,hr,wJ,gY⟩:=Ax qV;have e1:=Tx r.b;have h1:=Sg hr;have h2:=Ll g (i+1);have h3:=TP r.b;have w1:IntKind.i64.wrap ((BX (g.take i):Int)+(EP r.b:Int))=(BX (g.take (i+1)):Int):=by rw[wq];omega
  have w2:IntKind.i64.wrap ((i:Int)+1)=(i:Int)+1:=wq
  (refine AX (AJ e1) Ab (MY @BB.eq_1 qV hr wJ w1 w2) ?_;intros;refine Am ?_)
  refine An.mk ⟨i+1,by omega⟩ (Sub.lit (by simp)) (by simp;omega)
  skip
 ·have qZ:i=g.length:=by omega
  subst qZ;rw[bC0];exact Aw Ab Ab Ab
theorem Zt {gt:GT} {i:Nat} {p:ByteArray×RT} (h:gt[i]? =some p):(AY gt)[i]? =some ⟨p.1,flat p.2⟩:=by unfold AY;rw[bM0,h];rfl
theorem Fi (gt:GT):(AY gt).length=gt.length:=by unfold AY;rw[aO0]
theorem It {gt:GT} (h:EE (AY gt)) {p:ByteArray×RT} (hp:p∈gt):(flat p.2).length<=1572864:=h ⟨p.1,flat p.2⟩ (aR0.2 ⟨p,hp,rfl⟩)
def nR : Ann:=⟨[],[]⟩
theorem Rf (gt:GT) (hk:tU gt) (hs:EE (AY gt)) (hl:gt.length<=64):Ae prog 76 [AB (AY gt)] (.bool (Ff gt)):=by
 refine Ac [] nR func76 call76 ntmps76 mxd (Ar @nR.eq_1 results76) rfl (fun qJ B qX qQ=> ?_);clear qJ;simp only[Ak];have vT:=Fi gt;have jP:=fun i p=>Zt (gt:=gt) (i:=i) (p:=p)
 have yM:=fun p=>It hs (p:=p)
 obtain⟨g,hg⟩:∃g,g=AY gt:=⟨_,rfl⟩;rw[<-hg]at vT jP |-;obtain⟨R,hR⟩:∃R,R=Ff gt:=⟨_,rfl⟩;rw[<-hR];clear hs hg
 (refine AX Ab Ab Ab ?_;intros;refine Am ?_)
 refine Al (X:={i:Nat//i<=gt.length/\R=Ff (gt.drop i)}) (fun i=>⟨[(0,AB g),(3,.int .i64 i.1)],[]⟩) (fun i=>gt.length-i.1) ⟨0,by simp[hR]⟩ (Sub.lit (by simp)) ?_;clear hR;rintro⟨i,hi,hR⟩;simp only
 by_cases qV:i<gt.length
 ·obtain⟨p,hp,zS,gO⟩:=Ax qV;rw[aW0 qV,zS]at hR;unfold Ff at hR;rw[List.any_cons]at hR;have hr:=jP i p hp;have qP:i<g.length:=by omega
  have wJ:g[i]'qP=⟨p.1,flat p.2⟩:=(aG0.1 hr).2;have e1:=NI p.2 (hk p gO).2 (yM p gO);have w2:IntKind.i64.wrap ((i:Int)+1)=(i:Int)+1:=wq;obtain⟨b,hb⟩:∃b,b=flat p.2:=⟨_,rfl⟩;rw[<-hb]at hr wJ e1
  by_cases hd:16<Ih p.2
  ·have gD:(16:Int)<(Ih p.2:Int):=by omega
   rw[decide_eq_true hd,Bool.true_or]at hR;subst hR;exact Aw (AJ e1) Ab (NA @BB.eq_1 qV qP hr wJ hd gD)
  ·have gD:¬(16:Int)<(Ih p.2:Int):=by omega
   rw[decide_eq_false hd,Bool.false_or]at hR
   (refine AX (AJ e1) Ab (Mi @BB.eq_1 qV qP hr wJ hd gD w2) ?_;intros;refine Am ?_)
   refine An.mk ⟨i+1,by omega,hR⟩ (Sub.lit (by simp)) (by simp;omega)
   skip
 ·have qZ:i=gt.length:=by omega
  subst qZ;rw[cN0]at hR;have vJ:R=false:=hR;subst vJ;exact Aw Ab Ab (AJ vT)
theorem YI {k:Int} {s:ByteArray} (h:Dd k s=true):s.size<=16:=by
 unfold Dd BK at h
 split at h<;>simp only[aN0,decide_eq_true_eq]at h<;>exact h.1.1.2
theorem OT {gt:GT} {p:ByteArray×RT} (hk:tU gt) (hs:EE (AY gt)) (hp:p∈gt):(HU p).size<=37748766:=by
 have h1:=YI (hk p hp).1;have h2:=(GI p.2 (hk p hp).2).2;have h3:=It hs hp;unfold HU;simp only[aQ0];have z3:(⟨#[32,61,32]⟩:ByteArray).size=3:=rfl;have z4:(⟨#[32,59,10]⟩:ByteArray).size=3:=rfl;omega
theorem Ki {gt:GT} (hk:tU gt) (hs:EE (AY gt)):∀i,i<=gt.length->(BP (gt.take i)).size<=i*37748766
 | 0,_=>by simp[BP];decide
 | i+1,h=>by
  have hx:gt[i]? =some (gt[i]'(by omega)):=aD0 (by omega);have ih:=Ki hk hs i (by omega);have h1:=OT hk hs (bT0 (show i<gt.length by omega));rw[Fy hx,aQ0];omega
def nP : Ann:=⟨[],[]⟩
theorem Rc (gt:GT) (hk:tU gt) (hs:EE (AY gt)) (hl:gt.length<=64):Ae prog 77 [AB (AY gt)] (.str (BP gt)):=by
 refine Ac [] nP func77 call77 ntmps77 mxd (Ar @nP.eq_1 results77) rfl (fun qJ B qX qQ=> ?_);clear qJ;simp only[Ak];have vT:=Fi gt;have jP:=fun i p=>Zt (gt:=gt) (i:=i) (p:=p)
 have yM:=fun p=>It hs (p:=p)
 have zA:=Ki hk hs;obtain⟨g,hg⟩:∃g,g=AY gt:=⟨_,rfl⟩;rw[<-hg]at vT jP |-;clear hs hg;have z0:(⟨#[]⟩:ByteArray).size=0:=rfl;have z3:(⟨#[32,61,32]⟩:ByteArray).size=3:=rfl;have z4:(⟨#[32,59,10]⟩:ByteArray).size=3:=rfl;have m3:3<=maxLen:=by decide
 have mbig:3000000000<=maxLen:=by decide
 (refine AX Ab Ab (AJ z0) ?_;intros;refine Am ?_)
 refine Al (X:={i:Nat//i<=gt.length}) (fun i=>⟨[(0,AB g),(3,.str (BP (gt.take i.1))),(4,.int .i64 i.1)],[]⟩) (fun i=>gt.length-i.1) ⟨0,by omega⟩ (Sub.lit (by simp[BP])) ?_;rintro⟨i,hi⟩;simp only
 by_cases qV:i<gt.length
 ·obtain⟨p,hp,zS,gO⟩:=Ax qV;have hr:=jP i p hp;have qP:i<g.length:=by omega
  have wJ:g[i]'qP=⟨p.1,flat p.2⟩:=(aG0.1 hr).2;have e1:=Nb _ p.2 (flat p.2) 0 rfl (At.top (hk p gO).2) (yM p gO);have w2:IntKind.i64.wrap ((i:Int)+1)=(i:Int)+1:=wq;have h1:=zA (i+1) (by omega);have wP:=Fy hp;rw[wP]at h1;unfold HU at h1 wP;simp only[aQ0,z3,z4]at h1;obtain⟨b,hb⟩:∃b,b=flat p.2:=⟨_,rfl⟩;rw[<-hb]at hr wJ e1;obtain⟨s,hs⟩:∃s,s=CH p.2:=⟨_,rfl⟩;rw[<-hs]at e1 h1 wP;obtain⟨a,ha⟩:∃a,a=BP (gt.take i):=⟨_,rfl⟩
  rw[<-ha]at wP h1 |-;have y1:a.size+p.1.size<=maxLen:=by omega
  have y2:a.size+p.1.size+3<=maxLen:=by omega
  have y3:a.size+p.1.size+3+s.size<=maxLen:=by omega
  have y4:a.size+p.1.size+3+s.size+3<=maxLen:=by omega
  have hq:a++p.1++⟨#[32,61,32]⟩++s++⟨#[32,59,10]⟩=BP (gt.take (i+1)):=by rw[wP];simp only[ByteArray.append_assoc]
  (refine AX (AJ e1) Ab (Ex_ @BB.eq_1 qV qP hr wJ z3 z4 m3 y1 y2 y3 y4 @aQ0 w2) ?_;intros;refine Am ?_)
  refine An.mk ⟨i+1,by omega⟩ (Sub.lit (by simp[hq])) (by simp;omega)
  skip
 ·have qZ:i=gt.length:=by omega
  subst qZ;rw[bC0];exact Aw Ab Ab (AJ vT)
def BN : Ann:=⟨[],[]⟩
theorem Pe (g:List Rul) (h:g.length<1\/64<g.length):Ae prog 28 [AB g] (.int .i64 180):=by
 refine Ac [] BN func28 call28 ntmps28 mxd (Ar @BN.eq_1 results28) rfl (fun qJ B qX qQ=> ?_);clear qJ;simp only[Ak]
 rcases h with h | h
 ·have d1:(g.length:Int)<1:=by omega
  have h0:g=[]:=bK0 (by omega);subst h0;exact Aw Ab Ab Ab
 ·have d1:¬(g.length:Int)<1:=by omega
  have d2:(64:Int)<(g.length:Int):=by omega
  have d3:¬g.length<1:=by omega
  exact Aw Ab Ab (Ik d1 d2 h d3)
theorem TG (g:List Rul) (h1:1<=g.length) (h2:g.length<=64) (hs:EE g) (ht:Eu g=false):Ae prog 28 [AB g] (.int .i64 170):=by
 refine Ac [] BN func28 call28 ntmps28 mxd (Ar @BN.eq_1 results28) rfl (fun qJ B qX qQ=> ?_);clear qJ;simp only[Ak];have d1:¬(g.length:Int)<1:=by omega
 have d2:¬(64:Int)<(g.length:Int):=by omega
 have d3:¬g.length<1:=by omega
 have d4:¬64<g.length:=by omega
 have e1:=JR g hs;rw[ht]at e1;exact Aw (AJ e1) Ab (Ik d1 d2 d3 d4)
theorem VB (gt:GT) (h1:1<=gt.length) (h2:gt.length<=64) (hk:tU gt) (hs:EE (AY gt)):Ae prog 28 [AB (AY gt)] (.int .i64 (LG gt)):=by
 refine Ac [] BN func28 call28 ntmps28 mxd (Ar @BN.eq_1 results28) rfl (fun qJ B qX qQ=> ?_);clear qJ;simp only[Ak];have vT:=Fi gt;have e1:=JR (AY gt) hs;rw[Wz hk]at e1;have n2:=EQ (k:=2) hs;have n3:=EQ (k:=3) hs;have e2:=JV (AY gt);have e3:=Mq (AY gt) (by omega);have e4:=OU (AY gt) (by omega);have e5:=Tz (AY gt) hs (by omega);have e6:=Rf gt hk hs h2;have e7:=Rc gt hk hs h2;have b1:=HK (AY gt)
 have b2:(CF (AY gt)).length<=110000000:=by
  have:=GH (AK 2 (AY gt));have:=cI0 (fun s=> !decide (s∈Av (AY gt))) (Ep (AK 2 (AY gt)));unfold CF;omega
 obtain⟨g,hg⟩:∃g,g=AY gt:=⟨_,rfl⟩;obtain⟨C,hC⟩:∃C,C=LG gt:=⟨_,rfl⟩;rw[<-hC];unfold LG at hC;rw[<-hg]at vT e1 e2 e3 e4 e5 e6 e7 b1 b2 hC |-;obtain⟨H,hH⟩:∃H,H=Av g:=⟨_,rfl⟩;obtain⟨m,hm⟩:∃m,m=(CF g).length:=⟨_,rfl⟩;obtain⟨L,hL⟩:∃L,L=AC g:=⟨_,rfl⟩;obtain⟨o,ho⟩:∃o,o=BX g:=⟨_,rfl⟩;obtain⟨T,hT⟩:∃T,T=BP gt:=⟨_,rfl⟩;rw[<-hH]at e2 b1 hC;rw[<-hm]at e3 b2 hC;rw[<-hL]at e4 hC;rw[<-ho]at e5 hC;rw[<-hT]at e7 hC;clear hH hm hL ho hT n2 n3 hg
 have d1:¬(g.length:Int)<1:=by omega
 have d2:¬(64:Int)<(g.length:Int):=by omega
 have d3:¬g.length<1:=by omega
 have d4:¬64<g.length:=by omega
 have w1:IntKind.i64.wrap ((H.length:Int)+(m:Int))=((H.length+m:Nat):Int):=by rw[wq];omega
 by_cases c1:16<H.length+m
 ·have q1:(16:Int)<((H.length+m:Nat):Int):=by omega
  rw[if_pos c1]at hC;subst hC
  (repeat (first | refine AI fun K hK=> ?_ | (refine BS BN mxd (by kernel_rfl) ?_;simp[BN,qX,d1,d2,d3,d4,w1,c1,q1, -Int.natCast_add];try simp (disch:=omega) only[Ai]) | refine Ao ?_ | (refine Bg ?_ ?_ ?_;(· (simp[qX,d1,d2,d3,d4,w1,c1,q1, -Int.natCast_add];done));(try (rotate_left;(· (intro hc;(try simp[qX,d1,d2,d3,d4,w1,c1,q1, -Int.natCast_add]at hc);done))))) | (refine AL ?_;simp[results28,qX,d1,d2,d3,d4,w1,c1,q1, -Int.natCast_add]) | ((first | refine Az ?_ | refine Ay ?_);simp[qX,d1,d2,d3,d4,w1,c1,q1, -Int.natCast_add]) | (intro hc;(try simp[qX,d1,d2,d3,d4,w1,c1,q1, -Int.natCast_add]at hc);(try (exfalso;omega))) | ((first | refine Ag (e1) ?_ | refine Ag (e2) ?_ | refine Ag (e3) ?_ | refine Ag (e4) ?_ | refine Ag (e5) ?_ | refine Ag (e6) ?_ | refine Ag (e7) ?_ | (refine Af (e1) ?_ ?_;(· (simp;done))) | (refine Af (e2) ?_ ?_;(· (simp;done))) | (refine Af (e3) ?_ ?_;(· (simp;done))) | (refine Af (e4) ?_ ?_;(· (simp;done))) | (refine Af (e5) ?_ ?_;(· (simp;done))) | (refine Af (e6) ?_ ?_;(· (simp;done))) | (refine Af (e7) ?_ ?_;(· (simp;done))));try simp[qX,d1,d2,d3,d4,w1,c1,q1, -Int.natCast_add]) | (refine⟨?_,?_⟩; · omega) | omega | apply_assumption -exfalso -symm | (exfalso;omega)))
 rw[if_neg c1]at hC;have q1:¬(16:Int)<((H.length+m:Nat):Int):=by omega
 by_cases c2:16<L.length
 ·have q2:(16:Int)<(L.length:Int):=by omega
  rw[if_pos c2]at hC;subst hC
  (repeat (first | refine AI fun K hK=> ?_ | (refine BS BN mxd (by kernel_rfl) ?_;simp[BN,qX,d1,d2,d3,d4,w1,c1,q1,c2,q2, -Int.natCast_add];try simp (disch:=omega) only[Ai]) | refine Ao ?_ | (refine Bg ?_ ?_ ?_;(· (simp[qX,d1,d2,d3,d4,w1,c1,q1,c2,q2, -Int.natCast_add];done));(try (rotate_left;(· (intro hc;(try simp[qX,d1,d2,d3,d4,w1,c1,q1,c2,q2, -Int.natCast_add]at hc);done))))) | (refine AL ?_;simp[results28,qX,d1,d2,d3,d4,w1,c1,q1,c2,q2, -Int.natCast_add]) | ((first | refine Az ?_ | refine Ay ?_);simp[qX,d1,d2,d3,d4,w1,c1,q1,c2,q2, -Int.natCast_add]) | (intro hc;(try simp[qX,d1,d2,d3,d4,w1,c1,q1,c2,q2, -Int.natCast_add]at hc);(try (exfalso;omega))) | ((first | refine Ag (e1) ?_ | refine Ag (e2) ?_ | refine Ag (e3) ?_ | refine Ag (e4) ?_ | refine Ag (e5) ?_ | refine Ag (e6) ?_ | refine Ag (e7) ?_ | (refine Af (e1) ?_ ?_;(· (simp;done))) | (refine Af (e2) ?_ ?_;(· (simp;done))) | (refine Af (e3) ?_ ?_;(· (simp;done))) | (refine Af (e4) ?_ ?_;(· (simp;done))) | (refine Af (e5) ?_ ?_;(· (simp;done))) | (refine Af (e6) ?_ ?_;(· (simp;done))) | (refine Af (e7) ?_ ?_;(· (simp;done))));try simp[qX,d1,d2,d3,d4,w1,c1,q1,c2,q2, -Int.natCast_add]) | (refine⟨?_,?_⟩; · omega) | omega | apply_assumption -exfalso -symm | (exfalso;omega)))
 rw[if_neg c2]at hC;have q2:¬(16:Int)<(L.length:Int):=by omega
 by_cases c3:64<o
 ·have q3:(64:Int)<(o:Int):=by omega
  rw[if_pos c3]at hC;subst hC
  (repeat (first | refine AI fun K hK=> ?_ | (refine BS BN mxd (by kernel_rfl) ?_;simp[BN,qX,d1,d2,d3,d4,w1,c1,q1,c2,q2,c3,q3, -Int.natCast_add];try simp (disch:=omega) only[Ai]) | refine Ao ?_ | (refine Bg ?_ ?_ ?_;(· (simp[qX,d1,d2,d3,d4,w1,c1,q1,c2,q2,c3,q3, -Int.natCast_add];done));(try (rotate_left;(· (intro hc;(try simp[qX,d1,d2,d3,d4,w1,c1,q1,c2,q2,c3,q3, -Int.natCast_add]at hc);done))))) | (refine AL ?_;simp[results28,qX,d1,d2,d3,d4,w1,c1,q1,c2,q2,c3,q3, -Int.natCast_add]) | ((first | refine Az ?_ | refine Ay ?_);simp[qX,d1,d2,d3,d4,w1,c1,q1,c2,q2,c3,q3, -Int.natCast_add]) | (intro hc;(try simp[qX,d1,d2,d3,d4,w1,c1,q1,c2,q2,c3,q3, -Int.natCast_add]at hc);(try (exfalso;omega))) | ((first | refine Ag (e1) ?_ | refine Ag (e2) ?_ | refine Ag (e3) ?_ | refine Ag (e4) ?_ | refine Ag (e5) ?_ | refine Ag (e6) ?_ | refine Ag (e7) ?_ | (refine Af (e1) ?_ ?_;(· (simp;done))) | (refine Af (e2) ?_ ?_;(· (simp;done))) | (refine Af (e3) ?_ ?_;(· (simp;done))) | (refine Af (e4) ?_ ?_;(· (simp;done))) | (refine Af (e5) ?_ ?_;(· (simp;done))) | (refine Af (e6) ?_ ?_;(· (simp;done))) | (refine Af (e7) ?_ ?_;(· (simp;done))));try simp[qX,d1,d2,d3,d4,w1,c1,q1,c2,q2,c3,q3, -Int.natCast_add]) | (refine⟨?_,?_⟩; · omega) | omega | apply_assumption -exfalso -symm | (exfalso;omega)))
 rw[if_neg c3]at hC;have q3:¬(64:Int)<(o:Int):=by omega
 cases c4:Ff gt
 rotate_left
 ·rw[if_pos c4]at hC;rw[c4]at e6;subst hC
  (repeat (first | refine AI fun K hK=> ?_ | (refine BS BN mxd (by kernel_rfl) ?_;simp[BN,qX,d1,d2,d3,d4,w1,c1,q1,c2,q2,c3,q3, -Int.natCast_add];try simp (disch:=omega) only[Ai]) | refine Ao ?_ | (refine Bg ?_ ?_ ?_;(· (simp[qX,d1,d2,d3,d4,w1,c1,q1,c2,q2,c3,q3, -Int.natCast_add];done));(try (rotate_left;(· (intro hc;(try simp[qX,d1,d2,d3,d4,w1,c1,q1,c2,q2,c3,q3, -Int.natCast_add]at hc);done))))) | (refine AL ?_;simp[results28,qX,d1,d2,d3,d4,w1,c1,q1,c2,q2,c3,q3, -Int.natCast_add]) | ((first | refine Az ?_ | refine Ay ?_);simp[qX,d1,d2,d3,d4,w1,c1,q1,c2,q2,c3,q3, -Int.natCast_add]) | (intro hc;(try simp[qX,d1,d2,d3,d4,w1,c1,q1,c2,q2,c3,q3, -Int.natCast_add]at hc);(try (exfalso;omega))) | ((first | refine Ag (e1) ?_ | refine Ag (e2) ?_ | refine Ag (e3) ?_ | refine Ag (e4) ?_ | refine Ag (e5) ?_ | refine Ag (e6) ?_ | refine Ag (e7) ?_ | (refine Af (e1) ?_ ?_;(· (simp;done))) | (refine Af (e2) ?_ ?_;(· (simp;done))) | (refine Af (e3) ?_ ?_;(· (simp;done))) | (refine Af (e4) ?_ ?_;(· (simp;done))) | (refine Af (e5) ?_ ?_;(· (simp;done))) | (refine Af (e6) ?_ ?_;(· (simp;done))) | (refine Af (e7) ?_ ?_;(· (simp;done))));try simp[qX,d1,d2,d3,d4,w1,c1,q1,c2,q2,c3,q3, -Int.natCast_add]) | (refine⟨?_,?_⟩; · omega) | omega | apply_assumption -exfalso -symm | (exfalso;omega)))
 rw[if_neg (by rw[c4];simp)]at hC;rw[c4]at e6
 by_cases c5:0<m
 ·have q5:(0:Int)<(m:Int):=by omega
  rw[if_pos c5]at hC;subst hC
  (repeat (first | refine AI fun K hK=> ?_ | (refine BS BN mxd (by kernel_rfl) ?_;simp[BN,qX,d1,d2,d3,d4,w1,c1,q1,c2,q2,c3,q3,c5,q5, -Int.natCast_add];try simp (disch:=omega) only[Ai]) | refine Ao ?_ | (refine Bg ?_ ?_ ?_;(· (simp[qX,d1,d2,d3,d4,w1,c1,q1,c2,q2,c3,q3,c5,q5, -Int.natCast_add];done));(try (rotate_left;(· (intro hc;(try simp[qX,d1,d2,d3,d4,w1,c1,q1,c2,q2,c3,q3,c5,q5, -Int.natCast_add]at hc);done))))) | (refine AL ?_;simp[results28,qX,d1,d2,d3,d4,w1,c1,q1,c2,q2,c3,q3,c5,q5, -Int.natCast_add]) | ((first | refine Az ?_ | refine Ay ?_);simp[qX,d1,d2,d3,d4,w1,c1,q1,c2,q2,c3,q3,c5,q5, -Int.natCast_add]) | (intro hc;(try simp[qX,d1,d2,d3,d4,w1,c1,q1,c2,q2,c3,q3,c5,q5, -Int.natCast_add]at hc);(try (exfalso;omega))) | ((first | refine Ag (e1) ?_ | refine Ag (e2) ?_ | refine Ag (e3) ?_ | refine Ag (e4) ?_ | refine Ag (e5) ?_ | refine Ag (e6) ?_ | refine Ag (e7) ?_ | (refine Af (e1) ?_ ?_;(· (simp;done))) | (refine Af (e2) ?_ ?_;(· (simp;done))) | (refine Af (e3) ?_ ?_;(· (simp;done))) | (refine Af (e4) ?_ ?_;(· (simp;done))) | (refine Af (e5) ?_ ?_;(· (simp;done))) | (refine Af (e6) ?_ ?_;(· (simp;done))) | (refine Af (e7) ?_ ?_;(· (simp;done))));try simp[qX,d1,d2,d3,d4,w1,c1,q1,c2,q2,c3,q3,c5,q5, -Int.natCast_add]) | (refine⟨?_,?_⟩; · omega) | omega | apply_assumption -exfalso -symm | (exfalso;omega)))
 rw[if_neg c5]at hC;have q5:¬(0:Int)<(m:Int):=by omega
 by_cases c6:2048<T.size
 ·have q6:(2048:Int)<(T.size:Int):=by omega
  rw[if_pos c6]at hC;subst hC
  (repeat (first | refine AI fun K hK=> ?_ | (refine BS BN mxd (by kernel_rfl) ?_;simp[BN,qX,d1,d2,d3,d4,w1,c1,q1,c2,q2,c3,q3,c5,q5,c6,q6, -Int.natCast_add];try simp (disch:=omega) only[Ai]) | refine Ao ?_ | (refine Bg ?_ ?_ ?_;(· (simp[qX,d1,d2,d3,d4,w1,c1,q1,c2,q2,c3,q3,c5,q5,c6,q6, -Int.natCast_add];done));(try (rotate_left;(· (intro hc;(try simp[qX,d1,d2,d3,d4,w1,c1,q1,c2,q2,c3,q3,c5,q5,c6,q6, -Int.natCast_add]at hc);done))))) | (refine AL ?_;simp[results28,qX,d1,d2,d3,d4,w1,c1,q1,c2,q2,c3,q3,c5,q5,c6,q6, -Int.natCast_add]) | ((first | refine Az ?_ | refine Ay ?_);simp[qX,d1,d2,d3,d4,w1,c1,q1,c2,q2,c3,q3,c5,q5,c6,q6, -Int.natCast_add]) | (intro hc;(try simp[qX,d1,d2,d3,d4,w1,c1,q1,c2,q2,c3,q3,c5,q5,c6,q6, -Int.natCast_add]at hc);(try (exfalso;omega))) | ((first | refine Ag (e1) ?_ | refine Ag (e2) ?_ | refine Ag (e3) ?_ | refine Ag (e4) ?_ | refine Ag (e5) ?_ | refine Ag (e6) ?_ | refine Ag (e7) ?_ | (refine Af (e1) ?_ ?_;(· (simp;done))) | (refine Af (e2) ?_ ?_;(· (simp;done))) | (refine Af (e3) ?_ ?_;(· (simp;done))) | (refine Af (e4) ?_ ?_;(· (simp;done))) | (refine Af (e5) ?_ ?_;(· (simp;done))) | (refine Af (e6) ?_ ?_;(· (simp;done))) | (refine Af (e7) ?_ ?_;(· (simp;done))));try simp[qX,d1,d2,d3,d4,w1,c1,q1,c2,q2,c3,q3,c5,q5,c6,q6, -Int.natCast_add]) | (refine⟨?_,?_⟩; · omega) | omega | apply_assumption -exfalso -symm | (exfalso;omega)))
 rw[if_neg c6]at hC;have q6:¬(2048:Int)<(T.size:Int):=by omega
 subst hC
 (repeat (first | refine AI fun K hK=> ?_ | (refine BS BN mxd (by kernel_rfl) ?_;simp[BN,qX,d1,d2,d3,d4,w1,c1,q1,c2,q2,c3,q3,c5,q5,c6,q6, -Int.natCast_add];try simp (disch:=omega) only[Ai]) | refine Ao ?_ | (refine Bg ?_ ?_ ?_;(· (simp[qX,d1,d2,d3,d4,w1,c1,q1,c2,q2,c3,q3,c5,q5,c6,q6, -Int.natCast_add];done));(try (rotate_left;(· (intro hc;(try simp[qX,d1,d2,d3,d4,w1,c1,q1,c2,q2,c3,q3,c5,q5,c6,q6, -Int.natCast_add]at hc);done))))) | (refine AL ?_;simp[results28,qX,d1,d2,d3,d4,w1,c1,q1,c2,q2,c3,q3,c5,q5,c6,q6, -Int.natCast_add]) | ((first | refine Az ?_ | refine Ay ?_);simp[qX,d1,d2,d3,d4,w1,c1,q1,c2,q2,c3,q3,c5,q5,c6,q6, -Int.natCast_add]) | (intro hc;(try simp[qX,d1,d2,d3,d4,w1,c1,q1,c2,q2,c3,q3,c5,q5,c6,q6, -Int.natCast_add]at hc);(try (exfalso;omega))) | ((first | refine Ag (e1) ?_ | refine Ag (e2) ?_ | refine Ag (e3) ?_ | refine Ag (e4) ?_ | refine Ag (e5) ?_ | refine Ag (e6) ?_ | refine Ag (e7) ?_ | (refine Af (e1) ?_ ?_;(· (simp;done))) | (refine Af (e2) ?_ ?_;(· (simp;done))) | (refine Af (e3) ?_ ?_;(· (simp;done))) | (refine Af (e4) ?_ ?_;(· (simp;done))) | (refine Af (e5) ?_ ?_;(· (simp;done))) | (refine Af (e6) ?_ ?_;(· (simp;done))) | (refine Af (e7) ?_ ?_;(· (simp;done))));try simp[qX,d1,d2,d3,d4,w1,c1,q1,c2,q2,c3,q3,c5,q5,c6,q6, -Int.natCast_add]) | (refine⟨?_,?_⟩; · omega) | omega | apply_assumption -exfalso -symm | (exfalso;omega)))
def FK (b:Bool) (l:List ByteArray):List DVal:=l.map fun s=> .agg [.bool b,.str s]
def Fh (n:Nat):List DVal:=(List.range n).map fun i:Nat=>DVal.int .i64 (i:Int)
theorem GY (b:Bool) (s:ByteArray) (l:List ByteArray):FK b (s::l)= .agg [.bool b,.str s]::FK b l:=rfl
theorem AB_ (b:Bool) (l:List ByteArray):(FK b l).length=l.length:=by simp[FK]
theorem Sq (b:Bool) (l:List ByteArray) (s:ByteArray):FK b (l++[s])=FK b l++[.agg [.bool b,.str s]]:=by simp[FK]
theorem RC (n:Nat):Fh (n+1)=Fh n++[.int .i64 (n:Int)]:=by simp[Fh,List.range_succ]
theorem OH (n:Nat):(Fh n).length=n:=by simp[Fh]
@[simp] theorem Fs_ (b:Bool) (l:List ByteArray):AH (FK b l)=0:=by
 induction l with
 | nil=>rfl
 | cons a l ih=>rw[GY];simp[AH,mx,ih]
@[simp] theorem Fq_ (n:Nat):AH (Fh n)=0:=by
 unfold Fh
 induction List.range n with
 | nil=>rfl
 | cons a l ih=>simp[AH,mx,ih]
theorem Zw (a b:Bool) (s x:ByteArray):BY (BO (.agg [.bool a,.str s])) (BO (.agg [.bool b,.str x]))=((a==b)&&(s==x)):=by
 simp[BO,BY,SE]
theorem HH {b:Bool}:∀{l:List ByteArray} {s:ByteArray},¬s∈l->AU (FK b l) (.agg [.bool b,.str s])=none
 | [],_,_=>rfl
 | x::l,s,h=>by
  have h1:(s==x)=false:=by simp;intro e;exact h (by simp[e])
  rw[GY,AU,Zw,h1,HH (l:=l) (s:=s) fun hm=>h (aF0 _ hm)];simp
theorem Gh {b:Bool}:∀{l:List ByteArray} {s:ByteArray},AU (FK (!b) l) (.agg [.bool b,.str s])=none
 | [],_=>rfl
 | x::l,s=>by
  rw[GY,AU,Zw,Gh (l:=l) (s:=s)];cases b<;>simp
theorem Kp {b:Bool}:∀{l:List ByteArray} {s:ByteArray},s∈l->AU (FK b l) (.agg [.bool b,.str s])=some (Lu l s)
 | [],_,h=>by simp at h
 | x::l,s,h=>by
  unfold Lu;rw[List.findIdx_cons,GY,AU,Zw]
  by_cases h1:s=x
  ·subst h1;simp
  ·have h2:=Kp (b:=b) (l:=l) (s:=s) (by simpa[h1]using h);have h1b:(s==x)=false:=by simpa using h1
   rw[h2];simp[h1b,Lu]
theorem MF : ∀(a b:List DVal) (x:DVal),AU (a++b) x=match AU a x with | some j=>some j | none=>(AU b x).map (· +a.length)
 | [],b,x=>by simp[AU]
 | k::a,b,x=>by
  rw[List.cons_append,AU,AU,MF a b x]
  split
  ·rfl
  ·cases AU a x with
   | some j=>rfl
   | none=>cases AU b x<;>simp;omega
theorem Uc (b:Bool) (l:List ByteArray):(FK b l).all (Cf prog 104)=true:=by
 induction l with
 | nil=>rfl
 | cons p l ih=>rw[GY,dA0,ih];simp
def KQ (H L:List ByteArray):List DVal:=FK false H++FK true L
def uO (H L:List ByteArray):List DVal:=Fh H.length++Fh L.length
abbrev ES (H L:List ByteArray):DVal:= .ref [Bu H,Bu L,.mp (KQ H L) (uO H L)]
@[simp] theorem FO_ (H L:List ByteArray):AH (KQ H L)=0:=by simp[KQ]
@[simp] theorem FN_ (H L:List ByteArray):AH (uO H L)=0:=by simp[uO]
theorem uM (H L:List ByteArray):(KQ H L).all (Cf prog 104)=true:=by
 unfold KQ;rw[List.all_append,Uc,Uc];rfl
def Nf (H L:List ByteArray) (b:Bool):List ByteArray:=if b then L else H
def VP (l:List ByteArray) (s:ByteArray):Int:=if s∈l then (Lu l s:Int)else 0
def JK (l:List ByteArray) (s:ByteArray):Int:=if s∈l then 0 else 4
theorem aK {n i:Nat} (h:i<n):(Fh n)[i]? =some (.int .i64 (i:Int)):=by
 unfold Fh;rw[bM0,List.getElem?_range h];rfl
theorem uN {H L:List ByteArray} {b:Bool} {s:ByteArray} (h:s∈Nf H L b):∃j,AU (KQ H L) (.agg [.bool b,.str s])=some j/\(uO H L)[j]? =some (.int .i64 (Lu (Nf H L b) s)):=by
 unfold KQ uO;rw[MF]
 cases b with
 | false =>
  have h':s∈H:=h;rw[Kp h'];have hi:=Kw h';exact⟨_,rfl,by rw[aV0 (by rw[OH];exact hi)];exact aK hi⟩
 | true =>
  have h':s∈L:=h;have hi:=Kw h';have h0:AU (FK false H) (.agg [.bool true,.str s])=none:=Gh (b:=true);rw[h0,Kp h'];refine⟨_,rfl,?_⟩
  show (Fh H.length++Fh L.length)[Lu L s+(FK false H).length]? =_
  rw[AB_,aX0 (by rw[OH];omega),OH,Nat.add_sub_cancel];exact aK hi
theorem Ve {H L:List ByteArray} {b:Bool} {s:ByteArray} (h:¬s∈Nf H L b):AU (KQ H L) (.agg [.bool b,.str s])=none:=by
 unfold KQ;rw[MF]
 cases b with
 | false =>
  have h':¬s∈H:=h;rw[HH h',show AU (FK true L) (.agg [.bool false,.str s])=none from Gh (b:=false)];rfl
 | true =>
  have h':¬s∈L:=h;rw[show AU (FK false H) (.agg [.bool true,.str s])=none from Gh (b:=true),HH h'];rfl
def iV : Ann:=⟨[],[]⟩
theorem DR (H L:List ByteArray):Ae prog 81 [ES H L] (.bool true):=by
 refine Ac [] iV func81 call81 ntmps81 mxd (Ar @iV.eq_1 results81) rfl (fun qJ B qX qQ=> ?_);clear qJ;simp only[Ak];exact Aw Ab Ab Ab
def XC : Ann:=⟨[],[]⟩
theorem IG (H L:List ByteArray) (b:Bool) (s:ByteArray):Ae prog 159 [ES H L,.agg [.bool b,.str s]] (.tup [.int .i64 (VP (Nf H L b) s),.int .i64 (JK (Nf H L b) s)]):=by
 refine Ac [] XC func159 call159 ntmps159 mxd (Ar @XC.eq_1 results159) rfl (fun qJ B qX qQ=> ?_);clear qJ;simp only[Ak];have e1:=DR H L;have qW:=uM H L;unfold VP JK
 by_cases h:s∈Nf H L b
 ·obtain⟨j,h1,h2⟩:=uN h;rw[if_pos h,if_pos h];exact Aw (AJ e1) Ab (GE qW h1 h2)
 ·have h1:=Ve h;rw[if_neg h,if_neg h];exact Aw (AJ e1) Ab (Ar qW h1)
def XE : Ann:=⟨[],[]⟩
theorem Zn (H L:List ByteArray) (s:ByteArray):Ae prog 105 [ES H L,.str s] (.tup [.int .i64 (VP H s),.int .i64 (JK H s)]):=by
 refine Ac [] XE func105 call105 ntmps105 mxd (Ar @XE.eq_1 results105) rfl (fun qJ B qX qQ=> ?_);clear qJ;simp only[Ak];have e1:=IG H L false s;rw[show Nf H L false=H from rfl]at e1;exact Aw (AJ e1) Ab Ab
def XD : Ann:=⟨[],[]⟩
theorem Rr (H L:List ByteArray) (s:ByteArray):Ae prog 106 [ES H L,.str s] (.tup [.int .i64 (VP L s),.int .i64 (JK L s)]):=by
 refine Ac [] XD func106 call106 ntmps106 mxd (Ar @XD.eq_1 results106) rfl (fun qJ B qX qQ=> ?_);clear qJ;simp only[Ak];have e1:=IG H L true s;rw[show Nf H L true=L from rfl]at e1;exact Aw (AJ e1) Ab Ab
def En (H L:List ByteArray) (x:Nd):Sym:=if x.k=3 then (if x.s∈L then ⟨true,Lu L x.s⟩else ⟨false,0⟩)else if x.k=2 then (if x.s∈H then ⟨false,Lu H x.s⟩else ⟨false,0⟩)else ⟨false,0⟩
def YM (H L:List ByteArray) (x:Nd):Int:=if x.k=3 then JK L x.s else if x.k=2 then JK H x.s else 2
def iW : Ann:=⟨[],[]⟩
theorem OM (H L:List ByteArray) (x:Nd):Ae prog 56 [ES H L,.agg (BM x)] (.tup [.agg (Bf (En H L x)),.int .i64 (YM H L x)]):=by
 refine Ac [] iW func56 call56 ntmps56 mxd (Ar @iW.eq_1 results56) rfl (fun qJ B qX qQ=> ?_);clear qJ;simp only[Ak];have e1:=DR H L;have e2:=Zn H L x.s;have e3:=Rr H L x.s;unfold En YM
 by_cases k3:x.k=3
 ·by_cases h:x.s∈L
  ·simp only[VP,JK,h,if_true]at e3;exact Aw (GE e1 e2 e3) Ab (Mj @BM.eq_1 @Bf.eq_1 k3 h @JK.eq_1)
  ·simp only[VP,JK,h,if_false]at e3;exact Aw (GE e1 e2 e3) Ab (Mj @BM.eq_1 @Bf.eq_1 k3 h @JK.eq_1)
 ·have k3':(x.k==3)=false:=by simpa using k3
  by_cases k2:x.k=2
  ·by_cases h:x.s∈H
   ·simp only[VP,JK,h,if_true]at e2;exact Aw (GE e1 e2 e3) Ab (NA @BM.eq_1 @Bf.eq_1 k3 k3' k2 h @JK.eq_1)
   ·simp only[VP,JK,h,if_false]at e2;exact Aw (GE e1 e2 e3) Ab (NA @BM.eq_1 @Bf.eq_1 k3 k3' k2 h @JK.eq_1)
  ·have k2':(x.k==2)=false:=by simpa using k2
   exact Aw (GE e1 e2 e3) Ab (MY @BM.eq_1 @Bf.eq_1 k3 k3' k2 k2')
def iX : Ann:=⟨[],[]⟩
theorem HE (H L:List ByteArray):Ae prog 52 [ES H L] (Bu H):=by
 refine Ac [] iX func52 call52 ntmps52 mxd (Ar @iX.eq_1 results52) rfl (fun qJ B qX qQ=> ?_);clear qJ;simp only[Ak];have e1:=DR H L;have e2:=Nw H;exact Aw (Ar e1 e2) Ab Ab
def Et_ (i j:Nat) (T:ByteArray):List Ent:=if T.size=0 then [⟨i,1,.row 232 2 32 [[.nilp,.nilsl]]⟩]else [⟨i,1,.row 232 2 32 [[.rx i 1 2 0 0,.osl j 1]]⟩,⟨j,1,.row 5 1 1 (AP T)⟩]
theorem MT {i j:Nat} {T:ByteArray} (h:T.size=0):Et_ i j T=[⟨i,1,.row 232 2 32 [[.nilp,.nilsl]]⟩]:=if_pos h
theorem Ju {i j:Nat} {T:ByteArray} (h:T.size≠0):Et_ i j T=[⟨i,1,.row 232 2 32 [[.rx i 1 2 0 0,.osl j 1]]⟩,⟨j,1,.row 5 1 1 (AP T)⟩]:=if_neg h
theorem ER_ {T:ByteArray} (h:T.size=0):T=⟨#[]⟩:=by
 obtain⟨a⟩:=T;have:a= #[]:=Array.eq_empty_of_size_eq_zero h;rw[this]
theorem sV (x:ByteArray):(⟨#[]⟩:ByteArray)++x=x:=by
 apply Hk
 simp[ByteArray.data_append]
end Go.Proofs.Wy
end
