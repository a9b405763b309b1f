/- Parts of a proof, laid together: RB4, RB5, RB6. -/
import Derived.Test.YtbpmiknobocjoaaGreatqAp17
import Derived.Test.YtbpmiknobocjoaaGreatqAp30
import Derived.Test.YtbpmiknobocjoaaGreatqAp31
import Derived.Test.YtbpmiknobocjoaaGreatqAp35
import Derived.Test.YtbpmiknobocjoaaGreatqAp36
set_option linter.unusedSimpArgs false
set_option maxHeartbeats 8000000
set_option linter.unusedVariables false
set_option linter.unusedSectionVars false
section
namespace Go.Proofs.Wy
open Go Go.Dm Tryz
variable [DMode]
attribute [local irreducible] DW BN BS
set_option maxRecDepth 100000
def foG (x:Nd) (ks:List RT) (P p q:Nat) (G:Option Bool):Bool:=match G with
 | some b=>b
 | none=>decide (x.k=4)&&WU ks (P+1) p q
theorem Hf_ (x:Nd) (ks:List RT) (P p q:Nat) (h:((decide (x.k=6)||decide (x.k=7))&&hdL ks (P+1) p q)=false):Qd (.mk x ks) P p q=foG x ks P p q (VY ks (P+1) p q):=by
 rw[lH,h];rfl
def uM : Ann:=⟨[],[]⟩
theorem Pv (p q:Nat):∀(n:Nat) (t:RT) (l:List Nd) (P:Nat),(Ad t).length=n->At l P t->l.length<=1572864->Af prog 97 [AM l,.int .i64 P,.int .i64 p,.int .i64 q] (.bool (Qd t P p q)):=by
 intro n
 induction n using Nat.strongRecOn with
 | ind n ih =>
 intro t l P hn ht hs;obtain⟨x,ks⟩:=t;have kk:=Et l P x ks ht hs;have cN:=Th l P p q x ks ht hs;obtain⟨g0,gl,ge⟩:=ht.head;simp only[RT.x]at g0;have g0':l[P]'gl=x:=(aB0.1 g0).2;have qG:=ht.ok;have vI:(Ad (.mk x ks)).length=(An ks).length+1:=by rw[AQ,List.length_cons]
 have yJ:=Cr ks;have hk9:ks.length<=1572864:=by omega
 have kL:∀i u,ks[i]? =some u->Af prog 97 [AM l,.int .i64 (AS P ks i),.int .i64 p,.int .i64 q] (.bool (Qd u (AS P ks i) p q)):=fun i u hu=>by
  have hm:=Eu (bJ0 hu);exact ih (Ad u).length (by omega) u l _ rfl (ht.kid hu).1 hs
 have hwp:∀i u,ks[i]? =some u->_:=fun i u hu=>CF l (AS P ks i) p u (ht.kid hu).1 hs
 have fR:∀i u,ks[i]? =some u->_:=fun i u hu=>CF l (AS P ks i) q u (ht.kid hu).1 hs
 have vJ:∀i u,ks[i]? =some u->_:=fun i u hu=>Kt p _ u l (AS P ks i) rfl (ht.kid hu).1 hs
 have hbe:∀i u,ks[i]? =some u->_:=fun i u hu=>GR q _ u l (AS P ks i) rfl (ht.kid hu).1 hs
 have qH:∀i,i<ks.length->_:=fun i h=>GC (p:=P) (ks:=ks) (i:=i) h
 unfold Ki at kk cN;obtain⟨D,hD⟩:∃D,D=(List.range ks.length).map fun i=>Ij (AS P ks i):=⟨_,rfl⟩
 have wJ:D.length=ks.length:=by rw[hD];simp
 have wP:Br D=0:=by rw[hD];exact Hj P ks _
 rw[<-hD]at kk qH cN;clear hD ih ht ge hn;have zZ:=Hf_ x ks P p q;have kS:=lH x ks P p q;obtain⟨R,hR⟩:∃R,R=Qd (.mk x ks) P p q:=⟨_,rfl⟩;rw[<-hR]at zZ kS |-;clear hR;refine Ae [] uM func97 call97 ntmps97 mxd (AB @uM.eq_1 results97) rfl (fun qJ B qX qQ=> ?_);clear qJ;simp only[Aq]
 by_cases k67:x.k=6\/x.k=7
 ·obtain⟨u0,pJ⟩:=PO qG (by omega);have hu1:ks[0]? =some u0:=by rw[pJ];rfl
  have wN:0<ks.length:=by rw[pJ];simp
  have yT:0<D.length:=by omega
  have yP:=qH 0 wN;have gN:D[0]'yT=[.int .i64 (AS P ks 0:Int)]:=(aB0.1 yP).2;have e4:=vJ 0 u0 hu1;have e5:=hbe 0 u0 hu1;have pD:hdL ks (P+1) p q=(Nc u0 (AS P ks 0) p&&Sv u0 (AS P ks 0) q):=by rw[FB,pJ];rfl
  rw[pD]at zZ kS;clear pJ pD;obtain⟨a0,ha0⟩:∃a0,a0=AS P ks 0:=⟨_,rfl⟩;rw[<-ha0]at yP gN e4 e5 zZ kS;obtain⟨c1,hc1⟩:∃c1,c1=Nc u0 a0 p:=⟨_,rfl⟩;obtain⟨c2,jH⟩:∃c2,c2=Sv u0 a0 q:=⟨_,rfl⟩;rw[<-hc1]at e4 zZ kS;rw[<-jH]at e5 zZ kS;have hkb:(decide (x.k=6)||decide (x.k=7))=true:=by simpa using k67
  have hkb2:(x.k==6||x.k==7)=true:=by simpa using k67
  have zT:(x.k==7)=(decide (x.k=7)):=rfl;have hk3:(x.k==6)=(decide (x.k=6)):=rfl;rw[hkb]at zZ kS;simp only[cA0]at zZ kS
  by_cases wE:(c1&&c2)=true
  ·rw[wE]at kS;simp only[if_true]at kS;simp only[aL0]at wE;rw[wE.1]at e4;rw[wE.2]at e5
   rcases k67 with k6 | k7
   ·exact Az (CL kk e4 e5) Ab (Ml @Bo.eq_1 g0 g0' gl wJ yT yP gN k6 kS)
   ·exact Az (CL kk e4 e5) Ab (Ml @Bo.eq_1 g0 g0' gl wJ yT yP gN k7 kS)
  ·rw[dR0]at wE
   replace zZ:=zZ wE
   cases c1
   ·rcases k67 with k6 | k7
    ·(refine AL (CL kk e4 e5) Ab (WJ @Bo.eq_1 g0 g0' gl wJ yT yP gN k6) ?_;intros;refine Am ?_)
     refine Ai (X:={i:Nat//i<=ks.length/\R=foG x ks P p q (VY (ks.drop i) (AS P ks i) p q)}) (fun i=>⟨[(0,AM l),(2,.int .i64 p),(3,.int .i64 q),(9,.sl 1 8 D),(10,.int .i64 x.k),(11,.int .i64 i.1)],[]⟩) (fun i=>ks.length-i.1) ⟨0,by omega,by rw[dT0,FB];exact zZ⟩ (Sub.lit (by simp[wP,k6])) ?_;clear zZ kS;rintro⟨i,hi,hR⟩;simp only
     by_cases qV:i<ks.length
     ·obtain⟨u,hu,vO,_⟩:=Ap qV;have e1:=hwp i u hu;have e2:=fR i u hu;have e3:=kL i u hu;have hr:=qH i qV;have qO:i<D.length:=by omega
      have wU:IntKind.i64.wrap ((i:Int)+1)=(i:Int)+1:=wq;have qW:D[i]'qO=[.int .i64 (AS P ks i:Int)]:=(aB0.1 hr).2;rw[FD hu,GI,<-FC hu]at hR;obtain⟨a,ha⟩:∃a,a=AS P ks i:=⟨_,rfl⟩;rw[<-ha]at e1 e2 e3 hr qW hR;obtain⟨b1,qC⟩:∃b1,b1=Jd u a p:=⟨_,rfl⟩;obtain⟨b2,wX⟩:∃b2,b2=Jd u a q:=⟨_,rfl⟩;rw[<-qC]at e1 hR;rw[<-wX]at e2 hR;clear qC wX;cases b1
      ·simp only[cL0,aQ0,if_false]at hR
       (refine AL (CL e1 e2 e3) Ab (Jm wJ qO wU hr qW qV) ?_;intros;refine Am ?_)
       refine Al.mk ⟨i+1,by omega,hR⟩ (Sub.lit (by simp[wP])) (by simp;omega)
       skip
      ·cases b2
       ·simp only[dU0,aQ0,if_false]at hR
        (refine AL (CL e1 e2 e3) Ab (Jm wJ qO wU hr qW qV) ?_;intros;refine Am ?_)
        refine Al.mk ⟨i+1,by omega,hR⟩ (Sub.lit (by simp[wP])) (by simp;omega)
        skip
       ·simp only[Bool.and_self,if_true]at hR;have wY:R=Qd u a p q:=hR;exact Az (CL e1 e2 e3) Ab (IH wJ qO wU hr qW qV wY)
     ·have qZ:i=ks.length:=by omega
      subst qZ;rw[bU0,Ho]at hR;have wY:R=(decide (x.k=4)&&WU ks (P+1) p q):=hR
      by_cases k4:x.k=4
      ·rw[decide_eq_true k4,cA0]at wY;rw[<-wY]at cN;exact Az (AH cN) Ab (AB wJ k4)
      ·rw[decide_eq_false k4,cL0]at wY;have b4:(x.k==4)=false:=by simpa using k4
       exact Az Ab Ab (IF wJ k4 b4 wY)
    ·skip
     (refine AL (CL kk e4 e5) Ab (WJ @Bo.eq_1 g0 g0' gl wJ yT yP gN k7) ?_;intros;refine Am ?_)
     refine Ai (X:={i:Nat//i<=ks.length/\R=foG x ks P p q (VY (ks.drop i) (AS P ks i) p q)}) (fun i=>⟨[(0,AM l),(2,.int .i64 p),(3,.int .i64 q),(9,.sl 1 8 D),(10,.int .i64 x.k),(11,.int .i64 i.1)],[]⟩) (fun i=>ks.length-i.1) ⟨0,by omega,by rw[dT0,FB];exact zZ⟩ (Sub.lit (by simp[wP,k7])) ?_;clear zZ kS;rintro⟨i,hi,hR⟩;simp only
     by_cases qV:i<ks.length
     ·obtain⟨u,hu,vO,_⟩:=Ap qV;have e1:=hwp i u hu;have e2:=fR i u hu;have e3:=kL i u hu;have hr:=qH i qV;have qO:i<D.length:=by omega
      have wU:IntKind.i64.wrap ((i:Int)+1)=(i:Int)+1:=wq;have qW:D[i]'qO=[.int .i64 (AS P ks i:Int)]:=(aB0.1 hr).2;rw[FD hu,GI,<-FC hu]at hR;obtain⟨a,ha⟩:∃a,a=AS P ks i:=⟨_,rfl⟩;rw[<-ha]at e1 e2 e3 hr qW hR;obtain⟨b1,qC⟩:∃b1,b1=Jd u a p:=⟨_,rfl⟩;obtain⟨b2,wX⟩:∃b2,b2=Jd u a q:=⟨_,rfl⟩;rw[<-qC]at e1 hR;rw[<-wX]at e2 hR;clear qC wX;cases b1
      ·simp only[cL0,aQ0,if_false]at hR
       (refine AL (CL e1 e2 e3) Ab (Jm wJ qO wU hr qW qV) ?_;intros;refine Am ?_)
       refine Al.mk ⟨i+1,by omega,hR⟩ (Sub.lit (by simp[wP])) (by simp;omega)
       skip
      ·cases b2
       ·simp only[dU0,aQ0,if_false]at hR
        (refine AL (CL e1 e2 e3) Ab (Jm wJ qO wU hr qW qV) ?_;intros;refine Am ?_)
        refine Al.mk ⟨i+1,by omega,hR⟩ (Sub.lit (by simp[wP])) (by simp;omega)
        skip
       ·simp only[Bool.and_self,if_true]at hR;have wY:R=Qd u a p q:=hR;exact Az (CL e1 e2 e3) Ab (IH wJ qO wU hr qW qV wY)
     ·have qZ:i=ks.length:=by omega
      subst qZ;rw[bU0,Ho]at hR;have wY:R=(decide (x.k=4)&&WU ks (P+1) p q):=hR
      by_cases k4:x.k=4
      ·rw[decide_eq_true k4,cA0]at wY;rw[<-wY]at cN;exact Az (AH cN) Ab (AB wJ k4)
      ·rw[decide_eq_false k4,cL0]at wY;have b4:(x.k==4)=false:=by simpa using k4
       exact Az Ab Ab (IF wJ k4 b4 wY)
   ·simp only[cA0]at wE;rw[wE]at e5
    rcases k67 with k6 | k7
    ·skip
     (refine AL (CL kk e4 e5) Ab (WJ @Bo.eq_1 g0 g0' gl wJ yT yP gN k6) ?_;intros;refine Am ?_)
     refine Ai (X:={i:Nat//i<=ks.length/\R=foG x ks P p q (VY (ks.drop i) (AS P ks i) p q)}) (fun i=>⟨[(0,AM l),(2,.int .i64 p),(3,.int .i64 q),(9,.sl 1 8 D),(10,.int .i64 x.k),(11,.int .i64 i.1)],[]⟩) (fun i=>ks.length-i.1) ⟨0,by omega,by rw[dT0,FB];exact zZ⟩ (Sub.lit (by simp[wP,k6])) ?_;clear zZ kS;rintro⟨i,hi,hR⟩;simp only
     by_cases qV:i<ks.length
     ·obtain⟨u,hu,vO,_⟩:=Ap qV;have e1:=hwp i u hu;have e2:=fR i u hu;have e3:=kL i u hu;have hr:=qH i qV;have qO:i<D.length:=by omega
      have wU:IntKind.i64.wrap ((i:Int)+1)=(i:Int)+1:=wq;have qW:D[i]'qO=[.int .i64 (AS P ks i:Int)]:=(aB0.1 hr).2;rw[FD hu,GI,<-FC hu]at hR;obtain⟨a,ha⟩:∃a,a=AS P ks i:=⟨_,rfl⟩;rw[<-ha]at e1 e2 e3 hr qW hR;obtain⟨b1,qC⟩:∃b1,b1=Jd u a p:=⟨_,rfl⟩;obtain⟨b2,wX⟩:∃b2,b2=Jd u a q:=⟨_,rfl⟩;rw[<-qC]at e1 hR;rw[<-wX]at e2 hR;clear qC wX;cases b1
      ·simp only[cL0,aQ0,if_false]at hR
       (refine AL (CL e1 e2 e3) Ab (Jm wJ qO wU hr qW qV) ?_;intros;refine Am ?_)
       refine Al.mk ⟨i+1,by omega,hR⟩ (Sub.lit (by simp[wP])) (by simp;omega)
       skip
      ·cases b2
       ·simp only[dU0,aQ0,if_false]at hR
        (refine AL (CL e1 e2 e3) Ab (Jm wJ qO wU hr qW qV) ?_;intros;refine Am ?_)
        refine Al.mk ⟨i+1,by omega,hR⟩ (Sub.lit (by simp[wP])) (by simp;omega)
        skip
       ·simp only[Bool.and_self,if_true]at hR;have wY:R=Qd u a p q:=hR;exact Az (CL e1 e2 e3) Ab (IH wJ qO wU hr qW qV wY)
     ·have qZ:i=ks.length:=by omega
      subst qZ;rw[bU0,Ho]at hR;have wY:R=(decide (x.k=4)&&WU ks (P+1) p q):=hR
      by_cases k4:x.k=4
      ·rw[decide_eq_true k4,cA0]at wY;rw[<-wY]at cN;exact Az (AH cN) Ab (AB wJ k4)
      ·rw[decide_eq_false k4,cL0]at wY;have b4:(x.k==4)=false:=by simpa using k4
       exact Az Ab Ab (IF wJ k4 b4 wY)
    ·skip
     (refine AL (CL kk e4 e5) Ab (WJ @Bo.eq_1 g0 g0' gl wJ yT yP gN k7) ?_;intros;refine Am ?_)
     refine Ai (X:={i:Nat//i<=ks.length/\R=foG x ks P p q (VY (ks.drop i) (AS P ks i) p q)}) (fun i=>⟨[(0,AM l),(2,.int .i64 p),(3,.int .i64 q),(9,.sl 1 8 D),(10,.int .i64 x.k),(11,.int .i64 i.1)],[]⟩) (fun i=>ks.length-i.1) ⟨0,by omega,by rw[dT0,FB];exact zZ⟩ (Sub.lit (by simp[wP,k7])) ?_;clear zZ kS;rintro⟨i,hi,hR⟩;simp only
     by_cases qV:i<ks.length
     ·obtain⟨u,hu,vO,_⟩:=Ap qV;have e1:=hwp i u hu;have e2:=fR i u hu;have e3:=kL i u hu;have hr:=qH i qV;have qO:i<D.length:=by omega
      have wU:IntKind.i64.wrap ((i:Int)+1)=(i:Int)+1:=wq;have qW:D[i]'qO=[.int .i64 (AS P ks i:Int)]:=(aB0.1 hr).2;rw[FD hu,GI,<-FC hu]at hR;obtain⟨a,ha⟩:∃a,a=AS P ks i:=⟨_,rfl⟩;rw[<-ha]at e1 e2 e3 hr qW hR;obtain⟨b1,qC⟩:∃b1,b1=Jd u a p:=⟨_,rfl⟩;obtain⟨b2,wX⟩:∃b2,b2=Jd u a q:=⟨_,rfl⟩;rw[<-qC]at e1 hR;rw[<-wX]at e2 hR;clear qC wX;cases b1
      ·simp only[cL0,aQ0,if_false]at hR
       (refine AL (CL e1 e2 e3) Ab (Jm wJ qO wU hr qW qV) ?_;intros;refine Am ?_)
       refine Al.mk ⟨i+1,by omega,hR⟩ (Sub.lit (by simp[wP])) (by simp;omega)
       skip
      ·cases b2
       ·simp only[dU0,aQ0,if_false]at hR
        (refine AL (CL e1 e2 e3) Ab (Jm wJ qO wU hr qW qV) ?_;intros;refine Am ?_)
        refine Al.mk ⟨i+1,by omega,hR⟩ (Sub.lit (by simp[wP])) (by simp;omega)
        skip
       ·simp only[Bool.and_self,if_true]at hR;have wY:R=Qd u a p q:=hR;exact Az (CL e1 e2 e3) Ab (IH wJ qO wU hr qW qV wY)
     ·have qZ:i=ks.length:=by omega
      subst qZ;rw[bU0,Ho]at hR;have wY:R=(decide (x.k=4)&&WU ks (P+1) p q):=hR
      by_cases k4:x.k=4
      ·rw[decide_eq_true k4,cA0]at wY;rw[<-wY]at cN;exact Az (AH cN) Ab (AB wJ k4)
      ·rw[decide_eq_false k4,cL0]at wY;have b4:(x.k==4)=false:=by simpa using k4
       exact Az Ab Ab (IF wJ k4 b4 wY)
 ·have b6:(x.k==6)=false:=by simpa using fun h=>k67 (.inl h)
  have b7:(x.k==7)=false:=by simpa using fun h=>k67 (.inr h)
  have n6:¬x.k=6:=fun h=>k67 (.inl h)
  have n7:¬x.k=7:=fun h=>k67 (.inr h)
  replace zZ:=zZ (by simp[n6,n7])
  (refine AL (AH kk) Ab (KG @Bo.eq_1 g0 g0' gl n6 n7 b6 b7) ?_;intros;refine Am ?_)
  refine Ai (X:={i:Nat//i<=ks.length/\R=foG x ks P p q (VY (ks.drop i) (AS P ks i) p q)}) (fun i=>⟨[(0,AM l),(2,.int .i64 p),(3,.int .i64 q),(9,.sl 1 8 D),(10,.int .i64 x.k),(11,.int .i64 i.1)],[]⟩) (fun i=>ks.length-i.1) ⟨0,by omega,by rw[dT0,FB];exact zZ⟩ (Sub.lit (by simp[wP])) ?_;clear zZ kS;rintro⟨i,hi,hR⟩;simp only
  by_cases qV:i<ks.length
  ·obtain⟨u,hu,vO,_⟩:=Ap qV;have e1:=hwp i u hu;have e2:=fR i u hu;have e3:=kL i u hu;have hr:=qH i qV;have qO:i<D.length:=by omega
   have wU:IntKind.i64.wrap ((i:Int)+1)=(i:Int)+1:=wq;have qW:D[i]'qO=[.int .i64 (AS P ks i:Int)]:=(aB0.1 hr).2;rw[FD hu,GI,<-FC hu]at hR;obtain⟨a,ha⟩:∃a,a=AS P ks i:=⟨_,rfl⟩;rw[<-ha]at e1 e2 e3 hr qW hR;obtain⟨b1,qC⟩:∃b1,b1=Jd u a p:=⟨_,rfl⟩;obtain⟨b2,wX⟩:∃b2,b2=Jd u a q:=⟨_,rfl⟩;rw[<-qC]at e1 hR;rw[<-wX]at e2 hR;clear qC wX;cases b1
   ·simp only[cL0,aQ0,if_false]at hR
    (refine AL (CL e1 e2 e3) Ab (Jm wJ qO wU hr qW qV) ?_;intros;refine Am ?_)
    refine Al.mk ⟨i+1,by omega,hR⟩ (Sub.lit (by simp[wP])) (by simp;omega)
    skip
   ·cases b2
    ·simp only[dU0,aQ0,if_false]at hR
     (refine AL (CL e1 e2 e3) Ab (Jm wJ qO wU hr qW qV) ?_;intros;refine Am ?_)
     refine Al.mk ⟨i+1,by omega,hR⟩ (Sub.lit (by simp[wP])) (by simp;omega)
     skip
    ·simp only[Bool.and_self,if_true]at hR;have wY:R=Qd u a p q:=hR;exact Az (CL e1 e2 e3) Ab (IH wJ qO wU hr qW qV wY)
  ·have qZ:i=ks.length:=by omega
   subst qZ;rw[bU0,Ho]at hR;have wY:R=(decide (x.k=4)&&WU ks (P+1) p q):=hR
   by_cases k4:x.k=4
   ·rw[decide_eq_true k4,cA0]at wY;rw[<-wY]at cN;exact Az (AH cN) Ab (AB wJ k4)
   ·rw[decide_eq_false k4,cL0]at wY;have b4:(x.k==4)=false:=by simpa using k4
    exact Az Ab Ab (IF wJ k4 b4 wY)
def Gc : Ann:=⟨[],[]⟩
theorem Jc (l:List Arc) (p:Arc) (qI:(l.length+1)*32<=150000000000000):Af prog 96 [BR l,.agg (AN p)] (BR (DM CW l p)):=by
 refine Ae [50] Gc func96 call96 ntmps96 mxd (AB @Gc.eq_1 results96) rfl (fun qJ B qX qQ=> ?_);clear qJ;simp only[Aq];obtain⟨r,hr⟩:∃r,r=DM CW l p:=⟨_,rfl⟩;rw[<-hr]
 (refine AL Ab Ab (AH @AN.eq_1) ?_;intros;refine Am ?_)
 refine BM 5 50 42 4 32 (by simp[qX,results96,Gc]) (fun n=> ?_);refine Ai (X:={x:Nat×Bool×List Arc//x.1<=l.length/\x.2.2.length<=x.1+(if x.2.1 then 1 else 0)/\x.2.2++(if x.2.1 then l.drop x.1 else DM CW (l.drop x.1) p)=r}) (fun x=>⟨[(0,BR l),(1,.agg (AN p)),(3,.ref (AN p)),(5,.osl 50 1),(6,.bool x.1.2.1),(7,.int .i64 x.1.1)],[⟨50,1,.row 42 4 32 (x.1.2.2.map AN)⟩]⟩) (fun x=>l.length-x.1.1) ⟨(0,false,[]),by simp[hr]⟩ (Sub.lit (by simp[AN])) ?_
 rintro⟨⟨k,b,R⟩,hk,hR,wE⟩;simp only at hk hR wE |-;clear hr
 by_cases qV:k<l.length
 ·obtain⟨q,hq,wB,mN⟩:=Ap qV;rw[aR0 qV,wB]at wE;cases b
  ·simp only[aQ0,if_false,DM,dH0]at hR wE;have zQ:(R.length+1)*32<=150000000000000:=Nat.le_trans (aW0 32 (by omega)) qI;have vT:R.length<=9223372036854775806:=by omega
   have mV:(R.length+1+1)*32<=150000000000000:=Nat.le_trans (aW0 32 (by omega)) qI;have mJ:R.length+1<=9223372036854775806:=by omega
   have e1:=Yp q p;rw[SB]at e1;simp only[AN]at e1
   by_cases jH:¬CW q p<0
   ·rw[decide_eq_false jH]at e1;rw[if_neg jH]at wE
    by_cases he:q=p
    ·subst he;rw[if_neg jH]at wE
     (refine AL (AH e1) Ab (KG @AN.eq_1 qV wB jH zQ vT mV mJ) ?_;intros;refine Am ?_)
     refine Al.mk ⟨(k+1,true,R++[q]),show k+1<=l.length/\(R++[q]).length<=k+1+_/\_ from ⟨by omega,by simp;omega,by simpa using wE⟩⟩ (Sub.lit (by simp[AN])) (by simp;omega)
     skip
    ·have vS:(q.fr==p.fr&&(q.sy.label==p.sy.label&&(q.sy.n==p.sy.n&&q.to==p.to)))=false:=oG he
     have hlp:CW p q<0:=by
      have h0:CW q p≠0:=fun h=>he ((Di.eq0 q p).1 h)
      exact(Di.anti p q).2 (by omega)
     rw[if_pos hlp]at wE
     (refine AL (AH e1) Ab (WJ @AN.eq_1 qV wB jH vS zQ vT mV mJ) ?_;intros;refine Am ?_)
     refine Al.mk ⟨(k+1,true,R++[p,q]),show k+1<=l.length/\(R++[p,q]).length<=k+1+_/\_ from ⟨by omega,by simp;omega,by simpa using wE⟩⟩ (Sub.lit (by simp[AN])) (by simp;omega)
     skip
   ·have hc3:CW q p<0:=by omega
    rw[decide_eq_true hc3]at e1;rw[if_pos hc3]at wE
    (refine AL (AH e1) Ab (KG @AN.eq_1 qV wB jH zQ vT mV mJ) ?_;intros;refine Am ?_)
    refine Al.mk ⟨(k+1,false,R++[q]),show k+1<=l.length/\(R++[q]).length<=k+1+_/\_ from ⟨by omega,by simp;omega,by simpa using wE⟩⟩ (Sub.lit (by simp[AN])) (by simp;omega)
    skip
  ·simp only[if_true]at hR wE;have zQ:(R.length+1)*32<=150000000000000:=Nat.le_trans (aW0 32 (by omega)) qI;have vT:R.length<=9223372036854775806:=by omega
   (repeat (first | refine AC fun K hK=> ?_ | (refine BA Gc mxd (by kernel_rfl) ?_;simp[Gc,qX,AN,qV,wB,zQ,vT];try simp (disch:=omega) only[Ag]) | refine Ao ?_ | (refine AX ?_ ?_ ?_;(· (simp[qX,AN,qV,wB,zQ,vT];done));(try (rotate_left;(· (intro hc;(try simp[qX,AN,qV,wB,zQ,vT]at hc);done))))) | (refine AE ?_;simp[results96,qX,AN,qV,wB,zQ,vT]) | ((first | refine Aw ?_ | refine Av ?_);simp[qX,AN,qV,wB,zQ,vT]) | (intro hc;(try simp[qX,AN,qV,wB,zQ,vT]at hc);(try (exfalso;omega))) | ((first | refine Ak (e1) ?_ | (refine Aj (e1) ?_ ?_;(· (simp;done))));try simp[qX,AN,qV,wB,zQ,vT]) | (refine⟨?_,?_⟩; · omega) | omega | apply_assumption -exfalso -symm | (exfalso;omega)))
   refine Al.mk ⟨(k+1,true,R++[q]),show k+1<=l.length/\(R++[q]).length<=k+1+_/\_ from ⟨by omega,by simp;omega,by simpa using wE⟩⟩ (Sub.lit (by simp[AN])) (by simp;omega)
   skip
 ·have vH:k=l.length:=by omega
  subst vH;rw[bU0]at wE;cases b
  ·simp only[aQ0,if_false,DM,dH0]at hR wE;subst wE;have zQ:(R.length+1)*32<=150000000000000:=Nat.le_trans (aW0 32 (by omega)) qI;have vT:R.length<=9223372036854775806:=by omega
   (repeat (first | refine AC fun K hK=> ?_ | (refine BA Gc mxd (by kernel_rfl) ?_;simp[Gc,qX,AN,zQ,vT];try simp (disch:=omega) only[Ag]) | refine Ao ?_ | (refine AX ?_ ?_ ?_;(· (simp[qX,AN,zQ,vT];done));(try (rotate_left;(· (intro hc;(try simp[qX,AN,zQ,vT]at hc);done))))) | (refine AE ?_;simp[results96,qX,AN,zQ,vT]) | ((first | refine Aw ?_ | refine Av ?_);simp[qX,AN,zQ,vT]) | (intro hc;(try simp[qX,AN,zQ,vT]at hc);(try (exfalso;omega))) | ((first | refine Ak (e1) ?_ | (refine Aj (e1) ?_ ?_;(· (simp;done))));try simp[qX,AN,zQ,vT]) | (refine⟨?_,?_⟩; · omega) | omega | apply_assumption -exfalso -symm | (exfalso;omega)))
  ·simp only[if_true,bR0]at hR wE;subst wE
   (repeat (first | refine AC fun K hK=> ?_ | (refine BA Gc mxd (by kernel_rfl) ?_;simp[Gc,qX,AN];try simp (disch:=omega) only[Ag]) | refine Ao ?_ | (refine AX ?_ ?_ ?_;(· (simp[qX,AN];done));(try (rotate_left;(· (intro hc;(try simp[qX,AN]at hc);done))))) | (refine AE ?_;simp[results96,qX,AN]) | ((first | refine Aw ?_ | refine Av ?_);simp[qX,AN]) | (intro hc;(try simp[qX,AN]at hc);(try (exfalso;omega))) | ((first | refine Ak (e1) ?_ | (refine Aj (e1) ?_ ?_;(· (simp;done))));try simp[qX,AN]) | (refine⟨?_,?_⟩; · omega) | omega | apply_assumption -exfalso -symm | (exfalso;omega)))
theorem Rv {α:Type} (c:α->α->Int):∀(l:List α) (p:α),(DM c l p).length<=l.length+1
 | [],p=>by simp[DM]
 | x::l,p=>by
  have:=Rv c l p;unfold DM
  split
  ·simp;omega
  ·split
   ·simp
   ·simp
def ET (Z E:List Arc):List Arc:=E.foldl (DM CW) Z
theorem Rw (Z:List Arc):ET Z []=Z:=rfl
theorem Il (Z E F:List Arc):ET Z (E++F)=ET (ET Z E) F:=by unfold ET;rw[dF0]
theorem MV (Z:List Arc):∀E:List Arc,(ET Z E).length<=Z.length+E.length:=by
 intro E
 induction E generalizing Z with
 | nil=>simp[ET]
 | cons x E ih =>
  have h1:=ih (DM CW Z x);have h2:=Rv CW Z x;have h3:ET Z (x::E)=ET (DM CW Z x) E:=rfl;rw[h3,List.length_cons];omega
def AJ_ (b:Bool) (x:Arc):List Arc:=if b=true then [x]else []
theorem XK (b:Bool) (x:Arc):(AJ_ b x).length<=1:=by unfold AJ_;split<;>simp
def Gu (sy:Nd->Sym) (ah:Nat) (t:RT) (q:Nat) (ps:List Nat):List Arc:=ps.flatMap fun p=>AJ_ (Qd t 0 p q) ⟨(Fi (Ad t) ah p:Int),sy (nd (Ad t) q),(Fi (Ad t) ah q:Int)⟩
theorem Au_ (sy:Nd->Sym) (ah:Nat) (t:RT) (q:Nat) (ps:List Nat) (p:Nat):Gu sy ah t q (ps++[p])=Gu sy ah t q ps++AJ_ (Qd t 0 p q) ⟨(Fi (Ad t) ah p:Int),sy (nd (Ad t) q),(Fi (Ad t) ah q:Int)⟩:=by simp[Gu]
theorem Xt (sy:Nd->Sym) (ah:Nat) (t:RT) (q:Nat):Gu sy ah t q []=[]:=rfl
theorem QE (sy:Nd->Sym) (ah:Nat) (t:RT) (q:Nat):∀ps:List Nat,(Gu sy ah t q ps).length<=ps.length
 | []=>by simp[Gu]
 | p::ps=>by
  have h1:Gu sy ah t q (p::ps)=AJ_ (Qd t 0 p q) ⟨(Fi (Ad t) ah p:Int),sy (nd (Ad t) q),(Fi (Ad t) ah q:Int)⟩++Gu sy ah t q ps:=rfl;have h2:=XK (Qd t 0 p q) ⟨(Fi (Ad t) ah p:Int),sy (nd (Ad t) q),(Fi (Ad t) ah q:Int)⟩;have h3:=QE sy ah t q ps;rw[h1,aD0,List.length_cons];omega
theorem Zo (sy:Nd->Sym) (ah:Nat) (t:RT) (q:Nat):LN sy ah t q=AJ_ (Sv t 0 q) ⟨0,sy (nd (Ad t) q),(Fi (Ad t) ah q:Int)⟩++Gu sy ah t q (Gi (Ad t) (Ad t).length):=rfl
def EZ (sy:Nd->Sym) (ah:Nat) (t:RT) (ps:List Nat):List Arc:=ps.flatMap (LN sy ah t)
theorem lZ (sy:Nd->Sym) (ah:Nat) (t:RT) (ps:List Nat) (q:Nat):EZ sy ah t (ps++[q])=EZ sy ah t ps++LN sy ah t q:=by simp[EZ]
theorem BE_ (sy:Nd->Sym) (ah:Nat) (t:RT):EZ sy ah t []=[]:=rfl
theorem OE (sy:Nd->Sym) (ah:Nat) (t:RT) (h:(Gi (Ad t) (Ad t).length).length<=64):∀ps:List Nat,(EZ sy ah t ps).length<=65*ps.length
 | []=>by simp[EZ]
 | q::ps=>by
  have h1:EZ sy ah t (q::ps)=LN sy ah t q++EZ sy ah t ps:=rfl;have h3:=OE sy ah t h ps;have h4:=XK (Sv t 0 q) ⟨0,sy (nd (Ad t) q),(Fi (Ad t) ah q:Int)⟩;have h5:=QE sy ah t q (Gi (Ad t) (Ad t).length);rw[h1,Zo,aD0,aD0,List.length_cons];omega
def HO (g:List Rul):Nd->Sym:=Ew (AD g) (AG g)
def uL : Ann:=⟨[],[⟨5,[11],[],[]⟩]⟩
theorem oM (g:List Rul) (t:RT) (ah:Nat) (Z:List Arc) (ht:ED t=true) (hs:(Ad t).length<=2048) (kA:ah+(Cq (Ad t)).length<=64) (hn:((AK 3 g).length+1)*16<=150000000000000) (hZ:(Z.length+5000)*32<=150000000000000) :
  Af prog 64 [Au g,AM (Ad t),.int .i64 ah,BR Z] (BR (ET Z (EZ (HO g) ah t (Gi (Ad t) (Ad t).length)))):=by
 obtain⟨l,hl⟩:∃l,l=Ad t:=⟨_,rfl⟩;have ep:=HA l
 have zA:(Gi l l.length).length<=64:=by
  rw[KO (Nat.le_refl _),Hi,hl];omega
 have gL:∀j p,(Gi l l.length)[j]? =some p->IR l p=j:=fun j p h=>QV (Nat.le_refl _) h
 have cD:∀p∈Gi l l.length,∃x,l[p]? =some x:=fun p h=>by
  obtain⟨x,hx,_⟩:=IX.1 h;exact⟨x,hx⟩
 have eS:=fun x=>MC g x hn
 have yI:At (Ad t) 0 t:=At.top ht;have eB:∀q:Nat,Af prog 95 [AM l,.int .i64 0,.int .i64 q] (.bool (Sv t 0 q)):=fun q=>by rw[hl];exact GR q _ t (Ad t) 0 rfl yI (by omega)
 have eF:∀p q:Nat,Af prog 97 [AM l,.int .i64 0,.int .i64 p,.int .i64 q] (.bool (Qd t 0 p q)):=fun p q=>by rw[hl];exact Pv p q _ t (Ad t) 0 rfl yI (by omega)
 have kP:=OE (HO g) ah t (by rw[<-hl];exact zA);have jS:=QE (HO g) ah t;have cE:=Au_ (HO g) ah t;have wI:=lZ (HO g) ah t;have hq:=Zo (HO g) ah t;rw[<-hl]at hq;simp only[<-hl]at cE;rw[<-hl];obtain⟨ps,bM⟩:∃ps,ps=Gi l l.length:=⟨_,rfl⟩;rw[<-bM]at ep zA gL cD hq |-;clear bM yI;obtain⟨R,hR⟩:∃R,R=ET Z (EZ (HO g) ah t ps):=⟨_,rfl⟩;rw[<-hR];refine Ae [] uL func64 call64 ntmps64 mxd (AB @uL.eq_1 results64) rfl (fun qJ B qX qQ=> ?_)
 clear qJ;simp only[Aq]
 (refine AL (AH ep) Ab Ab ?_;intros;refine Am ?_)
 refine Ai (X:={j:Nat//j<=ps.length}) (fun j=>⟨[(0,Au g),(1,AM l),(2,.int .i64 ah),(3,BR (ET Z (EZ (HO g) ah t (ps.take j.1)))),(9,CI ps),(10,.int .i64 j.1)],[]⟩) (fun j=>ps.length-j.1) ⟨0,by omega⟩ (Sub.lit (by simp[BE_,Rw])) ?_;rintro⟨j,hj⟩;simp only
 by_cases qV:j<ps.length
 ·obtain⟨q,pU,bG,mN⟩:=Ap qV;obtain⟨x,hx⟩:=cD q mN;have qB:=(aB0.1 hx).2;have hxl:=(aB0.1 hx).1;have hrk:=gL j q pU;have zR:(Fi l ah q:Int)=(ah:Int)+(j:Int)+1:=by unfold Fi;omega
  have hnd:=rV hx;have e1:=eS x;have e2:=eB q;have qC:=wI (ps.take j) q;rw[<-Bh pU,hq q]at qC;rw[hl]at hnd zR;have qU:=MV Z (EZ (HO g) ah t (ps.take j));have hbl1:=kP (ps.take j);rw[aY0]at hbl1;obtain⟨y,hy⟩:∃y,y=Ew (AD g) (AG g) x:=⟨_,rfl⟩;have cW:HO g x=y:=hy.symm;rw[<-hy]at e1;simp only[Bo,Ch]at e1;obtain⟨N,hN⟩:∃N:Int,N=(ah:Int)+(j:Int)+1:=⟨_,rfl⟩;have hwj1:IntKind.i64.wrap ((ah:Int)+(j:Int))=(ah:Int)+(j:Int):=wq
  have mK:IntKind.i64.wrap ((ah:Int)+(j:Int)+1)=N:=by rw[hN];exact wq
  rw[<-hl]at hnd zR;have kB:=Il Z (EZ (HO g) ah t (ps.take j));obtain⟨Z0,hZ0⟩:∃Z0,Z0=ET Z (EZ (HO g) ah t (ps.take j)):=⟨_,rfl⟩;rw[<-hZ0]at qU kB |-;have e3:=Jc Z0 ⟨0,y,(ah:Int)+(j:Int)+1⟩ (by omega);simp only[AN]at e3;rw[<-hN]at e3;rw[hnd,cW,zR,<-hN]at qC;cases kK:Sv t 0 q
  ·rw[kK]at e2 qC;obtain⟨Z1,hZc⟩:∃Z1,Z1=Z0:=⟨_,rfl⟩;have kX:Z1.length<=Z0.length+1:=by rw[hZc];omega
   have hZ1:ET Z1 (Gu (HO g) ah t q ps)=ET Z (EZ (HO g) ah t (ps.take (j+1))):=by rw[qC,kB,Il,hZc];rfl
   (refine AL (AB e1 e2) Ab (Ml @Bo.eq_1 qV pU bG hx qB hxl @Bd.eq_1 hwj1 mK) ?_;intros;refine Am ?_)
   refine Ai (X:={i:Nat//i<=ps.length}) (fun i=>⟨[(0,Au g),(1,AM l),(2,.int .i64 ah),(3,BR (ET Z1 (Gu (HO g) ah t q (ps.take i.1)))),(9,CI ps),(10,.int .i64 j),(11,.ref (Ch y)),(13,.int .i64 N),(14,.int .i64 i.1)],[]⟩) (fun i=>ps.length-i.1) ⟨0,by omega⟩ (Sub.lit (by simp[Xt,Rw,Ch,<-hZc])) ?_;rintro⟨i,hi⟩;simp only
   by_cases qL:i<ps.length
   ·obtain⟨p,wM,cF,jW⟩:=Ap qL;have hrk2:=gL i p wM;have dX:(Fi l ah p:Int)=(ah:Int)+(i:Int)+1:=by unfold Fi;omega
    have e4:=eF p q;have wX:=cE q (ps.take i) p;rw[<-Bh wM,hnd,cW,zR,dX]at wX;have vR:=MV Z1 (Gu (HO g) ah t q (ps.take i));have hrl1:=jS q (ps.take i);rw[aY0]at hrl1;have kH:=Il Z1 (Gu (HO g) ah t q (ps.take i));obtain⟨Z2,hZ2⟩:∃Z2,Z2=ET Z1 (Gu (HO g) ah t q (ps.take i)):=⟨_,rfl⟩;rw[<-hZ2]at vR kH |-;have e5:=Jc Z2 ⟨(ah:Int)+(i:Int)+1,y,(ah:Int)+(j:Int)+1⟩ (by omega);have fS:IntKind.i64.wrap ((ah:Int)+(i:Int))=(ah:Int)+(i:Int):=wq
    have hwi2:IntKind.i64.wrap ((ah:Int)+(i:Int)+1)=(ah:Int)+(i:Int)+1:=wq;simp only[AN]at e5;rw[<-hN]at e5 wX;cases hd:Qd t 0 p q
    ·rw[hd]at e4 wX;have h9:ET Z1 (Gu (HO g) ah t q (ps.take (i+1)))=Z2:=by rw[wX,kH];rfl
     (refine AL (AB e4 e5) Ab (IH qL wM cF pU bG qV @Bd.eq_1) ?_;intros;refine Am ?_)
     refine Al.mk ⟨i+1,by omega⟩ (Sub.lit (by simp[h9])) (by simp;omega)
     skip
    ·rw[hd]at e4 wX;have h9:ET Z1 (Gu (HO g) ah t q (ps.take (i+1)))=DM CW Z2 ⟨(ah:Int)+(i:Int)+1,y,N⟩:=by rw[wX,kH];rfl
     (refine AL (AB e4 e5) Ab (Ml qL wM cF pU bG qV @Bd.eq_1 fS hwi2 @Ch.eq_1) ?_;intros;refine Am ?_)
     refine Al.mk ⟨i+1,by omega⟩ (Sub.lit (by simp[h9])) (by simp;omega)
     skip
   ·have qZ:i=ps.length:=by omega
    subst qZ;rw[aU0,hZ1]
    (refine AL Ab Ab Ab ?_;intros;refine Am ?_)
    refine Al.mk ⟨j+1,by omega⟩ (Sub.lit (by simp)) (by simp;omega)
    skip
  ·rw[kK]at e2 qC;obtain⟨Z1,hZc⟩:∃Z1,Z1=DM CW Z0 ⟨0,y,N⟩:=⟨_,rfl⟩;have kX:Z1.length<=Z0.length+1:=by rw[hZc];exact Rv _ _ _
   have hZ1:ET Z1 (Gu (HO g) ah t q ps)=ET Z (EZ (HO g) ah t (ps.take (j+1))):=by rw[qC,kB,Il,hZc];rfl
   (refine AL (CL e1 e2 e3) Ab (JE @Bo.eq_1 @Ch.eq_1 qV pU bG hx qB hxl @Bd.eq_1 hwj1 mK) ?_;intros;refine Am ?_)
   refine Ai (X:={i:Nat//i<=ps.length}) (fun i=>⟨[(0,Au g),(1,AM l),(2,.int .i64 ah),(3,BR (ET Z1 (Gu (HO g) ah t q (ps.take i.1)))),(9,CI ps),(10,.int .i64 j),(11,.ref (Ch y)),(13,.int .i64 N),(14,.int .i64 i.1)],[]⟩) (fun i=>ps.length-i.1) ⟨0,by omega⟩ (Sub.lit (by simp[Xt,Rw,Ch,<-hZc])) ?_;rintro⟨i,hi⟩;simp only
   by_cases qL:i<ps.length
   ·obtain⟨p,wM,cF,jW⟩:=Ap qL;have hrk2:=gL i p wM;have dX:(Fi l ah p:Int)=(ah:Int)+(i:Int)+1:=by unfold Fi;omega
    have e4:=eF p q;have wX:=cE q (ps.take i) p;rw[<-Bh wM,hnd,cW,zR,dX]at wX;have vR:=MV Z1 (Gu (HO g) ah t q (ps.take i));have hrl1:=jS q (ps.take i);rw[aY0]at hrl1;have kH:=Il Z1 (Gu (HO g) ah t q (ps.take i));obtain⟨Z2,hZ2⟩:∃Z2,Z2=ET Z1 (Gu (HO g) ah t q (ps.take i)):=⟨_,rfl⟩;rw[<-hZ2]at vR kH |-;have e5:=Jc Z2 ⟨(ah:Int)+(i:Int)+1,y,(ah:Int)+(j:Int)+1⟩ (by omega);have fS:IntKind.i64.wrap ((ah:Int)+(i:Int))=(ah:Int)+(i:Int):=wq
    have hwi2:IntKind.i64.wrap ((ah:Int)+(i:Int)+1)=(ah:Int)+(i:Int)+1:=wq;simp only[AN]at e5;rw[<-hN]at e5 wX;cases hd:Qd t 0 p q
    ·rw[hd]at e4 wX;have h9:ET Z1 (Gu (HO g) ah t q (ps.take (i+1)))=Z2:=by rw[wX,kH];rfl
     (refine AL (AB e4 e5) Ab (IH qL wM cF pU bG qV @Bd.eq_1) ?_;intros;refine Am ?_)
     refine Al.mk ⟨i+1,by omega⟩ (Sub.lit (by simp[h9])) (by simp;omega)
     skip
    ·rw[hd]at e4 wX;have h9:ET Z1 (Gu (HO g) ah t q (ps.take (i+1)))=DM CW Z2 ⟨(ah:Int)+(i:Int)+1,y,N⟩:=by rw[wX,kH];rfl
     (refine AL (AB e4 e5) Ab (Ml qL wM cF pU bG qV @Bd.eq_1 fS hwi2 @Ch.eq_1) ?_;intros;refine Am ?_)
     refine Al.mk ⟨i+1,by omega⟩ (Sub.lit (by simp[h9])) (by simp;omega)
     skip
   ·have qZ:i=ps.length:=by omega
    subst qZ;rw[aU0,hZ1]
    (refine AL Ab Ab Ab ?_;intros;refine Am ?_)
    refine Al.mk ⟨j+1,by omega⟩ (Sub.lit (by simp)) (by simp;omega)
    skip
 ·have qZ:j=ps.length:=by omega
  subst qZ;rw[aU0,<-hR];exact Az Ab Ab Ab
end Go.Proofs.Wy
end
