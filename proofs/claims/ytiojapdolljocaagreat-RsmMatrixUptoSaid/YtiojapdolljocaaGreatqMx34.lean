/- Parts of a proof, laid together: RB4, RB5, RB6. -/
import Derived.Test.YtiojapdolljocaaGreatqMx15
import Derived.Test.YtiojapdolljocaaGreatqMx27
import Derived.Test.YtiojapdolljocaaGreatqMx28
import Derived.Test.YtiojapdolljocaaGreatqMx32
import Derived.Test.YtiojapdolljocaaGreatqMx33
set_option linter.unusedSimpArgs false
set_option maxHeartbeats 8000000
set_option linter.unusedVariables false
set_option linter.unusedSectionVars false
section
namespace Go.Proofs.Wy
open Go Go.Dm Tryz
variable [DMode]
attribute [local irreducible] DW Bs Bt
set_option maxRecDepth 100000
def foG (x:Nd) (ks:List RT) (P p q:Nat) (G:Option Bool):Bool:=match G with
 | some b=>b
 | none=>decide (x.k=4)&&Wt ks (P+1) p q
theorem GP_ (x:Nd) (ks:List RT) (P p q:Nat) (h:((decide (x.k=6)||decide (x.k=7))&&hdL ks (P+1) p q)=false):PG (.mk x ks) P p q=foG x ks P p q (VC ks (P+1) p q):=by
 rw[iZ,h];rfl
def Zx : Ann:=⟨[],[]⟩
theorem Pb (p q:Nat):∀(n:Nat) (t:RT) (l:List Nd) (P:Nat),(flat t).length=n->At l P t->l.length<=1572864->Ae prog 129 [AU l,.int .i64 P,.int .i64 p,.int .i64 q] (.bool (PG t P p q)):=by
 intro n
 induction n using Nat.strongRecOn with
 | ind n ih =>
 intro t l P hn ht hs;obtain⟨x,ks⟩:=t;have kk:=El l P x ks ht hs;have cD:=SQ l P p q x ks ht hs;obtain⟨g0,gl,ge⟩:=ht.head;simp only[RT.x]at g0;have g0':l[P]'gl=x:=(aB0.1 g0).2;have qW:=ht.ok;have vP:(flat (.mk x ks)).length=(Ak ks).length+1:=by rw[AO,List.length_cons]
 have wR:=Ct ks;have hk9:ks.length<=1572864:=by omega
 have kY:∀i u,ks[i]? =some u->Ae prog 129 [AU l,.int .i64 (AP P ks i),.int .i64 p,.int .i64 q] (.bool (PG u (AP P ks i) p q)):=fun i u hu=>by
  have hm:=Em (bP0 hu);exact ih (flat u).length (by omega) u l _ rfl (ht.kid hu).1 hs
 have zN:∀i u,ks[i]? =some u->_:=fun i u hu=>CF l (AP P ks i) p u (ht.kid hu).1 hs
 have jV:∀i u,ks[i]? =some u->_:=fun i u hu=>CF l (AP P ks i) q u (ht.kid hu).1 hs
 have vG:∀i u,ks[i]? =some u->_:=fun i u hu=>JY p _ u l (AP P ks i) rfl (ht.kid hu).1 hs
 have mN:∀i u,ks[i]? =some u->_:=fun i u hu=>GH q _ u l (AP P ks i) rfl (ht.kid hu).1 hs
 have qK:∀i,i<ks.length->_:=fun i h=>Gv (p:=P) (ks:=ks) (i:=i) h
 unfold JM at kk cD;obtain⟨D,hD⟩:∃D,D=(List.range ks.length).map fun i=>HX (AP P ks i):=⟨_,rfl⟩
 have wQ:D.length=ks.length:=by rw[hD];simp
 have wI:Bp D=0:=by rw[hD];exact Ha P ks _
 rw[<-hD]at kk qK cD;clear hD ih ht ge hn;have vF:=GP_ x ks P p q;have kM:=iZ x ks P p q;obtain⟨R,hR⟩:∃R,R=PG (.mk x ks) P p q:=⟨_,rfl⟩;rw[<-hR]at vF kM |-;clear hR;refine Ac [] Zx func129 call129 ntmps129 mxd (Au @Zx.eq_1 results129) rfl (fun qJ B qX qQ=> ?_);clear qJ;simp only[Am]
 by_cases k67:x.k=6\/x.k=7
 ·obtain⟨u0,pL⟩:=Pt qW (by omega);have hu1:ks[0]? =some u0:=by rw[pL];rfl
  have wO:0<ks.length:=by rw[pL];simp
  have yI:0<D.length:=by omega
  have kH:=qK 0 wO;have gY:D[0]'yI=[.int .i64 (AP P ks 0:Int)]:=(aB0.1 kH).2;have e4:=vG 0 u0 hu1;have e5:=mN 0 u0 hu1;have hhd:hdL ks (P+1) p q=(MH u0 (AP P ks 0) p&&Sf u0 (AP P ks 0) q):=by rw[Fq,pL];rfl
  rw[hhd]at vF kM;clear pL hhd;obtain⟨a0,ha0⟩:∃a0,a0=AP P ks 0:=⟨_,rfl⟩;rw[<-ha0]at kH gY e4 e5 vF kM;obtain⟨c1,hc1⟩:∃c1,c1=MH u0 a0 p:=⟨_,rfl⟩;obtain⟨c2,jK⟩:∃c2,c2=Sf u0 a0 q:=⟨_,rfl⟩;rw[<-hc1]at e4 vF kM;rw[<-jK]at e5 vF kM;have hkb:(decide (x.k=6)||decide (x.k=7))=true:=by simpa using k67
  have hkb2:(x.k==6||x.k==7)=true:=by simpa using k67
  have yX:(x.k==7)=(decide (x.k=7)):=rfl;have hk3:(x.k==6)=(decide (x.k=6)):=rfl;rw[hkb]at vF kM;simp only[cC0]at vF kM
  by_cases wU:(c1&&c2)=true
  ·rw[wU]at kM;simp only[if_true]at kM;simp only[aJ0]at wU;rw[wU.1]at e4;rw[wU.2]at e5
   rcases k67 with k6 | k7
   ·exact Av (CD kk e4 e5) Ab (LL @Bq.eq_1 g0 g0' gl wQ yI kH gY k6 kM)
   ·exact Av (CD kk e4 e5) Ab (LL @Bq.eq_1 g0 g0' gl wQ yI kH gY k7 kM)
  ·rw[dU0]at wU
   replace vF:=vF wU
   cases c1
   ·rcases k67 with k6 | k7
    ·(refine AG (CD kk e4 e5) Ab (Ut @Bq.eq_1 g0 g0' gl wQ yI kH gY k6) ?_;intros;refine Ah ?_)
     refine Ai (X:={i:Nat//i<=ks.length/\R=foG x ks P p q (VC (ks.drop i) (AP P ks i) p q)}) (fun i=>⟨[(0,AU l),(2,.int .i64 p),(3,.int .i64 q),(9,.sl 1 8 D),(10,.int .i64 x.k),(11,.int .i64 i.1)],[]⟩) (fun i=>ks.length-i.1) ⟨0,by omega,by rw[dW0,Fq];exact vF⟩ (Sub.lit (by simp[wI,k6])) ?_;clear vF kM;rintro⟨i,hi,hR⟩;simp only
     by_cases qV:i<ks.length
     ·obtain⟨u,hu,vZ,_⟩:=Ao qV;have e1:=zN i u hu;have e2:=jV i u hu;have e3:=kY i u hu;have hr:=qK i qV;have qO:i<D.length:=by omega
      have wC:IntKind.i64.wrap ((i:Int)+1)=(i:Int)+1:=wq;have qG:D[i]'qO=[.int .i64 (AP P ks i:Int)]:=(aB0.1 hr).2;rw[Ft hu,GA,<-Fs hu]at hR;obtain⟨a,ha⟩:∃a,a=AP P ks i:=⟨_,rfl⟩;rw[<-ha]at e1 e2 e3 hr qG hR;obtain⟨b1,qI⟩:∃b1,b1=IK u a p:=⟨_,rfl⟩;obtain⟨b2,qT⟩:∃b2,b2=IK u a q:=⟨_,rfl⟩;rw[<-qI]at e1 hR;rw[<-qT]at e2 hR;clear qI qT;cases b1
      ·simp only[cM0,aR0,if_false]at hR
       (refine AG (CD e1 e2 e3) Ab (GN wQ qO wC hr qG qV) ?_;intros;refine Ah ?_)
       refine Aj.mk ⟨i+1,by omega,hR⟩ (Sub.lit (by simp[wI])) (by simp;omega)
       skip
      ·cases b2
       ·simp only[dX0,aR0,if_false]at hR
        (refine AG (CD e1 e2 e3) Ab (GN wQ qO wC hr qG qV) ?_;intros;refine Ah ?_)
        refine Aj.mk ⟨i+1,by omega,hR⟩ (Sub.lit (by simp[wI])) (by simp;omega)
        skip
       ·simp only[Bool.and_self,if_true]at hR;have wX:R=PG u a p q:=hR;exact Av (CD e1 e2 e3) Ab (Iw wQ qO wC hr qG qV wX)
     ·have qZ:i=ks.length:=by omega
      subst qZ;rw[bT0,Hf]at hR;have wX:R=(decide (x.k=4)&&Wt ks (P+1) p q):=hR
      by_cases k4:x.k=4
      ·rw[decide_eq_true k4,cC0]at wX;rw[<-wX]at cD;exact Av (AD cD) Ab (Au wQ k4)
      ·rw[decide_eq_false k4,cM0]at wX;have b4:(x.k==4)=false:=by simpa using k4
       exact Av Ab Ab (GV wQ k4 b4 wX)
    ·skip
     (refine AG (CD kk e4 e5) Ab (Ut @Bq.eq_1 g0 g0' gl wQ yI kH gY k7) ?_;intros;refine Ah ?_)
     refine Ai (X:={i:Nat//i<=ks.length/\R=foG x ks P p q (VC (ks.drop i) (AP P ks i) p q)}) (fun i=>⟨[(0,AU l),(2,.int .i64 p),(3,.int .i64 q),(9,.sl 1 8 D),(10,.int .i64 x.k),(11,.int .i64 i.1)],[]⟩) (fun i=>ks.length-i.1) ⟨0,by omega,by rw[dW0,Fq];exact vF⟩ (Sub.lit (by simp[wI,k7])) ?_;clear vF kM;rintro⟨i,hi,hR⟩;simp only
     by_cases qV:i<ks.length
     ·obtain⟨u,hu,vZ,_⟩:=Ao qV;have e1:=zN i u hu;have e2:=jV i u hu;have e3:=kY i u hu;have hr:=qK i qV;have qO:i<D.length:=by omega
      have wC:IntKind.i64.wrap ((i:Int)+1)=(i:Int)+1:=wq;have qG:D[i]'qO=[.int .i64 (AP P ks i:Int)]:=(aB0.1 hr).2;rw[Ft hu,GA,<-Fs hu]at hR;obtain⟨a,ha⟩:∃a,a=AP P ks i:=⟨_,rfl⟩;rw[<-ha]at e1 e2 e3 hr qG hR;obtain⟨b1,qI⟩:∃b1,b1=IK u a p:=⟨_,rfl⟩;obtain⟨b2,qT⟩:∃b2,b2=IK u a q:=⟨_,rfl⟩;rw[<-qI]at e1 hR;rw[<-qT]at e2 hR;clear qI qT;cases b1
      ·simp only[cM0,aR0,if_false]at hR
       (refine AG (CD e1 e2 e3) Ab (GN wQ qO wC hr qG qV) ?_;intros;refine Ah ?_)
       refine Aj.mk ⟨i+1,by omega,hR⟩ (Sub.lit (by simp[wI])) (by simp;omega)
       skip
      ·cases b2
       ·simp only[dX0,aR0,if_false]at hR
        (refine AG (CD e1 e2 e3) Ab (GN wQ qO wC hr qG qV) ?_;intros;refine Ah ?_)
        refine Aj.mk ⟨i+1,by omega,hR⟩ (Sub.lit (by simp[wI])) (by simp;omega)
        skip
       ·simp only[Bool.and_self,if_true]at hR;have wX:R=PG u a p q:=hR;exact Av (CD e1 e2 e3) Ab (Iw wQ qO wC hr qG qV wX)
     ·have qZ:i=ks.length:=by omega
      subst qZ;rw[bT0,Hf]at hR;have wX:R=(decide (x.k=4)&&Wt ks (P+1) p q):=hR
      by_cases k4:x.k=4
      ·rw[decide_eq_true k4,cC0]at wX;rw[<-wX]at cD;exact Av (AD cD) Ab (Au wQ k4)
      ·rw[decide_eq_false k4,cM0]at wX;have b4:(x.k==4)=false:=by simpa using k4
       exact Av Ab Ab (GV wQ k4 b4 wX)
   ·simp only[cC0]at wU;rw[wU]at e5
    rcases k67 with k6 | k7
    ·skip
     (refine AG (CD kk e4 e5) Ab (Ut @Bq.eq_1 g0 g0' gl wQ yI kH gY k6) ?_;intros;refine Ah ?_)
     refine Ai (X:={i:Nat//i<=ks.length/\R=foG x ks P p q (VC (ks.drop i) (AP P ks i) p q)}) (fun i=>⟨[(0,AU l),(2,.int .i64 p),(3,.int .i64 q),(9,.sl 1 8 D),(10,.int .i64 x.k),(11,.int .i64 i.1)],[]⟩) (fun i=>ks.length-i.1) ⟨0,by omega,by rw[dW0,Fq];exact vF⟩ (Sub.lit (by simp[wI,k6])) ?_;clear vF kM;rintro⟨i,hi,hR⟩;simp only
     by_cases qV:i<ks.length
     ·obtain⟨u,hu,vZ,_⟩:=Ao qV;have e1:=zN i u hu;have e2:=jV i u hu;have e3:=kY i u hu;have hr:=qK i qV;have qO:i<D.length:=by omega
      have wC:IntKind.i64.wrap ((i:Int)+1)=(i:Int)+1:=wq;have qG:D[i]'qO=[.int .i64 (AP P ks i:Int)]:=(aB0.1 hr).2;rw[Ft hu,GA,<-Fs hu]at hR;obtain⟨a,ha⟩:∃a,a=AP P ks i:=⟨_,rfl⟩;rw[<-ha]at e1 e2 e3 hr qG hR;obtain⟨b1,qI⟩:∃b1,b1=IK u a p:=⟨_,rfl⟩;obtain⟨b2,qT⟩:∃b2,b2=IK u a q:=⟨_,rfl⟩;rw[<-qI]at e1 hR;rw[<-qT]at e2 hR;clear qI qT;cases b1
      ·simp only[cM0,aR0,if_false]at hR
       (refine AG (CD e1 e2 e3) Ab (GN wQ qO wC hr qG qV) ?_;intros;refine Ah ?_)
       refine Aj.mk ⟨i+1,by omega,hR⟩ (Sub.lit (by simp[wI])) (by simp;omega)
       skip
      ·cases b2
       ·simp only[dX0,aR0,if_false]at hR
        (refine AG (CD e1 e2 e3) Ab (GN wQ qO wC hr qG qV) ?_;intros;refine Ah ?_)
        refine Aj.mk ⟨i+1,by omega,hR⟩ (Sub.lit (by simp[wI])) (by simp;omega)
        skip
       ·simp only[Bool.and_self,if_true]at hR;have wX:R=PG u a p q:=hR;exact Av (CD e1 e2 e3) Ab (Iw wQ qO wC hr qG qV wX)
     ·have qZ:i=ks.length:=by omega
      subst qZ;rw[bT0,Hf]at hR;have wX:R=(decide (x.k=4)&&Wt ks (P+1) p q):=hR
      by_cases k4:x.k=4
      ·rw[decide_eq_true k4,cC0]at wX;rw[<-wX]at cD;exact Av (AD cD) Ab (Au wQ k4)
      ·rw[decide_eq_false k4,cM0]at wX;have b4:(x.k==4)=false:=by simpa using k4
       exact Av Ab Ab (GV wQ k4 b4 wX)
    ·skip
     (refine AG (CD kk e4 e5) Ab (Ut @Bq.eq_1 g0 g0' gl wQ yI kH gY k7) ?_;intros;refine Ah ?_)
     refine Ai (X:={i:Nat//i<=ks.length/\R=foG x ks P p q (VC (ks.drop i) (AP P ks i) p q)}) (fun i=>⟨[(0,AU l),(2,.int .i64 p),(3,.int .i64 q),(9,.sl 1 8 D),(10,.int .i64 x.k),(11,.int .i64 i.1)],[]⟩) (fun i=>ks.length-i.1) ⟨0,by omega,by rw[dW0,Fq];exact vF⟩ (Sub.lit (by simp[wI,k7])) ?_;clear vF kM;rintro⟨i,hi,hR⟩;simp only
     by_cases qV:i<ks.length
     ·obtain⟨u,hu,vZ,_⟩:=Ao qV;have e1:=zN i u hu;have e2:=jV i u hu;have e3:=kY i u hu;have hr:=qK i qV;have qO:i<D.length:=by omega
      have wC:IntKind.i64.wrap ((i:Int)+1)=(i:Int)+1:=wq;have qG:D[i]'qO=[.int .i64 (AP P ks i:Int)]:=(aB0.1 hr).2;rw[Ft hu,GA,<-Fs hu]at hR;obtain⟨a,ha⟩:∃a,a=AP P ks i:=⟨_,rfl⟩;rw[<-ha]at e1 e2 e3 hr qG hR;obtain⟨b1,qI⟩:∃b1,b1=IK u a p:=⟨_,rfl⟩;obtain⟨b2,qT⟩:∃b2,b2=IK u a q:=⟨_,rfl⟩;rw[<-qI]at e1 hR;rw[<-qT]at e2 hR;clear qI qT;cases b1
      ·simp only[cM0,aR0,if_false]at hR
       (refine AG (CD e1 e2 e3) Ab (GN wQ qO wC hr qG qV) ?_;intros;refine Ah ?_)
       refine Aj.mk ⟨i+1,by omega,hR⟩ (Sub.lit (by simp[wI])) (by simp;omega)
       skip
      ·cases b2
       ·simp only[dX0,aR0,if_false]at hR
        (refine AG (CD e1 e2 e3) Ab (GN wQ qO wC hr qG qV) ?_;intros;refine Ah ?_)
        refine Aj.mk ⟨i+1,by omega,hR⟩ (Sub.lit (by simp[wI])) (by simp;omega)
        skip
       ·simp only[Bool.and_self,if_true]at hR;have wX:R=PG u a p q:=hR;exact Av (CD e1 e2 e3) Ab (Iw wQ qO wC hr qG qV wX)
     ·have qZ:i=ks.length:=by omega
      subst qZ;rw[bT0,Hf]at hR;have wX:R=(decide (x.k=4)&&Wt ks (P+1) p q):=hR
      by_cases k4:x.k=4
      ·rw[decide_eq_true k4,cC0]at wX;rw[<-wX]at cD;exact Av (AD cD) Ab (Au wQ k4)
      ·rw[decide_eq_false k4,cM0]at wX;have b4:(x.k==4)=false:=by simpa using k4
       exact Av Ab Ab (GV wQ k4 b4 wX)
 ·have b6:(x.k==6)=false:=by simpa using fun h=>k67 (.inl h)
  have b7:(x.k==7)=false:=by simpa using fun h=>k67 (.inr h)
  have n6:¬x.k=6:=fun h=>k67 (.inl h)
  have n7:¬x.k=7:=fun h=>k67 (.inr h)
  replace vF:=vF (by simp[n6,n7])
  (refine AG (AD kk) Ab (KQ @Bq.eq_1 g0 g0' gl n6 n7 b6 b7) ?_;intros;refine Ah ?_)
  refine Ai (X:={i:Nat//i<=ks.length/\R=foG x ks P p q (VC (ks.drop i) (AP P ks i) p q)}) (fun i=>⟨[(0,AU l),(2,.int .i64 p),(3,.int .i64 q),(9,.sl 1 8 D),(10,.int .i64 x.k),(11,.int .i64 i.1)],[]⟩) (fun i=>ks.length-i.1) ⟨0,by omega,by rw[dW0,Fq];exact vF⟩ (Sub.lit (by simp[wI])) ?_;clear vF kM;rintro⟨i,hi,hR⟩;simp only
  by_cases qV:i<ks.length
  ·obtain⟨u,hu,vZ,_⟩:=Ao qV;have e1:=zN i u hu;have e2:=jV i u hu;have e3:=kY i u hu;have hr:=qK i qV;have qO:i<D.length:=by omega
   have wC:IntKind.i64.wrap ((i:Int)+1)=(i:Int)+1:=wq;have qG:D[i]'qO=[.int .i64 (AP P ks i:Int)]:=(aB0.1 hr).2;rw[Ft hu,GA,<-Fs hu]at hR;obtain⟨a,ha⟩:∃a,a=AP P ks i:=⟨_,rfl⟩;rw[<-ha]at e1 e2 e3 hr qG hR;obtain⟨b1,qI⟩:∃b1,b1=IK u a p:=⟨_,rfl⟩;obtain⟨b2,qT⟩:∃b2,b2=IK u a q:=⟨_,rfl⟩;rw[<-qI]at e1 hR;rw[<-qT]at e2 hR;clear qI qT;cases b1
   ·simp only[cM0,aR0,if_false]at hR
    (refine AG (CD e1 e2 e3) Ab (GN wQ qO wC hr qG qV) ?_;intros;refine Ah ?_)
    refine Aj.mk ⟨i+1,by omega,hR⟩ (Sub.lit (by simp[wI])) (by simp;omega)
    skip
   ·cases b2
    ·simp only[dX0,aR0,if_false]at hR
     (refine AG (CD e1 e2 e3) Ab (GN wQ qO wC hr qG qV) ?_;intros;refine Ah ?_)
     refine Aj.mk ⟨i+1,by omega,hR⟩ (Sub.lit (by simp[wI])) (by simp;omega)
     skip
    ·simp only[Bool.and_self,if_true]at hR;have wX:R=PG u a p q:=hR;exact Av (CD e1 e2 e3) Ab (Iw wQ qO wC hr qG qV wX)
  ·have qZ:i=ks.length:=by omega
   subst qZ;rw[bT0,Hf]at hR;have wX:R=(decide (x.k=4)&&Wt ks (P+1) p q):=hR
   by_cases k4:x.k=4
   ·rw[decide_eq_true k4,cC0]at wX;rw[<-wX]at cD;exact Av (AD cD) Ab (Au wQ k4)
   ·rw[decide_eq_false k4,cM0]at wX;have b4:(x.k==4)=false:=by simpa using k4
    exact Av Ab Ab (GV wQ k4 b4 wX)
def EI : Ann:=⟨[],[]⟩
theorem IJ (l:List Arc) (p:Arc) (qP:(l.length+1)*32<=150000000000000):Ae prog 128 [Cg l,.agg (AW p)] (Cg (DG CT l p)):=by
 refine Ac [50] EI func128 call128 ntmps128 mxd (Au @EI.eq_1 results128) rfl (fun qJ B qX qQ=> ?_);clear qJ;simp only[Am];obtain⟨r,hr⟩:∃r,r=DG CT l p:=⟨_,rfl⟩;rw[<-hr]
 (refine AG Ab Ab (AD @AW.eq_1) ?_;intros;refine Ah ?_)
 refine BO 5 50 39 4 32 (by simp[qX,results128,EI]) (fun n=> ?_);refine Ai (X:={x:Nat×Bool×List Arc//x.1<=l.length/\x.2.2.length<=x.1+(if x.2.1 then 1 else 0)/\x.2.2++(if x.2.1 then l.drop x.1 else DG CT (l.drop x.1) p)=r}) (fun x=>⟨[(0,Cg l),(1,.agg (AW p)),(3,.ref (AW p)),(5,.osl 50 1),(6,.bool x.1.2.1),(7,.int .i64 x.1.1)],[⟨50,1,.row 39 4 32 (x.1.2.2.map AW)⟩]⟩) (fun x=>l.length-x.1.1) ⟨(0,false,[]),by simp[hr]⟩ (Sub.lit (by simp[AW])) ?_
 rintro⟨⟨k,b,R⟩,hk,hR,wU⟩;simp only at hk hR wU |-;clear hr
 by_cases qV:k<l.length
 ·obtain⟨q,hq,vY,pD⟩:=Ao qV;rw[aS0 qV,vY]at wU;cases b
  ·simp only[aR0,if_false,DG,dI0]at hR wU;have zD:(R.length+1)*32<=150000000000000:=Nat.le_trans (aX0 32 (by omega)) qP;have zE:R.length<=9223372036854775806:=by omega
   have mB:(R.length+1+1)*32<=150000000000000:=Nat.le_trans (aX0 32 (by omega)) qP;have mD:R.length+1<=9223372036854775806:=by omega
   have e1:=XJ q p;rw[LJ]at e1;simp only[AW]at e1
   by_cases jK:¬CT q p<0
   ·rw[decide_eq_false jK]at e1;rw[if_neg jK]at wU
    by_cases he:q=p
    ·subst he;rw[if_neg jK]at wU
     (refine AG (AD e1) Ab (KQ @AW.eq_1 qV vY jK zD zE mB mD) ?_;intros;refine Ah ?_)
     refine Aj.mk ⟨(k+1,true,R++[q]),show k+1<=l.length/\(R++[q]).length<=k+1+_/\_ from ⟨by omega,by simp;omega,by simpa using wU⟩⟩ (Sub.lit (by simp[AW])) (by simp;omega)
     skip
    ·have vM:(q.fr==p.fr&&(q.sy.label==p.sy.label&&(q.sy.n==p.sy.n&&q.to==p.to)))=false:=lY he
     have hlp:CT p q<0:=by
      have h0:CT q p≠0:=fun h=>he ((De.eq0 q p).1 h)
      exact(De.anti p q).2 (by omega)
     rw[if_pos hlp]at wU
     (refine AG (AD e1) Ab (Ut @AW.eq_1 qV vY jK vM zD zE mB mD) ?_;intros;refine Ah ?_)
     refine Aj.mk ⟨(k+1,true,R++[p,q]),show k+1<=l.length/\(R++[p,q]).length<=k+1+_/\_ from ⟨by omega,by simp;omega,by simpa using wU⟩⟩ (Sub.lit (by simp[AW])) (by simp;omega)
     skip
   ·have hc3:CT q p<0:=by omega
    rw[decide_eq_true hc3]at e1;rw[if_pos hc3]at wU
    (refine AG (AD e1) Ab (KQ @AW.eq_1 qV vY jK zD zE mB mD) ?_;intros;refine Ah ?_)
    refine Aj.mk ⟨(k+1,false,R++[q]),show k+1<=l.length/\(R++[q]).length<=k+1+_/\_ from ⟨by omega,by simp;omega,by simpa using wU⟩⟩ (Sub.lit (by simp[AW])) (by simp;omega)
    skip
  ·simp only[if_true]at hR wU;have zD:(R.length+1)*32<=150000000000000:=Nat.le_trans (aX0 32 (by omega)) qP;have zE:R.length<=9223372036854775806:=by omega
   (repeat (first | refine AJ fun K hK=> ?_ | (refine BV EI mxd (by kernel_rfl) ?_;simp[EI,qX,AW,qV,vY,zD,zE];try simp (disch:=omega) only[Al]) | refine Aq ?_ | (refine Bi ?_ ?_ ?_;(· (simp[qX,AW,qV,vY,zD,zE];done));(try (rotate_left;(· (intro hc;(try simp[qX,AW,qV,vY,zD,zE]at hc);done))))) | (refine AN ?_;simp[results128,qX,AW,qV,vY,zD,zE]) | ((first | refine AB ?_ | refine AA ?_);simp[qX,AW,qV,vY,zD,zE]) | (intro hc;(try simp[qX,AW,qV,vY,zD,zE]at hc);(try (exfalso;omega))) | ((first | refine Ag (e1) ?_ | (refine Af (e1) ?_ ?_;(· (simp;done))));try simp[qX,AW,qV,vY,zD,zE]) | (refine⟨?_,?_⟩; · omega) | omega | apply_assumption -exfalso -symm | (exfalso;omega)))
   refine Aj.mk ⟨(k+1,true,R++[q]),show k+1<=l.length/\(R++[q]).length<=k+1+_/\_ from ⟨by omega,by simp;omega,by simpa using wU⟩⟩ (Sub.lit (by simp[AW])) (by simp;omega)
   skip
 ·have vK:k=l.length:=by omega
  subst vK;rw[bT0]at wU;cases b
  ·simp only[aR0,if_false,DG,dI0]at hR wU;subst wU;have zD:(R.length+1)*32<=150000000000000:=Nat.le_trans (aX0 32 (by omega)) qP;have zE:R.length<=9223372036854775806:=by omega
   (repeat (first | refine AJ fun K hK=> ?_ | (refine BV EI mxd (by kernel_rfl) ?_;simp[EI,qX,AW,zD,zE];try simp (disch:=omega) only[Al]) | refine Aq ?_ | (refine Bi ?_ ?_ ?_;(· (simp[qX,AW,zD,zE];done));(try (rotate_left;(· (intro hc;(try simp[qX,AW,zD,zE]at hc);done))))) | (refine AN ?_;simp[results128,qX,AW,zD,zE]) | ((first | refine AB ?_ | refine AA ?_);simp[qX,AW,zD,zE]) | (intro hc;(try simp[qX,AW,zD,zE]at hc);(try (exfalso;omega))) | ((first | refine Ag (e1) ?_ | (refine Af (e1) ?_ ?_;(· (simp;done))));try simp[qX,AW,zD,zE]) | (refine⟨?_,?_⟩; · omega) | omega | apply_assumption -exfalso -symm | (exfalso;omega)))
  ·simp only[if_true,bO0]at hR wU;subst wU
   (repeat (first | refine AJ fun K hK=> ?_ | (refine BV EI mxd (by kernel_rfl) ?_;simp[EI,qX,AW];try simp (disch:=omega) only[Al]) | refine Aq ?_ | (refine Bi ?_ ?_ ?_;(· (simp[qX,AW];done));(try (rotate_left;(· (intro hc;(try simp[qX,AW]at hc);done))))) | (refine AN ?_;simp[results128,qX,AW]) | ((first | refine AB ?_ | refine AA ?_);simp[qX,AW]) | (intro hc;(try simp[qX,AW]at hc);(try (exfalso;omega))) | ((first | refine Ag (e1) ?_ | (refine Af (e1) ?_ ?_;(· (simp;done))));try simp[qX,AW]) | (refine⟨?_,?_⟩; · omega) | omega | apply_assumption -exfalso -symm | (exfalso;omega)))
theorem Rg {α:Type} (c:α->α->Int):∀(l:List α) (p:α),(DG c l p).length<=l.length+1
 | [],p=>by simp[DG]
 | x::l,p=>by
  have:=Rg c l p;unfold DG
  split
  ·simp;omega
  ·split
   ·simp
   ·simp
def EM (Z E:List Arc):List Arc:=E.foldl (DG CT) Z
theorem Rh (Z:List Arc):EM Z []=Z:=rfl
theorem HZ (Z E F:List Arc):EM Z (E++F)=EM (EM Z E) F:=by unfold EM;rw[cY0]
theorem Mz (Z:List Arc):∀E:List Arc,(EM Z E).length<=Z.length+E.length:=by
 intro E
 induction E generalizing Z with
 | nil=>simp[EM]
 | cons x E ih =>
  have h1:=ih (DG CT Z x);have h2:=Rg CT Z x;have h3:EM Z (x::E)=EM (DG CT Z x) E:=rfl;rw[h3,List.length_cons];omega
def Al_ (b:Bool) (x:Arc):List Arc:=if b=true then [x]else []
theorem Xj (b:Bool) (x:Arc):(Al_ b x).length<=1:=by unfold Al_;split<;>simp
def Gj (sy:Nd->Sym) (ah:Nat) (t:RT) (q:Nat) (ps:List Nat):List Arc:=ps.flatMap fun p=>Al_ (PG t 0 p q) ⟨(EZ (flat t) ah p:Int),sy (nd (flat t) q),(EZ (flat t) ah q:Int)⟩
theorem xS (sy:Nd->Sym) (ah:Nat) (t:RT) (q:Nat) (ps:List Nat) (p:Nat):Gj sy ah t q (ps++[p])=Gj sy ah t q ps++Al_ (PG t 0 p q) ⟨(EZ (flat t) ah p:Int),sy (nd (flat t) q),(EZ (flat t) ah q:Int)⟩:=by simp[Gj]
theorem WT (sy:Nd->Sym) (ah:Nat) (t:RT) (q:Nat):Gj sy ah t q []=[]:=rfl
theorem Qn (sy:Nd->Sym) (ah:Nat) (t:RT) (q:Nat):∀ps:List Nat,(Gj sy ah t q ps).length<=ps.length
 | []=>by simp[Gj]
 | p::ps=>by
  have h1:Gj sy ah t q (p::ps)=Al_ (PG t 0 p q) ⟨(EZ (flat t) ah p:Int),sy (nd (flat t) q),(EZ (flat t) ah q:Int)⟩++Gj sy ah t q ps:=rfl;have h2:=Xj (PG t 0 p q) ⟨(EZ (flat t) ah p:Int),sy (nd (flat t) q),(EZ (flat t) ah q:Int)⟩;have h3:=Qn sy ah t q ps;rw[h1,aC0,List.length_cons];omega
theorem YJ (sy:Nd->Sym) (ah:Nat) (t:RT) (q:Nat):Lj sy ah t q=Al_ (Sf t 0 q) ⟨0,sy (nd (flat t) q),(EZ (flat t) ah q:Int)⟩++Gj sy ah t q (FZ (flat t) (flat t).length):=rfl
def EQ (sy:Nd->Sym) (ah:Nat) (t:RT) (ps:List Nat):List Arc:=ps.flatMap (Lj sy ah t)
theorem lP (sy:Nd->Sym) (ah:Nat) (t:RT) (ps:List Nat) (q:Nat):EQ sy ah t (ps++[q])=EQ sy ah t ps++Lj sy ah t q:=by simp[EQ]
theorem Bm_ (sy:Nd->Sym) (ah:Nat) (t:RT):EQ sy ah t []=[]:=rfl
theorem Oe (sy:Nd->Sym) (ah:Nat) (t:RT) (h:(FZ (flat t) (flat t).length).length<=64):∀ps:List Nat,(EQ sy ah t ps).length<=65*ps.length
 | []=>by simp[EQ]
 | q::ps=>by
  have h1:EQ sy ah t (q::ps)=Lj sy ah t q++EQ sy ah t ps:=rfl;have h3:=Oe sy ah t h ps;have h4:=Xj (Sf t 0 q) ⟨0,sy (nd (flat t) q),(EZ (flat t) ah q:Int)⟩;have h5:=Qn sy ah t q (FZ (flat t) (flat t).length);rw[h1,YJ,aC0,aC0,List.length_cons];omega
def Hp (g:List Rul):Nd->Sym:=Eo (Ax g) (Ay g)
def tL : Ann:=⟨[],[⟨5,[11],[],[]⟩]⟩
theorem oE (g:List Rul) (t:RT) (ah:Nat) (Z:List Arc) (ht:Ew t=true) (hs:(flat t).length<=2048) (kU:ah+(Cs (flat t)).length<=64) (hn:((AI 3 g).length+1)*16<=150000000000000) (hZ:(Z.length+5000)*32<=150000000000000) :
  Ae prog 88 [Ar g,AU (flat t),.int .i64 ah,Cg Z] (Cg (EM Z (EQ (Hp g) ah t (FZ (flat t) (flat t).length)))):=by
 obtain⟨l,hl⟩:∃l,l=flat t:=⟨_,rfl⟩;have ep:=Ht l
 have zS:(FZ l l.length).length<=64:=by
  rw[Kq (Nat.le_refl _),GZ,hl];omega
 have gZ:∀j p,(FZ l l.length)[j]? =some p->IA l p=j:=fun j p h=>QD (Nat.le_refl _) h
 have hpin:∀p∈FZ l l.length,∃x,l[p]? =some x:=fun p h=>by
  obtain⟨x,hx,_⟩:=IF.1 h;exact⟨x,hx⟩
 have eS:=fun x=>Mc g x hn
 have yC:At (flat t) 0 t:=At.top ht;have eB:∀q:Nat,Ae prog 127 [AU l,.int .i64 0,.int .i64 q] (.bool (Sf t 0 q)):=fun q=>by rw[hl];exact GH q _ t (flat t) 0 rfl yC (by omega)
 have eF:∀p q:Nat,Ae prog 129 [AU l,.int .i64 0,.int .i64 p,.int .i64 q] (.bool (PG t 0 p q)):=fun p q=>by rw[hl];exact Pb p q _ t (flat t) 0 rfl yC (by omega)
 have jD:=Oe (Hp g) ah t (by rw[<-hl];exact zS);have kB:=Qn (Hp g) ah t;have gP:=xS (Hp g) ah t;have wT:=lP (Hp g) ah t;have hq:=YJ (Hp g) ah t;rw[<-hl]at hq;simp only[<-hl]at gP;rw[<-hl];obtain⟨ps,gO⟩:∃ps,ps=FZ l l.length:=⟨_,rfl⟩;rw[<-gO]at ep zS gZ hpin hq |-;clear gO yC;obtain⟨R,hR⟩:∃R,R=EM Z (EQ (Hp g) ah t ps):=⟨_,rfl⟩;rw[<-hR];refine Ac [] tL func88 call88 ntmps88 mxd (Au @tL.eq_1 results88) rfl (fun qJ B qX qQ=> ?_)
 clear qJ;simp only[Am]
 (refine AG (AD ep) Ab Ab ?_;intros;refine Ah ?_)
 refine Ai (X:={j:Nat//j<=ps.length}) (fun j=>⟨[(0,Ar g),(1,AU l),(2,.int .i64 ah),(3,Cg (EM Z (EQ (Hp g) ah t (ps.take j.1)))),(9,Cz ps),(10,.int .i64 j.1)],[]⟩) (fun j=>ps.length-j.1) ⟨0,by omega⟩ (Sub.lit (by simp[Bm_,Rh])) ?_;rintro⟨j,hj⟩;simp only
 by_cases qV:j<ps.length
 ·obtain⟨q,pB,bC,pD⟩:=Ao qV;obtain⟨x,hx⟩:=hpin q pD;have qA:=(aB0.1 hx).2;have bM:=(aB0.1 hx).1;have hrk:=gZ j q pB;have zT:(EZ l ah q:Int)=(ah:Int)+(j:Int)+1:=by unfold EZ;omega
  have hnd:=rK hx;have e1:=eS x;have e2:=eB q;have qI:=wT (ps.take j) q;rw[<-Bc pB,hq q]at qI;rw[hl]at hnd zT;have qU:=Mz Z (EQ (Hp g) ah t (ps.take j));have hbl1:=jD (ps.take j);rw[bA0]at hbl1;obtain⟨y,hy⟩:∃y,y=Eo (Ax g) (Ay g) x:=⟨_,rfl⟩;have cB:Hp g x=y:=hy.symm;rw[<-hy]at e1;simp only[Bq,AM]at e1;obtain⟨N,hN⟩:∃N:Int,N=(ah:Int)+(j:Int)+1:=⟨_,rfl⟩;have hwj1:IntKind.i64.wrap ((ah:Int)+(j:Int))=(ah:Int)+(j:Int):=wq
  have nY:IntKind.i64.wrap ((ah:Int)+(j:Int)+1)=N:=by rw[hN];exact wq
  rw[<-hl]at hnd zT;have kL:=HZ Z (EQ (Hp g) ah t (ps.take j));obtain⟨Z0,hZ0⟩:∃Z0,Z0=EM Z (EQ (Hp g) ah t (ps.take j)):=⟨_,rfl⟩;rw[<-hZ0]at qU kL |-;have e3:=IJ Z0 ⟨0,y,(ah:Int)+(j:Int)+1⟩ (by omega);simp only[AW]at e3;rw[<-hN]at e3;rw[hnd,cB,zT,<-hN]at qI;cases fW:Sf t 0 q
  ·rw[fW]at e2 qI;obtain⟨Z1,hZc⟩:∃Z1,Z1=Z0:=⟨_,rfl⟩;have yK:Z1.length<=Z0.length+1:=by rw[hZc];omega
   have hZ1:EM Z1 (Gj (Hp g) ah t q ps)=EM Z (EQ (Hp g) ah t (ps.take (j+1))):=by rw[qI,kL,HZ,hZc];rfl
   (refine AG (Au e1 e2) Ab (LL @Bq.eq_1 qV pB bC hx qA bM @Bb.eq_1 hwj1 nY) ?_;intros;refine Ah ?_)
   refine Ai (X:={i:Nat//i<=ps.length}) (fun i=>⟨[(0,Ar g),(1,AU l),(2,.int .i64 ah),(3,Cg (EM Z1 (Gj (Hp g) ah t q (ps.take i.1)))),(9,Cz ps),(10,.int .i64 j),(11,.ref (AM y)),(13,.int .i64 N),(14,.int .i64 i.1)],[]⟩) (fun i=>ps.length-i.1) ⟨0,by omega⟩ (Sub.lit (by simp[WT,Rh,AM,<-hZc])) ?_;rintro⟨i,hi⟩;simp only
   by_cases qL:i<ps.length
   ·obtain⟨p,wA,dX,gN⟩:=Ao qL;have bE:=gZ i p wA;have dW:(EZ l ah p:Int)=(ah:Int)+(i:Int)+1:=by unfold EZ;omega
    have e4:=eF p q;have qT:=gP q (ps.take i) p;rw[<-Bc wA,hnd,cB,zT,dW]at qT;have zL:=Mz Z1 (Gj (Hp g) ah t q (ps.take i));have hrl1:=kB q (ps.take i);rw[bA0]at hrl1;have zG:=HZ Z1 (Gj (Hp g) ah t q (ps.take i));obtain⟨Z2,hZ2⟩:∃Z2,Z2=EM Z1 (Gj (Hp g) ah t q (ps.take i)):=⟨_,rfl⟩;rw[<-hZ2]at zL zG |-;have e5:=IJ Z2 ⟨(ah:Int)+(i:Int)+1,y,(ah:Int)+(j:Int)+1⟩ (by omega);have fP:IntKind.i64.wrap ((ah:Int)+(i:Int))=(ah:Int)+(i:Int):=wq
    have hwi2:IntKind.i64.wrap ((ah:Int)+(i:Int)+1)=(ah:Int)+(i:Int)+1:=wq;simp only[AW]at e5;rw[<-hN]at e5 qT;cases hd:PG t 0 p q
    ·rw[hd]at e4 qT;have h9:EM Z1 (Gj (Hp g) ah t q (ps.take (i+1)))=Z2:=by rw[qT,zG];rfl
     (refine AG (Au e4 e5) Ab (Iw qL wA dX pB bC qV @Bb.eq_1) ?_;intros;refine Ah ?_)
     refine Aj.mk ⟨i+1,by omega⟩ (Sub.lit (by simp[h9])) (by simp;omega)
     skip
    ·rw[hd]at e4 qT;have h9:EM Z1 (Gj (Hp g) ah t q (ps.take (i+1)))=DG CT Z2 ⟨(ah:Int)+(i:Int)+1,y,N⟩:=by rw[qT,zG];rfl
     (refine AG (Au e4 e5) Ab (LL qL wA dX pB bC qV @Bb.eq_1 fP hwi2 @AM.eq_1) ?_;intros;refine Ah ?_)
     refine Aj.mk ⟨i+1,by omega⟩ (Sub.lit (by simp[h9])) (by simp;omega)
     skip
   ·have qZ:i=ps.length:=by omega
    subst qZ;rw[aW0,hZ1]
    (refine AG Ab Ab Ab ?_;intros;refine Ah ?_)
    refine Aj.mk ⟨j+1,by omega⟩ (Sub.lit (by simp)) (by simp;omega)
    skip
  ·rw[fW]at e2 qI;obtain⟨Z1,hZc⟩:∃Z1,Z1=DG CT Z0 ⟨0,y,N⟩:=⟨_,rfl⟩;have yK:Z1.length<=Z0.length+1:=by rw[hZc];exact Rg _ _ _
   have hZ1:EM Z1 (Gj (Hp g) ah t q ps)=EM Z (EQ (Hp g) ah t (ps.take (j+1))):=by rw[qI,kL,HZ,hZc];rfl
   (refine AG (CD e1 e2 e3) Ab (Jn @Bq.eq_1 @AM.eq_1 qV pB bC hx qA bM @Bb.eq_1 hwj1 nY) ?_;intros;refine Ah ?_)
   refine Ai (X:={i:Nat//i<=ps.length}) (fun i=>⟨[(0,Ar g),(1,AU l),(2,.int .i64 ah),(3,Cg (EM Z1 (Gj (Hp g) ah t q (ps.take i.1)))),(9,Cz ps),(10,.int .i64 j),(11,.ref (AM y)),(13,.int .i64 N),(14,.int .i64 i.1)],[]⟩) (fun i=>ps.length-i.1) ⟨0,by omega⟩ (Sub.lit (by simp[WT,Rh,AM,<-hZc])) ?_;rintro⟨i,hi⟩;simp only
   by_cases qL:i<ps.length
   ·obtain⟨p,wA,dX,gN⟩:=Ao qL;have bE:=gZ i p wA;have dW:(EZ l ah p:Int)=(ah:Int)+(i:Int)+1:=by unfold EZ;omega
    have e4:=eF p q;have qT:=gP q (ps.take i) p;rw[<-Bc wA,hnd,cB,zT,dW]at qT;have zL:=Mz Z1 (Gj (Hp g) ah t q (ps.take i));have hrl1:=kB q (ps.take i);rw[bA0]at hrl1;have zG:=HZ Z1 (Gj (Hp g) ah t q (ps.take i));obtain⟨Z2,hZ2⟩:∃Z2,Z2=EM Z1 (Gj (Hp g) ah t q (ps.take i)):=⟨_,rfl⟩;rw[<-hZ2]at zL zG |-;have e5:=IJ Z2 ⟨(ah:Int)+(i:Int)+1,y,(ah:Int)+(j:Int)+1⟩ (by omega);have fP:IntKind.i64.wrap ((ah:Int)+(i:Int))=(ah:Int)+(i:Int):=wq
    have hwi2:IntKind.i64.wrap ((ah:Int)+(i:Int)+1)=(ah:Int)+(i:Int)+1:=wq;simp only[AW]at e5;rw[<-hN]at e5 qT;cases hd:PG t 0 p q
    ·rw[hd]at e4 qT;have h9:EM Z1 (Gj (Hp g) ah t q (ps.take (i+1)))=Z2:=by rw[qT,zG];rfl
     (refine AG (Au e4 e5) Ab (Iw qL wA dX pB bC qV @Bb.eq_1) ?_;intros;refine Ah ?_)
     refine Aj.mk ⟨i+1,by omega⟩ (Sub.lit (by simp[h9])) (by simp;omega)
     skip
    ·rw[hd]at e4 qT;have h9:EM Z1 (Gj (Hp g) ah t q (ps.take (i+1)))=DG CT Z2 ⟨(ah:Int)+(i:Int)+1,y,N⟩:=by rw[qT,zG];rfl
     (refine AG (Au e4 e5) Ab (LL qL wA dX pB bC qV @Bb.eq_1 fP hwi2 @AM.eq_1) ?_;intros;refine Ah ?_)
     refine Aj.mk ⟨i+1,by omega⟩ (Sub.lit (by simp[h9])) (by simp;omega)
     skip
   ·have qZ:i=ps.length:=by omega
    subst qZ;rw[aW0,hZ1]
    (refine AG Ab Ab Ab ?_;intros;refine Ah ?_)
    refine Aj.mk ⟨j+1,by omega⟩ (Sub.lit (by simp)) (by simp;omega)
    skip
 ·have qZ:j=ps.length:=by omega
  subst qZ;rw[aW0,<-hR];exact Av Ab Ab Ab
end Go.Proofs.Wy
end
