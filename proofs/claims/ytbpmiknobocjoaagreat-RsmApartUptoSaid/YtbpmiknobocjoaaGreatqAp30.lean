/- Parts of a proof, laid together: RY4, WE0, WR2, WR3, BN3. -/
import Derived.Test.YtbpmiknobocjoaaGreatqAp17
import Derived.Test.YtbpmiknobocjoaaGreatqAp18
import Derived.Test.YtbpmiknobocjoaaGreatqAp24
import Derived.Test.YtbpmiknobocjoaaGreatqAp25
import Derived.Test.YtbpmiknobocjoaaGreatqAp27
import Derived.Test.YtbpmiknobocjoaaGreatqAp28
import Derived.Test.YtbpmiknobocjoaaGreatqAp29
set_option linter.unusedSimpArgs false
set_option maxHeartbeats 8000000
set_option linter.unusedVariables false
set_option linter.unusedSectionVars false
section
namespace Go.Proofs.Wy
open Go Go.Dm Tryz
variable [DMode]
attribute [local irreducible] DW BN BS
set_option maxRecDepth 100000
theorem CU_ {ks:List RT} (h:FQ ks=true) (i:Nat):FQ (ks.take i)=true:=by
 have:=PR (ks.take i) (ks.drop i);rw[List.take_append_drop,h]at this;simpa using (by simpa using this.symm:FQ (ks.take i)=true/\FQ (ks.drop i)=true).1
def Lu (x:Nd) (ks:List RT) (i:Nat):ByteArray:=if i=0 then x.s else FS (Dr x.k (ks.take i)) (Ns x.k)
theorem OJ (x:Nd) (ks:List RT):Lu x ks 0=x.s:=rfl
theorem EQ_ {x:Nd} {ks:List RT} {u:RT} (h:ks[0]? =some u):Lu x ks 1=JZ x.k u.x.k (CT u):=by
 unfold Lu;rw[if_neg (by omega),show ks.take 1=[u] by rw[bM0,h];simp,Gh,Mq];rfl
theorem BP_ {x:Nd} {ks:List RT} {i:Nat} {u:RT} (hi:0<i) (h:ks[i]? =some u):Lu x ks (i+1)=Lu x ks i++Ns x.k++JZ x.k u.x.k (CT u):=by
 unfold Lu;rw[if_neg (by omega),if_neg (by omega),Tu h];obtain⟨hl,_⟩:=aB0.1 h
 have qF:Dr x.k (ks.take i)≠[]:=fun e=>by
  have:=congrArg List.length e;rw[Qp,aY0]at this;simp only[List.length_nil]at this;omega
 cases hx:Dr x.k (ks.take i)with
 | nil=>exact absurd hx qF
 | cons y r =>
  show (r++[_]).foldl (Dn (Ns x.k)) y=_
  rw[dF0];rfl
theorem BQ_ {x:Nd} {ks:List RT} (qG:FQ ks=true) (hs:x.s.size<=16) (i:Nat):(Lu x ks i).size<=16+24*(An ks).length:=by
 unfold Lu
 split
 ·omega
 ·have h1:=Jb (Dr x.k (ks.take i)) (Ns x.k) (Ix _);have h2:=(KJ x.k (ks.take i) (CU_ qG i)).1;have h3:=Tj ks i;omega
theorem FU_ {x:Nd} (h:DZ x=true) (h2:¬(x.k=2\/x.k=3)):x.s=⟨#[]⟩:=by
 unfold DZ aQ at h;rw[if_neg (fun e=>h2 (.inl e)),if_neg (fun e=>h2 (.inr e))]at h
 repeat' split at h
 all_goals simp only[aL0,decide_eq_true_eq,aQ0]at h
 all_goals first | exact h.1 | (exact absurd h (by simp))
theorem TC (x:ByteArray):x++(⟨#[]⟩:ByteArray)=x:=by
 apply Iw
 simp[ByteArray.data_append]
def tQ : Ann:=⟨[],[]⟩
theorem OM : ∀(n:Nat) (t:RT) (l:List Nd) (p:Nat),(Ad t).length=n->At l p t->l.length<=1572864->Af prog 62 [AM l,.int .i64 p] (.str (CT t)):=by
 intro n
 induction n using Nat.strongRecOn with
 | ind n ih =>
 intro t l p hn ht hs;obtain⟨x,ks⟩:=t;have kk:=Et l p x ks ht hs;obtain⟨hm,hkn,qG⟩:=Cg ht.ok;obtain⟨g0,gl,ge⟩:=ht.head;simp only[RT.x]at g0;have g0':l[p]'gl=x:=(aB0.1 g0).2;have vI:(Ad (.mk x ks)).length=(An ks).length+1:=by rw[AQ,List.length_cons]
 have yJ:=Cr ks;have hk9:ks.length<=1572864:=by omega
 have kL:∀i u,ks[i]? =some u->Af prog 62 [AM l,.int .i64 (AS p ks i)] (.str (CT u))/\l[AS p ks i]? =some u.x/\(CT u).size<=37748736:=fun i u hu=>by
  have hm:=Eu (bJ0 hu);have hu2:=(ht.kid hu).1;have h3:=(HS u hu2.ok).2;exact⟨ih (Ad u).length (by omega) u l _ rfl hu2 hs,hu2.head.1,by omega⟩
 have qH:∀i,i<ks.length->_:=fun i h=>GC (p:=p) (ks:=ks) (i:=i) h
 have hacs:=BQ_ (x:=x) qG (Ol hm);have mY:=Ol hm;have fW:16+24*(An ks).length<=37748756:=by omega
 rw[PK];unfold Ki at kk;obtain⟨D,hD⟩:∃D,D=(List.range ks.length).map fun i=>Ij (AS p ks i):=⟨_,rfl⟩
 have wJ:D.length=ks.length:=by rw[hD];simp
 have wP:Br D=0:=by rw[hD];exact Hj p ks _
 rw[<-hD]at kk qH;have h6:x.k=6\/x.k=7\/x.k=8->ks.length=1:=fun h=>by obtain⟨u,rfl⟩:=PO ht.ok h;rfl
 have h8:¬x.k=1->¬(x.k=2\/x.k=3)->¬x.k=5->x.k=4\/x.k=6\/x.k=7\/x.k=8:=fun a b c=>by have:=KT hm;omega
 have hlf:x.k=2\/x.k=3->ks.length=0:=fun h=>by rw[Kf ht.ok h];rfl
 have yR:¬x.k=1->¬(x.k=2\/x.k=3)->1<=ks.length:=fun a b=>by have:=Om hm a b;omega
 have hemp:¬(x.k=2\/x.k=3)->x.s=⟨#[]⟩:=FU_ hm;clear hD ih ht ge hn qG hm;have z0:(⟨#[]⟩:ByteArray).size=0:=rfl;have z1:(⟨#[37]⟩:ByteArray).size=1:=rfl;have z2:(⟨#[32]⟩:ByteArray).size=1:=rfl;have z3:(⟨#[32,124,32]⟩:ByteArray).size=3:=rfl;have z4:(⟨#[40]⟩:ByteArray).size=1:=rfl;have z5:(⟨#[41]⟩:ByteArray).size=1:=rfl;have z6:(⟨#[42]⟩:ByteArray).size=1:=rfl;have z7:(⟨#[43]⟩:ByteArray).size=1:=rfl;have z8:(⟨#[63]⟩:ByteArray).size=1:=rfl
 have m1:1<=maxLen:=by decide
 have m3:3<=maxLen:=by decide
 have mbig:100000000<=maxLen:=by decide
 refine Ae [] tQ func62 call62 ntmps62 mxd (AB @tQ.eq_1 results62) rfl (fun qJ B qX qQ=> ?_);clear qJ;simp only[Aq]
 by_cases k1:x.k=1
 ·rw[if_pos k1];exact Az Ab Ab (IH @Bo.eq_1 g0 g0' gl z1 m1 k1)
 rw[if_neg k1];obtain⟨R,hR⟩:∃R,R=(if x.k=2\/x.k=3 then x.s else FS (Dr x.k ks) (Ns x.k)++eG x.k):=⟨_,rfl⟩;rw[<-hR];have k1':(x.k==1)=false:=by simpa using k1
 (refine AL (AH kk) Ab (Jm @Bo.eq_1 g0 g0' gl k1 k1') ?_;intros;refine Am ?_)
 refine Ai (X:={i:Nat//i<=ks.length}) (fun i=>⟨[(0,AM l),(5,.int .i64 x.k),(6,.str (Lu x ks i.1)),(7,.sl 1 8 D),(8,.int .i64 i.1)],[]⟩) (fun i=>ks.length-i.1) ⟨0,by omega⟩ (Sub.lit (by simp[OJ,wP])) ?_;rintro⟨i,hi⟩;simp only
 by_cases qV:i<ks.length
 ·have k2:¬(x.k=2\/x.k=3):=fun h=>by have:=hlf h;omega
  have hx0:=hemp k2;obtain⟨u,hu,vO,_⟩:=Ap qV;obtain⟨e1,gu,vV⟩:=kL i u hu;have hr:=qH i qV;have qO:i<D.length:=by omega
  have wU:IntKind.i64.wrap ((i:Int)+1)=(i:Int)+1:=wq;have qW:D[i]'qO=[.int .i64 (AS p ks i:Int)]:=(aB0.1 hr).2;have hac:=hacs i;obtain⟨q,hq⟩:∃q,q=AS p ks i:=⟨_,rfl⟩;rw[<-hq]at e1 hr qW gu;have gq:q<l.length:=(aB0.1 gu).1;have gu':l[q]'gq=u.x:=(aB0.1 gu).2;have zN:JZ x.k u.x.k (CT u)=if CP_ x.k u.x.k then ⟨#[40]⟩++CT u++⟨#[41]⟩else CT u:=rfl
  have wT:Lu x ks (i+1)=(if i=0 then ⟨#[]⟩else Lu x ks i++Ns x.k)++JZ x.k u.x.k (CT u):=by
   by_cases h0:i=0
   ·subst h0;rw[if_pos rfl,Mw];exact EQ_ hu
   ·rw[if_neg h0];exact BP_ (by omega) hu
  have hz:i=0->Lu x ks i=⟨#[]⟩:=fun h=>by rw[h,OJ,hx0]
  obtain⟨s,zK⟩:∃s,s=CT u:=⟨_,rfl⟩;rw[<-zK]at e1 vV zN wT;obtain⟨P,hP⟩:∃P,P=JZ x.k u.x.k s:=⟨_,rfl⟩;rw[<-hP]at zN wT;obtain⟨a,ha⟩:∃a,a=Lu x ks i:=⟨_,rfl⟩;rw[<-ha]at hac wT hz |-;have y3:1+s.size<=maxLen:=by omega
  have y4:1+s.size+1<=maxLen:=by omega
  have y5:a.size+3<=maxLen:=by omega
  have y6:a.size+1<=maxLen:=by omega
  have y7:a.size+P.size<=maxLen:=by
   have:=(KP x.k u.x.k s).2;rw[<-hP]at this;omega
  have y8:a.size+3+P.size<=maxLen:=by
   have:=(KP x.k u.x.k s).2;rw[<-hP]at this;omega
  have y9:a.size+1+P.size<=maxLen:=by omega
  unfold CP_ at zN;clear zK ha hP;unfold Ns at wT
  by_cases h0:i=0
  ·have wM:¬(0:Int)<(i:Int):=by omega
   rw[if_pos h0,Mw]at wT;have ha0:=hz h0;subst ha0;have w1:⟨#[]⟩++P=P:=Mw P;have y7':P.size<=maxLen:=by omega
   by_cases p5:u.x.k=5
   ·simp[p5]at zN;subst zN;simp only[aP0,z4,z5]at y7'
    (refine AL (AH e1) Ab (AB (NG @Bo.eq_1 gu gu' gq qO wJ wU hr qW qV wM p5 z0 z4 z5 m1) (Lj y3 y4 y7' w1 @aP0)) ?_;intros;refine Am ?_)
    refine Al.mk ⟨i+1,by omega⟩ (Sub.lit (by simp[wT,wP])) (by simp;omega)
    skip
   ·have p5':(u.x.k==5)=false:=by simpa using p5
    by_cases p4:u.x.k=4
    ·by_cases q5:x.k=5
     ·simp[p4,q5]at zN;subst zN
      (refine AL (AH e1) Ab (AB (NG @Bo.eq_1 gu gu' gq qO wJ wU hr qW qV wM p4 p5 p5' q5 z0) (KG z4 z5 m1 y3 y4 y7' w1 @aP0)) ?_;intros;refine Am ?_)
      refine Al.mk ⟨i+1,by omega⟩ (Sub.lit (by simp[wT,wP,q5])) (by simp;omega)
      skip
     ·have q5':(x.k==5)=false:=by simpa using q5
      simp[p4,q5]at zN;subst zN;simp only[aP0,z4,z5]at y7'
      (refine AL (AH e1) Ab (AB (NG @Bo.eq_1 gu gu' gq qO wJ wU hr qW qV wM p4 p5 p5' q5 q5') (WJ z0 z4 z5 m1 y3 y4 y7' w1 @aP0)) ?_;intros;refine Am ?_)
      refine Al.mk ⟨i+1,by omega⟩ (Sub.lit (by simp[wT,wP])) (by simp;omega)
      skip
    ·have p4':(u.x.k==4)=false:=by simpa using p4
     simp[p4,p5]at zN;subst zN
     (refine AL (AH e1) Ab (AB (NG @Bo.eq_1 gu gu' gq qO wJ wU hr qW qV wM p4 p4' p5 p5' z0) (KG z4 z5 m1 y3 y4 y7' w1 @aP0)) ?_;intros;refine Am ?_)
     refine Al.mk ⟨i+1,by omega⟩ (Sub.lit (by simp[wT,wP])) (by simp;omega)
     skip
  ·have wM:(0:Int)<(i:Int):=by omega
   rw[if_neg h0]at wT;clear hz
   by_cases q5:x.k=5
   ·rw[if_pos q5]at wT;have q4':(x.k==4)=false:=by simp[q5]
    by_cases p5:u.x.k=5
    ·simp[p5]at zN;subst zN;simp only[aP0,z4,z5]at y8
     (refine go2 (AH e1) Ab (AB (NG @Bo.eq_1 gu gu' gq qO wJ wU hr qW qV wM p5 q5 q4' z0 z3) (WJ z4 z5 m1 m3 y3 y4 y5 y8 @aP0)) ?_ ?_<;>(intros;refine Am ?_))
     refine Al.mk ⟨i+1,by omega⟩ (Sub.lit (by simp[wT,wP,q5])) (by simp;omega);exact Az (AH e1) Ab Ab
    ·have p5':(u.x.k==5)=false:=by simpa using p5
     simp[p5,q5]at zN;subst zN
     by_cases p4:u.x.k=4
     ·(refine go2 (AH e1) Ab (AB (NG @Bo.eq_1 gu gu' gq qO wJ wU hr qW qV wM p5 p5' p4 q5 q4') (JE z0 z3 z4 z5 m1 m3 y3 y4 y5 y8 @aP0)) ?_ ?_<;>(intros;refine Am ?_))
      refine Al.mk ⟨i+1,by omega⟩ (Sub.lit (by simp[wT,wP,q5])) (by simp;omega);exact Az (AH e1) Ab Ab
     ·have p4':(u.x.k==4)=false:=by simpa using p4
      (refine go2 (AH e1) Ab (AB (NG @Bo.eq_1 gu gu' gq qO wJ wU hr qW qV wM p5 p5' p4 p4' q5) (oK q4' z0 z3 z4 z5 m1 m3 y3 y4 y5 y8 @aP0)) ?_ ?_<;>(intros;refine Am ?_))
      refine Al.mk ⟨i+1,by omega⟩ (Sub.lit (by simp[wT,wP,q5])) (by simp;omega);exact Az (AH e1) Ab Ab
   ·have q5':(x.k==5)=false:=by simpa using q5
    have q4:x.k=4:=by
     rcases (show x.k=4\/x.k=6\/x.k=7\/x.k=8 from h8 k1 k2 q5)with h | h
     ·exact h
     ·have:=h6 h;omega
    rw[if_neg q5,if_pos q4]at wT
    by_cases p5:u.x.k=5
    ·simp[p5]at zN;subst zN;simp only[aP0,z4,z5]at y9
     (refine go2 (AH e1) Ab (AB (NG @Bo.eq_1 gu gu' gq qO wJ wU hr qW qV wM p5 q5 q5' q4 z0) (WJ z2 z4 z5 m1 y3 y4 y6 y9 @aP0)) ?_ ?_<;>(intros;refine Am ?_))
     refine Al.mk ⟨i+1,by omega⟩ (Sub.lit (by simp[wT,wP,q4])) (by simp;omega);exact Az (AH e1) Ab Ab
    ·have p5':(u.x.k==5)=false:=by simpa using p5
     by_cases p4:u.x.k=4
     ·simp[p4,q5]at zN;subst zN;simp only[aP0,z4,z5]at y9
      (refine go2 (AH e1) Ab (AB (NG @Bo.eq_1 gu gu' gq qO wJ wU hr qW qV wM p4 p5 p5' q5 q5') (JE q4 z0 z2 z4 z5 m1 y3 y4 y6 y9 @aP0)) ?_ ?_<;>(intros;refine Am ?_))
      refine Al.mk ⟨i+1,by omega⟩ (Sub.lit (by simp[wT,wP,q4])) (by simp;omega);exact Az (AH e1) Ab Ab
     ·have p4':(u.x.k==4)=false:=by simpa using p4
      simp[p4,p5]at zN;subst zN
      (refine go2 (AH e1) Ab (AB (NG @Bo.eq_1 gu gu' gq qO wJ wU hr qW qV wM p4 p4' p5 p5' q5) (oK q5' q4 z0 z2 z4 z5 m1 y3 y4 y6 y9 @aP0)) ?_ ?_<;>(intros;refine Am ?_))
      refine Al.mk ⟨i+1,by omega⟩ (Sub.lit (by simp[wT,wP,q4])) (by simp;omega);exact Az (AH e1) Ab Ab
 ·have qZ:i=ks.length:=by omega
  subst qZ;have hac:=hacs ks.length
  have yW:(if x.k=2\/x.k=3 then x.s else FS (Dr x.k ks) (Ns x.k)++eG x.k)=Lu x ks ks.length++eG x.k:=by
   by_cases k2:x.k=2\/x.k=3
   ·rw[if_pos k2,hlf k2,OJ];have:eG x.k=⟨#[]⟩:=by unfold eG;rw[if_neg (by omega),if_neg (by omega),if_neg (by omega)]
    rw[this,TC]
   ·rw[if_neg k2];unfold Lu;rw[if_neg (by have:=yR k1 k2;omega),aU0]
  rw[yW]at hR;clear yW;obtain⟨a,ha⟩:∃a,a=Lu x ks ks.length:=⟨_,rfl⟩;rw[<-ha]at hac hR |-;have y6:a.size+1<=maxLen:=by omega
  have y0:a.size<=maxLen:=by omega
  unfold eG at hR
  by_cases j6:x.k=6
  ·rw[if_pos j6]at hR;subst hR;exact Az Ab Ab (IH wJ j6 z6 y6 y0 m1 @aP0)
  ·have j6':(x.k==6)=false:=by simpa using j6
   by_cases j7:x.k=7
   ·rw[if_neg j6,if_pos j7]at hR;subst hR;exact Az Ab Ab (WJ wJ j6 j6' j7 z7 y6 y0 m1 @aP0)
   ·have j7':(x.k==7)=false:=by simpa using j7
    by_cases j8:x.k=8
    ·rw[if_neg j6,if_neg j7,if_pos j8]at hR;subst hR;exact Az Ab Ab (JE wJ j6 j6' j7 j7' j8 z8 y6 y0 m1 @aP0)
    ·have j8':(x.k==8)=false:=by simpa using j8
     rw[if_neg j6,if_neg j7,if_neg j8,TC]at hR;subst hR;exact Az Ab Ab (Ml wJ j6 j6' j7 j7' j8 j8' y6 y0 m1)
def ZF : Ann:=⟨[],[]⟩
theorem Sq (t:RT) (ht:ED t=true) (hs:(Ad t).length<=1572864):Af prog 146 [AM (Ad t)] (.int .i64 (Dk t)):=by
 refine Ae [] ZF func146 call146 ntmps146 mxd (AB @ZF.eq_1 results146) rfl (fun qJ B qX qQ=> ?_);clear qJ;simp only[Aq];have k1:=Kl _ t (Ad t) 0 rfl (At.top ht) hs;have k2:=OM _ t (Ad t) 0 rfl (At.top ht) hs;unfold Dk;obtain⟨T,hT⟩:∃T,T=CT t:=⟨_,rfl⟩;rw[<-hT]at k2 |-
 by_cases c1:16<JC t
 ·have d1:(16:Int)<(JC t:Int):=by omega
  exact Az (AB k1 k2) Ab (AB c1 d1)
 ·have d1:¬(16:Int)<(JC t:Int):=by omega
  by_cases c2:2048<T.size
  ·have d2:(2048:Int)<(T.size:Int):=by omega
   exact Az (AB k1 k2) Ab (IF c1 d1 c2 d2)
  ·have d2:¬(2048:Int)<(T.size:Int):=by omega
   exact Az (AB k1 k2) Ab (IF c1 d1 c2 d2)
def Lb : Ann:=⟨[],[]⟩
theorem QR (t:RT) (ht:ED t=true) (h:(Ad t).length<=2048):Af prog 93 [AM (Ad t)] (.int .i64 (Dk t)):=by
 refine Ae [] Lb func93 call93 ntmps93 mxd (AB @Lb.eq_1 results93) rfl (fun qJ B qX qQ=> ?_);clear qJ;simp only[Aq];have k1:=EH (Ad t) (by omega);rw[Fb ht]at k1;have k2:=Sq t ht (by omega);have d1:¬(2048:Int)<((Ad t).length:Int):=by omega
 have d2:¬2048<(Ad t).length:=by omega
 exact Az (AB k1 k2) Ab (AB d1 d2)
theorem QS (l:List Nd) (h:2048<l.length):Af prog 93 [AM l] (.int .i64 3):=by
 refine Ae [] Lb func93 call93 ntmps93 mxd (AB @Lb.eq_1 results93) rfl (fun qJ B qX qQ=> ?_);clear qJ;simp only[Aq];have d1:(2048:Int)<(l.length:Int):=by omega
 exact Az Ab Ab (AB d1 h)
theorem SX (l:List Nd) (h:l.length<=2048) (hw:Dg l=false):Af prog 93 [AM l] (.int .i64 170):=by
 refine Ae [] Lb func93 call93 ntmps93 mxd (AB @Lb.eq_1 results93) rfl (fun qJ B qX qQ=> ?_);clear qJ;simp only[Aq];have k1:=EH l (by omega);rw[hw]at k1;have d1:¬(2048:Int)<(l.length:Int):=by omega
 have d2:¬2048<l.length:=by omega
 exact Az (AH k1) Ab (AB d1 d2)
def tR : Ann:=⟨[],[]⟩
theorem Pp (t:RT) (ht:ED t=true) (hs:(Ad t).length<=1572864):Af prog 61 [AM (Ad t)] (.int .i64 (JC t)):=by
 refine Ae [] tR func61 call61 ntmps61 mxd (AB @tR.eq_1 results61) rfl (fun qJ B qX qQ=> ?_);clear qJ;simp only[Aq];have k1:=EH (Ad t) hs;rw[Fb ht]at k1;have k2:=Kl _ t (Ad t) 0 rfl (At.top ht) hs;exact Az (AB k1 k2) Ab Ab
def Bd (n:Nat):List DVal:=[.int .i64 (n:Int)]
@[simp] theorem FA_ (n:Nat):AJ (Bd n)=0:=by simp[Bd,AJ,mx]
abbrev CI (l:List Nat):DVal:= .sl 1 8 (l.map Bd)
@[simp] theorem IA_ (l:List Nat):Br (l.map Bd)=0:=Ie _ FA_ l
theorem GG_ (l:List Nd) (n:Nat):(Gi l n).length<=n:=by unfold Gi;exact Nat.le_trans (cM0 _ _) (by simp)
def WD : Ann:=⟨[],[]⟩
theorem HA (l:List Nd):Af prog 65 [AM l] (CI (Gi l l.length)):=by
 refine Ae [50] WD func65 call65 ntmps65 mxd (AB @WD.eq_1 results65) rfl (fun qJ B qX qQ=> ?_);have hs:l.length*32<=150000000000000:=by have:=qJ.1;simp only[Ev,aJ0]at this;exact this.1
 clear qJ;simp only[Aq]
 (refine AL Ab Ab Ab ?_;intros;refine Am ?_)
 refine BM 3 50 3 1 8 (by simp[qX,results65,WD]) (fun n=> ?_);refine Ai (X:={i:Nat//i<=l.length}) (fun i=>⟨[(0,AM l),(3,.osl 50 1),(4,.int .i64 i.1)],[⟨50,1,.row 3 1 8 ((Gi l i.1).map Bd)⟩]⟩) (fun i=>l.length-i.1) ⟨0,by omega⟩ (Sub.lit (by simp[CM_])) ?_;rintro⟨i,hi⟩;simp only
 by_cases qV:i<l.length
 ·obtain⟨x,hx,qB,_⟩:=Ap qV;have hsc:=QU hx;have yD:=GG_ l i;obtain⟨T,hT⟩:∃T,T=Gi l i:=⟨_,rfl⟩;rw[<-hT]at hsc yD |-;have z1:(T.length+1)*8<=150000000000000:=by omega
  have z2:T.length+1<=9223372036854775807:=by omega
  by_cases ho:BV x=true
  ·rw[if_pos ho]at hsc;have hd:(T.map Bd)++[[.int .i64 (i:Int)]]=(Gi l (i+1)).map Bd:=by rw[hsc,bD0];rfl
   rcases BF.1 ho with k | k
   ·(refine AL Ab Ab (IH @Bo.eq_1 qV hx qB k z1 z2) ?_;intros;refine Am ?_)
    refine Al.mk ⟨i+1,by omega⟩ (Sub.lit (by simp[hd])) (by simp;omega)
    skip
   ·(refine AL Ab Ab (IH @Bo.eq_1 qV hx qB k z1 z2) ?_;intros;refine Am ?_)
    refine Al.mk ⟨i+1,by omega⟩ (Sub.lit (by simp[hd])) (by simp;omega)
    skip
  ·rw[if_neg ho,bR0]at hsc;have k2:¬x.k=2:=fun e=>ho (BF.2 (.inl e))
   have k3:¬x.k=3:=fun e=>ho (BF.2 (.inr e))
   have k2':(x.k==2)=false:=by simpa using k2
   have k3':(x.k==3)=false:=by simpa using k3
   (refine AL Ab Ab (KG @Bo.eq_1 qV hx qB k2 k2' k3 k3') ?_;intros;refine Am ?_)
   refine Al.mk ⟨i+1,by omega⟩ (Sub.lit (by simp[hsc])) (by simp;omega)
   skip
 ·have qZ:i=l.length:=by omega
  subst qZ;exact Az Ab Ab Ab
def tS : Ann:=⟨[],[]⟩
theorem ME (l:List Nd):Af prog 60 [AM l] (.int .i64 (HC l)):=by
 refine Ae [] tS func60 call60 ntmps60 mxd (AB @tS.eq_1 results60) rfl (fun qJ B qX qQ=> ?_);clear qJ;simp only[Aq];have k1:=HA l;have h1:(Gi l l.length).length=HC l:=by rw[KO (Nat.le_refl _),MM,Hi]
 exact Az (AH k1) Ab (AH h1)
end Go.Proofs.Wy
end
section
namespace Go.Proofs.Wy
open Go Go.Dm Tryz
variable [DMode]
theorem IP_ : OrdC NS:=by
 refine⟨fun _ _=>Ar_,fun x y=> ?_,fun x y z h1 h2=> ?_⟩
 ·rw[Gs];unfold NS;cases h1:CO x y
  ·cases h2:CO y x<;>simp
  ·rw[QB h1];simp
 ·rw[Gs]at *;exact JP h1 h2
end Go.Proofs.Wy
end
section
namespace Go.Proofs.Wy
open Go Go.Dm Tryz
variable [DMode]
attribute [local irreducible] DW BN BS
set_option maxRecDepth 100000
def SE : Ann:=⟨[],[⟨5,[6],[],[]⟩,⟨7,[22],[],[]⟩]⟩
theorem Rz (k:Int) (s:ByteArray):Af prog 120 [.sl 3 32 [BW k s 0]] (.int .i64 1):=by
 refine Ae [] SE func120 call120 ntmps120 mxd (AB @SE.eq_1 results120) rfl (fun qJ B qX qQ=> ?_);clear qJ;simp only[Aq]
 (refine AL Ab Ab (AH @BW.eq_1) ?_;intros;refine Am ?_)
 refine Ai (X:=Bool) (fun x=>⟨[(0,.sl 3 32 [BW k s 0]),(3,.int .i64 (if x then 1 else 0)),(4,if x then .sl 1 8 []else .nilsl),(7,.sl 3 32 [BW k s 0]),(8,.int .i64 1),(9,.int .i64 (if x then 1 else 0))],[]⟩) (fun x=>if x then 0 else 1) false (Sub.lit (by simp[BW])) ?_;rintro (_ | _)
 ·(refine AL Ab Ab (AH @BW.eq_1) ?_;intros;refine Am ?_)
  refine Ai (X:=Bool) (fun x=>⟨[(0,.sl 3 32 [BW k s 0]),(3,.int .i64 1),(4,if x then .sl 1 8 []else .sl 1 8 [[.int .i64 0]]),(7,.sl 3 32 [BW k s 0]),(8,.int .i64 1),(9,.int .i64 0)],[]⟩) (fun x=>if x then 0 else 1) false (Sub.lit (by simp[BW])) ?_;rintro (_ | _)
  ·(refine AL Ab Ab (AH @BW.eq_1) ?_;intros;refine Am ?_)
   simp[qX,results120,SE,BW]
   (refine AL Ab Ab (AH @BW.eq_1) ?_;intros;refine Am ?_)
   refine Al.mk true (Sub.lit (by simp[BW])) (by simp)
   skip
  ·(refine AL Ab Ab (AH @BW.eq_1) ?_;intros;refine Am ?_)
   refine Al.mk true (Sub.lit (by simp[BW])) (by simp)
   skip
 ·exact Az Ab Ab (AH @BW.eq_1)
def Zw : Ann:=⟨[],[⟨1,[3],[],[]⟩]⟩
theorem UY (k:Int) (hk:k=2\/k=3) (s:ByteArray):Af prog 121 [.sl 3 32 [BW k s 0]] (.str s):=by
 refine Ae [] Zw func121 call121 ntmps121 mxd (AB @Zw.eq_1 results121) rfl (fun qJ B qX qQ=> ?_);clear qJ;simp only[Aq]
 rcases hk with rfl | rfl
 ·exact Az Ab Ab (AH @BW.eq_1)
 ·exact Az Ab Ab (AH @BW.eq_1)
def tB : Ann:=⟨[],[]⟩
theorem PC (k:Int) (hk:k=2\/k=3) (s:ByteArray) (hs:s.size<=16):Af prog 74 [.sl 3 32 [BW k s 0]] (.int .i64 0):=by
 refine Ae [] tB func74 call74 ntmps74 mxd (AB @tB.eq_1 results74) rfl (fun qJ B qX qQ=> ?_);clear qJ;simp only[Aq];have e1:=Rz k s;have e2:=UY k hk s;have g1:¬(2048:Int)<s.size:=by omega
 exact Az (AB e1 e2) Ab (AH g1)
theorem Ci_ {k:Int} {s:ByteArray} (h:Du k s=true):s.size<=16:=by
 unfold Du at h
 split at h<;>(simp only[BU,aL0,decide_eq_true_eq]at h;exact h.1.1.2)
def tC : Ann:=⟨[],[]⟩
theorem Tn (k:Int) (hk:k=2\/k=3) (s:ByteArray):Af prog 44 [.sl 3 32 [BW k s 0]] (.int .i64 (if Du k s then 0 else 170)):=by
 refine Ae [] tC func44 call44 ntmps44 mxd (AB @tC.eq_1 results44) rfl (fun qJ B qX qQ=> ?_);clear qJ;simp only[Aq];have e1:=SM k hk s;cases hT:Du k s
 ·rw[hT]at e1;exact Az (AH e1) Ab Ab
 ·rw[hT]at e1;have e2:=PC k hk s (Ci_ hT);exact Az (AB e1 e2) Ab Ab
def Zv : Ann:=⟨[],[]⟩
theorem Ta (l:List ByteArray) (s:ByteArray):Af prog 171 [Bz l,.str s] (.int .i64 (El l s)):=by
 refine Ae [] Zv func171 call171 ntmps171 mxd (AB @Zv.eq_1 results171) rfl (fun qJ B qX qQ=> ?_);have qU:=Rn qJ.1;clear qJ;simp only[Aq];obtain⟨R,hR⟩:∃R,R=El l s:=⟨_,rfl⟩;rw[<-hR]
 (refine AL Ab Ab Ab ?_;intros;refine Am ?_)
 refine Ai (X:={k:Nat//k<=l.length/\∀i x,i<k->l[i]? =some x->(s==x)=false}) (fun x=>⟨[(0,Bz l),(1,.str s),(5,.int .i64 x.1)],[]⟩) (fun x=>l.length-x.1) ⟨0,by simp⟩ (Sub.lit (by simp)) ?_;rintro⟨k,hk,zX⟩
 by_cases qV:k<l.length
 ·obtain⟨x,hx,qB,vD⟩:=Ap qV;cases hb:s==x
  ·have qM:(x==s)=false:=by rw[eD0]at hb |-;simp at hb |-;exact fun h=>hb h.symm
   (refine AL Ab Ab (Lj @Be.eq_1 qV qB hx qM) ?_;intros;refine Am ?_)
   exact Al.mk ⟨k+1,by omega,Yz hx hb zX⟩ (Sub.lit (by simp[])) (by simp;omega)
   skip
  ·have qM:(x==s)=true:=by simp at hb |-;exact hb.symm
   have nI:R=k:=by rw[hR];exact OO qV (by rw[qB];exact(by simpa using hb:s=x).symm) zX
   subst nI;exact Az Ab Ab (Lj @Be.eq_1 qV qB hx qM)
 ·have qZ:k=l.length:=by omega
  subst qZ;have nI:R= -1:=by rw[hR];exact OP zX
  subst nI;exact Az Ab Ab Ab
def xF : Ann:=⟨[],[]⟩
theorem Rx (l:List ByteArray) (s:ByteArray):Af prog 58 [Bz l,.str s] (.bool (decide (s∈l))):=by
 refine Ae [] xF func58 call58 ntmps58 mxd (AB @xF.eq_1 results58) rfl (fun qJ B qX qQ=> ?_);have qU:=Rn qJ.1;clear qJ;simp only[Aq];obtain⟨R,hR⟩:∃R,R=decide (s∈l):=⟨_,rfl⟩;rw[<-hR]
 (refine AL Ab Ab Ab ?_;intros;refine Am ?_)
 refine Ai (X:={k:Nat//k<=l.length/\R=decide (s∈l.drop k)}) (fun x=>⟨[(0,Bz l),(1,.str s),(5,.int .i64 x.1)],[]⟩) (fun x=>l.length-x.1) ⟨0,by simp[hR]⟩ (Sub.lit (by simp)) ?_;clear hR;rintro⟨k,hk,hR⟩
 by_cases qV:k<l.length
 ·obtain⟨x,hx,qB,vD⟩:=Ap qV;rw[aR0 qV,qB]at hR;cases hb:x==s
  ·have qF:¬s=x:=fun e=>by subst e;simp at hb
   have wY:R=decide (s∈l.drop (k+1)):=by rw[hR];simp[qF]
   (refine AL Ab Ab (Lj @Be.eq_1 qV qB hx hb) ?_;intros;refine Am ?_)
   exact Al.mk ⟨k+1,by omega,wY⟩ (Sub.lit (by simp[])) (by simp;omega)
   skip
  ·have he:s=x:=by simp at hb;exact hb.symm
   have wY:R=true:=by rw[hR,he];simp
   subst wY;exact Az Ab Ab (Lj @Be.eq_1 qV qB hx hb)
 ·have qZ:k=l.length:=by omega
  subst qZ;rw[bU0]at hR;have wY:R=false:=by rw[hR];simp
  subst wY;exact Az Ab Ab Ab
theorem DJ_ (l:List ByteArray) (s:ByteArray):Bj prog (.func 58) [.osl 0 0,.str s] [⟨0,0,.row 9 1 16 (l.map Be)⟩] (.bool (decide (s∈l))) [⟨0,0,.row 9 1 16 (l.map Be)⟩] :=
 SJ rfl (Rx l s)
def WI : Ann:=⟨[17],[]⟩
theorem Fp (g:List Rul):Af prog 22 [Au g] (Bz (AD g)):=by
 refine Ae [3] WI func22 call22 ntmps22 mxd (AB @WI.eq_1 results22) rfl (fun qJ B qX qQ=> ?_);have hs:g.length*40<=150000000000000:=by have:=qJ.1;simp only[Ev,aJ0]at this;exact this.1
 clear qJ;simp only[Aq]
 (refine AL Ab Ab Ab ?_;intros;refine Am ?_)
 refine BM 3 3 9 1 16 (by simp[qX,results22,WI]) (fun n=> ?_);refine Ai (X:={i:Nat//i<=g.length}) (fun i=>⟨[(0,Au g),(3,.osl 3 1),(4,.int .i64 i.1)],[⟨3,1,.row 9 1 16 ((AD (g.take i.1)).map Be)⟩]⟩) (fun i=>g.length-i.1) ⟨0,by omega⟩ (Sub.lit (by simp[AD])) ?_;rintro⟨i,hi⟩;simp only
 by_cases qV:i<g.length
 ·obtain⟨r,hr,qW,bL⟩:=Ap qV;have wK:=OX hr;have hl:=Je (g.take i);rw[aY0]at hl;obtain⟨T,hT⟩:∃T,T=AD (g.take i):=⟨_,rfl⟩;rw[<-hT]at wK hl |-;have e1:=DJ_ T r.h;have z1:(T.length+1)*16<=150000000000000:=by omega
  have z2:T.length+1<=9223372036854775807:=by omega
  unfold Io at wK
  by_cases hm:r.h∈T
  ·rw[if_pos hm]at wK;rw[decide_eq_true hm]at e1
   (refine AL Ab (AH (JA [(3,0)] [] e1)) (IF @Ba.eq_1 qV hr qW) ?_;intros;refine Am ?_)
   refine Al.mk ⟨i+1,by omega⟩ (Sub.lit (by simp[wK])) (by simp;omega)
   skip
  ·rw[if_neg hm]at wK;rw[decide_eq_false hm]at e1
   (refine AL Ab (AH (JA [(3,0)] [] e1)) (Jm @Ba.eq_1 qV hr qW z1 z2) ?_;intros;refine Am ?_)
   refine Al.mk ⟨i+1,by omega⟩ (Sub.lit (by simp[wK,Be])) (by simp;omega)
   skip
 ·have qZ:i=g.length:=by omega
  subst qZ;rw[aU0];exact Az Ab Ab Ab
def WG : Ann:=⟨[],[]⟩
theorem VQ (l:List ByteArray) (p:ByteArray) (qI:(l.length+1)*16<=150000000000000):Af prog 90 [Bz l,.str p] (Bz (DM NS l p)):=by
 refine Ae [50] WG func90 call90 ntmps90 mxd (AB @WG.eq_1 results90) rfl (fun qJ B qX qQ=> ?_);clear qJ;simp only[Aq];obtain⟨r,hr⟩:∃r,r=DM NS l p:=⟨_,rfl⟩;rw[<-hr]
 (refine AL Ab Ab Ab ?_;intros;refine Am ?_)
 refine BM 5 50 9 1 16 (by simp[qX,results90,WG]) (fun n=> ?_);refine Ai (X:={x:Nat×Bool×List ByteArray//x.1<=l.length/\x.2.2.length<=x.1+(if x.2.1 then 1 else 0)/\x.2.2++(if x.2.1 then l.drop x.1 else DM NS (l.drop x.1) p)=r}) (fun x=>⟨[(0,Bz l),(1,.str p),(5,.osl 50 1),(6,.bool x.1.2.1),(7,.int .i64 x.1.1)],[⟨50,1,.row 9 1 16 (x.1.2.2.map Be)⟩]⟩) (fun x=>l.length-x.1.1) ⟨(0,false,[]),by simp[hr]⟩ (Sub.lit (by simp)) ?_
 rintro⟨⟨k,b,R⟩,hk,hR,wE⟩;simp only at hk hR wE |-;clear hr
 by_cases qV:k<l.length
 ·obtain⟨q,hq,wB,mN⟩:=Ap qV;rw[aR0 qV,wB]at wE;cases b
  ·simp only[aQ0,if_false,DM,dH0]at hR wE;have zQ:(R.length+1)*16<=150000000000000:=Nat.le_trans (aW0 16 (by omega)) qI;have vT:R.length<=9223372036854775806:=by omega
   have mV:(R.length+1+1)*16<=150000000000000:=Nat.le_trans (aW0 16 (by omega)) qI;have mJ:R.length+1<=9223372036854775806:=by omega
   cases hc:CO q p
   ·have jH:Op.bytesLess q.data.toList p.data.toList=false:=hc;rw[if_neg (show ¬NS q p<0 by rw[Gs,hc];simp)]at wE
    by_cases he:q=p
    ·subst he;rw[if_neg (show ¬NS q q<0 by rw[Gs,Fe];simp)]at wE
     (refine AL Ab Ab (KG @Be.eq_1 qV wB jH zQ vT mV mJ) ?_;intros;refine Am ?_)
     refine Al.mk ⟨(k+1,true,R++[q]),show k+1<=l.length/\(R++[q]).length<=k+1+_/\_ from ⟨by omega,by simp;omega,by simpa using wE⟩⟩ (Sub.lit (by simp[Be])) (by simp;omega)
     skip
    ·have vS:(q==p)=false:=by simpa using he
     have hlp:CO p q=true:=by
      cases h2:CO p q
      ·exact absurd (KM hc h2) he
      ·rfl
     rw[if_pos (Gs.2 hlp)]at wE
     (refine AL Ab Ab (WJ @Be.eq_1 qV wB jH vS zQ vT mV mJ) ?_;intros;refine Am ?_)
     refine Al.mk ⟨(k+1,true,R++[p,q]),show k+1<=l.length/\(R++[p,q]).length<=k+1+_/\_ from ⟨by omega,by simp;omega,by simpa using wE⟩⟩ (Sub.lit (by simp[Be])) (by simp;omega)
     skip
   ·have jH:Op.bytesLess q.data.toList p.data.toList=true:=hc;rw[if_pos (Gs.2 hc)]at wE
    (refine AL Ab Ab (KG @Be.eq_1 qV wB jH zQ vT mV mJ) ?_;intros;refine Am ?_)
    refine Al.mk ⟨(k+1,false,R++[q]),show k+1<=l.length/\(R++[q]).length<=k+1+_/\_ from ⟨by omega,by simp;omega,by simpa using wE⟩⟩ (Sub.lit (by simp[Be])) (by simp;omega)
    skip
  ·simp only[if_true]at hR wE;have zQ:(R.length+1)*16<=150000000000000:=Nat.le_trans (aW0 16 (by omega)) qI;have vT:R.length<=9223372036854775806:=by omega
   (refine AL Ab Ab (Lj @Be.eq_1 qV wB zQ vT) ?_;intros;refine Am ?_)
   refine Al.mk ⟨(k+1,true,R++[q]),show k+1<=l.length/\(R++[q]).length<=k+1+_/\_ from ⟨by omega,by simp;omega,by simpa using wE⟩⟩ (Sub.lit (by simp[Be])) (by simp;omega)
   skip
 ·have vH:k=l.length:=by omega
  subst vH;rw[bU0]at wE;cases b
  ·simp only[aQ0,if_false,DM,dH0]at hR wE;subst wE;have zQ:(R.length+1)*16<=150000000000000:=Nat.le_trans (aW0 16 (by omega)) qI;have vT:R.length<=9223372036854775806:=by omega
   exact Az Ab Ab (CL @Be.eq_1 zQ vT)
  ·simp only[if_true,bR0]at hR wE;subst wE;exact Az Ab Ab (AH @Be.eq_1)
def Pt (es:List ByteArray):List ByteArray:=es.foldl (DM NS) []
theorem Uf (es:List ByteArray):Pt es=EW es:=by
 obtain⟨h1,h2⟩:=Kp IP_ es [] List.Pairwise.nil;refine oT (h1.imp fun {a b} h=>Gs.1 h) fun x=> ?_
 unfold Pt;rw[h2];simp
theorem Bg_ (es:List ByteArray) (s:ByteArray):Pt (es++[s])=DM NS (Pt es) s:=by unfold Pt;rw[dF0];rfl
theorem Pr (k:Int) (g:List Rul) (i:Nat):(AK k (g.take i)).length<=(AK k g).length:=by
 have h:AK k g=AK k (g.take i)++AK k (g.drop i):=by
  unfold AK;rw[<-dO0,List.take_append_drop]
 rw[h,aD0];omega
def WH : Ann:=⟨[],[]⟩
theorem Mo (g:List Rul) (k:Int) (hn:((AK k g).length+1)*16<=150000000000000):Af prog 59 [Au g,.int .i64 k] (Bz (EW (AK k g))):=by
 rw[<-Uf];refine Ae [] WH func59 call59 ntmps59 mxd (AB @WH.eq_1 results59) rfl (fun qJ B qX qQ=> ?_);have bW:=Ke qJ.1
 have mP:∀r∈g,r.b.length<9223372036854775807:=fun r hr=>by
  have h1:=qJ.1;obtain⟨i,hi,rfl⟩:=bW0 hr;have h2:xW (g.map Ba):=by simp only[Ev]at h1;exact h1.2.2
  have h3:=aR h2 (aI0 hi);simp only[Ba,KI]at h3;exact PY h3.2.1
 clear qJ;simp only[Aq]
 (refine AL Ab Ab Ab ?_;intros;refine Am ?_)
 refine Gp_ 5 1 16 (by simp[qX,results59,WH]) ?_;refine Ai (X:={i:Nat//i<=g.length}) (fun i=>⟨[(0,Au g),(1,.int .i64 k),(5,Bz (Pt (AK k (g.take i.1)))),(6,.int .i64 i.1)],[]⟩) (fun i=>g.length-i.1) ⟨0,by omega⟩ (Sub.lit (by simp[AK,Pt])) ?_;rintro⟨i,hi⟩;simp only
 by_cases qV:i<g.length
 ·obtain⟨r,hr,qW,bL⟩:=Ap qV;have wK:=OS (k:=k) hr;have jS:=mP r bL;have nO:=Pr k g (i+1);rw[wK,aD0]at nO;obtain⟨N,hN⟩:∃N,N=AK k (g.take i):=⟨_,rfl⟩;rw[<-hN]at wK nO |-
  (refine AL Ab Ab (IF @Ba.eq_1 qV hr qW) ?_;intros;refine Am ?_)
  refine Ai (X:={j:Nat//j<=r.b.length}) (fun j=>⟨[(0,Au g),(1,.int .i64 k),(5,Bz (Pt (N++Cp k (r.b.take j.1)))),(6,.int .i64 i),(7,.int .i64 j.1)],[]⟩) (fun j=>r.b.length-j.1) ⟨0,by omega⟩ (Sub.lit (by simp[Cp])) ?_;rintro⟨j,hj⟩;simp only
  by_cases qL:j<r.b.length
  ·obtain⟨x,hx,qB,vD⟩:=Ap qL;have htj:=OR (k:=k) hx
   have hjl:(Cp k (r.b.take j)).length<=(Cp k r.b).length:=by
    unfold Cp;rw[aJ0,aJ0];exact((List.take_sublist j r.b).filter _).length_le
   obtain⟨E,hE⟩:∃E,E=N++Cp k (r.b.take j):=⟨_,rfl⟩;have mC:N++Cp k (r.b.take (j+1))=E++(if x.k=k then [x.s]else []):=by rw[htj,hE,aS0]
   have hEl:(Pt E).length<=(AK k g).length:=by
    rw[Uf];have:=HR E;rw[hE,aD0]at this;rw[<-hE]at this;omega
   rw[<-hE]
   by_cases hk:x.k=k
   ·rw[if_pos hk]at mC;have wO:=Bg_ E x.s;rw[<-mC]at wO;have e1:=VQ (Pt E) x.s (Nat.le_trans (aW0 16 (by omega)) hn);rw[<-wO]at e1;obtain⟨W,hW⟩:∃W,W=Pt E:=⟨_,rfl⟩;obtain⟨W2,hW2⟩:∃W2,W2=Pt (N++Cp k (r.b.take (j+1))):=⟨_,rfl⟩;rw[<-hW,<-hW2]at e1;rw[<-hW]
    (refine AL (AH e1) Ab (WJ @Ba.eq_1 @Bo.eq_1 qV hr qW qL hx qB hk) ?_;intros;refine Am ?_)
    refine Al.mk ⟨j+1,by omega⟩ (Sub.lit (by simp only[<-hW2];simp)) (by simp;omega)
    skip
   ·have vH:(x.k==k)=false:=by simpa using hk
    rw[if_neg hk,bR0]at mC
    (refine AL Ab Ab (Ml @Ba.eq_1 @Bo.eq_1 qV hr qW qL hx qB hk vH) ?_;intros;refine Am ?_)
    refine Al.mk ⟨j+1,by omega⟩ (Sub.lit (by simp only[mC];simp)) (by simp;omega)
    skip
  ·have qZ:j=r.b.length:=by omega
   subst qZ;rw[aU0]
   (refine AL Ab Ab (IF @Ba.eq_1 qV hr qW) ?_;intros;refine Am ?_)
   refine Al.mk ⟨i+1,by omega⟩ (Sub.lit (by simp only[wK];simp)) (by simp;omega)
   skip
 ·have qZ:i=g.length:=by omega
  subst qZ;rw[aU0];exact Az Ab Ab Ab
def xG : Ann:=⟨[],[]⟩
theorem JW (g:List Rul) (hn:((AK 3 g).length+1)*16<=150000000000000):Af prog 24 [Au g] (Bz (AG g)):=by
 refine Ae [] xG func24 call24 ntmps24 mxd (AB @xG.eq_1 results24) rfl (fun qJ B qX qQ=> ?_);clear qJ;simp only[Aq];have e1:=Mo g 3 hn;unfold AG;exact Az (AH e1) Ab Ab
def Gz (g:List Rul) (j:Nat):Nat:=(((EW (AK 2 g)).take j).filter fun s=> !decide (s∈AD g)).length
theorem iQ (g:List Rul):Gz g (EW (AK 2 g)).length=(CP g).length:=by unfold Gz CP;rw[aU0]
theorem AP_ (g:List Rul) (j:Nat):Gz g j<=j:=by
 unfold Gz;exact Nat.le_trans (cM0 _ _) (List.length_take_le _ _)
theorem Yh {g:List Rul} {j:Nat} {s:ByteArray} (h:(EW (AK 2 g))[j]? =some s):Gz g (j+1)=Gz g j+(if s∈AD g then 0 else 1):=by
 unfold Gz;rw[bM0,h,dI0,aD0]
 by_cases hs:s∈AD g<;>simp[hs]
def xH : Ann:=⟨[],[]⟩
theorem NW (g:List Rul) (hn:((AK 2 g).length+1)*16<=150000000000000):Af prog 23 [Au g] (.int .i64 (CP g).length):=by
 refine Ae [] xH func23 call23 ntmps23 mxd (AB @xH.eq_1 results23) rfl (fun qJ B qX qQ=> ?_);clear qJ;simp only[Aq];have e1:=Fp g;have e2:=Mo g 2 hn;have wZ:=iQ g;have pX:=HR (AK 2 g);have cG:=fun j s=>Yh (g:=g) (j:=j) (s:=s)
 have yD:=AP_ g;obtain⟨U,hU⟩:∃U,U=EW (AK 2 g):=⟨_,rfl⟩;obtain⟨Hh,hH⟩:∃Hh,Hh=AD g:=⟨_,rfl⟩;rw[<-hU]at e2 wZ pX cG;rw[<-hH]at e1 cG;rw[<-wZ]
 (refine AL (AB e1 e2) Ab Ab ?_;intros;refine Am ?_)
 refine Ai (X:={j:Nat//j<=U.length}) (fun j=>⟨[(3,Bz Hh),(4,Bz U),(5,.int .i64 (Gz g j.1)),(6,.int .i64 j.1)],[]⟩) (fun j=>U.length-j.1) ⟨0,by omega⟩ (Sub.lit (by simp[Gz])) ?_;rintro⟨j,hj⟩;simp only
 by_cases qV:j<U.length
 ·obtain⟨s,hs,gI,_⟩:=Ap qV;have h1:=cG j s hs;have h2:=yD j;have e3:=Rx Hh s;have w1:IntKind.i64.wrap ((Gz g j:Int)+1)=(Gz g j:Int)+1:=wq;have w2:IntKind.i64.wrap ((j:Int)+1)=(j:Int)+1:=wq
  by_cases hm:s∈Hh
  ·rw[if_pos hm,dH0]at h1;rw[decide_eq_true hm]at e3
   (refine AL (AH e3) Ab (Lj @Be.eq_1 qV hs gI w2) ?_;intros;refine Am ?_)
   refine Al.mk ⟨j+1,by omega⟩ (Sub.lit (by simp[h1])) (by simp;omega)
   skip
  ·rw[if_neg hm]at h1;rw[decide_eq_false hm]at e3
   (refine AL (AH e3) Ab (Jm @Be.eq_1 qV hs gI w1 w2) ?_;intros;refine Am ?_)
   refine Al.mk ⟨j+1,by omega⟩ (Sub.lit (by simp[h1])) (by simp;omega)
   skip
 ·have qZ:j=U.length:=by omega
  subst qZ;exact Az Ab Ab Ab
end Go.Proofs.Wy
end
