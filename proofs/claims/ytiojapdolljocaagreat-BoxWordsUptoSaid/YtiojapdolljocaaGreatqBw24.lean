/- Parts of a proof, laid together: RY4, WE0, WR2, WR3, BN3. -/
import Derived.Test.YtiojapdolljocaaGreatqBw15
import Derived.Test.YtiojapdolljocaaGreatqBw16
import Derived.Test.YtiojapdolljocaaGreatqBw19
import Derived.Test.YtiojapdolljocaaGreatqBw21
import Derived.Test.YtiojapdolljocaaGreatqBw22
import Derived.Test.YtiojapdolljocaaGreatqBw23
set_option linter.unusedSimpArgs false
set_option maxHeartbeats 8000000
set_option linter.unusedVariables false
set_option linter.unusedSectionVars false
section
namespace Go.Proofs.Wy
open Go Go.Dm Tryz
variable [DMode]
attribute [local irreducible] DW Bh Bk
set_option maxRecDepth 100000
theorem Ap_ {ks:List RT} (h:Fs ks=true) (i:Nat):Fs (ks.take i)=true:=by
 have:=OT (ks.take i) (ks.drop i);rw[List.take_append_drop,h]at this;simpa using (by simpa using this.symm:Fs (ks.take i)=true/\Fs (ks.drop i)=true).1
def Ki (x:Nd) (ks:List RT) (i:Nat):ByteArray:=if i=0 then x.s else Ft (Di x.k (ks.take i)) (Ml x.k)
theorem Nq (x:Nd) (ks:List RT):Ki x ks 0=x.s:=rfl
theorem Cb_ {x:Nd} {ks:List RT} {u:RT} (h:ks[0]? =some u):Ki x ks 1=IR x.k u.x.k (CI u):=by
 unfold Ki;rw[if_neg (by omega),show ks.take 1=[u] by rw[bR0,h];simp,FC,Ln];rfl
theorem uQ {x:Nd} {ks:List RT} {i:Nat} {u:RT} (hi:0<i) (h:ks[i]? =some u):Ki x ks (i+1)=Ki x ks i++Ml x.k++IR x.k u.x.k (CI u):=by
 unfold Ki;rw[if_neg (by omega),if_neg (by omega),Sq h];obtain⟨hl,_⟩:=aF0.1 h
 have qB:Di x.k (ks.take i)≠[]:=fun e=>by
  have:=congrArg List.length e;rw[Po,aW0]at this;simp only[List.length_nil]at this;omega
 cases hx:Di x.k (ks.take i)with
 | nil=>exact absurd hx qB
 | cons y r =>
  show (r++[_]).foldl (Dd (Ml x.k)) y=_
  rw[cV0];rfl
theorem uS {x:Nd} {ks:List RT} (qO:Fs ks=true) (hs:x.s.size<=16) (i:Nat):(Ki x ks i).size<=16+24*(Ah ks).length:=by
 unfold Ki
 split
 ·omega
 ·have h1:=HS (Di x.k (ks.take i)) (Ml x.k) (Hr _);have h2:=(JB x.k (ks.take i) (Ap_ qO i)).1;have h3:=Se ks i;omega
theorem Dk_ {x:Nd} (h:CL x=true) (h2:¬(x.k=2\/x.k=3)):x.s=⟨#[]⟩:=by
 unfold CL Zi at h;rw[if_neg (fun e=>h2 (.inl e)),if_neg (fun e=>h2 (.inr e))]at h
 repeat' split at h
 all_goals simp only[aM0,decide_eq_true_eq,bE0]at h
 all_goals first | exact h.1 | (exact absurd h (by simp))
theorem Sx (x:ByteArray):x++(⟨#[]⟩:ByteArray)=x:=by
 apply Hq
 simp[ByteArray.data_append]
def Ym : Ann:=⟨[],[]⟩
theorem Ny : ∀(n:Nat) (t:RT) (l:List Nd) (p:Nat),(flat t).length=n->At l p t->l.length<=1572864->Ag prog 120 [Bi l,.int .i64 p] (.str (CI t)):=by
 intro n
 induction n using Nat.strongRecOn with
 | ind n ih =>
 intro t l p hn ht hs;obtain⟨x,ks⟩:=t;have kk:=NG l p x ks ht hs;obtain⟨hm,cW,qO⟩:=BJ ht.ok;obtain⟨g0,gl,ge⟩:=ht.head;simp only[RT.x]at g0;have g0':l[p]'gl=x:=(aF0.1 g0).2;have zG:(flat (.mk x ks)).length=(Ah ks).length+1:=by rw[Ax,List.length_cons]
 have vJ:=Dx ks;have hk9:ks.length<=1572864:=by omega
 have dL:∀i u,ks[i]? =some u->Ag prog 120 [Bi l,.int .i64 (CA p ks i)] (.str (CI u))/\l[CA p ks i]? =some u.x/\(CI u).size<=37748736:=fun i u hu=>by
  have hm:=JN (bJ0 hu);have hu2:=(ht.kid hu).1;have h3:=(GP u hu2.ok).2;exact⟨ih (flat u).length (by omega) u l _ rfl hu2 hs,hu2.head.1,by omega⟩
 have wW:∀i,i<ks.length->_:=fun i h=>Xb (p:=p) (ks:=ks) (i:=i) h
 have hacs:=uS (x:=x) qO (MQ hm);have dJ:=MQ hm;have jF:16+24*(Ah ks).length<=37748756:=by omega
 rw[OI];unfold Xd at kk;obtain⟨D,hD⟩:∃D,D=(List.range ks.length).map fun i=>KT (CA p ks i):=⟨_,rfl⟩
 have yT:D.length=ks.length:=by rw[hD];simp
 have jY:Bq D=0:=by rw[hD];exact Uz p ks _
 rw[<-hD]at kk wW;have h6:x.k=6\/x.k=7\/x.k=8->ks.length=1:=fun h=>by obtain⟨u,rfl⟩:=OP ht.ok h;rfl
 have h8:¬x.k=1->¬(x.k=2\/x.k=3)->¬x.k=5->x.k=4\/x.k=6\/x.k=7\/x.k=8:=fun a b c=>by have:=MS hm;omega
 have bQ:x.k=2\/x.k=3->ks.length=0:=fun h=>by rw[IY ht.ok h];rfl
 have yO:¬x.k=1->¬(x.k=2\/x.k=3)->1<=ks.length:=fun a b=>by have:=MR hm a b;omega
 have hemp:¬(x.k=2\/x.k=3)->x.s=⟨#[]⟩:=Dk_ hm;clear hD ih ht ge hn qO hm;have z0:(⟨#[]⟩:ByteArray).size=0:=rfl;have z1:(⟨#[37]⟩:ByteArray).size=1:=rfl;have z2:(⟨#[32]⟩:ByteArray).size=1:=rfl;have z3:(⟨#[32,124,32]⟩:ByteArray).size=3:=rfl;have z4:(⟨#[40]⟩:ByteArray).size=1:=rfl;have z5:(⟨#[41]⟩:ByteArray).size=1:=rfl;have z6:(⟨#[42]⟩:ByteArray).size=1:=rfl;have z7:(⟨#[43]⟩:ByteArray).size=1:=rfl;have z8:(⟨#[63]⟩:ByteArray).size=1:=rfl
 have m1:1<=maxLen:=by decide
 have m3:3<=maxLen:=by decide
 have mbig:100000000<=maxLen:=by decide
 refine Ad [] Ym func120 call120 ntmps120 mxd (Az @Ym.eq_1 results120) rfl (fun qJ B qX qQ=> ?_);clear qJ;simp only[Ap]
 by_cases k1:x.k=1
 ·rw[if_pos k1];exact AA Ac Ac (OB @Bu.eq_1 g0 g0' gl z1 m1 k1)
 rw[if_neg k1];obtain⟨R,hR⟩:∃R,R=(if x.k=2\/x.k=3 then x.s else Ft (Di x.k ks) (Ml x.k)++Zw x.k):=⟨_,rfl⟩;rw[<-hR];have k1':(x.k==1)=false:=by simpa using k1
 (refine Ba (AQ kk) Ac (Rp @Bu.eq_1 g0 g0' gl k1 k1') ?_;intros;refine Al ?_)
 refine An (X:={i:Nat//i<=ks.length}) (fun i=>⟨[(0,Bi l),(5,.int .i64 x.k),(6,.str (Ki x ks i.1)),(7,.sl 1 8 D),(8,.int .i64 i.1)],[]⟩) (fun i=>ks.length-i.1) ⟨0,by omega⟩ (Sub.lit (by simp[Nq,jY])) ?_;rintro⟨i,hi⟩;simp only
 by_cases qV:i<ks.length
 ·have k2:¬(x.k=2\/x.k=3):=fun h=>by have:=bQ h;omega
  have gZ:=hemp k2;obtain⟨u,hu,vB,_⟩:=Ar qV;obtain⟨e1,gu,vO⟩:=dL i u hu;have hr:=wW i qV;have wQ:i<D.length:=by omega
  have gN:IntKind.i64.wrap ((i:Int)+1)=(i:Int)+1:=wq;have wG:D[i]'wQ=[.int .i64 (CA p ks i:Int)]:=(aF0.1 hr).2;have hac:=hacs i;obtain⟨q,hq⟩:∃q,q=CA p ks i:=⟨_,rfl⟩;rw[<-hq]at e1 hr wG gu;have gq:q<l.length:=(aF0.1 gu).1;have gu':l[q]'gq=u.x:=(aF0.1 gu).2;have vP:IR x.k u.x.k (CI u)=if Ai_ x.k u.x.k then ⟨#[40]⟩++CI u++⟨#[41]⟩else CI u:=rfl
  have wM:Ki x ks (i+1)=(if i=0 then ⟨#[]⟩else Ki x ks i++Ml x.k)++IR x.k u.x.k (CI u):=by
   by_cases h0:i=0
   ·subst h0;rw[if_pos rfl,Ls];exact Cb_ hu
   ·rw[if_neg h0];exact uQ (by omega) hu
  have hz:i=0->Ki x ks i=⟨#[]⟩:=fun h=>by rw[h,Nq,gZ]
  obtain⟨s,jX⟩:∃s,s=CI u:=⟨_,rfl⟩;rw[<-jX]at e1 vO vP wM;obtain⟨P,hP⟩:∃P,P=IR x.k u.x.k s:=⟨_,rfl⟩;rw[<-hP]at vP wM;obtain⟨a,ha⟩:∃a,a=Ki x ks i:=⟨_,rfl⟩;rw[<-ha]at hac wM hz |-;have y3:1+s.size<=maxLen:=by omega
  have y4:1+s.size+1<=maxLen:=by omega
  have y5:a.size+3<=maxLen:=by omega
  have y6:a.size+1<=maxLen:=by omega
  have y7:a.size+P.size<=maxLen:=by
   have:=(JI x.k u.x.k s).2;rw[<-hP]at this;omega
  have y8:a.size+3+P.size<=maxLen:=by
   have:=(JI x.k u.x.k s).2;rw[<-hP]at this;omega
  have y9:a.size+1+P.size<=maxLen:=by omega
  unfold Ai_ at vP;clear jX ha hP;unfold Ml at wM
  by_cases h0:i=0
  ·have wC:¬(0:Int)<(i:Int):=by omega
   rw[if_pos h0,Ls]at wM;have ha0:=hz h0;subst ha0;have w1:⟨#[]⟩++P=P:=Ls P;have y7':P.size<=maxLen:=by omega
   by_cases p5:u.x.k=5
   ·simp[p5]at vP;subst vP;simp only[aP0,z4,z5]at y7'
    (refine Ba (AQ e1) Ac (Az (Mv @Bu.eq_1 gu gu' gq wQ yT gN hr wG qV wC p5 z0 z4 z5 m1) (Lj y3 y4 y7' w1 @aP0)) ?_;intros;refine Al ?_)
    refine Ak.mk ⟨i+1,by omega⟩ (Sub.lit (by simp[wM,jY])) (by simp;omega)
    skip
   ·have p5':(u.x.k==5)=false:=by simpa using p5
    by_cases p4:u.x.k=4
    ·by_cases q5:x.k=5
     ·simp[p4,q5]at vP;subst vP
      (refine Ba (AQ e1) Ac (Az (Mv @Bu.eq_1 gu gu' gq wQ yT gN hr wG qV wC p4 p5 p5' q5 z0) (Np z4 z5 m1 y3 y4 y7' w1 @aP0)) ?_;intros;refine Al ?_)
      refine Ak.mk ⟨i+1,by omega⟩ (Sub.lit (by simp[wM,jY,q5])) (by simp;omega)
      skip
     ·have q5':(x.k==5)=false:=by simpa using q5
      simp[p4,q5]at vP;subst vP;simp only[aP0,z4,z5]at y7'
      (refine Ba (AQ e1) Ac (Az (Mv @Bu.eq_1 gu gu' gq wQ yT gN hr wG qV wC p4 p5 p5' q5 q5') (uN z0 z4 z5 m1 y3 y4 y7' w1 @aP0)) ?_;intros;refine Al ?_)
      refine Ak.mk ⟨i+1,by omega⟩ (Sub.lit (by simp[wM,jY])) (by simp;omega)
      skip
    ·have p4':(u.x.k==4)=false:=by simpa using p4
     simp[p4,p5]at vP;subst vP
     (refine Ba (AQ e1) Ac (Az (Mv @Bu.eq_1 gu gu' gq wQ yT gN hr wG qV wC p4 p4' p5 p5' z0) (Np z4 z5 m1 y3 y4 y7' w1 @aP0)) ?_;intros;refine Al ?_)
     refine Ak.mk ⟨i+1,by omega⟩ (Sub.lit (by simp[wM,jY])) (by simp;omega)
     skip
  ·have wC:(0:Int)<(i:Int):=by omega
   rw[if_neg h0]at wM;clear hz
   by_cases q5:x.k=5
   ·rw[if_pos q5]at wM;have q4':(x.k==4)=false:=by simp[q5]
    by_cases p5:u.x.k=5
    ·simp[p5]at vP;subst vP;simp only[aP0,z4,z5]at y8
     (refine go2 (AQ e1) Ac (Az (Mv @Bu.eq_1 gu gu' gq wQ yT gN hr wG qV wC p5 q5 q4' z0 z3) (uN z4 z5 m1 m3 y3 y4 y5 y8 @aP0)) ?_ ?_<;>(intros;refine Al ?_))
     refine Ak.mk ⟨i+1,by omega⟩ (Sub.lit (by simp[wM,jY,q5])) (by simp;omega);exact AA (AQ e1) Ac Ac
    ·have p5':(u.x.k==5)=false:=by simpa using p5
     simp[p5,q5]at vP;subst vP
     by_cases p4:u.x.k=4
     ·(refine go2 (AQ e1) Ac (Az (Mv @Bu.eq_1 gu gu' gq wQ yT gN hr wG qV wC p5 p5' p4 q5 q4') (Sm z0 z3 z4 z5 m1 m3 y3 y4 y5 y8 @aP0)) ?_ ?_<;>(intros;refine Al ?_))
      refine Ak.mk ⟨i+1,by omega⟩ (Sub.lit (by simp[wM,jY,q5])) (by simp;omega);exact AA (AQ e1) Ac Ac
     ·have p4':(u.x.k==4)=false:=by simpa using p4
      (refine go2 (AQ e1) Ac (Az (Mv @Bu.eq_1 gu gu' gq wQ yT gN hr wG qV wC p5 p5' p4 p4' q5) (eO q4' z0 z3 z4 z5 m1 m3 y3 y4 y5 y8 @aP0)) ?_ ?_<;>(intros;refine Al ?_))
      refine Ak.mk ⟨i+1,by omega⟩ (Sub.lit (by simp[wM,jY,q5])) (by simp;omega);exact AA (AQ e1) Ac Ac
   ·have q5':(x.k==5)=false:=by simpa using q5
    have q4:x.k=4:=by
     rcases (show x.k=4\/x.k=6\/x.k=7\/x.k=8 from h8 k1 k2 q5)with h | h
     ·exact h
     ·have:=h6 h;omega
    rw[if_neg q5,if_pos q4]at wM
    by_cases p5:u.x.k=5
    ·simp[p5]at vP;subst vP;simp only[aP0,z4,z5]at y9
     (refine go2 (AQ e1) Ac (Az (Mv @Bu.eq_1 gu gu' gq wQ yT gN hr wG qV wC p5 q5 q5' q4 z0) (uN z2 z4 z5 m1 y3 y4 y6 y9 @aP0)) ?_ ?_<;>(intros;refine Al ?_))
     refine Ak.mk ⟨i+1,by omega⟩ (Sub.lit (by simp[wM,jY,q4])) (by simp;omega);exact AA (AQ e1) Ac Ac
    ·have p5':(u.x.k==5)=false:=by simpa using p5
     by_cases p4:u.x.k=4
     ·simp[p4,q5]at vP;subst vP;simp only[aP0,z4,z5]at y9
      (refine go2 (AQ e1) Ac (Az (Mv @Bu.eq_1 gu gu' gq wQ yT gN hr wG qV wC p4 p5 p5' q5 q5') (Sm q4 z0 z2 z4 z5 m1 y3 y4 y6 y9 @aP0)) ?_ ?_<;>(intros;refine Al ?_))
      refine Ak.mk ⟨i+1,by omega⟩ (Sub.lit (by simp[wM,jY,q4])) (by simp;omega);exact AA (AQ e1) Ac Ac
     ·have p4':(u.x.k==4)=false:=by simpa using p4
      simp[p4,p5]at vP;subst vP
      (refine go2 (AQ e1) Ac (Az (Mv @Bu.eq_1 gu gu' gq wQ yT gN hr wG qV wC p4 p4' p5 p5' q5) (eO q5' q4 z0 z2 z4 z5 m1 y3 y4 y6 y9 @aP0)) ?_ ?_<;>(intros;refine Al ?_))
      refine Ak.mk ⟨i+1,by omega⟩ (Sub.lit (by simp[wM,jY,q4])) (by simp;omega);exact AA (AQ e1) Ac Ac
 ·have qN:i=ks.length:=by omega
  subst qN;have hac:=hacs ks.length
  have zZ:(if x.k=2\/x.k=3 then x.s else Ft (Di x.k ks) (Ml x.k)++Zw x.k)=Ki x ks ks.length++Zw x.k:=by
   by_cases k2:x.k=2\/x.k=3
   ·rw[if_pos k2,bQ k2,Nq];have:Zw x.k=⟨#[]⟩:=by unfold Zw;rw[if_neg (by omega),if_neg (by omega),if_neg (by omega)]
    rw[this,Sx]
   ·rw[if_neg k2];unfold Ki;rw[if_neg (by have:=yO k1 k2;omega),aT0]
  rw[zZ]at hR;clear zZ;obtain⟨a,ha⟩:∃a,a=Ki x ks ks.length:=⟨_,rfl⟩;rw[<-ha]at hac hR |-;have y6:a.size+1<=maxLen:=by omega
  have y0:a.size<=maxLen:=by omega
  unfold Zw at hR
  by_cases j6:x.k=6
  ·rw[if_pos j6]at hR;subst hR;exact AA Ac Ac (OB yT j6 z6 y6 y0 m1 @aP0)
  ·have j6':(x.k==6)=false:=by simpa using j6
   by_cases j7:x.k=7
   ·rw[if_neg j6,if_pos j7]at hR;subst hR;exact AA Ac Ac (uN yT j6 j6' j7 z7 y6 y0 m1 @aP0)
   ·have j7':(x.k==7)=false:=by simpa using j7
    by_cases j8:x.k=8
    ·rw[if_neg j6,if_neg j7,if_pos j8]at hR;subst hR;exact AA Ac Ac (Sm yT j6 j6' j7 j7' j8 z8 y6 y0 m1 @aP0)
    ·have j8':(x.k==8)=false:=by simpa using j8
     rw[if_neg j6,if_neg j7,if_neg j8,Sx]at hR;subst hR;exact AA Ac Ac (Rq yT j6 j6' j7 j7' j8 j8' y6 y0 m1)
def Yl : Ann:=⟨[],[]⟩
theorem Rc (t:RT) (ht:DR t=true) (hs:(flat t).length<=1572864):Ag prog 187 [Bi (flat t)] (.int .i64 (CN t)):=by
 refine Ad [] Yl func187 call187 ntmps187 mxd (Az @Yl.eq_1 results187) rfl (fun qJ B qX qQ=> ?_);clear qJ;simp only[Ap];have k1:=Jg _ t (flat t) 0 rfl (At.top ht) hs;have k2:=Ny _ t (flat t) 0 rfl (At.top ht) hs;unfold CN;obtain⟨T,hT⟩:∃T,T=CI t:=⟨_,rfl⟩;rw[<-hT]at k2 |-
 by_cases c1:16<Iv t
 ·have d1:(16:Int)<(Iv t:Int):=by omega
  exact AA (Az k1 k2) Ac (Az c1 d1)
 ·have d1:¬(16:Int)<(Iv t:Int):=by omega
  by_cases c2:2048<T.size
  ·have d2:(2048:Int)<(T.size:Int):=by omega
   exact AA (Az k1 k2) Ac (JV c1 d1 c2 d2)
  ·have d2:¬(2048:Int)<(T.size:Int):=by omega
   exact AA (Az k1 k2) Ac (JV c1 d1 c2 d2)
def Hx : Ann:=⟨[],[]⟩
theorem PQ (t:RT) (ht:DR t=true) (h:(flat t).length<=2048):Ag prog 125 [Bi (flat t)] (.int .i64 (CN t)):=by
 refine Ad [] Hx func125 call125 ntmps125 mxd (Az @Hx.eq_1 results125) rfl (fun qJ B qX qQ=> ?_);clear qJ;simp only[Ap];have k1:=Er (flat t) (by omega);rw[EM ht]at k1;have k2:=Rc t ht (by omega);have d1:¬(2048:Int)<((flat t).length:Int):=by omega
 have d2:¬2048<(flat t).length:=by omega
 exact AA (Az k1 k2) Ac (Az d1 d2)
theorem PR (l:List Nd) (h:2048<l.length):Ag prog 125 [Bi l] (.int .i64 3):=by
 refine Ad [] Hx func125 call125 ntmps125 mxd (Az @Hx.eq_1 results125) rfl (fun qJ B qX qQ=> ?_);clear qJ;simp only[Ap];have d1:(2048:Int)<(l.length:Int):=by omega
 exact AA Ac Ac (Az d1 h)
theorem RU (l:List Nd) (h:l.length<=2048) (hw:CY l=false):Ag prog 125 [Bi l] (.int .i64 170):=by
 refine Ad [] Hx func125 call125 ntmps125 mxd (Az @Hx.eq_1 results125) rfl (fun qJ B qX qQ=> ?_);clear qJ;simp only[Ap];have k1:=Er l (by omega);rw[hw]at k1;have d1:¬(2048:Int)<(l.length:Int):=by omega
 have d2:¬2048<l.length:=by omega
 exact AA (AQ k1) Ac (Az d1 d2)
def Yn : Ann:=⟨[],[]⟩
theorem Oh (t:RT) (ht:DR t=true) (hs:(flat t).length<=1572864):Ag prog 119 [Bi (flat t)] (.int .i64 (Iv t)):=by
 refine Ad [] Yn func119 call119 ntmps119 mxd (Az @Yn.eq_1 results119) rfl (fun qJ B qX qQ=> ?_);clear qJ;simp only[Ap];have k1:=Er (flat t) hs;rw[EM ht]at k1;have k2:=Jg _ t (flat t) 0 rfl (At.top ht) hs;exact AA (Az k1 k2) Ac Ac
def BK (n:Nat):List DVal:=[.int .i64 (n:Int)]
@[simp] theorem CO_ (n:Nat):AJ (BK n)=0:=by simp[BK,AJ,mx]
abbrev Ey (l:List Nat):DVal:= .sl 1 8 (l.map BK)
@[simp] theorem FU_ (l:List Nat):Bq (l.map BK)=0:=HM _ CO_ l
theorem Ec_ (l:List Nd) (n:Nat):(Uj l n).length<=n:=by unfold Uj;exact Nat.le_trans (dD0 _ _) (by simp)
def Vh : Ann:=⟨[],[]⟩
theorem RY (l:List Nd):Ag prog 89 [Bi l] (Ey (Uj l l.length)):=by
 refine Ad [50] Vh func89 call89 ntmps89 mxd (Az @Vh.eq_1 results89) rfl (fun qJ B qX qQ=> ?_);have hs:l.length*32<=150000000000000:=by have:=qJ.1;simp only[Ef,aO0]at this;exact this.1
 clear qJ;simp only[Ap]
 (refine Ba Ac Ac Ac ?_;intros;refine Al ?_)
 refine CD 3 50 3 1 8 (by simp[qX,results89,Vh]) (fun n=> ?_);refine An (X:={i:Nat//i<=l.length}) (fun i=>⟨[(0,Bi l),(3,.osl 50 1),(4,.int .i64 i.1)],[⟨50,1,.row 3 1 8 ((Uj l i.1).map BK)⟩]⟩) (fun i=>l.length-i.1) ⟨0,by omega⟩ (Sub.lit (by simp[Ag_])) ?_;rintro⟨i,hi⟩;simp only
 by_cases qV:i<l.length
 ·obtain⟨x,hx,qG,_⟩:=Ar qV;have hsc:=Wo hx;have zU:=Ec_ l i;obtain⟨T,hT⟩:∃T,T=Uj l i:=⟨_,rfl⟩;rw[<-hT]at hsc zU |-;have z1:(T.length+1)*8<=150000000000000:=by omega
  have z2:T.length+1<=9223372036854775807:=by omega
  by_cases ho:BQ x=true
  ·rw[if_pos ho]at hsc;have hd:(T.map BK)++[[.int .i64 (i:Int)]]=(Uj l (i+1)).map BK:=by rw[hsc,bI0];rfl
   rcases Cm.1 ho with k | k
   ·(refine Ba Ac Ac (OB @Bu.eq_1 qV hx qG k z1 z2) ?_;intros;refine Al ?_)
    refine Ak.mk ⟨i+1,by omega⟩ (Sub.lit (by simp[hd])) (by simp;omega)
    skip
   ·(refine Ba Ac Ac (OB @Bu.eq_1 qV hx qG k z1 z2) ?_;intros;refine Al ?_)
    refine Ak.mk ⟨i+1,by omega⟩ (Sub.lit (by simp[hd])) (by simp;omega)
    skip
  ·rw[if_neg ho,bO0]at hsc;have k2:¬x.k=2:=fun e=>ho (Cm.2 (.inl e))
   have k3:¬x.k=3:=fun e=>ho (Cm.2 (.inr e))
   have k2':(x.k==2)=false:=by simpa using k2
   have k3':(x.k==3)=false:=by simpa using k3
   (refine Ba Ac Ac (Np @Bu.eq_1 qV hx qG k2 k2' k3 k3') ?_;intros;refine Al ?_)
   refine Ak.mk ⟨i+1,by omega⟩ (Sub.lit (by simp[hsc])) (by simp;omega)
   skip
 ·have qN:i=l.length:=by omega
  subst qN;exact AA Ac Ac Ac
def Yo : Ann:=⟨[],[]⟩
theorem TY (l:List Nd):Ag prog 118 [Bi l] (.int .i64 (Ir l)):=by
 refine Ad [] Yo func118 call118 ntmps118 mxd (Az @Yo.eq_1 results118) rfl (fun qJ B qX qQ=> ?_);clear qJ;simp only[Ap];have k1:=RY l;have h1:(Uj l l.length).length=Ir l:=by rw[iO (Nat.le_refl _),LJ,LB]
 exact AA (AQ k1) Ac (AQ h1)
end Go.Proofs.Wy
end
section
namespace Go.Proofs.Wy
open Go Go.Dm Tryz
variable [DMode]
theorem Gm_ : OrdC ME:=by
 refine⟨fun _ _=>rL,fun x y=> ?_,fun x y z h1 h2=> ?_⟩
 ·rw[FL];unfold ME;cases h1:CG x y
  ·cases h2:CG y x<;>simp
  ·rw[PA h1];simp
 ·rw[FL]at *;exact IF h1 h2
end Go.Proofs.Wy
end
section
namespace Go.Proofs.Wy
open Go Go.Dm Tryz
variable [DMode]
attribute [local irreducible] DW Bh Bk
set_option maxRecDepth 100000
def Rl : Ann:=⟨[],[⟨5,[6],[],[]⟩,⟨7,[22],[],[]⟩]⟩
theorem Qu (k:Int) (s:ByteArray):Ag prog 157 [.sl 3 32 [BP k s 0]] (.int .i64 1):=by
 refine Ad [] Rl func157 call157 ntmps157 mxd (Az @Rl.eq_1 results157) rfl (fun qJ B qX qQ=> ?_);clear qJ;simp only[Ap]
 (refine Ba Ac Ac (AQ @BP.eq_1) ?_;intros;refine Al ?_)
 refine An (X:=Bool) (fun x=>⟨[(0,.sl 3 32 [BP k s 0]),(3,.int .i64 (if x then 1 else 0)),(4,if x then .sl 1 8 []else .nilsl),(7,.sl 3 32 [BP k s 0]),(8,.int .i64 1),(9,.int .i64 (if x then 1 else 0))],[]⟩) (fun x=>if x then 0 else 1) false (Sub.lit (by simp[BP])) ?_;rintro (_ | _)
 ·(refine Ba Ac Ac (AQ @BP.eq_1) ?_;intros;refine Al ?_)
  refine An (X:=Bool) (fun x=>⟨[(0,.sl 3 32 [BP k s 0]),(3,.int .i64 1),(4,if x then .sl 1 8 []else .sl 1 8 [[.int .i64 0]]),(7,.sl 3 32 [BP k s 0]),(8,.int .i64 1),(9,.int .i64 0)],[]⟩) (fun x=>if x then 0 else 1) false (Sub.lit (by simp[BP])) ?_;rintro (_ | _)
  ·(refine Ba Ac Ac (AQ @BP.eq_1) ?_;intros;refine Al ?_)
   simp[qX,results157,Rl,BP]
   (refine Ba Ac Ac (AQ @BP.eq_1) ?_;intros;refine Al ?_)
   refine Ak.mk true (Sub.lit (by simp[BP])) (by simp)
   skip
  ·(refine Ba Ac Ac (AQ @BP.eq_1) ?_;intros;refine Al ?_)
   refine Ak.mk true (Sub.lit (by simp[BP])) (by simp)
   skip
 ·exact AA Ac Ac (AQ @BP.eq_1)
def XV : Ann:=⟨[],[⟨1,[3],[],[]⟩]⟩
theorem TN (k:Int) (hk:k=2\/k=3) (s:ByteArray):Ag prog 158 [.sl 3 32 [BP k s 0]] (.str s):=by
 refine Ad [] XV func158 call158 ntmps158 mxd (Az @XV.eq_1 results158) rfl (fun qJ B qX qQ=> ?_);clear qJ;simp only[Ap]
 rcases hk with rfl | rfl
 ·exact AA Ac Ac (AQ @BP.eq_1)
 ·exact AA Ac Ac (AQ @BP.eq_1)
def XW : Ann:=⟨[],[]⟩
theorem Oz (k:Int) (hk:k=2\/k=3) (s:ByteArray) (hs:s.size<=16):Ag prog 104 [.sl 3 32 [BP k s 0]] (.int .i64 0):=by
 refine Ad [] XW func104 call104 ntmps104 mxd (Az @XW.eq_1 results104) rfl (fun qJ B qX qQ=> ?_);clear qJ;simp only[Ap];have e1:=Qu k s;have e2:=TN k hk s;have g1:¬(2048:Int)<s.size:=by omega
 exact AA (Az e1 e2) Ac (AQ g1)
theorem xJ {k:Int} {s:ByteArray} (h:Da k s=true):s.size<=16:=by
 unfold Da at h
 split at h<;>(simp only[BN,aM0,decide_eq_true_eq]at h;exact h.1.1.2)
def nS : Ann:=⟨[],[]⟩
theorem Sj (k:Int) (hk:k=2\/k=3) (s:ByteArray):Ag prog 55 [.sl 3 32 [BP k s 0]] (.int .i64 (if Da k s then 0 else 170)):=by
 refine Ad [] nS func55 call55 ntmps55 mxd (Az @nS.eq_1 results55) rfl (fun qJ B qX qQ=> ?_);clear qJ;simp only[Ap];have e1:=RK k hk s;cases hT:Da k s
 ·rw[hT]at e1;exact AA (AQ e1) Ac Ac
 ·rw[hT]at e1;have e2:=Oz k hk s (xJ hT);exact AA (Az e1 e2) Ac Ac

def oT : Ann:=⟨[],[]⟩
theorem Qs (l:List ByteArray) (s:ByteArray):Ag prog 86 [Bo l,.str s] (.bool (decide (s∈l))):=by
 refine Ad [] oT func86 call86 ntmps86 mxd (Az @oT.eq_1 results86) rfl (fun qJ B qX qQ=> ?_);have qY:=WU qJ.1;clear qJ;simp only[Ap];obtain⟨R,hR⟩:∃R,R=decide (s∈l):=⟨_,rfl⟩;rw[<-hR]
 (refine Ba Ac Ac Ac ?_;intros;refine Al ?_)
 refine An (X:={k:Nat//k<=l.length/\R=decide (s∈l.drop k)}) (fun x=>⟨[(0,Bo l),(1,.str s),(5,.int .i64 x.1)],[]⟩) (fun x=>l.length-x.1) ⟨0,by simp[hR]⟩ (Sub.lit (by simp)) ?_;clear hR;rintro⟨k,hk,hR⟩
 by_cases qV:k<l.length
 ·obtain⟨x,hx,qG,zJ⟩:=Ar qV;rw[aU0 qV,qG]at hR;cases hb:x==s
  ·have qB:¬s=x:=fun e=>by subst e;simp at hb
   have vQ:R=decide (s∈l.drop (k+1)):=by rw[hR];simp[qB]
   (refine Ba Ac Ac (Lj @AD.eq_1 qV qG hx hb) ?_;intros;refine Al ?_)
   exact Ak.mk ⟨k+1,by omega,vQ⟩ (Sub.lit (by simp[])) (by simp;omega)
   skip
  ·have he:s=x:=by simp at hb;exact hb.symm
   have vQ:R=true:=by rw[hR,he];simp
   subst vQ;exact AA Ac Ac (Lj @AD.eq_1 qV qG hx hb)
 ·have qN:k=l.length:=by omega
  subst qN;rw[cL0]at hR;have vQ:R=false:=by rw[hR];simp
  subst vQ;exact AA Ac Ac Ac
theorem Bc_ (l:List ByteArray) (s:ByteArray):Bl prog (.func 86) [.osl 0 0,.str s] [⟨0,0,.row 9 1 16 (l.map AD)⟩] (.bool (decide (s∈l))) [⟨0,0,.row 9 1 16 (l.map AD)⟩] :=
 RD rfl (Qs l s)
def Vk : Ann:=⟨[17],[]⟩
theorem Kq (g:List Rul):Ag prog 38 [AM g] (Bo (AE g)):=by
 refine Ad [3] Vk func38 call38 ntmps38 mxd (Az @Vk.eq_1 results38) rfl (fun qJ B qX qQ=> ?_);have hs:g.length*40<=150000000000000:=by have:=qJ.1;simp only[Ef,aO0]at this;exact this.1
 clear qJ;simp only[Ap]
 (refine Ba Ac Ac Ac ?_;intros;refine Al ?_)
 refine CD 3 3 9 1 16 (by simp[qX,results38,Vk]) (fun n=> ?_);refine An (X:={i:Nat//i<=g.length}) (fun i=>⟨[(0,AM g),(3,.osl 3 1),(4,.int .i64 i.1)],[⟨3,1,.row 9 1 16 ((AE (g.take i.1)).map AD)⟩]⟩) (fun i=>g.length-i.1) ⟨0,by omega⟩ (Sub.lit (by simp[AE])) ?_;rintro⟨i,hi⟩;simp only
 by_cases qV:i<g.length
 ·obtain⟨r,hr,wG,dU⟩:=Ar qV;have wA:=NJ hr;have hl:=HU (g.take i);rw[aW0]at hl;obtain⟨T,hT⟩:∃T,T=AE (g.take i):=⟨_,rfl⟩;rw[<-hT]at wA hl |-;have e1:=Bc_ T r.h;have z1:(T.length+1)*16<=150000000000000:=by omega
  have z2:T.length+1<=9223372036854775807:=by omega
  unfold Hg at wA
  by_cases hm:r.h∈T
  ·rw[if_pos hm]at wA;rw[decide_eq_true hm]at e1
   (refine Ba Ac (AQ (Ii [(3,0)] [] e1)) (JV @BO.eq_1 qV hr wG) ?_;intros;refine Al ?_)
   refine Ak.mk ⟨i+1,by omega⟩ (Sub.lit (by simp[wA])) (by simp;omega)
   skip
  ·rw[if_neg hm]at wA;rw[decide_eq_false hm]at e1
   (refine Ba Ac (AQ (Ii [(3,0)] [] e1)) (Rp @BO.eq_1 qV hr wG z1 z2) ?_;intros;refine Al ?_)
   refine Ak.mk ⟨i+1,by omega⟩ (Sub.lit (by simp[wA,AD])) (by simp;omega)
   skip
 ·have qN:i=g.length:=by omega
  subst qN;rw[aT0];exact AA Ac Ac Ac
def Rn : Ann:=⟨[],[]⟩
theorem UJ (l:List ByteArray) (p:ByteArray) (qD:(l.length+1)*16<=150000000000000):Ag prog 136 [Bo l,.str p] (Bo (Je ME l p)):=by
 refine Ad [50] Rn func136 call136 ntmps136 mxd (Az @Rn.eq_1 results136) rfl (fun qJ B qX qQ=> ?_);clear qJ;simp only[Ap];obtain⟨r,hr⟩:∃r,r=Je ME l p:=⟨_,rfl⟩;rw[<-hr]
 (refine Ba Ac Ac Ac ?_;intros;refine Al ?_)
 refine CD 5 50 9 1 16 (by simp[qX,results136,Rn]) (fun n=> ?_);refine An (X:={x:Nat×Bool×List ByteArray//x.1<=l.length/\x.2.2.length<=x.1+(if x.2.1 then 1 else 0)/\x.2.2++(if x.2.1 then l.drop x.1 else Je ME (l.drop x.1) p)=r}) (fun x=>⟨[(0,Bo l),(1,.str p),(5,.osl 50 1),(6,.bool x.1.2.1),(7,.int .i64 x.1.1)],[⟨50,1,.row 9 1 16 (x.1.2.2.map AD)⟩]⟩) (fun x=>l.length-x.1.1) ⟨(0,false,[]),by simp[hr]⟩ (Sub.lit (by simp)) ?_
 rintro⟨⟨k,b,R⟩,hk,hR,zX⟩;simp only at hk hR zX |-;clear hr
 by_cases qV:k<l.length
 ·obtain⟨q,hq,vH,hqm⟩:=Ar qV;rw[aU0 qV,vH]at zX;cases b
  ·simp only[bE0,if_false,Je,dC0]at hR zX;have fF:(R.length+1)*16<=150000000000000:=Nat.le_trans (aZ0 16 (by omega)) qD;have fC:R.length<=9223372036854775806:=by omega
   have dD:(R.length+1+1)*16<=150000000000000:=Nat.le_trans (aZ0 16 (by omega)) qD;have hz4:R.length+1<=9223372036854775806:=by omega
   cases hc:CG q p
   ·have mC:Op.bytesLess q.data.toList p.data.toList=false:=hc;rw[if_neg (show ¬ME q p<0 by rw[FL,hc];simp)]at zX
    by_cases he:q=p
    ·subst he;rw[if_neg (show ¬ME q q<0 by rw[FL,EN];simp)]at zX
     (refine Ba Ac Ac (Np @AD.eq_1 qV vH mC fF fC dD hz4) ?_;intros;refine Al ?_)
     refine Ak.mk ⟨(k+1,true,R++[q]),show k+1<=l.length/\(R++[q]).length<=k+1+_/\_ from ⟨by omega,by simp;omega,by simpa using zX⟩⟩ (Sub.lit (by simp[AD])) (by simp;omega)
     skip
    ·have vU:(q==p)=false:=by simpa using he
     have hlp:CG p q=true:=by
      cases h2:CG p q
      ·exact absurd (JD hc h2) he
      ·rfl
     rw[if_pos (FL.2 hlp)]at zX
     (refine Ba Ac Ac (uN @AD.eq_1 qV vH mC vU fF fC dD hz4) ?_;intros;refine Al ?_)
     refine Ak.mk ⟨(k+1,true,R++[p,q]),show k+1<=l.length/\(R++[p,q]).length<=k+1+_/\_ from ⟨by omega,by simp;omega,by simpa using zX⟩⟩ (Sub.lit (by simp[AD])) (by simp;omega)
     skip
   ·have mC:Op.bytesLess q.data.toList p.data.toList=true:=hc;rw[if_pos (FL.2 hc)]at zX
    (refine Ba Ac Ac (Np @AD.eq_1 qV vH mC fF fC dD hz4) ?_;intros;refine Al ?_)
    refine Ak.mk ⟨(k+1,false,R++[q]),show k+1<=l.length/\(R++[q]).length<=k+1+_/\_ from ⟨by omega,by simp;omega,by simpa using zX⟩⟩ (Sub.lit (by simp[AD])) (by simp;omega)
    skip
  ·simp only[if_true]at hR zX;have fF:(R.length+1)*16<=150000000000000:=Nat.le_trans (aZ0 16 (by omega)) qD;have fC:R.length<=9223372036854775806:=by omega
   (refine Ba Ac Ac (Lj @AD.eq_1 qV vH fF fC) ?_;intros;refine Al ?_)
   refine Ak.mk ⟨(k+1,true,R++[q]),show k+1<=l.length/\(R++[q]).length<=k+1+_/\_ from ⟨by omega,by simp;omega,by simpa using zX⟩⟩ (Sub.lit (by simp[AD])) (by simp;omega)
   skip
 ·have vI:k=l.length:=by omega
  subst vI;rw[cL0]at zX;cases b
  ·simp only[bE0,if_false,Je,dC0]at hR zX;subst zX;have fF:(R.length+1)*16<=150000000000000:=Nat.le_trans (aZ0 16 (by omega)) qD;have fC:R.length<=9223372036854775806:=by omega
   exact AA Ac Ac (HB @AD.eq_1 fF fC)
  ·simp only[if_true,bO0]at hR zX;subst zX;exact AA Ac Ac (AQ @AD.eq_1)
def Om (es:List ByteArray):List ByteArray:=es.foldl (Je ME) []
theorem SY (es:List ByteArray):Om es=EH es:=by
 obtain⟨h1,h2⟩:=NM Gm_ es [] List.Pairwise.nil;refine eV (h1.imp fun {a b} h=>FL.1 h) fun x=> ?_
 unfold Om;rw[h2];simp
theorem tF (es:List ByteArray) (s:ByteArray):Om (es++[s])=Je ME (Om es) s:=by unfold Om;rw[cV0];rfl
theorem Ol (k:Int) (g:List Rul) (i:Nat):(AK k (g.take i)).length<=(AK k g).length:=by
 have h:AK k g=AK k (g.take i)++AK k (g.drop i):=by
  unfold AK;rw[<-List.flatMap_append,List.take_append_drop]
 rw[h,aE0];omega
def Vj : Ann:=⟨[],[]⟩
theorem Lm (g:List Rul) (k:Int) (hn:((AK k g).length+1)*16<=150000000000000):Ag prog 94 [AM g,.int .i64 k] (Bo (EH (AK k g))):=by
 rw[<-SY];refine Ad [] Vj func94 call94 ntmps94 mxd (Az @Vj.eq_1 results94) rfl (fun qJ B qX qQ=> ?_);have dH:=IX qJ.1
 have dI:∀r∈g,r.b.length<9223372036854775807:=fun r hr=>by
  have h1:=qJ.1;obtain⟨i,hi,rfl⟩:=bU0 hr;have h2:pP (g.map BO):=by simp only[Ef]at h1;exact h1.2.2
  have h3:=Zj h2 (aB0 hi);simp only[BO,Iy]at h3;exact OX h3.2.1
 clear qJ;simp only[Ap]
 (refine Ba Ac Ac Ac ?_;intros;refine Al ?_)
 refine DJ_ 5 1 16 (by simp[qX,results94,Vj]) ?_;refine An (X:={i:Nat//i<=g.length}) (fun i=>⟨[(0,AM g),(1,.int .i64 k),(5,Bo (Om (AK k (g.take i.1)))),(6,.int .i64 i.1)],[]⟩) (fun i=>g.length-i.1) ⟨0,by omega⟩ (Sub.lit (by simp[AK,Om])) ?_;rintro⟨i,hi⟩;simp only
 by_cases qV:i<g.length
 ·obtain⟨r,hr,wG,dU⟩:=Ar qV;have wA:=NE (k:=k) hr;have hrl:=dI r dU;have hnl:=Ol k g (i+1);rw[wA,aE0]at hnl;obtain⟨N,hN⟩:∃N,N=AK k (g.take i):=⟨_,rfl⟩;rw[<-hN]at wA hnl |-
  (refine Ba Ac Ac (JV @BO.eq_1 qV hr wG) ?_;intros;refine Al ?_)
  refine An (X:={j:Nat//j<=r.b.length}) (fun j=>⟨[(0,AM g),(1,.int .i64 k),(5,Bo (Om (N++Ct k (r.b.take j.1)))),(6,.int .i64 i),(7,.int .i64 j.1)],[]⟩) (fun j=>r.b.length-j.1) ⟨0,by omega⟩ (Sub.lit (by simp[Ct])) ?_;rintro⟨j,hj⟩;simp only
  by_cases qK:j<r.b.length
  ·obtain⟨x,hx,qG,zJ⟩:=Ar qK;have htj:=ND (k:=k) hx
   have hjl:(Ct k (r.b.take j)).length<=(Ct k r.b).length:=by
    unfold Ct;rw[aO0,aO0];exact((List.take_sublist j r.b).filter _).length_le
   obtain⟨E,hE⟩:∃E,E=N++Ct k (r.b.take j):=⟨_,rfl⟩;have dE:N++Ct k (r.b.take (j+1))=E++(if x.k=k then [x.s]else []):=by rw[htj,hE,aS0]
   have hEl:(Om E).length<=(AK k g).length:=by
    rw[SY];have:=GO E;rw[hE,aE0]at this;rw[<-hE]at this;omega
   rw[<-hE]
   by_cases hk:x.k=k
   ·rw[if_pos hk]at dE;have qR:=tF E x.s;rw[<-dE]at qR;have e1:=UJ (Om E) x.s (Nat.le_trans (aZ0 16 (by omega)) hn);rw[<-qR]at e1;obtain⟨W,hW⟩:∃W,W=Om E:=⟨_,rfl⟩;obtain⟨W2,hW2⟩:∃W2,W2=Om (N++Ct k (r.b.take (j+1))):=⟨_,rfl⟩;rw[<-hW,<-hW2]at e1;rw[<-hW]
    (refine Ba (AQ e1) Ac (uN @BO.eq_1 @Bu.eq_1 qV hr wG qK hx qG hk) ?_;intros;refine Al ?_)
    refine Ak.mk ⟨j+1,by omega⟩ (Sub.lit (by simp only[<-hW2];simp)) (by simp;omega)
    skip
   ·have vI:(x.k==k)=false:=by simpa using hk
    rw[if_neg hk,bO0]at dE
    (refine Ba Ac Ac (Rq @BO.eq_1 @Bu.eq_1 qV hr wG qK hx qG hk vI) ?_;intros;refine Al ?_)
    refine Ak.mk ⟨j+1,by omega⟩ (Sub.lit (by simp only[dE];simp)) (by simp;omega)
    skip
  ·have qN:j=r.b.length:=by omega
   subst qN;rw[aT0]
   (refine Ba Ac Ac (JV @BO.eq_1 qV hr wG) ?_;intros;refine Al ?_)
   refine Ak.mk ⟨i+1,by omega⟩ (Sub.lit (by simp only[wA];simp)) (by simp;omega)
   skip
 ·have qN:i=g.length:=by omega
  subst qN;rw[aT0];exact AA Ac Ac Ac
def oV : Ann:=⟨[],[]⟩
theorem PD (g:List Rul) (hn:((AK 3 g).length+1)*16<=150000000000000):Ag prog 44 [AM g] (Bo (AH g)):=by
 refine Ad [] oV func44 call44 ntmps44 mxd (Az @oV.eq_1 results44) rfl (fun qJ B qX qQ=> ?_);clear qJ;simp only[Ap];have e1:=Lm g 3 hn;unfold AH;exact AA (AQ e1) Ac Ac
def FS (g:List Rul) (j:Nat):Nat:=(((EH (AK 2 g)).take j).filter fun s=> !decide (s∈AE g)).length
theorem ZZ (g:List Rul):FS g (EH (AK 2 g)).length=(Dc g).length:=by unfold FS Dc;rw[aT0]
theorem sN (g:List Rul) (j:Nat):FS g j<=j:=by
 unfold FS;exact Nat.le_trans (dD0 _ _) (List.length_take_le _ _)
theorem WL {g:List Rul} {j:Nat} {s:ByteArray} (h:(EH (AK 2 g))[j]? =some s):FS g (j+1)=FS g j+(if s∈AE g then 0 else 1):=by
 unfold FS;rw[bR0,h,dR0,aE0]
 by_cases hs:s∈AE g<;>simp[hs]
def oU : Ann:=⟨[],[]⟩
theorem MG (g:List Rul) (hn:((AK 2 g).length+1)*16<=150000000000000):Ag prog 74 [AM g] (.int .i64 (Dc g).length):=by
 refine Ad [] oU func74 call74 ntmps74 mxd (Az @oU.eq_1 results74) rfl (fun qJ B qX qQ=> ?_);clear qJ;simp only[Ap];have e1:=Kq g;have e2:=Lm g 2 hn;have qP:=ZZ g;have gW:=GO (AK 2 g);have bL:=fun j s=>WL (g:=g) (j:=j) (s:=s)
 have zU:=sN g;obtain⟨U,hU⟩:∃U,U=EH (AK 2 g):=⟨_,rfl⟩;obtain⟨Hh,hH⟩:∃Hh,Hh=AE g:=⟨_,rfl⟩;rw[<-hU]at e2 qP gW bL;rw[<-hH]at e1 bL;rw[<-qP]
 (refine Ba (Az e1 e2) Ac Ac ?_;intros;refine Al ?_)
 refine An (X:={j:Nat//j<=U.length}) (fun j=>⟨[(3,Bo Hh),(4,Bo U),(5,.int .i64 (FS g j.1)),(6,.int .i64 j.1)],[]⟩) (fun j=>U.length-j.1) ⟨0,by omega⟩ (Sub.lit (by simp[FS])) ?_;rintro⟨j,hj⟩;simp only
 by_cases qV:j<U.length
 ·obtain⟨s,hs,yM,_⟩:=Ar qV;have h1:=bL j s hs;have h2:=zU j;have e3:=Qs Hh s;have w1:IntKind.i64.wrap ((FS g j:Int)+1)=(FS g j:Int)+1:=wq;have w2:IntKind.i64.wrap ((j:Int)+1)=(j:Int)+1:=wq
  by_cases hm:s∈Hh
  ·rw[if_pos hm,dC0]at h1;rw[decide_eq_true hm]at e3
   (refine Ba (AQ e3) Ac (Lj @AD.eq_1 qV hs yM w2) ?_;intros;refine Al ?_)
   refine Ak.mk ⟨j+1,by omega⟩ (Sub.lit (by simp[h1])) (by simp;omega)
   skip
  ·rw[if_neg hm]at h1;rw[decide_eq_false hm]at e3
   (refine Ba (AQ e3) Ac (Rp @AD.eq_1 qV hs yM w1 w2) ?_;intros;refine Al ?_)
   refine Ak.mk ⟨j+1,by omega⟩ (Sub.lit (by simp[h1])) (by simp;omega)
   skip
 ·have qN:j=U.length:=by omega
  subst qN;exact AA Ac Ac Ac
end Go.Proofs.Wy
end
