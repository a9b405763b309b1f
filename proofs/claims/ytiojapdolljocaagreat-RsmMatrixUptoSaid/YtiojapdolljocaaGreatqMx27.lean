/- Parts of a proof, laid together: RY4, WE0, WR2, WR3, BN3. -/
import Derived.Test.YtiojapdolljocaaGreatqMx15
import Derived.Test.YtiojapdolljocaaGreatqMx18
import Derived.Test.YtiojapdolljocaaGreatqMx21
import Derived.Test.YtiojapdolljocaaGreatqMx22
import Derived.Test.YtiojapdolljocaaGreatqMx24
import Derived.Test.YtiojapdolljocaaGreatqMx25
import Derived.Test.YtiojapdolljocaaGreatqMx26
set_option linter.unusedSimpArgs false
set_option maxHeartbeats 8000000
set_option linter.unusedVariables false
set_option linter.unusedSectionVars false
section
namespace Go.Proofs.Wy
open Go Go.Dm Tryz
variable [DMode]
attribute [local irreducible] DW Bs Bt
set_option maxRecDepth 100000
theorem CE_ {ks:List RT} (h:FJ ks=true) (i:Nat):FJ (ks.take i)=true:=by
 have:=Pw (ks.take i) (ks.drop i);rw[List.take_append_drop,h]at this;simpa using (by simpa using this.symm:FJ (ks.take i)=true/\FJ (ks.drop i)=true).1
def KR (x:Nd) (ks:List RT) (i:Nat):ByteArray:=if i=0 then x.s else FK (Dl x.k (ks.take i)) (MU x.k)
theorem Ol (x:Nd) (ks:List RT):KR x ks 0=x.s:=rfl
theorem Ex_ {x:Nd} {ks:List RT} {u:RT} (h:ks[0]? =some u):KR x ks 1=JD x.k u.x.k (CR u):=by
 unfold KR;rw[if_neg (by omega),show ks.take 1=[u] by rw[bJ0,h];simp,FY,LP];rfl
theorem By_ {x:Nd} {ks:List RT} {i:Nat} {u:RT} (hi:0<i) (h:ks[i]? =some u):KR x ks (i+1)=KR x ks i++MU x.k++JD x.k u.x.k (CR u):=by
 unfold KR;rw[if_neg (by omega),if_neg (by omega),Tc h];obtain⟨hl,_⟩:=aB0.1 h
 have qF:Dl x.k (ks.take i)≠[]:=fun e=>by
  have:=congrArg List.length e;rw[PW,bA0]at this;simp only[List.length_nil]at this;omega
 cases hx:Dl x.k (ks.take i)with
 | nil=>exact absurd hx qF
 | cons y r =>
  show (r++[_]).foldl (Dh (MU x.k)) y=_
  rw[cY0];rfl
theorem Bz_ {x:Nd} {ks:List RT} (qW:FJ ks=true) (hs:x.s.size<=16) (i:Nat):(KR x ks i).size<=16+24*(Ak ks).length:=by
 unfold KR
 split
 ·omega
 ·have h1:=II (Dl x.k (ks.take i)) (MU x.k) (Il _);have h2:=(Kl x.k (ks.take i) (CE_ qW i)).1;have h3:=SS ks i;omega
theorem FE_ {x:Nd} (h:DO x=true) (h2:¬(x.k=2\/x.k=3)):x.s=⟨#[]⟩:=by
 unfold DO aN at h;rw[if_neg (fun e=>h2 (.inl e)),if_neg (fun e=>h2 (.inr e))]at h
 repeat' split at h
 all_goals simp only[aJ0,decide_eq_true_eq,aR0]at h
 all_goals first | exact h.1 | (exact absurd h (by simp))
theorem Tj (x:ByteArray):x++(⟨#[]⟩:ByteArray)=x:=by
 apply Ik
 simp[ByteArray.data_append]
def Zk : Ann:=⟨[],[]⟩
theorem Oo : ∀(n:Nat) (t:RT) (l:List Nd) (p:Nat),(flat t).length=n->At l p t->l.length<=1572864->Ae prog 120 [AU l,.int .i64 p] (.str (CR t)):=by
 intro n
 induction n using Nat.strongRecOn with
 | ind n ih =>
 intro t l p hn ht hs;obtain⟨x,ks⟩:=t;have kk:=El l p x ks ht hs;obtain⟨hm,hkn,qW⟩:=Cj ht.ok;obtain⟨g0,gl,ge⟩:=ht.head;simp only[RT.x]at g0;have g0':l[p]'gl=x:=(aB0.1 g0).2;have vP:(flat (.mk x ks)).length=(Ak ks).length+1:=by rw[AO,List.length_cons]
 have wR:=Ct ks;have hk9:ks.length<=1572864:=by omega
 have kY:∀i u,ks[i]? =some u->Ae prog 120 [AU l,.int .i64 (AP p ks i)] (.str (CR u))/\l[AP p ks i]? =some u.x/\(CR u).size<=37748736:=fun i u hu=>by
  have hm:=Em (bP0 hu);have hu2:=(ht.kid hu).1;have h3:=(HI u hu2.ok).2;exact⟨ih (flat u).length (by omega) u l _ rfl hu2 hs,hu2.head.1,by omega⟩
 have qK:∀i,i<ks.length->_:=fun i h=>Gv (p:=p) (ks:=ks) (i:=i) h
 have hacs:=Bz_ (x:=x) qW (NM hm);have mC:=NM hm;have fG:16+24*(Ak ks).length<=37748756:=by omega
 rw[Pn];unfold JM at kk;obtain⟨D,hD⟩:∃D,D=(List.range ks.length).map fun i=>HX (AP p ks i):=⟨_,rfl⟩
 have wQ:D.length=ks.length:=by rw[hD];simp
 have wI:Bp D=0:=by rw[hD];exact Ha p ks _
 rw[<-hD]at kk qK;have h6:x.k=6\/x.k=7\/x.k=8->ks.length=1:=fun h=>by obtain⟨u,rfl⟩:=Pt ht.ok h;rfl
 have h8:¬x.k=1->¬(x.k=2\/x.k=3)->¬x.k=5->x.k=4\/x.k=6\/x.k=7\/x.k=8:=fun a b c=>by have:=Kv hm;omega
 have hlf:x.k=2\/x.k=3->ks.length=0:=fun h=>by rw[JK ht.ok h];rfl
 have zR:¬x.k=1->¬(x.k=2\/x.k=3)->1<=ks.length:=fun a b=>by have:=NN hm a b;omega
 have hemp:¬(x.k=2\/x.k=3)->x.s=⟨#[]⟩:=FE_ hm;clear hD ih ht ge hn qW hm;have z0:(⟨#[]⟩:ByteArray).size=0:=rfl;have z1:(⟨#[37]⟩:ByteArray).size=1:=rfl;have z2:(⟨#[32]⟩:ByteArray).size=1:=rfl;have z3:(⟨#[32,124,32]⟩:ByteArray).size=3:=rfl;have z4:(⟨#[40]⟩:ByteArray).size=1:=rfl;have z5:(⟨#[41]⟩:ByteArray).size=1:=rfl;have z6:(⟨#[42]⟩:ByteArray).size=1:=rfl;have z7:(⟨#[43]⟩:ByteArray).size=1:=rfl;have z8:(⟨#[63]⟩:ByteArray).size=1:=rfl
 have m1:1<=maxLen:=by decide
 have m3:3<=maxLen:=by decide
 have mbig:100000000<=maxLen:=by decide
 refine Ac [] Zk func120 call120 ntmps120 mxd (Au @Zk.eq_1 results120) rfl (fun qJ B qX qQ=> ?_);clear qJ;simp only[Am]
 by_cases k1:x.k=1
 ·rw[if_pos k1];exact Av Ab Ab (Iw @Bq.eq_1 g0 g0' gl z1 m1 k1)
 rw[if_neg k1];obtain⟨R,hR⟩:∃R,R=(if x.k=2\/x.k=3 then x.s else FK (Dl x.k ks) (MU x.k)++aZ x.k):=⟨_,rfl⟩;rw[<-hR];have k1':(x.k==1)=false:=by simpa using k1
 (refine AG (AD kk) Ab (GN @Bq.eq_1 g0 g0' gl k1 k1') ?_;intros;refine Ah ?_)
 refine Ai (X:={i:Nat//i<=ks.length}) (fun i=>⟨[(0,AU l),(5,.int .i64 x.k),(6,.str (KR x ks i.1)),(7,.sl 1 8 D),(8,.int .i64 i.1)],[]⟩) (fun i=>ks.length-i.1) ⟨0,by omega⟩ (Sub.lit (by simp[Ol,wI])) ?_;rintro⟨i,hi⟩;simp only
 by_cases qV:i<ks.length
 ·have k2:¬(x.k=2\/x.k=3):=fun h=>by have:=hlf h;omega
  have hx0:=hemp k2;obtain⟨u,hu,vZ,_⟩:=Ao qV;obtain⟨e1,gu,vE⟩:=kY i u hu;have hr:=qK i qV;have qO:i<D.length:=by omega
  have wC:IntKind.i64.wrap ((i:Int)+1)=(i:Int)+1:=wq;have qG:D[i]'qO=[.int .i64 (AP p ks i:Int)]:=(aB0.1 hr).2;have hac:=hacs i;obtain⟨q,hq⟩:∃q,q=AP p ks i:=⟨_,rfl⟩;rw[<-hq]at e1 hr qG gu;have gq:q<l.length:=(aB0.1 gu).1;have gu':l[q]'gq=u.x:=(aB0.1 gu).2;have zY:JD x.k u.x.k (CR u)=if CA_ x.k u.x.k then ⟨#[40]⟩++CR u++⟨#[41]⟩else CR u:=rfl
  have wK:KR x ks (i+1)=(if i=0 then ⟨#[]⟩else KR x ks i++MU x.k)++JD x.k u.x.k (CR u):=by
   by_cases h0:i=0
   ·subst h0;rw[if_pos rfl,LW];exact Ex_ hu
   ·rw[if_neg h0];exact By_ (by omega) hu
  have hz:i=0->KR x ks i=⟨#[]⟩:=fun h=>by rw[h,Ol,hx0]
  obtain⟨s,yO⟩:∃s,s=CR u:=⟨_,rfl⟩;rw[<-yO]at e1 vE zY wK;obtain⟨P,hP⟩:∃P,P=JD x.k u.x.k s:=⟨_,rfl⟩;rw[<-hP]at zY wK;obtain⟨a,ha⟩:∃a,a=KR x ks i:=⟨_,rfl⟩;rw[<-ha]at hac wK hz |-;have y3:1+s.size<=maxLen:=by omega
  have y4:1+s.size+1<=maxLen:=by omega
  have y5:a.size+3<=maxLen:=by omega
  have y6:a.size+1<=maxLen:=by omega
  have y7:a.size+P.size<=maxLen:=by
   have:=(Kr x.k u.x.k s).2;rw[<-hP]at this;omega
  have y8:a.size+3+P.size<=maxLen:=by
   have:=(Kr x.k u.x.k s).2;rw[<-hP]at this;omega
  have y9:a.size+1+P.size<=maxLen:=by omega
  unfold CA_ at zY;clear yO ha hP;unfold MU at wK
  by_cases h0:i=0
  ·have wA:¬(0:Int)<(i:Int):=by omega
   rw[if_pos h0,LW]at wK;have ha0:=hz h0;subst ha0;have w1:⟨#[]⟩++P=P:=LW P;have y7':P.size<=maxLen:=by omega
   by_cases p5:u.x.k=5
   ·simp[p5]at zY;subst zY;simp only[aQ0,z4,z5]at y7'
    (refine AG (AD e1) Ab (Au (No @Bq.eq_1 gu gu' gq qO wQ wC hr qG qV wA p5 z0 z4 z5 m1) (Jh y3 y4 y7' w1 @aQ0)) ?_;intros;refine Ah ?_)
    refine Aj.mk ⟨i+1,by omega⟩ (Sub.lit (by simp[wK,wI])) (by simp;omega)
    skip
   ·have p5':(u.x.k==5)=false:=by simpa using p5
    by_cases p4:u.x.k=4
    ·by_cases q5:x.k=5
     ·simp[p4,q5]at zY;subst zY
      (refine AG (AD e1) Ab (Au (No @Bq.eq_1 gu gu' gq qO wQ wC hr qG qV wA p4 p5 p5' q5 z0) (KQ z4 z5 m1 y3 y4 y7' w1 @aQ0)) ?_;intros;refine Ah ?_)
      refine Aj.mk ⟨i+1,by omega⟩ (Sub.lit (by simp[wK,wI,q5])) (by simp;omega)
      skip
     ·have q5':(x.k==5)=false:=by simpa using q5
      simp[p4,q5]at zY;subst zY;simp only[aQ0,z4,z5]at y7'
      (refine AG (AD e1) Ab (Au (No @Bq.eq_1 gu gu' gq qO wQ wC hr qG qV wA p4 p5 p5' q5 q5') (Ut z0 z4 z5 m1 y3 y4 y7' w1 @aQ0)) ?_;intros;refine Ah ?_)
      refine Aj.mk ⟨i+1,by omega⟩ (Sub.lit (by simp[wK,wI])) (by simp;omega)
      skip
    ·have p4':(u.x.k==4)=false:=by simpa using p4
     simp[p4,p5]at zY;subst zY
     (refine AG (AD e1) Ab (Au (No @Bq.eq_1 gu gu' gq qO wQ wC hr qG qV wA p4 p4' p5 p5' z0) (KQ z4 z5 m1 y3 y4 y7' w1 @aQ0)) ?_;intros;refine Ah ?_)
     refine Aj.mk ⟨i+1,by omega⟩ (Sub.lit (by simp[wK,wI])) (by simp;omega)
     skip
  ·have wA:(0:Int)<(i:Int):=by omega
   rw[if_neg h0]at wK;clear hz
   by_cases q5:x.k=5
   ·rw[if_pos q5]at wK;have q4':(x.k==4)=false:=by simp[q5]
    by_cases p5:u.x.k=5
    ·simp[p5]at zY;subst zY;simp only[aQ0,z4,z5]at y8
     (refine go2 (AD e1) Ab (Au (No @Bq.eq_1 gu gu' gq qO wQ wC hr qG qV wA p5 q5 q4' z0 z3) (Ut z4 z5 m1 m3 y3 y4 y5 y8 @aQ0)) ?_ ?_<;>(intros;refine Ah ?_))
     refine Aj.mk ⟨i+1,by omega⟩ (Sub.lit (by simp[wK,wI,q5])) (by simp;omega);exact Av (AD e1) Ab Ab
    ·have p5':(u.x.k==5)=false:=by simpa using p5
     simp[p5,q5]at zY;subst zY
     by_cases p4:u.x.k=4
     ·(refine go2 (AD e1) Ab (Au (No @Bq.eq_1 gu gu' gq qO wQ wC hr qG qV wA p5 p5' p4 q5 q4') (Jn z0 z3 z4 z5 m1 m3 y3 y4 y5 y8 @aQ0)) ?_ ?_<;>(intros;refine Ah ?_))
      refine Aj.mk ⟨i+1,by omega⟩ (Sub.lit (by simp[wK,wI,q5])) (by simp;omega);exact Av (AD e1) Ab Ab
     ·have p4':(u.x.k==4)=false:=by simpa using p4
      (refine go2 (AD e1) Ab (Au (No @Bq.eq_1 gu gu' gq qO wQ wC hr qG qV wA p5 p5' p4 p4' q5) (oC q4' z0 z3 z4 z5 m1 m3 y3 y4 y5 y8 @aQ0)) ?_ ?_<;>(intros;refine Ah ?_))
      refine Aj.mk ⟨i+1,by omega⟩ (Sub.lit (by simp[wK,wI,q5])) (by simp;omega);exact Av (AD e1) Ab Ab
   ·have q5':(x.k==5)=false:=by simpa using q5
    have q4:x.k=4:=by
     rcases (show x.k=4\/x.k=6\/x.k=7\/x.k=8 from h8 k1 k2 q5)with h | h
     ·exact h
     ·have:=h6 h;omega
    rw[if_neg q5,if_pos q4]at wK
    by_cases p5:u.x.k=5
    ·simp[p5]at zY;subst zY;simp only[aQ0,z4,z5]at y9
     (refine go2 (AD e1) Ab (Au (No @Bq.eq_1 gu gu' gq qO wQ wC hr qG qV wA p5 q5 q5' q4 z0) (Ut z2 z4 z5 m1 y3 y4 y6 y9 @aQ0)) ?_ ?_<;>(intros;refine Ah ?_))
     refine Aj.mk ⟨i+1,by omega⟩ (Sub.lit (by simp[wK,wI,q4])) (by simp;omega);exact Av (AD e1) Ab Ab
    ·have p5':(u.x.k==5)=false:=by simpa using p5
     by_cases p4:u.x.k=4
     ·simp[p4,q5]at zY;subst zY;simp only[aQ0,z4,z5]at y9
      (refine go2 (AD e1) Ab (Au (No @Bq.eq_1 gu gu' gq qO wQ wC hr qG qV wA p4 p5 p5' q5 q5') (Jn q4 z0 z2 z4 z5 m1 y3 y4 y6 y9 @aQ0)) ?_ ?_<;>(intros;refine Ah ?_))
      refine Aj.mk ⟨i+1,by omega⟩ (Sub.lit (by simp[wK,wI,q4])) (by simp;omega);exact Av (AD e1) Ab Ab
     ·have p4':(u.x.k==4)=false:=by simpa using p4
      simp[p4,p5]at zY;subst zY
      (refine go2 (AD e1) Ab (Au (No @Bq.eq_1 gu gu' gq qO wQ wC hr qG qV wA p4 p4' p5 p5' q5) (oC q5' q4 z0 z2 z4 z5 m1 y3 y4 y6 y9 @aQ0)) ?_ ?_<;>(intros;refine Ah ?_))
      refine Aj.mk ⟨i+1,by omega⟩ (Sub.lit (by simp[wK,wI,q4])) (by simp;omega);exact Av (AD e1) Ab Ab
 ·have qZ:i=ks.length:=by omega
  subst qZ;have hac:=hacs ks.length
  have yA:(if x.k=2\/x.k=3 then x.s else FK (Dl x.k ks) (MU x.k)++aZ x.k)=KR x ks ks.length++aZ x.k:=by
   by_cases k2:x.k=2\/x.k=3
   ·rw[if_pos k2,hlf k2,Ol];have:aZ x.k=⟨#[]⟩:=by unfold aZ;rw[if_neg (by omega),if_neg (by omega),if_neg (by omega)]
    rw[this,Tj]
   ·rw[if_neg k2];unfold KR;rw[if_neg (by have:=zR k1 k2;omega),aW0]
  rw[yA]at hR;clear yA;obtain⟨a,ha⟩:∃a,a=KR x ks ks.length:=⟨_,rfl⟩;rw[<-ha]at hac hR |-;have y6:a.size+1<=maxLen:=by omega
  have y0:a.size<=maxLen:=by omega
  unfold aZ at hR
  by_cases j6:x.k=6
  ·rw[if_pos j6]at hR;subst hR;exact Av Ab Ab (Iw wQ j6 z6 y6 y0 m1 @aQ0)
  ·have j6':(x.k==6)=false:=by simpa using j6
   by_cases j7:x.k=7
   ·rw[if_neg j6,if_pos j7]at hR;subst hR;exact Av Ab Ab (Ut wQ j6 j6' j7 z7 y6 y0 m1 @aQ0)
   ·have j7':(x.k==7)=false:=by simpa using j7
    by_cases j8:x.k=8
    ·rw[if_neg j6,if_neg j7,if_pos j8]at hR;subst hR;exact Av Ab Ab (Jn wQ j6 j6' j7 j7' j8 z8 y6 y0 m1 @aQ0)
    ·have j8':(x.k==8)=false:=by simpa using j8
     rw[if_neg j6,if_neg j7,if_neg j8,Tj]at hR;subst hR;exact Av Ab Ab (LL wQ j6 j6' j7 j7' j8 j8' y6 y0 m1)
def Zj : Ann:=⟨[],[]⟩
theorem Sc (t:RT) (ht:Ew t=true) (hs:(flat t).length<=1572864):Ae prog 187 [AU (flat t)] (.int .i64 (Df t)):=by
 refine Ac [] Zj func187 call187 ntmps187 mxd (Au @Zj.eq_1 results187) rfl (fun qJ B qX qQ=> ?_);clear qJ;simp only[Am];have k1:=JQ _ t (flat t) 0 rfl (At.top ht) hs;have k2:=Oo _ t (flat t) 0 rfl (At.top ht) hs;unfold Df;obtain⟨T,hT⟩:∃T,T=CR t:=⟨_,rfl⟩;rw[<-hT]at k2 |-
 by_cases c1:16<Jk t
 ·have d1:(16:Int)<(Jk t:Int):=by omega
  exact Av (Au k1 k2) Ab (Au c1 d1)
 ·have d1:¬(16:Int)<(Jk t:Int):=by omega
  by_cases c2:2048<T.size
  ·have d2:(2048:Int)<(T.size:Int):=by omega
   exact Av (Au k1 k2) Ab (GV c1 d1 c2 d2)
  ·have d2:¬(2048:Int)<(T.size:Int):=by omega
   exact Av (Au k1 k2) Ab (GV c1 d1 c2 d2)
def It : Ann:=⟨[],[]⟩
theorem Qz (t:RT) (ht:Ew t=true) (h:(flat t).length<=2048):Ae prog 125 [AU (flat t)] (.int .i64 (Df t)):=by
 refine Ac [] It func125 call125 ntmps125 mxd (Au @It.eq_1 results125) rfl (fun qJ B qX qQ=> ?_);clear qJ;simp only[Am];have k1:=EA (flat t) (by omega);rw[EV ht]at k1;have k2:=Sc t ht (by omega);have d1:¬(2048:Int)<((flat t).length:Int):=by omega
 have d2:¬2048<(flat t).length:=by omega
 exact Av (Au k1 k2) Ab (Au d1 d2)
theorem QA (l:List Nd) (h:2048<l.length):Ae prog 125 [AU l] (.int .i64 3):=by
 refine Ac [] It func125 call125 ntmps125 mxd (Au @It.eq_1 results125) rfl (fun qJ B qX qQ=> ?_);clear qJ;simp only[Am];have d1:(2048:Int)<(l.length:Int):=by omega
 exact Av Ab Ab (Au d1 h)
theorem SD (l:List Nd) (h:l.length<=2048) (hw:Dd l=false):Ae prog 125 [AU l] (.int .i64 170):=by
 refine Ac [] It func125 call125 ntmps125 mxd (Au @It.eq_1 results125) rfl (fun qJ B qX qQ=> ?_);clear qJ;simp only[Am];have k1:=EA l (by omega);rw[hw]at k1;have d1:¬(2048:Int)<(l.length:Int):=by omega
 have d2:¬2048<l.length:=by omega
 exact Av (AD k1) Ab (Au d1 d2)
def Zl : Ann:=⟨[],[]⟩
theorem OU (t:RT) (ht:Ew t=true) (hs:(flat t).length<=1572864):Ae prog 119 [AU (flat t)] (.int .i64 (Jk t)):=by
 refine Ac [] Zl func119 call119 ntmps119 mxd (Au @Zl.eq_1 results119) rfl (fun qJ B qX qQ=> ?_);clear qJ;simp only[Am];have k1:=EA (flat t) hs;rw[EV ht]at k1;have k2:=JQ _ t (flat t) 0 rfl (At.top ht) hs;exact Av (Au k1 k2) Ab Ab
def Bb (n:Nat):List DVal:=[.int .i64 (n:Int)]
@[simp] theorem Fm_ (n:Nat):AL (Bb n)=0:=by simp[Bb,AL,mx]
abbrev Cz (l:List Nat):DVal:= .sl 1 8 (l.map Bb)
@[simp] theorem It_ (l:List Nat):Bp (l.map Bb)=0:=HT _ Fm_ l
theorem Gr_ (l:List Nd) (n:Nat):(FZ l n).length<=n:=by unfold FZ;exact Nat.le_trans (cI0 _ _) (by simp)
def Wc : Ann:=⟨[],[]⟩
theorem Ht (l:List Nd):Ae prog 89 [AU l] (Cz (FZ l l.length)):=by
 refine Ac [50] Wc func89 call89 ntmps89 mxd (Au @Wc.eq_1 results89) rfl (fun qJ B qX qQ=> ?_);have hs:l.length*32<=150000000000000:=by have:=qJ.1;simp only[FC,aN0]at this;exact this.1
 clear qJ;simp only[Am]
 (refine AG Ab Ab Ab ?_;intros;refine Ah ?_)
 refine BO 3 50 3 1 8 (by simp[qX,results89,Wc]) (fun n=> ?_);refine Ai (X:={i:Nat//i<=l.length}) (fun i=>⟨[(0,AU l),(3,.osl 50 1),(4,.int .i64 i.1)],[⟨50,1,.row 3 1 8 ((FZ l i.1).map Bb)⟩]⟩) (fun i=>l.length-i.1) ⟨0,by omega⟩ (Sub.lit (by simp[Cy_])) ?_;rintro⟨i,hi⟩;simp only
 by_cases qV:i<l.length
 ·obtain⟨x,hx,qA,_⟩:=Ao qV;have hsc:=QC hx;have yW:=Gr_ l i;obtain⟨T,hT⟩:∃T,T=FZ l i:=⟨_,rfl⟩;rw[<-hT]at hsc yW |-;have z1:(T.length+1)*8<=150000000000000:=by omega
  have z2:T.length+1<=9223372036854775807:=by omega
  by_cases ho:BR x=true
  ·rw[if_pos ho]at hsc;have hd:(T.map Bb)++[[.int .i64 (i:Int)]]=(FZ l (i+1)).map Bb:=by rw[hsc,bD0];rfl
   rcases BB.1 ho with k | k
   ·(refine AG Ab Ab (Iw @Bq.eq_1 qV hx qA k z1 z2) ?_;intros;refine Ah ?_)
    refine Aj.mk ⟨i+1,by omega⟩ (Sub.lit (by simp[hd])) (by simp;omega)
    skip
   ·(refine AG Ab Ab (Iw @Bq.eq_1 qV hx qA k z1 z2) ?_;intros;refine Ah ?_)
    refine Aj.mk ⟨i+1,by omega⟩ (Sub.lit (by simp[hd])) (by simp;omega)
    skip
  ·rw[if_neg ho,bO0]at hsc;have k2:¬x.k=2:=fun e=>ho (BB.2 (.inl e))
   have k3:¬x.k=3:=fun e=>ho (BB.2 (.inr e))
   have k2':(x.k==2)=false:=by simpa using k2
   have k3':(x.k==3)=false:=by simpa using k3
   (refine AG Ab Ab (KQ @Bq.eq_1 qV hx qA k2 k2' k3 k3') ?_;intros;refine Ah ?_)
   refine Aj.mk ⟨i+1,by omega⟩ (Sub.lit (by simp[hsc])) (by simp;omega)
   skip
 ·have qZ:i=l.length:=by omega
  subst qZ;exact Av Ab Ab Ab
def Zm : Ann:=⟨[],[]⟩
theorem Me (l:List Nd):Ae prog 118 [AU l] (.int .i64 (FS l)):=by
 refine Ac [] Zm func118 call118 ntmps118 mxd (Au @Zm.eq_1 results118) rfl (fun qJ B qX qQ=> ?_);clear qJ;simp only[Am];have k1:=Ht l;have h1:(FZ l l.length).length=FS l:=by rw[Kq (Nat.le_refl _),Mo,GZ]
 exact Av (AD k1) Ab (AD h1)
end Go.Proofs.Wy
end
section
namespace Go.Proofs.Wy
open Go Go.Dm Tryz
variable [DMode]
theorem IL_ : OrdC Ny:=by
 refine⟨fun _ _=>xP,fun x y=> ?_,fun x y z h1 h2=> ?_⟩
 ·rw[Gi];unfold Ny;cases h1:CO x y
  ·cases h2:CO y x<;>simp
  ·rw[Qk h1];simp
 ·rw[Gi]at *;exact Jv h1 h2
end Go.Proofs.Wy
end
section
namespace Go.Proofs.Wy
open Go Go.Dm Tryz
variable [DMode]
attribute [local irreducible] DW Bs Bt
set_option maxRecDepth 100000
def Sm : Ann:=⟨[],[⟨5,[6],[],[]⟩,⟨7,[22],[],[]⟩]⟩
theorem Rk (k:Int) (s:ByteArray):Ae prog 157 [.sl 3 32 [BS k s 0]] (.int .i64 1):=by
 refine Ac [] Sm func157 call157 ntmps157 mxd (Au @Sm.eq_1 results157) rfl (fun qJ B qX qQ=> ?_);clear qJ;simp only[Am]
 (refine AG Ab Ab (AD @BS.eq_1) ?_;intros;refine Ah ?_)
 refine Ai (X:=Bool) (fun x=>⟨[(0,.sl 3 32 [BS k s 0]),(3,.int .i64 (if x then 1 else 0)),(4,if x then .sl 1 8 []else .nilsl),(7,.sl 3 32 [BS k s 0]),(8,.int .i64 1),(9,.int .i64 (if x then 1 else 0))],[]⟩) (fun x=>if x then 0 else 1) false (Sub.lit (by simp[BS])) ?_;rintro (_ | _)
 ·(refine AG Ab Ab (AD @BS.eq_1) ?_;intros;refine Ah ?_)
  refine Ai (X:=Bool) (fun x=>⟨[(0,.sl 3 32 [BS k s 0]),(3,.int .i64 1),(4,if x then .sl 1 8 []else .sl 1 8 [[.int .i64 0]]),(7,.sl 3 32 [BS k s 0]),(8,.int .i64 1),(9,.int .i64 0)],[]⟩) (fun x=>if x then 0 else 1) false (Sub.lit (by simp[BS])) ?_;rintro (_ | _)
  ·(refine AG Ab Ab (AD @BS.eq_1) ?_;intros;refine Ah ?_)
   simp[qX,results157,Sm,BS]
   (refine AG Ab Ab (AD @BS.eq_1) ?_;intros;refine Ah ?_)
   refine Aj.mk true (Sub.lit (by simp[BS])) (by simp)
   skip
  ·(refine AG Ab Ab (AD @BS.eq_1) ?_;intros;refine Ah ?_)
   refine Aj.mk true (Sub.lit (by simp[BS])) (by simp)
   skip
 ·exact Av Ab Ab (AD @BS.eq_1)
def YR : Ann:=⟨[],[⟨1,[3],[],[]⟩]⟩
theorem UG (k:Int) (hk:k=2\/k=3) (s:ByteArray):Ae prog 158 [.sl 3 32 [BS k s 0]] (.str s):=by
 refine Ac [] YR func158 call158 ntmps158 mxd (Au @YR.eq_1 results158) rfl (fun qJ B qX qQ=> ?_);clear qJ;simp only[Am]
 rcases hk with rfl | rfl
 ·exact Av Ab Ab (AD @BS.eq_1)
 ·exact Av Ab Ab (AD @BS.eq_1)
def YS : Ann:=⟨[],[]⟩
theorem Pg (k:Int) (hk:k=2\/k=3) (s:ByteArray) (hs:s.size<=16):Ae prog 104 [.sl 3 32 [BS k s 0]] (.int .i64 0):=by
 refine Ac [] YS func104 call104 ntmps104 mxd (Au @YS.eq_1 results104) rfl (fun qJ B qX qQ=> ?_);clear qJ;simp only[Am];have e1:=Rk k s;have e2:=UG k hk s;have g1:¬(2048:Int)<s.size:=by omega
 exact Av (Au e1 e2) Ab (AD g1)
theorem BU_ {k:Int} {s:ByteArray} (h:Dn k s=true):s.size<=16:=by
 unfold Dn at h
 split at h<;>(simp only[BQ,aJ0,decide_eq_true_eq]at h;exact h.1.1.2)
def sZ : Ann:=⟨[],[]⟩
theorem SY (k:Int) (hk:k=2\/k=3) (s:ByteArray):Ae prog 55 [.sl 3 32 [BS k s 0]] (.int .i64 (if Dn k s then 0 else 170)):=by
 refine Ac [] sZ func55 call55 ntmps55 mxd (Au @sZ.eq_1 results55) rfl (fun qJ B qX qQ=> ?_);clear qJ;simp only[Am];have e1:=Su k hk s;cases hT:Dn k s
 ·rw[hT]at e1;exact Av (AD e1) Ab Ab
 ·rw[hT]at e1;have e2:=Pg k hk s (BU_ hT);exact Av (Au e1 e2) Ab Ab
def YQ : Ann:=⟨[],[]⟩
theorem SH (l:List ByteArray) (s:ByteArray):Ae prog 213 [Bv l,.str s] (.int .i64 (Ee l s)):=by
 refine Ac [] YQ func213 call213 ntmps213 mxd (Au @YQ.eq_1 results213) rfl (fun qJ B qX qQ=> ?_);have qU:=QX qJ.1;clear qJ;simp only[Am];obtain⟨R,hR⟩:∃R,R=Ee l s:=⟨_,rfl⟩;rw[<-hR]
 (refine AG Ab Ab Ab ?_;intros;refine Ah ?_)
 refine Ai (X:={k:Nat//k<=l.length/\∀i x,i<k->l[i]? =some x->(s==x)=false}) (fun x=>⟨[(0,Bv l),(1,.str s),(5,.int .i64 x.1)],[]⟩) (fun x=>l.length-x.1) ⟨0,by simp⟩ (Sub.lit (by simp)) ?_;rintro⟨k,hk,vI⟩
 by_cases qV:k<l.length
 ·obtain⟨x,hx,qA,vO⟩:=Ao qV;cases hb:s==x
  ·have qM:(x==s)=false:=by rw[dQ0]at hb |-;simp at hb |-;exact fun h=>hb h.symm
   (refine AG Ab Ab (Jh @AH.eq_1 qV qA hx qM) ?_;intros;refine Ah ?_)
   exact Aj.mk ⟨k+1,by omega,XU hx hb vI⟩ (Sub.lit (by simp[])) (by simp;omega)
   skip
  ·have qM:(x==s)=true:=by simp at hb |-;exact hb.symm
   have pY:R=k:=by rw[hR];exact Ou qV (by rw[qA];exact(by simpa using hb:s=x).symm) vI
   subst pY;exact Av Ab Ab (Jh @AH.eq_1 qV qA hx qM)
 ·have qZ:k=l.length:=by omega
  subst qZ;have pY:R= -1:=by rw[hR];exact Ov vI
  subst pY;exact Av Ab Ab Ab
def uJ : Ann:=⟨[],[]⟩
theorem Ri (l:List ByteArray) (s:ByteArray):Ae prog 86 [Bv l,.str s] (.bool (decide (s∈l))):=by
 refine Ac [] uJ func86 call86 ntmps86 mxd (Au @uJ.eq_1 results86) rfl (fun qJ B qX qQ=> ?_);have qU:=QX qJ.1;clear qJ;simp only[Am];obtain⟨R,hR⟩:∃R,R=decide (s∈l):=⟨_,rfl⟩;rw[<-hR]
 (refine AG Ab Ab Ab ?_;intros;refine Ah ?_)
 refine Ai (X:={k:Nat//k<=l.length/\R=decide (s∈l.drop k)}) (fun x=>⟨[(0,Bv l),(1,.str s),(5,.int .i64 x.1)],[]⟩) (fun x=>l.length-x.1) ⟨0,by simp[hR]⟩ (Sub.lit (by simp)) ?_;clear hR;rintro⟨k,hk,hR⟩
 by_cases qV:k<l.length
 ·obtain⟨x,hx,qA,vO⟩:=Ao qV;rw[aS0 qV,qA]at hR;cases hb:x==s
  ·have qF:¬s=x:=fun e=>by subst e;simp at hb
   have wX:R=decide (s∈l.drop (k+1)):=by rw[hR];simp[qF]
   (refine AG Ab Ab (Jh @AH.eq_1 qV qA hx hb) ?_;intros;refine Ah ?_)
   exact Aj.mk ⟨k+1,by omega,wX⟩ (Sub.lit (by simp[])) (by simp;omega)
   skip
  ·have he:s=x:=by simp at hb;exact hb.symm
   have wX:R=true:=by rw[hR,he];simp
   subst wX;exact Av Ab Ab (Jh @AH.eq_1 qV qA hx hb)
 ·have qZ:k=l.length:=by omega
  subst qZ;rw[bT0]at hR;have wX:R=false:=by rw[hR];simp
  subst wX;exact Av Ab Ab Ab
theorem Dn_ (l:List ByteArray) (s:ByteArray):Bn prog (.func 86) [.osl 0 0,.str s] [⟨0,0,.row 9 1 16 (l.map AH)⟩] (.bool (decide (s∈l))) [⟨0,0,.row 9 1 16 (l.map AH)⟩] :=
 Sr rfl (Ri l s)
def Wh : Ann:=⟨[17],[]⟩
theorem DK (g:List Rul):Ae prog 38 [Ar g] (Bv (Ax g)):=by
 refine Ac [3] Wh func38 call38 ntmps38 mxd (Au @Wh.eq_1 results38) rfl (fun qJ B qX qQ=> ?_);have hs:g.length*40<=150000000000000:=by have:=qJ.1;simp only[FC,aN0]at this;exact this.1
 clear qJ;simp only[Am]
 (refine AG Ab Ab Ab ?_;intros;refine Ah ?_)
 refine BO 3 3 9 1 16 (by simp[qX,results38,Wh]) (fun n=> ?_);refine Ai (X:={i:Nat//i<=g.length}) (fun i=>⟨[(0,Ar g),(3,.osl 3 1),(4,.int .i64 i.1)],[⟨3,1,.row 9 1 16 ((Ax (g.take i.1)).map AH)⟩]⟩) (fun i=>g.length-i.1) ⟨0,by omega⟩ (Sub.lit (by simp[Ax])) ?_;rintro⟨i,hi⟩;simp only
 by_cases qV:i<g.length
 ·obtain⟨r,hr,qG,gR⟩:=Ao qV;have wH:=OE hr;have hl:=IL (g.take i);rw[bA0]at hl;obtain⟨T,hT⟩:∃T,T=Ax (g.take i):=⟨_,rfl⟩;rw[<-hT]at wH hl |-;have e1:=Dn_ T r.h;have z1:(T.length+1)*16<=150000000000000:=by omega
  have z2:T.length+1<=9223372036854775807:=by omega
  unfold Ib at wH
  by_cases hm:r.h∈T
  ·rw[if_pos hm]at wH;rw[decide_eq_true hm]at e1
   (refine AG Ab (AD (KV [(3,0)] [] e1)) (GV @BD.eq_1 qV hr qG) ?_;intros;refine Ah ?_)
   refine Aj.mk ⟨i+1,by omega⟩ (Sub.lit (by simp[wH])) (by simp;omega)
   skip
  ·rw[if_neg hm]at wH;rw[decide_eq_false hm]at e1
   (refine AG Ab (AD (KV [(3,0)] [] e1)) (GN @BD.eq_1 qV hr qG z1 z2) ?_;intros;refine Ah ?_)
   refine Aj.mk ⟨i+1,by omega⟩ (Sub.lit (by simp[wH,AH])) (by simp;omega)
   skip
 ·have qZ:i=g.length:=by omega
  subst qZ;rw[aW0];exact Av Ab Ab Ab
def So : Ann:=⟨[],[]⟩
theorem Vx (l:List ByteArray) (p:ByteArray) (qP:(l.length+1)*16<=150000000000000):Ae prog 136 [Bv l,.str p] (Bv (DG Ny l p)):=by
 refine Ac [50] So func136 call136 ntmps136 mxd (Au @So.eq_1 results136) rfl (fun qJ B qX qQ=> ?_);clear qJ;simp only[Am];obtain⟨r,hr⟩:∃r,r=DG Ny l p:=⟨_,rfl⟩;rw[<-hr]
 (refine AG Ab Ab Ab ?_;intros;refine Ah ?_)
 refine BO 5 50 9 1 16 (by simp[qX,results136,So]) (fun n=> ?_);refine Ai (X:={x:Nat×Bool×List ByteArray//x.1<=l.length/\x.2.2.length<=x.1+(if x.2.1 then 1 else 0)/\x.2.2++(if x.2.1 then l.drop x.1 else DG Ny (l.drop x.1) p)=r}) (fun x=>⟨[(0,Bv l),(1,.str p),(5,.osl 50 1),(6,.bool x.1.2.1),(7,.int .i64 x.1.1)],[⟨50,1,.row 9 1 16 (x.1.2.2.map AH)⟩]⟩) (fun x=>l.length-x.1.1) ⟨(0,false,[]),by simp[hr]⟩ (Sub.lit (by simp)) ?_
 rintro⟨⟨k,b,R⟩,hk,hR,wU⟩;simp only at hk hR wU |-;clear hr
 by_cases qV:k<l.length
 ·obtain⟨q,hq,vY,pD⟩:=Ao qV;rw[aS0 qV,vY]at wU;cases b
  ·simp only[aR0,if_false,DG,dI0]at hR wU;have zD:(R.length+1)*16<=150000000000000:=Nat.le_trans (aX0 16 (by omega)) qP;have zE:R.length<=9223372036854775806:=by omega
   have mB:(R.length+1+1)*16<=150000000000000:=Nat.le_trans (aX0 16 (by omega)) qP;have mD:R.length+1<=9223372036854775806:=by omega
   cases hc:CO q p
   ·have jK:Op.bytesLess q.data.toList p.data.toList=false:=hc;rw[if_neg (show ¬Ny q p<0 by rw[Gi,hc];simp)]at wU
    by_cases he:q=p
    ·subst he;rw[if_neg (show ¬Ny q q<0 by rw[Gi,EX];simp)]at wU
     (refine AG Ab Ab (KQ @AH.eq_1 qV vY jK zD zE mB mD) ?_;intros;refine Ah ?_)
     refine Aj.mk ⟨(k+1,true,R++[q]),show k+1<=l.length/\(R++[q]).length<=k+1+_/\_ from ⟨by omega,by simp;omega,by simpa using wU⟩⟩ (Sub.lit (by simp[AH])) (by simp;omega)
     skip
    ·have vM:(q==p)=false:=by simpa using he
     have hlp:CO p q=true:=by
      cases h2:CO p q
      ·exact absurd (Kn hc h2) he
      ·rfl
     rw[if_pos (Gi.2 hlp)]at wU
     (refine AG Ab Ab (Ut @AH.eq_1 qV vY jK vM zD zE mB mD) ?_;intros;refine Ah ?_)
     refine Aj.mk ⟨(k+1,true,R++[p,q]),show k+1<=l.length/\(R++[p,q]).length<=k+1+_/\_ from ⟨by omega,by simp;omega,by simpa using wU⟩⟩ (Sub.lit (by simp[AH])) (by simp;omega)
     skip
   ·have jK:Op.bytesLess q.data.toList p.data.toList=true:=hc;rw[if_pos (Gi.2 hc)]at wU
    (refine AG Ab Ab (KQ @AH.eq_1 qV vY jK zD zE mB mD) ?_;intros;refine Ah ?_)
    refine Aj.mk ⟨(k+1,false,R++[q]),show k+1<=l.length/\(R++[q]).length<=k+1+_/\_ from ⟨by omega,by simp;omega,by simpa using wU⟩⟩ (Sub.lit (by simp[AH])) (by simp;omega)
    skip
  ·simp only[if_true]at hR wU;have zD:(R.length+1)*16<=150000000000000:=Nat.le_trans (aX0 16 (by omega)) qP;have zE:R.length<=9223372036854775806:=by omega
   (refine AG Ab Ab (Jh @AH.eq_1 qV vY zD zE) ?_;intros;refine Ah ?_)
   refine Aj.mk ⟨(k+1,true,R++[q]),show k+1<=l.length/\(R++[q]).length<=k+1+_/\_ from ⟨by omega,by simp;omega,by simpa using wU⟩⟩ (Sub.lit (by simp[AH])) (by simp;omega)
   skip
 ·have vK:k=l.length:=by omega
  subst vK;rw[bT0]at wU;cases b
  ·simp only[aR0,if_false,DG,dI0]at hR wU;subst wU;have zD:(R.length+1)*16<=150000000000000:=Nat.le_trans (aX0 16 (by omega)) qP;have zE:R.length<=9223372036854775806:=by omega
   exact Av Ab Ab (CD @AH.eq_1 zD zE)
  ·simp only[if_true,bO0]at hR wU;subst wU;exact Av Ab Ab (AD @AH.eq_1)
def OZ (es:List ByteArray):List ByteArray:=es.foldl (DG Ny) []
theorem TM (es:List ByteArray):OZ es=EP es:=by
 obtain⟨h1,h2⟩:=JU IL_ es [] List.Pairwise.nil;refine oL (h1.imp fun {a b} h=>Gi.1 h) fun x=> ?_
 unfold OZ;rw[h2];simp
theorem AM_ (es:List ByteArray) (s:ByteArray):OZ (es++[s])=DG Ny (OZ es) s:=by unfold OZ;rw[cY0];rfl
theorem OX (k:Int) (g:List Rul) (i:Nat):(AI k (g.take i)).length<=(AI k g).length:=by
 have h:AI k g=AI k (g.take i)++AI k (g.drop i):=by
  unfold AI;rw[<-eB0,List.take_append_drop]
 rw[h,aC0];omega
def Wg : Ann:=⟨[],[]⟩
theorem LO (g:List Rul) (k:Int) (hn:((AI k g).length+1)*16<=150000000000000):Ae prog 94 [Ar g,.int .i64 k] (Bv (EP (AI k g))):=by
 rw[<-TM];refine Ac [] Wg func94 call94 ntmps94 mxd (Au @Wg.eq_1 results94) rfl (fun qJ B qX qQ=> ?_);have fD:=JJ qJ.1
 have nO:∀r∈g,r.b.length<9223372036854775807:=fun r hr=>by
  have h1:=qJ.1;obtain⟨i,hi,rfl⟩:=bX0 hr;have h2:uV (g.map BD):=by simp only[FC]at h1;exact h1.2.2
  have h3:=aO h2 (aE0 hi);simp only[BD,Lm]at h3;exact Pz h3.2.1
 clear qJ;simp only[Am]
 (refine AG Ab Ab Ab ?_;intros;refine Ah ?_)
 refine Gc_ 5 1 16 (by simp[qX,results94,Wg]) ?_;refine Ai (X:={i:Nat//i<=g.length}) (fun i=>⟨[(0,Ar g),(1,.int .i64 k),(5,Bv (OZ (AI k (g.take i.1)))),(6,.int .i64 i.1)],[]⟩) (fun i=>g.length-i.1) ⟨0,by omega⟩ (Sub.lit (by simp[AI,OZ])) ?_;rintro⟨i,hi⟩;simp only
 by_cases qV:i<g.length
 ·obtain⟨r,hr,qG,gR⟩:=Ao qV;have wH:=Oy (k:=k) hr;have kB:=nO r gR;have cZ:=OX k g (i+1);rw[wH,aC0]at cZ;obtain⟨N,hN⟩:∃N,N=AI k (g.take i):=⟨_,rfl⟩;rw[<-hN]at wH cZ |-
  (refine AG Ab Ab (GV @BD.eq_1 qV hr qG) ?_;intros;refine Ah ?_)
  refine Ai (X:={j:Nat//j<=r.b.length}) (fun j=>⟨[(0,Ar g),(1,.int .i64 k),(5,Bv (OZ (N++Cr k (r.b.take j.1)))),(6,.int .i64 i),(7,.int .i64 j.1)],[]⟩) (fun j=>r.b.length-j.1) ⟨0,by omega⟩ (Sub.lit (by simp[Cr])) ?_;rintro⟨j,hj⟩;simp only
  by_cases qL:j<r.b.length
  ·obtain⟨x,hx,qA,vO⟩:=Ao qL;have htj:=Ox (k:=k) hx
   have hjl:(Cr k (r.b.take j)).length<=(Cr k r.b).length:=by
    unfold Cr;rw[aN0,aN0];exact((List.take_sublist j r.b).filter _).length_le
   obtain⟨E,hE⟩:∃E,E=N++Cr k (r.b.take j):=⟨_,rfl⟩;have nX:N++Cr k (r.b.take (j+1))=E++(if x.k=k then [x.s]else []):=by rw[htj,hE,aV0]
   have hEl:(OZ E).length<=(AI k g).length:=by
    rw[TM];have:=HH E;rw[hE,aC0]at this;rw[<-hE]at this;omega
   rw[<-hE]
   by_cases hk:x.k=k
   ·rw[if_pos hk]at nX;have wJ:=AM_ E x.s;rw[<-nX]at wJ;have e1:=Vx (OZ E) x.s (Nat.le_trans (aX0 16 (by omega)) hn);rw[<-wJ]at e1;obtain⟨W,hW⟩:∃W,W=OZ E:=⟨_,rfl⟩;obtain⟨W2,hW2⟩:∃W2,W2=OZ (N++Cr k (r.b.take (j+1))):=⟨_,rfl⟩;rw[<-hW,<-hW2]at e1;rw[<-hW]
    (refine AG (AD e1) Ab (Ut @BD.eq_1 @Bq.eq_1 qV hr qG qL hx qA hk) ?_;intros;refine Ah ?_)
    refine Aj.mk ⟨j+1,by omega⟩ (Sub.lit (by simp only[<-hW2];simp)) (by simp;omega)
    skip
   ·have vK:(x.k==k)=false:=by simpa using hk
    rw[if_neg hk,bO0]at nX
    (refine AG Ab Ab (LL @BD.eq_1 @Bq.eq_1 qV hr qG qL hx qA hk vK) ?_;intros;refine Ah ?_)
    refine Aj.mk ⟨j+1,by omega⟩ (Sub.lit (by simp only[nX];simp)) (by simp;omega)
    skip
  ·have qZ:j=r.b.length:=by omega
   subst qZ;rw[aW0]
   (refine AG Ab Ab (GV @BD.eq_1 qV hr qG) ?_;intros;refine Ah ?_)
   refine Aj.mk ⟨i+1,by omega⟩ (Sub.lit (by simp only[wH];simp)) (by simp;omega)
   skip
 ·have qZ:i=g.length:=by omega
  subst qZ;rw[aW0];exact Av Ab Ab Ab
def uL : Ann:=⟨[],[]⟩
theorem Gk (g:List Rul) (hn:((AI 3 g).length+1)*16<=150000000000000):Ae prog 44 [Ar g] (Bv (Ay g)):=by
 refine Ac [] uL func44 call44 ntmps44 mxd (Au @uL.eq_1 results44) rfl (fun qJ B qX qQ=> ?_);clear qJ;simp only[Am];have e1:=LO g 3 hn;unfold Ay;exact Av (AD e1) Ab Ab
def Gt (g:List Rul) (j:Nat):Nat:=(((EP (AI 2 g)).take j).filter fun s=> !decide (s∈Ax g)).length
theorem iJ (g:List Rul):Gt g (EP (AI 2 g)).length=(CP g).length:=by unfold Gt CP;rw[aW0]
theorem As_ (g:List Rul) (j:Nat):Gt g j<=j:=by
 unfold Gt;exact Nat.le_trans (cI0 _ _) (List.length_take_le _ _)
theorem XB {g:List Rul} {j:Nat} {s:ByteArray} (h:(EP (AI 2 g))[j]? =some s):Gt g (j+1)=Gt g j+(if s∈Ax g then 0 else 1):=by
 unfold Gt;rw[bJ0,h,cV0,aC0]
 by_cases hs:s∈Ax g<;>simp[hs]
def uK : Ann:=⟨[],[]⟩
theorem NB (g:List Rul) (hn:((AI 2 g).length+1)*16<=150000000000000):Ae prog 74 [Ar g] (.int .i64 (CP g).length):=by
 refine Ac [] uK func74 call74 ntmps74 mxd (Au @uK.eq_1 results74) rfl (fun qJ B qX qQ=> ?_);clear qJ;simp only[Am];have e1:=DK g;have e2:=LO g 2 hn;have wY:=iJ g;have pW:=HH (AI 2 g);have cH:=fun j s=>XB (g:=g) (j:=j) (s:=s)
 have yW:=As_ g;obtain⟨U,hU⟩:∃U,U=EP (AI 2 g):=⟨_,rfl⟩;obtain⟨Hh,hH⟩:∃Hh,Hh=Ax g:=⟨_,rfl⟩;rw[<-hU]at e2 wY pW cH;rw[<-hH]at e1 cH;rw[<-wY]
 (refine AG (Au e1 e2) Ab Ab ?_;intros;refine Ah ?_)
 refine Ai (X:={j:Nat//j<=U.length}) (fun j=>⟨[(3,Bv Hh),(4,Bv U),(5,.int .i64 (Gt g j.1)),(6,.int .i64 j.1)],[]⟩) (fun j=>U.length-j.1) ⟨0,by omega⟩ (Sub.lit (by simp[Gt])) ?_;rintro⟨j,hj⟩;simp only
 by_cases qV:j<U.length
 ·obtain⟨s,hs,gK,_⟩:=Ao qV;have h1:=cH j s hs;have h2:=yW j;have e3:=Ri Hh s;have w1:IntKind.i64.wrap ((Gt g j:Int)+1)=(Gt g j:Int)+1:=wq;have w2:IntKind.i64.wrap ((j:Int)+1)=(j:Int)+1:=wq
  by_cases hm:s∈Hh
  ·rw[if_pos hm,dI0]at h1;rw[decide_eq_true hm]at e3
   (refine AG (AD e3) Ab (Jh @AH.eq_1 qV hs gK w2) ?_;intros;refine Ah ?_)
   refine Aj.mk ⟨j+1,by omega⟩ (Sub.lit (by simp[h1])) (by simp;omega)
   skip
  ·rw[if_neg hm]at h1;rw[decide_eq_false hm]at e3
   (refine AG (AD e3) Ab (GN @AH.eq_1 qV hs gK w1 w2) ?_;intros;refine Ah ?_)
   refine Aj.mk ⟨j+1,by omega⟩ (Sub.lit (by simp[h1])) (by simp;omega)
   skip
 ·have qZ:j=U.length:=by omega
  subst qZ;exact Av Ab Ab Ab
end Go.Proofs.Wy
end
