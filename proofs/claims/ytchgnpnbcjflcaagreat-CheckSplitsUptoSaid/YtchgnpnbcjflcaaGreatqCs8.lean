/- Parts of a proof, laid together: RY4, WE0, WR2, WR3, BN3, BN4, SY0, WB14, BN2, BN5, BN6, BN7, SY1, EnSi. -/
import Derived.Shelf.SlIter.Nil
import Derived.Shelf.SlIter.Sorted
import Derived.Shelf.SortM.Plain
import Derived.Shelf.SortM.SortNone
import Derived.Shelf.Sort.Plain
import Derived.Shelf.Slices.In.SortNone
import Derived.Shelf.Spec.SlicesGrow
import Derived.Test.YtchgnpnbcjflcaaGreatqCs4
import Derived.Test.YtchgnpnbcjflcaaGreatqCs5
import Derived.Test.YtchgnpnbcjflcaaGreatqCs6
import Derived.Test.YtchgnpnbcjflcaaGreatqCs7
set_option linter.unusedSimpArgs false
set_option linter.unusedVariables false
set_option linter.unusedSectionVars false
section
namespace Go.Proofs.YtchgnpnbcjflcaaGreat
open Go Go.Dm
variable [DMode]
attribute [local irreducible] DW AV_ AZ_
set_option maxRecDepth 100000
theorem okL_take {ks:List RT} (h:okL ks=true) (i:Nat):okL (ks.take i)=true:=by
 have:=Oz_ (ks.take i) (ks.drop i);rw[List.take_append_drop,h]at this;simpa using (by simpa using this.symm:okL (ks.take i)=true∧okL (ks.drop i)=true).1
def accT (x:Nd) (ks:List RT) (i:Nat):ByteArray:=if i=0 then x.s else GE_ (txtL x.k (ks.take i)) (btw x.k)
theorem Mm_ (x:Nd) (ks:List RT):accT x ks 0=x.s:=rfl
theorem accT_one {x:Nd} {ks:List RT} {u:RT} (h:ks[0]? =some u):accT x ks 1=parT x.k u.x.k (txtT u):=by
 unfold accT;rw[if_neg (by omega),show ks.take 1=[u] by rw[bF0,h];simp,Ek_,JR_];rfl
theorem accT_succ {x:Nd} {ks:List RT} {i:Nat} {u:RT} (hi:0<i) (h:ks[i]? =some u):accT x ks (i+1)=accT x ks i++btw x.k++parT x.k u.x.k (txtT u):=by
 unfold accT;rw[if_neg (by omega),if_neg (by omega),Qf_ h];obtain⟨hl,_⟩:=aB0.1 h
 have hne:txtL x.k (ks.take i)≠[]:=fun e=>by
  have:=congrArg List.length e;rw[NT_,bB0]at this;simp only[List.length_nil]at this;omega
 cases hx:txtL x.k (ks.take i)with
 | nil=>exact absurd hx hne
 | cons y r =>
  show (r++[_]).foldl (Du_ (btw x.k)) y=_
  rw[cH0];rfl
theorem accT_size {x:Nd} {ks:List RT} (hok:okL ks=true) (hs:x.s.size≤16) (i:Nat):(accT x ks i).size≤16+24*(Ak_ ks).length:=by
 unfold accT
 split
 ·omega
 ·have h1:=Gg_ (txtL x.k (ks.take i)) (btw x.k) (Gm_ _);have h2:=(HB_ x.k (ks.take i) (okL_take hok i)).1;have h3:=Pf_ ks i;omega
theorem empty_s {x:Nd} (h:mayN x=true) (h2:¬(x.k=2∨x.k=3)):x.s=⟨#[]⟩:=by
 unfold mayN emp at h;rw[if_neg (fun e=>h2 (.inl e)),if_neg (fun e=>h2 (.inr e))]at h
 repeat' split at h
 all_goals simp only[aL0,decide_eq_true_eq,aP0]at h
 all_goals first | exact h.1 | (exact absurd h (by simp))
theorem Qr_ (x:ByteArray):x++(⟨#[]⟩:ByteArray)=x:=by
 apply Ex_
 simp[eI0]
def Xh_ : Ann:=⟨[],[]⟩
set_option maxHeartbeats 8000000 in
theorem KE_ : ∀(n:Nat) (t:RT) (l:List Nd) (p:Nat),(flat t).length=n→At l p t→l.length≤1572864→Ac_ Tryz.prog 135 [dNds l,.int .i64 p] (.str (txtT t)):=by
 intro n
 induction n using Nat.strongRecOn with
 | ind n ih =>
 intro t l p hn ht hs;obtain⟨x,ks⟩:=t;have kk:=Lu_ l p x ks ht hs;obtain⟨hm,hkn,hok⟩:=Bx_ ht.ok;obtain⟨g0,gl,ge⟩:=ht.head;simp only[RT.x]at g0;have g0':l[p]'gl=x:=(aB0.1 g0).2;have hfl:(flat (.mk x ks)).length=(Ak_ ks).length+1:=by rw[AF_,List.length_cons]
 have hkl:=DL_ ks;have hk9:ks.length≤1572864:=by omega
 have hch:∀i u,ks[i]? =some u→Ac_ Tryz.prog 135 [dNds l,.int .i64 (kidP p ks i)] (.str (txtT u))∧l[kidP p ks i]? =some u.x∧(txtT u).size≤37748736:=fun i u hu=>by
  have hm:=In_ (bL0 hu);have hu2:=(ht.kid hu).1;have h3:=(Fp_ u hu2.ok).2;exact⟨ih (flat u).length (by omega) u l _ rfl hu2 hs,hu2.head.1,by omega⟩
 have hrow:∀i,i<ks.length→_:=fun i h=>Vz_ (p:=p) (ks:=ks) (i:=i) h
 have hacs:=accT_size (x:=x) hok (Ll_ hm);have hxs:=Ll_ hm;have hbig:16+24*(Ak_ ks).length≤37748756:=by omega
 rw[NS_];unfold kidsD at kk;obtain⟨D,hD⟩:∃D,D=(List.range ks.length).map fun i=>kidD (kidP p ks i):=⟨_,rfl⟩
 have hDl:D.length=ks.length:=by rw[hD];simp
 have hDm:mxR D=0:=by rw[hD];exact Tr_ p ks _
 rw[←hD]at kk hrow;have h6:x.k=6∨x.k=7∨x.k=8→ks.length=1:=fun h=>by obtain⟨u,rfl⟩:=Tl_ ht.ok h;rfl
 have h8:¬x.k=1→¬(x.k=2∨x.k=3)→¬x.k=5→x.k=4∨x.k=6∨x.k=7∨x.k=8:=fun a b c=>by have:=Ln_ hm;omega
 have hlf:x.k=2∨x.k=3→ks.length=0:=fun h=>by rw[ER_ ht.ok h];rfl
 have hpos:¬x.k=1→¬(x.k=2∨x.k=3)→1≤ks.length:=fun a b=>by have:=Lm_ hm a b;omega
 have hemp:¬(x.k=2∨x.k=3)→x.s=⟨#[]⟩:=empty_s hm;clear hD ih ht ge hn hok hm;have z0:(⟨#[]⟩:ByteArray).size=0:=rfl;have z1:(⟨#[37]⟩:ByteArray).size=1:=rfl;have z2:(⟨#[32]⟩:ByteArray).size=1:=rfl;have z3:(⟨#[32,124,32]⟩:ByteArray).size=3:=rfl;have z4:(⟨#[40]⟩:ByteArray).size=1:=rfl;have z5:(⟨#[41]⟩:ByteArray).size=1:=rfl;have z6:(⟨#[42]⟩:ByteArray).size=1:=rfl;have z7:(⟨#[43]⟩:ByteArray).size=1:=rfl
 have z8:(⟨#[63]⟩:ByteArray).size=1:=rfl;have m1:1≤maxLen:=by decide
 have m3:3≤maxLen:=by decide
 have mbig:100000000≤maxLen:=by decide
 refine Aa_ [] Xh_ Tryz.func135 Tryz.call135 Tryz.ntmps135 mxd (aj2 @Xh_.eq_1 Tryz.results135) rfl (by simp) (by simp[mx]) fun hwf B hnt hgAnn=> ?_
 clear hwf;simp only[argS]
 by_cases k1:x.k=1
 ·rw[if_pos k1];exact go0 aj0 aj0 (aj7 @dNd.eq_1 g0 g0' gl z1 m1 k1)
 rw[if_neg k1];obtain⟨R,hR⟩:∃R,R=(if x.k=2∨x.k=3 then x.s else GE_ (txtL x.k ks) (btw x.k)++sgn x.k):=⟨_,rfl⟩;rw[←hR];have k1':(x.k==1)=false:=by simpa using k1
 (refine go1 (aj1 kk) aj0 (aj6 @dNd.eq_1 g0 g0' gl k1 k1') ?_;intros;refine mk_i ?_)
 refine Ad_ (X:={i:Nat//i≤ks.length}) (fun i=>⟨[(0,dNds l),(5,.int .i64 x.k),(6,.str (accT x ks i.1)),(7,.sl 1 8 D),(8,.int .i64 i.1)],[]⟩) (fun i=>ks.length-i.1) ⟨0,by omega⟩ (Sub.lit (by simp[Mm_,hDm])) ?_;rintro⟨i,hi⟩;simp only
 by_cases hlt:i<ks.length
 ·have k2:¬(x.k=2∨x.k=3):=fun h=>by have:=hlf h;omega
  have hx0:=hemp k2;obtain⟨u,hu,hu',_⟩:=Aj_ hlt;obtain⟨e1,gu,hus⟩:=hch i u hu;have hr:=hrow i hlt;have hltD:i<D.length:=by omega
  have hwi:IntKind.i64.wrap ((i:Int)+1)=(i:Int)+1:=wq;have hr':D[i]'hltD=[.int .i64 (kidP p ks i:Int)]:=(aB0.1 hr).2;have hac:=hacs i;obtain⟨q,hq⟩:∃q,q=kidP p ks i:=⟨_,rfl⟩;rw[←hq]at e1 hr hr' gu;have gq:q<l.length:=(aB0.1 gu).1;have gu':l[q]'gq=u.x:=(aB0.1 gu).2;have hpt:parT x.k u.x.k (txtT u)=if parB x.k u.x.k then ⟨#[40]⟩++txtT u++⟨#[41]⟩else txtT u:=rfl
  have hnx:accT x ks (i+1)=(if i=0 then ⟨#[]⟩else accT x ks i++btw x.k)++parT x.k u.x.k (txtT u):=by
   by_cases h0:i=0
   ·subst h0;rw[if_pos rfl,JU_];exact accT_one hu
   ·rw[if_neg h0];exact accT_succ (by omega) hu
  have hz:i=0→accT x ks i=⟨#[]⟩:=fun h=>by rw[h,Mm_,hx0]
  obtain⟨s,hs2⟩:∃s,s=txtT u:=⟨_,rfl⟩;rw[←hs2]at e1 hus hpt hnx;obtain⟨P,hP⟩:∃P,P=parT x.k u.x.k s:=⟨_,rfl⟩;rw[←hP]at hpt hnx;obtain⟨a,ha⟩:∃a,a=accT x ks i:=⟨_,rfl⟩;rw[←ha]at hac hnx hz ⊢;have y3:1+s.size≤maxLen:=by omega
  have y4:1+s.size+1≤maxLen:=by omega
  have y5:a.size+3≤maxLen:=by omega
  have y6:a.size+1≤maxLen:=by omega
  have y7:a.size+P.size≤maxLen:=by
   have:=(HU_ x.k u.x.k s).2;rw[←hP]at this;omega
  have y8:a.size+3+P.size≤maxLen:=by
   have:=(HU_ x.k u.x.k s).2;rw[←hP]at this;omega
  have y9:a.size+1+P.size≤maxLen:=by omega
  unfold parB at hpt;clear hs2 ha hP;unfold btw at hnx
  by_cases h0:i=0
  ·have hp0:¬(0:Int)<(i:Int):=by omega
   rw[if_pos h0,JU_]at hnx;have ha0:=hz h0;subst ha0;have w1:⟨#[]⟩++P=P:=JU_ P;have y7':P.size≤maxLen:=by omega
   by_cases p5:u.x.k=5
   ·simp[p5]at hpt;subst hpt;simp only[aN0,z4,z5]at y7'
    (refine go1 (aj1 e1) aj0 (aj2 (aj16 @dNd.eq_1 gu gu' gq hltD hDl hwi hr hr' hlt hp0 p5 z0 z4 z5 m1) (aj5 y3 y4 y7' w1 @aN0)) ?_;intros;refine mk_i ?_)
    refine Ai_.mk ⟨i+1,by omega⟩ (Sub.lit (by simp[hnx,hDm])) (by simp;omega)
    skip
   ·have p5':(u.x.k==5)=false:=by simpa using p5
    by_cases p4:u.x.k=4
    ·by_cases q5:x.k=5
     ·simp[p4,q5]at hpt;subst hpt
      (refine go1 (aj1 e1) aj0 (aj2 (aj16 @dNd.eq_1 gu gu' gq hltD hDl hwi hr hr' hlt hp0 p4 p5 p5' q5 z0) (aj8 z4 z5 m1 y3 y4 y7' w1 @aN0)) ?_;intros;refine mk_i ?_)
      refine Ai_.mk ⟨i+1,by omega⟩ (Sub.lit (by simp[hnx,hDm,q5])) (by simp;omega)
      skip
     ·have q5':(x.k==5)=false:=by simpa using q5
      simp[p4,q5]at hpt;subst hpt;simp only[aN0,z4,z5]at y7'
      (refine go1 (aj1 e1) aj0 (aj2 (aj16 @dNd.eq_1 gu gu' gq hltD hDl hwi hr hr' hlt hp0 p4 p5 p5' q5 q5') (aj9 z0 z4 z5 m1 y3 y4 y7' w1 @aN0)) ?_;intros;refine mk_i ?_)
      refine Ai_.mk ⟨i+1,by omega⟩ (Sub.lit (by simp[hnx,hDm])) (by simp;omega)
      skip
    ·have p4':(u.x.k==4)=false:=by simpa using p4
     simp[p4,p5]at hpt;subst hpt
     (refine go1 (aj1 e1) aj0 (aj2 (aj16 @dNd.eq_1 gu gu' gq hltD hDl hwi hr hr' hlt hp0 p4 p4' p5 p5' z0) (aj8 z4 z5 m1 y3 y4 y7' w1 @aN0)) ?_;intros;refine mk_i ?_)
     refine Ai_.mk ⟨i+1,by omega⟩ (Sub.lit (by simp[hnx,hDm])) (by simp;omega)
     skip
  ·have hp0:(0:Int)<(i:Int):=by omega
   rw[if_neg h0]at hnx;clear hz
   by_cases q5:x.k=5
   ·rw[if_pos q5]at hnx;have q4':(x.k==4)=false:=by simp[q5]
    by_cases p5:u.x.k=5
    ·simp[p5]at hpt;subst hpt;simp only[aN0,z4,z5]at y8
     (refine go2 (aj1 e1) aj0 (aj2 (aj16 @dNd.eq_1 gu gu' gq hltD hDl hwi hr hr' hlt hp0 p5 q5 q4' z0 z3) (aj9 z4 z5 m1 m3 y3 y4 y5 y8 @aN0)) ?_ ?_<;>(intros;refine mk_i ?_))
     refine Ai_.mk ⟨i+1,by omega⟩ (Sub.lit (by simp[hnx,hDm,q5])) (by simp;omega);exact go0 (aj1 e1) aj0 aj0
    ·have p5':(u.x.k==5)=false:=by simpa using p5
     simp[p5,q5]at hpt;subst hpt
     by_cases p4:u.x.k=4
     ·(refine go2 (aj1 e1) aj0 (aj2 (aj16 @dNd.eq_1 gu gu' gq hltD hDl hwi hr hr' hlt hp0 p5 p5' p4 q5 q4') (aj11 z0 z3 z4 z5 m1 m3 y3 y4 y5 y8 @aN0)) ?_ ?_<;>(intros;refine mk_i ?_))
      refine Ai_.mk ⟨i+1,by omega⟩ (Sub.lit (by simp[hnx,hDm,q5])) (by simp;omega);exact go0 (aj1 e1) aj0 aj0
     ·have p4':(u.x.k==4)=false:=by simpa using p4
      (refine go2 (aj1 e1) aj0 (aj2 (aj16 @dNd.eq_1 gu gu' gq hltD hDl hwi hr hr' hlt hp0 p5 p5' p4 p4' q5) (aj12 q4' z0 z3 z4 z5 m1 m3 y3 y4 y5 y8 @aN0)) ?_ ?_<;>(intros;refine mk_i ?_))
      refine Ai_.mk ⟨i+1,by omega⟩ (Sub.lit (by simp[hnx,hDm,q5])) (by simp;omega);exact go0 (aj1 e1) aj0 aj0
   ·have q5':(x.k==5)=false:=by simpa using q5
    have q4:x.k=4:=by
     rcases (show x.k=4∨x.k=6∨x.k=7∨x.k=8 from h8 k1 k2 q5)with h | h
     ·exact h
     ·have:=h6 h;omega
    rw[if_neg q5,if_pos q4]at hnx
    by_cases p5:u.x.k=5
    ·simp[p5]at hpt;subst hpt;simp only[aN0,z4,z5]at y9
     (refine go2 (aj1 e1) aj0 (aj2 (aj16 @dNd.eq_1 gu gu' gq hltD hDl hwi hr hr' hlt hp0 p5 q5 q5' q4 z0) (aj9 z2 z4 z5 m1 y3 y4 y6 y9 @aN0)) ?_ ?_<;>(intros;refine mk_i ?_))
     refine Ai_.mk ⟨i+1,by omega⟩ (Sub.lit (by simp[hnx,hDm,q4])) (by simp;omega);exact go0 (aj1 e1) aj0 aj0
    ·have p5':(u.x.k==5)=false:=by simpa using p5
     by_cases p4:u.x.k=4
     ·simp[p4,q5]at hpt;subst hpt;simp only[aN0,z4,z5]at y9
      (refine go2 (aj1 e1) aj0 (aj2 (aj16 @dNd.eq_1 gu gu' gq hltD hDl hwi hr hr' hlt hp0 p4 p5 p5' q5 q5') (aj11 q4 z0 z2 z4 z5 m1 y3 y4 y6 y9 @aN0)) ?_ ?_<;>(intros;refine mk_i ?_))
      refine Ai_.mk ⟨i+1,by omega⟩ (Sub.lit (by simp[hnx,hDm,q4])) (by simp;omega);exact go0 (aj1 e1) aj0 aj0
     ·have p4':(u.x.k==4)=false:=by simpa using p4
      simp[p4,p5]at hpt;subst hpt
      (refine go2 (aj1 e1) aj0 (aj2 (aj16 @dNd.eq_1 gu gu' gq hltD hDl hwi hr hr' hlt hp0 p4 p4' p5 p5' q5) (aj12 q5' q4 z0 z2 z4 z5 m1 y3 y4 y6 y9 @aN0)) ?_ ?_<;>(intros;refine mk_i ?_))
      refine Ai_.mk ⟨i+1,by omega⟩ (Sub.lit (by simp[hnx,hDm,q4])) (by simp;omega);exact go0 (aj1 e1) aj0 aj0
 ·have hkk:i=ks.length:=by omega
  subst hkk;have hac:=hacs ks.length
  have hfin:(if x.k=2∨x.k=3 then x.s else GE_ (txtL x.k ks) (btw x.k)++sgn x.k)=accT x ks ks.length++sgn x.k:=by
   by_cases k2:x.k=2∨x.k=3
   ·rw[if_pos k2,hlf k2,Mm_];have:sgn x.k=⟨#[]⟩:=by unfold sgn;rw[if_neg (by omega),if_neg (by omega),if_neg (by omega)]
    rw[this,Qr_]
   ·rw[if_neg k2];unfold accT;rw[if_neg (by have:=hpos k1 k2;omega),aS0]
  rw[hfin]at hR;clear hfin;obtain⟨a,ha⟩:∃a,a=accT x ks ks.length:=⟨_,rfl⟩;rw[←ha]at hac hR ⊢;have y6:a.size+1≤maxLen:=by omega
  have y0:a.size≤maxLen:=by omega
  unfold sgn at hR
  by_cases j6:x.k=6
  ·rw[if_pos j6]at hR;subst hR;exact go0 aj0 aj0 (aj7 hDl j6 z6 y6 y0 m1 @aN0)
  ·have j6':(x.k==6)=false:=by simpa using j6
   by_cases j7:x.k=7
   ·rw[if_neg j6,if_pos j7]at hR;subst hR;exact go0 aj0 aj0 (aj9 hDl j6 j6' j7 z7 y6 y0 m1 @aN0)
   ·have j7':(x.k==7)=false:=by simpa using j7
    by_cases j8:x.k=8
    ·rw[if_neg j6,if_neg j7,if_pos j8]at hR;subst hR;exact go0 aj0 aj0 (aj11 hDl j6 j6' j7 j7' j8 z8 y6 y0 m1 @aN0)
    ·have j8':(x.k==8)=false:=by simpa using j8
     rw[if_neg j6,if_neg j7,if_neg j8,Qr_]at hR;subst hR;exact go0 aj0 aj0 (aj10 hDl j6 j6' j7 j7' j8 j8' y6 y0 m1)
def Xg_ : Ann:=⟨[],[]⟩
theorem MJ_ (t:RT) (ht:okT t=true) (hs:(flat t).length≤1572864):Ac_ Tryz.prog 295 [dNds (flat t)] (.int .i64 (CM_ t)):=by
 refine Aa_ [] Xg_ Tryz.func295 Tryz.call295 Tryz.ntmps295 mxd (aj2 @Xg_.eq_1 Tryz.results295) rfl (by simp) (by simp[mx]) fun hwf B hnt hgAnn=> ?_
 clear hwf;simp only[argS];have k1:=GV_ _ t (flat t) 0 rfl (At.top ht) hs;have k2:=KE_ _ t (flat t) 0 rfl (At.top ht) hs;unfold CM_;obtain⟨T,hT⟩:∃T,T=txtT t:=⟨_,rfl⟩;rw[←hT]at k2 ⊢
 by_cases c1:16<htT t
 ·have d1:(16:Int)<(htT t:Int):=by omega
  exact go0 (aj2 k1 k2) aj0 (aj2 c1 d1)
 ·have d1:¬(16:Int)<(htT t:Int):=by omega
  by_cases c2:2048<T.size
  ·have d2:(2048:Int)<(T.size:Int):=by omega
   exact go0 (aj2 k1 k2) aj0 (aj4 c1 d1 c2 d2)
  ·have d2:¬(2048:Int)<(T.size:Int):=by omega
   exact go0 (aj2 k1 k2) aj0 (aj4 c1 d1 c2 d2)
def Gv_ : Ann:=⟨[],[]⟩
theorem Mx_ (t:RT) (ht:okT t=true) (h:(flat t).length≤2048):Ac_ Tryz.prog 207 [dNds (flat t)] (.int .i64 (CM_ t)):=by
 refine Aa_ [] Gv_ Tryz.func207 Tryz.call207 Tryz.ntmps207 mxd (aj2 @Gv_.eq_1 Tryz.results207) rfl (by simp) (by simp[mx]) fun hwf B hnt hgAnn=> ?_
 clear hwf;simp only[argS];have k1:=CV_ (flat t) (by omega);rw[Dy_ ht]at k1;have k2:=MJ_ t ht (by omega);have d1:¬(2048:Int)<((flat t).length:Int):=by omega
 have d2:¬2048<(flat t).length:=by omega
 exact go0 (aj2 k1 k2) aj0 (aj2 d1 d2)
theorem My_ (l:List Nd) (h:2048<l.length):Ac_ Tryz.prog 207 [dNds l] (.int .i64 3):=by
 refine Aa_ [] Gv_ Tryz.func207 Tryz.call207 Tryz.ntmps207 mxd (aj2 @Gv_.eq_1 Tryz.results207) rfl (by simp) (by simp[mx]) fun hwf B hnt hgAnn=> ?_
 clear hwf;simp only[argS];have d1:(2048:Int)<(l.length:Int):=by omega
 exact go0 aj0 aj0 (aj2 d1 h)
theorem On_ (l:List Nd) (h:l.length≤2048) (hw:CK_ l=false):Ac_ Tryz.prog 207 [dNds l] (.int .i64 170):=by
 refine Aa_ [] Gv_ Tryz.func207 Tryz.call207 Tryz.ntmps207 mxd (aj2 @Gv_.eq_1 Tryz.results207) rfl (by simp) (by simp[mx]) fun hwf B hnt hgAnn=> ?_
 clear hwf;simp only[argS];have k1:=CV_ l (by omega);rw[hw]at k1;have d1:¬(2048:Int)<(l.length:Int):=by omega
 have d2:¬2048<l.length:=by omega
 exact go0 (aj1 k1) aj0 (aj2 d1 d2)
def Xi_ : Ann:=⟨[],[]⟩
theorem KW_ (t:RT) (ht:okT t=true) (hs:(flat t).length≤1572864):Ac_ Tryz.prog 134 [dNds (flat t)] (.int .i64 (htT t)):=by
 refine Aa_ [] Xi_ Tryz.func134 Tryz.call134 Tryz.ntmps134 mxd (aj2 @Xi_.eq_1 Tryz.results134) rfl (by simp) (by simp[mx]) fun hwf B hnt hgAnn=> ?_
 clear hwf;simp only[argS];have k1:=CV_ (flat t) hs;rw[Dy_ ht]at k1;have k2:=GV_ _ t (flat t) 0 rfl (At.top ht) hs;exact go0 (aj2 k1 k2) aj0 aj0
def natD (n:Nat):List DVal:=[.int .i64 (n:Int)]
@[simp] theorem mx_natD (n:Nat):mxL (natD n)=0:=by simp[natD,mxL,mx]
abbrev Ei_ (l:List Nat):DVal:= .sl 1 8 (l.map natD)
@[simp] theorem mx_nats (l:List Nat):mxR (l.map natD)=0:=mxR0 _ mx_natD l
theorem plN_le (l:List Nd) (n:Nat):(plN l n).length≤n:=by unfold plN;exact Nat.le_trans (cG0 _ _) (by simp)
def PL_ : Ann:=⟨[],[]⟩
set_option maxHeartbeats 1000000 in
theorem Op_ (l:List Nd):Ac_ Tryz.prog 140 [dNds l] (Ei_ (plN l l.length)):=by
 refine Aa_ [50] PL_ Tryz.func140 Tryz.call140 Tryz.ntmps140 mxd (aj2 @PL_.eq_1 Tryz.results140) rfl (by simp) (by simp[mx]) fun hwf B hnt hgAnn=> ?_
 have hs:l.length*32≤150000000000000:=by have:=hwf.1;simp only[wfD,aK0]at this;exact this.1
 clear hwf;simp only[argS]
 (refine go1 aj0 aj0 aj0 ?_;intros;refine mk_i ?_)
 refine Bn_ 3 50 3 1 8 (by simp[hnt,Tryz.results140,PL_]) (fun n=> ?_);refine Ad_ (X:={i:Nat//i≤l.length}) (fun i=>⟨[(0,dNds l),(3,.osl 50 1),(4,.int .i64 i.1)],[⟨50,1,.row 3 1 8 ((plN l i.1).map natD)⟩]⟩) (fun i=>l.length-i.1) ⟨0,by omega⟩ (Sub.lit (by simp[plN_zero])) ?_;rintro⟨i,hi⟩;simp only
 by_cases hlt:i<l.length
 ·obtain⟨x,hx,hx',_⟩:=Aj_ hlt;have hsc:=UW_ hx;have hle:=plN_le l i;obtain⟨T,hT⟩:∃T,T=plN l i:=⟨_,rfl⟩;rw[←hT]at hsc hle ⊢;have z1:(T.length+1)*8≤150000000000000:=by omega
  have z2:T.length+1≤9223372036854775807:=by omega
  by_cases ho:CC_ x=true
  ·rw[if_pos ho]at hsc;have hd:(T.map natD)++[[.int .i64 (i:Int)]]=(plN l (i+1)).map natD:=by rw[hsc,aZ0];rfl
   rcases CB_.1 ho with k | k
   ·(refine go1 aj0 aj0 (aj7 @dNd.eq_1 hlt hx hx' k z1 z2) ?_;intros;refine mk_i ?_)
    refine Ai_.mk ⟨i+1,by omega⟩ (Sub.lit (by simp[hd])) (by simp;omega)
    skip
   ·(refine go1 aj0 aj0 (aj7 @dNd.eq_1 hlt hx hx' k z1 z2) ?_;intros;refine mk_i ?_)
    refine Ai_.mk ⟨i+1,by omega⟩ (Sub.lit (by simp[hd])) (by simp;omega)
    skip
  ·rw[if_neg ho,bP0]at hsc;have k2:¬x.k=2:=fun e=>ho (CB_.2 (.inl e))
   have k3:¬x.k=3:=fun e=>ho (CB_.2 (.inr e))
   have k2':(x.k==2)=false:=by simpa using k2
   have k3':(x.k==3)=false:=by simpa using k3
   (refine go1 aj0 aj0 (aj8 @dNd.eq_1 hlt hx hx' k2 k2' k3 k3') ?_;intros;refine mk_i ?_)
   refine Ai_.mk ⟨i+1,by omega⟩ (Sub.lit (by simp[hsc])) (by simp;omega)
   skip
 ·have hkk:i=l.length:=by omega
  subst hkk;exact go0 aj0 aj0 aj0
def Xj_ : Ann:=⟨[],[]⟩
theorem QF_ (l:List Nd):Ac_ Tryz.prog 133 [dNds l] (.int .i64 (occN l)):=by
 refine Aa_ [] Xj_ Tryz.func133 Tryz.call133 Tryz.ntmps133 mxd (aj2 @Xj_.eq_1 Tryz.results133) rfl (by simp) (by simp[mx]) fun hwf B hnt hgAnn=> ?_
 clear hwf;simp only[argS];have k1:=Op_ l;have h1:(plN l l.length).length=occN l:=by rw[Tj_ (Nat.le_refl _),JZ_,IP_]
 exact go0 (aj1 k1) aj0 (aj1 h1)
end Go.Proofs.YtchgnpnbcjflcaaGreat
end
section
namespace Go.Proofs.YtchgnpnbcjflcaaGreat
open Go Go.Dm
variable [DMode]
theorem ordS : OrdC sCmp:=by
 refine⟨fun _ _=>QD_,fun x y=> ?_,fun x y z h1 h2=> ?_⟩
 ·rw[Cg_];unfold sCmp;cases h1:BD_ x y
  ·cases h2:BD_ y x<;>simp
  ·rw[MW_ h1];simp
 ·rw[Cg_]at *;exact EC_ h1 h2
end Go.Proofs.YtchgnpnbcjflcaaGreat
end
section
namespace Go.Proofs.YtchgnpnbcjflcaaGreat
open Go Go.Dm
variable [DMode]
attribute [local irreducible] DW AV_ AZ_
set_option maxRecDepth 100000
def PI_ : Ann:=⟨[],[⟨5,[6],[],[]⟩,⟨7,[22],[],[]⟩]⟩
theorem MC_ (k:Int) (s:ByteArray):Ac_ Tryz.prog 262 [.sl 3 32 [BQ_ k s 0]] (.int .i64 1):=by
 refine Aa_ [] PI_ Tryz.func262 Tryz.call262 Tryz.ntmps262 mxd (aj2 @PI_.eq_1 Tryz.results262) rfl (by simp) (by simp[mx]) fun hwf B hnt hgAnn=> ?_
 clear hwf;simp only[argS]
 (refine go1 aj0 aj0 (aj1 @BQ_.eq_1) ?_;intros;refine mk_i ?_)
 refine Ad_ (X:=Bool) (fun x=>⟨[(0,.sl 3 32 [BQ_ k s 0]),(3,.int .i64 (if x then 1 else 0)),(4,if x then .sl 1 8 []else .nilsl),(7,.sl 3 32 [BQ_ k s 0]),(8,.int .i64 1),(9,.int .i64 (if x then 1 else 0))],[]⟩) (fun x=>if x then 0 else 1) false (Sub.lit (by simp[BQ_])) ?_;rintro (_ | _)
 ·(refine go1 aj0 aj0 (aj1 @BQ_.eq_1) ?_;intros;refine mk_i ?_)
  refine Ad_ (X:=Bool) (fun x=>⟨[(0,.sl 3 32 [BQ_ k s 0]),(3,.int .i64 1),(4,if x then .sl 1 8 []else .sl 1 8 [[.int .i64 0]]),(7,.sl 3 32 [BQ_ k s 0]),(8,.int .i64 1),(9,.int .i64 0)],[]⟩) (fun x=>if x then 0 else 1) false (Sub.lit (by simp[BQ_])) ?_;rintro (_ | _)
  ·(refine go1 aj0 aj0 (aj1 @BQ_.eq_1) ?_;intros;refine mk_i ?_)
   simp[hnt,Tryz.results262,PI_,BQ_]
   (refine go1 aj0 aj0 (aj1 @BQ_.eq_1) ?_;intros;refine mk_i ?_)
   refine Ai_.mk true (Sub.lit (by simp[BQ_])) (by simp)
   skip
  ·(refine go1 aj0 aj0 (aj1 @BQ_.eq_1) ?_;intros;refine mk_i ?_)
   refine Ai_.mk true (Sub.lit (by simp[BQ_])) (by simp)
   skip
 ·exact go0 aj0 aj0 (aj1 @BQ_.eq_1)
def Wm_ : Ann:=⟨[],[⟨1,[3],[],[]⟩]⟩
theorem Qk_ (k:Int) (hk:k=2∨k=3) (s:ByteArray):Ac_ Tryz.prog 263 [.sl 3 32 [BQ_ k s 0]] (.str s):=by
 refine Aa_ [] Wm_ Tryz.func263 Tryz.call263 Tryz.ntmps263 mxd (aj2 @Wm_.eq_1 Tryz.results263) rfl (by simp) (by simp[mx]) fun hwf B hnt hgAnn=> ?_
 clear hwf;simp only[argS]
 rcases hk with rfl | rfl
 ·exact go0 aj0 aj0 (aj1 @BQ_.eq_1)
 ·exact go0 aj0 aj0 (aj1 @BQ_.eq_1)
def Wn_ : Ann:=⟨[],[]⟩
theorem Mh_ (k:Int) (hk:k=2∨k=3) (s:ByteArray) (hs:s.size≤16):Ac_ Tryz.prog 182 [.sl 3 32 [BQ_ k s 0]] (.int .i64 0):=by
 refine Aa_ [] Wn_ Tryz.func182 Tryz.call182 Tryz.ntmps182 mxd (aj2 @Wn_.eq_1 Tryz.results182) rfl (by simp) (by simp[mx]) fun hwf B hnt hgAnn=> ?_
 clear hwf;simp only[argS];have e1:=MC_ k s;have e2:=Qk_ k hk s;have g1:¬(2048:Int)<s.size:=by omega
 exact go0 (aj2 e1 e2) aj0 (aj1 g1)
theorem txt_size {k:Int} {s:ByteArray} (h:DF_ k s=true):s.size≤16:=by
 unfold DF_ at h
 split at h<;>(simp only[AO_,aL0,decide_eq_true_eq]at h;exact h.1.1.2)
def Wo_ : Ann:=⟨[],[]⟩
theorem Pw_ (k:Int) (hk:k=2∨k=3) (s:ByteArray):Ac_ Tryz.prog 101 [.sl 3 32 [BQ_ k s 0]] (.int .i64 (if DF_ k s then 0 else 170)):=by
 refine Aa_ [] Wo_ Tryz.func101 Tryz.call101 Tryz.ntmps101 mxd (aj2 @Wo_.eq_1 Tryz.results101) rfl (by simp) (by simp[mx]) fun hwf B hnt hgAnn=> ?_
 clear hwf;simp only[argS];have e1:=NP_ k hk s;cases hT:DF_ k s
 ·rw[hT]at e1;exact go0 (aj1 e1) aj0 aj0
 ·rw[hT]at e1;have e2:=Mh_ k hk s (txt_size hT);exact go0 (aj2 e1 e2) aj0 aj0

def XT_ : Ann:=⟨[],[]⟩
theorem Nm_ (l:List ByteArray) (s:ByteArray):Ac_ Tryz.prog 131 [AP_ l,.str s] (.bool (decide (s∈l))):=by
 refine Aa_ [] XT_ Tryz.func131 Tryz.call131 Tryz.ntmps131 mxd (aj2 @XT_.eq_1 Tryz.results131) rfl (by simp) (by simp[mx]) fun hwf B hnt hgAnn=> ?_
 have hlen:=Ib_ hwf.1;clear hwf;simp only[argS];obtain⟨R,hR⟩:∃R,R=decide (s∈l):=⟨_,rfl⟩;rw[←hR]
 (refine go1 aj0 aj0 aj0 ?_;intros;refine mk_i ?_)
 refine Ad_ (X:={k:Nat//k≤l.length∧R=decide (s∈l.drop k)}) (fun x=>⟨[(0,AP_ l),(1,.str s),(5,.int .i64 x.1)],[]⟩) (fun x=>l.length-x.1) ⟨0,by simp[hR]⟩ (Sub.lit (by simp)) ?_;clear hR;rintro⟨k,hk,hR⟩
 by_cases hlt:k<l.length
 ·obtain⟨x,hx,hx',hxm⟩:=Aj_ hlt;rw[aR0 hlt,hx']at hR;cases hb:x==s
  ·have hne:¬s=x:=fun e=>by subst e;simp at hb
   have hR2:R=decide (s∈l.drop (k+1)):=by rw[hR];simp[hne]
   (refine go1 aj0 aj0 (aj5 @dStr.eq_1 hlt hx' hx hb) ?_;intros;refine mk_i ?_)
   exact Ai_.mk ⟨k+1,by omega,hR2⟩ (Sub.lit (by simp[])) (by simp;omega)
   skip
  ·have he:s=x:=by simp at hb;exact hb.symm
   have hR2:R=true:=by rw[hR,he];simp
   subst hR2;exact go0 aj0 aj0 (aj5 @dStr.eq_1 hlt hx' hx hb)
 ·have hkk:k=l.length:=by omega
  subst hkk;rw[cB0]at hR;have hR2:R=false:=by rw[hR];simp
  subst hR2;exact go0 aj0 aj0 aj0
theorem inO_spec (l:List ByteArray) (s:ByteArray):AL_ Tryz.prog (.func 131) [.osl 0 0,.str s] [⟨0,0,.row 9 1 16 (l.map dStr)⟩] (.bool (decide (s∈l))) [⟨0,0,.row 9 1 16 (l.map dStr)⟩] :=
 NM_ rfl (Nm_ l s)
def Uj_ : Ann:=⟨[17],[]⟩
set_option maxHeartbeats 1000000 in
theorem HR_ (g:List Rul):Ac_ Tryz.prog 45 [Av_ g] (AP_ (As_ g)):=by
 refine Aa_ [3] Uj_ Tryz.func45 Tryz.call45 Tryz.ntmps45 mxd (aj2 @Uj_.eq_1 Tryz.results45) rfl (by simp) (by simp[mx]) fun hwf B hnt hgAnn=> ?_
 have hs:g.length*40≤150000000000000:=by have:=hwf.1;simp only[wfD,aK0]at this;exact this.1
 clear hwf;simp only[argS]
 (refine go1 aj0 aj0 aj0 ?_;intros;refine mk_i ?_)
 refine Bn_ 3 3 9 1 16 (by simp[hnt,Tryz.results45,Uj_]) (fun n=> ?_);refine Ad_ (X:={i:Nat//i≤g.length}) (fun i=>⟨[(0,Av_ g),(3,.osl 3 1),(4,.int .i64 i.1)],[⟨3,1,.row 9 1 16 ((As_ (g.take i.1)).map dStr)⟩]⟩) (fun i=>g.length-i.1) ⟨0,by omega⟩ (Sub.lit (by simp[As_])) ?_;rintro⟨i,hi⟩;simp only
 by_cases hlt:i<g.length
 ·obtain⟨r,hr,hr',hrm⟩:=Aj_ hlt;have htk:=LC_ hr;have hl:=Gi_ (g.take i);rw[bB0]at hl;obtain⟨T,hT⟩:∃T,T=As_ (g.take i):=⟨_,rfl⟩;rw[←hT]at htk hl ⊢;have e1:=inO_spec T r.h;have z1:(T.length+1)*16≤150000000000000:=by omega
  have z2:T.length+1≤9223372036854775807:=by omega
  unfold IZ_ at htk
  by_cases hm:r.h∈T
  ·rw[if_pos hm]at htk;rw[decide_eq_true hm]at e1
   (refine go1 aj0 (aj1 (spc [(3,0)] [] e1)) (aj4 @dRul.eq_1 hlt hr hr') ?_;intros;refine mk_i ?_)
   refine Ai_.mk ⟨i+1,by omega⟩ (Sub.lit (by simp[htk])) (by simp;omega)
   skip
  ·rw[if_neg hm]at htk;rw[decide_eq_false hm]at e1
   (refine go1 aj0 (aj1 (spc [(3,0)] [] e1)) (aj6 @dRul.eq_1 hlt hr hr' z1 z2) ?_;intros;refine mk_i ?_)
   refine Ai_.mk ⟨i+1,by omega⟩ (Sub.lit (by simp[htk,dStr])) (by simp;omega)
   skip
 ·have hkk:i=g.length:=by omega
  subst hkk;rw[aS0];exact go0 aj0 aj0 aj0
def PP_ : Ann:=⟨[],[]⟩
set_option maxHeartbeats 4000000 in
theorem Ru_ (l:List ByteArray) (p:ByteArray) (hsz:(l.length+1)*16≤150000000000000):Ac_ Tryz.prog 203 [AP_ l,.str p] (AP_ (insC sCmp l p)):=by
 refine Aa_ [50] PP_ Tryz.func203 Tryz.call203 Tryz.ntmps203 mxd (aj2 @PP_.eq_1 Tryz.results203) rfl (by simp) (by simp[mx]) fun hwf B hnt hgAnn=> ?_
 clear hwf;simp only[argS];obtain⟨r,hr⟩:∃r,r=insC sCmp l p:=⟨_,rfl⟩;rw[←hr]
 (refine go1 aj0 aj0 aj0 ?_;intros;refine mk_i ?_)
 refine Bn_ 5 50 9 1 16 (by simp[hnt,Tryz.results203,PP_]) (fun n=> ?_);refine Ad_ (X:={x:Nat×Bool×List ByteArray//x.1≤l.length∧x.2.2.length≤x.1+(if x.2.1 then 1 else 0)∧x.2.2++(if x.2.1 then l.drop x.1 else insC sCmp (l.drop x.1) p)=r}) (fun x=>⟨[(0,AP_ l),(1,.str p),(5,.osl 50 1),(6,.bool x.1.2.1),(7,.int .i64 x.1.1)],[⟨50,1,.row 9 1 16 (x.1.2.2.map dStr)⟩]⟩) (fun x=>l.length-x.1.1) ⟨(0,false,[]),by simp[hr]⟩ (Sub.lit (by simp)) ?_
 rintro⟨⟨k,b,R⟩,hk,hR,hcc⟩;simp only at hk hR hcc ⊢;clear hr
 by_cases hlt:k<l.length
 ·obtain⟨q,hq,hq',hqm⟩:=Aj_ hlt;rw[aR0 hlt,hq']at hcc;cases b
  ·simp only[aP0,if_false,insC,dO0]at hR hcc;have hz1:(R.length+1)*16≤150000000000000:=Nat.le_trans (aV0 16 (by omega)) hsz;have hz2:R.length≤9223372036854775806:=by omega
   have hz3:(R.length+1+1)*16≤150000000000000:=Nat.le_trans (aV0 16 (by omega)) hsz;have hz4:R.length+1≤9223372036854775806:=by omega
   cases hc:BD_ q p
   ·have hc2:Op.bytesLess q.data.toList p.data.toList=false:=hc;rw[if_neg (show ¬sCmp q p<0 by rw[Cg_,hc];simp)]at hcc
    by_cases he:q=p
    ·subst he;rw[if_neg (show ¬sCmp q q<0 by rw[Cg_,Db_];simp)]at hcc
     (refine go1 aj0 aj0 (aj8 @dStr.eq_1 hlt hq' hc2 hz1 hz2 hz3 hz4) ?_;intros;refine mk_i ?_)
     refine Ai_.mk ⟨(k+1,true,R++[q]),show k+1≤l.length∧(R++[q]).length≤k+1+_∧_ from ⟨by omega,by simp;omega,by simpa using hcc⟩⟩ (Sub.lit (by simp[dStr])) (by simp;omega)
     skip
    ·have he2:(q==p)=false:=by simpa using he
     have hlp:BD_ p q=true:=by
      cases h2:BD_ p q
      ·exact absurd (HM_ hc h2) he
      ·rfl
     rw[if_pos (Cg_.2 hlp)]at hcc
     (refine go1 aj0 aj0 (aj9 @dStr.eq_1 hlt hq' hc2 he2 hz1 hz2 hz3 hz4) ?_;intros;refine mk_i ?_)
     refine Ai_.mk ⟨(k+1,true,R++[p,q]),show k+1≤l.length∧(R++[p,q]).length≤k+1+_∧_ from ⟨by omega,by simp;omega,by simpa using hcc⟩⟩ (Sub.lit (by simp[dStr])) (by simp;omega)
     skip
   ·have hc2:Op.bytesLess q.data.toList p.data.toList=true:=hc;rw[if_pos (Cg_.2 hc)]at hcc
    (refine go1 aj0 aj0 (aj8 @dStr.eq_1 hlt hq' hc2 hz1 hz2 hz3 hz4) ?_;intros;refine mk_i ?_)
    refine Ai_.mk ⟨(k+1,false,R++[q]),show k+1≤l.length∧(R++[q]).length≤k+1+_∧_ from ⟨by omega,by simp;omega,by simpa using hcc⟩⟩ (Sub.lit (by simp[dStr])) (by simp;omega)
    skip
  ·simp only[if_true]at hR hcc;have hz1:(R.length+1)*16≤150000000000000:=Nat.le_trans (aV0 16 (by omega)) hsz;have hz2:R.length≤9223372036854775806:=by omega
   (refine go1 aj0 aj0 (aj5 @dStr.eq_1 hlt hq' hz1 hz2) ?_;intros;refine mk_i ?_)
   refine Ai_.mk ⟨(k+1,true,R++[q]),show k+1≤l.length∧(R++[q]).length≤k+1+_∧_ from ⟨by omega,by simp;omega,by simpa using hcc⟩⟩ (Sub.lit (by simp[dStr])) (by simp;omega)
   skip
 ·have hk':k=l.length:=by omega
  subst hk';rw[cB0]at hcc;cases b
  ·simp only[aP0,if_false,insC,dO0]at hR hcc;subst hcc;have hz1:(R.length+1)*16≤150000000000000:=Nat.le_trans (aV0 16 (by omega)) hsz;have hz2:R.length≤9223372036854775806:=by omega
   exact go0 aj0 aj0 (aj3 @dStr.eq_1 hz1 hz2)
  ·simp only[if_true,bP0]at hR hcc;subst hcc;exact go0 aj0 aj0 (aj1 @dStr.eq_1)
def insF (es:List ByteArray):List ByteArray:=es.foldl (insC sCmp) []
theorem Rv_ (es:List ByteArray):insF es=DP_ es:=by
 obtain⟨h1,h2⟩:=LF_ ordS es [] List.Pairwise.nil;refine uniq_of (h1.imp fun {a b} h=>Cg_.1 h) fun x=> ?_
 unfold insF;rw[h2];simp
theorem insF_snoc (es:List ByteArray) (s:ByteArray):insF (es++[s])=insC sCmp (insF es) s:=by unfold insF;rw[cH0];rfl
theorem Lh_ (k:Int) (g:List Rul) (i:Nat):(AG_ k (g.take i)).length≤(AG_ k g).length:=by
 have h:AG_ k g=AG_ k (g.take i)++AG_ k (g.drop i):=by
  unfold AG_;rw[←eP0,List.take_append_drop]
 rw[h,aD0];omega
def PQ_ : Ann:=⟨[],[]⟩
set_option maxHeartbeats 2000000 in
theorem Jg_ (g:List Rul) (k:Int) (hn:((AG_ k g).length+1)*16≤150000000000000):Ac_ Tryz.prog 132 [Av_ g,.int .i64 k] (AP_ (DP_ (AG_ k g))):=by
 rw[←Rv_];refine Aa_ [] PQ_ Tryz.func132 Tryz.call132 Tryz.ntmps132 mxd (aj2 @PQ_.eq_1 Tryz.results132) rfl (by simp) (by simp[mx]) fun hwf B hnt hgAnn=> ?_
 have hwl:=Ic_ hwf.1
 have hwb:∀r∈g,r.b.length<9223372036854775807:=fun r hr=>by
  have h1:=hwf.1;obtain⟨i,hi,rfl⟩:=bJ0 hr;have h2:wfR (g.map dRul):=by simp only[wfD]at h1;exact h1.2.2
  have h3:=Us_ h2 (aH0 hi);simp only[dRul,wfL]at h3;exact OM_ h3.2.1
 clear hwf;simp only[argS]
 (refine go1 aj0 aj0 aj0 ?_;intros;refine mk_i ?_)
 refine DW_nilS 5 1 16 (by simp[hnt,Tryz.results132,PQ_]) ?_;refine Ad_ (X:={i:Nat//i≤g.length}) (fun i=>⟨[(0,Av_ g),(1,.int .i64 k),(5,AP_ (insF (AG_ k (g.take i.1)))),(6,.int .i64 i.1)],[]⟩) (fun i=>g.length-i.1) ⟨0,by omega⟩ (Sub.lit (by simp[AG_,insF])) ?_;rintro⟨i,hi⟩;simp only
 by_cases hlt:i<g.length
 ·obtain⟨r,hr,hr',hrm⟩:=Aj_ hlt;have htk:=Li_ (k:=k) hr;have hrl:=hwb r hrm;have hnl:=Lh_ k g (i+1);rw[htk,aD0]at hnl;obtain⟨N,hN⟩:∃N,N=AG_ k (g.take i):=⟨_,rfl⟩;rw[←hN]at htk hnl ⊢
  (refine go1 aj0 aj0 (aj4 @dRul.eq_1 hlt hr hr') ?_;intros;refine mk_i ?_)
  refine Ad_ (X:={j:Nat//j≤r.b.length}) (fun j=>⟨[(0,Av_ g),(1,.int .i64 k),(5,AP_ (insF (N++BY_ k (r.b.take j.1)))),(6,.int .i64 i),(7,.int .i64 j.1)],[]⟩) (fun j=>r.b.length-j.1) ⟨0,by omega⟩ (Sub.lit (by simp[BY_])) ?_;rintro⟨j,hj⟩;simp only
  by_cases hlt2:j<r.b.length
  ·obtain⟨x,hx,hx',hxm⟩:=Aj_ hlt2;have htj:=Lg_ (k:=k) hx
   have hjl:(BY_ k (r.b.take j)).length≤(BY_ k r.b).length:=by
    unfold BY_;rw[aK0,aK0];exact((List.take_sublist j r.b).filter _).length_le
   obtain⟨E,hE⟩:∃E,E=N++BY_ k (r.b.take j):=⟨_,rfl⟩;have hE2:N++BY_ k (r.b.take (j+1))=E++(if x.k=k then [x.s]else []):=by rw[htj,hE,aT0]
   have hEl:(insF E).length≤(AG_ k g).length:=by
    rw[Rv_];have:=Fo_ E;rw[hE,aD0]at this;rw[←hE]at this;omega
   rw[←hE]
   by_cases hk:x.k=k
   ·rw[if_pos hk]at hE2;have hst:=insF_snoc E x.s;rw[←hE2]at hst;have e1:=Ru_ (insF E) x.s (Nat.le_trans (aV0 16 (by omega)) hn);rw[←hst]at e1;obtain⟨W,hW⟩:∃W,W=insF E:=⟨_,rfl⟩;obtain⟨W2,hW2⟩:∃W2,W2=insF (N++BY_ k (r.b.take (j+1))):=⟨_,rfl⟩;rw[←hW,←hW2]at e1;rw[←hW]
    (refine go1 (aj1 e1) aj0 (aj9 @dRul.eq_1 @dNd.eq_1 hlt hr hr' hlt2 hx hx' hk) ?_;intros;refine mk_i ?_)
    refine Ai_.mk ⟨j+1,by omega⟩ (Sub.lit (by simp only[←hW2];simp)) (by simp;omega)
    skip
   ·have hk':(x.k==k)=false:=by simpa using hk
    rw[if_neg hk,bP0]at hE2
    (refine go1 aj0 aj0 (aj10 @dRul.eq_1 @dNd.eq_1 hlt hr hr' hlt2 hx hx' hk hk') ?_;intros;refine mk_i ?_)
    refine Ai_.mk ⟨j+1,by omega⟩ (Sub.lit (by simp only[hE2];simp)) (by simp;omega)
    skip
  ·have hkk:j=r.b.length:=by omega
   subst hkk;rw[aS0]
   (refine go1 aj0 aj0 (aj4 @dRul.eq_1 hlt hr hr') ?_;intros;refine mk_i ?_)
   refine Ai_.mk ⟨i+1,by omega⟩ (Sub.lit (by simp only[htk];simp)) (by simp;omega)
   skip
 ·have hkk:i=g.length:=by omega
  subst hkk;rw[aS0];exact go0 aj0 aj0 aj0
def anBN347 : Ann:=⟨[],[]⟩
theorem Mv_ (g:List Rul) (hn:((AG_ 3 g).length+1)*16≤150000000000000):Ac_ Tryz.prog 47 [Av_ g] (AP_ (Aw_ g)):=by
 refine Aa_ [] anBN347 Tryz.func47 Tryz.call47 Tryz.ntmps47 mxd (aj2 @anBN347.eq_1 Tryz.results47) rfl (by simp) (by simp[mx]) fun hwf B hnt hgAnn=> ?_
 clear hwf;simp only[argS];have e1:=Jg_ g 3 hn;unfold Aw_;exact go0 (aj1 e1) aj0 aj0
def FA_ (g:List Rul) (j:Nat):Nat:=(((DP_ (AG_ 2 g)).take j).filter fun s=> !decide (s∈As_ g)).length
theorem YU_ (g:List Rul):FA_ g (DP_ (AG_ 2 g)).length=(Dc_ g).length:=by unfold FA_ Dc_;rw[aS0]
theorem missTo_le (g:List Rul) (j:Nat):FA_ g j≤j:=by
 unfold FA_;exact Nat.le_trans (cG0 _ _) (List.length_take_le _ _)
theorem Tw_ {g:List Rul} {j:Nat} {s:ByteArray} (h:(DP_ (AG_ 2 g))[j]? =some s):FA_ g (j+1)=FA_ g j+(if s∈As_ g then 0 else 1):=by
 unfold FA_;rw[bF0,h,dN0,aD0]
 by_cases hs:s∈As_ g<;>simp[hs]
def anBN346 : Ann:=⟨[],[]⟩
set_option maxHeartbeats 1000000 in
theorem JG_ (g:List Rul) (hn:((AG_ 2 g).length+1)*16≤150000000000000):Ac_ Tryz.prog 46 [Av_ g] (.int .i64 (Dc_ g).length):=by
 refine Aa_ [] anBN346 Tryz.func46 Tryz.call46 Tryz.ntmps46 mxd (aj2 @anBN346.eq_1 Tryz.results46) rfl (by simp) (by simp[mx]) fun hwf B hnt hgAnn=> ?_
 clear hwf;simp only[argS];have e1:=HR_ g;have e2:=Jg_ g 2 hn;have hall:=YU_ g;have hul:=Fo_ (AG_ 2 g);have hsucc:=fun j s=>Tw_ (g:=g) (j:=j) (s:=s)
 have hle:=missTo_le g;obtain⟨U,hU⟩:∃U,U=DP_ (AG_ 2 g):=⟨_,rfl⟩;obtain⟨Hh,hH⟩:∃Hh,Hh=As_ g:=⟨_,rfl⟩;rw[←hU]at e2 hall hul hsucc;rw[←hH]at e1 hsucc;rw[←hall]
 (refine go1 (aj2 e1 e2) aj0 aj0 ?_;intros;refine mk_i ?_)
 refine Ad_ (X:={j:Nat//j≤U.length}) (fun j=>⟨[(3,AP_ Hh),(4,AP_ U),(5,.int .i64 (FA_ g j.1)),(6,.int .i64 j.1)],[]⟩) (fun j=>U.length-j.1) ⟨0,by omega⟩ (Sub.lit (by simp[FA_])) ?_;rintro⟨j,hj⟩;simp only
 by_cases hlt:j<U.length
 ·obtain⟨s,hs,hs',_⟩:=Aj_ hlt;have h1:=hsucc j s hs;have h2:=hle j;have e3:=Nm_ Hh s;have w1:IntKind.i64.wrap ((FA_ g j:Int)+1)=(FA_ g j:Int)+1:=wq;have w2:IntKind.i64.wrap ((j:Int)+1)=(j:Int)+1:=wq
  by_cases hm:s∈Hh
  ·rw[if_pos hm,dO0]at h1;rw[decide_eq_true hm]at e3
   (refine go1 (aj1 e3) aj0 (aj5 @dStr.eq_1 hlt hs hs' w2) ?_;intros;refine mk_i ?_)
   refine Ai_.mk ⟨j+1,by omega⟩ (Sub.lit (by simp[h1])) (by simp;omega)
   skip
  ·rw[if_neg hm]at h1;rw[decide_eq_false hm]at e3
   (refine go1 (aj1 e3) aj0 (aj6 @dStr.eq_1 hlt hs hs' w1 w2) ?_;intros;refine mk_i ?_)
   refine Ai_.mk ⟨j+1,by omega⟩ (Sub.lit (by simp[h1])) (by simp;omega)
   skip
 ·have hkk:j=U.length:=by omega
  subst hkk;exact go0 aj0 aj0 aj0
def SmlG (g:List Rul):Prop:=∀r∈g,r.b.length≤1572864
theorem DY_ {k:Int}:∀{g:List Rul},SmlG g→(AG_ k g).length≤g.length*1572864
 | [],_=>by simp[AG_]
 | r::g,h=>by
  have h1:=h r aE0;have h2:=DY_ (k:=k) (g:=g) fun x hx=>h x (aC0 _ hx)
  have h3:=YT_ k r.b;have h4:AG_ k (r::g)=BY_ k r.b++AG_ k g:=by simp[AG_]
  rw[h4,aD0,List.length_cons];omega
theorem Tn_ (l:List Nd):occN l≤l.length:=by rw[JZ_];exact cG0 _ _
theorem To_ : ∀{g:List Rul},SmlG g→occG g≤g.length*1572864
 | [],_=>by simp[occG]
 | r::g,h=>by
  have h1:=h r aE0;have h2:=To_ (g:=g) fun x hx=>h x (aC0 _ hx)
  have h3:=Tn_ r.b;have h4:occG (r::g)=occN r.b+occG g:=by simp[occG]
  rw[h4,List.length_cons];omega
theorem QY_ {g:List Rul} {i:Nat} {r:Rul} (h:g[i]? =some r):occG (g.take (i+1))=occG (g.take i)+occN r.b:=by
 unfold occG;rw[bF0,h];simp
theorem Jo_ (g:List Rul) (i:Nat):occG (g.take i)≤occG g:=by
 have h:occG g=occG (g.take i)+occG (g.drop i):=by
  unfold occG;rw[←List.sum_append,←aZ0,List.take_append_drop]
 omega
theorem Rd_ (s:ByteArray):Ac_ Tryz.prog 129 [.str s,.int .u8 85] (.bool (DF_ 2 s)):=EE_ 2 85 (.inl ⟨rfl,rfl⟩) s
def anBN444 : Ann:=⟨[],[]⟩
set_option maxHeartbeats 1000000 in
theorem HD_ (g:List Rul) (hs:SmlG g):Ac_ Tryz.prog 44 [Av_ g] (.bool (El_ g)):=by
 refine Aa_ [] anBN444 Tryz.func44 Tryz.call44 Tryz.ntmps44 mxd (aj2 @anBN444.eq_1 Tryz.results44) rfl (by simp) (by simp[mx]) fun hwf B hnt hgAnn=> ?_
 have hwl:=Ic_ hwf.1;clear hwf;simp only[argS];obtain⟨R,hR⟩:∃R,R=El_ g:=⟨_,rfl⟩;rw[←hR]
 (refine go1 aj0 aj0 aj0 ?_;intros;refine mk_i ?_)
 refine Ad_ (X:={i:Nat//i≤g.length∧R=El_ (g.drop i)}) (fun i=>⟨[(0,Av_ g),(3,.int .i64 i.1)],[]⟩) (fun i=>g.length-i.1) ⟨0,by simp[hR]⟩ (Sub.lit (by simp)) ?_;clear hR;rintro⟨i,hi,hR⟩;simp only
 by_cases hlt:i<g.length
 ·obtain⟨r,hr,hr',hrm⟩:=Aj_ hlt;rw[aR0 hlt,hr']at hR;unfold El_ at hR;rw[cT0]at hR;have e1:=Rd_ r.h;have e2:=CV_ r.b (hs r hrm);have w2:IntKind.i64.wrap ((i:Int)+1)=(i:Int)+1:=wq;cases h1:DF_ 2 r.h
  ·rw[h1]at e1 hR;simp only[cL0]at hR;subst hR;exact go0 (aj1 e1) aj0 (aj4 @dRul.eq_1 hlt hr hr')
  ·cases h2:CK_ r.b
   ·rw[h2]at e2 hR;rw[h1]at e1 hR;simp only[cL0,Bool.and_false]at hR;subst hR;exact go0 (aj2 e1 e2) aj0 (aj4 @dRul.eq_1 hlt hr hr')
   ·rw[h2]at e2 hR;rw[h1]at e1 hR;simp only[cO0]at hR
    (refine go1 (aj2 e1 e2) aj0 (aj5 @dRul.eq_1 hlt hr hr' w2) ?_;intros;refine mk_i ?_)
    refine Ai_.mk ⟨i+1,by omega,hR⟩ (Sub.lit (by simp)) (by simp;omega)
    skip
 ·have hkk:i=g.length:=by omega
  subst hkk;rw[cB0]at hR;have hR2:R=true:=hR;subst hR2;exact go0 aj0 aj0 aj0
def anBN448 : Ann:=⟨[],[]⟩
theorem QG_ (g:List Rul) (hs:SmlG g) (hl:g.length≤64):Ac_ Tryz.prog 48 [Av_ g] (.int .i64 (occG g)):=by
 refine Aa_ [] anBN448 Tryz.func48 Tryz.call48 Tryz.ntmps48 mxd (aj2 @anBN448.eq_1 Tryz.results48) rfl (by simp) (by simp[mx]) fun hwf B hnt hgAnn=> ?_
 clear hwf;simp only[argS];have ho:=To_ hs
 (refine go1 aj0 aj0 aj0 ?_;intros;refine mk_i ?_)
 refine Ad_ (X:={i:Nat//i≤g.length}) (fun i=>⟨[(0,Av_ g),(3,.int .i64 (occG (g.take i.1))),(4,.int .i64 i.1)],[]⟩) (fun i=>g.length-i.1) ⟨0,by omega⟩ (Sub.lit (by simp[occG])) ?_;rintro⟨i,hi⟩;simp only
 by_cases hlt:i<g.length
 ·obtain⟨r,hr,hr',hrm⟩:=Aj_ hlt;have e1:=QF_ r.b;have h1:=QY_ hr;have h2:=Jo_ g (i+1);have h3:=Tn_ r.b;have w1:IntKind.i64.wrap ((occG (g.take i):Int)+(occN r.b:Int))=(occG (g.take (i+1)):Int):=by rw[wq];omega
  have w2:IntKind.i64.wrap ((i:Int)+1)=(i:Int)+1:=wq
  (refine go1 (aj1 e1) aj0 (aj6 @dRul.eq_1 hlt hr hr' w1 w2) ?_;intros;refine mk_i ?_)
  refine Ai_.mk ⟨i+1,by omega⟩ (Sub.lit (by simp)) (by simp;omega)
  skip
 ·have hkk:i=g.length:=by omega
  subst hkk;rw[aS0];exact go0 aj0 aj0 aj0
theorem mkG_at {gt:GT} {i:Nat} {p:ByteArray×RT} (h:gt[i]? =some p):(mkG gt)[i]? =some ⟨p.1,flat p.2⟩:=by unfold mkG;rw[bM0,h];rfl
theorem Fy_ (gt:GT):(mkG gt).length=gt.length:=by unfold mkG;rw[aK0]
theorem HK_ {gt:GT} (h:SmlG (mkG gt)) {p:ByteArray×RT} (hp:p∈gt):(flat p.2).length≤1572864:=h ⟨p.1,flat p.2⟩ (aU0.2 ⟨p,hp,rfl⟩)
def anBN449 : Ann:=⟨[],[]⟩
theorem Oi_ (gt:GT) (hk:OkG gt) (hs:SmlG (mkG gt)) (hl:gt.length≤64):Ac_ Tryz.prog 49 [Av_ (mkG gt)] (.bool (GI_ gt)):=by
 refine Aa_ [] anBN449 Tryz.func49 Tryz.call49 Tryz.ntmps49 mxd (aj2 @anBN449.eq_1 Tryz.results49) rfl (by simp) (by simp[mx]) fun hwf B hnt hgAnn=> ?_
 clear hwf;simp only[argS];have hml:=Fy_ gt;have hat:=fun i p=>mkG_at (gt:=gt) (i:=i) (p:=p)
 have hsm:=fun p=>HK_ hs (p:=p)
 obtain⟨g,hg⟩:∃g,g=mkG gt:=⟨_,rfl⟩;rw[←hg]at hml hat ⊢;obtain⟨R,hR⟩:∃R,R=GI_ gt:=⟨_,rfl⟩;rw[←hR];clear hs hg
 (refine go1 aj0 aj0 aj0 ?_;intros;refine mk_i ?_)
 refine Ad_ (X:={i:Nat//i≤gt.length∧R=GI_ (gt.drop i)}) (fun i=>⟨[(0,Av_ g),(3,.int .i64 i.1)],[]⟩) (fun i=>gt.length-i.1) ⟨0,by simp[hR]⟩ (Sub.lit (by simp)) ?_;clear hR;rintro⟨i,hi,hR⟩;simp only
 by_cases hlt:i<gt.length
 ·obtain⟨p,hp,hp',hpm⟩:=Aj_ hlt;rw[aR0 hlt,hp']at hR;unfold GI_ at hR;rw[List.any_cons]at hR;have hr:=hat i p hp;have hlt2:i<g.length:=by omega
  have hr':g[i]'hlt2=⟨p.1,flat p.2⟩:=(aB0.1 hr).2;have e1:=KW_ p.2 (hk p hpm).2 (hsm p hpm);have w2:IntKind.i64.wrap ((i:Int)+1)=(i:Int)+1:=wq;obtain⟨b,hb⟩:∃b,b=flat p.2:=⟨_,rfl⟩;rw[←hb]at hr hr' e1
  by_cases hd:16<htT p.2
  ·have hd':(16:Int)<(htT p.2:Int):=by omega
   rw[decide_eq_true hd,Bool.true_or]at hR;subst hR;exact go0 (aj1 e1) aj0 (aj7 @dRul.eq_1 hlt hlt2 hr hr' hd hd')
  ·have hd':¬(16:Int)<(htT p.2:Int):=by omega
   rw[decide_eq_false hd,Bool.false_or]at hR
   (refine go1 (aj1 e1) aj0 (aj8 @dRul.eq_1 hlt hlt2 hr hr' hd hd' w2) ?_;intros;refine mk_i ?_)
   refine Ai_.mk ⟨i+1,by omega,hR⟩ (Sub.lit (by simp)) (by simp;omega)
   skip
 ·have hkk:i=gt.length:=by omega
  subst hkk;rw[cB0]at hR;have hR2:R=false:=hR;subst hR2;exact go0 aj0 aj0 (aj1 hml)
theorem Yt_ {k:Int} {s:ByteArray} (h:DF_ k s=true):s.size≤16:=by
 unfold DF_ AO_ at h
 split at h<;>simp only[aL0,decide_eq_true_eq]at h<;>exact h.1.1.2
theorem MX_ {gt:GT} {p:ByteArray×RT} (hk:OkG gt) (hs:SmlG (mkG gt)) (hp:p∈gt):(JF_ p).size≤37748766:=by
 have h1:=Yt_ (hk p hp).1;have h2:=(Fp_ p.2 (hk p hp).2).2;have h3:=HK_ hs hp;unfold JF_;simp only[aN0];have z3:(⟨#[32,61,32]⟩:ByteArray).size=3:=rfl;have z4:(⟨#[32,59,10]⟩:ByteArray).size=3:=rfl;omega
theorem IH_ {gt:GT} (hk:OkG gt) (hs:SmlG (mkG gt)):∀i,i≤gt.length→(BZ_ (gt.take i)).size≤i*37748766
 | 0,_=>by simp[BZ_];decide
 | i+1,h=>by
  have hx:gt[i]? =some (gt[i]'(by omega)):=aH0 (by omega);have ih:=IH_ hk hs i (by omega);have h1:=MX_ hk hs (cR0 (show i<gt.length by omega));rw[Em_ hx,aN0];omega
def anBN450 : Ann:=⟨[],[]⟩
set_option maxHeartbeats 1000000 in
theorem Od_ (gt:GT) (hk:OkG gt) (hs:SmlG (mkG gt)) (hl:gt.length≤64):Ac_ Tryz.prog 50 [Av_ (mkG gt)] (.str (BZ_ gt)):=by
 refine Aa_ [] anBN450 Tryz.func50 Tryz.call50 Tryz.ntmps50 mxd (aj2 @anBN450.eq_1 Tryz.results50) rfl (by simp) (by simp[mx]) fun hwf B hnt hgAnn=> ?_
 clear hwf;simp only[argS];have hml:=Fy_ gt;have hat:=fun i p=>mkG_at (gt:=gt) (i:=i) (p:=p)
 have hsm:=fun p=>HK_ hs (p:=p)
 have hts:=IH_ hk hs;obtain⟨g,hg⟩:∃g,g=mkG gt:=⟨_,rfl⟩;rw[←hg]at hml hat ⊢;clear hs hg;have z0:(⟨#[]⟩:ByteArray).size=0:=rfl;have z3:(⟨#[32,61,32]⟩:ByteArray).size=3:=rfl;have z4:(⟨#[32,59,10]⟩:ByteArray).size=3:=rfl;have m3:3≤maxLen:=by decide
 have mbig:3000000000≤maxLen:=by decide
 (refine go1 aj0 aj0 (aj1 z0) ?_;intros;refine mk_i ?_)
 refine Ad_ (X:={i:Nat//i≤gt.length}) (fun i=>⟨[(0,Av_ g),(3,.str (BZ_ (gt.take i.1))),(4,.int .i64 i.1)],[]⟩) (fun i=>gt.length-i.1) ⟨0,by omega⟩ (Sub.lit (by simp[BZ_])) ?_;rintro⟨i,hi⟩;simp only
 by_cases hlt:i<gt.length
 ·obtain⟨p,hp,hp',hpm⟩:=Aj_ hlt;have hr:=hat i p hp;have hlt2:i<g.length:=by omega
  have hr':g[i]'hlt2=⟨p.1,flat p.2⟩:=(aB0.1 hr).2;have e1:=KE_ _ p.2 (flat p.2) 0 rfl (At.top (hk p hpm).2) (hsm p hpm);have w2:IntKind.i64.wrap ((i:Int)+1)=(i:Int)+1:=wq;have h1:=hts (i+1) (by omega);have hnx:=Em_ hp;rw[hnx]at h1;unfold JF_ at h1 hnx;simp only[aN0,z3,z4]at h1;obtain⟨b,hb⟩:∃b,b=flat p.2:=⟨_,rfl⟩;rw[←hb]at hr hr' e1;obtain⟨s,hs⟩:∃s,s=txtT p.2:=⟨_,rfl⟩;rw[←hs]at e1 h1 hnx;obtain⟨a,ha⟩:∃a,a=BZ_ (gt.take i):=⟨_,rfl⟩
  rw[←ha]at hnx h1 ⊢;have y1:a.size+p.1.size≤maxLen:=by omega
  have y2:a.size+p.1.size+3≤maxLen:=by omega
  have y3:a.size+p.1.size+3+s.size≤maxLen:=by omega
  have y4:a.size+p.1.size+3+s.size+3≤maxLen:=by omega
  have hq:a++p.1++⟨#[32,61,32]⟩++s++⟨#[32,59,10]⟩=BZ_ (gt.take (i+1)):=by rw[hnx];simp only[ByteArray.append_assoc]
  (refine go1 (aj1 e1) aj0 (aj14 @dRul.eq_1 hlt hlt2 hr hr' z3 z4 m3 y1 y2 y3 y4 @aN0 w2) ?_;intros;refine mk_i ?_)
  refine Ai_.mk ⟨i+1,by omega⟩ (Sub.lit (by simp[hq])) (by simp;omega)
  skip
 ·have hkk:i=gt.length:=by omega
  subst hkk;rw[aS0];exact go0 aj0 aj0 (aj1 hml)
def Bz_ : Ann:=⟨[],[]⟩
theorem Mw_ (g:List Rul) (h:g.length<1∨64<g.length):Ac_ Tryz.prog 13 [Av_ g] (.int .i64 180):=by
 refine Aa_ [] Bz_ Tryz.func13 Tryz.call13 Tryz.ntmps13 mxd (aj2 @Bz_.eq_1 Tryz.results13) rfl (by simp) (by simp[mx]) fun hwf B hnt hgAnn=> ?_
 clear hwf;simp only[argS]
 rcases h with h | h
 ·have d1:(g.length:Int)<1:=by omega
  have h0:g=[]:=bN0 (by omega);subst h0;exact go0 aj0 aj0 aj0
 ·have d1:¬(g.length:Int)<1:=by omega
  have d2:(64:Int)<(g.length:Int):=by omega
  have d3:¬g.length<1:=by omega
  exact go0 aj0 aj0 (aj4 d1 d2 h d3)
theorem QL_ (g:List Rul) (h1:1≤g.length) (h2:g.length≤64) (hs:SmlG g) (ht:El_ g=false):Ac_ Tryz.prog 13 [Av_ g] (.int .i64 170):=by
 refine Aa_ [] Bz_ Tryz.func13 Tryz.call13 Tryz.ntmps13 mxd (aj2 @Bz_.eq_1 Tryz.results13) rfl (by simp) (by simp[mx]) fun hwf B hnt hgAnn=> ?_
 clear hwf;simp only[argS];have d1:¬(g.length:Int)<1:=by omega
 have d2:¬(64:Int)<(g.length:Int):=by omega
 have d3:¬g.length<1:=by omega
 have d4:¬64<g.length:=by omega
 have e1:=HD_ g hs;rw[ht]at e1;exact go0 (aj1 e1) aj0 (aj4 d1 d2 d3 d4)
set_option maxHeartbeats 2000000 in
theorem Tc_ (gt:GT) (h1:1≤gt.length) (h2:gt.length≤64) (hk:OkG gt) (hs:SmlG (mkG gt)):Ac_ Tryz.prog 13 [Av_ (mkG gt)] (.int .i64 (Ps_ gt)):=by
 refine Aa_ [] Bz_ Tryz.func13 Tryz.call13 Tryz.ntmps13 mxd (aj2 @Bz_.eq_1 Tryz.results13) rfl (by simp) (by simp[mx]) fun hwf B hnt hgAnn=> ?_
 clear hwf;simp only[argS];have hml:=Fy_ gt;have e1:=HD_ (mkG gt) hs;rw[VH_ hk]at e1;have n2:=DY_ (k:=2) hs;have n3:=DY_ (k:=3) hs;have e2:=HR_ (mkG gt);have e3:=JG_ (mkG gt) (by omega);have e4:=Mv_ (mkG gt) (by omega);have e5:=QG_ (mkG gt) hs (by omega);have e6:=Oi_ gt hk hs h2;have e7:=Od_ gt hk hs h2;have b1:=Gi_ (mkG gt)
 have b2:(Dc_ (mkG gt)).length≤110000000:=by
  have:=Fo_ (AG_ 2 (mkG gt));have:=cG0 (fun s=> !decide (s∈As_ (mkG gt))) (DP_ (AG_ 2 (mkG gt)));unfold Dc_;omega
 obtain⟨g,hg⟩:∃g,g=mkG gt:=⟨_,rfl⟩;obtain⟨C,hC⟩:∃C,C=Ps_ gt:=⟨_,rfl⟩;rw[←hC];unfold Ps_ at hC;rw[←hg]at hml e1 e2 e3 e4 e5 e6 e7 b1 b2 hC ⊢;obtain⟨H,hH⟩:∃H,H=As_ g:=⟨_,rfl⟩;obtain⟨m,hm⟩:∃m,m=(Dc_ g).length:=⟨_,rfl⟩;obtain⟨L,hL⟩:∃L,L=Aw_ g:=⟨_,rfl⟩;obtain⟨o,ho⟩:∃o,o=occG g:=⟨_,rfl⟩;obtain⟨T,hT⟩:∃T,T=BZ_ gt:=⟨_,rfl⟩;rw[←hH]at e2 b1 hC;rw[←hm]at e3 b2 hC;rw[←hL]at e4 hC;rw[←ho]at e5 hC;rw[←hT]at e7 hC
 clear hH hm hL ho hT n2 n3 hg;have d1:¬(g.length:Int)<1:=by omega
 have d2:¬(64:Int)<(g.length:Int):=by omega
 have d3:¬g.length<1:=by omega
 have d4:¬64<g.length:=by omega
 have w1:IntKind.i64.wrap ((H.length:Int)+(m:Int))=((H.length+m:Nat):Int):=by rw[wq];omega
 by_cases c1:16<H.length+m
 ·have q1:(16:Int)<((H.length+m:Nat):Int):=by omega
  rw[if_pos c1]at hC;subst hC
  (repeat (first | refine Ax_ fun K hK=> ?_ | (refine DW_r Bz_ mxd (by kernel_rfl) ?_;simp[Bz_,hnt,d1,d2,d3,d4,w1,c1,q1, -Int.natCast_add];try simp (disch:=omega) only[Ah_]) | refine An_ ?_ | (refine AW_ ?_ ?_ ?_;(· (simp[hnt,d1,d2,d3,d4,w1,c1,q1, -Int.natCast_add];done));(try (rotate_left;(· (intro hc;(try simp[hnt,d1,d2,d3,d4,w1,c1,q1, -Int.natCast_add]at hc);done))))) | (refine AC_ ?_;simp[Tryz.results13,hnt,d1,d2,d3,d4,w1,c1,q1, -Int.natCast_add]) | ((first | refine Ar_ ?_ | refine Aq_ ?_);simp[hnt,d1,d2,d3,d4,w1,c1,q1, -Int.natCast_add]) | (intro hc;(try simp[hnt,d1,d2,d3,d4,w1,c1,q1, -Int.natCast_add]at hc);(try (exfalso;omega))) | ((first | refine Ag_ (e1) ?_ | refine Ag_ (e2) ?_ | refine Ag_ (e3) ?_ | refine Ag_ (e4) ?_ | refine Ag_ (e5) ?_ | refine Ag_ (e6) ?_ | refine Ag_ (e7) ?_ | (refine Af_ (e1) ?_ ?_;(· (simp;done))) | (refine Af_ (e2) ?_ ?_;(· (simp;done))) | (refine Af_ (e3) ?_ ?_;(· (simp;done))) | (refine Af_ (e4) ?_ ?_;(· (simp;done))) | (refine Af_ (e5) ?_ ?_;(· (simp;done))) | (refine Af_ (e6) ?_ ?_;(· (simp;done))) | (refine Af_ (e7) ?_ ?_;(· (simp;done))));try simp[hnt,d1,d2,d3,d4,w1,c1,q1, -Int.natCast_add]) | (refine⟨?_,?_⟩; · omega) | omega | apply_assumption -exfalso -symm | (exfalso;omega)))
 rw[if_neg c1]at hC;have q1:¬(16:Int)<((H.length+m:Nat):Int):=by omega
 by_cases c2:16<L.length
 ·have q2:(16:Int)<(L.length:Int):=by omega
  rw[if_pos c2]at hC;subst hC
  (repeat (first | refine Ax_ fun K hK=> ?_ | (refine DW_r Bz_ mxd (by kernel_rfl) ?_;simp[Bz_,hnt,d1,d2,d3,d4,w1,c1,q1,c2,q2, -Int.natCast_add];try simp (disch:=omega) only[Ah_]) | refine An_ ?_ | (refine AW_ ?_ ?_ ?_;(· (simp[hnt,d1,d2,d3,d4,w1,c1,q1,c2,q2, -Int.natCast_add];done));(try (rotate_left;(· (intro hc;(try simp[hnt,d1,d2,d3,d4,w1,c1,q1,c2,q2, -Int.natCast_add]at hc);done))))) | (refine AC_ ?_;simp[Tryz.results13,hnt,d1,d2,d3,d4,w1,c1,q1,c2,q2, -Int.natCast_add]) | ((first | refine Ar_ ?_ | refine Aq_ ?_);simp[hnt,d1,d2,d3,d4,w1,c1,q1,c2,q2, -Int.natCast_add]) | (intro hc;(try simp[hnt,d1,d2,d3,d4,w1,c1,q1,c2,q2, -Int.natCast_add]at hc);(try (exfalso;omega))) | ((first | refine Ag_ (e1) ?_ | refine Ag_ (e2) ?_ | refine Ag_ (e3) ?_ | refine Ag_ (e4) ?_ | refine Ag_ (e5) ?_ | refine Ag_ (e6) ?_ | refine Ag_ (e7) ?_ | (refine Af_ (e1) ?_ ?_;(· (simp;done))) | (refine Af_ (e2) ?_ ?_;(· (simp;done))) | (refine Af_ (e3) ?_ ?_;(· (simp;done))) | (refine Af_ (e4) ?_ ?_;(· (simp;done))) | (refine Af_ (e5) ?_ ?_;(· (simp;done))) | (refine Af_ (e6) ?_ ?_;(· (simp;done))) | (refine Af_ (e7) ?_ ?_;(· (simp;done))));try simp[hnt,d1,d2,d3,d4,w1,c1,q1,c2,q2, -Int.natCast_add]) | (refine⟨?_,?_⟩; · omega) | omega | apply_assumption -exfalso -symm | (exfalso;omega)))
 rw[if_neg c2]at hC;have q2:¬(16:Int)<(L.length:Int):=by omega
 by_cases c3:64<o
 ·have q3:(64:Int)<(o:Int):=by omega
  rw[if_pos c3]at hC;subst hC
  (repeat (first | refine Ax_ fun K hK=> ?_ | (refine DW_r Bz_ mxd (by kernel_rfl) ?_;simp[Bz_,hnt,d1,d2,d3,d4,w1,c1,q1,c2,q2,c3,q3, -Int.natCast_add];try simp (disch:=omega) only[Ah_]) | refine An_ ?_ | (refine AW_ ?_ ?_ ?_;(· (simp[hnt,d1,d2,d3,d4,w1,c1,q1,c2,q2,c3,q3, -Int.natCast_add];done));(try (rotate_left;(· (intro hc;(try simp[hnt,d1,d2,d3,d4,w1,c1,q1,c2,q2,c3,q3, -Int.natCast_add]at hc);done))))) | (refine AC_ ?_;simp[Tryz.results13,hnt,d1,d2,d3,d4,w1,c1,q1,c2,q2,c3,q3, -Int.natCast_add]) | ((first | refine Ar_ ?_ | refine Aq_ ?_);simp[hnt,d1,d2,d3,d4,w1,c1,q1,c2,q2,c3,q3, -Int.natCast_add]) | (intro hc;(try simp[hnt,d1,d2,d3,d4,w1,c1,q1,c2,q2,c3,q3, -Int.natCast_add]at hc);(try (exfalso;omega))) | ((first | refine Ag_ (e1) ?_ | refine Ag_ (e2) ?_ | refine Ag_ (e3) ?_ | refine Ag_ (e4) ?_ | refine Ag_ (e5) ?_ | refine Ag_ (e6) ?_ | refine Ag_ (e7) ?_ | (refine Af_ (e1) ?_ ?_;(· (simp;done))) | (refine Af_ (e2) ?_ ?_;(· (simp;done))) | (refine Af_ (e3) ?_ ?_;(· (simp;done))) | (refine Af_ (e4) ?_ ?_;(· (simp;done))) | (refine Af_ (e5) ?_ ?_;(· (simp;done))) | (refine Af_ (e6) ?_ ?_;(· (simp;done))) | (refine Af_ (e7) ?_ ?_;(· (simp;done))));try simp[hnt,d1,d2,d3,d4,w1,c1,q1,c2,q2,c3,q3, -Int.natCast_add]) | (refine⟨?_,?_⟩; · omega) | omega | apply_assumption -exfalso -symm | (exfalso;omega)))
 rw[if_neg c3]at hC;have q3:¬(64:Int)<(o:Int):=by omega
 cases c4:GI_ gt
 rotate_left
 ·rw[if_pos c4]at hC;rw[c4]at e6;subst hC
  (repeat (first | refine Ax_ fun K hK=> ?_ | (refine DW_r Bz_ mxd (by kernel_rfl) ?_;simp[Bz_,hnt,d1,d2,d3,d4,w1,c1,q1,c2,q2,c3,q3, -Int.natCast_add];try simp (disch:=omega) only[Ah_]) | refine An_ ?_ | (refine AW_ ?_ ?_ ?_;(· (simp[hnt,d1,d2,d3,d4,w1,c1,q1,c2,q2,c3,q3, -Int.natCast_add];done));(try (rotate_left;(· (intro hc;(try simp[hnt,d1,d2,d3,d4,w1,c1,q1,c2,q2,c3,q3, -Int.natCast_add]at hc);done))))) | (refine AC_ ?_;simp[Tryz.results13,hnt,d1,d2,d3,d4,w1,c1,q1,c2,q2,c3,q3, -Int.natCast_add]) | ((first | refine Ar_ ?_ | refine Aq_ ?_);simp[hnt,d1,d2,d3,d4,w1,c1,q1,c2,q2,c3,q3, -Int.natCast_add]) | (intro hc;(try simp[hnt,d1,d2,d3,d4,w1,c1,q1,c2,q2,c3,q3, -Int.natCast_add]at hc);(try (exfalso;omega))) | ((first | refine Ag_ (e1) ?_ | refine Ag_ (e2) ?_ | refine Ag_ (e3) ?_ | refine Ag_ (e4) ?_ | refine Ag_ (e5) ?_ | refine Ag_ (e6) ?_ | refine Ag_ (e7) ?_ | (refine Af_ (e1) ?_ ?_;(· (simp;done))) | (refine Af_ (e2) ?_ ?_;(· (simp;done))) | (refine Af_ (e3) ?_ ?_;(· (simp;done))) | (refine Af_ (e4) ?_ ?_;(· (simp;done))) | (refine Af_ (e5) ?_ ?_;(· (simp;done))) | (refine Af_ (e6) ?_ ?_;(· (simp;done))) | (refine Af_ (e7) ?_ ?_;(· (simp;done))));try simp[hnt,d1,d2,d3,d4,w1,c1,q1,c2,q2,c3,q3, -Int.natCast_add]) | (refine⟨?_,?_⟩; · omega) | omega | apply_assumption -exfalso -symm | (exfalso;omega)))
 rw[if_neg (by rw[c4];simp)]at hC;rw[c4]at e6
 by_cases c5:0<m
 ·have q5:(0:Int)<(m:Int):=by omega
  rw[if_pos c5]at hC;subst hC
  (repeat (first | refine Ax_ fun K hK=> ?_ | (refine DW_r Bz_ mxd (by kernel_rfl) ?_;simp[Bz_,hnt,d1,d2,d3,d4,w1,c1,q1,c2,q2,c3,q3,c5,q5, -Int.natCast_add];try simp (disch:=omega) only[Ah_]) | refine An_ ?_ | (refine AW_ ?_ ?_ ?_;(· (simp[hnt,d1,d2,d3,d4,w1,c1,q1,c2,q2,c3,q3,c5,q5, -Int.natCast_add];done));(try (rotate_left;(· (intro hc;(try simp[hnt,d1,d2,d3,d4,w1,c1,q1,c2,q2,c3,q3,c5,q5, -Int.natCast_add]at hc);done))))) | (refine AC_ ?_;simp[Tryz.results13,hnt,d1,d2,d3,d4,w1,c1,q1,c2,q2,c3,q3,c5,q5, -Int.natCast_add]) | ((first | refine Ar_ ?_ | refine Aq_ ?_);simp[hnt,d1,d2,d3,d4,w1,c1,q1,c2,q2,c3,q3,c5,q5, -Int.natCast_add]) | (intro hc;(try simp[hnt,d1,d2,d3,d4,w1,c1,q1,c2,q2,c3,q3,c5,q5, -Int.natCast_add]at hc);(try (exfalso;omega))) | ((first | refine Ag_ (e1) ?_ | refine Ag_ (e2) ?_ | refine Ag_ (e3) ?_ | refine Ag_ (e4) ?_ | refine Ag_ (e5) ?_ | refine Ag_ (e6) ?_ | refine Ag_ (e7) ?_ | (refine Af_ (e1) ?_ ?_;(· (simp;done))) | (refine Af_ (e2) ?_ ?_;(· (simp;done))) | (refine Af_ (e3) ?_ ?_;(· (simp;done))) | (refine Af_ (e4) ?_ ?_;(· (simp;done))) | (refine Af_ (e5) ?_ ?_;(· (simp;done))) | (refine Af_ (e6) ?_ ?_;(· (simp;done))) | (refine Af_ (e7) ?_ ?_;(· (simp;done))));try simp[hnt,d1,d2,d3,d4,w1,c1,q1,c2,q2,c3,q3,c5,q5, -Int.natCast_add]) | (refine⟨?_,?_⟩; · omega) | omega | apply_assumption -exfalso -symm | (exfalso;omega)))
 rw[if_neg c5]at hC;have q5:¬(0:Int)<(m:Int):=by omega
 by_cases c6:2048<T.size
 ·have q6:(2048:Int)<(T.size:Int):=by omega
  rw[if_pos c6]at hC;subst hC
  (repeat (first | refine Ax_ fun K hK=> ?_ | (refine DW_r Bz_ mxd (by kernel_rfl) ?_;simp[Bz_,hnt,d1,d2,d3,d4,w1,c1,q1,c2,q2,c3,q3,c5,q5,c6,q6, -Int.natCast_add];try simp (disch:=omega) only[Ah_]) | refine An_ ?_ | (refine AW_ ?_ ?_ ?_;(· (simp[hnt,d1,d2,d3,d4,w1,c1,q1,c2,q2,c3,q3,c5,q5,c6,q6, -Int.natCast_add];done));(try (rotate_left;(· (intro hc;(try simp[hnt,d1,d2,d3,d4,w1,c1,q1,c2,q2,c3,q3,c5,q5,c6,q6, -Int.natCast_add]at hc);done))))) | (refine AC_ ?_;simp[Tryz.results13,hnt,d1,d2,d3,d4,w1,c1,q1,c2,q2,c3,q3,c5,q5,c6,q6, -Int.natCast_add]) | ((first | refine Ar_ ?_ | refine Aq_ ?_);simp[hnt,d1,d2,d3,d4,w1,c1,q1,c2,q2,c3,q3,c5,q5,c6,q6, -Int.natCast_add]) | (intro hc;(try simp[hnt,d1,d2,d3,d4,w1,c1,q1,c2,q2,c3,q3,c5,q5,c6,q6, -Int.natCast_add]at hc);(try (exfalso;omega))) | ((first | refine Ag_ (e1) ?_ | refine Ag_ (e2) ?_ | refine Ag_ (e3) ?_ | refine Ag_ (e4) ?_ | refine Ag_ (e5) ?_ | refine Ag_ (e6) ?_ | refine Ag_ (e7) ?_ | (refine Af_ (e1) ?_ ?_;(· (simp;done))) | (refine Af_ (e2) ?_ ?_;(· (simp;done))) | (refine Af_ (e3) ?_ ?_;(· (simp;done))) | (refine Af_ (e4) ?_ ?_;(· (simp;done))) | (refine Af_ (e5) ?_ ?_;(· (simp;done))) | (refine Af_ (e6) ?_ ?_;(· (simp;done))) | (refine Af_ (e7) ?_ ?_;(· (simp;done))));try simp[hnt,d1,d2,d3,d4,w1,c1,q1,c2,q2,c3,q3,c5,q5,c6,q6, -Int.natCast_add]) | (refine⟨?_,?_⟩; · omega) | omega | apply_assumption -exfalso -symm | (exfalso;omega)))
 rw[if_neg c6]at hC;have q6:¬(2048:Int)<(T.size:Int):=by omega
 subst hC
 (repeat (first | refine Ax_ fun K hK=> ?_ | (refine DW_r Bz_ mxd (by kernel_rfl) ?_;simp[Bz_,hnt,d1,d2,d3,d4,w1,c1,q1,c2,q2,c3,q3,c5,q5,c6,q6, -Int.natCast_add];try simp (disch:=omega) only[Ah_]) | refine An_ ?_ | (refine AW_ ?_ ?_ ?_;(· (simp[hnt,d1,d2,d3,d4,w1,c1,q1,c2,q2,c3,q3,c5,q5,c6,q6, -Int.natCast_add];done));(try (rotate_left;(· (intro hc;(try simp[hnt,d1,d2,d3,d4,w1,c1,q1,c2,q2,c3,q3,c5,q5,c6,q6, -Int.natCast_add]at hc);done))))) | (refine AC_ ?_;simp[Tryz.results13,hnt,d1,d2,d3,d4,w1,c1,q1,c2,q2,c3,q3,c5,q5,c6,q6, -Int.natCast_add]) | ((first | refine Ar_ ?_ | refine Aq_ ?_);simp[hnt,d1,d2,d3,d4,w1,c1,q1,c2,q2,c3,q3,c5,q5,c6,q6, -Int.natCast_add]) | (intro hc;(try simp[hnt,d1,d2,d3,d4,w1,c1,q1,c2,q2,c3,q3,c5,q5,c6,q6, -Int.natCast_add]at hc);(try (exfalso;omega))) | ((first | refine Ag_ (e1) ?_ | refine Ag_ (e2) ?_ | refine Ag_ (e3) ?_ | refine Ag_ (e4) ?_ | refine Ag_ (e5) ?_ | refine Ag_ (e6) ?_ | refine Ag_ (e7) ?_ | (refine Af_ (e1) ?_ ?_;(· (simp;done))) | (refine Af_ (e2) ?_ ?_;(· (simp;done))) | (refine Af_ (e3) ?_ ?_;(· (simp;done))) | (refine Af_ (e4) ?_ ?_;(· (simp;done))) | (refine Af_ (e5) ?_ ?_;(· (simp;done))) | (refine Af_ (e6) ?_ ?_;(· (simp;done))) | (refine Af_ (e7) ?_ ?_;(· (simp;done))));try simp[hnt,d1,d2,d3,d4,w1,c1,q1,c2,q2,c3,q3,c5,q5,c6,q6, -Int.natCast_add]) | (refine⟨?_,?_⟩; · omega) | omega | apply_assumption -exfalso -symm | (exfalso;omega)))
def keyL (b:Bool) (l:List ByteArray):List DVal:=l.map fun s=> .agg [.bool b,.str s]
def upTo (n:Nat):List DVal:=(List.range n).map fun i:Nat=>DVal.int .i64 (i:Int)
theorem FG_ (b:Bool) (s:ByteArray) (l:List ByteArray):keyL b (s::l)= .agg [.bool b,.str s]::keyL b l:=rfl
theorem keyL_len (b:Bool) (l:List ByteArray):(keyL b l).length=l.length:=by simp[keyL]
theorem Rp_ (b:Bool) (l:List ByteArray) (s:ByteArray):keyL b (l++[s])=keyL b l++[.agg [.bool b,.str s]]:=by simp[keyL]
theorem KD_ (n:Nat):upTo (n+1)=upTo n++[.int .i64 (n:Int)]:=by simp[upTo,dA0]
theorem NQ_ (n:Nat):(upTo n).length=n:=by simp[upTo]
@[simp] theorem mxL_keyL (b:Bool) (l:List ByteArray):mxL (keyL b l)=0:=by
 induction l with
 | nil=>rfl
 | cons a l ih=>rw[FG_];simp[mxL,mx,ih]
@[simp] theorem mxL_upTo (n:Nat):mxL (upTo n)=0:=by
 unfold upTo
 induction List.range n with
 | nil=>rfl
 | cons a l ih=>simp[mxL,mx,ih]
theorem key_eq (a b:Bool) (s x:ByteArray):eqCs (Bq_ (.agg [.bool a,.str s])) (Bq_ (.agg [.bool b,.str x]))=((a==b)&&(s==x)):=by
 simp[Bq_,eqCs,eqC]
theorem Ge_ {b:Bool}:∀{l:List ByteArray} {s:ByteArray},¬s∈l→AJ_ (keyL b l) (.agg [.bool b,.str s])=none
 | [],_,_=>rfl
 | x::l,s,h=>by
  have h1:(s==x)=false:=by simp;intro e;exact h (by simp[e])
  rw[FG_,AJ_,key_eq,h1,Ge_ (l:=l) (s:=s) fun hm=>h (aC0 _ hm)];simp
theorem EQ_ {b:Bool}:∀{l:List ByteArray} {s:ByteArray},AJ_ (keyL (!b) l) (.agg [.bool b,.str s])=none
 | [],_=>rfl
 | x::l,s=>by
  rw[FG_,AJ_,key_eq,EQ_ (l:=l) (s:=s)];cases b<;>simp
theorem IT_ {b:Bool}:∀{l:List ByteArray} {s:ByteArray},s∈l→AJ_ (keyL b l) (.agg [.bool b,.str s])=some (ixS l s)
 | [],_,h=>by simp at h
 | x::l,s,h=>by
  unfold ixS;rw[List.findIdx_cons,FG_,AJ_,key_eq]
  by_cases h1:s=x
  ·subst h1;simp
  ·have h2:=IT_ (b:=b) (l:=l) (s:=s) (by simpa[h1]using h);have h1b:(s==x)=false:=by simpa using h1
   rw[h2];simp[h1b,ixS]
theorem Lq_ : ∀(a b:List DVal) (x:DVal),AJ_ (a++b) x=match AJ_ a x with | some j=>some j | none=>(AJ_ b x).map (· +a.length)
 | [],b,x=>by simp[AJ_]
 | k::a,b,x=>by
  rw[List.cons_append,AJ_,AJ_,Lq_ a b x]
  split
  ·rfl
  ·cases AJ_ a x with
   | some j=>rfl
   | none=>cases AJ_ b x<;>simp;omega
theorem TE_ (b:Bool) (l:List ByteArray):(keyL b l).all (Cd_ Tryz.prog 134)=true:=by
 induction l with
 | nil=>rfl
 | cons p l ih=>rw[FG_,cT0,ih];simp
def tabK (H L:List ByteArray):List DVal:=keyL false H++keyL true L
def tabV (H L:List ByteArray):List DVal:=upTo H.length++upTo L.length
abbrev dTab (H L:List ByteArray):DVal:= .ref [AP_ H,AP_ L,.mp (tabK H L) (tabV H L)]
@[simp] theorem mx_tabK (H L:List ByteArray):mxL (tabK H L)=0:=by simp[tabK]
@[simp] theorem mx_tabV (H L:List ByteArray):mxL (tabV H L)=0:=by simp[tabV]
theorem tab_ok (H L:List ByteArray):(tabK H L).all (Cd_ Tryz.prog 134)=true:=by
 unfold tabK;rw[List.all_append,TE_,TE_];rfl
def QN_ (H L:List ByteArray) (b:Bool):List ByteArray:=if b then L else H
def numK (l:List ByteArray) (s:ByteArray):Int:=if s∈l then (ixS l s:Int)else 0
def numE (l:List ByteArray) (s:ByteArray):Int:=if s∈l then 0 else 4
theorem NR_ {n i:Nat} (h:i<n):(upTo n)[i]? =some (.int .i64 (i:Int)):=by
 unfold upTo;rw[bM0,eO0 h];rfl
theorem tab_look {H L:List ByteArray} {b:Bool} {s:ByteArray} (h:s∈QN_ H L b):∃j,AJ_ (tabK H L) (.agg [.bool b,.str s])=some j∧(tabV H L)[j]? =some (.int .i64 (ixS (QN_ H L b) s)):=by
 unfold tabK tabV;rw[Lq_]
 cases b with
 | false =>
  have h':s∈H:=h;rw[IT_ h'];have hi:=Js_ h';exact⟨_,rfl,by rw[bA0 (by rw[NQ_];exact hi)];exact NR_ hi⟩
 | true =>
  have h':s∈L:=h;have hi:=Js_ h';have h0:AJ_ (keyL false H) (.agg [.bool true,.str s])=none:=EQ_ (b:=true);rw[h0,IT_ h'];refine⟨_,rfl,?_⟩
  show (upTo H.length++upTo L.length)[ixS L s+(keyL false H).length]? =_
  rw[keyL_len,bE0 (by rw[NQ_];omega),NQ_,Nat.add_sub_cancel];exact NR_ hi
theorem Ux_ {H L:List ByteArray} {b:Bool} {s:ByteArray} (h:¬s∈QN_ H L b):AJ_ (tabK H L) (.agg [.bool b,.str s])=none:=by
 unfold tabK;rw[Lq_]
 cases b with
 | false =>
  have h':¬s∈H:=h;rw[Ge_ h',show AJ_ (keyL true L) (.agg [.bool false,.str s])=none from EQ_ (b:=false)];rfl
 | true =>
  have h':¬s∈L:=h;rw[show AJ_ (keyL false H) (.agg [.bool true,.str s])=none from EQ_ (b:=true),Ge_ h'];rfl
def anSY094 : Ann:=⟨[],[]⟩
theorem DT_ (H L:List ByteArray):Ac_ Tryz.prog 94 [dTab H L] (.bool true):=by
 refine Aa_ [] anSY094 Tryz.func94 Tryz.call94 Tryz.ntmps94 mxd (aj2 @anSY094.eq_1 Tryz.results94) rfl (by simp) (by simp[mx]) fun hwf B hnt hgAnn=> ?_
 clear hwf;simp only[argS];exact go0 aj0 aj0 aj0
def anSY093 : Ann:=⟨[],[]⟩
theorem GU_ (H L:List ByteArray) (b:Bool) (s:ByteArray):Ac_ Tryz.prog 93 [dTab H L,.agg [.bool b,.str s]] (.tup [.int .i64 (numK (QN_ H L b) s),.int .i64 (numE (QN_ H L b) s)]):=by
 refine Aa_ [] anSY093 Tryz.func93 Tryz.call93 Tryz.ntmps93 mxd (aj2 @anSY093.eq_1 Tryz.results93) rfl (by simp) (by simp[mx]) fun hwf B hnt hgAnn=> ?_
 clear hwf;simp only[argS];have e1:=DT_ H L;have hok:=tab_ok H L;unfold numK numE
 by_cases h:s∈QN_ H L b
 ·obtain⟨j,h1,h2⟩:=tab_look h;rw[if_pos h,if_pos h];exact go0 (aj1 e1) aj0 (aj3 hok h1 h2)
 ·have h1:=Ux_ h;rw[if_neg h,if_neg h];exact go0 (aj1 e1) aj0 (aj2 hok h1)
def anSY030 : Ann:=⟨[],[]⟩
theorem Ng_ (H L:List ByteArray) (s:ByteArray):Ac_ Tryz.prog 30 [dTab H L,.str s] (.tup [.int .i64 (numK H s),.int .i64 (numE H s)]):=by
 refine Aa_ [] anSY030 Tryz.func30 Tryz.call30 Tryz.ntmps30 mxd (aj2 @anSY030.eq_1 Tryz.results30) rfl (by simp) (by simp[mx]) fun hwf B hnt hgAnn=> ?_
 clear hwf;simp only[argS];have e1:=GU_ H L false s;rw[show QN_ H L false=H from rfl]at e1;exact go0 (aj1 e1) aj0 aj0
def anSY095 : Ann:=⟨[],[]⟩
theorem Ie_ (H L:List ByteArray) (s:ByteArray):Ac_ Tryz.prog 95 [dTab H L,.str s] (.tup [.int .i64 (numK L s),.int .i64 (numE L s)]):=by
 refine Aa_ [] anSY095 Tryz.func95 Tryz.call95 Tryz.ntmps95 mxd (aj2 @anSY095.eq_1 Tryz.results95) rfl (by simp) (by simp[mx]) fun hwf B hnt hgAnn=> ?_
 clear hwf;simp only[argS];have e1:=GU_ H L true s;rw[show QN_ H L true=L from rfl]at e1;exact go0 (aj1 e1) aj0 aj0
def symS (H L:List ByteArray) (x:Nd):Sym:=if x.k=3 then (if x.s∈L then ⟨true,ixS L x.s⟩else ⟨false,0⟩)else if x.k=2 then (if x.s∈H then ⟨false,ixS H x.s⟩else ⟨false,0⟩)else ⟨false,0⟩
def symE (H L:List ByteArray) (x:Nd):Int:=if x.k=3 then numE L x.s else if x.k=2 then numE H x.s else 2
def Xf_ : Ann:=⟨[],[]⟩
set_option maxHeartbeats 1000000 in
theorem MT_ (H L:List ByteArray) (x:Nd):Ac_ Tryz.prog 102 [dTab H L,.agg (dNd x)] (.tup [.agg (dSym (symS H L x)),.int .i64 (symE H L x)]):=by
 refine Aa_ [] Xf_ Tryz.func102 Tryz.call102 Tryz.ntmps102 mxd (aj2 @Xf_.eq_1 Tryz.results102) rfl (by simp) (by simp[mx]) fun hwf B hnt hgAnn=> ?_
 clear hwf;simp only[argS];have e1:=DT_ H L;have e2:=Ng_ H L x.s;have e3:=Ie_ H L x.s;unfold symS symE
 by_cases k3:x.k=3
 ·by_cases h:x.s∈L
  ·simp only[numK,numE,h,if_true]at e3;exact go0 (aj3 e1 e2 e3) aj0 (aj5 @dNd.eq_1 @dSym.eq_1 k3 h @numE.eq_1)
  ·simp only[numK,numE,h,if_false]at e3;exact go0 (aj3 e1 e2 e3) aj0 (aj5 @dNd.eq_1 @dSym.eq_1 k3 h @numE.eq_1)
 ·have k3':(x.k==3)=false:=by simpa using k3
  by_cases k2:x.k=2
  ·by_cases h:x.s∈H
   ·simp only[numK,numE,h,if_true]at e2;exact go0 (aj3 e1 e2 e3) aj0 (aj7 @dNd.eq_1 @dSym.eq_1 k3 k3' k2 h @numE.eq_1)
   ·simp only[numK,numE,h,if_false]at e2;exact go0 (aj3 e1 e2 e3) aj0 (aj7 @dNd.eq_1 @dSym.eq_1 k3 k3' k2 h @numE.eq_1)
  ·have k2':(x.k==2)=false:=by simpa using k2
   exact go0 (aj3 e1 e2 e3) aj0 (aj6 @dNd.eq_1 @dSym.eq_1 k3 k3' k2 k2')
def anSY033 : Ann:=⟨[],[]⟩
theorem Fx_ (H L:List ByteArray):Ac_ Tryz.prog 33 [dTab H L] (AP_ H):=by
 refine Aa_ [] anSY033 Tryz.func33 Tryz.call33 Tryz.ntmps33 mxd (aj2 @anSY033.eq_1 Tryz.results33) rfl (by simp) (by simp[mx]) fun hwf B hnt hgAnn=> ?_
 clear hwf;simp only[argS];have e1:=DT_ H L;have e2:=Ht_ H;exact go0 (aj2 e1 e2) aj0 aj0
def bldO (i j:Nat) (T:ByteArray):List Ent:=if T.size=0 then [⟨i,1,.row 338 2 32 [[.nilp,.nilsl]]⟩]else [⟨i,1,.row 338 2 32 [[.rx i 1 2 0 0,.osl j 1]]⟩,⟨j,1,.row 5 1 1 (AH_ T)⟩]
theorem BT_ {i j:Nat} {T:ByteArray} (h:T.size=0):bldO i j T=[⟨i,1,.row 338 2 32 [[.nilp,.nilsl]]⟩]:=if_pos h
theorem Bt_ {i j:Nat} {T:ByteArray} (h:T.size≠0):bldO i j T=[⟨i,1,.row 338 2 32 [[.rx i 1 2 0 0,.osl j 1]]⟩,⟨j,1,.row 5 1 1 (AH_ T)⟩]:=if_neg h
theorem Ob_ {T:ByteArray} (h:T.size=0):T=⟨#[]⟩:=by
 obtain⟨a⟩:=T;have:a= #[]:=Array.eq_empty_of_size_eq_zero h;rw[this]
theorem Iq_ (x:ByteArray):(⟨#[]⟩:ByteArray)++x=x:=by
 apply Ex_
 simp[eI0]
theorem Qq_ (a b c:ByteArray):a++b++c=a++(b++c):=by
 apply Ex_
 simp[eI0]
theorem textN_eq (T n:ByteArray):T++(n++⟨#[32,59,10]⟩)=IG_ T n:=by unfold IG_;rw[Qq_]
theorem Uw_ (T:ByteArray) (x:Edge):T++(x.fr++⟨#[32]⟩++x.lb++⟨#[32]⟩++x.to++⟨#[32,59,10]⟩)=GD_ T x:=by unfold GD_;simp only[Qq_]
def IB_ : Ann:=⟨[17,37,39],[⟨1,[3],[],[]⟩,⟨9,[7],[],[]⟩]⟩
set_option maxHeartbeats 4000000 in
theorem Ql_ (g:Edges) (hg:SmallG g):Ac_ Tryz.prog 249 [.agg (dGr g)] (.str (textB g)):=by
 refine Aa_ [] IB_ Tryz.func249 Tryz.call249 Tryz.ntmps249 mxd (aj2 @IB_.eq_1 Tryz.results249) rfl (by simp) (by simp[mx]) fun hwf B hnt hgAnn=> ?_
 clear hwf;simp only[argS];obtain⟨R,hRR⟩:∃R,R=textB g:=⟨_,rfl⟩;rw[←hRR];have h1:=Rl_ g;obtain⟨s1,s2⟩:=YV_ hg;obtain⟨L,hL⟩:∃L,L=Rk_ g:=⟨_,rfl⟩;have hR:textB g=g.edges.foldl GD_ (L.foldl IG_ ⟨#[]⟩):=by rw[hL];rfl
 rw[hR]at hRR;clear hR;rw[←hL]at h1 s1 s2;clear hL;obtain⟨n1,n2,n3,n4⟩:=hg;obtain⟨ns,es⟩:=g;simp only[dGr]at h1 n3 n4 hRR;clear n1 n2;have hsL:=Lr_ L ⟨#[]⟩ s2;rw[show (⟨#[]⟩:ByteArray).size=0 from rfl]at hsL;have e0:(⟨#[]⟩:ByteArray).size≤maxLen:=cW0 _;have m3:3≤maxLen:=by unfold maxLen;omega
 have m1:1≤maxLen:=by unfold maxLen;omega
 refine Ax_ fun K0 hK0=> ?_
 (first | refine Ax_ fun K hK=> ?_ | (refine DW_r IB_ mxd (by kernel_rfl) ?_;simp[IB_,hnt,dGr,e0];try simp (disch:=omega) only[Ah_]) | refine An_ ?_ | (refine AW_ ?_ ?_ ?_;(· (simp[hnt,dGr,e0];done));(try (rotate_left;(· (intro hc;(try simp[hnt,dGr,e0]at hc);done))))) | (refine AC_ ?_;simp[Tryz.results249,hnt,dGr,e0]) | ((first | refine Ar_ ?_ | refine Aq_ ?_);simp[hnt,dGr,e0]) | (intro hc;(try simp[hnt,dGr,e0]at hc);(try (exfalso;omega))) | (refine⟨?_,?_⟩; · omega) | omega | apply_assumption -exfalso -symm | (exfalso;omega))
 apply hK0
 refine Ax_ fun K1 hK1=> ?_
 refine FU_ (bs:=32) (k:=2) (z:=[.nilp,.nilsl]) (by simp[hnt,Tryz.ntmps249]) (by simp) (by rfl) rfl (by decide) (fun r hr=> ?_);simp
 apply hK1
 (refine go1 (aj1 h1) aj0 (aj2 @dGr.eq_1 e0) ?_;intros;refine mk_i ?_)
 refine Ad_ (X:={k:Nat//k≤L.length}) (fun k=>⟨[(1,.ref [AP_ ns,dEds es]),(3,.rx 3 1 2 0 0),(9,AP_ L),(10,.int .i64 L.length),(11,.int .i64 k.1)],bldO 3 50 ((L.take k.1).foldl IG_ ⟨#[]⟩)⟩) (fun k=>L.length-k.1) ⟨0,by omega⟩ (Sub.lit (by simp only[eT0,List.foldl_nil,BT_ (T:=⟨#[]⟩) rfl];simp)) ?_;rintro⟨k,hk⟩
 by_cases hlt:k<L.length
 ·obtain⟨x,hx,hx',hxm⟩:=Aj_ hlt;have htk:=Ja_ (f:=IG_) (b:=⟨#[]⟩) hx;have hsz:=Lr_ (L.take k) ⟨#[]⟩ fun n hn=>s2 n (cK0 hn)
  rw[show (⟨#[]⟩:ByteArray).size=0 from rfl,bB0]at hsz;obtain⟨T,hT⟩:∃T,T=(L.take k).foldl IG_ ⟨#[]⟩:=⟨_,rfl⟩;rw[←hT]at htk hsz ⊢;have hxs:=s2 x hxm;have q1:x.size+3≤maxLen:=by unfold maxLen;omega
  have hsx:(x++⟨#[32,59,10]⟩:ByteArray).size=x.size+3:=by rw[aN0];rfl
  have hN:=textN_eq T x;have hNs:(IG_ T x).size≠0:=by rw[MS_];omega
  have hnew:=Bt_ (i:=3) (j:=50) hNs;rw[←htk]at hnew
  by_cases hT0:T.size=0
  ·rw[BT_ hT0];have e1:=BL_ (x++⟨#[32,59,10]⟩) (by omega);rw[Ob_ hT0,Iq_]at hN
   (refine go1 aj0 (aj1 (spc [(3,0)] [(50,1)] e1)) (aj9 @dStr.eq_1 hlt hx hx' q1 @Mu_ @aN0 m3 m1) ?_;intros;refine mk_i ?_)
   refine Ai_.mk ⟨k+1,by omega⟩ (Sub.lit (by rw[hnew,htk,Ob_ hT0,←hN];simp)) (by simp;omega)
   skip
  ·rw[Bt_ hT0];have e1:=Ba_ T (x++⟨#[32,59,10]⟩) (by omega);rw[hN,←htk]at e1
   (refine go1 aj0 (aj1 (spc [(3,0),(50,1)] [] e1)) (aj9 @dStr.eq_1 hlt hx hx' q1 @Mu_ @aN0 m3 m1) ?_;intros;refine mk_i ?_)
   refine Ai_.mk ⟨k+1,by omega⟩ (Sub.lit (by rw[hnew];simp)) (by simp;omega)
   skip
 ·have hkk:k=L.length:=by omega
  subst hkk;rw[aS0];obtain⟨S,hS⟩:∃S,S=L.foldl IG_ ⟨#[]⟩:=⟨_,rfl⟩;rw[←hS]at hsL hRR ⊢;clear hS
  by_cases hS0:S.size=0
  ·rw[BT_ hS0]
   (refine go1 aj0 aj0 aj0 ?_;intros;refine mk_i ?_)
   refine Ad_ (X:={k:Nat//k≤es.length}) (fun k=>⟨[(3,.rx 3 1 2 0 0),(20,dEds es),(21,.int .i64 es.length),(22,.int .i64 k.1)],bldO 3 50 ((es.take k.1).foldl GD_ S)⟩) (fun k=>es.length-k.1) ⟨0,by omega⟩ (Sub.lit (by simp only[eT0,List.foldl_nil,BT_ hS0];simp)) ?_;rintro⟨k,hk⟩
   by_cases hlt:k<es.length
   ·obtain⟨x,hx,hx',hxm⟩:=Aj_ hlt;have htk:=Ja_ (f:=GD_) (b:=S) hx;have hsz:=LR_ (es.take k) S fun n hn=>n4 n (cK0 hn)
    rw[bB0]at hsz;obtain⟨T,hT⟩:∃T,T=(es.take k).foldl GD_ S:=⟨_,rfl⟩;rw[←hT]at htk hsz ⊢;obtain⟨x1,x2,x3⟩:=n4 x hxm;have q1:x.fr.size+1≤maxLen:=by unfold maxLen;omega
    have q3:x.fr.size+1+x.lb.size≤maxLen:=by unfold maxLen;omega
    have q4:x.fr.size+1+x.lb.size+1≤maxLen:=by unfold maxLen;omega
    have q5:x.fr.size+1+x.lb.size+1+x.to.size≤maxLen:=by unfold maxLen;omega
    have q6:x.fr.size+1+x.lb.size+1+x.to.size+3≤maxLen:=by unfold maxLen;omega
    have hsx:(x.fr++⟨#[32]⟩++x.lb++⟨#[32]⟩++x.to++⟨#[32,59,10]⟩:ByteArray).size=x.fr.size+1+x.lb.size+1+x.to.size+3:=by simp only[aN0,Mu_,QB_]
    have hN:=Uw_ T x;have hNs:(GD_ T x).size≠0:=by rw[II_];omega
    have hnew:=Bt_ (i:=3) (j:=50) hNs;rw[←htk]at hnew
    by_cases hT0:T.size=0
    ·rw[BT_ hT0];have e1:=BL_ (x.fr++⟨#[32]⟩++x.lb++⟨#[32]⟩++x.to++⟨#[32,59,10]⟩) (by omega);rw[Ob_ hT0,Iq_]at hN
     (refine go1 aj0 (aj1 (spc [(3,0)] [(50,1)] e1)) (aj14 @Bl_.eq_1 hlt hx hx' q1 q3 q4 q5 q6 @Mu_ @QB_ @aN0 m3 m1) ?_;intros;refine mk_i ?_)
     refine Ai_.mk ⟨k+1,by omega⟩ (Sub.lit (by rw[hnew,htk,Ob_ hT0,←hN];simp)) (by simp;omega)
     skip
    ·rw[Bt_ hT0];have e1:=Ba_ T (x.fr++⟨#[32]⟩++x.lb++⟨#[32]⟩++x.to++⟨#[32,59,10]⟩) (by omega);rw[hN,←htk]at e1
     (refine go1 aj0 (aj1 (spc [(3,0),(50,1)] [] e1)) (aj14 @Bl_.eq_1 hlt hx hx' q1 q3 q4 q5 q6 @Mu_ @QB_ @aN0 m3 m1) ?_;intros;refine mk_i ?_)
     refine Ai_.mk ⟨k+1,by omega⟩ (Sub.lit (by rw[hnew];simp)) (by simp;omega)
     skip
   ·have hkk:k=es.length:=by omega
    subst hkk;rw[aS0,←hRR]
    by_cases hR0:R.size=0
    ·rw[BT_ hR0];have e1:=Fs_;rw[←Ob_ hR0]at e1;exact go0 aj0 (aj1 (spc [(3,0)] [] e1)) aj0
    ·rw[Bt_ hR0];have e1:=BM_ R hR0;exact go0 aj0 (aj1 (spc [(3,0),(50,1)] [] e1)) aj0
  ·rw[Bt_ hS0]
   (refine go1 aj0 aj0 aj0 ?_;intros;refine mk_i ?_)
   refine Ad_ (X:={k:Nat//k≤es.length}) (fun k=>⟨[(3,.rx 3 1 2 0 0),(20,dEds es),(21,.int .i64 es.length),(22,.int .i64 k.1)],bldO 3 50 ((es.take k.1).foldl GD_ S)⟩) (fun k=>es.length-k.1) ⟨0,by omega⟩ (Sub.lit (by simp only[eT0,List.foldl_nil,Bt_ hS0];simp)) ?_;rintro⟨k,hk⟩
   by_cases hlt:k<es.length
   ·obtain⟨x,hx,hx',hxm⟩:=Aj_ hlt;have htk:=Ja_ (f:=GD_) (b:=S) hx;have hsz:=LR_ (es.take k) S fun n hn=>n4 n (cK0 hn)
    rw[bB0]at hsz;obtain⟨T,hT⟩:∃T,T=(es.take k).foldl GD_ S:=⟨_,rfl⟩;rw[←hT]at htk hsz ⊢;obtain⟨x1,x2,x3⟩:=n4 x hxm;have q1:x.fr.size+1≤maxLen:=by unfold maxLen;omega
    have q3:x.fr.size+1+x.lb.size≤maxLen:=by unfold maxLen;omega
    have q4:x.fr.size+1+x.lb.size+1≤maxLen:=by unfold maxLen;omega
    have q5:x.fr.size+1+x.lb.size+1+x.to.size≤maxLen:=by unfold maxLen;omega
    have q6:x.fr.size+1+x.lb.size+1+x.to.size+3≤maxLen:=by unfold maxLen;omega
    have hsx:(x.fr++⟨#[32]⟩++x.lb++⟨#[32]⟩++x.to++⟨#[32,59,10]⟩:ByteArray).size=x.fr.size+1+x.lb.size+1+x.to.size+3:=by simp only[aN0,Mu_,QB_]
    have hN:=Uw_ T x;have hNs:(GD_ T x).size≠0:=by rw[II_];omega
    have hnew:=Bt_ (i:=3) (j:=50) hNs;rw[←htk]at hnew
    by_cases hT0:T.size=0
    ·rw[BT_ hT0];have e1:=BL_ (x.fr++⟨#[32]⟩++x.lb++⟨#[32]⟩++x.to++⟨#[32,59,10]⟩) (by omega);rw[Ob_ hT0,Iq_]at hN
     (refine go1 aj0 (aj1 (spc [(3,0)] [(50,1)] e1)) (aj14 @Bl_.eq_1 hlt hx hx' q1 q3 q4 q5 q6 @Mu_ @QB_ @aN0 m3 m1) ?_;intros;refine mk_i ?_)
     refine Ai_.mk ⟨k+1,by omega⟩ (Sub.lit (by rw[hnew,htk,Ob_ hT0,←hN];simp)) (by simp;omega)
     skip
    ·rw[Bt_ hT0];have e1:=Ba_ T (x.fr++⟨#[32]⟩++x.lb++⟨#[32]⟩++x.to++⟨#[32,59,10]⟩) (by omega);rw[hN,←htk]at e1
     (refine go1 aj0 (aj1 (spc [(3,0),(50,1)] [] e1)) (aj14 @Bl_.eq_1 hlt hx hx' q1 q3 q4 q5 q6 @Mu_ @QB_ @aN0 m3 m1) ?_;intros;refine mk_i ?_)
     refine Ai_.mk ⟨k+1,by omega⟩ (Sub.lit (by rw[hnew];simp)) (by simp;omega)
     skip
   ·have hkk:k=es.length:=by omega
    subst hkk;rw[aS0,←hRR]
    by_cases hR0:R.size=0
    ·rw[BT_ hR0];have e1:=Fs_;rw[←Ob_ hR0]at e1;exact go0 aj0 (aj1 (spc [(3,0)] [] e1)) aj0
    ·rw[Bt_ hR0];have e1:=BM_ R hR0;exact go0 aj0 (aj1 (spc [(3,0),(50,1)] [] e1)) aj0
def XZ_ : Ann:=⟨[],[]⟩
theorem MD_ (s:ByteArray):Ac_ Tryz.prog 231 [.str s] (.bool (DF_ 2 s)):=by
 refine Aa_ [] XZ_ Tryz.func231 Tryz.call231 Tryz.ntmps231 mxd (aj2 @XZ_.eq_1 Tryz.results231) rfl (by simp) (by simp[mx]) fun hwf B hnt hgAnn=> ?_
 clear hwf;simp only[argS];have e1:=Pw_ 2 (.inl rfl) s;simp only[BQ_]at e1;cases h:DF_ 2 s
 ·rw[h]at e1;exact go0 (aj1 e1) aj0 aj0
 ·rw[h]at e1;exact go0 (aj1 e1) aj0 aj0
def Kz_ : Ann:=⟨[],[]⟩
theorem Lz_ (g:FuncId) (us cs:List DVal) (l:List Rul) (q:Rul→Bool) (hq:∀x∈l,Ac_ Tryz.prog g (us++[.agg (dRul x)]++cs) (.bool (q x))) :
  Ac_ Tryz.prog 303 [Av_ l,.fn (.func g) us cs] (.int .i64 (if l.any q then ((l.findIdx q:Nat):Int)else -1)):=by
 refine Aa_ [] Kz_ Tryz.func303 Tryz.call303 Tryz.ntmps303 mxd (aj2 @Kz_.eq_1 Tryz.results303) rfl (by simp) (by simp[mx]) fun hwf B hnt hgAnn=> ?_
 have hw1:=Ic_ hwf.1;clear hwf;simp only[argS]
 (refine go1 aj0 aj0 aj0 ?_;intros;refine mk_i ?_)
 refine Ad_ (X:={k:Nat//k≤l.length∧∀i x,i<k→l[i]? =some x→q x=false}) (fun x=>⟨[(0,Av_ l),(1,.fn (.func g) us cs),(7,.int .i64 l.length),(8,.int .i64 x.1)],[]⟩) (fun x=>l.length-x.1) ⟨0,by simp⟩ (Sub.lit (by simp)) ?_;rintro⟨k,hk,hno⟩
 by_cases hlt:k<l.length
 ·obtain⟨x,hx,hx',hxm⟩:=Aj_ hlt;have hqx:=hq x hxm;simp only[dRul,aT0,List.cons_append,List.nil_append]at hqx;cases hb:q x
  ·rw[hb]at hqx
   have hno':∀i y,i<k+1→l[i]? =some y→q y=false:=by
    intro i y hi hy
    by_cases hik:i=k
    ·subst hik;rw[hx]at hy;simp only[aA0]at hy;subst hy;exact hb
    ·exact hno i y (by omega) hy
   (refine go1 (aj1 hqx) aj0 (aj3 @dRul.eq_1 hlt hx') ?_;intros;refine mk_i ?_)
   exact Ai_.mk ⟨k+1,by omega,hno'⟩ (Sub.lit (by simp[])) (by simp;omega)
   skip
  ·rw[hb]at hqx;have hany:l.any q=true:=cF0.2 ⟨x,hxm,hb⟩
   have hidx:l.findIdx q=k:=by
    rw[eQ0 hlt];refine⟨by rw[hx'];exact hb,fun i hi=> ?_⟩;exact hno i _ hi (aH0 (by omega))
   exact go0 (aj1 hqx) aj0 (aj5 @dRul.eq_1 hlt hx' hany hidx)
 ·have hkk:k=l.length:=by omega
  have hany:l.any q=false:=by
   rw[cS0];intro x hx;obtain⟨i,hi,rfl⟩:=bJ0 hx;rw[hno i _ (by omega) (aH0 hi)];simp
  (repeat (first | refine Ax_ fun K hK=> ?_ | (refine DW_r Kz_ mxd (by kernel_rfl) ?_;simp[Kz_,hnt,dRul,hkk,hany];try simp (disch:=omega) only[Ah_]) | refine An_ ?_ | (refine AW_ ?_ ?_ ?_;(· (simp[hnt,dRul,hkk,hany];done));(try (rotate_left;(· (intro hc;(try simp[hnt,dRul,hkk,hany]at hc);done))))) | (refine AC_ ?_;simp[Tryz.results303,hnt,dRul,hkk,hany]) | ((first | refine Ar_ ?_ | refine Aq_ ?_);simp[hnt,dRul,hkk,hany]) | (intro hc;(try simp[hnt,dRul,hkk,hany]at hc);(try (exfalso;omega))) | ((first | refine Ag_ (hqx) ?_ | (refine Af_ (hqx) ?_ ?_;(· (simp;done))));try simp[hnt,dRul,hkk,hany]) | (refine⟨?_,?_⟩; · omega) | omega | apply_assumption -exfalso -symm | (exfalso;omega)))
def Yc_ : Ann:=⟨[],[]⟩
theorem It_ (g:FuncId) (us cs:List DVal) (l:List Rul) (q:Rul→Bool) (hq:∀x∈l,Ac_ Tryz.prog g (us++[.agg (dRul x)]++cs) (.bool (q x))) :
  Ac_ Tryz.prog 228 [Av_ l,.fn (.func g) us cs] (.bool (l.any q)):=by
 refine Aa_ [] Yc_ Tryz.func228 Tryz.call228 Tryz.ntmps228 mxd (aj2 @Yc_.eq_1 Tryz.results228) rfl (by simp) (by simp[mx]) fun hwf B hnt hgAnn=> ?_
 simp only[argS];have hi:=Lz_ g us cs l q hq;have hge:(0:Int)≤(l.findIdx q:Nat):=by omega
 cases hb:l.any q
 ·rw[hb]at hi;exact go0 (aj1 hi) aj0 (aj1 hb)
 ·rw[hb]at hi;exact go0 (aj1 hi) aj0 (aj1 hb)
def badR (r:Rul):Bool:= !(DF_ 2 r.h&&CK_ r.b)
def Ya_ : Ann:=⟨[],[]⟩
theorem QT_ (r:Rul) (hs:r.b.length≤1572864):Ac_ Tryz.prog 230 [.agg (dRul r)] (.bool (badR r)):=by
 refine Aa_ [] Ya_ Tryz.func230 Tryz.call230 Tryz.ntmps230 mxd (aj2 @Ya_.eq_1 Tryz.results230) rfl (by simp) (by simp[mx]) fun hwf B hnt hgAnn=> ?_
 clear hwf;simp only[argS];have e1:=MD_ r.h;unfold badR;cases h1:DF_ 2 r.h
 ·rw[h1]at e1;exact go0 (aj1 e1) aj0 (aj1 @dRul.eq_1)
 ·rw[h1]at e1;cases h2:CK_ r.b
  ·have e2:=Ry_ r.b hs h2;exact go0 (aj2 e1 e2) aj0 (aj1 @dRul.eq_1)
  ·obtain⟨t,ht,hb⟩:=IF_ h2;have e2:=Im_ t ht (by rw[←hb];exact hs);rw[←hb]at e2;have hp:1≤htT t:=by cases t;rw[VE_];omega
   have hne:((htT t:Int)==0)=false:=by simp;omega
   exact go0 (aj2 e1 e2) aj0 (aj2 @dRul.eq_1 hne)
def XV_ : Ann:=⟨[],[]⟩
theorem ord7_pure (h:ByteArray) (t:RT) (ht:okT t=true) (hs:(flat t).length≤1572864):Ac_ Tryz.prog 238 [.agg (dRul ⟨h,flat t⟩)] (.bool (decide (16<htT t))):=by
 refine Aa_ [] XV_ Tryz.func238 Tryz.call238 Tryz.ntmps238 mxd (aj2 @XV_.eq_1 Tryz.results238) rfl (by simp) (by simp[mx]) fun hwf B hnt hgAnn=> ?_
 clear hwf;simp only[argS];have e2:=Im_ t ht hs;have hd:decide (16<htT t)=decide ((16:Int)<(htT t:Int)):=decide_eq_decide.2 (by omega);rw[hd];exact go0 (aj1 e2) aj0 (aj1 @dRul.eq_1)
def Yd_ : Ann:=⟨[],[]⟩
theorem Le_ (f:FuncId) (g:List Rul) (q:Rul→Bool) (hq:∀x∈g,Ac_ Tryz.prog f [.agg (dRul x)] (.bool (q x))):Ac_ Tryz.prog 227 [Av_ g,.ref [.fn (.func f) [] []]] (.bool (g.any q)):=by
 refine Aa_ [] Yd_ Tryz.func227 Tryz.call227 Tryz.ntmps227 mxd (aj2 @Yd_.eq_1 Tryz.results227) rfl (by simp) (by simp[mx]) fun hwf B hnt hgAnn=> ?_
 clear hwf;simp only[argS];have e1:=It_ f [] [] g q fun x hx=>by simpa using hq x hx
 exact go0 (aj1 e1) aj0 aj0
def Yb_ : Ann:=⟨[],[]⟩
theorem Ld_ (g:List Rul):Ac_ Tryz.prog 229 [Av_ g] (.bool (decide (g.length<1)||decide (64<g.length))):=by
 refine Aa_ [] Yb_ Tryz.func229 Tryz.call229 Tryz.ntmps229 mxd (aj2 @Yb_.eq_1 Tryz.results229) rfl (by simp) (by simp[mx]) fun hwf B hnt hgAnn=> ?_
 clear hwf;simp only[argS];have h1:decide (g.length<1)=decide ((g.length:Int)<1):=decide_eq_decide.2 (by omega);have h2:decide (64<g.length)=decide ((64:Int)<(g.length:Int)):=decide_eq_decide.2 (by omega);rw[h1,h2]
 by_cases c:(g.length:Int)<1
 ·exact go0 aj0 aj0 (aj1 c)
 ·exact go0 aj0 aj0 (aj1 c)
def XU_ : Ann:=⟨[],[]⟩
theorem ord8_pure (g:List Rul) (hn:(AG_ 2 g).length≤9223372036854775807):Ac_ Tryz.prog 239 [Av_ g] (.bool (decide (0<(Dc_ g).length))):=by
 refine Aa_ [] XU_ Tryz.func239 Tryz.call239 Tryz.ntmps239 mxd (aj2 @XU_.eq_1 Tryz.results239) rfl (by simp) (by simp[mx]) fun hwf B hnt hgAnn=> ?_
 clear hwf;simp only[argS];have e1:=Fz_ g hn;have h2:decide (0<(Dc_ g).length)=decide ((0:Int)<((Dc_ g).length:Int)):=decide_eq_decide.2 (by omega);rw[h2];exact go0 (aj1 e1) aj0 aj0
def XY_ : Ann:=⟨[],[]⟩
theorem ord4_pure (g:List Rul) (hl:g.length≤64) (hs:SmlG g):Ac_ Tryz.prog 233 [Av_ g] (.bool (decide (16<(As_ g).length+(Dc_ g).length))):=by
 refine Aa_ [] XY_ Tryz.func233 Tryz.call233 Tryz.ntmps233 mxd (aj2 @XY_.eq_1 Tryz.results233) rfl (by simp) (by simp[mx]) fun hwf B hnt hgAnn=> ?_
 clear hwf;simp only[argS];have n2:=DY_ (k:=2) hs;have e1:=Fz_ g (by omega);have e2:=FJ_ g;have b1:=Gi_ g
 have b2:(Dc_ g).length≤110000000:=by
  have:=Fo_ (AG_ 2 g);have:=cG0 (fun s=> !decide (s∈As_ g)) (DP_ (AG_ 2 g));unfold Dc_;omega
 obtain⟨H,hH⟩:∃H,H=As_ g:=⟨_,rfl⟩;obtain⟨m,hm⟩:∃m,m=(Dc_ g).length:=⟨_,rfl⟩;rw[←hH]at e2 b1;rw[←hm]at e1 b2;rw[←hH,←hm];have h2:decide (16<H.length+m)=decide ((16:Int)<(H.length:Int)+(m:Int)):=decide_eq_decide.2 (by omega);rw[h2];have w1:IntKind.i64.wrap ((H.length:Int)+(m:Int))=(H.length:Int)+(m:Int):=wq;exact go0 (aj2 e1 e2) aj0 (aj1 w1)
def XW_ : Ann:=⟨[],[⟨4,[5],[],[]⟩]⟩
theorem YP_ (g:List Rul) (hs:SmlG g) (hl:g.length≤64):Ac_ Tryz.prog 237 [Av_ g] (.int .i64 (occG g)):=by
 refine Aa_ [] XW_ Tryz.func237 Tryz.call237 Tryz.ntmps237 mxd (aj2 @XW_.eq_1 Tryz.results237) rfl (by simp) (by simp[mx]) fun hwf B hnt hgAnn=> ?_
 clear hwf;simp only[argS];have ho:=To_ hs
 (refine go1 aj0 aj0 aj0 ?_;intros;refine mk_i ?_)
 refine Ad_ (X:={i:Nat//i≤g.length}) (fun i=>⟨[(0,Av_ g),(3,.int .i64 (occG (g.take i.1))),(6,Av_ g),(7,.int .i64 g.length),(8,.int .i64 i.1)],[]⟩) (fun i=>g.length-i.1) ⟨0,by omega⟩ (Sub.lit (by simp[occG])) ?_;rintro⟨i,hi⟩;simp only
 by_cases hlt:i<g.length
 ·obtain⟨r,hr,hr',hrm⟩:=Aj_ hlt;have e1:=Nf_ r.b;have h1:=QY_ hr;have h2:=Jo_ g (i+1);have h3:=Tn_ r.b;have w1:IntKind.i64.wrap ((occG (g.take i):Int)+(occN r.b:Int))=(occG (g.take (i+1)):Int):=by rw[wq];omega
  have w2:IntKind.i64.wrap ((i:Int)+1)=(i:Int)+1:=wq
  (refine go1 (aj1 e1) aj0 (aj6 @dRul.eq_1 hlt hr hr' w1 w2) ?_;intros;refine mk_i ?_)
  refine Ai_.mk ⟨i+1,by omega⟩ (Sub.lit (by simp)) (by simp;omega)
  skip
 ·have hkk:i=g.length:=by omega
  subst hkk;rw[aS0];exact go0 aj0 aj0 aj0
def XX_ : Ann:=⟨[],[]⟩
theorem ord6_pure (g:List Rul) (hs:SmlG g) (hl:g.length≤64):Ac_ Tryz.prog 236 [Av_ g] (.bool (decide (64<occG g))):=by
 refine Aa_ [] XX_ Tryz.func236 Tryz.call236 Tryz.ntmps236 mxd (aj2 @XX_.eq_1 Tryz.results236) rfl (by simp) (by simp[mx]) fun hwf B hnt hgAnn=> ?_
 clear hwf;simp only[argS];have e1:=YP_ g hs hl;have h2:decide (64<occG g)=decide ((64:Int)<(occG g:Int)):=decide_eq_decide.2 (by omega);rw[h2];exact go0 (aj1 e1) aj0 aj0
def Ee_ (t:RT):Bool:=decide ((flat t).length≤2048)&&decide (CM_ t=0)
def printD (t:RT):DVal:=if (flat t).length≤2048 then (if CM_ t=0 then .tup [.str (txtT t),.int .i64 0]else .tup [.str ⟨#[]⟩,.int .i64 (CM_ t)])else .tup [.str ⟨#[]⟩,.int .i64 3]
def GC_ : Ann:=⟨[],[]⟩
theorem Oo_ (t:RT) (ht:okT t=true):Ac_ Tryz.prog 304 [dNds (flat t)] (printD t):=by
 unfold printD
 by_cases hl:(flat t).length≤2048
 ·rw[if_pos hl];have e1:=JA_ t ht hl;have e2:=Jh_ _ t rfl ht (by omega);obtain⟨b,hb⟩:∃b,b=flat t:=⟨_,rfl⟩;rw[←hb]at e1 e2 ⊢
  by_cases h0:CM_ t=0
  ·rw[if_pos h0];rw[h0]at e1;refine Aa_ [] GC_ Tryz.func304 Tryz.call304 Tryz.ntmps304 mxd (aj2 @GC_.eq_1 Tryz.results304) rfl (by simp) (by simp[mx]) fun hwf B hnt hgAnn=> ?_
   clear hwf;simp only[argS];exact go0 (aj2 e1 e2) aj0 aj0
  ·rw[if_neg h0];have h0':(CM_ t != 0)=true:=by simpa using h0
   refine Aa_ [] GC_ Tryz.func304 Tryz.call304 Tryz.ntmps304 mxd (aj2 @GC_.eq_1 Tryz.results304) rfl (by simp) (by simp[mx]) fun hwf B hnt hgAnn=> ?_
   clear hwf;simp only[argS];have z0:(⟨#[]⟩:ByteArray).size≤maxLen:=cW0 _;exact go0 (aj1 e1) aj0 (aj3 h0 h0' z0)
 ·rw[if_neg hl];have e1:=JB_ (flat t) (by omega);obtain⟨b,hb⟩:∃b,b=flat t:=⟨_,rfl⟩;rw[←hb]at e1 ⊢;refine Aa_ [] GC_ Tryz.func304 Tryz.call304 Tryz.ntmps304 mxd (aj2 @GC_.eq_1 Tryz.results304) rfl (by simp) (by simp[mx]) fun hwf B hnt hgAnn=> ?_
  clear hwf;simp only[argS];have z0:(⟨#[]⟩:ByteArray).size≤maxLen:=cW0 _;exact go0 (aj1 e1) aj0 (aj1 z0)
theorem KI_ (x:ByteArray) (hx:x.size≠0):AL_ Tryz.prog (.func 306) [.rx 0 0 2 0 0] [⟨0,0,.row 338 2 32 [[.rx 0 0 2 0 0,.osl 1 0]]⟩,⟨1,0,.row 5 1 1 (AH_ x)⟩] (.str x) [⟨0,0,.row 338 2 32 [[.rx 0 0 2 0 0,.sl 1 1 (AH_ x)]]⟩] :=
 GK_ Tryz.bldString PB_ Tryz.call306 32 x hx
def XS_ : Ann:=⟨[],[]⟩
theorem TA_ (x:ByteArray):AL_ Tryz.prog (.func 307) [.rx 0 0 2 0 0] [⟨0,0,.row 338 2 32 [[.rx 0 0 2 0 0,.sl 1 1 (AH_ x)]]⟩] (.int .i64 x.size) [⟨0,0,.row 338 2 32 [[.rx 0 0 2 0 0,.sl 1 1 (AH_ x)]]⟩]:=by
 refine AR_ [] [(0,0,0)] XS_ Tryz.func307 Tryz.call307 Tryz.ntmps307 mxd (aj2 @XS_.eq_1 Tryz.results307) rfl (by simp) (by simp) (by simp[Er_]) fun hwf B hnt hgAnn=> ?_
 clear hwf;simp only[argS];have h1:=AD_ x;have h2:=Er_ x;obtain⟨D,hD⟩:∃D,D=AH_ x:=⟨_,rfl⟩;rw[←hD]at h1 h2 ⊢;exact go0 aj0 aj0 (aj1 h1)
theorem QE_ (p:ByteArray×RT):(JF_ p).size≠0:=by
 unfold JF_;simp only[aN0];have z3:(⟨#[32,61,32]⟩:ByteArray).size=3:=rfl;omega
def Jn_ (gt:GT):Bool:=gt.all (fun p=>Ee_ p.2)&&decide ((BZ_ gt).size≤2048)
def textR (gt:GT):ByteArray:=if gt.all (fun p=>Ee_ p.2)then BZ_ gt else ⟨#[]⟩
theorem textG_pos {gt:GT} (h:1≤gt.length):(BZ_ gt).size≠0:=by
 have h1:=Em_ (aH0 (show 0<gt.length by omega));have h2:=HF_ gt 1;rw[h1,aN0]at h2;have:=QE_ (gt[0]'(by omega));omega
def Ky_ : Ann:=⟨[29,31,32],[⟨1,[4],[],[]⟩,⟨4,[6],[],[]⟩]⟩
set_option maxHeartbeats 4000000 in
theorem Qj_ (gt:GT) (hk:OkG gt) (hs:SmlG (mkG gt)) (h1:1≤gt.length) (hl:gt.length≤64):Ac_ Tryz.prog 241 [Av_ (mkG gt)] (.tup [.str (textR gt),.bool (Jn_ gt)]):=by
 refine Aa_ [] Ky_ Tryz.func241 Tryz.call241 Tryz.ntmps241 mxd (aj2 @Ky_.eq_1 Tryz.results241) rfl (by simp) (by simp[mx]) fun hwf B hnt hgAnn=> ?_
 clear hwf;simp only[argS];have hml:=Fy_ gt;have hat:=fun i p=>mkG_at (gt:=gt) (i:=i) (p:=p)
 have hsm:=fun p=>HK_ hs (p:=p)
 have hts:=IH_ hk hs;have hrs:=fun p=>MX_ hk hs (p:=p)
 obtain⟨g,hg⟩:∃g,g=mkG gt:=⟨_,rfl⟩;rw[←hg]at hml hat ⊢;clear hs hg;obtain⟨R,hR⟩:∃R,R=textR gt:=⟨_,rfl⟩;obtain⟨O,hO⟩:∃O,O=Jn_ gt:=⟨_,rfl⟩;rw[←hR,←hO];have z3:(⟨#[32,61,32]⟩:ByteArray).size=3:=rfl;have z4:(⟨#[32,59,10]⟩:ByteArray).size=3:=rfl;have m3:3≤maxLen:=by decide
 have m1:1≤maxLen:=by decide
 have mbig:3000000000≤maxLen:=by decide
 have z0:(⟨#[]⟩:ByteArray).size≤maxLen:=cW0 _;refine Ax_ fun K0 hK0=> ?_
 (first | refine Ax_ fun K hK=> ?_ | (refine DW_r Ky_ mxd (by kernel_rfl) ?_;simp[Ky_,hnt,z0];try simp (disch:=omega) only[Ah_]) | refine An_ ?_ | (refine AW_ ?_ ?_ ?_;(· (simp[hnt,z0];done));(try (rotate_left;(· (intro hc;(try simp[hnt,z0]at hc);done))))) | (refine AC_ ?_;simp[Tryz.results241,hnt,z0]) | ((first | refine Ar_ ?_ | refine Aq_ ?_);simp[hnt,z0]) | (intro hc;(try simp[hnt,z0]at hc);(try (exfalso;omega))) | (refine⟨?_,?_⟩; · omega) | omega | apply_assumption -exfalso -symm | (exfalso;omega))
 apply hK0
 refine Ax_ fun K1 hK1=> ?_
 refine FU_ (bs:=32) (k:=2) (z:=[.nilp,.nilsl]) (by simp[hnt]) (by simp) (by rfl) rfl (by decide) (fun r hr=> ?_);simp
 apply hK1
 (refine go1 aj0 aj0 aj0 ?_;intros;refine mk_i ?_)
 refine Ad_ (X:={i:Nat//i≤gt.length∧(gt.take i).all (fun p=>Ee_ p.2)=true}) (fun i=>⟨[(0,Av_ g),(4,.rx 4 1 2 0 0),(9,Av_ g),(10,.int .i64 gt.length),(11,.int .i64 i.1)],bldO 4 50 (BZ_ (gt.take i.1))⟩) (fun i=>gt.length-i.1) ⟨0,by simp⟩ (Sub.lit (by simp only[eT0,show BZ_ []=⟨#[]⟩ from rfl,BT_ (T:=⟨#[]⟩) rfl];simp[hml])) ?_;rintro⟨i,hi,hall⟩;simp only
 by_cases hlt:i<gt.length
 ·obtain⟨p,hp,hp',hpm⟩:=Aj_ hlt;have hr:=hat i p hp;have hlt2:i<g.length:=by omega
  have hr':g[i]'hlt2=⟨p.1,flat p.2⟩:=(aB0.1 hr).2;have e1:=Oo_ p.2 (hk p hpm).2;have w2:IntKind.i64.wrap ((i:Int)+1)=(i:Int)+1:=wq;unfold printD at e1;obtain⟨b,hb⟩:∃b,b=flat p.2:=⟨_,rfl⟩;have hall1:(gt.take (i+1)).all (fun p=>Ee_ p.2)=Ee_ p.2:=by rw[bF0,hp,List.all_append,hall];simp
  by_cases hpr:Ee_ p.2=true
  ·have hpr2:=hpr;unfold Ee_ at hpr2;rw[aL0,decide_eq_true_eq,decide_eq_true_eq]at hpr2;rw[if_pos hpr2.1,if_pos hpr2.2]at e1;rw[←hb]at hr hr' e1;rw[hpr]at hall1;have hnx:=Em_ hp;have hrs1:=hrs p hpm;have hts1:=hts i hi;have hrp:=QE_ p;have hrd:JF_ p=p.1++⟨#[32,61,32]⟩++txtT p.2++⟨#[32,59,10]⟩:=rfl;obtain⟨s,hs⟩:∃s,s=txtT p.2:=⟨_,rfl⟩;rw[←hs]at e1 hrd;obtain⟨T,hT⟩:∃T,T=BZ_ (gt.take i):=⟨_,rfl⟩;rw[←hT]at hnx hts1 ⊢
   obtain⟨U,hU⟩:∃U,U=JF_ p:=⟨_,rfl⟩;rw[←hU]at hrs1 hrp hrd hnx;have hUs:U.size=p.1.size+3+s.size+3:=by rw[hrd];simp only[aN0,z3,z4]
   have y2:p.1.size+3≤maxLen:=by omega
   have y3:p.1.size+3+s.size≤maxLen:=by omega
   have y4:p.1.size+3+s.size+3≤maxLen:=by omega
   have hNs:(BZ_ (gt.take (i+1))).size≠0:=by rw[hnx,aN0];omega
   have hnew:=Bt_ (i:=4) (j:=50) hNs
   by_cases hT0:T.size=0
   ·rw[BT_ hT0];have e2:=BL_ U (by omega);rw[Ob_ hT0,Iq_]at hnx;rw[hrd]at e2
    (refine go1 (aj1 e1) (aj1 (spc [(4,0)] [(50,1)] e2)) (aj14 @dRul.eq_1 hlt hlt2 hr hr' z3 z4 m3 m1 y2 y3 y4 @aN0 w2) ?_;intros;refine mk_i ?_)
    refine Ai_.mk ⟨i+1,by omega,hall1⟩ (Sub.lit (by rw[hnew,hnx,hrd];simp)) (by simp;omega)
    skip
   ·rw[Bt_ hT0];have e2:=Ba_ T U (by omega);rw[←hnx]at e2;rw[hrd]at e2
    (refine go1 (aj1 e1) (aj1 (spc [(4,0),(50,1)] [] e2)) (aj14 @dRul.eq_1 hlt hlt2 hr hr' z3 z4 m3 m1 y2 y3 y4 @aN0 w2) ?_;intros;refine mk_i ?_)
    refine Ai_.mk ⟨i+1,by omega,hall1⟩ (Sub.lit (by rw[hnew];simp)) (by simp;omega)
    skip
  ·have hall2:gt.all (fun p=>Ee_ p.2)=false:=by
    rw[eX0];intro hh;rw[aX0]at hh;exact hpr (hh p hpm)
   have hR2:R=⟨#[]⟩:=by rw[hR];unfold textR;rw[hall2];rfl
   have hO2:O=false:=by rw[hO];unfold Jn_;rw[hall2];rfl
   subst hR2;subst hO2
   obtain⟨c,hc0,e2⟩:∃c:Int,(c != 0)=true∧Ac_ Tryz.prog 304 [dNds (flat p.2)] (.tup [.str ⟨#[]⟩,.int .i64 c]):=by
    by_cases hl2:(flat p.2).length≤2048
    ·rw[if_pos hl2]at e1
     by_cases h0:CM_ p.2=0
     ·exact absurd (by unfold Ee_;simp[hl2,h0]) hpr
     ·rw[if_neg h0]at e1;exact⟨_,by simpa using h0,e1⟩
    ·rw[if_neg hl2]at e1;exact⟨3,rfl,e1⟩
   have hc1:¬c=0:=by simpa using hc0
   rw[←hb]at hr hr' e2;obtain⟨T,hT⟩:∃T,T=BZ_ (gt.take i):=⟨_,rfl⟩;rw[←hT];clear e1
   by_cases hT0:T.size=0
   ·rw[BT_ hT0];exact go0 (aj1 e2) aj0 (aj8 @dRul.eq_1 hlt hlt2 hr hr' hc0 hc1 z0)
   ·rw[Bt_ hT0];exact go0 (aj1 e2) aj0 (aj8 @dRul.eq_1 hlt hlt2 hr hr' hc0 hc1 z0)
 ·have hkk:i=gt.length:=by omega
  subst hkk;rw[aS0]at hall ⊢;have hne:=textG_pos h1;have hts1:=hts gt.length (Nat.le_refl _);rw[aS0]at hts1;have hR2:R=BZ_ gt:=by rw[hR];unfold textR;rw[hall];rfl
  have hO2:O=decide ((BZ_ gt).size≤2048):=by rw[hO];unfold Jn_;rw[hall];rfl
  obtain⟨T,hT⟩:∃T,T=BZ_ gt:=⟨_,rfl⟩;rw[←hT]at hne hR2 hO2 hts1 ⊢;have hO3:decide (T.size≤2048)=decide ((T.size:Int)≤2048):=decide_eq_decide.2 (by omega);rw[hO3]at hO2;clear hR hO hO3;subst hR2;subst hO2;rw[Bt_ hne];have e1:=KI_ R hne;have e2:=TA_ R;have h2:=Er_ R;exact go0 aj0 (aj2 (spc [(4,0),(50,1)] [] e1) (spc [(4,0)] [] e2)) (aj1 hml)
end Go.Proofs.YtchgnpnbcjflcaaGreat
end
section
namespace Go.Proofs.YtchgnpnbcjflcaaGreat
open Go Go.Dm Go.RowKit Go.Maps Go.Sort Go.Shelf Go.Proofs
set_option maxRecDepth 100000
theorem sortsS (m:Nat):AnyZ.SortsIn Tryz.prog Tryz.sortedM_ren Fence.wide m :=
 ⟨fun blk off cap ss W hH hblk hsz=>callsIn_wide.2 (AnyM.slices_Sort_string Tryz.sortStr blk off cap ss W hH hblk hsz),
  fun p cap W=>callsIn_wide.2 (AnyM.slices_Sort_string_none Tryz.sortStr p cap W)⟩
theorem Qo_ {cur:Cur} {M:List Nat} {h:Array Obj}:∀{K:List ByteArray} {vs:List Value},rdV cur M h (Ca_ K) vs→vs=K.map Value.string∧∀s∈K,s.size≤maxLen
 | [],vs,hr=>by
  simp only[Ca_,List.map_nil,rdV]at hr;subst hr;simp
 | s::K,vs,hr=>by
  rw[Co_]at hr;simp only[rdV,Dm.rd]at hr;obtain⟨v,r,rfl,⟨rfl,hs⟩,h2⟩:=hr;obtain⟨h3,h4⟩:=Qo_ h2;subst h3;refine⟨rfl,fun x hx=> ?_⟩
  rcases aJ0.1 hx with rfl | hx
  ·exact hs
  ·exact h4 x hx
def anyR : Value→Option (DataW Unit×List MemPlace):=fun _=>some (.nil,[])
theorem owns_of {w:World} {b:Nat} {es:Array MapEntry} {clk:Nat} {K:List ByteArray} (hb:w.heap[b]? =some (.map es clk)) (hB:ND_ es clk) (hk:es.toList.map (·.key)=K.map Value.string) (hsz:∀s∈K,s.size≤maxLen) (hn:K.Nodup) (hl:K.length≤maxLen) :
  ∃D0:DataW Unit,w.ownsMap Tryz.prog 9 anyR b K.length D0∧(strKeys D0).Perm (K.map fun s=>s.data.toList)∧Maps.size D0=K.length:=by
 have hes:es.size=K.length:=by
  have:=congrArg List.length hk;simpa using this
 have hread:∀x∈es.toList,∃s∈K,x.key= .string s∧WideElems.rd Tryz.prog 9 anyR x=some (.string s.data.toList,.nil):=by
  intro x hx;have:x.key∈K.map Value.string:=by rw[←hk];exact cV0 hx
  obtain⟨s,hs,he⟩:=aU0.1 this;refine⟨s,hs,he.symm,?_⟩;obtain⟨k,v,bn⟩:=x;simp only at he;subst he;exact WideElems.rd_mk (WideMaps.keyOf_string_mk Tryz.underlying9 (hsz s hs)) (show anyR v=some (.nil,[]) from rfl)
 have hE:es.toList.map (WideElems.rg Tryz.prog 9 anyR)=K.map fun s=>(Lit.string s.data.toList,DataW.nil):=by
  have h1:es.toList.map (WideElems.rg Tryz.prog 9 anyR)=(es.toList.map (·.key)).map fun v=>match v with | .string s=>(Lit.string s.data.toList,DataW.nil) | _=>(.bool false,.nil):=by
   rw[bZ0];refine cJ0 fun x hx=> ?_
   obtain⟨s,_,he,hr⟩:=hread x hx;rw[WideElems.rg_of hr];simp[he]
  rw[h1,hk,bZ0];rfl
 refine⟨_,⟨es,clk,hb,⟨by omega,⟨hB.2,hB.1,?_⟩,fun x hx=> ?_⟩,by omega,rfl⟩,?_,?_⟩
 ·rw[hk];exact dH0.2 (hn.imp fun h e=>h (by cases e;rfl))
 ·obtain⟨s,_,_,hr⟩:=hread x hx;exact⟨_,hr⟩
 ·show ((_:List (Lit×DataW Unit)).map fun p=>strOf p.1).Perm _
  refine((WideShapes.sorted_perm _).map _).trans ?_;rw[hE,bZ0];exact List.Perm.refl _
 ·show (_:List (Lit×DataW Unit)).length=_
  rw[(WideShapes.sorted_perm _).length_eq,hE,aK0]
theorem upd_below {w w':World} (h:Below w.heap.size w w'):Upd [] w w':=⟨h.os,h.tape,h.output,fun hd=>Bool.noConfusion hd,h.size,fun b hb _=>h.block b hb⟩
theorem Qu_ {K:List ByteArray} (hn:K.Nodup):Str (Dr_ K):=by
 have h1:=Ji_ K
 have h2:(Dr_ K).Nodup:=by
  unfold Dr_;refine dH0.2 (List.Pairwise.imp (R:=(· ≠ ·)) (fun {a b:List UInt8} h (e:(⟨a.toArray⟩:ByteArray)=⟨b.toArray⟩)=>h (by have:=congrArg (fun x:ByteArray=>x.data.toList) e;simpa using this)) ?_);exact(dS0 _ _).nodup_iff.2 (dH0.2 (hn.imp fun h e=>h (Ex_ e)))
 refine(h1.and h2).imp ?_;rintro a b ⟨h3,h4⟩;cases h5:BD_ a b
 ·exact absurd (HM_ h5 h3) h4
 ·rfl
theorem Yy_ {K es:List ByteArray} (hn:K.Nodup) (hm:∀s,s∈K↔s∈es):Dr_ K=DP_ es:=uniq_of (Qu_ hn) fun x=>by rw[Qv_,hm x]
set_option maxHeartbeats 2000000 in
theorem Id_ (g:List Rul) (hsm:(AG_ 3 g).length*16≤140737488355328):Ac_ Tryz.prog 92 [Av_ g] (AP_ (Aw_ g)):=by
 refine⟨Tryz.call92,by simp[mx],fun cur M w vs hM hr=> ?_⟩;simp only[rdV]at hr;obtain⟨v0,r0,hvs,h0,rfl⟩:=hr;have hvs':vs= #[v0]:=by cases vs;simpa using hvs
 subst hvs';have hok:=cnt_ok (AG_ 3 g);have hN:=HW_ g 3;obtain⟨m,hm⟩:∃m,m=cntL (AG_ 3 g):=⟨_,rfl⟩;rw[←hm]at hN hok;obtain⟨_,_,hN⟩:=hN
 have hN:=(hN M w (fun _=>⟨[],Go.undef⟩) #[v0,.int .i64 3] ⟨by simp,by simp[Ab_],by simp[Ab_],fun b hb=>hM b (by simpa[Ab_]using hb),by simp⟩ (by
  simp only[rdV];refine⟨v0,_,rfl,?_,_,_,rfl,by simp[Dm.rd],rfl⟩
  exact BH_ (n:=0) ⟨fun _ _ _ h _=>absurd h (eD0 _),fun _ _ _ _ h=>h,fun b _ hb _ _ hm=>hb (by simpa[Ab_]using hm)⟩ _ _ (by simp[mx]) h0)).2
 have cK:∀mb W,CallsIn Fence.wide 5 Tryz.prog 175 #[.map mb] W fun e w'=>e= .returned (.func (.func 259) #[] #[.pointer (some ⟨W.heap.size,0,none⟩)])∧w'=W.alloc (.cells #[.map mb] 241):=fun mb W=>AnyZ.keys_in Tryz.keysM Fence.wide 5 trivial rfl mb W
 have hf1:Fence.wide.fn 176:=trivial;have hf2:Fence.wide.fn 175:=trivial;have hf3:Fence.wide.fn 174:=trivial;refine(callsIn_wide (n:=6)).1 ?_;refine callsIn_of_wp Tryz.func92 rfl trivial ?_ rfl;simp only[Tryz.ntmps92,dG0,List.length_cons,List.length_nil,Nat.reduceAdd,Nat.reduceSub,Array.replicate_succ,Array.replicate_zero,List.push_toArray,List.append_toArray,List.nil_append,List.cons_append]
 gi_wp2_with (gi_at_call 176;refine(callsIn_wide.2 hN).mono ?_;rintro e w1 ⟨v1,rfl,loc1,S1,U1,hnew1,hver1,hrd1⟩)
 simp only[Dm.rd]at hrd1;obtain⟨b,hb1,rfl⟩:=hrd1 (loc1 0) rfl;have hO:=S1.ok _ (aF0.2 rfl);obtain⟨b',es,clk,hb2,hheap,hborn,hkeys,_⟩:=hO;simp only at hb2;rw[hb1]at hb2;simp only[bG0,and_true]at hb2;subst hb2;obtain⟨hke,hks⟩:=Qo_ hkeys;have hlen:m.K.length≤(AG_ 3 g).length:=hok.le;have hmax:m.K.length≤maxLen:=by unfold maxLen;omega
 have hblt:b<w1.heap.size:=(aG0.1 hheap).1;obtain⟨D0,hown,hperm,hsize⟩:=owns_of (w:=w1.alloc (.cells #[.map (some b)] 241)) (b:=b) (by rw[←hheap];simp only[World.alloc,bR0];rw[if_neg (by omega)]) hborn hke hks hok.nd hmax
 gi_wp2_with (gi_at_call 175;refine(cK _ _).mono ?_;rintro e w2 ⟨rfl,rfl⟩)
 have hseq:SeqGives Fence.wide 2 Tryz.prog 259 #[.pointer (some ⟨w1.heap.size,0,none⟩)] encStr (fun ss=>ss.Perm (strKeys D0)) (Maps.size D0) (w1.alloc (.cells #[.map (some b)] 241)) :=
  AnyZ.keys_gives (ρ:=Tryz.keysM_ren) { Tryz.keysM with } Fence.wide _ trivial rfl (by omega) w1.heap.size b m.K.length D0 _ (by simp) (by simp) hown
 have cS:=AnyZ.sorted_in Tryz.sortedM Fence.wide 5 trivial trivial trivial trivial rfl (by omega) (sortsS _) (enters_of Tryz.func258 (by kernel_rfl) rfl) 259 #[.pointer (some ⟨w1.heap.size,0,none⟩)] trivial (enters_of Tryz.func259 (by kernel_rfl) rfl) _ _ (by omega) (by omega) _ hseq
 change CallsIn _ _ Tryz.prog 174 _ _ _ at cS
 gi_wp2_with (gi_at_call 174;refine cS.mono ?_;rintro e w3 ⟨v,ss,rfl,hS,hrow,hnil,hb3⟩)
 go_ret
 have hU:Upd [] w w3:=(show Upd [] w w1 from U1).trans ((Upd.alloc [] w1 _).trans (upd_below hb3) (by simp)) (by simp)
 have hss:(ss.mergeSort fun x y=>decide (x≤y)).map (fun x=>(⟨x.toArray⟩:ByteArray))=Aw_ g:=by
  have h1:ss.mergeSort leB=(m.K.map fun s=>s.data.toList).mergeSort leB:=mergeSort_of_perm (hS.trans hperm);have h2:=Yy_ hok.nd hok.mem;unfold Dr_ at h2;unfold Aw_;rw[←h2,←h1]
 have hssl:ss.length=m.K.length:=by rw[hS.length_eq,hperm.length_eq,aK0]
 refine⟨v,rfl,hU,?_⟩;simp only[Dm.rd];rw[←hss];obtain⟨_,hrow⟩:=hrow
 rcases hrow with ⟨rfl,hz⟩ | ⟨gb,cap,cur2,rfl,hbase,hgb,r1,r2,r3,r4⟩
 ·have h0:ss=[]:=bN0 hz;subst h0;exact⟨none,0,by simp,by simp,by simp,by simp,.inl ⟨by simp,fun _=>rfl⟩⟩
 ·have hml:(ss.mergeSort fun x y=>decide (x≤y)).length=ss.length:=List.length_mergeSort _;refine⟨some ⟨gb,0,none⟩,cap,by simp,by simpa using r1,r2,?_,.inr ⟨gb,0,cur2,_,(0,0),rfl,fun hm=> ?_,hgb,?_⟩⟩
  ·simp only[aK0,hml];omega
  ·have h1:=hM gb hm;have h2:=U1.size;simp at hbase;omega
  ·refine Ff_ _ _ _ _ fun i cs hi=> ?_
   rw[bM0,bM0,Option.map_map,bD0]at hi;obtain⟨x,hx,rfl⟩:=hi;refine⟨rfl,?_⟩;have hil:i<ss.length:=by have:=(aB0.1 hx).1;omega
   have hcell:cur2[i]? =some (encStr x):=by
    have h1:(cur2.toList.take (ss.length*1))[i]? =some (encStr x):=by rw[r4,bM0,hx];rfl
    rw[bV0 (by omega)]at h1;simpa using h1
   have hxs:x.length≤maxLen:=by
    have h1:x∈m.K.map fun s=>s.data.toList:=(hS.trans hperm).mem_iff.1 ((dS0 ss _).mem_iff.1 (bL0 hx))
    obtain⟨s,hs,rfl⟩:=aU0.1 h1;exact hks s hs
   simp only[Function.comp_apply,dStr,rdC,and_true];exact⟨encStr x,by simpa using hcell,rfl,by simp only[Dm.rd];exact⟨trivial,hxs⟩⟩
end Go.Proofs.YtchgnpnbcjflcaaGreat
end
section
namespace Go.Proofs.YtchgnpnbcjflcaaGreat
open Go Go.Dm
attribute [local irreducible] DW AV_ AZ_
set_option maxRecDepth 100000
def XP_ : Ann:=⟨[],[]⟩
theorem ord5_pure (g:List Rul) (hl:g.length≤64) (hs:SmlG g):Ac_ Tryz.prog 235 [Av_ g] (.bool (decide (16<(Aw_ g).length))):=by
 refine Aa_ [] XP_ Tryz.func235 Tryz.call235 Tryz.ntmps235 mxd (aj2 @XP_.eq_1 Tryz.results235) rfl (by simp) (by simp[mx]) fun hwf B hnt hgAnn=> ?_
 clear hwf;simp only[argS];have n3:=DY_ (k:=3) hs;have e1:=Id_ g (by omega);obtain⟨H,hH⟩:∃H,H=Aw_ g:=⟨_,rfl⟩;rw[←hH]at e1;rw[←hH];have h2:decide (16<H.length)=decide ((16:Int)<(H.length:Int)):=decide_eq_decide.2 (by omega);rw[h2];exact go0 (aj1 e1) aj0 aj0
def XO_ : Ann:=⟨[],[]⟩
theorem ord9_pure (gt:GT) (hk:OkG gt) (hs:SmlG (mkG gt)) (h1:1≤gt.length) (hl:gt.length≤64):Ac_ Tryz.prog 240 [Av_ (mkG gt)] (.bool (!Jn_ gt)):=by
 refine Aa_ [] XO_ Tryz.func240 Tryz.call240 Tryz.ntmps240 mxd (aj2 @XO_.eq_1 Tryz.results240) rfl (by simp) (by simp[mx]) fun hwf B hnt hgAnn=> ?_
 clear hwf;simp only[argS];have e1:=Qj_ gt hk hs h1 hl;obtain⟨g,hg⟩:∃g,g=mkG gt:=⟨_,rfl⟩;rw[←hg]at e1 ⊢;exact go0 (aj1 e1) aj0 aj0
def XQ_ : Ann:=⟨[],[]⟩
theorem QS_ (f:FuncId):Ac_ Tryz.prog 226 [.fn (.func f) [] []] (.fn (.func 227) [] [.ref [.fn (.func f) [] []]]):=by
 refine Aa_ [] XQ_ Tryz.func226 Tryz.call226 Tryz.ntmps226 mxd (aj2 @XQ_.eq_1 Tryz.results226) rfl (by simp) (by simp[mx,mxL]) fun hwf B hnt hgAnn=> ?_
 clear hwf;simp only[argS];exact go0 aj0 aj0 aj0
structure Ask where
 f:FuncId
 cs:List DVal
 b:Bool
 e:Int
def dAsk (x:Ask):List DVal:=[.fn (.func x.f) [] x.cs,.int .i64 x.e]
def asks (b1 b2 b3 b4 b5 b6 b7 b8:Bool):List Ask :=
 [⟨229,[],b1,180⟩,⟨227,[.ref [.fn (.func 230) [] []]],b2,170⟩,⟨233,[],b3,181⟩,⟨235,[],b4,182⟩,⟨236,[],b5,183⟩,⟨227,[.ref [.fn (.func 238) [] []]],b6,171⟩,⟨239,[],b7,184⟩,⟨240,[],b8,174⟩]
def XR_ : Ann:=⟨[],[]⟩
theorem EJ_ (b1 b2 b3 b4 b5 b6 b7 b8:Bool):Ac_ Tryz.prog 164 [] (.sl 2 16 ((asks b1 b2 b3 b4 b5 b6 b7 b8).map dAsk)):=by
 refine Aa_ [] XR_ Tryz.func164 Tryz.call164 Tryz.ntmps164 mxd (aj2 @XR_.eq_1 Tryz.results164) rfl (by simp) (by simp[mx,mxR,mxL,asks,dAsk]) fun hwf B hnt hgAnn=> ?_
 clear hwf;simp only[argS,asks,dAsk,List.map_cons,List.map_nil];have e1:=QS_ 230;have e2:=QS_ 238;have r8:List.range 8=[0,1,2,3,4,5,6,7]:=rfl;exact go0 (aj2 e1 e2) aj0 (aj1 r8)
def LI_ : List Ask→Int
 | []=>0
 | x::l=>if x.b then x.e else LI_ l
def anBN776 : Ann:=⟨[],[⟨3,[4],[],[]⟩]⟩
set_option maxHeartbeats 1000000 in
theorem Hu_ (g:List Rul) (l:List Ask) (hl8:l.length=8) (hmx:mxR (l.map dAsk)=0) (ho:Ac_ Tryz.prog 164 [] (.sl 2 16 (l.map dAsk)))
  (hq:∀(k:Nat) (x:Ask),l[k]? =some x→(∀(j:Nat) (y:Ask),j<k→l[j]? =some y→y.b=false)→Ac_ Tryz.prog x.f (Av_ g::x.cs) (.bool x.b)):Ac_ Tryz.prog 76 [Av_ g] (.int .i64 (LI_ l)):=by
 refine Aa_ [] anBN776 Tryz.func76 Tryz.call76 Tryz.ntmps76 mxd (aj2 @anBN776.eq_1 Tryz.results76) rfl (by simp) (by simp[mx]) fun hwf B hnt hgAnn=> ?_
 clear hwf;simp only[argS];obtain⟨R,hR⟩:∃R,R=LI_ l:=⟨_,rfl⟩;rw[←hR]
 (refine go1 (aj1 ho) aj0 aj0 ?_;intros;refine mk_i ?_)
 refine Ad_ (X:={k:Nat//k≤l.length∧R=LI_ (l.drop k)∧∀(j:Nat) (y:Ask),j<k→l[j]? =some y→y.b=false}) (fun x=>⟨[(0,Av_ g),(5,.sl 2 16 (l.map dAsk)),(6,.int .i64 l.length),(7,.int .i64 x.1)],[]⟩) (fun x=>l.length-x.1) ⟨0,by simp[hR]⟩ (Sub.lit (by simp[hmx])) ?_;clear hR;rintro⟨k,hk,hR,hno⟩
 by_cases hlt:k<l.length
 ·obtain⟨x,hx,hx',hxm⟩:=Aj_ hlt;rw[aR0 hlt,hx',LI_]at hR;have e1:=hq k x hx hno;cases hb:x.b
  ·rw[hb]at e1 hR;simp only[aP0,if_false]at hR
   have hno':∀(j:Nat) (y:Ask),j<k+1→l[j]? =some y→y.b=false:=by
    intro i y hi hy
    by_cases hik:i=k
    ·subst hik;rw[hx]at hy;simp only[aA0]at hy;subst hy;exact hb
    ·exact hno i y (by omega) hy
   (refine go1 (aj1 e1) aj0 (aj4 @dAsk.eq_1 hlt hx hx') ?_;intros;refine mk_i ?_)
   exact Ai_.mk ⟨k+1,by omega,hR,hno'⟩ (Sub.lit (by simp[hmx])) (by simp;omega)
   skip
  ·rw[hb]at e1 hR;simp only[if_true]at hR;subst hR;exact go0 (aj1 e1) aj0 (aj4 @dAsk.eq_1 hlt hx hx')
 ·have hkk:k=l.length:=by omega
  subst hkk;rw[cB0]at hR;have hR2:R=0:=hR;subst hR2;exact go0 aj0 aj0 aj0
theorem Pv_ (g:List Rul) (h:g.length<1∨64<g.length):Ac_ Tryz.prog 76 [Av_ g] (.int .i64 180):=by
 have hq:=Ld_ g;have hb:(decide (g.length<1)||decide (64<g.length))=true:=by simpa using h
 rw[hb]at hq;refine Hu_ g (asks true true true true true true true true) rfl (by simp[asks,dAsk,mxR,mxL,mx]) (EJ_ _ _ _ _ _ _ _ _) fun k x hx hno=> ?_
 cases k with
 | zero =>
  simp only[asks,bC0,aA0]at hx;subst hx;exact hq
 | succ k=>have:=hno 0 _ (by omega) rfl;simp at this
theorem TY_ (g:List Rul) (h1:1≤g.length) (h2:g.length≤64) (hs:SmlG g) (ht:El_ g=false):Ac_ Tryz.prog 76 [Av_ g] (.int .i64 170):=by
 have q1:=Ld_ g;have hb:(decide (g.length<1)||decide (64<g.length))=false:=by rw[decide_eq_false (by omega),decide_eq_false (by omega)];rfl
 rw[hb]at q1;have q2:=Le_ 230 g badR fun x hx=>QT_ x (hs x hx)
 have hb2:g.any badR=true:=by
  unfold El_ at ht;rw[List.all_eq_false]at ht;obtain⟨r,hr,hn⟩:=ht;refine cF0.2 ⟨r,hr,?_⟩;unfold badR;rw[eM0]at hn;rw[hn];rfl
 rw[hb2]at q2;refine Hu_ g (asks false true true true true true true true) rfl (by simp[asks,dAsk,mxR,mxL,mx]) (EJ_ _ _ _ _ _ _ _ _) fun k x hx hno=> ?_
 match k,hx,hno with
 | 0,hx,_ =>
  simp only[asks,bC0,aA0]at hx;subst hx;exact q1
 | 1,hx,_ =>
  simp only[asks,bC0,bI0,aA0]at hx;subst hx;exact q2
 | k+2,_,hno=>have:=hno 1 _ (by omega) rfl;simp at this
theorem YO_ {gt:GT} (hk:OkG gt) (hd:GI_ gt=false):Jn_ gt=decide ((BZ_ gt).size≤2048):=by
 unfold Jn_
 by_cases h:(BZ_ gt).size≤2048
 ·rw[decide_eq_true h,fC0,aX0];intro p hp;have h1:=UF_ hp;have h2:=SF_ p.2 (hk p hp).2;unfold GI_ at hd;rw[cS0]at hd;have h3:=hd p hp;simp only[decide_eq_true_eq]at h3;unfold Ee_ CM_;rw[if_neg h3,if_neg (by omega)];simp;omega
 ·rw[decide_eq_false h,Bool.and_false]
set_option maxHeartbeats 1000000 in
theorem Zr_ (gt:GT) (h1:1≤gt.length) (h2:gt.length≤64) (hk:OkG gt) (hs:SmlG (mkG gt)):Ac_ Tryz.prog 76 [Av_ (mkG gt)] (.int .i64 (Ps_ gt)):=by
 have hml:=Fy_ gt;have q1:=Ld_ (mkG gt);have hb:(decide ((mkG gt).length<1)||decide (64<(mkG gt).length))=false:=by rw[decide_eq_false (by omega),decide_eq_false (by omega)];rfl
 rw[hb]at q1;have q2:=Le_ 230 (mkG gt) badR fun x hx=>QT_ x (hs x hx)
 have hb2:(mkG gt).any badR=false:=by
  have ht:=VH_ hk;unfold El_ at ht;rw[aX0]at ht;rw[cS0];intro r hr;unfold badR;rw[ht r hr];simp
 rw[hb2]at q2;have n2:=DY_ (k:=2) hs;have q3:=ord4_pure (mkG gt) (by omega) hs;have q4:=ord5_pure (mkG gt) (by omega) hs;have q5:=ord6_pure (mkG gt) hs (by omega)
 have q6:Ac_ Tryz.prog 227 [Av_ (mkG gt),.ref [.fn (.func 238) [] []]] (.bool (GI_ gt)):=by
  have hq:∃q:Rul→Bool,(∀p∈gt,q ⟨p.1,flat p.2⟩=decide (16<htT p.2))∧∀x∈mkG gt,Ac_ Tryz.prog 238 [.agg (dRul x)] (.bool (q x)):=by
   refine⟨fun r=>decide (16<(r.b.foldl GG_ ([],0)).2),fun p hp=> ?_,fun x hx=> ?_⟩
   ·simp only[Hm_ (hk p hp).2]
   ·obtain⟨p,hp,rfl⟩:=aU0.1 hx;simp only[Hm_ (hk p hp).2];exact ord7_pure p.1 p.2 (hk p hp).2 (HK_ hs hp)
  obtain⟨q,hq1,hq2⟩:=hq;have e1:=Le_ 238 (mkG gt) q hq2
  have:(mkG gt).any q=GI_ gt:=by
   unfold mkG GI_;rw[List.any_map];rw[Bool.eq_iff_iff,cF0,cF0]
   constructor
   ·rintro⟨p,hp,h⟩;exact⟨p,hp,by rw[←hq1 p hp];exact h⟩
   ·rintro⟨p,hp,h⟩;exact⟨p,hp,by rw[←hq1 p hp]at h;exact h⟩
  rw[this]at e1;exact e1
 have q7:=ord8_pure (mkG gt) (by omega);have q8:=ord9_pure gt hk hs h1 h2
 have hf:Ps_ gt=LI_ (asks false false (decide (16<(As_ (mkG gt)).length+(Dc_ (mkG gt)).length)) (decide (16<(Aw_ (mkG gt)).length)) (decide (64<occG (mkG gt))) (GI_ gt) (decide (0<(Dc_ (mkG gt)).length)) (!Jn_ gt)):=by
  unfold Ps_;simp only[asks,LI_,aP0,if_false,decide_eq_true_eq];cases hd:GI_ gt
  ·rw[YO_ hk hd]
   by_cases h8:2048<(BZ_ gt).size
   ·have h8':¬(BZ_ gt).size≤2048:=by omega
    simp[h8,h8']
   ·have h8':(BZ_ gt).size≤2048:=by omega
    simp[h8,h8']
  ·simp
 rw[hf];refine Hu_ (mkG gt) _ rfl (by simp[asks,dAsk,mxR,mxL,mx]) (EJ_ _ _ _ _ _ _ _ _) fun k x hx hno=> ?_
 match k,hx with
 | 0,hx=>simp only[asks,bC0,bI0,aA0]at hx;subst hx;exact q1
 | 1,hx=>simp only[asks,bC0,bI0,aA0]at hx;subst hx;exact q2
 | 2,hx=>simp only[asks,bC0,bI0,aA0]at hx;subst hx;exact q3
 | 3,hx=>simp only[asks,bC0,bI0,aA0]at hx;subst hx;exact q4
 | 4,hx=>simp only[asks,bC0,bI0,aA0]at hx;subst hx;exact q5
 | 5,hx=>simp only[asks,bC0,bI0,aA0]at hx;subst hx;exact q6
 | 6,hx=>simp only[asks,bC0,bI0,aA0]at hx;subst hx;exact q7
 | 7,hx=>simp only[asks,bC0,bI0,aA0]at hx;subst hx;exact q8
 | k+8,hx=>simp[asks]at hx
theorem str_nodup {l:List ByteArray} (h:Str l):l.Nodup:=h.imp fun h1=>sLess_ne h1
theorem Ve_ {l:List ByteArray} (hn:l.Nodup) {i:Nat} {x:ByteArray} (h:l[i]? =some x):¬x∈l.take i:=by
 intro hm;obtain⟨j,hj,e⟩:=bJ0 hm;rw[bB0]at hj;rw[List.getElem_take]at e;obtain⟨hi,e2⟩:=aB0.1 h;have:=(List.getElem_inj (h₀:=by omega) (h₁:=hi) hn).1 (e.trans e2.symm);omega
theorem Bv_ {α:Type} {l:List α} {i:Nat} {x:α} (h:l[i]? =some x):l.take (i+1)=l.take i++[x]:=by rw[bF0,h];rfl
def Su_ : Ann:=⟨[19,21],[]⟩
set_option maxHeartbeats 2000000 in
theorem of14_ok (g:List Rul) (hn:(AG_ 3 g).length*16≤140737488355328) (hl:(As_ g).length<9223372036854775807) (hll:(Aw_ g).length<9223372036854775807) (h:Ac_ Tryz.prog 76 [Av_ g] (.int .i64 0)):Ac_ Tryz.prog 29 [Av_ g] (.tup [dTab (As_ g) (Aw_ g),.int .i64 0]):=by
 refine Aa_ [19,21] Su_ Tryz.func29 Tryz.call29 Tryz.ntmps29 mxd (aj2 @Su_.eq_1 Tryz.results29) rfl (by simp) (by simp[mx]) fun hwf B hnt hgAnn=> ?_
 clear hwf;simp only[argS];have e1:=FJ_ g;have e2:=Id_ g hn;have hH:=Jt_ g;have hL:=str_nodup (FW_ (AG_ 3 g)).1;rw[show DP_ (AG_ 3 g)=Aw_ g from rfl]at hL;obtain⟨H,eH⟩:∃H,H=As_ g:=⟨_,rfl⟩;obtain⟨L,eL⟩:∃L,L=Aw_ g:=⟨_,rfl⟩;rw[←eH]at e1 hH hl ⊢;rw[←eL]at e2 hL hll ⊢;clear eH eL
 (refine go1 (aj3 h e1 e2) aj0 aj0 ?_;intros;refine mk_i ?_)
 refine Ad_ (X:={k:Nat//k≤H.length}) (fun k=>⟨[(5,.bx 21 1 0),(25,AP_ H),(26,.int .i64 H.length),(27,.int .i64 k.1)],[⟨21,1,.box [AP_ H,AP_ L,.omp 19 1]⟩,⟨19,1,.map (keyL false (H.take k.1)) (upTo k.1)⟩]⟩) (fun k=>H.length-k.1) ⟨0,by omega⟩ (Sub.lit (by simp[keyL,upTo])) ?_;rintro⟨k,hk⟩;simp only
 by_cases hlt:k<H.length
 ·obtain⟨x,hx,hx',hxm⟩:=Aj_ hlt;have h1:=Ge_ (b:=false) (Ve_ hH hx);have hok:=TE_ false (H.take k);have hu:upTo k++[.int .i64 (k:Int)]=upTo (k+1):=(KD_ k).symm;have hKs:keyL false (H.take k)++[.agg [.bool false,.str x]]=keyL false (H.take (k+1)):=by rw[Bv_ hx,Rp_]
  (refine go1 aj0 aj0 (aj8 hlt hx hx' @dStr.eq_1 h1 hok hu hKs) ?_;intros;refine mk_i ?_)
  refine Ai_.mk ⟨k+1,by omega⟩ (Sub.lit (by simp[hKs])) (by simp;omega)
  skip
 ·have hkk:k=H.length:=by omega
  subst hkk;rw[aS0];have k0:keyL true []=[]:=rfl;have u0:upTo 0=[]:=rfl
  (refine go1 aj0 aj0 aj0 ?_;intros;refine mk_i ?_)
  refine Ad_ (X:={k:Nat//k≤L.length}) (fun k=>⟨[(5,.bx 21 1 0),(43,AP_ L),(44,.int .i64 L.length),(45,.int .i64 k.1)],[⟨21,1,.box [AP_ H,AP_ L,.omp 19 1]⟩,⟨19,1,.map (tabK H (L.take k.1)) (upTo H.length++upTo k.1)⟩]⟩) (fun k=>L.length-k.1) ⟨0,by omega⟩ (Sub.lit (by simp[tabK,k0,u0])) ?_;rintro⟨k,hk⟩;simp only
  by_cases hlt:k<L.length
  ·obtain⟨x,hx,hx',hxm⟩:=Aj_ hlt;have h1:=Ux_ (H:=H) (L:=L.take k) (b:=true) (Ve_ hL hx);have hok:=tab_ok H (L.take k);have hu:upTo H.length++upTo k++[.int .i64 (k:Int)]=upTo H.length++upTo (k+1):=by rw[KD_,aT0]
   have hKs:tabK H (L.take k)++[.agg [.bool true,.str x]]=tabK H (L.take (k+1)):=by unfold tabK;rw[Bv_ hx,Rp_,aT0]
   (refine go1 aj0 aj0 (aj8 hlt hx hx' @dStr.eq_1 h1 hok hu hKs) ?_;intros;refine mk_i ?_)
   refine Ai_.mk ⟨k+1,by omega⟩ (Sub.lit (by simp[hKs])) (by simp;omega)
   skip
  ·have hkk:k=L.length:=by omega
   subst hkk;rw[aS0];exact go0 aj0 aj0 aj0
end Go.Proofs.YtchgnpnbcjflcaaGreat
end
section
namespace Go.Dm
variable [DMode]
open Go.Shelf Go.Sort Go.Proofs Go.RowKit
def JI_ (l:List Int):List Int:=l.mergeSort fun x y=>decide (x≤y)
theorem Ih_ (l:List Int):(JI_ l).length=l.length:=by simp[JI_]
def dZ (z:Int):List DVal:=[.int .i64 z]
theorem Qz_ {P:Program} {ρ:Ren} (L:Lays.n189 P ρ) {f:FuncId} {et bs:Nat} (hf:ρ.f 189=f) (hen:BK_ P f) (hbs0:0<bs) (l:List Int) :
  AL_ P (.func f) [.osl 0 0] [⟨0,0,.row et 1 bs (l.map dZ)⟩] (.tup []) [⟨0,0,.row et 1 bs ((JI_ l).map dZ)⟩]:=by
 refine⟨by simp,hen,fun M w loc vs S hr=> ?_⟩;refine⟨hen,?_⟩;simp only[rdV]at hr;obtain⟨v0,r0,hvs,h0,rfl⟩:=hr;simp only[rd]at h0;have hcur0:∀l:List Int,Ae_ [(⟨0,0,.row et 1 bs (l.map dZ)⟩:Ent)] loc 0 0=some (loc 0):=fun _=>rfl
 have hv0:=h0 _ (hcur0 l);have hvs':vs= #[v0]:=by cases vs;simpa using hvs
 subst hvs';subst hf;have hhot:∀l:List Int,Ab_ [(⟨0,0,.row et 1 bs (l.map dZ)⟩:Ent)] loc=(loc 0).blks:=fun _=>by simp[Ab_]
 have htup:∀cur M h,rd cur M h (.tup []) (.tuple #[]):=fun _ _ _=>by simp only[rd];exact⟨#[],rfl,by simp[rdV]⟩
 have hk:=S.ok ⟨0,0,.row et 1 bs (l.map dZ)⟩ (by simp)
 by_cases hne:l=[]
 ·subst hne
  obtain⟨a,cap,hh⟩:∃a cap,(loc 0).hdr= .slice a 0 cap:=by
   obtain⟨_,⟨_,_,h2⟩ | ⟨b,arr,cap,_,h2,_⟩⟩:=hk
   ·exact⟨_,_,h2⟩
   ·exact⟨_,_,h2⟩
  rw[hh]at hv0;subst hv0;refine(Any.slices_Sort_int_none L a cap w).mono ?_;rintro e w' ⟨rfl,rfl⟩;have e0:JI_ []=[]:=by simp[JI_]
  rw[e0];exact⟨_,rfl,loc,S,Upd.refl _ _,fun b hb=> .inl hb,fun e he _=>Az_ S.nd he,htup _ _ _⟩
 ·obtain⟨b,arr,cap,p1,p2,p3,p4,p5,p6,p7⟩:∃b arr cap,(loc 0).blks=[b]∧(loc 0).hdr= .slice (some ⟨b,0,none⟩) (l.map dZ).length cap∧w.heap[b]? =some (.cells arr et (0,0))∧(l.map dZ).length≤cap∧cap≤maxLen∧cap*1=arr.size∧rdR (Ae_ [(⟨0,0,.row et 1 bs (l.map dZ)⟩:Ent)] loc) (Ab_ [(⟨0,0,.row et 1 bs (l.map dZ)⟩:Ent)] loc++M) w.heap 1 (l.map dZ) arr 0:=by
   obtain⟨_,⟨h,_⟩ | h⟩:=hk
   ·exact absurd (List.map_eq_nil_iff.1 h) hne
   ·exact h
  have hbs:(l.map dZ).length*bs≤150000000000000:=hk.1;rw[p2]at hv0;subst hv0;rw[aK0]at p2 p4 hbs
  have hmax:∀s∈l,inR .i64 s∧True:=by
   intro s hs;obtain⟨i,hi,rfl⟩:=bJ0 hs;obtain⟨q1,q2⟩:=Dq_ 1 _ arr 0 i [.int .i64 l[i]] p7 (by simp[dZ,hi]);obtain⟨us,g1,g2,g3⟩:=DX_ _ _ _ q2;simp only[rdV,rd]at g2;obtain⟨v,_,_,⟨_,h⟩,_⟩:=g2;exact⟨h,trivial⟩
  have hcell:∀i (hi:i<l.length),arr[i]? =some (.int .i64 l[i]):=by
   intro i hi;obtain⟨q1,q2⟩:=Dq_ 1 _ arr 0 i [.int .i64 l[i]] p7 (by simp[dZ,hi]);obtain⟨us,g1,g2,g3⟩:=DX_ _ _ _ q2;simp only[rdV,rd]at g2;obtain⟨v,r,rfl,⟨rfl,_⟩,_⟩:=g2;have:=(g3 0 _ rfl).1;simpa using this
  obtain⟨ss,hss⟩:∃ss,ss=l:=⟨_,rfl⟩;have hssl:ss.length=l.length:=by rw[hss]
  have hH:Holds (Value.int .i64) w b 0 ss.toArray:=by
   intro j hj;simp only[dG0,hssl]at hj;refine⟨?_,Lib.frozen_of_heap p3 _⟩;rw[bQ0,Lib.cell_of_heap p3,hcell j hj];rw[getElem!_pos _ j (by simpa[hssl]using hj)];simp[hss]
  have hlt:ss.length<4611686018427387904:=by
   rw[hssl];have h1:l.length*1≤l.length*bs:=cD0 _ hbs0;omega
  have hbl:b<w.heap.size:=(aG0.1 p3).1;have key:=Any.slices_Sort_int L b 0 cap ss w hH hbl hlt;rw[hssl]at key;simp only[aK0];refine key.mono ?_;rintro e w' ⟨rfl,n,os,rfl⟩;obtain⟨q1,q2,q3,q4,q5,q6,q7⟩:=QM_ (Value.int .i64) (et:=et) (arr:=arr) p3 n os (ss.mergeSort fun x y=>decide (x≤y)).toArray;have hse:JI_ l=(ss.mergeSort fun x y=>decide (x≤y)):=by rw[hss];rfl
  have hml:(ss.mergeSort fun x y=>decide (x≤y)).length=l.length:=by simp[hssl]
  refine⟨_,rfl,loc,⟨by simp,by rw[hhot,p1];simp,fun q hq=>S.ap q (by rw[hhot];rwa[hhot]at hq),fun q hq=> ?_,?_⟩,?_,fun q hq=> .inl (by rw[hhot];rwa[hhot]at hq),?_,htup _ _ _⟩
  ·refine cC0 (S.lt q ?_) q3;rw[hhot]at hq ⊢;exact hq
  ·intro e he;simp only[aF0]at he;subst he;refine⟨by simpa[Ih_]using hbs,.inr ⟨b,_,cap,p1,by simpa[Ih_]using p2,q1,by simpa[Ih_]using p4,p5,by simpa[putCells]using p6,?_⟩⟩;refine Ff_ _ _ _ _ fun i cs0 hi=> ?_
   have hil:i<l.length:=by
    have:=(aB0.1 hi).1;simpa[Ih_]using this
   rw[hse]at hi;have him:i<(ss.mergeSort fun x y=>decide (x≤y)).length:=by omega
   simp only[bZ0,bM0,aH0 him,dK0,Function.comp_apply,aA0]at hi;subst hi;refine⟨rfl,?_⟩;have hmem:(ss.mergeSort fun x y=>decide (x≤y))[i]∈ss:=(dS0 ss _).mem_iff.1 (cR0 him)
   have hsz:inR .i64 ((ss.mergeSort fun x y=>decide (x≤y))[i]):=by
    generalize (ss.mergeSort fun x y=>decide (x≤y))[i]=y at hmem ⊢
    rw[hss]at hmem;exact(hmax y hmem).1
   have h0:=Fw_ (cur:=Ae_ [(⟨0,0,.row et 1 bs ((JI_ l).map dZ)⟩:Ent)] loc) (M:=Ab_ [(⟨0,0,.row et 1 bs ((JI_ l).map dZ)⟩:Ent)] loc++M) (H:=(grow (putRow (Value.int .i64) (Sort.ahead w n) b 0 (ss.mergeSort fun x y=>decide (x≤y)).toArray) os).heap) [.int .i64 ((ss.mergeSort fun x y=>decide (x≤y))[i])] [.int .i64 ((ss.mergeSort fun x y=>decide (x≤y))[i])] [] [] (by simp only[rdV,rd];exact⟨_,_,rfl,⟨rfl,hsz⟩,rfl⟩) (by simp[Value.oneCell'])
   refine BU_ _ _ _ _ _ (fun p hp=> ?_) h0;have hp0:p=0:=by simp[dZ]at hp;omega
   subst hp0;have hia:i<arr.size:=by omega
   simp only[putCells,Array.getElem?_mapIdx];rw[show 0+i*1+0=i by omega,bW0 hia];simp[him,hml,hil,hssl]
  ·rw[hhot,p1];exact⟨q4,q5,q6,fun _=>q7,q3,fun q hq hn=>q2 q hq (fun h=>hn (by simp[h]))⟩
  ·intro e he _;simp only[aF0]at he;subst he;rfl
theorem Zg_ {P:Program} {ρ:Ren} (L:Lays8.n4 P ρ) {f:FuncId} {et bs:Nat} (hf:ρ.f 4=f) (hen:BK_ P f) (het:ρ.t 25=et) {i0:TypeInfo} {z:Value} (hi0:P.info? et=some i0) (hz0:i0.zero=some z) (hzc:z.cells.size=1) (hs0:i0.size=1) (hb0:i0.bytes=bs) (hbs:1≤bs)
  (n:Nat) (hn:n*bs≤140737488355328):AL_ P (.func f) [.nilsl,.int .i64 n] [] (.osl 0 1) [⟨0,1,.row et 1 bs []⟩]:=by
 refine⟨by simp,hen,fun M w loc vs S hr=> ?_⟩;refine⟨hen,?_⟩;simp only[rdV,rd]at hr;obtain⟨v0,r0,hvs,rfl,v1,r1,rfl,⟨rfl,_⟩,rfl⟩:=hr;have hvs':vs= #[.slice none 0 0,.int .i64 n]:=by cases vs;simpa using hvs
 subst hvs' hf het;have hnn:n≤n*bs:=Nat.le_mul_of_pos_right _ hbs;have hM:∀b∈M,b<w.heap.size:=fun b hb=>S.lt b (by simpa[Ab_]using hb)
 by_cases h0:n=0
 ·subst h0;refine(Any8.slices_Grow_room L none 0 0 0 w (by omega) (by omega) (by omega) (by omega)).mono ?_;rintro e w' ⟨rfl,rfl⟩;refine⟨_,rfl,fun _=>⟨[],.slice none 0 0⟩,⟨by simp,by simp[Ab_],by simp[Ab_],fun b hb=>hM b (by simpa[Ab_]using hb),fun e he=> ?_⟩,Upd.refl _ _,fun b hb=>by simp[Ab_]at hb,fun e he h=> ?_,?_⟩
  ·simp only[aF0]at he;subst he;exact⟨by simp,.inl ⟨rfl,rfl,rfl⟩⟩
  ·simp only[aF0]at he;subst he;simp at h
  ·simp only[rd];intro l hl;simp[Ae_,Ao_]at hl;rw[←hl]
 ·refine(Any8.slices_Grow_grow L i0 z hi0 hz0 (by omega) none 0 0 n [] w (by omega) (by omega) (by rw[hb0];simpa using hn) (by omega) (by simp) (fun _=>rfl) (by simp)).mono ?_;rintro e w' ⟨rfl,rfl⟩;obtain⟨G,hG⟩:∃G,G=grownCap w (0+n) 0 (ρ.t 25):=⟨_,rfl⟩;have hge:0+n≤G:=by rw[hG];exact grownCap_ge w _ _ _
  have hGm:G≤maxLen:=by rw[hG];exact grownCap_le_maxLen w _ _ _ (by unfold maxLen;omega)
  rw[←hG];have hU:Upd [] w (w.drew.alloc (.cells ((#[]:Array Value)++Builtin.zeroCells z.cells (0+n-0)++Builtin.zeroCells z.cells (G-(0+n))) (ρ.t 25))):=(Upd.drew _ w).trans (Upd.alloc _ w.drew _) (fun x hx=> .inl hx);refine⟨_,rfl,fun _=>⟨[w.heap.size],.slice (some ⟨w.heap.size,0,none⟩) 0 G⟩,⟨by simp,by simp[Ab_],fun b hb hm=> ?_,fun b hb=> ?_,fun e he=> ?_⟩,hU,fun b hb=> ?_,fun e he h=> ?_,?_⟩
  ·simp[Ab_]at hb;subst hb;exact absurd (hM _ hm) (by omega)
  ·have h1:w.heap.size<(w.drew.alloc (.cells ((#[]:Array Value)++Builtin.zeroCells z.cells (0+n-0)++Builtin.zeroCells z.cells (G-(0+n))) (ρ.t 25))).heap.size:=by
    show w.heap.size<(w.heap.push _).size
    simp
   rcases aI0.1 hb with hb | hb
   ·simp[Ab_]at hb;subst hb;exact h1
   ·exact Nat.lt_trans (hM b hb) h1
  ·simp only[aF0]at he;subst he;refine⟨by simp,.inr ⟨w.heap.size,_,G,rfl,rfl,heap_alloc_new w.drew _,by simp,hGm,?_,by simp[rdR]⟩⟩;simp only[Array.size_append,size_zeroCells,hzc];simp;omega
  ·simp[Ab_]at hb
   right
   omega
  ·simp only[aF0]at he;subst he;simp at h
  ·simp only[rd];intro l hl;simp[Ae_,Ao_]at hl;rw[←hl]
theorem FV_ {P:Program} {f:FuncId} {args:List DVal} {et k bs:Nat} (h:Ac_ P f args .nilsl):AL_ P (.func f) args [] (.osl 0 1) [⟨0,1,.row et k bs []⟩]:=by
 refine⟨by simp,h.1,fun M w loc vs S hr=>⟨h.1,(h.2.2 _ _ _ _ S.lt hr).mono ?_⟩⟩;rintro e w' ⟨v,rfl,hu,hv⟩;have hM:∀b∈M,b<w'.heap.size:=fun b hb=>cC0 (S.lt b (aO0 _ hb)) hu.size
 simp only[rd]at hv;refine⟨_,rfl,fun _=>⟨[],.slice none 0 0⟩,⟨by simp,by simp[Ab_],by simp[Ab_],fun b hb=>hM b (by simpa[Ab_]using hb),fun e he=> ?_⟩,by simpa[Ab_]using hu,fun b hb=>by simp[Ab_]at hb,fun e he h=> ?_,?_⟩
 ·simp only[aF0]at he;subst he;exact⟨by simp,.inl ⟨rfl,rfl,rfl⟩⟩
 ·simp only[aF0]at he;subst he;simp at h
 ·simp only[rd];intro l hl;simp[Ae_,Ao_]at hl;rw[←hl];exact hv
theorem PV_ {P:Program} {f:FuncId} {k bs:Nat} {d:DVal} {own':List Ent} (h1:AL_ P (.func f) [.nilsl] [] d own') (h2:AL_ P (.func f) [.esl] [] d own'):AL_ P (.func f) [.sl k bs []] [] d own':=by
 refine⟨h1.1,h1.2.1,fun M w loc vs S hr=> ?_⟩;simp only[rdV]at hr;obtain⟨v,r,hvs,h5,rfl⟩:=hr;simp only[rd]at h5;obtain⟨a,cap,rfl,_,hc,_,h7⟩:=h5
 cases a with
 | none =>
  have:cap=0:=by
   rcases h7 with h7 | ⟨b,off,arr,ty,fz,h8,_⟩
   ·exact h7.2 rfl
   ·simp at h8
  subst this;refine h1.2.2 M w loc vs S ?_;rw[hvs];simp only[rdV];exact⟨_,_,rfl,by simp[rd],rfl⟩
 | some ad =>
  refine h2.2.2 M w loc vs S ?_;rw[hvs];simp only[rdV];exact⟨_,_,rfl,by simp only[rd];exact⟨ad,cap,rfl,hc⟩,rfl⟩
end Go.Dm
end
