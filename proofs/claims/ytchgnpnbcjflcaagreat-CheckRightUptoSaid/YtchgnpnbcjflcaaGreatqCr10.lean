/- Parts of a proof, laid together: BY1, RB1, RB2, RB3, RB4, RB5, RB6, BP1, RB7, RB8, BX4, BX6, RB9, BX2, RB10, RS0, RS1, RS2, RS3, RS4, RS5. -/
import Derived.Test.YtchgnpnbcjflcaaGreatqCr5
import Derived.Test.YtchgnpnbcjflcaaGreatqCr8
import Derived.Test.YtchgnpnbcjflcaaGreatqCr9
set_option linter.unusedSimpArgs false
set_option maxHeartbeats 8000000
set_option linter.unusedVariables false
set_option linter.unusedSectionVars false
section
namespace Go.Proofs.Wy
open Go Go.Dm Tryz
variable [DMode]
def QA (sy:Nd->Sym) (ts:List RT):List Arc:=Bu (fun x y=>DT x y==0) (FQ DT (HF sy ts))
theorem Lp_ {sy:Nd->Sym} {ts:List RT} {x:Arc}:x∈QA sy ts↔x∈HF sy ts:=by
 unfold QA;rw[(Dp Ej (CN Ej (HF sy ts))).2,(DP _ _).mem_iff]
theorem tF (sy:Nd->Sym) (ts:List RT):Fo DT (QA sy ts):=(Dp Ej (CN Ej (HF sy ts))).1
theorem PV_ {sy:Nd->Sym} {ts:List RT} {x:Arc}:x∈QA sy ts↔∃p q,((p,q)∈uI 0 ts\/(p=0/\q∈oD 0 ts))/\x=Tu (Pe sy ts) (p,q):=by
 rw[Lp_];unfold HF;rw[aU0]
 constructor
 ·rintro⟨⟨p,q⟩,h,rfl⟩;refine⟨p,q,?_,rfl⟩
  rcases aI0.1 h with h | h
  ·exact .inl h
  ·obtain⟨q',hq,he⟩:=aU0.1 h;simp only[_root_.Prod.mk.injEq]at he;obtain⟨rfl,rfl⟩:=he;exact .inr ⟨rfl,hq⟩
 ·rintro⟨p,q,h,rfl⟩;refine⟨(p,q),?_,rfl⟩
  rcases h with h | ⟨rfl,h⟩
  ·exact aS0 _ h
  ·exact aV0 _ (aU0.2 ⟨q,h,rfl⟩)
theorem HZ_ : ∀(ts:List RT) (ah:Nat) (p q:Nat),(p,q)∈uI ah ts->(ah<p/\p<=ah+(CB ts).length)/\ah<q/\q<=ah+(CB ts).length
 | [],ah,p,q,h=>by simp[uI]at h
 | t::ts,ah,p,q,h=>by
  have hl:(CB (t::ts)).length=(Dh (flat t)).length+(CB ts).length:=by simp[CB]
  rw[uI,aI0]at h
  rcases h with h | h
  ·obtain⟨⟨a,b⟩,pC,he⟩:=aU0.1 h;simp only[iR,_root_.Prod.mk.injEq]at he;obtain⟨rfl,rfl⟩:=he;obtain⟨⟨x,hx,hkx⟩,⟨y,hy,hky⟩⟩:=QB t 0 a b pC;have hd:(flat t).drop 0=flat t++[]:=by simp
   have h1:=iQ (ah:=ah) hd (cV0 a) ⟨x,hx,hkx⟩;have h2:=iQ (ah:=ah) hd (cV0 b) ⟨y,hy,hky⟩;rw[Io hd,UO]at h1 h2;unfold GA at h1 h2 |-;omega
  ·have:=HZ_ ts _ p q h;omega
theorem Ps_ (ts:List RT):∀q∈oD 0 ts,1<=q/\q<=(CB ts).length:=fun q h=>by have:=oB ts 0 q h;omega
theorem IQ_ {sy:Nd->Sym} {ts:List RT} {x:Arc} (h:x∈QA sy ts):∃p q:Nat,p<=(CB ts).length/\1<=q/\q<=(CB ts).length/\x=⟨(p:Int),(Pe sy ts).getD (q-1) ⟨false,0⟩,(q:Int)⟩:=by
 obtain⟨p,q,gD,rfl⟩:=PV_.1 h;clear h
 rcases gD with h | ⟨rfl,h⟩
 ·have:=HZ_ ts 0 p q h;exact⟨p,q,by omega,by omega,by omega,rfl⟩
 ·have:=Ps_ ts q h;exact⟨0,q,by omega,by omega,by omega,rfl⟩
def oX (sy:Nd->Sym) (ts:List RT):Auto:=⟨(CB ts).length+1,Jx ts,QA sy ts⟩
theorem Tw_ {l:List Int} {s:Int} (hp:l.Pairwise (· < ·)) (h:∀q∈l,0<=q/\q<s):(List.range l.length).all (okF s l)=true:=by
 rw[bA0];intro k hk;have hk:=cP0.1 hk
 have hs:stB s l[k]=true:=by
  have:=h _ (cY0 hk);unfold stB;simp[this]
 rcases fG0 k with rfl | h0
 ·rw[Ob_ (aD0 hk)];exact hs
 ·rw[QX_ h0 (aD0 hk) (aD0 (show k-1<l.length by omega)),hs];have:=fK0.1 hp (k-1) k (by omega) hk (by omega);simpa using this
theorem Sx_ {l:List Arc} {s:Int} (hp:l.Pairwise (fun x y=>DT x y<0)) (h:∀x∈l,ZL s x=true):(List.range l.length).all (okA s l)=true:=by
 rw[bA0];intro k hk;have hk:=cP0.1 hk;have hs:=h _ (cY0 hk)
 rcases fG0 k with rfl | h0
 ·rw[Od_ (aD0 hk)];exact hs
 ·rw[QY_ h0 (aD0 hk) (aD0 (show k-1<l.length by omega)),hs,Xj];have:=fK0.1 hp (k-1) k (by omega) hk (by omega);simpa using this
theorem QK_ (H L:List ByteArray) (x:Nd):0<=(Fq H L x).n:=by
 unfold Fq LR
 repeat' split
 all_goals simp
theorem RK_ (H L:List ByteArray) (ts:List RT) (fV:(CB ts).length<=64):IU (oX (Fq H L) ts)=true:=by
 unfold IU oX;simp only[aM0,decide_eq_true_eq];refine⟨⟨by omega,by omega⟩,?_,?_⟩
 ·obtain⟨h1,h2⟩:=lZ ts 0
  have hm:((He 0 ts).map XG).Pairwise (· < ·):=by
   rw[dN0];exact h1.imp fun h=>by unfold XG;omega
  have hb:∀q∈(He 0 ts).map XG,0<q/\q<((CB ts).length:Int)+1:=by
   intro q hq;obtain⟨p,hp,rfl⟩:=aU0.1 hq;have:=h2 p hp;unfold XG;omega
  refine Tw_ ?_ ?_
  ·unfold Jx
   split
   ·exact bS0.2 ⟨fun q hq=>(hb q hq).1,hm⟩
   ·exact hm
  ·intro q hq;unfold Jx at hq
   rcases aI0.1 hq with hq | hq
   ·split at hq
    ·simp at hq;subst hq;omega
    ·simp at hq
   ·have:=hb q hq;omega
 ·refine Sx_ (tF _ _) ?_;intro x hx;obtain⟨p,q,h1,h2,h3,rfl⟩:=IQ_ hx
  have hn:0<=((Pe (Fq H L) ts).getD (q-1) ⟨false,0⟩).n:=by
   rw[aZ0]
   cases h:(Pe (Fq H L) ts)[q-1]? with
   | none=>exact Int.le_refl 0
   | some s =>
    obtain⟨y,_,rfl⟩:=aU0.1 (bI0 h);exact QK_ H L y
  unfold ZL stB;simp only[aM0,decide_eq_true_eq];exact⟨⟨by omega,by omega⟩,⟨by omega,by omega⟩,hn⟩
theorem IL_ (H L:List ByteArray) (ts:List RT):Hf_ H L ts= .agg (Hi (oX (Fq H L) ts)):=rfl
theorem PF_ {α:Type} (e:α->α->Bool) (l:List α):(Bu e l).length<=l.length:=by
 cases l with
 | nil=>simp[Bu]
 | cons p t =>
  have:=Jy e t p;simp only[Bu,List.length_cons];omega
theorem Mt_ (sy:Nd->Sym) (ts:List RT) (h:∀t∈ts,(flat t).length<=2048) (fV:(CB ts).length<=64):(QA sy ts).length<=1073741888:=by
 have h1:=PF_ (fun x y=>DT x y==0) (FQ DT (HF sy ts));rw[(DP DT (HF sy ts)).length_eq]at h1;have h2:=iD ts 0 h fV;have h3:=oC ts 0;unfold QA;unfold HF at h1 |-;rw[aJ0,aC0,aJ0]at h1;omega
end Go.Proofs.Wy
end
section
namespace Go.Proofs.Wy
open Go Go.Dm Tryz
variable [DMode]
attribute [local irreducible] DW Bs Bv
set_option maxRecDepth 100000
theorem At.end {l:List Nd} {p:Nat} {t:RT} (h:At l p t):GM_ l p=(p:Int)+(flat t).length:=by
 obtain⟨qL,vS,r,hr⟩:=h;unfold GM_;rw[hr,Ib _ _ 0 qL,Dj];have h2:=congrArg List.length hr;rw[cD0,aC0]at h2;simp only;omega
def DV_ : Ann:=⟨[],[]⟩
theorem Dy (l:List Nd) (p q:Nat) (t:RT) (h:At l p t) (hs:l.length<=1572864):Ac prog 212 [Bl l,.int .i64 p,.int .i64 q] (.bool (Lm t p q)):=by
 refine Ab [] DV_ func212 call212 ntmps212 mxd (Ap @DV_.eq_1 results212) rfl (fun qJ B qX qQ=> ?_);clear qJ;simp only[Ak];have e1:=MS l p hs h.le;rw[h.end]at e1;obtain⟨n,hn⟩:∃n,n=(flat t).length:=⟨_,rfl⟩;unfold Lm;rw[<-hn]at e1 |-;have hc:((p:Int)<=(q:Int))=(p<=q):=by simp
 have hd:((q:Int)<(p:Int)+(n:Int))=(q<p+n):=by apply propext;omega
 by_cases h1:p<=q
 ·exact Al (Aq e1) Aa (BC hc hd h1)
 ·exact Al (Aq e1) Aa (BC hc hd h1)
theorem Hb {p:Nat} {ks:List RT} {i:Nat} {u:RT} (h:ks[i]? =some u):Be p ks (i+1)=Be p ks i+(flat u).length:=by
 unfold Be;rw[OU (ks:=ks) h];omega
theorem Hc {ks:List RT} {i:Nat} {u:RT} (h:ks[i]? =some u):ks.drop i=u::ks.drop (i+1):=by
 obtain⟨hi,rfl⟩:=aB0.1 h;exact aP0 hi
theorem Ha (p:Nat) (ks:List RT):Be p ks 0=p+1:=by unfold Be;rw[eP0,CT];rfl
def DW_ : Ann:=⟨[],[]⟩
theorem IT (q:Nat):∀(n:Nat) (t:RT) (l:List Nd) (p:Nat),(flat t).length=n->At l p t->l.length<=1572864->Ac prog 209 [Bl l,.int .i64 p,.int .i64 q] (.bool (Xc t p q)):=by
 intro n
 induction n using Nat.strongRecOn with
 | ind n ih =>
 intro t l p hn ht hs;obtain⟨x,ks⟩:=t;have kk:=FB l p x ks ht hs;obtain⟨g0,gl,ge⟩:=ht.head;simp only[RT.x]at g0;have g0':l[p]'gl=x:=(aB0.1 g0).2;have vC:(flat (.mk x ks)).length=(Av ks).length+1:=by rw[Bc,List.length_cons]
 have jY:=Di ks;have hk9:ks.length<=1572864:=by omega
 have fJ:∀i u,ks[i]? =some u->Ac prog 209 [Bl l,.int .i64 (Be p ks i),.int .i64 q] (.bool (Xc u (Be p ks i) q)):=fun i u hu=>by
  have hm:=FE (bI0 hu);exact ih (flat u).length (by omega) u l _ rfl (ht.kid hu).1 hs
 have cJ:∀i u,ks[i]? =some u->_:=fun i u hu=>Dy l (Be p ks i) q u (ht.kid hu).1 hs
 have hem:∀i u,ks[i]? =some u->_:=fun i u hu=>HQ _ u l (Be p ks i) rfl (ht.kid hu).1 hs
 have qT:∀i,i<ks.length->_:=fun i h=>IC (p:=p) (ks:=ks) (i:=i) h
 rw[PR_];unfold MC at kk;obtain⟨D,hD⟩:∃D,D=(List.range ks.length).map fun i=>Kk (Be p ks i):=⟨_,rfl⟩
 have wL:D.length=ks.length:=by rw[hD];simp
 have vL:BK D=0:=by rw[hD];exact Jq p ks _
 rw[<-hD]at kk qT;clear hD ih ht ge hn;obtain⟨R,hR⟩:∃R,R=bgL x.k ks (p+1) q:=⟨_,rfl⟩;rw[<-hR];refine Ab [] DW_ func209 call209 ntmps209 mxd (Ap @DW_.eq_1 results209) rfl (fun qJ B qX qQ=> ?_);clear qJ;simp only[Ak]
 by_cases gD:p=q
 ·have gJ:(p:Int)=(q:Int):=by omega
  exact Al (Aq kk) Aa (Ap gD gJ)
 have gJ:¬(p:Int)=(q:Int):=by omega
 have hpqb:((p:Int)==(q:Int))=false:=by simpa using gJ
 (refine Au (Aq kk) Aa (BC gD gJ hpqb) ?_;intros;refine Ae ?_)
 rw[<-Ha p ks,<-eQ0 (l:=ks)]at hR;refine Af (X:={i:Nat//i<=ks.length/\R=bgL x.k (ks.drop i) (Be p ks i) q}) (fun i=>⟨[(0,Bl l),(1,.int .i64 p),(2,.int .i64 q),(7,.sl 1 8 D),(8,.int .i64 i.1)],[]⟩) (fun i=>ks.length-i.1) ⟨0,by omega,by simpa using hR⟩ (Sub.lit (by simp[vL])) ?_;clear hR;rintro⟨i,hi,hR⟩;simp only
 by_cases qV:i<ks.length
 ·obtain⟨u,hu,zL,_⟩:=Ai qV;have e1:=fJ i u hu;have e2:=cJ i u hu;have e3:=hem i u hu;have hr:=qT i qV;have qN:i<D.length:=by omega
  have vJ:IntKind.i64.wrap ((i:Int)+1)=(i:Int)+1:=wq;have qC:D[i]'qN=[.int .i64 (Be p ks i:Int)]:=(aB0.1 hr).2;rw[Hc hu,Xd,<-Hb hu]at hR;obtain⟨a,ha⟩:∃a,a=Be p ks i:=⟨_,rfl⟩;rw[<-ha]at e1 e2 e3 hr qC hR;obtain⟨b1,qE⟩:∃b1,b1=Lm u a q:=⟨_,rfl⟩;obtain⟨b2,qP⟩:∃b2,b2=Xc u a q:=⟨_,rfl⟩;obtain⟨b3,cQ⟩:∃b3,b3=CC u:=⟨_,rfl⟩;rw[<-qE]at e2 hR;rw[<-qP]at e1 hR;rw[<-cQ]at e3 hR
  by_cases hb:(b1&&b2)=true
  ·rw[hb,Bool.true_or]at hR;simp only[aM0]at hb;rw[hb.1]at e2;rw[hb.2]at e1;exact Al (BC e1 e2 e3) Aa (EB wL qN hr qC qV hR)
  ·rw[dX0]at hb;rw[hb,eO0]at hR
   by_cases k4:x.k=4
   ·cases b3
    ·rw[if_pos ⟨k4,rfl⟩]at hR;cases b1
     ·exact Al (BC e1 e2 e3) Aa (Hm @BS.eq_1 g0 g0' gl wL qN hr qC qV hR k4)
     ·simp only[bO0]at hb;rw[hb]at e1;exact Al (BC e1 e2 e3) Aa (Hm @BS.eq_1 g0 g0' gl wL qN hr qC qV hR k4)
    ·rw[if_neg (by simp)]at hR;cases b1
     ·(refine Au (BC e1 e2 e3) Aa (Hm @BS.eq_1 g0 g0' gl wL qN vJ hr qC qV k4) ?_;intros;refine Ae ?_)
      refine Ag.mk ⟨i+1,by omega,hR⟩ (Sub.lit (by simp[vL])) (by simp;omega)
      skip
     ·simp only[bO0]at hb;rw[hb]at e1
      (refine Au (BC e1 e2 e3) Aa (Hm @BS.eq_1 g0 g0' gl wL qN vJ hr qC qV k4) ?_;intros;refine Ae ?_)
      refine Ag.mk ⟨i+1,by omega,hR⟩ (Sub.lit (by simp[vL])) (by simp;omega)
      skip
   ·rw[if_neg (fun h=>k4 h.1)]at hR;have b4:(x.k==4)=false:=by simpa using k4
    cases b1
    ·(refine Au (BC e1 e2 e3) Aa (FJ @BS.eq_1 g0 g0' gl wL qN vJ hr qC qV k4 b4) ?_;intros;refine Ae ?_)
     refine Ag.mk ⟨i+1,by omega,hR⟩ (Sub.lit (by simp[vL])) (by simp;omega)
     skip
    ·simp only[bO0]at hb;rw[hb]at e1
     (refine Au (BC e1 e2 e3) Aa (FJ @BS.eq_1 g0 g0' gl wL qN vJ hr qC qV k4 b4) ?_;intros;refine Ae ?_)
     refine Ag.mk ⟨i+1,by omega,hR⟩ (Sub.lit (by simp[vL])) (by simp;omega)
     skip
 ·have qY:i=ks.length:=by omega
  subst qY;rw[bE0,Ud]at hR;exact Al Aa Aa (Ap wL hR)
theorem Fj_ {α:Type} {l:List α} {i:Nat} {x:α} (h:l[i]? =some x):l.take (i+1)=l.take i++[x]:=by rw[bD0,h];rfl
def DU_ : Ann:=⟨[],[]⟩
theorem MR (q:Nat):∀(n:Nat) (t:RT) (l:List Nd) (p:Nat),(flat t).length=n->At l p t->l.length<=1572864->Ac prog 141 [Bl l,.int .i64 p,.int .i64 q] (.bool (Qi t p q)):=by
 intro n
 induction n using Nat.strongRecOn with
 | ind n ih =>
 intro t l p hn ht hs;obtain⟨x,ks⟩:=t;have kk:=FB l p x ks ht hs;obtain⟨g0,gl,ge⟩:=ht.head;simp only[RT.x]at g0;have g0':l[p]'gl=x:=(aB0.1 g0).2;have vC:(flat (.mk x ks)).length=(Av ks).length+1:=by rw[Bc,List.length_cons]
 have jY:=Di ks;have hk9:ks.length<=1572864:=by omega
 have fJ:∀i u,ks[i]? =some u->Ac prog 141 [Bl l,.int .i64 (Be p ks i),.int .i64 q] (.bool (Qi u (Be p ks i) q)):=fun i u hu=>by
  have hm:=FE (bI0 hu);exact ih (flat u).length (by omega) u l _ rfl (ht.kid hu).1 hs
 have cJ:∀i u,ks[i]? =some u->_:=fun i u hu=>Dy l (Be p ks i) q u (ht.kid hu).1 hs
 have hem:∀i u,ks[i]? =some u->_:=fun i u hu=>HQ _ u l (Be p ks i) rfl (ht.kid hu).1 hs
 have qT:∀i,i<ks.length->_:=fun i h=>IC (p:=p) (ks:=ks) (i:=i) h
 rw[Px_];unfold MC at kk;obtain⟨D,hD⟩:∃D,D=(List.range ks.length).map fun i=>Kk (Be p ks i):=⟨_,rfl⟩
 have wL:D.length=ks.length:=by rw[hD];simp
 have vL:BK D=0:=by rw[hD];exact Jq p ks _
 rw[<-hD]at kk qT;clear hD ih ht ge hn;obtain⟨R,hR⟩:∃R,R=enL x.k ks (p+1) q:=⟨_,rfl⟩;rw[<-hR];refine Ab [] DU_ func141 call141 ntmps141 mxd (Ap @DU_.eq_1 results141) rfl (fun qJ B qX qQ=> ?_);clear qJ;simp only[Ak]
 by_cases gD:p=q
 ·have gJ:(p:Int)=(q:Int):=by omega
  exact Al (Aq kk) Aa (Ap gD gJ)
 have gJ:¬(p:Int)=(q:Int):=by omega
 have hpqb:((p:Int)==(q:Int))=false:=by simpa using gJ
 (refine Au (Aq kk) Aa (BC gD gJ hpqb) ?_;intros;refine Ae ?_)
 have hw0:IntKind.i64.wrap ((ks.length:Int)-1)=(ks.length:Int)-1:=wq;refine Af (X:={m:Nat//m<=ks.length/\R=enL x.k (ks.take m) (p+1) q}) (fun m=>⟨[(0,Bl l),(1,.int .i64 p),(2,.int .i64 q),(7,.sl 1 8 D),(8,.int .i64 ((m.1:Int)-1))],[]⟩) (fun m=>m.1) ⟨ks.length,by omega,by rw[aN0];exact hR⟩ (Sub.lit (by simp[vL,wL,hw0])) ?_;clear hR;rintro⟨m,hi,hR⟩;simp only
 cases m with
 | zero =>
  rw[eP0,Qj]at hR;exact Al Aa Aa (Aq hR)
 | succ i =>
  have qV:i<ks.length:=by omega
  obtain⟨u,hu,zL,_⟩:=Ai qV;have e1:=fJ i u hu;have e2:=cJ i u hu;have e3:=hem i u hu;have hr:=qT i qV;have qN:i<D.length:=by omega
  have hi1:(((i+1:Nat):Int)-1)=(i:Int):=by omega
  have vJ:IntKind.i64.wrap ((i:Int)-1)=(i:Int)-1:=wq;have qC:D[i]'qN=[.int .i64 (Be p ks i:Int)]:=(aB0.1 hr).2;rw[Fj_ hu,BD_]at hR;rw[show p+1+(Av (ks.take i)).length=Be p ks i from rfl]at hR;obtain⟨a,ha⟩:∃a,a=Be p ks i:=⟨_,rfl⟩;rw[<-ha]at e1 e2 e3 hr qC hR;obtain⟨b1,qE⟩:∃b1,b1=Lm u a q:=⟨_,rfl⟩;obtain⟨b2,qP⟩:∃b2,b2=Qi u a q:=⟨_,rfl⟩;obtain⟨b3,cQ⟩:∃b3,b3=CC u:=⟨_,rfl⟩;rw[<-qE]at e2 hR;rw[<-qP]at e1 hR
  rw[<-cQ]at e3 hR;rw[hi1]
  by_cases hb:(b1&&b2)=true
  ·rw[hb,Bool.true_or]at hR;simp only[aM0]at hb;rw[hb.1]at e2;rw[hb.2]at e1;exact Al (BC e1 e2 e3) Aa (EB wL qN hr qC qV hR)
  ·rw[dX0]at hb;rw[hb,eO0]at hR
   by_cases k4:x.k=4
   ·cases b3
    ·rw[if_pos ⟨k4,rfl⟩]at hR;cases b1
     ·exact Al (BC e1 e2 e3) Aa (Hm @BS.eq_1 g0 g0' gl wL qN hr qC qV hR k4)
     ·simp only[bO0]at hb;rw[hb]at e1;exact Al (BC e1 e2 e3) Aa (Hm @BS.eq_1 g0 g0' gl wL qN hr qC qV hR k4)
    ·rw[if_neg (by simp)]at hR;cases b1
     ·(refine Au (BC e1 e2 e3) Aa (Hm @BS.eq_1 g0 g0' gl wL qN vJ hr qC qV k4) ?_;intros;refine Ae ?_)
      refine Ag.mk ⟨i,by omega,hR⟩ (Sub.lit (by simp[vL])) (by simp)
      skip
     ·simp only[bO0]at hb;rw[hb]at e1
      (refine Au (BC e1 e2 e3) Aa (Hm @BS.eq_1 g0 g0' gl wL qN vJ hr qC qV k4) ?_;intros;refine Ae ?_)
      refine Ag.mk ⟨i,by omega,hR⟩ (Sub.lit (by simp[vL])) (by simp)
      skip
   ·rw[if_neg (fun h=>k4 h.1)]at hR;have b4:(x.k==4)=false:=by simpa using k4
    cases b1
    ·(refine Au (BC e1 e2 e3) Aa (FJ @BS.eq_1 g0 g0' gl wL qN vJ hr qC qV k4 b4) ?_;intros;refine Ae ?_)
     refine Ag.mk ⟨i,by omega,hR⟩ (Sub.lit (by simp[vL])) (by simp)
     skip
    ·simp only[bO0]at hb;rw[hb]at e1
     (refine Au (BC e1 e2 e3) Aa (FJ @BS.eq_1 g0 g0' gl wL qN vJ hr qC qV k4 b4) ?_;intros;refine Ae ?_)
     refine Ag.mk ⟨i,by omega,hR⟩ (Sub.lit (by simp[vL])) (by simp)
     skip
def DT_ : Ann:=⟨[],[]⟩
theorem Yc (l:List Nd) (P p q:Nat) (x:Nd) (ks:List RT) (ht:At l P (.mk x ks)) (hs:l.length<=1572864):Ac prog 298 [Bl l,MC P ks,.int .i64 p,.int .i64 q] (.bool (uJ ks (P+1) p q)):=by
 obtain⟨g0,gl,ge⟩:=ht.head;have vC:(flat (.mk x ks)).length=(Av ks).length+1:=by rw[Bc,List.length_cons]
 have jY:=Di ks;have hk9:ks.length<=1572864:=by omega
 have hwp:∀i u,ks[i]? =some u->_:=fun i u hu=>Dy l (Be P ks i) p u (ht.kid hu).1 hs
 have bH:∀i u,ks[i]? =some u->_:=fun i u hu=>Dy l (Be P ks i) q u (ht.kid hu).1 hs
 have zZ:∀i u,ks[i]? =some u->_:=fun i u hu=>MR p _ u l (Be P ks i) rfl (ht.kid hu).1 hs
 have hbe:∀i u,ks[i]? =some u->_:=fun i u hu=>IT q _ u l (Be P ks i) rfl (ht.kid hu).1 hs
 have hem:∀i u,ks[i]? =some u->_:=fun i u hu=>HQ _ u l (Be P ks i) rfl (ht.kid hu).1 hs
 have qT:∀i,i<ks.length->_:=fun i h=>IC (p:=P) (ks:=ks) (i:=i) h
 unfold MC;obtain⟨D,hD⟩:∃D,D=(List.range ks.length).map fun i=>Kk (Be P ks i):=⟨_,rfl⟩
 have wL:D.length=ks.length:=by rw[hD];simp
 have vL:BK D=0:=by rw[hD];exact Jq P ks _
 rw[<-hD]at qT |-;clear hD ht ge;obtain⟨R,hR⟩:∃R,R=uJ ks (P+1) p q:=⟨_,rfl⟩;rw[<-hR];rw[<-Ha P ks,<-eQ0 (l:=ks)]at hR;refine Ab [] DT_ func298 call298 ntmps298 mxd (Ap @DT_.eq_1 results298) rfl (fun qJ B qX qQ=> ?_);clear qJ;simp only[Ak]
 (refine Au Aa Aa Aa ?_;intros;refine Ae ?_)
 refine Af (X:={i:Nat//i<=ks.length/\R=uJ (ks.drop i) (Be P ks i) p q}) (fun i=>⟨[(0,Bl l),(1,.sl 1 8 D),(2,.int .i64 p),(3,.int .i64 q),(9,.int .i64 i.1)],[]⟩) (fun i=>ks.length-i.1) ⟨0,by omega,by simpa using hR⟩ (Sub.lit (by simp[vL])) ?_;clear hR;rintro⟨i,hi,hR⟩;simp only
 by_cases qV:i<ks.length
 ·obtain⟨u,hu,zL,_⟩:=Ai qV;have e1:=hwp i u hu;have e2:=zZ i u hu;have hr:=qT i qV;have qN:i<D.length:=by omega
  have vJ:IntKind.i64.wrap ((i:Int)+1)=(i:Int)+1:=wq;have qC:D[i]'qN=[.int .i64 (Be P ks i:Int)]:=(aB0.1 hr).2;have kX:¬(ks.length:Int)<=(i:Int):=by omega
  rw[Hc hu,uJ,<-Hb hu]at hR;obtain⟨a,ha⟩:∃a,a=Be P ks i:=⟨_,rfl⟩;rw[<-ha]at e1 e2 hr qC hR;obtain⟨b1,qE⟩:∃b1,b1=Lm u a p:=⟨_,rfl⟩;obtain⟨b2,qP⟩:∃b2,b2=Qi u a p:=⟨_,rfl⟩;rw[<-qE]at e1 hR;rw[<-qP]at e2 hR;clear qE qP;cases b1
  ·simp only[aK0,if_false]at hR
   (refine Au (Ap e1 e2) Aa (EB wL qN vJ hr qC qV) ?_;intros;refine Ae ?_)
   refine Ag.mk ⟨i+1,by omega,hR⟩ (Sub.lit (by simp[vL])) (by simp;omega)
   skip
  ·simp only[if_true]at hR;cases b2
   ·simp only[bN0]at hR;exact Al (Ap e1 e2) Aa (Ji wL qN vJ hr qC qV kX hR)
   ·simp only[bO0]at hR
    (refine Au (Ap e1 e2) Aa (Ez wL qN vJ hr qC qV kX) ?_;intros;refine Ae ?_)
    refine Af (X:={j:Nat//j<=ks.length/\R=afL (ks.drop j) (Be P ks j) q}) (fun j=>⟨[(0,Bl l),(1,.sl 1 8 D),(2,.int .i64 p),(3,.int .i64 q),(9,.int .i64 j.1)],[]⟩) (fun j=>ks.length-j.1) ⟨i+1,by omega,hR⟩ (Sub.lit (by simp[vL])) ?_;clear hR hr qC vJ qN;rintro⟨j,hj,hR⟩;simp only
    by_cases qW:j<ks.length
    ·obtain⟨v,hv,bI,_⟩:=Ai qW;have e3:=bH j v hv;have e4:=hbe j v hv;have e5:=hem j v hv;have hr:=qT j qW;have qN:j<D.length:=by omega
     have vJ:IntKind.i64.wrap ((j:Int)+1)=(j:Int)+1:=wq;have qC:D[j]'qN=[.int .i64 (Be P ks j:Int)]:=(aB0.1 hr).2;rw[Hc hv,afL,<-Hb hv]at hR;obtain⟨c,wU⟩:∃c,c=Be P ks j:=⟨_,rfl⟩;rw[<-wU]at e3 e4 e5 hr qC hR;obtain⟨b3,cQ⟩:∃b3,b3=Lm v c q:=⟨_,rfl⟩;obtain⟨b4,hb4⟩:∃b4,b4=Xc v c q:=⟨_,rfl⟩;obtain⟨b5,hb5⟩:∃b5,b5=CC v:=⟨_,rfl⟩;rw[<-cQ]at e3 hR;rw[<-hb4]at e4 hR;rw[<-hb5]at e5 hR;clear cQ hb4 hb5;cases b3
     ·simp only[aK0,if_false]at hR;cases b5
      ·simp only[aK0,if_false]at hR;exact Al (BC e3 e4 e5) Aa (Ez wL qN vJ hr qC qW hR)
      ·simp only[if_true]at hR
       (refine Au (BC e3 e4 e5) Aa (EB wL qN vJ hr qC qW) ?_;intros;refine Ae ?_)
       refine Ag.mk ⟨j+1,by omega,hR⟩ (Sub.lit (by simp[vL])) (by simp;omega)
       skip
     ·simp only[if_true]at hR;exact Al (BC e3 e4 e5) Aa (Ez wL qN vJ hr qC qW hR)
    ·have qY:j=ks.length:=by omega
     subst qY;rw[bE0]at hR;have wX:R=false:=hR;exact Al Aa Aa (Ap wL wX)
 ·have qY:i=ks.length:=by omega
  subst qY;rw[bE0]at hR;have wX:R=false:=hR;exact Al Aa Aa (Ap wL wX)
def foG (x:Nd) (ks:List RT) (P p q:Nat) (G:Option Bool):Bool:=match G with
 | some b=>b
 | none=>decide (x.k=4)&&uJ ks (P+1) p q
theorem SV_ (x:Nd) (ks:List RT) (P p q:Nat) (h:((decide (x.k=6)||decide (x.k=7))&&hdL ks (P+1) p q)=false):TZ (.mk x ks) P p q=foG x ks P p q (lY ks (P+1) p q):=by
 rw[GK_,h];rfl
def DS_ : Ann:=⟨[],[]⟩
theorem Tk (p q:Nat):∀(n:Nat) (t:RT) (l:List Nd) (P:Nat),(flat t).length=n->At l P t->l.length<=1572864->Ac prog 211 [Bl l,.int .i64 P,.int .i64 p,.int .i64 q] (.bool (TZ t P p q)):=by
 intro n
 induction n using Nat.strongRecOn with
 | ind n ih =>
 intro t l P hn ht hs;obtain⟨x,ks⟩:=t;have kk:=FB l P x ks ht hs;have nX:=Yc l P p q x ks ht hs;obtain⟨g0,gl,ge⟩:=ht.head;simp only[RT.x]at g0;have g0':l[P]'gl=x:=(aB0.1 g0).2;have qL:=ht.ok;have vC:(flat (.mk x ks)).length=(Av ks).length+1:=by rw[Bc,List.length_cons]
 have jY:=Di ks;have hk9:ks.length<=1572864:=by omega
 have fJ:∀i u,ks[i]? =some u->Ac prog 211 [Bl l,.int .i64 (Be P ks i),.int .i64 p,.int .i64 q] (.bool (TZ u (Be P ks i) p q)):=fun i u hu=>by
  have hm:=FE (bI0 hu);exact ih (flat u).length (by omega) u l _ rfl (ht.kid hu).1 hs
 have hwp:∀i u,ks[i]? =some u->_:=fun i u hu=>Dy l (Be P ks i) p u (ht.kid hu).1 hs
 have bH:∀i u,ks[i]? =some u->_:=fun i u hu=>Dy l (Be P ks i) q u (ht.kid hu).1 hs
 have zZ:∀i u,ks[i]? =some u->_:=fun i u hu=>MR p _ u l (Be P ks i) rfl (ht.kid hu).1 hs
 have hbe:∀i u,ks[i]? =some u->_:=fun i u hu=>IT q _ u l (Be P ks i) rfl (ht.kid hu).1 hs
 have qT:∀i,i<ks.length->_:=fun i h=>IC (p:=P) (ks:=ks) (i:=i) h
 unfold MC at kk nX;obtain⟨D,hD⟩:∃D,D=(List.range ks.length).map fun i=>Kk (Be P ks i):=⟨_,rfl⟩
 have wL:D.length=ks.length:=by rw[hD];simp
 have vL:BK D=0:=by rw[hD];exact Jq P ks _
 rw[<-hD]at kk qT nX;clear hD ih ht ge hn;have yY:=SV_ x ks P p q;have fD:=GK_ x ks P p q;obtain⟨R,hR⟩:∃R,R=TZ (.mk x ks) P p q:=⟨_,rfl⟩;rw[<-hR]at yY fD |-;clear hR;refine Ab [] DS_ func211 call211 ntmps211 mxd (Ap @DS_.eq_1 results211) rfl (fun qJ B qX qQ=> ?_);clear qJ;simp only[Ak]
 by_cases k67:x.k=6\/x.k=7
 ·obtain⟨u0,sC⟩:=TL qL (by omega);have hu1:ks[0]? =some u0:=by rw[sC];rfl
  have wI:0<ks.length:=by rw[sC];simp
  have jG:0<D.length:=by omega
  have fC:=qT 0 wI;have cN:D[0]'jG=[.int .i64 (Be P ks 0:Int)]:=(aB0.1 fC).2;have e4:=zZ 0 u0 hu1;have e5:=hbe 0 u0 hu1;have pX:hdL ks (P+1) p q=(Qi u0 (Be P ks 0) p&&Xc u0 (Be P ks 0) q):=by rw[Ha,sC];rfl
  rw[pX]at yY fD;clear sC pX;obtain⟨a0,ha0⟩:∃a0,a0=Be P ks 0:=⟨_,rfl⟩;rw[<-ha0]at fC cN e4 e5 yY fD;obtain⟨c1,hc1⟩:∃c1,c1=Qi u0 a0 p:=⟨_,rfl⟩;obtain⟨c2,kN⟩:∃c2,c2=Xc u0 a0 q:=⟨_,rfl⟩;rw[<-hc1]at e4 yY fD;rw[<-kN]at e5 yY fD;have hkb:(decide (x.k=6)||decide (x.k=7))=true:=by simpa using k67
  have hkb2:(x.k==6||x.k==7)=true:=by simpa using k67
  have jM:(x.k==7)=(decide (x.k=7)):=rfl;have hk3:(x.k==6)=(decide (x.k=6)):=rfl;rw[hkb]at yY fD;simp only[bO0]at yY fD
  by_cases wU:(c1&&c2)=true
  ·rw[wU]at fD;simp only[if_true]at fD;simp only[aM0]at wU;rw[wU.1]at e4;rw[wU.2]at e5
   rcases k67 with k6 | k7
   ·exact Al (BC kk e4 e5) Aa (Hn @BS.eq_1 g0 g0' gl wL jG fC cN k6 fD)
   ·exact Al (BC kk e4 e5) Aa (Hn @BS.eq_1 g0 g0' gl wL jG fC cN k7 fD)
  ·rw[dX0]at wU
   replace yY:=yY wU
   cases c1
   ·rcases k67 with k6 | k7
    ·(refine Au (BC kk e4 e5) Aa (OD @BS.eq_1 g0 g0' gl wL jG fC cN k6) ?_;intros;refine Ae ?_)
     refine Af (X:={i:Nat//i<=ks.length/\R=foG x ks P p q (lY (ks.drop i) (Be P ks i) p q)}) (fun i=>⟨[(0,Bl l),(2,.int .i64 p),(3,.int .i64 q),(9,.sl 1 8 D),(10,.int .i64 x.k),(11,.int .i64 i.1)],[]⟩) (fun i=>ks.length-i.1) ⟨0,by omega,by rw[eQ0,Ha];exact yY⟩ (Sub.lit (by simp[vL,k6])) ?_;clear yY fD;rintro⟨i,hi,hR⟩;simp only
     by_cases qV:i<ks.length
     ·obtain⟨u,hu,zL,_⟩:=Ai qV;have e1:=hwp i u hu;have e2:=bH i u hu;have e3:=fJ i u hu;have hr:=qT i qV;have qN:i<D.length:=by omega
      have vJ:IntKind.i64.wrap ((i:Int)+1)=(i:Int)+1:=wq;have qC:D[i]'qN=[.int .i64 (Be P ks i:Int)]:=(aB0.1 hr).2;rw[Hc hu,IK,<-Hb hu]at hR;obtain⟨a,ha⟩:∃a,a=Be P ks i:=⟨_,rfl⟩;rw[<-ha]at e1 e2 e3 hr qC hR;obtain⟨b1,qE⟩:∃b1,b1=Lm u a p:=⟨_,rfl⟩;obtain⟨b2,qP⟩:∃b2,b2=Lm u a q:=⟨_,rfl⟩;rw[<-qE]at e1 hR;rw[<-qP]at e2 hR;clear qE qP;cases b1
      ·simp only[bN0,aK0,if_false]at hR
       (refine Au (BC e1 e2 e3) Aa (EB wL qN vJ hr qC qV) ?_;intros;refine Ae ?_)
       refine Ag.mk ⟨i+1,by omega,hR⟩ (Sub.lit (by simp[vL])) (by simp;omega)
       skip
      ·cases b2
       ·simp only[dK0,aK0,if_false]at hR
        (refine Au (BC e1 e2 e3) Aa (EB wL qN vJ hr qC qV) ?_;intros;refine Ae ?_)
        refine Ag.mk ⟨i+1,by omega,hR⟩ (Sub.lit (by simp[vL])) (by simp;omega)
        skip
       ·simp only[Bool.and_self,if_true]at hR;have wX:R=TZ u a p q:=hR;exact Al (BC e1 e2 e3) Aa (Ez wL qN vJ hr qC qV wX)
     ·have qY:i=ks.length:=by omega
      subst qY;rw[bE0,Jw]at hR;have wX:R=(decide (x.k=4)&&uJ ks (P+1) p q):=hR
      by_cases k4:x.k=4
      ·rw[decide_eq_true k4,bO0]at wX;rw[<-wX]at nX;exact Al (Aq nX) Aa (Ap wL k4)
      ·rw[decide_eq_false k4,bN0]at wX;have b4:(x.k==4)=false:=by simpa using k4
       exact Al Aa Aa (CG wL k4 b4 wX)
    ·skip
     (refine Au (BC kk e4 e5) Aa (OD @BS.eq_1 g0 g0' gl wL jG fC cN k7) ?_;intros;refine Ae ?_)
     refine Af (X:={i:Nat//i<=ks.length/\R=foG x ks P p q (lY (ks.drop i) (Be P ks i) p q)}) (fun i=>⟨[(0,Bl l),(2,.int .i64 p),(3,.int .i64 q),(9,.sl 1 8 D),(10,.int .i64 x.k),(11,.int .i64 i.1)],[]⟩) (fun i=>ks.length-i.1) ⟨0,by omega,by rw[eQ0,Ha];exact yY⟩ (Sub.lit (by simp[vL,k7])) ?_;clear yY fD;rintro⟨i,hi,hR⟩;simp only
     by_cases qV:i<ks.length
     ·obtain⟨u,hu,zL,_⟩:=Ai qV;have e1:=hwp i u hu;have e2:=bH i u hu;have e3:=fJ i u hu;have hr:=qT i qV;have qN:i<D.length:=by omega
      have vJ:IntKind.i64.wrap ((i:Int)+1)=(i:Int)+1:=wq;have qC:D[i]'qN=[.int .i64 (Be P ks i:Int)]:=(aB0.1 hr).2;rw[Hc hu,IK,<-Hb hu]at hR;obtain⟨a,ha⟩:∃a,a=Be P ks i:=⟨_,rfl⟩;rw[<-ha]at e1 e2 e3 hr qC hR;obtain⟨b1,qE⟩:∃b1,b1=Lm u a p:=⟨_,rfl⟩;obtain⟨b2,qP⟩:∃b2,b2=Lm u a q:=⟨_,rfl⟩;rw[<-qE]at e1 hR;rw[<-qP]at e2 hR;clear qE qP;cases b1
      ·simp only[bN0,aK0,if_false]at hR
       (refine Au (BC e1 e2 e3) Aa (EB wL qN vJ hr qC qV) ?_;intros;refine Ae ?_)
       refine Ag.mk ⟨i+1,by omega,hR⟩ (Sub.lit (by simp[vL])) (by simp;omega)
       skip
      ·cases b2
       ·simp only[dK0,aK0,if_false]at hR
        (refine Au (BC e1 e2 e3) Aa (EB wL qN vJ hr qC qV) ?_;intros;refine Ae ?_)
        refine Ag.mk ⟨i+1,by omega,hR⟩ (Sub.lit (by simp[vL])) (by simp;omega)
        skip
       ·simp only[Bool.and_self,if_true]at hR;have wX:R=TZ u a p q:=hR;exact Al (BC e1 e2 e3) Aa (Ez wL qN vJ hr qC qV wX)
     ·have qY:i=ks.length:=by omega
      subst qY;rw[bE0,Jw]at hR;have wX:R=(decide (x.k=4)&&uJ ks (P+1) p q):=hR
      by_cases k4:x.k=4
      ·rw[decide_eq_true k4,bO0]at wX;rw[<-wX]at nX;exact Al (Aq nX) Aa (Ap wL k4)
      ·rw[decide_eq_false k4,bN0]at wX;have b4:(x.k==4)=false:=by simpa using k4
       exact Al Aa Aa (CG wL k4 b4 wX)
   ·simp only[bO0]at wU;rw[wU]at e5
    rcases k67 with k6 | k7
    ·skip
     (refine Au (BC kk e4 e5) Aa (OD @BS.eq_1 g0 g0' gl wL jG fC cN k6) ?_;intros;refine Ae ?_)
     refine Af (X:={i:Nat//i<=ks.length/\R=foG x ks P p q (lY (ks.drop i) (Be P ks i) p q)}) (fun i=>⟨[(0,Bl l),(2,.int .i64 p),(3,.int .i64 q),(9,.sl 1 8 D),(10,.int .i64 x.k),(11,.int .i64 i.1)],[]⟩) (fun i=>ks.length-i.1) ⟨0,by omega,by rw[eQ0,Ha];exact yY⟩ (Sub.lit (by simp[vL,k6])) ?_;clear yY fD;rintro⟨i,hi,hR⟩;simp only
     by_cases qV:i<ks.length
     ·obtain⟨u,hu,zL,_⟩:=Ai qV;have e1:=hwp i u hu;have e2:=bH i u hu;have e3:=fJ i u hu;have hr:=qT i qV;have qN:i<D.length:=by omega
      have vJ:IntKind.i64.wrap ((i:Int)+1)=(i:Int)+1:=wq;have qC:D[i]'qN=[.int .i64 (Be P ks i:Int)]:=(aB0.1 hr).2;rw[Hc hu,IK,<-Hb hu]at hR;obtain⟨a,ha⟩:∃a,a=Be P ks i:=⟨_,rfl⟩;rw[<-ha]at e1 e2 e3 hr qC hR;obtain⟨b1,qE⟩:∃b1,b1=Lm u a p:=⟨_,rfl⟩;obtain⟨b2,qP⟩:∃b2,b2=Lm u a q:=⟨_,rfl⟩;rw[<-qE]at e1 hR;rw[<-qP]at e2 hR;clear qE qP;cases b1
      ·simp only[bN0,aK0,if_false]at hR
       (refine Au (BC e1 e2 e3) Aa (EB wL qN vJ hr qC qV) ?_;intros;refine Ae ?_)
       refine Ag.mk ⟨i+1,by omega,hR⟩ (Sub.lit (by simp[vL])) (by simp;omega)
       skip
      ·cases b2
       ·simp only[dK0,aK0,if_false]at hR
        (refine Au (BC e1 e2 e3) Aa (EB wL qN vJ hr qC qV) ?_;intros;refine Ae ?_)
        refine Ag.mk ⟨i+1,by omega,hR⟩ (Sub.lit (by simp[vL])) (by simp;omega)
        skip
       ·simp only[Bool.and_self,if_true]at hR;have wX:R=TZ u a p q:=hR;exact Al (BC e1 e2 e3) Aa (Ez wL qN vJ hr qC qV wX)
     ·have qY:i=ks.length:=by omega
      subst qY;rw[bE0,Jw]at hR;have wX:R=(decide (x.k=4)&&uJ ks (P+1) p q):=hR
      by_cases k4:x.k=4
      ·rw[decide_eq_true k4,bO0]at wX;rw[<-wX]at nX;exact Al (Aq nX) Aa (Ap wL k4)
      ·rw[decide_eq_false k4,bN0]at wX;have b4:(x.k==4)=false:=by simpa using k4
       exact Al Aa Aa (CG wL k4 b4 wX)
    ·skip
     (refine Au (BC kk e4 e5) Aa (OD @BS.eq_1 g0 g0' gl wL jG fC cN k7) ?_;intros;refine Ae ?_)
     refine Af (X:={i:Nat//i<=ks.length/\R=foG x ks P p q (lY (ks.drop i) (Be P ks i) p q)}) (fun i=>⟨[(0,Bl l),(2,.int .i64 p),(3,.int .i64 q),(9,.sl 1 8 D),(10,.int .i64 x.k),(11,.int .i64 i.1)],[]⟩) (fun i=>ks.length-i.1) ⟨0,by omega,by rw[eQ0,Ha];exact yY⟩ (Sub.lit (by simp[vL,k7])) ?_;clear yY fD;rintro⟨i,hi,hR⟩;simp only
     by_cases qV:i<ks.length
     ·obtain⟨u,hu,zL,_⟩:=Ai qV;have e1:=hwp i u hu;have e2:=bH i u hu;have e3:=fJ i u hu;have hr:=qT i qV;have qN:i<D.length:=by omega
      have vJ:IntKind.i64.wrap ((i:Int)+1)=(i:Int)+1:=wq;have qC:D[i]'qN=[.int .i64 (Be P ks i:Int)]:=(aB0.1 hr).2;rw[Hc hu,IK,<-Hb hu]at hR;obtain⟨a,ha⟩:∃a,a=Be P ks i:=⟨_,rfl⟩;rw[<-ha]at e1 e2 e3 hr qC hR;obtain⟨b1,qE⟩:∃b1,b1=Lm u a p:=⟨_,rfl⟩;obtain⟨b2,qP⟩:∃b2,b2=Lm u a q:=⟨_,rfl⟩;rw[<-qE]at e1 hR;rw[<-qP]at e2 hR;clear qE qP;cases b1
      ·simp only[bN0,aK0,if_false]at hR
       (refine Au (BC e1 e2 e3) Aa (EB wL qN vJ hr qC qV) ?_;intros;refine Ae ?_)
       refine Ag.mk ⟨i+1,by omega,hR⟩ (Sub.lit (by simp[vL])) (by simp;omega)
       skip
      ·cases b2
       ·simp only[dK0,aK0,if_false]at hR
        (refine Au (BC e1 e2 e3) Aa (EB wL qN vJ hr qC qV) ?_;intros;refine Ae ?_)
        refine Ag.mk ⟨i+1,by omega,hR⟩ (Sub.lit (by simp[vL])) (by simp;omega)
        skip
       ·simp only[Bool.and_self,if_true]at hR;have wX:R=TZ u a p q:=hR;exact Al (BC e1 e2 e3) Aa (Ez wL qN vJ hr qC qV wX)
     ·have qY:i=ks.length:=by omega
      subst qY;rw[bE0,Jw]at hR;have wX:R=(decide (x.k=4)&&uJ ks (P+1) p q):=hR
      by_cases k4:x.k=4
      ·rw[decide_eq_true k4,bO0]at wX;rw[<-wX]at nX;exact Al (Aq nX) Aa (Ap wL k4)
      ·rw[decide_eq_false k4,bN0]at wX;have b4:(x.k==4)=false:=by simpa using k4
       exact Al Aa Aa (CG wL k4 b4 wX)
 ·have b6:(x.k==6)=false:=by simpa using fun h=>k67 (.inl h)
  have b7:(x.k==7)=false:=by simpa using fun h=>k67 (.inr h)
  have n6:¬x.k=6:=fun h=>k67 (.inl h)
  have n7:¬x.k=7:=fun h=>k67 (.inr h)
  replace yY:=yY (by simp[n6,n7])
  (refine Au (Aq kk) Aa (Ji @BS.eq_1 g0 g0' gl n6 n7 b6 b7) ?_;intros;refine Ae ?_)
  refine Af (X:={i:Nat//i<=ks.length/\R=foG x ks P p q (lY (ks.drop i) (Be P ks i) p q)}) (fun i=>⟨[(0,Bl l),(2,.int .i64 p),(3,.int .i64 q),(9,.sl 1 8 D),(10,.int .i64 x.k),(11,.int .i64 i.1)],[]⟩) (fun i=>ks.length-i.1) ⟨0,by omega,by rw[eQ0,Ha];exact yY⟩ (Sub.lit (by simp[vL])) ?_;clear yY fD;rintro⟨i,hi,hR⟩;simp only
  by_cases qV:i<ks.length
  ·obtain⟨u,hu,zL,_⟩:=Ai qV;have e1:=hwp i u hu;have e2:=bH i u hu;have e3:=fJ i u hu;have hr:=qT i qV;have qN:i<D.length:=by omega
   have vJ:IntKind.i64.wrap ((i:Int)+1)=(i:Int)+1:=wq;have qC:D[i]'qN=[.int .i64 (Be P ks i:Int)]:=(aB0.1 hr).2;rw[Hc hu,IK,<-Hb hu]at hR;obtain⟨a,ha⟩:∃a,a=Be P ks i:=⟨_,rfl⟩;rw[<-ha]at e1 e2 e3 hr qC hR;obtain⟨b1,qE⟩:∃b1,b1=Lm u a p:=⟨_,rfl⟩;obtain⟨b2,qP⟩:∃b2,b2=Lm u a q:=⟨_,rfl⟩;rw[<-qE]at e1 hR;rw[<-qP]at e2 hR;clear qE qP;cases b1
   ·simp only[bN0,aK0,if_false]at hR
    (refine Au (BC e1 e2 e3) Aa (EB wL qN vJ hr qC qV) ?_;intros;refine Ae ?_)
    refine Ag.mk ⟨i+1,by omega,hR⟩ (Sub.lit (by simp[vL])) (by simp;omega)
    skip
   ·cases b2
    ·simp only[dK0,aK0,if_false]at hR
     (refine Au (BC e1 e2 e3) Aa (EB wL qN vJ hr qC qV) ?_;intros;refine Ae ?_)
     refine Ag.mk ⟨i+1,by omega,hR⟩ (Sub.lit (by simp[vL])) (by simp;omega)
     skip
    ·simp only[Bool.and_self,if_true]at hR;have wX:R=TZ u a p q:=hR;exact Al (BC e1 e2 e3) Aa (Ez wL qN vJ hr qC qV wX)
  ·have qY:i=ks.length:=by omega
   subst qY;rw[bE0,Jw]at hR;have wX:R=(decide (x.k=4)&&uJ ks (P+1) p q):=hR
   by_cases k4:x.k=4
   ·rw[decide_eq_true k4,bO0]at wX;rw[<-wX]at nX;exact Al (Aq nX) Aa (Ap wL k4)
   ·rw[decide_eq_false k4,bN0]at wX;have b4:(x.k==4)=false:=by simpa using k4
    exact Al Aa Aa (CG wL k4 b4 wX)
def Gg : Ann:=⟨[],[]⟩
theorem Ll (l:List Arc) (p:Arc) (qM:(l.length+1)*32<=150000000000000):Ac prog 210 [Cz l,.agg (Bm p)] (Cz (BO DT l p)):=by
 refine Ab [50] Gg func210 call210 ntmps210 mxd (Ap @Gg.eq_1 results210) rfl (fun qJ B qX qQ=> ?_);clear qJ;simp only[Ak];obtain⟨r,hr⟩:∃r,r=BO DT l p:=⟨_,rfl⟩;rw[<-hr]
 (refine Au Aa Aa (Aq @Bm.eq_1) ?_;intros;refine Ae ?_)
 refine Bk 5 50 97 4 32 (by simp[qX,results210,Gg]) (fun n=> ?_);refine Af (X:={x:Nat×Bool×List Arc//x.1<=l.length/\x.2.2.length<=x.1+(if x.2.1 then 1 else 0)/\x.2.2++(if x.2.1 then l.drop x.1 else BO DT (l.drop x.1) p)=r}) (fun x=>⟨[(0,Cz l),(1,.agg (Bm p)),(3,.ref (Bm p)),(5,.osl 50 1),(6,.bool x.1.2.1),(7,.int .i64 x.1.1)],[⟨50,1,.row 97 4 32 (x.1.2.2.map Bm)⟩]⟩) (fun x=>l.length-x.1.1) ⟨(0,false,[]),by simp[hr]⟩ (Sub.lit (by simp[Bm])) ?_
 rintro⟨⟨k,b,R⟩,hk,hR,wU⟩;simp only at hk hR wU |-;clear hr
 by_cases qV:k<l.length
 ·obtain⟨q,hq,vV,jJ⟩:=Ai qV;rw[aP0 qV,vV]at wU;cases b
  ·simp only[aK0,if_false,BO,cT0]at hR wU;have vA:(R.length+1)*32<=150000000000000:=Nat.le_trans (aQ0 32 (by omega)) qM;have wM:R.length<=9223372036854775806:=by omega
   have cB:(R.length+1+1)*32<=150000000000000:=Nat.le_trans (aQ0 32 (by omega)) qM;have cD:R.length+1<=9223372036854775806:=by omega
   have e1:=AO_ q p;rw[Xj]at e1;simp only[Bm]at e1
   by_cases kN:¬DT q p<0
   ·rw[decide_eq_false kN]at e1;rw[if_neg kN]at wU
    by_cases he:q=p
    ·subst he;rw[if_neg kN]at wU
     (refine Au (Aq e1) Aa (Ji @Bm.eq_1 qV vV kN vA wM cB cD) ?_;intros;refine Ae ?_)
     refine Ag.mk ⟨(k+1,true,R++[q]),show k+1<=l.length/\(R++[q]).length<=k+1+_/\_ from ⟨by omega,by simp;omega,by simpa using wU⟩⟩ (Sub.lit (by simp[Bm])) (by simp;omega)
     skip
    ·have zN:(q.fr==p.fr&&(q.sy.label==p.sy.label&&(q.sy.n==p.sy.n&&q.to==p.to)))=false:=Hr_ he
     have mH:DT p q<0:=by
      have h0:DT q p≠0:=fun h=>he ((Ej.eq0 q p).1 h)
      exact(Ej.anti p q).2 (by omega)
     rw[if_pos mH]at wU
     (refine Au (Aq e1) Aa (OD @Bm.eq_1 qV vV kN zN vA wM cB cD) ?_;intros;refine Ae ?_)
     refine Ag.mk ⟨(k+1,true,R++[p,q]),show k+1<=l.length/\(R++[p,q]).length<=k+1+_/\_ from ⟨by omega,by simp;omega,by simpa using wU⟩⟩ (Sub.lit (by simp[Bm])) (by simp;omega)
     skip
   ·have hc3:DT q p<0:=by omega
    rw[decide_eq_true hc3]at e1;rw[if_pos hc3]at wU
    (refine Au (Aq e1) Aa (Ji @Bm.eq_1 qV vV kN vA wM cB cD) ?_;intros;refine Ae ?_)
    refine Ag.mk ⟨(k+1,false,R++[q]),show k+1<=l.length/\(R++[q]).length<=k+1+_/\_ from ⟨by omega,by simp;omega,by simpa using wU⟩⟩ (Sub.lit (by simp[Bm])) (by simp;omega)
    skip
  ·simp only[if_true]at hR wU;have vA:(R.length+1)*32<=150000000000000:=Nat.le_trans (aQ0 32 (by omega)) qM;have wM:R.length<=9223372036854775806:=by omega
   (repeat (first | refine AI fun K hK=> ?_ | (refine BR Gg mxd (by kernel_rfl) ?_;simp[Gg,qX,Bm,qV,vV,vA,wM];try simp (disch:=omega) only[Ao]) | refine Aw ?_ | (refine Bb ?_ ?_ ?_;(· (simp[qX,Bm,qV,vV,vA,wM];done));(try (rotate_left;(· (intro hc;(try simp[qX,Bm,qV,vV,vA,wM]at hc);done))))) | (refine AK ?_;simp[results210,qX,Bm,qV,vV,vA,wM]) | ((first | refine AD ?_ | refine AC ?_);simp[qX,Bm,qV,vV,vA,wM]) | (intro hc;(try simp[qX,Bm,qV,vV,vA,wM]at hc);(try (exfalso;omega))) | ((first | refine An (e1) ?_ | (refine Am (e1) ?_ ?_;(· (simp;done))));try simp[qX,Bm,qV,vV,vA,wM]) | (refine⟨?_,?_⟩; · omega) | omega | apply_assumption -exfalso -symm | (exfalso;omega)))
   refine Ag.mk ⟨(k+1,true,R++[q]),show k+1<=l.length/\(R++[q]).length<=k+1+_/\_ from ⟨by omega,by simp;omega,by simpa using wU⟩⟩ (Sub.lit (by simp[Bm])) (by simp;omega)
   skip
 ·have zO:k=l.length:=by omega
  subst zO;rw[bE0]at wU;cases b
  ·simp only[aK0,if_false,BO,cT0]at hR wU;subst wU;have vA:(R.length+1)*32<=150000000000000:=Nat.le_trans (aQ0 32 (by omega)) qM;have wM:R.length<=9223372036854775806:=by omega
   (repeat (first | refine AI fun K hK=> ?_ | (refine BR Gg mxd (by kernel_rfl) ?_;simp[Gg,qX,Bm,vA,wM];try simp (disch:=omega) only[Ao]) | refine Aw ?_ | (refine Bb ?_ ?_ ?_;(· (simp[qX,Bm,vA,wM];done));(try (rotate_left;(· (intro hc;(try simp[qX,Bm,vA,wM]at hc);done))))) | (refine AK ?_;simp[results210,qX,Bm,vA,wM]) | ((first | refine AD ?_ | refine AC ?_);simp[qX,Bm,vA,wM]) | (intro hc;(try simp[qX,Bm,vA,wM]at hc);(try (exfalso;omega))) | ((first | refine An (e1) ?_ | (refine Am (e1) ?_ ?_;(· (simp;done))));try simp[qX,Bm,vA,wM]) | (refine⟨?_,?_⟩; · omega) | omega | apply_assumption -exfalso -symm | (exfalso;omega)))
  ·simp only[if_true,bM0]at hR wU;subst wU
   (repeat (first | refine AI fun K hK=> ?_ | (refine BR Gg mxd (by kernel_rfl) ?_;simp[Gg,qX,Bm];try simp (disch:=omega) only[Ao]) | refine Aw ?_ | (refine Bb ?_ ?_ ?_;(· (simp[qX,Bm];done));(try (rotate_left;(· (intro hc;(try simp[qX,Bm]at hc);done))))) | (refine AK ?_;simp[results210,qX,Bm]) | ((first | refine AD ?_ | refine AC ?_);simp[qX,Bm]) | (intro hc;(try simp[qX,Bm]at hc);(try (exfalso;omega))) | ((first | refine An (e1) ?_ | (refine Am (e1) ?_ ?_;(· (simp;done))));try simp[qX,Bm]) | (refine⟨?_,?_⟩; · omega) | omega | apply_assumption -exfalso -symm | (exfalso;omega)))
theorem VN {α:Type} (c:α->α->Int):∀(l:List α) (p:α),(BO c l p).length<=l.length+1
 | [],p=>by simp[BO]
 | x::l,p=>by
  have:=VN c l p;unfold BO
  split
  ·simp;omega
  ·split
   ·simp
   ·simp
def Gl (Z E:List Arc):List Arc:=E.foldl (BO DT) Z
theorem VO (Z:List Arc):Gl Z []=Z:=rfl
theorem Km (Z E F:List Arc):Gl Z (E++F)=Gl (Gl Z E) F:=by unfold Gl;rw[cH0]
theorem PX (Z:List Arc):∀E:List Arc,(Gl Z E).length<=Z.length+E.length:=by
 intro E
 induction E generalizing Z with
 | nil=>simp[Gl]
 | cons x E ih =>
  have h1:=ih (BO DT Z x);have h2:=VN DT Z x;have h3:Gl Z (x::E)=Gl (BO DT Z x) E:=rfl;rw[h3,List.length_cons];omega
def KX_ (b:Bool) (x:Arc):List Arc:=if b=true then [x]else []
theorem Ak_ (b:Bool) (x:Arc):(KX_ b x).length<=1:=by unfold KX_;split<;>simp
def Il (sy:Nd->Sym) (ah:Nat) (t:RT) (q:Nat) (ps:List Nat):List Arc:=ps.flatMap fun p=>KX_ (TZ t 0 p q) ⟨(GA (flat t) ah p:Int),sy (nd (flat t) q),(GA (flat t) ah q:Int)⟩
theorem KH_ (sy:Nd->Sym) (ah:Nat) (t:RT) (q:Nat) (ps:List Nat) (p:Nat):Il sy ah t q (ps++[p])=Il sy ah t q ps++KX_ (TZ t 0 p q) ⟨(GA (flat t) ah p:Int),sy (nd (flat t) q),(GA (flat t) ah q:Int)⟩:=by simp[Il]
theorem xO (sy:Nd->Sym) (ah:Nat) (t:RT) (q:Nat):Il sy ah t q []=[]:=rfl
theorem UN (sy:Nd->Sym) (ah:Nat) (t:RT) (q:Nat):∀ps:List Nat,(Il sy ah t q ps).length<=ps.length
 | []=>by simp[Il]
 | p::ps=>by
  have h1:Il sy ah t q (p::ps)=KX_ (TZ t 0 p q) ⟨(GA (flat t) ah p:Int),sy (nd (flat t) q),(GA (flat t) ah q:Int)⟩++Il sy ah t q ps:=rfl;have h2:=Ak_ (TZ t 0 p q) ⟨(GA (flat t) ah p:Int),sy (nd (flat t) q),(GA (flat t) ah q:Int)⟩;have h3:=UN sy ah t q ps;rw[h1,aC0,List.length_cons];omega
theorem Cc_ (sy:Nd->Sym) (ah:Nat) (t:RT) (q:Nat):OB sy ah t q=KX_ (Xc t 0 q) ⟨0,sy (nd (flat t) q),(GA (flat t) ah q:Int)⟩++Il sy ah t q (HX (flat t) (flat t).length):=rfl
def Gr (sy:Nd->Sym) (ah:Nat) (t:RT) (ps:List Nat):List Arc:=ps.flatMap (OB sy ah t)
theorem Hg_ (sy:Nd->Sym) (ah:Nat) (t:RT) (ps:List Nat) (q:Nat):Gr sy ah t (ps++[q])=Gr sy ah t ps++OB sy ah t q:=by simp[Gr]
theorem Mk_ (sy:Nd->Sym) (ah:Nat) (t:RT):Gr sy ah t []=[]:=rfl
theorem Sd (sy:Nd->Sym) (ah:Nat) (t:RT) (h:(HX (flat t) (flat t).length).length<=64):∀ps:List Nat,(Gr sy ah t ps).length<=65*ps.length
 | []=>by simp[Gr]
 | q::ps=>by
  have h1:Gr sy ah t (q::ps)=OB sy ah t q++Gr sy ah t ps:=rfl;have h3:=Sd sy ah t h ps;have h4:=Ak_ (Xc t 0 q) ⟨0,sy (nd (flat t) q),(GA (flat t) ah q:Int)⟩;have h5:=UN sy ah t q (HX (flat t) (flat t).length);rw[h1,Cc_,aC0,aC0,List.length_cons];omega
def Jl (g:List Rul):Nd->Sym:=Fq (Ay g) (AE g)
def DR_ : Ann:=⟨[],[⟨5,[11],[],[]⟩]⟩
theorem Hx_ (g:List Rul) (t:RT) (ah:Nat) (Z:List Arc) (ht:FU t=true) (hs:(flat t).length<=2048) (fV:ah+(Dh (flat t)).length<=64) (hn:((AW 3 g).length+1)*16<=150000000000000) (hZ:(Z.length+5000)*32<=150000000000000) :
  Ac prog 139 [Az g,Bl (flat t),.int .i64 ah,Cz Z] (Cz (Gl Z (Gr (Jl g) ah t (HX (flat t) (flat t).length)))):=by
 obtain⟨l,hl⟩:∃l,l=flat t:=⟨_,rfl⟩;have ep:=JH l
 have yJ:(HX l l.length).length<=64:=by
  rw[Nr (Nat.le_refl _),Jp,hl];omega
 have cW:∀j p,(HX l l.length)[j]? =some p->KZ l p=j:=fun j p h=>Vf (Nat.le_refl _) h
 have hpin:∀p∈HX l l.length,∃x,l[p]? =some x:=fun p h=>by
  obtain⟨x,hx,_⟩:=Le.1 h;exact⟨x,hx⟩
 have eS:=fun x=>Pz g x hn
 have zV:At (flat t) 0 t:=At.top ht;have eB:∀q:Nat,Ac prog 209 [Bl l,.int .i64 0,.int .i64 q] (.bool (Xc t 0 q)):=fun q=>by rw[hl];exact IT q _ t (flat t) 0 rfl zV (by omega)
 have eF:∀p q:Nat,Ac prog 211 [Bl l,.int .i64 0,.int .i64 p,.int .i64 q] (.bool (TZ t 0 p q)):=fun p q=>by rw[hl];exact Tk p q _ t (flat t) 0 rfl zV (by omega)
 have gL:=Sd (Jl g) ah t (by rw[<-hl];exact yJ);have bR:=UN (Jl g) ah t;have gS:=KH_ (Jl g) ah t;have wC:=Hg_ (Jl g) ah t;have hq:=Cc_ (Jl g) ah t;rw[<-hl]at hq;simp only[<-hl]at gS;rw[<-hl];obtain⟨ps,dK⟩:∃ps,ps=HX l l.length:=⟨_,rfl⟩;rw[<-dK]at ep yJ cW hpin hq |-;clear dK zV;obtain⟨R,hR⟩:∃R,R=Gl Z (Gr (Jl g) ah t ps):=⟨_,rfl⟩;rw[<-hR];refine Ab [] DR_ func139 call139 ntmps139 mxd (Ap @DR_.eq_1 results139) rfl (fun qJ B qX qQ=> ?_)
 clear qJ;simp only[Ak]
 (refine Au (Aq ep) Aa Aa ?_;intros;refine Ae ?_)
 refine Af (X:={j:Nat//j<=ps.length}) (fun j=>⟨[(0,Az g),(1,Bl l),(2,.int .i64 ah),(3,Cz (Gl Z (Gr (Jl g) ah t (ps.take j.1)))),(9,Cl ps),(10,.int .i64 j.1)],[]⟩) (fun j=>ps.length-j.1) ⟨0,by omega⟩ (Sub.lit (by simp[Mk_,VO])) ?_;rintro⟨j,hj⟩;simp only
 by_cases qV:j<ps.length
 ·obtain⟨q,sP,dI,jJ⟩:=Ai qV;obtain⟨x,hx⟩:=hpin q jJ;have qU:=(aB0.1 hx).2;have hxl:=(aB0.1 hx).1;have hrk:=cW j q sP;have kO:(GA l ah q:Int)=(ah:Int)+(j:Int)+1:=by unfold GA;omega
  have hnd:=Ih_ hx;have e1:=eS x;have e2:=eB q;have qE:=wC (ps.take j) q;rw[<-Bx sP,hq q]at qE;rw[hl]at hnd kO;have qZ:=PX Z (Gr (Jl g) ah t (ps.take j));have hbl1:=gL (ps.take j);rw[aT0]at hbl1;obtain⟨y,hy⟩:∃y,y=Fq (Ay g) (AE g) x:=⟨_,rfl⟩;have cC:Jl g x=y:=hy.symm;rw[<-hy]at e1;simp only[BS,AA]at e1;obtain⟨N,hN⟩:∃N:Int,N=(ah:Int)+(j:Int)+1:=⟨_,rfl⟩;have hwj1:IntKind.i64.wrap ((ah:Int)+(j:Int))=(ah:Int)+(j:Int):=wq
  have rA:IntKind.i64.wrap ((ah:Int)+(j:Int)+1)=N:=by rw[hN];exact wq
  rw[<-hl]at hnd kO;have fW:=Km Z (Gr (Jl g) ah t (ps.take j));obtain⟨Z0,hZ0⟩:∃Z0,Z0=Gl Z (Gr (Jl g) ah t (ps.take j)):=⟨_,rfl⟩;rw[<-hZ0]at qZ fW |-;have e3:=Ll Z0 ⟨0,y,(ah:Int)+(j:Int)+1⟩ (by omega);simp only[Bm]at e3;rw[<-hN]at e3;rw[hnd,cC,kO,<-hN]at qE;cases bN:Xc t 0 q
  ·rw[bN]at e2 qE;obtain⟨Z1,hZc⟩:∃Z1,Z1=Z0:=⟨_,rfl⟩;have zD:Z1.length<=Z0.length+1:=by rw[hZc];omega
   have hZ1:Gl Z1 (Il (Jl g) ah t q ps)=Gl Z (Gr (Jl g) ah t (ps.take (j+1))):=by rw[qE,fW,Km,hZc];rfl
   (refine Au (Ap e1 e2) Aa (Hn @BS.eq_1 qV sP dI hx qU hxl @Bg.eq_1 hwj1 rA) ?_;intros;refine Ae ?_)
   refine Af (X:={i:Nat//i<=ps.length}) (fun i=>⟨[(0,Az g),(1,Bl l),(2,.int .i64 ah),(3,Cz (Gl Z1 (Il (Jl g) ah t q (ps.take i.1)))),(9,Cl ps),(10,.int .i64 j),(11,.ref (AA y)),(13,.int .i64 N),(14,.int .i64 i.1)],[]⟩) (fun i=>ps.length-i.1) ⟨0,by omega⟩ (Sub.lit (by simp[xO,VO,AA,<-hZc])) ?_;rintro⟨i,hi⟩;simp only
   by_cases qW:i<ps.length
   ·obtain⟨p,vQ,nZ,vK⟩:=Ai qW;have hrk2:=cW i p vQ;have nE:(GA l ah p:Int)=(ah:Int)+(i:Int)+1:=by unfold GA;omega
    have e4:=eF p q;have qP:=gS q (ps.take i) p;rw[<-Bx vQ,hnd,cC,kO,nE]at qP;have wS:=PX Z1 (Il (Jl g) ah t q (ps.take i));have hrl1:=bR q (ps.take i);rw[aT0]at hrl1;have wR:=Km Z1 (Il (Jl g) ah t q (ps.take i));obtain⟨Z2,hZ2⟩:∃Z2,Z2=Gl Z1 (Il (Jl g) ah t q (ps.take i)):=⟨_,rfl⟩;rw[<-hZ2]at wS wR |-;have e5:=Ll Z2 ⟨(ah:Int)+(i:Int)+1,y,(ah:Int)+(j:Int)+1⟩ (by omega);have cJ:IntKind.i64.wrap ((ah:Int)+(i:Int))=(ah:Int)+(i:Int):=wq
    have hwi2:IntKind.i64.wrap ((ah:Int)+(i:Int)+1)=(ah:Int)+(i:Int)+1:=wq;simp only[Bm]at e5;rw[<-hN]at e5 qP;cases hd:TZ t 0 p q
    ·rw[hd]at e4 qP;have h9:Gl Z1 (Il (Jl g) ah t q (ps.take (i+1)))=Z2:=by rw[qP,wR];rfl
     (refine Au (Ap e4 e5) Aa (Ez qW vQ nZ sP dI qV @Bg.eq_1) ?_;intros;refine Ae ?_)
     refine Ag.mk ⟨i+1,by omega⟩ (Sub.lit (by simp[h9])) (by simp;omega)
     skip
    ·rw[hd]at e4 qP;have h9:Gl Z1 (Il (Jl g) ah t q (ps.take (i+1)))=BO DT Z2 ⟨(ah:Int)+(i:Int)+1,y,N⟩:=by rw[qP,wR];rfl
     (refine Au (Ap e4 e5) Aa (Hn qW vQ nZ sP dI qV @Bg.eq_1 cJ hwi2 @AA.eq_1) ?_;intros;refine Ae ?_)
     refine Ag.mk ⟨i+1,by omega⟩ (Sub.lit (by simp[h9])) (by simp;omega)
     skip
   ·have qY:i=ps.length:=by omega
    subst qY;rw[aN0,hZ1]
    (refine Au Aa Aa Aa ?_;intros;refine Ae ?_)
    refine Ag.mk ⟨j+1,by omega⟩ (Sub.lit (by simp)) (by simp;omega)
    skip
  ·rw[bN]at e2 qE;obtain⟨Z1,hZc⟩:∃Z1,Z1=BO DT Z0 ⟨0,y,N⟩:=⟨_,rfl⟩;have zD:Z1.length<=Z0.length+1:=by rw[hZc];exact VN _ _ _
   have hZ1:Gl Z1 (Il (Jl g) ah t q ps)=Gl Z (Gr (Jl g) ah t (ps.take (j+1))):=by rw[qE,fW,Km,hZc];rfl
   (refine Au (BC e1 e2 e3) Aa (Hm @BS.eq_1 @AA.eq_1 qV sP dI hx qU hxl @Bg.eq_1 hwj1 rA) ?_;intros;refine Ae ?_)
   refine Af (X:={i:Nat//i<=ps.length}) (fun i=>⟨[(0,Az g),(1,Bl l),(2,.int .i64 ah),(3,Cz (Gl Z1 (Il (Jl g) ah t q (ps.take i.1)))),(9,Cl ps),(10,.int .i64 j),(11,.ref (AA y)),(13,.int .i64 N),(14,.int .i64 i.1)],[]⟩) (fun i=>ps.length-i.1) ⟨0,by omega⟩ (Sub.lit (by simp[xO,VO,AA,<-hZc])) ?_;rintro⟨i,hi⟩;simp only
   by_cases qW:i<ps.length
   ·obtain⟨p,vQ,nZ,vK⟩:=Ai qW;have hrk2:=cW i p vQ;have nE:(GA l ah p:Int)=(ah:Int)+(i:Int)+1:=by unfold GA;omega
    have e4:=eF p q;have qP:=gS q (ps.take i) p;rw[<-Bx vQ,hnd,cC,kO,nE]at qP;have wS:=PX Z1 (Il (Jl g) ah t q (ps.take i));have hrl1:=bR q (ps.take i);rw[aT0]at hrl1;have wR:=Km Z1 (Il (Jl g) ah t q (ps.take i));obtain⟨Z2,hZ2⟩:∃Z2,Z2=Gl Z1 (Il (Jl g) ah t q (ps.take i)):=⟨_,rfl⟩;rw[<-hZ2]at wS wR |-;have e5:=Ll Z2 ⟨(ah:Int)+(i:Int)+1,y,(ah:Int)+(j:Int)+1⟩ (by omega);have cJ:IntKind.i64.wrap ((ah:Int)+(i:Int))=(ah:Int)+(i:Int):=wq
    have hwi2:IntKind.i64.wrap ((ah:Int)+(i:Int)+1)=(ah:Int)+(i:Int)+1:=wq;simp only[Bm]at e5;rw[<-hN]at e5 qP;cases hd:TZ t 0 p q
    ·rw[hd]at e4 qP;have h9:Gl Z1 (Il (Jl g) ah t q (ps.take (i+1)))=Z2:=by rw[qP,wR];rfl
     (refine Au (Ap e4 e5) Aa (Ez qW vQ nZ sP dI qV @Bg.eq_1) ?_;intros;refine Ae ?_)
     refine Ag.mk ⟨i+1,by omega⟩ (Sub.lit (by simp[h9])) (by simp;omega)
     skip
    ·rw[hd]at e4 qP;have h9:Gl Z1 (Il (Jl g) ah t q (ps.take (i+1)))=BO DT Z2 ⟨(ah:Int)+(i:Int)+1,y,N⟩:=by rw[qP,wR];rfl
     (refine Au (Ap e4 e5) Aa (Hn qW vQ nZ sP dI qV @Bg.eq_1 cJ hwi2 @AA.eq_1) ?_;intros;refine Ae ?_)
     refine Ag.mk ⟨i+1,by omega⟩ (Sub.lit (by simp[h9])) (by simp;omega)
     skip
   ·have qY:i=ps.length:=by omega
    subst qY;rw[aN0,hZ1]
    (refine Au Aa Aa Aa ?_;intros;refine Ae ?_)
    refine Ag.mk ⟨j+1,by omega⟩ (Sub.lit (by simp)) (by simp;omega)
    skip
 ·have qY:j=ps.length:=by omega
  subst qY;rw[aN0,<-hR];exact Al Aa Aa Aa
end Go.Proofs.Wy
end
section
namespace Go.Proofs.Wy
open Go Go.Dm Go.Shelf Tryz
variable [DMode]
attribute [local irreducible] DW Bs Bv
set_option maxRecDepth 100000
abbrev IM_ : DVal:= .agg [.int .i64 0,.nilsl,.nilsl]
abbrev CQ (ls:List (List Nd)):DVal:= .sl 1 24 (ls.map FH)
theorem BM_ (l:List Arc):AS prog (.func 111) [.osl 0 0] [⟨0,0,.row 97 4 32 (l.map Bm)⟩] (Cz (Bu (fun x y=>DT x y==0) l)) []:=Yh l
theorem UI (l:List Nat):AS prog (.func 110) [.osl 0 0] [⟨0,0,.row 3 1 8 (l.map Bg)⟩] (.tup []) [⟨0,0,.row 3 1 8 ((LH (l.map XG)).map Du)⟩]:=by
 have h:=XK (l.map XG);rw[cF0]at h;exact h
structure BoxR (H L:List ByteArray) (ls:List (List Nd)) (R:DVal):Prop where
 a:JO ls≠0->R= .tup [IM_,.int .i64 (JO ls)]
 b:JO ls=0->ls.any (Jg H L)=true->R= .tup [IM_,.int .i64 4]
 c:JO ls=0->ls.any (Jg H L)=false->64<CJ ls->R= .tup [IM_,.int .i64 183]
 d:JO ls=0->∀ts,ls=ts.map flat->(∀t∈ts,FU t=true/\(flat t).length<=2048)->ls.any (Jg H L)=false->CJ ls<=64->R= .tup [Hf_ H L ts,.int .i64 0]
def JB : Ann:=⟨[77,89,94,100,105,114,126],[⟨16,[13],[],[]⟩,⟨17,[14],[],[]⟩,⟨30,[20],[],[]⟩,⟨38,[201,77],[],[]⟩,⟨39,[],[],[0,1,2,3,4,5,6]⟩]⟩
theorem Lc_ (H L:List ByteArray) (ls:List (List Nd)) (R:DVal) (hH:H.length≠0) (hR:BoxR H L ls R) (hm:mx R=0):Ac prog 34 [Hf H L,CQ ls] R:=by
 refine Ab [94,4] JB func34 call34 ntmps34 mxd (Ap @JB.eq_1 results34) rfl (fun qJ B qX qQ=> ?_) (hd:=(by simpa using hm))
 have rQ:ls.length*24<=150000000000000:=by
  have h1:=qJ.2.1;simp only[Dq,aJ0]at h1;exact h1.1
 clear qJ;simp only[Ak];have e1:=Lc H L
 (refine Au (Aq e1) Aa (Aq hH) ?_;intros;refine Ae ?_)
 clear hH;refine Af (X:={k:Nat//k<=ls.length/\JO ls=JO (ls.drop k)}) (fun k=>⟨[(1,CQ ls),(2,.ref [Hf H L]),(4,.bx 4 1 0),(5,.int .i64 0),(32,CQ ls),(33,.int .i64 ls.length),(34,.int .i64 k.1)],[⟨4,1,.box [.int .i64 0,.nilsl,.nilsl]⟩]⟩) (fun k=>ls.length-k.1) ⟨0,by simp⟩ (Sub.lit (by simp)) ?_;rintro⟨k,hk,gW⟩;simp only
 by_cases qV:k<ls.length
 ·obtain⟨l,hl,wD,nF⟩:=Ai qV;rw[aP0 qV,wD,JO]at gW;have e2:=RN_ l
  by_cases hc:LN l=0
  ·rw[if_pos hc]at gW;rw[hc]at e2
   (refine Au (Aq e2) Aa (CG qV hl wD @FH.eq_1) ?_;intros;refine Ae ?_)
   exact Ag.mk ⟨k+1,by omega,gW⟩ (Sub.lit (by simp)) (by simp;omega)
   skip
  ·rw[if_neg hc]at gW;have yB:=hR.a (by rw[gW];exact hc);rw[gW]at yB;rw[yB];have hcb:(LN l==0)=false:=by simpa using hc
   exact Al (Aq e2) Aa (EB qV hl wD @FH.eq_1 hc hcb)
 have qY:k=ls.length:=by omega
 subst qY;rw[bE0]at gW;have zG:JO ls=0:=gW;obtain⟨ts,zH,mE⟩:=Lp zG;clear gW hk;have kM:ls.length=ts.length:=by rw[zH,aJ0]
 have hocl:=iN ts fun t ht=>(mE t ht).2
 rw[<-zH]at hocl
 (refine Au Aa Aa Aa ?_;intros;refine Ae ?_)
 refine Af (X:={k:Nat//k<=ls.length/\(ls.take k).any (Jg H L)=false}) (fun k=>⟨[(1,CQ ls),(2,.ref [Hf H L]),(4,.bx 4 1 0),(5,.int .i64 0),(9,.int .i64 (CJ (ls.take k.1))),(45,CQ ls),(46,.int .i64 ls.length),(47,.int .i64 k.1)],[⟨4,1,.box [.int .i64 0,.nilsl,.nilsl]⟩]⟩) (fun k=>ls.length-k.1) ⟨0,by simp⟩ (Sub.lit (by simp[Aq_])) ?_;rintro⟨k,hk,wE⟩;simp only
 by_cases qV:k<ls.length
 ·obtain⟨l,hl,wD,nF⟩:=Ai qV
  have hll:l.length<=2048:=by
   rw[zH]at nF;obtain⟨t,ht,rfl⟩:=aU0.1 nF;exact(mE t ht).2
  have hos:=YR (ls.take k) l;rw[<-Bx hl]at hos;have hot:=YQ (ls:=ls) (k:=k+1);obtain⟨m,bO⟩:∃m,m=CJ (ls.take k):=⟨_,rfl⟩;rw[<-bO]at hos |-;have e5:=Vq l;have sB:IntKind.i64.wrap ((m:Int)+(HN l:Int))=(CJ (ls.take (k+1)):Int):=by rw[wq,hos];omega
  (refine Au Aa Aa (CG qV hl wD @FH.eq_1) ?_;intros;refine Ae ?_)
  refine Af (X:={j:Nat//j<=l.length/\Jg H L (l.take j)=false}) (fun j=>⟨[(1,CQ ls),(2,.ref [Hf H L]),(4,.bx 4 1 0),(5,.int .i64 0),(9,.int .i64 m),(11,Bl l),(45,CQ ls),(46,.int .i64 ls.length),(47,.int .i64 k),(51,Bl l),(52,.int .i64 l.length),(53,.int .i64 j.1)],[⟨4,1,.box [.int .i64 0,.nilsl,.nilsl]⟩]⟩) (fun j=>l.length-j.1) ⟨0,by simp[Jg]⟩ (Sub.lit (by simp)) ?_;rintro⟨j,hj,sQ⟩;simp only
  by_cases qW:j<l.length
  ·obtain⟨x,hx,qU,wA⟩:=Ai qW;have e3:=UD H L x
   have wC:Jg H L (l.take (j+1))=decide (UC H L x=4):=by
    unfold Jg at sQ |-;rw[Bx hx,dU0,sQ];simp
   obtain⟨E,hE⟩:∃E,E=UC H L x:=⟨_,rfl⟩;rw[<-hE]at e3 wC;simp only[BS,AA]at e3
   by_cases h4:E=4
   ·have wZ:ls.any (Jg H L)=true:=by
     rw[bW0];refine⟨l,nF,?_⟩;unfold Jg;rw[bW0];exact⟨x,wA,by rw[<-hE];simp[h4]⟩
    rw[hR.b zG wZ];exact Al (Aq e3) Aa (Dx @BS.eq_1 qW hx qU h4)
   ·have h4b:(E==4)=false:=by simpa using h4
    rw[decide_eq_false h4]at wC
    (refine Au (Aq e3) Aa (EB @BS.eq_1 qW hx qU h4 h4b) ?_;intros;refine Ae ?_)
    refine Ag.mk ⟨j+1,by omega,wC⟩ (Sub.lit (by simp)) (by simp;omega)
    skip
  ·have qY:j=l.length:=by omega
   subst qY;rw[aN0]at sQ;have hno2:(ls.take (k+1)).any (Jg H L)=false:=by rw[Bx hl,dU0,wE];simp[sQ]
   (refine Au (Aq e5) Aa (Aq sB) ?_;intros;refine Ae ?_)
   refine Ag.mk ⟨k+1,by omega,hno2⟩ (Sub.lit (by simp)) (by simp;omega)
   skip
 have qY:k=ls.length:=by omega
 subst qY;rw[aN0]at wE;clear hk qV
 by_cases fV:64<CJ ls
 ·have hRc:=hR.c zG wE fV;have d1:(64:Int)<(CJ ls:Int):=by omega
  exact Al Aa Aa (BC d1 fV hRc)
 have zW:=hR.d zG ts zH mE wE (by omega);have hoc:=Iw ts;rw[<-zH]at hoc;have d1:¬(64:Int)<(CJ ls:Int):=by omega
 (refine Au Aa Aa (Ap d1 fV) ?_;intros;refine Ae ?_)
 have hlv64:(CB ts).length<=64:=by omega
 obtain⟨SF,mT⟩:∃SF,SF=Pe (Fq H L) ts:=⟨_,rfl⟩
 have wK:∀k,(CB (ts.take k)).length<=64/\Pe (Fq H L) (ts.take k) <+: SF:=fun k=>by
  have h1:=Iq_ (us:=ts.take k) (vs:=ts.drop k);have h2:=QL_ (Fq H L) (ts.take k) (ts.drop k);rw[List.take_append_drop]at h1 h2;rw[mT];exact⟨by omega,h2⟩
 have yJ:∀k,(MZ SF (ts.take k)).length<=1073741824:=fun k=>by
  have h1:=iD (ts.take k) 0 (fun t ht=>(mE t (cK0 ht)).2) (wK k).1;unfold MZ;rw[NI];have:=(wK k).1;omega
 have vC:∀k,(We (ts.take k)).length<=64/\(RE (ts.take k)).length<=64:=fun k=>by
  have h1:=oC (ts.take k) 0;have h2:=It_ (ts.take k) 0;have:=(wK k).1;exact⟨by unfold We;omega,by unfold RE;omega⟩
 have z0:MZ SF []=[]:=rfl;have z1:Pe (Fq H L) []=[]:=rfl;have z2:We []=[]:=rfl;have z3:RE []=[]:=rfl;have z4:Fv []=false:=by rw[Fv]
 refine BT 77 0 201 95 2 16 (by simp) (fun n1=> ?_);refine BT 77 1 202 97 4 32 (by simp) (fun n2=> ?_);refine BT 17 2 94 3 1 8 (by simp) (fun n3=> ?_);refine Uk 17 1 1 8 rfl rfl ?_
 refine Af (X:={k:Nat//k<=ts.length}) (fun k=>⟨[(2,.ref [Hf H L]),(4,.bx 4 1 0),(16,.bx 77 1 0),(17,.bx 17 1 0),(79,CQ ls),(80,.int .i64 ls.length),(81,.int .i64 k.1)],
  [⟨4,1,.box [.int .i64 0,.nilsl,.nilsl]⟩,⟨77,1,.box [.osl 201 1,.osl 202 1]⟩,⟨201,1,.row 95 2 16 ((Pe (Fq H L) (ts.take k.1)).map AA)⟩,⟨202,1,.row 97 4 32 ((MZ SF (ts.take k.1)).map Bm)⟩,⟨17,1,.box [.bool (Fv (ts.take k.1)),Cl (We (ts.take k.1)),.osl 94 1]⟩,⟨94,1,.row 3 1 8 ((RE (ts.take k.1)).map Bg)⟩]⟩) (fun k=>ts.length-k.1) ⟨0,by simp⟩ (Sub.lit (by simp[z0,z1,z2,z3,z4])) ?_
 rintro⟨k,hk⟩;simp only
 by_cases qV:k<ts.length
 ·obtain⟨t,ht,bK,htm⟩:=Ai qV;obtain⟨qL,tB⟩:=mE t htm;have yO:ls[k]? =some (flat t):=by rw[zH,bK0,ht];rfl
  have yP:k<ls.length:=by omega
  have kH:ls[k]'yP=flat t:=(aB0.1 yO).2;have mC:=wK (k+1);have y1:=Nq_ H L (ts.take k) t;have y2:=LN_ (ts.take k) t;have y3:=Lx_ (ts.take k) t;have y4:=Hm_ SF (ts.take k) t;have y5:=Xk (ts.take k) t;have y6:=Vz (ts.take k) t;rw[<-Bx ht]at y1 y2 y3 y4 y5 y6;have y7:=congrArg List.length y6;rw[aC0]at y7;have hA:=yJ k;have hF:=vC k;have hF1:=vC (k+1);have e6:=Uw H L (flat t) (CB (ts.take k)).length SF (by rw[<-y7];exact mC.1) _ t (Nat.le_refl _) qL 0 [] (Pe (Fq H L) (ts.take k)) (MZ SF (ts.take k)) (by simp) (by rw[TG,UO];rfl) (by rw[y1];exact mC.2) (by omega)
  rw[y1,y4,bM0]at e6;have g1:=congrArg List.length y2;have g2:=congrArg List.length y3;rw[aC0]at g1 g2;have e7:=Ht_ (Fv (ts.take k)) (CC t) (We (ts.take k)) (Kr (flat t) (CB (ts.take k)).length t 0) (RE (ts.take k)) (NV (flat t) (CB (ts.take k)).length t 0) (by omega) (by omega);rw[y5,y2,y3]at e7;refine Fw (Sub.freezeL [94] _) ?_;simp
  (repeat (first | refine AI fun K hK=> ?_ | (refine BR JB mxd (by kernel_rfl) ?_;simp[JB,qX,BW,yP,yO,kH,FH];try simp (disch:=omega) only[Ao]) | refine Aw ?_ | (refine Bb ?_ ?_ ?_;(· (simp[qX,BW,yP,yO,kH,FH];done));(try (rotate_left;(· (intro hc;(try simp[qX,BW,yP,yO,kH,FH]at hc);done))))) | (refine AK ?_;simp[results34,qX,BW,yP,yO,kH,FH]) | ((first | refine AD ?_ | refine AC ?_);simp[qX,BW,yP,yO,kH,FH]) | (intro hc;(try simp[qX,BW,yP,yO,kH,FH]at hc);(try (exfalso;omega))) | (refine AP [(77,0),(201,1),(202,2)] [] (e6) ?_ ?_;(· (simp[qX,BW,yP,yO,kH,FH];done));(intro _;try simp[qX,BW,yP,yO,kH,FH])) | (refine AP [] [(94,0)] (e7) ?_ ?_;(· (simp[qX,BW,yP,yO,kH,FH];done));(intro _;try simp[qX,BW,yP,yO,kH,FH])) | (refine⟨?_,?_⟩; · omega) | omega | apply_assumption -exfalso -symm | (exfalso;omega)))
  refine Ag.mk ⟨k+1,by omega⟩ (Sub.lit (by simp)) (by simp;omega)
  skip
 ·have qY:k=ts.length:=by omega
  subst qY;rw[aN0];have hA:=yJ ts.length;have hF:=vC ts.length;have hP:=wK ts.length;rw[aN0]at hA hF hP;have e8:=MD SF SF (MZ SF ts) [0] (We ts) (List.prefix_refl _) (fun q hq=>by have:=oB ts 0 q hq;rw[mT,TG];omega) (by rw[mT,TG];omega) (by simp;omega);have y8:=Mq_ (Fq H L) ts;rw[<-mT]at y8;rw[y8]at e8;have e9:=xB (HF (Fq H L) ts);have e11:=BM_ (FQ DT (HF (Fq H L) ts));rw[<-mT];have wP:¬(ts.length:Int)<(ls.length:Int):=by omega
  have hSl:SF.length=(CB ts).length:=by rw[mT,TG]
  have wF:IntKind.i64.wrap ((SF.length:Int)+1)=((CB ts).length:Int)+1:=by rw[hSl];exact wq
  have vY:=Pm_ ts fun t ht=>(mE t ht).1
  unfold Hf_ ZI at zW;obtain⟨CZ,hCZ⟩:∃CZ,CZ=Bu (fun x y=>DT x y==0) (FQ DT (HF (Fq H L) ts)):=⟨_,rfl⟩;rw[<-hCZ]at zW e11;obtain⟨FR,hFR⟩:∃FR,FR=Jx ts:=⟨_,rfl⟩;rw[<-hFR]at zW vY;cases hE:Fv ts
  ·have e10:=UI (RE ts)
   have pR:LH ((RE ts).map XG)=FR:=by
    rw[hE]at vY;simp only[aK0,if_false,bM0]at vY;exact vY
   rw[pR]at e10
   (repeat (first | refine AI fun K hK=> ?_ | (refine BR JB mxd (by kernel_rfl) ?_;simp[JB,qX,BW,wP,Bg,wF,zW];try simp (disch:=omega) only[Ao]) | refine Aw ?_ | (refine Bb ?_ ?_ ?_;(· (simp[qX,BW,wP,Bg,wF,zW];done));(try (rotate_left;(· (intro hc;(try simp[qX,BW,wP,Bg,wF,zW]at hc);done))))) | (refine AK ?_;simp[results34,qX,BW,wP,Bg,wF,zW]) | ((first | refine AD ?_ | refine AC ?_);simp[qX,BW,wP,Bg,wF,zW]) | (intro hc;(try simp[qX,BW,wP,Bg,wF,zW]at hc);(try (exfalso;omega))) | (refine AP [(77,0),(201,1),(202,2)] [] (e8) ?_ ?_;(· (simp[qX,BW,wP,Bg,wF,zW];done));(intro _;try simp[qX,BW,wP,Bg,wF,zW])) | (refine AP [(202,0)] [] (e9) ?_ ?_;(· (simp[qX,BW,wP,Bg,wF,zW];done));(intro _;try simp[qX,BW,wP,Bg,wF,zW])) | (refine AP [(94,0)] [] (e10) ?_ ?_;(· (simp[qX,BW,wP,Bg,wF,zW];done));(intro _;try simp[qX,BW,wP,Bg,wF,zW])) | (refine AP [(202,0)] [] (e11) ?_ ?_;(· (simp[qX,BW,wP,Bg,wF,zW];done));(intro _;try simp[qX,BW,wP,Bg,wF,zW])) | (refine⟨?_,?_⟩; · omega) | omega | apply_assumption -exfalso -symm | (exfalso;omega)))
  ·have e10:=UI (RE ts++[0])
   have pR:LH ((RE ts++[0]).map XG)=FR:=by
    rw[hE]at vY;simp only[if_true]at vY;rw[aX0];exact vY
   rw[pR]at e10;have hb:((RE ts).length+1)*8<=150000000000000:=by omega
   (repeat (first | refine AI fun K hK=> ?_ | (refine BR JB mxd (by kernel_rfl) ?_;simp[JB,qX,BW,wP,Bg,wF,zW,hb];try simp (disch:=omega) only[Ao]) | refine Aw ?_ | (refine Bb ?_ ?_ ?_;(· (simp[qX,BW,wP,Bg,wF,zW,hb];done));(try (rotate_left;(· (intro hc;(try simp[qX,BW,wP,Bg,wF,zW,hb]at hc);done))))) | (refine AK ?_;simp[results34,qX,BW,wP,Bg,wF,zW,hb]) | ((first | refine AD ?_ | refine AC ?_);simp[qX,BW,wP,Bg,wF,zW,hb]) | (intro hc;(try simp[qX,BW,wP,Bg,wF,zW,hb]at hc);(try (exfalso;omega))) | (refine AP [(77,0),(201,1),(202,2)] [] (e8) ?_ ?_;(· (simp[qX,BW,wP,Bg,wF,zW,hb];done));(intro _;try simp[qX,BW,wP,Bg,wF,zW,hb])) | (refine AP [(202,0)] [] (e9) ?_ ?_;(· (simp[qX,BW,wP,Bg,wF,zW,hb];done));(intro _;try simp[qX,BW,wP,Bg,wF,zW,hb])) | (refine AP [(94,0)] [] (e10) ?_ ?_;(· (simp[qX,BW,wP,Bg,wF,zW,hb];done));(intro _;try simp[qX,BW,wP,Bg,wF,zW,hb])) | (refine AP [(202,0)] [] (e11) ?_ ?_;(· (simp[qX,BW,wP,Bg,wF,zW,hb];done));(intro _;try simp[qX,BW,wP,Bg,wF,zW,hb])) | (refine⟨?_,?_⟩; · omega) | omega | apply_assumption -exfalso -symm | (exfalso;omega)))
end Go.Proofs.Wy
end
section
namespace Go.Proofs.Wy
open Go Go.Dm Tryz
variable [DMode]
attribute [local irreducible] DW Bs Bv
set_option maxRecDepth 100000
noncomputable def JC (H L:List ByteArray) (ls:List (List Nd)):Int:=if JO ls=0 then (if ls.any (Jg H L)=true then 4 else if 64<CJ ls then 183 else 0)else JO ls
def DQ_ : Ann:=⟨[],[⟨15,[10],[],[]⟩]⟩
theorem aB (g:List Rul) (ls:List (List Nd)) (hn:((AW 3 g).length+1)*16<=150000000000000):Ac prog 138 [Az g,CQ ls] (.int .i64 (JC (Ay g) (AE g) ls)):=by
 refine Ab [] DQ_ func138 call138 ntmps138 mxd (Ap @DQ_.eq_1 results138) rfl (fun qJ B qX qQ=> ?_)
 have rQ:ls.length*24<=150000000000000:=by
  have h1:=qJ.2.1;simp only[Dq,aJ0]at h1;exact h1.1
 clear qJ;simp only[Ak];have eS:=fun x=>Pz g x hn
 obtain⟨H,hH⟩:∃H,H=Ay g:=⟨_,rfl⟩;obtain⟨L,hL⟩:∃L,L=AE g:=⟨_,rfl⟩;simp only[<-hH,<-hL]at eS |-;clear hH hL;obtain⟨W,hW⟩:∃W,W=JC H L ls:=⟨_,rfl⟩;rw[<-hW];unfold JC at hW
 (refine Au Aa Aa Aa ?_;intros;refine Ae ?_)
 refine Af (X:={k:Nat//k<=ls.length/\JO ls=JO (ls.drop k)}) (fun k=>⟨[(0,Az g),(1,CQ ls),(5,.int .i64 k.1)],[]⟩) (fun k=>ls.length-k.1) ⟨0,by simp⟩ (Sub.lit (by simp)) ?_;rintro⟨k,hk,gW⟩;simp only
 by_cases qV:k<ls.length
 ·obtain⟨l,hl,wD,nF⟩:=Ai qV;rw[aP0 qV,wD,JO]at gW;have e2:=RM_ l;have zC:IntKind.i64.wrap ((k:Int)+1)=(k:Int)+1:=wq
  by_cases hc:LN l=0
  ·rw[if_pos hc]at gW;rw[hc]at e2
   (refine Au (Aq e2) Aa (Dx qV hl wD @FH.eq_1 zC) ?_;intros;refine Ae ?_)
   exact Ag.mk ⟨k+1,by omega,gW⟩ (Sub.lit (by simp)) (by simp;omega)
   skip
  ·rw[if_neg hc]at gW;rw[if_neg (by rw[gW];exact hc),gW]at hW;have hcb:(LN l==0)=false:=by simpa using hc
   exact Al (Aq e2) Aa (Ez qV hl wD @FH.eq_1 hc hcb hW)
 have qY:k=ls.length:=by omega
 subst qY;rw[bE0]at gW;have zG:JO ls=0:=gW;rw[if_pos zG]at hW;obtain⟨ts,zH,mE⟩:=Lp zG;clear gW hk;have kM:ls.length=ts.length:=by rw[zH,aJ0]
 have hocl:=iN ts fun t ht=>(mE t ht).2
 rw[<-zH]at hocl
 (refine Au Aa Aa Aa ?_;intros;refine Ae ?_)
 refine Af (X:={k:Nat//k<=ls.length/\(ls.take k).any (Jg H L)=false}) (fun k=>⟨[(0,Az g),(1,CQ ls),(7,.int .i64 (CJ (ls.take k.1))),(8,.int .i64 k.1)],[]⟩) (fun k=>ls.length-k.1) ⟨0,by simp⟩ (Sub.lit (by simp[Aq_])) ?_;rintro⟨k,hk,wE⟩;simp only
 by_cases qV:k<ls.length
 ·obtain⟨l,hl,wD,nF⟩:=Ai qV
  have hll:l.length<=2048:=by
   rw[zH]at nF;obtain⟨t,ht,rfl⟩:=aU0.1 nF;exact(mE t ht).2
  have hos:=YR (ls.take k) l;rw[<-Bx hl]at hos;have hot:=YQ (ls:=ls) (k:=k+1);obtain⟨m,bO⟩:∃m,m=CJ (ls.take k):=⟨_,rfl⟩;rw[<-bO]at hos |-;have e5:=PC l;have sB:IntKind.i64.wrap ((m:Int)+(HN l:Int))=(CJ (ls.take (k+1)):Int):=by rw[wq,hos];omega
  have zC:IntKind.i64.wrap ((k:Int)+1)=(k:Int)+1:=wq
  (refine Au (Aq e5) Aa (Dx qV hl wD @FH.eq_1 sB) ?_;intros;refine Ae ?_)
  refine Af (X:={j:Nat//j<=l.length/\Jg H L (l.take j)=false}) (fun j=>⟨[(0,Az g),(1,CQ ls),(7,.int .i64 (CJ (ls.take (k+1)))),(8,.int .i64 k),(9,.int .i64 j.1)],[]⟩) (fun j=>l.length-j.1) ⟨0,by simp[Jg]⟩ (Sub.lit (by simp)) ?_;rintro⟨j,hj,sQ⟩;simp only
  by_cases qW:j<l.length
  ·obtain⟨x,hx,qU,wA⟩:=Ai qW;have e3:=eS x;have rG:IntKind.i64.wrap ((j:Int)+1)=(j:Int)+1:=wq
   have wC:Jg H L (l.take (j+1))=decide (UC H L x=4):=by
    unfold Jg at sQ |-;rw[Bx hx,dU0,sQ];simp
   obtain⟨E,hE⟩:∃E,E=UC H L x:=⟨_,rfl⟩;rw[<-hE]at e3 wC;simp only[BS,AA]at e3
   by_cases h4:E=4
   ·have wZ:ls.any (Jg H L)=true:=by
     rw[bW0];refine⟨l,nF,?_⟩;unfold Jg;rw[bW0];exact⟨x,wA,by rw[<-hE];simp[h4]⟩
    rw[if_pos wZ]at hW;exact Al (Aq e3) Aa (Hn @BS.eq_1 @FH.eq_1 qV hl wD qW hx qU h4 hW)
   ·have h4b:(E==4)=false:=by simpa using h4
    rw[decide_eq_false h4]at wC
    (refine Au (Aq e3) Aa (Hm @BS.eq_1 @FH.eq_1 qV hl wD qW hx qU h4 h4b rG) ?_;intros;refine Ae ?_)
    refine Ag.mk ⟨j+1,by omega,wC⟩ (Sub.lit (by simp)) (by simp;omega)
    skip
  ·have qY:j=l.length:=by omega
   subst qY;rw[aN0]at sQ;have hno2:(ls.take (k+1)).any (Jg H L)=false:=by rw[Bx hl,dU0,wE];simp[sQ]
   (refine Au Aa Aa (Dx @FH.eq_1 qV hl wD zC) ?_;intros;refine Ae ?_)
   refine Ag.mk ⟨k+1,by omega,hno2⟩ (Sub.lit (by simp)) (by simp;omega)
   skip
 have qY:k=ls.length:=by omega
 subst qY;rw[aN0]at wE;clear hk qV;rw[if_neg (by rw[wE];simp)]at hW
 by_cases fV:64<CJ ls
 ·rw[if_pos fV]at hW;have d1:(64:Int)<(CJ ls:Int):=by omega
  exact Al Aa Aa (BC d1 fV hW)
 ·rw[if_neg fV]at hW;have d1:¬(64:Int)<(CJ ls:Int):=by omega
  exact Al Aa Aa (BC d1 fV hW)
theorem FO_ (l:List Nd):(HX l l.length).length=(Dh l).length:=by rw[Nr (Nat.le_refl _),Jp]
theorem ZJ (sy:Nd->Sym):∀(ts:List RT) (ah:Nat),(CB ts).length<=64->(Hk sy ah ts).length<=65*(CB ts).length
 | [],ah,_=>by simp[Hk]
 | t::ts,ah,h=>by
  have h1:CB (t::ts)=Dh (flat t)++CB ts:=by simp[CB]
  rw[h1,aC0]at h |-;have ih:=ZJ sy ts (ah+(Dh (flat t)).length) (by omega);have h2:=FO_ (flat t);have h3:=Sd sy ah t (by omega) (HX (flat t) (flat t).length);have h4:Hk sy ah (t::ts)=Gr sy ah t (HX (flat t) (flat t).length)++Hk sy (ah+(Dh (flat t)).length) ts:=rfl;rw[h4,aC0];omega
def Na (sy:Nd->Sym) (us:List RT):List Arc:=Gl [] (Hk sy 0 us)
theorem Hn_ (sy:Nd->Sym) (us:List RT) (t:RT):Gl (Na sy us) (Gr sy (CB us).length t (HX (flat t) (flat t).length))=Na sy (us++[t]):=by
 unfold Na;rw[Xh,Km,bX0];rfl
theorem Ms_ (sy:Nd->Sym) (us:List RT) (h:(CB us).length<=64):(Na sy us).length<=4160:=by
 have h1:=PX [] (Hk sy 0 us);have h2:=ZJ sy us 0 h;unfold Na;simp only[List.length_nil]at h1;omega
def Qf (us:List RT):List Nat:=He 0 us
def Yg (t:RT) (ah:Nat) (ps:List Nat):List Nat:=(ps.filter (Qi t 0)).map (GA (flat t) ah)
theorem LR_ (t:RT) (ah:Nat) (ps:List Nat) (p:Nat):Yg t ah (ps++[p])=Yg t ah ps++(if Qi t 0 p=true then [GA (flat t) ah p]else []):=by
 unfold Yg;rw[dC0,aX0];cases h:Qi t 0 p<;>simp[h]
theorem Po_ (t:RT) (ah:Nat):Yg t ah []=[]:=rfl
theorem Pp_ (t:RT) (ah:Nat) (ps:List Nat):(Yg t ah ps).length<=ps.length:=by unfold Yg;rw[aJ0];exact cG0 _ _
theorem LU_ (us:List RT) (t:RT):Qf us++Yg t (CB us).length (HX (flat t) (flat t).length)=Qf (us++[t]):=by unfold Qf Yg;rw[Zr,bX0]
theorem Wf : ∀(ts:List RT) (ah:Nat),(He ah ts).length<=(CB ts).length
 | [],ah=>by simp[He]
 | t::ts,ah=>by
  have h1:CB (t::ts)=Dh (flat t)++CB ts:=by simp[CB]
  have ih:=Wf ts (ah+(Dh (flat t)).length);have h2:=FO_ (flat t);have h3:((HX (flat t) (flat t).length).filter (Qi t 0)).length<=(HX (flat t) (flat t).length).length:=cG0 _ _;rw[He,h1,aC0,aC0,aJ0];omega
def KJ_ (g:List Rul) (ts:List RT):DVal:=ZI ((CB ts).length+1) (Jx ts) (Na (Jl g) ts)
theorem Pn_ (ts:List RT):BD (Jx ts)= .sl 1 8 ((if Fv ts=true then [Bg 0]else [])++(Qf ts).map Bg):=by
 unfold Jx Qf;rw[show BD ((if Fv ts then [0]else [])++(He 0 ts).map XG)= .sl 1 8 (((if Fv ts then [0]else [])++(He 0 ts).map XG).map Du) from rfl,aX0,cF0];cases Fv ts<;>rfl
def tR : Ann:=⟨[63,79,84],[]⟩
theorem Fz_ (g:List Rul) (ls:List (List Nd)) (R:DVal) (hn:((AW 3 g).length+1)*16<=150000000000000) (hm:mx R=0)
  (hRa:JC (Ay g) (AE g) ls≠0->R= .tup [IM_,.int .i64 (JC (Ay g) (AE g) ls)])
  (zW:∀ts,ls=ts.map flat->(∀t∈ts,FU t=true/\(flat t).length<=2048)->CJ ls<=64->JC (Ay g) (AE g) ls=0->R= .tup [KJ_ g ts,.int .i64 0]):Ac prog 54 [Az g,CQ ls] R:=by
 refine Ab [51,4] tR func54 call54 ntmps54 mxd (Ap @tR.eq_1 results54) rfl (fun qJ B qX qQ=> ?_) (hd:=(by simpa using hm))
 have rQ:ls.length*24<=150000000000000:=by
  have h1:=qJ.2.1;simp only[Dq,aJ0]at h1;exact h1.1
 clear qJ;simp only[Ak];have e1:=aB g ls hn;obtain⟨W,hW⟩:∃W,W=JC (Ay g) (AE g) ls:=⟨_,rfl⟩;simp only[<-hW]at e1 hRa zW
 by_cases h0:W=0
 ·have zH:∃ts:List RT,ls=ts.map flat/\(∀t∈ts,FU t=true/\(flat t).length<=2048)/\CJ ls<=64:=by
   rw[h0]at hW;unfold JC at hW
   split at hW
   ·rename_i he;obtain⟨ts,h1,h2⟩:=Lp he;refine⟨ts,h1,h2,?_⟩
    split at hW
    ·omega
    ·split at hW
     ·omega
     ·omega
   ·rename_i he;exact absurd hW.symm he
  obtain⟨ts,zH,mE,hoc⟩:=zH;have yB:=zW ts zH mE hoc h0;have hoc2:=Iw ts;rw[<-zH]at hoc2;have dX:(CB ts).length<=64:=by omega
  have kM:ls.length=ts.length:=by rw[zH,aJ0]
  rw[h0]at e1;clear hW hRa zW
  (refine Au (Aq e1) Aa Aa ?_;intros;refine Ae ?_)
  have wK:∀k,(CB (ts.take k)).length<=64:=fun k=>by
   have h1:=Iq_ (us:=ts.take k) (vs:=ts.drop k);rw[List.take_append_drop]at h1;omega
  have z1:CB []=[]:=rfl;have z2:Na (Jl g) []=[]:=rfl;have z3:Qf []=[]:=rfl;have z4:Fv []=false:=by rw[Fv]
  refine Bk 8 50 3 1 8 (by simp[qX,results54,tR]) (fun n1=> ?_);refine Uk 7 2 4 32 rfl rfl ?_
  refine Af (X:={k:Nat//k<=ts.length}) (fun k=>⟨[(0,Az g),(1,CQ ls),(4,.bx 4 1 0),(7,.bx 7 1 0),(8,.osl 50 1),(9,.bool (Fv (ts.take k.1))),(10,.int .i64 k.1)],
   [⟨4,1,.box [.int .i64 0,.nilsl,.nilsl]⟩,⟨7,1,.box [.int .i64 ((CB (ts.take k.1)).length+1),.nilsl,Cz (Na (Jl g) (ts.take k.1))]⟩,⟨50,1,.row 3 1 8 ((Qf (ts.take k.1)).map Bg)⟩]⟩) (fun k=>ts.length-k.1) ⟨0,by simp⟩ (Sub.lit (by simp[z1,z2,z3,z4])) ?_
  rintro⟨k,hk⟩;simp only
  by_cases qV:k<ts.length
  ·obtain⟨t,ht,bK,htm⟩:=Ai qV;obtain⟨qL,tB⟩:=mE t htm;have yO:ls[k]? =some (flat t):=by rw[zH,bK0,ht];rfl
   have yP:k<ls.length:=by omega
   have kH:ls[k]'yP=flat t:=(aB0.1 yO).2;have y1:=Hn_ (Jl g) (ts.take k) t;have y2:=LU_ (ts.take k) t;have y3:=Xk (ts.take k) t;have y4:=congrArg List.length (Vz (ts.take k) t);rw[<-Bx ht]at y1 y2 y3 y4;rw[aC0]at y4;have mC:=wK (k+1);have jP:=Ms_ (Jl g) (ts.take k) (wK k);have vC:(Qf (ts.take k)).length<=64:=by have:=Wf (ts.take k) 0;have:=wK k;unfold Qf;omega
   obtain⟨ah,hah⟩:∃ah,ah=(CB (ts.take k)).length:=⟨_,rfl⟩;rw[<-hah]at y1 y2 y4 |-;have e2:=Hx_ g t ah (Na (Jl g) (ts.take k)) qL tB (by omega) hn (by omega);rw[y1]at e2;have e3:=JH (flat t);have yJ:=FO_ (flat t);have cW:∀j p,(HX (flat t) (flat t).length)[j]? =some p->KZ (flat t) p=j:=fun j p h=>Vf (Nat.le_refl _) h
   have zV:At (flat t) 0 t:=At.top qL;have eE:∀q:Nat,Ac prog 141 [Bl (flat t),.int .i64 0,.int .i64 q] (.bool (Qi t 0 q)):=fun q=>MR q _ t (flat t) 0 rfl zV (by omega)
   have eM:Ac prog 142 [Bl (flat t),.int .i64 0] (.bool (CC t)):=HQ _ t (flat t) 0 rfl zV (by omega);have hfs:=LR_ t ah;have hfpl:=Pp_ t ah;obtain⟨ps,dK⟩:∃ps,ps=HX (flat t) (flat t).length:=⟨_,rfl⟩;rw[<-dK]at e3 yJ cW y2;clear zV dK;obtain⟨F0,hF0⟩:∃F0,F0=Qf (ts.take k):=⟨_,rfl⟩;rw[<-hF0]at y2 vC |-;have wF:IntKind.i64.wrap ((ah:Int)+1-1)=(ah:Int):=by rw[wq];omega
   have zC:IntKind.i64.wrap ((k:Int)+1)=(k:Int)+1:=wq;have yI:IntKind.i64.wrap ((ah:Int)+1+(ps.length:Int))=((CB (ts.take (k+1))).length:Int)+1:=by rw[wq];omega
   (refine Au (Ap e2 e3) Aa (Dx yP yO kH @FH.eq_1 wF) ?_;intros;refine Ae ?_)
   refine Af (X:={j:Nat//j<=ps.length}) (fun j=>⟨[(0,Az g),(1,CQ ls),(4,.bx 4 1 0),(7,.bx 7 1 0),(8,.osl 50 1),(9,.bool (Fv (ts.take k))),(10,.int .i64 k),(11,Bl (flat t)),(12,.int .i64 ah),(13,Cl ps),(14,.int .i64 j.1)],
    [⟨4,1,.box [.int .i64 0,.nilsl,.nilsl]⟩,⟨7,1,.box [.int .i64 ((ah:Int)+1),.nilsl,Cz (Na (Jl g) (ts.take (k+1)))]⟩,⟨50,1,.row 3 1 8 ((F0++Yg t ah (ps.take j.1)).map Bg)⟩]⟩) (fun j=>ps.length-j.1) ⟨0,by omega⟩ (Sub.lit (by simp[Po_])) ?_
   rintro⟨j,hj⟩;simp only
   by_cases qW:j<ps.length
   ·obtain⟨q,hq,vV,_⟩:=Ai qW;have e4:=eE q;have hrk:=cW j q hq;have rU:=hfs (ps.take j) q;rw[<-Bx hq]at rU;have hf2:=hfpl (ps.take j);rw[aT0]at hf2;have kO:GA (flat t) ah q=ah+j+1:=by unfold GA;omega
    rw[kO]at rU;obtain⟨F1,hF1⟩:∃F1,F1=Yg t ah (ps.take j):=⟨_,rfl⟩;rw[<-hF1]at rU hf2 |-;have hb:(F0.length+F1.length+1)*8<=150000000000000:=by omega
    have rG:IntKind.i64.wrap ((ah:Int)+(j:Int))=(ah:Int)+(j:Int):=wq;have rA:IntKind.i64.wrap ((ah:Int)+(j:Int)+1)=(ah:Int)+(j:Int)+1:=wq;have hwj3:IntKind.i64.wrap ((j:Int)+1)=(j:Int)+1:=wq;cases hd:Qi t 0 q
    ·rw[hd]at e4 rU;simp only[aK0,if_false,bM0]at rU
     (refine Au (Aq e4) Aa (Dx qW hq vV @Bg.eq_1 hwj3) ?_;intros;refine Ae ?_)
     refine Ag.mk ⟨j+1,by omega⟩ (Sub.lit (by simp[rU])) (by simp;omega)
     skip
    ·rw[hd]at e4 rU;simp only[if_true]at rU
     (refine Au (Aq e4) Aa (Ji qW hq vV @Bg.eq_1 rG rA hwj3 hb) ?_;intros;refine Ae ?_)
     refine Ag.mk ⟨j+1,by omega⟩ (Sub.lit (by simp[rU,Bg])) (by simp;omega)
     skip
   ·have qY:j=ps.length:=by omega
    subst qY;rw[aN0,y2];cases hE:Fv (ts.take k)
    ·rw[hE,eO0]at y3;rw[y3]at eM
     (refine Au (Aq eM) Aa (Ap yI zC) ?_;intros;refine Ae ?_)
     refine Ag.mk ⟨k+1,by omega⟩ (Sub.lit (by simp)) (by simp;omega)
     skip
    ·rw[hE,Bool.true_or]at y3
     (refine Au (Aq eM) Aa (Ap yI zC) ?_;intros;refine Ae ?_)
     refine Ag.mk ⟨k+1,by omega⟩ (Sub.lit (by simp[<-y3])) (by simp;omega)
     skip
  ·have qY:k=ts.length:=by omega
   subst qY;rw[aN0];have vC:(Qf ts).length<=64:=by have:=Wf ts 0;unfold Qf;omega
   have qE:((Qf ts).length)*8<=150000000000000:=by omega
   have qP:(1+(Qf ts).length)*8<=150000000000000:=by omega
   have wP:¬ts.length<ls.length:=by omega
   have hfe:=Pn_ ts;unfold KJ_ ZI at yB;rw[hfe]at yB;refine Fw (Sub.freezeL [50] _) ?_;simp;refine BT 7 1 51 3 1 8 (by simp) (fun n2=> ?_);cases hE:Fv ts
   ·rw[hE]at yB;simp only[aK0,if_false,List.nil_append]at yB;exact Al Aa Aa (CG wP kM yB qE)
   ·rw[hE]at yB;simp only[if_true]at yB;exact Al Aa Aa (Dx wP kM yB qP @Bg.eq_1)
 ·have yB:=hRa h0;have h0b:(W==0)=false:=by simpa using h0
  exact Al (Aq e1) Aa (BC h0 h0b yB)
@[simp] theorem Ux_ (l:List Bool) (v:Nat) (h:v<(bD l).length):((bD l)[v]'h).tail=[]:=by simp[bD,ZA]
def UF_ (l:List Int):List (List DVal):=l.map Du
@[simp] theorem Un_ (l:List Int):BK (UF_ l)=0:=Or_ l


end Go.Proofs.Wy
end
section
namespace Go.Proofs.Wy
open Go Go.Dm Tryz
attribute [local irreducible] DW Bs Bv
set_option maxRecDepth 100000
mutual
theorem Wc : ∀(t t':RT) (r r':List Nd),FU t=true->FU t'=true->flat t++r=flat t'++r'->t=t'/\r=r'
 | .mk x ks,.mk x' ks',r,r',h,h',he=>by
  rw[Bc,Bc,List.cons_append,List.cons_append]at he;injection he with h1 h2
  subst h1;have h3:=(CV h).2.1;have h4:=(CV h').2.1;obtain⟨h5,h6⟩:=Zp ks ks' r r' (CV h).2.2 (CV h').2.2 (by omega) h2;exact⟨by rw[h5],h6⟩
theorem Zp : ∀(ks ks':List RT) (r r':List Nd),HA ks=true->HA ks'=true->ks.length=ks'.length->Av ks++r=Av ks'++r'->ks=ks'/\r=r'
 | [],[],r,r',_,_,_,he=>by rw[CT]at he;exact⟨rfl,by simpa using he⟩
 | [],_::_,_,_,_,_,hl,_=>by simp at hl
 | _::_,[],_,_,_,_,hl,_=>by simp at hl
 | u::us,u'::us',r,r',h,h',hl,he=>by
  rw[AH,AH,aR0,aR0]at he;obtain⟨h1,h2⟩:=Wc u u' _ _ (Cp h).1 (Cp h').1 he;obtain⟨h3,h4⟩:=Zp us us' r r' (Cp h).2 (Cp h').2 (by simpa using hl) h2;exact⟨by rw[h1,h3],h4⟩
end
theorem Ys : ∀(ts ts':List RT),(∀t∈ts,FU t=true)->(∀t∈ts',FU t=true)->ts.map flat=ts'.map flat->ts=ts'
 | [],[],_,_,_=>rfl
 | [],_::_,_,_,h=>by simp at h
 | _::_,[],_,_,h=>by simp at h
 | t::ts,t'::ts',h,h',he=>by
  rw[List.map_cons,List.map_cons]at he;injection he with h1 h2
  have h3:=(Wc t t' [] [] (h t aF0) (h' t' aF0) (by rw[h1])).1;have h4:=Ys ts ts' (fun u hu=>h u (aE0 _ hu)) (fun u hu=>h' u (aE0 _ hu)) h2;rw[h3,h4]
theorem Tb_ (g:List Rul) (ts:List RT) (qL:∀t∈ts,FU t=true):Hf_ (Ay g) (AE g) ts=KJ_ g ts:=by
 unfold Hf_ KJ_ Na Gl Jl;rw[PU_ _ ts qL]
end Go.Proofs.Wy
end
section
namespace Go.Proofs.Wy
open Go Go.Dm Tryz
variable [DMode]
def JR (g:List Rul) (h:ByteArray):List (List Nd):=(g.filter fun r=>decide (r.h=h)).map (·.b)
def Xz (gt:GT) (h:ByteArray):List RT:=(gt.filter fun p=>decide (p.1=h)).map (·.2)
theorem BV_ (g:List Rul) (r:Rul) (h:ByteArray):JR (g++[r]) h=JR g h++(if r.h=h then [r.b]else []):=by
 unfold JR;rw[dC0,aX0]
 congr 1
 by_cases hr:r.h=h<;>simp[hr]
theorem oW (g:List Rul) (h:ByteArray):(JR g h).length<=g.length:=by unfold JR;rw[aJ0];exact cG0 _ _
theorem WX (gt:GT) (h:ByteArray):JR (Bd gt) h=(Xz gt h).map flat:=by
 unfold JR Xz Bd;rw[List.filter_map,cF0,cF0];rfl
theorem aN {gt:GT} {h:ByteArray} {t:RT} (ht:t∈Xz gt h):∃p∈gt,p.2=t:=by
 unfold Xz at ht;obtain⟨p,hp,rfl⟩:=aU0.1 ht;exact⟨p,(cQ0.1 hp).1,rfl⟩
theorem Ru : ∀(g:List Rul) (h:ByteArray),CJ (JR g h)<=DG g
 | [],h=>by simp[JR,CJ,DG]
 | r::g,h=>by
  have ih:=Ru g h;have h2:DG (r::g)=HN r.b+DG g:=by simp[DG]
  by_cases hr:r.h=h
  ·have h1:JR (r::g) h=r.b::JR g h:=by simp[JR,hr]
   have h3:CJ (r.b::JR g h)=HN r.b+CJ (JR g h):=by simp[CJ]
   rw[h1,h3,h2];omega
  ·have h1:JR (r::g) h=JR g h:=by simp[JR,hr]
   rw[h1,h2];omega
structure OkgT (gt:GT):Prop where
 ok:OkG gt
 one:1<=gt.length
 le:gt.length<=64
 hd:(Ay (Bd gt)).length<=16
 lb:(AE (Bd gt)).length<=16
 oc:DG (Bd gt)<=64
 dp:HD gt=false
 ms:(DK (Bd gt)).length=0
 tx:(CH gt).size<=2048
theorem QV_ {gt:GT} (hk:OkG gt) (h1:1<=gt.length) (h2:gt.length<=64) (h:Qo gt=0):OkgT gt:=by
 unfold Qo at h
 repeat' split at h
 all_goals first
  | omega
  | skip
 rename_i a1 a2 a3 a4 a5 a6;exact⟨hk,h1,h2,by omega,by omega,by omega,by simpa using a4,by omega,by omega⟩
theorem HI_ {gt:GT} (h:OkgT gt) {p:ByteArray×RT} (hp:p∈gt):FU p.2=true/\(flat p.2).length<=2048/\Em p.2=0:=by
 have h1:=(h.ok p hp).2;have h2:=xK hp;have h3:=h.tx;have h4:=aM p.2 h1;refine⟨h1,by omega,?_⟩
 have h5:¬16<LS p.2:=fun hh=>by
  have:HD gt=true:=by unfold HD;rw[bW0];exact⟨p,hp,by simpa using hh⟩
  rw[h.dp]at this;simp at this
 unfold Em;rw[if_neg h5,if_neg (by omega)]
theorem Kx_ {gt:GT} (h:OkgT gt) {p:ByteArray×RT} (hp:p∈gt) {x:Nd} (hx:x∈flat p.2):UC (Ay (Bd gt)) (AE (Bd gt)) x≠4:=by
 have hr:(⟨p.1,flat p.2⟩:Rul)∈Bd gt:=aU0.2 ⟨p,hp,rfl⟩;unfold UC
 split
 ·rename_i h3
  have hm:x.s∈AE (Bd gt):=by
   unfold AE;rw[(FO _).2];unfold AW De;exact bV0.2 ⟨_,hr,aU0.2 ⟨x,cQ0.2 ⟨hx,by simpa using h3⟩,rfl⟩⟩
  unfold Gz;rw[if_pos hm];omega
 ·split
  ·rename_i h2
   have hm:x.s∈Ay (Bd gt):=by
    rcases Classical.em (x.s∈Ay (Bd gt))with hh | hh
    ·exact hh
    ·exfalso
     have:x.s∈DK (Bd gt):=by
      unfold DK;rw[cQ0,(FO _).2];refine⟨?_,by simpa using hh⟩;unfold AW De;exact bV0.2 ⟨_,hr,aU0.2 ⟨x,cQ0.2 ⟨hx,by simpa using h2⟩,rfl⟩⟩
     have h3:=List.length_pos_of_mem this;have:=h.ms;omega
   unfold Gz;rw[if_pos hm];omega
  ·omega
theorem BZ_ {gt:GT} (h:OkgT gt) (s:ByteArray):(JR (Bd gt) s).any (Jg (Ay (Bd gt)) (AE (Bd gt)))=false:=by
 rw[dS0];intro hh;rw[bW0]at hh;obtain⟨l,hl,hb⟩:=hh;rw[WX]at hl;obtain⟨t,ht,rfl⟩:=aU0.1 hl;obtain⟨p,hp,rfl⟩:=aN ht;unfold Jg at hb;rw[bW0]at hb;obtain⟨x,hx,hxe⟩:=hb;exact Kx_ h hp hx (by simpa using hxe)
theorem Fh_ {gt:GT} (h:OkgT gt) (s:ByteArray):∀t∈Xz gt s,FU t=true/\(flat t).length<=2048:=fun t ht=>by
 obtain⟨p,hp,rfl⟩:=aN ht;have:=HI_ h hp;exact⟨this.1,this.2.1⟩
theorem Gl_ {gt:GT} (h:OkgT gt) (s:ByteArray):(CB (Xz gt s)).length<=64:=by
 rw[<-Iw,<-WX];have:=Ru (Bd gt) s;have:=h.oc;omega
def Dg (gt:GT):List Auto:=(Ay (Bd gt)).map fun s=>oX (Jl (Bd gt)) (Xz gt s)
theorem KC (gt:GT):(Dg gt).length=(Ay (Bd gt)).length:=by simp[Dg]
theorem IO_ {gt:GT} {i:Nat} {s:ByteArray} (h:(Ay (Bd gt))[i]? =some s):(Dg gt)[i]? =some (oX (Jl (Bd gt)) (Xz gt s)):=by unfold Dg;rw[bK0,h];rfl
def AQ (l:List Auto):Nat:=(l.map fun a=>a.st.toNat).sum
theorem Yw (l:List Auto) (a:Auto):AQ (l++[a])=AQ l+a.st.toNat:=by simp[AQ]
theorem IN_ {gt:GT} (h:OkgT gt):∀a∈Dg gt,IU a=true:=fun a ha=>by
 obtain⟨s,_,rfl⟩:=aU0.1 ha;exact RK_ _ _ _ (Gl_ h s)
theorem Jm : ∀{l:List Auto},(∀a∈l,IU a=true)->AQ l<=65*l.length
 | [],_=>by simp[AQ]
 | a::l,h=>by
  have h1:=Ms (h a aF0);have h2:=Jm (l:=l) fun x hx=>h x (aE0 _ hx)
  have h3:AQ (a::l)=a.st.toNat+AQ l:=by simp[AQ]
  rw[h3,List.length_cons];omega
def Cu : Nat->List Auto->List (Auto×Nat)
 | _,[]=>[]
 | f,a::l=>(a,f)::Cu (f+a.st.toNat) l
theorem Ke (a:Auto):∀(l:List Auto) (f:Nat),Cu f (l++[a])=Cu f l++[(a,f+AQ l)]
 | [],f=>by simp[Cu,AQ]
 | b::l,f=>by
  have h3:AQ (b::l)=b.st.toNat+AQ l:=by simp[AQ]
  rw[List.cons_append,Cu,Cu,Ke a l,h3,dA0];rfl
theorem Iu : ∀(l:List Auto) (f:Nat),(Cu f l).length=l.length
 | [],_=>rfl
 | a::l,f=>by rw[Cu,List.length_cons,List.length_cons,Iu l]
def XB (p:Auto×Nat):List DVal:=[.int .i64 p.1.st,BD p.1.fin,Cz p.1.arcs,.int .i64 (p.2:Int)]
abbrev GU_ (l:List (Auto×Nat)):DVal:= .sl 4 64 (l.map XB)
@[simp] theorem SJ_ (p:Auto×Nat):AV (XB p)=0:=by simp[XB,AV,mx]
@[simp] theorem Ur_ (l:List (Auto×Nat)):BK (l.map XB)=0:=Jb _ SJ_ l
def Eb (H L:List ByteArray) (xs:List Auto):DVal:= .ref [Hf H L,GU_ (Cu 0 xs),.int .i64 (AQ xs)]
end Go.Proofs.Wy
end
section
namespace Go.Proofs.Wy
open Go Go.Dm Tryz
variable [DMode]
attribute [local irreducible] DW Bs Bv
set_option maxRecDepth 100000
def QU : Ann:=⟨[],[⟨4,[7],[],[]⟩]⟩
theorem Yl (g:List Rul) (h:ByteArray) (hl:g.length<=64):Ac prog 35 [Az g,.str h] (CQ (JR g h)):=by
 refine Ab [50] QU func35 call35 ntmps35 mxd (Ap @QU.eq_1 results35) rfl (fun qJ B qX qQ=> ?_);clear qJ;simp only[Ak]
 iterate 6 ((first | refine AI fun K hK=> ?_ | (refine BR QU mxd (by kernel_rfl) ?_;simp[QU,qX];try simp (disch:=omega) only[Ao]) | refine Aw ?_ | (refine Bb ?_ ?_ ?_;(· (simp[qX];done));(try (rotate_left;(· (intro hc;(try simp[qX]at hc);done))))) | (refine AK ?_;simp[results35,qX]) | ((first | refine AD ?_ | refine AC ?_);simp[qX]) | (intro hc;(try simp[qX]at hc);(try (exfalso;omega))) | (refine⟨?_,?_⟩; · omega) | omega | apply_assumption -exfalso -symm | (exfalso;omega)))
 refine Bk 5 50 153 1 24 (by simp[qX,results35,QU]) (fun n=> ?_)
 (refine Au Aa Aa Aa ?_;intros;refine Ae ?_)
 refine Af (X:={k:Nat//k<=g.length}) (fun k=>⟨[(1,.str h),(5,.osl 50 1),(8,Az g),(9,.int .i64 g.length),(10,.int .i64 k.1)],[⟨50,1,.row 153 1 24 ((JR (g.take k.1) h).map FH)⟩]⟩) (fun k=>g.length-k.1) ⟨0,by omega⟩ (Sub.lit (by simp[JR])) ?_;rintro⟨k,hk⟩;simp only
 by_cases qV:k<g.length
 ·obtain⟨r,hr,qC,bP⟩:=Ai qV;have e1:=SV r.b;have jW:=BV_ (g.take k) r h;rw[<-Bx hr]at jW;have kM:=oW (g.take k) h;rw[aT0]at kM;obtain⟨T,hT⟩:∃T,T=JR (g.take k) h:=⟨_,rfl⟩;rw[<-hT]at jW kM |-;have hb:(T.length+1)*24<=150000000000000:=by omega
  have zC:IntKind.i64.wrap ((k:Int)+1)=(k:Int)+1:=wq
  by_cases hh:r.h=h
  ·rw[if_pos hh]at jW;have vM:(JR (g.take (k+1)) h).map FH=T.map FH++[[Bl r.b]]:=by rw[jW,aX0];rfl
   (refine Au (Aq e1) Aa (Ez @Co.eq_1 qV hr qC hh hb zC) ?_;intros;refine Ae ?_)
   refine Ag.mk ⟨k+1,by omega⟩ (Sub.lit (by simp[vM])) (by simp;omega)
   skip
  ·rw[if_neg hh,bM0]at jW;have tV:(r.h==h)=false:=by simpa using hh
   (refine Au Aa Aa (Ez @Co.eq_1 qV hr qC hh tV zC) ?_;intros;refine Ae ?_)
   refine Ag.mk ⟨k+1,by omega⟩ (Sub.lit (by simp[jW])) (by simp;omega)
   skip
 ·have qY:k=g.length:=by omega
  subst qY;rw[aN0];exact Al Aa Aa Aa
def QT : Ann:=⟨[],[]⟩
theorem Vd (g:List Rul) (h:ByteArray) (hl:g.length<=64):Ac prog 55 [Az g,.str h] (CQ (JR g h)):=by
 refine Ab [50] QT func55 call55 ntmps55 mxd (Ap @QT.eq_1 results55) rfl (fun qJ B qX qQ=> ?_);clear qJ;simp only[Ak]
 iterate 6 ((first | refine AI fun K hK=> ?_ | (refine BR QT mxd (by kernel_rfl) ?_;simp[QT,qX];try simp (disch:=omega) only[Ao]) | refine Aw ?_ | (refine Bb ?_ ?_ ?_;(· (simp[qX];done));(try (rotate_left;(· (intro hc;(try simp[qX]at hc);done))))) | (refine AK ?_;simp[results55,qX]) | ((first | refine AD ?_ | refine AC ?_);simp[qX]) | (intro hc;(try simp[qX]at hc);(try (exfalso;omega))) | (refine⟨?_,?_⟩; · omega) | omega | apply_assumption -exfalso -symm | (exfalso;omega)))
 refine Bk 5 50 153 1 24 (by simp[qX,results55,QT]) (fun n=> ?_)
 (refine Au Aa Aa Aa ?_;intros;refine Ae ?_)
 refine Af (X:={k:Nat//k<=g.length}) (fun k=>⟨[(0,Az g),(1,.str h),(5,.osl 50 1),(6,.int .i64 k.1)],[⟨50,1,.row 153 1 24 ((JR (g.take k.1) h).map FH)⟩]⟩) (fun k=>g.length-k.1) ⟨0,by omega⟩ (Sub.lit (by simp[JR])) ?_;rintro⟨k,hk⟩;simp only
 by_cases qV:k<g.length
 ·obtain⟨r,hr,qC,bP⟩:=Ai qV;have jW:=BV_ (g.take k) r h;rw[<-Bx hr]at jW;have kM:=oW (g.take k) h;rw[aT0]at kM;obtain⟨T,hT⟩:∃T,T=JR (g.take k) h:=⟨_,rfl⟩;rw[<-hT]at jW kM |-;have hb:(T.length+1)*24<=150000000000000:=by omega
  have zC:IntKind.i64.wrap ((k:Int)+1)=(k:Int)+1:=wq
  by_cases hh:r.h=h
  ·rw[if_pos hh]at jW;have vM:(JR (g.take (k+1)) h).map FH=T.map FH++[[Bl r.b]]:=by rw[jW,aX0];rfl
   (refine Au Aa Aa (Ez @Co.eq_1 qV hr qC hh hb zC) ?_;intros;refine Ae ?_)
   refine Ag.mk ⟨k+1,by omega⟩ (Sub.lit (by simp[vM])) (by simp;omega)
   skip
  ·rw[if_neg hh,bM0]at jW;have tV:(r.h==h)=false:=by simpa using hh
   (refine Au Aa Aa (Ez @Co.eq_1 qV hr qC hh tV zC) ?_;intros;refine Ae ?_)
   refine Ag.mk ⟨k+1,by omega⟩ (Sub.lit (by simp[jW])) (by simp;omega)
   skip
 ·have qY:k=g.length:=by omega
  subst qY;rw[aN0];exact Al Aa Aa Aa
end Go.Proofs.Wy
end
section
namespace Go.Proofs.Wy
open Go Go.Dm Tryz
attribute [local irreducible] DW Bs Bv
set_option maxRecDepth 100000
theorem Zu : ∀{ls:List (List Nd)},(∀l∈ls,LN l=0)->JO ls=0
 | [],_=>rfl
 | l::ls,h=>by
  unfold JO;rw[if_pos (h l aF0)];exact Zu fun x hx=>h x (aE0 _ hx)
theorem PO_ {gt:GT} (h:OkgT gt) {p:ByteArray×RT} (hp:p∈gt):LN (flat p.2)=0:=by
 obtain⟨h1,h2,h3⟩:=HI_ h hp;obtain⟨t,ht,he,hc⟩:=RL_ h2 (Gw h1);have:=(Wc p.2 t [] [] h1 ht (by rw[he])).1;rw[hc,<-this];exact h3
theorem IE_ {gt:GT} (h:OkgT gt) (s:ByteArray):JO (JR (Bd gt) s)=0:=Zu fun l hl=>by
 rw[WX]at hl;obtain⟨t,ht,rfl⟩:=aU0.1 hl;obtain⟨p,hp,rfl⟩:=aN ht;exact PO_ h hp
theorem Ig_ {gt:GT} (h:OkgT gt) (s:ByteArray):CJ (JR (Bd gt) s)<=64:=by
 have:=Ru (Bd gt) s;have:=h.oc;omega
theorem MR_ {gt:GT} (h:OkgT gt) (s:ByteArray):JC (Ay (Bd gt)) (AE (Bd gt)) (JR (Bd gt) s)=0:=by
 unfold JC;have:=Ig_ h s;rw[if_pos (IE_ h s),if_neg (by rw[BZ_ h s];simp),if_neg (by omega)]
theorem VT {gt:GT} (h:OkgT gt):(Ay (Bd gt)).length≠0:=by
 intro h0
 cases gt with
 | nil=>have:=h.one;simp at this
 | cons p gt =>
  have h1:p.1∈Ay (Bd (p::gt)):=VU.2 ⟨⟨p.1,flat p.2⟩,aF0,rfl⟩;rw[fN0.1 h0]at h1;simp at h1
theorem Ne_ {gt:GT} (h:OkgT gt) (s:ByteArray):∀ts',JR (Bd gt) s=ts'.map flat->(∀t∈ts',FU t=true/\(flat t).length<=2048)->ts'=Xz gt s:=fun ts' h1 h2=>Ys ts' (Xz gt s) (fun t ht=>(h2 t ht).1) (fun t ht=>(Fh_ h s t ht).1) (by rw[<-h1,WX])
theorem PN_ {gt:GT} (h:OkgT gt) (s:ByteArray):Ac prog 34 [Hf (Ay (Bd gt)) (AE (Bd gt)),CQ (JR (Bd gt) s)] (.tup [.agg (Hi (oX (Jl (Bd gt)) (Xz gt s))),.int .i64 0]):=by
 have h1:=IE_ h s;have h2:=BZ_ h s;have h3:=Ig_ h s;have e5:=Lc_ (Ay (Bd gt)) (AE (Bd gt)) (JR (Bd gt) s) (.tup [Hf_ (Ay (Bd gt)) (AE (Bd gt)) (Xz gt s),.int .i64 0]) (VT h) ⟨fun hh=>absurd h1 hh,fun _ hh=>by rw[h2]at hh;simp at hh,fun _ _ hh=>by omega,fun _ ts' h4 h5 _ _=>by rw[Ne_ h s ts' h4 h5]⟩ (by simp[Hf_,ZI,mx,AV]);rw[IL_]at e5;exact e5
theorem NH_ {gt:GT} (h:OkgT gt) (hs:Fl (Bd gt)) (s:ByteArray):Ac prog 54 [Az (Bd gt),CQ (JR (Bd gt) s)] (.tup [.agg (Hi (oX (Jl (Bd gt)) (Xz gt s))),.int .i64 0]):=by
 have gL:=oW (Bd gt) s;have hgl:=FV gt;have vS:=h.le;have bY:=Fc (k:=3) hs;have e6:=Fz_ (Bd gt) (JR (Bd gt) s) (.tup [KJ_ (Bd gt) (Xz gt s),.int .i64 0]) (by omega) (by simp[KJ_,ZI,mx,AV]) (fun hh=>absurd (MR_ h s) hh) (fun ts' h4 h5 _ _=>by rw[Ne_ h s ts' h4 h5]);rw[<-Tb_ (Bd gt) (Xz gt s) fun t ht=>(Fh_ h s t ht).1,IL_]at e6;exact e6
def Jy_ : Ann:=⟨[21],[⟨8,[9],[],[]⟩,⟨11,[],[0],[]⟩]⟩
theorem Gd_ (gt:GT) (h:OkgT gt) (hs:Fl (Bd gt)) (bW:Ac prog 76 [Az (Bd gt)] (.int .i64 0)):Ac prog 10 [Az (Bd gt)] (.tup [Eb (Ay (Bd gt)) (AE (Bd gt)) (Dg gt),.int .i64 0]):=by
 refine Ab [52,21] Jy_ func10 call10 ntmps10 mxd (Ap @Jy_.eq_1 results10) rfl (fun qJ B qX qQ=> ?_) (hd:=(by simp[mx,Eb,AV,Hf]));clear qJ;simp only[Ak];have hgl:=FV gt;have vS:=h.le;have bY:=Fc (k:=3) hs;have pX:=h.hd;have sT:=h.lb;have e1:=If_ (Bd gt) (by omega) (by omega) (by omega) bW;have e2:=Lc (Ay (Bd gt)) (AE (Bd gt));have jP:=KC gt;have haok:=IN_ h;obtain⟨R,hR⟩:∃R,R=Eb (Ay (Bd gt)) (AE (Bd gt)) (Dg gt):=⟨_,rfl⟩
 rw[<-hR];have sL:∀i s,(Ay (Bd gt))[i]? =some s->_:=fun i s hi=>IO_ (gt:=gt) hi
 have qE:∀s,_:=fun s=>Yl (Bd gt) s (by omega)
 have qP:∀s,_:=fun s=>PN_ h s
 obtain⟨A,hA⟩:∃A,A=Dg gt:=⟨_,rfl⟩;rw[<-hA]at hR jP haok sL;obtain⟨H,hH⟩:∃H,H=Ay (Bd gt):=⟨_,rfl⟩;rw[<-hH]at e1 e2 hR jP pX sL qP;obtain⟨L,hL⟩:∃L,L=AE (Bd gt):=⟨_,rfl⟩;rw[<-hL]at e1 e2 hR qP;obtain⟨g,hg⟩:∃g,g=Bd gt:=⟨_,rfl⟩;rw[<-hg]at e1 qE qP sL |-;clear hH hL bW bY sT hs hA
 (refine Au (Ap e1 e2) Aa Aa ?_;intros;refine Ae ?_)
 refine BT 21 1 52 86 4 64 (by simp) (fun n1=> ?_);refine Af (X:={i:Nat//i<=H.length}) (fun i=>⟨[(0,Az g),(4,Hf H L),(6,.bx 21 1 0),(23,AJ H),(24,.int .i64 H.length),(25,.int .i64 i.1)],[⟨21,1,.box [Hf H L,.osl 52 1,.int .i64 (AQ (A.take i.1))]⟩,⟨52,1,.row 86 4 64 ((Cu 0 (A.take i.1)).map XB)⟩]⟩) (fun i=>H.length-i.1) ⟨0,by simp⟩ (Sub.lit (by simp[AQ,Cu,Hf])) ?_;rintro⟨i,hi⟩;simp only
 by_cases qV:i<H.length
 ·obtain⟨s,hx,qU,wA⟩:=Ai qV;have tM:=sL i s hx;obtain⟨a,ha⟩:∃a,a=oX (Jl g) (Xz gt s):=⟨_,rfl⟩;have e3:=qE s;have e4:=qP s;rw[<-ha]at tM e4;have qD:=Ms (haok a (bI0 tM));have jW:=Ke a (A.take i) 0;have jX:=Yw (A.take i) a;rw[<-Bx tM]at jW jX;have yJ:=Iu (A.take i) 0;have hsl:=Jm (l:=A.take i) fun x hx=>haok x (cK0 hx)
  rw[aT0]at yJ hsl;rw[bX0]at jW;obtain⟨T,hT⟩:∃T,T=Cu 0 (A.take i):=⟨_,rfl⟩;obtain⟨S,hS⟩:∃S,S=AQ (A.take i):=⟨_,rfl⟩;rw[<-hT]at jW yJ |-;rw[<-hS]at jW jX hsl |-;have zH:(Cu 0 (A.take (i+1))).map XB=T.map XB++[[.int .i64 a.st,BD a.fin,Cz a.arcs,.int .i64 (S:Int)]]:=by rw[jW,aX0];rfl
  have hb:(T.length+1)*64<=150000000000000:=by omega
  have zC:IntKind.i64.wrap ((i:Int)+1)=(i:Int)+1:=wq;have hws:IntKind.i64.wrap ((S:Int)+a.st)=(AQ (A.take (i+1)):Int):=by rw[wq,jX];omega
  simp only[Hi]at e4
  (refine Au (Ap e3 e4) Aa (Ji @AG.eq_1 @Hi.eq_1 qV hx qU hb zC hws) ?_;intros;refine Ae ?_)
  refine Ag.mk ⟨i+1,by omega⟩ (Sub.lit (by simp[zH,Hf])) (by simp;omega)
  skip
 ·have qY:i=H.length:=by omega
  subst qY;have hAt:A.take H.length=A:=cL0 (by omega);rw[hAt];unfold Eb at hR
  (refine Au Aa Aa Aa ?_;intros;refine Ae ?_)
  exact hR.symm
def JE (l:List Auto):List Nat:=(Cu 0 l).map (·.2)
def Rv (l:List Auto):List Nat:=l.zipIdx.flatMap fun p=>List.replicate p.1.st.toNat p.2
def lD (f:Nat) (x:Arc):Arc:=⟨(f:Int)+x.fr,x.sy,(f:Int)+x.to⟩
def mvF (f:Nat) (q:Int):Int:=(f:Int)+q
def GH (l:List Auto):List Int:=(Cu 0 l).flatMap fun p=>p.1.fin.map (mvF p.2)
def Gn (l:List Auto):List Arc:=(Cu 0 l).flatMap fun p=>p.1.arcs.map (lD p.2)
theorem Nw_ (l:List Auto) (a:Auto):JE (l++[a])=JE l++[AQ l]:=by unfold JE;rw[Ke,aX0];simp
theorem Oi_ (l:List Auto) (a:Auto):Rv (l++[a])=Rv l++List.replicate a.st.toNat l.length:=by unfold Rv;rw[List.zipIdx_append,dT0];simp
theorem LV_ (l:List Auto) (a:Auto):GH (l++[a])=GH l++a.fin.map (mvF (AQ l)):=by unfold GH;rw[Ke,dT0];simp
theorem Mw_ (l:List Auto) (a:Auto):Gn (l++[a])=Gn l++a.arcs.map (lD (AQ l)):=by unfold Gn;rw[Ke,dT0];simp
theorem TH (l:List Auto):(JE l).length=l.length:=by unfold JE;rw[aJ0,Iu]
theorem PL (l:List Auto):(Rv l).length=AQ l:=by
 unfold Rv AQ;rw[List.length_flatMap];simp only[dG0]
 congr 1
 refine List.ext_getElem (by simp) fun i h1 h2=> ?_
 simp
theorem Bu_ : ∀(ts:List RT) (ah:Nat),(He ah ts).length<=(CB ts).length
 | [],_=>by simp[He]
 | t::ts,ah=>by
  have h1:(CB (t::ts)).length=(Dh (flat t)).length+(CB ts).length:=by simp[CB]
  have h2:=Bu_ ts (ah+(Dh (flat t)).length);have h3:((HX (flat t) (flat t).length).filter (Qi t 0)).length<=(HX (flat t) (flat t).length).length:=cG0 _ _;rw[Nr (Nat.le_refl _),Jp]at h3;rw[He,aC0,aJ0];omega
theorem LQ_ (ts:List RT):(Jx ts).length<=(CB ts).length+1:=by
 have:=Bu_ ts 0;unfold Jx;rw[aC0,aJ0]
 split
 ·simp;omega
 ·simp;omega
structure SmA (a:Auto):Prop where
 ok:IU a=true
 fi:a.fin.length<=65
 ar:a.arcs.length<=1073741888
theorem Qy {gt:GT} (h:OkgT gt):∀a∈Dg gt,SmA a:=fun a ha=>by
 have qL:=IN_ h a ha;obtain⟨s,_,rfl⟩:=aU0.1 ha;refine⟨qL,?_,Mt_ _ _ (fun t ht=>(Fh_ h s t ht).2) (Gl_ h s)⟩;have h1:=LQ_ (Xz gt s);have h2:=Gl_ h s
 show (Jx (Xz gt s)).length<=65
 omega
theorem MP : ∀{l:List Auto},(∀a∈l,SmA a)->∀f,((Cu f l).flatMap fun p=>p.1.fin.map (mvF p.2)).length<=65*l.length
 | [],_,_=>by simp[Cu]
 | a::l,h,f=>by
  have h1:=(h a aF0).fi;have h2:=MP (l:=l) (fun x hx=>h x (aE0 _ hx)) (f+a.st.toNat);rw[Cu,cS0,aC0,aJ0,List.length_cons];simp only;omega
theorem Nb : ∀{l:List Auto},(∀a∈l,SmA a)->∀f,((Cu f l).flatMap fun p=>p.1.arcs.map (lD p.2)).length<=1073741888*l.length
 | [],_,_=>by simp[Cu]
 | a::l,h,f=>by
  have h1:=(h a aF0).ar;have h2:=Nb (l:=l) (fun x hx=>h x (aE0 _ hx)) (f+a.st.toNat);rw[Cu,cS0,aC0,aJ0,List.length_cons];simp only;omega
abbrev Wu (l:List Auto):DVal:= .sl 3 56 (l.map Hi)
def XM (l:List Auto):DVal:= .agg [.int .i64 (AQ l),Cl (JE l),Cl (Rv l),BD (GH l),Cz (Gn l),Wu l]
@[simp] theorem Ti_ (l:List Auto):BK (l.map Hi)=0:=Jb _ Ot_ l
theorem Re_ (j i:Nat):BK (List.replicate j (Bg i))=0:=by
 have:=Jb Bg (by intro x;simp[Bg,AV,mx]) (List.replicate j i)
 rwa[List.map_replicate]at this
theorem Ue_ {a b n:Nat} (h1:a<=17179870208) (h2:b<n) (h3:n<=1073741888):(a+b+1)*32<=150000000000000:=by omega
theorem MT_ {j n:Nat} (h1:j<n) (h2:n<=1073741888):IntKind.i64.wrap ((j:Int)+1)=(j:Int)+1:=wq
theorem MS_ {S:Nat} {y st:Int} (h1:S<=1040) (h2:0<=y) (h3:y<st) (h4:st<=65):IntKind.i64.wrap ((S:Int)+y)=(S:Int)+y:=wq
theorem JK {α β:Type} {l:List α} {i:Nat} {x:α} (f:α->β) (h:l[i]? =some x):(l.take (i+1)).map f=(l.take i).map f++[f x]:=by rw[bD0,h,aX0];rfl
def Jx_ : Ann:=⟨[],[⟨6,[6],[],[]⟩,⟨21,[12],[],[]⟩]⟩
theorem xP (gt:GT) (h:OkgT gt) (hs:Fl (Bd gt)):Ac prog 16 [Az (Bd gt)] (XM (Dg gt)):=by
 refine Ab [201,202,203,204,205,3,2] Jx_ func16 call16 ntmps16 mxd (Ap @Jx_.eq_1 results16) rfl (fun qJ B qX qQ=> ?_) (hd:=(by simp[mx,XM,AV]));clear qJ;simp only[Ak];have hgl:=FV gt;have vS:=h.le;have pX:=h.hd;have e1:=Eg (Bd gt);have jP:=KC gt;have vW:=Qy h;obtain⟨R,hR⟩:∃R,R=XM (Dg gt):=⟨_,rfl⟩;rw[<-hR];have sL:∀i s,(Ay (Bd gt))[i]? =some s->_:=fun i s hi=>IO_ (gt:=gt) hi
 have qE:∀s,_:=fun s=>Vd (Bd gt) s (by omega)
 have qP:∀s,_:=fun s=>NH_ h hs s
 obtain⟨A,hA⟩:∃A,A=Dg gt:=⟨_,rfl⟩;rw[<-hA]at hR jP vW sL;obtain⟨H,hH⟩:∃H,H=Ay (Bd gt):=⟨_,rfl⟩;rw[<-hH]at e1 jP pX sL;obtain⟨g,hg⟩:∃g,g=Bd gt:=⟨_,rfl⟩;rw[<-hg]at e1 qE qP sL |-;clear hH hs hA
 (refine Au (Aq e1) Aa Aa ?_;intros;refine Ae ?_)
 refine BT 3 1 201 3 1 8 (by simp) (fun n1=> ?_);refine BT 3 2 202 3 1 8 (by simp) (fun n2=> ?_);refine BT 3 3 203 3 1 8 (by simp) (fun n3=> ?_);refine BT 3 4 204 97 4 32 (by simp) (fun n4=> ?_);refine BT 3 5 205 80 3 56 (by simp) (fun n5=> ?_)
 refine Af (X:={i:Nat//i<=H.length}) (fun i=>⟨[(0,Az g),(2,.bx 2 1 0),(3,.bx 3 1 0),(4,AJ H),(5,.int .i64 i.1)],
  [⟨2,1,.box [.int .i64 0,.nilsl,.nilsl,.nilsl,.nilsl,.nilsl]⟩,⟨3,1,.box [.int .i64 (AQ (A.take i.1)),.osl 201 1,.osl 202 1,.osl 203 1,.osl 204 1,.osl 205 1]⟩,
   ⟨201,1,.row 3 1 8 ((JE (A.take i.1)).map Bg)⟩,⟨202,1,.row 3 1 8 ((Rv (A.take i.1)).map Bg)⟩,⟨203,1,.row 3 1 8 ((GH (A.take i.1)).map Du)⟩,⟨204,1,.row 97 4 32 ((Gn (A.take i.1)).map Bm)⟩,⟨205,1,.row 80 3 56 ((A.take i.1).map Hi)⟩]⟩) (fun i=>H.length-i.1) ⟨0,by simp⟩ (Sub.lit (by simp[AQ,JE,Rv,GH,Gn,Cu])) ?_
 rintro⟨i,hi⟩;simp only
 by_cases qV:i<H.length
 ·obtain⟨s,hx,qU,wA⟩:=Ai qV;have tM:=sL i s hx;obtain⟨a,ha⟩:∃a,a=oX (Jl g) (Xz gt s):=⟨_,rfl⟩;have e3:=qE s;have e4:=qP s;rw[<-ha]at tM e4;have hsa:=vW a (bI0 tM);have qD:=Ms hsa.ok;have jX:=Yw (A.take i) a;have fZ:=Nw_ (A.take i) a;have vM:=Oi_ (A.take i) a;have hs3:=LV_ (A.take i) a;have hs4:=Mw_ (A.take i) a;rw[<-Bx tM]at jX fZ vM hs3 hs4;have hs5:List.take (i+1) (List.map Hi A)=(A.take i).map Hi++[[.int .i64 a.st,BD a.fin,Cz a.arcs]]:=by rw[<-eM0,JK Hi tM];rfl
  have hmt:∀x∈A.take i,SmA x:=fun x hx=>vW x (cK0 hx)
  have hsl:=Jm (l:=A.take i) fun x hx=>(hmt x hx).ok
  have zD:=TH (A.take i);have wS:=PL (A.take i);have kZ:=MP hmt 0;have hl4:=Nb hmt 0;have hl5:(A.take i).length=i:=by rw[aT0];omega
  rw[hl5]at hsl zD kZ hl4 vM;have hi16:i<=16:=by omega
  have hl3':(GH (A.take i)).length<=1040:=Nat.le_trans (show _<=65*i from kZ) (bY0 65 hi16);have hl4':(Gn (A.take i)).length<=17179870208:=Nat.le_trans (show _<=1073741888*i from hl4) (bY0 1073741888 hi16);have hsl':AQ (A.take i)<=1040:=Nat.le_trans hsl (bY0 65 hi16);clear kZ hl4 hsl;obtain⟨S,hS⟩:∃S,S=AQ (A.take i):=⟨_,rfl⟩;rw[<-hS]at jX hsl' fZ hs3 hs4 wS |-;obtain⟨T1,rZ⟩:∃T,T=JE (A.take i):=⟨_,rfl⟩;obtain⟨T2,hT2⟩:∃T,T=Rv (A.take i):=⟨_,rfl⟩
  obtain⟨T3,hT3⟩:∃T,T=GH (A.take i):=⟨_,rfl⟩;obtain⟨T4,hT4⟩:∃T,T=Gn (A.take i):=⟨_,rfl⟩;obtain⟨T5,hT5⟩:∃T,T=A.take i:=⟨_,rfl⟩;rw[<-rZ]at fZ zD |-;rw[<-hT2]at vM wS |-;rw[<-hT3]at hs3 hl3' |-;rw[<-hT4]at hs4 hl4' |-;rw[<-hT5]at hs5 hl5 |-;clear rZ hT2 hT3 hT4 hT5 hmt hS;have wG:=congrArg (List.map Bg) fZ;have wH:=congrArg (List.map Bg) vM;have kE:=congrArg (List.map Du) hs3;have hq4:=congrArg (List.map Bm) hs4
  rw[aX0]at wG wH kE hq4;have hb1':(T1.length+1)*8<=150000000000000:=by omega
  have hb5':(T5.length+1)*56<=150000000000000:=by omega
  have zC:IntKind.i64.wrap ((i:Int)+1)=(i:Int)+1:=wq;simp only[Hi]at e4
  (refine Au (Ap e3 e4) Aa (Ez @AG.eq_1 @Hi.eq_1 qV hx qU hb1' hb5') ?_;intros;refine Ae ?_)
  refine Af (X:={j:Nat//j<=a.st.toNat}) (fun j=>⟨[(0,Az g),(2,.bx 2 1 0),(3,.bx 3 1 0),(4,AJ H),(5,.int .i64 i),(6,.ref [.int .i64 a.st,BD a.fin,Cz a.arcs]),(8,.int .i64 (S:Int)),(9,.int .i64 j.1)],
    [⟨2,1,.box [.int .i64 0,.nilsl,.nilsl,.nilsl,.nilsl,.nilsl]⟩,⟨3,1,.box [.int .i64 (S:Int),.osl 201 1,.osl 202 1,.osl 203 1,.osl 204 1,.osl 205 1]⟩,
     ⟨201,1,.row 3 1 8 (T1.map Bg++[[.int .i64 (S:Int)]])⟩,⟨202,1,.row 3 1 8 (T2.map Bg++List.replicate j.1 (Bg i))⟩,⟨203,1,.row 3 1 8 (T3.map Du)⟩,⟨204,1,.row 97 4 32 (T4.map Bm)⟩,⟨205,1,.row 80 3 56 (T5.map Hi++[[.int .i64 a.st,BD a.fin,Cz a.arcs]])⟩]⟩) (fun j=>a.st.toNat-j.1) ⟨0,by simp⟩ (Sub.lit (by simp)) ?_
  rintro⟨j,hj⟩;simp only
  by_cases qW:j<a.st.toNat
  · have mD:List.replicate (j+1) (Bg i)=List.replicate j (Bg i)++[[.int .i64 (i:Int)]]:=by rw[List.replicate_succ'];rfl
    have hZm:=Re_ j i;have tX:(j:Int)<a.st:=by omega
    have bR:(List.replicate j (Bg i)).length=j:=by simp
    obtain⟨Z,hZ⟩:∃Z,Z=List.replicate j (Bg i):=⟨_,rfl⟩;rw[<-hZ]at mD bR hZm |-;have pM:(T2.length+Z.length+1)*8<=150000000000000:=by omega
    have rG:IntKind.i64.wrap ((j:Int)+1)=(j:Int)+1:=wq
    (refine Au Aa Aa (BC tX pM rG) ?_;intros;refine Ae ?_)
    refine Ag.mk ⟨j+1,by omega⟩ (Sub.lit (by simp[mD,hZm])) (by simp;omega)
    skip
  · have qY:j=a.st.toNat:=by omega
    subst qY;have tX:¬((a.st.toNat:Nat):Int)<a.st:=by omega
    (refine Au Aa Aa (Aq tX) ?_;intros;refine Ae ?_)
    rw[List.map_replicate]at wH;obtain⟨FA,hFA⟩:∃FA,FA=a.fin.map (mvF S):=⟨_,rfl⟩;obtain⟨AR,hAR⟩:∃AR,AR=a.arcs.map (lD S):=⟨_,rfl⟩;have hFl:FA.length=a.fin.length:=by rw[hFA,aJ0]
    have hAl:AR.length=a.arcs.length:=by rw[hAR,aJ0]
    rw[<-hFA]at kE;rw[<-hAR]at hq4;obtain⟨U1,hU1⟩:∃U,U=T1.map Bg++[[.int .i64 (S:Int)]]:=⟨_,rfl⟩;have dQ:BK U1=0:=by rw[hU1];simp[BK,AV,mx]
    obtain⟨U2,hU2⟩:∃U,U=T2.map Bg++List.replicate a.st.toNat (Bg i):=⟨_,rfl⟩;have bO:BK U2=0:=by rw[hU2,<-List.map_replicate,<-aX0];exact Jb Bg (by intro x;simp[Bg,AV,mx]) _
    obtain⟨U5,hU5⟩:∃U,U=T5.map Hi++[[.int .i64 a.st,BD a.fin,Cz a.arcs]]:=⟨_,rfl⟩;have hm5:BK U5=0:=by rw[hU5,<-hs5];rw[<-eM0];simp
    have dH:List.map Bg (JE (List.take (i+1) A))=U1:=by rw[hU1,wG];rfl
    rw[<-hU2]at wH;rw[<-hU5]at hs5;rw[<-hU1,<-hU2,<-hU5]
    refine Af (X:={j:Nat//j<=a.fin.length}) (fun j=>⟨[(0,Az g),(2,.bx 2 1 0),(3,.bx 3 1 0),(4,AJ H),(5,.int .i64 i),(6,.ref [.int .i64 a.st,BD a.fin,Cz a.arcs]),(8,.int .i64 (S:Int)),(10,.int .i64 j.1)],
      [⟨2,1,.box [.int .i64 0,.nilsl,.nilsl,.nilsl,.nilsl,.nilsl]⟩,⟨3,1,.box [.int .i64 (S:Int),.osl 201 1,.osl 202 1,.osl 203 1,.osl 204 1,.osl 205 1]⟩,
       ⟨201,1,.row 3 1 8 U1⟩,⟨202,1,.row 3 1 8 U2⟩,⟨203,1,.row 3 1 8 (T3.map Du++(FA.take j.1).map Du)⟩,⟨204,1,.row 97 4 32 (T4.map Bm)⟩,⟨205,1,.row 80 3 56 U5⟩]⟩) (fun j=>a.fin.length-j.1) ⟨0,by simp⟩ (Sub.lit (by simp[dQ,bO,hm5])) ?_
    rintro⟨j,hj⟩;simp only
    by_cases yV:j<a.fin.length
    · obtain⟨q,hq,vV,jJ⟩:=Ai yV
      have hqk:=FV_ hsa.ok jJ;have hFj:FA[j]? =some ((S:Int)+q):=by rw[hFA,bK0,hq];rfl
      have mD:List.take (j+1) (List.map Du FA)=(FA.take j).map Du++[[.int .i64 ((S:Int)+q)]]:=by rw[<-eM0,JK Du hFj];rfl
      have bR:(FA.take j).length=j:=by rw[aT0];omega
      obtain⟨Z,hZ⟩:∃Z,Z=FA.take j:=⟨_,rfl⟩;rw[<-hZ]at mD bR |-;have hfi:=hsa.fi;have pM:(T3.length+Z.length+1)*8<=150000000000000:=by omega
      have rG:IntKind.i64.wrap ((j:Int)+1)=(j:Int)+1:=wq;have bH:IntKind.i64.wrap ((S:Int)+q)=(S:Int)+q:=wq
      (refine Au Aa Aa (Ez @Du.eq_1 yV hq vV pM rG bH) ?_;intros;refine Ae ?_)
      refine Ag.mk ⟨j+1,by omega⟩ (Sub.lit (by simp[mD,dQ,bO,hm5])) (by simp;omega)
      skip
    · have qY:j=a.fin.length:=by omega
      subst qY;rw[show List.take a.fin.length FA=FA from cL0 (by omega),<-kE]
      (refine Au Aa Aa Aa ?_;intros;refine Ae ?_)
      refine Af (X:={j:Nat//j<=a.arcs.length}) (fun j=>⟨[(0,Az g),(2,.bx 2 1 0),(3,.bx 3 1 0),(4,AJ H),(5,.int .i64 i),(6,.ref [.int .i64 a.st,BD a.fin,Cz a.arcs]),(8,.int .i64 (S:Int)),(11,.int .i64 j.1)],
        [⟨2,1,.box [.int .i64 0,.nilsl,.nilsl,.nilsl,.nilsl,.nilsl]⟩,⟨3,1,.box [.int .i64 (S:Int),.osl 201 1,.osl 202 1,.osl 203 1,.osl 204 1,.osl 205 1]⟩,
         ⟨201,1,.row 3 1 8 U1⟩,⟨202,1,.row 3 1 8 U2⟩,⟨203,1,.row 3 1 8 ((GH (A.take (i+1))).map Du)⟩,⟨204,1,.row 97 4 32 (T4.map Bm++(AR.take j.1).map Bm)⟩,⟨205,1,.row 80 3 56 U5⟩]⟩) (fun j=>a.arcs.length-j.1) ⟨0,by simp⟩ (Sub.lit (by simp[dQ,bO,hm5])) ?_
      rintro⟨j,hj⟩;simp only
      by_cases sX:j<a.arcs.length
      · obtain⟨x,hx,qU,wA⟩:=Ai sX
        have gF:=FW_ hsa.ok wA;have hAj:AR[j]? =some (lD S x):=by rw[hAR,bK0,hx];rfl
        have mD:List.take (j+1) (List.map Bm AR)=(AR.take j).map Bm++[[.int .i64 ((S:Int)+x.fr),.bool x.sy.label,.int .i64 x.sy.n,.int .i64 ((S:Int)+x.to)]]:=by rw[<-eM0,JK Bm hAj];rfl
        have bR:(AR.take j).length=j:=by rw[aT0];omega
        obtain⟨Z,hZ⟩:∃Z,Z=AR.take j:=⟨_,rfl⟩;rw[<-hZ]at mD bR |-;have har:=hsa.ar;have pM:(T4.length+Z.length+1)*32<=150000000000000:=Ue_ hl4' (by rw[bR];exact sX) har;have rG:IntKind.i64.wrap ((j:Int)+1)=(j:Int)+1:=MT_ sX har;have bH:IntKind.i64.wrap ((S:Int)+x.fr)=(S:Int)+x.fr:=MS_ hsl' gF.1 gF.2.1 qD.2;have yT:IntKind.i64.wrap ((S:Int)+x.to)=(S:Int)+x.to:=MS_ hsl' gF.2.2.1 gF.2.2.2 qD.2
        (refine Au Aa Aa (Ji @Bm.eq_1 sX hx qU pM rG bH yT) ?_;intros;refine Ae ?_)
        refine Ag.mk ⟨j+1,by omega⟩ (Sub.lit (by simp[mD,dQ,bO,hm5])) (by simp;omega)
        skip
      · have qY:j=a.arcs.length:=by omega
        subst qY;rw[show List.take a.arcs.length AR=AR from cL0 (by omega),<-hq4];have hws:IntKind.i64.wrap ((S:Int)+a.st)=(AQ (A.take (i+1)):Int):=by rw[wq,jX];omega
        (refine Au Aa Aa (Ap hws zC) ?_;intros;refine Ae ?_)
        refine Ag.mk ⟨i+1,by omega⟩ (Sub.lit (by simp[dH,wH,hs5,dQ,bO,hm5])) (by simp;omega)
        skip
 ·have qY:i=H.length:=by omega
  subst qY;have hAt:A.take H.length=A:=cL0 (by omega);rw[hAt];unfold XM at hR
  (refine Au Aa Aa Aa ?_;intros;refine Ae ?_)
  rw[hR];exact aD (.agg [.int .i64 (AQ A),Cl (JE A),Cl (Rv A),BD (GH A),Cz (Gn A),Wu A])
def KO : Ann:=⟨[5],[]⟩
theorem BN_ (l:List Int) (hl:l.length*8<=140737488355328):AS prog (.func 192) [BD l] [] (.osl 0 1) [⟨0,1,.row 3 1 8 (l.map Du)⟩]:=by
 match l,hl with
 | [],_ =>
  refine Xw ?_ ?_
  ·refine Lx ?_;refine Ab [] KO func192 call192 ntmps192 mxd (Ap @KO.eq_1 results192) rfl (fun qJ B qX qQ=> ?_);simp only[Ak];exact Al Aa Aa Aa
  ·refine Bi [] [(5,0,1)] KO func192 call192 ntmps192 mxd (Ap @KO.eq_1 results192) rfl (fun qJ B qX qQ=> ?_);simp only[Ak,List.nil_append];exact Al Aa Aa Aa
 | x::l,hl =>
  refine Bi [] [(5,0,1)] KO func192 call192 ntmps192 mxd (Ap @KO.eq_1 results192) rfl (fun qJ B qX qQ=> ?_);simp only[List.length_cons]at hl;have wS:(l.length+1)*8<=150000000000000:=by omega
  have kZ:l.length<9223372036854775807:=by omega
  simp only[Ak,List.nil_append,List.map_cons,BD,Du];exact Al Aa Aa Aa
def KN : Ann:=⟨[5],[]⟩
theorem BO_ (l:List Arc) (hl:l.length*32<=140737488355328):AS prog (.func 193) [Cz l] [] (.osl 0 1) [⟨0,1,.row 97 4 32 (l.map Bm)⟩]:=by
 match l,hl with
 | [],_ =>
  refine Xw ?_ ?_
  ·refine Lx ?_;refine Ab [] KN func193 call193 ntmps193 mxd (Ap @KN.eq_1 results193) rfl (fun qJ B qX qQ=> ?_);simp only[Ak];exact Al Aa Aa Aa
  ·refine Bi [] [(5,0,1)] KN func193 call193 ntmps193 mxd (Ap @KN.eq_1 results193) rfl (fun qJ B qX qQ=> ?_);simp only[Ak,List.nil_append];exact Al Aa Aa Aa
 | x::l,hl =>
  refine Bi [] [(5,0,1)] KN func193 call193 ntmps193 mxd (Ap @KN.eq_1 results193) rfl (fun qJ B qX qQ=> ?_);simp only[List.length_cons]at hl;have wS:(l.length+1)*32<=150000000000000:=by omega
  have kZ:l.length<9223372036854775807:=by omega
  simp only[Ak,List.nil_append,List.map_cons,Cz,Bm];exact Al Aa Aa Aa
theorem xG {α β:Type} {l:List α} {i:Nat} {x:α} (f:α->β) (g:α->α) (h:l[i]? =some x):(((l.take i).map g++l.drop i).map f).set i (f (g x))=((l.take (i+1)).map g++l.drop (i+1)).map f:=by
 obtain⟨hi,rfl⟩:=aB0.1 h;have h2:((l.take i).map g).length=i:=by rw[aJ0,aT0];omega
 have h3:((l.take i).map g++l.drop i).set i (g l[i])=(l.take (i+1)).map g++l.drop (i+1):=by
  rw[List.set_append,if_neg (by omega),h2,eA0,aP0 hi,eW0,bD0,aD0 hi,aX0,aR0];rfl
 rw[<-dR0,h3]
theorem OA_ {α:Type} {l:List α} {i:Nat} {x:α} (g:α->α) (h:l[i]? =some x):((l.take i).map g++l.drop i)[i]? =some x:=by
 obtain⟨hi,rfl⟩:=aB0.1 h;have h2:((l.take i).map g).length=i:=by rw[aJ0,aT0];omega
 rw[bG0 (by omega),h2,eA0,dB0];simp[hi]
theorem Io_ {α:Type} (l:List α) (i:Nat) (g:α->α) (h:i<=l.length):((l.take i).map g++l.drop i).length=l.length:=by
 rw[aC0,aJ0,aT0,cD0];omega
def XY (f:Nat) (l:List Int) (i:Nat):List Int:=(l.take i).map (mvF f)++l.drop i
def XZ (g:Arc->Arc) (l:List Arc) (i:Nat):List Arc:=(l.take i).map g++l.drop i
def XV (f:Nat) (l:List Int):List Int:=l.map (mvF f)
def XW (f:Nat) (l:List Arc):List Arc:=l.map (lD f)
theorem Ln_ (f:Nat) (l:List Int):XY f l 0=l:=by simp[XY]
theorem OB_ (f:Nat) (l:List Int):XY f l l.length=XV f l:=by simp[XY,XV]
theorem Lo_ (g:Arc->Arc) (l:List Arc):XZ g l 0=l:=by simp[XZ]
theorem OC_ (f:Nat) (l:List Arc):XZ (lD f) l l.length=XW f l:=by simp[XZ,XW]
def DP_ : Ann:=⟨[8],[]⟩
theorem oF (a:Auto) (f:Nat) (h:SmA a) (hf:f<=1040):Ac prog 117 [.agg (XB (a,f))] (BD (XV f a.fin)):=by
 refine Ab [8] DP_ func117 call117 ntmps117 mxd (Ap @DP_.eq_1 results117) rfl (fun qJ B qX qQ=> ?_);clear qJ;simp only[Ak];have hfi:=h.fi;have qD:=Ms h.ok;have e1:=BN_ a.fin (by omega);have z0:=Ln_ f a.fin
 (refine Au Aa (Aq (DF [] [(8,0)] e1)) (Aq @XB.eq_1) ?_;intros;refine Ae ?_)
 refine Af (X:={i:Nat//i<=a.fin.length}) (fun i=>⟨[(1,.ref [.int .i64 a.st,BD a.fin,Cz a.arcs,.int .i64 (f:Int)]),(3,.osl 8 1),(10,.int .i64 a.fin.length),(11,.int .i64 i.1)],[⟨8,1,.row 3 1 8 ((XY f a.fin i.1).map Du)⟩]⟩) (fun i=>a.fin.length-i.1) ⟨0,by simp⟩ (Sub.lit (by simp[z0])) ?_;rintro⟨i,hi⟩;simp only
 by_cases qV:i<a.fin.length
 ·obtain⟨q,hq,vV,jJ⟩:=Ai qV;have hqk:=FV_ h.ok jJ;have s1:((XY f a.fin i).map Du).set i [.int .i64 ((f:Int)+q)]=(XY f a.fin (i+1)).map Du:=xG Du (mvF f) hq;have m1:(XY f a.fin i)[i]? =some q:=OA_ (mvF f) hq;have m2:(XY f a.fin i).length=a.fin.length:=Io_ a.fin i (mvF f) hi;obtain⟨Z,hZ⟩:∃Z,Z=XY f a.fin i:=⟨_,rfl⟩;rw[<-hZ]at s1 m1 m2 |-;have yZ:i<Z.length:=by omega
  have m1':Z[i]'yZ=q:=(aB0.1 m1).2;have vJ:IntKind.i64.wrap ((i:Int)+1)=(i:Int)+1:=wq;have bH:IntKind.i64.wrap (q+(f:Int))=(f:Int)+q:=by rw[wq];omega
  (refine Au Aa Aa (Ji @Du.eq_1 qV m1 m1' yZ vJ bH s1) ?_;intros;refine Ae ?_)
  refine Ag.mk ⟨i+1,by omega⟩ (Sub.lit (by simp)) (by simp;omega)
  skip
 ·have qY:i=a.fin.length:=by omega
  subst qY;rw[OB_];exact Al Aa Aa Aa
def DO_ : Ann:=⟨[8],[]⟩
theorem XU (a:Auto) (f:Nat) (h:SmA a) (hf:f<=1040):Ac prog 119 [.agg (XB (a,f))] (Cz (XW f a.arcs)):=by
 refine Ab [8] DO_ func119 call119 ntmps119 mxd (Ap @DO_.eq_1 results119) rfl (fun qJ B qX qQ=> ?_);clear qJ;simp only[Ak];have har:=h.ar;have qD:=Ms h.ok;have e1:=BO_ a.arcs (by omega);have z0:=Lo_ (lD f) a.arcs
 (refine Au Aa (Aq (DF [] [(8,0)] e1)) (Aq @XB.eq_1) ?_;intros;refine Ae ?_)
 refine Af (X:={i:Nat//i<=a.arcs.length}) (fun i=>⟨[(1,.ref [.int .i64 a.st,BD a.fin,Cz a.arcs,.int .i64 (f:Int)]),(3,.osl 8 1),(10,.int .i64 a.arcs.length),(11,.int .i64 i.1)],[⟨8,1,.row 97 4 32 ((XZ (lD f) a.arcs i.1).map Bm)⟩]⟩) (fun i=>a.arcs.length-i.1) ⟨0,by simp⟩ (Sub.lit (by simp[z0])) ?_;rintro⟨i,hi⟩;simp only
 by_cases qV:i<a.arcs.length
 ·obtain⟨x,hx,qU,wA⟩:=Ai qV;have gF:=FW_ h.ok wA;have s1:((XZ (lD f) a.arcs i).map Bm).set i [.int .i64 ((f:Int)+x.fr),.bool x.sy.label,.int .i64 x.sy.n,.int .i64 ((f:Int)+x.to)]=(XZ (lD f) a.arcs (i+1)).map Bm:=xG Bm (lD f) hx;have m1:(XZ (lD f) a.arcs i)[i]? =some x:=OA_ (lD f) hx;have m2:(XZ (lD f) a.arcs i).length=a.arcs.length:=Io_ a.arcs i (lD f) hi;obtain⟨Z,hZ⟩:∃Z,Z=XZ (lD f) a.arcs i:=⟨_,rfl⟩
  rw[<-hZ]at s1 m1 m2 |-;have yZ:i<Z.length:=by omega
  have m1':Z[i]'yZ=x:=(aB0.1 m1).2;have vJ:IntKind.i64.wrap ((i:Int)+1)=(i:Int)+1:=MT_ qV har;have bH:IntKind.i64.wrap (x.fr+(f:Int))=(f:Int)+x.fr:=by rw[wq];omega
  have yT:IntKind.i64.wrap (x.to+(f:Int))=(f:Int)+x.to:=by rw[wq];omega
  clear qD har gF hf
  (refine Au Aa Aa (OD @Bm.eq_1 qV m1 m1' yZ vJ bH yT s1) ?_;intros;refine Ae ?_)
  refine Ag.mk ⟨i+1,by omega⟩ (Sub.lit (by simp)) (by simp;omega)
  skip
 ·have qY:i=a.arcs.length:=by omega
  subst qY;rw[OC_];exact Al Aa Aa Aa
end Go.Proofs.Wy
end
