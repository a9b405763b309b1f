/- Parts of a proof, laid together: BO6, BO8, BX1, EnSu, BO9, BY0, BP0, BY1, RB1, RB2, RB3, RB4, RB5, RB6, BP1, RB7, RB8, BX4, BX6, RB9, BX2, RB10, RS0, RS1, RS2, RS3, RS4, RS5, RS6, RS7, RS8, W97, WO, W98, W44, W47, W96, CF0. -/
import Derived.Test.YtchgnpnbcjflcaaGreatqDe4
import Derived.Test.YtchgnpnbcjflcaaGreatqDe5
import Derived.Test.YtchgnpnbcjflcaaGreatqDe6
import Derived.Test.YtchgnpnbcjflcaaGreatqDe7
import Derived.Test.YtchgnpnbcjflcaaGreatqDe8
set_option linter.unusedSimpArgs false
set_option maxHeartbeats 8000000
set_option linter.unusedVariables false
set_option linter.unusedSectionVars false
section
namespace Go.Proofs.Wy
open Go Go.Dm Tryz
variable [DMode]
def HZ (H L:List ByteArray) (S:List Sym) (t:RT):List Sym:=S++(Dt (flat t)).map (EW H L)
def FE (H L:List ByteArray) (S:List Sym) (us:List RT):List Sym:=S++(Dt (Ao us)).map (EW H L)
def Iw (l:List Nd) (ah:Nat) (t:RT) (a:Nat):List Nat:=(tX t a).map (Oz l ah)
def LF (l:List Nd) (ah:Nat) (t:RT) (a:Nat):List Nat:=(Qm t a).map (Oz l ah)
def FQ (SF:List Sym) (l:List Nd) (ah:Nat) (A:List Arc) (t:RT) (a:Nat):List Arc:=A++Dn SF ((arT t a).map (EJ_ l ah))
def Ix (l:List Nd) (ah:Nat) (k:Int) (us:List RT) (a:Nat):List Nat:=(YO k us a).map (Oz l ah)
def Hk (l:List Nd) (ah:Nat) (k:Int) (us:List RT) (a:Nat):List Nat:=(Qn k us a).map (Oz l ah)
def ER (SF:List Sym) (l:List Nd) (ah:Nat) (A:List Arc) (k:Int) (us:List RT) (a:Nat):List Arc:=A++Dn SF ((uB k us a []).map (EJ_ l ah))
theorem DW_ (H L:List ByteArray) (S:List Sym):FE H L S []=S:=by unfold FE;rw[DQ];simp[Dt]
theorem IF_ (l:List Nd) (ah:Nat) (k:Int) (a:Nat):Ix l ah k [] a=[]:=by unfold Ix;rw[NB];rfl
theorem Ih_ (l:List Nd) (ah:Nat) (k:Int) (a:Nat):Hk l ah k [] a=[]:=by unfold Hk;rw[Ht];rfl
theorem Ge_ (SF:List Sym) (l:List Nd) (ah:Nat) (A:List Arc) (k:Int) (a:Nat):ER SF l ah A k [] a=A:=by unfold ER;rw[Lu];simp[Dn]
theorem uH (H L:List ByteArray) (S:List Sym) (us:List RT) (u:RT):FE H L S (us++[u])=HZ H L (FE H L S us) u:=by
 unfold FE HZ;rw[Fu,Fx_,Gi,bA0,aQ0]
theorem DX_ (H L:List ByteArray) (S:List Sym) {x:Nd} (ks:List RT) (h:¬(x.k=2\/x.k=3)):HZ H L S (.mk x ks)=FE H L S ks:=by
 unfold FE HZ;rw[Be,Kv h]
theorem Fz_ (l:List Nd) (ah:Nat) (us:List RT) (u:RT) (a:Nat):Ix l ah 4 (us++[u]) a=Ix l ah 4 us a++(if pE 4 us=true then Iw l ah u (a+(Ao us).length)else []):=by
 unfold Ix Iw;rw[Tq,bA0]
 congr 1
 unfold pE;cases h:Gn us<;>simp
theorem FA_ (l:List Nd) (ah:Nat) {k:Int} (hk:¬k=4) (us:List RT) (u:RT) (a:Nat):Ix l ah k (us++[u]) a=Ix l ah k us a++Iw l ah u (a+(Ao us).length):=by
 unfold Ix Iw;rw[Tq,bA0,if_neg (fun h=>hk h.1)]
theorem Fh_ (l:List Nd) (ah:Nat) (us:List RT) (u:RT) (a:Nat):Hk l ah 4 (us++[u]) a=LF l ah u (a+(Ao us).length)++(if EF u=true then Hk l ah 4 us a else []):=by
 unfold Hk LF;rw[SM,if_pos rfl,bA0];cases h:EF u<;>simp
theorem Fi_ (l:List Nd) (ah:Nat) {k:Int} (hk:¬k=4) (us:List RT) (u:RT) (a:Nat):Hk l ah k (us++[u]) a=Hk l ah k us a++LF l ah u (a+(Ao us).length):=by
 unfold Hk LF;rw[SM,if_neg hk,bA0]
theorem AW_ (SF:List Sym) (l:List Nd) (ah:Nat) (A:List Arc) (us:List RT) (u:RT) (a:Nat):ER SF l ah A 4 (us++[u]) a=FQ SF l ah (ER SF l ah A 4 us a) u (a+(Ao us).length)++Dn SF (CB (Hk l ah 4 us a) (Iw l ah u (a+(Ao us).length))):=by
 unfold ER FQ Hk Iw;rw[Wx,VT,bA0,bA0,Gz,Gz];simp[aQ0]
theorem AX_ (SF:List Sym) (l:List Nd) (ah:Nat) (A:List Arc) {k:Int} (hk:¬k=4) (us:List RT) (u:RT) (a:Nat):ER SF l ah A k (us++[u]) a=FQ SF l ah (ER SF l ah A k us a) u (a+(Ao us).length):=by
 unfold ER FQ;rw[lC k hk,bA0,Gz,aQ0]
theorem IG_ (l:List Nd) (ah:Nat) {x:Nd} (ks:List RT) (a:Nat) (h:¬(x.k=2\/x.k=3)):Iw l ah (.mk x ks) a=Ix l ah x.k ks (a+1):=by
 unfold Iw Ix;rw[Tm,if_neg h]
theorem Ii_ (l:List Nd) (ah:Nat) {x:Nd} (ks:List RT) (a:Nat) (h:¬(x.k=2\/x.k=3)):LF l ah (.mk x ks) a=Hk l ah x.k ks (a+1):=by
 unfold LF Hk;rw[Mu,if_neg h]
theorem Ud (SF:List Sym) (l:List Nd) (ah:Nat) (A:List Arc) {x:Nd} (ks:List RT) (a:Nat) (h:¬(x.k=2\/x.k=3)) (h6:x.k=6\/x.k=7):FQ SF l ah A (.mk x ks) a=ER SF l ah A x.k ks (a+1)++Dn SF (CB (Hk l ah x.k ks (a+1)) (Ix l ah x.k ks (a+1))):=by
 unfold FQ ER Hk Ix;rw[Pr,if_neg h,if_pos h6,VT,bA0,Gz,aQ0]
theorem AV_ (SF:List Sym) (l:List Nd) (ah:Nat) (A:List Arc) {x:Nd} (ks:List RT) (a:Nat) (h:¬(x.k=2\/x.k=3)) (h6:¬(x.k=6\/x.k=7)):FQ SF l ah A (.mk x ks) a=ER SF l ah A x.k ks (a+1):=by
 unfold FQ ER;rw[Pr,if_neg h,if_neg h6,bR0]
theorem ID_ (l:List Nd) (ah:Nat) (t:RT) (a:Nat):(Iw l ah t a).length<=(Dt (flat t)).length:=by unfold Iw;rw[aL0];exact QY t a
theorem Ig_ (l:List Nd) (ah:Nat) (t:RT) (a:Nat):(LF l ah t a).length<=(Dt (flat t)).length:=by unfold LF;rw[aL0];exact QT t a
theorem eV (l:List Nd) (ah:Nat) (k:Int) (us:List RT) (a:Nat):(Ix l ah k us a).length<=(Dt (Ao us)).length:=by unfold Ix;rw[aL0];exact QZ k us a
theorem aS (l:List Nd) (ah:Nat) (k:Int) (us:List RT) (a:Nat):(Hk l ah k us a).length<=(Dt (Ao us)).length:=by unfold Hk;rw[aL0];exact QU k us a
theorem Wv (SF:List Sym) (l:List Nd) (ah:Nat) (A:List Arc) (k:Int) (us:List RT) (a:Nat) (h:(Dt (Ao us)).length<=64):(ER SF l ah A k us a).length<=A.length+8192*(Ao us).length:=by
 unfold ER;rw[aD0,Lt,aL0];have:=Yy k us a [] (by simpa using h);omega
theorem Ga_ (SF:List Sym) (l:List Nd) (ah:Nat) (A:List Arc) (t:RT) (a:Nat) (h:(Dt (flat t)).length<=64):(FQ SF l ah A t a).length+4096<=A.length+8192*(flat t).length:=by
 unfold FQ;rw[aD0,Lt,aL0];have:=Yx t a h;omega
theorem DV_ (H L:List ByteArray) (S:List Sym) (t:RT):(HZ H L S t).length=S.length+(Dt (flat t)).length:=by simp[HZ]
theorem Vq (H L:List ByteArray) (S:List Sym) (us:List RT):(FE H L S us).length=S.length+(Dt (Ao us)).length:=by simp[FE]
theorem IC_ {l r:List Nd} {t:RT} {a ah:Nat} (h:l.drop a=flat t++r):∀q∈Iw l ah t a,1<=q/\q<=ah+LB l (a+(flat t).length):=IJ_ h
theorem IE_ {l r:List Nd} {k:Int} {us:List RT} {a ah:Nat} (h:l.drop a=Ao us++r):∀q∈Ix l ah k us a,1<=q/\q<=ah+LB l (a+(Ao us).length):=KY_ h
end Go.Proofs.Wy
end
section
namespace Go.Proofs.Wy
open Go Go.Dm Go.Shelf Tryz
variable [DMode]
attribute [local irreducible] DW Bi Bk
set_option maxRecDepth 100000
abbrev ofF (H L:List ByteArray):DVal:= .fn (.func 105) [] [.ref [FM H L]]
def Ou (H L:List ByteArray) (l:List Nd) (ah:Nat) (SF:List Sym) (t:RT):Prop :=
 ∀(a:Nat) (r:List Nd) (S:List Sym) (A:List Arc),l.drop a=flat t++r->S.length=ah+LB l a->HZ H L S t <+: SF->(A.length+8192*(flat t).length)*32<=150000000000000 ->
  AS prog (.func 104) [.bx 0 0 0,BC (flat t++r),ofF H L] (BF 0 0 S A) (.tup [NJ (EF t) (Iw l ah t a) (LF l ah t a),BC r]) (BF 1 1 (HZ H L S t) (FQ SF l ah A t a))
def sL : Ann:=⟨[66,75,90],[⟨1,[8],[],[]⟩,⟨5,[],[0],[]⟩]⟩
theorem YV (H L:List ByteArray) (l:List Nd) (ah:Nat) (SF:List Sym) (x:Nd) (hx:x.k=2\/x.k=3) (gW:ah+(Dt l).length<=64):Ou H L l ah SF (.mk x []):=by
 intro a r S A hdr hS dJ hA;have zN:flat (.mk x [])=[x]:=by rw[Be,DQ]
 have hlx:Dt (flat (.mk x []))=[x]:=by rw[zN,SG hx];rfl
 have h1:HZ H L S (.mk x [])=S++[EW H L x]:=by unfold HZ;rw[hlx];rfl
 have h2:Iw l ah (.mk x []) a=[Oz l ah a]:=by unfold Iw;rw[Tm,if_pos hx];rfl
 have h3:LF l ah (.mk x []) a=[Oz l ah a]:=by unfold LF;rw[Mu,if_pos hx];rfl
 have h4:FQ SF l ah A (.mk x []) a=A:=by unfold FQ;rw[Pr,if_pos hx];simp[Dn]
 have h5:EF (.mk x [])=false:=by rw[Cv_,if_pos hx]
 have h6:Oz l ah a=S.length+1:=by unfold Oz;omega
 have hs:=Cf_ hdr;rw[hlx]at hs
 have nC:LB l a<=(Dt l).length:=by
  rw[<-Lg]
  by_cases h:a<=l.length
  ·exact RW l h
  ·unfold LB;rw[cL0 (by omega),aY0];exact Nat.le_refl _
 rw[h1,h2,h3,h4,h5,h6,zN];have e1:=EE_ H L x;clear dJ h1 h2 h3 h4 h5 h6 hdr zN hlx;refine Bj [6,10] [(0,0,0),(1,1,1),(2,2,1)] sL func104 call104 ntmps104 mxd (Aq @sL.eq_1 results104) rfl (fun qJ B qX qQ=> ?_) (hv:=(by simp[BF]));clear qJ;have hS1:S.length<=64:=by omega
 have hS2:(S.length+1)*16<=150000000000000:=by omega
 simp only[Am,List.cons_append,List.nil_append];have hT:List.take r.length (List.map Cf r)=List.map Cf r:=cL0 (by simp)
 rcases hx with hx | hx
 ·simp only[Cf,hx]at e1;exact Au (AA e1) Aa (JB @BF.eq_1 @Cf.eq_1 @Az.eq_1 hx hS2 @BD.eq_1 hT)
 ·simp only[Cf,hx]at e1;exact Au (AA e1) Aa (JB @BF.eq_1 @Cf.eq_1 @Az.eq_1 hx hS2 @BD.eq_1 hT)
theorem Mj_ (l:List Nd) (p:Nat):LB l p<=(Dt l).length:=by
 rw[<-Lg]
 by_cases h:p<=l.length
 ·exact RW l h
 ·unfold LB;rw[cL0 (by omega),aY0];exact Nat.le_refl _
theorem eT : ∀us:List RT,us.length<=(Ao us).length
 | []=>by simp
 | u::us=>by
  have h1:=GZ u;have h2:=eT us;rw[AG,aD0,List.length_cons];omega
theorem eR : ∀{us:List RT} {u:RT},u∈us->(flat u).length<=(Ao us).length
 | v::us,u,h=>by
  rw[AG,aD0]
  rcases aJ0.1 h with rfl | h
  ·omega
  ·have:=eR h;omega
def Un : Ann:=⟨[66,75,90],[⟨1,[8],[],[]⟩,⟨5,[],[0],[]⟩]⟩
theorem YU (H L:List ByteArray) (l:List Nd) (ah:Nat) (SF:List Sym) (x:Nd) (ks:List RT) (ht:FX (.mk x ks)=true) (hx:¬(x.k=2\/x.k=3)) (gW:ah+(Dt l).length<=64) (ih:∀u∈ks,Ou H L l ah SF u):Ou H L l ah SF (.mk x ks):=by
 intro a r S A hdr hS dJ hA;have hn:=(CI ht).2.1;have rC:=Ms_ ht hx
 have mG:l.drop (a+1)=Ao ks++r:=by
  have:=Wm (m:=[x]) (r:=Ao ks++r) (by rw[hdr,Be];rfl);simpa using this
 have hrk1:LB l (a+1)=LB l a:=by
  have:=GE (m:=[x]) (r:=Ao ks++r) (by rw[hdr,Be];rfl);rw[Kv hx]at this;simpa[Dt]using this
 rw[DX_ H L S ks hx]at dJ |-;rw[IG_ l ah ks a hx,Ii_ l ah ks a hx,rC];rw[Be,List.length_cons]at hA;have cO:=Cf_ mG;have cI:=Mj_ l;obtain⟨AF,hAF⟩:∃AF,AF=FQ SF l ah A (.mk x ks) a:=⟨_,rfl⟩;rw[<-hAF,Be];clear rC hdr ht;refine Bj [6,10] [(0,0,0),(1,1,1),(2,2,1)] Un func104 call104 ntmps104 mxd (Aq @Un.eq_1 results104) rfl (fun qJ B qX qQ=> ?_) (hv:=(by simp[BF]));clear qJ;have k2:¬x.k=2:=fun h=>hx (.inl h)
 have k3:¬x.k=3:=fun h=>hx (.inr h)
 have hT:List.take (Ao ks++r).length (List.map Cf (Ao ks++r))=List.map Cf (Ao ks++r):=cL0 (by simp);obtain⟨R1,mR⟩:∃R1,R1=Ao ks++r:=⟨_,rfl⟩;simp only[Am,List.cons_append];rw[<-mR]at hT |-;have b2:(x.k==2)=false:=by simpa using k2
 have b3:(x.k==3)=false:=by simpa using k3
 (refine AM Aa Aa (JB @BF.eq_1 @Cf.eq_1 k2 k3 b2 b3 hT) ?_;intros;refine Aj ?_)
 have wV:(decide (x.k=1)||x.k==4)=pE x.k []:=by rw[Mr_];rfl
 rw[wV];refine YJ 10 1 1 8 rfl rfl ?_;refine YJ 10 2 1 8 rfl rfl ?_;have hj0:(0:Int)=(([]:List RT).length:Int):=rfl
 refine Ak (X:={p:List RT×List RT//ks=p.1++p.2}) (fun p=>⟨[(0,.bx 0 0 0),(2,ofF H L),(6,.bx 6 1 0),(7,.nilsl),(8,.ref (Cf x)),(9,BC (Ao p.1.2++r)),(10,.bx 10 1 0),(59,.int .i64 x.n),(60,.int .i64 p.1.1.length)],
  BF 1 1 (FE H L S p.1.1) (ER SF l ah A x.k p.1.1 (a+1))++[⟨6,1,.box [.bool false,.nilsl,.nilsl]⟩,⟨10,1,.box [.bool (pE x.k p.1.1),En (Ix l ah x.k p.1.1 (a+1)),En (Hk l ah x.k p.1.1 (a+1))]⟩]⟩) (fun p=>p.1.2.length) ⟨([],ks),rfl⟩ (Sub.lit (by simp[BF,DW_,Ge_,IF_,Ih_,Cf,mR])) ?_
 rintro⟨⟨us,vs⟩,zP⟩;simp only at zP |-
 cases vs with
 | cons u vs =>
  have qO:u∈ks:=by rw[zP];simp
  have qV:(us.length:Int)<x.n:=by rw[hn,zP];simp;omega
  have hks1:Ao ks=Ao us++(flat u++Ao vs):=by rw[zP,Fu,AG]
  have hdrA:l.drop (a+1)=Ao us++(flat u++(Ao vs++r)):=by rw[mG,hks1];simp
  have hdrU:=Wm hdrA;have hSU:(FE H L S us).length=ah+LB l (a+1+(Ao us).length):=by rw[Vq,GE hdrA,hS,hrk1];omega
  have wM:FE H L S (us++[u]) <+: SF:=by
   refine List.IsPrefix.trans ?_ dJ;rw[zP];unfold FE;rw[show us++u::vs=(us++[u])++vs by simp,Fu (us++[u]),Gi,bA0,<-aQ0];exact List.prefix_append _ _
  have hSn:=uH H L S us u;rw[hSn]at wM
  have hlv1:(Dt (Ao us)).length+(Dt (flat u)).length<=(Dt l).length:=by
   rw[hks1,Gi,Gi,aD0,aD0]at cO;omega
  have hAl:=Wv SF l ah A x.k us (a+1) (by omega);have zN:(Ao ks).length=(Ao us).length+((flat u).length+(Ao vs).length):=by rw[hks1,aD0,aD0]
  have e1:=ih u qO _ _ (FE H L S us) (ER SF l ah A x.k us (a+1)) hdrU hSU wM (by omega);have hAl1:=Ga_ SF l ah (ER SF l ah A x.k us (a+1)) u (a+1+(Ao us).length) (by omega);have hSl1:=DV_ H L (FE H L S us) u;have dR:=IC_ (ah:=ah) hdrU;have hr5:=cI (a+1+(Ao us).length+(flat u).length);rw[GE hdrU]at dR hr5;have hF0:=eV l ah x.k us (a+1);have hL0:=aS l ah x.k us (a+1);have hF1:=ID_ l ah u (a+1+(Ao us).length)
  have dV:=Ig_ l ah u (a+1+(Ao us).length);have hEn:=Km_ x.k us u;have hFn:=fun h=>FA_ l ah (k:=x.k) h us u (a+1)
  have hLn:=fun h=>Fi_ l ah (k:=x.k) h us u (a+1)
  have hAn:=fun h=>AX_ SF l ah A (k:=x.k) h us u (a+1)
  have hFn4:=Fz_ l ah us u (a+1);have hLn4:=Fh_ l ah us u (a+1);have hAn4:=AW_ SF l ah A us u (a+1);have hdl:Ao (u::vs)++r=flat u++(Ao vs++r):=by rw[AG,aQ0]
  rw[hdl];obtain⟨R0,jW⟩:∃R0,R0=flat u++(Ao vs++r):=⟨_,rfl⟩;rw[<-jW]at e1 |-;obtain⟨R2,vY⟩:∃R2,R2=Ao vs++r:=⟨_,rfl⟩;rw[<-vY]at e1;have hjm:=QV (l:=Hk l ah x.k us (a+1)) (f:=Iw l ah u (a+1+(Ao us).length)) (by omega) (by omega);have jU:=eT us;have jS:IntKind.i64.wrap ((us.length:Int)+1)=(us.length:Int)+1:=wq
  by_cases k4:x.k=4
  ·have e2:=Zj (HZ H L (FE H L S us) u) SF (FQ SF l ah (ER SF l ah A x.k us (a+1)) u (a+1+(Ao us).length)) (pE x.k us) (EF u) (Ix l ah x.k us (a+1)) (Iw l ah u (a+1+(Ao us).length)) (Hk l ah x.k us (a+1)) (LF l ah u (a+1+(Ao us).length)) wM (fun q hq=>by have:=dR q hq;omega) (by omega) (by omega) (by omega) (by omega);rw[k4]at e1 e2 hEn;rw[if_pos rfl]at hEn;rw[<-hFn4,<-hLn4,<-hAn4,<-hEn]at e2;rw[<-hSn]at e1 e2
   simp only[k4]
   (refine AM Aa (Aq (Ee [(0,0),(1,1),(2,2)] [] e1) (Ee [(0,0),(1,1),(2,2)] [] e2)) (EU @BF.eq_1 @Cf.eq_1 k4 qV) ?_;intros;refine Aj ?_)
   refine Al.mk ⟨(us++[u],vs),by simp[zP]⟩ (Sub.lit (by simp[BF,vY,jS])) (by simp)
   skip
  ·have e2:=Bd_ (pE x.k us) (EF u) (Ix l ah x.k us (a+1)) (Iw l ah u (a+1+(Ao us).length)) (Hk l ah x.k us (a+1)) (LF l ah u (a+1+(Ao us).length)) (by omega) (by omega);rw[if_neg k4]at hEn;rw[<-hFn k4,<-hLn k4,<-hEn]at e2;rw[<-hAn k4,<-hSn]at e1;have b4:(x.k==4)=false:=by simpa using k4
   (refine AM (AA e2) (AA (Ee [(0,0),(1,1),(2,2)] [] e1)) (Ja @BF.eq_1 @Cf.eq_1 k4 b4 qV) ?_;intros;refine Aj ?_)
   refine Al.mk ⟨(us++[u],vs),by simp[zP]⟩ (Sub.lit (by simp[BF,vY,jS])) (by simp)
   skip
 | nil =>
  rw[bR0]at zP;subst zP;have wA:¬((ks.length:Int)<x.n):=by rw[hn];omega
  have hSl:=Vq H L S ks;have hr5:=cI (a+1+(Ao ks).length);rw[GE mG]at hr5;have hF0:=eV l ah x.k ks (a+1);have hL0:=aS l ah x.k ks (a+1);have hAl:=Wv SF l ah A x.k ks (a+1) (by omega);have dR:=IE_ (ah:=ah) (k:=x.k) mG;rw[GE mG]at dR;have hjm:=QV (l:=Hk l ah x.k ks (a+1)) (f:=Ix l ah x.k ks (a+1)) (by omega) (by omega);have e3:=Ky (FE H L S ks) SF (ER SF l ah A x.k ks (a+1)) (Hk l ah x.k ks (a+1)) (Ix l ah x.k ks (a+1)) dJ (fun q hq=>by have:=dR q hq;omega) (by omega) (by omega)
  have hdl:Ao []++r=r:=by rw[DQ];rfl
  rw[hdl];have hbe:∀n:Int,(x.k==n)=decide (x.k=n):=fun n=>rfl
  by_cases h6:x.k=6
  ·rw[Ud SF l ah A ks a hx (.inl h6)]at hAF;rw[<-hAF]at e3;rw[h6]at e3;simp only[h6];exact Au Aa (AA (Ee [(0,0),(1,1),(2,2)] [] e3)) (EU @BF.eq_1 @Cf.eq_1 h6 wA)
  ·by_cases h7:x.k=7
   ·rw[Ud SF l ah A ks a hx (.inr h7)]at hAF;rw[<-hAF]at e3;rw[h7]at e3;simp only[h7];exact Au Aa (AA (Ee [(0,0),(1,1),(2,2)] [] e3)) (EU @BF.eq_1 @Cf.eq_1 h7 wA)
   ·rw[AV_ SF l ah A ks a hx (by omega)]at hAF;have b6:(x.k==6)=false:=by simpa using h6
    have b7:(x.k==7)=false:=by simpa using h7
    exact Au Aa Aa (YC @BF.eq_1 @Cf.eq_1 h6 h7 b6 b7 wA hbe hAF)
theorem Rv (H L:List ByteArray) (l:List Nd) (ah:Nat) (SF:List Sym) (gW:ah+(Dt l).length<=64):∀(n:Nat) (t:RT),(flat t).length<=n->FX t=true->Ou H L l ah SF t
 | 0,t,hn,_=>by have:=GZ t;omega
 | n+1,.mk x ks,hn,ht=>by
  by_cases hx:x.k=2\/x.k=3
  ·have:=SK ht hx;subst this;exact YV H L l ah SF x hx gW
  ·refine YU H L l ah SF x ks ht hx gW fun u hu=> ?_
   refine Rv H L l ah SF gW n u ?_ (QM (CI ht).2.2 u hu);have h1:=eR hu;rw[Be,List.length_cons]at hn;omega
end Go.Proofs.Wy
end
section
namespace Go.Proofs.Wy
open Go Go.Dm Tryz
variable [DMode]
attribute [local irreducible] DW Bi Bk
set_option maxRecDepth 100000
def sI : Ann:=⟨[],[]⟩
theorem Yt (x y:Sym):Ad prog 190 [.agg (Az x),.agg (Az y)] (.int .i64 (JY x y)):=by
 refine Ac [] sI func190 call190 ntmps190 mxd (Aq @sI.eq_1 results190) rfl (fun qJ B qX qQ=> ?_);simp only[Am];cases h1:x.label<;>cases h2:y.label<;>exact Au (AA (Db x.n y.n)) Aa (EU @Az.eq_1 h1 h2 @JY.eq_1)
def sJ : Ann:=⟨[],[]⟩
theorem XB (x y:Arc):Ad prog 109 [.agg (CO x),.agg (CO y)] (.int .i64 (Ho x y)):=by
 refine Ac [] sJ func109 call109 ntmps109 mxd (Aq @sJ.eq_1 results109) rfl (fun qJ B qX qQ=> ?_);simp only[Am];have h1:=Db x.fr y.fr;have h2:=Yt x.sy y.sy;have h3:=Db x.to y.to;have h4:=ZN (Fy x.fr y.fr) (JY x.sy y.sy) (Fy x.to y.to);simp only[Az]at h2;unfold Ho;exact Au (EU h1 h2 h3 h4) Aa (AA @CO.eq_1)
end Go.Proofs.Wy
end
section
namespace Go.Dm
variable [DMode]
open Go.Shelf Go.Sort Go.Proofs Go.RowKit
abbrev Og_ := { s:ByteArray//s.size<=maxLen }
instance : Inhabited Og_:=⟨⟨⟨#[]⟩,by decide⟩⟩
end Go.Dm
end
section
namespace Go.Proofs.Wy
open Go Go.Dm Go.Shelf Tryz
variable [DMode]
attribute [local irreducible] DW Bi Bk
set_option maxRecDepth 100000
abbrev tZ (x y:Arc):Bool:=Ho x y==0
theorem IN_ {x y:Arc} (h:tZ x y=false):¬x=y:=fun e=>by
 have:=(HJ.eq0 x y).2 e;simp[tZ,this]at h
theorem IO_ {x y:Arc} (h:tZ x y=true):x=y:=(HJ.eq0 x y).1 (by simpa[tZ]using h)
theorem Jr_ {x y:Arc} (h:¬x=y):(x.fr==y.fr&&(x.sy.label==y.sy.label&&(x.sy.n==y.sy.n&&x.to==y.to)))=false:=by
 cases hb:(x.fr==y.fr&&(x.sy.label==y.sy.label&&(x.sy.n==y.sy.n&&x.to==y.to)))with
 | false=>rfl
 | true =>
  exfalso
  apply h
  obtain⟨a,⟨b,c⟩,d⟩:=x;obtain⟨a',⟨b',c'⟩,d'⟩:=y;simp at hb;obtain⟨rfl,rfl,rfl,rfl⟩:=hb;rfl
def sK : Ann:=⟨[],[]⟩
theorem UZ (l:List Arc) :
  AS prog (.func 111) [.osl 0 0] [⟨0,0,.row 97 4 32 (l.map CO)⟩] (Hw (BA tZ l)) []:=by
 refine Gq [0] [] func111 rfl call111 (by simp[ntmps111]) (by simp) (by simp) ?_;intro qJ hwo B qX;have qQ:=CF_ sK mxd (Aq @sK.eq_1 results111);simp only[Am]
 have hl:l.length<=9223372036854775807:=by
  simp only[Vi,maxLen,aL0]at hwo;omega
 clear hwo
 by_cases vW:l.length<2
 ·have dQ:BA tZ l=l:=by
   match l,vW with
   | [],_=>rfl
   | [x],_=>rfl
  exact Au Aa Aa (Aq vW dQ)
 have mU:¬(l.length:Int)<2:=by omega
 obtain⟨R0,jW⟩:∃R0,R0=BA tZ l:=⟨_,rfl⟩;rw[<-jW]
 (refine AM Aa Aa (Aq vW mU) ?_;intros;refine Aj ?_)
 refine Ak (X:={k:Nat//1<=k/\k<=l.length/\BA tZ (l.take k)=l.take k}) (fun k=>⟨[(0,.osl 0 0),(3,.int .i64 k.1)],[⟨0,0,.row 97 4 32 (l.map CO)⟩]⟩) (fun k=>l.length-k.1) ⟨1,by
  obtain⟨x,t,rfl⟩:∃x t,l=x::t:=by
   cases l with
   | nil=>simp at vW
   | cons x t=>exact⟨x,t,rfl⟩
  simp[BA,Ci]⟩ (Sub.lit (by simp)) ?_
 rintro⟨k,kR,hk,dX⟩
 by_cases qV:k<l.length
 ·obtain⟨q,hq,yE,nF⟩:=Aw qV;obtain⟨p,hp,qN,zU⟩:=Aw (show k-1<l.length by omega);have jS:IntKind.i64.wrap ((k:Int)-1)=(k:Int)-1:=wq;have zQ:((k:Int)-1).toNat=k-1:=by omega
  have hs:=Jv (e:=tZ) (by omega) hp hq;have wQ:(0:Int)<=(k:Int)-1:=by omega
  have wB:(k:Int)-1<l.length:=by omega
  cases bY:tZ q p
  ·rw[bY]at hs;simp only[aU0,if_false]at hs;have zX:(q.fr==p.fr&&(q.sy.label==p.sy.label&&(q.sy.n==p.sy.n&&q.to==p.to)))=false:=Jr_ (IN_ bY)
   (refine AM Aa Aa (Pu @CO.eq_1 qV yE qN hp hq zQ jS wQ wB zX) ?_;intros;refine Aj ?_)
   refine Al.mk ⟨k+1,by omega,by omega,by rw[hs,dX,bF0,hq];rfl⟩ (Sub.lit (by simp)) (by simp;omega)
   skip
  ·rw[bY]at hs;simp only[if_true,bR0]at hs;have zX:(q.fr==p.fr&&(q.sy.label==p.sy.label&&(q.sy.n==p.sy.n&&q.to==p.to)))=true:=by rw[IO_ bY];simp
   (refine AM Aa Aa (Pu @CO.eq_1 qV yE qN hp hq zQ jS wQ wB zX) ?_;intros;refine Aj ?_)
   clear jS zQ wQ wB
   refine Ak (X:={x:Nat×Nat×List Arc//1<=x.1/\k+x.1<=l.length/\x.2.1<k+x.1/\k<=x.2.1/\x.2.2.length=l.length/\x.2.2.take x.2.1=BA tZ (l.take (k+x.1))/\∀j,k+x.1<=j+1->x.2.2[j]? =l[j]?}) (fun x=>⟨[(0,.osl 0 0),(3,.int .i64 x.1.2.1),(4,.vw 0 0 4 32 k (l.length-k)),(5,.int .i64 x.1.1)],[⟨0,0,.row 97 4 32 (x.1.2.2.map CO)⟩]⟩) (fun x=>l.length-x.1.1)
    ⟨(1,k,l),show 1<=1/\k+1<=l.length/\k<k+1/\k<=k/\l.length=l.length/\l.take k=BA tZ (l.take (k+1))/\(∀j,k+1<=j+1->l[j]? =l[j]?) from ⟨by omega,by omega,by omega,by omega,rfl,by rw[hs,dX],fun _ _=>rfl⟩⟩ (Sub.lit (by simp)) ?_
   rintro⟨⟨m,kk,R⟩,x1,x2,x3,x4,x5,x6,x7⟩;simp only at x1 x2 x3 x4 x5 x6 x7 |-;have hv:k+(l.length-k)<=l.length:=by omega
   by_cases hm:m<l.length-k
   ·obtain⟨y,hy,zM,bS⟩:=Aw (show k+m<l.length by omega);obtain⟨z,hz,hz',hzm⟩:=Aw (show k+m-1<l.length by omega);obtain⟨c0,yW,_,_⟩:=Aw (show kk<R.length by omega);have hRy:R[k+m]? =some y:=by rw[x7 _ (by omega)];exact hy
    have hRz:R[k+(m-1)]? =some z:=by rw[x7 _ (by omega),show k+(m-1)=k+m-1 by omega];exact hz
    have mP:R[k+m]'(by omega)=y:=(aB0.1 hRy).2;have mK:R[k+(m-1)]'(by omega)=z:=(aB0.1 hRz).2;have jS:IntKind.i64.wrap ((m:Int)-1)=(m:Int)-1:=wq;have zQ:((m:Int)-1).toNat=m-1:=by omega
    have wQ:(0:Int)<=(m:Int)-1:=by omega
    have wB:(m:Int)-1<((l.length-k:Nat):Int):=by omega
    have vS:=Jv (e:=tZ) (by omega) hz hy;rw[<-x6]at vS;have qZ:kk<l.length:=by omega
    cases bV:tZ y z
    ·rw[bV]at vS;simp only[aU0,if_false]at vS;have pU:(y.fr==z.fr&&(y.sy.label==z.sy.label&&(y.sy.n==z.sy.n&&y.to==z.to)))=false:=Jr_ (IN_ bV)
     (refine AM Aa Aa (MX_ @CO.eq_1 hm hRy hRz mP mK zQ jS wQ wB x5 hv yW qZ pU) ?_;intros;refine Aj ?_)
     refine Al.mk ⟨(m+1,kk+1,R.set kk y),show 1<=m+1/\k+(m+1)<=l.length/\kk+1<k+(m+1)/\k<=kk+1/\(R.set kk y).length=l.length/\(R.set kk y).take (kk+1)=BA tZ (l.take (k+(m+1)))/\(∀j,k+(m+1)<=j+1->(R.set kk y)[j]? =l[j]?) from ⟨by omega,by omega,by omega,by omega,by simp[x5],?_,fun j hj=> ?_⟩⟩ (Sub.lit ?_) (by simp;omega)
     ·rw[show k+(m+1)=k+m+1 by omega,vS,bF0,List.getElem?_set_self (by omega),List.take_set_of_le (by omega)];rfl
     ·rw[List.getElem?_set_ne (by omega)];exact x7 j (by omega)
     ·have fH:Bx ((R.map CO).set kk [.int .i64 y.fr,.bool y.sy.label,.int .i64 y.sy.n,.int .i64 y.to])=0:=by
       rw[show (R.map CO).set kk [.int .i64 y.fr,.bool y.sy.label,.int .i64 y.sy.n,.int .i64 y.to]=(R.set kk y).map CO by simp[eU0,CO]];exact HQ_ _
      simp[eU0,CO,fH]
     skip
    ·rw[bV]at vS;simp only[if_true,bR0]at vS;have pU:(y.fr==z.fr&&(y.sy.label==z.sy.label&&(y.sy.n==z.sy.n&&y.to==z.to)))=true:=by rw[IO_ bV];simp
     (refine AM Aa Aa (MX_ @CO.eq_1 hm hRy hRz mP mK zQ jS wQ wB x5 hv yW qZ pU) ?_;intros;refine Aj ?_)
     refine Al.mk ⟨(m+1,kk,R),show 1<=m+1/\k+(m+1)<=l.length/\kk<k+(m+1)/\k<=kk/\R.length=l.length/\R.take kk=BA tZ (l.take (k+(m+1)))/\(∀j,k+(m+1)<=j+1->R[j]? =l[j]?) from ⟨by omega,by omega,by omega,by omega,x5,by rw[show k+(m+1)=k+m+1 by omega,vS],fun j hj=>x7 j (by omega)⟩⟩ (Sub.lit (by simp)) (by simp;omega)
     skip
   ·have hkm:k+m=l.length:=by omega
    have fZ:(Dg (R.map CO) kk (l.length-kk) [.int .i64 0,.bool false,.int .i64 0,.int .i64 0]).length=l.length:=by simp[Dg];omega
    have fO:(Dg (R.map CO) kk (l.length-kk) [.int .i64 0,.bool false,.int .i64 0,.int .i64 0]).take kk=R0.map CO:=by
     have e1:l.take (k+m)=l:=by rw[hkm,aY0]
     rw[e1]at x6;rw[jW,<-x6];simp only[Dg];rw[aQ0,eN0 (by simp;omega),List.take_take,Nat.min_self,List.map_take]
    have yJ:kk<=l.length:=by omega
    exact Au Aa Aa (JT hm x5 hv fZ fO yJ)
 ·have qZ:k=l.length:=by omega
  subst qZ;rw[aY0]at dX;rw[dX]at jW;exact Au Aa Aa (AA jW)
theorem Zd (l:List Arc):AS prog (.func 108) [.osl 0 0,.fn (.func 109) [] []] [⟨0,0,.row 97 4 32 (l.map CO)⟩] (.tup []) [⟨0,0,.row 97 4 32 ((FF Ho l).map CO)⟩]:=by
 obtain⟨un,hun⟩:∃un:List DVal->Arc,∀e,un (CO e)=e:=⟨fun d=>match d with | [.int _ a,.bool b,.int _ c,.int _ e]=>⟨a,⟨b,c⟩,e⟩ | _=>⟨0,⟨false,0⟩,0⟩,fun e=>rfl⟩
 have qO:∀x∈l.map CO,∃p∈l,x=CO p:=fun x hx=>by
  obtain⟨p,hp,rfl⟩:=aR0.1 hx;exact⟨p,hp,rfl⟩
 refine Vx (cf:=fun x y=>Ho (un x) (un y)) Tryz.sortFArc (by rfl) call108 (by kernel_rfl) (by kernel_rfl) (by decide) rfl ?_ call109 ?_ ?_ ?_ ?_ ?_
 ·intro x hx;obtain⟨p,_,rfl⟩:=qO x hx;simp
 ·intro x hx y hy;obtain⟨p,_,rfl⟩:=qO x hx;obtain⟨q,_,rfl⟩:=qO y hy;simp only[hun];exact @XB JW p q
 ·intro x _;rw[HJ.refl];omega
 ·intro x _ y _ z _;exact HJ.trans _ _ _
 ·intro x _ y _ z _;exact HJ.ntrans _ _ _
 ·intro L hp hs;exact Vl HJ hun hp hs
end Go.Proofs.Wy
end
section
namespace Go.Proofs.Wy
open Go Go.Dm Tryz
variable [DMode]
inductive Rch (E:List (Nat×Nat)):Nat->Nat->Prop where
 | refl (p:Nat):Rch E p p
 | step {p q r:Nat}:(p,q)∈E->Rch E q r->Rch E p r
theorem Rch.one {E:List (Nat×Nat)} {p q:Nat} (h:(p,q)∈E):Rch E p q:= .step h (.refl q)
theorem Rch.trans {E:List (Nat×Nat)} {p q r:Nat} (h:Rch E p q) (h':Rch E q r):Rch E p r:=by
 induction h with
 | refl _=>exact h'
 | step a _ ih=>exact .step a (ih h')
theorem Rch.mono {E E':List (Nat×Nat)} (h:∀x∈E,x∈E') {p q:Nat} (hr:Rch E p q):Rch E' p q:=by
 induction hr with
 | refl _=>exact .refl _
 | step a _ ih=>exact .step (h _ a) ih
theorem Rch.map {E E':List (Nat×Nat)} (f:Nat->Nat) (h:∀x∈E,(f x.1,f x.2)∈E') {p q:Nat} (hr:Rch E p q):Rch E' (f p) (f q):=by
 induction hr with
 | refl _=>exact .refl _
 | step a _ ih=>exact .step (h _ a) ih
theorem Jx (l:List Nd):∃c:Int,Ad prog 101 [BC l] (.int .i64 c)/\Ad prog 207 [BC l] (.int .i64 c)/\(c=0->l.length<=2048/\∃t,FX t=true/\l=flat t)/\(l.length<=2048->Dr l=true->∃t,FX t=true/\l=flat t/\c=Dw t):=by
 by_cases h:2048<l.length
 ·exact⟨3,NP l h,Sm l h,by omega,fun hh=>by omega⟩
 ·cases hw:Dr l with
  | false=>exact⟨170,iU l (by omega) hw,UJ l (by omega) hw,by omega,fun _ hh=>by simp at hh⟩
  | true =>
   obtain⟨t,ht,rfl⟩:=Mf hw;exact⟨Dw t,NO t ht (by omega),Sl t ht (by omega),fun _=>⟨by omega,t,ht,rfl⟩,fun _ _=>⟨t,ht,rfl,rfl⟩⟩
noncomputable def NU (l:List Nd):Int:=Classical.choose (Jx l)
theorem Lv_ (l:List Nd):Ad prog 101 [BC l] (.int .i64 (NU l)):=(Classical.choose_spec (Jx l)).1
theorem Lw_ {l:List Nd} (h:NU l=0):l.length<=2048/\∃t,FX t=true/\l=flat t:=(Classical.choose_spec (Jx l)).2.2.1 h
theorem Lu_ {l:List Nd} (h:l.length<=2048) (hw:Dr l=true):∃t,FX t=true/\l=flat t/\NU l=Dw t:=(Classical.choose_spec (Jx l)).2.2.2 h hw
noncomputable def MG : List (List Nd)->Int
 | []=>0
 | l::ls=>if NU l=0 then MG ls else NU l
theorem Tt : ∀{ls:List (List Nd)},MG ls=0->∃ts:List RT,ls=ts.map flat/\∀t∈ts,FX t=true/\(flat t).length<=2048
 | [],_=>⟨[],rfl,by simp⟩
 | l::ls,h=>by
  unfold MG at h
  split at h
  ·rename_i h1;obtain⟨h2,t,h3,h4⟩:=Lw_ h1;obtain⟨ts,h5,h6⟩:=Tt h;refine⟨t::ts,by rw[h5,h4];rfl,fun u hu=> ?_⟩
   rcases aJ0.1 hu with rfl | hu
   ·exact⟨h3,by rw[<-h4];exact h2⟩
   ·exact h6 u hu
  ·rename_i h1;exact absurd h h1
def Pp (H L:List ByteArray) (l:List Nd):Bool:=l.any fun x=>decide (uJ H L x=4)
def Ie (l:List Nd):List DVal:=[BC l]
@[simp] theorem Kz_ (l:List Nd):AR (Ie l)=0:=by simp[Ie,AR,mx]
@[simp] theorem NA_ (l:List (List Nd)):Bx (l.map Ie)=0:=Im _ Kz_ l
def CR (ls:List (List Nd)):Nat:=(ls.map GM).sum
theorem EI_ (ls:List (List Nd)) (l:List Nd):CR (ls++[l])=CR ls+GM l:=by simp[CR]
theorem HE_ : CR []=0:=rfl
theorem Jk : ∀ts:List RT,CR (ts.map flat)=(CY ts).length
 | []=>by simp[CR,CY]
 | t::ts=>by
  have ih:=Jk ts;have h1:CY (t::ts)=Dt (flat t)++CY ts:=by simp[CY]
  have h2:CR (List.map flat (t::ts))=GM (flat t)+CR (ts.map flat):=by simp[CR]
  rw[h2,h1,aD0,ih,Nm]
theorem BX_ : ∀(ts:List RT),(∀t∈ts,(flat t).length<=2048)->CR (ts.map flat)<=2048*ts.length
 | [],_=>by simp[CR]
 | t::ts,h=>by
  have ih:=BX_ ts fun u hu=>h u (aC0 _ hu)
  have h1:=h t aE0;have h2:CR (List.map flat (t::ts))=GM (flat t)+CR (ts.map flat):=by simp[CR]
  have h3:GM (flat t)<=(flat t).length:=by rw[Nm];exact cU0 _ _
  rw[h2,List.length_cons];omega
theorem EH_ {ls:List (List Nd)} {k:Nat}:CR (ls.take k)<=CR ls:=by
 have h1:CR ls=CR (ls.take k)+CR (ls.drop k):=by
  unfold CR;rw[<-List.sum_append_nat,<-bA0,List.take_append_drop]
 omega
theorem LD_ (t:RT) (h:(flat t).length<=2048) (gW:(Dt (flat t)).length<=64):(arT t 0).length<=16777216*(Dt (flat t)).length:=by
 by_cases h0:(Dt (flat t)).length=0
 ·have:arT t 0=[]:=by
   cases ha:arT t 0 with
   | nil=>rfl
   | cons p r =>
    exfalso;obtain⟨⟨x,hx,hk⟩,_⟩:=Uf t 0 p.1 p.2 (by rw[ha];exact aE0)
    have h1:x∈Dt (flat t):=by
     unfold Dt;rw[cP0];exact⟨bH0 hx,DP.2 hk⟩
    have:=List.length_pos_of_mem h1;omega
  rw[this];simp
 ·have:=Yx t 0 gW;omega
theorem Xx : ∀(ts:List RT) (ah:Nat),(∀t∈ts,(flat t).length<=2048)->(CY ts).length<=64->(xE ah ts).length<=16777216*(CY ts).length
 | [],ah,_,_=>by simp[xE]
 | t::ts,ah,h,gW=>by
  have h1:CY (t::ts)=Dt (flat t)++CY ts:=by simp[CY]
  rw[h1,aD0]at gW |-;have ih:=Xx ts (ah+(Dt (flat t)).length) (fun u hu=>h u (aC0 _ hu)) (by omega);have h2:=LD_ t (h t aE0) (by omega);rw[xE,aD0,aL0];omega
theorem Yj : ∀(ts:List RT) (ah:Nat),(tY ah ts).length<=(CY ts).length
 | [],ah=>by simp[tY]
 | t::ts,ah=>by
  have h1:CY (t::ts)=Dt (flat t)++CY ts:=by simp[CY]
  have ih:=Yj ts (ah+(Dt (flat t)).length);have h2:=QY t 0;rw[tY,h1,aD0,aD0,aL0];omega
theorem Ci_ : ∀(ts:List RT) (ah:Nat),(laN ah ts).length<=(CY ts).length
 | [],ah=>by simp[laN]
 | t::ts,ah=>by
  have h1:CY (t::ts)=Dt (flat t)++CY ts:=by simp[CY]
  have ih:=Ci_ ts (ah+(Dt (flat t)).length);have h2:=QT t 0;rw[laN,h1,aD0,aD0,aL0];omega
theorem Yi : ∀(ts:List RT) (ah:Nat),∀q∈tY ah ts,1<=q/\q<=ah+(CY ts).length
 | [],ah,q,h=>by simp[tY]at h
 | t::ts,ah,q,h=>by
  have h1:CY (t::ts)=Dt (flat t)++CY ts:=by simp[CY]
  rw[h1,aD0];rw[tY,aI0]at h
  rcases h with h | h
  ·have h2:(flat t).drop 0=flat t++[]:=by simp
   have h3:=IJ_ (ah:=ah) h2 q h;rw[GE h2,RU]at h3;omega
  ·have:=Yi ts _ q h;omega
def Tk (us:List RT):List Nat:=tY 0 us
def OZ (us:List RT):List Nat:=laN 0 us
def KS (SF:List Sym) (us:List RT):List Arc:=Dn SF (xE 0 us)
theorem GR_ (sy:Nd->Sym) (us:List RT) (t:RT):QH sy (us++[t])=QH sy us++(Dt (flat t)).map sy:=by unfold QH;rw[aM,bA0]
theorem QG (sy:Nd->Sym) (us:List RT):(QH sy us).length=(CY us).length:=by simp[QH]
theorem GQ_ (H L:List ByteArray) (us:List RT) (t:RT):HZ H L (QH (EW H L) us) t=QH (EW H L) (us++[t]):=by unfold HZ;rw[GR_]
theorem Fy_ (us:List RT) (t:RT):Tk us++Iw (flat t) (CY us).length t 0=Tk (us++[t]):=by unfold Tk Iw;rw[iB,bS0]
theorem Fg_ (us:List RT) (t:RT):OZ us++LF (flat t) (CY us).length t 0=OZ (us++[t]):=by unfold OZ LF;rw[aU,bS0]
theorem AU_ (SF:List Sym) (us:List RT) (t:RT):FQ SF (flat t) (CY us).length (KS SF us) t 0=KS SF (us++[t]):=by unfold KS FQ;rw[ZE,Gz,bS0]
theorem Gb_ (sy:Nd->Sym) (ts:List RT):KS (QH sy ts) ts++Dn (QH sy ts) (CB [0] (Tk ts))=HA sy ts:=by
 unfold KS HA Tk Dn CB;rw[bA0];simp
theorem KM_ {us vs:List RT}:(CY us).length<=(CY (us++vs)).length:=by
 have:CY (us++vs)=CY us++CY vs:=by simp[CY]
 rw[this,aD0];omega
theorem Kd_ (sy:Nd->Sym) (us vs:List RT):QH sy us <+: QH sy (us++vs):=by
 unfold QH;have:CY (us++vs)=CY us++CY vs:=by simp[CY]
 rw[this,bA0];exact List.prefix_append _ _
theorem Bb_ (us:List RT) (t:RT):(HO us||EF t)=HO (us++[t]):=(WB us t).symm
def Jp_ (n:Int) (fs:List Int) (zs:List Arc):DVal:= .agg [.int .i64 n,Cg fs,Hw zs]
def Jh_ (H L:List ByteArray) (ts:List RT):DVal:=Jp_ ((CY ts).length+1) (KI ts) (BA (fun x y=>Ho x y==0) (FF Ho (HA (EW H L) ts)))
def NY (sy:Nd->Sym) (ts:List RT):List Arc:=BA (fun x y=>Ho x y==0) (FF Ho (HA sy ts))
theorem EX_ {sy:Nd->Sym} {ts:List RT} {x:Arc}:x∈NY sy ts↔x∈HA sy ts:=by
 unfold NY;rw[(EQ HJ (DO HJ (HA sy ts))).2,(Fk _ _).mem_iff]
theorem Yw (sy:Nd->Sym) (ts:List RT):Er Ho (NY sy ts):=(EQ HJ (DO HJ (HA sy ts))).1
theorem Jq_ {sy:Nd->Sym} {ts:List RT} {x:Arc}:x∈NY sy ts↔∃p q,((p,q)∈xE 0 ts\/(p=0/\q∈tY 0 ts))/\x=Jt_ (QH sy ts) (p,q):=by
 rw[EX_];unfold HA;rw[aR0]
 constructor
 ·rintro⟨⟨p,q⟩,h,rfl⟩;refine⟨p,q,?_,rfl⟩
  rcases aI0.1 h with h | h
  ·exact .inl h
  ·obtain⟨q',hq,he⟩:=aR0.1 h;simp only[_root_.Prod.mk.injEq]at he;obtain⟨rfl,rfl⟩:=he;exact .inr ⟨rfl,hq⟩
 ·rintro⟨p,q,h,rfl⟩;refine⟨(p,q),?_,rfl⟩
  rcases h with h | ⟨rfl,h⟩
  ·exact aN0 _ h
  ·exact aP0 _ (aR0.2 ⟨q,h,rfl⟩)
theorem BO_ : ∀(ts:List RT) (ah:Nat) (p q:Nat),(p,q)∈xE ah ts->(ah<p/\p<=ah+(CY ts).length)/\ah<q/\q<=ah+(CY ts).length
 | [],ah,p,q,h=>by simp[xE]at h
 | t::ts,ah,p,q,h=>by
  have hl:(CY (t::ts)).length=(Dt (flat t)).length+(CY ts).length:=by simp[CY]
  rw[xE,aI0]at h
  rcases h with h | h
  ·obtain⟨⟨a,b⟩,mH,he⟩:=aR0.1 h;simp only[EJ_,_root_.Prod.mk.injEq]at he;obtain⟨rfl,rfl⟩:=he;obtain⟨⟨x,hx,hkx⟩,⟨y,hy,hky⟩⟩:=Uf t 0 a b mH;have hd:(flat t).drop 0=flat t++[]:=by simp
   have h1:=XI (ah:=ah) hd (cH0 a) ⟨x,hx,hkx⟩;have h2:=XI (ah:=ah) hd (cH0 b) ⟨y,hy,hky⟩;rw[GE hd,RU]at h1 h2;unfold Oz at h1 h2 |-;omega
  ·have:=BO_ ts _ p q h;omega
theorem IK_ (ts:List RT):∀q∈tY 0 ts,1<=q/\q<=(CY ts).length:=fun q h=>by have:=Yi ts 0 q h;omega
theorem CD_ {sy:Nd->Sym} {ts:List RT} {x:Arc} (h:x∈NY sy ts):∃p q:Nat,p<=(CY ts).length/\1<=q/\q<=(CY ts).length/\x=⟨(p:Int),(QH sy ts).getD (q-1) ⟨false,0⟩,(q:Int)⟩:=by
 obtain⟨p,q,nI,rfl⟩:=Jq_.1 h;clear h
 rcases nI with h | ⟨rfl,h⟩
 ·have:=BO_ ts 0 p q h;exact⟨p,q,by omega,by omega,by omega,rfl⟩
 ·have:=IK_ ts q h;exact⟨0,q,by omega,by omega,by omega,rfl⟩
def AO_ (sy:Nd->Sym) (ts:List RT):Auto:=⟨(CY ts).length+1,KI ts,NY sy ts⟩
theorem Nv_ {l:List Int} {s:Int} (hp:l.Pairwise (· < ·)) (h:∀q∈l,0<=q/\q<s):(List.range l.length).all (okF s l)=true:=by
 rw[aV0];intro k hk;have hk:=cD0.1 hk
 have hs:stB s l[k]=true:=by
  have:=h _ (dG0 hk);unfold stB;simp[this]
 rcases Nat.eq_zero_or_pos k with rfl | h0
 ·rw[HA_ (aH0 hk)];exact hs
 ·rw[Kr_ h0 (aH0 hk) (aH0 (show k-1<l.length by omega)),hs];have:=List.pairwise_iff_getElem.1 hp (k-1) k (by omega) hk (by omega);simpa using this
theorem Ml_ {l:List Arc} {s:Int} (hp:l.Pairwise (fun x y=>Ho x y<0)) (h:∀x∈l,Ww s x=true):(List.range l.length).all (okA s l)=true:=by
 rw[aV0];intro k hk;have hk:=cD0.1 hk;have hs:=h _ (dG0 hk)
 rcases Nat.eq_zero_or_pos k with rfl | h0
 ·rw[HB_ (aH0 hk)];exact hs
 ·rw[Ks_ h0 (aH0 hk) (aH0 (show k-1<l.length by omega)),hs,AY_];have:=List.pairwise_iff_getElem.1 hp (k-1) k (by omega) hk (by omega);simpa using this
theorem Kc_ (H L:List ByteArray) (x:Nd):0<=(EW H L x).n:=by
 unfold EW Mz
 repeat' split
 all_goals simp
theorem Ls_ (H L:List ByteArray) (ts:List RT) (gW:(CY ts).length<=64):Hc (AO_ (EW H L) ts)=true:=by
 unfold Hc AO_;simp only[aM0,decide_eq_true_eq];refine⟨⟨by omega,by omega⟩,?_,?_⟩
 ·obtain⟨h1,h2⟩:=Yh ts 0
  have hm:((MD 0 ts).map toI).Pairwise (· < ·):=by
   rw[dM0];exact h1.imp fun h=>by unfold toI;omega
  have hb:∀q∈(MD 0 ts).map toI,0<q/\q<((CY ts).length:Int)+1:=by
   intro q hq;obtain⟨p,hp,rfl⟩:=aR0.1 hq;have:=h2 p hp;unfold toI;omega
  refine Nv_ ?_ ?_
  ·unfold KI
   split
   ·exact cK0.2 ⟨fun q hq=>(hb q hq).1,hm⟩
   ·exact hm
  ·intro q hq;unfold KI at hq
   rcases aI0.1 hq with hq | hq
   ·split at hq
    ·simp at hq;subst hq;omega
    ·simp at hq
   ·have:=hb q hq;omega
 ·refine Ml_ (Yw _ _) ?_;intro x hx;obtain⟨p,q,h1,h2,h3,rfl⟩:=CD_ hx
  have hn:0<=((QH (EW H L) ts).getD (q-1) ⟨false,0⟩).n:=by
   rw[bJ0]
   cases h:(QH (EW H L) ts)[q-1]? with
   | none=>exact eR0 0
   | some s =>
    obtain⟨y,_,rfl⟩:=aR0.1 (bH0 h);exact Kc_ H L y
  unfold Ww stB;simp only[aM0,decide_eq_true_eq];exact⟨⟨by omega,by omega⟩,⟨by omega,by omega⟩,hn⟩
theorem Lt_ (H L:List ByteArray) (ts:List RT):Jh_ H L ts= .agg (TC (AO_ (EW H L) ts)):=rfl
theorem IZ_ {α:Type} (e:α->α->Bool) (l:List α):(BA e l).length<=l.length:=by
 cases l with
 | nil=>simp[BA]
 | cons p t =>
  have:=Hx e t p;simp only[BA,List.length_cons];omega
theorem Gd_ (sy:Nd->Sym) (ts:List RT) (h:∀t∈ts,(flat t).length<=2048) (gW:(CY ts).length<=64):(NY sy ts).length<=1073741888:=by
 have h1:=IZ_ (fun x y=>Ho x y==0) (FF Ho (HA sy ts));rw[(Fk Ho (HA sy ts)).length_eq]at h1;have h2:=Xx ts 0 h gW;have h3:=Yj ts 0;unfold NY;unfold HA at h1 |-;rw[aL0,aD0,aL0]at h1;omega
end Go.Proofs.Wy
end
section
namespace Go.Proofs.Wy
open Go Go.Dm Tryz
variable [DMode]
attribute [local irreducible] DW Bi Bk
set_option maxRecDepth 100000
theorem At.end {l:List Nd} {p:Nat} {t:RT} (h:At l p t):Aw_ l p=(p:Int)+(flat t).length:=by
 obtain⟨qY,wY,r,hr⟩:=h;unfold Aw_;rw[hr,Gx _ _ 0 qY,Cw];have h2:=congrArg List.length hr;rw[bW0,aD0]at h2;simp only;omega




def syG (g:List Rul):Nd->Sym:=EW (AB g) (AC g)
end Go.Proofs.Wy
end
section
namespace Go.Proofs.Wy
open Go Go.Dm Go.Shelf Tryz
variable [DMode]
attribute [local irreducible] DW Bi Bk
set_option maxRecDepth 100000
abbrev Jo_ : DVal:= .agg [.int .i64 0,.nilsl,.nilsl]
abbrev FC (ls:List (List Nd)):DVal:= .sl 1 24 (ls.map Ie)
theorem iP (l:List Arc):AS prog (.func 111) [.osl 0 0] [⟨0,0,.row 97 4 32 (l.map CO)⟩] (Hw (BA (fun x y=>Ho x y==0) l)) []:=UZ l
theorem RJ (l:List Nat):AS prog (.func 110) [.osl 0 0] [⟨0,0,.row 3 1 8 (l.map BD)⟩] (.tup []) [⟨0,0,.row 3 1 8 ((JH (l.map toI)).map Cl)⟩]:=by
 have h:=UF (l.map toI);rw[cC0]at h;exact h
structure BoxR (H L:List ByteArray) (ls:List (List Nd)) (R:DVal):Prop where
 a:MG ls≠0->R= .tup [Jo_,.int .i64 (MG ls)]
 b:MG ls=0->ls.any (Pp H L)=true->R= .tup [Jo_,.int .i64 4]
 c:MG ls=0->ls.any (Pp H L)=false->64<CR ls->R= .tup [Jo_,.int .i64 183]
 d:MG ls=0->∀ts,ls=ts.map flat->(∀t∈ts,FX t=true/\(flat t).length<=2048)->ls.any (Pp H L)=false->CR ls<=64->R= .tup [Jh_ H L ts,.int .i64 0]
def HC : Ann:=⟨[77,89,94,100,105,114,126],[⟨16,[13],[],[]⟩,⟨17,[14],[],[]⟩,⟨30,[20],[],[]⟩,⟨38,[201,77],[],[]⟩,⟨39,[],[],[0,1,2,3,4,5,6]⟩]⟩
theorem EG_ (H L:List ByteArray) (ls:List (List Nd)) (R:DVal) (hH:H.length≠0) (hR:BoxR H L ls R) (hm:mx R=0):Ad prog 34 [FM H L,FC ls] R:=by
 refine Ac [94,4] HC func34 call34 ntmps34 mxd (Aq @HC.eq_1 results34) rfl (fun qJ B qX qQ=> ?_) (hd:=(by simpa using hm))
 have pD:ls.length*24<=150000000000000:=by
  have h1:=qJ.2.1;simp only[EI,aL0]at h1;exact h1.1
 clear qJ;simp only[Am];have e1:=Jl H L
 (refine AM (AA e1) Aa (AA hH) ?_;intros;refine Aj ?_)
 clear hH;refine Ak (X:={k:Nat//k<=ls.length/\MG ls=MG (ls.drop k)}) (fun k=>⟨[(1,FC ls),(2,.ref [FM H L]),(4,.bx 4 1 0),(5,.int .i64 0),(32,FC ls),(33,.int .i64 ls.length),(34,.int .i64 k.1)],[⟨4,1,.box [.int .i64 0,.nilsl,.nilsl]⟩]⟩) (fun k=>ls.length-k.1) ⟨0,by simp⟩ (Sub.lit (by simp)) ?_;rintro⟨k,hk,pV⟩;simp only
 by_cases qV:k<ls.length
 ·obtain⟨l,hl,wI,hlm⟩:=Aw qV;rw[aW0 qV,wI,MG]at pV;have e2:=Lv_ l
  by_cases hc:NU l=0
  ·rw[if_pos hc]at pV;rw[hc]at e2
   (refine AM (AA e2) Aa (EU qV hl wI @Ie.eq_1) ?_;intros;refine Aj ?_)
   exact Al.mk ⟨k+1,by omega,pV⟩ (Sub.lit (by simp)) (by simp;omega)
   skip
  ·rw[if_neg hc]at pV;have hRR:=hR.a (by rw[pV];exact hc);rw[pV]at hRR;rw[hRR];have hcb:(NU l==0)=false:=by simpa using hc
   exact Au (AA e2) Aa (JT qV hl wI @Ie.eq_1 hc hcb)
 have qZ:k=ls.length:=by omega
 subst qZ;rw[cR0]at pV;have vI:MG ls=0:=pV;obtain⟨ts,yB,htp⟩:=Tt vI;clear pV hk;have gM:ls.length=ts.length:=by rw[yB,aL0]
 have hocl:=BX_ ts fun t ht=>(htp t ht).2
 rw[<-yB]at hocl
 (refine AM Aa Aa Aa ?_;intros;refine Aj ?_)
 refine Ak (X:={k:Nat//k<=ls.length/\(ls.take k).any (Pp H L)=false}) (fun k=>⟨[(1,FC ls),(2,.ref [FM H L]),(4,.bx 4 1 0),(5,.int .i64 0),(9,.int .i64 (CR (ls.take k.1))),(45,FC ls),(46,.int .i64 ls.length),(47,.int .i64 k.1)],[⟨4,1,.box [.int .i64 0,.nilsl,.nilsl]⟩]⟩) (fun k=>ls.length-k.1) ⟨0,by simp⟩ (Sub.lit (by simp[HE_])) ?_;rintro⟨k,hk,vA⟩;simp only
 by_cases qV:k<ls.length
 ·obtain⟨l,hl,wI,hlm⟩:=Aw qV
  have hll:l.length<=2048:=by
   rw[yB]at hlm;obtain⟨t,ht,rfl⟩:=aR0.1 hlm;exact(htp t ht).2
  have hos:=EI_ (ls.take k) l;rw[<-Cq hl]at hos;have hot:=EH_ (ls:=ls) (k:=k+1);obtain⟨m,dS⟩:∃m,m=CR (ls.take k):=⟨_,rfl⟩;rw[<-dS]at hos |-;have e5:=Sx l;have hw5:IntKind.i64.wrap ((m:Int)+(GM l:Int))=(CR (ls.take (k+1)):Int):=by rw[wq,hos];omega
  (refine AM Aa Aa (EU qV hl wI @Ie.eq_1) ?_;intros;refine Aj ?_)
  refine Ak (X:={j:Nat//j<=l.length/\Pp H L (l.take j)=false}) (fun j=>⟨[(1,FC ls),(2,.ref [FM H L]),(4,.bx 4 1 0),(5,.int .i64 0),(9,.int .i64 m),(11,BC l),(45,FC ls),(46,.int .i64 ls.length),(47,.int .i64 k),(51,BC l),(52,.int .i64 l.length),(53,.int .i64 j.1)],[⟨4,1,.box [.int .i64 0,.nilsl,.nilsl]⟩]⟩) (fun j=>l.length-j.1) ⟨0,by simp[Pp]⟩ (Sub.lit (by simp)) ?_;rintro⟨j,hj,hnj⟩;simp only
  by_cases qS:j<l.length
  ·obtain⟨x,hx,qG,vN⟩:=Aw qS;have e3:=RC H L x
   have wW:Pp H L (l.take (j+1))=decide (uJ H L x=4):=by
    unfold Pp at hnj |-;rw[Cq hx,List.any_append,hnj];simp
   obtain⟨E,hE⟩:∃E,E=uJ H L x:=⟨_,rfl⟩;rw[<-hE]at e3 wW;simp only[Cf,Az]at e3
   by_cases h4:E=4
   ·have wU:ls.any (Pp H L)=true:=by
     rw[cM0];refine⟨l,hlm,?_⟩;unfold Pp;rw[cM0];exact⟨x,vN,by rw[<-hE];simp[h4]⟩
    rw[hR.b vI wU];exact Au (AA e3) Aa (Ja @Cf.eq_1 qS hx qG h4)
   ·have h4b:(E==4)=false:=by simpa using h4
    rw[decide_eq_false h4]at wW
    (refine AM (AA e3) Aa (JT @Cf.eq_1 qS hx qG h4 h4b) ?_;intros;refine Aj ?_)
    refine Al.mk ⟨j+1,by omega,wW⟩ (Sub.lit (by simp)) (by simp;omega)
    skip
  ·have qZ:j=l.length:=by omega
   subst qZ;rw[aY0]at hnj;have hno2:(ls.take (k+1)).any (Pp H L)=false:=by rw[Cq hl,List.any_append,vA];simp[hnj]
   (refine AM (AA e5) Aa (AA hw5) ?_;intros;refine Aj ?_)
   refine Al.mk ⟨k+1,by omega,hno2⟩ (Sub.lit (by simp)) (by simp;omega)
   skip
 have qZ:k=ls.length:=by omega
 subst qZ;rw[aY0]at vA;clear hk qV
 by_cases gW:64<CR ls
 ·have hRc:=hR.c vI vA gW;have d1:(64:Int)<(CR ls:Int):=by omega
  exact Au Aa Aa (Ez d1 gW hRc)
 have zT:=hR.d vI ts yB htp vA (by omega);have hoc:=Jk ts;rw[<-yB]at hoc;have d1:¬(64:Int)<(CR ls:Int):=by omega
 (refine AM Aa Aa (Aq d1 gW) ?_;intros;refine Aj ?_)
 have hlv64:(CY ts).length<=64:=by omega
 obtain⟨SF,dJ⟩:∃SF,SF=QH (EW H L) ts:=⟨_,rfl⟩
 have wM:∀k,(CY (ts.take k)).length<=64/\QH (EW H L) (ts.take k) <+: SF:=fun k=>by
  have h1:=KM_ (us:=ts.take k) (vs:=ts.drop k);have h2:=Kd_ (EW H L) (ts.take k) (ts.drop k);rw[List.take_append_drop]at h1 h2;rw[dJ];exact⟨by omega,h2⟩
 have yY:∀k,(KS SF (ts.take k)).length<=1073741824:=fun k=>by
  have h1:=Xx (ts.take k) 0 (fun t ht=>(htp t (cG0 ht)).2) (wM k).1;unfold KS;rw[Lt];have:=(wM k).1;omega
 have zN:∀k,(Tk (ts.take k)).length<=64/\(OZ (ts.take k)).length<=64:=fun k=>by
  have h1:=Yj (ts.take k) 0;have h2:=Ci_ (ts.take k) 0;have:=(wM k).1;exact⟨by unfold Tk;omega,by unfold OZ;omega⟩
 have z0:KS SF []=[]:=rfl;have z1:QH (EW H L) []=[]:=rfl;have z2:Tk []=[]:=rfl;have z3:OZ []=[]:=rfl;have z4:HO []=false:=by rw[HO]
 refine DY 77 0 201 95 2 16 (by simp) (fun n1=> ?_);refine DY 77 1 202 97 4 32 (by simp) (fun n2=> ?_);refine DY 17 2 94 3 1 8 (by simp) (fun n3=> ?_);refine YJ 17 1 1 8 rfl rfl ?_
 refine Ak (X:={k:Nat//k<=ts.length}) (fun k=>⟨[(2,.ref [FM H L]),(4,.bx 4 1 0),(16,.bx 77 1 0),(17,.bx 17 1 0),(79,FC ls),(80,.int .i64 ls.length),(81,.int .i64 k.1)],
  [⟨4,1,.box [.int .i64 0,.nilsl,.nilsl]⟩,⟨77,1,.box [.osl 201 1,.osl 202 1]⟩,⟨201,1,.row 95 2 16 ((QH (EW H L) (ts.take k.1)).map Az)⟩,⟨202,1,.row 97 4 32 ((KS SF (ts.take k.1)).map CO)⟩,⟨17,1,.box [.bool (HO (ts.take k.1)),En (Tk (ts.take k.1)),.osl 94 1]⟩,⟨94,1,.row 3 1 8 ((OZ (ts.take k.1)).map BD)⟩]⟩) (fun k=>ts.length-k.1) ⟨0,by simp⟩ (Sub.lit (by simp[z0,z1,z2,z3,z4])) ?_
 rintro⟨k,hk⟩;simp only
 by_cases qV:k<ts.length
 ·obtain⟨t,ht,gE,htm⟩:=Aw qV;obtain⟨qY,h2048⟩:=htp t htm;have fV:ls[k]? =some (flat t):=by rw[yB,bN0,ht];rfl
  have kA:k<ls.length:=by omega
  have jV:ls[k]'kA=flat t:=(aB0.1 fV).2;have dD:=wM (k+1);have y1:=GQ_ H L (ts.take k) t;have y2:=Fy_ (ts.take k) t;have y3:=Fg_ (ts.take k) t;have y4:=AU_ SF (ts.take k) t;have y5:=Bb_ (ts.take k) t;have y6:=aM (ts.take k) t;rw[<-Cq ht]at y1 y2 y3 y4 y5 y6;have y7:=congrArg List.length y6;rw[aD0]at y7;have hA:=yY k;have hF:=zN k;have hF1:=zN (k+1);have e6:=Rv H L (flat t) (CY (ts.take k)).length SF (by rw[<-y7];exact dD.1) _ t (Nat.le_refl _) qY 0 [] (QH (EW H L) (ts.take k)) (KS SF (ts.take k)) (by simp) (by rw[QG,RU];rfl) (by rw[y1];exact dD.2) (by omega)
  rw[y1,y4,bR0]at e6;have g1:=congrArg List.length y2;have g2:=congrArg List.length y3;rw[aD0]at g1 g2;have e7:=Bc_ (HO (ts.take k)) (EF t) (Tk (ts.take k)) (Iw (flat t) (CY (ts.take k)).length t 0) (OZ (ts.take k)) (LF (flat t) (CY (ts.take k)).length t 0) (by omega) (by omega);rw[y5,y2,y3]at e7;refine Hg (Sub.freezeL [94] _) ?_;simp
  (repeat (first | refine AE fun K hK=> ?_ | (refine Bv HC mxd (by kernel_rfl) ?_;simp[HC,qX,BF,kA,fV,jV,Ie];try simp (disch:=omega) only[Af]) | refine An ?_ | (refine AW ?_ ?_ ?_;(· (simp[qX,BF,kA,fV,jV,Ie];done));(try (rotate_left;(· (intro hc;(try simp[qX,BF,kA,fV,jV,Ie]at hc);done))))) | (refine AH ?_;simp[results34,qX,BF,kA,fV,jV,Ie]) | ((first | refine Ay ?_ | refine Ax ?_);simp[qX,BF,kA,fV,jV,Ie]) | (intro hc;(try simp[qX,BF,kA,fV,jV,Ie]at hc);(try (exfalso;omega))) | (refine AK [(77,0),(201,1),(202,2)] [] (e6) ?_ ?_;(· (simp[qX,BF,kA,fV,jV,Ie];done));(intro _;try simp[qX,BF,kA,fV,jV,Ie])) | (refine AK [] [(94,0)] (e7) ?_ ?_;(· (simp[qX,BF,kA,fV,jV,Ie];done));(intro _;try simp[qX,BF,kA,fV,jV,Ie])) | (refine⟨?_,?_⟩; · omega) | omega | apply_assumption -exfalso -symm | (exfalso;omega)))
  refine Al.mk ⟨k+1,by omega⟩ (Sub.lit (by simp)) (by simp;omega)
  skip
 ·have qZ:k=ts.length:=by omega
  subst qZ;rw[aY0];have hA:=yY ts.length;have hF:=zN ts.length;have hP:=wM ts.length;rw[aY0]at hA hF hP;have e8:=Ky SF SF (KS SF ts) [0] (Tk ts) (List.prefix_refl _) (fun q hq=>by have:=Yi ts 0 q hq;rw[dJ,QG];omega) (by rw[dJ,QG];omega) (by simp;omega);have y8:=Gb_ (EW H L) ts;rw[<-dJ]at y8;rw[y8]at e8;have e9:=Zd (HA (EW H L) ts);have e11:=iP (FF Ho (HA (EW H L) ts));rw[<-dJ];have wA:¬(ts.length:Int)<(ls.length:Int):=by omega
  have hSl:SF.length=(CY ts).length:=by rw[dJ,QG]
  have wR:IntKind.i64.wrap ((SF.length:Int)+1)=((CY ts).length:Int)+1:=by rw[hSl];exact wq
  have vX:=IH_ ts fun t ht=>(htp t ht).1
  unfold Jh_ Jp_ at zT;obtain⟨CZ,hCZ⟩:∃CZ,CZ=BA (fun x y=>Ho x y==0) (FF Ho (HA (EW H L) ts)):=⟨_,rfl⟩;rw[<-hCZ]at zT e11;obtain⟨FR,hFR⟩:∃FR,FR=KI ts:=⟨_,rfl⟩;rw[<-hFR]at zT vX;cases hE:HO ts
  ·have e10:=RJ (OZ ts)
   have pM:JH ((OZ ts).map toI)=FR:=by
    rw[hE]at vX;simp only[aU0,if_false,bR0]at vX;exact vX
   rw[pM]at e10
   (repeat (first | refine AE fun K hK=> ?_ | (refine Bv HC mxd (by kernel_rfl) ?_;simp[HC,qX,BF,wA,BD,wR,zT];try simp (disch:=omega) only[Af]) | refine An ?_ | (refine AW ?_ ?_ ?_;(· (simp[qX,BF,wA,BD,wR,zT];done));(try (rotate_left;(· (intro hc;(try simp[qX,BF,wA,BD,wR,zT]at hc);done))))) | (refine AH ?_;simp[results34,qX,BF,wA,BD,wR,zT]) | ((first | refine Ay ?_ | refine Ax ?_);simp[qX,BF,wA,BD,wR,zT]) | (intro hc;(try simp[qX,BF,wA,BD,wR,zT]at hc);(try (exfalso;omega))) | (refine AK [(77,0),(201,1),(202,2)] [] (e8) ?_ ?_;(· (simp[qX,BF,wA,BD,wR,zT];done));(intro _;try simp[qX,BF,wA,BD,wR,zT])) | (refine AK [(202,0)] [] (e9) ?_ ?_;(· (simp[qX,BF,wA,BD,wR,zT];done));(intro _;try simp[qX,BF,wA,BD,wR,zT])) | (refine AK [(94,0)] [] (e10) ?_ ?_;(· (simp[qX,BF,wA,BD,wR,zT];done));(intro _;try simp[qX,BF,wA,BD,wR,zT])) | (refine AK [(202,0)] [] (e11) ?_ ?_;(· (simp[qX,BF,wA,BD,wR,zT];done));(intro _;try simp[qX,BF,wA,BD,wR,zT])) | (refine⟨?_,?_⟩; · omega) | omega | apply_assumption -exfalso -symm | (exfalso;omega)))
  ·have e10:=RJ (OZ ts++[0])
   have pM:JH ((OZ ts++[0]).map toI)=FR:=by
    rw[hE]at vX;simp only[if_true]at vX;rw[bA0];exact vX
   rw[pM]at e10;have hb:((OZ ts).length+1)*8<=150000000000000:=by omega
   (repeat (first | refine AE fun K hK=> ?_ | (refine Bv HC mxd (by kernel_rfl) ?_;simp[HC,qX,BF,wA,BD,wR,zT,hb];try simp (disch:=omega) only[Af]) | refine An ?_ | (refine AW ?_ ?_ ?_;(· (simp[qX,BF,wA,BD,wR,zT,hb];done));(try (rotate_left;(· (intro hc;(try simp[qX,BF,wA,BD,wR,zT,hb]at hc);done))))) | (refine AH ?_;simp[results34,qX,BF,wA,BD,wR,zT,hb]) | ((first | refine Ay ?_ | refine Ax ?_);simp[qX,BF,wA,BD,wR,zT,hb]) | (intro hc;(try simp[qX,BF,wA,BD,wR,zT,hb]at hc);(try (exfalso;omega))) | (refine AK [(77,0),(201,1),(202,2)] [] (e8) ?_ ?_;(· (simp[qX,BF,wA,BD,wR,zT,hb];done));(intro _;try simp[qX,BF,wA,BD,wR,zT,hb])) | (refine AK [(202,0)] [] (e9) ?_ ?_;(· (simp[qX,BF,wA,BD,wR,zT,hb];done));(intro _;try simp[qX,BF,wA,BD,wR,zT,hb])) | (refine AK [(94,0)] [] (e10) ?_ ?_;(· (simp[qX,BF,wA,BD,wR,zT,hb];done));(intro _;try simp[qX,BF,wA,BD,wR,zT,hb])) | (refine AK [(202,0)] [] (e11) ?_ ?_;(· (simp[qX,BF,wA,BD,wR,zT,hb];done));(intro _;try simp[qX,BF,wA,BD,wR,zT,hb])) | (refine⟨?_,?_⟩; · omega) | omega | apply_assumption -exfalso -symm | (exfalso;omega)))
end Go.Proofs.Wy
end
section
namespace Go.Proofs.Wy
open Go Go.Dm Tryz
variable [DMode]
attribute [local irreducible] DW Bi Bk
set_option maxRecDepth 100000


@[simp] theorem Oy_ (l:List Bool) (v:Nat) (h:v<(bD l).length):((bD l)[v]'h).tail=[]:=by simp[bD,dBl]
def OH_ (l:List Int):List (List DVal):=l.map Cl
@[simp] theorem On_ (l:List Int):Bx (OH_ l)=0:=HN_ l


end Go.Proofs.Wy
end
section
namespace Go.Proofs.Wy
open Go Go.Dm Tryz
attribute [local irreducible] DW Bi Bk
set_option maxRecDepth 100000
mutual
theorem Th : ∀(t t':RT) (r r':List Nd),FX t=true->FX t'=true->flat t++r=flat t'++r'->t=t'/\r=r'
 | .mk x ks,.mk x' ks',r,r',h,h',he=>by
  rw[Be,Be,List.cons_append,List.cons_append]at he;injection he with h1 h2
  subst h1;have h3:=(CI h).2.1;have h4:=(CI h').2.1;obtain⟨h5,h6⟩:=Wf ks ks' r r' (CI h).2.2 (CI h').2.2 (by omega) h2;exact⟨by rw[h5],h6⟩
theorem Wf : ∀(ks ks':List RT) (r r':List Nd),Gu ks=true->Gu ks'=true->ks.length=ks'.length->Ao ks++r=Ao ks'++r'->ks=ks'/\r=r'
 | [],[],r,r',_,_,_,he=>by rw[DQ]at he;exact⟨rfl,by simpa using he⟩
 | [],_::_,_,_,_,_,hl,_=>by simp at hl
 | _::_,[],_,_,_,_,hl,_=>by simp at hl
 | u::us,u'::us',r,r',h,h',hl,he=>by
  rw[AG,AG,aQ0,aQ0]at he;obtain⟨h1,h2⟩:=Th u u' _ _ (Cy h).1 (Cy h').1 he;obtain⟨h3,h4⟩:=Wf us us' r r' (Cy h).2 (Cy h').2 (by simpa using hl) h2;exact⟨by rw[h1,h3],h4⟩
end
theorem Vn : ∀(ts ts':List RT),(∀t∈ts,FX t=true)->(∀t∈ts',FX t=true)->ts.map flat=ts'.map flat->ts=ts'
 | [],[],_,_,_=>rfl
 | [],_::_,_,_,h=>by simp at h
 | _::_,[],_,_,h=>by simp at h
 | t::ts,t'::ts',h,h',he=>by
  rw[List.map_cons,List.map_cons]at he;injection he with h1 h2
  have h3:=(Th t t' [] [] (h t aE0) (h' t' aE0) (by rw[h1])).1;have h4:=Vn ts ts' (fun u hu=>h u (aC0 _ hu)) (fun u hu=>h' u (aC0 _ hu)) h2;rw[h3,h4]
end Go.Proofs.Wy
end
section
namespace Go.Proofs.Wy
open Go Go.Dm Tryz
variable [DMode]
def Lr (g:List Rul) (h:ByteArray):List (List Nd):=(g.filter fun r=>decide (r.h=h)).map (·.b)
def YM (gt:GT) (h:ByteArray):List RT:=(gt.filter fun p=>decide (p.1=h)).map (·.2)
theorem Jf_ (g:List Rul) (r:Rul) (h:ByteArray):Lr (g++[r]) h=Lr g h++(if r.h=h then [r.b]else []):=by
 unfold Lr;rw[dT0,bA0]
 congr 1
 by_cases hr:r.h=h<;>simp[hr]
theorem Lr_ (g:List Rul) (h:ByteArray):(Lr g h).length<=g.length:=by unfold Lr;rw[aL0];exact cU0 _ _
theorem TX (gt:GT) (h:ByteArray):Lr (AZ gt) h=(YM gt h).map flat:=by
 unfold Lr YM AZ;rw[List.filter_map,cC0,cC0];rfl
theorem WT {gt:GT} {h:ByteArray} {t:RT} (ht:t∈YM gt h):∃p∈gt,p.2=t:=by
 unfold YM at ht;obtain⟨p,hp,rfl⟩:=aR0.1 ht;exact⟨p,(cP0.1 hp).1,rfl⟩
theorem OR : ∀(g:List Rul) (h:ByteArray),CR (Lr g h)<=CS g
 | [],h=>by simp[Lr,CR,CS]
 | r::g,h=>by
  have ih:=OR g h;have h2:CS (r::g)=GM r.b+CS g:=by simp[CS]
  by_cases hr:r.h=h
  ·have h1:Lr (r::g) h=r.b::Lr g h:=by simp[Lr,hr]
   have h3:CR (r.b::Lr g h)=GM r.b+CR (Lr g h):=by simp[CR]
   rw[h1,h3,h2];omega
  ·have h1:Lr (r::g) h=Lr g h:=by simp[Lr,hr]
   rw[h1,h2];omega
structure OkgT (gt:GT):Prop where
 ok:OkG gt
 one:1<=gt.length
 le:gt.length<=64
 hd:(AB (AZ gt)).length<=16
 lb:(AC (AZ gt)).length<=16
 oc:CS (AZ gt)<=64
 dp:Gd gt=false
 ms:(CX (AZ gt)).length=0
 tx:(Cj gt).size<=2048
theorem Kp_ {gt:GT} (hk:OkG gt) (h1:1<=gt.length) (h2:gt.length<=64) (h:NK gt=0):OkgT gt:=by
 unfold NK at h
 repeat' split at h
 all_goals first
  | omega
  | skip
 rename_i a1 a2 a3 a4 a5 a6;exact⟨hk,h1,h2,by omega,by omega,by omega,by simpa using a4,by omega,by omega⟩
theorem Bs_ {gt:GT} (h:OkgT gt) {p:ByteArray×RT} (hp:p∈gt):FX p.2=true/\(flat p.2).length<=2048/\Dw p.2=0:=by
 have h1:=(h.ok p hp).2;have h2:=Zm hp;have h3:=h.tx;have h4:=WR p.2 h1;refine⟨h1,by omega,?_⟩
 have h5:¬16<JR p.2:=fun hh=>by
  have:Gd gt=true:=by unfold Gd;rw[cM0];exact⟨p,hp,by simpa using hh⟩
  rw[h.dp]at this;simp at this
 unfold Dw;rw[if_neg h5,if_neg (by omega)]
theorem DY_ {gt:GT} (h:OkgT gt) {p:ByteArray×RT} (hp:p∈gt) {x:Nd} (hx:x∈flat p.2):uJ (AB (AZ gt)) (AC (AZ gt)) x≠4:=by
 have hr:(⟨p.1,flat p.2⟩:Rul)∈AZ gt:=aR0.2 ⟨p,hp,rfl⟩;unfold uJ
 split
 ·rename_i h3
  have hm:x.s∈AC (AZ gt):=by
   unfold AC;rw[(HU _).2];unfold AX Cv;exact bT0.2 ⟨_,hr,aR0.2 ⟨x,cP0.2 ⟨hx,by simpa using h3⟩,rfl⟩⟩
  unfold JQ;rw[if_pos hm];omega
 ·split
  ·rename_i h2
   have hm:x.s∈AB (AZ gt):=by
    rcases Classical.em (x.s∈AB (AZ gt))with hh | hh
    ·exact hh
    ·exfalso
     have:x.s∈CX (AZ gt):=by
      unfold CX;rw[cP0,(HU _).2];refine⟨?_,by simpa using hh⟩;unfold AX Cv;exact bT0.2 ⟨_,hr,aR0.2 ⟨x,cP0.2 ⟨hx,by simpa using h2⟩,rfl⟩⟩
     have h3:=List.length_pos_of_mem this;have:=h.ms;omega
   unfold JQ;rw[if_pos hm];omega
  ·omega
theorem Jm_ {gt:GT} (h:OkgT gt) (s:ByteArray):(Lr (AZ gt) s).any (Pp (AB (AZ gt)) (AC (AZ gt)))=false:=by
 rw[Bool.eq_false_iff];intro hh;rw[cM0]at hh;obtain⟨l,hl,hb⟩:=hh;rw[TX]at hl;obtain⟨t,ht,rfl⟩:=aR0.1 hl;obtain⟨p,hp,rfl⟩:=WT ht;unfold Pp at hb;rw[cM0]at hb;obtain⟨x,hx,hxe⟩:=hb;exact DY_ h hp hx (by simpa using hxe)
theorem GF_ {gt:GT} (h:OkgT gt) (s:ByteArray):∀t∈YM gt s,FX t=true/\(flat t).length<=2048:=fun t ht=>by
 obtain⟨p,hp,rfl⟩:=WT ht;have:=Bs_ h hp;exact⟨this.1,this.2.1⟩
theorem xZ {gt:GT} (h:OkgT gt) (s:ByteArray):(CY (YM gt s)).length<=64:=by
 rw[<-Jk,<-TX];have:=OR (AZ gt) s;have:=h.oc;omega
def CQ (gt:GT):List Auto:=(AB (AZ gt)).map fun s=>AO_ (syG (AZ gt)) (YM gt s)
theorem NW (gt:GT):(CQ gt).length=(AB (AZ gt)).length:=by simp[CQ]
theorem Lz_ {gt:GT} {i:Nat} {s:ByteArray} (h:(AB (AZ gt))[i]? =some s):(CQ gt)[i]? =some (AO_ (syG (AZ gt)) (YM gt s)):=by unfold CQ;rw[bN0,h];rfl
def Bb (l:List Auto):Nat:=(l.map fun a=>a.st.toNat).sum
theorem DZ_ (l:List Auto) (a:Auto):Bb (l++[a])=Bb l+a.st.toNat:=by simp[Bb]
theorem CC_ {gt:GT} (h:OkgT gt):∀a∈CQ gt,Hc a=true:=fun a ha=>by
 obtain⟨s,_,rfl⟩:=aR0.1 ha;exact Ls_ _ _ _ (xZ h s)
theorem KZ : ∀{l:List Auto},(∀a∈l,Hc a=true)->Bb l<=65*l.length
 | [],_=>by simp[Bb]
 | a::l,h=>by
  have h1:=Nl (h a aE0);have h2:=KZ (l:=l) fun x hx=>h x (aC0 _ hx)
  have h3:Bb (a::l)=a.st.toNat+Bb l:=by simp[Bb]
  rw[h3,List.length_cons];omega
def BZ : Nat->List Auto->List (Auto×Nat)
 | _,[]=>[]
 | f,a::l=>(a,f)::BZ (f+a.st.toNat) l
theorem VD (a:Auto):∀(l:List Auto) (f:Nat),BZ f (l++[a])=BZ f l++[(a,f+Bb l)]
 | [],f=>by simp[BZ,Bb]
 | b::l,f=>by
  have h3:Bb (b::l)=b.st.toNat+Bb l:=by simp[Bb]
  rw[List.cons_append,BZ,BZ,VD a l,h3,dJ0];rfl
theorem GJ : ∀(l:List Auto) (f:Nat),(BZ f l).length=l.length
 | [],_=>rfl
 | a::l,f=>by rw[BZ,List.length_cons,List.length_cons,GJ l]
def Uy (p:Auto×Nat):List DVal:=[.int .i64 p.1.st,Cg p.1.fin,Hw p.1.arcs,.int .i64 (p.2:Int)]
abbrev AE_ (l:List (Auto×Nat)):DVal:= .sl 4 64 (l.map Uy)
@[simp] theorem MA_ (p:Auto×Nat):AR (Uy p)=0:=by simp[Uy,AR,mx]
@[simp] theorem Os_ (l:List (Auto×Nat)):Bx (l.map Uy)=0:=Im _ MA_ l
def Dk (H L:List ByteArray) (xs:List Auto):DVal:= .ref [FM H L,AE_ (BZ 0 xs),.int .i64 (Bb xs)]
end Go.Proofs.Wy
end
section
namespace Go.Proofs.Wy
open Go Go.Dm Tryz
variable [DMode]
attribute [local irreducible] DW Bi Bk
set_option maxRecDepth 100000
def Ol : Ann:=⟨[],[⟨4,[7],[],[]⟩]⟩
theorem Vd (g:List Rul) (h:ByteArray) (hl:g.length<=64):Ad prog 35 [AD g,.str h] (FC (Lr g h)):=by
 refine Ac [50] Ol func35 call35 ntmps35 mxd (Aq @Ol.eq_1 results35) rfl (fun qJ B qX qQ=> ?_);clear qJ;simp only[Am]
 iterate 6 ((first | refine AE fun K hK=> ?_ | (refine Bv Ol mxd (by kernel_rfl) ?_;simp[Ol,qX];try simp (disch:=omega) only[Af]) | refine An ?_ | (refine AW ?_ ?_ ?_;(· (simp[qX];done));(try (rotate_left;(· (intro hc;(try simp[qX]at hc);done))))) | (refine AH ?_;simp[results35,qX]) | ((first | refine Ay ?_ | refine Ax ?_);simp[qX]) | (intro hc;(try simp[qX]at hc);(try (exfalso;omega))) | (refine⟨?_,?_⟩; · omega) | omega | apply_assumption -exfalso -symm | (exfalso;omega)))
 refine BY 5 50 153 1 24 (by simp[qX,results35,Ol]) (fun n=> ?_)
 (refine AM Aa Aa Aa ?_;intros;refine Aj ?_)
 refine Ak (X:={k:Nat//k<=g.length}) (fun k=>⟨[(1,.str h),(5,.osl 50 1),(8,AD g),(9,.int .i64 g.length),(10,.int .i64 k.1)],[⟨50,1,.row 153 1 24 ((Lr (g.take k.1) h).map Ie)⟩]⟩) (fun k=>g.length-k.1) ⟨0,by omega⟩ (Sub.lit (by simp[Lr])) ?_;rintro⟨k,hk⟩;simp only
 by_cases qV:k<g.length
 ·obtain⟨r,hr,wL,dL⟩:=Aw qV;have e1:=Qb r.b;have gH:=Jf_ (g.take k) r h;rw[<-Cq hr]at gH;have gM:=Lr_ (g.take k) h;rw[bE0]at gM;obtain⟨T,hT⟩:∃T,T=Lr (g.take k) h:=⟨_,rfl⟩;rw[<-hT]at gH gM |-;have hb:(T.length+1)*24<=150000000000000:=by omega
  have pB:IntKind.i64.wrap ((k:Int)+1)=(k:Int)+1:=wq
  by_cases hh:r.h=h
  ·rw[if_pos hh]at gH;have vS:(Lr (g.take (k+1)) h).map Ie=T.map Ie++[[BC r.b]]:=by rw[gH,bA0];rfl
   (refine AM (AA e1) Aa (JB @BX.eq_1 qV hr wL hh hb pB) ?_;intros;refine Aj ?_)
   refine Al.mk ⟨k+1,by omega⟩ (Sub.lit (by simp[vS])) (by simp;omega)
   skip
  ·rw[if_neg hh,bR0]at gH;have hh2:(r.h==h)=false:=by simpa using hh
   (refine AM Aa Aa (JB @BX.eq_1 qV hr wL hh hh2 pB) ?_;intros;refine Aj ?_)
   refine Al.mk ⟨k+1,by omega⟩ (Sub.lit (by simp[gH])) (by simp;omega)
   skip
 ·have qZ:k=g.length:=by omega
  subst qZ;rw[aY0];exact Au Aa Aa Aa
end Go.Proofs.Wy
end
section
namespace Go.Proofs.Wy
open Go Go.Dm Tryz
attribute [local irreducible] DW Bi Bk
set_option maxRecDepth 100000
theorem Wi : ∀{ls:List (List Nd)},(∀l∈ls,NU l=0)->MG ls=0
 | [],_=>rfl
 | l::ls,h=>by
  unfold MG;rw[if_pos (h l aE0)];exact Wi fun x hx=>h x (aC0 _ hx)
theorem Jj_ {gt:GT} (h:OkgT gt) {p:ByteArray×RT} (hp:p∈gt):NU (flat p.2)=0:=by
 obtain⟨h1,h2,h3⟩:=Bs_ h hp;obtain⟨t,ht,he,hc⟩:=Lu_ h2 (Fj h1);have:=(Th p.2 t [] [] h1 ht (by rw[he])).1;rw[hc,<-this];exact h3
theorem Lc_ {gt:GT} (h:OkgT gt) (s:ByteArray):MG (Lr (AZ gt) s)=0:=Wi fun l hl=>by
 rw[TX]at hl;obtain⟨t,ht,rfl⟩:=aR0.1 hl;obtain⟨p,hp,rfl⟩:=WT ht;exact Jj_ h hp
theorem Kw_ {gt:GT} (h:OkgT gt) (s:ByteArray):CR (Lr (AZ gt) s)<=64:=by
 have:=OR (AZ gt) s;have:=h.oc;omega
theorem SZ {gt:GT} (h:OkgT gt):(AB (AZ gt)).length≠0:=by
 intro h0
 cases gt with
 | nil=>have:=h.one;simp at this
 | cons p gt =>
  have h1:p.1∈AB (AZ (p::gt)):=Ta.2 ⟨⟨p.1,flat p.2⟩,aE0,rfl⟩;rw[eY0.1 h0]at h1;simp at h1
theorem Me_ {gt:GT} (h:OkgT gt) (s:ByteArray):∀ts',Lr (AZ gt) s=ts'.map flat->(∀t∈ts',FX t=true/\(flat t).length<=2048)->ts'=YM gt s:=fun ts' h1 h2=>Vn ts' (YM gt s) (fun t ht=>(h2 t ht).1) (fun t ht=>(GF_ h s t ht).1) (by rw[<-h1,TX])
theorem Ji_ {gt:GT} (h:OkgT gt) (s:ByteArray):Ad prog 34 [FM (AB (AZ gt)) (AC (AZ gt)),FC (Lr (AZ gt) s)] (.tup [.agg (TC (AO_ (syG (AZ gt)) (YM gt s))),.int .i64 0]):=by
 have h1:=Lc_ h s;have h2:=Jm_ h s;have h3:=Kw_ h s;have e5:=EG_ (AB (AZ gt)) (AC (AZ gt)) (Lr (AZ gt) s) (.tup [Jh_ (AB (AZ gt)) (AC (AZ gt)) (YM gt s),.int .i64 0]) (SZ h) ⟨fun hh=>absurd h1 hh,fun _ hh=>by rw[h2]at hh;simp at hh,fun _ _ hh=>by omega,fun _ ts' h4 h5 _ _=>by rw[Me_ h s ts' h4 h5]⟩ (by simp[Jh_,Jp_,mx,AR]);rw[Lt_]at e5;exact e5
def Dg_ : Ann:=⟨[21],[⟨8,[9],[],[]⟩,⟨11,[],[0],[]⟩]⟩
theorem xS (gt:GT) (h:OkgT gt) (hs:Fa (AZ gt)) (dX:Ad prog 76 [AD (AZ gt)] (.int .i64 0)):Ad prog 10 [AD (AZ gt)] (.tup [Dk (AB (AZ gt)) (AC (AZ gt)) (CQ gt),.int .i64 0]):=by
 refine Ac [52,21] Dg_ func10 call10 ntmps10 mxd (Aq @Dg_.eq_1 results10) rfl (fun qJ B qX qQ=> ?_) (hd:=(by simp[mx,Dk,AR,FM]));clear qJ;simp only[Am];have hgl:=Gh gt;have wY:=h.le;have pP:=EL (k:=3) hs;have hhd:=h.hd;have rQ:=h.lb;have e1:=XF (AZ gt) (by omega) (by omega) (by omega) dX;have e2:=Jl (AB (AZ gt)) (AC (AZ gt));have cD:=NW gt;have haok:=CC_ h;obtain⟨R,hR⟩:∃R,R=Dk (AB (AZ gt)) (AC (AZ gt)) (CQ gt):=⟨_,rfl⟩
 rw[<-hR];have hbx:∀i s,(AB (AZ gt))[i]? =some s->_:=fun i s hi=>Lz_ (gt:=gt) hi
 have wQ:∀s,_:=fun s=>Vd (AZ gt) s (by omega)
 have wB:∀s,_:=fun s=>Ji_ h s
 obtain⟨A,hA⟩:∃A,A=CQ gt:=⟨_,rfl⟩;rw[<-hA]at hR cD haok hbx;obtain⟨H,hH⟩:∃H,H=AB (AZ gt):=⟨_,rfl⟩;rw[<-hH]at e1 e2 hR cD hhd hbx wB;obtain⟨L,hL⟩:∃L,L=AC (AZ gt):=⟨_,rfl⟩;rw[<-hL]at e1 e2 hR wB;obtain⟨g,hg⟩:∃g,g=AZ gt:=⟨_,rfl⟩;rw[<-hg]at e1 wQ wB hbx |-;clear hH hL dX pP rQ hs hA
 (refine AM (Aq e1 e2) Aa Aa ?_;intros;refine Aj ?_)
 refine DY 21 1 52 86 4 64 (by simp) (fun n1=> ?_);refine Ak (X:={i:Nat//i<=H.length}) (fun i=>⟨[(0,AD g),(4,FM H L),(6,.bx 21 1 0),(23,Bg H),(24,.int .i64 H.length),(25,.int .i64 i.1)],[⟨21,1,.box [FM H L,.osl 52 1,.int .i64 (Bb (A.take i.1))]⟩,⟨52,1,.row 86 4 64 ((BZ 0 (A.take i.1)).map Uy)⟩]⟩) (fun i=>H.length-i.1) ⟨0,by simp⟩ (Sub.lit (by simp[Bb,BZ,FM])) ?_;rintro⟨i,hi⟩;simp only
 by_cases qV:i<H.length
 ·obtain⟨s,hx,qG,vN⟩:=Aw qV;have hai:=hbx i s hx;obtain⟨a,ha⟩:∃a,a=AO_ (syG g) (YM gt s):=⟨_,rfl⟩;have e3:=wQ s;have e4:=wB s;rw[<-ha]at hai e4;have qL:=Nl (haok a (bH0 hai));have gH:=VD a (A.take i) 0;have jM:=DZ_ (A.take i) a;rw[<-Cq hai]at gH jM;have yY:=GJ (A.take i) 0;have hsl:=KZ (l:=A.take i) fun x hx=>haok x (cG0 hx)
  rw[bE0]at yY hsl;rw[bS0]at gH;obtain⟨T,hT⟩:∃T,T=BZ 0 (A.take i):=⟨_,rfl⟩;obtain⟨S,hS⟩:∃S,S=Bb (A.take i):=⟨_,rfl⟩;rw[<-hT]at gH yY |-;rw[<-hS]at gH jM hsl |-;have yB:(BZ 0 (A.take (i+1))).map Uy=T.map Uy++[[.int .i64 a.st,Cg a.fin,Hw a.arcs,.int .i64 (S:Int)]]:=by rw[gH,bA0];rfl
  have hb:(T.length+1)*64<=150000000000000:=by omega
  have pB:IntKind.i64.wrap ((i:Int)+1)=(i:Int)+1:=wq;have hws:IntKind.i64.wrap ((S:Int)+a.st)=(Bb (A.take (i+1)):Int):=by rw[wq,jM];omega
  simp only[TC]at e4
  (refine AM (Aq e3 e4) Aa (ML @Bh.eq_1 @TC.eq_1 qV hx qG hb pB hws) ?_;intros;refine Aj ?_)
  refine Al.mk ⟨i+1,by omega⟩ (Sub.lit (by simp[yB,FM])) (by simp;omega)
  skip
 ·have qZ:i=H.length:=by omega
  subst qZ;have hAt:A.take H.length=A:=cL0 (by omega);rw[hAt];unfold Dk at hR
  (refine AM Aa Aa Aa ?_;intros;refine Aj ?_)
  exact hR.symm
def Oy (l:List Auto):List Nat:=(BZ 0 l).map (·.2)
def ntL (l:List Auto):List Nat:=l.zipIdx.flatMap fun p=>List.replicate p.1.st.toNat p.2
def tV (f:Nat) (x:Arc):Arc:=⟨(f:Int)+x.fr,x.sy,(f:Int)+x.to⟩
def mvF (f:Nat) (q:Int):Int:=(f:Int)+q
def Qq (l:List Auto):List Int:=(BZ 0 l).flatMap fun p=>p.1.fin.map (mvF p.2)
def NZ (l:List Auto):List Arc:=(BZ 0 l).flatMap fun p=>p.1.arcs.map (tV p.2)
theorem Bz_ (l:List Auto):(Oy l).length=l.length:=by unfold Oy;rw[aL0,GJ]
theorem XJ (l:List Auto):(ntL l).length=Bb l:=by
 unfold ntL Bb;rw[List.length_flatMap];simp only[dH0]
 congr 1
 refine List.ext_getElem (by simp) fun i h1 h2=> ?_
 simp
theorem eX : ∀(ts:List RT) (ah:Nat),(MD ah ts).length<=(CY ts).length
 | [],_=>by simp[MD]
 | t::ts,ah=>by
  have h1:(CY (t::ts)).length=(Dt (flat t)).length+(CY ts).length:=by simp[CY]
  have h2:=eX ts (ah+(Dt (flat t)).length);have h3:((UN (flat t) (flat t).length).filter (enT t 0)).length<=(UN (flat t) (flat t).length).length:=cU0 _ _;rw[Xy (Nat.le_refl _),Lg]at h3;rw[MD,aD0,aL0];omega
theorem FB_ (ts:List RT):(KI ts).length<=(CY ts).length+1:=by
 have:=eX ts 0;unfold KI;rw[aD0,aL0]
 split
 ·simp;omega
 ·simp;omega
structure SmA (a:Auto):Prop where
 ok:Hc a=true
 fi:a.fin.length<=65
 ar:a.arcs.length<=1073741888
theorem Rb {gt:GT} (h:OkgT gt):∀a∈CQ gt,SmA a:=fun a ha=>by
 have qY:=CC_ h a ha;obtain⟨s,_,rfl⟩:=aR0.1 ha;refine⟨qY,?_,Gd_ _ _ (fun t ht=>(GF_ h s t ht).2) (xZ h s)⟩;have h1:=FB_ (YM gt s);have h2:=xZ h s
 show (KI (YM gt s)).length<=65
 omega
theorem Tl : ∀{l:List Auto},(∀a∈l,SmA a)->∀f,((BZ f l).flatMap fun p=>p.1.fin.map (mvF p.2)).length<=65*l.length
 | [],_,_=>by simp[BZ]
 | a::l,h,f=>by
  have h1:=(h a aE0).fi;have h2:=Tl (l:=l) (fun x hx=>h x (aC0 _ hx)) (f+a.st.toNat);rw[BZ,cO0,aD0,aL0,List.length_cons];simp only;omega
theorem Ue : ∀{l:List Auto},(∀a∈l,SmA a)->∀f,((BZ f l).flatMap fun p=>p.1.arcs.map (tV p.2)).length<=1073741888*l.length
 | [],_,_=>by simp[BZ]
 | a::l,h,f=>by
  have h1:=(h a aE0).ar;have h2:=Ue (l:=l) (fun x hx=>h x (aC0 _ hx)) (f+a.st.toNat);rw[BZ,cO0,aD0,aL0,List.length_cons];simp only;omega
@[simp] theorem Ne_ (l:List Auto):Bx (l.map TC)=0:=Im _ HP_ l
theorem LY_ {j n:Nat} (h1:j<n) (h2:n<=1073741888):IntKind.i64.wrap ((j:Int)+1)=(j:Int)+1:=wq
def IT : Ann:=⟨[5],[]⟩
theorem iQ (l:List Int) (hl:l.length*8<=140737488355328):AS prog (.func 192) [Cg l] [] (.osl 0 1) [⟨0,1,.row 3 1 8 (l.map Cl)⟩]:=by
 match l,hl with
 | [],_ =>
  refine Uv ?_ ?_
  ·refine JC ?_;refine Ac [] IT func192 call192 ntmps192 mxd (Aq @IT.eq_1 results192) rfl (fun qJ B qX qQ=> ?_);simp only[Am];exact Au Aa Aa Aa
  ·refine Bj [] [(5,0,1)] IT func192 call192 ntmps192 mxd (Aq @IT.eq_1 results192) rfl (fun qJ B qX qQ=> ?_);simp only[Am,List.nil_append];exact Au Aa Aa Aa
 | x::l,hl =>
  refine Bj [] [(5,0,1)] IT func192 call192 ntmps192 mxd (Aq @IT.eq_1 results192) rfl (fun qJ B qX qQ=> ?_);simp only[List.length_cons]at hl;have vW:(l.length+1)*8<=150000000000000:=by omega
  have kM:l.length<9223372036854775807:=by omega
  simp only[Am,List.nil_append,List.map_cons,Cg,Cl];exact Au Aa Aa Aa
def IS : Ann:=⟨[5],[]⟩
theorem iR (l:List Arc) (hl:l.length*32<=140737488355328):AS prog (.func 193) [Hw l] [] (.osl 0 1) [⟨0,1,.row 97 4 32 (l.map CO)⟩]:=by
 match l,hl with
 | [],_ =>
  refine Uv ?_ ?_
  ·refine JC ?_;refine Ac [] IS func193 call193 ntmps193 mxd (Aq @IS.eq_1 results193) rfl (fun qJ B qX qQ=> ?_);simp only[Am];exact Au Aa Aa Aa
  ·refine Bj [] [(5,0,1)] IS func193 call193 ntmps193 mxd (Aq @IS.eq_1 results193) rfl (fun qJ B qX qQ=> ?_);simp only[Am,List.nil_append];exact Au Aa Aa Aa
 | x::l,hl =>
  refine Bj [] [(5,0,1)] IS func193 call193 ntmps193 mxd (Aq @IS.eq_1 results193) rfl (fun qJ B qX qQ=> ?_);simp only[List.length_cons]at hl;have vW:(l.length+1)*32<=150000000000000:=by omega
  have kM:l.length<9223372036854775807:=by omega
  simp only[Am,List.nil_append,List.map_cons,Hw,CO];exact Au Aa Aa Aa
theorem Zi {α β:Type} {l:List α} {i:Nat} {x:α} (f:α->β) (g:α->α) (h:l[i]? =some x):(((l.take i).map g++l.drop i).map f).set i (f (g x))=((l.take (i+1)).map g++l.drop (i+1)).map f:=by
 obtain⟨hi,rfl⟩:=aB0.1 h;have h2:((l.take i).map g).length=i:=by rw[aL0,bE0];omega
 have h3:((l.take i).map g++l.drop i).set i (g l[i])=(l.take (i+1)).map g++l.drop (i+1):=by
  rw[List.set_append,if_neg (by omega),h2,dZ0,aW0 hi,eF0,bF0,aH0 hi,bA0,aQ0];rfl
 rw[<-eU0,h3]
theorem HW_ {α:Type} {l:List α} {i:Nat} {x:α} (g:α->α) (h:l[i]? =some x):((l.take i).map g++l.drop i)[i]? =some x:=by
 obtain⟨hi,rfl⟩:=aB0.1 h;have h2:((l.take i).map g).length=i:=by rw[aL0,bE0];omega
 rw[bD0 (by omega),h2,dZ0,dD0];simp[hi]
theorem Cd_ {α:Type} (l:List α) (i:Nat) (g:α->α) (h:i<=l.length):((l.take i).map g++l.drop i).length=l.length:=by
 rw[aD0,aL0,bE0,bW0];omega
def UU (f:Nat) (l:List Int) (i:Nat):List Int:=(l.take i).map (mvF f)++l.drop i
def UV (g:Arc->Arc) (l:List Arc) (i:Nat):List Arc:=(l.take i).map g++l.drop i
def UR (f:Nat) (l:List Int):List Int:=l.map (mvF f)
def US (f:Nat) (l:List Arc):List Arc:=l.map (tV f)
theorem EV_ (f:Nat) (l:List Int):UU f l 0=l:=by simp[UU]
theorem HX_ (f:Nat) (l:List Int):UU f l l.length=UR f l:=by simp[UU,UR]
theorem EW_ (g:Arc->Arc) (l:List Arc):UV g l 0=l:=by simp[UV]
theorem HY_ (f:Nat) (l:List Arc):UV (tV f) l l.length=US f l:=by simp[UV,US]
def rS : Ann:=⟨[8],[]⟩
theorem Yk (a:Auto) (f:Nat) (h:SmA a) (hf:f<=1040):Ad prog 117 [.agg (Uy (a,f))] (Cg (UR f a.fin)):=by
 refine Ac [8] rS func117 call117 ntmps117 mxd (Aq @rS.eq_1 results117) rfl (fun qJ B qX qQ=> ?_);clear qJ;simp only[Am];have hfi:=h.fi;have qL:=Nl h.ok;have e1:=iQ a.fin (by omega);have z0:=EV_ f a.fin
 (refine AM Aa (AA (Ee [] [(8,0)] e1)) (AA @Uy.eq_1) ?_;intros;refine Aj ?_)
 refine Ak (X:={i:Nat//i<=a.fin.length}) (fun i=>⟨[(1,.ref [.int .i64 a.st,Cg a.fin,Hw a.arcs,.int .i64 (f:Int)]),(3,.osl 8 1),(10,.int .i64 a.fin.length),(11,.int .i64 i.1)],[⟨8,1,.row 3 1 8 ((UU f a.fin i.1).map Cl)⟩]⟩) (fun i=>a.fin.length-i.1) ⟨0,by simp⟩ (Sub.lit (by simp[z0])) ?_;rintro⟨i,hi⟩;simp only
 by_cases qV:i<a.fin.length
 ·obtain⟨q,hq,yE,nF⟩:=Aw qV;have hqk:=Hx_ h.ok nF;have s1:((UU f a.fin i).map Cl).set i [.int .i64 ((f:Int)+q)]=(UU f a.fin (i+1)).map Cl:=Zi Cl (mvF f) hq;have m1:(UU f a.fin i)[i]? =some q:=HW_ (mvF f) hq;have m2:(UU f a.fin i).length=a.fin.length:=Cd_ a.fin i (mvF f) hi;obtain⟨Z,hZ⟩:∃Z,Z=UU f a.fin i:=⟨_,rfl⟩;rw[<-hZ]at s1 m1 m2 |-;have zG:i<Z.length:=by omega
  have m1':Z[i]'zG=q:=(aB0.1 m1).2;have jQ:IntKind.i64.wrap ((i:Int)+1)=(i:Int)+1:=wq;have hwq:IntKind.i64.wrap (q+(f:Int))=(f:Int)+q:=by rw[wq];omega
  (refine AM Aa Aa (ML @Cl.eq_1 qV m1 m1' zG jQ hwq s1) ?_;intros;refine Aj ?_)
  refine Al.mk ⟨i+1,by omega⟩ (Sub.lit (by simp)) (by simp;omega)
  skip
 ·have qZ:i=a.fin.length:=by omega
  subst qZ;rw[HX_];exact Au Aa Aa Aa
def rR : Ann:=⟨[8],[]⟩
theorem UQ (a:Auto) (f:Nat) (h:SmA a) (hf:f<=1040):Ad prog 119 [.agg (Uy (a,f))] (Hw (US f a.arcs)):=by
 refine Ac [8] rR func119 call119 ntmps119 mxd (Aq @rR.eq_1 results119) rfl (fun qJ B qX qQ=> ?_);clear qJ;simp only[Am];have har:=h.ar;have qL:=Nl h.ok;have e1:=iR a.arcs (by omega);have z0:=EW_ (tV f) a.arcs
 (refine AM Aa (AA (Ee [] [(8,0)] e1)) (AA @Uy.eq_1) ?_;intros;refine Aj ?_)
 refine Ak (X:={i:Nat//i<=a.arcs.length}) (fun i=>⟨[(1,.ref [.int .i64 a.st,Cg a.fin,Hw a.arcs,.int .i64 (f:Int)]),(3,.osl 8 1),(10,.int .i64 a.arcs.length),(11,.int .i64 i.1)],[⟨8,1,.row 97 4 32 ((UV (tV f) a.arcs i.1).map CO)⟩]⟩) (fun i=>a.arcs.length-i.1) ⟨0,by simp⟩ (Sub.lit (by simp[z0])) ?_;rintro⟨i,hi⟩;simp only
 by_cases qV:i<a.arcs.length
 ·obtain⟨x,hx,qG,vN⟩:=Aw qV;have hxk:=Hy_ h.ok vN;have s1:((UV (tV f) a.arcs i).map CO).set i [.int .i64 ((f:Int)+x.fr),.bool x.sy.label,.int .i64 x.sy.n,.int .i64 ((f:Int)+x.to)]=(UV (tV f) a.arcs (i+1)).map CO:=Zi CO (tV f) hx;have m1:(UV (tV f) a.arcs i)[i]? =some x:=HW_ (tV f) hx;have m2:(UV (tV f) a.arcs i).length=a.arcs.length:=Cd_ a.arcs i (tV f) hi;obtain⟨Z,hZ⟩:∃Z,Z=UV (tV f) a.arcs i:=⟨_,rfl⟩
  rw[<-hZ]at s1 m1 m2 |-;have zG:i<Z.length:=by omega
  have m1':Z[i]'zG=x:=(aB0.1 m1).2;have jQ:IntKind.i64.wrap ((i:Int)+1)=(i:Int)+1:=LY_ qV har;have hwq:IntKind.i64.wrap (x.fr+(f:Int))=(f:Int)+x.fr:=by rw[wq];omega
  have jS:IntKind.i64.wrap (x.to+(f:Int))=(f:Int)+x.to:=by rw[wq];omega
  clear qL har hxk hf
  (refine AM Aa Aa (YC @CO.eq_1 qV m1 m1' zG jQ hwq jS s1) ?_;intros;refine Aj ?_)
  refine Al.mk ⟨i+1,by omega⟩ (Sub.lit (by simp)) (by simp;omega)
  skip
 ·have qZ:i=a.arcs.length:=by omega
  subst qZ;rw[HY_];exact Au Aa Aa Aa
def rP : Ann:=⟨[],[]⟩
theorem Dq (H L:List ByteArray) (xs:List Auto):Ad prog 113 [Dk H L xs] (.bool true):=by
 refine Ac [] rP func113 call113 ntmps113 mxd (Aq @rP.eq_1 results113) rfl (fun qJ B qX qQ=> ?_);clear qJ;simp only[Am,Dk];exact Au Aa Aa Aa
def Df_ : Ann:=⟨[],[]⟩
theorem UD (H L:List ByteArray) (xs:List Auto):Ad prog 36 [Dk H L xs] (.int .i64 (Bb xs)):=by
 refine Ac [] Df_ func36 call36 ntmps36 mxd (Aq @Df_.eq_1 results36) rfl (fun qJ B qX qQ=> ?_);clear qJ;have e1:=Dq H L xs;simp only[Am,Dk]at e1 |-;exact Au (AA e1) Aa Aa
def De_ : Ann:=⟨[],[]⟩
theorem UT (H L:List ByteArray) (xs:List Auto):Ad prog 37 [Dk H L xs] (Bg H):=by
 refine Ac [] De_ func37 call37 ntmps37 mxd (Aq @De_.eq_1 results37) rfl (fun qJ B qX qQ=> ?_);clear qJ;have e1:=Dq H L xs;have e2:=Jl H L;simp only[Am,Dk]at e1 |-;exact Au (Aq e1 e2) Aa Aa
def Ph (P:List (Auto×Nat)):List Int:=P.flatMap fun p=>UR p.2 p.1.fin
def Pq (P:List (Auto×Nat)):List Arc:=P.flatMap fun p=>US p.2 p.1.arcs
theorem FD_ {P:List (Auto×Nat)} {i:Nat} {p:Auto×Nat} (h:P[i]? =some p):Ph (P.take (i+1))=Ph (P.take i)++UR p.2 p.1.fin:=by
 unfold Ph;rw[bF0,h,List.flatMap_append];simp
theorem Gf_ {P:List (Auto×Nat)} {i:Nat} {p:Auto×Nat} (h:P[i]? =some p):Pq (P.take (i+1))=Pq (P.take i)++US p.2 p.1.arcs:=by
 unfold Pq;rw[bF0,h,List.flatMap_append];simp
theorem eY : ∀{P:List (Auto×Nat)},(∀p∈P,SmA p.1)->(Ph P).length<=65*P.length
 | [],_=>by simp[Ph]
 | p::P,h=>by
  have h1:=(h p aE0).fi;have h2:=eY (P:=P) fun x hx=>h x (aC0 _ hx)
  have h3:Ph (p::P)=UR p.2 p.1.fin++Ph P:=by simp[Ph]
  rw[h3,aD0,List.length_cons];unfold UR;rw[aL0];omega
theorem lB : ∀{P:List (Auto×Nat)},(∀p∈P,SmA p.1)->(Pq P).length<=1073741888*P.length
 | [],_=>by simp[Pq]
 | p::P,h=>by
  have h1:=(h p aE0).ar;have h2:=lB (P:=P) fun x hx=>h x (aC0 _ hx)
  have h3:Pq (p::P)=US p.2 p.1.arcs++Pq P:=by simp[Pq]
  rw[h3,aD0,List.length_cons];unfold US;rw[aL0];omega
theorem II_ (xs:List Auto):Ph (BZ 0 xs)=Qq xs:=rfl
theorem Js_ (xs:List Auto):Pq (BZ 0 xs)=NZ xs:=rfl
theorem GI : ∀{xs:List Auto} {f:Nat} {p:Auto×Nat},p∈BZ f xs->p.1∈xs/\p.2<=f+Bb xs
 | [],_,_,h=>by simp[BZ]at h
 | a::xs,f,p,h=>by
  have h3:Bb (a::xs)=a.st.toNat+Bb xs:=by simp[Bb]
  rw[BZ]at h
  rcases aJ0.1 h with rfl | h
  ·exact⟨aE0,by simp only;omega⟩
  ·have:=GI h;exact⟨aC0 _ this.1,by omega⟩
theorem Of_ {a b:Nat} (h1:a<=17179870208) (h2:b<=1073741888):(a+b)*32<=150000000000000:=by omega
def KT : Ann:=⟨[],[⟨5,[7],[],[]⟩]⟩
theorem Az_ (H L:List ByteArray) (xs:List Auto) (h:∀a∈xs,SmA a) (hl:xs.length<=16):Ad prog 118 [Dk H L xs,.fn (.func 119) [] []] (Hw (NZ xs)):=by
 refine Ac [50] KT func118 call118 ntmps118 mxd (Aq @KT.eq_1 results118) rfl (fun qJ B qX qQ=> ?_);clear qJ;have e1:=Dq H L xs;have hsl:=KZ (l:=xs) fun a ha=>(h a ha).ok
 have nD:Bb xs<=1040:=Nat.le_trans hsl (cE0 65 hl);have yY:=GJ xs 0
 have hP:∀p∈BZ 0 xs,SmA p.1/\p.2<=1040:=fun p hp=>by
  have:=GI hp;exact⟨h _ this.1,by omega⟩
 rw[<-Js_];simp only[Am,Dk]at e1 |-;obtain⟨P,hPP⟩:∃P,P=BZ 0 xs:=⟨_,rfl⟩;rw[<-hPP]at e1 hP yY |-;clear hPP hsl h
 iterate 6 ((first | refine AE fun K hK=> ?_ | (refine Bv KT mxd (by kernel_rfl) ?_;simp[KT,qX];try simp (disch:=omega) only[Af]) | refine An ?_ | (refine AW ?_ ?_ ?_;(· (simp[qX];done));(try (rotate_left;(· (intro hc;(try simp[qX]at hc);done))))) | (refine AH ?_;simp[results118,qX]) | ((first | refine Ay ?_ | refine Ax ?_);simp[qX]) | (intro hc;(try simp[qX]at hc);(try (exfalso;omega))) | (refine⟨?_,?_⟩; · omega) | omega | apply_assumption -exfalso -symm | (exfalso;omega)))
 refine BY 5 50 97 4 32 (by simp[qX,results118,KT]) (fun n=> ?_)
 (refine AM (AA e1) Aa Aa ?_;intros;refine Aj ?_)
 refine Ak (X:={i:Nat//i<=P.length}) (fun i=>⟨[(1,.fn (.func 119) [] []),(5,.osl 50 1),(13,AE_ P),(14,.int .i64 P.length),(15,.int .i64 i.1)],[⟨50,1,.row 97 4 32 ((Pq (P.take i.1)).map CO)⟩]⟩) (fun i=>P.length-i.1) ⟨0,by simp⟩ (Sub.lit (by simp[Pq])) ?_;rintro⟨i,hi⟩;simp only
 by_cases qV:i<P.length
 ·obtain⟨p,hp,qN,zU⟩:=Aw qV;obtain⟨k1,k2⟩:=hP p zU;obtain⟨a,f⟩:=p;have e2:=UQ a f k1 k2;have wT:=congrArg (List.map CO) (Gf_ hp);rw[bA0]at wT;have har:a.arcs.length<=1073741888:=k1.ar;have kJ:(US f a.arcs).length=a.arcs.length:=by unfold US;rw[aL0]
  have gM:=lB (P:=P.take i) fun x hx=>(hP x (cG0 hx)).1
  have h16:(P.take i).length<=16:=by rw[bE0];omega
  have nA:(Pq (P.take i)).length<=17179870208:=Nat.le_trans gM (cE0 1073741888 h16);clear gM;obtain⟨T,hT⟩:∃T,T=Pq (P.take i):=⟨_,rfl⟩;rw[<-hT]at wT nA |-;obtain⟨V,hV⟩:∃V,V=US f a.arcs:=⟨_,rfl⟩;simp only at wT;rw[<-hV]at e2 wT kJ;have hb:(T.length+V.length)*32<=150000000000000:=Of_ nA (by omega);have jQ:IntKind.i64.wrap ((i:Int)+1)=(i:Int)+1:=wq;simp only[Uy]at e2;clear hP k1 k2 yY hT hV
  (refine AM (AA e2) Aa (JT @Uy.eq_1 qV hp qN hb jQ) ?_;intros;refine Aj ?_)
  refine Al.mk ⟨i+1,by omega⟩ (Sub.lit (by simp[wT])) (by simp;omega)
  skip
 ·have qZ:i=P.length:=by omega
  subst qZ;rw[aY0];exact Au Aa Aa Aa
def KU : Ann:=⟨[],[⟨5,[7],[],[]⟩]⟩
theorem Ay_ (H L:List ByteArray) (xs:List Auto) (h:∀a∈xs,SmA a) (hl:xs.length<=16):Ad prog 116 [Dk H L xs,.fn (.func 117) [] []] (Cg (Qq xs)):=by
 refine Ac [50] KU func116 call116 ntmps116 mxd (Aq @KU.eq_1 results116) rfl (fun qJ B qX qQ=> ?_);clear qJ;have e1:=Dq H L xs;have hsl:=KZ (l:=xs) fun a ha=>(h a ha).ok
 have nD:Bb xs<=1040:=Nat.le_trans hsl (cE0 65 hl);have yY:=GJ xs 0
 have hP:∀p∈BZ 0 xs,SmA p.1/\p.2<=1040:=fun p hp=>by
  have:=GI hp;exact⟨h _ this.1,by omega⟩
 rw[<-II_];simp only[Am,Dk]at e1 |-;obtain⟨P,hPP⟩:∃P,P=BZ 0 xs:=⟨_,rfl⟩;rw[<-hPP]at e1 hP yY |-;clear hPP hsl h
 iterate 6 ((first | refine AE fun K hK=> ?_ | (refine Bv KU mxd (by kernel_rfl) ?_;simp[KU,qX];try simp (disch:=omega) only[Af]) | refine An ?_ | (refine AW ?_ ?_ ?_;(· (simp[qX];done));(try (rotate_left;(· (intro hc;(try simp[qX]at hc);done))))) | (refine AH ?_;simp[results116,qX]) | ((first | refine Ay ?_ | refine Ax ?_);simp[qX]) | (intro hc;(try simp[qX]at hc);(try (exfalso;omega))) | (refine⟨?_,?_⟩; · omega) | omega | apply_assumption -exfalso -symm | (exfalso;omega)))
 refine BY 5 50 3 1 8 (by simp[qX,results116,KU]) (fun n=> ?_)
 (refine AM (AA e1) Aa Aa ?_;intros;refine Aj ?_)
 refine Ak (X:={i:Nat//i<=P.length}) (fun i=>⟨[(1,.fn (.func 117) [] []),(5,.osl 50 1),(13,AE_ P),(14,.int .i64 P.length),(15,.int .i64 i.1)],[⟨50,1,.row 3 1 8 ((Ph (P.take i.1)).map Cl)⟩]⟩) (fun i=>P.length-i.1) ⟨0,by simp⟩ (Sub.lit (by simp[Ph])) ?_;rintro⟨i,hi⟩;simp only
 by_cases qV:i<P.length
 ·obtain⟨p,hp,qN,zU⟩:=Aw qV;obtain⟨k1,k2⟩:=hP p zU;obtain⟨a,f⟩:=p;have e2:=Yk a f k1 k2;have wT:=congrArg (List.map Cl) (FD_ hp);rw[bA0]at wT;have har:a.fin.length<=65:=k1.fi;have kJ:(UR f a.fin).length=a.fin.length:=by unfold UR;rw[aL0]
  have gM:=eY (P:=P.take i) fun x hx=>(hP x (cG0 hx)).1
  have h16:(P.take i).length<=16:=by rw[bE0];omega
  have nA:(Ph (P.take i)).length<=1040:=Nat.le_trans gM (cE0 65 h16);clear gM;obtain⟨T,hT⟩:∃T,T=Ph (P.take i):=⟨_,rfl⟩;rw[<-hT]at wT nA |-;obtain⟨V,hV⟩:∃V,V=UR f a.fin:=⟨_,rfl⟩;simp only at wT;rw[<-hV]at e2 wT kJ;have hb:(T.length+V.length)*8<=150000000000000:=by omega
  have jQ:IntKind.i64.wrap ((i:Int)+1)=(i:Int)+1:=wq;simp only[Uy]at e2;clear hP k1 k2 yY hT hV
  (refine AM (AA e2) Aa (JT @Uy.eq_1 qV hp qN hb jQ) ?_;intros;refine Aj ?_)
  refine Al.mk ⟨i+1,by omega⟩ (Sub.lit (by simp[wT])) (by simp;omega)
  skip
 ·have qZ:i=P.length:=by omega
  subst qZ;rw[aY0];exact Au Aa Aa Aa
def Dd_ : Ann:=⟨[],[]⟩
theorem SB (H L:List ByteArray) (xs:List Auto) (h:∀a∈xs,SmA a) (hl:xs.length<=16):Ad prog 40 [Dk H L xs] (Cg (Qq xs)):=by
 refine Ac [] Dd_ func40 call40 ntmps40 mxd (Aq @Dd_.eq_1 results40) rfl (fun qJ B qX qQ=> ?_);clear qJ;have e1:=Ay_ H L xs h hl;simp only[Am,Dk]at e1 |-;exact Au (AA e1) Aa Aa
def Dc_ : Ann:=⟨[],[]⟩
theorem XU (H L:List ByteArray) (xs:List Auto) (h:∀a∈xs,SmA a) (hl:xs.length<=16):Ad prog 41 [Dk H L xs] (Hw (NZ xs)):=by
 refine Ac [] Dc_ func41 call41 ntmps41 mxd (Aq @Dc_.eq_1 results41) rfl (fun qJ B qX qQ=> ?_);clear qJ;have e1:=Az_ H L xs h hl;simp only[Am,Dk]at e1 |-;exact Au (AA e1) Aa Aa
theorem NS_ (g:List Rul) (hs:Fa g):∃c:Int,Ad prog 76 [AD g] (.int .i64 c)/\Ad prog 13 [AD g] (.int .i64 c)/\(c=0->∃gt,g=AZ gt/\OkgT gt):=by
 by_cases h:g.length<1\/64<g.length
 ·exact⟨180,Vb g h,Sk g h,by omega⟩
 ·cases ht:Fi g with
  | false=>exact⟨170,iS g (by omega) (by omega) hs ht,Xv g (by omega) (by omega) hs ht,by omega⟩
  | true =>
   obtain⟨gt,rfl,hk⟩:=YS ht;have hl:=Gh gt;exact⟨NK gt,AI_ gt (by omega) (by omega) hk hs,ZB gt (by omega) (by omega) hk hs,fun h0=>⟨gt,rfl,Kp_ hk (by omega) (by omega) h0⟩⟩
def atI (l:List Nat) (n:Int):Int:=if 0<=n/\n<l.length then (l.getD n.toNat 0:Int)else -1
theorem Uc {l:List Nat} {k x:Nat} (h:l[k]? =some x):atI l k=x:=by
 have hk:=(aB0.1 h).1;unfold atI;rw[if_pos ⟨by omega,by omega⟩,dI0,bJ0,h];rfl
theorem NX {l:List Nat} {n:Int} (h:¬(0<=n/\n<l.length)):atI l n= -1:=by unfold atI;rw[if_neg h]
def Da_ : Ann:=⟨[],[]⟩
theorem Xb (H L:List ByteArray) (xs:List Auto) (n:Int):Ad prog 39 [Dk H L xs,.int .i64 n] (.int .i64 (atI (Oy xs) n)):=by
 refine Ac [] Da_ func39 call39 ntmps39 mxd (Aq @Da_.eq_1 results39) rfl (fun qJ B qX qQ=> ?_);clear qJ;have e1:=Dq H L xs;simp only[Am,Dk]at e1 |-;have hl:(Oy xs).length=(BZ 0 xs).length:=by rw[Bz_,GJ]
 have qL:∀(k:Nat) (p:Auto×Nat),(BZ 0 xs)[k]? =some p->(Oy xs)[k]? =some p.2:=fun k p h=>by unfold Oy;rw[bN0,h];rfl
 obtain⟨S,hS⟩:∃S,S=Oy xs:=⟨_,rfl⟩;rw[<-hS]at hl qL |-;obtain⟨P,hP⟩:∃P,P=BZ 0 xs:=⟨_,rfl⟩;rw[<-hP]at e1 hl qL |-;clear hS hP
 by_cases h0:n<0
 ·rw[NX (by omega)];exact Au (AA e1) Aa (AA h0)
 ·by_cases h1:n<P.length
  ·obtain⟨k,rfl⟩:∃k:Nat,n=(k:Int):=⟨n.toNat,by omega⟩;have qV:k<P.length:=by omega
   obtain⟨p,hx,qG,vN⟩:=Aw qV;rw[Uc (qL k p hx)];have h2:¬(P.length:Int)<=(k:Int):=by omega
   exact Au (AA e1) Aa (JB @Uy.eq_1 h0 h1 h2 qV hx qG)
  ·rw[NX (by omega)];have h2:(P.length:Int)<=n:=by omega
   exact Au (AA e1) Aa (Ez h0 h1 h2)
def rK : Ann:=⟨[],[]⟩
theorem xR (n:Int) (p:Auto×Nat) (h:SmA p.1) (hf:p.2<=1040):Ad prog 115 [.agg (Uy p),.ref [.int .i64 n]] (.bool (decide (n<(p.2:Int)+p.1.st))):=by
 refine Ac [] rK func115 call115 ntmps115 mxd (Aq @rK.eq_1 results115) rfl (fun qJ B qX qQ=> ?_);clear qJ;have qL:=Nl h.ok;have hw:IntKind.i64.wrap ((p.2:Int)+p.1.st)=(p.2:Int)+p.1.st:=wq;simp only[Am];exact Au Aa Aa (Aq @Uy.eq_1 hw)
def ZU (n:Int) (p:Auto×Nat):Bool:=decide (n<(p.2:Int)+p.1.st)
def Oj : Ann:=⟨[],[]⟩
theorem xQ (n:Int) (P:List (Auto×Nat)) (hP:∀p∈P,SmA p.1/\p.2<=1040) (hl:P.length<=16):Ad prog 114 [AE_ P,.fn (.func 115) [] [.ref [.int .i64 n]]] (.int .i64 (if P.any (ZU n)then ((P.findIdx (ZU n):Nat):Int)else -1)):=by
 refine Ac [] Oj func114 call114 ntmps114 mxd (Aq @Oj.eq_1 results114) rfl (fun qJ B qX qQ=> ?_);clear qJ;simp only[Am]
 (refine AM Aa Aa Aa ?_;intros;refine Aj ?_)
 refine Ak (X:={k:Nat//k<=P.length/\∀i x,i<k->P[i]? =some x->ZU n x=false}) (fun x=>⟨[(0,AE_ P),(1,.fn (.func 115) [] [.ref [.int .i64 n]]),(7,.int .i64 P.length),(8,.int .i64 x.1)],[]⟩) (fun x=>P.length-x.1) ⟨0,by simp⟩ (Sub.lit (by simp)) ?_;rintro⟨k,hk,vA⟩
 by_cases qV:k<P.length
 ·obtain⟨x,hx,qG,vN⟩:=Aw qV;have zK:Ad prog 115 [.agg (Uy x),.ref [.int .i64 n]] (.bool (ZU n x)):=xR n x (hP x vN).1 (hP x vN).2;simp only[Uy]at zK;clear hP;cases hb:ZU n x
  ·rw[hb]at zK
   have fQ:∀i y,i<k+1->P[i]? =some y->ZU n y=false:=by
    intro i y hi hy
    by_cases gZ:i=k
    ·subst gZ;rw[hx]at hy;simp only[aA0]at hy;subst hy;exact hb
    ·exact vA i y (by omega) hy
   (refine AM (AA zK) Aa (Ez @Uy.eq_1 qV qG) ?_;intros;refine Aj ?_)
   exact Al.mk ⟨k+1,by omega,fQ⟩ (Sub.lit (by simp[])) (by simp;omega)
   skip
  ·rw[hb]at zK;have wU:P.any (ZU n)=true:=cM0.2 ⟨x,vN,hb⟩
   have bX:P.findIdx (ZU n)=k:=by
    rw[List.findIdx_eq qV];refine⟨by rw[qG];exact hb,fun i hi=> ?_⟩;exact vA i _ hi (aH0 (by omega))
   exact Au (AA zK) Aa (Ja @Uy.eq_1 qV qG wU bX)
 ·have qZ:k=P.length:=by omega
  have wU:P.any (ZU n)=false:=by
   rw[dA0];intro x hx;obtain⟨i,hi,rfl⟩:=bK0 hx;rw[vA i _ (by omega) (aH0 hi)];simp
  (repeat (first | refine AE fun K hK=> ?_ | (refine Bv Oj mxd (by kernel_rfl) ?_;simp[Oj,qX,qZ,wU];try simp (disch:=omega) only[Af]) | refine An ?_ | (refine AW ?_ ?_ ?_;(· (simp[qX,qZ,wU];done));(try (rotate_left;(· (intro hc;(try simp[qX,qZ,wU]at hc);done))))) | (refine AH ?_;simp[results114,qX,qZ,wU]) | ((first | refine Ay ?_ | refine Ax ?_);simp[qX,qZ,wU]) | (intro hc;(try simp[qX,qZ,wU]at hc);(try (exfalso;omega))) | ((first | refine Ai (zK) ?_ | (refine Ah (zK) ?_ ?_;(· (simp;done))));try simp[qX,qZ,wU]) | (refine⟨?_,?_⟩; · omega) | omega | apply_assumption -exfalso -symm | (exfalso;omega)))
theorem HI_ : ∀(xs:List Auto) (f b n:Nat),(∀a∈xs,1<=a.st)->f<=n->n<f+Bb xs->∃k,((xs.zipIdx b).flatMap fun p=>List.replicate p.1.st.toNat p.2)[n-f]? =some (b+k)/\(BZ f xs).findIdx (ZU n)=k/\(BZ f xs).any (ZU n)=true
 | [],f,b,n,_,h1,h2=>by simp[Bb]at h2;omega
 | a::xs,f,b,n,qL,h1,h2=>by
  have h3:Bb (a::xs)=a.st.toNat+Bb xs:=by simp[Bb]
  have h4:=qL a aE0;rw[BZ,fA0,cO0];simp only
  by_cases hn:n<f+a.st.toNat
  ·have hq:ZU n (a,f)=true:=by unfold ZU;simp only[decide_eq_true_eq];omega
   refine⟨0,?_,by rw[List.findIdx_cons,hq];rfl,by rw[List.any_cons,hq];rfl⟩;rw[aZ0 (by rw[dH0];omega),eG0,if_pos (by omega)];rfl
  ·have hq:ZU n (a,f)=false:=by unfold ZU;simp only[decide_eq_false_iff_not];omega
   obtain⟨k,k1,k2,k3⟩:=HI_ xs (f+a.st.toNat) (b+1) n (fun x hx=>qL x (aC0 _ hx)) (by omega) (by omega);refine⟨k+1,?_,by rw[List.findIdx_cons,hq,k2];rfl,by rw[List.any_cons,hq,k3];rfl⟩;rw[bD0 (by rw[dH0];omega),dH0,Nat.sub_sub,k1]
   congr 1
   omega
def Db_ : Ann:=⟨[],[]⟩
theorem EL_ (H L:List ByteArray) (xs:List Auto) (h:∀a∈xs,SmA a) (hl:xs.length<=16) (n:Int):Ad prog 38 [Dk H L xs,.int .i64 n] (.int .i64 (atI (ntL xs) n)):=by
 refine Ac [] Db_ func38 call38 ntmps38 mxd (Aq @Db_.eq_1 results38) rfl (fun qJ B qX qQ=> ?_);clear qJ;have e1:=Dq H L xs;have hsl:=KZ (l:=xs) fun a ha=>(h a ha).ok
 have nD:Bb xs<=1040:=Nat.le_trans hsl (cE0 65 hl);have yY:=GJ xs 0;have e2:=xQ n (BZ 0 xs) (fun p hp=>by have:=GI hp;exact⟨h _ this.1,by omega⟩) (by omega);have pP:=XJ xs
 have pX:∀k:Nat,k<Bb xs->(BZ 0 xs).any (ZU k)=true/\(ntL xs)[k]? =some ((BZ 0 xs).findIdx (ZU k)):=fun k hk=>by
  obtain⟨j,j1,j2,j3⟩:=HI_ xs 0 0 k (fun a ha=>(Nl (h a ha).ok).1) (by omega) (by omega);refine⟨j3,?_⟩;unfold ntL;rw[j2];simpa using j1
 simp only[Am,Dk]at e1 |-;obtain⟨N,hN⟩:∃N,N=ntL xs:=⟨_,rfl⟩;rw[<-hN]at pP pX |-;obtain⟨S,hS⟩:∃S,S=Bb xs:=⟨_,rfl⟩;rw[<-hS]at e1 pP pX nD |-;obtain⟨P,hP⟩:∃P,P=BZ 0 xs:=⟨_,rfl⟩;rw[<-hP]at e1 e2 pX |-;clear hN hS hP hsl h
 by_cases h0:n<0
 ·rw[NX (by omega)];exact Au (AA e1) Aa (AA h0)
 ·by_cases h1:n<S
  ·obtain⟨k,rfl⟩:∃k:Nat,n=(k:Int):=⟨n.toNat,by omega⟩;obtain⟨l1,l2⟩:=pX k (by omega);rw[Uc l2];rw[if_pos l1]at e2;have h2:¬(S:Int)<=(k:Int):=by omega
   exact Au (Aq e1 e2) Aa (Ez h0 h1 h2)
  ·rw[NX (by omega)];have h2:(S:Int)<=n:=by omega
   exact Au (AA e1) Aa (Ez h0 h1 h2)
end Go.Proofs.Wy
end
section
namespace Go.Proofs.Wy
open Go Go.Dm Tryz
variable [DMode]
attribute [local irreducible] DW Bi Bk
set_option maxRecDepth 100000
def lW : Ann:=⟨[],[]⟩
theorem AN_ (x y:Sym):Ad prog 197 [.agg (Az x),.agg (Az y)] (.int .i64 (JY x y)):=by
 refine Ac [] lW func197 call197 ntmps197 mxd (Aq @lW.eq_1 results197) rfl (fun qJ B qX qQ=> ?_);simp only[Am];cases h1:x.label<;>cases h2:y.label<;>exact Au (AA (Db x.n y.n)) Aa (EU @Az.eq_1 h1 h2 @JY.eq_1)
def lX : Ann:=⟨[],[⟨3,[8],[],[]⟩,⟨6,[9],[],[]⟩]⟩
theorem LI (g:FuncId) (c:Sym->Sym->Int) (a b:List Sym) (hg:∀x∈a,∀y∈b,Ad prog g [.agg (Az x),.agg (Az y)] (.int .i64 (c x y))) :
  Ad prog 196 [Br a,Br b,.fn (.func g) [] []] (.int .i64 (Gm c a b)):=by
 refine Ac [] lX func196 call196 ntmps196 mxd (Aq @lX.eq_1 results196) rfl (fun qJ B qX qQ=> ?_);have hw:Vk a:=Rr qJ.1;have hw':Vk b:=Rr qJ.2.1;obtain⟨wR,gA,nN⟩:=hw;obtain⟨gY,hv2,hv3⟩:=hw';clear qJ;simp only[Am];obtain⟨r,hr⟩:∃r,r=Gm c a b:=⟨_,rfl⟩;rw[<-hr]
 (refine AM Aa Aa Aa ?_;intros;refine Aj ?_)
 refine Ak (X:={k:Nat//k<=a.length/\k<=b.length/\r=Gm c (a.drop k) (b.drop k)}) (fun k=>⟨[(0,Br a),(1,Br b),(2,.fn (.func g) [] []),(11,Br a),(12,.int .i64 a.length),(13,.int .i64 k.1)],[]⟩) (fun k=>a.length-k.1) ⟨0,by simp[hr]⟩ (Sub.lit (by simp)) ?_;rintro⟨k,hk,zZ,vK⟩;clear hr
 by_cases qV:k<a.length
 ·obtain⟨x,hx,qG,vN⟩:=Aw qV
  by_cases jJ:k<b.length
  ·obtain⟨y,hy,zM,bS⟩:=Aw jJ;have bT:=hg x vN y bS;simp only[Az]at bT;have yR:=Lq_ (c:=c) hx hy;have wY:¬b.length<=k:=by omega
   by_cases h0:c x y=0
   ·rw[if_pos h0]at yR;have hd:=vK.trans yR
    (refine AM (AA bT) Aa (JB @Az.eq_1 qV jJ wY qG zM h0) ?_;intros;refine Aj ?_)
    refine Al.mk ⟨k+1,by omega,by omega,hd⟩ (Sub.lit (by simp)) (by simp;omega)
    skip
   ·rw[if_neg h0]at yR;have hd:=vK.trans yR;have vP:(c x y != 0)=true:=by simpa using h0
    exact Au (AA bT) Aa (YC @Az.eq_1 qV jJ wY qG zM h0 vP hd)
  ·have jU:b.length<=k:=by omega
   have hd:=vK.trans (Lp_ (c:=c) qV jU);exact Au Aa Aa (Ja @Az.eq_1 qV jU qG hd)
 ·have jU:a.length<=k:=by omega
  have hka:k=a.length:=by omega
  subst hka;have yR:=Lo_ (c:=c) (b:=b) jU
  by_cases h:a.length<b.length
  ·rw[if_pos h]at yR;have hd:=vK.trans yR;exact Au Aa Aa (Aq h hd)
  ·rw[if_neg h]at yR;have hd:=vK.trans yR;exact Au Aa Aa (Aq h hd)
def LO (a b:List Sym):Int:=Gm JY a b
def Fe (p q:Prod):Int:=if Fy p.head q.head=0 then (if Fy p.body.length q.body.length=0 then LO p.body q.body else Fy p.body.length q.body.length)else Fy p.head q.head
def Oc : Ann:=⟨[],[]⟩
theorem Sp (p q:Prod):Ad prog 123 [.agg (Ag p),.agg (Ag q)] (.int .i64 (Fe p q)):=by
 refine Ac [] Oc func123 call123 ntmps123 mxd (Aq @Oc.eq_1 results123) rfl (fun qJ B qX qQ=> ?_);simp only[Am];have h1:=LI 197 JY p.body q.body (fun x _ y _=>AN_ x y);have h2:=ZN (Fy p.head q.head) (Fy p.body.length q.body.length) (LO p.body q.body);simp only[LO]at h2
 (repeat (first | refine AE fun K hK=> ?_ | (refine Bv Oc mxd (by kernel_rfl) ?_;simp[Oc,qX,Ag,Fe,LO];try simp (disch:=omega) only[Af]) | refine An ?_ | (refine AW ?_ ?_ ?_;(· (simp[qX,Ag,Fe,LO];done));(try (rotate_left;(· (intro hc;(try simp[qX,Ag,Fe,LO]at hc);done))))) | (refine AH ?_;simp[results123,qX,Ag,Fe,LO]) | ((first | refine Ay ?_ | refine Ax ?_);simp[qX,Ag,Fe,LO]) | (intro hc;(try simp[qX,Ag,Fe,LO]at hc);(try (exfalso;omega))) | ((first | refine Ai (Db p.head q.head) ?_ | refine Ai (Db p.body.length q.body.length) ?_ | refine Ai (h1) ?_ | refine Ai (h2) ?_ | (refine Ah (Db p.head q.head) ?_ ?_;(· (simp;done))) | (refine Ah (Db p.body.length q.body.length) ?_ ?_;(· (simp;done))) | (refine Ah (h1) ?_ ?_;(· (simp;done))) | (refine Ah (h2) ?_ ?_;(· (simp;done))));try simp[qX,Ag,Fe,LO]) | (refine⟨?_,?_⟩; · omega) | omega | apply_assumption -exfalso -symm | (exfalso;omega)))
def lY : Ann:=⟨[],[]⟩
theorem Eh_ (p q:Prod):Ad prog 125 [.agg (Ag p),.agg (Ag q)] (.bool (Fe p q==0)):=by
 refine Ac [] lY func125 call125 ntmps125 mxd (Aq @lY.eq_1 results125) rfl (fun qJ B qX qQ=> ?_);simp only[Am];have h1:=Sp p q;exact Au (AA h1) Aa (AA @Ag.eq_1)
end Go.Proofs.Wy
end
section
namespace Go.Proofs.Wy
open Go Go.Dm Tryz
variable [DMode]
theorem Jj : OrdC Fe:=by
 have h:=Hu_ (Sq Ev_ (Sq Ev_ (OG_ Ht_))) (fun p:Prod=>(p.head,((p.body.length:Int),p.body))) (by
  rintro⟨l,n⟩ ⟨l',n'⟩ hh;simp only[_root_.Prod.mk.injEq]at hh;obtain⟨rfl,_,rfl⟩:=hh
  rfl)
 exact h
def GD_ : List DVal->Sym
 | [.bool b,.int _ n]=>⟨b,n⟩
 | _=>⟨false,0⟩
def WQ : List DVal->Prod
 | [.int _ h,.sl _ _ es]=>⟨h,es.map GD_⟩
 | _=>⟨0,[]⟩
theorem Kb_ (s:Sym):GD_ (Az s)=s:=rfl
theorem YR (p:Prod):WQ (Ag p)=p:=by
 obtain⟨h,b⟩:=p;simp only[WQ,Ag,cC0,aT0,true_and];rw[show GD_∘Az=id from funext Kb_,List.map_id]
end Go.Proofs.Wy
end
section
namespace Go.Proofs.Wy
open Go Go.Dm Tryz
variable [DMode]
attribute [local irreducible] DW Bi Bk
set_option maxRecDepth 100000
def IK : Ann:=⟨[],[]⟩
theorem TI (g:FuncId) (e:Prod->Prod->Bool) (l:List Prod) (he:∀x∈l,∀y∈l,Ad prog g [.agg (Ag x),.agg (Ag y)] (.bool (e x y))) :
  AS prog (.func 124) [.osl 0 0,.fn (.func g) [] []] [⟨0,0,.row 92 2 32 (l.map Ag)⟩] (BT (BA e l)) []:=by
 refine Gq [0] [] func124 rfl call124 (by simp[ntmps124]) (by simp) (by simp) ?_;intro qJ hwo B qX;have qQ:=CF_ IK mxd (Aq @IK.eq_1 results124);simp only[Am]
 have hl:l.length<=9223372036854775807:=by
  simp only[Vi,maxLen,aL0]at hwo;omega
 clear hwo
 by_cases vW:l.length<2
 ·have dQ:BA e l=l:=by
   match l,vW with
   | [],_=>rfl
   | [x],_=>rfl
  exact Au Aa Aa (Aq vW dQ)
 have mU:¬(l.length:Int)<2:=by omega
 obtain⟨R0,jW⟩:∃R0,R0=BA e l:=⟨_,rfl⟩;rw[<-jW]
 (refine AM Aa Aa (Aq vW mU) ?_;intros;refine Aj ?_)
 refine Ak (X:={k:Nat//1<=k/\k<=l.length/\BA e (l.take k)=l.take k}) (fun k=>⟨[(0,.osl 0 0),(1,.fn (.func g) [] []),(5,.int .i64 k.1)],[⟨0,0,.row 92 2 32 (l.map Ag)⟩]⟩) (fun k=>l.length-k.1) ⟨1,by
  obtain⟨x,t,rfl⟩:∃x t,l=x::t:=by
   cases l with
   | nil=>simp at vW
   | cons x t=>exact⟨x,t,rfl⟩
  simp[BA,Ci]⟩ (Sub.lit (by simp)) ?_
 rintro⟨k,kR,hk,dX⟩
 by_cases qV:k<l.length
 ·obtain⟨q,hq,yE,nF⟩:=Aw qV;obtain⟨p,hp,qN,zU⟩:=Aw (show k-1<l.length by omega);have nI:=he q nF p zU;simp only[Ag]at nI;have jS:IntKind.i64.wrap ((k:Int)-1)=(k:Int)-1:=wq;have zQ:((k:Int)-1).toNat=k-1:=by omega
  have hs:=Jv (e:=e) (by omega) hp hq;have wQ:(0:Int)<=(k:Int)-1:=by omega
  have wB:(k:Int)-1<l.length:=by omega
  cases bY:e q p
  ·rw[bY]at nI hs;simp only[aU0,if_false]at hs
   (refine AM (AA nI) Aa (MM @Ag.eq_1 qV yE qN hp hq zQ jS wQ wB) ?_;intros;refine Aj ?_)
   refine Al.mk ⟨k+1,by omega,by omega,by rw[hs,dX,bF0,hq];rfl⟩ (Sub.lit (by simp)) (by simp;omega)
   skip
  ·rw[bY]at nI hs;simp only[if_true,bR0]at hs
   (refine AM (AA nI) Aa (MM @Ag.eq_1 qV yE qN hp hq zQ jS wQ wB) ?_;intros;refine Aj ?_)
   clear jS zQ wQ wB
   refine Ak (X:={x:Nat×Nat×List Prod//1<=x.1/\k+x.1<=l.length/\x.2.1<k+x.1/\k<=x.2.1/\x.2.2.length=l.length/\x.2.2.take x.2.1=BA e (l.take (k+x.1))/\∀j,k+x.1<=j+1->x.2.2[j]? =l[j]?}) (fun x=>⟨[(0,.osl 0 0),(1,.fn (.func g) [] []),(5,.int .i64 x.1.2.1),(6,.vw 0 0 2 32 k (l.length-k)),(7,.int .i64 x.1.1)],[⟨0,0,.row 92 2 32 (x.1.2.2.map Ag)⟩]⟩) (fun x=>l.length-x.1.1)
    ⟨(1,k,l),show 1<=1/\k+1<=l.length/\k<k+1/\k<=k/\l.length=l.length/\l.take k=BA e (l.take (k+1))/\(∀j,k+1<=j+1->l[j]? =l[j]?) from ⟨by omega,by omega,by omega,by omega,rfl,by rw[hs,dX],fun _ _=>rfl⟩⟩ (Sub.lit (by simp)) ?_
   rintro⟨⟨m,kk,R⟩,x1,x2,x3,x4,x5,x6,x7⟩;simp only at x1 x2 x3 x4 x5 x6 x7 |-;have hv:k+(l.length-k)<=l.length:=by omega
   by_cases hm:m<l.length-k
   ·obtain⟨y,hy,zM,bS⟩:=Aw (show k+m<l.length by omega);obtain⟨z,hz,hz',hzm⟩:=Aw (show k+m-1<l.length by omega);obtain⟨c0,yW,_,_⟩:=Aw (show kk<R.length by omega);have hRy:R[k+m]? =some y:=by rw[x7 _ (by omega)];exact hy
    have hRz:R[k+(m-1)]? =some z:=by rw[x7 _ (by omega),show k+(m-1)=k+m-1 by omega];exact hz
    have mP:R[k+m]'(by omega)=y:=(aB0.1 hRy).2;have mK:R[k+(m-1)]'(by omega)=z:=(aB0.1 hRz).2;have nO:=he y bS z hzm;simp only[Ag]at nO;have jS:IntKind.i64.wrap ((m:Int)-1)=(m:Int)-1:=wq;have zQ:((m:Int)-1).toNat=m-1:=by omega
    have wQ:(0:Int)<=(m:Int)-1:=by omega
    have wB:(m:Int)-1<((l.length-k:Nat):Int):=by omega
    have vS:=Jv (e:=e) (by omega) hz hy;rw[<-x6]at vS;have qZ:kk<l.length:=by omega
    cases bV:e y z
    ·rw[bV]at nO vS;simp only[aU0,if_false]at vS
     (refine AM (AA nO) Aa (YD @Ag.eq_1 hm hRy hRz mP mK zQ jS wQ wB x5 hv yW qZ) ?_;intros;refine Aj ?_)
     refine Al.mk ⟨(m+1,kk+1,R.set kk y),show 1<=m+1/\k+(m+1)<=l.length/\kk+1<k+(m+1)/\k<=kk+1/\(R.set kk y).length=l.length/\(R.set kk y).take (kk+1)=BA e (l.take (k+(m+1)))/\(∀j,k+(m+1)<=j+1->(R.set kk y)[j]? =l[j]?) from ⟨by omega,by omega,by omega,by omega,by simp[x5],?_,fun j hj=> ?_⟩⟩ (Sub.lit ?_) (by simp;omega)
     ·rw[show k+(m+1)=k+m+1 by omega,vS,bF0,List.getElem?_set_self (by omega),List.take_set_of_le (by omega)];rfl
     ·rw[List.getElem?_set_ne (by omega)];exact x7 j (by omega)
     ·have fH:Bx ((R.map Ag).set kk [.int .i64 y.head,Br y.body])=0:=by
       rw[show (R.map Ag).set kk [.int .i64 y.head,Br y.body]=(R.set kk y).map Ag by simp[eU0,Ag]];exact ER_ _
      simp[eU0,Ag,fH]
     skip
    ·rw[bV]at nO vS;simp only[if_true,bR0]at vS
     (refine AM (AA nO) Aa (YD @Ag.eq_1 hm hRy hRz mP mK zQ jS wQ wB x5 hv yW qZ) ?_;intros;refine Aj ?_)
     refine Al.mk ⟨(m+1,kk,R),show 1<=m+1/\k+(m+1)<=l.length/\kk<k+(m+1)/\k<=kk/\R.length=l.length/\R.take kk=BA e (l.take (k+(m+1)))/\(∀j,k+(m+1)<=j+1->R[j]? =l[j]?) from ⟨by omega,by omega,by omega,by omega,x5,by rw[show k+(m+1)=k+m+1 by omega,vS],fun j hj=>x7 j (by omega)⟩⟩ (Sub.lit (by simp)) (by simp;omega)
     skip
   ·have hkm:k+m=l.length:=by omega
    have fZ:(Dg (R.map Ag) kk (l.length-kk) [.int .i64 0,.nilsl]).length=l.length:=by simp[Dg];omega
    have fO:(Dg (R.map Ag) kk (l.length-kk) [.int .i64 0,.nilsl]).take kk=R0.map Ag:=by
     have e1:l.take (k+m)=l:=by rw[hkm,aY0]
     rw[e1]at x6;rw[jW,<-x6];simp only[Dg];rw[aQ0,eN0 (by simp;omega),List.take_take,Nat.min_self,List.map_take]
    have yJ:kk<=l.length:=by omega
    (repeat (first | refine AE fun K hK=> ?_ | (refine Bv IK mxd (by kernel_rfl) ?_;simp[IK,qX,hm,x5,hv,fZ,fO,yJ];try simp (disch:=omega) only[Af]) | refine An ?_ | (refine AW ?_ ?_ ?_;(· (simp[qX,hm,x5,hv,fZ,fO,yJ];done));(try (rotate_left;(· (intro hc;(try simp[qX,hm,x5,hv,fZ,fO,yJ]at hc);done))))) | (refine AH ?_;simp[results124,qX,hm,x5,hv,fZ,fO,yJ]) | ((first | refine Ay ?_ | refine Ax ?_);simp[qX,hm,x5,hv,fZ,fO,yJ]) | (intro hc;(try simp[qX,hm,x5,hv,fZ,fO,yJ]at hc);(try (exfalso;omega))) | ((first | refine Ai (nO) ?_ | (refine Ah (nO) ?_ ?_;(· (simp;done))));try simp[qX,hm,x5,hv,fZ,fO,yJ]) | (refine⟨?_,?_⟩; · omega) | omega | apply_assumption -exfalso -symm | (exfalso;omega)))
 ·have qZ:k=l.length:=by omega
  subst qZ;rw[aY0]at dX;rw[dX]at jW
  (repeat (first | refine AE fun K hK=> ?_ | (refine Bv IK mxd (by kernel_rfl) ?_;simp[IK,qX,jW];try simp (disch:=omega) only[Af]) | refine An ?_ | (refine AW ?_ ?_ ?_;(· (simp[qX,jW];done));(try (rotate_left;(· (intro hc;(try simp[qX,jW]at hc);done))))) | (refine AH ?_;simp[results124,qX,jW]) | ((first | refine Ay ?_ | refine Ax ?_);simp[qX,jW]) | (intro hc;(try simp[qX,jW]at hc);(try (exfalso;omega))) | ((first | refine Ai (nO) ?_ | (refine Ah (nO) ?_ ?_;(· (simp;done))));try simp[qX,jW]) | (refine⟨?_,?_⟩; · omega) | omega | apply_assumption -exfalso -symm | (exfalso;omega)))
end Go.Proofs.Wy
end
section
namespace Go.Proofs.Wy
open Go Go.Dm Tryz
variable [DMode]
attribute [local irreducible] DW Bi Bk
def oG : Ann:=⟨[],[]⟩
def Jz : Ann:=⟨[5],[]⟩
set_option maxRecDepth 100000 in
theorem TP (l:List Sym):Ad prog 194 [Br l] (Br l):=by
 match l with
 | [] =>
  refine Ux [] ?_ ?_
  ·refine Ac [7] oG func194 call194 ntmps194 mxd (Aq @oG.eq_1 results194) rfl (fun qJ B qX qQ=> ?_) (hd:=(by simp[mx,Bx]));simp only[Am,List.nil_append,Br,List.map_cons];exact Au Aa Aa Aa
  ·refine Ac [7,5] Jz func194 call194 ntmps194 mxd (Aq @Jz.eq_1 results194) rfl (fun qJ B qX qQ=> ?_) (hd:=(by simp[mx,Bx]));simp only[Am,List.nil_append,Br,List.map_cons];exact Au Aa Aa Aa
 | s::l =>
  refine Ac [7,5] Jz func194 call194 ntmps194 mxd (Aq @Jz.eq_1 results194) rfl (fun qJ B qX qQ=> ?_) (hd:=(by simp[mx,Bx]));have hw:Vk (s::l):=Rr qJ.1;obtain⟨wR,gA,nN⟩:=hw;clear qJ;simp at wR gA;clear nN;simp only[Am,List.nil_append,Br,List.map_cons];exact Au Aa Aa Aa

end Go.Proofs.Wy
end
section
namespace Go.Proofs.Wy
open Go Go.Dm Tryz
variable [DMode]
attribute [local irreducible] DW Bi Bk
set_option maxRecDepth 100000
theorem UE (l:List Prod):AS prog (.func 122) [.osl 0 0,.fn (.func 123) [] []] [⟨0,0,.row 92 2 32 (l.map Ag)⟩] (.tup []) [⟨0,0,.row 92 2 32 ((FF Fe l).map Ag)⟩]:=by
 have qO:∀x∈l.map Ag,∃p∈l,x=Ag p:=fun x hx=>by
  obtain⟨p,hp,rfl⟩:=aR0.1 hx;exact⟨p,hp,rfl⟩
 refine Vx (cf:=fun x y=>Fe (WQ x) (WQ y)) Tryz.sortProd (by rfl) call122 (by kernel_rfl) (by kernel_rfl) (by decide) rfl ?_ call123 ?_ ?_ ?_ ?_ ?_
 ·intro x hx;obtain⟨p,_,rfl⟩:=qO x hx;simp
 ·intro x hx y hy;obtain⟨p,_,rfl⟩:=qO x hx;obtain⟨q,_,rfl⟩:=qO y hy;simp only[YR];exact @Sp JW p q
 ·intro x _;rw[Jj.refl];omega
 ·intro x _ y _ z _;exact Jj.trans _ _ _
 ·intro x _ y _ z _;exact Jj.ntrans _ _ _
 ·intro L hp hs;exact Vl Jj YR hp hs
def oA : Ann:=⟨[],[⟨4,[7],[],[]⟩]⟩
theorem Gw_ (g:FuncId) (hdo:∀l:List Sym,Ad prog g [Br l] (.tup [])) (c:Cnf):AS prog (.func 120) [.agg (Av c),.fn (.func g) [] []] [] (.agg [.int .i64 c.nts,.osl 0 1]) [⟨0,1,.row 92 2 32 (c.prods.map Ag)⟩]:=by
 refine Bj [4,5] [(32,0,1)] oA func120 call120 ntmps120 mxd (Aq @oA.eq_1 results120) rfl (fun qJ B qX qQ=> ?_);have hw:Ka_ c:=GB_ (by simpa[IZ,EI]using qJ.1);obtain⟨wR,gA,nN,gV⟩:=hw;clear qJ;simp only[Am]
 (refine AM Aa Aa (AA @Av.eq_1) ?_;intros;refine Aj ?_)
 refine DY 5 1 32 92 2 32 (by simp) (fun n=> ?_);refine Ak (X:={k:Nat//k<=c.prods.length}) (fun k=>⟨[(1,.fn (.func g) [] []),(4,.bx 4 1 0),(5,.bx 5 1 0),(13,BT c.prods),(14,.int .i64 c.prods.length),(15,.int .i64 k.1)],[⟨4,1,.box [.int .i64 0,.nilsl]⟩,⟨5,1,.box [.int .i64 c.nts,.osl 32 1]⟩,⟨32,1,.row 92 2 32 ((c.prods.take k.1).map Ag)⟩]⟩) (fun k=>c.prods.length-k.1) ⟨0,by simp⟩ (Sub.lit (by simp)) ?_
 rintro⟨k,hk⟩
 by_cases qV:k<c.prods.length
 ·obtain⟨p,hp,qN,zU⟩:=Aw qV;obtain⟨hw5,hw6,hw7,hw8⟩:=gV p zU;have wJ:(c.prods.map Ag).take (k+1)=(c.prods.map Ag).take k++[Ag p]:=by rw[bF0,bN0,hp];rfl
  have h1:=TP p.body;have h2:=hdo p.body
  (refine AM (Aq h1 h2) Aa (EU @Av.eq_1 @Ag.eq_1 qV qN) ?_;intros;refine Aj ?_)
  refine Al.mk ⟨k+1,by omega⟩ (Sub.lit ?_) (by simp;omega)
  ·simp[wJ,Ag]
  skip
 ·have qZ:k=c.prods.length:=by omega
  subst qZ;exact Au Aa Aa (AA @Av.eq_1)
def lZ : Ann:=⟨[],[]⟩
theorem Xd (l:List Sym):Ad prog 121 [Br l] (.tup []):=by
 refine Ac [] lZ func121 call121 ntmps121 mxd (Aq @lZ.eq_1 results121) rfl (fun qJ B qX qQ=> ?_);simp only[Am];exact Au Aa Aa Aa
def BB (c:Cnf):Cnf:=⟨c.nts,BA (fun p q=>Fe p q==0) (FF Fe c.prods)⟩
def Rf : Ann:=⟨[5,8,11],[]⟩
theorem PD (c:Cnf):Ad prog 42 [.agg (Av c)] (.agg (Av (BB c))):=by
 refine Ac [] Rf func42 call42 ntmps42 mxd (Aq @Rf.eq_1 results42) rfl (fun qJ B qX qQ=> ?_);simp only[Am];have h1:=Gw_ _ Xd c;have h2:=UE c.prods;have h3:=TI 125 (fun p q=>Fe p q==0) (FF Fe c.prods) (fun x _ y _=>Eh_ x y)
 (repeat (first | refine AE fun K hK=> ?_ | (refine Bv Rf mxd (by kernel_rfl) ?_;simp[Rf,qX,Av,BB];try simp (disch:=omega) only[Af]) | refine An ?_ | (refine AW ?_ ?_ ?_;(· (simp[qX,Av,BB];done));(try (rotate_left;(· (intro hc;(try simp[qX,Av,BB]at hc);done))))) | (refine AH ?_;simp[results42,qX,Av,BB]) | ((first | refine Ay ?_ | refine Ax ?_);simp[qX,Av,BB]) | (intro hc;(try simp[qX,Av,BB]at hc);(try (exfalso;omega))) | (refine AK [] [(50,0)] (h1) ?_ ?_;(· (simp[qX,Av,BB];done));(intro _;try simp[qX,Av,BB])) | (refine AK [(50,0)] [] (h2) ?_ ?_;(· (simp[qX,Av,BB];done));(intro _;try simp[qX,Av,BB])) | (refine AK [(50,0)] [] (h3) ?_ ?_;(· (simp[qX,Av,BB];done));(intro _;try simp[qX,Av,BB])) | (refine⟨?_,?_⟩; · omega) | omega | apply_assumption -exfalso -symm | (exfalso;omega)))
end Go.Proofs.Wy
end
section
namespace Go.Proofs.Wy
open Go Go.Dm Tryz
variable [DMode]
def Hm (xs:List Auto) (q:Nat):Nat:=((List.range q).filter fun p=>decide (¬p∈Oy xs)).length
theorem FS_ (xs:List Auto):Hm xs 0=0:=rfl
theorem Pk (xs:List Auto) (q:Nat):Hm xs (q+1)=Hm xs q+(if q∈Oy xs then 0 else 1):=by
 unfold Hm;rw[dF0,dT0,aD0]
 by_cases h:q∈Oy xs<;>simp[h]
theorem Cz_ (xs:List Auto) (q:Nat):Hm xs q<=q:=by
 unfold Hm;have:=cU0 (fun p=>decide (¬p∈Oy xs)) (List.range q);rw[eH0]at this;exact this
def GK (xs:List Auto) (q:Nat):Nat:=if q∈Oy xs then (ntL xs).getD q 0 else xs.length+Hm xs q
def HH (xs:List Auto) (k:Nat):List Nat:=(List.range k).map (GK xs)++List.replicate (Bb xs-k) 0
theorem ZK (xs:List Auto) {k:Nat} (h:k<=Bb xs):(HH xs k).length=Bb xs:=by
 unfold HH;rw[aD0,aL0,eH0,dH0];omega
theorem Hs_ (xs:List Auto) {k:Nat} (h:k<Bb xs):(HH xs k).set k (GK xs k)=HH xs (k+1):=by
 unfold HH;rw[List.set_append,if_neg (by simp),aL0,eH0,dZ0,show Bb xs-k=(Bb xs-(k+1))+1 by omega,List.replicate_succ,eF0,dF0,bA0,aQ0];rfl
theorem Ko_ (xs:List Auto) {q:Nat} (h:q<Bb xs):(HH xs (Bb xs))[q]? =some (GK xs q):=by
 unfold HH;rw[dZ0,List.replicate_zero,bR0,bN0,eQ0 h];rfl
theorem LK_ : ∀(xs:List Auto) (f b j q:Nat),(∀a∈xs,1<=a.st)->((BZ f xs).map (·.2))[j]? =some q->f<=q/\((xs.zipIdx b).flatMap fun p=>List.replicate p.1.st.toNat p.2)[q-f]? =some (b+j)
 | [],f,b,j,q,_,h=>by simp[BZ]at h
 | a::xs,f,b,0,q,qL,h=>by
  have h4:=qL a aE0;rw[BZ]at h;simp at h;subst h;rw[fA0,cO0,dZ0];refine⟨Nat.le_refl _,?_⟩;rw[aZ0 (by rw[dH0];simp only;omega),eG0,if_pos (by simp only;omega)];rfl
 | a::xs,f,b,j+1,q,qL,h=>by
  have h4:=qL a aE0;rw[BZ,List.map_cons,bP0]at h;obtain⟨h1,h2⟩:=LK_ xs (f+a.st.toNat) (b+1) j q (fun x hx=>qL x (aC0 _ hx)) h;rw[fA0,cO0];refine⟨by omega,?_⟩;rw[bD0 (by rw[dH0];simp only;omega),dH0];simp only;rw[Nat.sub_sub,h2]
  congr 1
  omega
theorem Ee_ {xs:List Auto} (qL:∀a∈xs,1<=a.st) {q k:Nat} (hk:(ntL xs)[q]? =some k):atI (Oy xs) k=q↔q∈Oy xs:=by
 constructor
 ·intro h
  cases hx:(Oy xs)[k]? with
  | none =>
   rw[NX (by have:=List.getElem?_eq_none_iff.1 hx;omega)]at h;omega
  | some x =>
   rw[Uc hx]at h;have:x=q:=by omega
   rw[<-this];exact bH0 hx
 ·intro h;obtain⟨j,hj,he⟩:=bK0 h;have jH:(Oy xs)[j]? =some q:=by rw[aH0 hj,he]
  have h1:=(LK_ xs 0 0 j q qL jH).2;rw[eT0,bS0]at h1;have h2:(ntL xs)[q]? =some j:=h1;rw[hk]at h2;simp only[aA0]at h2;subst h2;exact Uc jH
theorem LQ_ : ∀(xs:List Auto) (b:Nat),∀k∈(xs.zipIdx b).flatMap (fun p=>List.replicate p.1.st.toNat p.2),k<b+xs.length
 | [],b,k,h=>by simp at h
 | a::xs,b,k,h=>by
  rw[fA0,cO0,aI0]at h;rw[List.length_cons]
  rcases h with h | h
  ·have:=List.eq_of_mem_replicate h;simp only at this;omega
  ·have:=LQ_ xs (b+1) k h;omega
theorem LP_ {xs:List Auto} {q k:Nat} (h:(ntL xs)[q]? =some k):k<xs.length:=by
 have:=LQ_ xs 0 k (bH0 h);omega
theorem BS_ {xs:List Auto} {q k:Nat} (h:q∈Oy xs) (hk:(ntL xs)[q]? =some k):GK xs q=k:=by
 unfold GK;rw[if_pos h,bJ0,hk];rfl
theorem ZM {xs:List Auto} {q:Nat} (h:¬q∈Oy xs):GK xs q=xs.length+Hm xs q:=by unfold GK;rw[if_neg h]
theorem So : ∀{xs:List Auto} {f:Nat} {p:Auto×Nat},p∈BZ f xs->p.2+p.1.st.toNat<=f+Bb xs
 | [],_,_,h=>by simp[BZ]at h
 | a::xs,f,p,h=>by
  have h3:Bb (a::xs)=a.st.toNat+Bb xs:=by simp[Bb]
  rw[BZ]at h
  rcases aJ0.1 h with rfl | h
  ·simp only;omega
  ·have:=So h;omega
def pF (xs:List Auto) (q:Int):Prod:=⟨(GK xs q.toNat:Int),[]⟩
def pA (xs:List Auto) (x:Arc):Prod:=⟨(GK xs x.fr.toNat:Int),[x.sy,⟨false,(GK xs x.to.toNat:Int)⟩]⟩
def KN (xs:List Auto):Cnf:=⟨((xs.length+Hm xs (Bb xs):Nat):Int),(Qq xs).map (pF xs)++(NZ xs).map (pA xs)⟩
end Go.Proofs.Wy
end
