/- Parts of a proof, laid together: WR2, WR3, BN3. -/
import Derived.Test.YtiojapdolljocaaGreatqBo15
import Derived.Test.YtiojapdolljocaaGreatqBo18
import Derived.Test.YtiojapdolljocaaGreatqBo23
import Derived.Test.YtiojapdolljocaaGreatqBo24
import Derived.Test.YtiojapdolljocaaGreatqBo25
set_option linter.unusedSimpArgs false
set_option maxHeartbeats 8000000
set_option linter.unusedVariables false
set_option linter.unusedSectionVars false
section
namespace Go.Proofs.Wy
open Go Go.Dm Tryz
variable [DMode]
attribute [local irreducible] DW Bm Bq
set_option maxRecDepth 100000
def QM : Ann:=⟨[],[⟨5,[6],[],[]⟩,⟨7,[22],[],[]⟩]⟩
theorem PO (k:Int) (s:ByteArray):Ae prog 157 [.sl 3 32 [BL k s 0]] (.int .i64 1):=by
 refine Ac [] QM func157 call157 ntmps157 mxd (Ar @QM.eq_1 results157) rfl (fun qJ B qX qQ=> ?_);clear qJ;simp only[Ak]
 (refine AX Ab Ab (AJ @BL.eq_1) ?_;intros;refine Am ?_)
 refine Al (X:=Bool) (fun x=>⟨[(0,.sl 3 32 [BL k s 0]),(3,.int .i64 (if x then 1 else 0)),(4,if x then .sl 1 8 []else .nilsl),(7,.sl 3 32 [BL k s 0]),(8,.int .i64 1),(9,.int .i64 (if x then 1 else 0))],[]⟩) (fun x=>if x then 0 else 1) false (Sub.lit (by simp[BL])) ?_;rintro (_ | _)
 ·(refine AX Ab Ab (AJ @BL.eq_1) ?_;intros;refine Am ?_)
  refine Al (X:=Bool) (fun x=>⟨[(0,.sl 3 32 [BL k s 0]),(3,.int .i64 1),(4,if x then .sl 1 8 []else .sl 1 8 [[.int .i64 0]]),(7,.sl 3 32 [BL k s 0]),(8,.int .i64 1),(9,.int .i64 0)],[]⟩) (fun x=>if x then 0 else 1) false (Sub.lit (by simp[BL])) ?_;rintro (_ | _)
  ·(refine AX Ab Ab (AJ @BL.eq_1) ?_;intros;refine Am ?_)
   simp[qX,results157,QM,BL]
   (refine AX Ab Ab (AJ @BL.eq_1) ?_;intros;refine Am ?_)
   refine An.mk true (Sub.lit (by simp[BL])) (by simp)
   skip
  ·(refine AX Ab Ab (AJ @BL.eq_1) ?_;intros;refine Am ?_)
   refine An.mk true (Sub.lit (by simp[BL])) (by simp)
   skip
 ·exact Aw Ab Ab (AJ @BL.eq_1)
def Xp : Ann:=⟨[],[⟨1,[3],[],[]⟩]⟩
theorem Tl (k:Int) (hk:k=2\/k=3) (s:ByteArray):Ae prog 158 [.sl 3 32 [BL k s 0]] (.str s):=by
 refine Ac [] Xp func158 call158 ntmps158 mxd (Ar @Xp.eq_1 results158) rfl (fun qJ B qX qQ=> ?_);clear qJ;simp only[Ak]
 rcases hk with rfl | rfl
 ·exact Aw Ab Ab (AJ @BL.eq_1)
 ·exact Aw Ab Ab (AJ @BL.eq_1)
def Xq : Ann:=⟨[],[]⟩
theorem NU (k:Int) (hk:k=2\/k=3) (s:ByteArray) (hs:s.size<=16):Ae prog 104 [.sl 3 32 [BL k s 0]] (.int .i64 0):=by
 refine Ac [] Xq func104 call104 ntmps104 mxd (Ar @Xq.eq_1 results104) rfl (fun qJ B qX qQ=> ?_);clear qJ;simp only[Ak];have e1:=PO k s;have e2:=Tl k hk s;have g1:¬(2048:Int)<s.size:=by omega
 exact Aw (Ar e1 e2) Ab (AJ g1)
theorem uJ {k:Int} {s:ByteArray} (h:Dd k s=true):s.size<=16:=by
 unfold Dd at h
 split at h<;>(simp only[BK,aN0,decide_eq_true_eq]at h;exact h.1.1.2)
def iT : Ann:=⟨[],[]⟩
theorem Rx (k:Int) (hk:k=2\/k=3) (s:ByteArray):Ae prog 55 [.sl 3 32 [BL k s 0]] (.int .i64 (if Dd k s then 0 else 170)):=by
 refine Ac [] iT func55 call55 ntmps55 mxd (Ar @iT.eq_1 results55) rfl (fun qJ B qX qQ=> ?_);clear qJ;simp only[Ak];have e1:=QU k hk s;cases hT:Dd k s
 ·rw[hT]at e1;exact Aw (AJ e1) Ab Ab
 ·rw[hT]at e1;have e2:=NU k hk s (uJ hT);exact Aw (Ar e1 e2) Ab Ab

def oA : Ann:=⟨[],[]⟩
theorem PM (l:List ByteArray) (s:ByteArray):Ae prog 86 [Bu l,.str s] (.bool (decide (s∈l))):=by
 refine Ac [] oA func86 call86 ntmps86 mxd (Ar @oA.eq_1 results86) rfl (fun qJ B qX qQ=> ?_);have qU:=Wl qJ.1;clear qJ;simp only[Ak];obtain⟨R,hR⟩:∃R,R=decide (s∈l):=⟨_,rfl⟩;rw[<-hR]
 (refine AX Ab Ab Ab ?_;intros;refine Am ?_)
 refine Al (X:={k:Nat//k<=l.length/\R=decide (s∈l.drop k)}) (fun x=>⟨[(0,Bu l),(1,.str s),(5,.int .i64 x.1)],[]⟩) (fun x=>l.length-x.1) ⟨0,by simp[hR]⟩ (Sub.lit (by simp)) ?_;clear hR;rintro⟨k,hk,hR⟩
 by_cases qV:k<l.length
 ·obtain⟨x,hx,qA,vN⟩:=Ax qV;rw[aW0 qV,qA]at hR;cases hb:x==s
  ·have qE:¬s=x:=fun e=>by subst e;simp at hb
   have vJ:R=decide (s∈l.drop (k+1)):=by rw[hR];simp[qE]
   (refine AX Ab Ab (Mj @AE.eq_1 qV qA hx hb) ?_;intros;refine Am ?_)
   exact An.mk ⟨k+1,by omega,vJ⟩ (Sub.lit (by simp[])) (by simp;omega)
   skip
  ·have he:s=x:=by simp at hb;exact hb.symm
   have vJ:R=true:=by rw[hR,he];simp
   subst vJ;exact Aw Ab Ab (Mj @AE.eq_1 qV qA hx hb)
 ·have qZ:k=l.length:=by omega
  subst qZ;rw[cN0]at hR;have vJ:R=false:=by rw[hR];simp
  subst vJ;exact Aw Ab Ab Ab
theorem AE_ (l:List ByteArray) (s:ByteArray):Bh prog (.func 86) [.osl 0 0,.str s] [⟨0,0,.row 9 1 16 (l.map AE)⟩] (.bool (decide (s∈l))) [⟨0,0,.row 9 1 16 (l.map AE)⟩] :=
 QT rfl (PM l s)
def UI : Ann:=⟨[17],[]⟩
theorem JV (g:List Rul):Ae prog 38 [AB g] (Bu (Av g)):=by
 refine Ac [3] UI func38 call38 ntmps38 mxd (Ar @UI.eq_1 results38) rfl (fun qJ B qX qQ=> ?_);have hs:g.length*40<=150000000000000:=by have:=qJ.1;simp only[EX,aO0]at this;exact this.1
 clear qJ;simp only[Ak]
 (refine AX Ab Ab Ab ?_;intros;refine Am ?_)
 refine Ci 3 3 9 1 16 (by simp[qX,results38,UI]) (fun n=> ?_);refine Al (X:={i:Nat//i<=g.length}) (fun i=>⟨[(0,AB g),(3,.osl 3 1),(4,.int .i64 i.1)],[⟨3,1,.row 9 1 16 ((Av (g.take i.1)).map AE)⟩]⟩) (fun i=>g.length-i.1) ⟨0,by omega⟩ (Sub.lit (by simp[Av])) ?_;rintro⟨i,hi⟩;simp only
 by_cases qV:i<g.length
 ·obtain⟨r,hr,wJ,gY⟩:=Ax qV;have wD:=Nn hr;have hl:=HK (g.take i);rw[bD0]at hl;obtain⟨T,hT⟩:∃T,T=Av (g.take i):=⟨_,rfl⟩;rw[<-hT]at wD hl |-;have e1:=AE_ T r.h;have z1:(T.length+1)*16<=150000000000000:=by omega
  have z2:T.length+1<=9223372036854775807:=by omega
  unfold Ha at wD
  by_cases hm:r.h∈T
  ·rw[if_pos hm]at wD;rw[decide_eq_true hm]at e1
   (refine AX Ab (AJ (Ji [(3,0)] [] e1)) (Ik @BB.eq_1 qV hr wJ) ?_;intros;refine Am ?_)
   refine An.mk ⟨i+1,by omega⟩ (Sub.lit (by simp[wD])) (by simp;omega)
   skip
  ·rw[if_neg hm]at wD;rw[decide_eq_false hm]at e1
   (refine AX Ab (AJ (Ji [(3,0)] [] e1)) (MY @BB.eq_1 qV hr wJ z1 z2) ?_;intros;refine Am ?_)
   refine An.mk ⟨i+1,by omega⟩ (Sub.lit (by simp[wD,AE])) (by simp;omega)
   skip
 ·have qZ:i=g.length:=by omega
  subst qZ;rw[bC0];exact Aw Ab Ab Ab
def QO : Ann:=⟨[],[]⟩
theorem Ue (l:List ByteArray) (p:ByteArray) (qF:(l.length+1)*16<=150000000000000):Ae prog 136 [Bu l,.str p] (Bu (IL Mn l p)):=by
 refine Ac [50] QO func136 call136 ntmps136 mxd (Ar @QO.eq_1 results136) rfl (fun qJ B qX qQ=> ?_);clear qJ;simp only[Ak];obtain⟨r,hr⟩:∃r,r=IL Mn l p:=⟨_,rfl⟩;rw[<-hr]
 (refine AX Ab Ab Ab ?_;intros;refine Am ?_)
 refine Ci 5 50 9 1 16 (by simp[qX,results136,QO]) (fun n=> ?_);refine Al (X:={x:Nat×Bool×List ByteArray//x.1<=l.length/\x.2.2.length<=x.1+(if x.2.1 then 1 else 0)/\x.2.2++(if x.2.1 then l.drop x.1 else IL Mn (l.drop x.1) p)=r}) (fun x=>⟨[(0,Bu l),(1,.str p),(5,.osl 50 1),(6,.bool x.1.2.1),(7,.int .i64 x.1.1)],[⟨50,1,.row 9 1 16 (x.1.2.2.map AE)⟩]⟩) (fun x=>l.length-x.1.1) ⟨(0,false,[]),by simp[hr]⟩ (Sub.lit (by simp)) ?_
 rintro⟨⟨k,b,R⟩,hk,hR,wI⟩;simp only at hk hR wI |-;clear hr
 by_cases qV:k<l.length
 ·obtain⟨q,hq,zE,hqm⟩:=Ax qV;rw[aW0 qV,zE]at wI;cases b
  ·simp only[bH0,if_false,IL,dN0]at hR wI;have dV:(R.length+1)*16<=150000000000000:=Nat.le_trans (aY0 16 (by omega)) qF;have dJ:R.length<=9223372036854775806:=by omega
   have hz3:(R.length+1+1)*16<=150000000000000:=Nat.le_trans (aY0 16 (by omega)) qF;have hz4:R.length+1<=9223372036854775806:=by omega
   cases hc:CE q p
   ·have cC:Op.bytesLess q.data.toList p.data.toList=false:=hc;rw[if_neg (show ¬Mn q p<0 by rw[FA,hc];simp)]at wI
    by_cases he:q=p
    ·subst he;rw[if_neg (show ¬Mn q q<0 by rw[FA,Ew];simp)]at wI
     (refine AX Ab Ab (Mi @AE.eq_1 qV zE cC dV dJ hz3 hz4) ?_;intros;refine Am ?_)
     refine An.mk ⟨(k+1,true,R++[q]),show k+1<=l.length/\(R++[q]).length<=k+1+_/\_ from ⟨by omega,by simp;omega,by simpa using wI⟩⟩ (Sub.lit (by simp[AE])) (by simp;omega)
     skip
    ·have vA:(q==p)=false:=by simpa using he
     have hlp:CE p q=true:=by
      cases h2:CE p q
      ·exact absurd (Jj hc h2) he
      ·rfl
     rw[if_pos (FA.2 hlp)]at wI
     (refine AX Ab Ab (YF @AE.eq_1 qV zE cC vA dV dJ hz3 hz4) ?_;intros;refine Am ?_)
     refine An.mk ⟨(k+1,true,R++[p,q]),show k+1<=l.length/\(R++[p,q]).length<=k+1+_/\_ from ⟨by omega,by simp;omega,by simpa using wI⟩⟩ (Sub.lit (by simp[AE])) (by simp;omega)
     skip
   ·have cC:Op.bytesLess q.data.toList p.data.toList=true:=hc;rw[if_pos (FA.2 hc)]at wI
    (refine AX Ab Ab (Mi @AE.eq_1 qV zE cC dV dJ hz3 hz4) ?_;intros;refine Am ?_)
    refine An.mk ⟨(k+1,false,R++[q]),show k+1<=l.length/\(R++[q]).length<=k+1+_/\_ from ⟨by omega,by simp;omega,by simpa using wI⟩⟩ (Sub.lit (by simp[AE])) (by simp;omega)
    skip
  ·simp only[if_true]at hR wI;have dV:(R.length+1)*16<=150000000000000:=Nat.le_trans (aY0 16 (by omega)) qF;have dJ:R.length<=9223372036854775806:=by omega
   (refine AX Ab Ab (Mj @AE.eq_1 qV zE dV dJ) ?_;intros;refine Am ?_)
   refine An.mk ⟨(k+1,true,R++[q]),show k+1<=l.length/\(R++[q]).length<=k+1+_/\_ from ⟨by omega,by simp;omega,by simpa using wI⟩⟩ (Sub.lit (by simp[AE])) (by simp;omega)
   skip
 ·have vM:k=l.length:=by omega
  subst vM;rw[cN0]at wI;cases b
  ·simp only[bH0,if_false,IL,dN0]at hR wI;subst wI;have dV:(R.length+1)*16<=150000000000000:=Nat.le_trans (aY0 16 (by omega)) qF;have dJ:R.length<=9223372036854775806:=by omega
   exact Aw Ab Ab (GE @AE.eq_1 dV dJ)
  ·simp only[if_true,bX0]at hR wI;subst wI;exact Aw Ab Ab (AJ @AE.eq_1)
def NO (es:List ByteArray):List ByteArray:=es.foldl (IL Mn) []
theorem Ss (es:List ByteArray):NO es=Ep es:=by
 obtain⟨h1,h2⟩:=Np Gh_ es [] List.Pairwise.nil;refine aM (h1.imp fun {a b} h=>FA.1 h) fun x=> ?_
 unfold NO;rw[h2];simp
theorem sF (es:List ByteArray) (s:ByteArray):NO (es++[s])=IL Mn (NO es) s:=by unfold NO;rw[dC0];rfl
theorem NL (k:Int) (g:List Rul) (i:Nat):(AK k (g.take i)).length<=(AK k g).length:=by
 have h:AK k g=AK k (g.take i)++AK k (g.drop i):=by
  unfold AK;rw[<-List.flatMap_append,List.take_append_drop]
 rw[h,aB0];omega
def UH : Ann:=⟨[],[]⟩
theorem KM (g:List Rul) (k:Int) (hn:((AK k g).length+1)*16<=150000000000000):Ae prog 94 [AB g,.int .i64 k] (Bu (Ep (AK k g))):=by
 rw[<-Ss];refine Ac [] UH func94 call94 ntmps94 mxd (Ar @UH.eq_1 results94) rfl (fun qJ B qX qQ=> ?_);have fG:=II qJ.1
 have dR:∀r∈g,r.b.length<9223372036854775807:=fun r hr=>by
  have h1:=qJ.1;obtain⟨i,hi,rfl⟩:=bW0 hr;have h2:oM (g.map BB):=by simp only[EX]at h1;exact h1.2.2
  have h3:=YG h2 (aD0 hi);simp only[BB,JP]at h3;exact Oq h3.2.1
 clear qJ;simp only[Ak]
 (refine AX Ab Ab Ab ?_;intros;refine Am ?_)
 refine Dz_ 5 1 16 (by simp[qX,results94,UH]) ?_;refine Al (X:={i:Nat//i<=g.length}) (fun i=>⟨[(0,AB g),(1,.int .i64 k),(5,Bu (NO (AK k (g.take i.1)))),(6,.int .i64 i.1)],[]⟩) (fun i=>g.length-i.1) ⟨0,by omega⟩ (Sub.lit (by simp[AK,NO])) ?_;rintro⟨i,hi⟩;simp only
 by_cases qV:i<g.length
 ·obtain⟨r,hr,wJ,gY⟩:=Ax qV;have wD:=Nh (k:=k) hr;have dL:=dR r gY;have gP:=NL k g (i+1);rw[wD,aB0]at gP;obtain⟨N,hN⟩:∃N,N=AK k (g.take i):=⟨_,rfl⟩;rw[<-hN]at wD gP |-
  (refine AX Ab Ab (Ik @BB.eq_1 qV hr wJ) ?_;intros;refine Am ?_)
  refine Al (X:={j:Nat//j<=r.b.length}) (fun j=>⟨[(0,AB g),(1,.int .i64 k),(5,Bu (NO (N++Cg k (r.b.take j.1)))),(6,.int .i64 i),(7,.int .i64 j.1)],[]⟩) (fun j=>r.b.length-j.1) ⟨0,by omega⟩ (Sub.lit (by simp[Cg])) ?_;rintro⟨j,hj⟩;simp only
  by_cases qP:j<r.b.length
  ·obtain⟨x,hx,qA,vN⟩:=Ax qP;have htj:=Ng (k:=k) hx
   have hjl:(Cg k (r.b.take j)).length<=(Cg k r.b).length:=by
    unfold Cg;rw[aO0,aO0];exact((List.take_sublist j r.b).filter _).length_le
   obtain⟨E,hE⟩:∃E,E=N++Cg k (r.b.take j):=⟨_,rfl⟩;have dI:N++Cg k (r.b.take (j+1))=E++(if x.k=k then [x.s]else []):=by rw[htj,hE,aT0]
   have hEl:(NO E).length<=(AK k g).length:=by
    rw[Ss];have:=GH E;rw[hE,aB0]at this;rw[<-hE]at this;omega
   rw[<-hE]
   by_cases hk:x.k=k
   ·rw[if_pos hk]at dI;have qK:=sF E x.s;rw[<-dI]at qK;have e1:=Ue (NO E) x.s (Nat.le_trans (aY0 16 (by omega)) hn);rw[<-qK]at e1;obtain⟨W,hW⟩:∃W,W=NO E:=⟨_,rfl⟩;obtain⟨W2,hW2⟩:∃W2,W2=NO (N++Cg k (r.b.take (j+1))):=⟨_,rfl⟩;rw[<-hW,<-hW2]at e1;rw[<-hW]
    (refine AX (AJ e1) Ab (YF @BB.eq_1 @BM.eq_1 qV hr wJ qP hx qA hk) ?_;intros;refine Am ?_)
    refine An.mk ⟨j+1,by omega⟩ (Sub.lit (by simp only[<-hW2];simp)) (by simp;omega)
    skip
   ·have vM:(x.k==k)=false:=by simpa using hk
    rw[if_neg hk,bX0]at dI
    (refine AX Ab Ab (UK @BB.eq_1 @BM.eq_1 qV hr wJ qP hx qA hk vM) ?_;intros;refine Am ?_)
    refine An.mk ⟨j+1,by omega⟩ (Sub.lit (by simp only[dI];simp)) (by simp;omega)
    skip
  ·have qZ:j=r.b.length:=by omega
   subst qZ;rw[bC0]
   (refine AX Ab Ab (Ik @BB.eq_1 qV hr wJ) ?_;intros;refine Am ?_)
   refine An.mk ⟨i+1,by omega⟩ (Sub.lit (by simp only[wD];simp)) (by simp;omega)
   skip
 ·have qZ:i=g.length:=by omega
  subst qZ;rw[bC0];exact Aw Ab Ab Ab
def oC : Ann:=⟨[],[]⟩
theorem OU (g:List Rul) (hn:((AK 3 g).length+1)*16<=150000000000000):Ae prog 44 [AB g] (Bu (AC g)):=by
 refine Ac [] oC func44 call44 ntmps44 mxd (Ar @oC.eq_1 results44) rfl (fun qJ B qX qQ=> ?_);clear qJ;simp only[Ak];have e1:=KM g 3 hn;unfold AC;exact Aw (AJ e1) Ab Ab
def FI (g:List Rul) (j:Nat):Nat:=(((Ep (AK 2 g)).take j).filter fun s=> !decide (s∈Av g)).length
theorem Zu (g:List Rul):FI g (Ep (AK 2 g)).length=(CF g).length:=by unfold FI CF;rw[bC0]
theorem rK (g:List Rul) (j:Nat):FI g j<=j:=by
 unfold FI;exact Nat.le_trans (cI0 _ _) (List.length_take_le _ _)
theorem Wc {g:List Rul} {j:Nat} {s:ByteArray} (h:(Ep (AK 2 g))[j]? =some s):FI g (j+1)=FI g j+(if s∈Av g then 0 else 1):=by
 unfold FI;rw[bP0,h,dH0,aB0]
 by_cases hs:s∈Av g<;>simp[hs]
def oB : Ann:=⟨[],[]⟩
theorem Mq (g:List Rul) (hn:((AK 2 g).length+1)*16<=150000000000000):Ae prog 74 [AB g] (.int .i64 (CF g).length):=by
 refine Ac [] oB func74 call74 ntmps74 mxd (Ar @oB.eq_1 results74) rfl (fun qJ B qX qQ=> ?_);clear qJ;simp only[Ak];have e1:=JV g;have e2:=KM g 2 hn;have qI:=Zu g;have nX:=GH (AK 2 g);have bZ:=fun j s=>Wc (g:=g) (j:=j) (s:=s)
 have yL:=rK g;obtain⟨U,hU⟩:∃U,U=Ep (AK 2 g):=⟨_,rfl⟩;obtain⟨Hh,hH⟩:∃Hh,Hh=Av g:=⟨_,rfl⟩;rw[<-hU]at e2 qI nX bZ;rw[<-hH]at e1 bZ;rw[<-qI]
 (refine AX (Ar e1 e2) Ab Ab ?_;intros;refine Am ?_)
 refine Al (X:={j:Nat//j<=U.length}) (fun j=>⟨[(3,Bu Hh),(4,Bu U),(5,.int .i64 (FI g j.1)),(6,.int .i64 j.1)],[]⟩) (fun j=>U.length-j.1) ⟨0,by omega⟩ (Sub.lit (by simp[FI])) ?_;rintro⟨j,hj⟩;simp only
 by_cases qV:j<U.length
 ·obtain⟨s,hs,fC,_⟩:=Ax qV;have h1:=bZ j s hs;have h2:=yL j;have e3:=PM Hh s;have w1:IntKind.i64.wrap ((FI g j:Int)+1)=(FI g j:Int)+1:=wq;have w2:IntKind.i64.wrap ((j:Int)+1)=(j:Int)+1:=wq
  by_cases hm:s∈Hh
  ·rw[if_pos hm,dN0]at h1;rw[decide_eq_true hm]at e3
   (refine AX (AJ e3) Ab (Mj @AE.eq_1 qV hs fC w2) ?_;intros;refine Am ?_)
   refine An.mk ⟨j+1,by omega⟩ (Sub.lit (by simp[h1])) (by simp;omega)
   skip
  ·rw[if_neg hm]at h1;rw[decide_eq_false hm]at e3
   (refine AX (AJ e3) Ab (MY @AE.eq_1 qV hs fC w1 w2) ?_;intros;refine Am ?_)
   refine An.mk ⟨j+1,by omega⟩ (Sub.lit (by simp[h1])) (by simp;omega)
   skip
 ·have qZ:j=U.length:=by omega
  subst qZ;exact Aw Ab Ab Ab
end Go.Proofs.Wy
end
