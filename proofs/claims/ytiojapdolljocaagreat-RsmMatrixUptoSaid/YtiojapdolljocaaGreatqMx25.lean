/- Parts of a proof, laid together: WB13, BN1, WRn, RY1, RX2, RX3. -/
import Derived.Test.YtiojapdolljocaaGreatqMx15
import Derived.Test.YtiojapdolljocaaGreatqMx17
import Derived.Test.YtiojapdolljocaaGreatqMx18
import Derived.Test.YtiojapdolljocaaGreatqMx19
import Derived.Test.YtiojapdolljocaaGreatqMx24
set_option linter.unusedSimpArgs false
set_option maxHeartbeats 8000000
set_option linter.unusedVariables false
set_option linter.unusedSectionVars false
section
namespace Go.Proofs.Wy
open Go Go.Dm Tryz
variable [DMode]
attribute [local irreducible] DW Bs Bt
set_option maxRecDepth 100000
def Fu (l:List Int):List DVal:=l.map fun n=> .int .i64 n
theorem AK_ (l:List Int) (j:Nat) (n:Int):(Fu l).set j (.int .i64 n)=Fu (l.set j n):=by simp[Fu,eS0]
theorem AL_ (l:List Int) (n:Int):Fu l++[.int .i64 n]=Fu (l++[n]):=by simp[Fu]
@[simp] theorem HT_ (l:List Int):AL (Fu l)=0:=by
 unfold Fu
 induction l with
 | nil=>rfl
 | cons a l ih=>simp[AL,mx,ih]
structure Cnt (K:List ByteArray) (V:List Int) (es:List ByteArray):Prop where
 len:K.length=V.length
 mem:∀s,s∈K↔s∈es
 val:∀v∈V,1<=v/\v<=es.length
theorem xH (l:List ByteArray) (s:ByteArray):DI l++[.str s]=DI (l++[s]):=by simp[DI]
theorem Cnt.step {K:List ByteArray} {V:List Int} {es:List ByteArray} (h:Cnt K V es) (s:ByteArray) :
  (∃j d,Ba (DI K) (.str s)=some j/\(Fu V)[j]? =some (.int .i64 d)/\1<=d/\d<=es.length/\Cnt K (V.set j (d+1)) (es++[s])) \/
  (Ba (DI K) (.str s)=none/\Cnt (K++[s]) (V++[1]) (es++[s])):=by
 by_cases hs:s∈K
 ·obtain⟨j,h1,h2⟩:=QV hs;have h3:j<V.length:=by rw[<-h.len];exact h2
  have hv:=h.val V[j] (bW0 h3);refine .inl ⟨j,V[j],h1,by simp[Fu,h3],hv.1,hv.2,by simp[h.len],fun x=> ?_,fun v jH=> ?_⟩
  ·rw[h.mem x,aH0]
   constructor
   ·exact .inl
   ·rintro (hx | hx)
    ·exact hx
    ·simp only[aF0]at hx;subst hx;exact(h.mem x).1 hs
  ·rcases eU0 jH with h4 | rfl
   ·have:=h.val v h4;simp;omega
   ·simp;omega
 ·refine .inr ⟨IG hs,by simp[h.len],fun x=>by simp[h.mem x],fun v hv=> ?_⟩
  rcases aH0.1 hv with h4 | h4
  ·have:=h.val v h4;simp;omega
  ·simp only[aF0]at h4;subst h4;simp;omega
theorem eT {l:List ByteArray} {s:ByteArray}:decide (0<=Ee l s)=decide (s∈l):=by
 refine decide_eq_decide.2 ?_;unfold Ee
 by_cases h:s∈l
 ·rw[if_pos (cH0.2 ⟨s,h,by simp⟩)];simp only[h,iff_true];omega
 ·rw[if_neg (fun hh=>h (by obtain⟨x,hx,hs⟩:=cH0.1 hh;simp at hs;subst hs;exact hx))];simp[h]
theorem NZ (l:List ByteArray) (s:ByteArray):Ae prog 98 [Bv l,.str s] (.bool (decide (s∈l))):=by
 rw[<-eT];exact Oa l s
theorem RJ (l:List ByteArray) (s:ByteArray):Bn prog (.func 98) [.osl 0 0,.str s] [⟨0,0,.row 9 1 16 (l.map AH)⟩] (.bool (decide (s∈l))) [⟨0,0,.row 9 1 16 (l.map AH)⟩] :=
 Sr rfl (NZ l s)
def Wi : Ann:=⟨[15],[⟨4,[5],[],[]⟩]⟩
theorem MD (g:List Rul):Ae prog 50 [Ar g] (Bv (Ax g)):=by
 refine Ac [3] Wi func50 call50 ntmps50 mxd (Au @Wi.eq_1 results50) rfl (fun qJ B qX qQ=> ?_);have hs:g.length*40<=150000000000000:=by have:=qJ.1;simp only[FC,aN0]at this;exact this.1
 clear qJ;simp only[Am]
 (refine AG Ab Ab Ab ?_;intros;refine Ah ?_)
 refine BO 3 3 9 1 16 (by simp[qX,results50,Wi]) (fun n=> ?_);refine Ai (X:={i:Nat//i<=g.length}) (fun i=>⟨[(0,Ar g),(3,.osl 3 1),(6,Ar g),(7,.int .i64 g.length),(8,.int .i64 i.1)],[⟨3,1,.row 9 1 16 ((Ax (g.take i.1)).map AH)⟩]⟩) (fun i=>g.length-i.1) ⟨0,by omega⟩ (Sub.lit (by simp[Ax])) ?_;rintro⟨i,hi⟩;simp only
 by_cases qV:i<g.length
 ·obtain⟨r,hr,qG,gR⟩:=Ao qV;have wH:=OE hr;have hl:=IL (g.take i);rw[bA0]at hl;obtain⟨T,hT⟩:∃T,T=Ax (g.take i):=⟨_,rfl⟩;rw[<-hT]at wH hl |-;have e1:=RJ T r.h;have z1:(T.length+1)*16<=150000000000000:=by omega
  have z2:T.length+1<=9223372036854775807:=by omega
  unfold Ib at wH
  by_cases hm:r.h∈T
  ·rw[if_pos hm]at wH;rw[decide_eq_true hm]at e1
   (refine AG Ab (AD (KV [(3,0)] [] e1)) (GV @BD.eq_1 qV hr qG) ?_;intros;refine Ah ?_)
   refine Aj.mk ⟨i+1,by omega⟩ (Sub.lit (by simp[wH])) (by simp;omega)
   skip
  ·rw[if_neg hm]at wH;rw[decide_eq_false hm]at e1
   (refine AG Ab (AD (KV [(3,0)] [] e1)) (GN @BD.eq_1 qV hr qG z1 z2) ?_;intros;refine Ah ?_)
   refine Aj.mk ⟨i+1,by omega⟩ (Sub.lit (by simp[wH,AH])) (by simp;omega)
   skip
 ·have qZ:i=g.length:=by omega
  subst qZ;rw[aW0];exact Av Ab Ab Ab
abbrev dCM (m:CM):DObj:= .map (DI m.K) (Fu m.V)
def ZX : Ann:=⟨[],[⟨4,[7],[],[]⟩,⟨7,[9],[],[]⟩]⟩
theorem KY (g:List Rul) (k:Int):Bn prog (.func 101) [Ar g,.int .i64 k] [] (.omp 0 1) [⟨0,1,dCM (Pe (AI k g))⟩]:=by
 refine Cd [] [(10,0,1)] ZX func101 call101 ntmps101 mxd (Au @ZX.eq_1 results101) rfl (fun qJ B qX qQ=> ?_);have fD:=JJ qJ.1
 have nO:∀r∈g,r.b.length<9223372036854775807:=fun r hr=>by
  have h1:=qJ.1;obtain⟨i,hi,rfl⟩:=bX0 hr;have h2:uV (g.map BD):=by simp only[FC]at h1;exact h1.2.2
  have h3:=aO h2 (aE0 hi);simp only[BD,Lm]at h3;exact Pz h3.2.1
 clear qJ;simp only[Am,List.nil_append]
 (refine AG Ab Ab Ab ?_;intros;refine Ah ?_)
 refine Ai (X:={i:Nat//i<=g.length}) (fun i=>⟨[(0,Ar g),(1,.int .i64 k),(5,.omp 10 1),(11,Ar g),(12,.int .i64 g.length),(13,.int .i64 i.1)],[⟨10,1,dCM (Pe (AI k (g.take i.1)))⟩]⟩) (fun i=>g.length-i.1) ⟨0,by omega⟩ (Sub.lit (by simp[AI,Pe,DI,Fu])) ?_;rintro⟨i,hi⟩;simp only
 by_cases qV:i<g.length
 ·obtain⟨r,hr,qG,gR⟩:=Ao qV;have wH:=Oy (k:=k) hr;have kB:=nO r gR;obtain⟨N,hN⟩:∃N,N=AI k (g.take i):=⟨_,rfl⟩;rw[<-hN]at wH |-
  (refine AG Ab Ab (GV @BD.eq_1 qV hr qG) ?_;intros;refine Ah ?_)
  refine Ai (X:={j:Nat//j<=r.b.length}) (fun j=>⟨[(0,Ar g),(1,.int .i64 k),(5,.omp 10 1),(11,Ar g),(12,.int .i64 g.length),(13,.int .i64 i),(18,AU r.b),(19,.int .i64 r.b.length),(20,.int .i64 j.1)],[⟨10,1,dCM (Pe (N++Cr k (r.b.take j.1)))⟩]⟩) (fun j=>r.b.length-j.1) ⟨0,by omega⟩ (Sub.lit (by simp[Cr])) ?_;rintro⟨j,hj⟩;simp only
  by_cases qL:j<r.b.length
  ·obtain⟨x,hx,qA,vO⟩:=Ao qL;have htj:=Ox (k:=k) hx;obtain⟨E,hE⟩:∃E,E=N++Cr k (r.b.take j):=⟨_,rfl⟩;have nX:N++Cr k (r.b.take (j+1))=E++(if x.k=k then [x.s]else []):=by rw[htj,hE,aV0]
   rw[<-hE]
   by_cases hk:x.k=k
   ·rw[if_pos hk]at nX;have wJ:=Bl_ E x.s;have qW:=lI E;obtain⟨⟨Ks,V⟩,hm⟩:∃m,m=Pe E:=⟨_,rfl⟩;rw[<-hm]at wJ qW |-;have zA:=sE Ks;unfold RZ at wJ;simp only at wJ
    by_cases hs:x.s∈Ks
    ·rw[if_pos hs]at wJ;have l1:=QW hs;have l3:Lb Ks x.s<V.length:=by have:=Re hs;have:=qW.len;simp only at this;omega
     have v1:(Fu V)[Lb Ks x.s]? =some (.int .i64 (V.getD (Lb Ks x.s) 0)):=by simp[Fu,l3]
     obtain⟨q,hq⟩:∃q,q=IntKind.i64.wrap (V.getD (Lb Ks x.s) 0+1):=⟨_,rfl⟩;have kW:IntKind.i64.wrap (V.getD (Lb Ks x.s) 0+1)=q:=hq.symm;rw[kW]at wJ;obtain⟨c,wU⟩:∃c,c=V.getD (Lb Ks x.s) 0:=⟨_,rfl⟩;rw[<-wU]at v1 kW;have st1:=AK_ V (Lb Ks x.s) q;obtain⟨ix,hix⟩:∃ix,ix=Lb Ks x.s:=⟨_,rfl⟩;rw[<-hix]at l1 v1 st1 wJ
     (refine AG Ab Ab (LL @Bq.eq_1 qL hx qA hk zA l1 v1 kW st1) ?_;intros;refine Ah ?_)
     refine Aj.mk ⟨j+1,by omega⟩ (Sub.lit (by simp only[nX,wJ];simp)) (by simp;omega)
     skip
    ·rw[if_neg hs]at wJ;have l1:=IG hs;have st1:=AL_ V 1;have sk1:=xH Ks x.s
     (refine AG Ab Ab (Ut @Bq.eq_1 qL hx qA hk zA l1 st1 sk1) ?_;intros;refine Ah ?_)
     refine Aj.mk ⟨j+1,by omega⟩ (Sub.lit (by simp only[nX,wJ];simp)) (by simp;omega)
     skip
   ·have vK:(x.k==k)=false:=by simpa using hk
    rw[if_neg hk,bO0]at nX
    (refine AG Ab Ab (GN @Bq.eq_1 qL hx qA hk vK) ?_;intros;refine Ah ?_)
    refine Aj.mk ⟨j+1,by omega⟩ (Sub.lit (by simp only[nX];simp)) (by simp;omega)
    skip
  ·have qZ:j=r.b.length:=by omega
   subst qZ;rw[aW0]
   (refine AG Ab Ab Ab ?_;intros;refine Ah ?_)
   refine Aj.mk ⟨i+1,by omega⟩ (Sub.lit (by simp only[wH];simp)) (by simp;omega)
   skip
 ·have qZ:i=g.length:=by omega
  subst qZ;rw[aW0];exact Av Ab Ab Ab
def sN (m:CM) (s:ByteArray):CM:=if s∈m.K then ⟨m.K.eraseIdx (Lb m.K s),m.V.eraseIdx (Lb m.K s)⟩else m
structure DelOk (m0 m:CM) (hs:List ByteArray):Prop where
 len:m.K.length=m.V.length
 mem:∀s,s∈m.K↔s∈m0.K/\¬s∈hs
 nd:m.K.Nodup
theorem Bb_ {l:List ByteArray} (hn:l.Nodup) {s x:ByteArray} (hs:s∈l):x∈l.eraseIdx (Lb l s)↔x∈l/\x≠s:=by
 have hi:=Re hs
 have hv:l[Lb l s]=s:=by
  have:=List.findIdx_getElem (xs:=l) (p:=fun x=>s==x) (w:=hi);simp at this;exact this.symm
 rw[List.mem_eraseIdx_iff_getElem]
 constructor
 ·rintro⟨i,gG,qF,rfl⟩;refine⟨bW0 gG,fun e=>qF ?_⟩;exact(List.getElem_inj hn).1 (e.trans hv.symm)
 ·rintro⟨hx,qF⟩;obtain⟨i,gG,rfl⟩:=bX0 hx;refine⟨i,gG,fun e=>qF ?_,rfl⟩;subst e;exact hv
theorem DelOk.step {m0 m:CM} {hs:List ByteArray} (h:DelOk m0 m hs) (s:ByteArray):DelOk m0 (sN m s) (hs++[s]):=by
 unfold sN
 split
 ·rename_i hm;refine⟨?_,fun x=> ?_,h.nd.sublist (List.eraseIdx_sublist _ _)⟩
  ·have:=Re hm;rw[List.length_eraseIdx_of_lt this,List.length_eraseIdx_of_lt (by have:=h.len;omega),h.len]
  ·simp only;rw[Bb_ h.nd hm,h.mem x,aH0,aF0]
   constructor
   ·rintro⟨⟨a,b⟩,c⟩;exact⟨a,fun hh=>by rcases hh with hh | hh;exact b hh;exact c hh⟩
   ·rintro⟨a,b⟩;exact⟨⟨a,fun hh=>b (.inl hh)⟩,fun hh=>b (.inr hh)⟩
 ·rename_i hm;refine⟨h.len,fun x=> ?_,h.nd⟩;rw[h.mem x,aH0,aF0]
  constructor
  ·rintro⟨a,b⟩;exact⟨a,fun hh=>by rcases hh with hh | hh;exact b hh;subst hh;exact hm ((h.mem x).2 ⟨a,b⟩)⟩
  ·rintro⟨a,b⟩;exact⟨a,fun hh=>b (.inl hh)⟩
theorem XR (V:List Int) (j:Nat):(Fu V).eraseIdx j=Fu (V.eraseIdx j):=by unfold Fu;rw[HV]
theorem WI (V:List ByteArray) (j:Nat):(DI V).eraseIdx j=DI (V.eraseIdx j):=by unfold DI;rw[HV]
def ZW : Ann:=⟨[7],[⟨4,[5],[],[]⟩]⟩
theorem Ja (g:List Rul) (hn:(AI 2 g).length<=9223372036854775807):Ae prog 145 [Ar g] (.int .i64 (CP g).length):=by
 refine Ac [] ZW func145 call145 ntmps145 mxd (Au @ZW.eq_1 results145) rfl (fun qJ B qX qQ=> ?_);have fD:=JJ qJ.1;clear qJ;simp only[Am];have e1:=KY g 2;have qW:=lI (AI 2 g);obtain⟨m0,gW⟩:∃m,m=Pe (AI 2 g):=⟨_,rfl⟩;rw[<-gW]at e1 qW
 (refine AG Ab (AD (KV [] [(7,0)] e1)) Ab ?_;intros;refine Ah ?_)
 refine Ai (X:={x:Nat×CM//x.1<=g.length/\DelOk m0 x.2 ((g.take x.1).map (·.h))}) (fun x=>⟨[(0,Ar g),(3,.omp 7 1),(8,Ar g),(9,.int .i64 g.length),(10,.int .i64 x.1.1)],[⟨7,1,dCM x.1.2⟩]⟩) (fun x=>g.length-x.1.1) ⟨(0,m0),by simp,by simpa using qW.len,by simp,qW.nd⟩ (Sub.lit (by simp)) ?_;rintro⟨⟨i,m⟩,hi,hD⟩;simp only at hi hD |-
 by_cases qV:i<g.length
 ·obtain⟨r,hr,qG,gR⟩:=Ao qV
  have pU:DelOk m0 (sN m r.h) ((g.take (i+1)).map (·.h)):=by
   have:=hD.step r.h;rw[bJ0,hr,bD0];exact this
  obtain⟨Ks,V⟩:=m;have zA:=sE Ks;unfold sN at pU;simp only at pU
  by_cases hs:r.h∈Ks
  ·rw[if_pos hs]at pU;have l1:=QW hs;have s1:=WI Ks (Lb Ks r.h);have s2:=XR V (Lb Ks r.h)
   (refine AG Ab Ab (LL @BD.eq_1 qV hr qG zA l1 @RD.eq_1 @RC.eq_1 s1 s2) ?_;intros;refine Ah ?_)
   refine Aj.mk ⟨(i+1,_),show i+1<=g.length/\_ from ⟨by omega,pU⟩⟩ (Sub.lit (by simp)) (by simp;omega)
   skip
  ·rw[if_neg hs]at pU;have l1:=IG hs
   (refine AG Ab Ab (KQ @BD.eq_1 qV hr qG zA l1 @RD.eq_1 @RC.eq_1) ?_;intros;refine Ah ?_)
   refine Aj.mk ⟨(i+1,_),show i+1<=g.length/\_ from ⟨by omega,pU⟩⟩ (Sub.lit (by simp)) (by simp;omega)
   skip
 ·have qZ:i=g.length:=by omega
  subst qZ;rw[aW0]at hD
  have zO:m.K.length=(CP g).length:=CX_ hD.nd fun s=>by
   rw[hD.mem s,qW.mem s,LA];simp
  have hsl:=xG m.K;rw[zO]at hsl;have yW:(CP g).length<=9223372036854775807:=Nat.le_trans (Nat.le_trans (cI0 _ _) (HH _)) hn;obtain⟨Ks,V⟩:=m;exact Av Ab Ab (Au hsl yW)
def YP : Ann:=⟨[],[]⟩
theorem Hq (k c:Int) (hk:k=2/\c=85\/k=3/\c=76) (s:ByteArray):Ae prog 116 [.str s,.int .u8 c] (.bool (Dn k s)):=by
 refine Ac [] YP func116 call116 ntmps116 mxd (Au @YP.eq_1 results116) rfl (fun qJ B qX qQ=> ?_);have qP:s.size<=9223372036854775807:=by have:=qJ.1;simp only[FC,maxLen]at this;omega
 clear qJ;simp only[Am];obtain⟨R,hR⟩:∃R,R=Dn k s:=⟨_,rfl⟩;rw[<-hR];unfold Dn at hR
 by_cases h1:1<=s.size
 ·by_cases h2:s.size<=16
  ·have g1:¬(s.size:Int)<1:=by omega
   have g2:¬(16:Int)<s.size:=by omega
   have g0:0<s.size:=by omega
   obtain⟨b0,qR,fM,_⟩:=Ao (show 0<s.data.toList.length by rw[CN];omega)
   (refine AG Ab Ab (Jh g0 g1 g2 h1 h2) ?_;intros;refine Ah ?_)
   refine Ai (X:={k:Nat//k<=s.size/\Db_ s=((s.data.toList.drop k).all fun b=>XI (b.toNat:Int))}) (fun k=>⟨[(0,.str s),(1,.int .u8 c),(5,.int .i64 k.1)],[]⟩) (fun k=>s.size-k.1) ⟨0,by simp[Db_]⟩ (Sub.lit (by simp)) ?_;rintro⟨j,hj,hl⟩
   by_cases qV:j<s.size
   ·obtain⟨b,hb,qM,_⟩:=Ao (show j<s.data.toList.length by rw[CN];exact qV);rw[aS0 (by rw[CN];exact qV),qM,dA0]at hl;have e1:=SP (b.toNat:Int);cases hL:XI (b.toNat:Int)
    ·rw[hL]at e1 hl;have wX:R=false:=by rw[hR];unfold BQ;rw[hl];simp
     subst wX;exact Av (AD e1) Ab (CD qV hb qM)
    ·rw[hL]at e1 hl;simp only[cC0]at hl
     (refine AG (AD e1) Ab (CD qV hb qM) ?_;intros;refine Ah ?_)
     refine Aj.mk ⟨j+1,by omega,hl⟩ (Sub.lit (by simp)) (by simp;omega)
     skip
   ·have qZ:j=s.size:=by omega
    subst qZ;rw[<-CN,bT0]at hl;have hN:BQ s=true:=by unfold BQ;rw[hl];simp[h1,h2]
    rw[hN]at hR;simp only[XV qR,cC0]at hR;have e1:=Jw (b0.toNat:Int);have e2:=JA (b0.toNat:Int)
    rcases hk with ⟨rfl,rfl⟩ | ⟨rfl,rfl⟩
    ·simp only[if_true]at hR;rw[<-hR]at e1;cases R
     ·exact Av (Au e1 e2) Ab (CD g0 qR fM)
     ·exact Av (Au e1 e2) Ab (CD g0 qR fM)
    ·simp only[show ¬(3:Int)=2 by omega,if_false]at hR;rw[<-hR]at e2;cases R
     ·exact Av (Au e1 e2) Ab (CD g0 qR fM)
     ·exact Av (Au e1 e2) Ab (CD g0 qR fM)
  ·have g1:¬(s.size:Int)<1:=by omega
   have g2:(16:Int)<s.size:=by omega
   have wX:R=false:=by rw[hR];unfold BQ;simp[h2]
   subst wX;exact Av Ab Ab (GV g1 g2 h1 h2)
 ·have g1:(s.size:Int)<1:=by omega
  have wX:R=false:=by rw[hR];unfold BQ;simp[h1]
  subst wX;exact Av Ab Ab (Au g1 h1)
def Zo : Ann:=⟨[],[]⟩
theorem Av_ (x:Nd):Ae prog 212 [.agg (Bq x)] (.bool (DO x)):=by
 refine Ac [] Zo func212 call212 ntmps212 mxd (Au @Zo.eq_1 results212) rfl (fun qJ B qX qQ=> ?_);simp only[Am];have e1:=Hq 2 85 (.inl ⟨rfl,rfl⟩) x.s;have e2:=Hq 3 76 (.inr ⟨rfl,rfl⟩) x.s;rw[show Dn 2 x.s=(BQ x.s&&Jd aI x.s) from rfl]at e1;rw[show Dn 3 x.s=(BQ x.s&&Jd aL x.s) from rfl]at e2;unfold DO aN
 by_cases k1:x.k=1
 ·exact Av Ab Ab (CD @Bq.eq_1 @AV k1)
 by_cases k2:x.k=2
 ·obtain⟨b,hb⟩:∃b,b=(BQ x.s&&Jd aI x.s):=⟨_,rfl⟩;rw[<-hb]at e1 |-;clear hb;cases b<;>exact Av (AD e1) Ab (GV @Bq.eq_1 @AV k1 k2)
 by_cases k3:x.k=3
 ·obtain⟨b,hb⟩:∃b,b=(BQ x.s&&Jd aL x.s):=⟨_,rfl⟩;rw[<-hb]at e2 |-;clear hb;cases b<;>exact Av (AD e2) Ab (Jh @Bq.eq_1 @AV k1 k2 k3)
 by_cases k4:x.k=4
 ·exact Av Ab Ab (GN @Bq.eq_1 @AV k1 k2 k3 k4)
 by_cases k5:x.k=5
 ·exact Av Ab Ab (Iw @Bq.eq_1 @AV k1 k2 k3 k4 k5)
 by_cases k6:x.k=6
 ·exact Av Ab Ab (KQ @Bq.eq_1 @AV k1 k2 k3 k4 k5 k6)
 by_cases k7:x.k=7
 ·exact Av Ab Ab (Ut @Bq.eq_1 @AV k1 k2 k3 k4 k5 k6 k7)
 by_cases k8:x.k=8
 ·exact Av Ab Ab (LL @Bq.eq_1 @AV k1 k2 k3 k4 k5 k6 k7 k8)
 exact Av Ab Ab (LL @Bq.eq_1 @AV k1 k2 k3 k4 k5 k6 k7 k8)
def lB (l:List Nd) (p:Nat):Int:=match EN (l.drop p) 1 with
 | some r=>(l.length:Int)-r.length
 | none=> -1
def Zp : Ann:=⟨[],[]⟩
theorem JZ (l:List Nd) (p:Nat) (hs:l.length<=1572864) (hp:p<=l.length):Ae prog 185 [AU l,.int .i64 p] (.int .i64 (lB l p)):=by
 refine Ac [] Zp func185 call185 ntmps185 mxd (Au @Zp.eq_1 results185) rfl (fun qJ B qX qQ=> ?_);clear qJ;simp only[Am];obtain⟨R,hR⟩:∃R,R=lB l p:=⟨_,rfl⟩;rw[<-hR];unfold lB at hR;obtain⟨E,hE⟩:∃E,E=EN (l.drop p) 1:=⟨_,rfl⟩;rw[<-hE]at hR
 (refine AG Ab Ab Ab ?_;intros;refine Ah ?_)
 refine Ai (X:={q:Nat×Nat//q.1<=l.length/\EN (l.drop q.1) q.2=E/\q.2<=1+q.1*1572864}) (fun q=>⟨[(0,AU l),(1,.int .i64 q.1.1),(5,.int .i64 q.1.2)],[]⟩) (fun q=>l.length+1-q.1.1) ⟨(p,1),hp,hE.symm,by simp only;omega⟩ (Sub.lit (by simp)) ?_;clear hE;rintro⟨⟨k,w⟩,hk,hw,nO⟩;simp only at hk hw nO |-
 cases w with
 | zero =>
  rw[Cu]at hw;rw[<-hw]at hR;simp only[cF0]at hR;have pY:R=k:=by omega
  subst pY;exact Av Ab Ab Ab
 | succ v =>
  have hv:(0:Int)<(v:Int)+1:=by omega
  by_cases qV:k<l.length
  ·obtain⟨x,hx,qA,_⟩:=Ao qV;rw[aS0 qV,qA]at hw;have e1:=Av_ x;simp only[Bq]at e1;have fH:¬l.length<=k:=by omega
   cases hm:DO x
   ·rw[hm]at e1;rw[DB,hm]at hw;simp only[aR0,if_false]at hw;rw[<-hw]at hR;simp only at hR;subst hR;exact Av (AD e1) Ab (GN @Bq.eq_1 qV fH hx qA hv)
   ·rw[hm]at e1;have zB:=HU hm;obtain⟨c,yB⟩:∃c:Nat,x.n=(c:Int):=⟨x.n.toNat,by omega⟩;rw[yB]at e1;rw[DB,if_pos hm,yB,dE0]at hw
    by_cases fG:l.length<c
    ·have kX:(l.length:Int)<(c:Int):=by omega
     rw[Rw _ _ (by rw[cF0];omega)]at hw;rw[<-hw]at hR;simp only at hR;subst hR;exact Av (AD e1) Ab (Ut @Bq.eq_1 qV fH hx qA hv yB fG kX)
    ·have kX:¬(l.length:Int)<(c:Int):=by omega
     have q1:IntKind.i64.wrap ((v:Int))=(v:Int):=wq;have q2:IntKind.i64.wrap ((v:Int)+(c:Int))=(v:Int)+(c:Int):=wq
     (refine AG (AD e1) Ab (Jn @Bq.eq_1 qV fH hx qA hv yB fG kX q1 q2) ?_;intros;refine Ah ?_)
     refine Aj.mk ⟨(k+1,v+c),show k+1<=l.length/\EN (l.drop (k+1)) (v+c)=E/\v+c<=1+(k+1)*1572864 from ⟨by omega,hw,by omega⟩⟩ (Sub.lit (by simp)) (by simp;omega)
     skip
  ·have fH:l.length<=k:=by omega
   rw[cW0 fH,Ih]at hw;rw[<-hw]at hR;simp only at hR;subst hR;exact Av Ab Ab (Au hv fH)
def Zq : Ann:=⟨[],[]⟩
theorem EA (l:List Nd) (hs:l.length<=1572864):Ae prog 117 [AU l] (.bool (Dd l)):=by
 refine Ac [] Zq func117 call117 ntmps117 mxd (Au @Zq.eq_1 results117) rfl (fun qJ B qX qQ=> ?_);clear qJ;simp only[Am];have e1:=JZ l 0 hs (by omega);unfold lB at e1;unfold Dd;rw[dW0]at e1
 by_cases h0:0<l.length
 ·cases hE:EN l 1 with
  | none =>
   rw[hE]at e1;have qF:((-1:Int)==(l.length:Int))=false:=by simp
   exact Av (AD e1) Ab (Au h0 qF)
  | some r =>
   rw[hE]at e1
   cases r with
   | nil =>
    simp only[List.length_nil,Int.natCast_zero,Int.sub_zero]at e1;exact Av (AD e1) Ab (AD h0)
   | cons y r =>
    have qF:(((l.length:Int)-((y::r).length:Int))==(l.length:Int))=false:=by simp;omega
    obtain⟨e,he⟩:∃e:Int,e=(l.length:Int)-((y::r).length:Int):=⟨_,rfl⟩;rw[<-he]at qF;have e3:Ae prog 185 [AU l,.int .i64 0] (.int .i64 e):=by rw[he];exact e1
    exact Av (AD e3) Ab (Au h0 qF)
 ·have hl:l=[]:=bM0 (by omega);subst hl;rw[Ih];exact Av Ab Ab Ab
def GI : Ann:=⟨[],[⟨5,[6],[],[]⟩]⟩
theorem JR (t:RT) (ht:Ew t=true) (hs:(flat t).length<=1572864):Ae prog 157 [AU (flat t)] (.int .i64 (Jk t)):=by
 refine Ac [] GI func157 call157 ntmps157 mxd (Au @GI.eq_1 results157) rfl (fun qJ B qX qQ=> ?_);clear qJ;simp only[Am];have hR:=JP ht;have bH:=rF ht;have dI:∀x∈flat t,x.n<=1572864:=fun x hx=>by have:=Rc t ht x hx;omega
 obtain⟨l,hl⟩:∃l,l=flat t:=⟨_,rfl⟩;rw[<-hl]at hR bH dI hs |-;clear hl;obtain⟨R,fI⟩:∃R,R=Jk t:=⟨_,rfl⟩;rw[<-fI]at hR |-;clear fI ht
 (refine AG Ab Ab Ab ?_;intros;refine Ah ?_)
 refine BO 4 50 3 1 8 (by simp[qX,results157,GI]) (fun n=> ?_);refine Ai (X:={p:Nat×List Nat×Nat//p.1<=l.length/\(l.drop p.1).foldl He (p.2.1,p.2.2)=([],R)/\p.2.1.length<=p.1/\p.2.2<=p.1/\GL p.2.1}) (fun p=>⟨[(3,.int .i64 p.1.2.2),(4,.osl 50 1),(7,AU l),(8,.int .i64 l.length),(9,.int .i64 p.1.1)],[⟨50,1,.row 3 1 8 (IQ p.1.2.1)⟩]⟩) (fun p=>l.length-p.1.1) ⟨(0,[],0),by simp[hR,GL]⟩ (Sub.lit (by simp[CY])) ?_
 rintro⟨⟨k,s,m⟩,hk,hw,hsl,hmb,zR⟩;simp only at hk hw hsl hmb zR |-;clear hR
 by_cases qV:k<l.length
 ·obtain⟨x,hx,qA,vO⟩:=Ao qV;rw[aS0 qV,qA,cT0]at hw;have zB:=HU (bH x vO);obtain⟨c,yB⟩:∃c:Nat,x.n=(c:Int):=⟨x.n.toNat,by omega⟩;have jI:=AP_ (p:=(s,m)) x (by have:=dI x vO;omega) zR;have gH:=AQ_ (s,m) x;unfold He at hw jI gH;rw[yB,dE0]at hw jI gH;simp only at hw jI gH;obtain⟨P,hP⟩:∃P,P=(if c=0 then fin s else c::s):=⟨_,rfl⟩;rw[<-hP]at hw jI gH;have vA:(if (m:Int)<(s.length:Int)+1 then (s.length:Int)+1 else (m:Int))=((max m (s.length+1):Nat):Int):=by split<;>omega
  obtain⟨m2,gS⟩:∃m2,m2=max m (s.length+1):=⟨_,rfl⟩;rw[<-gS]at hw vA;have hm2b:m2<=k+1:=by omega
  have z1:(s.length+1)*8<=150000000000000:=by omega
  have z2:s.length+1<=9223372036854775807:=by omega
  have q1:IntKind.i64.wrap ((s.length:Int)+1)=(s.length:Int)+1:=wq
  (refine AG Ab Ab (LL @Bq.eq_1 qV hx qA yB @ED vA z1 z2 q1) ?_;intros;refine Ah ?_)
  refine Ai (X:={q:List Nat//Cx_ q=P/\q.length<=k+1/\GL q.tail}) (fun q=>⟨[(3,.int .i64 m2),(4,.osl 50 1),(7,AU l),(8,.int .i64 l.length),(9,.int .i64 k)],[⟨50,1,.row 3 1 8 (IQ q.1)⟩]⟩) (fun q=>q.1.length) ⟨c::s,by rw[hP,Aa_],by simp;omega,zR⟩ (Sub.lit (by simp[vA,Ii,Bx])) ?_;rintro⟨q,fQ,kW,gU⟩;simp only
  match q,fQ,kW,gU with
  | [],fQ,kW,gU =>
   have mA:P=[]:=by rw[<-fQ];rfl
   (refine AG Ab Ab (AD @CY) ?_;intros;refine Ah ?_)
   refine Aj.mk ⟨(k+1,P,m2),show k+1<=l.length/\(l.drop (k+1)).foldl He (P,m2)=([],R)/\P.length<=k+1/\m2<=k+1/\GL P from ⟨by omega,hw,by omega,hm2b,jI⟩⟩ (Sub.lit (by simp[mA,CY])) (by simp;omega)
   skip
  | d::q,fQ,kW,gU =>
   have hql:q.length<=k:=by simpa using kW
   have qU:(IQ (d::q)).length=q.length+1:=by rw[ED];rfl
   have vJ:=Yt d q;have wH:=Bh_ d q;have q2:IntKind.i64.wrap ((q.length:Int))=(q.length:Int):=wq;obtain⟨D,hD⟩:∃D,D=IQ (d::q):=⟨_,rfl⟩;rw[<-hD]at qU vJ wH |-;have qO:q.length<D.length:=by omega
   have wD:D[q.length]'qO=[.int .i64 (d:Int)]:=(aB0.1 vJ).2;have wA:(0:Int)<(q.length:Int)+1:=by omega
   cases d with
   | zero =>
    cases q with
    | nil =>
     have mA:P=[]:=by rw[<-fQ];rfl
     have q0:IntKind.i64.wrap 0=0:=by decide
     simp only[List.length_nil,bR0]at qU vJ wD wH qO
     (repeat (first | (refine Uu 4 ?_ (fun _=> ?_);(· (simp[qX,qU,vJ,wD,qO,wA,wH,CY,q0];done));(try simp[qX,qU,vJ,wD,qO,wA,wH,CY,q0])) | refine AJ fun K hK=> ?_ | (refine BV GI mxd (by kernel_rfl) ?_;simp[GI,qX,qU,vJ,wD,qO,wA,wH,CY,q0];try simp (disch:=omega) only[Al]) | refine Aq ?_ | (refine Bi ?_ ?_ ?_;(· (simp[qX,qU,vJ,wD,qO,wA,wH,CY,q0];done));(try (rotate_left;(· (intro hc;(try simp[qX,qU,vJ,wD,qO,wA,wH,CY,q0]at hc);done))))) | (refine AN ?_;simp[results157,qX,qU,vJ,wD,qO,wA,wH,CY,q0]) | ((first | refine AB ?_ | refine AA ?_);simp[qX,qU,vJ,wD,qO,wA,wH,CY,q0]) | (intro hc;(try simp[qX,qU,vJ,wD,qO,wA,wH,CY,q0]at hc);(try (exfalso;omega))) | (refine⟨?_,?_⟩; · omega) | omega | apply_assumption -exfalso -symm | (exfalso;omega)))
     refine Aj.mk ⟨[],mA.symm,by simp,by simp[GL]⟩ (Sub.lit (by simp[CY])) (by simp)
     skip
    | cons e q =>
     obtain⟨cL,he9⟩:=gU e (by simp);have q5:IntKind.i64.wrap ((e-1:Nat):Int)=((e-1:Nat):Int):=wq;have mA:Cx_ ((e-1)::q)=P:=by rw[xZ cL,<-fQ];rfl
     have cU:GL q:=fun c hc=>gU c (by simp[hc])
     simp only[List.length_cons]at qU vJ wD wH qO q2 wA hql;have wS:(IQ (e::q)).length=q.length+1:=by rw[ED];rfl
     have zU:=Yt e q;have vC:=DO_ e (e-1) q;obtain⟨E,hE⟩:∃E,E=IQ (e::q):=⟨_,rfl⟩;rw[<-hE]at wS zU vC wH;have jN:q.length<E.length:=by omega
     have zX:E[q.length]'jN=[.int .i64 (e:Int)]:=(aB0.1 zU).2;have q3:IntKind.i64.wrap ((q.length:Int)+1)=(q.length:Int)+1:=wq;have q4:IntKind.i64.wrap ((q.length:Int))=(q.length:Int):=wq;have vM:(e:Int)-1=((e-1:Nat):Int):=by omega
     have cO:(0:Int)<(q.length:Int)+1:=by omega
     have nD:(0:Int)<(q.length:Int)+1+1:=by omega
     (repeat (first | (refine Uu 4 ?_ (fun _=> ?_);(· (simp[qX,qU,vJ,wD,qO,wA,cO,nD,wH,q3,q4,wS,zU,zX,jN,vM,vC,q5];done));(try simp[qX,qU,vJ,wD,qO,wA,cO,nD,wH,q3,q4,wS,zU,zX,jN,vM,vC,q5])) | refine AJ fun K hK=> ?_ | (refine BV GI mxd (by kernel_rfl) ?_;simp[GI,qX,qU,vJ,wD,qO,wA,cO,nD,wH,q3,q4,wS,zU,zX,jN,vM,vC,q5];try simp (disch:=omega) only[Al]) | refine Aq ?_ | (refine Bi ?_ ?_ ?_;(· (simp[qX,qU,vJ,wD,qO,wA,cO,nD,wH,q3,q4,wS,zU,zX,jN,vM,vC,q5];done));(try (rotate_left;(· (intro hc;(try simp[qX,qU,vJ,wD,qO,wA,cO,nD,wH,q3,q4,wS,zU,zX,jN,vM,vC,q5]at hc);done))))) | (refine AN ?_;simp[results157,qX,qU,vJ,wD,qO,wA,cO,nD,wH,q3,q4,wS,zU,zX,jN,vM,vC,q5]) | ((first | refine AB ?_ | refine AA ?_);simp[qX,qU,vJ,wD,qO,wA,cO,nD,wH,q3,q4,wS,zU,zX,jN,vM,vC,q5]) | (intro hc;(try simp[qX,qU,vJ,wD,qO,wA,cO,nD,wH,q3,q4,wS,zU,zX,jN,vM,vC,q5]at hc);(try (exfalso;omega))) | (refine⟨?_,?_⟩; · omega) | omega | apply_assumption -exfalso -symm | (exfalso;omega)))
     refine Aj.mk ⟨(e-1)::q,mA,by simp;omega,cU⟩ (Sub.lit (by simp)) (by simp)
     skip
   | succ d =>
    have mA:P=(d+1)::q:=by rw[<-fQ];rfl
    have fW:¬(d:Int)+1=0:=by omega
    have hd0':(((d:Int)+1)==0)=false:=by simpa using fW
    (refine AG Ab Ab (KQ qU vJ wD qO q2 wA fW hd0') ?_;intros;refine Ah ?_)
    refine Aj.mk ⟨(k+1,P,m2),show k+1<=l.length/\(l.drop (k+1)).foldl He (P,m2)=([],R)/\P.length<=k+1/\m2<=k+1/\GL P from ⟨by omega,hw,by omega,hm2b,jI⟩⟩ (Sub.lit (by simp[mA,hD])) (by simp;omega)
    skip
 ·have qZ:k=l.length:=by omega
  subst qZ;rw[bT0]at hw;simp only[List.foldl_nil,_root_.Prod.mk.injEq]at hw;obtain⟨rfl,rfl⟩:=hw;exact Av Ab Ab Ab
def dT (t:RT):List DVal:=[AU (flat t)]
abbrev dTs (ts:List RT):DVal:= .sl 1 24 (ts.map dT)
@[simp] theorem HK_ (t:RT):AL (dT t)=0:=by simp[dT,AL,mx]
@[simp] theorem IN_ (l:List RT):Bp (l.map dT)=0:=HT _ HK_ l
theorem LB {ks:List RT} {i:Nat} {t:RT} (h:ks[i]? =some t):(Ak (ks.take (i+1))).length=(Ak (ks.take i)).length+(flat t).length:=by
 rw[bJ0,h,Fc,aC0];simp[Ak]
theorem JW (ks:List RT) (i:Nat):Ak ks=Ak (ks.take i)++Ak (ks.drop i):=by rw[<-Fc,List.take_append_drop]
def EH : Ann:=⟨[],[]⟩
theorem XQ (x:Nd) (ks:List RT) (ht:Ew (.mk x ks)=true) (hs:(flat (.mk x ks)).length<=1572864):Ae prog 123 [AU (flat (.mk x ks))] (dTs ks):=by
 refine Ac [60] EH func123 call123 ntmps123 mxd (Au @EH.eq_1 results123) rfl (fun qJ B qX qQ=> ?_);clear qJ;simp only[Am];obtain⟨hm,hn,qW⟩:=Cj ht;have bH:=rF ht;have dI:=Rc _ ht;obtain⟨l,hl⟩:∃l,l=flat (.mk x ks):=⟨_,rfl⟩;have zL:l=x::Ak ks:=by rw[hl,AO]
 rw[<-hl]at bH dI hs |-;have h0:l[0]? =some x:=by rw[zL];rfl
 have qU:l.length=(Ak ks).length+1:=by rw[zL];simp
 have wO:0<l.length:=by omega
 have vS:l[0]'wO=x:=(aB0.1 h0).2;have zA:ks.length<=1572864:=by have:=Ct ks;omega
 (refine AG Ab Ab (Jh @Bq.eq_1 h0 vS wO hn) ?_;intros;refine Ah ?_)
 refine BO 3 60 63 1 24 (by simp[qX,results123,EH]) (fun n=> ?_);refine Ai (X:={i:Nat//i<=ks.length}) (fun i=>⟨[(0,AU l),(3,.osl 60 1),(4,.int .i64 (1+(Ak (ks.take i.1)).length:Nat)),(10,.int .i64 ks.length),(11,.int .i64 i.1)],[⟨60,1,.row 63 1 24 ((ks.take i.1).map dT)⟩]⟩) (fun i=>ks.length-i.1) ⟨0,by omega⟩ (Sub.lit (by simp[Ak])) ?_;rintro⟨i,hi⟩;simp only
 by_cases qV:i<ks.length
 ·obtain⟨t,wH,nL,_⟩:=Ao qV;have jI:=JW ks i;have hdr:=aS0 qV;rw[nL]at hdr
  have fY:FJ (ks.drop i)=true:=by
   have:=Pw (ks.take i) (ks.drop i);rw[List.take_append_drop,qW]at this;simpa using (by simpa using this.symm:FJ (ks.take i)=true/\FJ (ks.drop i)=true).2
  rw[hdr]at fY;obtain⟨jO,hokr⟩:=BM fY;obtain⟨A,hA⟩:∃A,A=1+(Ak (ks.take i)).length:=⟨_,rfl⟩;obtain⟨r,hr⟩:∃r,r=Ak (ks.drop (i+1)):=⟨_,rfl⟩
  have yR:l.drop A=flat t++r:=by
   rw[zL,hA,Nat.add_comm,dS0,jI,dT0 (Nat.le_refl _),bT0,List.nil_append,hdr,Ap,hr]
  have hend:EN (l.drop A) 1=some r:=by rw[yR,Gd t r 0 jO,Cu]
  have hA2:A+(flat t).length+r.length=l.length:=by
   have:=congrArg List.length yR;rw[cF0,aC0]at this;have:=GB t;omega
  have hnext:=LB wH;rw[<-hA];clear jI hdr fY hokr
  (repeat (first | refine AJ fun K hK=> ?_ | (refine BV EH mxd (by kernel_rfl) ?_;simp[EH,qX,qV];try simp (disch:=omega) only[Al]) | refine Aq ?_ | (refine Bi ?_ ?_ ?_;(· (simp[qX,qV];done));(try (rotate_left;(· (intro hc;(try simp[qX,qV]at hc);done))))) | (refine AN ?_;simp[results123,qX,qV]) | ((first | refine AB ?_ | refine AA ?_);simp[qX,qV]) | (intro hc;(try simp[qX,qV]at hc);(try (exfalso;omega))) | (refine⟨?_,?_⟩; · omega) | omega | apply_assumption -exfalso -symm | (exfalso;omega)))
  refine Ai (X:={p:Nat×Nat//p.1<=l.length/\EN (l.drop p.1) p.2=some r/\p.2<=1+p.1*1572864/\A<=p.1}) (fun p=>⟨[(0,AU l),(3,.osl 60 1),(4,.int .i64 p.1.1),(5,.int .i64 A),(6,.int .i64 p.1.2),(10,.int .i64 ks.length),(11,.int .i64 i)],[⟨60,1,.row 63 1 24 ((ks.take i).map dT)⟩]⟩) (fun p=>l.length-p.1.1) ⟨(A,1),show A<=l.length/\EN (l.drop A) 1=some r/\1<=1+A*1572864/\A<=A from ⟨by omega,hend,by omega,Nat.le_refl _⟩⟩ (Sub.lit (by simp)) ?_
  rintro⟨⟨k,w⟩,hk,hw,nO,hAk⟩;simp only at hk hw nO hAk |-
  cases w with
  | zero =>
   rw[Cu]at hw;simp only[aA0]at hw
   have wR:k=A+(flat t).length:=by
    have:=congrArg List.length hw;rw[cF0]at this;omega
   have z1:((ks.take i).length+1)*24<=150000000000000:=by rw[bA0];omega
   have z2:(ks.take i).length+1<=9223372036854775807:=by rw[bA0];omega
   have hpiece:(l.drop A).take (k-A)=flat t:=by rw[wR,Nat.add_sub_cancel_left,yR];simp
   have qZ:A<=l.length:=by omega
   (repeat (first | refine AJ fun K hK=> ?_ | (refine BV EH mxd (by kernel_rfl) ?_;simp[EH,qX,qV,hk,hAk,qZ];try simp (disch:=omega) only[Al]) | refine Aq ?_ | (refine Bi ?_ ?_ ?_;(· (simp[qX,qV,hk,hAk,qZ];done));(try (rotate_left;(· (intro hc;(try simp[qX,qV,hk,hAk,qZ]at hc);done))))) | (refine AN ?_;simp[results123,qX,qV,hk,hAk,qZ]) | ((first | refine AB ?_ | refine AA ?_);simp[qX,qV,hk,hAk,qZ]) | (intro hc;(try simp[qX,qV,hk,hAk,qZ]at hc);(try (exfalso;omega))) | (refine⟨?_,?_⟩; · omega) | omega | apply_assumption -exfalso -symm | (exfalso;omega)))
   have hpD:List.take (k-A) (List.drop A (List.map Bq l))=(flat t).map Bq:=by rw[<-List.map_drop,<-eK0,hpiece]
   have htm:List.take (i+1) (List.map dT ks)=List.take i (List.map dT ks)++[dT t]:=by rw[bJ0,bK0,wH];rfl
   have yC:(1:Int)+((Ak (List.take (i+1) ks)).length:Int)=(k:Int):=by omega
   refine Aj.mk ⟨i+1,by omega⟩ (Sub.lit (by simp[hpD,htm,yC,dT,Bx])) (by simp;omega)
   skip
  | succ v =>
   have qL:k<l.length:=by
    rcases Nat.lt_or_ge k l.length with h | h
    ·exact h
    ·rw[cW0 h,Ih]at hw;simp at hw
   obtain⟨y,hy,yV,nV⟩:=Ao qL;rw[aS0 qL,yV,DB,if_pos (bH y nV)]at hw;have zB:=HU (bH y nV);have hk9:=dI y nV;obtain⟨c,yB⟩:∃c:Nat,y.n=(c:Int):=⟨y.n.toNat,by omega⟩;rw[yB,dE0]at hw;have q1:IntKind.i64.wrap ((c:Int)-1)=(c:Int)-1:=wq;have q2:IntKind.i64.wrap ((v:Int)+1+((c:Int)-1))=(v:Int)+(c:Int):=by rw[wq];omega
   have q3:(0:Int)<(v:Int)+1:=by omega
   (repeat (first | refine AJ fun K hK=> ?_ | (refine BV EH mxd (by kernel_rfl) ?_;simp[EH,qX,Bq,qL,hy,yV,yB,q1,q2,q3];try simp (disch:=omega) only[Al]) | refine Aq ?_ | (refine Bi ?_ ?_ ?_;(· (simp[qX,Bq,qL,hy,yV,yB,q1,q2,q3];done));(try (rotate_left;(· (intro hc;(try simp[qX,Bq,qL,hy,yV,yB,q1,q2,q3]at hc);done))))) | (refine AN ?_;simp[results123,qX,Bq,qL,hy,yV,yB,q1,q2,q3]) | ((first | refine AB ?_ | refine AA ?_);simp[qX,Bq,qL,hy,yV,yB,q1,q2,q3]) | (intro hc;(try simp[qX,Bq,qL,hy,yV,yB,q1,q2,q3]at hc);(try (exfalso;omega))) | (refine⟨?_,?_⟩; · omega) | omega | apply_assumption -exfalso -symm | (exfalso;omega)))
   refine Aj.mk ⟨(k+1,v+c),show k+1<=l.length/\EN (l.drop (k+1)) (v+c)=some r/\v+c<=1+(k+1)*1572864/\A<=k+1 from ⟨by omega,hw,by omega,by omega⟩⟩ (Sub.lit (by simp)) (by simp;omega)
   skip
 ·have qZ:i=ks.length:=by omega
  subst qZ;exact Av Ab Ab (AD (@aW0.{0}))
end Go.Proofs.Wy
end
