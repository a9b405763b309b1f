/- Parts of a proof, laid together: WB13, BN1, WRn, RY1, RX2, RX3. -/
import Derived.Test.YtiojapdolljocaaGreatqBo15
import Derived.Test.YtiojapdolljocaaGreatqBo17
import Derived.Test.YtiojapdolljocaaGreatqBo18
import Derived.Test.YtiojapdolljocaaGreatqBo19
import Derived.Test.YtiojapdolljocaaGreatqBo23
set_option linter.unusedSimpArgs false
set_option maxHeartbeats 8000000
set_option linter.unusedVariables false
set_option linter.unusedSectionVars false
section
namespace Go.Proofs.Wy
open Go Go.Dm Tryz
variable [DMode]
attribute [local irreducible] DW Bm Bq
set_option maxRecDepth 100000
def ER (l:List Int):List DVal:=l.map fun n=> .int .i64 n
theorem sD (l:List Int) (j:Nat) (n:Int):(ER l).set j (.int .i64 n)=ER (l.set j n):=by simp[ER,eJ0]
theorem sE (l:List Int) (n:Int):ER l++[.int .i64 n]=ER (l++[n]):=by simp[ER]
@[simp] theorem Ft_ (l:List Int):AH (ER l)=0:=by
 unfold ER
 induction l with
 | nil=>rfl
 | cons a l ih=>simp[AH,mx,ih]
structure Cnt (K:List ByteArray) (V:List Int) (es:List ByteArray):Prop where
 len:K.length=V.length
 mem:∀s,s∈K↔s∈es
 val:∀v∈V,1<=v/\v<=es.length
theorem pA (l:List ByteArray) (s:ByteArray):Dx l++[.str s]=Dx (l++[s]):=by simp[Dx]
theorem Cnt.step {K:List ByteArray} {V:List Int} {es:List ByteArray} (h:Cnt K V es) (s:ByteArray) :
  (∃j d,AU (Dx K) (.str s)=some j/\(ER V)[j]? =some (.int .i64 d)/\1<=d/\d<=es.length/\Cnt K (V.set j (d+1)) (es++[s])) \/
  (AU (Dx K) (.str s)=none/\Cnt (K++[s]) (V++[1]) (es++[s])):=by
 by_cases hs:s∈K
 ·obtain⟨j,h1,h2⟩:=PA hs;have h3:j<V.length:=by rw[<-h.len];exact h2
  have hv:=h.val V[j] (bT0 h3);refine .inl ⟨j,V[j],h1,by simp[ER,h3],hv.1,hv.2,by simp[h.len],fun x=> ?_,fun v kT=> ?_⟩
  ·rw[h.mem x,aI0]
   constructor
   ·exact .inl
   ·rintro (hx | hx)
    ·exact hx
    ·simp only[aE0]at hx;subst hx;exact(h.mem x).1 hs
  ·rcases eL0 kT with h4 | rfl
   ·have:=h.val v h4;simp;omega
   ·simp;omega
 ·refine .inr ⟨HG hs,by simp[h.len],fun x=>by simp[h.mem x],fun v hv=> ?_⟩
  rcases aI0.1 hv with h4 | h4
  ·have:=h.val v h4;simp;omega
  ·simp only[aE0]at h4;subst h4;simp;omega
theorem Zd {l:List ByteArray} {s:ByteArray}:decide (0<=HA l s)=decide (s∈l):=by
 refine decide_eq_decide.2 ?_;unfold HA
 by_cases h:s∈l
 ·rw[if_pos (cL0.2 ⟨s,h,by simp⟩)];simp only[h,iff_true];omega
 ·rw[if_neg (fun hh=>h (by obtain⟨x,hx,hs⟩:=cL0.1 hh;simp at hs;subst hs;exact hx))];simp[h]
theorem MM (l:List ByteArray) (s:ByteArray):Ae prog 98 [Bu l,.str s] (.bool (decide (s∈l))):=by
 rw[<-Zd];exact MN l s
theorem Qr (l:List ByteArray) (s:ByteArray):Bh prog (.func 98) [.osl 0 0,.str s] [⟨0,0,.row 9 1 16 (l.map AE)⟩] (.bool (decide (s∈l))) [⟨0,0,.row 9 1 16 (l.map AE)⟩] :=
 QT rfl (MM l s)
def UJ : Ann:=⟨[15],[⟨4,[5],[],[]⟩]⟩
theorem Lx (g:List Rul):Ae prog 50 [AB g] (Bu (Av g)):=by
 refine Ac [3] UJ func50 call50 ntmps50 mxd (Ar @UJ.eq_1 results50) rfl (fun qJ B qX qQ=> ?_);have hs:g.length*40<=150000000000000:=by have:=qJ.1;simp only[EX,aO0]at this;exact this.1
 clear qJ;simp only[Ak]
 (refine AX Ab Ab Ab ?_;intros;refine Am ?_)
 refine Ci 3 3 9 1 16 (by simp[qX,results50,UJ]) (fun n=> ?_);refine Al (X:={i:Nat//i<=g.length}) (fun i=>⟨[(0,AB g),(3,.osl 3 1),(6,AB g),(7,.int .i64 g.length),(8,.int .i64 i.1)],[⟨3,1,.row 9 1 16 ((Av (g.take i.1)).map AE)⟩]⟩) (fun i=>g.length-i.1) ⟨0,by omega⟩ (Sub.lit (by simp[Av])) ?_;rintro⟨i,hi⟩;simp only
 by_cases qV:i<g.length
 ·obtain⟨r,hr,wJ,gY⟩:=Ax qV;have wD:=Nn hr;have hl:=HK (g.take i);rw[bD0]at hl;obtain⟨T,hT⟩:∃T,T=Av (g.take i):=⟨_,rfl⟩;rw[<-hT]at wD hl |-;have e1:=Qr T r.h;have z1:(T.length+1)*16<=150000000000000:=by omega
  have z2:T.length+1<=9223372036854775807:=by omega
  unfold Ha at wD
  by_cases hm:r.h∈T
  ·rw[if_pos hm]at wD;rw[decide_eq_true hm]at e1
   (refine AX Ab (AJ (Ji [(3,0)] [] e1)) (Ik @BB.eq_1 qV hr wJ) ?_;intros;refine Am ?_)
   refine An.mk ⟨i+1,by omega⟩ (Sub.lit (by simp[wD])) (by simp;omega)
   skip
  ·rw[if_neg hm]at wD;rw[decide_eq_false hm]at e1
   (refine AX Ab (AJ (Ji [(3,0)] [] e1)) (MY @BB.eq_1 qV hr wJ z1 z2) ?_;intros;refine Am ?_)
   refine An.mk ⟨i+1,by omega⟩ (Sub.lit (by simp[wD,AE])) (by simp;omega)
   skip
 ·have qZ:i=g.length:=by omega
  subst qZ;rw[bC0];exact Aw Ab Ab Ab
abbrev dCM (m:CM):DObj:= .map (Dx m.K) (ER m.V)
def Ym : Ann:=⟨[],[⟨4,[7],[],[]⟩,⟨7,[9],[],[]⟩]⟩
theorem JW (g:List Rul) (k:Int):Bh prog (.func 101) [AB g,.int .i64 k] [] (.omp 0 1) [⟨0,1,dCM (NS (AK k g))⟩]:=by
 refine BI [] [(10,0,1)] Ym func101 call101 ntmps101 mxd (Ar @Ym.eq_1 results101) rfl (fun qJ B qX qQ=> ?_);have fG:=II qJ.1
 have dR:∀r∈g,r.b.length<9223372036854775807:=fun r hr=>by
  have h1:=qJ.1;obtain⟨i,hi,rfl⟩:=bW0 hr;have h2:oM (g.map BB):=by simp only[EX]at h1;exact h1.2.2
  have h3:=YG h2 (aD0 hi);simp only[BB,JP]at h3;exact Oq h3.2.1
 clear qJ;simp only[Ak,List.nil_append]
 (refine AX Ab Ab Ab ?_;intros;refine Am ?_)
 refine Al (X:={i:Nat//i<=g.length}) (fun i=>⟨[(0,AB g),(1,.int .i64 k),(5,.omp 10 1),(11,AB g),(12,.int .i64 g.length),(13,.int .i64 i.1)],[⟨10,1,dCM (NS (AK k (g.take i.1)))⟩]⟩) (fun i=>g.length-i.1) ⟨0,by omega⟩ (Sub.lit (by simp[AK,NS,Dx,ER])) ?_;rintro⟨i,hi⟩;simp only
 by_cases qV:i<g.length
 ·obtain⟨r,hr,wJ,gY⟩:=Ax qV;have wD:=Nh (k:=k) hr;have dL:=dR r gY;obtain⟨N,hN⟩:∃N,N=AK k (g.take i):=⟨_,rfl⟩;rw[<-hN]at wD |-
  (refine AX Ab Ab (Ik @BB.eq_1 qV hr wJ) ?_;intros;refine Am ?_)
  refine Al (X:={j:Nat//j<=r.b.length}) (fun j=>⟨[(0,AB g),(1,.int .i64 k),(5,.omp 10 1),(11,AB g),(12,.int .i64 g.length),(13,.int .i64 i),(18,Bl r.b),(19,.int .i64 r.b.length),(20,.int .i64 j.1)],[⟨10,1,dCM (NS (N++Cg k (r.b.take j.1)))⟩]⟩) (fun j=>r.b.length-j.1) ⟨0,by omega⟩ (Sub.lit (by simp[Cg])) ?_;rintro⟨j,hj⟩;simp only
  by_cases qP:j<r.b.length
  ·obtain⟨x,hx,qA,vN⟩:=Ax qP;have htj:=Ng (k:=k) hx;obtain⟨E,hE⟩:∃E,E=N++Cg k (r.b.take j):=⟨_,rfl⟩;have dI:N++Cg k (r.b.take (j+1))=E++(if x.k=k then [x.s]else []):=by rw[htj,hE,aT0]
   rw[<-hE]
   by_cases hk:x.k=k
   ·rw[if_pos hk]at dI;have qK:=tE E x.s;have qW:=ZP E;obtain⟨⟨Ks,V⟩,hm⟩:∃m,m=NS E:=⟨_,rfl⟩;rw[<-hm]at qK qW |-;have zV:=eZ Ks;unfold QC at qK;simp only at qK
    by_cases hs:x.s∈Ks
    ·rw[if_pos hs]at qK;have l1:=PC hs;have l3:Lu Ks x.s<V.length:=by have:=Kw hs;have:=qW.len;simp only at this;omega
     have v1:(ER V)[Lu Ks x.s]? =some (.int .i64 (V.getD (Lu Ks x.s) 0)):=by simp[ER,l3]
     obtain⟨q,hq⟩:∃q,q=IntKind.i64.wrap (V.getD (Lu Ks x.s) 0+1):=⟨_,rfl⟩;have jC:IntKind.i64.wrap (V.getD (Lu Ks x.s) 0+1)=q:=hq.symm;rw[jC]at qK;obtain⟨c,wI⟩:∃c,c=V.getD (Lu Ks x.s) 0:=⟨_,rfl⟩;rw[<-wI]at v1 jC;have st1:=sD V (Lu Ks x.s) q;obtain⟨ix,hix⟩:∃ix,ix=Lu Ks x.s:=⟨_,rfl⟩;rw[<-hix]at l1 v1 st1 qK
     (refine AX Ab Ab (UK @BM.eq_1 qP hx qA hk zV l1 v1 jC st1) ?_;intros;refine Am ?_)
     refine An.mk ⟨j+1,by omega⟩ (Sub.lit (by simp only[dI,qK];simp)) (by simp;omega)
     skip
    ·rw[if_neg hs]at qK;have l1:=HG hs;have st1:=sE V 1;have sk1:=pA Ks x.s
     (refine AX Ab Ab (YF @BM.eq_1 qP hx qA hk zV l1 st1 sk1) ?_;intros;refine Am ?_)
     refine An.mk ⟨j+1,by omega⟩ (Sub.lit (by simp only[dI,qK];simp)) (by simp;omega)
     skip
   ·have vM:(x.k==k)=false:=by simpa using hk
    rw[if_neg hk,bX0]at dI
    (refine AX Ab Ab (MY @BM.eq_1 qP hx qA hk vM) ?_;intros;refine Am ?_)
    refine An.mk ⟨j+1,by omega⟩ (Sub.lit (by simp only[dI];simp)) (by simp;omega)
    skip
  ·have qZ:j=r.b.length:=by omega
   subst qZ;rw[bC0]
   (refine AX Ab Ab Ab ?_;intros;refine Am ?_)
   refine An.mk ⟨i+1,by omega⟩ (Sub.lit (by simp only[wD];simp)) (by simp;omega)
   skip
 ·have qZ:i=g.length:=by omega
  subst qZ;rw[bC0];exact Aw Ab Ab Ab
def iJ (m:CM) (s:ByteArray):CM:=if s∈m.K then ⟨m.K.eraseIdx (Lu m.K s),m.V.eraseIdx (Lu m.K s)⟩else m
structure DelOk (m0 m:CM) (hs:List ByteArray):Prop where
 len:m.K.length=m.V.length
 mem:∀s,s∈m.K↔s∈m0.K/\¬s∈hs
 nd:m.K.Nodup
theorem sS {l:List ByteArray} (hn:l.Nodup) {s x:ByteArray} (hs:s∈l):x∈l.eraseIdx (Lu l s)↔x∈l/\x≠s:=by
 have hi:=Kw hs
 have hv:l[Lu l s]=s:=by
  have:=List.findIdx_getElem (xs:=l) (p:=fun x=>s==x) (w:=hi);simp at this;exact this.symm
 rw[List.mem_eraseIdx_iff_getElem]
 constructor
 ·rintro⟨i,fN,qE,rfl⟩;refine⟨bT0 fN,fun e=>qE ?_⟩;exact(List.getElem_inj hn).1 (e.trans hv.symm)
 ·rintro⟨hx,qE⟩;obtain⟨i,fN,rfl⟩:=bW0 hx;refine⟨i,fN,fun e=>qE ?_,rfl⟩;subst e;exact hv
theorem DelOk.step {m0 m:CM} {hs:List ByteArray} (h:DelOk m0 m hs) (s:ByteArray):DelOk m0 (iJ m s) (hs++[s]):=by
 unfold iJ
 split
 ·rename_i hm;refine⟨?_,fun x=> ?_,h.nd.sublist (List.eraseIdx_sublist _ _)⟩
  ·have:=Kw hm;rw[List.length_eraseIdx_of_lt this,List.length_eraseIdx_of_lt (by have:=h.len;omega),h.len]
  ·simp only;rw[sS h.nd hm,h.mem x,aI0,aE0]
   constructor
   ·rintro⟨⟨a,b⟩,c⟩;exact⟨a,fun hh=>by rcases hh with hh | hh;exact b hh;exact c hh⟩
   ·rintro⟨a,b⟩;exact⟨⟨a,fun hh=>b (.inl hh)⟩,fun hh=>b (.inr hh)⟩
 ·rename_i hm;refine⟨h.len,fun x=> ?_,h.nd⟩;rw[h.mem x,aI0,aE0]
  constructor
  ·rintro⟨a,b⟩;exact⟨a,fun hh=>by rcases hh with hh | hh;exact b hh;subst hh;exact hm ((h.mem x).2 ⟨a,b⟩)⟩
  ·rintro⟨a,b⟩;exact⟨a,fun hh=>b (.inl hh)⟩
theorem Wu (V:List Int) (j:Nat):(ER V).eraseIdx j=ER (V.eraseIdx j):=by unfold ER;rw[GW]
theorem Vi (V:List ByteArray) (j:Nat):(Dx V).eraseIdx j=Dx (V.eraseIdx j):=by unfold Dx;rw[GW]
def Yl : Ann:=⟨[7],[⟨4,[5],[],[]⟩]⟩
theorem HW (g:List Rul) (hn:(AK 2 g).length<=9223372036854775807):Ae prog 145 [AB g] (.int .i64 (CF g).length):=by
 refine Ac [] Yl func145 call145 ntmps145 mxd (Ar @Yl.eq_1 results145) rfl (fun qJ B qX qQ=> ?_);have fG:=II qJ.1;clear qJ;simp only[Ak];have e1:=JW g 2;have qW:=ZP (AK 2 g);obtain⟨m0,fU⟩:∃m,m=NS (AK 2 g):=⟨_,rfl⟩;rw[<-fU]at e1 qW
 (refine AX Ab (AJ (Ji [] [(7,0)] e1)) Ab ?_;intros;refine Am ?_)
 refine Al (X:={x:Nat×CM//x.1<=g.length/\DelOk m0 x.2 ((g.take x.1).map (·.h))}) (fun x=>⟨[(0,AB g),(3,.omp 7 1),(8,AB g),(9,.int .i64 g.length),(10,.int .i64 x.1.1)],[⟨7,1,dCM x.1.2⟩]⟩) (fun x=>g.length-x.1.1) ⟨(0,m0),by simp,by simpa using qW.len,by simp,qW.nd⟩ (Sub.lit (by simp)) ?_;rintro⟨⟨i,m⟩,hi,hD⟩;simp only at hi hD |-
 by_cases qV:i<g.length
 ·obtain⟨r,hr,wJ,gY⟩:=Ax qV
  have mR:DelOk m0 (iJ m r.h) ((g.take (i+1)).map (·.h)):=by
   have:=hD.step r.h;rw[bP0,hr,bF0];exact this
  obtain⟨Ks,V⟩:=m;have zV:=eZ Ks;unfold iJ at mR;simp only at mR
  by_cases hs:r.h∈Ks
  ·rw[if_pos hs]at mR;have l1:=PC hs;have s1:=Vi Ks (Lu Ks r.h);have s2:=Wu V (Lu Ks r.h)
   (refine AX Ab Ab (UK @BB.eq_1 qV hr wJ zV l1 @Ql.eq_1 @Qk.eq_1 s1 s2) ?_;intros;refine Am ?_)
   refine An.mk ⟨(i+1,_),show i+1<=g.length/\_ from ⟨by omega,mR⟩⟩ (Sub.lit (by simp)) (by simp;omega)
   skip
  ·rw[if_neg hs]at mR;have l1:=HG hs
   (refine AX Ab Ab (Mi @BB.eq_1 qV hr wJ zV l1 @Ql.eq_1 @Qk.eq_1) ?_;intros;refine Am ?_)
   refine An.mk ⟨(i+1,_),show i+1<=g.length/\_ from ⟨by omega,mR⟩⟩ (Sub.lit (by simp)) (by simp;omega)
   skip
 ·have qZ:i=g.length:=by omega
  subst qZ;rw[bC0]at hD
  have vT:m.K.length=(CF g).length:=An_ hD.nd fun s=>by
   rw[hD.mem s,qW.mem s,KA];simp
  have hsl:=oZ m.K;rw[vT]at hsl;have yL:(CF g).length<=9223372036854775807:=Nat.le_trans (Nat.le_trans (cI0 _ _) (GH _)) hn;obtain⟨Ks,V⟩:=m;exact Aw Ab Ab (Ar hsl yL)
def Xo : Ann:=⟨[],[]⟩
theorem Gt (k c:Int) (hk:k=2/\c=85\/k=3/\c=76) (s:ByteArray):Ae prog 116 [.str s,.int .u8 c] (.bool (Dd k s)):=by
 refine Ac [] Xo func116 call116 ntmps116 mxd (Ar @Xo.eq_1 results116) rfl (fun qJ B qX qQ=> ?_);have qF:s.size<=9223372036854775807:=by have:=qJ.1;simp only[EX,maxLen]at this;omega
 clear qJ;simp only[Ak];obtain⟨R,hR⟩:∃R,R=Dd k s:=⟨_,rfl⟩;rw[<-hR];unfold Dd at hR
 by_cases h1:1<=s.size
 ·by_cases h2:s.size<=16
  ·have g1:¬(s.size:Int)<1:=by omega
   have g2:¬(16:Int)<s.size:=by omega
   have g0:0<s.size:=by omega
   obtain⟨b0,qC,jD,_⟩:=Ax (show 0<s.data.toList.length by rw[CD];omega)
   (refine AX Ab Ab (Mj g0 g1 g2 h1 h2) ?_;intros;refine Am ?_)
   refine Al (X:={k:Nat//k<=s.size/\Ar_ s=((s.data.toList.drop k).all fun b=>Wj (b.toNat:Int))}) (fun k=>⟨[(0,.str s),(1,.int .u8 c),(5,.int .i64 k.1)],[]⟩) (fun k=>s.size-k.1) ⟨0,by simp[Ar_]⟩ (Sub.lit (by simp)) ?_;rintro⟨j,hj,hl⟩
   by_cases qV:j<s.size
   ·obtain⟨b,hb,qG,_⟩:=Ax (show j<s.data.toList.length by rw[CD];exact qV);rw[aW0 (by rw[CD];exact qV),qG,dA0]at hl;have e1:=Rs (b.toNat:Int);cases hL:Wj (b.toNat:Int)
    ·rw[hL]at e1 hl;have vJ:R=false:=by rw[hR];unfold BK;rw[hl];simp
     subst vJ;exact Aw (AJ e1) Ab (GE qV hb qG)
    ·rw[hL]at e1 hl;simp only[dO0]at hl
     (refine AX (AJ e1) Ab (GE qV hb qG) ?_;intros;refine Am ?_)
     refine An.mk ⟨j+1,by omega,hl⟩ (Sub.lit (by simp)) (by simp;omega)
     skip
   ·have qZ:j=s.size:=by omega
    subst qZ;rw[<-CD,cN0]at hl;have hN:BK s=true:=by unfold BK;rw[hl];simp[h1,h2]
    rw[hN]at hR;simp only[Wx qC,dO0]at hR;have e1:=Iv (b0.toNat:Int);have e2:=Iz (b0.toNat:Int)
    rcases hk with ⟨rfl,rfl⟩ | ⟨rfl,rfl⟩
    ·simp only[if_true]at hR;rw[<-hR]at e1;cases R
     ·exact Aw (Ar e1 e2) Ab (GE g0 qC jD)
     ·exact Aw (Ar e1 e2) Ab (GE g0 qC jD)
    ·simp only[show ¬(3:Int)=2 by omega,if_false]at hR;rw[<-hR]at e2;cases R
     ·exact Aw (Ar e1 e2) Ab (GE g0 qC jD)
     ·exact Aw (Ar e1 e2) Ab (GE g0 qC jD)
  ·have g1:¬(s.size:Int)<1:=by omega
   have g2:(16:Int)<s.size:=by omega
   have vJ:R=false:=by rw[hR];unfold BK;simp[h2]
   subst vJ;exact Aw Ab Ab (Ik g1 g2 h1 h2)
 ·have g1:(s.size:Int)<1:=by omega
  have vJ:R=false:=by rw[hR];unfold BK;simp[h1]
  subst vJ;exact Aw Ab Ab (Ar g1 h1)
def XK : Ann:=⟨[],[]⟩
theorem rN (x:Nd):Ae prog 212 [.agg (BM x)] (.bool (DA x)):=by
 refine Ac [] XK func212 call212 ntmps212 mxd (Ar @XK.eq_1 results212) rfl (fun qJ B qX qQ=> ?_);simp only[Ak];have e1:=Gt 2 85 (.inl ⟨rfl,rfl⟩) x.s;have e2:=Gt 3 76 (.inr ⟨rfl,rfl⟩) x.s;rw[show Dd 2 x.s=(BK x.s&&HZ Yx x.s) from rfl]at e1;rw[show Dd 3 x.s=(BK x.s&&HZ Yz x.s) from rfl]at e2;unfold DA YD
 by_cases k1:x.k=1
 ·exact Aw Ab Ab (GE @BM.eq_1 @AO k1)
 by_cases k2:x.k=2
 ·obtain⟨b,hb⟩:∃b,b=(BK x.s&&HZ Yx x.s):=⟨_,rfl⟩;rw[<-hb]at e1 |-;clear hb;cases b<;>exact Aw (AJ e1) Ab (Ik @BM.eq_1 @AO k1 k2)
 by_cases k3:x.k=3
 ·obtain⟨b,hb⟩:∃b,b=(BK x.s&&HZ Yz x.s):=⟨_,rfl⟩;rw[<-hb]at e2 |-;clear hb;cases b<;>exact Aw (AJ e2) Ab (Mj @BM.eq_1 @AO k1 k2 k3)
 by_cases k4:x.k=4
 ·exact Aw Ab Ab (MY @BM.eq_1 @AO k1 k2 k3 k4)
 by_cases k5:x.k=5
 ·exact Aw Ab Ab (NA @BM.eq_1 @AO k1 k2 k3 k4 k5)
 by_cases k6:x.k=6
 ·exact Aw Ab Ab (Mi @BM.eq_1 @AO k1 k2 k3 k4 k5 k6)
 by_cases k7:x.k=7
 ·exact Aw Ab Ab (YF @BM.eq_1 @AO k1 k2 k3 k4 k5 k6 k7)
 by_cases k8:x.k=8
 ·exact Aw Ab Ab (UK @BM.eq_1 @AO k1 k2 k3 k4 k5 k6 k7 k8)
 exact Aw Ab Ab (UK @BM.eq_1 @AO k1 k2 k3 k4 k5 k6 k7 k8)
def ZI (l:List Nd) (p:Nat):Int:=match Eo (l.drop p) 1 with
 | some r=>(l.length:Int)-r.length
 | none=> -1
def XL : Ann:=⟨[],[]⟩
theorem Nt (l:List Nd) (p:Nat) (hs:l.length<=1572864) (hp:p<=l.length):Ae prog 185 [Bl l,.int .i64 p] (.int .i64 (ZI l p)):=by
 refine Ac [] XL func185 call185 ntmps185 mxd (Ar @XL.eq_1 results185) rfl (fun qJ B qX qQ=> ?_);clear qJ;simp only[Ak];obtain⟨R,hR⟩:∃R,R=ZI l p:=⟨_,rfl⟩;rw[<-hR];unfold ZI at hR;obtain⟨E,hE⟩:∃E,E=Eo (l.drop p) 1:=⟨_,rfl⟩;rw[<-hE]at hR
 (refine AX Ab Ab Ab ?_;intros;refine Am ?_)
 refine Al (X:={q:Nat×Nat//q.1<=l.length/\Eo (l.drop q.1) q.2=E/\q.2<=1+q.1*1572864}) (fun q=>⟨[(0,Bl l),(1,.int .i64 q.1.1),(5,.int .i64 q.1.2)],[]⟩) (fun q=>l.length+1-q.1.1) ⟨(p,1),hp,hE.symm,by simp only;omega⟩ (Sub.lit (by simp)) ?_;clear hE;rintro⟨⟨k,w⟩,hk,hw,dR⟩;simp only at hk hw dR |-
 cases w with
 | zero =>
  rw[Ch]at hw;rw[<-hw]at hR;simp only[cB0]at hR;have hRk:R=k:=by omega
  subst hRk;exact Aw Ab Ab Ab
 | succ v =>
  have hv:(0:Int)<(v:Int)+1:=by omega
  by_cases qV:k<l.length
  ·obtain⟨x,hx,qA,_⟩:=Ax qV;rw[aW0 qV,qA]at hw;have e1:=rN x;simp only[BM]at e1;have gG:¬l.length<=k:=by omega
   cases hm:DA x
   ·rw[hm]at e1;rw[Ds,hm]at hw;simp only[bH0,if_false]at hw;rw[<-hw]at hR;simp only at hR;subst hR;exact Aw (AJ e1) Ab (MY @BM.eq_1 qV gG hx qA hv)
   ·rw[hm]at e1;have zU:=GV hm;obtain⟨c,yQ⟩:∃c:Nat,x.n=(c:Int):=⟨x.n.toNat,by omega⟩;rw[yQ]at e1;rw[Ds,if_pos hm,yQ,dD0]at hw
    by_cases jE:l.length<c
    ·have yW:(l.length:Int)<(c:Int):=by omega
     rw[Qh _ _ (by rw[cB0];omega)]at hw;rw[<-hw]at hR;simp only at hR;subst hR;exact Aw (AJ e1) Ab (YF @BM.eq_1 qV gG hx qA hv yQ jE yW)
    ·have yW:¬(l.length:Int)<(c:Int):=by omega
     have q1:IntKind.i64.wrap ((v:Int))=(v:Int):=wq;have q2:IntKind.i64.wrap ((v:Int)+(c:Int))=(v:Int)+(c:Int):=wq
     (refine AX (AJ e1) Ab (Yn @BM.eq_1 qV gG hx qA hv yQ jE yW q1 q2) ?_;intros;refine Am ?_)
     refine An.mk ⟨(k+1,v+c),show k+1<=l.length/\Eo (l.drop (k+1)) (v+c)=E/\v+c<=1+(k+1)*1572864 from ⟨by omega,hw,by omega⟩⟩ (Sub.lit (by simp)) (by simp;omega)
     skip
  ·have gG:l.length<=k:=by omega
   rw[cU0 gG,Hg]at hw;rw[<-hw]at hR;simp only at hR;subst hR;exact Aw Ab Ab (Ar hv gG)
def XM : Ann:=⟨[],[]⟩
theorem Ed (l:List Nd) (hs:l.length<=1572864):Ae prog 117 [Bl l] (.bool (CT l)):=by
 refine Ac [] XM func117 call117 ntmps117 mxd (Ar @XM.eq_1 results117) rfl (fun qJ B qX qQ=> ?_);clear qJ;simp only[Ak];have e1:=Nt l 0 hs (by omega);unfold ZI at e1;unfold CT;rw[List.drop_zero]at e1
 by_cases h0:0<l.length
 ·cases hE:Eo l 1 with
  | none =>
   rw[hE]at e1;have qE:((-1:Int)==(l.length:Int))=false:=by simp
   exact Aw (AJ e1) Ab (Ar h0 qE)
  | some r =>
   rw[hE]at e1
   cases r with
   | nil =>
    simp only[List.length_nil,Int.natCast_zero,Int.sub_zero]at e1;exact Aw (AJ e1) Ab (AJ h0)
   | cons y r =>
    have qE:(((l.length:Int)-((y::r).length:Int))==(l.length:Int))=false:=by simp;omega
    obtain⟨e,he⟩:∃e:Int,e=(l.length:Int)-((y::r).length:Int):=⟨_,rfl⟩;rw[<-he]at qE;have e3:Ae prog 185 [Bl l,.int .i64 0] (.int .i64 e):=by rw[he];exact e1
    exact Aw (AJ e3) Ab (Ar h0 qE)
 ·have hl:l=[]:=bK0 (by omega);subst hl;rw[Hg];exact Aw Ab Ab Ab
def FV : Ann:=⟨[],[⟨5,[6],[],[]⟩]⟩
theorem IR (t:RT) (ht:EZ t=true) (hs:(flat t).length<=1572864):Ae prog 157 [Bl (flat t)] (.int .i64 (Ih t)):=by
 refine Ac [] FV func157 call157 ntmps157 mxd (Ar @FV.eq_1 results157) rfl (fun qJ B qX qQ=> ?_);clear qJ;simp only[Ak];have hR:=IP ht;have gN:=eI ht;have cO:∀x∈flat t,x.n<=1572864:=fun x hx=>by have:=PJ t ht x hx;omega
 obtain⟨l,hl⟩:∃l,l=flat t:=⟨_,rfl⟩;rw[<-hl]at hR gN cO hs |-;clear hl;obtain⟨R,hRR⟩:∃R,R=Ih t:=⟨_,rfl⟩;rw[<-hRR]at hR |-;clear hRR ht
 (refine AX Ab Ab Ab ?_;intros;refine Am ?_)
 refine Ci 4 50 3 1 8 (by simp[qX,results157,FV]) (fun n=> ?_);refine Al (X:={p:Nat×List Nat×Nat//p.1<=l.length/\(l.drop p.1).foldl Gj (p.2.1,p.2.2)=([],R)/\p.2.1.length<=p.1/\p.2.2<=p.1/\FX p.2.1}) (fun p=>⟨[(3,.int .i64 p.1.2.2),(4,.osl 50 1),(7,Bl l),(8,.int .i64 l.length),(9,.int .i64 p.1.1)],[⟨50,1,.row 3 1 8 (HM p.1.2.1)⟩]⟩) (fun p=>l.length-p.1.1) ⟨(0,[],0),by simp[hR,FX]⟩ (Sub.lit (by simp[CP])) ?_
 rintro⟨⟨k,s,m⟩,hk,hw,hsl,hmb,zG⟩;simp only at hk hw hsl hmb zG |-;clear hR
 by_cases qV:k<l.length
 ·obtain⟨x,hx,qA,vN⟩:=Ax qV;rw[aW0 qV,qA,cQ0]at hw;have zU:=GV (gN x vN);obtain⟨c,yQ⟩:∃c:Nat,x.n=(c:Int):=⟨x.n.toNat,by omega⟩;have kK:=sI (p:=(s,m)) x (by have:=cO x vN;omega) zG;have fD:=sJ (s,m) x;unfold Gj at hw kK fD;rw[yQ,dD0]at hw kK fD;simp only at hw kK fD;obtain⟨P,hP⟩:∃P,P=(if c=0 then fin s else c::s):=⟨_,rfl⟩;rw[<-hP]at hw kK fD;have vU:(if (m:Int)<(s.length:Int)+1 then (s.length:Int)+1 else (m:Int))=((max m (s.length+1):Nat):Int):=by split<;>omega
  obtain⟨m2,hm2⟩:∃m2,m2=max m (s.length+1):=⟨_,rfl⟩;rw[<-hm2]at hw vU;have hm2b:m2<=k+1:=by omega
  have z1:(s.length+1)*8<=150000000000000:=by omega
  have z2:s.length+1<=9223372036854775807:=by omega
  have q1:IntKind.i64.wrap ((s.length:Int)+1)=(s.length:Int)+1:=wq
  (refine AX Ab Ab (UK @BM.eq_1 qV hx qA yQ @Eg vU z1 z2 q1) ?_;intros;refine Am ?_)
  refine Al (X:={q:List Nat//xL q=P/\q.length<=k+1/\FX q.tail}) (fun q=>⟨[(3,.int .i64 m2),(4,.osl 50 1),(7,Bl l),(8,.int .i64 l.length),(9,.int .i64 k)],[⟨50,1,.row 3 1 8 (HM q.1)⟩]⟩) (fun q=>q.1.length) ⟨c::s,by rw[hP,pQ],by simp;omega,zG⟩ (Sub.lit (by simp[vU,Hi,Br])) ?_;rintro⟨q,fF,jC,bL⟩;simp only
  match q,fF,jC,bL with
  | [],fF,jC,bL =>
   have cP:P=[]:=by rw[<-fF];rfl
   (refine AX Ab Ab (AJ @CP) ?_;intros;refine Am ?_)
   refine An.mk ⟨(k+1,P,m2),show k+1<=l.length/\(l.drop (k+1)).foldl Gj (P,m2)=([],R)/\P.length<=k+1/\m2<=k+1/\FX P from ⟨by omega,hw,by omega,hm2b,kK⟩⟩ (Sub.lit (by simp[cP,CP])) (by simp;omega)
   skip
  | d::q,fF,jC,bL =>
   have hql:q.length<=k:=by simpa using jC
   have qU:(HM (d::q)).length=q.length+1:=by rw[Eg];rfl
   have wR:=WV d q;have wD:=sY d q;have q2:IntKind.i64.wrap ((q.length:Int))=(q.length:Int):=wq;obtain⟨D,hD⟩:∃D,D=HM (d::q):=⟨_,rfl⟩;rw[<-hD]at qU wR wD |-;have qT:q.length<D.length:=by omega
   have wL:D[q.length]'qT=[.int .i64 (d:Int)]:=(aG0.1 wR).2;have wE:(0:Int)<(q.length:Int)+1:=by omega
   cases d with
   | zero =>
    cases q with
    | nil =>
     have cP:P=[]:=by rw[<-fF];rfl
     have q0:IntKind.i64.wrap 0=0:=by decide
     simp only[List.length_nil,bN0]at qU wR wL wD qT
     (repeat (first | (refine Ta 4 ?_ (fun _=> ?_);(· (simp[qX,qU,wR,wL,qT,wE,wD,CP,q0];done));(try simp[qX,qU,wR,wL,qT,wE,wD,CP,q0])) | refine AI fun K hK=> ?_ | (refine BS FV mxd (by kernel_rfl) ?_;simp[FV,qX,qU,wR,wL,qT,wE,wD,CP,q0];try simp (disch:=omega) only[Ai]) | refine Ao ?_ | (refine Bg ?_ ?_ ?_;(· (simp[qX,qU,wR,wL,qT,wE,wD,CP,q0];done));(try (rotate_left;(· (intro hc;(try simp[qX,qU,wR,wL,qT,wE,wD,CP,q0]at hc);done))))) | (refine AL ?_;simp[results157,qX,qU,wR,wL,qT,wE,wD,CP,q0]) | ((first | refine Az ?_ | refine Ay ?_);simp[qX,qU,wR,wL,qT,wE,wD,CP,q0]) | (intro hc;(try simp[qX,qU,wR,wL,qT,wE,wD,CP,q0]at hc);(try (exfalso;omega))) | (refine⟨?_,?_⟩; · omega) | omega | apply_assumption -exfalso -symm | (exfalso;omega)))
     refine An.mk ⟨[],cP.symm,by simp,by simp[FX]⟩ (Sub.lit (by simp[CP])) (by simp)
     skip
    | cons e q =>
     obtain⟨bX,he9⟩:=bL e (by simp);have q5:IntKind.i64.wrap ((e-1:Nat):Int)=((e-1:Nat):Int):=wq;have cP:xL ((e-1)::q)=P:=by rw[pP bX,<-fF];rfl
     have hpq:FX q:=fun c hc=>bL c (by simp[hc])
     simp only[List.length_cons]at qU wR wL wD qT q2 wE hql;have wC:(HM (e::q)).length=q.length+1:=by rw[Eg];rfl
     have vR:=WV e q;have vW:=Bb_ e (e-1) q;obtain⟨E,hE⟩:∃E,E=HM (e::q):=⟨_,rfl⟩;rw[<-hE]at wC vR vW wD;have kW:q.length<E.length:=by omega
     have vF:E[q.length]'kW=[.int .i64 (e:Int)]:=(aG0.1 vR).2;have q3:IntKind.i64.wrap ((q.length:Int)+1)=(q.length:Int)+1:=wq;have q4:IntKind.i64.wrap ((q.length:Int))=(q.length:Int):=wq;have vA:(e:Int)-1=((e-1:Nat):Int):=by omega
     have bM:(0:Int)<(q.length:Int)+1:=by omega
     have mL:(0:Int)<(q.length:Int)+1+1:=by omega
     (repeat (first | (refine Ta 4 ?_ (fun _=> ?_);(· (simp[qX,qU,wR,wL,qT,wE,bM,mL,wD,q3,q4,wC,vR,vF,kW,vA,vW,q5];done));(try simp[qX,qU,wR,wL,qT,wE,bM,mL,wD,q3,q4,wC,vR,vF,kW,vA,vW,q5])) | refine AI fun K hK=> ?_ | (refine BS FV mxd (by kernel_rfl) ?_;simp[FV,qX,qU,wR,wL,qT,wE,bM,mL,wD,q3,q4,wC,vR,vF,kW,vA,vW,q5];try simp (disch:=omega) only[Ai]) | refine Ao ?_ | (refine Bg ?_ ?_ ?_;(· (simp[qX,qU,wR,wL,qT,wE,bM,mL,wD,q3,q4,wC,vR,vF,kW,vA,vW,q5];done));(try (rotate_left;(· (intro hc;(try simp[qX,qU,wR,wL,qT,wE,bM,mL,wD,q3,q4,wC,vR,vF,kW,vA,vW,q5]at hc);done))))) | (refine AL ?_;simp[results157,qX,qU,wR,wL,qT,wE,bM,mL,wD,q3,q4,wC,vR,vF,kW,vA,vW,q5]) | ((first | refine Az ?_ | refine Ay ?_);simp[qX,qU,wR,wL,qT,wE,bM,mL,wD,q3,q4,wC,vR,vF,kW,vA,vW,q5]) | (intro hc;(try simp[qX,qU,wR,wL,qT,wE,bM,mL,wD,q3,q4,wC,vR,vF,kW,vA,vW,q5]at hc);(try (exfalso;omega))) | (refine⟨?_,?_⟩; · omega) | omega | apply_assumption -exfalso -symm | (exfalso;omega)))
     refine An.mk ⟨(e-1)::q,cP,by simp;omega,hpq⟩ (Sub.lit (by simp)) (by simp)
     skip
   | succ d =>
    have cP:P=(d+1)::q:=by rw[<-fF];rfl
    have fS:¬(d:Int)+1=0:=by omega
    have hd0':(((d:Int)+1)==0)=false:=by simpa using fS
    (refine AX Ab Ab (Mi qU wR wL qT q2 wE fS hd0') ?_;intros;refine Am ?_)
    refine An.mk ⟨(k+1,P,m2),show k+1<=l.length/\(l.drop (k+1)).foldl Gj (P,m2)=([],R)/\P.length<=k+1/\m2<=k+1/\FX P from ⟨by omega,hw,by omega,hm2b,kK⟩⟩ (Sub.lit (by simp[cP,hD])) (by simp;omega)
    skip
 ·have qZ:k=l.length:=by omega
  subst qZ;rw[cN0]at hw;simp only[List.foldl_nil,_root_.Prod.mk.injEq]at hw;obtain⟨rfl,rfl⟩:=hw;exact Aw Ab Ab Ab
def dT (t:RT):List DVal:=[Bl (flat t)]
abbrev dTs (ts:List RT):DVal:= .sl 1 24 (ts.map dT)
@[simp] theorem Fk_ (t:RT):AH (dT t)=0:=by simp[dT,AH,mx]
@[simp] theorem Gj_ (l:List RT):Bo (l.map dT)=0:=Ie _ Fk_ l
theorem PX {ks:List RT} {i:Nat} {t:RT} (h:ks[i]? =some t):(Ah (ks.take (i+1))).length=(Ah (ks.take i)).length+(flat t).length:=by
 rw[bP0,h,EC,aB0];simp[Ah]
theorem IV (ks:List RT) (i:Nat):Ah ks=Ah (ks.take i)++Ah (ks.drop i):=by rw[<-EC,List.take_append_drop]
def Ek : Ann:=⟨[],[]⟩
theorem Wt (x:Nd) (ks:List RT) (ht:EZ (.mk x ks)=true) (hs:(flat (.mk x ks)).length<=1572864):Ae prog 123 [Bl (flat (.mk x ks))] (dTs ks):=by
 refine Ac [60] Ek func123 call123 ntmps123 mxd (Ar @Ek.eq_1 results123) rfl (fun qJ B qX qQ=> ?_);clear qJ;simp only[Ak];obtain⟨hm,hn,qW⟩:=Cx ht;have gN:=eI ht;have cO:=PJ _ ht;obtain⟨l,hl⟩:∃l,l=flat (.mk x ks):=⟨_,rfl⟩;have zH:l=x::Ah ks:=by rw[hl,AR]
 rw[<-hl]at gN cO hs |-;have h0:l[0]? =some x:=by rw[zH];rfl
 have qU:l.length=(Ah ks).length+1:=by rw[zH];simp
 have wX:0<l.length:=by omega
 have vD:l[0]'wX=x:=(aG0.1 h0).2;have zV:ks.length<=1572864:=by have:=EB ks;omega
 (refine AX Ab Ab (Mj @BM.eq_1 h0 vD wX hn) ?_;intros;refine Am ?_)
 refine Ci 3 60 63 1 24 (by simp[qX,results123,Ek]) (fun n=> ?_);refine Al (X:={i:Nat//i<=ks.length}) (fun i=>⟨[(0,Bl l),(3,.osl 60 1),(4,.int .i64 (1+(Ah (ks.take i.1)).length:Nat)),(10,.int .i64 ks.length),(11,.int .i64 i.1)],[⟨60,1,.row 63 1 24 ((ks.take i.1).map dT)⟩]⟩) (fun i=>ks.length-i.1) ⟨0,by omega⟩ (Sub.lit (by simp[Ah])) ?_;rintro⟨i,hi⟩;simp only
 by_cases qV:i<ks.length
 ·obtain⟨t,wD,nJ,_⟩:=Ax qV;have kK:=IV ks i;have hdr:=aW0 qV;rw[nJ]at hdr
  have jO:Fs (ks.drop i)=true:=by
   have:=Ol (ks.take i) (ks.drop i);rw[List.take_append_drop,qW]at this;simpa using (by simpa using this.symm:Fs (ks.take i)=true/\Fs (ks.drop i)=true).2
  rw[hdr]at jO;obtain⟨mA,hokr⟩:=Ck jO;obtain⟨A,hA⟩:∃A,A=1+(Ah (ks.take i)).length:=⟨_,rfl⟩;obtain⟨r,hr⟩:∃r,r=Ah (ks.drop (i+1)):=⟨_,rfl⟩
  have yO:l.drop A=flat t++r:=by
   rw[zH,hA,Nat.add_comm,dP0,kK,eC0 (Nat.le_refl _),cN0,List.nil_append,hdr,Aq,hr]
  have hend:Eo (l.drop A) 1=some r:=by rw[yO,Fv t r 0 mA,Ch]
  have hA2:A+(flat t).length+r.length=l.length:=by
   have:=congrArg List.length yO;rw[cB0,aB0]at this;have:=FO t;omega
  have hnext:=PX wD;rw[<-hA];clear kK hdr jO hokr
  (repeat (first | refine AI fun K hK=> ?_ | (refine BS Ek mxd (by kernel_rfl) ?_;simp[Ek,qX,qV];try simp (disch:=omega) only[Ai]) | refine Ao ?_ | (refine Bg ?_ ?_ ?_;(· (simp[qX,qV];done));(try (rotate_left;(· (intro hc;(try simp[qX,qV]at hc);done))))) | (refine AL ?_;simp[results123,qX,qV]) | ((first | refine Az ?_ | refine Ay ?_);simp[qX,qV]) | (intro hc;(try simp[qX,qV]at hc);(try (exfalso;omega))) | (refine⟨?_,?_⟩; · omega) | omega | apply_assumption -exfalso -symm | (exfalso;omega)))
  refine Al (X:={p:Nat×Nat//p.1<=l.length/\Eo (l.drop p.1) p.2=some r/\p.2<=1+p.1*1572864/\A<=p.1}) (fun p=>⟨[(0,Bl l),(3,.osl 60 1),(4,.int .i64 p.1.1),(5,.int .i64 A),(6,.int .i64 p.1.2),(10,.int .i64 ks.length),(11,.int .i64 i)],[⟨60,1,.row 63 1 24 ((ks.take i).map dT)⟩]⟩) (fun p=>l.length-p.1.1) ⟨(A,1),show A<=l.length/\Eo (l.drop A) 1=some r/\1<=1+A*1572864/\A<=A from ⟨by omega,hend,by omega,Nat.le_refl _⟩⟩ (Sub.lit (by simp)) ?_
  rintro⟨⟨k,w⟩,hk,hw,dR,hAk⟩;simp only at hk hw dR hAk |-
  cases w with
  | zero =>
   rw[Ch]at hw;simp only[aA0]at hw
   have wH:k=A+(flat t).length:=by
    have:=congrArg List.length hw;rw[cB0]at this;omega
   have z1:((ks.take i).length+1)*24<=150000000000000:=by rw[bD0];omega
   have z2:(ks.take i).length+1<=9223372036854775807:=by rw[bD0];omega
   have hpiece:(l.drop A).take (k-A)=flat t:=by rw[wH,Nat.add_sub_cancel_left,yO];simp
   have qZ:A<=l.length:=by omega
   (repeat (first | refine AI fun K hK=> ?_ | (refine BS Ek mxd (by kernel_rfl) ?_;simp[Ek,qX,qV,hk,hAk,qZ];try simp (disch:=omega) only[Ai]) | refine Ao ?_ | (refine Bg ?_ ?_ ?_;(· (simp[qX,qV,hk,hAk,qZ];done));(try (rotate_left;(· (intro hc;(try simp[qX,qV,hk,hAk,qZ]at hc);done))))) | (refine AL ?_;simp[results123,qX,qV,hk,hAk,qZ]) | ((first | refine Az ?_ | refine Ay ?_);simp[qX,qV,hk,hAk,qZ]) | (intro hc;(try simp[qX,qV,hk,hAk,qZ]at hc);(try (exfalso;omega))) | (refine⟨?_,?_⟩; · omega) | omega | apply_assumption -exfalso -symm | (exfalso;omega)))
   have hpD:List.take (k-A) (List.drop A (List.map BM l))=(flat t).map BM:=by rw[<-List.map_drop,<-List.map_take,hpiece]
   have htm:List.take (i+1) (List.map dT ks)=List.take i (List.map dT ks)++[dT t]:=by rw[bP0,bM0,wD];rfl
   have jP:(1:Int)+((Ah (List.take (i+1) ks)).length:Int)=(k:Int):=by omega
   refine An.mk ⟨i+1,by omega⟩ (Sub.lit (by simp[hpD,htm,jP,dT,Br])) (by simp;omega)
   skip
  | succ v =>
   have qP:k<l.length:=by
    rcases Nat.lt_or_ge k l.length with h | h
    ·exact h
    ·rw[cU0 h,Hg]at hw;simp at hw
   obtain⟨y,hy,zM,dK⟩:=Ax qP;rw[aW0 qP,zM,Ds,if_pos (gN y dK)]at hw;have zU:=GV (gN y dK);have hk9:=cO y dK;obtain⟨c,yQ⟩:∃c:Nat,y.n=(c:Int):=⟨y.n.toNat,by omega⟩;rw[yQ,dD0]at hw;have q1:IntKind.i64.wrap ((c:Int)-1)=(c:Int)-1:=wq;have q2:IntKind.i64.wrap ((v:Int)+1+((c:Int)-1))=(v:Int)+(c:Int):=by rw[wq];omega
   have q3:(0:Int)<(v:Int)+1:=by omega
   (repeat (first | refine AI fun K hK=> ?_ | (refine BS Ek mxd (by kernel_rfl) ?_;simp[Ek,qX,BM,qP,hy,zM,yQ,q1,q2,q3];try simp (disch:=omega) only[Ai]) | refine Ao ?_ | (refine Bg ?_ ?_ ?_;(· (simp[qX,BM,qP,hy,zM,yQ,q1,q2,q3];done));(try (rotate_left;(· (intro hc;(try simp[qX,BM,qP,hy,zM,yQ,q1,q2,q3]at hc);done))))) | (refine AL ?_;simp[results123,qX,BM,qP,hy,zM,yQ,q1,q2,q3]) | ((first | refine Az ?_ | refine Ay ?_);simp[qX,BM,qP,hy,zM,yQ,q1,q2,q3]) | (intro hc;(try simp[qX,BM,qP,hy,zM,yQ,q1,q2,q3]at hc);(try (exfalso;omega))) | (refine⟨?_,?_⟩; · omega) | omega | apply_assumption -exfalso -symm | (exfalso;omega)))
   refine An.mk ⟨(k+1,v+c),show k+1<=l.length/\Eo (l.drop (k+1)) (v+c)=some r/\v+c<=1+(k+1)*1572864/\A<=k+1 from ⟨by omega,hw,by omega,by omega⟩⟩ (Sub.lit (by simp)) (by simp;omega)
   skip
 ·have qZ:i=ks.length:=by omega
  subst qZ;exact Aw Ab Ab (AJ (@bC0.{0}))
end Go.Proofs.Wy
end
