/- Parts of a proof, laid together: EnBo, BN1, WRn, RY1, RX2, RX3, RX4, RY2, RY3, RY4, WE0, WR2, WR3, BN3, BN4, SY0, WB14. -/
import Derived.Test.YtchgnpnbcjflcaaGreatqDe4
import Derived.Test.YtchgnpnbcjflcaaGreatqDe5
import Derived.Test.YtchgnpnbcjflcaaGreatqDe6
set_option linter.unusedSimpArgs false
set_option maxHeartbeats 8000000
set_option linter.unusedVariables false
set_option linter.unusedSectionVars false
section
namespace Go.Dm
variable [DMode]
def Vy : DVal->Bool
 | .bool _=>true
 | .int _ _=>true
 | .str _=>true
 | .nilp=>true
 | .nilsl=>true
 | .any=>true
 | _=>false
theorem BE_ {d:DVal} (hd:Vy d=true) {cur cur':Fb} {M M':List Nat} {h h':Array Obj} {v:Value} (hr:rd cur M h d v):rd cur' M' h' d v:=by
 cases d<;>simp only[Vy,aU0]at hd<;>simp only[rd]at hr |- <;>exact hr
theorem Sd : ∀{ds:List DVal} (hd:ds.all Vy=true) {cur cur':Fb} {M M':List Nat} {h h':Array Obj} {vs:List Value} (_:AI cur M h ds vs),AI cur' M' h' ds vs
 | [],_,_,_,_,_,_,_,vs,hr=>by simpa only[AI]using hr
 | d::ds,hd,_,_,_,_,_,_,vs,hr=>by
  rw[dB0,aM0]at hd;simp only[AI]at hr |-;obtain⟨v,r,rfl,h1,h2⟩:=hr;exact⟨v,r,rfl,BE_ hd.1 h1,Sd hd.2 h2⟩
def Ze : DVal->Bool
 | .tup ds=>ds.all Vy
 | .agg ds=>ds.all Vy
 | d=>Vy d
theorem Hh_ {d:DVal} (hd:Ze d=true) {cur cur':Fb} {M M':List Nat} {h h':Array Obj} {v:Value} (hr:rd cur M h d v):rd cur' M' h' d v:=by
 cases d
 case tup ds =>
  simp only[Ze]at hd;simp only[rd]at hr |-;obtain⟨us,rfl,h1⟩:=hr;exact⟨us,rfl,Sd hd h1⟩
 case agg ds =>
  simp only[Ze]at hd;simp only[rd]at hr |-;obtain⟨us,rfl,h1⟩:=hr;exact⟨us,rfl,Sd hd h1⟩
 all_goals exact BE_ (by simpa only[Ze]using hd) hr
theorem Uw {P:Program} {f:FuncId} {k bs:Nat} {et:TypeId} {es:List (List DVal)} {rest:List DVal} {d:DVal} (hd:Ze d=true) (hp:Ad P f (.sl k bs es::rest) d) :
  AS P (.func f) (.osl 0 0::rest) [⟨0,0,.row et k bs es⟩] d [⟨0,0,.row et k bs es⟩]:=by
 obtain⟨zW,_,hc⟩:=hp;refine⟨by simp,zW,fun M w loc vs S hr=>⟨zW,?_⟩⟩;simp only[AI]at hr;obtain⟨v0,r0,vU,h0,hrest⟩:=hr;simp only[rd]at h0;have kO:=h0 (loc 0) rfl;have hk:=S.ok ⟨0,0,.row et k bs es⟩ (by simp);have hap:=S.ap
 have W:Weak (Ae [(⟨0,0,.row et k bs es⟩:Ent)] loc) (Ae [(⟨0,0,.row et k bs es⟩:Ent)] loc) (Ab [(⟨0,0,.row et k bs es⟩:Ent)] loc++M) M w.heap w.heap (max (Bx es) (AR rest)) :=
  ⟨fun _ _ _ _ h=>h,fun _ _ _ _ h=>h,fun b _ hb _ _ hm=>hb (aP0 _ hm)⟩
 refine(hc (Ae [(⟨0,0,.row et k bs es⟩:Ent)] loc) M w vs (fun b hb=>S.lt b (aP0 _ hb)) ?_).mono ?_
 ·rw[vU];simp only[AI];refine⟨v0,r0,rfl,?_,Bd W _ _ (by omega) hrest⟩;simp only[rd];obtain⟨hz,h⟩:=hk
  rcases h with ⟨he,_,h2⟩ | ⟨b,arr,cap,h1,h2,h3,h4,h5,h6,h7⟩
  ·subst he;rw[kO,h2];exact⟨none,0,by simp,by simp,by simp,hz,.inl ⟨rfl,fun _=>rfl⟩⟩
  ·rw[kO,h2];refine⟨some ⟨b,0,none⟩,cap,rfl,h4,h5,hz,.inr ⟨b,0,arr,et,(0,0),rfl,hap b ?_,h3,Cx W k es arr 0 (by omega) h7⟩⟩;simp[Ab,h1]
 ·rintro e w' ⟨v,rfl,hu,vT⟩;exact⟨v,rfl,loc,S.keep hu,hu.nil,fun b hb=> .inl hb,fun e he _=>AV S.nd he,Hh_ hd vT⟩
theorem LH_ {P:Program} {B:Base} {Q:Exit->DS->Prop} {s:DS} {x:Code} (i k bs:Nat) (h:Bq s.slots i= .nilsl) (hw:DW P B x Q ⟨(i,.sl k bs [])::s.slots,s.own⟩):DW P B x Q s:=by
 refine Hg (s':=⟨(i,.sl k bs [])::s.slots,s.own⟩) (fun a w loc R=>⟨loc,R.st,R.upd,R.new,R.ver,fun j=> ?_,R.nt,R.df⟩) hw;simp only[Bq]
 split
 ·rename_i hj;subst hj;have:=R.sl j;rw[h]at this;simp only[rd]at this |-;rw[this];exact⟨none,0,by simp,by simp,by simp,by simp,.inl ⟨by simp,fun _=>rfl⟩⟩
 ·exact R.sl j
end Go.Dm
end
section
namespace Go.Proofs.Wy
open Go Go.Dm Tryz
variable [DMode]
attribute [local irreducible] DW Bi Bk
set_option maxRecDepth 100000
theorem xF {l:List ByteArray} {s:ByteArray}:decide (0<=Fo l s)=decide (s∈l):=by
 refine decide_eq_decide.2 ?_;unfold Fo
 by_cases h:s∈l
 ·rw[if_pos (cM0.2 ⟨s,h,by simp⟩)];simp only[h,iff_true];omega
 ·rw[if_neg (fun hh=>h (by obtain⟨x,hx,hs⟩:=cM0.1 hh;simp at hs;subst hs;exact hx))];simp[h]
theorem IB (l:List ByteArray) (s:ByteArray):Ad prog 154 [Bg l,.str s] (.bool (decide (s∈l))):=by
 rw[<-xF];exact Fx l s
theorem TG (l:List ByteArray) (s:ByteArray):AS prog (.func 154) [.osl 0 0,.str s] [⟨0,0,.row 9 1 16 (l.map Bh)⟩] (.bool (decide (s∈l))) [⟨0,0,.row 9 1 16 (l.map Bh)⟩] :=
 Uw rfl (IB l s)
def YB : Ann:=⟨[15],[⟨4,[5],[],[]⟩]⟩
theorem Js (g:List Rul):Ad prog 91 [AD g] (Bg (AB g)):=by
 refine Ac [3] YB func91 call91 ntmps91 mxd (Aq @YB.eq_1 results91) rfl (fun qJ B qX qQ=> ?_);have hs:g.length*40<=150000000000000:=by have:=qJ.1;simp only[EI,aL0]at this;exact this.1
 clear qJ;simp only[Am]
 (refine AM Aa Aa Aa ?_;intros;refine Aj ?_)
 refine BY 3 3 9 1 16 (by simp[qX,results91,YB]) (fun n=> ?_);refine Ak (X:={i:Nat//i<=g.length}) (fun i=>⟨[(0,AD g),(3,.osl 3 1),(6,AD g),(7,.int .i64 g.length),(8,.int .i64 i.1)],[⟨3,1,.row 9 1 16 ((AB (g.take i.1)).map Bh)⟩]⟩) (fun i=>g.length-i.1) ⟨0,by omega⟩ (Sub.lit (by simp[AB])) ?_;rintro⟨i,hi⟩;simp only
 by_cases qV:i<g.length
 ·obtain⟨r,hr,wL,dL⟩:=Aw qV;have wJ:=PN hr;have hl:=Jr (g.take i);rw[bE0]at hl;obtain⟨T,hT⟩:∃T,T=AB (g.take i):=⟨_,rfl⟩;rw[<-hT]at wJ hl |-;have e1:=TG T r.h;have z1:(T.length+1)*16<=150000000000000:=by omega
  have z2:T.length+1<=9223372036854775807:=by omega
  unfold Iu at wJ
  by_cases hm:r.h∈T
  ·rw[if_pos hm]at wJ;rw[decide_eq_true hm]at e1
   (refine AM Aa (AA (Ee [(3,0)] [] e1)) (EU @BX.eq_1 qV hr wL) ?_;intros;refine Aj ?_)
   refine Al.mk ⟨i+1,by omega⟩ (Sub.lit (by simp[wJ])) (by simp;omega)
   skip
  ·rw[if_neg hm]at wJ;rw[decide_eq_false hm]at e1
   (refine AM Aa (AA (Ee [(3,0)] [] e1)) (JT @BX.eq_1 qV hr wL z1 z2) ?_;intros;refine Aj ?_)
   refine Al.mk ⟨i+1,by omega⟩ (Sub.lit (by simp[wJ,Bh])) (by simp;omega)
   skip
 ·have qZ:i=g.length:=by omega
  subst qZ;rw[aY0];exact Au Aa Aa Aa
abbrev dCM (m:CM):DObj:= .map (Ef m.K) (FK m.V)
def tG : Ann:=⟨[],[⟨4,[7],[],[]⟩,⟨7,[9],[],[]⟩]⟩
theorem LS (g:List Rul) (k:Int):AS prog (.func 176) [AD g,.int .i64 k] [] (.omp 0 1) [⟨0,1,dCM (Qt (AX k g))⟩]:=by
 refine Bj [] [(10,0,1)] tG func176 call176 ntmps176 mxd (Aq @tG.eq_1 results176) rfl (fun qJ B qX qQ=> ?_);have pD:=Kw qJ.1
 have nZ:∀r∈g,r.b.length<9223372036854775807:=fun r hr=>by
  have h1:=qJ.1;obtain⟨i,hi,rfl⟩:=bK0 hr;have h2:wfR (g.map BX):=by simp only[EI]at h1;exact h1.2.2
  have h3:=WP h2 (aH0 hi);simp only[BX,IZ]at h3;exact QS h3.2.1
 clear qJ;simp only[Am,List.nil_append]
 (refine AM Aa Aa Aa ?_;intros;refine Aj ?_)
 refine Ak (X:={i:Nat//i<=g.length}) (fun i=>⟨[(0,AD g),(1,.int .i64 k),(5,.omp 10 1),(11,AD g),(12,.int .i64 g.length),(13,.int .i64 i.1)],[⟨10,1,dCM (Qt (AX k (g.take i.1)))⟩]⟩) (fun i=>g.length-i.1) ⟨0,by omega⟩ (Sub.lit (by simp[AX,Qt,Ef,FK])) ?_;rintro⟨i,hi⟩;simp only
 by_cases qV:i<g.length
 ·obtain⟨r,hr,wL,dL⟩:=Aw qV;have wJ:=PI (k:=k) hr;have cI:=nZ r dL;obtain⟨N,hN⟩:∃N,N=AX k (g.take i):=⟨_,rfl⟩;rw[<-hN]at wJ |-
  (refine AM Aa Aa (EU @BX.eq_1 qV hr wL) ?_;intros;refine Aj ?_)
  refine Ak (X:={j:Nat//j<=r.b.length}) (fun j=>⟨[(0,AD g),(1,.int .i64 k),(5,.omp 10 1),(11,AD g),(12,.int .i64 g.length),(13,.int .i64 i),(18,BC r.b),(19,.int .i64 r.b.length),(20,.int .i64 j.1)],[⟨10,1,dCM (Qt (N++Cv k (r.b.take j.1)))⟩]⟩) (fun j=>r.b.length-j.1) ⟨0,by omega⟩ (Sub.lit (by simp[Cv])) ?_;rintro⟨j,hj⟩;simp only
  by_cases qS:j<r.b.length
  ·obtain⟨x,hx,qG,vN⟩:=Aw qS;have htj:=PH (k:=k) hx;obtain⟨E,hE⟩:∃E,E=N++Cv k (r.b.take j):=⟨_,rfl⟩;have nU:N++Cv k (r.b.take (j+1))=E++(if x.k=k then [x.s]else []):=by rw[htj,hE,aQ0]
   rw[<-hE]
   by_cases hk:x.k=k
   ·rw[if_pos hk]at nU;have qL:=FT_ E x.s;have qY:=AH_ E;obtain⟨⟨Ks,V⟩,hm⟩:∃m,m=Qt E:=⟨_,rfl⟩;rw[<-hm]at qL qY |-;have zP:=Ck_ Ks;unfold TV at qL;simp only at qL
    by_cases hs:x.s∈Ks
    ·rw[if_pos hs]at qL;have l1:=SI hs;have l3:Mz Ks x.s<V.length:=by have:=KA hs;have:=qY.len;simp only at this;omega
     have v1:(FK V)[Mz Ks x.s]? =some (.int .i64 (V.getD (Mz Ks x.s) 0)):=by simp[FK,l3]
     obtain⟨q,hq⟩:∃q,q=IntKind.i64.wrap (V.getD (Mz Ks x.s) 0+1):=⟨_,rfl⟩;have wH:IntKind.i64.wrap (V.getD (Mz Ks x.s) 0+1)=q:=hq.symm;rw[wH]at qL;obtain⟨c,vK⟩:∃c,c=V.getD (Mz Ks x.s) 0:=⟨_,rfl⟩;rw[<-vK]at v1 wH;have st1:=Fm_ V (Mz Ks x.s) q;obtain⟨ix,hix⟩:∃ix,ix=Mz Ks x.s:=⟨_,rfl⟩;rw[<-hix]at l1 v1 st1 qL
     (refine AM Aa Aa (MM @Cf.eq_1 qS hx qG hk zP l1 v1 wH st1) ?_;intros;refine Aj ?_)
     refine Al.mk ⟨j+1,by omega⟩ (Sub.lit (by simp only[nU,qL];simp)) (by simp;omega)
     skip
    ·rw[if_neg hs]at qL;have l1:=Jn hs;have st1:=Fn_ V 1;have sk1:=Eb_ Ks x.s
     (refine AM Aa Aa (YC @Cf.eq_1 qS hx qG hk zP l1 st1 sk1) ?_;intros;refine Aj ?_)
     refine Al.mk ⟨j+1,by omega⟩ (Sub.lit (by simp only[nU,qL];simp)) (by simp;omega)
     skip
   ·have zZ:(x.k==k)=false:=by simpa using hk
    rw[if_neg hk,bR0]at nU
    (refine AM Aa Aa (JT @Cf.eq_1 qS hx qG hk zZ) ?_;intros;refine Aj ?_)
    refine Al.mk ⟨j+1,by omega⟩ (Sub.lit (by simp only[nU];simp)) (by simp;omega)
    skip
  ·have qZ:j=r.b.length:=by omega
   subst qZ;rw[aY0]
   (refine AM Aa Aa Aa ?_;intros;refine Aj ?_)
   refine Al.mk ⟨i+1,by omega⟩ (Sub.lit (by simp only[wJ];simp)) (by simp;omega)
   skip
 ·have qZ:i=g.length:=by omega
  subst qZ;rw[aY0];exact Au Aa Aa Aa
def Cw_ (m:CM) (s:ByteArray):CM:=if s∈m.K then ⟨m.K.eraseIdx (Mz m.K s),m.V.eraseIdx (Mz m.K s)⟩else m
structure DelOk (m0 m:CM) (hs:List ByteArray):Prop where
 len:m.K.length=m.V.length
 mem:∀s,s∈m.K↔s∈m0.K/\¬s∈hs
 nd:m.K.Nodup
theorem FI_ {l:List ByteArray} (hn:l.Nodup) {s x:ByteArray} (hs:s∈l):x∈l.eraseIdx (Mz l s)↔x∈l/\x≠s:=by
 have hi:=KA hs
 have hv:l[Mz l s]=s:=by
  have:=List.findIdx_getElem (xs:=l) (p:=fun x=>s==x) (w:=hi);simp at this;exact this.symm
 rw[List.mem_eraseIdx_iff_getElem]
 constructor
 ·rintro⟨i,yO,qC,rfl⟩;refine⟨dG0 yO,fun e=>qC ?_⟩;exact(List.getElem_inj hn).1 (e.trans hv.symm)
 ·rintro⟨hx,qC⟩;obtain⟨i,yO,rfl⟩:=bK0 hx;refine⟨i,yO,fun e=>qC ?_,rfl⟩;subst e;exact hv
theorem DelOk.step {m0 m:CM} {hs:List ByteArray} (h:DelOk m0 m hs) (s:ByteArray):DelOk m0 (Cw_ m s) (hs++[s]):=by
 unfold Cw_
 split
 ·rename_i hm;refine⟨?_,fun x=> ?_,h.nd.sublist (List.eraseIdx_sublist _ _)⟩
  ·have:=KA hm;rw[List.length_eraseIdx_of_lt this,List.length_eraseIdx_of_lt (by have:=h.len;omega),h.len]
  ·simp only;rw[FI_ h.nd hm,h.mem x,aI0,aG0]
   constructor
   ·rintro⟨⟨a,b⟩,c⟩;exact⟨a,fun hh=>by rcases hh with hh | hh;exact b hh;exact c hh⟩
   ·rintro⟨a,b⟩;exact⟨⟨a,fun hh=>b (.inl hh)⟩,fun hh=>b (.inr hh)⟩
 ·rename_i hm;refine⟨h.len,fun x=> ?_,h.nd⟩;rw[h.mem x,aI0,aG0]
  constructor
  ·rintro⟨a,b⟩;exact⟨a,fun hh=>by rcases hh with hh | hh;exact b hh;subst hh;exact hm ((h.mem x).2 ⟨a,b⟩)⟩
  ·rintro⟨a,b⟩;exact⟨a,fun hh=>b (.inl hh)⟩
theorem eD (V:List Int) (j:Nat):(FK V).eraseIdx j=FK (V.eraseIdx j):=by unfold FK;rw[Ip]
theorem Za (V:List ByteArray) (j:Nat):(Ef V).eraseIdx j=Ef (V.eraseIdx j):=by unfold Ef;rw[Ip]
def tF : Ann:=⟨[7],[⟨4,[5],[],[]⟩]⟩
theorem JF (g:List Rul) (hn:(AX 2 g).length<=9223372036854775807):Ad prog 234 [AD g] (.int .i64 (CX g).length):=by
 refine Ac [] tF func234 call234 ntmps234 mxd (Aq @tF.eq_1 results234) rfl (fun qJ B qX qQ=> ?_);have pD:=Kw qJ.1;clear qJ;simp only[Am];have e1:=LS g 2;have qY:=AH_ (AX 2 g);obtain⟨m0,fH⟩:∃m,m=Qt (AX 2 g):=⟨_,rfl⟩;rw[<-fH]at e1 qY
 (refine AM Aa (AA (Ee [] [(7,0)] e1)) Aa ?_;intros;refine Aj ?_)
 refine Ak (X:={x:Nat×CM//x.1<=g.length/\DelOk m0 x.2 ((g.take x.1).map (·.h))}) (fun x=>⟨[(0,AD g),(3,.omp 7 1),(8,AD g),(9,.int .i64 g.length),(10,.int .i64 x.1.1)],[⟨7,1,dCM x.1.2⟩]⟩) (fun x=>g.length-x.1.1) ⟨(0,m0),by simp,by simpa using qY.len,by simp,qY.nd⟩ (Sub.lit (by simp)) ?_;rintro⟨⟨i,m⟩,hi,hD⟩;simp only at hi hD |-
 by_cases qV:i<g.length
 ·obtain⟨r,hr,wL,dL⟩:=Aw qV
  have pG:DelOk m0 (Cw_ m r.h) ((g.take (i+1)).map (·.h)):=by
   have:=hD.step r.h;rw[bF0,hr,bA0];exact this
  obtain⟨Ks,V⟩:=m;have zP:=Ck_ Ks;unfold Cw_ at pG;simp only at pG
  by_cases hs:r.h∈Ks
  ·rw[if_pos hs]at pG;have l1:=SI hs;have s1:=Za Ks (Mz Ks r.h);have s2:=eD V (Mz Ks r.h)
   (refine AM Aa Aa (MM @BX.eq_1 qV hr wL zP l1 @TB.eq_1 @TA.eq_1 s1 s2) ?_;intros;refine Aj ?_)
   refine Al.mk ⟨(i+1,_),show i+1<=g.length/\_ from ⟨by omega,pG⟩⟩ (Sub.lit (by simp)) (by simp;omega)
   skip
  ·rw[if_neg hs]at pG;have l1:=Jn hs
   (refine AM Aa Aa (ML @BX.eq_1 qV hr wL zP l1 @TB.eq_1 @TA.eq_1) ?_;intros;refine Aj ?_)
   refine Al.mk ⟨(i+1,_),show i+1<=g.length/\_ from ⟨by omega,pG⟩⟩ (Sub.lit (by simp)) (by simp;omega)
   skip
 ·have qZ:i=g.length:=by omega
  subst qZ;rw[aY0]at hD
  have kJ:m.K.length=(CX g).length:=HV_ hD.nd fun s=>by
   rw[hD.mem s,qY.mem s,Ta];simp
  have hsl:=Ea_ m.K;rw[kJ]at hsl;have wY:(CX g).length<=9223372036854775807:=Nat.le_trans (Nat.le_trans (cU0 _ _) (HV _)) hn;obtain⟨Ks,V⟩:=m;exact Au Aa Aa (Aq hsl wY)
def lE : Ann:=⟨[],[]⟩
theorem HF (k c:Int) (hk:k=2/\c=85\/k=3/\c=76) (s:ByteArray):Ad prog 129 [.str s,.int .u8 c] (.bool (DD k s)):=by
 refine Ac [] lE func129 call129 ntmps129 mxd (Aq @lE.eq_1 results129) rfl (fun qJ B qX qQ=> ?_);have qH:s.size<=9223372036854775807:=by have:=qJ.1;simp only[EI,maxLen]at this;omega
 clear qJ;simp only[Am];obtain⟨R,hR⟩:∃R,R=DD k s:=⟨_,rfl⟩;rw[<-hR];unfold DD at hR
 by_cases h1:1<=s.size
 ·by_cases h2:s.size<=16
  ·have g1:¬(s.size:Int)<1:=by omega
   have g2:¬(16:Int)<s.size:=by omega
   have g0:0<s.size:=by omega
   obtain⟨b0,qR,fT,_⟩:=Aw (show 0<s.data.toList.length by rw[CU];omega)
   (refine AM Aa Aa (Ja g0 g1 g2 h1 h2) ?_;intros;refine Aj ?_)
   refine Ak (X:={k:Nat//k<=s.size/\Ic_ s=((s.data.toList.drop k).all fun b=>aP (b.toNat:Int))}) (fun k=>⟨[(0,.str s),(1,.int .u8 c),(5,.int .i64 k.1)],[]⟩) (fun k=>s.size-k.1) ⟨0,by simp[Ic_]⟩ (Sub.lit (by simp)) ?_;rintro⟨j,hj,hl⟩
   by_cases qV:j<s.size
   ·obtain⟨b,hb,qD,_⟩:=Aw (show j<s.data.toList.length by rw[CU];exact qV);rw[aW0 (by rw[CU];exact qV),qD,dB0]at hl;have e1:=UW (b.toNat:Int);cases hL:aP (b.toNat:Int)
    ·rw[hL]at e1 hl;have vY:R=false:=by rw[hR];unfold Cb;rw[hl];simp
     subst vY;exact Au (AA e1) Aa (Ez qV hb qD)
    ·rw[hL]at e1 hl;simp only[eB0]at hl
     (refine AM (AA e1) Aa (Ez qV hb qD) ?_;intros;refine Aj ?_)
     refine Al.mk ⟨j+1,by omega,hl⟩ (Sub.lit (by simp)) (by simp;omega)
     skip
   ·have qZ:j=s.size:=by omega
    subst qZ;rw[<-CU,cR0]at hl;have hN:Cb s=true:=by unfold Cb;rw[hl];simp[h1,h2]
    rw[hN]at hR;simp only[eG qR,eB0]at hR;have e1:=Ke (b0.toNat:Int);have e2:=Kj (b0.toNat:Int)
    rcases hk with ⟨rfl,rfl⟩ | ⟨rfl,rfl⟩
    ·simp only[if_true]at hR;rw[<-hR]at e1;cases R
     ·exact Au (Aq e1 e2) Aa (Ez g0 qR fT)
     ·exact Au (Aq e1 e2) Aa (Ez g0 qR fT)
    ·simp only[show ¬(3:Int)=2 by omega,if_false]at hR;rw[<-hR]at e2;cases R
     ·exact Au (Aq e1 e2) Aa (Ez g0 qR fT)
     ·exact Au (Aq e1 e2) Aa (Ez g0 qR fT)
  ·have g1:¬(s.size:Int)<1:=by omega
   have g2:(16:Int)<s.size:=by omega
   have vY:R=false:=by rw[hR];unfold Cb;simp[h2]
   subst vY;exact Au Aa Aa (EU g1 g2 h1 h2)
 ·have g1:(s.size:Int)<1:=by omega
  have vY:R=false:=by rw[hR];unfold Cb;simp[h1]
  subst vY;exact Au Aa Aa (Aq g1 h1)
def oS : Ann:=⟨[],[]⟩
theorem EY_ (x:Nd):Ad prog 294 [.agg (Cf x)] (.bool (Ei x)):=by
 refine Ac [] oS func294 call294 ntmps294 mxd (Aq @oS.eq_1 results294) rfl (fun qJ B qX qQ=> ?_);simp only[Am];have e1:=HF 2 85 (.inl ⟨rfl,rfl⟩) x.s;have e2:=HF 3 76 (.inr ⟨rfl,rfl⟩) x.s;rw[show DD 2 x.s=(Cb x.s&&JK tS x.s) from rfl]at e1;rw[show DD 3 x.s=(Cb x.s&&JK tW x.s) from rfl]at e2;unfold Ei uA
 by_cases k1:x.k=1
 ·exact Au Aa Aa (Ez @Cf.eq_1 @Bc k1)
 by_cases k2:x.k=2
 ·obtain⟨b,hb⟩:∃b,b=(Cb x.s&&JK tS x.s):=⟨_,rfl⟩;rw[<-hb]at e1 |-;clear hb;cases b<;>exact Au (AA e1) Aa (EU @Cf.eq_1 @Bc k1 k2)
 by_cases k3:x.k=3
 ·obtain⟨b,hb⟩:∃b,b=(Cb x.s&&JK tW x.s):=⟨_,rfl⟩;rw[<-hb]at e2 |-;clear hb;cases b<;>exact Au (AA e2) Aa (Ja @Cf.eq_1 @Bc k1 k2 k3)
 by_cases k4:x.k=4
 ·exact Au Aa Aa (JT @Cf.eq_1 @Bc k1 k2 k3 k4)
 by_cases k5:x.k=5
 ·exact Au Aa Aa (JB @Cf.eq_1 @Bc k1 k2 k3 k4 k5)
 by_cases k6:x.k=6
 ·exact Au Aa Aa (ML @Cf.eq_1 @Bc k1 k2 k3 k4 k5 k6)
 by_cases k7:x.k=7
 ·exact Au Aa Aa (YC @Cf.eq_1 @Bc k1 k2 k3 k4 k5 k6 k7)
 by_cases k8:x.k=8
 ·exact Au Aa Aa (MM @Cf.eq_1 @Bc k1 k2 k3 k4 k5 k6 k7 k8)
 exact Au Aa Aa (MM @Cf.eq_1 @Bc k1 k2 k3 k4 k5 k6 k7 k8)
def Aw_ (l:List Nd) (p:Nat):Int:=match EY (l.drop p) 1 with
 | some r=>(l.length:Int)-r.length
 | none=> -1
def oT : Ann:=⟨[],[]⟩
theorem PX (l:List Nd) (p:Nat) (hs:l.length<=1572864) (hp:p<=l.length):Ad prog 202 [BC l,.int .i64 p] (.int .i64 (Aw_ l p)):=by
 refine Ac [] oT func202 call202 ntmps202 mxd (Aq @oT.eq_1 results202) rfl (fun qJ B qX qQ=> ?_);clear qJ;simp only[Am];obtain⟨R,hR⟩:∃R,R=Aw_ l p:=⟨_,rfl⟩;rw[<-hR];unfold Aw_ at hR;obtain⟨E,hE⟩:∃E,E=EY (l.drop p) 1:=⟨_,rfl⟩;rw[<-hE]at hR
 (refine AM Aa Aa Aa ?_;intros;refine Aj ?_)
 refine Ak (X:={q:Nat×Nat//q.1<=l.length/\EY (l.drop q.1) q.2=E/\q.2<=1+q.1*1572864}) (fun q=>⟨[(0,BC l),(1,.int .i64 q.1.1),(5,.int .i64 q.1.2)],[]⟩) (fun q=>l.length+1-q.1.1) ⟨(p,1),hp,hE.symm,by simp only;omega⟩ (Sub.lit (by simp)) ?_;clear hE;rintro⟨⟨k,w⟩,hk,hw,nZ⟩;simp only at hk hw nZ |-
 cases w with
 | zero =>
  rw[Cw]at hw;rw[<-hw]at hR;simp only[bW0]at hR;have jN:R=k:=by omega
  subst jN;exact Au Aa Aa Aa
 | succ v =>
  have hv:(0:Int)<(v:Int)+1:=by omega
  by_cases qV:k<l.length
  ·obtain⟨x,hx,qG,_⟩:=Aw qV;rw[aW0 qV,qG]at hw;have e1:=EY_ x;simp only[Cf]at e1;have jU:¬l.length<=k:=by omega
   cases hm:Ei x
   ·rw[hm]at e1;rw[DR,hm]at hw;simp only[aU0,if_false]at hw;rw[<-hw]at hR;simp only at hR;subst hR;exact Au (AA e1) Aa (JT @Cf.eq_1 qV jU hx qG hv)
   ·rw[hm]at e1;have zQ:=Io hm;obtain⟨c,yD⟩:∃c:Nat,x.n=(c:Int):=⟨x.n.toNat,by omega⟩;rw[yD]at e1;rw[DR,if_pos hm,yD,dI0]at hw
    by_cases jO:l.length<c
    ·have kH:(l.length:Int)<(c:Int):=by omega
     rw[Tv _ _ (by rw[bW0];omega)]at hw;rw[<-hw]at hR;simp only at hR;subst hR;exact Au (AA e1) Aa (YC @Cf.eq_1 qV jU hx qG hv yD jO kH)
    ·have kH:¬(l.length:Int)<(c:Int):=by omega
     have q1:IntKind.i64.wrap ((v:Int))=(v:Int):=wq;have q2:IntKind.i64.wrap ((v:Int)+(c:Int))=(v:Int)+(c:Int):=wq
     (refine AM (AA e1) Aa (Pu @Cf.eq_1 qV jU hx qG hv yD jO kH q1 q2) ?_;intros;refine Aj ?_)
     refine Al.mk ⟨(k+1,v+c),show k+1<=l.length/\EY (l.drop (k+1)) (v+c)=E/\v+c<=1+(k+1)*1572864 from ⟨by omega,hw,by omega⟩⟩ (Sub.lit (by simp)) (by simp;omega)
     skip
  ·have jU:l.length<=k:=by omega
   rw[dE0 jU,Iz]at hw;rw[<-hw]at hR;simp only at hR;subst hR;exact Au Aa Aa (Aq hv jU)
def oU : Ann:=⟨[],[]⟩
theorem EN (l:List Nd) (hs:l.length<=1572864):Ad prog 130 [BC l] (.bool (Dr l)):=by
 refine Ac [] oU func130 call130 ntmps130 mxd (Aq @oU.eq_1 results130) rfl (fun qJ B qX qQ=> ?_);clear qJ;simp only[Am];have e1:=PX l 0 hs (by omega);unfold Aw_ at e1;unfold Dr;rw[List.drop_zero]at e1
 by_cases h0:0<l.length
 ·cases hE:EY l 1 with
  | none =>
   rw[hE]at e1;have qC:((-1:Int)==(l.length:Int))=false:=by simp
   exact Au (AA e1) Aa (Aq h0 qC)
  | some r =>
   rw[hE]at e1
   cases r with
   | nil =>
    simp only[List.length_nil,Int.natCast_zero,Int.sub_zero]at e1;exact Au (AA e1) Aa (AA h0)
   | cons y r =>
    have qC:(((l.length:Int)-((y::r).length:Int))==(l.length:Int))=false:=by simp;omega
    obtain⟨e,he⟩:∃e:Int,e=(l.length:Int)-((y::r).length:Int):=⟨_,rfl⟩;rw[<-he]at qC;have e3:Ad prog 202 [BC l,.int .i64 0] (.int .i64 e):=by rw[he];exact e1
    exact Au (AA e3) Aa (Aq h0 qC)
 ·have hl:l=[]:=bO0 (by omega);subst hl;rw[Iz];exact Au Aa Aa Aa
def He : Ann:=⟨[],[⟨5,[6],[],[]⟩]⟩
theorem KE (t:RT) (ht:FX t=true) (hs:(flat t).length<=1572864):Ad prog 262 [BC (flat t)] (.int .i64 (JR t)):=by
 refine Ac [] He func262 call262 ntmps262 mxd (Aq @He.eq_1 results262) rfl (fun qJ B qX qQ=> ?_);clear qJ;simp only[Am];have hR:=KC ht;have cU:=BV_ ht;have mO:∀x∈flat t,x.n<=1572864:=fun x hx=>by have:=SP t ht x hx;omega
 obtain⟨l,hl⟩:∃l,l=flat t:=⟨_,rfl⟩;rw[<-hl]at hR cU mO hs |-;clear hl;obtain⟨R,hRR⟩:∃R,R=JR t:=⟨_,rfl⟩;rw[<-hRR]at hR |-;clear hRR ht
 (refine AM Aa Aa Aa ?_;intros;refine Aj ?_)
 refine BY 4 50 3 1 8 (by simp[qX,results262,He]) (fun n=> ?_);refine Ak (X:={p:Nat×List Nat×Nat//p.1<=l.length/\(l.drop p.1).foldl Ek (p.2.1,p.2.2)=([],R)/\p.2.1.length<=p.1/\p.2.2<=p.1/\pos p.2.1}) (fun p=>⟨[(3,.int .i64 p.1.2.2),(4,.osl 50 1),(7,BC l),(8,.int .i64 l.length),(9,.int .i64 p.1.1)],[⟨50,1,.row 3 1 8 (Ju p.1.2.1)⟩]⟩) (fun p=>l.length-p.1.1) ⟨(0,[],0),by simp[hR,pos]⟩ (Sub.lit (by simp[Dj])) ?_
 rintro⟨⟨k,s,m⟩,hk,hw,hsl,hmb,kW⟩;simp only at hk hw hsl hmb kW |-;clear hR
 by_cases qV:k<l.length
 ·obtain⟨x,hx,qG,vN⟩:=Aw qV;rw[aW0 qV,qG,cQ0]at hw;have zQ:=Io (cU x vN);obtain⟨c,yD⟩:∃c:Nat,x.n=(c:Int):=⟨x.n.toNat,by omega⟩;have jE:=Fq_ (p:=(s,m)) x (by have:=mO x vN;omega) kW;have bW:=Fr_ (s,m) x;unfold Ek at hw jE bW;rw[yD,dI0]at hw jE bW;simp only at hw jE bW;obtain⟨P,hP⟩:∃P,P=(if c=0 then fin s else c::s):=⟨_,rfl⟩;rw[<-hP]at hw jE bW;have vF:(if (m:Int)<(s.length:Int)+1 then (s.length:Int)+1 else (m:Int))=((max m (s.length+1):Nat):Int):=by split<;>omega
  obtain⟨m2,dS⟩:∃m2,m2=max m (s.length+1):=⟨_,rfl⟩;rw[<-dS]at hw vF;have hm2b:m2<=k+1:=by omega
  have z1:(s.length+1)*8<=150000000000000:=by omega
  have z2:s.length+1<=9223372036854775807:=by omega
  have q1:IntKind.i64.wrap ((s.length:Int)+1)=(s.length:Int)+1:=wq
  (refine AM Aa Aa (MM @Cf.eq_1 qV hx qG yD @EP vF z1 z2 q1) ?_;intros;refine Aj ?_)
  refine Ak (X:={q:List Nat//Hn_ q=P/\q.length<=k+1/\pos q.tail}) (fun q=>⟨[(3,.int .i64 m2),(4,.osl 50 1),(7,BC l),(8,.int .i64 l.length),(9,.int .i64 k)],[⟨50,1,.row 3 1 8 (Ju q.1)⟩]⟩) (fun q=>q.1.length) ⟨c::s,by rw[hP,Et_],by simp;omega,kW⟩ (Sub.lit (by simp[vF,IA,BG])) ?_;rintro⟨q,wG,wH,dG⟩;simp only
  match q,wG,wH,dG with
  | [],wG,wH,dG =>
   have hP2:P=[]:=by rw[<-wG];rfl
   (refine AM Aa Aa (AA @Dj) ?_;intros;refine Aj ?_)
   refine Al.mk ⟨(k+1,P,m2),show k+1<=l.length/\(l.drop (k+1)).foldl Ek (P,m2)=([],R)/\P.length<=k+1/\m2<=k+1/\pos P from ⟨by omega,hw,by omega,hm2b,jE⟩⟩ (Sub.lit (by simp[hP2,Dj])) (by simp;omega)
   skip
  | d::q,wG,wH,dG =>
   have nX:q.length<=k:=by simpa using wH
   have qU:(Ju (d::q)).length=q.length+1:=by rw[EP];rfl
   have qK:=iK d q;have wJ:=FM_ d q;have q2:IntKind.i64.wrap ((q.length:Int))=(q.length:Int):=wq;obtain⟨D,hD⟩:∃D,D=Ju (d::q):=⟨_,rfl⟩;rw[<-hD]at qU qK wJ |-;have wZ:q.length<D.length:=by omega
   have qA:D[q.length]'wZ=[.int .i64 (d:Int)]:=(aB0.1 qK).2;have wV:(0:Int)<(q.length:Int)+1:=by omega
   cases d with
   | zero =>
    cases q with
    | nil =>
     have hP2:P=[]:=by rw[<-wG];rfl
     have q0:IntKind.i64.wrap 0=0:=by decide
     simp only[List.length_nil,bS0]at qU qK qA wJ wZ
     (repeat (first | (refine IY 4 ?_ (fun _=> ?_);(· (simp[qX,qU,qK,qA,wZ,wV,wJ,Dj,q0];done));(try simp[qX,qU,qK,qA,wZ,wV,wJ,Dj,q0])) | refine AE fun K hK=> ?_ | (refine Bv He mxd (by kernel_rfl) ?_;simp[He,qX,qU,qK,qA,wZ,wV,wJ,Dj,q0];try simp (disch:=omega) only[Af]) | refine An ?_ | (refine AW ?_ ?_ ?_;(· (simp[qX,qU,qK,qA,wZ,wV,wJ,Dj,q0];done));(try (rotate_left;(· (intro hc;(try simp[qX,qU,qK,qA,wZ,wV,wJ,Dj,q0]at hc);done))))) | (refine AH ?_;simp[results262,qX,qU,qK,qA,wZ,wV,wJ,Dj,q0]) | ((first | refine Ay ?_ | refine Ax ?_);simp[qX,qU,qK,qA,wZ,wV,wJ,Dj,q0]) | (intro hc;(try simp[qX,qU,qK,qA,wZ,wV,wJ,Dj,q0]at hc);(try (exfalso;omega))) | (refine⟨?_,?_⟩; · omega) | omega | apply_assumption -exfalso -symm | (exfalso;omega)))
     refine Al.mk ⟨[],hP2.symm,by simp,by simp[pos]⟩ (Sub.lit (by simp[Dj])) (by simp)
     skip
    | cons e q =>
     obtain⟨cT,he9⟩:=dG e (by simp);have q5:IntKind.i64.wrap ((e-1:Nat):Int)=((e-1:Nat):Int):=wq;have hP2:Hn_ ((e-1)::q)=P:=by rw[Es_ cT,<-wG];rfl
     have nI:pos q:=fun c hc=>dG c (by simp[hc])
     simp only[List.length_cons]at qU qK qA wJ wZ q2 wV nX;have zO:(Ju (e::q)).length=q.length+1:=by rw[EP];rfl
     have zC:=iK e q;have vR:=IS_ e (e-1) q;obtain⟨E,hE⟩:∃E,E=Ju (e::q):=⟨_,rfl⟩;rw[<-hE]at zO zC vR wJ;have fJ:q.length<E.length:=by omega
     have zY:E[q.length]'fJ=[.int .i64 (e:Int)]:=(aB0.1 zC).2;have q3:IntKind.i64.wrap ((q.length:Int)+1)=(q.length:Int)+1:=wq;have q4:IntKind.i64.wrap ((q.length:Int))=(q.length:Int):=wq;have zX:(e:Int)-1=((e-1:Nat):Int):=by omega
     have dD:(0:Int)<(q.length:Int)+1:=by omega
     have bG:(0:Int)<(q.length:Int)+1+1:=by omega
     (repeat (first | (refine IY 4 ?_ (fun _=> ?_);(· (simp[qX,qU,qK,qA,wZ,wV,dD,bG,wJ,q3,q4,zO,zC,zY,fJ,zX,vR,q5];done));(try simp[qX,qU,qK,qA,wZ,wV,dD,bG,wJ,q3,q4,zO,zC,zY,fJ,zX,vR,q5])) | refine AE fun K hK=> ?_ | (refine Bv He mxd (by kernel_rfl) ?_;simp[He,qX,qU,qK,qA,wZ,wV,dD,bG,wJ,q3,q4,zO,zC,zY,fJ,zX,vR,q5];try simp (disch:=omega) only[Af]) | refine An ?_ | (refine AW ?_ ?_ ?_;(· (simp[qX,qU,qK,qA,wZ,wV,dD,bG,wJ,q3,q4,zO,zC,zY,fJ,zX,vR,q5];done));(try (rotate_left;(· (intro hc;(try simp[qX,qU,qK,qA,wZ,wV,dD,bG,wJ,q3,q4,zO,zC,zY,fJ,zX,vR,q5]at hc);done))))) | (refine AH ?_;simp[results262,qX,qU,qK,qA,wZ,wV,dD,bG,wJ,q3,q4,zO,zC,zY,fJ,zX,vR,q5]) | ((first | refine Ay ?_ | refine Ax ?_);simp[qX,qU,qK,qA,wZ,wV,dD,bG,wJ,q3,q4,zO,zC,zY,fJ,zX,vR,q5]) | (intro hc;(try simp[qX,qU,qK,qA,wZ,wV,dD,bG,wJ,q3,q4,zO,zC,zY,fJ,zX,vR,q5]at hc);(try (exfalso;omega))) | (refine⟨?_,?_⟩; · omega) | omega | apply_assumption -exfalso -symm | (exfalso;omega)))
     refine Al.mk ⟨(e-1)::q,hP2,by simp;omega,nI⟩ (Sub.lit (by simp)) (by simp)
     skip
   | succ d =>
    have hP2:P=(d+1)::q:=by rw[<-wG];rfl
    have bH:¬(d:Int)+1=0:=by omega
    have hd0':(((d:Int)+1)==0)=false:=by simpa using bH
    (refine AM Aa Aa (ML qU qK qA wZ q2 wV bH hd0') ?_;intros;refine Aj ?_)
    refine Al.mk ⟨(k+1,P,m2),show k+1<=l.length/\(l.drop (k+1)).foldl Ek (P,m2)=([],R)/\P.length<=k+1/\m2<=k+1/\pos P from ⟨by omega,hw,by omega,hm2b,jE⟩⟩ (Sub.lit (by simp[hP2,hD])) (by simp;omega)
    skip
 ·have qZ:k=l.length:=by omega
  subst qZ;rw[cR0]at hw;simp only[List.foldl_nil,_root_.Prod.mk.injEq]at hw;obtain⟨rfl,rfl⟩:=hw;exact Au Aa Aa Aa
def dT (t:RT):List DVal:=[BC (flat t)]
abbrev dTs (ts:List RT):DVal:= .sl 1 24 (ts.map dT)
@[simp] theorem NB_ (t:RT):AR (dT t)=0:=by simp[dT,AR,mx]
@[simp] theorem OK_ (l:List RT):Bx (l.map dT)=0:=Im _ NB_ l
theorem Ti {ks:List RT} {i:Nat} {t:RT} (h:ks[i]? =some t):(Ao (ks.take (i+1))).length=(Ao (ks.take i)).length+(flat t).length:=by
 rw[bF0,h,Fu,aD0];simp[Ao]
theorem KH (ks:List RT) (i:Nat):Ao ks=Ao (ks.take i)++Ao (ks.drop i):=by rw[<-Fu,List.take_append_drop]
def ET : Ann:=⟨[],[]⟩
theorem eA (x:Nd) (ks:List RT) (ht:FX (.mk x ks)=true) (hs:(flat (.mk x ks)).length<=1572864):Ad prog 321 [BC (flat (.mk x ks))] (dTs ks):=by
 refine Ac [60] ET func321 call321 ntmps321 mxd (Aq @ET.eq_1 results321) rfl (fun qJ B qX qQ=> ?_);clear qJ;simp only[Am];obtain⟨hm,hn,qY⟩:=CI ht;have cU:=BV_ ht;have mO:=SP _ ht;obtain⟨l,hl⟩:∃l,l=flat (.mk x ks):=⟨_,rfl⟩;have vW:l=x::Ao ks:=by rw[hl,Be]
 rw[<-hl]at cU mO hs |-;have h0:l[0]? =some x:=by rw[vW];rfl
 have qU:l.length=(Ao ks).length+1:=by rw[vW];simp
 have wN:0<l.length:=by omega
 have vP:l[0]'wN=x:=(aB0.1 h0).2;have zP:ks.length<=1572864:=by have:=Ft ks;omega
 (refine AM Aa Aa (Ja @Cf.eq_1 h0 vP wN hn) ?_;intros;refine Aj ?_)
 refine BY 3 60 153 1 24 (by simp[qX,results321,ET]) (fun n=> ?_);refine Ak (X:={i:Nat//i<=ks.length}) (fun i=>⟨[(0,BC l),(3,.osl 60 1),(4,.int .i64 (1+(Ao (ks.take i.1)).length:Nat)),(10,.int .i64 ks.length),(11,.int .i64 i.1)],[⟨60,1,.row 153 1 24 ((ks.take i.1).map dT)⟩]⟩) (fun i=>ks.length-i.1) ⟨0,by omega⟩ (Sub.lit (by simp[Ao])) ?_;rintro⟨i,hi⟩;simp only
 by_cases qV:i<ks.length
 ·obtain⟨t,wJ,gE,_⟩:=Aw qV;have jE:=KH ks i;have hdr:=aW0 qV;rw[gE]at hdr
  have fB:Gu (ks.drop i)=true:=by
   have:=QN (ks.take i) (ks.drop i);rw[List.take_append_drop,qY]at this;simpa using (by simpa using this.symm:Gu (ks.take i)=true/\Gu (ks.drop i)=true).2
  rw[hdr]at fB;obtain⟨nP,hokr⟩:=Cy fB;obtain⟨A,hA⟩:∃A,A=1+(Ao (ks.take i)).length:=⟨_,rfl⟩;obtain⟨r,hr⟩:∃r,r=Ao (ks.drop (i+1)):=⟨_,rfl⟩
  have kE:l.drop A=flat t++r:=by
   rw[vW,hA,Nat.add_comm,dY0,jE,eO0 (Nat.le_refl _),cR0,List.nil_append,hdr,AG,hr]
  have hend:EY (l.drop A) 1=some r:=by rw[kE,Gx t r 0 nP,Cw]
  have hA2:A+(flat t).length+r.length=l.length:=by
   have:=congrArg List.length kE;rw[bW0,aD0]at this;have:=GZ t;omega
  have hnext:=Ti wJ;rw[<-hA];clear jE hdr fB hokr
  (repeat (first | refine AE fun K hK=> ?_ | (refine Bv ET mxd (by kernel_rfl) ?_;simp[ET,qX,qV];try simp (disch:=omega) only[Af]) | refine An ?_ | (refine AW ?_ ?_ ?_;(· (simp[qX,qV];done));(try (rotate_left;(· (intro hc;(try simp[qX,qV]at hc);done))))) | (refine AH ?_;simp[results321,qX,qV]) | ((first | refine Ay ?_ | refine Ax ?_);simp[qX,qV]) | (intro hc;(try simp[qX,qV]at hc);(try (exfalso;omega))) | (refine⟨?_,?_⟩; · omega) | omega | apply_assumption -exfalso -symm | (exfalso;omega)))
  refine Ak (X:={p:Nat×Nat//p.1<=l.length/\EY (l.drop p.1) p.2=some r/\p.2<=1+p.1*1572864/\A<=p.1}) (fun p=>⟨[(0,BC l),(3,.osl 60 1),(4,.int .i64 p.1.1),(5,.int .i64 A),(6,.int .i64 p.1.2),(10,.int .i64 ks.length),(11,.int .i64 i)],[⟨60,1,.row 153 1 24 ((ks.take i).map dT)⟩]⟩) (fun p=>l.length-p.1.1) ⟨(A,1),show A<=l.length/\EY (l.drop A) 1=some r/\1<=1+A*1572864/\A<=A from ⟨by omega,hend,by omega,Nat.le_refl _⟩⟩ (Sub.lit (by simp)) ?_
  rintro⟨⟨k,w⟩,hk,hw,nZ,hAk⟩;simp only at hk hw nZ hAk |-
  cases w with
  | zero =>
   rw[Cw]at hw;simp only[aA0]at hw
   have yJ:k=A+(flat t).length:=by
    have:=congrArg List.length hw;rw[bW0]at this;omega
   have z1:((ks.take i).length+1)*24<=150000000000000:=by rw[bE0];omega
   have z2:(ks.take i).length+1<=9223372036854775807:=by rw[bE0];omega
   have hpiece:(l.drop A).take (k-A)=flat t:=by rw[yJ,Nat.add_sub_cancel_left,kE];simp
   have qZ:A<=l.length:=by omega
   (repeat (first | refine AE fun K hK=> ?_ | (refine Bv ET mxd (by kernel_rfl) ?_;simp[ET,qX,qV,hk,hAk,qZ];try simp (disch:=omega) only[Af]) | refine An ?_ | (refine AW ?_ ?_ ?_;(· (simp[qX,qV,hk,hAk,qZ];done));(try (rotate_left;(· (intro hc;(try simp[qX,qV,hk,hAk,qZ]at hc);done))))) | (refine AH ?_;simp[results321,qX,qV,hk,hAk,qZ]) | ((first | refine Ay ?_ | refine Ax ?_);simp[qX,qV,hk,hAk,qZ]) | (intro hc;(try simp[qX,qV,hk,hAk,qZ]at hc);(try (exfalso;omega))) | (refine⟨?_,?_⟩; · omega) | omega | apply_assumption -exfalso -symm | (exfalso;omega)))
   have hpD:List.take (k-A) (List.drop A (List.map Cf l))=(flat t).map Cf:=by rw[<-List.map_drop,<-List.map_take,hpiece]
   have htm:List.take (i+1) (List.map dT ks)=List.take i (List.map dT ks)++[dT t]:=by rw[bF0,bN0,wJ];rfl
   have yR:(1:Int)+((Ao (List.take (i+1) ks)).length:Int)=(k:Int):=by omega
   refine Al.mk ⟨i+1,by omega⟩ (Sub.lit (by simp[hpD,htm,yR,dT,BG])) (by simp;omega)
   skip
  | succ v =>
   have qS:k<l.length:=by
    rcases Nat.lt_or_ge k l.length with h | h
    ·exact h
    ·rw[dE0 h,Iz]at hw;simp at hw
   obtain⟨y,hy,zM,bS⟩:=Aw qS;rw[aW0 qS,zM,DR,if_pos (cU y bS)]at hw;have zQ:=Io (cU y bS);have hk9:=mO y bS;obtain⟨c,yD⟩:∃c:Nat,y.n=(c:Int):=⟨y.n.toNat,by omega⟩;rw[yD,dI0]at hw;have q1:IntKind.i64.wrap ((c:Int)-1)=(c:Int)-1:=wq;have q2:IntKind.i64.wrap ((v:Int)+1+((c:Int)-1))=(v:Int)+(c:Int):=by rw[wq];omega
   have q3:(0:Int)<(v:Int)+1:=by omega
   (repeat (first | refine AE fun K hK=> ?_ | (refine Bv ET mxd (by kernel_rfl) ?_;simp[ET,qX,Cf,qS,hy,zM,yD,q1,q2,q3];try simp (disch:=omega) only[Af]) | refine An ?_ | (refine AW ?_ ?_ ?_;(· (simp[qX,Cf,qS,hy,zM,yD,q1,q2,q3];done));(try (rotate_left;(· (intro hc;(try simp[qX,Cf,qS,hy,zM,yD,q1,q2,q3]at hc);done))))) | (refine AH ?_;simp[results321,qX,Cf,qS,hy,zM,yD,q1,q2,q3]) | ((first | refine Ay ?_ | refine Ax ?_);simp[qX,Cf,qS,hy,zM,yD,q1,q2,q3]) | (intro hc;(try simp[qX,Cf,qS,hy,zM,yD,q1,q2,q3]at hc);(try (exfalso;omega))) | (refine⟨?_,?_⟩; · omega) | omega | apply_assumption -exfalso -symm | (exfalso;omega)))
   refine Al.mk ⟨(k+1,v+c),show k+1<=l.length/\EY (l.drop (k+1)) (v+c)=some r/\v+c<=1+(k+1)*1572864/\A<=k+1 from ⟨by omega,hw,by omega,by omega⟩⟩ (Sub.lit (by simp)) (by simp;omega)
   skip
 ·have qZ:i=ks.length:=by omega
  subst qZ;exact Au Aa Aa (AA (@aY0.{0}))
def oY : Ann:=⟨[],[]⟩
theorem Xg (k:Int):Ad prog 323 [.int .i64 k] (.str (uN k)):=by
 refine Ac [] oY func323 call323 ntmps323 mxd (Aq @oY.eq_1 results323) rfl (fun qJ B qX qQ=> ?_);simp only[Am];have z0:(⟨#[]⟩:ByteArray).size=0:=rfl;have z1:(⟨#[42]⟩:ByteArray).size=1:=rfl;have z2:(⟨#[43]⟩:ByteArray).size=1:=rfl;have z3:(⟨#[63]⟩:ByteArray).size=1:=rfl;have m1:1<=maxLen:=by decide
 unfold uN
 by_cases k6:k=6
 ·exact Au Aa Aa (JT z0 z1 z2 z3 m1 k6)
 by_cases k7:k=7
 ·exact Au Aa Aa (JB z0 z1 z2 z3 m1 k6 k7)
 by_cases k8:k=8
 ·exact Au Aa Aa (ML z0 z1 z2 z3 m1 k6 k7 k8)
 exact Au Aa Aa (ML z0 z1 z2 z3 m1 k6 k7 k8)
theorem MG_ {l:List Nat} {a:Nat} (h:a∈l):a<=l.sum:=by
 induction l with
 | nil=>simp at h
 | cons b l ih =>
  rw[cZ0]
  rcases aJ0.1 h with rfl | h
  ·omega
  ·have:=ih h;omega
theorem Vm {pk:Int} {ks:List RT} {i:Nat} {t:RT} (h:ks[i]? =some t):DC pk (ks.take (i+1))=DC pk (ks.take i)++[Kp pk t.x.k (Dd t)]:=by
 rw[DE,DE,bF0,h,bA0];rfl
theorem Rt (pk:Int) (ks:List RT):(DC pk ks).length=ks.length:=by rw[DE,aL0]
theorem Pg (t:RT):(flat t)[0]? =some t.x:=by cases t;rfl
theorem Lo {ks:List RT} {t:RT} (h:t∈ks):(flat t).length<=(Ao ks).length:=by
 induction ks with
 | nil=>simp at h
 | cons u ks ih =>
  rw[AG,aD0]
  rcases aJ0.1 h with rfl | h
  ·omega
  ·have:=ih h;omega
def Oh : Ann:=⟨[],[⟨1,[3],[],[]⟩]⟩
theorem MS : ∀(n:Nat) (t:RT),(flat t).length=n->FX t=true->(flat t).length<=1572864->Ad prog 263 [BC (flat t)] (.str (Dd t)):=by
 intro n
 induction n using Nat.strongRecOn with
 | ind n ih =>
 intro t hn ht hs;obtain⟨x,ks⟩:=t;have kk:=eA x ks ht hs;obtain⟨hm,hkn,qY⟩:=CI ht;have qH:=(HW _ ht);have h0:=Pg (.mk x ks);have wN:0<(flat (.mk x ks)).length:=GZ _;have zN:(flat (.mk x ks)).length=(Ao ks).length+1:=by rw[Be,List.length_cons]
 have yJ:=Ft ks
 have nV:∀u∈ks,Ad prog 263 [BC (flat u)] (.str (Dd u)):=fun u hu=>by
  have:=Lo hu;exact ih (flat u).length (by omega) u rfl (QM qY u hu) (by omega)
 have hsj:=KY x.k ks qY
 have hparts:∀y∈DC x.k ks,1<=y.size/\y.size<=67108864:=fun y hy=>by
  refine⟨hsj.2 y hy,?_⟩;have:y.size+3<=((DC x.k ks).map fun y=>y.size+3).sum:=MG_ (aR0.2 ⟨y,hy,rfl⟩);omega
 have kj:=Fj_ (DC x.k ks) (NT x.k) (IE _) (by rw[Rt];omega) hparts;have kg:=Xg x.k;have rV:=Jq (DC x.k ks) (NT x.k) (IE _);have hgs:=Zh x.k;rw[QF];have jO:((DC x.k ks).map fun y=>y.size+3).sum<=37748736:=by omega
 clear ih hn qH;obtain⟨l,hl⟩:∃l,l=flat (.mk x ks):=⟨_,rfl⟩;rw[<-hl]at kk h0 wN |-;have vP:l[0]'wN=x:=(aB0.1 h0).2;have z0:(⟨#[]⟩:ByteArray).size=0:=rfl;have z1:(⟨#[37]⟩:ByteArray).size=1:=rfl;have z2:(⟨#[32]⟩:ByteArray).size=1:=rfl;have z3:(⟨#[32,124,32]⟩:ByteArray).size=3:=rfl;have z4:(⟨#[40]⟩:ByteArray).size=1:=rfl;have z5:(⟨#[41]⟩:ByteArray).size=1:=rfl;have m1:1<=maxLen:=by decide
 have m3:3<=maxLen:=by decide
 refine Ac [] Oh func263 call263 ntmps263 mxd (Aq @Oh.eq_1 results263) rfl (fun qJ B qX qQ=> ?_);clear qJ;simp only[Am];obtain⟨b,hb⟩:∃b,b=NT x.k:=⟨_,rfl⟩;have hbz:b=NT x.k:=hb;rw[<-hb]at kj |-;unfold NT at hb
 rcases OV hm with k | k | k | k | k | k | k | k
 ·exact Au (AA kk) Aa (ML @Cf.eq_1 h0 vP wN z0 z1 m1 k)
 ·exact Au (AA kk) Aa (ML @Cf.eq_1 h0 vP wN z0 z1 m1 k)
 ·exact Au (AA kk) Aa (ML @Cf.eq_1 h0 vP wN z0 z1 m1 k)
 all_goals
  have k1:¬x.k=1:=by omega
  have k2:¬(x.k=2\/x.k=3):=by omega
  rw[if_neg k1,if_neg k2];have wB:=hb;simp only[k]at wB
  try simp at wB
  (refine AM (AA kk) Aa (Pu @Cf.eq_1 h0 vP wN z0 z1 z2 z3 m1 m3 k) ?_;intros;refine Aj ?_)
  refine BY 5 50 9 1 16 (by simp[qX,results263,Oh]) (fun n=> ?_);refine Ak (X:={i:Nat//i<=ks.length}) (fun i=>⟨[(3,.ref [.int .i64 x.k,.str x.s,.int .i64 x.n]),(4,.str b),(5,.osl 50 1),(26,dTs ks),(27,.int .i64 ks.length),(28,.int .i64 i.1)],[⟨50,1,.row 9 1 16 ((DC x.k (ks.take i.1)).map Bh)⟩]⟩) (fun i=>ks.length-i.1) ⟨0,by omega⟩ (Sub.lit (by simp[k,wB,MQ])) ?_;clear hb wB k kk;rintro⟨i,hi⟩;simp only
  by_cases qV:i<ks.length
  ·obtain⟨u,hu,zH,hum⟩:=Aw qV;have ku:=nV u hum;have g0:=Pg u;have gl:0<(flat u).length:=GZ u;have vH:=HW u (QM qY u hum);have jT:=Lo hum;have wJ:=Vm (pk:=x.k) hu;have zD:Kp x.k u.x.k (Dd u)=if Hr_ x.k u.x.k then ⟨#[40]⟩++Dd u++⟨#[41]⟩else Dd u:=rfl
   unfold Hr_ at zD;obtain⟨m,dS⟩:∃m,m=flat u:=⟨_,rfl⟩;have cR:flat u=m:=dS.symm;rw[<-dS]at ku g0 gl vH jT;obtain⟨s,vS⟩:∃s,s=Dd u:=⟨_,rfl⟩;rw[<-vS]at ku vH zD wJ;have g0':m[0]'gl=u.x:=(aB0.1 g0).2;obtain⟨P,hP⟩:∃P,P=Kp x.k u.x.k s:=⟨_,rfl⟩;rw[<-hP]at zD wJ;have kY:(DC x.k (ks.take i)).length=i:=by rw[Rt,bE0];omega
   obtain⟨T,hT⟩:∃T,T=DC x.k (ks.take i):=⟨_,rfl⟩;rw[<-hT]at wJ kY |-;have y1:(i+1)*16<=150000000000000:=by omega
   have y2:i+1<=9223372036854775807:=by omega
   have y3:1+s.size<=maxLen:=by unfold maxLen;omega
   have y4:1+s.size+1<=maxLen:=by unfold maxLen;omega
   by_cases p5:u.x.k=5
   ·simp[p5]at zD
    (refine AM (AA ku) Aa (Aq (Gp @dT.eq_1 @Cf.eq_1 cR qV hu zH g0 g0' gl p5 y1 y2 y3 y4 z4 z5) (Ez m1 kY @aO0)) ?_;intros;refine Aj ?_)
    refine Al.mk ⟨i+1,by omega⟩ (Sub.lit (by simp[wJ,zD,Bh])) (by simp;omega)
    skip
   ·have p5':(u.x.k==5)=false:=by simpa using p5
    by_cases p4:u.x.k=4
    ·by_cases q5:x.k=5
     ·simp[p4,q5]at zD
      (refine AM (AA ku) Aa (Aq (Gp @dT.eq_1 @Cf.eq_1 cR qV hu zH g0 g0' gl p4 p5 p5' q5 y1 y2 y3) (JT y4 z4 z5 m1 kY @aO0)) ?_;intros;refine Aj ?_)
      have htk5:=wJ;rw[q5]at htk5;refine Al.mk ⟨i+1,by omega⟩ (Sub.lit (by simp[htk5,zD,Bh,q5])) (by simp;omega)
      skip
     ·have q5':(x.k==5)=false:=by simpa using q5
      simp[p4,q5]at zD
      (refine AM (AA ku) Aa (Aq (Gp @dT.eq_1 @Cf.eq_1 cR qV hu zH g0 g0' gl p4 p5 p5' q5 q5' y1 y2) (JB y3 y4 z4 z5 m1 kY @aO0)) ?_;intros;refine Aj ?_)
      refine Al.mk ⟨i+1,by omega⟩ (Sub.lit (by simp[wJ,zD,Bh])) (by simp;omega)
      skip
    ·have p4':(u.x.k==4)=false:=by simpa using p4
     simp[p4,p5]at zD
     (refine AM (AA ku) Aa (Aq (Gp @dT.eq_1 @Cf.eq_1 cR qV hu zH g0 g0' gl p4 p4' p5 p5' y1 y2 y3) (JT y4 z4 z5 m1 kY @aO0)) ?_;intros;refine Aj ?_)
     refine Al.mk ⟨i+1,by omega⟩ (Sub.lit (by simp[wJ,zD,Bh])) (by simp;omega)
     skip
  ·have qZ:i=ks.length:=by omega
   subst qZ;rw[aY0];obtain⟨J,hJ⟩:∃J,J=Gb (DC x.k ks) b:=⟨_,rfl⟩;have hJs:J.size<=37748736:=by rw[hJ];exact Nat.le_trans (Jq _ _ (by rw[hbz];exact IE _)) jO
   rw[<-hJ]at kj |-;have y5:J.size+(uN x.k).size<=maxLen:=by unfold maxLen;omega
   refine Hg (Sub.freezeL [50] _) ?_;simp[qX,results263,Oh];exact Au (Aq kj kg) Aa (AA y5)
def Dw (t:RT):Int:=if 16<JR t then 171 else if 2048<(Dd t).size then 174 else 0
def oZ : Ann:=⟨[],[]⟩
theorem TZ (t:RT) (ht:FX t=true) (hs:(flat t).length<=1572864):Ad prog 182 [BC (flat t)] (.int .i64 (Dw t)):=by
 refine Ac [] oZ func182 call182 ntmps182 mxd (Aq @oZ.eq_1 results182) rfl (fun qJ B qX qQ=> ?_);clear qJ;simp only[Am];have k1:=KE t ht hs;have k2:=MS _ t rfl ht hs;unfold Dw;obtain⟨T,hT⟩:∃T,T=Dd t:=⟨_,rfl⟩;rw[<-hT]at k2 |-
 by_cases c1:16<JR t
 ·have d1:(16:Int)<(JR t:Int):=by omega
  exact Au (Aq k1 k2) Aa (Aq c1 d1)
 ·have d1:¬(16:Int)<(JR t:Int):=by omega
  by_cases c2:2048<T.size
  ·have d2:(2048:Int)<(T.size:Int):=by omega
   exact Au (Aq k1 k2) Aa (EU c1 d1 c2 d2)
  ·have d2:¬(2048:Int)<(T.size:Int):=by omega
   exact Au (Aq k1 k2) Aa (EU c1 d1 c2 d2)
def IR : Ann:=⟨[],[]⟩
theorem NO (t:RT) (ht:FX t=true) (h:(flat t).length<=2048):Ad prog 101 [BC (flat t)] (.int .i64 (Dw t)):=by
 refine Ac [] IR func101 call101 ntmps101 mxd (Aq @IR.eq_1 results101) rfl (fun qJ B qX qQ=> ?_);clear qJ;simp only[Am];have k1:=Gf (flat t) (by omega);rw[Fj ht]at k1;have k2:=TZ t ht (by omega);have d1:¬(2048:Int)<((flat t).length:Int):=by omega
 have d2:¬2048<(flat t).length:=by omega
 exact Au (Aq k1 k2) Aa (Aq d1 d2)
theorem NP (l:List Nd) (h:2048<l.length):Ad prog 101 [BC l] (.int .i64 3):=by
 refine Ac [] IR func101 call101 ntmps101 mxd (Aq @IR.eq_1 results101) rfl (fun qJ B qX qQ=> ?_);clear qJ;simp only[Am];have d1:(2048:Int)<(l.length:Int):=by omega
 exact Au Aa Aa (Aq d1 h)
theorem iU (l:List Nd) (h:l.length<=2048) (hw:Dr l=false):Ad prog 101 [BC l] (.int .i64 170):=by
 refine Ac [] IR func101 call101 ntmps101 mxd (Aq @IR.eq_1 results101) rfl (fun qJ B qX qQ=> ?_);clear qJ;simp only[Am];have k1:=Gf l (by omega);rw[hw]at k1;have d1:¬(2048:Int)<(l.length:Int):=by omega
 have d2:¬2048<l.length:=by omega
 exact Au (AA k1) Aa (Aq d1 d2)
def Oi : Ann:=⟨[],[]⟩
theorem LZ (t:RT) (ht:FX t=true) (hs:(flat t).length<=1572864):Ad prog 232 [BC (flat t)] (.int .i64 (JR t)):=by
 refine Ac [] Oi func232 call232 ntmps232 mxd (Aq @Oi.eq_1 results232) rfl (fun qJ B qX qQ=> ?_);clear qJ;simp only[Am];have k1:=Gf (flat t) hs;rw[Fj ht]at k1;have k2:=KE t ht hs;exact Au (Aq k1 k2) Aa Aa
theorem Ye (l:List Nd) (hs:l.length<=1572864) (hw:Dr l=false):Ad prog 232 [BC l] (.int .i64 0):=by
 refine Ac [] Oi func232 call232 ntmps232 mxd (Aq @Oi.eq_1 results232) rfl (fun qJ B qX qQ=> ?_);clear qJ;simp only[Am];have k1:=Gf l hs;rw[hw]at k1;exact Au (AA k1) Aa Aa
structure At (l:List Nd) (p:Nat) (t:RT):Prop where
 ok:FX t=true
 le:p<=l.length
 eq:∃r,l.drop p=flat t++r
def CL (p:Nat) (ks:List RT) (i:Nat):Nat:=p+1+(Ao (ks.take i)).length
def Mw (n:Nat):List DVal:=[.int .i64 (n:Int)]
def aZ (p:Nat) (ks:List RT):DVal:= .sl 1 8 ((List.range ks.length).map fun i=>Mw (CL p ks i))
@[simp] theorem KC_ (n:Nat):AR (Mw n)=0:=by simp[Mw,AR,mx]
@[simp] theorem XO (p:Nat) (ks:List RT) (n:Nat):Bx ((List.range n).map fun i=>Mw (CL p ks i))=0:=Im (fun i=>Mw (CL p ks i)) (fun i=>KC_ _) _
theorem At.top {t:RT} (h:FX t=true):At (flat t) 0 t:=⟨h,by omega,[],by simp⟩
theorem At.kid {l:List Nd} {p:Nat} {x:Nd} {ks:List RT} (h:At l p (.mk x ks)) {i:Nat} {u:RT} (hu:ks[i]? =some u):At l (CL p ks i) u/\EY (l.drop (CL p ks i)) 1=some (l.drop (CL p ks (i+1)))/\CL p ks (i+1)<=l.length:=by
 obtain⟨qY,wY,r,hr⟩:=h;obtain⟨_,_,h3⟩:=CI qY;obtain⟨hi,rfl⟩:=aB0.1 hu;have qU:(l.drop p).length=1+(Ao ks).length+r.length:=by rw[hr,Be,aD0,List.length_cons];omega
 rw[bW0]at qU;have jE:=KH ks i;have hdr:=aW0 hi;have wT:=Ti (ks:=ks) hu;have zN:(Ao ks).length=(Ao (ks.take i)).length+((flat ks[i]).length+(Ao (ks.drop (i+1))).length):=by rw[jE,aD0,hdr,AG,aD0]
 have kE:l.drop (CL p ks i)=flat ks[i]++(Ao (ks.drop (i+1))++r):=by
  unfold CL;rw[dJ0,<-List.drop_drop,hr,Be,Nat.add_comm 1,List.cons_append,dY0,jE,aQ0,eO0 (Nat.le_refl _),cR0,List.nil_append,hdr,AG,aQ0]
 have hoku:FX ks[i]=true:=QM h3 _ (dG0 hi);refine⟨⟨hoku,by unfold CL;omega,_,kE⟩,?_,by unfold CL;omega⟩;rw[kE,Gx _ _ 0 hoku,Cw]
 congr 1
 have h5:CL p ks (i+1)=CL p ks i+(flat ks[i]).length:=by unfold CL;omega
 have h6:l.drop (CL p ks i+(flat ks[i]).length)=(l.drop (CL p ks i)).drop (flat ks[i]).length:=by rw[List.drop_drop]
 rw[h5,h6,kE,eO0 (Nat.le_refl _),cR0,List.nil_append]
theorem At.head {l:List Nd} {p:Nat} {t:RT} (h:At l p t):l[p]? =some t.x/\p<l.length/\p+(flat t).length<=l.length:=by
 obtain⟨qY,wY,r,hr⟩:=h;have h1:=GZ t;have h2:=congrArg List.length hr;rw[bW0,aD0]at h2;refine⟨?_,by omega,by omega⟩;have h3:(l.drop p)[0]? =some t.x:=by rw[hr,aZ0 (by omega)];exact Pg t
 rw[dD0]at h3;simpa using h3
def Ul : Ann:=⟨[],[]⟩
theorem PK (l:List Nd) (p:Nat) (x:Nd) (ks:List RT) (h:At l p (.mk x ks)) (hs:l.length<=1572864):Ad prog 205 [BC l,.int .i64 p] (aZ p ks):=by
 refine Ac [50] Ul func205 call205 ntmps205 mxd (Aq @Ul.eq_1 results205) rfl (fun qJ B qX qQ=> ?_) (hd:=(by simp[mx,aZ]));clear qJ;simp only[Am];obtain⟨hm,hn,qY⟩:=CI h.ok;obtain⟨g0,gl,ge⟩:=h.head;have g0':l[p]'gl=x:=(aB0.1 g0).2;have yJ:ks.length<=1572864:=by have:=Ft ks;rw[Be,List.length_cons]at ge;omega
 simp only[RT.x]at g0;unfold aZ
 (refine AM Aa Aa Aa ?_;intros;refine Aj ?_)
 refine BY 5 50 3 1 8 (by simp[qX,results205,Ul]) (fun n=> ?_);refine Ak (X:={i:Nat//i<=ks.length}) (fun i=>⟨[(0,BC l),(1,.int .i64 p),(5,.osl 50 1),(6,.int .i64 (CL p ks i.1)),(7,.int .i64 i.1)],[⟨50,1,.row 3 1 8 ((List.range i.1).map fun i=>Mw (CL p ks i))⟩]⟩) (fun i=>ks.length-i.1) ⟨0,by omega⟩ (Sub.lit (by simp[CL,Ao])) ?_;rintro⟨i,hi⟩;simp only
 by_cases qV:i<ks.length
 ·obtain⟨u,hu,zH,_⟩:=Aw qV;obtain⟨a1,a2,a3⟩:=h.kid hu;have e1:=PX l (CL p ks i) hs a1.le;unfold Aw_ at e1;rw[a2]at e1;simp only[bW0]at e1;have hq:(l.length:Int)-((l.length-CL p ks (i+1):Nat):Int)=(CL p ks (i+1):Int):=by omega
  rw[hq]at e1;have hr:(List.range (i+1)).map (fun i=>Mw (CL p ks i))=(List.range i).map (fun i=>Mw (CL p ks i))++[Mw (CL p ks i)]:=by rw[dF0,bA0];rfl
  have z1:(i+1)*8<=150000000000000:=by omega
  have z2:i+1<=9223372036854775807:=by omega
  obtain⟨q,hqq⟩:∃q,q=CL p ks i:=⟨_,rfl⟩;obtain⟨q',hqq'⟩:∃q',q'=CL p ks (i+1):=⟨_,rfl⟩;rw[<-hqq,<-hqq']at e1;rw[<-hqq]at hr |-;have fW:=XO p ks i;have kI:((List.range i).map fun i=>Mw (CL p ks i)).length=i:=by simp
  obtain⟨D,hD⟩:∃D,D=(List.range i).map fun i=>Mw (CL p ks i):=⟨_,rfl⟩
  rw[<-hD]at hr fW kI |-;have vB:(List.range (i+1)).map (fun i=>Mw (CL p ks i))=D++[[.int .i64 (q:Int)]]:=hr;clear hD hr
  (refine AM (AA e1) Aa (YC @Cf.eq_1 g0 g0' gl hn qV z1 z2 kI) ?_;intros;refine Aj ?_)
  refine Al.mk ⟨i+1,by omega⟩ (Sub.lit (by simp only[<-hqq',vB];simp[fW,BG])) (by simp;omega)
  skip
 ·have qZ:i=ks.length:=by omega
  subst qZ;exact Au Aa Aa (Ja @Cf.eq_1 g0 g0' gl hn)
theorem eF : ∀(a:List RT) (u:RT),UX (a++[u])=max (UX a) (JR u)
 | [],u=>by rw[List.nil_append,It,Nw];omega
 | t::a,u=>by rw[List.cons_append,It,eF a u,It];omega
theorem Ir_ {ks:List RT} {i:Nat} {u:RT} (h:ks[i]? =some u):UX (ks.take (i+1))=max (UX (ks.take i)) (JR u):=by
 rw[bF0,h];exact eF _ _
mutual
theorem MI_ : ∀t:RT,JR t<=(flat t).length
 | .mk x ks=>by rw[Yc,Be,List.length_cons];have:=Ai_ ks;omega
theorem Ai_ : ∀ts:List RT,UX ts<=(Ao ts).length
 | []=>by rw[Nw];omega
 | t::ts=>by rw[It,AG,aD0];have:=MI_ t;have:=Ai_ ts;omega
end
theorem UY (ks:List RT) (i:Nat):(Ao (ks.take i)).length<=(Ao ks).length:=by
 have:=congrArg List.length (KH ks i);rw[aD0]at this;omega
theorem aX {p:Nat} {ks:List RT} {i:Nat} (h:i<ks.length):((List.range ks.length).map fun i=>Mw (CL p ks i))[i]? =some [.int .i64 (CL p ks i:Int)]:=by
 rw[bN0,eQ0 h];rfl
def oR : Ann:=⟨[],[]⟩
theorem KD : ∀(n:Nat) (t:RT) (l:List Nd) (p:Nat),(flat t).length=n->At l p t->l.length<=1572864->Ad prog 204 [BC l,.int .i64 p] (.int .i64 (JR t)):=by
 intro n
 induction n using Nat.strongRecOn with
 | ind n ih =>
 intro t l p hn ht hs;obtain⟨x,ks⟩:=t;have kk:=PK l p x ks ht hs;obtain⟨g0,gl,ge⟩:=ht.head;have zN:(flat (.mk x ks)).length=(Ao ks).length+1:=by rw[Be,List.length_cons]
 have yJ:=Ft ks;have hk9:ks.length<=1572864:=by omega
 have nV:∀i u,ks[i]? =some u->Ad prog 204 [BC l,.int .i64 (CL p ks i)] (.int .i64 (JR u)):=fun i u hu=>by
  have hm:=Lo (bH0 hu);exact ih (flat u).length (by omega) u l _ rfl (ht.kid hu).1 hs
 have wC:∀i,i<ks.length->_:=fun i h=>aX (p:=p) (ks:=ks) (i:=i) h
 have hht:UX ks<=1572864:=by have:=Ai_ ks;omega
 rw[Yc];unfold aZ at kk;obtain⟨D,hD⟩:∃D,D=(List.range ks.length).map fun i=>Mw (CL p ks i):=⟨_,rfl⟩
 have kI:D.length=ks.length:=by rw[hD];simp
 have fW:Bx D=0:=by rw[hD];exact XO p ks _
 rw[<-hD]at kk wC;clear hD ih ht g0 gl ge hn;refine Ac [] oR func204 call204 ntmps204 mxd (Aq @oR.eq_1 results204) rfl (fun qJ B qX qQ=> ?_);clear qJ;simp only[Am]
 (refine AM (AA kk) Aa Aa ?_;intros;refine Aj ?_)
 refine Ak (X:={i:Nat//i<=ks.length}) (fun i=>⟨[(0,BC l),(5,.int .i64 (UX (ks.take i.1))),(6,.sl 1 8 D),(7,.int .i64 i.1)],[]⟩) (fun i=>ks.length-i.1) ⟨0,by omega⟩ (Sub.lit (by simp[Nw,fW])) ?_;rintro⟨i,hi⟩;simp only
 by_cases qV:i<ks.length
 ·obtain⟨u,hu,zH,_⟩:=Aw qV;have e1:=nV i u hu;have hr:=wC i qV;have wZ:i<D.length:=by omega
  have jQ:IntKind.i64.wrap ((i:Int)+1)=(i:Int)+1:=wq;have wL:D[i]'wZ=[.int .i64 (CL p ks i:Int)]:=(aB0.1 hr).2;have wJ:=Ir_ hu;obtain⟨a,ha⟩:∃a,a=UX (ks.take i):=⟨_,rfl⟩;obtain⟨c,vK⟩:∃c,c=JR u:=⟨_,rfl⟩;rw[<-ha,<-vK]at wJ;rw[<-vK]at e1;rw[<-ha];obtain⟨q,hq⟩:∃q,q=CL p ks i:=⟨_,rfl⟩;rw[<-hq]at e1 hr wL
  by_cases rZ:a<c
  ·have hgt':(a:Int)<(c:Int):=by omega
   have vF:((UX (ks.take (i+1)):Nat):Int)=(c:Int):=by omega
   (refine AM (AA e1) Aa (ML kI wZ jQ hr wL rZ hgt' qV) ?_;intros;refine Aj ?_)
   refine Al.mk ⟨i+1,by omega⟩ (Sub.lit (by simp only[vF];simp[fW])) (by simp;omega)
   skip
  ·have hgt':¬(a:Int)<(c:Int):=by omega
   have vF:((UX (ks.take (i+1)):Nat):Int)=(a:Int):=by omega
   (refine AM (AA e1) Aa (ML kI wZ jQ hr wL rZ hgt' qV) ?_;intros;refine Aj ?_)
   refine Al.mk ⟨i+1,by omega⟩ (Sub.lit (by simp only[vF];simp[fW])) (by simp;omega)
   skip
 ·have qZ:i=ks.length:=by omega
  subst qZ;rw[aY0];have q1:IntKind.i64.wrap ((UX ks:Int)+1)=(UX ks:Int)+1:=wq;exact Au Aa Aa (Aq kI q1)
theorem Hz_ {ks:List RT} (h:Gu ks=true) (i:Nat):Gu (ks.take i)=true:=by
 have:=QN (ks.take i) (ks.drop i);rw[List.take_append_drop,h]at this;simpa using (by simpa using this.symm:Gu (ks.take i)=true/\Gu (ks.drop i)=true).1
def LK (x:Nd) (ks:List RT) (i:Nat):ByteArray:=if i=0 then x.s else Gb (DC x.k (ks.take i)) (NT x.k)
theorem Pw (x:Nd) (ks:List RT):LK x ks 0=x.s:=rfl
theorem JH_ {x:Nd} {ks:List RT} {u:RT} (h:ks[0]? =some u):LK x ks 1=Kp x.k u.x.k (Dd u):=by
 unfold LK;rw[if_neg (by omega),show ks.take 1=[u] by rw[bF0,h];simp,Gr,MQ];rfl
theorem Gg_ {x:Nd} {ks:List RT} {i:Nat} {u:RT} (hi:0<i) (h:ks[i]? =some u):LK x ks (i+1)=LK x ks i++NT x.k++Kp x.k u.x.k (Dd u):=by
 unfold LK;rw[if_neg (by omega),if_neg (by omega),Vm h];obtain⟨hl,_⟩:=aB0.1 h
 have qC:DC x.k (ks.take i)≠[]:=fun e=>by
  have:=congrArg List.length e;rw[Rt,bE0]at this;simp only[List.length_nil]at this;omega
 cases hx:DC x.k (ks.take i)with
 | nil=>exact absurd hx qC
 | cons y r =>
  show (r++[_]).foldl (Dz (NT x.k)) y=_
  rw[cF0];rfl
theorem Gh_ {x:Nd} {ks:List RT} (qY:Gu ks=true) (hs:x.s.size<=16) (i:Nat):(LK x ks i).size<=16+24*(Ao ks).length:=by
 unfold LK
 split
 ·omega
 ·have h1:=Jq (DC x.k (ks.take i)) (NT x.k) (IE _);have h2:=(KY x.k (ks.take i) (Hz_ qY i)).1;have h3:=UY ks i;omega
theorem Lf_ {x:Nd} (h:Ei x=true) (h2:¬(x.k=2\/x.k=3)):x.s=⟨#[]⟩:=by
 unfold Ei uA at h;rw[if_neg (fun e=>h2 (.inl e)),if_neg (fun e=>h2 (.inr e))]at h
 repeat' split at h
 all_goals simp only[aM0,decide_eq_true_eq,aU0]at h
 all_goals first | exact h.1 | (exact absurd h (by simp))
theorem Vu (x:ByteArray):x++(⟨#[]⟩:ByteArray)=x:=by
 apply ID
 simp[ByteArray.data_append]
def oO : Ann:=⟨[],[]⟩
theorem PA : ∀(n:Nat) (t:RT) (l:List Nd) (p:Nat),(flat t).length=n->At l p t->l.length<=1572864->Ad prog 135 [BC l,.int .i64 p] (.str (Dd t)):=by
 intro n
 induction n using Nat.strongRecOn with
 | ind n ih =>
 intro t l p hn ht hs;obtain⟨x,ks⟩:=t;have kk:=PK l p x ks ht hs;obtain⟨hm,hkn,qY⟩:=CI ht.ok;obtain⟨g0,gl,ge⟩:=ht.head;simp only[RT.x]at g0;have g0':l[p]'gl=x:=(aB0.1 g0).2;have zN:(flat (.mk x ks)).length=(Ao ks).length+1:=by rw[Be,List.length_cons]
 have yJ:=Ft ks;have hk9:ks.length<=1572864:=by omega
 have nV:∀i u,ks[i]? =some u->Ad prog 135 [BC l,.int .i64 (CL p ks i)] (.str (Dd u))/\l[CL p ks i]? =some u.x/\(Dd u).size<=37748736:=fun i u hu=>by
  have hm:=Lo (bH0 hu);have hu2:=(ht.kid hu).1;have h3:=(HW u hu2.ok).2;exact⟨ih (flat u).length (by omega) u l _ rfl hu2 hs,hu2.head.1,by omega⟩
 have wC:∀i,i<ks.length->_:=fun i h=>aX (p:=p) (ks:=ks) (i:=i) h
 have hacs:=Gh_ (x:=x) qY (OT hm);have mT:=OT hm;have jO:16+24*(Ao ks).length<=37748756:=by omega
 rw[QF];unfold aZ at kk;obtain⟨D,hD⟩:∃D,D=(List.range ks.length).map fun i=>Mw (CL p ks i):=⟨_,rfl⟩
 have kI:D.length=ks.length:=by rw[hD];simp
 have fW:Bx D=0:=by rw[hD];exact XO p ks _
 rw[<-hD]at kk wC;have h6:x.k=6\/x.k=7\/x.k=8->ks.length=1:=fun h=>by obtain⟨u,rfl⟩:=BT_ ht.ok h;rfl
 have h8:¬x.k=1->¬(x.k=2\/x.k=3)->¬x.k=5->x.k=4\/x.k=6\/x.k=7\/x.k=8:=fun a b c=>by have:=OV hm;omega
 have hlf:x.k=2\/x.k=3->ks.length=0:=fun h=>by rw[SK ht.ok h];rfl
 have kW:¬x.k=1->¬(x.k=2\/x.k=3)->1<=ks.length:=fun a b=>by have:=OU hm a b;omega
 have hemp:¬(x.k=2\/x.k=3)->x.s=⟨#[]⟩:=Lf_ hm;clear hD ih ht ge hn qY hm;have z0:(⟨#[]⟩:ByteArray).size=0:=rfl;have z1:(⟨#[37]⟩:ByteArray).size=1:=rfl;have z2:(⟨#[32]⟩:ByteArray).size=1:=rfl;have z3:(⟨#[32,124,32]⟩:ByteArray).size=3:=rfl;have z4:(⟨#[40]⟩:ByteArray).size=1:=rfl;have z5:(⟨#[41]⟩:ByteArray).size=1:=rfl;have z6:(⟨#[42]⟩:ByteArray).size=1:=rfl;have z7:(⟨#[43]⟩:ByteArray).size=1:=rfl;have z8:(⟨#[63]⟩:ByteArray).size=1:=rfl
 have m1:1<=maxLen:=by decide
 have m3:3<=maxLen:=by decide
 have mbig:100000000<=maxLen:=by decide
 refine Ac [] oO func135 call135 ntmps135 mxd (Aq @oO.eq_1 results135) rfl (fun qJ B qX qQ=> ?_);clear qJ;simp only[Am]
 by_cases k1:x.k=1
 ·rw[if_pos k1];exact Au Aa Aa (JB @Cf.eq_1 g0 g0' gl z1 m1 k1)
 rw[if_neg k1];obtain⟨R,hR⟩:∃R,R=(if x.k=2\/x.k=3 then x.s else Gb (DC x.k ks) (NT x.k)++uN x.k):=⟨_,rfl⟩;rw[<-hR];have k1':(x.k==1)=false:=by simpa using k1
 (refine AM (AA kk) Aa (JT @Cf.eq_1 g0 g0' gl k1 k1') ?_;intros;refine Aj ?_)
 refine Ak (X:={i:Nat//i<=ks.length}) (fun i=>⟨[(0,BC l),(5,.int .i64 x.k),(6,.str (LK x ks i.1)),(7,.sl 1 8 D),(8,.int .i64 i.1)],[]⟩) (fun i=>ks.length-i.1) ⟨0,by omega⟩ (Sub.lit (by simp[Pw,fW])) ?_;rintro⟨i,hi⟩;simp only
 by_cases qV:i<ks.length
 ·have k2:¬(x.k=2\/x.k=3):=fun h=>by have:=hlf h;omega
  have hx0:=hemp k2;obtain⟨u,hu,zH,_⟩:=Aw qV;obtain⟨e1,gu,vH⟩:=nV i u hu;have hr:=wC i qV;have wZ:i<D.length:=by omega
  have jQ:IntKind.i64.wrap ((i:Int)+1)=(i:Int)+1:=wq;have wL:D[i]'wZ=[.int .i64 (CL p ks i:Int)]:=(aB0.1 hr).2;have hac:=hacs i;obtain⟨q,hq⟩:∃q,q=CL p ks i:=⟨_,rfl⟩;rw[<-hq]at e1 hr wL gu;have gq:q<l.length:=(aB0.1 gu).1;have gu':l[q]'gq=u.x:=(aB0.1 gu).2;have zD:Kp x.k u.x.k (Dd u)=if Hr_ x.k u.x.k then ⟨#[40]⟩++Dd u++⟨#[41]⟩else Dd u:=rfl
  have wT:LK x ks (i+1)=(if i=0 then ⟨#[]⟩else LK x ks i++NT x.k)++Kp x.k u.x.k (Dd u):=by
   by_cases h0:i=0
   ·subst h0;rw[if_pos rfl,MW];exact JH_ hu
   ·rw[if_neg h0];exact Gg_ (by omega) hu
  have hz:i=0->LK x ks i=⟨#[]⟩:=fun h=>by rw[h,Pw,hx0]
  obtain⟨s,vS⟩:∃s,s=Dd u:=⟨_,rfl⟩;rw[<-vS]at e1 vH zD wT;obtain⟨P,hP⟩:∃P,P=Kp x.k u.x.k s:=⟨_,rfl⟩;rw[<-hP]at zD wT;obtain⟨a,ha⟩:∃a,a=LK x ks i:=⟨_,rfl⟩;rw[<-ha]at hac wT hz |-;have y3:1+s.size<=maxLen:=by omega
  have y4:1+s.size+1<=maxLen:=by omega
  have y5:a.size+3<=maxLen:=by omega
  have y6:a.size+1<=maxLen:=by omega
  have y7:a.size+P.size<=maxLen:=by
   have:=(Lh x.k u.x.k s).2;rw[<-hP]at this;omega
  have y8:a.size+3+P.size<=maxLen:=by
   have:=(Lh x.k u.x.k s).2;rw[<-hP]at this;omega
  have y9:a.size+1+P.size<=maxLen:=by omega
  unfold Hr_ at zD;clear vS ha hP;unfold NT at wT
  by_cases h0:i=0
  ·have wV:¬(0:Int)<(i:Int):=by omega
   rw[if_pos h0,MW]at wT;have ha0:=hz h0;subst ha0;have w1:⟨#[]⟩++P=P:=MW P;have y7':P.size<=maxLen:=by omega
   by_cases p5:u.x.k=5
   ·simp[p5]at zD;subst zD;simp only[aO0,z4,z5]at y7'
    (refine AM (AA e1) Aa (Aq (Gp @Cf.eq_1 gu gu' gq wZ kI jQ hr wL qV wV p5 z0 z4 z5 m1) (Ja y3 y4 y7' w1 @aO0)) ?_;intros;refine Aj ?_)
    refine Al.mk ⟨i+1,by omega⟩ (Sub.lit (by simp[wT,fW])) (by simp;omega)
    skip
   ·have p5':(u.x.k==5)=false:=by simpa using p5
    by_cases p4:u.x.k=4
    ·by_cases q5:x.k=5
     ·simp[p4,q5]at zD;subst zD
      (refine AM (AA e1) Aa (Aq (Gp @Cf.eq_1 gu gu' gq wZ kI jQ hr wL qV wV p4 p5 p5' q5 z0) (ML z4 z5 m1 y3 y4 y7' w1 @aO0)) ?_;intros;refine Aj ?_)
      refine Al.mk ⟨i+1,by omega⟩ (Sub.lit (by simp[wT,fW,q5])) (by simp;omega)
      skip
     ·have q5':(x.k==5)=false:=by simpa using q5
      simp[p4,q5]at zD;subst zD;simp only[aO0,z4,z5]at y7'
      (refine AM (AA e1) Aa (Aq (Gp @Cf.eq_1 gu gu' gq wZ kI jQ hr wL qV wV p4 p5 p5' q5 q5') (YC z0 z4 z5 m1 y3 y4 y7' w1 @aO0)) ?_;intros;refine Aj ?_)
      refine Al.mk ⟨i+1,by omega⟩ (Sub.lit (by simp[wT,fW])) (by simp;omega)
      skip
    ·have p4':(u.x.k==4)=false:=by simpa using p4
     simp[p4,p5]at zD;subst zD
     (refine AM (AA e1) Aa (Aq (Gp @Cf.eq_1 gu gu' gq wZ kI jQ hr wL qV wV p4 p4' p5 p5' z0) (ML z4 z5 m1 y3 y4 y7' w1 @aO0)) ?_;intros;refine Aj ?_)
     refine Al.mk ⟨i+1,by omega⟩ (Sub.lit (by simp[wT,fW])) (by simp;omega)
     skip
  ·have wV:(0:Int)<(i:Int):=by omega
   rw[if_neg h0]at wT;clear hz
   by_cases q5:x.k=5
   ·rw[if_pos q5]at wT;have q4':(x.k==4)=false:=by simp[q5]
    by_cases p5:u.x.k=5
    ·simp[p5]at zD;subst zD;simp only[aO0,z4,z5]at y8
     (refine go2 (AA e1) Aa (Aq (Gp @Cf.eq_1 gu gu' gq wZ kI jQ hr wL qV wV p5 q5 q4' z0 z3) (YC z4 z5 m1 m3 y3 y4 y5 y8 @aO0)) ?_ ?_<;>(intros;refine Aj ?_))
     refine Al.mk ⟨i+1,by omega⟩ (Sub.lit (by simp[wT,fW,q5])) (by simp;omega);exact Au (AA e1) Aa Aa
    ·have p5':(u.x.k==5)=false:=by simpa using p5
     simp[p5,q5]at zD;subst zD
     by_cases p4:u.x.k=4
     ·(refine go2 (AA e1) Aa (Aq (Gp @Cf.eq_1 gu gu' gq wZ kI jQ hr wL qV wV p5 p5' p4 q5 q4') (Pu z0 z3 z4 z5 m1 m3 y3 y4 y5 y8 @aO0)) ?_ ?_<;>(intros;refine Aj ?_))
      refine Al.mk ⟨i+1,by omega⟩ (Sub.lit (by simp[wT,fW,q5])) (by simp;omega);exact Au (AA e1) Aa Aa
     ·have p4':(u.x.k==4)=false:=by simpa using p4
      (refine go2 (AA e1) Aa (Aq (Gp @Cf.eq_1 gu gu' gq wZ kI jQ hr wL qV wV p5 p5' p4 p4' q5) (Be_ q4' z0 z3 z4 z5 m1 m3 y3 y4 y5 y8 @aO0)) ?_ ?_<;>(intros;refine Aj ?_))
      refine Al.mk ⟨i+1,by omega⟩ (Sub.lit (by simp[wT,fW,q5])) (by simp;omega);exact Au (AA e1) Aa Aa
   ·have q5':(x.k==5)=false:=by simpa using q5
    have q4:x.k=4:=by
     rcases (show x.k=4\/x.k=6\/x.k=7\/x.k=8 from h8 k1 k2 q5)with h | h
     ·exact h
     ·have:=h6 h;omega
    rw[if_neg q5,if_pos q4]at wT
    by_cases p5:u.x.k=5
    ·simp[p5]at zD;subst zD;simp only[aO0,z4,z5]at y9
     (refine go2 (AA e1) Aa (Aq (Gp @Cf.eq_1 gu gu' gq wZ kI jQ hr wL qV wV p5 q5 q5' q4 z0) (YC z2 z4 z5 m1 y3 y4 y6 y9 @aO0)) ?_ ?_<;>(intros;refine Aj ?_))
     refine Al.mk ⟨i+1,by omega⟩ (Sub.lit (by simp[wT,fW,q4])) (by simp;omega);exact Au (AA e1) Aa Aa
    ·have p5':(u.x.k==5)=false:=by simpa using p5
     by_cases p4:u.x.k=4
     ·simp[p4,q5]at zD;subst zD;simp only[aO0,z4,z5]at y9
      (refine go2 (AA e1) Aa (Aq (Gp @Cf.eq_1 gu gu' gq wZ kI jQ hr wL qV wV p4 p5 p5' q5 q5') (Pu q4 z0 z2 z4 z5 m1 y3 y4 y6 y9 @aO0)) ?_ ?_<;>(intros;refine Aj ?_))
      refine Al.mk ⟨i+1,by omega⟩ (Sub.lit (by simp[wT,fW,q4])) (by simp;omega);exact Au (AA e1) Aa Aa
     ·have p4':(u.x.k==4)=false:=by simpa using p4
      simp[p4,p5]at zD;subst zD
      (refine go2 (AA e1) Aa (Aq (Gp @Cf.eq_1 gu gu' gq wZ kI jQ hr wL qV wV p4 p4' p5 p5' q5) (Be_ q5' q4 z0 z2 z4 z5 m1 y3 y4 y6 y9 @aO0)) ?_ ?_<;>(intros;refine Aj ?_))
      refine Al.mk ⟨i+1,by omega⟩ (Sub.lit (by simp[wT,fW,q4])) (by simp;omega);exact Au (AA e1) Aa Aa
 ·have qZ:i=ks.length:=by omega
  subst qZ;have hac:=hacs ks.length
  have vX:(if x.k=2\/x.k=3 then x.s else Gb (DC x.k ks) (NT x.k)++uN x.k)=LK x ks ks.length++uN x.k:=by
   by_cases k2:x.k=2\/x.k=3
   ·rw[if_pos k2,hlf k2,Pw];have:uN x.k=⟨#[]⟩:=by unfold uN;rw[if_neg (by omega),if_neg (by omega),if_neg (by omega)]
    rw[this,Vu]
   ·rw[if_neg k2];unfold LK;rw[if_neg (by have:=kW k1 k2;omega),aY0]
  rw[vX]at hR;clear vX;obtain⟨a,ha⟩:∃a,a=LK x ks ks.length:=⟨_,rfl⟩;rw[<-ha]at hac hR |-;have y6:a.size+1<=maxLen:=by omega
  have y0:a.size<=maxLen:=by omega
  unfold uN at hR
  by_cases j6:x.k=6
  ·rw[if_pos j6]at hR;subst hR;exact Au Aa Aa (JB kI j6 z6 y6 y0 m1 @aO0)
  ·have j6':(x.k==6)=false:=by simpa using j6
   by_cases j7:x.k=7
   ·rw[if_neg j6,if_pos j7]at hR;subst hR;exact Au Aa Aa (YC kI j6 j6' j7 z7 y6 y0 m1 @aO0)
   ·have j7':(x.k==7)=false:=by simpa using j7
    by_cases j8:x.k=8
    ·rw[if_neg j6,if_neg j7,if_pos j8]at hR;subst hR;exact Au Aa Aa (Pu kI j6 j6' j7 j7' j8 z8 y6 y0 m1 @aO0)
    ·have j8':(x.k==8)=false:=by simpa using j8
     rw[if_neg j6,if_neg j7,if_neg j8,Vu]at hR;subst hR;exact Au Aa Aa (MM kI j6 j6' j7 j7' j8 j8' y6 y0 m1)
def oN : Ann:=⟨[],[]⟩
theorem TY (t:RT) (ht:FX t=true) (hs:(flat t).length<=1572864):Ad prog 295 [BC (flat t)] (.int .i64 (Dw t)):=by
 refine Ac [] oN func295 call295 ntmps295 mxd (Aq @oN.eq_1 results295) rfl (fun qJ B qX qQ=> ?_);clear qJ;simp only[Am];have k1:=KD _ t (flat t) 0 rfl (At.top ht) hs;have k2:=PA _ t (flat t) 0 rfl (At.top ht) hs;unfold Dw;obtain⟨T,hT⟩:∃T,T=Dd t:=⟨_,rfl⟩;rw[<-hT]at k2 |-
 by_cases c1:16<JR t
 ·have d1:(16:Int)<(JR t:Int):=by omega
  exact Au (Aq k1 k2) Aa (Aq c1 d1)
 ·have d1:¬(16:Int)<(JR t:Int):=by omega
  by_cases c2:2048<T.size
  ·have d2:(2048:Int)<(T.size:Int):=by omega
   exact Au (Aq k1 k2) Aa (EU c1 d1 c2 d2)
  ·have d2:¬(2048:Int)<(T.size:Int):=by omega
   exact Au (Aq k1 k2) Aa (EU c1 d1 c2 d2)
def IP : Ann:=⟨[],[]⟩
theorem Sl (t:RT) (ht:FX t=true) (h:(flat t).length<=2048):Ad prog 207 [BC (flat t)] (.int .i64 (Dw t)):=by
 refine Ac [] IP func207 call207 ntmps207 mxd (Aq @IP.eq_1 results207) rfl (fun qJ B qX qQ=> ?_);clear qJ;simp only[Am];have k1:=EN (flat t) (by omega);rw[Fj ht]at k1;have k2:=TY t ht (by omega);have d1:¬(2048:Int)<((flat t).length:Int):=by omega
 have d2:¬2048<(flat t).length:=by omega
 exact Au (Aq k1 k2) Aa (Aq d1 d2)
theorem Sm (l:List Nd) (h:2048<l.length):Ad prog 207 [BC l] (.int .i64 3):=by
 refine Ac [] IP func207 call207 ntmps207 mxd (Aq @IP.eq_1 results207) rfl (fun qJ B qX qQ=> ?_);clear qJ;simp only[Am];have d1:(2048:Int)<(l.length:Int):=by omega
 exact Au Aa Aa (Aq d1 h)
theorem UJ (l:List Nd) (h:l.length<=2048) (hw:Dr l=false):Ad prog 207 [BC l] (.int .i64 170):=by
 refine Ac [] IP func207 call207 ntmps207 mxd (Aq @IP.eq_1 results207) rfl (fun qJ B qX qQ=> ?_);clear qJ;simp only[Am];have k1:=EN l (by omega);rw[hw]at k1;have d1:¬(2048:Int)<(l.length:Int):=by omega
 have d2:¬2048<l.length:=by omega
 exact Au (AA k1) Aa (Aq d1 d2)
def oP : Ann:=⟨[],[]⟩
theorem Qi (t:RT) (ht:FX t=true) (hs:(flat t).length<=1572864):Ad prog 134 [BC (flat t)] (.int .i64 (JR t)):=by
 refine Ac [] oP func134 call134 ntmps134 mxd (Aq @oP.eq_1 results134) rfl (fun qJ B qX qQ=> ?_);clear qJ;simp only[Am];have k1:=EN (flat t) hs;rw[Fj ht]at k1;have k2:=KD _ t (flat t) 0 rfl (At.top ht) hs;exact Au (Aq k1 k2) Aa Aa
def BD (n:Nat):List DVal:=[.int .i64 (n:Int)]
@[simp] theorem KB_ (n:Nat):AR (BD n)=0:=by simp[BD,AR,mx]
abbrev En (l:List Nat):DVal:= .sl 1 8 (l.map BD)
@[simp] theorem Oo_ (l:List Nat):Bx (l.map BD)=0:=Im _ KB_ l
theorem Mp_ (l:List Nd) (n:Nat):(UN l n).length<=n:=by unfold UN;exact Nat.le_trans (cU0 _ _) (by simp)
def Uk : Ann:=⟨[],[]⟩
theorem UM (l:List Nd):Ad prog 140 [BC l] (En (UN l l.length)):=by
 refine Ac [50] Uk func140 call140 ntmps140 mxd (Aq @Uk.eq_1 results140) rfl (fun qJ B qX qQ=> ?_);have hs:l.length*32<=150000000000000:=by have:=qJ.1;simp only[EI,aL0]at this;exact this.1
 clear qJ;simp only[Am]
 (refine AM Aa Aa Aa ?_;intros;refine Aj ?_)
 refine BY 3 50 3 1 8 (by simp[qX,results140,Uk]) (fun n=> ?_);refine Ak (X:={i:Nat//i<=l.length}) (fun i=>⟨[(0,BC l),(3,.osl 50 1),(4,.int .i64 i.1)],[⟨50,1,.row 3 1 8 ((UN l i.1).map BD)⟩]⟩) (fun i=>l.length-i.1) ⟨0,by omega⟩ (Sub.lit (by simp[Ho_])) ?_;rintro⟨i,hi⟩;simp only
 by_cases qV:i<l.length
 ·obtain⟨x,hx,qG,_⟩:=Aw qV;have hsc:=ZH hx;have wY:=Mp_ l i;obtain⟨T,hT⟩:∃T,T=UN l i:=⟨_,rfl⟩;rw[<-hT]at hsc wY |-;have z1:(T.length+1)*8<=150000000000000:=by omega
  have z2:T.length+1<=9223372036854775807:=by omega
  by_cases ho:CC x=true
  ·rw[if_pos ho]at hsc;have hd:(T.map BD)++[[.int .i64 (i:Int)]]=(UN l (i+1)).map BD:=by rw[hsc,bA0];rfl
   rcases DP.1 ho with k | k
   ·(refine AM Aa Aa (JB @Cf.eq_1 qV hx qG k z1 z2) ?_;intros;refine Aj ?_)
    refine Al.mk ⟨i+1,by omega⟩ (Sub.lit (by simp[hd])) (by simp;omega)
    skip
   ·(refine AM Aa Aa (JB @Cf.eq_1 qV hx qG k z1 z2) ?_;intros;refine Aj ?_)
    refine Al.mk ⟨i+1,by omega⟩ (Sub.lit (by simp[hd])) (by simp;omega)
    skip
  ·rw[if_neg ho,bR0]at hsc;have k2:¬x.k=2:=fun e=>ho (DP.2 (.inl e))
   have k3:¬x.k=3:=fun e=>ho (DP.2 (.inr e))
   have k2':(x.k==2)=false:=by simpa using k2
   have k3':(x.k==3)=false:=by simpa using k3
   (refine AM Aa Aa (ML @Cf.eq_1 qV hx qG k2 k2' k3 k3') ?_;intros;refine Aj ?_)
   refine Al.mk ⟨i+1,by omega⟩ (Sub.lit (by simp[hsc])) (by simp;omega)
   skip
 ·have qZ:i=l.length:=by omega
  subst qZ;exact Au Aa Aa Aa
def oQ : Ann:=⟨[],[]⟩
theorem Xm (l:List Nd):Ad prog 133 [BC l] (.int .i64 (GM l)):=by
 refine Ac [] oQ func133 call133 ntmps133 mxd (Aq @oQ.eq_1 results133) rfl (fun qJ B qX qQ=> ?_);clear qJ;simp only[Am];have k1:=UM l;have h1:(UN l l.length).length=GM l:=by rw[Xy (Nat.le_refl _),Nm,Lg]
 exact Au (AA k1) Aa (AA h1)
end Go.Proofs.Wy
end
section
namespace Go.Proofs.Wy
open Go Go.Dm Tryz
variable [DMode]
theorem OF_ : OrdC OG:=by
 refine⟨fun _ _=>Ei_,fun x y=> ?_,fun x y z h1 h2=> ?_⟩
 ·rw[GC];unfold OG;cases h1:CV x y
  ·cases h2:CV y x<;>simp
  ·rw[RL h1];simp
 ·rw[GC]at *;exact Kd h1 h2
end Go.Proofs.Wy
end
section
namespace Go.Proofs.Wy
open Go Go.Dm Tryz
variable [DMode]
attribute [local irreducible] DW Bi Bk
set_option maxRecDepth 100000
def Uh : Ann:=⟨[],[⟨5,[6],[],[]⟩,⟨7,[22],[],[]⟩]⟩
theorem SY (k:Int) (s:ByteArray):Ad prog 262 [.sl 3 32 [Ce k s 0]] (.int .i64 1):=by
 refine Ac [] Uh func262 call262 ntmps262 mxd (Aq @Uh.eq_1 results262) rfl (fun qJ B qX qQ=> ?_);clear qJ;simp only[Am]
 (refine AM Aa Aa (AA @Ce.eq_1) ?_;intros;refine Aj ?_)
 refine Ak (X:=Bool) (fun x=>⟨[(0,.sl 3 32 [Ce k s 0]),(3,.int .i64 (if x then 1 else 0)),(4,if x then .sl 1 8 []else .nilsl),(7,.sl 3 32 [Ce k s 0]),(8,.int .i64 1),(9,.int .i64 (if x then 1 else 0))],[]⟩) (fun x=>if x then 0 else 1) false (Sub.lit (by simp[Ce])) ?_;rintro (_ | _)
 ·(refine AM Aa Aa (AA @Ce.eq_1) ?_;intros;refine Aj ?_)
  refine Ak (X:=Bool) (fun x=>⟨[(0,.sl 3 32 [Ce k s 0]),(3,.int .i64 1),(4,if x then .sl 1 8 []else .sl 1 8 [[.int .i64 0]]),(7,.sl 3 32 [Ce k s 0]),(8,.int .i64 1),(9,.int .i64 0)],[]⟩) (fun x=>if x then 0 else 1) false (Sub.lit (by simp[Ce])) ?_;rintro (_ | _)
  ·(refine AM Aa Aa (AA @Ce.eq_1) ?_;intros;refine Aj ?_)
   simp[qX,results262,Uh,Ce]
   (refine AM Aa Aa (AA @Ce.eq_1) ?_;intros;refine Aj ?_)
   refine Al.mk true (Sub.lit (by simp[Ce])) (by simp)
   skip
  ·(refine AM Aa Aa (AA @Ce.eq_1) ?_;intros;refine Aj ?_)
   refine Al.mk true (Sub.lit (by simp[Ce])) (by simp)
   skip
 ·exact Au Aa Aa (AA @Ce.eq_1)
def lF : Ann:=⟨[],[⟨1,[3],[],[]⟩]⟩
theorem WX (k:Int) (hk:k=2\/k=3) (s:ByteArray):Ad prog 263 [.sl 3 32 [Ce k s 0]] (.str s):=by
 refine Ac [] lF func263 call263 ntmps263 mxd (Aq @lF.eq_1 results263) rfl (fun qJ B qX qQ=> ?_);clear qJ;simp only[Am]
 rcases hk with rfl | rfl
 ·exact Au Aa Aa (AA @Ce.eq_1)
 ·exact Au Aa Aa (AA @Ce.eq_1)
def lG : Ann:=⟨[],[]⟩
theorem Qw (k:Int) (hk:k=2\/k=3) (s:ByteArray) (hs:s.size<=16):Ad prog 182 [.sl 3 32 [Ce k s 0]] (.int .i64 0):=by
 refine Ac [] lG func182 call182 ntmps182 mxd (Aq @lG.eq_1 results182) rfl (fun qJ B qX qQ=> ?_);clear qJ;simp only[Am];have e1:=SY k s;have e2:=WX k hk s;have g1:¬(2048:Int)<s.size:=by omega
 exact Au (Aq e1 e2) Aa (AA g1)
theorem GE_ {k:Int} {s:ByteArray} (h:DD k s=true):s.size<=16:=by
 unfold DD at h
 split at h<;>(simp only[Cb,aM0,decide_eq_true_eq]at h;exact h.1.1.2)
def lH : Ann:=⟨[],[]⟩
theorem Vc (k:Int) (hk:k=2\/k=3) (s:ByteArray):Ad prog 101 [.sl 3 32 [Ce k s 0]] (.int .i64 (if DD k s then 0 else 170)):=by
 refine Ac [] lH func101 call101 ntmps101 mxd (Aq @lH.eq_1 results101) rfl (fun qJ B qX qQ=> ?_);clear qJ;simp only[Am];have e1:=Uz k hk s;cases hT:DD k s
 ·rw[hT]at e1;exact Au (AA e1) Aa Aa
 ·rw[hT]at e1;have e2:=Qw k hk s (GE_ hT);exact Au (Aq e1 e2) Aa Aa

def sU : Ann:=⟨[],[]⟩
theorem SV (l:List ByteArray) (s:ByteArray):Ad prog 131 [Bg l,.str s] (.bool (decide (s∈l))):=by
 refine Ac [] sU func131 call131 ntmps131 mxd (Aq @sU.eq_1 results131) rfl (fun qJ B qX qQ=> ?_);have qU:=aQ qJ.1;clear qJ;simp only[Am];obtain⟨R,hR⟩:∃R,R=decide (s∈l):=⟨_,rfl⟩;rw[<-hR]
 (refine AM Aa Aa Aa ?_;intros;refine Aj ?_)
 refine Ak (X:={k:Nat//k<=l.length/\R=decide (s∈l.drop k)}) (fun x=>⟨[(0,Bg l),(1,.str s),(5,.int .i64 x.1)],[]⟩) (fun x=>l.length-x.1) ⟨0,by simp[hR]⟩ (Sub.lit (by simp)) ?_;clear hR;rintro⟨k,hk,hR⟩
 by_cases qV:k<l.length
 ·obtain⟨x,hx,qG,vN⟩:=Aw qV;rw[aW0 qV,qG]at hR;cases hb:x==s
  ·have qC:¬s=x:=fun e=>by subst e;simp at hb
   have vY:R=decide (s∈l.drop (k+1)):=by rw[hR];simp[qC]
   (refine AM Aa Aa (Ja @Bh.eq_1 qV qG hx hb) ?_;intros;refine Aj ?_)
   exact Al.mk ⟨k+1,by omega,vY⟩ (Sub.lit (by simp[])) (by simp;omega)
   skip
  ·have he:s=x:=by simp at hb;exact hb.symm
   have vY:R=true:=by rw[hR,he];simp
   subst vY;exact Au Aa Aa (Ja @Bh.eq_1 qV qG hx hb)
 ·have qZ:k=l.length:=by omega
  subst qZ;rw[cR0]at hR;have vY:R=false:=by rw[hR];simp
  subst vY;exact Au Aa Aa Aa
theorem Iq_ (l:List ByteArray) (s:ByteArray):AS prog (.func 131) [.osl 0 0,.str s] [⟨0,0,.row 9 1 16 (l.map Bh)⟩] (.bool (decide (s∈l))) [⟨0,0,.row 9 1 16 (l.map Bh)⟩] :=
 Uw rfl (SV l s)
def YA : Ann:=⟨[17],[]⟩
theorem LR (g:List Rul):Ad prog 45 [AD g] (Bg (AB g)):=by
 refine Ac [3] YA func45 call45 ntmps45 mxd (Aq @YA.eq_1 results45) rfl (fun qJ B qX qQ=> ?_);have hs:g.length*40<=150000000000000:=by have:=qJ.1;simp only[EI,aL0]at this;exact this.1
 clear qJ;simp only[Am]
 (refine AM Aa Aa Aa ?_;intros;refine Aj ?_)
 refine BY 3 3 9 1 16 (by simp[qX,results45,YA]) (fun n=> ?_);refine Ak (X:={i:Nat//i<=g.length}) (fun i=>⟨[(0,AD g),(3,.osl 3 1),(4,.int .i64 i.1)],[⟨3,1,.row 9 1 16 ((AB (g.take i.1)).map Bh)⟩]⟩) (fun i=>g.length-i.1) ⟨0,by omega⟩ (Sub.lit (by simp[AB])) ?_;rintro⟨i,hi⟩;simp only
 by_cases qV:i<g.length
 ·obtain⟨r,hr,wL,dL⟩:=Aw qV;have wJ:=PN hr;have hl:=Jr (g.take i);rw[bE0]at hl;obtain⟨T,hT⟩:∃T,T=AB (g.take i):=⟨_,rfl⟩;rw[<-hT]at wJ hl |-;have e1:=Iq_ T r.h;have z1:(T.length+1)*16<=150000000000000:=by omega
  have z2:T.length+1<=9223372036854775807:=by omega
  unfold Iu at wJ
  by_cases hm:r.h∈T
  ·rw[if_pos hm]at wJ;rw[decide_eq_true hm]at e1
   (refine AM Aa (AA (Ee [(3,0)] [] e1)) (EU @BX.eq_1 qV hr wL) ?_;intros;refine Aj ?_)
   refine Al.mk ⟨i+1,by omega⟩ (Sub.lit (by simp[wJ])) (by simp;omega)
   skip
  ·rw[if_neg hm]at wJ;rw[decide_eq_false hm]at e1
   (refine AM Aa (AA (Ee [(3,0)] [] e1)) (JT @BX.eq_1 qV hr wL z1 z2) ?_;intros;refine Aj ?_)
   refine Al.mk ⟨i+1,by omega⟩ (Sub.lit (by simp[wJ,Bh])) (by simp;omega)
   skip
 ·have qZ:i=g.length:=by omega
  subst qZ;rw[aY0];exact Au Aa Aa Aa
def Up : Ann:=⟨[],[]⟩
theorem Ya (l:List ByteArray) (p:ByteArray) (qH:(l.length+1)*16<=150000000000000):Ad prog 203 [Bg l,.str p] (Bg (KB OG l p)):=by
 refine Ac [50] Up func203 call203 ntmps203 mxd (Aq @Up.eq_1 results203) rfl (fun qJ B qX qQ=> ?_);clear qJ;simp only[Am];obtain⟨r,hr⟩:∃r,r=KB OG l p:=⟨_,rfl⟩;rw[<-hr]
 (refine AM Aa Aa Aa ?_;intros;refine Aj ?_)
 refine BY 5 50 9 1 16 (by simp[qX,results203,Up]) (fun n=> ?_);refine Ak (X:={x:Nat×Bool×List ByteArray//x.1<=l.length/\x.2.2.length<=x.1+(if x.2.1 then 1 else 0)/\x.2.2++(if x.2.1 then l.drop x.1 else KB OG (l.drop x.1) p)=r}) (fun x=>⟨[(0,Bg l),(1,.str p),(5,.osl 50 1),(6,.bool x.1.2.1),(7,.int .i64 x.1.1)],[⟨50,1,.row 9 1 16 (x.1.2.2.map Bh)⟩]⟩) (fun x=>l.length-x.1.1) ⟨(0,false,[]),by simp[hr]⟩ (Sub.lit (by simp)) ?_
 rintro⟨⟨k,b,R⟩,hk,hR,vK⟩;simp only at hk hR vK |-;clear hr
 by_cases qV:k<l.length
 ·obtain⟨q,hq,yE,nF⟩:=Aw qV;rw[aW0 qV,yE]at vK;cases b
  ·simp only[aU0,if_false,KB,dQ0]at hR vK;have mS:(R.length+1)*16<=150000000000000:=Nat.le_trans (aS0 16 (by omega)) qH;have yQ:R.length<=9223372036854775806:=by omega
   have hz3:(R.length+1+1)*16<=150000000000000:=Nat.le_trans (aS0 16 (by omega)) qH;have hz4:R.length+1<=9223372036854775806:=by omega
   cases hc:CV q p
   ·have cM:Op.bytesLess q.data.toList p.data.toList=false:=hc;rw[if_neg (show ¬OG q p<0 by rw[GC,hc];simp)]at vK
    by_cases he:q=p
    ·subst he;rw[if_neg (show ¬OG q q<0 by rw[GC,Fl];simp)]at vK
     (refine AM Aa Aa (ML @Bh.eq_1 qV yE cM mS yQ hz3 hz4) ?_;intros;refine Aj ?_)
     refine Al.mk ⟨(k+1,true,R++[q]),show k+1<=l.length/\(R++[q]).length<=k+1+_/\_ from ⟨by omega,by simp;omega,by simpa using vK⟩⟩ (Sub.lit (by simp[Bh])) (by simp;omega)
     skip
    ·have zX:(q==p)=false:=by simpa using he
     have hlp:CV p q=true:=by
      cases h2:CV p q
      ·exact absurd (Lb hc h2) he
      ·rfl
     rw[if_pos (GC.2 hlp)]at vK
     (refine AM Aa Aa (YC @Bh.eq_1 qV yE cM zX mS yQ hz3 hz4) ?_;intros;refine Aj ?_)
     refine Al.mk ⟨(k+1,true,R++[p,q]),show k+1<=l.length/\(R++[p,q]).length<=k+1+_/\_ from ⟨by omega,by simp;omega,by simpa using vK⟩⟩ (Sub.lit (by simp[Bh])) (by simp;omega)
     skip
   ·have cM:Op.bytesLess q.data.toList p.data.toList=true:=hc;rw[if_pos (GC.2 hc)]at vK
    (refine AM Aa Aa (ML @Bh.eq_1 qV yE cM mS yQ hz3 hz4) ?_;intros;refine Aj ?_)
    refine Al.mk ⟨(k+1,false,R++[q]),show k+1<=l.length/\(R++[q]).length<=k+1+_/\_ from ⟨by omega,by simp;omega,by simpa using vK⟩⟩ (Sub.lit (by simp[Bh])) (by simp;omega)
    skip
  ·simp only[if_true]at hR vK;have mS:(R.length+1)*16<=150000000000000:=Nat.le_trans (aS0 16 (by omega)) qH;have yQ:R.length<=9223372036854775806:=by omega
   (refine AM Aa Aa (Ja @Bh.eq_1 qV yE mS yQ) ?_;intros;refine Aj ?_)
   refine Al.mk ⟨(k+1,true,R++[q]),show k+1<=l.length/\(R++[q]).length<=k+1+_/\_ from ⟨by omega,by simp;omega,by simpa using vK⟩⟩ (Sub.lit (by simp[Bh])) (by simp;omega)
   skip
 ·have zZ:k=l.length:=by omega
  subst zZ;rw[cR0]at vK;cases b
  ·simp only[aU0,if_false,KB,dQ0]at hR vK;subst vK;have mS:(R.length+1)*16<=150000000000000:=Nat.le_trans (aS0 16 (by omega)) qH;have yQ:R.length<=9223372036854775806:=by omega
   exact Au Aa Aa (Ez @Bh.eq_1 mS yQ)
  ·simp only[if_true,bR0]at hR vK;subst vK;exact Au Aa Aa (AA @Bh.eq_1)
def Qo (es:List ByteArray):List ByteArray:=es.foldl (KB OG) []
theorem VU (es:List ByteArray):Qo es=Fc es:=by
 obtain⟨h1,h2⟩:=PS OF_ es [] List.Pairwise.nil;refine Bq_ (h1.imp fun {a b} h=>GC.1 h) fun x=> ?_
 unfold Qo;rw[h2];simp
theorem Fo_ (es:List ByteArray) (s:ByteArray):Qo (es++[s])=KB OG (Qo es) s:=by unfold Qo;rw[cF0];rfl
theorem Ql (k:Int) (g:List Rul) (i:Nat):(AX k (g.take i)).length<=(AX k g).length:=by
 have h:AX k g=AX k (g.take i)++AX k (g.drop i):=by
  unfold AX;rw[<-List.flatMap_append,List.take_append_drop]
 rw[h,aD0];omega
def Uq : Ann:=⟨[],[]⟩
theorem MP (g:List Rul) (k:Int) (hn:((AX k g).length+1)*16<=150000000000000):Ad prog 132 [AD g,.int .i64 k] (Bg (Fc (AX k g))):=by
 rw[<-VU];refine Ac [] Uq func132 call132 ntmps132 mxd (Aq @Uq.eq_1 results132) rfl (fun qJ B qX qQ=> ?_);have pD:=Kw qJ.1
 have nZ:∀r∈g,r.b.length<9223372036854775807:=fun r hr=>by
  have h1:=qJ.1;obtain⟨i,hi,rfl⟩:=bK0 hr;have h2:wfR (g.map BX):=by simp only[EI]at h1;exact h1.2.2
  have h3:=WP h2 (aH0 hi);simp only[BX,IZ]at h3;exact QS h3.2.1
 clear qJ;simp only[Am]
 (refine AM Aa Aa Aa ?_;intros;refine Aj ?_)
 refine LH_ 5 1 16 (by simp[qX,results132,Uq]) ?_;refine Ak (X:={i:Nat//i<=g.length}) (fun i=>⟨[(0,AD g),(1,.int .i64 k),(5,Bg (Qo (AX k (g.take i.1)))),(6,.int .i64 i.1)],[]⟩) (fun i=>g.length-i.1) ⟨0,by omega⟩ (Sub.lit (by simp[AX,Qo])) ?_;rintro⟨i,hi⟩;simp only
 by_cases qV:i<g.length
 ·obtain⟨r,hr,wL,dL⟩:=Aw qV;have wJ:=PI (k:=k) hr;have cI:=nZ r dL;have pP:=Ql k g (i+1);rw[wJ,aD0]at pP;obtain⟨N,hN⟩:∃N,N=AX k (g.take i):=⟨_,rfl⟩;rw[<-hN]at wJ pP |-
  (refine AM Aa Aa (EU @BX.eq_1 qV hr wL) ?_;intros;refine Aj ?_)
  refine Ak (X:={j:Nat//j<=r.b.length}) (fun j=>⟨[(0,AD g),(1,.int .i64 k),(5,Bg (Qo (N++Cv k (r.b.take j.1)))),(6,.int .i64 i),(7,.int .i64 j.1)],[]⟩) (fun j=>r.b.length-j.1) ⟨0,by omega⟩ (Sub.lit (by simp[Cv])) ?_;rintro⟨j,hj⟩;simp only
  by_cases qS:j<r.b.length
  ·obtain⟨x,hx,qG,vN⟩:=Aw qS;have htj:=PH (k:=k) hx
   have rY:(Cv k (r.b.take j)).length<=(Cv k r.b).length:=by
    unfold Cv;rw[aL0,aL0];exact((List.take_sublist j r.b).filter _).length_le
   obtain⟨E,hE⟩:∃E,E=N++Cv k (r.b.take j):=⟨_,rfl⟩;have nU:N++Cv k (r.b.take (j+1))=E++(if x.k=k then [x.s]else []):=by rw[htj,hE,aQ0]
   have hEl:(Qo E).length<=(AX k g).length:=by
    rw[VU];have:=HV E;rw[hE,aD0]at this;rw[<-hE]at this;omega
   rw[<-hE]
   by_cases hk:x.k=k
   ·rw[if_pos hk]at nU;have qL:=Fo_ E x.s;rw[<-nU]at qL;have e1:=Ya (Qo E) x.s (Nat.le_trans (aS0 16 (by omega)) hn);rw[<-qL]at e1;obtain⟨W,hW⟩:∃W,W=Qo E:=⟨_,rfl⟩;obtain⟨W2,hW2⟩:∃W2,W2=Qo (N++Cv k (r.b.take (j+1))):=⟨_,rfl⟩;rw[<-hW,<-hW2]at e1;rw[<-hW]
    (refine AM (AA e1) Aa (YC @BX.eq_1 @Cf.eq_1 qV hr wL qS hx qG hk) ?_;intros;refine Aj ?_)
    refine Al.mk ⟨j+1,by omega⟩ (Sub.lit (by simp only[<-hW2];simp)) (by simp;omega)
    skip
   ·have zZ:(x.k==k)=false:=by simpa using hk
    rw[if_neg hk,bR0]at nU
    (refine AM Aa Aa (MM @BX.eq_1 @Cf.eq_1 qV hr wL qS hx qG hk zZ) ?_;intros;refine Aj ?_)
    refine Al.mk ⟨j+1,by omega⟩ (Sub.lit (by simp only[nU];simp)) (by simp;omega)
    skip
  ·have qZ:j=r.b.length:=by omega
   subst qZ;rw[aY0]
   (refine AM Aa Aa (EU @BX.eq_1 qV hr wL) ?_;intros;refine Aj ?_)
   refine Al.mk ⟨i+1,by omega⟩ (Sub.lit (by simp only[wJ];simp)) (by simp;omega)
   skip
 ·have qZ:i=g.length:=by omega
  subst qZ;rw[aY0];exact Au Aa Aa Aa
def DC_ : Ann:=⟨[],[]⟩
theorem RS (g:List Rul) (hn:((AX 3 g).length+1)*16<=150000000000000):Ad prog 47 [AD g] (Bg (AC g)):=by
 refine Ac [] DC_ func47 call47 ntmps47 mxd (Aq @DC_.eq_1 results47) rfl (fun qJ B qX qQ=> ?_);clear qJ;simp only[Am];have e1:=MP g 3 hn;unfold AC;exact Au (AA e1) Aa Aa
def GQ (g:List Rul) (j:Nat):Nat:=(((Fc (AX 2 g)).take j).filter fun s=> !decide (s∈AB g)).length
theorem xX (g:List Rul):GQ g (Fc (AX 2 g)).length=(CX g).length:=by unfold GQ CX;rw[aY0]
theorem ET_ (g:List Rul) (j:Nat):GQ g j<=j:=by
 unfold GQ;exact Nat.le_trans (cU0 _ _) (List.length_take_le _ _)
theorem aI {g:List Rul} {j:Nat} {s:ByteArray} (h:(Fc (AX 2 g))[j]? =some s):GQ g (j+1)=GQ g j+(if s∈AB g then 0 else 1):=by
 unfold GQ;rw[bF0,h,dT0,aD0]
 by_cases hs:s∈AB g<;>simp[hs]
def DD_ : Ann:=⟨[],[]⟩
theorem OJ (g:List Rul) (hn:((AX 2 g).length+1)*16<=150000000000000):Ad prog 46 [AD g] (.int .i64 (CX g).length):=by
 refine Ac [] DD_ func46 call46 ntmps46 mxd (Aq @DD_.eq_1 results46) rfl (fun qJ B qX qQ=> ?_);clear qJ;simp only[Am];have e1:=LR g;have e2:=MP g 2 hn;have wX:=xX g;have jT:=HV (AX 2 g);have dN:=fun j s=>aI (g:=g) (j:=j) (s:=s)
 have wY:=ET_ g;obtain⟨U,hU⟩:∃U,U=Fc (AX 2 g):=⟨_,rfl⟩;obtain⟨Hh,hH⟩:∃Hh,Hh=AB g:=⟨_,rfl⟩;rw[<-hU]at e2 wX jT dN;rw[<-hH]at e1 dN;rw[<-wX]
 (refine AM (Aq e1 e2) Aa Aa ?_;intros;refine Aj ?_)
 refine Ak (X:={j:Nat//j<=U.length}) (fun j=>⟨[(3,Bg Hh),(4,Bg U),(5,.int .i64 (GQ g j.1)),(6,.int .i64 j.1)],[]⟩) (fun j=>U.length-j.1) ⟨0,by omega⟩ (Sub.lit (by simp[GQ])) ?_;rintro⟨j,hj⟩;simp only
 by_cases qV:j<U.length
 ·obtain⟨s,hs,zE,_⟩:=Aw qV;have h1:=dN j s hs;have h2:=wY j;have e3:=SV Hh s;have w1:IntKind.i64.wrap ((GQ g j:Int)+1)=(GQ g j:Int)+1:=wq;have w2:IntKind.i64.wrap ((j:Int)+1)=(j:Int)+1:=wq
  by_cases hm:s∈Hh
  ·rw[if_pos hm,dQ0]at h1;rw[decide_eq_true hm]at e3
   (refine AM (AA e3) Aa (Ja @Bh.eq_1 qV hs zE w2) ?_;intros;refine Aj ?_)
   refine Al.mk ⟨j+1,by omega⟩ (Sub.lit (by simp[h1])) (by simp;omega)
   skip
  ·rw[if_neg hm]at h1;rw[decide_eq_false hm]at e3
   (refine AM (AA e3) Aa (JT @Bh.eq_1 qV hs zE w1 w2) ?_;intros;refine Aj ?_)
   refine Al.mk ⟨j+1,by omega⟩ (Sub.lit (by simp[h1])) (by simp;omega)
   skip
 ·have qZ:j=U.length:=by omega
  subst qZ;exact Au Aa Aa Aa
def Fa (g:List Rul):Prop:=∀r∈g,r.b.length<=1572864
theorem EL {k:Int}:∀{g:List Rul},Fa g->(AX k g).length<=g.length*1572864
 | [],_=>by simp[AX]
 | r::g,h=>by
  have h1:=h r aE0;have h2:=EL (k:=k) (g:=g) fun x hx=>h x (aC0 _ hx)
  have h3:=xU k r.b;have h4:AX k (r::g)=Cv k r.b++AX k g:=by simp[AX]
  rw[h4,aD0,List.length_cons];omega
theorem XG (l:List Nd):GM l<=l.length:=by rw[Nm];exact cU0 _ _
theorem XH : ∀{g:List Rul},Fa g->CS g<=g.length*1572864
 | [],_=>by simp[CS]
 | r::g,h=>by
  have h1:=h r aE0;have h2:=XH (g:=g) fun x hx=>h x (aC0 _ hx)
  have h3:=XG r.b;have h4:CS (r::g)=GM r.b+CS g:=by simp[CS]
  rw[h4,List.length_cons];omega
theorem VK {g:List Rul} {i:Nat} {r:Rul} (h:g[i]? =some r):CS (g.take (i+1))=CS (g.take i)+GM r.b:=by
 unfold CS;rw[bF0,h];simp
theorem Nn (g:List Rul) (i:Nat):CS (g.take i)<=CS g:=by
 have h:CS g=CS (g.take i)+CS (g.drop i):=by
  unfold CS;rw[<-List.sum_append,<-bA0,List.take_append_drop]
 omega
theorem XN (s:ByteArray):Ad prog 129 [.str s,.int .u8 85] (.bool (DD 2 s)):=HF 2 85 (.inl ⟨rfl,rfl⟩) s
def DB_ : Ann:=⟨[],[]⟩
theorem LM (g:List Rul) (hs:Fa g):Ad prog 44 [AD g] (.bool (Fi g)):=by
 refine Ac [] DB_ func44 call44 ntmps44 mxd (Aq @DB_.eq_1 results44) rfl (fun qJ B qX qQ=> ?_);have pD:=Kw qJ.1;clear qJ;simp only[Am];obtain⟨R,hR⟩:∃R,R=Fi g:=⟨_,rfl⟩;rw[<-hR]
 (refine AM Aa Aa Aa ?_;intros;refine Aj ?_)
 refine Ak (X:={i:Nat//i<=g.length/\R=Fi (g.drop i)}) (fun i=>⟨[(0,AD g),(3,.int .i64 i.1)],[]⟩) (fun i=>g.length-i.1) ⟨0,by simp[hR]⟩ (Sub.lit (by simp)) ?_;clear hR;rintro⟨i,hi,hR⟩;simp only
 by_cases qV:i<g.length
 ·obtain⟨r,hr,wL,dL⟩:=Aw qV;rw[aW0 qV,wL]at hR;unfold Fi at hR;rw[dB0]at hR;have e1:=XN r.h;have e2:=EN r.b (hs r dL);have w2:IntKind.i64.wrap ((i:Int)+1)=(i:Int)+1:=wq;cases h1:DD 2 r.h
  ·rw[h1]at e1 hR;simp only[Bool.false_and]at hR;subst hR;exact Au (AA e1) Aa (EU @BX.eq_1 qV hr wL)
  ·cases h2:Dr r.b
   ·rw[h2]at e2 hR;rw[h1]at e1 hR;simp only[Bool.false_and,Bool.and_false]at hR;subst hR;exact Au (Aq e1 e2) Aa (EU @BX.eq_1 qV hr wL)
   ·rw[h2]at e2 hR;rw[h1]at e1 hR;simp only[eB0]at hR
    (refine AM (Aq e1 e2) Aa (Ja @BX.eq_1 qV hr wL w2) ?_;intros;refine Aj ?_)
    refine Al.mk ⟨i+1,by omega,hR⟩ (Sub.lit (by simp)) (by simp;omega)
    skip
 ·have qZ:i=g.length:=by omega
  subst qZ;rw[cR0]at hR;have vY:R=true:=hR;subst vY;exact Au Aa Aa Aa
def DA_ : Ann:=⟨[],[]⟩
theorem Xn (g:List Rul) (hs:Fa g) (hl:g.length<=64):Ad prog 48 [AD g] (.int .i64 (CS g)):=by
 refine Ac [] DA_ func48 call48 ntmps48 mxd (Aq @DA_.eq_1 results48) rfl (fun qJ B qX qQ=> ?_);clear qJ;simp only[Am];have ho:=XH hs
 (refine AM Aa Aa Aa ?_;intros;refine Aj ?_)
 refine Ak (X:={i:Nat//i<=g.length}) (fun i=>⟨[(0,AD g),(3,.int .i64 (CS (g.take i.1))),(4,.int .i64 i.1)],[]⟩) (fun i=>g.length-i.1) ⟨0,by omega⟩ (Sub.lit (by simp[CS])) ?_;rintro⟨i,hi⟩;simp only
 by_cases qV:i<g.length
 ·obtain⟨r,hr,wL,dL⟩:=Aw qV;have e1:=Xm r.b;have h1:=VK hr;have h2:=Nn g (i+1);have h3:=XG r.b;have w1:IntKind.i64.wrap ((CS (g.take i):Int)+(GM r.b:Int))=(CS (g.take (i+1)):Int):=by rw[wq];omega
  have w2:IntKind.i64.wrap ((i:Int)+1)=(i:Int)+1:=wq
  (refine AM (AA e1) Aa (JT @BX.eq_1 qV hr wL w1 w2) ?_;intros;refine Aj ?_)
  refine Al.mk ⟨i+1,by omega⟩ (Sub.lit (by simp)) (by simp;omega)
  skip
 ·have qZ:i=g.length:=by omega
  subst qZ;rw[aY0];exact Au Aa Aa Aa
theorem xW {gt:GT} {i:Nat} {p:ByteArray×RT} (h:gt[i]? =some p):(AZ gt)[i]? =some ⟨p.1,flat p.2⟩:=by unfold AZ;rw[bN0,h];rfl
theorem Gh (gt:GT):(AZ gt).length=gt.length:=by unfold AZ;rw[aL0]
theorem Kc {gt:GT} (h:Fa (AZ gt)) {p:ByteArray×RT} (hp:p∈gt):(flat p.2).length<=1572864:=h ⟨p.1,flat p.2⟩ (aR0.2 ⟨p,hp,rfl⟩)
def Dz_ : Ann:=⟨[],[]⟩
theorem UI (gt:GT) (hk:OkG gt) (hs:Fa (AZ gt)) (hl:gt.length<=64):Ad prog 49 [AD (AZ gt)] (.bool (Gd gt)):=by
 refine Ac [] Dz_ func49 call49 ntmps49 mxd (Aq @Dz_.eq_1 results49) rfl (fun qJ B qX qQ=> ?_);clear qJ;simp only[Am];have kJ:=Gh gt;have yR:=fun i p=>xW (gt:=gt) (i:=i) (p:=p)
 have yM:=fun p=>Kc hs (p:=p)
 obtain⟨g,hg⟩:∃g,g=AZ gt:=⟨_,rfl⟩;rw[<-hg]at kJ yR |-;obtain⟨R,hR⟩:∃R,R=Gd gt:=⟨_,rfl⟩;rw[<-hR];clear hs hg
 (refine AM Aa Aa Aa ?_;intros;refine Aj ?_)
 refine Ak (X:={i:Nat//i<=gt.length/\R=Gd (gt.drop i)}) (fun i=>⟨[(0,AD g),(3,.int .i64 i.1)],[]⟩) (fun i=>gt.length-i.1) ⟨0,by simp[hR]⟩ (Sub.lit (by simp)) ?_;clear hR;rintro⟨i,hi,hR⟩;simp only
 by_cases qV:i<gt.length
 ·obtain⟨p,hp,qN,zU⟩:=Aw qV;rw[aW0 qV,qN]at hR;unfold Gd at hR;rw[List.any_cons]at hR;have hr:=yR i p hp;have qS:i<g.length:=by omega
  have wL:g[i]'qS=⟨p.1,flat p.2⟩:=(aB0.1 hr).2;have e1:=Qi p.2 (hk p zU).2 (yM p zU);have w2:IntKind.i64.wrap ((i:Int)+1)=(i:Int)+1:=wq;obtain⟨b,hb⟩:∃b,b=flat p.2:=⟨_,rfl⟩;rw[<-hb]at hr wL e1
  by_cases hd:16<JR p.2
  ·have cG:(16:Int)<(JR p.2:Int):=by omega
   rw[decide_eq_true hd,Bool.true_or]at hR;subst hR;exact Au (AA e1) Aa (JB @BX.eq_1 qV qS hr wL hd cG)
  ·have cG:¬(16:Int)<(JR p.2:Int):=by omega
   rw[decide_eq_false hd,Bool.false_or]at hR
   (refine AM (AA e1) Aa (ML @BX.eq_1 qV qS hr wL hd cG w2) ?_;intros;refine Aj ?_)
   refine Al.mk ⟨i+1,by omega,hR⟩ (Sub.lit (by simp)) (by simp;omega)
   skip
 ·have qZ:i=gt.length:=by omega
  subst qZ;rw[cR0]at hR;have vY:R=false:=hR;subst vY;exact Au Aa Aa (AA kJ)
theorem uE {k:Int} {s:ByteArray} (h:DD k s=true):s.size<=16:=by
 unfold DD Cb at h
 split at h<;>simp only[aM0,decide_eq_true_eq]at h<;>exact h.1.1.2
theorem RM {gt:GT} {p:ByteArray×RT} (hk:OkG gt) (hs:Fa (AZ gt)) (hp:p∈gt):(JE p).size<=37748766:=by
 have h1:=uE (hk p hp).1;have h2:=(HW p.2 (hk p hp).2).2;have h3:=Kc hs hp;unfold JE;simp only[aO0];have z3:(⟨#[32,61,32]⟩:ByteArray).size=3:=rfl;have z4:(⟨#[32,59,10]⟩:ByteArray).size=3:=rfl;omega
theorem Mh {gt:GT} (hk:OkG gt) (hs:Fa (AZ gt)):∀i,i<=gt.length->(Cj (gt.take i)).size<=i*37748766
 | 0,_=>by simp[Cj];decide
 | i+1,h=>by
  have hx:gt[i]? =some (gt[i]'(by omega)):=aH0 (by omega);have ih:=Mh hk hs i (by omega);have h1:=RM hk hs (dG0 (show i<gt.length by omega));rw[GA hx,aO0];omega
def Dy_ : Ann:=⟨[],[]⟩
theorem UH (gt:GT) (hk:OkG gt) (hs:Fa (AZ gt)) (hl:gt.length<=64):Ad prog 50 [AD (AZ gt)] (.str (Cj gt)):=by
 refine Ac [] Dy_ func50 call50 ntmps50 mxd (Aq @Dy_.eq_1 results50) rfl (fun qJ B qX qQ=> ?_);clear qJ;simp only[Am];have kJ:=Gh gt;have yR:=fun i p=>xW (gt:=gt) (i:=i) (p:=p)
 have yM:=fun p=>Kc hs (p:=p)
 have yB:=Mh hk hs;obtain⟨g,hg⟩:∃g,g=AZ gt:=⟨_,rfl⟩;rw[<-hg]at kJ yR |-;clear hs hg;have z0:(⟨#[]⟩:ByteArray).size=0:=rfl;have z3:(⟨#[32,61,32]⟩:ByteArray).size=3:=rfl;have z4:(⟨#[32,59,10]⟩:ByteArray).size=3:=rfl;have m3:3<=maxLen:=by decide
 have mbig:3000000000<=maxLen:=by decide
 (refine AM Aa Aa (AA z0) ?_;intros;refine Aj ?_)
 refine Ak (X:={i:Nat//i<=gt.length}) (fun i=>⟨[(0,AD g),(3,.str (Cj (gt.take i.1))),(4,.int .i64 i.1)],[]⟩) (fun i=>gt.length-i.1) ⟨0,by omega⟩ (Sub.lit (by simp[Cj])) ?_;rintro⟨i,hi⟩;simp only
 by_cases qV:i<gt.length
 ·obtain⟨p,hp,qN,zU⟩:=Aw qV;have hr:=yR i p hp;have qS:i<g.length:=by omega
  have wL:g[i]'qS=⟨p.1,flat p.2⟩:=(aB0.1 hr).2;have e1:=PA _ p.2 (flat p.2) 0 rfl (At.top (hk p zU).2) (yM p zU);have w2:IntKind.i64.wrap ((i:Int)+1)=(i:Int)+1:=wq;have h1:=yB (i+1) (by omega);have wT:=GA hp;rw[wT]at h1;unfold JE at h1 wT;simp only[aO0,z3,z4]at h1;obtain⟨b,hb⟩:∃b,b=flat p.2:=⟨_,rfl⟩;rw[<-hb]at hr wL e1;obtain⟨s,hs⟩:∃s,s=Dd p.2:=⟨_,rfl⟩;rw[<-hs]at e1 h1 wT;obtain⟨a,ha⟩:∃a,a=Cj (gt.take i):=⟨_,rfl⟩
  rw[<-ha]at wT h1 |-;have y1:a.size+p.1.size<=maxLen:=by omega
  have y2:a.size+p.1.size+3<=maxLen:=by omega
  have y3:a.size+p.1.size+3+s.size<=maxLen:=by omega
  have y4:a.size+p.1.size+3+s.size+3<=maxLen:=by omega
  have hq:a++p.1++⟨#[32,61,32]⟩++s++⟨#[32,59,10]⟩=Cj (gt.take (i+1)):=by rw[wT];simp only[ByteArray.append_assoc]
  (refine AM (AA e1) Aa (YD @BX.eq_1 qV qS hr wL z3 z4 m3 y1 y2 y3 y4 @aO0 w2) ?_;intros;refine Aj ?_)
  refine Al.mk ⟨i+1,by omega⟩ (Sub.lit (by simp[hq])) (by simp;omega)
  skip
 ·have qZ:i=gt.length:=by omega
  subst qZ;rw[aY0];exact Au Aa Aa (AA kJ)
def Ch : Ann:=⟨[],[]⟩
theorem Sk (g:List Rul) (h:g.length<1\/64<g.length):Ad prog 13 [AD g] (.int .i64 180):=by
 refine Ac [] Ch func13 call13 ntmps13 mxd (Aq @Ch.eq_1 results13) rfl (fun qJ B qX qQ=> ?_);clear qJ;simp only[Am]
 rcases h with h | h
 ·have d1:(g.length:Int)<1:=by omega
  have h0:g=[]:=bO0 (by omega);subst h0;exact Au Aa Aa Aa
 ·have d1:¬(g.length:Int)<1:=by omega
  have d2:(64:Int)<(g.length:Int):=by omega
  have d3:¬g.length<1:=by omega
  exact Au Aa Aa (EU d1 d2 h d3)
theorem Xv (g:List Rul) (h1:1<=g.length) (h2:g.length<=64) (hs:Fa g) (ht:Fi g=false):Ad prog 13 [AD g] (.int .i64 170):=by
 refine Ac [] Ch func13 call13 ntmps13 mxd (Aq @Ch.eq_1 results13) rfl (fun qJ B qX qQ=> ?_);clear qJ;simp only[Am];have d1:¬(g.length:Int)<1:=by omega
 have d2:¬(64:Int)<(g.length:Int):=by omega
 have d3:¬g.length<1:=by omega
 have d4:¬64<g.length:=by omega
 have e1:=LM g hs;rw[ht]at e1;exact Au (AA e1) Aa (EU d1 d2 d3 d4)
theorem ZB (gt:GT) (h1:1<=gt.length) (h2:gt.length<=64) (hk:OkG gt) (hs:Fa (AZ gt)):Ad prog 13 [AD (AZ gt)] (.int .i64 (NK gt)):=by
 refine Ac [] Ch func13 call13 ntmps13 mxd (Aq @Ch.eq_1 results13) rfl (fun qJ B qX qQ=> ?_);clear qJ;simp only[Am];have kJ:=Gh gt;have e1:=LM (AZ gt) hs;rw[eJ hk]at e1;have n2:=EL (k:=2) hs;have n3:=EL (k:=3) hs;have e2:=LR (AZ gt);have e3:=OJ (AZ gt) (by omega);have e4:=RS (AZ gt) (by omega);have e5:=Xn (AZ gt) hs (by omega);have e6:=UI gt hk hs h2;have e7:=UH gt hk hs h2;have b1:=Jr (AZ gt)
 have b2:(CX (AZ gt)).length<=110000000:=by
  have:=HV (AX 2 (AZ gt));have:=cU0 (fun s=> !decide (s∈AB (AZ gt))) (Fc (AX 2 (AZ gt)));unfold CX;omega
 obtain⟨g,hg⟩:∃g,g=AZ gt:=⟨_,rfl⟩;obtain⟨C,hC⟩:∃C,C=NK gt:=⟨_,rfl⟩;rw[<-hC];unfold NK at hC;rw[<-hg]at kJ e1 e2 e3 e4 e5 e6 e7 b1 b2 hC |-;obtain⟨H,hH⟩:∃H,H=AB g:=⟨_,rfl⟩;obtain⟨m,hm⟩:∃m,m=(CX g).length:=⟨_,rfl⟩;obtain⟨L,hL⟩:∃L,L=AC g:=⟨_,rfl⟩;obtain⟨o,ho⟩:∃o,o=CS g:=⟨_,rfl⟩;obtain⟨T,hT⟩:∃T,T=Cj gt:=⟨_,rfl⟩;rw[<-hH]at e2 b1 hC;rw[<-hm]at e3 b2 hC;rw[<-hL]at e4 hC;rw[<-ho]at e5 hC;rw[<-hT]at e7 hC;clear hH hm hL ho hT n2 n3 hg
 have d1:¬(g.length:Int)<1:=by omega
 have d2:¬(64:Int)<(g.length:Int):=by omega
 have d3:¬g.length<1:=by omega
 have d4:¬64<g.length:=by omega
 have w1:IntKind.i64.wrap ((H.length:Int)+(m:Int))=((H.length+m:Nat):Int):=by rw[wq];omega
 by_cases c1:16<H.length+m
 ·have q1:(16:Int)<((H.length+m:Nat):Int):=by omega
  rw[if_pos c1]at hC;subst hC
  (repeat (first | refine AE fun K hK=> ?_ | (refine Bv Ch mxd (by kernel_rfl) ?_;simp[Ch,qX,d1,d2,d3,d4,w1,c1,q1, -Int.natCast_add];try simp (disch:=omega) only[Af]) | refine An ?_ | (refine AW ?_ ?_ ?_;(· (simp[qX,d1,d2,d3,d4,w1,c1,q1, -Int.natCast_add];done));(try (rotate_left;(· (intro hc;(try simp[qX,d1,d2,d3,d4,w1,c1,q1, -Int.natCast_add]at hc);done))))) | (refine AH ?_;simp[results13,qX,d1,d2,d3,d4,w1,c1,q1, -Int.natCast_add]) | ((first | refine Ay ?_ | refine Ax ?_);simp[qX,d1,d2,d3,d4,w1,c1,q1, -Int.natCast_add]) | (intro hc;(try simp[qX,d1,d2,d3,d4,w1,c1,q1, -Int.natCast_add]at hc);(try (exfalso;omega))) | ((first | refine Ai (e1) ?_ | refine Ai (e2) ?_ | refine Ai (e3) ?_ | refine Ai (e4) ?_ | refine Ai (e5) ?_ | refine Ai (e6) ?_ | refine Ai (e7) ?_ | (refine Ah (e1) ?_ ?_;(· (simp;done))) | (refine Ah (e2) ?_ ?_;(· (simp;done))) | (refine Ah (e3) ?_ ?_;(· (simp;done))) | (refine Ah (e4) ?_ ?_;(· (simp;done))) | (refine Ah (e5) ?_ ?_;(· (simp;done))) | (refine Ah (e6) ?_ ?_;(· (simp;done))) | (refine Ah (e7) ?_ ?_;(· (simp;done))));try simp[qX,d1,d2,d3,d4,w1,c1,q1, -Int.natCast_add]) | (refine⟨?_,?_⟩; · omega) | omega | apply_assumption -exfalso -symm | (exfalso;omega)))
 rw[if_neg c1]at hC;have q1:¬(16:Int)<((H.length+m:Nat):Int):=by omega
 by_cases c2:16<L.length
 ·have q2:(16:Int)<(L.length:Int):=by omega
  rw[if_pos c2]at hC;subst hC
  (repeat (first | refine AE fun K hK=> ?_ | (refine Bv Ch mxd (by kernel_rfl) ?_;simp[Ch,qX,d1,d2,d3,d4,w1,c1,q1,c2,q2, -Int.natCast_add];try simp (disch:=omega) only[Af]) | refine An ?_ | (refine AW ?_ ?_ ?_;(· (simp[qX,d1,d2,d3,d4,w1,c1,q1,c2,q2, -Int.natCast_add];done));(try (rotate_left;(· (intro hc;(try simp[qX,d1,d2,d3,d4,w1,c1,q1,c2,q2, -Int.natCast_add]at hc);done))))) | (refine AH ?_;simp[results13,qX,d1,d2,d3,d4,w1,c1,q1,c2,q2, -Int.natCast_add]) | ((first | refine Ay ?_ | refine Ax ?_);simp[qX,d1,d2,d3,d4,w1,c1,q1,c2,q2, -Int.natCast_add]) | (intro hc;(try simp[qX,d1,d2,d3,d4,w1,c1,q1,c2,q2, -Int.natCast_add]at hc);(try (exfalso;omega))) | ((first | refine Ai (e1) ?_ | refine Ai (e2) ?_ | refine Ai (e3) ?_ | refine Ai (e4) ?_ | refine Ai (e5) ?_ | refine Ai (e6) ?_ | refine Ai (e7) ?_ | (refine Ah (e1) ?_ ?_;(· (simp;done))) | (refine Ah (e2) ?_ ?_;(· (simp;done))) | (refine Ah (e3) ?_ ?_;(· (simp;done))) | (refine Ah (e4) ?_ ?_;(· (simp;done))) | (refine Ah (e5) ?_ ?_;(· (simp;done))) | (refine Ah (e6) ?_ ?_;(· (simp;done))) | (refine Ah (e7) ?_ ?_;(· (simp;done))));try simp[qX,d1,d2,d3,d4,w1,c1,q1,c2,q2, -Int.natCast_add]) | (refine⟨?_,?_⟩; · omega) | omega | apply_assumption -exfalso -symm | (exfalso;omega)))
 rw[if_neg c2]at hC;have q2:¬(16:Int)<(L.length:Int):=by omega
 by_cases c3:64<o
 ·have q3:(64:Int)<(o:Int):=by omega
  rw[if_pos c3]at hC;subst hC
  (repeat (first | refine AE fun K hK=> ?_ | (refine Bv Ch mxd (by kernel_rfl) ?_;simp[Ch,qX,d1,d2,d3,d4,w1,c1,q1,c2,q2,c3,q3, -Int.natCast_add];try simp (disch:=omega) only[Af]) | refine An ?_ | (refine AW ?_ ?_ ?_;(· (simp[qX,d1,d2,d3,d4,w1,c1,q1,c2,q2,c3,q3, -Int.natCast_add];done));(try (rotate_left;(· (intro hc;(try simp[qX,d1,d2,d3,d4,w1,c1,q1,c2,q2,c3,q3, -Int.natCast_add]at hc);done))))) | (refine AH ?_;simp[results13,qX,d1,d2,d3,d4,w1,c1,q1,c2,q2,c3,q3, -Int.natCast_add]) | ((first | refine Ay ?_ | refine Ax ?_);simp[qX,d1,d2,d3,d4,w1,c1,q1,c2,q2,c3,q3, -Int.natCast_add]) | (intro hc;(try simp[qX,d1,d2,d3,d4,w1,c1,q1,c2,q2,c3,q3, -Int.natCast_add]at hc);(try (exfalso;omega))) | ((first | refine Ai (e1) ?_ | refine Ai (e2) ?_ | refine Ai (e3) ?_ | refine Ai (e4) ?_ | refine Ai (e5) ?_ | refine Ai (e6) ?_ | refine Ai (e7) ?_ | (refine Ah (e1) ?_ ?_;(· (simp;done))) | (refine Ah (e2) ?_ ?_;(· (simp;done))) | (refine Ah (e3) ?_ ?_;(· (simp;done))) | (refine Ah (e4) ?_ ?_;(· (simp;done))) | (refine Ah (e5) ?_ ?_;(· (simp;done))) | (refine Ah (e6) ?_ ?_;(· (simp;done))) | (refine Ah (e7) ?_ ?_;(· (simp;done))));try simp[qX,d1,d2,d3,d4,w1,c1,q1,c2,q2,c3,q3, -Int.natCast_add]) | (refine⟨?_,?_⟩; · omega) | omega | apply_assumption -exfalso -symm | (exfalso;omega)))
 rw[if_neg c3]at hC;have q3:¬(64:Int)<(o:Int):=by omega
 cases c4:Gd gt
 rotate_left
 ·rw[if_pos c4]at hC;rw[c4]at e6;subst hC
  (repeat (first | refine AE fun K hK=> ?_ | (refine Bv Ch mxd (by kernel_rfl) ?_;simp[Ch,qX,d1,d2,d3,d4,w1,c1,q1,c2,q2,c3,q3, -Int.natCast_add];try simp (disch:=omega) only[Af]) | refine An ?_ | (refine AW ?_ ?_ ?_;(· (simp[qX,d1,d2,d3,d4,w1,c1,q1,c2,q2,c3,q3, -Int.natCast_add];done));(try (rotate_left;(· (intro hc;(try simp[qX,d1,d2,d3,d4,w1,c1,q1,c2,q2,c3,q3, -Int.natCast_add]at hc);done))))) | (refine AH ?_;simp[results13,qX,d1,d2,d3,d4,w1,c1,q1,c2,q2,c3,q3, -Int.natCast_add]) | ((first | refine Ay ?_ | refine Ax ?_);simp[qX,d1,d2,d3,d4,w1,c1,q1,c2,q2,c3,q3, -Int.natCast_add]) | (intro hc;(try simp[qX,d1,d2,d3,d4,w1,c1,q1,c2,q2,c3,q3, -Int.natCast_add]at hc);(try (exfalso;omega))) | ((first | refine Ai (e1) ?_ | refine Ai (e2) ?_ | refine Ai (e3) ?_ | refine Ai (e4) ?_ | refine Ai (e5) ?_ | refine Ai (e6) ?_ | refine Ai (e7) ?_ | (refine Ah (e1) ?_ ?_;(· (simp;done))) | (refine Ah (e2) ?_ ?_;(· (simp;done))) | (refine Ah (e3) ?_ ?_;(· (simp;done))) | (refine Ah (e4) ?_ ?_;(· (simp;done))) | (refine Ah (e5) ?_ ?_;(· (simp;done))) | (refine Ah (e6) ?_ ?_;(· (simp;done))) | (refine Ah (e7) ?_ ?_;(· (simp;done))));try simp[qX,d1,d2,d3,d4,w1,c1,q1,c2,q2,c3,q3, -Int.natCast_add]) | (refine⟨?_,?_⟩; · omega) | omega | apply_assumption -exfalso -symm | (exfalso;omega)))
 rw[if_neg (by rw[c4];simp)]at hC;rw[c4]at e6
 by_cases c5:0<m
 ·have q5:(0:Int)<(m:Int):=by omega
  rw[if_pos c5]at hC;subst hC
  (repeat (first | refine AE fun K hK=> ?_ | (refine Bv Ch mxd (by kernel_rfl) ?_;simp[Ch,qX,d1,d2,d3,d4,w1,c1,q1,c2,q2,c3,q3,c5,q5, -Int.natCast_add];try simp (disch:=omega) only[Af]) | refine An ?_ | (refine AW ?_ ?_ ?_;(· (simp[qX,d1,d2,d3,d4,w1,c1,q1,c2,q2,c3,q3,c5,q5, -Int.natCast_add];done));(try (rotate_left;(· (intro hc;(try simp[qX,d1,d2,d3,d4,w1,c1,q1,c2,q2,c3,q3,c5,q5, -Int.natCast_add]at hc);done))))) | (refine AH ?_;simp[results13,qX,d1,d2,d3,d4,w1,c1,q1,c2,q2,c3,q3,c5,q5, -Int.natCast_add]) | ((first | refine Ay ?_ | refine Ax ?_);simp[qX,d1,d2,d3,d4,w1,c1,q1,c2,q2,c3,q3,c5,q5, -Int.natCast_add]) | (intro hc;(try simp[qX,d1,d2,d3,d4,w1,c1,q1,c2,q2,c3,q3,c5,q5, -Int.natCast_add]at hc);(try (exfalso;omega))) | ((first | refine Ai (e1) ?_ | refine Ai (e2) ?_ | refine Ai (e3) ?_ | refine Ai (e4) ?_ | refine Ai (e5) ?_ | refine Ai (e6) ?_ | refine Ai (e7) ?_ | (refine Ah (e1) ?_ ?_;(· (simp;done))) | (refine Ah (e2) ?_ ?_;(· (simp;done))) | (refine Ah (e3) ?_ ?_;(· (simp;done))) | (refine Ah (e4) ?_ ?_;(· (simp;done))) | (refine Ah (e5) ?_ ?_;(· (simp;done))) | (refine Ah (e6) ?_ ?_;(· (simp;done))) | (refine Ah (e7) ?_ ?_;(· (simp;done))));try simp[qX,d1,d2,d3,d4,w1,c1,q1,c2,q2,c3,q3,c5,q5, -Int.natCast_add]) | (refine⟨?_,?_⟩; · omega) | omega | apply_assumption -exfalso -symm | (exfalso;omega)))
 rw[if_neg c5]at hC;have q5:¬(0:Int)<(m:Int):=by omega
 by_cases c6:2048<T.size
 ·have q6:(2048:Int)<(T.size:Int):=by omega
  rw[if_pos c6]at hC;subst hC
  (repeat (first | refine AE fun K hK=> ?_ | (refine Bv Ch mxd (by kernel_rfl) ?_;simp[Ch,qX,d1,d2,d3,d4,w1,c1,q1,c2,q2,c3,q3,c5,q5,c6,q6, -Int.natCast_add];try simp (disch:=omega) only[Af]) | refine An ?_ | (refine AW ?_ ?_ ?_;(· (simp[qX,d1,d2,d3,d4,w1,c1,q1,c2,q2,c3,q3,c5,q5,c6,q6, -Int.natCast_add];done));(try (rotate_left;(· (intro hc;(try simp[qX,d1,d2,d3,d4,w1,c1,q1,c2,q2,c3,q3,c5,q5,c6,q6, -Int.natCast_add]at hc);done))))) | (refine AH ?_;simp[results13,qX,d1,d2,d3,d4,w1,c1,q1,c2,q2,c3,q3,c5,q5,c6,q6, -Int.natCast_add]) | ((first | refine Ay ?_ | refine Ax ?_);simp[qX,d1,d2,d3,d4,w1,c1,q1,c2,q2,c3,q3,c5,q5,c6,q6, -Int.natCast_add]) | (intro hc;(try simp[qX,d1,d2,d3,d4,w1,c1,q1,c2,q2,c3,q3,c5,q5,c6,q6, -Int.natCast_add]at hc);(try (exfalso;omega))) | ((first | refine Ai (e1) ?_ | refine Ai (e2) ?_ | refine Ai (e3) ?_ | refine Ai (e4) ?_ | refine Ai (e5) ?_ | refine Ai (e6) ?_ | refine Ai (e7) ?_ | (refine Ah (e1) ?_ ?_;(· (simp;done))) | (refine Ah (e2) ?_ ?_;(· (simp;done))) | (refine Ah (e3) ?_ ?_;(· (simp;done))) | (refine Ah (e4) ?_ ?_;(· (simp;done))) | (refine Ah (e5) ?_ ?_;(· (simp;done))) | (refine Ah (e6) ?_ ?_;(· (simp;done))) | (refine Ah (e7) ?_ ?_;(· (simp;done))));try simp[qX,d1,d2,d3,d4,w1,c1,q1,c2,q2,c3,q3,c5,q5,c6,q6, -Int.natCast_add]) | (refine⟨?_,?_⟩; · omega) | omega | apply_assumption -exfalso -symm | (exfalso;omega)))
 rw[if_neg c6]at hC;have q6:¬(2048:Int)<(T.size:Int):=by omega
 subst hC
 (repeat (first | refine AE fun K hK=> ?_ | (refine Bv Ch mxd (by kernel_rfl) ?_;simp[Ch,qX,d1,d2,d3,d4,w1,c1,q1,c2,q2,c3,q3,c5,q5,c6,q6, -Int.natCast_add];try simp (disch:=omega) only[Af]) | refine An ?_ | (refine AW ?_ ?_ ?_;(· (simp[qX,d1,d2,d3,d4,w1,c1,q1,c2,q2,c3,q3,c5,q5,c6,q6, -Int.natCast_add];done));(try (rotate_left;(· (intro hc;(try simp[qX,d1,d2,d3,d4,w1,c1,q1,c2,q2,c3,q3,c5,q5,c6,q6, -Int.natCast_add]at hc);done))))) | (refine AH ?_;simp[results13,qX,d1,d2,d3,d4,w1,c1,q1,c2,q2,c3,q3,c5,q5,c6,q6, -Int.natCast_add]) | ((first | refine Ay ?_ | refine Ax ?_);simp[qX,d1,d2,d3,d4,w1,c1,q1,c2,q2,c3,q3,c5,q5,c6,q6, -Int.natCast_add]) | (intro hc;(try simp[qX,d1,d2,d3,d4,w1,c1,q1,c2,q2,c3,q3,c5,q5,c6,q6, -Int.natCast_add]at hc);(try (exfalso;omega))) | ((first | refine Ai (e1) ?_ | refine Ai (e2) ?_ | refine Ai (e3) ?_ | refine Ai (e4) ?_ | refine Ai (e5) ?_ | refine Ai (e6) ?_ | refine Ai (e7) ?_ | (refine Ah (e1) ?_ ?_;(· (simp;done))) | (refine Ah (e2) ?_ ?_;(· (simp;done))) | (refine Ah (e3) ?_ ?_;(· (simp;done))) | (refine Ah (e4) ?_ ?_;(· (simp;done))) | (refine Ah (e5) ?_ ?_;(· (simp;done))) | (refine Ah (e6) ?_ ?_;(· (simp;done))) | (refine Ah (e7) ?_ ?_;(· (simp;done))));try simp[qX,d1,d2,d3,d4,w1,c1,q1,c2,q2,c3,q3,c5,q5,c6,q6, -Int.natCast_add]) | (refine⟨?_,?_⟩; · omega) | omega | apply_assumption -exfalso -symm | (exfalso;omega)))
def GU (b:Bool) (l:List ByteArray):List DVal:=l.map fun s=> .agg [.bool b,.str s]
def EJ (n:Nat):List DVal:=(List.range n).map fun i:Nat=>DVal.int .i64 (i:Int)
theorem Ir (b:Bool) (s:ByteArray) (l:List ByteArray):GU b (s::l)= .agg [.bool b,.str s]::GU b l:=rfl
theorem Il_ (b:Bool) (l:List ByteArray):(GU b l).length=l.length:=by simp[GU]
theorem VS (b:Bool) (l:List ByteArray) (s:ByteArray):GU b (l++[s])=GU b l++[.agg [.bool b,.str s]]:=by simp[GU]
theorem OD (n:Nat):EJ (n+1)=EJ n++[.int .i64 (n:Int)]:=by simp[EJ,dF0]
theorem Rs (n:Nat):(EJ n).length=n:=by simp[EJ]
@[simp] theorem NK_ (b:Bool) (l:List ByteArray):AR (GU b l)=0:=by
 induction l with
 | nil=>rfl
 | cons a l ih=>rw[Ir];simp[AR,mx,ih]
@[simp] theorem NH_ (n:Nat):AR (EJ n)=0:=by
 unfold EJ
 induction List.range n with
 | nil=>rfl
 | cons a l ih=>simp[AR,mx,ih]
theorem Ad_ (a b:Bool) (s x:ByteArray):Du (BH (.agg [.bool a,.str s])) (BH (.agg [.bool b,.str x]))=((a==b)&&(s==x)):=by
 simp[BH,Du,eqC]
theorem Jo {b:Bool}:∀{l:List ByteArray} {s:ByteArray},¬s∈l->AQ (GU b l) (.agg [.bool b,.str s])=none
 | [],_,_=>rfl
 | x::l,s,h=>by
  have h1:(s==x)=false:=by simp;intro e;exact h (by simp[e])
  rw[Ir,AQ,Ad_,h1,Jo (l:=l) (s:=s) fun hm=>h (aC0 _ hm)];simp
theorem Hs {b:Bool}:∀{l:List ByteArray} {s:ByteArray},AQ (GU (!b) l) (.agg [.bool b,.str s])=none
 | [],_=>rfl
 | x::l,s=>by
  rw[Ir,AQ,Ad_,Hs (l:=l) (s:=s)];cases b<;>simp
theorem Ms {b:Bool}:∀{l:List ByteArray} {s:ByteArray},s∈l->AQ (GU b l) (.agg [.bool b,.str s])=some (Mz l s)
 | [],_,h=>by simp at h
 | x::l,s,h=>by
  unfold Mz;rw[List.findIdx_cons,Ir,AQ,Ad_]
  by_cases h1:s=x
  ·subst h1;simp
  ·have h2:=Ms (b:=b) (l:=l) (s:=s) (by simpa[h1]using h);have h1b:(s==x)=false:=by simpa using h1
   rw[h2];simp[h1b,Mz]
theorem OX : ∀(a b:List DVal) (x:DVal),AQ (a++b) x=match AQ a x with | some j=>some j | none=>(AQ b x).map (· +a.length)
 | [],b,x=>by simp[AQ]
 | k::a,b,x=>by
  rw[List.cons_append,AQ,AQ,OX a b x]
  split
  ·rfl
  ·cases AQ a x with
   | some j=>rfl
   | none=>cases AQ b x<;>simp;omega
theorem XW (b:Bool) (l:List ByteArray):(GU b l).all (Ck prog 134)=true:=by
 induction l with
 | nil=>rfl
 | cons p l ih=>rw[Ir,dB0,ih];simp
def MT (H L:List ByteArray):List DVal:=GU false H++GU true L
def GM_ (H L:List ByteArray):List DVal:=EJ H.length++EJ L.length
abbrev FM (H L:List ByteArray):DVal:= .ref [Bg H,Bg L,.mp (MT H L) (GM_ H L)]
@[simp] theorem Om_ (H L:List ByteArray):AR (MT H L)=0:=by simp[MT]
@[simp] theorem Ol_ (H L:List ByteArray):AR (GM_ H L)=0:=by simp[GM_]
theorem GK_ (H L:List ByteArray):(MT H L).all (Ck prog 134)=true:=by
 unfold MT;rw[List.all_append,XW,XW];rfl
def PG (H L:List ByteArray) (b:Bool):List ByteArray:=if b then L else H
def Il (l:List ByteArray) (s:ByteArray):Int:=if s∈l then (Mz l s:Int)else 0
def JQ (l:List ByteArray) (s:ByteArray):Int:=if s∈l then 0 else 4
theorem QE {n i:Nat} (h:i<n):(EJ n)[i]? =some (.int .i64 (i:Int)):=by
 unfold EJ;rw[bN0,eQ0 h];rfl
theorem GL_ {H L:List ByteArray} {b:Bool} {s:ByteArray} (h:s∈PG H L b):∃j,AQ (MT H L) (.agg [.bool b,.str s])=some j/\(GM_ H L)[j]? =some (.int .i64 (Mz (PG H L b) s)):=by
 unfold MT GM_;rw[OX]
 cases b with
 | false =>
  have h':s∈H:=h;rw[Ms h'];have hi:=KA h';exact⟨_,rfl,by rw[aZ0 (by rw[Rs];exact hi)];exact QE hi⟩
 | true =>
  have h':s∈L:=h;have hi:=KA h';have h0:AQ (GU false H) (.agg [.bool true,.str s])=none:=Hs (b:=true);rw[h0,Ms h'];refine⟨_,rfl,?_⟩
  show (EJ H.length++EJ L.length)[Mz L s+(GU false H).length]? =_
  rw[Il_,bD0 (by rw[Rs];omega),Rs,Nat.add_sub_cancel];exact QE hi
theorem YW {H L:List ByteArray} {b:Bool} {s:ByteArray} (h:¬s∈PG H L b):AQ (MT H L) (.agg [.bool b,.str s])=none:=by
 unfold MT;rw[OX]
 cases b with
 | false =>
  have h':¬s∈H:=h;rw[Jo h',show AQ (GU true L) (.agg [.bool false,.str s])=none from Hs (b:=false)];rfl
 | true =>
  have h':¬s∈L:=h;rw[show AQ (GU false H) (.agg [.bool true,.str s])=none from Hs (b:=true),Jo h'];rfl
def CW_ : Ann:=⟨[],[]⟩
theorem Gg (H L:List ByteArray):Ad prog 94 [FM H L] (.bool true):=by
 refine Ac [] CW_ func94 call94 ntmps94 mxd (Aq @CW_.eq_1 results94) rfl (fun qJ B qX qQ=> ?_);clear qJ;simp only[Am];exact Au Aa Aa Aa
def CX_ : Ann:=⟨[],[]⟩
theorem Kt (H L:List ByteArray) (b:Bool) (s:ByteArray):Ad prog 93 [FM H L,.agg [.bool b,.str s]] (.tup [.int .i64 (Il (PG H L b) s),.int .i64 (JQ (PG H L b) s)]):=by
 refine Ac [] CX_ func93 call93 ntmps93 mxd (Aq @CX_.eq_1 results93) rfl (fun qJ B qX qQ=> ?_);clear qJ;simp only[Am];have e1:=Gg H L;have qY:=GK_ H L;unfold Il JQ
 by_cases h:s∈PG H L b
 ·obtain⟨j,h1,h2⟩:=GL_ h;rw[if_pos h,if_pos h];exact Au (AA e1) Aa (Ez qY h1 h2)
 ·have h1:=YW h;rw[if_neg h,if_neg h];exact Au (AA e1) Aa (Aq qY h1)
def CZ_ : Ann:=⟨[],[]⟩
theorem Mq (H L:List ByteArray) (s:ByteArray):Ad prog 30 [FM H L,.str s] (.tup [.int .i64 (Il H s),.int .i64 (JQ H s)]):=by
 refine Ac [] CZ_ func30 call30 ntmps30 mxd (Aq @CZ_.eq_1 results30) rfl (fun qJ B qX qQ=> ?_);clear qJ;simp only[Am];have e1:=Kt H L false s;rw[show PG H L false=H from rfl]at e1;exact Au (AA e1) Aa Aa
def CV_ : Ann:=⟨[],[]⟩
theorem LW (H L:List ByteArray) (s:ByteArray):Ad prog 95 [FM H L,.str s] (.tup [.int .i64 (Il L s),.int .i64 (JQ L s)]):=by
 refine Ac [] CV_ func95 call95 ntmps95 mxd (Aq @CV_.eq_1 results95) rfl (fun qJ B qX qQ=> ?_);clear qJ;simp only[Am];have e1:=Kt H L true s;rw[show PG H L true=L from rfl]at e1;exact Au (AA e1) Aa Aa
def EW (H L:List ByteArray) (x:Nd):Sym:=if x.k=3 then (if x.s∈L then ⟨true,Mz L x.s⟩else ⟨false,0⟩)else if x.k=2 then (if x.s∈H then ⟨false,Mz H x.s⟩else ⟨false,0⟩)else ⟨false,0⟩
def uJ (H L:List ByteArray) (x:Nd):Int:=if x.k=3 then JQ L x.s else if x.k=2 then JQ H x.s else 2
def oM : Ann:=⟨[],[]⟩
theorem RC (H L:List ByteArray) (x:Nd):Ad prog 102 [FM H L,.agg (Cf x)] (.tup [.agg (Az (EW H L x)),.int .i64 (uJ H L x)]):=by
 refine Ac [] oM func102 call102 ntmps102 mxd (Aq @oM.eq_1 results102) rfl (fun qJ B qX qQ=> ?_);clear qJ;simp only[Am];have e1:=Gg H L;have e2:=Mq H L x.s;have e3:=LW H L x.s;unfold EW uJ
 by_cases k3:x.k=3
 ·by_cases h:x.s∈L
  ·simp only[Il,JQ,h,if_true]at e3;exact Au (Ez e1 e2 e3) Aa (Ja @Cf.eq_1 @Az.eq_1 k3 h @JQ.eq_1)
  ·simp only[Il,JQ,h,if_false]at e3;exact Au (Ez e1 e2 e3) Aa (Ja @Cf.eq_1 @Az.eq_1 k3 h @JQ.eq_1)
 ·have k3':(x.k==3)=false:=by simpa using k3
  by_cases k2:x.k=2
  ·by_cases h:x.s∈H
   ·simp only[Il,JQ,h,if_true]at e2;exact Au (Ez e1 e2 e3) Aa (JB @Cf.eq_1 @Az.eq_1 k3 k3' k2 h @JQ.eq_1)
   ·simp only[Il,JQ,h,if_false]at e2;exact Au (Ez e1 e2 e3) Aa (JB @Cf.eq_1 @Az.eq_1 k3 k3' k2 h @JQ.eq_1)
  ·have k2':(x.k==2)=false:=by simpa using k2
   exact Au (Ez e1 e2 e3) Aa (JT @Cf.eq_1 @Az.eq_1 k3 k3' k2 k2')
def CY_ : Ann:=⟨[],[]⟩
theorem Jl (H L:List ByteArray):Ad prog 33 [FM H L] (Bg H):=by
 refine Ac [] CY_ func33 call33 ntmps33 mxd (Aq @CY_.eq_1 results33) rfl (fun qJ B qX qQ=> ?_);clear qJ;simp only[Am];have e1:=Gg H L;have e2:=Qa H;exact Au (Aq e1 e2) Aa Aa
def MT_ (i j:Nat) (T:ByteArray):List Ent:=if T.size=0 then [⟨i,1,.row 338 2 32 [[.nilp,.nilsl]]⟩]else [⟨i,1,.row 338 2 32 [[.rx i 1 2 0 0,.osl j 1]]⟩,⟨j,1,.row 5 1 1 (Ba T)⟩]
theorem Pn {i j:Nat} {T:ByteArray} (h:T.size=0):MT_ i j T=[⟨i,1,.row 338 2 32 [[.nilp,.nilsl]]⟩]:=if_pos h
theorem Ls {i j:Nat} {T:ByteArray} (h:T.size≠0):MT_ i j T=[⟨i,1,.row 338 2 32 [[.rx i 1 2 0 0,.osl j 1]]⟩,⟨j,1,.row 5 1 1 (Ba T)⟩]:=if_neg h
theorem Nr_ {T:ByteArray} (h:T.size=0):T=⟨#[]⟩:=by
 obtain⟨a⟩:=T;have:a= #[]:=Array.eq_empty_of_size_eq_zero h;rw[this]
theorem FK_ (x:ByteArray):(⟨#[]⟩:ByteArray)++x=x:=by
 apply ID
 simp[ByteArray.data_append]
end Go.Proofs.Wy
end
