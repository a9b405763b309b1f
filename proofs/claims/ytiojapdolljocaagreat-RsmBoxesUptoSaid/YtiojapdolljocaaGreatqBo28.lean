/- Parts of a proof, laid together: BN2, BN5, BN6, BN7. -/
import Derived.Shelf.SlIter.Nil
import Derived.Shelf.SlIter.Sorted
import Derived.Shelf.SortM.Plain
import Derived.Shelf.SortM.SortNone
import Derived.Test.YtiojapdolljocaaGreatqBo15
import Derived.Test.YtiojapdolljocaaGreatqBo22
import Derived.Test.YtiojapdolljocaaGreatqBo26
import Derived.Test.YtiojapdolljocaaGreatqBo27
set_option linter.unusedSimpArgs false
set_option maxHeartbeats 8000000
set_option linter.unusedVariables false
set_option linter.unusedSectionVars false
section
namespace Go.Proofs.Wy
open Go Go.Dm Tryz
variable [DMode]
attribute [local irreducible] DW Bm Bq
set_option maxRecDepth 100000
def Yg : Ann:=⟨[],[]⟩
theorem PQ (s:ByteArray):Ae prog 142 [.str s] (.bool (Dd 2 s)):=by
 refine Ac [] Yg func142 call142 ntmps142 mxd (Ar @Yg.eq_1 results142) rfl (fun qJ B qX qQ=> ?_);clear qJ;simp only[Ak];have e1:=Rx 2 (.inl rfl) s;simp only[BL]at e1;cases h:Dd 2 s
 ·rw[h]at e1;exact Aw (AJ e1) Ab Ab
 ·rw[h]at e1;exact Aw (AJ e1) Ab Ab
def Mc : Ann:=⟨[],[]⟩
theorem NP (g:FuncId) (us cs:List DVal) (l:List Rul) (q:Rul->Bool) (hq:∀x∈l,Ae prog g (us++[.agg (BB x)]++cs) (.bool (q x))) :
  Ae prog 192 [AB l,.fn (.func g) us cs] (.int .i64 (if l.any q then ((l.findIdx q:Nat):Int)else -1)):=by
 refine Ac [] Mc func192 call192 ntmps192 mxd (Ar @Mc.eq_1 results192) rfl (fun qJ B qX qQ=> ?_);have wK:=II qJ.1;clear qJ;simp only[Ak]
 (refine AX Ab Ab Ab ?_;intros;refine Am ?_)
 refine Al (X:={k:Nat//k<=l.length/\∀i x,i<k->l[i]? =some x->q x=false}) (fun x=>⟨[(0,AB l),(1,.fn (.func g) us cs),(7,.int .i64 l.length),(8,.int .i64 x.1)],[]⟩) (fun x=>l.length-x.1) ⟨0,by simp⟩ (Sub.lit (by simp)) ?_;rintro⟨k,hk,vS⟩
 by_cases qV:k<l.length
 ·obtain⟨x,hx,qA,vN⟩:=Ax qV;have fY:=hq x vN;simp only[BB,aT0,List.cons_append,List.nil_append]at fY;cases hb:q x
  ·rw[hb]at fY
   have bR:∀i y,i<k+1->l[i]? =some y->q y=false:=by
    intro i y hi hy
    by_cases gT:i=k
    ·subst gT;rw[hx]at hy;simp only[aA0]at hy;subst hy;exact hb
    ·exact vS i y (by omega) hy
   (refine AX (AJ fY) Ab (GE @BB.eq_1 qV qA) ?_;intros;refine Am ?_)
   exact An.mk ⟨k+1,by omega,bR⟩ (Sub.lit (by simp[])) (by simp;omega)
   skip
  ·rw[hb]at fY;have wS:l.any q=true:=cL0.2 ⟨x,vN,hb⟩
   have hidx:l.findIdx q=k:=by
    rw[List.findIdx_eq qV];refine⟨by rw[qA];exact hb,fun i hi=> ?_⟩;exact vS i _ hi (aD0 (by omega))
   exact Aw (AJ fY) Ab (Mj @BB.eq_1 qV qA wS hidx)
 ·have qZ:k=l.length:=by omega
  have wS:l.any q=false:=by
   rw[dX0];intro x hx;obtain⟨i,hi,rfl⟩:=bW0 hx;rw[vS i _ (by omega) (aD0 hi)];simp
  (repeat (first | refine AI fun K hK=> ?_ | (refine BS Mc mxd (by kernel_rfl) ?_;simp[Mc,qX,BB,qZ,wS];try simp (disch:=omega) only[Ai]) | refine Ao ?_ | (refine Bg ?_ ?_ ?_;(· (simp[qX,BB,qZ,wS];done));(try (rotate_left;(· (intro hc;(try simp[qX,BB,qZ,wS]at hc);done))))) | (refine AL ?_;simp[results192,qX,BB,qZ,wS]) | ((first | refine Az ?_ | refine Ay ?_);simp[qX,BB,qZ,wS]) | (intro hc;(try simp[qX,BB,qZ,wS]at hc);(try (exfalso;omega))) | ((first | refine Ag (fY) ?_ | (refine Af (fY) ?_ ?_;(· (simp;done))));try simp[qX,BB,qZ,wS]) | (refine⟨?_,?_⟩; · omega) | omega | apply_assumption -exfalso -symm | (exfalso;omega)))
def Yj : Ann:=⟨[],[]⟩
theorem KI (g:FuncId) (us cs:List DVal) (l:List Rul) (q:Rul->Bool) (hq:∀x∈l,Ae prog g (us++[.agg (BB x)]++cs) (.bool (q x))) :
  Ae prog 139 [AB l,.fn (.func g) us cs] (.bool (l.any q)):=by
 refine Ac [] Yj func139 call139 ntmps139 mxd (Ar @Yj.eq_1 results139) rfl (fun qJ B qX qQ=> ?_);simp only[Ak];have hi:=NP g us cs l q hq;have gG:(0:Int)<=(l.findIdx q:Nat):=by omega
 cases hb:l.any q
 ·rw[hb]at hi;exact Aw (AJ hi) Ab (AJ hb)
 ·rw[hb]at hi;exact Aw (AJ hi) Ab (AJ hb)
def Xj (r:Rul):Bool:= !(Dd 2 r.h&&CT r.b)
def Yh : Ann:=⟨[],[]⟩
theorem Sb (r:Rul) (hs:r.b.length<=1572864):Ae prog 141 [.agg (BB r)] (.bool (Xj r)):=by
 refine Ac [] Yh func141 call141 ntmps141 mxd (Ar @Yh.eq_1 results141) rfl (fun qJ B qX qQ=> ?_);clear qJ;simp only[Ak];have e1:=PQ r.h;unfold Xj;cases h1:Dd 2 r.h
 ·rw[h1]at e1;exact Aw (AJ e1) Ab (AJ @BB.eq_1)
 ·rw[h1]at e1;cases h2:CT r.b
  ·have e2:=Ui r.b hs h2;exact Aw (Ar e1 e2) Ab (AJ @BB.eq_1)
  ·obtain⟨t,ht,hb⟩:=Kh h2;have e2:=Kb t ht (by rw[<-hb];exact hs);rw[<-hb]at e2;have hp:1<=Ih t:=by cases t;rw[Ug];omega
   have qE:((Ih t:Int)==0)=false:=by simp;omega
   exact Aw (Ar e1 e2) Ab (Ar @BB.eq_1 qE)
def Yd : Ann:=⟨[],[]⟩
theorem pU (h:ByteArray) (t:RT) (ht:EZ t=true) (hs:(flat t).length<=1572864):Ae prog 148 [.agg (BB ⟨h,flat t⟩)] (.bool (decide (16<Ih t))):=by
 refine Ac [] Yd func148 call148 ntmps148 mxd (Ar @Yd.eq_1 results148) rfl (fun qJ B qX qQ=> ?_);clear qJ;simp only[Ak];have e2:=Kb t ht hs;have hd:decide (16<Ih t)=decide ((16:Int)<(Ih t:Int)):=decide_eq_decide.2 (by omega);rw[hd];exact Aw (AJ e2) Ab (AJ @BB.eq_1)
def Yk : Ann:=⟨[],[]⟩
theorem Mx (f:FuncId) (g:List Rul) (q:Rul->Bool) (hq:∀x∈g,Ae prog f [.agg (BB x)] (.bool (q x))):Ae prog 138 [AB g,.ref [.fn (.func f) [] []]] (.bool (g.any q)):=by
 refine Ac [] Yk func138 call138 ntmps138 mxd (Ar @Yk.eq_1 results138) rfl (fun qJ B qX qQ=> ?_);clear qJ;simp only[Ak];have e1:=KI f [] [] g q fun x hx=>by simpa using hq x hx
 exact Aw (AJ e1) Ab Ab
def Yi : Ann:=⟨[],[]⟩
theorem Mw (g:List Rul):Ae prog 140 [AB g] (.bool (decide (g.length<1)||decide (64<g.length))):=by
 refine Ac [] Yi func140 call140 ntmps140 mxd (Ar @Yi.eq_1 results140) rfl (fun qJ B qX qQ=> ?_);clear qJ;simp only[Ak];have h1:decide (g.length<1)=decide ((g.length:Int)<1):=decide_eq_decide.2 (by omega);have h2:decide (64<g.length)=decide ((64:Int)<(g.length:Int)):=decide_eq_decide.2 (by omega);rw[h1,h2]
 by_cases c:(g.length:Int)<1
 ·exact Aw Ab Ab (AJ c)
 ·exact Aw Ab Ab (AJ c)
def Yc : Ann:=⟨[],[]⟩
theorem pT (g:List Rul) (hn:(AK 2 g).length<=9223372036854775807):Ae prog 149 [AB g] (.bool (decide (0<(CF g).length))):=by
 refine Ac [] Yc func149 call149 ntmps149 mxd (Ar @Yc.eq_1 results149) rfl (fun qJ B qX qQ=> ?_);clear qJ;simp only[Ak];have e1:=HW g hn;have h2:decide (0<(CF g).length)=decide ((0:Int)<((CF g).length:Int)):=decide_eq_decide.2 (by omega);rw[h2];exact Aw (AJ e1) Ab Ab
def Yf : Ann:=⟨[],[]⟩
theorem pX (g:List Rul) (hl:g.length<=64) (hs:EE g):Ae prog 144 [AB g] (.bool (decide (16<(Av g).length+(CF g).length))):=by
 refine Ac [] Yf func144 call144 ntmps144 mxd (Ar @Yf.eq_1 results144) rfl (fun qJ B qX qQ=> ?_);clear qJ;simp only[Ak];have n2:=EQ (k:=2) hs;have e1:=HW g (by omega);have e2:=Lx g;have b1:=HK g
 have b2:(CF g).length<=110000000:=by
  have:=GH (AK 2 g);have:=cI0 (fun s=> !decide (s∈Av g)) (Ep (AK 2 g));unfold CF;omega
 obtain⟨H,hH⟩:∃H,H=Av g:=⟨_,rfl⟩;obtain⟨m,hm⟩:∃m,m=(CF g).length:=⟨_,rfl⟩;rw[<-hH]at e2 b1;rw[<-hm]at e1 b2;rw[<-hH,<-hm];have h2:decide (16<H.length+m)=decide ((16:Int)<(H.length:Int)+(m:Int)):=decide_eq_decide.2 (by omega);rw[h2];have w1:IntKind.i64.wrap ((H.length:Int)+(m:Int))=(H.length:Int)+(m:Int):=wq;exact Aw (Ar e1 e2) Ab (AJ w1)
def oD : Ann:=⟨[],[⟨4,[5],[],[]⟩]⟩
theorem Po (g:List Rul) (hs:EE g) (hl:g.length<=64):Ae prog 24 [AB g] (.int .i64 (BX g)):=by
 refine Ac [] oD func24 call24 ntmps24 mxd (Ar @oD.eq_1 results24) rfl (fun qJ B qX qQ=> ?_);clear qJ;simp only[Ak];have ho:=TQ hs
 (refine AX Ab Ab Ab ?_;intros;refine Am ?_)
 refine Al (X:={i:Nat//i<=g.length}) (fun i=>⟨[(0,AB g),(3,.int .i64 (BX (g.take i.1))),(6,AB g),(7,.int .i64 g.length),(8,.int .i64 i.1)],[]⟩) (fun i=>g.length-i.1) ⟨0,by omega⟩ (Sub.lit (by simp[BX])) ?_;rintro⟨i,hi⟩;simp only
 by_cases qV:i<g.length
 ·obtain⟨r,hr,wJ,gY⟩:=Ax qV;have e1:=Pp r.b;have h1:=Sg hr;have h2:=Ll g (i+1);have h3:=TP r.b;have w1:IntKind.i64.wrap ((BX (g.take i):Int)+(EP r.b:Int))=(BX (g.take (i+1)):Int):=by rw[wq];omega
  have w2:IntKind.i64.wrap ((i:Int)+1)=(i:Int)+1:=wq
  (refine AX (AJ e1) Ab (MY @BB.eq_1 qV hr wJ w1 w2) ?_;intros;refine Am ?_)
  refine An.mk ⟨i+1,by omega⟩ (Sub.lit (by simp)) (by simp;omega)
  skip
 ·have qZ:i=g.length:=by omega
  subst qZ;rw[bC0];exact Aw Ab Ab Ab
def Ye : Ann:=⟨[],[]⟩
theorem pV (g:List Rul) (hs:EE g) (hl:g.length<=64):Ae prog 147 [AB g] (.bool (decide (64<BX g))):=by
 refine Ac [] Ye func147 call147 ntmps147 mxd (Ar @Ye.eq_1 results147) rfl (fun qJ B qX qQ=> ?_);clear qJ;simp only[Ak];have e1:=Po g hs hl;have h2:decide (64<BX g)=decide ((64:Int)<(BX g:Int)):=decide_eq_decide.2 (by omega);rw[h2];exact Aw (AJ e1) Ab Ab
def EG (t:RT):Bool:=decide ((flat t).length<=2048)&&decide (CV t=0)
def Zb (t:RT):DVal:=if (flat t).length<=2048 then (if CV t=0 then .tup [.str (CH t),.int .i64 0]else .tup [.str ⟨#[]⟩,.int .i64 (CV t)])else .tup [.str ⟨#[]⟩,.int .i64 3]
def Ht : Ann:=⟨[],[]⟩
theorem Ri (t:RT) (ht:EZ t=true):Ae prog 193 [Bl (flat t)] (Zb t):=by
 unfold Zb
 by_cases hl:(flat t).length<=2048
 ·rw[if_pos hl];have e1:=LI t ht hl;have e2:=KO _ t rfl ht (by omega);obtain⟨b,hb⟩:∃b,b=flat t:=⟨_,rfl⟩;rw[<-hb]at e1 e2 |-
  by_cases h0:CV t=0
  ·rw[if_pos h0];rw[h0]at e1;refine Ac [] Ht func193 call193 ntmps193 mxd (Ar @Ht.eq_1 results193) rfl (fun qJ B qX qQ=> ?_);clear qJ;simp only[Ak];exact Aw (Ar e1 e2) Ab Ab
  ·rw[if_neg h0];have vD:(CV t != 0)=true:=by simpa using h0
   refine Ac [] Ht func193 call193 ntmps193 mxd (Ar @Ht.eq_1 results193) rfl (fun qJ B qX qQ=> ?_);clear qJ;simp only[Ak];have z0:(⟨#[]⟩:ByteArray).size<=maxLen:=dB0 _;exact Aw (AJ e1) Ab (GE h0 vD z0)
 ·rw[if_neg hl];have e1:=LJ (flat t) (by omega);obtain⟨b,hb⟩:∃b,b=flat t:=⟨_,rfl⟩;rw[<-hb]at e1 |-;refine Ac [] Ht func193 call193 ntmps193 mxd (Ar @Ht.eq_1 results193) rfl (fun qJ B qX qQ=> ?_);clear qJ;simp only[Ak];have z0:(⟨#[]⟩:ByteArray).size<=maxLen:=dB0 _;exact Aw (AJ e1) Ab (AJ z0)
theorem ND (x:ByteArray) (hx:x.size≠0):Bh prog (.func 195) [.rx 0 0 2 0 0] [⟨0,0,.row 232 2 32 [[.rx 0 0 2 0 0,.osl 1 0]]⟩,⟨1,0,.row 5 1 1 (AP x)⟩] (.str x) [⟨0,0,.row 232 2 32 [[.rx 0 0 2 0 0,.sl 1 1 (AP x)]]⟩] :=
 Ja Tryz.bldString Xg call195 32 x hx
def Yb : Ann:=⟨[],[]⟩
theorem Wm (x:ByteArray):Bh prog (.func 196) [.rx 0 0 2 0 0] [⟨0,0,.row 232 2 32 [[.rx 0 0 2 0 0,.sl 1 1 (AP x)]]⟩] (.int .i64 x.size) [⟨0,0,.row 232 2 32 [[.rx 0 0 2 0 0,.sl 1 1 (AP x)]]⟩]:=by
 refine BI [] [(0,0,0)] Yb func196 call196 ntmps196 mxd (Ar @Yb.eq_1 results196) rfl (fun qJ B qX qQ=> ?_) (hv:=(by simp[Ft]));clear qJ;simp only[Ak];have h1:=AS x;have h2:=Ft x;obtain⟨D,hD⟩:∃D,D=AP x:=⟨_,rfl⟩;rw[<-hD]at h1 h2 |-;exact Aw Ab Ab (AJ h1)
theorem RW (p:ByteArray×RT):(HU p).size≠0:=by
 unfold HU;simp only[aQ0];have z3:(⟨#[32,61,32]⟩:ByteArray).size=3:=rfl;omega
def IE (gt:GT):Bool:=gt.all (fun p=>EG p.2)&&decide ((BP gt).size<=2048)
def aQ (gt:GT):ByteArray:=if gt.all (fun p=>EG p.2)then BP gt else ⟨#[]⟩
theorem oP {gt:GT} (h:1<=gt.length):(BP gt).size≠0:=by
 have h1:=Fy (aD0 (show 0<gt.length by omega));have h2:=JS gt 1;rw[h1,aQ0]at h2;have:=RW (gt[0]'(by omega));omega
def Mb : Ann:=⟨[29,31,32],[⟨1,[4],[],[]⟩,⟨4,[6],[],[]⟩]⟩
theorem Tk (gt:GT) (hk:tU gt) (hs:EE (AY gt)) (h1:1<=gt.length) (hl:gt.length<=64):Ae prog 151 [AB (AY gt)] (.tup [.str (aQ gt),.bool (IE gt)]):=by
 refine Ac [] Mb func151 call151 ntmps151 mxd (Ar @Mb.eq_1 results151) rfl (fun qJ B qX qQ=> ?_);clear qJ;simp only[Ak];have vT:=Fi gt;have jP:=fun i p=>Zt (gt:=gt) (i:=i) (p:=p)
 have yM:=fun p=>It hs (p:=p)
 have zA:=Ki hk hs;have mU:=fun p=>OT hk hs (p:=p)
 obtain⟨g,hg⟩:∃g,g=AY gt:=⟨_,rfl⟩;rw[<-hg]at vT jP |-;clear hs hg;obtain⟨R,hR⟩:∃R,R=aQ gt:=⟨_,rfl⟩;obtain⟨O,hO⟩:∃O,O=IE gt:=⟨_,rfl⟩;rw[<-hR,<-hO];have z3:(⟨#[32,61,32]⟩:ByteArray).size=3:=rfl;have z4:(⟨#[32,59,10]⟩:ByteArray).size=3:=rfl;have m3:3<=maxLen:=by decide
 have m1:1<=maxLen:=by decide
 have mbig:3000000000<=maxLen:=by decide
 have z0:(⟨#[]⟩:ByteArray).size<=maxLen:=dB0 _;refine AI fun K0 hK0=> ?_
 (first | refine AI fun K hK=> ?_ | (refine BS Mb mxd (by kernel_rfl) ?_;simp[Mb,qX,z0];try simp (disch:=omega) only[Ai]) | refine Ao ?_ | (refine Bg ?_ ?_ ?_;(· (simp[qX,z0];done));(try (rotate_left;(· (intro hc;(try simp[qX,z0]at hc);done))))) | (refine AL ?_;simp[results151,qX,z0]) | ((first | refine Az ?_ | refine Ay ?_);simp[qX,z0]) | (intro hc;(try simp[qX,z0]at hc);(try (exfalso;omega))) | (refine⟨?_,?_⟩; · omega) | omega | apply_assumption -exfalso -symm | (exfalso;omega))
 apply hK0
 refine AI fun K1 hK1=> ?_
 refine Na (bs:=32) (k:=2) (z:=[.nilp,.nilsl]) (by simp[qX]) (by simp) (by rfl) rfl (by decide) (fun r hr=> ?_);simp
 apply hK1
 (refine AX Ab Ab Ab ?_;intros;refine Am ?_)
 refine Al (X:={i:Nat//i<=gt.length/\(gt.take i).all (fun p=>EG p.2)=true}) (fun i=>⟨[(0,AB g),(4,.rx 4 1 2 0 0),(9,AB g),(10,.int .i64 gt.length),(11,.int .i64 i.1)],Et_ 4 50 (BP (gt.take i.1))⟩) (fun i=>gt.length-i.1) ⟨0,by simp⟩ (Sub.lit (by simp only[dY0,show BP []=⟨#[]⟩ from rfl,MT (T:=⟨#[]⟩) rfl];simp[vT])) ?_;rintro⟨i,hi,qI⟩;simp only
 by_cases qV:i<gt.length
 ·obtain⟨p,hp,zS,gO⟩:=Ax qV;have hr:=jP i p hp;have qP:i<g.length:=by omega
  have wJ:g[i]'qP=⟨p.1,flat p.2⟩:=(aG0.1 hr).2;have e1:=Ri p.2 (hk p gO).2;have w2:IntKind.i64.wrap ((i:Int)+1)=(i:Int)+1:=wq;unfold Zb at e1;obtain⟨b,hb⟩:∃b,b=flat p.2:=⟨_,rfl⟩;have cH:(gt.take (i+1)).all (fun p=>EG p.2)=EG p.2:=by rw[bP0,hp,List.all_append,qI];simp
  by_cases hpr:EG p.2=true
  ·have mW:=hpr;unfold EG at mW;rw[aN0,decide_eq_true_eq,decide_eq_true_eq]at mW;rw[if_pos mW.1,if_pos mW.2]at e1;rw[<-hb]at hr wJ e1;rw[hpr]at cH;have wP:=Fy hp;have hrs1:=mU p gO;have mQ:=zA i hi;have hrp:=RW p;have wT:HU p=p.1++⟨#[32,61,32]⟩++CH p.2++⟨#[32,59,10]⟩:=rfl;obtain⟨s,hs⟩:∃s,s=CH p.2:=⟨_,rfl⟩;rw[<-hs]at e1 wT;obtain⟨T,hT⟩:∃T,T=BP (gt.take i):=⟨_,rfl⟩;rw[<-hT]at wP mQ |-;obtain⟨U,hU⟩:∃U,U=HU p:=⟨_,rfl⟩
   rw[<-hU]at hrs1 hrp wT wP;have hUs:U.size=p.1.size+3+s.size+3:=by rw[wT];simp only[aQ0,z3,z4]
   have y2:p.1.size+3<=maxLen:=by omega
   have y3:p.1.size+3+s.size<=maxLen:=by omega
   have y4:p.1.size+3+s.size+3<=maxLen:=by omega
   have hNs:(BP (gt.take (i+1))).size≠0:=by rw[wP,aQ0];omega
   have wZ:=Ju (i:=4) (j:=50) hNs
   by_cases hT0:T.size=0
   ·rw[MT hT0];have e2:=NC U (by omega);rw[ER_ hT0,sV]at wP;rw[wT]at e2
    (refine AX (AJ e1) (AJ (Ji [(4,0)] [(50,1)] e2)) (Ex_ @BB.eq_1 qV qP hr wJ z3 z4 m3 m1 y2 y3 y4 @aQ0 w2) ?_;intros;refine Am ?_)
    refine An.mk ⟨i+1,by omega,cH⟩ (Sub.lit (by rw[wZ,wP,wT];simp)) (by simp;omega)
    skip
   ·rw[Ju hT0];have e2:=Cv T U (by omega);rw[<-wP]at e2;rw[wT]at e2
    (refine AX (AJ e1) (AJ (Ji [(4,0),(50,1)] [] e2)) (Ex_ @BB.eq_1 qV qP hr wJ z3 z4 m3 m1 y2 y3 y4 @aQ0 w2) ?_;intros;refine Am ?_)
    refine An.mk ⟨i+1,by omega,cH⟩ (Sub.lit (by rw[wZ];simp)) (by simp;omega)
    skip
  ·have gV:gt.all (fun p=>EG p.2)=false:=by
    rw[Bool.eq_false_iff];intro hh;rw[bB0]at hh;exact hpr (hh p gO)
   have vJ:R=⟨#[]⟩:=by rw[hR];unfold aQ;rw[gV];rfl
   have hO2:O=false:=by rw[hO];unfold IE;rw[gV];rfl
   subst vJ;subst hO2
   obtain⟨c,yN,e2⟩:∃c:Int,(c != 0)=true/\Ae prog 193 [Bl (flat p.2)] (.tup [.str ⟨#[]⟩,.int .i64 c]):=by
    by_cases zH:(flat p.2).length<=2048
    ·rw[if_pos zH]at e1
     by_cases h0:CV p.2=0
     ·exact absurd (by unfold EG;simp[zH,h0]) hpr
     ·rw[if_neg h0]at e1;exact⟨_,by simpa using h0,e1⟩
    ·rw[if_neg zH]at e1;exact⟨3,rfl,e1⟩
   have dE:¬c=0:=by simpa using yN
   rw[<-hb]at hr wJ e2;obtain⟨T,hT⟩:∃T,T=BP (gt.take i):=⟨_,rfl⟩;rw[<-hT];clear e1
   by_cases hT0:T.size=0
   ·rw[MT hT0];exact Aw (AJ e2) Ab (Mi @BB.eq_1 qV qP hr wJ yN dE z0)
   ·rw[Ju hT0];exact Aw (AJ e2) Ab (Mi @BB.eq_1 qV qP hr wJ yN dE z0)
 ·have qZ:i=gt.length:=by omega
  subst qZ;rw[bC0]at qI |-;have qE:=oP h1;have mQ:=zA gt.length (Nat.le_refl _);rw[bC0]at mQ;have vJ:R=BP gt:=by rw[hR];unfold aQ;rw[qI];rfl
  have hO2:O=decide ((BP gt).size<=2048):=by rw[hO];unfold IE;rw[qI];rfl
  obtain⟨T,hT⟩:∃T,T=BP gt:=⟨_,rfl⟩;rw[<-hT]at qE vJ hO2 mQ |-;have hO3:decide (T.size<=2048)=decide ((T.size:Int)<=2048):=decide_eq_decide.2 (by omega);rw[hO3]at hO2;clear hR hO hO3;subst vJ;subst hO2;rw[Ju qE];have e1:=ND R qE;have e2:=Wm R;have h2:=Ft R;exact Aw Ab (Ar (Ji [(4,0),(50,1)] [] e1) (Ji [(4,0)] [] e2)) (AJ vT)
end Go.Proofs.Wy
end
section
namespace Go.Proofs.Wy
open Go Go.Dm Go.RowKit Go.Maps Go.Sort Go.Shelf Go.Proofs
set_option maxRecDepth 100000
theorem DP_ (m:Nat):AnyZ.SortsIn Tryz.prog Tryz.sortedM_ren Fence.wide m :=
 ⟨fun blk off cap ss W hH hblk qF=>callsIn_wide.2 (AnyM.slices_Sort_string Tryz.sortStr blk off cap ss W hH hblk qF),
  fun p cap W=>callsIn_wide.2 (AnyM.slices_Sort_string_none Tryz.sortStr p cap W)⟩
theorem RM {cur:Er} {M:List Nat} {h:Array Obj}:∀{K:List ByteArray} {vs:List Value},Au cur M h (Dx K) vs->vs=K.map Value.string/\∀s∈K,s.size<=maxLen
 | [],vs,hr=>by
  simp only[Dx,List.map_nil,Au]at hr;subst hr;simp
 | s::K,vs,hr=>by
  rw[Df]at hr;simp only[Au,Dm.rd]at hr;obtain⟨v,r,rfl,⟨rfl,hs⟩,h2⟩:=hr;obtain⟨h3,h4⟩:=RM h2;subst h3;refine⟨rfl,fun x hx=> ?_⟩
  rcases aJ0.1 hx with rfl | hx
  ·exact hs
  ·exact h4 x hx
def BH_ : Value->Option (DataW Unit×List MemPlace):=fun _=>some (.nil,[])
theorem Cl_ {w:World} {b:Nat} {es:Array MapEntry} {clk:Nat} {K:List ByteArray} (hb:w.heap[b]? =some (.map es clk)) (hB:MS es clk) (hk:es.toList.map (·.key)=K.map Value.string) (qF:∀s∈K,s.size<=maxLen) (hn:K.Nodup) (hl:K.length<=maxLen) :
  ∃D0:DataW Unit,w.ownsMap Tryz.prog 9 BH_ b K.length D0/\(strKeys D0).Perm (K.map fun s=>s.data.toList)/\Maps.size D0=K.length:=by
 have wB:es.size=K.length:=by
  have:=congrArg List.length hk;simpa using this
 have nY:∀x∈es.toList,∃s∈K,x.key= .string s/\WideElems.rd Tryz.prog 9 BH_ x=some (.string s.data.toList,.nil):=by
  intro x hx;have:x.key∈K.map Value.string:=by rw[<-hk];exact cP0 hx
  obtain⟨s,hs,he⟩:=aR0.1 this;refine⟨s,hs,he.symm,?_⟩;obtain⟨k,v,bn⟩:=x;simp only at he;subst he;exact WideElems.rd_mk (WideMaps.keyOf_string_mk Tryz.underlying9 (qF s hs)) (show BH_ v=some (.nil,[]) from rfl)
 have hE:es.toList.map (WideElems.rg Tryz.prog 9 BH_)=K.map fun s=>(Lit.string s.data.toList,DataW.nil):=by
  have h1:es.toList.map (WideElems.rg Tryz.prog 9 BH_)=(es.toList.map (·.key)).map fun v=>match v with | .string s=>(Lit.string s.data.toList,DataW.nil) | _=>(.bool false,.nil):=by
   rw[bY0];refine bV0 fun x hx=> ?_
   obtain⟨s,_,he,hr⟩:=nY x hx;rw[WideElems.rg_of hr];simp[he]
  rw[h1,hk,bY0];rfl
 refine⟨_,⟨es,clk,hb,⟨by omega,⟨hB.2,hB.1,?_⟩,fun x hx=> ?_⟩,by omega,rfl⟩,?_,?_⟩
 ·rw[hk];exact cX0.2 (hn.imp fun h e=>h (by cases e;rfl))
 ·obtain⟨s,_,_,hr⟩:=nY x hx;exact⟨_,hr⟩
 ·show ((_:List (Lit×DataW Unit)).map fun p=>strOf p.1).Perm _
  refine((WideShapes.sorted_perm _).map _).trans ?_;rw[hE,bY0];exact List.Perm.refl _
 ·show (_:List (Lit×DataW Unit)).length=_
  rw[(WideShapes.sorted_perm _).length_eq,hE,aO0]
theorem oN {w w':World} (h:Below w.heap.size w w'):Upd [] w w':=⟨h.os,h.tape,h.output,fun hd=>Bool.noConfusion hd,h.size,fun b hb _=>h.block b hb⟩
theorem Tp {K:List ByteArray} (hn:K.Nodup):Str (Ge K):=by
 have h1:=KU K
 have h2:(Ge K).Nodup:=by
  unfold Ge;refine cX0.2 (List.Pairwise.imp (R:=(· ≠ ·)) (fun {a b:List UInt8} h (e:(⟨a.toArray⟩:ByteArray)=⟨b.toArray⟩)=>h (by have:=congrArg (fun x:ByteArray=>x.data.toList) e;simpa using this)) ?_);exact(dU0 _ _).nodup_iff.2 (cX0.2 (hn.imp fun h e=>h (Hk e)))
 refine(h1.and h2).imp ?_;rintro a b ⟨h3,h4⟩;cases h5:CE a b
 ·exact absurd (Jj h5 h3) h4
 ·rfl
theorem YO {K es:List ByteArray} (hn:K.Nodup) (hm:∀s,s∈K↔s∈es):Ge K=Ep es:=aM (Tp hn) fun x=>by rw[RS,hm x]
theorem JY (g:List Rul) (yM:(AK 3 g).length*16<=140737488355328):Ae Tryz.prog 51 [AB g] (Bu (AC g)):=by
 refine⟨Tryz.call51,by simp[mx],fun cur M w vs hM hr=> ?_⟩;simp only[Au]at hr;obtain⟨v0,r0,wF,h0,rfl⟩:=hr;have vB:vs= #[v0]:=by cases vs;simpa using wF
 subst vB;have qW:=ZP (AK 3 g);have hN:=JW g 3;obtain⟨m,hm⟩:∃m,m=NS (AK 3 g):=⟨_,rfl⟩;rw[<-hm]at hN qW;obtain⟨_,_,hN⟩:=hN
 have hN:=(hN M w (fun _=>⟨[],Go.undef⟩) #[v0,.int .i64 3] ⟨by simp,by simp[Aa],by simp[Aa],fun b hb=>hM b (by simpa[Aa]using hb),by simp⟩ (by
  simp only[Au];refine⟨v0,_,rfl,?_,_,_,rfl,by simp[Dm.rd],rfl⟩
  exact Cc (n:=0) ⟨fun _ _ _ h _=>absurd h (eE0 _),fun _ _ _ _ h=>h,fun b _ hb _ _ hm=>hb (by simpa[Aa]using hm)⟩ _ _ (by simp[mx]) h0)).2
 have cK:∀mb W,CallsIn Fence.wide 5 Tryz.prog 100 #[.map mb] W fun e w'=>e= .returned (.func (.func 155) #[] #[.pointer (some ⟨W.heap.size,0,none⟩)])/\w'=W.alloc (.cells #[.map mb] 161):=fun mb W=>AnyZ.keys_in Tryz.keysM Fence.wide 5 trivial rfl mb W
 have hf1:Fence.wide.fn 101:=trivial;have hf2:Fence.wide.fn 100:=trivial;have hf3:Fence.wide.fn 99:=trivial;refine(callsIn_wide (n:=6)).1 ?_;refine callsIn_of_wp Tryz.func51 rfl trivial ?_ rfl;simp only[Tryz.ntmps51,dJ0,List.length_cons,List.length_nil,Nat.reduceAdd,Nat.reduceSub,Array.replicate_succ,Array.replicate_zero,List.push_toArray,List.append_toArray,List.nil_append,List.cons_append]
 gi_wp2_with (gi_at_call 101;refine(callsIn_wide.2 hN).mono ?_;rintro e w1 ⟨v1,rfl,loc1,S1,U1,hnew1,hver1,hrd1⟩)
 simp only[Dm.rd]at hrd1;obtain⟨b,qR,rfl⟩:=hrd1 (loc1 0) rfl;have hO:=S1.ok _ (aE0.2 rfl);obtain⟨b',es,clk,wM,nM,gJ,cZ,_⟩:=hO;simp only at wM;rw[qR]at wM;simp only[bG0,and_true]at wM;subst wM;obtain⟨hke,zV⟩:=RM cZ;have qU:m.K.length<=(AK 3 g).length:=qW.le;have bS:m.K.length<=maxLen:=by unfold maxLen;omega
 have jM:b<w1.heap.size:=(aC0.1 nM).1;obtain⟨D0,jV,yP,hsize⟩:=Cl_ (w:=w1.alloc (.cells #[.map (some b)] 161)) (b:=b) (by rw[<-nM];simp only[World.alloc,bO0];rw[if_neg (by omega)]) gJ hke zV qW.nd bS
 gi_wp2_with (gi_at_call 100;refine(cK _ _).mono ?_;rintro e w2 ⟨rfl,rfl⟩)
 have hseq:SeqGives Fence.wide 2 Tryz.prog 155 #[.pointer (some ⟨w1.heap.size,0,none⟩)] encStr (fun ss=>ss.Perm (strKeys D0)) (Maps.size D0) (w1.alloc (.cells #[.map (some b)] 161)) :=
  AnyZ.keys_gives (ρ:=Tryz.keysM_ren) { Tryz.keysM with } Fence.wide _ trivial rfl (by omega) w1.heap.size b m.K.length D0 _ (by simp) (by simp) jV
 have cS:=AnyZ.sorted_in Tryz.sortedM Fence.wide 5 trivial trivial trivial trivial rfl (by omega) (DP_ _) (enters_of Tryz.func154 (by kernel_rfl) rfl) 155 #[.pointer (some ⟨w1.heap.size,0,none⟩)] trivial (enters_of Tryz.func155 (by kernel_rfl) rfl) _ _ (by omega) (by omega) _ hseq
 change CallsIn _ _ Tryz.prog 99 _ _ _ at cS
 gi_wp2_with (gi_at_call 99;refine cS.mono ?_;rintro e w3 ⟨v,ss,rfl,hS,wN,hnil,hb3⟩)
 go_ret
 have hU:Upd [] w w3:=(show Upd [] w w1 from U1).trans ((Upd.alloc [] w1 _).trans (oN hb3) (by simp)) (by simp)
 have dN:(ss.mergeSort fun x y=>decide (x<=y)).map (fun x=>(⟨x.toArray⟩:ByteArray))=AC g:=by
  have h1:ss.mergeSort leB=(m.K.map fun s=>s.data.toList).mergeSort leB:=mergeSort_of_perm (hS.trans yP);have h2:=YO qW.nd qW.mem;unfold Ge at h2;unfold AC;rw[<-h2,<-h1]
 have fQ:ss.length=m.K.length:=by rw[hS.length_eq,yP.length_eq,aO0]
 refine⟨v,rfl,hU,?_⟩;simp only[Dm.rd];rw[<-dN];obtain⟨_,wN⟩:=wN
 rcases wN with ⟨rfl,hz⟩ | ⟨gb,cap,cur2,rfl,hbase,hgb,r1,r2,r3,r4⟩
 ·have h0:ss=[]:=bK0 hz;subst h0;exact⟨none,0,by simp,by simp,by simp,by simp,.inl ⟨by simp,fun _=>rfl⟩⟩
 ·have vT:(ss.mergeSort fun x y=>decide (x<=y)).length=ss.length:=List.length_mergeSort _;refine⟨some ⟨gb,0,none⟩,cap,by simp,by simpa using r1,r2,?_,.inr ⟨gb,0,cur2,_,(0,0),rfl,fun hm=> ?_,hgb,?_⟩⟩
  ·simp only[aO0,vT];omega
  ·have h1:=hM gb hm;have h2:=U1.size;simp at hbase;omega
  ·refine FD _ _ _ _ fun i cs hi=> ?_
   rw[bM0,bM0,Option.map_map,bA0]at hi;obtain⟨x,hx,rfl⟩:=hi;refine⟨rfl,?_⟩;have fN:i<ss.length:=by have:=(aG0.1 hx).1;omega
   have vZ:cur2[i]? =some (encStr x):=by
    have h1:(cur2.toList.take (ss.length*1))[i]? =some (encStr x):=by rw[r4,bM0,hx];rfl
    rw[bL0 (by omega)]at h1;simpa using h1
   have dY:x.length<=maxLen:=by
    have h1:x∈m.K.map fun s=>s.data.toList:=(hS.trans yP).mem_iff.1 ((dU0 ss _).mem_iff.1 (bU0 hx))
    obtain⟨s,hs,rfl⟩:=aR0.1 h1;exact zV s hs
   simp only[Function.comp_apply,AE,Dz,and_true];exact⟨encStr x,by simpa using vZ,rfl,by simp only[Dm.rd];exact⟨trivial,dY⟩⟩
end Go.Proofs.Wy
end
section
namespace Go.Proofs.Wy
open Go Go.Dm Tryz
attribute [local irreducible] DW Bm Bq
set_option maxRecDepth 100000
def XZ : Ann:=⟨[],[]⟩
theorem pW (g:List Rul) (hl:g.length<=64) (hs:EE g):Ae prog 146 [AB g] (.bool (decide (16<(AC g).length))):=by
 refine Ac [] XZ func146 call146 ntmps146 mxd (Ar @XZ.eq_1 results146) rfl (fun qJ B qX qQ=> ?_);clear qJ;simp only[Ak];have n3:=EQ (k:=3) hs;have e1:=JY g (by omega);obtain⟨H,hH⟩:∃H,H=AC g:=⟨_,rfl⟩;rw[<-hH]at e1;rw[<-hH];have h2:decide (16<H.length)=decide ((16:Int)<(H.length:Int)):=decide_eq_decide.2 (by omega);rw[h2];exact Aw (AJ e1) Ab Ab
def XY : Ann:=⟨[],[]⟩
theorem pS (gt:GT) (hk:tU gt) (hs:EE (AY gt)) (h1:1<=gt.length) (hl:gt.length<=64):Ae prog 150 [AB (AY gt)] (.bool (!IE gt)):=by
 refine Ac [] XY func150 call150 ntmps150 mxd (Ar @XY.eq_1 results150) rfl (fun qJ B qX qQ=> ?_);clear qJ;simp only[Ak];have e1:=Tk gt hk hs h1 hl;obtain⟨g,hg⟩:∃g,g=AY gt:=⟨_,rfl⟩;rw[<-hg]at e1 |-;exact Aw (AJ e1) Ab Ab
def Ya : Ann:=⟨[],[]⟩
theorem Sa (f:FuncId):Ae prog 137 [.fn (.func f) [] []] (.fn (.func 138) [] [.ref [.fn (.func f) [] []]]):=by
 refine Ac [] Ya func137 call137 ntmps137 mxd (Ar @Ya.eq_1 results137) rfl (fun qJ B qX qQ=> ?_) (hd:=(by simp[mx,AH]));clear qJ;simp only[Ak];exact Aw Ab Ab Ab
structure Ask where
 f:FuncId
 cs:List DVal
 b:Bool
 e:Int
def Qo (x:Ask):List DVal:=[.fn (.func x.f) [] x.cs,.int .i64 x.e]
def Gc (b1 b2 b3 b4 b5 b6 b7 b8:Bool):List Ask :=
 [⟨140,[],b1,180⟩,⟨138,[.ref [.fn (.func 141) [] []]],b2,170⟩,⟨144,[],b3,181⟩,⟨146,[],b4,182⟩,⟨147,[],b5,183⟩,⟨138,[.ref [.fn (.func 148) [] []]],b6,171⟩,⟨149,[],b7,184⟩,⟨150,[],b8,174⟩]
def nI : Ann:=⟨[],[]⟩
theorem Gw (b1 b2 b3 b4 b5 b6 b7 b8:Bool):Ae prog 97 [] (.sl 2 16 ((Gc b1 b2 b3 b4 b5 b6 b7 b8).map Qo)):=by
 refine Ac [] nI func97 call97 ntmps97 mxd (Ar @nI.eq_1 results97) rfl (fun qJ B qX qQ=> ?_) (hd:=(by simp[mx,Bo,AH,Gc,Qo]));clear qJ;simp only[Ak,Gc,Qo,List.map_cons,List.map_nil];have e1:=Sa 141;have e2:=Sa 148;have r8:List.range 8=[0,1,2,3,4,5,6,7]:=rfl;exact Aw (Ar e1 e2) Ab (AJ r8)
def KB : List Ask->Int
 | []=>0
 | x::l=>if x.b then x.e else KB l
def nK : Ann:=⟨[],[⟨3,[4],[],[]⟩]⟩
theorem IZ (g:List Rul) (l:List Ask) (hl8:l.length=8) (vU:Bo (l.map Qo)=0) (ho:Ae prog 97 [] (.sl 2 16 (l.map Qo)))
  (hq:∀(k:Nat) (x:Ask),l[k]? =some x->(∀(j:Nat) (y:Ask),j<k->l[j]? =some y->y.b=false)->Ae prog x.f (AB g::x.cs) (.bool x.b)):Ae prog 49 [AB g] (.int .i64 (KB l)):=by
 refine Ac [] nK func49 call49 ntmps49 mxd (Ar @nK.eq_1 results49) rfl (fun qJ B qX qQ=> ?_);clear qJ;simp only[Ak];obtain⟨R,hR⟩:∃R,R=KB l:=⟨_,rfl⟩;rw[<-hR]
 (refine AX (AJ ho) Ab Ab ?_;intros;refine Am ?_)
 refine Al (X:={k:Nat//k<=l.length/\R=KB (l.drop k)/\∀(j:Nat) (y:Ask),j<k->l[j]? =some y->y.b=false}) (fun x=>⟨[(0,AB g),(5,.sl 2 16 (l.map Qo)),(6,.int .i64 l.length),(7,.int .i64 x.1)],[]⟩) (fun x=>l.length-x.1) ⟨0,by simp[hR]⟩ (Sub.lit (by simp[vU])) ?_;clear hR;rintro⟨k,hk,hR,vS⟩
 by_cases qV:k<l.length
 ·obtain⟨x,hx,qA,vN⟩:=Ax qV;rw[aW0 qV,qA,KB]at hR;have e1:=hq k x hx vS;cases hb:x.b
  ·rw[hb]at e1 hR;simp only[bH0,if_false]at hR
   have bR:∀(j:Nat) (y:Ask),j<k+1->l[j]? =some y->y.b=false:=by
    intro i y hi hy
    by_cases gT:i=k
    ·subst gT;rw[hx]at hy;simp only[aA0]at hy;subst hy;exact hb
    ·exact vS i y (by omega) hy
   (refine AX (AJ e1) Ab (Ik @Qo.eq_1 qV hx qA) ?_;intros;refine Am ?_)
   exact An.mk ⟨k+1,by omega,hR,bR⟩ (Sub.lit (by simp[vU])) (by simp;omega)
   skip
  ·rw[hb]at e1 hR;simp only[if_true]at hR;subst hR;exact Aw (AJ e1) Ab (Ik @Qo.eq_1 qV hx qA)
 ·have qZ:k=l.length:=by omega
  subst qZ;rw[cN0]at hR;have vJ:R=0:=hR;subst vJ;exact Aw Ab Ab Ab
theorem Rw (g:List Rul) (h:g.length<1\/64<g.length):Ae prog 49 [AB g] (.int .i64 180):=by
 have hq:=Mw g;have hb:(decide (g.length<1)||decide (64<g.length))=true:=by simpa using h
 rw[hb]at hq;refine IZ g (Gc true true true true true true true true) rfl (by simp[Gc,Qo,Bo,AH,mx]) (Gw _ _ _ _ _ _ _ _) fun k x hx vS=> ?_
 cases k with
 | zero =>
  simp only[Gc,aZ0,aA0]at hx;subst hx;exact hq
 | succ k=>have:=vS 0 _ (by omega) rfl;simp at this
theorem Xa (g:List Rul) (h1:1<=g.length) (h2:g.length<=64) (hs:EE g) (ht:Eu g=false):Ae prog 49 [AB g] (.int .i64 170):=by
 have q1:=Mw g;have hb:(decide (g.length<1)||decide (64<g.length))=false:=by rw[decide_eq_false (by omega),decide_eq_false (by omega)];rfl
 rw[hb]at q1;have q2:=Mx 141 g Xj fun x hx=>Sb x (hs x hx)
 have wM:g.any Xj=true:=by
  unfold Eu at ht;rw[List.all_eq_false]at ht;obtain⟨r,hr,hn⟩:=ht;refine cL0.2 ⟨r,hr,?_⟩;unfold Xj;rw[Bool.not_eq_true]at hn;rw[hn];rfl
 rw[wM]at q2;refine IZ g (Gc false true true true true true true true) rfl (by simp[Gc,Qo,Bo,AH,mx]) (Gw _ _ _ _ _ _ _ _) fun k x hx vS=> ?_
 match k,hx,vS with
 | 0,hx,_ =>
  simp only[Gc,aZ0,aA0]at hx;subst hx;exact q1
 | 1,hx,_ =>
  simp only[Gc,aZ0,bJ0,aA0]at hx;subst hx;exact q2
 | k+2,_,vS=>have:=vS 1 _ (by omega) rfl;simp at this
theorem Zj {gt:GT} (hk:tU gt) (hd:Ff gt=false):IE gt=decide ((BP gt).size<=2048):=by
 unfold IE
 by_cases h:(BP gt).size<=2048
 ·rw[decide_eq_true h,eD0,bB0];intro p hp;have h1:=Vq hp;have h2:=Tg p.2 (hk p hp).2;unfold Ff at hd;rw[dX0]at hd;have h3:=hd p hp;simp only[decide_eq_true_eq]at h3;unfold EG CV;rw[if_neg h3,if_neg (by omega)];simp;omega
 ·rw[decide_eq_false h,Bool.and_false]
theorem ZQ (gt:GT) (h1:1<=gt.length) (h2:gt.length<=64) (hk:tU gt) (hs:EE (AY gt)):Ae prog 49 [AB (AY gt)] (.int .i64 (LG gt)):=by
 have vT:=Fi gt;have q1:=Mw (AY gt);have hb:(decide ((AY gt).length<1)||decide (64<(AY gt).length))=false:=by rw[decide_eq_false (by omega),decide_eq_false (by omega)];rfl
 rw[hb]at q1;have q2:=Mx 141 (AY gt) Xj fun x hx=>Sb x (hs x hx)
 have wM:(AY gt).any Xj=false:=by
  have ht:=Wz hk;unfold Eu at ht;rw[bB0]at ht;rw[dX0];intro r hr;unfold Xj;rw[ht r hr];simp
 rw[wM]at q2;have n2:=EQ (k:=2) hs;have q3:=pX (AY gt) (by omega) hs;have q4:=pW (AY gt) (by omega) hs;have q5:=pV (AY gt) hs (by omega)
 have q6:Ae prog 138 [AB (AY gt),.ref [.fn (.func 148) [] []]] (.bool (Ff gt)):=by
  have hq:∃q:Rul->Bool,(∀p∈gt,q ⟨p.1,flat p.2⟩=decide (16<Ih p.2))/\∀x∈AY gt,Ae prog 148 [.agg (BB x)] (.bool (q x)):=by
   refine⟨fun r=>decide (16<(r.b.foldl Gj ([],0)).2),fun p hp=> ?_,fun x hx=> ?_⟩
   ·simp only[IP (hk p hp).2]
   ·obtain⟨p,hp,rfl⟩:=aR0.1 hx;simp only[IP (hk p hp).2];exact pU p.1 p.2 (hk p hp).2 (It hs hp)
  obtain⟨q,fF,jC⟩:=hq;have e1:=Mx 148 (AY gt) q jC
  have:(AY gt).any q=Ff gt:=by
   unfold AY Ff;rw[List.any_map];rw[eF0,cL0,cL0]
   constructor
   ·rintro⟨p,hp,h⟩;exact⟨p,hp,by rw[<-fF p hp];exact h⟩
   ·rintro⟨p,hp,h⟩;exact⟨p,hp,by rw[<-fF p hp]at h;exact h⟩
  rw[this]at e1;exact e1
 have q7:=pT (AY gt) (by omega);have q8:=pS gt hk hs h1 h2
 have hf:LG gt=KB (Gc false false (decide (16<(Av (AY gt)).length+(CF (AY gt)).length)) (decide (16<(AC (AY gt)).length)) (decide (64<BX (AY gt))) (Ff gt) (decide (0<(CF (AY gt)).length)) (!IE gt)):=by
  unfold LG;simp only[Gc,KB,bH0,if_false,decide_eq_true_eq];cases hd:Ff gt
  ·rw[Zj hk hd]
   by_cases h8:2048<(BP gt).size
   ·have h8':¬(BP gt).size<=2048:=by omega
    simp[h8,h8']
   ·have h8':(BP gt).size<=2048:=by omega
    simp[h8,h8']
  ·simp
 rw[hf];refine IZ (AY gt) _ rfl (by simp[Gc,Qo,Bo,AH,mx]) (Gw _ _ _ _ _ _ _ _) fun k x hx vS=> ?_
 match k,hx with
 | 0,hx=>simp only[Gc,aZ0,bJ0,aA0]at hx;subst hx;exact q1
 | 1,hx=>simp only[Gc,aZ0,bJ0,aA0]at hx;subst hx;exact q2
 | 2,hx=>simp only[Gc,aZ0,bJ0,aA0]at hx;subst hx;exact q3
 | 3,hx=>simp only[Gc,aZ0,bJ0,aA0]at hx;subst hx;exact q4
 | 4,hx=>simp only[Gc,aZ0,bJ0,aA0]at hx;subst hx;exact q5
 | 5,hx=>simp only[Gc,aZ0,bJ0,aA0]at hx;subst hx;exact q6
 | 6,hx=>simp only[Gc,aZ0,bJ0,aA0]at hx;subst hx;exact q7
 | 7,hx=>simp only[Gc,aZ0,bJ0,aA0]at hx;subst hx;exact q8
 | k+8,hx=>simp[Gc]at hx
end Go.Proofs.Wy
end
