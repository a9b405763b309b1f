/- Parts of a proof, laid together: BN2, BN5, BN6, BN7. -/
import Derived.Shelf.SlIter.Nil
import Derived.Shelf.SlIter.Sorted
import Derived.Shelf.SortM.Plain
import Derived.Shelf.SortM.SortNone
import Derived.Test.YtiojapdolljocaaGreatqBw15
import Derived.Test.YtiojapdolljocaaGreatqBw20
import Derived.Test.YtiojapdolljocaaGreatqBw24
import Derived.Test.YtiojapdolljocaaGreatqBw25
set_option linter.unusedSimpArgs false
set_option maxHeartbeats 8000000
set_option linter.unusedVariables false
set_option linter.unusedSectionVars false
section
namespace Go.Proofs.Wy
open Go Go.Dm Tryz
variable [DMode]
attribute [local irreducible] DW Bh Bk
set_option maxRecDepth 100000
def YM : Ann:=⟨[],[]⟩
theorem Qv (s:ByteArray):Ag prog 142 [.str s] (.bool (Da 2 s)):=by
 refine Ad [] YM func142 call142 ntmps142 mxd (Az @YM.eq_1 results142) rfl (fun qJ B qX qQ=> ?_);clear qJ;simp only[Ap];have e1:=Sj 2 (.inl rfl) s;simp only[BP]at e1;cases h:Da 2 s
 ·rw[h]at e1;exact AA (AQ e1) Ac Ac
 ·rw[h]at e1;exact AA (AQ e1) Ac Ac
def Mu : Ann:=⟨[],[]⟩
theorem Oo (g:FuncId) (us cs:List DVal) (l:List Rul) (q:Rul->Bool) (hq:∀x∈l,Ag prog g (us++[.agg (BO x)]++cs) (.bool (q x))) :
  Ag prog 192 [AM l,.fn (.func g) us cs] (.int .i64 (if l.any q then ((l.findIdx q:Nat):Int)else -1)):=by
 refine Ad [] Mu func192 call192 ntmps192 mxd (Az @Mu.eq_1 results192) rfl (fun qJ B qX qQ=> ?_);have wK:=IX qJ.1;clear qJ;simp only[Ap]
 (refine Ba Ac Ac Ac ?_;intros;refine Al ?_)
 refine An (X:={k:Nat//k<=l.length/\∀i x,i<k->l[i]? =some x->q x=false}) (fun x=>⟨[(0,AM l),(1,.fn (.func g) us cs),(7,.int .i64 l.length),(8,.int .i64 x.1)],[]⟩) (fun x=>l.length-x.1) ⟨0,by simp⟩ (Sub.lit (by simp)) ?_;rintro⟨k,hk,zQ⟩
 by_cases qV:k<l.length
 ·obtain⟨x,hx,qG,zJ⟩:=Ar qV;have kM:=hq x zJ;simp only[BO,aS0,List.cons_append,List.nil_append]at kM;cases hb:q x
  ·rw[hb]at kM
   have bT:∀i y,i<k+1->l[i]? =some y->q y=false:=by
    intro i y hi hy
    by_cases dW:i=k
    ·subst dW;rw[hx]at hy;simp only[aA0]at hy;subst hy;exact hb
    ·exact zQ i y (by omega) hy
   (refine Ba (AQ kM) Ac (HB @BO.eq_1 qV qG) ?_;intros;refine Al ?_)
   exact Ak.mk ⟨k+1,by omega,bT⟩ (Sub.lit (by simp[])) (by simp;omega)
   skip
  ·rw[hb]at kM;have wF:l.any q=true:=cF0.2 ⟨x,zJ,hb⟩
   have kK:l.findIdx q=k:=by
    rw[List.findIdx_eq qV];refine⟨by rw[qG];exact hb,fun i hi=> ?_⟩;exact zQ i _ hi (aB0 (by omega))
   exact AA (AQ kM) Ac (Lj @BO.eq_1 qV qG wF kK)
 ·have qN:k=l.length:=by omega
  have wF:l.any q=false:=by
   rw[dZ0];intro x hx;obtain⟨i,hi,rfl⟩:=bU0 hx;rw[zQ i _ (by omega) (aB0 hi)];simp
  (repeat (first | refine AC fun K hK=> ?_ | (refine BL Mu mxd (by kernel_rfl) ?_;simp[Mu,qX,BO,qN,wF];try simp (disch:=omega) only[Ai]) | refine Am ?_ | (refine AX ?_ ?_ ?_;(· (simp[qX,BO,qN,wF];done));(try (rotate_left;(· (intro hc;(try simp[qX,BO,qN,wF]at hc);done))))) | (refine AI ?_;simp[results192,qX,BO,qN,wF]) | ((first | refine Av ?_ | refine Au ?_);simp[qX,BO,qN,wF]) | (intro hc;(try simp[qX,BO,qN,wF]at hc);(try (exfalso;omega))) | ((first | refine Af (kM) ?_ | (refine Ae (kM) ?_ ?_;(· (simp;done))));try simp[qX,BO,qN,wF]) | (refine⟨?_,?_⟩; · omega) | omega | apply_assumption -exfalso -symm | (exfalso;omega)))
def YP : Ann:=⟨[],[]⟩
theorem Le (g:FuncId) (us cs:List DVal) (l:List Rul) (q:Rul->Bool) (hq:∀x∈l,Ag prog g (us++[.agg (BO x)]++cs) (.bool (q x))) :
  Ag prog 139 [AM l,.fn (.func g) us cs] (.bool (l.any q)):=by
 refine Ad [] YP func139 call139 ntmps139 mxd (Az @YP.eq_1 results139) rfl (fun qJ B qX qQ=> ?_);simp only[Ap];have hi:=Oo g us cs l q hq;have gX:(0:Int)<=(l.findIdx q:Nat):=by omega
 cases hb:l.any q
 ·rw[hb]at hi;exact AA (AQ hi) Ac (AQ hb)
 ·rw[hb]at hi;exact AA (AQ hi) Ac (AQ hb)
def XR (r:Rul):Bool:= !(Da 2 r.h&&CY r.b)
def YN : Ann:=⟨[],[]⟩
theorem SG (r:Rul) (hs:r.b.length<=1572864):Ag prog 141 [.agg (BO r)] (.bool (XR r)):=by
 refine Ad [] YN func141 call141 ntmps141 mxd (Az @YN.eq_1 results141) rfl (fun qJ B qX qQ=> ?_);clear qJ;simp only[Ap];have e1:=Qv r.h;unfold XR;cases h1:Da 2 r.h
 ·rw[h1]at e1;exact AA (AQ e1) Ac (AQ @BO.eq_1)
 ·rw[h1]at e1;cases h2:CY r.b
  ·have e2:=UN r.b hs h2;exact AA (Az e1 e2) Ac (AQ @BO.eq_1)
  ·obtain⟨t,ht,hb⟩:=KG h2;have e2:=KA t ht (by rw[<-hb];exact hs);rw[<-hb]at e2;have hp:1<=Iv t:=by cases t;rw[UL];omega
   have qB:((Iv t:Int)==0)=false:=by simp;omega
   exact AA (Az e1 e2) Ac (Az @BO.eq_1 qB)
def YJ : Ann:=⟨[],[]⟩
theorem rY (h:ByteArray) (t:RT) (ht:DR t=true) (hs:(flat t).length<=1572864):Ag prog 148 [.agg (BO ⟨h,flat t⟩)] (.bool (decide (16<Iv t))):=by
 refine Ad [] YJ func148 call148 ntmps148 mxd (Az @YJ.eq_1 results148) rfl (fun qJ B qX qQ=> ?_);clear qJ;simp only[Ap];have e2:=KA t ht hs;have hd:decide (16<Iv t)=decide ((16:Int)<(Iv t:Int)):=decide_eq_decide.2 (by omega);rw[hd];exact AA (AQ e2) Ac (AQ @BO.eq_1)
def YQ : Ann:=⟨[],[]⟩
theorem MM (f:FuncId) (g:List Rul) (q:Rul->Bool) (hq:∀x∈g,Ag prog f [.agg (BO x)] (.bool (q x))):Ag prog 138 [AM g,.ref [.fn (.func f) [] []]] (.bool (g.any q)):=by
 refine Ad [] YQ func138 call138 ntmps138 mxd (Az @YQ.eq_1 results138) rfl (fun qJ B qX qQ=> ?_);clear qJ;simp only[Ap];have e1:=Le f [] [] g q fun x hx=>by simpa using hq x hx
 exact AA (AQ e1) Ac Ac
def YO : Ann:=⟨[],[]⟩
theorem ML (g:List Rul):Ag prog 140 [AM g] (.bool (decide (g.length<1)||decide (64<g.length))):=by
 refine Ad [] YO func140 call140 ntmps140 mxd (Az @YO.eq_1 results140) rfl (fun qJ B qX qQ=> ?_);clear qJ;simp only[Ap];have h1:decide (g.length<1)=decide ((g.length:Int)<1):=decide_eq_decide.2 (by omega);have h2:decide (64<g.length)=decide ((64:Int)<(g.length:Int)):=decide_eq_decide.2 (by omega);rw[h1,h2]
 by_cases c:(g.length:Int)<1
 ·exact AA Ac Ac (AQ c)
 ·exact AA Ac Ac (AQ c)
def YI : Ann:=⟨[],[]⟩
theorem rX (g:List Rul) (hn:(AK 2 g).length<=9223372036854775807):Ag prog 149 [AM g] (.bool (decide (0<(Dc g).length))):=by
 refine Ad [] YI func149 call149 ntmps149 mxd (Az @YI.eq_1 results149) rfl (fun qJ B qX qQ=> ?_);clear qJ;simp only[Ap];have e1:=Il g hn;have h2:decide (0<(Dc g).length)=decide ((0:Int)<((Dc g).length:Int)):=decide_eq_decide.2 (by omega);rw[h2];exact AA (AQ e1) Ac Ac
def YL : Ann:=⟨[],[]⟩
theorem sB (g:List Rul) (hl:g.length<=64) (hs:Gn g):Ag prog 144 [AM g] (.bool (decide (16<(AE g).length+(Dc g).length))):=by
 refine Ad [] YL func144 call144 ntmps144 mxd (Az @YL.eq_1 results144) rfl (fun qJ B qX qQ=> ?_);clear qJ;simp only[Ap];have n2:=Ff (k:=2) hs;have e1:=Il g (by omega);have e2:=LU g;have b1:=HU g
 have b2:(Dc g).length<=110000000:=by
  have:=GO (AK 2 g);have:=dD0 (fun s=> !decide (s∈AE g)) (EH (AK 2 g));unfold Dc;omega
 obtain⟨H,hH⟩:∃H,H=AE g:=⟨_,rfl⟩;obtain⟨m,hm⟩:∃m,m=(Dc g).length:=⟨_,rfl⟩;rw[<-hH]at e2 b1;rw[<-hm]at e1 b2;rw[<-hH,<-hm];have h2:decide (16<H.length+m)=decide ((16:Int)<(H.length:Int)+(m:Int)):=decide_eq_decide.2 (by omega);rw[h2];have w1:IntKind.i64.wrap ((H.length:Int)+(m:Int))=(H.length:Int)+(m:Int):=wq;exact AA (Az e1 e2) Ac (AQ w1)
def oW : Ann:=⟨[],[⟨4,[5],[],[]⟩]⟩
theorem ZT (g:List Rul) (hs:Gn g) (hl:g.length<=64):Ag prog 24 [AM g] (.int .i64 (DX g)):=by
 refine Ad [] oW func24 call24 ntmps24 mxd (Az @oW.eq_1 results24) rfl (fun qJ B qX qQ=> ?_);clear qJ;simp only[Ap];have ho:=Uu hs
 (refine Ba Ac Ac Ac ?_;intros;refine Al ?_)
 refine An (X:={i:Nat//i<=g.length}) (fun i=>⟨[(0,AM g),(3,.int .i64 (DX (g.take i.1))),(6,AM g),(7,.int .i64 g.length),(8,.int .i64 i.1)],[]⟩) (fun i=>g.length-i.1) ⟨0,by omega⟩ (Sub.lit (by simp[DX])) ?_;rintro⟨i,hi⟩;simp only
 by_cases qV:i<g.length
 ·obtain⟨r,hr,wG,dU⟩:=Ar qV;have e1:=Qb r.b;have h1:=SK hr;have h2:=LK g (i+1);have h3:=Ut r.b;have w1:IntKind.i64.wrap ((DX (g.take i):Int)+(Ir r.b:Int))=(DX (g.take (i+1)):Int):=by rw[wq];omega
  have w2:IntKind.i64.wrap ((i:Int)+1)=(i:Int)+1:=wq
  (refine Ba (AQ e1) Ac (Rp @BO.eq_1 qV hr wG w1 w2) ?_;intros;refine Al ?_)
  refine Ak.mk ⟨i+1,by omega⟩ (Sub.lit (by simp)) (by simp;omega)
  skip
 ·have qN:i=g.length:=by omega
  subst qN;rw[aT0];exact AA Ac Ac Ac
def YK : Ann:=⟨[],[]⟩
theorem rZ (g:List Rul) (hs:Gn g) (hl:g.length<=64):Ag prog 147 [AM g] (.bool (decide (64<DX g))):=by
 refine Ad [] YK func147 call147 ntmps147 mxd (Az @YK.eq_1 results147) rfl (fun qJ B qX qQ=> ?_);clear qJ;simp only[Ap];have e1:=ZT g hs hl;have h2:decide (64<DX g)=decide ((64:Int)<(DX g:Int)):=decide_eq_decide.2 (by omega);rw[h2];exact AA (AQ e1) Ac Ac
def EU (t:RT):Bool:=decide ((flat t).length<=2048)&&decide (CN t=0)
def ZH (t:RT):DVal:=if (flat t).length<=2048 then (if CN t=0 then .tup [.str (CI t),.int .i64 0]else .tup [.str ⟨#[]⟩,.int .i64 (CN t)])else .tup [.str ⟨#[]⟩,.int .i64 3]
def Hz : Ann:=⟨[],[]⟩
theorem RW (t:RT) (ht:DR t=true):Ag prog 193 [Bi (flat t)] (ZH t):=by
 unfold ZH
 by_cases hl:(flat t).length<=2048
 ·rw[if_pos hl];have e1:=HX t ht hl;have e2:=Lo _ t rfl ht (by omega);obtain⟨b,hb⟩:∃b,b=flat t:=⟨_,rfl⟩;rw[<-hb]at e1 e2 |-
  by_cases h0:CN t=0
  ·rw[if_pos h0];rw[h0]at e1;refine Ad [] Hz func193 call193 ntmps193 mxd (Az @Hz.eq_1 results193) rfl (fun qJ B qX qQ=> ?_);clear qJ;simp only[Ap];exact AA (Az e1 e2) Ac Ac
  ·rw[if_neg h0];have vM:(CN t != 0)=true:=by simpa using h0
   refine Ad [] Hz func193 call193 ntmps193 mxd (Az @Hz.eq_1 results193) rfl (fun qJ B qX qQ=> ?_);clear qJ;simp only[Ap];have z0:(⟨#[]⟩:ByteArray).size<=maxLen:=cW0 _;exact AA (AQ e1) Ac (HB h0 vM z0)
 ·rw[if_neg hl];have e1:=Mg (flat t) (by omega);obtain⟨b,hb⟩:∃b,b=flat t:=⟨_,rfl⟩;rw[<-hb]at e1 |-;refine Ad [] Hz func193 call193 ntmps193 mxd (Az @Hz.eq_1 results193) rfl (fun qJ B qX qQ=> ?_);clear qJ;simp only[Ap];have z0:(⟨#[]⟩:ByteArray).size<=maxLen:=cW0 _;exact AA (AQ e1) Ac (AQ z0)
theorem Oc (x:ByteArray) (hx:x.size≠0):Bl prog (.func 195) [.rx 0 0 2 0 0] [⟨0,0,.row 232 2 32 [[.rx 0 0 2 0 0,.osl 1 0]]⟩,⟨1,0,.row 5 1 1 (AP x)⟩] (.str x) [⟨0,0,.row 232 2 32 [[.rx 0 0 2 0 0,.sl 1 1 (AP x)]]⟩] :=
 Jt Tryz.bldString XP call195 32 x hx
def YH : Ann:=⟨[],[]⟩
theorem WX (x:ByteArray):Bl prog (.func 196) [.rx 0 0 2 0 0] [⟨0,0,.row 232 2 32 [[.rx 0 0 2 0 0,.sl 1 1 (AP x)]]⟩] (.int .i64 x.size) [⟨0,0,.row 232 2 32 [[.rx 0 0 2 0 0,.sl 1 1 (AP x)]]⟩]:=by
 refine BU [] [(0,0,0)] YH func196 call196 ntmps196 mxd (Az @YH.eq_1 results196) rfl (fun qJ B qX qQ=> ?_) (hv:=(by simp[FE]));clear qJ;simp only[Ap];have h1:=AS x;have h2:=FE x;obtain⟨D,hD⟩:∃D,D=AP x:=⟨_,rfl⟩;rw[<-hD]at h1 h2 |-;exact AA Ac Ac (AQ h1)
theorem SC (p:ByteArray×RT):(Ik p).size≠0:=by
 unfold Ik;simp only[aP0];have z3:(⟨#[32,61,32]⟩:ByteArray).size=3:=rfl;omega
def IT (gt:GT):Bool:=gt.all (fun p=>EU p.2)&&decide ((BY gt).size<=2048)
def eZ (gt:GT):ByteArray:=if gt.all (fun p=>EU p.2)then BY gt else ⟨#[]⟩
theorem pS {gt:GT} (h:1<=gt.length):(BY gt).size≠0:=by
 have h1:=FJ (aB0 (show 0<gt.length by omega));have h2:=Kl gt 1;rw[h1,aP0]at h2;have:=SC (gt[0]'(by omega));omega
def Mt : Ann:=⟨[29,31,32],[⟨1,[4],[],[]⟩,⟨4,[6],[],[]⟩]⟩
theorem TM (gt:GT) (hk:uU gt) (hs:Gn (Bz gt)) (h1:1<=gt.length) (hl:gt.length<=64):Ag prog 151 [AM (Bz gt)] (.tup [.str (eZ gt),.bool (IT gt)]):=by
 refine Ad [] Mt func151 call151 ntmps151 mxd (Az @Mt.eq_1 results151) rfl (fun qJ B qX qQ=> ?_);clear qJ;simp only[Ap];have jJ:=Gs gt;have jT:=fun i p=>ZY (gt:=gt) (i:=i) (p:=p)
 have hsm:=fun p=>IE hs (p:=p)
 have zL:=KH hk hs;have hrs:=fun p=>PC hk hs (p:=p)
 obtain⟨g,hg⟩:∃g,g=Bz gt:=⟨_,rfl⟩;rw[<-hg]at jJ jT |-;clear hs hg;obtain⟨R,hR⟩:∃R,R=eZ gt:=⟨_,rfl⟩;obtain⟨O,hO⟩:∃O,O=IT gt:=⟨_,rfl⟩;rw[<-hR,<-hO];have z3:(⟨#[32,61,32]⟩:ByteArray).size=3:=rfl;have z4:(⟨#[32,59,10]⟩:ByteArray).size=3:=rfl;have m3:3<=maxLen:=by decide
 have m1:1<=maxLen:=by decide
 have mbig:3000000000<=maxLen:=by decide
 have z0:(⟨#[]⟩:ByteArray).size<=maxLen:=cW0 _;refine AC fun K0 hK0=> ?_
 (first | refine AC fun K hK=> ?_ | (refine BL Mt mxd (by kernel_rfl) ?_;simp[Mt,qX,z0];try simp (disch:=omega) only[Ai]) | refine Am ?_ | (refine AX ?_ ?_ ?_;(· (simp[qX,z0];done));(try (rotate_left;(· (intro hc;(try simp[qX,z0]at hc);done))))) | (refine AI ?_;simp[results151,qX,z0]) | ((first | refine Av ?_ | refine Au ?_);simp[qX,z0]) | (intro hc;(try simp[qX,z0]at hc);(try (exfalso;omega))) | (refine⟨?_,?_⟩; · omega) | omega | apply_assumption -exfalso -symm | (exfalso;omega))
 apply hK0
 refine AC fun K1 hK1=> ?_
 refine Nu (bs:=32) (k:=2) (z:=[.nilp,.nilsl]) (by simp[qX]) (by simp) (by rfl) rfl (by decide) (fun r hr=> ?_);simp
 apply hK1
 (refine Ba Ac Ac Ac ?_;intros;refine Al ?_)
 refine An (X:={i:Nat//i<=gt.length/\(gt.take i).all (fun p=>EU p.2)=true}) (fun i=>⟨[(0,AM g),(4,.rx 4 1 2 0 0),(9,AM g),(10,.int .i64 gt.length),(11,.int .i64 i.1)],EC_ 4 50 (BY (gt.take i.1))⟩) (fun i=>gt.length-i.1) ⟨0,by simp⟩ (Sub.lit (by simp only[dU0,show BY []=⟨#[]⟩ from rfl,Nl (T:=⟨#[]⟩) rfl];simp[jJ])) ?_;rintro⟨i,hi,qP⟩;simp only
 by_cases qV:i<gt.length
 ·obtain⟨p,hp,zD,bM⟩:=Ar qV;have hr:=jT i p hp;have qK:i<g.length:=by omega
  have wG:g[i]'qK=⟨p.1,flat p.2⟩:=(aF0.1 hr).2;have e1:=RW p.2 (hk p bM).2;have w2:IntKind.i64.wrap ((i:Int)+1)=(i:Int)+1:=wq;unfold ZH at e1;obtain⟨b,hb⟩:∃b,b=flat p.2:=⟨_,rfl⟩;have cR:(gt.take (i+1)).all (fun p=>EU p.2)=EU p.2:=by rw[bR0,hp,List.all_append,qP];simp
  by_cases hpr:EU p.2=true
  ·have mU:=hpr;unfold EU at mU;rw[aM0,decide_eq_true_eq,decide_eq_true_eq]at mU;rw[if_pos mU.1,if_pos mU.2]at e1;rw[<-hb]at hr wG e1;rw[hpr]at cR;have wM:=FJ hp;have hrs1:=hrs p bM;have dS:=zL i hi;have hrp:=SC p;have vW:Ik p=p.1++⟨#[32,61,32]⟩++CI p.2++⟨#[32,59,10]⟩:=rfl;obtain⟨s,hs⟩:∃s,s=CI p.2:=⟨_,rfl⟩;rw[<-hs]at e1 vW;obtain⟨T,hT⟩:∃T,T=BY (gt.take i):=⟨_,rfl⟩;rw[<-hT]at wM dS |-;obtain⟨U,hU⟩:∃U,U=Ik p:=⟨_,rfl⟩
   rw[<-hU]at hrs1 hrp vW wM;have hUs:U.size=p.1.size+3+s.size+3:=by rw[vW];simp only[aP0,z3,z4]
   have y2:p.1.size+3<=maxLen:=by omega
   have y3:p.1.size+3+s.size<=maxLen:=by omega
   have y4:p.1.size+3+s.size+3<=maxLen:=by omega
   have hNs:(BY (gt.take (i+1))).size≠0:=by rw[wM,aP0];omega
   have wZ:=JP (i:=4) (j:=50) hNs
   by_cases hT0:T.size=0
   ·rw[Nl hT0];have e2:=Ob U (by omega);rw[Fa_ hT0,tX]at wM;rw[vW]at e2
    (refine Ba (AQ e1) (AQ (Ii [(4,0)] [(50,1)] e2)) (uO @BO.eq_1 qV qK hr wG z3 z4 m3 m1 y2 y3 y4 @aP0 w2) ?_;intros;refine Al ?_)
    refine Ak.mk ⟨i+1,by omega,cR⟩ (Sub.lit (by rw[wZ,wM,vW];simp)) (by simp;omega)
    skip
   ·rw[JP hT0];have e2:=Cw T U (by omega);rw[<-wM]at e2;rw[vW]at e2
    (refine Ba (AQ e1) (AQ (Ii [(4,0),(50,1)] [] e2)) (uO @BO.eq_1 qV qK hr wG z3 z4 m3 m1 y2 y3 y4 @aP0 w2) ?_;intros;refine Al ?_)
    refine Ak.mk ⟨i+1,by omega,cR⟩ (Sub.lit (by rw[wZ];simp)) (by simp;omega)
    skip
  ·have gO:gt.all (fun p=>EU p.2)=false:=by
    rw[Bool.eq_false_iff];intro hh;rw[aX0]at hh;exact hpr (hh p bM)
   have vQ:R=⟨#[]⟩:=by rw[hR];unfold eZ;rw[gO];rfl
   have hO2:O=false:=by rw[hO];unfold IT;rw[gO];rfl
   subst vQ;subst hO2
   obtain⟨c,yL,e2⟩:∃c:Int,(c != 0)=true/\Ag prog 193 [Bi (flat p.2)] (.tup [.str ⟨#[]⟩,.int .i64 c]):=by
    by_cases vR:(flat p.2).length<=2048
    ·rw[if_pos vR]at e1
     by_cases h0:CN p.2=0
     ·exact absurd (by unfold EU;simp[vR,h0]) hpr
     ·rw[if_neg h0]at e1;exact⟨_,by simpa using h0,e1⟩
    ·rw[if_neg vR]at e1;exact⟨3,rfl,e1⟩
   have hc1:¬c=0:=by simpa using yL
   rw[<-hb]at hr wG e2;obtain⟨T,hT⟩:∃T,T=BY (gt.take i):=⟨_,rfl⟩;rw[<-hT];clear e1
   by_cases hT0:T.size=0
   ·rw[Nl hT0];exact AA (AQ e2) Ac (Np @BO.eq_1 qV qK hr wG yL hc1 z0)
   ·rw[JP hT0];exact AA (AQ e2) Ac (Np @BO.eq_1 qV qK hr wG yL hc1 z0)
 ·have qN:i=gt.length:=by omega
  subst qN;rw[aT0]at qP |-;have qB:=pS h1;have dS:=zL gt.length (Nat.le_refl _);rw[aT0]at dS;have vQ:R=BY gt:=by rw[hR];unfold eZ;rw[qP];rfl
  have hO2:O=decide ((BY gt).size<=2048):=by rw[hO];unfold IT;rw[qP];rfl
  obtain⟨T,hT⟩:∃T,T=BY gt:=⟨_,rfl⟩;rw[<-hT]at qB vQ hO2 dS |-;have hO3:decide (T.size<=2048)=decide ((T.size:Int)<=2048):=decide_eq_decide.2 (by omega);rw[hO3]at hO2;clear hR hO hO3;subst vQ;subst hO2;rw[JP qB];have e1:=Oc R qB;have e2:=WX R;have h2:=FE R;exact AA Ac (Az (Ii [(4,0),(50,1)] [] e1) (Ii [(4,0)] [] e2)) (AQ jJ)
end Go.Proofs.Wy
end
section
namespace Go.Proofs.Wy
open Go Go.Dm Go.RowKit Go.Maps Go.Sort Go.Shelf Go.Proofs
set_option maxRecDepth 100000
theorem DZ_ (m:Nat):AnyZ.SortsIn Tryz.prog Tryz.sortedM_ren Fence.wide m :=
 ⟨fun blk off cap ss W hH hblk qD=>callsIn_wide.2 (AnyM.slices_Sort_string Tryz.sortStr blk off cap ss W hH hblk qD),
  fun p cap W=>callsIn_wide.2 (AnyM.slices_Sort_string_none Tryz.sortStr p cap W)⟩
theorem Sw {cur:EF} {M:List Nat} {h:Array Obj}:∀{K:List ByteArray} {vs:List Value},Aw cur M h (DI K) vs->vs=K.map Value.string/\∀s∈K,s.size<=maxLen
 | [],vs,hr=>by
  simp only[DI,List.map_nil,Aw]at hr;subst hr;simp
 | s::K,vs,hr=>by
  rw[Dk]at hr;simp only[Aw,Dm.rd]at hr;obtain⟨v,r,rfl,⟨rfl,hs⟩,h2⟩:=hr;obtain⟨h3,h4⟩:=Sw h2;subst h3;refine⟨rfl,fun x hx=> ?_⟩
  rcases aL0.1 hx with rfl | hx
  ·exact hs
  ·exact h4 x hx
def BV_ : Value->Option (DataW Unit×List MemPlace):=fun _=>some (.nil,[])
theorem CD_ {w:World} {b:Nat} {es:Array MapEntry} {clk:Nat} {K:List ByteArray} (hb:w.heap[b]? =some (.map es clk)) (hB:Nk es clk) (hk:es.toList.map (·.key)=K.map Value.string) (qD:∀s∈K,s.size<=maxLen) (hn:K.Nodup) (hl:K.length<=maxLen) :
  ∃D0:DataW Unit,w.ownsMap Tryz.prog 9 BV_ b K.length D0/\(strKeys D0).Perm (K.map fun s=>s.data.toList)/\Maps.size D0=K.length:=by
 have wH:es.size=K.length:=by
  have:=congrArg List.length hk;simpa using this
 have nJ:∀x∈es.toList,∃s∈K,x.key= .string s/\WideElems.rd Tryz.prog 9 BV_ x=some (.string s.data.toList,.nil):=by
  intro x hx;have:x.key∈K.map Value.string:=by rw[<-hk];exact cN0 hx
  obtain⟨s,hs,he⟩:=aQ0.1 this;refine⟨s,hs,he.symm,?_⟩;obtain⟨k,v,bn⟩:=x;simp only at he;subst he;exact WideElems.rd_mk (WideMaps.keyOf_string_mk Tryz.underlying9 (qD s hs)) (show BV_ v=some (.nil,[]) from rfl)
 have hE:es.toList.map (WideElems.rg Tryz.prog 9 BV_)=K.map fun s=>(Lit.string s.data.toList,DataW.nil):=by
  have h1:es.toList.map (WideElems.rg Tryz.prog 9 BV_)=(es.toList.map (·.key)).map fun v=>match v with | .string s=>(Lit.string s.data.toList,DataW.nil) | _=>(.bool false,.nil):=by
   rw[cA0];refine bY0 fun x hx=> ?_
   obtain⟨s,_,he,hr⟩:=nJ x hx;rw[WideElems.rg_of hr];simp[he]
  rw[h1,hk,cA0];rfl
 refine⟨_,⟨es,clk,hb,⟨by omega,⟨hB.2,hB.1,?_⟩,fun x hx=> ?_⟩,by omega,rfl⟩,?_,?_⟩
 ·rw[hk];exact dI0.2 (hn.imp fun h e=>h (by cases e;rfl))
 ·obtain⟨s,_,_,hr⟩:=nJ x hx;exact⟨_,hr⟩
 ·show ((_:List (Lit×DataW Unit)).map fun p=>strOf p.1).Perm _
  refine((WideShapes.sorted_perm _).map _).trans ?_;rw[hE,cA0];exact List.Perm.refl _
 ·show (_:List (Lit×DataW Unit)).length=_
  rw[(WideShapes.sorted_perm _).length_eq,hE,aO0]
theorem pQ {w w':World} (h:Below w.heap.size w w'):Upd [] w w':=⟨h.os,h.tape,h.output,fun hd=>Bool.noConfusion hd,h.size,fun b hb _=>h.block b hb⟩
theorem TP {K:List ByteArray} (hn:K.Nodup):Str (Gp K):=by
 have h1:=Lt K
 have h2:(Gp K).Nodup:=by
  unfold Gp;refine dI0.2 (List.Pairwise.imp (R:=(· ≠ ·)) (fun {a b:List UInt8} h (e:(⟨a.toArray⟩:ByteArray)=⟨b.toArray⟩)=>h (by have:=congrArg (fun x:ByteArray=>x.data.toList) e;simpa using this)) ?_);exact(dW0 _ _).nodup_iff.2 (dI0.2 (hn.imp fun h e=>h (Hq e)))
 refine(h1.and h2).imp ?_;rintro a b ⟨h3,h4⟩;cases h5:CG a b
 ·exact absurd (JD h5 h3) h4
 ·rfl
theorem Zu {K es:List ByteArray} (hn:K.Nodup) (hm:∀s,s∈K↔s∈es):Gp K=EH es:=eV (TP hn) fun x=>by rw[SA,hm x]
theorem Kv (g:List Rul) (hsm:(AK 3 g).length*16<=140737488355328):Ag Tryz.prog 51 [AM g] (Bo (AH g)):=by
 refine⟨Tryz.call51,by simp[mx],fun cur M w vs hM hr=> ?_⟩;simp only[Aw]at hr;obtain⟨v0,r0,wI,h0,rfl⟩:=hr;have vE:vs= #[v0]:=by cases vs;simpa using wI
 subst vE;have qO:=aY (AK 3 g);have hN:=Kt g 3;obtain⟨m,hm⟩:∃m,m=Ow (AK 3 g):=⟨_,rfl⟩;rw[<-hm]at hN qO;obtain⟨_,_,hN⟩:=hN
 have hN:=(hN M w (fun _=>⟨[],Go.undef⟩) #[v0,.int .i64 3] ⟨by simp,by simp[Aa],by simp[Aa],fun b hb=>hM b (by simpa[Aa]using hb),by simp⟩ (by
  simp only[Aw];refine⟨v0,_,rfl,?_,_,_,rfl,by simp[Dm.rd],rfl⟩
  exact Ch (n:=0) ⟨fun _ _ _ h _=>absurd h (Nat.not_lt_zero _),fun _ _ _ _ h=>h,fun b _ hb _ _ hm=>hb (by simpa[Aa]using hm)⟩ _ _ (by simp[mx]) h0)).2
 have cK:∀mb W,CallsIn Fence.wide 5 Tryz.prog 100 #[.map mb] W fun e w'=>e= .returned (.func (.func 155) #[] #[.pointer (some ⟨W.heap.size,0,none⟩)])/\w'=W.alloc (.cells #[.map mb] 161):=fun mb W=>AnyZ.keys_in Tryz.keysM Fence.wide 5 trivial rfl mb W
 have hf1:Fence.wide.fn 101:=trivial;have hf2:Fence.wide.fn 100:=trivial;have hf3:Fence.wide.fn 99:=trivial;refine(callsIn_wide (n:=6)).1 ?_;refine callsIn_of_wp Tryz.func51 rfl trivial ?_ rfl;simp only[Tryz.ntmps51,dH0,List.length_cons,List.length_nil,Nat.reduceAdd,Nat.reduceSub,Array.replicate_succ,Array.replicate_zero,List.push_toArray,List.append_toArray,List.nil_append,List.cons_append]
 gi_wp2_with (gi_at_call 101;refine(callsIn_wide.2 hN).mono ?_;rintro e w1 ⟨v1,rfl,loc1,S1,U1,hnew1,hver1,hrd1⟩)
 simp only[Dm.rd]at hrd1;obtain⟨b,qS,rfl⟩:=hrd1 (loc1 0) rfl;have hO:=S1.ok _ (aG0.2 rfl);obtain⟨b',es,clk,wV,nA,gU,cA,_⟩:=hO;simp only at wV;rw[qS]at wV;simp only[bF0,and_true]at wV;subst wV;obtain⟨hke,wR⟩:=Sw cA;have qY:m.K.length<=(AK 3 g).length:=qO.le;have cX:m.K.length<=maxLen:=by unfold maxLen;omega
 have jC:b<w1.heap.size:=(aD0.1 nA).1;obtain⟨D0,gG,kJ,hsize⟩:=CD_ (w:=w1.alloc (.cells #[.map (some b)] 161)) (b:=b) (by rw[<-nA];simp only[World.alloc,bP0];rw[if_neg (by omega)]) gU hke wR qO.nd cX
 gi_wp2_with (gi_at_call 100;refine(cK _ _).mono ?_;rintro e w2 ⟨rfl,rfl⟩)
 have hseq:SeqGives Fence.wide 2 Tryz.prog 155 #[.pointer (some ⟨w1.heap.size,0,none⟩)] encStr (fun ss=>ss.Perm (strKeys D0)) (Maps.size D0) (w1.alloc (.cells #[.map (some b)] 161)) :=
  AnyZ.keys_gives (ρ:=Tryz.keysM_ren) { Tryz.keysM with } Fence.wide _ trivial rfl (by omega) w1.heap.size b m.K.length D0 _ (by simp) (by simp) gG
 have cS:=AnyZ.sorted_in Tryz.sortedM Fence.wide 5 trivial trivial trivial trivial rfl (by omega) (DZ_ _) (enters_of Tryz.func154 (by kernel_rfl) rfl) 155 #[.pointer (some ⟨w1.heap.size,0,none⟩)] trivial (enters_of Tryz.func155 (by kernel_rfl) rfl) _ _ (by omega) (by omega) _ hseq
 change CallsIn _ _ Tryz.prog 99 _ _ _ at cS
 gi_wp2_with (gi_at_call 99;refine cS.mono ?_;rintro e w3 ⟨v,ss,rfl,hS,wW,hnil,hb3⟩)
 go_ret
 have hU:Upd [] w w3:=(show Upd [] w w1 from U1).trans ((Upd.alloc [] w1 _).trans (pQ hb3) (by simp)) (by simp)
 have hss:(ss.mergeSort fun x y=>decide (x<=y)).map (fun x=>(⟨x.toArray⟩:ByteArray))=AH g:=by
  have h1:ss.mergeSort leB=(m.K.map fun s=>s.data.toList).mergeSort leB:=mergeSort_of_perm (hS.trans kJ);have h2:=Zu qO.nd qO.mem;unfold Gp at h2;unfold AH;rw[<-h2,<-h1]
 have fO:ss.length=m.K.length:=by rw[hS.length_eq,kJ.length_eq,aO0]
 refine⟨v,rfl,hU,?_⟩;simp only[Dm.rd];rw[<-hss];obtain⟨_,wW⟩:=wW
 rcases wW with ⟨rfl,hz⟩ | ⟨gb,cap,cur2,rfl,hbase,hgb,r1,r2,r3,r4⟩
 ·have h0:ss=[]:=bM0 hz;subst h0;exact⟨none,0,by simp,by simp,by simp,by simp,.inl ⟨by simp,fun _=>rfl⟩⟩
 ·have jJ:(ss.mergeSort fun x y=>decide (x<=y)).length=ss.length:=List.length_mergeSort _;refine⟨some ⟨gb,0,none⟩,cap,by simp,by simpa using r1,r2,?_,.inr ⟨gb,0,cur2,_,(0,0),rfl,fun hm=> ?_,hgb,?_⟩⟩
  ·simp only[aO0,jJ];omega
  ·have h1:=hM gb hm;have h2:=U1.size;simp at hbase;omega
  ·refine FN _ _ _ _ fun i cs hi=> ?_
   rw[bH0,bH0,Option.map_map,aY0]at hi;obtain⟨x,hx,rfl⟩:=hi;refine⟨rfl,?_⟩;have fM:i<ss.length:=by have:=(aF0.1 hx).1;omega
   have vZ:cur2[i]? =some (encStr x):=by
    have h1:(cur2.toList.take (ss.length*1))[i]? =some (encStr x):=by rw[r4,bH0,hx];rfl
    rw[bT0 (by omega)]at h1;simpa using h1
   have dJ:x.length<=maxLen:=by
    have h1:x∈m.K.map fun s=>s.data.toList:=(hS.trans kJ).mem_iff.1 ((dW0 ss _).mem_iff.1 (bJ0 hx))
    obtain⟨s,hs,rfl⟩:=aQ0.1 h1;exact wR s hs
   simp only[Function.comp_apply,AD,Dv,and_true];exact⟨encStr x,by simpa using vZ,rfl,by simp only[Dm.rd];exact⟨trivial,dJ⟩⟩
end Go.Proofs.Wy
end
section
namespace Go.Proofs.Wy
open Go Go.Dm Tryz
attribute [local irreducible] DW Bh Bk
set_option maxRecDepth 100000
def YF : Ann:=⟨[],[]⟩
theorem sA (g:List Rul) (hl:g.length<=64) (hs:Gn g):Ag prog 146 [AM g] (.bool (decide (16<(AH g).length))):=by
 refine Ad [] YF func146 call146 ntmps146 mxd (Az @YF.eq_1 results146) rfl (fun qJ B qX qQ=> ?_);clear qJ;simp only[Ap];have n3:=Ff (k:=3) hs;have e1:=Kv g (by omega);obtain⟨H,hH⟩:∃H,H=AH g:=⟨_,rfl⟩;rw[<-hH]at e1;rw[<-hH];have h2:decide (16<H.length)=decide ((16:Int)<(H.length:Int)):=decide_eq_decide.2 (by omega);rw[h2];exact AA (AQ e1) Ac Ac
def YE : Ann:=⟨[],[]⟩
theorem rW (gt:GT) (hk:uU gt) (hs:Gn (Bz gt)) (h1:1<=gt.length) (hl:gt.length<=64):Ag prog 150 [AM (Bz gt)] (.bool (!IT gt)):=by
 refine Ad [] YE func150 call150 ntmps150 mxd (Az @YE.eq_1 results150) rfl (fun qJ B qX qQ=> ?_);clear qJ;simp only[Ap];have e1:=TM gt hk hs h1 hl;obtain⟨g,hg⟩:∃g,g=Bz gt:=⟨_,rfl⟩;rw[<-hg]at e1 |-;exact AA (AQ e1) Ac Ac
def YG : Ann:=⟨[],[]⟩
theorem SE (f:FuncId):Ag prog 137 [.fn (.func f) [] []] (.fn (.func 138) [] [.ref [.fn (.func f) [] []]]):=by
 refine Ad [] YG func137 call137 ntmps137 mxd (Az @YG.eq_1 results137) rfl (fun qJ B qX qQ=> ?_) (hd:=(by simp[mx,AJ]));clear qJ;simp only[Ap];exact AA Ac Ac Ac
structure Ask where
 f:FuncId
 cs:List DVal
 b:Bool
 e:Int
def QN (x:Ask):List DVal:=[.fn (.func x.f) [] x.cs,.int .i64 x.e]
def Gm (b1 b2 b3 b4 b5 b6 b7 b8:Bool):List Ask :=
 [⟨140,[],b1,180⟩,⟨138,[.ref [.fn (.func 141) [] []]],b2,170⟩,⟨144,[],b3,181⟩,⟨146,[],b4,182⟩,⟨147,[],b5,183⟩,⟨138,[.ref [.fn (.func 148) [] []]],b6,171⟩,⟨149,[],b7,184⟩,⟨150,[],b8,174⟩]
def oN : Ann:=⟨[],[]⟩
theorem GE (b1 b2 b3 b4 b5 b6 b7 b8:Bool):Ag prog 97 [] (.sl 2 16 ((Gm b1 b2 b3 b4 b5 b6 b7 b8).map QN)):=by
 refine Ad [] oN func97 call97 ntmps97 mxd (Az @oN.eq_1 results97) rfl (fun qJ B qX qQ=> ?_) (hd:=(by simp[mx,Bq,AJ,Gm,QN]));clear qJ;simp only[Ap,Gm,QN,List.map_cons,List.map_nil];have e1:=SE 141;have e2:=SE 148;have r8:List.range 8=[0,1,2,3,4,5,6,7]:=rfl;exact AA (Az e1 e2) Ac (AQ r8)
def KZ : List Ask->Int
 | []=>0
 | x::l=>if x.b then x.e else KZ l
def oO : Ann:=⟨[],[⟨3,[4],[],[]⟩]⟩
theorem Js (g:List Rul) (l:List Ask) (hl8:l.length=8) (vY:Bq (l.map QN)=0) (ho:Ag prog 97 [] (.sl 2 16 (l.map QN)))
  (hq:∀(k:Nat) (x:Ask),l[k]? =some x->(∀(j:Nat) (y:Ask),j<k->l[j]? =some y->y.b=false)->Ag prog x.f (AM g::x.cs) (.bool x.b)):Ag prog 49 [AM g] (.int .i64 (KZ l)):=by
 refine Ad [] oO func49 call49 ntmps49 mxd (Az @oO.eq_1 results49) rfl (fun qJ B qX qQ=> ?_);clear qJ;simp only[Ap];obtain⟨R,hR⟩:∃R,R=KZ l:=⟨_,rfl⟩;rw[<-hR]
 (refine Ba (AQ ho) Ac Ac ?_;intros;refine Al ?_)
 refine An (X:={k:Nat//k<=l.length/\R=KZ (l.drop k)/\∀(j:Nat) (y:Ask),j<k->l[j]? =some y->y.b=false}) (fun x=>⟨[(0,AM g),(5,.sl 2 16 (l.map QN)),(6,.int .i64 l.length),(7,.int .i64 x.1)],[]⟩) (fun x=>l.length-x.1) ⟨0,by simp[hR]⟩ (Sub.lit (by simp[vY])) ?_;clear hR;rintro⟨k,hk,hR,zQ⟩
 by_cases qV:k<l.length
 ·obtain⟨x,hx,qG,zJ⟩:=Ar qV;rw[aU0 qV,qG,KZ]at hR;have e1:=hq k x hx zQ;cases hb:x.b
  ·rw[hb]at e1 hR;simp only[bE0,if_false]at hR
   have bT:∀(j:Nat) (y:Ask),j<k+1->l[j]? =some y->y.b=false:=by
    intro i y hi hy
    by_cases dW:i=k
    ·subst dW;rw[hx]at hy;simp only[aA0]at hy;subst hy;exact hb
    ·exact zQ i y (by omega) hy
   (refine Ba (AQ e1) Ac (JV @QN.eq_1 qV hx qG) ?_;intros;refine Al ?_)
   exact Ak.mk ⟨k+1,by omega,hR,bT⟩ (Sub.lit (by simp[vY])) (by simp;omega)
   skip
  ·rw[hb]at e1 hR;simp only[if_true]at hR;subst hR;exact AA (AQ e1) Ac (JV @QN.eq_1 qV hx qG)
 ·have qN:k=l.length:=by omega
  subst qN;rw[cL0]at hR;have vQ:R=0:=hR;subst vQ;exact AA Ac Ac Ac
theorem Si (g:List Rul) (h:g.length<1\/64<g.length):Ag prog 49 [AM g] (.int .i64 180):=by
 have hq:=ML g;have hb:(decide (g.length<1)||decide (64<g.length))=true:=by simpa using h
 rw[hb]at hq;refine Js g (Gm true true true true true true true true) rfl (by simp[Gm,QN,Bq,AJ,mx]) (GE _ _ _ _ _ _ _ _) fun k x hx zQ=> ?_
 cases k with
 | zero =>
  simp only[Gm,bB0,aA0]at hx;subst hx;exact hq
 | succ k=>have:=zQ 0 _ (by omega) rfl;simp at this
theorem XL (g:List Rul) (h1:1<=g.length) (h2:g.length<=64) (hs:Gn g) (ht:EL g=false):Ag prog 49 [AM g] (.int .i64 170):=by
 have q1:=ML g;have hb:(decide (g.length<1)||decide (64<g.length))=false:=by rw[decide_eq_false (by omega),decide_eq_false (by omega)];rfl
 rw[hb]at q1;have q2:=MM 141 g XR fun x hx=>SG x (hs x hx)
 have wV:g.any XR=true:=by
  unfold EL at ht;rw[List.all_eq_false]at ht;obtain⟨r,hr,hn⟩:=ht;refine cF0.2 ⟨r,hr,?_⟩;unfold XR;rw[Bool.not_eq_true]at hn;rw[hn];rfl
 rw[wV]at q2;refine Js g (Gm false true true true true true true true) rfl (by simp[Gm,QN,Bq,AJ,mx]) (GE _ _ _ _ _ _ _ _) fun k x hx zQ=> ?_
 match k,hx,zQ with
 | 0,hx,_ =>
  simp only[Gm,bB0,aA0]at hx;subst hx;exact q1
 | 1,hx,_ =>
  simp only[Gm,bB0,bL0,aA0]at hx;subst hx;exact q2
 | k+2,_,zQ=>have:=zQ 1 _ (by omega) rfl;simp at this
theorem ZQ {gt:GT} (hk:uU gt) (hd:Gu gt=false):IT gt=decide ((BY gt).size<=2048):=by
 unfold IT
 by_cases h:(BY gt).size<=2048
 ·rw[decide_eq_true h,dT0,aX0];intro p hp;have h1:=xY hp;have h2:=eW p.2 (hk p hp).2;unfold Gu at hd;rw[dZ0]at hd;have h3:=hd p hp;simp only[decide_eq_true_eq]at h3;unfold EU CN;rw[if_neg h3,if_neg (by omega)];simp;omega
 ·rw[decide_eq_false h,Bool.and_false]
theorem aZ (gt:GT) (h1:1<=gt.length) (h2:gt.length<=64) (hk:uU gt) (hs:Gn (Bz gt)):Ag prog 49 [AM (Bz gt)] (.int .i64 (Me gt)):=by
 have jJ:=Gs gt;have q1:=ML (Bz gt);have hb:(decide ((Bz gt).length<1)||decide (64<(Bz gt).length))=false:=by rw[decide_eq_false (by omega),decide_eq_false (by omega)];rfl
 rw[hb]at q1;have q2:=MM 141 (Bz gt) XR fun x hx=>SG x (hs x hx)
 have wV:(Bz gt).any XR=false:=by
  have ht:=Xm hk;unfold EL at ht;rw[aX0]at ht;rw[dZ0];intro r hr;unfold XR;rw[ht r hr];simp
 rw[wV]at q2;have n2:=Ff (k:=2) hs;have q3:=sB (Bz gt) (by omega) hs;have q4:=sA (Bz gt) (by omega) hs;have q5:=rZ (Bz gt) hs (by omega)
 have q6:Ag prog 138 [AM (Bz gt),.ref [.fn (.func 148) [] []]] (.bool (Gu gt)):=by
  have hq:∃q:Rul->Bool,(∀p∈gt,q ⟨p.1,flat p.2⟩=decide (16<Iv p.2))/\∀x∈Bz gt,Ag prog 148 [.agg (BO x)] (.bool (q x)):=by
   refine⟨fun r=>decide (16<(r.b.foldl Es ([],0)).2),fun p hp=> ?_,fun x hx=> ?_⟩
   ·simp only[Jf (hk p hp).2]
   ·obtain⟨p,hp,rfl⟩:=aQ0.1 hx;simp only[Jf (hk p hp).2];exact rY p.1 p.2 (hk p hp).2 (IE hs hp)
  obtain⟨q,fK,jK⟩:=hq;have e1:=MM 148 (Bz gt) q jK
  have:(Bz gt).any q=Gu gt:=by
   unfold Bz Gu;rw[List.any_map];rw[Bool.eq_iff_iff,cF0,cF0]
   constructor
   ·rintro⟨p,hp,h⟩;exact⟨p,hp,by rw[<-fK p hp];exact h⟩
   ·rintro⟨p,hp,h⟩;exact⟨p,hp,by rw[<-fK p hp]at h;exact h⟩
  rw[this]at e1;exact e1
 have q7:=rX (Bz gt) (by omega);have q8:=rW gt hk hs h1 h2
 have hf:Me gt=KZ (Gm false false (decide (16<(AE (Bz gt)).length+(Dc (Bz gt)).length)) (decide (16<(AH (Bz gt)).length)) (decide (64<DX (Bz gt))) (Gu gt) (decide (0<(Dc (Bz gt)).length)) (!IT gt)):=by
  unfold Me;simp only[Gm,KZ,bE0,if_false,decide_eq_true_eq];cases hd:Gu gt
  ·rw[ZQ hk hd]
   by_cases h8:2048<(BY gt).size
   ·have h8':¬(BY gt).size<=2048:=by omega
    simp[h8,h8']
   ·have h8':(BY gt).size<=2048:=by omega
    simp[h8,h8']
  ·simp
 rw[hf];refine Js (Bz gt) _ rfl (by simp[Gm,QN,Bq,AJ,mx]) (GE _ _ _ _ _ _ _ _) fun k x hx zQ=> ?_
 match k,hx with
 | 0,hx=>simp only[Gm,bB0,bL0,aA0]at hx;subst hx;exact q1
 | 1,hx=>simp only[Gm,bB0,bL0,aA0]at hx;subst hx;exact q2
 | 2,hx=>simp only[Gm,bB0,bL0,aA0]at hx;subst hx;exact q3
 | 3,hx=>simp only[Gm,bB0,bL0,aA0]at hx;subst hx;exact q4
 | 4,hx=>simp only[Gm,bB0,bL0,aA0]at hx;subst hx;exact q5
 | 5,hx=>simp only[Gm,bB0,bL0,aA0]at hx;subst hx;exact q6
 | 6,hx=>simp only[Gm,bB0,bL0,aA0]at hx;subst hx;exact q7
 | 7,hx=>simp only[Gm,bB0,bL0,aA0]at hx;subst hx;exact q8
 | k+8,hx=>simp[Gm]at hx
end Go.Proofs.Wy
end
