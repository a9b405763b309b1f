/- Parts of a proof, laid together: BN2, BN5, BN6, BN7, SY1, EnSi, BO1, BO2, BO5, BO3, EnFl, BO4. -/
import Derived.Shelf.SlIter.Nil
import Derived.Shelf.SlIter.Sorted
import Derived.Shelf.SortM.Plain
import Derived.Shelf.SortM.SortNone
import Derived.Shelf.Sort.Plain
import Derived.Shelf.Slices.In.SortNone
import Derived.Shelf.Spec.SlicesGrow
import Derived.Test.YtchgnpnbcjflcaaGreatqDe4
import Derived.Test.YtchgnpnbcjflcaaGreatqDe5
import Derived.Test.YtchgnpnbcjflcaaGreatqDe6
import Derived.Test.YtchgnpnbcjflcaaGreatqDe7
set_option linter.unusedSimpArgs false
set_option maxHeartbeats 8000000
set_option linter.unusedVariables false
set_option linter.unusedSectionVars false
section
namespace Go.Proofs.Wy
open Go Go.Dm Tryz
variable [DMode]
attribute [local irreducible] DW Bi Bk
set_option maxRecDepth 100000
def tA : Ann:=⟨[],[]⟩
theorem Tb (s:ByteArray):Ad prog 231 [.str s] (.bool (DD 2 s)):=by
 refine Ac [] tA func231 call231 ntmps231 mxd (Aq @tA.eq_1 results231) rfl (fun qJ B qX qQ=> ?_);clear qJ;simp only[Am];have e1:=Vc 2 (.inl rfl) s;simp only[Ce]at e1;cases h:DD 2 s
 ·rw[h]at e1;exact Au (AA e1) Aa Aa
 ·rw[h]at e1;exact Au (AA e1) Aa Aa
def Oq : Ann:=⟨[],[]⟩
theorem Qp (g:FuncId) (us cs:List DVal) (l:List Rul) (q:Rul->Bool) (hq:∀x∈l,Ad prog g (us++[.agg (BX x)]++cs) (.bool (q x))) :
  Ad prog 303 [AD l,.fn (.func g) us cs] (.int .i64 (if l.any q then ((l.findIdx q:Nat):Int)else -1)):=by
 refine Ac [] Oq func303 call303 ntmps303 mxd (Aq @Oq.eq_1 results303) rfl (fun qJ B qX qQ=> ?_);have wR:=Kw qJ.1;clear qJ;simp only[Am]
 (refine AM Aa Aa Aa ?_;intros;refine Aj ?_)
 refine Ak (X:={k:Nat//k<=l.length/\∀i x,i<k->l[i]? =some x->q x=false}) (fun x=>⟨[(0,AD l),(1,.fn (.func g) us cs),(7,.int .i64 l.length),(8,.int .i64 x.1)],[]⟩) (fun x=>l.length-x.1) ⟨0,by simp⟩ (Sub.lit (by simp)) ?_;rintro⟨k,hk,vA⟩
 by_cases qV:k<l.length
 ·obtain⟨x,hx,qG,vN⟩:=Aw qV;have zK:=hq x vN;simp only[BX,aQ0,List.cons_append,List.nil_append]at zK;cases hb:q x
  ·rw[hb]at zK
   have fQ:∀i y,i<k+1->l[i]? =some y->q y=false:=by
    intro i y hi hy
    by_cases gZ:i=k
    ·subst gZ;rw[hx]at hy;simp only[aA0]at hy;subst hy;exact hb
    ·exact vA i y (by omega) hy
   (refine AM (AA zK) Aa (Ez @BX.eq_1 qV qG) ?_;intros;refine Aj ?_)
   exact Al.mk ⟨k+1,by omega,fQ⟩ (Sub.lit (by simp[])) (by simp;omega)
   skip
  ·rw[hb]at zK;have wU:l.any q=true:=cM0.2 ⟨x,vN,hb⟩
   have bX:l.findIdx q=k:=by
    rw[List.findIdx_eq qV];refine⟨by rw[qG];exact hb,fun i hi=> ?_⟩;exact vA i _ hi (aH0 (by omega))
   exact Au (AA zK) Aa (Ja @BX.eq_1 qV qG wU bX)
 ·have qZ:k=l.length:=by omega
  have wU:l.any q=false:=by
   rw[dA0];intro x hx;obtain⟨i,hi,rfl⟩:=bK0 hx;rw[vA i _ (by omega) (aH0 hi)];simp
  (repeat (first | refine AE fun K hK=> ?_ | (refine Bv Oq mxd (by kernel_rfl) ?_;simp[Oq,qX,BX,qZ,wU];try simp (disch:=omega) only[Af]) | refine An ?_ | (refine AW ?_ ?_ ?_;(· (simp[qX,BX,qZ,wU];done));(try (rotate_left;(· (intro hc;(try simp[qX,BX,qZ,wU]at hc);done))))) | (refine AH ?_;simp[results303,qX,BX,qZ,wU]) | ((first | refine Ay ?_ | refine Ax ?_);simp[qX,BX,qZ,wU]) | (intro hc;(try simp[qX,BX,qZ,wU]at hc);(try (exfalso;omega))) | ((first | refine Ai (zK) ?_ | (refine Ah (zK) ?_ ?_;(· (simp;done))));try simp[qX,BX,qZ,wU]) | (refine⟨?_,?_⟩; · omega) | omega | apply_assumption -exfalso -symm | (exfalso;omega)))
def tD : Ann:=⟨[],[]⟩
theorem MI (g:FuncId) (us cs:List DVal) (l:List Rul) (q:Rul->Bool) (hq:∀x∈l,Ad prog g (us++[.agg (BX x)]++cs) (.bool (q x))) :
  Ad prog 228 [AD l,.fn (.func g) us cs] (.bool (l.any q)):=by
 refine Ac [] tD func228 call228 ntmps228 mxd (Aq @tD.eq_1 results228) rfl (fun qJ B qX qQ=> ?_);simp only[Am];have hi:=Qp g us cs l q hq;have jU:(0:Int)<=(l.findIdx q:Nat):=by omega
 cases hb:l.any q
 ·rw[hb]at hi;exact Au (AA hi) Aa (AA hb)
 ·rw[hb]at hi;exact Au (AA hi) Aa (AA hb)
def iZ (r:Rul):Bool:= !(DD 2 r.h&&Dr r.b)
def tB : Ann:=⟨[],[]⟩
theorem VG (r:Rul) (hs:r.b.length<=1572864):Ad prog 230 [.agg (BX r)] (.bool (iZ r)):=by
 refine Ac [] tB func230 call230 ntmps230 mxd (Aq @tB.eq_1 results230) rfl (fun qJ B qX qQ=> ?_);clear qJ;simp only[Am];have e1:=Tb r.h;unfold iZ;cases h1:DD 2 r.h
 ·rw[h1]at e1;exact Au (AA e1) Aa (AA @BX.eq_1)
 ·rw[h1]at e1;cases h2:Dr r.b
  ·have e2:=Ye r.b hs h2;exact Au (Aq e1 e2) Aa (AA @BX.eq_1)
  ·obtain⟨t,ht,hb⟩:=Mf h2;have e2:=LZ t ht (by rw[<-hb];exact hs);rw[<-hb]at e2;have hp:1<=JR t:=by cases t;rw[Yc];omega
   have qC:((JR t:Int)==0)=false:=by simp;omega
   exact Au (Aq e1 e2) Aa (Aq @BX.eq_1 qC)
def sW : Ann:=⟨[],[]⟩
theorem Ey_ (h:ByteArray) (t:RT) (ht:FX t=true) (hs:(flat t).length<=1572864):Ad prog 238 [.agg (BX ⟨h,flat t⟩)] (.bool (decide (16<JR t))):=by
 refine Ac [] sW func238 call238 ntmps238 mxd (Aq @sW.eq_1 results238) rfl (fun qJ B qX qQ=> ?_);clear qJ;simp only[Am];have e2:=LZ t ht hs;have hd:decide (16<JR t)=decide ((16:Int)<(JR t:Int)):=decide_eq_decide.2 (by omega);rw[hd];exact Au (AA e2) Aa (AA @BX.eq_1)
def tE : Ann:=⟨[],[]⟩
theorem OP (f:FuncId) (g:List Rul) (q:Rul->Bool) (hq:∀x∈g,Ad prog f [.agg (BX x)] (.bool (q x))):Ad prog 227 [AD g,.ref [.fn (.func f) [] []]] (.bool (g.any q)):=by
 refine Ac [] tE func227 call227 ntmps227 mxd (Aq @tE.eq_1 results227) rfl (fun qJ B qX qQ=> ?_);clear qJ;simp only[Am];have e1:=MI f [] [] g q fun x hx=>by simpa using hq x hx
 exact Au (AA e1) Aa Aa
def tC : Ann:=⟨[],[]⟩
theorem OO (g:List Rul):Ad prog 229 [AD g] (.bool (decide (g.length<1)||decide (64<g.length))):=by
 refine Ac [] tC func229 call229 ntmps229 mxd (Aq @tC.eq_1 results229) rfl (fun qJ B qX qQ=> ?_);clear qJ;simp only[Am];have h1:decide (g.length<1)=decide ((g.length:Int)<1):=decide_eq_decide.2 (by omega);have h2:decide (64<g.length)=decide ((64:Int)<(g.length:Int)):=decide_eq_decide.2 (by omega);rw[h1,h2]
 by_cases c:(g.length:Int)<1
 ·exact Au Aa Aa (AA c)
 ·exact Au Aa Aa (AA c)
def sV : Ann:=⟨[],[]⟩
theorem Ex_ (g:List Rul) (hn:(AX 2 g).length<=9223372036854775807):Ad prog 239 [AD g] (.bool (decide (0<(CX g).length))):=by
 refine Ac [] sV func239 call239 ntmps239 mxd (Aq @sV.eq_1 results239) rfl (fun qJ B qX qQ=> ?_);clear qJ;simp only[Am];have e1:=JF g hn;have h2:decide (0<(CX g).length)=decide ((0:Int)<((CX g).length:Int)):=decide_eq_decide.2 (by omega);rw[h2];exact Au (AA e1) Aa Aa
def sZ : Ann:=⟨[],[]⟩
theorem EB_ (g:List Rul) (hl:g.length<=64) (hs:Fa g):Ad prog 233 [AD g] (.bool (decide (16<(AB g).length+(CX g).length))):=by
 refine Ac [] sZ func233 call233 ntmps233 mxd (Aq @sZ.eq_1 results233) rfl (fun qJ B qX qQ=> ?_);clear qJ;simp only[Am];have n2:=EL (k:=2) hs;have e1:=JF g (by omega);have e2:=Js g;have b1:=Jr g
 have b2:(CX g).length<=110000000:=by
  have:=HV (AX 2 g);have:=cU0 (fun s=> !decide (s∈AB g)) (Fc (AX 2 g));unfold CX;omega
 obtain⟨H,hH⟩:∃H,H=AB g:=⟨_,rfl⟩;obtain⟨m,hm⟩:∃m,m=(CX g).length:=⟨_,rfl⟩;rw[<-hH]at e2 b1;rw[<-hm]at e1 b2;rw[<-hH,<-hm];have h2:decide (16<H.length+m)=decide ((16:Int)<(H.length:Int)+(m:Int)):=decide_eq_decide.2 (by omega);rw[h2];have w1:IntKind.i64.wrap ((H.length:Int)+(m:Int))=(H.length:Int)+(m:Int):=wq;exact Au (Aq e1 e2) Aa (AA w1)
def sX : Ann:=⟨[],[⟨4,[5],[],[]⟩]⟩
theorem xP (g:List Rul) (hs:Fa g) (hl:g.length<=64):Ad prog 237 [AD g] (.int .i64 (CS g)):=by
 refine Ac [] sX func237 call237 ntmps237 mxd (Aq @sX.eq_1 results237) rfl (fun qJ B qX qQ=> ?_);clear qJ;simp only[Am];have ho:=XH hs
 (refine AM Aa Aa Aa ?_;intros;refine Aj ?_)
 refine Ak (X:={i:Nat//i<=g.length}) (fun i=>⟨[(0,AD g),(3,.int .i64 (CS (g.take i.1))),(6,AD g),(7,.int .i64 g.length),(8,.int .i64 i.1)],[]⟩) (fun i=>g.length-i.1) ⟨0,by omega⟩ (Sub.lit (by simp[CS])) ?_;rintro⟨i,hi⟩;simp only
 by_cases qV:i<g.length
 ·obtain⟨r,hr,wL,dL⟩:=Aw qV;have e1:=Sx r.b;have h1:=VK hr;have h2:=Nn g (i+1);have h3:=XG r.b;have w1:IntKind.i64.wrap ((CS (g.take i):Int)+(GM r.b:Int))=(CS (g.take (i+1)):Int):=by rw[wq];omega
  have w2:IntKind.i64.wrap ((i:Int)+1)=(i:Int)+1:=wq
  (refine AM (AA e1) Aa (JT @BX.eq_1 qV hr wL w1 w2) ?_;intros;refine Aj ?_)
  refine Al.mk ⟨i+1,by omega⟩ (Sub.lit (by simp)) (by simp;omega)
  skip
 ·have qZ:i=g.length:=by omega
  subst qZ;rw[aY0];exact Au Aa Aa Aa
def sY : Ann:=⟨[],[]⟩
theorem Ez_ (g:List Rul) (hs:Fa g) (hl:g.length<=64):Ad prog 236 [AD g] (.bool (decide (64<CS g))):=by
 refine Ac [] sY func236 call236 ntmps236 mxd (Aq @sY.eq_1 results236) rfl (fun qJ B qX qQ=> ?_);clear qJ;simp only[Am];have e1:=xP g hs hl;have h2:decide (64<CS g)=decide ((64:Int)<(CS g:Int)):=decide_eq_decide.2 (by omega);rw[h2];exact Au (AA e1) Aa Aa
def FA (t:RT):Bool:=decide ((flat t).length<=2048)&&decide (Dw t=0)
def xD (t:RT):DVal:=if (flat t).length<=2048 then (if Dw t=0 then .tup [.str (Dd t),.int .i64 0]else .tup [.str ⟨#[]⟩,.int .i64 (Dw t)])else .tup [.str ⟨#[]⟩,.int .i64 3]
def IV : Ann:=⟨[],[]⟩
theorem UL (t:RT) (ht:FX t=true):Ad prog 304 [BC (flat t)] (xD t):=by
 unfold xD
 by_cases hl:(flat t).length<=2048
 ·rw[if_pos hl];have e1:=NO t ht hl;have e2:=MS _ t rfl ht (by omega);obtain⟨b,hb⟩:∃b,b=flat t:=⟨_,rfl⟩;rw[<-hb]at e1 e2 |-
  by_cases h0:Dw t=0
  ·rw[if_pos h0];rw[h0]at e1;refine Ac [] IV func304 call304 ntmps304 mxd (Aq @IV.eq_1 results304) rfl (fun qJ B qX qQ=> ?_);clear qJ;simp only[Am];exact Au (Aq e1 e2) Aa Aa
  ·rw[if_neg h0];have vP:(Dw t != 0)=true:=by simpa using h0
   refine Ac [] IV func304 call304 ntmps304 mxd (Aq @IV.eq_1 results304) rfl (fun qJ B qX qQ=> ?_);clear qJ;simp only[Am];have z0:(⟨#[]⟩:ByteArray).size<=maxLen:=cH0 _;exact Au (AA e1) Aa (Ez h0 vP z0)
 ·rw[if_neg hl];have e1:=NP (flat t) (by omega);obtain⟨b,hb⟩:∃b,b=flat t:=⟨_,rfl⟩;rw[<-hb]at e1 |-;refine Ac [] IV func304 call304 ntmps304 mxd (Aq @IV.eq_1 results304) rfl (fun qJ B qX qQ=> ?_);clear qJ;simp only[Am];have z0:(⟨#[]⟩:ByteArray).size<=maxLen:=cH0 _;exact Au (AA e1) Aa (AA z0)
theorem Qf (x:ByteArray) (hx:x.size≠0):AS prog (.func 306) [.rx 0 0 2 0 0] [⟨0,0,.row 338 2 32 [[.rx 0 0 2 0 0,.osl 1 0]]⟩,⟨1,0,.row 5 1 1 (Ba x)⟩] (.str x) [⟨0,0,.row 338 2 32 [[.rx 0 0 2 0 0,.sl 1 1 (Ba x)]]⟩] :=
 KP Tryz.bldString iX call306 32 x hx
def sT : Ann:=⟨[],[]⟩
theorem aR (x:ByteArray):AS prog (.func 307) [.rx 0 0 2 0 0] [⟨0,0,.row 338 2 32 [[.rx 0 0 2 0 0,.sl 1 1 (Ba x)]]⟩] (.int .i64 x.size) [⟨0,0,.row 338 2 32 [[.rx 0 0 2 0 0,.sl 1 1 (Ba x)]]⟩]:=by
 refine Bj [] [(0,0,0)] sT func307 call307 ntmps307 mxd (Aq @sT.eq_1 results307) rfl (fun qJ B qX qQ=> ?_) (hv:=(by simp[Gv]));clear qJ;simp only[Am];have h1:=Bf x;have h2:=Gv x;obtain⟨D,hD⟩:∃D,D=Ba x:=⟨_,rfl⟩;rw[<-hD]at h1 h2 |-;exact Au Aa Aa (AA h1)
theorem VA (p:ByteArray×RT):(JE p).size≠0:=by
 unfold JE;simp only[aO0];have z3:(⟨#[32,61,32]⟩:ByteArray).size=3:=rfl;omega
def Kq (gt:GT):Bool:=gt.all (fun p=>FA p.2)&&decide ((Cj gt).size<=2048)
def Bw_ (gt:GT):ByteArray:=if gt.all (fun p=>FA p.2)then Cj gt else ⟨#[]⟩
theorem DR_ {gt:GT} (h:1<=gt.length):(Cj gt).size≠0:=by
 have h1:=GA (aH0 (show 0<gt.length by omega));have h2:=LN gt 1;rw[h1,aO0]at h2;have:=VA (gt[0]'(by omega));omega
def Oo : Ann:=⟨[29,31,32],[⟨1,[4],[],[]⟩,⟨4,[6],[],[]⟩]⟩
theorem WW (gt:GT) (hk:OkG gt) (hs:Fa (AZ gt)) (h1:1<=gt.length) (hl:gt.length<=64):Ad prog 241 [AD (AZ gt)] (.tup [.str (Bw_ gt),.bool (Kq gt)]):=by
 refine Ac [] Oo func241 call241 ntmps241 mxd (Aq @Oo.eq_1 results241) rfl (fun qJ B qX qQ=> ?_);clear qJ;simp only[Am];have kJ:=Gh gt;have yR:=fun i p=>xW (gt:=gt) (i:=i) (p:=p)
 have yM:=fun p=>Kc hs (p:=p)
 have yB:=Mh hk hs;have cQ:=fun p=>RM hk hs (p:=p)
 obtain⟨g,hg⟩:∃g,g=AZ gt:=⟨_,rfl⟩;rw[<-hg]at kJ yR |-;clear hs hg;obtain⟨R,hR⟩:∃R,R=Bw_ gt:=⟨_,rfl⟩;obtain⟨O,hO⟩:∃O,O=Kq gt:=⟨_,rfl⟩;rw[<-hR,<-hO];have z3:(⟨#[32,61,32]⟩:ByteArray).size=3:=rfl;have z4:(⟨#[32,59,10]⟩:ByteArray).size=3:=rfl;have m3:3<=maxLen:=by decide
 have m1:1<=maxLen:=by decide
 have mbig:3000000000<=maxLen:=by decide
 have z0:(⟨#[]⟩:ByteArray).size<=maxLen:=cH0 _;refine AE fun K0 hK0=> ?_
 (first | refine AE fun K hK=> ?_ | (refine Bv Oo mxd (by kernel_rfl) ?_;simp[Oo,qX,z0];try simp (disch:=omega) only[Af]) | refine An ?_ | (refine AW ?_ ?_ ?_;(· (simp[qX,z0];done));(try (rotate_left;(· (intro hc;(try simp[qX,z0]at hc);done))))) | (refine AH ?_;simp[results241,qX,z0]) | ((first | refine Ay ?_ | refine Ax ?_);simp[qX,z0]) | (intro hc;(try simp[qX,z0]at hc);(try (exfalso;omega))) | (refine⟨?_,?_⟩; · omega) | omega | apply_assumption -exfalso -symm | (exfalso;omega))
 apply hK0
 refine AE fun K1 hK1=> ?_
 refine Ly (bs:=32) (k:=2) (z:=[.nilp,.nilsl]) (by simp[qX]) (by simp) (by rfl) rfl (by decide) (fun r hr=> ?_);simp
 apply hK1
 (refine AM Aa Aa Aa ?_;intros;refine Aj ?_)
 refine Ak (X:={i:Nat//i<=gt.length/\(gt.take i).all (fun p=>FA p.2)=true}) (fun i=>⟨[(0,AD g),(4,.rx 4 1 2 0 0),(9,AD g),(10,.int .i64 gt.length),(11,.int .i64 i.1)],MT_ 4 50 (Cj (gt.take i.1))⟩) (fun i=>gt.length-i.1) ⟨0,by simp⟩ (Sub.lit (by simp only[List.take_zero,show Cj []=⟨#[]⟩ from rfl,Pn (T:=⟨#[]⟩) rfl];simp[kJ])) ?_;rintro⟨i,hi,wX⟩;simp only
 by_cases qV:i<gt.length
 ·obtain⟨p,hp,qN,zU⟩:=Aw qV;have hr:=yR i p hp;have qS:i<g.length:=by omega
  have wL:g[i]'qS=⟨p.1,flat p.2⟩:=(aB0.1 hr).2;have e1:=UL p.2 (hk p zU).2;have w2:IntKind.i64.wrap ((i:Int)+1)=(i:Int)+1:=wq;unfold xD at e1;obtain⟨b,hb⟩:∃b,b=flat p.2:=⟨_,rfl⟩;have mF:(gt.take (i+1)).all (fun p=>FA p.2)=FA p.2:=by rw[bF0,hp,List.all_append,wX];simp
  by_cases hpr:FA p.2=true
  ·have nH:=hpr;unfold FA at nH;rw[aM0,decide_eq_true_eq,decide_eq_true_eq]at nH;rw[if_pos nH.1,if_pos nH.2]at e1;rw[<-hb]at hr wL e1;rw[hpr]at mF;have wT:=GA hp;have hrs1:=cQ p zU;have nL:=yB i hi;have hrp:=VA p;have vT:JE p=p.1++⟨#[32,61,32]⟩++Dd p.2++⟨#[32,59,10]⟩:=rfl;obtain⟨s,hs⟩:∃s,s=Dd p.2:=⟨_,rfl⟩;rw[<-hs]at e1 vT;obtain⟨T,hT⟩:∃T,T=Cj (gt.take i):=⟨_,rfl⟩;rw[<-hT]at wT nL |-;obtain⟨U,hU⟩:∃U,U=JE p:=⟨_,rfl⟩
   rw[<-hU]at hrs1 hrp vT wT;have hUs:U.size=p.1.size+3+s.size+3:=by rw[vT];simp only[aO0,z3,z4]
   have y2:p.1.size+3<=maxLen:=by omega
   have y3:p.1.size+3+s.size<=maxLen:=by omega
   have y4:p.1.size+3+s.size+3<=maxLen:=by omega
   have hNs:(Cj (gt.take (i+1))).size≠0:=by rw[wT,aO0];omega
   have wD:=Ls (i:=4) (j:=50) hNs
   by_cases rB:T.size=0
   ·rw[Pn rB];have e2:=JD U (by omega);rw[Nr_ rB,FK_]at wT;rw[vT]at e2
    (refine AM (AA e1) (AA (Ee [(4,0)] [(50,1)] e2)) (YD @BX.eq_1 qV qS hr wL z3 z4 m3 m1 y2 y3 y4 @aO0 w2) ?_;intros;refine Aj ?_)
    refine Al.mk ⟨i+1,by omega,mF⟩ (Sub.lit (by rw[wD,wT,vT];simp)) (by simp;omega)
    skip
   ·rw[Ls rB];have e2:=CF T U (by omega);rw[<-wT]at e2;rw[vT]at e2
    (refine AM (AA e1) (AA (Ee [(4,0),(50,1)] [] e2)) (YD @BX.eq_1 qV qS hr wL z3 z4 m3 m1 y2 y3 y4 @aO0 w2) ?_;intros;refine Aj ?_)
    refine Al.mk ⟨i+1,by omega,mF⟩ (Sub.lit (by rw[wD];simp)) (by simp;omega)
    skip
  ·have bR:gt.all (fun p=>FA p.2)=false:=by
    rw[Bool.eq_false_iff];intro hh;rw[aV0]at hh;exact hpr (hh p zU)
   have vY:R=⟨#[]⟩:=by rw[hR];unfold Bw_;rw[bR];rfl
   have hO2:O=false:=by rw[hO];unfold Kq;rw[bR];rfl
   subst vY;subst hO2
   obtain⟨c,yW,e2⟩:∃c:Int,(c != 0)=true/\Ad prog 304 [BC (flat p.2)] (.tup [.str ⟨#[]⟩,.int .i64 c]):=by
    by_cases vW:(flat p.2).length<=2048
    ·rw[if_pos vW]at e1
     by_cases h0:Dw p.2=0
     ·exact absurd (by unfold FA;simp[vW,h0]) hpr
     ·rw[if_neg h0]at e1;exact⟨_,by simpa using h0,e1⟩
    ·rw[if_neg vW]at e1;exact⟨3,rfl,e1⟩
   have hc1:¬c=0:=by simpa using yW
   rw[<-hb]at hr wL e2;obtain⟨T,hT⟩:∃T,T=Cj (gt.take i):=⟨_,rfl⟩;rw[<-hT];clear e1
   by_cases rB:T.size=0
   ·rw[Pn rB];exact Au (AA e2) Aa (ML @BX.eq_1 qV qS hr wL yW hc1 z0)
   ·rw[Ls rB];exact Au (AA e2) Aa (ML @BX.eq_1 qV qS hr wL yW hc1 z0)
 ·have qZ:i=gt.length:=by omega
  subst qZ;rw[aY0]at wX |-;have qC:=DR_ h1;have nL:=yB gt.length (Nat.le_refl _);rw[aY0]at nL;have vY:R=Cj gt:=by rw[hR];unfold Bw_;rw[wX];rfl
  have hO2:O=decide ((Cj gt).size<=2048):=by rw[hO];unfold Kq;rw[wX];rfl
  obtain⟨T,hT⟩:∃T,T=Cj gt:=⟨_,rfl⟩;rw[<-hT]at qC vY hO2 nL |-;have hO3:decide (T.size<=2048)=decide ((T.size:Int)<=2048):=decide_eq_decide.2 (by omega);rw[hO3]at hO2;clear hR hO hO3;subst vY;subst hO2;rw[Ls qC];have e1:=Qf R qC;have e2:=aR R;have h2:=Gv R;exact Au Aa (Aq (Ee [(4,0),(50,1)] [] e1) (Ee [(4,0)] [] e2)) (AA kJ)
end Go.Proofs.Wy
end
section
namespace Go.Proofs.Wy
open Go Go.Dm Go.RowKit Go.Maps Go.Sort Go.Shelf Go.Proofs
set_option maxRecDepth 100000
theorem Mi_ (m:Nat):AnyZ.SortsIn Tryz.prog Tryz.sortedM_ren Fence.wide m :=
 ⟨fun blk off cap ss W hH hblk qH=>callsIn_wide.2 (AnyM.slices_Sort_string Tryz.sortStr blk off cap ss W hH hblk qH),
  fun p cap W=>callsIn_wide.2 (AnyM.slices_Sort_string_none Tryz.sortStr p cap W)⟩
theorem Vs {cur:Fb} {M:List Nat} {h:Array Obj}:∀{K:List ByteArray} {vs:List Value},AI cur M h (Ef K) vs->vs=K.map Value.string/\∀s∈K,s.size<=maxLen
 | [],vs,hr=>by
  simp only[Ef,List.map_nil,AI]at hr;subst hr;simp
 | s::K,vs,hr=>by
  rw[DF]at hr;simp only[AI,Dm.rd]at hr;obtain⟨v,r,rfl,⟨rfl,hs⟩,h2⟩:=hr;obtain⟨h3,h4⟩:=Vs h2;subst h3;refine⟨rfl,fun x hx=> ?_⟩
  rcases aJ0.1 hx with rfl | hx
  ·exact hs
  ·exact h4 x hx
def Jv_ : Value->Option (DataW Unit×List MemPlace):=fun _=>some (.nil,[])
theorem Kn_ {w:World} {b:Nat} {es:Array MapEntry} {clk:Nat} {K:List ByteArray} (hb:w.heap[b]? =some (.map es clk)) (hB:Pm es clk) (hk:es.toList.map (·.key)=K.map Value.string) (qH:∀s∈K,s.size<=maxLen) (hn:K.Nodup) (hl:K.length<=maxLen) :
  ∃D0:DataW Unit,w.ownsMap Tryz.prog 9 Jv_ b K.length D0/\(strKeys D0).Perm (K.map fun s=>s.data.toList)/\Maps.size D0=K.length:=by
 have rG:es.size=K.length:=by
  have:=congrArg List.length hk;simpa using this
 have pH:∀x∈es.toList,∃s∈K,x.key= .string s/\WideElems.rd Tryz.prog 9 Jv_ x=some (.string s.data.toList,.nil):=by
  intro x hx;have:x.key∈K.map Value.string:=by rw[<-hk];exact cX0 hx
  obtain⟨s,hs,he⟩:=aR0.1 this;refine⟨s,hs,he.symm,?_⟩;obtain⟨k,v,bn⟩:=x;simp only at he;subst he;exact WideElems.rd_mk (WideMaps.keyOf_string_mk Tryz.underlying9 (qH s hs)) (show Jv_ v=some (.nil,[]) from rfl)
 have hE:es.toList.map (WideElems.rg Tryz.prog 9 Jv_)=K.map fun s=>(Lit.string s.data.toList,DataW.nil):=by
  have h1:es.toList.map (WideElems.rg Tryz.prog 9 Jv_)=(es.toList.map (·.key)).map fun v=>match v with | .string s=>(Lit.string s.data.toList,DataW.nil) | _=>(.bool false,.nil):=by
   rw[cC0];refine cN0 fun x hx=> ?_
   obtain⟨s,_,he,hr⟩:=pH x hx;rw[WideElems.rg_of hr];simp[he]
  rw[h1,hk,cC0];rfl
 refine⟨_,⟨es,clk,hb,⟨by omega,⟨hB.2,hB.1,?_⟩,fun x hx=> ?_⟩,by omega,rfl⟩,?_,?_⟩
 ·rw[hk];exact dM0.2 (hn.imp fun h e=>h (by cases e;rfl))
 ·obtain⟨s,_,_,hr⟩:=pH x hx;exact⟨_,hr⟩
 ·show ((_:List (Lit×DataW Unit)).map fun p=>strOf p.1).Perm _
  refine((WideShapes.sorted_perm _).map _).trans ?_;rw[hE,cC0];exact List.Perm.refl _
 ·show (_:List (Lit×DataW Unit)).length=_
  rw[(WideShapes.sorted_perm _).length_eq,hE,aL0]
theorem DQ_ {w w':World} (h:Below w.heap.size w w'):Upd [] w w':=⟨h.os,h.tape,h.output,fun hd=>Bool.noConfusion hd,h.size,fun b hb _=>h.block b hb⟩
theorem Xc {K:List ByteArray} (hn:K.Nodup):Str (DZ K):=by
 have h1:=MX K
 have h2:(DZ K).Nodup:=by
  unfold DZ;refine dM0.2 (List.Pairwise.imp (R:=(· ≠ ·)) (fun {a b:List UInt8} h (e:(⟨a.toArray⟩:ByteArray)=⟨b.toArray⟩)=>h (by have:=congrArg (fun x:ByteArray=>x.data.toList) e;simpa using this)) ?_);exact(dX0 _ _).nodup_iff.2 (dM0.2 (hn.imp fun h e=>h (ID e)))
 refine(h1.and h2).imp ?_;rintro a b ⟨h3,h4⟩;cases h5:CV a b
 ·exact absurd (Lb h5 h3) h4
 ·rfl
theorem uL {K es:List ByteArray} (hn:K.Nodup) (hm:∀s,s∈K↔s∈es):DZ K=Fc es:=Bq_ (Xc hn) fun x=>by rw[Vw,hm x]
theorem LV (g:List Rul) (yM:(AX 3 g).length*16<=140737488355328):Ad Tryz.prog 92 [AD g] (Bg (AC g)):=by
 refine⟨Tryz.call92,by simp[mx],fun cur M w vs hM hr=> ?_⟩;simp only[AI]at hr;obtain⟨v0,r0,vU,h0,rfl⟩:=hr;have vD:vs= #[v0]:=by cases vs;simpa using vU
 subst vD;have qY:=AH_ (AX 3 g);have hN:=LS g 3;obtain⟨m,hm⟩:∃m,m=Qt (AX 3 g):=⟨_,rfl⟩;rw[<-hm]at hN qY;obtain⟨_,_,hN⟩:=hN
 have hN:=(hN M w (fun _=>⟨[],Go.undef⟩) #[v0,.int .i64 3] ⟨by simp,by simp[Ab],by simp[Ab],fun b hb=>hM b (by simpa[Ab]using hb),by simp⟩ (by
  simp only[AI];refine⟨v0,_,rfl,?_,_,_,rfl,by simp[Dm.rd],rfl⟩
  exact Cu (n:=0) ⟨fun _ _ _ h _=>absurd h (dU0 _),fun _ _ _ _ h=>h,fun b _ hb _ _ hm=>hb (by simpa[Ab]using hm)⟩ _ _ (by simp[mx]) h0)).2
 have cK:∀mb W,CallsIn Fence.wide 5 Tryz.prog 175 #[.map mb] W fun e w'=>e= .returned (.func (.func 259) #[] #[.pointer (some ⟨W.heap.size,0,none⟩)])/\w'=W.alloc (.cells #[.map mb] 241):=fun mb W=>AnyZ.keys_in Tryz.keysM Fence.wide 5 trivial rfl mb W
 have hf1:Fence.wide.fn 176:=trivial;have hf2:Fence.wide.fn 175:=trivial;have hf3:Fence.wide.fn 174:=trivial;refine(callsIn_wide (n:=6)).1 ?_;refine callsIn_of_wp Tryz.func92 rfl trivial ?_ rfl;simp only[Tryz.ntmps92,dL0,List.length_cons,List.length_nil,Nat.reduceAdd,Nat.reduceSub,Array.replicate_succ,Array.replicate_zero,List.push_toArray,List.append_toArray,List.nil_append,List.cons_append]
 gi_wp2_with (gi_at_call 176;refine(callsIn_wide.2 hN).mono ?_;rintro e w1 ⟨v1,rfl,loc1,S1,U1,hnew1,hver1,hrd1⟩)
 simp only[Dm.rd]at hrd1;obtain⟨b,wQ,rfl⟩:=hrd1 (loc1 0) rfl;have hO:=S1.ok _ (aG0.2 rfl);obtain⟨b',es,clk,wB,rO,bP,mZ,_⟩:=hO;simp only at wB;rw[wQ]at wB;simp only[bG0,and_true]at wB;subst wB;obtain⟨hke,zP⟩:=Vs mZ;have qU:m.K.length<=(AX 3 g).length:=qY.le;have gS:m.K.length<=maxLen:=by unfold maxLen;omega
 have fS:b<w1.heap.size:=(aF0.1 rO).1;obtain⟨D0,cJ,jC,hsize⟩:=Kn_ (w:=w1.alloc (.cells #[.map (some b)] 241)) (b:=b) (by rw[<-rO];simp only[World.alloc,bI0];rw[if_neg (by omega)]) bP hke zP qY.nd gS
 gi_wp2_with (gi_at_call 175;refine(cK _ _).mono ?_;rintro e w2 ⟨rfl,rfl⟩)
 have hseq:SeqGives Fence.wide 2 Tryz.prog 259 #[.pointer (some ⟨w1.heap.size,0,none⟩)] encStr (fun ss=>ss.Perm (strKeys D0)) (Maps.size D0) (w1.alloc (.cells #[.map (some b)] 241)) :=
  AnyZ.keys_gives (ρ:=Tryz.keysM_ren) { Tryz.keysM with } Fence.wide _ trivial rfl (by omega) w1.heap.size b m.K.length D0 _ (by simp) (by simp) cJ
 have cS:=AnyZ.sorted_in Tryz.sortedM Fence.wide 5 trivial trivial trivial trivial rfl (by omega) (Mi_ _) (enters_of Tryz.func258 (by kernel_rfl) rfl) 259 #[.pointer (some ⟨w1.heap.size,0,none⟩)] trivial (enters_of Tryz.func259 (by kernel_rfl) rfl) _ _ (by omega) (by omega) _ hseq
 change CallsIn _ _ Tryz.prog 174 _ _ _ at cS
 gi_wp2_with (gi_at_call 174;refine cS.mono ?_;rintro e w3 ⟨v,ss,rfl,hS,wC,hnil,pN⟩)
 go_ret
 have hU:Upd [] w w3:=(show Upd [] w w1 from U1).trans ((Upd.alloc [] w1 _).trans (DQ_ pN) (by simp)) (by simp)
 have jM:(ss.mergeSort fun x y=>decide (x<=y)).map (fun x=>(⟨x.toArray⟩:ByteArray))=AC g:=by
  have h1:ss.mergeSort leB=(m.K.map fun s=>s.data.toList).mergeSort leB:=mergeSort_of_perm (hS.trans jC);have h2:=uL qY.nd qY.mem;unfold DZ at h2;unfold AC;rw[<-h2,<-h1]
 have yV:ss.length=m.K.length:=by rw[hS.length_eq,jC.length_eq,aL0]
 refine⟨v,rfl,hU,?_⟩;simp only[Dm.rd];rw[<-jM];obtain⟨_,wC⟩:=wC
 rcases wC with ⟨rfl,hz⟩ | ⟨gb,cap,cur2,rfl,hbase,hgb,r1,r2,r3,r4⟩
 ·have h0:ss=[]:=bO0 hz;subst h0;exact⟨none,0,by simp,by simp,by simp,by simp,.inl ⟨by simp,fun _=>rfl⟩⟩
 ·have kJ:(ss.mergeSort fun x y=>decide (x<=y)).length=ss.length:=List.length_mergeSort _;refine⟨some ⟨gb,0,none⟩,cap,by simp,by simpa using r1,r2,?_,.inr ⟨gb,0,cur2,_,(0,0),rfl,fun hm=> ?_,hgb,?_⟩⟩
  ·simp only[aL0,kJ];omega
  ·have h1:=hM gb hm;have h2:=U1.size;simp at hbase;omega
  ·refine FW _ _ _ _ fun i cs hi=> ?_
   rw[bN0,bN0,Option.map_map,bC0]at hi;obtain⟨x,hx,rfl⟩:=hi;refine⟨rfl,?_⟩;have yO:i<ss.length:=by have:=(aB0.1 hx).1;omega
   have vL:cur2[i]? =some (encStr x):=by
    have h1:(cur2.toList.take (ss.length*1))[i]? =some (encStr x):=by rw[r4,bN0,hx];rfl
    rw[bX0 (by omega)]at h1;simpa using h1
   have mT:x.length<=maxLen:=by
    have h1:x∈m.K.map fun s=>s.data.toList:=(hS.trans jC).mem_iff.1 ((dX0 ss _).mem_iff.1 (bH0 hx))
    obtain⟨s,hs,rfl⟩:=aR0.1 h1;exact zP s hs
   simp only[Function.comp_apply,Bh,Ea,and_true];exact⟨encStr x,by simpa using vL,rfl,by simp only[Dm.rd];exact⟨trivial,mT⟩⟩
end Go.Proofs.Wy
end
section
namespace Go.Proofs.Wy
open Go Go.Dm Tryz
attribute [local irreducible] DW Bi Bk
set_option maxRecDepth 100000
def sQ : Ann:=⟨[],[]⟩
theorem EA_ (g:List Rul) (hl:g.length<=64) (hs:Fa g):Ad prog 235 [AD g] (.bool (decide (16<(AC g).length))):=by
 refine Ac [] sQ func235 call235 ntmps235 mxd (Aq @sQ.eq_1 results235) rfl (fun qJ B qX qQ=> ?_);clear qJ;simp only[Am];have n3:=EL (k:=3) hs;have e1:=LV g (by omega);obtain⟨H,hH⟩:∃H,H=AC g:=⟨_,rfl⟩;rw[<-hH]at e1;rw[<-hH];have h2:decide (16<H.length)=decide ((16:Int)<(H.length:Int)):=decide_eq_decide.2 (by omega);rw[h2];exact Au (AA e1) Aa Aa
def sP : Ann:=⟨[],[]⟩
theorem Ew_ (gt:GT) (hk:OkG gt) (hs:Fa (AZ gt)) (h1:1<=gt.length) (hl:gt.length<=64):Ad prog 240 [AD (AZ gt)] (.bool (!Kq gt)):=by
 refine Ac [] sP func240 call240 ntmps240 mxd (Aq @sP.eq_1 results240) rfl (fun qJ B qX qQ=> ?_);clear qJ;simp only[Am];have e1:=WW gt hk hs h1 hl;obtain⟨g,hg⟩:∃g,g=AZ gt:=⟨_,rfl⟩;rw[<-hg]at e1 |-;exact Au (AA e1) Aa Aa
def sR : Ann:=⟨[],[]⟩
theorem VF (f:FuncId):Ad prog 226 [.fn (.func f) [] []] (.fn (.func 227) [] [.ref [.fn (.func f) [] []]]):=by
 refine Ac [] sR func226 call226 ntmps226 mxd (Aq @sR.eq_1 results226) rfl (fun qJ B qX qQ=> ?_) (hd:=(by simp[mx,AR]));clear qJ;simp only[Am];exact Au Aa Aa Aa
structure Ask where
 f:FuncId
 cs:List DVal
 b:Bool
 e:Int
def TD (x:Ask):List DVal:=[.fn (.func x.f) [] x.cs,.int .i64 x.e]
def Hn (b1 b2 b3 b4 b5 b6 b7 b8:Bool):List Ask :=
 [⟨229,[],b1,180⟩,⟨227,[.ref [.fn (.func 230) [] []]],b2,170⟩,⟨233,[],b3,181⟩,⟨235,[],b4,182⟩,⟨236,[],b5,183⟩,⟨227,[.ref [.fn (.func 238) [] []]],b6,171⟩,⟨239,[],b7,184⟩,⟨240,[],b8,174⟩]
def sS : Ann:=⟨[],[]⟩
theorem HI (b1 b2 b3 b4 b5 b6 b7 b8:Bool):Ad prog 164 [] (.sl 2 16 ((Hn b1 b2 b3 b4 b5 b6 b7 b8).map TD)):=by
 refine Ac [] sS func164 call164 ntmps164 mxd (Aq @sS.eq_1 results164) rfl (fun qJ B qX qQ=> ?_) (hd:=(by simp[mx,Bx,AR,Hn,TD]));clear qJ;simp only[Am,Hn,TD,List.map_cons,List.map_nil];have e1:=VF 230;have e2:=VF 238;have r8:List.range 8=[0,1,2,3,4,5,6,7]:=rfl;exact Au (Aq e1 e2) Aa (AA r8)
def MC : List Ask->Int
 | []=>0
 | x::l=>if x.b then x.e else MC l
def Dx_ : Ann:=⟨[],[⟨3,[4],[],[]⟩]⟩
theorem KO (g:List Rul) (l:List Ask) (hl8:l.length=8) (vF:Bx (l.map TD)=0) (ho:Ad prog 164 [] (.sl 2 16 (l.map TD)))
  (hq:∀(k:Nat) (x:Ask),l[k]? =some x->(∀(j:Nat) (y:Ask),j<k->l[j]? =some y->y.b=false)->Ad prog x.f (AD g::x.cs) (.bool x.b)):Ad prog 76 [AD g] (.int .i64 (MC l)):=by
 refine Ac [] Dx_ func76 call76 ntmps76 mxd (Aq @Dx_.eq_1 results76) rfl (fun qJ B qX qQ=> ?_);clear qJ;simp only[Am];obtain⟨R,hR⟩:∃R,R=MC l:=⟨_,rfl⟩;rw[<-hR]
 (refine AM (AA ho) Aa Aa ?_;intros;refine Aj ?_)
 refine Ak (X:={k:Nat//k<=l.length/\R=MC (l.drop k)/\∀(j:Nat) (y:Ask),j<k->l[j]? =some y->y.b=false}) (fun x=>⟨[(0,AD g),(5,.sl 2 16 (l.map TD)),(6,.int .i64 l.length),(7,.int .i64 x.1)],[]⟩) (fun x=>l.length-x.1) ⟨0,by simp[hR]⟩ (Sub.lit (by simp[vF])) ?_;clear hR;rintro⟨k,hk,hR,vA⟩
 by_cases qV:k<l.length
 ·obtain⟨x,hx,qG,vN⟩:=Aw qV;rw[aW0 qV,qG,MC]at hR;have e1:=hq k x hx vA;cases hb:x.b
  ·rw[hb]at e1 hR;simp only[aU0,if_false]at hR
   have fQ:∀(j:Nat) (y:Ask),j<k+1->l[j]? =some y->y.b=false:=by
    intro i y hi hy
    by_cases gZ:i=k
    ·subst gZ;rw[hx]at hy;simp only[aA0]at hy;subst hy;exact hb
    ·exact vA i y (by omega) hy
   (refine AM (AA e1) Aa (EU @TD.eq_1 qV hx qG) ?_;intros;refine Aj ?_)
   exact Al.mk ⟨k+1,by omega,hR,fQ⟩ (Sub.lit (by simp[vF])) (by simp;omega)
   skip
  ·rw[hb]at e1 hR;simp only[if_true]at hR;subst hR;exact Au (AA e1) Aa (EU @TD.eq_1 qV hx qG)
 ·have qZ:k=l.length:=by omega
  subst qZ;rw[cR0]at hR;have vY:R=0:=hR;subst vY;exact Au Aa Aa Aa
theorem Vb (g:List Rul) (h:g.length<1\/64<g.length):Ad prog 76 [AD g] (.int .i64 180):=by
 have hq:=OO g;have hb:(decide (g.length<1)||decide (64<g.length))=true:=by simpa using h
 rw[hb]at hq;refine KO g (Hn true true true true true true true true) rfl (by simp[Hn,TD,Bx,AR,mx]) (HI _ _ _ _ _ _ _ _) fun k x hx vA=> ?_
 cases k with
 | zero =>
  simp only[Hn,bB0,aA0]at hx;subst hx;exact hq
 | succ k=>have:=vA 0 _ (by omega) rfl;simp at this
theorem iS (g:List Rul) (h1:1<=g.length) (h2:g.length<=64) (hs:Fa g) (ht:Fi g=false):Ad prog 76 [AD g] (.int .i64 170):=by
 have q1:=OO g;have hb:(decide (g.length<1)||decide (64<g.length))=false:=by rw[decide_eq_false (by omega),decide_eq_false (by omega)];rfl
 rw[hb]at q1;have q2:=OP 230 g iZ fun x hx=>VG x (hs x hx)
 have wB:g.any iZ=true:=by
  unfold Fi at ht;rw[List.all_eq_false]at ht;obtain⟨r,hr,hn⟩:=ht;refine cM0.2 ⟨r,hr,?_⟩;unfold iZ;rw[Bool.not_eq_true]at hn;rw[hn];rfl
 rw[wB]at q2;refine KO g (Hn false true true true true true true true) rfl (by simp[Hn,TD,Bx,AR,mx]) (HI _ _ _ _ _ _ _ _) fun k x hx vA=> ?_
 match k,hx,vA with
 | 0,hx,_ =>
  simp only[Hn,bB0,aA0]at hx;subst hx;exact q1
 | 1,hx,_ =>
  simp only[Hn,bB0,bP0,aA0]at hx;subst hx;exact q2
 | k+2,_,vA=>have:=vA 1 _ (by omega) rfl;simp at this
theorem xK {gt:GT} (hk:OkG gt) (hd:Gd gt=false):Kq gt=decide ((Cj gt).size<=2048):=by
 unfold Kq
 by_cases h:(Cj gt).size<=2048
 ·rw[decide_eq_true h,eZ0,aV0];intro p hp;have h1:=Zm hp;have h2:=WR p.2 (hk p hp).2;unfold Gd at hd;rw[dA0]at hd;have h3:=hd p hp;simp only[decide_eq_true_eq]at h3;unfold FA Dw;rw[if_neg h3,if_neg (by omega)];simp;omega
 ·rw[decide_eq_false h,Bool.and_false]
theorem AI_ (gt:GT) (h1:1<=gt.length) (h2:gt.length<=64) (hk:OkG gt) (hs:Fa (AZ gt)):Ad prog 76 [AD (AZ gt)] (.int .i64 (NK gt)):=by
 have kJ:=Gh gt;have q1:=OO (AZ gt);have hb:(decide ((AZ gt).length<1)||decide (64<(AZ gt).length))=false:=by rw[decide_eq_false (by omega),decide_eq_false (by omega)];rfl
 rw[hb]at q1;have q2:=OP 230 (AZ gt) iZ fun x hx=>VG x (hs x hx)
 have wB:(AZ gt).any iZ=false:=by
  have ht:=eJ hk;unfold Fi at ht;rw[aV0]at ht;rw[dA0];intro r hr;unfold iZ;rw[ht r hr];simp
 rw[wB]at q2;have n2:=EL (k:=2) hs;have q3:=EB_ (AZ gt) (by omega) hs;have q4:=EA_ (AZ gt) (by omega) hs;have q5:=Ez_ (AZ gt) hs (by omega)
 have q6:Ad prog 227 [AD (AZ gt),.ref [.fn (.func 238) [] []]] (.bool (Gd gt)):=by
  have hq:∃q:Rul->Bool,(∀p∈gt,q ⟨p.1,flat p.2⟩=decide (16<JR p.2))/\∀x∈AZ gt,Ad prog 238 [.agg (BX x)] (.bool (q x)):=by
   refine⟨fun r=>decide (16<(r.b.foldl Ek ([],0)).2),fun p hp=> ?_,fun x hx=> ?_⟩
   ·simp only[KC (hk p hp).2]
   ·obtain⟨p,hp,rfl⟩:=aR0.1 hx;simp only[KC (hk p hp).2];exact Ey_ p.1 p.2 (hk p hp).2 (Kc hs hp)
  obtain⟨q,wG,wH⟩:=hq;have e1:=OP 238 (AZ gt) q wH
  have:(AZ gt).any q=Gd gt:=by
   unfold AZ Gd;rw[List.any_map];rw[Bool.eq_iff_iff,cM0,cM0]
   constructor
   ·rintro⟨p,hp,h⟩;exact⟨p,hp,by rw[<-wG p hp];exact h⟩
   ·rintro⟨p,hp,h⟩;exact⟨p,hp,by rw[<-wG p hp]at h;exact h⟩
  rw[this]at e1;exact e1
 have q7:=Ex_ (AZ gt) (by omega);have q8:=Ew_ gt hk hs h1 h2
 have hf:NK gt=MC (Hn false false (decide (16<(AB (AZ gt)).length+(CX (AZ gt)).length)) (decide (16<(AC (AZ gt)).length)) (decide (64<CS (AZ gt))) (Gd gt) (decide (0<(CX (AZ gt)).length)) (!Kq gt)):=by
  unfold NK;simp only[Hn,MC,aU0,if_false,decide_eq_true_eq];cases hd:Gd gt
  ·rw[xK hk hd]
   by_cases h8:2048<(Cj gt).size
   ·have h8':¬(Cj gt).size<=2048:=by omega
    simp[h8,h8']
   ·have h8':(Cj gt).size<=2048:=by omega
    simp[h8,h8']
  ·simp
 rw[hf];refine KO (AZ gt) _ rfl (by simp[Hn,TD,Bx,AR,mx]) (HI _ _ _ _ _ _ _ _) fun k x hx vA=> ?_
 match k,hx with
 | 0,hx=>simp only[Hn,bB0,bP0,aA0]at hx;subst hx;exact q1
 | 1,hx=>simp only[Hn,bB0,bP0,aA0]at hx;subst hx;exact q2
 | 2,hx=>simp only[Hn,bB0,bP0,aA0]at hx;subst hx;exact q3
 | 3,hx=>simp only[Hn,bB0,bP0,aA0]at hx;subst hx;exact q4
 | 4,hx=>simp only[Hn,bB0,bP0,aA0]at hx;subst hx;exact q5
 | 5,hx=>simp only[Hn,bB0,bP0,aA0]at hx;subst hx;exact q6
 | 6,hx=>simp only[Hn,bB0,bP0,aA0]at hx;subst hx;exact q7
 | 7,hx=>simp only[Hn,bB0,bP0,aA0]at hx;subst hx;exact q8
 | k+8,hx=>simp[Hn]at hx
theorem Ec_ {l:List ByteArray} (h:Str l):l.Nodup:=h.imp fun h1=>GZ_ h1
theorem ZV {l:List ByteArray} (hn:l.Nodup) {i:Nat} {x:ByteArray} (h:l[i]? =some x):¬x∈l.take i:=by
 intro hm;obtain⟨j,hj,e⟩:=bK0 hm;rw[bE0]at hj;rw[List.getElem_take]at e;obtain⟨hi,e2⟩:=aB0.1 h;have:=(List.getElem_inj (h₀:=by omega) (h₁:=hi) hn).1 (e.trans e2.symm);omega
theorem Cq {α:Type} {l:List α} {i:Nat} {x:α} (h:l[i]? =some x):l.take (i+1)=l.take i++[x]:=by rw[bF0,h];rfl
def WD : Ann:=⟨[19,21],[]⟩
theorem XF (g:List Rul) (hn:(AX 3 g).length*16<=140737488355328) (hl:(AB g).length<9223372036854775807) (hll:(AC g).length<9223372036854775807) (h:Ad prog 76 [AD g] (.int .i64 0)):Ad prog 29 [AD g] (.tup [FM (AB g) (AC g),.int .i64 0]):=by
 refine Ac [19,21] WD func29 call29 ntmps29 mxd (Aq @WD.eq_1 results29) rfl (fun qJ B qX qQ=> ?_);clear qJ;simp only[Am];have e1:=Js g;have e2:=LV g hn;have hH:=Nx g;have hL:=Ec_ (HU (AX 3 g)).1;rw[show Fc (AX 3 g)=AC g from rfl]at hL;obtain⟨H,eH⟩:∃H,H=AB g:=⟨_,rfl⟩;obtain⟨L,eL⟩:∃L,L=AC g:=⟨_,rfl⟩;rw[<-eH]at e1 hH hl |-;rw[<-eL]at e2 hL hll |-;clear eH eL
 (refine AM (Ez h e1 e2) Aa Aa ?_;intros;refine Aj ?_)
 refine Ak (X:={k:Nat//k<=H.length}) (fun k=>⟨[(5,.bx 21 1 0),(25,Bg H),(26,.int .i64 H.length),(27,.int .i64 k.1)],[⟨21,1,.box [Bg H,Bg L,.omp 19 1]⟩,⟨19,1,.map (GU false (H.take k.1)) (EJ k.1)⟩]⟩) (fun k=>H.length-k.1) ⟨0,by omega⟩ (Sub.lit (by simp[GU,EJ])) ?_;rintro⟨k,hk⟩;simp only
 by_cases qV:k<H.length
 ·obtain⟨x,hx,qG,vN⟩:=Aw qV;have h1:=Jo (b:=false) (ZV hH hx);have qY:=XW false (H.take k);have hu:EJ k++[.int .i64 (k:Int)]=EJ (k+1):=(OD k).symm;have hKs:GU false (H.take k)++[.agg [.bool false,.str x]]=GU false (H.take (k+1)):=by rw[Cq hx,VS]
  (refine AM Aa Aa (ML qV hx qG @Bh.eq_1 h1 qY hu hKs) ?_;intros;refine Aj ?_)
  refine Al.mk ⟨k+1,by omega⟩ (Sub.lit (by simp[hKs])) (by simp;omega)
  skip
 ·have qZ:k=H.length:=by omega
  subst qZ;rw[aY0];have k0:GU true []=[]:=rfl;have u0:EJ 0=[]:=rfl
  (refine AM Aa Aa Aa ?_;intros;refine Aj ?_)
  refine Ak (X:={k:Nat//k<=L.length}) (fun k=>⟨[(5,.bx 21 1 0),(43,Bg L),(44,.int .i64 L.length),(45,.int .i64 k.1)],[⟨21,1,.box [Bg H,Bg L,.omp 19 1]⟩,⟨19,1,.map (MT H (L.take k.1)) (EJ H.length++EJ k.1)⟩]⟩) (fun k=>L.length-k.1) ⟨0,by omega⟩ (Sub.lit (by simp[MT,k0,u0])) ?_;rintro⟨k,hk⟩;simp only
  by_cases qV:k<L.length
  ·obtain⟨x,hx,qG,vN⟩:=Aw qV;have h1:=YW (H:=H) (L:=L.take k) (b:=true) (ZV hL hx);have qY:=GK_ H (L.take k);have hu:EJ H.length++EJ k++[.int .i64 (k:Int)]=EJ H.length++EJ (k+1):=by rw[OD,aQ0]
   have hKs:MT H (L.take k)++[.agg [.bool true,.str x]]=MT H (L.take (k+1)):=by unfold MT;rw[Cq hx,VS,aQ0]
   (refine AM Aa Aa (ML qV hx qG @Bh.eq_1 h1 qY hu hKs) ?_;intros;refine Aj ?_)
   refine Al.mk ⟨k+1,by omega⟩ (Sub.lit (by simp[hKs])) (by simp;omega)
   skip
  ·have qZ:k=L.length:=by omega
   subst qZ;rw[aY0];exact Au Aa Aa Aa
end Go.Proofs.Wy
end
section
namespace Go.Dm
variable [DMode]
open Go.Shelf Go.Sort Go.Proofs Go.RowKit
def JH (l:List Int):List Int:=l.mergeSort fun x y=>decide (x<=y)
theorem Ln (l:List Int):(JH l).length=l.length:=by simp[JH]
def dZ (z:Int):List DVal:=[.int .i64 z]
theorem Xf {P:Program} {ρ:Ren} (L:Lays.n189 P ρ) {f:FuncId} {et bs:Nat} (hf:ρ.f 189=f) (zW:Enters P f) (mC:0<bs) (l:List Int) :
  AS P (.func f) [.osl 0 0] [⟨0,0,.row et 1 bs (l.map dZ)⟩] (.tup []) [⟨0,0,.row et 1 bs ((JH l).map dZ)⟩]:=by
 refine⟨by simp,zW,fun M w loc vs S hr=> ?_⟩;refine⟨zW,?_⟩;simp only[AI]at hr;obtain⟨v0,r0,vU,h0,rfl⟩:=hr;simp only[rd]at h0;have jR:∀l:List Int,Ae [(⟨0,0,.row et 1 bs (l.map dZ)⟩:Ent)] loc 0 0=some (loc 0):=fun _=>rfl
 have kO:=h0 _ (jR l);have vD:vs= #[v0]:=by cases vs;simpa using vU
 subst vD;subst hf;have qT:∀l:List Int,Ab [(⟨0,0,.row et 1 bs (l.map dZ)⟩:Ent)] loc=(loc 0).blks:=fun _=>by simp[Ab]
 have kZ:∀cur M h,rd cur M h (.tup []) (.tuple #[]):=fun _ _ _=>by simp only[rd];exact⟨#[],rfl,by simp[AI]⟩
 have hk:=S.ok ⟨0,0,.row et 1 bs (l.map dZ)⟩ (by simp)
 by_cases qC:l=[]
 ·subst qC
  obtain⟨a,cap,hh⟩:∃a cap,(loc 0).hdr= .slice a 0 cap:=by
   obtain⟨_,⟨_,_,h2⟩ | ⟨b,arr,cap,_,h2,_⟩⟩:=hk
   ·exact⟨_,_,h2⟩
   ·exact⟨_,_,h2⟩
  rw[hh]at kO;subst kO;refine(Any.slices_Sort_int_none L a cap w).mono ?_;rintro e w' ⟨rfl,rfl⟩;have e0:JH []=[]:=by simp[JH]
  rw[e0];exact⟨_,rfl,loc,S,Upd.refl _ _,fun b hb=> .inl hb,fun e he _=>AV S.nd he,kZ _ _ _⟩
 ·obtain⟨b,arr,cap,p1,p2,p3,p4,p5,p6,p7⟩:∃b arr cap,(loc 0).blks=[b]/\(loc 0).hdr= .slice (some ⟨b,0,none⟩) (l.map dZ).length cap/\w.heap[b]? =some (.cells arr et (0,0))/\(l.map dZ).length<=cap/\cap<=maxLen/\cap*1=arr.size/\EB (Ae [(⟨0,0,.row et 1 bs (l.map dZ)⟩:Ent)] loc) (Ab [(⟨0,0,.row et 1 bs (l.map dZ)⟩:Ent)] loc++M) w.heap 1 (l.map dZ) arr 0:=by
   obtain⟨_,⟨h,_⟩ | h⟩:=hk
   ·exact absurd (List.map_eq_nil_iff.1 h) qC
   ·exact h
  have wW:(l.map dZ).length*bs<=150000000000000:=hk.1;rw[p2]at kO;subst kO;rw[aL0]at p2 p4 wW
  have gS:∀s∈l,JI .i64 s/\True:=by
   intro s hs;obtain⟨i,hi,rfl⟩:=bK0 hs;obtain⟨q1,q2⟩:=Ec 1 _ arr 0 i [.int .i64 l[i]] p7 (by simp[dZ,hi]);obtain⟨us,g1,g2,g3⟩:=FI _ _ _ q2;simp only[AI,rd]at g2;obtain⟨v,_,_,⟨_,h⟩,_⟩:=g2;exact⟨h,trivial⟩
  have vL:∀i (hi:i<l.length),arr[i]? =some (.int .i64 l[i]):=by
   intro i hi;obtain⟨q1,q2⟩:=Ec 1 _ arr 0 i [.int .i64 l[i]] p7 (by simp[dZ,hi]);obtain⟨us,g1,g2,g3⟩:=FI _ _ _ q2;simp only[AI,rd]at g2;obtain⟨v,r,rfl,⟨rfl,_⟩,_⟩:=g2;have:=(g3 0 _ rfl).1;simpa using this
  obtain⟨ss,jM⟩:∃ss,ss=l:=⟨_,rfl⟩;have yV:ss.length=l.length:=by rw[jM]
  have hH:Holds (Value.int .i64) w b 0 ss.toArray:=by
   intro j hj;simp only[dL0,yV]at hj;refine⟨?_,Lib.frozen_of_heap p3 _⟩;rw[bS0,Lib.cell_of_heap p3,vL j hj];rw[getElem!_pos _ j (by simpa[yV]using hj)];simp[jM]
  have qV:ss.length<4611686018427387904:=by
   rw[yV];have h1:l.length*1<=l.length*bs:=cE0 _ mC;omega
  have gN:b<w.heap.size:=(aF0.1 p3).1;have key:=Any.slices_Sort_int L b 0 cap ss w hH gN qV;rw[yV]at key;simp only[aL0];refine key.mono ?_;rintro e w' ⟨rfl,n,os,rfl⟩;obtain⟨q1,q2,q3,q4,q5,q6,q7⟩:=VC (Value.int .i64) (et:=et) (arr:=arr) p3 n os (ss.mergeSort fun x y=>decide (x<=y)).toArray;have nQ:JH l=(ss.mergeSort fun x y=>decide (x<=y)):=by rw[jM];rfl
  have kJ:(ss.mergeSort fun x y=>decide (x<=y)).length=l.length:=by simp[yV]
  refine⟨_,rfl,loc,⟨by simp,by rw[qT,p1];simp,fun q hq=>S.ap q (by rw[qT];rwa[qT]at hq),fun q hq=> ?_,?_⟩,?_,fun q hq=> .inl (by rw[qT];rwa[qT]at hq),?_,kZ _ _ _⟩
  ·refine bY0 (S.lt q ?_) q3;rw[qT]at hq |-;exact hq
  ·intro e he;simp only[aG0]at he;subst he;refine⟨by simpa[Ln]using wW,.inr ⟨b,_,cap,p1,by simpa[Ln]using p2,q1,by simpa[Ln]using p4,p5,by simpa[putCells]using p6,?_⟩⟩;refine FW _ _ _ _ fun i cs0 hi=> ?_
   have yO:i<l.length:=by
    have:=(aB0.1 hi).1;simpa[Ln]using this
   rw[nQ]at hi;have him:i<(ss.mergeSort fun x y=>decide (x<=y)).length:=by omega
   simp only[cC0,bN0,aH0 him,dN0,Function.comp_apply,aA0]at hi;subst hi;refine⟨rfl,?_⟩;have qO:(ss.mergeSort fun x y=>decide (x<=y))[i]∈ss:=(dX0 ss _).mem_iff.1 (dG0 him)
   have qH:JI .i64 ((ss.mergeSort fun x y=>decide (x<=y))[i]):=by
    generalize (ss.mergeSort fun x y=>decide (x<=y))[i]=y at qO |-
    rw[jM]at qO;exact(gS y qO).1
   have h0:=GG (cur:=Ae [(⟨0,0,.row et 1 bs ((JH l).map dZ)⟩:Ent)] loc) (M:=Ab [(⟨0,0,.row et 1 bs ((JH l).map dZ)⟩:Ent)] loc++M) (H:=(grow (putRow (Value.int .i64) (Sort.ahead w n) b 0 (ss.mergeSort fun x y=>decide (x<=y)).toArray) os).heap) [.int .i64 ((ss.mergeSort fun x y=>decide (x<=y))[i])] [.int .i64 ((ss.mergeSort fun x y=>decide (x<=y))[i])] [] [] (by simp only[AI,rd];exact⟨_,_,rfl,⟨rfl,qH⟩,rfl⟩) (by simp[Value.oneCell'])
   refine CH _ _ _ _ _ (fun p hp=> ?_) h0;have wV:p=0:=by simp[dZ]at hp;omega
   subst wV;have hia:i<arr.size:=by omega
   simp only[putCells,Array.getElem?_mapIdx];rw[show 0+i*1+0=i by omega,bM0 hia];simp[him,kJ,yO,yV]
  ·rw[qT,p1];exact⟨q4,q5,q6,fun _=>q7,q3,fun q hq hn=>q2 q hq (fun h=>hn (by simp[h]))⟩
  ·intro e he _;simp only[aG0]at he;subst he;rfl
theorem Ao_ {P:Program} {ρ:Ren} (L:Lays8.n4 P ρ) {f:FuncId} {et bs:Nat} (hf:ρ.f 4=f) (zW:Enters P f) (het:ρ.t 25=et) {i0:TypeInfo} {z:Value} (hi0:P.info? et=some i0) (hz0:i0.zero=some z) (hzc:z.cells.size=1) (hs0:i0.size=1) (qR:i0.bytes=bs) (wW:1<=bs)
  (n:Nat) (hn:n*bs<=140737488355328):AS P (.func f) [.nilsl,.int .i64 n] [] (.osl 0 1) [⟨0,1,.row et 1 bs []⟩]:=by
 refine⟨by simp,zW,fun M w loc vs S hr=> ?_⟩;refine⟨zW,?_⟩;simp only[AI,rd]at hr;obtain⟨v0,r0,vU,rfl,v1,r1,rfl,⟨rfl,_⟩,rfl⟩:=hr;have vD:vs= #[.slice none 0 0,.int .i64 n]:=by cases vs;simpa using vU
 subst vD hf het;have hnn:n<=n*bs:=Nat.le_mul_of_pos_right _ wW;have hM:∀b∈M,b<w.heap.size:=fun b hb=>S.lt b (by simpa[Ab]using hb)
 by_cases h0:n=0
 ·subst h0;refine(Any8.slices_Grow_room L none 0 0 0 w (by omega) (by omega) (by omega) (by omega)).mono ?_;rintro e w' ⟨rfl,rfl⟩;refine⟨_,rfl,fun _=>⟨[],.slice none 0 0⟩,⟨by simp,by simp[Ab],by simp[Ab],fun b hb=>hM b (by simpa[Ab]using hb),fun e he=> ?_⟩,Upd.refl _ _,fun b hb=>by simp[Ab]at hb,fun e he h=> ?_,?_⟩
  ·simp only[aG0]at he;subst he;exact⟨by simp,.inl ⟨rfl,rfl,rfl⟩⟩
  ·simp only[aG0]at he;subst he;simp at h
  ·simp only[rd];intro l hl;simp[Ae,Ar]at hl;rw[<-hl]
 ·refine(Any8.slices_Grow_grow L i0 z hi0 hz0 (by omega) none 0 0 n [] w (by omega) (by omega) (by rw[qR];simpa using hn) (by omega) (by simp) (fun _=>rfl) (by simp)).mono ?_;rintro e w' ⟨rfl,rfl⟩;obtain⟨G,hG⟩:∃G,G=grownCap w (0+n) 0 (ρ.t 25):=⟨_,rfl⟩;have jU:0+n<=G:=by rw[hG];exact grownCap_ge w _ _ _
  have hGm:G<=maxLen:=by rw[hG];exact grownCap_le_maxLen w _ _ _ (by unfold maxLen;omega)
  rw[<-hG];have hU:Upd [] w (w.drew.alloc (.cells ((#[]:Array Value)++Builtin.zeroCells z.cells (0+n-0)++Builtin.zeroCells z.cells (G-(0+n))) (ρ.t 25))):=(Upd.drew _ w).trans (Upd.alloc _ w.drew _) (fun x hx=> .inl hx);refine⟨_,rfl,fun _=>⟨[w.heap.size],.slice (some ⟨w.heap.size,0,none⟩) 0 G⟩,⟨by simp,by simp[Ab],fun b hb hm=> ?_,fun b hb=> ?_,fun e he=> ?_⟩,hU,fun b hb=> ?_,fun e he h=> ?_,?_⟩
  ·simp[Ab]at hb;subst hb;exact absurd (hM _ hm) (by omega)
  ·have h1:w.heap.size<(w.drew.alloc (.cells ((#[]:Array Value)++Builtin.zeroCells z.cells (0+n-0)++Builtin.zeroCells z.cells (G-(0+n))) (ρ.t 25))).heap.size:=by
    show w.heap.size<(w.heap.push _).size
    simp
   rcases aI0.1 hb with hb | hb
   ·simp[Ab]at hb;subst hb;exact h1
   ·exact Nat.lt_trans (hM b hb) h1
  ·simp only[aG0]at he;subst he;refine⟨by simp,.inr ⟨w.heap.size,_,G,rfl,rfl,heap_alloc_new w.drew _,by simp,hGm,?_,by simp[EB]⟩⟩;simp only[Array.size_append,size_zeroCells,hzc];simp;omega
  ·simp[Ab]at hb
   right
   omega
  ·simp only[aG0]at he;subst he;simp at h
  ·simp only[rd];intro l hl;simp[Ae,Ar]at hl;rw[<-hl]
theorem JC {P:Program} {f:FuncId} {args:List DVal} {et k bs:Nat} (h:Ad P f args .nilsl):AS P (.func f) args [] (.osl 0 1) [⟨0,1,.row et k bs []⟩]:=by
 refine⟨by simp,h.1,fun M w loc vs S hr=>⟨h.1,(h.2.2 _ _ _ _ S.lt hr).mono ?_⟩⟩;rintro e w' ⟨v,rfl,hu,hv⟩;have hM:∀b∈M,b<w'.heap.size:=fun b hb=>bY0 (S.lt b (aP0 _ hb)) hu.size
 simp only[rd]at hv;refine⟨_,rfl,fun _=>⟨[],.slice none 0 0⟩,⟨by simp,by simp[Ab],by simp[Ab],fun b hb=>hM b (by simpa[Ab]using hb),fun e he=> ?_⟩,by simpa[Ab]using hu,fun b hb=>by simp[Ab]at hb,fun e he h=> ?_,?_⟩
 ·simp only[aG0]at he;subst he;exact⟨by simp,.inl ⟨rfl,rfl,rfl⟩⟩
 ·simp only[aG0]at he;subst he;simp at h
 ·simp only[rd];intro l hl;simp[Ae,Ar]at hl;rw[<-hl];exact hv
theorem Uv {P:Program} {f:FuncId} {k bs:Nat} {d:DVal} {own':List Ent} (h1:AS P (.func f) [.nilsl] [] d own') (h2:AS P (.func f) [.esl] [] d own'):AS P (.func f) [.sl k bs []] [] d own':=by
 refine⟨h1.1,h1.2.1,fun M w loc vs S hr=> ?_⟩;simp only[AI]at hr;obtain⟨v,r,vU,h5,rfl⟩:=hr;simp only[rd]at h5;obtain⟨a,cap,rfl,_,hc,_,h7⟩:=h5
 cases a with
 | none =>
  have:cap=0:=by
   rcases h7 with h7 | ⟨b,off,arr,ty,fz,h8,_⟩
   ·exact h7.2 rfl
   ·simp at h8
  subst this;refine h1.2.2 M w loc vs S ?_;rw[vU];simp only[AI];exact⟨_,_,rfl,by simp[rd],rfl⟩
 | some ad =>
  refine h2.2.2 M w loc vs S ?_;rw[vU];simp only[AI];exact⟨_,_,rfl,by simp only[rd];exact⟨ad,cap,rfl,hc⟩,rfl⟩
end Go.Dm
end
section
namespace Go.Proofs.Wy
open Go Go.Dm Go.Shelf Tryz
variable [DMode]
attribute [local irreducible] DW Bi Bk
set_option maxRecDepth 100000
def NQ (ls:List (List Nat)):List Nat:=ls.flatten
def Lz (ls:List (List Nat)):Nat:=(NQ ls).length
theorem Ws (ls:List (List Nat)) (l:List Nat):NQ (ls++[l])=NQ ls++l:=by simp[NQ]
theorem iV : NQ []=[]:=rfl
theorem Vp (ls:List (List Nat)) (l:List Nat):Lz (ls++[l])=Lz ls+l.length:=by unfold Lz;rw[Ws,aD0]
def Xl (l:List Nat):List DVal:=[En l]
@[simp] theorem Ky_ (l:List Nat):AR (Xl l)=0:=by simp[Xl,AR,mx]
@[simp] theorem Nz_ (l:List (List Nat)):Bx (l.map Xl)=0:=Im _ Ky_ l
def IU : Ann:=⟨[5],[]⟩
theorem NL (l:List Nat) (hl:l.length*8<=140737488355328):AS prog (.func 192) [En l] [] (.osl 0 1) [⟨0,1,.row 3 1 8 (l.map BD)⟩]:=by
 match l,hl with
 | [],_ =>
  refine Uv ?_ ?_
  ·refine JC ?_;refine Ac [] IU func192 call192 ntmps192 mxd (Aq @IU.eq_1 results192) rfl (fun qJ B qX qQ=> ?_);simp only[Am];exact Au Aa Aa Aa
  ·refine Bj [] [(5,0,1)] IU func192 call192 ntmps192 mxd (Aq @IU.eq_1 results192) rfl (fun qJ B qX qQ=> ?_);simp only[Am,List.nil_append];exact Au Aa Aa Aa
 | x::l,hl =>
  refine Bj [] [(5,0,1)] IU func192 call192 ntmps192 mxd (Aq @IU.eq_1 results192) rfl (fun qJ B qX qQ=> ?_);simp only[List.length_cons]at hl;have vW:(l.length+1)*8<=150000000000000:=by omega
  have kM:l.length<9223372036854775807:=by omega
  simp only[Am,List.nil_append,List.map_cons,En,BD];exact Au Aa Aa Aa
theorem An_ (n:Nat) (hn:n*8<=140737488355328):AS prog (.func 265) [.nilsl,.int .i64 n] [] (.osl 0 1) [⟨0,1,.row 3 1 8 []⟩] :=
 Ao_ Tryz.growI rfl call265 rfl (hi0:=(rfl:Tryz.prog.info? 3=some _)) (z:= .int .i64 0) rfl rfl rfl rfl (by decide) n hn
theorem UF (l:List Int):AS prog (.func 110) [.osl 0 0] [⟨0,0,.row 3 1 8 (l.map Cl)⟩] (.tup []) [⟨0,0,.row 3 1 8 ((JH l).map Cl)⟩] :=
 Xf Tryz.sortInt rfl call110 (by decide) l
def sO : Ann:=⟨[24],[]⟩
theorem TH (ls:List (List Nat)) (hb:Lz ls*8<=140737488355328):AS prog (.func 185) [.sl 1 24 (ls.map Xl)] [] (.osl 0 1) [⟨0,1,.row 3 1 8 ((NQ ls).map BD)⟩]:=by
 refine Bj [] [(24,0,1)] sO func185 call185 ntmps185 mxd (Aq @sO.eq_1 results185) rfl (fun qJ B qX qQ=> ?_);simp only[Am,List.nil_append]
 have hsum:∀k,k<=ls.length->Lz (ls.take k)*8<=140737488355328:=fun k hk=>by
  unfold Lz NQ at hb |-;have h1:ls.flatten.length=(ls.take k).flatten.length+(ls.drop k).flatten.length:=by rw[<-aD0,<-List.flatten_append,List.take_append_drop]
  omega
 have pD:ls.length<9223372036854775807:=by
  have h1:=qJ.1;simp only[EI,aL0]at h1;have h2:=h1.1;unfold maxLen at h2;omega
 clear qJ
 (refine AM Aa Aa Aa ?_;intros;refine Aj ?_)
 refine Ak (X:={k:Nat//k<=ls.length}) (fun k=>⟨[(0,.sl 1 24 (ls.map Xl)),(3,.int .i64 (Lz (ls.take k.1))),(9,.sl 1 24 (ls.map Xl)),(10,.int .i64 ls.length),(11,.int .i64 k.1)],[]⟩) (fun k=>ls.length-k.1) ⟨0,by omega⟩ (Sub.lit (by simp[Lz,iV])) ?_;rintro⟨k,hk⟩;simp only
 by_cases qV:k<ls.length
 ·obtain⟨x,hx,qG,vN⟩:=Aw qV;have hs1:Lz (ls.take (k+1))=Lz (ls.take k)+x.length:=by rw[Cq hx,Vp]
  have vS:=hsum (k+1) qV;obtain⟨m,hm⟩:∃m,m=Lz (ls.take k):=⟨_,rfl⟩;rw[hs1,<-hm]at vS;rw[<-hm]at hs1 |-
  (refine AM Aa Aa (EU qV hx qG @Xl.eq_1) ?_;intros;refine Aj ?_)
  refine Al.mk ⟨k+1,by omega⟩ (Sub.lit (by simp[hs1])) (by simp;omega)
  skip
 ·have qZ:k=ls.length:=by omega
  subst qZ;rw[aY0];have e1:=An_ _ hb
  (refine AM Aa (AA (Ee [] [(24,0)] e1)) Aa ?_;intros;refine Aj ?_)
  refine Ak (X:={k:Nat//k<=ls.length}) (fun k=>⟨[(6,.osl 24 1),(25,.sl 1 24 (ls.map Xl)),(26,.int .i64 ls.length),(27,.int .i64 k.1)],[⟨24,1,.row 3 1 8 ((NQ (ls.take k.1)).map BD)⟩]⟩) (fun k=>ls.length-k.1) ⟨0,by omega⟩ (Sub.lit (by simp[iV])) ?_;rintro⟨k,hk⟩;simp only
  by_cases qV:k<ls.length
  ·obtain⟨x,hx,qG,vN⟩:=Aw qV;have hs1:(NQ (ls.take (k+1))).map BD=(NQ (ls.take k)).map BD++x.map BD:=by rw[Cq hx,Ws,bA0]
   have vS:=hsum (k+1) qV;have hs3:Lz (ls.take (k+1))=Lz (ls.take k)+x.length:=by rw[Cq hx,Vp]
   obtain⟨F,hF⟩:∃F,F=NQ (ls.take k):=⟨_,rfl⟩;have hFl:F.length=Lz (ls.take k):=by rw[hF];rfl
   rw[hs3,<-hFl]at vS;rw[<-hF]at hs1 |-;have hs4:(F.length+x.length)*8<=150000000000000:=by omega
   (refine AM Aa Aa (Ja qV hx qG @Xl.eq_1 hs4) ?_;intros;refine Aj ?_)
   refine Al.mk ⟨k+1,by omega⟩ (Sub.lit (by simp[hs1])) (by simp;omega)
   skip
  ·have qZ:k=ls.length:=by omega
   subst qZ;rw[aY0];exact Au Aa Aa Aa
def Dn (SF:List Sym) (P:List (Nat×Nat)):List Arc:=P.map (Jt_ SF)
theorem Gc_ (SF:List Sym):Dn SF []=[]:=rfl
theorem Gz (SF:List Sym) (P Q:List (Nat×Nat)):Dn SF (P++Q)=Dn SF P++Dn SF Q:=by simp[Dn]
theorem Lt (SF:List Sym) (P:List (Nat×Nat)):(Dn SF P).length=P.length:=by simp[Dn]
def Ik (x:Nat) (f:List Nat):List (Nat×Nat):=f.map fun q=>(x,q)
theorem xJ (x:Nat) (f:List Nat) (q:Nat):Ik x (f++[q])=Ik x f++[(x,q)]:=by simp[Ik]
theorem Eu_ (x:Nat):Ik x []=[]:=rfl
theorem VE (x:Nat) (f:List Nat):(Ik x f).length=f.length:=by simp[Ik]
def BF (u v:Nat) (S:List Sym) (A:List Arc):List Ent:=[⟨0,0,.box [.osl 1 u,.osl 2 v]⟩,⟨1,u,.row 95 2 16 (S.map Az)⟩,⟨2,v,.row 97 4 32 (A.map CO)⟩]
theorem Ag_ (l f:List Nat) (x:Nat):CB (l++[x]) f=CB l f++Ik x f:=by simp[CB,Ik]
theorem Pa (l f:List Nat):(CB l f).length=l.length*f.length:=by
 induction l with
 | nil=>simp[CB]
 | cons x l ih =>
  have:CB (x::l) f=(f.map fun q=>(x,q))++CB l f:=rfl;rw[this,aD0,ih,aL0,List.length_cons,bU0];omega
theorem No_ {S SF:List Sym} (hp:S <+: SF) {q:Nat} (h1:1<=q) (h2:q<=S.length):S[q-1]? =some (SF.getD (q-1) ⟨false,0⟩):=by
 obtain⟨R,rfl⟩:=hp;have h:q-1<S.length:=by omega
 rw[bJ0,aZ0 h,aH0 h];rfl
def Om : Ann:=⟨[],[⟨6,[],[0],[]⟩]⟩
theorem Ky (S SF:List Sym) (A:List Arc) (l f:List Nat) (hp:S <+: SF) (hf:∀q∈f,1<=q/\q<=S.length) (hS:S.length<9223372036854775807) (hb:(A.length+l.length*f.length)*32<=150000000000000) :
  AS prog (.func 107) [.bx 0 0 0,En l,En f] (BF 0 0 S A) (.tup []) (BF 0 1 S (A++Dn SF (CB l f))):=by
 refine Bj [] [(0,0,0),(1,1,0),(2,2,1)] Om func107 call107 ntmps107 mxd (Aq @Om.eq_1 results107) rfl (fun qJ B qX qQ=> ?_) (hv:=(by simp[BF]))
 have pD:l.length<9223372036854775807/\f.length<9223372036854775807:=by
  have h1:=qJ;simp only[IZ,EI,aL0,maxLen]at h1;omega
 clear qJ;simp only[Am]
 (refine AM Aa Aa (AA @BF.eq_1) ?_;intros;refine Aj ?_)
 refine Ak (X:={i:Nat//i<=l.length}) (fun i=>⟨[(0,.bx 0 0 0),(2,En f),(10,En l),(11,.int .i64 l.length),(12,.int .i64 i.1)],BF 0 1 S (A++Dn SF (CB (l.take i.1) f))⟩) (fun i=>l.length-i.1) ⟨0,by omega⟩ (Sub.lit (by simp[BF,Fl_,Gc_])) ?_;rintro⟨i,hi⟩;simp only
 by_cases qV:i<l.length
 ·obtain⟨x,hx,qG,vN⟩:=Aw qV;have rV:=Ag_ (l.take i) f x;rw[<-Cq hx]at rV
  have rY:(CB (l.take (i+1)) f).length<=l.length*f.length:=by
   rw[Pa];exact aS0 _ (by rw[bE0];omega)
  rw[rV,aD0,VE]at rY;obtain⟨P,hP⟩:∃P,P=CB (l.take i) f:=⟨_,rfl⟩;rw[<-hP]at rY rV |-
  (refine AM Aa Aa (Ja @BF.eq_1 qV hx qG @BD.eq_1) ?_;intros;refine Aj ?_)
  refine Ak (X:={j:Nat//j<=f.length}) (fun j=>⟨[(0,.bx 0 0 0),(2,En f),(7,.int .i64 x),(10,En l),(11,.int .i64 l.length),(12,.int .i64 i),(16,En f),(17,.int .i64 f.length),(18,.int .i64 j.1)],BF 0 1 S (A++Dn SF (P++Ik x (f.take j.1)))⟩) (fun j=>f.length-j.1) ⟨0,by omega⟩ (Sub.lit (by simp[BF,Eu_])) ?_;rintro⟨j,hj⟩;simp only
  by_cases qS:j<f.length
  ·obtain⟨q,hq,yE,nF⟩:=Aw qS;obtain⟨wG,wH⟩:=hf q nF;have yC:q-1<S.length:=by omega
   obtain⟨y,hy,zM,bS⟩:=Aw yC
   have hA:Jt_ SF (x,q)=⟨x,y,q⟩:=by
    have hsy:=No_ hp wG wH;rw[hy]at hsy;simp only[aA0]at hsy;unfold Jt_;rw[<-hsy]
   have yB:Dn SF (P++Ik x (f.take (j+1)))=Dn SF (P++Ik x (f.take j))++[⟨x,y,q⟩]:=by rw[Cq hq,xJ,<-aQ0,Gz,<-hA];rfl
   have yX:(Dn SF (P++Ik x (f.take j))).length+1<=l.length*f.length:=by rw[Lt,aD0,VE,bE0];omega
   obtain⟨Z,hZ⟩:∃Z,Z=Dn SF (P++Ik x (f.take j)):=⟨_,rfl⟩;rw[<-hZ]at yB yX |-;have wB:(A.length+Z.length+1)*32<=150000000000000:=by omega
   have wR:IntKind.i64.wrap ((q:Int)-1)=((q-1:Nat):Int):=by rw[wq];omega
   (repeat (first | refine AE fun K hK=> ?_ | (refine Bv Om mxd (by kernel_rfl) ?_;simp[Om,qX,BF,qS,hq,yE,BD,wR,yC,hy,zM,Az];try simp (disch:=omega) only[Af]) | refine An ?_ | (refine AW ?_ ?_ ?_;(· (simp[qX,BF,qS,hq,yE,BD,wR,yC,hy,zM,Az];done));(try (rotate_left;(· (intro hc;(try simp[qX,BF,qS,hq,yE,BD,wR,yC,hy,zM,Az]at hc);done))))) | (refine AH ?_;simp[results107,qX,BF,qS,hq,yE,BD,wR,yC,hy,zM,Az]) | ((first | refine Ay ?_ | refine Ax ?_);simp[qX,BF,qS,hq,yE,BD,wR,yC,hy,zM,Az]) | (intro hc;(try simp[qX,BF,qS,hq,yE,BD,wR,yC,hy,zM,Az]at hc);(try (exfalso;omega))) | (refine⟨?_,?_⟩; · omega) | omega | apply_assumption -exfalso -symm | (exfalso;omega)))
   refine Al.mk ⟨j+1,by omega⟩ (Sub.lit (by simp[BF,yB,CO])) (by simp;omega)
   skip
  ·have qZ:j=f.length:=by omega
   subst qZ;rw[aY0,<-rV]
   (refine AM Aa Aa (AA @BF.eq_1) ?_;intros;refine Aj ?_)
   refine Al.mk ⟨i+1,by omega⟩ (Sub.lit (by simp[BF])) (by simp;omega)
   skip
 ·have qZ:i=l.length:=by omega
  subst qZ;rw[aY0];exact Au Aa Aa (AA @BF.eq_1)
end Go.Proofs.Wy
end
section
namespace Go.Proofs.Wy
open Go Go.Dm Tryz
variable [DMode]
theorem Gi (l m:List Nd):Dt (l++m)=Dt l++Dt m:=by simp[Dt]
theorem aL (x:Nd) (l:List Nd):Dt (x::l)=(if CC x=true then [x]else [])++Dt l:=by unfold Dt;rw[List.filter_cons];cases CC x<;>rfl
theorem Fx_ (u:RT):Ao [u]=flat u:=by rw[AG,DQ,bR0]
theorem SG {x:Nd} (h:x.k=2\/x.k=3) (l:List Nd):Dt (x::l)=x::Dt l:=by rw[aL,if_pos (DP.2 h)];rfl
theorem Kv {x:Nd} (h:¬(x.k=2\/x.k=3)) (l:List Nd):Dt (x::l)=Dt l:=by rw[aL,if_neg (fun hh=>h (DP.1 hh))];rfl
mutual
theorem QY : ∀(t:RT) (a:Nat),(tX t a).length<=(Dt (flat t)).length
 | .mk x ks,a=>by
  rw[Tm,Be]
  split
  ·rename_i h;rw[SG h];simp
  ·rename_i h;rw[Kv h];exact QZ x.k ks (a+1)
theorem QZ (k:Int):∀(us:List RT) (a:Nat),(YO k us a).length<=(Dt (Ao us)).length
 | [],a=>by rw[NB];simp
 | u::us,a=>by
  have h1:=QY u a;have h2:=QZ k us (a+(flat u).length);rw[Iy,AG,Gi,aD0,aD0]
  split
  ·simp;omega
  ·omega
end
mutual
theorem QT : ∀(t:RT) (a:Nat),(Qm t a).length<=(Dt (flat t)).length
 | .mk x ks,a=>by
  rw[Mu,Be]
  split
  ·rename_i h;rw[SG h];simp
  ·rename_i h;rw[Kv h];exact QU x.k ks (a+1)
theorem QU (k:Int):∀(us:List RT) (a:Nat),(Qn k us a).length<=(Dt (Ao us)).length
 | [],a=>by rw[Ht];simp
 | u::us,a=>by
  have h1:=QT u a;have h2:=QU k us (a+(flat u).length);rw[EM,AG,Gi,aD0]
  split
  ·rw[aD0]
   split
   ·omega
   ·simp;omega
  ·rw[aD0];omega
end
theorem QV {l f:List Nat} (h1:l.length<=64) (h2:f.length<=64):l.length*f.length<=4096:=Nat.mul_le_mul h1 h2
mutual
theorem Yx : ∀(t:RT) (a:Nat),(Dt (flat t)).length<=64->(arT t a).length+4096<=8192*(flat t).length
 | .mk x ks,a,hM=>by
  rw[Pr,Be,List.length_cons]
  split
  ·simp;omega
  ·rename_i h;rw[Be,Kv h]at hM;have h1:=Yy x.k ks (a+1) [] (by simpa using hM);have h2:=QU x.k ks (a+1);have h3:=QZ x.k ks (a+1);rw[aD0]
   split
   ·rw[Pa];have:=QV (l:=Qn x.k ks (a+1)) (f:=YO x.k ks (a+1)) (by omega) (by omega);omega
   ·simp;omega
theorem Yy (k:Int):∀(us:List RT) (a:Nat) (acc:List Nat),acc.length+(Dt (Ao us)).length<=64->(uB k us a acc).length<=8192*(Ao us).length
 | [],a,acc,_=>by rw[Lu];simp
 | u::us,a,acc,hM=>by
  rw[AG,Gi,aD0]at hM;have h1:=Yx u a (by omega);have h2:=QY u a;have h3:=QT u a
  have h4:=Yy k us (a+(flat u).length) (if k=4 then Qm u a++(if EF u=true then acc else [])else []) (by
   split
   ·rw[aD0]
    split
    ·omega
    ·simp;omega
   ·simp;omega)
  rw[ES,AG,aD0,aD0,aD0]
  split
  ·rename_i h5;rw[if_pos h5]at h4;rw[Pa];have:=QV (l:=acc) (f:=tX u a) (by omega) (by omega);omega
  ·rename_i h5;rw[if_neg h5]at h4;simp only[List.length_nil];omega
end
theorem VT (l f:List Nat) (L:List Nd) (ah:Nat):CB (l.map (Oz L ah)) (f.map (Oz L ah))=(CB l f).map (EJ_ L ah):=by
 induction l with
 | nil=>rfl
 | cons p l ih =>
  have h1:∀(p:Nat) (l f:List Nat),CB (p::l) f=f.map (fun q=>(p,q))++CB l f:=fun _ _ _=>rfl
  rw[List.map_cons,h1,h1,ih,bA0,cC0,cC0];rfl
theorem GE {l:List Nd} {a:Nat} {m r:List Nd} (h:l.drop a=m++r):LB l (a+m.length)=LB l a+(Dt m).length:=by
 unfold LB Dt
 have h1:l.take (a+m.length)=l.take a++m:=by
  rw[List.take_add,h,List.take_left'];rfl
 rw[h1,dT0,aD0]
theorem Wm {l:List Nd} {a:Nat} {m r:List Nd} (h:l.drop a=m++r):l.drop (a+m.length)=r:=by
 rw[<-List.drop_drop,h,List.drop_left'];rfl
theorem Li_ {l:List Nd} {a p:Nat} {m r:List Nd} {x:Nd} (h:l.drop a=m++r) (hp:a<=p) (hx:m[p-a]? =some x):l[p]? =some x:=by
 have h1:(l.drop a)[p-a]? =some x:=by
  rw[h,aZ0 (aB0.1 hx).1];exact hx
 rw[dD0]at h1
 rwa[show a+(p-a)=p by omega]at h1
theorem Cf_ {l:List Nd} {a:Nat} {m r:List Nd} (h:l.drop a=m++r):(Dt m).length<=(Dt l).length:=by
 have h1:Dt l=Dt (l.take a)++(Dt m++Dt r):=by rw[<-Gi,<-h,<-Gi,List.take_append_drop]
 rw[h1,aD0,aD0];omega
theorem XI {l m r:List Nd} {a ah q:Nat} (h:l.drop a=m++r) (hq:a<=q) (hx:∃x,m[q-a]? =some x/\(x.k=2\/x.k=3)):1<=Oz l ah q/\Oz l ah q<=ah+LB l (a+m.length):=by
 obtain⟨x,hx,hk⟩:=hx;have h1:=Li_ h hq hx;have h2:=uR h1 (DP.2 hk) (show q<a+m.length by have:=(aB0.1 hx).1;omega);unfold Oz;omega
theorem IJ_ {l r:List Nd} {t:RT} {a ah:Nat} (h:l.drop a=flat t++r):∀q∈(tX t a).map (Oz l ah),1<=q/\q<=ah+LB l (a+(flat t).length):=by
 intro q hq;obtain⟨p,hp,rfl⟩:=aR0.1 hq;exact XI h (Tp t a p hp).1 (Tn t a p hp)
theorem KY_ {l r:List Nd} {k:Int} {us:List RT} {a ah:Nat} (h:l.drop a=Ao us++r):∀q∈(YO k us a).map (Oz l ah),1<=q/\q<=ah+LB l (a+(Ao us).length):=by
 intro q hq;obtain⟨p,hp,rfl⟩:=aR0.1 hq;exact XI h (ME k us a p hp).1 (ND k us a p hp)
def pE (k:Int) (us:List RT):Bool:=if k=4 then Gn us else if k=1 then true else HO us
theorem WB (ts:List RT) (t:RT):HO (ts++[t])=(HO ts||EF t):=by rw[Ug,Ug,List.any_append];simp
theorem Mr_ (k:Int):pE k []=(decide (k=1)||decide (k=4)):=by
 unfold pE;rw[KV,show HO []=false by rw[HO]]
 by_cases h4:k=4
 ·simp[h4]
 ·by_cases h1:k=1<;>simp[h1,h4]
theorem Km_ (k:Int) (us:List RT) (u:RT):pE k (us++[u])=if k=4 then (pE k us&&EF u)else (pE k us||EF u):=by
 unfold pE
 by_cases h4:k=4
 ·rw[if_pos h4,if_pos h4,if_pos h4,WE]
 ·rw[if_neg h4,if_neg h4,if_neg h4]
  by_cases h1:k=1
  ·rw[if_pos h1,if_pos h1];rfl
  ·rw[if_neg h1,if_neg h1,WB]
theorem Ms_ {x:Nd} {ks:List RT} (h:FX (.mk x ks)=true) (hn:¬(x.k=2\/x.k=3)):EF (.mk x ks)=(pE x.k ks||decide (x.k=6)||decide (x.k=8)):=by
 have hm:=(CI h).1;rw[Cv_,if_neg hn];unfold pE
 by_cases h5:x.k=5
 ·simp[h5]
 by_cases h4:x.k=4
 ·simp[h4]
 by_cases h7:x.k=7
 ·obtain⟨u,rfl⟩:=BT_ h (by omega);rw[h7];simp[Pt,KV,HO]
 by_cases h1:x.k=1
 ·simp[h1]
 by_cases h6:x.k=6
 ·simp[h6]
 by_cases h8:x.k=8
 ·simp[h8]
 exfalso;unfold Ei at hm;rw[if_neg h1,if_neg (fun e=>hn (.inl e)),if_neg (fun e=>hn (.inr e)),if_neg h4,if_neg h5,if_neg h6,if_neg h7,if_neg h8]at hm;simp at hm
end Go.Proofs.Wy
end
section
namespace Go.Proofs.Wy
open Go Go.Dm Go.Shelf Tryz
variable [DMode]
attribute [local irreducible] DW Bi Bk
set_option maxRecDepth 100000
abbrev NJ (e:Bool) (f l:List Nat):DVal:= .agg [.bool e,En f,En l]
theorem Ob_ (a b:List Nat):NQ [a,b]=a++b:=by simp[NQ]
theorem Nn_ (a b:List Nat):Lz [a,b]=a.length+b.length:=by simp[Lz,NQ]
theorem Gl (a b:List Nat) (hb:(a.length+b.length)*8<=140737488355328):AS prog (.func 185) [.sl 1 24 [[En a],[En b]]] [] (.osl 0 1) [⟨0,1,.row 3 1 8 ((a++b).map BD)⟩]:=by
 have h:=TH [a,b] (by rw[Nn_];exact hb);rw[Ob_]at h;exact h
def sM : Ann:=⟨[16,22],[⟨1,[],[],[3,4,5,12,13,14,15,16]⟩]⟩
theorem Bd_ (e e':Bool) (f f' l l':List Nat) (hf:(f.length+f'.length)*8<=140737488355328) (hl:(l.length+l'.length)*8<=140737488355328) :
  Ad prog 106 [NJ e f l,NJ e' f' l'] (NJ (e||e') (f++f') (l++l')):=by
 refine Ac [16,22,4] sM func106 call106 ntmps106 mxd (Aq @sM.eq_1 results106) rfl (fun qJ B qX qQ=> ?_);clear qJ;simp only[Am];have e1:=Gl f f' hf;have e2:=Gl l l' hl;obtain⟨F,hF⟩:∃F,F=f++f':=⟨_,rfl⟩;obtain⟨L,hL⟩:∃L,L=l++l':=⟨_,rfl⟩;rw[<-hF]at e1 |-;rw[<-hL]at e2 |-;have vB:List.range 2=[0,1]:=rfl;cases e
 ·exact Au Aa (Aq (Ee [] [(16,0)] e1) (Ee [] [(22,0)] e2)) (AA vB)
 ·exact Au Aa (Aq (Ee [] [(16,0)] e1) (Ee [] [(22,0)] e2)) (AA vB)
def Uo : Ann:=⟨[16,22],[⟨1,[],[],[3,4,5,12,13,14,15,16]⟩]⟩
theorem Bc_ (e e':Bool) (f f' l l':List Nat) (hf:(f.length+f'.length)*8<=140737488355328) (hl:(l.length+l'.length)*8<=140737488355328) :
  AS prog (.func 106) [NJ e f l,NJ e' f' l'] [] (.agg [.bool (e||e'),En (f++f'),.osl 0 1]) [⟨0,1,.row 3 1 8 ((l++l').map BD)⟩]:=by
 refine Bj [16,4] [(22,0,1)] Uo func106 call106 ntmps106 mxd (Aq @Uo.eq_1 results106) rfl (fun qJ B qX qQ=> ?_);clear qJ;simp only[Am,List.nil_append];have e1:=Gl f f' hf;have e2:=Gl l l' hl;obtain⟨F,hF⟩:∃F,F=f++f':=⟨_,rfl⟩;obtain⟨L,hL⟩:∃L,L=l++l':=⟨_,rfl⟩;rw[<-hF]at e1 |-;rw[<-hL]at e2 |-;have vB:List.range 2=[0,1]:=rfl;cases e
 ·exact Au Aa (Aq (Ee [] [(16,0)] e1) (Ee [] [(22,0)] e2)) (AA vB)
 ·exact Au Aa (Aq (Ee [] [(16,0)] e1) (Ee [] [(22,0)] e2)) (AA vB)
def sN : Ann:=⟨[],[⟨1,[4],[],[]⟩]⟩
theorem EE_ (H L:List ByteArray) (x:Nd):Ad prog 105 [.agg (Cf x),.ref [FM H L]] (.agg (Az (EW H L x))):=by
 refine Ac [] sN func105 call105 ntmps105 mxd (Aq @sN.eq_1 results105) rfl (fun qJ B qX qQ=> ?_) (hd:=(by simp[mx,Az]));clear qJ;simp only[Am];have e1:=RC H L x;exact Au (AA e1) Aa (Aq @Cf.eq_1 @Az.eq_1)
end Go.Proofs.Wy
end
section
namespace Go.Dm
variable [DMode]
theorem DN_ {F:Fence} {n:Nat} {P:Program} {Q:Exit->Act->World->Prop} {o:Oper} {a:Act} {w:World} {K:Act->World->Prop} {t:Nat} {v0:Value} (ht:o.dst≠some t) (h0:a.tmps.getD t Go.undef=v0)
  (hh:o.wpIn F n P a w K Q):o.wpIn F n P a w (fun a' w'=>K a' w'/\a'.tmps.getD t Go.undef=v0) Q:=by
 have key:∀(a:Act) v,a.tmps.getD t Go.undef=v0->(a.put o.dst v).tmps.getD t Go.undef=v0:=by
  intro a v h0;unfold Act.put
  cases hd:o.dst with
  | none=>exact h0
  | some i =>
   have hi:i≠t:=fun e=>ht (by rw[hd,e])
   show (a.tmps.setIfInBounds i v).getD t Go.undef=v0
   rw[aK0]at h0 |-;rw[dC0 hi];exact h0
 unfold Oper.wpIn at *;refine⟨hh.1,?_⟩;have hh:=hh.2
 generalize (o.semAt F.round a.eval).run P w=r at *
 cases r with
 | ok x w' =>
  cases x<;>simp only[Oper.uponIn]at hh |- <;>
   first
    | exact⟨hh,key _ _ h0⟩
    | exact⟨hh,key { a with defers:=_ } _ h0⟩
    | exact⟨hh.1,CallsIn.mono hh.2 (fun e w'' he=>by cases e<;>first | exact⟨he,key _ _ h0⟩ | exact he)⟩
    | exact⟨hh.1,RowsIn.mono hh.2 (fun _ _ he=>⟨he,key _ _ h0⟩)⟩
    | exact⟨hh.1,RoundIn.mono hh.2 (fun e w'' he=>by cases e<;>first | exact⟨he,key _ _ h0⟩ | exact he)⟩
 | halt x w'=>cases x<;>simp only[Oper.uponIn]at hh |- <;>exact hh
section
variable {P : Program} {B : Base} {s : DS}
def Nb_ (B B':Base) (t b:Nat) (cs:List DVal):Prop :=
 B'.nt=B.nt/\B'.N=B.N/\B'.ro=B.ro/\∀s' a' w' loc',Rel B' s' a' w' loc'->a'.tmps.getD t Go.undef= .pointer (some ⟨b,0,none⟩) ->
  ∃loc'',Rel B ⟨(t,.bx t (Co B s') 0)::s'.slots,upE s'.own t (Co B s') (.box cs)⟩ a' w' loc''
theorem Rel.hide {X:DS} {a:Act} {w:World} {loc:Nat->Loc} {t ty:Nat} {cs:List DVal} {us:List Value} (R:Rel B X a w loc) (ht:t<B.nt) (hX:Bq X.slots t= .any)
  (vH:∀cur M h,AI cur M h cs us) (vF:AR cs=0) (qP:∀u∈us,u.oneCell'=true) :
  ∃B',Nb_ B B' t w.heap.size cs/\Rel B' X (a.put (some t) (.pointer (some ⟨w.heap.size,0,none⟩))) (w.alloc (.cells us.toArray ty)) loc:=by
 have nJ:∀b∈Ab X.own loc++B.M0,b<w.heap.size:=R.st.lt;have hsz1:(w.alloc (.cells us.toArray ty)).heap.size=w.heap.size+1:=by show (w.heap.push _).size=_;simp
 have yT:∀b,b<w.heap.size->(w.alloc (.cells us.toArray ty)).heap[b]? =w.heap[b]? :=fun b hb=>by
  show (w.heap.push _)[b]? =_
  rw[bI0,if_neg (by omega)]
 have hU:Upd (Ab X.own loc) w (w.alloc (.cells us.toArray ty)):=Upd.alloc _ _ _
 let B':Base:=⟨X.own,loc,w.heap.size::B.M0,B.N,w.alloc (.cells us.toArray ty),B.nt,B.ro,B.hN,B.nd,by have h1:=B.hnd;have h2:=R.upd.size;omega⟩
 have W:Weak (Ae X.own loc) (Ae X.own loc) (Ab X.own loc++B.M0) (Ab X.own loc++w.heap.size::B.M0) w.heap (w.alloc (.cells us.toArray ty)).heap (Co B X):=by
  refine⟨fun _ _ _ _ h=>h,fun b o _ _ ho=> ?_,fun b o hb _ ho hm=> ?_⟩
  ·have qV:=(aF0.1 ho).1;rw[yT b qV];exact ho
  ·have qV:=(aF0.1 ho).1
   rcases aI0.1 hm with h | h
   ·exact hb (aN0 _ h)
   ·rcases aJ0.1 h with h | h
    ·omega
    ·exact hb (aP0 _ h)
 have hlm:∀i,mx (Bq X.slots i)<=Co B X:=fun i=>Nat.le_trans (QP _ i) (by unfold Co;omega)
 refine⟨B',⟨rfl,rfl,rfl,?_⟩,?_⟩
 ·intro s' a' w' loc' R' hv;have hlimE:Co B' s'=Co B s':=rfl;have hbM:w.heap.size∉B.M0:=fun h=>by have:=nJ _ (aP0 _ h);omega
  have hbH:w.heap.size∉Ab X.own loc:=fun h=>by have:=nJ _ (aN0 _ h);omega
  have hbS:w.heap.size∉Ab s'.own loc':=fun h=>R'.st.ap _ h aE0
  have vL:w'.heap[w.heap.size]? =some (.cells us.toArray ty (0,0)):=by
   rw[R'.upd.blk w.heap.size (by show _<(w.alloc _).heap.size;omega) hbH];exact heap_alloc_new w _
  have jY:∀e∈upE s'.own t (Co B s') (.box cs),(e=⟨t,Co B s',.box cs⟩)\/(e∈s'.own/\e.id≠t):=fun e he=>by
   rcases aJ0.1 he with h | h
   ·exact .inl h
   ·exact .inr (BJ.1 h)
  have qT:∀b∈Ab (upE s'.own t (Co B s') (.box cs)) (Dc loc' t ⟨[w.heap.size],Go.undef⟩),b=w.heap.size\/b∈Ab s'.own loc':=by
   intro b hb;obtain⟨e,he,h1⟩:=bT0.1 hb
   rcases jY e he with rfl | ⟨h2,h3⟩
   ·simp only[Dc,if_true,aG0]at h1;exact .inl h1
   ·simp only[Dc,if_neg h3]at h1;exact .inr (Bm h2 h1)
  have W2:Weak (Ae s'.own loc') (Ae (upE s'.own t (Co B s') (.box cs)) (Dc loc' t ⟨[w.heap.size],Go.undef⟩)) (Ab s'.own loc'++w.heap.size::B.M0) (Ab (upE s'.own t (Co B s') (.box cs)) (Dc loc' t ⟨[w.heap.size],Go.undef⟩)++B.M0) w'.heap w'.heap (Co B s'):=by
   refine⟨fun id r l hr hl=> ?_,fun b o _ _ ho=>ho,fun b o hb _ _ hm=> ?_⟩
   ·obtain⟨e,he,rfl,rfl,rfl⟩:=BQ hl
    rcases jY e he with rfl | ⟨h2,h3⟩
    ·simp at hr
    ·simp only[Dc,if_neg h3];exact AV R'.st.nd h2
   ·rcases aI0.1 hm with h | h
    ·rcases qT b h with rfl | h
     ·exact hb (aP0 _ aE0)
     ·exact hb (aN0 _ h)
    ·exact hb (aP0 _ (aC0 _ h))
  refine⟨Dc loc' t ⟨[w.heap.size],Go.undef⟩,⟨?_,?_,?_,?_,?_⟩,?_,?_,?_,?_,R'.nt,?_⟩
  ·simp only[upE,List.map_cons,cS0];refine⟨fun hm=> ?_,Eu R'.st.nd⟩;obtain⟨e,he,h1⟩:=aR0.1 hm;exact(BJ.1 he).2 h1
  ·unfold upE;rw[Em,SX,bV0];simp only[Dc,if_true];refine⟨by simp,El R'.st.bl _ (Eu R'.st.nd) (fun e he=>(BJ.1 he).1),?_⟩;intro b hb b' qD jZ;subst jZ;obtain⟨e,he,qC,h1⟩:=QW qD;simp only[aG0]at hb;subst hb;exact hbS (Bm he h1)
  ·intro b hb hm
   rcases qT b hb with rfl | h
   ·exact hbM hm
   ·exact R'.st.ap b h (aC0 _ hm)
  ·intro b hb
   rcases aI0.1 hb with h | h
   ·rcases qT b h with rfl | h
    ·exact(aF0.1 vL).1
    ·exact R'.st.lt b (aN0 _ h)
   ·exact R'.st.lt b (aP0 _ (aC0 _ h))
  ·intro e he
   rcases jY e he with rfl | ⟨h2,h3⟩
   ·refine⟨w.heap.size,us.toArray,ty,by simp[Dc],vL,by have:=AJ _ _ (vH (fun _ _=>none) [] #[]);simpa using this,?_⟩;have:=GG cs us [] [] (vH (Ae (upE s'.own t (Co B s') (.box cs)) (Dc loc' t ⟨[w.heap.size],Go.undef⟩)) (Ab (upE s'.own t (Co B s') (.box cs)) (Dc loc' t ⟨[w.heap.size],Go.undef⟩)++B.M0) w'.heap) qP;simpa using this
   ·have hk:=R'.st.ok e h2;have hl:Dc loc' t ⟨[w.heap.size],Go.undef⟩ e.id=loc' e.id:=by simp only[Dc,if_neg h3]
    rw[hl];refine Bp W2 ?_ (fun _ _ _ ho=>ho) hk;have:=(Bs h2).2;unfold Co;omega
  ·exact(R.upd.trans (Upd.alloc [] w _) (by simp)).trans R'.upd (fun x hx=>R.new x hx)
  ·intro b hb
   rcases qT b hb with rfl | h
   ·exact .inr R.upd.size
   ·rcases R'.new b h with h | h
    ·exact R.new b h
    ·right
     have h1:w.heap.size+1<=b:=by rw[<-hsz1];exact h
     have:=R.upd.size;omega
  ·intro e he qV
   rcases jY e he with rfl | ⟨h2,h3⟩
   ·simp only at qV;unfold Co at qV;omega
   ·simp only[Dc,if_neg h3];obtain⟨e2,k1,k2,k3,k4⟩:=BQ (R'.ver e h2 qV);have:=R.ver e2 k1 (by omega);rw[k2,k3]at this;rw[this,k4]
  ·intro i;simp only[Bq]
   split
   ·rename_i hi;subst hi;simp only[rd];intro l hl;rw[DL]at hl;simp only[aA0]at hl;subst hl;exact⟨_,rfl,hv⟩
   ·exact Cu W2 _ _ (Nat.le_trans (QP _ i) (by unfold Co;omega)) (R'.sl i)
  ·obtain⟨rs,g1,g2,g3,g4⟩:=R'.df;refine⟨rs,g1,g2,fun r hr=> ?_,g4⟩;obtain⟨k1,k2,k3⟩:=g3 r hr;refine⟨k1,k2,fun hm=>k3 ?_⟩
   rcases aI0.1 hm with h | h
   ·rcases qT r h with rfl | h
    ·exact aP0 _ aE0
    ·exact aN0 _ h
   ·exact aP0 _ (aC0 _ h)
 ·refine⟨⟨R.st.nd,R.st.bl,?_,?_,?_⟩,Upd.refl _ _,fun b hb=> .inl hb,fun e he _=>AV R.st.nd he,?_,by simpa[Act.put]using R.nt,?_⟩
  ·intro b hb hm
   rcases aJ0.1 hm with h | h
   ·have:=nJ b (aN0 _ hb);omega
   ·exact R.st.ap b hb h
  ·intro b hb;rw[hsz1]
   rcases aI0.1 hb with h | h
   ·have:=nJ b (aN0 _ h);omega
   ·rcases aJ0.1 h with h | h
    ·omega
    ·have:=nJ b (aP0 _ h);omega
  ·intro e he;have:=(Bs he).2;exact Bp W (by unfold Co;omega) (fun b o _ ho=>by rw[yT b (aF0.1 ho).1];exact ho) (R.st.ok e he)
  ·intro i
   by_cases hi:i=t
   ·subst hi;rw[hX];simp only[rd]
   ·have h1:(a.put (some t) (.pointer (some ⟨w.heap.size,0,none⟩))).tmps.getD i Go.undef=a.tmps.getD i Go.undef:=by
     show (a.tmps.setIfInBounds t _).getD i Go.undef=_
     rw[aK0,aK0,dC0 (Ne.symm hi)]
    rw[h1];exact Cu W _ _ (hlm i) (R.sl i)
  ·refine R.df.keep (B:=B) (M':=Ab X.own loc++w.heap.size::B.M0) rfl hU (fun x hx=>aN0 _ hx) fun b hb=> ?_
   rcases aI0.1 hb with h | h
   ·exact .inl (aN0 _ h)
   ·rcases aJ0.1 h with h | h
    ·exact .inr (by omega)
    ·exact .inl (aP0 _ h)
def GS (lt:Nat) (o:Oper) (n:Nat):Bool:=((List.range n).all fun k=>k==lt||o.after.toList.any fun e=>Region.binds .any e&&e.on==k)&&o.after.toList.all fun e=>decide (e.on<n)
def eM (ops:Array Oper):Bool:=ops.toList.all fun o=>match o.guard with | some (j,_)=>decide (j<ops.size) | none=>true
theorem uP {a:Act} {w:World} {i t:Nat} {z:List DVal} {type:TypeId} {pos:String} {after:Array Edge} {guard:Option (Nat×Bool)} (hz:tZero P t=some z) (hp:z.all (EX [])=true) :
  ∃us:List Value,(∀cur M h,AI cur M h z us)/\AR z=0/\(∀u∈us,u.oneCell'=true)/\(execOp a.eval ⟨some i,.alloc t,type,pos,after,guard⟩).run P w= .ok (.value (.pointer (some ⟨w.heap.size,0,none⟩))) (w.alloc (.cells us.toArray t)):=by
 obtain⟨zv,kK,rfl⟩:=HY (w:=w) hz
 have vF:AR (zv.cells.toList.map Cm)=0:=by
  have h1:∀v,mx (Cm v)=0:=by
   intro v;unfold Cm
   split<;>(try split)<;>simp[mx]
  generalize zv.cells.toList=l
  induction l with
  | nil=>simp[AR]
  | cons v l ih =>
   show max (mx (Cm v)) (AR (l.map Cm))=0
   rw[h1,ih];rfl
 refine⟨zv.cells.toList,fun cur M h=>BM _,vF,?_,?_⟩
 ·exact GL (s:=⟨[],[]⟩) (loc:=fun _=>⟨[],Go.undef⟩) (M0:=[]) (w:=w) ⟨by simp,by simp[Ab],by simp[Ab],by simp[Ab],by simp⟩ (zv.cells.toList.map Cm) zv.cells.toList (aV0.2 fun d hd=>Sr (aV0.1 hp d hd)) (BM _)
 ·simp[execOp,Instr.alloc,kK,newVar,newRow]
def kF (P:Program) (B:Base) (Q:DS->Prop) (ow:List Nat) (t:Nat) (cs:List DVal) (o:Oper):Cont :=
 ⟨fun s1=>∀r,Cd P B.nt ow [] [] #[o] [o] 0 ⟨Q⟩ ⟨(t,.bx t r 0)::s1.slots,upE s1.own t r (.box cs)⟩⟩
theorem Bz (P:Program) (B:Base) (Q:DS->Prop) (ow:List Nat) (t:Nat) (cs:List DVal) (o:Oper) (s1:DS):(kF P B Q ow t cs o).f s1=∀r,Cd P B.nt ow [] [] #[o] [o] 0 ⟨Q⟩ ⟨(t,.bx t r 0)::s1.slots,upE s1.own t r (.box cs)⟩:=id rfl
structure LateP (ops3:Array Oper) (p o:Oper):Prop where
 ex:∃u k,p.op= .extract (.tmp u) k
 g:p.guard=none
 st:∃ty x y,o.op= .store ty x y
 nd:o.dst=none
 ap:∀d,p.dst=some d->d∉o.looksAt ops3
theorem Lb_ {p:Oper} {u k:Nat} (hp:p.op= .extract (.tmp u) k) {F:Fence} {n:Nat} {a:Act} {w:World} {C:Act->World->Prop} (h:p.wpIn F n P a w C fun _ _ _=>False) :
  ∃v,(∀(a':Act) (w':World),a'.tmps=a.tmps->(execOp a'.eval p).run P w'= .ok (.value v) w')/\C (a.put p.dst v) w:=by
 have hr:∀(a':Act) (w':World),a'.tmps=a.tmps->execOp a'.eval p=(do pure (.value (<-Instr.extract (a.tmps.getD u Go.undef) k))):=by
  intro a' w' ha;unfold execOp;rw[hp];simp only[Act.eval,ha]
 unfold Oper.wpIn at h;have h:=h.2;rw[Oper.semAt_eq _ _ _ (fun c hc=>by rw[hp]at hc;cases hc),hr a w rfl]at h;unfold Instr.extract at h hr
 split at h
 ·rename_i vs
  split at h
  ·rename_i v hv;refine⟨v,fun a' w' ha=> ?_,?_⟩
   ·rw[hr a' w' ha];simp only[*];rfl
   ·exact h
  ·exact h.elim
 ·exact h.elim
theorem Ed_ {ro:Option Nat} {ops:Array Oper} {o:Oper} {a:Act} {d:Option Tmp} {u:Value} {w:World} {K:Act->World->Prop} (qL:∃ty x y,o.op= .store ty x y) (hdo:o.dst=none) (h1:∀e,d=some e->e∉o.looksAt ops)
  (h:o.wpIn (wd ro) 0 P (a.put d u) w K fun _ _ _=>False) (Q:Exit->Act->World->Prop):o.wpIn (wd ro) 0 P a w (fun a' w'=>K (a'.put d u) w'/\a'.tmps=a.tmps) Q:=by
 obtain⟨ty,x,y,wF⟩:=qL;unfold Oper.wpIn at h |-;rw[about_put o w a d u h1,Oper.semAt_eq _ _ _ (fun c hc=>by rw[wF]at hc;cases hc),execOp_put o (fun cs b hc=>by rw[wF]at hc;cases hc) a d u h1]at h;rw[Oper.semAt_eq _ _ _ (fun c hc=>by rw[wF]at hc;cases hc)];refine⟨h.1,?_⟩
 replace h:=h.2
 generalize (execOp a.eval o).run P w=r at *
 cases r with
 | ok x w' =>
  cases x<;>simp only[Oper.uponIn,hdo]at h |-
  case value v=>exact⟨h,rfl⟩
  case skip=>exact⟨h,rfl⟩
  case defer e =>
   have e1:=Act.put_defers a d u e;refine⟨?_,rfl⟩;have h:K ({ a.put d u with defers:=e::(a.put d u).defers }:Act) w':=h;rw[e1]at h;exact h
  case enter f args =>
   refine⟨h.1,CallsIn.mono h.2 fun e w'' he=> ?_⟩
   cases e with
   | returned v=>exact⟨he,rfl⟩
   | panicked c=>exact he.elim
   | outgrown=>obtain⟨_,_,he⟩:=he;exact he.elim
  case row row args=>exact⟨h.1,RowsIn.mono h.2 fun v w'' he=>⟨he,rfl⟩⟩
  case round l f tmps assign body =>
   refine⟨h.1,RoundIn.mono h.2 fun e w'' he=> ?_⟩
   cases e with
   | returned v=>exact⟨he,rfl⟩
   | panicked c=>exact he.elim
   | outgrown=>obtain⟨_,_,he⟩:=he;exact he.elim
 | halt x w'=>cases x<;>simp only[Oper.uponIn]at h<;>exact h.elim
theorem Hv_ {ow:List Nat} {o:Oper} {K:Cont} {a:Act} {w:World} {loc:Nat->Loc} {next:Act->World->Prop} {Q:Exit->Act->World->Prop} (hg:o.guard=none) (h:Cd P B.nt ow [] [] #[o] [o] 0 K s) (R:Rel B s a w loc)
  (hn:∀s' a' w' loc',K.f s'->Rel B s' a' w' loc'->next a' w'):o.wpIn (wd B.ro) 0 P a w next Q:=by
 have ext:MN (Ji [] [] 0 s.own) s.own:=by
  unfold Ji;simp;exact fun _ _ h=>h
 have neu:∀(e:Operand->DVal) (d d':DVal),(∀x∈o.op.operands,Bt s loc B.M0 w (e x) (a.eval x))->(∀(w':World) (v:Value),rd (Ae s.own loc) (Ab s.own loc++B.M0) w'.heap d' v->rd (Ae s.own loc) (Ab s.own loc++B.M0) w'.heap d v) ->
   Cp B.nt o.dst=true->FT P o (Ji [] [] 0 s.own) e d'->K.f ⟨BI s.slots o.dst d,s.own⟩->o.wpIn (wd B.ro) 0 P a w next Q:=by
  intro e d d' he kU hd h1 hk
  rcases h1.ext ext (fun x _=>rfl)with ⟨c,g,args,wF,kX,wV⟩ | ⟨wV,hq⟩
  ·exact Ys (d':=d) (K:=fun s'=>s'=⟨BI s.slots o.dst d,s.own⟩) R hd wF he kX wV (fun _=>rfl) kU (fun s' a' w' loc' zE R'=>by subst zE;exact hn _ a' w' loc' hk R')
  ·exact xT (d:=d) (K:=fun s'=>s'=⟨BI s.slots o.dst d,s.own⟩) R hd he wV rfl (fun w' v h=>kU w' v (by rw[hq];exact h)) (fun s' a' w' loc' zE R'=>by subst zE;exact hn _ a' w' loc' hk R')
 simp only[Cd]at h;rw[hg]at h;simp only at h
 split at h
 ·obtain⟨hd,_,h⟩:=h;obtain⟨d,own',h1,h2⟩:=KL h (Co B s);exact iE (R:=R) (Nat.le_refl _) hd (fun x _=>R.ev x) (fun x _=>PT _ x) h1 fun a' w' loc' R'=>hn _ a' w' loc' h2 R'
 ·obtain⟨hd,h⟩:=h
  split at h
  ·rename_i c wF
   split at h
   ·rename_i g args hc;obtain⟨d,h1,h2⟩:=Lq h;exact neu _ d d (fun x _=>R.ev x) (fun _ _ h=>h) hd (.inl ⟨c,g,args,wF,hc,h1⟩) h2
   ·exact neu _ _ _ (fun x _=>R.ev x) (fun _ _ h=>h) hd (.inr ⟨h.1,rfl⟩) h.2
  ·exact neu _ _ _ (fun x _=>R.ev x) (fun _ _ h=>h) hd (.inr ⟨h.1,rfl⟩) h.2
theorem Wz (ow l1 l2:List Nat) {t ty:Nat} {ops ops3:Array Oper} {z o:Oper} {cs:List DVal} {Q:Exit->DS->Prop} (h3:ops3=(ops.push z).push o) (qY:DB ow l1 l2 ops=true)
  (hz:z.op= .alloc ty/\z.dst=some t/\z.guard=none/\z.after= #[]) (ho:o.guard=none) (lt:Nat) (vJ:GS lt o (ops.size+1)=true) (bQ:lt≠ops.size) (fI:∀p,ops[lt]? =some p->LateP ops3 p o) (zR:eM ops=true)
  (ht:t<B.nt) (qI:ops.toList.all (fun o=>decide (o.dst≠some t))=true) (hsl:Bq s.slots t= .any) (zS:tZero P ty=some cs) (qP:cs.all (EX [])=true)
  (h:Cd P B.nt ow l1 l2 ops ops.toList 0 (kF P B (Q .normal) ow t cs o) s) {a:Act} {w:World} {loc:Nat->Loc} (R:Rel B s a w loc):wpAnyIn (wd B.ro) 0 P .any ops3 (QQ B Q) ops3.size (Array.replicate ops3.size false) a w.drew:=by
 subst h3;obtain⟨Inv,i1,i2,i3,i4⟩:=Sb (N:=B.N) ow l1 l2 qY R.st.nd h;have mA:∀o∈ops.toList,o.dst≠some t:=fun o ho=>by simpa using aV0.1 qI o ho
 have spec:=KM (by unfold DB at qY;simp only[aM0]at qY;exact qY.1);have hsz3:((ops.push z).push o).size=ops.size+2:=by simp
 have at_lo:∀k,k<ops.size->((ops.push z).push o)[k]? =ops[k]? :=fun k hk=>by
  rw[bI0,if_neg (by simp;omega),bI0,if_neg (by omega)]
 have at_z:((ops.push z).push o)[ops.size]? =some z:=by
  rw[bI0,if_neg (by simp),bI0,if_pos rfl]
 have at_o:((ops.push z).push o)[ops.size+1]? =some o:=by
  rw[bI0,if_pos (by simp)]
 have spec2:(∀k,k<ops.size+1->k≠lt->∃e∈o.after,Region.binds .any e=true/\e.on=k)/\∀e∈o.after,e.on<ops.size+1:=by
  unfold GS at vJ;simp only[aM0,aV0,cD0,cM0,cY0,beq_iff_eq,decide_eq_true_eq]at vJ;exact⟨fun k hk yJ=>by obtain⟨e,he,h1,h2⟩:=(vJ.1 k hk).resolve_left yJ;exact⟨e,by simpa using he,h1,h2⟩,fun e he=>vJ.2 e (by simpa using he)⟩
 let lo:Array Bool->Array Bool:=fun l=>Array.ofFn (n:=ops.size) fun i=>l.getD i.1 false
 have lo_get:∀(l:Array Bool) k d,k<ops.size->(lo l).getD k d=l.getD k false:=by
  intro l k d hk;rw[aK0];simp[lo,hk]
 have lo_set:∀(l:Array Bool) i,i<ops.size->l.size=ops.size+2->lo (l.setIfInBounds i true)=(lo l).setIfInBounds i true:=by
  intro l i hi hl
  apply Array.ext
  ·simp[lo]
  ·intro j h1 h2;rw[eS0 (by simpa using h2)];simp only[lo,Array.getElem_ofFn]
   split
   ·rename_i yK;subst yK;rw[aK0,cI0 (by omega)];rfl
   ·rename_i yK;rw[aK0,aK0,dC0 yK]
 have lo_set2:∀(l:Array Bool) i,ops.size<=i->lo (l.setIfInBounds i true)=lo l:=by
  intro l i hi
  apply Array.ext
  ·simp[lo]
  ·intro j h1 h2;simp only[lo,Array.getElem_ofFn];have hj:j<ops.size:=by simpa[lo]using h2
   rw[aK0,aK0,dC0 (by omega)]
 have done:∀(fuel:Nat) (listed:Array Bool) (a:Act) (w:World),listed.size=ops.size+2->(∀i,i<ops.size+2->listed.getD i false=true)->QQ B Q .normal a w->wpAnyIn (wd B.ro) 0 P .any ((ops.push z).push o) (QQ B Q) fuel listed a w:=by
  intro fuel listed a w qH wX hq
  have hr:Region.ready .any ((ops.push z).push o) listed=[]:=by
   rw[dW0];intro i hi;rw[mem_ready]at hi;obtain⟨g0,o',yF,_⟩:=hi;have qV:i<ops.size+2:=by have:=(aF0.1 yF).1;omega
   have g1:=wX i qV;have yZ:i<listed.size:=by omega
   simp only[aK0,bM0 yZ,cB0]at g0 g1;rw[g0]at g1;simp at g1
  cases fuel with
  | zero=>exact⟨hr,hq⟩
  | succ fuel=>exact⟨fun _=>hq,fun i hi=>by rw[hr]at hi;simp at hi⟩
 have main:∀(fuel:Nat) (listed:Array Bool) (a:Act) (w:World),(List.range (ops.size+2)).countP (fun k=>listed.getD k false)+fuel=ops.size+2->listed.size=ops.size+2->listed.getD (ops.size+1) false=false ->
   ((listed.getD ops.size false=false/\Inv B (lo listed) a w)\/(listed.getD ops.size false=true/\∃B' b,Nb_ B B' t b cs/\a.tmps.getD t Go.undef= .pointer (some ⟨b,0,none⟩)/\Inv B' (lo listed) a w)) ->
   wpAnyIn (wd B.ro) 0 P .any ((ops.push z).push o) (QQ B Q) fuel listed a w:=by
  intro fuel
  induction fuel with
  | zero =>
   intro listed a w fP qH mQ _;have:=(eJ0 (p:=fun k=>listed.getD k false) (l:=List.range (ops.size+2))).1 (by simpa using fP) (ops.size+1) (cD0.2 (by omega));simp only[mQ]at this;simp at this
  | succ fuel ih =>
   intro listed a w fP qH mQ hJ
   have cL:∀k d,k<ops.size+2->listed.getD k d=listed.getD k false:=by
    intro k d hk;have:k<listed.size:=by omega
    simp[aK0,bM0 this]
   have cnt1:∀i,i<ops.size+2->listed.getD i false=false->(List.range (ops.size+2)).countP (fun k=>(listed.setIfInBounds i true).getD k false)+fuel=ops.size+2:=by
    intro i hi hSi;have yZ:i<listed.size:=by omega
    have pL:(fun k=>(listed.setIfInBounds i true).getD k false)=fun k=>if k=i then true else listed.getD k false:=by
     funext k
     by_cases hk:k=i
     ·subst hk;simp[yZ]
     ·rw[if_neg hk,getD_set_ne false (Ne.symm hk)]
    rw[pL,Ra _ i hSi _ hi];omega
   have low:∀i,i<ops.size->(i∈Region.ready .any ops (lo listed)↔i∈Region.ready .any ((ops.push z).push o) listed):=by
    intro i hi;rw[mem_ready,mem_ready,at_lo i hi,lo_get _ _ _ hi,cL i true (by omega)];refine and_congr_right fun _=>exists_congr fun o'=>and_congr_right fun yF=>forall_congr' fun e=>forall_congr' fun he=>forall_congr' fun hb=> ?_
    have:=spec.acy i o' yF e he hb;rw[lo_get _ _ _ (by omega)]
   obtain⟨B1,hB1,hI1⟩:∃B1,(B1.nt=B.nt/\B1.N=B.N/\B1.ro=B.ro)/\Inv B1 (lo listed) a w:=by
    rcases hJ with ⟨_,hI⟩ | ⟨_,B',b,hB,_,hI⟩
    ·exact⟨B,⟨rfl,rfl,rfl⟩,hI⟩
    ·exact⟨B',⟨hB.1,hB.2.1,hB.2.2.1⟩,hI⟩
   obtain⟨hsl1,h5,h6⟩:=i2 _ _ _ _ hI1;refine⟨fun hr=> ?_,fun i hi=> ?_⟩
   ·exfalso
    have h7:Region.ready .any ops (lo listed)=[]:=by
     rw[dW0];intro i hi
     have qV:i<ops.size:=by
      rw[mem_ready]at hi;obtain⟨_,o',yF,_⟩:=hi;exact(aF0.1 yF).1
     have:=(low i qV).1 hi;rw[hr]at this;simp at this
    have h8:=h5 h7
    rcases hJ with ⟨zG,_⟩ | ⟨zG,_⟩
    ·have:ops.size∈Region.ready .any ((ops.push z).push o) listed:=by
      rw[mem_ready,cL _ true (by omega)];exact⟨zG,z,at_z,fun e he=>by rw[hz.2.2.2]at he;simp at he⟩
     rw[hr]at this;simp at this
    ·have:ops.size+1∈Region.ready .any ((ops.push z).push o) listed:=by
      rw[mem_ready,cL _ true (by omega)];refine⟨mQ,o,at_o,fun e he _=> ?_⟩;have:=spec2.2 e he
      by_cases zX:e.on=ops.size
      ·rw[zX];exact zG
      ·rw[<-lo_get listed e.on false (by omega)];exact h8 e.on (by omega)
     rw[hr]at this;simp at this
   ·have hi0:=hi;rw[mem_ready]at hi0;obtain⟨g0,o',yF,wM⟩:=hi0;have qV:i<ops.size+2:=by have:=(aF0.1 yF).1;omega
    rw[cL i true qV]at g0;have vR:∀k,k≠i->(listed.setIfInBounds i true).getD k false=listed.getD k false:=fun k hk=>getD_set_ne false (Ne.symm hk)
    by_cases vV:i<ops.size
    ·have rU:ops[i]? =some o':=by rw[<-at_lo i vV];exact yF
     have hdn:o'.dst≠some t:=mA o' (by simpa using eK0 rU)
     have hy:Region.wanted o' (yielded ((ops.push z).push o) a.tmps)=Region.wanted o' (yielded ops a.tmps):=by
      unfold Region.wanted
      cases hg:o'.guard with
      | none=>rfl
      | some jw =>
       obtain⟨j,want⟩:=jw
       have hj:j<ops.size:=by
        have h9:=aV0.1 zR o' (by simpa using eK0 rU);rw[hg]at h9;simpa using h9
       simp only[yielded,at_lo j hj]
     have conv:∀{K:Act->World->Prop},wpOpIn (wd B.ro) 0 P ops (QQ B Q) i K a w->wpOpIn (wd B.ro) 0 P ((ops.push z).push o) (QQ B Q) i K a w:=by
      intro K hh;unfold wpOpIn at hh |-;rw[rU]at hh;rw[yF];simp only at hh |-;rw[hy];exact hh
     have gD:(listed.setIfInBounds i true).size=ops.size+2:=by simpa using qH
     have wI:(listed.setIfInBounds i true).getD (ops.size+1) false=false:=by rw[vR _ (by omega)];exact mQ
     rcases hJ with ⟨zG,hI⟩ | ⟨zG,B',b,hB,hv,hI⟩
     ·refine conv (i3 B (lo listed) a w i _ _ rfl rfl hI ((low i vV).2 hi) fun a' w' hI'=> ?_)
      exact ih _ a' w' (cnt1 i qV g0) gD wI (.inl ⟨by rw[vR _ (by omega)];exact zG,by rw[lo_set _ i vV qH];exact hI'⟩)
     ·have hw:=i3 B' (lo listed) a w i (Inv B' ((lo listed).setIfInBounds i true)) (QQ B Q) hB.1 hB.2.1 hI ((low i vV).2 hi) fun _ _ h=>h
      rw[hB.2.2.1]at hw;refine conv ?_
      unfold wpOpIn at hw |-;rw[rU]at hw |-;simp only at hw |-
      have nx:∀a' w',Inv B' ((lo listed).setIfInBounds i true) a' w'/\a'.tmps.getD t Go.undef= .pointer (some ⟨b,0,none⟩)->wpAnyIn (wd B.ro) 0 P .any ((ops.push z).push o) (QQ B Q) fuel (listed.setIfInBounds i true) a' w':=by
       rintro a' w' ⟨hI',gG⟩;exact ih _ a' w' (cnt1 i qV g0) gD wI (.inr ⟨by rw[vR _ (by omega)];exact zG,B',b,hB,gG,by rw[lo_set _ i vV qH];exact hI'⟩)
      split
      ·rename_i wR;rw[if_pos wR]at hw;exact Oper.wpIn_mono nx (DN_ hdn hv hw)
      ·rename_i wR;rw[if_neg wR]at hw;refine⟨hw.1,nx _ _ ⟨hw.2,?_⟩⟩;unfold Act.put
       cases hd:o'.dst with
       | none=>exact hv
       | some i' =>
        have yZ:i'≠t:=fun e=>hdn (by rw[hd,e])
        show (a.tmps.setIfInBounds i' _).getD t Go.undef=_
        rw[aK0]at hv |-;rw[dC0 yZ];exact hv
    ·by_cases hiz:i=ops.size
     ·subst hiz;rw[at_z]at yF;simp only[aA0]at yF;subst yF
      rcases hJ with ⟨_,hI⟩ | ⟨zG,_⟩
      ·obtain⟨dst,op,type,pos,after,guard⟩:=z;obtain⟨mS,yQ,hz3,hz4⟩:=hz;simp only at mS yQ hz3 hz4;subst mS yQ hz3 hz4;unfold wpOpIn;rw[at_z];simp only;rw[if_pos (by simp[Region.wanted])];obtain⟨us,u1,u2,u3,u4⟩:=uP (a:=a) (w:=w) (i:=t) (type:=type) (pos:=pos) (after:= #[]) (guard:=none) zS qP;refine Fg (fun c hc=>by cases hc) u4 ?_
       obtain⟨B',⟨hB',gG⟩,hI'⟩:=i4 B (fun B'=>Nb_ B B' t w.heap.size cs/\(a.put (some t) (.pointer (some ⟨w.heap.size,0,none⟩))).tmps.getD t Go.undef= .pointer (some ⟨w.heap.size,0,none⟩)) (lo listed) a w (a.put (some t) (.pointer (some ⟨w.heap.size,0,none⟩))) (w.alloc (.cells us.toArray ty)) t hI mA (fun X loc hX RX=>by
        obtain⟨B',b1,b2⟩:=RX.hide (ty:=ty) ht (by rw[hX];exact hsl) u1 u2 u3;refine⟨B',⟨b1,?_⟩,b2⟩
        show (a.tmps.setIfInBounds t _).getD t Go.undef=_
        rw[aK0,cI0 (by rw[RX.nt];exact ht)]
        rfl)
       refine ih _ _ _ (cnt1 _ qV g0) (by simpa using qH) (by rw[vR _ (by omega)];exact mQ) (.inr ⟨?_,B',_,hB',gG,by rw[lo_set2 _ _ (Nat.le_refl _)];exact hI'⟩);rw[aK0,cI0 (by omega)];rfl
      ·rw[zG]at g0;simp at g0
     ·have yO:i=ops.size+1:=by omega
      subst yO;rw[at_o]at yF;simp only[aA0]at yF;subst yF
      have wX:∀k,k<ops.size+1->k≠lt->listed.getD k false=true:=by
       intro k hk yJ;obtain⟨e,he,hb,rfl⟩:=spec2.1 k hk yJ;exact wM e he hb
      rcases hJ with ⟨zG,_⟩ | ⟨_,B',b,hB,hv,hI⟩
      ·rw[wX _ (by omega) (Ne.symm bQ)]at zG;simp at zG
      ·unfold wpOpIn;rw[at_o];simp only;rw[if_pos (by simp[Region.wanted,ho])]
       have fin:∀(a:Act) (w:World) l,Inv B' l a w->(∀k,k<ops.size->l.getD k false=true)->a.tmps.getD t Go.undef= .pointer (some ⟨b,0,none⟩)->∀Q',o.wpIn (wd B.ro) 0 P a w (fun a' w'=>QQ B Q .normal a' w') Q':=by
        intro a w l hI hl hv Q';obtain⟨_,_,h9⟩:=i2 _ _ _ _ hI;obtain⟨s1,loc1,hK,R1⟩:=h9 hl;obtain⟨loc2,R2⟩:=hB.2.2.2 s1 a w loc1 R1 hv;rw[Bz]at hK;have hK:=hK (Co B s1);exact Hv_ ho hK R2 fun s' a' w' loc' hk R'=>⟨s',loc',hk,R'⟩
       have setO:(listed.setIfInBounds (ops.size+1) true).getD (ops.size+1) false=true:=by
        rw[aK0,cI0 (by omega)];rfl
       by_cases rX:∀k,k<ops.size->listed.getD k false=true
       ·refine Oper.wpIn_mono (fun a' w' hq=> ?_) (fin a w (lo listed) hI (fun k hk=>by rw[lo_get _ _ _ hk];exact rX k hk) hv _);refine done fuel _ a' w' (by simpa using qH) (fun k hk=> ?_) hq
        by_cases yI:k=ops.size+1
        ·subst yI;exact setO
        ·rw[vR k yI]
         by_cases hk3:k=ops.size
         ·exact wX k (by omega) (by omega)
         ·exact rX k (by omega)
       ·have hlt1:lt<ops.size/\listed.getD lt false=false:=by
         refine Classical.byContradiction fun hn=>rX fun k hk=> ?_
         by_cases yJ:k=lt
         ·subst yJ
          cases hg:listed.getD k false with
          | true=>rfl
          | false=>exact absurd ⟨hk,hg⟩ hn
         ·exact wX k (by omega) yJ
        obtain⟨kY,vW⟩:=hlt1;obtain⟨p,hp⟩:∃p,ops[lt]? =some p:=⟨ops[lt],bM0 kY⟩;obtain⟨⟨u,kk,fN⟩,hpg,qL,hdo,hpa⟩:=fI p hp
        have cI:lt∈Region.ready .any ops (lo listed):=by
         rw[mem_ready];refine⟨by rw[lo_get _ _ _ kY];exact vW,p,hp,fun e he hb=> ?_⟩;have:=spec.acy lt p hp e he hb;rw[lo_get _ _ _ (by omega)];exact wX _ (by omega) (by omega)
        have hw:=i3 B' (lo listed) a w lt (Inv B' ((lo listed).setIfInBounds lt true)) (fun _ _ _=>False) hB.1 hB.2.1 hI cI fun _ _ h=>h
        unfold wpOpIn at hw;rw[hp]at hw;simp only at hw;rw[if_pos (by simp[Region.wanted,hpg])]at hw;obtain⟨v,gY,hI2⟩:=Lb_ fN hw;have jP:p.dst≠some t:=mA p (by simpa using eK0 hp)
        have hv2:(a.put p.dst v).tmps.getD t Go.undef= .pointer (some ⟨b,0,none⟩):=by
         unfold Act.put
         cases hd:p.dst with
         | none=>exact hv
         | some i' =>
          have yZ:i'≠t:=fun e=>jP (by rw[hd,e])
          show (a.tmps.setIfInBounds i' _).getD t Go.undef=_
          rw[aK0]at hv |-;rw[dC0 yZ];exact hv
        have bR:∀k,k<ops.size->((lo listed).setIfInBounds lt true).getD k false=true:=by
         intro k hk;rw[<-lo_set _ _ kY qH,lo_get _ _ _ hk]
         by_cases yJ:k=lt
         ·subst yJ;rw[aK0,cI0 (by omega)];rfl
         ·rw[getD_set_ne false (Ne.symm yJ)];exact wX k (by omega) yJ
        refine Oper.wpIn_mono (fun a' w' hq=> ?_) (Ed_ (ops:=(ops.push z).push o) qL hdo hpa (fin _ w _ hI2 bR hv2 _) (QQ B Q));obtain⟨wG,wH⟩:=hq
        have yC:lt∈Region.ready .any ((ops.push z).push o) (listed.setIfInBounds (ops.size+1) true):=by
         rw[mem_ready];refine⟨?_,p,by rw[at_lo lt kY];exact hp,fun e he hb=> ?_⟩
         ·rw[getD_set_ne true (by omega),cL lt true (by omega)];exact vW
         ·have:=spec.acy lt p hp e he hb;rw[getD_set_ne false (by omega)];exact wX _ (by omega) (by omega)
        cases fuel with
        | zero =>
         have h1:=cnt1 _ qV g0;have:=(eJ0 (p:=fun k=>(listed.setIfInBounds (ops.size+1) true).getD k false) (l:=List.range (ops.size+2))).1 (by simpa using h1) lt (cD0.2 (by omega));simp only[getD_set_ne false (show ops.size+1≠lt by omega),vW]at this;simp at this
        | succ fuel =>
         refine⟨fun hr=>by rw[hr]at yC;simp at yC,fun j hj=> ?_⟩
         have rY:j=lt:=by
          refine Classical.byContradiction fun hn=> ?_
          rw[mem_ready]at hj;obtain⟨j0,oj,hoj,_⟩:=hj;have jH:j<ops.size+2:=by have:=(aF0.1 hoj).1;omega
          by_cases hje:j=ops.size+1
          ·subst hje;rw[aK0,cI0 (by omega)]at j0;simp at j0
          ·rw[getD_set_ne true (Ne.symm hje),cL j true jH,wX j (by omega) hn]at j0;simp at j0
         subst rY;unfold wpOpIn;rw[at_lo j kY,hp];simp only;rw[if_pos (by simp[Region.wanted,hpg])];refine Fg (fun c hc=>by rw[fN]at hc;cases hc) (gY a' w' wH) ?_;refine done fuel _ _ w' (by simpa using qH) (fun k hk=> ?_) wG
         by_cases yI:k=j
         ·subst yI;rw[aK0,cI0 (by simp;omega)];rfl
         ·rw[getD_set_ne false (Ne.symm yI)]
          by_cases hk3:k=ops.size+1
          ·subst hk3;exact setO
          ·rw[vR k hk3];exact wX k (by omega) yI
 have gR:∀k,(Array.replicate (ops.size+2) false).getD k false=false:=by
  intro k;simp[aK0,dV0]
  split<;>simp
 have hlo:lo (Array.replicate (ops.size+2) false)=Array.replicate ops.size false:=by
  apply Array.ext
  ·simp[lo]
  ·intro j h1 h2;simp only[lo,Array.getElem_ofFn,gR,Array.getElem_replicate]
 rw[hsz3];refine main (ops.size+2) _ a _ ?_ (by simp) (gR _) (.inl ⟨gR _,by rw[hlo];exact i1 B rfl rfl a w loc R⟩)
 have:(List.range (ops.size+2)).countP (fun k=>(Array.replicate (ops.size+2) false).getD k false)=0:=by
  rw[List.countP_eq_zero];intro k _;rw[gR];simp
 omega
theorem QB (ow l1 l2:List Nat) (lt:Nat) {id t ty:Nat} {ops ops3:Array Oper} {z o:Oper} {cs:List DVal} {Q:Exit->DS->Prop} (hm:P.follows .mixedOrders=true) (h3:ops3=(ops.push z).push o) (qY:DB ow l1 l2 ops=true)
  (hz:z.op= .alloc ty/\z.dst=some t/\z.guard=none/\z.after= #[]) (ho:o.guard=none) (vJ:GS lt o (ops.size+1)=true) (bQ:lt≠ops.size) (fI:∀p,ops[lt]? =some p->LateP ops3 p o) (zR:eM ops=true)
  (ht:t<B.nt) (qI:ops.toList.all (fun o=>decide (o.dst≠some t))=true) (hsl:Bq s.slots t= .any) (zS:tZero P ty=some cs) (qP:cs.all (EX [])=true)
  (h:Cd P B.nt ow l1 l2 ops ops.toList 0 (kF P B (Q .normal) ow t cs o) s):DW P B (.region id ops3 true) Q s:=by
 intro a w loc R;exact wpIn_region_any hm (Wz ow l1 l2 h3 qY hz ho lt vJ bQ fI zR ht qI hsl zS qP h R)
theorem JX_ {F:Fence} {n:Nat} {o:Oper} {Q1 Q:Exit->Act->World->Prop} {next:Act->World->Prop} {a:Act} {w:World} (hq:∀e,e≠ .normal->∀a w,Q1 e a w->Q e a w) (h:o.wpIn F n P a w next Q1):o.wpIn F n P a w next Q:=by
 unfold Oper.wpIn at *;refine⟨h.1,?_⟩;have hh:=h.2
 generalize (o.semAt F.round a.eval).run P w=r at *
 have lo:LetsOut Q1->LetsOut Q:=fun⟨a,w,h⟩=>⟨a,w,hq _ (by simp) _ _ h⟩
 cases r with
 | ok x w' =>
  cases x<;>simp only[Oper.uponIn]at hh |- <;>
   first
    | exact hh
    | exact⟨hh.1,CallsIn.mono hh.2 (fun e w'' he=>by cases e<;>first | exact he | exact hq _ (by simp) _ _ he | exact lo he)⟩
    | exact⟨hh.1,RoundIn.mono hh.2 (fun e w'' he=>by cases e<;>first | exact he | exact hq _ (by simp) _ _ he | exact lo he)⟩
 | halt x w'=>cases x<;>simp only[Oper.uponIn]at hh |- <;>exact hq _ (by simp) _ _ hh
theorem Eo_ {ops:Array Oper} {listed:Array Bool} (qH:listed.size=ops.size) (cB:∀i o',ops[i]? =some o'->∀e∈o'.after,Region.binds .any e=true->e.on<i)
  (h:Region.ready .any ops listed=[]):∀i,i<ops.size->listed.getD i false=true:=by
 intro i
 induction i using Nat.strongRecOn with
 | _ i ih =>
  intro hi
  cases hl:listed.getD i false with
  | true=>rfl
  | false =>
   exfalso
   have h1:i∈Region.ready .any ops listed:=by
    rw[mem_ready];have yZ:i<listed.size:=by omega
    refine⟨?_,ops[i],bM0 hi,fun e he hb=> ?_⟩
    ·simpa[aK0,bM0 yZ]using hl
    ·have:=cB i _ (bM0 hi) e he hb;exact ih _ this (by omega)
   rw[h]at h1;cases h1
theorem Ba_ {F:Fence} {n:Nat} {Q1 Q:Exit->Act->World->Prop} {ops:Array Oper} {o:Oper} (hn:∀a w,Q1 .normal a w->wpOpIn F n P (ops.push o) Q ops.size (Q .normal) a w) (hq:∀e,e≠ .normal->∀a w,Q1 e a w->Q e a w) (vJ:GS ops.size o ops.size=true) (zR:eM ops=true) (cB:∀i o',ops[i]? =some o'->∀e∈o'.after,Region.binds .any e=true->e.on<i) :
  ∀(fuel:Nat) (listed:Array Bool) (a:Act) (w:World),(List.range ops.size).countP (fun k=>listed.getD k false)+fuel=ops.size->listed.size=ops.size ->
   wpAnyIn F n P .any ops Q1 fuel listed a w->wpAnyIn F n P .any (ops.push o) Q (fuel+1) (listed.push false) a w:=by
 have spec2:(∀k,k<ops.size->∃e∈o.after,Region.binds .any e=true/\e.on=k)/\∀e∈o.after,e.on<ops.size:=by
  unfold GS at vJ;simp only[aM0,aV0,cD0,cM0,cY0,beq_iff_eq,decide_eq_true_eq]at vJ;exact⟨fun k hk=>by obtain⟨e,he,h1,h2⟩:=(vJ.1 k hk).resolve_left (by omega);exact⟨e,by simpa using he,h1,h2⟩,fun e he=>vJ.2 e (by simpa using he)⟩
 have at_lo:∀k,k<ops.size->(ops.push o)[k]? =ops[k]? :=fun k hk=>by rw[bI0,if_neg (by omega)]
 have at_o:(ops.push o)[ops.size]? =some o:=by rw[bI0,if_pos rfl]
 have lp:∀(listed:Array Bool) k d,listed.size=ops.size->k<ops.size->(listed.push false).getD k d=listed.getD k false:=by
  intro listed k d hs hk;rw[aK0,bI0,if_neg (by omega),aK0,bM0 (by omega)];rfl
 have low:∀(listed:Array Bool) i,listed.size=ops.size->i<ops.size->(i∈Region.ready .any (ops.push o) (listed.push false)↔i∈Region.ready .any ops listed):=by
  intro listed i hs hi;rw[mem_ready,mem_ready,at_lo i hi,lp _ _ _ hs hi]
  have h1:listed.getD i true=listed.getD i false:=by
   have yZ:i<listed.size:=by omega
   simp[aK0,bM0 yZ]
  rw[h1];refine and_congr_right fun _=>exists_congr fun o'=>and_congr_right fun yF=>forall_congr' fun e=>forall_congr' fun he=>forall_congr' fun hb=> ?_
  have:=cB i o' yF e he hb;rw[lp _ _ _ hs (by omega)]
 have lastR:∀(listed:Array Bool),listed.size=ops.size->(ops.size∈Region.ready .any (ops.push o) (listed.push false)↔∀k,k<ops.size->listed.getD k false=true):=by
  intro listed hs;rw[mem_ready]
  constructor
  ·rintro⟨_,o',yF,h⟩ k hk;rw[at_o]at yF;have e1:=Option.some.inj yF;subst e1;obtain⟨e,he,hb,rfl⟩:=spec2.1 k hk;rw[<-lp _ _ false hs hk];exact h e he hb
  ·intro h;refine⟨?_,o,at_o,fun e he hb=> ?_⟩
   ·rw[aK0,bI0,if_pos hs.symm];rfl
   ·rw[lp _ _ _ hs (spec2.2 e he)];exact h _ (spec2.2 e he)
 have JI:∀(listed:Array Bool) i,i∈Region.ready .any (ops.push o) listed->i<ops.size+1:=by
  intro listed i hi;rw[mem_ready]at hi;obtain⟨_,o',yF,_⟩:=hi;have:=(aF0.1 yF).1;simpa using this
 have full:∀(listed:Array Bool),(∀k,k<ops.size->listed.getD k false=true)->(List.range ops.size).countP (fun k=>listed.getD k false)=ops.size:=by
  intro listed h;have:=(eJ0 (p:=fun k=>listed.getD k false) (l:=List.range ops.size)).2 (fun k hk=>h k (cD0.1 hk));simpa using this
 intro fuel
 induction fuel with
 | zero =>
  intro listed a w fP hs hw;have wX:∀k,k<ops.size->listed.getD k false=true:=fun k hk=>(eJ0 (p:=fun k=>listed.getD k false) (l:=List.range ops.size)).1 (by simpa using fP) k (cD0.2 hk)
  have vV:=(lastR listed hs).2 wX;refine⟨fun hr=>by rw[hr]at vV;simp at vV,fun i hi=> ?_⟩
  by_cases yO:i<ops.size
  ·have hi0:=hi;rw[mem_ready,lp _ _ _ hs yO,wX i yO]at hi0;cases hi0.1
  ·have e1:i=ops.size:=by have:=JI _ _ hi;omega
   subst e1;refine wpOpIn_mono (fun a' w' hq=>⟨?_,hq⟩) (hn _ _ hw.2);rw[dW0];intro j hj;have cZ:=JI _ _ hj;rw[mem_ready]at hj;have jH:=hj.1
   by_cases rY:j<ops.size
   ·rw[aK0,dC0 (by omega),<-aK0,lp _ _ _ hs rY,wX j rY]at jH;cases jH
   ·have e2:j=ops.size:=by omega
    subst e2;rw[aK0,cI0 (by simp;omega)]at jH;cases jH
 | succ fuel ih =>
  intro listed a w fP hs hw;obtain⟨h0,h1⟩:=hw
  have vA:¬ ∀k,k<ops.size->listed.getD k false=true:=fun h=>by
   have:=full _ h;omega
  refine⟨fun hr=> ?_,fun i hi=> ?_⟩
  ·exfalso;refine vA (Eo_ hs cB ?_);rw[dW0];intro i hi
   have yO:i<ops.size:=by
    rw[mem_ready]at hi;obtain⟨_,o',yF,_⟩:=hi;exact(aF0.1 yF).1
   have:=(low _ _ hs yO).2 hi;rw[hr]at this;simp at this
  ·by_cases yO:i<ops.size
   ·have hi0:=(low _ _ hs yO).1 hi;have hw:=h1 i hi0
    have pT:listed.getD i false=false:=by
     have:=(mem_ready.1 hi).1;rw[lp _ _ _ hs yO]at this;exact this
    have cnt1:(List.range ops.size).countP (fun k=>(listed.setIfInBounds i true).getD k false)+fuel=ops.size:=by
     have yZ:i<listed.size:=by omega
     have pL:(fun k=>(listed.setIfInBounds i true).getD k false)=fun k=>if k=i then true else listed.getD k false:=by
      funext k
      by_cases hk:k=i
      ·subst hk;simp[yZ]
      ·rw[if_neg hk,getD_set_ne false (Ne.symm hk)]
     rw[pL,Ra _ i pT _ yO];omega
    have jE:(listed.push false).setIfInBounds i true=(listed.setIfInBounds i true).push false:=by
     apply Array.ext
     ·simp
     ·intro j g1 g2;simp only[Array.size_setIfInBounds,Array.size_push]at g1;rw[eS0 (by simpa using g1),Array.getElem_push,Array.getElem_push];simp only[Array.size_setIfInBounds]
      by_cases hj:j<listed.size
      ·rw[dif_pos hj,dif_pos hj,eS0 hj]
      ·rw[dif_neg hj,dif_neg hj,if_neg (by omega)]
    rw[jE]
    have nx:∀a' w',wpAnyIn F n P .any ops Q1 fuel (listed.setIfInBounds i true) a' w'->wpAnyIn F n P .any (ops.push o) Q (fuel+1) ((listed.setIfInBounds i true).push false) a' w' :=
     fun a' w' h=>ih _ a' w' cnt1 (by simpa using hs) h
    unfold wpOpIn at hw |-;rw[at_lo i yO]
    cases rU:ops[i]? with
    | none=>rw[rU]at hw;exact nx _ _ hw
    | some o' =>
     rw[rU]at hw;simp only at hw |-
     have hy:Region.wanted o' (yielded (ops.push o) a.tmps)=Region.wanted o' (yielded ops a.tmps):=by
      unfold Region.wanted
      cases hg:o'.guard with
      | none=>rfl
      | some jw =>
       obtain⟨j,want⟩:=jw
       have hj:j<ops.size:=by
        have h9:=aV0.1 zR o' (by simpa using eK0 rU);rw[hg]at h9;simpa using h9
       simp only[yielded,at_lo j hj]
     rw[hy]
     split
     ·rename_i wR;rw[if_pos wR]at hw;exact JX_ hq (Oper.wpIn_mono nx hw)
     ·rename_i wR;rw[if_neg wR]at hw;exact⟨hw.1,nx _ _ hw.2⟩
   ·have e1:i=ops.size:=by have:=JI _ _ hi;omega
    subst e1;exact absurd ((lastR listed hs).1 hi) vA
def kL (P:Program) (B:Base) (Q:Exit->DS->Prop) (ow:List Nat) (o:Oper):Exit->DS->Prop
 | .normal,s=>Cd P B.nt ow [] [] #[o] [o] 0 ⟨Q .normal⟩ s
 | e,s=>Q e s
theorem SQ (P:Program) (B:Base) (Q:Exit->DS->Prop) (ow:List Nat) (o:Oper):kL P B Q ow o .normal=fun s=>Cd P B.nt ow [] [] #[o] [o] 0 ⟨Q .normal⟩ s:=rfl
theorem Py (ow l1 l2:List Nat) (lt:Nat) {id t ty:Nat} {ops ops3:Array Oper} {z o o2:Oper} {cs:List DVal} {Q:Exit->DS->Prop} (hm:P.follows .mixedOrders=true) (h3:ops3=(ops.push z).push o) (qY:DB ow l1 l2 ops=true)
  (hz:z.op= .alloc ty/\z.dst=some t/\z.guard=none/\z.after= #[]) (ho:o.guard=none) (vJ:GS lt o (ops.size+1)=true) (bQ:lt≠ops.size) (fI:∀p,ops[lt]? =some p->LateP ops3 p o) (zR:eM ops=true)
  (ho2:o2.guard=none) (hlast2:GS (ops.size+2) o2 (ops.size+2)=true)
  (ht:t<B.nt) (qI:ops.toList.all (fun o=>decide (o.dst≠some t))=true) (hsl:Bq s.slots t= .any) (zS:tZero P ty=some cs) (qP:cs.all (EX [])=true)
  (h:Cd P B.nt ow l1 l2 ops ops.toList 0 (kF P B (kL P B Q ow o2 .normal) ow t cs o) s):DW P B (.region id (ops3.push o2) true) Q s:=by
 intro a w loc R;refine wpIn_region_any hm ?_;have qH:ops3.size=ops.size+2:=by rw[h3];simp
 have spec:=KM (by unfold DB at qY;simp only[aM0]at qY;exact qY.1);have hf:=Wz (Q:=kL P B Q ow o2) ow l1 l2 h3 qY hz ho lt vJ bQ fI zR ht qI hsl zS qP h R
 have hgd3:eM ops3=true:=by
  unfold eM at zR |-;rw[aV0]at zR |-;intro x hx;rw[h3]at hx;simp only[eX0,aI0,aG0]at hx
  rcases hx with (hx | rfl) | rfl
  ·have:=zR x hx
   cases hg:x.guard with
   | none=>rfl
   | some jw=>rw[hg]at this;simp only[decide_eq_true_eq]at this |-;omega
  ·rw[hz.2.2.1]
  ·rw[ho]
 have cB:∀i o',ops3[i]? =some o'->∀e∈o'.after,Region.binds .any e=true->e.on<i:=by
  intro i o' hi e he hb;rw[h3,bI0,bI0,Array.size_push]at hi
  split at hi
  ·rename_i hi1;have e1:=Option.some.inj hi;subst e1;unfold GS at vJ;simp only[aM0,aV0,decide_eq_true_eq]at vJ;rw[hi1];exact vJ.2 e (by simpa using he)
  ·split at hi
   ·have e1:=Option.some.inj hi;subst e1;rw[hz.2.2.2]at he;simp at he
   ·exact spec.acy i o' hi e he hb
 have wX:=Ba_ (F:=wd B.ro) (n:=0) (P:=P) (Q1:=QQ B (kL P B Q ow o2)) (Q:=QQ B Q) (ops:=ops3) (o:=o2) (fun a' w' hq=>by
  obtain⟨s1,loc1,hK,R1⟩:=hq;rw[SQ]at hK;unfold wpOpIn;rw[bI0,if_pos rfl];simp only;rw[if_pos (by simp[Region.wanted,ho2])]
  exact Hv_ ho2 hK R1 fun s' a' w' loc' hk R'=>⟨s',loc',hk,R'⟩) (fun e he a' w' hq=>by
  cases e with
  | normal=>exact absurd rfl he
  | exit id=>exact hq
  | goto l=>exact hq
  | ret=>exact hq
  | panic c=>exact hq
  | outgrown=>exact hq) (by rw[qH];exact hlast2) hgd3 cB ops3.size (Array.replicate ops3.size false) a w.drew (by
   have:(List.range ops3.size).countP (fun k=>(Array.replicate ops3.size false).getD k false)=0:=by
    rw[List.countP_eq_zero];intro k _;simp[aK0,dV0]
    split<;>simp
   omega) (by simp) hf
 have hsz2:(ops3.push o2).size=ops3.size+1:=by simp
 rw[hsz2,Array.replicate_succ];exact wX
def If_ (lt:Nat) (ops ops3:Array Oper) (o:Oper):Bool:=match ops[lt]? with
 | none=>true
 | some p=>(match p.op with | .extract (.tmp _) _=>true | _=>false)&&p.guard.isNone&&(match o.op with | .store _ _ _=>true | _=>false)&&o.dst.isNone&&(match p.dst with | some d=> !(o.looksAt ops3).contains d | none=>true)
theorem KN_ {lt:Nat} {ops ops3:Array Oper} {o:Oper} (h:If_ lt ops ops3 o=true):∀p,ops[lt]? =some p->LateP ops3 p o:=by
 intro p hp;unfold If_ at h;rw[hp]at h;simp only[aM0]at h;obtain⟨⟨⟨⟨h1,h2⟩,h3⟩,h4⟩,h5⟩:=h;refine⟨?_,by simpa using h2,?_,by simpa using h4,fun d hd=> ?_⟩
 ·split at h1
  ·exact⟨_,_,by assumption⟩
  ·cases h1
 ·split at h3
  ·exact⟨_,_,_,by assumption⟩
  ·cases h3
 ·rw[hd]at h5;simpa using h5
def QX (ow l1 l2:List Nat) (lt:Nat) (ops3:Array Oper) (t ty:Nat):Bool :=
 DB ow l1 l2 ops3.pop.pop&&eM ops3.pop.pop&&ops3.pop.pop.toList.all (fun o=>decide (o.dst≠some t)) &&
 (match ops3.pop.back? with | some z=>(match z.op with | .alloc ty'=>ty'==ty | _=>false)&&z.dst==some t&&z.guard.isNone&&z.after.isEmpty | none=>false) &&
 (match ops3.back? with | some o=>o.guard.isNone&&GS lt o (ops3.pop.pop.size+1)&&If_ lt ops3.pop.pop ops3 o&&decide (lt≠ops3.pop.pop.size) | none=>false)
theorem Tg {ow l1 l2:List Nat} {lt:Nat} {ops3:Array Oper} {t ty:Nat} {z o:Oper} (hzb:ops3.pop.back?=some z) (qW:ops3.back?=some o) (hc:QX ow l1 l2 lt ops3 t ty=true) :
  DB ow l1 l2 ops3.pop.pop=true/\eM ops3.pop.pop=true/\ops3.pop.pop.toList.all (fun o=>decide (o.dst≠some t))=true/\(z.op= .alloc ty/\z.dst=some t/\z.guard=none/\z.after= #[])/\o.guard=none/\GS lt o (ops3.pop.pop.size+1)=true/\(∀p,ops3.pop.pop[lt]? =some p->LateP ops3 p o)/\lt≠ops3.pop.pop.size:=by
 unfold QX at hc;rw[hzb,qW]at hc;simp only[aM0]at hc;obtain⟨⟨⟨⟨c1,c2⟩,c3⟩,c4⟩,c5⟩:=hc;obtain⟨⟨⟨c6,c7⟩,c8⟩,c9⟩:=c4;refine⟨c1,c2,c3,⟨?_,by simpa using c7,by simpa using c8,by simpa using c9⟩,by simpa using c5.1.1.1,c5.1.1.2,KN_ c5.1.2,by simpa using c5.2⟩;cases hz:z.op<;>rw[hz]at c6<;>simp at c6;rw[c6]
theorem DL_ (ow l1 l2:List Nat) (t ty:Nat) (cs:List DVal) {id:Nat} {ops3:Array Oper} {z o:Oper} {Q:Exit->DS->Prop} (hm:P.follows .mixedOrders=true) (hzb:ops3.pop.back?=some z) (qW:ops3.back?=some o) (h3:ops3=(ops3.pop.pop.push z).push o) (hc:QX ow l1 l2 1000 ops3 t ty=true)
  (ht:t<B.nt) (hsl:Bq s.slots t= .any) (zS:tZero P ty=some cs) (qP:cs.all (EX [])=true)
  (h:Cd P B.nt ow l1 l2 ops3.pop.pop ops3.pop.pop.toList 0 (kF P B (Q .normal) ow t cs o) s):DW P B (.region id ops3 true) Q s:=by
 obtain⟨c1,c2,c3,c4,c5,c6,c7,c8⟩:=Tg hzb qW hc;exact QB ow l1 l2 1000 (z:=z) (o:=o) hm h3 c1 c4 c5 c6 c8 c7 c2 ht c3 hsl zS qP h
theorem HR (ow l1 l2:List Nat) (lt t ty:Nat) (cs:List DVal) {id:Nat} {ops4:Array Oper} {z o o2:Oper} {Q:Exit->DS->Prop} (hm:P.follows .mixedOrders=true) (hzb:ops4.pop.pop.back?=some z) (qW:ops4.pop.back?=some o) (hob2:ops4.back?=some o2) (h4:ops4=ops4.pop.push o2) (h3:ops4.pop=(ops4.pop.pop.pop.push z).push o) (hc:QX ow l1 l2 lt ops4.pop t ty=true)
  (cM:(o2.guard.isNone&&GS (ops4.pop.pop.pop.size+2) o2 (ops4.pop.pop.pop.size+2))=true)
  (ht:t<B.nt) (hsl:Bq s.slots t= .any) (zS:tZero P ty=some cs) (qP:cs.all (EX [])=true)
  (h:Cd P B.nt ow l1 l2 ops4.pop.pop.pop ops4.pop.pop.pop.toList 0 (kF P B (kL P B Q ow o2 .normal) ow t cs o) s):DW P B (.region id ops4 true) Q s:=by
 obtain⟨c1,c2,c3,c4,c5,c6,c7,c8⟩:=Tg hzb qW hc;simp only[aM0]at cM;rw[h4];exact Py ow l1 l2 lt (z:=z) (o:=o) hm h3 c1 c4 c5 c6 c8 c7 c2 (by simpa using cM.1) cM.2 ht c3 hsl zS qP h
end
theorem YJ {P:Program} {B:Base} {Q:Exit->DS->Prop} {s:DS} {x:Code} (bid c k bs:Nat) {rb:Nat} {cs:List DVal} (h:Ar s.own bid=some ⟨bid,rb,.box cs⟩) (hc:cs.getD c .any= .nilsl)
  (hw:DW P B x Q ⟨s.slots,upE s.own bid rb (.box (cs.set c (.sl k bs [])))⟩):DW P B x Q s:=by
 refine Hg (fun a w loc R=> ?_) hw;refine R.reBox h rfl (by simp) fun arr hr=>Xu cs arr 0 c (fun v hv=> ?_) hr
 rw[hc]at hv;simp only[rd]at hv |-;rw[hv];exact⟨none,0,by simp,by simp,by simp,by simp,.inl ⟨by simp,fun _=>rfl⟩⟩
end Go.Dm
end
section
namespace Go.Proofs.Wy
open Go Go.Dm Go.Shelf Tryz
variable [DMode]
attribute [local irreducible] DW Bi Bk
set_option maxRecDepth 100000
def BV : Ann:=⟨[13,22,25],[⟨2,[],[],[0,1,2,3,4,5,6,7,9,10,12]⟩]⟩
theorem Zj (S SF:List Sym) (A:List Arc) (e e':Bool) (f f' l l':List Nat) (hp:S <+: SF) (hf:∀q∈f',1<=q/\q<=S.length) (hS:S.length<9223372036854775807) (hb:(A.length+l.length*f'.length)*32<=150000000000000)
  (h1:(f.length+f'.length)*8<=140737488355328) (h2:(l'.length+l.length)*8<=140737488355328) :
  AS prog (.func 184) [.bx 0 0 0,NJ e f l,NJ e' f' l'] (BF 0 0 S A) (NJ (e&&e') (f++if e=true then f' else []) (l'++if e'=true then l else [])) (BF 0 1 S (A++Dn SF (CB l f'))):=by
 refine Bj [22,25,6,7] [(0,0,0),(1,1,0),(2,2,1)] BV func184 call184 ntmps184 mxd (Aq @BV.eq_1 results184) rfl (fun qJ B qX qQ=> ?_) (hv:=(by simp[BF]));clear qJ;simp only[Am];have e1:=Ky S SF A l f' hp hf hS hb;have e2:=NL f (by omega);have e3:=NL l' (by omega);have b1:(f.length+f'.length)*8<=150000000000000:=by omega
 have b2:(l'.length+l.length)*8<=150000000000000:=by omega
 obtain⟨Z,hZ⟩:∃Z,Z=A++Dn SF (CB l f'):=⟨_,rfl⟩;rw[<-hZ]at e1 |-;cases e
 ·cases e'
  ·(repeat (first | (refine DL_ (id:=2) (BV).ow [] [0,1,2,3,4,5,6,7,9,10] 7 165 [.bool false,.nilsl,.nilsl] mxd rfl rfl (by kernel_rfl) (by kernel_rfl) (by simp[qX]) (by simp) (by simp) (by rfl) ?_;simp only[cV0,cA0,bZ0,cT0];simp[Bz,BV,qX,BF,b1,b2,Bz];try simp (disch:=omega) only[Af]) | refine AE fun K hK=> ?_ | (refine Bv BV mxd (by kernel_rfl) ?_;simp[BV,qX,BF,b1,b2,Bz];try simp (disch:=omega) only[Af]) | refine An ?_ | (refine AW ?_ ?_ ?_;(· (simp[qX,BF,b1,b2,Bz];done));(try (rotate_left;(· (intro hc;(try simp[qX,BF,b1,b2,Bz]at hc);done))))) | (refine AH ?_;simp[results184,qX,BF,b1,b2,Bz]) | ((first | refine Ay ?_ | refine Ax ?_);simp[qX,BF,b1,b2,Bz]) | (intro hc;(try simp[qX,BF,b1,b2,Bz]at hc);(try (exfalso;omega))) | (refine AK [(0,0),(1,1),(2,2)] [] (e1) ?_ ?_;(· (simp[qX,BF,b1,b2,Bz];done));(intro _;try simp[qX,BF,b1,b2,Bz])) | (refine AK [] [(22,0)] (e2) ?_ ?_;(· (simp[qX,BF,b1,b2,Bz];done));(intro _;try simp[qX,BF,b1,b2,Bz])) | (refine AK [] [(25,0)] (e3) ?_ ?_;(· (simp[qX,BF,b1,b2,Bz];done));(intro _;try simp[qX,BF,b1,b2,Bz])) | (refine⟨?_,?_⟩; · omega) | omega | apply_assumption -exfalso -symm | (exfalso;omega)))
  ·(repeat (first | (refine DL_ (id:=2) (BV).ow [] [0,1,2,3,4,5,6,7,9,10] 7 165 [.bool false,.nilsl,.nilsl] mxd rfl rfl (by kernel_rfl) (by kernel_rfl) (by simp[qX]) (by simp) (by simp) (by rfl) ?_;simp only[cV0,cA0,bZ0,cT0];simp[Bz,BV,qX,BF,b1,b2,Bz];try simp (disch:=omega) only[Af]) | refine AE fun K hK=> ?_ | (refine Bv BV mxd (by kernel_rfl) ?_;simp[BV,qX,BF,b1,b2,Bz];try simp (disch:=omega) only[Af]) | refine An ?_ | (refine AW ?_ ?_ ?_;(· (simp[qX,BF,b1,b2,Bz];done));(try (rotate_left;(· (intro hc;(try simp[qX,BF,b1,b2,Bz]at hc);done))))) | (refine AH ?_;simp[results184,qX,BF,b1,b2,Bz]) | ((first | refine Ay ?_ | refine Ax ?_);simp[qX,BF,b1,b2,Bz]) | (intro hc;(try simp[qX,BF,b1,b2,Bz]at hc);(try (exfalso;omega))) | (refine AK [(0,0),(1,1),(2,2)] [] (e1) ?_ ?_;(· (simp[qX,BF,b1,b2,Bz];done));(intro _;try simp[qX,BF,b1,b2,Bz])) | (refine AK [] [(22,0)] (e2) ?_ ?_;(· (simp[qX,BF,b1,b2,Bz];done));(intro _;try simp[qX,BF,b1,b2,Bz])) | (refine AK [] [(25,0)] (e3) ?_ ?_;(· (simp[qX,BF,b1,b2,Bz];done));(intro _;try simp[qX,BF,b1,b2,Bz])) | (refine⟨?_,?_⟩; · omega) | omega | apply_assumption -exfalso -symm | (exfalso;omega)))
 ·cases e'
  ·(repeat (first | (refine DL_ (id:=2) (BV).ow [] [0,1,2,3,4,5,6,7,9,10] 7 165 [.bool false,.nilsl,.nilsl] mxd rfl rfl (by kernel_rfl) (by kernel_rfl) (by simp[qX]) (by simp) (by simp) (by rfl) ?_;simp only[cV0,cA0,bZ0,cT0];simp[Bz,BV,qX,BF,b1,b2,Bz];try simp (disch:=omega) only[Af]) | refine AE fun K hK=> ?_ | (refine Bv BV mxd (by kernel_rfl) ?_;simp[BV,qX,BF,b1,b2,Bz];try simp (disch:=omega) only[Af]) | refine An ?_ | (refine AW ?_ ?_ ?_;(· (simp[qX,BF,b1,b2,Bz];done));(try (rotate_left;(· (intro hc;(try simp[qX,BF,b1,b2,Bz]at hc);done))))) | (refine AH ?_;simp[results184,qX,BF,b1,b2,Bz]) | ((first | refine Ay ?_ | refine Ax ?_);simp[qX,BF,b1,b2,Bz]) | (intro hc;(try simp[qX,BF,b1,b2,Bz]at hc);(try (exfalso;omega))) | (refine AK [(0,0),(1,1),(2,2)] [] (e1) ?_ ?_;(· (simp[qX,BF,b1,b2,Bz];done));(intro _;try simp[qX,BF,b1,b2,Bz])) | (refine AK [] [(22,0)] (e2) ?_ ?_;(· (simp[qX,BF,b1,b2,Bz];done));(intro _;try simp[qX,BF,b1,b2,Bz])) | (refine AK [] [(25,0)] (e3) ?_ ?_;(· (simp[qX,BF,b1,b2,Bz];done));(intro _;try simp[qX,BF,b1,b2,Bz])) | (refine⟨?_,?_⟩; · omega) | omega | apply_assumption -exfalso -symm | (exfalso;omega)))
  ·(repeat (first | (refine DL_ (id:=2) (BV).ow [] [0,1,2,3,4,5,6,7,9,10] 7 165 [.bool false,.nilsl,.nilsl] mxd rfl rfl (by kernel_rfl) (by kernel_rfl) (by simp[qX]) (by simp) (by simp) (by rfl) ?_;simp only[cV0,cA0,bZ0,cT0];simp[Bz,BV,qX,BF,b1,b2,Bz];try simp (disch:=omega) only[Af]) | refine AE fun K hK=> ?_ | (refine Bv BV mxd (by kernel_rfl) ?_;simp[BV,qX,BF,b1,b2,Bz];try simp (disch:=omega) only[Af]) | refine An ?_ | (refine AW ?_ ?_ ?_;(· (simp[qX,BF,b1,b2,Bz];done));(try (rotate_left;(· (intro hc;(try simp[qX,BF,b1,b2,Bz]at hc);done))))) | (refine AH ?_;simp[results184,qX,BF,b1,b2,Bz]) | ((first | refine Ay ?_ | refine Ax ?_);simp[qX,BF,b1,b2,Bz]) | (intro hc;(try simp[qX,BF,b1,b2,Bz]at hc);(try (exfalso;omega))) | (refine AK [(0,0),(1,1),(2,2)] [] (e1) ?_ ?_;(· (simp[qX,BF,b1,b2,Bz];done));(intro _;try simp[qX,BF,b1,b2,Bz])) | (refine AK [] [(22,0)] (e2) ?_ ?_;(· (simp[qX,BF,b1,b2,Bz];done));(intro _;try simp[qX,BF,b1,b2,Bz])) | (refine AK [] [(25,0)] (e3) ?_ ?_;(· (simp[qX,BF,b1,b2,Bz];done));(intro _;try simp[qX,BF,b1,b2,Bz])) | (refine⟨?_,?_⟩; · omega) | omega | apply_assumption -exfalso -symm | (exfalso;omega)))
end Go.Proofs.Wy
end
