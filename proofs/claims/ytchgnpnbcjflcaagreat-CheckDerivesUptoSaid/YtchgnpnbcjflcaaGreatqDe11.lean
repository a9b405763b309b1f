/- Parts of a proof, laid together: CK3, CK4, WB15, WH, CT1, CK5, CW1, CK6, CW2, CW3, CW4, CK7, CW5, CW6, CW7, CT2, CK8, CW8, CK9, CK10, CD0, CD1. -/
import Derived.Test.YtchgnpnbcjflcaaGreatqDe4
import Derived.Test.YtchgnpnbcjflcaaGreatqDe5
import Derived.Test.YtchgnpnbcjflcaaGreatqDe6
import Derived.Test.YtchgnpnbcjflcaaGreatqDe7
import Derived.Test.YtchgnpnbcjflcaaGreatqDe8
import Derived.Test.YtchgnpnbcjflcaaGreatqDe10
set_option linter.unusedSimpArgs false
set_option maxHeartbeats 8000000
set_option linter.unusedVariables false
set_option linter.unusedSectionVars false
section
namespace Go.Proofs.Wy
open Go Go.Dm Tryz
attribute [local irreducible] DW Bi Bk
set_option maxRecDepth 100000
def Ds_ : Ann:=⟨[],[]⟩
theorem FL (g1 g2:FuncId) (c1 c2:List DVal) (e1 e2:Int) (h1:Ad prog g1 c1 (.int .i64 e1)) (h2:e1=0->Ad prog g2 c2 (.int .i64 e2)) :
  Ad prog 59 [.sl 1 8 [[.fn (.func g1) [] c1],[.fn (.func g2) [] c2]]] (.int .i64 (if e1=0 then e2 else e1)):=by
 refine Ac [] Ds_ func59 call59 ntmps59 mxd (Aq @Ds_.eq_1 results59) rfl (fun qJ B qX qQ=> ?_);simp only[Am];clear qJ;obtain⟨R,hR⟩:∃R,R=(if e1=0 then e2 else e1):=⟨_,rfl⟩;rw[<-hR]
 (refine AM Aa Aa Aa ?_;intros;refine Aj ?_)
 refine Ak (X:={k:Nat//k<=2/\(1<=k->e1=0)/\(2<=k->e2=0)}) (fun x=>⟨[(6,.sl 1 8 [[.fn (.func g1) [] c1],[.fn (.func g2) [] c2]]),(7,.int .i64 2),(8,.int .i64 x.1)],[]⟩) (fun x=>2-x.1) ⟨0,by simp⟩ (Sub.lit (by simp)) ?_;rintro⟨k,hk,q1,q2⟩
 match k,hk,q1,q2 with
 | 0,_,_,_ =>
  by_cases h:e1=0
  ·subst h
   (refine AM (AA h1) Aa Aa ?_;intros;refine Aj ?_)
   exact Al.mk ⟨1,by omega,by simp,by omega⟩ (Sub.lit (by simp)) (by simp)
   skip
  ·have jN:R=e1:=by rw[hR];simp[h]
   subst jN;exact Au (AA h1) Aa (AA h)
 | 1,_,q1,_ =>
  have q1:=q1 (by omega);have k2:=h2 q1;clear h2;subst q1
  by_cases h:e2=0
  ·subst h
   (refine AM (AA k2) Aa Aa ?_;intros;refine Aj ?_)
   exact Al.mk ⟨2,by omega,by simp,by simp⟩ (Sub.lit (by simp)) (by simp)
   skip
  ·have jN:R=e2:=by rw[hR];simp
   subst jN;exact Au (AA k2) Aa (AA h)
 | 2,_,q1,q2 =>
  clear h2;have q1:=q1 (by omega);have q2:=q2 (by omega);subst q1;subst q2;have jN:R=0:=by rw[hR];simp
  subst jN;exact Au Aa Aa Aa
def BS (c:Int) (g:List Rul) (nt:ByteArray):Int:=if c=0 then (if nt∈AB g then 0 else 4)else c
def sF : Ann:=⟨[],[]⟩
theorem aW (g:List Rul) (c:Int) (h:Ad prog 76 [AD g] (.int .i64 c)):Ad prog 152 [.ref [AD g]] (.int .i64 c):=by
 refine Ac [] sF func152 call152 ntmps152 mxd (Aq @sF.eq_1 results152) rfl (fun qJ B qX qQ=> ?_);clear qJ;simp only[Am];exact Au (AA h) Aa Aa
def sE : Ann:=⟨[],[]⟩
theorem aV (g:List Rul) (nt:ByteArray):Ad prog 153 [.ref [AD g],.ref [.str nt]] (.int .i64 (if nt∈AB g then 0 else 4)):=by
 refine Ac [] sE func153 call153 ntmps153 mxd (Aq @sE.eq_1 results153) rfl (fun qJ B qX qQ=> ?_);clear qJ;simp only[Am];have e1:=Js g;have e2:=IB (AB g) nt;obtain⟨H,hH⟩:∃H,H=AB g:=⟨_,rfl⟩;rw[<-hH]at e1 e2 |-
 by_cases h:nt∈H
 ·have e3:=BW false 4;rw[decide_eq_true h]at e2;simp only[aU0,if_false]at e3;exact Au (Ez e1 e2 e3) Aa (AA h)
 ·have e3:=BW true 4;rw[decide_eq_false h]at e2;simp only[if_true]at e3;exact Au (Ez e1 e2 e3) Aa (AA h)
def Dr_ : Ann:=⟨[],[]⟩
theorem SO (g:List Rul) (nt:ByteArray) (c:Int) (h:Ad prog 76 [AD g] (.int .i64 c)):Ad prog 61 [AD g,.str nt] (.int .i64 (BS c g nt)):=by
 refine Ac [] Dr_ func61 call61 ntmps61 mxd (Aq @Dr_.eq_1 results61) rfl (fun qJ B qX qQ=> ?_);clear qJ;simp only[Am];have e1:=FL 152 153 [.ref [AD g]] [.ref [AD g],.ref [.str nt]] _ _ (aW g c h) (fun _=>aV g nt);have vB:(([0,1]:List Nat)=List.range 2)=True:=eq_true rfl;obtain⟨R,hR⟩:∃R,R=BS c g nt:=⟨_,rfl⟩;have vY:R=(if c=0 then (if nt∈AB g then 0 else 4)else c):=hR;rw[<-vY]at e1;rw[<-hR];clear hR vY
 exact Au (AA e1) Aa (AA vB)
def Ox (L:List ByteArray) (w:List ByteArray):List Int:=w.map fun s=>(Mz L s:Int)
def Vj (L:List ByteArray) (w:List ByteArray):Bool:=w.all fun s=>decide (s∈L)
theorem KX (L w:List ByteArray):(Ox L w).length=w.length:=by unfold Ox;rw[aL0]
theorem Gx_ {L w:List ByteArray} {k:Nat} {x:ByteArray} (h:w[k]? =some x):Ox L (w.take (k+1))=Ox L (w.take k)++[(Mz L x:Int)]:=by unfold Ox;rw[bF0,h,bA0];rfl
theorem Mc_ {L w:List ByteArray} {x:ByteArray} (h:x∈w) (hx:¬x∈L):Vj L w=false:=by
 unfold Vj;rw[List.all_eq_false];exact⟨x,h,by simpa using hx⟩
theorem JZ_ {L w:List ByteArray} (h:∀x∈w,x∈L):Vj L w=true:=by
 unfold Vj;rw[aV0];exact fun x hx=>by simpa using h x hx
def wdD (L w:List ByteArray):DVal:= .tup [Cg (if Vj L w then Ox L w else []),.int .i64 (if Vj L w then 0 else 4)]
theorem Mb_ {L w:List ByteArray} {D:DVal} (h:D=(if Vj L w then .tup [Cg (Ox L w),.int .i64 0]else .tup [.nilsl,.int .i64 4])):∀{f:FuncId} {args:List DVal},Ad prog f args D->Ad prog f args (wdD L w):=by
 intro f args hp;subst h;unfold wdD;cases hb:Vj L w
 ·rw[hb]at hp;exact Ad.wkT hp (by simp[Cg]) (by simp[mx])
 ·rw[hb]at hp;exact hp
def Dq_ : Ann:=⟨[],[]⟩
theorem Ru (H L w:List ByteArray) (hL:L.length<=16) (hw:w.length<=64):Ad prog 31 [FM H L,Bg w] (wdD L w):=by
 refine Mb_ rfl ?_;obtain⟨D,hD⟩:∃D,D=(if Vj L w then DVal.tup [Cg (Ox L w),.int .i64 0]else .tup [.nilsl,.int .i64 4]):=⟨_,rfl⟩;rw[<-hD];have e1:=Gg H L;have e2:=fun s=>LW H L s
 refine Ac [6] Dq_ func31 call31 ntmps31 mxd (Aq @Dq_.eq_1 results31) rfl (fun qJ B qX qQ=> ?_) (hd:=(by rw[hD];split<;>simp[mx]));clear qJ;simp only[Am]
 (refine AM (AA e1) Aa Aa ?_;intros;refine Aj ?_)
 refine BY 6 6 3 1 8 (by simp[qX]) (fun n6=> ?_);refine Ak (X:={k:Nat//k<=w.length/\∀x∈w.take k,x∈L}) (fun k=>⟨[(0,FM H L),(6,.osl 6 1),(14,Bg w),(15,.int .i64 w.length),(16,.int .i64 k.1)],[⟨6,1,.row 3 1 8 ((Ox L (w.take k.1)).map Cl)⟩]⟩) (fun k=>w.length-k.1) ⟨0,by simp⟩ (Sub.lit (by simp[Ox])) ?_;rintro⟨k,hk,ha⟩
 by_cases qV:k<w.length
 ·obtain⟨x,hx,qG,vN⟩:=Aw qV;have e3:=e2 x;unfold Il JQ at e3
  by_cases vV:x∈L
  ·rw[if_pos vV,if_pos vV]at e3;have wJ:=Gx_ (L:=L) hx;have kY:(Ox L (w.take k)).length=k:=by rw[KX,bE0];omega
   have mI:∀y∈w.take (k+1),y∈L:=by
    intro y hy;rw[bF0,hx,aI0]at hy
    rcases hy with hy | hy
    ·exact ha y hy
    ·simp at hy;subst hy;exact vV
   obtain⟨T,hT⟩:∃T,T=Ox L (w.take k):=⟨_,rfl⟩;rw[<-hT]at wJ kY |-;have z1:(k+1)*8<=150000000000000:=by omega
   have z2:k+1<=9223372036854775807:=by omega
   (refine AM (AA e3) Aa (JB @Bh.eq_1 qV hx qG kY z1 z2) ?_;intros;refine Aj ?_)
   refine Al.mk ⟨k+1,by omega,mI⟩ (Sub.lit (by simp[wJ,Cl])) (by simp;omega)
   skip
  ·rw[if_neg vV,if_neg vV]at e3;have hDf:D= .tup [.nilsl,.int .i64 4]:=by rw[hD,if_neg (by rw[Mc_ vN vV];simp)]
   subst hDf;exact Au (AA e3) Aa (EU @Bh.eq_1 qV hx qG)
 ·have qZ:k=w.length:=by omega
  subst qZ;simp only[aY0]at ha |-;have hDt:D= .tup [Cg (Ox L w),.int .i64 0]:=by rw[hD,if_pos (JZ_ ha)]
  subst hDt;exact Au Aa Aa Aa
def sD : Ann:=⟨[],[]⟩
theorem Va (H L w:List ByteArray) (hL:L.length<=16) (hw:w.length<=64):Ad prog 155 [FM H L,Bg w] (.tup [Cg (if Vj L w then Ox L w else []),.bool (Vj L w)]):=by
 refine Ac [] sD func155 call155 ntmps155 mxd (Aq @sD.eq_1 results155) rfl (fun qJ B qX qQ=> ?_);clear qJ;simp only[Am];have e1:=Ru H L w hL hw;unfold wdD at e1;cases hb:Vj L w
 ·rw[hb]at e1;simp only[aU0,if_false]at e1 |-;exact Au (AA e1) Aa Aa
 ·rw[hb]at e1;simp only[if_true]at e1 |-;exact Au (AA e1) Aa Aa
def Dp_ : Ann:=⟨[],[⟨2,[12],[],[]⟩]⟩
theorem Qd (gt:GT) (h:OkgT gt) (hs:Fa (AZ gt)) (p1:Ad prog 76 [AD (AZ gt)] (.int .i64 0)) (nt:ByteArray) (w:List ByteArray) (hw:w.length<=64) :
  Ad prog 64 [AD (AZ gt),.str nt,Bg w] (.tup [.agg (Av (Dx gt).1),.int .i64 (Il (AB (AZ gt)) nt),Cg (if Vj (AC (AZ gt)) w then Ox (AC (AZ gt)) w else []),.bool (Vj (AC (AZ gt)) w)]):=by
 have n1:=EL (k:=3) hs;have n2:(AZ gt).length=gt.length:=Gh gt;have n3:=h.le;have hhd:=h.hd;have rQ:=h.lb;have e1:=XF (AZ gt) (by omega) (by omega) (by omega) p1;have e2:=Vh gt h hs p1;have e3:=Mq (AB (AZ gt)) (AC (AZ gt)) nt;have e4:=Va (AB (AZ gt)) (AC (AZ gt)) w rQ hw;obtain⟨X,hX⟩:∃X,X=(Dx gt).1:=⟨_,rfl⟩;obtain⟨E,hE⟩:∃E,E=(Dx gt).2:=⟨_,rfl⟩;rw[<-hX,<-hE]at e2;rw[<-hX];obtain⟨H,hH⟩:∃H,H=AB (AZ gt):=⟨_,rfl⟩
 obtain⟨L,hL⟩:∃L,L=AC (AZ gt):=⟨_,rfl⟩;rw[<-hH,<-hL]at e1 e3 e4;rw[<-hH,<-hL];obtain⟨N,hN⟩:∃N,N=(if Vj L w then Ox L w else []):=⟨_,rfl⟩;rw[<-hN]at e4 |-;simp only[Av]at e2;refine Ac [] Dp_ func64 call64 ntmps64 mxd (Aq @Dp_.eq_1 results64) rfl (fun qJ B qX qQ=> ?_) (hd:=(by simp[mx,AR,Av]));clear qJ;simp only[Am];exact Au (EU e1 e2 e3 e4) Aa (AA @Av.eq_1)
end Go.Proofs.Wy
end
section
namespace Go.Proofs.Wy
open Go Go.Dm Tryz
variable [DMode]
attribute [local irreducible] DW Bi Bk
set_option maxRecDepth 100000
def lU : Ann:=⟨[],[]⟩
theorem DP_ (g:Edges) (a b:ByteArray):Ad prog 88 [.ref (dGr g),.ref [.str a],.ref [.str b]] (.int .i64 (Cs_ g a b)):=by
 refine Ac [] lU func88 call88 ntmps88 mxd (Aq @lU.eq_1 results88) rfl (fun qJ B qX qQ=> ?_);clear qJ;simp only[Am];have h:=iF g a b;simp only[dGr]at h;exact Au (AA h) Aa (AA @dGr.eq_1)
def lT : Ann:=⟨[],[]⟩
theorem DO_ (way:List Edge):Ad prog 89 [.ref [NY_ way]] (.int .i64 (if 64<way.length then 3 else 0)):=by
 refine Ac [] lT func89 call89 ntmps89 mxd (Aq @lT.eq_1 results89) rfl (fun qJ B qX qQ=> ?_);clear qJ;simp only[Am];have h:=BW (decide ((64:Int)<way.length)) 3
 by_cases c:64<way.length
 ·have d:(64:Int)<way.length:=by omega
  have h:=BW true 3;simp only[if_true]at h;exact Au (AA h) Aa (Aq c d)
 ·have d:¬(64:Int)<way.length:=by omega
  have h:=BW false 3;simp only[aU0,if_false]at h;exact Au (AA h) Aa (Aq c d)
def lV : Ann:=⟨[],[]⟩
theorem uT : Ad prog 70 [.nilsl] (.bool true):=by
 refine Ac [] lV func70 call70 ntmps70 mxd (Aq @lV.eq_1 results70) rfl (fun qJ B qX qQ=> ?_);clear qJ;simp only[Am]
 (refine AM Aa Aa Aa ?_;intros;refine Aj ?_)
 refine Ak (X:=Unit) (fun _=>⟨[(0,.nilsl),(3,.int .i64 1)],[]⟩) (fun _=>0) () (Sub.lit (by simp)) ?_;rintro⟨⟩;exact Au Aa Aa Aa
def NT_ : Edges:=⟨[⟨#[110]⟩],[]⟩
def Cc : List DVal:=[.sl 1 16 [[.str ⟨#[110]⟩]],.sl 3 48 []]
def CJ_ : Ann:=⟨[],[]⟩
theorem Aa_ : Ad prog 309 [.int .u8 110] (.bool true):=by
 refine Ac [] CJ_ func309 call309 ntmps309 mxd (Aq @CJ_.eq_1 results309) rfl (fun qJ B qX qQ=> ?_);clear qJ;simp only[Am];exact Au Aa Aa Aa
def CL_ : Ann:=⟨[],[]⟩
theorem HJ_ : Ad prog 246 [.str ⟨#[110]⟩] (.bool true):=by
 refine Ac [] CL_ func246 call246 ntmps246 mxd (Aq @CL_.eq_1 results246) rfl (fun qJ B qX qQ=> ?_);clear qJ;simp only[Am];have s1:(⟨#[110]⟩:ByteArray).size=1:=rfl
 (refine AM Aa Aa (AA s1) ?_;intros;refine Aj ?_)
 refine Ak (X:={k:Nat//k<=1}) (fun k=>⟨[(0,.str ⟨#[110]⟩),(3,.int .i64 (k.1:Int))],[]⟩) (fun k=>1-k.1) ⟨0,by omega⟩ (Sub.lit (by simp)) ?_;rintro⟨k,hk⟩
 match k,hk with
 | 0,_ =>
  have e1:=Aa_
  (refine AM (AA e1) Aa (AA s1) ?_;intros;refine Aj ?_)
  exact Al.mk ⟨1,by omega⟩ (Sub.lit (by simp)) (by simp)
  skip
 | 1,_ =>
  exact Au Aa Aa (AA s1)
def CN_ : Ann:=⟨[],[]⟩
theorem uS : Ad prog 242 [.sl 1 16 [[.str ⟨#[110]⟩]],.fn (.func 243) [] []] (.bool true):=by
 refine Ac [] CN_ func242 call242 ntmps242 mxd (Aq @CN_.eq_1 results242) rfl (fun qJ B qX qQ=> ?_);clear qJ;simp only[Am]
 (refine AM Aa Aa Aa ?_;intros;refine Aj ?_)
 refine Ak (X:=Unit) (fun _=>⟨[(0,.sl 1 16 [[.str ⟨#[110]⟩]]),(5,.int .i64 1)],[]⟩) (fun _=>0) () (Sub.lit (by simp)) ?_;rintro⟨⟩;exact Au Aa Aa Aa
def CM_ : Ann:=⟨[],[]⟩
theorem Zq : Ad prog 244 [.sl 3 48 [],.fn (.func 245) [] []] (.bool true):=by
 refine Ac [] CM_ func244 call244 ntmps244 mxd (Aq @CM_.eq_1 results244) rfl (fun qJ B qX qQ=> ?_);clear qJ;simp only[Am]
 (refine AM Aa Aa Aa ?_;intros;refine Aj ?_)
 refine Ak (X:=Unit) (fun _=>⟨[(0,.sl 3 48 []),(5,.int .i64 1)],[]⟩) (fun _=>0) () (Sub.lit (by simp)) ?_;rintro⟨⟩;exact Au Aa Aa Aa
def xY (k:Nat):Ent:=⟨18,1,.map (if k=0 then []else [.str ⟨#[110]⟩]) (if k=0 then []else [.int .i64 1])⟩
def CQ_ : Ann:=⟨[],[⟨11,[7],[],[]⟩]⟩
theorem IB_ : Ad prog 165 [.agg Cc] (.bool true):=by
 refine Ac [] CQ_ func165 call165 ntmps165 mxd (Aq @CQ_.eq_1 results165) rfl (fun qJ B qX qQ=> ?_);clear qJ;simp only[Am];have e1:=uS;have e2:=Zq
 (refine AM (Aq e1 e2) Aa (AA @Cc.eq_1) ?_;intros;refine Aj ?_)
 refine Ak (X:={k:Nat//k<=1}) (fun k=>⟨[(1,.ref Cc),(3,.omp 18 1),(20,.sl 1 16 [[.str ⟨#[110]⟩]]),(21,.int .i64 1),(22,.int .i64 (k.1:Int))],[xY k.1]⟩) (fun k=>1-k.1) ⟨0,by omega⟩ (Sub.lit (by simp[xY,Cc])) ?_;rintro⟨k,hk⟩
 match k,hk with
 | 0,_ =>
  (refine AM Aa Aa (Aq @xY.eq_1 @Cc.eq_1) ?_;intros;refine Aj ?_)
  exact Al.mk ⟨1,by omega⟩ (Sub.lit (by simp[xY,Cc])) (by simp)
  skip
 | 1,_ =>
  (refine AM Aa Aa (Aq @xY.eq_1 @Cc.eq_1) ?_;intros;refine Aj ?_)
  refine Ak (X:=Unit) (fun _=>⟨[(33,.sl 3 48 []),(34,.int .i64 0),(35,.int .i64 0)],[xY 1]⟩) (fun _=>0) () (Sub.lit (by simp[xY])) ?_;rintro⟨⟩;exact Au Aa Aa Aa
def CP_ : Ann:=⟨[],[⟨9,[6],[],[]⟩]⟩
theorem EP_ : Ad prog 166 [.agg Cc] (.bool true):=by
 refine Ac [] CP_ func166 call166 ntmps166 mxd (Aq @CP_.eq_1 results166) rfl (fun qJ B qX qQ=> ?_);clear qJ;simp only[Am]
 (refine AM Aa Aa (AA @Cc.eq_1) ?_;intros;refine Aj ?_)
 refine Ak (X:={k:Nat//k<=1}) (fun k=>⟨[(1,.ref Cc),(8,.sl 1 16 [[.str ⟨#[110]⟩]]),(9,.int .i64 1),(10,.int .i64 (k.1:Int))],[]⟩) (fun k=>1-k.1) ⟨0,by omega⟩ (Sub.lit (by simp[Cc])) ?_;rintro⟨k,hk⟩
 match k,hk with
 | 0,_ =>
  have e1:=HJ_
  (refine AM (AA e1) Aa (AA @Cc.eq_1) ?_;intros;refine Aj ?_)
  exact Al.mk ⟨1,by omega⟩ (Sub.lit (by simp[Cc])) (by simp)
  skip
 | 1,_ =>
  (refine AM Aa Aa (AA @Cc.eq_1) ?_;intros;refine Aj ?_)
  refine Ak (X:=Unit) (fun _=>⟨[(19,.sl 3 48 []),(20,.int .i64 0),(21,.int .i64 0)],[]⟩) (fun _=>0) () (Sub.lit (by simp)) ?_;rintro⟨⟩;exact Au Aa Aa Aa
def CI_ : Ann:=⟨[],[]⟩
theorem Yq : AS prog (.func 311) [.osl 0 0] [⟨0,0,.row 9 1 16 []⟩] (.sl 1 16 []) []:=by
 refine Gq [0] [] func311 rfl call311 (by simp[ntmps311]) (by simp) (by simp) ?_;intro qJ hwo B qX;have qQ:=CF_ CI_ mxd (Aq @CI_.eq_1 results311);simp only[Am];exact Au Aa Aa Aa
def CK_ : Ann:=⟨[20,22],[⟨5,[6],[],[]⟩]⟩
theorem Ab_ : Ad prog 248 [.agg Cc] (.sl 1 16 []):=by
 refine Ac [] CK_ func248 call248 ntmps248 mxd (Aq @CK_.eq_1 results248) rfl (fun qJ B qX qQ=> ?_);clear qJ;simp only[Am]
 (refine AM Aa Aa (AA @Cc.eq_1) ?_;intros;refine Aj ?_)
 refine DY 3 0 50 9 1 16 (by simp) (fun n=> ?_);refine Ak (X:=Unit) (fun _=>⟨[(3,.bx 3 1 0),(9,.sl 3 48 []),(10,.int .i64 0),(11,.int .i64 0)],[⟨3,1,.box [.osl 50 1]⟩,⟨50,1,.row 9 1 16 []⟩]⟩) (fun _=>0) () (Sub.lit (by simp)) ?_;rintro⟨⟩;have e1:=RI [];have e2:=Yq;have e3:=Qa [];have hs0:DZ []=[]:=bO0 (by rw[Gs];rfl);simp only[hs0,Bg,List.map_nil]at e1 e3;exact Au (AA e3) (Aq (Ee [(50,0)] [] e1) (Ee [(50,0)] [] e2)) Aa
def CH_ : Ann:=⟨[],[⟨4,[5],[],[]⟩]⟩
theorem Ib_ : Ad prog 312 [.agg Cc] (.sl 1 16 [[.str ⟨#[110]⟩]]):=by
 refine Ac [6] CH_ func312 call312 ntmps312 mxd (Aq @CH_.eq_1 results312) rfl (fun qJ B qX qQ=> ?_);clear qJ;simp only[Am]
 (refine AM Aa Aa (AA @Cc.eq_1) ?_;intros;refine Aj ?_)
 refine Ak (X:=Unit) (fun _=>⟨[(1,.ref Cc),(3,.omp 9 1),(11,.sl 3 48 []),(12,.int .i64 0),(13,.int .i64 0)],[⟨9,1,.map [] []⟩]⟩) (fun _=>0) () (Sub.lit (by simp[Cc])) ?_;rintro⟨⟩
 (refine AM Aa Aa (AA @Cc.eq_1) ?_;intros;refine Aj ?_)
 refine BY 6 6 9 1 16 (by simp[qX]) (fun n6=> ?_);refine Ak (X:={k:Nat//k<=1}) (fun k=>⟨[(3,.omp 9 1),(6,.osl 6 1),(29,.sl 1 16 [[.str ⟨#[110]⟩]]),(30,.int .i64 1),(31,.int .i64 (k.1:Int))],[⟨9,1,.map [] []⟩,⟨6,1,.row 9 1 16 (if k.1=0 then []else [[.str ⟨#[110]⟩]])⟩]⟩) (fun k=>1-k.1) ⟨0,by omega⟩ (Sub.lit (by simp)) ?_;rintro⟨k,hk⟩
 match k,hk with
 | 0,_ =>
  (refine AM Aa Aa Aa ?_;intros;refine Aj ?_)
  exact Al.mk ⟨1,by omega⟩ (Sub.lit (by simp)) (by simp)
  skip
 | 1,_ =>
  exact Au Aa Aa Aa
def GN_ : ByteArray:=⟨#[110]⟩++⟨#[32,59,10]⟩
def iW (k:Nat):List Ent:=if k=0 then [⟨3,1,.row 338 2 32 [[.nilp,.nilsl]]⟩]else [⟨3,1,.row 338 2 32 [[.rx 3 1 2 0 0,.osl 50 1]]⟩,⟨50,1,.row 5 1 1 (Ba GN_)⟩]
def Re : Ann:=⟨[17,37,39],[⟨1,[3],[],[]⟩,⟨9,[7],[],[]⟩]⟩
theorem GJ_ : Ad prog 249 [.agg Cc] (.str GN_):=by
 refine Ac [] Re func249 call249 ntmps249 mxd (Aq @Re.eq_1 results249) rfl (fun qJ B qX qQ=> ?_);clear qJ;simp only[Am];have h1:=Ib_;have e0:(⟨#[]⟩:ByteArray).size<=maxLen:=cH0 _;have m3:3<=maxLen:=by unfold maxLen;omega
 have m1:1<=maxLen:=by unfold maxLen;omega
 have q1:(⟨#[110]⟩:ByteArray).size+3<=maxLen:=by unfold maxLen;decide
 refine AE fun K0 hK0=> ?_
 (first | refine AE fun K hK=> ?_ | (refine Bv Re mxd (by kernel_rfl) ?_;simp[Re,qX,Cc,e0];try simp (disch:=omega) only[Af]) | refine An ?_ | (refine AW ?_ ?_ ?_;(· (simp[qX,Cc,e0];done));(try (rotate_left;(· (intro hc;(try simp[qX,Cc,e0]at hc);done))))) | (refine AH ?_;simp[results249,qX,Cc,e0]) | ((first | refine Ay ?_ | refine Ax ?_);simp[qX,Cc,e0]) | (intro hc;(try simp[qX,Cc,e0]at hc);(try (exfalso;omega))) | (refine⟨?_,?_⟩; · omega) | omega | apply_assumption -exfalso -symm | (exfalso;omega))
 apply hK0
 refine AE fun K1 hK1=> ?_
 refine Ly (bs:=32) (k:=2) (z:=[.nilp,.nilsl]) (by simp[qX,ntmps249]) (by simp) (by rfl) rfl (by decide) (fun r hr=> ?_);simp
 apply hK1
 (refine AM (AA h1) Aa (Aq @Cc.eq_1 e0) ?_;intros;refine Aj ?_)
 refine Ak (X:={k:Nat//k<=1}) (fun k=>⟨[(1,.ref Cc),(3,.rx 3 1 2 0 0),(9,.sl 1 16 [[.str ⟨#[110]⟩]]),(10,.int .i64 1),(11,.int .i64 (k.1:Int))],iW k.1⟩) (fun k=>1-k.1) ⟨0,by omega⟩ (Sub.lit (by simp[Cc,iW])) ?_;rintro⟨k,hk⟩
 match k,hk with
 | 0,_ =>
  have e1:=JD (⟨#[110]⟩++⟨#[32,59,10]⟩) (by decide)
  (refine AM Aa (AA (Ee [(3,0)] [(50,1)] e1)) (ML @iW.eq_1 @Cc.eq_1 q1 @Np_ @Nq_ @aO0 m3 m1) ?_;intros;refine Aj ?_)
  exact Al.mk ⟨1,by omega⟩ (Sub.lit (by simp[iW,Cc,GN_])) (by simp)
  skip
 | 1,_ =>
  (refine AM Aa Aa (Aq @iW.eq_1 @Cc.eq_1) ?_;intros;refine Aj ?_)
  refine Ak (X:=Unit) (fun _=>⟨[(3,.rx 3 1 2 0 0),(20,.sl 3 48 []),(21,.int .i64 0),(22,.int .i64 0)],iW 1⟩) (fun _=>0) () (Sub.lit (by simp[iW])) ?_;rintro⟨⟩;have e1:=FU GN_ (by decide);exact Au Aa (AA (Ee [(3,0),(50,1)] [] e1)) (AA @iW.eq_1)
def CO_ : Ann:=⟨[],[]⟩
theorem Ja_ : Ad prog 167 [.agg Cc] (.int .i64 0):=by
 refine Ac [] CO_ func167 call167 ntmps167 mxd (Aq @CO_.eq_1 results167) rfl (fun qJ B qX qQ=> ?_);clear qJ;simp only[Am];have h1:=Ab_;have h2:=GJ_;have hs:GN_.size=4:=by decide
 exact Au (Aq h1 h2) Aa (Aq @Cc.eq_1 hs)
def Jz_ : Ann:=⟨[],[]⟩
theorem FV_ : Ad prog 78 [.agg Cc] (.int .i64 0):=by
 refine Ac [] Jz_ func78 call78 ntmps78 mxd (Aq @Jz_.eq_1 results78) rfl (fun qJ B qX qQ=> ?_);clear qJ;simp only[Am];have h1:=IB_;have h2:=EP_;have h3:=Ja_;exact Au (Ez h1 h2 h3) Aa (AA @Cc.eq_1)
def Jx_ : Ann:=⟨[],[]⟩
theorem GA_ : Ad prog 87 [.ref Cc] (.int .i64 0):=by
 refine Ac [] Jx_ func87 call87 ntmps87 mxd (Aq @Jx_.eq_1 results87) rfl (fun qJ B qX qQ=> ?_);clear qJ;simp only[Am];have h:=FV_;exact Au (AA h) Aa (AA @Cc.eq_1)
def Jy_ : Ann:=⟨[],[⟨5,[12],[],[]⟩]⟩
theorem Ae_ : Ad prog 83 [.agg Cc,.str ⟨#[110]⟩,.str ⟨#[110]⟩,.sl 3 48 []] (.bool true):=by
 refine Ac [] Jy_ func83 call83 ntmps83 mxd (Aq @Jy_.eq_1 results83) rfl (fun qJ B qX qQ=> ?_);clear qJ;simp only[Am]
 (refine AM Aa Aa (AA @Cc.eq_1) ?_;intros;refine Aj ?_)
 refine Uu ?_
 (refine AM Aa Aa (AA @Cc.eq_1) ?_;intros;refine Aj ?_)
 refine tQ ?_;simp
 (refine AM Aa Aa (AA @Cc.eq_1) ?_;intros;refine Aj ?_)
 refine Ak (X:=Unit) (fun _=>⟨[(2,.str ⟨#[110]⟩),(9,.str ⟨#[110]⟩),(10,.bool true),(14,.sl 3 48 []),(15,.int .i64 0),(16,.int .i64 0)],[]⟩) (fun _=>0) () (Sub.lit (by simp[Cc])) ?_;rintro⟨⟩;exact Au Aa Aa (AA @Cc.eq_1)
def Jw_ : Ann:=⟨[],[]⟩
theorem Gz_ : Ad prog 90 [.ref Cc,.ref [.str ⟨#[110]⟩],.ref [.str ⟨#[110]⟩],.ref [.sl 3 48 []]] (.int .i64 0):=by
 refine Ac [] Jw_ func90 call90 ntmps90 mxd (Aq @Jw_.eq_1 results90) rfl (fun qJ B qX qQ=> ?_);clear qJ;simp only[Am];have h:=Ae_;have h2:=BW false 370;simp only[aU0,if_false]at h2;exact Au (Aq h h2) Aa (AA @Cc.eq_1)
def JA_ : Ann:=⟨[],[]⟩
theorem Bo_ (b:ByteArray) (R:Int) (h2:Cs_ NT_ ⟨#[110]⟩ b=R) (h4:R=0->b=⟨#[110]⟩):Ad prog 27 [.agg Cc,.str ⟨#[110]⟩,.str b,.sl 3 48 []] (.int .i64 R):=by
 refine Ac [] JA_ func27 call27 ntmps27 mxd (Aq @JA_.eq_1 results27) rfl (fun qJ B qX qQ=> ?_);clear qJ;simp only[Am];have w2:=DP_ NT_ ⟨#[110]⟩ b;rw[h2]at w2;have w3:Ad prog 89 [.ref [.sl 3 48 []]] (.int .i64 0):=DO_ [];have h:=eU 87 88 89 90 [.ref Cc] [.ref Cc,.ref [.str ⟨#[110]⟩],.ref [.str b]] [.ref [.sl 3 48 []]] [.ref Cc,.ref [.str ⟨#[110]⟩],.ref [.str b],.ref [.sl 3 48 []]] _ _ _ _ GA_ (fun _=>w2) (fun _ _=>w3) (fun _ hR _=>by rw[h4 hR];exact Gz_)
 simp only[if_true]at h;have hI:(if R=0 then (0:Int)else R)=R:=by split<;>simp_all
 rw[hI]at h;have hr4:(([0,1,2,3]:List Nat)=List.range 4)=True:=eq_true rfl;exact Au (AA h) Aa (Aq @Cc.eq_1 hr4)
def JB_ : Ann:=⟨[],[⟨1,[1],[],[]⟩]⟩
theorem Tc : Ad prog 22 [] (.bool true):=by
 refine Ac [] JB_ func22 call22 ntmps22 mxd (Aq @JB_.eq_1 results22) rfl (fun qJ B qX qQ=> ?_);clear qJ;simp only[Am];have k1:Ad prog 27 [.agg [.sl 1 16 [[.str ⟨#[110]⟩]],.sl 3 48 []],.str ⟨#[110]⟩,.str ⟨#[109]⟩,.sl 3 48 []] (.int .i64 4):=Bo_ _ 4 rfl (fun h=>absurd h (by decide));have k2:Ad prog 27 [.agg [.sl 1 16 [[.str ⟨#[110]⟩]],.sl 3 48 []],.str ⟨#[110]⟩,.str ⟨#[110]⟩,.sl 3 48 []] (.int .i64 0):=Bo_ _ 0 rfl (fun _=>rfl)
 have h3:=uT;have m1:1<=maxLen:=by unfold maxLen;omega
 have s1:(⟨#[110]⟩:ByteArray).size=1:=rfl;have s2:(⟨#[109]⟩:ByteArray).size=1:=rfl;have nC:(([0]:List Nat)=List.range 1)=True:=eq_true rfl;exact Au (Ez k1 k2 h3) Aa (EU m1 s1 s2 nC)
end Go.Proofs.Wy
end
section
namespace Go.Proofs.Wy
open Go Go.Dm Tryz
attribute [local irreducible] DW Bi Bk
set_option maxRecDepth 100000
def Vo (c:Int) (g:List Rul) (nt:ByteArray) (w:List ByteArray) (l:List Stp) (r:Bool):Bool×Int :=
 if BS c g nt=0 then (if 64<w.length\/4096<l.length then (false,3)else (Vj (AC g) w&&r,0))else (false,BS c g nt)
def Do_ : Ann:=⟨[],[]⟩
theorem Rx (g:List Rul) (nt:ByteArray) (c:Int) (h:Ad prog 76 [AD g] (.int .i64 c)):Ad prog 60 [.ref [AD g],.ref [.str nt]] (.int .i64 (BS c g nt)):=by
 refine Ac [] Do_ func60 call60 ntmps60 mxd (Aq @Do_.eq_1 results60) rfl (fun qJ B qX qQ=> ?_);clear qJ;simp only[Am];have e1:=SO g nt c h;obtain⟨R,hR⟩:∃R,R=BS c g nt:=⟨_,rfl⟩;rw[<-hR]at e1 |-;exact Au (AA e1) Aa Aa
def Dn_ : Ann:=⟨[],[]⟩
theorem Rw (w:List ByteArray) (l:List Stp):Ad prog 62 [.ref [Bg w],.ref [FN l]] (.int .i64 (if 64<w.length\/4096<l.length then 3 else 0)):=by
 refine Ac [] Dn_ func62 call62 ntmps62 mxd (Aq @Dn_.eq_1 results62) rfl (fun qJ B qX qQ=> ?_);clear qJ;simp only[Am]
 by_cases h1:64<w.length
 ·have e1:=BW true 3;simp only[if_true]at e1;have d1:(64:Int)<(w.length:Int):=by omega
  exact Au (AA e1) Aa (Aq h1 d1)
 ·have d1:¬(64:Int)<(w.length:Int):=by omega
  by_cases h2:4096<l.length
  ·have e1:=BW true 3;simp only[if_true]at e1;have d2:(4096:Int)<(l.length:Int):=by omega
   exact Au (AA e1) Aa (EU h1 d1 h2 d2)
  ·have e1:=BW false 3;simp only[aU0,if_false]at e1;have d2:¬(4096:Int)<(l.length:Int):=by omega
   exact Au (AA e1) Aa (EU h1 d1 h2 d2)
theorem Rp {gt:GT} (h:OkgT gt) {nt:ByteArray} (hn:nt∈AB (AZ gt)) {w:Nat} (hw:w<=64):Vg (Dx gt).1 (Il (AB (AZ gt)) nt) w=0:=by
 obtain⟨x,e1,e2,e3,e4⟩:=Mg h (Rb h);have e5:Dx gt=(x,0):=e1;rw[e5];have h1:=KA hn;unfold Vg Il Hy
 have e6:x.prods.any Hu=false:=by
  rw[dA0];intro p hp;have:=e3 p hp;simpa[Hu]using this
 simp only[e2,e6,if_true,Bool.not_false,eZ0];rw[if_pos hn,if_pos (by omega),if_pos hw]
def Bt_ (g:List Rul) (X:Cnf) (nt:ByteArray) (w:List ByteArray) (l:List Stp):Bool:=Kk X (Il (AB g) nt) (Ox (AC g) w) l
def Rh : Ann:=⟨[],[⟨4,[11],[],[]⟩]⟩
theorem GG_ (g:List Rul) (nt:ByteArray) (c:Int) (w:List ByteArray) (l:List Stp) (r:Bool) (h:Ad prog 76 [AD g] (.int .i64 c)) (he:BS c g nt≠0\/64<w.length\/4096<l.length):Ad prog 20 [AD g,.str nt,Bg w,FN l] (.tup [.bool (Vo c g nt w l r).1,.int .i64 (Vo c g nt w l r).2]):=by
 have e1:=FL 60 62 [.ref [AD g],.ref [.str nt]] [.ref [Bg w],.ref [FN l]] _ _ (Rx g nt c h) (fun _=>Rw w l);have vB:(([0,1]:List Nat)=List.range 2)=True:=eq_true rfl;obtain⟨R,hR⟩:∃R,R=(if BS c g nt=0 then (if 64<w.length\/4096<l.length then (3:Int)else 0)else BS c g nt):=⟨_,rfl⟩;rw[<-hR]at e1
 have jW:R≠0:=by
  rw[hR]
  by_cases hk:BS c g nt=0
  ·rw[if_pos hk,if_pos (he.resolve_left (fun hh=>hh hk))];omega
  ·rw[if_neg hk];exact hk
 have ht:Vo c g nt w l r=(false,R):=by
  unfold Vo;rw[hR]
  by_cases hk:BS c g nt=0
  ·have hh:=he.resolve_left (fun hh=>hh hk);rw[if_pos hk,if_pos hh,if_pos hk,if_pos hh]
  ·rw[if_neg hk,if_neg hk]
 rw[ht];have hRb:(R==0)=false:=by simpa using jW
 have hRc:(R != 0)=true:=by simpa using jW
 clear hR ht;refine Ac [] Rh func20 call20 ntmps20 mxd (Aq @Rh.eq_1 results20) rfl (fun qJ B qX qQ=> ?_);clear qJ;simp only[Am];exact Au (AA e1) Aa (EU vB jW hRb hRc)
theorem YT (gt:GT) (h:OkgT gt) (hs:Fa (AZ gt)) (p1:Ad prog 76 [AD (AZ gt)] (.int .i64 0)) (nt:ByteArray) (hn:nt∈AB (AZ gt)) (w:List ByteArray) (hw:w.length<=64) (l:List Stp) (hl:l.length<=4096) :
  Ad prog 20 [AD (AZ gt),.str nt,Bg w,FN l] (.tup [.bool (Vj (AC (AZ gt)) w&&Bt_ (AZ gt) (Dx gt).1 nt w l),.int .i64 0]):=by
 have e1:=FL 60 62 [.ref [AD (AZ gt)],.ref [.str nt]] [.ref [Bg w],.ref [FN l]] _ _ (Rx (AZ gt) nt 0 p1) (fun _=>Rw w l);have vB:(([0,1]:List Nat)=List.range 2)=True:=eq_true rfl
 have hR:(if BS 0 (AZ gt) nt=0 then (if 64<w.length\/4096<l.length then (3:Int)else 0)else BS 0 (AZ gt) nt)=0:=by
  have hk:BS 0 (AZ gt) nt=0:=by unfold BS;rw[if_pos rfl,if_pos hn]
  rw[if_pos hk,if_neg (by omega)]
 rw[hR]at e1;clear hR;have e2:=Qd gt h hs p1 nt w hw;have hq:=Rp h hn (w:=(Ox (AC (AZ gt)) w).length) (by rw[KX];exact hw);have e3:=He_ (Dx gt).1 (Il (AB (AZ gt)) nt) (Ox (AC (AZ gt)) w) l hq (by rw[KX];exact hw) hl;unfold Bt_;obtain⟨X,hX⟩:∃X,X=(Dx gt).1:=⟨_,rfl⟩;obtain⟨N,hN⟩:∃N,N=Il (AB (AZ gt)) nt:=⟨_,rfl⟩;obtain⟨L,hL⟩:∃L,L=AC (AZ gt):=⟨_,rfl⟩;rw[<-hX,<-hN,<-hL]at e2 e3;rw[<-hX,<-hN,<-hL];clear hq;obtain⟨RB,hRB⟩:∃RB,RB=Kk X N (Ox L w) l:=⟨_,rfl⟩
 rw[<-hRB]at e3 |-;simp only[Av]at e2 e3;refine Ac [] Rh func20 call20 ntmps20 mxd (Aq @Rh.eq_1 results20) rfl (fun qJ B qX qQ=> ?_);clear qJ;simp only[Am];cases hb:Vj L w
 ·rw[hb]at e2;simp only[aU0,if_false]at e2;exact Au (Aq e1 e2) Aa (AA vB)
 ·rw[hb]at e2;simp only[if_true]at e2;exact Au (Ez e1 e2 e3) Aa (AA vB)
end Go.Proofs.Wy
end
section
namespace Go.Proofs.Wy
open Go Go.Dm Tryz
variable [DMode]
structure Fct where
 nt:Int
 fr:Int
 to:Int
 deriving DecidableEq
inductive Dv (c:Cnf) (w:List Int):Fct->Prop
 | nil {p:Prod} {i:Nat}:p∈c.prods->p.body=[]->i<=w.length->Dv c w ⟨p.head,i,i⟩
 | one {p:Prod} {a:Sym} {i:Nat}:p∈c.prods->p.body=[a]->w[i]? =some a.n->Dv c w ⟨p.head,i,(i:Int)+1⟩
 | two {p:Prod} {a b:Sym} {i k j:Int}:p∈c.prods->p.body=[a,b]->Dv c w ⟨a.n,i,k⟩->Dv c w ⟨b.n,k,j⟩->Dv c w ⟨p.head,i,j⟩
def inF (c:Cnf) (w:List Int) (f:Fct):Prop:=0<=f.fr/\f.fr<=f.to/\f.to<=w.length/\∃p∈c.prods,p.head=f.nt
theorem Dv.inF {c:Cnf} {w:List Int} {f:Fct} (h:Dv c w f):inF c w f:=by
 induction h with
 | @nil p i hp hb hi=>exact⟨by simp only;omega,by simp only;omega,by simp only;omega,p,hp,rfl⟩
 | @one p a i hp hb hi =>
  have:=(aB0.1 hi).1;exact⟨by simp only;omega,by simp only;omega,by simp only;omega,p,hp,rfl⟩
 | @two p a b i k j hp hb h1 h2 ih1 ih2 =>
  obtain⟨a1,a2,a3,_⟩:=ih1;obtain⟨b1,b2,b3,_⟩:=ih2;simp only at a1 a2 a3 b1 b2 b3;exact⟨by simp only;omega,by simp only;omega,by simp only;omega,p,hp,rfl⟩
def Hp (r:List Fct) (f:Fct):List Fct:=if f∈r then r else r++[f]
theorem IX {r:List Fct} {f g:Fct}:g∈Hp r f↔g∈r\/g=f:=by
 unfold Hp
 split
 ·rename_i h;exact⟨.inl,fun hh=>hh.elim id fun e=>e▸h⟩
 ·rw[aI0,aG0]
theorem tJ (r:List Fct) (f:Fct):r <+: Hp r f:=by
 unfold Hp
 split
 ·exact List.prefix_refl r
 ·exact List.prefix_append r _
theorem DF_ {r:List Fct} (h:r.Nodup) (f:Fct):(Hp r f).Nodup:=by
 unfold Hp
 split
 ·exact h
 ·rename_i hf;exact bV0.2 ⟨h,by simp,by rintro a ha b hb rfl;simp at hb;subst hb;exact hf ha⟩
structure Grows (T:Fct->Prop) (F:List Fct->List Fct):Prop where
 pre:∀r,r <+: F r
 nd:∀r,r.Nodup->(F r).Nodup
 ok:∀r,(∀f∈r,T f)->∀f∈F r,T f
theorem Grows.id {T:Fct->Prop}:Grows T fun r=>r:=⟨fun r=>List.prefix_refl r,fun _ h=>h,fun _ h=>h⟩
theorem Grows.comp {T:Fct->Prop} {F G:List Fct->List Fct} (hF:Grows T F) (hG:Grows T G):Grows T fun r=>G (F r) :=
 ⟨fun r=>(hF.pre r).trans (hG.pre _),fun r h=>hG.nd _ (hF.nd r h),fun r h=>hG.ok _ (hF.ok r h)⟩
theorem Grows.fold {T:Fct->Prop} {α:Type} {F:List Fct->α->List Fct}:∀{l:List α},(∀x∈l,Grows T fun r=>F r x)->Grows T fun r=>l.foldl F r
 | [],_=>Grows.id
 | x::l,h=>by
  have h1:=h x aE0;have h2:Grows T fun r=>l.foldl F r:=Grows.fold fun y hy=>h y (aC0 _ hy)
  exact Grows.comp h1 h2
theorem Grows.add {T:Fct->Prop} {f:Fct} (h:T f):Grows T fun r=>Hp r f :=
 ⟨fun r=>tJ r f,fun r hr=>DF_ hr f,fun r hr g hg=>(IX.1 hg).elim (hr g) fun e=>e▸h⟩
theorem Iv {T:Fct->Prop} {α:Type} {F:List Fct->α->List Fct} {g f:Fct} {x:α}:∀{l:List α},(∀x∈l,Grows T fun r=>F r x)->x∈l->(∀r,g∈r->f∈F r x)->∀r,g∈r->f∈l.foldl F r
 | y::l,h,hx,hs,r,hg=>by
  have h1:=h y aE0;have h2:Grows T fun r=>l.foldl F r:=Grows.fold fun z hz=>h z (aC0 _ hz)
  rw[cQ0]
  rcases aJ0.1 hx with rfl | hx
  ·exact(h2.pre _).subset (hs r hg)
  ·exact Iv (fun z hz=>h z (aC0 _ hz)) hx hs _ ((h1.pre r).subset hg)
theorem GY {T:Fct->Prop} {α:Type} {F:List Fct->α->List Fct} {f:Fct} {x:α}:∀{l:List α},(∀x∈l,Grows T fun r=>F r x)->x∈l->(∀r,f∈F r x)->∀r,f∈l.foldl F r
 | y::l,h,hx,hs,r=>by
  have h2:Grows T fun r=>l.foldl F r:=Grows.fold fun z hz=>h z (aC0 _ hz)
  rw[cQ0]
  rcases aJ0.1 hx with rfl | hx
  ·exact(h2.pre _).subset (hs r)
  ·exact GY (fun z hz=>h z (aC0 _ hz)) hx hs _
def Po (w:List Int) (r:List Fct) (p:Prod):List Fct :=
 match p.body with
 | []=>(List.range (w.length+1)).foldl (fun r (i:Nat)=>Hp r ⟨p.head,i,i⟩) r
 | [a]=>(List.range w.length).foldl (fun r (i:Nat)=>if w[i]? =some a.n then Hp r ⟨p.head,i,(i:Int)+1⟩else r) r
 | _=>r
def AQ_ (c:Cnf) (w:List Int):List Fct:=c.prods.foldl (Po w) []
theorem MJ {c:Cnf} {w:List Int} {p:Prod} (hp:p∈c.prods):Grows (Dv c w) fun r=>Po w r p:=by
 unfold Po
 split
 ·rename_i hb;exact Grows.fold fun i hi=>Grows.add (Dv.nil hp hb (by have:=cD0.1 hi;omega))
 ·rename_i a hb;refine Grows.fold fun i _=> ?_
  by_cases hc:w[i]? =some a.n
  ·simp only[hc,if_true];exact Grows.add (Dv.one hp hb hc)
  ·simp only[hc,if_false];exact Grows.id
 ·exact Grows.id
def XZ (w:List Int) (p:Prod) (a b:Sym) (f:Fct) (r:List Fct):List Fct :=
 if a.n=f.nt then (List.range (w.length+1-f.to.toNat)).foldl (fun r (k:Nat)=>if (⟨b.n,f.to,f.to+k⟩:Fct)∈r then Hp r ⟨p.head,f.fr,f.to+k⟩else r) r else r
def Pb (p:Prod) (a b:Sym) (f:Fct) (r:List Fct):List Fct :=
 if b.n=f.nt then (List.range (f.fr.toNat+1)).foldl (fun r (k:Nat)=>if (⟨a.n,k,f.fr⟩:Fct)∈r then Hp r ⟨p.head,k,f.to⟩else r) r else r
def jnP (w:List Int) (f:Fct) (r:List Fct) (p:Prod):List Fct :=
 match p.body with
 | [a,b]=>Pb p a b f (XZ w p a b f r)
 | _=>r
def jnF (c:Cnf) (w:List Int) (f:Fct) (r:List Fct):List Fct:=c.prods.foldl (jnP w f) r
theorem Grows.cond {T:Fct->Prop} {g f:Fct} (h:T g->T f):Grows T fun r=>if g∈r then Hp r f else r:=by
 refine⟨fun r=> ?_,fun r hr=> ?_,fun r hr x hx=> ?_⟩
 ·split
  ·exact tJ r f
  ·exact List.prefix_refl r
 ·split
  ·exact DF_ hr f
  ·exact hr
 ·split at hx
  ·rename_i hg;exact(IX.1 hx).elim (hr x) fun e=>e▸h (hr g hg)
  ·exact hr x hx
theorem SS {c:Cnf} {w:List Int} {p:Prod} {a b:Sym} (hp:p∈c.prods) (hb:p.body=[a,b]) {f:Fct} (hf:Dv c w f):Grows (Dv c w) fun r=>XZ w p a b f r:=by
 unfold XZ
 by_cases h:a.n=f.nt
 ·simp only[h,if_true];refine Grows.fold fun k _=>Grows.cond fun hg=> ?_
  exact Dv.two hp hb (by rw[h];exact hf) hg
 ·simp only[h,if_false];exact Grows.id
theorem SR {c:Cnf} {w:List Int} {p:Prod} {a b:Sym} (hp:p∈c.prods) (hb:p.body=[a,b]) {f:Fct} (hf:Dv c w f):Grows (Dv c w) fun r=>Pb p a b f r:=by
 unfold Pb
 by_cases h:b.n=f.nt
 ·simp only[h,if_true];refine Grows.fold fun k _=>Grows.cond fun hg=> ?_
  exact Dv.two hp hb hg (by rw[h];exact hf)
 ·simp only[h,if_false];exact Grows.id
theorem Lm {c:Cnf} {w:List Int} {p:Prod} (hp:p∈c.prods) {f:Fct} (hf:Dv c w f):Grows (Dv c w) fun r=>jnP w f r p:=by
 unfold jnP
 split
 ·rename_i a b hb;exact Grows.comp (SS hp hb hf) (SR hp hb hf)
 ·exact Grows.id
theorem Pc {c:Cnf} {w:List Int} {f:Fct} (hf:Dv c w f):Grows (Dv c w) fun r=>jnF c w f r:=Grows.fold fun _ hp=>Lm hp hf
theorem Ll {T:Fct->Prop} {F:List Fct->List Fct} (h:Grows T F) {r:List Fct} {f:Fct} (hf:f∈r):f∈F r:=(h.pre r).subset hf
theorem Fk_ {c:Cnf} {w:List Int} {p:Prod} {a b:Sym} (hp:p∈c.prods) (hb:p.body=[a,b]) {i k j:Int} (hf:Dv c w ⟨a.n,i,k⟩) (hg:Dv c w ⟨b.n,k,j⟩):∀r,(⟨b.n,k,j⟩:Fct)∈r->(⟨p.head,i,j⟩:Fct)∈jnF c w ⟨a.n,i,k⟩ r:=by
 obtain⟨g1,g2,g3,_⟩:=hg.inF;simp only at g1 g2 g3;refine Iv (T:=Dv c w) (x:=p) (fun x hx=>Lm hx hf) hp fun r hr=> ?_
 unfold jnP;rw[hb];simp only;refine Ll (SR hp hb hf) ?_;unfold XZ;simp only[if_true];have hk:(j-k).toNat∈List.range (w.length+1-k.toNat):=cD0.2 (by omega);refine Iv (T:=Dv c w) (g:=⟨b.n,k,j⟩) (x:=(j-k).toNat) (fun m _=>Grows.cond fun hh=>Dv.two hp hb hf hh) hk (fun r hr=> ?_) r hr;have he:k+((j-k).toNat:Int)=j:=by omega
 simp only[he];rw[if_pos hr];exact IX.2 (.inr rfl)
theorem Af_ {c:Cnf} {w:List Int} {p:Prod} {a b:Sym} (hp:p∈c.prods) (hb:p.body=[a,b]) {i k j:Int} (hf:Dv c w ⟨a.n,i,k⟩) (hg:Dv c w ⟨b.n,k,j⟩):∀r,(⟨a.n,i,k⟩:Fct)∈r->(⟨p.head,i,j⟩:Fct)∈jnF c w ⟨b.n,k,j⟩ r:=by
 obtain⟨g1,g2,g3,_⟩:=hf.inF;simp only at g1 g2 g3;refine Iv (T:=Dv c w) (x:=p) (fun x hx=>Lm hx hg) hp fun r hr=> ?_
 unfold jnP;rw[hb];simp only;have h1:=Ll (SS hp hb hg) hr;unfold Pb;simp only[if_true];have hk:i.toNat∈List.range (k.toNat+1):=cD0.2 (by omega);refine Iv (T:=Dv c w) (g:=⟨a.n,i,k⟩) (x:=i.toNat) (fun m _=>Grows.cond fun hh=>Dv.two hp hb hh hg) hk (fun r hr=> ?_) _ h1;have he:((i.toNat:Nat):Int)=i:=by omega
 simp only[he];rw[if_pos hr];exact IX.2 (.inr rfl)
def UC (c:Cnf) (w:List Int):Nat->Nat->List Fct->List Fct
 | 0,_,r=>r
 | n+1,k,r=>match r[k]? with
  | some f=>UC c w n (k+1) (jnF c w f r)
  | none=>r
structure RowI (c:Cnf) (w:List Int) (k:Nat) (r:List Fct):Prop where
 nd:r.Nodup
 ok:∀f∈r,Dv c w f
 bg:∀f∈AQ_ c w,f∈r
 jn:∀(p:Prod) (a b:Sym) (i m j:Int) (x y:Nat),p∈c.prods->p.body=[a,b]->x<k->y<k->r[x]? =some ⟨a.n,i,m⟩->r[y]? =some ⟨b.n,m,j⟩->(⟨p.head,i,j⟩:Fct)∈r
theorem Mo_ {α:Type} {r q:List α} (h:r <+: q) {x:Nat} (hx:x<r.length):q[x]? =r[x]? :=by
 obtain⟨t,rfl⟩:=h;exact aZ0 hx
theorem Zo {c:Cnf} {w:List Int} {k:Nat} {r:List Fct} (I:RowI c w k r) {f:Fct} (hf:r[k]? =some f):RowI c w (k+1) (jnF c w f r):=by
 have cR:=bH0 hf;have hd:=I.ok f cR;have hG:=Pc hd;have hk:=(aB0.1 hf).1;refine⟨hG.nd r I.nd,hG.ok r I.ok,fun g hg=>Ll hG (I.bg g hg),?_⟩;intro p a b i m j x y hp hb hx hy h1 h2;rw[Mo_ (hG.pre r) (by omega)]at h1 h2;have d1:=I.ok _ (bH0 h1);have d2:=I.ok _ (bH0 h2)
 by_cases hxk:x=k
 ·subst hxk;rw[hf]at h1;rw[Option.some.inj h1]at hd |-;exact Fk_ hp hb d1 d2 r (bH0 h2)
 ·by_cases hyk:y=k
  ·subst hyk;rw[hf]at h2;rw[Option.some.inj h2]at hd |-;exact Af_ hp hb d1 d2 r (bH0 h1)
  ·exact Ll hG (I.jn p a b i m j x y hp hb (by omega) (by omega) h1 h2)
theorem OI (c:Cnf) (w:List Int):RowI c w 0 (AQ_ c w):=by
 have hG:Grows (Dv c w) fun r=>c.prods.foldl (Po w) r:=Grows.fold fun _ hp=>MJ hp
 exact⟨hG.nd [] (by simp),hG.ok [] (by simp),fun _ h=>h,fun _ _ _ _ _ _ x _ _ _ hx=>absurd hx (dU0 _)⟩
theorem Kg_ {c:Cnf} {w:List Int} {r:List Fct} (I:RowI c w r.length r) (f:Fct):f∈r↔Dv c w f:=by
 refine⟨I.ok f,fun h=> ?_⟩;have hG:∀p∈c.prods,Grows (Dv c w) fun r=>Po w r p:=fun _ hp=>MJ hp
 induction h with
 | @nil p i hp hb hi =>
  refine I.bg _ (GY (T:=Dv c w) (x:=p) hG hp (fun r=> ?_) []);unfold Po;rw[hb];exact GY (T:=Dv c w) (x:=i) (fun k hk=>Grows.add (Dv.nil hp hb (by have:=cD0.1 hk;omega))) (cD0.2 (by omega)) (fun r=>IX.2 (.inr rfl)) r
 | @one p a i hp hb hi =>
  refine I.bg _ (GY (T:=Dv c w) (x:=p) hG hp (fun r=> ?_) []);unfold Po;rw[hb];have yO:=(aB0.1 hi).1;refine GY (T:=Dv c w) (x:=i) (fun k _=> ?_) (cD0.2 yO) (fun r=> ?_) r
  ·by_cases hc:w[k]? =some a.n
   ·simp only[hc,if_true];exact Grows.add (Dv.one hp hb hc)
   ·simp only[hc,if_false];exact Grows.id
  ·simp only[hi,if_true];exact IX.2 (.inr rfl)
 | @two p a b i k j hp hb h1 h2 ih1 ih2 =>
  obtain⟨x,hx,e1⟩:=bK0 ih1;obtain⟨y,hy,e2⟩:=bK0 ih2;exact I.jn p a b i k j x y hp hb hx hy (by rw[aH0 hx,e1]) (by rw[aH0 hy,e2])
end Go.Proofs.Wy
end
section
namespace Go.Proofs.Wy
open Go Go.Dm Tryz
attribute [local irreducible] DW Bi Bk
set_option maxRecDepth 100000
def Ap (f:Fct):List DVal:=[.int .i64 f.nt,.int .i64 f.fr,.int .i64 f.to]
def CN (f:Fct):DVal:= .agg (Ap f)
@[simp] theorem KI_ (f:Fct):AR (Ap f)=0:=by simp[Ap,AR,mx]
@[simp] theorem NF_ (l:List Fct):Bx (l.map Ap)=0:=Im _ KI_ l
@[simp] theorem NL_ (l:List Fct):AR (l.map CN)=0:=by induction l<;>simp_all [AR,mx,CN]
theorem Nu (f g:Fct):Du (BH (CN f)) (BH (CN g))=decide (f=g):=by
 obtain⟨a,b,c⟩:=f;obtain⟨a',b',c'⟩:=g;simp[CN,Ap,BH,Du,eqC];rfl
theorem Jp : ∀{r:List Fct} {f:Fct},¬f∈r->AQ (r.map CN) (CN f)=none
 | [],_,_=>rfl
 | x::r,f,h=>by
  rw[List.map_cons,AQ,Nu,decide_eq_false (fun e=>h (by rw[e];exact aE0)),Jp (r:=r) fun hm=>h (aC0 _ hm)];simp
theorem Mt : ∀{r:List Fct} {f:Fct},f∈r->∃i,i<r.length/\AQ (r.map CN) (CN f)=some i
 | x::r,f,h=>by
  rw[List.map_cons,AQ,Nu]
  by_cases he:f=x
  ·rw[decide_eq_true he];exact⟨0,by simp,rfl⟩
  ·obtain⟨i,h1,h2⟩:=Mt ((aJ0.1 h).resolve_left he);rw[decide_eq_false he,h2];exact⟨i+1,by simp;omega,rfl⟩
theorem XX (r:List Fct):(r.map CN).all (Ck prog 140)=true:=by
 induction r with
 | nil=>rfl
 | cons p r ih=>rw[List.map_cons,dB0,ih];simp[CN,Ap]
def DK (v:Nat) (c:Cnf) (w:List Int) (r:List Fct):List Ent:=[⟨0,0,.box [.int .i64 c.nts,BT c.prods,Cg w,.omp 2 0,.osl 1 v]⟩,⟨1,v,.row 140 3 24 (r.map Ap)⟩,⟨2,0,.map (r.map CN) (EJ r.length)⟩]
def Dj_ : Ann:=⟨[],[]⟩
theorem Ny (c:Cnf) (w:List Int) (r:List Fct) (f:Fct):AS prog (.func 98) [.bx 0 0 0,.agg (Ap f)] (DK 0 c w r) (.bool (decide (f∈r))) (DK 0 c w r):=by
 refine Bj [] [(0,0,0),(1,1,0),(2,2,0)] Dj_ func98 call98 ntmps98 mxd (Aq @Dj_.eq_1 results98) rfl (fun qJ B qX qQ=> ?_) (hv:=(by simp[DK]));simp only[Am];have qY:=XX r;have hko:Ck prog 140 (CN f)=true:=by simp[CN,Ap]
 by_cases h:f∈r
 ·obtain⟨i,h1,h2⟩:=Mt h;have h3:=QE h1;simp only[CN,Ap]at h2 qY;rw[decide_eq_true h];exact Au Aa Aa (Ja @DK.eq_1 @Ap.eq_1 qY h2 h3)
 ·have h2:=Jp h;simp only[CN,Ap]at h2 qY;rw[decide_eq_false h];exact Au Aa Aa (EU @DK.eq_1 @Ap.eq_1 qY h2)
def sC : Ann:=⟨[6,25],[⟨3,[],[0],[]⟩]⟩
theorem IW (c:Cnf) (w:List Int) (r:List Fct) (f:Fct) (hb:(r.length+1)*24<=150000000000000):AS prog (.func 260) [.bx 0 0 0,.agg (Ap f)] (DK 0 c w r) (.tup []) (DK 1 c w (Hp r f)):=by
 refine Bj [] [(0,0,0),(1,1,1),(2,2,0)] sC func260 call260 ntmps260 mxd (Aq @sC.eq_1 results260) rfl (fun qJ B qX qQ=> ?_) (hv:=(by simp[DK]));simp only[Am];have e1:=Ny c w r f;have qY:=XX r;unfold Hp
 by_cases h:f∈r
 ·rw[if_pos h];rw[decide_eq_true h]at e1;simp only[Ap]at e1;exact Au Aa (AA (Ee [(0,0),(1,1),(2,2)] [] e1)) (Aq @DK.eq_1 @Ap.eq_1)
 ·rw[if_neg h];rw[decide_eq_false h]at e1;have h2:=Jp h;have hu:=OD r.length;simp only[CN,Ap]at h2 qY;simp only[Ap]at e1;have hz:r.length+1<=9223372036854775807:=by omega
  (refine AM Aa (AA (Ee [(0,0),(1,1),(2,2)] [] e1)) (JT @DK.eq_1 @Ap.eq_1 qY h2 hb hz) ?_;intros;refine Aj ?_)
  exact⟨rfl,hu.symm⟩
end Go.Proofs.Wy
end
section
namespace Go.Proofs.Wy
open Go Go.Dm Tryz
variable [DMode]
def atN (n nt i j:Nat):Nat:=(nt*n+i)*n+j
theorem MU_ {n N nt i j:Nat} (h1:nt<N) (h2:i<n) (h3:j<n):atN n nt i j<N*n*n:=by
 unfold atN
 have e1:nt*n+i+1<=N*n:=by
  have:(nt+1)*n<=N*n:=aS0 n h1;rw[Nat.succ_mul]at this;omega
 have e2:(nt*n+i+1)*n<=N*n*n:=aS0 n e1;rw[Nat.succ_mul]at e2;omega
theorem LA_ {n nt i j nt' i' j':Nat} (h2:i<n) (h3:j<n) (jG:i'<n) (h3':j'<n) (h:atN n nt i j=atN n nt' i' j'):nt=nt'/\i=i'/\j=j':=by
 have hn:0<n:=by omega
 unfold atN at h;have a1:=congrArg (· %n) h;have a2:=congrArg (· /n) h;simp only[Nat.mul_comm _ n,Nat.mul_add_mod]at a1;rw[eM0 h3,eM0 h3']at a1;subst a1
 have b:nt*n+i=nt'*n+i':=by
  have:(nt*n+i)*n=(nt'*n+i')*n:=by omega
  exact Nat.eq_of_mul_eq_mul_right hn this
 have c1:=congrArg (· %n) b;simp only[Nat.mul_comm _ n,Nat.mul_add_mod]at c1;rw[eM0 h2,eM0 jG]at c1;subst c1;have d:nt*n=nt'*n:=by omega
 exact⟨Nat.eq_of_mul_eq_mul_right hn d,rfl,rfl⟩
def tT (K:List Bool) (n nt i j:Nat):Bool:=K.getD (atN n nt i j) false
def Oa_ (w:List Int) (K:List Bool) (body:List Sym) (i j:Nat):Bool :=
 match body with
 | []=>decide (i=j)
 | [a]=>decide (j=i+1)&&decide (w[i]? =some a.n)
 | a::b::_=>(List.range (j+1-i)).any fun d=>tT K (w.length+1) a.n.toNat i (i+d)&&tT K (w.length+1) b.n.toNat (i+d) j
structure SoK (c:Cnf) (w:List Int) (K:List Bool):Prop where
 len:K.length=c.nts.toNat*(w.length+1)*(w.length+1)
 ok:∀nt i j:Nat,nt<c.nts.toNat->i<w.length+1->j<w.length+1->tT K (w.length+1) nt i j=true->Dv c w ⟨nt,i,j⟩
structure OkC (c:Cnf):Prop where
 hd:∀p∈c.prods,0<=p.head/\p.head<c.nts
 sy:∀p∈c.prods,p.body=[]\/(∃a,p.body=[a])\/∃a b,p.body=[a,b]/\0<=a.n/\a.n<c.nts/\0<=b.n/\b.n<c.nts
def Kx_ (K:List Bool):Nat:=(K.filter fun b=> !b).length
theorem Tr : ∀{N:Nat} {l:List Nat},l.Nodup->(∀x∈l,x<N)->l.length<=N
 | 0,l,_,h=>by
  cases l with
  | nil=>simp
  | cons x l=>exact absurd (h x aE0) (dU0 _)
 | N+1,l,hn,h=>by
  by_cases hm:N∈l
  ·have h1:=Tr (N:=N) (hn.erase N) fun x hx=>by
    have h2:=h x (List.mem_of_mem_erase hx)
    have h3:x≠N:=fun e=>by
     subst e;exact(List.Nodup.not_mem_erase hn) hx
    omega
   rw[List.length_erase_of_mem hm]at h1;omega
  ·have h1:=Tr (N:=N) hn fun x hx=>by
    have h2:=h x hx;have h3:x≠N:=fun e=>hm (e▸hx)
    omega
   omega
theorem Kf_ {c:Cnf} {w:List Int} {r:List Fct} (hc:OkC c) (hn:r.Nodup) (hr:∀f∈r,inF c w f):r.length<=c.nts.toNat*(w.length+1)*(w.length+1):=by
 have h0:∀f∈r,0<=f.nt/\f.nt.toNat<c.nts.toNat/\0<=f.fr/\f.fr.toNat<w.length+1/\0<=f.to/\f.to.toNat<w.length+1:=by
  intro f hf;obtain⟨q1,q2,q3,p,hp,q4⟩:=hr f hf;have q5:=hc.hd p hp;omega
 have h1:((r.map fun f=>atN (w.length+1) f.nt.toNat f.fr.toNat f.to.toNat).length)<=c.nts.toNat*(w.length+1)*(w.length+1):=by
  refine Tr (dM0.2 (hn.imp_of_mem fun {f g} hf hg qC he=>qC ?_)) fun x hx=> ?_
  ·obtain⟨f,hf,rfl⟩:=aR0.1 hx;obtain⟨a1,a2,a3,a4,a5,a6⟩:=h0 f hf;exact MU_ a2 a4 a6
  ·obtain⟨a1,a2,a3,a4,a5,a6⟩:=h0 f hf;obtain⟨b1,b2,b3,b4,b5,b6⟩:=h0 g hg;obtain⟨e1,e2,e3⟩:=LA_ a4 a6 b4 b6 he;obtain⟨f1,f2,f3⟩:=f;obtain⟨g1,g2,g3⟩:=g;simp only at a1 a3 a5 b1 b3 b5 e1 e2 e3;rw[Fct.mk.injEq];omega
 rwa[aL0]at h1
end Go.Proofs.Wy
end
section
namespace Go.Proofs.Wy
open Go Go.Dm Tryz
attribute [local irreducible] DW Bi Bk
set_option maxRecDepth 100000
theorem QJ {c:Cnf} {w:List Int} {r:List Fct} (hc:OkC c) (h1:c.nts<=1024) (h2:w.length<=64) (hn:r.Nodup) (hr:∀f∈r,Dv c w f):r.length<=4326400:=by
 have h:=Kf_ hc hn fun f hf=>(hr f hf).inF
 have h3:c.nts.toNat*(w.length+1)<=1024*65:=Nat.mul_le_mul (by omega) (by omega);have h4:c.nts.toNat*(w.length+1)*(w.length+1)<=1024*65*65:=Nat.mul_le_mul h3 (by omega);omega
structure RowG (c:Cnf) (w:List Int) (r:List Fct):Prop where
 nd:r.Nodup
 ok:∀f∈r,Dv c w f
theorem RowG.grow {c:Cnf} {w:List Int} {r:List Fct} (h:RowG c w r) {F:List Fct->List Fct} (hF:Grows (Dv c w) F):RowG c w (F r):=⟨hF.nd r h.nd,hF.ok r h.ok⟩
theorem RowG.fit {c:Cnf} {w:List Int} {r:List Fct} (h:RowG c w r) (hc:OkC c) (h1:c.nts<=1024) (h2:w.length<=64):(r.length+1)*24<=150000000000000:=by
 have:=QJ hc h1 h2 h.nd h.ok;omega
def Ve (h:Int) (i:Nat) (r:List Fct):List Fct:=(List.range i).foldl (fun r (i:Nat)=>Hp r ⟨h,i,i⟩) r
def Ub (w:List Int) (h x:Int) (i:Nat) (r:List Fct):List Fct:=(List.range i).foldl (fun r (i:Nat)=>if w[i]? =some x then Hp r ⟨h,i,(i:Int)+1⟩else r) r
theorem FZ_ (h:Int) (i:Nat) (r:List Fct):Ve h (i+1) r=Hp (Ve h i r) ⟨h,i,i⟩:=by unfold Ve;rw[dF0,cF0];rfl
theorem FY_ (w:List Int) (h x:Int) (i:Nat) (r:List Fct):Ub w h x (i+1) r=if w[i]? =some x then Hp (Ub w h x i r) ⟨h,i,(i:Int)+1⟩else Ub w h x i r:=by unfold Ub;rw[dF0,cF0];rfl
theorem AS_ {c:Cnf} {w:List Int} {p:Prod} (hp:p∈c.prods) (hb:p.body=[]) {i:Nat} (hi:i<=w.length+1):Grows (Dv c w) (Ve p.head i):=by
 unfold Ve;exact Grows.fold fun k hk=>Grows.add (Dv.nil hp hb (by have:=cD0.1 hk;omega))
theorem AR_ {c:Cnf} {w:List Int} {p:Prod} {a:Sym} (hp:p∈c.prods) (hb:p.body=[a]) {i:Nat}:Grows (Dv c w) (Ub w p.head a.n i):=by
 unfold Ub;refine Grows.fold fun k _=> ?_
 by_cases hc:w[k]? =some a.n
 ·simp only[hc,if_true];exact Grows.add (Dv.one hp hb hc)
 ·simp only[hc,if_false];exact Grows.id
def Yv (c:Cnf) (w:List Int) (k:Nat):List Fct:=(c.prods.take k).foldl (Po w) []
theorem Lx_ (c:Cnf) (w:List Int) (k:Nat):RowG c w (Yv c w k):=by
 have hG:Grows (Dv c w) fun r=>(c.prods.take k).foldl (Po w) r:=Grows.fold fun _ hp=>MJ (cG0 hp)
 exact⟨hG.nd [] (by simp),hG.ok [] (by simp)⟩
theorem FX_ {c:Cnf} {w:List Int} {k:Nat} {p:Prod} (h:c.prods[k]? =some p):Yv c w (k+1)=Po w (Yv c w k) p:=by unfold Yv;rw[bF0,h,cF0];rfl
def Yo (q v:Nat) (c:Cnf) (w:List Int) (r:List Fct):List Ent:=[⟨0,0,.box [.int .i64 c.nts,BT c.prods,Cg w,.omp 2 0,.osl q v]⟩,⟨q,v,.row 140 3 24 (r.map Ap)⟩,⟨2,0,.map (r.map CN) (EJ r.length)⟩]
def dTn (c:Cnf) (w:List Int):List Ent:=[⟨0,0,.box [.int .i64 c.nts,BT c.prods,Cg w,.omp 2 0,.nilsl]⟩,⟨2,0,.map [] []⟩]
def sB : Ann:=⟨[37,65],[⟨2,[3],[],[]⟩]⟩
theorem iM (c:Cnf) (w:List Int) (zA:OkC c) (hP:c.prods.length*32<=150000000000000) (hN:c.nts<=1024) (hw:w.length<=64):AS prog (.func 177) [.bx 0 0 0] (dTn c w) (.tup []) (DK 1 c w (AQ_ c w)):=by
 refine Bj [] [(0,0,0),(50,1,1),(2,2,0)] sB func177 call177 ntmps177 mxd (Aq @sB.eq_1 results177) rfl (fun qJ B qX qQ=> ?_) (hv:=(by simp[DK]));simp only[Am]
 (refine AM Aa Aa (AA @dTn.eq_1) ?_;intros;refine Aj ?_)
 refine DY 0 4 50 140 3 24 (by simp) (fun n=> ?_);refine Ak (X:={k:Nat//k<=c.prods.length}) (fun k=>⟨[(0,.bx 0 0 0),(11,BT c.prods),(12,.int .i64 c.prods.length),(13,.int .i64 k.1)],Yo 50 1 c w (Yv c w k.1)⟩) (fun k=>c.prods.length-k.1) ⟨0,by omega⟩ (Sub.lit (by simp[DK,Yo,Yv,EJ])) ?_;rintro⟨k,hk⟩;simp only
 by_cases qV:k<c.prods.length
 ·obtain⟨p,hp,qN,zU⟩:=Aw qV;have hs:=FX_ (w:=w) hp;have hg:=Lx_ c w k;obtain⟨R,hR⟩:∃R,R=Yv c w k:=⟨_,rfl⟩;rw[<-hR]at hs hg |-;have wk:IntKind.i64.wrap ((k:Int)+1)=(k:Int)+1:=wq;obtain⟨hd,body⟩:=p
  match body with
  | [] =>
   have bA:Po w R ⟨hd,[]⟩=Ve hd (w.length+1) R:=rfl;rw[bA]at hs
   (refine AM Aa Aa (Ja @DK.eq_1 @Yo.eq_1 @Ag.eq_1 qV qN) ?_;intros;refine Aj ?_)
   refine Ak (X:={i:Nat//i<=w.length+1}) (fun i=>⟨[(0,.bx 0 0 0),(3,.ref [.int .i64 hd,Br []]),(11,BT c.prods),(12,.int .i64 c.prods.length),(13,.int .i64 k),(27,.int .i64 ((w.length:Int)+1)),(28,.int .i64 i.1)],Yo 50 1 c w (Ve hd i.1 R)⟩) (fun i=>w.length+1-i.1) ⟨0,by omega⟩ (Sub.lit (by simp[DK,Yo,Ve])) ?_;rintro⟨i,hi⟩;simp only
   by_cases vW:i<w.length+1
   ·have fU:=hg.grow (AS_ (i:=i) zU rfl (by omega));have wW:=FZ_ hd i R;simp only at fU;obtain⟨T,hT⟩:∃T,T=Ve hd i R:=⟨_,rfl⟩;rw[<-hT]at fU wW |-;have e1:=IW c w T ⟨hd,i,i⟩ (fU.fit zA hN hw);rw[<-wW]at e1;obtain⟨U,hU⟩:∃U,U=Ve hd (i+1) R:=⟨_,rfl⟩;rw[<-hU]at e1;simp only[Ap]at e1;have kM:(i:Int)<(w.length:Int)+1:=by omega
    (refine AM Aa (AA (Ee [(0,0),(50,1),(2,2)] [] e1)) (Ez @DK.eq_1 @Yo.eq_1 kM) ?_;intros;refine Aj ?_)
    refine Al.mk ⟨i+1,by omega⟩ (Sub.lit (by simp[DK,Yo,<-hU])) (by simp;omega)
    skip
   ·have qZ:i=w.length+1:=by omega
    subst qZ;rw[<-hs]
    (refine AM Aa Aa (AA wk) ?_;intros;refine Aj ?_)
    refine Al.mk ⟨k+1,by omega⟩ (Sub.lit (by simp[DK,Yo,wk])) (by simp;omega)
    skip
  | [a] =>
   have bA:Po w R ⟨hd,[a]⟩=Ub w hd a.n w.length R:=rfl;rw[bA]at hs
   (refine AM Aa Aa (Ja @DK.eq_1 @Yo.eq_1 @Ag.eq_1 qV qN) ?_;intros;refine Aj ?_)
   refine Ak (X:={i:Nat//i<=w.length}) (fun i=>⟨[(0,.bx 0 0 0),(3,.ref [.int .i64 hd,Br [a]]),(11,BT c.prods),(12,.int .i64 c.prods.length),(13,.int .i64 k),(44,Cg w),(45,.int .i64 w.length),(46,.int .i64 i.1)],Yo 50 1 c w (Ub w hd a.n i.1 R)⟩) (fun i=>w.length-i.1) ⟨0,by omega⟩ (Sub.lit (by simp[DK,Yo,Ub])) ?_;rintro⟨i,hi⟩;simp only
   by_cases vW:i<w.length
   ·obtain⟨x,hx,qG,_⟩:=Aw vW;have fU:=hg.grow (AR_ (i:=i) zU rfl);have wW:=FY_ w hd a.n i R;simp only at fU;rw[hx]at wW;obtain⟨T,hT⟩:∃T,T=Ub w hd a.n i R:=⟨_,rfl⟩;rw[<-hT]at fU wW |-;obtain⟨U,hU⟩:∃U,U=Ub w hd a.n (i+1) R:=⟨_,rfl⟩;rw[<-hU]at wW
    by_cases bZ:x=a.n
    ·have e1:=IW c w T ⟨hd,i,(i:Int)+1⟩ (fU.fit zA hN hw);rw[if_pos (by rw[bZ])]at wW;rw[<-wW]at e1;simp only[Ap]at e1
     (refine AM Aa (AA (Ee [(0,0),(50,1),(2,2)] [] e1)) (ML @DK.eq_1 @Yo.eq_1 @Az.eq_1 @Cl.eq_1 vW hx qG bZ) ?_;intros;refine Aj ?_)
     refine Al.mk ⟨i+1,by omega⟩ (Sub.lit (by simp[DK,Yo,<-hU])) (by simp;omega)
     skip
    ·rw[if_neg (fun hh=>bZ (Option.some.inj hh))]at wW;have cF:(x==a.n)=false:=by simpa using bZ
     (refine AM Aa Aa (YC @DK.eq_1 @Yo.eq_1 @Az.eq_1 @Cl.eq_1 vW hx qG bZ cF) ?_;intros;refine Aj ?_)
     refine Al.mk ⟨i+1,by omega⟩ (Sub.lit (by simp[DK,Yo,<-hU,wW])) (by simp;omega)
     skip
   ·have qZ:i=w.length:=by omega
    subst qZ;rw[<-hs]
    (refine AM Aa Aa (AA wk) ?_;intros;refine Aj ?_)
    refine Al.mk ⟨k+1,by omega⟩ (Sub.lit (by simp[DK,Yo,wk])) (by simp;omega)
    skip
  | a::b::l =>
   have bA:Po w R ⟨hd,a::b::l⟩=R:=rfl;rw[bA]at hs;have q0:¬(l.length:Int)+1+1=0:=by omega
   have q0b:((l.length:Int)+1+1==0)=false:=by simpa using q0
   have q1:¬(l.length:Int)+1+1=1:=by omega
   have q1b:((l.length:Int)+1+1==1)=false:=by simpa using q1
   (refine AM Aa Aa (MM @DK.eq_1 @Yo.eq_1 @Ag.eq_1 qV qN q0 q0b q1 q1b wk) ?_;intros;refine Aj ?_)
   refine Al.mk ⟨k+1,by omega⟩ (Sub.lit (by simp[DK,Yo,hs,wk])) (by simp;omega)
   skip
 ·have qZ:k=c.prods.length:=by omega
  subst qZ;have he:Yv c w c.prods.length=AQ_ c w:=by unfold Yv;rw[aY0];rfl
  rw[he];exact Au Aa Aa (Aq @DK.eq_1 @Yo.eq_1)
def jA (h bn:Int) (f:Fct) (i:Nat) (r:List Fct):List Fct:=(List.range i).foldl (fun r (k:Nat)=>if (⟨bn,f.to,f.to+k⟩:Fct)∈r then Hp r ⟨h,f.fr,f.to+k⟩else r) r
def jB (h an:Int) (f:Fct) (i:Nat) (r:List Fct):List Fct:=(List.range i).foldl (fun r (k:Nat)=>if (⟨an,k,f.fr⟩:Fct)∈r then Hp r ⟨h,k,f.to⟩else r) r
theorem KR_ (h bn:Int) (f:Fct) (i:Nat) (r:List Fct):jA h bn f (i+1) r=if (⟨bn,f.to,f.to+i⟩:Fct)∈jA h bn f i r then Hp (jA h bn f i r) ⟨h,f.fr,f.to+i⟩else jA h bn f i r:=by unfold jA;rw[dF0,cF0];rfl
theorem Cl_ (h an:Int) (f:Fct) (i:Nat) (r:List Fct):jB h an f (i+1) r=if (⟨an,i,f.fr⟩:Fct)∈jB h an f i r then Hp (jB h an f i r) ⟨h,i,f.to⟩else jB h an f i r:=by unfold jB;rw[dF0,cF0];rfl
theorem eC {c:Cnf} {w:List Int} {p:Prod} {a b:Sym} (hp:p∈c.prods) (hb:p.body=[a,b]) {f:Fct} (hf:Dv c w f) (he:a.n=f.nt) {i:Nat}:Grows (Dv c w) (jA p.head b.n f i):=by
 unfold jA;refine Grows.fold fun k _=>Grows.cond fun hg=> ?_
 exact Dv.two hp hb (by rw[he];exact hf) hg
theorem eB {c:Cnf} {w:List Int} {p:Prod} {a b:Sym} (hp:p∈c.prods) (hb:p.body=[a,b]) {f:Fct} (hf:Dv c w f) (he:b.n=f.nt) {i:Nat}:Grows (Dv c w) (jB p.head a.n f i):=by
 unfold jB;refine Grows.fold fun k _=>Grows.cond fun hg=> ?_
 exact Dv.two hp hb hg (by rw[he];exact hf)
def jnT (c:Cnf) (w:List Int) (f:Fct) (R:List Fct) (k:Nat):List Fct:=(c.prods.take k).foldl (jnP w f) R
theorem MH_ {c:Cnf} {w:List Int} {f:Fct} (hf:Dv c w f) {R:List Fct} (hg:RowG c w R) (k:Nat):RowG c w (jnT c w f R k):=by
 have hG:Grows (Dv c w) fun r=>(c.prods.take k).foldl (jnP w f) r:=Grows.fold fun _ hp=>Lm (cG0 hp) hf
 exact hg.grow hG
theorem Im_ {c:Cnf} {w:List Int} {f:Fct} {R:List Fct} {k:Nat} {p:Prod} (h:c.prods[k]? =some p):jnT c w f R (k+1)=jnP w f (jnT c w f R k) p:=by unfold jnT;rw[bF0,h,cF0];rfl
def JG (c:Cnf) (f:Fct) (k:Nat):List (Nat×DVal):=[(0,.bx 0 0 0),(3,.ref (Ap f)),(12,BT c.prods),(13,.int .i64 c.prods.length),(14,.int .i64 k)]
def sA : Ann:=⟨[51,59,84,92],[⟨3,[5],[],[]⟩]⟩
theorem AC_ (c:Cnf) (w:List Int) (f:Fct) (R0:List Fct) (zA:OkC c) (hP:c.prods.length*32<=150000000000000) (hN:c.nts<=1024) (hw:w.length<=64) (hf:Dv c w f) (hg0:RowG c w R0):AS prog (.func 178) [.bx 0 0 0,.agg (Ap f)] (DK 0 c w R0) (.tup []) (DK 1 c w (jnF c w f R0)):=by
 refine Bj [] [(0,0,0),(1,1,1),(2,2,0)] sA func178 call178 ntmps178 mxd (Aq @sA.eq_1 results178) rfl (fun qJ B qX qQ=> ?_) (hv:=(by simp[DK]));simp only[Am];clear qJ;obtain⟨f1,f2,f3,_⟩:=hf.inF;obtain⟨fn,ff,ft⟩:=f;obtain⟨u,rfl⟩:=Int.eq_ofNat_of_zero_le (show 0<=ff from f1);obtain⟨v,rfl⟩:=Int.eq_ofNat_of_zero_le (show 0<=ft from Int.le_trans f1 f2);simp only at f1 f2 f3
 (refine AM Aa Aa (Aq @DK.eq_1 @Ap.eq_1) ?_;intros;refine Aj ?_)
 refine Ak (X:={k:Nat//k<=c.prods.length}) (fun k=>⟨JG c ⟨fn,u,v⟩ k.1,DK 1 c w (jnT c w ⟨fn,u,v⟩ R0 k.1)⟩) (fun k=>c.prods.length-k.1) ⟨0,by omega⟩ (Sub.lit (by simp[DK,JG,jnT,Ap])) ?_;rintro⟨k,hk⟩;simp only
 by_cases qV:k<c.prods.length
 ·obtain⟨p,hp,qN,zU⟩:=Aw qV;have hs:=Im_ (w:=w) (f:=⟨fn,u,v⟩) (R:=R0) hp;have hg:=MH_ hf hg0 k;have wk:IntKind.i64.wrap ((k:Int)+1)=(k:Int)+1:=wq;obtain⟨R,hR⟩:∃R,R=jnT c w ⟨fn,u,v⟩ R0 k:=⟨_,rfl⟩;rw[<-hR]at hs hg |-;obtain⟨hd,body⟩:=p
  match body with
  | [] =>
   have bA:jnP w ⟨fn,u,v⟩ R ⟨hd,[]⟩=R:=rfl;rw[bA]at hs
   (refine AM Aa Aa (JB @DK.eq_1 @JG.eq_1 @Ap.eq_1 @Ag.eq_1 qV qN wk) ?_;intros;refine Aj ?_)
   refine Al.mk ⟨k+1,by omega⟩ (Sub.lit (by simp[DK,JG,Ap,hs,wk])) (by simp;omega)
   skip
  | [x] =>
   have bA:jnP w ⟨fn,u,v⟩ R ⟨hd,[x]⟩=R:=rfl;rw[bA]at hs
   (refine AM Aa Aa (JB @DK.eq_1 @JG.eq_1 @Ap.eq_1 @Ag.eq_1 qV qN wk) ?_;intros;refine Aj ?_)
   refine Al.mk ⟨k+1,by omega⟩ (Sub.lit (by simp[DK,JG,Ap,hs,wk])) (by simp;omega)
   skip
  | x::y::z::l =>
   have bA:jnP w ⟨fn,u,v⟩ R ⟨hd,x::y::z::l⟩=R:=rfl;rw[bA]at hs;have q0:¬(l.length:Int)+1+1+1=2:=by omega
   have q0b:((l.length:Int)+1+1+1 != 2)=true:=by simpa using q0
   (refine AM Aa Aa (YC @DK.eq_1 @JG.eq_1 @Ap.eq_1 @Ag.eq_1 qV qN q0 q0b wk) ?_;intros;refine Aj ?_)
   refine Al.mk ⟨k+1,by omega⟩ (Sub.lit (by simp[DK,JG,Ap,hs,wk])) (by simp;omega)
   skip
  | [a,b] =>
   have bA:jnP w ⟨fn,u,v⟩ R ⟨hd,[a,b]⟩=Pb ⟨hd,[a,b]⟩ a b ⟨fn,u,v⟩ (XZ w ⟨hd,[a,b]⟩ a b ⟨fn,u,v⟩ R):=rfl;rw[bA]at hs;clear bA
   by_cases ha:a.n=fn
   ·have has:XZ w ⟨hd,[a,b]⟩ a b ⟨fn,u,v⟩ R=jA hd b.n ⟨fn,u,v⟩ (w.length+1-v) R:=by unfold XZ;simp only;rw[if_pos ha];rfl
    rw[has]at hs;clear has;have mH:(a.n==fn)=true:=by simpa using ha
    have hv:v<=w.length:=by omega
    (refine AM Aa Aa (YC @DK.eq_1 @JG.eq_1 @Ap.eq_1 @Ag.eq_1 @Az.eq_1 qV qN ha mH) ?_;intros;refine Aj ?_)
    refine Ak (X:={i:Nat//i<=w.length+1-v}) (fun i=>⟨(5,.ref [.int .i64 hd,Br [a,b]])::(6,.int .i64 ((v:Int)+(i.1:Int)))::JG c ⟨fn,u,v⟩ k,DK 1 c w (jA hd b.n ⟨fn,u,v⟩ i.1 R)⟩) (fun i=>w.length+1-v-i.1) ⟨0,by omega⟩ (Sub.lit (by simp[DK,JG,Ap,jA])) ?_;rintro⟨i,hi⟩;simp only
    by_cases vW:i<w.length+1-v
    ·have fU:=hg.grow (eC (p:=⟨hd,[a,b]⟩) (i:=i) zU rfl hf ha);have qL:=KR_ hd b.n ⟨fn,u,v⟩ i R;simp only at fU qL;obtain⟨T,hT⟩:∃T,T=jA hd b.n ⟨fn,u,v⟩ i R:=⟨_,rfl⟩;rw[<-hT]at fU qL |-;obtain⟨U,hU⟩:∃U,U=jA hd b.n ⟨fn,u,v⟩ (i+1) R:=⟨_,rfl⟩;rw[<-hU]at qL;have kM:(v:Int)+(i:Int)<=(w.length:Int):=by omega
     have wi:IntKind.i64.wrap ((v:Int)+(i:Int)+1)=(v:Int)+((i:Int)+1):=by rw[wq];omega
     have e0:=Ny c w T ⟨b.n,v,(v:Int)+(i:Int)⟩
     by_cases vV:(⟨b.n,(v:Int),(v:Int)+(i:Int)⟩:Fct)∈T
     ·rw[if_pos vV]at qL;rw[decide_eq_true vV]at e0;have e1:=IW c w T ⟨hd,u,(v:Int)+(i:Int)⟩ (fU.fit zA hN hw);rw[<-qL]at e1;simp only[Ap]at e0 e1
      (refine AM Aa (Aq (Ee [(0,0),(1,1),(2,2)] [] e0) (Ee [(0,0),(1,1),(2,2)] [] e1)) (JT @DK.eq_1 @JG.eq_1 @Ap.eq_1 @Az.eq_1 kM wi) ?_;intros;refine Aj ?_)
      refine Al.mk ⟨i+1,by omega⟩ (Sub.lit (by simp[DK,JG,Ap,<-hU,wi])) (by simp;omega)
      skip
     ·rw[if_neg vV]at qL;rw[decide_eq_false vV]at e0;simp only[Ap]at e0
      (refine AM Aa (AA (Ee [(0,0),(1,1),(2,2)] [] e0)) (JT @DK.eq_1 @JG.eq_1 @Ap.eq_1 @Az.eq_1 kM wi) ?_;intros;refine Aj ?_)
      refine Al.mk ⟨i+1,by omega⟩ (Sub.lit (by simp[DK,JG,Ap,<-hU,qL,wi])) (by simp;omega)
      skip
    ·have qZ:i=w.length+1-v:=by omega
     subst qZ;have wP:=hg.grow (eC (p:=⟨hd,[a,b]⟩) (i:=w.length+1-v) zU rfl hf ha);simp only at wP;obtain⟨R1,mR⟩:∃R1,R1=jA hd b.n ⟨fn,u,v⟩ (w.length+1-v) R:=⟨_,rfl⟩;rw[<-mR]at wP hs |-;have wY:¬(v:Int)+((w.length+1-v:Nat):Int)<=(w.length:Int):=by omega
     by_cases hb:b.n=fn
     ·have wW:Pb ⟨hd,[a,b]⟩ a b ⟨fn,u,v⟩ R1=jB hd a.n ⟨fn,u,v⟩ (u+1) R1:=by unfold Pb;simp only;rw[if_pos hb];rfl
      rw[wW]at hs;clear wW;have jZ:(b.n==fn)=true:=by simpa using hb
      (refine AM Aa Aa (MM @DK.eq_1 @JG.eq_1 @Ap.eq_1 @Ag.eq_1 @Az.eq_1 qV qN wY hb jZ) ?_;intros;refine Aj ?_)
      refine Ak (X:={i:Nat//i<=u+1}) (fun i=>⟨(5,.ref [.int .i64 hd,Br [a,b]])::(70,.int .i64 ((u:Int)+1))::(71,.int .i64 i.1)::JG c ⟨fn,u,v⟩ k,DK 1 c w (jB hd a.n ⟨fn,u,v⟩ i.1 R1)⟩) (fun i=>u+1-i.1) ⟨0,by omega⟩ (Sub.lit (by simp[DK,JG,Ap,jB])) ?_;rintro⟨i,hi⟩;simp only
      by_cases vW:i<u+1
      ·have fU:=wP.grow (eB (p:=⟨hd,[a,b]⟩) (i:=i) zU rfl hf hb);have qL:=Cl_ hd a.n ⟨fn,u,v⟩ i R1;simp only at fU qL;obtain⟨T,hT⟩:∃T,T=jB hd a.n ⟨fn,u,v⟩ i R1:=⟨_,rfl⟩;rw[<-hT]at fU qL |-;obtain⟨U,hU⟩:∃U,U=jB hd a.n ⟨fn,u,v⟩ (i+1) R1:=⟨_,rfl⟩;rw[<-hU]at qL;have kM:(i:Int)<(u:Int)+1:=by omega
       have e0:=Ny c w T ⟨a.n,i,u⟩
       by_cases vV:(⟨a.n,(i:Int),(u:Int)⟩:Fct)∈T
       ·rw[if_pos vV]at qL;rw[decide_eq_true vV]at e0;have e1:=IW c w T ⟨hd,i,v⟩ (fU.fit zA hN hw);rw[<-qL]at e1;simp only[Ap]at e0 e1
        (refine AM Aa (Aq (Ee [(0,0),(1,1),(2,2)] [] e0) (Ee [(0,0),(1,1),(2,2)] [] e1)) (Ja @DK.eq_1 @JG.eq_1 @Ap.eq_1 @Az.eq_1 kM) ?_;intros;refine Aj ?_)
        refine Al.mk ⟨i+1,by omega⟩ (Sub.lit (by simp[DK,JG,Ap,<-hU])) (by simp;omega)
        skip
       ·rw[if_neg vV]at qL;rw[decide_eq_false vV]at e0;simp only[Ap]at e0
        (refine AM Aa (AA (Ee [(0,0),(1,1),(2,2)] [] e0)) (Ja @DK.eq_1 @JG.eq_1 @Ap.eq_1 @Az.eq_1 kM) ?_;intros;refine Aj ?_)
        refine Al.mk ⟨i+1,by omega⟩ (Sub.lit (by simp[DK,JG,Ap,<-hU,qL])) (by simp;omega)
        skip
      ·have qZ:i=u+1:=by omega
       subst qZ;rw[<-hs]
       (refine AM Aa Aa (Ez @JG.eq_1 @Ap.eq_1 wk) ?_;intros;refine Aj ?_)
       refine Al.mk ⟨k+1,by omega⟩ (Sub.lit (by simp[DK,JG,Ap,wk])) (by simp;omega)
       skip
     ·have wW:Pb ⟨hd,[a,b]⟩ a b ⟨fn,u,v⟩ R1=R1:=by unfold Pb;rw[if_neg hb]
      rw[wW]at hs;clear wW;have jZ:(b.n==fn)=false:=by simpa using hb
      (refine AM Aa Aa (Pu @DK.eq_1 @JG.eq_1 @Ap.eq_1 @Ag.eq_1 @Az.eq_1 qV qN wY hb jZ wk) ?_;intros;refine Aj ?_)
      refine Al.mk ⟨k+1,by omega⟩ (Sub.lit (by simp[DK,JG,Ap,hs,wk])) (by simp;omega)
      skip
   ·have has:XZ w ⟨hd,[a,b]⟩ a b ⟨fn,u,v⟩ R=R:=by unfold XZ;rw[if_neg ha]
    rw[has]at hs;clear has;have mH:(a.n==fn)=false:=by simpa using ha
    have wP:=hg;obtain⟨R1,mR⟩:∃R1,R1=R:=⟨_,rfl⟩;rw[<-mR]at wP hs |-
    by_cases hb:b.n=fn
    ·have wW:Pb ⟨hd,[a,b]⟩ a b ⟨fn,u,v⟩ R1=jB hd a.n ⟨fn,u,v⟩ (u+1) R1:=by unfold Pb;simp only;rw[if_pos hb];rfl
     rw[wW]at hs;clear wW;have jZ:(b.n==fn)=true:=by simpa using hb
     (refine AM Aa Aa (Pu @DK.eq_1 @JG.eq_1 @Ap.eq_1 @Ag.eq_1 @Az.eq_1 qV qN ha mH hb jZ) ?_;intros;refine Aj ?_)
     refine Ak (X:={i:Nat//i<=u+1}) (fun i=>⟨(5,.ref [.int .i64 hd,Br [a,b]])::(70,.int .i64 ((u:Int)+1))::(71,.int .i64 i.1)::JG c ⟨fn,u,v⟩ k,DK 1 c w (jB hd a.n ⟨fn,u,v⟩ i.1 R1)⟩) (fun i=>u+1-i.1) ⟨0,by omega⟩ (Sub.lit (by simp[DK,JG,Ap,jB])) ?_;rintro⟨i,hi⟩;simp only
     by_cases vW:i<u+1
     ·have fU:=wP.grow (eB (p:=⟨hd,[a,b]⟩) (i:=i) zU rfl hf hb);have qL:=Cl_ hd a.n ⟨fn,u,v⟩ i R1;simp only at fU qL;obtain⟨T,hT⟩:∃T,T=jB hd a.n ⟨fn,u,v⟩ i R1:=⟨_,rfl⟩;rw[<-hT]at fU qL |-;obtain⟨U,hU⟩:∃U,U=jB hd a.n ⟨fn,u,v⟩ (i+1) R1:=⟨_,rfl⟩;rw[<-hU]at qL;have kM:(i:Int)<(u:Int)+1:=by omega
      have e0:=Ny c w T ⟨a.n,i,u⟩
      by_cases vV:(⟨a.n,(i:Int),(u:Int)⟩:Fct)∈T
      ·rw[if_pos vV]at qL;rw[decide_eq_true vV]at e0;have e1:=IW c w T ⟨hd,i,v⟩ (fU.fit zA hN hw);rw[<-qL]at e1;simp only[Ap]at e0 e1
       (refine AM Aa (Aq (Ee [(0,0),(1,1),(2,2)] [] e0) (Ee [(0,0),(1,1),(2,2)] [] e1)) (Ja @DK.eq_1 @JG.eq_1 @Ap.eq_1 @Az.eq_1 kM) ?_;intros;refine Aj ?_)
       refine Al.mk ⟨i+1,by omega⟩ (Sub.lit (by simp[DK,JG,Ap,<-hU])) (by simp;omega)
       skip
      ·rw[if_neg vV]at qL;rw[decide_eq_false vV]at e0;simp only[Ap]at e0
       (refine AM Aa (AA (Ee [(0,0),(1,1),(2,2)] [] e0)) (Ja @DK.eq_1 @JG.eq_1 @Ap.eq_1 @Az.eq_1 kM) ?_;intros;refine Aj ?_)
       refine Al.mk ⟨i+1,by omega⟩ (Sub.lit (by simp[DK,JG,Ap,<-hU,qL])) (by simp;omega)
       skip
     ·have qZ:i=u+1:=by omega
      subst qZ;rw[<-hs]
      (refine AM Aa Aa (Ez @JG.eq_1 @Ap.eq_1 wk) ?_;intros;refine Aj ?_)
      refine Al.mk ⟨k+1,by omega⟩ (Sub.lit (by simp[DK,JG,Ap,wk])) (by simp;omega)
      skip
    ·have wW:Pb ⟨hd,[a,b]⟩ a b ⟨fn,u,v⟩ R1=R1:=by unfold Pb;rw[if_neg hb]
     rw[wW]at hs;clear wW;have jZ:(b.n==fn)=false:=by simpa using hb
     (refine AM Aa Aa (Be_ @DK.eq_1 @JG.eq_1 @Ap.eq_1 @Ag.eq_1 @Az.eq_1 qV qN ha mH hb jZ wk) ?_;intros;refine Aj ?_)
     refine Al.mk ⟨k+1,by omega⟩ (Sub.lit (by simp[DK,JG,Ap,hs,wk])) (by simp;omega)
     skip
 ·have qZ:k=c.prods.length:=by omega
  subst qZ;have he:jnT c w ⟨fn,u,v⟩ R0 c.prods.length=jnF c w ⟨fn,u,v⟩ R0:=by unfold jnT;rw[aY0];rfl
  rw[he];exact Au Aa Aa (Aq @DK.eq_1 @JG.eq_1)
def Df (c:Cnf) (w:List Int) (r:List Fct):DVal:= .ref [.int .i64 c.nts,BT c.prods,Cg w,.mp (r.map CN) (EJ r.length),.sl 3 24 (r.map Ap)]
def Dh_ : Ann:=⟨[],[]⟩
theorem VX (c:Cnf) (w:List Int) (r:List Fct) (f:Fct):Ad prog 98 [Df c w r,.agg (Ap f)] (.bool (decide (f∈r))):=by
 refine Ac [] Dh_ func98 call98 ntmps98 mxd (Aq @Dh_.eq_1 results98) rfl (fun qJ B qX qQ=> ?_);clear qJ;simp only[Am];have qY:=XX r
 by_cases h:f∈r
 ·obtain⟨i,h1,h2⟩:=Mt h;have h3:=QE h1;simp only[CN,Ap]at h2 qY;rw[decide_eq_true h];exact Au Aa Aa (Ja @Df.eq_1 @Ap.eq_1 qY h2 h3)
 ·have h2:=Jp h;simp only[CN,Ap]at h2 qY;rw[decide_eq_false h];exact Au Aa Aa (EU @Df.eq_1 @Ap.eq_1 qY h2)
theorem Bx_ {c:Cnf} {w:List Int} {n k:Nat} {r:List Fct} {f:Fct} (h:r[k]? =some f):UC c w (n+1) k r=UC c w n (k+1) (jnF c w f r):=by rw[UC,h]
theorem YX {c:Cnf} {w:List Int} {n k:Nat} {r:List Fct} (h:r.length<=k):UC c w n k r=r:=by
 cases n with
 | zero=>rfl
 | succ n=>rw[UC,eI0 h]
def HP (c:Cnf) (w:List Int):List Fct:=UC c w 4326401 0 (AQ_ c w)
theorem WY {c:Cnf} {w:List Int} (zA:OkC c) (hN:c.nts<=1024) (hw:w.length<=64):∀(n k:Nat) (r:List Fct),RowI c w k r->k<=r.length->4326401<=n+k->RowI c w (UC c w n k r).length (UC c w n k r)
 | 0,k,r,I,hk,hn=>by
  have:=QJ zA hN hw I.nd I.ok;omega
 | n+1,k,r,I,hk,hn=>by
  cases hr:r[k]? with
  | some f =>
   rw[Bx_ hr];have hl:=(aB0.1 hr).1;have hp:=((Pc (I.ok f (bH0 hr))).pre r).length_le;exact WY zA hN hw n (k+1) _ (Zo I hr) (by omega) (by omega)
  | none =>
   have hl:=List.getElem?_eq_none_iff.1 hr;have:k=r.length:=by omega
   subst this;rw[YX (Nat.le_refl _)];exact I
theorem JC_ {c:Cnf} {w:List Int} (zA:OkC c) (hN:c.nts<=1024) (hw:w.length<=64) (f:Fct):f∈HP c w↔Dv c w f :=
 Kg_ (WY zA hN hw 4326401 0 _ (OI c w) (cH0 _) (by omega)) f
theorem RowI.g {c:Cnf} {w:List Int} {k:Nat} {r:List Fct} (I:RowI c w k r):RowG c w r:=⟨I.nd,I.ok⟩
def dTw (c:Cnf) (w:List Int) (r:List Fct):List Ent:=[⟨11,1,.box [.int .i64 c.nts,BT c.prods,Cg w,.omp 9 1,.osl 50 1]⟩,⟨50,1,.row 140 3 24 (r.map Ap)⟩,⟨9,1,.map (r.map CN) (EJ r.length)⟩]
def Di_ : Ann:=⟨[9,11,13,31],[]⟩
theorem PC (c:Cnf) (w:List Int) (zA:OkC c) (hP:c.prods.length*32<=150000000000000) (hN:c.nts<=1024) (hw:w.length<=64):Ad prog 97 [.agg (Av c),Cg w] (Df c w (HP c w)):=by
 refine Ac [50,9,11] Di_ func97 call97 ntmps97 mxd (Aq @Di_.eq_1 results97) rfl (fun qJ B qX qQ=> ?_) (hd:=(by simp[mx,Df]));clear qJ;simp only[Am];have e1:=iM c w zA hP hN hw;simp only[dTn]at e1
 (refine AM Aa (AA (Ee [(11,0),(9,2)] [(50,1)] e1)) (Aq @Av.eq_1 @DK.eq_1) ?_;intros;refine Aj ?_)
 have qL:RowI c w 0 (AQ_ c w):=OI c w;refine Ak (X:={x:Nat×List Fct//RowI c w x.1 x.2/\x.1<=x.2.length/\UC c w (4326401-x.1) x.1 x.2=HP c w}) (fun x=>⟨[(5,.bx 11 1 0),(6,.int .i64 x.1.1)],dTw c w x.1.2⟩) (fun x=>4326401-x.1.1) ⟨(0,AQ_ c w),qL,cH0 _,rfl⟩ (Sub.lit (by simp[dTw])) ?_;rintro⟨⟨k,r⟩,I,hk,hA⟩;simp only at I hk hA |-;have vZ:=QJ zA hN hw I.nd I.ok
 by_cases qV:k<r.length
 ·obtain⟨f,hf,hf',cR⟩:=Aw qV;have hd:=I.ok f cR;have e2:=AC_ c w f r zA hP hN hw hd I.g;rw[show 4326401-k=(4326400-k)+1 by omega,Bx_ hf]at hA;have hI2:=Zo I hf;have hp:=((Pc hd).pre r).length_le;have wk:IntKind.i64.wrap ((k:Int)+1)=(k:Int)+1:=wq;obtain⟨U,hU⟩:∃U,U=jnF c w f r:=⟨_,rfl⟩;rw[<-hU]at e2 hA hI2 hp;simp only[DK,Ap]at e2
  (refine AM Aa (AA (Ee [(11,0),(50,1),(9,2)] [] e2)) (JB @dTw.eq_1 @DK.eq_1 @Ap.eq_1 qV hf hf' wk) ?_;intros;refine Aj ?_)
  refine Al.mk ⟨(k+1,U),hI2,by simp only;omega,by rw[show 4326401-(k+1)=4326400-k by omega];exact hA⟩ (Sub.lit (by simp[dTw,wk])) (by simp;omega)
  skip
 ·have qZ:k=r.length:=by omega
  rw[YX (by omega)]at hA;subst hA;subst qZ;exact Au Aa Aa (Aq @dTw.eq_1 @Df.eq_1)
end Go.Proofs.Wy
end
section
namespace Go.Proofs.Wy
open Go Go.Dm Tryz
variable [DMode]
def Oj_ (c:Cnf) (w:List Int) (K:List Bool) (p i j:Nat):Prop:=∀(p' i' j':Nat) (q:Prod),(p'<p\/p'=p/\(i'<i\/i'=i/\j'<j))->c.prods[p']? =some q->i'<=j'->j'<w.length+1->Oa_ w K q.body i' j'=true->tT K (w.length+1) q.head.toNat i' j'=true
structure PassI (c:Cnf) (w:List Int) (K0 K:List Bool) (m:Bool) (p i j:Nat):Prop where
 so:SoK c w K
 le:Kx_ K<=Kx_ K0
 lt:m=true->Kx_ K<Kx_ K0
 eq:m=false->K=K0/\Oj_ c w K0 p i j
end Go.Proofs.Wy
end
section
namespace Go.Proofs.Wy
open Go Go.Dm Tryz
attribute [local irreducible] DW Bi Bk
set_option maxRecDepth 100000


theorem xM {c:Cnf} (h1:BK c=true) (h2:∀p∈c.prods,AO p.body≠0):OkC c:=by
 obtain⟨_,h3⟩:=CP.1 h1;refine⟨fun p hp=>(h3 p hp).1,fun p hp=> ?_⟩;have hs:=(h3 p hp).2
 by_cases hf:AO p.body=1\/AO p.body=2
 ·rcases Fw_ hf with e | ⟨n,e⟩
  ·exact .inl e
  ·exact .inr (.inl ⟨_,e⟩)
 ·obtain⟨a,b,e⟩:=LT_ (h2 p hp) hf;refine .inr (.inr ⟨_,_,e,?_⟩);rw[e]at hs;have ha:=hs (nS a) (by simp);have hb:=hs (nS b) (by simp);simp only[GB,nS,aU0,if_false]at ha hb;exact⟨ha.1,ha.2,hb.1,hb.2⟩
theorem AT_ {c:Cnf} {nt:Int} {n:Nat} (h:Vg c nt n=0):BK c=true/\(∀p∈c.prods,AO p.body≠0)/\0<=nt/\nt<c.nts/\n<=64:=by
 unfold Vg at h
 split at h
 ·rename_i h1
  split at h
  ·rename_i h2
   split at h
   ·rename_i h3
    split at h
    ·rename_i h4;refine⟨h1,fun p hp hf=> ?_,h3.1,h3.2,h4⟩;unfold Hy at h2;simp only[aM0,eC0,dA0]at h2;exact h2.2 p hp (by simp[Hu,hf])
    ·omega
   ·omega
  ·omega
 ·omega
def Fu_ (c:Cnf) (nt:Int) (w:List Int):Bool:=decide ((⟨nt,0,w.length⟩:Fct)∈HP c w)
def rT : Ann:=⟨[],[]⟩
theorem MJ_ (c:Cnf) (nt:Int) (w:List Int) (h:Vg c nt w.length=0) (hP:c.prods.length*32<=150000000000000):Ad prog 162 [.agg (Av c),.int .i64 nt,Cg w] (.tup [.bool (Fu_ c nt w),.int .i64 0]):=by
 obtain⟨h1,h2,h3,h4,h5⟩:=AT_ h;have zA:=xM h1 h2;obtain⟨⟨_,hN⟩,_⟩:=CP.1 h1;have e1:=MK c nt w;rw[h]at e1;have e2:=PC c w zA hP hN h5;have e3:=VX c w (HP c w) ⟨nt,0,w.length⟩;unfold Fu_;obtain⟨b,hb⟩:∃b,b=decide ((⟨nt,0,w.length⟩:Fct)∈HP c w):=⟨_,rfl⟩;rw[<-hb]at e3 |-;obtain⟨R,hR⟩:∃R,R=HP c w:=⟨_,rfl⟩;rw[<-hR]at e2 e3;simp only[Df,Ap]at e2 e3;simp only[Av]at e1 e2;refine Ac [] rT func162 call162 ntmps162 mxd (Aq @rT.eq_1 results162) rfl (fun qJ B qX qQ=> ?_)
 clear qJ;simp only[Am];exact Au (Ez e1 e2 e3) Aa (AA @Av.eq_1)
theorem Oc_ {a b:Nat} (h:(a+8000)*32<=150000000000000) (h2:b<=a+1024):b*32<=150000000000000:=by omega
theorem Bn_ {gt:GT} (h:OkgT gt):(Dx gt).1.prods.length*32<=150000000000000:=by
 have yM:=Rb h;have cD:=NW gt;have hhd:=h.hd;obtain⟨x,e1,_,_,_⟩:=Mg h yM;have e2:Dx gt=(x,0):=e1;rw[e2];exact Oc_ (CA_ yM (by omega)) (Kv_ e1)
def Rk (g:List Rul) (X:Cnf) (nt:ByteArray) (w:List ByteArray):Bool:=Vj (AC g) w&&Fu_ X (Il (AB g) nt) (Ox (AC g) w)
def Dk_ : Ann:=⟨[],[⟨1,[8],[],[]⟩]⟩
theorem JY_ (gt:GT) (h:OkgT gt) (hs:Fa (AZ gt)) (p1:Ad prog 76 [AD (AZ gt)] (.int .i64 0)) (nt:ByteArray) (hn:nt∈AB (AZ gt)) (w:List ByteArray) (hw:w.length<=64) :
  Ad prog 73 [AD (AZ gt),.str nt,Bg w] (.tup [.bool (Rk (AZ gt) (Dx gt).1 nt w),.int .i64 0]):=by
 have e2:=Qd gt h hs p1 nt w hw;have hq:=Rp h hn (w:=(Ox (AC (AZ gt)) w).length) (by rw[KX];exact hw);have e3:=MJ_ (Dx gt).1 (Il (AB (AZ gt)) nt) (Ox (AC (AZ gt)) w) hq (Bn_ h);unfold Rk;obtain⟨X,hX⟩:∃X,X=(Dx gt).1:=⟨_,rfl⟩;obtain⟨N,hN⟩:∃N,N=Il (AB (AZ gt)) nt:=⟨_,rfl⟩;obtain⟨L,hL⟩:∃L,L=AC (AZ gt):=⟨_,rfl⟩;rw[<-hX,<-hN,<-hL]at e2 e3;rw[<-hX,<-hN,<-hL];clear hq;obtain⟨RB,hRB⟩:∃RB,RB=Fu_ X N (Ox L w):=⟨_,rfl⟩
 rw[<-hRB]at e3 |-;simp only[Av]at e2 e3;refine Ac [] Dk_ func73 call73 ntmps73 mxd (Aq @Dk_.eq_1 results73) rfl (fun qJ B qX qQ=> ?_);clear qJ;simp only[Am];cases hb:Vj L w
 ·rw[hb]at e2;simp only[aU0,if_false]at e2;exact Au (AA e2) Aa Aa
 ·rw[hb]at e2;simp only[if_true]at e2;exact Au (Aq e2 e3) Aa Aa
def Dm_ : Ann:=⟨[],[]⟩
theorem Rm (g:List Rul) (nt:ByteArray) (c:Int) (h:Ad prog 76 [AD g] (.int .i64 c)):Ad prog 71 [.ref [AD g],.ref [.str nt]] (.int .i64 (BS c g nt)):=by
 refine Ac [] Dm_ func71 call71 ntmps71 mxd (Aq @Dm_.eq_1 results71) rfl (fun qJ B qX qQ=> ?_);clear qJ;simp only[Am];have e1:=SO g nt c h;obtain⟨R,hR⟩:∃R,R=BS c g nt:=⟨_,rfl⟩;rw[<-hR]at e1 |-;exact Au (AA e1) Aa Aa
def Dl_ : Ann:=⟨[],[]⟩
theorem Rl (w:List ByteArray):Ad prog 72 [.ref [Bg w]] (.int .i64 (if 64<w.length then 3 else 0)):=by
 refine Ac [] Dl_ func72 call72 ntmps72 mxd (Aq @Dl_.eq_1 results72) rfl (fun qJ B qX qQ=> ?_);clear qJ;simp only[Am]
 by_cases h1:64<w.length
 ·have e1:=BW true 3;simp only[if_true]at e1;have d1:(64:Int)<(w.length:Int):=by omega
  exact Au (AA e1) Aa (Aq h1 d1)
 ·have e1:=BW false 3;simp only[aU0,if_false]at e1;have d1:¬(64:Int)<(w.length:Int):=by omega
  exact Au (AA e1) Aa (Aq h1 d1)
def Pz (c:Int) (g:List Rul) (nt:ByteArray) (w:List ByteArray):Int:=if BS c g nt=0 then (if 64<w.length then 3 else 0)else BS c g nt
theorem Ij_ {c:Int} {g:List Rul} {nt:ByteArray} (h:BS c g nt=0):c=0/\nt∈AB g:=by
 unfold BS at h
 split at h
 ·rename_i hc;refine⟨hc,?_⟩
  split at h
  ·assumption
  ·omega
 ·exact absurd h (by assumption)
def Rg : Ann:=⟨[],[]⟩
theorem FP_ (g:List Rul) (nt:ByteArray) (c:Int) (w:List ByteArray) (h:Ad prog 76 [AD g] (.int .i64 c)) (he:Pz c g nt w≠0):Ad prog 23 [AD g,.str nt,Bg w] (.tup [.bool false,.int .i64 (Pz c g nt w)]):=by
 have e1:=FL 71 72 [.ref [AD g],.ref [.str nt]] [.ref [Bg w]] _ _ (Rm g nt c h) (fun _=>Rl w);have vB:(([0,1]:List Nat)=List.range 2)=True:=eq_true rfl;obtain⟨R,hR⟩:∃R,R=Pz c g nt w:=⟨_,rfl⟩;have vY:R=(if BS c g nt=0 then (if 64<w.length then (3:Int)else 0)else BS c g nt):=hR;rw[<-vY]at e1;rw[<-hR]at he |-;clear hR vY;have hRb:(R==0)=false:=by simpa using he
 have hRc:(R != 0)=true:=by simpa using he
 refine Ac [] Rg func23 call23 ntmps23 mxd (Aq @Rg.eq_1 results23) rfl (fun qJ B qX qQ=> ?_);clear qJ;simp only[Am];exact Au (AA e1) Aa (EU vB he hRb hRc)
theorem iN (gt:GT) (h:OkgT gt) (hs:Fa (AZ gt)) (p1:Ad prog 76 [AD (AZ gt)] (.int .i64 0)) (nt:ByteArray) (hn:nt∈AB (AZ gt)) (w:List ByteArray) (hw:w.length<=64) :
  Ad prog 23 [AD (AZ gt),.str nt,Bg w] (.tup [.bool (Rk (AZ gt) (Dx gt).1 nt w),.int .i64 0]):=by
 have e1:=FL 71 72 [.ref [AD (AZ gt)],.ref [.str nt]] [.ref [Bg w]] _ _ (Rm (AZ gt) nt 0 p1) (fun _=>Rl w);have vB:(([0,1]:List Nat)=List.range 2)=True:=eq_true rfl;have hk:BS 0 (AZ gt) nt=0:=by unfold BS;rw[if_pos rfl,if_pos hn]
 rw[if_pos hk,if_neg (by omega)]at e1;have e2:=JY_ gt h hs p1 nt hn w hw;obtain⟨RB,hRB⟩:∃RB,RB=Rk (AZ gt) (Dx gt).1 nt w:=⟨_,rfl⟩;rw[<-hRB]at e2 |-;refine Ac [] Rg func23 call23 ntmps23 mxd (Aq @Rg.eq_1 results23) rfl (fun qJ B qX qQ=> ?_);clear qJ;simp only[Am];exact Au (Aq e1 e2) Aa (AA vB)
end Go.Proofs.Wy
end
section
namespace Go.Proofs.Wy
open Go Go.Dm Tryz
variable [DMode]
structure Sht where
 st:Int
 pr:Int
 mi:Int
def Gt : List (Fct×Sht)->Fct->Option Sht
 | [],_=>none
 | x::L,f=>if x.1=f then some x.2 else Gt L f
def Xh : List (Fct×Sht)->Fct->Sht->List (Fct×Sht)
 | [],f,s=>[(f,s)]
 | x::L,f,s=>if x.1=f then (f,s)::L else x::Xh L f s
theorem QI : ∀(L:List (Fct×Sht)) (f:Fct) (s:Sht) (g:Fct),Gt (Xh L f s) g=if f=g then some s else Gt L g
 | [],f,s,g=>by simp[Xh,Gt]
 | x::L,f,s,g=>by
  unfold Xh
  by_cases h:x.1=f
  ·rw[if_pos h];unfold Gt
   by_cases hg:f=g
   ·simp[hg]
   ·rw[if_neg hg,if_neg hg,if_neg (by rw[h];exact hg)]
  ·rw[if_neg h];have ih:=QI L f s g;unfold Gt;rw[ih]
   by_cases hx:x.1=g
   ·rw[if_pos hx,if_pos hx,if_neg (fun e=>h (by rw[hx,e]))]
   ·rw[if_neg hx,if_neg hx]
def EZ (L:List (Fct×Sht)) (f:Fct) (s:Sht):Bool:= !((match Gt L f with
 | some t=>decide (t.st<=s.st)
 | none=>false)||decide (4096<s.st))
def KR (L:List (Fct×Sht)) (f:Fct) (s:Sht):List (Fct×Sht):=if EZ L f s then Xh L f s else L
def Gy_ (w:List Int) (L:List (Fct×Sht)) (f:Fct) (s:Sht) (body:List Sym):Prop :=
 match body with
 | []=>f.fr=f.to
 | [a]=>f.to=f.fr+1/\w[f.fr.toNat]? =some a.n
 | a::b::_=>f.fr<=s.mi/\s.mi<=f.to/\∃s1 s2,Gt L ⟨a.n,f.fr,s.mi⟩=some s1/\Gt L ⟨b.n,s.mi,f.to⟩=some s2/\1+s1.st+s2.st<=s.st
structure WayI (c:Cnf) (w:List Int) (L:List (Fct×Sht)) (f:Fct) (s:Sht):Prop where
 one:1<=s.st
 lo:0<=f.fr
 le:f.fr<=f.to
 hi:f.to<=w.length
 pr:0<=s.pr
 way:∃p,c.prods[s.pr.toNat]? =some p/\p.head=f.nt/\Gy_ w L f s p.body
def OA (c:Cnf) (w:List Int) (L:List (Fct×Sht)):Prop:=∀f s,Gt L f=some s->s.st<=4096/\WayI c w L f s
theorem Ua {L:List (Fct×Sht)} {f:Fct} {s:Sht}:EZ L f s=true↔s.st<=4096/\∀t,Gt L f=some t->s.st<t.st:=by
 unfold EZ
 cases h:Gt L f with
 | none=>simp
 | some t=>simp;omega
theorem Vz {L:List (Fct×Sht)} {f g:Fct} {s t:Sht} (hb:EZ L f s=true) (hg:Gt L g=some t):∃u,Gt (Xh L f s) g=some u/\u.st<=t.st:=by
 rw[QI]
 by_cases h:f=g
 ·subst h;rw[if_pos rfl];exact⟨s,rfl,Int.le_of_lt ((Ua.1 hb).2 t hg)⟩
 ·rw[if_neg h];exact⟨t,hg,eR0 _⟩
theorem Rq {w:List Int} {L:List (Fct×Sht)} {f g:Fct} {s t:Sht} (hb:EZ L f s=true) {body:List Sym} (h:Gy_ w L g t body):Gy_ w (Xh L f s) g t body:=by
 match body with
 | []=>exact h
 | [a]=>exact h
 | a::b::r =>
  obtain⟨h1,h2,s1,s2,e1,e2,h3⟩:=h;obtain⟨u1,f1,l1⟩:=Vz hb e1;obtain⟨u2,f2,l2⟩:=Vz hb e2;exact⟨h1,h2,u1,u2,f1,f2,by omega⟩
theorem FW_ {c:Cnf} {w:List Int} {L:List (Fct×Sht)} {f:Fct} {s:Sht} (hI:OA c w L) (hW:WayI c w L f s) (hb:EZ L f s=true):OA c w (Xh L f s):=by
 intro g t hg;rw[QI]at hg
 by_cases h:f=g
 ·subst h;rw[if_pos rfl]at hg;have e:=Option.some.inj hg;subst e;obtain⟨p,h1,h2,h3⟩:=hW.way;exact⟨(Ua.1 hb).1,hW.one,hW.lo,hW.le,hW.hi,hW.pr,p,h1,h2,Rq hb h3⟩
 ·rw[if_neg h]at hg;obtain⟨h4,hV⟩:=hI g t hg;obtain⟨p,h1,h2,h3⟩:=hV.way;exact⟨h4,hV.one,hV.lo,hV.le,hV.hi,hV.pr,p,h1,h2,Rq hb h3⟩
theorem AP_ {c:Cnf} {w:List Int} {L:List (Fct×Sht)} {f:Fct} {s:Sht} (hI:OA c w L) (hW:WayI c w L f s):OA c w (KR L f s):=by
 unfold KR
 split
 ·exact FW_ hI hW (by assumption)
 ·exact hI
def xB (L:List (Fct×Sht)) (f:Fct):Nat:=match Gt L f with
 | some s=>s.st.toNat
 | none=>4097
def Jf (L:List (Fct×Sht)) (r:List Fct):Nat:=(r.map (xB L)).sum
theorem Mn_ {c:Cnf} {w:List Int} {L:List (Fct×Sht)} {f:Fct} {s:Sht} (hW:WayI c w L f s) (hb:EZ L f s=true) (g:Fct):xB (Xh L f s) g<=xB L g/\(f=g->xB (Xh L f s) g<xB L g):=by
 obtain⟨h1,h2⟩:=Ua.1 hb;have h3:=hW.one;unfold xB;rw[QI]
 by_cases h:f=g
 ·subst h;rw[if_pos rfl]
  cases hg:Gt L f with
  | none=>simp only;omega
  | some t =>
   have:=h2 t hg;simp only;omega
 ·rw[if_neg h];exact⟨Nat.le_refl _,fun e=>absurd e h⟩
theorem Xw {c:Cnf} {w:List Int} {L:List (Fct×Sht)} {f:Fct} {s:Sht} (hW:WayI c w L f s) (hb:EZ L f s=true):∀(r:List Fct),Jf (Xh L f s) r<=Jf L r/\(f∈r->Jf (Xh L f s) r<Jf L r)
 | []=>⟨Nat.le_refl _,fun h=>absurd h (by simp)⟩
 | g::r=>by
  obtain⟨a1,a2⟩:=Xw hW hb r;obtain⟨b1,b2⟩:=Mn_ hW hb g;unfold Jf at a1 a2 |-;simp only[List.map_cons,cZ0];refine⟨by omega,fun h=> ?_⟩
  rcases aJ0.1 h with e | h
  ·have:=b2 e;omega
  ·have:=a2 h;omega
def HM (c:Cnf) (L:List (Fct×Sht)):Nat->Fct->List Stp
 | 0,_=>[]
 | n+1,f=>match Gt L f with
  | none=>[]
  | some s=>⟨s.pr,f.fr,f.to⟩::(match c.prods[s.pr.toNat]? with
   | none=>[]
   | some p=>match p.body with
    | a::b::_=>HM c L n ⟨a.n,f.fr,s.mi⟩++HM c L n ⟨b.n,s.mi,f.to⟩
    | _=>[])
theorem Gk {c:Cnf} {w:List Int} {L:List (Fct×Sht)} {n:Nat} {f:Fct} {s:Sht} {p:Prod} (hg:Gt L f=some s) (hp:c.prods[s.pr.toNat]? =some p) (hb:p.body.length<2):HM c L (n+1) f=[⟨s.pr,f.fr,f.to⟩]:=by
 rw[HM,hg];simp only[hp]
 match hq:p.body with
 | []=>rfl
 | [a]=>rfl
 | a::b::r=>rw[hq]at hb;simp at hb;omega
theorem NG {c:Cnf} {L:List (Fct×Sht)} {n:Nat} {f:Fct} {s:Sht} {p:Prod} {a b:Sym} {r:List Sym} (hg:Gt L f=some s) (hp:c.prods[s.pr.toNat]? =some p) (hb:p.body=a::b::r):HM c L (n+1) f=⟨s.pr,f.fr,f.to⟩::(HM c L n ⟨a.n,f.fr,s.mi⟩++HM c L n ⟨b.n,s.mi,f.to⟩):=by
 rw[HM,hg];simp only[hp,hb]
theorem NH {c:Cnf} {w:List Int} {L:List (Fct×Sht)} (hI:OA c w L):∀(n m:Nat) (f:Fct) (s:Sht),Gt L f=some s->s.st<=n->s.st<=m->HM c L n f=HM c L m f
 | 0,_,f,s,hg,h1,_=>by
  have:=(hI f s hg).2.one;omega
 | _+1,0,f,s,hg,_,h2=>by
  have:=(hI f s hg).2.one;omega
 | n+1,m+1,f,s,hg,h1,h2=>by
  obtain⟨_,hW⟩:=hI f s hg;obtain⟨p,hp,_,hd⟩:=hW.way
  match hq:p.body with
  | []=>rw[Gk (w:=w) hg hp (by rw[hq];simp),Gk (w:=w) hg hp (by rw[hq];simp)]
  | [a]=>rw[Gk (w:=w) hg hp (by rw[hq];simp),Gk (w:=w) hg hp (by rw[hq];simp)]
  | a::b::r =>
   rw[hq]at hd;obtain⟨_,_,s1,s2,e1,e2,h3⟩:=hd;have i1:=(hI _ _ e1).2.one;have i2:=(hI _ _ e2).2.one;rw[NG hg hp hq,NG hg hp hq,NH hI n m _ s1 e1 (by omega) (by omega),NH hI n m _ s2 e2 (by omega) (by omega)]
theorem Lp {c:Cnf} {w:List Int} {L:List (Fct×Sht)} (hI:OA c w L):∀(n:Nat) (f:Fct) (s:Sht),Gt L f=some s->s.st<=n->1<=(HM c L n f).length/\((HM c L n f).length:Int)<=s.st
 | 0,f,s,hg,h1=>by
  have:=(hI f s hg).2.one;omega
 | n+1,f,s,hg,h1=>by
  obtain⟨_,hW⟩:=hI f s hg;obtain⟨p,hp,_,hd⟩:=hW.way;have h1s:=hW.one
  match hq:p.body with
  | []=>rw[Gk (w:=w) hg hp (by rw[hq];simp)];simp;omega
  | [a]=>rw[Gk (w:=w) hg hp (by rw[hq];simp)];simp;omega
  | a::b::r =>
   rw[hq]at hd;obtain⟨_,_,s1,s2,e1,e2,h3⟩:=hd;have i1:=(hI _ _ e1).2.one;have i2:=(hI _ _ e2).2.one;have j1:=Lp hI n _ s1 e1 (by omega);have j2:=Lp hI n _ s2 e2 (by omega);rw[NG hg hp hq];simp only[List.length_cons,aD0];omega
theorem IT_ {c:Cnf} {w:List Int} {L:List (Fct×Sht)} (hI:OA c w L) {n:Nat} {f:Fct} {s:Sht} (hg:Gt L f=some s) (hn:s.st<=n):∃l,HM c L n f=⟨s.pr,f.fr,f.to⟩::l:=by
 cases n with
 | zero =>
  have:=(hI f s hg).2.one;omega
 | succ n=>rw[HM,hg];exact⟨_,rfl⟩
theorem Pj {c:Cnf} {w:List Int} {L:List (Fct×Sht)} (hI:OA c w L):∀(n:Nat) (f:Fct) (s:Sht) (rest:List Stp) (N:Nat),Gt L f=some s->s.st<=n->(HM c L n f).length<=N->HS c w N f.nt (HM c L n f++rest) f.fr f.to=(HM c L n f).length
 | 0,f,s,rest,N,hg,h1,_=>by
  have:=(hI f s hg).2.one;omega
 | n+1,f,s,rest,N,hg,h1,hN=>by
  obtain⟨_,hW⟩:=hI f s hg;obtain⟨p,hp,hh,hd⟩:=hW.way;have yY:=(aB0.1 hp).1;have hpr:=hW.pr;have hc:0<=s.pr/\s.pr<c.prods.length/\f.fr=f.fr/\f.to=f.to:=⟨hpr,by omega,rfl,rfl⟩;have hl:=Lp hI (n+1) f s hg h1;obtain⟨M,rfl⟩:∃M,N=M+1:=⟨N-1,by omega⟩
  match hq:p.body with
  | [] =>
   rw[hq]at hd;rw[Gk (w:=w) hg hp (by rw[hq];simp),List.singleton_append,Ig,if_pos hc,hp];unfold Ma;simp only;rw[if_pos hh,hq];unfold FP;simp only;rw[show Gy_ w L f s []=(f.fr=f.to) from rfl]at hd;rw[if_pos hd];rfl
  | [a] =>
   rw[hq]at hd;rw[Gk (w:=w) hg hp (by rw[hq];simp),List.singleton_append,Ig,if_pos hc,hp];unfold Ma;simp only;rw[if_pos hh,hq];unfold FP;simp only;rw[show Gy_ w L f s [a]=(f.to=f.fr+1/\w[f.fr.toNat]? =some a.n) from rfl]at hd;rw[if_pos hd];rfl
  | a::b::r =>
   rw[hq]at hd;obtain⟨k1,k2,s1,s2,e1,e2,h3⟩:=hd;have i1:=(hI _ _ e1).2.one;have i2:=(hI _ _ e2).2.one;have j1:=Lp hI n _ s1 e1 (by omega);have j2:=Lp hI n _ s2 e2 (by omega);rw[NG hg hp hq]at hN |-;simp only[List.length_cons,aD0]at hN |-;have r1:=Pj hI n _ s1 (HM c L n ⟨b.n,s.mi,f.to⟩++rest) M e1 (by omega) (by omega);have r2:=Pj hI n _ s2 rest M e2 (by omega) (by omega);simp only at r1 r2;rw[List.cons_append,Ig,if_pos hc,hp]
   unfold Ma;simp only;rw[if_pos hh,hq];unfold FP;simp only;rw[aQ0];obtain⟨l1,kY⟩:=IT_ hI e1 (n:=n) (by omega)
   have hT:MR (HS c w M) a b (HM c L n ⟨a.n,f.fr,s.mi⟩++(HM c L n ⟨b.n,s.mi,f.to⟩++rest)) f.fr f.to=1+(HM c L n ⟨a.n,f.fr,s.mi⟩).length+(HM c L n ⟨b.n,s.mi,f.to⟩).length:=by
    have hA:∀t l,HM c L n ⟨a.n,f.fr,s.mi⟩++(HM c L n ⟨b.n,s.mi,f.to⟩++rest)=t::l->t.to=s.mi:=by
     intro t l h;rw[kY,List.cons_append]at h;have:=(List.cons.inj h).1;rw[<-this]
    have hB:List.drop (HM c L n ⟨a.n,f.fr,s.mi⟩).length (HM c L n ⟨a.n,f.fr,s.mi⟩++(HM c L n ⟨b.n,s.mi,f.to⟩++rest))=HM c L n ⟨b.n,s.mi,f.to⟩++rest:=List.drop_left;unfold MR
    split
    ·rename_i h;rw[kY]at h;simp at h
    ·rename_i t l h;rw[hA t l h,if_pos ⟨k1,k2⟩];simp only[r1,hB,r2];rw[if_neg (by omega),if_neg (by omega)]
   rw[hT];omega
theorem Wl {c:Cnf} {w:List Int} {L:List (Fct×Sht)} (hI:OA c w L) {n:Nat} {nt:Int} {s:Sht} (hg:Gt L ⟨nt,0,w.length⟩=some s) (hn:s.st<=n):(HM c L n ⟨nt,0,w.length⟩).length<=4096/\HS c w (HM c L n ⟨nt,0,w.length⟩).length nt (HM c L n ⟨nt,0,w.length⟩) 0 w.length=(HM c L n ⟨nt,0,w.length⟩).length/\(HM c L n ⟨nt,0,w.length⟩).length≠0:=by
 have h1:=Lp hI n _ s hg hn;have h2:=(hI _ s hg).1;have h3:=Pj hI n _ s [] _ hg hn (Nat.le_refl _);rw[bR0]at h3;exact⟨by omega,h3,by omega⟩
end Go.Proofs.Wy
end
section
namespace Go.Proofs.Wy
open Go Go.Dm Tryz
attribute [local irreducible] DW Bi Bk
set_option maxRecDepth 100000
def CE (s:Sht):List DVal:=[.int .i64 s.st,.int .i64 s.pr,.int .i64 s.mi]
def OC (s:Sht):DVal:= .agg (CE s)
def YN (L:List (Fct×Sht)):List DVal:=L.map fun x=>CN x.1
def vsM (L:List (Fct×Sht)):List DVal:=L.map fun x=>OC x.2
@[simp] theorem OJ_ (L:List (Fct×Sht)):AR (YN L)=0:=by
 unfold YN
 induction L with
 | nil=>rfl
 | cons x L ih=>simp_all [AR,mx,CN]
@[simp] theorem My_ (L:List (Fct×Sht)):AR (vsM L)=0:=by
 unfold vsM
 induction L with
 | nil=>rfl
 | cons x L ih=>simp_all [AR,mx,OC,CE]
theorem Ac_ (L:List (Fct×Sht)):(YN L).all (Ck prog 140)=true:=by
 unfold YN
 induction L with
 | nil=>rfl
 | cons p r ih=>rw[List.map_cons,dB0,ih];simp[CN,Ap]
theorem Fq : ∀{L:List (Fct×Sht)} {f:Fct},Gt L f=none->AQ (YN L) (CN f)=none/\∀t,YN (Xh L f t)=YN L++[CN f]/\vsM (Xh L f t)=vsM L++[OC t]
 | [],_,_=>⟨rfl,fun t=>⟨rfl,rfl⟩⟩
 | x::L,f,h=>by
  unfold Gt at h
  by_cases he:x.1=f
  ·rw[if_pos he]at h;cases h
  ·rw[if_neg he]at h;obtain⟨a1,a2⟩:=Fq h;refine⟨?_,fun t=> ?_⟩
   ·unfold YN at a1 |-;rw[List.map_cons,AQ,Nu,decide_eq_false (fun e=>he e.symm),a1];simp
   ·obtain⟨b1,b2⟩:=a2 t;unfold Xh;rw[if_neg he];exact⟨congrArg (List.cons (CN x.1)) b1,congrArg (List.cons (OC x.2)) b2⟩
theorem Ev : ∀{L:List (Fct×Sht)} {f:Fct} {s:Sht},Gt L f=some s->∃i,AQ (YN L) (CN f)=some i/\(vsM L)[i]? =some (OC s)/\∀t,YN (Xh L f t)=YN L/\vsM (Xh L f t)=(vsM L).set i (OC t)
 | x::L,f,s,h=>by
  unfold Gt at h
  by_cases he:x.1=f
  ·rw[if_pos he]at h;have e:=Option.some.inj h;subst e;refine⟨0,?_,rfl,fun t=> ?_⟩
   ·unfold YN;rw[List.map_cons,AQ,Nu,decide_eq_true he.symm];rfl
   ·unfold Xh;rw[if_pos he];refine⟨?_,rfl⟩;unfold YN;rw[List.map_cons,List.map_cons,he]
  ·rw[if_neg he]at h;obtain⟨i,a1,a2,a3⟩:=Ev h;refine⟨i+1,?_,?_,fun t=> ?_⟩
   ·unfold YN at a1 |-;rw[List.map_cons,AQ,Nu,decide_eq_false (fun e=>he e.symm),a1];rfl
   ·unfold vsM at a2 |-;rw[List.map_cons];exact a2
   ·obtain⟨b1,b2⟩:=a3 t;unfold Xh;rw[if_neg he];exact⟨congrArg (List.cons (CN x.1)) b1,congrArg (List.cons (OC x.2)) b2⟩
def AU (L:List (Fct×Sht)):List Ent:=[⟨0,0,.box [.omp 1 0]⟩,⟨1,0,.map (YN L) (vsM L)⟩]
def Dp : Ann:=⟨[],[⟨1,[6],[],[]⟩]⟩
theorem KQ (L:List (Fct×Sht)) (f:Fct) (s:Sht):AS prog (.func 179) [.agg (Ap f),.agg (CE s),.bx 0 0 0] (AU L) (.bool (EZ L f s)) (AU (KR L f s)):=by
 refine Bj [] [(0,0,0),(1,1,0)] Dp func179 call179 ntmps179 mxd (Aq @Dp.eq_1 results179) rfl (fun qJ B qX qQ=> ?_) (hv:=(by simp[AU]));clear qJ;simp only[Am];have qY:=Ac_ L
 cases hg:Gt L f with
 | none =>
  obtain⟨h1,h2⟩:=Fq hg;have h3:=h2 s;simp only[CN,Ap]at h1 h3
  by_cases hs:4096<s.st
  ·have hb:EZ L f s=false:=by unfold EZ;rw[hg];simp[hs]
   unfold KR;rw[hb]
   (repeat (first | refine AE fun K hK=> ?_ | (refine Bv Dp mxd (by kernel_rfl) ?_;simp[Dp,qX,AU,Ap,CE,qY,h1,hs];try simp (disch:=omega) only[Af]) | refine An ?_ | (refine AW ?_ ?_ ?_;(· (simp[qX,AU,Ap,CE,qY,h1,hs];done));(try (rotate_left;(· (intro hc;(try simp[qX,AU,Ap,CE,qY,h1,hs]at hc);done))))) | (refine AH ?_;simp[results179,qX,AU,Ap,CE,qY,h1,hs]) | ((first | refine Ay ?_ | refine Ax ?_);simp[qX,AU,Ap,CE,qY,h1,hs]) | (intro hc;(try simp[qX,AU,Ap,CE,qY,h1,hs]at hc);(try (exfalso;omega))) | (refine⟨?_,?_⟩; · omega) | omega | apply_assumption -exfalso -symm | (exfalso;omega)))
  ·have hb:EZ L f s=true:=by unfold EZ;rw[hg];simp[hs]
   unfold KR;rw[hb];simp only[if_true]
   (repeat (first | refine AE fun K hK=> ?_ | (refine Bv Dp mxd (by kernel_rfl) ?_;simp[Dp,qX,AU,Ap,CE,qY,h1,hs];try simp (disch:=omega) only[Af]) | refine An ?_ | (refine AW ?_ ?_ ?_;(· (simp[qX,AU,Ap,CE,qY,h1,hs];done));(try (rotate_left;(· (intro hc;(try simp[qX,AU,Ap,CE,qY,h1,hs]at hc);done))))) | (refine AH ?_;simp[results179,qX,AU,Ap,CE,qY,h1,hs]) | ((first | refine Ay ?_ | refine Ax ?_);simp[qX,AU,Ap,CE,qY,h1,hs]) | (intro hc;(try simp[qX,AU,Ap,CE,qY,h1,hs]at hc);(try (exfalso;omega))) | (refine⟨?_,?_⟩; · omega) | omega | apply_assumption -exfalso -symm | (exfalso;omega)))
   exact⟨h3.1.symm,h3.2.symm⟩
 | some t =>
  obtain⟨i,h1,h2,h3⟩:=Ev hg;have h4:=h3 s;simp only[CN,Ap,OC,CE]at h1 h2 h4
  by_cases ht:t.st<=s.st
  ·have hb:EZ L f s=false:=by unfold EZ;rw[hg];simp[ht]
   unfold KR;rw[hb]
   (repeat (first | refine AE fun K hK=> ?_ | (refine Bv Dp mxd (by kernel_rfl) ?_;simp[Dp,qX,AU,Ap,CE,qY,h1,h2,ht];try simp (disch:=omega) only[Af]) | refine An ?_ | (refine AW ?_ ?_ ?_;(· (simp[qX,AU,Ap,CE,qY,h1,h2,ht];done));(try (rotate_left;(· (intro hc;(try simp[qX,AU,Ap,CE,qY,h1,h2,ht]at hc);done))))) | (refine AH ?_;simp[results179,qX,AU,Ap,CE,qY,h1,h2,ht]) | ((first | refine Ay ?_ | refine Ax ?_);simp[qX,AU,Ap,CE,qY,h1,h2,ht]) | (intro hc;(try simp[qX,AU,Ap,CE,qY,h1,h2,ht]at hc);(try (exfalso;omega))) | (refine⟨?_,?_⟩; · omega) | omega | apply_assumption -exfalso -symm | (exfalso;omega)))
  ·by_cases hs:4096<s.st
   ·have hb:EZ L f s=false:=by unfold EZ;rw[hg];simp[hs]
    unfold KR;rw[hb]
    (repeat (first | refine AE fun K hK=> ?_ | (refine Bv Dp mxd (by kernel_rfl) ?_;simp[Dp,qX,AU,Ap,CE,qY,h1,h2,ht,hs];try simp (disch:=omega) only[Af]) | refine An ?_ | (refine AW ?_ ?_ ?_;(· (simp[qX,AU,Ap,CE,qY,h1,h2,ht,hs];done));(try (rotate_left;(· (intro hc;(try simp[qX,AU,Ap,CE,qY,h1,h2,ht,hs]at hc);done))))) | (refine AH ?_;simp[results179,qX,AU,Ap,CE,qY,h1,h2,ht,hs]) | ((first | refine Ay ?_ | refine Ax ?_);simp[qX,AU,Ap,CE,qY,h1,h2,ht,hs]) | (intro hc;(try simp[qX,AU,Ap,CE,qY,h1,h2,ht,hs]at hc);(try (exfalso;omega))) | (refine⟨?_,?_⟩; · omega) | omega | apply_assumption -exfalso -symm | (exfalso;omega)))
   ·have hb:EZ L f s=true:=by unfold EZ;rw[hg];simp;omega
    unfold KR;rw[hb];simp only[if_true]
    (repeat (first | refine AE fun K hK=> ?_ | (refine Bv Dp mxd (by kernel_rfl) ?_;simp[Dp,qX,AU,Ap,CE,qY,h1,h2,ht,hs];try simp (disch:=omega) only[Af]) | refine An ?_ | (refine AW ?_ ?_ ?_;(· (simp[qX,AU,Ap,CE,qY,h1,h2,ht,hs];done));(try (rotate_left;(· (intro hc;(try simp[qX,AU,Ap,CE,qY,h1,h2,ht,hs]at hc);done))))) | (refine AH ?_;simp[results179,qX,AU,Ap,CE,qY,h1,h2,ht,hs]) | ((first | refine Ay ?_ | refine Ax ?_);simp[qX,AU,Ap,CE,qY,h1,h2,ht,hs]) | (intro hc;(try simp[qX,AU,Ap,CE,qY,h1,h2,ht,hs]at hc);(try (exfalso;omega))) | (refine⟨?_,?_⟩; · omega) | omega | apply_assumption -exfalso -symm | (exfalso;omega)))
    exact⟨⟨h4.1.symm,h4.2.symm⟩,by rw[<-h4.2];exact My_ _⟩
end Go.Proofs.Wy
end
section
namespace Go.Proofs.Wy
open Go Go.Dm Tryz
variable [DMode]
def EU_ (a b:Sym) (f:Fct) (i:Int) (x:Bool×List (Fct×Sht)) (mid:Int):Bool×List (Fct×Sht) :=
 match Gt x.2 ⟨a.n,f.fr,mid⟩,Gt x.2 ⟨b.n,mid,f.to⟩with
 | some s1,some s2=>(x.1||EZ x.2 f ⟨1+s1.st+s2.st,i,mid⟩,KR x.2 f ⟨1+s1.st+s2.st,i,mid⟩)
 | _,_=>x
def MF (w:List Int) (body:List Sym) (f:Fct) (i:Int) (L:List (Fct×Sht)):Bool×List (Fct×Sht) :=
 match body with
 | []=>if f.fr=f.to then (EZ L f ⟨1,i,f.fr⟩,KR L f ⟨1,i,f.fr⟩)else (false,L)
 | [a]=>if f.to=f.fr+1/\w[f.fr.toNat]? =some a.n then (EZ L f ⟨1,i,f.fr⟩,KR L f ⟨1,i,f.fr⟩)else (false,L)
 | a::b::_=>(List.range (f.to-f.fr+1).toNat).foldl (fun x (k:Nat)=>EU_ a b f i x (f.fr+k)) (false,L)
def Er_ (w:List Int) (f:Fct) (x:Bool×List (Fct×Sht)) (q:Prod×Nat):Bool×List (Fct×Sht) :=
 if q.1.head=f.nt then (x.1||(MF w q.1.body f q.2 x.2).1,(MF w q.1.body f q.2 x.2).2)else x
def Ek_ (c:Cnf) (w:List Int) (x:Bool×List (Fct×Sht)) (f:Fct):Bool×List (Fct×Sht):=c.prods.zipIdx.foldl (Er_ w f) x
def Qh (c:Cnf) (w:List Int) (r:List Fct) (L:List (Fct×Sht)):Bool×List (Fct×Sht):=r.foldl (Ek_ c w) (false,L)
def UG (c:Cnf) (w:List Int) (r:List Fct):Nat->List (Fct×Sht)->List (Fct×Sht)
 | 0,L=>L
 | n+1,L=>if (Qh c w r L).1 then UG c w r n (Qh c w r L).2 else (Qh c w r L).2
structure StO (c:Cnf) (w:List Int) (r:List Fct) (L:List (Fct×Sht)) (x:Bool×List (Fct×Sht)):Prop where
 inv:OA c w x.2
 le:Jf x.2 r<=Jf L r
 lt:x.1=true->Jf x.2 r<Jf L r
theorem StO.start {c:Cnf} {w:List Int} {r:List Fct} {L:List (Fct×Sht)} (h:OA c w L):StO c w r L (false,L):=⟨h,Nat.le_refl _,by simp⟩
theorem StO.bet {c:Cnf} {w:List Int} {r:List Fct} {L:List (Fct×Sht)} {x:Bool×List (Fct×Sht)} (h:StO c w r L x) {f:Fct} (hf:f∈r) {s:Sht} (hW:WayI c w x.2 f s):StO c w r L (x.1||EZ x.2 f s,KR x.2 f s):=by
 obtain⟨h1,h2,h3⟩:=h;refine⟨AP_ h1 hW,?_,fun hb=> ?_⟩
 ·unfold KR
  split
  ·have:=(Xw hW (by assumption) r).1;exact Nat.le_trans this h2
  ·exact h2
 ·simp only at hb |-;unfold KR
  by_cases hB:EZ x.2 f s=true
  ·rw[if_pos hB];have:=(Xw hW hB r).2 hf;exact bY0 this h2
  ·rw[if_neg hB];have:EZ x.2 f s=false:=by simpa using hB
   rw[this,Bool.or_false]at hb;exact h3 hb
theorem Ce_ {c:Cnf} {w:List Int} {r:List Fct} {L:List (Fct×Sht)} {x:Bool×List (Fct×Sht)} (h:StO c w r L x) {f:Fct} (hf:f∈r) (h0:0<=f.fr) (h1:f.fr<=f.to) (h2:f.to<=w.length) {i:Nat} {p:Prod} (hp:c.prods[i]? =some p) (hh:p.head=f.nt) {a b:Sym} {t:List Sym} (hb:p.body=a::b::t) {mid:Int} (m1:f.fr<=mid) (m2:mid<=f.to):StO c w r L (EU_ a b f i x mid):=by
 unfold EU_
 split
 ·rename_i s1 s2 e1 e2;have i1:=(h.inv _ _ e1).2.one;have i2:=(h.inv _ _ e2).2.one;refine h.bet hf ⟨by simp only;omega,h0,h1,h2,by simp,p,by simpa using hp,hh,?_⟩;rw[hb];exact⟨m1,m2,s1,s2,e1,e2,eR0 _⟩
 ·exact h
theorem Jt {α β:Type} {P:β->Prop} {g:β->α->β}:∀{l:List α},(∀x∈l,∀y,P y->P (g y x))->∀y,P y->P (l.foldl g y)
 | [],_,y,hy=>hy
 | x::l,h,y,hy=>by
  rw[cQ0];exact Jt (fun z hz=>h z (aC0 _ hz)) _ (h x aE0 y hy)
theorem La_ {c:Cnf} {w:List Int} {r:List Fct} {L:List (Fct×Sht)} (h:OA c w L) {f:Fct} (hf:f∈r) (h0:0<=f.fr) (h1:f.fr<=f.to) (h2:f.to<=w.length) {i:Nat} {p:Prod} (hp:c.prods[i]? =some p) (hh:p.head=f.nt):StO c w r L (MF w p.body f i L):=by
 have hS:=StO.start (r:=r) h;unfold MF
 split
 ·rename_i hb
  split
  ·rename_i he;have hW:WayI c w L f ⟨1,i,f.fr⟩:=⟨by simp,h0,h1,h2,by simp,p,by simpa using hp,hh,by rw[hb];exact he⟩;have:=hS.bet hf hW;simpa using this
  ·exact hS
 ·rename_i a hb
  split
  ·rename_i he;have hW:WayI c w L f ⟨1,i,f.fr⟩:=⟨by simp,h0,h1,h2,by simp,p,by simpa using hp,hh,by rw[hb];exact he⟩;have:=hS.bet hf hW;simpa using this
  ·exact hS
 ·rename_i a b t hb;refine Jt (P:=StO c w r L) (fun k hk y hy=> ?_) _ hS;have:=cD0.1 hk;exact Ce_ hy hf h0 h1 h2 hp hh hb (by omega) (by omega)
theorem StO.trans {c:Cnf} {w:List Int} {r:List Fct} {L:List (Fct×Sht)} {x y:Bool×List (Fct×Sht)} (h:StO c w r L x) (g:StO c w r x.2 y):StO c w r L (x.1||y.1,y.2):=by
 refine⟨g.inv,Nat.le_trans g.le h.le,fun hb=> ?_⟩;simp only[cY0]at hb
 rcases hb with hb | hb
 ·exact Nat.lt_of_le_of_lt g.le (h.lt hb)
 ·exact bY0 (g.lt hb) h.le
theorem BN_ {c:Cnf} {w:List Int} {r:List Fct} {L:List (Fct×Sht)} {x:Bool×List (Fct×Sht)} (h:StO c w r L x) {f:Fct} (hf:f∈r) (h0:0<=f.fr) (h1:f.fr<=f.to) (h2:f.to<=w.length) {q:Prod×Nat} (hq:c.prods[q.2]? =some q.1):StO c w r L (Er_ w f x q):=by
 unfold Er_
 split
 ·rename_i hh;exact h.trans (La_ h.inv hf h0 h1 h2 hq hh)
 ·exact h
theorem Gr_ {c:Cnf} {q:Prod×Nat} (h:q∈c.prods.zipIdx):c.prods[q.2]? =some q.1:=List.mk_mem_zipIdx_iff_getElem?.1 h
theorem BC_ {c:Cnf} {w:List Int} {r:List Fct} {L:List (Fct×Sht)} {x:Bool×List (Fct×Sht)} (h:StO c w r L x) {f:Fct} (hf:f∈r) (h0:0<=f.fr) (h1:f.fr<=f.to) (h2:f.to<=w.length):StO c w r L (Ek_ c w x f) :=
 Jt (P:=StO c w r L) (fun q hq y hy=>BN_ hy hf h0 h1 h2 (Gr_ hq)) x h
theorem Xo {c:Cnf} {w:List Int} {r:List Fct} {L:List (Fct×Sht)} (h:OA c w L) (hr:∀f∈r,0<=f.fr/\f.fr<=f.to/\f.to<=w.length):StO c w r L (Qh c w r L) :=
 Jt (P:=StO c w r L) (fun f hf y hy=>BC_ hy hf (hr f hf).1 (hr f hf).2.1 (hr f hf).2.2) _ (StO.start h)
theorem OF {c:Cnf} {w:List Int} {r:List Fct} (hr:∀f∈r,0<=f.fr/\f.fr<=f.to/\f.to<=w.length):∀(n m:Nat) (L:List (Fct×Sht)),OA c w L->Jf L r<n->Jf L r<m->UG c w r n L=UG c w r m L
 | 0,_,_,_,h,_=>absurd h (dU0 _)
 | _+1,0,_,_,_,h=>absurd h (dU0 _)
 | n+1,m+1,L,hI,h1,h2=>by
  have hR:=Xo hI hr;unfold UG
  by_cases hb:(Qh c w r L).1=true
  ·rw[if_pos hb,if_pos hb];have:=hR.lt hb;exact OF hr n m _ hR.inv (by omega) (by omega)
  ·rw[if_neg hb,if_neg hb]
theorem BA_ {c:Cnf} {w:List Int} {r:List Fct} (hr:∀f∈r,0<=f.fr/\f.fr<=f.to/\f.to<=w.length):∀(n:Nat) (L:List (Fct×Sht)),OA c w L->OA c w (UG c w r n L)
 | 0,_,h=>h
 | n+1,L,h=>by
  have hR:=Xo h hr;unfold UG
  split
  ·exact BA_ hr n _ hR.inv
  ·exact hR.inv
theorem Hk_ (r:List Fct):Jf [] r=4097*r.length:=by
 unfold Jf
 induction r with
 | nil=>rfl
 | cons f r ih=>rw[List.map_cons,cZ0,ih,List.length_cons];simp only[xB,Gt];omega
def Ot (c:Cnf) (w:List Int) (r:List Fct):List (Fct×Sht):=UG c w r (4097*r.length+1) []
theorem DE_ {c:Cnf} {w:List Int} {r:List Fct} (hr:∀f∈r,0<=f.fr/\f.fr<=f.to/\f.to<=w.length):OA c w (Ot c w r):=BA_ hr _ _ (fun f s h=>by cases h)
def UO (c:Cnf) (L:List (Fct×Sht)) (P:List Fct):List Stp:=P.reverse.flatMap (HM c L 4096)
def ON (L:List (Fct×Sht)) (P:List Fct):Nat:=(P.map fun f=>match Gt L f with | some s=>s.st.toNat | none=>0).sum
def JJ_ (L:List (Fct×Sht)) (P:List Fct):Prop:=∀f∈P,∃s,Gt L f=some s
theorem ZI (c:Cnf) (L:List (Fct×Sht)):UO c L []=[]:=rfl
theorem Kn (c:Cnf) (L:List (Fct×Sht)) (P:List Fct) (f:Fct):UO c L (P++[f])=HM c L 4096 f++UO c L P:=by
 unfold UO;rw[List.reverse_append];rfl
theorem Hq_ (c:Cnf) (L:List (Fct×Sht)) (f:Fct):UO c L [f]=HM c L 4096 f:=by
 have:=Kn c L [] f;rw[ZI,bR0]at this;exact this
theorem Km (L:List (Fct×Sht)) (P:List Fct) {f:Fct} {s:Sht} (h:Gt L f=some s):ON L (P++[f])=ON L P+s.st.toNat:=by
 unfold ON;rw[bA0,List.sum_append];simp[h]
theorem Kl_ {c:Cnf} {w:List Int} {L:List (Fct×Sht)} (hI:OA c w L) {P:List Fct} {f:Fct} {s:Sht} {p:Prod} (hg:Gt L f=some s) (hp:c.prods[s.pr.toNat]? =some p) (hb:p.body.length<2):UO c L (P++[f])=⟨s.pr,f.fr,f.to⟩::UO c L P/\ON L P<ON L (P++[f]):=by
 have h1:=(hI f s hg).2.one;refine⟨?_,by rw[Km L P hg];omega⟩;rw[Kn,show (4096:Nat)=4095+1 from rfl,Gk (w:=w) hg hp hb];rfl
theorem Kk_ {c:Cnf} {w:List Int} {L:List (Fct×Sht)} (hI:OA c w L) {P:List Fct} {f:Fct} {s:Sht} {p:Prod} {a b:Sym} {r:List Sym} (hg:Gt L f=some s) (hp:c.prods[s.pr.toNat]? =some p) (hb:p.body=a::b::r) :
  UO c L (P++[f])=⟨s.pr,f.fr,f.to⟩::UO c L (P++[⟨b.n,s.mi,f.to⟩,⟨a.n,f.fr,s.mi⟩])/\ON L (P++[⟨b.n,s.mi,f.to⟩,⟨a.n,f.fr,s.mi⟩])<ON L (P++[f])/\(∃s1,Gt L ⟨a.n,f.fr,s.mi⟩=some s1)/\(∃s2,Gt L ⟨b.n,s.mi,f.to⟩=some s2):=by
 obtain⟨h4,hW⟩:=hI f s hg;obtain⟨p',qN,_,hd⟩:=hW.way;have e:p'=p:=Option.some.inj (qN.symm.trans hp);subst e;rw[hb]at hd;obtain⟨_,_,s1,s2,e1,e2,h3⟩:=hd;have i1:=(hI _ _ e1).2.one;have i2:=(hI _ _ e2).2.one;have hs:P++[(⟨b.n,s.mi,f.to⟩:Fct),⟨a.n,f.fr,s.mi⟩]=(P++[⟨b.n,s.mi,f.to⟩])++[⟨a.n,f.fr,s.mi⟩]:=by simp
 refine⟨?_,?_,⟨s1,e1⟩,s2,e2⟩
 ·rw[hs,Kn,Kn,Kn,show HM c L 4096 f=HM c L (4095+1) f from rfl,NG hg hp hb,NH hI 4095 4096 _ s1 e1 (by omega) (by omega),NH hI 4095 4096 _ s2 e2 (by omega) (by omega),List.cons_append,aQ0]
 ·rw[hs,Km _ _ e1,Km _ _ e2,Km L P hg];omega
theorem iD {c:Cnf} {w:List Int} (zA:OkC c) (hN:c.nts<=1024) (hw:w.length<=64):∀f∈HP c w,0<=f.fr/\f.fr<=f.to/\f.to<=w.length:=fun f hf=>by
 obtain⟨a,b,c,_⟩:=((JC_ zA hN hw f).1 hf).inF;exact⟨a,b,c⟩
def Pi (a b:Sym) (f:Fct) (i:Int) (L:List (Fct×Sht)) (k:Nat):Bool×List (Fct×Sht):=(List.range k).foldl (fun x (k:Nat)=>EU_ a b f i x (f.fr+k)) (false,L)
theorem FE_ (a b:Sym) (f:Fct) (i:Int) (L:List (Fct×Sht)) (k:Nat):Pi a b f i L (k+1)=EU_ a b f i (Pi a b f i L k) (f.fr+k):=by unfold Pi;rw[dF0,cF0];rfl
theorem KZ_ {c:Cnf} {w:List Int} {r:List Fct} {L:List (Fct×Sht)} (h:OA c w L) {f:Fct} (hf:f∈r) (h0:0<=f.fr) (h1:f.fr<=f.to) (h2:f.to<=w.length) {i:Nat} {p:Prod} (hp:c.prods[i]? =some p) (hh:p.head=f.nt) {a b:Sym} {t:List Sym} (hb:p.body=a::b::t) {k:Nat} (hk:k<=(f.to-f.fr+1).toNat):StO c w r L (Pi a b f i L k):=by
 refine Jt (P:=StO c w r L) (fun j hj y hy=> ?_) _ (StO.start h);have:=cD0.1 hj;exact Ce_ hy hf h0 h1 h2 hp hh hb (by omega) (by omega)
def Sn (c:Cnf) (w:List Int) (f:Fct) (x:Bool×List (Fct×Sht)) (i:Nat):Bool×List (Fct×Sht):=(c.prods.zipIdx.take i).foldl (Er_ w f) x
theorem Eq_ {c:Cnf} {w:List Int} {f:Fct} {x:Bool×List (Fct×Sht)} {i:Nat} {p:Prod} (h:c.prods[i]? =some p):Sn c w f x (i+1)=Er_ w f (Sn c w f x i) (p,i):=by
 unfold Sn;rw[bF0,cF0];simp[h]
theorem Hl_ {c:Cnf} {w:List Int} {f:Fct} {x:Bool×List (Fct×Sht)}:Sn c w f x c.prods.length=Ek_ c w x f:=by
 unfold Sn Ek_;rw[cL0 (by simp)]
theorem Kj_ {c:Cnf} {w:List Int} {r:List Fct} {L:List (Fct×Sht)} {x:Bool×List (Fct×Sht)} (h:StO c w r L x) {f:Fct} (hf:f∈r) (h0:0<=f.fr) (h1:f.fr<=f.to) (h2:f.to<=w.length) (i:Nat):StO c w r L (Sn c w f x i) :=
 Jt (P:=StO c w r L) (fun q hq y hy=>BN_ hy hf h0 h1 h2 (Gr_ (cG0 hq))) x h
def RP (c:Cnf) (w:List Int) (r:List Fct) (L:List (Fct×Sht)) (k:Nat):Bool×List (Fct×Sht):=(r.take k).foldl (Ek_ c w) (false,L)
theorem Em_ {c:Cnf} {w:List Int} {r:List Fct} {L:List (Fct×Sht)} {k:Nat} {f:Fct} (h:r[k]? =some f):RP c w r L (k+1)=Ek_ c w (RP c w r L k) f:=by
 unfold RP;rw[bF0,cF0,h];rfl
theorem Hd_ (c:Cnf) (w:List Int) (r:List Fct) (L:List (Fct×Sht)):RP c w r L r.length=Qh c w r L:=by
 unfold RP Qh;rw[aY0]
theorem Kh_ {c:Cnf} {w:List Int} {r:List Fct} {L:List (Fct×Sht)} (h:OA c w L) (hr:∀f∈r,0<=f.fr/\f.fr<=f.to/\f.to<=w.length) (k:Nat):StO c w r L (RP c w r L k) :=
 Jt (P:=StO c w r L) (fun f hf y hy=>BC_ hy (cG0 hf) (hr f (cG0 hf)).1 (hr f (cG0 hf)).2.1 (hr f (cG0 hf)).2.2) _ (StO.start h)
def tL (c:Cnf) (w:List Int) (r:List Fct) (x:Bool×List (Fct×Sht)):Prop:=OA c w x.2/\if x.1 then ∀n,Jf x.2 r<n->UG c w r n x.2=Ot c w r else x.2=Ot c w r
theorem tL.start {c:Cnf} {w:List Int} {r:List Fct} (hr:∀f∈r,0<=f.fr/\f.fr<=f.to/\f.to<=w.length):tL c w r (true,[]):=by
 have hI:OA c w []:=fun f s h=>by cases h
 refine⟨hI,?_⟩;rw[if_pos rfl];intro n hn;unfold Ot;exact OF hr n _ [] hI hn (by rw[Hk_];omega)
theorem tL.step {c:Cnf} {w:List Int} {r:List Fct} (hr:∀f∈r,0<=f.fr/\f.fr<=f.to/\f.to<=w.length) {L:List (Fct×Sht)} (h:tL c w r (true,L)):tL c w r (Qh c w r L)/\2*Jf (Qh c w r L).2 r+(if (Qh c w r L).1 then 1 else 0)<2*Jf L r+1:=by
 obtain⟨hI,h1⟩:=h;simp only[if_true]at hI h1;have hR:=Xo hI hr;have wY:=hR.le
 cases hb:(Qh c w r L).1 with
 | true =>
  have qV:=hR.lt hb;refine⟨⟨hR.inv,?_⟩,by simp;omega⟩;rw[hb,if_pos rfl];intro n hn;have h2:=h1 (Jf L r+1) (by omega);rw[UG,if_pos hb]at h2;rw[<-h2];exact OF hr n _ _ hR.inv hn qV
 | false =>
  refine⟨⟨hR.inv,?_⟩,by simp;omega⟩;rw[hb,if_neg (by simp)];have h2:=h1 (Jf L r+1) (by omega);rw[UG,if_neg (by rw[hb];simp)]at h2;exact h2
theorem iC {c:Cnf} (zA:OkC c) {p:Prod} (hp:p∈c.prods):p.body=[]\/(∃a,p.body=[a])\/∃a b,p.body=[a,b]:=by
 rcases zA.2 p hp with h | ⟨a,h⟩ | ⟨a,b,h,_⟩
 ·exact .inl h
 ·exact .inr (.inl ⟨_,h⟩)
 ·exact .inr (.inr ⟨_,_,h⟩)
end Go.Proofs.Wy
end
section
namespace Go.Proofs.Wy
open Go Go.Dm Tryz
attribute [local irreducible] DW Bi Bk
set_option maxRecDepth 100000
def sH : Ann:=⟨[71,127],[⟨11,[14],[],[0,1,2,3,4,5,6,7,8,9,10,11,12]⟩,⟨12,[16],[],[0,1,2,3,4,5,6,7,8,9,10,11,12]⟩]⟩
theorem FH_ (c:Cnf) (w:List Int) (r:List Fct) (L:List (Fct×Sht)) (f:Fct) (i:Nat) (hd:Int) (hp:c.prods[i]? =some ⟨hd,[]⟩) :
  AS prog (.func 180) [Df c w r,.agg (Ap f),.int .i64 i,.omp 1 0,.fn (.func 179) [] [.bx 0 0 0]] (AU L) (.bool (MF w [] f i L).1) (AU (MF w [] f i L).2):=by
 refine Bj [] [(0,0,0),(1,1,0)] sH func180 call180 ntmps180 mxd (Aq @sH.eq_1 results180) rfl (fun qJ B qX qQ=> ?_) (hv:=(by simp[AU]));clear qJ;simp only[Am];obtain⟨qV,qN⟩:=aB0.1 hp;unfold MF;simp only;have e1:=KQ L f ⟨1,i,f.fr⟩;obtain⟨fn,u,v⟩:=f;simp only at e1 |-
 by_cases h:u=v
 ·subst h;rw[if_pos rfl];obtain⟨Y,hY⟩:∃Y,Y=EZ L ⟨fn,u,u⟩ ⟨1,i,u⟩:=⟨_,rfl⟩;obtain⟨M,hM⟩:∃M,M=KR L ⟨fn,u,u⟩ ⟨1,i,u⟩:=⟨_,rfl⟩;rw[<-hY,<-hM]at e1 |-;simp only[AU,Ap,CE]at e1;exact Au Aa (AA (Ee [(0,0),(1,1)] [] e1)) (JT @AU.eq_1 @Df.eq_1 @Ap.eq_1 @Ag.eq_1 qV qN)
 ·rw[if_neg h];have hb:(u==v)=false:=by simpa using h
  exact Au Aa Aa (ML @AU.eq_1 @Df.eq_1 @Ap.eq_1 @Ag.eq_1 qV qN h hb)
def Um : Ann:=⟨[71,127],[⟨11,[14],[],[0,1,2,3,4,5,6,7,8,9,10,11,12]⟩,⟨12,[16],[],[0,1,2,3,4,5,6,7,8,9,10,11,12]⟩]⟩
theorem FG_ (c:Cnf) (w:List Int) (r:List Fct) (L:List (Fct×Sht)) (fn:Int) (u v:Nat) (hu:u<=v) (hv:v<=w.length) (hw:w.length<=64) (i:Nat) (hd:Int) (x:Sym) (hp:c.prods[i]? =some ⟨hd,[x]⟩) :
  AS prog (.func 180) [Df c w r,.agg (Ap ⟨fn,u,v⟩),.int .i64 i,.omp 1 0,.fn (.func 179) [] [.bx 0 0 0]] (AU L) (.bool (MF w [x] ⟨fn,u,v⟩ i L).1) (AU (MF w [x] ⟨fn,u,v⟩ i L).2):=by
 refine Bj [] [(0,0,0),(1,1,0)] Um func180 call180 ntmps180 mxd (Aq @Um.eq_1 results180) rfl (fun qJ B qX qQ=> ?_) (hv:=(by simp[AU]));clear qJ;simp only[Am];obtain⟨qV,qN⟩:=aB0.1 hp;unfold MF;simp only[dI0];have e1:=KQ L ⟨fn,u,v⟩ ⟨1,i,u⟩;have wk:IntKind.i64.wrap ((u:Int)+1)=(u:Int)+1:=wq
 by_cases h:(v:Int)=u+1
 ·have jT:u<w.length:=by omega
  obtain⟨y,hy⟩:∃y,w[u]? =some y:=⟨w[u],aH0 jT⟩;have zM:w[u]'jT=y:=(aB0.1 hy).2;have hvu:v=u+1:=by omega
  subst hvu;rw[hy]
  by_cases hx:y=x.n
  ·subst hx;simp only[aX0,Int.cast_ofNat_Int,and_self,if_true]at e1 |-;obtain⟨Y,hY⟩:∃Y,Y=EZ L ⟨fn,u,(u:Int)+1⟩ ⟨1,i,u⟩:=⟨_,rfl⟩;obtain⟨M,hM⟩:∃M,M=KR L ⟨fn,u,(u:Int)+1⟩ ⟨1,i,u⟩:=⟨_,rfl⟩;rw[<-hY,<-hM]at e1 |-;simp only[AU,Ap,CE]at e1;exact Au Aa (AA (Ee [(0,0),(1,1)] [] e1)) (Be_ @AU.eq_1 @Df.eq_1 @Ap.eq_1 @Ag.eq_1 @Az.eq_1 @Cl.eq_1 qV qN wk jT hy zM)
  ·rw[if_neg (fun hh=>hx (Option.some.inj hh.2))];have cF:(y==x.n)=false:=by simpa using hx
   exact Au Aa Aa (YD @AU.eq_1 @Df.eq_1 @Ap.eq_1 @Ag.eq_1 @Az.eq_1 @Cl.eq_1 qV qN wk jT hy zM hx cF)
 ·rw[if_neg (fun hh=>h hh.1)];have hb:((v:Int)==(u:Int)+1)=false:=by simpa using h
  cases hy:w[u]? with
  | none=>exact Au Aa Aa (Be_ @AU.eq_1 @Df.eq_1 @Ap.eq_1 @Ag.eq_1 @Az.eq_1 @Cl.eq_1 qV qN wk h hb hy)
  | some y=>exact Au Aa Aa (Be_ @AU.eq_1 @Df.eq_1 @Ap.eq_1 @Ag.eq_1 @Az.eq_1 @Cl.eq_1 qV qN wk h hb hy)
def AL : Ann:=⟨[71,127],[⟨11,[14],[],[0,1,2,3,4,5,6,7,8,9,10,11,12]⟩,⟨12,[16],[],[0,1,2,3,4,5,6,7,8,9,10,11,12]⟩]⟩
theorem FF_ (c:Cnf) (w:List Int) (r:List Fct) (L:List (Fct×Sht)) (hI:OA c w L) (fn:Int) (u v:Nat) (hf:(⟨fn,u,v⟩:Fct)∈r) (hu:u<=v) (hv:v<=w.length) (hw:w.length<=64) (i:Nat) (a b:Sym) (hp:c.prods[i]? =some ⟨fn,[a,b]⟩) :
  AS prog (.func 180) [Df c w r,.agg (Ap ⟨fn,u,v⟩),.int .i64 i,.omp 1 0,.fn (.func 179) [] [.bx 0 0 0]] (AU L) (.bool (Pi a b ⟨fn,u,v⟩ i L (v-u+1)).1) (AU (Pi a b ⟨fn,u,v⟩ i L (v-u+1)).2):=by
 refine Bj [] [(0,0,0),(1,1,0)] AL func180 call180 ntmps180 mxd (Aq @AL.eq_1 results180) rfl (fun qJ B qX qQ=> ?_) (hv:=(by simp[AU]));clear qJ;simp only[Am];obtain⟨qV,qN⟩:=aB0.1 hp
 cases hy:w[u]? <;>(
  (refine AM Aa Aa (YC @AU.eq_1 @Df.eq_1 @Ap.eq_1 @Ag.eq_1 @Az.eq_1 @Cl.eq_1 qV qN hy) ?_;intros;refine Aj ?_)
  refine Ak (X:={k:Nat//k<=v-u+1}) (fun k=>⟨[(2,.int .i64 i),(3,.omp 1 0),(4,.fn (.func 179) [] [.bx 0 0 0]),(6,.ref (Ap ⟨fn,u,v⟩)),(11,Br [a,b]),(12,.bool (Pi a b ⟨fn,u,v⟩ i L k.1).1),(13,.int .i64 ((u:Int)+k.1))],AU (Pi a b ⟨fn,u,v⟩ i L k.1).2⟩) (fun k=>v-u+1-k.1) ⟨0,by omega⟩ (Sub.lit (by simp[AU,Pi,Ap])) ?_;rintro⟨k,hk⟩;simp only
  by_cases qS:k<v-u+1
  ·have qL:=FE_ a b ⟨fn,u,v⟩ i L k;have hIk:=(KZ_ (w:=w) (r:=r) hI hf (by simp) (by simp only;omega) (by simp only;omega) hp rfl (a:=a) (b:=b) (t:=[]) rfl (k:=k) (by simp only;omega)).inv;obtain⟨⟨tb,T⟩,hT⟩:∃T,T=Pi a b ⟨fn,u,v⟩ i L k:=⟨_,rfl⟩;rw[<-hT]at qL hIk |-;simp only at qL hIk |-;have wk:IntKind.i64.wrap ((u:Int)+k+1)=(u:Int)+k+1:=wq;have wY:(u:Int)+k<=v:=by omega
   have qY:=Ac_ T;unfold EU_ at qL;simp only at qL;obtain⟨U,hU⟩:∃U,U=Pi a b ⟨fn,u,v⟩ i L (k+1):=⟨_,rfl⟩;rw[<-hU]at qL;have hnext:(u:Int)+((k+1:Nat):Int)=(u:Int)+k+1:=by omega
   cases wP:Gt T ⟨a.n,u,(u:Int)+k⟩with
   | none =>
    rw[wP]at qL;simp only at qL;obtain⟨h1,_⟩:=Fq wP;simp only[CN,Ap]at h1
    cases vM:Gt T ⟨b.n,(u:Int)+k,v⟩with
    | none =>
     obtain⟨h2,_⟩:=Fq vM;simp only[CN,Ap]at h2
     (repeat (first | (refine HR (id:=11) (AL).ow [] [] 12 14 147 [.int .i64 0,.int .i64 0,.int .i64 0] mxd rfl rfl rfl (by kernel_rfl) (by kernel_rfl) (by kernel_rfl) (by kernel_rfl) (by simp[qX]) (by simp) (by simp) (by rfl) ?_;simp only[cV0,cA0,bZ0,cT0];simp[Bz,SQ,AL,qX,AU,Ap,Az,qY,h1,h2,wY,wk];try simp (disch:=omega) only[Af]) | (refine HR (id:=12) (AL).ow [] [] 12 16 147 [.int .i64 0,.int .i64 0,.int .i64 0] mxd rfl rfl rfl (by kernel_rfl) (by kernel_rfl) (by kernel_rfl) (by kernel_rfl) (by simp[qX]) (by simp) (by simp) (by rfl) ?_;simp only[cV0,cA0,bZ0,cT0];simp[Bz,SQ,AL,qX,AU,Ap,Az,qY,h1,h2,wY,wk];try simp (disch:=omega) only[Af]) | refine AE fun K hK=> ?_ | (refine Bv AL mxd (by kernel_rfl) ?_;simp[AL,qX,AU,Ap,Az,qY,h1,h2,wY,wk];try simp (disch:=omega) only[Af]) | refine An ?_ | (refine AW ?_ ?_ ?_;(· (simp[qX,AU,Ap,Az,qY,h1,h2,wY,wk];done));(try (rotate_left;(· (intro hc;(try simp[qX,AU,Ap,Az,qY,h1,h2,wY,wk]at hc);done))))) | (refine AH ?_;simp[results180,qX,AU,Ap,Az,qY,h1,h2,wY,wk]) | ((first | refine Ay ?_ | refine Ax ?_);simp[qX,AU,Ap,Az,qY,h1,h2,wY,wk]) | (intro hc;(try simp[qX,AU,Ap,Az,qY,h1,h2,wY,wk]at hc);(try (exfalso;omega))) | (refine⟨?_,?_⟩; · omega) | omega | apply_assumption -exfalso -symm | (exfalso;omega)))
     refine Al.mk ⟨k+1,by omega⟩ (Sub.lit (by simp[AU,Ap,<-hU,qL,Int.add_assoc])) (by simp;omega)
     skip
    | some s2 =>
     obtain⟨i2,h2,h3,_⟩:=Ev vM;simp only[CN,Ap,OC,CE]at h2 h3
     (repeat (first | (refine HR (id:=11) (AL).ow [] [] 12 14 147 [.int .i64 0,.int .i64 0,.int .i64 0] mxd rfl rfl rfl (by kernel_rfl) (by kernel_rfl) (by kernel_rfl) (by kernel_rfl) (by simp[qX]) (by simp) (by simp) (by rfl) ?_;simp only[cV0,cA0,bZ0,cT0];simp[Bz,SQ,AL,qX,AU,Ap,Az,qY,h1,h2,h3,wY,wk];try simp (disch:=omega) only[Af]) | (refine HR (id:=12) (AL).ow [] [] 12 16 147 [.int .i64 0,.int .i64 0,.int .i64 0] mxd rfl rfl rfl (by kernel_rfl) (by kernel_rfl) (by kernel_rfl) (by kernel_rfl) (by simp[qX]) (by simp) (by simp) (by rfl) ?_;simp only[cV0,cA0,bZ0,cT0];simp[Bz,SQ,AL,qX,AU,Ap,Az,qY,h1,h2,h3,wY,wk];try simp (disch:=omega) only[Af]) | refine AE fun K hK=> ?_ | (refine Bv AL mxd (by kernel_rfl) ?_;simp[AL,qX,AU,Ap,Az,qY,h1,h2,h3,wY,wk];try simp (disch:=omega) only[Af]) | refine An ?_ | (refine AW ?_ ?_ ?_;(· (simp[qX,AU,Ap,Az,qY,h1,h2,h3,wY,wk];done));(try (rotate_left;(· (intro hc;(try simp[qX,AU,Ap,Az,qY,h1,h2,h3,wY,wk]at hc);done))))) | (refine AH ?_;simp[results180,qX,AU,Ap,Az,qY,h1,h2,h3,wY,wk]) | ((first | refine Ay ?_ | refine Ax ?_);simp[qX,AU,Ap,Az,qY,h1,h2,h3,wY,wk]) | (intro hc;(try simp[qX,AU,Ap,Az,qY,h1,h2,h3,wY,wk]at hc);(try (exfalso;omega))) | (refine⟨?_,?_⟩; · omega) | omega | apply_assumption -exfalso -symm | (exfalso;omega)))
     refine Al.mk ⟨k+1,by omega⟩ (Sub.lit (by simp[AU,Ap,<-hU,qL,Int.add_assoc])) (by simp;omega)
     skip
   | some s1 =>
    rw[wP]at qL;obtain⟨i1,h1,yA,_⟩:=Ev wP;simp only[CN,Ap,OC,CE]at h1 yA
    cases vM:Gt T ⟨b.n,(u:Int)+k,v⟩with
    | none =>
     rw[vM]at qL;simp only at qL;obtain⟨h2,_⟩:=Fq vM;simp only[CN,Ap]at h2
     (repeat (first | (refine HR (id:=11) (AL).ow [] [] 12 14 147 [.int .i64 0,.int .i64 0,.int .i64 0] mxd rfl rfl rfl (by kernel_rfl) (by kernel_rfl) (by kernel_rfl) (by kernel_rfl) (by simp[qX]) (by simp) (by simp) (by rfl) ?_;simp only[cV0,cA0,bZ0,cT0];simp[Bz,SQ,AL,qX,AU,Ap,Az,qY,h1,yA,h2,wY,wk];try simp (disch:=omega) only[Af]) | (refine HR (id:=12) (AL).ow [] [] 12 16 147 [.int .i64 0,.int .i64 0,.int .i64 0] mxd rfl rfl rfl (by kernel_rfl) (by kernel_rfl) (by kernel_rfl) (by kernel_rfl) (by simp[qX]) (by simp) (by simp) (by rfl) ?_;simp only[cV0,cA0,bZ0,cT0];simp[Bz,SQ,AL,qX,AU,Ap,Az,qY,h1,yA,h2,wY,wk];try simp (disch:=omega) only[Af]) | refine AE fun K hK=> ?_ | (refine Bv AL mxd (by kernel_rfl) ?_;simp[AL,qX,AU,Ap,Az,qY,h1,yA,h2,wY,wk];try simp (disch:=omega) only[Af]) | refine An ?_ | (refine AW ?_ ?_ ?_;(· (simp[qX,AU,Ap,Az,qY,h1,yA,h2,wY,wk];done));(try (rotate_left;(· (intro hc;(try simp[qX,AU,Ap,Az,qY,h1,yA,h2,wY,wk]at hc);done))))) | (refine AH ?_;simp[results180,qX,AU,Ap,Az,qY,h1,yA,h2,wY,wk]) | ((first | refine Ay ?_ | refine Ax ?_);simp[qX,AU,Ap,Az,qY,h1,yA,h2,wY,wk]) | (intro hc;(try simp[qX,AU,Ap,Az,qY,h1,yA,h2,wY,wk]at hc);(try (exfalso;omega))) | (refine⟨?_,?_⟩; · omega) | omega | apply_assumption -exfalso -symm | (exfalso;omega)))
     refine Al.mk ⟨k+1,by omega⟩ (Sub.lit (by simp[AU,Ap,<-hU,qL,Int.add_assoc])) (by simp;omega)
     skip
    | some s2 =>
     rw[vM]at qL;simp only at qL;obtain⟨i2,h2,jL,_⟩:=Ev vM;simp only[CN,Ap,OC,CE]at h2 jL;have b1:=(hIk _ _ wP).1;have b2:=(hIk _ _ wP).2.one;have b3:=(hIk _ _ vM).1;have b4:=(hIk _ _ vM).2.one;have w1:IntKind.i64.wrap (1+s1.st)=1+s1.st:=wq;have w2:IntKind.i64.wrap (1+s1.st+s2.st)=1+s1.st+s2.st:=wq;have e1:=KQ T ⟨fn,u,v⟩ ⟨1+s1.st+s2.st,i,(u:Int)+k⟩;obtain⟨M,hM⟩:∃M,M=KR T ⟨fn,u,v⟩ ⟨1+s1.st+s2.st,i,(u:Int)+k⟩:=⟨_,rfl⟩
     cases hY:EZ T ⟨fn,u,v⟩ ⟨1+s1.st+s2.st,i,(u:Int)+k⟩with
     | false =>
      rw[hY]at e1 qL;rw[<-hM]at e1 qL;simp only[AU,Ap,CE]at e1
      (repeat (first | (refine HR (id:=11) (AL).ow [] [] 12 14 147 [.int .i64 0,.int .i64 0,.int .i64 0] mxd rfl rfl rfl (by kernel_rfl) (by kernel_rfl) (by kernel_rfl) (by kernel_rfl) (by simp[qX]) (by simp) (by simp) (by rfl) ?_;simp only[cV0,cA0,bZ0,cT0];simp[Bz,SQ,AL,qX,AU,Ap,Az,qY,h1,yA,h2,jL,wY,wk,w1,w2];try simp (disch:=omega) only[Af]) | (refine HR (id:=12) (AL).ow [] [] 12 16 147 [.int .i64 0,.int .i64 0,.int .i64 0] mxd rfl rfl rfl (by kernel_rfl) (by kernel_rfl) (by kernel_rfl) (by kernel_rfl) (by simp[qX]) (by simp) (by simp) (by rfl) ?_;simp only[cV0,cA0,bZ0,cT0];simp[Bz,SQ,AL,qX,AU,Ap,Az,qY,h1,yA,h2,jL,wY,wk,w1,w2];try simp (disch:=omega) only[Af]) | refine AE fun K hK=> ?_ | (refine Bv AL mxd (by kernel_rfl) ?_;simp[AL,qX,AU,Ap,Az,qY,h1,yA,h2,jL,wY,wk,w1,w2];try simp (disch:=omega) only[Af]) | refine An ?_ | (refine AW ?_ ?_ ?_;(· (simp[qX,AU,Ap,Az,qY,h1,yA,h2,jL,wY,wk,w1,w2];done));(try (rotate_left;(· (intro hc;(try simp[qX,AU,Ap,Az,qY,h1,yA,h2,jL,wY,wk,w1,w2]at hc);done))))) | (refine AH ?_;simp[results180,qX,AU,Ap,Az,qY,h1,yA,h2,jL,wY,wk,w1,w2]) | ((first | refine Ay ?_ | refine Ax ?_);simp[qX,AU,Ap,Az,qY,h1,yA,h2,jL,wY,wk,w1,w2]) | (intro hc;(try simp[qX,AU,Ap,Az,qY,h1,yA,h2,jL,wY,wk,w1,w2]at hc);(try (exfalso;omega))) | (refine AK [(0,0),(1,1)] [] (e1) ?_ ?_;(· (simp[qX,AU,Ap,Az,qY,h1,yA,h2,jL,wY,wk,w1,w2];done));(intro _;try simp[qX,AU,Ap,Az,qY,h1,yA,h2,jL,wY,wk,w1,w2])) | (refine⟨?_,?_⟩; · omega) | omega | apply_assumption -exfalso -symm | (exfalso;omega)))
      refine Al.mk ⟨k+1,by omega⟩ (Sub.lit (by simp[AU,Ap,<-hU,qL,Int.add_assoc])) (by simp;omega)
      skip
     | true =>
      rw[hY]at e1 qL;rw[<-hM]at e1 qL;simp only[AU,Ap,CE]at e1
      (repeat (first | (refine HR (id:=11) (AL).ow [] [] 12 14 147 [.int .i64 0,.int .i64 0,.int .i64 0] mxd rfl rfl rfl (by kernel_rfl) (by kernel_rfl) (by kernel_rfl) (by kernel_rfl) (by simp[qX]) (by simp) (by simp) (by rfl) ?_;simp only[cV0,cA0,bZ0,cT0];simp[Bz,SQ,AL,qX,AU,Ap,Az,qY,h1,yA,h2,jL,wY,wk,w1,w2];try simp (disch:=omega) only[Af]) | (refine HR (id:=12) (AL).ow [] [] 12 16 147 [.int .i64 0,.int .i64 0,.int .i64 0] mxd rfl rfl rfl (by kernel_rfl) (by kernel_rfl) (by kernel_rfl) (by kernel_rfl) (by simp[qX]) (by simp) (by simp) (by rfl) ?_;simp only[cV0,cA0,bZ0,cT0];simp[Bz,SQ,AL,qX,AU,Ap,Az,qY,h1,yA,h2,jL,wY,wk,w1,w2];try simp (disch:=omega) only[Af]) | refine AE fun K hK=> ?_ | (refine Bv AL mxd (by kernel_rfl) ?_;simp[AL,qX,AU,Ap,Az,qY,h1,yA,h2,jL,wY,wk,w1,w2];try simp (disch:=omega) only[Af]) | refine An ?_ | (refine AW ?_ ?_ ?_;(· (simp[qX,AU,Ap,Az,qY,h1,yA,h2,jL,wY,wk,w1,w2];done));(try (rotate_left;(· (intro hc;(try simp[qX,AU,Ap,Az,qY,h1,yA,h2,jL,wY,wk,w1,w2]at hc);done))))) | (refine AH ?_;simp[results180,qX,AU,Ap,Az,qY,h1,yA,h2,jL,wY,wk,w1,w2]) | ((first | refine Ay ?_ | refine Ax ?_);simp[qX,AU,Ap,Az,qY,h1,yA,h2,jL,wY,wk,w1,w2]) | (intro hc;(try simp[qX,AU,Ap,Az,qY,h1,yA,h2,jL,wY,wk,w1,w2]at hc);(try (exfalso;omega))) | (refine AK [(0,0),(1,1)] [] (e1) ?_ ?_;(· (simp[qX,AU,Ap,Az,qY,h1,yA,h2,jL,wY,wk,w1,w2];done));(intro _;try simp[qX,AU,Ap,Az,qY,h1,yA,h2,jL,wY,wk,w1,w2])) | (refine⟨?_,?_⟩; · omega) | omega | apply_assumption -exfalso -symm | (exfalso;omega)))
      refine Al.mk ⟨k+1,by omega⟩ (Sub.lit (by simp[AU,Ap,<-hU,qL,Int.add_assoc])) (by simp;omega)
      skip
  ·have qZ:k=v-u+1:=by omega
   subst qZ;have rZ:¬(u:Int)+((v-u+1:Nat):Int)<=v:=by omega
   exact Au Aa Aa (Ez @AU.eq_1 @Ap.eq_1 rZ))
theorem Au_ (c:Cnf) (w:List Int) (r:List Fct) (L:List (Fct×Sht)) (zA:OkC c) (hI:OA c w L) (fn:Int) (u v:Nat) (hf:(⟨fn,u,v⟩:Fct)∈r) (hu:u<=v) (hv:v<=w.length) (hw:w.length<=64) (i:Nat) (p:Prod) (hp:c.prods[i]? =some p) (hh:p.head=fn) :
  AS prog (.func 180) [Df c w r,.agg (Ap ⟨fn,u,v⟩),.int .i64 i,.omp 1 0,.fn (.func 179) [] [.bx 0 0 0]] (AU L) (.bool (MF w p.body ⟨fn,u,v⟩ i L).1) (AU (MF w p.body ⟨fn,u,v⟩ i L).2):=by
 obtain⟨hd,body⟩:=p;simp only at hh |-;subst hh
 rcases iC zA (bH0 hp)with h | ⟨a,h⟩ | ⟨a,b,h⟩
 ·simp only at h;subst h;exact FH_ c w r L _ i _ hp
 ·simp only at h;subst h;exact FG_ c w r L hd u v hu hv hw i _ a hp
 ·simp only at h;subst h;have h1:=FF_ c w r L hI hd u v hf hu hv hw i a b hp
  have h2:Pi a b ⟨hd,u,v⟩ i L (v-u+1)=MF w [a,b] ⟨hd,u,v⟩ i L:=by
   unfold Pi MF;simp only;rw[show ((v:Int)-u+1).toNat=v-u+1 by omega]
  rw[h2]at h1;exact h1
end Go.Proofs.Wy
end
