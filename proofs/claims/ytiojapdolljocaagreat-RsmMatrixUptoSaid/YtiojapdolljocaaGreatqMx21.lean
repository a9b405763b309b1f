/- Parts of a proof, laid together: RX5, WC1, WC2, BX0, WOg, WSg. -/
import Derived.Test.YtiojapdolljocaaGreatqMx15
import Derived.Test.YtiojapdolljocaaGreatqMx19
import Derived.Test.YtiojapdolljocaaGreatqMx20
set_option linter.unusedSimpArgs false
set_option maxHeartbeats 8000000
set_option linter.unusedVariables false
set_option linter.unusedSectionVars false
section
namespace Go.Proofs.Wy
open Go Go.Dm Tryz
variable [DMode]
attribute [local irreducible] DW Bs Bt DZ_ RB Dm.Sub
set_option maxRecDepth 100000
def BR (x:Nd):Bool:=decide (x.k=2)||decide (x.k=3)
def CJ_ (l:List Nd) (j:Nat):Option (Nat×ByteArray):=match l[j]? with
 | some p=>if BR p=true then some (j,p.s)else none
 | none=>none
def Cw (l:List Nd) (n:Nat):List (Nat×ByteArray):=(List.range n).filterMap (CJ_ l)
def VO (x:Nat×ByteArray):List DVal:=[.int .i64 x.1,.str x.2]
theorem Ls {l:List Nd} {n:Nat} {p:Nd} (h:l[n]? =some p):Cw l (n+1)=Cw l n++(if BR p=true then [(n,p.s)]else []):=by
 simp only[Cw,List.range_succ,List.filterMap_append,List.filterMap_cons,List.filterMap_nil,CJ_,h]
 by_cases hp:BR p=true<;>simp[hp]
theorem Xn {l:List Nd} {n m:Nat} (h:n<=m):∃r,Cw l m=Cw l n++r:=by
 obtain⟨d,rfl⟩:∃d,m=n+d:=⟨m-n,by omega⟩;exact⟨((List.range d).map (n+ ·)).filterMap (CJ_ l),by simp only[Cw,List.range_add,List.filterMap_append]⟩
theorem Xp {l:List Nd} {n m:Nat} {p:Nd} (h:l[n]? =some p) (hp:BR p=true) (hm:n<m):(Cw l m)[(Cw l n).length]? =some (n,p.s):=by
 obtain⟨r,hr⟩:=Xn (l:=l)  (show n+1<=m from hm);rw[hr,Ls h,if_pos hp];simp
theorem Xo {l:List Nd} {n m:Nat} {p:Nd} (h:l[n]? =some p) (hp:BR p=true) (hm:n<m):(Cw l n).length<(Cw l m).length:=(aB0.1 (Xp h hp hm)).1
def tF : Ann:=⟨[],[]⟩
def KC : Ann:=⟨[5],[]⟩
theorem OL (l:List Nd):Ae prog 66 [AU l] (AU l):=by
 match l with
 | [] =>
  refine aH [] ?_ ?_
  ·refine Ac [7] tF func66 call66 ntmps66 mxd (Au @tF.eq_1 results66) rfl (fun qJ B qX qQ=> ?_) (hd:=(by simp[mx,Bp]));simp only[Am,List.nil_append,AU,List.map_cons];exact Av Ab Ab Ab
  ·refine Ac [7,5] KC func66 call66 ntmps66 mxd (Au @KC.eq_1 results66) rfl (fun qJ B qX qQ=> ?_) (hd:=(by simp[mx,Bp]));simp only[Am,List.nil_append,AU,List.map_cons];exact Av Ab Ab Ab
 | s::l =>
  refine Ac [7,5] KC func66 call66 ntmps66 mxd (Au @KC.eq_1 results66) rfl (fun qJ B qX qQ=> ?_) (hd:=(by simp[mx,Bp]));have qP:(s::l).length*32<=150000000000000:=by have:=qJ.1;simp only[FC,aN0]at this;exact this.1
  clear qJ;have z2:(s::l).length<=9223372036854775807:=by omega
  simp only[List.length_cons]at qP z2;simp only[Am,List.nil_append,AU,List.map_cons];exact Av Ab Ab (Au qP z2)
def Iu : Ann:=⟨[25],[⟨2,[4],[],[]⟩]⟩
theorem Vl (l:List Nd) (ok:Nat->Bool):Ez_ prog 160 [] [.ref [AU l]] ((Cw l l.length).map VO) ok:=by
 intro lb A Z hY;refine Cd [] [(0,0,0),(1,1,1)] Iu func160 call160 ntmps160 mxd (Au @Iu.eq_1 results160) rfl (fun qJ B qX qQ=> ?_);have fD:l.length<9223372036854775807:=Pz (by simpa[Lm,FC]using qJ);clear qJ;simp only[Am,List.nil_append]
 (refine AG Ab Ab Ab ?_;intros;refine Ah ?_)
 refine Ai (X:={k:Nat//k<=l.length/\∀j,j<(Cw l k).length->ok j=true}) (fun k=>⟨[(0,.pk 0 0),(5,AU l),(6,.int .i64 l.length),(7,.int .i64 k.1)],[⟨0,0,.abs (yH lb)⟩,⟨1,1,.abs (A (Cw l k.1).length)⟩]⟩) (fun k=>l.length-k.1) ⟨0,by simp[Cw]⟩ (Sub.lit (by simp[Cw])) ?_;rintro⟨k,hk,hj⟩
 by_cases qV:k<l.length
 ·obtain⟨p,hp,yE,gN⟩:=Ao qV;have hs:=Ls hp
  by_cases hh:BR p=true
  ·have hx:=hY (Cw l k).length (VO (k,p.s)) (by rw[bK0,Xp hp hh qV];rfl) hj;rw[if_pos hh]at hs;have hkd:p.k=2\/p.k=3:=by unfold BR at hh;simpa using hh
   have vF:∀j,j<(Cw l (k+1)).length->ok (Cw l k).length=true->ok j=true:=by
    rw[hs];intro j jG qW;simp at jG
    by_cases hjk:j=(Cw l k).length
    ·subst hjk;exact qW
    ·exact hj j (by omega)
   rcases hkd with hkd | hkd
   ·(refine AG Ab Ab (Jh @Bq.eq_1 qV hp yE hkd) ?_;intros;refine Ah ?_)
    cases qW:ok (Cw l k).length
    ·rw[qW]at hx;refine MT hx (by simp[VO]) (fun r=> ?_);have wJ:=Jr (Xo hp hh qV) hj qW;simp[qX,results160,Iu,wJ];exact Av Ab Ab (AD wJ)
    ·rw[qW]at hx;refine MT hx (by simp[VO]) (fun r=> ?_);simp[qX,results160,Iu]
     (refine AG Ab Ab Ab ?_;intros;refine Ah ?_)
     refine Aj.mk ⟨k+1,by omega,fun j jG=>vF j jG qW⟩ (Sub.lit (by simp[hs])) (by simp;omega)
     skip
   ·(refine AG Ab Ab (Jh @Bq.eq_1 qV hp yE hkd) ?_;intros;refine Ah ?_)
    cases qW:ok (Cw l k).length
    ·rw[qW]at hx;refine MT hx (by simp[VO]) (fun r=> ?_);have wJ:=Jr (Xo hp hh qV) hj qW;simp[qX,results160,Iu,wJ];exact Av Ab Ab (AD wJ)
    ·rw[qW]at hx;refine MT hx (by simp[VO]) (fun r=> ?_);simp[qX,results160,Iu]
     (refine AG Ab Ab Ab ?_;intros;refine Ah ?_)
     refine Aj.mk ⟨k+1,by omega,fun j jG=>vF j jG qW⟩ (Sub.lit (by simp[hs])) (by simp;omega)
     skip
  ·rw[if_neg hh,bO0]at hs;have h2:¬p.k=2:=fun e=>hh (by unfold BR;simp[e])
   have h3:¬p.k=3:=fun e=>hh (by unfold BR;simp[e])
   have jB:(p.k==2)=false:=by simpa using h2
   have h3':(p.k==3)=false:=by simpa using h3
   (refine AG Ab Ab (KQ @Bq.eq_1 qV hp yE h2 h3 jB h3') ?_;intros;refine Ah ?_)
   refine Aj.mk ⟨k+1,by omega,by rw[hs];exact hj⟩ (Sub.lit (by simp[hs])) (by simp;omega)
   skip
 ·have qZ:k=l.length:=by omega
  subst qZ;have wJ:=Js hj;exact Av Ab Ab (AD wJ)
def Zr : Ann:=⟨[1],[⟨1,[1],[],[]⟩]⟩
theorem Vm (l:List Nd):Ae prog 107 [AU l] (.fn (.func 160) [] [.ref [AU l]]):=by
 refine Ac [] Zr func107 call107 ntmps107 mxd (Au @Zr.eq_1 results107) rfl (fun qJ B qX qQ=> ?_) (hd:=(by simp[mx,AL]));clear qJ;simp only[Am];have h1:=OL l;exact Av (AD h1) Ab Ab
def FS (l:List Nd):Nat:=(Cw l l.length).length
def tG : Ann:=⟨[],[]⟩
theorem QK (l:List Nd):Ae prog 57 [AU l] (.int .i64 (FS l)):=by
 refine Ac [] tG func57 call57 ntmps57 mxd (Au @tG.eq_1 results57) rfl (fun qJ B qX qQ=> ?_);have fD:=Pz qJ.1;clear qJ;simp only[Am];have h1:=Vm l
 (refine AG (AD h1) Ab Ab ?_;intros;refine Ah ?_)
 have hI:=Vl l (fun _=>true);have wJ:CG (fun _:Nat=>true) (Cw l l.length).length=none:=Js fun _ _=>rfl
 have hocc:∀x∈(Cw l l.length).map VO,x.length=2/\AL x=0:=by
  intro x hx;obtain⟨y,_,rfl⟩:=aT0.1 hx;exact⟨rfl,by simp[VO,mx]⟩
 have qU:(Cw l l.length).length<=l.length:=by
  simp only[Cw];exact Nat.le_trans (List.length_filterMap_le _ _) (by simp)
 refine Wo (nt:=11) [(3,3)] [] [(0,AU l),(3,.bx 3 0 0),(5,.fn (.func 160) [] [.ref [AU l]])]
  (fun k=>[⟨3,0,.box [.int .i64 (k:Int)]⟩]) (fun k=>[⟨3,0,.box [.int .i64 (k:Int)]⟩]) (fun _=> .ret) [⟨3,0,.box [.int .i64 (FS l:Int)]⟩] .normal
  hI (by simp[qX]) (by simp[Ku]) (by simp) (bP0 (i:=2) rfl) hocc (by simp) ?_ ?_ ?_ ?_ ?_
 ·simp
 ·intro k x hx hj B1 qX;rw[bK0,bF0]at hx;obtain⟨⟨j,s⟩,hy,rfl⟩:=hx;have wR:k<(Cw l l.length).length:=(aB0.1 hy).1;have hw:IntKind.i64.wrap ((k:Int)+1)=(k:Int)+1:=wq;simp only[Array.toList,SE]
  (refine AG Ab Ab Ab ?_;intros;refine Ah ?_)
  refine Il_ fun B2 qX=> ?_
  (refine AG Ab Ab (Au @VO.eq_1 hw) ?_;intros;refine Ah ?_)
  refine Sub.lit ?_;simp
 ·simp only[aN0,wJ];exact⟨trivial,rfl⟩
 ·simp
 ·intro r;simp;exact Av Ab Ab Ab
end Go.Proofs.Wy
end
section
namespace Go.Proofs.Wy
open Go Go.Dm Tryz
variable [DMode]
attribute [local irreducible] DW Bs Bt
set_option maxRecDepth 100000
def Zd : Ann:=⟨[],[]⟩
theorem CC_ (a b c:Int):Ae prog 112 [.sl 1 8 [[.int .i64 a],[.int .i64 b],[.int .i64 c]]] (.int .i64 (if a=0 then (if b=0 then c else b)else a)):=by
 refine Ac [] Zd func112 call112 ntmps112 mxd (Au @Zd.eq_1 results112) rfl (fun qJ B qX qQ=> ?_);simp only[Am]
 (refine AG Ab Ab Ab ?_;intros;refine Ah ?_)
 refine Ai (X:={k:Nat//k<=3/\(0<k->a=0)/\(1<k->b=0)/\(2<k->c=0)}) (fun k=>⟨[(3,.int .i64 0),(6,.sl 1 8 [[.int .i64 a],[.int .i64 b],[.int .i64 c]]),(7,.int .i64 3),(8,.int .i64 k.1)],[]⟩) (fun k=>3-k.1) ⟨0,by simp⟩ (Sub.lit (by simp)) ?_;rintro⟨k,hk,ha,hb,hc⟩
 match k,hk,ha,hb,hc with
 | 0,_,_,_,_ =>
  by_cases h:a=0
  ·(refine AG Ab Ab (AD h) ?_;intros;refine Ah ?_)
   refine Aj.mk ⟨1,by simp[h]⟩ (Sub.lit (by simp)) (by simp)
   skip
  ·have h':(a != 0)=true:=by simpa using h
   exact Av Ab Ab (Au h h')
 | 1,_,ha,_,_ =>
  have ha:=ha (by omega)
  by_cases h:b=0
  ·(refine AG Ab Ab (AD h) ?_;intros;refine Ah ?_)
   refine Aj.mk ⟨2,by simp[h,ha]⟩ (Sub.lit (by simp)) (by simp)
   skip
  ·have h':(b != 0)=true:=by simpa using h
   exact Av Ab Ab (CD h h' ha)
 | 2,_,ha,hb,_ =>
  have ha:=ha (by omega);have hb:=hb (by omega)
  by_cases h:c=0
  ·(refine AG Ab Ab (AD h) ?_;intros;refine Ah ?_)
   refine Aj.mk ⟨3,by simp[h,ha,hb]⟩ (Sub.lit (by simp)) (by simp)
   skip
  ·have h':(c != 0)=true:=by simpa using h
   exact Av Ab Ab (GV h h' ha hb)
 | 3,_,ha,hb,hc =>
  have ha:=ha (by omega);have hb:=hb (by omega);have hc:=hc (by omega);exact Av Ab Ab (CD ha hb hc)
def CC {α:Type} (e:α->α->Bool) (p:α):List α->List α
 | []=>[]
 | y::l=>if e y p then CC e y l else y::CC e y l
def CA {α:Type} (e:α->α->Bool):List α->List α
 | []=>[]
 | x::l=>x::CC e x l
theorem OK {α:Type} {e:α->α->Bool} {y:α}:∀{l:List α} {p:α},CC e p (l++[y])=CC e p l++(if e y (l.getLast?.getD p)then []else [y])
 | [],p=>by by_cases h:e y p<;>simp[CC,h]
 | x::l,p=>by
  have h:=OK (e:=e) (y:=y) (l:=l) (p:=x)
  have h2:(x::l).getLast?.getD p=l.getLast?.getD x:=by
   cases l with
   | nil=>rfl
   | cons z l=>simp[List.getLast?_cons_cons,List.getLast?_eq_some_getLast]
  rw[h2];simp only[List.cons_append,CC]
  split
  ·exact h
  ·rw[h];rfl
theorem RL {α:Type} {e:α->α->Bool} {l:List α} {k:Nat} {x y:α} (h0:0<k) (hx:l[k-1]? =some x) (hy:l[k]? =some y):CA e (l.take (k+1))=CA e (l.take k)++(if e y x then []else [y]):=by
 rw[bJ0,hy]
 obtain⟨z,t,hz⟩:∃z t,l.take k=z::t:=by
  cases h:l.take k with
  | nil =>
   have h1:=congrArg List.length h;have:=(aB0.1 hy).1;rw[bA0]at h1;simp only[List.length_nil]at h1;omega
  | cons z t=>exact⟨z,t,rfl⟩
 have hl:(l.take k).getLast?=some x:=by
  rw[List.getLast?_eq_getElem?,eT0];have:=(aB0.1 hy).1;simp only[bA0];rw[show min k l.length-1=k-1 by omega,if_pos (by omega)];exact hx
 rw[hz]at hl |-
 have h2:t.getLast?.getD z=x:=by
  cases t with
  | nil=>simpa using hl
  | cons a t=>simpa[List.getLast?_cons_cons,List.getLast?_eq_some_getLast]using hl
 simp only[Option.toList_some,List.cons_append,CA,OK,h2]
def HC (a b:Int):Int:=if a<b then -1 else if b<a then 1 else 0
def Zb : Ann:=⟨[],[]⟩
theorem Fb (n:Int):Ae prog 172 [.int .i64 n] (.bool false):=by
 refine Ac [] Zb func172 call172 ntmps172 mxd (Au @Zb.eq_1 results172) rfl (fun qJ B qX qQ=> ?_);simp only[Am];exact Av Ab Ab Ab
def Zc : Ann:=⟨[],[]⟩
theorem Kc (a b:Int):Ae prog 113 [.int .i64 a,.int .i64 b] (.int .i64 (HC a b)):=by
 refine Ac [] Zc func113 call113 ntmps113 mxd (Au @Zc.eq_1 results113) rfl (fun qJ B qX qQ=> ?_);simp only[Am]
 by_cases h1:a<b
 ·exact Av (Au (Fb a) (Fb b)) Ab (Au h1 @HC.eq_1)
 ·by_cases h2:b<a
  ·exact Av (Au (Fb a) (Fb b)) Ab (CD h1 h2 @HC.eq_1)
  ·exact Av (Au (Fb a) (Fb b)) Ab (CD h1 h2 @HC.eq_1)
def Nw (x y:Sym):Int:=if x.label=y.label then HC x.n y.n else if x.label then 1 else -1
end Go.Proofs.Wy
end
section
namespace Go.Proofs.Wy
open Go Go.Dm Tryz
variable [DMode]
structure Arc where
 fr:Int
 sy:Sym
 to:Int
 deriving DecidableEq
def AW (x:Arc):List DVal:=[.int .i64 x.fr,.bool x.sy.label,.int .i64 x.sy.n,.int .i64 x.to]
abbrev Cg (l:List Arc):DVal:= .sl 4 32 (l.map AW)
def IR (n:Int):List DVal:=[.int .i64 n]
abbrev FM (l:List Int):DVal:= .sl 1 8 (l.map IR)
def dBl (b:Bool):List DVal:=[.bool b]
structure Auto where
 st:Int
 fin:List Int
 arcs:List Arc
 deriving DecidableEq
def Fw (a:Auto):List DVal:=[.int .i64 a.st,FM a.fin,Cg a.arcs]
@[simp] theorem Ft_ (s:Arc):AL (AW s)=0:=by simp[AW,AL,mx]
@[simp] theorem CS_ (l:List Arc):Bp (l.map AW)=0:=HT _ Ft_ l
@[simp] theorem Fr_ (s:Int):AL (IR s)=0:=by simp[IR,AL,mx]
@[simp] theorem CP_ (l:List Int):Bp (l.map IR)=0:=HT _ Fr_ l
@[simp] theorem GG_ (s:Bool):AL (dBl s)=0:=by simp[dBl,AL,mx]
@[simp] theorem Fs_ (l:List Bool):Bp (l.map dBl)=0:=HT _ GG_ l
@[simp] theorem CR_ (a:Auto):AL (Fw a)=0:=by simp[Fw,AL,mx]
def stB (s q:Int):Bool:=decide (0<=q)&&decide (q<s)
def okF (s:Int) (l:List Int) (k:Nat):Bool:=match l[k]? with
 | none=>true
 | some q=>stB s q&&(decide (k=0)||match l[k-1]? with | none=>true | some p=>decide (p<q))
theorem CF_ {s:Int} {l:List Int} {q:Int} (h:l[0]? =some q):okF s l 0=stB s q:=by
 unfold okF;rw[h];simp
theorem Fb_ {s:Int} {l:List Int} {k:Nat} {p q:Int} (hk:0<k) (h:l[k]? =some q) (hp:l[k-1]? =some p):okF s l k=(stB s q&&decide (p<q)):=by
 unfold okF;rw[h];simp only[hp,show ¬k=0 by omega,decide_false,eE0]
def CT (x y:Arc):Int:=if HC x.fr y.fr=0 then (if Nw x.sy y.sy=0 then HC x.to y.to else Nw x.sy y.sy)else HC x.fr y.fr
def LV (x y:Sym):Bool:=if x.label=y.label then decide (x.n<y.n)else y.label
def EG (x y:Arc):Bool:=if x.fr=y.fr then (if x.sy=y.sy then decide (x.to<y.to)else LV x.sy y.sy)else decide (x.fr<y.fr)
theorem Ob {a b:Int}:HC a b=0↔a=b:=by unfold HC;split<;>(try split)<;>omega
theorem RO {a b:Int}:HC a b<0↔a<b:=by unfold HC;split<;>(try split)<;>omega
theorem Tg {x y:Sym}:Nw x y=0↔x=y:=by
 obtain⟨a,n⟩:=x;obtain⟨b,m⟩:=y;unfold Nw;cases a<;>cases b<;>simp[Ob]
theorem aV (x y:Sym):LV x y=decide (Nw x y<0):=by
 obtain⟨a,n⟩:=x;obtain⟨b,m⟩:=y;unfold Nw LV;cases a<;>cases b<;>simp[RO]
theorem LJ (x y:Arc):EG x y=decide (CT x y<0):=by
 unfold EG CT
 by_cases h1:x.fr=y.fr
 ·rw[if_pos h1,if_pos (Ob.2 h1)]
  by_cases h2:x.sy=y.sy
  ·rw[if_pos h2,if_pos (Tg.2 h2)];exact decide_eq_decide.2 RO.symm
  ·rw[if_neg h2,if_neg (fun h=>h2 (Tg.1 h)),aV]
 ·rw[if_neg h1,if_neg (fun h=>h1 (Ob.1 h))];exact decide_eq_decide.2 RO.symm
def Ul (s:Int) (x:Arc):Bool:=stB s x.fr&&(stB s x.to&&decide (0<=x.sy.n))
def okA (s:Int) (l:List Arc) (k:Nat):Bool:=match l[k]? with
 | none=>true
 | some q=>Ul s q&&(decide (k=0)||match l[k-1]? with | none=>true | some p=>EG p q)
theorem CG_ {s:Int} {l:List Arc} {q:Arc} (h:l[0]? =some q):okA s l 0=Ul s q:=by
 unfold okA;rw[h];simp
theorem Fc_ {s:Int} {l:List Arc} {k:Nat} {p q:Arc} (hk:0<k) (h:l[k]? =some q) (hp:l[k-1]? =some p):okA s l k=(Ul s q&&EG p q):=by
 unfold okA;rw[h];simp only[hp,show ¬k=0 by omega,decide_false,eE0]
def FG (a:Auto):Bool:=decide (1<=a.st)&&decide (a.st<=65)&&((List.range a.fin.length).all (okF a.st a.fin)&&(List.range a.arcs.length).all (okA a.st a.arcs))
theorem Xk {a:Auto} (h:FG a=true):1<=a.st/\a.st<=65:=by
 unfold FG at h;simp only[aJ0,decide_eq_true_eq]at h;exact h.1
theorem Gx_ {a:Auto} (h:FG a=true) {q:Int} (hq:q∈a.fin):0<=q/\q<a.st:=by
 unfold FG at h;simp only[aJ0,bC0]at h;obtain⟨k,hk,rfl⟩:=bX0 hq;have:=h.2.1 k (dP0.2 hk);unfold okF stB at this;rw[aE0 hk]at this;simp only[aJ0,decide_eq_true_eq]at this;exact this.1
theorem NI {a:Auto} (h:FG a=true) {x:Arc} (hx:x∈a.arcs):0<=x.fr/\x.fr<a.st/\0<=x.to/\x.to<a.st:=by
 unfold FG at h;simp only[aJ0,bC0]at h;obtain⟨k,hk,rfl⟩:=bX0 hx;have:=h.2.2 k (dP0.2 hk);unfold okA Ul stB at this;rw[aE0 hk]at this;simp only[aJ0,decide_eq_true_eq]at this;exact⟨this.1.1.1,this.1.1.2,this.1.2.1.1,this.1.2.1.2⟩
def bD (l:List Bool):List (List DVal):=l.map dBl
@[simp] theorem Ji_ (l:List Bool):Bp (bD l)=0:=Fs_ l
structure OrdC {α:Type} (c:α->α->Int):Prop where
 eq0:∀x y,c x y=0↔x=y
 anti:∀x y,c x y<0↔0<c y x
 trans:∀x y z,c x y<0->c y z<0->c x z<0
theorem OrdC.refl {α:Type} {c:α->α->Int} (h:OrdC c) (x:α):c x x=0:=(h.eq0 x x).2 rfl
theorem OrdC.nle {α:Type} {c:α->α->Int} (h:OrdC c) {x y:α}:¬c x y<0↔c y x<0\/x=y:=by
 have h1:=h.anti x y;have h2:=h.anti y x;have h3:=h.eq0 x y
 constructor
 ·intro hn
  by_cases h0:c x y=0
  ·exact .inr (h3.1 h0)
  ·exact .inl (h2.2 (by omega))
 ·rintro (h4 | rfl)
  ·have:=h2.1 h4;omega
  ·rw[h.refl];omega
theorem OrdC.ntrans {α:Type} {c:α->α->Int} (h:OrdC c) (x y z:α) (h1:¬c x y<0) (h2:¬c y z<0):¬c x z<0:=by
 rw[h.nle]at *
 rcases h1 with h1 | rfl
 ·rcases h2 with h2 | rfl
  ·exact .inl (h.trans _ _ _ h2 h1)
  ·exact .inl h1
 ·exact h2
theorem OrdC.le_anti {α:Type} {c:α->α->Int} (h:OrdC c) {x y:α} (h1:¬c x y<0) (h2:¬c y x<0):x=y:=by
 rcases h.nle.1 h1 with h1 | h1
 ·exact absurd h1 h2
 ·exact h1
theorem OrdC.total {α:Type} {c:α->α->Int} (h:OrdC c) (x y:α):¬c x y<0\/¬c y x<0:=by
 by_cases h1:c x y<0
 ·right;have:=(h.anti x y).1 h1;omega
 ·exact .inl h1
theorem EW_ : OrdC HC:=by
 refine⟨fun x y=> ?_,fun x y=> ?_,fun x y z=> ?_⟩<;>unfold HC
 ·split
  ·constructor<;>intro h<;>omega
  ·split
   ·constructor<;>intro h<;>omega
   ·constructor<;>intro h<;>omega
 ·by_cases h1:x<y<;>by_cases h2:y<x<;>simp[h1,h2]<;>omega
 ·by_cases h1:x<y<;>by_cases h2:y<z<;>by_cases h3:x<z<;>simp[h1,h2,h3]<;>(try split)<;>(try split)<;>omega
def AB_ {α β:Type} (c:α->α->Int) (d:β->β->Int) (x y:α×β):Int:=if c x.1 y.1=0 then d x.2 y.2 else c x.1 y.1
theorem eZ {α β:Type} {c:α->α->Int} {d:β->β->Int} (h:OrdC c) (k:OrdC d):OrdC (AB_ c d):=by
 refine⟨fun x y=> ?_,fun x y=> ?_,fun x y z=> ?_⟩<;>unfold AB_
 ·obtain⟨x1,x2⟩:=x;obtain⟨y1,y2⟩:=y;simp only[_root_.Prod.mk.injEq]
  split
  ·rename_i h0;rw[k.eq0];exact⟨fun hh=>⟨(h.eq0 _ _).1 h0,hh⟩,fun hh=>hh.2⟩
  ·rename_i h0;exact⟨fun hh=>absurd hh h0,fun hh=>absurd ((h.eq0 _ _).2 hh.1) h0⟩
 ·by_cases h0:c x.1 y.1=0
  ·have h1:c y.1 x.1=0:=(h.eq0 _ _).2 ((h.eq0 _ _).1 h0).symm;rw[if_pos h0,if_pos h1];exact k.anti _ _
  ·have h1:¬c y.1 x.1=0:=fun hh=>h0 ((h.eq0 _ _).2 ((h.eq0 _ _).1 hh).symm)
   rw[if_neg h0,if_neg h1];exact h.anti _ _
 ·by_cases h0:c x.1 y.1=0
  ·have e0:=(h.eq0 _ _).1 h0;rw[if_pos h0]
   by_cases h1:c y.1 z.1=0
   ·have e1:=(h.eq0 _ _).1 h1;have h2:c x.1 z.1=0:=(h.eq0 _ _).2 (e0.trans e1);rw[if_pos h1,if_pos h2];exact k.trans _ _ _
   ·have h2:¬c x.1 z.1=0:=by rw[e0];exact h1
    rw[if_neg h1,if_neg h2,e0];exact fun _ hh=>hh
  ·rw[if_neg h0]
   by_cases h1:c y.1 z.1=0
   ·have e1:=(h.eq0 _ _).1 h1;have h2:¬c x.1 z.1=0:=by rw[<-e1];exact h0
    rw[if_pos h1,if_neg h2,<-e1];exact fun hh _=>hh
   ·rw[if_neg h1];intro h3 h4;have h5:=h.trans _ _ _ h3 h4;have h2:¬c x.1 z.1=0:=by omega
    rw[if_neg h2];exact h5
theorem Gv_ {α β:Type} {c:α->α->Int} (h:OrdC c) (f:β->α) (hf:∀x y,f x=f y->x=y):OrdC (fun x y=>c (f x) (f y)) :=
 ⟨fun x y=>by rw[h.eq0];exact⟨hf _ _,fun hh=>by rw[hh]⟩,fun x y=>h.anti _ _,fun x y z=>h.trans _ _ _⟩
theorem Gu_ : OrdC Nw:=by
 have h:=Gv_ (eZ EW_ EW_) (fun s:Sym=>((if s.label then 1 else 0:Int),s.n)) (by
  rintro⟨l,n⟩ ⟨l',n'⟩ hh;simp only[_root_.Prod.mk.injEq]at hh;obtain⟨h1,rfl⟩:=hh
  cases l<;>cases l'<;>simp_all)
 have e:Nw=fun x y:Sym=>AB_ HC HC ((if x.label then 1 else 0:Int),x.n) ((if y.label then 1 else 0:Int),y.n):=by
  funext x y
  obtain⟨l,n⟩:=x;obtain⟨l',n'⟩:=y;cases l<;>cases l'<;>simp[Nw,AB_,HC]
 rw[e];exact h
def Jt {α:Type} (c:α->α->Int) (l:List α):List α:=l.mergeSort (fun x y=> !decide (c y x<0))
theorem EW {α:Type} (c:α->α->Int) (l:List α):(Jt c l).Perm l:=eA0 _ _
theorem Dz {α:Type} {c:α->α->Int} (h:OrdC c) (l:List α):(Jt c l).Pairwise (fun x y=>¬c y x<0):=by
 have:=List.pairwise_mergeSort (le:=fun x y=> !decide (c y x<0)) (by
  intro a b d h1 h2;simp only[Bool.not_eq_true',decide_eq_false_iff_not]at *
  exact h.ntrans _ _ _ h2 h1) (by
  intro a b;simp only[cU0,Bool.not_eq_true',decide_eq_false_iff_not]
  exact h.total b a) l
 exact this.imp fun h=>by simpa using h
theorem xL {α:Type} {c:α->α->Int} (h:OrdC c) {a b:List α} (hp:a.Perm b) (ha:a.Pairwise (fun x y=>¬c y x<0)) (hb:b.Pairwise (fun x y=>¬c y x<0)):a=b :=
 List.Perm.eq_of_pairwise (le:=fun x y=>¬c y x<0) (fun x y _ _ h1 h2=>h.le_anti h2 h1) ha hb hp
theorem uX {α:Type} {c:α->α->Int} (h:OrdC c) {d:α->List DVal} {u:List DVal->α} (hu:∀x,u (d x)=x) {l:List α} {L:List (List DVal)} (hp:L.Perm (l.map d)) (hs:L.Pairwise (fun x y=>¬c (u y) (u x)<0)):L=(Jt c l).map d:=by
 have h1:(L.map u).Perm l:=by
  have:=hp.map u
  rwa[bY0,show u∘d=id from funext hu,List.map_id]at this
 have h2:(L.map u).Pairwise (fun x y=>¬c y x<0):=by rw[cX0];exact hs
 have h3:=xL h (h1.trans (EW c l).symm) h2 (Dz h l)
 have h4:L=(L.map u).map d:=by
  rw[bY0]
  have h5:∀x∈L,(d∘u) x=id x:=by
   intro x hx;obtain⟨y,_,rfl⟩:=aT0.1 (hp.mem_iff.1 hx);simp[hu]
  rw[cA0 h5,List.map_id]
 rw[h4,h3]
def DG {α:Type} (c:α->α->Int):List α->α->List α
 | [],p=>[p]
 | x::l,p=>if c x p<0 then x::DG c l p else if c p x<0 then p::x::l else x::l
theorem QP {α:Type} {c:α->α->Int} (h:OrdC c) {p z:α}:∀{l:List α},z∈DG c l p↔z=p\/z∈l
 | []=>by simp[DG]
 | x::l=>by
  have ih:=QP h (p:=p) (z:=z) (l:=l);simp only[DG]
  split
  ·rw[aK0,ih,aK0];exact⟨fun hh=>by rcases hh with a | a | a<;>simp[a],fun hh=>by rcases hh with a | a | a<;>simp[a]⟩
  ·rename_i h1
   split
   ·simp only[aK0]
   ·rename_i h2;have:=h.le_anti h1 h2;subst this;simp only[aK0]
    exact⟨.inr,fun hh=>by
     rcases hh with a | a
     ·exact .inl a
     ·exact a⟩
def Dy {α:Type} (c:α->α->Int) (l:List α):Prop:=l.Pairwise (fun x y=>c x y<0)
theorem OC {α:Type} {c:α->α->Int} (h:OrdC c) {p:α}:∀{l:List α},Dy c l->Dy c (DG c l p)
 | [],_=>by simp[DG,Dy]
 | x::l,hs=>by
  obtain⟨h1,h2⟩:=cK0.1 hs;simp only[DG]
  split
  ·rename_i hx;refine cK0.2 ⟨fun z hz=> ?_,OC h h2⟩
   rcases (QP h).1 hz with rfl | hz
   ·exact hx
   ·exact h1 z hz
  ·split
   ·rename_i hx;refine cK0.2 ⟨fun z hz=> ?_,hs⟩
    rcases aK0.1 hz with rfl | hz
    ·exact hx
    ·exact h.trans _ _ _ hx (h1 z hz)
   ·exact hs
theorem JU {α:Type} {c:α->α->Int} (h:OrdC c):∀(l a:List α),Dy c a->Dy c (l.foldl (DG c) a)/\∀z,z∈l.foldl (DG c) a↔z∈l\/z∈a
 | [],a,ha=>⟨ha,by simp⟩
 | x::l,a,ha=>by
  obtain⟨h1,h2⟩:=JU h l (DG c a x) (OC h ha);refine⟨h1,fun z=> ?_⟩;rw[cT0,h2,QP h,aK0];exact⟨fun hh=>by rcases hh with q | q | q<;>simp[q],fun hh=>by rcases hh with (q | q) | q<;>simp[q]⟩
theorem Lo {α:Type} {c:α->α->Int} (h:OrdC c) {x:α}:¬c x x<0:=by rw[h.refl];omega
theorem Nx {α:Type} {c:α->α->Int} (h:OrdC c):∀{a b:List α},Dy c a->Dy c b->(∀z,z∈a↔z∈b)->a=b
 | [],[],_,_,_=>rfl
 | [],y::b,_,_,hm=>by have:=(hm y).2 aI0;simp at this
 | x::a,[],_,_,hm=>by have:=(hm x).1 aI0;simp at this
 | x::a,y::b,ha,hb,hm=>by
  obtain⟨a1,a2⟩:=cK0.1 ha;obtain⟨b1,b2⟩:=cK0.1 hb
  have bG:x=y:=by
   rcases aK0.1 ((hm x).1 aI0)with h1 | h1
   ·exact h1
   ·rcases aK0.1 ((hm y).2 aI0)with h2 | h2
    ·exact h2.symm
    ·exact absurd (h.trans _ _ _ (a1 y h2) (b1 x h1)) (Lo h)
  subst bG;rw[Nx h a2 b2 fun z=> ?_]
  constructor
  ·intro hz
   rcases aK0.1 ((hm z).1 (aG0 _ hz))with h1 | h1
   ·subst h1;exact absurd (a1 z hz) (Lo h)
   ·exact h1
  ·intro hz
   rcases aK0.1 ((hm z).2 (aG0 _ hz))with h1 | h1
   ·subst h1;exact absurd (b1 z hz) (Lo h)
   ·exact h1
theorem Lg {α:Type} {c:α->α->Int} (h:OrdC c):∀{l:List α} {p:α},(p::l).Pairwise (fun x y=>¬c y x<0)->Dy c (p::CC (fun x y=>c x y==0) p l)/\∀z,z∈p::CC (fun x y=>c x y==0) p l↔z∈p::l
 | [],p,_=>by simp[CC,Dy]
 | y::l,p,hs=>by
  obtain⟨h1,h2⟩:=cK0.1 hs;obtain⟨i1,i2⟩:=Lg h h2;simp only[CC]
  split
  ·rename_i he;have:y=p:=(h.eq0 _ _).1 (by simpa using he);subst this;exact⟨i1,fun z=>by rw[i2];simp⟩
  ·rename_i he;have qF:y≠p:=fun hh=>he (by subst hh;simp[h.refl])
   have qV:c p y<0:=by
    rcases h.nle.1 (h1 y aI0)with h3 | h3
    ·exact h3
    ·exact absurd h3 qF
   refine⟨cK0.2 ⟨fun z hz=> ?_,i1⟩,fun z=> ?_⟩
   ·obtain⟨j1,_⟩:=cK0.1 i1
    rcases aK0.1 hz with rfl | hz
    ·exact qV
    ·exact h.trans _ _ _ qV (j1 z hz)
   ·have:=i2 z;rw[aK0,this];simp[aK0]
theorem EE {α:Type} {c:α->α->Int} (h:OrdC c) {l:List α} (hs:l.Pairwise (fun x y=>¬c y x<0)):Dy c (CA (fun x y=>c x y==0) l)/\∀z,z∈CA (fun x y=>c x y==0) l↔z∈l:=by
 cases l with
 | nil=>simp[CA,Dy]
 | cons x l=>exact Lg h hs
theorem Dv_ {α:Type} {c:α->α->Int} (h:OrdC c) (l:List α):l.foldl (DG c) []=CA (fun x y=>c x y==0) (Jt c l):=by
 obtain⟨h1,h2⟩:=JU h l [] List.Pairwise.nil;obtain⟨h3,h4⟩:=EE h (Dz h l);refine Nx h h1 h3 fun z=> ?_
 rw[h2,h4,(EW c l).mem_iff];simp
end Go.Proofs.Wy
end
