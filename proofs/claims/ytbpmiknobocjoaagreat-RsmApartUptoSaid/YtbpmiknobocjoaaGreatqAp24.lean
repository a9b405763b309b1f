/- Parts of a proof, laid together: RX5, WC1, WC2, BX0, WOg, WSg. -/
import Derived.Test.YtbpmiknobocjoaaGreatqAp17
import Derived.Test.YtbpmiknobocjoaaGreatqAp22
import Derived.Test.YtbpmiknobocjoaaGreatqAp23
set_option linter.unusedSimpArgs false
set_option maxHeartbeats 8000000
set_option linter.unusedVariables false
set_option linter.unusedSectionVars false
section
namespace Go.Proofs.Wy
open Go Go.Dm Tryz
variable [DMode]
attribute [local irreducible] DW BN BS Es_ RB Dm.Sub
set_option maxRecDepth 100000
def BV (x:Nd):Bool:=decide (x.k=2)||decide (x.k=3)
def CY_ (l:List Nd) (j:Nat):Option (Nat×ByteArray):=match l[j]? with
 | some p=>if BV p=true then some (j,p.s)else none
 | none=>none
def Cv (l:List Nd) (n:Nat):List (Nat×ByteArray):=(List.range n).filterMap (CY_ l)
def Wo (x:Nat×ByteArray):List DVal:=[.int .i64 x.1,.str x.2]
theorem LX {l:List Nd} {n:Nat} {p:Nd} (h:l[n]? =some p):Cv l (n+1)=Cv l n++(if BV p=true then [(n,p.s)]else []):=by
 simp only[Cv,List.range_succ,List.filterMap_append,List.filterMap_cons,List.filterMap_nil,CY_,h]
 by_cases hp:BV p=true<;>simp[hp]
theorem XS {l:List Nd} {n m:Nat} (h:n<=m):∃r,Cv l m=Cv l n++r:=by
 obtain⟨d,rfl⟩:∃d,m=n+d:=⟨m-n,by omega⟩;exact⟨((List.range d).map (n+ ·)).filterMap (CY_ l),by simp only[Cv,List.range_add,List.filterMap_append]⟩
theorem XU {l:List Nd} {n m:Nat} {p:Nd} (h:l[n]? =some p) (hp:BV p=true) (hm:n<m):(Cv l m)[(Cv l n).length]? =some (n,p.s):=by
 obtain⟨r,hr⟩:=XS (l:=l)  (show n+1<=m from hm);rw[hr,LX h,if_pos hp];simp
theorem XT {l:List Nd} {n m:Nat} {p:Nd} (h:l[n]? =some p) (hp:BV p=true) (hm:n<m):(Cv l n).length<(Cv l m).length:=(aB0.1 (XU h hp hm)).1
def tY : Ann:=⟨[],[]⟩
def Lc : Ann:=⟨[5],[]⟩
theorem Zc (l:List Nd):Af prog 55 [AM l] (AM l):=by
 match l with
 | [] =>
  refine aK [] ?_ ?_
  ·refine Ae [7] tY func55 call55 ntmps55 mxd (AB @tY.eq_1 results55) rfl (fun qJ B qX qQ=> ?_) (hd:=(by simp[mx,Br]));simp only[Aq,List.nil_append,AM,List.map_cons];exact Az Ab Ab Ab
  ·refine Ae [7,5] Lc func55 call55 ntmps55 mxd (AB @Lc.eq_1 results55) rfl (fun qJ B qX qQ=> ?_) (hd:=(by simp[mx,Br]));simp only[Aq,List.nil_append,AM,List.map_cons];exact Az Ab Ab Ab
 | s::l =>
  refine Ae [7,5] Lc func55 call55 ntmps55 mxd (AB @Lc.eq_1 results55) rfl (fun qJ B qX qQ=> ?_) (hd:=(by simp[mx,Br]));have qI:(s::l).length*32<=150000000000000:=by have:=qJ.1;simp only[Ev,aJ0]at this;exact this.1
  clear qJ;have z2:(s::l).length<=9223372036854775807:=by omega
  simp only[List.length_cons]at qI z2;simp only[Aq,List.nil_append,AM,List.map_cons];exact Az Ab Ab (AB qI z2)
def ID : Ann:=⟨[25],[⟨2,[4],[],[]⟩]⟩
theorem VD (l:List Nd) (ok:Nat->Bool):ES_ prog 123 [] [.ref [AM l]] ((Cv l l.length).map Wo) ok:=by
 intro lb A Z hY;refine BL [] [(0,0,0),(1,1,1)] ID func123 call123 ntmps123 mxd (AB @ID.eq_1 results123) rfl (fun qJ B qX qQ=> ?_);have bW:l.length<9223372036854775807:=PY (by simpa[KI,Ev]using qJ);clear qJ;simp only[Aq,List.nil_append]
 (refine AL Ab Ab Ab ?_;intros;refine Am ?_)
 refine Ai (X:={k:Nat//k<=l.length/\∀j,j<(Cv l k).length->ok j=true}) (fun k=>⟨[(0,.pk 0 0),(5,AM l),(6,.int .i64 l.length),(7,.int .i64 k.1)],[⟨0,0,.abs (yH lb)⟩,⟨1,1,.abs (A (Cv l k.1).length)⟩]⟩) (fun k=>l.length-k.1) ⟨0,by simp[Cv]⟩ (Sub.lit (by simp[Cv])) ?_;rintro⟨k,hk,hj⟩
 by_cases qV:k<l.length
 ·obtain⟨p,hp,zM,jW⟩:=Ap qV;have hs:=LX hp
  by_cases hh:BV p=true
  ·have hx:=hY (Cv l k).length (Wo (k,p.s)) (by rw[bH0,XU hp hh qV];rfl) hj;rw[if_pos hh]at hs;have hkd:p.k=2\/p.k=3:=by unfold BV at hh;simpa using hh
   have zZ:∀j,j<(Cv l (k+1)).length->ok (Cv l k).length=true->ok j=true:=by
    rw[hs];intro j fH qG;simp at fH
    by_cases hjk:j=(Cv l k).length
    ·subst hjk;exact qG
    ·exact hj j (by omega)
   rcases hkd with hkd | hkd
   ·(refine AL Ab Ab (Lj @Bo.eq_1 qV hp zM hkd) ?_;intros;refine Am ?_)
    cases qG:ok (Cv l k).length
    ·rw[qG]at hx;refine Nr hx (by simp[Wo]) (fun r=> ?_);have wO:=JJ (XT hp hh qV) hj qG;simp[qX,results123,ID,wO];exact Az Ab Ab (AH wO)
    ·rw[qG]at hx;refine Nr hx (by simp[Wo]) (fun r=> ?_);simp[qX,results123,ID]
     (refine AL Ab Ab Ab ?_;intros;refine Am ?_)
     refine Al.mk ⟨k+1,by omega,fun j fH=>zZ j fH qG⟩ (Sub.lit (by simp[hs])) (by simp;omega)
     skip
   ·(refine AL Ab Ab (Lj @Bo.eq_1 qV hp zM hkd) ?_;intros;refine Am ?_)
    cases qG:ok (Cv l k).length
    ·rw[qG]at hx;refine Nr hx (by simp[Wo]) (fun r=> ?_);have wO:=JJ (XT hp hh qV) hj qG;simp[qX,results123,ID,wO];exact Az Ab Ab (AH wO)
    ·rw[qG]at hx;refine Nr hx (by simp[Wo]) (fun r=> ?_);simp[qX,results123,ID]
     (refine AL Ab Ab Ab ?_;intros;refine Am ?_)
     refine Al.mk ⟨k+1,by omega,fun j fH=>zZ j fH qG⟩ (Sub.lit (by simp[hs])) (by simp;omega)
     skip
  ·rw[if_neg hh,bR0]at hs;have h2:¬p.k=2:=fun e=>hh (by unfold BV;simp[e])
   have h3:¬p.k=3:=fun e=>hh (by unfold BV;simp[e])
   have fG:(p.k==2)=false:=by simpa using h2
   have h3':(p.k==3)=false:=by simpa using h3
   (refine AL Ab Ab (KG @Bo.eq_1 qV hp zM h2 h3 fG h3') ?_;intros;refine Am ?_)
   refine Al.mk ⟨k+1,by omega,by rw[hs];exact hj⟩ (Sub.lit (by simp[hs])) (by simp;omega)
   skip
 ·have qZ:k=l.length:=by omega
  subst qZ;have wO:=JK hj;exact Az Ab Ab (AH wO)
def tX : Ann:=⟨[1],[⟨1,[1],[],[]⟩]⟩
theorem VE (l:List Nd):Af prog 77 [AM l] (.fn (.func 123) [] [.ref [AM l]]):=by
 refine Ae [] tX func77 call77 ntmps77 mxd (AB @tX.eq_1 results77) rfl (fun qJ B qX qQ=> ?_) (hd:=(by simp[mx,AJ]));clear qJ;simp only[Aq];have h1:=Zc l;exact Az (AH h1) Ab Ab
def HC (l:List Nd):Nat:=(Cv l l.length).length
def tZ : Ann:=⟨[],[]⟩
theorem QZ (l:List Nd):Af prog 46 [AM l] (.int .i64 (HC l)):=by
 refine Ae [] tZ func46 call46 ntmps46 mxd (AB @tZ.eq_1 results46) rfl (fun qJ B qX qQ=> ?_);have bW:=PY qJ.1;clear qJ;simp only[Aq];have h1:=VE l
 (refine AL (AH h1) Ab Ab ?_;intros;refine Am ?_)
 have hI:=VD l (fun _=>true);have wO:CG (fun _:Nat=>true) (Cv l l.length).length=none:=JK fun _ _=>rfl
 have hocc:∀x∈(Cv l l.length).map Wo,x.length=2/\AJ x=0:=by
  intro x hx;obtain⟨y,_,rfl⟩:=aT0.1 hx;exact⟨rfl,by simp[Wo,mx]⟩
 have qU:(Cv l l.length).length<=l.length:=by
  simp only[Cv];exact Nat.le_trans (List.length_filterMap_le _ _) (by simp)
 refine WP (nt:=11) [(3,3)] [] [(0,AM l),(3,.bx 3 0 0),(5,.fn (.func 123) [] [.ref [AM l]])]
  (fun k=>[⟨3,0,.box [.int .i64 (k:Int)]⟩]) (fun k=>[⟨3,0,.box [.int .i64 (k:Int)]⟩]) (fun _=> .ret) [⟨3,0,.box [.int .i64 (HC l:Int)]⟩] .normal
  hI (by simp[qX]) (by simp[Hk]) (by simp) (bJ0 (i:=2) rfl) hocc (by simp) ?_ ?_ ?_ ?_ ?_
 ·simp
 ·intro k x hx hj B1 qX;rw[bH0,bB0]at hx;obtain⟨⟨j,s⟩,hy,rfl⟩:=hx;have yJ:k<(Cv l l.length).length:=(aB0.1 hy).1;have hw:IntKind.i64.wrap ((k:Int)+1)=(k:Int)+1:=wq;simp only[Array.toList,SY]
  (refine AL Ab Ab Ab ?_;intros;refine Am ?_)
  refine Iu_ fun B2 qX=> ?_
  (refine AL Ab Ab (AB @Wo.eq_1 hw) ?_;intros;refine Am ?_)
  refine Sub.lit ?_;simp
 ·simp only[aJ0,wO];exact⟨trivial,rfl⟩
 ·simp
 ·intro r;simp;exact Az Ab Ab Ab
end Go.Proofs.Wy
end
section
namespace Go.Proofs.Wy
open Go Go.Dm Tryz
variable [DMode]
attribute [local irreducible] DW BN BS
set_option maxRecDepth 100000
def tI : Ann:=⟨[],[]⟩
theorem CQ_ (a b c:Int):Af prog 82 [.sl 1 8 [[.int .i64 a],[.int .i64 b],[.int .i64 c]]] (.int .i64 (if a=0 then (if b=0 then c else b)else a)):=by
 refine Ae [] tI func82 call82 ntmps82 mxd (AB @tI.eq_1 results82) rfl (fun qJ B qX qQ=> ?_);simp only[Aq]
 (refine AL Ab Ab Ab ?_;intros;refine Am ?_)
 refine Ai (X:={k:Nat//k<=3/\(0<k->a=0)/\(1<k->b=0)/\(2<k->c=0)}) (fun k=>⟨[(3,.int .i64 0),(6,.sl 1 8 [[.int .i64 a],[.int .i64 b],[.int .i64 c]]),(7,.int .i64 3),(8,.int .i64 k.1)],[]⟩) (fun k=>3-k.1) ⟨0,by simp⟩ (Sub.lit (by simp)) ?_;rintro⟨k,hk,ha,hb,hc⟩
 match k,hk,ha,hb,hc with
 | 0,_,_,_,_ =>
  by_cases h:a=0
  ·(refine AL Ab Ab (AH h) ?_;intros;refine Am ?_)
   refine Al.mk ⟨1,by simp[h]⟩ (Sub.lit (by simp)) (by simp)
   skip
  ·have h':(a != 0)=true:=by simpa using h
   exact Az Ab Ab (AB h h')
 | 1,_,ha,_,_ =>
  have ha:=ha (by omega)
  by_cases h:b=0
  ·(refine AL Ab Ab (AH h) ?_;intros;refine Am ?_)
   refine Al.mk ⟨2,by simp[h,ha]⟩ (Sub.lit (by simp)) (by simp)
   skip
  ·have h':(b != 0)=true:=by simpa using h
   exact Az Ab Ab (CL h h' ha)
 | 2,_,ha,hb,_ =>
  have ha:=ha (by omega);have hb:=hb (by omega)
  by_cases h:c=0
  ·(refine AL Ab Ab (AH h) ?_;intros;refine Am ?_)
   refine Al.mk ⟨3,by simp[h,ha,hb]⟩ (Sub.lit (by simp)) (by simp)
   skip
  ·have h':(c != 0)=true:=by simpa using h
   exact Az Ab Ab (IF h h' ha hb)
 | 3,_,ha,hb,hc =>
  have ha:=ha (by omega);have hb:=hb (by omega);have hc:=hc (by omega);exact Az Ab Ab (CL ha hb hc)
def CC {α:Type} (e:α->α->Bool) (p:α):List α->List α
 | []=>[]
 | y::l=>if e y p then CC e y l else y::CC e y l
def Cy {α:Type} (e:α->α->Bool):List α->List α
 | []=>[]
 | x::l=>x::CC e x l
theorem Pe {α:Type} {e:α->α->Bool} {y:α}:∀{l:List α} {p:α},CC e p (l++[y])=CC e p l++(if e y (l.getLast?.getD p)then []else [y])
 | [],p=>by by_cases h:e y p<;>simp[CC,h]
 | x::l,p=>by
  have h:=Pe (e:=e) (y:=y) (l:=l) (p:=x)
  have h2:(x::l).getLast?.getD p=l.getLast?.getD x:=by
   cases l with
   | nil=>rfl
   | cons z l=>simp[List.getLast?_cons_cons,List.getLast?_eq_some_getLast]
  rw[h2];simp only[List.cons_append,CC]
  split
  ·exact h
  ·rw[h];rfl
theorem Sg {α:Type} {e:α->α->Bool} {l:List α} {k:Nat} {x y:α} (h0:0<k) (hx:l[k-1]? =some x) (hy:l[k]? =some y):Cy e (l.take (k+1))=Cy e (l.take k)++(if e y x then []else [y]):=by
 rw[bM0,hy]
 obtain⟨z,t,hz⟩:∃z t,l.take k=z::t:=by
  cases h:l.take k with
  | nil =>
   have h1:=congrArg List.length h;have:=(aB0.1 hy).1;rw[aY0]at h1;simp only[List.length_nil]at h1;omega
  | cons z t=>exact⟨z,t,rfl⟩
 have hl:(l.take k).getLast?=some x:=by
  rw[List.getLast?_eq_getElem?,dZ0];have:=(aB0.1 hy).1;simp only[aY0];rw[show min k l.length-1=k-1 by omega,if_pos (by omega)];exact hx
 rw[hz]at hl |-
 have h2:t.getLast?.getD z=x:=by
  cases t with
  | nil=>simpa using hl
  | cons a t=>simpa[List.getLast?_cons_cons,List.getLast?_eq_some_getLast]using hl
 simp only[Option.toList_some,List.cons_append,Cy,Pe,h2]
def HL (a b:Int):Int:=if a<b then -1 else if b<a then 1 else 0
def ZB : Ann:=⟨[],[]⟩
theorem Fj (n:Int):Af prog 135 [.int .i64 n] (.bool false):=by
 refine Ae [] ZB func135 call135 ntmps135 mxd (AB @ZB.eq_1 results135) rfl (fun qJ B qX qQ=> ?_);simp only[Aq];exact Az Ab Ab Ab
def tH : Ann:=⟨[],[]⟩
theorem Kx (a b:Int):Af prog 83 [.int .i64 a,.int .i64 b] (.int .i64 (HL a b)):=by
 refine Ae [] tH func83 call83 ntmps83 mxd (AB @tH.eq_1 results83) rfl (fun qJ B qX qQ=> ?_);simp only[Aq]
 by_cases h1:a<b
 ·exact Az (AB (Fj a) (Fj b)) Ab (AB h1 @HL.eq_1)
 ·by_cases h2:b<a
  ·exact Az (AB (Fj a) (Fj b)) Ab (CL h1 h2 @HL.eq_1)
  ·exact Az (AB (Fj a) (Fj b)) Ab (CL h1 h2 @HL.eq_1)
def NQ (x y:Sym):Int:=if x.label=y.label then HL x.n y.n else if x.label then 1 else -1
end Go.Proofs.Wy
end
section
namespace Go.Proofs.Wy
open Go Go.Dm Tryz
variable [DMode]
structure Arc where
 fr:Int
 sy:Sym
 to:Int
 deriving DecidableEq
def AN (x:Arc):List DVal:=[.int .i64 x.fr,.bool x.sy.label,.int .i64 x.sy.n,.int .i64 x.to]
abbrev BR (l:List Arc):DVal:= .sl 4 32 (l.map AN)
def Dj (n:Int):List DVal:=[.int .i64 n]
abbrev CQ (l:List Int):DVal:= .sl 1 8 (l.map Dj)
def dBl (b:Bool):List DVal:=[.bool b]
structure Auto where
 st:Int
 fin:List Int
 arcs:List Arc
 deriving DecidableEq
def EY (a:Auto):List DVal:=[.int .i64 a.st,CQ a.fin,BR a.arcs]
@[simp] theorem FH_ (s:Arc):AJ (AN s)=0:=by simp[AN,AJ,mx]
@[simp] theorem Dh_ (l:List Arc):Br (l.map AN)=0:=Ie _ FH_ l
@[simp] theorem FF_ (s:Int):AJ (Dj s)=0:=by simp[Dj,AJ,mx]
@[simp] theorem De_ (l:List Int):Br (l.map Dj)=0:=Ie _ FF_ l
@[simp] theorem GX_ (s:Bool):AJ (dBl s)=0:=by simp[dBl,AJ,mx]
@[simp] theorem FG_ (l:List Bool):Br (l.map dBl)=0:=Ie _ GX_ l
@[simp] theorem Dg_ (a:Auto):AJ (EY a)=0:=by simp[EY,AJ,mx]
theorem Dv_ {l:List Int} (h:Ev (CQ l)):l.length<9223372036854775807:=by
 simp only[Ev,aJ0]at h;omega
theorem Dw_ {l:List Arc} (h:Ev (BR l)):l.length<9223372036854775807:=by
 simp only[Ev,aJ0]at h;omega
def stB (s q:Int):Bool:=decide (0<=q)&&decide (q<s)
def okF (s:Int) (l:List Int) (k:Nat):Bool:=match l[k]? with
 | none=>true
 | some q=>stB s q&&(decide (k=0)||match l[k-1]? with | none=>true | some p=>decide (p<q))
theorem CV_ {s:Int} {l:List Int} {q:Int} (h:l[0]? =some q):okF s l 0=stB s q:=by
 unfold okF;rw[h];simp
theorem Fo_ {s:Int} {l:List Int} {k:Nat} {p q:Int} (hk:0<k) (h:l[k]? =some q) (hp:l[k-1]? =some p):okF s l k=(stB s q&&decide (p<q)):=by
 unfold okF;rw[h];simp only[hp,show ¬k=0 by omega,decide_false,eA0]
def CW (x y:Arc):Int:=if HL x.fr y.fr=0 then (if NQ x.sy y.sy=0 then HL x.to y.to else NQ x.sy y.sy)else HL x.fr y.fr
def Mv (x y:Sym):Bool:=if x.label=y.label then decide (x.n<y.n)else y.label
def La (x y:Arc):Bool:=if x.fr=y.fr then (if x.sy=y.sy then decide (x.to<y.to)else Mv x.sy y.sy)else decide (x.fr<y.fr)
theorem OD {a b:Int}:HL a b=0↔a=b:=by unfold HL;split<;>(try split)<;>omega
theorem Sj {a b:Int}:HL a b<0↔a<b:=by unfold HL;split<;>(try split)<;>omega
theorem Tz {x y:Sym}:NQ x y=0↔x=y:=by
 obtain⟨a,n⟩:=x;obtain⟨b,m⟩:=y;unfold NQ;cases a<;>cases b<;>simp[OD]
theorem aY (x y:Sym):Mv x y=decide (NQ x y<0):=by
 obtain⟨a,n⟩:=x;obtain⟨b,m⟩:=y;unfold NQ Mv;cases a<;>cases b<;>simp[Sj]
theorem SB (x y:Arc):La x y=decide (CW x y<0):=by
 unfold La CW
 by_cases h1:x.fr=y.fr
 ·rw[if_pos h1,if_pos (OD.2 h1)]
  by_cases h2:x.sy=y.sy
  ·rw[if_pos h2,if_pos (Tz.2 h2)];exact decide_eq_decide.2 Sj.symm
  ·rw[if_neg h2,if_neg (fun h=>h2 (Tz.1 h)),aY]
 ·rw[if_neg h1,if_neg (fun h=>h1 (OD.1 h))];exact decide_eq_decide.2 Sj.symm
def UF (s:Int) (x:Arc):Bool:=stB s x.fr&&(stB s x.to&&decide (0<=x.sy.n))
def okA (s:Int) (l:List Arc) (k:Nat):Bool:=match l[k]? with
 | none=>true
 | some q=>UF s q&&(decide (k=0)||match l[k-1]? with | none=>true | some p=>La p q)
theorem CW_ {s:Int} {l:List Arc} {q:Arc} (h:l[0]? =some q):okA s l 0=UF s q:=by
 unfold okA;rw[h];simp
theorem Fp_ {s:Int} {l:List Arc} {k:Nat} {p q:Arc} (hk:0<k) (h:l[k]? =some q) (hp:l[k-1]? =some p):okA s l k=(UF s q&&La p q):=by
 unfold okA;rw[h];simp only[hp,show ¬k=0 by omega,decide_false,eA0]
def GS (a:Auto):Bool:=decide (1<=a.st)&&decide (a.st<=65)&&((List.range a.fin.length).all (okF a.st a.fin)&&(List.range a.arcs.length).all (okA a.st a.arcs))
theorem XL {a:Auto} (h:GS a=true):1<=a.st/\a.st<=65:=by
 unfold GS at h;simp only[aL0,decide_eq_true_eq]at h;exact h.1
theorem CS_ {a:Auto} (h:GS a=true) {q:Int} (hq:q∈a.fin):0<=q/\q<a.st:=by
 unfold GS at h;simp only[aL0,aZ0]at h;obtain⟨k,hk,rfl⟩:=bW0 hq;have:=h.2.1 k (bZ0.2 hk);unfold okF stB at this;rw[aI0 hk]at this;simp only[aL0,decide_eq_true_eq]at this;exact this.1
theorem CT_ {a:Auto} (h:GS a=true) {x:Arc} (hx:x∈a.arcs):0<=x.fr/\x.fr<a.st/\0<=x.to/\x.to<a.st:=by
 unfold GS at h;simp only[aL0,aZ0]at h;obtain⟨k,hk,rfl⟩:=bW0 hx;have:=h.2.2 k (bZ0.2 hk);unfold okA UF stB at this;rw[aI0 hk]at this;simp only[aL0,decide_eq_true_eq]at this;exact⟨this.1.1.1,this.1.1.2,this.1.2.1.1,this.1.2.1.2⟩
def bD (l:List Bool):List (List DVal):=l.map dBl
@[simp] theorem Jg_ (l:List Bool):Br (bD l)=0:=FG_ l
structure OrdC {α:Type} (c:α->α->Int):Prop where
 eq0:∀x y,c x y=0↔x=y
 anti:∀x y,c x y<0↔0<c y x
 trans:∀x y z,c x y<0->c y z<0->c x z<0
theorem OrdC.refl {α:Type} {c:α->α->Int} (h:OrdC c) (x:α):c x x=0:=(h.eq0 x x).2 rfl
theorem OrdC.nle {α:Type} {c:α->α->Int} (h:OrdC c) {x y:α}:¬c x y<0↔c y x<0\/x=y:=by
 have h1:=h.anti x y;have h2:=h.anti y x;have h3:=h.eq0 x y
 constructor
 ·intro hn
  by_cases h0:c x y=0
  ·exact .inr (h3.1 h0)
  ·exact .inl (h2.2 (by omega))
 ·rintro (h4 | rfl)
  ·have:=h2.1 h4;omega
  ·rw[h.refl];omega
theorem OrdC.ntrans {α:Type} {c:α->α->Int} (h:OrdC c) (x y z:α) (h1:¬c x y<0) (h2:¬c y z<0):¬c x z<0:=by
 rw[h.nle]at *
 rcases h1 with h1 | rfl
 ·rcases h2 with h2 | rfl
  ·exact .inl (h.trans _ _ _ h2 h1)
  ·exact .inl h1
 ·exact h2
theorem OrdC.le_anti {α:Type} {c:α->α->Int} (h:OrdC c) {x y:α} (h1:¬c x y<0) (h2:¬c y x<0):x=y:=by
 rcases h.nle.1 h1 with h1 | h1
 ·exact absurd h1 h2
 ·exact h1
theorem OrdC.total {α:Type} {c:α->α->Int} (h:OrdC c) (x y:α):¬c x y<0\/¬c y x<0:=by
 by_cases h1:c x y<0
 ·right;have:=(h.anti x y).1 h1;omega
 ·exact .inl h1
theorem Fl_ : OrdC HL:=by
 refine⟨fun x y=> ?_,fun x y=> ?_,fun x y z=> ?_⟩<;>unfold HL
 ·split
  ·constructor<;>intro h<;>omega
  ·split
   ·constructor<;>intro h<;>omega
   ·constructor<;>intro h<;>omega
 ·by_cases h1:x<y<;>by_cases h2:y<x<;>simp[h1,h2]<;>omega
 ·by_cases h1:x<y<;>by_cases h2:y<z<;>by_cases h3:x<z<;>simp[h1,h2,h3]<;>(try split)<;>(try split)<;>omega
def AY_ {α β:Type} (c:α->α->Int) (d:β->β->Int) (x y:α×β):Int:=if c x.1 y.1=0 then d x.2 y.2 else c x.1 y.1
theorem iF {α β:Type} {c:α->α->Int} {d:β->β->Int} (h:OrdC c) (k:OrdC d):OrdC (AY_ c d):=by
 refine⟨fun x y=> ?_,fun x y=> ?_,fun x y z=> ?_⟩<;>unfold AY_
 ·obtain⟨x1,x2⟩:=x;obtain⟨y1,y2⟩:=y;simp only[_root_.Prod.mk.injEq]
  split
  ·rename_i h0;rw[k.eq0];exact⟨fun hh=>⟨(h.eq0 _ _).1 h0,hh⟩,fun hh=>hh.2⟩
  ·rename_i h0;exact⟨fun hh=>absurd hh h0,fun hh=>absurd ((h.eq0 _ _).2 hh.1) h0⟩
 ·by_cases h0:c x.1 y.1=0
  ·have h1:c y.1 x.1=0:=(h.eq0 _ _).2 ((h.eq0 _ _).1 h0).symm;rw[if_pos h0,if_pos h1];exact k.anti _ _
  ·have h1:¬c y.1 x.1=0:=fun hh=>h0 ((h.eq0 _ _).2 ((h.eq0 _ _).1 hh).symm)
   rw[if_neg h0,if_neg h1];exact h.anti _ _
 ·by_cases h0:c x.1 y.1=0
  ·have e0:=(h.eq0 _ _).1 h0;rw[if_pos h0]
   by_cases h1:c y.1 z.1=0
   ·have e1:=(h.eq0 _ _).1 h1;have h2:c x.1 z.1=0:=(h.eq0 _ _).2 (e0.trans e1);rw[if_pos h1,if_pos h2];exact k.trans _ _ _
   ·have h2:¬c x.1 z.1=0:=by rw[e0];exact h1
    rw[if_neg h1,if_neg h2,e0];exact fun _ hh=>hh
  ·rw[if_neg h0]
   by_cases h1:c y.1 z.1=0
   ·have e1:=(h.eq0 _ _).1 h1;have h2:¬c x.1 z.1=0:=by rw[<-e1];exact h0
    rw[if_pos h1,if_neg h2,<-e1];exact fun hh _=>hh
   ·rw[if_neg h1];intro h3 h4;have h5:=h.trans _ _ _ h3 h4;have h2:¬c x.1 z.1=0:=by omega
    rw[if_neg h2];exact h5
theorem GM_ {α β:Type} {c:α->α->Int} (h:OrdC c) (f:β->α) (hf:∀x y,f x=f y->x=y):OrdC (fun x y=>c (f x) (f y)) :=
 ⟨fun x y=>by rw[h.eq0];exact⟨hf _ _,fun hh=>by rw[hh]⟩,fun x y=>h.anti _ _,fun x y z=>h.trans _ _ _⟩
theorem GL_ : OrdC NQ:=by
 have h:=GM_ (iF Fl_ Fl_) (fun s:Sym=>((if s.label then 1 else 0:Int),s.n)) (by
  rintro⟨l,n⟩ ⟨l',n'⟩ hh;simp only[_root_.Prod.mk.injEq]at hh;obtain⟨h1,rfl⟩:=hh
  cases l<;>cases l'<;>simp_all)
 have e:NQ=fun x y:Sym=>AY_ HL HL ((if x.label then 1 else 0:Int),x.n) ((if y.label then 1 else 0:Int),y.n):=by
  funext x y
  obtain⟨l,n⟩:=x;obtain⟨l',n'⟩:=y;cases l<;>cases l'<;>simp[NQ,AY_,HL]
 rw[e];exact h
def JL {α:Type} (c:α->α->Int) (l:List α):List α:=l.mergeSort (fun x y=> !decide (c y x<0))
theorem Fc {α:Type} (c:α->α->Int) (l:List α):(JL c l).Perm l:=dW0 _ _
theorem DG {α:Type} {c:α->α->Int} (h:OrdC c) (l:List α):(JL c l).Pairwise (fun x y=>¬c y x<0):=by
 have:=List.pairwise_mergeSort (le:=fun x y=> !decide (c y x<0)) (by
  intro a b d h1 h2;simp only[Bool.not_eq_true',decide_eq_false_iff_not]at *
  exact h.ntrans _ _ _ h2 h1) (by
  intro a b;simp only[dB0,Bool.not_eq_true',decide_eq_false_iff_not]
  exact h.total b a) l
 exact this.imp fun h=>by simpa using h
theorem Am_ {α:Type} {c:α->α->Int} (h:OrdC c) {a b:List α} (hp:a.Perm b) (ha:a.Pairwise (fun x y=>¬c y x<0)) (hb:b.Pairwise (fun x y=>¬c y x<0)):a=b :=
 List.Perm.eq_of_pairwise (le:=fun x y=>¬c y x<0) (fun x y _ _ h1 h2=>h.le_anti h2 h1) ha hb hp
theorem xY {α:Type} {c:α->α->Int} (h:OrdC c) {d:α->List DVal} {u:List DVal->α} (hu:∀x,u (d x)=x) {l:List α} {L:List (List DVal)} (hp:L.Perm (l.map d)) (hs:L.Pairwise (fun x y=>¬c (u y) (u x)<0)):L=(JL c l).map d:=by
 have h1:(L.map u).Perm l:=by
  have:=hp.map u
  rwa[cC0,show u∘d=id from funext hu,List.map_id]at this
 have h2:(L.map u).Pairwise (fun x y=>¬c y x<0):=by rw[dK0];exact hs
 have h3:=Am_ h (h1.trans (Fc c l).symm) h2 (DG h l)
 have h4:L=(L.map u).map d:=by
  rw[cC0]
  have h5:∀x∈L,(d∘u) x=id x:=by
   intro x hx;obtain⟨y,_,rfl⟩:=aT0.1 (hp.mem_iff.1 hx);simp[hu]
  rw[cJ0 h5,List.map_id]
 rw[h4,h3]
def DM {α:Type} (c:α->α->Int):List α->α->List α
 | [],p=>[p]
 | x::l,p=>if c x p<0 then x::DM c l p else if c p x<0 then p::x::l else x::l
theorem Rf {α:Type} {c:α->α->Int} (h:OrdC c) {p z:α}:∀{l:List α},z∈DM c l p↔z=p\/z∈l
 | []=>by simp[DM]
 | x::l=>by
  have ih:=Rf h (p:=p) (z:=z) (l:=l);simp only[DM]
  split
  ·rw[aK0,ih,aK0];exact⟨fun hh=>by rcases hh with a | a | a<;>simp[a],fun hh=>by rcases hh with a | a | a<;>simp[a]⟩
  ·rename_i h1
   split
   ·simp only[aK0]
   ·rename_i h2;have:=h.le_anti h1 h2;subst this;simp only[aK0]
    exact⟨.inr,fun hh=>by
     rcases hh with a | a
     ·exact .inl a
     ·exact a⟩
def Eg {α:Type} (c:α->α->Int) (l:List α):Prop:=l.Pairwise (fun x y=>c x y<0)
theorem OV {α:Type} {c:α->α->Int} (h:OrdC c) {p:α}:∀{l:List α},Eg c l->Eg c (DM c l p)
 | [],_=>by simp[DM,Eg]
 | x::l,hs=>by
  obtain⟨h1,h2⟩:=cH0.1 hs;simp only[DM]
  split
  ·rename_i hx;refine cH0.2 ⟨fun z hz=> ?_,OV h h2⟩
   rcases (Rf h).1 hz with rfl | hz
   ·exact hx
   ·exact h1 z hz
  ·split
   ·rename_i hx;refine cH0.2 ⟨fun z hz=> ?_,hs⟩
    rcases aK0.1 hz with rfl | hz
    ·exact hx
    ·exact h.trans _ _ _ hx (h1 z hz)
   ·exact hs
theorem Kp {α:Type} {c:α->α->Int} (h:OrdC c):∀(l a:List α),Eg c a->Eg c (l.foldl (DM c) a)/\∀z,z∈l.foldl (DM c) a↔z∈l\/z∈a
 | [],a,ha=>⟨ha,by simp⟩
 | x::l,a,ha=>by
  obtain⟨h1,h2⟩:=Kp h l (DM c a x) (OV h ha);refine⟨h1,fun z=> ?_⟩;rw[cY0,h2,Rf h,aK0];exact⟨fun hh=>by rcases hh with q | q | q<;>simp[q],fun hh=>by rcases hh with (q | q) | q<;>simp[q]⟩
theorem LS {α:Type} {c:α->α->Int} (h:OrdC c) {x:α}:¬c x x<0:=by rw[h.refl];omega
theorem NR {α:Type} {c:α->α->Int} (h:OrdC c):∀{a b:List α},Eg c a->Eg c b->(∀z,z∈a↔z∈b)->a=b
 | [],[],_,_,_=>rfl
 | [],y::b,_,_,hm=>by have:=(hm y).2 aH0;simp at this
 | x::a,[],_,_,hm=>by have:=(hm x).1 aH0;simp at this
 | x::a,y::b,ha,hb,hm=>by
  obtain⟨a1,a2⟩:=cH0.1 ha;obtain⟨b1,b2⟩:=cH0.1 hb
  have mI:x=y:=by
   rcases aK0.1 ((hm x).1 aH0)with h1 | h1
   ·exact h1
   ·rcases aK0.1 ((hm y).2 aH0)with h2 | h2
    ·exact h2.symm
    ·exact absurd (h.trans _ _ _ (a1 y h2) (b1 x h1)) (LS h)
  subst mI;rw[NR h a2 b2 fun z=> ?_]
  constructor
  ·intro hz
   rcases aK0.1 ((hm z).1 (aF0 _ hz))with h1 | h1
   ·subst h1;exact absurd (a1 z hz) (LS h)
   ·exact h1
  ·intro hz
   rcases aK0.1 ((hm z).2 (aF0 _ hz))with h1 | h1
   ·subst h1;exact absurd (b1 z hz) (LS h)
   ·exact h1
theorem LK {α:Type} {c:α->α->Int} (h:OrdC c):∀{l:List α} {p:α},(p::l).Pairwise (fun x y=>¬c y x<0)->Eg c (p::CC (fun x y=>c x y==0) p l)/\∀z,z∈p::CC (fun x y=>c x y==0) p l↔z∈p::l
 | [],p,_=>by simp[CC,Eg]
 | y::l,p,hs=>by
  obtain⟨h1,h2⟩:=cH0.1 hs;obtain⟨i1,i2⟩:=LK h h2;simp only[CC]
  split
  ·rename_i he;have:y=p:=(h.eq0 _ _).1 (by simpa using he);subst this;exact⟨i1,fun z=>by rw[i2];simp⟩
  ·rename_i he;have qF:y≠p:=fun hh=>he (by subst hh;simp[h.refl])
   have qV:c p y<0:=by
    rcases h.nle.1 (h1 y aH0)with h3 | h3
    ·exact h3
    ·exact absurd h3 qF
   refine⟨cH0.2 ⟨fun z hz=> ?_,i1⟩,fun z=> ?_⟩
   ·obtain⟨j1,_⟩:=cH0.1 i1
    rcases aK0.1 hz with rfl | hz
    ·exact qV
    ·exact h.trans _ _ _ qV (j1 z hz)
   ·have:=i2 z;rw[aK0,this];simp[aK0]
theorem EM {α:Type} {c:α->α->Int} (h:OrdC c) {l:List α} (hs:l.Pairwise (fun x y=>¬c y x<0)):Eg c (Cy (fun x y=>c x y==0) l)/\∀z,z∈Cy (fun x y=>c x y==0) l↔z∈l:=by
 cases l with
 | nil=>simp[Cy,Eg]
 | cons x l=>exact LK h hs
theorem DP_ {α:Type} {c:α->α->Int} (h:OrdC c) (l:List α):l.foldl (DM c) []=Cy (fun x y=>c x y==0) (JL c l):=by
 obtain⟨h1,h2⟩:=Kp h l [] List.Pairwise.nil;obtain⟨h3,h4⟩:=EM h (DG h l);refine NR h h1 h3 fun z=> ?_
 rw[h2,h4,(Fc c l).mem_iff];simp
end Go.Proofs.Wy
end
