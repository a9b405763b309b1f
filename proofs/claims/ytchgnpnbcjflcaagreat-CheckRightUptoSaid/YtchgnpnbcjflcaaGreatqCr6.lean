/- Parts of a proof, laid together: BX0, WOg, WSg, BO0, EnBl, Lays, LayTs, EnY, EnSt, WB0, WJ0, WJ1, WJ2, WJ3, RT. -/
import Derived.Shelf.Strings.BuilderF
import Derived.Shelf.SlSortCmp.NoneTotal
import Derived.Shelf.SlGeneric
import Derived.Ground.SlsfProg
import Derived.Shelf.SortM.Plain
import Derived.Shelf.SortM.SortNone
import Derived.Shelf.Sort.Plain
import Derived.Shelf.Small.Strs
import Derived.Shelf.SlIter.Nil
import Derived.Shelf.SlIter.Sorted
import Derived.Ground.SlgmProg
import Derived.Ground.GgzProg
import Derived.Shelf.Spec.SlicesGrow
import Derived.Ground.Names8Prog
import Derived.Test.YtchgnpnbcjflcaaGreatChecked
import Derived.Lib.Builder
import Derived.WalkKit
import Derived.BigCall
import Derived.Test.YtchgnpnbcjflcaaGreatqCr4
import Derived.Test.YtchgnpnbcjflcaaGreatqCr5
set_option linter.unusedSimpArgs false
set_option maxHeartbeats 8000000
set_option linter.unusedVariables false
set_option linter.unusedSectionVars false
section
namespace Go.Proofs.Wy
open Go Go.Dm Tryz
variable [DMode]
structure Arc where
 fr:Int
 sy:Sym
 to:Int
 deriving DecidableEq
def Bm (x:Arc):List DVal:=[.int .i64 x.fr,.bool x.sy.label,.int .i64 x.sy.n,.int .i64 x.to]
abbrev Cz (l:List Arc):DVal:= .sl 4 32 (l.map Bm)
def Du (n:Int):List DVal:=[.int .i64 n]
abbrev BD (l:List Int):DVal:= .sl 1 8 (l.map Du)
def ZA (b:Bool):List DVal:=[.bool b]
structure Auto where
 st:Int
 fin:List Int
 arcs:List Arc
 deriving DecidableEq
def Hi (a:Auto):List DVal:=[.int .i64 a.st,BD a.fin,Cz a.arcs]
@[simp] theorem Ro_ (s:Arc):AV (Bm s)=0:=by simp[Bm,AV,mx]
@[simp] theorem Ou_ (l:List Arc):BK (l.map Bm)=0:=Jb _ Ro_ l
@[simp] theorem Rm_ (s:Int):AV (Du s)=0:=by simp[Du,AV,mx]
@[simp] theorem Or_ (l:List Int):BK (l.map Du)=0:=Jb _ Rm_ l
@[simp] theorem SM_ (s:Bool):AV (ZA s)=0:=by simp[ZA,AV,mx]
@[simp] theorem iY (l:List Bool):BK (l.map ZA)=0:=Jb _ SM_ l
@[simp] theorem Ot_ (a:Auto):AV (Hi a)=0:=by simp[Hi,AV,mx]
theorem OI_ {l:List Int} (h:Dq (BD l)):l.length<9223372036854775807:=by
 simp only[Dq,aJ0]at h;omega
def stB (s q:Int):Bool:=decide (0<=q)&&decide (q<s)
def okF (s:Int) (l:List Int) (k:Nat):Bool:=match l[k]? with
 | none=>true
 | some q=>stB s q&&(decide (k=0)||match l[k-1]? with | none=>true | some p=>decide (p<q))
theorem Ob_ {s:Int} {l:List Int} {q:Int} (h:l[0]? =some q):okF s l 0=stB s q:=by
 unfold okF;rw[h];simp
theorem QX_ {s:Int} {l:List Int} {k:Nat} {p q:Int} (hk:0<k) (h:l[k]? =some q) (hp:l[k-1]? =some p):okF s l k=(stB s q&&decide (p<q)):=by
 unfold okF;rw[h];simp only[hp,show ¬k=0 by omega,decide_false,eO0]
def DT (x y:Arc):Int:=if EY x.fr y.fr=0 then (if Gk x.sy y.sy=0 then EY x.to y.to else Gk x.sy y.sy)else EY x.fr y.fr
def Pp (x y:Sym):Bool:=if x.label=y.label then decide (x.n<y.n)else y.label
def NJ (x y:Arc):Bool:=if x.fr=y.fr then (if x.sy=y.sy then decide (x.to<y.to)else Pp x.sy y.sy)else decide (x.fr<y.fr)
theorem RZ {a b:Int}:EY a b=0↔a=b:=by unfold EY;split<;>(try split)<;>omega
theorem WL {a b:Int}:EY a b<0↔a<b:=by unfold EY;split<;>(try split)<;>omega
theorem Yv {x y:Sym}:Gk x y=0↔x=y:=by
 obtain⟨a,n⟩:=x;obtain⟨b,m⟩:=y;unfold Gk;cases a<;>cases b<;>simp[RZ]
theorem Fm_ (x y:Sym):Pp x y=decide (Gk x y<0):=by
 obtain⟨a,n⟩:=x;obtain⟨b,m⟩:=y;unfold Gk Pp;cases a<;>cases b<;>simp[WL]
theorem Xj (x y:Arc):NJ x y=decide (DT x y<0):=by
 unfold NJ DT
 by_cases h1:x.fr=y.fr
 ·rw[if_pos h1,if_pos (RZ.2 h1)]
  by_cases h2:x.sy=y.sy
  ·rw[if_pos h2,if_pos (Yv.2 h2)];exact decide_eq_decide.2 WL.symm
  ·rw[if_neg h2,if_neg (fun h=>h2 (Yv.1 h)),Fm_]
 ·rw[if_neg h1,if_neg (fun h=>h1 (RZ.1 h))];exact decide_eq_decide.2 WL.symm
def ZL (s:Int) (x:Arc):Bool:=stB s x.fr&&(stB s x.to&&decide (0<=x.sy.n))
def okA (s:Int) (l:List Arc) (k:Nat):Bool:=match l[k]? with
 | none=>true
 | some q=>ZL s q&&(decide (k=0)||match l[k-1]? with | none=>true | some p=>NJ p q)
theorem Od_ {s:Int} {l:List Arc} {q:Arc} (h:l[0]? =some q):okA s l 0=ZL s q:=by
 unfold okA;rw[h];simp
theorem QY_ {s:Int} {l:List Arc} {k:Nat} {p q:Arc} (hk:0<k) (h:l[k]? =some q) (hp:l[k-1]? =some p):okA s l k=(ZL s q&&NJ p q):=by
 unfold okA;rw[h];simp only[hp,show ¬k=0 by omega,decide_false,eO0]
def IU (a:Auto):Bool:=decide (1<=a.st)&&decide (a.st<=65)&&((List.range a.fin.length).all (okF a.st a.fin)&&(List.range a.arcs.length).all (okA a.st a.arcs))
theorem Ms {a:Auto} (h:IU a=true):1<=a.st/\a.st<=65:=by
 unfold IU at h;simp only[aM0,decide_eq_true_eq]at h;exact h.1
theorem FV_ {a:Auto} (h:IU a=true) {q:Int} (hq:q∈a.fin):0<=q/\q<a.st:=by
 unfold IU at h;simp only[aM0,bA0]at h;obtain⟨k,hk,rfl⟩:=bJ0 hq;have:=h.2.1 k (cP0.2 hk);unfold okF stB at this;rw[aD0 hk]at this;simp only[aM0,decide_eq_true_eq]at this;exact this.1
theorem FW_ {a:Auto} (h:IU a=true) {x:Arc} (hx:x∈a.arcs):0<=x.fr/\x.fr<a.st/\0<=x.to/\x.to<a.st:=by
 unfold IU at h;simp only[aM0,bA0]at h;obtain⟨k,hk,rfl⟩:=bJ0 hx;have:=h.2.2 k (cP0.2 hk);unfold okA ZL stB at this;rw[aD0 hk]at this;simp only[aM0,decide_eq_true_eq]at this;exact⟨this.1.1.1,this.1.1.2,this.1.2.1.1,this.1.2.1.2⟩
def bAt (l:List Bool) (q:Int):Bool:=l[q.toNat]?.getD false
def stepG (fr:List Bool) (s:Sym) (to:List Bool) (x:Arc):List Bool:=if bAt fr x.fr&&decide (x.sy=s)then to.set x.to.toNat true else to
def bD (l:List Bool):List (List DVal):=l.map ZA
@[simp] theorem UV_ (l:List Bool):BK (bD l)=0:=iY l
structure OrdC {α:Type} (c:α->α->Int):Prop where
 eq0:∀x y,c x y=0↔x=y
 anti:∀x y,c x y<0↔0<c y x
 trans:∀x y z,c x y<0->c y z<0->c x z<0
theorem OrdC.refl {α:Type} {c:α->α->Int} (h:OrdC c) (x:α):c x x=0:=(h.eq0 x x).2 rfl
theorem OrdC.nle {α:Type} {c:α->α->Int} (h:OrdC c) {x y:α}:¬c x y<0↔c y x<0\/x=y:=by
 have h1:=h.anti x y;have h2:=h.anti y x;have h3:=h.eq0 x y
 constructor
 ·intro hn
  by_cases h0:c x y=0
  ·exact .inr (h3.1 h0)
  ·exact .inl (h2.2 (by omega))
 ·rintro (h4 | rfl)
  ·have:=h2.1 h4;omega
  ·rw[h.refl];omega
theorem OrdC.ntrans {α:Type} {c:α->α->Int} (h:OrdC c) (x y z:α) (h1:¬c x y<0) (h2:¬c y z<0):¬c x z<0:=by
 rw[h.nle]at *
 rcases h1 with h1 | rfl
 ·rcases h2 with h2 | rfl
  ·exact .inl (h.trans _ _ _ h2 h1)
  ·exact .inl h1
 ·exact h2
theorem OrdC.le_anti {α:Type} {c:α->α->Int} (h:OrdC c) {x y:α} (h1:¬c x y<0) (h2:¬c y x<0):x=y:=by
 rcases h.nle.1 h1 with h1 | h1
 ·exact absurd h1 h2
 ·exact h1
theorem OrdC.total {α:Type} {c:α->α->Int} (h:OrdC c) (x y:α):¬c x y<0\/¬c y x<0:=by
 by_cases h1:c x y<0
 ·right;have:=(h.anti x y).1 h1;omega
 ·exact .inl h1
theorem KQ_ : OrdC EY:=by
 refine⟨fun x y=> ?_,fun x y=> ?_,fun x y z=> ?_⟩<;>unfold EY
 ·split
  ·constructor<;>intro h<;>omega
  ·split
   ·constructor<;>intro h<;>omega
   ·constructor<;>intro h<;>omega
 ·by_cases h1:x<y<;>by_cases h2:y<x<;>simp[h1,h2]<;>omega
 ·by_cases h1:x<y<;>by_cases h2:y<z<;>by_cases h3:x<z<;>simp[h1,h2,h3]<;>(try split)<;>(try split)<;>omega
def Lw_ {α β:Type} (c:α->α->Int) (d:β->β->Int) (x y:α×β):Int:=if c x.1 y.1=0 then d x.2 y.2 else c x.1 y.1
theorem Vj {α β:Type} {c:α->α->Int} {d:β->β->Int} (h:OrdC c) (k:OrdC d):OrdC (Lw_ c d):=by
 refine⟨fun x y=> ?_,fun x y=> ?_,fun x y z=> ?_⟩<;>unfold Lw_
 ·obtain⟨x1,x2⟩:=x;obtain⟨y1,y2⟩:=y;simp only[_root_.Prod.mk.injEq]
  split
  ·rename_i h0;rw[k.eq0];exact⟨fun hh=>⟨(h.eq0 _ _).1 h0,hh⟩,fun hh=>hh.2⟩
  ·rename_i h0;exact⟨fun hh=>absurd hh h0,fun hh=>absurd ((h.eq0 _ _).2 hh.1) h0⟩
 ·by_cases h0:c x.1 y.1=0
  ·have h1:c y.1 x.1=0:=(h.eq0 _ _).2 ((h.eq0 _ _).1 h0).symm;rw[if_pos h0,if_pos h1];exact k.anti _ _
  ·have h1:¬c y.1 x.1=0:=fun hh=>h0 ((h.eq0 _ _).2 ((h.eq0 _ _).1 hh).symm)
   rw[if_neg h0,if_neg h1];exact h.anti _ _
 ·by_cases h0:c x.1 y.1=0
  ·have e0:=(h.eq0 _ _).1 h0;rw[if_pos h0]
   by_cases h1:c y.1 z.1=0
   ·have e1:=(h.eq0 _ _).1 h1;have h2:c x.1 z.1=0:=(h.eq0 _ _).2 (e0.trans e1);rw[if_pos h1,if_pos h2];exact k.trans _ _ _
   ·have h2:¬c x.1 z.1=0:=by rw[e0];exact h1
    rw[if_neg h1,if_neg h2,e0];exact fun _ hh=>hh
  ·rw[if_neg h0]
   by_cases h1:c y.1 z.1=0
   ·have e1:=(h.eq0 _ _).1 h1;have h2:¬c x.1 z.1=0:=by rw[<-e1];exact h0
    rw[if_pos h1,if_neg h2,<-e1];exact fun hh _=>hh
   ·rw[if_neg h1];intro h3 h4;have h5:=h.trans _ _ _ h3 h4;have h2:¬c x.1 z.1=0:=by omega
    rw[if_neg h2];exact h5
theorem NY_ {α β:Type} {c:α->α->Int} (h:OrdC c) (f:β->α) (hf:∀x y,f x=f y->x=y):OrdC (fun x y=>c (f x) (f y)) :=
 ⟨fun x y=>by rw[h.eq0];exact⟨hf _ _,fun hh=>by rw[hh]⟩,fun x y=>h.anti _ _,fun x y z=>h.trans _ _ _⟩
theorem UE_ {α:Type} {c:α->α->Int} (h:OrdC c):OrdC (GM c):=by
 refine⟨fun x=> ?_,fun x=> ?_,fun x=> ?_⟩
 ·induction x with
  | nil=>intro y;cases y<;>simp[GM]
  | cons a x ih =>
   intro y
   cases y with
   | nil=>simp[GM]
   | cons b y =>
    simp only[GM,bL0]
    split
    ·rename_i h0;rw[ih];exact⟨fun hh=>⟨(h.eq0 _ _).1 h0,hh⟩,fun hh=>hh.2⟩
    ·rename_i h0;exact⟨fun hh=>absurd hh h0,fun hh=>absurd ((h.eq0 _ _).2 hh.1) h0⟩
 ·induction x with
  | nil=>intro y;cases y<;>simp[GM]
  | cons a x ih =>
   intro y
   cases y with
   | nil=>simp[GM]
   | cons b y =>
    simp only[GM]
    by_cases h0:c a b=0
    ·have h1:c b a=0:=(h.eq0 _ _).2 ((h.eq0 _ _).1 h0).symm;rw[if_pos h0,if_pos h1];exact ih y
    ·have h1:¬c b a=0:=fun hh=>h0 ((h.eq0 _ _).2 ((h.eq0 _ _).1 hh).symm)
     rw[if_neg h0,if_neg h1];exact h.anti _ _
 ·induction x with
  | nil=>intro y z;cases y<;>cases z<;>simp[GM]
  | cons a x ih =>
   intro y z
   cases y with
   | nil=>simp[GM]
   | cons b y =>
    cases z with
    | nil=>simp[GM]
    | cons d z =>
     simp only[GM]
     by_cases h0:c a b=0
     ·have e0:=(h.eq0 _ _).1 h0;rw[if_pos h0]
      by_cases h1:c b d=0
      ·have h2:c a d=0:=by rw[e0];exact h1
       rw[if_pos h1,if_pos h2];exact ih y z
      ·have h2:¬c a d=0:=by rw[e0];exact h1
       rw[if_neg h1,if_neg h2,e0];exact fun _ hh=>hh
     ·rw[if_neg h0]
      by_cases h1:c b d=0
      ·have e1:=(h.eq0 _ _).1 h1;have h2:¬c a d=0:=by rw[<-e1];exact h0
       rw[if_pos h1,if_neg h2,<-e1];exact fun hh _=>hh
      ·rw[if_neg h1];intro h3 h4;have h5:=h.trans _ _ _ h3 h4;have h2:¬c a d=0:=by omega
       rw[if_neg h2];exact h5
theorem NX_ : OrdC Gk:=by
 have h:=NY_ (Vj KQ_ KQ_) (fun s:Sym=>((if s.label then 1 else 0:Int),s.n)) (by
  rintro⟨l,n⟩ ⟨l',n'⟩ hh;simp only[_root_.Prod.mk.injEq]at hh;obtain⟨h1,rfl⟩:=hh
  cases l<;>cases l'<;>simp_all)
 have e:Gk=fun x y:Sym=>Lw_ EY EY ((if x.label then 1 else 0:Int),x.n) ((if y.label then 1 else 0:Int),y.n):=by
  funext x y
  obtain⟨l,n⟩:=x;obtain⟨l',n'⟩:=y;cases l<;>cases l'<;>simp[Gk,Lw_,EY]
 rw[e];exact h
def FQ {α:Type} (c:α->α->Int) (l:List α):List α:=l.mergeSort (fun x y=> !decide (c y x<0))
theorem DP {α:Type} (c:α->α->Int) (l:List α):(FQ c l).Perm l:=eC0 _ _
theorem CN {α:Type} {c:α->α->Int} (h:OrdC c) (l:List α):(FQ c l).Pairwise (fun x y=>¬c y x<0):=by
 have:=List.pairwise_mergeSort (le:=fun x y=> !decide (c y x<0)) (by
  intro a b d h1 h2;simp only[eN0,decide_eq_false_iff_not]at *
  exact h.ntrans _ _ _ h2 h1) (by
  intro a b;simp only[dI0,eN0,decide_eq_false_iff_not]
  exact h.total b a) l
 exact this.imp fun h=>by simpa using h
theorem KB_ {α:Type} {c:α->α->Int} (h:OrdC c) {a b:List α} (hp:a.Perm b) (ha:a.Pairwise (fun x y=>¬c y x<0)) (hb:b.Pairwise (fun x y=>¬c y x<0)):a=b :=
 List.Perm.eq_of_pairwise (le:=fun x y=>¬c y x<0) (fun x y _ _ h1 h2=>h.le_anti h2 h1) ha hb hp
theorem Yq {α:Type} {c:α->α->Int} (h:OrdC c) {d:α->List DVal} {u:List DVal->α} (hu:∀x,u (d x)=x) {l:List α} {L:List (List DVal)} (hp:L.Perm (l.map d)) (hs:L.Pairwise (fun x y=>¬c (u y) (u x)<0)):L=(FQ c l).map d:=by
 have h1:(L.map u).Perm l:=by
  have:=hp.map u
  rwa[cF0,show u∘d=id from funext hu,List.map_id]at this
 have h2:(L.map u).Pairwise (fun x y=>¬c y x<0):=by rw[dN0];exact hs
 have h3:=KB_ h (h1.trans (DP c l).symm) h2 (CN h l)
 have h4:L=(L.map u).map d:=by
  rw[cF0]
  have h5:∀x∈L,(d∘u) x=id x:=by
   intro x hx;obtain⟨y,_,rfl⟩:=aU0.1 (hp.mem_iff.1 hx);simp[hu]
  rw[cR0 h5,List.map_id]
 rw[h4,h3]
def BO {α:Type} (c:α->α->Int):List α->α->List α
 | [],p=>[p]
 | x::l,p=>if c x p<0 then x::BO c l p else if c p x<0 then p::x::l else x::l
theorem TX {α:Type} {c:α->α->Int} (l:List α) (p:α):BO c l p≠[]:=by
 cases l with
 | nil=>simp[BO]
 | cons x l=>simp only[BO];split<;>(try split)<;>simp
theorem Vv {α:Type} {c:α->α->Int} (h:OrdC c) {p z:α}:∀{l:List α},z∈BO c l p↔z=p\/z∈l
 | []=>by simp[BO]
 | x::l=>by
  have ih:=Vv h (p:=p) (z:=z) (l:=l);simp only[BO]
  split
  ·rw[aL0,ih,aL0];exact⟨fun hh=>by rcases hh with a | a | a<;>simp[a],fun hh=>by rcases hh with a | a | a<;>simp[a]⟩
  ·rename_i h1
   split
   ·simp only[aL0]
   ·rename_i h2;have:=h.le_anti h1 h2;subst this;simp only[aL0]
    exact⟨.inr,fun hh=>by
     rcases hh with a | a
     ·exact .inl a
     ·exact a⟩
def Fo {α:Type} (c:α->α->Int) (l:List α):Prop:=l.Pairwise (fun x y=>c x y<0)
theorem SE {α:Type} {c:α->α->Int} (h:OrdC c) {p:α}:∀{l:List α},Fo c l->Fo c (BO c l p)
 | [],_=>by simp[BO,Fo]
 | x::l,hs=>by
  obtain⟨h1,h2⟩:=bS0.1 hs;simp only[BO]
  split
  ·rename_i hx;refine bS0.2 ⟨fun z hz=> ?_,SE h h2⟩
   rcases (Vv h).1 hz with rfl | hz
   ·exact hx
   ·exact h1 z hz
  ·split
   ·rename_i hx;refine bS0.2 ⟨fun z hz=> ?_,hs⟩
    rcases aL0.1 hz with rfl | hz
    ·exact hx
    ·exact h.trans _ _ _ hx (h1 z hz)
   ·exact hs
theorem ML {α:Type} {c:α->α->Int} (h:OrdC c):∀(l a:List α),Fo c a->Fo c (l.foldl (BO c) a)/\∀z,z∈l.foldl (BO c) a↔z∈l\/z∈a
 | [],a,ha=>⟨ha,by simp⟩
 | x::l,a,ha=>by
  obtain⟨h1,h2⟩:=ML h l (BO c a x) (SE h ha);refine⟨h1,fun z=> ?_⟩;rw[cM0,h2,Vv h,aL0];exact⟨fun hh=>by rcases hh with q | q | q<;>simp[q],fun hh=>by rcases hh with (q | q) | q<;>simp[q]⟩
theorem OI {α:Type} {c:α->α->Int} (h:OrdC c) {x:α}:¬c x x<0:=by rw[h.refl];omega
theorem Nl {α:Type} {c:α->α->Int} (h:OrdC c):∀{a b:List α},Fo c a->Fo c b->(∀z,z∈a↔z∈b)->a=b
 | [],[],_,_,_=>rfl
 | [],y::b,_,_,hm=>by have:=(hm y).2 aF0;simp at this
 | x::a,[],_,_,hm=>by have:=(hm x).1 aF0;simp at this
 | x::a,y::b,ha,hb,hm=>by
  obtain⟨a1,a2⟩:=bS0.1 ha;obtain⟨b1,b2⟩:=bS0.1 hb
  have fY:x=y:=by
   rcases aL0.1 ((hm x).1 aF0)with h1 | h1
   ·exact h1
   ·rcases aL0.1 ((hm y).2 aF0)with h2 | h2
    ·exact h2.symm
    ·exact absurd (h.trans _ _ _ (a1 y h2) (b1 x h1)) (OI h)
  subst fY;rw[Nl h a2 b2 fun z=> ?_]
  constructor
  ·intro hz
   rcases aL0.1 ((hm z).1 (aE0 _ hz))with h1 | h1
   ·subst h1;exact absurd (a1 z hz) (OI h)
   ·exact h1
  ·intro hz
   rcases aL0.1 ((hm z).2 (aE0 _ hz))with h1 | h1
   ·subst h1;exact absurd (b1 z hz) (OI h)
   ·exact h1
theorem Oy {α:Type} {c:α->α->Int} (h:OrdC c):∀{l:List α} {p:α},(p::l).Pairwise (fun x y=>¬c y x<0)->Fo c (p::CA (fun x y=>c x y==0) p l)/\∀z,z∈p::CA (fun x y=>c x y==0) p l↔z∈p::l
 | [],p,_=>by simp[CA,Fo]
 | y::l,p,hs=>by
  obtain⟨h1,h2⟩:=bS0.1 hs;obtain⟨i1,i2⟩:=Oy h h2;simp only[CA]
  split
  ·rename_i he;have:y=p:=(h.eq0 _ _).1 (by simpa using he);subst this;exact⟨i1,fun z=>by rw[i2];simp⟩
  ·rename_i he;have qK:y≠p:=fun hh=>he (by subst hh;simp[h.refl])
   have qV:c p y<0:=by
    rcases h.nle.1 (h1 y aF0)with h3 | h3
    ·exact h3
    ·exact absurd h3 qK
   refine⟨bS0.2 ⟨fun z hz=> ?_,i1⟩,fun z=> ?_⟩
   ·obtain⟨j1,_⟩:=bS0.1 i1
    rcases aL0.1 hz with rfl | hz
    ·exact qV
    ·exact h.trans _ _ _ qV (j1 z hz)
   ·have:=i2 z;rw[aL0,this];simp[aL0]
theorem Dp {α:Type} {c:α->α->Int} (h:OrdC c) {l:List α} (hs:l.Pairwise (fun x y=>¬c y x<0)):Fo c (Bu (fun x y=>c x y==0) l)/\∀z,z∈Bu (fun x y=>c x y==0) l↔z∈l:=by
 cases l with
 | nil=>simp[Bu,Fo]
 | cons x l=>exact Oy h hs
theorem Wb {α:Type} {c:α->α->Int} (h:OrdC c) (l:List α):l.foldl (BO c) []=Bu (fun x y=>c x y==0) (FQ c l):=by
 obtain⟨h1,h2⟩:=ML h l [] List.Pairwise.nil;obtain⟨h3,h4⟩:=Dp h (CN h l);refine Nl h h1 h3 fun z=> ?_
 rw[h2,h4,(DP c l).mem_iff];simp
theorem Lf_ {α:Type} {c:α->α->Int} (h:OrdC c) (l:List α):Bu (fun x y=>c x y==0) (FQ c (Bu (fun x y=>c x y==0) (FQ c l)))=Bu (fun x y=>c x y==0) (FQ c l):=by
 obtain⟨h3,h4⟩:=Dp h (CN h l);obtain⟨h5,h6⟩:=Dp h (CN h (Bu (fun x y=>c x y==0) (FQ c l)));refine Nl h h5 h3 fun z=> ?_
 rw[h6,(DP c _).mem_iff]
theorem WE {α:Type} {e:α->α->Bool}:∀(l:List α) (p:α),(CA e p l).length<=l.length
 | [],_=>by simp[CA]
 | y::l,p=>by
  have:=WE (e:=e) l y;simp only[CA]
  split<;>simp<;>omega
theorem Mf_ {α:Type} {e:α->α->Bool} (l:List α):(Bu e l).length<=l.length:=by
 cases l with
 | nil=>simp[Bu]
 | cons x l=>have:=WE (e:=e) l x;simp[Bu];omega
theorem Ca {x:Nd}:Cw x=true↔x.k=2\/x.k=3:=by unfold Cw;simp
def KZ (l:List Nd) (p:Nat):Nat:=((l.take p).filter Cw).length
def Dh (l:List Nd):List Nd:=l.filter Cw
theorem UO (l:List Nd):KZ l 0=0:=by simp[KZ]
theorem Jp (l:List Nd):KZ l l.length=(Dh l).length:=by simp[KZ,Dh]
theorem UP {l:List Nd} {p:Nat} {x:Nd} (h:l[p]? =some x):KZ l (p+1)=KZ l p+(if Cw x=true then 1 else 0):=by
 unfold KZ;rw[bD0,h,dC0];cases hx:Cw x<;>simp[hx]
theorem UQ (l:List Nd) {p q:Nat} (h:p<=q):KZ l p<=KZ l q:=by
 unfold KZ;obtain⟨d,rfl⟩:∃d,q=p+d:=⟨q-p,by omega⟩;rw[List.take_add,dC0,aC0];omega
theorem FA_ {l:List Nd} {p q:Nat} {x:Nd} (h:l[p]? =some x) (hx:Cw x=true) (hq:p<q):KZ l p<KZ l q:=by
 have h1:=UP h;rw[if_pos hx]at h1;have:=UQ l (show p+1<=q from hq);omega
theorem SP_ {l:List Nd} {p:Nat} {x:Nd} (h:l[p]? =some x) (hx:Cw x=true):(Dh l)[KZ l p]? =some x:=by
 obtain⟨hp,rfl⟩:=aB0.1 h;unfold Dh KZ
 have h1:l.filter Cw=(l.take p).filter Cw++(l[p]::(l.drop (p+1)).filter Cw):=by
  have h2:l=l.take p++l[p]::l.drop (p+1):=by rw[<-aP0 hp,List.take_append_drop]
  have h3:=congrArg (List.filter Cw) h2;rw[dC0,List.filter_cons,if_pos hx]at h3;exact h3
 rw[h1,bG0 (Nat.le_refl _),eA0];rfl
theorem YP {l:List Nd}:∀{n:Nat},n<=l.length->(Dl l n).length=KZ l n
 | 0,_=>by simp[Dl,KZ]
 | n+1,h=>by
  have hn:l[n]? =some (l[n]'(by omega)):=aD0 (by omega);rw[OM hn,UP hn,aC0,YP (by omega)];cases Cw l[n]<;>simp
theorem PJ (l:List Nd):HN l=(Dh l).length:=by unfold HN;rw[YP (Nat.le_refl _),Jp]
def OR_ (l:List Nd) (i:Nat):Bool:=match l[i]? with | some x=>Cw x | none=>false
def HX (l:List Nd) (n:Nat):List Nat:=(List.range n).filter (OR_ l)
theorem NQ_ (l:List Nd):HX l 0=[]:=rfl
theorem Ve {l:List Nd} {n:Nat} {x:Nd} (h:l[n]? =some x):HX l (n+1)=HX l n++(if Cw x=true then [n]else []):=by
 unfold HX;rw[dE0,dC0];have:OR_ l n=Cw x:=by unfold OR_;rw[h]
 cases hx:Cw x<;>simp[this,hx]
theorem OQ_ {l:List Nd} {i:Nat}:OR_ l i=true↔∃x,l[i]? =some x/\Cw x=true:=by
 unfold OR_;cases l[i]? <;>simp
theorem Le {l:List Nd} {i:Nat}:i∈HX l l.length↔∃x,l[i]? =some x/\Cw x=true:=by
 unfold HX;rw[cQ0,cP0,OQ_];exact⟨fun h=>h.2,fun h=>⟨(aB0.1 h.choose_spec.1).1,h⟩⟩
theorem Nr {l:List Nd}:∀{n:Nat},n<=l.length->(HX l n).length=KZ l n
 | 0,_=>by simp[HX,KZ]
 | n+1,h=>by
  have hn:l[n]? =some (l[n]'(by omega)):=aD0 (by omega);rw[Ve hn,UP hn,aC0,Nr (by omega)];cases Cw l[n]<;>simp
theorem Vf {l:List Nd}:∀{n j p:Nat},n<=l.length->(HX l n)[j]? =some p->KZ l p=j
 | 0,j,p,_,h=>by simp[HX]at h
 | n+1,j,p,hn,h=>by
  have hx:l[n]? =some (l[n]'(by omega)):=aD0 (by omega);rw[Ve hx]at h;have hl:=Nr (l:=l) (n:=n) (by omega)
  by_cases hj:j<(HX l n).length
  ·rw[bC0 hj]at h;exact Vf (by omega) h
  ·rw[bG0 (by omega)]at h
   split at h
   ·have:j-(HX l n).length=0:=by
     rcases fG0 (j-(HX l n).length)with h0 | h0
     ·exact h0
     ·rw[dH0 (by simp;omega)]at h;simp at h
    rw[this]at h;simp at h;subst h;omega
   ·simp at h
theorem NR_ (l:List Nd) (n:Nat):(HX l n).Pairwise (· < ·):=(List.pairwise_lt_range).filter _
def GA (l:List Nd) (ah p:Nat):Nat:=ah+KZ l p+1
def iR (l:List Nd) (ah:Nat) (p:Nat×Nat):Nat×Nat:=(GA l ah p.1,GA l ah p.2)
def nd (l:List Nd) (p:Nat):Nd:=l.getD p ⟨0,⟨#[]⟩,0⟩
theorem Ih_ {l:List Nd} {p:Nat} {x:Nd} (h:l[p]? =some x):nd l p=x:=by unfold nd;rw[aZ0,h];rfl
def uI : Nat->List RT->List (Nat×Nat)
 | _,[]=>[]
 | ah,t::ts=>(arT t 0).map (iR (flat t) ah)++uI (ah+(Dh (flat t)).length) ts
def oD : Nat->List RT->List Nat
 | _,[]=>[]
 | ah,t::ts=>(XA t 0).map (GA (flat t) ah)++oD (ah+(Dh (flat t)).length) ts
def laN : Nat->List RT->List Nat
 | _,[]=>[]
 | ah,t::ts=>(Rf t 0).map (GA (flat t) ah)++laN (ah+(Dh (flat t)).length) ts
def CB (ts:List RT):List Nd:=ts.flatMap fun t=>Dh (flat t)
def Pe (sy:Nd->Sym) (ts:List RT):List Sym:=(CB ts).map sy
theorem Vz (ts:List RT) (t:RT):CB (ts++[t])=CB ts++Dh (flat t):=by simp[CB]
theorem Af_ (t:RT):∀(ts:List RT) (ah:Nat),uI ah (ts++[t])=uI ah ts++(arT t 0).map (iR (flat t) (ah+(CB ts).length))
 | [],ah=>by simp[uI,CB]
 | u::ts,ah=>by
  rw[List.cons_append,uI,uI,Af_ t ts,aR0,dA0];simp[CB]
theorem By_ (t:RT):∀(ts:List RT) (ah:Nat),oD ah (ts++[t])=oD ah ts++(XA t 0).map (GA (flat t) (ah+(CB ts).length))
 | [],ah=>by simp[oD,CB]
 | u::ts,ah=>by
  rw[List.cons_append,oD,oD,By_ t ts,aR0,dA0];simp[CB]
theorem AS_ (t:RT):∀(ts:List RT) (ah:Nat),laN ah (ts++[t])=laN ah ts++(Rf t 0).map (GA (flat t) (ah+(CB ts).length))
 | [],ah=>by simp[laN,CB]
 | u::ts,ah=>by
  rw[List.cons_append,laN,laN,AS_ t ts,aR0,dA0];simp[CB]
def Tu (S:List Sym) (p:Nat×Nat):Arc:=⟨(p.1:Int),S.getD (p.2-1) ⟨false,0⟩,(p.2:Int)⟩
def HF (sy:Nd->Sym) (ts:List RT):List Arc:=(uI 0 ts++(oD 0 ts).map fun q=>(0,q)).map (Tu (Pe sy ts))
def OB (sy:Nd->Sym) (ah:Nat) (t:RT) (q:Nat):List Arc :=
 (if Xc t 0 q then [⟨0,sy (nd (flat t) q),(GA (flat t) ah q:Int)⟩]else []) ++
  (HX (flat t) (flat t).length).flatMap fun p=>if TZ t 0 p q then [⟨(GA (flat t) ah p:Int),sy (nd (flat t) q),(GA (flat t) ah q:Int)⟩]else []
def Hk (sy:Nd->Sym):Nat->List RT->List Arc
 | _,[]=>[]
 | ah,t::ts=>(HX (flat t) (flat t).length).flatMap (OB sy ah t)++Hk sy (ah+(Dh (flat t)).length) ts
theorem Xh (sy:Nd->Sym) (t:RT):∀(ts:List RT) (ah:Nat),Hk sy ah (ts++[t])=Hk sy ah ts++(HX (flat t) (flat t).length).flatMap (OB sy (ah+(CB ts).length) t)
 | [],ah=>by simp[Hk,CB]
 | u::ts,ah=>by
  rw[List.cons_append,Hk,Hk,Xh sy t ts,aR0,dA0];simp[CB]
theorem SD {l:List Nd} {q:Nat} (h:∃x,l[q]? =some x/\Cw x=true):Lf l 0 q:=fun y _ hy=>by
 obtain⟨x,hx,hk⟩:=h;rw[eT0,hx]at hy;simp only[aA0]at hy;subst hy;exact Ca.1 hk
theorem AH_ (sy:Nd->Sym) (S:List Sym) (z:Arc):∀(ts:List RT) (ah:Nat),(∀t∈ts,FU t=true)->S.drop ah=Pe sy ts ->
  (z∈(uI ah ts++(oD ah ts).map fun q=>(0,q)).map (Tu S)↔z∈Hk sy ah ts)
 | [],ah,_,_=>by simp[uI,oD,Hk]
 | t::ts,ah,qL,hS=>by
  have hS1:Pe sy (t::ts)=(Dh (flat t)).map sy++Pe sy ts:=by simp[Pe,CB]
  rw[hS1]at hS
  have hS2:S.drop (ah+(Dh (flat t)).length)=Pe sy ts:=by
   rw[<-fL0,hS,eI0 (by simp)];rw[show (Dh (flat t)).length=((Dh (flat t)).map sy).length by simp,bE0,List.nil_append]
  have ih:=AH_ sy S z ts (ah+(Dh (flat t)).length) (fun u hu=>qL u (aE0 _ hu)) hS2;obtain⟨l,hl⟩:∃l,l=flat t:=⟨_,rfl⟩
  have look:∀{q:Nat} {x:Nd},l[q]? =some x->Cw x=true->S.getD (GA l ah q-1) ⟨false,0⟩=sy x:=by
   intro q x hx hk;have h1:=SP_ hx hk
   have h2:(S.drop ah)[KZ l q]? =some (sy x):=by
    have qV:=(aB0.1 h1).1;rw[hS,<-hl,bC0 (by simpa using qV),bK0,h1];rfl
   rw[dB0]at h2;unfold GA;rw[aZ0,Nat.add_sub_cancel,h2];rfl
  have gV:=qL t aF0;rw[<-hl]at ih;rw[uI,oD,Hk,<-hl];simp only[aX0,aI0]at ih |-
  have here:(z∈((arT t 0).map (iR l ah)).map (Tu S)\/z∈(((XA t 0).map (GA l ah)).map fun q=>(0,q)).map (Tu S))↔z∈(HX l l.length).flatMap (OB sy ah t):=by
   simp only[bV0,Le]
   constructor
   ·rintro (h | h)
    ·simp only[aU0]at h;obtain⟨_,⟨⟨p,q⟩,gD,rfl⟩,rfl⟩:=h;obtain⟨⟨x,hx,gF⟩,⟨y,hy,bF⟩⟩:=QB t 0 p q gD;rw[eT0,<-hl]at hx hy;refine⟨q,⟨y,hy,Ca.2 bF⟩,?_⟩;unfold OB;rw[aI0,bV0,<-hl]
     right
     refine⟨p,Le.2 ⟨x,hx,Ca.2 gF⟩,?_⟩;rw[if_pos ((GJ_ t 0 p q gV (hl▸SD ⟨x,hx,Ca.2 gF⟩) (hl▸SD ⟨y,hy,Ca.2 bF⟩)).1 gD)];simp only[Tu,iR,look hy (Ca.2 bF),Ih_ hy,aG0]
    ·simp only[aU0]at h;obtain⟨_,⟨_,⟨q,hq,rfl⟩,rfl⟩,rfl⟩:=h;obtain⟨y,hy,bF⟩:=Qg t 0 q hq;rw[eT0,<-hl]at hy;refine⟨q,⟨y,hy,Ca.2 bF⟩,?_⟩;unfold OB;rw[aI0,<-hl]
     left
     rw[if_pos ((Xb t 0 q gV (hl▸SD ⟨y,hy,Ca.2 bF⟩)).1 hq)];simp only[Tu,look hy (Ca.2 bF),Ih_ hy,aG0];rfl
   ·rintro⟨q,⟨y,hy,bF⟩,h⟩;unfold OB at h;rw[aI0,bV0,<-hl,Ih_ hy]at h
    rcases h with h | ⟨p,hp,h⟩
    ·split at h
     ·rename_i hb
      right
      simp only[aU0];refine⟨_,⟨_,⟨q,(Xb t 0 q gV (hl▸SD ⟨y,hy,bF⟩)).2 hb,rfl⟩,rfl⟩,?_⟩;simp only[aG0]at h;rw[h];simp only[Tu,look hy bF];rfl
     ·simp at h
    ·split at h
     ·rename_i hb
      left
      obtain⟨x,hx,gF⟩:=Le.1 hp;simp only[aU0];refine⟨_,⟨(p,q),(GJ_ t 0 p q gV (hl▸SD ⟨x,hx,gF⟩) (hl▸SD ⟨y,hy,bF⟩)).2 hb,rfl⟩,?_⟩;simp only[aG0]at h;rw[h];simp only[Tu,iR,look hy bF]
     ·simp at h
  rw[<-here,<-ih]
  constructor
  ·rintro ((h | h) | h | h)
   ·exact .inl (.inl h)
   ·exact .inr (.inl h)
   ·exact .inl (.inr h)
   ·exact .inr (.inr h)
  ·rintro ((h | h) | h | h)
   ·exact .inl (.inl h)
   ·exact .inr (.inl h)
   ·exact .inl (.inr h)
   ·exact .inr (.inr h)
theorem KD (x y:Arc):DT x y=Lw_ EY (Lw_ Gk EY) (x.fr,x.sy,x.to) (y.fr,y.sy,y.to):=rfl
theorem Ej : OrdC DT:=by
 have h:=Vj KQ_ (Vj NX_ KQ_);refine⟨fun x y=> ?_,fun x y=> ?_,fun x y z=> ?_⟩
 ·rw[KD,h.eq0];cases x;cases y;simp only[_root_.Prod.mk.injEq,Arc.mk.injEq]
 ·rw[KD,KD];exact h.anti _ _
 ·rw[KD,KD,KD];exact h.trans _ _ _
theorem PU_ (sy:Nd->Sym) (ts:List RT) (qL:∀t∈ts,FU t=true):Bu (fun x y=>DT x y==0) (FQ DT (HF sy ts))=(Hk sy 0 ts).foldl (BO DT) []:=by
 rw[Wb Ej];obtain⟨h1,h2⟩:=Dp Ej (CN Ej (HF sy ts));obtain⟨h3,h4⟩:=Dp Ej (CN Ej (Hk sy 0 ts));refine Nl Ej h1 h3 fun z=> ?_
 rw[h2,h4,(DP _ _).mem_iff,(DP _ _).mem_iff];exact AH_ sy (Pe sy ts) z ts 0 qL (by simp)
def He : Nat->List RT->List Nat
 | _,[]=>[]
 | ah,t::ts=>((HX (flat t) (flat t).length).filter (Qi t 0)).map (GA (flat t) ah)++He (ah+(Dh (flat t)).length) ts
theorem Zr (t:RT):∀(ts:List RT) (ah:Nat),He ah (ts++[t])=He ah ts++((HX (flat t) (flat t).length).filter (Qi t 0)).map (GA (flat t) (ah+(CB ts).length))
 | [],ah=>by simp[He,CB]
 | u::ts,ah=>by
  rw[List.cons_append,He,He,Zr t ts,aR0,dA0];simp[CB]
theorem Bt_ : ∀(ts:List RT) (ah:Nat),(∀t∈ts,FU t=true)->(laN ah ts).Perm (He ah ts)
 | [],ah,_=>by simp[laN,He]
 | t::ts,ah,qL=>by
  rw[laN,He];refine List.Perm.append (List.Perm.map _ ?_) (Bt_ ts _ fun u hu=>qL u (aE0 _ hu));refine(List.perm_ext_iff_of_nodup (AR_ t 0) (((NR_ _ _).imp fun h=>Nat.ne_of_lt h).filter _)).2 fun q=> ?_
  have gV:=qL t aF0;rw[cQ0,Le]
  constructor
  ·intro h;obtain⟨y,hy,bF⟩:=VF t 0 q h;rw[eT0]at hy;have hq:=(⟨y,hy,Ca.2 bF⟩:∃x,(flat t)[q]? =some x/\Cw x=true);exact⟨hq,(Wo t 0 q gV (SD hq)).1 h⟩
  ·rintro⟨hq,h⟩;exact(Wo t 0 q gV (SD hq)).2 h
theorem SH_ {l:List Nd} {ah p q:Nat} (hp:p∈HX l l.length) (h:p<q):GA l ah p<GA l ah q:=by
 obtain⟨x,hx,hk⟩:=Le.1 hp;have:=FA_ hx hk h;unfold GA;omega
theorem lZ : ∀(ts:List RT) (ah:Nat),(He ah ts).Pairwise (· < ·)/\∀q∈He ah ts,ah<q/\q<=ah+(CB ts).length
 | [],ah=>by simp[He]
 | t::ts,ah=>by
  obtain⟨h1,h2⟩:=lZ ts (ah+(Dh (flat t)).length)
  have hb:∀q∈((HX (flat t) (flat t).length).filter (Qi t 0)).map (GA (flat t) ah),ah<q/\q<=ah+(Dh (flat t)).length:=by
   intro q hq;obtain⟨p,hp,rfl⟩:=aU0.1 hq;obtain⟨x,hx,hk⟩:=Le.1 (cQ0.1 hp).1;have h3:=FA_ hx hk (aB0.1 hx).1;rw[Jp]at h3;unfold GA;omega
  have hl:(CB (t::ts)).length=(Dh (flat t)).length+(CB ts).length:=by simp[CB]
  rw[He];refine⟨List.pairwise_append.2 ⟨?_,h1,?_⟩,?_⟩
  ·rw[dN0];refine List.Pairwise.imp_of_mem ?_ ((NR_ _ _).filter _);intro a b ha _ pC;exact SH_ (cQ0.1 ha).1 pC
  ·intro a ha b qG;have:=hb a ha;have:=h2 b qG;omega
  ·intro q hq
   rcases aI0.1 hq with hq | hq
   ·have:=hb q hq;omega
   ·have:=h2 q hq;omega
theorem Nz_ {l l':List Int} (hp:l.Perm l') (hs:l'.Pairwise (· < ·)):l.mergeSort (fun x y=>decide (x<=y))=l':=by
 have tr:∀a b c:Int,decide (a<=b)=true->decide (b<=c)=true->decide (a<=c)=true:=fun a b c h1 h2=>by simp only[decide_eq_true_eq]at *;omega
 have to:∀a b:Int,(decide (a<=b)||decide (b<=a))=true:=fun a b=>by simp only[dI0,decide_eq_true_eq];omega
 refine List.Perm.eq_of_pairwise (le:=fun a b=>decide (a<=b)=true) (fun a b _ _ h1 h2=> ?_) (List.pairwise_mergeSort tr to l) (hs.imp fun h=>by simp only[decide_eq_true_eq];omega) ((eC0 l _).trans hp);simp only[decide_eq_true_eq]at h1 h2;omega
def XG (n:Nat):Int:=(n:Int)
def Jx (ts:List RT):List Int:=(if Fv ts then [0]else [])++(He 0 ts).map XG
theorem Pm_ (ts:List RT) (qL:∀t∈ts,FU t=true):((laN 0 ts).map XG++(if Fv ts then [0]else [])).mergeSort (fun x y=>decide (x<=y))=Jx ts:=by
 refine Nz_ ?_ ?_
 ·unfold Jx;exact List.perm_append_comm.trans (List.Perm.append_left _ ((Bt_ ts 0 qL).map XG))
 ·obtain⟨h1,h2⟩:=lZ ts 0
  have hm:((He 0 ts).map XG).Pairwise (· < ·):=by
   rw[dN0];exact h1.imp fun h=>by unfold XG;omega
  unfold Jx
  split
  ·refine bS0.2 ⟨fun q hq=> ?_,hm⟩;obtain⟨p,hp,rfl⟩:=aU0.1 hq;have:=h2 p hp;unfold XG;omega
  ·exact hm
end Go.Proofs.Wy
end
section
namespace Go.Dm
variable [DMode]
open Go.Shelf Go.Proofs Go.RowKit
section
variable {P : Program} {B : Base} {s : DS} {a : Act} {w : World} {loc : Nat -> Loc}
theorem Rel.newTyped {id n k bs:Nat} {cs:List DVal} {us:List Value} {ty:TypeId} {dst:Option Nat} (R:Rel B s a w loc) (qS:CL B s<=n) (zE:AV cs<=n) (wY:∀i,dst=some i->i<B.nt)
  (zF:AL (cu s loc) (hm s loc B.M0) w.heap cs us) (wW:∀u∈us,u.oneCell'=true) (hk:cs.length=k) (wC:bs<=150000000000000) :
  Rel B ⟨Ce s.slots dst (.rx id n k 0 0),upE s.own id n (.row ty k bs [cs])⟩ (a.put dst (.pointer (some ⟨w.heap.size,0,none⟩))) (w.alloc (.cells us.toArray ty)) (DM loc id ⟨[w.heap.size],.slice (some ⟨w.heap.size,0,none⟩) 1 1⟩):=by
 have hw:=Upd.alloc' (Ad s.own loc) w (.cells us.toArray ty)
 have hL:∀b,b∈(⟨[w.heap.size],.slice (some ⟨w.heap.size,0,none⟩) 1 1⟩:Loc).blks->b<(w.alloc (.cells us.toArray ty)).heap.size/\((∃e∈s.own,e.id=id/\b∈(loc id).blks)\/w.heap.size<=b):=by
  intro b hb;simp only[aG0]at hb;subst hb;exact⟨by simp,.inr (Nat.le_refl _)⟩
 have W:=R.weakUp (obj:= .row ty k bs [cs]) qS hw hL (.inl (Nat.le_refl _));have cH:=AM _ _ zF;refine R.up qS wY hw (fun b hb _=>by simp only[World.alloc,bZ0];rw[if_neg (by omega)]) hL (.inl (Nat.le_refl _)) ?_ ?_
 ·refine⟨by simpa using wC,.inr ⟨w.heap.size,us.toArray,1,rfl,rfl,heap_alloc_new w _,by simp,by unfold maxLen;omega,by simp;omega,?_⟩⟩
  have:=eZ (cur:=Aj (upE s.own id n (.row ty k bs [cs])) (DM loc id ⟨[w.heap.size],.slice (some ⟨w.heap.size,0,none⟩) 1 1⟩)) (M:=Ad (upE s.own id n (.row ty k bs [cs])) (DM loc id ⟨[w.heap.size],.slice (some ⟨w.heap.size,0,none⟩) 1 1⟩)++B.M0) (H:=(w.alloc (.cells us.toArray ty)).heap) k [cs] [us] [] rfl (by
   intro i c u hc hu
   cases i with
   | zero =>
    simp only[bF0,aA0]at hc hu;subst hc;subst hu;exact⟨hk,Bn W cs us zE zF,wW⟩
   | succ i=>simp at hc)
  simpa using this
 ·simp only[rd];intro l hl;rw[EL]at hl;simp only[aA0]at hl;subst hl;exact⟨_,rfl,by simp⟩
theorem KT {id i k bs:Nat} {t ty:TypeId} {pos:String} {z:List DVal} {Q:Exit->DS->Prop} (hi:i<B.nt) (hz:tZero P t=some z) (hp:z.all (Hs [])=true) (hk:z.length=k) (wC:bs<=150000000000000)
  (h:∀r,CL B s<=r->Q .normal ⟨Ce s.slots (some i) (.rx i r k 0 0),upE s.own i r (.row t k bs [z])⟩):DW P B (.region id #[⟨some i,.alloc t,ty,pos, #[],none⟩] false) Q s:=by
 intro a w loc R;refine wpIn_region ?_;rw[List.range_eq_range']
 show wpOpsIn _ _ _ _ _ [0] _ _
 simp only[wpOpsIn];have hw:Region.wanted (⟨some i,.alloc t,ty,pos, #[],none⟩:Oper) (yielded #[⟨some i,.alloc t,ty,pos, #[],none⟩] a.tmps)=true:=by simp[Region.wanted]
 simp only[dQ0,bF0];rw[if_pos hw];obtain⟨zv,jS,rfl⟩:=JV (w:=w) hz;have zF:AL (cu s loc) (hm s loc B.M0) w.heap (zv.cells.toList.map CO) zv.cells.toList:=Cd _
 have zE:AV (zv.cells.toList.map CO)=0:=by
  have h1:∀v,mx (CO v)=0:=by
   intro v;unfold CO
   split<;>(try split)<;>simp[mx]
  generalize zv.cells.toList=l
  induction l with
  | nil=>simp[AV]
  | cons v l ih=>simp only[List.map_cons,AV,h1,ih];rfl
 have wW:=Iv R.st (zv.cells.toList.map CO) zv.cells.toList (bA0.2 fun d hd=>Vm (bA0.1 hp d hd)) zF;have R':=R.newTyped (id:=i) (n:=CL B s) (k:=k) (bs:=bs) (ty:=t) (dst:=some i) (Nat.le_refl _) (by omega) (fun j hj=>by simp only[aA0]at hj;omega) zF wW hk wC
 have qR:(execOp a.eval ⟨some i,.alloc t,ty,pos, #[],none⟩).run P w= .ok (.value (.pointer (some ⟨w.heap.size,0,none⟩))) (w.alloc (.cells zv.cells.toList.toArray t)):=by
  simp[execOp,Instr.alloc,jS,newVar,newRow]
 exact Ho (fun c hc=>by cases hc) qR ⟨_,_,h _ (Nat.le_refl _),R'⟩
end
section
variable {P : Program} {ρ : Ren}
theorem YY {T n:Nat} (hd:P.depth≠0) (hs:P.cellsOf T≠0) (hn:1<=n):liesAt P P.depth T n 0 T 1=true:=by
 obtain⟨d,hd⟩:∃d,P.depth=d+1:=⟨P.depth-1,by omega⟩;have h1:sameLayout P (d+1) T T=true:=by simp[sameLayout]
 rw[hd];unfold liesAt;rw[hd];unfold rowAt;simp[hs,hn,h1]
theorem Fd_ (w:World) (g n:Nat):Upd [g] w (w.drew.freeze ⟨g,0,none⟩ n):=by
 unfold World.freeze
 split
 ·exact Upd.drew _ w
 ·refine⟨rfl,rfl,rfl,fun _=>Nat.le_succ _,by simp,fun b hb qK=> ?_⟩;simp only[aG0]at qK;simp only[cO0];rw[if_neg (fun h=>qK h.symm)];rfl
set_option maxRecDepth 100000 in
theorem IR (L:Lays.n169 P ρ) (X:Builder.Extra P ρ) (b g cap:Nat) (p:Value) (cs cur:Array Value) (l:List UInt8) (w:World) (h0:l≠[]) (hb:w.heap[b]? =some (.cells cs (ρ.t 72) (0,0))) (qE:cs[1]? =some (.slice (some ⟨g,0,none⟩) l.length cap))
  (hg:w.heap[g]? =some (.cells cur (ρ.t 5) (0,0))) (hnc:l.length<=cap) (hcm:cap<=maxLen) (zR:cur.size=cap) (htake:cur.toList.take l.length=Lib.byteCells l) :
  Calls P (ρ.f 169) #[.pointer (some ⟨b,0,none⟩)] w fun e w'=>e= .returned (.string ⟨l.toArray⟩)/\Upd [g] w w'/\w'=w.drew.freeze ⟨g,0,none⟩ l.length:=by
 have mI:l.length≠0:=by simpa using h0
 have c1:w.drew.cell? ⟨b,1,none⟩=some (.slice (some ⟨g,0,none⟩) l.length cap):=by
  have:w.drew.heap[b]? =some (.cells cs (ρ.t 72) (0,0)):=hb;rw[Lib.cell_of_heap this];exact qE
 have hSD:(Builtin.unsafeSliceData_ #[(ρ.t 37)] (ρ.t 127) #[.slice (some ⟨g,0,none⟩) l.length cap]).run P w.drew= .ok (.pointer (some ⟨g,0,none⟩)) w.drew :=
  Lib.run_unsafeSliceData_row _ _ _ _ _ _ (by omega)
 have hUS:(Builtin.unsafeString_ #[(ρ.t 127),(ρ.t 3)] (ρ.t 9) #[.pointer (some ⟨g,0,none⟩),.int .i64 l.length]).run P w.drew= .ok (.string ⟨l.toArray⟩) (w.drew.freeze ⟨g,0,none⟩ l.length):=by
  refine Lib.run_unsafeString_row w.drew (ρ.t 127) (ρ.t 3) (ρ.t 9) (ρ.t 5) L.t127 X.cellsByte g cur.size (by have hg':w.drew.heap[g]? =some (.cells cur (ρ.t 5) (0,0)):=hg;simp[World.shape?,hg']) l h0 (by omega) (by unfold maxLen at hcm;omega) ?_;intro j x hx;have hg':w.drew.heap[g]? =some (.cells cur (ρ.t 5) (0,0)):=hg;have hadd:(⟨g,0,none⟩:Addr).add j=⟨g,j,none⟩:=by unfold Addr.add;split<;>simp_all
  rw[hadd,Lib.cell_of_heap hg'];have hj:j<l.length:=(aB0.1 hx).1;have h2:(Lib.byteCells l)[j]? =some (.int .u8 x.toNat):=by simp[Lib.byteCells,hx]
  rw[<-htake,cE0 hj]at h2;simpa using h2
 have mixed:=L.mixed;have t72:=L.t72;have a72:=L.a72;have z72:=L.z72;have v72:=L.v72;have u72:=run_underlying L.t72;have t70:=L.t70;have a70:=L.a70;have z70:=L.z70;have v70:=L.v70;have u70:=run_underlying L.t70;have t37:=L.t37;have a37:=L.a37;have z37:=L.z37;have v37:=L.v37;have u37:=run_underlying L.t37;have t127:=L.t127;have a127:=L.a127;have z127:=L.z127;have v127:=L.v127;have u127:=run_underlying L.t127
 have t3:=L.t3;have a3:=L.a3;have z3:=L.z3;have v3:=L.v3;have u3:=run_underlying L.t3;have t9:=L.t9;have a9:=L.a9;have z9:=L.z9;have v9:=L.v9;have u9:=run_underlying L.t9;have t5:=X.t5;have a5:=X.a5;have z5:=X.z5;have v5:=X.v5;have u5:=run_underlying X.t5
 go_enter L.f169,Body.n169_ntmps ρ
 go_wp2
 go_region_o
 all_goals (go_wp2;go_ret;exact⟨rfl,Fd_ w g l.length,rfl⟩)
set_option maxRecDepth 100000 in
theorem OZ (L:Lays.n169 P ρ) (X:Builder.Extra P ρ) (b:Nat) (cs:Array Value) (w:World) (hb:w.heap[b]? =some (.cells cs (ρ.t 72) (0,0))) (qE:cs[1]? =some (.slice none 0 0)) :
  Calls P (ρ.f 169) #[.pointer (some ⟨b,0,none⟩)] w fun e w'=>e= .returned (.string ⟨#[]⟩)/\Upd [] w w':=by
 have hUS:=Any.unsafeString_none L X
 have c1:w.drew.cell? ⟨b,1,none⟩=some (.slice none 0 0):=by
  have:w.drew.heap[b]? =some (.cells cs (ρ.t 72) (0,0)):=hb;rw[Lib.cell_of_heap this];exact qE
 have hSD:(Builtin.unsafeSliceData_ #[(ρ.t 37)] (ρ.t 127) #[.slice none 0 0]).run P w.drew= .ok (.pointer none) w.drew:=rfl;have mixed:=L.mixed;have t72:=L.t72;have a72:=L.a72;have z72:=L.z72;have v72:=L.v72;have u72:=run_underlying L.t72;have t70:=L.t70;have a70:=L.a70;have z70:=L.z70;have v70:=L.v70;have u70:=run_underlying L.t70;have t37:=L.t37;have a37:=L.a37;have z37:=L.z37;have v37:=L.v37;have u37:=run_underlying L.t37
 have t127:=L.t127;have a127:=L.a127;have z127:=L.z127;have v127:=L.v127;have u127:=run_underlying L.t127;have t3:=L.t3;have a3:=L.a3;have z3:=L.z3;have v3:=L.v3;have u3:=run_underlying L.t3;have t9:=L.t9;have a9:=L.a9;have z9:=L.z9;have v9:=L.v9;have u9:=run_underlying L.t9;have t5:=X.t5;have a5:=X.a5;have z5:=X.z5;have v5:=X.v5;have u5:=run_underlying X.t5
 go_enter L.f169,Body.n169_ntmps ρ
 go_wp2
 go_region_o
 all_goals (go_wp2;go_ret;exact⟨rfl,Upd.drew _ w⟩)
theorem Ie {cur:Gp} {M:List Nat} {H:Array Obj} {d0 d1:DVal} {arr:Array Value} (h:Fz cur M H 2 [[d0,d1]] arr 0):∃v0 v1 rest,arr=(v0::v1::rest).toArray/\rd cur M H d0 v0/\rd cur M H d1 v1:=by
 obtain⟨rows,r1,r2,r3,r4⟩:=GW 2 _ arr 0 h
 match rows,r1 with
 | [us],_ =>
  obtain⟨g1,g2,g3⟩:=r3 0 _ _ rfl rfl;simp only[AL]at g2;obtain⟨v0,r,rfl,h0,v1,r',rfl,h1,rfl⟩:=g2;have e0:=(r4 0 v0 (by simp)).1;have e1:=(r4 1 v1 (by simp)).1;obtain⟨l⟩:=arr
  match l,e0,e1 with
  | x::y::rest,e0,e1 =>
   simp at e0 e1;subst e0;subst e1;exact⟨x,y,rest,rfl,h0,h1⟩
theorem oY {cur:Gp} {M:List Nat} {H:Array Obj} {d0 d1:DVal} {v0 v1:Value} {rest:List Value} (h0:rd cur M H d0 v0) (h1:rd cur M H d1 v1) (o0:v0.oneCell'=true) (o1:v1.oneCell'=true):Fz cur M H 2 [[d0,d1]] (v0::v1::rest).toArray 0:=by
 have:=eZ (cur:=cur) (M:=M) (H:=H) 2 [[d0,d1]] [[v0,v1]] rest rfl (by
  intro i c u hc hu
  cases i with
  | zero =>
   simp only[bF0,aA0]at hc hu;subst hc;subst hu;exact⟨rfl,⟨v0,_,rfl,h0,v1,_,rfl,h1,rfl⟩,by simp[o0,o1]⟩
  | succ i=>simp at hc)
 simpa using this
theorem Tm {g T:Nat} (hd:P.depth≠0) (hs:P.cellsOf T=2) (hE:Enters P g) (bs:Nat)
  (wU:∀(b n:Nat) (w:World),w.cell? ⟨b,0,none⟩=some (.pointer none)->w.shape? b=some (T,n)->0<n->liesAt P P.depth T (n/P.cellsOf T) 0 T 1=true->w.frozen? ⟨b,0,none⟩=false ->
   Calls P g #[.pointer (some ⟨b,0,none⟩)] w fun e w'=>e= .returned (.tuple #[])/\w'=w.setCell ⟨b,0,none⟩ (.pointer (some ⟨b,0,none⟩))) :
  AS P (.func g) [.rx 0 0 2 0 0] [⟨0,0,.row T 2 bs [[.nilp,.nilsl]]⟩] (.tup []) [⟨0,0,.row T 2 bs [[.rx 0 0 2 0 0,.nilsl]]⟩]:=by
 refine⟨by simp,hE,fun M w loc vs S vN=> ?_⟩;have hk:=S.ok _ (aG0.2 rfl);obtain⟨wC,hk⟩:=hk
 rcases hk with ⟨h,_⟩ | ⟨b,arr,cap,h1,h2,h3,h4,h5,h6,h7⟩
 ·simp at h
 ·obtain⟨v0,v1,rest,rfl,g0,g1⟩:=Ie h7;simp only[rd]at g0 g1;subst g0;subst g1;have qB:Aj [(⟨0,0,.row T 2 bs [[.nilp,.nilsl]]⟩:Ent)] loc 0 0=some (loc 0):=by simp[Aj,Ax]
  simp only[AL,rd]at vN;obtain⟨pv,r,vN,hp,rfl⟩:=vN;obtain⟨b',qG,rfl⟩:=hp _ qB;simp only at h1 h2;rw[h1]at qG;simp only[bL0,and_true]at qG;subst qG;have vF:vs= #[.pointer (some ⟨b,0,none⟩)]:=by apply Array.ext';simpa using vN
  subst vF;have qM:2<=(Array.size (Value.pointer none::Value.slice none 0 0::rest).toArray):=by simp
  refine⟨hE,(wU b (rest.length+2) w (by rw[Lib.cell_of_heap h3];rfl) (by simp[World.shape?,h3]) (by omega) (YY hd (by omega) (by rw[hs];omega)) (Lib.frozen_of_heap h3 0)).mono ?_⟩;rintro e w' ⟨rfl,rfl⟩;refine⟨_,rfl,loc,?_,?_,?_,?_,?_⟩
  ·have vB:=setCell_eq_setRow w b 0 _ _ _ (.pointer (some ⟨b,0,none⟩)) h3;rw[vB];refine⟨S.nd,S.bl,S.ap,fun q hq=>by have:=S.lt q hq;simpa using this,fun e he=> ?_⟩;simp only[aG0]at he;subst he;refine⟨wC,.inr ⟨b,_,cap,h1,h2,setRow_heap w b _ _ _ (0,0) h3,h4,h5,by simpa using h6,?_⟩⟩
   have:=oY (cur:=Aj [(⟨0,0,.row T 2 bs [[.rx 0 0 2 0 0,.nilsl]]⟩:Ent)] loc) (M:=Ad [(⟨0,0,.row T 2 bs [[.rx 0 0 2 0 0,.nilsl]]⟩:Ent)] loc++M) (H:=(w.setRow b ((Value.pointer none::Value.slice none 0 0::rest).toArray.setIfInBounds 0 (.pointer (some ⟨b,0,none⟩)))).heap)
    (d0:= .rx 0 0 2 0 0) (d1:= .nilsl) (v0:= .pointer (some ⟨b,0,none⟩)) (v1:= .slice none 0 0) (rest:=rest) (by
     simp only[rd];intro l hl;have kN:Aj [(⟨0,0,.row T 2 bs [[.rx 0 0 2 0 0,.nilsl]]⟩:Ent)] loc 0 0=some (loc 0):=by simp[Aj,Ax]
     rw[kN]at hl;simp only[aA0]at hl;subst hl
     exact⟨b,h1,by simp⟩) (by simp[rd]) rfl rfl
   simpa using this
  ·refine⟨rfl,rfl,rfl,fun _=>Nat.le_refl _,by simp[World.setCell],fun q hq qK=> ?_⟩
   have hqb:b≠q:=by
    intro h;subst h;exact qK (by simp[Ad,h1])
   simp[World.setCell,cO0,hqb]
  ·intro q hq;exact .inl hq
  ·intro e he _;simp only[aG0]at he;subst he;exact qB
  ·simp[rd,AL]
theorem Tl {g T:Nat} (hE:Enters P g) (bs:Nat) (q:DVal) (rest:List Ent) (hr:∀e∈rest,e.r=0)
  (wU:∀(b:Nat) (w:World),w.cell? ⟨b,0,none⟩=some (.pointer (some ⟨b,0,none⟩))->Calls P g #[.pointer (some ⟨b,0,none⟩)] w fun e w'=>e= .returned (.tuple #[])/\w'=w) :
  AS P (.func g) [.rx 0 0 2 0 0] (⟨0,0,.row T 2 bs [[.rx 0 0 2 0 0,q]]⟩::rest) (.tup []) (⟨0,0,.row T 2 bs [[.rx 0 0 2 0 0,q]]⟩::rest):=by
 refine⟨fun e he=>by rcases aL0.1 he with rfl | he<;>simp_all,hE,fun M w loc vs S vN=> ?_⟩;have hk:=S.ok _ aF0;obtain⟨wC,hk⟩:=hk
 rcases hk with ⟨h,_⟩ | ⟨b,arr,cap,h1,h2,h3,h4,h5,h6,h7⟩
 ·simp at h
 ·obtain⟨v0,v1,rs,rfl,g0,g1⟩:=Ie h7;simp only[rd]at g0;have qB:Aj ((⟨0,0,.row T 2 bs [[.rx 0 0 2 0 0,q]]⟩:Ent)::rest) loc 0 0=some (loc 0):=by simp[Aj,Ax]
  obtain⟨b0,wJ,rfl⟩:=g0 _ qB;simp only[AL,rd]at vN;obtain⟨pv,r,vN,hp,rfl⟩:=vN;obtain⟨b',qG,rfl⟩:=hp _ qB;simp only at h1 h2;rw[h1]at qG wJ;simp only[bL0,and_true]at qG wJ;subst qG;subst wJ;have vF:vs= #[.pointer (some ⟨b,0,none⟩)]:=by apply Array.ext';simpa using vN
  subst vF;refine⟨hE,(wU b w (by rw[Lib.cell_of_heap h3];rfl)).mono ?_⟩;rintro e w' ⟨rfl,rfl⟩;refine⟨_,rfl,loc,S,Upd.refl _ _,fun q hq=> .inl hq,fun e he _=>Ba S.nd he,by simp[rd,AL]⟩
theorem Ob (L:Lays.n169 P ρ) (X:Builder.Extra P ρ) (hE:Enters P (ρ.f 169)) (bs:Nat) :
  AS P (.func (ρ.f 169)) [.rx 0 0 2 0 0] [⟨0,0,.row (ρ.t 72) 2 bs [[.nilp,.nilsl]]⟩] (.str ⟨#[]⟩) []:=by
 refine⟨by simp,hE,fun M w loc vs S vN=> ?_⟩;have hk:=S.ok _ (aG0.2 rfl);obtain⟨wC,hk⟩:=hk
 rcases hk with ⟨h,_⟩ | ⟨b,arr,cap,h1,h2,h3,h4,h5,h6,h7⟩
 ·simp at h
 ·obtain⟨v0,v1,rest,rfl,g0,g1⟩:=Ie h7;simp only[rd]at g0 g1;subst g0;subst g1;have qB:Aj [(⟨0,0,.row (ρ.t 72) 2 bs [[.nilp,.nilsl]]⟩:Ent)] loc 0 0=some (loc 0):=by simp[Aj,Ax]
  simp only[AL,rd]at vN;obtain⟨pv,r,vN,hp,rfl⟩:=vN;obtain⟨b',qG,rfl⟩:=hp _ qB;simp only at h1 h2;rw[h1]at qG;simp only[bL0,and_true]at qG;subst qG;have vF:vs= #[.pointer (some ⟨b,0,none⟩)]:=by apply Array.ext';simpa using vN
  subst vF;refine⟨hE,(OZ L X b _ w h3 rfl).mono ?_⟩;rintro e w' ⟨rfl,hu⟩;refine⟨_,rfl,loc,⟨by simp,by simp[Ad],by simp[Ad],fun q hq=> ?_,by simp⟩,hu.nil,by simp[Ad],by simp,by simp only[rd];exact⟨trivial,cV0 _⟩⟩;have:=S.lt q (aV0 _ (by simpa[Ad]using hq));exact cN0 this hu.size
theorem Oa (L:Lays.n169 P ρ) (X:Builder.Extra P ρ) (hE:Enters P (ρ.f 169)) (bs:Nat) (x:ByteArray) (hx:x.size≠0) :
  AS P (.func (ρ.f 169)) [.rx 0 0 2 0 0] [⟨0,0,.row (ρ.t 72) 2 bs [[.rx 0 0 2 0 0,.osl 1 0]]⟩,⟨1,0,.row (ρ.t 5) 1 1 (Bh x)⟩] (.str x) []:=by
 refine⟨by simp,hE,fun M w loc vs S vN=> ?_⟩;have hk:=S.ok _ aF0;have jM:=S.ok _ (aE0 _ aF0);obtain⟨wC,hk⟩:=hk;obtain⟨hbs2,jM⟩:=jM
 rcases hk with ⟨h,_⟩ | ⟨b,arr,cap,h1,h2,h3,h4,h5,h6,h7⟩
 ·simp at h
 rcases jM with ⟨h,_⟩ | ⟨g,cur,cap2,k1,k2,k3,k4,k5,k6,k7⟩
 ·have:=congrArg List.length h;rw[Bo]at this;exact absurd this hx
 ·obtain⟨v0,v1,rest,rfl,g0,g1⟩:=Ie h7;simp only[rd]at g0 g1;have qB:Aj [(⟨0,0,.row (ρ.t 72) 2 bs [[.rx 0 0 2 0 0,.osl 1 0]]⟩:Ent),⟨1,0,.row (ρ.t 5) 1 1 (Bh x)⟩] loc 0 0=some (loc 0):=by simp[Aj,Ax]
  have pO:Aj [(⟨0,0,.row (ρ.t 72) 2 bs [[.rx 0 0 2 0 0,.osl 1 0]]⟩:Ent),⟨1,0,.row (ρ.t 5) 1 1 (Bh x)⟩] loc 1 0=some (loc 1):=by simp[Aj,Ax]
  have dD:=g1 _ pO;simp only at k1 k2;rw[k2,Bo]at dD;subst dD;simp only[AL,rd]at vN;obtain⟨pv,r,vN,hp,rfl⟩:=vN;obtain⟨b',qG,rfl⟩:=hp _ qB;simp only at h1 h2;rw[h1]at qG;simp only[bL0,and_true]at qG;subst qG;have vF:vs= #[.pointer (some ⟨b,0,none⟩)]:=by apply Array.ext';simpa using vN
  subst vF;have hxl:x.data.toList.length=x.size:=rfl;obtain⟨rows,r1,r2,r3,r4⟩:=GW 1 _ cur 0 k7
  have vC:rows.flatten=Lib.byteCells x.data.toList:=by
   have:∀(bl:List UInt8) (rows:List (List Value)),rows.length=bl.length->(∀(i:Nat) (cs:List DVal) (us:List Value),(bl.map fun b=>[DVal.int .u8 (b.toNat:Int)])[i]? =some cs->rows[i]? =some us->cs.length=1/\AL (Aj [(⟨0,0,.row (ρ.t 72) 2 bs [[.rx 0 0 2 0 0,.osl 1 0]]⟩:Ent),⟨1,0,.row (ρ.t 5) 1 1 (Bh x)⟩] loc) (Ad [(⟨0,0,.row (ρ.t 72) 2 bs [[.rx 0 0 2 0 0,.osl 1 0]]⟩:Ent),⟨1,0,.row (ρ.t 5) 1 1 (Bh x)⟩] loc++M) w.heap cs us/\∀u∈us,u.oneCell'=true)->rows.flatten=Lib.byteCells bl:=by
    intro bl
    induction bl with
    | nil=>intro rows hl _;rw[bP0 hl];rfl
    | cons y bl ih =>
     intro rows hl h
     match rows,hl with
     | us::rows,hl =>
      obtain⟨_,h1,_⟩:=h 0 _ _ rfl rfl;simp only[AL,rd]at h1;obtain⟨v,r,rfl,⟨rfl,_⟩,rfl⟩:=h1;have:=ih rows (by simpa using hl) fun i cs us hc hu=>h (i+1) cs us (by simpa using hc) (by simpa using hu)
      simp[this,Lib.byteCells]
   exact this x.data.toList rows (by rw[r1,Bo];rfl) r3
  rw[Bo]at k4 r2;have hcsz:cur.size=cap2:=by omega
  have ht:=JU r2 r4 (by omega);rw[vC,Nat.mul_one]at ht;refine⟨hE,(IR L X b g cap2 v0 _ cur x.data.toList w (fun h=>hx (by rw[<-hxl,h];rfl)) h3 rfl k3 k4 k5 hcsz ht).mono ?_⟩;rintro e w' ⟨rfl,hu,_⟩;refine⟨_,rfl,loc,⟨by simp,by simp[Ad],by simp[Ad],fun q hq=> ?_,by simp⟩,?_,by simp[Ad],by simp,?_⟩
  ·have:=S.lt q (aV0 _ (by simpa[Ad]using hq));exact cN0 this hu.size
  ·refine⟨hu.os,hu.tape,hu.output,hu.drawn,hu.size,fun q hq qK=>hu.blk q hq fun hm=>qK ?_⟩;simp only[aG0]at hm;subst hm;simp[Ad,k1]
  ·simp only[rd];exact⟨trivial,by omega⟩
theorem MY (L:Lays.n169 P ρ) (X:Builder.Extra P ρ) (hE:Enters P (ρ.f 169)) (bs:Nat) (x:ByteArray) (hx:x.size≠0) :
  AS P (.func (ρ.f 169)) [.rx 0 0 2 0 0] [⟨0,0,.row (ρ.t 72) 2 bs [[.rx 0 0 2 0 0,.osl 1 0]]⟩,⟨1,0,.row (ρ.t 5) 1 1 (Bh x)⟩] (.str x) [⟨0,0,.row (ρ.t 72) 2 bs [[.rx 0 0 2 0 0,.sl 1 1 (Bh x)]]⟩]:=by
 refine⟨by simp,hE,fun M w loc vs S vN=> ?_⟩;have hk:=S.ok _ aF0;have jM:=S.ok _ (aE0 _ aF0);obtain⟨wC,hk⟩:=hk;obtain⟨hbs2,jM⟩:=jM
 rcases hk with ⟨h,_⟩ | ⟨b,arr,cap,h1,h2,h3,h4,h5,h6,h7⟩
 ·simp at h
 rcases jM with ⟨h,_⟩ | ⟨g,cur,cap2,k1,k2,k3,k4,k5,k6,k7⟩
 ·have:=congrArg List.length h;rw[Bo]at this;exact absurd this hx
 ·obtain⟨v0,v1,rest,rfl,g0,g1⟩:=Ie h7;simp only[rd]at g0 g1;have qB:Aj [(⟨0,0,.row (ρ.t 72) 2 bs [[.rx 0 0 2 0 0,.osl 1 0]]⟩:Ent),⟨1,0,.row (ρ.t 5) 1 1 (Bh x)⟩] loc 0 0=some (loc 0):=by simp[Aj,Ax]
  have pO:Aj [(⟨0,0,.row (ρ.t 72) 2 bs [[.rx 0 0 2 0 0,.osl 1 0]]⟩:Ent),⟨1,0,.row (ρ.t 5) 1 1 (Bh x)⟩] loc 1 0=some (loc 1):=by simp[Aj,Ax]
  have dD:=g1 _ pO;simp only at k1 k2;rw[k2,Bo]at dD;subst dD;simp only[AL,rd]at vN;obtain⟨pv,r,vN,hp,rfl⟩:=vN;obtain⟨b',qG,rfl⟩:=hp _ qB;simp only at h1 h2;rw[h1]at qG;simp only[bL0,and_true]at qG;subst qG;have vF:vs= #[.pointer (some ⟨b,0,none⟩)]:=by apply Array.ext';simpa using vN
  subst vF;have hxl:x.data.toList.length=x.size:=rfl;obtain⟨rows,r1,r2,r3,r4⟩:=GW 1 _ cur 0 k7
  have vC:rows.flatten=Lib.byteCells x.data.toList:=by
   have:∀(bl:List UInt8) (rows:List (List Value)),rows.length=bl.length->(∀(i:Nat) (cs:List DVal) (us:List Value),(bl.map fun b=>[DVal.int .u8 (b.toNat:Int)])[i]? =some cs->rows[i]? =some us->cs.length=1/\AL (Aj [(⟨0,0,.row (ρ.t 72) 2 bs [[.rx 0 0 2 0 0,.osl 1 0]]⟩:Ent),⟨1,0,.row (ρ.t 5) 1 1 (Bh x)⟩] loc) (Ad [(⟨0,0,.row (ρ.t 72) 2 bs [[.rx 0 0 2 0 0,.osl 1 0]]⟩:Ent),⟨1,0,.row (ρ.t 5) 1 1 (Bh x)⟩] loc++M) w.heap cs us/\∀u∈us,u.oneCell'=true)->rows.flatten=Lib.byteCells bl:=by
    intro bl
    induction bl with
    | nil=>intro rows hl _;rw[bP0 hl];rfl
    | cons y bl ih =>
     intro rows hl h
     match rows,hl with
     | us::rows,hl =>
      obtain⟨_,h1,_⟩:=h 0 _ _ rfl rfl;simp only[AL,rd]at h1;obtain⟨v,r,rfl,⟨rfl,_⟩,rfl⟩:=h1;have:=ih rows (by simpa using hl) fun i cs us hc hu=>h (i+1) cs us (by simpa using hc) (by simpa using hu)
      simp[this,Lib.byteCells]
   exact this x.data.toList rows (by rw[r1,Bo];rfl) r3
  rw[Bo]at k4 r2;have hcsz:cur.size=cap2:=by omega
  have ht:=JU r2 r4 (by omega);rw[vC,Nat.mul_one]at ht;refine⟨hE,(IR L X b g cap2 v0 _ cur x.data.toList w (fun h=>hx (by rw[<-hxl,h];rfl)) h3 rfl k3 k4 k5 hcsz ht).mono ?_⟩;rintro e w' ⟨rfl,hu,hw⟩;have kA:=g0 _ qB;obtain⟨b2,qP,rfl⟩:=kA;rw[h1]at qP;simp only[bL0,and_true]at qP;subst qP;have gL:=S.bl;have hap:=S.ap;simp only[Ad,cS0,List.flatMap_nil,h1,k1,bM0,List.cons_append,List.nil_append,cW0,aG0]at gL
  have hbg:b≠g:=gL.1;have hbM:b∉M:=hap b (by simp[Ad,h1]);have hgM:g∉M:=hap g (by simp[Ad,k1]);have bA:=(aH0.1 h3).1;have hglt:=(aH0.1 k3).1;have hH:Ad [(⟨0,0,.row (ρ.t 72) 2 bs [[.rx 0 0 2 0 0,.sl 1 1 (Bh x)]]⟩:Ent)] loc=[b]:=by simp[Ad,h1]
  have hhb:w'.heap[b]? =some (.cells (Value.pointer (some ⟨b,0*2+0,none⟩):: .slice (some ⟨g,0,none⟩) x.size cap2::rest).toArray (ρ.t 72) (0,0)):=by rw[hu.blk b bA (by simpa using hbg)];exact h3
  have hhg:∃fz,w'.heap[g]? =some (.cells cur (ρ.t 5) fz):=by
   rw[hw];unfold World.freeze;rw[if_neg (by rw[hxl];exact hx)];have:w.drew.heap[g]? =some (.cells cur (ρ.t 5) (0,0)):=k3;simp only[cO0,if_true,this];exact⟨_,rfl⟩
  have W:Weak (Aj [(⟨0,0,.row (ρ.t 72) 2 bs [[.rx 0 0 2 0 0,.osl 1 0]]⟩:Ent),⟨1,0,.row (ρ.t 5) 1 1 (Bh x)⟩] loc) (Aj [(⟨0,0,.row (ρ.t 72) 2 bs [[.rx 0 0 2 0 0,.sl 1 1 (Bh x)]]⟩:Ent)] loc) (Ad [(⟨0,0,.row (ρ.t 72) 2 bs [[.rx 0 0 2 0 0,.osl 1 0]]⟩:Ent),⟨1,0,.row (ρ.t 5) 1 1 (Bh x)⟩] loc++M) ([b]++M) w.heap w'.heap 0:=by
   refine⟨fun id r l hr _=>absurd hr (eV0 _),fun q o hq _ ho=> ?_,fun q o hq _ _ hm=>hq ?_⟩
   ·rw[hu.blk q (aH0.1 ho).1 (fun hm=>hq ?_)]
    ·exact ho
    ·simp only[aG0]at hm;subst hm;simp[Ad,k1]
   ·rcases aI0.1 hm with hm | hm
    ·simp only[aG0]at hm;subst hm;simp[Ad,h1]
    ·exact aV0 _ hm
  refine⟨_,rfl,loc,⟨by simp,by rw[hH];simp,fun q hq=> ?_,fun q hq=> ?_,?_⟩,?_,fun q hq=> ?_,?_,?_⟩
  ·rw[hH]at hq;simp only[aG0]at hq;subst hq;exact hbM
  ·rw[hH]at hq;refine cN0 (S.lt q ?_) hu.size
   rcases aI0.1 hq with hq | hq
   ·simp only[aG0]at hq;subst hq;simp[Ad,h1]
   ·exact aV0 _ hq
  ·intro e he;simp only[aG0]at he;subst he;rw[hH];refine⟨by simpa using wC,.inr ⟨b,_,cap,h1,by simpa using h2,hhb,by simpa using h4,h5,h6,oY ?_ ?_ rfl rfl⟩⟩
   ·simp only[rd];intro l hl;have:Aj [(⟨0,0,.row (ρ.t 72) 2 bs [[.rx 0 0 2 0 0,.sl 1 1 (Bh x)]]⟩:Ent)] loc 0 0=some (loc 0):=by simp[Aj,Ax]
    rw[this]at hl;simp only[aA0]at hl;subst hl;exact⟨b,h1,rfl⟩
   ·simp only[rd];obtain⟨fz,hfz⟩:=hhg;rw[Bo]
    exact⟨_,_,rfl,by simpa[Bo]using k4,k5,by simpa[Bo]using hbs2,.inr ⟨g,0,cur,_,fz,rfl,fun hm=>by
     rcases aI0.1 hm with hm | hm
     ·simp only[aG0]at hm;exact hbg hm.symm
     ·exact hgM hm,hfz,Dk W 1 _ cur 0 (by rw[HY];exact Nat.le_refl _) k7⟩⟩
  ·refine⟨hu.os,hu.tape,hu.output,hu.drawn,hu.size,fun q hq qK=>hu.blk q hq fun hm=>qK ?_⟩;simp only[aG0]at hm;subst hm;simp[Ad,k1]
  ·rw[hH]at hq;simp only[aG0]at hq;subst hq;exact .inl (by simp[Ad,h1])
  ·intro e he _;simp only[aG0]at he;subst he;exact qB
  ·simp only[rd];exact⟨trivial,by omega⟩
end
end Go.Dm
end
section

/-
  DERIVED: THE SHELF's CONTRACTS AT THIS DUMP, IN PLAIN WORDS (tools/lay-plain.mjs out of 'YtchgnpnbcjflcaaGreatLay.lean', which tools/lay-shelf.mjs wrote): THE SAME DECLARATIONS UNDER THE SAME NAMES: 'import', 'namespace', 'open', 'def', 'theorem' AND NOTHING ELSE: no command of the shelf's: FOR A HAND-IN. Each laying: the table of numbers ('.._ren') and one theorem, a field a fact of the dump's own or the kernel's comparison; each contract: ONE APPLICATION.
-/
namespace Go.Proofs
open Go.Shelf
def Tryz.sortStr_ren : Go.Shelf.Ren:=⟨fun | 6=>258 | 8=>187 | 9=>317 | 19=>274 | 20=>275 | 21=>339 | 22=>340 | 23=>341 | 24=>342 | 25=>343 | 26=>344 | 27=>345 | 28=>346 | 29=>347 | 36=>353 | 31=>325 | 32=>326 | 37=>354 | 38=>355 | 39=>335 | 41=>357 | n=>n,fun | 27=>46 | 29=>9 | 3=>3 | 32=>256 | 26=>46 | 0=>0 | 44=>314 | 46=>316 | 4=>4 | 36=>308 | 35=>307 | 41=>243 | 5=>5 | 9=>9 | 53=>353 | 57=>357 | 63=>372 | 64=>328 | n=>n,fun | n=>n⟩
theorem Tryz.sortStr : Go.Proofs.SlLaysM.n6 Tryz.prog Tryz.sortStr_ren:={
 mixed:=by kernel_rfl
 f6:=⟨Tryz.f258.name,by decide,Tryz.func258.trans (congrArg some (by kernel_rfl))⟩
 f8:=Tryz.func187.trans (congrArg some (by kernel_rfl))
 f9:=⟨Tryz.f317.name,by decide,Tryz.func317.trans (congrArg some (by kernel_rfl))⟩
 f19:=Tryz.func274.trans (congrArg some (by kernel_rfl))
 f20:=Tryz.func275.trans (congrArg some (by kernel_rfl))
 f21:=⟨Tryz.f339.name,by decide,Tryz.func339.trans (congrArg some (by kernel_rfl))⟩
 f22:=⟨Tryz.f340.name,by decide,Tryz.func340.trans (congrArg some (by kernel_rfl))⟩
 f23:=⟨Tryz.f341.name,by decide,Tryz.func341.trans (congrArg some (by kernel_rfl))⟩
 f24:=⟨Tryz.f342.name,by decide,Tryz.func342.trans (congrArg some (by kernel_rfl))⟩
 f25:=⟨Tryz.f343.name,by decide,Tryz.func343.trans (congrArg some (by kernel_rfl))⟩
 f26:=⟨Tryz.f344.name,by decide,Tryz.func344.trans (congrArg some (by kernel_rfl))⟩
 f27:=⟨Tryz.f345.name,by decide,Tryz.func345.trans (congrArg some (by kernel_rfl))⟩
 f28:=⟨Tryz.f346.name,by decide,Tryz.func346.trans (congrArg some (by kernel_rfl))⟩
 f29:=⟨Tryz.f347.name,by decide,Tryz.func347.trans (congrArg some (by kernel_rfl))⟩
 f31:=Tryz.func325.trans (congrArg some (by kernel_rfl))
 f32:=Tryz.func326.trans (congrArg some (by kernel_rfl))
 f36:=⟨Tryz.f353.name,by decide,Tryz.func353.trans (congrArg some (by kernel_rfl))⟩
 f37:=⟨Tryz.f354.name,by decide,Tryz.func354.trans (congrArg some (by kernel_rfl))⟩
 f38:=⟨Tryz.f355.name,by decide,Tryz.func355.trans (congrArg some (by kernel_rfl))⟩
 f39:=⟨Tryz.f335.name,by decide,Tryz.func335.trans (congrArg some (by kernel_rfl))⟩
 f41:=⟨Tryz.f357.name,by decide,Tryz.func357.trans (congrArg some (by kernel_rfl))⟩
 t0:=Tryz.underlying0
 a0:=Tryz.isAgg0
 z0:=Tryz.sizeOf0
 v0:=Tryz.zeroValue0
 t3:=Tryz.underlying3
 a3:=Tryz.isAgg3
 z3:=Tryz.sizeOf3
 v3:=Tryz.zeroValue3
 t4:=Tryz.underlying4
 a4:=Tryz.isAgg4
 z4:=Tryz.sizeOf4
 v4:=Tryz.zeroValue4
 t5:=Tryz.underlying5
 a5:=Tryz.isAgg5
 z5:=Tryz.sizeOf5
 v5:=Tryz.zeroValue5
 t9:=Tryz.underlying9
 a9:=Tryz.isAgg9
 z9:=Tryz.sizeOf9
 v9:=Tryz.zeroValue9
 t26:=Tryz.underlying46
 a26:=Tryz.isAgg46
 z26:=Tryz.sizeOf46
 v26:=Tryz.zeroValue46
 t27:=Tryz.underlying46
 a27:=Tryz.isAgg46
 z27:=Tryz.sizeOf46
 v27:=Tryz.zeroValue46
 t29:=Tryz.underlying9
 a29:=Tryz.isAgg9
 z29:=Tryz.sizeOf9
 v29:=Tryz.zeroValue9
 t32:=Tryz.underlying256
 a32:=Tryz.isAgg256
 z32:=Tryz.sizeOf256
 v32:=Tryz.zeroValue256
 t35:=Tryz.underlying307
 a35:=Tryz.isAgg307
 z35:=Tryz.sizeOf307
 v35:=Tryz.zeroValue307
 t36:=Tryz.underlying308
 a36:=Tryz.isAgg308
 z36:=Tryz.sizeOf308
 v36:=Tryz.zeroValue308
 t41:=Tryz.underlying243
 a41:=Tryz.isAgg243
 z41:=Tryz.sizeOf243
 v41:=Tryz.zeroValue243
 t44:=Tryz.underlying314
 a44:=Tryz.isAgg314
 z44:=Tryz.sizeOf314
 v44:=Tryz.zeroValue314
 t46:=Tryz.underlying316
 a46:=Tryz.isAgg316
 z46:=Tryz.sizeOf316
 v46:=Tryz.zeroValue316
 t53:=Tryz.underlying353
 a53:=Tryz.isAgg353
 z53:=Tryz.sizeOf353
 v53:=Tryz.zeroValue353
 t57:=Tryz.underlying357
 a57:=Tryz.isAgg357
 z57:=Tryz.sizeOf357
 v57:=Tryz.zeroValue357
 t63:=Tryz.underlying372
 a63:=Tryz.isAgg372
 z63:=Tryz.sizeOf372
 v63:=Tryz.zeroValue372
 t64:=Tryz.underlying328
 a64:=Tryz.isAgg328
 z64:=Tryz.sizeOf328
 v64:=Tryz.zeroValue328 }
def Tryz.bldString_ren : Go.Shelf.Ren:=⟨fun | 169=>306 | n=>n,fun | 70=>335 | 9=>9 | 0=>0 | 72=>338 | 37=>336 | 127=>363 | 3=>3 | 5=>5 | n=>n,fun | n=>n⟩
theorem Tryz.bldString : Go.Proofs.Lays.n169 Tryz.prog Tryz.bldString_ren:={
 mixed:=by kernel_rfl
 f169:=Tryz.func306.trans (congrArg some (by kernel_rfl))
 t0:=Tryz.underlying0
 a0:=Tryz.isAgg0
 z0:=Tryz.sizeOf0
 v0:=Tryz.zeroValue0
 t3:=Tryz.underlying3
 a3:=Tryz.isAgg3
 z3:=Tryz.sizeOf3
 v3:=Tryz.zeroValue3
 t9:=Tryz.underlying9
 a9:=Tryz.isAgg9
 z9:=Tryz.sizeOf9
 v9:=Tryz.zeroValue9
 t37:=Tryz.underlying336
 a37:=Tryz.isAgg336
 z37:=Tryz.sizeOf336
 v37:=Tryz.zeroValue336
 t70:=Tryz.underlying335
 a70:=Tryz.isAgg335
 z70:=Tryz.sizeOf335
 v70:=Tryz.zeroValue335
 t72:=Tryz.underlying338
 a72:=Tryz.isAgg338
 z72:=Tryz.sizeOf338
 v72:=Tryz.zeroValue338
 t127:=Tryz.underlying363
 a127:=Tryz.isAgg363
 z127:=Tryz.sizeOf363
 v127:=Tryz.zeroValue363 }
def Tryz.sortFArc_ren : Go.Shelf.Ren:=⟨fun | 6=>108 | 15=>187 | 14=>186 | 28=>274 | 29=>275 | 20=>266 | 21=>267 | 22=>268 | 23=>269 | 24=>270 | 25=>271 | 26=>272 | 27=>273 | 46=>324 | 47=>325 | 48=>326 | 49=>327 | 50=>328 | 57=>349 | n=>n,fun | 22=>37 | 24=>97 | 25=>172 | 3=>3 | 39=>256 | 0=>0 | 53=>314 | 55=>316 | 4=>4 | 46=>308 | 45=>307 | 50=>243 | 5=>5 | 9=>9 | 66=>353 | 70=>357 | 76=>372 | 77=>328 | n=>n,fun | n=>n⟩
theorem Tryz.sortFArc : Go.Proofs.SlLaysF0.n6 Tryz.prog Tryz.sortFArc_ren:={
 mixed:=by kernel_rfl
 f6:=⟨Tryz.f108.name,by decide,Tryz.func108.trans (congrArg some (by kernel_rfl))⟩
 f14:=⟨Tryz.f186.name,by decide,Tryz.func186.trans (congrArg some (by kernel_rfl))⟩
 f15:=Tryz.func187.trans (congrArg some (by kernel_rfl))
 f20:=⟨Tryz.f266.name,by decide,Tryz.func266.trans (congrArg some (by kernel_rfl))⟩
 f21:=⟨Tryz.f267.name,by decide,Tryz.func267.trans (congrArg some (by kernel_rfl))⟩
 f22:=⟨Tryz.f268.name,by decide,Tryz.func268.trans (congrArg some (by kernel_rfl))⟩
 f23:=⟨Tryz.f269.name,by decide,Tryz.func269.trans (congrArg some (by kernel_rfl))⟩
 f24:=⟨Tryz.f270.name,by decide,Tryz.func270.trans (congrArg some (by kernel_rfl))⟩
 f25:=⟨Tryz.f271.name,by decide,Tryz.func271.trans (congrArg some (by kernel_rfl))⟩
 f26:=⟨Tryz.f272.name,by decide,Tryz.func272.trans (congrArg some (by kernel_rfl))⟩
 f27:=⟨Tryz.f273.name,by decide,Tryz.func273.trans (congrArg some (by kernel_rfl))⟩
 f28:=Tryz.func274.trans (congrArg some (by kernel_rfl))
 f29:=Tryz.func275.trans (congrArg some (by kernel_rfl))
 f46:=⟨Tryz.f324.name,by decide,Tryz.func324.trans (congrArg some (by kernel_rfl))⟩
 f47:=Tryz.func325.trans (congrArg some (by kernel_rfl))
 f48:=Tryz.func326.trans (congrArg some (by kernel_rfl))
 f49:=⟨Tryz.f327.name,by decide,Tryz.func327.trans (congrArg some (by kernel_rfl))⟩
 f50:=⟨Tryz.f328.name,by decide,Tryz.func328.trans (congrArg some (by kernel_rfl))⟩
 f57:=⟨Tryz.f349.name,by decide,Tryz.func349.trans (congrArg some (by kernel_rfl))⟩
 t0:=Tryz.underlying0
 a0:=Tryz.isAgg0
 z0:=Tryz.sizeOf0
 v0:=Tryz.zeroValue0
 t3:=Tryz.underlying3
 a3:=Tryz.isAgg3
 z3:=Tryz.sizeOf3
 v3:=Tryz.zeroValue3
 t4:=Tryz.underlying4
 a4:=Tryz.isAgg4
 z4:=Tryz.sizeOf4
 v4:=Tryz.zeroValue4
 t5:=Tryz.underlying5
 a5:=Tryz.isAgg5
 z5:=Tryz.sizeOf5
 v5:=Tryz.zeroValue5
 t9:=Tryz.underlying9
 a9:=Tryz.isAgg9
 z9:=Tryz.sizeOf9
 v9:=Tryz.zeroValue9
 t22:=Tryz.underlying37
 a22:=Tryz.isAgg37
 z22:=Tryz.sizeOf37
 v22:=Tryz.zeroValue37
 t25:=Tryz.underlying172
 a25:=Tryz.isAgg172
 z25:=Tryz.sizeOf172
 v25:=Tryz.zeroValue172
 t39:=Tryz.underlying256
 a39:=Tryz.isAgg256
 z39:=Tryz.sizeOf256
 v39:=Tryz.zeroValue256
 t45:=Tryz.underlying307
 a45:=Tryz.isAgg307
 z45:=Tryz.sizeOf307
 v45:=Tryz.zeroValue307
 t46:=Tryz.underlying308
 a46:=Tryz.isAgg308
 z46:=Tryz.sizeOf308
 v46:=Tryz.zeroValue308
 t50:=Tryz.underlying243
 a50:=Tryz.isAgg243
 z50:=Tryz.sizeOf243
 v50:=Tryz.zeroValue243
 t53:=Tryz.underlying314
 a53:=Tryz.isAgg314
 z53:=Tryz.sizeOf314
 v53:=Tryz.zeroValue314
 t55:=Tryz.underlying316
 a55:=Tryz.isAgg316
 z55:=Tryz.sizeOf316
 v55:=Tryz.zeroValue316
 t66:=Tryz.underlying353
 a66:=Tryz.isAgg353
 z66:=Tryz.sizeOf353
 v66:=Tryz.zeroValue353
 t70:=Tryz.underlying357
 a70:=Tryz.isAgg357
 z70:=Tryz.sizeOf357
 v70:=Tryz.zeroValue357
 t76:=Tryz.underlying372
 a76:=Tryz.isAgg372
 z76:=Tryz.sizeOf372
 v76:=Tryz.zeroValue372
 t77:=Tryz.underlying328
 a77:=Tryz.isAgg328
 z77:=Tryz.sizeOf328
 v77:=Tryz.zeroValue328 }
def Tryz.sortProd_ren : Go.Shelf.Ren:=⟨fun | 6=>122 | 15=>187 | 14=>195 | 28=>274 | 29=>275 | 20=>286 | 21=>287 | 22=>288 | 23=>289 | 24=>290 | 25=>291 | 26=>292 | 27=>293 | 46=>332 | 47=>325 | 48=>326 | 49=>333 | 50=>334 | 57=>351 | n=>n,fun | 22=>27 | 24=>92 | 25=>187 | 3=>3 | 39=>256 | 0=>0 | 53=>314 | 55=>316 | 4=>4 | 46=>308 | 45=>307 | 50=>243 | 5=>5 | 9=>9 | 66=>353 | 70=>357 | 76=>372 | 77=>328 | n=>n,fun | n=>n⟩
theorem Tryz.sortProd : Go.Proofs.SlLaysF0.n6 Tryz.prog Tryz.sortProd_ren:={
 mixed:=by kernel_rfl
 f6:=⟨Tryz.f122.name,by decide,Tryz.func122.trans (congrArg some (by kernel_rfl))⟩
 f14:=⟨Tryz.f195.name,by decide,Tryz.func195.trans (congrArg some (by kernel_rfl))⟩
 f15:=Tryz.func187.trans (congrArg some (by kernel_rfl))
 f20:=⟨Tryz.f286.name,by decide,Tryz.func286.trans (congrArg some (by kernel_rfl))⟩
 f21:=⟨Tryz.f287.name,by decide,Tryz.func287.trans (congrArg some (by kernel_rfl))⟩
 f22:=⟨Tryz.f288.name,by decide,Tryz.func288.trans (congrArg some (by kernel_rfl))⟩
 f23:=⟨Tryz.f289.name,by decide,Tryz.func289.trans (congrArg some (by kernel_rfl))⟩
 f24:=⟨Tryz.f290.name,by decide,Tryz.func290.trans (congrArg some (by kernel_rfl))⟩
 f25:=⟨Tryz.f291.name,by decide,Tryz.func291.trans (congrArg some (by kernel_rfl))⟩
 f26:=⟨Tryz.f292.name,by decide,Tryz.func292.trans (congrArg some (by kernel_rfl))⟩
 f27:=⟨Tryz.f293.name,by decide,Tryz.func293.trans (congrArg some (by kernel_rfl))⟩
 f28:=Tryz.func274.trans (congrArg some (by kernel_rfl))
 f29:=Tryz.func275.trans (congrArg some (by kernel_rfl))
 f46:=⟨Tryz.f332.name,by decide,Tryz.func332.trans (congrArg some (by kernel_rfl))⟩
 f47:=Tryz.func325.trans (congrArg some (by kernel_rfl))
 f48:=Tryz.func326.trans (congrArg some (by kernel_rfl))
 f49:=⟨Tryz.f333.name,by decide,Tryz.func333.trans (congrArg some (by kernel_rfl))⟩
 f50:=⟨Tryz.f334.name,by decide,Tryz.func334.trans (congrArg some (by kernel_rfl))⟩
 f57:=⟨Tryz.f351.name,by decide,Tryz.func351.trans (congrArg some (by kernel_rfl))⟩
 t0:=Tryz.underlying0
 a0:=Tryz.isAgg0
 z0:=Tryz.sizeOf0
 v0:=Tryz.zeroValue0
 t3:=Tryz.underlying3
 a3:=Tryz.isAgg3
 z3:=Tryz.sizeOf3
 v3:=Tryz.zeroValue3
 t4:=Tryz.underlying4
 a4:=Tryz.isAgg4
 z4:=Tryz.sizeOf4
 v4:=Tryz.zeroValue4
 t5:=Tryz.underlying5
 a5:=Tryz.isAgg5
 z5:=Tryz.sizeOf5
 v5:=Tryz.zeroValue5
 t9:=Tryz.underlying9
 a9:=Tryz.isAgg9
 z9:=Tryz.sizeOf9
 v9:=Tryz.zeroValue9
 t22:=Tryz.underlying27
 a22:=Tryz.isAgg27
 z22:=Tryz.sizeOf27
 v22:=Tryz.zeroValue27
 t25:=Tryz.underlying187
 a25:=Tryz.isAgg187
 z25:=Tryz.sizeOf187
 v25:=Tryz.zeroValue187
 t39:=Tryz.underlying256
 a39:=Tryz.isAgg256
 z39:=Tryz.sizeOf256
 v39:=Tryz.zeroValue256
 t45:=Tryz.underlying307
 a45:=Tryz.isAgg307
 z45:=Tryz.sizeOf307
 v45:=Tryz.zeroValue307
 t46:=Tryz.underlying308
 a46:=Tryz.isAgg308
 z46:=Tryz.sizeOf308
 v46:=Tryz.zeroValue308
 t50:=Tryz.underlying243
 a50:=Tryz.isAgg243
 z50:=Tryz.sizeOf243
 v50:=Tryz.zeroValue243
 t53:=Tryz.underlying314
 a53:=Tryz.isAgg314
 z53:=Tryz.sizeOf314
 v53:=Tryz.zeroValue314
 t55:=Tryz.underlying316
 a55:=Tryz.isAgg316
 z55:=Tryz.sizeOf316
 v55:=Tryz.zeroValue316
 t66:=Tryz.underlying353
 a66:=Tryz.isAgg353
 z66:=Tryz.sizeOf353
 v66:=Tryz.zeroValue353
 t70:=Tryz.underlying357
 a70:=Tryz.isAgg357
 z70:=Tryz.sizeOf357
 v70:=Tryz.zeroValue357
 t76:=Tryz.underlying372
 a76:=Tryz.isAgg372
 z76:=Tryz.sizeOf372
 v76:=Tryz.zeroValue372
 t77:=Tryz.underlying328
 a77:=Tryz.isAgg328
 z77:=Tryz.sizeOf328
 v77:=Tryz.zeroValue328 }
def Tryz.sortInt_ren : Go.Shelf.Ren:=⟨fun | 189=>110 | 125=>187 | 257=>191 | 128=>274 | 129=>275 | 294=>277 | 295=>278 | 296=>279 | 297=>280 | 298=>281 | 299=>282 | 216=>283 | 300=>284 | 301=>285 | 328=>329 | 329=>325 | 330=>326 | 331=>330 | 332=>331 | 215=>276 | 343=>350 | n=>n,fun | 28=>36 | 3=>3 | 46=>256 | 0=>0 | 51=>314 | 53=>316 | 4=>4 | 183=>308 | 182=>307 | 131=>243 | 5=>5 | 9=>9 | 218=>353 | 222=>357 | 228=>372 | 229=>328 | n=>n,fun | n=>n⟩
theorem Tryz.sortInt : Go.Proofs.Lays.n189 Tryz.prog Tryz.sortInt_ren:={
 mixed:=by kernel_rfl
 f125:=Tryz.func187.trans (congrArg some (by kernel_rfl))
 f128:=Tryz.func274.trans (congrArg some (by kernel_rfl))
 f129:=Tryz.func275.trans (congrArg some (by kernel_rfl))
 f189:=Tryz.func110.trans (congrArg some (by kernel_rfl))
 f215:=Tryz.func276.trans (congrArg some (by kernel_rfl))
 f216:=Tryz.func283.trans (congrArg some (by kernel_rfl))
 f257:=Tryz.func191.trans (congrArg some (by kernel_rfl))
 f294:=Tryz.func277.trans (congrArg some (by kernel_rfl))
 f295:=Tryz.func278.trans (congrArg some (by kernel_rfl))
 f296:=Tryz.func279.trans (congrArg some (by kernel_rfl))
 f297:=Tryz.func280.trans (congrArg some (by kernel_rfl))
 f298:=Tryz.func281.trans (congrArg some (by kernel_rfl))
 f299:=Tryz.func282.trans (congrArg some (by kernel_rfl))
 f300:=Tryz.func284.trans (congrArg some (by kernel_rfl))
 f301:=Tryz.func285.trans (congrArg some (by kernel_rfl))
 f328:=Tryz.func329.trans (congrArg some (by kernel_rfl))
 f329:=Tryz.func325.trans (congrArg some (by kernel_rfl))
 f330:=Tryz.func326.trans (congrArg some (by kernel_rfl))
 f331:=Tryz.func330.trans (congrArg some (by kernel_rfl))
 f332:=Tryz.func331.trans (congrArg some (by kernel_rfl))
 f343:=Tryz.func350.trans (congrArg some (by kernel_rfl))
 t0:=Tryz.underlying0
 a0:=Tryz.isAgg0
 z0:=Tryz.sizeOf0
 v0:=Tryz.zeroValue0
 t3:=Tryz.underlying3
 a3:=Tryz.isAgg3
 z3:=Tryz.sizeOf3
 v3:=Tryz.zeroValue3
 t4:=Tryz.underlying4
 a4:=Tryz.isAgg4
 z4:=Tryz.sizeOf4
 v4:=Tryz.zeroValue4
 t5:=Tryz.underlying5
 a5:=Tryz.isAgg5
 z5:=Tryz.sizeOf5
 v5:=Tryz.zeroValue5
 t9:=Tryz.underlying9
 a9:=Tryz.isAgg9
 z9:=Tryz.sizeOf9
 v9:=Tryz.zeroValue9
 t28:=Tryz.underlying36
 a28:=Tryz.isAgg36
 z28:=Tryz.sizeOf36
 v28:=Tryz.zeroValue36
 t46:=Tryz.underlying256
 a46:=Tryz.isAgg256
 z46:=Tryz.sizeOf256
 v46:=Tryz.zeroValue256
 t51:=Tryz.underlying314
 a51:=Tryz.isAgg314
 z51:=Tryz.sizeOf314
 v51:=Tryz.zeroValue314
 t53:=Tryz.underlying316
 a53:=Tryz.isAgg316
 z53:=Tryz.sizeOf316
 v53:=Tryz.zeroValue316
 t131:=Tryz.underlying243
 a131:=Tryz.isAgg243
 z131:=Tryz.sizeOf243
 v131:=Tryz.zeroValue243
 t182:=Tryz.underlying307
 a182:=Tryz.isAgg307
 z182:=Tryz.sizeOf307
 v182:=Tryz.zeroValue307
 t183:=Tryz.underlying308
 a183:=Tryz.isAgg308
 z183:=Tryz.sizeOf308
 v183:=Tryz.zeroValue308
 t218:=Tryz.underlying353
 a218:=Tryz.isAgg353
 z218:=Tryz.sizeOf353
 v218:=Tryz.zeroValue353
 t222:=Tryz.underlying357
 a222:=Tryz.isAgg357
 z222:=Tryz.sizeOf357
 v222:=Tryz.zeroValue357
 t228:=Tryz.underlying372
 a228:=Tryz.isAgg372
 z228:=Tryz.sizeOf372
 v228:=Tryz.zeroValue372
 t229:=Tryz.underlying328
 a229:=Tryz.isAgg328
 z229:=Tryz.sizeOf328
 v229:=Tryz.zeroValue328 }
def Tryz.keysM_ren : Go.Shelf.Ren:=⟨fun | 7=>175 | 10=>259 | n=>n,fun | 23=>241 | 26=>9 | 3=>3 | 28=>239 | 0=>0 | 27=>238 | 33=>290 | 4=>4 | n=>n,fun | n=>n⟩
theorem Tryz.keysM : Go.Proofs.SlLaysZ.n7 Tryz.prog Tryz.keysM_ren:={
 mixed:=by kernel_rfl
 f7:=⟨Tryz.f175.name,by decide,Tryz.func175.trans (congrArg some (by kernel_rfl))⟩
 f10:=⟨Tryz.f259.name,by decide,Tryz.func259.trans (congrArg some (by kernel_rfl))⟩
 t0:=Tryz.underlying0
 a0:=Tryz.isAgg0
 z0:=Tryz.sizeOf0
 v0:=Tryz.zeroValue0
 t4:=Tryz.underlying4
 a4:=Tryz.isAgg4
 z4:=Tryz.sizeOf4
 v4:=Tryz.zeroValue4
 t23:=Tryz.underlying241
 a23:=Tryz.isAgg241
 z23:=Tryz.sizeOf241
 v23:=Tryz.zeroValue241
 t26:=Tryz.underlying9
 a26:=Tryz.isAgg9
 z26:=Tryz.sizeOf9
 v26:=Tryz.zeroValue9
 t27:=Tryz.underlying238
 a27:=Tryz.isAgg238
 z27:=Tryz.sizeOf238
 v27:=Tryz.zeroValue238
 t28:=Tryz.underlying239
 a28:=Tryz.isAgg239
 z28:=Tryz.sizeOf239
 v28:=Tryz.zeroValue239
 t33:=Tryz.underlying290
 a33:=Tryz.isAgg290
 z33:=Tryz.sizeOf290
 v33:=Tryz.zeroValue290 }
def Tryz.sortedM_ren : Go.Shelf.Ren:=⟨fun | 6=>174 | 8=>257 | 9=>258 | 11=>316 | 13=>187 | 12=>317 | 23=>274 | 24=>275 | 14=>339 | 15=>340 | 16=>341 | 17=>342 | 18=>343 | 19=>344 | 20=>345 | 21=>346 | 22=>347 | 25=>353 | 26=>325 | 27=>326 | 28=>354 | 29=>355 | 30=>335 | 31=>357 | n=>n,fun | 26=>9 | 28=>239 | 24=>46 | 0=>0 | 3=>3 | 37=>256 | 48=>314 | 50=>316 | 4=>4 | 40=>308 | 39=>307 | 45=>243 | 5=>5 | 9=>9 | 51=>353 | 55=>357 | 57=>372 | 58=>328 | 33=>290 | n=>n,fun | n=>n⟩
theorem Tryz.sortedM : Go.Proofs.SlLaysZ.n6 Tryz.prog Tryz.sortedM_ren:={
 mixed:=by kernel_rfl
 f6:=⟨Tryz.f174.name,by decide,Tryz.func174.trans (congrArg some (by kernel_rfl))⟩
 f8:=⟨Tryz.f257.name,by decide,Tryz.func257.trans (congrArg some (by kernel_rfl))⟩
 f11:=⟨Tryz.f316.name,by decide,Tryz.func316.trans (congrArg some (by kernel_rfl))⟩
 t0:=Tryz.underlying0
 a0:=Tryz.isAgg0
 z0:=Tryz.sizeOf0
 v0:=Tryz.zeroValue0
 t24:=Tryz.underlying46
 a24:=Tryz.isAgg46
 z24:=Tryz.sizeOf46
 v24:=Tryz.zeroValue46
 t26:=Tryz.underlying9
 a26:=Tryz.isAgg9
 z26:=Tryz.sizeOf9
 v26:=Tryz.zeroValue9
 t28:=Tryz.underlying239
 a28:=Tryz.isAgg239
 z28:=Tryz.sizeOf239
 v28:=Tryz.zeroValue239
 i26:=by kernel_rfl }
def Tryz.growI_ren : Go.Shelf.Ren:=⟨fun | 4=>265 | n=>n,fun | 22=>36 | 25=>3 | 3=>3 | 4=>4 | 9=>9 | 20=>20 | 0=>0 | n=>n,fun | n=>n⟩
theorem Tryz.growI : Go.Proofs.Lays8.n4 Tryz.prog Tryz.growI_ren:={
 mixed:=by kernel_rfl
 f4:=⟨Tryz.f265.name,by decide,Tryz.func265.trans (congrArg some (by kernel_rfl))⟩
 t0:=Tryz.underlying0
 a0:=Tryz.isAgg0
 z0:=Tryz.sizeOf0
 v0:=Tryz.zeroValue0
 t3:=Tryz.underlying3
 a3:=Tryz.isAgg3
 z3:=Tryz.sizeOf3
 v3:=Tryz.zeroValue3
 t4:=Tryz.underlying4
 a4:=Tryz.isAgg4
 z4:=Tryz.sizeOf4
 v4:=Tryz.zeroValue4
 t9:=Tryz.underlying9
 a9:=Tryz.isAgg9
 z9:=Tryz.sizeOf9
 v9:=Tryz.zeroValue9
 t20:=Tryz.underlying20
 a20:=Tryz.isAgg20
 z20:=Tryz.sizeOf20
 v20:=Tryz.zeroValue20
 t22:=Tryz.underlying36
 a22:=Tryz.isAgg36
 z22:=Tryz.sizeOf36
 v22:=Tryz.zeroValue36 }
def Tryz.strCmp_ren : Go.Shelf.Ren:=⟨fun | 106=>243 | 213=>308 | 265=>337 | n=>n,fun | 9=>9 | 3=>3 | n=>n,fun | n=>n⟩
theorem Tryz.strCmp : Go.Proofs.Lays.n106 Tryz.prog Tryz.strCmp_ren:={
 mixed:=by kernel_rfl
 f106:=Tryz.func243.trans (congrArg some (by kernel_rfl))
 f213:=Tryz.func308.trans (congrArg some (by kernel_rfl))
 f265:=Tryz.func337.trans (congrArg some (by kernel_rfl))
 t3:=Tryz.underlying3
 a3:=Tryz.isAgg3
 z3:=Tryz.sizeOf3
 v3:=Tryz.zeroValue3
 t9:=Tryz.underlying9
 a9:=Tryz.isAgg9
 z9:=Tryz.sizeOf9
 v9:=Tryz.zeroValue9 }
end Go.Proofs
end
section


end
section
namespace Go.Dm
variable [DMode]
open Go.Shelf Go.Sort Go.Proofs
theorem Nb_ {w w':World} (h: @Upd LX [] w w'):∃q os,w'=grow (w.drewN q) os:=by
 refine⟨w'.drawn-w.drawn,w'.heap.extract w.heap.size w'.heap.size,?_⟩;obtain⟨heap,tape,drawn,os,output⟩:=w';obtain⟨h1,h2,h3,h4,h5,h6⟩:=h;simp only at h1 h2 h3 h4 h5 h6 |-
 replace h4:=h4 rfl
 subst h1;subst h2;subst h3
 have e1:w.heap++heap.extract w.heap.size heap.size=heap:=by
  apply Array.ext_getElem?
  intro i
  by_cases hi:i<w.heap.size
  ·rw[dV0 hi,<-h6 i hi (by simp)]
  ·rw[Array.getElem?_append_right (by omega),Array.getElem?_extract]
   by_cases hi2:i<heap.size
   ·rw[if_pos (by omega)]
    congr 1
    omega
   ·rw[if_neg (by omega),Array.getElem?_eq_none (by omega)]
 have e2:w.drawn+(drawn-w.drawn)=drawn:=by omega
 simp[grow,World.drewN,e1,e2]
section
variable {P : Program} {ρ : Ren} {g : FuncId} {et k cap b : Nat} {cs : List DVal} {cs' : Array Value} {cf : List DVal -> List DVal -> Int} {es es' : List (List DVal)} {cu0 : Gp} {M1 : List Nat} {w : World} {arr : Array Value}
theorem KX {α:Type} [Inhabited α] (enc:α->List Value) (p3:w.heap[b]? =some (.cells arr et (0,0))) (m:Nat) (os:Array Obj) (dk:Array α) :
  (sortWorldK enc k w b 0 m dk os).heap[b]? =some (.cells (putCells id 0 (flatK enc k dk) arr) et (0,0))/\(∀q,q<w.heap.size->q≠b->(sortWorldK enc k w b 0 m dk os).heap[q]? =w.heap[q]?)/\w.heap.size<=(sortWorldK enc k w b 0 m dk os).heap.size /\
   (sortWorldK enc k w b 0 m dk os).os=w.os/\(sortWorldK enc k w b 0 m dk os).tape=w.tape/\(sortWorldK enc k w b 0 m dk os).output=w.output/\w.drawn<=(sortWorldK enc k w b 0 m dk os).drawn:=by
 have hblk:b<w.heap.size:=(aH0.1 p3).1;refine⟨?_,fun q hq hqb=> ?_,?_,rfl,rfl,rfl,Nat.le_add_right _ _⟩
 ·simp only[sortWorldK,grow,putRowK,putRow,mapBlock,ahead];rw[dV0 (by simpa using hblk),cO0];simp[p3,onCells]
 ·simp only[sortWorldK,grow,putRowK,putRow,mapBlock,ahead];rw[dV0 (by simpa using hq),cO0];rw[if_neg (fun h=>hqb h.symm)];rfl
 ·simp[sortWorldK,grow,putRowK,putRow,mapBlock,ahead]
theorem Ae_ {α:Type} [Inhabited α] {enc:α->List Value} (qZ:∀x,(enc x).length=k) {dk:Array α} {i p:Nat} (hi:i<dk.size) (hp:p<k) (qM:dk.size*k<=arr.size) :
  (putCells id 0 (flatK enc k dk) arr)[i*k+p]? =(enc dk[i]!)[p]? :=by
 have qT:=EG (k:=k) hi;have qV:i*k+p<arr.size:=by omega
 have hdiv:(i*k+p)/k=i:=by
  rw[eB0,Nat.mul_add_div (by omega),Nat.div_eq_of_lt hp];omega
 have hmod:(i*k+p)%k=p:=by rw[eB0,Nat.mul_add_mod];exact eR0 hp
 have hlf:i*k+p<dk.size*k:=by omega
 have dP:p<(enc dk[i]!).length:=by rw[qZ];exact hp
 simp only[putCells,bX0,Array.getElem?_mapIdx,cJ0 qV,dJ0,cV0,true_and,size_flatK,hlf,if_true,eT0,id];rw[get_flatK _ _ _ _ hlf,hdiv,hmod,getElem!_pos (enc dk[i]!) p dP,aD0 dP]
theorem KC_ {α:Type} [Inhabited α] (L:SlLaysF0.n6 P ρ) (dt:α->List DVal) (enc:α->List Value) (d:Array α) (tE:tAgg P (ρ.t 24)=some true) (jH:tCells P (ρ.t 24)=some k) (zR:AV cs=0) (tN:∀x∈es,AV x=0)
  (gC:∀x,dt x∈es) (hdk:∀x,(dt x).length=k) (zK:∀x,AL cu0 M1 w.heap (dt x) (enc x)) (wW:∀x,∀u∈enc x,u.oneCell'=true) (mY:d.size=es.length)
  (hd:∀i (hi:i<es.length),dt d[i]! =es[i]/\∀(q:Nat) (v:Value),(enc d[i]!)[q]? =some v->arr[i*k+q]? =some v)
  (p3:w.heap[b]? =some (.cells arr et (0,0))) (jI:es.length*k<=arr.size) (hbM:b∈M1) (mL:∀q∈M1,q<w.heap.size) (sN:AL cu0 M1 w.heap cs cs'.toList) (qV:es.length<4611686018427387904)
  (hg:Enters P g) (hcmp:∀x∈es,∀y∈es,@Ac LX P g (.agg x:: .agg y::cs) (.int .i64 (cf x y)))
  (hirr:∀x∈es,¬cf x x<0) (fD:∀x∈es,∀y∈es,∀z∈es,cf x y<0->cf y z<0->cf x z<0) (qX:∀x∈es,∀y∈es,∀z∈es,¬cf x y<0->¬cf y z<0->¬cf x z<0)
  (cF:∀l:List (List DVal),l.Perm es->l.Pairwise (fun x y=>¬cf y x<0)->l=es') :
  Calls P (ρ.f 6) #[.slice (some ⟨b,0,none⟩) es.length cap,.func (.func g) #[] cs'] w fun e w'=>e= .returned (.tuple #[])/\es'.length=es.length/\Upd [b] w w' /\
   ∃arr',w'.heap[b]? =some (.cells arr' et (0,0))/\arr'.size=arr.size/\∀cur M2,(∀q∈M2,q∈M1)->Fz cur M2 w'.heap k es' arr' 0:=by
 have qZ:∀x:α,(enc x).length=k:=fun x=>by
  have:=AM _ _ (zK x);have:=hdk x;omega
 have hO:SWO (ltOf fun x y:α=>cf (dt x) (dt y)):=by
  refine⟨fun x=> ?_,fun x y z h1 h2=> ?_,fun x y z h1 h2=> ?_⟩
  ·simp only[ltOf,decide_eq_false_iff_not];exact hirr _ (gC x)
  ·simp only[ltOf,decide_eq_true_eq]at *;exact fD _ (gC x) _ (gC y) _ (gC z) h1 h2
  ·simp only[ltOf,decide_eq_false_iff_not]at *;exact qX _ (gC x) _ (gC y) _ (gC z) h1 h2
 have hH:HoldsK enc k w b 0 d:=by
  intro j hj;rw[size_flatK,mY]at hj
  have vT:0<k:=by
   rcases fG0 k with h | h
   ·subst h;simp at hj
   ·exact h
  have hi:j/k<es.length:=by rw[Nat.div_lt_iff_lt_mul vT];exact hj
  have hq:j%k<k:=Nat.mod_lt _ vT;rw[get_flatK _ _ _ _ (by rw[mY];exact hj)];have vV:j%k<(enc d[j/k]!).length:=by rw[qZ];exact hq
  have zQ:=(hd _ hi).2 (j%k) _ (aD0 vV);rw[eB0,Nat.div_add_mod]at zQ;rw[getElem!_pos (enc d[j/k]!) _ vV];exact⟨by simp only[World.cell?,p3,bX0,id];exact zQ,by simp[World.frozen?,p3]⟩
 have hblk:b<w.heap.size:=(aH0.1 p3).1
 have Wk:∀m os (dk:Array α) (cur:Gp) (M2:List Nat),(∀q∈M2,q∈M1)->Weak cu0 cur M1 M2 w.heap (sortWorldK enc k w b 0 m dk os).heap 0:=by
  intro m os dk cur M2 sG;have hW:=KX (et:=et) (arr:=arr) (k:=k) enc p3 m os dk;exact⟨fun _ _ _ h=>by omega,fun q o hq (_:IZ o=true) ho=>by rw[hW.2.1 q (aH0.1 ho).1 (fun h=>hq (h▸hbM))];exact ho,fun q o hq (_:IZ o=true) _ hm=>hq (sG q hm)⟩
 have hC:CmpLays P g cs' enc k (fun x y:α=>cf (dt x) (dt y)) b 0 d.size w:=by
  intro m os dk _ x y;have hD:=hcmp _ (gC x) _ (gC y);have hW:=KX (et:=et) (arr:=arr) (k:=k) enc p3 m os dk;have hx:=Bn (Wk m os dk (fun _ _=>none) M1 (fun _ h=>h)) _ _ (dP0 (tN _ (gC x))) (zK x);have hy:=Bn (Wk m os dk (fun _ _=>none) M1 (fun _ h=>h)) _ _ (dP0 (tN _ (gC y))) (zK y);have hc:=Bn (Wk m os dk (fun _ _=>none) M1 (fun _ h=>h)) _ _ (dP0 zR) sN;obtain⟨X,hX⟩:∃X,X=(enc x).toArray:=⟨_,rfl⟩;obtain⟨Y,hY⟩:∃Y,Y=(enc y).toArray:=⟨_,rfl⟩
  simp only[<-hX,<-hY]
  generalize sortWorldK enc k w b 0 m dk os=V at hW hx hy hc |-
  have key:=hD.2.2 (fun _ _=>none) M1 V (#[.agg X,.agg Y]++cs') (fun q hq=>cN0 (mL q hq) hW.2.2.1);refine(key ?_).mono ?_
  ·have e1:(#[Value.agg X,Value.agg Y]++cs').toList=Value.agg X::Value.agg Y::cs'.toList:=by simp
   rw[e1];simp only[AL];refine⟨_,_,rfl,?_,_,_,rfl,?_,hc⟩
   ·simp only[rd];exact⟨_,rfl,by rw[hX];exact hx⟩
   ·simp only[rd];exact⟨_,rfl,by rw[hY];exact hy⟩
  ·rintro e w' ⟨v,rfl,hu,hv⟩;simp only[rd]at hv;exact⟨by rw[hv.1],Nb_ hu⟩
 have qR:=AnyQ.slices_SortFunc L k (Nn tE) (DJ jH) enc qZ wW (fun x y:α=>cf (dt x) (dt y)) hO g cs' b 0 cap d w hg hC hH hblk (by omega);rw[mY]at qR;refine qR.mono ?_;rintro e w' ⟨rfl,d',n,os,hP,hS,rfl⟩;obtain⟨cY,_,fF⟩:=hP;rw[mY]at cY;have e1:d'.extract 0 es.length=d':=by rw[<-cY];exact Array.extract_size
 have e2:d.extract 0 es.length=d:=by rw[<-mY];exact Array.extract_size
 rw[e1,e2]at fF
 have hdes:d.toList.map dt=es:=by
  apply List.ext_getElem
  ·simp[mY]
  ·intro i h1 h2;have:=(hd i h2).1;rw[getElem!_pos d i (by omega)]at this;simpa using this
 have tL:d'.toList.map dt=es':=by
  refine cF _ ?_ ?_
  ·have:=fF.map dt
   rwa[hdes]at this
  ·rw[dN0,fK0];intro i j hi hj zJ;have kI:i<d'.size:=by simpa using hi
   have fK:j<d'.size:=by simpa using hj
   have:=hS i j (cV0 _) zJ (by omega);rw[getElem!_pos d' j fK,getElem!_pos d' i kI]at this;simpa[ltOf]using this
 have dV:es'.length=es.length:=by rw[<-tL];simp[cY]
 obtain⟨q1,q2,q3,q4,q5,q6,q7⟩:=KX (et:=et) (arr:=arr) (k:=k) enc p3 n os d';refine⟨rfl,dV,⟨q4,q5,q6,fun _=>q7,q3,fun q hq hn=>q2 q hq (fun h=>hn (by simp[h]))⟩,_,q1,by simp[putCells],fun cur M2 sG=> ?_⟩;refine Hq _ _ _ _ fun i cs0 hi=> ?_
 have jU:i<es'.length:=(aB0.1 hi).1;have hid:i<d'.size:=by omega
 have hcs0:cs0=dt d'[i]! :=by
  rw[<-tL,bK0]at hi;rw[getElem!_pos d' i hid];simp[hid]at hi;exact hi.symm
 subst hcs0;refine⟨hdk _,?_⟩;have hv:=Bn (Wk n os d' cur M2 sG) _ _ (dP0 (tN _ (gC _))) (zK d'[i]!);have h0:=Iq _ _ [] [] hv (wW _);refine DB _ _ _ _ _ (fun p hp=> ?_) h0;have qI:p<k:=by rw[hdk]at hp;exact hp
 rw[bX0,Ae_ qZ hid qI (by rw[cY];exact jI)];simp
end
theorem YC {P:Program} {ρ:Ren} (L:SlLaysF0.n6 P ρ) {f g:FuncId} {et k bs:Nat} {cs:List DVal} {cf:List DVal->List DVal->Int} {es es':List (List DVal)} (hf:ρ.f 6=f) (zZ:Enters P f) (tE:tAgg P (ρ.t 24)=some true) (jH:tCells P (ρ.t 24)=some k)
  (pG:0<bs) (zR:AV cs=0) (tN:∀x∈es,AV x=0) (hg:Enters P g) (hcmp:∀x∈es,∀y∈es,@Ac LX P g (.agg x:: .agg y::cs) (.int .i64 (cf x y)))
  (hirr:∀x∈es,¬cf x x<0) (fD:∀x∈es,∀y∈es,∀z∈es,cf x y<0->cf y z<0->cf x z<0) (qX:∀x∈es,∀y∈es,∀z∈es,¬cf x y<0->¬cf y z<0->¬cf x z<0)
  (cF:∀l:List (List DVal),l.Perm es->l.Pairwise (fun x y=>¬cf y x<0)->l=es') :
  AS P (.func f) [.osl 0 0,.fn (.func g) [] cs] [⟨0,0,.row et k bs es⟩] (.tup []) [⟨0,0,.row et k bs es'⟩]:=by
 refine⟨by simp,zZ,fun M w loc vs S hr=> ?_⟩;refine⟨zZ,?_⟩;simp only[AL]at hr;obtain⟨v0,r0,vN,h0,v1,r1,rfl,h1,rfl⟩:=hr;simp only[rd]at h0 h1;obtain⟨us',cs',rfl,zF,sN⟩:=h1;simp only[AL]at zF;have hus':us'= #[]:=by cases us';simpa using zF
 subst hus';have fT:Aj [(⟨0,0,.row et k bs es⟩:Ent)] loc 0 0=some (loc 0):=rfl;have kA:=h0 _ fT;have vF:vs= #[v0,.func (.func g) #[] cs']:=by cases vs;simpa using vN
 subst vF;subst hf;have wO:Ad [(⟨0,0,.row et k bs es⟩:Ent)] loc=(loc 0).blks:=by simp[Ad]
 have dN:Ad [(⟨0,0,.row et k bs es'⟩:Ent)] loc=(loc 0).blks:=by simp[Ad]
 have jO:∀cur M h,rd cur M h (.tup []) (.tuple #[]):=fun _ _ _=>by simp only[rd];exact⟨#[],rfl,by simp[AL]⟩
 have hk:=S.ok ⟨0,0,.row et k bs es⟩ (by simp)
 by_cases qK:es=[]
 ·subst qK;have hes':es'=[]:=(cF [] (List.Perm.refl _) List.Pairwise.nil).symm;subst hes'
  obtain⟨a,cap,hh⟩:∃a cap,(loc 0).hdr= .slice a 0 cap:=by
   obtain⟨_,⟨_,_,h2⟩ | ⟨b,arr,cap,_,h2,_⟩⟩:=hk
   ·exact⟨_,_,h2⟩
   ·exact⟨_,_,h2⟩
  rw[hh]at kA;subst kA;refine(AnyF.slices_SortFunc_none { L with } a cap (.func (.func g) #[] cs') w).mono ?_;rintro e w' ⟨rfl,rfl⟩;exact⟨_,rfl,loc,S,Upd.refl _ _,fun b hb=> .inl hb,fun e he _=>Ba S.nd he,jO _ _ _⟩
 ·obtain⟨b,arr,cap,p1,p2,p3,p4,p5,p6,p7⟩:∃b arr cap,(loc 0).blks=[b]/\(loc 0).hdr= .slice (some ⟨b,0,none⟩) es.length cap/\w.heap[b]? =some (.cells arr et (0,0))/\es.length<=cap/\cap<=maxLen/\cap*k=arr.size/\Fz (Aj [(⟨0,0,.row et k bs es⟩:Ent)] loc) (Ad [(⟨0,0,.row et k bs es⟩:Ent)] loc++M) w.heap k es arr 0:=by
   obtain⟨_,⟨h,_⟩ | h⟩:=hk
   ·exact absurd h qK
   ·exact h
  have wC:=hk.1;rw[p2]at kA;subst kA;obtain⟨cu0,hcu0⟩:∃c,c=Aj [(⟨0,0,.row et k bs es⟩:Ent)] loc:=⟨_,rfl⟩;obtain⟨M1,hM1⟩:∃m,m=Ad [(⟨0,0,.row et k bs es⟩:Ent)] loc++M:=⟨_,rfl⟩;rw[<-hcu0,<-hM1]at p7 sN;have hbM:b∈M1:=by rw[hM1,wO,p1];simp
  have mL:∀q∈M1,q<w.heap.size:=by rw[hM1];exact S.lt
  have jI:es.length*k<=arr.size:=by rw[<-p6];exact aQ0 _ p4
  have kU:0<es.length:=List.length_pos_iff.2 qK
  have mR:∀i:Fin es.length,∃us:List Value,AL cu0 M1 w.heap es[i.1] us/\(∀u∈us,u.oneCell'=true)/\∀(q:Nat) (v:Value),us[q]? =some v->arr[i.1*k+q]? =some v:=by
   intro i;obtain⟨q1,q2⟩:=EW k es arr 0 i.1 es[i.1] p7 (aD0 i.2);obtain⟨us,g1,g2,g3⟩:=GY _ _ _ q2;refine⟨us,g2,fun u hu=> ?_,fun q v hq=> ?_⟩
   ·obtain⟨j,hj,rfl⟩:=bJ0 hu;exact(g3 j _ (aD0 hj)).2
   ·have:=(g3 q v hq).1;simpa using this
  haveI:Inhabited (Fin es.length):=⟨⟨0,kU⟩⟩
  have qV:es.length<4611686018427387904:=by
   have h1:es.length*1<=es.length*bs:=bY0 _ pG;have h2:es.length*bs<=150000000000000:=wC;omega
  have hd:∀i (hi:i<es.length),(Array.ofFn (fun i:Fin es.length=>i))[i]! =⟨i,hi⟩:=by
   intro i hi;rw[getElem!_pos _ i (by simpa using hi)];simp
  refine(KC_ (et:=et) (α:=Fin es.length) L (fun i=>es[i.1]) (fun i=>(mR i).choose) (Array.ofFn fun i=>i) tE jH zR tN (fun i=>cY0 _) (fun i=>(EW k es arr 0 i.1 es[i.1] p7 (aD0 i.2)).1) (fun i=>(mR i).choose_spec.1) (fun i=>(mR i).choose_spec.2.1) (by simp)
   (fun i hi=>by rw[hd i hi];exact⟨rfl,(mR ⟨i,hi⟩).choose_spec.2.2⟩) p3 jI hbM mL sN qV hg hcmp hirr fD qX cF).mono ?_
  rintro e w' ⟨rfl,dV,hu,arr',r1,r2,r3⟩;have sG:Ad [(⟨0,0,.row et k bs es'⟩:Ent)] loc++M=M1:=by rw[hM1,wO,dN]
  refine⟨_,rfl,loc,⟨by simp,by rw[dN,p1];simp,fun q hq=>S.ap q (by rw[wO];rwa[dN]at hq),fun q hq=> ?_,?_⟩,by rw[wO,p1];exact hu,fun q hq=> .inl (by rw[wO];rwa[dN]at hq),?_,jO _ _ _⟩
  ·rw[sG]at hq;exact cN0 (mL q hq) hu.size
  ·intro e he;simp only[aG0]at he;subst he;rw[sG];exact⟨by rw[dV];exact wC,.inr ⟨b,arr',cap,p1,by rw[dV];exact p2,r1,by omega,p5,by omega,r3 _ _ fun _ h=>h⟩⟩
  ·intro e he _;simp only[aG0]at he;subst he;exact fT
end Go.Dm
end
section
namespace Go.Dm
variable [DMode]
open Go.Shelf Go.Sort Go.Proofs Go.RowKit
def Ep (l:List ByteArray):List ByteArray:=((l.map fun s=>s.data.toList).mergeSort fun x y=>decide (x<=y)).map fun x=>⟨x.toArray⟩
theorem HV (l:List ByteArray):(Ep l).length=l.length:=by simp[Ep]
theorem YJ {α:Type} [Inhabited α] (enc:α->Value) {w:World} {b et:Nat} {arr:Array Value} (p3:w.heap[b]? =some (.cells arr et (0,0))) (m:Nat) (os:Array Obj) (dk:Array α) :
  (grow (putRow enc (Sort.ahead w m) b 0 dk) os).heap[b]? =some (.cells (putCells enc 0 dk arr) et (0,0))/\(∀q,q<w.heap.size->q≠b->(grow (putRow enc (Sort.ahead w m) b 0 dk) os).heap[q]? =w.heap[q]?)/\w.heap.size<=(grow (putRow enc (Sort.ahead w m) b 0 dk) os).heap.size /\
   (grow (putRow enc (Sort.ahead w m) b 0 dk) os).os=w.os/\(grow (putRow enc (Sort.ahead w m) b 0 dk) os).tape=w.tape/\(grow (putRow enc (Sort.ahead w m) b 0 dk) os).output=w.output/\w.drawn<=(grow (putRow enc (Sort.ahead w m) b 0 dk) os).drawn:=by
 have hblk:b<w.heap.size:=(aH0.1 p3).1;refine⟨?_,fun q hq hqb=> ?_,?_,rfl,rfl,rfl,Nat.le_add_right _ _⟩
 ·simp only[grow,putRow,mapBlock,Sort.ahead];rw[dV0 (by simpa using hblk),cO0];simp[p3,onCells]
 ·simp only[grow,putRow,mapBlock,Sort.ahead];rw[dV0 (by simpa using hq),cO0];rw[if_neg (fun h=>hqb h.symm)]
 ·simp[grow,putRow,mapBlock,Sort.ahead]
def HE (s:ByteArray):List DVal:=[.str s]
theorem eD {P:Program} {ρ:Ren} (L:SlLaysM.n6 P ρ) {f:FuncId} {et bs:Nat} (hf:ρ.f 6=f) (zZ:Enters P f) (pG:0<bs) (l:List ByteArray) :
  AS P (.func f) [.osl 0 0] [⟨0,0,.row et 1 bs (l.map HE)⟩] (.tup []) [⟨0,0,.row et 1 bs ((Ep l).map HE)⟩]:=by
 refine⟨by simp,zZ,fun M w loc vs S hr=> ?_⟩;refine⟨zZ,?_⟩;simp only[AL]at hr;obtain⟨v0,r0,vN,h0,rfl⟩:=hr;simp only[rd]at h0;have fT:∀l:List ByteArray,Aj [(⟨0,0,.row et 1 bs (l.map HE)⟩:Ent)] loc 0 0=some (loc 0):=fun _=>rfl
 have kA:=h0 _ (fT l);have vF:vs= #[v0]:=by cases vs;simpa using vN
 subst vF;subst hf;have wO:∀l:List ByteArray,Ad [(⟨0,0,.row et 1 bs (l.map HE)⟩:Ent)] loc=(loc 0).blks:=fun _=>by simp[Ad]
 have jO:∀cur M h,rd cur M h (.tup []) (.tuple #[]):=fun _ _ _=>by simp only[rd];exact⟨#[],rfl,by simp[AL]⟩
 have hk:=S.ok ⟨0,0,.row et 1 bs (l.map HE)⟩ (by simp)
 by_cases qK:l=[]
 ·subst qK
  obtain⟨a,cap,hh⟩:∃a cap,(loc 0).hdr= .slice a 0 cap:=by
   obtain⟨_,⟨_,_,h2⟩ | ⟨b,arr,cap,_,h2,_⟩⟩:=hk
   ·exact⟨_,_,h2⟩
   ·exact⟨_,_,h2⟩
  rw[hh]at kA;subst kA;refine(AnyM.slices_Sort_string_none L a cap w).mono ?_;rintro e w' ⟨rfl,rfl⟩;have e0:Ep []=[]:=by simp[Ep]
  rw[e0];exact⟨_,rfl,loc,S,Upd.refl _ _,fun b hb=> .inl hb,fun e he _=>Ba S.nd he,jO _ _ _⟩
 ·obtain⟨b,arr,cap,p1,p2,p3,p4,p5,p6,p7⟩:∃b arr cap,(loc 0).blks=[b]/\(loc 0).hdr= .slice (some ⟨b,0,none⟩) (l.map HE).length cap/\w.heap[b]? =some (.cells arr et (0,0))/\(l.map HE).length<=cap/\cap<=maxLen/\cap*1=arr.size/\Fz (Aj [(⟨0,0,.row et 1 bs (l.map HE)⟩:Ent)] loc) (Ad [(⟨0,0,.row et 1 bs (l.map HE)⟩:Ent)] loc++M) w.heap 1 (l.map HE) arr 0:=by
   obtain⟨_,⟨h,_⟩ | h⟩:=hk
   ·exact absurd (List.map_eq_nil_iff.1 h) qK
   ·exact h
  have wC:(l.map HE).length*bs<=150000000000000:=hk.1;rw[p2]at kA;subst kA;rw[aJ0]at p2 p4 wC
  have cL:∀s∈l,s.size<=maxLen/\True:=by
   intro s hs;obtain⟨i,hi,rfl⟩:=bJ0 hs;obtain⟨q1,q2⟩:=EW 1 _ arr 0 i [.str l[i]] p7 (by simp[HE,hi]);obtain⟨us,g1,g2,g3⟩:=GY _ _ _ q2;simp only[AL,rd]at g2;obtain⟨v,_,_,⟨_,h⟩,_⟩:=g2;exact⟨h,trivial⟩
  have zQ:∀i (hi:i<l.length),arr[i]? =some (.string l[i]):=by
   intro i hi;obtain⟨q1,q2⟩:=EW 1 _ arr 0 i [.str l[i]] p7 (by simp[HE,hi]);obtain⟨us,g1,g2,g3⟩:=GY _ _ _ q2;simp only[AL,rd]at g2;obtain⟨v,r,rfl,⟨rfl,_⟩,_⟩:=g2;have:=(g3 0 _ rfl).1;simpa using this
  obtain⟨ss,jX⟩:∃ss,ss=l.map fun s=>s.data.toList:=⟨_,rfl⟩
  have yK:ss.length=l.length:=by rw[jX,aJ0]
  have hH:Holds encStr w b 0 ss.toArray:=by
   intro j hj;simp only[dM0,yK]at hj;refine⟨?_,Lib.frozen_of_heap p3 _⟩;rw[bX0,Lib.cell_of_heap p3,zQ j hj];rw[getElem!_pos _ j (by simpa[yK]using hj)];simp[jX,encStr]
  have qV:ss.length<4611686018427387904:=by
   rw[yK];have h1:l.length*1<=l.length*bs:=bY0 _ pG;omega
  have gL:b<w.heap.size:=(aH0.1 p3).1;have key:=AnyM.slices_Sort_string L b 0 cap ss w hH gL qV;rw[yK]at key;simp only[aJ0];refine key.mono ?_;rintro e w' ⟨rfl,n,os,rfl⟩;obtain⟨q1,q2,q3,q4,q5,q6,q7⟩:=YJ encStr (et:=et) (arr:=arr) p3 n os (ss.mergeSort fun x y=>decide (x<=y)).toArray;have hse:Ep l=(ss.mergeSort fun x y=>decide (x<=y)).map fun x=>⟨x.toArray⟩:=by rw[jX];rfl
  have yC:(ss.mergeSort fun x y=>decide (x<=y)).length=l.length:=by simp[yK]
  refine⟨_,rfl,loc,⟨by simp,by rw[wO,p1];simp,fun q hq=>S.ap q (by rw[wO];rwa[wO]at hq),fun q hq=> ?_,?_⟩,?_,fun q hq=> .inl (by rw[wO];rwa[wO]at hq),?_,jO _ _ _⟩
  ·refine cN0 (S.lt q ?_) q3;rw[wO]at hq |-;exact hq
  ·intro e he;simp only[aG0]at he;subst he;refine⟨by simpa[HV]using wC,.inr ⟨b,_,cap,p1,by simpa[HV]using p2,q1,by simpa[HV]using p4,p5,by simpa[putCells]using p6,?_⟩⟩;refine Hq _ _ _ _ fun i cs0 hi=> ?_
   have jU:i<l.length:=by
    have:=(aB0.1 hi).1;simpa[HV]using this
   rw[hse]at hi;have him:i<(ss.mergeSort fun x y=>decide (x<=y)).length:=by omega
   simp only[cF0,bK0,aD0 him,dJ0,Function.comp_apply,aA0]at hi;subst hi;refine⟨rfl,?_⟩;have qO:(ss.mergeSort fun x y=>decide (x<=y))[i]∈ss:=(eC0 ss _).mem_iff.1 (cY0 him)
   have qM:(⟨((ss.mergeSort fun x y=>decide (x<=y))[i]).toArray⟩:ByteArray).size<=maxLen:=by
    generalize (ss.mergeSort fun x y=>decide (x<=y))[i]=y at qO |-
    rw[jX]at qO;obtain⟨s,hs,hse⟩:=aU0.1 qO;have:=(cL s hs).1;rw[<-hse];exact this
   have h0:=Iq (cur:=Aj [(⟨0,0,.row et 1 bs ((Ep l).map HE)⟩:Ent)] loc) (M:=Ad [(⟨0,0,.row et 1 bs ((Ep l).map HE)⟩:Ent)] loc++M) (H:=(grow (putRow encStr (Sort.ahead w n) b 0 (ss.mergeSort fun x y=>decide (x<=y)).toArray) os).heap) [.str ⟨((ss.mergeSort fun x y=>decide (x<=y))[i]).toArray⟩] [.string ⟨((ss.mergeSort fun x y=>decide (x<=y))[i]).toArray⟩] [] [] (by simp only[AL,rd];exact⟨_,_,rfl,⟨rfl,qM⟩,rfl⟩) (by simp[Value.oneCell'])
   refine DB _ _ _ _ _ (fun p hp=> ?_) h0;have vQ:p=0:=by simp[HE]at hp;omega
   subst vQ;have hia:i<arr.size:=by omega
   simp only[putCells,Array.getElem?_mapIdx];rw[show 0+i*1+0=i by omega,cJ0 hia];simp[him,encStr,yC,jU,yK]
  ·rw[wO,p1];exact⟨q4,q5,q6,fun _=>q7,q3,fun q hq hn=>q2 q hq (fun h=>hn (by simp[h]))⟩
  ·intro e he _;simp only[aG0]at he;subst he;rfl
theorem MV : ∀a b:List UInt8,Lib.compareBytes a b= -1\/Lib.compareBytes a b=0\/Lib.compareBytes a b=1
 | [],[]=>by simp[Lib.compareBytes]
 | [],_::_=>by simp[Lib.compareBytes]
 | _::_,[]=>by simp[Lib.compareBytes]
 | a::l,b::r=>by
  unfold Lib.compareBytes
  split
  ·exact .inl rfl
  ·split
   ·exact .inr (.inr rfl)
   ·exact MV l r
theorem xA {P:Program} {ρ:Ren} (L:Lays.n106 P ρ) {f:FuncId} (hf:ρ.f 106=f) (zZ:Enters P f) (a b:ByteArray):Ac P f [.str a,.str b] (.int .i64 (Lib.compareBytes a.data.toList b.data.toList)):=by
 refine⟨zZ,by simp[mx],fun cur M w vs _ hr=> ?_⟩;simp only[AL,rd]at hr;obtain⟨v0,r0,vN,⟨rfl,_⟩,v1,r1,rfl,⟨rfl,_⟩,rfl⟩:=hr;have vF:vs= #[.string a,.string b]:=by cases vs;simpa using vN
 subst vF;subst hf;refine(Any.strings_Compare L a b w).mono ?_;rintro e w' ⟨rfl,rfl⟩;refine⟨_,rfl,Upd.refl _ _,?_⟩;simp only[rd];refine⟨trivial,?_⟩;have:=MV a.data.toList b.data.toList;simp only[MF];omega
end Go.Dm
end
section
namespace Go.Proofs.Wy
open Go Go.Dm Go.RowKit Go.Proofs Tryz
variable [DMode]
set_option maxRecDepth 100000
theorem LM (b n:Nat) (w:World) (h0:w.cell? ⟨b,0,none⟩=some (.pointer none)) (hsh:w.shape? b=some (338,n)) (hn:0<n) (hl:liesAt prog Tryz.prog.depth 338 (n/Tryz.prog.cellsOf 338) 0 338 1=true) (hfz:w.frozen? ⟨b,0,none⟩=false) :
  Calls prog 336 #[.pointer (some ⟨b,0,none⟩)] w fun e w'=>e= .returned (.tuple #[])/\w'=w.setCell ⟨b,0,none⟩ (.pointer (some ⟨b,0,none⟩)):=by
 obtain⟨j,hj,mK⟩:∃j,Tryz.prog.info? 338=some j/\j.size=2:=bH0.1 (show (Tryz.prog.info? 338).map (·.size)=some 2 by kernel_rfl)
 go_enter func336,ntmps336
 go_wp2
 rw[Lib.run_to_unsafe w ⟨b,0,none⟩ underlying335 underlying376 hj (by rw[mK];decide) hsh hn];simp only[Result.andThen];rw[Oper.upon_value]
 go_wp2
 rw[run_callFunc_extern func352 (by kernel_rfl) (by kernel_rfl) (by kernel_rfl) (e:=Extern.AbiNoEscape.same) (by kernel_rfl)];rw[Lib.run_noEscape];simp only[Result.andThen];rw[Oper.upon_value]
 go_wp2
 rw[Lib.run_from_unsafe w ⟨b,0,none⟩ underlying376 underlying335 hj hsh hl];simp only[Result.andThen];rw[Oper.upon_value]
 go_wp2
 go_end0
 exact⟨rfl,rfl⟩
theorem Wx (b:Nat) (w:World) (h0:w.cell? ⟨b,0,none⟩=some (.pointer (some ⟨b,0,none⟩))) :
  Calls prog 336 #[.pointer (some ⟨b,0,none⟩)] w fun e w'=>e= .returned (.tuple #[])/\w'=w:=by
 obtain⟨j,hj,mK⟩:∃j,Tryz.prog.info? 338=some j/\j.size=2:=bH0.1 (show (Tryz.prog.info? 338).map (·.size)=some 2 by kernel_rfl)
 go_enter func336,ntmps336
 go_wp2
 rw[Lib.run_neq_ptr_same w _ underlying335 hj]
 go_wp2
 go_end0
 exact⟨rfl,rfl⟩
attribute [local irreducible] DW Bs Bv
theorem Ts : AS prog (.func 336) [.rx 0 0 2 0 0] [⟨0,0,.row 338 2 32 [[.nilp,.nilsl]]⟩] (.tup []) [⟨0,0,.row 338 2 32 [[.rx 0 0 2 0 0,.nilsl]]⟩] :=
 Tm (by show ¬_;exact of_decide_eq_true (by kernel_rfl)) (by kernel_rfl) call336 32 LM
theorem WP (x:ByteArray):AS prog (.func 336) [.rx 0 0 2 0 0] [⟨0,0,.row 338 2 32 [[.rx 0 0 2 0 0,.osl 1 0]]⟩,⟨1,0,.row 5 1 1 (Bh x)⟩] (.tup [])
  [⟨0,0,.row 338 2 32 [[.rx 0 0 2 0 0,.osl 1 0]]⟩,⟨1,0,.row 5 1 1 (Bh x)⟩] :=
 Tl call336 32 (.osl 1 0) _ (by simp) Wx
def QH : Ann:=⟨[7],[]⟩
theorem DU (x:ByteArray) (hx:x.size<=150000000000000) :
  AS prog (.func 305) [.rx 0 0 2 0 0,.str x] [⟨0,0,.row 338 2 32 [[.nilp,.nilsl]]⟩] (.tup [.int .i64 x.size,.nilifc])
   [⟨0,0,.row 338 2 32 [[.rx 0 0 2 0 0,.osl 1 1]]⟩,⟨1,1,.row 5 1 1 (Bh x)⟩]:=by
 refine Bi [] [(0,0,0),(14,1,1)] QH func305 call305 ntmps305 mxd (Ap @QH.eq_1 results305) rfl (fun qJ B qX qQ=> ?_);simp only[Ak]
 (repeat (first | refine AI fun K hK=> ?_ | (refine BR QH mxd (by kernel_rfl) ?_;simp[QH,qX,hx];try simp (disch:=omega) only[Ao]) | refine Aw ?_ | (refine Bb ?_ ?_ ?_;(· (simp[qX,hx];done));(try (rotate_left;(· (intro hc;(try simp[qX,hx]at hc);done))))) | (refine AK ?_;simp[results305,qX,hx]) | ((first | refine AD ?_ | refine AC ?_);simp[qX,hx]) | (intro hc;(try simp[qX,hx]at hc);(try (exfalso;omega))) | (refine AP [(0,0)] [] (Ts) ?_ ?_;(· (simp[qX,hx];done));(intro _;try simp[qX,hx])) | (refine⟨?_,?_⟩; · omega) | omega | apply_assumption -exfalso -symm | (exfalso;omega)))
def Lu : Ann:=⟨[7],[]⟩
theorem Cb (y x:ByteArray) (hx:y.size+x.size<=150000000000000) :
  AS prog (.func 305) [.rx 0 0 2 0 0,.str x] [⟨0,0,.row 338 2 32 [[.rx 0 0 2 0 0,.osl 1 0]]⟩,⟨1,0,.row 5 1 1 (Bh y)⟩] (.tup [.int .i64 x.size,.nilifc])
   [⟨0,0,.row 338 2 32 [[.rx 0 0 2 0 0,.osl 1 1]]⟩,⟨1,1,.row 5 1 1 (Bh (y++x))⟩]:=by
 refine Bi [] [(0,0,0),(1,1,1)] Lu func305 call305 ntmps305 mxd (Ap @Lu.eq_1 results305) rfl (fun qJ B qX qQ=> ?_);simp only[Ak];rw[Hd_]
 (repeat (first | refine AI fun K hK=> ?_ | (refine BR Lu mxd (by kernel_rfl) ?_;simp[Lu,qX,hx,Bo];try simp (disch:=omega) only[Ao]) | refine Aw ?_ | (refine Bb ?_ ?_ ?_;(· (simp[qX,hx,Bo];done));(try (rotate_left;(· (intro hc;(try simp[qX,hx,Bo]at hc);done))))) | (refine AK ?_;simp[results305,qX,hx,Bo]) | ((first | refine AD ?_ | refine AC ?_);simp[qX,hx,Bo]) | (intro hc;(try simp[qX,hx,Bo]at hc);(try (exfalso;omega))) | (refine AP [(0,0),(1,1)] [] (WP y) ?_ ?_;(· (simp[qX,hx,Bo];done));(intro _;try simp[qX,hx,Bo])) | (refine⟨?_,?_⟩; · omega) | omega | apply_assumption -exfalso -symm | (exfalso;omega)))
theorem Xa : Builder.Extra prog Tryz.bldString_ren where
 sizeBuilder:=by kernel_rfl
 liesBuilder:=by kernel_rfl
 t5:=underlying5
 a5:=Tryz.isAgg5
 z5:=Tryz.sizeOf5
 v5:=Tryz.zeroValue5
 infoByte:=by kernel_rfl
 cellsByte:=by kernel_rfl
 sizeByte:=by kernel_rfl
 neB5:=by decide
theorem Lz : AS prog (.func 306) [.rx 0 0 2 0 0] [⟨0,0,.row 338 2 32 [[.nilp,.nilsl]]⟩] (.str ⟨#[]⟩) [] :=
 Ob Tryz.bldString Xa call306 32
theorem DV (x:ByteArray) (hx:x.size≠0):AS prog (.func 306) [.rx 0 0 2 0 0] [⟨0,0,.row 338 2 32 [[.rx 0 0 2 0 0,.osl 1 0]]⟩,⟨1,0,.row 5 1 1 (Bh x)⟩] (.str x) [] :=
 Oa Tryz.bldString Xa call306 32 x hx
theorem Mc (l:List ByteArray):AS prog (.func 258) [.osl 0 0] [⟨0,0,.row 9 1 16 (l.map AG)⟩] (.tup []) [⟨0,0,.row 9 1 16 ((Ep l).map AG)⟩] :=
 eD Tryz.sortStr (by rfl) call258 (by decide) l
theorem SU : ∀a b:List UInt8,Lib.compareBytes a b=if Op.bytesLess a b then -1 else if Op.bytesLess b a then 1 else 0
 | [],[]=>by simp[Lib.compareBytes,Op.bytesLess]
 | [],_::_=>by simp[Lib.compareBytes,Op.bytesLess]
 | _::_,[]=>by simp[Lib.compareBytes,Op.bytesLess]
 | x::a,y::b=>by
  unfold Lib.compareBytes;simp only[Op.bytesLess,dI0,decide_eq_true_eq,aM0,beq_iff_eq]
  by_cases h1:x<y
  ·simp[h1]
  ·by_cases h2:y<x
   ·have h3:¬x=y:=fun h=>by subst h;exact h1 h2
    simp[h1,h2,h3]
   ·have h3:x=y:=UInt8.le_antisymm (UInt8.not_lt.1 h2) (UInt8.not_lt.1 h1);subst h3;simp only[h1,if_false,false_or,true_and];exact SU a b
theorem HS (a b:ByteArray):Ac prog 243 [.str a,.str b] (.int .i64 (HK a b)):=by
 have:=xA Tryz.strCmp (by rfl) call243 a b;rw[SU]at this;exact this
end Go.Proofs.Wy
end
section
namespace Go.Proofs.Wy
open Go Go.Dm Go.RowKit Go.Proofs Tryz
variable [DMode]
set_option maxRecDepth 1000000
def uE (w w':World) (b:Nat) (rest:List Value):Prop:=∃(g:Nat) (cs:Array Value),Upd [b] w w'/\w.heap.size<=g/\cs.size<=maxLen /\
 w'.heap[b]? =some (.cells (.pointer (some ⟨b,0,none⟩):: .slice (some ⟨g,0,none⟩) 0 cs.size::rest).toArray 338 (0,0))/\w'.heap[g]? =some (.cells cs 5 (0,0))
theorem grown_of {b:Nat} {w:World} {cs:Array Value} {rest:List Value} (mO:w.heap[b]? =some (.cells (.pointer (some ⟨b,0,none⟩):: .slice none 0 0::rest).toArray 338 (0,0))) (hm:cs.size<=maxLen) :
  uE w ((w.setCell ⟨b,1,none⟩ (.slice (some ⟨w.heap.size,0,none⟩) 0 cs.size)).alloc (.cells cs 5)).drew.drew.drew b rest:=by
 have qV:b<w.heap.size:=(aH0.1 mO).1;refine⟨w.heap.size,cs,⟨rfl,rfl,rfl,?_,?_,?_⟩,Nat.le_refl _,hm,?_,?_⟩
 ·simp[World.drew,World.alloc,World.setCell];omega
 ·simp[World.drew,World.alloc,World.setCell]
 ·intro q hq hn;simp only[aG0]at hn;simp only[World.drew,World.alloc,World.setCell];rw[bZ0,if_neg (by simp;omega),cO0,if_neg (fun h=>hn h.symm)]
 ·simp only[World.drew,World.alloc,World.setCell];rw[bZ0,if_neg (by simp;omega),cO0,if_pos rfl,mO];simp
 ·simp only[World.drew,World.alloc,World.setCell];rw[bZ0,if_pos (by simp)]
theorem GC_ (b n:Nat) (rest:List Value) (w:World) (mO:w.heap[b]? =some (.cells (.pointer (some ⟨b,0,none⟩):: .slice none 0 0::rest).toArray 338 (0,0))) (hn:n<=140737488355328) :
  Calls prog 356 #[.pointer (some ⟨b,0,none⟩),.int .i64 n] w fun e w'=>e= .returned (.tuple #[])/\uE w w' b rest:=by
 have mixed:=mxd;obtain⟨cs,qR,vS,cL⟩:=Lib.run_makeNoZero (P:=prog) w.drew #[3] 336 5 underlying336 n (by omega)
 have hw:IntKind.i64.wrap (IntKind.i64.wrap 0+(n:Int))=n:=by
  rw[Ao (n:=0) (by omega) (by omega),wq];omega
 have qV:b<w.heap.size:=(aH0.1 mO).1
 have bL:(callFunc 358 #[.int .i64 (IntKind.i64.wrap (IntKind.i64.wrap 0+(n:Int)))]).run prog w.drew= .ok (.value (.slice (some ⟨w.drew.heap.size,0,none⟩) n cs.size)) (w.drew.drew.drew.alloc (.cells cs 5)):=by
  rw[hw,run_callFunc_extern func358 (by kernel_rfl) (by kernel_rfl) (by kernel_rfl) (e:=Extern.BytealgMakeNoZero.makeNoZero #[3] #[336]) (by kernel_rfl),qR];rfl
 have c1:w.drew.cell? ⟨b,1,none⟩=some (.slice none 0 0):=by
  have h1:w.drew.heap[b]? =_:=mO;rw[Lib.cell_of_heap h1];rfl
 have h2:(w.alloc (.cells cs 5)).heap[b]? =some (.cells (.pointer (some ⟨b,0,none⟩):: .slice none 0 0::rest).toArray 338 (0,0)):=(Lib.alloc_old w _ b qV).trans mO;have c2:(w.alloc (.cells cs 5)).cell? ⟨b,1,none⟩=some (.slice none 0 0):=by rw[Lib.cell_of_heap h2];rfl
 have f2:(w.alloc (.cells cs 5)).frozen? ⟨b,1,none⟩=false:=Lib.frozen_of_heap h2 1
 have hcopy:∀W:World,(Builtin.copy_ #[336,336] 3 #[.slice (some ⟨w.heap.size,0,none⟩) 0 cs.size,.slice none 0 0]).run prog W= .ok (goInt 0) W :=
  fun W=>run_copy_none W 336 336 3 5 _ _ 0 cs.size 0 0 underlying336 (by kernel_rfl) rfl
 clear hw
 go_enter func356,ntmps356
 go_wp2
 go_region_o
 all_goals (go_wp2;go_end0;exact⟨rfl,grown_of mO (cL (by unfold maxLen;omega))⟩)
theorem Hy_ (b n:Nat) (rest:List Value) (w:World) (mO:w.heap[b]? =some (.cells (.pointer none:: .slice none 0 0::rest).toArray 338 (0,0))) (zP:1<=n) (hn:n<=140737488355328) :
  Calls prog 348 #[.pointer (some ⟨b,0,none⟩),.int .i64 n] w fun e w'=>e= .returned (.tuple #[])/\uE w w' b rest:=by
 have mixed:=mxd;have qV:b<w.heap.size:=(aH0.1 mO).1
 have hbk1:(w.setCell ⟨b,0,none⟩ (.pointer (some ⟨b,0,none⟩))).heap[b]? =some (.cells (.pointer (some ⟨b,0,none⟩):: .slice none 0 0::rest).toArray 338 (0,0)):=by
  simp[World.setCell,cO0,mO]
 have c1:(w.setCell ⟨b,0,none⟩ (.pointer (some ⟨b,0,none⟩))).drew.cell? ⟨b,1,none⟩=some (.slice none 0 0):=by
  have h1:(w.setCell ⟨b,0,none⟩ (.pointer (some ⟨b,0,none⟩))).drew.heap[b]? =_:=hbk1;rw[Lib.cell_of_heap h1];rfl
 have hU:Upd [b] w (w.setCell ⟨b,0,none⟩ (.pointer (some ⟨b,0,none⟩))).drew:=⟨rfl,rfl,rfl,fun _=>Nat.le_succ _,by simp[World.setCell,World.drew],fun q hq qK=>by
  simp only[aG0]at qK;simp only[World.setCell,World.drew]
  rw[cO0,if_neg (fun h=>qK h.symm)]⟩
 have hsh:w.shape? b=some (338,rest.length+2):=by simp[World.shape?,mO]
 have kN:Tryz.prog.cellsOf 338=2:=by kernel_rfl
 have hli:=YY (P:=prog) (T:=338) (n:=(rest.length+2)/Tryz.prog.cellsOf 338) (by show ¬_;exact of_decide_eq_true (by kernel_rfl)) (by rw[kN];decide) (by rw[kN];omega);have wU:=LM b (rest.length+2) w (by rw[Lib.cell_of_heap mO];rfl) hsh (by omega) hli (Lib.frozen_of_heap mO 0);have hg:=GC_ b n rest (w.setCell ⟨b,0,none⟩ (.pointer (some ⟨b,0,none⟩))).drew hbk1 hn
 go_enter func348,ntmps348
 go_wp2_with (refine wU.mono ?_;rintro e w' ⟨rfl,rfl⟩)
 go_region_o
 all_goals go_wp2_with (refine hg.mono ?_;rintro e w' ⟨rfl,h1⟩)
 all_goals (go_end0;obtain⟨g,cs,u,h2,h3,h4,h5⟩:=h1;exact⟨rfl,g,cs,hU.trans u (fun x hx=> .inl hx),by simpa[World.setCell,World.drew]using h2,h3,h4,h5⟩)
end Go.Proofs.Wy
end
section
namespace Go.Proofs.Wy
open Go Go.Dm Go.RowKit Go.Proofs Tryz
variable [DMode]
set_option maxRecDepth 100000
theorem MJ (n:Nat) (zP:1<=n) (hn:n<=140737488355328):AS prog (.func 348) [.rx 0 0 2 0 0,.int .i64 n] [⟨0,0,.row 338 2 32 [[.nilp,.nilsl]]⟩] (.tup [])
  [⟨0,0,.row 338 2 32 [[.rx 0 0 2 0 0,.osl 1 1]]⟩,⟨1,1,.row 5 1 1 []⟩]:=by
 refine⟨by simp,call348,fun M w loc vs S vN=> ?_⟩;have hk:=S.ok _ (aG0.2 rfl);obtain⟨wC,hk⟩:=hk
 rcases hk with ⟨h,_⟩ | ⟨b,arr,cap,h1,h2,h3,h4,h5,h6,h7⟩
 ·simp at h
 ·obtain⟨v0,v1,rest,rfl,g0,g1⟩:=Ie h7;simp only[rd]at g0 g1;subst g0;subst g1;have qB:Aj [(⟨0,0,.row 338 2 32 [[.nilp,.nilsl]]⟩:Ent)] loc 0 0=some (loc 0):=by simp[Aj,Ax]
  simp only[AL,rd]at vN;obtain⟨pv,r,vN,hp,v2,r2,rfl,⟨rfl,_⟩,rfl⟩:=vN;obtain⟨b',qG,rfl⟩:=hp _ qB;simp only at h1 h2;rw[h1]at qG;simp only[bL0,and_true]at qG;subst qG;have vF:vs= #[.pointer (some ⟨b,0,none⟩),.int .i64 n]:=by apply Array.ext';simpa using vN
  subst vF;refine⟨call348,(Hy_ b n rest w h3 zP hn).mono ?_⟩;rintro e w' ⟨rfl,g,cs,hu,hg,hm,hb,hgc⟩;have hgl:g<w'.heap.size:=(aH0.1 hgc).1;have gL:b<w.heap.size:=(aH0.1 h3).1
  let L1:Dm.Loc:=⟨[g],.slice (some ⟨g,0,none⟩) 0 cs.size⟩
  let loc':Nat->Dm.Loc:=fun i=>if i=1 then L1 else loc i
  have e0:loc' 0=loc 0:=rfl;have e1:loc' 1=L1:=rfl
  let own':List Ent:=[⟨0,0,.row 338 2 32 [[.rx 0 0 2 0 0,.osl 1 1]]⟩,⟨1,1,.row 5 1 1 []⟩]
  have wO:Ad own' loc'=[b,g]:=by simp[own',Ad,e0,e1,h1,L1]
  have fS:Ad [(⟨0,0,.row 338 2 32 [[.nilp,.nilsl]]⟩:Ent)] loc=[b]:=by simp[Ad,h1]
  have yG:Aj own' loc' 0 0=some (loc 0):=by simp[own',Aj,Ax,e0]
  have hc1:Aj own' loc' 1 1=some L1:=by simp[own',Aj,Ax,e1]
  refine⟨_,rfl,loc',⟨by simp,?_,?_,?_,?_⟩,?_,?_,?_,by simp[rd,AL]⟩
  ·show (Ad own' loc').Nodup
   rw[wO];simp;omega
  ·show ∀q∈Ad own' loc',q∉M
   rw[wO];intro q hq
   rcases aL0.1 hq with rfl | hq
   ·exact S.ap q (by rw[fS];simp)
   ·simp only[aG0]at hq;subst hq;intro hM;have:=S.lt q (aV0 _ hM);omega
  ·show ∀q∈Ad own' loc'++M,q<w'.heap.size
   rw[wO];intro q hq
   rcases aI0.1 hq with hq | hq
   ·rcases aL0.1 hq with rfl | hq
    ·exact cN0 gL hu.size
    ·simp only[aG0]at hq;subst hq;exact hgl
   ·exact cN0 (S.lt q (aV0 _ hq)) hu.size
  ·intro e he
   rcases aL0.1 he with rfl | he
   ·refine⟨wC,.inr ⟨b,_,cap,h1,h2,hb,h4,h5,by simpa using h6,?_⟩⟩;refine oY ?_ ?_ rfl rfl
    ·simp only[rd];intro l hl;have wD:Aj own' loc' 0 0=some l:=hl;rw[yG]at wD;simp only[aA0]at wD;subst wD;exact⟨b,h1,by simp⟩
    ·simp only[rd];intro l hl;have wD:Aj own' loc' 1 1=some l:=hl;rw[hc1]at wD;simp only[aA0]at wD;subst wD;rfl
   ·simp only[aG0]at he;subst he;exact⟨by simp,.inr ⟨g,cs,cs.size,rfl,rfl,hgc,by simp,hm,by simp,by simp[Fz]⟩⟩
  ·rw[fS];exact hu
  ·show ∀q∈Ad own' loc',_
   rw[wO,fS];intro q hq
   rcases aL0.1 hq with rfl | hq
   ·exact .inl (by simp)
   ·simp only[aG0]at hq;subst hq;exact .inr hg
  ·intro e he hr
   rcases aL0.1 he with rfl | he
   ·rw[qB];rfl
   ·simp only[aG0]at he;subst he;simp at hr
end Go.Proofs.Wy
end
section
namespace Go.Proofs.Wy
open Go Go.Dm Go.RowKit Go.Proofs Tryz
variable [DMode]
attribute [local irreducible] DW Bs Bv
set_option maxRecDepth 100000
def Es (sep:ByteArray) (T y:ByteArray):ByteArray:=T++sep++y
def HB : List ByteArray->ByteArray->ByteArray
 | [],_=>⟨#[]⟩
 | x::r,sep=>r.foldl (Es sep) x
theorem OS (sep T y:ByteArray):(Es sep T y).size=T.size+sep.size+y.size:=by simp[Es,aO0]
theorem IE (sep:ByteArray) (hs:sep.size<=3):∀(r:List ByteArray) (x:ByteArray),(∀y∈r,y.size<=67108864)->(r.foldl (Es sep) x).size<=x.size+67108867*r.length/\x.size<=(r.foldl (Es sep) x).size
 | [],x,_=>by simp
 | y::r,x,h=>by
  obtain⟨h1,h2⟩:=IE sep hs r (Es sep x y) fun z hz=>h z (aE0 _ hz)
  have h3:=h y aF0;rw[OS]at h1 h2;rw[cM0,List.length_cons];omega
theorem Wa {β α:Type} {f:β->α->β} {b:β} {l:List α} {k:Nat} {x:α} (hx:l[k]? =some x):(l.take (k+1)).foldl f b=f ((l.take k).foldl f b) x:=by
 obtain⟨h,rfl⟩:=aB0.1 hx;rw[bR0 h,cH0];rfl
theorem Pq (x:ByteArray):(⟨#[]⟩:ByteArray)++x=x:=by
 apply Ic
 simp[eZ0]
theorem PK_ : Bh ⟨#[]⟩=[]:=rfl
def KF : Ann:=⟨[57,61,70,72,74],[⟨18,[8],[],[]⟩]⟩
theorem LA_ (xs:List ByteArray) (sep:ByteArray) (hs:sep.size<=3) (hl:xs.length<=1572864) (hx:∀x∈xs,1<=x.size/\x.size<=67108864):Ac prog 322 [.sl 1 16 (xs.map AG),.str sep] (.str (HB xs sep)):=by
 refine Ab [] KF func322 call322 ntmps322 mxd (Ap @KF.eq_1 results322) rfl (fun qJ B qX qQ=> ?_);clear qJ;simp only[Ak];have Bj:(⟨#[]⟩:ByteArray).size=0:=rfl
 match xs,hl,hx with
 | [],hl,hx =>
  exact Al Aa Aa (BC @Bj @HB.eq_1 @HB.eq_2)
 | [x],hl,hx =>
  exact Al Aa Aa (CG @Bj @HB.eq_1 @HB.eq_2 @AG.eq_1)
 | x0::x1::r,hl,hx =>
  obtain⟨xs,mG⟩:∃xs,xs=x0::x1::r:=⟨_,rfl⟩;have hJ:HB (x0::x1::r) sep=(xs.drop 1).foldl (Es sep) x0:=by rw[mG];rfl
  have h0:xs[0]? =some x0:=by rw[mG];rfl
  have h2:2<=xs.length:=by rw[mG];simp
  obtain⟨J,hJJ⟩:∃J,J=HB (x0::x1::r) sep:=⟨_,rfl⟩;rw[<-hJJ];rw[<-mG]at hl hx |-;rw[<-hJJ]at hJ;clear hJJ mG;have wI:0<xs.length:=by omega
  have zI:xs[0]'wI=x0:=(aB0.1 h0).2;have c0:¬(xs.length:Int)=0:=by omega
  have c1:¬(xs.length:Int)=1:=by omega
  have c0b:((xs.length:Int)==0)=false:=by simpa using c0
  have c1b:((xs.length:Int)==1)=false:=by simpa using c1
  have w1:IntKind.i64.wrap ((xs.length:Int)-1)=(xs.length:Int)-1:=wq
  obtain⟨m0,gU,dQ,qD⟩:∃m0:Int,0<=m0/\m0<=4718592/\(if 0<sep.size then m0=(sep.size:Int)*((xs.length:Int)-1)else m0=0):=by
   by_cases h:0<sep.size
   ·refine⟨(sep.size:Int)*((xs.length:Int)-1),?_,?_,by rw[if_pos h]⟩
    ·exact Int.mul_nonneg (by omega) (by omega)
    ·have:(sep.size:Int)*((xs.length:Int)-1)<=3*1572864:=Int.mul_le_mul (by omega) (by omega) (by omega) (by omega);omega
   ·exact⟨0,by omega,by omega,by rw[if_neg h]⟩
  have hys:(xs.drop 1).length=xs.length-1:=by rw[cD0]
  have cC:∀y∈xs.drop 1,y.size<=67108864:=fun y hy=>(hx y (List.mem_of_mem_drop hy)).2
  have t2:List.take (xs.length-1) (xs.map AG).tail=(xs.drop 1).map AG:=by rw[<-List.drop_one,<-List.map_drop];exact cL0 (by simp)
  have hx0:=hx x0 (by rw[<-zI];exact cY0 wI);have wF:=Cb ⟨#[]⟩ x0 (by rw[Bj];omega);rw[Pq,PK_]at wF;obtain⟨ys,hysd⟩:∃ys,ys=xs.drop 1:=⟨_,rfl⟩;rw[<-hysd]at hJ hys cC t2;clear hysd;have yT:∀n:Nat,(n:Int)<=9223372036854775807->IntKind.i64.wrap (n:Int)=n:=fun n h=>Ao (by omega) h
  by_cases rH:0<sep.size
  ·rw[if_pos rH]at qD;have w2:IntKind.i64.wrap ((sep.size:Int)*((xs.length:Int)-1))=m0:=by rw[<-qD];exact wq
   have w3:IntKind.i64.wrap m0=m0:=wq
   have fA:¬IntKind.i64.wrap ((9223372036854775807:Int).tdiv ((xs.length:Int)-1))<=(sep.size:Int):=by
    rw[Int.tdiv_eq_ediv_of_nonneg (by omega)];have h4:(4:Int)<=9223372036854775807/((xs.length:Int)-1):=Int.le_ediv_of_mul_le (by omega) (by omega);have h5:(9223372036854775807:Int)/((xs.length:Int)-1)<=9223372036854775807:=Int.ediv_le_self _ (by omega);rw[Ao (by omega) h5];omega
   have hnz:¬(xs.length:Int)-1=0:=by omega
   have hsi:(0:Int)<(sep.size:Int):=by omega
   (refine Au Aa Aa (FJ @Bj c0 c1 c0b c1b w1 w2 w3 fA hnz rH hsi) ?_;intros;refine Ae ?_)
   refine Af (X:={p:Nat×Nat//p.1<=xs.length/\p.2<=4718592+67108864*p.1/\(0<p.1->1<=p.2)}) (fun p=>⟨[(0,.sl 1 16 (xs.map AG)),(1,.str sep),(5,.int .i64 p.1.2),(39,.sl 1 16 (xs.map AG)),(40,.int .i64 xs.length),(41,.int .i64 p.1.1)],[]⟩) (fun p=>xs.length-p.1.1) ⟨(0,m0.toNat),by simp only;refine⟨by omega,by omega,by omega⟩⟩ (Sub.lit (by simp;try omega)) ?_;rintro⟨⟨k,m⟩,hk,hmb,dQ⟩;simp only at hk hmb dQ |-
   by_cases qV:k<xs.length
   ·obtain⟨x,gF,hxk',wA⟩:=Ai qV;obtain⟨y1,y2⟩:=hx x wA;have q1:IntKind.i64.wrap (9223372036854775807-(m:Int))=9223372036854775807-(m:Int):=wq;have q2:¬(9223372036854775807-(m:Int)<(x.size:Int)):=by omega
    have q3:IntKind.i64.wrap ((m:Int)+(x.size:Int))=(m:Int)+(x.size:Int):=wq
    (refine Au Aa Aa (Ez @AG.eq_1 qV gF hxk' q1 q2 q3) ?_;intros;refine Ae ?_)
    refine Ag.mk ⟨(k+1,m+x.size),show k+1<=xs.length/\m+x.size<=4718592+67108864*(k+1)/\(0<k+1->1<=m+x.size) from ⟨by omega,by omega,by omega⟩⟩ (Sub.lit (by simp)) (by simp;omega)
    skip
   ·have qY:k=xs.length:=by omega
    subst qY;have hg:=MJ m (dQ (by omega)) (by omega)
    (repeat (first | (refine KT (bs:=32) (k:=2) (z:=[.nilp,.nilsl]) (by simp[qX]) (by simp) (by rfl) rfl (by decide) (fun _ _=> ?_);simp[qX,AG,h0,zI,wI,t2,Bj]) | refine AI fun K hK=> ?_ | (refine BR KF mxd (by kernel_rfl) ?_;simp[KF,qX,AG,h0,zI,wI,t2,Bj];try simp (disch:=omega) only[Ao]) | refine Aw ?_ | (refine Bb ?_ ?_ ?_;(· (simp[qX,AG,h0,zI,wI,t2,Bj];done));(try (rotate_left;(· (intro hc;(try simp[qX,AG,h0,zI,wI,t2,Bj]at hc);done))))) | (refine AK ?_;simp[results322,qX,AG,h0,zI,wI,t2,Bj]) | ((first | refine AD ?_ | refine AC ?_);simp[qX,AG,h0,zI,wI,t2,Bj]) | (intro hc;(try simp[qX,AG,h0,zI,wI,t2,Bj]at hc);(try (exfalso;omega))) | (refine AP [(8,0)] [(50,1)] (hg) ?_ ?_;(· (simp[qX,AG,h0,zI,wI,t2,Bj];done));(intro _;try simp[qX,AG,h0,zI,wI,t2,Bj])) | (refine AP [(8,0),(50,1)] [] (wF) ?_ ?_;(· (simp[qX,AG,h0,zI,wI,t2,Bj];done));(intro _;try simp[qX,AG,h0,zI,wI,t2,Bj])) | (refine⟨?_,?_⟩; · omega) | omega | apply_assumption -exfalso -symm | (exfalso;omega)))
    refine Af (X:={k:Nat//k<=ys.length}) (fun k=>⟨[(1,.str sep),(8,.rx 8 1 2 0 0),(63,.sl 1 16 (ys.map AG)),(64,.int .i64 ys.length),(65,.int .i64 k.1)],[⟨8,1,.row 338 2 32 [[.rx 8 1 2 0 0,.osl 50 1]]⟩,⟨50,1,.row 5 1 1 (Bh ((ys.take k.1).foldl (Es sep) x0))⟩]⟩) (fun k=>ys.length-k.1) ⟨0,by omega⟩ (Sub.lit (by simp[t2,hys])) ?_;rintro⟨k,hk⟩;simp only
    by_cases qV:k<ys.length
    ·obtain⟨y,hy,wN,gG⟩:=Ai qV;obtain⟨j1,j2⟩:=IE sep hs (ys.take k) x0 fun z hz=>cC z (cK0 hz)
     rw[aT0]at j1;have gI:=Wa (f:=Es sep) (b:=x0) hy;have hy9:=cC y gG;obtain⟨T,hT⟩:∃T,T=(ys.take k).foldl (Es sep) x0:=⟨_,rfl⟩;rw[<-hT]at j1 j2 gI |-;have e1:=Cb T sep (by omega);have e2:=Cb (T++sep) y (by rw[aO0];omega);rw[show T++sep++y=Es sep T y from rfl,<-gI]at e2
     (refine Au Aa (Ap (DF [(8,0),(50,1)] [] e1) (DF [(8,0),(50,1)] [] e2)) (CG @AG.eq_1 qV hy wN) ?_;intros;refine Ae ?_)
     refine Ag.mk ⟨k+1,by omega⟩ (Sub.lit (by simp)) (by simp;omega)
     skip
    ·have qY:k=ys.length:=by omega
     subst qY;rw[aN0,<-hJ];obtain⟨j1,j2⟩:=IE sep hs ys x0 cC;rw[<-hJ]at j1 j2;have e1:=DV J (by omega);exact Al Aa (Aq (DF [(8,0),(50,1)] [] e1)) Aa
  ·rw[if_neg rH]at qD
   (refine Au Aa Aa (Ez @Bj c0 c1 c0b c1b w1 rH) ?_;intros;refine Ae ?_)
   refine Af (X:={p:Nat×Nat//p.1<=xs.length/\p.2<=4718592+67108864*p.1/\(0<p.1->1<=p.2)}) (fun p=>⟨[(0,.sl 1 16 (xs.map AG)),(1,.str sep),(5,.int .i64 p.1.2),(39,.sl 1 16 (xs.map AG)),(40,.int .i64 xs.length),(41,.int .i64 p.1.1)],[]⟩) (fun p=>xs.length-p.1.1) ⟨(0,m0.toNat),by simp only;refine⟨by omega,by omega,by omega⟩⟩ (Sub.lit (by simp;try omega)) ?_;rintro⟨⟨k,m⟩,hk,hmb,dQ⟩;simp only at hk hmb dQ |-
   by_cases qV:k<xs.length
   ·obtain⟨x,gF,hxk',wA⟩:=Ai qV;obtain⟨y1,y2⟩:=hx x wA;have q1:IntKind.i64.wrap (9223372036854775807-(m:Int))=9223372036854775807-(m:Int):=wq;have q2:¬(9223372036854775807-(m:Int)<(x.size:Int)):=by omega
    have q3:IntKind.i64.wrap ((m:Int)+(x.size:Int))=(m:Int)+(x.size:Int):=wq
    (refine Au Aa Aa (Ez @AG.eq_1 qV gF hxk' q1 q2 q3) ?_;intros;refine Ae ?_)
    refine Ag.mk ⟨(k+1,m+x.size),show k+1<=xs.length/\m+x.size<=4718592+67108864*(k+1)/\(0<k+1->1<=m+x.size) from ⟨by omega,by omega,by omega⟩⟩ (Sub.lit (by simp)) (by simp;omega)
    skip
   ·have qY:k=xs.length:=by omega
    subst qY;have hg:=MJ m (dQ (by omega)) (by omega)
    (repeat (first | (refine KT (bs:=32) (k:=2) (z:=[.nilp,.nilsl]) (by simp[qX]) (by simp) (by rfl) rfl (by decide) (fun _ _=> ?_);simp[qX,AG,h0,zI,wI,t2,Bj]) | refine AI fun K hK=> ?_ | (refine BR KF mxd (by kernel_rfl) ?_;simp[KF,qX,AG,h0,zI,wI,t2,Bj];try simp (disch:=omega) only[Ao]) | refine Aw ?_ | (refine Bb ?_ ?_ ?_;(· (simp[qX,AG,h0,zI,wI,t2,Bj];done));(try (rotate_left;(· (intro hc;(try simp[qX,AG,h0,zI,wI,t2,Bj]at hc);done))))) | (refine AK ?_;simp[results322,qX,AG,h0,zI,wI,t2,Bj]) | ((first | refine AD ?_ | refine AC ?_);simp[qX,AG,h0,zI,wI,t2,Bj]) | (intro hc;(try simp[qX,AG,h0,zI,wI,t2,Bj]at hc);(try (exfalso;omega))) | (refine AP [(8,0)] [(50,1)] (hg) ?_ ?_;(· (simp[qX,AG,h0,zI,wI,t2,Bj];done));(intro _;try simp[qX,AG,h0,zI,wI,t2,Bj])) | (refine AP [(8,0),(50,1)] [] (wF) ?_ ?_;(· (simp[qX,AG,h0,zI,wI,t2,Bj];done));(intro _;try simp[qX,AG,h0,zI,wI,t2,Bj])) | (refine⟨?_,?_⟩; · omega) | omega | apply_assumption -exfalso -symm | (exfalso;omega)))
    refine Af (X:={k:Nat//k<=ys.length}) (fun k=>⟨[(1,.str sep),(8,.rx 8 1 2 0 0),(63,.sl 1 16 (ys.map AG)),(64,.int .i64 ys.length),(65,.int .i64 k.1)],[⟨8,1,.row 338 2 32 [[.rx 8 1 2 0 0,.osl 50 1]]⟩,⟨50,1,.row 5 1 1 (Bh ((ys.take k.1).foldl (Es sep) x0))⟩]⟩) (fun k=>ys.length-k.1) ⟨0,by omega⟩ (Sub.lit (by simp[t2,hys])) ?_;rintro⟨k,hk⟩;simp only
    by_cases qV:k<ys.length
    ·obtain⟨y,hy,wN,gG⟩:=Ai qV;obtain⟨j1,j2⟩:=IE sep hs (ys.take k) x0 fun z hz=>cC z (cK0 hz)
     rw[aT0]at j1;have gI:=Wa (f:=Es sep) (b:=x0) hy;have hy9:=cC y gG;obtain⟨T,hT⟩:∃T,T=(ys.take k).foldl (Es sep) x0:=⟨_,rfl⟩;rw[<-hT]at j1 j2 gI |-;have e1:=Cb T sep (by omega);have e2:=Cb (T++sep) y (by rw[aO0];omega);rw[show T++sep++y=Es sep T y from rfl,<-gI]at e2
     (refine Au Aa (Ap (DF [(8,0),(50,1)] [] e1) (DF [(8,0),(50,1)] [] e2)) (CG @AG.eq_1 qV hy wN) ?_;intros;refine Ae ?_)
     refine Ag.mk ⟨k+1,by omega⟩ (Sub.lit (by simp)) (by simp;omega)
     skip
    ·have qY:k=ys.length:=by omega
     subst qY;rw[aN0,<-hJ];obtain⟨j1,j2⟩:=IE sep hs ys x0 cC;rw[<-hJ]at j1 j2;have e1:=DV J (by omega);exact Al Aa (Aq (DF [(8,0),(50,1)] [] e1)) Aa
end Go.Proofs.Wy
end
section
namespace Go.Proofs.Wy
open Go Go.Dm Tryz
variable [DMode]
def sgn (k:Int):ByteArray:=if k=6 then ⟨#[42]⟩else if k=7 then ⟨#[43]⟩else if k=8 then ⟨#[63]⟩else ⟨#[]⟩
def Qv (k:Int):ByteArray:=if k=5 then ⟨#[32,124,32]⟩else if k=4 then ⟨#[32]⟩else ⟨#[]⟩
def NV_ (pk k:Int):Bool:=decide (k=5)||(decide (k=4)&& !decide (pk=5))
def Mr (pk k:Int) (s:ByteArray):ByteArray:=if NV_ pk k then ⟨#[40]⟩++s++⟨#[41]⟩else s
mutual
def DN : RT->ByteArray
 | .mk x ks=>if x.k=1 then ⟨#[37]⟩else if x.k=2\/x.k=3 then x.s else HB (EA x.k ks) (Qv x.k)++sgn x.k
def EA (pk:Int):List RT->List ByteArray
 | []=>[]
 | t::ts=>Mr pk t.x.k (DN t)::EA pk ts
end
theorem TF (x:Nd) (ks:List RT):DN (.mk x ks)=if x.k=1 then ⟨#[37]⟩else if x.k=2\/x.k=3 then x.s else HB (EA x.k ks) (Qv x.k)++sgn x.k:=by rw[DN]
theorem HU (pk:Int) (t:RT) (ts:List RT):EA pk (t::ts)=Mr pk t.x.k (DN t)::EA pk ts:=by rw[EA]
theorem Pj (pk:Int):EA pk []=[]:=by rw[EA]
theorem ED (pk:Int):∀ts:List RT,EA pk ts=ts.map fun t=>Mr pk t.x.k (DN t)
 | []=>Pj pk
 | t::ts=>by rw[HU,ED pk ts];rfl
theorem Fq_ (a:UInt8):(⟨#[a]⟩:ByteArray).size=1:=rfl
theorem KA (k:Int):(Qv k).size<=3:=by unfold Qv;split<;>(try split)<;>decide
theorem xF (k:Int):(sgn k).size<=1:=by
 unfold sgn
 repeat' split
 all_goals decide
theorem Ns (pk k:Int) (s:ByteArray):s.size<=(Mr pk k s).size/\(Mr pk k s).size<=s.size+2:=by
 unfold Mr
 split
 ·rw[aO0,aO0,Fq_,Fq_];omega
 ·omega
theorem OR (sep:ByteArray) (hs:sep.size<=3):∀(r:List ByteArray) (x:ByteArray),(r.foldl (Es sep) x).size<=x.size+(r.map fun y=>y.size+3).sum/\x.size<=(r.foldl (Es sep) x).size
 | [],x=>by simp
 | y::r,x=>by
  obtain⟨h1,h2⟩:=OR sep hs r (Es sep x y);rw[OS]at h1 h2;rw[cM0,List.map_cons,dO0];omega
theorem Lj (xs:List ByteArray) (sep:ByteArray) (hs:sep.size<=3):(HB xs sep).size<=(xs.map fun y=>y.size+3).sum:=by
 cases xs with
 | nil=>simp[HB];decide
 | cons x r =>
  have:=(OR sep hs r x).1
  show (r.foldl (Es sep) x).size<=_
  rw[List.map_cons,dO0];omega
theorem YW {x:Nd} (h:Fe x=true) (hk:x.k=2\/x.k=3):1<=x.s.size:=by
 have hn:∀s,AX s=true->1<=s.size:=fun s hs=>by unfold AX at hs;simp only[aM0,decide_eq_true_eq]at hs;exact hs.1.1
 unfold Fe at h
 rcases hk with hk | hk
 ·rw[if_neg (by omega),if_pos hk]at h;simp only[aM0]at h;exact hn _ h.2.1
 ·rw[if_neg (by omega),if_neg (by omega),if_pos hk]at h;simp only[aM0]at h;exact hn _ h.2.1
theorem Ry {x:Nd} (h:Fe x=true) (h1:¬x.k=1) (h2:¬(x.k=2\/x.k=3)):1<=x.n:=by
 unfold Fe at h;rw[if_neg h1,if_neg (fun e=>h2 (.inl e)),if_neg (fun e=>h2 (.inr e))]at h
 repeat' split at h
 all_goals simp only[aM0,decide_eq_true_eq,aK0]at h
 all_goals omega
mutual
theorem JT : ∀(t:RT),FU t=true->1<=(DN t).size/\(DN t).size+5<=24*(flat t).length
 | .mk x ks,h=>by
  obtain⟨h1,h2,h3⟩:=CV h;rw[TF,Bc,List.length_cons]
  split
  ·rw[Fq_];omega
  ·rename_i k1
   split
   ·rename_i k2;have:=YW h1 k2;have:=Rx h1;omega
   ·rename_i k2;have hn:=Ry h1 k1 k2;obtain⟨s1,s2⟩:=Ni x.k ks h3;have hj:=Lj (EA x.k ks) (Qv x.k) (KA _);have hg:=xF x.k;rw[aO0];refine⟨?_,by omega⟩
    cases ks with
    | nil=>simp at h2;omega
    | cons t ts =>
     have:=s2 (Mr x.k t.x.k (DN t)) (by rw[HU];exact aF0);have h4:=(OR (Qv x.k) (KA _) (EA x.k ts) (Mr x.k t.x.k (DN t))).2;rw[HU]
     show 1<=((EA x.k ts).foldl (Es (Qv x.k)) (Mr x.k t.x.k (DN t))).size+_
     omega
theorem Ni : ∀(pk:Int) (ts:List RT),HA ts=true->((EA pk ts).map fun y=>y.size+3).sum<=24*(Av ts).length/\∀y∈EA pk ts,1<=y.size
 | pk,[],_=>by simp[Pj]
 | pk,t::ts,h=>by
  obtain⟨h1,h2⟩:=Cp h;obtain⟨a1,a2⟩:=JT t h1;obtain⟨b1,b2⟩:=Ni pk ts h2;obtain⟨c1,c2⟩:=Ns pk t.x.k (DN t);rw[HU,AH,List.map_cons,dO0,aC0];refine⟨by omega,fun y hy=> ?_⟩
  rcases aL0.1 hy with rfl | hy
  ·omega
  ·exact b2 y hy
end
end Go.Proofs.Wy
end
