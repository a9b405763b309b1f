/- Parts of a proof, laid together: WOg, WSg, BO0, EnBl, Lays, LayTs, EnY, EnSt, WB0, WJ0, WJ1, WJ2, WJ3, RT, WBp, WB3, EnSc, WB4, WB5, WB6, WB7. -/
import Derived.Shelf.Strings.BuilderF
import Derived.Shelf.SlSortCmp.NoneTotal
import Derived.Shelf.SlGeneric
import Derived.Ground.SlsfProg
import Derived.Shelf.SortM.Plain
import Derived.Shelf.SortM.SortNone
import Derived.Shelf.Sort.Plain
import Derived.Shelf.Small.Strs
import Derived.Shelf.SlIter.Nil
import Derived.Shelf.SlIter.Sorted
import Derived.Ground.SlgmProg
import Derived.Ground.GgzProg
import Derived.Shelf.Spec.SlicesGrow
import Derived.Ground.Names8Prog
import Derived.Test.YtchgnpnbcjflcaaGreatChecked
import Derived.Lib.Builder
import Derived.WalkKit
import Derived.BigCall
import Derived.Scope
import Derived.Test.YtchgnpnbcjflcaaGreatqCt4
import Derived.Test.YtchgnpnbcjflcaaGreatqCt5
set_option linter.unusedSimpArgs false
set_option linter.unusedVariables false
set_option linter.unusedSectionVars false
section
namespace Go.Proofs.YtchgnpnbcjflcaaGreat
open Go Go.Dm
variable [DMode]
structure OrdC {α:Type} (c:α→α→Int):Prop where
 eq0:∀x y,c x y=0↔x=y
 anti:∀x y,c x y<0↔0<c y x
 trans:∀x y z,c x y<0→c y z<0→c x z<0
theorem OrdC.refl {α:Type} {c:α→α→Int} (h:OrdC c) (x:α):c x x=0:=(h.eq0 x x).2 rfl
theorem OrdC.nle {α:Type} {c:α→α→Int} (h:OrdC c) {x y:α}:¬c x y<0↔c y x<0∨x=y:=by
 have h1:=h.anti x y;have h2:=h.anti y x;have h3:=h.eq0 x y
 constructor
 ·intro hn
  by_cases h0:c x y=0
  ·exact .inr (h3.1 h0)
  ·exact .inl (h2.2 (by omega))
 ·rintro (h4 | rfl)
  ·have:=h2.1 h4;omega
  ·rw[h.refl];omega
theorem OrdC.ntrans {α:Type} {c:α→α→Int} (h:OrdC c) (x y z:α) (h1:¬c x y<0) (h2:¬c y z<0):¬c x z<0:=by
 rw[h.nle]at *
 rcases h1 with h1 | rfl
 ·rcases h2 with h2 | rfl
  ·exact .inl (h.trans _ _ _ h2 h1)
  ·exact .inl h1
 ·exact h2
theorem OrdC.le_anti {α:Type} {c:α→α→Int} (h:OrdC c) {x y:α} (h1:¬c x y<0) (h2:¬c y x<0):x=y:=by
 rcases h.nle.1 h1 with h1 | h1
 ·exact absurd h1 h2
 ·exact h1
theorem OrdC.total {α:Type} {c:α→α→Int} (h:OrdC c) (x y:α):¬c x y<0∨¬c y x<0:=by
 by_cases h1:c x y<0
 ·right;have:=(h.anti x y).1 h1;omega
 ·exact .inl h1
theorem ordI : OrdC cmpI:=by
 refine⟨fun x y=> ?_,fun x y=> ?_,fun x y z=> ?_⟩<;>unfold cmpI
 ·split
  ·constructor<;>intro h<;>omega
  ·split
   ·constructor<;>intro h<;>omega
   ·constructor<;>intro h<;>omega
 ·by_cases h1:x<y<;>by_cases h2:y<x<;>simp[h1,h2]<;>omega
 ·by_cases h1:x<y<;>by_cases h2:y<z<;>by_cases h3:x<z<;>simp[h1,h2,h3]<;>(try split)<;>(try split)<;>omega
def lexC {α β:Type} (c:α→α→Int) (d:β→β→Int) (x y:α×β):Int:=if c x.1 y.1=0 then d x.2 y.2 else c x.1 y.1
theorem Rn_ {α β:Type} {c:α→α→Int} {d:β→β→Int} (h:OrdC c) (k:OrdC d):OrdC (lexC c d):=by
 refine⟨fun x y=> ?_,fun x y=> ?_,fun x y z=> ?_⟩<;>unfold lexC
 ·obtain⟨x1,x2⟩:=x;obtain⟨y1,y2⟩:=y;simp only[_root_.Prod.mk.injEq]
  split
  ·rename_i h0;rw[k.eq0];exact⟨fun hh=>⟨(h.eq0 _ _).1 h0,hh⟩,fun hh=>hh.2⟩
  ·rename_i h0;exact⟨fun hh=>absurd hh h0,fun hh=>absurd ((h.eq0 _ _).2 hh.1) h0⟩
 ·by_cases h0:c x.1 y.1=0
  ·have h1:c y.1 x.1=0:=(h.eq0 _ _).2 ((h.eq0 _ _).1 h0).symm;rw[if_pos h0,if_pos h1];exact k.anti _ _
  ·have h1:¬c y.1 x.1=0:=fun hh=>h0 ((h.eq0 _ _).2 ((h.eq0 _ _).1 hh).symm)
   rw[if_neg h0,if_neg h1];exact h.anti _ _
 ·by_cases h0:c x.1 y.1=0
  ·have e0:=(h.eq0 _ _).1 h0;rw[if_pos h0]
   by_cases h1:c y.1 z.1=0
   ·have e1:=(h.eq0 _ _).1 h1;have h2:c x.1 z.1=0:=(h.eq0 _ _).2 (e0.trans e1);rw[if_pos h1,if_pos h2];exact k.trans _ _ _
   ·have h2:¬c x.1 z.1=0:=by rw[e0];exact h1
    rw[if_neg h1,if_neg h2,e0];exact fun _ hh=>hh
  ·rw[if_neg h0]
   by_cases h1:c y.1 z.1=0
   ·have e1:=(h.eq0 _ _).1 h1;have h2:¬c x.1 z.1=0:=by rw[←e1];exact h0
    rw[if_pos h1,if_neg h2,←e1];exact fun hh _=>hh
   ·rw[if_neg h1];intro h3 h4;have h5:=h.trans _ _ _ h3 h4;have h2:¬c x.1 z.1=0:=by omega
    rw[if_neg h2];exact h5
theorem ordKey {α β:Type} {c:α→α→Int} (h:OrdC c) (f:β→α) (hf:∀x y,f x=f y→x=y):OrdC (fun x y=>c (f x) (f y)) :=
 ⟨fun x y=>by rw[h.eq0];exact⟨hf _ _,fun hh=>by rw[hh]⟩,fun x y=>h.anti _ _,fun x y z=>h.trans _ _ _⟩
theorem ordL {α:Type} {c:α→α→Int} (h:OrdC c):OrdC (cmpL c):=by
 refine⟨fun x=> ?_,fun x=> ?_,fun x=> ?_⟩
 ·induction x with
  | nil=>intro y;cases y<;>simp[cmpL]
  | cons a x ih =>
   intro y
   cases y with
   | nil=>simp[cmpL]
   | cons b y =>
    simp only[cmpL,bH0]
    split
    ·rename_i h0;rw[ih];exact⟨fun hh=>⟨(h.eq0 _ _).1 h0,hh⟩,fun hh=>hh.2⟩
    ·rename_i h0;exact⟨fun hh=>absurd hh h0,fun hh=>absurd ((h.eq0 _ _).2 hh.1) h0⟩
 ·induction x with
  | nil=>intro y;cases y<;>simp[cmpL]
  | cons a x ih =>
   intro y
   cases y with
   | nil=>simp[cmpL]
   | cons b y =>
    simp only[cmpL]
    by_cases h0:c a b=0
    ·have h1:c b a=0:=(h.eq0 _ _).2 ((h.eq0 _ _).1 h0).symm;rw[if_pos h0,if_pos h1];exact ih y
    ·have h1:¬c b a=0:=fun hh=>h0 ((h.eq0 _ _).2 ((h.eq0 _ _).1 hh).symm)
     rw[if_neg h0,if_neg h1];exact h.anti _ _
 ·induction x with
  | nil=>intro y z;cases y<;>cases z<;>simp[cmpL]
  | cons a x ih =>
   intro y z
   cases y with
   | nil=>simp[cmpL]
   | cons b y =>
    cases z with
    | nil=>simp[cmpL]
    | cons d z =>
     simp only[cmpL]
     by_cases h0:c a b=0
     ·have e0:=(h.eq0 _ _).1 h0;rw[if_pos h0]
      by_cases h1:c b d=0
      ·have h2:c a d=0:=by rw[e0];exact h1
       rw[if_pos h1,if_pos h2];exact ih y z
      ·have h2:¬c a d=0:=by rw[e0];exact h1
       rw[if_neg h1,if_neg h2,e0];exact fun _ hh=>hh
     ·rw[if_neg h0]
      by_cases h1:c b d=0
      ·have e1:=(h.eq0 _ _).1 h1;have h2:¬c a d=0:=by rw[←e1];exact h0
       rw[if_pos h1,if_neg h2,←e1];exact fun hh _=>hh
      ·rw[if_neg h1];intro h3 h4;have h5:=h.trans _ _ _ h3 h4;have h2:¬c a d=0:=by omega
       rw[if_neg h2];exact h5
theorem ordSym : OrdC symC:=by
 have h:=ordKey (Rn_ ordI ordI) (fun s:Sym=>((if s.label then 1 else 0:Int),s.n)) (by
  rintro⟨l,n⟩ ⟨l',n'⟩ hh;simp only[_root_.Prod.mk.injEq]at hh;obtain⟨h1,rfl⟩:=hh
  cases l<;>cases l'<;>simp_all)
 have e:symC=fun x y:Sym=>lexC cmpI cmpI ((if x.label then 1 else 0:Int),x.n) ((if y.label then 1 else 0:Int),y.n):=by
  funext x y
  obtain⟨l,n⟩:=x;obtain⟨l',n'⟩:=y;cases l<;>cases l'<;>simp[symC,lexC,cmpI]
 rw[e];exact h
def ER_ {α:Type} (c:α→α→Int) (l:List α):List α:=l.mergeSort (fun x y=> !decide (c y x<0))
theorem Cd_ {α:Type} (c:α→α→Int) (l:List α):(ER_ c l).Perm l:=dU0 _ _
theorem Bv_ {α:Type} {c:α→α→Int} (h:OrdC c) (l:List α):(ER_ c l).Pairwise (fun x y=>¬c y x<0):=by
 have:=List.pairwise_mergeSort (le:=fun x y=> !decide (c y x<0)) (by
  intro a b d h1 h2;simp only[eO0,decide_eq_false_iff_not]at *
  exact h.ntrans _ _ _ h2 h1) (by
  intro a b;simp only[dD0,eO0,decide_eq_false_iff_not]
  exact h.total b a) l
 exact this.imp fun h=>by simpa using h
theorem sorted_eq {α:Type} {c:α→α→Int} (h:OrdC c) {a b:List α} (hp:a.Perm b) (ha:a.Pairwise (fun x y=>¬c y x<0)) (hb:b.Pairwise (fun x y=>¬c y x<0)):a=b :=
 List.Perm.eq_of_pairwise (le:=fun x y=>¬c y x<0) (fun x y _ _ h1 h2=>h.le_anti h2 h1) ha hb hp
theorem QC_ {α:Type} {c:α→α→Int} (h:OrdC c) {d:α→List DVal} {u:List DVal→α} (hu:∀x,u (d x)=x) {l:List α} {L:List (List DVal)} (hp:L.Perm (l.map d)) (hs:L.Pairwise (fun x y=>¬c (u y) (u x)<0)):L=(ER_ c l).map d:=by
 have h1:(L.map u).Perm l:=by
  have:=hp.map u
  rwa[cB0,show u∘d=id from funext hu,List.map_id]at this
 have h2:(L.map u).Pairwise (fun x y=>¬c y x<0):=by rw[dL0];exact hs
 have h3:=sorted_eq h (h1.trans (Cd_ c l).symm) h2 (Bv_ h l)
 have h4:L=(L.map u).map d:=by
  rw[cB0]
  have h5:∀x∈L,(d∘u) x=id x:=by
   intro x hx;obtain⟨y,_,rfl⟩:=aV0.1 (hp.mem_iff.1 hx);simp[hu]
  rw[cJ0 h5,List.map_id]
 rw[h4,h3]
def insC {α:Type} (c:α→α→Int):List α→α→List α
 | [],p=>[p]
 | x::l,p=>if c x p<0 then x::insC c l p else if c p x<0 then p::x::l else x::l
theorem Pw_ {α:Type} {c:α→α→Int} (l:List α) (p:α):insC c l p≠[]:=by
 cases l with
 | nil=>simp[insC]
 | cons x l=>simp only[insC];split<;>(try split)<;>simp
theorem Ph_ {α:Type} {c:α→α→Int} (h:OrdC c) {p z:α}:∀{l:List α},z∈insC c l p↔z=p∨z∈l
 | []=>by simp[insC]
 | x::l=>by
  have ih:=Ph_ h (p:=p) (z:=z) (l:=l);simp only[insC]
  split
  ·rw[aK0,ih,aK0];exact⟨fun hh=>by rcases hh with a | a | a<;>simp[a],fun hh=>by rcases hh with a | a | a<;>simp[a]⟩
  ·rename_i h1
   split
   ·simp only[aK0]
   ·rename_i h2;have:=h.le_anti h1 h2;subst this;simp only[aK0]
    exact⟨.inr,fun hh=>by
     rcases hh with a | a
     ·exact .inl a
     ·exact a⟩
def Dw_ {α:Type} (c:α→α→Int) (l:List α):Prop:=l.Pairwise (fun x y=>c x y<0)
theorem LY_ {α:Type} {c:α→α→Int} (h:OrdC c) {p:α}:∀{l:List α},Dw_ c l→Dw_ c (insC c l p)
 | [],_=>by simp[insC,Dw_]
 | x::l,hs=>by
  obtain⟨h1,h2⟩:=cH0.1 hs;simp only[insC]
  split
  ·rename_i hx;refine cH0.2 ⟨fun z hz=> ?_,LY_ h h2⟩
   rcases (Ph_ h).1 hz with rfl | hz
   ·exact hx
   ·exact h1 z hz
  ·split
   ·rename_i hx;refine cH0.2 ⟨fun z hz=> ?_,hs⟩
    rcases aK0.1 hz with rfl | hz
    ·exact hx
    ·exact h.trans _ _ _ hx (h1 z hz)
   ·exact hs
theorem HR_ {α:Type} {c:α→α→Int} (h:OrdC c):∀(l a:List α),Dw_ c a→Dw_ c (l.foldl (insC c) a)∧∀z,z∈l.foldl (insC c) a↔z∈l∨z∈a
 | [],a,ha=>⟨ha,by simp⟩
 | x::l,a,ha=>by
  obtain⟨h1,h2⟩:=HR_ h l (insC c a x) (LY_ h ha);refine⟨h1,fun z=> ?_⟩;rw[cO0,h2,Ph_ h,aK0];exact⟨fun hh=>by rcases hh with q | q | q<;>simp[q],fun hh=>by rcases hh with (q | q) | q<;>simp[q]⟩
theorem Jn_ {α:Type} {c:α→α→Int} (h:OrdC c) {x:α}:¬c x x<0:=by rw[h.refl];omega
theorem In_ {α:Type} {c:α→α→Int} (h:OrdC c):∀{a b:List α},Dw_ c a→Dw_ c b→(∀z,z∈a↔z∈b)→a=b
 | [],[],_,_,_=>rfl
 | [],y::b,_,_,hm=>by have:=(hm y).2 aF0;simp at this
 | x::a,[],_,_,hm=>by have:=(hm x).1 aF0;simp at this
 | x::a,y::b,ha,hb,hm=>by
  obtain⟨a1,a2⟩:=cH0.1 ha;obtain⟨b1,b2⟩:=cH0.1 hb
  have hxy:x=y:=by
   rcases aK0.1 ((hm x).1 aF0)with h1 | h1
   ·exact h1
   ·rcases aK0.1 ((hm y).2 aF0)with h2 | h2
    ·exact h2.symm
    ·exact absurd (h.trans _ _ _ (a1 y h2) (b1 x h1)) (Jn_ h)
  subst hxy;rw[In_ h a2 b2 fun z=> ?_]
  constructor
  ·intro hz
   rcases aK0.1 ((hm z).1 (aD0 _ hz))with h1 | h1
   ·subst h1;exact absurd (a1 z hz) (Jn_ h)
   ·exact h1
  ·intro hz
   rcases aK0.1 ((hm z).2 (aD0 _ hz))with h1 | h1
   ·subst h1;exact absurd (b1 z hz) (Jn_ h)
   ·exact h1
theorem IV_ {α:Type} {c:α→α→Int} (h:OrdC c):∀{l:List α} {p:α},(p::l).Pairwise (fun x y=>¬c y x<0)→Dw_ c (p::BN_ (fun x y=>c x y==0) p l)∧∀z,z∈p::BN_ (fun x y=>c x y==0) p l↔z∈p::l
 | [],p,_=>by simp[BN_,Dw_]
 | y::l,p,hs=>by
  obtain⟨h1,h2⟩:=cH0.1 hs;obtain⟨i1,i2⟩:=IV_ h h2;simp only[BN_]
  split
  ·rename_i he;have:y=p:=(h.eq0 _ _).1 (by simpa using he);subst this;exact⟨i1,fun z=>by rw[i2];simp⟩
  ·rename_i he;have hne:y≠p:=fun hh=>he (by subst hh;simp[h.refl])
   have hlt:c p y<0:=by
    rcases h.nle.1 (h1 y aF0)with h3 | h3
    ·exact h3
    ·exact absurd h3 hne
   refine⟨cH0.2 ⟨fun z hz=> ?_,i1⟩,fun z=> ?_⟩
   ·obtain⟨j1,_⟩:=cH0.1 i1
    rcases aK0.1 hz with rfl | hz
    ·exact hlt
    ·exact h.trans _ _ _ hlt (j1 z hz)
   ·have:=i2 z;rw[aK0,this];simp[aK0]
theorem BF_ {α:Type} {c:α→α→Int} (h:OrdC c) {l:List α} (hs:l.Pairwise (fun x y=>¬c y x<0)):Dw_ c (Bu_ (fun x y=>c x y==0) l)∧∀z,z∈Bu_ (fun x y=>c x y==0) l↔z∈l:=by
 cases l with
 | nil=>simp[Bu_,Dw_]
 | cons x l=>exact IV_ h hs
theorem PH_ {α:Type} {c:α→α→Int} (h:OrdC c) (l:List α):l.foldl (insC c) []=Bu_ (fun x y=>c x y==0) (ER_ c l):=by
 obtain⟨h1,h2⟩:=HR_ h l [] List.Pairwise.nil;obtain⟨h3,h4⟩:=BF_ h (Bv_ h l);refine In_ h h1 h3 fun z=> ?_
 rw[h2,h4,(Cd_ c l).mem_iff];simp
theorem norm_idem {α:Type} {c:α→α→Int} (h:OrdC c) (l:List α):Bu_ (fun x y=>c x y==0) (ER_ c (Bu_ (fun x y=>c x y==0) (ER_ c l)))=Bu_ (fun x y=>c x y==0) (ER_ c l):=by
 obtain⟨h3,h4⟩:=BF_ h (Bv_ h l);obtain⟨h5,h6⟩:=BF_ h (Bv_ h (Bu_ (fun x y=>c x y==0) (ER_ c l)));refine In_ h h5 h3 fun z=> ?_
 rw[h6,(Cd_ c _).mem_iff]
theorem NT_ {α:Type} {e:α→α→Bool}:∀(l:List α) (p:α),(BN_ e p l).length≤l.length
 | [],_=>by simp[BN_]
 | y::l,p=>by
  have:=NT_ (e:=e) l y;simp only[BN_]
  split<;>simp<;>omega
theorem compL_len {α:Type} {e:α→α→Bool} (l:List α):(Bu_ e l).length≤l.length:=by
 cases l with
 | nil=>simp[Bu_]
 | cons x l=>have:=NT_ (e:=e) l x;simp[Bu_];omega
theorem Bf_ {x:Nd}:BZ_ x=true↔x.k=2∨x.k=3:=by unfold BZ_;simp
def rkN (l:List Nd) (p:Nat):Nat:=((l.take p).filter BZ_).length
def lvs (l:List Nd):List Nd:=l.filter BZ_
theorem OE_ (l:List Nd):rkN l 0=0:=by simp[rkN]
theorem FU_ (l:List Nd):rkN l l.length=(lvs l).length:=by simp[rkN,lvs]
theorem OF_ {l:List Nd} {p:Nat} {x:Nd} (h:l[p]? =some x):rkN l (p+1)=rkN l p+(if BZ_ x=true then 1 else 0):=by
 unfold rkN;rw[bF0,h,dB0];cases hx:BZ_ x<;>simp[hx]
theorem OG_ (l:List Nd) {p q:Nat} (h:p≤q):rkN l p≤rkN l q:=by
 unfold rkN;obtain⟨d,rfl⟩:∃d,q=p+d:=⟨q-p,by omega⟩;rw[List.take_add,dB0,aC0];omega
theorem rkN_lt {l:List Nd} {p q:Nat} {x:Nd} (h:l[p]? =some x) (hx:BZ_ x=true) (hq:p<q):rkN l p<rkN l q:=by
 have h1:=OF_ h;rw[if_pos hx]at h1;have:=OG_ l (show p+1≤q from hq);omega
theorem lvs_at {l:List Nd} {p:Nat} {x:Nd} (h:l[p]? =some x) (hx:BZ_ x=true):(lvs l)[rkN l p]? =some x:=by
 obtain⟨hp,rfl⟩:=aB0.1 h;unfold lvs rkN
 have h1:l.filter BZ_=(l.take p).filter BZ_++(l[p]::(l.drop (p+1)).filter BZ_):=by
  have h2:l=l.take p++l[p]::l.drop (p+1):=by rw[←aR0 hp,List.take_append_drop]
  have h3:=congrArg (List.filter BZ_) h2;rw[dB0,List.filter_cons,if_pos hx]at h3;exact h3
 rw[h1,bC0 (Nat.le_refl _),dT0];rfl
theorem Rt_ {l:List Nd}:∀{n:Nat},n≤l.length→(CG_ l n).length=rkN l n
 | 0,_=>by simp[CG_,rkN]
 | n+1,h=>by
  have hn:l[n]? =some (l[n]'(by omega)):=aH0 (by omega);rw[Jt_ hn,OF_ hn,aC0,Rt_ (by omega)];cases BZ_ l[n]<;>simp
theorem Kz_ (l:List Nd):occN l=(lvs l).length:=by unfold occN;rw[Rt_ (Nat.le_refl _),FU_]
def isPl (l:List Nd) (i:Nat):Bool:=match l[i]? with | some x=>BZ_ x | none=>false
def plN (l:List Nd) (n:Nat):List Nat:=(List.range n).filter (isPl l)
theorem plN_zero (l:List Nd):plN l 0=[]:=rfl
theorem OO_ {l:List Nd} {n:Nat} {x:Nd} (h:l[n]? =some x):plN l (n+1)=plN l n++(if BZ_ x=true then [n]else []):=by
 unfold plN;rw[eA0,dB0];have:isPl l n=BZ_ x:=by unfold isPl;rw[h]
 cases hx:BZ_ x<;>simp[this,hx]
theorem isPl_iff {l:List Nd} {i:Nat}:isPl l i=true↔∃x,l[i]? =some x∧BZ_ x=true:=by
 unfold isPl;cases l[i]? <;>simp
theorem HN_ {l:List Nd} {i:Nat}:i∈plN l l.length↔∃x,l[i]? =some x∧BZ_ x=true:=by
 unfold plN;rw[cN0,dP0,isPl_iff];exact⟨fun h=>h.2,fun h=>⟨(aB0.1 h.choose_spec.1).1,h⟩⟩
theorem Jr_ {l:List Nd}:∀{n:Nat},n≤l.length→(plN l n).length=rkN l n
 | 0,_=>by simp[plN,rkN]
 | n+1,h=>by
  have hn:l[n]? =some (l[n]'(by omega)):=aH0 (by omega);rw[OO_ hn,OF_ hn,aC0,Jr_ (by omega)];cases BZ_ l[n]<;>simp
theorem OP_ {l:List Nd}:∀{n j p:Nat},n≤l.length→(plN l n)[j]? =some p→rkN l p=j
 | 0,j,p,_,h=>by simp[plN]at h
 | n+1,j,p,hn,h=>by
  have hx:l[n]? =some (l[n]'(by omega)):=aH0 (by omega);rw[OO_ hx]at h;have hl:=Jr_ (l:=l) (n:=n) (by omega)
  by_cases hj:j<(plN l n).length
  ·rw[bB0 hj]at h;exact OP_ (by omega) h
  ·rw[bC0 (by omega)]at h
   split at h
   ·have:j-(plN l n).length=0:=by
     rcases eV0 (j-(plN l n).length)with h0 | h0
     ·exact h0
     ·rw[dO0 (by simp;omega)]at h;simp at h
    rw[this]at h;simp at h;subst h;omega
   ·simp at h
theorem plN_pw (l:List Nd) (n:Nat):(plN l n).Pairwise (· < ·):=(List.pairwise_lt_range).filter _
def num (l:List Nd) (ah p:Nat):Nat:=ah+rkN l p+1
def num2 (l:List Nd) (ah:Nat) (p:Nat×Nat):Nat×Nat:=(num l ah p.1,num l ah p.2)
def nd (l:List Nd) (p:Nat):Nd:=l.getD p ⟨0,⟨#[]⟩,0⟩
theorem nd_at {l:List Nd} {p:Nat} {x:Nd} (h:l[p]? =some x):nd l p=x:=by unfold nd;rw[bG0,h];rfl
def prL : Nat→List RT→List (Nat×Nat)
 | _,[]=>[]
 | ah,t::ts=>(arT t 0).map (num2 (flat t) ah)++prL (ah+(lvs (flat t)).length) ts
def fiN : Nat→List RT→List Nat
 | _,[]=>[]
 | ah,t::ts=>(fiT t 0).map (num (flat t) ah)++fiN (ah+(lvs (flat t)).length) ts
def laN : Nat→List RT→List Nat
 | _,[]=>[]
 | ah,t::ts=>(laT t 0).map (num (flat t) ah)++laN (ah+(lvs (flat t)).length) ts
def lvL (ts:List RT):List Nd:=ts.flatMap fun t=>lvs (flat t)
def syL (sy:Nd→Sym) (ts:List RT):List Sym:=(lvL ts).map sy
theorem Pk_ (ts:List RT) (t:RT):lvL (ts++[t])=lvL ts++lvs (flat t):=by simp[lvL]
theorem Vh_ (t:RT):∀(ts:List RT) (ah:Nat),prL ah (ts++[t])=prL ah ts++(arT t 0).map (num2 (flat t) (ah+(lvL ts).length))
 | [],ah=>by simp[prL,lvL]
 | u::ts,ah=>by
  rw[List.cons_append,prL,prL,Vh_ t ts,aU0,cS0];simp[lvL]
theorem We_ (t:RT):∀(ts:List RT) (ah:Nat),fiN ah (ts++[t])=fiN ah ts++(fiT t 0).map (num (flat t) (ah+(lvL ts).length))
 | [],ah=>by simp[fiN,lvL]
 | u::ts,ah=>by
  rw[List.cons_append,fiN,fiN,We_ t ts,aU0,cS0];simp[lvL]
theorem VK_ (t:RT):∀(ts:List RT) (ah:Nat),laN ah (ts++[t])=laN ah ts++(laT t 0).map (num (flat t) (ah+(lvL ts).length))
 | [],ah=>by simp[laN,lvL]
 | u::ts,ah=>by
  rw[List.cons_append,laN,laN,VK_ t ts,aU0,cS0];simp[lvL]
def arcJ (S:List Sym) (p:Nat×Nat):Arc:=⟨(p.1:Int),S.getD (p.2-1) ⟨false,0⟩,(p.2:Int)⟩
def Ho_ (sy:Nd→Sym) (ts:List RT):List Arc:=(prL 0 ts++(fiN 0 ts).map fun q=>(0,q)).map (arcJ (syL sy ts))
def Nl_ (sy:Nd→Sym) (ah:Nat) (t:RT) (q:Nat):List Arc :=
 (if bgT t 0 q then [⟨0,sy (nd (flat t) q),(num (flat t) ah q:Int)⟩]else []) ++
  (plN (flat t) (flat t).length).flatMap fun p=>if foT t 0 p q then [⟨(num (flat t) ah p:Int),sy (nd (flat t) q),(num (flat t) ah q:Int)⟩]else []
def Gw_ (sy:Nd→Sym):Nat→List RT→List Arc
 | _,[]=>[]
 | ah,t::ts=>(plN (flat t) (flat t).length).flatMap (Nl_ sy ah t)++Gw_ sy (ah+(lvs (flat t)).length) ts
theorem Od_ (sy:Nd→Sym) (t:RT):∀(ts:List RT) (ah:Nat),Gw_ sy ah (ts++[t])=Gw_ sy ah ts++(plN (flat t) (flat t).length).flatMap (Nl_ sy (ah+(lvL ts).length) t)
 | [],ah=>by simp[Gw_,lvL]
 | u::ts,ah=>by
  rw[List.cons_append,Gw_,Gw_,Od_ sy t ts,aU0,cS0];simp[lvL]
theorem RJ_ {l:List Nd} {q:Nat} (h:∃x,l[q]? =some x∧BZ_ x=true):Lf l 0 q:=fun y _ hy=>by
 obtain⟨x,hx,hk⟩:=h;rw[eH0,hx]at hy;simp only[aA0]at hy;subst hy;exact Bf_.1 hk
theorem VD_ (sy:Nd→Sym) (S:List Sym) (z:Arc):∀(ts:List RT) (ah:Nat),(∀t∈ts,okT t=true)→S.drop ah=syL sy ts →
  (z∈(prL ah ts++(fiN ah ts).map fun q=>(0,q)).map (arcJ S)↔z∈Gw_ sy ah ts)
 | [],ah,_,_=>by simp[prL,fiN,Gw_]
 | t::ts,ah,hok,hS=>by
  have hS1:syL sy (t::ts)=(lvs (flat t)).map sy++syL sy ts:=by simp[syL,lvL]
  rw[hS1]at hS
  have hS2:S.drop (ah+(lvs (flat t)).length)=syL sy ts:=by
   rw[←eX0,hS,dY0 (by simp)];rw[show (lvs (flat t)).length=((lvs (flat t)).map sy).length by simp,bQ0,List.nil_append]
  have ih:=VD_ sy S z ts (ah+(lvs (flat t)).length) (fun u hu=>hok u (aD0 _ hu)) hS2;obtain⟨l,hl⟩:∃l,l=flat t:=⟨_,rfl⟩
  have look:∀{q:Nat} {x:Nd},l[q]? =some x→BZ_ x=true→S.getD (num l ah q-1) ⟨false,0⟩=sy x:=by
   intro q x hx hk;have h1:=lvs_at hx hk
   have h2:(S.drop ah)[rkN l q]? =some (sy x):=by
    have hlt:=(aB0.1 h1).1;rw[hS,←hl,bB0 (by simpa using hlt),bI0,h1];rfl
   rw[cT0]at h2;unfold num;rw[bG0,Nat.add_sub_cancel,h2];rfl
  have hokt:=hok t aF0;rw[←hl]at ih;rw[prL,fiN,Gw_,←hl];simp only[aX0,aI0]at ih ⊢
  have here:(z∈((arT t 0).map (num2 l ah)).map (arcJ S)∨z∈(((fiT t 0).map (num l ah)).map fun q=>(0,q)).map (arcJ S))↔z∈(plN l l.length).flatMap (Nl_ sy ah t):=by
   simp only[bR0,HN_]
   constructor
   ·rintro (h | h)
    ·simp only[aV0]at h;obtain⟨_,⟨⟨p,q⟩,hpq,rfl⟩,rfl⟩:=h;obtain⟨⟨x,hx,hxk⟩,⟨y,hy,hyk⟩⟩:=KN_ t 0 p q hpq;rw[eH0,←hl]at hx hy;refine⟨q,⟨y,hy,Bf_.2 hyk⟩,?_⟩;unfold Nl_;rw[aI0,bR0,←hl]
     right
     refine⟨p,HN_.2 ⟨x,hx,Bf_.2 hxk⟩,?_⟩;rw[if_pos ((fo_iff t 0 p q hokt (hl▸RJ_ ⟨x,hx,Bf_.2 hxk⟩) (hl▸RJ_ ⟨y,hy,Bf_.2 hyk⟩)).1 hpq)];simp only[arcJ,num2,look hy (Bf_.2 hyk),nd_at hy,aE0]
    ·simp only[aV0]at h;obtain⟨_,⟨_,⟨q,hq,rfl⟩,rfl⟩,rfl⟩:=h;obtain⟨y,hy,hyk⟩:=KK_ t 0 q hq;rw[eH0,←hl]at hy;refine⟨q,⟨y,hy,Bf_.2 hyk⟩,?_⟩;unfold Nl_;rw[aI0,←hl]
     left
     rw[if_pos ((SE_ t 0 q hokt (hl▸RJ_ ⟨y,hy,Bf_.2 hyk⟩)).1 hq)];simp only[arcJ,look hy (Bf_.2 hyk),nd_at hy,aE0];rfl
   ·rintro⟨q,⟨y,hy,hyk⟩,h⟩;unfold Nl_ at h;rw[aI0,bR0,←hl,nd_at hy]at h
    rcases h with h | ⟨p,hp,h⟩
    ·split at h
     ·rename_i hb
      right
      simp only[aV0];refine⟨_,⟨_,⟨q,(SE_ t 0 q hokt (hl▸RJ_ ⟨y,hy,hyk⟩)).2 hb,rfl⟩,rfl⟩,?_⟩;simp only[aE0]at h;rw[h];simp only[arcJ,look hy hyk];rfl
     ·simp at h
    ·split at h
     ·rename_i hb
      left
      obtain⟨x,hx,hxk⟩:=HN_.1 hp;simp only[aV0];refine⟨_,⟨(p,q),(fo_iff t 0 p q hokt (hl▸RJ_ ⟨x,hx,hxk⟩) (hl▸RJ_ ⟨y,hy,hyk⟩)).2 hb,rfl⟩,?_⟩;simp only[aE0]at h;rw[h];simp only[arcJ,num2,look hy hyk]
     ·simp at h
  rw[←here,←ih]
  constructor
  ·rintro ((h | h) | h | h)
   ·exact .inl (.inl h)
   ·exact .inr (.inl h)
   ·exact .inl (.inr h)
   ·exact .inr (.inr h)
  ·rintro ((h | h) | h | h)
   ·exact .inl (.inl h)
   ·exact .inr (.inl h)
   ·exact .inl (.inr h)
   ·exact .inr (.inr h)
theorem GU_ (x y:Arc):arcC x y=lexC cmpI (lexC symC cmpI) (x.fr,x.sy,x.to) (y.fr,y.sy,y.to):=rfl
theorem CP_ : OrdC arcC:=by
 have h:=Rn_ ordI (Rn_ ordSym ordI);refine⟨fun x y=> ?_,fun x y=> ?_,fun x y z=> ?_⟩
 ·rw[GU_,h.eq0];cases x;cases y;simp only[_root_.Prod.mk.injEq,Arc.mk.injEq]
 ·rw[GU_,GU_];exact h.anti _ _
 ·rw[GU_,GU_,GU_];exact h.trans _ _ _
theorem arcs_law (sy:Nd→Sym) (ts:List RT) (hok:∀t∈ts,okT t=true):Bu_ (fun x y=>arcC x y==0) (ER_ arcC (Ho_ sy ts))=(Gw_ sy 0 ts).foldl (insC arcC) []:=by
 rw[PH_ CP_];obtain⟨h1,h2⟩:=BF_ CP_ (Bv_ CP_ (Ho_ sy ts));obtain⟨h3,h4⟩:=BF_ CP_ (Bv_ CP_ (Gw_ sy 0 ts));refine In_ CP_ h1 h3 fun z=> ?_
 rw[h2,h4,(Cd_ _ _).mem_iff,(Cd_ _ _).mem_iff];exact VD_ sy (syL sy ts) z ts 0 hok (by simp)
def finR : Nat→List RT→List Nat
 | _,[]=>[]
 | ah,t::ts=>((plN (flat t) (flat t).length).filter (enT t 0)).map (num (flat t) ah)++finR (ah+(lvs (flat t)).length) ts
theorem Sg_ (t:RT):∀(ts:List RT) (ah:Nat),finR ah (ts++[t])=finR ah ts++((plN (flat t) (flat t).length).filter (enT t 0)).map (num (flat t) (ah+(lvL ts).length))
 | [],ah=>by simp[finR,lvL]
 | u::ts,ah=>by
  rw[List.cons_append,finR,finR,Sg_ t ts,aU0,cS0];simp[lvL]
theorem VZ_ : ∀(ts:List RT) (ah:Nat),(∀t∈ts,okT t=true)→(laN ah ts).Perm (finR ah ts)
 | [],ah,_=>by simp[laN,finR]
 | t::ts,ah,hok=>by
  rw[laN,finR];refine List.Perm.append (List.Perm.map _ ?_) (VZ_ ts _ fun u hu=>hok u (aD0 _ hu));refine(List.perm_ext_iff_of_nodup (VJ_ t 0) (((plN_pw _ _).imp fun h=>Nat.ne_of_lt h).filter _)).2 fun q=> ?_
  have hokt:=hok t aF0;rw[cN0,HN_]
  constructor
  ·intro h;obtain⟨y,hy,hyk⟩:=KG_ t 0 q h;rw[eH0]at hy;have hq:=(⟨y,hy,Bf_.2 hyk⟩:∃x,(flat t)[q]? =some x∧BZ_ x=true);exact⟨hq,(Sm_ t 0 q hokt (RJ_ hq)).1 h⟩
  ·rintro⟨hq,h⟩;exact(Sm_ t 0 q hokt (RJ_ hq)).2 h
theorem num_lt {l:List Nd} {ah p q:Nat} (hp:p∈plN l l.length) (h:p<q):num l ah p<num l ah q:=by
 obtain⟨x,hx,hk⟩:=HN_.1 hp;have:=rkN_lt hx hk h;unfold num;omega
theorem TZ_ : ∀(ts:List RT) (ah:Nat),(finR ah ts).Pairwise (· < ·)∧∀q∈finR ah ts,ah<q∧q≤ah+(lvL ts).length
 | [],ah=>by simp[finR]
 | t::ts,ah=>by
  obtain⟨h1,h2⟩:=TZ_ ts (ah+(lvs (flat t)).length)
  have hb:∀q∈((plN (flat t) (flat t).length).filter (enT t 0)).map (num (flat t) ah),ah<q∧q≤ah+(lvs (flat t)).length:=by
   intro q hq;obtain⟨p,hp,rfl⟩:=aV0.1 hq;obtain⟨x,hx,hk⟩:=HN_.1 (cN0.1 hp).1;have h3:=rkN_lt hx hk (aB0.1 hx).1;rw[FU_]at h3;unfold num;omega
  have hl:(lvL (t::ts)).length=(lvs (flat t)).length+(lvL ts).length:=by simp[lvL]
  rw[finR];refine⟨List.pairwise_append.2 ⟨?_,h1,?_⟩,?_⟩
  ·rw[dL0];refine List.Pairwise.imp_of_mem ?_ ((plN_pw _ _).filter _);intro a b ha _ hab;exact num_lt (cN0.1 ha).1 hab
  ·intro a ha b hb';have:=hb a ha;have:=h2 b hb';omega
  ·intro q hq
   rcases aI0.1 hq with hq | hq
   ·have:=hb q hq;omega
   ·have:=h2 q hq;omega
theorem sort_fin {l l':List Int} (hp:l.Perm l') (hs:l'.Pairwise (· < ·)):l.mergeSort (fun x y=>decide (x≤y))=l':=by
 have tr:∀a b c:Int,decide (a≤b)=true→decide (b≤c)=true→decide (a≤c)=true:=fun a b c h1 h2=>by simp only[decide_eq_true_eq]at *;omega
 have to:∀a b:Int,(decide (a≤b)||decide (b≤a))=true:=fun a b=>by simp only[dD0,decide_eq_true_eq];omega
 refine List.Perm.eq_of_pairwise (le:=fun a b=>decide (a≤b)=true) (fun a b _ _ h1 h2=> ?_) (List.pairwise_mergeSort tr to l) (hs.imp fun h=>by simp only[decide_eq_true_eq];omega) ((dU0 l _).trans hp);simp only[decide_eq_true_eq]at h1 h2;omega
def toI (n:Nat):Int:=(n:Int)
def IP_ (ts:List RT):List Int:=(if anyE ts then [0]else [])++(finR 0 ts).map toI
theorem fins_law (ts:List RT) (hok:∀t∈ts,okT t=true):((laN 0 ts).map toI++(if anyE ts then [0]else [])).mergeSort (fun x y=>decide (x≤y))=IP_ ts:=by
 refine sort_fin ?_ ?_
 ·unfold IP_;exact List.perm_append_comm.trans (List.Perm.append_left _ ((VZ_ ts 0 hok).map toI))
 ·obtain⟨h1,h2⟩:=TZ_ ts 0
  have hm:((finR 0 ts).map toI).Pairwise (· < ·):=by
   rw[dL0];exact h1.imp fun h=>by unfold toI;omega
  unfold IP_
  split
  ·refine cH0.2 ⟨fun q hq=> ?_,hm⟩;obtain⟨p,hp,rfl⟩:=aV0.1 hq;have:=h2 p hp;unfold toI;omega
  ·exact hm
end Go.Proofs.YtchgnpnbcjflcaaGreat
end
section
namespace Go.Dm
variable [DMode]
open Go.Shelf Go.Proofs Go.RowKit
section
variable {P : Program} {B : Base} {s : DS} {a : Act} {w : World} {loc : Nat → Loc}
theorem Rel.newTyped {id n k bs:Nat} {cs:List DVal} {us:List Value} {ty:TypeId} {dst:Option Nat} (R:Rel B s a w loc) (hlim:lim B s≤n) (hmx:mxL cs≤n) (hdst:∀i,dst=some i→i<B.nt)
  (hus:rdV (cu s loc) (hm s loc B.M0) w.heap cs us) (hone:∀u∈us,u.oneCell'=true) (hk:cs.length=k) (hbs:bs≤150000000000000) :
  Rel B ⟨putS s.slots dst (.rx id n k 0 0),upE s.own id n (.row ty k bs [cs])⟩ (a.put dst (.pointer (some ⟨w.heap.size,0,none⟩))) (w.alloc (.cells us.toArray ty)) (upL loc id ⟨[w.heap.size],.slice (some ⟨w.heap.size,0,none⟩) 1 1⟩):=by
 have hw:=Upd.alloc' (Ab_ s.own loc) w (.cells us.toArray ty)
 have hL:∀b,b∈(⟨[w.heap.size],.slice (some ⟨w.heap.size,0,none⟩) 1 1⟩:Loc).blks→b<(w.alloc (.cells us.toArray ty)).heap.size∧((∃e∈s.own,e.id=id∧b∈(loc id).blks)∨w.heap.size≤b):=by
  intro b hb;simp only[aE0]at hb;subst hb;exact⟨by simp,.inr (Nat.le_refl _)⟩
 have W:=R.weakUp (obj:= .row ty k bs [cs]) hlim hw hL (.inl (Nat.le_refl _));have hul:=Au_ _ _ hus;refine R.up hlim hdst hw (fun b hb _=>by simp only[World.alloc,bV0];rw[if_neg (by omega)]) hL (.inl (Nat.le_refl _)) ?_ ?_
 ·refine⟨by simpa using hbs,.inr ⟨w.heap.size,us.toArray,1,rfl,rfl,heap_alloc_new w _,by simp,by unfold maxLen;omega,by simp;omega,?_⟩⟩
  have:=Vc_ (cur:=Ai_ (upE s.own id n (.row ty k bs [cs])) (upL loc id ⟨[w.heap.size],.slice (some ⟨w.heap.size,0,none⟩) 1 1⟩)) (M:=Ab_ (upE s.own id n (.row ty k bs [cs])) (upL loc id ⟨[w.heap.size],.slice (some ⟨w.heap.size,0,none⟩) 1 1⟩)++B.M0) (H:=(w.alloc (.cells us.toArray ty)).heap) k [cs] [us] [] rfl (by
   intro i c u hc hu
   cases i with
   | zero =>
    simp only[bD0,aA0]at hc hu;subst hc;subst hu;exact⟨hk,AG_ W cs us hmx hus,hone⟩
   | succ i=>simp at hc)
  simpa using this
 ·simp only[rd];intro l hl;rw[CL_]at hl;simp only[aA0]at hl;subst hl;exact⟨_,rfl,by simp⟩
theorem Ji_ {id i k bs:Nat} {t ty:TypeId} {pos:String} {z:List DVal} {Q:Exit→DS→Prop} (hi:i<B.nt) (hz:tZero P t=some z) (hp:z.all (oneO [])=true) (hk:z.length=k) (hbs:bs≤150000000000000)
  (h:∀r,lim B s≤r→Q .normal ⟨putS s.slots (some i) (.rx i r k 0 0),upE s.own i r (.row t k bs [z])⟩):DW P B (.region id #[⟨some i,.alloc t,ty,pos, #[],none⟩] false) Q s:=by
 intro a w loc R;refine wpIn_region ?_;rw[List.range_eq_range']
 show wpOpsIn _ _ _ _ _ [0] _ _
 simp only[wpOpsIn];have hw:Region.wanted (⟨some i,.alloc t,ty,pos, #[],none⟩:Oper) (yielded #[⟨some i,.alloc t,ty,pos, #[],none⟩] a.tmps)=true:=by simp[Region.wanted]
 simp only[dK0,bD0];rw[if_pos hw];obtain⟨zv,hzr,rfl⟩:=GC_ (w:=w) hz;have hus:rdV (cu s loc) (hm s loc B.M0) w.heap (zv.cells.toList.map ofV1) zv.cells.toList:=Be_ _
 have hmx:mxL (zv.cells.toList.map ofV1)=0:=by
  have h1:∀v,mx (ofV1 v)=0:=by
   intro v;unfold ofV1
   split<;>(try split)<;>simp[mx]
  generalize zv.cells.toList=l
  induction l with
  | nil=>simp[mxL]
  | cons v l ih=>simp only[List.map_cons,mxL,h1,ih];rfl
 have hone:=Fc_ R.st (zv.cells.toList.map ofV1) zv.cells.toList (bA0.2 fun d hd=>OU_ (bA0.1 hp d hd)) hus;have R':=R.newTyped (id:=i) (n:=lim B s) (k:=k) (bs:=bs) (ty:=t) (dst:=some i) (Nat.le_refl _) (by omega) (fun j hj=>by simp only[aA0]at hj;omega) hus hone hk hbs
 have hrun:(execOp a.eval ⟨some i,.alloc t,ty,pos, #[],none⟩).run P w= .ok (.value (.pointer (some ⟨w.heap.size,0,none⟩))) (w.alloc (.cells zv.cells.toList.toArray t)):=by
  simp[execOp,Instr.alloc,hzr,newVar,newRow]
 exact Fy_ (fun c hc=>by cases hc) hrun ⟨_,_,h _ (Nat.le_refl _),R'⟩
end
section
variable {P : Program} {ρ : Ren}
theorem RI_ {T n:Nat} (hd:P.depth≠0) (hs:P.cellsOf T≠0) (hn:1≤n):liesAt P P.depth T n 0 T 1=true:=by
 obtain⟨d,hd⟩:∃d,P.depth=d+1:=⟨P.depth-1,by omega⟩;have h1:sameLayout P (d+1) T T=true:=by simp[sameLayout]
 rw[hd];unfold liesAt;rw[hd];unfold rowAt;simp[hs,hn,h1]
theorem YH_ (w:World) (g n:Nat):Upd [g] w (w.drew.freeze ⟨g,0,none⟩ n):=by
 unfold World.freeze
 split
 ·exact Upd.drew _ w
 ·refine⟨rfl,rfl,rfl,fun _=>Nat.le_succ _,by simp,fun b hb hne=> ?_⟩;simp only[aE0]at hne;simp only[cF0];rw[if_neg (fun h=>hne h.symm)];rfl
set_option maxHeartbeats 1000000 in
set_option maxRecDepth 100000 in
theorem Eo_ (L:Lays.n169 P ρ) (X:Builder.Extra P ρ) (b g cap:Nat) (p:Value) (cs cur:Array Value) (l:List UInt8) (w:World) (h0:l≠[]) (hb:w.heap[b]? =some (.cells cs (ρ.t 72) (0,0))) (hb1:cs[1]? =some (.slice (some ⟨g,0,none⟩) l.length cap))
  (hg:w.heap[g]? =some (.cells cur (ρ.t 5) (0,0))) (hnc:l.length≤cap) (hcm:cap≤maxLen) (hcs:cur.size=cap) (htake:cur.toList.take l.length=Lib.byteCells l) :
  Calls P (ρ.f 169) #[.pointer (some ⟨b,0,none⟩)] w fun e w'=>e= .returned (.string ⟨l.toArray⟩)∧Upd [g] w w'∧w'=w.drew.freeze ⟨g,0,none⟩ l.length:=by
 have hl0:l.length≠0:=by simpa using h0
 have c1:w.drew.cell? ⟨b,1,none⟩=some (.slice (some ⟨g,0,none⟩) l.length cap):=by
  have:w.drew.heap[b]? =some (.cells cs (ρ.t 72) (0,0)):=hb;rw[Lib.cell_of_heap this];exact hb1
 have hSD:(Builtin.unsafeSliceData_ #[(ρ.t 37)] (ρ.t 127) #[.slice (some ⟨g,0,none⟩) l.length cap]).run P w.drew= .ok (.pointer (some ⟨g,0,none⟩)) w.drew :=
  Lib.run_unsafeSliceData_row _ _ _ _ _ _ (by omega)
 have hUS:(Builtin.unsafeString_ #[(ρ.t 127),(ρ.t 3)] (ρ.t 9) #[.pointer (some ⟨g,0,none⟩),.int .i64 l.length]).run P w.drew= .ok (.string ⟨l.toArray⟩) (w.drew.freeze ⟨g,0,none⟩ l.length):=by
  refine Lib.run_unsafeString_row w.drew (ρ.t 127) (ρ.t 3) (ρ.t 9) (ρ.t 5) L.t127 X.cellsByte g cur.size (by have hg':w.drew.heap[g]? =some (.cells cur (ρ.t 5) (0,0)):=hg;simp[World.shape?,hg']) l h0 (by omega) (by unfold maxLen at hcm;omega) ?_;intro j x hx;have hg':w.drew.heap[g]? =some (.cells cur (ρ.t 5) (0,0)):=hg;have hadd:(⟨g,0,none⟩:Addr).add j=⟨g,j,none⟩:=by unfold Addr.add;split<;>simp_all
  rw[hadd,Lib.cell_of_heap hg'];have hj:j<l.length:=(aB0.1 hx).1;have h2:(Lib.byteCells l)[j]? =some (.int .u8 x.toNat):=by simp[Lib.byteCells,hx]
  rw[←htake,bY0 hj]at h2;simpa using h2
 have mixed:=L.mixed;have t72:=L.t72;have a72:=L.a72;have z72:=L.z72;have v72:=L.v72;have u72:=run_underlying L.t72;have t70:=L.t70;have a70:=L.a70;have z70:=L.z70;have v70:=L.v70;have u70:=run_underlying L.t70;have t37:=L.t37;have a37:=L.a37;have z37:=L.z37;have v37:=L.v37;have u37:=run_underlying L.t37;have t127:=L.t127;have a127:=L.a127;have z127:=L.z127;have v127:=L.v127;have u127:=run_underlying L.t127
 have t3:=L.t3;have a3:=L.a3;have z3:=L.z3;have v3:=L.v3;have u3:=run_underlying L.t3;have t9:=L.t9;have a9:=L.a9;have z9:=L.z9;have v9:=L.v9;have u9:=run_underlying L.t9;have t5:=X.t5;have a5:=X.a5;have z5:=X.z5;have v5:=X.v5;have u5:=run_underlying X.t5
 go_enter L.f169,Body.n169_ntmps ρ
 go_wp2
 go_region_o
 all_goals (go_wp2;go_ret;exact⟨rfl,YH_ w g l.length,rfl⟩)
theorem Gt_ {cur:Cur} {M:List Nat} {H:Array Obj} {d0 d1:DVal} {arr:Array Value} (h:rdR cur M H 2 [[d0,d1]] arr 0):∃v0 v1 rest,arr=(v0::v1::rest).toArray∧rd cur M H d0 v0∧rd cur M H d1 v1:=by
 obtain⟨rows,r1,r2,r3,r4⟩:=Eg_ 2 _ arr 0 h
 match rows,r1 with
 | [us],_ =>
  obtain⟨g1,g2,g3⟩:=r3 0 _ _ rfl rfl;simp only[rdV]at g2;obtain⟨v0,r,rfl,h0,v1,r',rfl,h1,rfl⟩:=g2;have e0:=(r4 0 v0 (by simp)).1;have e1:=(r4 1 v1 (by simp)).1;obtain⟨l⟩:=arr
  match l,e0,e1 with
  | x::y::rest,e0,e1 =>
   simp at e0 e1;subst e0;subst e1;exact⟨x,y,rest,rfl,h0,h1⟩
theorem Ur_ {cur:Cur} {M:List Nat} {H:Array Obj} {d0 d1:DVal} {v0 v1:Value} {rest:List Value} (h0:rd cur M H d0 v0) (h1:rd cur M H d1 v1) (o0:v0.oneCell'=true) (o1:v1.oneCell'=true):rdR cur M H 2 [[d0,d1]] (v0::v1::rest).toArray 0:=by
 have:=Vc_ (cur:=cur) (M:=M) (H:=H) 2 [[d0,d1]] [[v0,v1]] rest rfl (by
  intro i c u hc hu
  cases i with
  | zero =>
   simp only[bD0,aA0]at hc hu;subst hc;subst hu;exact⟨rfl,⟨v0,_,rfl,h0,v1,_,rfl,h1,rfl⟩,by simp[o0,o1]⟩
  | succ i=>simp at hc)
 simpa using this
theorem Mu_ {g T:Nat} (hd:P.depth≠0) (hs:P.cellsOf T=2) (hE:Ci_ P g) (bs:Nat)
  (hcc:∀(b n:Nat) (w:World),w.cell? ⟨b,0,none⟩=some (.pointer none)→w.shape? b=some (T,n)→0<n→liesAt P P.depth T (n/P.cellsOf T) 0 T 1=true→w.frozen? ⟨b,0,none⟩=false →
   Calls P g #[.pointer (some ⟨b,0,none⟩)] w fun e w'=>e= .returned (.tuple #[])∧w'=w.setCell ⟨b,0,none⟩ (.pointer (some ⟨b,0,none⟩))) :
  AM_ P (.func g) [.rx 0 0 2 0 0] [⟨0,0,.row T 2 bs [[.nilp,.nilsl]]⟩] (.tup []) [⟨0,0,.row T 2 bs [[.rx 0 0 2 0 0,.nilsl]]⟩]:=by
 refine⟨by simp,hE,fun M w loc vs S hvs=> ?_⟩;have hk:=S.ok _ (aE0.2 rfl);obtain⟨hbs,hk⟩:=hk
 rcases hk with ⟨h,_⟩ | ⟨b,arr,cap,h1,h2,h3,h4,h5,h6,h7⟩
 ·simp at h
 ·obtain⟨v0,v1,rest,rfl,g0,g1⟩:=Gt_ h7;simp only[rd]at g0 g1;subst g0;subst g1;have hcur:Ai_ [(⟨0,0,.row T 2 bs [[.nilp,.nilsl]]⟩:Ent)] loc 0 0=some (loc 0):=by simp[Ai_,At_]
  simp only[rdV,rd]at hvs;obtain⟨pv,r,hvs,hp,rfl⟩:=hvs;obtain⟨b',hb',rfl⟩:=hp _ hcur;simp only at h1 h2;rw[h1]at hb';simp only[bH0,and_true]at hb';subst hb';have hvs':vs= #[.pointer (some ⟨b,0,none⟩)]:=by apply Array.ext';simpa using hvs
  subst hvs';have hsz:2≤(Array.size (Value.pointer none::Value.slice none 0 0::rest).toArray):=by simp
  refine⟨hE,(hcc b (rest.length+2) w (by rw[Lib.cell_of_heap h3];rfl) (by simp[World.shape?,h3]) (by omega) (RI_ hd (by omega) (by rw[hs];omega)) (Lib.frozen_of_heap h3 0)).mono ?_⟩;rintro e w' ⟨rfl,rfl⟩;refine⟨_,rfl,loc,?_,?_,?_,?_,?_⟩
  ·have hset:=setCell_eq_setRow w b 0 _ _ _ (.pointer (some ⟨b,0,none⟩)) h3;rw[hset];refine⟨S.nd,S.bl,S.ap,fun q hq=>by have:=S.lt q hq;simpa using this,fun e he=> ?_⟩;simp only[aE0]at he;subst he;refine⟨hbs,.inr ⟨b,_,cap,h1,h2,setRow_heap w b _ _ _ (0,0) h3,h4,h5,by simpa using h6,?_⟩⟩
   have:=Ur_ (cur:=Ai_ [(⟨0,0,.row T 2 bs [[.rx 0 0 2 0 0,.nilsl]]⟩:Ent)] loc) (M:=Ab_ [(⟨0,0,.row T 2 bs [[.rx 0 0 2 0 0,.nilsl]]⟩:Ent)] loc++M) (H:=(w.setRow b ((Value.pointer none::Value.slice none 0 0::rest).toArray.setIfInBounds 0 (.pointer (some ⟨b,0,none⟩)))).heap)
    (d0:= .rx 0 0 2 0 0) (d1:= .nilsl) (v0:= .pointer (some ⟨b,0,none⟩)) (v1:= .slice none 0 0) (rest:=rest) (by
     simp only[rd];intro l hl;have hc2:Ai_ [(⟨0,0,.row T 2 bs [[.rx 0 0 2 0 0,.nilsl]]⟩:Ent)] loc 0 0=some (loc 0):=by simp[Ai_,At_]
     rw[hc2]at hl;simp only[aA0]at hl;subst hl
     exact⟨b,h1,by simp⟩) (by simp[rd]) rfl rfl
   simpa using this
  ·refine⟨rfl,rfl,rfl,fun _=>Nat.le_refl _,by simp[World.setCell],fun q hq hne=> ?_⟩
   have hqb:b≠q:=by
    intro h;subst h;exact hne (by simp[Ab_,h1])
   simp[World.setCell,cF0,hqb]
  ·intro q hq;exact .inl hq
  ·intro e he _;simp only[aE0]at he;subst he;exact hcur
  ·simp[rd,rdV]
theorem Mt_ {g T:Nat} (hE:Ci_ P g) (bs:Nat) (q:DVal) (rest:List Ent) (hr:∀e∈rest,e.r=0)
  (hcc:∀(b:Nat) (w:World),w.cell? ⟨b,0,none⟩=some (.pointer (some ⟨b,0,none⟩))→Calls P g #[.pointer (some ⟨b,0,none⟩)] w fun e w'=>e= .returned (.tuple #[])∧w'=w) :
  AM_ P (.func g) [.rx 0 0 2 0 0] (⟨0,0,.row T 2 bs [[.rx 0 0 2 0 0,q]]⟩::rest) (.tup []) (⟨0,0,.row T 2 bs [[.rx 0 0 2 0 0,q]]⟩::rest):=by
 refine⟨fun e he=>by rcases aK0.1 he with rfl | he<;>simp_all,hE,fun M w loc vs S hvs=> ?_⟩;have hk:=S.ok _ aF0;obtain⟨hbs,hk⟩:=hk
 rcases hk with ⟨h,_⟩ | ⟨b,arr,cap,h1,h2,h3,h4,h5,h6,h7⟩
 ·simp at h
 ·obtain⟨v0,v1,rs,rfl,g0,g1⟩:=Gt_ h7;simp only[rd]at g0;have hcur:Ai_ ((⟨0,0,.row T 2 bs [[.rx 0 0 2 0 0,q]]⟩:Ent)::rest) loc 0 0=some (loc 0):=by simp[Ai_,At_]
  obtain⟨b0,hb0,rfl⟩:=g0 _ hcur;simp only[rdV,rd]at hvs;obtain⟨pv,r,hvs,hp,rfl⟩:=hvs;obtain⟨b',hb',rfl⟩:=hp _ hcur;simp only at h1 h2;rw[h1]at hb' hb0;simp only[bH0,and_true]at hb' hb0;subst hb';subst hb0;have hvs':vs= #[.pointer (some ⟨b,0,none⟩)]:=by apply Array.ext';simpa using hvs
  subst hvs';refine⟨hE,(hcc b w (by rw[Lib.cell_of_heap h3];rfl)).mono ?_⟩;rintro e w' ⟨rfl,rfl⟩;refine⟨_,rfl,loc,S,Upd.refl _ _,fun q hq=> .inl hq,fun e he _=>AA_ S.nd he,by simp[rd,rdV]⟩
theorem Ib_ (L:Lays.n169 P ρ) (X:Builder.Extra P ρ) (hE:Ci_ P (ρ.f 169)) (bs:Nat) (x:ByteArray) (hx:x.size≠0) :
  AM_ P (.func (ρ.f 169)) [.rx 0 0 2 0 0] [⟨0,0,.row (ρ.t 72) 2 bs [[.rx 0 0 2 0 0,.osl 1 0]]⟩,⟨1,0,.row (ρ.t 5) 1 1 (AH_ x)⟩] (.str x) []:=by
 refine⟨by simp,hE,fun M w loc vs S hvs=> ?_⟩;have hk:=S.ok _ aF0;have hk2:=S.ok _ (aD0 _ aF0);obtain⟨hbs,hk⟩:=hk;obtain⟨hbs2,hk2⟩:=hk2
 rcases hk with ⟨h,_⟩ | ⟨b,arr,cap,h1,h2,h3,h4,h5,h6,h7⟩
 ·simp at h
 rcases hk2 with ⟨h,_⟩ | ⟨g,cur,cap2,k1,k2,k3,k4,k5,k6,k7⟩
 ·have:=congrArg List.length h;rw[AF_]at this;exact absurd this hx
 ·obtain⟨v0,v1,rest,rfl,g0,g1⟩:=Gt_ h7;simp only[rd]at g0 g1;have hcur:Ai_ [(⟨0,0,.row (ρ.t 72) 2 bs [[.rx 0 0 2 0 0,.osl 1 0]]⟩:Ent),⟨1,0,.row (ρ.t 5) 1 1 (AH_ x)⟩] loc 0 0=some (loc 0):=by simp[Ai_,At_]
  have hcur1:Ai_ [(⟨0,0,.row (ρ.t 72) 2 bs [[.rx 0 0 2 0 0,.osl 1 0]]⟩:Ent),⟨1,0,.row (ρ.t 5) 1 1 (AH_ x)⟩] loc 1 0=some (loc 1):=by simp[Ai_,At_]
  have hv1:=g1 _ hcur1;simp only at k1 k2;rw[k2,AF_]at hv1;subst hv1;simp only[rdV,rd]at hvs;obtain⟨pv,r,hvs,hp,rfl⟩:=hvs;obtain⟨b',hb',rfl⟩:=hp _ hcur;simp only at h1 h2;rw[h1]at hb';simp only[bH0,and_true]at hb';subst hb';have hvs':vs= #[.pointer (some ⟨b,0,none⟩)]:=by apply Array.ext';simpa using hvs
  subst hvs';have hxl:x.data.toList.length=x.size:=rfl;obtain⟨rows,r1,r2,r3,r4⟩:=Eg_ 1 _ cur 0 k7
  have hfl:rows.flatten=Lib.byteCells x.data.toList:=by
   have:∀(bl:List UInt8) (rows:List (List Value)),rows.length=bl.length→(∀(i:Nat) (cs:List DVal) (us:List Value),(bl.map fun b=>[DVal.int .u8 (b.toNat:Int)])[i]? =some cs→rows[i]? =some us→cs.length=1∧rdV (Ai_ [(⟨0,0,.row (ρ.t 72) 2 bs [[.rx 0 0 2 0 0,.osl 1 0]]⟩:Ent),⟨1,0,.row (ρ.t 5) 1 1 (AH_ x)⟩] loc) (Ab_ [(⟨0,0,.row (ρ.t 72) 2 bs [[.rx 0 0 2 0 0,.osl 1 0]]⟩:Ent),⟨1,0,.row (ρ.t 5) 1 1 (AH_ x)⟩] loc++M) w.heap cs us∧∀u∈us,u.oneCell'=true)→rows.flatten=Lib.byteCells bl:=by
    intro bl
    induction bl with
    | nil=>intro rows hl _;rw[bO0 hl];rfl
    | cons y bl ih =>
     intro rows hl h
     match rows,hl with
     | us::rows,hl =>
      obtain⟨_,h1,_⟩:=h 0 _ _ rfl rfl;simp only[rdV,rd]at h1;obtain⟨v,r,rfl,⟨rfl,_⟩,rfl⟩:=h1;have:=ih rows (by simpa using hl) fun i cs us hc hu=>h (i+1) cs us (by simpa using hc) (by simpa using hu)
      simp[this,Lib.byteCells]
   exact this x.data.toList rows (by rw[r1,AF_];rfl) r3
  rw[AF_]at k4 r2;have hcsz:cur.size=cap2:=by omega
  have ht:=FO_ r2 r4 (by omega);rw[hfl,Nat.mul_one]at ht;refine⟨hE,(Eo_ L X b g cap2 v0 _ cur x.data.toList w (fun h=>hx (by rw[←hxl,h];rfl)) h3 rfl k3 k4 k5 hcsz ht).mono ?_⟩;rintro e w' ⟨rfl,hu,_⟩;refine⟨_,rfl,loc,⟨by simp,by simp[Ab_],by simp[Ab_],fun q hq=> ?_,by simp⟩,?_,by simp[Ab_],by simp,?_⟩
  ·have:=S.lt q (aP0 _ (by simpa[Ab_]using hq));exact cG0 this hu.size
  ·refine⟨hu.os,hu.tape,hu.output,hu.drawn,hu.size,fun q hq hne=>hu.blk q hq fun hm=>hne ?_⟩;simp only[aE0]at hm;subst hm;simp[Ab_,k1]
  ·simp only[rd];exact⟨trivial,by omega⟩
theorem Hn_ (L:Lays.n169 P ρ) (X:Builder.Extra P ρ) (hE:Ci_ P (ρ.f 169)) (bs:Nat) (x:ByteArray) (hx:x.size≠0) :
  AM_ P (.func (ρ.f 169)) [.rx 0 0 2 0 0] [⟨0,0,.row (ρ.t 72) 2 bs [[.rx 0 0 2 0 0,.osl 1 0]]⟩,⟨1,0,.row (ρ.t 5) 1 1 (AH_ x)⟩] (.str x) [⟨0,0,.row (ρ.t 72) 2 bs [[.rx 0 0 2 0 0,.sl 1 1 (AH_ x)]]⟩]:=by
 refine⟨by simp,hE,fun M w loc vs S hvs=> ?_⟩;have hk:=S.ok _ aF0;have hk2:=S.ok _ (aD0 _ aF0);obtain⟨hbs,hk⟩:=hk;obtain⟨hbs2,hk2⟩:=hk2
 rcases hk with ⟨h,_⟩ | ⟨b,arr,cap,h1,h2,h3,h4,h5,h6,h7⟩
 ·simp at h
 rcases hk2 with ⟨h,_⟩ | ⟨g,cur,cap2,k1,k2,k3,k4,k5,k6,k7⟩
 ·have:=congrArg List.length h;rw[AF_]at this;exact absurd this hx
 ·obtain⟨v0,v1,rest,rfl,g0,g1⟩:=Gt_ h7;simp only[rd]at g0 g1;have hcur:Ai_ [(⟨0,0,.row (ρ.t 72) 2 bs [[.rx 0 0 2 0 0,.osl 1 0]]⟩:Ent),⟨1,0,.row (ρ.t 5) 1 1 (AH_ x)⟩] loc 0 0=some (loc 0):=by simp[Ai_,At_]
  have hcur1:Ai_ [(⟨0,0,.row (ρ.t 72) 2 bs [[.rx 0 0 2 0 0,.osl 1 0]]⟩:Ent),⟨1,0,.row (ρ.t 5) 1 1 (AH_ x)⟩] loc 1 0=some (loc 1):=by simp[Ai_,At_]
  have hv1:=g1 _ hcur1;simp only at k1 k2;rw[k2,AF_]at hv1;subst hv1;simp only[rdV,rd]at hvs;obtain⟨pv,r,hvs,hp,rfl⟩:=hvs;obtain⟨b',hb',rfl⟩:=hp _ hcur;simp only at h1 h2;rw[h1]at hb';simp only[bH0,and_true]at hb';subst hb';have hvs':vs= #[.pointer (some ⟨b,0,none⟩)]:=by apply Array.ext';simpa using hvs
  subst hvs';have hxl:x.data.toList.length=x.size:=rfl;obtain⟨rows,r1,r2,r3,r4⟩:=Eg_ 1 _ cur 0 k7
  have hfl:rows.flatten=Lib.byteCells x.data.toList:=by
   have:∀(bl:List UInt8) (rows:List (List Value)),rows.length=bl.length→(∀(i:Nat) (cs:List DVal) (us:List Value),(bl.map fun b=>[DVal.int .u8 (b.toNat:Int)])[i]? =some cs→rows[i]? =some us→cs.length=1∧rdV (Ai_ [(⟨0,0,.row (ρ.t 72) 2 bs [[.rx 0 0 2 0 0,.osl 1 0]]⟩:Ent),⟨1,0,.row (ρ.t 5) 1 1 (AH_ x)⟩] loc) (Ab_ [(⟨0,0,.row (ρ.t 72) 2 bs [[.rx 0 0 2 0 0,.osl 1 0]]⟩:Ent),⟨1,0,.row (ρ.t 5) 1 1 (AH_ x)⟩] loc++M) w.heap cs us∧∀u∈us,u.oneCell'=true)→rows.flatten=Lib.byteCells bl:=by
    intro bl
    induction bl with
    | nil=>intro rows hl _;rw[bO0 hl];rfl
    | cons y bl ih =>
     intro rows hl h
     match rows,hl with
     | us::rows,hl =>
      obtain⟨_,h1,_⟩:=h 0 _ _ rfl rfl;simp only[rdV,rd]at h1;obtain⟨v,r,rfl,⟨rfl,_⟩,rfl⟩:=h1;have:=ih rows (by simpa using hl) fun i cs us hc hu=>h (i+1) cs us (by simpa using hc) (by simpa using hu)
      simp[this,Lib.byteCells]
   exact this x.data.toList rows (by rw[r1,AF_];rfl) r3
  rw[AF_]at k4 r2;have hcsz:cur.size=cap2:=by omega
  have ht:=FO_ r2 r4 (by omega);rw[hfl,Nat.mul_one]at ht;refine⟨hE,(Eo_ L X b g cap2 v0 _ cur x.data.toList w (fun h=>hx (by rw[←hxl,h];rfl)) h3 rfl k3 k4 k5 hcsz ht).mono ?_⟩;rintro e w' ⟨rfl,hu,hw⟩;have hv0:=g0 _ hcur;obtain⟨b2,hb2,rfl⟩:=hv0;rw[h1]at hb2;simp only[bH0,and_true]at hb2;subst hb2;have hbl:=S.bl;have hap:=S.ap;simp only[Ab_,cM0,List.flatMap_nil,h1,k1,bM0,List.cons_append,List.nil_append,cQ0,aE0]at hbl
  have hbg:b≠g:=hbl.1;have hbM:b∉M:=hap b (by simp[Ab_,h1]);have hgM:g∉M:=hap g (by simp[Ab_,k1]);have hblt:=(aG0.1 h3).1;have hglt:=(aG0.1 k3).1;have hH:Ab_ [(⟨0,0,.row (ρ.t 72) 2 bs [[.rx 0 0 2 0 0,.sl 1 1 (AH_ x)]]⟩:Ent)] loc=[b]:=by simp[Ab_,h1]
  have hhb:w'.heap[b]? =some (.cells (Value.pointer (some ⟨b,0*2+0,none⟩):: .slice (some ⟨g,0,none⟩) x.size cap2::rest).toArray (ρ.t 72) (0,0)):=by rw[hu.blk b hblt (by simpa using hbg)];exact h3
  have hhg:∃fz,w'.heap[g]? =some (.cells cur (ρ.t 5) fz):=by
   rw[hw];unfold World.freeze;rw[if_neg (by rw[hxl];exact hx)];have:w.drew.heap[g]? =some (.cells cur (ρ.t 5) (0,0)):=k3;simp only[cF0,if_true,this];exact⟨_,rfl⟩
  have W:Weak (Ai_ [(⟨0,0,.row (ρ.t 72) 2 bs [[.rx 0 0 2 0 0,.osl 1 0]]⟩:Ent),⟨1,0,.row (ρ.t 5) 1 1 (AH_ x)⟩] loc) (Ai_ [(⟨0,0,.row (ρ.t 72) 2 bs [[.rx 0 0 2 0 0,.sl 1 1 (AH_ x)]]⟩:Ent)] loc) (Ab_ [(⟨0,0,.row (ρ.t 72) 2 bs [[.rx 0 0 2 0 0,.osl 1 0]]⟩:Ent),⟨1,0,.row (ρ.t 5) 1 1 (AH_ x)⟩] loc++M) ([b]++M) w.heap w'.heap 0:=by
   refine⟨fun id r l hr _=>absurd hr (Nat.not_lt_zero _),fun q o hq _ ho=> ?_,fun q o hq _ _ hm=>hq ?_⟩
   ·rw[hu.blk q (aG0.1 ho).1 (fun hm=>hq ?_)]
    ·exact ho
    ·simp only[aE0]at hm;subst hm;simp[Ab_,k1]
   ·rcases aI0.1 hm with hm | hm
    ·simp only[aE0]at hm;subst hm;simp[Ab_,h1]
    ·exact aP0 _ hm
  refine⟨_,rfl,loc,⟨by simp,by rw[hH];simp,fun q hq=> ?_,fun q hq=> ?_,?_⟩,?_,fun q hq=> ?_,?_,?_⟩
  ·rw[hH]at hq;simp only[aE0]at hq;subst hq;exact hbM
  ·rw[hH]at hq;refine cG0 (S.lt q ?_) hu.size
   rcases aI0.1 hq with hq | hq
   ·simp only[aE0]at hq;subst hq;simp[Ab_,h1]
   ·exact aP0 _ hq
  ·intro e he;simp only[aE0]at he;subst he;rw[hH];refine⟨by simpa using hbs,.inr ⟨b,_,cap,h1,by simpa using h2,hhb,by simpa using h4,h5,h6,Ur_ ?_ ?_ rfl rfl⟩⟩
   ·simp only[rd];intro l hl;have:Ai_ [(⟨0,0,.row (ρ.t 72) 2 bs [[.rx 0 0 2 0 0,.sl 1 1 (AH_ x)]]⟩:Ent)] loc 0 0=some (loc 0):=by simp[Ai_,At_]
    rw[this]at hl;simp only[aA0]at hl;subst hl;exact⟨b,h1,rfl⟩
   ·simp only[rd];obtain⟨fz,hfz⟩:=hhg;rw[AF_]
    exact⟨_,_,rfl,by simpa[AF_]using k4,k5,by simpa[AF_]using hbs2,.inr ⟨g,0,cur,_,fz,rfl,fun hm=>by
     rcases aI0.1 hm with hm | hm
     ·simp only[aE0]at hm;exact hbg hm.symm
     ·exact hgM hm,hfz,BT_ W 1 _ cur 0 (by rw[EG_];exact Nat.le_refl _) k7⟩⟩
  ·refine⟨hu.os,hu.tape,hu.output,hu.drawn,hu.size,fun q hq hne=>hu.blk q hq fun hm=>hne ?_⟩;simp only[aE0]at hm;subst hm;simp[Ab_,k1]
  ·rw[hH]at hq;simp only[aE0]at hq;subst hq;exact .inl (by simp[Ab_,h1])
  ·intro e he _;simp only[aE0]at he;subst he;exact hcur
  ·simp only[rd];exact⟨trivial,by omega⟩
end
end Go.Dm
end
section

/-
  DERIVED: THE SHELF's CONTRACTS AT THIS DUMP, IN PLAIN WORDS (tools/lay-plain.mjs out of 'YtchgnpnbcjflcaaGreatLay.lean', which tools/lay-shelf.mjs wrote): THE SAME DECLARATIONS UNDER THE SAME NAMES: 'import', 'namespace', 'open', 'def', 'theorem' AND NOTHING ELSE: no command of the shelf's: FOR A HAND-IN. Each laying: the table of numbers ('.._ren') and one theorem, a field a fact of the dump's own or the kernel's comparison; each contract: ONE APPLICATION.
-/
namespace Go.Proofs
open Go.Shelf
def Tryz.sortStr_ren : Go.Shelf.Ren:=⟨fun | 6=>258 | 8=>187 | 9=>317 | 19=>274 | 20=>275 | 21=>339 | 22=>340 | 23=>341 | 24=>342 | 25=>343 | 26=>344 | 27=>345 | 28=>346 | 29=>347 | 36=>353 | 31=>325 | 32=>326 | 37=>354 | 38=>355 | 39=>335 | 41=>357 | n=>n,fun | 27=>46 | 29=>9 | 3=>3 | 32=>256 | 26=>46 | 0=>0 | 44=>314 | 46=>316 | 4=>4 | 36=>308 | 35=>307 | 41=>243 | 5=>5 | 9=>9 | 53=>353 | 57=>357 | 63=>372 | 64=>328 | n=>n,fun | n=>n⟩
theorem Tryz.sortStr : Go.Proofs.SlLaysM.n6 Tryz.prog Tryz.sortStr_ren:={
 mixed:=by kernel_rfl
 f6:=⟨Tryz.f258.name,by decide,Tryz.func258.trans (congrArg some (by kernel_rfl))⟩
 f8:=Tryz.func187.trans (congrArg some (by kernel_rfl))
 f9:=⟨Tryz.f317.name,by decide,Tryz.func317.trans (congrArg some (by kernel_rfl))⟩
 f19:=Tryz.func274.trans (congrArg some (by kernel_rfl))
 f20:=Tryz.func275.trans (congrArg some (by kernel_rfl))
 f21:=⟨Tryz.f339.name,by decide,Tryz.func339.trans (congrArg some (by kernel_rfl))⟩
 f22:=⟨Tryz.f340.name,by decide,Tryz.func340.trans (congrArg some (by kernel_rfl))⟩
 f23:=⟨Tryz.f341.name,by decide,Tryz.func341.trans (congrArg some (by kernel_rfl))⟩
 f24:=⟨Tryz.f342.name,by decide,Tryz.func342.trans (congrArg some (by kernel_rfl))⟩
 f25:=⟨Tryz.f343.name,by decide,Tryz.func343.trans (congrArg some (by kernel_rfl))⟩
 f26:=⟨Tryz.f344.name,by decide,Tryz.func344.trans (congrArg some (by kernel_rfl))⟩
 f27:=⟨Tryz.f345.name,by decide,Tryz.func345.trans (congrArg some (by kernel_rfl))⟩
 f28:=⟨Tryz.f346.name,by decide,Tryz.func346.trans (congrArg some (by kernel_rfl))⟩
 f29:=⟨Tryz.f347.name,by decide,Tryz.func347.trans (congrArg some (by kernel_rfl))⟩
 f31:=Tryz.func325.trans (congrArg some (by kernel_rfl))
 f32:=Tryz.func326.trans (congrArg some (by kernel_rfl))
 f36:=⟨Tryz.f353.name,by decide,Tryz.func353.trans (congrArg some (by kernel_rfl))⟩
 f37:=⟨Tryz.f354.name,by decide,Tryz.func354.trans (congrArg some (by kernel_rfl))⟩
 f38:=⟨Tryz.f355.name,by decide,Tryz.func355.trans (congrArg some (by kernel_rfl))⟩
 f39:=⟨Tryz.f335.name,by decide,Tryz.func335.trans (congrArg some (by kernel_rfl))⟩
 f41:=⟨Tryz.f357.name,by decide,Tryz.func357.trans (congrArg some (by kernel_rfl))⟩
 t0:=Tryz.underlying0
 a0:=Tryz.isAgg0
 z0:=Tryz.sizeOf0
 v0:=Tryz.zeroValue0
 t3:=Tryz.underlying3
 a3:=Tryz.isAgg3
 z3:=Tryz.sizeOf3
 v3:=Tryz.zeroValue3
 t4:=Tryz.underlying4
 a4:=Tryz.isAgg4
 z4:=Tryz.sizeOf4
 v4:=Tryz.zeroValue4
 t5:=Tryz.underlying5
 a5:=Tryz.isAgg5
 z5:=Tryz.sizeOf5
 v5:=Tryz.zeroValue5
 t9:=Tryz.underlying9
 a9:=Tryz.isAgg9
 z9:=Tryz.sizeOf9
 v9:=Tryz.zeroValue9
 t26:=Tryz.underlying46
 a26:=Tryz.isAgg46
 z26:=Tryz.sizeOf46
 v26:=Tryz.zeroValue46
 t27:=Tryz.underlying46
 a27:=Tryz.isAgg46
 z27:=Tryz.sizeOf46
 v27:=Tryz.zeroValue46
 t29:=Tryz.underlying9
 a29:=Tryz.isAgg9
 z29:=Tryz.sizeOf9
 v29:=Tryz.zeroValue9
 t32:=Tryz.underlying256
 a32:=Tryz.isAgg256
 z32:=Tryz.sizeOf256
 v32:=Tryz.zeroValue256
 t35:=Tryz.underlying307
 a35:=Tryz.isAgg307
 z35:=Tryz.sizeOf307
 v35:=Tryz.zeroValue307
 t36:=Tryz.underlying308
 a36:=Tryz.isAgg308
 z36:=Tryz.sizeOf308
 v36:=Tryz.zeroValue308
 t41:=Tryz.underlying243
 a41:=Tryz.isAgg243
 z41:=Tryz.sizeOf243
 v41:=Tryz.zeroValue243
 t44:=Tryz.underlying314
 a44:=Tryz.isAgg314
 z44:=Tryz.sizeOf314
 v44:=Tryz.zeroValue314
 t46:=Tryz.underlying316
 a46:=Tryz.isAgg316
 z46:=Tryz.sizeOf316
 v46:=Tryz.zeroValue316
 t53:=Tryz.underlying353
 a53:=Tryz.isAgg353
 z53:=Tryz.sizeOf353
 v53:=Tryz.zeroValue353
 t57:=Tryz.underlying357
 a57:=Tryz.isAgg357
 z57:=Tryz.sizeOf357
 v57:=Tryz.zeroValue357
 t63:=Tryz.underlying372
 a63:=Tryz.isAgg372
 z63:=Tryz.sizeOf372
 v63:=Tryz.zeroValue372
 t64:=Tryz.underlying328
 a64:=Tryz.isAgg328
 z64:=Tryz.sizeOf328
 v64:=Tryz.zeroValue328 }
def Tryz.bldString_ren : Go.Shelf.Ren:=⟨fun | 169=>306 | n=>n,fun | 70=>335 | 9=>9 | 0=>0 | 72=>338 | 37=>336 | 127=>363 | 3=>3 | 5=>5 | n=>n,fun | n=>n⟩
theorem Tryz.bldString : Go.Proofs.Lays.n169 Tryz.prog Tryz.bldString_ren:={
 mixed:=by kernel_rfl
 f169:=Tryz.func306.trans (congrArg some (by kernel_rfl))
 t0:=Tryz.underlying0
 a0:=Tryz.isAgg0
 z0:=Tryz.sizeOf0
 v0:=Tryz.zeroValue0
 t3:=Tryz.underlying3
 a3:=Tryz.isAgg3
 z3:=Tryz.sizeOf3
 v3:=Tryz.zeroValue3
 t9:=Tryz.underlying9
 a9:=Tryz.isAgg9
 z9:=Tryz.sizeOf9
 v9:=Tryz.zeroValue9
 t37:=Tryz.underlying336
 a37:=Tryz.isAgg336
 z37:=Tryz.sizeOf336
 v37:=Tryz.zeroValue336
 t70:=Tryz.underlying335
 a70:=Tryz.isAgg335
 z70:=Tryz.sizeOf335
 v70:=Tryz.zeroValue335
 t72:=Tryz.underlying338
 a72:=Tryz.isAgg338
 z72:=Tryz.sizeOf338
 v72:=Tryz.zeroValue338
 t127:=Tryz.underlying363
 a127:=Tryz.isAgg363
 z127:=Tryz.sizeOf363
 v127:=Tryz.zeroValue363 }
def Tryz.sortFArc_ren : Go.Shelf.Ren:=⟨fun | 6=>108 | 15=>187 | 14=>186 | 28=>274 | 29=>275 | 20=>266 | 21=>267 | 22=>268 | 23=>269 | 24=>270 | 25=>271 | 26=>272 | 27=>273 | 46=>324 | 47=>325 | 48=>326 | 49=>327 | 50=>328 | 57=>349 | n=>n,fun | 22=>37 | 24=>97 | 25=>172 | 3=>3 | 39=>256 | 0=>0 | 53=>314 | 55=>316 | 4=>4 | 46=>308 | 45=>307 | 50=>243 | 5=>5 | 9=>9 | 66=>353 | 70=>357 | 76=>372 | 77=>328 | n=>n,fun | n=>n⟩
theorem Tryz.sortFArc : Go.Proofs.SlLaysF0.n6 Tryz.prog Tryz.sortFArc_ren:={
 mixed:=by kernel_rfl
 f6:=⟨Tryz.f108.name,by decide,Tryz.func108.trans (congrArg some (by kernel_rfl))⟩
 f14:=⟨Tryz.f186.name,by decide,Tryz.func186.trans (congrArg some (by kernel_rfl))⟩
 f15:=Tryz.func187.trans (congrArg some (by kernel_rfl))
 f20:=⟨Tryz.f266.name,by decide,Tryz.func266.trans (congrArg some (by kernel_rfl))⟩
 f21:=⟨Tryz.f267.name,by decide,Tryz.func267.trans (congrArg some (by kernel_rfl))⟩
 f22:=⟨Tryz.f268.name,by decide,Tryz.func268.trans (congrArg some (by kernel_rfl))⟩
 f23:=⟨Tryz.f269.name,by decide,Tryz.func269.trans (congrArg some (by kernel_rfl))⟩
 f24:=⟨Tryz.f270.name,by decide,Tryz.func270.trans (congrArg some (by kernel_rfl))⟩
 f25:=⟨Tryz.f271.name,by decide,Tryz.func271.trans (congrArg some (by kernel_rfl))⟩
 f26:=⟨Tryz.f272.name,by decide,Tryz.func272.trans (congrArg some (by kernel_rfl))⟩
 f27:=⟨Tryz.f273.name,by decide,Tryz.func273.trans (congrArg some (by kernel_rfl))⟩
 f28:=Tryz.func274.trans (congrArg some (by kernel_rfl))
 f29:=Tryz.func275.trans (congrArg some (by kernel_rfl))
 f46:=⟨Tryz.f324.name,by decide,Tryz.func324.trans (congrArg some (by kernel_rfl))⟩
 f47:=Tryz.func325.trans (congrArg some (by kernel_rfl))
 f48:=Tryz.func326.trans (congrArg some (by kernel_rfl))
 f49:=⟨Tryz.f327.name,by decide,Tryz.func327.trans (congrArg some (by kernel_rfl))⟩
 f50:=⟨Tryz.f328.name,by decide,Tryz.func328.trans (congrArg some (by kernel_rfl))⟩
 f57:=⟨Tryz.f349.name,by decide,Tryz.func349.trans (congrArg some (by kernel_rfl))⟩
 t0:=Tryz.underlying0
 a0:=Tryz.isAgg0
 z0:=Tryz.sizeOf0
 v0:=Tryz.zeroValue0
 t3:=Tryz.underlying3
 a3:=Tryz.isAgg3
 z3:=Tryz.sizeOf3
 v3:=Tryz.zeroValue3
 t4:=Tryz.underlying4
 a4:=Tryz.isAgg4
 z4:=Tryz.sizeOf4
 v4:=Tryz.zeroValue4
 t5:=Tryz.underlying5
 a5:=Tryz.isAgg5
 z5:=Tryz.sizeOf5
 v5:=Tryz.zeroValue5
 t9:=Tryz.underlying9
 a9:=Tryz.isAgg9
 z9:=Tryz.sizeOf9
 v9:=Tryz.zeroValue9
 t22:=Tryz.underlying37
 a22:=Tryz.isAgg37
 z22:=Tryz.sizeOf37
 v22:=Tryz.zeroValue37
 t25:=Tryz.underlying172
 a25:=Tryz.isAgg172
 z25:=Tryz.sizeOf172
 v25:=Tryz.zeroValue172
 t39:=Tryz.underlying256
 a39:=Tryz.isAgg256
 z39:=Tryz.sizeOf256
 v39:=Tryz.zeroValue256
 t45:=Tryz.underlying307
 a45:=Tryz.isAgg307
 z45:=Tryz.sizeOf307
 v45:=Tryz.zeroValue307
 t46:=Tryz.underlying308
 a46:=Tryz.isAgg308
 z46:=Tryz.sizeOf308
 v46:=Tryz.zeroValue308
 t50:=Tryz.underlying243
 a50:=Tryz.isAgg243
 z50:=Tryz.sizeOf243
 v50:=Tryz.zeroValue243
 t53:=Tryz.underlying314
 a53:=Tryz.isAgg314
 z53:=Tryz.sizeOf314
 v53:=Tryz.zeroValue314
 t55:=Tryz.underlying316
 a55:=Tryz.isAgg316
 z55:=Tryz.sizeOf316
 v55:=Tryz.zeroValue316
 t66:=Tryz.underlying353
 a66:=Tryz.isAgg353
 z66:=Tryz.sizeOf353
 v66:=Tryz.zeroValue353
 t70:=Tryz.underlying357
 a70:=Tryz.isAgg357
 z70:=Tryz.sizeOf357
 v70:=Tryz.zeroValue357
 t76:=Tryz.underlying372
 a76:=Tryz.isAgg372
 z76:=Tryz.sizeOf372
 v76:=Tryz.zeroValue372
 t77:=Tryz.underlying328
 a77:=Tryz.isAgg328
 z77:=Tryz.sizeOf328
 v77:=Tryz.zeroValue328 }
def Tryz.sortProd_ren : Go.Shelf.Ren:=⟨fun | 6=>122 | 15=>187 | 14=>195 | 28=>274 | 29=>275 | 20=>286 | 21=>287 | 22=>288 | 23=>289 | 24=>290 | 25=>291 | 26=>292 | 27=>293 | 46=>332 | 47=>325 | 48=>326 | 49=>333 | 50=>334 | 57=>351 | n=>n,fun | 22=>27 | 24=>92 | 25=>187 | 3=>3 | 39=>256 | 0=>0 | 53=>314 | 55=>316 | 4=>4 | 46=>308 | 45=>307 | 50=>243 | 5=>5 | 9=>9 | 66=>353 | 70=>357 | 76=>372 | 77=>328 | n=>n,fun | n=>n⟩
theorem Tryz.sortProd : Go.Proofs.SlLaysF0.n6 Tryz.prog Tryz.sortProd_ren:={
 mixed:=by kernel_rfl
 f6:=⟨Tryz.f122.name,by decide,Tryz.func122.trans (congrArg some (by kernel_rfl))⟩
 f14:=⟨Tryz.f195.name,by decide,Tryz.func195.trans (congrArg some (by kernel_rfl))⟩
 f15:=Tryz.func187.trans (congrArg some (by kernel_rfl))
 f20:=⟨Tryz.f286.name,by decide,Tryz.func286.trans (congrArg some (by kernel_rfl))⟩
 f21:=⟨Tryz.f287.name,by decide,Tryz.func287.trans (congrArg some (by kernel_rfl))⟩
 f22:=⟨Tryz.f288.name,by decide,Tryz.func288.trans (congrArg some (by kernel_rfl))⟩
 f23:=⟨Tryz.f289.name,by decide,Tryz.func289.trans (congrArg some (by kernel_rfl))⟩
 f24:=⟨Tryz.f290.name,by decide,Tryz.func290.trans (congrArg some (by kernel_rfl))⟩
 f25:=⟨Tryz.f291.name,by decide,Tryz.func291.trans (congrArg some (by kernel_rfl))⟩
 f26:=⟨Tryz.f292.name,by decide,Tryz.func292.trans (congrArg some (by kernel_rfl))⟩
 f27:=⟨Tryz.f293.name,by decide,Tryz.func293.trans (congrArg some (by kernel_rfl))⟩
 f28:=Tryz.func274.trans (congrArg some (by kernel_rfl))
 f29:=Tryz.func275.trans (congrArg some (by kernel_rfl))
 f46:=⟨Tryz.f332.name,by decide,Tryz.func332.trans (congrArg some (by kernel_rfl))⟩
 f47:=Tryz.func325.trans (congrArg some (by kernel_rfl))
 f48:=Tryz.func326.trans (congrArg some (by kernel_rfl))
 f49:=⟨Tryz.f333.name,by decide,Tryz.func333.trans (congrArg some (by kernel_rfl))⟩
 f50:=⟨Tryz.f334.name,by decide,Tryz.func334.trans (congrArg some (by kernel_rfl))⟩
 f57:=⟨Tryz.f351.name,by decide,Tryz.func351.trans (congrArg some (by kernel_rfl))⟩
 t0:=Tryz.underlying0
 a0:=Tryz.isAgg0
 z0:=Tryz.sizeOf0
 v0:=Tryz.zeroValue0
 t3:=Tryz.underlying3
 a3:=Tryz.isAgg3
 z3:=Tryz.sizeOf3
 v3:=Tryz.zeroValue3
 t4:=Tryz.underlying4
 a4:=Tryz.isAgg4
 z4:=Tryz.sizeOf4
 v4:=Tryz.zeroValue4
 t5:=Tryz.underlying5
 a5:=Tryz.isAgg5
 z5:=Tryz.sizeOf5
 v5:=Tryz.zeroValue5
 t9:=Tryz.underlying9
 a9:=Tryz.isAgg9
 z9:=Tryz.sizeOf9
 v9:=Tryz.zeroValue9
 t22:=Tryz.underlying27
 a22:=Tryz.isAgg27
 z22:=Tryz.sizeOf27
 v22:=Tryz.zeroValue27
 t25:=Tryz.underlying187
 a25:=Tryz.isAgg187
 z25:=Tryz.sizeOf187
 v25:=Tryz.zeroValue187
 t39:=Tryz.underlying256
 a39:=Tryz.isAgg256
 z39:=Tryz.sizeOf256
 v39:=Tryz.zeroValue256
 t45:=Tryz.underlying307
 a45:=Tryz.isAgg307
 z45:=Tryz.sizeOf307
 v45:=Tryz.zeroValue307
 t46:=Tryz.underlying308
 a46:=Tryz.isAgg308
 z46:=Tryz.sizeOf308
 v46:=Tryz.zeroValue308
 t50:=Tryz.underlying243
 a50:=Tryz.isAgg243
 z50:=Tryz.sizeOf243
 v50:=Tryz.zeroValue243
 t53:=Tryz.underlying314
 a53:=Tryz.isAgg314
 z53:=Tryz.sizeOf314
 v53:=Tryz.zeroValue314
 t55:=Tryz.underlying316
 a55:=Tryz.isAgg316
 z55:=Tryz.sizeOf316
 v55:=Tryz.zeroValue316
 t66:=Tryz.underlying353
 a66:=Tryz.isAgg353
 z66:=Tryz.sizeOf353
 v66:=Tryz.zeroValue353
 t70:=Tryz.underlying357
 a70:=Tryz.isAgg357
 z70:=Tryz.sizeOf357
 v70:=Tryz.zeroValue357
 t76:=Tryz.underlying372
 a76:=Tryz.isAgg372
 z76:=Tryz.sizeOf372
 v76:=Tryz.zeroValue372
 t77:=Tryz.underlying328
 a77:=Tryz.isAgg328
 z77:=Tryz.sizeOf328
 v77:=Tryz.zeroValue328 }
def Tryz.sortInt_ren : Go.Shelf.Ren:=⟨fun | 189=>110 | 125=>187 | 257=>191 | 128=>274 | 129=>275 | 294=>277 | 295=>278 | 296=>279 | 297=>280 | 298=>281 | 299=>282 | 216=>283 | 300=>284 | 301=>285 | 328=>329 | 329=>325 | 330=>326 | 331=>330 | 332=>331 | 215=>276 | 343=>350 | n=>n,fun | 28=>36 | 3=>3 | 46=>256 | 0=>0 | 51=>314 | 53=>316 | 4=>4 | 183=>308 | 182=>307 | 131=>243 | 5=>5 | 9=>9 | 218=>353 | 222=>357 | 228=>372 | 229=>328 | n=>n,fun | n=>n⟩
theorem Tryz.sortInt : Go.Proofs.Lays.n189 Tryz.prog Tryz.sortInt_ren:={
 mixed:=by kernel_rfl
 f125:=Tryz.func187.trans (congrArg some (by kernel_rfl))
 f128:=Tryz.func274.trans (congrArg some (by kernel_rfl))
 f129:=Tryz.func275.trans (congrArg some (by kernel_rfl))
 f189:=Tryz.func110.trans (congrArg some (by kernel_rfl))
 f215:=Tryz.func276.trans (congrArg some (by kernel_rfl))
 f216:=Tryz.func283.trans (congrArg some (by kernel_rfl))
 f257:=Tryz.func191.trans (congrArg some (by kernel_rfl))
 f294:=Tryz.func277.trans (congrArg some (by kernel_rfl))
 f295:=Tryz.func278.trans (congrArg some (by kernel_rfl))
 f296:=Tryz.func279.trans (congrArg some (by kernel_rfl))
 f297:=Tryz.func280.trans (congrArg some (by kernel_rfl))
 f298:=Tryz.func281.trans (congrArg some (by kernel_rfl))
 f299:=Tryz.func282.trans (congrArg some (by kernel_rfl))
 f300:=Tryz.func284.trans (congrArg some (by kernel_rfl))
 f301:=Tryz.func285.trans (congrArg some (by kernel_rfl))
 f328:=Tryz.func329.trans (congrArg some (by kernel_rfl))
 f329:=Tryz.func325.trans (congrArg some (by kernel_rfl))
 f330:=Tryz.func326.trans (congrArg some (by kernel_rfl))
 f331:=Tryz.func330.trans (congrArg some (by kernel_rfl))
 f332:=Tryz.func331.trans (congrArg some (by kernel_rfl))
 f343:=Tryz.func350.trans (congrArg some (by kernel_rfl))
 t0:=Tryz.underlying0
 a0:=Tryz.isAgg0
 z0:=Tryz.sizeOf0
 v0:=Tryz.zeroValue0
 t3:=Tryz.underlying3
 a3:=Tryz.isAgg3
 z3:=Tryz.sizeOf3
 v3:=Tryz.zeroValue3
 t4:=Tryz.underlying4
 a4:=Tryz.isAgg4
 z4:=Tryz.sizeOf4
 v4:=Tryz.zeroValue4
 t5:=Tryz.underlying5
 a5:=Tryz.isAgg5
 z5:=Tryz.sizeOf5
 v5:=Tryz.zeroValue5
 t9:=Tryz.underlying9
 a9:=Tryz.isAgg9
 z9:=Tryz.sizeOf9
 v9:=Tryz.zeroValue9
 t28:=Tryz.underlying36
 a28:=Tryz.isAgg36
 z28:=Tryz.sizeOf36
 v28:=Tryz.zeroValue36
 t46:=Tryz.underlying256
 a46:=Tryz.isAgg256
 z46:=Tryz.sizeOf256
 v46:=Tryz.zeroValue256
 t51:=Tryz.underlying314
 a51:=Tryz.isAgg314
 z51:=Tryz.sizeOf314
 v51:=Tryz.zeroValue314
 t53:=Tryz.underlying316
 a53:=Tryz.isAgg316
 z53:=Tryz.sizeOf316
 v53:=Tryz.zeroValue316
 t131:=Tryz.underlying243
 a131:=Tryz.isAgg243
 z131:=Tryz.sizeOf243
 v131:=Tryz.zeroValue243
 t182:=Tryz.underlying307
 a182:=Tryz.isAgg307
 z182:=Tryz.sizeOf307
 v182:=Tryz.zeroValue307
 t183:=Tryz.underlying308
 a183:=Tryz.isAgg308
 z183:=Tryz.sizeOf308
 v183:=Tryz.zeroValue308
 t218:=Tryz.underlying353
 a218:=Tryz.isAgg353
 z218:=Tryz.sizeOf353
 v218:=Tryz.zeroValue353
 t222:=Tryz.underlying357
 a222:=Tryz.isAgg357
 z222:=Tryz.sizeOf357
 v222:=Tryz.zeroValue357
 t228:=Tryz.underlying372
 a228:=Tryz.isAgg372
 z228:=Tryz.sizeOf372
 v228:=Tryz.zeroValue372
 t229:=Tryz.underlying328
 a229:=Tryz.isAgg328
 z229:=Tryz.sizeOf328
 v229:=Tryz.zeroValue328 }
def Tryz.keysM_ren : Go.Shelf.Ren:=⟨fun | 7=>175 | 10=>259 | n=>n,fun | 23=>241 | 26=>9 | 3=>3 | 28=>239 | 0=>0 | 27=>238 | 33=>290 | 4=>4 | n=>n,fun | n=>n⟩
theorem Tryz.keysM : Go.Proofs.SlLaysZ.n7 Tryz.prog Tryz.keysM_ren:={
 mixed:=by kernel_rfl
 f7:=⟨Tryz.f175.name,by decide,Tryz.func175.trans (congrArg some (by kernel_rfl))⟩
 f10:=⟨Tryz.f259.name,by decide,Tryz.func259.trans (congrArg some (by kernel_rfl))⟩
 t0:=Tryz.underlying0
 a0:=Tryz.isAgg0
 z0:=Tryz.sizeOf0
 v0:=Tryz.zeroValue0
 t4:=Tryz.underlying4
 a4:=Tryz.isAgg4
 z4:=Tryz.sizeOf4
 v4:=Tryz.zeroValue4
 t23:=Tryz.underlying241
 a23:=Tryz.isAgg241
 z23:=Tryz.sizeOf241
 v23:=Tryz.zeroValue241
 t26:=Tryz.underlying9
 a26:=Tryz.isAgg9
 z26:=Tryz.sizeOf9
 v26:=Tryz.zeroValue9
 t27:=Tryz.underlying238
 a27:=Tryz.isAgg238
 z27:=Tryz.sizeOf238
 v27:=Tryz.zeroValue238
 t28:=Tryz.underlying239
 a28:=Tryz.isAgg239
 z28:=Tryz.sizeOf239
 v28:=Tryz.zeroValue239
 t33:=Tryz.underlying290
 a33:=Tryz.isAgg290
 z33:=Tryz.sizeOf290
 v33:=Tryz.zeroValue290 }
def Tryz.sortedM_ren : Go.Shelf.Ren:=⟨fun | 6=>174 | 8=>257 | 9=>258 | 11=>316 | 13=>187 | 12=>317 | 23=>274 | 24=>275 | 14=>339 | 15=>340 | 16=>341 | 17=>342 | 18=>343 | 19=>344 | 20=>345 | 21=>346 | 22=>347 | 25=>353 | 26=>325 | 27=>326 | 28=>354 | 29=>355 | 30=>335 | 31=>357 | n=>n,fun | 26=>9 | 28=>239 | 24=>46 | 0=>0 | 3=>3 | 37=>256 | 48=>314 | 50=>316 | 4=>4 | 40=>308 | 39=>307 | 45=>243 | 5=>5 | 9=>9 | 51=>353 | 55=>357 | 57=>372 | 58=>328 | 33=>290 | n=>n,fun | n=>n⟩
theorem Tryz.sortedM : Go.Proofs.SlLaysZ.n6 Tryz.prog Tryz.sortedM_ren:={
 mixed:=by kernel_rfl
 f6:=⟨Tryz.f174.name,by decide,Tryz.func174.trans (congrArg some (by kernel_rfl))⟩
 f8:=⟨Tryz.f257.name,by decide,Tryz.func257.trans (congrArg some (by kernel_rfl))⟩
 f11:=⟨Tryz.f316.name,by decide,Tryz.func316.trans (congrArg some (by kernel_rfl))⟩
 t0:=Tryz.underlying0
 a0:=Tryz.isAgg0
 z0:=Tryz.sizeOf0
 v0:=Tryz.zeroValue0
 t24:=Tryz.underlying46
 a24:=Tryz.isAgg46
 z24:=Tryz.sizeOf46
 v24:=Tryz.zeroValue46
 t26:=Tryz.underlying9
 a26:=Tryz.isAgg9
 z26:=Tryz.sizeOf9
 v26:=Tryz.zeroValue9
 t28:=Tryz.underlying239
 a28:=Tryz.isAgg239
 z28:=Tryz.sizeOf239
 v28:=Tryz.zeroValue239
 i26:=by kernel_rfl }
def Tryz.growI_ren : Go.Shelf.Ren:=⟨fun | 4=>265 | n=>n,fun | 22=>36 | 25=>3 | 3=>3 | 4=>4 | 9=>9 | 20=>20 | 0=>0 | n=>n,fun | n=>n⟩
theorem Tryz.growI : Go.Proofs.Lays8.n4 Tryz.prog Tryz.growI_ren:={
 mixed:=by kernel_rfl
 f4:=⟨Tryz.f265.name,by decide,Tryz.func265.trans (congrArg some (by kernel_rfl))⟩
 t0:=Tryz.underlying0
 a0:=Tryz.isAgg0
 z0:=Tryz.sizeOf0
 v0:=Tryz.zeroValue0
 t3:=Tryz.underlying3
 a3:=Tryz.isAgg3
 z3:=Tryz.sizeOf3
 v3:=Tryz.zeroValue3
 t4:=Tryz.underlying4
 a4:=Tryz.isAgg4
 z4:=Tryz.sizeOf4
 v4:=Tryz.zeroValue4
 t9:=Tryz.underlying9
 a9:=Tryz.isAgg9
 z9:=Tryz.sizeOf9
 v9:=Tryz.zeroValue9
 t20:=Tryz.underlying20
 a20:=Tryz.isAgg20
 z20:=Tryz.sizeOf20
 v20:=Tryz.zeroValue20
 t22:=Tryz.underlying36
 a22:=Tryz.isAgg36
 z22:=Tryz.sizeOf36
 v22:=Tryz.zeroValue36 }
end Go.Proofs
end
section


end
section
namespace Go.Dm
variable [DMode]
open Go.Shelf Go.Sort Go.Proofs
theorem upd_grow {w w':World} (h: @Upd Ik_ [] w w'):∃q os,w'=grow (w.drewN q) os:=by
 refine⟨w'.drawn-w.drawn,w'.heap.extract w.heap.size w'.heap.size,?_⟩;obtain⟨heap,tape,drawn,os,output⟩:=w';obtain⟨h1,h2,h3,h4,h5,h6⟩:=h;simp only at h1 h2 h3 h4 h5 h6 ⊢
 replace h4:=h4 rfl
 subst h1;subst h2;subst h3
 have e1:w.heap++heap.extract w.heap.size heap.size=heap:=by
  apply Array.ext_getElem?
  intro i
  by_cases hi:i<w.heap.size
  ·rw[dM0 hi,←h6 i hi (by simp)]
  ·rw[Array.getElem?_append_right (by omega),Array.getElem?_extract]
   by_cases hi2:i<heap.size
   ·rw[if_pos (by omega)]
    congr 1
    omega
   ·rw[if_neg (by omega),Array.getElem?_eq_none (by omega)]
 have e2:w.drawn+(drawn-w.drawn)=drawn:=by omega
 simp[grow,World.drewN,e1,e2]
section
variable {P : Program} {ρ : Ren} {g : FuncId} {et k cap b : Nat} {cs : List DVal} {cs' : Array Value} {cf : List DVal → List DVal → Int} {es es' : List (List DVal)} {cu0 : Cur} {M1 : List Nat} {w : World} {arr : Array Value}
theorem FR_ {α:Type} [Inhabited α] (enc:α→List Value) (p3:w.heap[b]? =some (.cells arr et (0,0))) (m:Nat) (os:Array Obj) (dk:Array α) :
  (sortWorldK enc k w b 0 m dk os).heap[b]? =some (.cells (putCells id 0 (flatK enc k dk) arr) et (0,0))∧(∀q,q<w.heap.size→q≠b→(sortWorldK enc k w b 0 m dk os).heap[q]? =w.heap[q]?)∧w.heap.size≤(sortWorldK enc k w b 0 m dk os).heap.size ∧
   (sortWorldK enc k w b 0 m dk os).os=w.os∧(sortWorldK enc k w b 0 m dk os).tape=w.tape∧(sortWorldK enc k w b 0 m dk os).output=w.output∧w.drawn≤(sortWorldK enc k w b 0 m dk os).drawn:=by
 have hblk:b<w.heap.size:=(aG0.1 p3).1;refine⟨?_,fun q hq hqb=> ?_,?_,rfl,rfl,rfl,Nat.le_add_right _ _⟩
 ·simp only[sortWorldK,grow,putRowK,putRow,mapBlock,ahead];rw[dM0 (by simpa using hblk),cF0];simp[p3,onCells]
 ·simp only[sortWorldK,grow,putRowK,putRow,mapBlock,ahead];rw[dM0 (by simpa using hq),cF0];rw[if_neg (fun h=>hqb h.symm)];rfl
 ·simp[sortWorldK,grow,putRowK,putRow,mapBlock,ahead]
theorem Tx_ {α:Type} [Inhabited α] {enc:α→List Value} (hlen:∀x,(enc x).length=k) {dk:Array α} {i p:Nat} (hi:i<dk.size) (hp:p<k) (hsz:dk.size*k≤arr.size) :
  (putCells id 0 (flatK enc k dk) arr)[i*k+p]? =(enc dk[i]!)[p]? :=by
 have hrow:=Cw_ (k:=k) hi;have hlt:i*k+p<arr.size:=by omega
 have hdiv:(i*k+p)/k=i:=by
  rw[Nat.mul_comm,Nat.mul_add_div (by omega),Nat.div_eq_of_lt hp];omega
 have hmod:(i*k+p)%k=p:=by rw[Nat.mul_comm,Nat.mul_add_mod];exact Nat.mod_eq_of_lt hp
 have hlf:i*k+p<dk.size*k:=by omega
 have hpe:p<(enc dk[i]!).length:=by rw[hlen];exact hp
 simp only[putCells,bT0,Array.getElem?_mapIdx,cD0 hlt,dI0,cL0,true_and,size_flatK,hlf,if_true,eH0,id];rw[get_flatK _ _ _ _ hlf,hdiv,hmod,getElem!_pos (enc dk[i]!) p hpe,aH0 hpe]
theorem sort_core {α:Type} [Inhabited α] (L:SlLaysF0.n6 P ρ) (dt:α→List DVal) (enc:α→List Value) (d:Array α) (hag:tAgg P (ρ.t 24)=some true) (hcl:tCells P (ρ.t 24)=some k) (hcs:mxL cs=0) (hes:∀x∈es,mxL x=0)
  (hdt:∀x,dt x∈es) (hdk:∀x,(dt x).length=k) (hrd:∀x,rdV cu0 M1 w.heap (dt x) (enc x)) (hone:∀x,∀u∈enc x,u.oneCell'=true) (hdsz:d.size=es.length)
  (hd:∀i (hi:i<es.length),dt d[i]! =es[i]∧∀(q:Nat) (v:Value),(enc d[i]!)[q]? =some v→arr[i*k+q]? =some v)
  (p3:w.heap[b]? =some (.cells arr et (0,0))) (hcap:es.length*k≤arr.size) (hbM:b∈M1) (hMlt:∀q∈M1,q<w.heap.size) (hcsr:rdV cu0 M1 w.heap cs cs'.toList) (hlt:es.length<4611686018427387904)
  (hg:Ci_ P g) (hcmp:∀x∈es,∀y∈es,@Ac_ Ik_ P g (.agg x:: .agg y::cs) (.int .i64 (cf x y)))
  (hirr:∀x∈es,¬cf x x<0) (htr:∀x∈es,∀y∈es,∀z∈es,cf x y<0→cf y z<0→cf x z<0) (hnt:∀x∈es,∀y∈es,∀z∈es,¬cf x y<0→¬cf y z<0→¬cf x z<0)
  (huniq:∀l:List (List DVal),l.Perm es→l.Pairwise (fun x y=>¬cf y x<0)→l=es') :
  Calls P (ρ.f 6) #[.slice (some ⟨b,0,none⟩) es.length cap,.func (.func g) #[] cs'] w fun e w'=>e= .returned (.tuple #[])∧es'.length=es.length∧Upd [b] w w' ∧
   ∃arr',w'.heap[b]? =some (.cells arr' et (0,0))∧arr'.size=arr.size∧∀cur M2,(∀q∈M2,q∈M1)→rdR cur M2 w'.heap k es' arr' 0:=by
 have hlen:∀x:α,(enc x).length=k:=fun x=>by
  have:=Au_ _ _ (hrd x);have:=hdk x;omega
 have hO:SWO (ltOf fun x y:α=>cf (dt x) (dt y)):=by
  refine⟨fun x=> ?_,fun x y z h1 h2=> ?_,fun x y z h1 h2=> ?_⟩
  ·simp only[ltOf,decide_eq_false_iff_not];exact hirr _ (hdt x)
  ·simp only[ltOf,decide_eq_true_eq]at *;exact htr _ (hdt x) _ (hdt y) _ (hdt z) h1 h2
  ·simp only[ltOf,decide_eq_false_iff_not]at *;exact hnt _ (hdt x) _ (hdt y) _ (hdt z) h1 h2
 have hH:HoldsK enc k w b 0 d:=by
  intro j hj;rw[size_flatK,hdsz]at hj
  have hk0:0<k:=by
   rcases eV0 k with h | h
   ·subst h;simp at hj
   ·exact h
  have hi:j/k<es.length:=by rw[Nat.div_lt_iff_lt_mul hk0];exact hj
  have hq:j%k<k:=Nat.mod_lt _ hk0;rw[get_flatK _ _ _ _ (by rw[hdsz];exact hj)];have hq':j%k<(enc d[j/k]!).length:=by rw[hlen];exact hq
  have hcell:=(hd _ hi).2 (j%k) _ (aH0 hq');rw[Nat.mul_comm,Nat.div_add_mod]at hcell;rw[getElem!_pos (enc d[j/k]!) _ hq'];exact⟨by simp only[World.cell?,p3,bT0,id];exact hcell,by simp[World.frozen?,p3]⟩
 have hblk:b<w.heap.size:=(aG0.1 p3).1
 have Wk:∀m os (dk:Array α) (cur:Cur) (M2:List Nat),(∀q∈M2,q∈M1)→Weak cu0 cur M1 M2 w.heap (sortWorldK enc k w b 0 m dk os).heap 0:=by
  intro m os dk cur M2 hM2;have hW:=FR_ (et:=et) (arr:=arr) (k:=k) enc p3 m os dk;exact⟨fun _ _ _ h=>by omega,fun q o hq (_:isD o=true) ho=>by rw[hW.2.1 q (aG0.1 ho).1 (fun h=>hq (h▸hbM))];exact ho,fun q o hq (_:isD o=true) _ hm=>hq (hM2 q hm)⟩
 have hC:CmpLays P g cs' enc k (fun x y:α=>cf (dt x) (dt y)) b 0 d.size w:=by
  intro m os dk _ x y;have hD:=hcmp _ (hdt x) _ (hdt y);have hW:=FR_ (et:=et) (arr:=arr) (k:=k) enc p3 m os dk;have hx:=AG_ (Wk m os dk (fun _ _=>none) M1 (fun _ h=>h)) _ _ (dJ0 (hes _ (hdt x))) (hrd x);have hy:=AG_ (Wk m os dk (fun _ _=>none) M1 (fun _ h=>h)) _ _ (dJ0 (hes _ (hdt y))) (hrd y);have hc:=AG_ (Wk m os dk (fun _ _=>none) M1 (fun _ h=>h)) _ _ (dJ0 hcs) hcsr;obtain⟨X,hX⟩:∃X,X=(enc x).toArray:=⟨_,rfl⟩
  obtain⟨Y,hY⟩:∃Y,Y=(enc y).toArray:=⟨_,rfl⟩;simp only[←hX,←hY]
  generalize sortWorldK enc k w b 0 m dk os=V at hW hx hy hc ⊢
  have key:=hD.2.2 (fun _ _=>none) M1 V (#[.agg X,.agg Y]++cs') (fun q hq=>cG0 (hMlt q hq) hW.2.2.1);refine(key ?_).mono ?_
  ·have e1:(#[Value.agg X,Value.agg Y]++cs').toList=Value.agg X::Value.agg Y::cs'.toList:=by simp
   rw[e1];simp only[rdV];refine⟨_,_,rfl,?_,_,_,rfl,?_,hc⟩
   ·simp only[rd];exact⟨_,rfl,by rw[hX];exact hx⟩
   ·simp only[rd];exact⟨_,rfl,by rw[hY];exact hy⟩
  ·rintro e w' ⟨v,rfl,hu,hv⟩;simp only[rd]at hv;exact⟨by rw[hv.1],upd_grow hu⟩
 have hrun:=AnyQ.slices_SortFunc L k (Is_ hag) (BW_ hcl) enc hlen hone (fun x y:α=>cf (dt x) (dt y)) hO g cs' b 0 cap d w hg hC hH hblk (by omega);rw[hdsz]at hrun;refine hrun.mono ?_;rintro e w' ⟨rfl,d',n,os,hP,hS,rfl⟩;obtain⟨hsz',_,hperm⟩:=hP;rw[hdsz]at hsz';have e1:d'.extract 0 es.length=d':=by rw[←hsz'];exact Array.extract_size
 have e2:d.extract 0 es.length=d:=by rw[←hdsz];exact Array.extract_size
 rw[e1,e2]at hperm
 have hdes:d.toList.map dt=es:=by
  apply List.ext_getElem
  ·simp[hdsz]
  ·intro i h1 h2;have:=(hd i h2).1;rw[getElem!_pos d i (by omega)]at this;simpa using this
 have hdata:d'.toList.map dt=es':=by
  refine huniq _ ?_ ?_
  ·have:=hperm.map dt
   rwa[hdes]at this
  ·rw[dL0,List.pairwise_iff_getElem];intro i j hi hj hij;have hi':i<d'.size:=by simpa using hi
   have hj':j<d'.size:=by simpa using hj
   have:=hS i j (cL0 _) hij (by omega);rw[getElem!_pos d' j hj',getElem!_pos d' i hi']at this;simpa[ltOf]using this
 have hlen':es'.length=es.length:=by rw[←hdata];simp[hsz']
 obtain⟨q1,q2,q3,q4,q5,q6,q7⟩:=FR_ (et:=et) (arr:=arr) (k:=k) enc p3 n os d';refine⟨rfl,hlen',⟨q4,q5,q6,fun _=>q7,q3,fun q hq hn=>q2 q hq (fun h=>hn (by simp[h]))⟩,_,q1,by simp[putCells],fun cur M2 hM2=> ?_⟩;refine FC_ _ _ _ _ fun i cs0 hi=> ?_
 have hil:i<es'.length:=(aB0.1 hi).1;have hid:i<d'.size:=by omega
 have hcs0:cs0=dt d'[i]! :=by
  rw[←hdata,bI0]at hi;rw[getElem!_pos d' i hid];simp[hid]at hi;exact hi.symm
 subst hcs0;refine⟨hdk _,?_⟩;have hv:=AG_ (Wk n os d' cur M2 hM2) _ _ (dJ0 (hes _ (hdt _))) (hrd d'[i]!);have h0:=FW_ _ _ [] [] hv (hone _);refine Cf_ _ _ _ _ _ (fun p hp=> ?_) h0;have hp':p<k:=by rw[hdk]at hp;exact hp
 rw[bT0,Tx_ hlen hid hp' (by rw[hsz'];exact hcap)];simp
end
theorem QU_ {P:Program} {ρ:Ren} (L:SlLaysF0.n6 P ρ) {f g:FuncId} {et k bs:Nat} {cs:List DVal} {cf:List DVal→List DVal→Int} {es es':List (List DVal)} (hf:ρ.f 6=f) (hen:Ci_ P f) (hag:tAgg P (ρ.t 24)=some true) (hcl:tCells P (ρ.t 24)=some k)
  (hbs0:0<bs) (hcs:mxL cs=0) (hes:∀x∈es,mxL x=0) (hg:Ci_ P g) (hcmp:∀x∈es,∀y∈es,@Ac_ Ik_ P g (.agg x:: .agg y::cs) (.int .i64 (cf x y)))
  (hirr:∀x∈es,¬cf x x<0) (htr:∀x∈es,∀y∈es,∀z∈es,cf x y<0→cf y z<0→cf x z<0) (hnt:∀x∈es,∀y∈es,∀z∈es,¬cf x y<0→¬cf y z<0→¬cf x z<0)
  (huniq:∀l:List (List DVal),l.Perm es→l.Pairwise (fun x y=>¬cf y x<0)→l=es') :
  AM_ P (.func f) [.osl 0 0,.fn (.func g) [] cs] [⟨0,0,.row et k bs es⟩] (.tup []) [⟨0,0,.row et k bs es'⟩]:=by
 refine⟨by simp,hen,fun M w loc vs S hr=> ?_⟩;refine⟨hen,?_⟩;simp only[rdV]at hr;obtain⟨v0,r0,hvs,h0,v1,r1,rfl,h1,rfl⟩:=hr;simp only[rd]at h0 h1;obtain⟨us',cs',rfl,hus,hcsr⟩:=h1;simp only[rdV]at hus;have hus':us'= #[]:=by cases us';simpa using hus
 subst hus';have hcur0:Ai_ [(⟨0,0,.row et k bs es⟩:Ent)] loc 0 0=some (loc 0):=rfl;have hv0:=h0 _ hcur0;have hvs':vs= #[v0,.func (.func g) #[] cs']:=by cases vs;simpa using hvs
 subst hvs';subst hf;have hhot:Ab_ [(⟨0,0,.row et k bs es⟩:Ent)] loc=(loc 0).blks:=by simp[Ab_]
 have hhot':Ab_ [(⟨0,0,.row et k bs es'⟩:Ent)] loc=(loc 0).blks:=by simp[Ab_]
 have htup:∀cur M h,rd cur M h (.tup []) (.tuple #[]):=fun _ _ _=>by simp only[rd];exact⟨#[],rfl,by simp[rdV]⟩
 have hk:=S.ok ⟨0,0,.row et k bs es⟩ (by simp)
 by_cases hne:es=[]
 ·subst hne;have hes':es'=[]:=(huniq [] (List.Perm.refl _) List.Pairwise.nil).symm;subst hes'
  obtain⟨a,cap,hh⟩:∃a cap,(loc 0).hdr= .slice a 0 cap:=by
   obtain⟨_,⟨_,_,h2⟩ | ⟨b,arr,cap,_,h2,_⟩⟩:=hk
   ·exact⟨_,_,h2⟩
   ·exact⟨_,_,h2⟩
  rw[hh]at hv0;subst hv0;refine(AnyF.slices_SortFunc_none { L with } a cap (.func (.func g) #[] cs') w).mono ?_;rintro e w' ⟨rfl,rfl⟩;exact⟨_,rfl,loc,S,Upd.refl _ _,fun b hb=> .inl hb,fun e he _=>AA_ S.nd he,htup _ _ _⟩
 ·obtain⟨b,arr,cap,p1,p2,p3,p4,p5,p6,p7⟩:∃b arr cap,(loc 0).blks=[b]∧(loc 0).hdr= .slice (some ⟨b,0,none⟩) es.length cap∧w.heap[b]? =some (.cells arr et (0,0))∧es.length≤cap∧cap≤maxLen∧cap*k=arr.size∧rdR (Ai_ [(⟨0,0,.row et k bs es⟩:Ent)] loc) (Ab_ [(⟨0,0,.row et k bs es⟩:Ent)] loc++M) w.heap k es arr 0:=by
   obtain⟨_,⟨h,_⟩ | h⟩:=hk
   ·exact absurd h hne
   ·exact h
  have hbs:=hk.1;rw[p2]at hv0;subst hv0;obtain⟨cu0,hcu0⟩:∃c,c=Ai_ [(⟨0,0,.row et k bs es⟩:Ent)] loc:=⟨_,rfl⟩;obtain⟨M1,hM1⟩:∃m,m=Ab_ [(⟨0,0,.row et k bs es⟩:Ent)] loc++M:=⟨_,rfl⟩;rw[←hcu0,←hM1]at p7 hcsr;have hbM:b∈M1:=by rw[hM1,hhot,p1];simp
  have hMlt:∀q∈M1,q<w.heap.size:=by rw[hM1];exact S.lt
  have hcap:es.length*k≤arr.size:=by rw[←p6];exact aO0 _ p4
  have hpos:0<es.length:=List.length_pos_iff.2 hne
  have hel:∀i:Fin es.length,∃us:List Value,rdV cu0 M1 w.heap es[i.1] us∧(∀u∈us,u.oneCell'=true)∧∀(q:Nat) (v:Value),us[q]? =some v→arr[i.1*k+q]? =some v:=by
   intro i;obtain⟨q1,q2⟩:=DB_ k es arr 0 i.1 es[i.1] p7 (aH0 i.2);obtain⟨us,g1,g2,g3⟩:=Ei_ _ _ _ q2;refine⟨us,g2,fun u hu=> ?_,fun q v hq=> ?_⟩
   ·obtain⟨j,hj,rfl⟩:=bN0 hu;exact(g3 j _ (aH0 hj)).2
   ·have:=(g3 q v hq).1;simpa using this
  haveI:Inhabited (Fin es.length):=⟨⟨0,hpos⟩⟩
  have hlt:es.length<4611686018427387904:=by
   have h1:es.length*1≤es.length*bs:=bU0 _ hbs0;have h2:es.length*bs≤150000000000000:=hbs;omega
  have hd:∀i (hi:i<es.length),(Array.ofFn (fun i:Fin es.length=>i))[i]! =⟨i,hi⟩:=by
   intro i hi;rw[getElem!_pos _ i (by simpa using hi)];simp
  refine(sort_core (et:=et) (α:=Fin es.length) L (fun i=>es[i.1]) (fun i=>(hel i).choose) (Array.ofFn fun i=>i) hag hcl hcs hes (fun i=>cY0 _) (fun i=>(DB_ k es arr 0 i.1 es[i.1] p7 (aH0 i.2)).1) (fun i=>(hel i).choose_spec.1) (fun i=>(hel i).choose_spec.2.1) (by simp)
   (fun i hi=>by rw[hd i hi];exact⟨rfl,(hel ⟨i,hi⟩).choose_spec.2.2⟩) p3 hcap hbM hMlt hcsr hlt hg hcmp hirr htr hnt huniq).mono ?_
  rintro e w' ⟨rfl,hlen',hu,arr',r1,r2,r3⟩;have hM2:Ab_ [(⟨0,0,.row et k bs es'⟩:Ent)] loc++M=M1:=by rw[hM1,hhot,hhot']
  refine⟨_,rfl,loc,⟨by simp,by rw[hhot',p1];simp,fun q hq=>S.ap q (by rw[hhot];rwa[hhot']at hq),fun q hq=> ?_,?_⟩,by rw[hhot,p1];exact hu,fun q hq=> .inl (by rw[hhot];rwa[hhot']at hq),?_,htup _ _ _⟩
  ·rw[hM2]at hq;exact cG0 (hMlt q hq) hu.size
  ·intro e he;simp only[aE0]at he;subst he;rw[hM2];exact⟨by rw[hlen'];exact hbs,.inr ⟨b,arr',cap,p1,by rw[hlen'];exact p2,r1,by omega,p5,by omega,r3 _ _ fun _ h=>h⟩⟩
  ·intro e he _;simp only[aE0]at he;subst he;exact hcur0
end Go.Dm
end
section
namespace Go.Dm
variable [DMode]
open Go.Shelf Go.Sort Go.Proofs Go.RowKit
def Eb_ (l:List ByteArray):List ByteArray:=((l.map fun s=>s.data.toList).mergeSort fun x y=>decide (x≤y)).map fun x=>⟨x.toArray⟩
theorem ED_ (l:List ByteArray):(Eb_ l).length=l.length:=by simp[Eb_]
theorem Rj_ {α:Type} [Inhabited α] (enc:α→Value) {w:World} {b et:Nat} {arr:Array Value} (p3:w.heap[b]? =some (.cells arr et (0,0))) (m:Nat) (os:Array Obj) (dk:Array α) :
  (grow (putRow enc (Sort.ahead w m) b 0 dk) os).heap[b]? =some (.cells (putCells enc 0 dk arr) et (0,0))∧(∀q,q<w.heap.size→q≠b→(grow (putRow enc (Sort.ahead w m) b 0 dk) os).heap[q]? =w.heap[q]?)∧w.heap.size≤(grow (putRow enc (Sort.ahead w m) b 0 dk) os).heap.size ∧
   (grow (putRow enc (Sort.ahead w m) b 0 dk) os).os=w.os∧(grow (putRow enc (Sort.ahead w m) b 0 dk) os).tape=w.tape∧(grow (putRow enc (Sort.ahead w m) b 0 dk) os).output=w.output∧w.drawn≤(grow (putRow enc (Sort.ahead w m) b 0 dk) os).drawn:=by
 have hblk:b<w.heap.size:=(aG0.1 p3).1;refine⟨?_,fun q hq hqb=> ?_,?_,rfl,rfl,rfl,Nat.le_add_right _ _⟩
 ·simp only[grow,putRow,mapBlock,Sort.ahead];rw[dM0 (by simpa using hblk),cF0];simp[p3,onCells]
 ·simp only[grow,putRow,mapBlock,Sort.ahead];rw[dM0 (by simpa using hq),cF0];rw[if_neg (fun h=>hqb h.symm)]
 ·simp[grow,putRow,mapBlock,Sort.ahead]
def Hm_ (s:ByteArray):List DVal:=[.str s]
theorem QV_ {P:Program} {ρ:Ren} (L:SlLaysM.n6 P ρ) {f:FuncId} {et bs:Nat} (hf:ρ.f 6=f) (hen:Ci_ P f) (hbs0:0<bs) (l:List ByteArray) :
  AM_ P (.func f) [.osl 0 0] [⟨0,0,.row et 1 bs (l.map Hm_)⟩] (.tup []) [⟨0,0,.row et 1 bs ((Eb_ l).map Hm_)⟩]:=by
 refine⟨by simp,hen,fun M w loc vs S hr=> ?_⟩;refine⟨hen,?_⟩;simp only[rdV]at hr;obtain⟨v0,r0,hvs,h0,rfl⟩:=hr;simp only[rd]at h0;have hcur0:∀l:List ByteArray,Ai_ [(⟨0,0,.row et 1 bs (l.map Hm_)⟩:Ent)] loc 0 0=some (loc 0):=fun _=>rfl
 have hv0:=h0 _ (hcur0 l);have hvs':vs= #[v0]:=by cases vs;simpa using hvs
 subst hvs';subst hf;have hhot:∀l:List ByteArray,Ab_ [(⟨0,0,.row et 1 bs (l.map Hm_)⟩:Ent)] loc=(loc 0).blks:=fun _=>by simp[Ab_]
 have htup:∀cur M h,rd cur M h (.tup []) (.tuple #[]):=fun _ _ _=>by simp only[rd];exact⟨#[],rfl,by simp[rdV]⟩
 have hk:=S.ok ⟨0,0,.row et 1 bs (l.map Hm_)⟩ (by simp)
 by_cases hne:l=[]
 ·subst hne
  obtain⟨a,cap,hh⟩:∃a cap,(loc 0).hdr= .slice a 0 cap:=by
   obtain⟨_,⟨_,_,h2⟩ | ⟨b,arr,cap,_,h2,_⟩⟩:=hk
   ·exact⟨_,_,h2⟩
   ·exact⟨_,_,h2⟩
  rw[hh]at hv0;subst hv0;refine(AnyM.slices_Sort_string_none L a cap w).mono ?_;rintro e w' ⟨rfl,rfl⟩;have e0:Eb_ []=[]:=by simp[Eb_]
  rw[e0];exact⟨_,rfl,loc,S,Upd.refl _ _,fun b hb=> .inl hb,fun e he _=>AA_ S.nd he,htup _ _ _⟩
 ·obtain⟨b,arr,cap,p1,p2,p3,p4,p5,p6,p7⟩:∃b arr cap,(loc 0).blks=[b]∧(loc 0).hdr= .slice (some ⟨b,0,none⟩) (l.map Hm_).length cap∧w.heap[b]? =some (.cells arr et (0,0))∧(l.map Hm_).length≤cap∧cap≤maxLen∧cap*1=arr.size∧rdR (Ai_ [(⟨0,0,.row et 1 bs (l.map Hm_)⟩:Ent)] loc) (Ab_ [(⟨0,0,.row et 1 bs (l.map Hm_)⟩:Ent)] loc++M) w.heap 1 (l.map Hm_) arr 0:=by
   obtain⟨_,⟨h,_⟩ | h⟩:=hk
   ·exact absurd (List.map_eq_nil_iff.1 h) hne
   ·exact h
  have hbs:(l.map Hm_).length*bs≤150000000000000:=hk.1;rw[p2]at hv0;subst hv0;rw[aJ0]at p2 p4 hbs
  have hmax:∀s∈l,s.size≤maxLen∧True:=by
   intro s hs;obtain⟨i,hi,rfl⟩:=bN0 hs;obtain⟨q1,q2⟩:=DB_ 1 _ arr 0 i [.str l[i]] p7 (by simp[Hm_,hi]);obtain⟨us,g1,g2,g3⟩:=Ei_ _ _ _ q2;simp only[rdV,rd]at g2;obtain⟨v,_,_,⟨_,h⟩,_⟩:=g2;exact⟨h,trivial⟩
  have hcell:∀i (hi:i<l.length),arr[i]? =some (.string l[i]):=by
   intro i hi;obtain⟨q1,q2⟩:=DB_ 1 _ arr 0 i [.str l[i]] p7 (by simp[Hm_,hi]);obtain⟨us,g1,g2,g3⟩:=Ei_ _ _ _ q2;simp only[rdV,rd]at g2;obtain⟨v,r,rfl,⟨rfl,_⟩,_⟩:=g2;have:=(g3 0 _ rfl).1;simpa using this
  obtain⟨ss,hss⟩:∃ss,ss=l.map fun s=>s.data.toList:=⟨_,rfl⟩
  have hssl:ss.length=l.length:=by rw[hss,aJ0]
  have hH:Holds encStr w b 0 ss.toArray:=by
   intro j hj;simp only[dG0,hssl]at hj;refine⟨?_,Lib.frozen_of_heap p3 _⟩;rw[bT0,Lib.cell_of_heap p3,hcell j hj];rw[getElem!_pos _ j (by simpa[hssl]using hj)];simp[hss,encStr]
  have hlt:ss.length<4611686018427387904:=by
   rw[hssl];have h1:l.length*1≤l.length*bs:=bU0 _ hbs0;omega
  have hbl:b<w.heap.size:=(aG0.1 p3).1;have key:=AnyM.slices_Sort_string L b 0 cap ss w hH hbl hlt;rw[hssl]at key;simp only[aJ0];refine key.mono ?_;rintro e w' ⟨rfl,n,os,rfl⟩;obtain⟨q1,q2,q3,q4,q5,q6,q7⟩:=Rj_ encStr (et:=et) (arr:=arr) p3 n os (ss.mergeSort fun x y=>decide (x≤y)).toArray;have hse:Eb_ l=(ss.mergeSort fun x y=>decide (x≤y)).map fun x=>⟨x.toArray⟩:=by rw[hss];rfl
  have hml:(ss.mergeSort fun x y=>decide (x≤y)).length=l.length:=by simp[hssl]
  refine⟨_,rfl,loc,⟨by simp,by rw[hhot,p1];simp,fun q hq=>S.ap q (by rw[hhot];rwa[hhot]at hq),fun q hq=> ?_,?_⟩,?_,fun q hq=> .inl (by rw[hhot];rwa[hhot]at hq),?_,htup _ _ _⟩
  ·refine cG0 (S.lt q ?_) q3;rw[hhot]at hq ⊢;exact hq
  ·intro e he;simp only[aE0]at he;subst he;refine⟨by simpa[ED_]using hbs,.inr ⟨b,_,cap,p1,by simpa[ED_]using p2,q1,by simpa[ED_]using p4,p5,by simpa[putCells]using p6,?_⟩⟩;refine FC_ _ _ _ _ fun i cs0 hi=> ?_
   have hil:i<l.length:=by
    have:=(aB0.1 hi).1;simpa[ED_]using this
   rw[hse]at hi;have him:i<(ss.mergeSort fun x y=>decide (x≤y)).length:=by omega
   simp only[cB0,bI0,aH0 him,dI0,Function.comp_apply,aA0]at hi;subst hi;refine⟨rfl,?_⟩;have hmem:(ss.mergeSort fun x y=>decide (x≤y))[i]∈ss:=(dU0 ss _).mem_iff.1 (cY0 him)
   have hsz:(⟨((ss.mergeSort fun x y=>decide (x≤y))[i]).toArray⟩:ByteArray).size≤maxLen:=by
    generalize (ss.mergeSort fun x y=>decide (x≤y))[i]=y at hmem ⊢
    rw[hss]at hmem;obtain⟨s,hs,hse⟩:=aV0.1 hmem;have:=(hmax s hs).1;rw[←hse];exact this
   have h0:=FW_ (cur:=Ai_ [(⟨0,0,.row et 1 bs ((Eb_ l).map Hm_)⟩:Ent)] loc) (M:=Ab_ [(⟨0,0,.row et 1 bs ((Eb_ l).map Hm_)⟩:Ent)] loc++M) (H:=(grow (putRow encStr (Sort.ahead w n) b 0 (ss.mergeSort fun x y=>decide (x≤y)).toArray) os).heap) [.str ⟨((ss.mergeSort fun x y=>decide (x≤y))[i]).toArray⟩] [.string ⟨((ss.mergeSort fun x y=>decide (x≤y))[i]).toArray⟩] [] [] (by simp only[rdV,rd];exact⟨_,_,rfl,⟨rfl,hsz⟩,rfl⟩) (by simp[Value.oneCell'])
   refine Cf_ _ _ _ _ _ (fun p hp=> ?_) h0;have hp0:p=0:=by simp[Hm_]at hp;omega
   subst hp0;have hia:i<arr.size:=by omega
   simp only[putCells,Array.getElem?_mapIdx];rw[show 0+i*1+0=i by omega,cD0 hia];simp[him,encStr,hml,hil,hssl]
  ·rw[hhot,p1];exact⟨q4,q5,q6,fun _=>q7,q3,fun q hq hn=>q2 q hq (fun h=>hn (by simp[h]))⟩
  ·intro e he _;simp only[aE0]at he;subst he;rfl
end Go.Dm
end
section
namespace Go.Proofs.YtchgnpnbcjflcaaGreat
open Go Go.Dm Go.RowKit Go.Proofs
variable [DMode]
set_option maxRecDepth 100000
set_option maxHeartbeats 1000000 in
theorem Gr_ (b n:Nat) (w:World) (h0:w.cell? ⟨b,0,none⟩=some (.pointer none)) (hsh:w.shape? b=some (338,n)) (hn:0<n) (hl:liesAt Tryz.prog Tryz.prog.depth 338 (n/Tryz.prog.cellsOf 338) 0 338 1=true) (hfz:w.frozen? ⟨b,0,none⟩=false) :
  Calls Tryz.prog 336 #[.pointer (some ⟨b,0,none⟩)] w fun e w'=>e= .returned (.tuple #[])∧w'=w.setCell ⟨b,0,none⟩ (.pointer (some ⟨b,0,none⟩)):=by
 obtain⟨j,hj,hjs⟩:∃j,Tryz.prog.info? 338=some j∧j.size=2:=bE0.1 (show (Tryz.prog.info? 338).map (·.size)=some 2 by kernel_rfl)
 go_enter Tryz.func336,Tryz.ntmps336
 go_wp2
 rw[Lib.run_to_unsafe w ⟨b,0,none⟩ Tryz.underlying335 Tryz.underlying376 hj (by rw[hjs];decide) hsh hn];simp only[Result.andThen];rw[Oper.upon_value]
 go_wp2
 rw[run_callFunc_extern Tryz.func352 (by kernel_rfl) (by kernel_rfl) (by kernel_rfl) (e:=Extern.AbiNoEscape.same) (by kernel_rfl)];rw[Lib.run_noEscape];simp only[Result.andThen];rw[Oper.upon_value]
 go_wp2
 rw[Lib.run_from_unsafe w ⟨b,0,none⟩ Tryz.underlying376 Tryz.underlying335 hj hsh hl];simp only[Result.andThen];rw[Oper.upon_value]
 go_wp2
 go_end0
 exact⟨rfl,rfl⟩
set_option maxHeartbeats 1000000 in
theorem Nd_ (b:Nat) (w:World) (h0:w.cell? ⟨b,0,none⟩=some (.pointer (some ⟨b,0,none⟩))) :
  Calls Tryz.prog 336 #[.pointer (some ⟨b,0,none⟩)] w fun e w'=>e= .returned (.tuple #[])∧w'=w:=by
 obtain⟨j,hj,hjs⟩:∃j,Tryz.prog.info? 338=some j∧j.size=2:=bE0.1 (show (Tryz.prog.info? 338).map (·.size)=some 2 by kernel_rfl)
 go_enter Tryz.func336,Tryz.ntmps336
 go_wp2
 rw[Lib.run_neq_ptr_same w _ Tryz.underlying335 hj]
 go_wp2
 go_end0
 exact⟨rfl,rfl⟩
attribute [local irreducible] DW Bj_ Bp_
theorem Mz_ : AM_ Tryz.prog (.func 336) [.rx 0 0 2 0 0] [⟨0,0,.row 338 2 32 [[.nilp,.nilsl]]⟩] (.tup []) [⟨0,0,.row 338 2 32 [[.rx 0 0 2 0 0,.nilsl]]⟩] :=
 Mu_ (by show ¬_;exact of_decide_eq_true (by kernel_rfl)) (by kernel_rfl) Tryz.call336 32 Gr_
theorem Nh_ (x:ByteArray):AM_ Tryz.prog (.func 336) [.rx 0 0 2 0 0] [⟨0,0,.row 338 2 32 [[.rx 0 0 2 0 0,.osl 1 0]]⟩,⟨1,0,.row 5 1 1 (AH_ x)⟩] (.tup [])
  [⟨0,0,.row 338 2 32 [[.rx 0 0 2 0 0,.osl 1 0]]⟩,⟨1,0,.row 5 1 1 (AH_ x)⟩] :=
 Mt_ Tryz.call336 32 (.osl 1 0) _ (by simp) Nd_
def KQ_ : Ann:=⟨[7],[]⟩
set_option maxHeartbeats 1000000 in
theorem FK_ (x:ByteArray) (hx:x.size≤150000000000000) :
  AM_ Tryz.prog (.func 305) [.rx 0 0 2 0 0,.str x] [⟨0,0,.row 338 2 32 [[.nilp,.nilsl]]⟩] (.tup [.int .i64 x.size,.nilifc])
   [⟨0,0,.row 338 2 32 [[.rx 0 0 2 0 0,.osl 1 1]]⟩,⟨1,1,.row 5 1 1 (AH_ x)⟩]:=by
 refine AP_ [] [(0,0,0),(14,1,1)] KQ_ Tryz.func305 Tryz.call305 Tryz.ntmps305 mxd (aj2 @KQ_.eq_1 Tryz.results305) rfl (by simp) (by simp) (by simp) fun hwf B hnt hgAnn=> ?_
 simp only[argS]
 (repeat (first | refine Aw_ fun K hK=> ?_ | (refine DW_r KQ_ mxd (by kernel_rfl) ?_;simp[KQ_,hnt,hx];try simp (disch:=omega) only[Ah_]) | refine Al_ ?_ | (refine AJ_ ?_ ?_ ?_;(· (simp[hnt,hx];done));(try (rotate_left;(· (intro hc;(try simp[hnt,hx]at hc);done))))) | (refine Ay_ ?_;simp[Tryz.results305,hnt,hx]) | ((first | refine Aq_ ?_ | refine Ap_ ?_);simp[hnt,hx]) | (intro hc;(try simp[hnt,hx]at hc);(try (exfalso;omega))) | (refine Az_ [(0,0)] [] (Mz_) ?_ ?_;(· (simp[hnt,hx];done));(intro _;try simp[hnt,hx])) | (refine⟨?_,?_⟩; · omega) | omega | apply_assumption -exfalso -symm | (exfalso;omega)))
def GW_ : Ann:=⟨[7],[]⟩
set_option maxHeartbeats 1000000 in
theorem BO_ (y x:ByteArray) (hx:y.size+x.size≤150000000000000) :
  AM_ Tryz.prog (.func 305) [.rx 0 0 2 0 0,.str x] [⟨0,0,.row 338 2 32 [[.rx 0 0 2 0 0,.osl 1 0]]⟩,⟨1,0,.row 5 1 1 (AH_ y)⟩] (.tup [.int .i64 x.size,.nilifc])
   [⟨0,0,.row 338 2 32 [[.rx 0 0 2 0 0,.osl 1 1]]⟩,⟨1,1,.row 5 1 1 (AH_ (y++x))⟩]:=by
 refine AP_ [] [(0,0,0),(1,1,1)] GW_ Tryz.func305 Tryz.call305 Tryz.ntmps305 mxd (aj2 @GW_.eq_1 Tryz.results305) rfl (by simp) (by simp) (by simp) fun hwf B hnt hgAnn=> ?_
 simp only[argS];rw[ZN_]
 (repeat (first | refine Aw_ fun K hK=> ?_ | (refine DW_r GW_ mxd (by kernel_rfl) ?_;simp[GW_,hnt,hx,AF_];try simp (disch:=omega) only[Ah_]) | refine Al_ ?_ | (refine AJ_ ?_ ?_ ?_;(· (simp[hnt,hx,AF_];done));(try (rotate_left;(· (intro hc;(try simp[hnt,hx,AF_]at hc);done))))) | (refine Ay_ ?_;simp[Tryz.results305,hnt,hx,AF_]) | ((first | refine Aq_ ?_ | refine Ap_ ?_);simp[hnt,hx,AF_]) | (intro hc;(try simp[hnt,hx,AF_]at hc);(try (exfalso;omega))) | (refine Az_ [(0,0),(1,1)] [] (Nh_ y) ?_ ?_;(· (simp[hnt,hx,AF_];done));(intro _;try simp[hnt,hx,AF_])) | (refine⟨?_,?_⟩; · omega) | omega | apply_assumption -exfalso -symm | (exfalso;omega)))
theorem Wn_ : Builder.Extra Tryz.prog Tryz.bldString_ren where
 sizeBuilder:=by kernel_rfl
 liesBuilder:=by kernel_rfl
 t5:=Tryz.underlying5
 a5:=Tryz.isAgg5
 z5:=Tryz.sizeOf5
 v5:=Tryz.zeroValue5
 infoByte:=by kernel_rfl
 cellsByte:=by kernel_rfl
 sizeByte:=by kernel_rfl
 neB5:=by decide
theorem DR_ (x:ByteArray) (hx:x.size≠0):AM_ Tryz.prog (.func 306) [.rx 0 0 2 0 0] [⟨0,0,.row 338 2 32 [[.rx 0 0 2 0 0,.osl 1 0]]⟩,⟨1,0,.row 5 1 1 (AH_ x)⟩] (.str x) [] :=
 Ib_ Tryz.bldString Wn_ Tryz.call306 32 x hx
theorem MV_ (l:List ByteArray):AM_ Tryz.prog (.func 258) [.osl 0 0] [⟨0,0,.row 9 1 16 (l.map dStr)⟩] (.tup []) [⟨0,0,.row 9 1 16 ((Eb_ l).map dStr)⟩] :=
 QV_ Tryz.sortStr (by rfl) Tryz.call258 (by decide) l
end Go.Proofs.YtchgnpnbcjflcaaGreat
end
section
namespace Go.Proofs.YtchgnpnbcjflcaaGreat
open Go Go.Dm Go.RowKit Go.Proofs
variable [DMode]
set_option maxRecDepth 1000000
def UA_ (w w':World) (b:Nat) (rest:List Value):Prop:=∃(g:Nat) (cs:Array Value),Upd [b] w w'∧w.heap.size≤g∧cs.size≤maxLen ∧
 w'.heap[b]? =some (.cells (.pointer (some ⟨b,0,none⟩):: .slice (some ⟨g,0,none⟩) 0 cs.size::rest).toArray 338 (0,0))∧w'.heap[g]? =some (.cells cs 5 (0,0))
theorem grown_of {b:Nat} {w:World} {cs:Array Value} {rest:List Value} (hbk:w.heap[b]? =some (.cells (.pointer (some ⟨b,0,none⟩):: .slice none 0 0::rest).toArray 338 (0,0))) (hm:cs.size≤maxLen) :
  UA_ w ((w.setCell ⟨b,1,none⟩ (.slice (some ⟨w.heap.size,0,none⟩) 0 cs.size)).alloc (.cells cs 5)).drew.drew.drew b rest:=by
 have hlt:b<w.heap.size:=(aG0.1 hbk).1;refine⟨w.heap.size,cs,⟨rfl,rfl,rfl,?_,?_,?_⟩,Nat.le_refl _,hm,?_,?_⟩
 ·simp[World.drew,World.alloc,World.setCell];omega
 ·simp[World.drew,World.alloc,World.setCell]
 ·intro q hq hn;simp only[aE0]at hn;simp only[World.drew,World.alloc,World.setCell];rw[bV0,if_neg (by simp;omega),cF0,if_neg (fun h=>hn h.symm)]
 ·simp only[World.drew,World.alloc,World.setCell];rw[bV0,if_neg (by simp;omega),cF0,if_pos rfl,hbk];simp
 ·simp only[World.drew,World.alloc,World.setCell];rw[bV0,if_pos (by simp)]
set_option maxHeartbeats 2000000 in
theorem ZA_ (b n:Nat) (rest:List Value) (w:World) (hbk:w.heap[b]? =some (.cells (.pointer (some ⟨b,0,none⟩):: .slice none 0 0::rest).toArray 338 (0,0))) (hn:n≤140737488355328) :
  Calls Tryz.prog 356 #[.pointer (some ⟨b,0,none⟩),.int .i64 n] w fun e w'=>e= .returned (.tuple #[])∧UA_ w w' b rest:=by
 have mixed:=mxd;obtain⟨cs,hrun,hle,hmax⟩:=Lib.run_makeNoZero (P:=Tryz.prog) w.drew #[3] 336 5 Tryz.underlying336 n (by omega)
 have hw:IntKind.i64.wrap (IntKind.i64.wrap 0+(n:Int))=n:=by
  rw[Ah_ (n:=0) (by omega) (by omega),wq];omega
 have hlt:b<w.heap.size:=(aG0.1 hbk).1
 have hcall:(callFunc 358 #[.int .i64 (IntKind.i64.wrap (IntKind.i64.wrap 0+(n:Int)))]).run Tryz.prog w.drew= .ok (.value (.slice (some ⟨w.drew.heap.size,0,none⟩) n cs.size)) (w.drew.drew.drew.alloc (.cells cs 5)):=by
  rw[hw,run_callFunc_extern Tryz.func358 (by kernel_rfl) (by kernel_rfl) (by kernel_rfl) (e:=Extern.BytealgMakeNoZero.makeNoZero #[3] #[336]) (by kernel_rfl),hrun];rfl
 have c1:w.drew.cell? ⟨b,1,none⟩=some (.slice none 0 0):=by
  have h1:w.drew.heap[b]? =_:=hbk;rw[Lib.cell_of_heap h1];rfl
 have h2:(w.alloc (.cells cs 5)).heap[b]? =some (.cells (.pointer (some ⟨b,0,none⟩):: .slice none 0 0::rest).toArray 338 (0,0)):=(Lib.alloc_old w _ b hlt).trans hbk;have c2:(w.alloc (.cells cs 5)).cell? ⟨b,1,none⟩=some (.slice none 0 0):=by rw[Lib.cell_of_heap h2];rfl
 have f2:(w.alloc (.cells cs 5)).frozen? ⟨b,1,none⟩=false:=Lib.frozen_of_heap h2 1
 have hcopy:∀W:World,(Builtin.copy_ #[336,336] 3 #[.slice (some ⟨w.heap.size,0,none⟩) 0 cs.size,.slice none 0 0]).run Tryz.prog W= .ok (goInt 0) W :=
  fun W=>run_copy_none W 336 336 3 5 _ _ 0 cs.size 0 0 Tryz.underlying336 (by kernel_rfl) rfl
 clear hw
 go_enter Tryz.func356,Tryz.ntmps356
 go_wp2
 go_region_o
 all_goals (go_wp2;go_end0;exact⟨rfl,grown_of hbk (hmax (by unfold maxLen;omega))⟩)
set_option maxHeartbeats 2000000 in
theorem ac_ (b n:Nat) (rest:List Value) (w:World) (hbk:w.heap[b]? =some (.cells (.pointer none:: .slice none 0 0::rest).toArray 338 (0,0))) (hn1:1≤n) (hn:n≤140737488355328) :
  Calls Tryz.prog 348 #[.pointer (some ⟨b,0,none⟩),.int .i64 n] w fun e w'=>e= .returned (.tuple #[])∧UA_ w w' b rest:=by
 have mixed:=mxd;have hlt:b<w.heap.size:=(aG0.1 hbk).1
 have hbk1:(w.setCell ⟨b,0,none⟩ (.pointer (some ⟨b,0,none⟩))).heap[b]? =some (.cells (.pointer (some ⟨b,0,none⟩):: .slice none 0 0::rest).toArray 338 (0,0)):=by
  simp[World.setCell,cF0,hbk]
 have c1:(w.setCell ⟨b,0,none⟩ (.pointer (some ⟨b,0,none⟩))).drew.cell? ⟨b,1,none⟩=some (.slice none 0 0):=by
  have h1:(w.setCell ⟨b,0,none⟩ (.pointer (some ⟨b,0,none⟩))).drew.heap[b]? =_:=hbk1;rw[Lib.cell_of_heap h1];rfl
 have hU:Upd [b] w (w.setCell ⟨b,0,none⟩ (.pointer (some ⟨b,0,none⟩))).drew:=⟨rfl,rfl,rfl,fun _=>Nat.le_succ _,by simp[World.setCell,World.drew],fun q hq hne=>by
  simp only[aE0]at hne;simp only[World.setCell,World.drew]
  rw[cF0,if_neg (fun h=>hne h.symm)]⟩
 have hsh:w.shape? b=some (338,rest.length+2):=by simp[World.shape?,hbk]
 have hc2:Tryz.prog.cellsOf 338=2:=by kernel_rfl
 have hli:=RI_ (P:=Tryz.prog) (T:=338) (n:=(rest.length+2)/Tryz.prog.cellsOf 338) (by show ¬_;exact of_decide_eq_true (by kernel_rfl)) (by rw[hc2];decide) (by rw[hc2];omega);have hcc:=Gr_ b (rest.length+2) w (by rw[Lib.cell_of_heap hbk];rfl) hsh (by omega) hli (Lib.frozen_of_heap hbk 0);have hg:=ZA_ b n rest (w.setCell ⟨b,0,none⟩ (.pointer (some ⟨b,0,none⟩))).drew hbk1 hn
 go_enter Tryz.func348,Tryz.ntmps348
 go_wp2_with (refine hcc.mono ?_;rintro e w' ⟨rfl,rfl⟩)
 go_region_o
 all_goals go_wp2_with (refine hg.mono ?_;rintro e w' ⟨rfl,h1⟩)
 all_goals (go_end0;obtain⟨g,cs,u,h2,h3,h4,h5⟩:=h1;exact⟨rfl,g,cs,hU.trans u (fun x hx=> .inl hx),by simpa[World.setCell,World.drew]using h2,h3,h4,h5⟩)
end Go.Proofs.YtchgnpnbcjflcaaGreat
end
section
namespace Go.Proofs.YtchgnpnbcjflcaaGreat
open Go Go.Dm Go.RowKit Go.Proofs
variable [DMode]
set_option maxRecDepth 100000
theorem Hz_ (n:Nat) (hn1:1≤n) (hn:n≤140737488355328):AM_ Tryz.prog (.func 348) [.rx 0 0 2 0 0,.int .i64 n] [⟨0,0,.row 338 2 32 [[.nilp,.nilsl]]⟩] (.tup [])
  [⟨0,0,.row 338 2 32 [[.rx 0 0 2 0 0,.osl 1 1]]⟩,⟨1,1,.row 5 1 1 []⟩]:=by
 refine⟨by simp,Tryz.call348,fun M w loc vs S hvs=> ?_⟩;have hk:=S.ok _ (aE0.2 rfl);obtain⟨hbs,hk⟩:=hk
 rcases hk with ⟨h,_⟩ | ⟨b,arr,cap,h1,h2,h3,h4,h5,h6,h7⟩
 ·simp at h
 ·obtain⟨v0,v1,rest,rfl,g0,g1⟩:=Gt_ h7;simp only[rd]at g0 g1;subst g0;subst g1;have hcur:Ai_ [(⟨0,0,.row 338 2 32 [[.nilp,.nilsl]]⟩:Ent)] loc 0 0=some (loc 0):=by simp[Ai_,At_]
  simp only[rdV,rd]at hvs;obtain⟨pv,r,hvs,hp,v2,r2,rfl,⟨rfl,_⟩,rfl⟩:=hvs;obtain⟨b',hb',rfl⟩:=hp _ hcur;simp only at h1 h2;rw[h1]at hb';simp only[bH0,and_true]at hb';subst hb';have hvs':vs= #[.pointer (some ⟨b,0,none⟩),.int .i64 n]:=by apply Array.ext';simpa using hvs
  subst hvs';refine⟨Tryz.call348,(ac_ b n rest w h3 hn1 hn).mono ?_⟩;rintro e w' ⟨rfl,g,cs,hu,hg,hm,hb,hgc⟩;have hgl:g<w'.heap.size:=(aG0.1 hgc).1;have hbl:b<w.heap.size:=(aG0.1 h3).1
  let L1:Dm.Loc:=⟨[g],.slice (some ⟨g,0,none⟩) 0 cs.size⟩
  let loc':Nat→Dm.Loc:=fun i=>if i=1 then L1 else loc i
  have e0:loc' 0=loc 0:=rfl;have e1:loc' 1=L1:=rfl
  let own':List Ent:=[⟨0,0,.row 338 2 32 [[.rx 0 0 2 0 0,.osl 1 1]]⟩,⟨1,1,.row 5 1 1 []⟩]
  have hhot:Ab_ own' loc'=[b,g]:=by simp[own',Ab_,e0,e1,h1,L1]
  have hhot0:Ab_ [(⟨0,0,.row 338 2 32 [[.nilp,.nilsl]]⟩:Ent)] loc=[b]:=by simp[Ab_,h1]
  have hc0:Ai_ own' loc' 0 0=some (loc 0):=by simp[own',Ai_,At_,e0]
  have hc1:Ai_ own' loc' 1 1=some L1:=by simp[own',Ai_,At_,e1]
  refine⟨_,rfl,loc',⟨by simp,?_,?_,?_,?_⟩,?_,?_,?_,by simp[rd,rdV]⟩
  ·show (Ab_ own' loc').Nodup
   rw[hhot];simp;omega
  ·show ∀q∈Ab_ own' loc',q∉M
   rw[hhot];intro q hq
   rcases aK0.1 hq with rfl | hq
   ·exact S.ap q (by rw[hhot0];simp)
   ·simp only[aE0]at hq;subst hq;intro hM;have:=S.lt q (aP0 _ hM);omega
  ·show ∀q∈Ab_ own' loc'++M,q<w'.heap.size
   rw[hhot];intro q hq
   rcases aI0.1 hq with hq | hq
   ·rcases aK0.1 hq with rfl | hq
    ·exact cG0 hbl hu.size
    ·simp only[aE0]at hq;subst hq;exact hgl
   ·exact cG0 (S.lt q (aP0 _ hq)) hu.size
  ·intro e he
   rcases aK0.1 he with rfl | he
   ·refine⟨hbs,.inr ⟨b,_,cap,h1,h2,hb,h4,h5,by simpa using h6,?_⟩⟩;refine Ur_ ?_ ?_ rfl rfl
    ·simp only[rd];intro l hl;have hl':Ai_ own' loc' 0 0=some l:=hl;rw[hc0]at hl';simp only[aA0]at hl';subst hl';exact⟨b,h1,by simp⟩
    ·simp only[rd];intro l hl;have hl':Ai_ own' loc' 1 1=some l:=hl;rw[hc1]at hl';simp only[aA0]at hl';subst hl';rfl
   ·simp only[aE0]at he;subst he;exact⟨by simp,.inr ⟨g,cs,cs.size,rfl,rfl,hgc,by simp,hm,by simp,by simp[rdR]⟩⟩
  ·rw[hhot0];exact hu
  ·show ∀q∈Ab_ own' loc',_
   rw[hhot,hhot0];intro q hq
   rcases aK0.1 hq with rfl | hq
   ·exact .inl (by simp)
   ·simp only[aE0]at hq;subst hq;exact .inr hg
  ·intro e he hr
   rcases aK0.1 he with rfl | he
   ·rw[hcur];rfl
   ·simp only[aE0]at he;subst he;simp at hr
end Go.Proofs.YtchgnpnbcjflcaaGreat
end
section
namespace Go.Proofs.YtchgnpnbcjflcaaGreat
open Go Go.Dm Go.RowKit Go.Proofs
variable [DMode]
attribute [local irreducible] DW Bj_ Bp_
set_option maxRecDepth 100000
def DF_ (sep:ByteArray) (T y:ByteArray):ByteArray:=T++sep++y
def Hj_ : List ByteArray→ByteArray→ByteArray
 | [],_=>⟨#[]⟩
 | x::r,sep=>r.foldl (DF_ sep) x
theorem Jw_ (sep T y:ByteArray):(DF_ sep T y).size=T.size+sep.size+y.size:=by simp[DF_,aS0]
theorem EH_ (sep:ByteArray) (hs:sep.size≤3):∀(r:List ByteArray) (x:ByteArray),(∀y∈r,y.size≤67108864)→(r.foldl (DF_ sep) x).size≤x.size+67108867*r.length∧x.size≤(r.foldl (DF_ sep) x).size
 | [],x,_=>by simp
 | y::r,x,h=>by
  obtain⟨h1,h2⟩:=EH_ sep hs r (DF_ sep x y) fun z hz=>h z (aD0 _ hz)
  have h3:=h y aF0;rw[Jw_]at h1 h2;rw[cO0,List.length_cons];omega
theorem NP_ {β α:Type} {f:β→α→β} {b:β} {l:List α} {k:Nat} {x:α} (hx:l[k]? =some x):(l.take (k+1)).foldl f b=f ((l.take k).foldl f b) x:=by
 obtain⟨h,rfl⟩:=aB0.1 hx;rw[dR0 h,cR0];rfl
theorem Kt_ (x:ByteArray):(⟨#[]⟩:ByteArray)++x=x:=by
 apply Gs_
 simp[ByteArray.data_append]
theorem bytesD_0 : AH_ ⟨#[]⟩=[]:=rfl
def GV_ : Ann:=⟨[57,61,70,72,74],[⟨18,[8],[],[]⟩]⟩
set_option maxHeartbeats 8000000 in
theorem join_pure (xs:List ByteArray) (sep:ByteArray) (hs:sep.size≤3) (hl:xs.length≤1572864) (hx:∀x∈xs,1≤x.size∧x.size≤67108864):Ac_ Tryz.prog 322 [.sl 1 16 (xs.map dStr),.str sep] (.str (Hj_ xs sep)):=by
 refine Aa_ [] GV_ Tryz.func322 Tryz.call322 Tryz.ntmps322 mxd (aj2 @GV_.eq_1 Tryz.results322) rfl (by simp) (by simp[mx]) fun hwf B hnt hgAnn=> ?_
 clear hwf;simp only[argS];have AI_:(⟨#[]⟩:ByteArray).size=0:=rfl
 match xs,hl,hx with
 | [],hl,hx =>
  exact go0 aj0 aj0 (aj3 @AI_ @Hj_.eq_1 @Hj_.eq_2)
 | [x],hl,hx =>
  exact go0 aj0 aj0 (aj4 @AI_ @Hj_.eq_1 @Hj_.eq_2 @dStr.eq_1)
 | x0::x1::r,hl,hx =>
  obtain⟨xs,hxs⟩:∃xs,xs=x0::x1::r:=⟨_,rfl⟩;have hJ:Hj_ (x0::x1::r) sep=(xs.drop 1).foldl (DF_ sep) x0:=by rw[hxs];rfl
  have h0:xs[0]? =some x0:=by rw[hxs];rfl
  have h2:2≤xs.length:=by rw[hxs];simp
  obtain⟨J,hJJ⟩:∃J,J=Hj_ (x0::x1::r) sep:=⟨_,rfl⟩;rw[←hJJ];rw[←hxs]at hl hx ⊢;rw[←hJJ]at hJ;clear hJJ hxs;have hlt0:0<xs.length:=by omega
  have h0':xs[0]'hlt0=x0:=(aB0.1 h0).2;have c0:¬(xs.length:Int)=0:=by omega
  have c1:¬(xs.length:Int)=1:=by omega
  have c0b:((xs.length:Int)==0)=false:=by simpa using c0
  have c1b:((xs.length:Int)==1)=false:=by simpa using c1
  have w1:IntKind.i64.wrap ((xs.length:Int)-1)=(xs.length:Int)-1:=wq
  obtain⟨m0,hm0,hm1,hst⟩:∃m0:Int,0≤m0∧m0≤4718592∧(if 0<sep.size then m0=(sep.size:Int)*((xs.length:Int)-1)else m0=0):=by
   by_cases h:0<sep.size
   ·refine⟨(sep.size:Int)*((xs.length:Int)-1),?_,?_,by rw[if_pos h]⟩
    ·exact Int.mul_nonneg (by omega) (by omega)
    ·have:(sep.size:Int)*((xs.length:Int)-1)≤3*1572864:=Int.mul_le_mul (by omega) (by omega) (by omega) (by omega);omega
   ·exact⟨0,by omega,by omega,by rw[if_neg h]⟩
  have hys:(xs.drop 1).length=xs.length-1:=by rw[bS0]
  have hyx:∀y∈xs.drop 1,y.size≤67108864:=fun y hy=>(hx y (List.mem_of_mem_drop hy)).2
  have t2:List.take (xs.length-1) (xs.map dStr).tail=(xs.drop 1).map dStr:=by rw[←List.drop_one,←List.map_drop];exact bW0 (by simp)
  have hx0:=hx x0 (by rw[←h0'];exact cY0 hlt0);have hw1:=BO_ ⟨#[]⟩ x0 (by rw[AI_];omega);rw[Kt_,bytesD_0]at hw1;obtain⟨ys,hysd⟩:∃ys,ys=xs.drop 1:=⟨_,rfl⟩;rw[←hysd]at hJ hys hyx t2;clear hysd;have hwr:∀n:Nat,(n:Int)≤9223372036854775807→IntKind.i64.wrap (n:Int)=n:=fun n h=>Ah_ (by omega) h
  by_cases hsep:0<sep.size
  ·rw[if_pos hsep]at hst;have w2:IntKind.i64.wrap ((sep.size:Int)*((xs.length:Int)-1))=m0:=by rw[←hst];exact wq
   have w3:IntKind.i64.wrap m0=m0:=wq
   have hdv:¬IntKind.i64.wrap ((9223372036854775807:Int).tdiv ((xs.length:Int)-1))≤(sep.size:Int):=by
    rw[Int.tdiv_eq_ediv_of_nonneg (by omega)];have h4:(4:Int)≤9223372036854775807/((xs.length:Int)-1):=Int.le_ediv_of_mul_le (by omega) (by omega);have h5:(9223372036854775807:Int)/((xs.length:Int)-1)≤9223372036854775807:=Int.ediv_le_self _ (by omega);rw[Ah_ (by omega) h5];omega
   have hnz:¬(xs.length:Int)-1=0:=by omega
   have hsi:(0:Int)<(sep.size:Int):=by omega
   (refine go1 aj0 aj0 (aj12 @AI_ c0 c1 c0b c1b w1 w2 w3 hdv hnz hsep hsi) ?_;intros;refine mk_i ?_)
   refine Ae_ (X:={p:Nat×Nat//p.1≤xs.length∧p.2≤4718592+67108864*p.1∧(0<p.1→1≤p.2)}) (fun p=>⟨[(0,.sl 1 16 (xs.map dStr)),(1,.str sep),(5,.int .i64 p.1.2),(39,.sl 1 16 (xs.map dStr)),(40,.int .i64 xs.length),(41,.int .i64 p.1.1)],[]⟩) (fun p=>xs.length-p.1.1) ⟨(0,m0.toNat),by simp only;refine⟨by omega,by omega,by omega⟩⟩ (Sub.lit (by simp;try omega)) ?_;rintro⟨⟨k,m⟩,hk,hmb,hm1⟩;simp only at hk hmb hm1 ⊢
   by_cases hlt:k<xs.length
   ·obtain⟨x,hxk,hxk',hxm⟩:=Ak_ hlt;obtain⟨y1,y2⟩:=hx x hxm;have q1:IntKind.i64.wrap (9223372036854775807-(m:Int))=9223372036854775807-(m:Int):=wq;have q2:¬(9223372036854775807-(m:Int)<(x.size:Int)):=by omega
    have q3:IntKind.i64.wrap ((m:Int)+(x.size:Int))=(m:Int)+(x.size:Int):=wq
    (refine go1 aj0 aj0 (aj7 @dStr.eq_1 hlt hxk hxk' q1 q2 q3) ?_;intros;refine mk_i ?_)
    refine Aj_.mk ⟨(k+1,m+x.size),show k+1≤xs.length∧m+x.size≤4718592+67108864*(k+1)∧(0<k+1→1≤m+x.size) from ⟨by omega,by omega,by omega⟩⟩ (Sub.lit (by simp)) (by simp;omega)
    skip
   ·have hkk:k=xs.length:=by omega
    subst hkk;have hg:=Hz_ m (hm1 (by omega)) (by omega)
    (repeat (first | (refine Ji_ (bs:=32) (k:=2) (z:=[.nilp,.nilsl]) (by simp[hnt]) (by simp) (by rfl) rfl (by decide) (fun _ _=> ?_);simp[hnt,dStr,h0,h0',hlt0,t2,AI_]) | refine Aw_ fun K hK=> ?_ | (refine DW_r GV_ mxd (by kernel_rfl) ?_;simp[GV_,hnt,dStr,h0,h0',hlt0,t2,AI_];try simp (disch:=omega) only[Ah_]) | refine Al_ ?_ | (refine AJ_ ?_ ?_ ?_;(· (simp[hnt,dStr,h0,h0',hlt0,t2,AI_];done));(try (rotate_left;(· (intro hc;(try simp[hnt,dStr,h0,h0',hlt0,t2,AI_]at hc);done))))) | (refine Ay_ ?_;simp[Tryz.results322,hnt,dStr,h0,h0',hlt0,t2,AI_]) | ((first | refine Aq_ ?_ | refine Ap_ ?_);simp[hnt,dStr,h0,h0',hlt0,t2,AI_]) | (intro hc;(try simp[hnt,dStr,h0,h0',hlt0,t2,AI_]at hc);(try (exfalso;omega))) | (refine Az_ [(8,0)] [(50,1)] (hg) ?_ ?_;(· (simp[hnt,dStr,h0,h0',hlt0,t2,AI_];done));(intro _;try simp[hnt,dStr,h0,h0',hlt0,t2,AI_])) | (refine Az_ [(8,0),(50,1)] [] (hw1) ?_ ?_;(· (simp[hnt,dStr,h0,h0',hlt0,t2,AI_];done));(intro _;try simp[hnt,dStr,h0,h0',hlt0,t2,AI_])) | (refine⟨?_,?_⟩; · omega) | omega | apply_assumption -exfalso -symm | (exfalso;omega)))
    refine Ae_ (X:={k:Nat//k≤ys.length}) (fun k=>⟨[(1,.str sep),(8,.rx 8 1 2 0 0),(63,.sl 1 16 (ys.map dStr)),(64,.int .i64 ys.length),(65,.int .i64 k.1)],[⟨8,1,.row 338 2 32 [[.rx 8 1 2 0 0,.osl 50 1]]⟩,⟨50,1,.row 5 1 1 (AH_ ((ys.take k.1).foldl (DF_ sep) x0))⟩]⟩) (fun k=>ys.length-k.1) ⟨0,by omega⟩ (Sub.lit (by simp[t2,hys])) ?_;rintro⟨k,hk⟩;simp only
    by_cases hlt:k<ys.length
    ·obtain⟨y,hy,hy',hym⟩:=Ak_ hlt;obtain⟨j1,j2⟩:=EH_ sep hs (ys.take k) x0 fun z hz=>hyx z (dE0 hz)
     rw[aY0]at j1;have hst2:=NP_ (f:=DF_ sep) (b:=x0) hy;have hy9:=hyx y hym;obtain⟨T,hT⟩:∃T,T=(ys.take k).foldl (DF_ sep) x0:=⟨_,rfl⟩;rw[←hT]at j1 j2 hst2 ⊢;have e1:=BO_ T sep (by omega);have e2:=BO_ (T++sep) y (by rw[aS0];omega);rw[show T++sep++y=DF_ sep T y from rfl,←hst2]at e2
     (refine go1 aj0 (aj2 (spc [(8,0),(50,1)] [] e1) (spc [(8,0),(50,1)] [] e2)) (aj4 @dStr.eq_1 hlt hy hy') ?_;intros;refine mk_i ?_)
     refine Aj_.mk ⟨k+1,by omega⟩ (Sub.lit (by simp)) (by simp;omega)
     skip
    ·have hkk:k=ys.length:=by omega
     subst hkk;rw[aQ0,←hJ];obtain⟨j1,j2⟩:=EH_ sep hs ys x0 hyx;rw[←hJ]at j1 j2;have e1:=DR_ J (by omega);exact go0 aj0 (aj1 (spc [(8,0),(50,1)] [] e1)) aj0
  ·rw[if_neg hsep]at hst
   (refine go1 aj0 aj0 (aj7 @AI_ c0 c1 c0b c1b w1 hsep) ?_;intros;refine mk_i ?_)
   refine Ae_ (X:={p:Nat×Nat//p.1≤xs.length∧p.2≤4718592+67108864*p.1∧(0<p.1→1≤p.2)}) (fun p=>⟨[(0,.sl 1 16 (xs.map dStr)),(1,.str sep),(5,.int .i64 p.1.2),(39,.sl 1 16 (xs.map dStr)),(40,.int .i64 xs.length),(41,.int .i64 p.1.1)],[]⟩) (fun p=>xs.length-p.1.1) ⟨(0,m0.toNat),by simp only;refine⟨by omega,by omega,by omega⟩⟩ (Sub.lit (by simp;try omega)) ?_;rintro⟨⟨k,m⟩,hk,hmb,hm1⟩;simp only at hk hmb hm1 ⊢
   by_cases hlt:k<xs.length
   ·obtain⟨x,hxk,hxk',hxm⟩:=Ak_ hlt;obtain⟨y1,y2⟩:=hx x hxm;have q1:IntKind.i64.wrap (9223372036854775807-(m:Int))=9223372036854775807-(m:Int):=wq;have q2:¬(9223372036854775807-(m:Int)<(x.size:Int)):=by omega
    have q3:IntKind.i64.wrap ((m:Int)+(x.size:Int))=(m:Int)+(x.size:Int):=wq
    (refine go1 aj0 aj0 (aj7 @dStr.eq_1 hlt hxk hxk' q1 q2 q3) ?_;intros;refine mk_i ?_)
    refine Aj_.mk ⟨(k+1,m+x.size),show k+1≤xs.length∧m+x.size≤4718592+67108864*(k+1)∧(0<k+1→1≤m+x.size) from ⟨by omega,by omega,by omega⟩⟩ (Sub.lit (by simp)) (by simp;omega)
    skip
   ·have hkk:k=xs.length:=by omega
    subst hkk;have hg:=Hz_ m (hm1 (by omega)) (by omega)
    (repeat (first | (refine Ji_ (bs:=32) (k:=2) (z:=[.nilp,.nilsl]) (by simp[hnt]) (by simp) (by rfl) rfl (by decide) (fun _ _=> ?_);simp[hnt,dStr,h0,h0',hlt0,t2,AI_]) | refine Aw_ fun K hK=> ?_ | (refine DW_r GV_ mxd (by kernel_rfl) ?_;simp[GV_,hnt,dStr,h0,h0',hlt0,t2,AI_];try simp (disch:=omega) only[Ah_]) | refine Al_ ?_ | (refine AJ_ ?_ ?_ ?_;(· (simp[hnt,dStr,h0,h0',hlt0,t2,AI_];done));(try (rotate_left;(· (intro hc;(try simp[hnt,dStr,h0,h0',hlt0,t2,AI_]at hc);done))))) | (refine Ay_ ?_;simp[Tryz.results322,hnt,dStr,h0,h0',hlt0,t2,AI_]) | ((first | refine Aq_ ?_ | refine Ap_ ?_);simp[hnt,dStr,h0,h0',hlt0,t2,AI_]) | (intro hc;(try simp[hnt,dStr,h0,h0',hlt0,t2,AI_]at hc);(try (exfalso;omega))) | (refine Az_ [(8,0)] [(50,1)] (hg) ?_ ?_;(· (simp[hnt,dStr,h0,h0',hlt0,t2,AI_];done));(intro _;try simp[hnt,dStr,h0,h0',hlt0,t2,AI_])) | (refine Az_ [(8,0),(50,1)] [] (hw1) ?_ ?_;(· (simp[hnt,dStr,h0,h0',hlt0,t2,AI_];done));(intro _;try simp[hnt,dStr,h0,h0',hlt0,t2,AI_])) | (refine⟨?_,?_⟩; · omega) | omega | apply_assumption -exfalso -symm | (exfalso;omega)))
    refine Ae_ (X:={k:Nat//k≤ys.length}) (fun k=>⟨[(1,.str sep),(8,.rx 8 1 2 0 0),(63,.sl 1 16 (ys.map dStr)),(64,.int .i64 ys.length),(65,.int .i64 k.1)],[⟨8,1,.row 338 2 32 [[.rx 8 1 2 0 0,.osl 50 1]]⟩,⟨50,1,.row 5 1 1 (AH_ ((ys.take k.1).foldl (DF_ sep) x0))⟩]⟩) (fun k=>ys.length-k.1) ⟨0,by omega⟩ (Sub.lit (by simp[t2,hys])) ?_;rintro⟨k,hk⟩;simp only
    by_cases hlt:k<ys.length
    ·obtain⟨y,hy,hy',hym⟩:=Ak_ hlt;obtain⟨j1,j2⟩:=EH_ sep hs (ys.take k) x0 fun z hz=>hyx z (dE0 hz)
     rw[aY0]at j1;have hst2:=NP_ (f:=DF_ sep) (b:=x0) hy;have hy9:=hyx y hym;obtain⟨T,hT⟩:∃T,T=(ys.take k).foldl (DF_ sep) x0:=⟨_,rfl⟩;rw[←hT]at j1 j2 hst2 ⊢;have e1:=BO_ T sep (by omega);have e2:=BO_ (T++sep) y (by rw[aS0];omega);rw[show T++sep++y=DF_ sep T y from rfl,←hst2]at e2
     (refine go1 aj0 (aj2 (spc [(8,0),(50,1)] [] e1) (spc [(8,0),(50,1)] [] e2)) (aj4 @dStr.eq_1 hlt hy hy') ?_;intros;refine mk_i ?_)
     refine Aj_.mk ⟨k+1,by omega⟩ (Sub.lit (by simp)) (by simp;omega)
     skip
    ·have hkk:k=ys.length:=by omega
     subst hkk;rw[aQ0,←hJ];obtain⟨j1,j2⟩:=EH_ sep hs ys x0 hyx;rw[←hJ]at j1 j2;have e1:=DR_ J (by omega);exact go0 aj0 (aj1 (spc [(8,0),(50,1)] [] e1)) aj0
end Go.Proofs.YtchgnpnbcjflcaaGreat
end
section
namespace Go.Proofs.YtchgnpnbcjflcaaGreat
open Go Go.Dm
variable [DMode]
def sgn (k:Int):ByteArray:=if k=6 then ⟨#[42]⟩else if k=7 then ⟨#[43]⟩else if k=8 then ⟨#[63]⟩else ⟨#[]⟩
def btw (k:Int):ByteArray:=if k=5 then ⟨#[32,124,32]⟩else if k=4 then ⟨#[32]⟩else ⟨#[]⟩
def parB (pk k:Int):Bool:=decide (k=5)||(decide (k=4)&& !decide (pk=5))
def parT (pk k:Int) (s:ByteArray):ByteArray:=if parB pk k then ⟨#[40]⟩++s++⟨#[41]⟩else s
mutual
def txtT : RT→ByteArray
 | .mk x ks=>if x.k=1 then ⟨#[37]⟩else if x.k=2∨x.k=3 then x.s else Hj_ (txtL x.k ks) (btw x.k)++sgn x.k
def txtL (pk:Int):List RT→List ByteArray
 | []=>[]
 | t::ts=>parT pk t.x.k (txtT t)::txtL pk ts
end
theorem Or_ (x:Nd) (ks:List RT):txtT (.mk x ks)=if x.k=1 then ⟨#[37]⟩else if x.k=2∨x.k=3 then x.s else Hj_ (txtL x.k ks) (btw x.k)++sgn x.k:=by rw[txtT]
theorem EA_ (pk:Int) (t:RT) (ts:List RT):txtL pk (t::ts)=parT pk t.x.k (txtT t)::txtL pk ts:=by rw[txtL]
theorem Kq_ (pk:Int):txtL pk []=[]:=by rw[txtL]
theorem CC_ (pk:Int):∀ts:List RT,txtL pk ts=ts.map fun t=>parT pk t.x.k (txtT t)
 | []=>Kq_ pk
 | t::ts=>by rw[EA_,CC_ pk ts];rfl
theorem size1' (a:UInt8):(⟨#[a]⟩:ByteArray).size=1:=rfl
theorem GT_ (k:Int):(btw k).size≤3:=by unfold btw;split<;>(try split)<;>decide
theorem UO_ (k:Int):(sgn k).size≤1:=by
 unfold sgn
 repeat' split
 all_goals decide
theorem IA_ (pk k:Int) (s:ByteArray):s.size≤(parT pk k s).size∧(parT pk k s).size≤s.size+2:=by
 unfold parT
 split
 ·rw[aS0,aS0,size1',size1'];omega
 ·omega
theorem Jv_ (sep:ByteArray) (hs:sep.size≤3):∀(r:List ByteArray) (x:ByteArray),(r.foldl (DF_ sep) x).size≤x.size+(r.map fun y=>y.size+3).sum∧x.size≤(r.foldl (DF_ sep) x).size
 | [],x=>by simp
 | y::r,x=>by
  obtain⟨h1,h2⟩:=Jv_ sep hs r (DF_ sep x y);rw[Jw_]at h1 h2;rw[cO0,List.map_cons,dH0];omega
theorem GK_ (xs:List ByteArray) (sep:ByteArray) (hs:sep.size≤3):(Hj_ xs sep).size≤(xs.map fun y=>y.size+3).sum:=by
 cases xs with
 | nil=>simp[Hj_];decide
 | cons x r =>
  have:=(Jv_ sep hs r x).1
  show (r.foldl (DF_ sep) x).size≤_
  rw[List.map_cons,dH0];omega
theorem RE_ {x:Nd} (h:mayN x=true) (hk:x.k=2∨x.k=3):1≤x.s.size:=by
 have hn:∀s,BD_ s=true→1≤s.size:=fun s hs=>by unfold BD_ at hs;simp only[aN0,decide_eq_true_eq]at hs;exact hs.1.1
 unfold mayN at h
 rcases hk with hk | hk
 ·rw[if_neg (by omega),if_pos hk]at h;simp only[aN0]at h;exact hn _ h.2.1
 ·rw[if_neg (by omega),if_neg (by omega),if_pos hk]at h;simp only[aN0]at h;exact hn _ h.2.1
theorem LQ_ {x:Nd} (h:mayN x=true) (h1:¬x.k=1) (h2:¬(x.k=2∨x.k=3)):1≤x.n:=by
 unfold mayN at h;rw[if_neg h1,if_neg (fun e=>h2 (.inl e)),if_neg (fun e=>h2 (.inr e))]at h
 repeat' split at h
 all_goals simp only[aN0,decide_eq_true_eq,aL0]at h
 all_goals omega
mutual
theorem FN_ : ∀(t:RT),okT t=true→1≤(txtT t).size∧(txtT t).size+5≤24*(flat t).length
 | .mk x ks,h=>by
  obtain⟨h1,h2,h3⟩:=Bx_ h;rw[Or_,AB_,List.length_cons]
  split
  ·rw[size1'];omega
  ·rename_i k1
   split
   ·rename_i k2;have:=RE_ h1 k2;have:=LP_ h1;omega
   ·rename_i k2;have hn:=LQ_ h1 k1 k2;obtain⟨s1,s2⟩:=If_ x.k ks h3;have hj:=GK_ (txtL x.k ks) (btw x.k) (GT_ _);have hg:=UO_ x.k;rw[aS0];refine⟨?_,by omega⟩
    cases ks with
    | nil=>simp at h2;omega
    | cons t ts =>
     have:=s2 (parT x.k t.x.k (txtT t)) (by rw[EA_];exact aF0);have h4:=(Jv_ (btw x.k) (GT_ _) (txtL x.k ts) (parT x.k t.x.k (txtT t))).2;rw[EA_]
     show 1≤((txtL x.k ts).foldl (DF_ (btw x.k)) (parT x.k t.x.k (txtT t))).size+_
     omega
theorem If_ : ∀(pk:Int) (ts:List RT),okL ts=true→((txtL pk ts).map fun y=>y.size+3).sum≤24*(Am_ ts).length∧∀y∈txtL pk ts,1≤y.size
 | pk,[],_=>by simp[Kq_]
 | pk,t::ts,h=>by
  obtain⟨h1,h2⟩:=AZ_ h;obtain⟨a1,a2⟩:=FN_ t h1;obtain⟨b1,b2⟩:=If_ pk ts h2;obtain⟨c1,c2⟩:=IA_ pk t.x.k (txtT t);rw[EA_,An_,List.map_cons,dH0,aC0];refine⟨by omega,fun y hy=> ?_⟩
  rcases aK0.1 hy with rfl | hy
  ·omega
  ·exact b2 y hy
end
abbrev Str (l:List ByteArray):Prop:=l.Pairwise fun a b=>Dn_ a b=true
theorem Nu_ : ∀{a b:List ByteArray},Str a→Str b→(∀x,x∈a↔x∈b)→a=b
 | [],[],_,_,_=>rfl
 | [],y::b,_,_,h=>by have:=(h y).2 aF0;simp at this
 | x::a,[],_,_,h=>by have:=(h x).1 aF0;simp at this
 | x::a,y::b,ha,hb,h=>by
  obtain⟨ha1,ha2⟩:=cH0.1 ha;obtain⟨hb1,hb2⟩:=cH0.1 hb
  have hxy:x=y:=by
   rcases aK0.1 ((h x).1 aF0)with h1 | h1
   ·exact h1
   ·rcases aK0.1 ((h y).2 aF0)with h2 | h2
    ·exact h2.symm
    ·have:=Nw_ (hb1 x h1);rw[ha1 y h2]at this;simp at this
  subst hxy;rw[Nu_ ha2 hb2 fun z=> ?_]
  constructor
  ·intro hz
   rcases aK0.1 ((h z).1 (aD0 _ hz))with h1 | h1
   ·subst h1;have:=ha1 z hz;rw[DS_]at this;simp at this
   ·exact h1
  ·intro hz
   rcases aK0.1 ((h z).2 (aD0 _ hz))with h1 | h1
   ·subst h1;have:=hb1 z hz;rw[DS_]at this;simp at this
   ·exact h1
theorem bl_lt : ∀a b:List UInt8,Op.bytesLess a b=true↔a<b
 | [],[]=>by simp[Op.bytesLess]
 | [],_::_=>by simp[Op.bytesLess]
 | _::_,[]=>by simp[Op.bytesLess]
 | x::a,y::b=>by
  rw[List.cons_lt_cons_iff];simp only[Op.bytesLess,dD0,aN0,decide_eq_true_eq,beq_iff_eq,bl_lt a b]
theorem QS_ (l:List ByteArray) (x:ByteArray):x∈Eb_ l↔x∈l:=by
 unfold Eb_;simp only[aV0,(dU0 _ _).mem_iff]
 constructor
 ·rintro⟨y,⟨z,hz,rfl⟩,rfl⟩;exact hz
 ·intro h;exact⟨_,⟨x,h,rfl⟩,rfl⟩
theorem JI_ (l:List ByteArray):(Eb_ l).Pairwise fun a b=>Dn_ b a=false:=by
 unfold Eb_;rw[dL0]
 have h:=List.pairwise_mergeSort (le:=fun x y:List UInt8=>decide (x≤y)) (by
  intro a b c h1 h2;simp only[decide_eq_true_eq]at *
  exact List.le_trans h1 h2) (by
  intro a b;simp only[dD0,decide_eq_true_eq]
  exact List.le_total a b) (l.map fun s=>s.data.toList)
 refine h.imp ?_;intro a b hab;simp only[decide_eq_true_eq]at hab
 have:¬Op.bytesLess b a=true:=fun h=>by
  rw[bl_lt]at h;exact(List.not_lt.2 hab) h
 simpa[Dn_]using this
def eqT (a b:ByteArray):Bool:=a==b
theorem NU_ : ∀{l:List ByteArray} {p:ByteArray},(p::l).Pairwise (fun a b=>Dn_ b a=false)→Str (BN_ eqT p l)∧(∀x∈BN_ eqT p l,Dn_ p x=true)∧∀x,(x=p∨x∈BN_ eqT p l)↔(x=p∨x∈l)
 | [],p,_=>⟨.nil,by simp[BN_],by simp[BN_]⟩
 | y::l,p,h=>by
  obtain⟨h1,h2⟩:=cH0.1 h;obtain⟨g1,g2,g3⟩:=NU_ h2;unfold BN_
  by_cases hyp:y=p
  ·subst hyp;rw[if_pos (by simp[eqT])];refine⟨g1,g2,fun x=> ?_⟩;rw[g3 x];simp only[aK0]
   constructor
   ·rintro (h | h)
    ·exact .inl h
    ·exact .inr (.inr h)
   ·rintro (h | h | h)
    ·exact .inl h
    ·exact .inl h
    ·exact .inr h
  ·rw[if_neg (by simp[eqT,hyp])]
   have hpy:Dn_ p y=true:=by
    cases hc:Dn_ p y
    ·exact absurd (Ir_ hc (h1 y aF0)).symm hyp
    ·rfl
   refine⟨cH0.2 ⟨g2,g1⟩,fun x hx=> ?_,fun x=> ?_⟩
   ·rcases aK0.1 hx with rfl | hx
    ·exact hpy
    ·exact HH_ hpy (g2 x hx)
   ·simp only[aK0];rw[g3 x]
def FH_ (l:List ByteArray):List ByteArray:=Bu_ eqT (Eb_ l)
theorem GA_ (l:List ByteArray):Str (FH_ l)∧∀x,x∈FH_ l↔x∈l:=by
 unfold FH_;have h:=JI_ l;have hm:=QS_ l
 cases hs:Eb_ l with
 | nil =>
  rw[hs]at hm;exact⟨.nil,by simpa[Bu_]using hm⟩
 | cons p t =>
  rw[hs]at h hm;obtain⟨g1,g2,g3⟩:=NU_ h;refine⟨cH0.2 ⟨g2,g1⟩,fun x=> ?_⟩;simp only[Bu_,aK0];rw[g3 x,←hm x];simp
theorem Fs_ {α:Type} (e:α→α→Bool):∀(l:List α) (p:α),(BN_ e p l).length≤l.length
 | [],_=>by simp[BN_]
 | y::l,p=>by
  unfold BN_
  split
  ·have:=Fs_ e l y;simp;omega
  ·have:=Fs_ e l y;simp;omega
theorem FM_ (l:List ByteArray):(FH_ l).length≤l.length:=by
 unfold FH_;have h:=ED_ l
 cases hs:Eb_ l with
 | nil=>simp[Bu_]
 | cons p t =>
  rw[hs]at h;have:=Fs_ eqT t p;simp only[Bu_,List.length_cons]at h ⊢;omega
theorem uniq_of {l a:List ByteArray} (ha:Str a) (h:∀x,x∈a↔x∈l):a=FH_ l:=by
 obtain⟨g1,g2⟩:=GA_ l;exact Nu_ ha g1 fun x=>by rw[h x,g2 x]
end Go.Proofs.YtchgnpnbcjflcaaGreat
end
section
namespace Go.Proofs.YtchgnpnbcjflcaaGreat
open Go Go.Dm
variable [DMode]
attribute [local irreducible] DW Bj_ Bp_
set_option maxRecDepth 100000

end Go.Proofs.YtchgnpnbcjflcaaGreat
end
section
namespace Go
section
variable {F : Fence} {n : Nat} {P : Program} {Q : Exit → Act → World → Prop} {a : Act} {w : World}
theorem CS_ {b:Frame} {k:List Item} {cs:List Frame} {c:Code}:step P (lone (b.atR a (.code (.scope c)::k)) cs w)= .next (lone (b.atR a (.code c:: .inScope c::k)) cs w) :=
 step_lone_go (by simp[stepG,stepG.exec,Frame.atR])
theorem Ow_ {b:Frame} {k:List Item} {cs:List Frame} {c:Code}:step P (lone (b.atR a (.inScope c::k)) cs w)= .next (lone (b.atR a k) cs w) :=
 step_lone_go (by simp[stepG,stepG.exec,Frame.atR])
theorem HE_ {c:Code} (h:c.wpIn F n P (Exit.noGoto Q) a w):(Code.scope c).wpIn F n P Q a w:=by
 intro b k cs hro hb hr;have h0:(lone (b.atR a (.code (.scope c)::k)) cs w).fenced P F:=fenced_calm hb hr rfl;obtain⟨e,a₁,w₁,hq,harr⟩:=h b (.inScope c::k) cs hro hb hr
 cases e with
 | normal=>exact⟨.normal,a₁,w₁,hq,.head h0 CS_ (StepsIn.trans harr (.one (fenced_calm hb hr rfl) Ow_))⟩
 | exit id =>
  have hx:exitTo id (.inScope c::k)=exitTo id k:=by simp[exitTo]
  exact⟨_,a₁,w₁,hq,fun k' hk=> .head h0 CS_ (harr.1 k' (by rw[hx];exact hk)),
   fun hr' hk=>let ⟨k₁,h1,h2⟩:=harr.2 hr' (by rw[hx];exact hk);⟨k₁,h1,.head h0 CS_ h2⟩⟩
 | goto l=>exact hq.elim
 | ret=>exact⟨_,a₁,w₁,hq,.of_steps (.one h0 CS_) harr⟩
 | panic ch=>exact⟨_,a₁,w₁,hq,.of_steps (.one h0 CS_) harr⟩
 | outgrown=>exact⟨_,a₁,w₁,hq,.of_steps (.one h0 CS_) harr⟩
end
end Go
namespace Go.Dm
variable [DMode]
def Dscope (Q:Exit→DS→Prop):Exit→DS→Prop
 | .goto _,_=>False
 | e,s=>Q e s
theorem DW_scope {P:Program} {B:Base} {Q:Exit→DS→Prop} {s:DS} {c:Code} (h:DW P B c (Dscope Q) s):DW P B (.scope c) Q s:=by
 intro a w loc R;refine HE_ (wpIn_mono (h a w loc R) ?_);rintro e a' w' ⟨s',loc',hq,R'⟩
 cases e<;>first
  | exact hq.elim
  | exact⟨s',loc',hq,R'⟩
attribute [simp] Dscope
end Go.Dm
end
section
namespace Go.Proofs.YtchgnpnbcjflcaaGreat
open Go Go.Dm
variable [DMode]
attribute [local irreducible] DW Bj_ Bp_
set_option maxRecDepth 100000
def anWB459 : Ann:=⟨[],[]⟩
theorem TY_ (g1 g2 g3 g4:FuncId) (c1 c2 c3 c4:List DVal) (e1 e2 e3 e4:Int) (h1:Ac_ Tryz.prog g1 c1 (.int .i64 e1)) (h2:e1=0→Ac_ Tryz.prog g2 c2 (.int .i64 e2)) (h3:e1=0→e2=0→Ac_ Tryz.prog g3 c3 (.int .i64 e3)) (h4:e1=0→e2=0→e3=0→Ac_ Tryz.prog g4 c4 (.int .i64 e4)) :
  Ac_ Tryz.prog 59 [.sl 1 8 [[.fn (.func g1) [] c1],[.fn (.func g2) [] c2],[.fn (.func g3) [] c3],[.fn (.func g4) [] c4]]] (.int .i64 (if e1=0 then (if e2=0 then (if e3=0 then e4 else e3)else e2)else e1)):=by
 refine Aa_ [] anWB459 Tryz.func59 Tryz.call59 Tryz.ntmps59 mxd (aj2 @anWB459.eq_1 Tryz.results59) rfl (by simp) (by simp[mx]) fun hwf B hnt hgAnn=> ?_
 simp only[argS];clear hwf;obtain⟨R,hR⟩:∃R,R=(if e1=0 then (if e2=0 then (if e3=0 then e4 else e3)else e2)else e1):=⟨_,rfl⟩;rw[←hR]
 (refine go1 aj0 aj0 aj0 ?_;intros;refine mk_i ?_)
 refine Ae_ (X:={k:Nat//k≤4∧(1≤k→e1=0)∧(2≤k→e2=0)∧(3≤k→e3=0)∧(4≤k→e4=0)}) (fun x=>⟨[(6,.sl 1 8 [[.fn (.func g1) [] c1],[.fn (.func g2) [] c2],[.fn (.func g3) [] c3],[.fn (.func g4) [] c4]]),(7,.int .i64 4),(8,.int .i64 x.1)],[]⟩) (fun x=>4-x.1) ⟨0,by simp⟩ (Sub.lit (by simp)) ?_;rintro⟨k,hk,q1,q2,q3,q4⟩
 match k,hk,q1,q2,q3,q4 with
 | 0,_,_,_,_,_ =>
  by_cases h:e1=0
  ·subst h
   (refine go1 (aj1 h1) aj0 aj0 ?_;intros;refine mk_i ?_)
   exact Aj_.mk ⟨1,by omega,by simp,by omega,by omega,by omega⟩ (Sub.lit (by simp)) (by simp)
   skip
  ·have hRk:R=e1:=by rw[hR];simp[h]
   subst hRk;exact go0 (aj1 h1) aj0 (aj1 h)
 | 1,_,q1,_,_,_ =>
  have q1:=q1 (by omega);have k2:=h2 q1;clear h2 h3 h4;subst q1
  by_cases h:e2=0
  ·subst h
   (refine go1 (aj1 k2) aj0 aj0 ?_;intros;refine mk_i ?_)
   exact Aj_.mk ⟨2,by omega,by simp,by simp,by omega,by omega⟩ (Sub.lit (by simp)) (by simp)
   skip
  ·have hRk:R=e2:=by rw[hR];simp[h]
   subst hRk;exact go0 (aj1 k2) aj0 (aj1 h)
 | 2,_,q1,q2,_,_ =>
  have q1:=q1 (by omega);have q2:=q2 (by omega);have k3:=h3 q1 q2;clear h2 h3 h4;subst q1;subst q2
  by_cases h:e3=0
  ·subst h
   (refine go1 (aj1 k3) aj0 aj0 ?_;intros;refine mk_i ?_)
   exact Aj_.mk ⟨3,by omega,by simp,by simp,by simp,by omega⟩ (Sub.lit (by simp)) (by simp)
   skip
  ·have hRk:R=e3:=by rw[hR];simp[h]
   subst hRk;exact go0 (aj1 k3) aj0 (aj1 h)
 | 3,_,q1,q2,q3,_ =>
  have q1:=q1 (by omega);have q2:=q2 (by omega);have q3:=q3 (by omega);have k4:=h4 q1 q2 q3;clear h2 h3 h4;subst q1;subst q2;subst q3
  by_cases h:e4=0
  ·subst h
   (refine go1 (aj1 k4) aj0 aj0 ?_;intros;refine mk_i ?_)
   exact Aj_.mk ⟨4,by omega,by simp,by simp,by simp,by simp⟩ (Sub.lit (by simp)) (by simp)
   skip
  ·have hRk:R=e4:=by rw[hR];simp
   subst hRk;exact go0 (aj1 k4) aj0 (aj1 h)
 | 4,_,q1,q2,q3,q4 =>
  clear h2 h3 h4;have q1:=q1 (by omega);have q2:=q2 (by omega);have q3:=q3 (by omega);have q4:=q4 (by omega);subst q1;subst q2;subst q3;subst q4;have hRk:R=0:=by rw[hR];simp
  subst hRk;exact go0 aj0 aj0 aj0


def Er_ (l:List ByteArray):List DVal:=l.map DVal.str
theorem Cu_ (x:ByteArray) (l:List ByteArray):Er_ (x::l)= .str x::Er_ l:=rfl
theorem strsD_len (l:List ByteArray):(Er_ l).length=l.length:=by simp[Er_]
theorem GI_ : ∀{l:List ByteArray} {s:ByteArray},¬s∈l→AQ_ (Er_ l) (.str s)=none
 | [],_,_=>rfl
 | x::l,s,h=>by
  have h1:(s==x)=false:=by simp;intro e;exact h (by simp[e])
  have h2:=GI_ (l:=l) (s:=s) fun hm=>h (aD0 _ hm)
  simp[Cu_,AQ_,By_,eqCs,eqC,h1,h2]
theorem NJ_ : ∀{l:List ByteArray} {s:ByteArray},s∈l→∃j,AQ_ (Er_ l) (.str s)=some j∧j<l.length
 | [],_,h=>by simp at h
 | x::l,s,h=>by
  by_cases h1:s=x
  ·subst h1;exact⟨0,by simp[Cu_,AQ_,By_,eqCs,eqC],by simp⟩
  ·obtain⟨j,h2,h3⟩:=NJ_ (l:=l) (s:=s) (by simpa[h1]using h);have h1b:(s==x)=false:=by simpa using h1
   exact⟨j+1,by simp[Cu_,AQ_,By_,eqCs,eqC,h1b,h2],by simp;omega⟩
theorem keyStrs (l:List ByteArray):(Er_ l).all (CA_ Tryz.prog 9)=true:=by
 induction l with
 | nil=>rfl
 | cons p l ih=>rw[Cu_,dC0,ih];simp
@[simp] theorem mxL_strs (l:List ByteArray):mxL (Er_ l)=0:=by
 induction l with
 | nil=>rfl
 | cons a l ih=>rw[Cu_];simp[mxL,mx,ih]
def oneUp (n:Nat):List DVal:=(List.range n).map fun i:Nat=>DVal.int .i64 ((i:Int)+1)
@[simp] theorem mxL_oneUp (n:Nat):mxL (oneUp n)=0:=by
 unfold oneUp
 induction List.range n with
 | nil=>rfl
 | cons a l ih=>simp[mxL,mx,ih]
end Go.Proofs.YtchgnpnbcjflcaaGreat
end
