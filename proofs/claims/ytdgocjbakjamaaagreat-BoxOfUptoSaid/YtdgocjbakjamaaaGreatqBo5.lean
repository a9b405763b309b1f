/- Parts of a proof, laid together: EnGo, WB2, WB1, WR1, RN, RX1, WRn, RY1, RH, RX2, RX3, EnBl, Lays, LayTs, EnY, EnSt, WB0, WJ0, WJ1, WJ2. -/
import Derived.Shelf.Strings.BuilderF
import Derived.Shelf.SlSortCmp.NoneTotal
import Derived.Shelf.SlGeneric
import Derived.Ground.SlsfProg
import Derived.Shelf.SortM.Plain
import Derived.Shelf.SortM.SortNone
import Derived.Shelf.Sort.Plain
import Derived.Shelf.Small.Strs
import Derived.Shelf.SlIter.Nil
import Derived.Shelf.SlIter.Sorted
import Derived.Ground.SlgmProg
import Derived.Ground.GgzProg
import Derived.Shelf.Spec.SlicesGrow
import Derived.Ground.Names8Prog
import Derived.Test.YtdgocjbakjamaaaGreatChecked
import Derived.Lib.Builder
import Derived.WalkKit
import Derived.BigCall
import Derived.Test.YtdgocjbakjamaaaGreatqBo4
section
set_option linter.unusedSectionVars false
/- The data machine, second make, part Go: a walk's script as the default of a theorem's last argument; what it leaves over comes back as the theorem's goals. -/


set_option linter.unusedVariables false
namespace Go.Dm
variable [DMode]

structure AnIs (P : Program) (an : Ann) (E : Prop) : Prop where
 m : P.follows .mixedOrders = true
 e : E
theorem an_is {P : Program} (an : Ann) {E : Prop} (m : P.follows .mixedOrders = true) (e : E) : AnIs P an E := ⟨m, e⟩
theorem DW_rA {P : Program} {B : Base} {s : DS} {A : Ann} {E : Prop} {id : Nat} {ops : Array Oper} {draw : Bool} {Q : Exit → DS → Prop} (hA : AnIs P A E) (hok : (!draw || drawOKE A.ow (annAt A.rs id).l1 (annAt A.rs id).l2 ops) = true)
 (h : dOpsX P B.nt A.ow (annAt A.rs id).l1 (annAt A.rs id).l2 ops ops.toList 0 (kQ Q (annAt A.rs id).fz) s) : DW P B (.region id ops draw) Q s := DW_r A hA.m hok h
structure Spc (ρ ν : List (Nat × Nat)) (p : Prop) : Prop where
 o : p
theorem spc (ρ ν : List (Nat × Nat)) {p : Prop} (h : p) : Spc ρ ν p := ⟨h⟩
theorem callS_go {ρ ν : List (Nat × Nat)} {P : Program} {g : FuncId} {args args0 : List DVal} {own own0 own0' : List Ent} {d0 : DVal} {K : ContE} (hS : Spc ρ ν (DSpec P (.func g) args0 own0 d0 own0'))
 (hpre : outE own (phiOf own (inRho ρ)) (inRho ρ) = some own0 ∧ inOK own ρ ∧ (okDs args ∧ wkA (args.map (renD (phiOf own (inRho ρ)))) args0) ∧ (((ρ ++ ν).map (·.1)).Nodup ∧ (ρ.map (·.2)).Nodup) ∧ okOs own0' ∧ okD d0)
 (hk : ∀ r, match backE (backOf own ρ ν r) own0' with
  | some l => ((frameE own ((ρ ++ ν).map (·.1)) ++ l).map (·.id)).Nodup ∧ K.f (renD (backOf own ρ ν r) d0) (frameE own ((ρ ++ ν).map (·.1)) ++ l)
  | none => False) : callS P g args own K := callS_mk ρ ν hS.o hpre hk
structure Hd (p : Prop) : Prop where
 o : p
def Mk (p : Prop) : Prop := p
theorem mk_x {p : Prop} (h : Mk p) : p := h
theorem mk_i {p : Prop} (h : p) : Mk p := h
theorem aj0 : True := trivial
theorem aj1 {a : Prop} (h0 : a) : a ∧ True := ⟨h0, trivial⟩
theorem aj2 {a b : Prop} (h0 : a) (h1 : b) : a ∧ b ∧ True := ⟨h0, h1, trivial⟩
theorem aj3 {a b c : Prop} (h0 : a) (h1 : b) (h2 : c) : a ∧ b ∧ c ∧ True := ⟨h0, h1, h2, trivial⟩
theorem aj4 {a b c d : Prop} (h0 : a) (h1 : b) (h2 : c) (h3 : d) : a ∧ b ∧ c ∧ d ∧ True := ⟨h0, h1, h2, h3, trivial⟩
theorem aj5 {a b c d e : Prop} (h0 : a) (h1 : b) (h2 : c) (h3 : d) (h4 : e) : a ∧ b ∧ c ∧ d ∧ e ∧ True := ⟨h0, h1, h2, h3, h4, trivial⟩
theorem aj6 {a b c d e f : Prop} (h0 : a) (h1 : b) (h2 : c) (h3 : d) (h4 : e) (h5 : f) : a ∧ b ∧ c ∧ d ∧ e ∧ f ∧ True := ⟨h0, h1, h2, h3, h4, h5, trivial⟩
theorem aj7 {a b c d e f g : Prop} (h0 : a) (h1 : b) (h2 : c) (h3 : d) (h4 : e) (h5 : f) (h6 : g) : a ∧ b ∧ c ∧ d ∧ e ∧ f ∧ g ∧ True := ⟨h0, h1, h2, h3, h4, h5, h6, trivial⟩
theorem aj8 {a b c d e f g h : Prop} (h0 : a) (h1 : b) (h2 : c) (h3 : d) (h4 : e) (h5 : f) (h6 : g) (h7 : h) : a ∧ b ∧ c ∧ d ∧ e ∧ f ∧ g ∧ h ∧ True := ⟨h0, h1, h2, h3, h4, h5, h6, h7, trivial⟩
theorem aj9 {a b c d e f g h i : Prop} (h0 : a) (h1 : b) (h2 : c) (h3 : d) (h4 : e) (h5 : f) (h6 : g) (h7 : h) (h8 : i) : a ∧ b ∧ c ∧ d ∧ e ∧ f ∧ g ∧ h ∧ i ∧ True := ⟨h0, h1, h2, h3, h4, h5, h6, h7, h8, trivial⟩
theorem aj10 {a b c d e f g h i j : Prop} (h0 : a) (h1 : b) (h2 : c) (h3 : d) (h4 : e) (h5 : f) (h6 : g) (h7 : h) (h8 : i) (h9 : j) : a ∧ b ∧ c ∧ d ∧ e ∧ f ∧ g ∧ h ∧ i ∧ j ∧ True := ⟨h0, h1, h2, h3, h4, h5, h6, h7, h8, h9, trivial⟩
theorem aj11 {a b c d e f g h i j k : Prop} (h0 : a) (h1 : b) (h2 : c) (h3 : d) (h4 : e) (h5 : f) (h6 : g) (h7 : h) (h8 : i) (h9 : j) (h10 : k) : a ∧ b ∧ c ∧ d ∧ e ∧ f ∧ g ∧ h ∧ i ∧ j ∧ k ∧ True := ⟨h0, h1, h2, h3, h4, h5, h6, h7, h8, h9, h10, trivial⟩
theorem aj12 {a b c d e f g h i j k l : Prop} (h0 : a) (h1 : b) (h2 : c) (h3 : d) (h4 : e) (h5 : f) (h6 : g) (h7 : h) (h8 : i) (h9 : j) (h10 : k) (h11 : l) : a ∧ b ∧ c ∧ d ∧ e ∧ f ∧ g ∧ h ∧ i ∧ j ∧ k ∧ l ∧ True := ⟨h0, h1, h2, h3, h4, h5, h6, h7, h8, h9, h10, h11, trivial⟩
theorem aj13 {a b c d e f g h i j k l m : Prop} (h0 : a) (h1 : b) (h2 : c) (h3 : d) (h4 : e) (h5 : f) (h6 : g) (h7 : h) (h8 : i) (h9 : j) (h10 : k) (h11 : l) (h12 : m) : a ∧ b ∧ c ∧ d ∧ e ∧ f ∧ g ∧ h ∧ i ∧ j ∧ k ∧ l ∧ m ∧ True := ⟨h0, h1, h2, h3, h4, h5, h6, h7, h8, h9, h10, h11, h12, trivial⟩
theorem aj14 {a b c d e f g h i j k l m n : Prop} (h0 : a) (h1 : b) (h2 : c) (h3 : d) (h4 : e) (h5 : f) (h6 : g) (h7 : h) (h8 : i) (h9 : j) (h10 : k) (h11 : l) (h12 : m) (h13 : n) : a ∧ b ∧ c ∧ d ∧ e ∧ f ∧ g ∧ h ∧ i ∧ j ∧ k ∧ l ∧ m ∧ n ∧ True := ⟨h0, h1, h2, h3, h4, h5, h6, h7, h8, h9, h10, h11, h12, h13, trivial⟩
theorem aj15 {a b c d e f g h i j k l m n o : Prop} (h0 : a) (h1 : b) (h2 : c) (h3 : d) (h4 : e) (h5 : f) (h6 : g) (h7 : h) (h8 : i) (h9 : j) (h10 : k) (h11 : l) (h12 : m) (h13 : n) (h14 : o) : a ∧ b ∧ c ∧ d ∧ e ∧ f ∧ g ∧ h ∧ i ∧ j ∧ k ∧ l ∧ m ∧ n ∧ o ∧ True := ⟨h0, h1, h2, h3, h4, h5, h6, h7, h8, h9, h10, h11, h12, h13, h14, trivial⟩
theorem go0 {p c s a : Prop} (C : c) (S : s) (A : a) (h : c → s → a → p := by
 (intro C S A; (repeat (first | refine DW_seq fun Kz hKz => ?_ | (refine DW_rA hA (by kernel_rfl) ?_; simp [hA.e, hnt, A]; try simp (disch := omega) only [wrap64_in]) | refine DW_block ?_ | (refine DW_if ?_ ?_ ?_; (· (simp [hnt, A]; done)); (try (rotate_left; (· (intro hcz; (try simp [hnt, A] at hcz); done))))) | (refine DW_ret ?_; simp [hA.e, hnt, A]) | ((first | refine DW_exit ?_ | refine DW_skip ?_); simp [hnt, A]) | (intro hcz; (try simp [hnt, A] at hcz); (try (exfalso; omega))) | ((first | refine callP_mk C.1 ?_ | (refine callP_wk C.1 ?_ ?_; (· (simp; done))) | refine callP_mk C.2.1 ?_ | (refine callP_wk C.2.1 ?_ ?_; (· (simp; done))) | refine callP_mk C.2.2.1 ?_ | (refine callP_wk C.2.2.1 ?_ ?_; (· (simp; done))) | refine callP_mk C.2.2.2.1 ?_ | (refine callP_wk C.2.2.2.1 ?_ ?_; (· (simp; done))) | refine callP_mk C.2.2.2.2.1 ?_ | (refine callP_wk C.2.2.2.2.1 ?_ ?_; (· (simp; done))) | refine callP_mk C.2.2.2.2.2.1 ?_ | (refine callP_wk C.2.2.2.2.2.1 ?_ ?_; (· (simp; done))) | refine callP_mk C.2.2.2.2.2.2.1 ?_ | (refine callP_wk C.2.2.2.2.2.2.1 ?_ ?_; (· (simp; done))) | refine callP_mk C.2.2.2.2.2.2.2.1 ?_ | (refine callP_wk C.2.2.2.2.2.2.2.1 ?_ ?_; (· (simp; done)))); try simp [hnt, A]) | (refine callS_go S.1 ?_ ?_; (· (simp [hnt, A]; done)); (intro Kz; try simp [hnt, A])) | (refine callS_go S.2.1 ?_ ?_; (· (simp [hnt, A]; done)); (intro Kz; try simp [hnt, A])) | (refine callS_go S.2.2.1 ?_ ?_; (· (simp [hnt, A]; done)); (intro Kz; try simp [hnt, A])) | (refine callS_go S.2.2.2.1 ?_ ?_; (· (simp [hnt, A]; done)); (intro Kz; try simp [hnt, A])) | (refine ⟨?_, ?_⟩; · omega) | omega | apply_assumption -exfalso -symm | (exfalso; omega))))) : p := h C S A
theorem go1 {p c s a q0 : Prop} (C : c) (S : s) (A : a) (h0 : q0) (h : c → s → a → Hd q0 → p := by
 (intro C S A k0; (repeat (first | refine DW_seq fun Kz hKz => ?_ | (refine DW_rA hA (by kernel_rfl) ?_; simp [hA.e, hnt, A]; try simp (disch := omega) only [wrap64_in]) | refine DW_block ?_ | (refine DW_if ?_ ?_ ?_; (· (simp [hnt, A]; done)); (try (rotate_left; (· (intro hcz; (try simp [hnt, A] at hcz); done))))) | (refine DW_ret ?_; simp [hA.e, hnt, A]) | ((first | refine DW_exit ?_ | refine DW_skip ?_); simp [hnt, A]) | (intro hcz; (try simp [hnt, A] at hcz); (try (exfalso; omega))) | ((first | refine callP_mk C.1 ?_ | (refine callP_wk C.1 ?_ ?_; (· (simp; done))) | refine callP_mk C.2.1 ?_ | (refine callP_wk C.2.1 ?_ ?_; (· (simp; done))) | refine callP_mk C.2.2.1 ?_ | (refine callP_wk C.2.2.1 ?_ ?_; (· (simp; done))) | refine callP_mk C.2.2.2.1 ?_ | (refine callP_wk C.2.2.2.1 ?_ ?_; (· (simp; done))) | refine callP_mk C.2.2.2.2.1 ?_ | (refine callP_wk C.2.2.2.2.1 ?_ ?_; (· (simp; done))) | refine callP_mk C.2.2.2.2.2.1 ?_ | (refine callP_wk C.2.2.2.2.2.1 ?_ ?_; (· (simp; done))) | refine callP_mk C.2.2.2.2.2.2.1 ?_ | (refine callP_wk C.2.2.2.2.2.2.1 ?_ ?_; (· (simp; done))) | refine callP_mk C.2.2.2.2.2.2.2.1 ?_ | (refine callP_wk C.2.2.2.2.2.2.2.1 ?_ ?_; (· (simp; done)))); try simp [hnt, A]) | (refine callS_go S.1 ?_ ?_; (· (simp [hnt, A]; done)); (intro Kz; try simp [hnt, A])) | (refine callS_go S.2.1 ?_ ?_; (· (simp [hnt, A]; done)); (intro Kz; try simp [hnt, A])) | (refine callS_go S.2.2.1 ?_ ?_; (· (simp [hnt, A]; done)); (intro Kz; try simp [hnt, A])) | (refine callS_go S.2.2.2.1 ?_ ?_; (· (simp [hnt, A]; done)); (intro Kz; try simp [hnt, A])) | (refine ⟨?_, ?_⟩; · omega) | omega | apply_assumption -exfalso -symm | (exfalso; omega))); refine mk_x ?_; (repeat (first | revert hcz | revert Kz)); exact k0.o)) : p := h C S A ⟨h0⟩
end Go.Dm
end

section
set_option linter.unusedSectionVars false
/- small ones at texts and edges -/


set_option linter.unusedSimpArgs false
set_option linter.unusedVariables false
namespace Go.Proofs.YtdgocjbakjamaaaGreat
open Go Go.Dm
variable [DMode]
attribute [local irreducible] DW callP callS
set_option maxRecDepth 100000

def placeS (l : List ByteArray) (s : ByteArray) : Int := if l.any (fun x => s == x) then ((l.findIdx fun x => s == x : Nat) : Int) else -1
theorem placeS_some {l : List ByteArray} {s : ByteArray} {k : Nat} (hk : k < l.length) (h : l[k] = s) (hno : ∀ i x, i < k → l[i]? = some x → (s == x) = false) : placeS l s = k := by
 unfold placeS
 have hb : (s == l[k]) = true := by rw [h]; exact beq_self_eq_true _
 rw [if_pos (List.any_eq_true.2 ⟨l[k], List.getElem_mem _, hb⟩)]
 congr 1
 rw [List.findIdx_eq hk]
 exact ⟨hb, fun i hi => hno i _ hi (List.getElem?_eq_getElem (by omega))⟩
theorem placeS_none {l : List ByteArray} {s : ByteArray} (hno : ∀ i x, i < l.length → l[i]? = some x → (s == x) = false) : placeS l s = -1 := by
 unfold placeS
 rw [if_neg]
 simp only [Bool.not_eq_true, List.any_eq_false]
 intro x hx
 obtain ⟨i, hi, rfl⟩ := List.getElem_of_mem hx
 rw [hno i _ hi (List.getElem?_eq_getElem hi)]
theorem hno_next {l : List ByteArray} {s x : ByteArray} {k : Nat} (hx : l[k]? = some x) (hb : (s == x) = false) (hno : ∀ i x, i < k → l[i]? = some x → (s == x) = false) : ∀ i x, i < k + 1 → l[i]? = some x → (s == x) = false := by
 intro i y hi hy
 by_cases hik : i = k
 ·subst hik; rw [hx] at hy; simp only [Option.some.injEq] at hy; subst hy; exact hb
 ·exact hno i y (by omega) hy
theorem len_strs {l : List ByteArray} (h : wfD (dStrs l)) : l.length < 9223372036854775807 := by
 simp only [wfD, List.length_map] at h
 omega
def anWB2201 : Ann := ⟨[], []⟩
theorem index139_pure (l : List ByteArray) (s : ByteArray) : DPure Tryz.prog 201 [dStrs l, .str s] (.int .i64 (placeS l s)) := by
 refine DPure_introF [] (fn := Tryz.f201) Tryz.func201 rfl Tryz.call201 (by simp [Tryz.ntmps201]) (by simp [mx]) ?_
 intro hwf B hnt
 simp only [Tryz.ntmps201] at hnt
 have hA := an_is anWB2201 Tryz.mixed (aj2 @anWB2201.eq_1 Tryz.results201)
 have hlen := len_strs hwf.1
 clear hwf
 simp only [argS]
 obtain ⟨R, hR⟩ : ∃ R, R = placeS l s := ⟨_, rfl⟩
 rw [← hR]
 (refine go1 aj0 aj0 aj0 ?_; intros; refine mk_i ?_)
 refine DW_loop (X := {k : Nat // k ≤ l.length ∧ ∀ i x, i < k → l[i]? = some x → (s == x) = false}) (fun x => ⟨[(0, dStrs l), (1, .str s), (7, .int .i64 l.length), (8, .int .i64 x.1)], []⟩) (fun x => l.length - x.1) ⟨0, by simp⟩ (Sub.lit (by simp)) ?_
 rintro ⟨k, hk, hno⟩
 by_cases hlt : k < l.length
 ·obtain ⟨x, hx, hx', hxm⟩ := at_lt' hlt
  cases hb : s == x
  ·(refine go1 aj0 aj0 (aj5 @dStr.eq_1 hlt hx' hx hb) ?_; intros; refine mk_i ?_)
   exact Again.mk ⟨k + 1, by omega, hno_next hx hb hno⟩ (Sub.lit (by simp [])) (by simp; omega)
   skip
  ·have hRk : R = k := by rw [hR]; exact placeS_some hlt (by rw [hx']; exact (by simpa using hb : s = x).symm) hno
   subst hRk
   exact go0 aj0 aj0 (aj5 @dStr.eq_1 hlt hx' hx hb)
 ·have hkk : k = l.length := by omega
  subst hkk
  have hRk : R = -1 := by rw [hR]; exact placeS_none hno
  subst hRk
  exact go0 aj0 aj0 aj0
def anWB2128 : Ann := ⟨[], []⟩
theorem contains104_pure (l : List ByteArray) (s : ByteArray) : DPure Tryz.prog 128 [dStrs l, .str s] (.bool (decide (0 ≤ placeS l s))) := by
 refine DPure_introF [] (fn := Tryz.f128) Tryz.func128 rfl Tryz.call128 (by simp [Tryz.ntmps128]) (by simp [mx]) ?_
 intro hwf B hnt
 simp only [Tryz.ntmps128] at hnt
 have hA := an_is anWB2128 Tryz.mixed (aj2 @anWB2128.eq_1 Tryz.results128)
 simp only [argS]
 exact go0 (aj1 (index139_pure l s)) aj0 aj0
end Go.Proofs.YtdgocjbakjamaaaGreat
end

section
set_option linter.unusedSectionVars false
/- letters, names, labels -/

set_option linter.unusedSimpArgs false
set_option linter.unusedVariables false
namespace Go.Proofs.YtdgocjbakjamaaaGreat
open Go Go.Dm
variable [DMode]
attribute [local irreducible] DW callP callS
set_option maxRecDepth 100000

def letB (n : Int) : Bool := (decide (97 ≤ n) && decide (n ≤ 122)) || (decide (65 ≤ n) && decide (n ≤ 90)) || (decide (48 ≤ n) && decide (n ≤ 57)) || n == 95
def letS (s : ByteArray) : Bool := s.data.toList.all fun b => letB (b.toNat : Int)
def nameOK (s : ByteArray) : Bool := decide (1 ≤ s.size) && decide (s.size ≤ 16) && letS s
theorem size_toList (s : ByteArray) : s.data.toList.length = s.size := rfl

end Go.Proofs.YtdgocjbakjamaaaGreat
end

section
set_option linter.unusedSectionVars false
/- regex.Check at one node; letters and names of regular expressions -/



set_option linter.unusedSimpArgs false
set_option linter.unusedVariables false
namespace Go.Proofs.YtdgocjbakjamaaaGreat
open Go Go.Dm
variable [DMode]
attribute [local irreducible] DW callP callS
set_option maxRecDepth 100000

def upI (n : Int) : Bool := decide (65 ≤ n) && decide (n ≤ 90)
def loI (n : Int) : Bool := decide (97 ≤ n) && decide (n ≤ 122)
def anWR1264 : Ann := ⟨[], []⟩
theorem upper197_pure (n : Int) : DPure Tryz.prog 264 [.int .u8 n] (.bool (upI n)) := by
 refine DPure_introF [] (fn := Tryz.f264) Tryz.func264 rfl Tryz.call264 (by simp [Tryz.ntmps264]) (by simp [mx]) ?_
 intro hwf B hnt
 simp only [Tryz.ntmps264] at hnt
 have hA := an_is anWR1264 Tryz.mixed (aj2 @anWR1264.eq_1 Tryz.results264)
 simp only [argS]
 by_cases h1 : 65 ≤ n
 ·by_cases h2 : n ≤ 90 <;> exact go0 aj0 aj0 (aj3 @upI.eq_1 h1 h2)
 ·exact go0 aj0 aj0 (aj2 @upI.eq_1 h1)
def anWR1265 : Ann := ⟨[], []⟩
theorem lower198_pure (n : Int) : DPure Tryz.prog 265 [.int .u8 n] (.bool (loI n)) := by
 refine DPure_introF [] (fn := Tryz.f265) Tryz.func265 rfl Tryz.call265 (by simp [Tryz.ntmps265]) (by simp [mx]) ?_
 intro hwf B hnt
 simp only [Tryz.ntmps265] at hnt
 have hA := an_is anWR1265 Tryz.mixed (aj2 @anWR1265.eq_1 Tryz.results265)
 simp only [argS]
 by_cases h1 : 97 ≤ n
 ·by_cases h2 : n ≤ 122 <;> exact go0 aj0 aj0 (aj3 @loI.eq_1 h1 h2)
 ·exact go0 aj0 aj0 (aj2 @loI.eq_1 h1)
def anWR1236 : Ann := ⟨[], []⟩
theorem rupper154_pure (n : Int) : DPure Tryz.prog 236 [.int .u8 n] (.bool (upI n)) := by
 refine DPure_introF [] (fn := Tryz.f236) Tryz.func236 rfl Tryz.call236 (by simp [Tryz.ntmps236]) (by simp [mx]) ?_
 intro hwf B hnt
 simp only [Tryz.ntmps236] at hnt
 have hA := an_is anWR1236 Tryz.mixed (aj2 @anWR1236.eq_1 Tryz.results236)
 simp only [argS]
 by_cases h1 : 65 ≤ n
 ·by_cases h2 : n ≤ 90 <;> exact go0 aj0 aj0 (aj3 @upI.eq_1 h1 h2)
 ·exact go0 aj0 aj0 (aj2 @upI.eq_1 h1)
def anWR1237 : Ann := ⟨[], []⟩
theorem rlower155_pure (n : Int) : DPure Tryz.prog 237 [.int .u8 n] (.bool (loI n)) := by
 refine DPure_introF [] (fn := Tryz.f237) Tryz.func237 rfl Tryz.call237 (by simp [Tryz.ntmps237]) (by simp [mx]) ?_
 intro hwf B hnt
 simp only [Tryz.ntmps237] at hnt
 have hA := an_is anWR1237 Tryz.mixed (aj2 @anWR1237.eq_1 Tryz.results237)
 simp only [argS]
 by_cases h1 : 97 ≤ n
 ·by_cases h2 : n ≤ 122 <;> exact go0 aj0 aj0 (aj3 @loI.eq_1 h1 h2)
 ·exact go0 aj0 aj0 (aj2 @loI.eq_1 h1)
theorem letB_eq (n : Int) : letB n = (upI n || loI n || (decide (48 ≤ n) && decide (n ≤ 57)) || n == 95) := by
 unfold letB upI loI
 cases decide (65 ≤ n) <;> cases decide (n ≤ 90) <;> cases decide (97 ≤ n) <;> cases decide (n ≤ 122) <;> rfl
def anWR1235 : Ann := ⟨[], []⟩
theorem inner153_pure (n : Int) : DPure Tryz.prog 235 [.int .u8 n] (.bool (letB n)) := by
 refine DPure_introF [] (fn := Tryz.f235) Tryz.func235 rfl Tryz.call235 (by simp [Tryz.ntmps235]) (by simp [mx]) ?_
 intro hwf B hnt
 simp only [Tryz.ntmps235] at hnt
 have hA := an_is anWR1235 Tryz.mixed (aj2 @anWR1235.eq_1 Tryz.results235)
 simp only [argS]
 rw [letB_eq]
 have e1 := rupper154_pure n
 have e2 := rlower155_pure n
 cases hU : upI n
 ·rw [hU] at e1
  cases hL : loI n
  ·rw [hL] at e2
   by_cases h5 : 48 ≤ n
   ·by_cases h6 : n ≤ 57
    ·exact go0 (aj2 e1 e2) aj0 (aj2 h5 h6)
    ·have h7 : n = 95 ∨ ¬ n = 95 := by omega
     rcases h7 with h7 | h7
     ·subst h7
      exact go0 (aj2 e1 e2) aj0 aj0
     ·exact go0 (aj2 e1 e2) aj0 (aj3 h5 h6 h7)
   ·have h7 : ¬ n = 95 := by omega
    exact go0 (aj2 e1 e2) aj0 (aj2 h5 h7)
  ·rw [hL] at e2
   exact go0 (aj2 e1 e2) aj0 aj0
 ·rw [hU] at e1
  exact go0 (aj1 e1) aj0 aj0

def headQ (q : Int → Bool) (s : ByteArray) : Bool := match s.data.toList with | [] => false | b :: _ => q (b.toNat : Int)
theorem headQ_at {q : Int → Bool} {s : ByteArray} {b : UInt8} (hb : s.data.toList[0]? = some b) : headQ q s = q (b.toNat : Int) := by
 unfold headQ
 cases hd : s.data.toList with
 | nil => rw [hd] at hb; simp at hb
 | cons x l => rw [hd] at hb; simp at hb; subst hb; rfl
def anWR1263 : Ann := ⟨[], []⟩
theorem named196_pure (g : FuncId) (q : Int → Bool) (hq : ∀ n, DPure Tryz.prog g [.int .u8 n] (.bool (q n))) (s : ByteArray) : DPure Tryz.prog 263 [.str s, .fn (.func g) [] []] (.bool (nameOK s && headQ q s)) := by
 refine DPure_introF [] (fn := Tryz.f263) Tryz.func263 rfl Tryz.call263 (by simp [Tryz.ntmps263]) (by simp [mx]) ?_
 intro hwf B hnt
 simp only [Tryz.ntmps263] at hnt
 have hA := an_is anWR1263 Tryz.mixed (aj2 @anWR1263.eq_1 Tryz.results263)
 have hsz : s.size ≤ 9223372036854775807 := by have := hwf.1; simp only [wfD, maxLen] at this; omega
 clear hwf
 simp only [argS]
 obtain ⟨R, hR⟩ : ∃ R, R = (nameOK s && headQ q s) := ⟨_, rfl⟩
 rw [← hR]
 by_cases h1 : 1 ≤ s.size
 ·by_cases h2 : s.size ≤ 16
  ·have g1 : ¬ (s.size : Int) < 1 := by omega
   have g2 : ¬ (16 : Int) < s.size := by omega
   have g0 : 0 < s.size := by omega
   obtain ⟨b0, hb0, hb0', _⟩ := at_lt' (show 0 < s.data.toList.length by rw [size_toList]; omega)
   have e0 := hq (b0.toNat : Int)
   rw [headQ_at hb0] at hR
   cases hQ : q (b0.toNat : Int)
   ·rw [hQ] at e0 hR
    have hR2 : R = false := by rw [hR]; simp
    subst hR2
    exact go0 (aj1 e0) aj0 (aj7 g0 g1 g2 h1 h2 hb0 hb0')
   ·rw [hQ] at e0 hR
    simp only [Bool.and_true] at hR
    (refine go1 (aj1 e0) aj0 (aj7 g0 g1 g2 h1 h2 hb0 hb0') ?_; intros; refine mk_i ?_)
    refine DW_loop (X := {k : Nat // k ≤ s.size ∧ letS s = ((s.data.toList.drop k).all fun b => letB (b.toNat : Int))}) (fun k => ⟨[(0, .str s), (23, .int .i64 s.size), (24, .int .i64 k.1)], []⟩) (fun k => s.size - k.1) ⟨0, by simp [letS]⟩ (Sub.lit (by simp)) ?_
    clear e0 hb0 hb0' hQ
    rintro ⟨k, hk, hl⟩
    by_cases hlt : k < s.size
    ·obtain ⟨b, hb, hb', _⟩ := at_lt' (show k < s.data.toList.length by rw [size_toList]; exact hlt)
     rw [List.drop_eq_getElem_cons (by rw [size_toList]; exact hlt), hb', List.all_cons] at hl
     have e1 := upper197_pure (b.toNat : Int)
     have e2 := lower198_pure (b.toNat : Int)
     obtain ⟨L, hLL⟩ : ∃ L, L = letB (b.toNat : Int) := ⟨_, rfl⟩
     have hLe := letB_eq (b.toNat : Int)
     rw [← hLL] at hl hLe
     cases hU : upI (b.toNat : Int)
     ·rw [hU] at e1
      cases hV : loI (b.toNat : Int)
      ·rw [hV] at e2
       by_cases h5 : (48 : Int) ≤ (b.toNat : Int)
       ·by_cases h6 : (b.toNat : Int) ≤ 57
        ·have h7 : ¬ (b.toNat : Int) = 95 := by omega
         have hL1 : L = true := by rw [hLe]; simp [hU, hV, h5, h6]
         rw [hL1, Bool.true_and] at hl
         (refine go1 (aj2 e1 e2) aj0 (aj7 hlt hb hb' hU hV h5 h6) ?_; intros; refine mk_i ?_)
         refine Again.mk ⟨k + 1, by omega, hl⟩ (Sub.lit (by simp)) (by simp; omega)
         skip
        ·by_cases h7 : (b.toNat : Int) = 95
         ·have hL1 : L = true := by rw [hLe]; simp [hU, hV, h5, h6, h7]
          rw [h7] at e1 e2
          rw [hL1, Bool.true_and] at hl
          (refine go1 (aj2 e1 e2) aj0 (aj8 hlt hb hb' hU hV h5 h6 h7) ?_; intros; refine mk_i ?_)
          refine Again.mk ⟨k + 1, by omega, hl⟩ (Sub.lit (by simp)) (by simp; omega)
          skip
         ·have hL1 : L = false := by rw [hLe]; simp [hU, hV, h5, h6, h7]
          rw [hL1, Bool.false_and] at hl
          have hR2 : R = false := by rw [hR]; unfold nameOK; rw [hl]; simp
          subst hR2
          exact go0 (aj2 e1 e2) aj0 (aj8 hlt hb hb' hU hV h5 h6 h7)
       ·have h7 : ¬ (b.toNat : Int) = 95 := by omega
        have hL1 : L = false := by rw [hLe]; simp [hU, hV, h5, h7]
        rw [hL1, Bool.false_and] at hl
        have hR2 : R = false := by rw [hR]; unfold nameOK; rw [hl]; simp
        subst hR2
        exact go0 (aj2 e1 e2) aj0 (aj7 hlt hb hb' hU hV h5 h7)
      ·rw [hV] at e2
       have hL1 : L = true := by rw [hLe]; simp [hU, hV]
       rw [hL1, Bool.true_and] at hl
       (refine go1 (aj2 e1 e2) aj0 (aj5 hlt hb hb' hU hV) ?_; intros; refine mk_i ?_)
       refine Again.mk ⟨k + 1, by omega, hl⟩ (Sub.lit (by simp)) (by simp; omega)
       skip
     ·rw [hU] at e1
      have hL1 : L = true := by rw [hLe]; simp [hU]
      rw [hL1, Bool.true_and] at hl
      (refine go1 (aj1 e1) aj0 (aj4 hlt hb hb' hU) ?_; intros; refine mk_i ?_)
      refine Again.mk ⟨k + 1, by omega, hl⟩ (Sub.lit (by simp)) (by simp; omega)
      skip
    ·have hkk : k = s.size := by omega
     subst hkk
     rw [← size_toList, List.drop_length] at hl
     have hR2 : R = true := by rw [hR]; unfold nameOK; rw [hl]; simp [h1, h2]
     subst hR2
     exact go0 aj0 aj0 aj0
  ·have g1 : ¬ (s.size : Int) < 1 := by omega
   have g2 : (16 : Int) < s.size := by omega
   have hR2 : R = false := by rw [hR]; unfold nameOK; simp [h2]
   subst hR2
   exact go0 aj0 aj0 (aj4 g1 g2 h1 h2)
 ·have g1 : (s.size : Int) < 1 := by omega
  have hR2 : R = false := by rw [hR]; unfold nameOK; simp [h1]
  subst hR2
  exact go0 aj0 aj0 (aj2 g1 h1)

def txtOK (k : Int) (s : ByteArray) : Bool := if k = 2 then nameOK s && headQ upI s else nameOK s && headQ loI s
abbrev dNode (k : Int) (s : ByteArray) (n : Int) : List DVal := [.int .i64 k, .str s, .int .i64 n]
def anWR1205 : Ann := ⟨[], []⟩
theorem may183_pure (k : Int) (hk : k = 2 ∨ k = 3) (s : ByteArray) : DPure Tryz.prog 205 [.agg (dNode k s 0)] (.bool (txtOK k s)) := by
 refine DPure_introF [] (fn := Tryz.f205) Tryz.func205 rfl Tryz.call205 (by simp [Tryz.ntmps205]) (by simp [mx]) ?_
 intro hwf B hnt
 simp only [Tryz.ntmps205] at hnt
 have hA := an_is anWR1205 Tryz.mixed (aj2 @anWR1205.eq_1 Tryz.results205)
 simp only [argS]
 have e1 := named196_pure 264 upI upper197_pure s
 have e2 := named196_pure 265 loI lower198_pure s
 unfold txtOK
 rcases hk with rfl | rfl
 ·exact go0 (aj2 e1 e2) aj0 (aj1 @dNode.eq_1)
 ·exact go0 (aj2 e1 e2) aj0 (aj1 @dNode.eq_1)
def anWR1133 : Ann := ⟨[], [⟨4, [5], [], []⟩]⟩
theorem whole151_pure (k : Int) (hk : k = 2 ∨ k = 3) (s : ByteArray) : DPure Tryz.prog 133 [.sl 3 32 [dNode k s 0]] (.bool (txtOK k s)) := by
 refine DPure_introF [] (fn := Tryz.f133) Tryz.func133 rfl Tryz.call133 (by simp [Tryz.ntmps133]) (by simp [mx]) ?_
 intro hwf B hnt
 simp only [Tryz.ntmps133] at hnt
 have hA := an_is anWR1133 Tryz.mixed (aj2 @anWR1133.eq_1 Tryz.results133)
 simp only [argS]
 have e1 := may183_pure k hk s
 obtain ⟨R, hR⟩ : ∃ R, R = txtOK k s := ⟨_, rfl⟩
 rw [← hR] at e1 ⊢
 (refine go1 aj0 aj0 (aj1 @dNode.eq_1) ?_; intros; refine mk_i ?_)
 refine DW_loop (X := {k : Nat // k = 0 ∨ k = 1 ∧ R = true}) (fun x => ⟨[(0, .sl 3 32 [dNode k s 0]), (3, .int .i64 (1 - x.1)), (6, .sl 3 32 [dNode k s 0]), (7, .int .i64 1), (8, .int .i64 x.1)], []⟩) (fun x => 1 - x.1) ⟨0, .inl rfl⟩ (Sub.lit (by simp [dNode])) ?_
 rintro ⟨x, rfl | ⟨rfl, rfl⟩⟩
 ·simp only [dNode] at e1
  cases R
  ·exact go0 (aj1 e1) aj0 (aj1 @dNode.eq_1)
  ·(refine go1 (aj1 e1) aj0 (aj1 @dNode.eq_1) ?_; intros; refine mk_i ?_)
   refine Again.mk ⟨1, .inr ⟨rfl, rfl⟩⟩ (Sub.lit (by simp [dNode])) (by simp)
   skip
 ·exact go0 aj0 aj0 (aj1 @dNode.eq_1)
end Go.Proofs.YtdgocjbakjamaaaGreat
end

section
set_option linter.unusedSectionVars false
/- Nodes, trees as lists: plain Lean. -/

set_option linter.unusedSimpArgs false
set_option linter.unusedVariables false
namespace Go.Proofs.YtdgocjbakjamaaaGreat
open Go Go.Dm
variable [DMode]

structure Nd where
 k : Int
 s : ByteArray
 n : Int
 deriving DecidableEq
def dNd (x : Nd) : List DVal := [.int .i64 x.k, .str x.s, .int .i64 x.n]
abbrev dNds (l : List Nd) : DVal := .sl 3 32 (l.map dNd)
structure Rul where
 h : ByteArray
 b : List Nd
 deriving DecidableEq
def dRul (r : Rul) : List DVal := [.str r.h, dNds r.b]
abbrev dRuls (l : List Rul) : DVal := .sl 2 40 (l.map dRul)
@[simp] theorem mx_dNd (s : Nd) : mxL (dNd s) = 0 := by simp [dNd, mxL, mx]
@[simp] theorem mx_dNds (l : List Nd) : mxR (l.map dNd) = 0 := mxR0 _ mx_dNd l
@[simp] theorem mx_dRul (s : Rul) : mxL (dRul s) = 0 := by simp [dRul, mxL, mx]
@[simp] theorem mx_dRuls (l : List Rul) : mxR (l.map dRul) = 0 := mxR0 _ mx_dRul l
theorem len_nds {l : List Nd} (h : wfD (dNds l)) : l.length < 9223372036854775807 := by
 simp only [wfD, List.length_map] at h
 omega
theorem len_ruls {l : List Rul} (h : wfD (dRuls l)) : l.length < 9223372036854775807 := by
 simp only [wfD, List.length_map] at h
 omega
def emp (s : ByteArray) : Bool := decide (s = ⟨#[]⟩)
def mayN (x : Nd) : Bool :=
 if x.k = 1 then emp x.s && decide (x.n = 0)
 else if x.k = 2 then decide (x.n = 0) && (nameOK x.s && headQ upI x.s)
 else if x.k = 3 then decide (x.n = 0) && (nameOK x.s && headQ loI x.s)
 else if x.k = 4 then emp x.s && decide (2 ≤ x.n)
 else if x.k = 5 then emp x.s && decide (2 ≤ x.n)
 else if x.k = 6 then emp x.s && decide (x.n = 1)
 else if x.k = 7 then emp x.s && decide (x.n = 1)
 else if x.k = 8 then emp x.s && decide (x.n = 1)
 else false
theorem mayN_kids {x : Nd} (h : mayN x = true) : 0 ≤ x.n := by
 unfold mayN at h
 repeat' split at h
 all_goals simp only [Bool.and_eq_true, decide_eq_true_eq, Bool.false_eq_true] at h
 all_goals first | omega | (exact absurd h (by simp)) | (obtain ⟨h1, h2⟩ := h; omega)
theorem mayN_kind {x : Nd} (h : mayN x = true) : x.k = 1 ∨ x.k = 2 ∨ x.k = 3 ∨ x.k = 4 ∨ x.k = 5 ∨ x.k = 6 ∨ x.k = 7 ∨ x.k = 8 := by
 unfold mayN at h
 repeat' split at h
 all_goals first | omega | (exact absurd h (by simp))
theorem mayN_size {x : Nd} (h : mayN x = true) : x.s.size ≤ 16 := by
 have hn : ∀ s, nameOK s = true → s.size ≤ 16 := fun s hs => by unfold nameOK at hs; simp only [Bool.and_eq_true, decide_eq_true_eq] at hs; exact hs.1.2
 have he : ∀ s, emp s = true → s.size ≤ 16 := fun s hs => by unfold emp at hs; simp only [decide_eq_true_eq] at hs; subst hs; decide
 unfold mayN at h
 repeat' split at h
 all_goals simp only [Bool.and_eq_true, decide_eq_true_eq, Bool.false_eq_true] at h
 all_goals first | exact he _ h.1 | exact hn _ h.2.1 | (exact absurd h (by simp))

inductive RT where
 | mk (x : Nd) (ks : List RT)
def RT.x : RT → Nd
 | .mk x _ => x
def RT.ks : RT → List RT
 | .mk _ ks => ks
mutual
def flat : RT → List Nd
 | .mk x ks => x :: flatL ks
def flatL : List RT → List Nd
 | [] => []
 | t :: ts => flat t ++ flatL ts
end
mutual
def okT : RT → Bool
 | .mk x ks => mayN x && (decide (x.n = (ks.length : Int)) && okL ks)
def okL : List RT → Bool
 | [] => true
 | t :: ts => okT t && okL ts
end
theorem okT_mk {x : Nd} {ks : List RT} (h : okT (.mk x ks) = true) : mayN x = true ∧ x.n = (ks.length : Int) ∧ okL ks = true := by
 unfold okT at h
 simp only [Bool.and_eq_true, decide_eq_true_eq] at h
 exact h
theorem okL_cons {t : RT} {ts : List RT} (h : okL (t :: ts) = true) : okT t = true ∧ okL ts = true := by
 unfold okL at h
 simp only [Bool.and_eq_true] at h
 exact h
theorem okL_mem {ts : List RT} (h : okL ts = true) : ∀ t ∈ ts, okT t = true := by
 induction ts with
 | nil => simp
 | cons t ts ih =>
  obtain ⟨h1, h2⟩ := okL_cons h
  intro u hu
  rcases List.mem_cons.1 hu with rfl | hu
  ·exact h1
  ·exact ih h2 u hu
theorem okL_app : ∀ (a b : List RT), okL (a ++ b) = (okL a && okL b)
 | [], b => by simp [okL]
 | t :: a, b => by simp [okL, okL_app a b, Bool.and_assoc]
theorem flatL_app : ∀ (a b : List RT), flatL (a ++ b) = flatL a ++ flatL b
 | [], b => by simp [flatL]
 | t :: a, b => by simp [flatL, flatL_app a b]
theorem flat_len (t : RT) : 1 ≤ (flat t).length := by cases t; simp [flat]
theorem flat_mk (x : Nd) (ks : List RT) : flat (.mk x ks) = x :: flatL ks := by rw [flat]
theorem flatL_cons (t : RT) (ts : List RT) : flatL (t :: ts) = flat t ++ flatL ts := by rw [flatL]

def endN : List Nd → Nat → Option (List Nd)
 | l, 0 => some l
 | [], _ + 1 => none
 | x :: l, w + 1 => if mayN x then endN l (w + x.n.toNat) else none
theorem endN_zero (l : List Nd) : endN l 0 = some l := by unfold endN; cases l <;> rfl
theorem endN_nil (w : Nat) : endN [] (w + 1) = none := by unfold endN; rfl
theorem endN_cons (x : Nd) (l : List Nd) (w : Nat) : endN (x :: l) (w + 1) = if mayN x then endN l (w + x.n.toNat) else none := by rw [endN]
mutual
theorem endN_flat : ∀ (t : RT) (r : List Nd) (w : Nat), okT t = true → endN (flat t ++ r) (w + 1) = endN r w
 | .mk x ks, r, w, h => by
  obtain ⟨h1, h2, h3⟩ := okT_mk h
  rw [flat_mk, List.cons_append, endN_cons, if_pos h1, h2, Int.toNat_natCast]
  exact endN_flatL ks r w h3
theorem endN_flatL : ∀ (ts : List RT) (r : List Nd) (w : Nat), okL ts = true → endN (flatL ts ++ r) (w + ts.length) = endN r w
 | [], r, w, h => by simp [flatL]
 | t :: ts, r, w, h => by
  obtain ⟨h1, h2⟩ := okL_cons h
  rw [flatL_cons, List.append_assoc, List.length_cons, ← Nat.add_assoc, endN_flat t _ _ h1, endN_flatL ts r w h2]
end
theorem endN_tree : ∀ (l : List Nd) (w : Nat) (r : List Nd), endN l w = some r → ∃ ts : List RT, ts.length = w ∧ okL ts = true ∧ l = flatL ts ++ r := by
 intro l
 induction l with
 | nil =>
  intro w r h
  cases w with
  | zero => rw [endN_zero] at h; simp only [Option.some.injEq] at h; exact ⟨[], rfl, rfl, by simp [flatL, h]⟩
  | succ w => rw [endN_nil] at h; simp at h
 | cons x l ih =>
  intro w r h
  cases w with
  | zero => rw [endN_zero] at h; simp only [Option.some.injEq] at h; exact ⟨[], rfl, rfl, by simp [flatL, h]⟩
  | succ w =>
   rw [endN_cons] at h
   split at h
   ·rename_i hm
    obtain ⟨ts, h1, h2, rfl⟩ := ih _ _ h
    have hk := mayN_kids hm
    refine ⟨.mk x (ts.take x.n.toNat) :: ts.drop x.n.toNat, by simp; omega, ?_, ?_⟩
    ·have h3 := okL_app (ts.take x.n.toNat) (ts.drop x.n.toNat)
     rw [List.take_append_drop, h2] at h3
     have h4 : okL (ts.take x.n.toNat) = true ∧ okL (ts.drop x.n.toNat) = true := by simpa using h3.symm
     have h5 : x.n = ((ts.take x.n.toNat).length : Int) := by rw [List.length_take]; omega
     unfold okL okT
     rw [hm, decide_eq_true h5, h4.1, h4.2]
     rfl
    ·rw [flatL_cons, flat_mk, List.cons_append, List.cons_append, List.append_assoc, ← List.append_assoc (flatL _), ← flatL_app, List.take_append_drop]
   ·simp at h
theorem endN_big : ∀ (l : List Nd) (w : Nat), l.length < w → endN l w = none
 | _, 0, h => by omega
 | [], w + 1, _ => endN_nil w
 | x :: l, w + 1, h => by
  rw [endN_cons]
  split
  ·exact endN_big l _ (by simp at h; omega)
  ·rfl
def wholeB (l : List Nd) : Bool := match endN l 1 with
 | some [] => true
 | _ => false
theorem whole_tree {l : List Nd} (h : wholeB l = true) : ∃ t, okT t = true ∧ l = flat t := by
 unfold wholeB at h
 split at h
 ·rename_i he
  obtain ⟨ts, h1, h2, h3⟩ := endN_tree _ _ _ he
  match ts, h1, h2, h3 with
  | [t], _, h2, h3 =>
   refine ⟨t, (okL_cons h2).1, ?_⟩
   rw [h3, flatL_cons]
   simp [flatL]
 ·simp at h
theorem tree_whole {t : RT} (h : okT t = true) : wholeB (flat t) = true := by
 unfold wholeB
 have := endN_flat t [] 0 h
 rw [List.append_nil, endN_zero] at this
 rw [this]
theorem okT_all {t : RT} (h : okT t = true) : ∀ x ∈ flat t, mayN x = true := by
 have key : ∀ (l : List Nd) (w : Nat) (r : List Nd), endN l w = some r → ∀ x ∈ l, x ∈ r ∨ mayN x = true := by
  intro l
  induction l with
  | nil => intro w r _ x hx; simp at hx
  | cons y l ih =>
   intro w r he x hx
   cases w with
   | zero => rw [endN_zero] at he; simp only [Option.some.injEq] at he; subst he; exact .inl hx
   | succ w =>
    rw [endN_cons] at he
    split at he
    ·rename_i hm
     rcases List.mem_cons.1 hx with rfl | hx
     ·exact .inr hm
     ·exact ih _ _ he x hx
    ·simp at he
 intro x hx
 have := endN_flat t [] 0 h
 rw [List.append_nil, endN_zero] at this
 rcases key _ _ _ this x hx with h | h
 ·simp at h
 ·exact h
theorem flatL_len : ∀ ts : List RT, ts.length ≤ (flatL ts).length
 | [] => by simp
 | t :: ts => by
  have := flatL_len ts
  have := flat_len t
  rw [flatL_cons]
  simp
  omega
mutual
theorem kids_leT : ∀ (t : RT), okT t = true → ∀ x ∈ flat t, x.n ≤ ((flat t).length : Int)
 | .mk y ks, h, x, hx => by
  obtain ⟨h1, h2, h3⟩ := okT_mk h
  have := flatL_len ks
  rw [flat_mk] at hx ⊢
  rw [List.length_cons]
  rcases List.mem_cons.1 hx with rfl | hx
  ·omega
  ·have := kids_leL ks h3 x hx; omega
theorem kids_leL : ∀ (ts : List RT), okL ts = true → ∀ x ∈ flatL ts, x.n ≤ ((flatL ts).length : Int)
 | [], _, x, hx => by simp [flatL] at hx
 | t :: ts, h, x, hx => by
  obtain ⟨h1, h2⟩ := okL_cons h
  rw [flatL_cons] at hx ⊢
  rw [List.length_append]
  rcases List.mem_append.1 hx with hx | hx
  ·have := kids_leT t h1 x hx; omega
  ·have := kids_leL ts h2 x hx; omega
end
end Go.Proofs.YtdgocjbakjamaaaGreat
end

section
set_option linter.unusedSectionVars false
/- regular expressions as lists: may, whole, Height -/


set_option linter.unusedSimpArgs false
set_option linter.unusedVariables false
namespace Go.Proofs.YtdgocjbakjamaaaGreat
open Go Go.Dm
variable [DMode]
attribute [local irreducible] DW callP callS
set_option maxRecDepth 100000

theorem size_e : (⟨#[]⟩ : ByteArray).size = 0 := rfl
def anRX1205 : Ann := ⟨[], []⟩
set_option maxHeartbeats 4000000 in
theorem mayN_pure (x : Nd) : DPure Tryz.prog 205 [.agg (dNd x)] (.bool (mayN x)) := by
 refine DPure_introF [] (fn := Tryz.f205) Tryz.func205 rfl Tryz.call205 (by simp [Tryz.ntmps205]) (by simp [mx]) ?_
 intro hwf B hnt
 simp only [Tryz.ntmps205] at hnt
 have hA := an_is anRX1205 Tryz.mixed (aj2 @anRX1205.eq_1 Tryz.results205)
 simp only [argS]
 have e1 := named196_pure 264 upI upper197_pure x.s
 have e2 := named196_pure 265 loI lower198_pure x.s
 unfold mayN emp
 by_cases k1 : x.k = 1
 ·exact go0 aj0 aj0 (aj3 @dNd.eq_1 @size_e k1)
 by_cases k2 : x.k = 2
 ·by_cases h0 : x.n = 0
  ·exact go0 (aj1 e1) aj0 (aj5 @dNd.eq_1 @size_e k1 k2 h0)
  ·have h0' : (x.n == 0) = false := by simpa using h0
   exact go0 aj0 aj0 (aj6 @dNd.eq_1 @size_e k1 k2 h0 h0')
 by_cases k3 : x.k = 3
 ·by_cases h0 : x.n = 0
  ·exact go0 (aj1 e2) aj0 (aj6 @dNd.eq_1 @size_e k1 k2 k3 h0)
  ·have h0' : (x.n == 0) = false := by simpa using h0
   exact go0 aj0 aj0 (aj7 @dNd.eq_1 @size_e k1 k2 k3 h0 h0')
 by_cases k4 : x.k = 4
 ·exact go0 aj0 aj0 (aj6 @dNd.eq_1 @size_e k1 k2 k3 k4)
 by_cases k5 : x.k = 5
 ·exact go0 aj0 aj0 (aj7 @dNd.eq_1 @size_e k1 k2 k3 k4 k5)
 by_cases k6 : x.k = 6
 ·exact go0 aj0 aj0 (aj8 @dNd.eq_1 @size_e k1 k2 k3 k4 k5 k6)
 by_cases k7 : x.k = 7
 ·exact go0 aj0 aj0 (aj9 @dNd.eq_1 @size_e k1 k2 k3 k4 k5 k6 k7)
 by_cases k8 : x.k = 8
 ·exact go0 aj0 aj0 (aj10 @dNd.eq_1 @size_e k1 k2 k3 k4 k5 k6 k7 k8)
 exact go0 aj0 aj0 (aj10 @dNd.eq_1 @size_e k1 k2 k3 k4 k5 k6 k7 k8)

def wholeAt (r : List Nd) (w : Nat) : Bool := match endN r w with
 | some [] => true
 | _ => false
theorem wholeAt_zero (x : Nd) (r : List Nd) : wholeAt (x :: r) 0 = false := by unfold wholeAt; rw [endN_zero]
theorem wholeAt_none {r : List Nd} {w : Nat} (h : endN r w = none) : wholeAt r w = false := by unfold wholeAt; rw [h]
theorem wholeAt_next {x : Nd} {r : List Nd} {w : Nat} (h : mayN x = true) : wholeAt (x :: r) (w + 1) = wholeAt r (w + x.n.toNat) := by unfold wholeAt; rw [endN_cons, if_pos h]
theorem wholeAt_end (w : Nat) : wholeAt [] w = decide (w = 0) := by
 unfold wholeAt
 cases w with
 | zero => rw [endN_zero]; rfl
 | succ w => rw [endN_nil]; rfl
def anRX1133 : Ann := ⟨[], [⟨4, [5], [], []⟩]⟩
set_option maxHeartbeats 4000000 in
theorem whole56_pure (l : List Nd) (hs : l.length ≤ 1310720) : DPure Tryz.prog 133 [dNds l] (.bool (wholeB l)) := by
 refine DPure_introF [] (fn := Tryz.f133) Tryz.func133 rfl Tryz.call133 (by simp [Tryz.ntmps133]) (by simp [mx]) ?_
 intro hwf B hnt
 simp only [Tryz.ntmps133] at hnt
 have hA := an_is anRX1133 Tryz.mixed (aj2 @anRX1133.eq_1 Tryz.results133)
 clear hwf
 simp only [argS]
 obtain ⟨R, hR⟩ : ∃ R, R = wholeB l := ⟨_, rfl⟩
 rw [← hR]
 have hR2 : wholeAt l 1 = R := by rw [hR]; rfl
 clear hR
 (refine go1 aj0 aj0 aj0 ?_; intros; refine mk_i ?_)
 refine DW_loop (X := {p : Nat × Nat // p.1 ≤ l.length ∧ wholeAt (l.drop p.1) p.2 = R ∧ p.2 ≤ 1 + p.1 * 1310720 ∧ (p.1 = 0 → p.2 = 1)}) (fun p => ⟨[(0, dNds l), (3, .int .i64 p.1.2), (6, dNds l), (7, .int .i64 l.length), (8, .int .i64 p.1.1)], []⟩) (fun p => l.length - p.1.1) ⟨(0, 1), by simp [hR2]⟩ (Sub.lit (by simp)) ?_
 clear hR2
 rintro ⟨⟨k, w⟩, hk, hw, hwb, hw0⟩
 simp only at hk hw hwb hw0 ⊢
 by_cases hlt : k < l.length
 ·obtain ⟨x, hx, hx', _⟩ := at_lt' hlt
  rw [List.drop_eq_getElem_cons hlt, hx'] at hw
  have e1 := mayN_pure x
  simp only [dNd] at e1
  cases w with
  | zero =>
   rw [wholeAt_zero] at hw
   subst hw
   exact go0 aj0 aj0 (aj4 @dNd.eq_1 hlt hx hx')
  | succ v =>
   have hv : ¬ (v : Int) + 1 = 0 := by omega
   have hv' : (((v : Int) + 1) == 0) = false := by simpa using hv
   cases hm : mayN x
   ·rw [hm] at e1
    rw [wholeAt_none (by rw [endN_cons, hm]; rfl)] at hw
    subst hw
    exact go0 (aj1 e1) aj0 (aj6 @dNd.eq_1 hlt hx hx' hv hv')
   ·rw [hm] at e1
    have hk0 := mayN_kids hm
    obtain ⟨c, hcn⟩ : ∃ c : Nat, x.n = (c : Int) := ⟨x.n.toNat, by omega⟩
    rw [hcn] at e1
    rw [wholeAt_next hm, hcn, Int.toNat_natCast] at hw
    by_cases hbig : l.length < c
    ·have hbig' : (l.length : Int) < (c : Int) := by omega
     rw [wholeAt_none (endN_big _ _ (by rw [List.length_drop]; omega))] at hw
     subst hw
     exact go0 (aj1 e1) aj0 (aj9 @dNd.eq_1 hlt hx hx' hv hv' hcn hbig hbig')
    ·have hbig' : ¬ (l.length : Int) < (c : Int) := by omega
     have q1 : IntKind.i64.wrap ((c : Int) - 1) = (c : Int) - 1 := wrap64_in (by omega) (by omega)
     have q2 : IntKind.i64.wrap ((v : Int) + 1 + ((c : Int) - 1)) = (v : Int) + (c : Int) := by rw [wrap64_in (by omega) (by omega)]; omega
     (refine go1 (aj1 e1) aj0 (aj11 @dNd.eq_1 hlt hx hx' hv hv' hcn hbig hbig' q1 q2) ?_; intros; refine mk_i ?_)
     refine Again.mk ⟨(k + 1, v + c), show k + 1 ≤ l.length ∧ wholeAt (l.drop (k + 1)) (v + c) = R ∧ v + c ≤ 1 + (k + 1) * 1310720 ∧ (k + 1 = 0 → v + c = 1) from ⟨by omega, hw, by omega, by omega⟩⟩ (Sub.lit (by simp)) (by simp; omega)
     skip
 ·have hkk : k = l.length := by omega
  subst hkk
  rw [List.drop_length, wholeAt_end] at hw
  cases w with
  | zero =>
   have hpos : 0 < l.length := by
    rcases Nat.eq_zero_or_pos l.length with h | h
    ·have := hw0 h; omega
    ·exact h
   simp only [decide_true] at hw
   subst hw
   exact go0 aj0 aj0 (aj1 hpos)
  | succ v =>
   have hw2 : R = false := by rw [← hw]; simp
   subst hw2
   have hv : ¬ (v : Int) + 1 = 0 := by omega
   have hv' : (((v : Int) + 1) == 0) = false := by simpa using hv
   exact go0 aj0 aj0 (aj2 hv hv')
end Go.Proofs.YtdgocjbakjamaaaGreat
end

section
set_option linter.unusedSectionVars false
/- the document's Name -/


set_option linter.unusedSimpArgs false
set_option linter.unusedVariables false
namespace Go.Proofs.YtdgocjbakjamaaaGreat
open Go Go.Dm
variable [DMode]
attribute [local irreducible] DW callP callS
set_option maxRecDepth 100000

def anWRn159 : Ann := ⟨[], []⟩
theorem rname113_pure (k c : Int) (hk : k = 2 ∧ c = 85 ∨ k = 3 ∧ c = 76) (s : ByteArray) : DPure Tryz.prog 159 [.str s, .int .u8 c] (.bool (txtOK k s)) := by
 refine DPure_introF [] (fn := Tryz.f159) Tryz.func159 rfl Tryz.call159 (by simp [Tryz.ntmps159]) (by simp [mx]) ?_
 intro hwf B hnt
 simp only [Tryz.ntmps159] at hnt
 have hA := an_is anWRn159 Tryz.mixed (aj2 @anWRn159.eq_1 Tryz.results159)
 have hsz : s.size ≤ 9223372036854775807 := by have := hwf.1; simp only [wfD, maxLen] at this; omega
 clear hwf
 simp only [argS]
 obtain ⟨R, hR⟩ : ∃ R, R = txtOK k s := ⟨_, rfl⟩
 rw [← hR]
 unfold txtOK at hR
 by_cases h1 : 1 ≤ s.size
 ·by_cases h2 : s.size ≤ 16
  ·have g1 : ¬ (s.size : Int) < 1 := by omega
   have g2 : ¬ (16 : Int) < s.size := by omega
   have g0 : 0 < s.size := by omega
   obtain ⟨b0, hb0, hb0', _⟩ := at_lt' (show 0 < s.data.toList.length by rw [size_toList]; omega)
   (refine go1 aj0 aj0 (aj5 g0 g1 g2 h1 h2) ?_; intros; refine mk_i ?_)
   refine DW_loop (X := {k : Nat // k ≤ s.size ∧ letS s = ((s.data.toList.drop k).all fun b => letB (b.toNat : Int))}) (fun k => ⟨[(0, .str s), (1, .int .u8 c), (5, .int .i64 k.1)], []⟩) (fun k => s.size - k.1) ⟨0, by simp [letS]⟩ (Sub.lit (by simp)) ?_
   rintro ⟨j, hj, hl⟩
   by_cases hlt : j < s.size
   ·obtain ⟨b, hb, hb', _⟩ := at_lt' (show j < s.data.toList.length by rw [size_toList]; exact hlt)
    rw [List.drop_eq_getElem_cons (by rw [size_toList]; exact hlt), hb', List.all_cons] at hl
    have e1 := inner153_pure (b.toNat : Int)
    cases hL : letB (b.toNat : Int)
    ·rw [hL] at e1 hl
     have hR2 : R = false := by rw [hR]; unfold nameOK; rw [hl]; simp
     subst hR2
     exact go0 (aj1 e1) aj0 (aj3 hlt hb hb')
    ·rw [hL] at e1 hl
     simp only [Bool.true_and] at hl
     (refine go1 (aj1 e1) aj0 (aj3 hlt hb hb') ?_; intros; refine mk_i ?_)
     refine Again.mk ⟨j + 1, by omega, hl⟩ (Sub.lit (by simp)) (by simp; omega)
     skip
   ·have hkk : j = s.size := by omega
    subst hkk
    rw [← size_toList, List.drop_length] at hl
    have hN : nameOK s = true := by unfold nameOK; rw [hl]; simp [h1, h2]
    rw [hN] at hR
    simp only [headQ_at hb0, Bool.true_and] at hR
    have e1 := rupper154_pure (b0.toNat : Int)
    have e2 := rlower155_pure (b0.toNat : Int)
    rcases hk with ⟨rfl, rfl⟩ | ⟨rfl, rfl⟩
    ·simp only [if_true] at hR
     rw [← hR] at e1
     cases R
     ·exact go0 (aj2 e1 e2) aj0 (aj3 g0 hb0 hb0')
     ·exact go0 (aj2 e1 e2) aj0 (aj3 g0 hb0 hb0')
    ·simp only [show ¬ (3 : Int) = 2 by omega, if_false] at hR
     rw [← hR] at e2
     cases R
     ·exact go0 (aj2 e1 e2) aj0 (aj3 g0 hb0 hb0')
     ·exact go0 (aj2 e1 e2) aj0 (aj3 g0 hb0 hb0')
  ·have g1 : ¬ (s.size : Int) < 1 := by omega
   have g2 : (16 : Int) < s.size := by omega
   have hR2 : R = false := by rw [hR]; unfold nameOK; simp [h2]
   subst hR2
   exact go0 aj0 aj0 (aj4 g1 g2 h1 h2)
 ·have g1 : (s.size : Int) < 1 := by omega
  have hR2 : R = false := by rw [hR]; unfold nameOK; simp [h1]
  subst hR2
  exact go0 aj0 aj0 (aj2 g1 h1)

end Go.Proofs.YtdgocjbakjamaaaGreat
end

section
set_option linter.unusedSectionVars false
/- regular expressions by definition: May, End, IsTree, Kids -/



set_option linter.unusedSimpArgs false
set_option linter.unusedVariables false
namespace Go.Proofs.YtdgocjbakjamaaaGreat
open Go Go.Dm
variable [DMode]
attribute [local irreducible] DW callP callS
set_option maxRecDepth 100000

def anRY1277 : Ann := ⟨[], []⟩
set_option maxHeartbeats 4000000 in
theorem mayR_pure (x : Nd) : DPure Tryz.prog 277 [.agg (dNd x)] (.bool (mayN x)) := by
 refine DPure_introF [] (fn := Tryz.f277) Tryz.func277 rfl Tryz.call277 (by simp [Tryz.ntmps277]) (by simp [mx]) ?_
 intro hwf B hnt
 simp only [Tryz.ntmps277] at hnt
 have hA := an_is anRY1277 Tryz.mixed (aj2 @anRY1277.eq_1 Tryz.results277)
 simp only [argS]
 have e1 := rname113_pure 2 85 (.inl ⟨rfl, rfl⟩) x.s
 have e2 := rname113_pure 3 76 (.inr ⟨rfl, rfl⟩) x.s
 rw [show txtOK 2 x.s = (nameOK x.s && headQ upI x.s) from rfl] at e1
 rw [show txtOK 3 x.s = (nameOK x.s && headQ loI x.s) from rfl] at e2
 unfold mayN emp
 by_cases k1 : x.k = 1
 ·exact go0 aj0 aj0 (aj3 @dNd.eq_1 @size_e k1)
 by_cases k2 : x.k = 2
 ·obtain ⟨b, hb⟩ : ∃ b, b = (nameOK x.s && headQ upI x.s) := ⟨_, rfl⟩
  rw [← hb] at e1 ⊢
  clear hb
  cases b <;> exact go0 (aj1 e1) aj0 (aj4 @dNd.eq_1 @size_e k1 k2)
 by_cases k3 : x.k = 3
 ·obtain ⟨b, hb⟩ : ∃ b, b = (nameOK x.s && headQ loI x.s) := ⟨_, rfl⟩
  rw [← hb] at e2 ⊢
  clear hb
  cases b <;> exact go0 (aj1 e2) aj0 (aj5 @dNd.eq_1 @size_e k1 k2 k3)
 by_cases k4 : x.k = 4
 ·exact go0 aj0 aj0 (aj6 @dNd.eq_1 @size_e k1 k2 k3 k4)
 by_cases k5 : x.k = 5
 ·exact go0 aj0 aj0 (aj7 @dNd.eq_1 @size_e k1 k2 k3 k4 k5)
 by_cases k6 : x.k = 6
 ·exact go0 aj0 aj0 (aj8 @dNd.eq_1 @size_e k1 k2 k3 k4 k5 k6)
 by_cases k7 : x.k = 7
 ·exact go0 aj0 aj0 (aj9 @dNd.eq_1 @size_e k1 k2 k3 k4 k5 k6 k7)
 by_cases k8 : x.k = 8
 ·exact go0 aj0 aj0 (aj10 @dNd.eq_1 @size_e k1 k2 k3 k4 k5 k6 k7 k8)
 exact go0 aj0 aj0 (aj10 @dNd.eq_1 @size_e k1 k2 k3 k4 k5 k6 k7 k8)

def endI (l : List Nd) (p : Nat) : Int := match endN (l.drop p) 1 with
 | some r => (l.length : Int) - r.length
 | none => -1
def anRY1234 : Ann := ⟨[], []⟩
set_option maxHeartbeats 4000000 in
theorem end144_pure (l : List Nd) (p : Nat) (hs : l.length ≤ 1310720) (hp : p ≤ l.length) : DPure Tryz.prog 234 [dNds l, .int .i64 p] (.int .i64 (endI l p)) := by
 refine DPure_introF [] (fn := Tryz.f234) Tryz.func234 rfl Tryz.call234 (by simp [Tryz.ntmps234]) (by simp [mx]) ?_
 intro hwf B hnt
 simp only [Tryz.ntmps234] at hnt
 have hA := an_is anRY1234 Tryz.mixed (aj2 @anRY1234.eq_1 Tryz.results234)
 clear hwf
 simp only [argS]
 obtain ⟨R, hR⟩ : ∃ R, R = endI l p := ⟨_, rfl⟩
 rw [← hR]
 unfold endI at hR
 obtain ⟨E, hE⟩ : ∃ E, E = endN (l.drop p) 1 := ⟨_, rfl⟩
 rw [← hE] at hR
 (refine go1 aj0 aj0 aj0 ?_; intros; refine mk_i ?_)
 refine DW_loop (X := {q : Nat × Nat // q.1 ≤ l.length ∧ endN (l.drop q.1) q.2 = E ∧ q.2 ≤ 1 + q.1 * 1310720}) (fun q => ⟨[(0, dNds l), (1, .int .i64 q.1.1), (5, .int .i64 q.1.2)], []⟩) (fun q => l.length + 1 - q.1.1) ⟨(p, 1), hp, hE.symm, by simp only; omega⟩ (Sub.lit (by simp)) ?_
 clear hE
 rintro ⟨⟨k, w⟩, hk, hw, hwb⟩
 simp only at hk hw hwb ⊢
 cases w with
 | zero =>
  rw [endN_zero] at hw
  rw [← hw] at hR
  simp only [List.length_drop] at hR
  have hRk : R = k := by omega
  subst hRk
  exact go0 aj0 aj0 aj0
 | succ v =>
  have hv : (0 : Int) < (v : Int) + 1 := by omega
  by_cases hlt : k < l.length
  ·obtain ⟨x, hx, hx', _⟩ := at_lt' hlt
   rw [List.drop_eq_getElem_cons hlt, hx'] at hw
   have e1 := mayR_pure x
   simp only [dNd] at e1
   have hge : ¬ l.length ≤ k := by omega
   cases hm : mayN x
   ·rw [hm] at e1
    rw [endN_cons, hm] at hw
    simp only [Bool.false_eq_true, if_false] at hw
    rw [← hw] at hR
    simp only at hR
    subst hR
    exact go0 (aj1 e1) aj0 (aj6 @dNd.eq_1 hlt hge hx hx' hv)
   ·rw [hm] at e1
    have hk0 := mayN_kids hm
    obtain ⟨c, hcn⟩ : ∃ c : Nat, x.n = (c : Int) := ⟨x.n.toNat, by omega⟩
    rw [hcn] at e1
    rw [endN_cons, if_pos hm, hcn, Int.toNat_natCast] at hw
    by_cases hbig : l.length < c
    ·have hbig' : (l.length : Int) < (c : Int) := by omega
     rw [endN_big _ _ (by rw [List.length_drop]; omega)] at hw
     rw [← hw] at hR
     simp only at hR
     subst hR
     exact go0 (aj1 e1) aj0 (aj9 @dNd.eq_1 hlt hge hx hx' hv hcn hbig hbig')
    ·have hbig' : ¬ (l.length : Int) < (c : Int) := by omega
     have q1 : IntKind.i64.wrap ((v : Int)) = (v : Int) := wrap64_in (by omega) (by omega)
     have q2 : IntKind.i64.wrap ((v : Int) + (c : Int)) = (v : Int) + (c : Int) := wrap64_in (by omega) (by omega)
     (refine go1 (aj1 e1) aj0 (aj11 @dNd.eq_1 hlt hge hx hx' hv hcn hbig hbig' q1 q2) ?_; intros; refine mk_i ?_)
     refine Again.mk ⟨(k + 1, v + c), show k + 1 ≤ l.length ∧ endN (l.drop (k + 1)) (v + c) = E ∧ v + c ≤ 1 + (k + 1) * 1310720 from ⟨by omega, hw, by omega⟩⟩ (Sub.lit (by simp)) (by simp; omega)
     skip
  ·have hge : l.length ≤ k := by omega
   rw [List.drop_of_length_le hge, endN_nil] at hw
   rw [← hw] at hR
   simp only at hR
   subst hR
   exact go0 aj0 aj0 (aj2 hv hge)
def anRY1160 : Ann := ⟨[], []⟩
theorem isTree135_pure (l : List Nd) (hs : l.length ≤ 1310720) : DPure Tryz.prog 160 [dNds l] (.bool (wholeB l)) := by
 refine DPure_introF [] (fn := Tryz.f160) Tryz.func160 rfl Tryz.call160 (by simp [Tryz.ntmps160]) (by simp [mx]) ?_
 intro hwf B hnt
 simp only [Tryz.ntmps160] at hnt
 have hA := an_is anRY1160 Tryz.mixed (aj2 @anRY1160.eq_1 Tryz.results160)
 clear hwf
 simp only [argS]
 have e1 := end144_pure l 0 hs (by omega)
 unfold endI at e1
 unfold wholeB
 rw [List.drop_zero] at e1
 by_cases h0 : 0 < l.length
 ·cases hE : endN l 1 with
  | none =>
   rw [hE] at e1
   have hne : ((-1 : Int) == (l.length : Int)) = false := by simp
   exact go0 (aj1 e1) aj0 (aj2 h0 hne)
  | some r =>
   rw [hE] at e1
   cases r with
   | nil =>
    simp only [List.length_nil, Int.natCast_zero, Int.sub_zero] at e1
    exact go0 (aj1 e1) aj0 (aj1 h0)
   | cons y r =>
    have hne : (((l.length : Int) - ((y :: r).length : Int)) == (l.length : Int)) = false := by simp; omega
    obtain ⟨e, he⟩ : ∃ e : Int, e = (l.length : Int) - ((y :: r).length : Int) := ⟨_, rfl⟩
    rw [← he] at hne
    have e3 : DPure Tryz.prog 234 [dNds l, .int .i64 0] (.int .i64 e) := by rw [he]; exact e1
    exact go0 (aj1 e3) aj0 (aj2 h0 hne)
 ·have hl : l = [] := List.eq_nil_of_length_eq_zero (by omega)
  subst hl
  rw [endN_nil]
  exact go0 aj0 aj0 aj0
end Go.Proofs.YtdgocjbakjamaaaGreat
end

section
set_option linter.unusedSectionVars false
/- Heights of trees, by a stack: plain Lean. -/

set_option linter.unusedSimpArgs false
set_option linter.unusedVariables false
namespace Go.Proofs.YtdgocjbakjamaaaGreat
open Go Go.Dm
variable [DMode]

mutual
def htT : RT → Nat
 | .mk _ ks => htL ks + 1
def htL : List RT → Nat
 | [] => 0
 | t :: ts => max (htT t) (htL ts)
end
theorem htT_mk (x : Nd) (ks : List RT) : htT (.mk x ks) = htL ks + 1 := by rw [htT]
theorem htL_cons (t : RT) (ts : List RT) : htL (t :: ts) = max (htT t) (htL ts) := by rw [htL]
theorem htL_nil : htL [] = 0 := by rw [htL]
def fin : List Nat → List Nat
 | [] => []
 | c :: s => if c = 1 then fin s else (c - 1) :: s
def hstep (p : List Nat × Nat) (x : Nd) : List Nat × Nat := (if x.n.toNat = 0 then fin p.1 else x.n.toNat :: p.1, max p.2 (p.1.length + 1))
mutual
theorem hfold_flat : ∀ (t : RT) (s : List Nat) (m : Nat), okT t = true → (flat t).foldl hstep (s, m) = (fin s, max m (s.length + htT t))
 | .mk x ks, s, m, h => by
  obtain ⟨h1, h2, h3⟩ := okT_mk h
  rw [flat_mk, List.foldl_cons, htT_mk]
  unfold hstep
  rw [h2, Int.toNat_natCast]
  cases ks with
  | nil => simp [flatL, htL_nil]
  | cons t ts =>
   have := hfold_flatL (t :: ts) s (max m (s.length + 1)) h3 (by simp)
   simp only [List.length_cons] at this ⊢
   rw [if_neg (by omega)]
   unfold hstep at this
   rw [this]
   congr 1
   omega
theorem hfold_flatL : ∀ (ts : List RT) (s : List Nat) (m : Nat), okL ts = true → ts ≠ [] → (flatL ts).foldl hstep (ts.length :: s, m) = (fin s, max m (s.length + 1 + htL ts))
 | [], s, m, h, hne => absurd rfl hne
 | [t], s, m, h, hne => by
  obtain ⟨h1, h2⟩ := okL_cons h
  have := hfold_flat t (1 :: s) m h1
  rw [flatL_cons, List.foldl_append]
  simp only [List.length_cons, List.length_nil, Nat.zero_add] at this ⊢
  rw [this, htL_cons, htL_nil]
  simp [flatL, fin]
 | t :: u :: r, s, m, h, hne => by
  obtain ⟨h1, h2⟩ := okL_cons h
  have h3 := hfold_flat t (((u :: r).length + 1) :: s) m h1
  have h4 := hfold_flatL (u :: r) s (max m (s.length + 1 + htT t)) h2 (by simp)
  rw [flatL_cons, List.foldl_append, List.length_cons, h3]
  have e : fin (((u :: r).length + 1) :: s) = (u :: r).length :: s := by
   simp only [fin]
   rw [if_neg (by simp)]
   simp
  rw [e]
  have e2 : max m ((((u :: r).length + 1) :: s).length + htT t) = max m (s.length + 1 + htT t) := by rw [List.length_cons]
  rw [e2, h4, htL_cons t]
  congr 1
  omega
end
theorem height_flat {t : RT} (h : okT t = true) : (flat t).foldl hstep ([], 0) = ([], htT t) := by
 rw [hfold_flat t [] 0 h]
 simp [fin]
def popR : List Nat → List Nat
 | [] => []
 | c :: s => if c = 0 then fin s else c :: s
def pos (s : List Nat) : Prop := ∀ c ∈ s, 1 ≤ c ∧ c ≤ 1310720
theorem popR_step {c : Nat} {s : List Nat} (h : 1 ≤ c) : popR ((c - 1) :: s) = fin (c :: s) := by
 rw [show popR ((c - 1) :: s) = if c - 1 = 0 then fin s else (c - 1) :: s from rfl, show fin (c :: s) = if c = 1 then fin s else (c - 1) :: s from rfl]
 by_cases h1 : c = 1
 ·rw [if_pos (by omega), if_pos h1]
 ·rw [if_neg (by omega), if_neg h1]
theorem fin_len : ∀ s : List Nat, (fin s).length ≤ s.length
 | [] => by simp [fin]
 | c :: s => by
  unfold fin
  split
  ·have := fin_len s; simp; omega
  ·simp
theorem fin_pos : ∀ {s : List Nat}, pos s → pos (fin s)
 | [], _ => by intro c hc; simp [fin] at hc
 | c :: s, h => by
  unfold fin
  split
  ·exact fin_pos fun d hd => h d (List.mem_cons_of_mem _ hd)
  ·intro d hd
   have hc := h c List.mem_cons_self
   rcases List.mem_cons.1 hd with rfl | hd
   ·omega
   ·exact h d (List.mem_cons_of_mem _ hd)
theorem hstep_len (p : List Nat × Nat) (x : Nd) : (hstep p x).1.length ≤ p.1.length + 1 := by
 unfold hstep
 simp only
 split
 ·have := fin_len p.1; omega
 ·simp
theorem hstep_pos {p : List Nat × Nat} (x : Nd) (hx : x.n.toNat ≤ 1310720) (h : pos p.1) : pos (hstep p x).1 := by
 unfold hstep
 simp only
 split
 ·exact fin_pos h
 ·intro d hd
  rcases List.mem_cons.1 hd with rfl | hd
  ·omega
  ·exact h d hd
theorem popR_push (c : Nat) (s : List Nat) : popR (c :: s) = if c = 0 then fin s else c :: s := rfl

def dstk (s : List Nat) : List (List DVal) := (s.map fun c : Nat => [DVal.int .i64 (c : Int)]).reverse
theorem dstk_len (s : List Nat) : (dstk s).length = s.length := by simp [dstk]
theorem dstk_cons (c : Nat) (s : List Nat) : dstk (c :: s) = dstk s ++ [[.int .i64 (c : Int)]] := by simp [dstk]
theorem dstk_nil : dstk [] = [] := rfl
@[simp] theorem mx_dstk (s : List Nat) : mxR (dstk s) = 0 := by
 unfold dstk
 exact Nat.le_zero.1 (mxR_le' fun d hd => by
  obtain ⟨c, _, rfl⟩ := List.mem_map.1 (List.mem_reverse.1 hd)
  simp [mxL, mx])
theorem dstk_top (c : Nat) (s : List Nat) : (dstk (c :: s))[s.length]? = some [.int .i64 (c : Int)] := by
 rw [dstk_cons, List.getElem?_append_right (by rw [dstk_len]; omega), dstk_len, Nat.sub_self]; rfl
theorem dstk_take (c : Nat) (s : List Nat) : (dstk (c :: s)).take s.length = dstk s := by
 rw [dstk_cons, List.take_append_of_le_length (by rw [dstk_len]; omega), List.take_of_length_le (by rw [dstk_len]; omega)]
theorem dstk_set (c d : Nat) (s : List Nat) : (dstk (c :: s)).set s.length [.int .i64 (d : Int)] = dstk (d :: s) := by
 rw [dstk_cons, dstk_cons, List.set_append_right _ _ (by rw [dstk_len]; omega), dstk_len, Nat.sub_self]; rfl
end Go.Proofs.YtdgocjbakjamaaaGreat
end

section
set_option linter.unusedSectionVars false
/- regular expressions as lists: height -/



set_option linter.unusedSimpArgs false
set_option linter.unusedVariables false
namespace Go.Proofs.YtdgocjbakjamaaaGreat
open Go Go.Dm
variable [DMode]
attribute [local irreducible] DW callP callS
set_option maxRecDepth 100000

def anRX2206 : Ann := ⟨[], [⟨5, [6], [], []⟩]⟩
set_option maxHeartbeats 4000000 in
theorem height109_pure (t : RT) (ht : okT t = true) (hs : (flat t).length ≤ 1310720) : DPure Tryz.prog 206 [dNds (flat t)] (.int .i64 (htT t)) := by
 refine DPure_introF [] (fn := Tryz.f206) Tryz.func206 rfl Tryz.call206 (by simp [Tryz.ntmps206]) (by simp [mx]) ?_
 intro hwf B hnt
 simp only [Tryz.ntmps206] at hnt
 have hA := an_is anRX2206 Tryz.mixed (aj2 @anRX2206.eq_1 Tryz.results206)
 clear hwf
 simp only [argS]
 have hR := height_flat ht
 have hmay := okT_all ht
 have hkle : ∀ x ∈ flat t, x.n ≤ 1310720 := fun x hx => by have := kids_leT t ht x hx; omega
 obtain ⟨l, hl⟩ : ∃ l, l = flat t := ⟨_, rfl⟩
 rw [← hl] at hR hmay hkle hs ⊢
 clear hl
 obtain ⟨R, hRR⟩ : ∃ R, R = htT t := ⟨_, rfl⟩
 rw [← hRR] at hR ⊢
 clear hRR ht
 (refine go1 aj0 aj0 aj0 ?_; intros; refine mk_i ?_)
 refine DW_adoptS 4 50 3 1 8 (by simp [hnt, Tryz.results206, anRX2206]) (fun n => ?_)
 refine DW_loop (X := {p : Nat × List Nat × Nat // p.1 ≤ l.length ∧ (l.drop p.1).foldl hstep (p.2.1, p.2.2) = ([], R) ∧ p.2.1.length ≤ p.1 ∧ p.2.2 ≤ p.1 ∧ pos p.2.1}) (fun p => ⟨[(3, .int .i64 p.1.2.2), (4, .osl 50 1), (7, dNds l), (8, .int .i64 l.length), (9, .int .i64 p.1.1)], [⟨50, 1, .row 3 1 8 (dstk p.1.2.1)⟩]⟩) (fun p => l.length - p.1.1) ⟨(0, [], 0), by simp [hR, pos]⟩ (Sub.lit (by simp [dstk_nil])) ?_
 rintro ⟨⟨k, s, m⟩, hk, hw, hsl, hmb, hpos⟩
 simp only at hk hw hsl hmb hpos ⊢
 clear hR
 by_cases hlt : k < l.length
 ·obtain ⟨x, hx, hx', hxm⟩ := at_lt' hlt
  rw [List.drop_eq_getElem_cons hlt, hx', List.foldl_cons] at hw
  have hk0 := mayN_kids (hmay x hxm)
  obtain ⟨c, hcn⟩ : ∃ c : Nat, x.n = (c : Int) := ⟨x.n.toNat, by omega⟩
  have hsp := hstep_pos (p := (s, m)) x (by have := hkle x hxm; omega) hpos
  have hslen := hstep_len (s, m) x
  unfold hstep at hw hsp hslen
  rw [hcn, Int.toNat_natCast] at hw hsp hslen
  simp only at hw hsp hslen
  obtain ⟨P, hP⟩ : ∃ P, P = (if c = 0 then fin s else c :: s) := ⟨_, rfl⟩
  rw [← hP] at hw hsp hslen
  have hmx : (if (m : Int) < (s.length : Int) + 1 then (s.length : Int) + 1 else (m : Int)) = ((max m (s.length + 1) : Nat) : Int) := by split <;> omega
  obtain ⟨m2, hm2⟩ : ∃ m2, m2 = max m (s.length + 1) := ⟨_, rfl⟩
  rw [← hm2] at hw hmx
  have hm2b : m2 ≤ k + 1 := by omega
  have z1 : (s.length + 1) * 8 ≤ 150000000000000 := by omega
  have z2 : s.length + 1 ≤ 9223372036854775807 := by omega
  have q1 : IntKind.i64.wrap ((s.length : Int) + 1) = (s.length : Int) + 1 := wrap64_in (by omega) (by omega)
  (refine go1 aj0 aj0 (aj10 @dNd.eq_1 hlt hx hx' hcn @dstk_len hmx z1 z2 q1) ?_; intros; refine mk_i ?_)
  refine DW_loop (X := {q : List Nat // popR q = P ∧ q.length ≤ k + 1 ∧ pos q.tail}) (fun q => ⟨[(3, .int .i64 m2), (4, .osl 50 1), (7, dNds l), (8, .int .i64 l.length), (9, .int .i64 k)], [⟨50, 1, .row 3 1 8 (dstk q.1)⟩]⟩) (fun q => q.1.length) ⟨c :: s, by rw [hP, popR_push], by simp; omega, hpos⟩ (Sub.lit (by simp [hmx, dstk_cons, mxR_append])) ?_
  rintro ⟨q, hq1, hq2, hq3⟩
  simp only
  match q, hq1, hq2, hq3 with
  | [], hq1, hq2, hq3 =>
   have hP2 : P = [] := by rw [← hq1]; rfl
   (refine go1 aj0 aj0 (aj1 @dstk_nil) ?_; intros; refine mk_i ?_)
   refine Again.mk ⟨(k + 1, P, m2), show k + 1 ≤ l.length ∧ (l.drop (k + 1)).foldl hstep (P, m2) = ([], R) ∧ P.length ≤ k + 1 ∧ m2 ≤ k + 1 ∧ pos P from ⟨by omega, hw, by omega, hm2b, hsp⟩⟩ (Sub.lit (by simp [hP2, dstk_nil])) (by simp; omega)
   skip
  | d :: q, hq1, hq2, hq3 =>
   have hql : q.length ≤ k := by simpa using hq2
   have hlen : (dstk (d :: q)).length = q.length + 1 := by rw [dstk_len]; rfl
   have htop := dstk_top d q
   have htk := dstk_take d q
   have q2 : IntKind.i64.wrap ((q.length : Int)) = (q.length : Int) := wrap64_in (by omega) (by omega)
   obtain ⟨D, hD⟩ : ∃ D, D = dstk (d :: q) := ⟨_, rfl⟩
   rw [← hD] at hlen htop htk ⊢
   have hltD : q.length < D.length := by omega
   have htop' : D[q.length]'hltD = [.int .i64 (d : Int)] := (List.getElem?_eq_some_iff.1 htop).2
   have hp0 : (0 : Int) < (q.length : Int) + 1 := by omega
   cases d with
   | zero =>
    cases q with
    | nil =>
     have hP2 : P = [] := by rw [← hq1]; rfl
     have q0 : IntKind.i64.wrap 0 = 0 := by decide
     simp only [List.length_nil, Nat.zero_add] at hlen htop htop' htk hltD
     (repeat (first | (refine DW_truncS 4 ?_ (fun _ => ?_); (· (simp [hnt, hlen, htop, htop', hltD, hp0, htk, dstk_nil, q0]; done)); (try simp [hnt, hlen, htop, htop', hltD, hp0, htk, dstk_nil, q0])) | refine DW_seq fun K hK => ?_ | (refine DW_r anRX2206 Tryz.mixed (by kernel_rfl) ?_; simp [anRX2206, hnt, hlen, htop, htop', hltD, hp0, htk, dstk_nil, q0]; try simp (disch := omega) only [wrap64_in]) | refine DW_block ?_ | (refine DW_if ?_ ?_ ?_; (· (simp [hnt, hlen, htop, htop', hltD, hp0, htk, dstk_nil, q0]; done)); (try (rotate_left; (· (intro hc; (try simp [hnt, hlen, htop, htop', hltD, hp0, htk, dstk_nil, q0] at hc); done))))) | (refine DW_ret ?_; simp [Tryz.results206, hnt, hlen, htop, htop', hltD, hp0, htk, dstk_nil, q0]) | ((first | refine DW_exit ?_ | refine DW_skip ?_); simp [hnt, hlen, htop, htop', hltD, hp0, htk, dstk_nil, q0]) | (intro hc; (try simp [hnt, hlen, htop, htop', hltD, hp0, htk, dstk_nil, q0] at hc); (try (exfalso; omega))) | (refine ⟨?_, ?_⟩; · omega) | omega | apply_assumption -exfalso -symm | (exfalso; omega)))
     refine Again.mk ⟨[], hP2.symm, by simp, by simp [pos]⟩ (Sub.lit (by simp [dstk_nil])) (by simp)
     skip
    | cons e q =>
     obtain ⟨he1, he9⟩ := hq3 e (by simp)
     have q5 : IntKind.i64.wrap ((e - 1 : Nat) : Int) = ((e - 1 : Nat) : Int) := wrap64_in (by omega) (by omega)
     have hP2 : popR ((e - 1) :: q) = P := by rw [popR_step he1, ← hq1]; rfl
     have hpq : pos q := fun c hc => hq3 c (by simp [hc])
     simp only [List.length_cons] at hlen htop htop' htk hltD q2 hp0 hql
     have hlen2 : (dstk (e :: q)).length = q.length + 1 := by rw [dstk_len]; rfl
     have htop2 := dstk_top e q
     have hset := dstk_set e (e - 1) q
     obtain ⟨E, hE⟩ : ∃ E, E = dstk (e :: q) := ⟨_, rfl⟩
     rw [← hE] at hlen2 htop2 hset htk
     have hltE : q.length < E.length := by omega
     have htop2' : E[q.length]'hltE = [.int .i64 (e : Int)] := (List.getElem?_eq_some_iff.1 htop2).2
     have q3 : IntKind.i64.wrap ((q.length : Int) + 1) = (q.length : Int) + 1 := wrap64_in (by omega) (by omega)
     have q4 : IntKind.i64.wrap ((q.length : Int)) = (q.length : Int) := wrap64_in (by omega) (by omega)
     have he2 : (e : Int) - 1 = ((e - 1 : Nat) : Int) := by omega
     have hp1 : (0 : Int) < (q.length : Int) + 1 := by omega
     have hp2 : (0 : Int) < (q.length : Int) + 1 + 1 := by omega
     (repeat (first | (refine DW_truncS 4 ?_ (fun _ => ?_); (· (simp [hnt, hlen, htop, htop', hltD, hp0, hp1, hp2, htk, q3, q4, hlen2, htop2, htop2', hltE, he2, hset, q5]; done)); (try simp [hnt, hlen, htop, htop', hltD, hp0, hp1, hp2, htk, q3, q4, hlen2, htop2, htop2', hltE, he2, hset, q5])) | refine DW_seq fun K hK => ?_ | (refine DW_r anRX2206 Tryz.mixed (by kernel_rfl) ?_; simp [anRX2206, hnt, hlen, htop, htop', hltD, hp0, hp1, hp2, htk, q3, q4, hlen2, htop2, htop2', hltE, he2, hset, q5]; try simp (disch := omega) only [wrap64_in]) | refine DW_block ?_ | (refine DW_if ?_ ?_ ?_; (· (simp [hnt, hlen, htop, htop', hltD, hp0, hp1, hp2, htk, q3, q4, hlen2, htop2, htop2', hltE, he2, hset, q5]; done)); (try (rotate_left; (· (intro hc; (try simp [hnt, hlen, htop, htop', hltD, hp0, hp1, hp2, htk, q3, q4, hlen2, htop2, htop2', hltE, he2, hset, q5] at hc); done))))) | (refine DW_ret ?_; simp [Tryz.results206, hnt, hlen, htop, htop', hltD, hp0, hp1, hp2, htk, q3, q4, hlen2, htop2, htop2', hltE, he2, hset, q5]) | ((first | refine DW_exit ?_ | refine DW_skip ?_); simp [hnt, hlen, htop, htop', hltD, hp0, hp1, hp2, htk, q3, q4, hlen2, htop2, htop2', hltE, he2, hset, q5]) | (intro hc; (try simp [hnt, hlen, htop, htop', hltD, hp0, hp1, hp2, htk, q3, q4, hlen2, htop2, htop2', hltE, he2, hset, q5] at hc); (try (exfalso; omega))) | (refine ⟨?_, ?_⟩; · omega) | omega | apply_assumption -exfalso -symm | (exfalso; omega)))
     refine Again.mk ⟨(e - 1) :: q, hP2, by simp; omega, hpq⟩ (Sub.lit (by simp)) (by simp)
     skip
   | succ d =>
    have hP2 : P = (d + 1) :: q := by rw [← hq1]; rfl
    have hd0 : ¬ (d : Int) + 1 = 0 := by omega
    have hd0' : (((d : Int) + 1) == 0) = false := by simpa using hd0
    (refine go1 aj0 aj0 (aj8 hlen htop htop' hltD q2 hp0 hd0 hd0') ?_; intros; refine mk_i ?_)
    refine Again.mk ⟨(k + 1, P, m2), show k + 1 ≤ l.length ∧ (l.drop (k + 1)).foldl hstep (P, m2) = ([], R) ∧ P.length ≤ k + 1 ∧ m2 ≤ k + 1 ∧ pos P from ⟨by omega, hw, by omega, hm2b, hsp⟩⟩ (Sub.lit (by simp [hP2, hD])) (by simp; omega)
    skip
 ·have hkk : k = l.length := by omega
  subst hkk
  rw [List.drop_length] at hw
  simp only [List.foldl_nil, _root_.Prod.mk.injEq] at hw
  obtain ⟨rfl, rfl⟩ := hw
  exact go0 aj0 aj0 aj0
end Go.Proofs.YtdgocjbakjamaaaGreat
end

section
set_option linter.unusedSectionVars false
/- regular expressions as lists: kids -/


set_option linter.unusedSimpArgs false
set_option linter.unusedVariables false
namespace Go.Proofs.YtdgocjbakjamaaaGreat
open Go Go.Dm
variable [DMode]
attribute [local irreducible] DW callP callS
set_option maxRecDepth 100000

def dT (t : RT) : List DVal := [dNds (flat t)]
abbrev dTs (ts : List RT) : DVal := .sl 1 24 (ts.map dT)
@[simp] theorem mx_dT (t : RT) : mxL (dT t) = 0 := by simp [dT, mxL, mx]
@[simp] theorem mx_dTs (l : List RT) : mxR (l.map dT) = 0 := mxR0 _ mx_dT l
theorem flatL_take {ks : List RT} {i : Nat} {t : RT} (h : ks[i]? = some t) : (flatL (ks.take (i + 1))).length = (flatL (ks.take i)).length + (flat t).length := by
 rw [List.take_add_one, h, flatL_app, List.length_append]
 simp [flatL]
theorem flatL_split (ks : List RT) (i : Nat) : flatL ks = flatL (ks.take i) ++ flatL (ks.drop i) := by rw [← flatL_app, List.take_append_drop]

def anRX3155 : Ann := ⟨[], []⟩
set_option maxHeartbeats 4000000 in
theorem kids86_pure (x : Nd) (ks : List RT) (ht : okT (.mk x ks) = true) (hs : (flat (.mk x ks)).length ≤ 1310720) : DPure Tryz.prog 155 [dNds (flat (.mk x ks))] (dTs ks) := by
 refine DPure_introF [60] (fn := Tryz.f155) Tryz.func155 rfl Tryz.call155 (by simp [Tryz.ntmps155]) (by simp [mx]) ?_
 intro hwf B hnt
 simp only [Tryz.ntmps155] at hnt
 have hA := an_is anRX3155 Tryz.mixed (aj2 @anRX3155.eq_1 Tryz.results155)
 clear hwf
 simp only [argS]
 obtain ⟨hm, hn, hok⟩ := okT_mk ht
 have hmay := okT_all ht
 have hkle := kids_leT _ ht
 obtain ⟨l, hl⟩ : ∃ l, l = flat (.mk x ks) := ⟨_, rfl⟩
 have hl2 : l = x :: flatL ks := by rw [hl, flat_mk]
 rw [← hl] at hmay hkle hs ⊢
 have h0 : l[0]? = some x := by rw [hl2]; rfl
 have hlen : l.length = (flatL ks).length + 1 := by rw [hl2]; simp
 have hlt0 : 0 < l.length := by omega
 have h0' : l[0]'hlt0 = x := (List.getElem?_eq_some_iff.1 h0).2
 have hks : ks.length ≤ 1310720 := by have := flatL_len ks; omega
 (refine go1 aj0 aj0 (aj5 @dNd.eq_1 h0 h0' hlt0 hn) ?_; intros; refine mk_i ?_)
 refine DW_adoptS 3 60 42 1 24 (by simp [hnt, Tryz.results155, anRX3155]) (fun n => ?_)
 refine DW_loop (X := {i : Nat // i ≤ ks.length}) (fun i => ⟨[(0, dNds l), (3, .osl 60 1), (4, .int .i64 (1 + (flatL (ks.take i.1)).length : Nat)), (10, .int .i64 ks.length), (11, .int .i64 i.1)], [⟨60, 1, .row 42 1 24 ((ks.take i.1).map dT)⟩]⟩) (fun i => ks.length - i.1) ⟨0, by omega⟩ (Sub.lit (by simp [flatL])) ?_
 rintro ⟨i, hi⟩
 simp only
 by_cases hlt : i < ks.length
 ·obtain ⟨t, htk, ht', _⟩ := at_lt' hlt
  have hsp := flatL_split ks i
  have hdr := List.drop_eq_getElem_cons hlt
  rw [ht'] at hdr
  have hokd : okL (ks.drop i) = true := by
   have := okL_app (ks.take i) (ks.drop i)
   rw [List.take_append_drop, hok] at this
   simpa using (by simpa using this.symm : okL (ks.take i) = true ∧ okL (ks.drop i) = true).2
  rw [hdr] at hokd
  obtain ⟨hokt, hokr⟩ := okL_cons hokd
  obtain ⟨A, hA⟩ : ∃ A, A = 1 + (flatL (ks.take i)).length := ⟨_, rfl⟩
  obtain ⟨r, hr⟩ : ∃ r, r = flatL (ks.drop (i + 1)) := ⟨_, rfl⟩
  have hdrop : l.drop A = flat t ++ r := by
   rw [hl2, hA, Nat.add_comm, List.drop_succ_cons, hsp, List.drop_append_of_le_length (Nat.le_refl _), List.drop_length, List.nil_append, hdr, flatL_cons, hr]
  have hend : endN (l.drop A) 1 = some r := by rw [hdrop, endN_flat t r 0 hokt, endN_zero]
  have hA2 : A + (flat t).length + r.length = l.length := by
   have := congrArg List.length hdrop
   rw [List.length_drop, List.length_append] at this
   have := flat_len t
   omega
  have hnext := flatL_take htk
  rw [← hA]
  clear hsp hdr hokd hokr
  (repeat (first | refine DW_seq fun K hK => ?_ | (refine DW_r anRX3155 Tryz.mixed (by kernel_rfl) ?_; simp [anRX3155, hnt, hlt]; try simp (disch := omega) only [wrap64_in]) | refine DW_block ?_ | (refine DW_if ?_ ?_ ?_; (· (simp [hnt, hlt]; done)); (try (rotate_left; (· (intro hc; (try simp [hnt, hlt] at hc); done))))) | (refine DW_ret ?_; simp [Tryz.results155, hnt, hlt]) | ((first | refine DW_exit ?_ | refine DW_skip ?_); simp [hnt, hlt]) | (intro hc; (try simp [hnt, hlt] at hc); (try (exfalso; omega))) | (refine ⟨?_, ?_⟩; · omega) | omega | apply_assumption -exfalso -symm | (exfalso; omega)))
  refine DW_loop (X := {p : Nat × Nat // p.1 ≤ l.length ∧ endN (l.drop p.1) p.2 = some r ∧ p.2 ≤ 1 + p.1 * 1310720 ∧ A ≤ p.1}) (fun p => ⟨[(0, dNds l), (3, .osl 60 1), (4, .int .i64 p.1.1), (5, .int .i64 A), (6, .int .i64 p.1.2), (10, .int .i64 ks.length), (11, .int .i64 i)], [⟨60, 1, .row 42 1 24 ((ks.take i).map dT)⟩]⟩) (fun p => l.length - p.1.1) ⟨(A, 1), show A ≤ l.length ∧ endN (l.drop A) 1 = some r ∧ 1 ≤ 1 + A * 1310720 ∧ A ≤ A from ⟨by omega, hend, by omega, Nat.le_refl _⟩⟩ (Sub.lit (by simp)) ?_
  rintro ⟨⟨k, w⟩, hk, hw, hwb, hAk⟩
  simp only at hk hw hwb hAk ⊢
  cases w with
  | zero =>
   rw [endN_zero] at hw
   simp only [Option.some.injEq] at hw
   have hkl : k = A + (flat t).length := by
    have := congrArg List.length hw
    rw [List.length_drop] at this
    omega
   have z1 : ((ks.take i).length + 1) * 24 ≤ 150000000000000 := by rw [List.length_take]; omega
   have z2 : (ks.take i).length + 1 ≤ 9223372036854775807 := by rw [List.length_take]; omega
   have hpiece : (l.drop A).take (k - A) = flat t := by rw [hkl, Nat.add_sub_cancel_left, hdrop]; simp
   have hkk : A ≤ l.length := by omega
   (repeat (first | refine DW_seq fun K hK => ?_ | (refine DW_r anRX3155 Tryz.mixed (by kernel_rfl) ?_; simp [anRX3155, hnt, hlt, hk, hAk, hkk]; try simp (disch := omega) only [wrap64_in]) | refine DW_block ?_ | (refine DW_if ?_ ?_ ?_; (· (simp [hnt, hlt, hk, hAk, hkk]; done)); (try (rotate_left; (· (intro hc; (try simp [hnt, hlt, hk, hAk, hkk] at hc); done))))) | (refine DW_ret ?_; simp [Tryz.results155, hnt, hlt, hk, hAk, hkk]) | ((first | refine DW_exit ?_ | refine DW_skip ?_); simp [hnt, hlt, hk, hAk, hkk]) | (intro hc; (try simp [hnt, hlt, hk, hAk, hkk] at hc); (try (exfalso; omega))) | (refine ⟨?_, ?_⟩; · omega) | omega | apply_assumption -exfalso -symm | (exfalso; omega)))
   have hpD : List.take (k - A) (List.drop A (List.map dNd l)) = (flat t).map dNd := by rw [← List.map_drop, ← List.map_take, hpiece]
   have htm : List.take (i + 1) (List.map dT ks) = List.take i (List.map dT ks) ++ [dT t] := by rw [List.take_add_one, List.getElem?_map, htk]; rfl
   have hat : (1 : Int) + ((flatL (List.take (i + 1) ks)).length : Int) = (k : Int) := by omega
   refine Again.mk ⟨i + 1, by omega⟩ (Sub.lit (by simp [hpD, htm, hat, dT, mxR_append])) (by simp; omega)
   skip
  | succ v =>
   have hlt2 : k < l.length := by
    rcases Nat.lt_or_ge k l.length with h | h
    ·exact h
    ·rw [List.drop_of_length_le h, endN_nil] at hw; simp at hw
   obtain ⟨y, hy, hy', hym⟩ := at_lt' hlt2
   rw [List.drop_eq_getElem_cons hlt2, hy', endN_cons, if_pos (hmay y hym)] at hw
   have hk0 := mayN_kids (hmay y hym)
   have hk9 := hkle y hym
   obtain ⟨c, hcn⟩ : ∃ c : Nat, y.n = (c : Int) := ⟨y.n.toNat, by omega⟩
   rw [hcn, Int.toNat_natCast] at hw
   have q1 : IntKind.i64.wrap ((c : Int) - 1) = (c : Int) - 1 := wrap64_in (by omega) (by omega)
   have q2 : IntKind.i64.wrap ((v : Int) + 1 + ((c : Int) - 1)) = (v : Int) + (c : Int) := by rw [wrap64_in (by omega) (by omega)]; omega
   have q3 : (0 : Int) < (v : Int) + 1 := by omega
   (repeat (first | refine DW_seq fun K hK => ?_ | (refine DW_r anRX3155 Tryz.mixed (by kernel_rfl) ?_; simp [anRX3155, hnt, dNd, hlt2, hy, hy', hcn, q1, q2, q3]; try simp (disch := omega) only [wrap64_in]) | refine DW_block ?_ | (refine DW_if ?_ ?_ ?_; (· (simp [hnt, dNd, hlt2, hy, hy', hcn, q1, q2, q3]; done)); (try (rotate_left; (· (intro hc; (try simp [hnt, dNd, hlt2, hy, hy', hcn, q1, q2, q3] at hc); done))))) | (refine DW_ret ?_; simp [Tryz.results155, hnt, dNd, hlt2, hy, hy', hcn, q1, q2, q3]) | ((first | refine DW_exit ?_ | refine DW_skip ?_); simp [hnt, dNd, hlt2, hy, hy', hcn, q1, q2, q3]) | (intro hc; (try simp [hnt, dNd, hlt2, hy, hy', hcn, q1, q2, q3] at hc); (try (exfalso; omega))) | (refine ⟨?_, ?_⟩; · omega) | omega | apply_assumption -exfalso -symm | (exfalso; omega)))
   refine Again.mk ⟨(k + 1, v + c), show k + 1 ≤ l.length ∧ endN (l.drop (k + 1)) (v + c) = some r ∧ v + c ≤ 1 + (k + 1) * 1310720 ∧ A ≤ k + 1 from ⟨by omega, hw, by omega, by omega⟩⟩ (Sub.lit (by simp)) (by simp; omega)
   skip
 ·have hkk : i = ks.length := by omega
  subst hkk
  exact go0 aj0 aj0 (aj1 (@List.take_length.{0}))
end Go.Proofs.YtdgocjbakjamaaaGreat
end

section
set_option linter.unusedSectionVars false
/- The data machine, second make, part Bl: strings.Builder: a row of one builder, typed, and its own row of bytes. -/


set_option linter.unusedSimpArgs false
set_option linter.unusedVariables false
namespace Go.Dm
variable [DMode]
open Go.Shelf Go.Proofs Go.RowKit

section
variable {P : Program} {B : Base} {s : DS} {a : Act} {w : World} {loc : Nat → Loc}

theorem Rel.newTyped {id n k bs : Nat} {cs : List DVal} {us : List Value} {ty : TypeId} {dst : Option Nat} (R : Rel B s a w loc) (hlim : lim B s ≤ n) (hmx : mxL cs ≤ n) (hdst : ∀ i, dst = some i → i < B.nt)
  (hus : rdV (cu s loc) (hm s loc B.M0) w.heap cs us) (hone : ∀ u ∈ us, u.oneCell' = true) (hk : cs.length = k) (hbs : bs ≤ 150000000000000) :
  Rel B ⟨putS s.slots dst (.rx id n k 0 0), upE s.own id n (.row ty k bs [cs])⟩ (a.put dst (.pointer (some ⟨w.heap.size, 0, none⟩))) (w.alloc (.cells us.toArray ty)) (upL loc id ⟨[w.heap.size], .slice (some ⟨w.heap.size, 0, none⟩) 1 1⟩) := by
 have hw := Upd.alloc' (hotOf s.own loc) w (.cells us.toArray ty)
 have hL : ∀ b, b ∈ (⟨[w.heap.size], .slice (some ⟨w.heap.size, 0, none⟩) 1 1⟩ : Loc).blks → b < (w.alloc (.cells us.toArray ty)).heap.size ∧ ((∃ e ∈ s.own, e.id = id ∧ b ∈ (loc id).blks) ∨ w.heap.size ≤ b) := by
  intro b hb
  simp only [List.mem_singleton] at hb
  subst hb
  exact ⟨by simp, .inr (Nat.le_refl _)⟩
 have W := R.weakUp (obj := .row ty k bs [cs]) hlim hw hL (.inl (Nat.le_refl _))
 have hul := rdV_length _ _ hus
 refine R.up hlim hdst hw (fun b hb _ => by simp only [World.alloc, Array.getElem?_push]; rw [if_neg (by omega)]) hL (.inl (Nat.le_refl _)) ?_ ?_
 ·refine ⟨by simpa using hbs, .inr ⟨w.heap.size, us.toArray, 1, rfl, rfl, heap_alloc_new w _, by simp, by unfold maxLen; omega, by simp; omega, ?_⟩⟩
  have := rdR_of (cur := curOf (upE s.own id n (.row ty k bs [cs])) (upL loc id ⟨[w.heap.size], .slice (some ⟨w.heap.size, 0, none⟩) 1 1⟩)) (M := hotOf (upE s.own id n (.row ty k bs [cs])) (upL loc id ⟨[w.heap.size], .slice (some ⟨w.heap.size, 0, none⟩) 1 1⟩) ++ B.M0) (H := (w.alloc (.cells us.toArray ty)).heap) k [cs] [us] [] rfl (by
   intro i c u hc hu
   cases i with
   | zero =>
    simp only [List.getElem?_cons_zero, Option.some.injEq] at hc hu
    subst hc; subst hu
    exact ⟨hk, rdV_weak W cs us hmx hus, hone⟩
   | succ i => simp at hc)
  simpa using this
 ·simp only [rd]
  intro l hl
  rw [curOf_up] at hl
  simp only [Option.some.injEq] at hl
  subst hl
  exact ⟨_, rfl, by simp⟩

theorem DW_allocT {id i k bs : Nat} {t ty : TypeId} {pos : String} {z : List DVal} {Q : Exit → DS → Prop} (hi : i < B.nt) (hz : tZero P t = some z) (hp : z.all (oneO []) = true) (hk : z.length = k) (hbs : bs ≤ 150000000000000)
  (h : ∀ r, lim B s ≤ r → Q .normal ⟨putS s.slots (some i) (.rx i r k 0 0), upE s.own i r (.row t k bs [z])⟩) : DW P B (.region id #[⟨some i, .alloc t, ty, pos, #[], none⟩] false) Q s := by
 intro a w loc R
 refine wpIn_region ?_
 rw [List.range_eq_range']
 show wpOpsIn _ _ _ _ _ [0] _ _
 simp only [wpOpsIn]
 have hw : Region.wanted (⟨some i, .alloc t, ty, pos, #[], none⟩ : Oper) (yielded #[⟨some i, .alloc t, ty, pos, #[], none⟩] a.tmps) = true := by simp [Region.wanted]
 simp only [List.getElem?_toArray, List.getElem?_cons_zero]
 rw [if_pos hw]
 obtain ⟨zv, hzr, rfl⟩ := tZero_ok (w := w) hz
 have hus : rdV (cu s loc) (hm s loc B.M0) w.heap (zv.cells.toList.map ofV1) zv.cells.toList := rdV_map_ofV1 _
 have hmx : mxL (zv.cells.toList.map ofV1) = 0 := by
  have h1 : ∀ v, mx (ofV1 v) = 0 := by
   intro v
   unfold ofV1
   split <;> (try split) <;> simp [mx]
  generalize zv.cells.toList = l
  induction l with
  | nil => simp [mxL]
  | cons v l ih => simp only [List.map_cons, mxL, h1, ih]; rfl
 have hone := oneO_all R.st (zv.cells.toList.map ofV1) zv.cells.toList (List.all_eq_true.2 fun d hd => oneO_nil (List.all_eq_true.1 hp d hd)) hus
 have R' := R.newTyped (id := i) (n := lim B s) (k := k) (bs := bs) (ty := t) (dst := some i) (Nat.le_refl _) (by omega) (fun j hj => by simp only [Option.some.injEq] at hj; omega) hus hone hk hbs
 have hrun : (execOp a.eval ⟨some i, .alloc t, ty, pos, #[], none⟩).run P w = .ok (.value (.pointer (some ⟨w.heap.size, 0, none⟩))) (w.alloc (.cells zv.cells.toList.toArray t)) := by
  simp [execOp, Instr.alloc, hzr, newVar, newRow]
 exact wp_val (fun c hc => by cases hc) hrun ⟨_, _, h _ (Nat.le_refl _), R'⟩
end

section
variable {P : Program} {ρ : Ren}
theorem lies_same {T n : Nat} (hd : P.depth ≠ 0) (hs : P.cellsOf T ≠ 0) (hn : 1 ≤ n) : liesAt P P.depth T n 0 T 1 = true := by
 obtain ⟨d, hd⟩ : ∃ d, P.depth = d + 1 := ⟨P.depth - 1, by omega⟩
 have h1 : sameLayout P (d + 1) T T = true := by simp [sameLayout]
 rw [hd]
 unfold liesAt
 rw [hd]
 unfold rowAt
 simp [hs, hn, h1]

theorem upd_freeze (w : World) (g n : Nat) : Upd [g] w (w.drew.freeze ⟨g, 0, none⟩ n) := by
 unfold World.freeze
 split
 ·exact Upd.drew _ w
 ·refine ⟨rfl, rfl, rfl, fun _ => Nat.le_succ _, by simp, fun b hb hne => ?_⟩
  simp only [List.mem_singleton] at hne
  simp only [Array.getElem?_modify]
  rw [if_neg (fun h => hne h.symm)]
  rfl

set_option maxHeartbeats 1000000 in
set_option maxRecDepth 100000 in
theorem builderString_some (L : Lays.n169 P ρ) (X : Builder.Extra P ρ) (b g cap : Nat) (p : Value) (cs cur : Array Value) (l : List UInt8) (w : World) (h0 : l ≠ []) (hb : w.heap[b]? = some (.cells cs (ρ.t 72) (0, 0))) (hb1 : cs[1]? = some (.slice (some ⟨g, 0, none⟩) l.length cap))
  (hg : w.heap[g]? = some (.cells cur (ρ.t 5) (0, 0))) (hnc : l.length ≤ cap) (hcm : cap ≤ maxLen) (hcs : cur.size = cap) (htake : cur.toList.take l.length = Lib.byteCells l) :
  Calls P (ρ.f 169) #[.pointer (some ⟨b, 0, none⟩)] w fun e w' => e = .returned (.string ⟨l.toArray⟩) ∧ Upd [g] w w' ∧ w' = w.drew.freeze ⟨g, 0, none⟩ l.length := by
 have hl0 : l.length ≠ 0 := by simpa using h0
 have c1 : w.drew.cell? ⟨b, 1, none⟩ = some (.slice (some ⟨g, 0, none⟩) l.length cap) := by
  have : w.drew.heap[b]? = some (.cells cs (ρ.t 72) (0, 0)) := hb
  rw [Lib.cell_of_heap this]; exact hb1
 have hSD : (Builtin.unsafeSliceData_ #[(ρ.t 37)] (ρ.t 127) #[.slice (some ⟨g, 0, none⟩) l.length cap]).run P w.drew = .ok (.pointer (some ⟨g, 0, none⟩)) w.drew :=
  Lib.run_unsafeSliceData_row _ _ _ _ _ _ (by omega)
 have hUS : (Builtin.unsafeString_ #[(ρ.t 127), (ρ.t 3)] (ρ.t 9) #[.pointer (some ⟨g, 0, none⟩), .int .i64 l.length]).run P w.drew = .ok (.string ⟨l.toArray⟩) (w.drew.freeze ⟨g, 0, none⟩ l.length) := by
  refine Lib.run_unsafeString_row w.drew (ρ.t 127) (ρ.t 3) (ρ.t 9) (ρ.t 5) L.t127 X.cellsByte g cur.size (by have hg' : w.drew.heap[g]? = some (.cells cur (ρ.t 5) (0, 0)) := hg; simp [World.shape?, hg']) l h0 (by omega) (by unfold maxLen at hcm; omega) ?_
  intro j x hx
  have hg' : w.drew.heap[g]? = some (.cells cur (ρ.t 5) (0, 0)) := hg
  have hadd : (⟨g, 0, none⟩ : Addr).add j = ⟨g, j, none⟩ := by unfold Addr.add; split <;> simp_all
  rw [hadd, Lib.cell_of_heap hg']
  have hj : j < l.length := (List.getElem?_eq_some_iff.1 hx).1
  have h2 : (Lib.byteCells l)[j]? = some (.int .u8 x.toNat) := by simp [Lib.byteCells, hx]
  rw [← htake, List.getElem?_take_of_lt hj] at h2
  simpa using h2
 have mixed := L.mixed
 have t72 := L.t72; have a72 := L.a72; have z72 := L.z72; have v72 := L.v72; have u72 := run_underlying L.t72
 have t70 := L.t70; have a70 := L.a70; have z70 := L.z70; have v70 := L.v70; have u70 := run_underlying L.t70
 have t37 := L.t37; have a37 := L.a37; have z37 := L.z37; have v37 := L.v37; have u37 := run_underlying L.t37
 have t127 := L.t127; have a127 := L.a127; have z127 := L.z127; have v127 := L.v127; have u127 := run_underlying L.t127
 have t3 := L.t3; have a3 := L.a3; have z3 := L.z3; have v3 := L.v3; have u3 := run_underlying L.t3
 have t9 := L.t9; have a9 := L.a9; have z9 := L.z9; have v9 := L.v9; have u9 := run_underlying L.t9
 have t5 := X.t5; have a5 := X.a5; have z5 := X.z5; have v5 := X.v5; have u5 := run_underlying X.t5
 go_enter L.f169, Body.n169_ntmps ρ
 go_wp2
 go_region_o
 all_goals (go_wp2; go_ret; exact ⟨rfl, upd_freeze w g l.length, rfl⟩)

theorem bld_cells {cur : Cur} {M : List Nat} {H : Array Obj} {d0 d1 : DVal} {arr : Array Value} (h : rdR cur M H 2 [[d0, d1]] arr 0) : ∃ v0 v1 rest, arr = (v0 :: v1 :: rest).toArray ∧ rd cur M H d0 v0 ∧ rd cur M H d1 v1 := by
 obtain ⟨rows, r1, r2, r3, r4⟩ := rdR_vals 2 _ arr 0 h
 match rows, r1 with
 | [us], _ =>
  obtain ⟨g1, g2, g3⟩ := r3 0 _ _ rfl rfl
  simp only [rdV] at g2
  obtain ⟨v0, r, rfl, h0, v1, r', rfl, h1, rfl⟩ := g2
  have e0 := (r4 0 v0 (by simp)).1
  have e1 := (r4 1 v1 (by simp)).1
  obtain ⟨l⟩ := arr
  match l, e0, e1 with
  | x :: y :: rest, e0, e1 =>
   simp at e0 e1
   subst e0; subst e1
   exact ⟨x, y, rest, rfl, h0, h1⟩
theorem bld_rdR {cur : Cur} {M : List Nat} {H : Array Obj} {d0 d1 : DVal} {v0 v1 : Value} {rest : List Value} (h0 : rd cur M H d0 v0) (h1 : rd cur M H d1 v1) (o0 : v0.oneCell' = true) (o1 : v1.oneCell' = true) : rdR cur M H 2 [[d0, d1]] (v0 :: v1 :: rest).toArray 0 := by
 have := rdR_of (cur := cur) (M := M) (H := H) 2 [[d0, d1]] [[v0, v1]] rest rfl (by
  intro i c u hc hu
  cases i with
  | zero =>
   simp only [List.getElem?_cons_zero, Option.some.injEq] at hc hu
   subst hc; subst hu
   exact ⟨rfl, ⟨v0, _, rfl, h0, v1, _, rfl, h1, rfl⟩, by simp [o0, o1]⟩
  | succ i => simp at hc)
 simpa using this

theorem copyCheck_spec1 {g T : Nat} (hd : P.depth ≠ 0) (hs : P.cellsOf T = 2) (hE : Enters P g) (bs : Nat)
  (hcc : ∀ (b n : Nat) (w : World), w.cell? ⟨b, 0, none⟩ = some (.pointer none) → w.shape? b = some (T, n) → 0 < n → liesAt P P.depth T (n / P.cellsOf T) 0 T 1 = true → w.frozen? ⟨b, 0, none⟩ = false →
   Calls P g #[.pointer (some ⟨b, 0, none⟩)] w fun e w' => e = .returned (.tuple #[]) ∧ w' = w.setCell ⟨b, 0, none⟩ (.pointer (some ⟨b, 0, none⟩))) :
  DSpec P (.func g) [.rx 0 0 2 0 0] [⟨0, 0, .row T 2 bs [[.nilp, .nilsl]]⟩] (.tup []) [⟨0, 0, .row T 2 bs [[.rx 0 0 2 0 0, .nilsl]]⟩] := by
 refine ⟨by simp, hE, fun M w loc vs S hvs => ?_⟩
 have hk := S.ok _ (List.mem_singleton.2 rfl)
 obtain ⟨hbs, hk⟩ := hk
 rcases hk with ⟨h, _⟩ | ⟨b, arr, cap, h1, h2, h3, h4, h5, h6, h7⟩
 ·simp at h
 ·obtain ⟨v0, v1, rest, rfl, g0, g1⟩ := bld_cells h7
  simp only [rd] at g0 g1
  subst g0; subst g1
  have hcur : curOf [(⟨0, 0, .row T 2 bs [[.nilp, .nilsl]]⟩ : Ent)] loc 0 0 = some (loc 0) := by simp [curOf, findE]
  simp only [rdV, rd] at hvs
  obtain ⟨pv, r, hvs, hp, rfl⟩ := hvs
  obtain ⟨b', hb', rfl⟩ := hp _ hcur
  simp only at h1 h2
  rw [h1] at hb'
  simp only [List.cons.injEq, and_true] at hb'
  subst hb'
  have hvs' : vs = #[.pointer (some ⟨b, 0, none⟩)] := by apply Array.ext'; simpa using hvs
  subst hvs'
  have hsz : 2 ≤ (Array.size (Value.pointer none :: Value.slice none 0 0 :: rest).toArray) := by simp
  refine ⟨hE, (hcc b (rest.length + 2) w (by rw [Lib.cell_of_heap h3]; rfl) (by simp [World.shape?, h3]) (by omega) (lies_same hd (by omega) (by rw [hs]; omega)) (Lib.frozen_of_heap h3 0)).mono ?_⟩
  rintro e w' ⟨rfl, rfl⟩
  refine ⟨_, rfl, loc, ?_, ?_, ?_, ?_, ?_⟩
  ·have hset := setCell_eq_setRow w b 0 _ _ _ (.pointer (some ⟨b, 0, none⟩)) h3
   rw [hset]
   refine ⟨S.nd, S.bl, S.ap, fun q hq => by have := S.lt q hq; simpa using this, fun e he => ?_⟩
   simp only [List.mem_singleton] at he
   subst he
   refine ⟨hbs, .inr ⟨b, _, cap, h1, h2, setRow_heap w b _ _ _ (0, 0) h3, h4, h5, by simpa using h6, ?_⟩⟩
   have := bld_rdR (cur := curOf [(⟨0, 0, .row T 2 bs [[.rx 0 0 2 0 0, .nilsl]]⟩ : Ent)] loc) (M := hotOf [(⟨0, 0, .row T 2 bs [[.rx 0 0 2 0 0, .nilsl]]⟩ : Ent)] loc ++ M) (H := (w.setRow b ((Value.pointer none :: Value.slice none 0 0 :: rest).toArray.setIfInBounds 0 (.pointer (some ⟨b, 0, none⟩)))).heap)
    (d0 := .rx 0 0 2 0 0) (d1 := .nilsl) (v0 := .pointer (some ⟨b, 0, none⟩)) (v1 := .slice none 0 0) (rest := rest) (by
     simp only [rd]
     intro l hl
     have hc2 : curOf [(⟨0, 0, .row T 2 bs [[.rx 0 0 2 0 0, .nilsl]]⟩ : Ent)] loc 0 0 = some (loc 0) := by simp [curOf, findE]
     rw [hc2] at hl
     simp only [Option.some.injEq] at hl
     subst hl
     exact ⟨b, h1, by simp⟩) (by simp [rd]) rfl rfl
   simpa using this
  ·refine ⟨rfl, rfl, rfl, fun _ => Nat.le_refl _, by simp [World.setCell], fun q hq hne => ?_⟩
   have hqb : b ≠ q := by
    intro h
    subst h
    exact hne (by simp [hotOf, h1])
   simp [World.setCell, Array.getElem?_modify, hqb]
  ·intro q hq
   exact .inl hq
  ·intro e he _
   simp only [List.mem_singleton] at he
   subst he
   exact hcur
  ·simp [rd, rdV]
theorem copyCheck_spec2 {g T : Nat} (hE : Enters P g) (bs : Nat) (q : DVal) (rest : List Ent) (hr : ∀ e ∈ rest, e.r = 0)
  (hcc : ∀ (b : Nat) (w : World), w.cell? ⟨b, 0, none⟩ = some (.pointer (some ⟨b, 0, none⟩)) → Calls P g #[.pointer (some ⟨b, 0, none⟩)] w fun e w' => e = .returned (.tuple #[]) ∧ w' = w) :
  DSpec P (.func g) [.rx 0 0 2 0 0] (⟨0, 0, .row T 2 bs [[.rx 0 0 2 0 0, q]]⟩ :: rest) (.tup []) (⟨0, 0, .row T 2 bs [[.rx 0 0 2 0 0, q]]⟩ :: rest) := by
 refine ⟨fun e he => by rcases List.mem_cons.1 he with rfl | he <;> simp_all, hE, fun M w loc vs S hvs => ?_⟩
 have hk := S.ok _ List.mem_cons_self
 obtain ⟨hbs, hk⟩ := hk
 rcases hk with ⟨h, _⟩ | ⟨b, arr, cap, h1, h2, h3, h4, h5, h6, h7⟩
 ·simp at h
 ·obtain ⟨v0, v1, rs, rfl, g0, g1⟩ := bld_cells h7
  simp only [rd] at g0
  have hcur : curOf ((⟨0, 0, .row T 2 bs [[.rx 0 0 2 0 0, q]]⟩ : Ent) :: rest) loc 0 0 = some (loc 0) := by simp [curOf, findE]
  obtain ⟨b0, hb0, rfl⟩ := g0 _ hcur
  simp only [rdV, rd] at hvs
  obtain ⟨pv, r, hvs, hp, rfl⟩ := hvs
  obtain ⟨b', hb', rfl⟩ := hp _ hcur
  simp only at h1 h2
  rw [h1] at hb' hb0
  simp only [List.cons.injEq, and_true] at hb' hb0
  subst hb'; subst hb0
  have hvs' : vs = #[.pointer (some ⟨b, 0, none⟩)] := by apply Array.ext'; simpa using hvs
  subst hvs'
  refine ⟨hE, (hcc b w (by rw [Lib.cell_of_heap h3]; rfl)).mono ?_⟩
  rintro e w' ⟨rfl, rfl⟩
  refine ⟨_, rfl, loc, S, Upd.refl _ _, fun q hq => .inl hq, fun e he _ => curOf_self S.nd he, by simp [rd, rdV]⟩

theorem builderString_spec2 (L : Lays.n169 P ρ) (X : Builder.Extra P ρ) (hE : Enters P (ρ.f 169)) (bs : Nat) (x : ByteArray) (hx : x.size ≠ 0) :
  DSpec P (.func (ρ.f 169)) [.rx 0 0 2 0 0] [⟨0, 0, .row (ρ.t 72) 2 bs [[.rx 0 0 2 0 0, .osl 1 0]]⟩, ⟨1, 0, .row (ρ.t 5) 1 1 (bytesD x)⟩] (.str x) [] := by
 refine ⟨by simp, hE, fun M w loc vs S hvs => ?_⟩
 have hk := S.ok _ List.mem_cons_self
 have hk2 := S.ok _ (List.mem_cons_of_mem _ List.mem_cons_self)
 obtain ⟨hbs, hk⟩ := hk
 obtain ⟨hbs2, hk2⟩ := hk2
 rcases hk with ⟨h, _⟩ | ⟨b, arr, cap, h1, h2, h3, h4, h5, h6, h7⟩
 ·simp at h
 rcases hk2 with ⟨h, _⟩ | ⟨g, cur, cap2, k1, k2, k3, k4, k5, k6, k7⟩
 ·have := congrArg List.length h
  rw [bytesD_len] at this
  exact absurd this hx
 ·obtain ⟨v0, v1, rest, rfl, g0, g1⟩ := bld_cells h7
  simp only [rd] at g0 g1
  have hcur : curOf [(⟨0, 0, .row (ρ.t 72) 2 bs [[.rx 0 0 2 0 0, .osl 1 0]]⟩ : Ent), ⟨1, 0, .row (ρ.t 5) 1 1 (bytesD x)⟩] loc 0 0 = some (loc 0) := by simp [curOf, findE]
  have hcur1 : curOf [(⟨0, 0, .row (ρ.t 72) 2 bs [[.rx 0 0 2 0 0, .osl 1 0]]⟩ : Ent), ⟨1, 0, .row (ρ.t 5) 1 1 (bytesD x)⟩] loc 1 0 = some (loc 1) := by simp [curOf, findE]
  have hv1 := g1 _ hcur1
  simp only at k1 k2
  rw [k2, bytesD_len] at hv1
  subst hv1
  simp only [rdV, rd] at hvs
  obtain ⟨pv, r, hvs, hp, rfl⟩ := hvs
  obtain ⟨b', hb', rfl⟩ := hp _ hcur
  simp only at h1 h2
  rw [h1] at hb'
  simp only [List.cons.injEq, and_true] at hb'
  subst hb'
  have hvs' : vs = #[.pointer (some ⟨b, 0, none⟩)] := by apply Array.ext'; simpa using hvs
  subst hvs'
  have hxl : x.data.toList.length = x.size := rfl
  obtain ⟨rows, r1, r2, r3, r4⟩ := rdR_vals 1 _ cur 0 k7
  have hfl : rows.flatten = Lib.byteCells x.data.toList := by
   have : ∀ (bl : List UInt8) (rows : List (List Value)), rows.length = bl.length → (∀ (i : Nat) (cs : List DVal) (us : List Value), (bl.map fun b => [DVal.int .u8 (b.toNat : Int)])[i]? = some cs → rows[i]? = some us → cs.length = 1 ∧ rdV (curOf [(⟨0, 0, .row (ρ.t 72) 2 bs [[.rx 0 0 2 0 0, .osl 1 0]]⟩ : Ent), ⟨1, 0, .row (ρ.t 5) 1 1 (bytesD x)⟩] loc) (hotOf [(⟨0, 0, .row (ρ.t 72) 2 bs [[.rx 0 0 2 0 0, .osl 1 0]]⟩ : Ent), ⟨1, 0, .row (ρ.t 5) 1 1 (bytesD x)⟩] loc ++ M) w.heap cs us ∧ ∀ u ∈ us, u.oneCell' = true) → rows.flatten = Lib.byteCells bl := by
    intro bl
    induction bl with
    | nil => intro rows hl _; rw [List.eq_nil_of_length_eq_zero hl]; rfl
    | cons y bl ih =>
     intro rows hl h
     match rows, hl with
     | us :: rows, hl =>
      obtain ⟨_, h1, _⟩ := h 0 _ _ rfl rfl
      simp only [rdV, rd] at h1
      obtain ⟨v, r, rfl, ⟨rfl, _⟩, rfl⟩ := h1
      have := ih rows (by simpa using hl) fun i cs us hc hu => h (i + 1) cs us (by simpa using hc) (by simpa using hu)
      simp [this, Lib.byteCells]
   exact this x.data.toList rows (by rw [r1, bytesD_len]; rfl) r3
  rw [bytesD_len] at k4 r2
  have hcsz : cur.size = cap2 := by omega
  have ht := take_flat r2 r4 (by omega)
  rw [hfl, Nat.mul_one] at ht
  refine ⟨hE, (builderString_some L X b g cap2 v0 _ cur x.data.toList w (fun h => hx (by rw [← hxl, h]; rfl)) h3 rfl k3 k4 k5 hcsz ht).mono ?_⟩
  rintro e w' ⟨rfl, hu, _⟩
  refine ⟨_, rfl, loc, ⟨by simp, by simp [hotOf], by simp [hotOf], fun q hq => ?_, by simp⟩, ?_, by simp [hotOf], by simp, ?_⟩
  ·have := S.lt q (List.mem_append_right _ (by simpa [hotOf] using hq))
   exact Nat.lt_of_lt_of_le this hu.size
  ·refine ⟨hu.os, hu.tape, hu.output, hu.drawn, hu.size, fun q hq hne => hu.blk q hq fun hm => hne ?_⟩
   simp only [List.mem_singleton] at hm
   subst hm
   simp [hotOf, k1]
  ·simp only [rd]
   exact ⟨trivial, by omega⟩
theorem builderString_spec2k (L : Lays.n169 P ρ) (X : Builder.Extra P ρ) (hE : Enters P (ρ.f 169)) (bs : Nat) (x : ByteArray) (hx : x.size ≠ 0) :
  DSpec P (.func (ρ.f 169)) [.rx 0 0 2 0 0] [⟨0, 0, .row (ρ.t 72) 2 bs [[.rx 0 0 2 0 0, .osl 1 0]]⟩, ⟨1, 0, .row (ρ.t 5) 1 1 (bytesD x)⟩] (.str x) [⟨0, 0, .row (ρ.t 72) 2 bs [[.rx 0 0 2 0 0, .sl 1 1 (bytesD x)]]⟩] := by
 refine ⟨by simp, hE, fun M w loc vs S hvs => ?_⟩
 have hk := S.ok _ List.mem_cons_self
 have hk2 := S.ok _ (List.mem_cons_of_mem _ List.mem_cons_self)
 obtain ⟨hbs, hk⟩ := hk
 obtain ⟨hbs2, hk2⟩ := hk2
 rcases hk with ⟨h, _⟩ | ⟨b, arr, cap, h1, h2, h3, h4, h5, h6, h7⟩
 ·simp at h
 rcases hk2 with ⟨h, _⟩ | ⟨g, cur, cap2, k1, k2, k3, k4, k5, k6, k7⟩
 ·have := congrArg List.length h
  rw [bytesD_len] at this
  exact absurd this hx
 ·obtain ⟨v0, v1, rest, rfl, g0, g1⟩ := bld_cells h7
  simp only [rd] at g0 g1
  have hcur : curOf [(⟨0, 0, .row (ρ.t 72) 2 bs [[.rx 0 0 2 0 0, .osl 1 0]]⟩ : Ent), ⟨1, 0, .row (ρ.t 5) 1 1 (bytesD x)⟩] loc 0 0 = some (loc 0) := by simp [curOf, findE]
  have hcur1 : curOf [(⟨0, 0, .row (ρ.t 72) 2 bs [[.rx 0 0 2 0 0, .osl 1 0]]⟩ : Ent), ⟨1, 0, .row (ρ.t 5) 1 1 (bytesD x)⟩] loc 1 0 = some (loc 1) := by simp [curOf, findE]
  have hv1 := g1 _ hcur1
  simp only at k1 k2
  rw [k2, bytesD_len] at hv1
  subst hv1
  simp only [rdV, rd] at hvs
  obtain ⟨pv, r, hvs, hp, rfl⟩ := hvs
  obtain ⟨b', hb', rfl⟩ := hp _ hcur
  simp only at h1 h2
  rw [h1] at hb'
  simp only [List.cons.injEq, and_true] at hb'
  subst hb'
  have hvs' : vs = #[.pointer (some ⟨b, 0, none⟩)] := by apply Array.ext'; simpa using hvs
  subst hvs'
  have hxl : x.data.toList.length = x.size := rfl
  obtain ⟨rows, r1, r2, r3, r4⟩ := rdR_vals 1 _ cur 0 k7
  have hfl : rows.flatten = Lib.byteCells x.data.toList := by
   have : ∀ (bl : List UInt8) (rows : List (List Value)), rows.length = bl.length → (∀ (i : Nat) (cs : List DVal) (us : List Value), (bl.map fun b => [DVal.int .u8 (b.toNat : Int)])[i]? = some cs → rows[i]? = some us → cs.length = 1 ∧ rdV (curOf [(⟨0, 0, .row (ρ.t 72) 2 bs [[.rx 0 0 2 0 0, .osl 1 0]]⟩ : Ent), ⟨1, 0, .row (ρ.t 5) 1 1 (bytesD x)⟩] loc) (hotOf [(⟨0, 0, .row (ρ.t 72) 2 bs [[.rx 0 0 2 0 0, .osl 1 0]]⟩ : Ent), ⟨1, 0, .row (ρ.t 5) 1 1 (bytesD x)⟩] loc ++ M) w.heap cs us ∧ ∀ u ∈ us, u.oneCell' = true) → rows.flatten = Lib.byteCells bl := by
    intro bl
    induction bl with
    | nil => intro rows hl _; rw [List.eq_nil_of_length_eq_zero hl]; rfl
    | cons y bl ih =>
     intro rows hl h
     match rows, hl with
     | us :: rows, hl =>
      obtain ⟨_, h1, _⟩ := h 0 _ _ rfl rfl
      simp only [rdV, rd] at h1
      obtain ⟨v, r, rfl, ⟨rfl, _⟩, rfl⟩ := h1
      have := ih rows (by simpa using hl) fun i cs us hc hu => h (i + 1) cs us (by simpa using hc) (by simpa using hu)
      simp [this, Lib.byteCells]
   exact this x.data.toList rows (by rw [r1, bytesD_len]; rfl) r3
  rw [bytesD_len] at k4 r2
  have hcsz : cur.size = cap2 := by omega
  have ht := take_flat r2 r4 (by omega)
  rw [hfl, Nat.mul_one] at ht
  refine ⟨hE, (builderString_some L X b g cap2 v0 _ cur x.data.toList w (fun h => hx (by rw [← hxl, h]; rfl)) h3 rfl k3 k4 k5 hcsz ht).mono ?_⟩
  rintro e w' ⟨rfl, hu, hw⟩
  have hv0 := g0 _ hcur
  obtain ⟨b2, hb2, rfl⟩ := hv0
  rw [h1] at hb2
  simp only [List.cons.injEq, and_true] at hb2
  subst hb2
  have hbl := S.bl
  have hap := S.ap
  simp only [hotOf, List.flatMap_cons, List.flatMap_nil, h1, k1, List.append_nil, List.cons_append, List.nil_append, List.nodup_cons, List.mem_singleton] at hbl
  have hbg : b ≠ g := hbl.1
  have hbM : b ∉ M := hap b (by simp [hotOf, h1])
  have hgM : g ∉ M := hap g (by simp [hotOf, k1])
  have hblt := (Array.getElem?_eq_some_iff.1 h3).1
  have hglt := (Array.getElem?_eq_some_iff.1 k3).1
  have hH : hotOf [(⟨0, 0, .row (ρ.t 72) 2 bs [[.rx 0 0 2 0 0, .sl 1 1 (bytesD x)]]⟩ : Ent)] loc = [b] := by simp [hotOf, h1]
  have hhb : w'.heap[b]? = some (.cells (Value.pointer (some ⟨b, 0 * 2 + 0, none⟩) :: .slice (some ⟨g, 0, none⟩) x.size cap2 :: rest).toArray (ρ.t 72) (0, 0)) := by rw [hu.blk b hblt (by simpa using hbg)]; exact h3
  have hhg : ∃ fz, w'.heap[g]? = some (.cells cur (ρ.t 5) fz) := by
   rw [hw]
   unfold World.freeze
   rw [if_neg (by rw [hxl]; exact hx)]
   have : w.drew.heap[g]? = some (.cells cur (ρ.t 5) (0, 0)) := k3
   simp only [Array.getElem?_modify, if_true, this]
   exact ⟨_, rfl⟩
  have W : Weak (curOf [(⟨0, 0, .row (ρ.t 72) 2 bs [[.rx 0 0 2 0 0, .osl 1 0]]⟩ : Ent), ⟨1, 0, .row (ρ.t 5) 1 1 (bytesD x)⟩] loc) (curOf [(⟨0, 0, .row (ρ.t 72) 2 bs [[.rx 0 0 2 0 0, .sl 1 1 (bytesD x)]]⟩ : Ent)] loc) (hotOf [(⟨0, 0, .row (ρ.t 72) 2 bs [[.rx 0 0 2 0 0, .osl 1 0]]⟩ : Ent), ⟨1, 0, .row (ρ.t 5) 1 1 (bytesD x)⟩] loc ++ M) ([b] ++ M) w.heap w'.heap 0 := by
   refine ⟨fun id r l hr _ => absurd hr (Nat.not_lt_zero _), fun q o hq _ ho => ?_, fun q o hq _ _ hm => hq ?_⟩
   ·rw [hu.blk q (Array.getElem?_eq_some_iff.1 ho).1 (fun hm => hq ?_)]
    ·exact ho
    ·simp only [List.mem_singleton] at hm
     subst hm
     simp [hotOf, k1]
   ·rcases List.mem_append.1 hm with hm | hm
    ·simp only [List.mem_singleton] at hm
     subst hm
     simp [hotOf, h1]
    ·exact List.mem_append_right _ hm
  refine ⟨_, rfl, loc, ⟨by simp, by rw [hH]; simp, fun q hq => ?_, fun q hq => ?_, ?_⟩, ?_, fun q hq => ?_, ?_, ?_⟩
  ·rw [hH] at hq; simp only [List.mem_singleton] at hq; subst hq; exact hbM
  ·rw [hH] at hq
   refine Nat.lt_of_lt_of_le (S.lt q ?_) hu.size
   rcases List.mem_append.1 hq with hq | hq
   ·simp only [List.mem_singleton] at hq; subst hq; simp [hotOf, h1]
   ·exact List.mem_append_right _ hq
  ·intro e he
   simp only [List.mem_singleton] at he
   subst he
   rw [hH]
   refine ⟨by simpa using hbs, .inr ⟨b, _, cap, h1, by simpa using h2, hhb, by simpa using h4, h5, h6, bld_rdR ?_ ?_ rfl rfl⟩⟩
   ·simp only [rd]
    intro l hl
    have : curOf [(⟨0, 0, .row (ρ.t 72) 2 bs [[.rx 0 0 2 0 0, .sl 1 1 (bytesD x)]]⟩ : Ent)] loc 0 0 = some (loc 0) := by simp [curOf, findE]
    rw [this] at hl
    simp only [Option.some.injEq] at hl
    subst hl
    exact ⟨b, h1, rfl⟩
   ·simp only [rd]
    obtain ⟨fz, hfz⟩ := hhg
    rw [bytesD_len]
    exact ⟨_, _, rfl, by simpa [bytesD_len] using k4, k5, by simpa [bytesD_len] using hbs2, .inr ⟨g, 0, cur, _, fz, rfl, fun hm => by
     rcases List.mem_append.1 hm with hm | hm
     ·simp only [List.mem_singleton] at hm; exact hbg hm.symm
     ·exact hgM hm, hfz, rdR_weak W 1 _ cur 0 (by rw [mx_bytesD]; exact Nat.le_refl _) k7⟩⟩
  ·refine ⟨hu.os, hu.tape, hu.output, hu.drawn, hu.size, fun q hq hne => hu.blk q hq fun hm => hne ?_⟩
   simp only [List.mem_singleton] at hm
   subst hm
   simp [hotOf, k1]
  ·rw [hH] at hq
   simp only [List.mem_singleton] at hq
   subst hq
   exact .inl (by simp [hotOf, h1])
  ·intro e he _
   simp only [List.mem_singleton] at he
   subst he
   exact hcur
  ·simp only [rd]
   exact ⟨trivial, by omega⟩

end
end Go.Dm
end

section
/-
  DERIVED: THE SHELF's CONTRACTS AT THIS DUMP, IN PLAIN WORDS (tools/lay-plain.mjs out of 'YtdgocjbakjamaaaGreatLay.lean', which tools/lay-shelf.mjs wrote): THE SAME DECLARATIONS UNDER THE SAME NAMES: 'import', 'namespace', 'open', 'def', 'theorem' AND NOTHING ELSE: no command of the shelf's: FOR A HAND-IN. Each laying: the table of numbers ('.._ren') and one theorem, a field a fact of the dump's own or the kernel's comparison; each contract: ONE APPLICATION.
-/















namespace Go.Proofs
open Go.Shelf
def Tryz.sortStr_ren : Go.Shelf.Ren := ⟨fun | 6 => 203 | 8 => 140 | 9 => 262 | 19 => 218 | 20 => 219 | 21 => 289 | 22 => 290 | 23 => 291 | 24 => 292 | 25 => 293 | 26 => 294 | 27 => 295 | 28 => 296 | 29 => 297 | 36 => 305 | 31 => 269 | 32 => 270 | 37 => 306 | 38 => 307 | 39 => 308 | 41 => 311 | n => n, fun | 27 => 51 | 29 => 9 | 3 => 3 | 32 => 199 | 26 => 51 | 0 => 0 | 44 => 266 | 46 => 176 | 4 => 4 | 36 => 259 | 35 => 258 | 41 => 263 | 5 => 5 | 9 => 9 | 53 => 311 | 57 => 315 | 63 => 332 | 64 => 274 | n => n, fun | n => n⟩
theorem Tryz.sortStr : Go.Proofs.SlLaysM.n6 Tryz.prog Tryz.sortStr_ren := {
 mixed := by kernel_rfl
 f6 := ⟨Tryz.f203.name, by decide, Tryz.func203.trans (congrArg some (by kernel_rfl))⟩
 f8 := Tryz.func140.trans (congrArg some (by kernel_rfl))
 f9 := ⟨Tryz.f262.name, by decide, Tryz.func262.trans (congrArg some (by kernel_rfl))⟩
 f19 := Tryz.func218.trans (congrArg some (by kernel_rfl))
 f20 := Tryz.func219.trans (congrArg some (by kernel_rfl))
 f21 := ⟨Tryz.f289.name, by decide, Tryz.func289.trans (congrArg some (by kernel_rfl))⟩
 f22 := ⟨Tryz.f290.name, by decide, Tryz.func290.trans (congrArg some (by kernel_rfl))⟩
 f23 := ⟨Tryz.f291.name, by decide, Tryz.func291.trans (congrArg some (by kernel_rfl))⟩
 f24 := ⟨Tryz.f292.name, by decide, Tryz.func292.trans (congrArg some (by kernel_rfl))⟩
 f25 := ⟨Tryz.f293.name, by decide, Tryz.func293.trans (congrArg some (by kernel_rfl))⟩
 f26 := ⟨Tryz.f294.name, by decide, Tryz.func294.trans (congrArg some (by kernel_rfl))⟩
 f27 := ⟨Tryz.f295.name, by decide, Tryz.func295.trans (congrArg some (by kernel_rfl))⟩
 f28 := ⟨Tryz.f296.name, by decide, Tryz.func296.trans (congrArg some (by kernel_rfl))⟩
 f29 := ⟨Tryz.f297.name, by decide, Tryz.func297.trans (congrArg some (by kernel_rfl))⟩
 f31 := Tryz.func269.trans (congrArg some (by kernel_rfl))
 f32 := Tryz.func270.trans (congrArg some (by kernel_rfl))
 f36 := ⟨Tryz.f305.name, by decide, Tryz.func305.trans (congrArg some (by kernel_rfl))⟩
 f37 := ⟨Tryz.f306.name, by decide, Tryz.func306.trans (congrArg some (by kernel_rfl))⟩
 f38 := ⟨Tryz.f307.name, by decide, Tryz.func307.trans (congrArg some (by kernel_rfl))⟩
 f39 := ⟨Tryz.f308.name, by decide, Tryz.func308.trans (congrArg some (by kernel_rfl))⟩
 f41 := ⟨Tryz.f311.name, by decide, Tryz.func311.trans (congrArg some (by kernel_rfl))⟩
 t0 := Tryz.underlying0
 a0 := Tryz.isAgg0
 z0 := Tryz.sizeOf0
 v0 := Tryz.zeroValue0
 t3 := Tryz.underlying3
 a3 := Tryz.isAgg3
 z3 := Tryz.sizeOf3
 v3 := Tryz.zeroValue3
 t4 := Tryz.underlying4
 a4 := Tryz.isAgg4
 z4 := Tryz.sizeOf4
 v4 := Tryz.zeroValue4
 t5 := Tryz.underlying5
 a5 := Tryz.isAgg5
 z5 := Tryz.sizeOf5
 v5 := Tryz.zeroValue5
 t9 := Tryz.underlying9
 a9 := Tryz.isAgg9
 z9 := Tryz.sizeOf9
 v9 := Tryz.zeroValue9
 t26 := Tryz.underlying51
 a26 := Tryz.isAgg51
 z26 := Tryz.sizeOf51
 v26 := Tryz.zeroValue51
 t27 := Tryz.underlying51
 a27 := Tryz.isAgg51
 z27 := Tryz.sizeOf51
 v27 := Tryz.zeroValue51
 t29 := Tryz.underlying9
 a29 := Tryz.isAgg9
 z29 := Tryz.sizeOf9
 v29 := Tryz.zeroValue9
 t32 := Tryz.underlying199
 a32 := Tryz.isAgg199
 z32 := Tryz.sizeOf199
 v32 := Tryz.zeroValue199
 t35 := Tryz.underlying258
 a35 := Tryz.isAgg258
 z35 := Tryz.sizeOf258
 v35 := Tryz.zeroValue258
 t36 := Tryz.underlying259
 a36 := Tryz.isAgg259
 z36 := Tryz.sizeOf259
 v36 := Tryz.zeroValue259
 t41 := Tryz.underlying263
 a41 := Tryz.isAgg263
 z41 := Tryz.sizeOf263
 v41 := Tryz.zeroValue263
 t44 := Tryz.underlying266
 a44 := Tryz.isAgg266
 z44 := Tryz.sizeOf266
 v44 := Tryz.zeroValue266
 t46 := Tryz.underlying176
 a46 := Tryz.isAgg176
 z46 := Tryz.sizeOf176
 v46 := Tryz.zeroValue176
 t53 := Tryz.underlying311
 a53 := Tryz.isAgg311
 z53 := Tryz.sizeOf311
 v53 := Tryz.zeroValue311
 t57 := Tryz.underlying315
 a57 := Tryz.isAgg315
 z57 := Tryz.sizeOf315
 v57 := Tryz.zeroValue315
 t63 := Tryz.underlying332
 a63 := Tryz.isAgg332
 z63 := Tryz.sizeOf332
 v63 := Tryz.zeroValue332
 t64 := Tryz.underlying274
 a64 := Tryz.isAgg274
 z64 := Tryz.sizeOf274
 v64 := Tryz.zeroValue274 }
def Tryz.bldString_ren : Go.Shelf.Ren := ⟨fun | 169 => 259 | n => n, fun | 70 => 296 | 9 => 9 | 0 => 0 | 72 => 299 | 37 => 297 | 127 => 324 | 3 => 3 | 5 => 5 | n => n, fun | n => n⟩
theorem Tryz.bldString : Go.Proofs.Lays.n169 Tryz.prog Tryz.bldString_ren := {
 mixed := by kernel_rfl
 f169 := Tryz.func259.trans (congrArg some (by kernel_rfl))
 t0 := Tryz.underlying0
 a0 := Tryz.isAgg0
 z0 := Tryz.sizeOf0
 v0 := Tryz.zeroValue0
 t3 := Tryz.underlying3
 a3 := Tryz.isAgg3
 z3 := Tryz.sizeOf3
 v3 := Tryz.zeroValue3
 t9 := Tryz.underlying9
 a9 := Tryz.isAgg9
 z9 := Tryz.sizeOf9
 v9 := Tryz.zeroValue9
 t37 := Tryz.underlying297
 a37 := Tryz.isAgg297
 z37 := Tryz.sizeOf297
 v37 := Tryz.zeroValue297
 t70 := Tryz.underlying296
 a70 := Tryz.isAgg296
 z70 := Tryz.sizeOf296
 v70 := Tryz.zeroValue296
 t72 := Tryz.underlying299
 a72 := Tryz.isAgg299
 z72 := Tryz.sizeOf299
 v72 := Tryz.zeroValue299
 t127 := Tryz.underlying324
 a127 := Tryz.isAgg324
 z127 := Tryz.sizeOf324
 v127 := Tryz.zeroValue324 }
def Tryz.sortFArc_ren : Go.Shelf.Ren := ⟨fun | 6 => 73 | 15 => 140 | 14 => 139 | 28 => 218 | 29 => 219 | 20 => 210 | 21 => 211 | 22 => 212 | 23 => 213 | 24 => 214 | 25 => 215 | 26 => 216 | 27 => 217 | 46 => 268 | 47 => 269 | 48 => 270 | 49 => 271 | 50 => 272 | 57 => 299 | n => n, fun | 22 => 29 | 24 => 49 | 25 => 127 | 3 => 3 | 39 => 199 | 0 => 0 | 53 => 266 | 55 => 176 | 4 => 4 | 46 => 259 | 45 => 258 | 50 => 263 | 5 => 5 | 9 => 9 | 66 => 311 | 70 => 315 | 76 => 332 | 77 => 274 | n => n, fun | n => n⟩
theorem Tryz.sortFArc : Go.Proofs.SlLaysF0.n6 Tryz.prog Tryz.sortFArc_ren := {
 mixed := by kernel_rfl
 f6 := ⟨Tryz.f73.name, by decide, Tryz.func73.trans (congrArg some (by kernel_rfl))⟩
 f14 := ⟨Tryz.f139.name, by decide, Tryz.func139.trans (congrArg some (by kernel_rfl))⟩
 f15 := Tryz.func140.trans (congrArg some (by kernel_rfl))
 f20 := ⟨Tryz.f210.name, by decide, Tryz.func210.trans (congrArg some (by kernel_rfl))⟩
 f21 := ⟨Tryz.f211.name, by decide, Tryz.func211.trans (congrArg some (by kernel_rfl))⟩
 f22 := ⟨Tryz.f212.name, by decide, Tryz.func212.trans (congrArg some (by kernel_rfl))⟩
 f23 := ⟨Tryz.f213.name, by decide, Tryz.func213.trans (congrArg some (by kernel_rfl))⟩
 f24 := ⟨Tryz.f214.name, by decide, Tryz.func214.trans (congrArg some (by kernel_rfl))⟩
 f25 := ⟨Tryz.f215.name, by decide, Tryz.func215.trans (congrArg some (by kernel_rfl))⟩
 f26 := ⟨Tryz.f216.name, by decide, Tryz.func216.trans (congrArg some (by kernel_rfl))⟩
 f27 := ⟨Tryz.f217.name, by decide, Tryz.func217.trans (congrArg some (by kernel_rfl))⟩
 f28 := Tryz.func218.trans (congrArg some (by kernel_rfl))
 f29 := Tryz.func219.trans (congrArg some (by kernel_rfl))
 f46 := ⟨Tryz.f268.name, by decide, Tryz.func268.trans (congrArg some (by kernel_rfl))⟩
 f47 := Tryz.func269.trans (congrArg some (by kernel_rfl))
 f48 := Tryz.func270.trans (congrArg some (by kernel_rfl))
 f49 := ⟨Tryz.f271.name, by decide, Tryz.func271.trans (congrArg some (by kernel_rfl))⟩
 f50 := ⟨Tryz.f272.name, by decide, Tryz.func272.trans (congrArg some (by kernel_rfl))⟩
 f57 := ⟨Tryz.f299.name, by decide, Tryz.func299.trans (congrArg some (by kernel_rfl))⟩
 t0 := Tryz.underlying0
 a0 := Tryz.isAgg0
 z0 := Tryz.sizeOf0
 v0 := Tryz.zeroValue0
 t3 := Tryz.underlying3
 a3 := Tryz.isAgg3
 z3 := Tryz.sizeOf3
 v3 := Tryz.zeroValue3
 t4 := Tryz.underlying4
 a4 := Tryz.isAgg4
 z4 := Tryz.sizeOf4
 v4 := Tryz.zeroValue4
 t5 := Tryz.underlying5
 a5 := Tryz.isAgg5
 z5 := Tryz.sizeOf5
 v5 := Tryz.zeroValue5
 t9 := Tryz.underlying9
 a9 := Tryz.isAgg9
 z9 := Tryz.sizeOf9
 v9 := Tryz.zeroValue9
 t22 := Tryz.underlying29
 a22 := Tryz.isAgg29
 z22 := Tryz.sizeOf29
 v22 := Tryz.zeroValue29
 t25 := Tryz.underlying127
 a25 := Tryz.isAgg127
 z25 := Tryz.sizeOf127
 v25 := Tryz.zeroValue127
 t39 := Tryz.underlying199
 a39 := Tryz.isAgg199
 z39 := Tryz.sizeOf199
 v39 := Tryz.zeroValue199
 t45 := Tryz.underlying258
 a45 := Tryz.isAgg258
 z45 := Tryz.sizeOf258
 v45 := Tryz.zeroValue258
 t46 := Tryz.underlying259
 a46 := Tryz.isAgg259
 z46 := Tryz.sizeOf259
 v46 := Tryz.zeroValue259
 t50 := Tryz.underlying263
 a50 := Tryz.isAgg263
 z50 := Tryz.sizeOf263
 v50 := Tryz.zeroValue263
 t53 := Tryz.underlying266
 a53 := Tryz.isAgg266
 z53 := Tryz.sizeOf266
 v53 := Tryz.zeroValue266
 t55 := Tryz.underlying176
 a55 := Tryz.isAgg176
 z55 := Tryz.sizeOf176
 v55 := Tryz.zeroValue176
 t66 := Tryz.underlying311
 a66 := Tryz.isAgg311
 z66 := Tryz.sizeOf311
 v66 := Tryz.zeroValue311
 t70 := Tryz.underlying315
 a70 := Tryz.isAgg315
 z70 := Tryz.sizeOf315
 v70 := Tryz.zeroValue315
 t76 := Tryz.underlying332
 a76 := Tryz.isAgg332
 z76 := Tryz.sizeOf332
 v76 := Tryz.zeroValue332
 t77 := Tryz.underlying274
 a77 := Tryz.isAgg274
 z77 := Tryz.sizeOf274
 v77 := Tryz.zeroValue274 }
def Tryz.sortInt_ren : Go.Shelf.Ren := ⟨fun | 189 => 75 | 125 => 140 | 257 => 144 | 128 => 218 | 129 => 219 | 294 => 221 | 295 => 222 | 296 => 223 | 297 => 224 | 298 => 225 | 299 => 226 | 216 => 227 | 300 => 228 | 301 => 229 | 328 => 273 | 329 => 269 | 330 => 270 | 331 => 274 | 332 => 275 | 215 => 220 | 343 => 300 | n => n, fun | 28 => 28 | 3 => 3 | 46 => 199 | 0 => 0 | 51 => 266 | 53 => 176 | 4 => 4 | 183 => 259 | 182 => 258 | 131 => 263 | 5 => 5 | 9 => 9 | 218 => 311 | 222 => 315 | 228 => 332 | 229 => 274 | n => n, fun | n => n⟩
theorem Tryz.sortInt : Go.Proofs.Lays.n189 Tryz.prog Tryz.sortInt_ren := {
 mixed := by kernel_rfl
 f125 := Tryz.func140.trans (congrArg some (by kernel_rfl))
 f128 := Tryz.func218.trans (congrArg some (by kernel_rfl))
 f129 := Tryz.func219.trans (congrArg some (by kernel_rfl))
 f189 := Tryz.func75.trans (congrArg some (by kernel_rfl))
 f215 := Tryz.func220.trans (congrArg some (by kernel_rfl))
 f216 := Tryz.func227.trans (congrArg some (by kernel_rfl))
 f257 := Tryz.func144.trans (congrArg some (by kernel_rfl))
 f294 := Tryz.func221.trans (congrArg some (by kernel_rfl))
 f295 := Tryz.func222.trans (congrArg some (by kernel_rfl))
 f296 := Tryz.func223.trans (congrArg some (by kernel_rfl))
 f297 := Tryz.func224.trans (congrArg some (by kernel_rfl))
 f298 := Tryz.func225.trans (congrArg some (by kernel_rfl))
 f299 := Tryz.func226.trans (congrArg some (by kernel_rfl))
 f300 := Tryz.func228.trans (congrArg some (by kernel_rfl))
 f301 := Tryz.func229.trans (congrArg some (by kernel_rfl))
 f328 := Tryz.func273.trans (congrArg some (by kernel_rfl))
 f329 := Tryz.func269.trans (congrArg some (by kernel_rfl))
 f330 := Tryz.func270.trans (congrArg some (by kernel_rfl))
 f331 := Tryz.func274.trans (congrArg some (by kernel_rfl))
 f332 := Tryz.func275.trans (congrArg some (by kernel_rfl))
 f343 := Tryz.func300.trans (congrArg some (by kernel_rfl))
 t0 := Tryz.underlying0
 a0 := Tryz.isAgg0
 z0 := Tryz.sizeOf0
 v0 := Tryz.zeroValue0
 t3 := Tryz.underlying3
 a3 := Tryz.isAgg3
 z3 := Tryz.sizeOf3
 v3 := Tryz.zeroValue3
 t4 := Tryz.underlying4
 a4 := Tryz.isAgg4
 z4 := Tryz.sizeOf4
 v4 := Tryz.zeroValue4
 t5 := Tryz.underlying5
 a5 := Tryz.isAgg5
 z5 := Tryz.sizeOf5
 v5 := Tryz.zeroValue5
 t9 := Tryz.underlying9
 a9 := Tryz.isAgg9
 z9 := Tryz.sizeOf9
 v9 := Tryz.zeroValue9
 t28 := Tryz.underlying28
 a28 := Tryz.isAgg28
 z28 := Tryz.sizeOf28
 v28 := Tryz.zeroValue28
 t46 := Tryz.underlying199
 a46 := Tryz.isAgg199
 z46 := Tryz.sizeOf199
 v46 := Tryz.zeroValue199
 t51 := Tryz.underlying266
 a51 := Tryz.isAgg266
 z51 := Tryz.sizeOf266
 v51 := Tryz.zeroValue266
 t53 := Tryz.underlying176
 a53 := Tryz.isAgg176
 z53 := Tryz.sizeOf176
 v53 := Tryz.zeroValue176
 t131 := Tryz.underlying263
 a131 := Tryz.isAgg263
 z131 := Tryz.sizeOf263
 v131 := Tryz.zeroValue263
 t182 := Tryz.underlying258
 a182 := Tryz.isAgg258
 z182 := Tryz.sizeOf258
 v182 := Tryz.zeroValue258
 t183 := Tryz.underlying259
 a183 := Tryz.isAgg259
 z183 := Tryz.sizeOf259
 v183 := Tryz.zeroValue259
 t218 := Tryz.underlying311
 a218 := Tryz.isAgg311
 z218 := Tryz.sizeOf311
 v218 := Tryz.zeroValue311
 t222 := Tryz.underlying315
 a222 := Tryz.isAgg315
 z222 := Tryz.sizeOf315
 v222 := Tryz.zeroValue315
 t228 := Tryz.underlying332
 a228 := Tryz.isAgg332
 z228 := Tryz.sizeOf332
 v228 := Tryz.zeroValue332
 t229 := Tryz.underlying274
 a229 := Tryz.isAgg274
 z229 := Tryz.sizeOf274
 v229 := Tryz.zeroValue274 }
def Tryz.keysM_ren : Go.Shelf.Ren := ⟨fun | 7 => 130 | 10 => 204 | n => n, fun | 23 => 190 | 26 => 9 | 3 => 3 | 28 => 188 | 0 => 0 | 27 => 187 | 33 => 247 | 4 => 4 | n => n, fun | n => n⟩
theorem Tryz.keysM : Go.Proofs.SlLaysZ.n7 Tryz.prog Tryz.keysM_ren := {
 mixed := by kernel_rfl
 f7 := ⟨Tryz.f130.name, by decide, Tryz.func130.trans (congrArg some (by kernel_rfl))⟩
 f10 := ⟨Tryz.f204.name, by decide, Tryz.func204.trans (congrArg some (by kernel_rfl))⟩
 t0 := Tryz.underlying0
 a0 := Tryz.isAgg0
 z0 := Tryz.sizeOf0
 v0 := Tryz.zeroValue0
 t4 := Tryz.underlying4
 a4 := Tryz.isAgg4
 z4 := Tryz.sizeOf4
 v4 := Tryz.zeroValue4
 t23 := Tryz.underlying190
 a23 := Tryz.isAgg190
 z23 := Tryz.sizeOf190
 v23 := Tryz.zeroValue190
 t26 := Tryz.underlying9
 a26 := Tryz.isAgg9
 z26 := Tryz.sizeOf9
 v26 := Tryz.zeroValue9
 t27 := Tryz.underlying187
 a27 := Tryz.isAgg187
 z27 := Tryz.sizeOf187
 v27 := Tryz.zeroValue187
 t28 := Tryz.underlying188
 a28 := Tryz.isAgg188
 z28 := Tryz.sizeOf188
 v28 := Tryz.zeroValue188
 t33 := Tryz.underlying247
 a33 := Tryz.isAgg247
 z33 := Tryz.sizeOf247
 v33 := Tryz.zeroValue247 }
def Tryz.sortedM_ren : Go.Shelf.Ren := ⟨fun | 6 => 129 | 8 => 202 | 9 => 203 | 11 => 261 | 13 => 140 | 12 => 262 | 23 => 218 | 24 => 219 | 14 => 289 | 15 => 290 | 16 => 291 | 17 => 292 | 18 => 293 | 19 => 294 | 20 => 295 | 21 => 296 | 22 => 297 | 25 => 305 | 26 => 269 | 27 => 270 | 28 => 306 | 29 => 307 | 30 => 308 | 31 => 311 | n => n, fun | 26 => 9 | 28 => 188 | 24 => 51 | 0 => 0 | 3 => 3 | 37 => 199 | 48 => 266 | 50 => 176 | 4 => 4 | 40 => 259 | 39 => 258 | 45 => 263 | 5 => 5 | 9 => 9 | 51 => 311 | 55 => 315 | 57 => 332 | 58 => 274 | 33 => 247 | n => n, fun | n => n⟩
theorem Tryz.sortedM : Go.Proofs.SlLaysZ.n6 Tryz.prog Tryz.sortedM_ren := {
 mixed := by kernel_rfl
 f6 := ⟨Tryz.f129.name, by decide, Tryz.func129.trans (congrArg some (by kernel_rfl))⟩
 f8 := ⟨Tryz.f202.name, by decide, Tryz.func202.trans (congrArg some (by kernel_rfl))⟩
 f11 := ⟨Tryz.f261.name, by decide, Tryz.func261.trans (congrArg some (by kernel_rfl))⟩
 t0 := Tryz.underlying0
 a0 := Tryz.isAgg0
 z0 := Tryz.sizeOf0
 v0 := Tryz.zeroValue0
 t24 := Tryz.underlying51
 a24 := Tryz.isAgg51
 z24 := Tryz.sizeOf51
 v24 := Tryz.zeroValue51
 t26 := Tryz.underlying9
 a26 := Tryz.isAgg9
 z26 := Tryz.sizeOf9
 v26 := Tryz.zeroValue9
 t28 := Tryz.underlying188
 a28 := Tryz.isAgg188
 z28 := Tryz.sizeOf188
 v28 := Tryz.zeroValue188
 i26 := by kernel_rfl }
def Tryz.growI_ren : Go.Shelf.Ren := ⟨fun | 4 => 209 | n => n, fun | 22 => 28 | 25 => 3 | 3 => 3 | 4 => 4 | 9 => 9 | 20 => 20 | 0 => 0 | n => n, fun | n => n⟩
theorem Tryz.growI : Go.Proofs.Lays8.n4 Tryz.prog Tryz.growI_ren := {
 mixed := by kernel_rfl
 f4 := ⟨Tryz.f209.name, by decide, Tryz.func209.trans (congrArg some (by kernel_rfl))⟩
 t0 := Tryz.underlying0
 a0 := Tryz.isAgg0
 z0 := Tryz.sizeOf0
 v0 := Tryz.zeroValue0
 t3 := Tryz.underlying3
 a3 := Tryz.isAgg3
 z3 := Tryz.sizeOf3
 v3 := Tryz.zeroValue3
 t4 := Tryz.underlying4
 a4 := Tryz.isAgg4
 z4 := Tryz.sizeOf4
 v4 := Tryz.zeroValue4
 t9 := Tryz.underlying9
 a9 := Tryz.isAgg9
 z9 := Tryz.sizeOf9
 v9 := Tryz.zeroValue9
 t20 := Tryz.underlying20
 a20 := Tryz.isAgg20
 z20 := Tryz.sizeOf20
 v20 := Tryz.zeroValue20
 t22 := Tryz.underlying28
 a22 := Tryz.isAgg28
 z22 := Tryz.sizeOf28
 v22 := Tryz.zeroValue28 }
end Go.Proofs
end

section

end

section
set_option linter.unusedSectionVars false
/- The data machine, second make, part Y: slices.SortFunc at structs, by the shelf's contract, as a contract on own rows. -/


set_option linter.unusedSimpArgs false
set_option linter.unusedVariables false
namespace Go.Dm
variable [DMode]
open Go.Shelf Go.Sort Go.Proofs

theorem upd_grow {w w' : World} (h : @Upd tapeMode [] w w') : ∃ q os, w' = grow (w.drewN q) os := by
 refine ⟨w'.drawn - w.drawn, w'.heap.extract w.heap.size w'.heap.size, ?_⟩
 obtain ⟨heap, tape, drawn, os, output⟩ := w'
 obtain ⟨h1, h2, h3, h4, h5, h6⟩ := h
 simp only at h1 h2 h3 h4 h5 h6 ⊢
 replace h4 := h4 rfl
 subst h1; subst h2; subst h3
 have e1 : w.heap ++ heap.extract w.heap.size heap.size = heap := by
  apply Array.ext_getElem?
  intro i
  by_cases hi : i < w.heap.size
  ·rw [Array.getElem?_append_left hi, ← h6 i hi (by simp)]
  ·rw [Array.getElem?_append_right (by omega), Array.getElem?_extract]
   by_cases hi2 : i < heap.size
   ·rw [if_pos (by omega)]
    congr 1
    omega
   ·rw [if_neg (by omega), Array.getElem?_eq_none (by omega)]
 have e2 : w.drawn + (drawn - w.drawn) = drawn := by omega
 simp [grow, World.drewN, e1, e2]

section
variable {P : Program} {ρ : Ren} {g : FuncId} {et k cap b : Nat} {cs : List DVal} {cs' : Array Value} {cf : List DVal → List DVal → Int} {es es' : List (List DVal)} {cu0 : Cur} {M1 : List Nat} {w : World} {arr : Array Value}

theorem sortWorld_at {α : Type} [Inhabited α] (enc : α → List Value) (p3 : w.heap[b]? = some (.cells arr et (0, 0))) (m : Nat) (os : Array Obj) (dk : Array α) :
  (sortWorldK enc k w b 0 m dk os).heap[b]? = some (.cells (putCells id 0 (flatK enc k dk) arr) et (0, 0)) ∧ (∀ q, q < w.heap.size → q ≠ b → (sortWorldK enc k w b 0 m dk os).heap[q]? = w.heap[q]?) ∧ w.heap.size ≤ (sortWorldK enc k w b 0 m dk os).heap.size ∧
   (sortWorldK enc k w b 0 m dk os).os = w.os ∧ (sortWorldK enc k w b 0 m dk os).tape = w.tape ∧ (sortWorldK enc k w b 0 m dk os).output = w.output ∧ w.drawn ≤ (sortWorldK enc k w b 0 m dk os).drawn := by
 have hblk : b < w.heap.size := (Array.getElem?_eq_some_iff.1 p3).1
 refine ⟨?_, fun q hq hqb => ?_, ?_, rfl, rfl, rfl, Nat.le_add_right _ _⟩
 ·simp only [sortWorldK, grow, putRowK, putRow, mapBlock, ahead]
  rw [Array.getElem?_append_left (by simpa using hblk), Array.getElem?_modify]
  simp [p3, onCells]
 ·simp only [sortWorldK, grow, putRowK, putRow, mapBlock, ahead]
  rw [Array.getElem?_append_left (by simpa using hq), Array.getElem?_modify]
  rw [if_neg (fun h => hqb h.symm)]
  rfl
 ·simp [sortWorldK, grow, putRowK, putRow, mapBlock, ahead]

theorem putCells_at {α : Type} [Inhabited α] {enc : α → List Value} (hlen : ∀ x, (enc x).length = k) {dk : Array α} {i p : Nat} (hi : i < dk.size) (hp : p < k) (hsz : dk.size * k ≤ arr.size) :
  (putCells id 0 (flatK enc k dk) arr)[i * k + p]? = (enc dk[i]!)[p]? := by
 have hrow := mul_lt_row (k := k) hi
 have hlt : i * k + p < arr.size := by omega
 have hdiv : (i * k + p) / k = i := by
  rw [Nat.mul_comm, Nat.mul_add_div (by omega), Nat.div_eq_of_lt hp]; omega
 have hmod : (i * k + p) % k = p := by rw [Nat.mul_comm, Nat.mul_add_mod]; exact Nat.mod_eq_of_lt hp
 have hlf : i * k + p < dk.size * k := by omega
 have hpe : p < (enc dk[i]!).length := by rw [hlen]; exact hp
 simp only [putCells, Nat.zero_add, Array.getElem?_mapIdx, Array.getElem?_eq_getElem hlt, Option.map_some, Nat.zero_le, true_and, size_flatK, hlf, if_true, Nat.sub_zero, id]
 rw [get_flatK _ _ _ _ hlf, hdiv, hmod, getElem!_pos (enc dk[i]!) p hpe, List.getElem?_eq_getElem hpe]

theorem sort_core {α : Type} [Inhabited α] (L : SlLaysF0.n6 P ρ) (dt : α → List DVal) (enc : α → List Value) (d : Array α) (hag : tAgg P (ρ.t 24) = some true) (hcl : tCells P (ρ.t 24) = some k) (hcs : mxL cs = 0) (hes : ∀ x ∈ es, mxL x = 0)
  (hdt : ∀ x, dt x ∈ es) (hdk : ∀ x, (dt x).length = k) (hrd : ∀ x, rdV cu0 M1 w.heap (dt x) (enc x)) (hone : ∀ x, ∀ u ∈ enc x, u.oneCell' = true) (hdsz : d.size = es.length)
  (hd : ∀ i (hi : i < es.length), dt d[i]! = es[i] ∧ ∀ (q : Nat) (v : Value), (enc d[i]!)[q]? = some v → arr[i * k + q]? = some v)
  (p3 : w.heap[b]? = some (.cells arr et (0, 0))) (hcap : es.length * k ≤ arr.size) (hbM : b ∈ M1) (hMlt : ∀ q ∈ M1, q < w.heap.size) (hcsr : rdV cu0 M1 w.heap cs cs'.toList) (hlt : es.length < 4611686018427387904)
  (hg : Enters P g) (hcmp : ∀ x ∈ es, ∀ y ∈ es, @DPure tapeMode P g (.agg x :: .agg y :: cs) (.int .i64 (cf x y)))
  (hirr : ∀ x ∈ es, ¬ cf x x < 0) (htr : ∀ x ∈ es, ∀ y ∈ es, ∀ z ∈ es, cf x y < 0 → cf y z < 0 → cf x z < 0) (hnt : ∀ x ∈ es, ∀ y ∈ es, ∀ z ∈ es, ¬ cf x y < 0 → ¬ cf y z < 0 → ¬ cf x z < 0)
  (huniq : ∀ l : List (List DVal), l.Perm es → l.Pairwise (fun x y => ¬ cf y x < 0) → l = es') :
  Calls P (ρ.f 6) #[.slice (some ⟨b, 0, none⟩) es.length cap, .func (.func g) #[] cs'] w fun e w' => e = .returned (.tuple #[]) ∧ es'.length = es.length ∧ Upd [b] w w' ∧
   ∃ arr', w'.heap[b]? = some (.cells arr' et (0, 0)) ∧ arr'.size = arr.size ∧ ∀ cur M2, (∀ q ∈ M2, q ∈ M1) → rdR cur M2 w'.heap k es' arr' 0 := by
 have hlen : ∀ x : α, (enc x).length = k := fun x => by
  have := rdV_length _ _ (hrd x)
  have := hdk x
  omega
 have hO : SWO (ltOf fun x y : α => cf (dt x) (dt y)) := by
  refine ⟨fun x => ?_, fun x y z h1 h2 => ?_, fun x y z h1 h2 => ?_⟩
  ·simp only [ltOf, decide_eq_false_iff_not]; exact hirr _ (hdt x)
  ·simp only [ltOf, decide_eq_true_eq] at *; exact htr _ (hdt x) _ (hdt y) _ (hdt z) h1 h2
  ·simp only [ltOf, decide_eq_false_iff_not] at *; exact hnt _ (hdt x) _ (hdt y) _ (hdt z) h1 h2
 have hH : HoldsK enc k w b 0 d := by
  intro j hj
  rw [size_flatK, hdsz] at hj
  have hk0 : 0 < k := by
   rcases Nat.eq_zero_or_pos k with h | h
   ·subst h; simp at hj
   ·exact h
  have hi : j / k < es.length := by rw [Nat.div_lt_iff_lt_mul hk0]; exact hj
  have hq : j % k < k := Nat.mod_lt _ hk0
  rw [get_flatK _ _ _ _ (by rw [hdsz]; exact hj)]
  have hq' : j % k < (enc d[j / k]!).length := by rw [hlen]; exact hq
  have hcell := (hd _ hi).2 (j % k) _ (List.getElem?_eq_getElem hq')
  rw [Nat.mul_comm, Nat.div_add_mod] at hcell
  rw [getElem!_pos (enc d[j / k]!) _ hq']
  exact ⟨by simp only [World.cell?, p3, Nat.zero_add, id]; exact hcell, by simp [World.frozen?, p3]⟩
 have hblk : b < w.heap.size := (Array.getElem?_eq_some_iff.1 p3).1
 have Wk : ∀ m os (dk : Array α) (cur : Cur) (M2 : List Nat), (∀ q ∈ M2, q ∈ M1) → Weak cu0 cur M1 M2 w.heap (sortWorldK enc k w b 0 m dk os).heap 0 := by
  intro m os dk cur M2 hM2
  have hW := sortWorld_at (et := et) (arr := arr) (k := k) enc p3 m os dk
  exact ⟨fun _ _ _ h => by omega, fun q o hq (_ : isD o = true) ho => by rw [hW.2.1 q (Array.getElem?_eq_some_iff.1 ho).1 (fun h => hq (h ▸ hbM))]; exact ho, fun q o hq (_ : isD o = true) _ hm => hq (hM2 q hm)⟩
 have hC : CmpLays P g cs' enc k (fun x y : α => cf (dt x) (dt y)) b 0 d.size w := by
  intro m os dk _ x y
  have hD := hcmp _ (hdt x) _ (hdt y)
  have hW := sortWorld_at (et := et) (arr := arr) (k := k) enc p3 m os dk
  have hx := rdV_weak (Wk m os dk (fun _ _ => none) M1 (fun _ h => h)) _ _ (Nat.le_of_eq (hes _ (hdt x))) (hrd x)
  have hy := rdV_weak (Wk m os dk (fun _ _ => none) M1 (fun _ h => h)) _ _ (Nat.le_of_eq (hes _ (hdt y))) (hrd y)
  have hc := rdV_weak (Wk m os dk (fun _ _ => none) M1 (fun _ h => h)) _ _ (Nat.le_of_eq hcs) hcsr
  obtain ⟨X, hX⟩ : ∃ X, X = (enc x).toArray := ⟨_, rfl⟩
  obtain ⟨Y, hY⟩ : ∃ Y, Y = (enc y).toArray := ⟨_, rfl⟩
  simp only [← hX, ← hY]
  generalize sortWorldK enc k w b 0 m dk os = V at hW hx hy hc ⊢
  have key := hD.2.2 (fun _ _ => none) M1 V (#[.agg X, .agg Y] ++ cs') (fun q hq => Nat.lt_of_lt_of_le (hMlt q hq) hW.2.2.1)
  refine (key ?_).mono ?_
  ·have e1 : (#[Value.agg X, Value.agg Y] ++ cs').toList = Value.agg X :: Value.agg Y :: cs'.toList := by simp
   rw [e1]
   simp only [rdV]
   refine ⟨_, _, rfl, ?_, _, _, rfl, ?_, hc⟩
   ·simp only [rd]; exact ⟨_, rfl, by rw [hX]; exact hx⟩
   ·simp only [rd]; exact ⟨_, rfl, by rw [hY]; exact hy⟩
  ·rintro e w' ⟨v, rfl, hu, hv⟩
   simp only [rd] at hv
   exact ⟨by rw [hv.1], upd_grow hu⟩
 have hrun := AnyQ.slices_SortFunc L k (run_isAgg hag) (run_sizeOf' hcl) enc hlen hone (fun x y : α => cf (dt x) (dt y)) hO g cs' b 0 cap d w hg hC hH hblk (by omega)
 rw [hdsz] at hrun
 refine hrun.mono ?_
 rintro e w' ⟨rfl, d', n, os, hP, hS, rfl⟩
 obtain ⟨hsz', _, hperm⟩ := hP
 rw [hdsz] at hsz'
 have e1 : d'.extract 0 es.length = d' := by rw [← hsz']; exact Array.extract_size
 have e2 : d.extract 0 es.length = d := by rw [← hdsz]; exact Array.extract_size
 rw [e1, e2] at hperm
 have hdes : d.toList.map dt = es := by
  apply List.ext_getElem
  ·simp [hdsz]
  ·intro i h1 h2
   have := (hd i h2).1
   rw [getElem!_pos d i (by omega)] at this
   simpa using this
 have hdata : d'.toList.map dt = es' := by
  refine huniq _ ?_ ?_
  ·have := hperm.map dt
   rwa [hdes] at this
  ·rw [List.pairwise_map, List.pairwise_iff_getElem]
   intro i j hi hj hij
   have hi' : i < d'.size := by simpa using hi
   have hj' : j < d'.size := by simpa using hj
   have := hS i j (Nat.zero_le _) hij (by omega)
   rw [getElem!_pos d' j hj', getElem!_pos d' i hi'] at this
   simpa [ltOf] using this
 have hlen' : es'.length = es.length := by rw [← hdata]; simp [hsz']
 obtain ⟨q1, q2, q3, q4, q5, q6, q7⟩ := sortWorld_at (et := et) (arr := arr) (k := k) enc p3 n os d'
 refine ⟨rfl, hlen', ⟨q4, q5, q6, fun _ => q7, q3, fun q hq hn => q2 q hq (fun h => hn (by simp [h]))⟩, _, q1, by simp [putCells], fun cur M2 hM2 => ?_⟩
 refine rdR_mk _ _ _ _ fun i cs0 hi => ?_
 have hil : i < es'.length := (List.getElem?_eq_some_iff.1 hi).1
 have hid : i < d'.size := by omega
 have hcs0 : cs0 = dt d'[i]! := by
  rw [← hdata, List.getElem?_map] at hi
  rw [getElem!_pos d' i hid]
  simp [hid] at hi
  exact hi.symm
 subst hcs0
 refine ⟨hdk _, ?_⟩
 have hv := rdV_weak (Wk n os d' cur M2 hM2) _ _ (Nat.le_of_eq (hes _ (hdt _))) (hrd d'[i]!)
 have h0 := rdC_of _ _ [] [] hv (hone _)
 refine rdC_same _ _ _ _ _ (fun p hp => ?_) h0
 have hp' : p < k := by rw [hdk] at hp; exact hp
 rw [Nat.zero_add, putCells_at hlen hid hp' (by rw [hsz']; exact hcap)]
 simp
end

theorem sort_spec {P : Program} {ρ : Ren} (L : SlLaysF0.n6 P ρ) {f g : FuncId} {et k bs : Nat} {cs : List DVal} {cf : List DVal → List DVal → Int} {es es' : List (List DVal)} (hf : ρ.f 6 = f) (hen : Enters P f) (hag : tAgg P (ρ.t 24) = some true) (hcl : tCells P (ρ.t 24) = some k)
  (hbs0 : 0 < bs) (hcs : mxL cs = 0) (hes : ∀ x ∈ es, mxL x = 0) (hg : Enters P g) (hcmp : ∀ x ∈ es, ∀ y ∈ es, @DPure tapeMode P g (.agg x :: .agg y :: cs) (.int .i64 (cf x y)))
  (hirr : ∀ x ∈ es, ¬ cf x x < 0) (htr : ∀ x ∈ es, ∀ y ∈ es, ∀ z ∈ es, cf x y < 0 → cf y z < 0 → cf x z < 0) (hnt : ∀ x ∈ es, ∀ y ∈ es, ∀ z ∈ es, ¬ cf x y < 0 → ¬ cf y z < 0 → ¬ cf x z < 0)
  (huniq : ∀ l : List (List DVal), l.Perm es → l.Pairwise (fun x y => ¬ cf y x < 0) → l = es') :
  DSpec P (.func f) [.osl 0 0, .fn (.func g) [] cs] [⟨0, 0, .row et k bs es⟩] (.tup []) [⟨0, 0, .row et k bs es'⟩] := by
 refine ⟨by simp, hen, fun M w loc vs S hr => ?_⟩
 refine ⟨hen, ?_⟩
 simp only [rdV] at hr
 obtain ⟨v0, r0, hvs, h0, v1, r1, rfl, h1, rfl⟩ := hr
 simp only [rd] at h0 h1
 obtain ⟨us', cs', rfl, hus, hcsr⟩ := h1
 simp only [rdV] at hus
 have hus' : us' = #[] := by cases us'; simpa using hus
 subst hus'
 have hcur0 : curOf [(⟨0, 0, .row et k bs es⟩ : Ent)] loc 0 0 = some (loc 0) := rfl
 have hv0 := h0 _ hcur0
 have hvs' : vs = #[v0, .func (.func g) #[] cs'] := by cases vs; simpa using hvs
 subst hvs'
 subst hf
 have hhot : hotOf [(⟨0, 0, .row et k bs es⟩ : Ent)] loc = (loc 0).blks := by simp [hotOf]
 have hhot' : hotOf [(⟨0, 0, .row et k bs es'⟩ : Ent)] loc = (loc 0).blks := by simp [hotOf]
 have htup : ∀ cur M h, rd cur M h (.tup []) (.tuple #[]) := fun _ _ _ => by simp only [rd]; exact ⟨#[], rfl, by simp [rdV]⟩
 have hk := S.ok ⟨0, 0, .row et k bs es⟩ (by simp)
 by_cases hne : es = []
 ·subst hne
  have hes' : es' = [] := (huniq [] (List.Perm.refl _) List.Pairwise.nil).symm
  subst hes'
  obtain ⟨a, cap, hh⟩ : ∃ a cap, (loc 0).hdr = .slice a 0 cap := by
   obtain ⟨_, ⟨_, _, h2⟩ | ⟨b, arr, cap, _, h2, _⟩⟩ := hk
   ·exact ⟨_, _, h2⟩
   ·exact ⟨_, _, h2⟩
  rw [hh] at hv0
  subst hv0
  refine (AnyF.slices_SortFunc_none { L with } a cap (.func (.func g) #[] cs') w).mono ?_
  rintro e w' ⟨rfl, rfl⟩
  exact ⟨_, rfl, loc, S, Upd.refl _ _, fun b hb => .inl hb, fun e he _ => curOf_self S.nd he, htup _ _ _⟩
 ·obtain ⟨b, arr, cap, p1, p2, p3, p4, p5, p6, p7⟩ : ∃ b arr cap, (loc 0).blks = [b] ∧ (loc 0).hdr = .slice (some ⟨b, 0, none⟩) es.length cap ∧ w.heap[b]? = some (.cells arr et (0, 0)) ∧ es.length ≤ cap ∧ cap ≤ maxLen ∧ cap * k = arr.size ∧ rdR (curOf [(⟨0, 0, .row et k bs es⟩ : Ent)] loc) (hotOf [(⟨0, 0, .row et k bs es⟩ : Ent)] loc ++ M) w.heap k es arr 0 := by
   obtain ⟨_, ⟨h, _⟩ | h⟩ := hk
   ·exact absurd h hne
   ·exact h
  have hbs := hk.1
  rw [p2] at hv0
  subst hv0
  obtain ⟨cu0, hcu0⟩ : ∃ c, c = curOf [(⟨0, 0, .row et k bs es⟩ : Ent)] loc := ⟨_, rfl⟩
  obtain ⟨M1, hM1⟩ : ∃ m, m = hotOf [(⟨0, 0, .row et k bs es⟩ : Ent)] loc ++ M := ⟨_, rfl⟩
  rw [← hcu0, ← hM1] at p7 hcsr
  have hbM : b ∈ M1 := by rw [hM1, hhot, p1]; simp
  have hMlt : ∀ q ∈ M1, q < w.heap.size := by rw [hM1]; exact S.lt
  have hcap : es.length * k ≤ arr.size := by rw [← p6]; exact Nat.mul_le_mul_right _ p4
  have hpos : 0 < es.length := List.length_pos_iff.2 hne
  have hel : ∀ i : Fin es.length, ∃ us : List Value, rdV cu0 M1 w.heap es[i.1] us ∧ (∀ u ∈ us, u.oneCell' = true) ∧ ∀ (q : Nat) (v : Value), us[q]? = some v → arr[i.1 * k + q]? = some v := by
   intro i
   obtain ⟨q1, q2⟩ := rdR_at k es arr 0 i.1 es[i.1] p7 (List.getElem?_eq_getElem i.2)
   obtain ⟨us, g1, g2, g3⟩ := rdC_vals _ _ _ q2
   refine ⟨us, g2, fun u hu => ?_, fun q v hq => ?_⟩
   ·obtain ⟨j, hj, rfl⟩ := List.getElem_of_mem hu
    exact (g3 j _ (List.getElem?_eq_getElem hj)).2
   ·have := (g3 q v hq).1
    simpa using this
  haveI : Inhabited (Fin es.length) := ⟨⟨0, hpos⟩⟩
  have hlt : es.length < 4611686018427387904 := by
   have h1 : es.length * 1 ≤ es.length * bs := Nat.mul_le_mul_left _ hbs0
   have h2 : es.length * bs ≤ 150000000000000 := hbs
   omega
  have hd : ∀ i (hi : i < es.length), (Array.ofFn (fun i : Fin es.length => i))[i]! = ⟨i, hi⟩ := by
   intro i hi
   rw [getElem!_pos _ i (by simpa using hi)]
   simp
  refine (sort_core (et := et) (α := Fin es.length) L (fun i => es[i.1]) (fun i => (hel i).choose) (Array.ofFn fun i => i) hag hcl hcs hes (fun i => List.getElem_mem _) (fun i => (rdR_at k es arr 0 i.1 es[i.1] p7 (List.getElem?_eq_getElem i.2)).1) (fun i => (hel i).choose_spec.1) (fun i => (hel i).choose_spec.2.1) (by simp)
   (fun i hi => by rw [hd i hi]; exact ⟨rfl, (hel ⟨i, hi⟩).choose_spec.2.2⟩) p3 hcap hbM hMlt hcsr hlt hg hcmp hirr htr hnt huniq).mono ?_
  rintro e w' ⟨rfl, hlen', hu, arr', r1, r2, r3⟩
  have hM2 : hotOf [(⟨0, 0, .row et k bs es'⟩ : Ent)] loc ++ M = M1 := by rw [hM1, hhot, hhot']
  refine ⟨_, rfl, loc, ⟨by simp, by rw [hhot', p1]; simp, fun q hq => S.ap q (by rw [hhot]; rwa [hhot'] at hq), fun q hq => ?_, ?_⟩, by rw [hhot, p1]; exact hu, fun q hq => .inl (by rw [hhot]; rwa [hhot'] at hq), ?_, htup _ _ _⟩
  ·rw [hM2] at hq; exact Nat.lt_of_lt_of_le (hMlt q hq) hu.size
  ·intro e he
   simp only [List.mem_singleton] at he
   subst he
   rw [hM2]
   exact ⟨by rw [hlen']; exact hbs, .inr ⟨b, arr', cap, p1, by rw [hlen']; exact p2, r1, by omega, p5, by omega, r3 _ _ fun _ h => h⟩⟩
  ·intro e he _
   simp only [List.mem_singleton] at he
   subst he
   exact hcur0
end Go.Dm
end

section
set_option linter.unusedSectionVars false
/- The data machine, second make, part St: slices.Sort at texts, strings.Compare, by the shelf's contracts. -/





set_option linter.unusedSimpArgs false
set_option linter.unusedVariables false
namespace Go.Dm
variable [DMode]
open Go.Shelf Go.Sort Go.Proofs Go.RowKit

def ssort (l : List ByteArray) : List ByteArray := ((l.map fun s => s.data.toList).mergeSort fun x y => decide (x ≤ y)).map fun x => ⟨x.toArray⟩
theorem ssort_len (l : List ByteArray) : (ssort l).length = l.length := by simp [ssort]

theorem putRow_at {α : Type} [Inhabited α] (enc : α → Value) {w : World} {b et : Nat} {arr : Array Value} (p3 : w.heap[b]? = some (.cells arr et (0, 0))) (m : Nat) (os : Array Obj) (dk : Array α) :
  (grow (putRow enc (Sort.ahead w m) b 0 dk) os).heap[b]? = some (.cells (putCells enc 0 dk arr) et (0, 0)) ∧ (∀ q, q < w.heap.size → q ≠ b → (grow (putRow enc (Sort.ahead w m) b 0 dk) os).heap[q]? = w.heap[q]?) ∧ w.heap.size ≤ (grow (putRow enc (Sort.ahead w m) b 0 dk) os).heap.size ∧
   (grow (putRow enc (Sort.ahead w m) b 0 dk) os).os = w.os ∧ (grow (putRow enc (Sort.ahead w m) b 0 dk) os).tape = w.tape ∧ (grow (putRow enc (Sort.ahead w m) b 0 dk) os).output = w.output ∧ w.drawn ≤ (grow (putRow enc (Sort.ahead w m) b 0 dk) os).drawn := by
 have hblk : b < w.heap.size := (Array.getElem?_eq_some_iff.1 p3).1
 refine ⟨?_, fun q hq hqb => ?_, ?_, rfl, rfl, rfl, Nat.le_add_right _ _⟩
 ·simp only [grow, putRow, mapBlock, Sort.ahead]
  rw [Array.getElem?_append_left (by simpa using hblk), Array.getElem?_modify]
  simp [p3, onCells]
 ·simp only [grow, putRow, mapBlock, Sort.ahead]
  rw [Array.getElem?_append_left (by simpa using hq), Array.getElem?_modify]
  rw [if_neg (fun h => hqb h.symm)]
 ·simp [grow, putRow, mapBlock, Sort.ahead]

end Go.Dm
end

section
set_option linter.unusedSectionVars false
/- strings.Builder, strings.Compare, slices.Sort at texts -/







set_option linter.unusedSimpArgs false
set_option linter.unusedVariables false
namespace Go.Proofs.YtdgocjbakjamaaaGreat
open Go Go.Dm Go.RowKit Go.Proofs
variable [DMode]
set_option maxRecDepth 100000

set_option maxHeartbeats 1000000 in
theorem copyCheck_first (b n : Nat) (w : World) (h0 : w.cell? ⟨b, 0, none⟩ = some (.pointer none)) (hsh : w.shape? b = some (299, n)) (hn : 0 < n) (hl : liesAt Tryz.prog Tryz.prog.depth 299 (n / Tryz.prog.cellsOf 299) 0 299 1 = true) (hfz : w.frozen? ⟨b, 0, none⟩ = false) :
  Calls Tryz.prog 288 #[.pointer (some ⟨b, 0, none⟩)] w fun e w' => e = .returned (.tuple #[]) ∧ w' = w.setCell ⟨b, 0, none⟩ (.pointer (some ⟨b, 0, none⟩)) := by
 obtain ⟨j, hj, hjs⟩ : ∃ j, Tryz.prog.info? 299 = some j ∧ j.size = 2 := Option.map_eq_some_iff.1 (show (Tryz.prog.info? 299).map (·.size) = some 2 by kernel_rfl)
 go_enter Tryz.func288, Tryz.ntmps288
 go_wp2
 rw [Lib.run_to_unsafe w ⟨b, 0, none⟩ Tryz.underlying296 Tryz.underlying337 hj (by rw [hjs]; decide) hsh hn]
 simp only [Result.andThen]
 rw [Oper.upon_value]
 go_wp2
 rw [run_callFunc_extern Tryz.func304 (by kernel_rfl) (by kernel_rfl) (by kernel_rfl) (e := Extern.AbiNoEscape.same) (by kernel_rfl)]
 rw [Lib.run_noEscape]
 simp only [Result.andThen]
 rw [Oper.upon_value]
 go_wp2
 rw [Lib.run_from_unsafe w ⟨b, 0, none⟩ Tryz.underlying337 Tryz.underlying296 hj hsh hl]
 simp only [Result.andThen]
 rw [Oper.upon_value]
 go_wp2
 go_end0
 exact ⟨rfl, rfl⟩
set_option maxHeartbeats 1000000 in
theorem copyCheck_used (b : Nat) (w : World) (h0 : w.cell? ⟨b, 0, none⟩ = some (.pointer (some ⟨b, 0, none⟩))) :
  Calls Tryz.prog 288 #[.pointer (some ⟨b, 0, none⟩)] w fun e w' => e = .returned (.tuple #[]) ∧ w' = w := by
 obtain ⟨j, hj, hjs⟩ : ∃ j, Tryz.prog.info? 299 = some j ∧ j.size = 2 := Option.map_eq_some_iff.1 (show (Tryz.prog.info? 299).map (·.size) = some 2 by kernel_rfl)
 go_enter Tryz.func288, Tryz.ntmps288
 go_wp2
 rw [Lib.run_neq_ptr_same w _ Tryz.underlying296 hj]
 go_wp2
 go_end0
 exact ⟨rfl, rfl⟩

attribute [local irreducible] DW callP callS

theorem checkFirst_spec : DSpec Tryz.prog (.func 288) [.rx 0 0 2 0 0] [⟨0, 0, .row 299 2 32 [[.nilp, .nilsl]]⟩] (.tup []) [⟨0, 0, .row 299 2 32 [[.rx 0 0 2 0 0, .nilsl]]⟩] :=
 copyCheck_spec1 (by show ¬ _; exact of_decide_eq_true (by kernel_rfl)) (by kernel_rfl) Tryz.call288 32 copyCheck_first
theorem checkUsed_spec (x : ByteArray) : DSpec Tryz.prog (.func 288) [.rx 0 0 2 0 0] [⟨0, 0, .row 299 2 32 [[.rx 0 0 2 0 0, .osl 1 0]]⟩, ⟨1, 0, .row 5 1 1 (bytesD x)⟩] (.tup [])
  [⟨0, 0, .row 299 2 32 [[.rx 0 0 2 0 0, .osl 1 0]]⟩, ⟨1, 0, .row 5 1 1 (bytesD x)⟩] :=
 copyCheck_spec2 Tryz.call288 32 (.osl 1 0) _ (by simp) copyCheck_used

def anWB0258 : Ann := ⟨[7], []⟩
set_option maxHeartbeats 1000000 in
theorem writeFirst_spec (x : ByteArray) (hx : x.size ≤ 150000000000000) :
  DSpec Tryz.prog (.func 258) [.rx 0 0 2 0 0, .str x] [⟨0, 0, .row 299 2 32 [[.nilp, .nilsl]]⟩] (.tup [.int .i64 x.size, .nilifc])
   [⟨0, 0, .row 299 2 32 [[.rx 0 0 2 0 0, .osl 1 1]]⟩, ⟨1, 1, .row 5 1 1 (bytesD x)⟩] := by
 refine DSpec_intro [] [(0, 0, 0), (14, 1, 1)] (fn := Tryz.f258) Tryz.func258 rfl Tryz.call258 (by simp [Tryz.ntmps258]) (by simp) (by simp) ?_
 intro hwf B hnt
 simp only [Tryz.ntmps258] at hnt
 have hA := an_is anWB0258 Tryz.mixed (aj2 @anWB0258.eq_1 Tryz.results258)
 simp only [argS]
 exact go0 aj0 (aj1 (spc [(0,0)] [] checkFirst_spec)) (aj1 hx)
def anWB0258b2 : Ann := ⟨[7], []⟩
set_option maxHeartbeats 1000000 in
theorem writeUsed_spec (y x : ByteArray) (hx : y.size + x.size ≤ 150000000000000) :
  DSpec Tryz.prog (.func 258) [.rx 0 0 2 0 0, .str x] [⟨0, 0, .row 299 2 32 [[.rx 0 0 2 0 0, .osl 1 0]]⟩, ⟨1, 0, .row 5 1 1 (bytesD y)⟩] (.tup [.int .i64 x.size, .nilifc])
   [⟨0, 0, .row 299 2 32 [[.rx 0 0 2 0 0, .osl 1 1]]⟩, ⟨1, 1, .row 5 1 1 (bytesD (y ++ x))⟩] := by
 refine DSpec_intro [] [(0, 0, 0), (1, 1, 1)] (fn := Tryz.f258) Tryz.func258 rfl Tryz.call258 (by simp [Tryz.ntmps258]) (by simp) (by simp) ?_
 intro hwf B hnt
 simp only [Tryz.ntmps258] at hnt
 have hA := an_is anWB0258b2 Tryz.mixed (aj2 @anWB0258b2.eq_1 Tryz.results258)
 simp only [argS]
 rw [bytesD_app]
 exact go0 aj0 (aj1 (spc [(0,0),(1,1)] [] (checkUsed_spec y))) (aj2 hx @bytesD_len)
theorem bldExtra : Builder.Extra Tryz.prog Tryz.bldString_ren where
 sizeBuilder := by kernel_rfl
 liesBuilder := by kernel_rfl
 t5 := Tryz.underlying5
 a5 := Tryz.isAgg5
 z5 := Tryz.sizeOf5
 v5 := Tryz.zeroValue5
 infoByte := by kernel_rfl
 cellsByte := by kernel_rfl
 sizeByte := by kernel_rfl
 neB5 := by decide
theorem stringSome_spec (x : ByteArray) (hx : x.size ≠ 0) : DSpec Tryz.prog (.func 259) [.rx 0 0 2 0 0] [⟨0, 0, .row 299 2 32 [[.rx 0 0 2 0 0, .osl 1 0]]⟩, ⟨1, 0, .row 5 1 1 (bytesD x)⟩] (.str x) [] :=
 builderString_spec2 Tryz.bldString bldExtra Tryz.call259 32 x hx
end Go.Proofs.YtdgocjbakjamaaaGreat
end

section
set_option linter.unusedSectionVars false
/- strings.Builder grown ahead of its first write -/

set_option linter.unusedSimpArgs false
set_option linter.unusedVariables false
namespace Go.Proofs.YtdgocjbakjamaaaGreat
open Go Go.Dm Go.RowKit Go.Proofs
variable [DMode]
set_option maxRecDepth 1000000

def GrownTo (w w' : World) (b : Nat) (rest : List Value) : Prop := ∃ (g : Nat) (cs : Array Value), Upd [b] w w' ∧ w.heap.size ≤ g ∧ cs.size ≤ maxLen ∧
 w'.heap[b]? = some (.cells (.pointer (some ⟨b, 0, none⟩) :: .slice (some ⟨g, 0, none⟩) 0 cs.size :: rest).toArray 299 (0, 0)) ∧ w'.heap[g]? = some (.cells cs 5 (0, 0))
theorem grown_of {b : Nat} {w : World} {cs : Array Value} {rest : List Value} (hbk : w.heap[b]? = some (.cells (.pointer (some ⟨b, 0, none⟩) :: .slice none 0 0 :: rest).toArray 299 (0, 0))) (hm : cs.size ≤ maxLen) :
  GrownTo w ((w.setCell ⟨b, 1, none⟩ (.slice (some ⟨w.heap.size, 0, none⟩) 0 cs.size)).alloc (.cells cs 5)).drew.drew.drew b rest := by
 have hlt : b < w.heap.size := (Array.getElem?_eq_some_iff.1 hbk).1
 refine ⟨w.heap.size, cs, ⟨rfl, rfl, rfl, ?_, ?_, ?_⟩, Nat.le_refl _, hm, ?_, ?_⟩
 ·simp [World.drew, World.alloc, World.setCell]; omega
 ·simp [World.drew, World.alloc, World.setCell]
 ·intro q hq hn
  simp only [List.mem_singleton] at hn
  simp only [World.drew, World.alloc, World.setCell]
  rw [Array.getElem?_push, if_neg (by simp; omega), Array.getElem?_modify, if_neg (fun h => hn h.symm)]
 ·simp only [World.drew, World.alloc, World.setCell]
  rw [Array.getElem?_push, if_neg (by simp; omega), Array.getElem?_modify, if_pos rfl, hbk]
  simp
 ·simp only [World.drew, World.alloc, World.setCell]
  rw [Array.getElem?_push, if_pos (by simp)]

set_option maxHeartbeats 2000000 in
theorem grow_first (b n : Nat) (rest : List Value) (w : World) (hbk : w.heap[b]? = some (.cells (.pointer (some ⟨b, 0, none⟩) :: .slice none 0 0 :: rest).toArray 299 (0, 0))) (hn : n ≤ 140737488355328) :
  Calls Tryz.prog 309 #[.pointer (some ⟨b, 0, none⟩), .int .i64 n] w fun e w' => e = .returned (.tuple #[]) ∧ GrownTo w w' b rest := by
 have mixed := Tryz.mixed
 obtain ⟨cs, hrun, hle, hmax⟩ := Lib.run_makeNoZero (P := Tryz.prog) w.drew #[3] 297 5 Tryz.underlying297 n (by omega)
 have hw : IntKind.i64.wrap (IntKind.i64.wrap 0 + (n : Int)) = n := by
  rw [wrap64_in (n := 0) (by omega) (by omega), wrap64_in (by omega) (by omega)]; omega
 have hlt : b < w.heap.size := (Array.getElem?_eq_some_iff.1 hbk).1
 have hcall : (callFunc 312 #[.int .i64 (IntKind.i64.wrap (IntKind.i64.wrap 0 + (n : Int)))]).run Tryz.prog w.drew = .ok (.value (.slice (some ⟨w.drew.heap.size, 0, none⟩) n cs.size)) (w.drew.drew.drew.alloc (.cells cs 5)) := by
  rw [hw, run_callFunc_extern Tryz.func312 (by kernel_rfl) (by kernel_rfl) (by kernel_rfl) (e := Extern.BytealgMakeNoZero.makeNoZero #[3] #[297]) (by kernel_rfl), hrun]
  rfl
 have c1 : w.drew.cell? ⟨b, 1, none⟩ = some (.slice none 0 0) := by
  have h1 : w.drew.heap[b]? = _ := hbk
  rw [Lib.cell_of_heap h1]; rfl
 have h2 : (w.alloc (.cells cs 5)).heap[b]? = some (.cells (.pointer (some ⟨b, 0, none⟩) :: .slice none 0 0 :: rest).toArray 299 (0, 0)) := (Lib.alloc_old w _ b hlt).trans hbk
 have c2 : (w.alloc (.cells cs 5)).cell? ⟨b, 1, none⟩ = some (.slice none 0 0) := by rw [Lib.cell_of_heap h2]; rfl
 have f2 : (w.alloc (.cells cs 5)).frozen? ⟨b, 1, none⟩ = false := Lib.frozen_of_heap h2 1
 have hcopy : ∀ W : World, (Builtin.copy_ #[297, 297] 3 #[.slice (some ⟨w.heap.size, 0, none⟩) 0 cs.size, .slice none 0 0]).run Tryz.prog W = .ok (goInt 0) W :=
  fun W => run_copy_none W 297 297 3 5 _ _ 0 cs.size 0 0 Tryz.underlying297 (by kernel_rfl) rfl
 clear hw
 go_enter Tryz.func309, Tryz.ntmps309
 go_wp2
 go_region_o
 all_goals (go_wp2; go_end0; exact ⟨rfl, grown_of hbk (hmax (by unfold maxLen; omega))⟩)
end Go.Proofs.YtdgocjbakjamaaaGreat
end

section
set_option linter.unusedSectionVars false
/- strings.Builder.Grow ahead of the first write -/

set_option linter.unusedSimpArgs false
set_option linter.unusedVariables false
namespace Go.Proofs.YtdgocjbakjamaaaGreat
open Go Go.Dm Go.RowKit Go.Proofs
variable [DMode]
set_option maxRecDepth 1000000

set_option maxHeartbeats 2000000 in
theorem Grow_first (b n : Nat) (rest : List Value) (w : World) (hbk : w.heap[b]? = some (.cells (.pointer none :: .slice none 0 0 :: rest).toArray 299 (0, 0))) (hn1 : 1 ≤ n) (hn : n ≤ 140737488355328) :
  Calls Tryz.prog 298 #[.pointer (some ⟨b, 0, none⟩), .int .i64 n] w fun e w' => e = .returned (.tuple #[]) ∧ GrownTo w w' b rest := by
 have mixed := Tryz.mixed
 have hlt : b < w.heap.size := (Array.getElem?_eq_some_iff.1 hbk).1
 have hbk1 : (w.setCell ⟨b, 0, none⟩ (.pointer (some ⟨b, 0, none⟩))).heap[b]? = some (.cells (.pointer (some ⟨b, 0, none⟩) :: .slice none 0 0 :: rest).toArray 299 (0, 0)) := by
  simp [World.setCell, Array.getElem?_modify, hbk]
 have c1 : (w.setCell ⟨b, 0, none⟩ (.pointer (some ⟨b, 0, none⟩))).drew.cell? ⟨b, 1, none⟩ = some (.slice none 0 0) := by
  have h1 : (w.setCell ⟨b, 0, none⟩ (.pointer (some ⟨b, 0, none⟩))).drew.heap[b]? = _ := hbk1
  rw [Lib.cell_of_heap h1]; rfl
 have hU : Upd [b] w (w.setCell ⟨b, 0, none⟩ (.pointer (some ⟨b, 0, none⟩))).drew := ⟨rfl, rfl, rfl, fun _ => Nat.le_succ _, by simp [World.setCell, World.drew], fun q hq hne => by
  simp only [List.mem_singleton] at hne
  simp only [World.setCell, World.drew]
  rw [Array.getElem?_modify, if_neg (fun h => hne h.symm)]⟩
 have hsh : w.shape? b = some (299, rest.length + 2) := by simp [World.shape?, hbk]
 have hc2 : Tryz.prog.cellsOf 299 = 2 := by kernel_rfl
 have hli := lies_same (P := Tryz.prog) (T := 299) (n := (rest.length + 2) / Tryz.prog.cellsOf 299) (by show ¬ _; exact of_decide_eq_true (by kernel_rfl)) (by rw [hc2]; decide) (by rw [hc2]; omega)
 have hcc := copyCheck_first b (rest.length + 2) w (by rw [Lib.cell_of_heap hbk]; rfl) hsh (by omega) hli (Lib.frozen_of_heap hbk 0)
 have hg := grow_first b n rest (w.setCell ⟨b, 0, none⟩ (.pointer (some ⟨b, 0, none⟩))).drew hbk1 hn
 go_enter Tryz.func298, Tryz.ntmps298
 go_wp2_with (refine hcc.mono ?_; rintro e w' ⟨rfl, rfl⟩)
 go_region_o
 all_goals go_wp2_with (refine hg.mono ?_; rintro e w' ⟨rfl, h1⟩)
 all_goals (go_end0; obtain ⟨g, cs, u, h2, h3, h4, h5⟩ := h1; exact ⟨rfl, g, cs, hU.trans u (fun x hx => .inl hx), by simpa [World.setCell, World.drew] using h2, h3, h4, h5⟩)
end Go.Proofs.YtdgocjbakjamaaaGreat
end

section
set_option linter.unusedSectionVars false
/- strings.Builder.Grow as a contract; strings.Join -/

set_option linter.unusedSimpArgs false
set_option linter.unusedVariables false
namespace Go.Proofs.YtdgocjbakjamaaaGreat
open Go Go.Dm Go.RowKit Go.Proofs
variable [DMode]
set_option maxRecDepth 100000

theorem growFirst_spec (n : Nat) (hn1 : 1 ≤ n) (hn : n ≤ 140737488355328) : DSpec Tryz.prog (.func 298) [.rx 0 0 2 0 0, .int .i64 n] [⟨0, 0, .row 299 2 32 [[.nilp, .nilsl]]⟩] (.tup [])
  [⟨0, 0, .row 299 2 32 [[.rx 0 0 2 0 0, .osl 1 1]]⟩, ⟨1, 1, .row 5 1 1 []⟩] := by
 refine ⟨by simp, Tryz.call298, fun M w loc vs S hvs => ?_⟩
 have hk := S.ok _ (List.mem_singleton.2 rfl)
 obtain ⟨hbs, hk⟩ := hk
 rcases hk with ⟨h, _⟩ | ⟨b, arr, cap, h1, h2, h3, h4, h5, h6, h7⟩
 ·simp at h
 ·obtain ⟨v0, v1, rest, rfl, g0, g1⟩ := bld_cells h7
  simp only [rd] at g0 g1
  subst g0; subst g1
  have hcur : curOf [(⟨0, 0, .row 299 2 32 [[.nilp, .nilsl]]⟩ : Ent)] loc 0 0 = some (loc 0) := by simp [curOf, findE]
  simp only [rdV, rd] at hvs
  obtain ⟨pv, r, hvs, hp, v2, r2, rfl, ⟨rfl, _⟩, rfl⟩ := hvs
  obtain ⟨b', hb', rfl⟩ := hp _ hcur
  simp only at h1 h2
  rw [h1] at hb'
  simp only [List.cons.injEq, and_true] at hb'
  subst hb'
  have hvs' : vs = #[.pointer (some ⟨b, 0, none⟩), .int .i64 n] := by apply Array.ext'; simpa using hvs
  subst hvs'
  refine ⟨Tryz.call298, (Grow_first b n rest w h3 hn1 hn).mono ?_⟩
  rintro e w' ⟨rfl, g, cs, hu, hg, hm, hb, hgc⟩
  have hgl : g < w'.heap.size := (Array.getElem?_eq_some_iff.1 hgc).1
  have hbl : b < w.heap.size := (Array.getElem?_eq_some_iff.1 h3).1
  let L1 : Dm.Loc := ⟨[g], .slice (some ⟨g, 0, none⟩) 0 cs.size⟩
  let loc' : Nat → Dm.Loc := fun i => if i = 1 then L1 else loc i
  have e0 : loc' 0 = loc 0 := rfl
  have e1 : loc' 1 = L1 := rfl
  let own' : List Ent := [⟨0, 0, .row 299 2 32 [[.rx 0 0 2 0 0, .osl 1 1]]⟩, ⟨1, 1, .row 5 1 1 []⟩]
  have hhot : hotOf own' loc' = [b, g] := by simp [own', hotOf, e0, e1, h1, L1]
  have hhot0 : hotOf [(⟨0, 0, .row 299 2 32 [[.nilp, .nilsl]]⟩ : Ent)] loc = [b] := by simp [hotOf, h1]
  have hc0 : curOf own' loc' 0 0 = some (loc 0) := by simp [own', curOf, findE, e0]
  have hc1 : curOf own' loc' 1 1 = some L1 := by simp [own', curOf, findE, e1]
  refine ⟨_, rfl, loc', ⟨by simp, ?_, ?_, ?_, ?_⟩, ?_, ?_, ?_, by simp [rd, rdV]⟩
  ·show (hotOf own' loc').Nodup
   rw [hhot]
   simp
   omega
  ·show ∀ q ∈ hotOf own' loc', q ∉ M
   rw [hhot]
   intro q hq
   rcases List.mem_cons.1 hq with rfl | hq
   ·exact S.ap q (by rw [hhot0]; simp)
   ·simp only [List.mem_singleton] at hq
    subst hq
    intro hM
    have := S.lt q (List.mem_append_right _ hM)
    omega
  ·show ∀ q ∈ hotOf own' loc' ++ M, q < w'.heap.size
   rw [hhot]
   intro q hq
   rcases List.mem_append.1 hq with hq | hq
   ·rcases List.mem_cons.1 hq with rfl | hq
    ·exact Nat.lt_of_lt_of_le hbl hu.size
    ·simp only [List.mem_singleton] at hq; subst hq; exact hgl
   ·exact Nat.lt_of_lt_of_le (S.lt q (List.mem_append_right _ hq)) hu.size
  ·intro e he
   rcases List.mem_cons.1 he with rfl | he
   ·refine ⟨hbs, .inr ⟨b, _, cap, h1, h2, hb, h4, h5, by simpa using h6, ?_⟩⟩
    refine bld_rdR ?_ ?_ rfl rfl
    ·simp only [rd]
     intro l hl
     have hl' : curOf own' loc' 0 0 = some l := hl
     rw [hc0] at hl'
     simp only [Option.some.injEq] at hl'
     subst hl'
     exact ⟨b, h1, by simp⟩
    ·simp only [rd]
     intro l hl
     have hl' : curOf own' loc' 1 1 = some l := hl
     rw [hc1] at hl'
     simp only [Option.some.injEq] at hl'
     subst hl'
     rfl
   ·simp only [List.mem_singleton] at he
    subst he
    exact ⟨by simp, .inr ⟨g, cs, cs.size, rfl, rfl, hgc, by simp, hm, by simp, by simp [rdR]⟩⟩
  ·rw [hhot0]; exact hu
  ·show ∀ q ∈ hotOf own' loc', _
   rw [hhot, hhot0]
   intro q hq
   rcases List.mem_cons.1 hq with rfl | hq
   ·exact .inl (by simp)
   ·simp only [List.mem_singleton] at hq; subst hq; exact .inr hg
  ·intro e he hr
   rcases List.mem_cons.1 he with rfl | he
   ·rw [hcur]; rfl
   ·simp only [List.mem_singleton] at he
    subst he
    simp at hr
end Go.Proofs.YtdgocjbakjamaaaGreat
end

