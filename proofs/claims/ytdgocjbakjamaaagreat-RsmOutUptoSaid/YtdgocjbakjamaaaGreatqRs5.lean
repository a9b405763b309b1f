/- Parts of a proof, laid together: EnGo, WB2, WB1, WR1, RN, RH, RG, RX1, EnW, EnX, RX5, WC1, WC2, BX0, WOg, WSg. -/
import Derived.RangeFuncNested
import Derived.Test.YtdgocjbakjamaaaGreatqRs4
set_option linter.unusedSimpArgs false
set_option linter.unusedVariables false
set_option linter.unusedSectionVars false
section
namespace Go.Dm
variable [DMode]
structure AnIs (P : Program) (an : Ann) (E : Prop) : Prop where
 m : P.follows .mixedOrders = true
 e : E
theorem an_is {P : Program} (an : Ann) {E : Prop} (m : P.follows .mixedOrders = true) (e : E) : AnIs P an E := ⟨m, e⟩
theorem DW_rA {P : Program} {B : Base} {s : DS} {A : Ann} {E : Prop} {id : Nat} {ops : Array Oper} {draw : Bool} {Q : Exit → DS → Prop} (hA : AnIs P A E) (hok : (!draw || drawOKE A.ow (annAt A.rs id).l1 (annAt A.rs id).l2 ops) = true)
 (h : dOpsX P B.nt A.ow (annAt A.rs id).l1 (annAt A.rs id).l2 ops ops.toList 0 (kQ Q (annAt A.rs id).fz) s) : DW P B (.region id ops draw) Q s := DW_r A hA.m hok h
structure Spc (ρ ν : List (Nat × Nat)) (p : Prop) : Prop where
 o : p
theorem spc (ρ ν : List (Nat × Nat)) {p : Prop} (h : p) : Spc ρ ν p := ⟨h⟩
theorem callS_go {ρ ν : List (Nat × Nat)} {P : Program} {g : FuncId} {args args0 : List DVal} {own own0 own0' : List Ent} {d0 : DVal} {K : ContE} (hS : Spc ρ ν (DSpec P (.func g) args0 own0 d0 own0'))
 (hpre : outE own (phiOf own (inRho ρ)) (inRho ρ) = some own0 ∧ inOK own ρ ∧ (okDs args ∧ wkA (args.map (renD (phiOf own (inRho ρ)))) args0) ∧ (((ρ ++ ν).map (·.1)).Nodup ∧ (ρ.map (·.2)).Nodup) ∧ okOs own0' ∧ okD d0)
 (hk : ∀ r, match backE (backOf own ρ ν r) own0' with
  | some l => ((frameE own ((ρ ++ ν).map (·.1)) ++ l).map (·.id)).Nodup ∧ K.f (renD (backOf own ρ ν r) d0) (frameE own ((ρ ++ ν).map (·.1)) ++ l)
  | none => False) : callS P g args own K := callS_mk ρ ν hS.o hpre hk
structure Hd (p : Prop) : Prop where
 o : p
def Mk (p : Prop) : Prop := p
theorem mk_x {p : Prop} (h : Mk p) : p := h
theorem mk_i {p : Prop} (h : p) : Mk p := h
theorem aj0 : True := trivial
theorem aj1 {a : Prop} (h0 : a) : a ∧ True := ⟨h0, trivial⟩
theorem aj2 {a b : Prop} (h0 : a) (h1 : b) : a ∧ b ∧ True := ⟨h0, h1, trivial⟩
theorem aj3 {a b c : Prop} (h0 : a) (h1 : b) (h2 : c) : a ∧ b ∧ c ∧ True := ⟨h0, h1, h2, trivial⟩
theorem aj4 {a b c d : Prop} (h0 : a) (h1 : b) (h2 : c) (h3 : d) : a ∧ b ∧ c ∧ d ∧ True := ⟨h0, h1, h2, h3, trivial⟩
theorem aj5 {a b c d e : Prop} (h0 : a) (h1 : b) (h2 : c) (h3 : d) (h4 : e) : a ∧ b ∧ c ∧ d ∧ e ∧ True := ⟨h0, h1, h2, h3, h4, trivial⟩
theorem aj6 {a b c d e f : Prop} (h0 : a) (h1 : b) (h2 : c) (h3 : d) (h4 : e) (h5 : f) : a ∧ b ∧ c ∧ d ∧ e ∧ f ∧ True := ⟨h0, h1, h2, h3, h4, h5, trivial⟩
theorem aj7 {a b c d e f g : Prop} (h0 : a) (h1 : b) (h2 : c) (h3 : d) (h4 : e) (h5 : f) (h6 : g) : a ∧ b ∧ c ∧ d ∧ e ∧ f ∧ g ∧ True := ⟨h0, h1, h2, h3, h4, h5, h6, trivial⟩
theorem aj8 {a b c d e f g h : Prop} (h0 : a) (h1 : b) (h2 : c) (h3 : d) (h4 : e) (h5 : f) (h6 : g) (h7 : h) : a ∧ b ∧ c ∧ d ∧ e ∧ f ∧ g ∧ h ∧ True := ⟨h0, h1, h2, h3, h4, h5, h6, h7, trivial⟩
theorem aj9 {a b c d e f g h i : Prop} (h0 : a) (h1 : b) (h2 : c) (h3 : d) (h4 : e) (h5 : f) (h6 : g) (h7 : h) (h8 : i) : a ∧ b ∧ c ∧ d ∧ e ∧ f ∧ g ∧ h ∧ i ∧ True := ⟨h0, h1, h2, h3, h4, h5, h6, h7, h8, trivial⟩
theorem aj10 {a b c d e f g h i j : Prop} (h0 : a) (h1 : b) (h2 : c) (h3 : d) (h4 : e) (h5 : f) (h6 : g) (h7 : h) (h8 : i) (h9 : j) : a ∧ b ∧ c ∧ d ∧ e ∧ f ∧ g ∧ h ∧ i ∧ j ∧ True := ⟨h0, h1, h2, h3, h4, h5, h6, h7, h8, h9, trivial⟩
theorem aj11 {a b c d e f g h i j k : Prop} (h0 : a) (h1 : b) (h2 : c) (h3 : d) (h4 : e) (h5 : f) (h6 : g) (h7 : h) (h8 : i) (h9 : j) (h10 : k) : a ∧ b ∧ c ∧ d ∧ e ∧ f ∧ g ∧ h ∧ i ∧ j ∧ k ∧ True := ⟨h0, h1, h2, h3, h4, h5, h6, h7, h8, h9, h10, trivial⟩
theorem aj12 {a b c d e f g h i j k l : Prop} (h0 : a) (h1 : b) (h2 : c) (h3 : d) (h4 : e) (h5 : f) (h6 : g) (h7 : h) (h8 : i) (h9 : j) (h10 : k) (h11 : l) : a ∧ b ∧ c ∧ d ∧ e ∧ f ∧ g ∧ h ∧ i ∧ j ∧ k ∧ l ∧ True := ⟨h0, h1, h2, h3, h4, h5, h6, h7, h8, h9, h10, h11, trivial⟩
theorem aj14 {a b c d e f g h i j k l m n : Prop} (h0 : a) (h1 : b) (h2 : c) (h3 : d) (h4 : e) (h5 : f) (h6 : g) (h7 : h) (h8 : i) (h9 : j) (h10 : k) (h11 : l) (h12 : m) (h13 : n) : a ∧ b ∧ c ∧ d ∧ e ∧ f ∧ g ∧ h ∧ i ∧ j ∧ k ∧ l ∧ m ∧ n ∧ True := ⟨h0, h1, h2, h3, h4, h5, h6, h7, h8, h9, h10, h11, h12, h13, trivial⟩
theorem aj15 {a b c d e f g h i j k l m n o : Prop} (h0 : a) (h1 : b) (h2 : c) (h3 : d) (h4 : e) (h5 : f) (h6 : g) (h7 : h) (h8 : i) (h9 : j) (h10 : k) (h11 : l) (h12 : m) (h13 : n) (h14 : o) : a ∧ b ∧ c ∧ d ∧ e ∧ f ∧ g ∧ h ∧ i ∧ j ∧ k ∧ l ∧ m ∧ n ∧ o ∧ True := ⟨h0, h1, h2, h3, h4, h5, h6, h7, h8, h9, h10, h11, h12, h13, h14, trivial⟩
theorem go0 {p c s a : Prop} (C : c) (S : s) (A : a) (h : c → s → a → p := by
 (intro C S A; (repeat (first | refine DW_seq fun Kz hKz => ?_ | (refine DW_rA hA (by kernel_rfl) ?_; simp [hA.e, hnt, A]; try simp (disch := omega) only [wrap64_in]) | refine DW_block ?_ | (refine DW_if ?_ ?_ ?_; (· (simp [hnt, A]; done)); (try (rotate_left; (· (intro hcz; (try simp [hnt, A] at hcz); done))))) | (refine DW_ret ?_; simp [hA.e, hnt, A]) | ((first | refine DW_exit ?_ | refine DW_skip ?_); simp [hnt, A]) | (intro hcz; (try simp [hnt, A] at hcz); (try (exfalso; omega))) | ((first | refine callP_mk C.1 ?_ | (refine callP_wk C.1 ?_ ?_; (· (simp; done))) | refine callP_mk C.2.1 ?_ | (refine callP_wk C.2.1 ?_ ?_; (· (simp; done))) | refine callP_mk C.2.2.1 ?_ | (refine callP_wk C.2.2.1 ?_ ?_; (· (simp; done))) | refine callP_mk C.2.2.2.1 ?_ | (refine callP_wk C.2.2.2.1 ?_ ?_; (· (simp; done))) | refine callP_mk C.2.2.2.2.1 ?_ | (refine callP_wk C.2.2.2.2.1 ?_ ?_; (· (simp; done))) | refine callP_mk C.2.2.2.2.2.1 ?_ | (refine callP_wk C.2.2.2.2.2.1 ?_ ?_; (· (simp; done))) | refine callP_mk C.2.2.2.2.2.2.1 ?_ | (refine callP_wk C.2.2.2.2.2.2.1 ?_ ?_; (· (simp; done))) | refine callP_mk C.2.2.2.2.2.2.2.1 ?_ | (refine callP_wk C.2.2.2.2.2.2.2.1 ?_ ?_; (· (simp; done)))); try simp [hnt, A]) | (refine callS_go S.1 ?_ ?_; (· (simp [hnt, A]; done)); (intro Kz; try simp [hnt, A])) | (refine callS_go S.2.1 ?_ ?_; (· (simp [hnt, A]; done)); (intro Kz; try simp [hnt, A])) | (refine callS_go S.2.2.1 ?_ ?_; (· (simp [hnt, A]; done)); (intro Kz; try simp [hnt, A])) | (refine callS_go S.2.2.2.1 ?_ ?_; (· (simp [hnt, A]; done)); (intro Kz; try simp [hnt, A])) | (refine ⟨?_, ?_⟩; · omega) | omega | apply_assumption -exfalso -symm | (exfalso; omega))))) : p := h C S A
theorem go1 {p c s a q0 : Prop} (C : c) (S : s) (A : a) (h0 : q0) (h : c → s → a → Hd q0 → p := by
 (intro C S A k0; (repeat (first | refine DW_seq fun Kz hKz => ?_ | (refine DW_rA hA (by kernel_rfl) ?_; simp [hA.e, hnt, A]; try simp (disch := omega) only [wrap64_in]) | refine DW_block ?_ | (refine DW_if ?_ ?_ ?_; (· (simp [hnt, A]; done)); (try (rotate_left; (· (intro hcz; (try simp [hnt, A] at hcz); done))))) | (refine DW_ret ?_; simp [hA.e, hnt, A]) | ((first | refine DW_exit ?_ | refine DW_skip ?_); simp [hnt, A]) | (intro hcz; (try simp [hnt, A] at hcz); (try (exfalso; omega))) | ((first | refine callP_mk C.1 ?_ | (refine callP_wk C.1 ?_ ?_; (· (simp; done))) | refine callP_mk C.2.1 ?_ | (refine callP_wk C.2.1 ?_ ?_; (· (simp; done))) | refine callP_mk C.2.2.1 ?_ | (refine callP_wk C.2.2.1 ?_ ?_; (· (simp; done))) | refine callP_mk C.2.2.2.1 ?_ | (refine callP_wk C.2.2.2.1 ?_ ?_; (· (simp; done))) | refine callP_mk C.2.2.2.2.1 ?_ | (refine callP_wk C.2.2.2.2.1 ?_ ?_; (· (simp; done))) | refine callP_mk C.2.2.2.2.2.1 ?_ | (refine callP_wk C.2.2.2.2.2.1 ?_ ?_; (· (simp; done))) | refine callP_mk C.2.2.2.2.2.2.1 ?_ | (refine callP_wk C.2.2.2.2.2.2.1 ?_ ?_; (· (simp; done))) | refine callP_mk C.2.2.2.2.2.2.2.1 ?_ | (refine callP_wk C.2.2.2.2.2.2.2.1 ?_ ?_; (· (simp; done)))); try simp [hnt, A]) | (refine callS_go S.1 ?_ ?_; (· (simp [hnt, A]; done)); (intro Kz; try simp [hnt, A])) | (refine callS_go S.2.1 ?_ ?_; (· (simp [hnt, A]; done)); (intro Kz; try simp [hnt, A])) | (refine callS_go S.2.2.1 ?_ ?_; (· (simp [hnt, A]; done)); (intro Kz; try simp [hnt, A])) | (refine callS_go S.2.2.2.1 ?_ ?_; (· (simp [hnt, A]; done)); (intro Kz; try simp [hnt, A])) | (refine ⟨?_, ?_⟩; · omega) | omega | apply_assumption -exfalso -symm | (exfalso; omega))); refine mk_x ?_; (repeat (first | revert hcz | revert Kz)); exact k0.o)) : p := h C S A ⟨h0⟩
end Go.Dm
end

section
namespace Go.Proofs.YtdgocjbakjamaaaGreat
open Go Go.Dm
variable [DMode]
attribute [local irreducible] DW callP callS
set_option maxRecDepth 100000
def placeS (l : List ByteArray) (s : ByteArray) : Int := if l.any (fun x => s == x) then ((l.findIdx fun x => s == x : Nat) : Int) else -1
theorem placeS_some {l : List ByteArray} {s : ByteArray} {k : Nat} (hk : k < l.length) (h : l[k] = s) (hno : ∀ i x, i < k → l[i]? = some x → (s == x) = false) : placeS l s = k := by
 unfold placeS
 have hb : (s == l[k]) = true := by rw [h]; exact beq_self_eq_true _
 rw [if_pos (List.any_eq_true.2 ⟨l[k], List.getElem_mem _, hb⟩)]
 congr 1
 rw [List.findIdx_eq hk]
 exact ⟨hb, fun i hi => hno i _ hi (List.getElem?_eq_getElem (by omega))⟩
theorem placeS_none {l : List ByteArray} {s : ByteArray} (hno : ∀ i x, i < l.length → l[i]? = some x → (s == x) = false) : placeS l s = -1 := by
 unfold placeS
 rw [if_neg]
 simp only [Bool.not_eq_true, List.any_eq_false]
 intro x hx
 obtain ⟨i, hi, rfl⟩ := List.getElem_of_mem hx
 rw [hno i _ hi (List.getElem?_eq_getElem hi)]
theorem hno_next {l : List ByteArray} {s x : ByteArray} {k : Nat} (hx : l[k]? = some x) (hb : (s == x) = false) (hno : ∀ i x, i < k → l[i]? = some x → (s == x) = false) : ∀ i x, i < k + 1 → l[i]? = some x → (s == x) = false := by
 intro i y hi hy
 by_cases hik : i = k
 ·subst hik; rw [hx] at hy; simp only [Option.some.injEq] at hy; subst hy; exact hb
 ·exact hno i y (by omega) hy
theorem len_strs {l : List ByteArray} (h : wfD (dStrs l)) : l.length < 9223372036854775807 := by
 simp only [wfD, List.length_map] at h
 omega
def anWB2201 : Ann := ⟨[], []⟩
theorem index139_pure (l : List ByteArray) (s : ByteArray) : DPure Tryz.prog 201 [dStrs l, .str s] (.int .i64 (placeS l s)) := by
 refine DPure_introF [] (fn := Tryz.f201) Tryz.func201 rfl Tryz.call201 (by simp [Tryz.ntmps201]) (by simp [mx]) ?_
 intro hwf B hnt
 simp only [Tryz.ntmps201] at hnt
 have hA := an_is anWB2201 Tryz.mixed (aj2 @anWB2201.eq_1 Tryz.results201)
 have hlen := len_strs hwf.1
 clear hwf
 simp only [argS]
 obtain ⟨R, hR⟩ : ∃ R, R = placeS l s := ⟨_, rfl⟩
 rw [← hR]
 (refine go1 aj0 aj0 aj0 ?_; intros; refine mk_i ?_)
 refine DW_loop (X := {k : Nat // k ≤ l.length ∧ ∀ i x, i < k → l[i]? = some x → (s == x) = false}) (fun x => ⟨[(0, dStrs l), (1, .str s), (7, .int .i64 l.length), (8, .int .i64 x.1)], []⟩) (fun x => l.length - x.1) ⟨0, by simp⟩ (Sub.lit (by simp)) ?_
 rintro ⟨k, hk, hno⟩
 by_cases hlt : k < l.length
 ·obtain ⟨x, hx, hx', hxm⟩ := at_lt' hlt
  cases hb : s == x
  ·(refine go1 aj0 aj0 (aj5 @dStr.eq_1 hlt hx' hx hb) ?_; intros; refine mk_i ?_)
   exact Again.mk ⟨k + 1, by omega, hno_next hx hb hno⟩ (Sub.lit (by simp [])) (by simp; omega)
   skip
  ·have hRk : R = k := by rw [hR]; exact placeS_some hlt (by rw [hx']; exact (by simpa using hb : s = x).symm) hno
   subst hRk
   exact go0 aj0 aj0 (aj5 @dStr.eq_1 hlt hx' hx hb)
 ·have hkk : k = l.length := by omega
  subst hkk
  have hRk : R = -1 := by rw [hR]; exact placeS_none hno
  subst hRk
  exact go0 aj0 aj0 aj0
def anWB2128 : Ann := ⟨[], []⟩
theorem contains104_pure (l : List ByteArray) (s : ByteArray) : DPure Tryz.prog 128 [dStrs l, .str s] (.bool (decide (0 ≤ placeS l s))) := by
 refine DPure_introF [] (fn := Tryz.f128) Tryz.func128 rfl Tryz.call128 (by simp [Tryz.ntmps128]) (by simp [mx]) ?_
 intro hwf B hnt
 simp only [Tryz.ntmps128] at hnt
 have hA := an_is anWB2128 Tryz.mixed (aj2 @anWB2128.eq_1 Tryz.results128)
 simp only [argS]
 exact go0 (aj1 (index139_pure l s)) aj0 aj0
end Go.Proofs.YtdgocjbakjamaaaGreat
end

section
namespace Go.Proofs.YtdgocjbakjamaaaGreat
open Go Go.Dm
variable [DMode]
attribute [local irreducible] DW callP callS
set_option maxRecDepth 100000
def letB (n : Int) : Bool := (decide (97 ≤ n) && decide (n ≤ 122)) || (decide (65 ≤ n) && decide (n ≤ 90)) || (decide (48 ≤ n) && decide (n ≤ 57)) || n == 95
def letS (s : ByteArray) : Bool := s.data.toList.all fun b => letB (b.toNat : Int)
def nameOK (s : ByteArray) : Bool := decide (1 ≤ s.size) && decide (s.size ≤ 16) && letS s
theorem size_toList (s : ByteArray) : s.data.toList.length = s.size := rfl
end Go.Proofs.YtdgocjbakjamaaaGreat
end

section
namespace Go.Proofs.YtdgocjbakjamaaaGreat
open Go Go.Dm
variable [DMode]
attribute [local irreducible] DW callP callS
set_option maxRecDepth 100000
def upI (n : Int) : Bool := decide (65 ≤ n) && decide (n ≤ 90)
def loI (n : Int) : Bool := decide (97 ≤ n) && decide (n ≤ 122)
def anWR1264 : Ann := ⟨[], []⟩
theorem upper197_pure (n : Int) : DPure Tryz.prog 264 [.int .u8 n] (.bool (upI n)) := by
 refine DPure_introF [] (fn := Tryz.f264) Tryz.func264 rfl Tryz.call264 (by simp [Tryz.ntmps264]) (by simp [mx]) ?_
 intro hwf B hnt
 simp only [Tryz.ntmps264] at hnt
 have hA := an_is anWR1264 Tryz.mixed (aj2 @anWR1264.eq_1 Tryz.results264)
 simp only [argS]
 by_cases h1 : 65 ≤ n
 ·by_cases h2 : n ≤ 90 <;> exact go0 aj0 aj0 (aj3 @upI.eq_1 h1 h2)
 ·exact go0 aj0 aj0 (aj2 @upI.eq_1 h1)
def anWR1265 : Ann := ⟨[], []⟩
theorem lower198_pure (n : Int) : DPure Tryz.prog 265 [.int .u8 n] (.bool (loI n)) := by
 refine DPure_introF [] (fn := Tryz.f265) Tryz.func265 rfl Tryz.call265 (by simp [Tryz.ntmps265]) (by simp [mx]) ?_
 intro hwf B hnt
 simp only [Tryz.ntmps265] at hnt
 have hA := an_is anWR1265 Tryz.mixed (aj2 @anWR1265.eq_1 Tryz.results265)
 simp only [argS]
 by_cases h1 : 97 ≤ n
 ·by_cases h2 : n ≤ 122 <;> exact go0 aj0 aj0 (aj3 @loI.eq_1 h1 h2)
 ·exact go0 aj0 aj0 (aj2 @loI.eq_1 h1)
def anWR1236 : Ann := ⟨[], []⟩
theorem rupper154_pure (n : Int) : DPure Tryz.prog 236 [.int .u8 n] (.bool (upI n)) := by
 refine DPure_introF [] (fn := Tryz.f236) Tryz.func236 rfl Tryz.call236 (by simp [Tryz.ntmps236]) (by simp [mx]) ?_
 intro hwf B hnt
 simp only [Tryz.ntmps236] at hnt
 have hA := an_is anWR1236 Tryz.mixed (aj2 @anWR1236.eq_1 Tryz.results236)
 simp only [argS]
 by_cases h1 : 65 ≤ n
 ·by_cases h2 : n ≤ 90 <;> exact go0 aj0 aj0 (aj3 @upI.eq_1 h1 h2)
 ·exact go0 aj0 aj0 (aj2 @upI.eq_1 h1)
def anWR1237 : Ann := ⟨[], []⟩
theorem rlower155_pure (n : Int) : DPure Tryz.prog 237 [.int .u8 n] (.bool (loI n)) := by
 refine DPure_introF [] (fn := Tryz.f237) Tryz.func237 rfl Tryz.call237 (by simp [Tryz.ntmps237]) (by simp [mx]) ?_
 intro hwf B hnt
 simp only [Tryz.ntmps237] at hnt
 have hA := an_is anWR1237 Tryz.mixed (aj2 @anWR1237.eq_1 Tryz.results237)
 simp only [argS]
 by_cases h1 : 97 ≤ n
 ·by_cases h2 : n ≤ 122 <;> exact go0 aj0 aj0 (aj3 @loI.eq_1 h1 h2)
 ·exact go0 aj0 aj0 (aj2 @loI.eq_1 h1)
theorem letB_eq (n : Int) : letB n = (upI n || loI n || (decide (48 ≤ n) && decide (n ≤ 57)) || n == 95) := by
 unfold letB upI loI
 cases decide (65 ≤ n) <;> cases decide (n ≤ 90) <;> cases decide (97 ≤ n) <;> cases decide (n ≤ 122) <;> rfl
def anWR1235 : Ann := ⟨[], []⟩
theorem inner153_pure (n : Int) : DPure Tryz.prog 235 [.int .u8 n] (.bool (letB n)) := by
 refine DPure_introF [] (fn := Tryz.f235) Tryz.func235 rfl Tryz.call235 (by simp [Tryz.ntmps235]) (by simp [mx]) ?_
 intro hwf B hnt
 simp only [Tryz.ntmps235] at hnt
 have hA := an_is anWR1235 Tryz.mixed (aj2 @anWR1235.eq_1 Tryz.results235)
 simp only [argS]
 rw [letB_eq]
 have e1 := rupper154_pure n
 have e2 := rlower155_pure n
 cases hU : upI n
 ·rw [hU] at e1
  cases hL : loI n
  ·rw [hL] at e2
   by_cases h5 : 48 ≤ n
   ·by_cases h6 : n ≤ 57
    ·exact go0 (aj2 e1 e2) aj0 (aj2 h5 h6)
    ·have h7 : n = 95 ∨ ¬ n = 95 := by omega
     rcases h7 with h7 | h7
     ·subst h7
      exact go0 (aj2 e1 e2) aj0 aj0
     ·exact go0 (aj2 e1 e2) aj0 (aj3 h5 h6 h7)
   ·have h7 : ¬ n = 95 := by omega
    exact go0 (aj2 e1 e2) aj0 (aj2 h5 h7)
  ·rw [hL] at e2
   exact go0 (aj2 e1 e2) aj0 aj0
 ·rw [hU] at e1
  exact go0 (aj1 e1) aj0 aj0
def headQ (q : Int → Bool) (s : ByteArray) : Bool := match s.data.toList with | [] => false | b :: _ => q (b.toNat : Int)
theorem headQ_at {q : Int → Bool} {s : ByteArray} {b : UInt8} (hb : s.data.toList[0]? = some b) : headQ q s = q (b.toNat : Int) := by
 unfold headQ
 cases hd : s.data.toList with
 | nil => rw [hd] at hb; simp at hb
 | cons x l => rw [hd] at hb; simp at hb; subst hb; rfl
def anWR1263 : Ann := ⟨[], []⟩
theorem named196_pure (g : FuncId) (q : Int → Bool) (hq : ∀ n, DPure Tryz.prog g [.int .u8 n] (.bool (q n))) (s : ByteArray) : DPure Tryz.prog 263 [.str s, .fn (.func g) [] []] (.bool (nameOK s && headQ q s)) := by
 refine DPure_introF [] (fn := Tryz.f263) Tryz.func263 rfl Tryz.call263 (by simp [Tryz.ntmps263]) (by simp [mx]) ?_
 intro hwf B hnt
 simp only [Tryz.ntmps263] at hnt
 have hA := an_is anWR1263 Tryz.mixed (aj2 @anWR1263.eq_1 Tryz.results263)
 have hsz : s.size ≤ 9223372036854775807 := by have := hwf.1; simp only [wfD, maxLen] at this; omega
 clear hwf
 simp only [argS]
 obtain ⟨R, hR⟩ : ∃ R, R = (nameOK s && headQ q s) := ⟨_, rfl⟩
 rw [← hR]
 by_cases h1 : 1 ≤ s.size
 ·by_cases h2 : s.size ≤ 16
  ·have g1 : ¬ (s.size : Int) < 1 := by omega
   have g2 : ¬ (16 : Int) < s.size := by omega
   have g0 : 0 < s.size := by omega
   obtain ⟨b0, hb0, hb0', _⟩ := at_lt' (show 0 < s.data.toList.length by rw [size_toList]; omega)
   have e0 := hq (b0.toNat : Int)
   rw [headQ_at hb0] at hR
   cases hQ : q (b0.toNat : Int)
   ·rw [hQ] at e0 hR
    have hR2 : R = false := by rw [hR]; simp
    subst hR2
    exact go0 (aj1 e0) aj0 (aj7 g0 g1 g2 h1 h2 hb0 hb0')
   ·rw [hQ] at e0 hR
    simp only [Bool.and_true] at hR
    (refine go1 (aj1 e0) aj0 (aj7 g0 g1 g2 h1 h2 hb0 hb0') ?_; intros; refine mk_i ?_)
    refine DW_loop (X := {k : Nat // k ≤ s.size ∧ letS s = ((s.data.toList.drop k).all fun b => letB (b.toNat : Int))}) (fun k => ⟨[(0, .str s), (23, .int .i64 s.size), (24, .int .i64 k.1)], []⟩) (fun k => s.size - k.1) ⟨0, by simp [letS]⟩ (Sub.lit (by simp)) ?_
    clear e0 hb0 hb0' hQ
    rintro ⟨k, hk, hl⟩
    by_cases hlt : k < s.size
    ·obtain ⟨b, hb, hb', _⟩ := at_lt' (show k < s.data.toList.length by rw [size_toList]; exact hlt)
     rw [List.drop_eq_getElem_cons (by rw [size_toList]; exact hlt), hb', List.all_cons] at hl
     have e1 := upper197_pure (b.toNat : Int)
     have e2 := lower198_pure (b.toNat : Int)
     obtain ⟨L, hLL⟩ : ∃ L, L = letB (b.toNat : Int) := ⟨_, rfl⟩
     have hLe := letB_eq (b.toNat : Int)
     rw [← hLL] at hl hLe
     cases hU : upI (b.toNat : Int)
     ·rw [hU] at e1
      cases hV : loI (b.toNat : Int)
      ·rw [hV] at e2
       by_cases h5 : (48 : Int) ≤ (b.toNat : Int)
       ·by_cases h6 : (b.toNat : Int) ≤ 57
        ·have h7 : ¬ (b.toNat : Int) = 95 := by omega
         have hL1 : L = true := by rw [hLe]; simp [hU, hV, h5, h6]
         rw [hL1, Bool.true_and] at hl
         (refine go1 (aj2 e1 e2) aj0 (aj7 hlt hb hb' hU hV h5 h6) ?_; intros; refine mk_i ?_)
         refine Again.mk ⟨k + 1, by omega, hl⟩ (Sub.lit (by simp)) (by simp; omega)
         skip
        ·by_cases h7 : (b.toNat : Int) = 95
         ·have hL1 : L = true := by rw [hLe]; simp [hU, hV, h5, h6, h7]
          rw [h7] at e1 e2
          rw [hL1, Bool.true_and] at hl
          (refine go1 (aj2 e1 e2) aj0 (aj8 hlt hb hb' hU hV h5 h6 h7) ?_; intros; refine mk_i ?_)
          refine Again.mk ⟨k + 1, by omega, hl⟩ (Sub.lit (by simp)) (by simp; omega)
          skip
         ·have hL1 : L = false := by rw [hLe]; simp [hU, hV, h5, h6, h7]
          rw [hL1, Bool.false_and] at hl
          have hR2 : R = false := by rw [hR]; unfold nameOK; rw [hl]; simp
          subst hR2
          exact go0 (aj2 e1 e2) aj0 (aj8 hlt hb hb' hU hV h5 h6 h7)
       ·have h7 : ¬ (b.toNat : Int) = 95 := by omega
        have hL1 : L = false := by rw [hLe]; simp [hU, hV, h5, h7]
        rw [hL1, Bool.false_and] at hl
        have hR2 : R = false := by rw [hR]; unfold nameOK; rw [hl]; simp
        subst hR2
        exact go0 (aj2 e1 e2) aj0 (aj7 hlt hb hb' hU hV h5 h7)
      ·rw [hV] at e2
       have hL1 : L = true := by rw [hLe]; simp [hU, hV]
       rw [hL1, Bool.true_and] at hl
       (refine go1 (aj2 e1 e2) aj0 (aj5 hlt hb hb' hU hV) ?_; intros; refine mk_i ?_)
       refine Again.mk ⟨k + 1, by omega, hl⟩ (Sub.lit (by simp)) (by simp; omega)
       skip
     ·rw [hU] at e1
      have hL1 : L = true := by rw [hLe]; simp [hU]
      rw [hL1, Bool.true_and] at hl
      (refine go1 (aj1 e1) aj0 (aj4 hlt hb hb' hU) ?_; intros; refine mk_i ?_)
      refine Again.mk ⟨k + 1, by omega, hl⟩ (Sub.lit (by simp)) (by simp; omega)
      skip
    ·have hkk : k = s.size := by omega
     subst hkk
     rw [← size_toList, List.drop_length] at hl
     have hR2 : R = true := by rw [hR]; unfold nameOK; rw [hl]; simp [h1, h2]
     subst hR2
     exact go0 aj0 aj0 aj0
  ·have g1 : ¬ (s.size : Int) < 1 := by omega
   have g2 : (16 : Int) < s.size := by omega
   have hR2 : R = false := by rw [hR]; unfold nameOK; simp [h2]
   subst hR2
   exact go0 aj0 aj0 (aj4 g1 g2 h1 h2)
 ·have g1 : (s.size : Int) < 1 := by omega
  have hR2 : R = false := by rw [hR]; unfold nameOK; simp [h1]
  subst hR2
  exact go0 aj0 aj0 (aj2 g1 h1)
def txtOK (k : Int) (s : ByteArray) : Bool := if k = 2 then nameOK s && headQ upI s else nameOK s && headQ loI s
abbrev dNode (k : Int) (s : ByteArray) (n : Int) : List DVal := [.int .i64 k, .str s, .int .i64 n]
def anWR1205 : Ann := ⟨[], []⟩
theorem may183_pure (k : Int) (hk : k = 2 ∨ k = 3) (s : ByteArray) : DPure Tryz.prog 205 [.agg (dNode k s 0)] (.bool (txtOK k s)) := by
 refine DPure_introF [] (fn := Tryz.f205) Tryz.func205 rfl Tryz.call205 (by simp [Tryz.ntmps205]) (by simp [mx]) ?_
 intro hwf B hnt
 simp only [Tryz.ntmps205] at hnt
 have hA := an_is anWR1205 Tryz.mixed (aj2 @anWR1205.eq_1 Tryz.results205)
 simp only [argS]
 have e1 := named196_pure 264 upI upper197_pure s
 have e2 := named196_pure 265 loI lower198_pure s
 unfold txtOK
 rcases hk with rfl | rfl
 ·exact go0 (aj2 e1 e2) aj0 (aj1 @dNode.eq_1)
 ·exact go0 (aj2 e1 e2) aj0 (aj1 @dNode.eq_1)
def anWR1133 : Ann := ⟨[], [⟨4, [5], [], []⟩]⟩
theorem whole151_pure (k : Int) (hk : k = 2 ∨ k = 3) (s : ByteArray) : DPure Tryz.prog 133 [.sl 3 32 [dNode k s 0]] (.bool (txtOK k s)) := by
 refine DPure_introF [] (fn := Tryz.f133) Tryz.func133 rfl Tryz.call133 (by simp [Tryz.ntmps133]) (by simp [mx]) ?_
 intro hwf B hnt
 simp only [Tryz.ntmps133] at hnt
 have hA := an_is anWR1133 Tryz.mixed (aj2 @anWR1133.eq_1 Tryz.results133)
 simp only [argS]
 have e1 := may183_pure k hk s
 obtain ⟨R, hR⟩ : ∃ R, R = txtOK k s := ⟨_, rfl⟩
 rw [← hR] at e1 ⊢
 (refine go1 aj0 aj0 (aj1 @dNode.eq_1) ?_; intros; refine mk_i ?_)
 refine DW_loop (X := {k : Nat // k = 0 ∨ k = 1 ∧ R = true}) (fun x => ⟨[(0, .sl 3 32 [dNode k s 0]), (3, .int .i64 (1 - x.1)), (6, .sl 3 32 [dNode k s 0]), (7, .int .i64 1), (8, .int .i64 x.1)], []⟩) (fun x => 1 - x.1) ⟨0, .inl rfl⟩ (Sub.lit (by simp [dNode])) ?_
 rintro ⟨x, rfl | ⟨rfl, rfl⟩⟩
 ·simp only [dNode] at e1
  cases R
  ·exact go0 (aj1 e1) aj0 (aj1 @dNode.eq_1)
  ·(refine go1 (aj1 e1) aj0 (aj1 @dNode.eq_1) ?_; intros; refine mk_i ?_)
   refine Again.mk ⟨1, .inr ⟨rfl, rfl⟩⟩ (Sub.lit (by simp [dNode])) (by simp)
   skip
 ·exact go0 aj0 aj0 (aj1 @dNode.eq_1)
end Go.Proofs.YtdgocjbakjamaaaGreat
end

section
namespace Go.Proofs.YtdgocjbakjamaaaGreat
open Go Go.Dm
variable [DMode]
structure Nd where
 k : Int
 s : ByteArray
 n : Int
 deriving DecidableEq
def dNd (x : Nd) : List DVal := [.int .i64 x.k, .str x.s, .int .i64 x.n]
abbrev dNds (l : List Nd) : DVal := .sl 3 32 (l.map dNd)
structure Rul where
 h : ByteArray
 b : List Nd
 deriving DecidableEq
def dRul (r : Rul) : List DVal := [.str r.h, dNds r.b]
abbrev dRuls (l : List Rul) : DVal := .sl 2 40 (l.map dRul)
@[simp] theorem mx_dNd (s : Nd) : mxL (dNd s) = 0 := by simp [dNd, mxL, mx]
@[simp] theorem mx_dNds (l : List Nd) : mxR (l.map dNd) = 0 := mxR0 _ mx_dNd l
@[simp] theorem mx_dRul (s : Rul) : mxL (dRul s) = 0 := by simp [dRul, mxL, mx]
@[simp] theorem mx_dRuls (l : List Rul) : mxR (l.map dRul) = 0 := mxR0 _ mx_dRul l
theorem len_nds {l : List Nd} (h : wfD (dNds l)) : l.length < 9223372036854775807 := by
 simp only [wfD, List.length_map] at h
 omega
theorem len_ruls {l : List Rul} (h : wfD (dRuls l)) : l.length < 9223372036854775807 := by
 simp only [wfD, List.length_map] at h
 omega
def emp (s : ByteArray) : Bool := decide (s = ⟨#[]⟩)
def mayN (x : Nd) : Bool :=
 if x.k = 1 then emp x.s && decide (x.n = 0)
 else if x.k = 2 then decide (x.n = 0) && (nameOK x.s && headQ upI x.s)
 else if x.k = 3 then decide (x.n = 0) && (nameOK x.s && headQ loI x.s)
 else if x.k = 4 then emp x.s && decide (2 ≤ x.n)
 else if x.k = 5 then emp x.s && decide (2 ≤ x.n)
 else if x.k = 6 then emp x.s && decide (x.n = 1)
 else if x.k = 7 then emp x.s && decide (x.n = 1)
 else if x.k = 8 then emp x.s && decide (x.n = 1)
 else false
theorem mayN_kids {x : Nd} (h : mayN x = true) : 0 ≤ x.n := by
 unfold mayN at h
 repeat' split at h
 all_goals simp only [Bool.and_eq_true, decide_eq_true_eq, Bool.false_eq_true] at h
 all_goals first | omega | (exact absurd h (by simp)) | (obtain ⟨h1, h2⟩ := h; omega)
theorem mayN_kind {x : Nd} (h : mayN x = true) : x.k = 1 ∨ x.k = 2 ∨ x.k = 3 ∨ x.k = 4 ∨ x.k = 5 ∨ x.k = 6 ∨ x.k = 7 ∨ x.k = 8 := by
 unfold mayN at h
 repeat' split at h
 all_goals first | omega | (exact absurd h (by simp))
theorem mayN_size {x : Nd} (h : mayN x = true) : x.s.size ≤ 16 := by
 have hn : ∀ s, nameOK s = true → s.size ≤ 16 := fun s hs => by unfold nameOK at hs; simp only [Bool.and_eq_true, decide_eq_true_eq] at hs; exact hs.1.2
 have he : ∀ s, emp s = true → s.size ≤ 16 := fun s hs => by unfold emp at hs; simp only [decide_eq_true_eq] at hs; subst hs; decide
 unfold mayN at h
 repeat' split at h
 all_goals simp only [Bool.and_eq_true, decide_eq_true_eq, Bool.false_eq_true] at h
 all_goals first | exact he _ h.1 | exact hn _ h.2.1 | (exact absurd h (by simp))
inductive RT where
 | mk (x : Nd) (ks : List RT)
def RT.x : RT → Nd
 | .mk x _ => x
def RT.ks : RT → List RT
 | .mk _ ks => ks
mutual
def flat : RT → List Nd
 | .mk x ks => x :: flatL ks
def flatL : List RT → List Nd
 | [] => []
 | t :: ts => flat t ++ flatL ts
end
mutual
def okT : RT → Bool
 | .mk x ks => mayN x && (decide (x.n = (ks.length : Int)) && okL ks)
def okL : List RT → Bool
 | [] => true
 | t :: ts => okT t && okL ts
end
theorem okT_mk {x : Nd} {ks : List RT} (h : okT (.mk x ks) = true) : mayN x = true ∧ x.n = (ks.length : Int) ∧ okL ks = true := by
 unfold okT at h
 simp only [Bool.and_eq_true, decide_eq_true_eq] at h
 exact h
theorem okL_cons {t : RT} {ts : List RT} (h : okL (t :: ts) = true) : okT t = true ∧ okL ts = true := by
 unfold okL at h
 simp only [Bool.and_eq_true] at h
 exact h
theorem okL_mem {ts : List RT} (h : okL ts = true) : ∀ t ∈ ts, okT t = true := by
 induction ts with
 | nil => simp
 | cons t ts ih =>
  obtain ⟨h1, h2⟩ := okL_cons h
  intro u hu
  rcases List.mem_cons.1 hu with rfl | hu
  ·exact h1
  ·exact ih h2 u hu
theorem okL_app : ∀ (a b : List RT), okL (a ++ b) = (okL a && okL b)
 | [], b => by simp [okL]
 | t :: a, b => by simp [okL, okL_app a b, Bool.and_assoc]
theorem flatL_app : ∀ (a b : List RT), flatL (a ++ b) = flatL a ++ flatL b
 | [], b => by simp [flatL]
 | t :: a, b => by simp [flatL, flatL_app a b]
theorem flat_len (t : RT) : 1 ≤ (flat t).length := by cases t; simp [flat]
theorem flat_mk (x : Nd) (ks : List RT) : flat (.mk x ks) = x :: flatL ks := by rw [flat]
theorem flatL_cons (t : RT) (ts : List RT) : flatL (t :: ts) = flat t ++ flatL ts := by rw [flatL]
def endN : List Nd → Nat → Option (List Nd)
 | l, 0 => some l
 | [], _ + 1 => none
 | x :: l, w + 1 => if mayN x then endN l (w + x.n.toNat) else none
theorem endN_zero (l : List Nd) : endN l 0 = some l := by unfold endN; cases l <;> rfl
theorem endN_nil (w : Nat) : endN [] (w + 1) = none := by unfold endN; rfl
theorem endN_cons (x : Nd) (l : List Nd) (w : Nat) : endN (x :: l) (w + 1) = if mayN x then endN l (w + x.n.toNat) else none := by rw [endN]
mutual
theorem endN_flat : ∀ (t : RT) (r : List Nd) (w : Nat), okT t = true → endN (flat t ++ r) (w + 1) = endN r w
 | .mk x ks, r, w, h => by
  obtain ⟨h1, h2, h3⟩ := okT_mk h
  rw [flat_mk, List.cons_append, endN_cons, if_pos h1, h2, Int.toNat_natCast]
  exact endN_flatL ks r w h3
theorem endN_flatL : ∀ (ts : List RT) (r : List Nd) (w : Nat), okL ts = true → endN (flatL ts ++ r) (w + ts.length) = endN r w
 | [], r, w, h => by simp [flatL]
 | t :: ts, r, w, h => by
  obtain ⟨h1, h2⟩ := okL_cons h
  rw [flatL_cons, List.append_assoc, List.length_cons, ← Nat.add_assoc, endN_flat t _ _ h1, endN_flatL ts r w h2]
end
theorem endN_tree : ∀ (l : List Nd) (w : Nat) (r : List Nd), endN l w = some r → ∃ ts : List RT, ts.length = w ∧ okL ts = true ∧ l = flatL ts ++ r := by
 intro l
 induction l with
 | nil =>
  intro w r h
  cases w with
  | zero => rw [endN_zero] at h; simp only [Option.some.injEq] at h; exact ⟨[], rfl, rfl, by simp [flatL, h]⟩
  | succ w => rw [endN_nil] at h; simp at h
 | cons x l ih =>
  intro w r h
  cases w with
  | zero => rw [endN_zero] at h; simp only [Option.some.injEq] at h; exact ⟨[], rfl, rfl, by simp [flatL, h]⟩
  | succ w =>
   rw [endN_cons] at h
   split at h
   ·rename_i hm
    obtain ⟨ts, h1, h2, rfl⟩ := ih _ _ h
    have hk := mayN_kids hm
    refine ⟨.mk x (ts.take x.n.toNat) :: ts.drop x.n.toNat, by simp; omega, ?_, ?_⟩
    ·have h3 := okL_app (ts.take x.n.toNat) (ts.drop x.n.toNat)
     rw [List.take_append_drop, h2] at h3
     have h4 : okL (ts.take x.n.toNat) = true ∧ okL (ts.drop x.n.toNat) = true := by simpa using h3.symm
     have h5 : x.n = ((ts.take x.n.toNat).length : Int) := by rw [List.length_take]; omega
     unfold okL okT
     rw [hm, decide_eq_true h5, h4.1, h4.2]
     rfl
    ·rw [flatL_cons, flat_mk, List.cons_append, List.cons_append, List.append_assoc, ← List.append_assoc (flatL _), ← flatL_app, List.take_append_drop]
   ·simp at h
theorem endN_big : ∀ (l : List Nd) (w : Nat), l.length < w → endN l w = none
 | _, 0, h => by omega
 | [], w + 1, _ => endN_nil w
 | x :: l, w + 1, h => by
  rw [endN_cons]
  split
  ·exact endN_big l _ (by simp at h; omega)
  ·rfl
def wholeB (l : List Nd) : Bool := match endN l 1 with
 | some [] => true
 | _ => false
theorem whole_tree {l : List Nd} (h : wholeB l = true) : ∃ t, okT t = true ∧ l = flat t := by
 unfold wholeB at h
 split at h
 ·rename_i he
  obtain ⟨ts, h1, h2, h3⟩ := endN_tree _ _ _ he
  match ts, h1, h2, h3 with
  | [t], _, h2, h3 =>
   refine ⟨t, (okL_cons h2).1, ?_⟩
   rw [h3, flatL_cons]
   simp [flatL]
 ·simp at h
theorem tree_whole {t : RT} (h : okT t = true) : wholeB (flat t) = true := by
 unfold wholeB
 have := endN_flat t [] 0 h
 rw [List.append_nil, endN_zero] at this
 rw [this]
theorem okT_all {t : RT} (h : okT t = true) : ∀ x ∈ flat t, mayN x = true := by
 have key : ∀ (l : List Nd) (w : Nat) (r : List Nd), endN l w = some r → ∀ x ∈ l, x ∈ r ∨ mayN x = true := by
  intro l
  induction l with
  | nil => intro w r _ x hx; simp at hx
  | cons y l ih =>
   intro w r he x hx
   cases w with
   | zero => rw [endN_zero] at he; simp only [Option.some.injEq] at he; subst he; exact .inl hx
   | succ w =>
    rw [endN_cons] at he
    split at he
    ·rename_i hm
     rcases List.mem_cons.1 hx with rfl | hx
     ·exact .inr hm
     ·exact ih _ _ he x hx
    ·simp at he
 intro x hx
 have := endN_flat t [] 0 h
 rw [List.append_nil, endN_zero] at this
 rcases key _ _ _ this x hx with h | h
 ·simp at h
 ·exact h
theorem flatL_len : ∀ ts : List RT, ts.length ≤ (flatL ts).length
 | [] => by simp
 | t :: ts => by
  have := flatL_len ts
  have := flat_len t
  rw [flatL_cons]
  simp
  omega
mutual
theorem kids_leT : ∀ (t : RT), okT t = true → ∀ x ∈ flat t, x.n ≤ ((flat t).length : Int)
 | .mk y ks, h, x, hx => by
  obtain ⟨h1, h2, h3⟩ := okT_mk h
  have := flatL_len ks
  rw [flat_mk] at hx ⊢
  rw [List.length_cons]
  rcases List.mem_cons.1 hx with rfl | hx
  ·omega
  ·have := kids_leL ks h3 x hx; omega
theorem kids_leL : ∀ (ts : List RT), okL ts = true → ∀ x ∈ flatL ts, x.n ≤ ((flatL ts).length : Int)
 | [], _, x, hx => by simp [flatL] at hx
 | t :: ts, h, x, hx => by
  obtain ⟨h1, h2⟩ := okL_cons h
  rw [flatL_cons] at hx ⊢
  rw [List.length_append]
  rcases List.mem_append.1 hx with hx | hx
  ·have := kids_leT t h1 x hx; omega
  ·have := kids_leL ts h2 x hx; omega
end
end Go.Proofs.YtdgocjbakjamaaaGreat
end

section
namespace Go.Proofs.YtdgocjbakjamaaaGreat
open Go Go.Dm
variable [DMode]
mutual
def htT : RT → Nat
 | .mk _ ks => htL ks + 1
def htL : List RT → Nat
 | [] => 0
 | t :: ts => max (htT t) (htL ts)
end
theorem htT_mk (x : Nd) (ks : List RT) : htT (.mk x ks) = htL ks + 1 := by rw [htT]
theorem htL_cons (t : RT) (ts : List RT) : htL (t :: ts) = max (htT t) (htL ts) := by rw [htL]
theorem htL_nil : htL [] = 0 := by rw [htL]
def fin : List Nat → List Nat
 | [] => []
 | c :: s => if c = 1 then fin s else (c - 1) :: s
def hstep (p : List Nat × Nat) (x : Nd) : List Nat × Nat := (if x.n.toNat = 0 then fin p.1 else x.n.toNat :: p.1, max p.2 (p.1.length + 1))
mutual
theorem hfold_flat : ∀ (t : RT) (s : List Nat) (m : Nat), okT t = true → (flat t).foldl hstep (s, m) = (fin s, max m (s.length + htT t))
 | .mk x ks, s, m, h => by
  obtain ⟨h1, h2, h3⟩ := okT_mk h
  rw [flat_mk, List.foldl_cons, htT_mk]
  unfold hstep
  rw [h2, Int.toNat_natCast]
  cases ks with
  | nil => simp [flatL, htL_nil]
  | cons t ts =>
   have := hfold_flatL (t :: ts) s (max m (s.length + 1)) h3 (by simp)
   simp only [List.length_cons] at this ⊢
   rw [if_neg (by omega)]
   unfold hstep at this
   rw [this]
   congr 1
   omega
theorem hfold_flatL : ∀ (ts : List RT) (s : List Nat) (m : Nat), okL ts = true → ts ≠ [] → (flatL ts).foldl hstep (ts.length :: s, m) = (fin s, max m (s.length + 1 + htL ts))
 | [], s, m, h, hne => absurd rfl hne
 | [t], s, m, h, hne => by
  obtain ⟨h1, h2⟩ := okL_cons h
  have := hfold_flat t (1 :: s) m h1
  rw [flatL_cons, List.foldl_append]
  simp only [List.length_cons, List.length_nil, Nat.zero_add] at this ⊢
  rw [this, htL_cons, htL_nil]
  simp [flatL, fin]
 | t :: u :: r, s, m, h, hne => by
  obtain ⟨h1, h2⟩ := okL_cons h
  have h3 := hfold_flat t (((u :: r).length + 1) :: s) m h1
  have h4 := hfold_flatL (u :: r) s (max m (s.length + 1 + htT t)) h2 (by simp)
  rw [flatL_cons, List.foldl_append, List.length_cons, h3]
  have e : fin (((u :: r).length + 1) :: s) = (u :: r).length :: s := by
   simp only [fin]
   rw [if_neg (by simp)]
   simp
  rw [e]
  have e2 : max m ((((u :: r).length + 1) :: s).length + htT t) = max m (s.length + 1 + htT t) := by rw [List.length_cons]
  rw [e2, h4, htL_cons t]
  congr 1
  omega
end
theorem height_flat {t : RT} (h : okT t = true) : (flat t).foldl hstep ([], 0) = ([], htT t) := by
 rw [hfold_flat t [] 0 h]
 simp [fin]
def popR : List Nat → List Nat
 | [] => []
 | c :: s => if c = 0 then fin s else c :: s
def pos (s : List Nat) : Prop := ∀ c ∈ s, 1 ≤ c ∧ c ≤ 1310720
theorem popR_step {c : Nat} {s : List Nat} (h : 1 ≤ c) : popR ((c - 1) :: s) = fin (c :: s) := by
 rw [show popR ((c - 1) :: s) = if c - 1 = 0 then fin s else (c - 1) :: s from rfl, show fin (c :: s) = if c = 1 then fin s else (c - 1) :: s from rfl]
 by_cases h1 : c = 1
 ·rw [if_pos (by omega), if_pos h1]
 ·rw [if_neg (by omega), if_neg h1]
theorem fin_len : ∀ s : List Nat, (fin s).length ≤ s.length
 | [] => by simp [fin]
 | c :: s => by
  unfold fin
  split
  ·have := fin_len s; simp; omega
  ·simp
theorem fin_pos : ∀ {s : List Nat}, pos s → pos (fin s)
 | [], _ => by intro c hc; simp [fin] at hc
 | c :: s, h => by
  unfold fin
  split
  ·exact fin_pos fun d hd => h d (List.mem_cons_of_mem _ hd)
  ·intro d hd
   have hc := h c List.mem_cons_self
   rcases List.mem_cons.1 hd with rfl | hd
   ·omega
   ·exact h d (List.mem_cons_of_mem _ hd)
theorem hstep_len (p : List Nat × Nat) (x : Nd) : (hstep p x).1.length ≤ p.1.length + 1 := by
 unfold hstep
 simp only
 split
 ·have := fin_len p.1; omega
 ·simp
theorem hstep_pos {p : List Nat × Nat} (x : Nd) (hx : x.n.toNat ≤ 1310720) (h : pos p.1) : pos (hstep p x).1 := by
 unfold hstep
 simp only
 split
 ·exact fin_pos h
 ·intro d hd
  rcases List.mem_cons.1 hd with rfl | hd
  ·omega
  ·exact h d hd
theorem popR_push (c : Nat) (s : List Nat) : popR (c :: s) = if c = 0 then fin s else c :: s := rfl
def dstk (s : List Nat) : List (List DVal) := (s.map fun c : Nat => [DVal.int .i64 (c : Int)]).reverse
theorem dstk_len (s : List Nat) : (dstk s).length = s.length := by simp [dstk]
theorem dstk_cons (c : Nat) (s : List Nat) : dstk (c :: s) = dstk s ++ [[.int .i64 (c : Int)]] := by simp [dstk]
theorem dstk_nil : dstk [] = [] := rfl
@[simp] theorem mx_dstk (s : List Nat) : mxR (dstk s) = 0 := by
 unfold dstk
 exact Nat.le_zero.1 (mxR_le' fun d hd => by
  obtain ⟨c, _, rfl⟩ := List.mem_map.1 (List.mem_reverse.1 hd)
  simp [mxL, mx])
theorem dstk_top (c : Nat) (s : List Nat) : (dstk (c :: s))[s.length]? = some [.int .i64 (c : Int)] := by
 rw [dstk_cons, List.getElem?_append_right (by rw [dstk_len]; omega), dstk_len, Nat.sub_self]; rfl
theorem dstk_take (c : Nat) (s : List Nat) : (dstk (c :: s)).take s.length = dstk s := by
 rw [dstk_cons, List.take_append_of_le_length (by rw [dstk_len]; omega), List.take_of_length_le (by rw [dstk_len]; omega)]
theorem dstk_set (c d : Nat) (s : List Nat) : (dstk (c :: s)).set s.length [.int .i64 (d : Int)] = dstk (d :: s) := by
 rw [dstk_cons, dstk_cons, List.set_append_right _ _ (by rw [dstk_len]; omega), dstk_len, Nat.sub_self]; rfl
end Go.Proofs.YtdgocjbakjamaaaGreat
end

section
namespace Go.Proofs.YtdgocjbakjamaaaGreat
open Go Go.Dm
variable [DMode]
mutual
def empT : RT → Bool
 | .mk x ks => if x.k = 2 ∨ x.k = 3 then false else if x.k = 5 then anyE ks else if x.k = 4 ∨ x.k = 7 then allE ks else true
def anyE : List RT → Bool
 | [] => false
 | t :: ts => empT t || anyE ts
def allE : List RT → Bool
 | [] => true
 | t :: ts => empT t && allE ts
end
theorem empT_mk (x : Nd) (ks : List RT) : empT (.mk x ks) = if x.k = 2 ∨ x.k = 3 then false else if x.k = 5 then anyE ks else if x.k = 4 ∨ x.k = 7 then allE ks else true := by rw [empT]
theorem anyE_any : ∀ ts : List RT, anyE ts = ts.any empT
 | [] => by rw [anyE]; rfl
 | t :: ts => by rw [anyE, anyE_any ts]; rfl
theorem allE_all : ∀ ts : List RT, allE ts = ts.all empT
 | [] => by rw [allE]; rfl
 | t :: ts => by rw [allE, allE_all ts]; rfl
theorem allE_cons (t : RT) (ts : List RT) : allE (t :: ts) = (empT t && allE ts) := by rw [allE]
theorem allE_nil : allE [] = true := by rw [allE]
theorem allE_snoc (ts : List RT) (t : RT) : allE (ts ++ [t]) = (allE ts && empT t) := by rw [allE_all, allE_all, List.all_append]; simp
def joinP (l f : List Nat) : List (Nat × Nat) := l.flatMap fun p => f.map fun q => (p, q)
theorem mem_joinP {l f : List Nat} {p q : Nat} : (p, q) ∈ joinP l f ↔ p ∈ l ∧ q ∈ f := by
 unfold joinP
 simp only [List.mem_flatMap, List.mem_map, _root_.Prod.mk.injEq]
 constructor
 ·rintro ⟨a, ha, b, hb, rfl, rfl⟩; exact ⟨ha, hb⟩
 ·rintro ⟨ha, hb⟩; exact ⟨p, ha, q, hb, rfl, rfl⟩
theorem joinP_nil (f : List Nat) : joinP [] f = [] := rfl
mutual
def fiT : RT → Nat → List Nat
 | .mk x ks, a => if x.k = 2 ∨ x.k = 3 then [a] else fiL x.k ks (a + 1)
def fiL (k : Int) : List RT → Nat → List Nat
 | [], _ => []
 | u :: us, a => fiT u a ++ (if k = 4 ∧ empT u = false then [] else fiL k us (a + (flat u).length))
end
mutual
def laT : RT → Nat → List Nat
 | .mk x ks, a => if x.k = 2 ∨ x.k = 3 then [a] else laL x.k ks (a + 1)
def laL (k : Int) : List RT → Nat → List Nat
 | [], _ => []
 | u :: us, a => if k = 4 then laL k us (a + (flat u).length) ++ (if allE us = true then laT u a else []) else laT u a ++ laL k us (a + (flat u).length)
end
mutual
def arT : RT → Nat → List (Nat × Nat)
 | .mk x ks, a => if x.k = 2 ∨ x.k = 3 then [] else arL x.k ks (a + 1) [] ++ (if x.k = 6 ∨ x.k = 7 then joinP (laL x.k ks (a + 1)) (fiL x.k ks (a + 1)) else [])
def arL (k : Int) : List RT → Nat → List Nat → List (Nat × Nat)
 | [], _, _ => []
 | u :: us, a, acc => arT u a ++ ((if k = 4 then joinP acc (fiT u a) else []) ++ arL k us (a + (flat u).length) (if k = 4 then laT u a ++ (if empT u = true then acc else []) else []))
end
theorem fiT_mk (x : Nd) (ks : List RT) (a : Nat) : fiT (.mk x ks) a = if x.k = 2 ∨ x.k = 3 then [a] else fiL x.k ks (a + 1) := by rw [fiT]
theorem fiL_nil (k : Int) (a : Nat) : fiL k [] a = [] := by rw [fiL]
theorem fiL_cons (k : Int) (u : RT) (us : List RT) (a : Nat) : fiL k (u :: us) a = fiT u a ++ (if k = 4 ∧ empT u = false then [] else fiL k us (a + (flat u).length)) := by rw [fiL]
theorem laT_mk (x : Nd) (ks : List RT) (a : Nat) : laT (.mk x ks) a = if x.k = 2 ∨ x.k = 3 then [a] else laL x.k ks (a + 1) := by rw [laT]
theorem laL_nil (k : Int) (a : Nat) : laL k [] a = [] := by rw [laL]
theorem laL_cons (k : Int) (u : RT) (us : List RT) (a : Nat) : laL k (u :: us) a = if k = 4 then laL k us (a + (flat u).length) ++ (if allE us = true then laT u a else []) else laT u a ++ laL k us (a + (flat u).length) := by rw [laL]
theorem arT_mk (x : Nd) (ks : List RT) (a : Nat) : arT (.mk x ks) a = if x.k = 2 ∨ x.k = 3 then [] else arL x.k ks (a + 1) [] ++ (if x.k = 6 ∨ x.k = 7 then joinP (laL x.k ks (a + 1)) (fiL x.k ks (a + 1)) else []) := by rw [arT]
theorem arL_nil (k : Int) (a : Nat) (acc : List Nat) : arL k [] a acc = [] := by rw [arL]
theorem arL_cons (k : Int) (u : RT) (us : List RT) (a : Nat) (acc : List Nat) : arL k (u :: us) a acc = arT u a ++ ((if k = 4 then joinP acc (fiT u a) else []) ++ arL k us (a + (flat u).length) (if k = 4 then laT u a ++ (if empT u = true then acc else []) else [])) := by rw [arL]
theorem flatL_nil : flatL [] = [] := by rw [flatL]
theorem fiL_snoc (k : Int) (u : RT) : ∀ (us : List RT) (a : Nat), fiL k (us ++ [u]) a = fiL k us a ++ (if k = 4 ∧ allE us = false then [] else fiT u (a + (flatL us).length))
 | [], a => by simp [fiL_nil, fiL_cons, allE_nil, flatL_nil]
 | v :: us, a => by
  rw [List.cons_append, fiL_cons, fiL_cons, fiL_snoc k u us, allE_cons, flatL_cons, List.length_append, ← Nat.add_assoc, List.append_assoc]
  by_cases h4 : k = 4 <;> cases hv : empT v <;> simp [h4]
theorem laL_snoc (k : Int) (u : RT) : ∀ (us : List RT) (a : Nat), laL k (us ++ [u]) a = if k = 4 then laT u (a + (flatL us).length) ++ (if empT u = true then laL k us a else []) else laL k us a ++ laT u (a + (flatL us).length)
 | [], a => by simp [laL_nil, laL_cons, allE_nil, flatL_nil]
 | v :: us, a => by
  rw [List.cons_append, laL_cons, laL_cons, laL_snoc k u us, allE_snoc, flatL_cons, List.length_append, ← Nat.add_assoc]
  by_cases h4 : k = 4
  ·cases hu : empT u <;> cases hs : allE us <;> simp [h4]
  ·simp [h4]
theorem arL_snoc4 (u : RT) : ∀ (us : List RT) (a : Nat) (acc : List Nat), arL 4 (us ++ [u]) a acc = arL 4 us a acc ++ (arT u (a + (flatL us).length) ++ joinP (laL 4 us a ++ (if allE us = true then acc else [])) (fiT u (a + (flatL us).length)))
 | [], a, acc => by simp [arL_nil, arL_cons, laL_nil, allE_nil, flatL_nil]
 | v :: us, a, acc => by
  rw [List.cons_append, arL_cons, arL_cons, arL_snoc4 u us, allE_cons, flatL_cons, List.length_append, ← Nat.add_assoc, laL_cons]
  cases hv : empT v <;> cases hs : allE us <;> simp [List.append_assoc]
theorem arL_snoc (k : Int) (h4 : ¬ k = 4) (u : RT) : ∀ (us : List RT) (a : Nat), arL k (us ++ [u]) a [] = arL k us a [] ++ arT u (a + (flatL us).length)
 | [], a => by simp [arL_nil, arL_cons, flatL_nil, h4]
 | v :: us, a => by
  rw [List.cons_append, arL_cons, arL_cons, flatL_cons, List.length_append, ← Nat.add_assoc]
  simp only [h4, if_false, List.nil_append]
  rw [arL_snoc k h4 u us, List.append_assoc]
-- where these lie
mutual
theorem fiT_in : ∀ (t : RT) (a q : Nat), q ∈ fiT t a → a ≤ q ∧ q < a + (flat t).length
 | .mk x ks, a, q, h => by
  rw [fiT_mk] at h
  rw [flat_mk, List.length_cons]
  split at h
  ·simp at h; omega
  ·have := fiL_in x.k ks (a + 1) q h; omega
theorem fiL_in (k : Int) : ∀ (us : List RT) (a q : Nat), q ∈ fiL k us a → a ≤ q ∧ q < a + (flatL us).length
 | [], a, q, h => by simp [fiL_nil] at h
 | u :: us, a, q, h => by
  rw [fiL_cons, List.mem_append] at h
  rw [flatL_cons, List.length_append]
  rcases h with h | h
  ·have := fiT_in u a q h; omega
  ·split at h
   ·simp at h
   ·have := fiL_in k us _ q h; omega
end
mutual
theorem laT_in : ∀ (t : RT) (a q : Nat), q ∈ laT t a → a ≤ q ∧ q < a + (flat t).length
 | .mk x ks, a, q, h => by
  rw [laT_mk] at h
  rw [flat_mk, List.length_cons]
  split at h
  ·simp at h; omega
  ·have := laL_in x.k ks (a + 1) q h; omega
theorem laL_in (k : Int) : ∀ (us : List RT) (a q : Nat), q ∈ laL k us a → a ≤ q ∧ q < a + (flatL us).length
 | [], a, q, h => by simp [laL_nil] at h
 | u :: us, a, q, h => by
  rw [laL_cons] at h
  rw [flatL_cons, List.length_append]
  have key : q ∈ laT u a ∨ q ∈ laL k us (a + (flat u).length) := by
   split at h
   ·rcases List.mem_append.1 h with h | h
    ·exact .inr h
    ·split at h
     ·exact .inl h
     ·simp at h
   ·exact List.mem_append.1 h
  rcases key with h | h
  ·have := laT_in u a q h; omega
  ·have := laL_in k us _ q h; omega
end
mutual
theorem arT_in : ∀ (t : RT) (a p q : Nat), (p, q) ∈ arT t a → (a ≤ p ∧ p < a + (flat t).length) ∧ (a ≤ q ∧ q < a + (flat t).length)
 | .mk x ks, a, p, q, h => by
  rw [arT_mk] at h
  rw [flat_mk, List.length_cons]
  split at h
  ·simp at h
  ·rcases List.mem_append.1 h with h | h
   ·rcases arL_in x.k ks (a + 1) [] p q h with ⟨h1 | h1, h2⟩
    ·omega
    ·simp at h1
   ·split at h
    ·obtain ⟨h1, h2⟩ := mem_joinP.1 h
     have := laL_in x.k ks _ p h1
     have := fiL_in x.k ks _ q h2
     omega
    ·simp at h
theorem arL_in (k : Int) : ∀ (us : List RT) (a : Nat) (acc : List Nat) (p q : Nat), (p, q) ∈ arL k us a acc → ((a ≤ p ∧ p < a + (flatL us).length) ∨ p ∈ acc) ∧ (a ≤ q ∧ q < a + (flatL us).length)
 | [], a, acc, p, q, h => by simp [arL_nil] at h
 | u :: us, a, acc, p, q, h => by
  rw [arL_cons] at h
  rw [flatL_cons, List.length_append]
  simp only [List.mem_append] at h
  rcases h with h | h | h
  ·have := arT_in u a p q h; omega
  ·split at h
   ·obtain ⟨h1, h2⟩ := mem_joinP.1 h
    have := fiT_in u a q h2
    exact ⟨.inr h1, by omega⟩
   ·simp at h
  ·obtain ⟨h1, h2⟩ := arL_in k us _ _ p q h
   refine ⟨?_, by omega⟩
   rcases h1 with h1 | h1
   ·left; omega
   ·split at h1
    ·rcases List.mem_append.1 h1 with h1 | h1
     ·have := laT_in u a p h1; left; omega
     ·split at h1
      ·exact .inr h1
      ·simp at h1
    ·simp at h1
end
def inB (u : RT) (a p : Nat) : Bool := decide (a ≤ p) && decide (p < a + (flat u).length)
theorem inB_iff {u : RT} {a p : Nat} : inB u a p = true ↔ a ≤ p ∧ p < a + (flat u).length := by unfold inB; simp
theorem inB_f {u : RT} {a p : Nat} (h : p < a ∨ a + (flat u).length ≤ p) : inB u a p = false := by
 rw [Bool.eq_false_iff]; intro hh; rw [inB_iff] at hh; omega
mutual
def bgT : RT → Nat → Nat → Bool
 | .mk x ks, a, p => decide (a = p) || bgL x.k ks (a + 1) p
def bgL (k : Int) : List RT → Nat → Nat → Bool
 | [], _, _ => false
 | u :: us, a, p => (inB u a p && bgT u a p) || (if k = 4 ∧ empT u = false then false else bgL k us (a + (flat u).length) p)
end
mutual
def enT : RT → Nat → Nat → Bool
 | .mk x ks, a, p => decide (a = p) || enL x.k ks (a + 1) p
def enL (k : Int) : List RT → Nat → Nat → Bool
 | [], _, _ => false
 | u :: us, a, p => enL k us (a + (flat u).length) p || ((!decide (k = 4) || allE us) && (inB u a p && enT u a p))
end
def afL : List RT → Nat → Nat → Bool
 | [], _, _ => false
 | u :: us, a, q => if inB u a q then bgT u a q else if empT u then afL us (a + (flat u).length) q else false
def irL : List RT → Nat → Nat → Nat → Bool
 | [], _, _, _ => false
 | u :: us, a, p, q => if inB u a p then enT u a p && afL us (a + (flat u).length) q else irL us (a + (flat u).length) p q
def hdL : List RT → Nat → Nat → Nat → Bool
 | [], _, _, _ => false
 | u :: _, a, p, q => enT u a p && bgT u a q
mutual
def foT : RT → Nat → Nat → Nat → Bool
 | .mk x ks, a, p, q => if (decide (x.k = 6) || decide (x.k = 7)) && hdL ks (a + 1) p q then true else match foL ks (a + 1) p q with
  | some b => b
  | none => decide (x.k = 4) && irL ks (a + 1) p q
def foL : List RT → Nat → Nat → Nat → Option Bool
 | [], _, _, _ => none
 | u :: us, a, p, q => if inB u a p && inB u a q then some (foT u a p q) else foL us (a + (flat u).length) p q
end
theorem bgT_mk (x : Nd) (ks : List RT) (a p : Nat) : bgT (.mk x ks) a p = (decide (a = p) || bgL x.k ks (a + 1) p) := by rw [bgT]
theorem bgL_nil (k : Int) (a p : Nat) : bgL k [] a p = false := by rw [bgL]
theorem bgL_cons (k : Int) (u : RT) (us : List RT) (a p : Nat) : bgL k (u :: us) a p = ((inB u a p && bgT u a p) || (if k = 4 ∧ empT u = false then false else bgL k us (a + (flat u).length) p)) := by rw [bgL]
theorem enT_mk (x : Nd) (ks : List RT) (a p : Nat) : enT (.mk x ks) a p = (decide (a = p) || enL x.k ks (a + 1) p) := by rw [enT]
theorem enL_nil (k : Int) (a p : Nat) : enL k [] a p = false := by rw [enL]
theorem enL_cons (k : Int) (u : RT) (us : List RT) (a p : Nat) : enL k (u :: us) a p = (enL k us (a + (flat u).length) p || ((!decide (k = 4) || allE us) && (inB u a p && enT u a p))) := by rw [enL]
theorem enL_snoc (k : Int) (u : RT) (p : Nat) : ∀ (us : List RT) (a : Nat), enL k (us ++ [u]) a p = ((inB u (a + (flatL us).length) p && enT u (a + (flatL us).length) p) || (if k = 4 ∧ empT u = false then false else enL k us a p))
 | [], a => by simp [enL_nil, enL_cons, allE_nil, flatL_nil]
 | v :: us, a => by
  rw [List.cons_append, enL_cons, enL_cons, enL_snoc k u p us, allE_snoc, flatL_cons, List.length_append, ← Nat.add_assoc]
  by_cases h4 : k = 4
  ·cases hu : empT u <;> cases hs : allE us <;> simp [h4, Bool.or_assoc]
  ·simp [h4, Bool.or_assoc]
theorem foT_mk (x : Nd) (ks : List RT) (a p q : Nat) : foT (.mk x ks) a p q = if (decide (x.k = 6) || decide (x.k = 7)) && hdL ks (a + 1) p q then true else match foL ks (a + 1) p q with
 | some b => b
 | none => decide (x.k = 4) && irL ks (a + 1) p q := by rw [foT]
theorem foL_nil (a p q : Nat) : foL [] a p q = none := by rw [foL]
theorem foL_cons (u : RT) (us : List RT) (a p q : Nat) : foL (u :: us) a p q = if inB u a p && inB u a q then some (foT u a p q) else foL us (a + (flat u).length) p q := by rw [foL]
theorem afL_low : ∀ (us : List RT) (a q : Nat), q < a → afL us a q = false
 | [], _, _, _ => rfl
 | u :: us, a, q, h => by
  rw [afL, inB_f (.inl h)]
  simp only [Bool.false_eq_true, if_false]
  rw [afL_low us _ q (by omega)]
  simp
theorem irL_low : ∀ (us : List RT) (a p q : Nat), p < a ∨ q < a → irL us a p q = false
 | [], _, _, _, _ => rfl
 | u :: us, a, p, q, h => by
  rw [irL]
  split
  ·rename_i hp
   rw [inB_iff] at hp
   rw [afL_low us _ q (by omega), Bool.and_false]
  ·exact irL_low us _ p q (by omega)
theorem foL_low : ∀ (us : List RT) (a p q : Nat), p < a ∨ q < a → foL us a p q = none
 | [], _, _, _, _ => by rw [foL_nil]
 | u :: us, a, p, q, h => by
  rw [foL_cons, if_neg]
  ·exact foL_low us _ p q (by omega)
  ·intro hh
   rw [Bool.and_eq_true, inB_iff, inB_iff] at hh
   omega
def Lf (l : List Nd) (a p : Nat) : Prop := ∀ x, a ≤ p → l[p - a]? = some x → x.k = 2 ∨ x.k = 3
theorem Lf.left {l m : List Nd} {a p : Nat} (h : Lf (l ++ m) a p) : Lf l a p := fun x h1 h2 => h x h1 (by
 rw [List.getElem?_append_left (List.getElem?_eq_some_iff.1 h2).1]; exact h2)
theorem Lf.right {l m : List Nd} {a p : Nat} (h : Lf (l ++ m) a p) : Lf m (a + l.length) p := fun x h1 h2 => h x (by omega) (by
 rw [List.getElem?_append_right (by omega), Nat.sub_sub]; exact h2)
theorem Lf.kids {x : Nd} {ks : List RT} {a p : Nat} (h : Lf (flat (.mk x ks)) a p) : Lf (flatL ks) (a + 1) p := fun y h1 h2 => h y (by omega) (by
 rw [flat_mk, show p - a = (p - (a + 1)) + 1 by omega, List.getElem?_cons_succ]; exact h2)
theorem Lf.head {x : Nd} {ks : List RT} {a p : Nat} (h : Lf (flat (.mk x ks)) a p) (hx : ¬ (x.k = 2 ∨ x.k = 3)) : a ≠ p := fun e => hx (h x (by omega) (by rw [flat_mk, show p - a = 0 by omega]; rfl))
theorem leaf_nil {x : Nd} {ks : List RT} (h : okT (.mk x ks) = true) (hx : x.k = 2 ∨ x.k = 3) : ks = [] := by
 obtain ⟨h1, h2, _⟩ := okT_mk h
 unfold mayN at h1
 have h0 : x.n = 0 := by
  rcases hx with hx | hx
  ·rw [if_neg (by omega), if_pos hx] at h1; simp only [Bool.and_eq_true, decide_eq_true_eq] at h1; exact h1.1
  ·rw [if_neg (by omega), if_neg (by omega), if_pos hx] at h1; simp only [Bool.and_eq_true, decide_eq_true_eq] at h1; exact h1.1
 exact List.eq_nil_of_length_eq_zero (by omega)
theorem one_kid {x : Nd} {ks : List RT} (h : okT (.mk x ks) = true) (hx : x.k = 6 ∨ x.k = 7 ∨ x.k = 8) : ∃ u, ks = [u] := by
 obtain ⟨h1, h2, _⟩ := okT_mk h
 unfold mayN at h1
 have h0 : x.n = 1 := by
  rcases hx with hx | hx | hx <;> simp [hx] at h1 <;> exact h1.2
 exact List.length_eq_one_iff.1 (by omega)
mutual
theorem bg_iff : ∀ (t : RT) (a p : Nat), okT t = true → Lf (flat t) a p → (p ∈ fiT t a ↔ bgT t a p = true)
 | .mk x ks, a, p, ok, hl => by
  rw [fiT_mk, bgT_mk]
  by_cases hx : x.k = 2 ∨ x.k = 3
  ·rw [if_pos hx, leaf_nil ok hx, bgL_nil]
   simp only [List.mem_singleton, Bool.or_false, decide_eq_true_eq]
   exact eq_comm
  ·have hne := hl.head hx
   rw [if_neg hx, decide_eq_false hne, Bool.false_or]
   exact bgL_iff x.k ks (a + 1) p (okT_mk ok).2.2 hl.kids
theorem bgL_iff (k : Int) : ∀ (us : List RT) (a p : Nat), okL us = true → Lf (flatL us) a p → (p ∈ fiL k us a ↔ bgL k us a p = true)
 | [], a, p, _, _ => by simp [fiL_nil, bgL_nil]
 | u :: us, a, p, ok, hl => by
  obtain ⟨ok1, ok2⟩ := okL_cons ok
  rw [flatL_cons] at hl
  have i1 := bg_iff u a p ok1 hl.left
  have i2 := bgL_iff k us _ p ok2 hl.right
  rw [fiL_cons, bgL_cons, List.mem_append, Bool.or_eq_true, Bool.and_eq_true]
  have e1 : p ∈ fiT u a ↔ (inB u a p = true ∧ bgT u a p = true) := by
   rw [← i1]
   exact ⟨fun h => ⟨inB_iff.2 (fiT_in u a p h), h⟩, fun h => h.2⟩
  rw [e1]
  by_cases hc : k = 4 ∧ empT u = false
  ·rw [if_pos hc, if_pos hc]; simp
  ·rw [if_neg hc, if_neg hc, i2]
end
mutual
theorem en_iff : ∀ (t : RT) (a p : Nat), okT t = true → Lf (flat t) a p → (p ∈ laT t a ↔ enT t a p = true)
 | .mk x ks, a, p, ok, hl => by
  rw [laT_mk, enT_mk]
  by_cases hx : x.k = 2 ∨ x.k = 3
  ·rw [if_pos hx, leaf_nil ok hx, enL_nil]
   simp only [List.mem_singleton, Bool.or_false, decide_eq_true_eq]
   exact eq_comm
  ·have hne := hl.head hx
   rw [if_neg hx, decide_eq_false hne, Bool.false_or]
   exact enL_iff x.k ks (a + 1) p (okT_mk ok).2.2 hl.kids
theorem enL_iff (k : Int) : ∀ (us : List RT) (a p : Nat), okL us = true → Lf (flatL us) a p → (p ∈ laL k us a ↔ enL k us a p = true)
 | [], a, p, _, _ => by simp [laL_nil, enL_nil]
 | u :: us, a, p, ok, hl => by
  obtain ⟨ok1, ok2⟩ := okL_cons ok
  rw [flatL_cons] at hl
  have i1 := en_iff u a p ok1 hl.left
  have i2 := enL_iff k us _ p ok2 hl.right
  rw [laL_cons, enL_cons, Bool.or_eq_true, Bool.and_eq_true, Bool.and_eq_true, ← i2]
  have e1 : p ∈ laT u a ↔ (inB u a p = true ∧ enT u a p = true) := by
   rw [← i1]
   exact ⟨fun h => ⟨inB_iff.2 (laT_in u a p h), h⟩, fun h => h.2⟩
  rw [← e1]
  by_cases h4 : k = 4
  ·rw [if_pos h4, List.mem_append]
   cases hs : allE us <;> simp [h4]
  ·rw [if_neg h4, List.mem_append]
   simp only [h4, decide_false, Bool.not_false, Bool.true_or, true_and]
   exact or_comm
end
mutual
theorem fo_iff : ∀ (t : RT) (a p q : Nat), okT t = true → Lf (flat t) a p → Lf (flat t) a q → ((p, q) ∈ arT t a ↔ foT t a p q = true)
 | .mk x ks, a, p, q, ok, hp, hq => by
  rw [arT_mk, foT_mk]
  obtain ⟨_, _, ok2⟩ := okT_mk ok
  by_cases hx : x.k = 2 ∨ x.k = 3
  ·rw [if_pos hx, leaf_nil ok hx, foL_nil, decide_eq_false (by omega), decide_eq_false (by omega), decide_eq_false (by omega)]
   simp
  ·rw [if_neg hx, List.mem_append]
   have hL := foL_iff x.k ks (a + 1) [] p q ok2 hp.kids hq.kids (by simp)
   simp only [List.not_mem_nil, false_and, or_false] at hL
   rw [hL]
   by_cases h67 : x.k = 6 ∨ x.k = 7
   ·rw [if_pos h67, mem_joinP]
    have h4 : ¬ x.k = 4 := by omega
    have hk : x.k = 6 ∨ x.k = 7 ∨ x.k = 8 := by omega
    obtain ⟨u, rfl⟩ := one_kid ok hk
    rw [enL_iff x.k [u] (a + 1) p ok2 hp.kids, bgL_iff x.k [u] (a + 1) q ok2 hq.kids]
    have h1 : enL x.k [u] (a + 1) p = (inB u (a + 1) p && enT u (a + 1) p) := by rw [enL_cons, enL_nil, allE_nil]; simp
    have h2 : bgL x.k [u] (a + 1) q = (inB u (a + 1) q && bgT u (a + 1) q) := by rw [bgL_cons, bgL_nil]; simp
    have h3 : hdL [u] (a + 1) p q = (enT u (a + 1) p && bgT u (a + 1) q) := rfl
    have i1 : enT u (a + 1) p = true → inB u (a + 1) p = true := fun h => inB_iff.2 (laT_in u _ p ((en_iff u (a + 1) p (okL_cons ok2).1 (by have := hp.kids; rw [flatL_cons, flatL_nil, List.append_nil] at this; exact this)).2 h))
    have i2 : bgT u (a + 1) q = true → inB u (a + 1) q = true := fun h => inB_iff.2 (fiT_in u _ q ((bg_iff u (a + 1) q (okL_cons ok2).1 (by have := hq.kids; rw [flatL_cons, flatL_nil, List.append_nil] at this; exact this)).2 h))
    have e67 : (decide (x.k = 6) || decide (x.k = 7)) = true := by simpa using h67
    rw [h1, h2, h3, e67, Bool.true_and]
    simp only [h4, decide_false, Bool.false_and, false_and, or_false, Bool.and_eq_true]
    by_cases hh : enT u (a + 1) p = true ∧ bgT u (a + 1) q = true
    ·rw [if_pos hh]
     simp only [iff_true]
     exact .inr ⟨⟨i1 hh.1, hh.1⟩, i2 hh.2, hh.2⟩
    ·rw [if_neg hh]
     cases hf : foL [u] (a + 1) p q with
     | none =>
      simp only [reduceCtorEq, false_or]
      exact ⟨fun h => absurd ⟨h.1.2, h.2.2⟩ hh, fun h => by simp at h⟩
     | some b =>
      simp only [Option.some.injEq]
      exact ⟨fun h => by rcases h with h | h; exact h; exact absurd ⟨h.1.2, h.2.2⟩ hh, fun h => .inl h⟩
   ·have e67 : (decide (x.k = 6) || decide (x.k = 7)) = false := by rw [Bool.eq_false_iff]; simpa using h67
    rw [if_neg h67, e67, Bool.false_and]
    simp only [Bool.false_eq_true, if_false, List.not_mem_nil, or_false]
    cases hf : foL ks (a + 1) p q with
    | none => simp
    | some b => simp
theorem foL_iff (k : Int) : ∀ (us : List RT) (a : Nat) (acc : List Nat) (p q : Nat), okL us = true → Lf (flatL us) a p → Lf (flatL us) a q → (∀ r ∈ acc, r < a) →
  ((p, q) ∈ arL k us a acc ↔ (foL us a p q = some true ∨ (k = 4 ∧ foL us a p q = none ∧ (irL us a p q = true ∨ (p ∈ acc ∧ afL us a q = true)))))
 | [], a, acc, p, q, _, _, _, _ => by simp [arL_nil, foL_nil, irL, afL]
 | u :: us, a, acc, p, q, ok, hp, hq, hacc => by
  obtain ⟨ok1, ok2⟩ := okL_cons ok
  rw [flatL_cons] at hp hq
  have iT := fo_iff u a p q ok1 hp.left hq.left
  have ib := bg_iff u a q ok1 hq.left
  have ie := en_iff u a p ok1 hp.left
  have rT := arT_in u a p q
  have rf := fiT_in u a q
  have rl := laT_in u a p
  have racc : p ∈ acc → p < a := hacc p
  obtain ⟨a', ha'⟩ : ∃ a', a' = a + (flat u).length := ⟨_, rfl⟩
  obtain ⟨acc', hacc'⟩ : ∃ acc', acc' = (if k = 4 then laT u a ++ (if empT u = true then acc else []) else []) := ⟨_, rfl⟩
  have hlt : ∀ r ∈ acc', r < a' := by
   intro r hr
   rw [hacc'] at hr
   split at hr
   ·rcases List.mem_append.1 hr with hr | hr
    ·have := laT_in u a r hr; omega
    ·split at hr
     ·have := hacc r hr; omega
     ·simp at hr
   ·simp at hr
  have iL := foL_iff k us a' acc' p q ok2 (ha' ▸ hp.right) (ha' ▸ hq.right) hlt
  have macc : k = 4 → (p ∈ acc' ↔ p ∈ laT u a ∨ (empT u = true ∧ p ∈ acc)) := by
   intro h4
   rw [hacc', if_pos h4, List.mem_append]
   cases empT u <;> simp
  rw [arL_cons, foL_cons, irL, afL, ← ha', ← hacc', List.mem_append, List.mem_append, iL, iT]
  have mj : (p, q) ∈ (if k = 4 then joinP acc (fiT u a) else []) ↔ k = 4 ∧ p ∈ acc ∧ q ∈ fiT u a := by
   by_cases h4 : k = 4 <;> simp [h4, mem_joinP]
  rw [mj]
  clear hp hq hacc hlt iL mj hacc'
  by_cases bp : inB u a p = true
  ·have bp' := inB_iff.1 bp
   have hna : ¬ p ∈ acc := fun h => by have := racc h; omega
   by_cases bq : inB u a q = true
   ·have bq' := inB_iff.1 bq
    rw [bp, bq, foL_low us a' p q (by omega), irL_low us a' p q (by omega), afL_low us a' q (by omega)]
    simp [hna]
   ·have bq' : ¬ (a ≤ q ∧ q < a + (flat u).length) := fun h => bq (inB_iff.2 h)
    have hnT : ¬ foT u a p q = true := fun h => bq' (rT (iT.2 h)).2
    rw [Bool.not_eq_true] at bq
    rw [bp, bq, foL_low us a' p q (by omega), irL_low us a' p q (by omega)]
    simp only [hnT, hna, Bool.and_false, Bool.false_eq_true, if_false, if_true, false_and, and_false, false_or, or_false, reduceCtorEq, true_and, Bool.and_eq_true]
    constructor
    ·rintro ⟨h4, h1, h2⟩
     rw [macc h4] at h1
     rcases h1 with h1 | h1
     ·exact ⟨h4, ie.1 h1, h2⟩
     ·exact absurd h1.2 hna
    ·rintro ⟨h4, h1, h2⟩
     exact ⟨h4, (macc h4).2 (.inl (ie.2 h1)), h2⟩
  ·have bp' : ¬ (a ≤ p ∧ p < a + (flat u).length) := fun h => bp (inB_iff.2 h)
   have hnT : ¬ foT u a p q = true := fun h => bp' (rT (iT.2 h)).1
   have hnl : ¬ p ∈ laT u a := fun h => bp' (rl h)
   rw [Bool.not_eq_true] at bp
   by_cases bq : inB u a q = true
   ·have bq' := inB_iff.1 bq
    rw [bp, bq, foL_low us a' p q (by omega), irL_low us a' p q (by omega), afL_low us a' q (by omega)]
    simp only [hnT, Bool.false_and, Bool.false_eq_true, if_false, if_true, false_and, and_false, false_or, or_false, reduceCtorEq, true_and]
    rw [ib]
   ·have bq' : ¬ (a ≤ q ∧ q < a + (flat u).length) := fun h => bq (inB_iff.2 h)
    have hnf : ¬ q ∈ fiT u a := fun h => bq' (rf h)
    rw [Bool.not_eq_true] at bq
    rw [bp, bq]
    simp only [hnT, hnf, Bool.false_and, Bool.false_eq_true, if_false, and_false, false_or]
    by_cases h4 : k = 4
    ·rw [macc h4]
     cases empT u <;> simp [hnl]
    ·simp [h4]
end
mutual
theorem la_nodup : ∀ (t : RT) (a : Nat), (laT t a).Nodup
 | .mk x ks, a => by
  rw [laT_mk]
  split
  ·simp
  ·exact laL_nodup x.k ks (a + 1)
theorem laL_nodup (k : Int) : ∀ (us : List RT) (a : Nat), (laL k us a).Nodup
 | [], a => by rw [laL_nil]; simp
 | u :: us, a => by
  have h1 := la_nodup u a
  have h2 := laL_nodup k us (a + (flat u).length)
  rw [laL_cons]
  split
  ·refine List.nodup_append.2 ⟨h2, ?_, ?_⟩
   ·split
    ·exact h1
    ·simp
   ·rintro x hx y hy rfl
    split at hy
    ·have := laL_in k us _ x hx
     have := laT_in u a x hy
     omega
    ·simp at hy
  ·refine List.nodup_append.2 ⟨h1, h2, ?_⟩
   rintro x hx y hy rfl
   have := laL_in k us _ x hy
   have := laT_in u a x hx
   omega
end
-- what begins and ends are occurrences
mutual
theorem fiT_leaf : ∀ (t : RT) (a q : Nat), q ∈ fiT t a → ∃ x, (flat t)[q - a]? = some x ∧ (x.k = 2 ∨ x.k = 3)
 | .mk x ks, a, q, h => by
  rw [fiT_mk] at h
  split at h
  ·rename_i hx
   simp at h
   subst h
   exact ⟨x, by rw [flat_mk, Nat.sub_self]; rfl, hx⟩
  ·have h1 := fiL_in x.k ks _ q h
   obtain ⟨y, hy, hk⟩ := fiL_leaf x.k ks _ q h
   refine ⟨y, ?_, hk⟩
   rw [flat_mk, show q - a = (q - (a + 1)) + 1 by omega, List.getElem?_cons_succ]
   exact hy
theorem fiL_leaf (k : Int) : ∀ (us : List RT) (a q : Nat), q ∈ fiL k us a → ∃ x, (flatL us)[q - a]? = some x ∧ (x.k = 2 ∨ x.k = 3)
 | [], a, q, h => by simp [fiL_nil] at h
 | u :: us, a, q, h => by
  rw [fiL_cons, List.mem_append] at h
  rw [flatL_cons]
  rcases h with h | h
  ·have h1 := fiT_in u a q h
   obtain ⟨y, hy, hk⟩ := fiT_leaf u a q h
   exact ⟨y, by rw [List.getElem?_append_left (by omega)]; exact hy, hk⟩
  ·split at h
   ·simp at h
   ·have h1 := fiL_in k us _ q h
    obtain ⟨y, hy, hk⟩ := fiL_leaf k us _ q h
    exact ⟨y, by rw [List.getElem?_append_right (by omega), Nat.sub_sub]; exact hy, hk⟩
end
mutual
theorem laT_leaf : ∀ (t : RT) (a q : Nat), q ∈ laT t a → ∃ x, (flat t)[q - a]? = some x ∧ (x.k = 2 ∨ x.k = 3)
 | .mk x ks, a, q, h => by
  rw [laT_mk] at h
  split at h
  ·rename_i hx
   simp at h
   subst h
   exact ⟨x, by rw [flat_mk, Nat.sub_self]; rfl, hx⟩
  ·have h1 := laL_in x.k ks _ q h
   obtain ⟨y, hy, hk⟩ := laL_leaf x.k ks _ q h
   refine ⟨y, ?_, hk⟩
   rw [flat_mk, show q - a = (q - (a + 1)) + 1 by omega, List.getElem?_cons_succ]
   exact hy
theorem laL_leaf (k : Int) : ∀ (us : List RT) (a q : Nat), q ∈ laL k us a → ∃ x, (flatL us)[q - a]? = some x ∧ (x.k = 2 ∨ x.k = 3)
 | [], a, q, h => by simp [laL_nil] at h
 | u :: us, a, q, h => by
  rw [laL_cons] at h
  rw [flatL_cons]
  have key : q ∈ laT u a ∨ q ∈ laL k us (a + (flat u).length) := by
   split at h
   ·rcases List.mem_append.1 h with h | h
    ·exact .inr h
    ·split at h
     ·exact .inl h
     ·simp at h
   ·exact List.mem_append.1 h
  rcases key with h | h
  ·have h1 := laT_in u a q h
   obtain ⟨y, hy, hk⟩ := laT_leaf u a q h
   exact ⟨y, by rw [List.getElem?_append_left (by omega)]; exact hy, hk⟩
  ·have h1 := laL_in k us _ q h
   obtain ⟨y, hy, hk⟩ := laL_leaf k us _ q h
   exact ⟨y, by rw [List.getElem?_append_right (by omega), Nat.sub_sub]; exact hy, hk⟩
end
mutual
theorem arT_leaf : ∀ (t : RT) (a p q : Nat), (p, q) ∈ arT t a → (∃ x, (flat t)[p - a]? = some x ∧ (x.k = 2 ∨ x.k = 3)) ∧ (∃ x, (flat t)[q - a]? = some x ∧ (x.k = 2 ∨ x.k = 3))
 | .mk x ks, a, p, q, h => by
  rw [arT_mk] at h
  have lift : ∀ r, a + 1 ≤ r → (∃ x, (flatL ks)[r - (a + 1)]? = some x ∧ (x.k = 2 ∨ x.k = 3)) → ∃ y, (flat (.mk x ks))[r - a]? = some y ∧ (y.k = 2 ∨ y.k = 3) := by
   rintro r hr ⟨y, hy, hk⟩
   refine ⟨y, ?_, hk⟩
   rw [flat_mk, show r - a = (r - (a + 1)) + 1 by omega, List.getElem?_cons_succ]
   exact hy
  split at h
  ·simp at h
  ·rcases List.mem_append.1 h with h | h
   ·have h1 := arL_in x.k ks _ [] p q h
    obtain ⟨h2, h3⟩ := arL_leaf x.k ks _ [] p q h
    simp only [List.not_mem_nil, or_false] at h1 h2
    exact ⟨lift p h1.1.1 h2, lift q h1.2.1 h3⟩
   ·split at h
    ·obtain ⟨h1, h2⟩ := mem_joinP.1 h
     exact ⟨lift p (laL_in x.k ks _ p h1).1 (laL_leaf x.k ks _ p h1), lift q (fiL_in x.k ks _ q h2).1 (fiL_leaf x.k ks _ q h2)⟩
    ·simp at h
theorem arL_leaf (k : Int) : ∀ (us : List RT) (a : Nat) (acc : List Nat) (p q : Nat), (p, q) ∈ arL k us a acc → ((∃ x, (flatL us)[p - a]? = some x ∧ (x.k = 2 ∨ x.k = 3)) ∨ p ∈ acc) ∧ (∃ x, (flatL us)[q - a]? = some x ∧ (x.k = 2 ∨ x.k = 3))
 | [], a, acc, p, q, h => by simp [arL_nil] at h
 | u :: us, a, acc, p, q, h => by
  rw [arL_cons] at h
  rw [flatL_cons]
  have l1 : ∀ r, a ≤ r ∧ r < a + (flat u).length → (∃ x, (flat u)[r - a]? = some x ∧ (x.k = 2 ∨ x.k = 3)) → ∃ y, (flat u ++ flatL us)[r - a]? = some y ∧ (y.k = 2 ∨ y.k = 3) := by
   rintro r hr ⟨y, hy, hk⟩
   exact ⟨y, by rw [List.getElem?_append_left (by omega)]; exact hy, hk⟩
  have l2 : ∀ r, a + (flat u).length ≤ r → (∃ x, (flatL us)[r - (a + (flat u).length)]? = some x ∧ (x.k = 2 ∨ x.k = 3)) → ∃ y, (flat u ++ flatL us)[r - a]? = some y ∧ (y.k = 2 ∨ y.k = 3) := by
   rintro r hr ⟨y, hy, hk⟩
   exact ⟨y, by rw [List.getElem?_append_right (by omega), Nat.sub_sub]; exact hy, hk⟩
  simp only [List.mem_append] at h
  rcases h with h | h | h
  ·have h1 := arT_in u a p q h
   obtain ⟨h2, h3⟩ := arT_leaf u a p q h
   exact ⟨.inl (l1 p h1.1 h2), l1 q h1.2 h3⟩
  ·split at h
   ·obtain ⟨h1, h2⟩ := mem_joinP.1 h
    exact ⟨.inr h1, l1 q (fiT_in u a q h2) (fiT_leaf u a q h2)⟩
   ·simp at h
  ·obtain ⟨h1, h2⟩ := arL_in k us _ _ p q h
   obtain ⟨h3, h4⟩ := arL_leaf k us _ _ p q h
   refine ⟨?_, l2 q h2.1 h4⟩
   by_cases hacc : p ∈ acc
   ·exact .inr hacc
   left
   have h5 : ∀ {c : List Nat}, p ∈ (if k = 4 then laT u a ++ (if empT u = true then acc else []) else []) → p ∈ laT u a := by
    intro _ h
    split at h
    ·rcases List.mem_append.1 h with h | h
     ·exact h
     ·split at h
      ·exact absurd h hacc
      ·simp at h
    ·simp at h
   by_cases hla : p ∈ laT u a
   ·exact l1 p (laT_in u a p hla) (laT_leaf u a p hla)
   ·rcases h1 with h1 | h1
    ·rcases h3 with h3 | h3
     ·exact l2 p h1.1 h3
     ·exact absurd (h5 (c := []) h3) hla
    ·exact absurd (h5 (c := []) h1) hla
end
end Go.Proofs.YtdgocjbakjamaaaGreat
end

section
namespace Go.Proofs.YtdgocjbakjamaaaGreat
open Go Go.Dm
variable [DMode]
attribute [local irreducible] DW callP callS
set_option maxRecDepth 100000
theorem size_e : (⟨#[]⟩ : ByteArray).size = 0 := rfl
def anRX1205 : Ann := ⟨[], []⟩
set_option maxHeartbeats 4000000 in
theorem mayN_pure (x : Nd) : DPure Tryz.prog 205 [.agg (dNd x)] (.bool (mayN x)) := by
 refine DPure_introF [] (fn := Tryz.f205) Tryz.func205 rfl Tryz.call205 (by simp [Tryz.ntmps205]) (by simp [mx]) ?_
 intro hwf B hnt
 simp only [Tryz.ntmps205] at hnt
 have hA := an_is anRX1205 Tryz.mixed (aj2 @anRX1205.eq_1 Tryz.results205)
 simp only [argS]
 have e1 := named196_pure 264 upI upper197_pure x.s
 have e2 := named196_pure 265 loI lower198_pure x.s
 unfold mayN emp
 by_cases k1 : x.k = 1
 ·exact go0 aj0 aj0 (aj3 @dNd.eq_1 @size_e k1)
 by_cases k2 : x.k = 2
 ·by_cases h0 : x.n = 0
  ·exact go0 (aj1 e1) aj0 (aj5 @dNd.eq_1 @size_e k1 k2 h0)
  ·have h0' : (x.n == 0) = false := by simpa using h0
   exact go0 aj0 aj0 (aj6 @dNd.eq_1 @size_e k1 k2 h0 h0')
 by_cases k3 : x.k = 3
 ·by_cases h0 : x.n = 0
  ·exact go0 (aj1 e2) aj0 (aj6 @dNd.eq_1 @size_e k1 k2 k3 h0)
  ·have h0' : (x.n == 0) = false := by simpa using h0
   exact go0 aj0 aj0 (aj7 @dNd.eq_1 @size_e k1 k2 k3 h0 h0')
 by_cases k4 : x.k = 4
 ·exact go0 aj0 aj0 (aj6 @dNd.eq_1 @size_e k1 k2 k3 k4)
 by_cases k5 : x.k = 5
 ·exact go0 aj0 aj0 (aj7 @dNd.eq_1 @size_e k1 k2 k3 k4 k5)
 by_cases k6 : x.k = 6
 ·exact go0 aj0 aj0 (aj8 @dNd.eq_1 @size_e k1 k2 k3 k4 k5 k6)
 by_cases k7 : x.k = 7
 ·exact go0 aj0 aj0 (aj9 @dNd.eq_1 @size_e k1 k2 k3 k4 k5 k6 k7)
 by_cases k8 : x.k = 8
 ·exact go0 aj0 aj0 (aj10 @dNd.eq_1 @size_e k1 k2 k3 k4 k5 k6 k7 k8)
 exact go0 aj0 aj0 (aj10 @dNd.eq_1 @size_e k1 k2 k3 k4 k5 k6 k7 k8)
def wholeAt (r : List Nd) (w : Nat) : Bool := match endN r w with
 | some [] => true
 | _ => false
theorem wholeAt_zero (x : Nd) (r : List Nd) : wholeAt (x :: r) 0 = false := by unfold wholeAt; rw [endN_zero]
theorem wholeAt_none {r : List Nd} {w : Nat} (h : endN r w = none) : wholeAt r w = false := by unfold wholeAt; rw [h]
theorem wholeAt_next {x : Nd} {r : List Nd} {w : Nat} (h : mayN x = true) : wholeAt (x :: r) (w + 1) = wholeAt r (w + x.n.toNat) := by unfold wholeAt; rw [endN_cons, if_pos h]
theorem wholeAt_end (w : Nat) : wholeAt [] w = decide (w = 0) := by
 unfold wholeAt
 cases w with
 | zero => rw [endN_zero]; rfl
 | succ w => rw [endN_nil]; rfl
def anRX1133 : Ann := ⟨[], [⟨4, [5], [], []⟩]⟩
set_option maxHeartbeats 4000000 in
theorem whole56_pure (l : List Nd) (hs : l.length ≤ 1310720) : DPure Tryz.prog 133 [dNds l] (.bool (wholeB l)) := by
 refine DPure_introF [] (fn := Tryz.f133) Tryz.func133 rfl Tryz.call133 (by simp [Tryz.ntmps133]) (by simp [mx]) ?_
 intro hwf B hnt
 simp only [Tryz.ntmps133] at hnt
 have hA := an_is anRX1133 Tryz.mixed (aj2 @anRX1133.eq_1 Tryz.results133)
 clear hwf
 simp only [argS]
 obtain ⟨R, hR⟩ : ∃ R, R = wholeB l := ⟨_, rfl⟩
 rw [← hR]
 have hR2 : wholeAt l 1 = R := by rw [hR]; rfl
 clear hR
 (refine go1 aj0 aj0 aj0 ?_; intros; refine mk_i ?_)
 refine DW_loop (X := {p : Nat × Nat // p.1 ≤ l.length ∧ wholeAt (l.drop p.1) p.2 = R ∧ p.2 ≤ 1 + p.1 * 1310720 ∧ (p.1 = 0 → p.2 = 1)}) (fun p => ⟨[(0, dNds l), (3, .int .i64 p.1.2), (6, dNds l), (7, .int .i64 l.length), (8, .int .i64 p.1.1)], []⟩) (fun p => l.length - p.1.1) ⟨(0, 1), by simp [hR2]⟩ (Sub.lit (by simp)) ?_
 clear hR2
 rintro ⟨⟨k, w⟩, hk, hw, hwb, hw0⟩
 simp only at hk hw hwb hw0 ⊢
 by_cases hlt : k < l.length
 ·obtain ⟨x, hx, hx', _⟩ := at_lt' hlt
  rw [List.drop_eq_getElem_cons hlt, hx'] at hw
  have e1 := mayN_pure x
  simp only [dNd] at e1
  cases w with
  | zero =>
   rw [wholeAt_zero] at hw
   subst hw
   exact go0 aj0 aj0 (aj4 @dNd.eq_1 hlt hx hx')
  | succ v =>
   have hv : ¬ (v : Int) + 1 = 0 := by omega
   have hv' : (((v : Int) + 1) == 0) = false := by simpa using hv
   cases hm : mayN x
   ·rw [hm] at e1
    rw [wholeAt_none (by rw [endN_cons, hm]; rfl)] at hw
    subst hw
    exact go0 (aj1 e1) aj0 (aj6 @dNd.eq_1 hlt hx hx' hv hv')
   ·rw [hm] at e1
    have hk0 := mayN_kids hm
    obtain ⟨c, hcn⟩ : ∃ c : Nat, x.n = (c : Int) := ⟨x.n.toNat, by omega⟩
    rw [hcn] at e1
    rw [wholeAt_next hm, hcn, Int.toNat_natCast] at hw
    by_cases hbig : l.length < c
    ·have hbig' : (l.length : Int) < (c : Int) := by omega
     rw [wholeAt_none (endN_big _ _ (by rw [List.length_drop]; omega))] at hw
     subst hw
     exact go0 (aj1 e1) aj0 (aj9 @dNd.eq_1 hlt hx hx' hv hv' hcn hbig hbig')
    ·have hbig' : ¬ (l.length : Int) < (c : Int) := by omega
     have q1 : IntKind.i64.wrap ((c : Int) - 1) = (c : Int) - 1 := wrap64_in (by omega) (by omega)
     have q2 : IntKind.i64.wrap ((v : Int) + 1 + ((c : Int) - 1)) = (v : Int) + (c : Int) := by rw [wrap64_in (by omega) (by omega)]; omega
     (refine go1 (aj1 e1) aj0 (aj11 @dNd.eq_1 hlt hx hx' hv hv' hcn hbig hbig' q1 q2) ?_; intros; refine mk_i ?_)
     refine Again.mk ⟨(k + 1, v + c), show k + 1 ≤ l.length ∧ wholeAt (l.drop (k + 1)) (v + c) = R ∧ v + c ≤ 1 + (k + 1) * 1310720 ∧ (k + 1 = 0 → v + c = 1) from ⟨by omega, hw, by omega, by omega⟩⟩ (Sub.lit (by simp)) (by simp; omega)
     skip
 ·have hkk : k = l.length := by omega
  subst hkk
  rw [List.drop_length, wholeAt_end] at hw
  cases w with
  | zero =>
   have hpos : 0 < l.length := by
    rcases Nat.eq_zero_or_pos l.length with h | h
    ·have := hw0 h; omega
    ·exact h
   simp only [decide_true] at hw
   subst hw
   exact go0 aj0 aj0 (aj1 hpos)
  | succ v =>
   have hw2 : R = false := by rw [← hw]; simp
   subst hw2
   have hv : ¬ (v : Int) + 1 = 0 := by omega
   have hv' : (((v : Int) + 1) == 0) = false := by simpa using hv
   exact go0 aj0 aj0 (aj2 hv hv')
end Go.Proofs.YtdgocjbakjamaaaGreat
end

section
namespace Go.Dm
variable [DMode]
theorem obj_nd {cur : Cur} {M : List Nat} {h : Array Obj} {l : Loc} {obj : DObj} (hk : ObjOK cur M h l obj) : ∀ b ∈ l.blks, ∀ c, h[b]? ≠ some (.deferred c) := by
 intro b hb c hc
 cases obj with
 | box cs =>
  obtain ⟨b', arr, ty, h1, h2, _⟩ := hk
  rw [h1] at hb
  simp only [List.mem_singleton] at hb
  subst hb
  rw [h2] at hc; simp at hc
 | row et k bs es =>
  obtain ⟨_, ⟨_, h1, _⟩ | ⟨b', arr, cap, h1, h2, h3, _⟩⟩ := hk
  ·rw [h1] at hb; cases hb
  ·rw [h1] at hb
   simp only [List.mem_singleton] at hb
   subst hb
   rw [h3] at hc; simp at hc
 | map ks vs =>
  obtain ⟨b', es, clk, h1, h2, _⟩ := hk
  rw [h1] at hb
  simp only [List.mem_singleton] at hb
  subst hb
  rw [h2] at hc; simp at hc
 | abs A => exact A.nd _ _ _ _ hk b hb c hc
def AbsL (sl : List (Nat × DVal)) (hsl : mxS sl ≤ 1) (own : List Ent) (tm : Array Value) (own0 : List Ent) (loc0 : Nat → Loc) (l : Nat) (L : Loop) : Abs where
 J := fun M bl hd h => hd = .func (.yield l) #[] #[] ∧ ∃ loc, bl = hotOf own loc ++ [l] ∧ (own.map (·.id)).Nodup ∧ (∀ e ∈ own, ObjOK (curOf own loc) M h (loc e.id) e.obj) ∧
  (∀ p ∈ sl, rd (curOf own loc) M h p.2 (tm.getD p.1 Go.undef)) ∧ h[l]? = some (.loop L) ∧ (∀ e ∈ own, e.r < 1 → curOf own0 loc0 e.id e.r = some (loc e.id))
 weak := by
  rintro M M' bl hd h h' hb hm hk ⟨h1, loc, h2, h3, h4, h5, h6, h7⟩
  have W : ∀ n, Weak (curOf own loc) (curOf own loc) M M' h h' n := fun n => ⟨fun _ _ _ _ h => h, hb, hm⟩
  refine ⟨h1, loc, h2, h3, fun e he => ObjOK_weak (W _) (Nat.le_refl _) (fun b o hb' ho => hk b o ?_ ho) (h4 e he), fun p hp => rd_weak (W _) _ _ (Nat.le_refl _) (h5 p hp), hk l _ ?_ h6, h7⟩
  ·rw [h2]; exact List.mem_append_left _ (mem_hot he hb')
  ·rw [h2]; simp
 one := by rintro _ _ _ _ ⟨rfl, _⟩; exact ⟨rfl, rfl⟩
 nd := by
  rintro M bl hd h ⟨_, loc, rfl, _, h4, _, h6, _⟩ b hb c hc
  rcases List.mem_append.1 hb with hb | hb
  ·obtain ⟨e, he, hb⟩ := List.mem_flatMap.1 hb
   exact obj_nd (h4 e he) b hb c hc
  ·simp only [List.mem_singleton] at hb
   subst hb
   rw [h6] at hc; simp at hc
def putM : List Nat → List DVal → List (Nat × DVal) → List (Nat × DVal)
 | p :: ps, d :: ds, l => putM ps ds ((p, d) :: l)
 | _, _, l => l
theorem size_zipset : ∀ (z : List (Nat × Value)) (t : Array Value), (z.foldl (fun t p => t.setIfInBounds p.1 p.2) t).size = t.size
 | [], t => rfl
 | p :: z, t => by rw [List.foldl_cons, size_zipset z]; simp
theorem putM_rd {cur : Cur} {M : List Nat} {h : Array Obj} : ∀ (ps : List Nat) (ds : List DVal) (vs : List Value) (l : List (Nat × DVal)) (t : Array Value), ds.length = ps.length → (∀ p ∈ ps, p < t.size) → rdV cur M h ds vs →
  (∀ i, rd cur M h (getS l i) (t.getD i Go.undef)) → ∀ i, rd cur M h (getS (putM ps ds l) i) (((ps.zip vs).foldl (fun t p => t.setIfInBounds p.1 p.2) t).getD i Go.undef)
 | [], ds, vs, l, t, hl, hp, hr, hs => by
  cases ds with
  | nil => simpa [putM] using hs
  | cons d ds => simp at hl
 | p :: ps, [], vs, l, t, hl, hp, hr, hs => by simp at hl
 | p :: ps, d :: ds, vs, l, t, hl, hp, hr, hs => by
  simp only [rdV] at hr
  obtain ⟨v, r, rfl, h1, h2⟩ := hr
  simp only [putM, List.zip_cons_cons, List.foldl_cons]
  refine putM_rd ps ds r _ _ (by simpa using hl) (fun q hq => by simpa using hp q (List.mem_cons_of_mem _ hq)) h2 ?_
  intro i
  have hlt := hp p List.mem_cons_self
  simp only [getS, Array.getD_eq_getD_getElem?, Array.getElem?_setIfInBounds]
  by_cases hi : i = p
  ·subst hi; simpa [hlt] using h1
  ·rw [if_neg hi, if_neg (fun h => hi h.symm)]
   have := hs i
   simpa [Array.getD_eq_getD_getElem?] using this
theorem getS_mem : ∀ (l : List (Nat × DVal)) (i : Nat), getS l i = .any ∨ (i, getS l i) ∈ l
 | [], i => .inl rfl
 | (j, d) :: l, i => by
  simp only [getS]
  split
  ·rename_i h; subst h; exact .inr (by simp)
  ·exact (getS_mem l i).imp id (fun h => List.mem_cons_of_mem _ h)
def RQ (B : Base) (okk : Bool) (S : List Ent) (j : Code) : Exit → DS → Prop
 | .normal, s => okk = true ∧ Sub B ⟨[], s.own⟩ ⟨[], S⟩
 | .ret, s => okk = false ∧ j = .ret ∧ Sub B ⟨[], s.own⟩ ⟨[], S⟩
 | .exit id, s => okk = false ∧ j = .exit id ∧ Sub B ⟨[], s.own⟩ ⟨[], S⟩
 | .goto t, s => okk = false ∧ j = .goto t ∧ Sub B ⟨[], s.own⟩ ⟨[], S⟩
 | _, _ => False
def RB (P : Program) (nt : Nat) (body : Code) (okk : Bool) (S : List Ent) (j : Code) (s : DS) : Prop := ∀ B : Base, B.nt = nt → DW P B body (RQ B okk S j) s
theorem RB_mk {P : Program} {nt : Nat} {body : Code} {okk : Bool} {S : List Ent} {j : Code} {s : DS} (h : ∀ B : Base, B.nt = nt → DW P B body (RQ B okk S j) s) : RB P nt body okk S j s := h
def RA (P : Program) (nt : Nat) (body : Code) (okk : Bool) (S : List Ent) (j : Code) : Exit → DS → Prop
 | .normal, s => RB P nt body okk S j s
 | _, _ => False
theorem chain_weak {own own' : List Ent} {loc loc' : Nat → Loc} {M M' : List Nat} {h h' : Array Obj} {n : Nat} (hc : ∀ e ∈ own', e.r < n → curOf own loc e.id e.r = some (loc' e.id)) (hb : ∀ (b : Nat) (o : Obj), b ∉ M → isD o = true → h[b]? = some o → h'[b]? = some o)
  (hm : ∀ b ∈ M', b ∈ M ∨ h.size ≤ b) : Weak (curOf own loc) (curOf own' loc') M M' h h' n where
 c := by
  intro id r l hr hl
  obtain ⟨e, he, rfl, rfl, rfl⟩ := curOf_some hl
  exact hc e he hr
 b := hb
 m := by
  intro b o hb' _ ho hm'
  rcases hm b hm' with h1 | h1
  ·exact hb' h1
  ·have := (Array.getElem?_eq_some_iff.1 ho).1; omega
theorem putObj_size (w : World) (l : Nat) (o : Obj) : (w.putObj l o).heap.size = w.heap.size := by simp [World.putObj]
theorem YAt_of {P : Program} {sl : List (Nat × DVal)} {hsl : mxS sl ≤ 1} {own S : List Ent} {tm : Array Value} {own0 : List Ent} {loc0 : Nat → Loc} {l nt : Nat} {L : Loop} {x : List DVal} {okk : Bool} {j : Code}
  (hL : L.state = .ready) (hLp : L.pending = none) (hLt : L.tmps = tm) (hnt : tm.size = nt) (hx : x.length = L.params.size) (hps : ∀ p ∈ L.params.toList, p < nt) (hx0 : mxL x = 0)
  (h : ∀ B : Base, B.nt = nt → DW P B L.assign (RA P nt L.body okk S j) ⟨putM L.params.toList x sl, own⟩) :
  YAt P l (AbsL sl hsl own tm own0 loc0 l L) x okk (AbsL sl hsl S tm own0 loc0 l { L with state := if okk then .ready else .done, pending := if okk then none else some j }) := by
 rintro M bl hd w vs hnd hblM hMlt ⟨rfl, loc, rfl, hidn, hobj, hslot, hrec, hver0⟩ hvs
 have hlM : l ∈ M := hblM l (by simp)
 have hlhot : l ∉ hotOf own loc := by
  intro hm
  rw [List.nodup_append] at hnd
  exact hnd.2.2 l hm l (by simp) rfl
 have hhotM : ∀ b ∈ hotOf own loc, b ∈ M := fun b hb => hblM b (List.mem_append_left _ hb)
 have hlen := rdV_length _ _ hvs
 simp only [Array.length_toList] at hlen
 have hy := run_yield (P := P) (args := vs) hrec (by omega)
 -- the base of the assignment
 let M0 : List Nat := M.filter (fun b => !(hotOf own loc).contains b)
 have hM0 : ∀ b, b ∈ M0 ↔ b ∈ M ∧ b ∉ hotOf own loc := by
  intro b
  simp only [M0, List.mem_filter, List.contains_eq_mem, Bool.not_eq_true', decide_eq_false_iff_not]
 have hMM : ∀ b, b ∈ hotOf own loc ++ M0 ↔ b ∈ M := by
  intro b
  rw [List.mem_append, hM0]
  constructor
  ·rintro (h | h)
   ·exact hhotM b h
   ·exact h.1
  ·intro h
   by_cases hb : b ∈ hotOf own loc
   ·exact .inl hb
   ·exact .inr ⟨h, hb⟩
 have W0 : ∀ n, Weak (curOf own loc) (curOf own loc) M (hotOf own loc ++ M0) w.heap w.heap n := fun n =>
  ⟨fun _ _ _ _ h => h, fun b o _ (_ : isD o = true) ho => ho, fun b o hb (_ : isD o = true) _ hm => hb ((hMM b).1 hm)⟩
 let B1 : Base := ⟨own, loc, M0, 1, w, nt, some l, by decide, w.heap.size, Nat.le_refl _⟩
 let a1 : Act := { tmps := (L.params.zip vs).foldl (fun tmps (t, a) => tmps.setIfInBounds t a) L.tmps, defers := [] }
 have hfold : a1.tmps = (L.params.toList.zip vs.toList).foldl (fun t p => t.setIfInBounds p.1 p.2) tm := by
  show (L.params.zip vs).foldl _ _ = _
  rw [← Array.foldl_toList, Array.toList_zip, hLt]
 have R1 : Rel B1 ⟨putM L.params.toList x sl, own⟩ a1 w loc := by
  refine ⟨⟨hidn, ?_, fun b hb hm => ((hM0 b).1 hm).2 hb, fun b hb => hMlt b ((hMM b).1 hb), fun e he => ObjOK_weak (W0 _) (Nat.le_refl _) (fun _ _ _ h => h) (hobj e he)⟩, Upd.refl _ _, fun b hb => .inl hb, fun e he _ => curOf_self hidn he, ?_, ?_, ⟨[], rfl, List.nodup_nil, by simp⟩⟩
  ·rw [List.nodup_append] at hnd; exact hnd.1
  ·intro i
   rw [hfold]
   refine putM_rd _ _ _ _ _ (by simpa using hx) (fun p hp => by rw [hnt]; exact hps p hp) ?_ ?_ i
   ·exact rdV_weak (n := 0) ⟨fun _ _ _ h => by omega, fun b o _ (_ : isD o = true) ho => ho, fun b o hb (_ : isD o = true) _ hm => hb ((hMM b).1 hm)⟩ _ _ (Nat.le_of_eq hx0) hvs
   ·intro q
    rcases getS_mem sl q with h1 | h1
    ·rw [h1]; simp [rd]
    ·exact rd_weak (W0 _) _ _ (Nat.le_refl _) (hslot _ h1)
  ·rw [hfold, size_zipset]; exact hnt
 refine ⟨L.fn, _, L.assign, L.body, hy, roundIn_of_wpIn (F := wd none) trivial ?_⟩
 refine wpIn_mono (h B1 rfl a1 w loc R1) ?_
 rintro e a' w' ⟨s', loc', hq, R'⟩
 cases e <;> simp only [RA] at hq <;> first
  | exact hq.elim
  | skip
 -- the record lies as it lay
 have hl0 : w'.heap[l]? = some (.loop L) := by
  rw [R'.upd.blk l (Array.getElem?_eq_some_iff.1 hrec).1 hlhot]; exact hrec
 have hllt : l < w'.heap.size := (Array.getElem?_eq_some_iff.1 hl0).1
 refine ⟨w'.putObj l (.loop { L with state := .busy }), run_beginRound hl0 hL, ?_⟩
 obtain ⟨w2, hw2⟩ : ∃ w2, w2 = w'.putObj l (.loop { L with state := .busy }) := ⟨_, rfl⟩
 rw [← hw2]
 have hsz2 : w2.heap.size = w'.heap.size := by rw [hw2]; exact putObj_size _ _ _
 have hoth : ∀ b, b ≠ l → w2.heap[b]? = w'.heap[b]? := fun b hb => by rw [hw2]; exact World.putObj_heap_other hb
 have hlb : w2.heap[l]? = some (.loop { L with state := .busy }) := by rw [hw2]; exact World.putObj_heap_same hllt
 have hlM0 : l ∈ M0 := (hM0 l).2 ⟨hlM, hlhot⟩
 have hlhot' : l ∉ hotOf s'.own loc' := fun hm => R'.st.ap l hm hlM0
 have hd2 : ∀ (b : Nat) (o : Obj), isD o = true → w'.heap[b]? = some o → w2.heap[b]? = some o := by
  intro b o ho hb
  rw [hoth b (fun he => by subst he; rw [hl0] at hb; simp only [Option.some.injEq] at hb; subst hb; simp [isD] at ho)]
  exact hb
 have St2 : St s'.own loc' M0 w2.heap := R'.st.same (Nat.le_of_eq hsz2.symm) hd2 (fun b o hm hb => by rw [hoth b (fun he => hlhot' (he ▸ hm))]; exact hb)
 have W2 : ∀ n, Weak (curOf s'.own loc') (curOf s'.own loc') (hotOf s'.own loc' ++ M0) (hotOf s'.own loc' ++ M0) w'.heap w2.heap n := fun n =>
  ⟨fun _ _ _ _ h => h, fun b o _ (h1 : isD o = true) h2 => hd2 b o h1 h2, fun b o hb (_ : isD o = true) _ => hb⟩
 let B2 : Base := ⟨s'.own, loc', M0, 1, w2, nt, some l, by decide, w2.heap.size, Nat.le_refl _⟩
 obtain ⟨rs, hrs, _, _, hrs2⟩ := R'.df
 have hz : rs = [] := hrs2 (by simp [B1])
 let B2 : Base := ⟨s'.own, loc', M0, 1, w2, nt, some l, by decide, w2.heap.size, Nat.le_refl _⟩
 have R2 : Rel B2 s' a' w2 loc' :=
  ⟨St2, Upd.refl _ _, fun b hb => .inl hb, fun e he _ => curOf_self St2.nd he, fun i => rd_weak (W2 _) _ _ (Nat.le_refl _) (R'.sl i), R'.nt, ⟨[], by rw [hz] at hrs; simpa using hrs, List.nodup_nil, by simp⟩⟩
 refine wpIn_mono (hq B2 rfl a' w2 loc' R2) ?_
 rintro e a2 w3 ⟨s3, loc3, hq3, R3⟩
 have hl3 : w3.heap[l]? = some (.loop { L with state := .busy }) := by
  rw [R3.upd.blk l (Array.getElem?_eq_some_iff.1 hlb).1 hlhot']; exact hlb
 have fin : ∀ (jump : Option Code), Sub B2 ⟨[], s3.own⟩ ⟨[], S⟩ → jump.isNone = okk → jump = (if okk then none else some j) → ∃ v w4, (Instr.endRound l jump).run P w3 = .ok v w4 ∧ ∃ v0, Ending.returned v = .returned v0 ∧ v0 = .bool okk ∧ ∃ bl', Upd (hotOf own loc ++ [l]) w w4 ∧ bl'.Nodup ∧ (∀ q ∈ bl', q < w4.heap.size ∧ (q ∈ hotOf own loc ++ [l] ∨ w.heap.size ≤ q)) ∧
   ∀ M', (∀ q ∈ M', q ∈ bl' ∨ (q ∈ M ∧ q ∉ hotOf own loc ++ [l])) → (AbsL sl hsl S tm own0 loc0 l { L with state := if okk then .ready else .done, pending := if okk then none else some j }).J M' bl' (.func (.yield l) #[] #[]) w4.heap := by
  intro jump hsub hj1 hj2
  have hrun := run_endRound (P := P) jump hl3
  have hrec' : ({ ({ L with state := .busy } : Loop) with state := if jump.isNone then .ready else .done, pending := jump } : Loop) = { L with state := if okk then .ready else .done, pending := if okk then none else some j } := by
   rw [hj1, hj2]
  rw [hrec', hj1] at hrun
  obtain ⟨w4, hw4⟩ : ∃ w4, w4 = w3.putObj l (.loop { L with state := if okk then .ready else .done, pending := if okk then none else some j }) := ⟨_, rfl⟩
  rw [← hw4] at hrun
  have hl3lt := (Array.getElem?_eq_some_iff.1 hl3).1
  have hsz4 : w4.heap.size = w3.heap.size := by rw [hw4]; exact putObj_size _ _ _
  have hoth4 : ∀ b, b ≠ l → w4.heap[b]? = w3.heap[b]? := fun b hb => by rw [hw4]; exact World.putObj_heap_other hb
  have hl4 : w4.heap[l]? = some (.loop { L with state := if okk then .ready else .done, pending := if okk then none else some j }) := by rw [hw4]; exact World.putObj_heap_same hl3lt
  have R3' : Rel B2 ⟨[], s3.own⟩ a2 w3 loc3 := ⟨R3.st, R3.upd, R3.new, R3.ver, fun i => by simp [getS, rd], R3.nt, R3.df⟩
  obtain ⟨loc4, R4⟩ := hsub a2 w3 loc3 R3'
  have hl4hot : l ∉ hotOf S loc4 := fun hm => R4.st.ap l hm hlM0
  have uput : ∀ (v : World) (o : Obj), Upd [l] v (v.putObj l o) := fun v o => ⟨rfl, rfl, rfl, fun _ => Nat.le_refl _, by rw [putObj_size]; exact Nat.le_refl _, fun b _ hb => World.putObj_heap_other (fun h => hb (by simp [h]))⟩
  have U1 : Upd (hotOf own loc ++ [l]) w w' := (Upd.refl _ w).trans R'.upd (fun x hx => .inl (List.mem_append_left _ hx))
  have U2 : Upd (hotOf own loc ++ [l]) w w2 := by rw [hw2]; exact U1.trans (uput _ _) (fun x hx => .inl (List.mem_append_right _ hx))
  have U3 : Upd (hotOf own loc ++ [l]) w w3 := U2.trans R4.upd (fun x hx => (R'.new x hx).imp (fun h => List.mem_append_left _ h) id)
  have U4 : Upd (hotOf own loc ++ [l]) w w4 := by rw [hw4]; exact U3.trans (uput _ _) (fun x hx => .inl (List.mem_append_right _ hx))
  have hbl : ∀ q ∈ hotOf S loc4, q < w4.heap.size ∧ (q ∈ hotOf own loc ++ [l] ∨ w.heap.size ≤ q) := by
   intro q hq
   refine ⟨by rw [hsz4]; exact R4.st.lt q (List.mem_append_left _ hq), ?_⟩
   rcases R4.new q hq with h | h
   ·exact (R'.new q h).imp (fun h => List.mem_append_left _ h) id
   ·exact .inr (Nat.le_trans U2.size h)
  refine ⟨_, w4, hrun, _, rfl, rfl, hotOf S loc4 ++ [l], U4, ?_, ?_, ?_⟩
  ·rw [List.nodup_append]
   exact ⟨R4.st.bl, by simp, fun b hb b' hb' hbb => hl4hot (by simp only [List.mem_singleton] at hb'; rw [← hb', ← hbb]; exact hb)⟩
  ·intro q hq
   rcases List.mem_append.1 hq with hq | hq
   ·exact hbl q hq
   ·simp only [List.mem_singleton] at hq
    subst hq
    exact ⟨by rw [hsz4]; exact hl3lt, .inl (by simp)⟩
  ·intro M' hM'
   have hchain : ∀ e ∈ S, e.r < 1 → curOf own loc e.id e.r = some (loc4 e.id) := by
    intro e he hlt
    obtain ⟨e1, h1, h2, h3, h4⟩ := curOf_some (R4.ver e he hlt)
    have h5 := R'.ver e1 h1 (by show e1.r < 1; omega)
    rw [h2, h3] at h5
    rw [h4]; exact h5
   have hinM : ∀ b ∈ M', b ∈ hotOf S loc4 ++ M0 := by
    intro b hb
    rcases hM' b hb with h | ⟨h1, h2⟩
    ·rcases List.mem_append.1 h with h | h
     ·exact List.mem_append_left _ h
     ·simp only [List.mem_singleton] at h
      subst h
      exact List.mem_append_right _ hlM0
    ·exact List.mem_append_right _ ((hM0 b).2 ⟨h1, fun h => h2 (List.mem_append_left _ h)⟩)
   have hd4 : ∀ (b : Nat) (o : Obj), isD o = true → w3.heap[b]? = some o → w4.heap[b]? = some o := by
    intro b o ho hb
    rw [hoth4 b (fun he => by subst he; rw [hl3] at hb; simp only [Option.some.injEq] at hb; subst hb; simp [isD] at ho)]
    exact hb
   have W4 : ∀ n, Weak (curOf S loc4) (curOf S loc4) (hotOf S loc4 ++ M0) M' w3.heap w4.heap n := fun n =>
    ⟨fun _ _ _ _ h => h, fun b o _ (h1 : isD o = true) h2 => hd4 b o h1 h2, fun b o hb (_ : isD o = true) _ hm => hb (hinM b hm)⟩
   have W5 : Weak (curOf own loc) (curOf S loc4) M M' w.heap w4.heap 1 := by
    refine chain_weak hchain (fun b o hb _ ho => ?_) (fun b hb => ?_)
    ·rw [U4.blk b (Array.getElem?_eq_some_iff.1 ho).1 (fun h => hb (hblM b h))]; exact ho
    ·rcases hM' b hb with h | ⟨h1, _⟩
     ·rcases List.mem_append.1 h with h | h
      ·exact (hbl b h).2.imp (hblM b) id
      ·simp only [List.mem_singleton] at h
       subst h
       exact .inl hlM
     ·exact .inl h1
   refine ⟨rfl, loc4, rfl, R4.st.nd, fun e he => ?_, fun p hp => ?_, hl4, fun e he hlt => ?_⟩
   ·exact ObjOK_weak (W4 _) (Nat.le_refl _) (fun b o hb ho => by rw [hoth4 b (fun h => hl4hot (h ▸ mem_hot he hb))]; exact ho) (R4.st.ok e he)
   ·refine rd_weak W5 _ _ (Nat.le_trans ?_ hsl) (hslot p hp)
    have : ∀ (l : List (Nat × DVal)), p ∈ l → mx p.2 ≤ mxS l := by
     intro l
     induction l with
     | nil => intro h; cases h
     | cons q l ih =>
      intro h
      simp only [mxS]
      rcases List.mem_cons.1 h with rfl | h
      ·omega
      ·have := ih h; omega
    exact this sl hp
   ·obtain ⟨e1, h1, h2, h3, h4⟩ := curOf_some (hchain e he hlt)
    have h5 := hver0 e1 h1 (by omega)
    rw [h2, h3] at h5
    rw [h4]; exact h5
 cases e <;> simp only [RQ] at hq3 <;> simp only [roundPost]
 ·obtain ⟨rfl, hs⟩ := hq3
  exact fin none hs rfl rfl
 ·obtain ⟨rfl, rfl, hs⟩ := hq3
  exact fin _ hs rfl rfl
 ·obtain ⟨rfl, rfl, hs⟩ := hq3
  exact fin _ hs rfl rfl
 ·obtain ⟨rfl, rfl, hs⟩ := hq3
  exact fin _ hs rfl rfl
end Go.Dm
end

section
namespace Go.Dm
variable [DMode]
def stopAt (ok : Nat → Bool) : Nat → Option Nat
 | 0 => none
 | n + 1 => match stopAt ok n with
  | some k => some k
  | none => if ok n then none else some n
def ISpec (P : Program) (f : FuncId) (us cs : List DVal) (xs : List (List DVal)) (ok : Nat → Bool) : Prop :=
 ∀ (l : Nat) (A Z : Nat → Abs), (∀ k x, xs[k]? = some x → (∀ j, j < k → ok j = true) → YAt P l (A k) x (ok k) (if ok k then A (k + 1) else Z k)) →
  DSpec P (.func f) (us ++ .pk 0 0 :: cs) [⟨0, 0, .abs (yH l)⟩, ⟨1, 0, .abs (A 0)⟩] (.tup []) [⟨0, 0, .abs (yH l)⟩, ⟨1, 1, .abs (match stopAt ok xs.length with | none => A xs.length | some k => Z k)⟩]
def loopC (P : Program) (c : Code) (idx : List Nat) (nt : Nat) (e0 : Exit) : Tran := fun vs w R => ∀ a : Act, idx.map (fun i => a.tmps.getD i Go.undef) = vs.toList → a.tmps.size = nt →
 c.wpIn (wd none) 0 P (fun e a' w' => e = e0 ∧ (∃ D, a' = { a with defers := { target := .collected D, args := #[] } :: a.defers } ∧ w.heap.size ≤ D ∧ w'.heap[D]? = some (.deferred (some []))) ∧ R (.tuple #[]) w') a w
theorem rdV_idx {cur : Cur} {M : List Nat} {h : Array Obj} {f : Nat → Value} : ∀ {sl : List (Nat × DVal)}, rdV cur M h (sl.map (·.2)) (sl.map fun p => f p.1) → ∀ p ∈ sl, rd cur M h p.2 (f p.1)
 | [], _, p, hp => by cases hp
 | q :: sl, hr, p, hp => by
  simp only [List.map_cons, rdV] at hr
  obtain ⟨v, r, he, h1, h2⟩ := hr
  simp only [List.cons.injEq] at he
  obtain ⟨rfl, rfl⟩ := he
  rcases List.mem_cons.1 hp with rfl | hp
  ·exact h1
  ·exact rdV_idx h2 p hp
theorem loop_spec {P : Program} {gt nt : Nat} {ps : Array Tmp} {assign body : Code} {f : FuncId} {us cs : List DVal} {xs : List (List DVal)} {ok : Nat → Bool} {sl : List (Nat × DVal)} {S Z : Nat → List Ent} {jc : Nat → Code} {T : List Ent} {e0 : Exit}
  (hsl : mxS sl ≤ 1) (hI : ISpec P f us cs xs ok) (hmx : mxL us = 0 ∧ mxL cs = 0) (hgt : (gt, .fn (.func f) us cs) ∈ sl) (hps : ∀ x ∈ xs, x.length = ps.size ∧ mxL x = 0) (hpn : ∀ p ∈ ps.toList, p < nt)
  (round : ∀ k x, xs[k]? = some x → (∀ j, j < k → ok j = true) → ∀ B : Base, B.nt = nt → DW P B assign (RA P nt body (ok k) (if ok k then S (k + 1) else Z k) (jc k)) ⟨putM ps.toList x sl, S k⟩)
  (hT : match stopAt ok xs.length with | none => e0 = .normal ∧ T = S xs.length | some k => (jc k = .ret ∧ e0 = .ret ∨ (∃ id, jc k = .exit id ∧ e0 = .exit id) ∨ (∃ t, jc k = .goto t ∧ e0 = .goto t)) ∧ T = Z k) :
  DSpecG (loopC P (.rangeFunc (.tmp gt) ps assign body) (sl.map (·.1)) nt e0) (sl.map (·.2)) (S 0) (.tup []) T := by
 intro M w loc vs St0 hr a hvs hnt
 have hslot : ∀ p ∈ sl, rd (curOf (S 0) loc) (hotOf (S 0) loc ++ M) w.heap p.2 (a.tmps.getD p.1 Go.undef) := by
  refine rdV_idx (f := fun i => a.tmps.getD i Go.undef) ?_
  rw [← hvs, List.map_map] at hr
  exact hr
 have hg := hslot _ hgt
 simp only [rd] at hg
 obtain ⟨us', cs', hv, hus, hcs⟩ := hg
 refine wpIn_rangeFunc ?_
 intro fn hfn
 obtain ⟨rec, hrec⟩ : ∃ rec : Loop, rec = { state := .ready, pending := none, fn, tmps := a.tmps, params := ps, assign, body, defers := w.heap.size } := ⟨_, rfl⟩
 obtain ⟨W1, hW1⟩ : ∃ W1, W1 = (w.alloc (.deferred (some []))).alloc (.loop rec) := ⟨_, rfl⟩
 obtain ⟨l, hl⟩ : ∃ l, l = w.heap.size + 1 := ⟨_, rfl⟩
 have hsz1 : W1.heap.size = w.heap.size + 2 := by rw [hW1]; simp
 have hold1 : ∀ b, b < w.heap.size → W1.heap[b]? = w.heap[b]? := by
  intro b hb
  rw [hW1]
  simp only [World.alloc, Array.getElem?_push, Array.size_push]
  rw [if_neg (by omega), if_neg (by omega)]
 have hD1 : W1.heap[w.heap.size]? = some (.deferred (some [])) := by
  rw [hW1]; simp only [World.alloc, Array.getElem?_push, Array.size_push]
  rw [if_neg (by omega)]; simp
 have hl1 : W1.heap[l]? = some (.loop rec) := by
  rw [hW1, hl]; simp only [World.alloc, Array.getElem?_push, Array.size_push]
  simp
 have hen := run_enterLoop_outer (P := P) (w := w) fn a.tmps ps assign body
 rw [← hrec, ← hW1, ← hl] at hen
 let A : Nat → Abs := fun k => AbsL sl hsl (S k) a.tmps (S 0) loc l rec
 let Zs : Nat → Abs := fun k => AbsL sl hsl (Z k) a.tmps (S 0) loc l { rec with state := .done, pending := some (jc k) }
 have hy : ∀ k x, xs[k]? = some x → (∀ j, j < k → ok j = true) → YAt P l (A k) x (ok k) (if ok k then A (k + 1) else Zs k) := by
  intro k x hx hj
  have hxm := hps x (List.mem_of_getElem? hx)
  have hY := YAt_of (hsl := hsl) (own := S k) (S := if ok k then S (k + 1) else Z k) (own0 := S 0) (loc0 := loc) (l := l) (L := rec) (tm := a.tmps) (nt := nt) (x := x) (okk := ok k) (j := jc k) (by rw [hrec]) (by rw [hrec]) (by rw [hrec]) hnt (by rw [hrec]; exact hxm.1) (by rw [hrec]; exact hpn) hxm.2 (by rw [hrec]; exact round k x hx hj)
  cases hk : ok k with
  | true =>
   rw [hk] at hY
   have e1 : ({ rec with state := if true = true then .ready else .done, pending := if true = true then none else some (jc k) } : Loop) = rec := by rw [hrec]; rfl
   rw [e1] at hY
   exact hY
  | false =>
   rw [hk] at hY
   exact hY
 have hD := hI l A Zs hy
 have hhotlt : ∀ b ∈ hotOf (S 0) loc, b < w.heap.size := fun b hb => St0.lt b (List.mem_append_left _ hb)
 let loc1 : Nat → Loc := fun i => if i = 0 then ⟨[], .func (.yield l) #[] #[]⟩ else ⟨hotOf (S 0) loc ++ [l], .func (.yield l) #[] #[]⟩
 have hhot1 : hotOf [⟨0, 0, .abs (yH l)⟩, ⟨1, 0, .abs (A 0)⟩] loc1 = hotOf (S 0) loc ++ [l] := by simp [hotOf, loc1]
 have W1w : ∀ n, Weak (curOf (S 0) loc) (curOf (S 0) loc) (hotOf (S 0) loc ++ M) (hotOf (S 0) loc ++ [l] ++ M) w.heap W1.heap n := fun n =>
  ⟨fun _ _ _ _ h => h, fun b o _ (_ : isD o = true) ho => by rw [hold1 b (Array.getElem?_eq_some_iff.1 ho).1]; exact ho, fun b o hb (_ : isD o = true) ho hm => by
   have hlt := (Array.getElem?_eq_some_iff.1 ho).1
   simp only [List.mem_append, List.mem_singleton] at hm hb
   rcases hm with (hm | hm) | hm
   ·exact hb (.inl hm)
   ·omega
   ·exact hb (.inr hm)⟩
 have St1 : St [⟨0, 0, .abs (yH l)⟩, ⟨1, 0, .abs (A 0)⟩] loc1 M W1.heap := by
  refine ⟨by simp, ?_, ?_, ?_, ?_⟩
  ·rw [hhot1, List.nodup_append]
   exact ⟨St0.bl, by simp, fun b hb b' hb' => by simp only [List.mem_singleton] at hb'; have := hhotlt b hb; omega⟩
  ·rw [hhot1]
   intro b hb hm
   rcases List.mem_append.1 hb with hb | hb
   ·exact St0.ap b hb hm
   ·simp only [List.mem_singleton] at hb
    have := St0.lt b (List.mem_append_right _ hm)
    omega
  ·rw [hhot1]
   intro b hb
   simp only [List.mem_append, List.mem_singleton] at hb
   rcases hb with (hb | hb) | hb
   ·have := hhotlt b hb; omega
   ·omega
   ·have := St0.lt b (List.mem_append_right _ hb); omega
  ·intro e he
   simp only [List.mem_cons, List.not_mem_nil, or_false] at he
   rcases he with rfl | rfl
   ·exact ⟨rfl, rfl⟩
   ·refine ⟨rfl, loc, rfl, St0.nd, fun e he => ?_, fun p hp => ?_, hl1, fun e he _ => curOf_self St0.nd he⟩
    ·rw [hhot1]
     exact ObjOK_weak (W1w _) (Nat.le_refl _) (fun b o hb ho => by rw [hold1 b (Array.getElem?_eq_some_iff.1 ho).1]; exact ho) (St0.ok e he)
    ·rw [hhot1]
     exact rd_weak (W1w _) _ _ (Nat.le_refl _) (hslot p hp)
 have W1z : Weak (curOf (S 0) loc) (curOf [⟨0, 0, .abs (yH l)⟩, ⟨1, 0, .abs (A 0)⟩] loc1) (hotOf (S 0) loc ++ M) (hotOf [⟨0, 0, .abs (yH l)⟩, ⟨1, 0, .abs (A 0)⟩] loc1 ++ M) w.heap W1.heap 0 := by
  rw [hhot1]
  exact ⟨fun _ _ _ h => by omega, (W1w 0).b, (W1w 0).m⟩
 have hcall := hD.2.2 M W1 loc1 (us' ++ #[.func (.yield l) #[] #[]] ++ cs') St1 (by
  have e1 : (us' ++ #[Value.func (.yield l) #[] #[]] ++ cs').toList = us'.toList ++ Value.func (.yield l) #[] #[] :: cs'.toList := by simp
  rw [e1]
  refine rdV_append _ _ _ _ (rdV_weak W1z _ _ (Nat.le_of_eq hmx.1) hus) ?_
  simp only [rdV]
  refine ⟨_, _, rfl, ?_, rdV_weak W1z _ _ (Nat.le_of_eq hmx.2) hcs⟩
  simp only [rd]
  intro lc hlc
  have : curOf [⟨0, 0, .abs (yH l)⟩, ⟨1, 0, .abs (A 0)⟩] loc1 0 0 = some (loc1 0) := rfl
  rw [this] at hlc
  simp only [Option.some.injEq] at hlc
  rw [← hlc]
  rfl)
 have hev : a.eval (.tmp gt) = .func (.func f) us' cs' := hv
 refine ⟨l, [{ target := .collected w.heap.size, args := #[] }], W1, { target := .fn (.func f) cs', args := us' ++ #[.func (.yield l) #[] #[]] }, W1, f, us' ++ #[.func (.yield l) #[] #[]] ++ cs', W1, hen, ?_, fun _ _ => trivial, ?_, fun h => by simp [wd] at h, ?_⟩
 ·simp only [resolve, rangeCall, hev]
  simp [Deferred.ofValue, Act.eval]
 ·simp only [invoke]
  exact hcall.1 _ _
 ·refine (calls_wd none _ hcall.2).mono ?_
  rintro e w2 ⟨v, rfl, loc2, S2, hu, hnew, hver, _⟩
  have hk := S2.ok _ (List.mem_cons_of_mem _ List.mem_cons_self)
  have hk0 := S2.ok _ List.mem_cons_self
  have hb0 : (loc2 0).blks = [] := hk0.1
  -- what is known behind, by the loop's state
  have main : ∀ (L : Loop) (T' : List Ent), (AbsL sl hsl T' a.tmps (S 0) loc l L).J (hotOf [⟨0, 0, .abs (yH l)⟩, ⟨1, 1, .abs (match stopAt ok xs.length with | none => A xs.length | some k => Zs k)⟩] loc2 ++ M) (loc2 1).blks (loc2 1).hdr w2.heap → L.state ≠ .busy →
    (Instr.endLoop l).run P w2 = .ok L.pending (w2.putObj l (.loop { L with state := .exhausted })) ∧ (∃ D, ({ a with defers := [{ target := .collected w.heap.size, args := #[] }] ++ a.defers } : Act) = { a with defers := { target := .collected D, args := #[] } :: a.defers } ∧ w.heap.size ≤ D ∧ (w2.putObj l (.loop { L with state := .exhausted })).heap[D]? = some (.deferred (some []))) ∧
    ∃ loc', St T' loc' M (w2.putObj l (.loop { L with state := .exhausted })).heap ∧ Upd (hotOf (S 0) loc) w (w2.putObj l (.loop { L with state := .exhausted })) ∧ (∀ b ∈ hotOf T' loc', b ∈ hotOf (S 0) loc ∨ w.heap.size ≤ b) ∧
     (∀ e ∈ T', e.r < 1 → curOf (S 0) loc e.id e.r = some (loc' e.id)) ∧ rd (curOf T' loc') (hotOf T' loc' ++ M) (w2.putObj l (.loop { L with state := .exhausted })).heap (.tup []) (.tuple #[]) := by
   rintro L T' ⟨_, loc3, hbl, hnd3, hob3, hsl3, hl3, hver3⟩ hbusy
   have hhot2 : hotOf [⟨0, 0, .abs (yH l)⟩, ⟨1, 1, .abs (match stopAt ok xs.length with | none => A xs.length | some k => Zs k)⟩] loc2 = hotOf T' loc3 ++ [l] := by
    simp [hotOf, hb0]
    simpa [hotOf] using hbl
   obtain ⟨w4, hw4⟩ : ∃ w4, w4 = w2.putObj l (.loop { L with state := .exhausted }) := ⟨_, rfl⟩
   rw [← hw4]
   have hrun := run_endLoop (P := P) hl3 hbusy
   rw [← hw4] at hrun
   have hsz4 : w4.heap.size = w2.heap.size := by rw [hw4]; exact putObj_size _ _ _
   have hoth4 : ∀ b, b ≠ l → w4.heap[b]? = w2.heap[b]? := fun b hb => by rw [hw4]; exact World.putObj_heap_other hb
   rw [hhot1] at hu
   have hlhot : l ∉ hotOf T' loc3 := by
    have := S2.bl
    rw [hhot2, List.nodup_append] at this
    exact fun hm => this.2.2 l hm l (by simp) rfl
   refine ⟨hrun, ⟨w.heap.size, rfl, Nat.le_refl _, ?_⟩, loc3, ?_, ?_, ?_, hver3, ?_⟩
   ·rw [hoth4 _ (by omega), hu.blk _ (by omega) (fun h => by
     simp only [List.mem_append, List.mem_singleton] at h
     rcases h with h | h
     ·have := hhotlt _ h; omega
     ·omega)]
    exact hD1
   ·have hsub : ∀ b ∈ hotOf T' loc3, b ∈ hotOf T' loc3 ++ [l] := fun b hb => List.mem_append_left _ hb
    have hd4 : ∀ (b : Nat) (o : Obj), isD o = true → w2.heap[b]? = some o → w4.heap[b]? = some o := by
     intro b o ho hb
     rw [hoth4 b (fun he => by subst he; rw [hl3] at hb; simp only [Option.some.injEq] at hb; subst hb; simp [isD] at ho)]
     exact hb
    refine ⟨hnd3, ?_, fun b hb => S2.ap b (by rw [hhot2]; exact hsub b hb), fun b hb => ?_, fun e he => ?_⟩
    ·have := S2.bl
     rw [hhot2, List.nodup_append] at this
     exact this.1
    ·rw [hsz4]
     refine S2.lt b ?_
     rw [hhot2]
     rcases List.mem_append.1 hb with hb | hb
     ·exact List.mem_append_left _ (hsub b hb)
     ·exact List.mem_append_right _ hb
    ·have h3 := hob3 e he
     rw [hhot2] at h3
     refine ObjOK_weak (n := mxO e.obj) ⟨fun _ _ _ _ h => h, fun b o _ (h1 : isD o = true) h2 => hd4 b o h1 h2, fun b o hb (_ : isD o = true) _ hm => hb ?_⟩ (Nat.le_refl _) (fun b o hb ho => by rw [hoth4 b (fun h => hlhot (h ▸ mem_hot he hb))]; exact ho) h3
     rcases List.mem_append.1 hm with hm | hm
     ·exact List.mem_append_left _ (hsub b hm)
     ·exact List.mem_append_right _ hm
   ·have U1 : Upd (hotOf (S 0) loc) w W1 := ⟨by rw [hW1]; rfl, by rw [hW1]; rfl, by rw [hW1]; rfl, fun _ => by rw [hW1]; exact Nat.le_refl _, by omega, fun b hb _ => hold1 b hb⟩
    have U2 : Upd (hotOf (S 0) loc) w w2 := U1.trans hu (fun x hx => by
     simp only [List.mem_append, List.mem_singleton] at hx
     rcases hx with hx | hx
     ·exact .inl hx
     ·exact .inr (by omega))
    have U3 : Upd [l] w2 w4 := by
     rw [hw4]
     exact ⟨rfl, rfl, rfl, fun _ => Nat.le_refl _, by rw [putObj_size]; exact Nat.le_refl _, fun b _ hb => World.putObj_heap_other (fun h => hb (by simp [h]))⟩
    exact U2.trans U3 (fun x hx => .inr (by simp only [List.mem_singleton] at hx; omega))
   ·intro b hb
    have hbm : b ∈ hotOf [⟨0, 0, .abs (yH l)⟩, ⟨1, 1, .abs (match stopAt ok xs.length with | none => A xs.length | some k => Zs k)⟩] loc2 := by rw [hhot2]; exact List.mem_append_left _ hb
    rcases hnew b hbm with h | h
    ·rw [hhot1] at h
     simp only [List.mem_append, List.mem_singleton] at h
     rcases h with h | h
     ·exact .inl h
     ·exact .inr (by omega)
    ·exact .inr (by omega)
   ·simp only [rd]; exact ⟨#[], rfl, by simp [rdV]⟩
  clear hnew hver
  cases hst : stopAt ok xs.length with
  | none =>
   rw [hst] at hT
   obtain ⟨rfl, rfl⟩ := hT
   have hk' : (A xs.length).J (hotOf [⟨0, 0, .abs (yH l)⟩, ⟨1, 1, .abs (match stopAt ok xs.length with | none => A xs.length | some k => Zs k)⟩] loc2 ++ M) (loc2 1).blks (loc2 1).hdr w2.heap := by
    have h := hk
    simp only [ObjOK] at h
    generalize hF : (match stopAt ok xs.length with | none => A xs.length | some k => Zs k) = F at h ⊢
    rw [hst] at hF
    simp only at hF
    subst hF
    exact h
   obtain ⟨h1, h2, h3⟩ := main rec _ hk' (by rw [hrec]; simp)
   refine ⟨_, _, h1, ?_⟩
   rw [hrec]
   simp only
   rw [hrec] at h2 h3
   exact ⟨trivial, h2, h3⟩
  | some k =>
   rw [hst] at hT
   obtain ⟨hj, rfl⟩ := hT
   have hk' : (Zs k).J (hotOf [⟨0, 0, .abs (yH l)⟩, ⟨1, 1, .abs (match stopAt ok xs.length with | none => A xs.length | some k => Zs k)⟩] loc2 ++ M) (loc2 1).blks (loc2 1).hdr w2.heap := by
    have h := hk
    simp only [ObjOK] at h
    generalize hF : (match stopAt ok xs.length with | none => A xs.length | some k => Zs k) = F at h ⊢
    rw [hst] at hF
    simp only at hF
    subst hF
    exact h
   obtain ⟨h1, h2, h3⟩ := main _ _ hk' (by simp)
   refine ⟨_, _, h1, ?_⟩
   simp only
   rcases hj with ⟨hj, rfl⟩ | ⟨id, hj, rfl⟩ | ⟨t, hj, rfl⟩
   ·rw [hj] at h2 h3 ⊢; exact wpIn_ret ⟨rfl, h2, h3⟩
   ·rw [hj] at h2 h3 ⊢; exact wpIn_exit ⟨rfl, h2, h3⟩
   ·rw [hj] at h2 h3 ⊢; exact wpIn_goto ⟨rfl, h2, h3⟩
theorem DW_rangeFunc {P : Program} {B : Base} {Q : Exit → DS → Prop} {s : DS} {gt nt : Nat} {ps : Array Tmp} {assign body : Code} {f : FuncId} {us cs : List DVal} {xs : List (List DVal)} {ok : Nat → Bool} (ρ ν : List (Nat × Nat)) (sl : List (Nat × DVal)) (S Z : Nat → List Ent) (jc : Nat → Code) (T : List Ent) (e0 : Exit)
  (hI : ISpec P f us cs xs ok) (hB : B.nt = nt ∧ B.ro = none) (hsl : mxS sl ≤ 1) (hmx : mxL us = 0 ∧ mxL cs = 0) (hgt : (gt, .fn (.func f) us cs) ∈ sl) (hps : ∀ x ∈ xs, x.length = ps.size ∧ mxL x = 0) (hpn : ∀ p ∈ ps.toList, p < nt)
  (hpre : outE s.own (phiOf s.own (inRho ρ)) (inRho ρ) = some (S 0) ∧ inOK s.own ρ ∧ (okDs (sl.map fun p => getS s.slots p.1) ∧ wkA ((sl.map fun p => getS s.slots p.1).map (renD (phiOf s.own (inRho ρ)))) (sl.map (·.2))) ∧ (((ρ ++ ν).map (·.1)).Nodup ∧ (ρ.map (·.2)).Nodup))
  (round : ∀ k x, xs[k]? = some x → (∀ j, j < k → ok j = true) → ∀ B : Base, B.nt = nt → DW P B assign (RA P nt body (ok k) (if ok k then S (k + 1) else Z k) (jc k)) ⟨putM ps.toList x sl, S k⟩)
  (hT : match stopAt ok xs.length with | none => e0 = .normal ∧ T = S xs.length | some k => (jc k = .ret ∧ e0 = .ret ∨ (∃ id, jc k = .exit id ∧ e0 = .exit id) ∨ (∃ t, jc k = .goto t ∧ e0 = .goto t)) ∧ T = Z k)
  (hTo : okOs T)
  (hk : ∀ r, match backE (backOf s.own ρ ν r) T with
   | some l => ((frameE s.own ((ρ ++ ν).map (·.1)) ++ l).map (·.id)).Nodup ∧ Q e0 ⟨s.slots, frameE s.own ((ρ ++ ν).map (·.1)) ++ l⟩
   | none => False) : DW P B (.rangeFunc (.tmp gt) ps assign body) Q s := by
 intro a w loc R
 have h := hk (lim B s)
 split at h
 rotate_left
 ·exact h.elim
 rename_i l hl
 obtain ⟨hnd, hQ⟩ := h
 have hC : ∀ vs w (R R' : Value → World → Prop), (∀ v w', R v w' → R' v w') → loopC P (.rangeFunc (.tmp gt) ps assign body) (sl.map (·.1)) nt e0 vs w R → loopC P (.rangeFunc (.tmp gt) ps assign body) (sl.map (·.1)) nt e0 vs w R' :=
  fun vs w R R' h hc a h1 h2 => wpIn_mono (hc a h1 h2) (fun e a' w' ⟨k1, k2, k3⟩ => ⟨k1, k2, h _ _ k3⟩)
 have hS := SpecC_of hC ρ ν (loop_spec hsl hI hmx hgt hps hpn round hT) hpre.1 hpre.2.1 hpre.2.2.1 hpre.2.2.2 hl hTo (by simp [okD, ok3s]) hnd
 have hlim : lim B s = max B.N (max (mxS s.slots) (mxE s.own)) := rfl
 have hw := hS B.M0 w loc ((sl.map fun p => a.tmps.getD p.1 Go.undef).toArray) (by omega) R.st (by
  have key : ∀ l : List (Nat × DVal), rdV (curOf s.own loc) (hotOf s.own loc ++ B.M0) w.heap (l.map fun p => getS s.slots p.1) (l.map fun p => a.tmps.getD p.1 Go.undef) := by
   intro l
   induction l with
   | nil => simp [rdV]
   | cons p l ih => simp only [List.map_cons, rdV]; exact ⟨_, _, rfl, R.sl p.1, ih⟩
  simpa using key sl) a (by simp) (by rw [R.nt]; exact hB.1)
 rw [hB.2]
 refine wpIn_mono hw ?_
 rintro e a' w' ⟨rfl, ⟨D, rfl, hD1, hD2⟩, loc', St', hu, hnew, hver, _⟩
 have R' := R.step (dst := none) (v := Go.undef) (d := .any) (n := lim B s) (by omega) (by omega) (fun i hi => by simp at hi) St' hu hnew hver (by simp [rd])
 refine ⟨_, loc', hQ, ⟨R'.st, R'.upd, R'.new, R'.ver, R'.sl, R'.nt, ?_⟩⟩
 obtain ⟨rs, h1, h2, h3, h4⟩ := R.df
 obtain ⟨rs', g1, g2, g3, g4⟩ := R'.df
 have hrs : ∀ r ∈ rs, r < w.heap.size := fun r hr => (Array.getElem?_eq_some_iff.1 (h3 r hr).1).1
 refine ⟨D :: rs, by simp [h1], ?_, ?_, fun h => absurd hB.2 h⟩
 ·rw [List.nodup_cons]
  exact ⟨fun hm => by have := hrs D hm; omega, h2⟩
 ·intro r hr
  rcases List.mem_cons.1 hr with rfl | hr
  ·refine ⟨hD2, Nat.le_trans B.hnd (Nat.le_trans R.upd.size hD1), fun hm => ?_⟩
   rcases List.mem_append.1 hm with hm | hm
   ·obtain ⟨e, he, hb⟩ := List.mem_flatMap.1 hm
    exact obj_nd (St'.ok e he) _ hb _ hD2
   ·have := R.st.lt r (List.mem_append_right _ hm); omega
  ·obtain ⟨k1, k2, k3⟩ := h3 r hr
   have hlt := hrs r hr
   refine ⟨?_, k2, fun hm => ?_⟩
   ·rw [hu.blk r hlt (fun hm => k3 (List.mem_append_left _ hm))]; exact k1
   ·rcases List.mem_append.1 hm with hm | hm
    ·rcases hnew r hm with h | h
     ·exact k3 (List.mem_append_left _ h)
     ·omega
    ·exact k3 (List.mem_append_right _ hm)
def yOK (own : List Ent) (id r' l : Nat) (A : Abs) : Prop := match findE own id, findE own (id + 1) with
 | some e0, some e => e0.r = r' ∧ e0.obj = .abs (yH l) ∧ e.obj = .abs A
 | _, _ => False
theorem callY_mk {P : Program} {id r' l : Nat} {args : List DVal} {own : List Ent} {K : ContE} {A A' : Abs} {b : Bool} (hY : YAt P l A args b A') (hpre : yOK own id r' l A ∧ mxL args = 0)
  (hk : ∀ r, K.f (.bool b) (upE own (id + 1) r (.abs A'))) : callY P id r' args own K := by
 obtain ⟨h, hm⟩ := hpre
 unfold yOK at h
 split at h
 ·rename_i e0 e h1 h2
  exact ⟨e0, l, e, A, A', b, h1, h.1, h.2.1, h2, h.2.2, hm, hY, hk⟩
 ·exact h.elim
theorem stopAt_some {ok : Nat → Bool} : ∀ {n k : Nat}, k < n → (∀ j, j < k → ok j = true) → ok k = false → stopAt ok n = some k
 | n + 1, k, hk, hj, ho => by
  simp only [stopAt]
  by_cases h : k < n
  ·rw [stopAt_some h hj ho]
  ·have : k = n := by omega
   subst this
   have : stopAt ok k = none := by
    have key : ∀ m, m ≤ k → stopAt ok m = none := by
     intro m
     induction m with
     | zero => intro _; rfl
     | succ m ih => intro hm; simp only [stopAt, ih (by omega), hj m (by omega), if_true]
    exact key k (Nat.le_refl _)
   rw [this, ho]; rfl
theorem stopAt_none {ok : Nat → Bool} : ∀ {n : Nat}, (∀ j, j < n → ok j = true) → stopAt ok n = none
 | 0, _ => rfl
 | n + 1, hj => by simp only [stopAt, stopAt_none (n := n) (fun j h => hj j (by omega)), hj n (by omega), if_true]
theorem stopAt_inv {ok : Nat → Bool} : ∀ {n : Nat}, (∃ k, k < n ∧ stopAt ok n = some k ∧ ok k = false ∧ ∀ j, j < k → ok j = true) ∨ (stopAt ok n = none ∧ ∀ j, j < n → ok j = true)
 | 0 => .inr ⟨rfl, fun j h => by omega⟩
 | n + 1 => by
  rcases stopAt_inv (ok := ok) (n := n) with ⟨k, h1, h2, h3, h4⟩ | ⟨h1, h2⟩
  ·exact .inl ⟨k, by omega, by simp only [stopAt, h2], h3, h4⟩
  ·cases h : ok n with
   | true => exact .inr ⟨by simp only [stopAt, h1, h, if_true], fun j hj => by
    by_cases hjn : j = n
    ·subst hjn; exact h
    ·exact h2 j (by omega)⟩
   | false => exact .inl ⟨n, by omega, by simp only [stopAt, h1, h]; rfl, h, h2⟩
attribute [simp] yOK RA RQ putM
end Go.Dm
end

section
namespace Go.Proofs.YtdgocjbakjamaaaGreat
open Go Go.Dm
variable [DMode]
attribute [local irreducible] DW callP callS callY RB Dm.Sub
set_option maxRecDepth 100000
def isOcc (x : Nd) : Bool := decide (x.k = 2) || decide (x.k = 3)
def occAt (l : List Nd) (j : Nat) : Option (Nat × ByteArray) := match l[j]? with
 | some p => if isOcc p = true then some (j, p.s) else none
 | none => none
def occTo (l : List Nd) (n : Nat) : List (Nat × ByteArray) := (List.range n).filterMap (occAt l)
def dOcc (x : Nat × ByteArray) : List DVal := [.int .i64 x.1, .str x.2]
theorem occTo_succ {l : List Nd} {n : Nat} {p : Nd} (h : l[n]? = some p) : occTo l (n + 1) = occTo l n ++ (if isOcc p = true then [(n, p.s)] else []) := by
 simp only [occTo, List.range_succ, List.filterMap_append, List.filterMap_cons, List.filterMap_nil, occAt, h]
 by_cases hp : isOcc p = true <;> simp [hp]
theorem occTo_split {l : List Nd} {n m : Nat} (h : n ≤ m) : ∃ r, occTo l m = occTo l n ++ r := by
 obtain ⟨d, rfl⟩ : ∃ d, m = n + d := ⟨m - n, by omega⟩
 exact ⟨((List.range d).map (n + ·)).filterMap (occAt l), by simp only [occTo, List.range_add, List.filterMap_append]⟩
theorem occTo_at {l : List Nd} {n m : Nat} {p : Nd} (h : l[n]? = some p) (hp : isOcc p = true) (hm : n < m) : (occTo l m)[(occTo l n).length]? = some (n, p.s) := by
 obtain ⟨r, hr⟩ := occTo_split (l := l)  (show n + 1 ≤ m from hm)
 rw [hr, occTo_succ h, if_pos hp]
 simp
theorem occTo_lt {l : List Nd} {n m : Nat} {p : Nd} (h : l[n]? = some p) (hp : isOcc p = true) (hm : n < m) : (occTo l n).length < (occTo l m).length := (List.getElem?_eq_some_iff.1 (occTo_at h hp hm)).1
def anRX5123 : Ann := ⟨[], []⟩
def anRX5123b2 : Ann := ⟨[5], []⟩
theorem cloneN_pure (l : List Nd) : DPure Tryz.prog 123 [dNds l] (dNds l) := by
 match l with
 | [] =>
  refine DPure_sl [] ?_ ?_
  ·refine DPure_introF [7] (fn := Tryz.f123) Tryz.func123 rfl Tryz.call123 (by simp [Tryz.ntmps123]) (by simp [mx, mxR]) ?_
   intro hwf B hnt
   simp only [Tryz.ntmps123] at hnt
   have hA := an_is anRX5123 Tryz.mixed (aj2 @anRX5123.eq_1 Tryz.results123)
   simp only [argS, List.nil_append, dNds, List.map_cons]
   exact go0 aj0 aj0 aj0
  ·refine DPure_introF [7, 5] (fn := Tryz.f123) Tryz.func123 rfl Tryz.call123 (by simp [Tryz.ntmps123]) (by simp [mx, mxR]) ?_
   intro hwf B hnt
   simp only [Tryz.ntmps123] at hnt
   have hA := an_is anRX5123b2 Tryz.mixed (aj2 @anRX5123b2.eq_1 Tryz.results123)
   simp only [argS, List.nil_append, dNds, List.map_cons]
   exact go0 aj0 aj0 aj0
 | s :: l =>
  refine DPure_introF [7, 5] (fn := Tryz.f123) Tryz.func123 rfl Tryz.call123 (by simp [Tryz.ntmps123]) (by simp [mx, mxR]) ?_
  intro hwf B hnt
  simp only [Tryz.ntmps123] at hnt
  have hA := an_is anRX5123b2 Tryz.mixed (aj2 @anRX5123b2.eq_1 Tryz.results123)
  have hsz : (s :: l).length * 32 ≤ 150000000000000 := by have := hwf.1; simp only [wfD, List.length_map] at this; exact this.1
  clear hwf
  have z2 : (s :: l).length ≤ 9223372036854775807 := by omega
  simp only [List.length_cons] at hsz z2
  simp only [argS, List.nil_append, dNds, List.map_cons]
  exact go0 aj0 aj0 (aj2 hsz z2)
def anRX5153 : Ann := ⟨[25], [⟨2, [4], [], []⟩]⟩
set_option maxHeartbeats 1000000 in
theorem names84_spec (l : List Nd) (ok : Nat → Bool) : ISpec Tryz.prog 153 [] [.ref [dNds l]] ((occTo l l.length).map dOcc) ok := by
 intro lb A Z hY
 refine DSpec_intro [] [(0, 0, 0), (1, 1, 1)] (fn := Tryz.f153) Tryz.func153 rfl Tryz.call153 (by simp [Tryz.ntmps153]) (by simp) (by simp) ?_
 intro hwf B hnt
 simp only [Tryz.ntmps153] at hnt
 have hA := an_is anRX5153 Tryz.mixed (aj2 @anRX5153.eq_1 Tryz.results153)
 have hwl : l.length < 9223372036854775807 := len_nds (by simpa [wfL, wfD] using hwf)
 clear hwf
 simp only [argS, List.nil_append]
 (refine go1 aj0 aj0 aj0 ?_; intros; refine mk_i ?_)
 refine DW_loop (X := {k : Nat // k ≤ l.length ∧ ∀ j, j < (occTo l k).length → ok j = true}) (fun k => ⟨[(0, .pk 0 0), (5, dNds l), (6, .int .i64 l.length), (7, .int .i64 k.1)], [⟨0, 0, .abs (yH lb)⟩, ⟨1, 1, .abs (A (occTo l k.1).length)⟩]⟩) (fun k => l.length - k.1) ⟨0, by simp [occTo]⟩ (Sub.lit (by simp [occTo])) ?_
 rintro ⟨k, hk, hj⟩
 by_cases hlt : k < l.length
 ·obtain ⟨p, hp, hp', hpm⟩ := at_lt' hlt
  have hs := occTo_succ hp
  by_cases hh : isOcc p = true
  ·have hx := hY (occTo l k).length (dOcc (k, p.s)) (by rw [List.getElem?_map, occTo_at hp hh hlt]; rfl) hj
   rw [if_pos hh] at hs
   have hkd : p.k = 2 ∨ p.k = 3 := by unfold isOcc at hh; simpa using hh
   have hgo : ∀ j, j < (occTo l (k + 1)).length → ok (occTo l k).length = true → ok j = true := by
    rw [hs]
    intro j hj' hok
    simp at hj'
    by_cases hjk : j = (occTo l k).length
    ·subst hjk; exact hok
    ·exact hj j (by omega)
   rcases hkd with hkd | hkd
   ·(refine go1 aj0 aj0 (aj5 @dNd.eq_1 hlt hp hp' hkd) ?_; intros; refine mk_i ?_)
    cases hok : ok (occTo l k).length
    ·rw [hok] at hx
     refine callY_mk hx (by simp [dOcc]) (fun r => ?_)
     have hst := stopAt_some (occTo_lt hp hh hlt) hj hok
     simp [hnt, Tryz.results153, anRX5153, hst]
     exact go0 aj0 aj0 (aj1 hst)
    ·rw [hok] at hx
     refine callY_mk hx (by simp [dOcc]) (fun r => ?_)
     simp [hnt, Tryz.results153, anRX5153]
     (refine go1 aj0 aj0 aj0 ?_; intros; refine mk_i ?_)
     refine Again.mk ⟨k + 1, by omega, fun j hj' => hgo j hj' hok⟩ (Sub.lit (by simp [hs])) (by simp; omega)
     skip
   ·(refine go1 aj0 aj0 (aj5 @dNd.eq_1 hlt hp hp' hkd) ?_; intros; refine mk_i ?_)
    cases hok : ok (occTo l k).length
    ·rw [hok] at hx
     refine callY_mk hx (by simp [dOcc]) (fun r => ?_)
     have hst := stopAt_some (occTo_lt hp hh hlt) hj hok
     simp [hnt, Tryz.results153, anRX5153, hst]
     exact go0 aj0 aj0 (aj1 hst)
    ·rw [hok] at hx
     refine callY_mk hx (by simp [dOcc]) (fun r => ?_)
     simp [hnt, Tryz.results153, anRX5153]
     (refine go1 aj0 aj0 aj0 ?_; intros; refine mk_i ?_)
     refine Again.mk ⟨k + 1, by omega, fun j hj' => hgo j hj' hok⟩ (Sub.lit (by simp [hs])) (by simp; omega)
     skip
  ·rw [if_neg hh, List.append_nil] at hs
   have h2 : ¬ p.k = 2 := fun e => hh (by unfold isOcc; simp [e])
   have h3 : ¬ p.k = 3 := fun e => hh (by unfold isOcc; simp [e])
   have h2' : (p.k == 2) = false := by simpa using h2
   have h3' : (p.k == 3) = false := by simpa using h3
   (refine go1 aj0 aj0 (aj8 @dNd.eq_1 hlt hp hp' h2 h3 h2' h3') ?_; intros; refine mk_i ?_)
   refine Again.mk ⟨k + 1, by omega, by rw [hs]; exact hj⟩ (Sub.lit (by simp [hs])) (by simp; omega)
   skip
 ·have hkk : k = l.length := by omega
  subst hkk
  have hst := stopAt_none hj
  exact go0 aj0 aj0 (aj1 hst)
def anRX583 : Ann := ⟨[1], [⟨1, [1], [], []⟩]⟩
theorem names41_pure (l : List Nd) : DPure Tryz.prog 83 [dNds l] (.fn (.func 153) [] [.ref [dNds l]]) := by
 refine DPure_introF [] (fn := Tryz.f83) Tryz.func83 rfl Tryz.call83 (by simp [Tryz.ntmps83]) (by simp [mx, mxL]) ?_
 intro hwf B hnt
 simp only [Tryz.ntmps83] at hnt
 have hA := an_is anRX583 Tryz.mixed (aj2 @anRX583.eq_1 Tryz.results83)
 clear hwf
 simp only [argS]
 have h1 := cloneN_pure l
 exact go0 (aj1 h1) aj0 aj0
def occN (l : List Nd) : Nat := (occTo l l.length).length
def anRX521 : Ann := ⟨[], []⟩
set_option maxHeartbeats 1000000 in
theorem occ13_pure (l : List Nd) : DPure Tryz.prog 21 [dNds l] (.int .i64 (occN l)) := by
 refine DPure_introF [] (fn := Tryz.f21) Tryz.func21 rfl Tryz.call21 (by simp [Tryz.ntmps21]) (by simp [mx]) ?_
 intro hwf B hnt
 simp only [Tryz.ntmps21] at hnt
 have hA := an_is anRX521 Tryz.mixed (aj2 @anRX521.eq_1 Tryz.results21)
 have hwl := len_nds hwf.1
 clear hwf
 simp only [argS]
 have h1 := names41_pure l
 (refine go1 (aj1 h1) aj0 aj0 ?_; intros; refine mk_i ?_)
 have hI := names84_spec l (fun _ => true)
 have hst : stopAt (fun _ : Nat => true) (occTo l l.length).length = none := stopAt_none fun _ _ => rfl
 have hocc : ∀ x ∈ (occTo l l.length).map dOcc, x.length = 2 ∧ mxL x = 0 := by
  intro x hx
  obtain ⟨y, _, rfl⟩ := List.mem_map.1 hx
  exact ⟨rfl, by simp [dOcc, mx]⟩
 have hlen : (occTo l l.length).length ≤ l.length := by
  simp only [occTo]
  exact Nat.le_trans (List.length_filterMap_le _ _) (by simp)
 refine DW_rangeFunc (nt := 11) [(3, 3)] [] [(0, dNds l), (3, .bx 3 0 0), (5, .fn (.func 153) [] [.ref [dNds l]])]
  (fun k => [⟨3, 0, .box [.int .i64 (k : Int)]⟩]) (fun k => [⟨3, 0, .box [.int .i64 (k : Int)]⟩]) (fun _ => .ret) [⟨3, 0, .box [.int .i64 (occN l : Int)]⟩] .normal
  hI (by simp [hnt]) (by simp [mxS]) (by simp) (List.mem_of_getElem? (i := 2) rfl) hocc (by simp) ?_ ?_ ?_ ?_ ?_
 ·simp
 ·intro k x hx hj B1 hnt
  rw [List.getElem?_map, Option.map_eq_some_iff] at hx
  obtain ⟨⟨j, s⟩, hy, rfl⟩ := hx
  have hkl : k < (occTo l l.length).length := (List.getElem?_eq_some_iff.1 hy).1
  have hw : IntKind.i64.wrap ((k : Int) + 1) = (k : Int) + 1 := wrap64_in (by omega) (by omega)
  simp only [Array.toList, putM]
  (refine go1 aj0 aj0 aj0 ?_; intros; refine mk_i ?_)
  refine RB_mk fun B2 hnt => ?_
  (refine go1 aj0 aj0 (aj2 @dOcc.eq_1 hw) ?_; intros; refine mk_i ?_)
  refine Sub.lit ?_
  simp
 ·simp only [List.length_map, hst]
  exact ⟨trivial, rfl⟩
 ·simp
 ·intro r
  simp
  exact go0 aj0 aj0 aj0
end Go.Proofs.YtdgocjbakjamaaaGreat
end

section
namespace Go.Proofs.YtdgocjbakjamaaaGreat
open Go Go.Dm
variable [DMode]
attribute [local irreducible] DW callP callS
set_option maxRecDepth 100000
def anWC1141 : Ann := ⟨[], []⟩
theorem or3_pure (a b c : Int) : DPure Tryz.prog 141 [.sl 1 8 [[.int .i64 a], [.int .i64 b], [.int .i64 c]]] (.int .i64 (if a = 0 then (if b = 0 then c else b) else a)) := by
 refine DPure_introF [] (fn := Tryz.f141) Tryz.func141 rfl Tryz.call141 (by simp [Tryz.ntmps141]) (by simp [mx]) ?_
 intro hwf B hnt
 simp only [Tryz.ntmps141] at hnt
 have hA := an_is anWC1141 Tryz.mixed (aj2 @anWC1141.eq_1 Tryz.results141)
 simp only [argS]
 (refine go1 aj0 aj0 aj0 ?_; intros; refine mk_i ?_)
 refine DW_loop (X := {k : Nat // k ≤ 3 ∧ (0 < k → a = 0) ∧ (1 < k → b = 0) ∧ (2 < k → c = 0)}) (fun k => ⟨[(3, .int .i64 0), (6, .sl 1 8 [[.int .i64 a], [.int .i64 b], [.int .i64 c]]), (7, .int .i64 3), (8, .int .i64 k.1)], []⟩) (fun k => 3 - k.1) ⟨0, by simp⟩ (Sub.lit (by simp)) ?_
 rintro ⟨k, hk, ha, hb, hc⟩
 match k, hk, ha, hb, hc with
 | 0, _, _, _, _ =>
  by_cases h : a = 0
  ·(refine go1 aj0 aj0 (aj1 h) ?_; intros; refine mk_i ?_)
   refine Again.mk ⟨1, by simp [h]⟩ (Sub.lit (by simp)) (by simp)
   skip
  ·have h' : (a != 0) = true := by simpa using h
   exact go0 aj0 aj0 (aj2 h h')
 | 1, _, ha, _, _ =>
  have ha := ha (by omega)
  by_cases h : b = 0
  ·(refine go1 aj0 aj0 (aj1 h) ?_; intros; refine mk_i ?_)
   refine Again.mk ⟨2, by simp [h, ha]⟩ (Sub.lit (by simp)) (by simp)
   skip
  ·have h' : (b != 0) = true := by simpa using h
   exact go0 aj0 aj0 (aj3 h h' ha)
 | 2, _, ha, hb, _ =>
  have ha := ha (by omega)
  have hb := hb (by omega)
  by_cases h : c = 0
  ·(refine go1 aj0 aj0 (aj1 h) ?_; intros; refine mk_i ?_)
   refine Again.mk ⟨3, by simp [h, ha, hb]⟩ (Sub.lit (by simp)) (by simp)
   skip
  ·have h' : (c != 0) = true := by simpa using h
   exact go0 aj0 aj0 (aj4 h h' ha hb)
 | 3, _, ha, hb, hc =>
  have ha := ha (by omega)
  have hb := hb (by omega)
  have hc := hc (by omega)
  exact go0 aj0 aj0 (aj3 ha hb hc)
def compGo {α : Type} (e : α → α → Bool) (p : α) : List α → List α
 | [] => []
 | y :: l => if e y p then compGo e y l else y :: compGo e y l
def compL {α : Type} (e : α → α → Bool) : List α → List α
 | [] => []
 | x :: l => x :: compGo e x l
theorem compGo_snoc {α : Type} {e : α → α → Bool} {y : α} : ∀ {l : List α} {p : α}, compGo e p (l ++ [y]) = compGo e p l ++ (if e y (l.getLast?.getD p) then [] else [y])
 | [], p => by by_cases h : e y p <;> simp [compGo, h]
 | x :: l, p => by
  have h := compGo_snoc (e := e) (y := y) (l := l) (p := x)
  have h2 : (x :: l).getLast?.getD p = l.getLast?.getD x := by
   cases l with
   | nil => rfl
   | cons z l => simp [List.getLast?_cons_cons, List.getLast?_eq_some_getLast]
  rw [h2]
  simp only [List.cons_append, compGo]
  split
  ·exact h
  ·rw [h]; rfl
theorem compL_snoc {α : Type} {e : α → α → Bool} {l : List α} {k : Nat} {x y : α} (h0 : 0 < k) (hx : l[k - 1]? = some x) (hy : l[k]? = some y) : compL e (l.take (k + 1)) = compL e (l.take k) ++ (if e y x then [] else [y]) := by
 rw [List.take_add_one, hy]
 obtain ⟨z, t, hz⟩ : ∃ z t, l.take k = z :: t := by
  cases h : l.take k with
  | nil =>
   have h1 := congrArg List.length h
   have := (List.getElem?_eq_some_iff.1 hy).1
   rw [List.length_take] at h1
   simp only [List.length_nil] at h1
   omega
  | cons z t => exact ⟨z, t, rfl⟩
 have hl : (l.take k).getLast? = some x := by
  rw [List.getLast?_eq_getElem?, List.getElem?_take]
  have := (List.getElem?_eq_some_iff.1 hy).1
  simp only [List.length_take]
  rw [show min k l.length - 1 = k - 1 by omega, if_pos (by omega)]
  exact hx
 rw [hz] at hl ⊢
 have h2 : t.getLast?.getD z = x := by
  cases t with
  | nil => simpa using hl
  | cons a t => simpa [List.getLast?_cons_cons, List.getLast?_eq_some_getLast] using hl
 simp only [Option.toList_some, List.cons_append, compL, compGo_snoc, h2]
end Go.Proofs.YtdgocjbakjamaaaGreat
end

section
namespace Go.Proofs.YtdgocjbakjamaaaGreat
open Go Go.Dm
variable [DMode]
attribute [local irreducible] DW callP callS
set_option maxRecDepth 100000
def cmpI (a b : Int) : Int := if a < b then -1 else if b < a then 1 else 0
def anWC2220 : Ann := ⟨[], []⟩
theorem isNaN_pure (n : Int) : DPure Tryz.prog 220 [.int .i64 n] (.bool false) := by
 refine DPure_introF [] (fn := Tryz.f220) Tryz.func220 rfl Tryz.call220 (by simp [Tryz.ntmps220]) (by simp [mx]) ?_
 intro hwf B hnt
 simp only [Tryz.ntmps220] at hnt
 have hA := an_is anWC2220 Tryz.mixed (aj2 @anWC2220.eq_1 Tryz.results220)
 simp only [argS]
 exact go0 aj0 aj0 aj0
def anWC2142 : Ann := ⟨[], []⟩
theorem cmpInt_pure (a b : Int) : DPure Tryz.prog 142 [.int .i64 a, .int .i64 b] (.int .i64 (cmpI a b)) := by
 refine DPure_introF [] (fn := Tryz.f142) Tryz.func142 rfl Tryz.call142 (by simp [Tryz.ntmps142]) (by simp [mx]) ?_
 intro hwf B hnt
 simp only [Tryz.ntmps142] at hnt
 have hA := an_is anWC2142 Tryz.mixed (aj2 @anWC2142.eq_1 Tryz.results142)
 simp only [argS]
 by_cases h1 : a < b
 ·exact go0 (aj2 (isNaN_pure a) (isNaN_pure b)) aj0 (aj2 h1 @cmpI.eq_1)
 ·by_cases h2 : b < a
  ·exact go0 (aj2 (isNaN_pure a) (isNaN_pure b)) aj0 (aj3 h1 h2 @cmpI.eq_1)
  ·exact go0 (aj2 (isNaN_pure a) (isNaN_pure b)) aj0 (aj3 h1 h2 @cmpI.eq_1)
def symC (x y : Sym) : Int := if x.label = y.label then cmpI x.n y.n else if x.label then 1 else -1
end Go.Proofs.YtdgocjbakjamaaaGreat
end

section
namespace Go.Proofs.YtdgocjbakjamaaaGreat
open Go Go.Dm
variable [DMode]
structure Arc where
 fr : Int
 sy : Sym
 to : Int
 deriving DecidableEq
def dArc (x : Arc) : List DVal := [.int .i64 x.fr, .bool x.sy.label, .int .i64 x.sy.n, .int .i64 x.to]
abbrev dArcs (l : List Arc) : DVal := .sl 4 32 (l.map dArc)
def dNum (n : Int) : List DVal := [.int .i64 n]
abbrev dNums (l : List Int) : DVal := .sl 1 8 (l.map dNum)
def dBl (b : Bool) : List DVal := [.bool b]
structure Auto where
 st : Int
 fin : List Int
 arcs : List Arc
 deriving DecidableEq
def dAuto (a : Auto) : List DVal := [.int .i64 a.st, dNums a.fin, dArcs a.arcs]
@[simp] theorem mx_dArc (s : Arc) : mxL (dArc s) = 0 := by simp [dArc, mxL, mx]
@[simp] theorem mx_dArcs (l : List Arc) : mxR (l.map dArc) = 0 := mxR0 _ mx_dArc l
@[simp] theorem mx_dNum (s : Int) : mxL (dNum s) = 0 := by simp [dNum, mxL, mx]
@[simp] theorem mx_dNums (l : List Int) : mxR (l.map dNum) = 0 := mxR0 _ mx_dNum l
@[simp] theorem mx_dBl (s : Bool) : mxL (dBl s) = 0 := by simp [dBl, mxL, mx]
@[simp] theorem mx_dBls (l : List Bool) : mxR (l.map dBl) = 0 := mxR0 _ mx_dBl l
@[simp] theorem mx_dAuto (a : Auto) : mxL (dAuto a) = 0 := by simp [dAuto, mxL, mx]
theorem len_nums {l : List Int} (h : wfD (dNums l)) : l.length < 9223372036854775807 := by
 simp only [wfD, List.length_map] at h
 omega
def stB (s q : Int) : Bool := decide (0 ≤ q) && decide (q < s)
def okF (s : Int) (l : List Int) (k : Nat) : Bool := match l[k]? with
 | none => true
 | some q => stB s q && (decide (k = 0) || match l[k - 1]? with | none => true | some p => decide (p < q))
theorem okF_zero {s : Int} {l : List Int} {q : Int} (h : l[0]? = some q) : okF s l 0 = stB s q := by
 unfold okF; rw [h]; simp
theorem okF_pos {s : Int} {l : List Int} {k : Nat} {p q : Int} (hk : 0 < k) (h : l[k]? = some q) (hp : l[k - 1]? = some p) : okF s l k = (stB s q && decide (p < q)) := by
 unfold okF; rw [h]
 simp only [hp, show ¬ k = 0 by omega, decide_false, Bool.false_or]
def arcC (x y : Arc) : Int := if cmpI x.fr y.fr = 0 then (if symC x.sy y.sy = 0 then cmpI x.to y.to else symC x.sy y.sy) else cmpI x.fr y.fr
def symLess (x y : Sym) : Bool := if x.label = y.label then decide (x.n < y.n) else y.label
def arcLess (x y : Arc) : Bool := if x.fr = y.fr then (if x.sy = y.sy then decide (x.to < y.to) else symLess x.sy y.sy) else decide (x.fr < y.fr)
theorem cmpI_zero {a b : Int} : cmpI a b = 0 ↔ a = b := by unfold cmpI; split <;> (try split) <;> omega
theorem cmpI_neg {a b : Int} : cmpI a b < 0 ↔ a < b := by unfold cmpI; split <;> (try split) <;> omega
theorem symC_zero {x y : Sym} : symC x y = 0 ↔ x = y := by
 obtain ⟨a, n⟩ := x
 obtain ⟨b, m⟩ := y
 unfold symC
 cases a <;> cases b <;> simp [cmpI_zero]
theorem symLess_eq (x y : Sym) : symLess x y = decide (symC x y < 0) := by
 obtain ⟨a, n⟩ := x
 obtain ⟨b, m⟩ := y
 unfold symC symLess
 cases a <;> cases b <;> simp [cmpI_neg]
theorem arcLess_eq (x y : Arc) : arcLess x y = decide (arcC x y < 0) := by
 unfold arcLess arcC
 by_cases h1 : x.fr = y.fr
 ·rw [if_pos h1, if_pos (cmpI_zero.2 h1)]
  by_cases h2 : x.sy = y.sy
  ·rw [if_pos h2, if_pos (symC_zero.2 h2)]
   exact decide_eq_decide.2 cmpI_neg.symm
  ·rw [if_neg h2, if_neg (fun h => h2 (symC_zero.1 h)), symLess_eq]
 ·rw [if_neg h1, if_neg (fun h => h1 (cmpI_zero.1 h))]
  exact decide_eq_decide.2 cmpI_neg.symm
def arcOK (s : Int) (x : Arc) : Bool := stB s x.fr && (stB s x.to && decide (0 ≤ x.sy.n))
def okA (s : Int) (l : List Arc) (k : Nat) : Bool := match l[k]? with
 | none => true
 | some q => arcOK s q && (decide (k = 0) || match l[k - 1]? with | none => true | some p => arcLess p q)
theorem okA_zero {s : Int} {l : List Arc} {q : Arc} (h : l[0]? = some q) : okA s l 0 = arcOK s q := by
 unfold okA; rw [h]; simp
theorem okA_pos {s : Int} {l : List Arc} {k : Nat} {p q : Arc} (hk : 0 < k) (h : l[k]? = some q) (hp : l[k - 1]? = some p) : okA s l k = (arcOK s q && arcLess p q) := by
 unfold okA; rw [h]
 simp only [hp, show ¬ k = 0 by omega, decide_false, Bool.false_or]
def autoOK (a : Auto) : Bool := decide (1 ≤ a.st) && decide (a.st ≤ 65) && ((List.range a.fin.length).all (okF a.st a.fin) && (List.range a.arcs.length).all (okA a.st a.arcs))
theorem ok_st {a : Auto} (h : autoOK a = true) : 1 ≤ a.st ∧ a.st ≤ 65 := by
 unfold autoOK at h
 simp only [Bool.and_eq_true, decide_eq_true_eq] at h
 exact h.1
theorem ok_fin {a : Auto} (h : autoOK a = true) {q : Int} (hq : q ∈ a.fin) : 0 ≤ q ∧ q < a.st := by
 unfold autoOK at h
 simp only [Bool.and_eq_true, List.all_eq_true] at h
 obtain ⟨k, hk, rfl⟩ := List.getElem_of_mem hq
 have := h.2.1 k (List.mem_range.2 hk)
 unfold okF stB at this
 rw [List.getElem?_eq_getElem hk] at this
 simp only [Bool.and_eq_true, decide_eq_true_eq] at this
 exact this.1
theorem ok_arc {a : Auto} (h : autoOK a = true) {x : Arc} (hx : x ∈ a.arcs) : 0 ≤ x.fr ∧ x.fr < a.st ∧ 0 ≤ x.to ∧ x.to < a.st := by
 unfold autoOK at h
 simp only [Bool.and_eq_true, List.all_eq_true] at h
 obtain ⟨k, hk, rfl⟩ := List.getElem_of_mem hx
 have := h.2.2 k (List.mem_range.2 hk)
 unfold okA arcOK stB at this
 rw [List.getElem?_eq_getElem hk] at this
 simp only [Bool.and_eq_true, decide_eq_true_eq] at this
 exact ⟨this.1.1.1, this.1.1.2, this.1.2.1.1, this.1.2.1.2⟩
def bD (l : List Bool) : List (List DVal) := l.map dBl
@[simp] theorem mx_bD (l : List Bool) : mxR (bD l) = 0 := mx_dBls l
end Go.Proofs.YtdgocjbakjamaaaGreat
end

section
namespace Go.Proofs.YtdgocjbakjamaaaGreat
open Go Go.Dm
variable [DMode]
structure OrdC {α : Type} (c : α → α → Int) : Prop where
 eq0 : ∀ x y, c x y = 0 ↔ x = y
 anti : ∀ x y, c x y < 0 ↔ 0 < c y x
 trans : ∀ x y z, c x y < 0 → c y z < 0 → c x z < 0
theorem OrdC.refl {α : Type} {c : α → α → Int} (h : OrdC c) (x : α) : c x x = 0 := (h.eq0 x x).2 rfl
theorem OrdC.nle {α : Type} {c : α → α → Int} (h : OrdC c) {x y : α} : ¬ c x y < 0 ↔ c y x < 0 ∨ x = y := by
 have h1 := h.anti x y
 have h2 := h.anti y x
 have h3 := h.eq0 x y
 constructor
 ·intro hn
  by_cases h0 : c x y = 0
  ·exact .inr (h3.1 h0)
  ·exact .inl (h2.2 (by omega))
 ·rintro (h4 | rfl)
  ·have := h2.1 h4; omega
  ·rw [h.refl]; omega
theorem OrdC.ntrans {α : Type} {c : α → α → Int} (h : OrdC c) (x y z : α) (h1 : ¬ c x y < 0) (h2 : ¬ c y z < 0) : ¬ c x z < 0 := by
 rw [h.nle] at *
 rcases h1 with h1 | rfl
 ·rcases h2 with h2 | rfl
  ·exact .inl (h.trans _ _ _ h2 h1)
  ·exact .inl h1
 ·exact h2
theorem OrdC.le_anti {α : Type} {c : α → α → Int} (h : OrdC c) {x y : α} (h1 : ¬ c x y < 0) (h2 : ¬ c y x < 0) : x = y := by
 rcases h.nle.1 h1 with h1 | h1
 ·exact absurd h1 h2
 ·exact h1
theorem OrdC.total {α : Type} {c : α → α → Int} (h : OrdC c) (x y : α) : ¬ c x y < 0 ∨ ¬ c y x < 0 := by
 by_cases h1 : c x y < 0
 ·right; have := (h.anti x y).1 h1; omega
 ·exact .inl h1
theorem ordI : OrdC cmpI := by
 refine ⟨fun x y => ?_, fun x y => ?_, fun x y z => ?_⟩ <;> unfold cmpI
 ·split
  ·constructor <;> intro h <;> omega
  ·split
   ·constructor <;> intro h <;> omega
   ·constructor <;> intro h <;> omega
 ·by_cases h1 : x < y <;> by_cases h2 : y < x <;> simp [h1, h2] <;> omega
 ·by_cases h1 : x < y <;> by_cases h2 : y < z <;> by_cases h3 : x < z <;> simp [h1, h2, h3] <;> (try split) <;> (try split) <;> omega
def lexC {α β : Type} (c : α → α → Int) (d : β → β → Int) (x y : α × β) : Int := if c x.1 y.1 = 0 then d x.2 y.2 else c x.1 y.1
theorem ordLex {α β : Type} {c : α → α → Int} {d : β → β → Int} (h : OrdC c) (k : OrdC d) : OrdC (lexC c d) := by
 refine ⟨fun x y => ?_, fun x y => ?_, fun x y z => ?_⟩ <;> unfold lexC
 ·obtain ⟨x1, x2⟩ := x
  obtain ⟨y1, y2⟩ := y
  simp only [_root_.Prod.mk.injEq]
  split
  ·rename_i h0
   rw [k.eq0]
   exact ⟨fun hh => ⟨(h.eq0 _ _).1 h0, hh⟩, fun hh => hh.2⟩
  ·rename_i h0
   exact ⟨fun hh => absurd hh h0, fun hh => absurd ((h.eq0 _ _).2 hh.1) h0⟩
 ·by_cases h0 : c x.1 y.1 = 0
  ·have h1 : c y.1 x.1 = 0 := (h.eq0 _ _).2 ((h.eq0 _ _).1 h0).symm
   rw [if_pos h0, if_pos h1]; exact k.anti _ _
  ·have h1 : ¬ c y.1 x.1 = 0 := fun hh => h0 ((h.eq0 _ _).2 ((h.eq0 _ _).1 hh).symm)
   rw [if_neg h0, if_neg h1]; exact h.anti _ _
 ·by_cases h0 : c x.1 y.1 = 0
  ·have e0 := (h.eq0 _ _).1 h0
   rw [if_pos h0]
   by_cases h1 : c y.1 z.1 = 0
   ·have e1 := (h.eq0 _ _).1 h1
    have h2 : c x.1 z.1 = 0 := (h.eq0 _ _).2 (e0.trans e1)
    rw [if_pos h1, if_pos h2]; exact k.trans _ _ _
   ·have h2 : ¬ c x.1 z.1 = 0 := by rw [e0]; exact h1
    rw [if_neg h1, if_neg h2, e0]; exact fun _ hh => hh
  ·rw [if_neg h0]
   by_cases h1 : c y.1 z.1 = 0
   ·have e1 := (h.eq0 _ _).1 h1
    have h2 : ¬ c x.1 z.1 = 0 := by rw [← e1]; exact h0
    rw [if_pos h1, if_neg h2, ← e1]; exact fun hh _ => hh
   ·rw [if_neg h1]
    intro h3 h4
    have h5 := h.trans _ _ _ h3 h4
    have h2 : ¬ c x.1 z.1 = 0 := by omega
    rw [if_neg h2]; exact h5
theorem ordKey {α β : Type} {c : α → α → Int} (h : OrdC c) (f : β → α) (hf : ∀ x y, f x = f y → x = y) : OrdC (fun x y => c (f x) (f y)) :=
 ⟨fun x y => by rw [h.eq0]; exact ⟨hf _ _, fun hh => by rw [hh]⟩, fun x y => h.anti _ _, fun x y z => h.trans _ _ _⟩
theorem ordSym : OrdC symC := by
 have h := ordKey (ordLex ordI ordI) (fun s : Sym => ((if s.label then 1 else 0 : Int), s.n)) (by
  rintro ⟨l, n⟩ ⟨l', n'⟩ hh
  simp only [_root_.Prod.mk.injEq] at hh
  obtain ⟨h1, rfl⟩ := hh
  cases l <;> cases l' <;> simp_all)
 have e : symC = fun x y : Sym => lexC cmpI cmpI ((if x.label then 1 else 0 : Int), x.n) ((if y.label then 1 else 0 : Int), y.n) := by
  funext x y
  obtain ⟨l, n⟩ := x
  obtain ⟨l', n'⟩ := y
  cases l <;> cases l' <;> simp [symC, lexC, cmpI]
 rw [e]; exact h
def sortC {α : Type} (c : α → α → Int) (l : List α) : List α := l.mergeSort (fun x y => !decide (c y x < 0))
theorem sortC_perm {α : Type} (c : α → α → Int) (l : List α) : (sortC c l).Perm l := List.mergeSort_perm _ _
theorem sortC_sorted {α : Type} {c : α → α → Int} (h : OrdC c) (l : List α) : (sortC c l).Pairwise (fun x y => ¬ c y x < 0) := by
 have := List.pairwise_mergeSort (le := fun x y => !decide (c y x < 0)) (by
  intro a b d h1 h2
  simp only [Bool.not_eq_true', decide_eq_false_iff_not] at *
  exact h.ntrans _ _ _ h2 h1) (by
  intro a b
  simp only [Bool.or_eq_true, Bool.not_eq_true', decide_eq_false_iff_not]
  exact h.total b a) l
 exact this.imp fun h => by simpa using h
theorem sorted_eq {α : Type} {c : α → α → Int} (h : OrdC c) {a b : List α} (hp : a.Perm b) (ha : a.Pairwise (fun x y => ¬ c y x < 0)) (hb : b.Pairwise (fun x y => ¬ c y x < 0)) : a = b :=
 List.Perm.eq_of_pairwise (le := fun x y => ¬ c y x < 0) (fun x y _ _ h1 h2 => h.le_anti h2 h1) ha hb hp
theorem uniq_rows {α : Type} {c : α → α → Int} (h : OrdC c) {d : α → List DVal} {u : List DVal → α} (hu : ∀ x, u (d x) = x) {l : List α} {L : List (List DVal)} (hp : L.Perm (l.map d)) (hs : L.Pairwise (fun x y => ¬ c (u y) (u x) < 0)) : L = (sortC c l).map d := by
 have h1 : (L.map u).Perm l := by
  have := hp.map u
  rwa [List.map_map, show u ∘ d = id from funext hu, List.map_id] at this
 have h2 : (L.map u).Pairwise (fun x y => ¬ c y x < 0) := by rw [List.pairwise_map]; exact hs
 have h3 := sorted_eq h (h1.trans (sortC_perm c l).symm) h2 (sortC_sorted h l)
 have h4 : L = (L.map u).map d := by
  rw [List.map_map]
  have h5 : ∀ x ∈ L, (d ∘ u) x = id x := by
   intro x hx
   obtain ⟨y, _, rfl⟩ := List.mem_map.1 (hp.mem_iff.1 hx)
   simp [hu]
  rw [List.map_congr_left h5, List.map_id]
 rw [h4, h3]
end Go.Proofs.YtdgocjbakjamaaaGreat
end

section
namespace Go.Proofs.YtdgocjbakjamaaaGreat
open Go Go.Dm
variable [DMode]
def insC {α : Type} (c : α → α → Int) : List α → α → List α
 | [], p => [p]
 | x :: l, p => if c x p < 0 then x :: insC c l p else if c p x < 0 then p :: x :: l else x :: l
theorem mem_insC {α : Type} {c : α → α → Int} (h : OrdC c) {p z : α} : ∀ {l : List α}, z ∈ insC c l p ↔ z = p ∨ z ∈ l
 | [] => by simp [insC]
 | x :: l => by
  have ih := mem_insC h (p := p) (z := z) (l := l)
  simp only [insC]
  split
  ·rw [List.mem_cons, ih, List.mem_cons]
   exact ⟨fun hh => by rcases hh with a | a | a <;> simp [a], fun hh => by rcases hh with a | a | a <;> simp [a]⟩
  ·rename_i h1
   split
   ·simp only [List.mem_cons]
   ·rename_i h2
    have := h.le_anti h1 h2
    subst this
    simp only [List.mem_cons]
    exact ⟨.inr, fun hh => by
     rcases hh with a | a
     ·exact .inl a
     ·exact a⟩
def strictC {α : Type} (c : α → α → Int) (l : List α) : Prop := l.Pairwise (fun x y => c x y < 0)
theorem insC_strict {α : Type} {c : α → α → Int} (h : OrdC c) {p : α} : ∀ {l : List α}, strictC c l → strictC c (insC c l p)
 | [], _ => by simp [insC, strictC]
 | x :: l, hs => by
  obtain ⟨h1, h2⟩ := List.pairwise_cons.1 hs
  simp only [insC]
  split
  ·rename_i hx
   refine List.pairwise_cons.2 ⟨fun z hz => ?_, insC_strict h h2⟩
   rcases (mem_insC h).1 hz with rfl | hz
   ·exact hx
   ·exact h1 z hz
  ·split
   ·rename_i hx
    refine List.pairwise_cons.2 ⟨fun z hz => ?_, hs⟩
    rcases List.mem_cons.1 hz with rfl | hz
    ·exact hx
    ·exact h.trans _ _ _ hx (h1 z hz)
   ·exact hs
theorem fold_strict {α : Type} {c : α → α → Int} (h : OrdC c) : ∀ (l a : List α), strictC c a → strictC c (l.foldl (insC c) a) ∧ ∀ z, z ∈ l.foldl (insC c) a ↔ z ∈ l ∨ z ∈ a
 | [], a, ha => ⟨ha, by simp⟩
 | x :: l, a, ha => by
  obtain ⟨h1, h2⟩ := fold_strict h l (insC c a x) (insC_strict h ha)
  refine ⟨h1, fun z => ?_⟩
  rw [List.foldl_cons, h2, mem_insC h, List.mem_cons]
  exact ⟨fun hh => by rcases hh with q | q | q <;> simp [q], fun hh => by rcases hh with (q | q) | q <;> simp [q]⟩
theorem strict_irr {α : Type} {c : α → α → Int} (h : OrdC c) {x : α} : ¬ c x x < 0 := by rw [h.refl]; omega
theorem strict_eq {α : Type} {c : α → α → Int} (h : OrdC c) : ∀ {a b : List α}, strictC c a → strictC c b → (∀ z, z ∈ a ↔ z ∈ b) → a = b
 | [], [], _, _, _ => rfl
 | [], y :: b, _, _, hm => by have := (hm y).2 List.mem_cons_self; simp at this
 | x :: a, [], _, _, hm => by have := (hm x).1 List.mem_cons_self; simp at this
 | x :: a, y :: b, ha, hb, hm => by
  obtain ⟨a1, a2⟩ := List.pairwise_cons.1 ha
  obtain ⟨b1, b2⟩ := List.pairwise_cons.1 hb
  have hxy : x = y := by
   rcases List.mem_cons.1 ((hm x).1 List.mem_cons_self) with h1 | h1
   ·exact h1
   ·rcases List.mem_cons.1 ((hm y).2 List.mem_cons_self) with h2 | h2
    ·exact h2.symm
    ·exact absurd (h.trans _ _ _ (a1 y h2) (b1 x h1)) (strict_irr h)
  subst hxy
  rw [strict_eq h a2 b2 fun z => ?_]
  constructor
  ·intro hz
   rcases List.mem_cons.1 ((hm z).1 (List.mem_cons_of_mem _ hz)) with h1 | h1
   ·subst h1; exact absurd (a1 z hz) (strict_irr h)
   ·exact h1
  ·intro hz
   rcases List.mem_cons.1 ((hm z).2 (List.mem_cons_of_mem _ hz)) with h1 | h1
   ·subst h1; exact absurd (b1 z hz) (strict_irr h)
   ·exact h1
theorem compGo_strict {α : Type} {c : α → α → Int} (h : OrdC c) : ∀ {l : List α} {p : α}, (p :: l).Pairwise (fun x y => ¬ c y x < 0) → strictC c (p :: compGo (fun x y => c x y == 0) p l) ∧ ∀ z, z ∈ p :: compGo (fun x y => c x y == 0) p l ↔ z ∈ p :: l
 | [], p, _ => by simp [compGo, strictC]
 | y :: l, p, hs => by
  obtain ⟨h1, h2⟩ := List.pairwise_cons.1 hs
  obtain ⟨i1, i2⟩ := compGo_strict h h2
  simp only [compGo]
  split
  ·rename_i he
   have : y = p := (h.eq0 _ _).1 (by simpa using he)
   subst this
   exact ⟨i1, fun z => by rw [i2]; simp⟩
  ·rename_i he
   have hne : y ≠ p := fun hh => he (by subst hh; simp [h.refl])
   have hlt : c p y < 0 := by
    rcases h.nle.1 (h1 y List.mem_cons_self) with h3 | h3
    ·exact h3
    ·exact absurd h3 hne
   refine ⟨List.pairwise_cons.2 ⟨fun z hz => ?_, i1⟩, fun z => ?_⟩
   ·obtain ⟨j1, _⟩ := List.pairwise_cons.1 i1
    rcases List.mem_cons.1 hz with rfl | hz
    ·exact hlt
    ·exact h.trans _ _ _ hlt (j1 z hz)
   ·have := i2 z
    rw [List.mem_cons, this]
    simp [List.mem_cons]
theorem compL_strict {α : Type} {c : α → α → Int} (h : OrdC c) {l : List α} (hs : l.Pairwise (fun x y => ¬ c y x < 0)) : strictC c (compL (fun x y => c x y == 0) l) ∧ ∀ z, z ∈ compL (fun x y => c x y == 0) l ↔ z ∈ l := by
 cases l with
 | nil => simp [compL, strictC]
 | cons x l => exact compGo_strict h hs
theorem fold_ins {α : Type} {c : α → α → Int} (h : OrdC c) (l : List α) : l.foldl (insC c) [] = compL (fun x y => c x y == 0) (sortC c l) := by
 obtain ⟨h1, h2⟩ := fold_strict h l [] List.Pairwise.nil
 obtain ⟨h3, h4⟩ := compL_strict h (sortC_sorted h l)
 refine strict_eq h h1 h3 fun z => ?_
 rw [h2, h4, (sortC_perm c l).mem_iff]
 simp
end Go.Proofs.YtdgocjbakjamaaaGreat
end

