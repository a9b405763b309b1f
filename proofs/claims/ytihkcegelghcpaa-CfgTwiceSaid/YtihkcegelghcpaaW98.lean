/- A part of a proof: walks over the functions that it names; their contracts hold for every argument. -/
import Derived.Test.YtihkcegelghcpaaW97
set_option linter.unusedSimpArgs false
set_option linter.unusedVariables false
namespace Go.Proofs.Ytihkcegelghcpaa
open Go Go.Dm
attribute [local irreducible] DW callP callS
set_option maxRecDepth 100000

/-- slices.CompactFunc -/
def compGo {α : Type} (e : α → α → Bool) (p : α) : List α → List α
  | [] => []
  | y :: l => if e y p then compGo e y l else y :: compGo e y l
def compL {α : Type} (e : α → α → Bool) : List α → List α
  | [] => []
  | x :: l => x :: compGo e x l
theorem compGo_snoc {α : Type} {e : α → α → Bool} {y : α} : ∀ {l : List α} {p : α}, compGo e p (l ++ [y]) = compGo e p l ++ (if e y (l.getLast?.getD p) then [] else [y])
  | [], p => by by_cases h : e y p <;> simp [compGo, h]
  | x :: l, p => by
    have h := compGo_snoc (e := e) (y := y) (l := l) (p := x)
    have h2 : (x :: l).getLast?.getD p = l.getLast?.getD x := by
      cases l with
      | nil => rfl
      | cons z l => simp [List.getLast?_cons_cons, List.getLast?_eq_some_getLast]
    rw [h2]
    simp only [List.cons_append, compGo]
    split
    · exact h
    · rw [h]; rfl
theorem compL_snoc {α : Type} {e : α → α → Bool} {l : List α} {k : Nat} {x y : α} (h0 : 0 < k) (hx : l[k - 1]? = some x) (hy : l[k]? = some y) : compL e (l.take (k + 1)) = compL e (l.take k) ++ (if e y x then [] else [y]) := by
  rw [List.take_add_one, hy]
  obtain ⟨z, t, hz⟩ : ∃ z t, l.take k = z :: t := by
    cases h : l.take k with
    | nil =>
      have h1 := congrArg List.length h
      have := (List.getElem?_eq_some_iff.1 hy).1
      rw [List.length_take] at h1
      simp only [List.length_nil] at h1
      omega
    | cons z t => exact ⟨z, t, rfl⟩
  have hl : (l.take k).getLast? = some x := by
    rw [List.getLast?_eq_getElem?, List.getElem?_take]
    have := (List.getElem?_eq_some_iff.1 hy).1
    simp only [List.length_take]
    rw [show min k l.length - 1 = k - 1 by omega, if_pos (by omega)]
    exact hx
  rw [hz] at hl ⊢
  have h2 : t.getLast?.getD z = x := by
    cases t with
    | nil => simpa using hl
    | cons a t => simpa [List.getLast?_cons_cons, List.getLast?_eq_some_getLast] using hl
  simp only [Option.toList_some, List.cons_append, compL, compGo_snoc, h2]

def anW9898 : Ann := ⟨[], []⟩
set_option maxHeartbeats 4000000 in
theorem compact98_spec (g : FuncId) (e : Prod → Prod → Bool) (l : List Prod) (he : ∀ x ∈ l, ∀ y ∈ l, DPure Try.prog g [.agg (dProd x), .agg (dProd y)] (.bool (e x y))) :
    DSpec Try.prog (.func 98) [.osl 0 0, .fn (.func g) [] []] [⟨0, 0, .row 33 2 32 (l.map dProd)⟩] (dProds (compL e l)) [] := by
  refine DSpec_introW [0] [] (fn := Try.f98) Try.func98 rfl Try.call98 (by simp [Try.ntmps98]) (by simp) (by simp) ?_
  intro hwf hwo B hnt
  simp only [argS]
  have hl : l.length ≤ 9223372036854775807 := by
    simp only [wfOwn, maxLen, List.length_map] at hwo
    omega
  clear hwo
  by_cases hl2 : l.length < 2
  · have hcl : compL e l = l := by
      match l, hl2 with
      | [], _ => rfl
      | [x], _ => rfl
    (repeat (first
        | (refine DW_seq fun K hK => ?_)
        | (refine DW_r anW9898 Try.mixed (by kernel_rfl) ?_; simp [hnt, Try.ntmps98, Try.results98, anW9898, hl2, hcl]; try simp (disch := omega) only [wrap64_in])
        | (refine DW_block ?_)
        | (focus (refine DW_if ?_ ?_ ?_; (· (simp [hnt, Try.ntmps98, Try.results98, anW9898, hl2, hcl]; done)); (try (rotate_left; (· (intro hc; (try simp [hnt, Try.ntmps98, Try.results98, anW9898, hl2, hcl] at hc); done))))))
        | (refine DW_ret ?_; simp [hnt, Try.ntmps98, Try.results98, anW9898, hl2, hcl])
        | (refine DW_exit ?_; simp [hnt, Try.ntmps98, Try.results98, anW9898, hl2, hcl])
        | (refine DW_skip ?_; simp [hnt, Try.ntmps98, Try.results98, anW9898, hl2, hcl])
        | (intro hc; (try simp [hnt, Try.ntmps98, Try.results98, anW9898, hl2, hcl] at hc); done)
        | (intro hc; (try simp [hnt, Try.ntmps98, Try.results98, anW9898, hl2, hcl] at hc); (first | (exfalso; omega) | skip))
        | (refine ⟨?_, ?_⟩; · omega)
        | omega
        | apply_assumption -exfalso -symm
        | (exfalso; omega)))
  have hl2' : ¬ (l.length : Int) < 2 := by omega
  obtain ⟨R0, hR0⟩ : ∃ R0, R0 = compL e l := ⟨_, rfl⟩
  rw [← hR0]
  (repeat (first
      | (refine DW_seq fun K hK => ?_)
      | (refine DW_r anW9898 Try.mixed (by kernel_rfl) ?_; simp [hnt, Try.ntmps98, Try.results98, anW9898, hl2, hl2']; try simp (disch := omega) only [wrap64_in])
      | (refine DW_block ?_)
      | (focus (refine DW_if ?_ ?_ ?_; (· (simp [hnt, Try.ntmps98, Try.results98, anW9898, hl2, hl2']; done)); (try (rotate_left; (· (intro hc; (try simp [hnt, Try.ntmps98, Try.results98, anW9898, hl2, hl2'] at hc); done))))))
      | (refine DW_ret ?_; simp [hnt, Try.ntmps98, Try.results98, anW9898, hl2, hl2'])
      | (refine DW_exit ?_; simp [hnt, Try.ntmps98, Try.results98, anW9898, hl2, hl2'])
      | (refine DW_skip ?_; simp [hnt, Try.ntmps98, Try.results98, anW9898, hl2, hl2'])
      | (intro hc; (try simp [hnt, Try.ntmps98, Try.results98, anW9898, hl2, hl2'] at hc); done)
      | (intro hc; (try simp [hnt, Try.ntmps98, Try.results98, anW9898, hl2, hl2'] at hc); (first | (exfalso; omega) | skip))
      | (refine ⟨?_, ?_⟩; · omega)
      | omega
      | apply_assumption -exfalso -symm
      | (exfalso; omega)))
  refine DW_loop (X := {k : Nat // 1 ≤ k ∧ k ≤ l.length ∧ compL e (l.take k) = l.take k}) (fun k => ⟨[(0, .osl 0 0), (1, .fn (.func g) [] []), (5, .int .i64 k.1)], [⟨0, 0, .row 33 2 32 (l.map dProd)⟩]⟩) (fun k => l.length - k.1) ⟨1, by
    obtain ⟨x, t, rfl⟩ : ∃ x t, l = x :: t := by
      cases l with
      | nil => simp at hl2
      | cons x t => exact ⟨x, t, rfl⟩
    simp [compL, compGo]⟩ (Sub.lit (by simp)) ?_
  rintro ⟨k, hk1, hk, hck⟩
  by_cases hlt : k < l.length
  · obtain ⟨q, hq, hq', hqm⟩ := at_lt' hlt
    obtain ⟨p, hp, hp', hpm⟩ := at_lt' (show k - 1 < l.length by omega)
    have hpq := he q hqm p hpm
    simp only [dProd] at hpq
    have hwr : IntKind.i64.wrap ((k : Int) - 1) = (k : Int) - 1 := wrap64_in (by omega) (by omega)
    have hk0 : ((k : Int) - 1).toNat = k - 1 := by omega
    have hs := compL_snoc (e := e) (by omega) hp hq
    have hb1 : (0 : Int) ≤ (k : Int) - 1 := by omega
    have hb2 : (k : Int) - 1 < l.length := by omega
    cases hepq : e q p
    · rw [hepq] at hpq hs
      simp only [Bool.false_eq_true, if_false] at hs
      (repeat (first
          | (refine DW_seq fun K hK => ?_)
          | (refine DW_r anW9898 Try.mixed (by kernel_rfl) ?_; simp [hnt, Try.ntmps98, Try.results98, anW9898, dProd, hlt, hq', hp', hp, hq, hk0, hwr, hb1, hb2]; try simp (disch := omega) only [wrap64_in])
          | (refine DW_block ?_)
          | (focus (refine DW_if ?_ ?_ ?_; (· (simp [hnt, Try.ntmps98, Try.results98, anW9898, dProd, hlt, hq', hp', hp, hq, hk0, hwr, hb1, hb2]; done)); (try (rotate_left; (· (intro hc; (try simp [hnt, Try.ntmps98, Try.results98, anW9898, dProd, hlt, hq', hp', hp, hq, hk0, hwr, hb1, hb2] at hc); done))))))
          | (refine DW_ret ?_; simp [hnt, Try.ntmps98, Try.results98, anW9898, dProd, hlt, hq', hp', hp, hq, hk0, hwr, hb1, hb2])
          | (refine DW_exit ?_; simp [hnt, Try.ntmps98, Try.results98, anW9898, dProd, hlt, hq', hp', hp, hq, hk0, hwr, hb1, hb2])
          | (refine DW_skip ?_; simp [hnt, Try.ntmps98, Try.results98, anW9898, dProd, hlt, hq', hp', hp, hq, hk0, hwr, hb1, hb2])
          | (intro hc; (try simp [hnt, Try.ntmps98, Try.results98, anW9898, dProd, hlt, hq', hp', hp, hq, hk0, hwr, hb1, hb2] at hc); done)
          | (intro hc; (try simp [hnt, Try.ntmps98, Try.results98, anW9898, dProd, hlt, hq', hp', hp, hq, hk0, hwr, hb1, hb2] at hc); (first | (exfalso; omega) | skip))
          | (refine callP_mk (hpq) ?_; try simp [hnt, Try.ntmps98, Try.results98, anW9898, dProd, hlt, hq', hp', hp, hq, hk0, hwr, hb1, hb2])
          | (refine callP_wk (hpq) ?_ ?_; (· (simp; done)); try simp [hnt, Try.ntmps98, Try.results98, anW9898, dProd, hlt, hq', hp', hp, hq, hk0, hwr, hb1, hb2])
          | (refine ⟨?_, ?_⟩; · omega)
          | omega
          | apply_assumption -exfalso -symm
          | (exfalso; omega)))
      refine Again.mk ⟨k + 1, by omega, by omega, by rw [hs, hck, List.take_add_one, hq]; rfl⟩ (Sub.lit (by simp)) (by simp; omega)
      (repeat (first
          | (refine DW_seq fun K hK => ?_)
          | (refine DW_r anW9898 Try.mixed (by kernel_rfl) ?_; simp [hnt, Try.ntmps98, Try.results98, anW9898]; try simp (disch := omega) only [wrap64_in])
          | (refine DW_block ?_)
          | (focus (refine DW_if ?_ ?_ ?_; (· (simp [hnt, Try.ntmps98, Try.results98, anW9898]; done)); (try (rotate_left; (· (intro hc; (try simp [hnt, Try.ntmps98, Try.results98, anW9898] at hc); done))))))
          | (refine DW_ret ?_; simp [hnt, Try.ntmps98, Try.results98, anW9898])
          | (refine DW_exit ?_; simp [hnt, Try.ntmps98, Try.results98, anW9898])
          | (refine DW_skip ?_; simp [hnt, Try.ntmps98, Try.results98, anW9898])
          | (intro hc; (try simp [hnt, Try.ntmps98, Try.results98, anW9898] at hc); done)
          | (intro hc; (try simp [hnt, Try.ntmps98, Try.results98, anW9898] at hc); (first | (exfalso; omega) | skip))
          | (refine callP_mk (hpq) ?_; try simp [hnt, Try.ntmps98, Try.results98, anW9898])
          | (refine callP_wk (hpq) ?_ ?_; (· (simp; done)); try simp [hnt, Try.ntmps98, Try.results98, anW9898])
          | (refine ⟨?_, ?_⟩; · omega)
          | omega
          | apply_assumption -exfalso -symm
          | (exfalso; omega)))
    · rw [hepq] at hpq hs
      simp only [if_true, List.append_nil] at hs
      (repeat (first
          | (refine DW_seq fun K hK => ?_)
          | (refine DW_r anW9898 Try.mixed (by kernel_rfl) ?_; simp [hnt, Try.ntmps98, Try.results98, anW9898, dProd, hlt, hq', hp', hp, hq, hk0, hwr, hb1, hb2]; try simp (disch := omega) only [wrap64_in])
          | (refine DW_block ?_)
          | (focus (refine DW_if ?_ ?_ ?_; (· (simp [hnt, Try.ntmps98, Try.results98, anW9898, dProd, hlt, hq', hp', hp, hq, hk0, hwr, hb1, hb2]; done)); (try (rotate_left; (· (intro hc; (try simp [hnt, Try.ntmps98, Try.results98, anW9898, dProd, hlt, hq', hp', hp, hq, hk0, hwr, hb1, hb2] at hc); done))))))
          | (refine DW_ret ?_; simp [hnt, Try.ntmps98, Try.results98, anW9898, dProd, hlt, hq', hp', hp, hq, hk0, hwr, hb1, hb2])
          | (refine DW_exit ?_; simp [hnt, Try.ntmps98, Try.results98, anW9898, dProd, hlt, hq', hp', hp, hq, hk0, hwr, hb1, hb2])
          | (refine DW_skip ?_; simp [hnt, Try.ntmps98, Try.results98, anW9898, dProd, hlt, hq', hp', hp, hq, hk0, hwr, hb1, hb2])
          | (intro hc; (try simp [hnt, Try.ntmps98, Try.results98, anW9898, dProd, hlt, hq', hp', hp, hq, hk0, hwr, hb1, hb2] at hc); done)
          | (intro hc; (try simp [hnt, Try.ntmps98, Try.results98, anW9898, dProd, hlt, hq', hp', hp, hq, hk0, hwr, hb1, hb2] at hc); (first | (exfalso; omega) | skip))
          | (refine callP_mk (hpq) ?_; try simp [hnt, Try.ntmps98, Try.results98, anW9898, dProd, hlt, hq', hp', hp, hq, hk0, hwr, hb1, hb2])
          | (refine callP_wk (hpq) ?_ ?_; (· (simp; done)); try simp [hnt, Try.ntmps98, Try.results98, anW9898, dProd, hlt, hq', hp', hp, hq, hk0, hwr, hb1, hb2])
          | (refine ⟨?_, ?_⟩; · omega)
          | omega
          | apply_assumption -exfalso -symm
          | (exfalso; omega)))
      clear hwr hk0 hb1 hb2
      refine DW_loop (X := {x : Nat × Nat × List Prod // 1 ≤ x.1 ∧ k + x.1 ≤ l.length ∧ x.2.1 < k + x.1 ∧ k ≤ x.2.1 ∧ x.2.2.length = l.length ∧ x.2.2.take x.2.1 = compL e (l.take (k + x.1)) ∧ ∀ j, k + x.1 ≤ j + 1 → x.2.2[j]? = l[j]?}) (fun x => ⟨[(0, .osl 0 0), (1, .fn (.func g) [] []), (5, .int .i64 x.1.2.1), (6, .vw 0 0 2 32 k (l.length - k)), (7, .int .i64 x.1.1)], [⟨0, 0, .row 33 2 32 (x.1.2.2.map dProd)⟩]⟩) (fun x => l.length - x.1.1)
        ⟨(1, k, l), show 1 ≤ 1 ∧ k + 1 ≤ l.length ∧ k < k + 1 ∧ k ≤ k ∧ l.length = l.length ∧ l.take k = compL e (l.take (k + 1)) ∧ (∀ j, k + 1 ≤ j + 1 → l[j]? = l[j]?) from ⟨by omega, by omega, by omega, by omega, rfl, by rw [hs, hck], fun _ _ => rfl⟩⟩ (Sub.lit (by simp)) ?_
      rintro ⟨⟨m, kk, R⟩, x1, x2, x3, x4, x5, x6, x7⟩
      simp only at x1 x2 x3 x4 x5 x6 x7 ⊢
      have hv : k + (l.length - k) ≤ l.length := by omega
      by_cases hm : m < l.length - k
      · obtain ⟨y, hy, hy', hym⟩ := at_lt' (show k + m < l.length by omega)
        obtain ⟨z, hz, hz', hzm⟩ := at_lt' (show k + m - 1 < l.length by omega)
        obtain ⟨c0, hc0, _, _⟩ := at_lt' (show kk < R.length by omega)
        have hRy : R[k + m]? = some y := by rw [x7 _ (by omega)]; exact hy
        have hRz : R[k + (m - 1)]? = some z := by rw [x7 _ (by omega), show k + (m - 1) = k + m - 1 by omega]; exact hz
        have hRy' : R[k + m]'(by omega) = y := (List.getElem?_eq_some_iff.1 hRy).2
        have hRz' : R[k + (m - 1)]'(by omega) = z := (List.getElem?_eq_some_iff.1 hRz).2
        have hyz := he y hym z hzm
        simp only [dProd] at hyz
        have hwr : IntKind.i64.wrap ((m : Int) - 1) = (m : Int) - 1 := wrap64_in (by omega) (by omega)
        have hk0 : ((m : Int) - 1).toNat = m - 1 := by omega
        have hb1 : (0 : Int) ≤ (m : Int) - 1 := by omega
        have hb2 : (m : Int) - 1 < ((l.length - k : Nat) : Int) := by omega
        have hs2 := compL_snoc (e := e) (by omega) hz hy
        rw [← x6] at hs2
        have hkk : kk < l.length := by omega
        cases heyz : e y z
        · rw [heyz] at hyz hs2
          simp only [Bool.false_eq_true, if_false] at hs2
          (repeat (first
              | (refine DW_seq fun K hK => ?_)
              | (refine DW_r anW9898 Try.mixed (by kernel_rfl) ?_; simp [hnt, Try.ntmps98, Try.results98, anW9898, dProd, hm, hRy, hRz, hRy', hRz', hk0, hwr, hb1, hb2, x5, hv, hc0, hkk]; try simp (disch := omega) only [wrap64_in])
              | (refine DW_block ?_)
              | (focus (refine DW_if ?_ ?_ ?_; (· (simp [hnt, Try.ntmps98, Try.results98, anW9898, dProd, hm, hRy, hRz, hRy', hRz', hk0, hwr, hb1, hb2, x5, hv, hc0, hkk]; done)); (try (rotate_left; (· (intro hc; (try simp [hnt, Try.ntmps98, Try.results98, anW9898, dProd, hm, hRy, hRz, hRy', hRz', hk0, hwr, hb1, hb2, x5, hv, hc0, hkk] at hc); done))))))
              | (refine DW_ret ?_; simp [hnt, Try.ntmps98, Try.results98, anW9898, dProd, hm, hRy, hRz, hRy', hRz', hk0, hwr, hb1, hb2, x5, hv, hc0, hkk])
              | (refine DW_exit ?_; simp [hnt, Try.ntmps98, Try.results98, anW9898, dProd, hm, hRy, hRz, hRy', hRz', hk0, hwr, hb1, hb2, x5, hv, hc0, hkk])
              | (refine DW_skip ?_; simp [hnt, Try.ntmps98, Try.results98, anW9898, dProd, hm, hRy, hRz, hRy', hRz', hk0, hwr, hb1, hb2, x5, hv, hc0, hkk])
              | (intro hc; (try simp [hnt, Try.ntmps98, Try.results98, anW9898, dProd, hm, hRy, hRz, hRy', hRz', hk0, hwr, hb1, hb2, x5, hv, hc0, hkk] at hc); done)
              | (intro hc; (try simp [hnt, Try.ntmps98, Try.results98, anW9898, dProd, hm, hRy, hRz, hRy', hRz', hk0, hwr, hb1, hb2, x5, hv, hc0, hkk] at hc); (first | (exfalso; omega) | skip))
              | (refine callP_mk (hyz) ?_; try simp [hnt, Try.ntmps98, Try.results98, anW9898, dProd, hm, hRy, hRz, hRy', hRz', hk0, hwr, hb1, hb2, x5, hv, hc0, hkk])
              | (refine callP_wk (hyz) ?_ ?_; (· (simp; done)); try simp [hnt, Try.ntmps98, Try.results98, anW9898, dProd, hm, hRy, hRz, hRy', hRz', hk0, hwr, hb1, hb2, x5, hv, hc0, hkk])
              | (refine ⟨?_, ?_⟩; · omega)
              | omega
              | apply_assumption -exfalso -symm
              | (exfalso; omega)))
          refine Again.mk ⟨(m + 1, kk + 1, R.set kk y), show 1 ≤ m + 1 ∧ k + (m + 1) ≤ l.length ∧ kk + 1 < k + (m + 1) ∧ k ≤ kk + 1 ∧ (R.set kk y).length = l.length ∧ (R.set kk y).take (kk + 1) = compL e (l.take (k + (m + 1))) ∧ (∀ j, k + (m + 1) ≤ j + 1 → (R.set kk y)[j]? = l[j]?) from ⟨by omega, by omega, by omega, by omega, by simp [x5], ?_, fun j hj => ?_⟩⟩ (Sub.lit ?_) (by simp; omega)
          · rw [show k + (m + 1) = k + m + 1 by omega, hs2, List.take_add_one, List.getElem?_set_self (by omega), List.take_set_of_le (by omega)]
            rfl
          · rw [List.getElem?_set_ne (by omega)]
            exact x7 j (by omega)
          · have hm0 : mxR ((R.map dProd).set kk [.int .i64 y.head, dSyms y.body]) = 0 := by
              rw [show (R.map dProd).set kk [.int .i64 y.head, dSyms y.body] = (R.set kk y).map dProd by simp [List.map_set, dProd]]
              exact mx_dProds _
            simp [List.map_set, dProd, hm0]
          (repeat (first
              | (refine DW_seq fun K hK => ?_)
              | (refine DW_r anW9898 Try.mixed (by kernel_rfl) ?_; simp [hnt, Try.ntmps98, Try.results98, anW9898]; try simp (disch := omega) only [wrap64_in])
              | (refine DW_block ?_)
              | (focus (refine DW_if ?_ ?_ ?_; (· (simp [hnt, Try.ntmps98, Try.results98, anW9898]; done)); (try (rotate_left; (· (intro hc; (try simp [hnt, Try.ntmps98, Try.results98, anW9898] at hc); done))))))
              | (refine DW_ret ?_; simp [hnt, Try.ntmps98, Try.results98, anW9898])
              | (refine DW_exit ?_; simp [hnt, Try.ntmps98, Try.results98, anW9898])
              | (refine DW_skip ?_; simp [hnt, Try.ntmps98, Try.results98, anW9898])
              | (intro hc; (try simp [hnt, Try.ntmps98, Try.results98, anW9898] at hc); done)
              | (intro hc; (try simp [hnt, Try.ntmps98, Try.results98, anW9898] at hc); (first | (exfalso; omega) | skip))
              | (refine callP_mk (hyz) ?_; try simp [hnt, Try.ntmps98, Try.results98, anW9898])
              | (refine callP_wk (hyz) ?_ ?_; (· (simp; done)); try simp [hnt, Try.ntmps98, Try.results98, anW9898])
              | (refine ⟨?_, ?_⟩; · omega)
              | omega
              | apply_assumption -exfalso -symm
              | (exfalso; omega)))
        · rw [heyz] at hyz hs2
          simp only [if_true, List.append_nil] at hs2
          (repeat (first
              | (refine DW_seq fun K hK => ?_)
              | (refine DW_r anW9898 Try.mixed (by kernel_rfl) ?_; simp [hnt, Try.ntmps98, Try.results98, anW9898, dProd, hm, hRy, hRz, hRy', hRz', hk0, hwr, hb1, hb2, x5, hv, hc0, hkk]; try simp (disch := omega) only [wrap64_in])
              | (refine DW_block ?_)
              | (focus (refine DW_if ?_ ?_ ?_; (· (simp [hnt, Try.ntmps98, Try.results98, anW9898, dProd, hm, hRy, hRz, hRy', hRz', hk0, hwr, hb1, hb2, x5, hv, hc0, hkk]; done)); (try (rotate_left; (· (intro hc; (try simp [hnt, Try.ntmps98, Try.results98, anW9898, dProd, hm, hRy, hRz, hRy', hRz', hk0, hwr, hb1, hb2, x5, hv, hc0, hkk] at hc); done))))))
              | (refine DW_ret ?_; simp [hnt, Try.ntmps98, Try.results98, anW9898, dProd, hm, hRy, hRz, hRy', hRz', hk0, hwr, hb1, hb2, x5, hv, hc0, hkk])
              | (refine DW_exit ?_; simp [hnt, Try.ntmps98, Try.results98, anW9898, dProd, hm, hRy, hRz, hRy', hRz', hk0, hwr, hb1, hb2, x5, hv, hc0, hkk])
              | (refine DW_skip ?_; simp [hnt, Try.ntmps98, Try.results98, anW9898, dProd, hm, hRy, hRz, hRy', hRz', hk0, hwr, hb1, hb2, x5, hv, hc0, hkk])
              | (intro hc; (try simp [hnt, Try.ntmps98, Try.results98, anW9898, dProd, hm, hRy, hRz, hRy', hRz', hk0, hwr, hb1, hb2, x5, hv, hc0, hkk] at hc); done)
              | (intro hc; (try simp [hnt, Try.ntmps98, Try.results98, anW9898, dProd, hm, hRy, hRz, hRy', hRz', hk0, hwr, hb1, hb2, x5, hv, hc0, hkk] at hc); (first | (exfalso; omega) | skip))
              | (refine callP_mk (hyz) ?_; try simp [hnt, Try.ntmps98, Try.results98, anW9898, dProd, hm, hRy, hRz, hRy', hRz', hk0, hwr, hb1, hb2, x5, hv, hc0, hkk])
              | (refine callP_wk (hyz) ?_ ?_; (· (simp; done)); try simp [hnt, Try.ntmps98, Try.results98, anW9898, dProd, hm, hRy, hRz, hRy', hRz', hk0, hwr, hb1, hb2, x5, hv, hc0, hkk])
              | (refine ⟨?_, ?_⟩; · omega)
              | omega
              | apply_assumption -exfalso -symm
              | (exfalso; omega)))
          refine Again.mk ⟨(m + 1, kk, R), show 1 ≤ m + 1 ∧ k + (m + 1) ≤ l.length ∧ kk < k + (m + 1) ∧ k ≤ kk ∧ R.length = l.length ∧ R.take kk = compL e (l.take (k + (m + 1))) ∧ (∀ j, k + (m + 1) ≤ j + 1 → R[j]? = l[j]?) from ⟨by omega, by omega, by omega, by omega, x5, by rw [show k + (m + 1) = k + m + 1 by omega, hs2], fun j hj => x7 j (by omega)⟩⟩ (Sub.lit (by simp)) (by simp; omega)
          (repeat (first
              | (refine DW_seq fun K hK => ?_)
              | (refine DW_r anW9898 Try.mixed (by kernel_rfl) ?_; simp [hnt, Try.ntmps98, Try.results98, anW9898]; try simp (disch := omega) only [wrap64_in])
              | (refine DW_block ?_)
              | (focus (refine DW_if ?_ ?_ ?_; (· (simp [hnt, Try.ntmps98, Try.results98, anW9898]; done)); (try (rotate_left; (· (intro hc; (try simp [hnt, Try.ntmps98, Try.results98, anW9898] at hc); done))))))
              | (refine DW_ret ?_; simp [hnt, Try.ntmps98, Try.results98, anW9898])
              | (refine DW_exit ?_; simp [hnt, Try.ntmps98, Try.results98, anW9898])
              | (refine DW_skip ?_; simp [hnt, Try.ntmps98, Try.results98, anW9898])
              | (intro hc; (try simp [hnt, Try.ntmps98, Try.results98, anW9898] at hc); done)
              | (intro hc; (try simp [hnt, Try.ntmps98, Try.results98, anW9898] at hc); (first | (exfalso; omega) | skip))
              | (refine callP_mk (hyz) ?_; try simp [hnt, Try.ntmps98, Try.results98, anW9898])
              | (refine callP_wk (hyz) ?_ ?_; (· (simp; done)); try simp [hnt, Try.ntmps98, Try.results98, anW9898])
              | (refine ⟨?_, ?_⟩; · omega)
              | omega
              | apply_assumption -exfalso -symm
              | (exfalso; omega)))
      · have hkm : k + m = l.length := by omega
        have hcl1 : (clearD (R.map dProd) kk (l.length - kk) [.int .i64 0, .nilsl]).length = l.length := by simp [clearD]; omega
        have hcl2 : (clearD (R.map dProd) kk (l.length - kk) [.int .i64 0, .nilsl]).take kk = R0.map dProd := by
          have e1 : l.take (k + m) = l := by rw [hkm, List.take_length]
          rw [e1] at x6
          rw [hR0, ← x6]
          simp only [clearD]
          rw [List.append_assoc, List.take_append_of_le_length (by simp; omega), List.take_take, Nat.min_self, List.map_take]
        have hkl : kk ≤ l.length := by omega
        (repeat (first
            | (refine DW_seq fun K hK => ?_)
            | (refine DW_r anW9898 Try.mixed (by kernel_rfl) ?_; simp [hnt, Try.ntmps98, Try.results98, anW9898, hm, x5, hv, hcl1, hcl2, hkl]; try simp (disch := omega) only [wrap64_in])
            | (refine DW_block ?_)
            | (focus (refine DW_if ?_ ?_ ?_; (· (simp [hnt, Try.ntmps98, Try.results98, anW9898, hm, x5, hv, hcl1, hcl2, hkl]; done)); (try (rotate_left; (· (intro hc; (try simp [hnt, Try.ntmps98, Try.results98, anW9898, hm, x5, hv, hcl1, hcl2, hkl] at hc); done))))))
            | (refine DW_ret ?_; simp [hnt, Try.ntmps98, Try.results98, anW9898, hm, x5, hv, hcl1, hcl2, hkl])
            | (refine DW_exit ?_; simp [hnt, Try.ntmps98, Try.results98, anW9898, hm, x5, hv, hcl1, hcl2, hkl])
            | (refine DW_skip ?_; simp [hnt, Try.ntmps98, Try.results98, anW9898, hm, x5, hv, hcl1, hcl2, hkl])
            | (intro hc; (try simp [hnt, Try.ntmps98, Try.results98, anW9898, hm, x5, hv, hcl1, hcl2, hkl] at hc); done)
            | (intro hc; (try simp [hnt, Try.ntmps98, Try.results98, anW9898, hm, x5, hv, hcl1, hcl2, hkl] at hc); (first | (exfalso; omega) | skip))
            | (refine callP_mk (hyz) ?_; try simp [hnt, Try.ntmps98, Try.results98, anW9898, hm, x5, hv, hcl1, hcl2, hkl])
            | (refine callP_wk (hyz) ?_ ?_; (· (simp; done)); try simp [hnt, Try.ntmps98, Try.results98, anW9898, hm, x5, hv, hcl1, hcl2, hkl])
            | (refine ⟨?_, ?_⟩; · omega)
            | omega
            | apply_assumption -exfalso -symm
            | (exfalso; omega)))
  · have hkk : k = l.length := by omega
    subst hkk
    rw [List.take_length] at hck
    rw [hck] at hR0
    (repeat (first
        | (refine DW_seq fun K hK => ?_)
        | (refine DW_r anW9898 Try.mixed (by kernel_rfl) ?_; simp [hnt, Try.ntmps98, Try.results98, anW9898, hR0]; try simp (disch := omega) only [wrap64_in])
        | (refine DW_block ?_)
        | (focus (refine DW_if ?_ ?_ ?_; (· (simp [hnt, Try.ntmps98, Try.results98, anW9898, hR0]; done)); (try (rotate_left; (· (intro hc; (try simp [hnt, Try.ntmps98, Try.results98, anW9898, hR0] at hc); done))))))
        | (refine DW_ret ?_; simp [hnt, Try.ntmps98, Try.results98, anW9898, hR0])
        | (refine DW_exit ?_; simp [hnt, Try.ntmps98, Try.results98, anW9898, hR0])
        | (refine DW_skip ?_; simp [hnt, Try.ntmps98, Try.results98, anW9898, hR0])
        | (intro hc; (try simp [hnt, Try.ntmps98, Try.results98, anW9898, hR0] at hc); done)
        | (intro hc; (try simp [hnt, Try.ntmps98, Try.results98, anW9898, hR0] at hc); (first | (exfalso; omega) | skip))
        | (refine callP_mk (hyz) ?_; try simp [hnt, Try.ntmps98, Try.results98, anW9898, hR0])
        | (refine callP_wk (hyz) ?_ ?_; (· (simp; done)); try simp [hnt, Try.ntmps98, Try.results98, anW9898, hR0])
        | (refine ⟨?_, ?_⟩; · omega)
        | omega
        | apply_assumption -exfalso -symm
        | (exfalso; omega)))
end Go.Proofs.Ytihkcegelghcpaa
