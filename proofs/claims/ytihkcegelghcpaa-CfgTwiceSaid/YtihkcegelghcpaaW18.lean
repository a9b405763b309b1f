/- A part of a proof: walks over the functions that it names; their contracts hold for every argument. -/
import Derived.Test.YtihkcegelghcpaaW0
set_option linter.unusedSimpArgs false
set_option linter.unusedVariables false
namespace Go.Proofs.Ytihkcegelghcpaa
open Go Go.Dm
attribute [local irreducible] DW callP callS

theorem take_eq_succ {α : Type} {a b : List α} {k : Nat} {x : α} (h : a.take k = b.take k) (ha : a[k]? = some x) (hb : b[k]? = some x) : a.take (k + 1) = b.take (k + 1) := by
  rw [List.take_add_one, List.take_add_one, h, ha, hb]
def anW1818 : Ann := ⟨[], []⟩
set_option maxRecDepth 100000 in
theorem sameBody_pure (a b : List Sym) : DPure Try.prog 18 [dSyms a, dSyms b] (.bool (decide (a = b))) := by
  refine DPure_introF [] (fn := Try.f18) Try.func18 rfl Try.call18 (by simp [Try.ntmps18]) (by simp [mx]) ?_
  intro hwf B hnt
  simp only [argS]
  simp at hwf
  by_cases hl : a.length = b.length
  · (repeat (first
      | (refine DW_seq fun K hK => ?_)
      | (refine DW_r anW1818 Try.mixed (by kernel_rfl) ?_; simp [hnt, Try.ntmps18, Try.results18, anW1818, dSym, hl]; try simp (disch := omega) only [wrap64_in])
      | (refine DW_block ?_)
      | (focus (refine DW_if ?_ ?_ ?_; (· (simp [hnt, Try.ntmps18, Try.results18, anW1818, dSym, hl]; done)); (try (rotate_left; (· (intro hc; (try simp [hnt, Try.ntmps18, Try.results18, anW1818, dSym, hl] at hc); done))))))
      | (refine DW_ret ?_; simp [hnt, Try.ntmps18, Try.results18, anW1818, dSym, hl])
      | (refine DW_exit ?_; simp [hnt, Try.ntmps18, Try.results18, anW1818, dSym, hl])
      | (refine DW_skip ?_; simp [hnt, Try.ntmps18, Try.results18, anW1818, dSym, hl])
      | (intro hc; (try simp [hnt, Try.ntmps18, Try.results18, anW1818, dSym, hl] at hc); done)
      | (intro hc; (try simp [hnt, Try.ntmps18, Try.results18, anW1818, dSym, hl] at hc); (first | (exfalso; omega) | skip))
      | (refine ⟨?_, ?_⟩; · omega)
      | omega
      | apply_assumption -exfalso -symm
      | (exfalso; omega)))
    refine DW_loop (X := {k : Nat // k ≤ b.length ∧ a.take k = b.take k}) (fun x => ⟨[(0, dSyms a), (1, dSyms b), (5, .int .i64 x.1)], []⟩) (fun x => b.length - x.1) ⟨0, by simp⟩ (Sub.lit (by simp)) ?_
    rintro ⟨k, hk, he⟩
    have hw := hwf.2.2.1
    unfold maxLen at hw
    clear hwf
    by_cases hlt : k < b.length
    · obtain ⟨y, hy, hy'⟩ := at_lt hlt
      obtain ⟨x, hx, hx'⟩ := at_lt (l := a) (k := k) (by omega)
      by_cases h1 : x.label = y.label
      · by_cases h2 : x.n = y.n
        · have hnx := take_eq_succ he hx (by rw [hy]; cases x; cases y; simp_all)
          clear hx hy
          (repeat (first
              | (refine DW_seq fun K hK => ?_)
              | (refine DW_r anW1818 Try.mixed (by kernel_rfl) ?_; simp [hnt, Try.ntmps18, Try.results18, anW1818, dSym, hl, hx', hy', hlt, h1, h2]; try simp (disch := omega) only [wrap64_in])
              | (refine DW_block ?_)
              | (focus (refine DW_if ?_ ?_ ?_; (· (simp [hnt, Try.ntmps18, Try.results18, anW1818, dSym, hl, hx', hy', hlt, h1, h2]; done)); (try (rotate_left; (· (intro hc; (try simp [hnt, Try.ntmps18, Try.results18, anW1818, dSym, hl, hx', hy', hlt, h1, h2] at hc); done))))))
              | (refine DW_ret ?_; simp [hnt, Try.ntmps18, Try.results18, anW1818, dSym, hl, hx', hy', hlt, h1, h2])
              | (refine DW_exit ?_; simp [hnt, Try.ntmps18, Try.results18, anW1818, dSym, hl, hx', hy', hlt, h1, h2])
              | (refine DW_skip ?_; simp [hnt, Try.ntmps18, Try.results18, anW1818, dSym, hl, hx', hy', hlt, h1, h2])
              | (intro hc; (try simp [hnt, Try.ntmps18, Try.results18, anW1818, dSym, hl, hx', hy', hlt, h1, h2] at hc); done)
              | (intro hc; (try simp [hnt, Try.ntmps18, Try.results18, anW1818, dSym, hl, hx', hy', hlt, h1, h2] at hc); (first | (exfalso; omega) | skip))
              | (refine ⟨?_, ?_⟩; · omega)
              | omega
              | apply_assumption -exfalso -symm
              | (exfalso; omega)))
          refine Again.mk ⟨k + 1, by omega, hnx⟩ (Sub.lit (by simp [])) (by simp; omega)
          (repeat (first
              | (refine DW_seq fun K hK => ?_)
              | (refine DW_r anW1818 Try.mixed (by kernel_rfl) ?_; simp [hnt, Try.ntmps18, Try.results18, anW1818, dSym, hl, hx', hy', hlt, h1, h2]; try simp (disch := omega) only [wrap64_in])
              | (refine DW_block ?_)
              | (focus (refine DW_if ?_ ?_ ?_; (· (simp [hnt, Try.ntmps18, Try.results18, anW1818, dSym, hl, hx', hy', hlt, h1, h2]; done)); (try (rotate_left; (· (intro hc; (try simp [hnt, Try.ntmps18, Try.results18, anW1818, dSym, hl, hx', hy', hlt, h1, h2] at hc); done))))))
              | (refine DW_ret ?_; simp [hnt, Try.ntmps18, Try.results18, anW1818, dSym, hl, hx', hy', hlt, h1, h2])
              | (refine DW_exit ?_; simp [hnt, Try.ntmps18, Try.results18, anW1818, dSym, hl, hx', hy', hlt, h1, h2])
              | (refine DW_skip ?_; simp [hnt, Try.ntmps18, Try.results18, anW1818, dSym, hl, hx', hy', hlt, h1, h2])
              | (intro hc; (try simp [hnt, Try.ntmps18, Try.results18, anW1818, dSym, hl, hx', hy', hlt, h1, h2] at hc); done)
              | (intro hc; (try simp [hnt, Try.ntmps18, Try.results18, anW1818, dSym, hl, hx', hy', hlt, h1, h2] at hc); (first | (exfalso; omega) | skip))
              | (refine ⟨?_, ?_⟩; · omega)
              | omega
              | apply_assumption -exfalso -symm
              | (exfalso; omega)))
        · have hne : a ≠ b := fun h => by subst h; rw [hx] at hy; simp_all
          clear hx hy
          (repeat (first
              | (refine DW_seq fun K hK => ?_)
              | (refine DW_r anW1818 Try.mixed (by kernel_rfl) ?_; simp [hnt, Try.ntmps18, Try.results18, anW1818, dSym, hl, hx', hy', hlt, hne, h1, h2]; try simp (disch := omega) only [wrap64_in])
              | (refine DW_block ?_)
              | (focus (refine DW_if ?_ ?_ ?_; (· (simp [hnt, Try.ntmps18, Try.results18, anW1818, dSym, hl, hx', hy', hlt, hne, h1, h2]; done)); (try (rotate_left; (· (intro hc; (try simp [hnt, Try.ntmps18, Try.results18, anW1818, dSym, hl, hx', hy', hlt, hne, h1, h2] at hc); done))))))
              | (refine DW_ret ?_; simp [hnt, Try.ntmps18, Try.results18, anW1818, dSym, hl, hx', hy', hlt, hne, h1, h2])
              | (refine DW_exit ?_; simp [hnt, Try.ntmps18, Try.results18, anW1818, dSym, hl, hx', hy', hlt, hne, h1, h2])
              | (refine DW_skip ?_; simp [hnt, Try.ntmps18, Try.results18, anW1818, dSym, hl, hx', hy', hlt, hne, h1, h2])
              | (intro hc; (try simp [hnt, Try.ntmps18, Try.results18, anW1818, dSym, hl, hx', hy', hlt, hne, h1, h2] at hc); done)
              | (intro hc; (try simp [hnt, Try.ntmps18, Try.results18, anW1818, dSym, hl, hx', hy', hlt, hne, h1, h2] at hc); (first | (exfalso; omega) | skip))
              | (refine ⟨?_, ?_⟩; · omega)
              | omega
              | apply_assumption -exfalso -symm
              | (exfalso; omega)))
      · have hne : a ≠ b := fun h => by subst h; rw [hx] at hy; simp_all
        clear hx hy
        (repeat (first
            | (refine DW_seq fun K hK => ?_)
            | (refine DW_r anW1818 Try.mixed (by kernel_rfl) ?_; simp [hnt, Try.ntmps18, Try.results18, anW1818, dSym, hl, hx', hy', hlt, hne, h1]; try simp (disch := omega) only [wrap64_in])
            | (refine DW_block ?_)
            | (focus (refine DW_if ?_ ?_ ?_; (· (simp [hnt, Try.ntmps18, Try.results18, anW1818, dSym, hl, hx', hy', hlt, hne, h1]; done)); (try (rotate_left; (· (intro hc; (try simp [hnt, Try.ntmps18, Try.results18, anW1818, dSym, hl, hx', hy', hlt, hne, h1] at hc); done))))))
            | (refine DW_ret ?_; simp [hnt, Try.ntmps18, Try.results18, anW1818, dSym, hl, hx', hy', hlt, hne, h1])
            | (refine DW_exit ?_; simp [hnt, Try.ntmps18, Try.results18, anW1818, dSym, hl, hx', hy', hlt, hne, h1])
            | (refine DW_skip ?_; simp [hnt, Try.ntmps18, Try.results18, anW1818, dSym, hl, hx', hy', hlt, hne, h1])
            | (intro hc; (try simp [hnt, Try.ntmps18, Try.results18, anW1818, dSym, hl, hx', hy', hlt, hne, h1] at hc); done)
            | (intro hc; (try simp [hnt, Try.ntmps18, Try.results18, anW1818, dSym, hl, hx', hy', hlt, hne, h1] at hc); (first | (exfalso; omega) | skip))
            | (refine ⟨?_, ?_⟩; · omega)
            | omega
            | apply_assumption -exfalso -symm
            | (exfalso; omega)))
    · have : k = b.length := by omega
      subst this
      have hab : a = b := by rw [List.take_of_length_le (by omega), List.take_of_length_le (by omega)] at he; exact he
      (repeat (first
          | (refine DW_seq fun K hK => ?_)
          | (refine DW_r anW1818 Try.mixed (by kernel_rfl) ?_; simp [hnt, Try.ntmps18, Try.results18, anW1818, dSym, hab]; try simp (disch := omega) only [wrap64_in])
          | (refine DW_block ?_)
          | (focus (refine DW_if ?_ ?_ ?_; (· (simp [hnt, Try.ntmps18, Try.results18, anW1818, dSym, hab]; done)); (try (rotate_left; (· (intro hc; (try simp [hnt, Try.ntmps18, Try.results18, anW1818, dSym, hab] at hc); done))))))
          | (refine DW_ret ?_; simp [hnt, Try.ntmps18, Try.results18, anW1818, dSym, hab])
          | (refine DW_exit ?_; simp [hnt, Try.ntmps18, Try.results18, anW1818, dSym, hab])
          | (refine DW_skip ?_; simp [hnt, Try.ntmps18, Try.results18, anW1818, dSym, hab])
          | (intro hc; (try simp [hnt, Try.ntmps18, Try.results18, anW1818, dSym, hab] at hc); done)
          | (intro hc; (try simp [hnt, Try.ntmps18, Try.results18, anW1818, dSym, hab] at hc); (first | (exfalso; omega) | skip))
          | (refine ⟨?_, ?_⟩; · omega)
          | omega
          | apply_assumption -exfalso -symm
          | (exfalso; omega)))
  · have hne : a ≠ b := fun h => hl (by rw [h])
    have hl' : ¬ (b.length : Int) = a.length := by omega
    (repeat (first
        | (refine DW_seq fun K hK => ?_)
        | (refine DW_r anW1818 Try.mixed (by kernel_rfl) ?_; simp [hnt, Try.ntmps18, Try.results18, anW1818, dSym, hl, hl', hne]; try simp (disch := omega) only [wrap64_in])
        | (refine DW_block ?_)
        | (focus (refine DW_if ?_ ?_ ?_; (· (simp [hnt, Try.ntmps18, Try.results18, anW1818, dSym, hl, hl', hne]; done)); (try (rotate_left; (· (intro hc; (try simp [hnt, Try.ntmps18, Try.results18, anW1818, dSym, hl, hl', hne] at hc); done))))))
        | (refine DW_ret ?_; simp [hnt, Try.ntmps18, Try.results18, anW1818, dSym, hl, hl', hne])
        | (refine DW_exit ?_; simp [hnt, Try.ntmps18, Try.results18, anW1818, dSym, hl, hl', hne])
        | (refine DW_skip ?_; simp [hnt, Try.ntmps18, Try.results18, anW1818, dSym, hl, hl', hne])
        | (intro hc; (try simp [hnt, Try.ntmps18, Try.results18, anW1818, dSym, hl, hl', hne] at hc); done)
        | (intro hc; (try simp [hnt, Try.ntmps18, Try.results18, anW1818, dSym, hl, hl', hne] at hc); (first | (exfalso; omega) | skip))
        | (refine ⟨?_, ?_⟩; · omega)
        | omega
        | apply_assumption -exfalso -symm
        | (exfalso; omega)))
end Go.Proofs.Ytihkcegelghcpaa
