/- A part of a proof: walks over the functions that it names; their contracts hold for every argument. -/
import Derived.Test.YtihkcegelghcpaaW49
import Derived.Test.YtihkcegelghcpaaW19
import Derived.Test.YtihkcegelghcpaaW14
import Derived.Test.YtihkcegelghcpaaW18
set_option linter.unusedSimpArgs false
set_option linter.unusedVariables false
namespace Go.Proofs.Ytihkcegelghcpaa
open Go Go.Dm
attribute [local irreducible] DW callP callS callY RB Dm.Sub
set_option maxRecDepth 100000

theorem dHead_mx (l : List (Nat × List Sym)) : ∀ x ∈ l.map dHead, x.length = 2 ∧ mxL x = 0 := by
  intro x hx
  obtain ⟨y, _, rfl⟩ := List.mem_map.1 hx
  exact ⟨rfl, by simp [dHead, mx]⟩

def anW44 : Ann := ⟨[], [⟨10, [33, 9], [], []⟩]⟩
set_option maxHeartbeats 4000000 in
theorem cfgHeads_pure (c : Cnf) (nt leave : Int) : DPure Try.prog 4 [.agg (dCnf c), .int .i64 nt, .int .i64 leave] (.bool true) := by
  refine DPure_introF [] (fn := Try.f4) Try.func4 rfl Try.call4 (by simp [Try.ntmps4]) (by simp [mx]) ?_
  intro hwf B hnt
  have hw : wCnf c := w_cnf (by simpa [wfL, wfD] using hwf.1)
  obtain ⟨hw1, hw2, hw3, hw4⟩ := hw
  clear hwf
  simp only [argS]
  have hmx0 : ∀ l : List (Nat × List Sym), mxR (l.map fun x => [DVal.int .i64 x.1]) = 0 := mxR0 _ (by simp [mxL, mx])
  have h1 := head12_pure
  have h2 := copy_pure c
  have h3 := heads_pure c nt
  (repeat (first
      | (refine DW_seq fun K hK => ?_)
      | (refine DW_r anW44 Try.mixed (by kernel_rfl) ?_; simp [hnt, Try.ntmps4, Try.results4, anW44, dCnf]; try simp (disch := omega) only [wrap64_in])
      | (refine DW_block ?_)
      | (focus (refine DW_if ?_ ?_ ?_; (· (simp [hnt, Try.ntmps4, Try.results4, anW44, dCnf]; done)); (try (rotate_left; (· (intro hc; (try simp [hnt, Try.ntmps4, Try.results4, anW44, dCnf] at hc); done))))))
      | (refine DW_ret ?_; simp [hnt, Try.ntmps4, Try.results4, anW44, dCnf])
      | (refine DW_exit ?_; simp [hnt, Try.ntmps4, Try.results4, anW44, dCnf])
      | (refine DW_skip ?_; simp [hnt, Try.ntmps4, Try.results4, anW44, dCnf])
      | (intro hc; (try simp [hnt, Try.ntmps4, Try.results4, anW44, dCnf] at hc); done)
      | (intro hc; (try simp [hnt, Try.ntmps4, Try.results4, anW44, dCnf] at hc); (first | (exfalso; omega) | skip))
      | (refine callP_mk (h1) ?_; try simp [hnt, Try.ntmps4, Try.results4, anW44, dCnf])
      | (refine callP_wk (h1) ?_ ?_; (· (simp; done)); try simp [hnt, Try.ntmps4, Try.results4, anW44, dCnf])
      | (refine callP_mk (h2) ?_; try simp [hnt, Try.ntmps4, Try.results4, anW44, dCnf])
      | (refine callP_wk (h2) ?_ ?_; (· (simp; done)); try simp [hnt, Try.ntmps4, Try.results4, anW44, dCnf])
      | (refine callP_mk (h3) ?_; try simp [hnt, Try.ntmps4, Try.results4, anW44, dCnf])
      | (refine callP_wk (h3) ?_ ?_; (· (simp; done)); try simp [hnt, Try.ntmps4, Try.results4, anW44, dCnf])
      | (refine ⟨?_, ?_⟩; · omega)
      | omega
      | apply_assumption -exfalso -symm
      | (exfalso; omega)))
  refine DW_adoptC 9 0 33 3 1 8 (by simp) (fun n => ?_)
  refine DW_loop (X := {k : Nat // k ≤ c.prods.length}) (fun k => ⟨[(1, .int .i64 nt), (3, .ref (dCnf c)), (5, .ref [.int .i64 leave]), (6, .bx 6 1 0), (7, .bx 7 1 0), (8, .bx 8 1 0), (9, .bx 9 1 0), (10, .int .i64 k.1)], [⟨6, 1, .box [.bool false]⟩, ⟨7, 1, .box [.int .i64 0]⟩, ⟨8, 1, .box [.int .i64 0]⟩, ⟨9, 1, .box [.osl 33 1]⟩, ⟨33, 1, .row 3 1 8 ((headsTo c.prods nt k.1).map fun x => [.int .i64 x.1])⟩]⟩) (fun k => c.prods.length - k.1) ⟨0, by simp⟩ (Sub.lit (by simp [headsTo, dCnf])) ?_
  rintro ⟨k, hk⟩
  by_cases hlt : k < c.prods.length
  · obtain ⟨p, hp, hp', hpm⟩ := at_lt' hlt
    obtain ⟨hw5, hw6, hw7, hw8⟩ := hw4 p hpm
    have hs := headsTo_succ (nt := nt) hp
    have hlen : (headsTo c.prods nt k).length ≤ k := by
      simp only [headsTo]
      exact Nat.le_trans (List.length_filterMap_le _ _) (by simp)
    by_cases hh : p.head = nt
    · rw [if_pos hh] at hs
      (repeat (first
          | (refine DW_seq fun K hK => ?_)
          | (refine DW_r anW44 Try.mixed (by kernel_rfl) ?_; simp [hnt, Try.ntmps4, Try.results4, anW44, dCnf, dProd, hlt, hp', hh]; try simp (disch := omega) only [wrap64_in])
          | (refine DW_block ?_)
          | (focus (refine DW_if ?_ ?_ ?_; (· (simp [hnt, Try.ntmps4, Try.results4, anW44, dCnf, dProd, hlt, hp', hh]; done)); (try (rotate_left; (· (intro hc; (try simp [hnt, Try.ntmps4, Try.results4, anW44, dCnf, dProd, hlt, hp', hh] at hc); done))))))
          | (refine DW_ret ?_; simp [hnt, Try.ntmps4, Try.results4, anW44, dCnf, dProd, hlt, hp', hh])
          | (refine DW_exit ?_; simp [hnt, Try.ntmps4, Try.results4, anW44, dCnf, dProd, hlt, hp', hh])
          | (refine DW_skip ?_; simp [hnt, Try.ntmps4, Try.results4, anW44, dCnf, dProd, hlt, hp', hh])
          | (intro hc; (try simp [hnt, Try.ntmps4, Try.results4, anW44, dCnf, dProd, hlt, hp', hh] at hc); done)
          | (intro hc; (try simp [hnt, Try.ntmps4, Try.results4, anW44, dCnf, dProd, hlt, hp', hh] at hc); (first | (exfalso; omega) | skip))
          | (refine callP_mk (h1) ?_; try simp [hnt, Try.ntmps4, Try.results4, anW44, dCnf, dProd, hlt, hp', hh])
          | (refine callP_wk (h1) ?_ ?_; (· (simp; done)); try simp [hnt, Try.ntmps4, Try.results4, anW44, dCnf, dProd, hlt, hp', hh])
          | (refine callP_mk (h2) ?_; try simp [hnt, Try.ntmps4, Try.results4, anW44, dCnf, dProd, hlt, hp', hh])
          | (refine callP_wk (h2) ?_ ?_; (· (simp; done)); try simp [hnt, Try.ntmps4, Try.results4, anW44, dCnf, dProd, hlt, hp', hh])
          | (refine callP_mk (h3) ?_; try simp [hnt, Try.ntmps4, Try.results4, anW44, dCnf, dProd, hlt, hp', hh])
          | (refine callP_wk (h3) ?_ ?_; (· (simp; done)); try simp [hnt, Try.ntmps4, Try.results4, anW44, dCnf, dProd, hlt, hp', hh])
          | (refine ⟨?_, ?_⟩; · omega)
          | omega
          | apply_assumption -exfalso -symm
          | (exfalso; omega)))
      refine Again.mk ⟨k + 1, by omega⟩ (Sub.lit (by simp [hs, dCnf, hmx0])) (by simp; omega)
      (repeat (first
          | (refine DW_seq fun K hK => ?_)
          | (refine DW_r anW44 Try.mixed (by kernel_rfl) ?_; simp [hnt, Try.ntmps4, Try.results4, anW44]; try simp (disch := omega) only [wrap64_in])
          | (refine DW_block ?_)
          | (focus (refine DW_if ?_ ?_ ?_; (· (simp [hnt, Try.ntmps4, Try.results4, anW44]; done)); (try (rotate_left; (· (intro hc; (try simp [hnt, Try.ntmps4, Try.results4, anW44] at hc); done))))))
          | (refine DW_ret ?_; simp [hnt, Try.ntmps4, Try.results4, anW44])
          | (refine DW_exit ?_; simp [hnt, Try.ntmps4, Try.results4, anW44])
          | (refine DW_skip ?_; simp [hnt, Try.ntmps4, Try.results4, anW44])
          | (intro hc; (try simp [hnt, Try.ntmps4, Try.results4, anW44] at hc); done)
          | (intro hc; (try simp [hnt, Try.ntmps4, Try.results4, anW44] at hc); (first | (exfalso; omega) | skip))
          | (refine callP_mk (h1) ?_; try simp [hnt, Try.ntmps4, Try.results4, anW44])
          | (refine callP_wk (h1) ?_ ?_; (· (simp; done)); try simp [hnt, Try.ntmps4, Try.results4, anW44])
          | (refine callP_mk (h2) ?_; try simp [hnt, Try.ntmps4, Try.results4, anW44])
          | (refine callP_wk (h2) ?_ ?_; (· (simp; done)); try simp [hnt, Try.ntmps4, Try.results4, anW44])
          | (refine callP_mk (h3) ?_; try simp [hnt, Try.ntmps4, Try.results4, anW44])
          | (refine callP_wk (h3) ?_ ?_; (· (simp; done)); try simp [hnt, Try.ntmps4, Try.results4, anW44])
          | (refine ⟨?_, ?_⟩; · omega)
          | omega
          | apply_assumption -exfalso -symm
          | (exfalso; omega)))
    · rw [if_neg hh, List.append_nil] at hs
      have hb : (p.head == nt) = false := by simpa using hh
      (repeat (first
          | (refine DW_seq fun K hK => ?_)
          | (refine DW_r anW44 Try.mixed (by kernel_rfl) ?_; simp [hnt, Try.ntmps4, Try.results4, anW44, dCnf, dProd, hlt, hp', hh, hb]; try simp (disch := omega) only [wrap64_in])
          | (refine DW_block ?_)
          | (focus (refine DW_if ?_ ?_ ?_; (· (simp [hnt, Try.ntmps4, Try.results4, anW44, dCnf, dProd, hlt, hp', hh, hb]; done)); (try (rotate_left; (· (intro hc; (try simp [hnt, Try.ntmps4, Try.results4, anW44, dCnf, dProd, hlt, hp', hh, hb] at hc); done))))))
          | (refine DW_ret ?_; simp [hnt, Try.ntmps4, Try.results4, anW44, dCnf, dProd, hlt, hp', hh, hb])
          | (refine DW_exit ?_; simp [hnt, Try.ntmps4, Try.results4, anW44, dCnf, dProd, hlt, hp', hh, hb])
          | (refine DW_skip ?_; simp [hnt, Try.ntmps4, Try.results4, anW44, dCnf, dProd, hlt, hp', hh, hb])
          | (intro hc; (try simp [hnt, Try.ntmps4, Try.results4, anW44, dCnf, dProd, hlt, hp', hh, hb] at hc); done)
          | (intro hc; (try simp [hnt, Try.ntmps4, Try.results4, anW44, dCnf, dProd, hlt, hp', hh, hb] at hc); (first | (exfalso; omega) | skip))
          | (refine callP_mk (h1) ?_; try simp [hnt, Try.ntmps4, Try.results4, anW44, dCnf, dProd, hlt, hp', hh, hb])
          | (refine callP_wk (h1) ?_ ?_; (· (simp; done)); try simp [hnt, Try.ntmps4, Try.results4, anW44, dCnf, dProd, hlt, hp', hh, hb])
          | (refine callP_mk (h2) ?_; try simp [hnt, Try.ntmps4, Try.results4, anW44, dCnf, dProd, hlt, hp', hh, hb])
          | (refine callP_wk (h2) ?_ ?_; (· (simp; done)); try simp [hnt, Try.ntmps4, Try.results4, anW44, dCnf, dProd, hlt, hp', hh, hb])
          | (refine callP_mk (h3) ?_; try simp [hnt, Try.ntmps4, Try.results4, anW44, dCnf, dProd, hlt, hp', hh, hb])
          | (refine callP_wk (h3) ?_ ?_; (· (simp; done)); try simp [hnt, Try.ntmps4, Try.results4, anW44, dCnf, dProd, hlt, hp', hh, hb])
          | (refine ⟨?_, ?_⟩; · omega)
          | omega
          | apply_assumption -exfalso -symm
          | (exfalso; omega)))
      refine Again.mk ⟨k + 1, by omega⟩ (Sub.lit (by simp [hs, dCnf, hmx0])) (by simp; omega)
      (repeat (first
          | (refine DW_seq fun K hK => ?_)
          | (refine DW_r anW44 Try.mixed (by kernel_rfl) ?_; simp [hnt, Try.ntmps4, Try.results4, anW44]; try simp (disch := omega) only [wrap64_in])
          | (refine DW_block ?_)
          | (focus (refine DW_if ?_ ?_ ?_; (· (simp [hnt, Try.ntmps4, Try.results4, anW44]; done)); (try (rotate_left; (· (intro hc; (try simp [hnt, Try.ntmps4, Try.results4, anW44] at hc); done))))))
          | (refine DW_ret ?_; simp [hnt, Try.ntmps4, Try.results4, anW44])
          | (refine DW_exit ?_; simp [hnt, Try.ntmps4, Try.results4, anW44])
          | (refine DW_skip ?_; simp [hnt, Try.ntmps4, Try.results4, anW44])
          | (intro hc; (try simp [hnt, Try.ntmps4, Try.results4, anW44] at hc); done)
          | (intro hc; (try simp [hnt, Try.ntmps4, Try.results4, anW44] at hc); (first | (exfalso; omega) | skip))
          | (refine callP_mk (h1) ?_; try simp [hnt, Try.ntmps4, Try.results4, anW44])
          | (refine callP_wk (h1) ?_ ?_; (· (simp; done)); try simp [hnt, Try.ntmps4, Try.results4, anW44])
          | (refine callP_mk (h2) ?_; try simp [hnt, Try.ntmps4, Try.results4, anW44])
          | (refine callP_wk (h2) ?_ ?_; (· (simp; done)); try simp [hnt, Try.ntmps4, Try.results4, anW44])
          | (refine callP_mk (h3) ?_; try simp [hnt, Try.ntmps4, Try.results4, anW44])
          | (refine callP_wk (h3) ?_ ?_; (· (simp; done)); try simp [hnt, Try.ntmps4, Try.results4, anW44])
          | (refine ⟨?_, ?_⟩; · omega)
          | omega
          | apply_assumption -exfalso -symm
          | (exfalso; omega)))
  · have hkk : k = c.prods.length := by omega
    subst hkk
    (repeat (first
        | (refine DW_seq fun K hK => ?_)
        | (refine DW_r anW44 Try.mixed (by kernel_rfl) ?_; simp [hnt, Try.ntmps4, Try.results4, anW44, dCnf]; try simp (disch := omega) only [wrap64_in])
        | (refine DW_block ?_)
        | (focus (refine DW_if ?_ ?_ ?_; (· (simp [hnt, Try.ntmps4, Try.results4, anW44, dCnf]; done)); (try (rotate_left; (· (intro hc; (try simp [hnt, Try.ntmps4, Try.results4, anW44, dCnf] at hc); done))))))
        | (refine DW_ret ?_; simp [hnt, Try.ntmps4, Try.results4, anW44, dCnf])
        | (refine DW_exit ?_; simp [hnt, Try.ntmps4, Try.results4, anW44, dCnf])
        | (refine DW_skip ?_; simp [hnt, Try.ntmps4, Try.results4, anW44, dCnf])
        | (intro hc; (try simp [hnt, Try.ntmps4, Try.results4, anW44, dCnf] at hc); done)
        | (intro hc; (try simp [hnt, Try.ntmps4, Try.results4, anW44, dCnf] at hc); (first | (exfalso; omega) | skip))
        | (refine callP_mk (h1) ?_; try simp [hnt, Try.ntmps4, Try.results4, anW44, dCnf])
        | (refine callP_wk (h1) ?_ ?_; (· (simp; done)); try simp [hnt, Try.ntmps4, Try.results4, anW44, dCnf])
        | (refine callP_mk (h2) ?_; try simp [hnt, Try.ntmps4, Try.results4, anW44, dCnf])
        | (refine callP_wk (h2) ?_ ?_; (· (simp; done)); try simp [hnt, Try.ntmps4, Try.results4, anW44, dCnf])
        | (refine callP_mk (h3) ?_; try simp [hnt, Try.ntmps4, Try.results4, anW44, dCnf])
        | (refine callP_wk (h3) ?_ ?_; (· (simp; done)); try simp [hnt, Try.ntmps4, Try.results4, anW44, dCnf])
        | (refine ⟨?_, ?_⟩; · omega)
        | omega
        | apply_assumption -exfalso -symm
        | (exfalso; omega)))
    have hI := heads2_spec c nt (fun k => decide ((k : Int) + 1 ≠ leave))
    have hdone : ∀ T : List Ent, True := fun _ => trivial
    obtain ⟨xs, hxs⟩ : ∃ xs, xs = headsTo c.prods nt c.prods.length := ⟨_, rfl⟩
    have hround : ∀ (k : Nat) (x : List DVal), (xs.map dHead)[k]? = some x → ∃ (i : Nat) (p : Prod), xs[k]? = some (i, p.body) ∧ x = [.int .i64 i, dSyms p.body] ∧ c.prods[i]? = some p ∧ i < c.prods.length ∧ p ∈ c.prods := by
      intro k x hx
      rw [List.getElem?_map, Option.map_eq_some_iff] at hx
      obtain ⟨⟨i, b⟩, hy, rfl⟩ := hx
      obtain ⟨h4, p, h5, h6, h7⟩ := headsTo_mem (by rw [hxs] at hy; exact List.mem_of_getElem? hy)
      simp only at h4 h5 h7
      subst h7
      exact ⟨i, p, hy, rfl, h5, h4, List.mem_of_getElem? h5⟩
    rw [← hxs] at hI
    simp only [dCnf] at hI
    have hstop := stopAt_inv (ok := fun k => decide ((k : Int) + 1 ≠ leave)) (n := xs.length)
    have hlen : xs.length ≤ c.prods.length := by
      rw [hxs]; simp only [headsTo]
      exact Nat.le_trans (List.length_filterMap_le _ _) (by simp)
    obtain ⟨T, e0, hT⟩ : ∃ T e0, (stopAt (fun k => decide ((k : Int) + 1 ≠ leave)) xs.length = none ∧ e0 = Exit.normal ∧ T = [⟨6, 0, .box [.bool false]⟩, ⟨7, 0, .box [.int .i64 xs.length]⟩, ⟨8, 0, .box [.int .i64 0]⟩]) ∨
        (∃ k : Nat, k < xs.length ∧ stopAt (fun k => decide ((k : Int) + 1 ≠ leave)) xs.length = some k ∧ e0 = Exit.exit 2 ∧ T = [(⟨6, 0, .box [.bool false]⟩ : Ent), ⟨7, 0, .box [.int .i64 (k + 1)]⟩, ⟨8, 0, .box [.int .i64 1]⟩]) := by
      rcases hstop with ⟨k, h4, h5, _⟩ | ⟨h5, _⟩
      · exact ⟨_, _, .inr ⟨k, h4, h5, rfl, rfl⟩⟩
      · exact ⟨_, _, .inl ⟨h5, rfl, rfl⟩⟩
    refine DW_rangeFunc (nt := 79) [(6, 6), (7, 7), (8, 8)] [] [(1, .int .i64 nt), (3, .ref [.int .i64 c.nts, dProds c.prods]), (5, .ref [.int .i64 leave]), (6, .bx 6 0 0), (7, .bx 7 0 0), (8, .bx 8 0 0), (9, .ref [.sl 1 8 (xs.map fun x => [.int .i64 x.1])]), (37, .fn (.func 49) [] [.ref [.int .i64 c.nts, dProds c.prods], .ref [.int .i64 nt]])]
      (fun k => [⟨6, 0, .box [.bool false]⟩, ⟨7, 0, .box [.int .i64 k]⟩, ⟨8, 0, .box [.int .i64 0]⟩]) (fun k => [⟨6, 0, .box [.bool false]⟩, ⟨7, 0, .box [.int .i64 (k + 1)]⟩, ⟨8, 0, .box [.int .i64 1]⟩]) (fun _ => .exit 2) T e0
      hI (by simp [hnt, Try.ntmps4]) (by simp [mxS, hmx0]) (by simp [dCnf]) (List.mem_of_getElem? (i := 7) rfl) (dHead_mx _) (by simp) ?_ ?_ ?_ ?_ ?_
    · simp [hxs, hmx0]
    · intro k x hx hj B1 hnt
      obtain ⟨i, p, hy, rfl, h5, h6, h7⟩ := hround k x hx
      have hkl : k < xs.length := (List.getElem?_eq_some_iff.1 hy).1
      have hy' : xs[k] = (i, p.body) := (List.getElem?_eq_some_iff.1 hy).2
      have hkl' : ¬ xs.length ≤ k := by omega
      have hp' : c.prods[i] = p := (List.getElem?_eq_some_iff.1 h5).2
      have hsb := sameBody_pure p.body p.body
      simp only [decide_true] at hsb
      simp only [Array.toList, putM]
      (repeat (first
          | (refine DW_seq fun K hK => ?_)
          | (refine DW_r anW44 Try.mixed (by kernel_rfl) ?_; simp [hnt, Try.ntmps4, Try.results4, anW44]; try simp (disch := omega) only [wrap64_in])
          | (refine DW_block ?_)
          | (focus (refine DW_if ?_ ?_ ?_; (· (simp [hnt, Try.ntmps4, Try.results4, anW44]; done)); (try (rotate_left; (· (intro hc; (try simp [hnt, Try.ntmps4, Try.results4, anW44] at hc); done))))))
          | (refine DW_ret ?_; simp [hnt, Try.ntmps4, Try.results4, anW44])
          | (refine DW_exit ?_; simp [hnt, Try.ntmps4, Try.results4, anW44])
          | (refine DW_skip ?_; simp [hnt, Try.ntmps4, Try.results4, anW44])
          | (intro hc; (try simp [hnt, Try.ntmps4, Try.results4, anW44] at hc); done)
          | (intro hc; (try simp [hnt, Try.ntmps4, Try.results4, anW44] at hc); (first | (exfalso; omega) | skip))
          | (refine callP_mk (h1) ?_; try simp [hnt, Try.ntmps4, Try.results4, anW44])
          | (refine callP_wk (h1) ?_ ?_; (· (simp; done)); try simp [hnt, Try.ntmps4, Try.results4, anW44])
          | (refine callP_mk (h2) ?_; try simp [hnt, Try.ntmps4, Try.results4, anW44])
          | (refine callP_wk (h2) ?_ ?_; (· (simp; done)); try simp [hnt, Try.ntmps4, Try.results4, anW44])
          | (refine callP_mk (h3) ?_; try simp [hnt, Try.ntmps4, Try.results4, anW44])
          | (refine callP_wk (h3) ?_ ?_; (· (simp; done)); try simp [hnt, Try.ntmps4, Try.results4, anW44])
          | (refine ⟨?_, ?_⟩; · omega)
          | omega
          | apply_assumption -exfalso -symm
          | (exfalso; omega)))
      refine RB_mk fun B2 hnt => ?_
      by_cases hle : (k : Int) + 1 = leave
      · (repeat (first
          | (refine DW_seq fun K hK => ?_)
          | (refine DW_r anW44 Try.mixed (by kernel_rfl) ?_; simp [hnt, Try.ntmps4, Try.results4, anW44, dProd, hkl, hkl', hy, hy', h5, h6, hp', hle]; try simp (disch := omega) only [wrap64_in])
          | (refine DW_block ?_)
          | (focus (refine DW_if ?_ ?_ ?_; (· (simp [hnt, Try.ntmps4, Try.results4, anW44, dProd, hkl, hkl', hy, hy', h5, h6, hp', hle]; done)); (try (rotate_left; (· (intro hc; (try simp [hnt, Try.ntmps4, Try.results4, anW44, dProd, hkl, hkl', hy, hy', h5, h6, hp', hle] at hc); done))))))
          | (refine DW_ret ?_; simp [hnt, Try.ntmps4, Try.results4, anW44, dProd, hkl, hkl', hy, hy', h5, h6, hp', hle])
          | (refine DW_exit ?_; simp [hnt, Try.ntmps4, Try.results4, anW44, dProd, hkl, hkl', hy, hy', h5, h6, hp', hle])
          | (refine DW_skip ?_; simp [hnt, Try.ntmps4, Try.results4, anW44, dProd, hkl, hkl', hy, hy', h5, h6, hp', hle])
          | (intro hc; (try simp [hnt, Try.ntmps4, Try.results4, anW44, dProd, hkl, hkl', hy, hy', h5, h6, hp', hle] at hc); done)
          | (intro hc; (try simp [hnt, Try.ntmps4, Try.results4, anW44, dProd, hkl, hkl', hy, hy', h5, h6, hp', hle] at hc); (first | (exfalso; omega) | skip))
          | (refine callP_mk (hsb) ?_; try simp [hnt, Try.ntmps4, Try.results4, anW44, dProd, hkl, hkl', hy, hy', h5, h6, hp', hle])
          | (refine callP_wk (hsb) ?_ ?_; (· (simp; done)); try simp [hnt, Try.ntmps4, Try.results4, anW44, dProd, hkl, hkl', hy, hy', h5, h6, hp', hle])
          | (refine ⟨?_, ?_⟩; · omega)
          | omega
          | apply_assumption -exfalso -symm
          | (exfalso; omega)))
        refine Sub.lit ?_
        simp [hle]
      · have hle' : ((k : Int) + 1 == leave) = false := by simpa using hle
        (repeat (first
            | (refine DW_seq fun K hK => ?_)
            | (refine DW_r anW44 Try.mixed (by kernel_rfl) ?_; simp [hnt, Try.ntmps4, Try.results4, anW44, dProd, hkl, hkl', hy, hy', h5, h6, hp', hle, hle']; try simp (disch := omega) only [wrap64_in])
            | (refine DW_block ?_)
            | (focus (refine DW_if ?_ ?_ ?_; (· (simp [hnt, Try.ntmps4, Try.results4, anW44, dProd, hkl, hkl', hy, hy', h5, h6, hp', hle, hle']; done)); (try (rotate_left; (· (intro hc; (try simp [hnt, Try.ntmps4, Try.results4, anW44, dProd, hkl, hkl', hy, hy', h5, h6, hp', hle, hle'] at hc); done))))))
            | (refine DW_ret ?_; simp [hnt, Try.ntmps4, Try.results4, anW44, dProd, hkl, hkl', hy, hy', h5, h6, hp', hle, hle'])
            | (refine DW_exit ?_; simp [hnt, Try.ntmps4, Try.results4, anW44, dProd, hkl, hkl', hy, hy', h5, h6, hp', hle, hle'])
            | (refine DW_skip ?_; simp [hnt, Try.ntmps4, Try.results4, anW44, dProd, hkl, hkl', hy, hy', h5, h6, hp', hle, hle'])
            | (intro hc; (try simp [hnt, Try.ntmps4, Try.results4, anW44, dProd, hkl, hkl', hy, hy', h5, h6, hp', hle, hle'] at hc); done)
            | (intro hc; (try simp [hnt, Try.ntmps4, Try.results4, anW44, dProd, hkl, hkl', hy, hy', h5, h6, hp', hle, hle'] at hc); (first | (exfalso; omega) | skip))
            | (refine callP_mk (hsb) ?_; try simp [hnt, Try.ntmps4, Try.results4, anW44, dProd, hkl, hkl', hy, hy', h5, h6, hp', hle, hle'])
            | (refine callP_wk (hsb) ?_ ?_; (· (simp; done)); try simp [hnt, Try.ntmps4, Try.results4, anW44, dProd, hkl, hkl', hy, hy', h5, h6, hp', hle, hle'])
            | (refine ⟨?_, ?_⟩; · omega)
            | omega
            | apply_assumption -exfalso -symm
            | (exfalso; omega)))
        refine Sub.lit ?_
        simp
    · simp only [List.length_map]
      rcases hT with ⟨h4, rfl, rfl⟩ | ⟨k, h4, h5, rfl, rfl⟩
      · rw [h4]; exact ⟨rfl, rfl⟩
      · rw [h5]; exact ⟨.inr (.inl ⟨2, rfl, rfl⟩), rfl⟩
    · rcases hT with ⟨h4, rfl, rfl⟩ | ⟨k, h4, h5, rfl, rfl⟩ <;> simp
    · intro r
      rcases hT with ⟨h4, rfl, rfl⟩ | ⟨k, h4, h5, rfl, rfl⟩
      · simp
        (repeat (first
            | (refine DW_seq fun K hK => ?_)
            | (refine DW_r anW44 Try.mixed (by kernel_rfl) ?_; simp [hnt, Try.ntmps4, Try.results4, anW44, hxs]; try simp (disch := omega) only [wrap64_in])
            | (refine DW_block ?_)
            | (focus (refine DW_if ?_ ?_ ?_; (· (simp [hnt, Try.ntmps4, Try.results4, anW44, hxs]; done)); (try (rotate_left; (· (intro hc; (try simp [hnt, Try.ntmps4, Try.results4, anW44, hxs] at hc); done))))))
            | (refine DW_ret ?_; simp [hnt, Try.ntmps4, Try.results4, anW44, hxs])
            | (refine DW_exit ?_; simp [hnt, Try.ntmps4, Try.results4, anW44, hxs])
            | (refine DW_skip ?_; simp [hnt, Try.ntmps4, Try.results4, anW44, hxs])
            | (intro hc; (try simp [hnt, Try.ntmps4, Try.results4, anW44, hxs] at hc); done)
            | (intro hc; (try simp [hnt, Try.ntmps4, Try.results4, anW44, hxs] at hc); (first | (exfalso; omega) | skip))
            | (refine callP_mk (h1) ?_; try simp [hnt, Try.ntmps4, Try.results4, anW44, hxs])
            | (refine callP_wk (h1) ?_ ?_; (· (simp; done)); try simp [hnt, Try.ntmps4, Try.results4, anW44, hxs])
            | (refine ⟨?_, ?_⟩; · omega)
            | omega
            | apply_assumption -exfalso -symm
            | (exfalso; omega)))
      · simp
        (repeat (first
            | (refine DW_seq fun K hK => ?_)
            | (refine DW_r anW44 Try.mixed (by kernel_rfl) ?_; simp [hnt, Try.ntmps4, Try.results4, anW44, hxs]; try simp (disch := omega) only [wrap64_in])
            | (refine DW_block ?_)
            | (focus (refine DW_if ?_ ?_ ?_; (· (simp [hnt, Try.ntmps4, Try.results4, anW44, hxs]; done)); (try (rotate_left; (· (intro hc; (try simp [hnt, Try.ntmps4, Try.results4, anW44, hxs] at hc); done))))))
            | (refine DW_ret ?_; simp [hnt, Try.ntmps4, Try.results4, anW44, hxs])
            | (refine DW_exit ?_; simp [hnt, Try.ntmps4, Try.results4, anW44, hxs])
            | (refine DW_skip ?_; simp [hnt, Try.ntmps4, Try.results4, anW44, hxs])
            | (intro hc; (try simp [hnt, Try.ntmps4, Try.results4, anW44, hxs] at hc); done)
            | (intro hc; (try simp [hnt, Try.ntmps4, Try.results4, anW44, hxs] at hc); (first | (exfalso; omega) | skip))
            | (refine callP_mk (h1) ?_; try simp [hnt, Try.ntmps4, Try.results4, anW44, hxs])
            | (refine callP_wk (h1) ?_ ?_; (· (simp; done)); try simp [hnt, Try.ntmps4, Try.results4, anW44, hxs])
            | (refine ⟨?_, ?_⟩; · omega)
            | omega
            | apply_assumption -exfalso -symm
            | (exfalso; omega)))
end Go.Proofs.Ytihkcegelghcpaa
