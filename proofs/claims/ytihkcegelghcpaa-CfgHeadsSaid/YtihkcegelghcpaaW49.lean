/- A part of a proof: walks over the functions that it names; their contracts hold for every argument. -/
import Derived.Test.YtihkcegelghcpaaW47
import Derived.Test.YtihkcegelghcpaaEnX
set_option linter.unusedSimpArgs false
set_option linter.unusedVariables false
namespace Go.Proofs.Ytihkcegelghcpaa
open Go Go.Dm
attribute [local irreducible] DW callP callS callY
set_option maxRecDepth 100000

/-- the productions with a head, by their places -/
def headAt (l : List Prod) (nt : Int) (j : Nat) : Option (Nat × List Sym) := match l[j]? with
  | some p => if p.head = nt then some (j, p.body) else none
  | none => none
def headsTo (l : List Prod) (nt : Int) (n : Nat) : List (Nat × List Sym) := (List.range n).filterMap (headAt l nt)
def dHead (x : Nat × List Sym) : List DVal := [.int .i64 x.1, dSyms x.2]
theorem headsTo_succ {l : List Prod} {nt : Int} {n : Nat} {p : Prod} (h : l[n]? = some p) : headsTo l nt (n + 1) = headsTo l nt n ++ (if p.head = nt then [(n, p.body)] else []) := by
  simp only [headsTo, List.range_succ, List.filterMap_append, List.filterMap_cons, List.filterMap_nil, headAt, h]
  by_cases hp : p.head = nt <;> simp [hp]
theorem headsTo_split {l : List Prod} {nt : Int} {n m : Nat} (h : n ≤ m) : ∃ r, headsTo l nt m = headsTo l nt n ++ r := by
  obtain ⟨d, rfl⟩ : ∃ d, m = n + d := ⟨m - n, by omega⟩
  exact ⟨((List.range d).map (n + ·)).filterMap (headAt l nt), by simp only [headsTo, List.range_add, List.filterMap_append]⟩
theorem headsTo_at {l : List Prod} {nt : Int} {n m : Nat} {p : Prod} (h : l[n]? = some p) (hp : p.head = nt) (hm : n < m) : (headsTo l nt m)[(headsTo l nt n).length]? = some (n, p.body) := by
  obtain ⟨r, hr⟩ := headsTo_split (l := l) (nt := nt) (show n + 1 ≤ m from hm)
  rw [hr, headsTo_succ h, if_pos hp]
  simp
theorem headsTo_lt {l : List Prod} {nt : Int} {n m : Nat} {p : Prod} (h : l[n]? = some p) (hp : p.head = nt) (hm : n < m) : (headsTo l nt n).length < (headsTo l nt m).length := (List.getElem?_eq_some_iff.1 (headsTo_at h hp hm)).1
theorem headsTo_mem {l : List Prod} {nt : Int} {n : Nat} {x : Nat × List Sym} (h : x ∈ headsTo l nt n) : x.1 < n ∧ ∃ p, l[x.1]? = some p ∧ p.head = nt ∧ p.body = x.2 := by
  simp only [headsTo, List.mem_filterMap, List.mem_range] at h
  obtain ⟨j, hj, h⟩ := h
  unfold headAt at h
  split at h
  · rename_i p hp
    split at h
    · simp only [Option.some.injEq] at h
      subst h
      exact ⟨hj, p, hp, by assumption, rfl⟩
    · simp at h
  · simp at h

def anW4949 : Ann := ⟨[24], [⟨2, [5], [], []⟩]⟩
set_option maxHeartbeats 1000000 in
theorem heads2_spec (c : Cnf) (nt : Int) (ok : Nat → Bool) : ISpec Try.prog 49 [] [.ref (dCnf c), .ref [.int .i64 nt]] ((headsTo c.prods nt c.prods.length).map dHead) ok := by
  intro l A Z hY
  refine DSpec_intro [] [(0, 0, 0), (1, 1, 1)] (fn := Try.f49) Try.func49 rfl Try.call49 (by simp [Try.ntmps49]) (by simp) (by simp) ?_
  intro hwf B hnt
  have hw : wCnf c := w_cnf (by simp [wfL, wfD, dCnf] at hwf ⊢; exact hwf.1)
  obtain ⟨hw1, hw2, hw3, hw4⟩ := hw
  clear hwf
  simp only [argS, List.nil_append]
  (repeat (first
      | (refine DW_seq fun K hK => ?_)
      | (refine DW_r anW4949 Try.mixed (by kernel_rfl) ?_; simp [hnt, Try.ntmps49, Try.results49, anW4949, dCnf]; try simp (disch := omega) only [wrap64_in])
      | (refine DW_block ?_)
      | (focus (refine DW_if ?_ ?_ ?_; (· (simp [hnt, Try.ntmps49, Try.results49, anW4949, dCnf]; done)); (try (rotate_left; (· (intro hc; (try simp [hnt, Try.ntmps49, Try.results49, anW4949, dCnf] at hc); done))))))
      | (refine DW_ret ?_; simp [hnt, Try.ntmps49, Try.results49, anW4949, dCnf])
      | (refine DW_exit ?_; simp [hnt, Try.ntmps49, Try.results49, anW4949, dCnf])
      | (refine DW_skip ?_; simp [hnt, Try.ntmps49, Try.results49, anW4949, dCnf])
      | (intro hc; (try simp [hnt, Try.ntmps49, Try.results49, anW4949, dCnf] at hc); done)
      | (intro hc; (try simp [hnt, Try.ntmps49, Try.results49, anW4949, dCnf] at hc); (first | (exfalso; omega) | skip))
      | (refine ⟨?_, ?_⟩; · omega)
      | omega
      | apply_assumption -exfalso -symm
      | (exfalso; omega)))
  refine DW_loop (X := {k : Nat // k ≤ c.prods.length ∧ ∀ j, j < (headsTo c.prods nt k).length → ok j = true}) (fun k => ⟨[(0, .pk 0 0), (2, .ref [.int .i64 nt]), (7, dProds c.prods), (8, .int .i64 c.prods.length), (9, .int .i64 k.1)], [⟨0, 0, .abs (yH l)⟩, ⟨1, 1, .abs (A (headsTo c.prods nt k.1).length)⟩]⟩) (fun k => c.prods.length - k.1) ⟨0, by simp [headsTo]⟩ (Sub.lit (by simp [headsTo])) ?_
  rintro ⟨k, hk, hj⟩
  by_cases hlt : k < c.prods.length
  · obtain ⟨p, hp, hp', hpm⟩ := at_lt' hlt
    obtain ⟨hw5, hw6, hw7, hw8⟩ := hw4 p hpm
    have hs := headsTo_succ (nt := nt) hp
    by_cases hh : p.head = nt
    · have hx := hY (headsTo c.prods nt k).length (dHead (k, p.body)) (by rw [List.getElem?_map, headsTo_at hp hh hlt]; rfl) hj
      rw [if_pos hh] at hs
      have h1 := clone_pure p.body
      (repeat (first
          | (refine DW_seq fun K hK => ?_)
          | (refine DW_r anW4949 Try.mixed (by kernel_rfl) ?_; simp [hnt, Try.ntmps49, Try.results49, anW4949, dCnf, dProd, hlt, hp', hh]; try simp (disch := omega) only [wrap64_in])
          | (refine DW_block ?_)
          | (focus (refine DW_if ?_ ?_ ?_; (· (simp [hnt, Try.ntmps49, Try.results49, anW4949, dCnf, dProd, hlt, hp', hh]; done)); (try (rotate_left; (· (intro hc; (try simp [hnt, Try.ntmps49, Try.results49, anW4949, dCnf, dProd, hlt, hp', hh] at hc); done))))))
          | (refine DW_ret ?_; simp [hnt, Try.ntmps49, Try.results49, anW4949, dCnf, dProd, hlt, hp', hh])
          | (refine DW_exit ?_; simp [hnt, Try.ntmps49, Try.results49, anW4949, dCnf, dProd, hlt, hp', hh])
          | (refine DW_skip ?_; simp [hnt, Try.ntmps49, Try.results49, anW4949, dCnf, dProd, hlt, hp', hh])
          | (intro hc; (try simp [hnt, Try.ntmps49, Try.results49, anW4949, dCnf, dProd, hlt, hp', hh] at hc); done)
          | (intro hc; (try simp [hnt, Try.ntmps49, Try.results49, anW4949, dCnf, dProd, hlt, hp', hh] at hc); (first | (exfalso; omega) | skip))
          | (refine callP_mk (h1) ?_; try simp [hnt, Try.ntmps49, Try.results49, anW4949, dCnf, dProd, hlt, hp', hh])
          | (refine callP_wk (h1) ?_ ?_; (· (simp; done)); try simp [hnt, Try.ntmps49, Try.results49, anW4949, dCnf, dProd, hlt, hp', hh])
          | (refine ⟨?_, ?_⟩; · omega)
          | omega
          | apply_assumption -exfalso -symm
          | (exfalso; omega)))
      cases hok : ok (headsTo c.prods nt k).length
      · rw [hok] at hx
        refine callY_mk hx (by simp [dHead]) (fun r => ?_)
        have hst := stopAt_some (headsTo_lt hp hh hlt) hj hok
        simp [hnt, Try.ntmps49, Try.results49, anW4949, hst]
        (repeat (first
            | (refine DW_seq fun K hK => ?_)
            | (refine DW_r anW4949 Try.mixed (by kernel_rfl) ?_; simp [hnt, Try.ntmps49, Try.results49, anW4949, hst]; try simp (disch := omega) only [wrap64_in])
            | (refine DW_block ?_)
            | (focus (refine DW_if ?_ ?_ ?_; (· (simp [hnt, Try.ntmps49, Try.results49, anW4949, hst]; done)); (try (rotate_left; (· (intro hc; (try simp [hnt, Try.ntmps49, Try.results49, anW4949, hst] at hc); done))))))
            | (refine DW_ret ?_; simp [hnt, Try.ntmps49, Try.results49, anW4949, hst])
            | (refine DW_exit ?_; simp [hnt, Try.ntmps49, Try.results49, anW4949, hst])
            | (refine DW_skip ?_; simp [hnt, Try.ntmps49, Try.results49, anW4949, hst])
            | (intro hc; (try simp [hnt, Try.ntmps49, Try.results49, anW4949, hst] at hc); done)
            | (intro hc; (try simp [hnt, Try.ntmps49, Try.results49, anW4949, hst] at hc); (first | (exfalso; omega) | skip))
            | (refine callP_mk (h1) ?_; try simp [hnt, Try.ntmps49, Try.results49, anW4949, hst])
            | (refine callP_wk (h1) ?_ ?_; (· (simp; done)); try simp [hnt, Try.ntmps49, Try.results49, anW4949, hst])
            | (refine ⟨?_, ?_⟩; · omega)
            | omega
            | apply_assumption -exfalso -symm
            | (exfalso; omega)))
      · rw [hok] at hx
        refine callY_mk hx (by simp [dHead]) (fun r => ?_)
        simp [hnt, Try.ntmps49, Try.results49, anW4949]
        (repeat (first
            | (refine DW_seq fun K hK => ?_)
            | (refine DW_r anW4949 Try.mixed (by kernel_rfl) ?_; simp [hnt, Try.ntmps49, Try.results49, anW4949]; try simp (disch := omega) only [wrap64_in])
            | (refine DW_block ?_)
            | (focus (refine DW_if ?_ ?_ ?_; (· (simp [hnt, Try.ntmps49, Try.results49, anW4949]; done)); (try (rotate_left; (· (intro hc; (try simp [hnt, Try.ntmps49, Try.results49, anW4949] at hc); done))))))
            | (refine DW_ret ?_; simp [hnt, Try.ntmps49, Try.results49, anW4949])
            | (refine DW_exit ?_; simp [hnt, Try.ntmps49, Try.results49, anW4949])
            | (refine DW_skip ?_; simp [hnt, Try.ntmps49, Try.results49, anW4949])
            | (intro hc; (try simp [hnt, Try.ntmps49, Try.results49, anW4949] at hc); done)
            | (intro hc; (try simp [hnt, Try.ntmps49, Try.results49, anW4949] at hc); (first | (exfalso; omega) | skip))
            | (refine callP_mk (h1) ?_; try simp [hnt, Try.ntmps49, Try.results49, anW4949])
            | (refine callP_wk (h1) ?_ ?_; (· (simp; done)); try simp [hnt, Try.ntmps49, Try.results49, anW4949])
            | (refine ⟨?_, ?_⟩; · omega)
            | omega
            | apply_assumption -exfalso -symm
            | (exfalso; omega)))
        refine Again.mk ⟨k + 1, by omega, by rw [hs]; intro j hj'; simp at hj'; by_cases hjk : j = (headsTo c.prods nt k).length; (· subst hjk; exact hok); exact hj j (by omega)⟩ (Sub.lit (by simp [hs])) (by simp; omega)
        (repeat (first
            | (refine DW_seq fun K hK => ?_)
            | (refine DW_r anW4949 Try.mixed (by kernel_rfl) ?_; simp [hnt, Try.ntmps49, Try.results49, anW4949]; try simp (disch := omega) only [wrap64_in])
            | (refine DW_block ?_)
            | (focus (refine DW_if ?_ ?_ ?_; (· (simp [hnt, Try.ntmps49, Try.results49, anW4949]; done)); (try (rotate_left; (· (intro hc; (try simp [hnt, Try.ntmps49, Try.results49, anW4949] at hc); done))))))
            | (refine DW_ret ?_; simp [hnt, Try.ntmps49, Try.results49, anW4949])
            | (refine DW_exit ?_; simp [hnt, Try.ntmps49, Try.results49, anW4949])
            | (refine DW_skip ?_; simp [hnt, Try.ntmps49, Try.results49, anW4949])
            | (intro hc; (try simp [hnt, Try.ntmps49, Try.results49, anW4949] at hc); done)
            | (intro hc; (try simp [hnt, Try.ntmps49, Try.results49, anW4949] at hc); (first | (exfalso; omega) | skip))
            | (refine callP_mk (h1) ?_; try simp [hnt, Try.ntmps49, Try.results49, anW4949])
            | (refine callP_wk (h1) ?_ ?_; (· (simp; done)); try simp [hnt, Try.ntmps49, Try.results49, anW4949])
            | (refine ⟨?_, ?_⟩; · omega)
            | omega
            | apply_assumption -exfalso -symm
            | (exfalso; omega)))
    · rw [if_neg hh, List.append_nil] at hs
      have hb : (p.head == nt) = false := by simpa using hh
      (repeat (first
          | (refine DW_seq fun K hK => ?_)
          | (refine DW_r anW4949 Try.mixed (by kernel_rfl) ?_; simp [hnt, Try.ntmps49, Try.results49, anW4949, dCnf, dProd, hlt, hp', hh, hb]; try simp (disch := omega) only [wrap64_in])
          | (refine DW_block ?_)
          | (focus (refine DW_if ?_ ?_ ?_; (· (simp [hnt, Try.ntmps49, Try.results49, anW4949, dCnf, dProd, hlt, hp', hh, hb]; done)); (try (rotate_left; (· (intro hc; (try simp [hnt, Try.ntmps49, Try.results49, anW4949, dCnf, dProd, hlt, hp', hh, hb] at hc); done))))))
          | (refine DW_ret ?_; simp [hnt, Try.ntmps49, Try.results49, anW4949, dCnf, dProd, hlt, hp', hh, hb])
          | (refine DW_exit ?_; simp [hnt, Try.ntmps49, Try.results49, anW4949, dCnf, dProd, hlt, hp', hh, hb])
          | (refine DW_skip ?_; simp [hnt, Try.ntmps49, Try.results49, anW4949, dCnf, dProd, hlt, hp', hh, hb])
          | (intro hc; (try simp [hnt, Try.ntmps49, Try.results49, anW4949, dCnf, dProd, hlt, hp', hh, hb] at hc); done)
          | (intro hc; (try simp [hnt, Try.ntmps49, Try.results49, anW4949, dCnf, dProd, hlt, hp', hh, hb] at hc); (first | (exfalso; omega) | skip))
          | (refine ⟨?_, ?_⟩; · omega)
          | omega
          | apply_assumption -exfalso -symm
          | (exfalso; omega)))
      refine Again.mk ⟨k + 1, by omega, by rw [hs]; exact hj⟩ (Sub.lit (by simp [hs])) (by simp; omega)
      (repeat (first
          | (refine DW_seq fun K hK => ?_)
          | (refine DW_r anW4949 Try.mixed (by kernel_rfl) ?_; simp [hnt, Try.ntmps49, Try.results49, anW4949]; try simp (disch := omega) only [wrap64_in])
          | (refine DW_block ?_)
          | (focus (refine DW_if ?_ ?_ ?_; (· (simp [hnt, Try.ntmps49, Try.results49, anW4949]; done)); (try (rotate_left; (· (intro hc; (try simp [hnt, Try.ntmps49, Try.results49, anW4949] at hc); done))))))
          | (refine DW_ret ?_; simp [hnt, Try.ntmps49, Try.results49, anW4949])
          | (refine DW_exit ?_; simp [hnt, Try.ntmps49, Try.results49, anW4949])
          | (refine DW_skip ?_; simp [hnt, Try.ntmps49, Try.results49, anW4949])
          | (intro hc; (try simp [hnt, Try.ntmps49, Try.results49, anW4949] at hc); done)
          | (intro hc; (try simp [hnt, Try.ntmps49, Try.results49, anW4949] at hc); (first | (exfalso; omega) | skip))
          | (refine ⟨?_, ?_⟩; · omega)
          | omega
          | apply_assumption -exfalso -symm
          | (exfalso; omega)))
  · have hkk : k = c.prods.length := by omega
    subst hkk
    have hst := stopAt_none hj
    (repeat (first
        | (refine DW_seq fun K hK => ?_)
        | (refine DW_r anW4949 Try.mixed (by kernel_rfl) ?_; simp [hnt, Try.ntmps49, Try.results49, anW4949, dCnf, hst]; try simp (disch := omega) only [wrap64_in])
        | (refine DW_block ?_)
        | (focus (refine DW_if ?_ ?_ ?_; (· (simp [hnt, Try.ntmps49, Try.results49, anW4949, dCnf, hst]; done)); (try (rotate_left; (· (intro hc; (try simp [hnt, Try.ntmps49, Try.results49, anW4949, dCnf, hst] at hc); done))))))
        | (refine DW_ret ?_; simp [hnt, Try.ntmps49, Try.results49, anW4949, dCnf, hst])
        | (refine DW_exit ?_; simp [hnt, Try.ntmps49, Try.results49, anW4949, dCnf, hst])
        | (refine DW_skip ?_; simp [hnt, Try.ntmps49, Try.results49, anW4949, dCnf, hst])
        | (intro hc; (try simp [hnt, Try.ntmps49, Try.results49, anW4949, dCnf, hst] at hc); done)
        | (intro hc; (try simp [hnt, Try.ntmps49, Try.results49, anW4949, dCnf, hst] at hc); (first | (exfalso; omega) | skip))
        | (refine ⟨?_, ?_⟩; · omega)
        | omega
        | apply_assumption -exfalso -symm
        | (exfalso; omega)))
end Go.Proofs.Ytihkcegelghcpaa
