/- A part of a proof: walks over the functions that it names; their contracts hold for every argument. -/
import Derived.Test.YtihkcegelghcpaaW57
import Derived.Test.YtihkcegelghcpaaW25
set_option linter.unusedSimpArgs false
set_option linter.unusedVariables false
namespace Go.Proofs.Ytihkcegelghcpaa
open Go Go.Dm
attribute [local irreducible] DW callP callS
set_option maxRecDepth 100000

theorem DPure_spec {P : Program} {f : FuncId} {args : List DVal} {d : DVal} (h : DPure P f args d) : DSpec P (.func f) args [] d [] := by
  refine ⟨by simp, h.1, fun M w loc vs S hr => ⟨h.1, (h.2.2 _ _ _ _ S.lt hr).mono ?_⟩⟩
  rintro e w' ⟨v, rfl, hu, hv⟩
  refine ⟨v, rfl, loc, ⟨by simp, by simp [hotOf], by simp [hotOf], fun b hb => Nat.lt_of_lt_of_le (S.lt b hb) hu.size, by simp⟩, hu, by simp [hotOf], by simp, hv⟩

def anW2644 : Ann := ⟨[5], []⟩
theorem clone_own (s : Sym) (l : List Sym) : DSpec Try.prog (.func 44) [dSyms (s :: l)] [] (.osl 0 1) [⟨0, 1, .row 75 2 16 ((s :: l).map dSym)⟩] := by
  refine DSpec_intro [] [(5, 0, 1)] (fn := Try.f44) Try.func44 rfl Try.call44 (by simp [Try.ntmps44]) (by simp) (by simp) ?_
  intro hwf B hnt
  have hw : wSyms (s :: l) := w_syms hwf.1
  obtain ⟨hw1, hw2, hw3⟩ := hw
  clear hwf
  simp at hw1 hw2
  clear hw3
  simp only [argS, List.nil_append, dSyms, List.map_cons]
  (repeat (first
      | (refine DW_seq fun K hK => ?_)
      | (refine DW_r anW2644 Try.mixed (by kernel_rfl) ?_; simp [hnt, Try.ntmps44, Try.results44, anW2644]; try simp (disch := omega) only [wrap64_in])
      | (refine DW_block ?_)
      | (focus (refine DW_if ?_ ?_ ?_; (· (simp [hnt, Try.ntmps44, Try.results44, anW2644]; done)); (try (rotate_left; (· (intro hc; (try simp [hnt, Try.ntmps44, Try.results44, anW2644] at hc); done))))))
      | (refine DW_ret ?_; simp [hnt, Try.ntmps44, Try.results44, anW2644])
      | (refine DW_exit ?_; simp [hnt, Try.ntmps44, Try.results44, anW2644])
      | (refine DW_skip ?_; simp [hnt, Try.ntmps44, Try.results44, anW2644])
      | (intro hc; (try simp [hnt, Try.ntmps44, Try.results44, anW2644] at hc); done)
      | (intro hc; (try simp [hnt, Try.ntmps44, Try.results44, anW2644] at hc); (first | (exfalso; omega) | skip))
      | (refine ⟨?_, ?_⟩; · omega)
      | omega
      | apply_assumption -exfalso -symm
      | (exfalso; omega)))

theorem clone_own' {l : List Sym} (h : l ≠ []) : DSpec Try.prog (.func 44) [dSyms l] [] (.osl 0 1) [⟨0, 1, .row 75 2 16 (l.map dSym)⟩] := by
  cases l with
  | nil => exact absurd rfl h
  | cons s l => exact clone_own s l

@[local simp] theorem mx_rev (l : List Sym) : mxR (l.map dSym).reverse = 0 := by rw [← List.map_reverse]; exact mx_dSyms _
def turnC (c : Cnf) : Cnf := ⟨c.nts, c.prods.map fun p => ⟨p.head, p.body.reverse⟩⟩

def anW2647 : Ann := ⟨[21, 24], [⟨4, [7], [], []⟩, ⟨6, [50], [], []⟩]⟩
set_option maxHeartbeats 1000000 in
/-- with, where each body is turned about -/
theorem with_rev (c : Cnf) : DPure Try.prog 47 [.agg (dCnf c), .fn (.func 57) [] []] (.agg (dCnf (turnC c))) := by
  refine DPure_introF [32] (fn := Try.f47) Try.func47 rfl Try.call47 (by simp [Try.ntmps47]) (by simp [mx]) ?_
  intro hwf B hnt
  have hw : wCnf c := w_cnf (by simpa [wfL, wfD] using hwf.1)
  obtain ⟨hw1, hw2, hw3, hw4⟩ := hw
  clear hwf
  simp only [argS]
  (repeat (first
      | (refine DW_seq fun K hK => ?_)
      | (refine DW_r anW2647 Try.mixed (by kernel_rfl) ?_; simp [hnt, Try.ntmps47, Try.results47, anW2647, dCnf]; try simp (disch := omega) only [wrap64_in])
      | (refine DW_block ?_)
      | (focus (refine DW_if ?_ ?_ ?_; (· (simp [hnt, Try.ntmps47, Try.results47, anW2647, dCnf]; done)); (try (rotate_left; (· (intro hc; (try simp [hnt, Try.ntmps47, Try.results47, anW2647, dCnf] at hc); done))))))
      | (refine DW_ret ?_; simp [hnt, Try.ntmps47, Try.results47, anW2647, dCnf])
      | (refine DW_exit ?_; simp [hnt, Try.ntmps47, Try.results47, anW2647, dCnf])
      | (refine DW_skip ?_; simp [hnt, Try.ntmps47, Try.results47, anW2647, dCnf])
      | (intro hc; (try simp [hnt, Try.ntmps47, Try.results47, anW2647, dCnf] at hc); done)
      | (intro hc; (try simp [hnt, Try.ntmps47, Try.results47, anW2647, dCnf] at hc); (first | (exfalso; omega) | skip))
      | (refine ⟨?_, ?_⟩; · omega)
      | omega
      | apply_assumption -exfalso -symm
      | (exfalso; omega)))
  refine DW_adoptC 5 1 32 33 2 32 (by simp) (fun n => ?_)
  refine DW_loop (X := {k : Nat // k ≤ c.prods.length}) (fun k => ⟨[(1, .fn (.func 57) [] []), (4, .bx 4 1 0), (5, .bx 5 1 0), (13, dProds c.prods), (14, .int .i64 c.prods.length), (15, .int .i64 k.1)], [⟨4, 1, .box [.int .i64 0, .nilsl]⟩, ⟨5, 1, .box [.int .i64 c.nts, .osl 32 1]⟩, ⟨32, 1, .row 33 2 32 (((turnC c).prods.take k.1).map dProd)⟩]⟩) (fun k => c.prods.length - k.1) ⟨0, by simp⟩ (Sub.lit (by simp)) ?_
  rintro ⟨k, hk⟩
  by_cases hlt : k < c.prods.length
  · obtain ⟨p, hp, hp', hpm⟩ := at_lt' hlt
    obtain ⟨hw5, hw6, hw7, hw8⟩ := hw4 p hpm
    have htk : ((turnC c).prods.map dProd).take (k + 1) = ((turnC c).prods.map dProd).take k ++ [dProd ⟨p.head, p.body.reverse⟩] := by rw [List.take_add_one, List.getElem?_map]; simp only [turnC]; rw [List.getElem?_map, hp]; rfl
    by_cases hb : p.body = []
    · have h1 := DPure_spec (clone_pure [])
      have h2 := DPure_spec rev_nil
      rw [hb] at htk
      (repeat (first
          | (refine DW_seq fun K hK => ?_)
          | (refine DW_r anW2647 Try.mixed (by kernel_rfl) ?_; simp [hnt, Try.ntmps47, Try.results47, anW2647, dCnf, dProd, hlt, hp', hb]; try simp (disch := omega) only [wrap64_in])
          | (refine DW_block ?_)
          | (focus (refine DW_if ?_ ?_ ?_; (· (simp [hnt, Try.ntmps47, Try.results47, anW2647, dCnf, dProd, hlt, hp', hb]; done)); (try (rotate_left; (· (intro hc; (try simp [hnt, Try.ntmps47, Try.results47, anW2647, dCnf, dProd, hlt, hp', hb] at hc); done))))))
          | (refine DW_ret ?_; simp [hnt, Try.ntmps47, Try.results47, anW2647, dCnf, dProd, hlt, hp', hb])
          | (refine DW_exit ?_; simp [hnt, Try.ntmps47, Try.results47, anW2647, dCnf, dProd, hlt, hp', hb])
          | (refine DW_skip ?_; simp [hnt, Try.ntmps47, Try.results47, anW2647, dCnf, dProd, hlt, hp', hb])
          | (intro hc; (try simp [hnt, Try.ntmps47, Try.results47, anW2647, dCnf, dProd, hlt, hp', hb] at hc); done)
          | (intro hc; (try simp [hnt, Try.ntmps47, Try.results47, anW2647, dCnf, dProd, hlt, hp', hb] at hc); (first | (exfalso; omega) | skip))
          | (refine callS_mk [] [] (h1) ?_ ?_; (· (simp [hnt, Try.ntmps47, Try.results47, anW2647, dCnf, dProd, hlt, hp', hb]; done)); (intro _; try simp [hnt, Try.ntmps47, Try.results47, anW2647, dCnf, dProd, hlt, hp', hb]))
          | (refine callS_mk [] [] (h2) ?_ ?_; (· (simp [hnt, Try.ntmps47, Try.results47, anW2647, dCnf, dProd, hlt, hp', hb]; done)); (intro _; try simp [hnt, Try.ntmps47, Try.results47, anW2647, dCnf, dProd, hlt, hp', hb]))
          | (refine ⟨?_, ?_⟩; · omega)
          | omega
          | apply_assumption -exfalso -symm
          | (exfalso; omega)))
      refine Again.mk ⟨k + 1, by omega⟩ (Sub.lit (by simp [htk, dProd])) (by simp; omega)
    · have h1 := clone_own' hb
      have h2 := rev_spec p.body
      (repeat (first
          | (refine DW_seq fun K hK => ?_)
          | (refine DW_r anW2647 Try.mixed (by kernel_rfl) ?_; simp [hnt, Try.ntmps47, Try.results47, anW2647, dCnf, dProd, hlt, hp']; try simp (disch := omega) only [wrap64_in])
          | (refine DW_block ?_)
          | (focus (refine DW_if ?_ ?_ ?_; (· (simp [hnt, Try.ntmps47, Try.results47, anW2647, dCnf, dProd, hlt, hp']; done)); (try (rotate_left; (· (intro hc; (try simp [hnt, Try.ntmps47, Try.results47, anW2647, dCnf, dProd, hlt, hp'] at hc); done))))))
          | (refine DW_ret ?_; simp [hnt, Try.ntmps47, Try.results47, anW2647, dCnf, dProd, hlt, hp'])
          | (refine DW_exit ?_; simp [hnt, Try.ntmps47, Try.results47, anW2647, dCnf, dProd, hlt, hp'])
          | (refine DW_skip ?_; simp [hnt, Try.ntmps47, Try.results47, anW2647, dCnf, dProd, hlt, hp'])
          | (intro hc; (try simp [hnt, Try.ntmps47, Try.results47, anW2647, dCnf, dProd, hlt, hp'] at hc); done)
          | (intro hc; (try simp [hnt, Try.ntmps47, Try.results47, anW2647, dCnf, dProd, hlt, hp'] at hc); (first | (exfalso; omega) | skip))
          | (refine callS_mk [] [(50,0)] (h1) ?_ ?_; (· (simp [hnt, Try.ntmps47, Try.results47, anW2647, dCnf, dProd, hlt, hp']; done)); (intro _; try simp [hnt, Try.ntmps47, Try.results47, anW2647, dCnf, dProd, hlt, hp']))
          | (refine callS_mk [(50,0)] [] (h2) ?_ ?_; (· (simp [hnt, Try.ntmps47, Try.results47, anW2647, dCnf, dProd, hlt, hp']; done)); (intro _; try simp [hnt, Try.ntmps47, Try.results47, anW2647, dCnf, dProd, hlt, hp']))
          | (refine ⟨?_, ?_⟩; · omega)
          | omega
          | apply_assumption -exfalso -symm
          | (exfalso; omega)))
      refine Again.mk ⟨k + 1, by omega⟩ (Sub.lit (by simp [htk, dProd])) (by simp; omega)
  · have hkk : k = c.prods.length := by omega
    subst hkk
    (repeat (first
        | (refine DW_seq fun K hK => ?_)
        | (refine DW_r anW2647 Try.mixed (by kernel_rfl) ?_; simp [hnt, Try.ntmps47, Try.results47, anW2647, dCnf]; try simp (disch := omega) only [wrap64_in])
        | (refine DW_block ?_)
        | (focus (refine DW_if ?_ ?_ ?_; (· (simp [hnt, Try.ntmps47, Try.results47, anW2647, dCnf]; done)); (try (rotate_left; (· (intro hc; (try simp [hnt, Try.ntmps47, Try.results47, anW2647, dCnf] at hc); done))))))
        | (refine DW_ret ?_; simp [hnt, Try.ntmps47, Try.results47, anW2647, dCnf])
        | (refine DW_exit ?_; simp [hnt, Try.ntmps47, Try.results47, anW2647, dCnf])
        | (refine DW_skip ?_; simp [hnt, Try.ntmps47, Try.results47, anW2647, dCnf])
        | (intro hc; (try simp [hnt, Try.ntmps47, Try.results47, anW2647, dCnf] at hc); done)
        | (intro hc; (try simp [hnt, Try.ntmps47, Try.results47, anW2647, dCnf] at hc); (first | (exfalso; omega) | skip))
        | (refine ⟨?_, ?_⟩; · omega)
        | omega
        | apply_assumption -exfalso -symm
        | (exfalso; omega)))
    simp only [turnC, List.map_map]
    exact ⟨trivial, List.take_of_length_le (by simp)⟩

def anW2626 : Ann := ⟨[], []⟩
theorem fsort_pure (c : Cnf) : DPure Try.prog 26 [.agg (dCnf c)] (if cnfOK c then .tup [.agg (dCnf (normC c)), .int .i64 0] else .tup [.agg [.int .i64 0, .nilsl], .int .i64 220]) := by
  refine DPure_introF [] (fn := Try.f26) Try.func26 rfl Try.call26 (by simp [Try.ntmps26]) (by cases cnfOK c <;> simp [mx, dCnf]) ?_
  intro hwf B hnt
  simp only [argS]
  have h1 := check_pure c
  have h2 := sorted_pure c
  cases hb : cnfOK c
  · rw [hb] at h1
    (repeat (first
        | (refine DW_seq fun K hK => ?_)
        | (refine DW_r anW2626 Try.mixed (by kernel_rfl) ?_; simp [hnt, Try.ntmps26, Try.results26, anW2626, dCnf]; try simp (disch := omega) only [wrap64_in])
        | (refine DW_block ?_)
        | (focus (refine DW_if ?_ ?_ ?_; (· (simp [hnt, Try.ntmps26, Try.results26, anW2626, dCnf]; done)); (try (rotate_left; (· (intro hc; (try simp [hnt, Try.ntmps26, Try.results26, anW2626, dCnf] at hc); done))))))
        | (refine DW_ret ?_; simp [hnt, Try.ntmps26, Try.results26, anW2626, dCnf])
        | (refine DW_exit ?_; simp [hnt, Try.ntmps26, Try.results26, anW2626, dCnf])
        | (refine DW_skip ?_; simp [hnt, Try.ntmps26, Try.results26, anW2626, dCnf])
        | (intro hc; (try simp [hnt, Try.ntmps26, Try.results26, anW2626, dCnf] at hc); done)
        | (intro hc; (try simp [hnt, Try.ntmps26, Try.results26, anW2626, dCnf] at hc); (first | (exfalso; omega) | skip))
        | (refine callP_mk (h1) ?_; try simp [hnt, Try.ntmps26, Try.results26, anW2626, dCnf])
        | (refine callP_wk (h1) ?_ ?_; (· (simp; done)); try simp [hnt, Try.ntmps26, Try.results26, anW2626, dCnf])
        | (refine callP_mk (h2) ?_; try simp [hnt, Try.ntmps26, Try.results26, anW2626, dCnf])
        | (refine callP_wk (h2) ?_ ?_; (· (simp; done)); try simp [hnt, Try.ntmps26, Try.results26, anW2626, dCnf])
        | (refine ⟨?_, ?_⟩; · omega)
        | omega
        | apply_assumption -exfalso -symm
        | (exfalso; omega)))
  · rw [hb] at h1
    (repeat (first
        | (refine DW_seq fun K hK => ?_)
        | (refine DW_r anW2626 Try.mixed (by kernel_rfl) ?_; simp [hnt, Try.ntmps26, Try.results26, anW2626, dCnf]; try simp (disch := omega) only [wrap64_in])
        | (refine DW_block ?_)
        | (focus (refine DW_if ?_ ?_ ?_; (· (simp [hnt, Try.ntmps26, Try.results26, anW2626, dCnf]; done)); (try (rotate_left; (· (intro hc; (try simp [hnt, Try.ntmps26, Try.results26, anW2626, dCnf] at hc); done))))))
        | (refine DW_ret ?_; simp [hnt, Try.ntmps26, Try.results26, anW2626, dCnf])
        | (refine DW_exit ?_; simp [hnt, Try.ntmps26, Try.results26, anW2626, dCnf])
        | (refine DW_skip ?_; simp [hnt, Try.ntmps26, Try.results26, anW2626, dCnf])
        | (intro hc; (try simp [hnt, Try.ntmps26, Try.results26, anW2626, dCnf] at hc); done)
        | (intro hc; (try simp [hnt, Try.ntmps26, Try.results26, anW2626, dCnf] at hc); (first | (exfalso; omega) | skip))
        | (refine callP_mk (h1) ?_; try simp [hnt, Try.ntmps26, Try.results26, anW2626, dCnf])
        | (refine callP_wk (h1) ?_ ?_; (· (simp; done)); try simp [hnt, Try.ntmps26, Try.results26, anW2626, dCnf])
        | (refine callP_mk (h2) ?_; try simp [hnt, Try.ntmps26, Try.results26, anW2626, dCnf])
        | (refine callP_wk (h2) ?_ ?_; (· (simp; done)); try simp [hnt, Try.ntmps26, Try.results26, anW2626, dCnf])
        | (refine ⟨?_, ?_⟩; · omega)
        | omega
        | apply_assumption -exfalso -symm
        | (exfalso; omega)))

def anW2627 : Ann := ⟨[], []⟩
theorem fturn_pure (c : Cnf) : DPure Try.prog 27 [.agg (dCnf c)] (if cnfOK c then .tup [.agg (dCnf (turnC c)), .int .i64 0] else .tup [.agg [.int .i64 0, .nilsl], .int .i64 220]) := by
  refine DPure_introF [] (fn := Try.f27) Try.func27 rfl Try.call27 (by simp [Try.ntmps27]) (by cases cnfOK c <;> simp [mx, dCnf]) ?_
  intro hwf B hnt
  simp only [argS]
  have h1 := check_pure c
  have h2 := with_rev c
  cases hb : cnfOK c
  · rw [hb] at h1
    (repeat (first
        | (refine DW_seq fun K hK => ?_)
        | (refine DW_r anW2627 Try.mixed (by kernel_rfl) ?_; simp [hnt, Try.ntmps27, Try.results27, anW2627, dCnf]; try simp (disch := omega) only [wrap64_in])
        | (refine DW_block ?_)
        | (focus (refine DW_if ?_ ?_ ?_; (· (simp [hnt, Try.ntmps27, Try.results27, anW2627, dCnf]; done)); (try (rotate_left; (· (intro hc; (try simp [hnt, Try.ntmps27, Try.results27, anW2627, dCnf] at hc); done))))))
        | (refine DW_ret ?_; simp [hnt, Try.ntmps27, Try.results27, anW2627, dCnf])
        | (refine DW_exit ?_; simp [hnt, Try.ntmps27, Try.results27, anW2627, dCnf])
        | (refine DW_skip ?_; simp [hnt, Try.ntmps27, Try.results27, anW2627, dCnf])
        | (intro hc; (try simp [hnt, Try.ntmps27, Try.results27, anW2627, dCnf] at hc); done)
        | (intro hc; (try simp [hnt, Try.ntmps27, Try.results27, anW2627, dCnf] at hc); (first | (exfalso; omega) | skip))
        | (refine callP_mk (h1) ?_; try simp [hnt, Try.ntmps27, Try.results27, anW2627, dCnf])
        | (refine callP_wk (h1) ?_ ?_; (· (simp; done)); try simp [hnt, Try.ntmps27, Try.results27, anW2627, dCnf])
        | (refine callP_mk (h2) ?_; try simp [hnt, Try.ntmps27, Try.results27, anW2627, dCnf])
        | (refine callP_wk (h2) ?_ ?_; (· (simp; done)); try simp [hnt, Try.ntmps27, Try.results27, anW2627, dCnf])
        | (refine ⟨?_, ?_⟩; · omega)
        | omega
        | apply_assumption -exfalso -symm
        | (exfalso; omega)))
  · rw [hb] at h1
    (repeat (first
        | (refine DW_seq fun K hK => ?_)
        | (refine DW_r anW2627 Try.mixed (by kernel_rfl) ?_; simp [hnt, Try.ntmps27, Try.results27, anW2627, dCnf]; try simp (disch := omega) only [wrap64_in])
        | (refine DW_block ?_)
        | (focus (refine DW_if ?_ ?_ ?_; (· (simp [hnt, Try.ntmps27, Try.results27, anW2627, dCnf]; done)); (try (rotate_left; (· (intro hc; (try simp [hnt, Try.ntmps27, Try.results27, anW2627, dCnf] at hc); done))))))
        | (refine DW_ret ?_; simp [hnt, Try.ntmps27, Try.results27, anW2627, dCnf])
        | (refine DW_exit ?_; simp [hnt, Try.ntmps27, Try.results27, anW2627, dCnf])
        | (refine DW_skip ?_; simp [hnt, Try.ntmps27, Try.results27, anW2627, dCnf])
        | (intro hc; (try simp [hnt, Try.ntmps27, Try.results27, anW2627, dCnf] at hc); done)
        | (intro hc; (try simp [hnt, Try.ntmps27, Try.results27, anW2627, dCnf] at hc); (first | (exfalso; omega) | skip))
        | (refine callP_mk (h1) ?_; try simp [hnt, Try.ntmps27, Try.results27, anW2627, dCnf])
        | (refine callP_wk (h1) ?_ ?_; (· (simp; done)); try simp [hnt, Try.ntmps27, Try.results27, anW2627, dCnf])
        | (refine callP_mk (h2) ?_; try simp [hnt, Try.ntmps27, Try.results27, anW2627, dCnf])
        | (refine callP_wk (h2) ?_ ?_; (· (simp; done)); try simp [hnt, Try.ntmps27, Try.results27, anW2627, dCnf])
        | (refine ⟨?_, ?_⟩; · omega)
        | omega
        | apply_assumption -exfalso -symm
        | (exfalso; omega)))
end Go.Proofs.Ytihkcegelghcpaa
