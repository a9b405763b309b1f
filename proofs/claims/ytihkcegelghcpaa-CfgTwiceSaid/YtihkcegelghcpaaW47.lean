/- A part of a proof: walks over the functions that it names; their contracts hold for every argument. -/
import Derived.Test.YtihkcegelghcpaaW44
set_option linter.unusedSimpArgs false
set_option linter.unusedVariables false
namespace Go.Proofs.Ytihkcegelghcpaa
open Go Go.Dm
attribute [local irreducible] DW callP callS
def anW4747 : Ann := ⟨[], [⟨4, [7], [], []⟩]⟩
set_option maxRecDepth 100000 in
/-- with, where what is done to each body leaves it -/
theorem with_same (g : FuncId) (hdo : ∀ l : List Sym, DPure Try.prog g [dSyms l] (.tup [])) (c : Cnf) : DPure Try.prog 47 [.agg (dCnf c), .fn (.func g) [] []] (.agg (dCnf c)) := by
  refine DPure_introF [32] (fn := Try.f47) Try.func47 rfl Try.call47 (by simp [Try.ntmps47]) (by simp [mx]) ?_
  intro hwf B hnt
  have hw : wCnf c := w_cnf (by simpa [wfL, wfD] using hwf.1)
  obtain ⟨hw1, hw2, hw3, hw4⟩ := hw
  clear hwf
  simp only [argS]
  (repeat (first
      | (refine DW_seq fun K hK => ?_)
      | (refine DW_r anW4747 Try.mixed (by kernel_rfl) ?_; simp [hnt, Try.ntmps47, Try.results47, anW4747, dCnf]; try simp (disch := omega) only [wrap64_in])
      | (refine DW_block ?_)
      | (focus (refine DW_if ?_ ?_ ?_; (· (simp [hnt, Try.ntmps47, Try.results47, anW4747, dCnf]; done)); (try (rotate_left; (· (intro hc; (try simp [hnt, Try.ntmps47, Try.results47, anW4747, dCnf] at hc); done))))))
      | (refine DW_ret ?_; simp [hnt, Try.ntmps47, Try.results47, anW4747, dCnf])
      | (refine DW_exit ?_; simp [hnt, Try.ntmps47, Try.results47, anW4747, dCnf])
      | (refine DW_skip ?_; simp [hnt, Try.ntmps47, Try.results47, anW4747, dCnf])
      | (intro hc; (try simp [hnt, Try.ntmps47, Try.results47, anW4747, dCnf] at hc); done)
      | (intro hc; (try simp [hnt, Try.ntmps47, Try.results47, anW4747, dCnf] at hc); (first | (exfalso; omega) | skip))
      | (refine ⟨?_, ?_⟩; · omega)
      | omega
      | apply_assumption -exfalso -symm
      | (exfalso; omega)))
  refine DW_adoptC 5 1 32 33 2 32 (by simp) (fun n => ?_)
  refine DW_loop (X := {k : Nat // k ≤ c.prods.length}) (fun k => ⟨[(1, .fn (.func g) [] []), (4, .bx 4 1 0), (5, .bx 5 1 0), (13, dProds c.prods), (14, .int .i64 c.prods.length), (15, .int .i64 k.1)], [⟨4, 1, .box [.int .i64 0, .nilsl]⟩, ⟨5, 1, .box [.int .i64 c.nts, .osl 32 1]⟩, ⟨32, 1, .row 33 2 32 ((c.prods.take k.1).map dProd)⟩]⟩) (fun k => c.prods.length - k.1) ⟨0, by simp⟩ (Sub.lit (by simp)) ?_
  rintro ⟨k, hk⟩
  by_cases hlt : k < c.prods.length
  · obtain ⟨p, hp, hp', hpm⟩ := at_lt' hlt
    obtain ⟨hw5, hw6, hw7, hw8⟩ := hw4 p hpm
    have htk : (c.prods.map dProd).take (k + 1) = (c.prods.map dProd).take k ++ [dProd p] := by rw [List.take_add_one, List.getElem?_map, hp]; rfl
    have h1 := clone_pure p.body
    have h2 := hdo p.body
    (repeat (first
        | (refine DW_seq fun K hK => ?_)
        | (refine DW_r anW4747 Try.mixed (by kernel_rfl) ?_; simp [hnt, Try.ntmps47, Try.results47, anW4747, dCnf, dProd, hlt, hp']; try simp (disch := omega) only [wrap64_in])
        | (refine DW_block ?_)
        | (focus (refine DW_if ?_ ?_ ?_; (· (simp [hnt, Try.ntmps47, Try.results47, anW4747, dCnf, dProd, hlt, hp']; done)); (try (rotate_left; (· (intro hc; (try simp [hnt, Try.ntmps47, Try.results47, anW4747, dCnf, dProd, hlt, hp'] at hc); done))))))
        | (refine DW_ret ?_; simp [hnt, Try.ntmps47, Try.results47, anW4747, dCnf, dProd, hlt, hp'])
        | (refine DW_exit ?_; simp [hnt, Try.ntmps47, Try.results47, anW4747, dCnf, dProd, hlt, hp'])
        | (refine DW_skip ?_; simp [hnt, Try.ntmps47, Try.results47, anW4747, dCnf, dProd, hlt, hp'])
        | (intro hc; (try simp [hnt, Try.ntmps47, Try.results47, anW4747, dCnf, dProd, hlt, hp'] at hc); done)
        | (intro hc; (try simp [hnt, Try.ntmps47, Try.results47, anW4747, dCnf, dProd, hlt, hp'] at hc); (first | (exfalso; omega) | skip))
        | (refine callP_mk (h1) ?_; try simp [hnt, Try.ntmps47, Try.results47, anW4747, dCnf, dProd, hlt, hp'])
        | (refine callP_wk (h1) ?_ ?_; (· (simp; done)); try simp [hnt, Try.ntmps47, Try.results47, anW4747, dCnf, dProd, hlt, hp'])
        | (refine callP_mk (h2) ?_; try simp [hnt, Try.ntmps47, Try.results47, anW4747, dCnf, dProd, hlt, hp'])
        | (refine callP_wk (h2) ?_ ?_; (· (simp; done)); try simp [hnt, Try.ntmps47, Try.results47, anW4747, dCnf, dProd, hlt, hp'])
        | (refine ⟨?_, ?_⟩; · omega)
        | omega
        | apply_assumption -exfalso -symm
        | (exfalso; omega)))
    refine Again.mk ⟨k + 1, by omega⟩ (Sub.lit ?_) (by simp; omega)
    · simp [htk, dProd]
    (repeat (first
        | (refine DW_seq fun K hK => ?_)
        | (refine DW_r anW4747 Try.mixed (by kernel_rfl) ?_; simp [hnt, Try.ntmps47, Try.results47, anW4747]; try simp (disch := omega) only [wrap64_in])
        | (refine DW_block ?_)
        | (focus (refine DW_if ?_ ?_ ?_; (· (simp [hnt, Try.ntmps47, Try.results47, anW4747]; done)); (try (rotate_left; (· (intro hc; (try simp [hnt, Try.ntmps47, Try.results47, anW4747] at hc); done))))))
        | (refine DW_ret ?_; simp [hnt, Try.ntmps47, Try.results47, anW4747])
        | (refine DW_exit ?_; simp [hnt, Try.ntmps47, Try.results47, anW4747])
        | (refine DW_skip ?_; simp [hnt, Try.ntmps47, Try.results47, anW4747])
        | (intro hc; (try simp [hnt, Try.ntmps47, Try.results47, anW4747] at hc); done)
        | (intro hc; (try simp [hnt, Try.ntmps47, Try.results47, anW4747] at hc); (first | (exfalso; omega) | skip))
        | (refine callP_mk (h1) ?_; try simp [hnt, Try.ntmps47, Try.results47, anW4747])
        | (refine callP_wk (h1) ?_ ?_; (· (simp; done)); try simp [hnt, Try.ntmps47, Try.results47, anW4747])
        | (refine callP_mk (h2) ?_; try simp [hnt, Try.ntmps47, Try.results47, anW4747])
        | (refine callP_wk (h2) ?_ ?_; (· (simp; done)); try simp [hnt, Try.ntmps47, Try.results47, anW4747])
        | (refine ⟨?_, ?_⟩; · omega)
        | omega
        | apply_assumption -exfalso -symm
        | (exfalso; omega)))
  · have hkk : k = c.prods.length := by omega
    subst hkk
    (repeat (first
        | (refine DW_seq fun K hK => ?_)
        | (refine DW_r anW4747 Try.mixed (by kernel_rfl) ?_; simp [hnt, Try.ntmps47, Try.results47, anW4747, dCnf]; try simp (disch := omega) only [wrap64_in])
        | (refine DW_block ?_)
        | (focus (refine DW_if ?_ ?_ ?_; (· (simp [hnt, Try.ntmps47, Try.results47, anW4747, dCnf]; done)); (try (rotate_left; (· (intro hc; (try simp [hnt, Try.ntmps47, Try.results47, anW4747, dCnf] at hc); done))))))
        | (refine DW_ret ?_; simp [hnt, Try.ntmps47, Try.results47, anW4747, dCnf])
        | (refine DW_exit ?_; simp [hnt, Try.ntmps47, Try.results47, anW4747, dCnf])
        | (refine DW_skip ?_; simp [hnt, Try.ntmps47, Try.results47, anW4747, dCnf])
        | (intro hc; (try simp [hnt, Try.ntmps47, Try.results47, anW4747, dCnf] at hc); done)
        | (intro hc; (try simp [hnt, Try.ntmps47, Try.results47, anW4747, dCnf] at hc); (first | (exfalso; omega) | skip))
        | (refine ⟨?_, ?_⟩; · omega)
        | omega
        | apply_assumption -exfalso -symm
        | (exfalso; omega)))
def anW4748 : Ann := ⟨[], []⟩
set_option maxRecDepth 100000 in
theorem heads1_pure (l : List Sym) : DPure Try.prog 48 [dSyms l] (.tup []) := by
  refine DPure_introF [] (fn := Try.f48) Try.func48 rfl Try.call48 (by simp [Try.ntmps48]) (by simp [mx]) ?_
  intro hwf B hnt
  simp only [argS]
  (repeat (first
      | (refine DW_seq fun K hK => ?_)
      | (refine DW_r anW4748 Try.mixed (by kernel_rfl) ?_; simp [hnt, Try.ntmps48, Try.results48, anW4748]; try simp (disch := omega) only [wrap64_in])
      | (refine DW_block ?_)
      | (focus (refine DW_if ?_ ?_ ?_; (· (simp [hnt, Try.ntmps48, Try.results48, anW4748]; done)); (try (rotate_left; (· (intro hc; (try simp [hnt, Try.ntmps48, Try.results48, anW4748] at hc); done))))))
      | (refine DW_ret ?_; simp [hnt, Try.ntmps48, Try.results48, anW4748])
      | (refine DW_exit ?_; simp [hnt, Try.ntmps48, Try.results48, anW4748])
      | (refine DW_skip ?_; simp [hnt, Try.ntmps48, Try.results48, anW4748])
      | (intro hc; (try simp [hnt, Try.ntmps48, Try.results48, anW4748] at hc); done)
      | (intro hc; (try simp [hnt, Try.ntmps48, Try.results48, anW4748] at hc); (first | (exfalso; omega) | skip))
      | (refine ⟨?_, ?_⟩; · omega)
      | omega
      | apply_assumption -exfalso -symm
      | (exfalso; omega)))
def anW4720 : Ann := ⟨[2], []⟩
set_option maxRecDepth 100000 in
theorem heads_pure (c : Cnf) (nt : Int) : DPure Try.prog 20 [.agg (dCnf c), .int .i64 nt] (.fn (.func 49) [] [.ref (dCnf c), .ref [.int .i64 nt]]) := by
  refine DPure_introF [2] (fn := Try.f20) Try.func20 rfl Try.call20 (by simp [Try.ntmps20]) (by simp [mx]) ?_
  intro hwf B hnt
  simp only [argS]
  have h1 := with_same _ heads1_pure c
  (repeat (first
      | (refine DW_seq fun K hK => ?_)
      | (refine DW_r anW4720 Try.mixed (by kernel_rfl) ?_; simp [hnt, Try.ntmps20, Try.results20, anW4720, dCnf]; try simp (disch := omega) only [wrap64_in])
      | (refine DW_block ?_)
      | (focus (refine DW_if ?_ ?_ ?_; (· (simp [hnt, Try.ntmps20, Try.results20, anW4720, dCnf]; done)); (try (rotate_left; (· (intro hc; (try simp [hnt, Try.ntmps20, Try.results20, anW4720, dCnf] at hc); done))))))
      | (refine DW_ret ?_; simp [hnt, Try.ntmps20, Try.results20, anW4720, dCnf])
      | (refine DW_exit ?_; simp [hnt, Try.ntmps20, Try.results20, anW4720, dCnf])
      | (refine DW_skip ?_; simp [hnt, Try.ntmps20, Try.results20, anW4720, dCnf])
      | (intro hc; (try simp [hnt, Try.ntmps20, Try.results20, anW4720, dCnf] at hc); done)
      | (intro hc; (try simp [hnt, Try.ntmps20, Try.results20, anW4720, dCnf] at hc); (first | (exfalso; omega) | skip))
      | (refine callP_mk (h1) ?_; try simp [hnt, Try.ntmps20, Try.results20, anW4720, dCnf])
      | (refine callP_wk (h1) ?_ ?_; (· (simp; done)); try simp [hnt, Try.ntmps20, Try.results20, anW4720, dCnf])
      | (refine ⟨?_, ?_⟩; · omega)
      | omega
      | apply_assumption -exfalso -symm
      | (exfalso; omega)))
end Go.Proofs.Ytihkcegelghcpaa
