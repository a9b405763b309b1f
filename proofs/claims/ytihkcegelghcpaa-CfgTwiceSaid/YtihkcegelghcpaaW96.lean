/- A part of a proof: walks over the functions that it names; their contracts hold for every argument. -/
import Derived.Test.YtihkcegelghcpaaWO
import Derived.Test.YtihkcegelghcpaaW98
import Derived.Test.YtihkcegelghcpaaW47
import Derived.Test.YtihkcegelghcpaaEnY
import Derived.Test.YtihkcegelghcpaaLays
set_option linter.unusedSimpArgs false
set_option linter.unusedVariables false
namespace Go.Proofs.Ytihkcegelghcpaa
open Go Go.Dm
attribute [local irreducible] DW callP callS
set_option maxRecDepth 100000

theorem sortProd_spec (l : List Prod) : DSpec Try.prog (.func 96) [.osl 0 0, .fn (.func 97) [] []] [⟨0, 0, .row 33 2 32 (l.map dProd)⟩] (.tup []) [⟨0, 0, .row 33 2 32 ((sortC prodC l).map dProd)⟩] := by
  have hmem : ∀ x ∈ l.map dProd, ∃ p ∈ l, x = dProd p := fun x hx => by
    obtain ⟨p, hp, rfl⟩ := List.mem_map.1 hx
    exact ⟨p, hp, rfl⟩
  refine sort_spec (cf := fun x y => prodC (unProd x) (unProd y)) Try.sortProd (by rfl) Try.call96 (by kernel_rfl) (by kernel_rfl) (by decide) rfl ?_ Try.call97 ?_ ?_ ?_ ?_ ?_
  · intro x hx
    obtain ⟨p, _, rfl⟩ := hmem x hx
    simp
  · intro x hx y hy
    obtain ⟨p, _, rfl⟩ := hmem x hx
    obtain ⟨q, _, rfl⟩ := hmem y hy
    simp only [unProd_d]
    exact order_pure p q
  · intro x _
    rw [ordProd.refl]; omega
  · intro x _ y _ z _; exact ordProd.trans _ _ _
  · intro x _ y _ z _; exact ordProd.ntrans _ _ _
  · intro L hp hs
    exact uniq_rows ordProd unProd_d hp hs

def anW9647 : Ann := ⟨[], [⟨4, [7], [], []⟩]⟩
set_option maxHeartbeats 1000000 in
/-- with, where what is done to each body leaves it: the row is the caller's -/
theorem with_own (g : FuncId) (hdo : ∀ l : List Sym, DPure Try.prog g [dSyms l] (.tup [])) (c : Cnf) : DSpec Try.prog (.func 47) [.agg (dCnf c), .fn (.func g) [] []] [] (.agg [.int .i64 c.nts, .osl 0 1]) [⟨0, 1, .row 33 2 32 (c.prods.map dProd)⟩] := by
  refine DSpec_intro [4, 5] [(32, 0, 1)] (fn := Try.f47) Try.func47 rfl Try.call47 (by simp [Try.ntmps47]) (by simp) (by simp) ?_
  intro hwf B hnt
  have hw : wCnf c := w_cnf (by simpa [wfL, wfD] using hwf.1)
  obtain ⟨hw1, hw2, hw3, hw4⟩ := hw
  clear hwf
  simp only [argS]
  (repeat (first
      | (refine DW_seq fun K hK => ?_)
      | (refine DW_r anW9647 Try.mixed (by kernel_rfl) ?_; simp [hnt, Try.ntmps47, Try.results47, anW9647, dCnf]; try simp (disch := omega) only [wrap64_in])
      | (refine DW_block ?_)
      | (focus (refine DW_if ?_ ?_ ?_; (· (simp [hnt, Try.ntmps47, Try.results47, anW9647, dCnf]; done)); (try (rotate_left; (· (intro hc; (try simp [hnt, Try.ntmps47, Try.results47, anW9647, dCnf] at hc); done))))))
      | (refine DW_ret ?_; simp [hnt, Try.ntmps47, Try.results47, anW9647, dCnf])
      | (refine DW_exit ?_; simp [hnt, Try.ntmps47, Try.results47, anW9647, dCnf])
      | (refine DW_skip ?_; simp [hnt, Try.ntmps47, Try.results47, anW9647, dCnf])
      | (intro hc; (try simp [hnt, Try.ntmps47, Try.results47, anW9647, dCnf] at hc); done)
      | (intro hc; (try simp [hnt, Try.ntmps47, Try.results47, anW9647, dCnf] at hc); (first | (exfalso; omega) | skip))
      | (refine ⟨?_, ?_⟩; · omega)
      | omega
      | apply_assumption -exfalso -symm
      | (exfalso; omega)))
  refine DW_adoptC 5 1 32 33 2 32 (by simp) (fun n => ?_)
  refine DW_loop (X := {k : Nat // k ≤ c.prods.length}) (fun k => ⟨[(1, .fn (.func g) [] []), (4, .bx 4 1 0), (5, .bx 5 1 0), (13, dProds c.prods), (14, .int .i64 c.prods.length), (15, .int .i64 k.1)], [⟨4, 1, .box [.int .i64 0, .nilsl]⟩, ⟨5, 1, .box [.int .i64 c.nts, .osl 32 1]⟩, ⟨32, 1, .row 33 2 32 ((c.prods.take k.1).map dProd)⟩]⟩) (fun k => c.prods.length - k.1) ⟨0, by simp⟩ (Sub.lit (by simp)) ?_
  rintro ⟨k, hk⟩
  by_cases hlt : k < c.prods.length
  · obtain ⟨p, hp, hp', hpm⟩ := at_lt' hlt
    obtain ⟨hw5, hw6, hw7, hw8⟩ := hw4 p hpm
    have htk : (c.prods.map dProd).take (k + 1) = (c.prods.map dProd).take k ++ [dProd p] := by rw [List.take_add_one, List.getElem?_map, hp]; rfl
    have h1 := clone_pure p.body
    have h2 := hdo p.body
    (repeat (first
        | (refine DW_seq fun K hK => ?_)
        | (refine DW_r anW9647 Try.mixed (by kernel_rfl) ?_; simp [hnt, Try.ntmps47, Try.results47, anW9647, dCnf, dProd, hlt, hp']; try simp (disch := omega) only [wrap64_in])
        | (refine DW_block ?_)
        | (focus (refine DW_if ?_ ?_ ?_; (· (simp [hnt, Try.ntmps47, Try.results47, anW9647, dCnf, dProd, hlt, hp']; done)); (try (rotate_left; (· (intro hc; (try simp [hnt, Try.ntmps47, Try.results47, anW9647, dCnf, dProd, hlt, hp'] at hc); done))))))
        | (refine DW_ret ?_; simp [hnt, Try.ntmps47, Try.results47, anW9647, dCnf, dProd, hlt, hp'])
        | (refine DW_exit ?_; simp [hnt, Try.ntmps47, Try.results47, anW9647, dCnf, dProd, hlt, hp'])
        | (refine DW_skip ?_; simp [hnt, Try.ntmps47, Try.results47, anW9647, dCnf, dProd, hlt, hp'])
        | (intro hc; (try simp [hnt, Try.ntmps47, Try.results47, anW9647, dCnf, dProd, hlt, hp'] at hc); done)
        | (intro hc; (try simp [hnt, Try.ntmps47, Try.results47, anW9647, dCnf, dProd, hlt, hp'] at hc); (first | (exfalso; omega) | skip))
        | (refine callP_mk (h1) ?_; try simp [hnt, Try.ntmps47, Try.results47, anW9647, dCnf, dProd, hlt, hp'])
        | (refine callP_wk (h1) ?_ ?_; (· (simp; done)); try simp [hnt, Try.ntmps47, Try.results47, anW9647, dCnf, dProd, hlt, hp'])
        | (refine callP_mk (h2) ?_; try simp [hnt, Try.ntmps47, Try.results47, anW9647, dCnf, dProd, hlt, hp'])
        | (refine callP_wk (h2) ?_ ?_; (· (simp; done)); try simp [hnt, Try.ntmps47, Try.results47, anW9647, dCnf, dProd, hlt, hp'])
        | (refine ⟨?_, ?_⟩; · omega)
        | omega
        | apply_assumption -exfalso -symm
        | (exfalso; omega)))
    refine Again.mk ⟨k + 1, by omega⟩ (Sub.lit ?_) (by simp; omega)
    · simp [htk, dProd]
    (repeat (first
        | (refine DW_seq fun K hK => ?_)
        | (refine DW_r anW9647 Try.mixed (by kernel_rfl) ?_; simp [hnt, Try.ntmps47, Try.results47, anW9647]; try simp (disch := omega) only [wrap64_in])
        | (refine DW_block ?_)
        | (focus (refine DW_if ?_ ?_ ?_; (· (simp [hnt, Try.ntmps47, Try.results47, anW9647]; done)); (try (rotate_left; (· (intro hc; (try simp [hnt, Try.ntmps47, Try.results47, anW9647] at hc); done))))))
        | (refine DW_ret ?_; simp [hnt, Try.ntmps47, Try.results47, anW9647])
        | (refine DW_exit ?_; simp [hnt, Try.ntmps47, Try.results47, anW9647])
        | (refine DW_skip ?_; simp [hnt, Try.ntmps47, Try.results47, anW9647])
        | (intro hc; (try simp [hnt, Try.ntmps47, Try.results47, anW9647] at hc); done)
        | (intro hc; (try simp [hnt, Try.ntmps47, Try.results47, anW9647] at hc); (first | (exfalso; omega) | skip))
        | (refine callP_mk (h1) ?_; try simp [hnt, Try.ntmps47, Try.results47, anW9647])
        | (refine callP_wk (h1) ?_ ?_; (· (simp; done)); try simp [hnt, Try.ntmps47, Try.results47, anW9647])
        | (refine callP_mk (h2) ?_; try simp [hnt, Try.ntmps47, Try.results47, anW9647])
        | (refine callP_wk (h2) ?_ ?_; (· (simp; done)); try simp [hnt, Try.ntmps47, Try.results47, anW9647])
        | (refine ⟨?_, ?_⟩; · omega)
        | omega
        | apply_assumption -exfalso -symm
        | (exfalso; omega)))
  · have hkk : k = c.prods.length := by omega
    subst hkk
    (repeat (first
        | (refine DW_seq fun K hK => ?_)
        | (refine DW_r anW9647 Try.mixed (by kernel_rfl) ?_; simp [hnt, Try.ntmps47, Try.results47, anW9647, dCnf]; try simp (disch := omega) only [wrap64_in])
        | (refine DW_block ?_)
        | (focus (refine DW_if ?_ ?_ ?_; (· (simp [hnt, Try.ntmps47, Try.results47, anW9647, dCnf]; done)); (try (rotate_left; (· (intro hc; (try simp [hnt, Try.ntmps47, Try.results47, anW9647, dCnf] at hc); done))))))
        | (refine DW_ret ?_; simp [hnt, Try.ntmps47, Try.results47, anW9647, dCnf])
        | (refine DW_exit ?_; simp [hnt, Try.ntmps47, Try.results47, anW9647, dCnf])
        | (refine DW_skip ?_; simp [hnt, Try.ntmps47, Try.results47, anW9647, dCnf])
        | (intro hc; (try simp [hnt, Try.ntmps47, Try.results47, anW9647, dCnf] at hc); done)
        | (intro hc; (try simp [hnt, Try.ntmps47, Try.results47, anW9647, dCnf] at hc); (first | (exfalso; omega) | skip))
        | (refine ⟨?_, ?_⟩; · omega)
        | omega
        | apply_assumption -exfalso -symm
        | (exfalso; omega)))

def anW9695 : Ann := ⟨[], []⟩
theorem sorted1_pure (l : List Sym) : DPure Try.prog 95 [dSyms l] (.tup []) := by
  refine DPure_introF [] (fn := Try.f95) Try.func95 rfl Try.call95 (by simp [Try.ntmps95]) (by simp [mx]) ?_
  intro hwf B hnt
  simp only [argS]
  (repeat (first
      | (refine DW_seq fun K hK => ?_)
      | (refine DW_r anW9695 Try.mixed (by kernel_rfl) ?_; simp [hnt, Try.ntmps95, Try.results95, anW9695]; try simp (disch := omega) only [wrap64_in])
      | (refine DW_block ?_)
      | (focus (refine DW_if ?_ ?_ ?_; (· (simp [hnt, Try.ntmps95, Try.results95, anW9695]; done)); (try (rotate_left; (· (intro hc; (try simp [hnt, Try.ntmps95, Try.results95, anW9695] at hc); done))))))
      | (refine DW_ret ?_; simp [hnt, Try.ntmps95, Try.results95, anW9695])
      | (refine DW_exit ?_; simp [hnt, Try.ntmps95, Try.results95, anW9695])
      | (refine DW_skip ?_; simp [hnt, Try.ntmps95, Try.results95, anW9695])
      | (intro hc; (try simp [hnt, Try.ntmps95, Try.results95, anW9695] at hc); done)
      | (intro hc; (try simp [hnt, Try.ntmps95, Try.results95, anW9695] at hc); (first | (exfalso; omega) | skip))
      | (refine ⟨?_, ?_⟩; · omega)
      | omega
      | apply_assumption -exfalso -symm
      | (exfalso; omega)))

def normC (c : Cnf) : Cnf := ⟨c.nts, compL (fun p q => prodC p q == 0) (sortC prodC c.prods)⟩
def anW9656 : Ann := ⟨[5, 8, 11], []⟩
set_option maxHeartbeats 1000000 in
theorem sorted_pure (c : Cnf) : DPure Try.prog 56 [.agg (dCnf c)] (.agg (dCnf (normC c))) := by
  refine DPure_introF [] (fn := Try.f56) Try.func56 rfl Try.call56 (by simp [Try.ntmps56]) (by simp [mx]) ?_
  intro hwf B hnt
  simp only [argS]
  have h1 := with_own _ sorted1_pure c
  have h2 := sortProd_spec c.prods
  have h3 := compact98_spec 99 (fun p q => prodC p q == 0) (sortC prodC c.prods) (fun x _ y _ => same_pure x y)
  (repeat (first
      | (refine DW_seq fun K hK => ?_)
      | (refine DW_r anW9656 Try.mixed (by kernel_rfl) ?_; simp [hnt, Try.ntmps56, Try.results56, anW9656, dCnf, normC]; try simp (disch := omega) only [wrap64_in])
      | (refine DW_block ?_)
      | (focus (refine DW_if ?_ ?_ ?_; (· (simp [hnt, Try.ntmps56, Try.results56, anW9656, dCnf, normC]; done)); (try (rotate_left; (· (intro hc; (try simp [hnt, Try.ntmps56, Try.results56, anW9656, dCnf, normC] at hc); done))))))
      | (refine DW_ret ?_; simp [hnt, Try.ntmps56, Try.results56, anW9656, dCnf, normC])
      | (refine DW_exit ?_; simp [hnt, Try.ntmps56, Try.results56, anW9656, dCnf, normC])
      | (refine DW_skip ?_; simp [hnt, Try.ntmps56, Try.results56, anW9656, dCnf, normC])
      | (intro hc; (try simp [hnt, Try.ntmps56, Try.results56, anW9656, dCnf, normC] at hc); done)
      | (intro hc; (try simp [hnt, Try.ntmps56, Try.results56, anW9656, dCnf, normC] at hc); (first | (exfalso; omega) | skip))
      | (refine callS_mk [] [(50,0)] (h1) ?_ ?_; (· (simp [hnt, Try.ntmps56, Try.results56, anW9656, dCnf, normC]; done)); (intro _; try simp [hnt, Try.ntmps56, Try.results56, anW9656, dCnf, normC]))
      | (refine callS_mk [(50,0)] [] (h2) ?_ ?_; (· (simp [hnt, Try.ntmps56, Try.results56, anW9656, dCnf, normC]; done)); (intro _; try simp [hnt, Try.ntmps56, Try.results56, anW9656, dCnf, normC]))
      | (refine callS_mk [(50,0)] [] (h3) ?_ ?_; (· (simp [hnt, Try.ntmps56, Try.results56, anW9656, dCnf, normC]; done)); (intro _; try simp [hnt, Try.ntmps56, Try.results56, anW9656, dCnf, normC]))
      | (refine ⟨?_, ?_⟩; · omega)
      | omega
      | apply_assumption -exfalso -symm
      | (exfalso; omega)))
end Go.Proofs.Ytihkcegelghcpaa
