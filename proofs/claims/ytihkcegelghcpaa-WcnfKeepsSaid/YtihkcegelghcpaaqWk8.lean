/- Parts of a proof, laid together: Lays, W96, W57, W26, W19, W14, W81, W13, W45, W7, W18, W23, W9. -/
import Derived.Shelf.SlSortCmp.NoneTotal
import Derived.Shelf.SlGeneric
import Derived.Ground.SlsfProg
import Derived.Test.YtihkcegelghcpaaChecked
import Derived.Test.YtihkcegelghcpaaqWk6
import Derived.Test.YtihkcegelghcpaaqWk7
section
/-
  DERIVED: THE SHELF's CONTRACTS AT THIS DUMP, IN PLAIN WORDS (tools/lay-plain.mjs out of 'YtihkcegelghcpaaLay.lean', which tools/lay-shelf.mjs wrote): THE SAME DECLARATIONS UNDER THE SAME NAMES: 'import', 'namespace', 'open', 'def', 'theorem' AND NOTHING ELSE: no command of the shelf's: FOR A HAND-IN. Each laying: the table of numbers ('.._ren') and one theorem, a field a fact of the dump's own or the kernel's comparison; each contract: ONE APPLICATION.
-/




namespace Go.Proofs
open Go.Shelf
def Try.sortProd_ren : Go.Shelf.Ren := ⟨fun | 6 => 96 | 15 => 125 | 14 => 124 | 28 => 168 | 29 => 169 | 20 => 160 | 21 => 161 | 22 => 162 | 23 => 163 | 24 => 164 | 25 => 165 | 26 => 166 | 27 => 167 | 46 => 186 | 47 => 187 | 48 => 188 | 49 => 189 | 50 => 190 | 57 => 202 | n => n, fun | 22 => 22 | 24 => 33 | 25 => 137 | 3 => 3 | 39 => 148 | 0 => 0 | 53 => 185 | 55 => 188 | 4 => 4 | 46 => 201 | 45 => 200 | 50 => 107 | 5 => 5 | 9 => 9 | 66 => 222 | 70 => 226 | 76 => 236 | 77 => 237 | n => n, fun | n => n⟩
theorem Try.sortProd : Go.Proofs.SlLaysF0.n6 Try.prog Try.sortProd_ren := {
  mixed := by kernel_rfl
  f6 := ⟨Try.f96.name, by decide, Try.func96.trans (congrArg some (by kernel_rfl))⟩
  f14 := ⟨Try.f124.name, by decide, Try.func124.trans (congrArg some (by kernel_rfl))⟩
  f15 := Try.func125.trans (congrArg some (by kernel_rfl))
  f20 := ⟨Try.f160.name, by decide, Try.func160.trans (congrArg some (by kernel_rfl))⟩
  f21 := ⟨Try.f161.name, by decide, Try.func161.trans (congrArg some (by kernel_rfl))⟩
  f22 := ⟨Try.f162.name, by decide, Try.func162.trans (congrArg some (by kernel_rfl))⟩
  f23 := ⟨Try.f163.name, by decide, Try.func163.trans (congrArg some (by kernel_rfl))⟩
  f24 := ⟨Try.f164.name, by decide, Try.func164.trans (congrArg some (by kernel_rfl))⟩
  f25 := ⟨Try.f165.name, by decide, Try.func165.trans (congrArg some (by kernel_rfl))⟩
  f26 := ⟨Try.f166.name, by decide, Try.func166.trans (congrArg some (by kernel_rfl))⟩
  f27 := ⟨Try.f167.name, by decide, Try.func167.trans (congrArg some (by kernel_rfl))⟩
  f28 := Try.func168.trans (congrArg some (by kernel_rfl))
  f29 := Try.func169.trans (congrArg some (by kernel_rfl))
  f46 := ⟨Try.f186.name, by decide, Try.func186.trans (congrArg some (by kernel_rfl))⟩
  f47 := Try.func187.trans (congrArg some (by kernel_rfl))
  f48 := Try.func188.trans (congrArg some (by kernel_rfl))
  f49 := ⟨Try.f189.name, by decide, Try.func189.trans (congrArg some (by kernel_rfl))⟩
  f50 := ⟨Try.f190.name, by decide, Try.func190.trans (congrArg some (by kernel_rfl))⟩
  f57 := ⟨Try.f202.name, by decide, Try.func202.trans (congrArg some (by kernel_rfl))⟩
  t0 := Try.underlying0
  a0 := Try.isAgg0
  z0 := Try.sizeOf0
  v0 := Try.zeroValue0
  t3 := Try.underlying3
  a3 := Try.isAgg3
  z3 := Try.sizeOf3
  v3 := Try.zeroValue3
  t4 := Try.underlying4
  a4 := Try.isAgg4
  z4 := Try.sizeOf4
  v4 := Try.zeroValue4
  t5 := Try.underlying5
  a5 := Try.isAgg5
  z5 := Try.sizeOf5
  v5 := Try.zeroValue5
  t9 := Try.underlying9
  a9 := Try.isAgg9
  z9 := Try.sizeOf9
  v9 := Try.zeroValue9
  t22 := Try.underlying22
  a22 := Try.isAgg22
  z22 := Try.sizeOf22
  v22 := Try.zeroValue22
  t25 := Try.underlying137
  a25 := Try.isAgg137
  z25 := Try.sizeOf137
  v25 := Try.zeroValue137
  t39 := Try.underlying148
  a39 := Try.isAgg148
  z39 := Try.sizeOf148
  v39 := Try.zeroValue148
  t45 := Try.underlying200
  a45 := Try.isAgg200
  z45 := Try.sizeOf200
  v45 := Try.zeroValue200
  t46 := Try.underlying201
  a46 := Try.isAgg201
  z46 := Try.sizeOf201
  v46 := Try.zeroValue201
  t50 := Try.underlying107
  a50 := Try.isAgg107
  z50 := Try.sizeOf107
  v50 := Try.zeroValue107
  t53 := Try.underlying185
  a53 := Try.isAgg185
  z53 := Try.sizeOf185
  v53 := Try.zeroValue185
  t55 := Try.underlying188
  a55 := Try.isAgg188
  z55 := Try.sizeOf188
  v55 := Try.zeroValue188
  t66 := Try.underlying222
  a66 := Try.isAgg222
  z66 := Try.sizeOf222
  v66 := Try.zeroValue222
  t70 := Try.underlying226
  a70 := Try.isAgg226
  z70 := Try.sizeOf226
  v70 := Try.zeroValue226
  t76 := Try.underlying236
  a76 := Try.isAgg236
  z76 := Try.sizeOf236
  v76 := Try.zeroValue236
  t77 := Try.underlying237
  a77 := Try.isAgg237
  z77 := Try.sizeOf237
  v77 := Try.zeroValue237 }
end Go.Proofs
end

section
/- A part of a proof: walks over the functions that it names; their contracts hold for every argument. -/





set_option linter.unusedSimpArgs false
set_option linter.unusedVariables false
namespace Go.Proofs.Ytihkcegelghcpaa
open Go Go.Dm
attribute [local irreducible] DW callP callS
set_option maxRecDepth 100000

theorem sortProd_spec (l : List Prod) : DSpec Try.prog (.func 96) [.osl 0 0, .fn (.func 97) [] []] [⟨0, 0, .row 33 2 32 (l.map dProd)⟩] (.tup []) [⟨0, 0, .row 33 2 32 ((sortC prodC l).map dProd)⟩] := by
  have hmem : ∀ x ∈ l.map dProd, ∃ p ∈ l, x = dProd p := fun x hx => by
    obtain ⟨p, hp, rfl⟩ := List.mem_map.1 hx
    exact ⟨p, hp, rfl⟩
  refine sort_spec (cf := fun x y => prodC (unProd x) (unProd y)) Try.sortProd (by rfl) Try.call96 (by kernel_rfl) (by kernel_rfl) (by decide) rfl ?_ Try.call97 ?_ ?_ ?_ ?_ ?_
  · intro x hx
    obtain ⟨p, _, rfl⟩ := hmem x hx
    simp
  · intro x hx y hy
    obtain ⟨p, _, rfl⟩ := hmem x hx
    obtain ⟨q, _, rfl⟩ := hmem y hy
    simp only [unProd_d]
    exact order_pure p q
  · intro x _
    rw [ordProd.refl]; omega
  · intro x _ y _ z _; exact ordProd.trans _ _ _
  · intro x _ y _ z _; exact ordProd.ntrans _ _ _
  · intro L hp hs
    exact uniq_rows ordProd unProd_d hp hs

def anW9647 : Ann := ⟨[], [⟨4, [7], [], []⟩]⟩
set_option maxHeartbeats 1000000 in
/-- with, where what is done to each body leaves it: the row is the caller's -/
theorem with_own (g : FuncId) (hdo : ∀ l : List Sym, DPure Try.prog g [dSyms l] (.tup [])) (c : Cnf) : DSpec Try.prog (.func 47) [.agg (dCnf c), .fn (.func g) [] []] [] (.agg [.int .i64 c.nts, .osl 0 1]) [⟨0, 1, .row 33 2 32 (c.prods.map dProd)⟩] := by
  refine DSpec_intro [4, 5] [(32, 0, 1)] (fn := Try.f47) Try.func47 rfl Try.call47 (by simp [Try.ntmps47]) (by simp) (by simp) ?_
  intro hwf B hnt
  have hw : wCnf c := w_cnf (by simpa [wfL, wfD] using hwf.1)
  obtain ⟨hw1, hw2, hw3, hw4⟩ := hw
  clear hwf
  simp only [argS]
  (repeat (first
      | (refine DW_seq fun K hK => ?_)
      | (refine DW_r anW9647 Try.mixed (by kernel_rfl) ?_; simp [hnt, Try.ntmps47, Try.results47, anW9647, dCnf]; try simp (disch := omega) only [wrap64_in])
      | (refine DW_block ?_)
      | (focus (refine DW_if ?_ ?_ ?_; (· (simp [hnt, Try.ntmps47, Try.results47, anW9647, dCnf]; done)); (try (rotate_left; (· (intro hc; (try simp [hnt, Try.ntmps47, Try.results47, anW9647, dCnf] at hc); done))))))
      | (refine DW_ret ?_; simp [hnt, Try.ntmps47, Try.results47, anW9647, dCnf])
      | (refine DW_exit ?_; simp [hnt, Try.ntmps47, Try.results47, anW9647, dCnf])
      | (refine DW_skip ?_; simp [hnt, Try.ntmps47, Try.results47, anW9647, dCnf])
      | (intro hc; (try simp [hnt, Try.ntmps47, Try.results47, anW9647, dCnf] at hc); done)
      | (intro hc; (try simp [hnt, Try.ntmps47, Try.results47, anW9647, dCnf] at hc); (first | (exfalso; omega) | skip))
      | (refine ⟨?_, ?_⟩; · omega)
      | omega
      | apply_assumption -exfalso -symm
      | (exfalso; omega)))
  refine DW_adoptC 5 1 32 33 2 32 (by simp) (fun n => ?_)
  refine DW_loop (X := {k : Nat // k ≤ c.prods.length}) (fun k => ⟨[(1, .fn (.func g) [] []), (4, .bx 4 1 0), (5, .bx 5 1 0), (13, dProds c.prods), (14, .int .i64 c.prods.length), (15, .int .i64 k.1)], [⟨4, 1, .box [.int .i64 0, .nilsl]⟩, ⟨5, 1, .box [.int .i64 c.nts, .osl 32 1]⟩, ⟨32, 1, .row 33 2 32 ((c.prods.take k.1).map dProd)⟩]⟩) (fun k => c.prods.length - k.1) ⟨0, by simp⟩ (Sub.lit (by simp)) ?_
  rintro ⟨k, hk⟩
  by_cases hlt : k < c.prods.length
  · obtain ⟨p, hp, hp', hpm⟩ := at_lt' hlt
    obtain ⟨hw5, hw6, hw7, hw8⟩ := hw4 p hpm
    have htk : (c.prods.map dProd).take (k + 1) = (c.prods.map dProd).take k ++ [dProd p] := by rw [List.take_add_one, List.getElem?_map, hp]; rfl
    have h1 := clone_pure p.body
    have h2 := hdo p.body
    (repeat (first
        | (refine DW_seq fun K hK => ?_)
        | (refine DW_r anW9647 Try.mixed (by kernel_rfl) ?_; simp [hnt, Try.ntmps47, Try.results47, anW9647, dCnf, dProd, hlt, hp']; try simp (disch := omega) only [wrap64_in])
        | (refine DW_block ?_)
        | (focus (refine DW_if ?_ ?_ ?_; (· (simp [hnt, Try.ntmps47, Try.results47, anW9647, dCnf, dProd, hlt, hp']; done)); (try (rotate_left; (· (intro hc; (try simp [hnt, Try.ntmps47, Try.results47, anW9647, dCnf, dProd, hlt, hp'] at hc); done))))))
        | (refine DW_ret ?_; simp [hnt, Try.ntmps47, Try.results47, anW9647, dCnf, dProd, hlt, hp'])
        | (refine DW_exit ?_; simp [hnt, Try.ntmps47, Try.results47, anW9647, dCnf, dProd, hlt, hp'])
        | (refine DW_skip ?_; simp [hnt, Try.ntmps47, Try.results47, anW9647, dCnf, dProd, hlt, hp'])
        | (intro hc; (try simp [hnt, Try.ntmps47, Try.results47, anW9647, dCnf, dProd, hlt, hp'] at hc); done)
        | (intro hc; (try simp [hnt, Try.ntmps47, Try.results47, anW9647, dCnf, dProd, hlt, hp'] at hc); (first | (exfalso; omega) | skip))
        | (refine callP_mk (h1) ?_; try simp [hnt, Try.ntmps47, Try.results47, anW9647, dCnf, dProd, hlt, hp'])
        | (refine callP_wk (h1) ?_ ?_; (· (simp; done)); try simp [hnt, Try.ntmps47, Try.results47, anW9647, dCnf, dProd, hlt, hp'])
        | (refine callP_mk (h2) ?_; try simp [hnt, Try.ntmps47, Try.results47, anW9647, dCnf, dProd, hlt, hp'])
        | (refine callP_wk (h2) ?_ ?_; (· (simp; done)); try simp [hnt, Try.ntmps47, Try.results47, anW9647, dCnf, dProd, hlt, hp'])
        | (refine ⟨?_, ?_⟩; · omega)
        | omega
        | apply_assumption -exfalso -symm
        | (exfalso; omega)))
    refine Again.mk ⟨k + 1, by omega⟩ (Sub.lit ?_) (by simp; omega)
    · simp [htk, dProd]
    (repeat (first
        | (refine DW_seq fun K hK => ?_)
        | (refine DW_r anW9647 Try.mixed (by kernel_rfl) ?_; simp [hnt, Try.ntmps47, Try.results47, anW9647]; try simp (disch := omega) only [wrap64_in])
        | (refine DW_block ?_)
        | (focus (refine DW_if ?_ ?_ ?_; (· (simp [hnt, Try.ntmps47, Try.results47, anW9647]; done)); (try (rotate_left; (· (intro hc; (try simp [hnt, Try.ntmps47, Try.results47, anW9647] at hc); done))))))
        | (refine DW_ret ?_; simp [hnt, Try.ntmps47, Try.results47, anW9647])
        | (refine DW_exit ?_; simp [hnt, Try.ntmps47, Try.results47, anW9647])
        | (refine DW_skip ?_; simp [hnt, Try.ntmps47, Try.results47, anW9647])
        | (intro hc; (try simp [hnt, Try.ntmps47, Try.results47, anW9647] at hc); done)
        | (intro hc; (try simp [hnt, Try.ntmps47, Try.results47, anW9647] at hc); (first | (exfalso; omega) | skip))
        | (refine callP_mk (h1) ?_; try simp [hnt, Try.ntmps47, Try.results47, anW9647])
        | (refine callP_wk (h1) ?_ ?_; (· (simp; done)); try simp [hnt, Try.ntmps47, Try.results47, anW9647])
        | (refine callP_mk (h2) ?_; try simp [hnt, Try.ntmps47, Try.results47, anW9647])
        | (refine callP_wk (h2) ?_ ?_; (· (simp; done)); try simp [hnt, Try.ntmps47, Try.results47, anW9647])
        | (refine ⟨?_, ?_⟩; · omega)
        | omega
        | apply_assumption -exfalso -symm
        | (exfalso; omega)))
  · have hkk : k = c.prods.length := by omega
    subst hkk
    (repeat (first
        | (refine DW_seq fun K hK => ?_)
        | (refine DW_r anW9647 Try.mixed (by kernel_rfl) ?_; simp [hnt, Try.ntmps47, Try.results47, anW9647, dCnf]; try simp (disch := omega) only [wrap64_in])
        | (refine DW_block ?_)
        | (focus (refine DW_if ?_ ?_ ?_; (· (simp [hnt, Try.ntmps47, Try.results47, anW9647, dCnf]; done)); (try (rotate_left; (· (intro hc; (try simp [hnt, Try.ntmps47, Try.results47, anW9647, dCnf] at hc); done))))))
        | (refine DW_ret ?_; simp [hnt, Try.ntmps47, Try.results47, anW9647, dCnf])
        | (refine DW_exit ?_; simp [hnt, Try.ntmps47, Try.results47, anW9647, dCnf])
        | (refine DW_skip ?_; simp [hnt, Try.ntmps47, Try.results47, anW9647, dCnf])
        | (intro hc; (try simp [hnt, Try.ntmps47, Try.results47, anW9647, dCnf] at hc); done)
        | (intro hc; (try simp [hnt, Try.ntmps47, Try.results47, anW9647, dCnf] at hc); (first | (exfalso; omega) | skip))
        | (refine ⟨?_, ?_⟩; · omega)
        | omega
        | apply_assumption -exfalso -symm
        | (exfalso; omega)))

def anW9695 : Ann := ⟨[], []⟩
theorem sorted1_pure (l : List Sym) : DPure Try.prog 95 [dSyms l] (.tup []) := by
  refine DPure_introF [] (fn := Try.f95) Try.func95 rfl Try.call95 (by simp [Try.ntmps95]) (by simp [mx]) ?_
  intro hwf B hnt
  simp only [argS]
  (repeat (first
      | (refine DW_seq fun K hK => ?_)
      | (refine DW_r anW9695 Try.mixed (by kernel_rfl) ?_; simp [hnt, Try.ntmps95, Try.results95, anW9695]; try simp (disch := omega) only [wrap64_in])
      | (refine DW_block ?_)
      | (focus (refine DW_if ?_ ?_ ?_; (· (simp [hnt, Try.ntmps95, Try.results95, anW9695]; done)); (try (rotate_left; (· (intro hc; (try simp [hnt, Try.ntmps95, Try.results95, anW9695] at hc); done))))))
      | (refine DW_ret ?_; simp [hnt, Try.ntmps95, Try.results95, anW9695])
      | (refine DW_exit ?_; simp [hnt, Try.ntmps95, Try.results95, anW9695])
      | (refine DW_skip ?_; simp [hnt, Try.ntmps95, Try.results95, anW9695])
      | (intro hc; (try simp [hnt, Try.ntmps95, Try.results95, anW9695] at hc); done)
      | (intro hc; (try simp [hnt, Try.ntmps95, Try.results95, anW9695] at hc); (first | (exfalso; omega) | skip))
      | (refine ⟨?_, ?_⟩; · omega)
      | omega
      | apply_assumption -exfalso -symm
      | (exfalso; omega)))

def normC (c : Cnf) : Cnf := ⟨c.nts, compL (fun p q => prodC p q == 0) (sortC prodC c.prods)⟩
def anW9656 : Ann := ⟨[5, 8, 11], []⟩
set_option maxHeartbeats 1000000 in
theorem sorted_pure (c : Cnf) : DPure Try.prog 56 [.agg (dCnf c)] (.agg (dCnf (normC c))) := by
  refine DPure_introF [] (fn := Try.f56) Try.func56 rfl Try.call56 (by simp [Try.ntmps56]) (by simp [mx]) ?_
  intro hwf B hnt
  simp only [argS]
  have h1 := with_own _ sorted1_pure c
  have h2 := sortProd_spec c.prods
  have h3 := compact98_spec 99 (fun p q => prodC p q == 0) (sortC prodC c.prods) (fun x _ y _ => same_pure x y)
  (repeat (first
      | (refine DW_seq fun K hK => ?_)
      | (refine DW_r anW9656 Try.mixed (by kernel_rfl) ?_; simp [hnt, Try.ntmps56, Try.results56, anW9656, dCnf, normC]; try simp (disch := omega) only [wrap64_in])
      | (refine DW_block ?_)
      | (focus (refine DW_if ?_ ?_ ?_; (· (simp [hnt, Try.ntmps56, Try.results56, anW9656, dCnf, normC]; done)); (try (rotate_left; (· (intro hc; (try simp [hnt, Try.ntmps56, Try.results56, anW9656, dCnf, normC] at hc); done))))))
      | (refine DW_ret ?_; simp [hnt, Try.ntmps56, Try.results56, anW9656, dCnf, normC])
      | (refine DW_exit ?_; simp [hnt, Try.ntmps56, Try.results56, anW9656, dCnf, normC])
      | (refine DW_skip ?_; simp [hnt, Try.ntmps56, Try.results56, anW9656, dCnf, normC])
      | (intro hc; (try simp [hnt, Try.ntmps56, Try.results56, anW9656, dCnf, normC] at hc); done)
      | (intro hc; (try simp [hnt, Try.ntmps56, Try.results56, anW9656, dCnf, normC] at hc); (first | (exfalso; omega) | skip))
      | (refine callS_mk [] [(50,0)] (h1) ?_ ?_; (· (simp [hnt, Try.ntmps56, Try.results56, anW9656, dCnf, normC]; done)); (intro _; try simp [hnt, Try.ntmps56, Try.results56, anW9656, dCnf, normC]))
      | (refine callS_mk [(50,0)] [] (h2) ?_ ?_; (· (simp [hnt, Try.ntmps56, Try.results56, anW9656, dCnf, normC]; done)); (intro _; try simp [hnt, Try.ntmps56, Try.results56, anW9656, dCnf, normC]))
      | (refine callS_mk [(50,0)] [] (h3) ?_ ?_; (· (simp [hnt, Try.ntmps56, Try.results56, anW9656, dCnf, normC]; done)); (intro _; try simp [hnt, Try.ntmps56, Try.results56, anW9656, dCnf, normC]))
      | (refine ⟨?_, ?_⟩; · omega)
      | omega
      | apply_assumption -exfalso -symm
      | (exfalso; omega)))
end Go.Proofs.Ytihkcegelghcpaa
end

section
/- A part of a proof: walks over the functions that it names; their contracts hold for every argument. -/

set_option linter.unusedSimpArgs false
set_option linter.unusedVariables false
namespace Go.Proofs.Ytihkcegelghcpaa
open Go Go.Dm
attribute [local irreducible] DW callP callS
set_option maxRecDepth 100000

def anW5757 : Ann := ⟨[], [⟨3, [], [], [2, 3]⟩]⟩
theorem rev_nil : DPure Try.prog 57 [dSyms []] (.tup []) := by
  refine DPure_introF [] (fn := Try.f57) Try.func57 rfl Try.call57 (by simp [Try.ntmps57]) (by simp [mx]) ?_
  intro hwf B hnt
  simp only [argS]
  (repeat (first
      | (refine DW_seq fun K hK => ?_)
      | (refine DW_r anW5757 Try.mixed (by kernel_rfl) ?_; simp [hnt, Try.ntmps57, Try.results57, anW5757]; try simp (disch := omega) only [wrap64_in])
      | (refine DW_block ?_)
      | (focus (refine DW_if ?_ ?_ ?_; (· (simp [hnt, Try.ntmps57, Try.results57, anW5757]; done)); (try (rotate_left; (· (intro hc; (try simp [hnt, Try.ntmps57, Try.results57, anW5757] at hc); done))))))
      | (refine DW_ret ?_; simp [hnt, Try.ntmps57, Try.results57, anW5757])
      | (refine DW_exit ?_; simp [hnt, Try.ntmps57, Try.results57, anW5757])
      | (refine DW_skip ?_; simp [hnt, Try.ntmps57, Try.results57, anW5757])
      | (intro hc; (try simp [hnt, Try.ntmps57, Try.results57, anW5757] at hc); done)
      | (intro hc; (try simp [hnt, Try.ntmps57, Try.results57, anW5757] at hc); (first | (exfalso; omega) | skip))
      | (refine ⟨?_, ?_⟩; · omega)
      | omega
      | apply_assumption -exfalso -symm
      | (exfalso; omega)))
  refine DW_loop (X := Unit) (fun _ => ⟨[(2, .int .i64 0), (3, .int .i64 (-1))], []⟩) (fun _ => 0) () (Sub.lit (by simp)) ?_
  intro _
  (repeat (first
      | (refine DW_seq fun K hK => ?_)
      | (refine DW_r anW5757 Try.mixed (by kernel_rfl) ?_; simp [hnt, Try.ntmps57, Try.results57, anW5757]; try simp (disch := omega) only [wrap64_in])
      | (refine DW_block ?_)
      | (focus (refine DW_if ?_ ?_ ?_; (· (simp [hnt, Try.ntmps57, Try.results57, anW5757]; done)); (try (rotate_left; (· (intro hc; (try simp [hnt, Try.ntmps57, Try.results57, anW5757] at hc); done))))))
      | (refine DW_ret ?_; simp [hnt, Try.ntmps57, Try.results57, anW5757])
      | (refine DW_exit ?_; simp [hnt, Try.ntmps57, Try.results57, anW5757])
      | (refine DW_skip ?_; simp [hnt, Try.ntmps57, Try.results57, anW5757])
      | (intro hc; (try simp [hnt, Try.ntmps57, Try.results57, anW5757] at hc); done)
      | (intro hc; (try simp [hnt, Try.ntmps57, Try.results57, anW5757] at hc); (first | (exfalso; omega) | skip))
      | (refine ⟨?_, ?_⟩; · omega)
      | omega
      | apply_assumption -exfalso -symm
      | (exfalso; omega)))

/-- what a reversal holds when the i outermost pairs are exchanged -/
def revAt (l : List Sym) (i : Nat) (R : List Sym) : Prop := R.length = l.length ∧ ∀ q, q < l.length → R[q]? = if q < i ∨ l.length - 1 - q < i then l[l.length - 1 - q]? else l[q]?
theorem revAt_end {l R : List Sym} {i : Nat} (h : revAt l i R) (hi : l.length ≤ 2 * i + 1) : R = l.reverse := by
  obtain ⟨h1, h2⟩ := h
  apply List.ext_getElem?
  intro q
  by_cases hq : q < l.length
  · rw [h2 q hq, List.getElem?_reverse hq]
    split
    · rfl
    · congr 1; omega
  · rw [List.getElem?_eq_none (by omega), List.getElem?_eq_none (by simp; omega)]
theorem revAt_step {l R : List Sym} {i : Nat} {x y : Sym} (h : revAt l i R) (hi : 2 * i + 1 < l.length) (hx : l[i]? = some x) (hy : l[l.length - 1 - i]? = some y) : revAt l (i + 1) ((R.set i y).set (l.length - 1 - i) x) := by
  obtain ⟨h1, h2⟩ := h
  refine ⟨by simp [h1], fun q hq => ?_⟩
  by_cases hq1 : q = l.length - 1 - i
  · subst hq1
    rw [List.getElem?_set_self (by simp; omega), if_pos (.inr (by omega)), show l.length - 1 - (l.length - 1 - i) = i by omega]
    exact hx.symm
  · rw [List.getElem?_set_ne (by omega)]
    by_cases hq2 : q = i
    · subst hq2
      rw [List.getElem?_set_self (by omega), if_pos (.inl (by omega))]
      exact hy.symm
    · rw [List.getElem?_set_ne (by omega), h2 q hq]
      by_cases hc : q < i ∨ l.length - 1 - q < i
      · rw [if_pos hc, if_pos (by omega)]
      · rw [if_neg hc, if_neg (by omega)]

set_option maxHeartbeats 2000000 in
theorem rev_spec (l : List Sym) : DSpec Try.prog (.func 57) [.osl 0 0] [⟨0, 0, .row 75 2 16 (l.map dSym)⟩] (.tup []) [⟨0, 0, .row 75 2 16 (l.reverse.map dSym)⟩] := by
  refine DSpec_introW [] [(0, 0, 0)] (fn := Try.f57) Try.func57 rfl Try.call57 (by simp [Try.ntmps57]) (by simp) (by simp) ?_
  intro hwf hwo B hnt
  simp only [argS]
  have hl : l.length ≤ 9223372036854775807 := by
    simp only [wfOwn, maxLen, List.length_map] at hwo
    omega
  clear hwo
  have hmx : mxR ((l.map dSym).reverse) = 0 := by rw [← List.map_reverse]; exact mx_dSyms _
  have hwr : IntKind.i64.wrap ((l.length : Int) - 1) = (l.length : Int) - 1 := wrap64_in (by omega) (by omega)
  (repeat (first
      | (refine DW_seq fun K hK => ?_)
      | (refine DW_r anW5757 Try.mixed (by kernel_rfl) ?_; simp [hnt, Try.ntmps57, Try.results57, anW5757, hwr]; try simp (disch := omega) only [wrap64_in])
      | (refine DW_block ?_)
      | (focus (refine DW_if ?_ ?_ ?_; (· (simp [hnt, Try.ntmps57, Try.results57, anW5757, hwr]; done)); (try (rotate_left; (· (intro hc; (try simp [hnt, Try.ntmps57, Try.results57, anW5757, hwr] at hc); done))))))
      | (refine DW_ret ?_; simp [hnt, Try.ntmps57, Try.results57, anW5757, hwr])
      | (refine DW_exit ?_; simp [hnt, Try.ntmps57, Try.results57, anW5757, hwr])
      | (refine DW_skip ?_; simp [hnt, Try.ntmps57, Try.results57, anW5757, hwr])
      | (intro hc; (try simp [hnt, Try.ntmps57, Try.results57, anW5757, hwr] at hc); done)
      | (intro hc; (try simp [hnt, Try.ntmps57, Try.results57, anW5757, hwr] at hc); (first | (exfalso; omega) | skip))
      | (refine ⟨?_, ?_⟩; · omega)
      | omega
      | apply_assumption -exfalso -symm
      | (exfalso; omega)))
  refine DW_loop (X := {x : Nat × List Sym // 2 * x.1 ≤ l.length + 1 ∧ revAt l x.1 x.2}) (fun x => ⟨[(0, .osl 0 0), (2, .int .i64 x.1.1), (3, .int .i64 ((l.length : Int) - 1 - x.1.1))], [⟨0, 0, .row 75 2 16 (x.1.2.map dSym)⟩]⟩) (fun x => l.length - x.1.1) ⟨(0, l), show 2 * 0 ≤ l.length + 1 ∧ revAt l 0 l from ⟨by omega, rfl, fun q hq => by simp⟩⟩ (Sub.lit (by simp)) ?_
  rintro ⟨⟨i, R⟩, h1, h2⟩
  simp only at h1 h2 ⊢
  by_cases hi : 2 * i + 1 < l.length
  · obtain ⟨x, hx, hx', _⟩ := at_lt' (show i < l.length by omega)
    obtain ⟨y, hy, hy', _⟩ := at_lt' (show l.length - 1 - i < l.length by omega)
    have hRx : R[i]? = some x := by rw [h2.2 i (by omega), if_neg (by omega)]; exact hx
    have hRy : R[l.length - 1 - i]? = some y := by rw [h2.2 _ (by omega), if_neg (by omega)]; exact hy
    have hRx' : R[i]'(by have := h2.1; omega) = x := (List.getElem?_eq_some_iff.1 hRx).2
    have hRy' : R[l.length - 1 - i]'(by have := h2.1; omega) = y := (List.getElem?_eq_some_iff.1 hRy).2
    have hlt : (i : Int) < (l.length : Int) - 1 - i := by omega
    have ht : ((l.length : Int) - 1 - i).toNat = l.length - 1 - i := by omega
    have hb1 : (0 : Int) ≤ (l.length : Int) - 1 - i := by omega
    have hb2 : (l.length : Int) - 1 - i < l.length := by omega
    have hb3 : (i : Int) < l.length := by omega
    have hb4 : i < l.length := by omega
    have hb5 : l.length - 1 - i < l.length := by omega
    have hRl := h2.1
    have hw1 : IntKind.i64.wrap ((l.length : Int) - 1 - i - 1) = (l.length : Int) - 1 - i - 1 := wrap64_in (by omega) (by omega)
    have hst := revAt_step h2 hi hx hy
    have hne : ¬ i = l.length - 1 - i := by omega
    have hmr : mxR (((R.map dSym).set i [.bool y.label, .int .i64 y.n]).set (l.length - 1 - i) [.bool x.label, .int .i64 x.n]) = 0 := by
      have := mx_dSyms ((R.set i y).set (l.length - 1 - i) x)
      simpa [List.map_set, dSym] using this
    (repeat (first
        | (refine DW_seq fun K hK => ?_)
        | (refine DW_r anW5757 Try.mixed (by kernel_rfl) ?_; simp [hnt, Try.ntmps57, Try.results57, anW5757, dSym, hlt, ht, hb1, hb2, hb3, hb4, hb5, hRx, hRy, hRx', hRy', hRl, hw1, hne]; try simp (disch := omega) only [wrap64_in])
        | (refine DW_block ?_)
        | (focus (refine DW_if ?_ ?_ ?_; (· (simp [hnt, Try.ntmps57, Try.results57, anW5757, dSym, hlt, ht, hb1, hb2, hb3, hb4, hb5, hRx, hRy, hRx', hRy', hRl, hw1, hne]; done)); (try (rotate_left; (· (intro hc; (try simp [hnt, Try.ntmps57, Try.results57, anW5757, dSym, hlt, ht, hb1, hb2, hb3, hb4, hb5, hRx, hRy, hRx', hRy', hRl, hw1, hne] at hc); done))))))
        | (refine DW_ret ?_; simp [hnt, Try.ntmps57, Try.results57, anW5757, dSym, hlt, ht, hb1, hb2, hb3, hb4, hb5, hRx, hRy, hRx', hRy', hRl, hw1, hne])
        | (refine DW_exit ?_; simp [hnt, Try.ntmps57, Try.results57, anW5757, dSym, hlt, ht, hb1, hb2, hb3, hb4, hb5, hRx, hRy, hRx', hRy', hRl, hw1, hne])
        | (refine DW_skip ?_; simp [hnt, Try.ntmps57, Try.results57, anW5757, dSym, hlt, ht, hb1, hb2, hb3, hb4, hb5, hRx, hRy, hRx', hRy', hRl, hw1, hne])
        | (intro hc; (try simp [hnt, Try.ntmps57, Try.results57, anW5757, dSym, hlt, ht, hb1, hb2, hb3, hb4, hb5, hRx, hRy, hRx', hRy', hRl, hw1, hne] at hc); done)
        | (intro hc; (try simp [hnt, Try.ntmps57, Try.results57, anW5757, dSym, hlt, ht, hb1, hb2, hb3, hb4, hb5, hRx, hRy, hRx', hRy', hRl, hw1, hne] at hc); (first | (exfalso; omega) | skip))
        | (refine ⟨?_, ?_⟩; · omega)
        | omega
        | apply_assumption -exfalso -symm
        | (exfalso; omega)))
    refine Again.mk ⟨(i + 1, (R.set i y).set (l.length - 1 - i) x), show 2 * (i + 1) ≤ l.length + 1 by omega, hst⟩ (Sub.lit (by simp [List.map_set, dSym, hw1, hmr]; omega)) (by simp; omega)
  · have hend := revAt_end h2 (by omega)
    have hlt : ¬ (i : Int) < (l.length : Int) - 1 - i := by omega
    subst hend
    (repeat (first
        | (refine DW_seq fun K hK => ?_)
        | (refine DW_r anW5757 Try.mixed (by kernel_rfl) ?_; simp [hnt, Try.ntmps57, Try.results57, anW5757, hlt, hmx]; try simp (disch := omega) only [wrap64_in])
        | (refine DW_block ?_)
        | (focus (refine DW_if ?_ ?_ ?_; (· (simp [hnt, Try.ntmps57, Try.results57, anW5757, hlt, hmx]; done)); (try (rotate_left; (· (intro hc; (try simp [hnt, Try.ntmps57, Try.results57, anW5757, hlt, hmx] at hc); done))))))
        | (refine DW_ret ?_; simp [hnt, Try.ntmps57, Try.results57, anW5757, hlt, hmx])
        | (refine DW_exit ?_; simp [hnt, Try.ntmps57, Try.results57, anW5757, hlt, hmx])
        | (refine DW_skip ?_; simp [hnt, Try.ntmps57, Try.results57, anW5757, hlt, hmx])
        | (intro hc; (try simp [hnt, Try.ntmps57, Try.results57, anW5757, hlt, hmx] at hc); done)
        | (intro hc; (try simp [hnt, Try.ntmps57, Try.results57, anW5757, hlt, hmx] at hc); (first | (exfalso; omega) | skip))
        | (refine ⟨?_, ?_⟩; · omega)
        | omega
        | apply_assumption -exfalso -symm
        | (exfalso; omega)))
end Go.Proofs.Ytihkcegelghcpaa
end

section
/- A part of a proof: walks over the functions that it names; their contracts hold for every argument. -/


set_option linter.unusedSimpArgs false
set_option linter.unusedVariables false
namespace Go.Proofs.Ytihkcegelghcpaa
open Go Go.Dm
attribute [local irreducible] DW callP callS
set_option maxRecDepth 100000

theorem DPure_spec {P : Program} {f : FuncId} {args : List DVal} {d : DVal} (h : DPure P f args d) : DSpec P (.func f) args [] d [] := by
  refine ⟨by simp, h.1, fun M w loc vs S hr => ⟨h.1, (h.2.2 _ _ _ _ S.lt hr).mono ?_⟩⟩
  rintro e w' ⟨v, rfl, hu, hv⟩
  refine ⟨v, rfl, loc, ⟨by simp, by simp [hotOf], by simp [hotOf], fun b hb => Nat.lt_of_lt_of_le (S.lt b hb) hu.size, by simp⟩, hu, by simp [hotOf], by simp, hv⟩

def anW2644 : Ann := ⟨[5], []⟩
theorem clone_own (s : Sym) (l : List Sym) : DSpec Try.prog (.func 44) [dSyms (s :: l)] [] (.osl 0 1) [⟨0, 1, .row 75 2 16 ((s :: l).map dSym)⟩] := by
  refine DSpec_intro [] [(5, 0, 1)] (fn := Try.f44) Try.func44 rfl Try.call44 (by simp [Try.ntmps44]) (by simp) (by simp) ?_
  intro hwf B hnt
  have hw : wSyms (s :: l) := w_syms hwf.1
  obtain ⟨hw1, hw2, hw3⟩ := hw
  clear hwf
  simp at hw1 hw2
  clear hw3
  simp only [argS, List.nil_append, dSyms, List.map_cons]
  (repeat (first
      | (refine DW_seq fun K hK => ?_)
      | (refine DW_r anW2644 Try.mixed (by kernel_rfl) ?_; simp [hnt, Try.ntmps44, Try.results44, anW2644]; try simp (disch := omega) only [wrap64_in])
      | (refine DW_block ?_)
      | (focus (refine DW_if ?_ ?_ ?_; (· (simp [hnt, Try.ntmps44, Try.results44, anW2644]; done)); (try (rotate_left; (· (intro hc; (try simp [hnt, Try.ntmps44, Try.results44, anW2644] at hc); done))))))
      | (refine DW_ret ?_; simp [hnt, Try.ntmps44, Try.results44, anW2644])
      | (refine DW_exit ?_; simp [hnt, Try.ntmps44, Try.results44, anW2644])
      | (refine DW_skip ?_; simp [hnt, Try.ntmps44, Try.results44, anW2644])
      | (intro hc; (try simp [hnt, Try.ntmps44, Try.results44, anW2644] at hc); done)
      | (intro hc; (try simp [hnt, Try.ntmps44, Try.results44, anW2644] at hc); (first | (exfalso; omega) | skip))
      | (refine ⟨?_, ?_⟩; · omega)
      | omega
      | apply_assumption -exfalso -symm
      | (exfalso; omega)))

theorem clone_own' {l : List Sym} (h : l ≠ []) : DSpec Try.prog (.func 44) [dSyms l] [] (.osl 0 1) [⟨0, 1, .row 75 2 16 (l.map dSym)⟩] := by
  cases l with
  | nil => exact absurd rfl h
  | cons s l => exact clone_own s l

@[local simp] theorem mx_rev (l : List Sym) : mxR (l.map dSym).reverse = 0 := by rw [← List.map_reverse]; exact mx_dSyms _
def turnC (c : Cnf) : Cnf := ⟨c.nts, c.prods.map fun p => ⟨p.head, p.body.reverse⟩⟩

def anW2647 : Ann := ⟨[21, 24], [⟨4, [7], [], []⟩, ⟨6, [50], [], []⟩]⟩
set_option maxHeartbeats 1000000 in
/-- with, where each body is turned about -/
theorem with_rev (c : Cnf) : DPure Try.prog 47 [.agg (dCnf c), .fn (.func 57) [] []] (.agg (dCnf (turnC c))) := by
  refine DPure_introF [32] (fn := Try.f47) Try.func47 rfl Try.call47 (by simp [Try.ntmps47]) (by simp [mx]) ?_
  intro hwf B hnt
  have hw : wCnf c := w_cnf (by simpa [wfL, wfD] using hwf.1)
  obtain ⟨hw1, hw2, hw3, hw4⟩ := hw
  clear hwf
  simp only [argS]
  (repeat (first
      | (refine DW_seq fun K hK => ?_)
      | (refine DW_r anW2647 Try.mixed (by kernel_rfl) ?_; simp [hnt, Try.ntmps47, Try.results47, anW2647, dCnf]; try simp (disch := omega) only [wrap64_in])
      | (refine DW_block ?_)
      | (focus (refine DW_if ?_ ?_ ?_; (· (simp [hnt, Try.ntmps47, Try.results47, anW2647, dCnf]; done)); (try (rotate_left; (· (intro hc; (try simp [hnt, Try.ntmps47, Try.results47, anW2647, dCnf] at hc); done))))))
      | (refine DW_ret ?_; simp [hnt, Try.ntmps47, Try.results47, anW2647, dCnf])
      | (refine DW_exit ?_; simp [hnt, Try.ntmps47, Try.results47, anW2647, dCnf])
      | (refine DW_skip ?_; simp [hnt, Try.ntmps47, Try.results47, anW2647, dCnf])
      | (intro hc; (try simp [hnt, Try.ntmps47, Try.results47, anW2647, dCnf] at hc); done)
      | (intro hc; (try simp [hnt, Try.ntmps47, Try.results47, anW2647, dCnf] at hc); (first | (exfalso; omega) | skip))
      | (refine ⟨?_, ?_⟩; · omega)
      | omega
      | apply_assumption -exfalso -symm
      | (exfalso; omega)))
  refine DW_adoptC 5 1 32 33 2 32 (by simp) (fun n => ?_)
  refine DW_loop (X := {k : Nat // k ≤ c.prods.length}) (fun k => ⟨[(1, .fn (.func 57) [] []), (4, .bx 4 1 0), (5, .bx 5 1 0), (13, dProds c.prods), (14, .int .i64 c.prods.length), (15, .int .i64 k.1)], [⟨4, 1, .box [.int .i64 0, .nilsl]⟩, ⟨5, 1, .box [.int .i64 c.nts, .osl 32 1]⟩, ⟨32, 1, .row 33 2 32 (((turnC c).prods.take k.1).map dProd)⟩]⟩) (fun k => c.prods.length - k.1) ⟨0, by simp⟩ (Sub.lit (by simp)) ?_
  rintro ⟨k, hk⟩
  by_cases hlt : k < c.prods.length
  · obtain ⟨p, hp, hp', hpm⟩ := at_lt' hlt
    obtain ⟨hw5, hw6, hw7, hw8⟩ := hw4 p hpm
    have htk : ((turnC c).prods.map dProd).take (k + 1) = ((turnC c).prods.map dProd).take k ++ [dProd ⟨p.head, p.body.reverse⟩] := by rw [List.take_add_one, List.getElem?_map]; simp only [turnC]; rw [List.getElem?_map, hp]; rfl
    by_cases hb : p.body = []
    · have h1 := DPure_spec (clone_pure [])
      have h2 := DPure_spec rev_nil
      rw [hb] at htk
      (repeat (first
          | (refine DW_seq fun K hK => ?_)
          | (refine DW_r anW2647 Try.mixed (by kernel_rfl) ?_; simp [hnt, Try.ntmps47, Try.results47, anW2647, dCnf, dProd, hlt, hp', hb]; try simp (disch := omega) only [wrap64_in])
          | (refine DW_block ?_)
          | (focus (refine DW_if ?_ ?_ ?_; (· (simp [hnt, Try.ntmps47, Try.results47, anW2647, dCnf, dProd, hlt, hp', hb]; done)); (try (rotate_left; (· (intro hc; (try simp [hnt, Try.ntmps47, Try.results47, anW2647, dCnf, dProd, hlt, hp', hb] at hc); done))))))
          | (refine DW_ret ?_; simp [hnt, Try.ntmps47, Try.results47, anW2647, dCnf, dProd, hlt, hp', hb])
          | (refine DW_exit ?_; simp [hnt, Try.ntmps47, Try.results47, anW2647, dCnf, dProd, hlt, hp', hb])
          | (refine DW_skip ?_; simp [hnt, Try.ntmps47, Try.results47, anW2647, dCnf, dProd, hlt, hp', hb])
          | (intro hc; (try simp [hnt, Try.ntmps47, Try.results47, anW2647, dCnf, dProd, hlt, hp', hb] at hc); done)
          | (intro hc; (try simp [hnt, Try.ntmps47, Try.results47, anW2647, dCnf, dProd, hlt, hp', hb] at hc); (first | (exfalso; omega) | skip))
          | (refine callS_mk [] [] (h1) ?_ ?_; (· (simp [hnt, Try.ntmps47, Try.results47, anW2647, dCnf, dProd, hlt, hp', hb]; done)); (intro _; try simp [hnt, Try.ntmps47, Try.results47, anW2647, dCnf, dProd, hlt, hp', hb]))
          | (refine callS_mk [] [] (h2) ?_ ?_; (· (simp [hnt, Try.ntmps47, Try.results47, anW2647, dCnf, dProd, hlt, hp', hb]; done)); (intro _; try simp [hnt, Try.ntmps47, Try.results47, anW2647, dCnf, dProd, hlt, hp', hb]))
          | (refine ⟨?_, ?_⟩; · omega)
          | omega
          | apply_assumption -exfalso -symm
          | (exfalso; omega)))
      refine Again.mk ⟨k + 1, by omega⟩ (Sub.lit (by simp [htk, dProd])) (by simp; omega)
    · have h1 := clone_own' hb
      have h2 := rev_spec p.body
      (repeat (first
          | (refine DW_seq fun K hK => ?_)
          | (refine DW_r anW2647 Try.mixed (by kernel_rfl) ?_; simp [hnt, Try.ntmps47, Try.results47, anW2647, dCnf, dProd, hlt, hp']; try simp (disch := omega) only [wrap64_in])
          | (refine DW_block ?_)
          | (focus (refine DW_if ?_ ?_ ?_; (· (simp [hnt, Try.ntmps47, Try.results47, anW2647, dCnf, dProd, hlt, hp']; done)); (try (rotate_left; (· (intro hc; (try simp [hnt, Try.ntmps47, Try.results47, anW2647, dCnf, dProd, hlt, hp'] at hc); done))))))
          | (refine DW_ret ?_; simp [hnt, Try.ntmps47, Try.results47, anW2647, dCnf, dProd, hlt, hp'])
          | (refine DW_exit ?_; simp [hnt, Try.ntmps47, Try.results47, anW2647, dCnf, dProd, hlt, hp'])
          | (refine DW_skip ?_; simp [hnt, Try.ntmps47, Try.results47, anW2647, dCnf, dProd, hlt, hp'])
          | (intro hc; (try simp [hnt, Try.ntmps47, Try.results47, anW2647, dCnf, dProd, hlt, hp'] at hc); done)
          | (intro hc; (try simp [hnt, Try.ntmps47, Try.results47, anW2647, dCnf, dProd, hlt, hp'] at hc); (first | (exfalso; omega) | skip))
          | (refine callS_mk [] [(50,0)] (h1) ?_ ?_; (· (simp [hnt, Try.ntmps47, Try.results47, anW2647, dCnf, dProd, hlt, hp']; done)); (intro _; try simp [hnt, Try.ntmps47, Try.results47, anW2647, dCnf, dProd, hlt, hp']))
          | (refine callS_mk [(50,0)] [] (h2) ?_ ?_; (· (simp [hnt, Try.ntmps47, Try.results47, anW2647, dCnf, dProd, hlt, hp']; done)); (intro _; try simp [hnt, Try.ntmps47, Try.results47, anW2647, dCnf, dProd, hlt, hp']))
          | (refine ⟨?_, ?_⟩; · omega)
          | omega
          | apply_assumption -exfalso -symm
          | (exfalso; omega)))
      refine Again.mk ⟨k + 1, by omega⟩ (Sub.lit (by simp [htk, dProd])) (by simp; omega)
  · have hkk : k = c.prods.length := by omega
    subst hkk
    (repeat (first
        | (refine DW_seq fun K hK => ?_)
        | (refine DW_r anW2647 Try.mixed (by kernel_rfl) ?_; simp [hnt, Try.ntmps47, Try.results47, anW2647, dCnf]; try simp (disch := omega) only [wrap64_in])
        | (refine DW_block ?_)
        | (focus (refine DW_if ?_ ?_ ?_; (· (simp [hnt, Try.ntmps47, Try.results47, anW2647, dCnf]; done)); (try (rotate_left; (· (intro hc; (try simp [hnt, Try.ntmps47, Try.results47, anW2647, dCnf] at hc); done))))))
        | (refine DW_ret ?_; simp [hnt, Try.ntmps47, Try.results47, anW2647, dCnf])
        | (refine DW_exit ?_; simp [hnt, Try.ntmps47, Try.results47, anW2647, dCnf])
        | (refine DW_skip ?_; simp [hnt, Try.ntmps47, Try.results47, anW2647, dCnf])
        | (intro hc; (try simp [hnt, Try.ntmps47, Try.results47, anW2647, dCnf] at hc); done)
        | (intro hc; (try simp [hnt, Try.ntmps47, Try.results47, anW2647, dCnf] at hc); (first | (exfalso; omega) | skip))
        | (refine ⟨?_, ?_⟩; · omega)
        | omega
        | apply_assumption -exfalso -symm
        | (exfalso; omega)))
    simp only [turnC, List.map_map]
    exact ⟨trivial, List.take_of_length_le (by simp)⟩

def anW2626 : Ann := ⟨[], []⟩
theorem fsort_pure (c : Cnf) : DPure Try.prog 26 [.agg (dCnf c)] (if cnfOK c then .tup [.agg (dCnf (normC c)), .int .i64 0] else .tup [.agg [.int .i64 0, .nilsl], .int .i64 220]) := by
  refine DPure_introF [] (fn := Try.f26) Try.func26 rfl Try.call26 (by simp [Try.ntmps26]) (by cases cnfOK c <;> simp [mx, dCnf]) ?_
  intro hwf B hnt
  simp only [argS]
  have h1 := check_pure c
  have h2 := sorted_pure c
  cases hb : cnfOK c
  · rw [hb] at h1
    (repeat (first
        | (refine DW_seq fun K hK => ?_)
        | (refine DW_r anW2626 Try.mixed (by kernel_rfl) ?_; simp [hnt, Try.ntmps26, Try.results26, anW2626, dCnf]; try simp (disch := omega) only [wrap64_in])
        | (refine DW_block ?_)
        | (focus (refine DW_if ?_ ?_ ?_; (· (simp [hnt, Try.ntmps26, Try.results26, anW2626, dCnf]; done)); (try (rotate_left; (· (intro hc; (try simp [hnt, Try.ntmps26, Try.results26, anW2626, dCnf] at hc); done))))))
        | (refine DW_ret ?_; simp [hnt, Try.ntmps26, Try.results26, anW2626, dCnf])
        | (refine DW_exit ?_; simp [hnt, Try.ntmps26, Try.results26, anW2626, dCnf])
        | (refine DW_skip ?_; simp [hnt, Try.ntmps26, Try.results26, anW2626, dCnf])
        | (intro hc; (try simp [hnt, Try.ntmps26, Try.results26, anW2626, dCnf] at hc); done)
        | (intro hc; (try simp [hnt, Try.ntmps26, Try.results26, anW2626, dCnf] at hc); (first | (exfalso; omega) | skip))
        | (refine callP_mk (h1) ?_; try simp [hnt, Try.ntmps26, Try.results26, anW2626, dCnf])
        | (refine callP_wk (h1) ?_ ?_; (· (simp; done)); try simp [hnt, Try.ntmps26, Try.results26, anW2626, dCnf])
        | (refine callP_mk (h2) ?_; try simp [hnt, Try.ntmps26, Try.results26, anW2626, dCnf])
        | (refine callP_wk (h2) ?_ ?_; (· (simp; done)); try simp [hnt, Try.ntmps26, Try.results26, anW2626, dCnf])
        | (refine ⟨?_, ?_⟩; · omega)
        | omega
        | apply_assumption -exfalso -symm
        | (exfalso; omega)))
  · rw [hb] at h1
    (repeat (first
        | (refine DW_seq fun K hK => ?_)
        | (refine DW_r anW2626 Try.mixed (by kernel_rfl) ?_; simp [hnt, Try.ntmps26, Try.results26, anW2626, dCnf]; try simp (disch := omega) only [wrap64_in])
        | (refine DW_block ?_)
        | (focus (refine DW_if ?_ ?_ ?_; (· (simp [hnt, Try.ntmps26, Try.results26, anW2626, dCnf]; done)); (try (rotate_left; (· (intro hc; (try simp [hnt, Try.ntmps26, Try.results26, anW2626, dCnf] at hc); done))))))
        | (refine DW_ret ?_; simp [hnt, Try.ntmps26, Try.results26, anW2626, dCnf])
        | (refine DW_exit ?_; simp [hnt, Try.ntmps26, Try.results26, anW2626, dCnf])
        | (refine DW_skip ?_; simp [hnt, Try.ntmps26, Try.results26, anW2626, dCnf])
        | (intro hc; (try simp [hnt, Try.ntmps26, Try.results26, anW2626, dCnf] at hc); done)
        | (intro hc; (try simp [hnt, Try.ntmps26, Try.results26, anW2626, dCnf] at hc); (first | (exfalso; omega) | skip))
        | (refine callP_mk (h1) ?_; try simp [hnt, Try.ntmps26, Try.results26, anW2626, dCnf])
        | (refine callP_wk (h1) ?_ ?_; (· (simp; done)); try simp [hnt, Try.ntmps26, Try.results26, anW2626, dCnf])
        | (refine callP_mk (h2) ?_; try simp [hnt, Try.ntmps26, Try.results26, anW2626, dCnf])
        | (refine callP_wk (h2) ?_ ?_; (· (simp; done)); try simp [hnt, Try.ntmps26, Try.results26, anW2626, dCnf])
        | (refine ⟨?_, ?_⟩; · omega)
        | omega
        | apply_assumption -exfalso -symm
        | (exfalso; omega)))

def anW2627 : Ann := ⟨[], []⟩
theorem fturn_pure (c : Cnf) : DPure Try.prog 27 [.agg (dCnf c)] (if cnfOK c then .tup [.agg (dCnf (turnC c)), .int .i64 0] else .tup [.agg [.int .i64 0, .nilsl], .int .i64 220]) := by
  refine DPure_introF [] (fn := Try.f27) Try.func27 rfl Try.call27 (by simp [Try.ntmps27]) (by cases cnfOK c <;> simp [mx, dCnf]) ?_
  intro hwf B hnt
  simp only [argS]
  have h1 := check_pure c
  have h2 := with_rev c
  cases hb : cnfOK c
  · rw [hb] at h1
    (repeat (first
        | (refine DW_seq fun K hK => ?_)
        | (refine DW_r anW2627 Try.mixed (by kernel_rfl) ?_; simp [hnt, Try.ntmps27, Try.results27, anW2627, dCnf]; try simp (disch := omega) only [wrap64_in])
        | (refine DW_block ?_)
        | (focus (refine DW_if ?_ ?_ ?_; (· (simp [hnt, Try.ntmps27, Try.results27, anW2627, dCnf]; done)); (try (rotate_left; (· (intro hc; (try simp [hnt, Try.ntmps27, Try.results27, anW2627, dCnf] at hc); done))))))
        | (refine DW_ret ?_; simp [hnt, Try.ntmps27, Try.results27, anW2627, dCnf])
        | (refine DW_exit ?_; simp [hnt, Try.ntmps27, Try.results27, anW2627, dCnf])
        | (refine DW_skip ?_; simp [hnt, Try.ntmps27, Try.results27, anW2627, dCnf])
        | (intro hc; (try simp [hnt, Try.ntmps27, Try.results27, anW2627, dCnf] at hc); done)
        | (intro hc; (try simp [hnt, Try.ntmps27, Try.results27, anW2627, dCnf] at hc); (first | (exfalso; omega) | skip))
        | (refine callP_mk (h1) ?_; try simp [hnt, Try.ntmps27, Try.results27, anW2627, dCnf])
        | (refine callP_wk (h1) ?_ ?_; (· (simp; done)); try simp [hnt, Try.ntmps27, Try.results27, anW2627, dCnf])
        | (refine callP_mk (h2) ?_; try simp [hnt, Try.ntmps27, Try.results27, anW2627, dCnf])
        | (refine callP_wk (h2) ?_ ?_; (· (simp; done)); try simp [hnt, Try.ntmps27, Try.results27, anW2627, dCnf])
        | (refine ⟨?_, ?_⟩; · omega)
        | omega
        | apply_assumption -exfalso -symm
        | (exfalso; omega)))
  · rw [hb] at h1
    (repeat (first
        | (refine DW_seq fun K hK => ?_)
        | (refine DW_r anW2627 Try.mixed (by kernel_rfl) ?_; simp [hnt, Try.ntmps27, Try.results27, anW2627, dCnf]; try simp (disch := omega) only [wrap64_in])
        | (refine DW_block ?_)
        | (focus (refine DW_if ?_ ?_ ?_; (· (simp [hnt, Try.ntmps27, Try.results27, anW2627, dCnf]; done)); (try (rotate_left; (· (intro hc; (try simp [hnt, Try.ntmps27, Try.results27, anW2627, dCnf] at hc); done))))))
        | (refine DW_ret ?_; simp [hnt, Try.ntmps27, Try.results27, anW2627, dCnf])
        | (refine DW_exit ?_; simp [hnt, Try.ntmps27, Try.results27, anW2627, dCnf])
        | (refine DW_skip ?_; simp [hnt, Try.ntmps27, Try.results27, anW2627, dCnf])
        | (intro hc; (try simp [hnt, Try.ntmps27, Try.results27, anW2627, dCnf] at hc); done)
        | (intro hc; (try simp [hnt, Try.ntmps27, Try.results27, anW2627, dCnf] at hc); (first | (exfalso; omega) | skip))
        | (refine callP_mk (h1) ?_; try simp [hnt, Try.ntmps27, Try.results27, anW2627, dCnf])
        | (refine callP_wk (h1) ?_ ?_; (· (simp; done)); try simp [hnt, Try.ntmps27, Try.results27, anW2627, dCnf])
        | (refine callP_mk (h2) ?_; try simp [hnt, Try.ntmps27, Try.results27, anW2627, dCnf])
        | (refine callP_wk (h2) ?_ ?_; (· (simp; done)); try simp [hnt, Try.ntmps27, Try.results27, anW2627, dCnf])
        | (refine ⟨?_, ?_⟩; · omega)
        | omega
        | apply_assumption -exfalso -symm
        | (exfalso; omega)))
end Go.Proofs.Ytihkcegelghcpaa
end

section
/- A part of a proof: walks over the functions that it names; their contracts hold for every argument. -/

set_option linter.unusedSimpArgs false
set_option linter.unusedVariables false
namespace Go.Proofs.Ytihkcegelghcpaa
open Go Go.Dm
attribute [local irreducible] DW callP callS
set_option maxRecDepth 100000

def anW19115 : Ann := ⟨[], []⟩
theorem there_nil : DPure Try.prog 115 [.nilp] (.bool false) := by
  refine DPure_introF [] (fn := Try.f115) Try.func115 rfl Try.call115 (by simp [Try.ntmps115]) (by simp [mx]) ?_
  intro hwf B hnt
  simp only [argS]
  (repeat (first
      | (refine DW_seq fun K hK => ?_)
      | (refine DW_r anW19115 Try.mixed (by kernel_rfl) ?_; simp [hnt, Try.ntmps115, Try.results115, anW19115]; try simp (disch := omega) only [wrap64_in])
      | (refine DW_block ?_)
      | (focus (refine DW_if ?_ ?_ ?_; (· (simp [hnt, Try.ntmps115, Try.results115, anW19115]; done)); (try (rotate_left; (· (intro hc; (try simp [hnt, Try.ntmps115, Try.results115, anW19115] at hc); done))))))
      | (refine DW_ret ?_; simp [hnt, Try.ntmps115, Try.results115, anW19115])
      | (refine DW_exit ?_; simp [hnt, Try.ntmps115, Try.results115, anW19115])
      | (refine DW_skip ?_; simp [hnt, Try.ntmps115, Try.results115, anW19115])
      | (intro hc; (try simp [hnt, Try.ntmps115, Try.results115, anW19115] at hc); done)
      | (intro hc; (try simp [hnt, Try.ntmps115, Try.results115, anW19115] at hc); (first | (exfalso; omega) | skip))
      | (refine ⟨?_, ?_⟩; · omega)
      | omega
      | apply_assumption -exfalso -symm
      | (exfalso; omega)))
def anW1982 : Ann := ⟨[], []⟩
theorem states_nil : DPure Try.prog 82 [.nilp] (.int .i64 0) := by
  refine DPure_introF [] (fn := Try.f82) Try.func82 rfl Try.call82 (by simp [Try.ntmps82]) (by simp [mx]) ?_
  intro hwf B hnt
  simp only [argS]
  (repeat (first
      | (refine DW_seq fun K hK => ?_)
      | (refine DW_r anW1982 Try.mixed (by kernel_rfl) ?_; simp [hnt, Try.ntmps82, Try.results82, anW1982]; try simp (disch := omega) only [wrap64_in])
      | (refine DW_block ?_)
      | (focus (refine DW_if ?_ ?_ ?_; (· (simp [hnt, Try.ntmps82, Try.results82, anW1982]; done)); (try (rotate_left; (· (intro hc; (try simp [hnt, Try.ntmps82, Try.results82, anW1982] at hc); done))))))
      | (refine DW_ret ?_; simp [hnt, Try.ntmps82, Try.results82, anW1982])
      | (refine DW_exit ?_; simp [hnt, Try.ntmps82, Try.results82, anW1982])
      | (refine DW_skip ?_; simp [hnt, Try.ntmps82, Try.results82, anW1982])
      | (intro hc; (try simp [hnt, Try.ntmps82, Try.results82, anW1982] at hc); done)
      | (intro hc; (try simp [hnt, Try.ntmps82, Try.results82, anW1982] at hc); (first | (exfalso; omega) | skip))
      | (refine callP_mk (there_nil) ?_; try simp [hnt, Try.ntmps82, Try.results82, anW1982])
      | (refine callP_wk (there_nil) ?_ ?_; (· (simp; done)); try simp [hnt, Try.ntmps82, Try.results82, anW1982])
      | (refine ⟨?_, ?_⟩; · omega)
      | omega
      | apply_assumption -exfalso -symm
      | (exfalso; omega)))
def anW1946 : Ann := ⟨[], [⟨22, [12], [], []⟩]⟩
theorem cfgOf_nil : DPure Try.prog 46 [.nilp] (.tup [.agg [.int .i64 0, .nilsl], .int .i64 1]) := by
  refine DPure_introF [] (fn := Try.f46) Try.func46 rfl Try.call46 (by simp [Try.ntmps46]) (by simp [mx]) ?_
  intro hwf B hnt
  simp only [argS]
  (repeat (first
      | (refine DW_seq fun K hK => ?_)
      | (refine DW_r anW1946 Try.mixed (by kernel_rfl) ?_; simp [hnt, Try.ntmps46, Try.results46, anW1946]; try simp (disch := omega) only [wrap64_in])
      | (refine DW_block ?_)
      | (focus (refine DW_if ?_ ?_ ?_; (· (simp [hnt, Try.ntmps46, Try.results46, anW1946]; done)); (try (rotate_left; (· (intro hc; (try simp [hnt, Try.ntmps46, Try.results46, anW1946] at hc); done))))))
      | (refine DW_ret ?_; simp [hnt, Try.ntmps46, Try.results46, anW1946])
      | (refine DW_exit ?_; simp [hnt, Try.ntmps46, Try.results46, anW1946])
      | (refine DW_skip ?_; simp [hnt, Try.ntmps46, Try.results46, anW1946])
      | (intro hc; (try simp [hnt, Try.ntmps46, Try.results46, anW1946] at hc); done)
      | (intro hc; (try simp [hnt, Try.ntmps46, Try.results46, anW1946] at hc); (first | (exfalso; omega) | skip))
      | (refine callP_mk (states_nil) ?_; try simp [hnt, Try.ntmps46, Try.results46, anW1946])
      | (refine callP_wk (states_nil) ?_ ?_; (· (simp; done)); try simp [hnt, Try.ntmps46, Try.results46, anW1946])
      | (refine ⟨?_, ?_⟩; · omega)
      | omega
      | apply_assumption -exfalso -symm
      | (exfalso; omega)))
def anW1919 : Ann := ⟨[], [⟨1, [1], [], []⟩]⟩
theorem head12_pure : DPure Try.prog 19 [] (.bool true) := by
  refine DPure_introF [] (fn := Try.f19) Try.func19 rfl Try.call19 (by simp [Try.ntmps19]) (by simp [mx]) ?_
  intro hwf B hnt
  simp only [argS]
  have h1 := check_pure ⟨0, []⟩
  have h2 := check_pure ⟨1, []⟩
  simp [dCnf, cnfOK, dProds] at h1 h2
  (repeat (first
      | (refine DW_seq fun K hK => ?_)
      | (refine DW_r anW1919 Try.mixed (by kernel_rfl) ?_; simp [hnt, Try.ntmps19, Try.results19, anW1919]; try simp (disch := omega) only [wrap64_in])
      | (refine DW_block ?_)
      | (focus (refine DW_if ?_ ?_ ?_; (· (simp [hnt, Try.ntmps19, Try.results19, anW1919]; done)); (try (rotate_left; (· (intro hc; (try simp [hnt, Try.ntmps19, Try.results19, anW1919] at hc); done))))))
      | (refine DW_ret ?_; simp [hnt, Try.ntmps19, Try.results19, anW1919])
      | (refine DW_exit ?_; simp [hnt, Try.ntmps19, Try.results19, anW1919])
      | (refine DW_skip ?_; simp [hnt, Try.ntmps19, Try.results19, anW1919])
      | (intro hc; (try simp [hnt, Try.ntmps19, Try.results19, anW1919] at hc); done)
      | (intro hc; (try simp [hnt, Try.ntmps19, Try.results19, anW1919] at hc); (first | (exfalso; omega) | skip))
      | (refine callP_mk (cfgOf_nil) ?_; try simp [hnt, Try.ntmps19, Try.results19, anW1919])
      | (refine callP_wk (cfgOf_nil) ?_ ?_; (· (simp; done)); try simp [hnt, Try.ntmps19, Try.results19, anW1919])
      | (refine callP_mk (h1) ?_; try simp [hnt, Try.ntmps19, Try.results19, anW1919])
      | (refine callP_wk (h1) ?_ ?_; (· (simp; done)); try simp [hnt, Try.ntmps19, Try.results19, anW1919])
      | (refine callP_mk (h2) ?_; try simp [hnt, Try.ntmps19, Try.results19, anW1919])
      | (refine callP_wk (h2) ?_ ?_; (· (simp; done)); try simp [hnt, Try.ntmps19, Try.results19, anW1919])
      | (refine ⟨?_, ?_⟩; · omega)
      | omega
      | apply_assumption -exfalso -symm
      | (exfalso; omega)))
end Go.Proofs.Ytihkcegelghcpaa
end

section
/- A part of a proof: walks over the functions that it names; their contracts hold for every argument. -/

set_option linter.unusedSimpArgs false
set_option linter.unusedVariables false
namespace Go.Proofs.Ytihkcegelghcpaa
open Go Go.Dm
attribute [local irreducible] DW callP callS
def anW1414 : Ann := ⟨[], [⟨6, [23], [], []⟩]⟩
set_option maxRecDepth 100000 in
theorem copy_pure (c : Cnf) : DPure Try.prog 14 [.agg (dCnf c)] (.agg (dCnf c)) := by
  refine DPure_introF [35] (fn := Try.f14) Try.func14 rfl Try.call14 (by simp [Try.ntmps14]) (by simp [mx]) ?_
  intro hwf B hnt
  have hw : wCnf c := w_cnf (by simpa [wfL, wfD] using hwf.1)
  obtain ⟨hw1, hw2, hw3, hw4⟩ := hw
  clear hwf
  simp only [argS]
  (repeat (first
      | (refine DW_seq fun K hK => ?_)
      | (refine DW_r anW1414 Try.mixed (by kernel_rfl) ?_; simp [hnt, Try.ntmps14, Try.results14, anW1414, dCnf]; try simp (disch := omega) only [wrap64_in])
      | (refine DW_block ?_)
      | (focus (refine DW_if ?_ ?_ ?_; (· (simp [hnt, Try.ntmps14, Try.results14, anW1414, dCnf]; done)); (try (rotate_left; (· (intro hc; (try simp [hnt, Try.ntmps14, Try.results14, anW1414, dCnf] at hc); done))))))
      | (refine DW_ret ?_; simp [hnt, Try.ntmps14, Try.results14, anW1414, dCnf])
      | (refine DW_exit ?_; simp [hnt, Try.ntmps14, Try.results14, anW1414, dCnf])
      | (refine DW_skip ?_; simp [hnt, Try.ntmps14, Try.results14, anW1414, dCnf])
      | (intro hc; (try simp [hnt, Try.ntmps14, Try.results14, anW1414, dCnf] at hc); done)
      | (intro hc; (try simp [hnt, Try.ntmps14, Try.results14, anW1414, dCnf] at hc); (first | (exfalso; omega) | skip))
      | (refine ⟨?_, ?_⟩; · omega)
      | omega
      | apply_assumption -exfalso -symm
      | (exfalso; omega)))
  refine DW_adoptC 3 1 35 33 2 32 (by simp) (fun n => ?_)
  refine DW_loop (X := {k : Nat // k ≤ c.prods.length}) (fun k => ⟨[(1, .ref [.int .i64 c.nts, dProds c.prods]), (2, .bx 2 1 0), (3, .bx 3 1 0), (4, .int .i64 k.1)], [⟨3, 1, .box [.int .i64 c.nts, .osl 35 1]⟩, ⟨35, 1, .row 33 2 32 ((c.prods.take k.1).map dProd)⟩, ⟨2, 1, .box [.int .i64 0, .nilsl]⟩]⟩) (fun k => c.prods.length - k.1) ⟨0, by simp⟩ (Sub.lit (by simp)) ?_
  rintro ⟨k, hk⟩
  by_cases hlt : k < c.prods.length
  · obtain ⟨p, hp, hp', hpm⟩ := at_lt' hlt
    obtain ⟨hw5, hw6, hw7, hw8⟩ := hw4 p hpm
    have htk : (c.prods.map dProd).take (k + 1) = (c.prods.map dProd).take k ++ [dProd p] := by rw [List.take_add_one, List.getElem?_map, hp]; rfl
    (repeat (first
        | (refine DW_seq fun K hK => ?_)
        | (refine DW_r anW1414 Try.mixed (by kernel_rfl) ?_; simp [hnt, Try.ntmps14, Try.results14, anW1414, dCnf, dProd, hlt, hp']; try simp (disch := omega) only [wrap64_in])
        | (refine DW_block ?_)
        | (focus (refine DW_if ?_ ?_ ?_; (· (simp [hnt, Try.ntmps14, Try.results14, anW1414, dCnf, dProd, hlt, hp']; done)); (try (rotate_left; (· (intro hc; (try simp [hnt, Try.ntmps14, Try.results14, anW1414, dCnf, dProd, hlt, hp'] at hc); done))))))
        | (refine DW_ret ?_; simp [hnt, Try.ntmps14, Try.results14, anW1414, dCnf, dProd, hlt, hp'])
        | (refine DW_exit ?_; simp [hnt, Try.ntmps14, Try.results14, anW1414, dCnf, dProd, hlt, hp'])
        | (refine DW_skip ?_; simp [hnt, Try.ntmps14, Try.results14, anW1414, dCnf, dProd, hlt, hp'])
        | (intro hc; (try simp [hnt, Try.ntmps14, Try.results14, anW1414, dCnf, dProd, hlt, hp'] at hc); done)
        | (intro hc; (try simp [hnt, Try.ntmps14, Try.results14, anW1414, dCnf, dProd, hlt, hp'] at hc); (first | (exfalso; omega) | skip))
        | (refine ⟨?_, ?_⟩; · omega)
        | omega
        | apply_assumption -exfalso -symm
        | (exfalso; omega)))
    refine Again.mk ⟨k + 1, by omega⟩ (Sub.lit ?_) (by simp; omega)
    · simp [htk, dProd]
    (repeat (first
        | (refine DW_seq fun K hK => ?_)
        | (refine DW_r anW1414 Try.mixed (by kernel_rfl) ?_; simp [hnt, Try.ntmps14, Try.results14, anW1414]; try simp (disch := omega) only [wrap64_in])
        | (refine DW_block ?_)
        | (focus (refine DW_if ?_ ?_ ?_; (· (simp [hnt, Try.ntmps14, Try.results14, anW1414]; done)); (try (rotate_left; (· (intro hc; (try simp [hnt, Try.ntmps14, Try.results14, anW1414] at hc); done))))))
        | (refine DW_ret ?_; simp [hnt, Try.ntmps14, Try.results14, anW1414])
        | (refine DW_exit ?_; simp [hnt, Try.ntmps14, Try.results14, anW1414])
        | (refine DW_skip ?_; simp [hnt, Try.ntmps14, Try.results14, anW1414])
        | (intro hc; (try simp [hnt, Try.ntmps14, Try.results14, anW1414] at hc); done)
        | (intro hc; (try simp [hnt, Try.ntmps14, Try.results14, anW1414] at hc); (first | (exfalso; omega) | skip))
        | (refine ⟨?_, ?_⟩; · omega)
        | omega
        | apply_assumption -exfalso -symm
        | (exfalso; omega)))
  · have hkk : k = c.prods.length := by omega
    subst hkk
    (repeat (first
        | (refine DW_seq fun K hK => ?_)
        | (refine DW_r anW1414 Try.mixed (by kernel_rfl) ?_; simp [hnt, Try.ntmps14, Try.results14, anW1414, dCnf]; try simp (disch := omega) only [wrap64_in])
        | (refine DW_block ?_)
        | (focus (refine DW_if ?_ ?_ ?_; (· (simp [hnt, Try.ntmps14, Try.results14, anW1414, dCnf]; done)); (try (rotate_left; (· (intro hc; (try simp [hnt, Try.ntmps14, Try.results14, anW1414, dCnf] at hc); done))))))
        | (refine DW_ret ?_; simp [hnt, Try.ntmps14, Try.results14, anW1414, dCnf])
        | (refine DW_exit ?_; simp [hnt, Try.ntmps14, Try.results14, anW1414, dCnf])
        | (refine DW_skip ?_; simp [hnt, Try.ntmps14, Try.results14, anW1414, dCnf])
        | (intro hc; (try simp [hnt, Try.ntmps14, Try.results14, anW1414, dCnf] at hc); done)
        | (intro hc; (try simp [hnt, Try.ntmps14, Try.results14, anW1414, dCnf] at hc); (first | (exfalso; omega) | skip))
        | (refine ⟨?_, ?_⟩; · omega)
        | omega
        | apply_assumption -exfalso -symm
        | (exfalso; omega)))
end Go.Proofs.Ytihkcegelghcpaa
end

section
/- A part of a proof: walks over the functions that it names; their contracts hold for every argument. -/

set_option linter.unusedSimpArgs false
set_option linter.unusedVariables false
namespace Go.Proofs.Ytihkcegelghcpaa
open Go Go.Dm
attribute [local irreducible] DW callP callS
set_option maxRecDepth 100000

def anW8181 : Ann := ⟨[], []⟩
/-- IndexFunc at Prod: the first one that the closure says yes to -/
theorem indexFunc81_pure (g : FuncId) (us cs : List DVal) (l : List Prod) (q : Prod → Bool) (hq : ∀ x ∈ l, DPure Try.prog g (us ++ [.agg (dProd x)] ++ cs) (.bool (q x))) :
    DPure Try.prog 81 [dProds l, .fn (.func g) us cs] (.int .i64 (if l.any q then ((l.findIdx q : Nat) : Int) else -1)) := by
  refine DPure_introF [] (fn := Try.f81) Try.func81 rfl Try.call81 (by simp [Try.ntmps81]) (by simp [mx]) ?_
  intro hwf B hnt
  have hw : wProds l := w_prods hwf.1
  obtain ⟨hw1, hw2, hw3⟩ := hw
  clear hwf hw3
  simp only [argS]
  (repeat (first
      | (refine DW_seq fun K hK => ?_)
      | (refine DW_r anW8181 Try.mixed (by kernel_rfl) ?_; simp [hnt, Try.ntmps81, Try.results81, anW8181]; try simp (disch := omega) only [wrap64_in])
      | (refine DW_block ?_)
      | (focus (refine DW_if ?_ ?_ ?_; (· (simp [hnt, Try.ntmps81, Try.results81, anW8181]; done)); (try (rotate_left; (· (intro hc; (try simp [hnt, Try.ntmps81, Try.results81, anW8181] at hc); done))))))
      | (refine DW_ret ?_; simp [hnt, Try.ntmps81, Try.results81, anW8181])
      | (refine DW_exit ?_; simp [hnt, Try.ntmps81, Try.results81, anW8181])
      | (refine DW_skip ?_; simp [hnt, Try.ntmps81, Try.results81, anW8181])
      | (intro hc; (try simp [hnt, Try.ntmps81, Try.results81, anW8181] at hc); done)
      | (intro hc; (try simp [hnt, Try.ntmps81, Try.results81, anW8181] at hc); (first | (exfalso; omega) | skip))
      | (refine ⟨?_, ?_⟩; · omega)
      | omega
      | apply_assumption -exfalso -symm
      | (exfalso; omega)))
  refine DW_loop (X := {k : Nat // k ≤ l.length ∧ ∀ i x, i < k → l[i]? = some x → q x = false}) (fun x => ⟨[(0, dProds l), (1, .fn (.func g) us cs), (7, .int .i64 l.length), (8, .int .i64 x.1)], []⟩) (fun x => l.length - x.1) ⟨0, by simp⟩ (Sub.lit (by simp)) ?_
  rintro ⟨k, hk, hno⟩
  by_cases hlt : k < l.length
  · obtain ⟨x, hx, hx', hxm⟩ := at_lt' hlt
    have hqx := hq x hxm
    simp only [dProd, List.append_assoc, List.cons_append, List.nil_append] at hqx
    cases hb : q x
    · rw [hb] at hqx
      have hno' : ∀ i y, i < k + 1 → l[i]? = some y → q y = false := by
        intro i y hi hy
        by_cases hik : i = k
        · subst hik; rw [hx] at hy; simp only [Option.some.injEq] at hy; subst hy; exact hb
        · exact hno i y (by omega) hy
      (repeat (first
          | (refine DW_seq fun K hK => ?_)
          | (refine DW_r anW8181 Try.mixed (by kernel_rfl) ?_; simp [hnt, Try.ntmps81, Try.results81, anW8181, dProd, hlt, hx']; try simp (disch := omega) only [wrap64_in])
          | (refine DW_block ?_)
          | (focus (refine DW_if ?_ ?_ ?_; (· (simp [hnt, Try.ntmps81, Try.results81, anW8181, dProd, hlt, hx']; done)); (try (rotate_left; (· (intro hc; (try simp [hnt, Try.ntmps81, Try.results81, anW8181, dProd, hlt, hx'] at hc); done))))))
          | (refine DW_ret ?_; simp [hnt, Try.ntmps81, Try.results81, anW8181, dProd, hlt, hx'])
          | (refine DW_exit ?_; simp [hnt, Try.ntmps81, Try.results81, anW8181, dProd, hlt, hx'])
          | (refine DW_skip ?_; simp [hnt, Try.ntmps81, Try.results81, anW8181, dProd, hlt, hx'])
          | (intro hc; (try simp [hnt, Try.ntmps81, Try.results81, anW8181, dProd, hlt, hx'] at hc); done)
          | (intro hc; (try simp [hnt, Try.ntmps81, Try.results81, anW8181, dProd, hlt, hx'] at hc); (first | (exfalso; omega) | skip))
          | (refine callP_mk (hqx) ?_; try simp [hnt, Try.ntmps81, Try.results81, anW8181, dProd, hlt, hx'])
          | (refine callP_wk (hqx) ?_ ?_; (· (simp; done)); try simp [hnt, Try.ntmps81, Try.results81, anW8181, dProd, hlt, hx'])
          | (refine ⟨?_, ?_⟩; · omega)
          | omega
          | apply_assumption -exfalso -symm
          | (exfalso; omega)))
      exact Again.mk ⟨k + 1, by omega, hno'⟩ (Sub.lit (by simp [])) (by simp; omega)
      (repeat (first
          | (refine DW_seq fun K hK => ?_)
          | (refine DW_r anW8181 Try.mixed (by kernel_rfl) ?_; simp [hnt, Try.ntmps81, Try.results81, anW8181, dProd, hlt, hx']; try simp (disch := omega) only [wrap64_in])
          | (refine DW_block ?_)
          | (focus (refine DW_if ?_ ?_ ?_; (· (simp [hnt, Try.ntmps81, Try.results81, anW8181, dProd, hlt, hx']; done)); (try (rotate_left; (· (intro hc; (try simp [hnt, Try.ntmps81, Try.results81, anW8181, dProd, hlt, hx'] at hc); done))))))
          | (refine DW_ret ?_; simp [hnt, Try.ntmps81, Try.results81, anW8181, dProd, hlt, hx'])
          | (refine DW_exit ?_; simp [hnt, Try.ntmps81, Try.results81, anW8181, dProd, hlt, hx'])
          | (refine DW_skip ?_; simp [hnt, Try.ntmps81, Try.results81, anW8181, dProd, hlt, hx'])
          | (intro hc; (try simp [hnt, Try.ntmps81, Try.results81, anW8181, dProd, hlt, hx'] at hc); done)
          | (intro hc; (try simp [hnt, Try.ntmps81, Try.results81, anW8181, dProd, hlt, hx'] at hc); (first | (exfalso; omega) | skip))
          | (refine callP_mk (hqx) ?_; try simp [hnt, Try.ntmps81, Try.results81, anW8181, dProd, hlt, hx'])
          | (refine callP_wk (hqx) ?_ ?_; (· (simp; done)); try simp [hnt, Try.ntmps81, Try.results81, anW8181, dProd, hlt, hx'])
          | (refine ⟨?_, ?_⟩; · omega)
          | omega
          | apply_assumption -exfalso -symm
          | (exfalso; omega)))
    · rw [hb] at hqx
      have hany : l.any q = true := List.any_eq_true.2 ⟨x, hxm, hb⟩
      have hidx : l.findIdx q = k := by
        rw [List.findIdx_eq hlt]
        refine ⟨by rw [hx']; exact hb, fun i hi => ?_⟩
        exact hno i _ hi (List.getElem?_eq_getElem (by omega))
      (repeat (first
          | (refine DW_seq fun K hK => ?_)
          | (refine DW_r anW8181 Try.mixed (by kernel_rfl) ?_; simp [hnt, Try.ntmps81, Try.results81, anW8181, dProd, hlt, hx', hany, hidx]; try simp (disch := omega) only [wrap64_in])
          | (refine DW_block ?_)
          | (focus (refine DW_if ?_ ?_ ?_; (· (simp [hnt, Try.ntmps81, Try.results81, anW8181, dProd, hlt, hx', hany, hidx]; done)); (try (rotate_left; (· (intro hc; (try simp [hnt, Try.ntmps81, Try.results81, anW8181, dProd, hlt, hx', hany, hidx] at hc); done))))))
          | (refine DW_ret ?_; simp [hnt, Try.ntmps81, Try.results81, anW8181, dProd, hlt, hx', hany, hidx])
          | (refine DW_exit ?_; simp [hnt, Try.ntmps81, Try.results81, anW8181, dProd, hlt, hx', hany, hidx])
          | (refine DW_skip ?_; simp [hnt, Try.ntmps81, Try.results81, anW8181, dProd, hlt, hx', hany, hidx])
          | (intro hc; (try simp [hnt, Try.ntmps81, Try.results81, anW8181, dProd, hlt, hx', hany, hidx] at hc); done)
          | (intro hc; (try simp [hnt, Try.ntmps81, Try.results81, anW8181, dProd, hlt, hx', hany, hidx] at hc); (first | (exfalso; omega) | skip))
          | (refine callP_mk (hqx) ?_; try simp [hnt, Try.ntmps81, Try.results81, anW8181, dProd, hlt, hx', hany, hidx])
          | (refine callP_wk (hqx) ?_ ?_; (· (simp; done)); try simp [hnt, Try.ntmps81, Try.results81, anW8181, dProd, hlt, hx', hany, hidx])
          | (refine ⟨?_, ?_⟩; · omega)
          | omega
          | apply_assumption -exfalso -symm
          | (exfalso; omega)))
  · have hkk : k = l.length := by omega
    have hany : l.any q = false := by
      rw [List.any_eq_false]
      intro x hx
      obtain ⟨i, hi, rfl⟩ := List.getElem_of_mem hx
      rw [hno i _ (by omega) (List.getElem?_eq_getElem hi)]
      simp
    (repeat (first
        | (refine DW_seq fun K hK => ?_)
        | (refine DW_r anW8181 Try.mixed (by kernel_rfl) ?_; simp [hnt, Try.ntmps81, Try.results81, anW8181, dProd, hkk, hany]; try simp (disch := omega) only [wrap64_in])
        | (refine DW_block ?_)
        | (focus (refine DW_if ?_ ?_ ?_; (· (simp [hnt, Try.ntmps81, Try.results81, anW8181, dProd, hkk, hany]; done)); (try (rotate_left; (· (intro hc; (try simp [hnt, Try.ntmps81, Try.results81, anW8181, dProd, hkk, hany] at hc); done))))))
        | (refine DW_ret ?_; simp [hnt, Try.ntmps81, Try.results81, anW8181, dProd, hkk, hany])
        | (refine DW_exit ?_; simp [hnt, Try.ntmps81, Try.results81, anW8181, dProd, hkk, hany])
        | (refine DW_skip ?_; simp [hnt, Try.ntmps81, Try.results81, anW8181, dProd, hkk, hany])
        | (intro hc; (try simp [hnt, Try.ntmps81, Try.results81, anW8181, dProd, hkk, hany] at hc); done)
        | (intro hc; (try simp [hnt, Try.ntmps81, Try.results81, anW8181, dProd, hkk, hany] at hc); (first | (exfalso; omega) | skip))
        | (refine callP_mk (hqx) ?_; try simp [hnt, Try.ntmps81, Try.results81, anW8181, dProd, hkk, hany])
        | (refine callP_wk (hqx) ?_ ?_; (· (simp; done)); try simp [hnt, Try.ntmps81, Try.results81, anW8181, dProd, hkk, hany])
        | (refine ⟨?_, ?_⟩; · omega)
        | omega
        | apply_assumption -exfalso -symm
        | (exfalso; omega)))

def anW8141 : Ann := ⟨[], []⟩
theorem containsFunc41_pure (g : FuncId) (us cs : List DVal) (l : List Prod) (q : Prod → Bool) (hq : ∀ x ∈ l, DPure Try.prog g (us ++ [.agg (dProd x)] ++ cs) (.bool (q x))) :
    DPure Try.prog 41 [dProds l, .fn (.func g) us cs] (.bool (l.any q)) := by
  refine DPure_introF [] (fn := Try.f41) Try.func41 rfl Try.call41 (by simp [Try.ntmps41]) (by simp [mx]) ?_
  intro hwf B hnt
  simp only [argS]
  have hi := indexFunc81_pure g us cs l q hq
  have hge : (0 : Int) ≤ (l.findIdx q : Nat) := by omega
  cases hb : l.any q
  · rw [hb] at hi
    (repeat (first
        | (refine DW_seq fun K hK => ?_)
        | (refine DW_r anW8141 Try.mixed (by kernel_rfl) ?_; simp [hnt, Try.ntmps41, Try.results41, anW8141, hb]; try simp (disch := omega) only [wrap64_in])
        | (refine DW_block ?_)
        | (focus (refine DW_if ?_ ?_ ?_; (· (simp [hnt, Try.ntmps41, Try.results41, anW8141, hb]; done)); (try (rotate_left; (· (intro hc; (try simp [hnt, Try.ntmps41, Try.results41, anW8141, hb] at hc); done))))))
        | (refine DW_ret ?_; simp [hnt, Try.ntmps41, Try.results41, anW8141, hb])
        | (refine DW_exit ?_; simp [hnt, Try.ntmps41, Try.results41, anW8141, hb])
        | (refine DW_skip ?_; simp [hnt, Try.ntmps41, Try.results41, anW8141, hb])
        | (intro hc; (try simp [hnt, Try.ntmps41, Try.results41, anW8141, hb] at hc); done)
        | (intro hc; (try simp [hnt, Try.ntmps41, Try.results41, anW8141, hb] at hc); (first | (exfalso; omega) | skip))
        | (refine callP_mk (hi) ?_; try simp [hnt, Try.ntmps41, Try.results41, anW8141, hb])
        | (refine callP_wk (hi) ?_ ?_; (· (simp; done)); try simp [hnt, Try.ntmps41, Try.results41, anW8141, hb])
        | (refine ⟨?_, ?_⟩; · omega)
        | omega
        | apply_assumption -exfalso -symm
        | (exfalso; omega)))
  · rw [hb] at hi
    (repeat (first
        | (refine DW_seq fun K hK => ?_)
        | (refine DW_r anW8141 Try.mixed (by kernel_rfl) ?_; simp [hnt, Try.ntmps41, Try.results41, anW8141, hb]; try simp (disch := omega) only [wrap64_in])
        | (refine DW_block ?_)
        | (focus (refine DW_if ?_ ?_ ?_; (· (simp [hnt, Try.ntmps41, Try.results41, anW8141, hb]; done)); (try (rotate_left; (· (intro hc; (try simp [hnt, Try.ntmps41, Try.results41, anW8141, hb] at hc); done))))))
        | (refine DW_ret ?_; simp [hnt, Try.ntmps41, Try.results41, anW8141, hb])
        | (refine DW_exit ?_; simp [hnt, Try.ntmps41, Try.results41, anW8141, hb])
        | (refine DW_skip ?_; simp [hnt, Try.ntmps41, Try.results41, anW8141, hb])
        | (intro hc; (try simp [hnt, Try.ntmps41, Try.results41, anW8141, hb] at hc); done)
        | (intro hc; (try simp [hnt, Try.ntmps41, Try.results41, anW8141, hb] at hc); (first | (exfalso; omega) | skip))
        | (refine callP_mk (hi) ?_; try simp [hnt, Try.ntmps41, Try.results41, anW8141, hb])
        | (refine callP_wk (hi) ?_ ?_; (· (simp; done)); try simp [hnt, Try.ntmps41, Try.results41, anW8141, hb])
        | (refine ⟨?_, ?_⟩; · omega)
        | omega
        | apply_assumption -exfalso -symm
        | (exfalso; omega)))
end Go.Proofs.Ytihkcegelghcpaa
end

section
/- A part of a proof: walks over the functions that it names; their contracts hold for every argument. -/



set_option linter.unusedSimpArgs false
set_option linter.unusedVariables false
namespace Go.Proofs.Ytihkcegelghcpaa
open Go Go.Dm
attribute [local irreducible] DW callP callS
set_option maxRecDepth 100000

def isOther (p : Prod) : Bool := formOf p.body == 0
def cnfWeak (c : Cnf) : Bool := cnfOK c && !c.prods.any isOther
def anW1342 : Ann := ⟨[], []⟩
theorem is1_pure (p : Prod) : DPure Try.prog 42 [.agg (dProd p)] (.bool (isOther p)) := by
  refine DPure_introF [] (fn := Try.f42) Try.func42 rfl Try.call42 (by simp [Try.ntmps42]) (by simp [mx]) ?_
  intro hwf B hnt
  simp only [argS]
  (repeat (first
      | (refine DW_seq fun K hK => ?_)
      | (refine DW_r anW1342 Try.mixed (by kernel_rfl) ?_; simp [hnt, Try.ntmps42, Try.results42, anW1342, dProd, isOther]; try simp (disch := omega) only [wrap64_in])
      | (refine DW_block ?_)
      | (focus (refine DW_if ?_ ?_ ?_; (· (simp [hnt, Try.ntmps42, Try.results42, anW1342, dProd, isOther]; done)); (try (rotate_left; (· (intro hc; (try simp [hnt, Try.ntmps42, Try.results42, anW1342, dProd, isOther] at hc); done))))))
      | (refine DW_ret ?_; simp [hnt, Try.ntmps42, Try.results42, anW1342, dProd, isOther])
      | (refine DW_exit ?_; simp [hnt, Try.ntmps42, Try.results42, anW1342, dProd, isOther])
      | (refine DW_skip ?_; simp [hnt, Try.ntmps42, Try.results42, anW1342, dProd, isOther])
      | (intro hc; (try simp [hnt, Try.ntmps42, Try.results42, anW1342, dProd, isOther] at hc); done)
      | (intro hc; (try simp [hnt, Try.ntmps42, Try.results42, anW1342, dProd, isOther] at hc); (first | (exfalso; omega) | skip))
      | (refine callP_mk (of_pure p.body) ?_; try simp [hnt, Try.ntmps42, Try.results42, anW1342, dProd, isOther])
      | (refine callP_wk (of_pure p.body) ?_ ?_; (· (simp; done)); try simp [hnt, Try.ntmps42, Try.results42, anW1342, dProd, isOther])
      | (refine ⟨?_, ?_⟩; · omega)
      | omega
      | apply_assumption -exfalso -symm
      | (exfalso; omega)))

def anW1313 : Ann := ⟨[], []⟩
theorem is_pure (c : Cnf) : DPure Try.prog 13 [.agg (dCnf c)] (.bool (cnfWeak c)) := by
  refine DPure_introF [] (fn := Try.f13) Try.func13 rfl Try.call13 (by simp [Try.ntmps13]) (by simp [mx]) ?_
  intro hwf B hnt
  simp only [argS]
  have hq := containsFunc41_pure 42 [] [] c.prods isOther (fun x _ => is1_pure x)
  have hc := check_pure c
  simp only [dCnf] at hc
  cases h1 : cnfOK c
  · rw [h1] at hc
    (repeat (first
        | (refine DW_seq fun K hK => ?_)
        | (refine DW_r anW1313 Try.mixed (by kernel_rfl) ?_; simp [hnt, Try.ntmps13, Try.results13, anW1313, dCnf, cnfWeak, h1]; try simp (disch := omega) only [wrap64_in])
        | (refine DW_block ?_)
        | (focus (refine DW_if ?_ ?_ ?_; (· (simp [hnt, Try.ntmps13, Try.results13, anW1313, dCnf, cnfWeak, h1]; done)); (try (rotate_left; (· (intro hc; (try simp [hnt, Try.ntmps13, Try.results13, anW1313, dCnf, cnfWeak, h1] at hc); done))))))
        | (refine DW_ret ?_; simp [hnt, Try.ntmps13, Try.results13, anW1313, dCnf, cnfWeak, h1])
        | (refine DW_exit ?_; simp [hnt, Try.ntmps13, Try.results13, anW1313, dCnf, cnfWeak, h1])
        | (refine DW_skip ?_; simp [hnt, Try.ntmps13, Try.results13, anW1313, dCnf, cnfWeak, h1])
        | (intro hc; (try simp [hnt, Try.ntmps13, Try.results13, anW1313, dCnf, cnfWeak, h1] at hc); done)
        | (intro hc; (try simp [hnt, Try.ntmps13, Try.results13, anW1313, dCnf, cnfWeak, h1] at hc); (first | (exfalso; omega) | skip))
        | (refine callP_mk (hc) ?_; try simp [hnt, Try.ntmps13, Try.results13, anW1313, dCnf, cnfWeak, h1])
        | (refine callP_wk (hc) ?_ ?_; (· (simp; done)); try simp [hnt, Try.ntmps13, Try.results13, anW1313, dCnf, cnfWeak, h1])
        | (refine callP_mk (hq) ?_; try simp [hnt, Try.ntmps13, Try.results13, anW1313, dCnf, cnfWeak, h1])
        | (refine callP_wk (hq) ?_ ?_; (· (simp; done)); try simp [hnt, Try.ntmps13, Try.results13, anW1313, dCnf, cnfWeak, h1])
        | (refine ⟨?_, ?_⟩; · omega)
        | omega
        | apply_assumption -exfalso -symm
        | (exfalso; omega)))
  · rw [h1] at hc
    cases h2 : c.prods.any isOther
    · rw [h2] at hq
      (repeat (first
          | (refine DW_seq fun K hK => ?_)
          | (refine DW_r anW1313 Try.mixed (by kernel_rfl) ?_; simp [hnt, Try.ntmps13, Try.results13, anW1313, dCnf, cnfWeak, h1, h2]; try simp (disch := omega) only [wrap64_in])
          | (refine DW_block ?_)
          | (focus (refine DW_if ?_ ?_ ?_; (· (simp [hnt, Try.ntmps13, Try.results13, anW1313, dCnf, cnfWeak, h1, h2]; done)); (try (rotate_left; (· (intro hc; (try simp [hnt, Try.ntmps13, Try.results13, anW1313, dCnf, cnfWeak, h1, h2] at hc); done))))))
          | (refine DW_ret ?_; simp [hnt, Try.ntmps13, Try.results13, anW1313, dCnf, cnfWeak, h1, h2])
          | (refine DW_exit ?_; simp [hnt, Try.ntmps13, Try.results13, anW1313, dCnf, cnfWeak, h1, h2])
          | (refine DW_skip ?_; simp [hnt, Try.ntmps13, Try.results13, anW1313, dCnf, cnfWeak, h1, h2])
          | (intro hc; (try simp [hnt, Try.ntmps13, Try.results13, anW1313, dCnf, cnfWeak, h1, h2] at hc); done)
          | (intro hc; (try simp [hnt, Try.ntmps13, Try.results13, anW1313, dCnf, cnfWeak, h1, h2] at hc); (first | (exfalso; omega) | skip))
          | (refine callP_mk (hc) ?_; try simp [hnt, Try.ntmps13, Try.results13, anW1313, dCnf, cnfWeak, h1, h2])
          | (refine callP_wk (hc) ?_ ?_; (· (simp; done)); try simp [hnt, Try.ntmps13, Try.results13, anW1313, dCnf, cnfWeak, h1, h2])
          | (refine callP_mk (hq) ?_; try simp [hnt, Try.ntmps13, Try.results13, anW1313, dCnf, cnfWeak, h1, h2])
          | (refine callP_wk (hq) ?_ ?_; (· (simp; done)); try simp [hnt, Try.ntmps13, Try.results13, anW1313, dCnf, cnfWeak, h1, h2])
          | (refine ⟨?_, ?_⟩; · omega)
          | omega
          | apply_assumption -exfalso -symm
          | (exfalso; omega)))
    · rw [h2] at hq
      (repeat (first
          | (refine DW_seq fun K hK => ?_)
          | (refine DW_r anW1313 Try.mixed (by kernel_rfl) ?_; simp [hnt, Try.ntmps13, Try.results13, anW1313, dCnf, cnfWeak, h1, h2]; try simp (disch := omega) only [wrap64_in])
          | (refine DW_block ?_)
          | (focus (refine DW_if ?_ ?_ ?_; (· (simp [hnt, Try.ntmps13, Try.results13, anW1313, dCnf, cnfWeak, h1, h2]; done)); (try (rotate_left; (· (intro hc; (try simp [hnt, Try.ntmps13, Try.results13, anW1313, dCnf, cnfWeak, h1, h2] at hc); done))))))
          | (refine DW_ret ?_; simp [hnt, Try.ntmps13, Try.results13, anW1313, dCnf, cnfWeak, h1, h2])
          | (refine DW_exit ?_; simp [hnt, Try.ntmps13, Try.results13, anW1313, dCnf, cnfWeak, h1, h2])
          | (refine DW_skip ?_; simp [hnt, Try.ntmps13, Try.results13, anW1313, dCnf, cnfWeak, h1, h2])
          | (intro hc; (try simp [hnt, Try.ntmps13, Try.results13, anW1313, dCnf, cnfWeak, h1, h2] at hc); done)
          | (intro hc; (try simp [hnt, Try.ntmps13, Try.results13, anW1313, dCnf, cnfWeak, h1, h2] at hc); (first | (exfalso; omega) | skip))
          | (refine callP_mk (hc) ?_; try simp [hnt, Try.ntmps13, Try.results13, anW1313, dCnf, cnfWeak, h1, h2])
          | (refine callP_wk (hc) ?_ ?_; (· (simp; done)); try simp [hnt, Try.ntmps13, Try.results13, anW1313, dCnf, cnfWeak, h1, h2])
          | (refine callP_mk (hq) ?_; try simp [hnt, Try.ntmps13, Try.results13, anW1313, dCnf, cnfWeak, h1, h2])
          | (refine callP_wk (hq) ?_ ?_; (· (simp; done)); try simp [hnt, Try.ntmps13, Try.results13, anW1313, dCnf, cnfWeak, h1, h2])
          | (refine ⟨?_, ?_⟩; · omega)
          | omega
          | apply_assumption -exfalso -symm
          | (exfalso; omega)))

def anW1316 : Ann := ⟨[], []⟩
theorem head14_pure : DPure Try.prog 16 [] (.bool true) := by
  refine DPure_introF [] (fn := Try.f16) Try.func16 rfl Try.call16 (by simp [Try.ntmps16]) (by simp [mx]) ?_
  intro hwf B hnt
  simp only [argS]
  have h1 := is_pure ⟨1, []⟩
  have h2 := is_pure ⟨0, []⟩
  have e1 : cnfWeak ⟨1, []⟩ = true := by decide
  have e2 : cnfWeak ⟨0, []⟩ = false := by decide
  rw [e1] at h1
  rw [e2] at h2
  simp only [dCnf, dProds, List.map_nil] at h1 h2
  (repeat (first
      | (refine DW_seq fun K hK => ?_)
      | (refine DW_r anW1316 Try.mixed (by kernel_rfl) ?_; simp [hnt, Try.ntmps16, Try.results16, anW1316]; try simp (disch := omega) only [wrap64_in])
      | (refine DW_block ?_)
      | (focus (refine DW_if ?_ ?_ ?_; (· (simp [hnt, Try.ntmps16, Try.results16, anW1316]; done)); (try (rotate_left; (· (intro hc; (try simp [hnt, Try.ntmps16, Try.results16, anW1316] at hc); done))))))
      | (refine DW_ret ?_; simp [hnt, Try.ntmps16, Try.results16, anW1316])
      | (refine DW_exit ?_; simp [hnt, Try.ntmps16, Try.results16, anW1316])
      | (refine DW_skip ?_; simp [hnt, Try.ntmps16, Try.results16, anW1316])
      | (intro hc; (try simp [hnt, Try.ntmps16, Try.results16, anW1316] at hc); done)
      | (intro hc; (try simp [hnt, Try.ntmps16, Try.results16, anW1316] at hc); (first | (exfalso; omega) | skip))
      | (refine callP_mk (h1) ?_; try simp [hnt, Try.ntmps16, Try.results16, anW1316])
      | (refine callP_wk (h1) ?_ ?_; (· (simp; done)); try simp [hnt, Try.ntmps16, Try.results16, anW1316])
      | (refine callP_mk (h2) ?_; try simp [hnt, Try.ntmps16, Try.results16, anW1316])
      | (refine callP_wk (h2) ?_ ?_; (· (simp; done)); try simp [hnt, Try.ntmps16, Try.results16, anW1316])
      | (refine ⟨?_, ?_⟩; · omega)
      | omega
      | apply_assumption -exfalso -symm
      | (exfalso; omega)))
end Go.Proofs.Ytihkcegelghcpaa
end

section
/- A part of a proof: walks over the functions that it names; their contracts hold for every argument. -/

set_option linter.unusedSimpArgs false
set_option linter.unusedVariables false
namespace Go.Proofs.Ytihkcegelghcpaa
open Go Go.Dm
attribute [local irreducible] DW callP callS
set_option maxRecDepth 100000

def anW4545 : Ann := ⟨[], []⟩
theorem weak_pure (l : List Sym) : DPure Try.prog 45 [dSyms l] (.bool (!(formOf l == 0))) := by
  refine DPure_introF [] (fn := Try.f45) Try.func45 rfl Try.call45 (by simp [Try.ntmps45]) (by simp [mx]) ?_
  intro hwf B hnt
  simp only [argS]
  match l with
  | [] => (repeat (first
      | (refine DW_seq fun K hK => ?_)
      | (refine DW_r anW4545 Try.mixed (by kernel_rfl) ?_; simp [hnt, Try.ntmps45, Try.results45, anW4545, dSym, formOf]; try simp (disch := omega) only [wrap64_in])
      | (refine DW_block ?_)
      | (focus (refine DW_if ?_ ?_ ?_; (· (simp [hnt, Try.ntmps45, Try.results45, anW4545, dSym, formOf]; done)); (try (rotate_left; (· (intro hc; (try simp [hnt, Try.ntmps45, Try.results45, anW4545, dSym, formOf] at hc); done))))))
      | (refine DW_ret ?_; simp [hnt, Try.ntmps45, Try.results45, anW4545, dSym, formOf])
      | (refine DW_exit ?_; simp [hnt, Try.ntmps45, Try.results45, anW4545, dSym, formOf])
      | (refine DW_skip ?_; simp [hnt, Try.ntmps45, Try.results45, anW4545, dSym, formOf])
      | (intro hc; (try simp [hnt, Try.ntmps45, Try.results45, anW4545, dSym, formOf] at hc); done)
      | (intro hc; (try simp [hnt, Try.ntmps45, Try.results45, anW4545, dSym, formOf] at hc); (first | (exfalso; omega) | skip))
      | (refine ⟨?_, ?_⟩; · omega)
      | omega
      | apply_assumption -exfalso -symm
      | (exfalso; omega)))
  | [s] => cases hl : s.label <;> (repeat (first
      | (refine DW_seq fun K hK => ?_)
      | (refine DW_r anW4545 Try.mixed (by kernel_rfl) ?_; simp [hnt, Try.ntmps45, Try.results45, anW4545, dSym, formOf, hl]; try simp (disch := omega) only [wrap64_in])
      | (refine DW_block ?_)
      | (focus (refine DW_if ?_ ?_ ?_; (· (simp [hnt, Try.ntmps45, Try.results45, anW4545, dSym, formOf, hl]; done)); (try (rotate_left; (· (intro hc; (try simp [hnt, Try.ntmps45, Try.results45, anW4545, dSym, formOf, hl] at hc); done))))))
      | (refine DW_ret ?_; simp [hnt, Try.ntmps45, Try.results45, anW4545, dSym, formOf, hl])
      | (refine DW_exit ?_; simp [hnt, Try.ntmps45, Try.results45, anW4545, dSym, formOf, hl])
      | (refine DW_skip ?_; simp [hnt, Try.ntmps45, Try.results45, anW4545, dSym, formOf, hl])
      | (intro hc; (try simp [hnt, Try.ntmps45, Try.results45, anW4545, dSym, formOf, hl] at hc); done)
      | (intro hc; (try simp [hnt, Try.ntmps45, Try.results45, anW4545, dSym, formOf, hl] at hc); (first | (exfalso; omega) | skip))
      | (refine ⟨?_, ?_⟩; · omega)
      | omega
      | apply_assumption -exfalso -symm
      | (exfalso; omega)))
  | [s, t] => cases hl : s.label <;> cases ht : t.label <;> (repeat (first
      | (refine DW_seq fun K hK => ?_)
      | (refine DW_r anW4545 Try.mixed (by kernel_rfl) ?_; simp [hnt, Try.ntmps45, Try.results45, anW4545, dSym, formOf, hl, ht]; try simp (disch := omega) only [wrap64_in])
      | (refine DW_block ?_)
      | (focus (refine DW_if ?_ ?_ ?_; (· (simp [hnt, Try.ntmps45, Try.results45, anW4545, dSym, formOf, hl, ht]; done)); (try (rotate_left; (· (intro hc; (try simp [hnt, Try.ntmps45, Try.results45, anW4545, dSym, formOf, hl, ht] at hc); done))))))
      | (refine DW_ret ?_; simp [hnt, Try.ntmps45, Try.results45, anW4545, dSym, formOf, hl, ht])
      | (refine DW_exit ?_; simp [hnt, Try.ntmps45, Try.results45, anW4545, dSym, formOf, hl, ht])
      | (refine DW_skip ?_; simp [hnt, Try.ntmps45, Try.results45, anW4545, dSym, formOf, hl, ht])
      | (intro hc; (try simp [hnt, Try.ntmps45, Try.results45, anW4545, dSym, formOf, hl, ht] at hc); done)
      | (intro hc; (try simp [hnt, Try.ntmps45, Try.results45, anW4545, dSym, formOf, hl, ht] at hc); (first | (exfalso; omega) | skip))
      | (refine ⟨?_, ?_⟩; · omega)
      | omega
      | apply_assumption -exfalso -symm
      | (exfalso; omega)))
  | s :: t :: u :: r =>
    have hlen : ¬ ((r.length : Int) + 1 + 1 + 1 = 0) ∧ ¬ ((r.length : Int) + 1 + 1 + 1 = 1) ∧ ¬ ((r.length : Int) + 1 + 1 + 1 = 2) := by omega
    obtain ⟨g1, g2, g3⟩ := hlen
    (repeat (first
        | (refine DW_seq fun K hK => ?_)
        | (refine DW_r anW4545 Try.mixed (by kernel_rfl) ?_; simp [hnt, Try.ntmps45, Try.results45, anW4545, dSym, formOf, g1, g2, g3]; try simp (disch := omega) only [wrap64_in])
        | (refine DW_block ?_)
        | (focus (refine DW_if ?_ ?_ ?_; (· (simp [hnt, Try.ntmps45, Try.results45, anW4545, dSym, formOf, g1, g2, g3]; done)); (try (rotate_left; (· (intro hc; (try simp [hnt, Try.ntmps45, Try.results45, anW4545, dSym, formOf, g1, g2, g3] at hc); done))))))
        | (refine DW_ret ?_; simp [hnt, Try.ntmps45, Try.results45, anW4545, dSym, formOf, g1, g2, g3])
        | (refine DW_exit ?_; simp [hnt, Try.ntmps45, Try.results45, anW4545, dSym, formOf, g1, g2, g3])
        | (refine DW_skip ?_; simp [hnt, Try.ntmps45, Try.results45, anW4545, dSym, formOf, g1, g2, g3])
        | (intro hc; (try simp [hnt, Try.ntmps45, Try.results45, anW4545, dSym, formOf, g1, g2, g3] at hc); done)
        | (intro hc; (try simp [hnt, Try.ntmps45, Try.results45, anW4545, dSym, formOf, g1, g2, g3] at hc); (first | (exfalso; omega) | skip))
        | (refine ⟨?_, ?_⟩; · omega)
        | omega
        | apply_assumption -exfalso -symm
        | (exfalso; omega)))

def anW4528 : Ann := ⟨[], [⟨6, [4], [], []⟩, ⟨12, [6], [], []⟩]⟩
set_option maxHeartbeats 4000000 in
theorem rcheck_pure (c : Cnf) : DPure Try.prog 28 [.agg (dCnf c)] (.int .i64 (if cnfOK c then 0 else 220)) := by
  refine DPure_introF [] (fn := Try.f28) Try.func28 rfl Try.call28 (by simp [Try.ntmps28]) (by simp [mx]) ?_
  intro hwf B hnt
  have hw : wCnf c := w_cnf (by simpa [wfL, wfD] using hwf.1)
  obtain ⟨hw1, hw2, hw3, hw4⟩ := hw
  clear hwf hw1
  simp only [argS]
  by_cases h1 : 1 ≤ c.nts
  rotate_left
  · have h1' : c.nts < 1 := by omega
    have hno : cnfOK c = false := by simp [cnfOK, h1]
    (repeat (first
        | (refine DW_seq fun K hK => ?_)
        | (refine DW_r anW4528 Try.mixed (by kernel_rfl) ?_; simp [hnt, Try.ntmps28, Try.results28, anW4528, dCnf, h1', hno]; try simp (disch := omega) only [wrap64_in])
        | (refine DW_block ?_)
        | (focus (refine DW_if ?_ ?_ ?_; (· (simp [hnt, Try.ntmps28, Try.results28, anW4528, dCnf, h1', hno]; done)); (try (rotate_left; (· (intro hc; (try simp [hnt, Try.ntmps28, Try.results28, anW4528, dCnf, h1', hno] at hc); done))))))
        | (refine DW_ret ?_; simp [hnt, Try.ntmps28, Try.results28, anW4528, dCnf, h1', hno])
        | (refine DW_exit ?_; simp [hnt, Try.ntmps28, Try.results28, anW4528, dCnf, h1', hno])
        | (refine DW_skip ?_; simp [hnt, Try.ntmps28, Try.results28, anW4528, dCnf, h1', hno])
        | (intro hc; (try simp [hnt, Try.ntmps28, Try.results28, anW4528, dCnf, h1', hno] at hc); done)
        | (intro hc; (try simp [hnt, Try.ntmps28, Try.results28, anW4528, dCnf, h1', hno] at hc); (first | (exfalso; omega) | skip))
        | (refine ⟨?_, ?_⟩; · omega)
        | omega
        | apply_assumption -exfalso -symm
        | (exfalso; omega)))
  by_cases h2 : c.nts ≤ 1024
  rotate_left
  · have h2' : 1024 < c.nts := by omega
    have h1' : ¬ c.nts < 1 := by omega
    have hno : cnfOK c = false := by simp [cnfOK, h2]
    (repeat (first
        | (refine DW_seq fun K hK => ?_)
        | (refine DW_r anW4528 Try.mixed (by kernel_rfl) ?_; simp [hnt, Try.ntmps28, Try.results28, anW4528, dCnf, h1', h2', hno]; try simp (disch := omega) only [wrap64_in])
        | (refine DW_block ?_)
        | (focus (refine DW_if ?_ ?_ ?_; (· (simp [hnt, Try.ntmps28, Try.results28, anW4528, dCnf, h1', h2', hno]; done)); (try (rotate_left; (· (intro hc; (try simp [hnt, Try.ntmps28, Try.results28, anW4528, dCnf, h1', h2', hno] at hc); done))))))
        | (refine DW_ret ?_; simp [hnt, Try.ntmps28, Try.results28, anW4528, dCnf, h1', h2', hno])
        | (refine DW_exit ?_; simp [hnt, Try.ntmps28, Try.results28, anW4528, dCnf, h1', h2', hno])
        | (refine DW_skip ?_; simp [hnt, Try.ntmps28, Try.results28, anW4528, dCnf, h1', h2', hno])
        | (intro hc; (try simp [hnt, Try.ntmps28, Try.results28, anW4528, dCnf, h1', h2', hno] at hc); done)
        | (intro hc; (try simp [hnt, Try.ntmps28, Try.results28, anW4528, dCnf, h1', h2', hno] at hc); (first | (exfalso; omega) | skip))
        | (refine ⟨?_, ?_⟩; · omega)
        | omega
        | apply_assumption -exfalso -symm
        | (exfalso; omega)))
  have h1' : ¬ c.nts < 1 := by omega
  have h2' : ¬ 1024 < c.nts := by omega
  have hok : cnfOK c = c.prods.all (prodOK c) := by simp [cnfOK, h1, h2]
  (repeat (first
      | (refine DW_seq fun K hK => ?_)
      | (refine DW_r anW4528 Try.mixed (by kernel_rfl) ?_; simp [hnt, Try.ntmps28, Try.results28, anW4528, dCnf, h1', h2']; try simp (disch := omega) only [wrap64_in])
      | (refine DW_block ?_)
      | (focus (refine DW_if ?_ ?_ ?_; (· (simp [hnt, Try.ntmps28, Try.results28, anW4528, dCnf, h1', h2']; done)); (try (rotate_left; (· (intro hc; (try simp [hnt, Try.ntmps28, Try.results28, anW4528, dCnf, h1', h2'] at hc); done))))))
      | (refine DW_ret ?_; simp [hnt, Try.ntmps28, Try.results28, anW4528, dCnf, h1', h2'])
      | (refine DW_exit ?_; simp [hnt, Try.ntmps28, Try.results28, anW4528, dCnf, h1', h2'])
      | (refine DW_skip ?_; simp [hnt, Try.ntmps28, Try.results28, anW4528, dCnf, h1', h2'])
      | (intro hc; (try simp [hnt, Try.ntmps28, Try.results28, anW4528, dCnf, h1', h2'] at hc); done)
      | (intro hc; (try simp [hnt, Try.ntmps28, Try.results28, anW4528, dCnf, h1', h2'] at hc); (first | (exfalso; omega) | skip))
      | (refine ⟨?_, ?_⟩; · omega)
      | omega
      | apply_assumption -exfalso -symm
      | (exfalso; omega)))
  refine DW_loop (X := {k : Nat // k ≤ c.prods.length ∧ (c.prods.take k).all (prodOK c) = true}) (fun k => ⟨[(1, .ref [.int .i64 c.nts, dProds c.prods]), (3, .int .i64 k.1)], []⟩) (fun k => c.prods.length - k.1) ⟨0, by simp⟩ (Sub.lit (by simp)) ?_
  rintro ⟨k, hk, hkk⟩
  by_cases hlt : k < c.prods.length
  rotate_left
  · have hke : k = c.prods.length := by omega
    subst hke
    rw [List.take_length] at hkk
    rw [hkk] at hok
    (repeat (first
        | (refine DW_seq fun K hK => ?_)
        | (refine DW_r anW4528 Try.mixed (by kernel_rfl) ?_; simp [hnt, Try.ntmps28, Try.results28, anW4528, dCnf, hok]; try simp (disch := omega) only [wrap64_in])
        | (refine DW_block ?_)
        | (focus (refine DW_if ?_ ?_ ?_; (· (simp [hnt, Try.ntmps28, Try.results28, anW4528, dCnf, hok]; done)); (try (rotate_left; (· (intro hc; (try simp [hnt, Try.ntmps28, Try.results28, anW4528, dCnf, hok] at hc); done))))))
        | (refine DW_ret ?_; simp [hnt, Try.ntmps28, Try.results28, anW4528, dCnf, hok])
        | (refine DW_exit ?_; simp [hnt, Try.ntmps28, Try.results28, anW4528, dCnf, hok])
        | (refine DW_skip ?_; simp [hnt, Try.ntmps28, Try.results28, anW4528, dCnf, hok])
        | (intro hc; (try simp [hnt, Try.ntmps28, Try.results28, anW4528, dCnf, hok] at hc); done)
        | (intro hc; (try simp [hnt, Try.ntmps28, Try.results28, anW4528, dCnf, hok] at hc); (first | (exfalso; omega) | skip))
        | (refine ⟨?_, ?_⟩; · omega)
        | omega
        | apply_assumption -exfalso -symm
        | (exfalso; omega)))
  obtain ⟨p, hp, hp', hpm⟩ := at_lt' hlt
  obtain ⟨hw5, hw6, hw7, hw8⟩ := hw4 p hpm
  have hbad : prodOK c p = false → cnfOK c = false := by
    intro hb
    rw [hok, List.all_eq_false]
    exact ⟨p, hpm, by simp [hb]⟩
  have hstep : prodOK c p = true → (c.prods.take (k + 1)).all (prodOK c) = true := by
    intro hb
    rw [List.take_succ_eq_append_getElem hlt, List.all_append, hkk, hp']; simp [hb]
  by_cases hh1 : p.head < 0
  · have := hbad (by simp [prodOK, ntOK, show ¬ (0 ≤ p.head) by omega])
    (repeat (first
        | (refine DW_seq fun K hK => ?_)
        | (refine DW_r anW4528 Try.mixed (by kernel_rfl) ?_; simp [hnt, Try.ntmps28, Try.results28, anW4528, dCnf, dProd, hlt, hp', hh1, this]; try simp (disch := omega) only [wrap64_in])
        | (refine DW_block ?_)
        | (focus (refine DW_if ?_ ?_ ?_; (· (simp [hnt, Try.ntmps28, Try.results28, anW4528, dCnf, dProd, hlt, hp', hh1, this]; done)); (try (rotate_left; (· (intro hc; (try simp [hnt, Try.ntmps28, Try.results28, anW4528, dCnf, dProd, hlt, hp', hh1, this] at hc); done))))))
        | (refine DW_ret ?_; simp [hnt, Try.ntmps28, Try.results28, anW4528, dCnf, dProd, hlt, hp', hh1, this])
        | (refine DW_exit ?_; simp [hnt, Try.ntmps28, Try.results28, anW4528, dCnf, dProd, hlt, hp', hh1, this])
        | (refine DW_skip ?_; simp [hnt, Try.ntmps28, Try.results28, anW4528, dCnf, dProd, hlt, hp', hh1, this])
        | (intro hc; (try simp [hnt, Try.ntmps28, Try.results28, anW4528, dCnf, dProd, hlt, hp', hh1, this] at hc); done)
        | (intro hc; (try simp [hnt, Try.ntmps28, Try.results28, anW4528, dCnf, dProd, hlt, hp', hh1, this] at hc); (first | (exfalso; omega) | skip))
        | (refine ⟨?_, ?_⟩; · omega)
        | omega
        | apply_assumption -exfalso -symm
        | (exfalso; omega)))
  by_cases hh2 : c.nts ≤ p.head
  · have := hbad (by simp [prodOK, ntOK, show ¬ (p.head < c.nts) by omega])
    (repeat (first
        | (refine DW_seq fun K hK => ?_)
        | (refine DW_r anW4528 Try.mixed (by kernel_rfl) ?_; simp [hnt, Try.ntmps28, Try.results28, anW4528, dCnf, dProd, hlt, hp', hh1, hh2, this]; try simp (disch := omega) only [wrap64_in])
        | (refine DW_block ?_)
        | (focus (refine DW_if ?_ ?_ ?_; (· (simp [hnt, Try.ntmps28, Try.results28, anW4528, dCnf, dProd, hlt, hp', hh1, hh2, this]; done)); (try (rotate_left; (· (intro hc; (try simp [hnt, Try.ntmps28, Try.results28, anW4528, dCnf, dProd, hlt, hp', hh1, hh2, this] at hc); done))))))
        | (refine DW_ret ?_; simp [hnt, Try.ntmps28, Try.results28, anW4528, dCnf, dProd, hlt, hp', hh1, hh2, this])
        | (refine DW_exit ?_; simp [hnt, Try.ntmps28, Try.results28, anW4528, dCnf, dProd, hlt, hp', hh1, hh2, this])
        | (refine DW_skip ?_; simp [hnt, Try.ntmps28, Try.results28, anW4528, dCnf, dProd, hlt, hp', hh1, hh2, this])
        | (intro hc; (try simp [hnt, Try.ntmps28, Try.results28, anW4528, dCnf, dProd, hlt, hp', hh1, hh2, this] at hc); done)
        | (intro hc; (try simp [hnt, Try.ntmps28, Try.results28, anW4528, dCnf, dProd, hlt, hp', hh1, hh2, this] at hc); (first | (exfalso; omega) | skip))
        | (refine ⟨?_, ?_⟩; · omega)
        | omega
        | apply_assumption -exfalso -symm
        | (exfalso; omega)))
  have hnt' : ntOK c p.head = true := by simp [ntOK, show 0 ≤ p.head by omega, show p.head < c.nts by omega]
  (repeat (first
      | (refine DW_seq fun K hK => ?_)
      | (refine DW_r anW4528 Try.mixed (by kernel_rfl) ?_; simp [hnt, Try.ntmps28, Try.results28, anW4528, dCnf, dProd, hlt, hp', hh1, hh2]; try simp (disch := omega) only [wrap64_in])
      | (refine DW_block ?_)
      | (focus (refine DW_if ?_ ?_ ?_; (· (simp [hnt, Try.ntmps28, Try.results28, anW4528, dCnf, dProd, hlt, hp', hh1, hh2]; done)); (try (rotate_left; (· (intro hc; (try simp [hnt, Try.ntmps28, Try.results28, anW4528, dCnf, dProd, hlt, hp', hh1, hh2] at hc); done))))))
      | (refine DW_ret ?_; simp [hnt, Try.ntmps28, Try.results28, anW4528, dCnf, dProd, hlt, hp', hh1, hh2])
      | (refine DW_exit ?_; simp [hnt, Try.ntmps28, Try.results28, anW4528, dCnf, dProd, hlt, hp', hh1, hh2])
      | (refine DW_skip ?_; simp [hnt, Try.ntmps28, Try.results28, anW4528, dCnf, dProd, hlt, hp', hh1, hh2])
      | (intro hc; (try simp [hnt, Try.ntmps28, Try.results28, anW4528, dCnf, dProd, hlt, hp', hh1, hh2] at hc); done)
      | (intro hc; (try simp [hnt, Try.ntmps28, Try.results28, anW4528, dCnf, dProd, hlt, hp', hh1, hh2] at hc); (first | (exfalso; omega) | skip))
      | (refine ⟨?_, ?_⟩; · omega)
      | omega
      | apply_assumption -exfalso -symm
      | (exfalso; omega)))
  refine DW_loop (X := {j : Nat // j ≤ p.body.length ∧ (p.body.take j).any (symBad c) = false}) (fun j => ⟨[(1, .ref [.int .i64 c.nts, dProds c.prods]), (3, .int .i64 k), (4, .ref [.int .i64 p.head, dSyms p.body]), (5, .int .i64 j.1)], []⟩) (fun j => p.body.length - j.1) ⟨0, by simp⟩ (Sub.lit (by simp)) ?_
  rintro ⟨j, hj, hjj⟩
  by_cases hlj : j < p.body.length
  rotate_left
  · have hje : j = p.body.length := by omega
    subst hje
    rw [List.take_length] at hjj
    have hgood := hstep (by simp [prodOK, hnt', hjj])
    (repeat (first
        | (refine DW_seq fun K hK => ?_)
        | (refine DW_r anW4528 Try.mixed (by kernel_rfl) ?_; simp [hnt, Try.ntmps28, Try.results28, anW4528]; try simp (disch := omega) only [wrap64_in])
        | (refine DW_block ?_)
        | (focus (refine DW_if ?_ ?_ ?_; (· (simp [hnt, Try.ntmps28, Try.results28, anW4528]; done)); (try (rotate_left; (· (intro hc; (try simp [hnt, Try.ntmps28, Try.results28, anW4528] at hc); done))))))
        | (refine DW_ret ?_; simp [hnt, Try.ntmps28, Try.results28, anW4528])
        | (refine DW_exit ?_; simp [hnt, Try.ntmps28, Try.results28, anW4528])
        | (refine DW_skip ?_; simp [hnt, Try.ntmps28, Try.results28, anW4528])
        | (intro hc; (try simp [hnt, Try.ntmps28, Try.results28, anW4528] at hc); done)
        | (intro hc; (try simp [hnt, Try.ntmps28, Try.results28, anW4528] at hc); (first | (exfalso; omega) | skip))
        | (refine ⟨?_, ?_⟩; · omega)
        | omega
        | apply_assumption -exfalso -symm
        | (exfalso; omega)))
    refine Again.mk ⟨k + 1, by omega, hgood⟩ (Sub.lit (by simp)) (by simp; omega)
    (repeat (first
        | (refine DW_seq fun K hK => ?_)
        | (refine DW_r anW4528 Try.mixed (by kernel_rfl) ?_; simp [hnt, Try.ntmps28, Try.results28, anW4528]; try simp (disch := omega) only [wrap64_in])
        | (refine DW_block ?_)
        | (focus (refine DW_if ?_ ?_ ?_; (· (simp [hnt, Try.ntmps28, Try.results28, anW4528]; done)); (try (rotate_left; (· (intro hc; (try simp [hnt, Try.ntmps28, Try.results28, anW4528] at hc); done))))))
        | (refine DW_ret ?_; simp [hnt, Try.ntmps28, Try.results28, anW4528])
        | (refine DW_exit ?_; simp [hnt, Try.ntmps28, Try.results28, anW4528])
        | (refine DW_skip ?_; simp [hnt, Try.ntmps28, Try.results28, anW4528])
        | (intro hc; (try simp [hnt, Try.ntmps28, Try.results28, anW4528] at hc); done)
        | (intro hc; (try simp [hnt, Try.ntmps28, Try.results28, anW4528] at hc); (first | (exfalso; omega) | skip))
        | (refine ⟨?_, ?_⟩; · omega)
        | omega
        | apply_assumption -exfalso -symm
        | (exfalso; omega)))
  obtain ⟨s, hs, hs', hsm⟩ := at_lt' hlj
  have hsn := hw8 s hsm
  have hb2 : symBad c s = true → cnfOK c = false := by
    intro hb
    refine hbad ?_
    simp only [prodOK, hnt', Bool.true_and, Bool.not_eq_false', List.any_eq_true]
    exact ⟨s, hsm, hb⟩
  have hst2 : symBad c s = false → (p.body.take (j + 1)).any (symBad c) = false := by
    intro hb
    rw [List.take_succ_eq_append_getElem hlj, List.any_append, hjj, hs']; simp [hb]
  by_cases hs1 : s.n < 0
  · have := hb2 (by cases hl : s.label <;> simp [symBad, hl, hs1, ntOK, show ¬ (0 ≤ s.n) by omega])
    (repeat (first
        | (refine DW_seq fun K hK => ?_)
        | (refine DW_r anW4528 Try.mixed (by kernel_rfl) ?_; simp [hnt, Try.ntmps28, Try.results28, anW4528, dSym, hlj, hs', hs1, this]; try simp (disch := omega) only [wrap64_in])
        | (refine DW_block ?_)
        | (focus (refine DW_if ?_ ?_ ?_; (· (simp [hnt, Try.ntmps28, Try.results28, anW4528, dSym, hlj, hs', hs1, this]; done)); (try (rotate_left; (· (intro hc; (try simp [hnt, Try.ntmps28, Try.results28, anW4528, dSym, hlj, hs', hs1, this] at hc); done))))))
        | (refine DW_ret ?_; simp [hnt, Try.ntmps28, Try.results28, anW4528, dSym, hlj, hs', hs1, this])
        | (refine DW_exit ?_; simp [hnt, Try.ntmps28, Try.results28, anW4528, dSym, hlj, hs', hs1, this])
        | (refine DW_skip ?_; simp [hnt, Try.ntmps28, Try.results28, anW4528, dSym, hlj, hs', hs1, this])
        | (intro hc; (try simp [hnt, Try.ntmps28, Try.results28, anW4528, dSym, hlj, hs', hs1, this] at hc); done)
        | (intro hc; (try simp [hnt, Try.ntmps28, Try.results28, anW4528, dSym, hlj, hs', hs1, this] at hc); (first | (exfalso; omega) | skip))
        | (refine ⟨?_, ?_⟩; · omega)
        | omega
        | apply_assumption -exfalso -symm
        | (exfalso; omega)))
  cases hl : s.label
  · by_cases hs2 : c.nts ≤ s.n
    · have := hb2 (by simp [symBad, hl, ntOK, show ¬ (s.n < c.nts) by omega])
      (repeat (first
          | (refine DW_seq fun K hK => ?_)
          | (refine DW_r anW4528 Try.mixed (by kernel_rfl) ?_; simp [hnt, Try.ntmps28, Try.results28, anW4528, dSym, hlj, hs', hs1, hs2, hl, this]; try simp (disch := omega) only [wrap64_in])
          | (refine DW_block ?_)
          | (focus (refine DW_if ?_ ?_ ?_; (· (simp [hnt, Try.ntmps28, Try.results28, anW4528, dSym, hlj, hs', hs1, hs2, hl, this]; done)); (try (rotate_left; (· (intro hc; (try simp [hnt, Try.ntmps28, Try.results28, anW4528, dSym, hlj, hs', hs1, hs2, hl, this] at hc); done))))))
          | (refine DW_ret ?_; simp [hnt, Try.ntmps28, Try.results28, anW4528, dSym, hlj, hs', hs1, hs2, hl, this])
          | (refine DW_exit ?_; simp [hnt, Try.ntmps28, Try.results28, anW4528, dSym, hlj, hs', hs1, hs2, hl, this])
          | (refine DW_skip ?_; simp [hnt, Try.ntmps28, Try.results28, anW4528, dSym, hlj, hs', hs1, hs2, hl, this])
          | (intro hc; (try simp [hnt, Try.ntmps28, Try.results28, anW4528, dSym, hlj, hs', hs1, hs2, hl, this] at hc); done)
          | (intro hc; (try simp [hnt, Try.ntmps28, Try.results28, anW4528, dSym, hlj, hs', hs1, hs2, hl, this] at hc); (first | (exfalso; omega) | skip))
          | (refine ⟨?_, ?_⟩; · omega)
          | omega
          | apply_assumption -exfalso -symm
          | (exfalso; omega)))
    · have hgd := hst2 (by simp [symBad, hl, ntOK, show 0 ≤ s.n by omega, show s.n < c.nts by omega])
      (repeat (first
          | (refine DW_seq fun K hK => ?_)
          | (refine DW_r anW4528 Try.mixed (by kernel_rfl) ?_; simp [hnt, Try.ntmps28, Try.results28, anW4528, dSym, hlj, hs', hs1, hs2, hl]; try simp (disch := omega) only [wrap64_in])
          | (refine DW_block ?_)
          | (focus (refine DW_if ?_ ?_ ?_; (· (simp [hnt, Try.ntmps28, Try.results28, anW4528, dSym, hlj, hs', hs1, hs2, hl]; done)); (try (rotate_left; (· (intro hc; (try simp [hnt, Try.ntmps28, Try.results28, anW4528, dSym, hlj, hs', hs1, hs2, hl] at hc); done))))))
          | (refine DW_ret ?_; simp [hnt, Try.ntmps28, Try.results28, anW4528, dSym, hlj, hs', hs1, hs2, hl])
          | (refine DW_exit ?_; simp [hnt, Try.ntmps28, Try.results28, anW4528, dSym, hlj, hs', hs1, hs2, hl])
          | (refine DW_skip ?_; simp [hnt, Try.ntmps28, Try.results28, anW4528, dSym, hlj, hs', hs1, hs2, hl])
          | (intro hc; (try simp [hnt, Try.ntmps28, Try.results28, anW4528, dSym, hlj, hs', hs1, hs2, hl] at hc); done)
          | (intro hc; (try simp [hnt, Try.ntmps28, Try.results28, anW4528, dSym, hlj, hs', hs1, hs2, hl] at hc); (first | (exfalso; omega) | skip))
          | (refine ⟨?_, ?_⟩; · omega)
          | omega
          | apply_assumption -exfalso -symm
          | (exfalso; omega)))
      refine Again.mk ⟨j + 1, by omega, hgd⟩ (Sub.lit (by simp)) (by simp; omega)
      (repeat (first
          | (refine DW_seq fun K hK => ?_)
          | (refine DW_r anW4528 Try.mixed (by kernel_rfl) ?_; simp [hnt, Try.ntmps28, Try.results28, anW4528]; try simp (disch := omega) only [wrap64_in])
          | (refine DW_block ?_)
          | (focus (refine DW_if ?_ ?_ ?_; (· (simp [hnt, Try.ntmps28, Try.results28, anW4528]; done)); (try (rotate_left; (· (intro hc; (try simp [hnt, Try.ntmps28, Try.results28, anW4528] at hc); done))))))
          | (refine DW_ret ?_; simp [hnt, Try.ntmps28, Try.results28, anW4528])
          | (refine DW_exit ?_; simp [hnt, Try.ntmps28, Try.results28, anW4528])
          | (refine DW_skip ?_; simp [hnt, Try.ntmps28, Try.results28, anW4528])
          | (intro hc; (try simp [hnt, Try.ntmps28, Try.results28, anW4528] at hc); done)
          | (intro hc; (try simp [hnt, Try.ntmps28, Try.results28, anW4528] at hc); (first | (exfalso; omega) | skip))
          | (refine ⟨?_, ?_⟩; · omega)
          | omega
          | apply_assumption -exfalso -symm
          | (exfalso; omega)))
  · by_cases hs2 : 16 ≤ s.n
    · have := hb2 (by simp [symBad, hl, hs2])
      (repeat (first
          | (refine DW_seq fun K hK => ?_)
          | (refine DW_r anW4528 Try.mixed (by kernel_rfl) ?_; simp [hnt, Try.ntmps28, Try.results28, anW4528, dSym, hlj, hs', hs1, hs2, hl, this]; try simp (disch := omega) only [wrap64_in])
          | (refine DW_block ?_)
          | (focus (refine DW_if ?_ ?_ ?_; (· (simp [hnt, Try.ntmps28, Try.results28, anW4528, dSym, hlj, hs', hs1, hs2, hl, this]; done)); (try (rotate_left; (· (intro hc; (try simp [hnt, Try.ntmps28, Try.results28, anW4528, dSym, hlj, hs', hs1, hs2, hl, this] at hc); done))))))
          | (refine DW_ret ?_; simp [hnt, Try.ntmps28, Try.results28, anW4528, dSym, hlj, hs', hs1, hs2, hl, this])
          | (refine DW_exit ?_; simp [hnt, Try.ntmps28, Try.results28, anW4528, dSym, hlj, hs', hs1, hs2, hl, this])
          | (refine DW_skip ?_; simp [hnt, Try.ntmps28, Try.results28, anW4528, dSym, hlj, hs', hs1, hs2, hl, this])
          | (intro hc; (try simp [hnt, Try.ntmps28, Try.results28, anW4528, dSym, hlj, hs', hs1, hs2, hl, this] at hc); done)
          | (intro hc; (try simp [hnt, Try.ntmps28, Try.results28, anW4528, dSym, hlj, hs', hs1, hs2, hl, this] at hc); (first | (exfalso; omega) | skip))
          | (refine ⟨?_, ?_⟩; · omega)
          | omega
          | apply_assumption -exfalso -symm
          | (exfalso; omega)))
    · have hgd := hst2 (by simp [symBad, hl, hs1, hs2])
      (repeat (first
          | (refine DW_seq fun K hK => ?_)
          | (refine DW_r anW4528 Try.mixed (by kernel_rfl) ?_; simp [hnt, Try.ntmps28, Try.results28, anW4528, dSym, hlj, hs', hs1, hs2, hl]; try simp (disch := omega) only [wrap64_in])
          | (refine DW_block ?_)
          | (focus (refine DW_if ?_ ?_ ?_; (· (simp [hnt, Try.ntmps28, Try.results28, anW4528, dSym, hlj, hs', hs1, hs2, hl]; done)); (try (rotate_left; (· (intro hc; (try simp [hnt, Try.ntmps28, Try.results28, anW4528, dSym, hlj, hs', hs1, hs2, hl] at hc); done))))))
          | (refine DW_ret ?_; simp [hnt, Try.ntmps28, Try.results28, anW4528, dSym, hlj, hs', hs1, hs2, hl])
          | (refine DW_exit ?_; simp [hnt, Try.ntmps28, Try.results28, anW4528, dSym, hlj, hs', hs1, hs2, hl])
          | (refine DW_skip ?_; simp [hnt, Try.ntmps28, Try.results28, anW4528, dSym, hlj, hs', hs1, hs2, hl])
          | (intro hc; (try simp [hnt, Try.ntmps28, Try.results28, anW4528, dSym, hlj, hs', hs1, hs2, hl] at hc); done)
          | (intro hc; (try simp [hnt, Try.ntmps28, Try.results28, anW4528, dSym, hlj, hs', hs1, hs2, hl] at hc); (first | (exfalso; omega) | skip))
          | (refine ⟨?_, ?_⟩; · omega)
          | omega
          | apply_assumption -exfalso -symm
          | (exfalso; omega)))
      refine Again.mk ⟨j + 1, by omega, hgd⟩ (Sub.lit (by simp)) (by simp; omega)
      (repeat (first
          | (refine DW_seq fun K hK => ?_)
          | (refine DW_r anW4528 Try.mixed (by kernel_rfl) ?_; simp [hnt, Try.ntmps28, Try.results28, anW4528]; try simp (disch := omega) only [wrap64_in])
          | (refine DW_block ?_)
          | (focus (refine DW_if ?_ ?_ ?_; (· (simp [hnt, Try.ntmps28, Try.results28, anW4528]; done)); (try (rotate_left; (· (intro hc; (try simp [hnt, Try.ntmps28, Try.results28, anW4528] at hc); done))))))
          | (refine DW_ret ?_; simp [hnt, Try.ntmps28, Try.results28, anW4528])
          | (refine DW_exit ?_; simp [hnt, Try.ntmps28, Try.results28, anW4528])
          | (refine DW_skip ?_; simp [hnt, Try.ntmps28, Try.results28, anW4528])
          | (intro hc; (try simp [hnt, Try.ntmps28, Try.results28, anW4528] at hc); done)
          | (intro hc; (try simp [hnt, Try.ntmps28, Try.results28, anW4528] at hc); (first | (exfalso; omega) | skip))
          | (refine ⟨?_, ?_⟩; · omega)
          | omega
          | apply_assumption -exfalso -symm
          | (exfalso; omega)))
end Go.Proofs.Ytihkcegelghcpaa
end

section
/- A part of a proof: walks over the functions that it names; their contracts hold for every argument. -/





set_option linter.unusedSimpArgs false
set_option linter.unusedVariables false
namespace Go.Proofs.Ytihkcegelghcpaa
open Go Go.Dm
attribute [local irreducible] DW callP callS
set_option maxRecDepth 100000

def anW77 : Ann := ⟨[], [⟨2, [4], [], []⟩, ⟨3, [6], [], []⟩]⟩
theorem cfgChecks_pure (c : Cnf) : DPure Try.prog 7 [.agg (dCnf c)] (.bool true) := by
  refine DPure_introF [] (fn := Try.f7) Try.func7 rfl Try.call7 (by simp [Try.ntmps7]) (by simp [mx]) ?_
  intro hwf B hnt
  simp only [argS]
  have h1 := copy_pure c
  have h2 := check_pure c
  have h3 := fsort_pure c
  have h4 := fturn_pure c
  have h5 := rcheck_pure c
  have h6 := head12_pure
  cases hb : cnfOK c
  · rw [hb] at h2 h3 h4 h5
    (repeat (first
        | (refine DW_seq fun K hK => ?_)
        | (refine DW_r anW77 Try.mixed (by kernel_rfl) ?_; simp [hnt, Try.ntmps7, Try.results7, anW77, dCnf]; try simp (disch := omega) only [wrap64_in])
        | (refine DW_block ?_)
        | (focus (refine DW_if ?_ ?_ ?_; (· (simp [hnt, Try.ntmps7, Try.results7, anW77, dCnf]; done)); (try (rotate_left; (· (intro hc; (try simp [hnt, Try.ntmps7, Try.results7, anW77, dCnf] at hc); done))))))
        | (refine DW_ret ?_; simp [hnt, Try.ntmps7, Try.results7, anW77, dCnf])
        | (refine DW_exit ?_; simp [hnt, Try.ntmps7, Try.results7, anW77, dCnf])
        | (refine DW_skip ?_; simp [hnt, Try.ntmps7, Try.results7, anW77, dCnf])
        | (intro hc; (try simp [hnt, Try.ntmps7, Try.results7, anW77, dCnf] at hc); done)
        | (intro hc; (try simp [hnt, Try.ntmps7, Try.results7, anW77, dCnf] at hc); (first | (exfalso; omega) | skip))
        | (refine callP_mk (h1) ?_; try simp [hnt, Try.ntmps7, Try.results7, anW77, dCnf])
        | (refine callP_wk (h1) ?_ ?_; (· (simp; done)); try simp [hnt, Try.ntmps7, Try.results7, anW77, dCnf])
        | (refine callP_mk (h2) ?_; try simp [hnt, Try.ntmps7, Try.results7, anW77, dCnf])
        | (refine callP_wk (h2) ?_ ?_; (· (simp; done)); try simp [hnt, Try.ntmps7, Try.results7, anW77, dCnf])
        | (refine callP_mk (h3) ?_; try simp [hnt, Try.ntmps7, Try.results7, anW77, dCnf])
        | (refine callP_wk (h3) ?_ ?_; (· (simp; done)); try simp [hnt, Try.ntmps7, Try.results7, anW77, dCnf])
        | (refine callP_mk (h4) ?_; try simp [hnt, Try.ntmps7, Try.results7, anW77, dCnf])
        | (refine callP_wk (h4) ?_ ?_; (· (simp; done)); try simp [hnt, Try.ntmps7, Try.results7, anW77, dCnf])
        | (refine callP_mk (h5) ?_; try simp [hnt, Try.ntmps7, Try.results7, anW77, dCnf])
        | (refine callP_wk (h5) ?_ ?_; (· (simp; done)); try simp [hnt, Try.ntmps7, Try.results7, anW77, dCnf])
        | (refine callP_mk (h6) ?_; try simp [hnt, Try.ntmps7, Try.results7, anW77, dCnf])
        | (refine callP_wk (h6) ?_ ?_; (· (simp; done)); try simp [hnt, Try.ntmps7, Try.results7, anW77, dCnf])
        | (refine ⟨?_, ?_⟩; · omega)
        | omega
        | apply_assumption -exfalso -symm
        | (exfalso; omega)))
  · rw [hb] at h2 h3 h4 h5
    (repeat (first
        | (refine DW_seq fun K hK => ?_)
        | (refine DW_r anW77 Try.mixed (by kernel_rfl) ?_; simp [hnt, Try.ntmps7, Try.results7, anW77, dCnf]; try simp (disch := omega) only [wrap64_in])
        | (refine DW_block ?_)
        | (focus (refine DW_if ?_ ?_ ?_; (· (simp [hnt, Try.ntmps7, Try.results7, anW77, dCnf]; done)); (try (rotate_left; (· (intro hc; (try simp [hnt, Try.ntmps7, Try.results7, anW77, dCnf] at hc); done))))))
        | (refine DW_ret ?_; simp [hnt, Try.ntmps7, Try.results7, anW77, dCnf])
        | (refine DW_exit ?_; simp [hnt, Try.ntmps7, Try.results7, anW77, dCnf])
        | (refine DW_skip ?_; simp [hnt, Try.ntmps7, Try.results7, anW77, dCnf])
        | (intro hc; (try simp [hnt, Try.ntmps7, Try.results7, anW77, dCnf] at hc); done)
        | (intro hc; (try simp [hnt, Try.ntmps7, Try.results7, anW77, dCnf] at hc); (first | (exfalso; omega) | skip))
        | (refine callP_mk (h1) ?_; try simp [hnt, Try.ntmps7, Try.results7, anW77, dCnf])
        | (refine callP_wk (h1) ?_ ?_; (· (simp; done)); try simp [hnt, Try.ntmps7, Try.results7, anW77, dCnf])
        | (refine callP_mk (h2) ?_; try simp [hnt, Try.ntmps7, Try.results7, anW77, dCnf])
        | (refine callP_wk (h2) ?_ ?_; (· (simp; done)); try simp [hnt, Try.ntmps7, Try.results7, anW77, dCnf])
        | (refine callP_mk (h3) ?_; try simp [hnt, Try.ntmps7, Try.results7, anW77, dCnf])
        | (refine callP_wk (h3) ?_ ?_; (· (simp; done)); try simp [hnt, Try.ntmps7, Try.results7, anW77, dCnf])
        | (refine callP_mk (h4) ?_; try simp [hnt, Try.ntmps7, Try.results7, anW77, dCnf])
        | (refine callP_wk (h4) ?_ ?_; (· (simp; done)); try simp [hnt, Try.ntmps7, Try.results7, anW77, dCnf])
        | (refine callP_mk (h5) ?_; try simp [hnt, Try.ntmps7, Try.results7, anW77, dCnf])
        | (refine callP_wk (h5) ?_ ?_; (· (simp; done)); try simp [hnt, Try.ntmps7, Try.results7, anW77, dCnf])
        | (refine callP_mk (h6) ?_; try simp [hnt, Try.ntmps7, Try.results7, anW77, dCnf])
        | (refine callP_wk (h6) ?_ ?_; (· (simp; done)); try simp [hnt, Try.ntmps7, Try.results7, anW77, dCnf])
        | (refine ⟨?_, ?_⟩; · omega)
        | omega
        | apply_assumption -exfalso -symm
        | (exfalso; omega)))

theorem DPure.wkT {P : Program} {f : FuncId} {args ds es : List DVal} (h : DPure P f args (.tup ds)) (hw : wkA ds es) (hd : mx (.tup es) = 0) : DPure P f args (.tup es) := by
  refine ⟨h.1, hd, fun cur M w vs hM hr => (h.2.2 cur M w vs hM hr).mono fun e w' ⟨v, h1, h2, h3⟩ => ⟨v, h1, h2, ?_⟩⟩
  simp only [rd] at h3 ⊢
  obtain ⟨us, rfl, h4⟩ := h3
  exact ⟨us, rfl, rd_wkA hw h4⟩
def cnf0 : Cnf := ⟨0, []⟩
theorem fsort_pure' (c : Cnf) : DPure Try.prog 26 [.agg (dCnf c)] (.tup [.agg (dCnf (if cnfOK c then normC c else cnf0)), .int .i64 (if cnfOK c then 0 else 220)]) := by
  have h := fsort_pure c
  cases hb : cnfOK c <;> rw [hb] at h
  · exact DPure.wkT h (by simp [cnf0, dCnf, dProds]) (by simp [mx])
  · exact h
theorem fturn_pure' (c : Cnf) : DPure Try.prog 27 [.agg (dCnf c)] (.tup [.agg (dCnf (if cnfOK c then turnC c else cnf0)), .int .i64 (if cnfOK c then 0 else 220)]) := by
  have h := fturn_pure c
  cases hb : cnfOK c <;> rw [hb] at h
  · exact DPure.wkT h (by simp [cnf0, dCnf, dProds]) (by simp [mx])
  · exact h
end Go.Proofs.Ytihkcegelghcpaa
end

section
/- A part of a proof: walks over the functions that it names; their contracts hold for every argument. -/

set_option linter.unusedSimpArgs false
set_option linter.unusedVariables false
namespace Go.Proofs.Ytihkcegelghcpaa
open Go Go.Dm
attribute [local irreducible] DW callP callS

theorem take_eq_succ {α : Type} {a b : List α} {k : Nat} {x : α} (h : a.take k = b.take k) (ha : a[k]? = some x) (hb : b[k]? = some x) : a.take (k + 1) = b.take (k + 1) := by
  rw [List.take_add_one, List.take_add_one, h, ha, hb]
def anW1818 : Ann := ⟨[], []⟩
set_option maxRecDepth 100000 in
theorem sameBody_pure (a b : List Sym) : DPure Try.prog 18 [dSyms a, dSyms b] (.bool (decide (a = b))) := by
  refine DPure_introF [] (fn := Try.f18) Try.func18 rfl Try.call18 (by simp [Try.ntmps18]) (by simp [mx]) ?_
  intro hwf B hnt
  simp only [argS]
  simp at hwf
  by_cases hl : a.length = b.length
  · (repeat (first
      | (refine DW_seq fun K hK => ?_)
      | (refine DW_r anW1818 Try.mixed (by kernel_rfl) ?_; simp [hnt, Try.ntmps18, Try.results18, anW1818, dSym, hl]; try simp (disch := omega) only [wrap64_in])
      | (refine DW_block ?_)
      | (focus (refine DW_if ?_ ?_ ?_; (· (simp [hnt, Try.ntmps18, Try.results18, anW1818, dSym, hl]; done)); (try (rotate_left; (· (intro hc; (try simp [hnt, Try.ntmps18, Try.results18, anW1818, dSym, hl] at hc); done))))))
      | (refine DW_ret ?_; simp [hnt, Try.ntmps18, Try.results18, anW1818, dSym, hl])
      | (refine DW_exit ?_; simp [hnt, Try.ntmps18, Try.results18, anW1818, dSym, hl])
      | (refine DW_skip ?_; simp [hnt, Try.ntmps18, Try.results18, anW1818, dSym, hl])
      | (intro hc; (try simp [hnt, Try.ntmps18, Try.results18, anW1818, dSym, hl] at hc); done)
      | (intro hc; (try simp [hnt, Try.ntmps18, Try.results18, anW1818, dSym, hl] at hc); (first | (exfalso; omega) | skip))
      | (refine ⟨?_, ?_⟩; · omega)
      | omega
      | apply_assumption -exfalso -symm
      | (exfalso; omega)))
    refine DW_loop (X := {k : Nat // k ≤ b.length ∧ a.take k = b.take k}) (fun x => ⟨[(0, dSyms a), (1, dSyms b), (5, .int .i64 x.1)], []⟩) (fun x => b.length - x.1) ⟨0, by simp⟩ (Sub.lit (by simp)) ?_
    rintro ⟨k, hk, he⟩
    have hw := hwf.2.2.1
    unfold maxLen at hw
    clear hwf
    by_cases hlt : k < b.length
    · obtain ⟨y, hy, hy'⟩ := at_lt hlt
      obtain ⟨x, hx, hx'⟩ := at_lt (l := a) (k := k) (by omega)
      by_cases h1 : x.label = y.label
      · by_cases h2 : x.n = y.n
        · have hnx := take_eq_succ he hx (by rw [hy]; cases x; cases y; simp_all)
          clear hx hy
          (repeat (first
              | (refine DW_seq fun K hK => ?_)
              | (refine DW_r anW1818 Try.mixed (by kernel_rfl) ?_; simp [hnt, Try.ntmps18, Try.results18, anW1818, dSym, hl, hx', hy', hlt, h1, h2]; try simp (disch := omega) only [wrap64_in])
              | (refine DW_block ?_)
              | (focus (refine DW_if ?_ ?_ ?_; (· (simp [hnt, Try.ntmps18, Try.results18, anW1818, dSym, hl, hx', hy', hlt, h1, h2]; done)); (try (rotate_left; (· (intro hc; (try simp [hnt, Try.ntmps18, Try.results18, anW1818, dSym, hl, hx', hy', hlt, h1, h2] at hc); done))))))
              | (refine DW_ret ?_; simp [hnt, Try.ntmps18, Try.results18, anW1818, dSym, hl, hx', hy', hlt, h1, h2])
              | (refine DW_exit ?_; simp [hnt, Try.ntmps18, Try.results18, anW1818, dSym, hl, hx', hy', hlt, h1, h2])
              | (refine DW_skip ?_; simp [hnt, Try.ntmps18, Try.results18, anW1818, dSym, hl, hx', hy', hlt, h1, h2])
              | (intro hc; (try simp [hnt, Try.ntmps18, Try.results18, anW1818, dSym, hl, hx', hy', hlt, h1, h2] at hc); done)
              | (intro hc; (try simp [hnt, Try.ntmps18, Try.results18, anW1818, dSym, hl, hx', hy', hlt, h1, h2] at hc); (first | (exfalso; omega) | skip))
              | (refine ⟨?_, ?_⟩; · omega)
              | omega
              | apply_assumption -exfalso -symm
              | (exfalso; omega)))
          refine Again.mk ⟨k + 1, by omega, hnx⟩ (Sub.lit (by simp [])) (by simp; omega)
          (repeat (first
              | (refine DW_seq fun K hK => ?_)
              | (refine DW_r anW1818 Try.mixed (by kernel_rfl) ?_; simp [hnt, Try.ntmps18, Try.results18, anW1818, dSym, hl, hx', hy', hlt, h1, h2]; try simp (disch := omega) only [wrap64_in])
              | (refine DW_block ?_)
              | (focus (refine DW_if ?_ ?_ ?_; (· (simp [hnt, Try.ntmps18, Try.results18, anW1818, dSym, hl, hx', hy', hlt, h1, h2]; done)); (try (rotate_left; (· (intro hc; (try simp [hnt, Try.ntmps18, Try.results18, anW1818, dSym, hl, hx', hy', hlt, h1, h2] at hc); done))))))
              | (refine DW_ret ?_; simp [hnt, Try.ntmps18, Try.results18, anW1818, dSym, hl, hx', hy', hlt, h1, h2])
              | (refine DW_exit ?_; simp [hnt, Try.ntmps18, Try.results18, anW1818, dSym, hl, hx', hy', hlt, h1, h2])
              | (refine DW_skip ?_; simp [hnt, Try.ntmps18, Try.results18, anW1818, dSym, hl, hx', hy', hlt, h1, h2])
              | (intro hc; (try simp [hnt, Try.ntmps18, Try.results18, anW1818, dSym, hl, hx', hy', hlt, h1, h2] at hc); done)
              | (intro hc; (try simp [hnt, Try.ntmps18, Try.results18, anW1818, dSym, hl, hx', hy', hlt, h1, h2] at hc); (first | (exfalso; omega) | skip))
              | (refine ⟨?_, ?_⟩; · omega)
              | omega
              | apply_assumption -exfalso -symm
              | (exfalso; omega)))
        · have hne : a ≠ b := fun h => by subst h; rw [hx] at hy; simp_all
          clear hx hy
          (repeat (first
              | (refine DW_seq fun K hK => ?_)
              | (refine DW_r anW1818 Try.mixed (by kernel_rfl) ?_; simp [hnt, Try.ntmps18, Try.results18, anW1818, dSym, hl, hx', hy', hlt, hne, h1, h2]; try simp (disch := omega) only [wrap64_in])
              | (refine DW_block ?_)
              | (focus (refine DW_if ?_ ?_ ?_; (· (simp [hnt, Try.ntmps18, Try.results18, anW1818, dSym, hl, hx', hy', hlt, hne, h1, h2]; done)); (try (rotate_left; (· (intro hc; (try simp [hnt, Try.ntmps18, Try.results18, anW1818, dSym, hl, hx', hy', hlt, hne, h1, h2] at hc); done))))))
              | (refine DW_ret ?_; simp [hnt, Try.ntmps18, Try.results18, anW1818, dSym, hl, hx', hy', hlt, hne, h1, h2])
              | (refine DW_exit ?_; simp [hnt, Try.ntmps18, Try.results18, anW1818, dSym, hl, hx', hy', hlt, hne, h1, h2])
              | (refine DW_skip ?_; simp [hnt, Try.ntmps18, Try.results18, anW1818, dSym, hl, hx', hy', hlt, hne, h1, h2])
              | (intro hc; (try simp [hnt, Try.ntmps18, Try.results18, anW1818, dSym, hl, hx', hy', hlt, hne, h1, h2] at hc); done)
              | (intro hc; (try simp [hnt, Try.ntmps18, Try.results18, anW1818, dSym, hl, hx', hy', hlt, hne, h1, h2] at hc); (first | (exfalso; omega) | skip))
              | (refine ⟨?_, ?_⟩; · omega)
              | omega
              | apply_assumption -exfalso -symm
              | (exfalso; omega)))
      · have hne : a ≠ b := fun h => by subst h; rw [hx] at hy; simp_all
        clear hx hy
        (repeat (first
            | (refine DW_seq fun K hK => ?_)
            | (refine DW_r anW1818 Try.mixed (by kernel_rfl) ?_; simp [hnt, Try.ntmps18, Try.results18, anW1818, dSym, hl, hx', hy', hlt, hne, h1]; try simp (disch := omega) only [wrap64_in])
            | (refine DW_block ?_)
            | (focus (refine DW_if ?_ ?_ ?_; (· (simp [hnt, Try.ntmps18, Try.results18, anW1818, dSym, hl, hx', hy', hlt, hne, h1]; done)); (try (rotate_left; (· (intro hc; (try simp [hnt, Try.ntmps18, Try.results18, anW1818, dSym, hl, hx', hy', hlt, hne, h1] at hc); done))))))
            | (refine DW_ret ?_; simp [hnt, Try.ntmps18, Try.results18, anW1818, dSym, hl, hx', hy', hlt, hne, h1])
            | (refine DW_exit ?_; simp [hnt, Try.ntmps18, Try.results18, anW1818, dSym, hl, hx', hy', hlt, hne, h1])
            | (refine DW_skip ?_; simp [hnt, Try.ntmps18, Try.results18, anW1818, dSym, hl, hx', hy', hlt, hne, h1])
            | (intro hc; (try simp [hnt, Try.ntmps18, Try.results18, anW1818, dSym, hl, hx', hy', hlt, hne, h1] at hc); done)
            | (intro hc; (try simp [hnt, Try.ntmps18, Try.results18, anW1818, dSym, hl, hx', hy', hlt, hne, h1] at hc); (first | (exfalso; omega) | skip))
            | (refine ⟨?_, ?_⟩; · omega)
            | omega
            | apply_assumption -exfalso -symm
            | (exfalso; omega)))
    · have : k = b.length := by omega
      subst this
      have hab : a = b := by rw [List.take_of_length_le (by omega), List.take_of_length_le (by omega)] at he; exact he
      (repeat (first
          | (refine DW_seq fun K hK => ?_)
          | (refine DW_r anW1818 Try.mixed (by kernel_rfl) ?_; simp [hnt, Try.ntmps18, Try.results18, anW1818, dSym, hab]; try simp (disch := omega) only [wrap64_in])
          | (refine DW_block ?_)
          | (focus (refine DW_if ?_ ?_ ?_; (· (simp [hnt, Try.ntmps18, Try.results18, anW1818, dSym, hab]; done)); (try (rotate_left; (· (intro hc; (try simp [hnt, Try.ntmps18, Try.results18, anW1818, dSym, hab] at hc); done))))))
          | (refine DW_ret ?_; simp [hnt, Try.ntmps18, Try.results18, anW1818, dSym, hab])
          | (refine DW_exit ?_; simp [hnt, Try.ntmps18, Try.results18, anW1818, dSym, hab])
          | (refine DW_skip ?_; simp [hnt, Try.ntmps18, Try.results18, anW1818, dSym, hab])
          | (intro hc; (try simp [hnt, Try.ntmps18, Try.results18, anW1818, dSym, hab] at hc); done)
          | (intro hc; (try simp [hnt, Try.ntmps18, Try.results18, anW1818, dSym, hab] at hc); (first | (exfalso; omega) | skip))
          | (refine ⟨?_, ?_⟩; · omega)
          | omega
          | apply_assumption -exfalso -symm
          | (exfalso; omega)))
  · have hne : a ≠ b := fun h => hl (by rw [h])
    have hl' : ¬ (b.length : Int) = a.length := by omega
    (repeat (first
        | (refine DW_seq fun K hK => ?_)
        | (refine DW_r anW1818 Try.mixed (by kernel_rfl) ?_; simp [hnt, Try.ntmps18, Try.results18, anW1818, dSym, hl, hl', hne]; try simp (disch := omega) only [wrap64_in])
        | (refine DW_block ?_)
        | (focus (refine DW_if ?_ ?_ ?_; (· (simp [hnt, Try.ntmps18, Try.results18, anW1818, dSym, hl, hl', hne]; done)); (try (rotate_left; (· (intro hc; (try simp [hnt, Try.ntmps18, Try.results18, anW1818, dSym, hl, hl', hne] at hc); done))))))
        | (refine DW_ret ?_; simp [hnt, Try.ntmps18, Try.results18, anW1818, dSym, hl, hl', hne])
        | (refine DW_exit ?_; simp [hnt, Try.ntmps18, Try.results18, anW1818, dSym, hl, hl', hne])
        | (refine DW_skip ?_; simp [hnt, Try.ntmps18, Try.results18, anW1818, dSym, hl, hl', hne])
        | (intro hc; (try simp [hnt, Try.ntmps18, Try.results18, anW1818, dSym, hl, hl', hne] at hc); done)
        | (intro hc; (try simp [hnt, Try.ntmps18, Try.results18, anW1818, dSym, hl, hl', hne] at hc); (first | (exfalso; omega) | skip))
        | (refine ⟨?_, ?_⟩; · omega)
        | omega
        | apply_assumption -exfalso -symm
        | (exfalso; omega)))
end Go.Proofs.Ytihkcegelghcpaa
end

section
/- A part of a proof: walks over the functions that it names; their contracts hold for every argument. -/

set_option linter.unusedSimpArgs false
set_option linter.unusedVariables false
namespace Go.Proofs.Ytihkcegelghcpaa
open Go Go.Dm
attribute [local irreducible] DW callP callS
set_option maxRecDepth 100000


def anW2323 : Ann := ⟨[], []⟩
set_option maxHeartbeats 4000000 in
theorem same23_pure (a b : Cnf) : DPure Try.prog 23 [.agg (dCnf a), .agg (dCnf b)] (.bool (decide (a = b))) := by
  refine DPure_introF [] (fn := Try.f23) Try.func23 rfl Try.call23 (by simp [Try.ntmps23]) (by simp [mx]) ?_
  intro hwf B hnt
  have hw : wCnf b := w_cnf (by simpa [wfL, wfD] using hwf.2.1)
  obtain ⟨hw1, hw2, hw3, hw4⟩ := hw
  clear hwf
  simp only [argS]
  by_cases h0 : a.nts = b.nts
  rotate_left
  · have hne : a ≠ b := fun h => h0 (by rw [h])
    (repeat (first
        | (refine DW_seq fun K hK => ?_)
        | (refine DW_r anW2323 Try.mixed (by kernel_rfl) ?_; simp [hnt, Try.ntmps23, Try.results23, anW2323, dCnf, h0, hne]; try simp (disch := omega) only [wrap64_in])
        | (refine DW_block ?_)
        | (focus (refine DW_if ?_ ?_ ?_; (· (simp [hnt, Try.ntmps23, Try.results23, anW2323, dCnf, h0, hne]; done)); (try (rotate_left; (· (intro hc; (try simp [hnt, Try.ntmps23, Try.results23, anW2323, dCnf, h0, hne] at hc); done))))))
        | (refine DW_ret ?_; simp [hnt, Try.ntmps23, Try.results23, anW2323, dCnf, h0, hne])
        | (refine DW_exit ?_; simp [hnt, Try.ntmps23, Try.results23, anW2323, dCnf, h0, hne])
        | (refine DW_skip ?_; simp [hnt, Try.ntmps23, Try.results23, anW2323, dCnf, h0, hne])
        | (intro hc; (try simp [hnt, Try.ntmps23, Try.results23, anW2323, dCnf, h0, hne] at hc); done)
        | (intro hc; (try simp [hnt, Try.ntmps23, Try.results23, anW2323, dCnf, h0, hne] at hc); (first | (exfalso; omega) | skip))
        | (refine ⟨?_, ?_⟩; · omega)
        | omega
        | apply_assumption -exfalso -symm
        | (exfalso; omega)))
  by_cases hl : a.prods.length = b.prods.length
  rotate_left
  · have hne : a ≠ b := fun h => hl (by rw [h])
    have hl' : ¬ (b.prods.length : Int) = a.prods.length := by omega
    (repeat (first
        | (refine DW_seq fun K hK => ?_)
        | (refine DW_r anW2323 Try.mixed (by kernel_rfl) ?_; simp [hnt, Try.ntmps23, Try.results23, anW2323, dCnf, h0, hl, hl', hne]; try simp (disch := omega) only [wrap64_in])
        | (refine DW_block ?_)
        | (focus (refine DW_if ?_ ?_ ?_; (· (simp [hnt, Try.ntmps23, Try.results23, anW2323, dCnf, h0, hl, hl', hne]; done)); (try (rotate_left; (· (intro hc; (try simp [hnt, Try.ntmps23, Try.results23, anW2323, dCnf, h0, hl, hl', hne] at hc); done))))))
        | (refine DW_ret ?_; simp [hnt, Try.ntmps23, Try.results23, anW2323, dCnf, h0, hl, hl', hne])
        | (refine DW_exit ?_; simp [hnt, Try.ntmps23, Try.results23, anW2323, dCnf, h0, hl, hl', hne])
        | (refine DW_skip ?_; simp [hnt, Try.ntmps23, Try.results23, anW2323, dCnf, h0, hl, hl', hne])
        | (intro hc; (try simp [hnt, Try.ntmps23, Try.results23, anW2323, dCnf, h0, hl, hl', hne] at hc); done)
        | (intro hc; (try simp [hnt, Try.ntmps23, Try.results23, anW2323, dCnf, h0, hl, hl', hne] at hc); (first | (exfalso; omega) | skip))
        | (refine ⟨?_, ?_⟩; · omega)
        | omega
        | apply_assumption -exfalso -symm
        | (exfalso; omega)))
  (repeat (first
      | (refine DW_seq fun K hK => ?_)
      | (refine DW_r anW2323 Try.mixed (by kernel_rfl) ?_; simp [hnt, Try.ntmps23, Try.results23, anW2323, dCnf, h0, hl]; try simp (disch := omega) only [wrap64_in])
      | (refine DW_block ?_)
      | (focus (refine DW_if ?_ ?_ ?_; (· (simp [hnt, Try.ntmps23, Try.results23, anW2323, dCnf, h0, hl]; done)); (try (rotate_left; (· (intro hc; (try simp [hnt, Try.ntmps23, Try.results23, anW2323, dCnf, h0, hl] at hc); done))))))
      | (refine DW_ret ?_; simp [hnt, Try.ntmps23, Try.results23, anW2323, dCnf, h0, hl])
      | (refine DW_exit ?_; simp [hnt, Try.ntmps23, Try.results23, anW2323, dCnf, h0, hl])
      | (refine DW_skip ?_; simp [hnt, Try.ntmps23, Try.results23, anW2323, dCnf, h0, hl])
      | (intro hc; (try simp [hnt, Try.ntmps23, Try.results23, anW2323, dCnf, h0, hl] at hc); done)
      | (intro hc; (try simp [hnt, Try.ntmps23, Try.results23, anW2323, dCnf, h0, hl] at hc); (first | (exfalso; omega) | skip))
      | (refine ⟨?_, ?_⟩; · omega)
      | omega
      | apply_assumption -exfalso -symm
      | (exfalso; omega)))
  refine DW_loop (X := {k : Nat // k ≤ b.prods.length ∧ a.prods.take k = b.prods.take k}) (fun x => ⟨[(2, .ref (dCnf a)), (3, .ref (dCnf b)), (5, .int .i64 x.1)], []⟩) (fun x => b.prods.length - x.1) ⟨0, by simp⟩ (Sub.lit (by simp [dCnf, h0])) ?_
  rintro ⟨k, hk, he⟩
  by_cases hlt : k < b.prods.length
  · obtain ⟨q, hq, hq', hqm⟩ := at_lt' hlt
    obtain ⟨p, hp, hp', hpm⟩ := at_lt' (l := a.prods) (k := k) (by omega)
    have hv := sameBody_pure p.body q.body
    by_cases h1 : p.head = q.head
    · have hb : (p.head != q.head) = false := by simp [h1]
      by_cases h2 : p.body = q.body
      · rw [h2] at hv
        have hnx := take_eq_succ he hp (by rw [hq]; cases p; cases q; simp_all)
        clear hp hq
        (repeat (first
            | (refine DW_seq fun K hK => ?_)
            | (refine DW_r anW2323 Try.mixed (by kernel_rfl) ?_; simp [hnt, Try.ntmps23, Try.results23, anW2323, dCnf, dProd, hl, hp', hq', hlt, h1, h2, hb]; try simp (disch := omega) only [wrap64_in])
            | (refine DW_block ?_)
            | (focus (refine DW_if ?_ ?_ ?_; (· (simp [hnt, Try.ntmps23, Try.results23, anW2323, dCnf, dProd, hl, hp', hq', hlt, h1, h2, hb]; done)); (try (rotate_left; (· (intro hc; (try simp [hnt, Try.ntmps23, Try.results23, anW2323, dCnf, dProd, hl, hp', hq', hlt, h1, h2, hb] at hc); done))))))
            | (refine DW_ret ?_; simp [hnt, Try.ntmps23, Try.results23, anW2323, dCnf, dProd, hl, hp', hq', hlt, h1, h2, hb])
            | (refine DW_exit ?_; simp [hnt, Try.ntmps23, Try.results23, anW2323, dCnf, dProd, hl, hp', hq', hlt, h1, h2, hb])
            | (refine DW_skip ?_; simp [hnt, Try.ntmps23, Try.results23, anW2323, dCnf, dProd, hl, hp', hq', hlt, h1, h2, hb])
            | (intro hc; (try simp [hnt, Try.ntmps23, Try.results23, anW2323, dCnf, dProd, hl, hp', hq', hlt, h1, h2, hb] at hc); done)
            | (intro hc; (try simp [hnt, Try.ntmps23, Try.results23, anW2323, dCnf, dProd, hl, hp', hq', hlt, h1, h2, hb] at hc); (first | (exfalso; omega) | skip))
            | (refine callP_mk (hv) ?_; try simp [hnt, Try.ntmps23, Try.results23, anW2323, dCnf, dProd, hl, hp', hq', hlt, h1, h2, hb])
            | (refine callP_wk (hv) ?_ ?_; (· (simp; done)); try simp [hnt, Try.ntmps23, Try.results23, anW2323, dCnf, dProd, hl, hp', hq', hlt, h1, h2, hb])
            | (refine ⟨?_, ?_⟩; · omega)
            | omega
            | apply_assumption -exfalso -symm
            | (exfalso; omega)))
        refine Again.mk ⟨k + 1, by omega, hnx⟩ (Sub.lit (by simp [])) (by simp; omega)
        (repeat (first
            | (refine DW_seq fun K hK => ?_)
            | (refine DW_r anW2323 Try.mixed (by kernel_rfl) ?_; simp [hnt, Try.ntmps23, Try.results23, anW2323, dCnf, dProd, hl, hp', hq', hlt, h1, h2, hb]; try simp (disch := omega) only [wrap64_in])
            | (refine DW_block ?_)
            | (focus (refine DW_if ?_ ?_ ?_; (· (simp [hnt, Try.ntmps23, Try.results23, anW2323, dCnf, dProd, hl, hp', hq', hlt, h1, h2, hb]; done)); (try (rotate_left; (· (intro hc; (try simp [hnt, Try.ntmps23, Try.results23, anW2323, dCnf, dProd, hl, hp', hq', hlt, h1, h2, hb] at hc); done))))))
            | (refine DW_ret ?_; simp [hnt, Try.ntmps23, Try.results23, anW2323, dCnf, dProd, hl, hp', hq', hlt, h1, h2, hb])
            | (refine DW_exit ?_; simp [hnt, Try.ntmps23, Try.results23, anW2323, dCnf, dProd, hl, hp', hq', hlt, h1, h2, hb])
            | (refine DW_skip ?_; simp [hnt, Try.ntmps23, Try.results23, anW2323, dCnf, dProd, hl, hp', hq', hlt, h1, h2, hb])
            | (intro hc; (try simp [hnt, Try.ntmps23, Try.results23, anW2323, dCnf, dProd, hl, hp', hq', hlt, h1, h2, hb] at hc); done)
            | (intro hc; (try simp [hnt, Try.ntmps23, Try.results23, anW2323, dCnf, dProd, hl, hp', hq', hlt, h1, h2, hb] at hc); (first | (exfalso; omega) | skip))
            | (refine callP_mk (hv) ?_; try simp [hnt, Try.ntmps23, Try.results23, anW2323, dCnf, dProd, hl, hp', hq', hlt, h1, h2, hb])
            | (refine callP_wk (hv) ?_ ?_; (· (simp; done)); try simp [hnt, Try.ntmps23, Try.results23, anW2323, dCnf, dProd, hl, hp', hq', hlt, h1, h2, hb])
            | (refine ⟨?_, ?_⟩; · omega)
            | omega
            | apply_assumption -exfalso -symm
            | (exfalso; omega)))
      · have hne : a ≠ b := fun h => by subst h; rw [hp] at hq; simp_all
        clear hp hq
        (repeat (first
            | (refine DW_seq fun K hK => ?_)
            | (refine DW_r anW2323 Try.mixed (by kernel_rfl) ?_; simp [hnt, Try.ntmps23, Try.results23, anW2323, dCnf, dProd, hl, hp', hq', hlt, h1, h2, hb, hne]; try simp (disch := omega) only [wrap64_in])
            | (refine DW_block ?_)
            | (focus (refine DW_if ?_ ?_ ?_; (· (simp [hnt, Try.ntmps23, Try.results23, anW2323, dCnf, dProd, hl, hp', hq', hlt, h1, h2, hb, hne]; done)); (try (rotate_left; (· (intro hc; (try simp [hnt, Try.ntmps23, Try.results23, anW2323, dCnf, dProd, hl, hp', hq', hlt, h1, h2, hb, hne] at hc); done))))))
            | (refine DW_ret ?_; simp [hnt, Try.ntmps23, Try.results23, anW2323, dCnf, dProd, hl, hp', hq', hlt, h1, h2, hb, hne])
            | (refine DW_exit ?_; simp [hnt, Try.ntmps23, Try.results23, anW2323, dCnf, dProd, hl, hp', hq', hlt, h1, h2, hb, hne])
            | (refine DW_skip ?_; simp [hnt, Try.ntmps23, Try.results23, anW2323, dCnf, dProd, hl, hp', hq', hlt, h1, h2, hb, hne])
            | (intro hc; (try simp [hnt, Try.ntmps23, Try.results23, anW2323, dCnf, dProd, hl, hp', hq', hlt, h1, h2, hb, hne] at hc); done)
            | (intro hc; (try simp [hnt, Try.ntmps23, Try.results23, anW2323, dCnf, dProd, hl, hp', hq', hlt, h1, h2, hb, hne] at hc); (first | (exfalso; omega) | skip))
            | (refine callP_mk (hv) ?_; try simp [hnt, Try.ntmps23, Try.results23, anW2323, dCnf, dProd, hl, hp', hq', hlt, h1, h2, hb, hne])
            | (refine callP_wk (hv) ?_ ?_; (· (simp; done)); try simp [hnt, Try.ntmps23, Try.results23, anW2323, dCnf, dProd, hl, hp', hq', hlt, h1, h2, hb, hne])
            | (refine ⟨?_, ?_⟩; · omega)
            | omega
            | apply_assumption -exfalso -symm
            | (exfalso; omega)))
    · have hb : (p.head != q.head) = true := by simp [h1]
      have hne : a ≠ b := fun h => by subst h; rw [hp] at hq; simp_all
      clear hp hq
      (repeat (first
          | (refine DW_seq fun K hK => ?_)
          | (refine DW_r anW2323 Try.mixed (by kernel_rfl) ?_; simp [hnt, Try.ntmps23, Try.results23, anW2323, dCnf, dProd, hl, hp', hq', hlt, h1, hb, hne]; try simp (disch := omega) only [wrap64_in])
          | (refine DW_block ?_)
          | (focus (refine DW_if ?_ ?_ ?_; (· (simp [hnt, Try.ntmps23, Try.results23, anW2323, dCnf, dProd, hl, hp', hq', hlt, h1, hb, hne]; done)); (try (rotate_left; (· (intro hc; (try simp [hnt, Try.ntmps23, Try.results23, anW2323, dCnf, dProd, hl, hp', hq', hlt, h1, hb, hne] at hc); done))))))
          | (refine DW_ret ?_; simp [hnt, Try.ntmps23, Try.results23, anW2323, dCnf, dProd, hl, hp', hq', hlt, h1, hb, hne])
          | (refine DW_exit ?_; simp [hnt, Try.ntmps23, Try.results23, anW2323, dCnf, dProd, hl, hp', hq', hlt, h1, hb, hne])
          | (refine DW_skip ?_; simp [hnt, Try.ntmps23, Try.results23, anW2323, dCnf, dProd, hl, hp', hq', hlt, h1, hb, hne])
          | (intro hc; (try simp [hnt, Try.ntmps23, Try.results23, anW2323, dCnf, dProd, hl, hp', hq', hlt, h1, hb, hne] at hc); done)
          | (intro hc; (try simp [hnt, Try.ntmps23, Try.results23, anW2323, dCnf, dProd, hl, hp', hq', hlt, h1, hb, hne] at hc); (first | (exfalso; omega) | skip))
          | (refine callP_mk (hv) ?_; try simp [hnt, Try.ntmps23, Try.results23, anW2323, dCnf, dProd, hl, hp', hq', hlt, h1, hb, hne])
          | (refine callP_wk (hv) ?_ ?_; (· (simp; done)); try simp [hnt, Try.ntmps23, Try.results23, anW2323, dCnf, dProd, hl, hp', hq', hlt, h1, hb, hne])
          | (refine ⟨?_, ?_⟩; · omega)
          | omega
          | apply_assumption -exfalso -symm
          | (exfalso; omega)))
  · have : k = b.prods.length := by omega
    subst this
    have hab : a = b := by
      rw [List.take_of_length_le (by omega), List.take_of_length_le (by omega)] at he
      cases a; cases b; simp_all
    (repeat (first
        | (refine DW_seq fun K hK => ?_)
        | (refine DW_r anW2323 Try.mixed (by kernel_rfl) ?_; simp [hnt, Try.ntmps23, Try.results23, anW2323, dCnf, hab]; try simp (disch := omega) only [wrap64_in])
        | (refine DW_block ?_)
        | (focus (refine DW_if ?_ ?_ ?_; (· (simp [hnt, Try.ntmps23, Try.results23, anW2323, dCnf, hab]; done)); (try (rotate_left; (· (intro hc; (try simp [hnt, Try.ntmps23, Try.results23, anW2323, dCnf, hab] at hc); done))))))
        | (refine DW_ret ?_; simp [hnt, Try.ntmps23, Try.results23, anW2323, dCnf, hab])
        | (refine DW_exit ?_; simp [hnt, Try.ntmps23, Try.results23, anW2323, dCnf, hab])
        | (refine DW_skip ?_; simp [hnt, Try.ntmps23, Try.results23, anW2323, dCnf, hab])
        | (intro hc; (try simp [hnt, Try.ntmps23, Try.results23, anW2323, dCnf, hab] at hc); done)
        | (intro hc; (try simp [hnt, Try.ntmps23, Try.results23, anW2323, dCnf, hab] at hc); (first | (exfalso; omega) | skip))
        | (refine callP_mk (hv) ?_; try simp [hnt, Try.ntmps23, Try.results23, anW2323, dCnf, hab])
        | (refine callP_wk (hv) ?_ ?_; (· (simp; done)); try simp [hnt, Try.ntmps23, Try.results23, anW2323, dCnf, hab])
        | (refine ⟨?_, ?_⟩; · omega)
        | omega
        | apply_assumption -exfalso -symm
        | (exfalso; omega)))
end Go.Proofs.Ytihkcegelghcpaa
end

section
/- A part of a proof: walks over the functions that it names; their contracts hold for every argument. -/



set_option linter.unusedSimpArgs false
set_option linter.unusedVariables false
namespace Go.Proofs.Ytihkcegelghcpaa
open Go Go.Dm
attribute [local irreducible] DW callP callS
set_option maxRecDepth 100000

theorem turnC_turnC (c : Cnf) : turnC (turnC c) = c := by
  obtain ⟨n, ps⟩ := c
  simp only [turnC, List.map_map, Cnf.mk.injEq, true_and]
  have : ((fun p : Prod => (⟨p.head, p.body.reverse⟩ : Prod)) ∘ fun p => ⟨p.head, p.body.reverse⟩) = id := by
    funext p; cases p; simp
  rw [this, List.map_id]
theorem cnfOK_turn (c : Cnf) : cnfOK (turnC c) = cnfOK c := by
  simp only [cnfOK, turnC, List.all_map]
  congr 1
  refine congrArg (fun f => c.prods.all f) (funext fun p => ?_)
  simp only [Function.comp_def, prodOK, ntOK, List.any_reverse]
  rfl
theorem norm_mem (c : Cnf) (p : Prod) : p ∈ (normC c).prods ↔ p ∈ c.prods := by
  have h := (compL_strict ordProd (sortC_sorted ordProd c.prods)).2 p
  simp only [normC]
  rw [h, (sortC_perm _ _).mem_iff]
theorem cnfOK_norm (c : Cnf) : cnfOK (normC c) = cnfOK c := by
  have h : (normC c).prods.all (prodOK (normC c)) = c.prods.all (prodOK c) := by
    rw [Bool.eq_iff_iff, List.all_eq_true, List.all_eq_true]
    have e : prodOK (normC c) = prodOK c := rfl
    rw [e]
    exact ⟨fun hh p hp => hh p ((norm_mem c p).2 hp), fun hh p hp => hh p ((norm_mem c p).1 hp)⟩
  simp only [cnfOK]
  rw [h]
  rfl
theorem norm_norm (c : Cnf) : normC (normC c) = normC c := by
  simp only [normC, Cnf.mk.injEq, true_and]
  exact norm_idem ordProd c.prods
theorem norm_len (c : Cnf) : (normC c).prods.length ≤ c.prods.length := by
  have h := compL_len (e := fun p q => prodC p q == 0) (sortC prodC c.prods)
  rw [(sortC_perm _ _).length_eq] at h
  exact h

def anW99 : Ann := ⟨[], [⟨1, [3], [], []⟩, ⟨2, [5], [], []⟩, ⟨3, [7], [], []⟩, ⟨4, [9], [], []⟩]⟩
set_option maxHeartbeats 4000000 in
theorem cfgTwice_pure (c : Cnf) : DPure Try.prog 9 [.agg (dCnf c)] (.bool true) := by
  refine DPure_introF [] (fn := Try.f9) Try.func9 rfl Try.call9 (by simp [Try.ntmps9]) (by simp [mx]) ?_
  intro hwf B hnt
  simp only [argS]
  have h1 := copy_pure c
  have h2 := fturn_pure' c
  have h4 := fsort_pure' c
  have h6 := head12_pure
  have h7 := check_pure c
  cases hb : cnfOK c
  · rw [hb] at h2 h4 h7
    simp only [Bool.false_eq_true, if_false] at h2 h4 h7
    have h3 := fturn_pure' cnf0
    have h5 := fsort_pure' cnf0
    rw [show cnfOK cnf0 = false from rfl] at h3 h5
    simp only [Bool.false_eq_true, if_false] at h3 h5
    (repeat (first
        | (refine DW_seq fun K hK => ?_)
        | (refine DW_r anW99 Try.mixed (by kernel_rfl) ?_; simp [hnt, Try.ntmps9, Try.results9, anW99, dCnf]; try simp (disch := omega) only [wrap64_in])
        | (refine DW_block ?_)
        | (focus (refine DW_if ?_ ?_ ?_; (· (simp [hnt, Try.ntmps9, Try.results9, anW99, dCnf]; done)); (try (rotate_left; (· (intro hc; (try simp [hnt, Try.ntmps9, Try.results9, anW99, dCnf] at hc); done))))))
        | (refine DW_ret ?_; simp [hnt, Try.ntmps9, Try.results9, anW99, dCnf])
        | (refine DW_exit ?_; simp [hnt, Try.ntmps9, Try.results9, anW99, dCnf])
        | (refine DW_skip ?_; simp [hnt, Try.ntmps9, Try.results9, anW99, dCnf])
        | (intro hc; (try simp [hnt, Try.ntmps9, Try.results9, anW99, dCnf] at hc); done)
        | (intro hc; (try simp [hnt, Try.ntmps9, Try.results9, anW99, dCnf] at hc); (first | (exfalso; omega) | skip))
        | (refine callP_mk (h1) ?_; try simp [hnt, Try.ntmps9, Try.results9, anW99, dCnf])
        | (refine callP_wk (h1) ?_ ?_; (· (simp; done)); try simp [hnt, Try.ntmps9, Try.results9, anW99, dCnf])
        | (refine callP_mk (h2) ?_; try simp [hnt, Try.ntmps9, Try.results9, anW99, dCnf])
        | (refine callP_wk (h2) ?_ ?_; (· (simp; done)); try simp [hnt, Try.ntmps9, Try.results9, anW99, dCnf])
        | (refine callP_mk (h3) ?_; try simp [hnt, Try.ntmps9, Try.results9, anW99, dCnf])
        | (refine callP_wk (h3) ?_ ?_; (· (simp; done)); try simp [hnt, Try.ntmps9, Try.results9, anW99, dCnf])
        | (refine callP_mk (h4) ?_; try simp [hnt, Try.ntmps9, Try.results9, anW99, dCnf])
        | (refine callP_wk (h4) ?_ ?_; (· (simp; done)); try simp [hnt, Try.ntmps9, Try.results9, anW99, dCnf])
        | (refine callP_mk (h5) ?_; try simp [hnt, Try.ntmps9, Try.results9, anW99, dCnf])
        | (refine callP_wk (h5) ?_ ?_; (· (simp; done)); try simp [hnt, Try.ntmps9, Try.results9, anW99, dCnf])
        | (refine callP_mk (h6) ?_; try simp [hnt, Try.ntmps9, Try.results9, anW99, dCnf])
        | (refine callP_wk (h6) ?_ ?_; (· (simp; done)); try simp [hnt, Try.ntmps9, Try.results9, anW99, dCnf])
        | (refine callP_mk (h7) ?_; try simp [hnt, Try.ntmps9, Try.results9, anW99, dCnf])
        | (refine callP_wk (h7) ?_ ?_; (· (simp; done)); try simp [hnt, Try.ntmps9, Try.results9, anW99, dCnf])
        | (refine ⟨?_, ?_⟩; · omega)
        | omega
        | apply_assumption -exfalso -symm
        | (exfalso; omega)))
  · rw [hb] at h2 h4 h7
    simp only [if_true] at h2 h4 h7
    have h3 := fturn_pure' (turnC c)
    have h5 := fsort_pure' (normC c)
    rw [cnfOK_turn, hb, turnC_turnC] at h3
    rw [cnfOK_norm, hb, norm_norm] at h5
    simp only [if_true] at h3 h5
    have h8 := same23_pure c c
    have h9 := same23_pure (normC c) (normC c)
    have hlen : ((normC c).prods.length : Int) ≤ c.prods.length := by have := norm_len c; omega
    simp only [decide_true] at h8 h9
    (repeat (first
        | (refine DW_seq fun K hK => ?_)
        | (refine DW_r anW99 Try.mixed (by kernel_rfl) ?_; simp [hnt, Try.ntmps9, Try.results9, anW99, dCnf, hlen]; try simp (disch := omega) only [wrap64_in])
        | (refine DW_block ?_)
        | (focus (refine DW_if ?_ ?_ ?_; (· (simp [hnt, Try.ntmps9, Try.results9, anW99, dCnf, hlen]; done)); (try (rotate_left; (· (intro hc; (try simp [hnt, Try.ntmps9, Try.results9, anW99, dCnf, hlen] at hc); done))))))
        | (refine DW_ret ?_; simp [hnt, Try.ntmps9, Try.results9, anW99, dCnf, hlen])
        | (refine DW_exit ?_; simp [hnt, Try.ntmps9, Try.results9, anW99, dCnf, hlen])
        | (refine DW_skip ?_; simp [hnt, Try.ntmps9, Try.results9, anW99, dCnf, hlen])
        | (intro hc; (try simp [hnt, Try.ntmps9, Try.results9, anW99, dCnf, hlen] at hc); done)
        | (intro hc; (try simp [hnt, Try.ntmps9, Try.results9, anW99, dCnf, hlen] at hc); (first | (exfalso; omega) | skip))
        | (refine callP_mk (h1) ?_; try simp [hnt, Try.ntmps9, Try.results9, anW99, dCnf, hlen])
        | (refine callP_wk (h1) ?_ ?_; (· (simp; done)); try simp [hnt, Try.ntmps9, Try.results9, anW99, dCnf, hlen])
        | (refine callP_mk (h2) ?_; try simp [hnt, Try.ntmps9, Try.results9, anW99, dCnf, hlen])
        | (refine callP_wk (h2) ?_ ?_; (· (simp; done)); try simp [hnt, Try.ntmps9, Try.results9, anW99, dCnf, hlen])
        | (refine callP_mk (h3) ?_; try simp [hnt, Try.ntmps9, Try.results9, anW99, dCnf, hlen])
        | (refine callP_wk (h3) ?_ ?_; (· (simp; done)); try simp [hnt, Try.ntmps9, Try.results9, anW99, dCnf, hlen])
        | (refine callP_mk (h4) ?_; try simp [hnt, Try.ntmps9, Try.results9, anW99, dCnf, hlen])
        | (refine callP_wk (h4) ?_ ?_; (· (simp; done)); try simp [hnt, Try.ntmps9, Try.results9, anW99, dCnf, hlen])
        | (refine callP_mk (h5) ?_; try simp [hnt, Try.ntmps9, Try.results9, anW99, dCnf, hlen])
        | (refine callP_wk (h5) ?_ ?_; (· (simp; done)); try simp [hnt, Try.ntmps9, Try.results9, anW99, dCnf, hlen])
        | (refine callP_mk (h6) ?_; try simp [hnt, Try.ntmps9, Try.results9, anW99, dCnf, hlen])
        | (refine callP_wk (h6) ?_ ?_; (· (simp; done)); try simp [hnt, Try.ntmps9, Try.results9, anW99, dCnf, hlen])
        | (refine callP_mk (h7) ?_; try simp [hnt, Try.ntmps9, Try.results9, anW99, dCnf, hlen])
        | (refine callP_wk (h7) ?_ ?_; (· (simp; done)); try simp [hnt, Try.ntmps9, Try.results9, anW99, dCnf, hlen])
        | (refine callP_mk (h8) ?_; try simp [hnt, Try.ntmps9, Try.results9, anW99, dCnf, hlen])
        | (refine callP_wk (h8) ?_ ?_; (· (simp; done)); try simp [hnt, Try.ntmps9, Try.results9, anW99, dCnf, hlen])
        | (refine callP_mk (h9) ?_; try simp [hnt, Try.ntmps9, Try.results9, anW99, dCnf, hlen])
        | (refine callP_wk (h9) ?_ ?_; (· (simp; done)); try simp [hnt, Try.ntmps9, Try.results9, anW99, dCnf, hlen])
        | (refine ⟨?_, ?_⟩; · omega)
        | omega
        | apply_assumption -exfalso -symm
        | (exfalso; omega)))
end Go.Proofs.Ytihkcegelghcpaa
end

