/- A part of a proof: walks over the functions that it names; their contracts hold for every argument. -/
import Derived.Test.YtihkcegelghcpaaW0
set_option linter.unusedSimpArgs false
set_option linter.unusedVariables false
namespace Go.Proofs.Ytihkcegelghcpaa
open Go Go.Dm
attribute [local irreducible] DW callP callS
set_option maxRecDepth 100000

def cmpI (a b : Int) : Int := if a < b then -1 else if b < a then 1 else 0
/-- slices.CompareFunc -/
def cmpL {α : Type} (c : α → α → Int) : List α → List α → Int
  | [], [] => 0
  | [], _ :: _ => -1
  | _ :: _, [] => 1
  | x :: a, y :: b => if c x y = 0 then cmpL c a b else c x y
theorem cmpL_at {α : Type} {c : α → α → Int} {a b : List α} {k : Nat} {x y : α} (hx : a[k]? = some x) (hy : b[k]? = some y) : cmpL c (a.drop k) (b.drop k) = if c x y = 0 then cmpL c (a.drop (k + 1)) (b.drop (k + 1)) else c x y := by
  obtain ⟨h1, rfl⟩ := List.getElem?_eq_some_iff.1 hx
  obtain ⟨h2, rfl⟩ := List.getElem?_eq_some_iff.1 hy
  rw [List.drop_eq_getElem_cons h1, List.drop_eq_getElem_cons h2, cmpL]
theorem cmpL_gt {α : Type} {c : α → α → Int} {a b : List α} {k : Nat} (h1 : k < a.length) (h2 : b.length ≤ k) : cmpL c (a.drop k) (b.drop k) = 1 := by
  rw [List.drop_eq_getElem_cons h1, List.drop_of_length_le h2, cmpL]
theorem cmpL_le {α : Type} {c : α → α → Int} {a b : List α} {k : Nat} (h1 : a.length ≤ k) : cmpL c (a.drop k) (b.drop k) = if k < b.length then -1 else 0 := by
  rw [List.drop_of_length_le h1]
  split
  · rename_i h; rw [List.drop_eq_getElem_cons h, cmpL]
  · rename_i h; rw [List.drop_of_length_le (by omega), cmpL]

def anW97170 : Ann := ⟨[], []⟩
theorem isNaN_pure (n : Int) : DPure Try.prog 170 [.int .i64 n] (.bool false) := by
  refine DPure_introF [] (fn := Try.f170) Try.func170 rfl Try.call170 (by simp [Try.ntmps170]) (by simp [mx]) ?_
  intro hwf B hnt
  simp only [argS]
  (repeat (first
      | (refine DW_seq fun K hK => ?_)
      | (refine DW_r anW97170 Try.mixed (by kernel_rfl) ?_; simp [hnt, Try.ntmps170, Try.results170, anW97170]; try simp (disch := omega) only [wrap64_in])
      | (refine DW_block ?_)
      | (focus (refine DW_if ?_ ?_ ?_; (· (simp [hnt, Try.ntmps170, Try.results170, anW97170]; done)); (try (rotate_left; (· (intro hc; (try simp [hnt, Try.ntmps170, Try.results170, anW97170] at hc); done))))))
      | (refine DW_ret ?_; simp [hnt, Try.ntmps170, Try.results170, anW97170])
      | (refine DW_exit ?_; simp [hnt, Try.ntmps170, Try.results170, anW97170])
      | (refine DW_skip ?_; simp [hnt, Try.ntmps170, Try.results170, anW97170])
      | (intro hc; (try simp [hnt, Try.ntmps170, Try.results170, anW97170] at hc); done)
      | (intro hc; (try simp [hnt, Try.ntmps170, Try.results170, anW97170] at hc); (first | (exfalso; omega) | skip))
      | (refine ⟨?_, ?_⟩; · omega)
      | omega
      | apply_assumption -exfalso -symm
      | (exfalso; omega)))
def anW97127 : Ann := ⟨[], []⟩
theorem cmpInt_pure (a b : Int) : DPure Try.prog 127 [.int .i64 a, .int .i64 b] (.int .i64 (cmpI a b)) := by
  refine DPure_introF [] (fn := Try.f127) Try.func127 rfl Try.call127 (by simp [Try.ntmps127]) (by simp [mx]) ?_
  intro hwf B hnt
  simp only [argS]
  by_cases h1 : a < b
  · (repeat (first
      | (refine DW_seq fun K hK => ?_)
      | (refine DW_r anW97127 Try.mixed (by kernel_rfl) ?_; simp [hnt, Try.ntmps127, Try.results127, anW97127, h1, cmpI]; try simp (disch := omega) only [wrap64_in])
      | (refine DW_block ?_)
      | (focus (refine DW_if ?_ ?_ ?_; (· (simp [hnt, Try.ntmps127, Try.results127, anW97127, h1, cmpI]; done)); (try (rotate_left; (· (intro hc; (try simp [hnt, Try.ntmps127, Try.results127, anW97127, h1, cmpI] at hc); done))))))
      | (refine DW_ret ?_; simp [hnt, Try.ntmps127, Try.results127, anW97127, h1, cmpI])
      | (refine DW_exit ?_; simp [hnt, Try.ntmps127, Try.results127, anW97127, h1, cmpI])
      | (refine DW_skip ?_; simp [hnt, Try.ntmps127, Try.results127, anW97127, h1, cmpI])
      | (intro hc; (try simp [hnt, Try.ntmps127, Try.results127, anW97127, h1, cmpI] at hc); done)
      | (intro hc; (try simp [hnt, Try.ntmps127, Try.results127, anW97127, h1, cmpI] at hc); (first | (exfalso; omega) | skip))
      | (refine callP_mk (isNaN_pure a) ?_; try simp [hnt, Try.ntmps127, Try.results127, anW97127, h1, cmpI])
      | (refine callP_wk (isNaN_pure a) ?_ ?_; (· (simp; done)); try simp [hnt, Try.ntmps127, Try.results127, anW97127, h1, cmpI])
      | (refine callP_mk (isNaN_pure b) ?_; try simp [hnt, Try.ntmps127, Try.results127, anW97127, h1, cmpI])
      | (refine callP_wk (isNaN_pure b) ?_ ?_; (· (simp; done)); try simp [hnt, Try.ntmps127, Try.results127, anW97127, h1, cmpI])
      | (refine ⟨?_, ?_⟩; · omega)
      | omega
      | apply_assumption -exfalso -symm
      | (exfalso; omega)))
  · by_cases h2 : b < a
    · (repeat (first
        | (refine DW_seq fun K hK => ?_)
        | (refine DW_r anW97127 Try.mixed (by kernel_rfl) ?_; simp [hnt, Try.ntmps127, Try.results127, anW97127, h1, h2, cmpI]; try simp (disch := omega) only [wrap64_in])
        | (refine DW_block ?_)
        | (focus (refine DW_if ?_ ?_ ?_; (· (simp [hnt, Try.ntmps127, Try.results127, anW97127, h1, h2, cmpI]; done)); (try (rotate_left; (· (intro hc; (try simp [hnt, Try.ntmps127, Try.results127, anW97127, h1, h2, cmpI] at hc); done))))))
        | (refine DW_ret ?_; simp [hnt, Try.ntmps127, Try.results127, anW97127, h1, h2, cmpI])
        | (refine DW_exit ?_; simp [hnt, Try.ntmps127, Try.results127, anW97127, h1, h2, cmpI])
        | (refine DW_skip ?_; simp [hnt, Try.ntmps127, Try.results127, anW97127, h1, h2, cmpI])
        | (intro hc; (try simp [hnt, Try.ntmps127, Try.results127, anW97127, h1, h2, cmpI] at hc); done)
        | (intro hc; (try simp [hnt, Try.ntmps127, Try.results127, anW97127, h1, h2, cmpI] at hc); (first | (exfalso; omega) | skip))
        | (refine callP_mk (isNaN_pure a) ?_; try simp [hnt, Try.ntmps127, Try.results127, anW97127, h1, h2, cmpI])
        | (refine callP_wk (isNaN_pure a) ?_ ?_; (· (simp; done)); try simp [hnt, Try.ntmps127, Try.results127, anW97127, h1, h2, cmpI])
        | (refine callP_mk (isNaN_pure b) ?_; try simp [hnt, Try.ntmps127, Try.results127, anW97127, h1, h2, cmpI])
        | (refine callP_wk (isNaN_pure b) ?_ ?_; (· (simp; done)); try simp [hnt, Try.ntmps127, Try.results127, anW97127, h1, h2, cmpI])
        | (refine ⟨?_, ?_⟩; · omega)
        | omega
        | apply_assumption -exfalso -symm
        | (exfalso; omega)))
    · (repeat (first
        | (refine DW_seq fun K hK => ?_)
        | (refine DW_r anW97127 Try.mixed (by kernel_rfl) ?_; simp [hnt, Try.ntmps127, Try.results127, anW97127, h1, h2, cmpI]; try simp (disch := omega) only [wrap64_in])
        | (refine DW_block ?_)
        | (focus (refine DW_if ?_ ?_ ?_; (· (simp [hnt, Try.ntmps127, Try.results127, anW97127, h1, h2, cmpI]; done)); (try (rotate_left; (· (intro hc; (try simp [hnt, Try.ntmps127, Try.results127, anW97127, h1, h2, cmpI] at hc); done))))))
        | (refine DW_ret ?_; simp [hnt, Try.ntmps127, Try.results127, anW97127, h1, h2, cmpI])
        | (refine DW_exit ?_; simp [hnt, Try.ntmps127, Try.results127, anW97127, h1, h2, cmpI])
        | (refine DW_skip ?_; simp [hnt, Try.ntmps127, Try.results127, anW97127, h1, h2, cmpI])
        | (intro hc; (try simp [hnt, Try.ntmps127, Try.results127, anW97127, h1, h2, cmpI] at hc); done)
        | (intro hc; (try simp [hnt, Try.ntmps127, Try.results127, anW97127, h1, h2, cmpI] at hc); (first | (exfalso; omega) | skip))
        | (refine callP_mk (isNaN_pure a) ?_; try simp [hnt, Try.ntmps127, Try.results127, anW97127, h1, h2, cmpI])
        | (refine callP_wk (isNaN_pure a) ?_ ?_; (· (simp; done)); try simp [hnt, Try.ntmps127, Try.results127, anW97127, h1, h2, cmpI])
        | (refine callP_mk (isNaN_pure b) ?_; try simp [hnt, Try.ntmps127, Try.results127, anW97127, h1, h2, cmpI])
        | (refine callP_wk (isNaN_pure b) ?_ ?_; (· (simp; done)); try simp [hnt, Try.ntmps127, Try.results127, anW97127, h1, h2, cmpI])
        | (refine ⟨?_, ?_⟩; · omega)
        | omega
        | apply_assumption -exfalso -symm
        | (exfalso; omega)))

def orI : List Int → Int
  | [] => 0
  | x :: l => if x = 0 then orI l else x
def anW97126 : Ann := ⟨[], []⟩
theorem or3_pure (a b c : Int) : DPure Try.prog 126 [.sl 1 8 [[.int .i64 a], [.int .i64 b], [.int .i64 c]]] (.int .i64 (if a = 0 then (if b = 0 then c else b) else a)) := by
  refine DPure_introF [] (fn := Try.f126) Try.func126 rfl Try.call126 (by simp [Try.ntmps126]) (by simp [mx]) ?_
  intro hwf B hnt
  simp only [argS]
  (repeat (first
      | (refine DW_seq fun K hK => ?_)
      | (refine DW_r anW97126 Try.mixed (by kernel_rfl) ?_; simp [hnt, Try.ntmps126, Try.results126, anW97126]; try simp (disch := omega) only [wrap64_in])
      | (refine DW_block ?_)
      | (focus (refine DW_if ?_ ?_ ?_; (· (simp [hnt, Try.ntmps126, Try.results126, anW97126]; done)); (try (rotate_left; (· (intro hc; (try simp [hnt, Try.ntmps126, Try.results126, anW97126] at hc); done))))))
      | (refine DW_ret ?_; simp [hnt, Try.ntmps126, Try.results126, anW97126])
      | (refine DW_exit ?_; simp [hnt, Try.ntmps126, Try.results126, anW97126])
      | (refine DW_skip ?_; simp [hnt, Try.ntmps126, Try.results126, anW97126])
      | (intro hc; (try simp [hnt, Try.ntmps126, Try.results126, anW97126] at hc); done)
      | (intro hc; (try simp [hnt, Try.ntmps126, Try.results126, anW97126] at hc); (first | (exfalso; omega) | skip))
      | (refine ⟨?_, ?_⟩; · omega)
      | omega
      | apply_assumption -exfalso -symm
      | (exfalso; omega)))
  refine DW_loop (X := {k : Nat // k ≤ 3 ∧ (0 < k → a = 0) ∧ (1 < k → b = 0) ∧ (2 < k → c = 0)}) (fun k => ⟨[(3, .int .i64 0), (6, .sl 1 8 [[.int .i64 a], [.int .i64 b], [.int .i64 c]]), (7, .int .i64 3), (8, .int .i64 k.1)], []⟩) (fun k => 3 - k.1) ⟨0, by simp⟩ (Sub.lit (by simp)) ?_
  rintro ⟨k, hk, ha, hb, hc⟩
  match k, hk, ha, hb, hc with
  | 0, _, _, _, _ =>
    by_cases h : a = 0
    · (repeat (first
        | (refine DW_seq fun K hK => ?_)
        | (refine DW_r anW97126 Try.mixed (by kernel_rfl) ?_; simp [hnt, Try.ntmps126, Try.results126, anW97126, h]; try simp (disch := omega) only [wrap64_in])
        | (refine DW_block ?_)
        | (focus (refine DW_if ?_ ?_ ?_; (· (simp [hnt, Try.ntmps126, Try.results126, anW97126, h]; done)); (try (rotate_left; (· (intro hc; (try simp [hnt, Try.ntmps126, Try.results126, anW97126, h] at hc); done))))))
        | (refine DW_ret ?_; simp [hnt, Try.ntmps126, Try.results126, anW97126, h])
        | (refine DW_exit ?_; simp [hnt, Try.ntmps126, Try.results126, anW97126, h])
        | (refine DW_skip ?_; simp [hnt, Try.ntmps126, Try.results126, anW97126, h])
        | (intro hc; (try simp [hnt, Try.ntmps126, Try.results126, anW97126, h] at hc); done)
        | (intro hc; (try simp [hnt, Try.ntmps126, Try.results126, anW97126, h] at hc); (first | (exfalso; omega) | skip))
        | (refine ⟨?_, ?_⟩; · omega)
        | omega
        | apply_assumption -exfalso -symm
        | (exfalso; omega)))
      refine Again.mk ⟨1, by simp [h]⟩ (Sub.lit (by simp)) (by simp)
      (repeat (first
          | (refine DW_seq fun K hK => ?_)
          | (refine DW_r anW97126 Try.mixed (by kernel_rfl) ?_; simp [hnt, Try.ntmps126, Try.results126, anW97126, h]; try simp (disch := omega) only [wrap64_in])
          | (refine DW_block ?_)
          | (focus (refine DW_if ?_ ?_ ?_; (· (simp [hnt, Try.ntmps126, Try.results126, anW97126, h]; done)); (try (rotate_left; (· (intro hc; (try simp [hnt, Try.ntmps126, Try.results126, anW97126, h] at hc); done))))))
          | (refine DW_ret ?_; simp [hnt, Try.ntmps126, Try.results126, anW97126, h])
          | (refine DW_exit ?_; simp [hnt, Try.ntmps126, Try.results126, anW97126, h])
          | (refine DW_skip ?_; simp [hnt, Try.ntmps126, Try.results126, anW97126, h])
          | (intro hc; (try simp [hnt, Try.ntmps126, Try.results126, anW97126, h] at hc); done)
          | (intro hc; (try simp [hnt, Try.ntmps126, Try.results126, anW97126, h] at hc); (first | (exfalso; omega) | skip))
          | (refine ⟨?_, ?_⟩; · omega)
          | omega
          | apply_assumption -exfalso -symm
          | (exfalso; omega)))
    · have h' : (a != 0) = true := by simpa using h
      (repeat (first
          | (refine DW_seq fun K hK => ?_)
          | (refine DW_r anW97126 Try.mixed (by kernel_rfl) ?_; simp [hnt, Try.ntmps126, Try.results126, anW97126, h, h']; try simp (disch := omega) only [wrap64_in])
          | (refine DW_block ?_)
          | (focus (refine DW_if ?_ ?_ ?_; (· (simp [hnt, Try.ntmps126, Try.results126, anW97126, h, h']; done)); (try (rotate_left; (· (intro hc; (try simp [hnt, Try.ntmps126, Try.results126, anW97126, h, h'] at hc); done))))))
          | (refine DW_ret ?_; simp [hnt, Try.ntmps126, Try.results126, anW97126, h, h'])
          | (refine DW_exit ?_; simp [hnt, Try.ntmps126, Try.results126, anW97126, h, h'])
          | (refine DW_skip ?_; simp [hnt, Try.ntmps126, Try.results126, anW97126, h, h'])
          | (intro hc; (try simp [hnt, Try.ntmps126, Try.results126, anW97126, h, h'] at hc); done)
          | (intro hc; (try simp [hnt, Try.ntmps126, Try.results126, anW97126, h, h'] at hc); (first | (exfalso; omega) | skip))
          | (refine ⟨?_, ?_⟩; · omega)
          | omega
          | apply_assumption -exfalso -symm
          | (exfalso; omega)))
  | 1, _, ha, _, _ =>
    have ha := ha (by omega)
    by_cases h : b = 0
    · (repeat (first
        | (refine DW_seq fun K hK => ?_)
        | (refine DW_r anW97126 Try.mixed (by kernel_rfl) ?_; simp [hnt, Try.ntmps126, Try.results126, anW97126, h]; try simp (disch := omega) only [wrap64_in])
        | (refine DW_block ?_)
        | (focus (refine DW_if ?_ ?_ ?_; (· (simp [hnt, Try.ntmps126, Try.results126, anW97126, h]; done)); (try (rotate_left; (· (intro hc; (try simp [hnt, Try.ntmps126, Try.results126, anW97126, h] at hc); done))))))
        | (refine DW_ret ?_; simp [hnt, Try.ntmps126, Try.results126, anW97126, h])
        | (refine DW_exit ?_; simp [hnt, Try.ntmps126, Try.results126, anW97126, h])
        | (refine DW_skip ?_; simp [hnt, Try.ntmps126, Try.results126, anW97126, h])
        | (intro hc; (try simp [hnt, Try.ntmps126, Try.results126, anW97126, h] at hc); done)
        | (intro hc; (try simp [hnt, Try.ntmps126, Try.results126, anW97126, h] at hc); (first | (exfalso; omega) | skip))
        | (refine ⟨?_, ?_⟩; · omega)
        | omega
        | apply_assumption -exfalso -symm
        | (exfalso; omega)))
      refine Again.mk ⟨2, by simp [h, ha]⟩ (Sub.lit (by simp)) (by simp)
      (repeat (first
          | (refine DW_seq fun K hK => ?_)
          | (refine DW_r anW97126 Try.mixed (by kernel_rfl) ?_; simp [hnt, Try.ntmps126, Try.results126, anW97126, h]; try simp (disch := omega) only [wrap64_in])
          | (refine DW_block ?_)
          | (focus (refine DW_if ?_ ?_ ?_; (· (simp [hnt, Try.ntmps126, Try.results126, anW97126, h]; done)); (try (rotate_left; (· (intro hc; (try simp [hnt, Try.ntmps126, Try.results126, anW97126, h] at hc); done))))))
          | (refine DW_ret ?_; simp [hnt, Try.ntmps126, Try.results126, anW97126, h])
          | (refine DW_exit ?_; simp [hnt, Try.ntmps126, Try.results126, anW97126, h])
          | (refine DW_skip ?_; simp [hnt, Try.ntmps126, Try.results126, anW97126, h])
          | (intro hc; (try simp [hnt, Try.ntmps126, Try.results126, anW97126, h] at hc); done)
          | (intro hc; (try simp [hnt, Try.ntmps126, Try.results126, anW97126, h] at hc); (first | (exfalso; omega) | skip))
          | (refine ⟨?_, ?_⟩; · omega)
          | omega
          | apply_assumption -exfalso -symm
          | (exfalso; omega)))
    · have h' : (b != 0) = true := by simpa using h
      (repeat (first
          | (refine DW_seq fun K hK => ?_)
          | (refine DW_r anW97126 Try.mixed (by kernel_rfl) ?_; simp [hnt, Try.ntmps126, Try.results126, anW97126, h, h', ha]; try simp (disch := omega) only [wrap64_in])
          | (refine DW_block ?_)
          | (focus (refine DW_if ?_ ?_ ?_; (· (simp [hnt, Try.ntmps126, Try.results126, anW97126, h, h', ha]; done)); (try (rotate_left; (· (intro hc; (try simp [hnt, Try.ntmps126, Try.results126, anW97126, h, h', ha] at hc); done))))))
          | (refine DW_ret ?_; simp [hnt, Try.ntmps126, Try.results126, anW97126, h, h', ha])
          | (refine DW_exit ?_; simp [hnt, Try.ntmps126, Try.results126, anW97126, h, h', ha])
          | (refine DW_skip ?_; simp [hnt, Try.ntmps126, Try.results126, anW97126, h, h', ha])
          | (intro hc; (try simp [hnt, Try.ntmps126, Try.results126, anW97126, h, h', ha] at hc); done)
          | (intro hc; (try simp [hnt, Try.ntmps126, Try.results126, anW97126, h, h', ha] at hc); (first | (exfalso; omega) | skip))
          | (refine ⟨?_, ?_⟩; · omega)
          | omega
          | apply_assumption -exfalso -symm
          | (exfalso; omega)))
  | 2, _, ha, hb, _ =>
    have ha := ha (by omega)
    have hb := hb (by omega)
    by_cases h : c = 0
    · (repeat (first
        | (refine DW_seq fun K hK => ?_)
        | (refine DW_r anW97126 Try.mixed (by kernel_rfl) ?_; simp [hnt, Try.ntmps126, Try.results126, anW97126, h]; try simp (disch := omega) only [wrap64_in])
        | (refine DW_block ?_)
        | (focus (refine DW_if ?_ ?_ ?_; (· (simp [hnt, Try.ntmps126, Try.results126, anW97126, h]; done)); (try (rotate_left; (· (intro hc; (try simp [hnt, Try.ntmps126, Try.results126, anW97126, h] at hc); done))))))
        | (refine DW_ret ?_; simp [hnt, Try.ntmps126, Try.results126, anW97126, h])
        | (refine DW_exit ?_; simp [hnt, Try.ntmps126, Try.results126, anW97126, h])
        | (refine DW_skip ?_; simp [hnt, Try.ntmps126, Try.results126, anW97126, h])
        | (intro hc; (try simp [hnt, Try.ntmps126, Try.results126, anW97126, h] at hc); done)
        | (intro hc; (try simp [hnt, Try.ntmps126, Try.results126, anW97126, h] at hc); (first | (exfalso; omega) | skip))
        | (refine ⟨?_, ?_⟩; · omega)
        | omega
        | apply_assumption -exfalso -symm
        | (exfalso; omega)))
      refine Again.mk ⟨3, by simp [h, ha, hb]⟩ (Sub.lit (by simp)) (by simp)
      (repeat (first
          | (refine DW_seq fun K hK => ?_)
          | (refine DW_r anW97126 Try.mixed (by kernel_rfl) ?_; simp [hnt, Try.ntmps126, Try.results126, anW97126, h]; try simp (disch := omega) only [wrap64_in])
          | (refine DW_block ?_)
          | (focus (refine DW_if ?_ ?_ ?_; (· (simp [hnt, Try.ntmps126, Try.results126, anW97126, h]; done)); (try (rotate_left; (· (intro hc; (try simp [hnt, Try.ntmps126, Try.results126, anW97126, h] at hc); done))))))
          | (refine DW_ret ?_; simp [hnt, Try.ntmps126, Try.results126, anW97126, h])
          | (refine DW_exit ?_; simp [hnt, Try.ntmps126, Try.results126, anW97126, h])
          | (refine DW_skip ?_; simp [hnt, Try.ntmps126, Try.results126, anW97126, h])
          | (intro hc; (try simp [hnt, Try.ntmps126, Try.results126, anW97126, h] at hc); done)
          | (intro hc; (try simp [hnt, Try.ntmps126, Try.results126, anW97126, h] at hc); (first | (exfalso; omega) | skip))
          | (refine ⟨?_, ?_⟩; · omega)
          | omega
          | apply_assumption -exfalso -symm
          | (exfalso; omega)))
    · have h' : (c != 0) = true := by simpa using h
      (repeat (first
          | (refine DW_seq fun K hK => ?_)
          | (refine DW_r anW97126 Try.mixed (by kernel_rfl) ?_; simp [hnt, Try.ntmps126, Try.results126, anW97126, h, h', ha, hb]; try simp (disch := omega) only [wrap64_in])
          | (refine DW_block ?_)
          | (focus (refine DW_if ?_ ?_ ?_; (· (simp [hnt, Try.ntmps126, Try.results126, anW97126, h, h', ha, hb]; done)); (try (rotate_left; (· (intro hc; (try simp [hnt, Try.ntmps126, Try.results126, anW97126, h, h', ha, hb] at hc); done))))))
          | (refine DW_ret ?_; simp [hnt, Try.ntmps126, Try.results126, anW97126, h, h', ha, hb])
          | (refine DW_exit ?_; simp [hnt, Try.ntmps126, Try.results126, anW97126, h, h', ha, hb])
          | (refine DW_skip ?_; simp [hnt, Try.ntmps126, Try.results126, anW97126, h, h', ha, hb])
          | (intro hc; (try simp [hnt, Try.ntmps126, Try.results126, anW97126, h, h', ha, hb] at hc); done)
          | (intro hc; (try simp [hnt, Try.ntmps126, Try.results126, anW97126, h, h', ha, hb] at hc); (first | (exfalso; omega) | skip))
          | (refine ⟨?_, ?_⟩; · omega)
          | omega
          | apply_assumption -exfalso -symm
          | (exfalso; omega)))
  | 3, _, ha, hb, hc =>
    have ha := ha (by omega)
    have hb := hb (by omega)
    have hc := hc (by omega)
    (repeat (first
        | (refine DW_seq fun K hK => ?_)
        | (refine DW_r anW97126 Try.mixed (by kernel_rfl) ?_; simp [hnt, Try.ntmps126, Try.results126, anW97126, ha, hb, hc]; try simp (disch := omega) only [wrap64_in])
        | (refine DW_block ?_)
        | (focus (refine DW_if ?_ ?_ ?_; (· (simp [hnt, Try.ntmps126, Try.results126, anW97126, ha, hb, hc]; done)); (try (rotate_left; (· (intro hc; (try simp [hnt, Try.ntmps126, Try.results126, anW97126, ha, hb, hc] at hc); done))))))
        | (refine DW_ret ?_; simp [hnt, Try.ntmps126, Try.results126, anW97126, ha, hb, hc])
        | (refine DW_exit ?_; simp [hnt, Try.ntmps126, Try.results126, anW97126, ha, hb, hc])
        | (refine DW_skip ?_; simp [hnt, Try.ntmps126, Try.results126, anW97126, ha, hb, hc])
        | (intro hc; (try simp [hnt, Try.ntmps126, Try.results126, anW97126, ha, hb, hc] at hc); done)
        | (intro hc; (try simp [hnt, Try.ntmps126, Try.results126, anW97126, ha, hb, hc] at hc); (first | (exfalso; omega) | skip))
        | (refine ⟨?_, ?_⟩; · omega)
        | omega
        | apply_assumption -exfalso -symm
        | (exfalso; omega)))

def symC (x y : Sym) : Int := if x.label = y.label then cmpI x.n y.n else if x.label then 1 else -1
def anW97129 : Ann := ⟨[], []⟩
theorem bySym_pure (x y : Sym) : DPure Try.prog 129 [.agg (dSym x), .agg (dSym y)] (.int .i64 (symC x y)) := by
  refine DPure_introF [] (fn := Try.f129) Try.func129 rfl Try.call129 (by simp [Try.ntmps129]) (by simp [mx]) ?_
  intro hwf B hnt
  simp only [argS]
  cases h1 : x.label <;> cases h2 : y.label <;> (repeat (first
      | (refine DW_seq fun K hK => ?_)
      | (refine DW_r anW97129 Try.mixed (by kernel_rfl) ?_; simp [hnt, Try.ntmps129, Try.results129, anW97129, dSym, h1, h2, symC]; try simp (disch := omega) only [wrap64_in])
      | (refine DW_block ?_)
      | (focus (refine DW_if ?_ ?_ ?_; (· (simp [hnt, Try.ntmps129, Try.results129, anW97129, dSym, h1, h2, symC]; done)); (try (rotate_left; (· (intro hc; (try simp [hnt, Try.ntmps129, Try.results129, anW97129, dSym, h1, h2, symC] at hc); done))))))
      | (refine DW_ret ?_; simp [hnt, Try.ntmps129, Try.results129, anW97129, dSym, h1, h2, symC])
      | (refine DW_exit ?_; simp [hnt, Try.ntmps129, Try.results129, anW97129, dSym, h1, h2, symC])
      | (refine DW_skip ?_; simp [hnt, Try.ntmps129, Try.results129, anW97129, dSym, h1, h2, symC])
      | (intro hc; (try simp [hnt, Try.ntmps129, Try.results129, anW97129, dSym, h1, h2, symC] at hc); done)
      | (intro hc; (try simp [hnt, Try.ntmps129, Try.results129, anW97129, dSym, h1, h2, symC] at hc); (first | (exfalso; omega) | skip))
      | (refine callP_mk (cmpInt_pure x.n y.n) ?_; try simp [hnt, Try.ntmps129, Try.results129, anW97129, dSym, h1, h2, symC])
      | (refine callP_wk (cmpInt_pure x.n y.n) ?_ ?_; (· (simp; done)); try simp [hnt, Try.ntmps129, Try.results129, anW97129, dSym, h1, h2, symC])
      | (refine ⟨?_, ?_⟩; · omega)
      | omega
      | apply_assumption -exfalso -symm
      | (exfalso; omega)))

def anW97128 : Ann := ⟨[], [⟨3, [8], [], []⟩, ⟨6, [9], [], []⟩]⟩
set_option maxHeartbeats 1000000 in
theorem compareFunc128_pure (g : FuncId) (c : Sym → Sym → Int) (a b : List Sym) (hg : ∀ x ∈ a, ∀ y ∈ b, DPure Try.prog g [.agg (dSym x), .agg (dSym y)] (.int .i64 (c x y))) :
    DPure Try.prog 128 [dSyms a, dSyms b, .fn (.func g) [] []] (.int .i64 (cmpL c a b)) := by
  refine DPure_introF [] (fn := Try.f128) Try.func128 rfl Try.call128 (by simp [Try.ntmps128]) (by simp [mx]) ?_
  intro hwf B hnt
  have hw : wSyms a := w_syms hwf.1
  have hw' : wSyms b := w_syms hwf.2.1
  obtain ⟨hw1, hw2, hw3⟩ := hw
  obtain ⟨hv1, hv2, hv3⟩ := hw'
  clear hwf
  simp only [argS]
  obtain ⟨r, hr⟩ : ∃ r, r = cmpL c a b := ⟨_, rfl⟩
  rw [← hr]
  (repeat (first
      | (refine DW_seq fun K hK => ?_)
      | (refine DW_r anW97128 Try.mixed (by kernel_rfl) ?_; simp [hnt, Try.ntmps128, Try.results128, anW97128]; try simp (disch := omega) only [wrap64_in])
      | (refine DW_block ?_)
      | (focus (refine DW_if ?_ ?_ ?_; (· (simp [hnt, Try.ntmps128, Try.results128, anW97128]; done)); (try (rotate_left; (· (intro hc; (try simp [hnt, Try.ntmps128, Try.results128, anW97128] at hc); done))))))
      | (refine DW_ret ?_; simp [hnt, Try.ntmps128, Try.results128, anW97128])
      | (refine DW_exit ?_; simp [hnt, Try.ntmps128, Try.results128, anW97128])
      | (refine DW_skip ?_; simp [hnt, Try.ntmps128, Try.results128, anW97128])
      | (intro hc; (try simp [hnt, Try.ntmps128, Try.results128, anW97128] at hc); done)
      | (intro hc; (try simp [hnt, Try.ntmps128, Try.results128, anW97128] at hc); (first | (exfalso; omega) | skip))
      | (refine ⟨?_, ?_⟩; · omega)
      | omega
      | apply_assumption -exfalso -symm
      | (exfalso; omega)))
  refine DW_loop (X := {k : Nat // k ≤ a.length ∧ k ≤ b.length ∧ r = cmpL c (a.drop k) (b.drop k)}) (fun k => ⟨[(0, dSyms a), (1, dSyms b), (2, .fn (.func g) [] []), (11, dSyms a), (12, .int .i64 a.length), (13, .int .i64 k.1)], []⟩) (fun k => a.length - k.1) ⟨0, by simp [hr]⟩ (Sub.lit (by simp)) ?_
  rintro ⟨k, hk, hk', hcc⟩
  clear hr
  by_cases hlt : k < a.length
  · obtain ⟨x, hx, hx', hxm⟩ := at_lt' hlt
    by_cases hlt' : k < b.length
    · obtain ⟨y, hy, hy', hym⟩ := at_lt' hlt'
      have hxy := hg x hxm y hym
      simp only [dSym] at hxy
      have hat := cmpL_at (c := c) hx hy
      have hle : ¬ b.length ≤ k := by omega
      by_cases h0 : c x y = 0
      · rw [if_pos h0] at hat
        have hd := hcc.trans hat
        (repeat (first
            | (refine DW_seq fun K hK => ?_)
            | (refine DW_r anW97128 Try.mixed (by kernel_rfl) ?_; simp [hnt, Try.ntmps128, Try.results128, anW97128, dSym, hlt, hlt', hle, hx', hy', h0]; try simp (disch := omega) only [wrap64_in])
            | (refine DW_block ?_)
            | (focus (refine DW_if ?_ ?_ ?_; (· (simp [hnt, Try.ntmps128, Try.results128, anW97128, dSym, hlt, hlt', hle, hx', hy', h0]; done)); (try (rotate_left; (· (intro hc; (try simp [hnt, Try.ntmps128, Try.results128, anW97128, dSym, hlt, hlt', hle, hx', hy', h0] at hc); done))))))
            | (refine DW_ret ?_; simp [hnt, Try.ntmps128, Try.results128, anW97128, dSym, hlt, hlt', hle, hx', hy', h0])
            | (refine DW_exit ?_; simp [hnt, Try.ntmps128, Try.results128, anW97128, dSym, hlt, hlt', hle, hx', hy', h0])
            | (refine DW_skip ?_; simp [hnt, Try.ntmps128, Try.results128, anW97128, dSym, hlt, hlt', hle, hx', hy', h0])
            | (intro hc; (try simp [hnt, Try.ntmps128, Try.results128, anW97128, dSym, hlt, hlt', hle, hx', hy', h0] at hc); done)
            | (intro hc; (try simp [hnt, Try.ntmps128, Try.results128, anW97128, dSym, hlt, hlt', hle, hx', hy', h0] at hc); (first | (exfalso; omega) | skip))
            | (refine callP_mk (hxy) ?_; try simp [hnt, Try.ntmps128, Try.results128, anW97128, dSym, hlt, hlt', hle, hx', hy', h0])
            | (refine callP_wk (hxy) ?_ ?_; (· (simp; done)); try simp [hnt, Try.ntmps128, Try.results128, anW97128, dSym, hlt, hlt', hle, hx', hy', h0])
            | (refine ⟨?_, ?_⟩; · omega)
            | omega
            | apply_assumption -exfalso -symm
            | (exfalso; omega)))
        refine Again.mk ⟨k + 1, by omega, by omega, hd⟩ (Sub.lit (by simp)) (by simp; omega)
        (repeat (first
            | (refine DW_seq fun K hK => ?_)
            | (refine DW_r anW97128 Try.mixed (by kernel_rfl) ?_; simp [hnt, Try.ntmps128, Try.results128, anW97128]; try simp (disch := omega) only [wrap64_in])
            | (refine DW_block ?_)
            | (focus (refine DW_if ?_ ?_ ?_; (· (simp [hnt, Try.ntmps128, Try.results128, anW97128]; done)); (try (rotate_left; (· (intro hc; (try simp [hnt, Try.ntmps128, Try.results128, anW97128] at hc); done))))))
            | (refine DW_ret ?_; simp [hnt, Try.ntmps128, Try.results128, anW97128])
            | (refine DW_exit ?_; simp [hnt, Try.ntmps128, Try.results128, anW97128])
            | (refine DW_skip ?_; simp [hnt, Try.ntmps128, Try.results128, anW97128])
            | (intro hc; (try simp [hnt, Try.ntmps128, Try.results128, anW97128] at hc); done)
            | (intro hc; (try simp [hnt, Try.ntmps128, Try.results128, anW97128] at hc); (first | (exfalso; omega) | skip))
            | (refine callP_mk (hxy) ?_; try simp [hnt, Try.ntmps128, Try.results128, anW97128])
            | (refine callP_wk (hxy) ?_ ?_; (· (simp; done)); try simp [hnt, Try.ntmps128, Try.results128, anW97128])
            | (refine ⟨?_, ?_⟩; · omega)
            | omega
            | apply_assumption -exfalso -symm
            | (exfalso; omega)))
      · rw [if_neg h0] at hat
        have hd := hcc.trans hat
        have h0' : (c x y != 0) = true := by simpa using h0
        (repeat (first
            | (refine DW_seq fun K hK => ?_)
            | (refine DW_r anW97128 Try.mixed (by kernel_rfl) ?_; simp [hnt, Try.ntmps128, Try.results128, anW97128, dSym, hlt, hlt', hle, hx', hy', h0, h0', hd]; try simp (disch := omega) only [wrap64_in])
            | (refine DW_block ?_)
            | (focus (refine DW_if ?_ ?_ ?_; (· (simp [hnt, Try.ntmps128, Try.results128, anW97128, dSym, hlt, hlt', hle, hx', hy', h0, h0', hd]; done)); (try (rotate_left; (· (intro hc; (try simp [hnt, Try.ntmps128, Try.results128, anW97128, dSym, hlt, hlt', hle, hx', hy', h0, h0', hd] at hc); done))))))
            | (refine DW_ret ?_; simp [hnt, Try.ntmps128, Try.results128, anW97128, dSym, hlt, hlt', hle, hx', hy', h0, h0', hd])
            | (refine DW_exit ?_; simp [hnt, Try.ntmps128, Try.results128, anW97128, dSym, hlt, hlt', hle, hx', hy', h0, h0', hd])
            | (refine DW_skip ?_; simp [hnt, Try.ntmps128, Try.results128, anW97128, dSym, hlt, hlt', hle, hx', hy', h0, h0', hd])
            | (intro hc; (try simp [hnt, Try.ntmps128, Try.results128, anW97128, dSym, hlt, hlt', hle, hx', hy', h0, h0', hd] at hc); done)
            | (intro hc; (try simp [hnt, Try.ntmps128, Try.results128, anW97128, dSym, hlt, hlt', hle, hx', hy', h0, h0', hd] at hc); (first | (exfalso; omega) | skip))
            | (refine callP_mk (hxy) ?_; try simp [hnt, Try.ntmps128, Try.results128, anW97128, dSym, hlt, hlt', hle, hx', hy', h0, h0', hd])
            | (refine callP_wk (hxy) ?_ ?_; (· (simp; done)); try simp [hnt, Try.ntmps128, Try.results128, anW97128, dSym, hlt, hlt', hle, hx', hy', h0, h0', hd])
            | (refine ⟨?_, ?_⟩; · omega)
            | omega
            | apply_assumption -exfalso -symm
            | (exfalso; omega)))
    · have hge : b.length ≤ k := by omega
      have hd := hcc.trans (cmpL_gt (c := c) hlt hge)
      (repeat (first
          | (refine DW_seq fun K hK => ?_)
          | (refine DW_r anW97128 Try.mixed (by kernel_rfl) ?_; simp [hnt, Try.ntmps128, Try.results128, anW97128, dSym, hlt, hge, hx', hd]; try simp (disch := omega) only [wrap64_in])
          | (refine DW_block ?_)
          | (focus (refine DW_if ?_ ?_ ?_; (· (simp [hnt, Try.ntmps128, Try.results128, anW97128, dSym, hlt, hge, hx', hd]; done)); (try (rotate_left; (· (intro hc; (try simp [hnt, Try.ntmps128, Try.results128, anW97128, dSym, hlt, hge, hx', hd] at hc); done))))))
          | (refine DW_ret ?_; simp [hnt, Try.ntmps128, Try.results128, anW97128, dSym, hlt, hge, hx', hd])
          | (refine DW_exit ?_; simp [hnt, Try.ntmps128, Try.results128, anW97128, dSym, hlt, hge, hx', hd])
          | (refine DW_skip ?_; simp [hnt, Try.ntmps128, Try.results128, anW97128, dSym, hlt, hge, hx', hd])
          | (intro hc; (try simp [hnt, Try.ntmps128, Try.results128, anW97128, dSym, hlt, hge, hx', hd] at hc); done)
          | (intro hc; (try simp [hnt, Try.ntmps128, Try.results128, anW97128, dSym, hlt, hge, hx', hd] at hc); (first | (exfalso; omega) | skip))
          | (refine ⟨?_, ?_⟩; · omega)
          | omega
          | apply_assumption -exfalso -symm
          | (exfalso; omega)))
  · have hge : a.length ≤ k := by omega
    have hka : k = a.length := by omega
    subst hka
    have hat := cmpL_le (c := c) (b := b) hge
    by_cases h : a.length < b.length
    · rw [if_pos h] at hat
      have hd := hcc.trans hat
      (repeat (first
          | (refine DW_seq fun K hK => ?_)
          | (refine DW_r anW97128 Try.mixed (by kernel_rfl) ?_; simp [hnt, Try.ntmps128, Try.results128, anW97128, h, hd]; try simp (disch := omega) only [wrap64_in])
          | (refine DW_block ?_)
          | (focus (refine DW_if ?_ ?_ ?_; (· (simp [hnt, Try.ntmps128, Try.results128, anW97128, h, hd]; done)); (try (rotate_left; (· (intro hc; (try simp [hnt, Try.ntmps128, Try.results128, anW97128, h, hd] at hc); done))))))
          | (refine DW_ret ?_; simp [hnt, Try.ntmps128, Try.results128, anW97128, h, hd])
          | (refine DW_exit ?_; simp [hnt, Try.ntmps128, Try.results128, anW97128, h, hd])
          | (refine DW_skip ?_; simp [hnt, Try.ntmps128, Try.results128, anW97128, h, hd])
          | (intro hc; (try simp [hnt, Try.ntmps128, Try.results128, anW97128, h, hd] at hc); done)
          | (intro hc; (try simp [hnt, Try.ntmps128, Try.results128, anW97128, h, hd] at hc); (first | (exfalso; omega) | skip))
          | (refine ⟨?_, ?_⟩; · omega)
          | omega
          | apply_assumption -exfalso -symm
          | (exfalso; omega)))
    · rw [if_neg h] at hat
      have hd := hcc.trans hat
      (repeat (first
          | (refine DW_seq fun K hK => ?_)
          | (refine DW_r anW97128 Try.mixed (by kernel_rfl) ?_; simp [hnt, Try.ntmps128, Try.results128, anW97128, h, hd]; try simp (disch := omega) only [wrap64_in])
          | (refine DW_block ?_)
          | (focus (refine DW_if ?_ ?_ ?_; (· (simp [hnt, Try.ntmps128, Try.results128, anW97128, h, hd]; done)); (try (rotate_left; (· (intro hc; (try simp [hnt, Try.ntmps128, Try.results128, anW97128, h, hd] at hc); done))))))
          | (refine DW_ret ?_; simp [hnt, Try.ntmps128, Try.results128, anW97128, h, hd])
          | (refine DW_exit ?_; simp [hnt, Try.ntmps128, Try.results128, anW97128, h, hd])
          | (refine DW_skip ?_; simp [hnt, Try.ntmps128, Try.results128, anW97128, h, hd])
          | (intro hc; (try simp [hnt, Try.ntmps128, Try.results128, anW97128, h, hd] at hc); done)
          | (intro hc; (try simp [hnt, Try.ntmps128, Try.results128, anW97128, h, hd] at hc); (first | (exfalso; omega) | skip))
          | (refine ⟨?_, ?_⟩; · omega)
          | omega
          | apply_assumption -exfalso -symm
          | (exfalso; omega)))

def symsC (a b : List Sym) : Int := cmpL symC a b
def prodC (p q : Prod) : Int := if cmpI p.head q.head = 0 then (if cmpI p.body.length q.body.length = 0 then symsC p.body q.body else cmpI p.body.length q.body.length) else cmpI p.head q.head
def anW9797 : Ann := ⟨[], []⟩
theorem order_pure (p q : Prod) : DPure Try.prog 97 [.agg (dProd p), .agg (dProd q)] (.int .i64 (prodC p q)) := by
  refine DPure_introF [] (fn := Try.f97) Try.func97 rfl Try.call97 (by simp [Try.ntmps97]) (by simp [mx]) ?_
  intro hwf B hnt
  simp only [argS]
  have h1 := compareFunc128_pure 129 symC p.body q.body (fun x _ y _ => bySym_pure x y)
  have h2 := or3_pure (cmpI p.head q.head) (cmpI p.body.length q.body.length) (symsC p.body q.body)
  simp only [symsC] at h2
  (repeat (first
      | (refine DW_seq fun K hK => ?_)
      | (refine DW_r anW9797 Try.mixed (by kernel_rfl) ?_; simp [hnt, Try.ntmps97, Try.results97, anW9797, dProd, prodC, symsC]; try simp (disch := omega) only [wrap64_in])
      | (refine DW_block ?_)
      | (focus (refine DW_if ?_ ?_ ?_; (· (simp [hnt, Try.ntmps97, Try.results97, anW9797, dProd, prodC, symsC]; done)); (try (rotate_left; (· (intro hc; (try simp [hnt, Try.ntmps97, Try.results97, anW9797, dProd, prodC, symsC] at hc); done))))))
      | (refine DW_ret ?_; simp [hnt, Try.ntmps97, Try.results97, anW9797, dProd, prodC, symsC])
      | (refine DW_exit ?_; simp [hnt, Try.ntmps97, Try.results97, anW9797, dProd, prodC, symsC])
      | (refine DW_skip ?_; simp [hnt, Try.ntmps97, Try.results97, anW9797, dProd, prodC, symsC])
      | (intro hc; (try simp [hnt, Try.ntmps97, Try.results97, anW9797, dProd, prodC, symsC] at hc); done)
      | (intro hc; (try simp [hnt, Try.ntmps97, Try.results97, anW9797, dProd, prodC, symsC] at hc); (first | (exfalso; omega) | skip))
      | (refine callP_mk (cmpInt_pure p.head q.head) ?_; try simp [hnt, Try.ntmps97, Try.results97, anW9797, dProd, prodC, symsC])
      | (refine callP_wk (cmpInt_pure p.head q.head) ?_ ?_; (· (simp; done)); try simp [hnt, Try.ntmps97, Try.results97, anW9797, dProd, prodC, symsC])
      | (refine callP_mk (cmpInt_pure p.body.length q.body.length) ?_; try simp [hnt, Try.ntmps97, Try.results97, anW9797, dProd, prodC, symsC])
      | (refine callP_wk (cmpInt_pure p.body.length q.body.length) ?_ ?_; (· (simp; done)); try simp [hnt, Try.ntmps97, Try.results97, anW9797, dProd, prodC, symsC])
      | (refine callP_mk (h1) ?_; try simp [hnt, Try.ntmps97, Try.results97, anW9797, dProd, prodC, symsC])
      | (refine callP_wk (h1) ?_ ?_; (· (simp; done)); try simp [hnt, Try.ntmps97, Try.results97, anW9797, dProd, prodC, symsC])
      | (refine callP_mk (h2) ?_; try simp [hnt, Try.ntmps97, Try.results97, anW9797, dProd, prodC, symsC])
      | (refine callP_wk (h2) ?_ ?_; (· (simp; done)); try simp [hnt, Try.ntmps97, Try.results97, anW9797, dProd, prodC, symsC])
      | (refine ⟨?_, ?_⟩; · omega)
      | omega
      | apply_assumption -exfalso -symm
      | (exfalso; omega)))
def anW9799 : Ann := ⟨[], []⟩
theorem same_pure (p q : Prod) : DPure Try.prog 99 [.agg (dProd p), .agg (dProd q)] (.bool (prodC p q == 0)) := by
  refine DPure_introF [] (fn := Try.f99) Try.func99 rfl Try.call99 (by simp [Try.ntmps99]) (by simp [mx]) ?_
  intro hwf B hnt
  simp only [argS]
  have h1 := order_pure p q
  (repeat (first
      | (refine DW_seq fun K hK => ?_)
      | (refine DW_r anW9799 Try.mixed (by kernel_rfl) ?_; simp [hnt, Try.ntmps99, Try.results99, anW9799, dProd]; try simp (disch := omega) only [wrap64_in])
      | (refine DW_block ?_)
      | (focus (refine DW_if ?_ ?_ ?_; (· (simp [hnt, Try.ntmps99, Try.results99, anW9799, dProd]; done)); (try (rotate_left; (· (intro hc; (try simp [hnt, Try.ntmps99, Try.results99, anW9799, dProd] at hc); done))))))
      | (refine DW_ret ?_; simp [hnt, Try.ntmps99, Try.results99, anW9799, dProd])
      | (refine DW_exit ?_; simp [hnt, Try.ntmps99, Try.results99, anW9799, dProd])
      | (refine DW_skip ?_; simp [hnt, Try.ntmps99, Try.results99, anW9799, dProd])
      | (intro hc; (try simp [hnt, Try.ntmps99, Try.results99, anW9799, dProd] at hc); done)
      | (intro hc; (try simp [hnt, Try.ntmps99, Try.results99, anW9799, dProd] at hc); (first | (exfalso; omega) | skip))
      | (refine callP_mk (h1) ?_; try simp [hnt, Try.ntmps99, Try.results99, anW9799, dProd])
      | (refine callP_wk (h1) ?_ ?_; (· (simp; done)); try simp [hnt, Try.ntmps99, Try.results99, anW9799, dProd])
      | (refine ⟨?_, ?_⟩; · omega)
      | omega
      | apply_assumption -exfalso -symm
      | (exfalso; omega)))
end Go.Proofs.Ytihkcegelghcpaa
