/- Parts of a proof, laid together: Gnh, Gne, Gn0, Gn1, EnU, EvL. -/
import Derived.SizedLaws
import Derived.ProofKit
import Derived.OpenShut
import Derived.Carry
import Derived.Lib.LaidTab
import Derived.Test.YtedjakmhhlilaaaGreatqGx25
import Derived.Test.YtedjakmhhlilaaaGreatqGx26
import Derived.Test.YtedjakmhhlilaaaGreatqGx27
set_option linter.unusedSimpArgs false
set_option linter.unusedVariables false
set_option linter.unusedSectionVars false
section
set_option maxRecDepth 1000000
namespace Go.Proofs.YtedjakmhhlilaaaGreat
open Go Go.Dm
noncomputable def libO : CallK := orE (orc1 216 (orcCC 288)) (orE (orc1 226 (orcGr 288 5)) (orE (orc1 185 (orcSE 288 5)) (orE (orc1 176 orcCm) (orc1 73 (orcSo 136)))))
theorem libO_ok : CallOKK Tryz.prog libO := orE_ok (orc1_ok checkOrc) (orE_ok (orc1_ok growOrc) (orE_ok (orc1_ok stringOrc) (orE_ok (orc1_ok compareOrc) (orc1_ok sortedOrc))))
noncomputable def v_0 : Ent := ⟨456, 456, .box [.bx 452 452 0, .osl 907 907, .int .i64 (6)]⟩
noncomputable def v_1 : Ent := ⟨452, 452, .box [.osl 423 423, .osl 450 450, .omp 451 451]⟩
noncomputable def v_2 : Ent := ⟨423, 423, .row 9 1 16 [[.str ⟨#[83]⟩]]⟩
noncomputable def v_3 : Ent := ⟨450, 450, .row 9 1 16 [[.str ⟨#[97]⟩], [.str ⟨#[98]⟩]]⟩
noncomputable def v_4 : Ent := ⟨451, 451, .map [.agg [.bool false, .str ⟨#[83]⟩], .agg [.bool true, .str ⟨#[97]⟩], .agg [.bool true, .str ⟨#[98]⟩]] [.int .i64 (0), .int .i64 (0), .int .i64 (1)]⟩
noncomputable def v_5 : Ent := ⟨907, 907, .row 58 4 64 [[.int .i64 (6), .osl 847 849, .osl 713 854, .int .i64 (0)]]⟩
noncomputable def v_6 : Ent := ⟨847, 849, .row 3 1 8 [[.int .i64 (3)], [.int .i64 (5)]]⟩
noncomputable def v_7 : Ent := ⟨713, 854, .row 123 4 32 [[.int .i64 (0), .bool true, .int .i64 (0), .int .i64 (1)], [.int .i64 (0), .bool true, .int .i64 (0), .int .i64 (4)], [.int .i64 (1), .bool false, .int .i64 (0), .int .i64 (2)], [.int .i64 (2), .bool true, .int .i64 (1), .int .i64 (3)], [.int .i64 (4), .bool true, .int .i64 (1), .int .i64 (5)]]⟩
noncomputable def v_8 : Ent := ⟨1362, 1362, .box [.bx 1358 1358 0, .osl 1813 1813, .int .i64 (6)]⟩
noncomputable def v_9 : Ent := ⟨1358, 1358, .box [.osl 1329 1329, .osl 1356 1356, .omp 1357 1357]⟩
noncomputable def v_10 : Ent := ⟨1329, 1329, .row 9 1 16 [[.str ⟨#[83]⟩]]⟩
noncomputable def v_11 : Ent := ⟨1356, 1356, .row 9 1 16 [[.str ⟨#[97]⟩], [.str ⟨#[98]⟩]]⟩
noncomputable def v_12 : Ent := ⟨1357, 1357, .map [.agg [.bool false, .str ⟨#[83]⟩], .agg [.bool true, .str ⟨#[97]⟩], .agg [.bool true, .str ⟨#[98]⟩]] [.int .i64 (0), .int .i64 (0), .int .i64 (1)]⟩
noncomputable def v_13 : Ent := ⟨1813, 1813, .row 58 4 64 [[.int .i64 (6), .osl 1753 1755, .osl 1619 1760, .int .i64 (0)]]⟩
noncomputable def v_14 : Ent := ⟨1753, 1755, .row 3 1 8 [[.int .i64 (3)], [.int .i64 (5)]]⟩
noncomputable def v_15 : Ent := ⟨1619, 1760, .row 123 4 32 [[.int .i64 (0), .bool true, .int .i64 (0), .int .i64 (1)], [.int .i64 (0), .bool true, .int .i64 (0), .int .i64 (4)], [.int .i64 (1), .bool false, .int .i64 (0), .int .i64 (2)], [.int .i64 (2), .bool true, .int .i64 (1), .int .i64 (3)], [.int .i64 (4), .bool true, .int .i64 (1), .int .i64 (5)]]⟩
noncomputable def v_16 : Ent := ⟨1817, 1817, .box [.nilsl, .omp 1816 1816, .nilsl, .nilsl, .int .i64 (0)]⟩
noncomputable def v_17 : Ent := ⟨1816, 1816, .map [] []⟩
noncomputable def v_18 : Ent := ⟨1817, 1817, .box [.osl 1890 1897, .omp 1816 1816, .osl 1893 1900, .osl 1894 1901, .int .i64 (1)]⟩
noncomputable def v_19 : Ent := ⟨1890, 1897, .row 9 1 16 [[.str ⟨#[120]⟩], [.str ⟨#[121]⟩]]⟩
noncomputable def v_20 : Ent := ⟨1816, 1816, .map [.str ⟨#[120]⟩, .str ⟨#[121]⟩] [.int .i64 (1), .int .i64 (2)]⟩
noncomputable def v_21 : Ent := ⟨1893, 1900, .row 140 1 24 [[.osl 1906 1906], [.nilsl]]⟩
noncomputable def v_22 : Ent := ⟨1906, 1906, .row 148 2 24 [[.str ⟨#[97]⟩, .int .i64 (1)]]⟩
noncomputable def v_23 : Ent := ⟨1894, 1901, .row 140 1 24 [[.nilsl], [.osl 1910 1910]]⟩
noncomputable def v_24 : Ent := ⟨1910, 1910, .row 148 2 24 [[.str ⟨#[97]⟩, .int .i64 (0)]]⟩
noncomputable def v_25 : Ent := ⟨1817, 1817, .box [.osl 1890 1897, .omp 1816 1816, .osl 1893 1900, .osl 1894 1901, .int .i64 (2)]⟩
noncomputable def v_26 : Ent := ⟨1893, 1900, .row 140 1 24 [[.osl 1906 1906], [.osl 2063 2063]]⟩
noncomputable def v_27 : Ent := ⟨2063, 2063, .row 148 2 24 [[.str ⟨#[97]⟩, .int .i64 (0)]]⟩
noncomputable def v_28 : Ent := ⟨1894, 1901, .row 140 1 24 [[.osl 2067 2067], [.osl 1910 1910]]⟩
noncomputable def v_29 : Ent := ⟨2067, 2067, .row 148 2 24 [[.str ⟨#[97]⟩, .int .i64 (1)]]⟩
noncomputable def v_30 : Ent := ⟨1817, 1817, .box [.osl 1890 2281, .omp 1816 1816, .osl 1893 2284, .osl 1894 2285, .int .i64 (3)]⟩
noncomputable def v_31 : Ent := ⟨1890, 2281, .row 9 1 16 [[.str ⟨#[120]⟩], [.str ⟨#[121]⟩], [.str ⟨#[122]⟩]]⟩
noncomputable def v_32 : Ent := ⟨1816, 1816, .map [.str ⟨#[120]⟩, .str ⟨#[121]⟩, .str ⟨#[122]⟩] [.int .i64 (1), .int .i64 (2), .int .i64 (3)]⟩
noncomputable def v_33 : Ent := ⟨1893, 2284, .row 140 1 24 [[.osl 1906 2292], [.osl 2063 2063], [.nilsl]]⟩
noncomputable def v_34 : Ent := ⟨1906, 2292, .row 148 2 24 [[.str ⟨#[97]⟩, .int .i64 (1)], [.str ⟨#[98]⟩, .int .i64 (2)]]⟩
noncomputable def v_35 : Ent := ⟨1894, 2285, .row 140 1 24 [[.osl 2067 2067], [.osl 1910 1910], [.osl 2296 2296]]⟩
noncomputable def v_36 : Ent := ⟨2296, 2296, .row 148 2 24 [[.str ⟨#[98]⟩, .int .i64 (0)]]⟩
noncomputable def v_37 : Ent := ⟨1817, 1817, .box [.osl 1890 2281, .omp 1816 1816, .osl 1893 2284, .osl 1894 2285, .int .i64 (4)]⟩
noncomputable def v_38 : Ent := ⟨1893, 2284, .row 140 1 24 [[.osl 1906 2292], [.osl 2063 2063], [.osl 2598 2598]]⟩
noncomputable def v_39 : Ent := ⟨2598, 2598, .row 148 2 24 [[.str ⟨#[98]⟩, .int .i64 (0)]]⟩
noncomputable def v_40 : Ent := ⟨1894, 2285, .row 140 1 24 [[.osl 2067 2604], [.osl 1910 1910], [.osl 2296 2296]]⟩
noncomputable def v_41 : Ent := ⟨2067, 2604, .row 148 2 24 [[.str ⟨#[97]⟩, .int .i64 (1)], [.str ⟨#[98]⟩, .int .i64 (2)]]⟩
noncomputable def k_0 : CE := ⟨4, 20, [.sl 2 40 [[.str ⟨#[83]⟩, .sl 3 32 [[.int .i64 (4), .str ⟨#[]⟩, .int .i64 (3)], [.int .i64 (3), .str ⟨#[97]⟩, .int .i64 (0)], [.int .i64 (2), .str ⟨#[83]⟩, .int .i64 (0)], [.int .i64 (3), .str ⟨#[98]⟩, .int .i64 (0)]]], [.str ⟨#[83]⟩, .sl 3 32 [[.int .i64 (4), .str ⟨#[]⟩, .int .i64 (2)], [.int .i64 (3), .str ⟨#[97]⟩, .int .i64 (0)], [.int .i64 (3), .str ⟨#[98]⟩, .int .i64 (0)]]]]], [], .tup [.bx 456 456 0, .int .i64 (0)], [v_0, v_1, v_2, v_3, v_4, v_5, v_6, v_7], 910⟩
theorem k_0_run : (k_0).run Tryz.prog 10000 (orE (orcT []) libO) 200 = true := by kernel_rfl
theorem k_0_ok : (k_0).holds Tryz.prog := CE.holds_of mixedO (orE_ok (orcT_ok (fun _ h => absurd h List.not_mem_nil)) libO_ok) (by kernel_rfl) k_0_run (Nat.le_of_ble_eq_true (by kernel_rfl)) (Nat.le_of_ble_eq_true (by kernel_rfl))
noncomputable def k_1 : CE := ⟨4, 926, [.sl 2 40 [[.str ⟨#[83]⟩, .sl 3 32 [[.int .i64 (4), .str ⟨#[]⟩, .int .i64 (3)], [.int .i64 (3), .str ⟨#[97]⟩, .int .i64 (0)], [.int .i64 (2), .str ⟨#[83]⟩, .int .i64 (0)], [.int .i64 (3), .str ⟨#[98]⟩, .int .i64 (0)]]], [.str ⟨#[83]⟩, .sl 3 32 [[.int .i64 (4), .str ⟨#[]⟩, .int .i64 (2)], [.int .i64 (3), .str ⟨#[97]⟩, .int .i64 (0)], [.int .i64 (3), .str ⟨#[98]⟩, .int .i64 (0)]]]]], [], .tup [.bx 1362 1362 0, .int .i64 (0)], [v_8, v_9, v_10, v_11, v_12, v_13, v_14, v_15], 1816⟩
theorem k_1_run : (k_1).run Tryz.prog 10000 (orE (orcT []) libO) 200 = true := by kernel_rfl
theorem k_1_ok : (k_1).holds Tryz.prog := CE.holds_of mixedO (orE_ok (orcT_ok (fun _ h => absurd h List.not_mem_nil)) libO_ok) (by kernel_rfl) k_1_run (Nat.le_of_ble_eq_true (by kernel_rfl)) (Nat.le_of_ble_eq_true (by kernel_rfl))
noncomputable def k_2 : CE := ⟨29, 1818, [.bx 1817 1817 0, .str ⟨#[120]⟩, .str ⟨#[97]⟩, .str ⟨#[121]⟩], [v_16, v_17], .tup [.bool true, .int .i64 (0)], [v_18, v_19, v_20, v_21, v_22, v_23, v_24], 1913⟩
theorem k_2_run : (k_2).run Tryz.prog 10000 (orE (orcT []) libO) 200 = true := by kernel_rfl
theorem k_2_ok : (k_2).holds Tryz.prog := CE.holds_of mixedO (orE_ok (orcT_ok (fun _ h => absurd h List.not_mem_nil)) libO_ok) (by kernel_rfl) k_2_run (Nat.le_of_ble_eq_true (by kernel_rfl)) (Nat.le_of_ble_eq_true (by kernel_rfl))
noncomputable def k_3 : CE := ⟨29, 1913, [.bx 1817 1817 0, .str ⟨#[121]⟩, .str ⟨#[97]⟩, .str ⟨#[120]⟩], [v_18, v_19, v_20, v_21, v_22, v_23, v_24], .tup [.bool true, .int .i64 (0)], [v_25, v_26, v_27, v_28, v_29], 2070⟩
theorem k_3_run : (k_3).run Tryz.prog 10000 (orE (orcT []) libO) 200 = true := by kernel_rfl
theorem k_3_ok : (k_3).holds Tryz.prog := CE.holds_of mixedO (orE_ok (orcT_ok (fun _ h => absurd h List.not_mem_nil)) libO_ok) (by kernel_rfl) k_3_run (Nat.le_of_ble_eq_true (by kernel_rfl)) (Nat.le_of_ble_eq_true (by kernel_rfl))
noncomputable def k_4 : CE := ⟨29, 2070, [.bx 1817 1817 0, .str ⟨#[120]⟩, .str ⟨#[98]⟩, .str ⟨#[122]⟩], [v_25, v_19, v_20, v_26, v_22, v_27, v_28, v_29, v_24], .tup [.bool true, .int .i64 (0)], [v_30, v_31, v_32, v_33, v_34, v_35, v_36], 2299⟩
theorem k_4_run : (k_4).run Tryz.prog 10000 (orE (orcT []) libO) 200 = true := by kernel_rfl
theorem k_4_ok : (k_4).holds Tryz.prog := CE.holds_of mixedO (orE_ok (orcT_ok (fun _ h => absurd h List.not_mem_nil)) libO_ok) (by kernel_rfl) k_4_run (Nat.le_of_ble_eq_true (by kernel_rfl)) (Nat.le_of_ble_eq_true (by kernel_rfl))
noncomputable def k_5 : CE := ⟨29, 2299, [.bx 1817 1817 0, .str ⟨#[122]⟩, .str ⟨#[98]⟩, .str ⟨#[120]⟩], [v_30, v_31, v_32, v_33, v_34, v_27, v_35, v_29, v_24, v_36], .tup [.bool true, .int .i64 (0)], [v_37, v_38, v_39, v_40, v_41], 2607⟩
theorem k_5_run : (k_5).run Tryz.prog 10000 (orE (orcT []) libO) 200 = true := by kernel_rfl
theorem k_5_ok : (k_5).holds Tryz.prog := CE.holds_of mixedO (orE_ok (orcT_ok (fun _ h => absurd h List.not_mem_nil)) libO_ok) (by kernel_rfl) k_5_run (Nat.le_of_ble_eq_true (by kernel_rfl)) (Nat.le_of_ble_eq_true (by kernel_rfl))
noncomputable def lawC (a b : Int) : CE := ⟨3, 10, [.int .i64 a, .int .i64 b], [], .bool true, [], 3551⟩
theorem lawC_run (a b : Int) : (lawC a b).run Tryz.prog 10000 (orE (orcT [k_0, k_1, k_2, k_3, k_4, k_5]) libO) 200 = true := by kernel_rfl
theorem lawC_ok (a b : Int) : (lawC a b).holds Tryz.prog := CE.holds_of mixedO (orE_ok (orcT_ok (List.forall_mem_cons.2 ⟨k_0_ok, List.forall_mem_cons.2 ⟨k_1_ok, List.forall_mem_cons.2 ⟨k_2_ok, List.forall_mem_cons.2 ⟨k_3_ok, List.forall_mem_cons.2 ⟨k_4_ok, List.forall_mem_cons.2 ⟨k_5_ok, fun _ h => absurd h List.not_mem_nil⟩⟩⟩⟩⟩⟩)) libO_ok) (by kernel_rfl) (lawC_run a b) (Nat.le_of_ble_eq_true (by kernel_rfl)) (Nat.le_of_ble_eq_true (by kernel_rfl))
end Go.Proofs.YtedjakmhhlilaaaGreat
end
section
namespace Go.Dm
variable [DMode]
inductive Sh where
 | b
 | i (k : IntKind)
 | s
 | sl (k bs : Nat) (c : List Sh)
mutual
def HasS (L : Nat) : Sh → DVal → Prop
 | .b, d => ∃ b, d = .bool b
 | .i k, d => ∃ n, d = .int k n
 | .s, d => ∃ x : ByteArray, d = .str x ∧ x.size ≤ L
 | .sl k bs c, d => ∃ es, d = .sl k bs es ∧ es.length * bs ≤ L ∧ ∀ e ∈ es, HasL L c e
def HasL (L : Nat) : List Sh → List DVal → Prop
 | [], ds => ds = []
 | x :: r, ds => ∃ d t, ds = d :: t ∧ HasS L x d ∧ HasL L r t
end
theorem HasL_append {L : Nat} : ∀ {a b : List Sh} {x y : List DVal}, HasL L a x → HasL L b y → HasL L (a ++ b) (x ++ y)
 | [], b, x, y, h, k => by simp only [HasL] at h; subst h; exact k
 | a :: r, b, x, y, h, k => by
  simp only [HasL] at h
  obtain ⟨d, t, rfl, h1, h2⟩ := h
  simp only [List.cons_append, HasL]
  exact ⟨d, t ++ y, rfl, h1, HasL_append h2 k⟩
def shF (g : TypeId → Option (List Sh)) (cells : TypeId → Nat) : List Field → Nat → Option (List Sh × Nat)
 | [], off => some ([], off)
 | f :: r, off => if f.offset = off then
  (match g f.type, shF g cells r (off + cells f.type) with
  | some c, some (l, e) => some (c ++ l, e)
  | _, _ => none) else none
def shOf (P : Program) : Nat → TypeId → Option (List Sh)
 | 0, _ => none
 | n + 1, t => match P.underlying t with
  | some .bool => some [.b]
  | some (.int k) => some [.i k]
  | some .string => some [.s]
  | some (.slice e) => if 0 < P.cellsOf e then (shOf P n e).map fun c => [.sl (P.cellsOf e) (P.bytesOf e) c] else none
  | some (.struct fs) => match shF (shOf P n) P.cellsOf fs.toList 0 with
   | some (l, e) => if e = P.cellsOf t then some l else none
   | none => none
  | _ => none
theorem mapM_some {α β : Type} {f : α → Option β} : ∀ {l : List α} {r : List β}, l.mapM f = some r → r.length = l.length ∧ ∀ (i : Nat) (x : α), l[i]? = some x → ∃ y, r[i]? = some y ∧ f x = some y
 | [], r, h => by simp at h; subst h; simp
 | a :: l, r, h => by
  rw [List.mapM_cons] at h
  cases hf : f a with
  | none => rw [hf] at h; simp at h
  | some y =>
   rw [hf] at h
   cases hm : l.mapM f with
   | none => rw [hm] at h; simp at h
   | some r' =>
    rw [hm] at h
    simp at h
    subst h
    obtain ⟨h1, h2⟩ := mapM_some hm
    refine ⟨by simp [h1], fun i x hx => ?_⟩
    cases i with
    | zero => simp only [List.getElem?_cons_zero, Option.some.injEq] at hx; subst hx; exact ⟨y, rfl, hf⟩
    | succ i => simp only [List.getElem?_cons_succ] at hx ⊢; exact h2 i x hx
theorem rdV_len {cur : Cur} {M : List Nat} {h : Array Obj} : ∀ {a : List DVal} {x : List Value}, rdV cur M h a x → a.length = x.length
 | [], x, h1 => by simp only [rdV] at h1; subst h1; rfl
 | d :: a, x, h1 => by
  simp only [rdV] at h1
  obtain ⟨v, r, rfl, h3, h4⟩ := h1
  simp [rdV_len h4]
theorem rdC_of_rdV {cur : Cur} {M : List Nat} {h : Array Obj} {arr : Array Value} : ∀ {a : List DVal} {x : List Value} {o : Nat}, rdV cur M h a x → (∀ v ∈ x, v.oneCell' = true) → (∀ (j : Nat) v, x[j]? = some v → arr[o + j]? = some v) → rdC cur M h a arr o
 | [], x, o, h1, _, _ => by simp [rdC]
 | d :: a, x, o, h1, h2, h3 => by
  simp only [rdV] at h1
  obtain ⟨v, r, rfl, h4, h5⟩ := h1
  simp only [rdC]
  refine ⟨⟨v, by simpa using h3 0 v rfl, h2 v (by simp), h4⟩, rdC_of_rdV h5 (fun u hu => h2 u (by simp [hu])) fun j u hu => ?_⟩
  have := h3 (j + 1) u (by simpa using hu)
  rw [← this]; congr 1; omega
theorem rows_of {L : Nat} {cur : Cur} {M : List Nat} {h : Array Obj} {arr : Array Value} {k : Nat} {c : List Sh} : ∀ (len off : Nat), (∀ i, i < len → ∃ ds, ds.length = k ∧ rdC cur M h ds arr (off + i * k) ∧ HasL L c ds) →
  ∃ es, es.length = len ∧ rdR cur M h k es arr off ∧ ∀ e ∈ es, HasL L c e
 | 0, off, _ => ⟨[], rfl, by simp [rdR], by simp⟩
 | len + 1, off, hh => by
  obtain ⟨ds, h1, h2, h3⟩ := hh 0 (by omega)
  obtain ⟨es, h4, h5, h6⟩ := rows_of len (off + k) (fun i hi => by
   obtain ⟨ds, h1, h2, h3⟩ := hh (i + 1) (by omega)
   refine ⟨ds, h1, ?_, h3⟩
   have : off + k + i * k = off + (i + 1) * k := by rw [Nat.add_mul]; omega
   rw [this]; exact h2)
  refine ⟨ds :: es, by simp [h4], ?_, ?_⟩
  ·simp only [rdR]; exact ⟨h1, by simpa using h2, h5⟩
  ·intro e he
   rcases List.mem_cons.1 he with rfl | he
   ·exact h3
   ·exact h6 e he
theorem inR_of_wf {k : IntKind} {n : Int} (h : (Lit.int k n).wf = true) : inR k n := by
 cases k <;> simpa [Lit.wf, IntKind.min, IntKind.max, IntKind.signed, IntKind.bits, inR] using h
theorem shF_mono {g : TypeId → Option (List Sh)} {cells : TypeId → Nat} : ∀ {fs : List Field} {off e : Nat} {l : List Sh}, shF g cells fs off = some (l, e) → off ≤ e
 | [], off, e, l, h => by simp only [shF, Option.some.injEq, Prod.mk.injEq] at h; omega
 | f :: r, off, e, l, h => by
  simp only [shF] at h
  split at h
  ·split at h
   ·rename_i c l' e' h1 h2
    simp only [Option.some.injEq, Prod.mk.injEq] at h
    have := shF_mono h2
    omega
   ·simp at h
  ·simp at h
section
variable {H : Type} {enc : TypeId × Value → H} {P : Program} {w : World} {cur : Cur}
def RdArg (L : Nat) (P : Program) (cur : Cur) (w : World) (cs : List Value) (shs : List Sh) : Prop :=
 ∃ ds, rdV cur [] w.heap ds cs ∧ (∀ v ∈ cs, v.oneCell' = true) ∧ HasL L shs ds
theorem fields_rd {L fuel n : Nat} (ih : ∀ {t : TypeId} {cs : List Value} {d : DataW H} {ps : List MemPlace} {shs : List Sh}, DataW.trod enc P w 0 (fun _ => true) true fuel t cs = some (d, ps) → shOf P n t = some shs → (∀ x ∈ d.weights P t, x ≤ L) → RdArg L P cur w cs shs)
  (cs : List Value) : ∀ (fs : List Field) (off e : Nat) (l : List Sh) (xs : List (DataW H × List MemPlace)),
   fs.mapM (fun f => DataW.trod enc P w 0 (fun _ => true) true fuel f.type ((cs.drop f.offset).take (P.cellsOf f.type))) = some xs → shF (shOf P n) P.cellsOf fs off = some (l, e) →
   (∀ x ∈ DataW.weightsEach P (fs.map (·.type)) (xs.map (·.1)), x ≤ L) → RdArg L P cur w ((cs.drop off).take (e - off)) l
 | [], off, e, l, xs, h1, h2, h3 => by
  simp only [shF, Option.some.injEq, Prod.mk.injEq] at h2
  obtain ⟨rfl, rfl⟩ := h2
  exact ⟨[], by simp [rdV], by simp, by simp [HasL]⟩
 | f :: fs, off, e, l, xs, h1, h2, h3 => by
  rw [List.mapM_cons] at h1
  simp only [shF] at h2
  split at h2
  ·rename_i hoff
   split at h2
   ·rename_i c l' e' h4 h5
    simp only [Option.some.injEq, Prod.mk.injEq] at h2
    obtain ⟨rfl, rfl⟩ := h2
    have hm := shF_mono h5
    cases hf : DataW.trod enc P w 0 (fun _ => true) true fuel f.type ((cs.drop f.offset).take (P.cellsOf f.type)) with
    | none => rw [hf] at h1; simp at h1
    | some x =>
     rw [hf] at h1
     cases hr : fs.mapM (fun f => DataW.trod enc P w 0 (fun _ => true) true fuel f.type ((cs.drop f.offset).take (P.cellsOf f.type))) with
     | none => rw [hr] at h1; simp at h1
     | some xr =>
      rw [hr] at h1
      simp at h1
      subst h1
      simp only [List.map_cons, DataW.weightsEach, List.mem_append] at h3
      obtain ⟨d1, a1, a2, a3⟩ := ih hf h4 (fun y hy => h3 y (.inl hy))
      obtain ⟨d2, b1, b2, b3⟩ := fields_rd ih cs fs (off + P.cellsOf f.type) e' l' xr hr h5 (fun y hy => h3 y (.inr hy))
      have hsp : (cs.drop off).take (e' - off) = (cs.drop f.offset).take (P.cellsOf f.type) ++ (cs.drop (off + P.cellsOf f.type)).take (e' - (off + P.cellsOf f.type)) := by
       rw [hoff, ← List.drop_drop, show e' - off = P.cellsOf f.type + (e' - (off + P.cellsOf f.type)) by omega, List.take_add]
      rw [hsp]
      exact ⟨d1 ++ d2, rdV_append _ _ _ _ a1 b1, fun v hv => (List.mem_append.1 hv).elim (a2 v) (b2 v), HasL_append a3 b3⟩
   ·simp at h2
  ·simp at h2
theorem weightsAll_mem {e : TypeId} : ∀ {l : List (DataW H)} {d : DataW H}, d ∈ l → ∀ x ∈ d.weights P e, x ∈ DataW.weightsAll P e l
 | a :: l, d, hd, x, hx => by
  simp only [DataW.weightsAll, List.mem_append]
  rcases List.mem_cons.1 hd with rfl | hd
  ·exact .inl hx
  ·exact .inr (weightsAll_mem hd x hx)
theorem cells_get {a : Addr} {n : Nat} {cs : List Value} (h : w.cells? 0 a n = some cs) : cs.length = n ∧ ∀ (j : Nat) v, cs[j]? = some v → w.cell? (a.add j) = some v := by
 unfold World.cells? at h
 rw [if_pos (Nat.zero_le _)] at h
 obtain ⟨h1, h2⟩ := mapM_some h
 rw [List.length_range] at h1
 refine ⟨h1, fun j v hv => ?_⟩
 have hj : j < n := by rw [← h1]; exact (List.getElem?_eq_some_iff.1 hv).1
 obtain ⟨y, hy, hy'⟩ := h2 j j (by rw [List.getElem?_range hj])
 rw [hv] at hy
 rw [hy', hy]
theorem add_none (b o n : Nat) : (⟨b, o, none⟩ : Addr).add n = ⟨b, o + n, none⟩ := by
 unfold Addr.add
 split
 ·rename_i h; subst h; rfl
 ·rfl
theorem trod_rd {L : Nat} (hL : L ≤ 140737488355328) : ∀ {fuel n : Nat} {t : TypeId} {cs : List Value} {d : DataW H} {ps : List MemPlace} {shs : List Sh}, DataW.trod enc P w 0 (fun _ => true) true fuel t cs = some (d, ps) → shOf P n t = some shs →
  (∀ x ∈ d.weights P t, x ≤ L) → RdArg L P cur w cs shs
 | 0, n, t, cs, d, ps, shs, h, hs, hw => by simp [DataW.trod] at h
 | fuel + 1, 0, t, cs, d, ps, shs, h, hs, hw => by simp [shOf] at hs
 | fuel + 1, n + 1, t, cs, d, ps, shs, h, hs, hw => by
  unfold DataW.trod at h
  split at h
  ·rename_i b hu
   simp only [shOf, hu, Option.some.injEq] at hs
   subst hs
   exact ⟨[.bool b], by simp [rdV, rd], by simp [Value.oneCell'], by simp [HasL, HasS]⟩
  ·rename_i k k' n' hu
   simp only [shOf, hu, Option.some.injEq] at hs
   subst hs
   split at h
   ·rename_i hk
    obtain ⟨rfl, hk⟩ := hk
    exact ⟨[.int k' n'], by simp [rdV, rd, inR_of_wf hk], by simp [Value.oneCell'], by simp [HasL, HasS]⟩
   ·simp at h
  ·rename_i hu; simp [shOf, hu] at hs
  ·rename_i x hu
   simp only [shOf, hu, Option.some.injEq] at hs
   subst hs
   split at h
   ·rename_i hk
    simp only [Option.some.injEq, Prod.mk.injEq] at h
    obtain ⟨rfl, _⟩ := h
    have hsz := hw x.data.toList.length (by simp [DataW.weights])
    exact ⟨[.str x], by simp [rdV, rd, hk], by simp [Value.oneCell'], by simp only [HasL, HasS]; exact ⟨_, _, rfl, ⟨x, rfl, by rw [Array.length_toList] at hsz; exact hsz⟩, rfl⟩⟩
   ·simp at h
  ·rename_i hu; simp [shOf, hu] at hs
  ·rename_i hu; simp [shOf, hu] at hs
  ·rename_i e hu
   simp only [shOf, hu] at hs
   split at hs
   rotate_left
   ·simp at hs
   rename_i hk0
   rw [Option.map_eq_some_iff] at hs
   obtain ⟨c, hc, rfl⟩ := hs
   exact ⟨[.sl (P.cellsOf e) (P.bytesOf e) []], by simp only [rdV, rd]; exact ⟨_, _, rfl, ⟨none, 0, rfl, Nat.le_refl _, Nat.zero_le _, by simp, .inl ⟨trivial, fun _ => rfl⟩⟩, rfl⟩, by simp [Value.oneCell'], by simp [HasL, HasS]⟩
  ·rename_i e a len cap hu
   simp only [shOf, hu] at hs
   split at hs
   rotate_left
   ·simp at hs
   rename_i hk0
   rw [Option.map_eq_some_iff] at hs
   obtain ⟨c, hc, rfl⟩ := hs
   simp only at h
   split at h
   ·rename_i hb
    obtain ⟨_, hb1, hb2⟩ := hb
    cases hm : (List.range len).mapM (fun i => (w.cells? 0 (a.add (i * P.cellsOf e)) (P.cellsOf e)).bind (DataW.trod enc P w 0 (fun _ => true) true fuel e)) with
    | none => rw [hm] at h; simp at h
    | some elems =>
     rw [hm] at h
     simp only [Option.bind_some, if_true, Option.map_eq_some_iff] at h
     obtain ⟨rest, hr, h⟩ := h
     simp only [Prod.mk.injEq] at h
     obtain ⟨rfl, rfl⟩ := h
     simp only [DataW.weights, hu, List.mem_cons, List.mem_append, List.length_map] at hw
     obtain ⟨m1, m2⟩ := mapM_some hm
     rw [List.length_range] at m1
     have hsz := hw _ (.inl rfl)
     have hlen : len * P.bytesOf e ≤ L := Nat.le_trans (Nat.mul_le_mul_right _ (by omega)) hsz
     have hel : ∀ i, i < len → ∃ cs ds, w.cells? 0 (a.add (i * P.cellsOf e)) (P.cellsOf e) = some cs ∧ rdV cur [] w.heap ds cs ∧ (∀ v ∈ cs, v.oneCell' = true) ∧ HasL L c ds := by
      intro i hi
      obtain ⟨y, hy, hy'⟩ := m2 i i (by rw [List.getElem?_range hi])
      rw [Option.bind_eq_some_iff] at hy'
      obtain ⟨cs, hcs, hy'⟩ := hy'
      obtain ⟨d', p'⟩ := y
      have hmem : d' ∈ elems.map (·.1) := List.mem_map.2 ⟨_, List.mem_of_getElem? hy, rfl⟩
      obtain ⟨ds, b1, b2, b3⟩ := trod_rd hL hy' hc (fun x hx => hw x (.inr (.inl (weightsAll_mem hmem x hx))))
      exact ⟨cs, ds, hcs, b1, b2, b3⟩
     by_cases h0 : len = 0
     ·subst h0
      exact ⟨[.sl (P.cellsOf e) (P.bytesOf e) []], by simp only [rdV, rd]; exact ⟨_, _, rfl, ⟨some a, cap, rfl, Nat.zero_le _, hb2, by simp, .inl ⟨trivial, fun hh => by simp at hh⟩⟩, rfl⟩, by simp [Value.oneCell'], by simp [HasL, HasS]⟩
     ·obtain ⟨blk, off, spot⟩ := a
      obtain ⟨cs0, ds0, hcs0, _, _, _⟩ := hel 0 (by omega)
      obtain ⟨l1, l2⟩ := cells_get hcs0
      obtain ⟨v, hv⟩ : ∃ v, cs0[0]? = some v := ⟨_, List.getElem?_eq_getElem (by omega)⟩
      have hc0 : w.cell? ⟨blk, off, spot⟩ = some v := by simpa [Addr.add] using l2 0 v hv
      obtain ⟨arr, ty, fz, hblk, hspot⟩ : ∃ arr ty fz, w.heap[blk]? = some (.cells arr ty fz) ∧ spot = none := by
       simp only [World.cell?] at hc0
       split at hc0
       ·rename_i arr ty fz hb
        split at hc0
        ·simp at hc0
        ·rename_i hsp
         exact ⟨arr, ty, fz, hb, by simpa using hsp⟩
       ·simp at hc0
      subst hspot
      obtain ⟨es, e1, e2, e3⟩ := rows_of (cur := cur) (M := []) (h := w.heap) (arr := arr) (k := P.cellsOf e) (c := c) len off (fun i hi => by
       obtain ⟨cs, ds, hcs, b1, b2, b3⟩ := hel i hi
       obtain ⟨l1, l2⟩ := cells_get hcs
       refine ⟨ds, by rw [rdV_len b1, l1], rdC_of_rdV b1 b2 fun j u hu => ?_, b3⟩
       have := l2 j u hu
       rw [add_none, add_none] at this
       simpa [World.cell?, hblk] using this)
      refine ⟨[.sl (P.cellsOf e) (P.bytesOf e) es], ?_, by simp [Value.oneCell'], by simp only [HasL, HasS]; exact ⟨_, _, rfl, ⟨es, rfl, by rw [e1]; exact hlen, e3⟩, rfl⟩⟩
      simp only [rdV, rd]
      exact ⟨_, _, rfl, ⟨_, _, by rw [e1], by omega, hb2, by rw [e1]; omega, .inr ⟨blk, off, arr, ty, fz, rfl, by simp, hblk, e2⟩⟩, rfl⟩
   ·simp at h
  ·rename_i fs hu
   simp only [shOf, hu] at hs
   split at hs
   ·rename_i l e hf
    split at hs
    ·rename_i he
     simp only [Option.some.injEq] at hs
     subst hs
     subst he
     split at h
     ·rename_i hlen
      simp only [Option.map_eq_some_iff] at h
      obtain ⟨xs, hxs, h⟩ := h
      simp only [Prod.mk.injEq] at h
      obtain ⟨rfl, rfl⟩ := h
      simp only [DataW.weights, hu] at hw
      have := fields_rd (cur := cur) (fun h1 h2 h3 => trod_rd hL h1 h2 h3) _ fs.toList 0 (P.cellsOf t) l xs hxs hf hw
      simpa [← hlen] using this
     ·simp at h
    ·simp at hs
   ·simp at hs
  all_goals first | (simp at h; done) | (rename_i hu; simp [shOf, hu] at hs; done)
def isAggT (P : Program) (t : TypeId) : Bool := match P.underlying t with | some (.struct _) => true | _ => false
theorem arg_rd {L base n : Nat} (hL : L ≤ 140737488355328) {t : TypeId} {v : Value} {d : DataW H} {ps : List MemPlace} {shs : List Sh} (hv : Value.okWide P w .any base t v) (h : DataW.Trod enc P w 0 (fun _ => true) true t v d ps) (hs : shOf P n t = some shs)
  (hw : ∀ x ∈ d.weights P t, x ≤ L) : ∃ ds, HasL L shs ds ∧ if isAggT P t then rd cur [] w.heap (.agg ds) v else rdV cur [] w.heap ds [v] := by
 obtain ⟨fuel, h⟩ := h
 obtain ⟨ds, h1, h2, h3⟩ := trod_rd (cur := cur) hL h hs hw
 refine ⟨ds, h3, ?_⟩
 unfold isAggT
 split
 ·rename_i fs hu
  simp only [if_true]
  simp only [Value.okWide, hu] at hv
  obtain ⟨cs, rfl, _, _⟩ := hv
  simp only [rd]
  exact ⟨cs, rfl, h1⟩
 ·rename_i hu
  have hag : v.cells = #[v] := by
   cases n with
   | zero => simp [shOf] at hs
   | succ n =>
    cases v <;> first | rfl | skip
    rename_i cs
    unfold shOf at hs
    unfold Value.okWide at hv
    cases hu' : P.underlying t with
    | none => simp [hu'] at hs
    | some ty =>
     rw [hu'] at hs hv
     cases ty <;> simp [Cell.okWide, Cell.ok, hu'] at hs hv
     exact absurd hu' (hu _)
  rw [hag] at h1
  simpa using h1
def HasArgs (L : Nat) (P : Program) : List TypeId → List (List Sh) → List DVal → Prop
 | [], [], a => a = []
 | t :: ts, x :: xs, a => ∃ ds r, HasL L x ds ∧ a = (if isAggT P t then .agg ds else ds.headD .any) :: r ∧ HasArgs L P ts xs r
 | _, _, _ => False
theorem args_rd0 {L base n : Nat} (hL : L ≤ 140737488355328) : ∀ {ts : List TypeId} {vs : List Value} {ds : List (DataW H)} {ps : List MemPlace} {shs : List (List Sh)}, (∀ (j : Nat) t v, ts[j]? = some t → vs[j]? = some v → Value.okWide P w .any base t v) →
  DataW.TrodAll enc P w 0 (fun _ => true) true ts vs ds ps → ts.map (shOf P n) = shs.map some → (∀ x ∈ DataW.weightsEach P ts ds, x ≤ L) → ∃ das, rdV cur [] w.heap das vs ∧ HasArgs L P ts shs das
 | [], vs, ds, ps, shs, hv, hA, hs, hw => by
  obtain ⟨rfl, rfl, rfl⟩ := ChangeShapes.trodAll_nil hA
  cases shs with
  | nil => exact ⟨[], by simp [rdV], by simp [HasArgs]⟩
  | cons a b => simp at hs
 | t :: ts, vs, ds, ps, shs, hv, hA, hs, hw => by
  obtain ⟨v, vr, d, dr, p, q, rfl, rfl, rfl, h0, hr⟩ := ChangeShapes.trodAll_cons hA
  cases shs with
  | nil => simp at hs
  | cons x xs =>
   simp only [List.map_cons, List.cons.injEq] at hs
   simp only [DataW.weightsEach, List.mem_append] at hw
   obtain ⟨das, a1, a2⟩ := args_rd0 hL (fun j t v h1 h2 => hv (j + 1) t v (by simpa using h1) (by simpa using h2)) hr hs.2 (fun y hy => hw y (.inr hy))
   obtain ⟨dd, b1, b2⟩ := arg_rd (cur := cur) hL (hv 0 t v rfl rfl) h0 hs.1 (fun y hy => hw y (.inl hy))
   refine ⟨(if isAggT P t then .agg dd else dd.headD .any) :: das, ?_, by simp only [HasArgs]; exact ⟨dd, das, b1, rfl, a2⟩⟩
   simp only [rdV]
   refine ⟨v, vr, rfl, ?_, a1⟩
   split
   ·rename_i h; rw [if_pos h] at b2; exact b2
   ·rename_i h
    rw [if_neg h] at b2
    cases dd with
    | nil => simp [rdV] at b2
    | cons d0 dr =>
     simp only [rdV] at b2
     obtain ⟨u, r, hu, hd0, _⟩ := b2
     simp only [List.cons.injEq] at hu
     rw [hu.1]
     simpa using hd0
theorem args_rd {L base n : Nat} {ts : List TypeId} {vs : List Value} {ds : List (DataW H)} {ps : List MemPlace} {shs : List (List Sh)} (h1 : ∀ (j : Nat) t v, ts[j]? = some t → vs[j]? = some v → Value.okWide P w .any base t v)
 (h2 : DataW.TrodAll enc P w 0 (fun _ => true) true ts vs ds ps) (h3 : ts.map (shOf P n) = shs.map some) (h4 : ∀ x ∈ DataW.weightsEach P ts ds, x ≤ L) (hL : L ≤ 140737488355328 := by omega) : ∃ das, rdV cur [] w.heap das vs ∧ HasArgs L P ts shs das := args_rd0 hL h1 h2 h3 h4
theorem Upd.below {a b : World} (h : Upd [] a b) : RowKit.Below a.heap.size a b := ⟨h.os, h.tape, h.output, h.size, fun k hk => h.blk k hk (by simp)⟩
theorem trodAll_stays (hl : laidOutB P = true) {W W' : World} {sp : Nat → Bool} : ∀ {ts : List TypeId} {vs : List Value} {ds : List (DataW H)} {ps : List MemPlace}, (∀ t ∈ ts, P.readableRec t = true ∧ t < P.types.size) →
  DataW.TrodAll enc P W 0 (fun _ => true) true ts vs ds ps → (∀ p ∈ ps, W.sameAt W' p) → (∀ p ∈ ps, sp p.block = true) → DataW.TrodAll enc P W' 0 sp true ts vs ds ps
 | [], vs, ds, ps, ht, hA, h1, h2 => by
  obtain ⟨rfl, rfl, rfl⟩ := ChangeShapes.trodAll_nil hA
  rfl
 | t :: ts, vs, ds, ps, ht, hA, h1, h2 => by
  obtain ⟨v, vr, d, dr, p, q, rfl, rfl, rfl, h0, hr⟩ := ChangeShapes.trodAll_cons hA
  obtain ⟨k1, k2⟩ := ht t (by simp)
  exact ⟨p, q, WideElems.Trod_stays hl k1 k2 h0 (fun x hx => h1 x (by simp [hx])) (fun x hx => h2 x (by simp [hx])), trodAll_stays hl (fun t h => ht t (by simp [h])) hr (fun x hx => h1 x (by simp [hx])) (fun x hx => h2 x (by simp [hx])), rfl⟩
theorem law_post {fn : Func} {s : ChangeSpec} {fresh handsOn : Bool} {tb : TypeId} {W W' : World} {args : Array Value} {ds gs : List (DataW H)} {before : List MemPlace} (hl : laidOutB P = true)
  (hall : ∀ t ∈ fn.params.toList, P.readableRec t = true ∧ t < P.types.size) (hr : fn.resultTypes = #[tb]) (hub : P.underlying tb = some .bool) (hvars : s.vars = [])
  (hs : s.fn H (ds ++ gs) = { results := [.lit (.bool true)], args := ds }) (hW : DataW.Whole enc P fn.params.toList s.vars false W args.toList ds gs before) (hu : Upd [] W W') :
  s.post enc P fn false fresh handsOn false W args (.bool true) W' := by
 have hW' := hW
 obtain ⟨p, q, hA, hV, rfl, hfz, hnd⟩ := hW
 have hlt : ∀ x ∈ p, x.block < W.heap.size := fun x hx => hW'.lt x (by simp [hx])
 have hb := hu.below
 refine ⟨ds, gs, p ++ q, [], p, [], hW', ?_, ?_, ?_, hb.frame _, fun h => by cases h⟩
 ·rw [hs, hr]
  exact ChangeShapes.trodAll_mk1 (RowKit.shut_bool hub true)
 ·rw [hs]
  exact trodAll_stays hl hall hA (fun x hx => hb.same (hlt x hx)) (fun x hx => by simpa using hlt x hx)
 ·rw [hs, hvars]
  rfl
end
section
variable {H : Type} {enc : TypeId × Value → H} {P : Program}
theorem law_reckon {f : FuncId} {fn : Func} {s : ChangeSpec} {fresh handsOn : Bool} {tb : TypeId} {W : World} {args : Array Value} {das : List DVal} {ds gs : List (DataW H)} {before : List MemPlace} {own own' : List Ent} {r r' : Nat} {loc : Nat → Loc} (hl : laidOutB P = true)
  (hall : ∀ t ∈ fn.params.toList, P.readableRec t = true ∧ t < P.types.size) (hr : fn.resultTypes = #[tb]) (hub : P.underlying tb = some .bool) (hvars : s.vars = [])
  (hs : s.fn H (ds ++ gs) = { results := [.lit (.bool true)], args := ds }) (hW : DataW.Whole enc P fn.params.toList s.vars false W args.toList ds gs before)
  (S : St own loc [] W.heap) (hrd : rdV (curOf own loc) (hotOf own loc ++ []) W.heap das args.toList) (hb : mxE own ≤ r) (ha : mxL das ≤ r)
  (hd : SpecAtF P (.func f) das own r (.bool true) own' r') (hk : ∀ e ∈ own, e ∈ own' ∧ e.r < r ∧ ∃ g vs, e.obj = .glob g vs) :
  Calls P f args W fun e W' => ∃ v, e = .returned v ∧ s.post enc P fn false fresh handsOn false W args v W' := by
 have h := hd.2.2 [] W loc args hb ha S hrd
 refine h.2.mono fun e W' ⟨v, he, loc', S', hu, hnew, hver, hv⟩ => ⟨.bool true, ?_, law_post hl hall hr hub hvars hs hW ?_⟩
 ·simp only [rd] at hv
  rw [he, hv]
 ·refine ⟨hu.os, hu.tape, hu.output, hu.drawn, hu.size, fun b hb _ => ?_⟩
  by_cases hm : b ∈ hotOf own loc
  ·obtain ⟨e0, he0, hb0⟩ := List.mem_flatMap.1 hm
   obtain ⟨h1, h2, g, vs, h3⟩ := hk e0 he0
   have k1 := S.ok e0 he0
   have k2 := S'.ok e0 h1
   rw [h3] at k1 k2
   obtain ⟨q1, arr, ty, q2, q3, q4⟩ := k1
   obtain ⟨p1, arr', ty', p2, p3, p4⟩ := k2
   have hloc := hver e0 h1 h2
   rw [curOf_self S.nd he0] at hloc
   have hloc := Option.some.inj hloc
   rw [← hloc, q4] at p4
   have hbg : b = g := by rw [q1] at hb0; simpa using hb0
   subst hbg
   injection p4 with p5
   have p6 := congrArg Array.toList p5
   simp only [Array.toList_push] at p6
   obtain ⟨p7, p8⟩ := List.append_inj' p6 rfl
   have p7 := Array.toList_inj.1 p7
   injection p8 with p8 _
   injection p8 with _ p9
   have p10 : ty' = ty := (Int.ofNat.inj p9).symm
   rw [q2, p2, p7, p10]
  ·exact hu.blk b hb hm
theorem law_reckon0 {f : FuncId} {fn : Func} {s : ChangeSpec} {fresh handsOn : Bool} {tb : TypeId} {W : World} {args : Array Value} {das : List DVal} {ds gs : List (DataW H)} {before : List MemPlace} {own' : List Ent} {r r' : Nat} (hl : laidOutB P = true)
  (hall : ∀ t ∈ fn.params.toList, P.readableRec t = true ∧ t < P.types.size) (hr : fn.resultTypes = #[tb]) (hub : P.underlying tb = some .bool) (hvars : s.vars = [])
  (hs : s.fn H (ds ++ gs) = { results := [.lit (.bool true)], args := ds }) (hW : DataW.Whole enc P fn.params.toList s.vars false W args.toList ds gs before)
  (hrd : rdV (fun _ _ => none) [] W.heap das args.toList) (ha : mxL das ≤ r) (hd : SpecAtF P (.func f) das [] r (.bool true) own' r') :
  Calls P f args W fun e W' => ∃ v, e = .returned v ∧ s.post enc P fn false fresh handsOn false W args v W' := by
 have S : St [] (fun _ => ⟨[], .bool true⟩) [] W.heap := ⟨by simp, by simp [hotOf], by simp [hotOf], by simp [hotOf], by simp⟩
 have hc : curOf [] (fun _ => (⟨[], .bool true⟩ : Loc)) = fun _ _ => none := by funext id q; simp [curOf, findE]
 exact law_reckon hl hall hr hub hvars hs hW S (by rw [hc]; simpa [hotOf] using hrd) (by simp [mxE]) ha hd (by simp)
end
end Go.Dm
end
