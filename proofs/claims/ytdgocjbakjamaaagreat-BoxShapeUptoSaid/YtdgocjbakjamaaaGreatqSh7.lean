/- Parts of a proof, laid together: WJ3, RT, WBp, WB3, EnSc, WB4, WB5, WB6, WB7, BN0, WB8, WB9, WB10, WB11, WB12, WB13, EnBo, BN1, WRn, RY1, RX2, RX3, RX4, RY2, RY3. -/
import Derived.Scope
import Derived.Test.YtdgocjbakjamaaaGreatqSh4
import Derived.Test.YtdgocjbakjamaaaGreatqSh5
import Derived.Test.YtdgocjbakjamaaaGreatqSh6
section
set_option linter.unusedSectionVars false
/- strings.Join -/


set_option linter.unusedSimpArgs false
set_option linter.unusedVariables false
namespace Go.Proofs.YtdgocjbakjamaaaGreat
open Go Go.Dm Go.RowKit Go.Proofs
variable [DMode]
attribute [local irreducible] DW callP callS
set_option maxRecDepth 100000

def joinF (sep : ByteArray) (T y : ByteArray) : ByteArray := T ++ sep ++ y
def joinB : List ByteArray → ByteArray → ByteArray
 | [], _ => ⟨#[]⟩
 | x :: r, sep => r.foldl (joinF sep) x
theorem joinF_size (sep T y : ByteArray) : (joinF sep T y).size = T.size + sep.size + y.size := by simp [joinF, ByteArray.size_append]
theorem joinK_size (sep : ByteArray) (hs : sep.size ≤ 3) : ∀ (r : List ByteArray) (x : ByteArray), (∀ y ∈ r, y.size ≤ 67108864) → (r.foldl (joinF sep) x).size ≤ x.size + 67108867 * r.length ∧ x.size ≤ (r.foldl (joinF sep) x).size
 | [], x, _ => by simp
 | y :: r, x, h => by
  obtain ⟨h1, h2⟩ := joinK_size sep hs r (joinF sep x y) fun z hz => h z (List.mem_cons_of_mem _ hz)
  have h3 := h y List.mem_cons_self
  rw [joinF_size] at h1 h2
  rw [List.foldl_cons, List.length_cons]
  omega
theorem foldl_snoc {β α : Type} {f : β → α → β} {b : β} {l : List α} {k : Nat} {x : α} (hx : l[k]? = some x) : (l.take (k + 1)).foldl f b = f ((l.take k).foldl f b) x := by
 obtain ⟨h, rfl⟩ := List.getElem?_eq_some_iff.1 hx
 rw [List.take_succ_eq_append_getElem h, List.foldl_append]
 rfl
theorem str_app0 (x : ByteArray) : (⟨#[]⟩ : ByteArray) ++ x = x := by
 apply bytes_ext
 simp [ByteArray.data_append]
theorem bytesD_0 : bytesD ⟨#[]⟩ = [] := rfl

def anWJ3266 : Ann := ⟨[57, 61, 70, 72, 74], [⟨18, [8], [], []⟩]⟩
set_option maxHeartbeats 8000000 in
theorem join_pure (xs : List ByteArray) (sep : ByteArray) (hs : sep.size ≤ 3) (hl : xs.length ≤ 1310720) (hx : ∀ x ∈ xs, 1 ≤ x.size ∧ x.size ≤ 67108864) : DPure Tryz.prog 266 [.sl 1 16 (xs.map dStr), .str sep] (.str (joinB xs sep)) := by
 refine DPure_introF [] (fn := Tryz.f266) Tryz.func266 rfl Tryz.call266 (by simp [Tryz.ntmps266]) (by simp [mx]) ?_
 intro hwf B hnt
 simp only [Tryz.ntmps266] at hnt
 have hA := an_is anWJ3266 Tryz.mixed (aj2 @anWJ3266.eq_1 Tryz.results266)
 clear hwf
 simp only [argS]
 have size_e : (⟨#[]⟩ : ByteArray).size = 0 := rfl
 match xs, hl, hx with
 | [], hl, hx =>
  exact go0 aj0 aj0 (aj3 @size_e @joinB.eq_1 @joinB.eq_2)
 | [x], hl, hx =>
  exact go0 aj0 aj0 (aj4 @size_e @joinB.eq_1 @joinB.eq_2 @dStr.eq_1)
 | x0 :: x1 :: r, hl, hx =>
  obtain ⟨xs, hxs⟩ : ∃ xs, xs = x0 :: x1 :: r := ⟨_, rfl⟩
  have hJ : joinB (x0 :: x1 :: r) sep = (xs.drop 1).foldl (joinF sep) x0 := by rw [hxs]; rfl
  have h0 : xs[0]? = some x0 := by rw [hxs]; rfl
  have h2 : 2 ≤ xs.length := by rw [hxs]; simp
  obtain ⟨J, hJJ⟩ : ∃ J, J = joinB (x0 :: x1 :: r) sep := ⟨_, rfl⟩
  rw [← hJJ]
  rw [← hxs] at hl hx ⊢
  rw [← hJJ] at hJ
  clear hJJ hxs
  have hlt0 : 0 < xs.length := by omega
  have h0' : xs[0]'hlt0 = x0 := (List.getElem?_eq_some_iff.1 h0).2
  have c0 : ¬ (xs.length : Int) = 0 := by omega
  have c1 : ¬ (xs.length : Int) = 1 := by omega
  have c0b : ((xs.length : Int) == 0) = false := by simpa using c0
  have c1b : ((xs.length : Int) == 1) = false := by simpa using c1
  have w1 : IntKind.i64.wrap ((xs.length : Int) - 1) = (xs.length : Int) - 1 := wrap64_in (by omega) (by omega)
  obtain ⟨m0, hm0, hm1, hst⟩ : ∃ m0 : Int, 0 ≤ m0 ∧ m0 ≤ 3932160 ∧ (if 0 < sep.size then m0 = (sep.size : Int) * ((xs.length : Int) - 1) else m0 = 0) := by
   by_cases h : 0 < sep.size
   ·refine ⟨(sep.size : Int) * ((xs.length : Int) - 1), ?_, ?_, by rw [if_pos h]⟩
    ·exact Int.mul_nonneg (by omega) (by omega)
    ·have : (sep.size : Int) * ((xs.length : Int) - 1) ≤ 3 * 1310720 := Int.mul_le_mul (by omega) (by omega) (by omega) (by omega)
     omega
   ·exact ⟨0, by omega, by omega, by rw [if_neg h]⟩
  have hys : (xs.drop 1).length = xs.length - 1 := by rw [List.length_drop]
  have hyx : ∀ y ∈ xs.drop 1, y.size ≤ 67108864 := fun y hy => (hx y (List.mem_of_mem_drop hy)).2
  have t2 : List.take (xs.length - 1) (xs.map dStr).tail = (xs.drop 1).map dStr := by rw [← List.drop_one, ← List.map_drop]; exact List.take_of_length_le (by simp)
  have hx0 := hx x0 (by rw [← h0']; exact List.getElem_mem hlt0)
  have hw1 := writeUsed_spec ⟨#[]⟩ x0 (by rw [size_e]; omega)
  rw [str_app0, bytesD_0] at hw1
  obtain ⟨ys, hysd⟩ : ∃ ys, ys = xs.drop 1 := ⟨_, rfl⟩
  rw [← hysd] at hJ hys hyx t2
  clear hysd
  have hwr : ∀ n : Nat, (n : Int) ≤ 9223372036854775807 → IntKind.i64.wrap (n : Int) = n := fun n h => wrap64_in (by omega) h
  by_cases hsep : 0 < sep.size
  ·rw [if_pos hsep] at hst
   have w2 : IntKind.i64.wrap ((sep.size : Int) * ((xs.length : Int) - 1)) = m0 := by rw [← hst]; exact wrap64_in (by omega) (by omega)
   have w3 : IntKind.i64.wrap m0 = m0 := wrap64_in (by omega) (by omega)
   have hdv : ¬ IntKind.i64.wrap ((9223372036854775807 : Int).tdiv ((xs.length : Int) - 1)) ≤ (sep.size : Int) := by
    rw [Int.tdiv_eq_ediv_of_nonneg (by omega)]
    have h4 : (4 : Int) ≤ 9223372036854775807 / ((xs.length : Int) - 1) := Int.le_ediv_of_mul_le (by omega) (by omega)
    have h5 : (9223372036854775807 : Int) / ((xs.length : Int) - 1) ≤ 9223372036854775807 := Int.ediv_le_self _ (by omega)
    rw [wrap64_in (by omega) h5]
    omega
   have hnz : ¬ (xs.length : Int) - 1 = 0 := by omega
   have hsi : (0 : Int) < (sep.size : Int) := by omega
   (refine go1 aj0 aj0 (aj12 @size_e c0 c1 c0b c1b w1 w2 w3 hdv hnz hsep hsi) ?_; intros; refine mk_i ?_)
   refine DW_loop (X := {p : Nat × Nat // p.1 ≤ xs.length ∧ p.2 ≤ 3932160 + 67108864 * p.1 ∧ (0 < p.1 → 1 ≤ p.2)}) (fun p => ⟨[(0, .sl 1 16 (xs.map dStr)), (1, .str sep), (5, .int .i64 p.1.2), (39, .sl 1 16 (xs.map dStr)), (40, .int .i64 xs.length), (41, .int .i64 p.1.1)], []⟩) (fun p => xs.length - p.1.1) ⟨(0, m0.toNat), by simp only; refine ⟨by omega, by omega, by omega⟩⟩ (Sub.lit (by simp; try omega)) ?_
   rintro ⟨⟨k, m⟩, hk, hmb, hm1⟩
   simp only at hk hmb hm1 ⊢
   by_cases hlt : k < xs.length
   ·obtain ⟨x, hxk, hxk', hxm⟩ := at_lt' hlt
    obtain ⟨y1, y2⟩ := hx x hxm
    have q1 : IntKind.i64.wrap (9223372036854775807 - (m : Int)) = 9223372036854775807 - (m : Int) := wrap64_in (by omega) (by omega)
    have q2 : ¬ (9223372036854775807 - (m : Int) < (x.size : Int)) := by omega
    have q3 : IntKind.i64.wrap ((m : Int) + (x.size : Int)) = (m : Int) + (x.size : Int) := wrap64_in (by omega) (by omega)
    (refine go1 aj0 aj0 (aj7 @dStr.eq_1 hlt hxk hxk' q1 q2 q3) ?_; intros; refine mk_i ?_)
    refine Again.mk ⟨(k + 1, m + x.size), show k + 1 ≤ xs.length ∧ m + x.size ≤ 3932160 + 67108864 * (k + 1) ∧ (0 < k + 1 → 1 ≤ m + x.size) from ⟨by omega, by omega, by omega⟩⟩ (Sub.lit (by simp)) (by simp; omega)
    skip
   ·have hkk : k = xs.length := by omega
    subst hkk
    have hg := growFirst_spec m (hm1 (by omega)) (by omega)
    (repeat (first | (refine DW_allocT (bs := 32) (k := 2) (z := [.nilp, .nilsl]) (by simp [hnt]) (by simp) (by rfl) rfl (by decide) (fun _ _ => ?_); simp [hnt, dStr, h0, h0', hlt0, t2, size_e]) | refine DW_seq fun K hK => ?_ | (refine DW_r anWJ3266 Tryz.mixed (by kernel_rfl) ?_; simp [anWJ3266, hnt, dStr, h0, h0', hlt0, t2, size_e]; try simp (disch := omega) only [wrap64_in]) | refine DW_block ?_ | (refine DW_if ?_ ?_ ?_; (· (simp [hnt, dStr, h0, h0', hlt0, t2, size_e]; done)); (try (rotate_left; (· (intro hc; (try simp [hnt, dStr, h0, h0', hlt0, t2, size_e] at hc); done))))) | (refine DW_ret ?_; simp [Tryz.results266, hnt, dStr, h0, h0', hlt0, t2, size_e]) | ((first | refine DW_exit ?_ | refine DW_skip ?_); simp [hnt, dStr, h0, h0', hlt0, t2, size_e]) | (intro hc; (try simp [hnt, dStr, h0, h0', hlt0, t2, size_e] at hc); (try (exfalso; omega))) | (refine callS_mk [(8,0)] [(50,1)] (hg) ?_ ?_; (· (simp [hnt, dStr, h0, h0', hlt0, t2, size_e]; done)); (intro _; try simp [hnt, dStr, h0, h0', hlt0, t2, size_e])) | (refine callS_mk [(8,0),(50,1)] [] (hw1) ?_ ?_; (· (simp [hnt, dStr, h0, h0', hlt0, t2, size_e]; done)); (intro _; try simp [hnt, dStr, h0, h0', hlt0, t2, size_e])) | (refine ⟨?_, ?_⟩; · omega) | omega | apply_assumption -exfalso -symm | (exfalso; omega)))
    refine DW_loop (X := {k : Nat // k ≤ ys.length}) (fun k => ⟨[(1, .str sep), (8, .rx 8 1 2 0 0), (63, .sl 1 16 (ys.map dStr)), (64, .int .i64 ys.length), (65, .int .i64 k.1)], [⟨8, 1, .row 299 2 32 [[.rx 8 1 2 0 0, .osl 50 1]]⟩, ⟨50, 1, .row 5 1 1 (bytesD ((ys.take k.1).foldl (joinF sep) x0))⟩]⟩) (fun k => ys.length - k.1) ⟨0, by omega⟩ (Sub.lit (by simp [t2, hys])) ?_
    rintro ⟨k, hk⟩
    simp only
    by_cases hlt : k < ys.length
    ·obtain ⟨y, hy, hy', hym⟩ := at_lt' hlt
     obtain ⟨j1, j2⟩ := joinK_size sep hs (ys.take k) x0 fun z hz => hyx z (List.mem_of_mem_take hz)
     rw [List.length_take] at j1
     have hst2 := foldl_snoc (f := joinF sep) (b := x0) hy
     have hy9 := hyx y hym
     obtain ⟨T, hT⟩ : ∃ T, T = (ys.take k).foldl (joinF sep) x0 := ⟨_, rfl⟩
     rw [← hT] at j1 j2 hst2 ⊢
     have e1 := writeUsed_spec T sep (by omega)
     have e2 := writeUsed_spec (T ++ sep) y (by rw [ByteArray.size_append]; omega)
     rw [show T ++ sep ++ y = joinF sep T y from rfl, ← hst2] at e2
     (refine go1 aj0 (aj2 (spc [(8,0),(50,1)] [] e1) (spc [(8,0),(50,1)] [] e2)) (aj4 @dStr.eq_1 hlt hy hy') ?_; intros; refine mk_i ?_)
     refine Again.mk ⟨k + 1, by omega⟩ (Sub.lit (by simp)) (by simp; omega)
     skip
    ·have hkk : k = ys.length := by omega
     subst hkk
     rw [List.take_length, ← hJ]
     obtain ⟨j1, j2⟩ := joinK_size sep hs ys x0 hyx
     rw [← hJ] at j1 j2
     have e1 := stringSome_spec J (by omega)
     exact go0 aj0 (aj1 (spc [(8,0),(50,1)] [] e1)) aj0
  ·rw [if_neg hsep] at hst
   (refine go1 aj0 aj0 (aj7 @size_e c0 c1 c0b c1b w1 hsep) ?_; intros; refine mk_i ?_)
   refine DW_loop (X := {p : Nat × Nat // p.1 ≤ xs.length ∧ p.2 ≤ 3932160 + 67108864 * p.1 ∧ (0 < p.1 → 1 ≤ p.2)}) (fun p => ⟨[(0, .sl 1 16 (xs.map dStr)), (1, .str sep), (5, .int .i64 p.1.2), (39, .sl 1 16 (xs.map dStr)), (40, .int .i64 xs.length), (41, .int .i64 p.1.1)], []⟩) (fun p => xs.length - p.1.1) ⟨(0, m0.toNat), by simp only; refine ⟨by omega, by omega, by omega⟩⟩ (Sub.lit (by simp; try omega)) ?_
   rintro ⟨⟨k, m⟩, hk, hmb, hm1⟩
   simp only at hk hmb hm1 ⊢
   by_cases hlt : k < xs.length
   ·obtain ⟨x, hxk, hxk', hxm⟩ := at_lt' hlt
    obtain ⟨y1, y2⟩ := hx x hxm
    have q1 : IntKind.i64.wrap (9223372036854775807 - (m : Int)) = 9223372036854775807 - (m : Int) := wrap64_in (by omega) (by omega)
    have q2 : ¬ (9223372036854775807 - (m : Int) < (x.size : Int)) := by omega
    have q3 : IntKind.i64.wrap ((m : Int) + (x.size : Int)) = (m : Int) + (x.size : Int) := wrap64_in (by omega) (by omega)
    (refine go1 aj0 aj0 (aj7 @dStr.eq_1 hlt hxk hxk' q1 q2 q3) ?_; intros; refine mk_i ?_)
    refine Again.mk ⟨(k + 1, m + x.size), show k + 1 ≤ xs.length ∧ m + x.size ≤ 3932160 + 67108864 * (k + 1) ∧ (0 < k + 1 → 1 ≤ m + x.size) from ⟨by omega, by omega, by omega⟩⟩ (Sub.lit (by simp)) (by simp; omega)
    skip
   ·have hkk : k = xs.length := by omega
    subst hkk
    have hg := growFirst_spec m (hm1 (by omega)) (by omega)
    (repeat (first | (refine DW_allocT (bs := 32) (k := 2) (z := [.nilp, .nilsl]) (by simp [hnt]) (by simp) (by rfl) rfl (by decide) (fun _ _ => ?_); simp [hnt, dStr, h0, h0', hlt0, t2, size_e]) | refine DW_seq fun K hK => ?_ | (refine DW_r anWJ3266 Tryz.mixed (by kernel_rfl) ?_; simp [anWJ3266, hnt, dStr, h0, h0', hlt0, t2, size_e]; try simp (disch := omega) only [wrap64_in]) | refine DW_block ?_ | (refine DW_if ?_ ?_ ?_; (· (simp [hnt, dStr, h0, h0', hlt0, t2, size_e]; done)); (try (rotate_left; (· (intro hc; (try simp [hnt, dStr, h0, h0', hlt0, t2, size_e] at hc); done))))) | (refine DW_ret ?_; simp [Tryz.results266, hnt, dStr, h0, h0', hlt0, t2, size_e]) | ((first | refine DW_exit ?_ | refine DW_skip ?_); simp [hnt, dStr, h0, h0', hlt0, t2, size_e]) | (intro hc; (try simp [hnt, dStr, h0, h0', hlt0, t2, size_e] at hc); (try (exfalso; omega))) | (refine callS_mk [(8,0)] [(50,1)] (hg) ?_ ?_; (· (simp [hnt, dStr, h0, h0', hlt0, t2, size_e]; done)); (intro _; try simp [hnt, dStr, h0, h0', hlt0, t2, size_e])) | (refine callS_mk [(8,0),(50,1)] [] (hw1) ?_ ?_; (· (simp [hnt, dStr, h0, h0', hlt0, t2, size_e]; done)); (intro _; try simp [hnt, dStr, h0, h0', hlt0, t2, size_e])) | (refine ⟨?_, ?_⟩; · omega) | omega | apply_assumption -exfalso -symm | (exfalso; omega)))
    refine DW_loop (X := {k : Nat // k ≤ ys.length}) (fun k => ⟨[(1, .str sep), (8, .rx 8 1 2 0 0), (63, .sl 1 16 (ys.map dStr)), (64, .int .i64 ys.length), (65, .int .i64 k.1)], [⟨8, 1, .row 299 2 32 [[.rx 8 1 2 0 0, .osl 50 1]]⟩, ⟨50, 1, .row 5 1 1 (bytesD ((ys.take k.1).foldl (joinF sep) x0))⟩]⟩) (fun k => ys.length - k.1) ⟨0, by omega⟩ (Sub.lit (by simp [t2, hys])) ?_
    rintro ⟨k, hk⟩
    simp only
    by_cases hlt : k < ys.length
    ·obtain ⟨y, hy, hy', hym⟩ := at_lt' hlt
     obtain ⟨j1, j2⟩ := joinK_size sep hs (ys.take k) x0 fun z hz => hyx z (List.mem_of_mem_take hz)
     rw [List.length_take] at j1
     have hst2 := foldl_snoc (f := joinF sep) (b := x0) hy
     have hy9 := hyx y hym
     obtain ⟨T, hT⟩ : ∃ T, T = (ys.take k).foldl (joinF sep) x0 := ⟨_, rfl⟩
     rw [← hT] at j1 j2 hst2 ⊢
     have e1 := writeUsed_spec T sep (by omega)
     have e2 := writeUsed_spec (T ++ sep) y (by rw [ByteArray.size_append]; omega)
     rw [show T ++ sep ++ y = joinF sep T y from rfl, ← hst2] at e2
     (refine go1 aj0 (aj2 (spc [(8,0),(50,1)] [] e1) (spc [(8,0),(50,1)] [] e2)) (aj4 @dStr.eq_1 hlt hy hy') ?_; intros; refine mk_i ?_)
     refine Again.mk ⟨k + 1, by omega⟩ (Sub.lit (by simp)) (by simp; omega)
     skip
    ·have hkk : k = ys.length := by omega
     subst hkk
     rw [List.take_length, ← hJ]
     obtain ⟨j1, j2⟩ := joinK_size sep hs ys x0 hyx
     rw [← hJ] at j1 j2
     have e1 := stringSome_spec J (by omega)
     exact go0 aj0 (aj1 (spc [(8,0),(50,1)] [] e1)) aj0
end Go.Proofs.YtdgocjbakjamaaaGreat
end

section
set_option linter.unusedSectionVars false
/- Texts of trees: plain Lean. -/


set_option linter.unusedSimpArgs false
set_option linter.unusedVariables false
namespace Go.Proofs.YtdgocjbakjamaaaGreat
open Go Go.Dm
variable [DMode]

def sgn (k : Int) : ByteArray := if k = 6 then ⟨#[42]⟩ else if k = 7 then ⟨#[43]⟩ else if k = 8 then ⟨#[63]⟩ else ⟨#[]⟩
def btw (k : Int) : ByteArray := if k = 5 then ⟨#[32, 124, 32]⟩ else if k = 4 then ⟨#[32]⟩ else ⟨#[]⟩
def parB (pk k : Int) : Bool := decide (k = 5) || (decide (k = 4) && !decide (pk = 5))
def parT (pk k : Int) (s : ByteArray) : ByteArray := if parB pk k then ⟨#[40]⟩ ++ s ++ ⟨#[41]⟩ else s
mutual
def txtT : RT → ByteArray
 | .mk x ks => if x.k = 1 then ⟨#[37]⟩ else if x.k = 2 ∨ x.k = 3 then x.s else joinB (txtL x.k ks) (btw x.k) ++ sgn x.k
def txtL (pk : Int) : List RT → List ByteArray
 | [] => []
 | t :: ts => parT pk t.x.k (txtT t) :: txtL pk ts
end
theorem txtT_mk (x : Nd) (ks : List RT) : txtT (.mk x ks) = if x.k = 1 then ⟨#[37]⟩ else if x.k = 2 ∨ x.k = 3 then x.s else joinB (txtL x.k ks) (btw x.k) ++ sgn x.k := by rw [txtT]
theorem txtL_cons (pk : Int) (t : RT) (ts : List RT) : txtL pk (t :: ts) = parT pk t.x.k (txtT t) :: txtL pk ts := by rw [txtL]
theorem txtL_nil (pk : Int) : txtL pk [] = [] := by rw [txtL]
theorem txtL_map (pk : Int) : ∀ ts : List RT, txtL pk ts = ts.map fun t => parT pk t.x.k (txtT t)
 | [] => txtL_nil pk
 | t :: ts => by rw [txtL_cons, txtL_map pk ts]; rfl
theorem size1' (a : UInt8) : (⟨#[a]⟩ : ByteArray).size = 1 := rfl
theorem btw_size (k : Int) : (btw k).size ≤ 3 := by unfold btw; split <;> (try split) <;> decide
theorem sgn_size (k : Int) : (sgn k).size ≤ 1 := by
 unfold sgn
 repeat' split
 all_goals decide
theorem parT_size (pk k : Int) (s : ByteArray) : s.size ≤ (parT pk k s).size ∧ (parT pk k s).size ≤ s.size + 2 := by
 unfold parT
 split
 ·rw [ByteArray.size_append, ByteArray.size_append, size1', size1']; omega
 ·omega
theorem join_total (sep : ByteArray) (hs : sep.size ≤ 3) : ∀ (r : List ByteArray) (x : ByteArray), (r.foldl (joinF sep) x).size ≤ x.size + (r.map fun y => y.size + 3).sum ∧ x.size ≤ (r.foldl (joinF sep) x).size
 | [], x => by simp
 | y :: r, x => by
  obtain ⟨h1, h2⟩ := join_total sep hs r (joinF sep x y)
  rw [joinF_size] at h1 h2
  rw [List.foldl_cons, List.map_cons, List.sum_cons]
  omega
theorem joinB_size (xs : List ByteArray) (sep : ByteArray) (hs : sep.size ≤ 3) : (joinB xs sep).size ≤ (xs.map fun y => y.size + 3).sum := by
 cases xs with
 | nil => simp [joinB]; decide
 | cons x r =>
  have := (join_total sep hs r x).1
  show (r.foldl (joinF sep) x).size ≤ _
  rw [List.map_cons, List.sum_cons]
  omega
theorem mayN_leaf {x : Nd} (h : mayN x = true) (hk : x.k = 2 ∨ x.k = 3) : 1 ≤ x.s.size := by
 have hn : ∀ s, nameOK s = true → 1 ≤ s.size := fun s hs => by unfold nameOK at hs; simp only [Bool.and_eq_true, decide_eq_true_eq] at hs; exact hs.1.1
 unfold mayN at h
 rcases hk with hk | hk
 ·rw [if_neg (by omega), if_pos hk] at h
  simp only [Bool.and_eq_true] at h
  exact hn _ h.2.1
 ·rw [if_neg (by omega), if_neg (by omega), if_pos hk] at h
  simp only [Bool.and_eq_true] at h
  exact hn _ h.2.1
theorem mayN_many {x : Nd} (h : mayN x = true) (h1 : ¬ x.k = 1) (h2 : ¬ (x.k = 2 ∨ x.k = 3)) : 1 ≤ x.n := by
 unfold mayN at h
 rw [if_neg h1, if_neg (fun e => h2 (.inl e)), if_neg (fun e => h2 (.inr e))] at h
 repeat' split at h
 all_goals simp only [Bool.and_eq_true, decide_eq_true_eq, Bool.false_eq_true] at h
 all_goals omega
mutual
theorem txt_sizeT : ∀ (t : RT), okT t = true → 1 ≤ (txtT t).size ∧ (txtT t).size + 5 ≤ 24 * (flat t).length
 | .mk x ks, h => by
  obtain ⟨h1, h2, h3⟩ := okT_mk h
  rw [txtT_mk, flat_mk, List.length_cons]
  split
  ·rw [size1']; omega
  ·rename_i k1
   split
   ·rename_i k2
    have := mayN_leaf h1 k2
    have := mayN_size h1
    omega
   ·rename_i k2
    have hn := mayN_many h1 k1 k2
    obtain ⟨s1, s2⟩ := txt_sizeL x.k ks h3
    have hj := joinB_size (txtL x.k ks) (btw x.k) (btw_size _)
    have hg := sgn_size x.k
    rw [ByteArray.size_append]
    refine ⟨?_, by omega⟩
    cases ks with
    | nil => simp at h2; omega
    | cons t ts =>
     have := s2 (parT x.k t.x.k (txtT t)) (by rw [txtL_cons]; exact List.mem_cons_self)
     have h4 := (join_total (btw x.k) (btw_size _) (txtL x.k ts) (parT x.k t.x.k (txtT t))).2
     rw [txtL_cons]
     show 1 ≤ ((txtL x.k ts).foldl (joinF (btw x.k)) (parT x.k t.x.k (txtT t))).size + _
     omega
theorem txt_sizeL : ∀ (pk : Int) (ts : List RT), okL ts = true → ((txtL pk ts).map fun y => y.size + 3).sum ≤ 24 * (flatL ts).length ∧ ∀ y ∈ txtL pk ts, 1 ≤ y.size
 | pk, [], _ => by simp [txtL_nil]
 | pk, t :: ts, h => by
  obtain ⟨h1, h2⟩ := okL_cons h
  obtain ⟨a1, a2⟩ := txt_sizeT t h1
  obtain ⟨b1, b2⟩ := txt_sizeL pk ts h2
  obtain ⟨c1, c2⟩ := parT_size pk t.x.k (txtT t)
  rw [txtL_cons, flatL_cons, List.map_cons, List.sum_cons, List.length_append]
  refine ⟨by omega, fun y hy => ?_⟩
  rcases List.mem_cons.1 hy with rfl | hy
  ·omega
  ·exact b2 y hy
end
end Go.Proofs.YtdgocjbakjamaaaGreat
end

section
set_option linter.unusedSectionVars false
/- lists of texts, each once, rising. Plain Lean. -/



set_option linter.unusedSimpArgs false
set_option linter.unusedVariables false
namespace Go.Proofs.YtdgocjbakjamaaaGreat
open Go Go.Dm
variable [DMode]

abbrev Str (l : List ByteArray) : Prop := l.Pairwise fun a b => sLess a b = true
theorem strict_ext : ∀ {a b : List ByteArray}, Str a → Str b → (∀ x, x ∈ a ↔ x ∈ b) → a = b
 | [], [], _, _, _ => rfl
 | [], y :: b, _, _, h => by have := (h y).2 List.mem_cons_self; simp at this
 | x :: a, [], _, _, h => by have := (h x).1 List.mem_cons_self; simp at this
 | x :: a, y :: b, ha, hb, h => by
  obtain ⟨ha1, ha2⟩ := List.pairwise_cons.1 ha
  obtain ⟨hb1, hb2⟩ := List.pairwise_cons.1 hb
  have hxy : x = y := by
   rcases List.mem_cons.1 ((h x).1 List.mem_cons_self) with h1 | h1
   ·exact h1
   ·rcases List.mem_cons.1 ((h y).2 List.mem_cons_self) with h2 | h2
    ·exact h2.symm
    ·have := sLess_asym (hb1 x h1); rw [ha1 y h2] at this; simp at this
  subst hxy
  rw [strict_ext ha2 hb2 fun z => ?_]
  constructor
  ·intro hz
   rcases List.mem_cons.1 ((h z).1 (List.mem_cons_of_mem _ hz)) with h1 | h1
   ·subst h1; have := ha1 z hz; rw [sLess_irr] at this; simp at this
   ·exact h1
  ·intro hz
   rcases List.mem_cons.1 ((h z).2 (List.mem_cons_of_mem _ hz)) with h1 | h1
   ·subst h1; have := hb1 z hz; rw [sLess_irr] at this; simp at this
   ·exact h1

theorem bl_lt : ∀ a b : List UInt8, Op.bytesLess a b = true ↔ a < b
 | [], [] => by simp [Op.bytesLess]
 | [], _ :: _ => by simp [Op.bytesLess]
 | _ :: _, [] => by simp [Op.bytesLess]
 | x :: a, y :: b => by
  rw [List.cons_lt_cons_iff]
  simp only [Op.bytesLess, Bool.or_eq_true, Bool.and_eq_true, decide_eq_true_eq, beq_iff_eq, bl_lt a b]
theorem ssort_mem (l : List ByteArray) (x : ByteArray) : x ∈ ssort l ↔ x ∈ l := by
 unfold ssort
 simp only [List.mem_map, (List.mergeSort_perm _ _).mem_iff]
 constructor
 ·rintro ⟨y, ⟨z, hz, rfl⟩, rfl⟩; exact hz
 ·intro h; exact ⟨_, ⟨x, h, rfl⟩, rfl⟩
theorem ssort_sorted (l : List ByteArray) : (ssort l).Pairwise fun a b => sLess b a = false := by
 unfold ssort
 rw [List.pairwise_map]
 have h := List.pairwise_mergeSort (le := fun x y : List UInt8 => decide (x ≤ y)) (by
  intro a b c h1 h2
  simp only [decide_eq_true_eq] at *
  exact List.le_trans h1 h2) (by
  intro a b
  simp only [Bool.or_eq_true, decide_eq_true_eq]
  exact List.le_total a b) (l.map fun s => s.data.toList)
 refine h.imp ?_
 intro a b hab
 simp only [decide_eq_true_eq] at hab
 have : ¬ Op.bytesLess b a = true := fun h => by
  rw [bl_lt] at h
  exact (List.not_lt.2 hab) h
 simpa [sLess] using this
def eqT (a b : ByteArray) : Bool := a == b
theorem compGoS_ok : ∀ {l : List ByteArray} {p : ByteArray}, (p :: l).Pairwise (fun a b => sLess b a = false) → Str (compGo eqT p l) ∧ (∀ x ∈ compGo eqT p l, sLess p x = true) ∧ ∀ x, (x = p ∨ x ∈ compGo eqT p l) ↔ (x = p ∨ x ∈ l)
 | [], p, _ => ⟨.nil, by simp [compGo], by simp [compGo]⟩
 | y :: l, p, h => by
  obtain ⟨h1, h2⟩ := List.pairwise_cons.1 h
  obtain ⟨g1, g2, g3⟩ := compGoS_ok h2
  unfold compGo
  by_cases hyp : y = p
  ·subst hyp
   rw [if_pos (by simp [eqT])]
   refine ⟨g1, g2, fun x => ?_⟩
   rw [g3 x]
   simp only [List.mem_cons]
   constructor
   ·rintro (h | h)
    ·exact .inl h
    ·exact .inr (.inr h)
   ·rintro (h | h | h)
    ·exact .inl h
    ·exact .inl h
    ·exact .inr h
  ·rw [if_neg (by simp [eqT, hyp])]
   have hpy : sLess p y = true := by
    cases hc : sLess p y
    ·exact absurd (sLess_tri hc (h1 y List.mem_cons_self)).symm hyp
    ·rfl
   refine ⟨List.pairwise_cons.2 ⟨g2, g1⟩, fun x hx => ?_, fun x => ?_⟩
   ·rcases List.mem_cons.1 hx with rfl | hx
    ·exact hpy
    ·exact sLess_trans hpy (g2 x hx)
   ·simp only [List.mem_cons]
    rw [g3 x]
def uniqS (l : List ByteArray) : List ByteArray := compL eqT (ssort l)
theorem uniqS_ok (l : List ByteArray) : Str (uniqS l) ∧ ∀ x, x ∈ uniqS l ↔ x ∈ l := by
 unfold uniqS
 have h := ssort_sorted l
 have hm := ssort_mem l
 cases hs : ssort l with
 | nil =>
  rw [hs] at hm
  exact ⟨.nil, by simpa [compL] using hm⟩
 | cons p t =>
  rw [hs] at h hm
  obtain ⟨g1, g2, g3⟩ := compGoS_ok h
  refine ⟨List.pairwise_cons.2 ⟨g2, g1⟩, fun x => ?_⟩
  simp only [compL, List.mem_cons]
  rw [g3 x, ← hm x]
  simp
theorem compGoS_len {α : Type} (e : α → α → Bool) : ∀ (l : List α) (p : α), (compGo e p l).length ≤ l.length
 | [], _ => by simp [compGo]
 | y :: l, p => by
  unfold compGo
  split
  ·have := compGoS_len e l y; simp; omega
  ·have := compGoS_len e l y; simp; omega
theorem uniqS_len (l : List ByteArray) : (uniqS l).length ≤ l.length := by
 unfold uniqS
 have h := ssort_len l
 cases hs : ssort l with
 | nil => simp [compL]
 | cons p t =>
  rw [hs] at h
  have := compGoS_len eqT t p
  simp only [compL, List.length_cons] at h ⊢
  omega
theorem uniq_of {l a : List ByteArray} (ha : Str a) (h : ∀ x, x ∈ a ↔ x ∈ l) : a = uniqS l := by
 obtain ⟨g1, g2⟩ := uniqS_ok l
 exact strict_ext ha g1 fun x => by rw [h x, g2 x]

end Go.Proofs.YtdgocjbakjamaaaGreat
end

section
set_option linter.unusedSectionVars false
/- orders of edges, and where an edge stands -/



set_option linter.unusedSimpArgs false
set_option linter.unusedVariables false
namespace Go.Proofs.YtdgocjbakjamaaaGreat
open Go Go.Dm
variable [DMode]
attribute [local irreducible] DW callP callS
set_option maxRecDepth 100000

end Go.Proofs.YtdgocjbakjamaaaGreat
end

section
set_option linter.unusedSectionVars false
/- The data machine, second make, part Sc: scopes through which the run goes without a goto. -/


set_option linter.unusedSimpArgs false
set_option linter.unusedVariables false
namespace Go

section
variable {F : Fence} {n : Nat} {P : Program} {Q : Exit → Act → World → Prop} {a : Act} {w : World}
end
end Go
namespace Go.Dm
variable [DMode]
def Dscope (Q : Exit → DS → Prop) : Exit → DS → Prop
 | .goto _, _ => False
 | e, s => Q e s
attribute [simp] Dscope
end Go.Dm
end

section
set_option linter.unusedSectionVars false
/- ways: joined, first, Spell, SameTexts -/



set_option linter.unusedSimpArgs false
set_option linter.unusedVariables false
namespace Go.Proofs.YtdgocjbakjamaaaGreat
open Go Go.Dm
variable [DMode]
attribute [local irreducible] DW callP callS
set_option maxRecDepth 100000

end Go.Proofs.YtdgocjbakjamaaaGreat
end

section
set_option linter.unusedSectionVars false
/- graphs: rising, named, ways by definition -/


set_option linter.unusedSimpArgs false
set_option linter.unusedVariables false
namespace Go.Proofs.YtdgocjbakjamaaaGreat
open Go Go.Dm
variable [DMode]
attribute [local irreducible] DW callP callS
set_option maxRecDepth 100000

end Go.Proofs.YtdgocjbakjamaaaGreat
end

section
set_option linter.unusedSectionVars false
/- graphs: named, form -/

set_option linter.unusedSimpArgs false
set_option linter.unusedVariables false
namespace Go.Proofs.YtdgocjbakjamaaaGreat
open Go Go.Dm
variable [DMode]
attribute [local irreducible] DW callP callS
set_option maxRecDepth 100000

end Go.Proofs.YtdgocjbakjamaaaGreat
end

section
set_option linter.unusedSectionVars false
/- graphs: among, form -/

set_option linter.unusedSimpArgs false
set_option linter.unusedVariables false
namespace Go.Proofs.YtdgocjbakjamaaaGreat
open Go Go.Dm
variable [DMode]
attribute [local irreducible] DW callP callS
set_option maxRecDepth 100000

def strsD (l : List ByteArray) : List DVal := l.map DVal.str
theorem strsD_cons (x : ByteArray) (l : List ByteArray) : strsD (x :: l) = .str x :: strsD l := rfl
theorem strsD_len (l : List ByteArray) : (strsD l).length = l.length := by simp [strsD]
theorem lookS_none : ∀ {l : List ByteArray} {s : ByteArray}, ¬ s ∈ l → lookI (strsD l) (.str s) = none
 | [], _, _ => rfl
 | x :: l, s, h => by
  have h1 : (s == x) = false := by simp; intro e; exact h (by simp [e])
  have h2 := lookS_none (l := l) (s := s) fun hm => h (List.mem_cons_of_mem _ hm)
  simp [strsD_cons, lookI, cellsK, eqCs, eqC, h1, h2]
theorem lookS_some : ∀ {l : List ByteArray} {s : ByteArray}, s ∈ l → ∃ j, lookI (strsD l) (.str s) = some j ∧ j < l.length
 | [], _, h => by simp at h
 | x :: l, s, h => by
  by_cases h1 : s = x
  ·subst h1; exact ⟨0, by simp [strsD_cons, lookI, cellsK, eqCs, eqC], by simp⟩
  ·obtain ⟨j, h2, h3⟩ := lookS_some (l := l) (s := s) (by simpa [h1] using h)
   have h1b : (s == x) = false := by simpa using h1
   exact ⟨j + 1, by simp [strsD_cons, lookI, cellsK, eqCs, eqC, h1b, h2], by simp; omega⟩
theorem keyStrs (l : List ByteArray) : (strsD l).all (keyOK Tryz.prog 9) = true := by
 induction l with
 | nil => rfl
 | cons p l ih => rw [strsD_cons, List.all_cons, ih]; simp
@[simp] theorem mxL_strs (l : List ByteArray) : mxL (strsD l) = 0 := by
 induction l with
 | nil => rfl
 | cons a l ih => rw [strsD_cons]; simp [mxL, mx, ih]
def oneUp (n : Nat) : List DVal := (List.range n).map fun i : Nat => DVal.int .i64 ((i : Int) + 1)
@[simp] theorem mxL_oneUp (n : Nat) : mxL (oneUp n) = 0 := by
 unfold oneUp
 induction List.range n with
 | nil => rfl
 | cons a l ih => simp [mxL, mx, ih]
end Go.Proofs.YtdgocjbakjamaaaGreat
end

section
set_option linter.unusedSectionVars false
/- grammars: heads, names, labels, what is missing. Plain Lean. -/






set_option linter.unusedSimpArgs false
set_option linter.unusedVariables false
namespace Go.Proofs.YtdgocjbakjamaaaGreat
open Go Go.Dm
variable [DMode]

def hStep (out : List ByteArray) (s : ByteArray) : List ByteArray := if s ∈ out then out else out ++ [s]
def headsL (g : List Rul) : List ByteArray := (g.map (·.h)).foldl hStep []
theorem hStep_mem {out : List ByteArray} {s x : ByteArray} : x ∈ hStep out s ↔ x ∈ out ∨ x = s := by
 unfold hStep
 split
 ·rename_i h; exact ⟨.inl, fun hh => by rcases hh with hh | rfl; exact hh; exact h⟩
 ·simp
theorem hFold_mem : ∀ (l out : List ByteArray) (x : ByteArray), x ∈ l.foldl hStep out ↔ x ∈ out ∨ x ∈ l
 | [], out, x => by simp
 | s :: l, out, x => by rw [List.foldl_cons, hFold_mem l, hStep_mem]; simp [or_assoc]
theorem hFold_nodup : ∀ (l out : List ByteArray), out.Nodup → (l.foldl hStep out).Nodup
 | [], out, h => h
 | s :: l, out, h => by
  rw [List.foldl_cons]
  refine hFold_nodup l _ ?_
  unfold hStep
  split
  ·exact h
  ·rename_i hs
   exact List.nodup_append.2 ⟨h, by simp, by rintro a ha b hb rfl; simp at hb; subst hb; exact hs ha⟩
theorem hFold_len : ∀ (l out : List ByteArray), (l.foldl hStep out).length ≤ out.length + l.length
 | [], out => by simp
 | s :: l, out => by
  rw [List.foldl_cons]
  have := hFold_len l (hStep out s)
  have : (hStep out s).length ≤ out.length + 1 := by unfold hStep; split <;> simp
  simp
  omega
theorem headsL_mem {g : List Rul} {x : ByteArray} : x ∈ headsL g ↔ ∃ r ∈ g, r.h = x := by
 unfold headsL; rw [hFold_mem]; simp
theorem headsL_nodup (g : List Rul) : (headsL g).Nodup := hFold_nodup _ _ (by simp)
theorem headsL_len (g : List Rul) : (headsL g).length ≤ g.length := by have := hFold_len (g.map (·.h)) []; unfold headsL; simpa using this
theorem headsL_take {g : List Rul} {i : Nat} {r : Rul} (h : g[i]? = some r) : headsL (g.take (i + 1)) = hStep (headsL (g.take i)) r.h := by
 unfold headsL
 rw [List.take_add_one, h, List.map_append, List.foldl_append]
 rfl

def namesN (k : Int) (l : List Nd) : List ByteArray := (l.filter fun x => decide (x.k = k)).map (·.s)
def namesK (k : Int) (g : List Rul) : List ByteArray := g.flatMap fun r => namesN k r.b
theorem namesN_take {k : Int} {l : List Nd} {i : Nat} {x : Nd} (h : l[i]? = some x) : namesN k (l.take (i + 1)) = namesN k (l.take i) ++ (if x.k = k then [x.s] else []) := by
 unfold namesN
 rw [List.take_add_one, h, List.filter_append, List.map_append]
 by_cases hx : x.k = k <;> simp [hx]
theorem namesK_take {k : Int} {g : List Rul} {i : Nat} {r : Rul} (h : g[i]? = some r) : namesK k (g.take (i + 1)) = namesK k (g.take i) ++ namesN k r.b := by
 unfold namesK
 rw [List.take_add_one, h, List.flatMap_append]
 simp
theorem namesN_len (k : Int) (l : List Nd) : (namesN k l).length ≤ l.length := by
 unfold namesN; rw [List.length_map]; exact List.length_filter_le _ _

def ixS (l : List ByteArray) (s : ByteArray) : Nat := l.findIdx fun x => s == x
theorem ixS_lt {l : List ByteArray} {s : ByteArray} (h : s ∈ l) : ixS l s < l.length := List.findIdx_lt_length_of_exists ⟨s, h, by simp⟩
theorem lookS_ix : ∀ {l : List ByteArray} {s : ByteArray}, s ∈ l → lookI (strsD l) (.str s) = some (ixS l s)
 | [], _, h => by simp at h
 | x :: l, s, h => by
  unfold ixS
  rw [List.findIdx_cons]
  by_cases h1 : s = x
  ·subst h1; simp [strsD_cons, lookI, cellsK, eqCs, eqC]
  ·have h2 := lookS_ix (l := l) (s := s) (by simpa [h1] using h)
   have h1b : (s == x) = false := by simpa using h1
   simp [strsD_cons, lookI, cellsK, eqCs, eqC, h1b, h2, ixS]
structure CM where
 K : List ByteArray
 V : List Int
def cStep (m : CM) (s : ByteArray) : CM := if s ∈ m.K then ⟨m.K, m.V.set (ixS m.K s) (IntKind.i64.wrap (m.V.getD (ixS m.K s) 0 + 1))⟩ else ⟨m.K ++ [s], m.V ++ [1]⟩
def cntL (es : List ByteArray) : CM := es.foldl cStep ⟨[], []⟩
theorem cntL_snoc (es : List ByteArray) (s : ByteArray) : cntL (es ++ [s]) = cStep (cntL es) s := by unfold cntL; rw [List.foldl_append]; rfl
structure CMok (m : CM) (es : List ByteArray) : Prop where
 len : m.K.length = m.V.length
 mem : ∀ s, s ∈ m.K ↔ s ∈ es
 nd : m.K.Nodup
 le : m.K.length ≤ es.length
theorem CMok.step {m : CM} {es : List ByteArray} (h : CMok m es) (s : ByteArray) : CMok (cStep m s) (es ++ [s]) := by
 unfold cStep
 split
 ·rename_i hs
  refine ⟨by simp [h.len], fun x => ?_, h.nd, by have := h.le; simp; omega⟩
  rw [h.mem x, List.mem_append]
  exact ⟨.inl, fun hh => by rcases hh with hh | hh; exact hh; simp at hh; subst hh; exact (h.mem x).1 hs⟩
 ·rename_i hs
  refine ⟨by simp [h.len], fun x => by simp [h.mem x], ?_, by have := h.le; simp; omega⟩
  exact List.nodup_append.2 ⟨h.nd, by simp, by rintro a ha b hb rfl; simp at hb; subst hb; exact hs ha⟩
theorem cnt_ok (es : List ByteArray) : CMok (cntL es) es := by
 have key : ∀ (l : List ByteArray) (m : CM) (es : List ByteArray), CMok m es → CMok (l.foldl cStep m) (es ++ l) := by
  intro l
  induction l with
  | nil => intro m es h; simpa using h
  | cons s l ih =>
   intro m es h
   have := ih (cStep m s) (es ++ [s]) (h.step s)
   simpa using this
 have := key es ⟨[], []⟩ [] ⟨rfl, by simp, by simp, by simp⟩
 simpa [cntL] using this

def labelsL' (g : List Rul) : List ByteArray := uniqS (namesK 3 g)
def missL (g : List Rul) : List ByteArray := (uniqS (namesK 2 g)).filter fun s => !decide (s ∈ headsL g)
theorem miss_len {g : List Rul} {K : List ByteArray} (hn : K.Nodup) (hm : ∀ s, s ∈ K ↔ s ∈ namesK 2 g ∧ ¬ s ∈ headsL g) : K.length = (missL g).length := by
 refine List.Perm.length_eq ((List.perm_ext_iff_of_nodup hn ?_).2 fun s => ?_)
 ·unfold missL
  exact List.Pairwise.filter _ ((uniqS_ok _).1.imp fun {a b} h e => by subst e; rw [sLess_irr] at h; simp at h)
 ·unfold missL
  rw [hm s, List.mem_filter, (uniqS_ok _).2]
  simp

abbrev GT := List (ByteArray × RT)
def mkG (gt : GT) : List Rul := gt.map fun p => ⟨p.1, flat p.2⟩
def OkG (gt : GT) : Prop := ∀ p ∈ gt, txtOK 2 p.1 = true ∧ okT p.2 = true
def treesB (g : List Rul) : Bool := g.all fun r => txtOK 2 r.h && wholeB r.b
theorem trees_gt : ∀ {g : List Rul}, treesB g = true → ∃ gt, g = mkG gt ∧ OkG gt
 | [], _ => ⟨[], rfl, by intro p hp; simp at hp⟩
 | r :: g, h => by
  unfold treesB at h
  rw [List.all_cons, Bool.and_eq_true, Bool.and_eq_true] at h
  obtain ⟨gt, rfl, hg⟩ := trees_gt (g := g) h.2
  obtain ⟨t, ht, hb⟩ := whole_tree h.1.2
  refine ⟨(r.h, t) :: gt, by cases r; simp only at hb; subst hb; rfl, fun p hp => ?_⟩
  rcases List.mem_cons.1 hp with rfl | hp
  ·exact ⟨h.1.1, ht⟩
  ·exact hg p hp
theorem gt_trees {gt : GT} (h : OkG gt) : treesB (mkG gt) = true := by
 unfold treesB mkG
 rw [List.all_map, List.all_eq_true]
 intro p hp
 obtain ⟨h1, h2⟩ := h p hp
 simp [h1, tree_whole h2]
def occG (g : List Rul) : Nat := (g.map fun r => occN r.b).sum
def deepG (gt : GT) : Bool := gt.any fun p => decide (16 < htT p.2)
def ruleT (p : ByteArray × RT) : ByteArray := p.1 ++ ⟨#[32, 61, 32]⟩ ++ txtT p.2 ++ ⟨#[32, 59, 10]⟩
def textG (gt : GT) : ByteArray := gt.foldl (fun s p => s ++ ruleT p) ⟨#[]⟩
theorem textG_take {gt : GT} {i : Nat} {p : ByteArray × RT} (h : gt[i]? = some p) : textG (gt.take (i + 1)) = textG (gt.take i) ++ ruleT p := by
 unfold textG
 rw [List.take_add_one, h, List.foldl_append]
 rfl
theorem textG_take_le (gt : GT) (i : Nat) : (textG (gt.take i)).size ≤ (textG gt).size := by
 have key : ∀ (l : GT) (s : ByteArray), s.size ≤ (l.foldl (fun s p => s ++ ruleT p) s).size := by
  intro l
  induction l with
  | nil => intro s; simp
  | cons p l ih => intro s; rw [List.foldl_cons]; have := ih (s ++ ruleT p); rw [ByteArray.size_append] at this; omega
 unfold textG
 conv => rhs; rw [← List.take_append_drop i gt, List.foldl_append]
 exact key _ _
def codeT (gt : GT) : Int :=
 if 16 < (headsL (mkG gt)).length + (missL (mkG gt)).length then 181
 else if 16 < (labelsL' (mkG gt)).length then 182
 else if 64 < occG (mkG gt) then 183
 else if deepG gt then 171
 else if 0 < (missL (mkG gt)).length then 184
 else if 2048 < (textG gt).size then 174
 else 0
mutual
theorem txt_geT : ∀ (t : RT), okT t = true → (flat t).length ≤ (txtT t).size
 | .mk x ks, h => by
  obtain ⟨h1, h2, h3⟩ := okT_mk h
  rw [txtT_mk, flat_mk, List.length_cons]
  by_cases k1 : x.k = 1
  ·rw [if_pos k1]
   have : x.n = 0 := by
    unfold mayN at h1
    rw [if_pos k1] at h1
    simp only [Bool.and_eq_true, decide_eq_true_eq] at h1
    exact h1.2
   have hks : ks = [] := List.eq_nil_of_length_eq_zero (by omega)
   subst hks
   rw [flatL]
   decide
  ·rw [if_neg k1]
   by_cases k2 : x.k = 2 ∨ x.k = 3
   ·rw [if_pos k2]
    have := mayN_leaf h1 k2
    have hn : x.n = 0 := by
     unfold mayN at h1
     rcases k2 with k2 | k2
     ·rw [if_neg (by omega), if_pos k2] at h1; simp only [Bool.and_eq_true, decide_eq_true_eq] at h1; exact h1.1
     ·rw [if_neg (by omega), if_neg (by omega), if_pos k2] at h1; simp only [Bool.and_eq_true, decide_eq_true_eq] at h1; exact h1.1
    have hks : ks = [] := List.eq_nil_of_length_eq_zero (by omega)
    subst hks
    rw [flatL]
    simp
    omega
   ·rw [if_neg k2, ByteArray.size_append]
    have hj := txt_geL x.k ks h3
    have hn := mayN_many h1 k1 k2
    rcases mayN_kind h1 with k | k | k | k | k | k | k | k
    ·exact absurd k k1
    ·exact absurd (.inl k) k2
    ·exact absurd (.inr k) k2
    ·have hb : 1 ≤ (btw x.k).size := by unfold btw; rw [k]; decide
     have h5 : 2 ≤ x.n := by unfold mayN at h1; simp [k] at h1; exact h1.2
     have := join_ge (btw x.k) (txtL x.k ks) (by rw [txtL_map, List.length_map]; omega)
     rw [txtL_map, List.length_map, ← txtL_map] at this
     have h6 : 1 * (ks.length - 1) ≤ (btw x.k).size * (ks.length - 1) := Nat.mul_le_mul_right _ hb
     omega
    ·have hb : 1 ≤ (btw x.k).size := by unfold btw; rw [k]; decide
     have h5 : 2 ≤ x.n := by unfold mayN at h1; simp [k] at h1; exact h1.2
     have := join_ge (btw x.k) (txtL x.k ks) (by rw [txtL_map, List.length_map]; omega)
     rw [txtL_map, List.length_map, ← txtL_map] at this
     have h6 : 1 * (ks.length - 1) ≤ (btw x.k).size * (ks.length - 1) := Nat.mul_le_mul_right _ hb
     omega
    all_goals
     have hs : (sgn x.k).size = 1 := by unfold sgn; rw [k]; decide
     have := join_ge (btw x.k) (txtL x.k ks) (by rw [txtL_map, List.length_map]; omega)
     omega
theorem txt_geL : ∀ (pk : Int) (ts : List RT), okL ts = true → (flatL ts).length ≤ ((txtL pk ts).map (·.size)).sum
 | pk, [], _ => by simp [flatL]
 | pk, t :: ts, h => by
  obtain ⟨h1, h2⟩ := okL_cons h
  have a := txt_geT t h1
  have b := txt_geL pk ts h2
  have c := (parT_size pk t.x.k (txtT t)).1
  rw [txtL_cons, flatL_cons, List.map_cons, List.sum_cons, List.length_append]
  omega
theorem join_ge (sep : ByteArray) : ∀ (xs : List ByteArray), 1 ≤ xs.length → (xs.map (·.size)).sum + sep.size * (xs.length - 1) ≤ (joinB xs sep).size
 | [], h => by simp at h
 | x :: r, _ => by
  have key : ∀ (r : List ByteArray) (x : ByteArray), x.size + (r.map (·.size)).sum + sep.size * r.length ≤ (r.foldl (joinF sep) x).size := by
   intro r
   induction r with
   | nil => intro x; simp
   | cons y r ih =>
    intro x
    have := ih (joinF sep x y)
    rw [joinF_size] at this
    rw [List.foldl_cons, List.map_cons, List.sum_cons, List.length_cons, Nat.mul_add]
    omega
  have := key r x
  show _ ≤ (r.foldl (joinF sep) x).size
  simp only [List.map_cons, List.sum_cons, List.length_cons, Nat.add_sub_cancel]
  omega
end
theorem ruleT_le {gt : GT} {p : ByteArray × RT} (h : p ∈ gt) : (txtT p.2).size ≤ (textG gt).size := by
 obtain ⟨i, hi, rfl⟩ := List.getElem_of_mem h
 have h1 := textG_take (List.getElem?_eq_getElem hi)
 have h2 := textG_take_le gt (i + 1)
 rw [h1, ByteArray.size_append] at h2
 unfold ruleT at h2
 simp only [ByteArray.size_append] at h2
 omega
end Go.Proofs.YtdgocjbakjamaaaGreat
end

section
set_option linter.unusedSectionVars false
/- graphs: form by definition -/

set_option linter.unusedSimpArgs false
set_option linter.unusedVariables false
namespace Go.Proofs.YtdgocjbakjamaaaGreat
open Go Go.Dm
variable [DMode]
attribute [local irreducible] DW callP callS
set_option maxRecDepth 100000

end Go.Proofs.YtdgocjbakjamaaaGreat
end

section
set_option linter.unusedSectionVars false
/- graphs by definition: texts in order, lone nodes, the text -/


set_option linter.unusedSimpArgs false
set_option linter.unusedVariables false
namespace Go.Proofs.YtdgocjbakjamaaaGreat
open Go Go.Dm
variable [DMode]
attribute [local irreducible] DW callP callS
set_option maxRecDepth 100000

end Go.Proofs.YtdgocjbakjamaaaGreat
end

section
set_option linter.unusedSectionVars false
/- graphs by definition: labels, lone nodes, the text, Check -/

set_option linter.unusedSimpArgs false
set_option linter.unusedVariables false
namespace Go.Proofs.YtdgocjbakjamaaaGreat
open Go Go.Dm
variable [DMode]
attribute [local irreducible] DW callP callS
set_option maxRecDepth 100000

structure SmallG (g : Edges) : Prop where
 n1 : g.nodes.length ≤ 32
 n2 : ∀ n ∈ g.nodes, n.size ≤ 16
 e1 : g.edges.length ≤ 256
 e2 : ∀ e ∈ g.edges, e.fr.size ≤ 16 ∧ e.lb.size ≤ 16 ∧ e.to.size ≤ 16
end Go.Proofs.YtdgocjbakjamaaaGreat
end

section
set_option linter.unusedSectionVars false
/- graphs by definition: Check, Way -/

set_option linter.unusedSimpArgs false
set_option linter.unusedVariables false
namespace Go.Proofs.YtdgocjbakjamaaaGreat
open Go Go.Dm
variable [DMode]
attribute [local irreducible] DW callP callS
set_option maxRecDepth 100000

end Go.Proofs.YtdgocjbakjamaaaGreat
end

section
set_option linter.unusedSectionVars false
/- the program's labels of a graph -/


set_option linter.unusedSimpArgs false
set_option linter.unusedVariables false
namespace Go.Proofs.YtdgocjbakjamaaaGreat
open Go Go.Dm
variable [DMode]
attribute [local irreducible] DW callP callS
set_option maxRecDepth 100000

def anWB12132 : Ann := ⟨[], []⟩
def anWB12132b2 : Ann := ⟨[5], []⟩
theorem cloneS_pure (l : List ByteArray) : DPure Tryz.prog 132 [dStrs l] (dStrs l) := by
 match l with
 | [] =>
  refine DPure_sl [] ?_ ?_
  ·refine DPure_introF [7] (fn := Tryz.f132) Tryz.func132 rfl Tryz.call132 (by simp [Tryz.ntmps132]) (by simp [mx, mxR]) ?_
   intro hwf B hnt
   simp only [Tryz.ntmps132] at hnt
   have hA := an_is anWB12132 Tryz.mixed (aj2 @anWB12132.eq_1 Tryz.results132)
   simp only [argS, List.nil_append, dStrs, List.map_cons]
   exact go0 aj0 aj0 aj0
  ·refine DPure_introF [7, 5] (fn := Tryz.f132) Tryz.func132 rfl Tryz.call132 (by simp [Tryz.ntmps132]) (by simp [mx, mxR]) ?_
   intro hwf B hnt
   simp only [Tryz.ntmps132] at hnt
   have hA := an_is anWB12132b2 Tryz.mixed (aj2 @anWB12132b2.eq_1 Tryz.results132)
   simp only [argS, List.nil_append, dStrs, List.map_cons]
   exact go0 aj0 aj0 aj0
 | s :: l =>
  refine DPure_introF [7, 5] (fn := Tryz.f132) Tryz.func132 rfl Tryz.call132 (by simp [Tryz.ntmps132]) (by simp [mx, mxR]) ?_
  intro hwf B hnt
  simp only [Tryz.ntmps132] at hnt
  have hA := an_is anWB12132b2 Tryz.mixed (aj2 @anWB12132b2.eq_1 Tryz.results132)
  have hsz : (s :: l).length * 16 ≤ 150000000000000 := by have := hwf.1; simp only [wfD, List.length_map] at this; exact this.1
  clear hwf
  have z2 : (s :: l).length ≤ 9223372036854775807 := by omega
  simp only [List.length_cons] at hsz z2
  simp only [argS, List.nil_append, dStrs, List.map_cons]
  exact go0 aj0 aj0 (aj2 hsz z2)

end Go.Proofs.YtdgocjbakjamaaaGreat
end

section
set_option linter.unusedSectionVars false
/- the program's labels and lone nodes of a graph -/

set_option linter.unusedSimpArgs false
set_option linter.unusedVariables false
namespace Go.Proofs.YtdgocjbakjamaaaGreat
open Go Go.Dm
variable [DMode]
attribute [local irreducible] DW callP callS
set_option maxRecDepth 100000

def intsV (l : List Int) : List DVal := l.map fun n => .int .i64 n
theorem intsV_set (l : List Int) (j : Nat) (n : Int) : (intsV l).set j (.int .i64 n) = intsV (l.set j n) := by simp [intsV, List.map_set]
theorem intsV_app (l : List Int) (n : Int) : intsV l ++ [.int .i64 n] = intsV (l ++ [n]) := by simp [intsV]
@[simp] theorem mxL_ints (l : List Int) : mxL (intsV l) = 0 := by
 unfold intsV
 induction l with
 | nil => rfl
 | cons a l ih => simp [mxL, mx, ih]
structure Cnt (K : List ByteArray) (V : List Int) (es : List ByteArray) : Prop where
 len : K.length = V.length
 mem : ∀ s, s ∈ K ↔ s ∈ es
 val : ∀ v ∈ V, 1 ≤ v ∧ v ≤ es.length
theorem strsD_app (l : List ByteArray) (s : ByteArray) : strsD l ++ [.str s] = strsD (l ++ [s]) := by simp [strsD]
theorem Cnt.step {K : List ByteArray} {V : List Int} {es : List ByteArray} (h : Cnt K V es) (s : ByteArray) :
  (∃ j d, lookI (strsD K) (.str s) = some j ∧ (intsV V)[j]? = some (.int .i64 d) ∧ 1 ≤ d ∧ d ≤ es.length ∧ Cnt K (V.set j (d + 1)) (es ++ [s])) ∨
  (lookI (strsD K) (.str s) = none ∧ Cnt (K ++ [s]) (V ++ [1]) (es ++ [s])) := by
 by_cases hs : s ∈ K
 ·obtain ⟨j, h1, h2⟩ := lookS_some hs
  have h3 : j < V.length := by rw [← h.len]; exact h2
  have hv := h.val V[j] (List.getElem_mem h3)
  refine .inl ⟨j, V[j], h1, by simp [intsV, h3], hv.1, hv.2, by simp [h.len], fun x => ?_, fun v hv' => ?_⟩
  ·rw [h.mem x, List.mem_append]
   constructor
   ·exact .inl
   ·rintro (hx | hx)
    ·exact hx
    ·simp only [List.mem_singleton] at hx
     subst hx
     exact (h.mem x).1 hs
  ·rcases List.mem_or_eq_of_mem_set hv' with h4 | rfl
   ·have := h.val v h4; simp; omega
   ·simp; omega
 ·refine .inr ⟨lookS_none hs, by simp [h.len], fun x => by simp [h.mem x], fun v hv => ?_⟩
  rcases List.mem_append.1 hv with h4 | h4
  ·have := h.val v h4; simp; omega
  ·simp only [List.mem_singleton] at h4
   subst h4
   simp
   omega

end Go.Proofs.YtdgocjbakjamaaaGreat
end

section
set_option linter.unusedSectionVars false
/- The data machine, second make, part Bo: an own row is lent to a call that only reads. -/

set_option linter.unusedSimpArgs false
set_option linter.unusedVariables false
namespace Go.Dm
variable [DMode]

def simpD : DVal → Bool
 | .bool _ => true
 | .int _ _ => true
 | .str _ => true
 | .nilp => true
 | .nilsl => true
 | .any => true
 | _ => false
theorem rd_simp {d : DVal} (hd : simpD d = true) {cur cur' : Cur} {M M' : List Nat} {h h' : Array Obj} {v : Value} (hr : rd cur M h d v) : rd cur' M' h' d v := by
 cases d <;> simp only [simpD, Bool.false_eq_true] at hd <;> simp only [rd] at hr ⊢ <;> exact hr
theorem rdV_simp : ∀ {ds : List DVal} (hd : ds.all simpD = true) {cur cur' : Cur} {M M' : List Nat} {h h' : Array Obj} {vs : List Value} (_ : rdV cur M h ds vs), rdV cur' M' h' ds vs
 | [], _, _, _, _, _, _, _, vs, hr => by simpa only [rdV] using hr
 | d :: ds, hd, _, _, _, _, _, _, vs, hr => by
  rw [List.all_cons, Bool.and_eq_true] at hd
  simp only [rdV] at hr ⊢
  obtain ⟨v, r, rfl, h1, h2⟩ := hr
  exact ⟨v, r, rfl, rd_simp hd.1 h1, rdV_simp hd.2 h2⟩
def simpT : DVal → Bool
 | .tup ds => ds.all simpD
 | .agg ds => ds.all simpD
 | d => simpD d
theorem rd_simpT {d : DVal} (hd : simpT d = true) {cur cur' : Cur} {M M' : List Nat} {h h' : Array Obj} {v : Value} (hr : rd cur M h d v) : rd cur' M' h' d v := by
 cases d
 case tup ds =>
  simp only [simpT] at hd
  simp only [rd] at hr ⊢
  obtain ⟨us, rfl, h1⟩ := hr
  exact ⟨us, rfl, rdV_simp hd h1⟩
 case agg ds =>
  simp only [simpT] at hd
  simp only [rd] at hr ⊢
  obtain ⟨us, rfl, h1⟩ := hr
  exact ⟨us, rfl, rdV_simp hd h1⟩
 all_goals exact rd_simp (by simpa only [simpT] using hd) hr

theorem DSpec_lend {P : Program} {f : FuncId} {k bs : Nat} {et : TypeId} {es : List (List DVal)} {rest : List DVal} {d : DVal} (hd : simpT d = true) (hp : DPure P f (.sl k bs es :: rest) d) :
  DSpec P (.func f) (.osl 0 0 :: rest) [⟨0, 0, .row et k bs es⟩] d [⟨0, 0, .row et k bs es⟩] := by
 obtain ⟨hen, _, hc⟩ := hp
 refine ⟨by simp, hen, fun M w loc vs S hr => ⟨hen, ?_⟩⟩
 simp only [rdV] at hr
 obtain ⟨v0, r0, hvs, h0, hrest⟩ := hr
 simp only [rd] at h0
 have hv0 := h0 (loc 0) rfl
 have hk := S.ok ⟨0, 0, .row et k bs es⟩ (by simp)
 have hap := S.ap
 have W : Weak (curOf [(⟨0, 0, .row et k bs es⟩ : Ent)] loc) (curOf [(⟨0, 0, .row et k bs es⟩ : Ent)] loc) (hotOf [(⟨0, 0, .row et k bs es⟩ : Ent)] loc ++ M) M w.heap w.heap (max (mxR es) (mxL rest)) :=
  ⟨fun _ _ _ _ h => h, fun _ _ _ _ h => h, fun b _ hb _ _ hm => hb (List.mem_append_right _ hm)⟩
 refine (hc (curOf [(⟨0, 0, .row et k bs es⟩ : Ent)] loc) M w vs (fun b hb => S.lt b (List.mem_append_right _ hb)) ?_).mono ?_
 ·rw [hvs]
  simp only [rdV]
  refine ⟨v0, r0, rfl, ?_, rdV_weak W _ _ (by omega) hrest⟩
  simp only [rd]
  obtain ⟨hz, h⟩ := hk
  rcases h with ⟨he, _, h2⟩ | ⟨b, arr, cap, h1, h2, h3, h4, h5, h6, h7⟩
  ·subst he
   rw [hv0, h2]
   exact ⟨none, 0, by simp, by simp, by simp, hz, .inl ⟨rfl, fun _ => rfl⟩⟩
  ·rw [hv0, h2]
   refine ⟨some ⟨b, 0, none⟩, cap, rfl, h4, h5, hz, .inr ⟨b, 0, arr, et, (0, 0), rfl, hap b ?_, h3, rdR_weak W k es arr 0 (by omega) h7⟩⟩
   simp [hotOf, h1]
 ·rintro e w' ⟨v, rfl, hu, hrd⟩
  exact ⟨v, rfl, loc, S.keep hu, hu.nil, fun b hb => .inl hb, fun e he _ => curOf_self S.nd he, rd_simpT hd hrd⟩
theorem DW_nilS {P : Program} {B : Base} {Q : Exit → DS → Prop} {s : DS} {x : Code} (i k bs : Nat) (h : getS s.slots i = .nilsl) (hw : DW P B x Q ⟨(i, .sl k bs []) :: s.slots, s.own⟩) : DW P B x Q s := by
 refine DW_sub (s' := ⟨(i, .sl k bs []) :: s.slots, s.own⟩) (fun a w loc R => ⟨loc, R.st, R.upd, R.new, R.ver, fun j => ?_, R.nt, R.df⟩) hw
 simp only [getS]
 split
 ·rename_i hj
  subst hj
  have := R.sl j
  rw [h] at this
  simp only [rd] at this ⊢
  rw [this]
  exact ⟨none, 0, by simp, by simp, by simp, by simp, .inl ⟨by simp, fun _ => rfl⟩⟩
 ·exact R.sl j
end Go.Dm
end

section
set_option linter.unusedSectionVars false
/- grammars: the program's heads, names, occurrences, what is missing -/




set_option linter.unusedSimpArgs false
set_option linter.unusedVariables false
namespace Go.Proofs.YtdgocjbakjamaaaGreat
open Go Go.Dm
variable [DMode]
attribute [local irreducible] DW callP callS
set_option maxRecDepth 100000

theorem placeS_mem {l : List ByteArray} {s : ByteArray} : decide (0 ≤ placeS l s) = decide (s ∈ l) := by
 refine decide_eq_decide.2 ?_
 unfold placeS
 by_cases h : s ∈ l
 ·rw [if_pos (List.any_eq_true.2 ⟨s, h, by simp⟩)]
  simp only [h, iff_true]
  omega
 ·rw [if_neg (fun hh => h (by obtain ⟨x, hx, hs⟩ := List.any_eq_true.1 hh; simp at hs; subst hs; exact hx))]
  simp [h]
theorem contains128_pure (l : List ByteArray) (s : ByteArray) : DPure Tryz.prog 128 [dStrs l, .str s] (.bool (decide (s ∈ l))) := by
 rw [← placeS_mem]; exact contains104_pure l s

theorem containsO_spec (l : List ByteArray) (s : ByteArray) : DSpec Tryz.prog (.func 128) [.osl 0 0, .str s] [⟨0, 0, .row 9 1 16 (l.map dStr)⟩] (.bool (decide (s ∈ l))) [⟨0, 0, .row 9 1 16 (l.map dStr)⟩] :=
 DSpec_lend rfl (contains128_pure l s)

def anBN164 : Ann := ⟨[15], [⟨4, [5], [], []⟩]⟩
set_option maxHeartbeats 1000000 in
theorem heads64_pure (g : List Rul) : DPure Tryz.prog 64 [dRuls g] (dStrs (headsL g)) := by
 refine DPure_introF [3] (fn := Tryz.f64) Tryz.func64 rfl Tryz.call64 (by simp [Tryz.ntmps64]) (by simp [mx]) ?_
 intro hwf B hnt
 simp only [Tryz.ntmps64] at hnt
 have hA := an_is anBN164 Tryz.mixed (aj2 @anBN164.eq_1 Tryz.results64)
 have hs : g.length * 40 ≤ 150000000000000 := by have := hwf.1; simp only [wfD, List.length_map] at this; exact this.1
 clear hwf
 simp only [argS]
 (refine go1 aj0 aj0 aj0 ?_; intros; refine mk_i ?_)
 refine DW_adoptS 3 3 9 1 16 (by simp [hnt, Tryz.results64, anBN164]) (fun n => ?_)
 refine DW_loop (X := {i : Nat // i ≤ g.length}) (fun i => ⟨[(0, dRuls g), (3, .osl 3 1), (6, dRuls g), (7, .int .i64 g.length), (8, .int .i64 i.1)], [⟨3, 1, .row 9 1 16 ((headsL (g.take i.1)).map dStr)⟩]⟩) (fun i => g.length - i.1) ⟨0, by omega⟩ (Sub.lit (by simp [headsL])) ?_
 rintro ⟨i, hi⟩
 simp only
 by_cases hlt : i < g.length
 ·obtain ⟨r, hr, hr', hrm⟩ := at_lt' hlt
  have htk := headsL_take hr
  have hl := headsL_len (g.take i)
  rw [List.length_take] at hl
  obtain ⟨T, hT⟩ : ∃ T, T = headsL (g.take i) := ⟨_, rfl⟩
  rw [← hT] at htk hl ⊢
  have e1 := containsO_spec T r.h
  have z1 : (T.length + 1) * 16 ≤ 150000000000000 := by omega
  have z2 : T.length + 1 ≤ 9223372036854775807 := by omega
  unfold hStep at htk
  by_cases hm : r.h ∈ T
  ·rw [if_pos hm] at htk
   rw [decide_eq_true hm] at e1
   (refine go1 aj0 (aj1 (spc [(3,0)] [] e1)) (aj4 @dRul.eq_1 hlt hr hr') ?_; intros; refine mk_i ?_)
   refine Again.mk ⟨i + 1, by omega⟩ (Sub.lit (by simp [htk])) (by simp; omega)
   skip
  ·rw [if_neg hm] at htk
   rw [decide_eq_false hm] at e1
   (refine go1 aj0 (aj1 (spc [(3,0)] [] e1)) (aj6 @dRul.eq_1 hlt hr hr' z1 z2) ?_; intros; refine mk_i ?_)
   refine Again.mk ⟨i + 1, by omega⟩ (Sub.lit (by simp [htk, dStr])) (by simp; omega)
   skip
 ·have hkk : i = g.length := by omega
  subst hkk
  rw [List.take_length]
  exact go0 aj0 aj0 aj0

abbrev dCM (m : CM) : DObj := .map (strsD m.K) (intsV m.V)
def anBN1131 : Ann := ⟨[], [⟨4, [7], [], []⟩, ⟨7, [9], [], []⟩]⟩
set_option maxHeartbeats 2000000 in
theorem names131_spec (g : List Rul) (k : Int) : DSpec Tryz.prog (.func 131) [dRuls g, .int .i64 k] [] (.omp 0 1) [⟨0, 1, dCM (cntL (namesK k g))⟩] := by
 refine DSpec_intro [] [(10, 0, 1)] (fn := Tryz.f131) Tryz.func131 rfl Tryz.call131 (by simp [Tryz.ntmps131]) (by simp) (by simp) ?_
 intro hwf B hnt
 simp only [Tryz.ntmps131] at hnt
 have hA := an_is anBN1131 Tryz.mixed (aj2 @anBN1131.eq_1 Tryz.results131)
 have hwl := len_ruls hwf.1
 have hwb : ∀ r ∈ g, r.b.length < 9223372036854775807 := fun r hr => by
  have h1 := hwf.1
  obtain ⟨i, hi, rfl⟩ := List.getElem_of_mem hr
  have h2 : wfR (g.map dRul) := by simp only [wfD] at h1; exact h1.2.2
  have h3 := wfR_at h2 (List.getElem?_eq_getElem hi)
  simp only [dRul, wfL] at h3
  exact len_nds h3.2.1
 clear hwf
 simp only [argS, List.nil_append]
 (refine go1 aj0 aj0 aj0 ?_; intros; refine mk_i ?_)
 refine DW_loop (X := {i : Nat // i ≤ g.length}) (fun i => ⟨[(0, dRuls g), (1, .int .i64 k), (5, .omp 10 1), (11, dRuls g), (12, .int .i64 g.length), (13, .int .i64 i.1)], [⟨10, 1, dCM (cntL (namesK k (g.take i.1)))⟩]⟩) (fun i => g.length - i.1) ⟨0, by omega⟩ (Sub.lit (by simp [namesK, cntL, strsD, intsV])) ?_
 rintro ⟨i, hi⟩
 simp only
 by_cases hlt : i < g.length
 ·obtain ⟨r, hr, hr', hrm⟩ := at_lt' hlt
  have htk := namesK_take (k := k) hr
  have hrl := hwb r hrm
  obtain ⟨N, hN⟩ : ∃ N, N = namesK k (g.take i) := ⟨_, rfl⟩
  rw [← hN] at htk ⊢
  (refine go1 aj0 aj0 (aj4 @dRul.eq_1 hlt hr hr') ?_; intros; refine mk_i ?_)
  refine DW_loop (X := {j : Nat // j ≤ r.b.length}) (fun j => ⟨[(0, dRuls g), (1, .int .i64 k), (5, .omp 10 1), (11, dRuls g), (12, .int .i64 g.length), (13, .int .i64 i), (18, dNds r.b), (19, .int .i64 r.b.length), (20, .int .i64 j.1)], [⟨10, 1, dCM (cntL (N ++ namesN k (r.b.take j.1)))⟩]⟩) (fun j => r.b.length - j.1) ⟨0, by omega⟩ (Sub.lit (by simp [namesN])) ?_
  rintro ⟨j, hj⟩
  simp only
  by_cases hlt2 : j < r.b.length
  ·obtain ⟨x, hx, hx', hxm⟩ := at_lt' hlt2
   have htj := namesN_take (k := k) hx
   obtain ⟨E, hE⟩ : ∃ E, E = N ++ namesN k (r.b.take j) := ⟨_, rfl⟩
   have hE2 : N ++ namesN k (r.b.take (j + 1)) = E ++ (if x.k = k then [x.s] else []) := by rw [htj, hE, List.append_assoc]
   rw [← hE]
   by_cases hk : x.k = k
   ·rw [if_pos hk] at hE2
    have hst := cntL_snoc E x.s
    have hok := cnt_ok E
    obtain ⟨⟨Ks, V⟩, hm⟩ : ∃ m, m = cntL E := ⟨_, rfl⟩
    rw [← hm] at hst hok ⊢
    have hks := keyStrs Ks
    unfold cStep at hst
    simp only at hst
    by_cases hs : x.s ∈ Ks
    ·rw [if_pos hs] at hst
     have l1 := lookS_ix hs
     have l3 : ixS Ks x.s < V.length := by have := ixS_lt hs; have := hok.len; simp only at this; omega
     have v1 : (intsV V)[ixS Ks x.s]? = some (.int .i64 (V.getD (ixS Ks x.s) 0)) := by simp [intsV, l3]
     obtain ⟨q, hq⟩ : ∃ q, q = IntKind.i64.wrap (V.getD (ixS Ks x.s) 0 + 1) := ⟨_, rfl⟩
     have hq2 : IntKind.i64.wrap (V.getD (ixS Ks x.s) 0 + 1) = q := hq.symm
     rw [hq2] at hst
     obtain ⟨c, hcc⟩ : ∃ c, c = V.getD (ixS Ks x.s) 0 := ⟨_, rfl⟩
     rw [← hcc] at v1 hq2
     have st1 := intsV_set V (ixS Ks x.s) q
     obtain ⟨ix, hix⟩ : ∃ ix, ix = ixS Ks x.s := ⟨_, rfl⟩
     rw [← hix] at l1 v1 st1 hst
     (refine go1 aj0 aj0 (aj10 @dNd.eq_1 hlt2 hx hx' hk hks l1 v1 hq2 st1) ?_; intros; refine mk_i ?_)
     refine Again.mk ⟨j + 1, by omega⟩ (Sub.lit (by simp only [hE2, hst]; simp)) (by simp; omega)
     skip
    ·rw [if_neg hs] at hst
     have l1 := lookS_none hs
     have st1 := intsV_app V 1
     have sk1 := strsD_app Ks x.s
     (refine go1 aj0 aj0 (aj9 @dNd.eq_1 hlt2 hx hx' hk hks l1 st1 sk1) ?_; intros; refine mk_i ?_)
     refine Again.mk ⟨j + 1, by omega⟩ (Sub.lit (by simp only [hE2, hst]; simp)) (by simp; omega)
     skip
   ·have hk' : (x.k == k) = false := by simpa using hk
    rw [if_neg hk, List.append_nil] at hE2
    (refine go1 aj0 aj0 (aj6 @dNd.eq_1 hlt2 hx hx' hk hk') ?_; intros; refine mk_i ?_)
    refine Again.mk ⟨j + 1, by omega⟩ (Sub.lit (by simp only [hE2]; simp)) (by simp; omega)
    skip
  ·have hkk : j = r.b.length := by omega
   subst hkk
   rw [List.take_length]
   (refine go1 aj0 aj0 aj0 ?_; intros; refine mk_i ?_)
   refine Again.mk ⟨i + 1, by omega⟩ (Sub.lit (by simp only [htk]; simp)) (by simp; omega)
   skip
 ·have hkk : i = g.length := by omega
  subst hkk
  rw [List.take_length]
  exact go0 aj0 aj0 aj0

def delCM (m : CM) (s : ByteArray) : CM := if s ∈ m.K then ⟨m.K.eraseIdx (ixS m.K s), m.V.eraseIdx (ixS m.K s)⟩ else m
structure DelOk (m0 m : CM) (hs : List ByteArray) : Prop where
 len : m.K.length = m.V.length
 mem : ∀ s, s ∈ m.K ↔ s ∈ m0.K ∧ ¬ s ∈ hs
 nd : m.K.Nodup
theorem erase_mem {l : List ByteArray} (hn : l.Nodup) {s x : ByteArray} (hs : s ∈ l) : x ∈ l.eraseIdx (ixS l s) ↔ x ∈ l ∧ x ≠ s := by
 have hi := ixS_lt hs
 have hv : l[ixS l s] = s := by
  have := List.findIdx_getElem (xs := l) (p := fun x => s == x) (w := hi)
  simp at this
  exact this.symm
 rw [List.mem_eraseIdx_iff_getElem]
 constructor
 ·rintro ⟨i, hil, hne, rfl⟩
  refine ⟨List.getElem_mem hil, fun e => hne ?_⟩
  exact (List.getElem_inj hn).1 (e.trans hv.symm)
 ·rintro ⟨hx, hne⟩
  obtain ⟨i, hil, rfl⟩ := List.getElem_of_mem hx
  refine ⟨i, hil, fun e => hne ?_, rfl⟩
  subst e
  exact hv
theorem DelOk.step {m0 m : CM} {hs : List ByteArray} (h : DelOk m0 m hs) (s : ByteArray) : DelOk m0 (delCM m s) (hs ++ [s]) := by
 unfold delCM
 split
 ·rename_i hm
  refine ⟨?_, fun x => ?_, h.nd.sublist (List.eraseIdx_sublist _ _)⟩
  ·have := ixS_lt hm
   rw [List.length_eraseIdx_of_lt this, List.length_eraseIdx_of_lt (by have := h.len; omega), h.len]
  ·simp only
   rw [erase_mem h.nd hm, h.mem x, List.mem_append, List.mem_singleton]
   constructor
   ·rintro ⟨⟨a, b⟩, c⟩; exact ⟨a, fun hh => by rcases hh with hh | hh; exact b hh; exact c hh⟩
   ·rintro ⟨a, b⟩; exact ⟨⟨a, fun hh => b (.inl hh)⟩, fun hh => b (.inr hh)⟩
 ·rename_i hm
  refine ⟨h.len, fun x => ?_, h.nd⟩
  rw [h.mem x, List.mem_append, List.mem_singleton]
  constructor
  ·rintro ⟨a, b⟩; exact ⟨a, fun hh => by rcases hh with hh | hh; exact b hh; subst hh; exact hm ((h.mem x).2 ⟨a, b⟩)⟩
  ·rintro ⟨a, b⟩; exact ⟨a, fun hh => b (.inl hh)⟩
theorem intsV_erase (V : List Int) (j : Nat) : (intsV V).eraseIdx j = intsV (V.eraseIdx j) := by unfold intsV; rw [map_erase]
theorem strsD_erase (V : List ByteArray) (j : Nat) : (strsD V).eraseIdx j = strsD (V.eraseIdx j) := by unfold strsD; rw [map_erase]
def anBN1194 : Ann := ⟨[7], [⟨4, [5], [], []⟩]⟩
set_option maxHeartbeats 2000000 in
theorem missing194_pure (g : List Rul) (hn : (namesK 2 g).length ≤ 9223372036854775807) : DPure Tryz.prog 194 [dRuls g] (.int .i64 (missL g).length) := by
 refine DPure_introF [] (fn := Tryz.f194) Tryz.func194 rfl Tryz.call194 (by simp [Tryz.ntmps194]) (by simp [mx]) ?_
 intro hwf B hnt
 simp only [Tryz.ntmps194] at hnt
 have hA := an_is anBN1194 Tryz.mixed (aj2 @anBN1194.eq_1 Tryz.results194)
 have hwl := len_ruls hwf.1
 clear hwf
 simp only [argS]
 have e1 := names131_spec g 2
 have hok := cnt_ok (namesK 2 g)
 obtain ⟨m0, hm0⟩ : ∃ m, m = cntL (namesK 2 g) := ⟨_, rfl⟩
 rw [← hm0] at e1 hok
 (refine go1 aj0 (aj1 (spc [] [(7,0)] e1)) aj0 ?_; intros; refine mk_i ?_)
 refine DW_loop (X := {x : Nat × CM // x.1 ≤ g.length ∧ DelOk m0 x.2 ((g.take x.1).map (·.h))}) (fun x => ⟨[(0, dRuls g), (3, .omp 7 1), (8, dRuls g), (9, .int .i64 g.length), (10, .int .i64 x.1.1)], [⟨7, 1, dCM x.1.2⟩]⟩) (fun x => g.length - x.1.1) ⟨(0, m0), by simp, by simpa using hok.len, by simp, hok.nd⟩ (Sub.lit (by simp)) ?_
 rintro ⟨⟨i, m⟩, hi, hD⟩
 simp only at hi hD ⊢
 by_cases hlt : i < g.length
 ·obtain ⟨r, hr, hr', hrm⟩ := at_lt' hlt
  have hD2 : DelOk m0 (delCM m r.h) ((g.take (i + 1)).map (·.h)) := by
   have := hD.step r.h
   rw [List.take_add_one, hr, List.map_append]
   exact this
  obtain ⟨Ks, V⟩ := m
  have hks := keyStrs Ks
  unfold delCM at hD2
  simp only at hD2
  by_cases hs : r.h ∈ Ks
  ·rw [if_pos hs] at hD2
   have l1 := lookS_ix hs
   have s1 := strsD_erase Ks (ixS Ks r.h)
   have s2 := intsV_erase V (ixS Ks r.h)
   (refine go1 aj0 aj0 (aj10 @dRul.eq_1 hlt hr hr' hks l1 @delK.eq_1 @delV.eq_1 s1 s2) ?_; intros; refine mk_i ?_)
   refine Again.mk ⟨(i + 1, _), show i + 1 ≤ g.length ∧ _ from ⟨by omega, hD2⟩⟩ (Sub.lit (by simp)) (by simp; omega)
   skip
  ·rw [if_neg hs] at hD2
   have l1 := lookS_none hs
   (refine go1 aj0 aj0 (aj8 @dRul.eq_1 hlt hr hr' hks l1 @delK.eq_1 @delV.eq_1) ?_; intros; refine mk_i ?_)
   refine Again.mk ⟨(i + 1, _), show i + 1 ≤ g.length ∧ _ from ⟨by omega, hD2⟩⟩ (Sub.lit (by simp)) (by simp; omega)
   skip
 ·have hkk : i = g.length := by omega
  subst hkk
  rw [List.take_length] at hD
  have hml : m.K.length = (missL g).length := miss_len hD.nd fun s => by
   rw [hD.mem s, hok.mem s, headsL_mem]
   simp
  have hsl := strsD_len m.K
  rw [hml] at hsl
  have hle : (missL g).length ≤ 9223372036854775807 := Nat.le_trans (Nat.le_trans (List.length_filter_le _ _) (uniqS_len _)) hn
  obtain ⟨Ks, V⟩ := m
  exact go0 aj0 aj0 (aj2 hsl hle)

end Go.Proofs.YtdgocjbakjamaaaGreat
end

section
set_option linter.unusedSectionVars false
/- the document's Name -/


set_option linter.unusedSimpArgs false
set_option linter.unusedVariables false
namespace Go.Proofs.YtdgocjbakjamaaaGreat
open Go Go.Dm
variable [DMode]
attribute [local irreducible] DW callP callS
set_option maxRecDepth 100000

def anWRn159 : Ann := ⟨[], []⟩
theorem rname113_pure (k c : Int) (hk : k = 2 ∧ c = 85 ∨ k = 3 ∧ c = 76) (s : ByteArray) : DPure Tryz.prog 159 [.str s, .int .u8 c] (.bool (txtOK k s)) := by
 refine DPure_introF [] (fn := Tryz.f159) Tryz.func159 rfl Tryz.call159 (by simp [Tryz.ntmps159]) (by simp [mx]) ?_
 intro hwf B hnt
 simp only [Tryz.ntmps159] at hnt
 have hA := an_is anWRn159 Tryz.mixed (aj2 @anWRn159.eq_1 Tryz.results159)
 have hsz : s.size ≤ 9223372036854775807 := by have := hwf.1; simp only [wfD, maxLen] at this; omega
 clear hwf
 simp only [argS]
 obtain ⟨R, hR⟩ : ∃ R, R = txtOK k s := ⟨_, rfl⟩
 rw [← hR]
 unfold txtOK at hR
 by_cases h1 : 1 ≤ s.size
 ·by_cases h2 : s.size ≤ 16
  ·have g1 : ¬ (s.size : Int) < 1 := by omega
   have g2 : ¬ (16 : Int) < s.size := by omega
   have g0 : 0 < s.size := by omega
   obtain ⟨b0, hb0, hb0', _⟩ := at_lt' (show 0 < s.data.toList.length by rw [size_toList]; omega)
   (refine go1 aj0 aj0 (aj5 g0 g1 g2 h1 h2) ?_; intros; refine mk_i ?_)
   refine DW_loop (X := {k : Nat // k ≤ s.size ∧ letS s = ((s.data.toList.drop k).all fun b => letB (b.toNat : Int))}) (fun k => ⟨[(0, .str s), (1, .int .u8 c), (5, .int .i64 k.1)], []⟩) (fun k => s.size - k.1) ⟨0, by simp [letS]⟩ (Sub.lit (by simp)) ?_
   rintro ⟨j, hj, hl⟩
   by_cases hlt : j < s.size
   ·obtain ⟨b, hb, hb', _⟩ := at_lt' (show j < s.data.toList.length by rw [size_toList]; exact hlt)
    rw [List.drop_eq_getElem_cons (by rw [size_toList]; exact hlt), hb', List.all_cons] at hl
    have e1 := inner153_pure (b.toNat : Int)
    cases hL : letB (b.toNat : Int)
    ·rw [hL] at e1 hl
     have hR2 : R = false := by rw [hR]; unfold nameOK; rw [hl]; simp
     subst hR2
     exact go0 (aj1 e1) aj0 (aj3 hlt hb hb')
    ·rw [hL] at e1 hl
     simp only [Bool.true_and] at hl
     (refine go1 (aj1 e1) aj0 (aj3 hlt hb hb') ?_; intros; refine mk_i ?_)
     refine Again.mk ⟨j + 1, by omega, hl⟩ (Sub.lit (by simp)) (by simp; omega)
     skip
   ·have hkk : j = s.size := by omega
    subst hkk
    rw [← size_toList, List.drop_length] at hl
    have hN : nameOK s = true := by unfold nameOK; rw [hl]; simp [h1, h2]
    rw [hN] at hR
    simp only [headQ_at hb0, Bool.true_and] at hR
    have e1 := rupper154_pure (b0.toNat : Int)
    have e2 := rlower155_pure (b0.toNat : Int)
    rcases hk with ⟨rfl, rfl⟩ | ⟨rfl, rfl⟩
    ·simp only [if_true] at hR
     rw [← hR] at e1
     cases R
     ·exact go0 (aj2 e1 e2) aj0 (aj3 g0 hb0 hb0')
     ·exact go0 (aj2 e1 e2) aj0 (aj3 g0 hb0 hb0')
    ·simp only [show ¬ (3 : Int) = 2 by omega, if_false] at hR
     rw [← hR] at e2
     cases R
     ·exact go0 (aj2 e1 e2) aj0 (aj3 g0 hb0 hb0')
     ·exact go0 (aj2 e1 e2) aj0 (aj3 g0 hb0 hb0')
  ·have g1 : ¬ (s.size : Int) < 1 := by omega
   have g2 : (16 : Int) < s.size := by omega
   have hR2 : R = false := by rw [hR]; unfold nameOK; simp [h2]
   subst hR2
   exact go0 aj0 aj0 (aj4 g1 g2 h1 h2)
 ·have g1 : (s.size : Int) < 1 := by omega
  have hR2 : R = false := by rw [hR]; unfold nameOK; simp [h1]
  subst hR2
  exact go0 aj0 aj0 (aj2 g1 h1)

end Go.Proofs.YtdgocjbakjamaaaGreat
end

section
set_option linter.unusedSectionVars false
/- regular expressions by definition: May, End, IsTree, Kids -/



set_option linter.unusedSimpArgs false
set_option linter.unusedVariables false
namespace Go.Proofs.YtdgocjbakjamaaaGreat
open Go Go.Dm
variable [DMode]
attribute [local irreducible] DW callP callS
set_option maxRecDepth 100000

def anRY1277 : Ann := ⟨[], []⟩
set_option maxHeartbeats 4000000 in
theorem mayR_pure (x : Nd) : DPure Tryz.prog 277 [.agg (dNd x)] (.bool (mayN x)) := by
 refine DPure_introF [] (fn := Tryz.f277) Tryz.func277 rfl Tryz.call277 (by simp [Tryz.ntmps277]) (by simp [mx]) ?_
 intro hwf B hnt
 simp only [Tryz.ntmps277] at hnt
 have hA := an_is anRY1277 Tryz.mixed (aj2 @anRY1277.eq_1 Tryz.results277)
 simp only [argS]
 have e1 := rname113_pure 2 85 (.inl ⟨rfl, rfl⟩) x.s
 have e2 := rname113_pure 3 76 (.inr ⟨rfl, rfl⟩) x.s
 rw [show txtOK 2 x.s = (nameOK x.s && headQ upI x.s) from rfl] at e1
 rw [show txtOK 3 x.s = (nameOK x.s && headQ loI x.s) from rfl] at e2
 unfold mayN emp
 by_cases k1 : x.k = 1
 ·exact go0 aj0 aj0 (aj3 @dNd.eq_1 @size_e k1)
 by_cases k2 : x.k = 2
 ·obtain ⟨b, hb⟩ : ∃ b, b = (nameOK x.s && headQ upI x.s) := ⟨_, rfl⟩
  rw [← hb] at e1 ⊢
  clear hb
  cases b <;> exact go0 (aj1 e1) aj0 (aj4 @dNd.eq_1 @size_e k1 k2)
 by_cases k3 : x.k = 3
 ·obtain ⟨b, hb⟩ : ∃ b, b = (nameOK x.s && headQ loI x.s) := ⟨_, rfl⟩
  rw [← hb] at e2 ⊢
  clear hb
  cases b <;> exact go0 (aj1 e2) aj0 (aj5 @dNd.eq_1 @size_e k1 k2 k3)
 by_cases k4 : x.k = 4
 ·exact go0 aj0 aj0 (aj6 @dNd.eq_1 @size_e k1 k2 k3 k4)
 by_cases k5 : x.k = 5
 ·exact go0 aj0 aj0 (aj7 @dNd.eq_1 @size_e k1 k2 k3 k4 k5)
 by_cases k6 : x.k = 6
 ·exact go0 aj0 aj0 (aj8 @dNd.eq_1 @size_e k1 k2 k3 k4 k5 k6)
 by_cases k7 : x.k = 7
 ·exact go0 aj0 aj0 (aj9 @dNd.eq_1 @size_e k1 k2 k3 k4 k5 k6 k7)
 by_cases k8 : x.k = 8
 ·exact go0 aj0 aj0 (aj10 @dNd.eq_1 @size_e k1 k2 k3 k4 k5 k6 k7 k8)
 exact go0 aj0 aj0 (aj10 @dNd.eq_1 @size_e k1 k2 k3 k4 k5 k6 k7 k8)

def endI (l : List Nd) (p : Nat) : Int := match endN (l.drop p) 1 with
 | some r => (l.length : Int) - r.length
 | none => -1
def anRY1234 : Ann := ⟨[], []⟩
set_option maxHeartbeats 4000000 in
theorem end144_pure (l : List Nd) (p : Nat) (hs : l.length ≤ 1310720) (hp : p ≤ l.length) : DPure Tryz.prog 234 [dNds l, .int .i64 p] (.int .i64 (endI l p)) := by
 refine DPure_introF [] (fn := Tryz.f234) Tryz.func234 rfl Tryz.call234 (by simp [Tryz.ntmps234]) (by simp [mx]) ?_
 intro hwf B hnt
 simp only [Tryz.ntmps234] at hnt
 have hA := an_is anRY1234 Tryz.mixed (aj2 @anRY1234.eq_1 Tryz.results234)
 clear hwf
 simp only [argS]
 obtain ⟨R, hR⟩ : ∃ R, R = endI l p := ⟨_, rfl⟩
 rw [← hR]
 unfold endI at hR
 obtain ⟨E, hE⟩ : ∃ E, E = endN (l.drop p) 1 := ⟨_, rfl⟩
 rw [← hE] at hR
 (refine go1 aj0 aj0 aj0 ?_; intros; refine mk_i ?_)
 refine DW_loop (X := {q : Nat × Nat // q.1 ≤ l.length ∧ endN (l.drop q.1) q.2 = E ∧ q.2 ≤ 1 + q.1 * 1310720}) (fun q => ⟨[(0, dNds l), (1, .int .i64 q.1.1), (5, .int .i64 q.1.2)], []⟩) (fun q => l.length + 1 - q.1.1) ⟨(p, 1), hp, hE.symm, by simp only; omega⟩ (Sub.lit (by simp)) ?_
 clear hE
 rintro ⟨⟨k, w⟩, hk, hw, hwb⟩
 simp only at hk hw hwb ⊢
 cases w with
 | zero =>
  rw [endN_zero] at hw
  rw [← hw] at hR
  simp only [List.length_drop] at hR
  have hRk : R = k := by omega
  subst hRk
  exact go0 aj0 aj0 aj0
 | succ v =>
  have hv : (0 : Int) < (v : Int) + 1 := by omega
  by_cases hlt : k < l.length
  ·obtain ⟨x, hx, hx', _⟩ := at_lt' hlt
   rw [List.drop_eq_getElem_cons hlt, hx'] at hw
   have e1 := mayR_pure x
   simp only [dNd] at e1
   have hge : ¬ l.length ≤ k := by omega
   cases hm : mayN x
   ·rw [hm] at e1
    rw [endN_cons, hm] at hw
    simp only [Bool.false_eq_true, if_false] at hw
    rw [← hw] at hR
    simp only at hR
    subst hR
    exact go0 (aj1 e1) aj0 (aj6 @dNd.eq_1 hlt hge hx hx' hv)
   ·rw [hm] at e1
    have hk0 := mayN_kids hm
    obtain ⟨c, hcn⟩ : ∃ c : Nat, x.n = (c : Int) := ⟨x.n.toNat, by omega⟩
    rw [hcn] at e1
    rw [endN_cons, if_pos hm, hcn, Int.toNat_natCast] at hw
    by_cases hbig : l.length < c
    ·have hbig' : (l.length : Int) < (c : Int) := by omega
     rw [endN_big _ _ (by rw [List.length_drop]; omega)] at hw
     rw [← hw] at hR
     simp only at hR
     subst hR
     exact go0 (aj1 e1) aj0 (aj9 @dNd.eq_1 hlt hge hx hx' hv hcn hbig hbig')
    ·have hbig' : ¬ (l.length : Int) < (c : Int) := by omega
     have q1 : IntKind.i64.wrap ((v : Int)) = (v : Int) := wrap64_in (by omega) (by omega)
     have q2 : IntKind.i64.wrap ((v : Int) + (c : Int)) = (v : Int) + (c : Int) := wrap64_in (by omega) (by omega)
     (refine go1 (aj1 e1) aj0 (aj11 @dNd.eq_1 hlt hge hx hx' hv hcn hbig hbig' q1 q2) ?_; intros; refine mk_i ?_)
     refine Again.mk ⟨(k + 1, v + c), show k + 1 ≤ l.length ∧ endN (l.drop (k + 1)) (v + c) = E ∧ v + c ≤ 1 + (k + 1) * 1310720 from ⟨by omega, hw, by omega⟩⟩ (Sub.lit (by simp)) (by simp; omega)
     skip
  ·have hge : l.length ≤ k := by omega
   rw [List.drop_of_length_le hge, endN_nil] at hw
   rw [← hw] at hR
   simp only at hR
   subst hR
   exact go0 aj0 aj0 (aj2 hv hge)
def anRY1160 : Ann := ⟨[], []⟩
theorem isTree135_pure (l : List Nd) (hs : l.length ≤ 1310720) : DPure Tryz.prog 160 [dNds l] (.bool (wholeB l)) := by
 refine DPure_introF [] (fn := Tryz.f160) Tryz.func160 rfl Tryz.call160 (by simp [Tryz.ntmps160]) (by simp [mx]) ?_
 intro hwf B hnt
 simp only [Tryz.ntmps160] at hnt
 have hA := an_is anRY1160 Tryz.mixed (aj2 @anRY1160.eq_1 Tryz.results160)
 clear hwf
 simp only [argS]
 have e1 := end144_pure l 0 hs (by omega)
 unfold endI at e1
 unfold wholeB
 rw [List.drop_zero] at e1
 by_cases h0 : 0 < l.length
 ·cases hE : endN l 1 with
  | none =>
   rw [hE] at e1
   have hne : ((-1 : Int) == (l.length : Int)) = false := by simp
   exact go0 (aj1 e1) aj0 (aj2 h0 hne)
  | some r =>
   rw [hE] at e1
   cases r with
   | nil =>
    simp only [List.length_nil, Int.natCast_zero, Int.sub_zero] at e1
    exact go0 (aj1 e1) aj0 (aj1 h0)
   | cons y r =>
    have hne : (((l.length : Int) - ((y :: r).length : Int)) == (l.length : Int)) = false := by simp; omega
    obtain ⟨e, he⟩ : ∃ e : Int, e = (l.length : Int) - ((y :: r).length : Int) := ⟨_, rfl⟩
    rw [← he] at hne
    have e3 : DPure Tryz.prog 234 [dNds l, .int .i64 0] (.int .i64 e) := by rw [he]; exact e1
    exact go0 (aj1 e3) aj0 (aj2 h0 hne)
 ·have hl : l = [] := List.eq_nil_of_length_eq_zero (by omega)
  subst hl
  rw [endN_nil]
  exact go0 aj0 aj0 aj0
end Go.Proofs.YtdgocjbakjamaaaGreat
end

section
set_option linter.unusedSectionVars false
/- regular expressions as lists: height -/



set_option linter.unusedSimpArgs false
set_option linter.unusedVariables false
namespace Go.Proofs.YtdgocjbakjamaaaGreat
open Go Go.Dm
variable [DMode]
attribute [local irreducible] DW callP callS
set_option maxRecDepth 100000

def anRX2206 : Ann := ⟨[], [⟨5, [6], [], []⟩]⟩
set_option maxHeartbeats 4000000 in
theorem height109_pure (t : RT) (ht : okT t = true) (hs : (flat t).length ≤ 1310720) : DPure Tryz.prog 206 [dNds (flat t)] (.int .i64 (htT t)) := by
 refine DPure_introF [] (fn := Tryz.f206) Tryz.func206 rfl Tryz.call206 (by simp [Tryz.ntmps206]) (by simp [mx]) ?_
 intro hwf B hnt
 simp only [Tryz.ntmps206] at hnt
 have hA := an_is anRX2206 Tryz.mixed (aj2 @anRX2206.eq_1 Tryz.results206)
 clear hwf
 simp only [argS]
 have hR := height_flat ht
 have hmay := okT_all ht
 have hkle : ∀ x ∈ flat t, x.n ≤ 1310720 := fun x hx => by have := kids_leT t ht x hx; omega
 obtain ⟨l, hl⟩ : ∃ l, l = flat t := ⟨_, rfl⟩
 rw [← hl] at hR hmay hkle hs ⊢
 clear hl
 obtain ⟨R, hRR⟩ : ∃ R, R = htT t := ⟨_, rfl⟩
 rw [← hRR] at hR ⊢
 clear hRR ht
 (refine go1 aj0 aj0 aj0 ?_; intros; refine mk_i ?_)
 refine DW_adoptS 4 50 3 1 8 (by simp [hnt, Tryz.results206, anRX2206]) (fun n => ?_)
 refine DW_loop (X := {p : Nat × List Nat × Nat // p.1 ≤ l.length ∧ (l.drop p.1).foldl hstep (p.2.1, p.2.2) = ([], R) ∧ p.2.1.length ≤ p.1 ∧ p.2.2 ≤ p.1 ∧ pos p.2.1}) (fun p => ⟨[(3, .int .i64 p.1.2.2), (4, .osl 50 1), (7, dNds l), (8, .int .i64 l.length), (9, .int .i64 p.1.1)], [⟨50, 1, .row 3 1 8 (dstk p.1.2.1)⟩]⟩) (fun p => l.length - p.1.1) ⟨(0, [], 0), by simp [hR, pos]⟩ (Sub.lit (by simp [dstk_nil])) ?_
 rintro ⟨⟨k, s, m⟩, hk, hw, hsl, hmb, hpos⟩
 simp only at hk hw hsl hmb hpos ⊢
 clear hR
 by_cases hlt : k < l.length
 ·obtain ⟨x, hx, hx', hxm⟩ := at_lt' hlt
  rw [List.drop_eq_getElem_cons hlt, hx', List.foldl_cons] at hw
  have hk0 := mayN_kids (hmay x hxm)
  obtain ⟨c, hcn⟩ : ∃ c : Nat, x.n = (c : Int) := ⟨x.n.toNat, by omega⟩
  have hsp := hstep_pos (p := (s, m)) x (by have := hkle x hxm; omega) hpos
  have hslen := hstep_len (s, m) x
  unfold hstep at hw hsp hslen
  rw [hcn, Int.toNat_natCast] at hw hsp hslen
  simp only at hw hsp hslen
  obtain ⟨P, hP⟩ : ∃ P, P = (if c = 0 then fin s else c :: s) := ⟨_, rfl⟩
  rw [← hP] at hw hsp hslen
  have hmx : (if (m : Int) < (s.length : Int) + 1 then (s.length : Int) + 1 else (m : Int)) = ((max m (s.length + 1) : Nat) : Int) := by split <;> omega
  obtain ⟨m2, hm2⟩ : ∃ m2, m2 = max m (s.length + 1) := ⟨_, rfl⟩
  rw [← hm2] at hw hmx
  have hm2b : m2 ≤ k + 1 := by omega
  have z1 : (s.length + 1) * 8 ≤ 150000000000000 := by omega
  have z2 : s.length + 1 ≤ 9223372036854775807 := by omega
  have q1 : IntKind.i64.wrap ((s.length : Int) + 1) = (s.length : Int) + 1 := wrap64_in (by omega) (by omega)
  (refine go1 aj0 aj0 (aj10 @dNd.eq_1 hlt hx hx' hcn @dstk_len hmx z1 z2 q1) ?_; intros; refine mk_i ?_)
  refine DW_loop (X := {q : List Nat // popR q = P ∧ q.length ≤ k + 1 ∧ pos q.tail}) (fun q => ⟨[(3, .int .i64 m2), (4, .osl 50 1), (7, dNds l), (8, .int .i64 l.length), (9, .int .i64 k)], [⟨50, 1, .row 3 1 8 (dstk q.1)⟩]⟩) (fun q => q.1.length) ⟨c :: s, by rw [hP, popR_push], by simp; omega, hpos⟩ (Sub.lit (by simp [hmx, dstk_cons, mxR_append])) ?_
  rintro ⟨q, hq1, hq2, hq3⟩
  simp only
  match q, hq1, hq2, hq3 with
  | [], hq1, hq2, hq3 =>
   have hP2 : P = [] := by rw [← hq1]; rfl
   (refine go1 aj0 aj0 (aj1 @dstk_nil) ?_; intros; refine mk_i ?_)
   refine Again.mk ⟨(k + 1, P, m2), show k + 1 ≤ l.length ∧ (l.drop (k + 1)).foldl hstep (P, m2) = ([], R) ∧ P.length ≤ k + 1 ∧ m2 ≤ k + 1 ∧ pos P from ⟨by omega, hw, by omega, hm2b, hsp⟩⟩ (Sub.lit (by simp [hP2, dstk_nil])) (by simp; omega)
   skip
  | d :: q, hq1, hq2, hq3 =>
   have hql : q.length ≤ k := by simpa using hq2
   have hlen : (dstk (d :: q)).length = q.length + 1 := by rw [dstk_len]; rfl
   have htop := dstk_top d q
   have htk := dstk_take d q
   have q2 : IntKind.i64.wrap ((q.length : Int)) = (q.length : Int) := wrap64_in (by omega) (by omega)
   obtain ⟨D, hD⟩ : ∃ D, D = dstk (d :: q) := ⟨_, rfl⟩
   rw [← hD] at hlen htop htk ⊢
   have hltD : q.length < D.length := by omega
   have htop' : D[q.length]'hltD = [.int .i64 (d : Int)] := (List.getElem?_eq_some_iff.1 htop).2
   have hp0 : (0 : Int) < (q.length : Int) + 1 := by omega
   cases d with
   | zero =>
    cases q with
    | nil =>
     have hP2 : P = [] := by rw [← hq1]; rfl
     have q0 : IntKind.i64.wrap 0 = 0 := by decide
     simp only [List.length_nil, Nat.zero_add] at hlen htop htop' htk hltD
     (repeat (first | (refine DW_truncS 4 ?_ (fun _ => ?_); (· (simp [hnt, hlen, htop, htop', hltD, hp0, htk, dstk_nil, q0]; done)); (try simp [hnt, hlen, htop, htop', hltD, hp0, htk, dstk_nil, q0])) | refine DW_seq fun K hK => ?_ | (refine DW_r anRX2206 Tryz.mixed (by kernel_rfl) ?_; simp [anRX2206, hnt, hlen, htop, htop', hltD, hp0, htk, dstk_nil, q0]; try simp (disch := omega) only [wrap64_in]) | refine DW_block ?_ | (refine DW_if ?_ ?_ ?_; (· (simp [hnt, hlen, htop, htop', hltD, hp0, htk, dstk_nil, q0]; done)); (try (rotate_left; (· (intro hc; (try simp [hnt, hlen, htop, htop', hltD, hp0, htk, dstk_nil, q0] at hc); done))))) | (refine DW_ret ?_; simp [Tryz.results206, hnt, hlen, htop, htop', hltD, hp0, htk, dstk_nil, q0]) | ((first | refine DW_exit ?_ | refine DW_skip ?_); simp [hnt, hlen, htop, htop', hltD, hp0, htk, dstk_nil, q0]) | (intro hc; (try simp [hnt, hlen, htop, htop', hltD, hp0, htk, dstk_nil, q0] at hc); (try (exfalso; omega))) | (refine ⟨?_, ?_⟩; · omega) | omega | apply_assumption -exfalso -symm | (exfalso; omega)))
     refine Again.mk ⟨[], hP2.symm, by simp, by simp [pos]⟩ (Sub.lit (by simp [dstk_nil])) (by simp)
     skip
    | cons e q =>
     obtain ⟨he1, he9⟩ := hq3 e (by simp)
     have q5 : IntKind.i64.wrap ((e - 1 : Nat) : Int) = ((e - 1 : Nat) : Int) := wrap64_in (by omega) (by omega)
     have hP2 : popR ((e - 1) :: q) = P := by rw [popR_step he1, ← hq1]; rfl
     have hpq : pos q := fun c hc => hq3 c (by simp [hc])
     simp only [List.length_cons] at hlen htop htop' htk hltD q2 hp0 hql
     have hlen2 : (dstk (e :: q)).length = q.length + 1 := by rw [dstk_len]; rfl
     have htop2 := dstk_top e q
     have hset := dstk_set e (e - 1) q
     obtain ⟨E, hE⟩ : ∃ E, E = dstk (e :: q) := ⟨_, rfl⟩
     rw [← hE] at hlen2 htop2 hset htk
     have hltE : q.length < E.length := by omega
     have htop2' : E[q.length]'hltE = [.int .i64 (e : Int)] := (List.getElem?_eq_some_iff.1 htop2).2
     have q3 : IntKind.i64.wrap ((q.length : Int) + 1) = (q.length : Int) + 1 := wrap64_in (by omega) (by omega)
     have q4 : IntKind.i64.wrap ((q.length : Int)) = (q.length : Int) := wrap64_in (by omega) (by omega)
     have he2 : (e : Int) - 1 = ((e - 1 : Nat) : Int) := by omega
     have hp1 : (0 : Int) < (q.length : Int) + 1 := by omega
     have hp2 : (0 : Int) < (q.length : Int) + 1 + 1 := by omega
     (repeat (first | (refine DW_truncS 4 ?_ (fun _ => ?_); (· (simp [hnt, hlen, htop, htop', hltD, hp0, hp1, hp2, htk, q3, q4, hlen2, htop2, htop2', hltE, he2, hset, q5]; done)); (try simp [hnt, hlen, htop, htop', hltD, hp0, hp1, hp2, htk, q3, q4, hlen2, htop2, htop2', hltE, he2, hset, q5])) | refine DW_seq fun K hK => ?_ | (refine DW_r anRX2206 Tryz.mixed (by kernel_rfl) ?_; simp [anRX2206, hnt, hlen, htop, htop', hltD, hp0, hp1, hp2, htk, q3, q4, hlen2, htop2, htop2', hltE, he2, hset, q5]; try simp (disch := omega) only [wrap64_in]) | refine DW_block ?_ | (refine DW_if ?_ ?_ ?_; (· (simp [hnt, hlen, htop, htop', hltD, hp0, hp1, hp2, htk, q3, q4, hlen2, htop2, htop2', hltE, he2, hset, q5]; done)); (try (rotate_left; (· (intro hc; (try simp [hnt, hlen, htop, htop', hltD, hp0, hp1, hp2, htk, q3, q4, hlen2, htop2, htop2', hltE, he2, hset, q5] at hc); done))))) | (refine DW_ret ?_; simp [Tryz.results206, hnt, hlen, htop, htop', hltD, hp0, hp1, hp2, htk, q3, q4, hlen2, htop2, htop2', hltE, he2, hset, q5]) | ((first | refine DW_exit ?_ | refine DW_skip ?_); simp [hnt, hlen, htop, htop', hltD, hp0, hp1, hp2, htk, q3, q4, hlen2, htop2, htop2', hltE, he2, hset, q5]) | (intro hc; (try simp [hnt, hlen, htop, htop', hltD, hp0, hp1, hp2, htk, q3, q4, hlen2, htop2, htop2', hltE, he2, hset, q5] at hc); (try (exfalso; omega))) | (refine ⟨?_, ?_⟩; · omega) | omega | apply_assumption -exfalso -symm | (exfalso; omega)))
     refine Again.mk ⟨(e - 1) :: q, hP2, by simp; omega, hpq⟩ (Sub.lit (by simp)) (by simp)
     skip
   | succ d =>
    have hP2 : P = (d + 1) :: q := by rw [← hq1]; rfl
    have hd0 : ¬ (d : Int) + 1 = 0 := by omega
    have hd0' : (((d : Int) + 1) == 0) = false := by simpa using hd0
    (refine go1 aj0 aj0 (aj8 hlen htop htop' hltD q2 hp0 hd0 hd0') ?_; intros; refine mk_i ?_)
    refine Again.mk ⟨(k + 1, P, m2), show k + 1 ≤ l.length ∧ (l.drop (k + 1)).foldl hstep (P, m2) = ([], R) ∧ P.length ≤ k + 1 ∧ m2 ≤ k + 1 ∧ pos P from ⟨by omega, hw, by omega, hm2b, hsp⟩⟩ (Sub.lit (by simp [hP2, hD])) (by simp; omega)
    skip
 ·have hkk : k = l.length := by omega
  subst hkk
  rw [List.drop_length] at hw
  simp only [List.foldl_nil, _root_.Prod.mk.injEq] at hw
  obtain ⟨rfl, rfl⟩ := hw
  exact go0 aj0 aj0 aj0
end Go.Proofs.YtdgocjbakjamaaaGreat
end

section
set_option linter.unusedSectionVars false
/- regular expressions as lists: kids -/


set_option linter.unusedSimpArgs false
set_option linter.unusedVariables false
namespace Go.Proofs.YtdgocjbakjamaaaGreat
open Go Go.Dm
variable [DMode]
attribute [local irreducible] DW callP callS
set_option maxRecDepth 100000

def dT (t : RT) : List DVal := [dNds (flat t)]
abbrev dTs (ts : List RT) : DVal := .sl 1 24 (ts.map dT)
@[simp] theorem mx_dT (t : RT) : mxL (dT t) = 0 := by simp [dT, mxL, mx]
@[simp] theorem mx_dTs (l : List RT) : mxR (l.map dT) = 0 := mxR0 _ mx_dT l
theorem flatL_take {ks : List RT} {i : Nat} {t : RT} (h : ks[i]? = some t) : (flatL (ks.take (i + 1))).length = (flatL (ks.take i)).length + (flat t).length := by
 rw [List.take_add_one, h, flatL_app, List.length_append]
 simp [flatL]
theorem flatL_split (ks : List RT) (i : Nat) : flatL ks = flatL (ks.take i) ++ flatL (ks.drop i) := by rw [← flatL_app, List.take_append_drop]

def anRX3155 : Ann := ⟨[], []⟩
set_option maxHeartbeats 4000000 in
theorem kids86_pure (x : Nd) (ks : List RT) (ht : okT (.mk x ks) = true) (hs : (flat (.mk x ks)).length ≤ 1310720) : DPure Tryz.prog 155 [dNds (flat (.mk x ks))] (dTs ks) := by
 refine DPure_introF [60] (fn := Tryz.f155) Tryz.func155 rfl Tryz.call155 (by simp [Tryz.ntmps155]) (by simp [mx]) ?_
 intro hwf B hnt
 simp only [Tryz.ntmps155] at hnt
 have hA := an_is anRX3155 Tryz.mixed (aj2 @anRX3155.eq_1 Tryz.results155)
 clear hwf
 simp only [argS]
 obtain ⟨hm, hn, hok⟩ := okT_mk ht
 have hmay := okT_all ht
 have hkle := kids_leT _ ht
 obtain ⟨l, hl⟩ : ∃ l, l = flat (.mk x ks) := ⟨_, rfl⟩
 have hl2 : l = x :: flatL ks := by rw [hl, flat_mk]
 rw [← hl] at hmay hkle hs ⊢
 have h0 : l[0]? = some x := by rw [hl2]; rfl
 have hlen : l.length = (flatL ks).length + 1 := by rw [hl2]; simp
 have hlt0 : 0 < l.length := by omega
 have h0' : l[0]'hlt0 = x := (List.getElem?_eq_some_iff.1 h0).2
 have hks : ks.length ≤ 1310720 := by have := flatL_len ks; omega
 (refine go1 aj0 aj0 (aj5 @dNd.eq_1 h0 h0' hlt0 hn) ?_; intros; refine mk_i ?_)
 refine DW_adoptS 3 60 42 1 24 (by simp [hnt, Tryz.results155, anRX3155]) (fun n => ?_)
 refine DW_loop (X := {i : Nat // i ≤ ks.length}) (fun i => ⟨[(0, dNds l), (3, .osl 60 1), (4, .int .i64 (1 + (flatL (ks.take i.1)).length : Nat)), (10, .int .i64 ks.length), (11, .int .i64 i.1)], [⟨60, 1, .row 42 1 24 ((ks.take i.1).map dT)⟩]⟩) (fun i => ks.length - i.1) ⟨0, by omega⟩ (Sub.lit (by simp [flatL])) ?_
 rintro ⟨i, hi⟩
 simp only
 by_cases hlt : i < ks.length
 ·obtain ⟨t, htk, ht', _⟩ := at_lt' hlt
  have hsp := flatL_split ks i
  have hdr := List.drop_eq_getElem_cons hlt
  rw [ht'] at hdr
  have hokd : okL (ks.drop i) = true := by
   have := okL_app (ks.take i) (ks.drop i)
   rw [List.take_append_drop, hok] at this
   simpa using (by simpa using this.symm : okL (ks.take i) = true ∧ okL (ks.drop i) = true).2
  rw [hdr] at hokd
  obtain ⟨hokt, hokr⟩ := okL_cons hokd
  obtain ⟨A, hA⟩ : ∃ A, A = 1 + (flatL (ks.take i)).length := ⟨_, rfl⟩
  obtain ⟨r, hr⟩ : ∃ r, r = flatL (ks.drop (i + 1)) := ⟨_, rfl⟩
  have hdrop : l.drop A = flat t ++ r := by
   rw [hl2, hA, Nat.add_comm, List.drop_succ_cons, hsp, List.drop_append_of_le_length (Nat.le_refl _), List.drop_length, List.nil_append, hdr, flatL_cons, hr]
  have hend : endN (l.drop A) 1 = some r := by rw [hdrop, endN_flat t r 0 hokt, endN_zero]
  have hA2 : A + (flat t).length + r.length = l.length := by
   have := congrArg List.length hdrop
   rw [List.length_drop, List.length_append] at this
   have := flat_len t
   omega
  have hnext := flatL_take htk
  rw [← hA]
  clear hsp hdr hokd hokr
  (repeat (first | refine DW_seq fun K hK => ?_ | (refine DW_r anRX3155 Tryz.mixed (by kernel_rfl) ?_; simp [anRX3155, hnt, hlt]; try simp (disch := omega) only [wrap64_in]) | refine DW_block ?_ | (refine DW_if ?_ ?_ ?_; (· (simp [hnt, hlt]; done)); (try (rotate_left; (· (intro hc; (try simp [hnt, hlt] at hc); done))))) | (refine DW_ret ?_; simp [Tryz.results155, hnt, hlt]) | ((first | refine DW_exit ?_ | refine DW_skip ?_); simp [hnt, hlt]) | (intro hc; (try simp [hnt, hlt] at hc); (try (exfalso; omega))) | (refine ⟨?_, ?_⟩; · omega) | omega | apply_assumption -exfalso -symm | (exfalso; omega)))
  refine DW_loop (X := {p : Nat × Nat // p.1 ≤ l.length ∧ endN (l.drop p.1) p.2 = some r ∧ p.2 ≤ 1 + p.1 * 1310720 ∧ A ≤ p.1}) (fun p => ⟨[(0, dNds l), (3, .osl 60 1), (4, .int .i64 p.1.1), (5, .int .i64 A), (6, .int .i64 p.1.2), (10, .int .i64 ks.length), (11, .int .i64 i)], [⟨60, 1, .row 42 1 24 ((ks.take i).map dT)⟩]⟩) (fun p => l.length - p.1.1) ⟨(A, 1), show A ≤ l.length ∧ endN (l.drop A) 1 = some r ∧ 1 ≤ 1 + A * 1310720 ∧ A ≤ A from ⟨by omega, hend, by omega, Nat.le_refl _⟩⟩ (Sub.lit (by simp)) ?_
  rintro ⟨⟨k, w⟩, hk, hw, hwb, hAk⟩
  simp only at hk hw hwb hAk ⊢
  cases w with
  | zero =>
   rw [endN_zero] at hw
   simp only [Option.some.injEq] at hw
   have hkl : k = A + (flat t).length := by
    have := congrArg List.length hw
    rw [List.length_drop] at this
    omega
   have z1 : ((ks.take i).length + 1) * 24 ≤ 150000000000000 := by rw [List.length_take]; omega
   have z2 : (ks.take i).length + 1 ≤ 9223372036854775807 := by rw [List.length_take]; omega
   have hpiece : (l.drop A).take (k - A) = flat t := by rw [hkl, Nat.add_sub_cancel_left, hdrop]; simp
   have hkk : A ≤ l.length := by omega
   (repeat (first | refine DW_seq fun K hK => ?_ | (refine DW_r anRX3155 Tryz.mixed (by kernel_rfl) ?_; simp [anRX3155, hnt, hlt, hk, hAk, hkk]; try simp (disch := omega) only [wrap64_in]) | refine DW_block ?_ | (refine DW_if ?_ ?_ ?_; (· (simp [hnt, hlt, hk, hAk, hkk]; done)); (try (rotate_left; (· (intro hc; (try simp [hnt, hlt, hk, hAk, hkk] at hc); done))))) | (refine DW_ret ?_; simp [Tryz.results155, hnt, hlt, hk, hAk, hkk]) | ((first | refine DW_exit ?_ | refine DW_skip ?_); simp [hnt, hlt, hk, hAk, hkk]) | (intro hc; (try simp [hnt, hlt, hk, hAk, hkk] at hc); (try (exfalso; omega))) | (refine ⟨?_, ?_⟩; · omega) | omega | apply_assumption -exfalso -symm | (exfalso; omega)))
   have hpD : List.take (k - A) (List.drop A (List.map dNd l)) = (flat t).map dNd := by rw [← List.map_drop, ← List.map_take, hpiece]
   have htm : List.take (i + 1) (List.map dT ks) = List.take i (List.map dT ks) ++ [dT t] := by rw [List.take_add_one, List.getElem?_map, htk]; rfl
   have hat : (1 : Int) + ((flatL (List.take (i + 1) ks)).length : Int) = (k : Int) := by omega
   refine Again.mk ⟨i + 1, by omega⟩ (Sub.lit (by simp [hpD, htm, hat, dT, mxR_append])) (by simp; omega)
   skip
  | succ v =>
   have hlt2 : k < l.length := by
    rcases Nat.lt_or_ge k l.length with h | h
    ·exact h
    ·rw [List.drop_of_length_le h, endN_nil] at hw; simp at hw
   obtain ⟨y, hy, hy', hym⟩ := at_lt' hlt2
   rw [List.drop_eq_getElem_cons hlt2, hy', endN_cons, if_pos (hmay y hym)] at hw
   have hk0 := mayN_kids (hmay y hym)
   have hk9 := hkle y hym
   obtain ⟨c, hcn⟩ : ∃ c : Nat, y.n = (c : Int) := ⟨y.n.toNat, by omega⟩
   rw [hcn, Int.toNat_natCast] at hw
   have q1 : IntKind.i64.wrap ((c : Int) - 1) = (c : Int) - 1 := wrap64_in (by omega) (by omega)
   have q2 : IntKind.i64.wrap ((v : Int) + 1 + ((c : Int) - 1)) = (v : Int) + (c : Int) := by rw [wrap64_in (by omega) (by omega)]; omega
   have q3 : (0 : Int) < (v : Int) + 1 := by omega
   (repeat (first | refine DW_seq fun K hK => ?_ | (refine DW_r anRX3155 Tryz.mixed (by kernel_rfl) ?_; simp [anRX3155, hnt, dNd, hlt2, hy, hy', hcn, q1, q2, q3]; try simp (disch := omega) only [wrap64_in]) | refine DW_block ?_ | (refine DW_if ?_ ?_ ?_; (· (simp [hnt, dNd, hlt2, hy, hy', hcn, q1, q2, q3]; done)); (try (rotate_left; (· (intro hc; (try simp [hnt, dNd, hlt2, hy, hy', hcn, q1, q2, q3] at hc); done))))) | (refine DW_ret ?_; simp [Tryz.results155, hnt, dNd, hlt2, hy, hy', hcn, q1, q2, q3]) | ((first | refine DW_exit ?_ | refine DW_skip ?_); simp [hnt, dNd, hlt2, hy, hy', hcn, q1, q2, q3]) | (intro hc; (try simp [hnt, dNd, hlt2, hy, hy', hcn, q1, q2, q3] at hc); (try (exfalso; omega))) | (refine ⟨?_, ?_⟩; · omega) | omega | apply_assumption -exfalso -symm | (exfalso; omega)))
   refine Again.mk ⟨(k + 1, v + c), show k + 1 ≤ l.length ∧ endN (l.drop (k + 1)) (v + c) = some r ∧ v + c ≤ 1 + (k + 1) * 1310720 ∧ A ≤ k + 1 from ⟨by omega, hw, by omega, by omega⟩⟩ (Sub.lit (by simp)) (by simp; omega)
   skip
 ·have hkk : i = ks.length := by omega
  subst hkk
  exact go0 aj0 aj0 (aj1 (@List.take_length.{0}))
end Go.Proofs.YtdgocjbakjamaaaGreat
end

section
set_option linter.unusedSectionVars false
/- regular expressions as lists: texts, bounds, Check, Height -/



set_option linter.unusedSimpArgs false
set_option linter.unusedVariables false
namespace Go.Proofs.YtdgocjbakjamaaaGreat
open Go Go.Dm
variable [DMode]
attribute [local irreducible] DW callP callS
set_option maxRecDepth 100000

def anRX4267 : Ann := ⟨[], []⟩
theorem sign156_pure (k : Int) : DPure Tryz.prog 267 [.int .i64 k] (.str (sgn k)) := by
 refine DPure_introF [] (fn := Tryz.f267) Tryz.func267 rfl Tryz.call267 (by simp [Tryz.ntmps267]) (by simp [mx]) ?_
 intro hwf B hnt
 simp only [Tryz.ntmps267] at hnt
 have hA := an_is anRX4267 Tryz.mixed (aj2 @anRX4267.eq_1 Tryz.results267)
 simp only [argS]
 have z0 : (⟨#[]⟩ : ByteArray).size = 0 := rfl
 have z1 : (⟨#[42]⟩ : ByteArray).size = 1 := rfl
 have z2 : (⟨#[43]⟩ : ByteArray).size = 1 := rfl
 have z3 : (⟨#[63]⟩ : ByteArray).size = 1 := rfl
 have m1 : 1 ≤ maxLen := by decide
 unfold sgn
 by_cases k6 : k = 6
 ·exact go0 aj0 aj0 (aj6 z0 z1 z2 z3 m1 k6)
 by_cases k7 : k = 7
 ·exact go0 aj0 aj0 (aj7 z0 z1 z2 z3 m1 k6 k7)
 by_cases k8 : k = 8
 ·exact go0 aj0 aj0 (aj8 z0 z1 z2 z3 m1 k6 k7 k8)
 exact go0 aj0 aj0 (aj8 z0 z1 z2 z3 m1 k6 k7 k8)

theorem le_sum {l : List Nat} {a : Nat} (h : a ∈ l) : a ≤ l.sum := by
 induction l with
 | nil => simp at h
 | cons b l ih =>
  rw [List.sum_cons]
  rcases List.mem_cons.1 h with rfl | h
  ·omega
  ·have := ih h; omega
theorem txtL_take {pk : Int} {ks : List RT} {i : Nat} {t : RT} (h : ks[i]? = some t) : txtL pk (ks.take (i + 1)) = txtL pk (ks.take i) ++ [parT pk t.x.k (txtT t)] := by
 rw [txtL_map, txtL_map, List.take_add_one, h, List.map_append]; rfl
theorem txtL_len (pk : Int) (ks : List RT) : (txtL pk ks).length = ks.length := by rw [txtL_map, List.length_map]
theorem flat_head (t : RT) : (flat t)[0]? = some t.x := by cases t; rfl
theorem flatL_mem {ks : List RT} {t : RT} (h : t ∈ ks) : (flat t).length ≤ (flatL ks).length := by
 induction ks with
 | nil => simp at h
 | cons u ks ih =>
  rw [flatL_cons, List.length_append]
  rcases List.mem_cons.1 h with rfl | h
  ·omega
  ·have := ih h; omega

def anRX4207 : Ann := ⟨[], [⟨1, [3], [], []⟩]⟩
set_option maxHeartbeats 8000000 in
theorem text110_pure : ∀ (n : Nat) (t : RT), (flat t).length = n → okT t = true → (flat t).length ≤ 1310720 → DPure Tryz.prog 207 [dNds (flat t)] (.str (txtT t)) := by
 intro n
 induction n using Nat.strongRecOn with
 | ind n ih =>
 intro t hn ht hs
 obtain ⟨x, ks⟩ := t
 have kk := kids86_pure x ks ht hs
 obtain ⟨hm, hkn, hok⟩ := okT_mk ht
 have hsz := (txt_sizeT _ ht)
 have h0 := flat_head (.mk x ks)
 have hlt0 : 0 < (flat (.mk x ks)).length := flat_len _
 have hfl : (flat (.mk x ks)).length = (flatL ks).length + 1 := by rw [flat_mk, List.length_cons]
 have hkl := flatL_len ks
 have hch : ∀ u ∈ ks, DPure Tryz.prog 207 [dNds (flat u)] (.str (txtT u)) := fun u hu => by
  have := flatL_mem hu
  exact ih (flat u).length (by omega) u rfl (okL_mem hok u hu) (by omega)
 have hsj := txt_sizeL x.k ks hok
 have hparts : ∀ y ∈ txtL x.k ks, 1 ≤ y.size ∧ y.size ≤ 67108864 := fun y hy => by
  refine ⟨hsj.2 y hy, ?_⟩
  have : y.size + 3 ≤ ((txtL x.k ks).map fun y => y.size + 3).sum := le_sum (List.mem_map.2 ⟨y, hy, rfl⟩)
  omega
 have kj := join_pure (txtL x.k ks) (btw x.k) (btw_size _) (by rw [txtL_len]; omega) hparts
 have kg := sign156_pure x.k
 have hjs := joinB_size (txtL x.k ks) (btw x.k) (btw_size _)
 have hgs := sgn_size x.k
 rw [txtT_mk]
 have hbig : ((txtL x.k ks).map fun y => y.size + 3).sum ≤ 31457280 := by omega
 clear ih hn hsz
 obtain ⟨l, hl⟩ : ∃ l, l = flat (.mk x ks) := ⟨_, rfl⟩
 rw [← hl] at kk h0 hlt0 ⊢
 have h0' : l[0]'hlt0 = x := (List.getElem?_eq_some_iff.1 h0).2
 have z0 : (⟨#[]⟩ : ByteArray).size = 0 := rfl
 have z1 : (⟨#[37]⟩ : ByteArray).size = 1 := rfl
 have z2 : (⟨#[32]⟩ : ByteArray).size = 1 := rfl
 have z3 : (⟨#[32, 124, 32]⟩ : ByteArray).size = 3 := rfl
 have z4 : (⟨#[40]⟩ : ByteArray).size = 1 := rfl
 have z5 : (⟨#[41]⟩ : ByteArray).size = 1 := rfl
 have m1 : 1 ≤ maxLen := by decide
 have m3 : 3 ≤ maxLen := by decide
 refine DPure_introF [] (fn := Tryz.f207) Tryz.func207 rfl Tryz.call207 (by simp [Tryz.ntmps207]) (by simp [mx]) ?_
 intro hwf B hnt
 simp only [Tryz.ntmps207] at hnt
 have hA := an_is anRX4207 Tryz.mixed (aj2 @anRX4207.eq_1 Tryz.results207)
 clear hwf
 simp only [argS]
 obtain ⟨b, hb⟩ : ∃ b, b = btw x.k := ⟨_, rfl⟩
 have hbz : b = btw x.k := hb
 rw [← hb] at kj ⊢
 unfold btw at hb
 rcases mayN_kind hm with k | k | k | k | k | k | k | k
 ·exact go0 (aj1 kk) aj0 (aj8 @dNd.eq_1 h0 h0' hlt0 z0 z1 m1 k)
 ·exact go0 (aj1 kk) aj0 (aj8 @dNd.eq_1 h0 h0' hlt0 z0 z1 m1 k)
 ·exact go0 (aj1 kk) aj0 (aj8 @dNd.eq_1 h0 h0' hlt0 z0 z1 m1 k)
 all_goals
  have k1 : ¬ x.k = 1 := by omega
  have k2 : ¬ (x.k = 2 ∨ x.k = 3) := by omega
  rw [if_neg k1, if_neg k2]
  have hb2 := hb
  simp only [k] at hb2
  try simp at hb2
  (refine go1 (aj1 kk) aj0 (aj11 @dNd.eq_1 h0 h0' hlt0 z0 z1 z2 z3 m1 m3 k) ?_; intros; refine mk_i ?_)
  refine DW_adoptS 5 50 9 1 16 (by simp [hnt, Tryz.results207, anRX4207]) (fun n => ?_)
  refine DW_loop (X := {i : Nat // i ≤ ks.length}) (fun i => ⟨[(3, .ref [.int .i64 x.k, .str x.s, .int .i64 x.n]), (4, .str b), (5, .osl 50 1), (26, dTs ks), (27, .int .i64 ks.length), (28, .int .i64 i.1)], [⟨50, 1, .row 9 1 16 ((txtL x.k (ks.take i.1)).map dStr)⟩]⟩) (fun i => ks.length - i.1) ⟨0, by omega⟩ (Sub.lit (by simp [k, hb2, txtL_nil])) ?_
  clear hb hb2 k kk
  rintro ⟨i, hi⟩
  simp only
  by_cases hlt : i < ks.length
  ·obtain ⟨u, hu, hu', hum⟩ := at_lt' hlt
   have ku := hch u hum
   have g0 := flat_head u
   have gl : 0 < (flat u).length := flat_len u
   have hus := txt_sizeT u (okL_mem hok u hum)
   have hul := flatL_mem hum
   have htk := txtL_take (pk := x.k) hu
   have hpt : parT x.k u.x.k (txtT u) = if parB x.k u.x.k then ⟨#[40]⟩ ++ txtT u ++ ⟨#[41]⟩ else txtT u := rfl
   unfold parB at hpt
   obtain ⟨m, hm2⟩ : ∃ m, m = flat u := ⟨_, rfl⟩
   have hfm : flat u = m := hm2.symm
   rw [← hm2] at ku g0 gl hus hul
   obtain ⟨s, hs2⟩ : ∃ s, s = txtT u := ⟨_, rfl⟩
   rw [← hs2] at ku hus hpt htk
   have g0' : m[0]'gl = u.x := (List.getElem?_eq_some_iff.1 g0).2
   obtain ⟨P, hP⟩ : ∃ P, P = parT x.k u.x.k s := ⟨_, rfl⟩
   rw [← hP] at hpt htk
   have hl1 : (txtL x.k (ks.take i)).length = i := by rw [txtL_len, List.length_take]; omega
   obtain ⟨T, hT⟩ : ∃ T, T = txtL x.k (ks.take i) := ⟨_, rfl⟩
   rw [← hT] at htk hl1 ⊢
   have y1 : (i + 1) * 16 ≤ 150000000000000 := by omega
   have y2 : i + 1 ≤ 9223372036854775807 := by omega
   have y3 : 1 + s.size ≤ maxLen := by unfold maxLen; omega
   have y4 : 1 + s.size + 1 ≤ maxLen := by unfold maxLen; omega
   by_cases p5 : u.x.k = 5
   ·simp [p5] at hpt
    (repeat (first | refine DW_seq fun K hK => ?_ | (refine DW_r anRX4207 Tryz.mixed (by kernel_rfl) ?_; simp [anRX4207, hnt, dT, dNd, hfm, hlt, hu, hu', g0, g0', gl, p5, y1, y2, y3, y4, z4, z5, m1, hl1, ByteArray.size_append]; try simp (disch := omega) only [wrap64_in]) | refine DW_block ?_ | (refine DW_if ?_ ?_ ?_; (· (simp [hnt, dT, dNd, hfm, hlt, hu, hu', g0, g0', gl, p5, y1, y2, y3, y4, z4, z5, m1, hl1, ByteArray.size_append]; done)); (try (rotate_left; (· (intro hc; (try simp [hnt, dT, dNd, hfm, hlt, hu, hu', g0, g0', gl, p5, y1, y2, y3, y4, z4, z5, m1, hl1, ByteArray.size_append] at hc); done))))) | (refine DW_ret ?_; simp [Tryz.results207, hnt, dT, dNd, hfm, hlt, hu, hu', g0, g0', gl, p5, y1, y2, y3, y4, z4, z5, m1, hl1, ByteArray.size_append]) | ((first | refine DW_exit ?_ | refine DW_skip ?_); simp [hnt, dT, dNd, hfm, hlt, hu, hu', g0, g0', gl, p5, y1, y2, y3, y4, z4, z5, m1, hl1, ByteArray.size_append]) | (intro hc; (try simp [hnt, dT, dNd, hfm, hlt, hu, hu', g0, g0', gl, p5, y1, y2, y3, y4, z4, z5, m1, hl1, ByteArray.size_append] at hc); (try (exfalso; omega))) | ((first | refine callP_mk (ku) ?_ | (refine callP_wk (ku) ?_ ?_; (· (simp; done)))); try simp [hnt, dT, dNd, hfm, hlt, hu, hu', g0, g0', gl, p5, y1, y2, y3, y4, z4, z5, m1, hl1, ByteArray.size_append]) | (refine ⟨?_, ?_⟩; · omega) | omega | apply_assumption -exfalso -symm | (exfalso; omega)))
    refine Again.mk ⟨i + 1, by omega⟩ (Sub.lit (by simp [htk, hpt, dStr])) (by simp; omega)
    skip
   ·have p5' : (u.x.k == 5) = false := by simpa using p5
    by_cases p4 : u.x.k = 4
    ·by_cases q5 : x.k = 5
     ·simp [p4, q5] at hpt
      (repeat (first | refine DW_seq fun K hK => ?_ | (refine DW_r anRX4207 Tryz.mixed (by kernel_rfl) ?_; simp [anRX4207, hnt, dT, dNd, hfm, hlt, hu, hu', g0, g0', gl, p4, p5, p5', q5, y1, y2, y3, y4, z4, z5, m1, hl1, ByteArray.size_append]; try simp (disch := omega) only [wrap64_in]) | refine DW_block ?_ | (refine DW_if ?_ ?_ ?_; (· (simp [hnt, dT, dNd, hfm, hlt, hu, hu', g0, g0', gl, p4, p5, p5', q5, y1, y2, y3, y4, z4, z5, m1, hl1, ByteArray.size_append]; done)); (try (rotate_left; (· (intro hc; (try simp [hnt, dT, dNd, hfm, hlt, hu, hu', g0, g0', gl, p4, p5, p5', q5, y1, y2, y3, y4, z4, z5, m1, hl1, ByteArray.size_append] at hc); done))))) | (refine DW_ret ?_; simp [Tryz.results207, hnt, dT, dNd, hfm, hlt, hu, hu', g0, g0', gl, p4, p5, p5', q5, y1, y2, y3, y4, z4, z5, m1, hl1, ByteArray.size_append]) | ((first | refine DW_exit ?_ | refine DW_skip ?_); simp [hnt, dT, dNd, hfm, hlt, hu, hu', g0, g0', gl, p4, p5, p5', q5, y1, y2, y3, y4, z4, z5, m1, hl1, ByteArray.size_append]) | (intro hc; (try simp [hnt, dT, dNd, hfm, hlt, hu, hu', g0, g0', gl, p4, p5, p5', q5, y1, y2, y3, y4, z4, z5, m1, hl1, ByteArray.size_append] at hc); (try (exfalso; omega))) | ((first | refine callP_mk (ku) ?_ | (refine callP_wk (ku) ?_ ?_; (· (simp; done)))); try simp [hnt, dT, dNd, hfm, hlt, hu, hu', g0, g0', gl, p4, p5, p5', q5, y1, y2, y3, y4, z4, z5, m1, hl1, ByteArray.size_append]) | (refine ⟨?_, ?_⟩; · omega) | omega | apply_assumption -exfalso -symm | (exfalso; omega)))
      have htk5 := htk
      rw [q5] at htk5
      refine Again.mk ⟨i + 1, by omega⟩ (Sub.lit (by simp [htk5, hpt, dStr, q5])) (by simp; omega)
      skip
     ·have q5' : (x.k == 5) = false := by simpa using q5
      simp [p4, q5] at hpt
      (repeat (first | refine DW_seq fun K hK => ?_ | (refine DW_r anRX4207 Tryz.mixed (by kernel_rfl) ?_; simp [anRX4207, hnt, dT, dNd, hfm, hlt, hu, hu', g0, g0', gl, p4, p5, p5', q5, q5', y1, y2, y3, y4, z4, z5, m1, hl1, ByteArray.size_append]; try simp (disch := omega) only [wrap64_in]) | refine DW_block ?_ | (refine DW_if ?_ ?_ ?_; (· (simp [hnt, dT, dNd, hfm, hlt, hu, hu', g0, g0', gl, p4, p5, p5', q5, q5', y1, y2, y3, y4, z4, z5, m1, hl1, ByteArray.size_append]; done)); (try (rotate_left; (· (intro hc; (try simp [hnt, dT, dNd, hfm, hlt, hu, hu', g0, g0', gl, p4, p5, p5', q5, q5', y1, y2, y3, y4, z4, z5, m1, hl1, ByteArray.size_append] at hc); done))))) | (refine DW_ret ?_; simp [Tryz.results207, hnt, dT, dNd, hfm, hlt, hu, hu', g0, g0', gl, p4, p5, p5', q5, q5', y1, y2, y3, y4, z4, z5, m1, hl1, ByteArray.size_append]) | ((first | refine DW_exit ?_ | refine DW_skip ?_); simp [hnt, dT, dNd, hfm, hlt, hu, hu', g0, g0', gl, p4, p5, p5', q5, q5', y1, y2, y3, y4, z4, z5, m1, hl1, ByteArray.size_append]) | (intro hc; (try simp [hnt, dT, dNd, hfm, hlt, hu, hu', g0, g0', gl, p4, p5, p5', q5, q5', y1, y2, y3, y4, z4, z5, m1, hl1, ByteArray.size_append] at hc); (try (exfalso; omega))) | ((first | refine callP_mk (ku) ?_ | (refine callP_wk (ku) ?_ ?_; (· (simp; done)))); try simp [hnt, dT, dNd, hfm, hlt, hu, hu', g0, g0', gl, p4, p5, p5', q5, q5', y1, y2, y3, y4, z4, z5, m1, hl1, ByteArray.size_append]) | (refine ⟨?_, ?_⟩; · omega) | omega | apply_assumption -exfalso -symm | (exfalso; omega)))
      refine Again.mk ⟨i + 1, by omega⟩ (Sub.lit (by simp [htk, hpt, dStr])) (by simp; omega)
      skip
    ·have p4' : (u.x.k == 4) = false := by simpa using p4
     simp [p4, p5] at hpt
     (repeat (first | refine DW_seq fun K hK => ?_ | (refine DW_r anRX4207 Tryz.mixed (by kernel_rfl) ?_; simp [anRX4207, hnt, dT, dNd, hfm, hlt, hu, hu', g0, g0', gl, p4, p4', p5, p5', y1, y2, y3, y4, z4, z5, m1, hl1, ByteArray.size_append]; try simp (disch := omega) only [wrap64_in]) | refine DW_block ?_ | (refine DW_if ?_ ?_ ?_; (· (simp [hnt, dT, dNd, hfm, hlt, hu, hu', g0, g0', gl, p4, p4', p5, p5', y1, y2, y3, y4, z4, z5, m1, hl1, ByteArray.size_append]; done)); (try (rotate_left; (· (intro hc; (try simp [hnt, dT, dNd, hfm, hlt, hu, hu', g0, g0', gl, p4, p4', p5, p5', y1, y2, y3, y4, z4, z5, m1, hl1, ByteArray.size_append] at hc); done))))) | (refine DW_ret ?_; simp [Tryz.results207, hnt, dT, dNd, hfm, hlt, hu, hu', g0, g0', gl, p4, p4', p5, p5', y1, y2, y3, y4, z4, z5, m1, hl1, ByteArray.size_append]) | ((first | refine DW_exit ?_ | refine DW_skip ?_); simp [hnt, dT, dNd, hfm, hlt, hu, hu', g0, g0', gl, p4, p4', p5, p5', y1, y2, y3, y4, z4, z5, m1, hl1, ByteArray.size_append]) | (intro hc; (try simp [hnt, dT, dNd, hfm, hlt, hu, hu', g0, g0', gl, p4, p4', p5, p5', y1, y2, y3, y4, z4, z5, m1, hl1, ByteArray.size_append] at hc); (try (exfalso; omega))) | ((first | refine callP_mk (ku) ?_ | (refine callP_wk (ku) ?_ ?_; (· (simp; done)))); try simp [hnt, dT, dNd, hfm, hlt, hu, hu', g0, g0', gl, p4, p4', p5, p5', y1, y2, y3, y4, z4, z5, m1, hl1, ByteArray.size_append]) | (refine ⟨?_, ?_⟩; · omega) | omega | apply_assumption -exfalso -symm | (exfalso; omega)))
     refine Again.mk ⟨i + 1, by omega⟩ (Sub.lit (by simp [htk, hpt, dStr])) (by simp; omega)
     skip
  ·have hkk : i = ks.length := by omega
   subst hkk
   rw [List.take_length]
   obtain ⟨J, hJ⟩ : ∃ J, J = joinB (txtL x.k ks) b := ⟨_, rfl⟩
   have hJs : J.size ≤ 31457280 := by rw [hJ]; exact Nat.le_trans (joinB_size _ _ (by rw [hbz]; exact btw_size _)) hbig
   rw [← hJ] at kj ⊢
   have y5 : J.size + (sgn x.k).size ≤ maxLen := by unfold maxLen; omega
   refine DW_sub (Sub.freezeL [50] _) ?_
   simp [hnt, Tryz.results207, anRX4207]
   exact go0 (aj2 kj kg) aj0 (aj1 y5)

def boundI (t : RT) : Int := if 16 < htT t then 171 else if 2048 < (txtT t).size then 174 else 0
def anRX4134 : Ann := ⟨[], []⟩
theorem bounded57_pure (t : RT) (ht : okT t = true) (hs : (flat t).length ≤ 1310720) : DPure Tryz.prog 134 [dNds (flat t)] (.int .i64 (boundI t)) := by
 refine DPure_introF [] (fn := Tryz.f134) Tryz.func134 rfl Tryz.call134 (by simp [Tryz.ntmps134]) (by simp [mx]) ?_
 intro hwf B hnt
 simp only [Tryz.ntmps134] at hnt
 have hA := an_is anRX4134 Tryz.mixed (aj2 @anRX4134.eq_1 Tryz.results134)
 clear hwf
 simp only [argS]
 have k1 := height109_pure t ht hs
 have k2 := text110_pure _ t rfl ht hs
 unfold boundI
 obtain ⟨T, hT⟩ : ∃ T, T = txtT t := ⟨_, rfl⟩
 rw [← hT] at k2 ⊢
 by_cases c1 : 16 < htT t
 ·have d1 : (16 : Int) < (htT t : Int) := by omega
  exact go0 (aj2 k1 k2) aj0 (aj2 c1 d1)
 ·have d1 : ¬ (16 : Int) < (htT t : Int) := by omega
  by_cases c2 : 2048 < T.size
  ·have d2 : (2048 : Int) < (T.size : Int) := by omega
   exact go0 (aj2 k1 k2) aj0 (aj4 c1 d1 c2 d2)
  ·have d2 : ¬ (2048 : Int) < (T.size : Int) := by omega
   exact go0 (aj2 k1 k2) aj0 (aj4 c1 d1 c2 d2)
def anRX467 : Ann := ⟨[], []⟩
theorem check23_tree (t : RT) (ht : okT t = true) (h : (flat t).length ≤ 2048) : DPure Tryz.prog 67 [dNds (flat t)] (.int .i64 (boundI t)) := by
 refine DPure_introF [] (fn := Tryz.f67) Tryz.func67 rfl Tryz.call67 (by simp [Tryz.ntmps67]) (by simp [mx]) ?_
 intro hwf B hnt
 simp only [Tryz.ntmps67] at hnt
 have hA := an_is anRX467 Tryz.mixed (aj2 @anRX467.eq_1 Tryz.results67)
 clear hwf
 simp only [argS]
 have k1 := whole56_pure (flat t) (by omega)
 rw [tree_whole ht] at k1
 have k2 := bounded57_pure t ht (by omega)
 have d1 : ¬ (2048 : Int) < ((flat t).length : Int) := by omega
 have d2 : ¬ 2048 < (flat t).length := by omega
 exact go0 (aj2 k1 k2) aj0 (aj2 d1 d2)
theorem check23_long (l : List Nd) (h : 2048 < l.length) : DPure Tryz.prog 67 [dNds l] (.int .i64 3) := by
 refine DPure_introF [] (fn := Tryz.f67) Tryz.func67 rfl Tryz.call67 (by simp [Tryz.ntmps67]) (by simp [mx]) ?_
 intro hwf B hnt
 simp only [Tryz.ntmps67] at hnt
 have hA := an_is anRX467 Tryz.mixed (aj2 @anRX467.eq_1 Tryz.results67)
 clear hwf
 simp only [argS]
 have d1 : (2048 : Int) < (l.length : Int) := by omega
 exact go0 aj0 aj0 (aj2 d1 h)
theorem check23_bad (l : List Nd) (h : l.length ≤ 2048) (hw : wholeB l = false) : DPure Tryz.prog 67 [dNds l] (.int .i64 170) := by
 refine DPure_introF [] (fn := Tryz.f67) Tryz.func67 rfl Tryz.call67 (by simp [Tryz.ntmps67]) (by simp [mx]) ?_
 intro hwf B hnt
 simp only [Tryz.ntmps67] at hnt
 have hA := an_is anRX467 Tryz.mixed (aj2 @anRX467.eq_1 Tryz.results67)
 clear hwf
 simp only [argS]
 have k1 := whole56_pure l (by omega)
 rw [hw] at k1
 have d1 : ¬ (2048 : Int) < (l.length : Int) := by omega
 have d2 : ¬ 2048 < l.length := by omega
 exact go0 (aj1 k1) aj0 (aj2 d1 d2)
def anRX4192 : Ann := ⟨[], []⟩
theorem height94_tree (t : RT) (ht : okT t = true) (hs : (flat t).length ≤ 1310720) : DPure Tryz.prog 192 [dNds (flat t)] (.int .i64 (htT t)) := by
 refine DPure_introF [] (fn := Tryz.f192) Tryz.func192 rfl Tryz.call192 (by simp [Tryz.ntmps192]) (by simp [mx]) ?_
 intro hwf B hnt
 simp only [Tryz.ntmps192] at hnt
 have hA := an_is anRX4192 Tryz.mixed (aj2 @anRX4192.eq_1 Tryz.results192)
 clear hwf
 simp only [argS]
 have k1 := whole56_pure (flat t) hs
 rw [tree_whole ht] at k1
 have k2 := height109_pure t ht hs
 exact go0 (aj2 k1 k2) aj0 aj0
theorem height94_bad (l : List Nd) (hs : l.length ≤ 1310720) (hw : wholeB l = false) : DPure Tryz.prog 192 [dNds l] (.int .i64 0) := by
 refine DPure_introF [] (fn := Tryz.f192) Tryz.func192 rfl Tryz.call192 (by simp [Tryz.ntmps192]) (by simp [mx]) ?_
 intro hwf B hnt
 simp only [Tryz.ntmps192] at hnt
 have hA := an_is anRX4192 Tryz.mixed (aj2 @anRX4192.eq_1 Tryz.results192)
 clear hwf
 simp only [argS]
 have k1 := whole56_pure l hs
 rw [hw] at k1
 exact go0 (aj1 k1) aj0 aj0
end Go.Proofs.YtdgocjbakjamaaaGreat
end

section
set_option linter.unusedSectionVars false
/- regular expressions by definition: Kids, heights, texts, the empty word, places -/



set_option linter.unusedSimpArgs false
set_option linter.unusedVariables false
namespace Go.Proofs.YtdgocjbakjamaaaGreat
open Go Go.Dm
variable [DMode]
attribute [local irreducible] DW callP callS
set_option maxRecDepth 100000

structure At (l : List Nd) (p : Nat) (t : RT) : Prop where
 ok : okT t = true
 le : p ≤ l.length
 eq : ∃ r, l.drop p = flat t ++ r
def kidP (p : Nat) (ks : List RT) (i : Nat) : Nat := p + 1 + (flatL (ks.take i)).length
def kidD (n : Nat) : List DVal := [.int .i64 (n : Int)]
def kidsD (p : Nat) (ks : List RT) : DVal := .sl 1 8 ((List.range ks.length).map fun i => kidD (kidP p ks i))
@[simp] theorem mx_kidD (n : Nat) : mxL (kidD n) = 0 := by simp [kidD, mxL, mx]
@[simp] theorem mx_kids (p : Nat) (ks : List RT) (n : Nat) : mxR ((List.range n).map fun i => kidD (kidP p ks i)) = 0 := mxR0 (fun i => kidD (kidP p ks i)) (fun i => mx_kidD _) _
theorem At.top {t : RT} (h : okT t = true) : At (flat t) 0 t := ⟨h, by omega, [], by simp⟩
theorem At.kid {l : List Nd} {p : Nat} {x : Nd} {ks : List RT} (h : At l p (.mk x ks)) {i : Nat} {u : RT} (hu : ks[i]? = some u) : At l (kidP p ks i) u ∧ endN (l.drop (kidP p ks i)) 1 = some (l.drop (kidP p ks (i + 1))) ∧ kidP p ks (i + 1) ≤ l.length := by
 obtain ⟨hok, hle, r, hr⟩ := h
 obtain ⟨_, _, h3⟩ := okT_mk hok
 obtain ⟨hi, rfl⟩ := List.getElem?_eq_some_iff.1 hu
 have hlen : (l.drop p).length = 1 + (flatL ks).length + r.length := by rw [hr, flat_mk, List.length_append, List.length_cons]; omega
 rw [List.length_drop] at hlen
 have hsp := flatL_split ks i
 have hdr := List.drop_eq_getElem_cons hi
 have hnx := flatL_take (ks := ks) hu
 have hfl : (flatL ks).length = (flatL (ks.take i)).length + ((flat ks[i]).length + (flatL (ks.drop (i + 1))).length) := by rw [hsp, List.length_append, hdr, flatL_cons, List.length_append]
 have hdrop : l.drop (kidP p ks i) = flat ks[i] ++ (flatL (ks.drop (i + 1)) ++ r) := by
  unfold kidP
  rw [Nat.add_assoc, ← List.drop_drop, hr, flat_mk, Nat.add_comm 1, List.cons_append, List.drop_succ_cons, hsp, List.append_assoc, List.drop_append_of_le_length (Nat.le_refl _), List.drop_length, List.nil_append, hdr, flatL_cons, List.append_assoc]
 have hoku : okT ks[i] = true := okL_mem h3 _ (List.getElem_mem hi)
 refine ⟨⟨hoku, by unfold kidP; omega, _, hdrop⟩, ?_, by unfold kidP; omega⟩
 rw [hdrop, endN_flat _ _ 0 hoku, endN_zero]
 congr 1
 have h5 : kidP p ks (i + 1) = kidP p ks i + (flat ks[i]).length := by unfold kidP; omega
 have h6 : l.drop (kidP p ks i + (flat ks[i]).length) = (l.drop (kidP p ks i)).drop (flat ks[i]).length := by rw [List.drop_drop]
 rw [h5, h6, hdrop, List.drop_append_of_le_length (Nat.le_refl _), List.drop_length, List.nil_append]
theorem At.head {l : List Nd} {p : Nat} {t : RT} (h : At l p t) : l[p]? = some t.x ∧ p < l.length ∧ p + (flat t).length ≤ l.length := by
 obtain ⟨hok, hle, r, hr⟩ := h
 have h1 := flat_len t
 have h2 := congrArg List.length hr
 rw [List.length_drop, List.length_append] at h2
 refine ⟨?_, by omega, by omega⟩
 have h3 : (l.drop p)[0]? = some t.x := by rw [hr, List.getElem?_append_left (by omega)]; exact flat_head t
 rw [List.getElem?_drop] at h3
 simpa using h3

def anRY2151 : Ann := ⟨[], []⟩
set_option maxHeartbeats 4000000 in
theorem kids81_pure (l : List Nd) (p : Nat) (x : Nd) (ks : List RT) (h : At l p (.mk x ks)) (hs : l.length ≤ 1310720) : DPure Tryz.prog 151 [dNds l, .int .i64 p] (kidsD p ks) := by
 refine DPure_introF [50] (fn := Tryz.f151) Tryz.func151 rfl Tryz.call151 (by simp [Tryz.ntmps151]) (by simp [mx, kidsD]) ?_
 intro hwf B hnt
 simp only [Tryz.ntmps151] at hnt
 have hA := an_is anRY2151 Tryz.mixed (aj2 @anRY2151.eq_1 Tryz.results151)
 clear hwf
 simp only [argS]
 obtain ⟨hm, hn, hok⟩ := okT_mk h.ok
 obtain ⟨g0, gl, ge⟩ := h.head
 have g0' : l[p]'gl = x := (List.getElem?_eq_some_iff.1 g0).2
 have hkl : ks.length ≤ 1310720 := by have := flatL_len ks; rw [flat_mk, List.length_cons] at ge; omega
 simp only [RT.x] at g0
 unfold kidsD
 (refine go1 aj0 aj0 aj0 ?_; intros; refine mk_i ?_)
 refine DW_adoptS 5 50 3 1 8 (by simp [hnt, Tryz.results151, anRY2151]) (fun n => ?_)
 refine DW_loop (X := {i : Nat // i ≤ ks.length}) (fun i => ⟨[(0, dNds l), (1, .int .i64 p), (5, .osl 50 1), (6, .int .i64 (kidP p ks i.1)), (7, .int .i64 i.1)], [⟨50, 1, .row 3 1 8 ((List.range i.1).map fun i => kidD (kidP p ks i))⟩]⟩) (fun i => ks.length - i.1) ⟨0, by omega⟩ (Sub.lit (by simp [kidP, flatL])) ?_
 rintro ⟨i, hi⟩
 simp only
 by_cases hlt : i < ks.length
 ·obtain ⟨u, hu, hu', _⟩ := at_lt' hlt
  obtain ⟨a1, a2, a3⟩ := h.kid hu
  have e1 := end144_pure l (kidP p ks i) hs a1.le
  unfold endI at e1
  rw [a2] at e1
  simp only [List.length_drop] at e1
  have hq : (l.length : Int) - ((l.length - kidP p ks (i + 1) : Nat) : Int) = (kidP p ks (i + 1) : Int) := by omega
  rw [hq] at e1
  have hr : (List.range (i + 1)).map (fun i => kidD (kidP p ks i)) = (List.range i).map (fun i => kidD (kidP p ks i)) ++ [kidD (kidP p ks i)] := by rw [List.range_succ, List.map_append]; rfl
  have z1 : (i + 1) * 8 ≤ 150000000000000 := by omega
  have z2 : i + 1 ≤ 9223372036854775807 := by omega
  obtain ⟨q, hqq⟩ : ∃ q, q = kidP p ks i := ⟨_, rfl⟩
  obtain ⟨q', hqq'⟩ : ∃ q', q' = kidP p ks (i + 1) := ⟨_, rfl⟩
  rw [← hqq, ← hqq'] at e1
  rw [← hqq] at hr ⊢
  have hDm := mx_kids p ks i
  have hDl : ((List.range i).map fun i => kidD (kidP p ks i)).length = i := by simp
  obtain ⟨D, hD⟩ : ∃ D, D = (List.range i).map fun i => kidD (kidP p ks i) := ⟨_, rfl⟩
  rw [← hD] at hr hDm hDl ⊢
  have hr2 : (List.range (i + 1)).map (fun i => kidD (kidP p ks i)) = D ++ [[.int .i64 (q : Int)]] := hr
  clear hD hr
  (refine go1 (aj1 e1) aj0 (aj9 @dNd.eq_1 g0 g0' gl hn hlt z1 z2 hDl) ?_; intros; refine mk_i ?_)
  refine Again.mk ⟨i + 1, by omega⟩ (Sub.lit (by simp only [← hqq', hr2]; simp [hDm, mxR_append])) (by simp; omega)
  skip
 ·have hkk : i = ks.length := by omega
  subst hkk
  exact go0 aj0 aj0 (aj5 @dNd.eq_1 g0 g0' gl hn)
end Go.Proofs.YtdgocjbakjamaaaGreat
end

section
set_option linter.unusedSectionVars false
/- regular expressions by definition: heights, the empty word, places -/




set_option linter.unusedSimpArgs false
set_option linter.unusedVariables false
namespace Go.Proofs.YtdgocjbakjamaaaGreat
open Go Go.Dm
variable [DMode]
attribute [local irreducible] DW callP callS
set_option maxRecDepth 100000

theorem htL_snoc : ∀ (a : List RT) (u : RT), htL (a ++ [u]) = max (htL a) (htT u)
 | [], u => by rw [List.nil_append, htL_cons, htL_nil]; omega
 | t :: a, u => by rw [List.cons_append, htL_cons, htL_snoc a u, htL_cons]; omega
theorem htL_take {ks : List RT} {i : Nat} {u : RT} (h : ks[i]? = some u) : htL (ks.take (i + 1)) = max (htL (ks.take i)) (htT u) := by
 rw [List.take_add_one, h]; exact htL_snoc _ _
mutual
theorem ht_leT : ∀ t : RT, htT t ≤ (flat t).length
 | .mk x ks => by rw [htT_mk, flat_mk, List.length_cons]; have := ht_leL ks; omega
theorem ht_leL : ∀ ts : List RT, htL ts ≤ (flatL ts).length
 | [] => by rw [htL_nil]; omega
 | t :: ts => by rw [htL_cons, flatL_cons, List.length_append]; have := ht_leT t; have := ht_leL ts; omega
end
theorem flatL_take_le (ks : List RT) (i : Nat) : (flatL (ks.take i)).length ≤ (flatL ks).length := by
 have := congrArg List.length (flatL_split ks i)
 rw [List.length_append] at this
 omega
theorem kids_row {p : Nat} {ks : List RT} {i : Nat} (h : i < ks.length) : ((List.range ks.length).map fun i => kidD (kidP p ks i))[i]? = some [.int .i64 (kidP p ks i : Int)] := by
 rw [List.getElem?_map, List.getElem?_range h]; rfl

def anRY3238 : Ann := ⟨[], []⟩
set_option maxHeartbeats 4000000 in
theorem height169_pure : ∀ (n : Nat) (t : RT) (l : List Nd) (p : Nat), (flat t).length = n → At l p t → l.length ≤ 1310720 → DPure Tryz.prog 238 [dNds l, .int .i64 p] (.int .i64 (htT t)) := by
 intro n
 induction n using Nat.strongRecOn with
 | ind n ih =>
 intro t l p hn ht hs
 obtain ⟨x, ks⟩ := t
 have kk := kids81_pure l p x ks ht hs
 obtain ⟨g0, gl, ge⟩ := ht.head
 have hfl : (flat (.mk x ks)).length = (flatL ks).length + 1 := by rw [flat_mk, List.length_cons]
 have hkl := flatL_len ks
 have hk9 : ks.length ≤ 1310720 := by omega
 have hch : ∀ i u, ks[i]? = some u → DPure Tryz.prog 238 [dNds l, .int .i64 (kidP p ks i)] (.int .i64 (htT u)) := fun i u hu => by
  have hm := flatL_mem (List.mem_of_getElem? hu)
  exact ih (flat u).length (by omega) u l _ rfl (ht.kid hu).1 hs
 have hrow : ∀ i, i < ks.length → _ := fun i h => kids_row (p := p) (ks := ks) (i := i) h
 have hht : htL ks ≤ 1310720 := by have := ht_leL ks; omega
 rw [htT_mk]
 unfold kidsD at kk
 obtain ⟨D, hD⟩ : ∃ D, D = (List.range ks.length).map fun i => kidD (kidP p ks i) := ⟨_, rfl⟩
 have hDl : D.length = ks.length := by rw [hD]; simp
 have hDm : mxR D = 0 := by rw [hD]; exact mx_kids p ks _
 rw [← hD] at kk hrow
 clear hD ih ht g0 gl ge hn
 refine DPure_introF [] (fn := Tryz.f238) Tryz.func238 rfl Tryz.call238 (by simp [Tryz.ntmps238]) (by simp [mx]) ?_
 intro hwf B hnt
 simp only [Tryz.ntmps238] at hnt
 have hA := an_is anRY3238 Tryz.mixed (aj2 @anRY3238.eq_1 Tryz.results238)
 clear hwf
 simp only [argS]
 (refine go1 (aj1 kk) aj0 aj0 ?_; intros; refine mk_i ?_)
 refine DW_loop (X := {i : Nat // i ≤ ks.length}) (fun i => ⟨[(0, dNds l), (5, .int .i64 (htL (ks.take i.1))), (6, .sl 1 8 D), (7, .int .i64 i.1)], []⟩) (fun i => ks.length - i.1) ⟨0, by omega⟩ (Sub.lit (by simp [htL_nil, hDm])) ?_
 rintro ⟨i, hi⟩
 simp only
 by_cases hlt : i < ks.length
 ·obtain ⟨u, hu, hu', _⟩ := at_lt' hlt
  have e1 := hch i u hu
  have hr := hrow i hlt
  have hltD : i < D.length := by omega
  have hwi : IntKind.i64.wrap ((i : Int) + 1) = (i : Int) + 1 := wrap64_in (by omega) (by omega)
  have hr' : D[i]'hltD = [.int .i64 (kidP p ks i : Int)] := (List.getElem?_eq_some_iff.1 hr).2
  have htk := htL_take hu
  obtain ⟨a, ha⟩ : ∃ a, a = htL (ks.take i) := ⟨_, rfl⟩
  obtain ⟨c, hcc⟩ : ∃ c, c = htT u := ⟨_, rfl⟩
  rw [← ha, ← hcc] at htk
  rw [← hcc] at e1
  rw [← ha]
  obtain ⟨q, hq⟩ : ∃ q, q = kidP p ks i := ⟨_, rfl⟩
  rw [← hq] at e1 hr hr'
  by_cases hgt : a < c
  ·have hgt' : (a : Int) < (c : Int) := by omega
   have hmx : ((htL (ks.take (i + 1)) : Nat) : Int) = (c : Int) := by omega
   (refine go1 (aj1 e1) aj0 (aj8 hDl hltD hwi hr hr' hgt hgt' hlt) ?_; intros; refine mk_i ?_)
   refine Again.mk ⟨i + 1, by omega⟩ (Sub.lit (by simp only [hmx]; simp [hDm])) (by simp; omega)
   skip
  ·have hgt' : ¬ (a : Int) < (c : Int) := by omega
   have hmx : ((htL (ks.take (i + 1)) : Nat) : Int) = (a : Int) := by omega
   (refine go1 (aj1 e1) aj0 (aj8 hDl hltD hwi hr hr' hgt hgt' hlt) ?_; intros; refine mk_i ?_)
   refine Again.mk ⟨i + 1, by omega⟩ (Sub.lit (by simp only [hmx]; simp [hDm])) (by simp; omega)
   skip
 ·have hkk : i = ks.length := by omega
  subst hkk
  rw [List.take_length]
  have q1 : IntKind.i64.wrap ((htL ks : Int) + 1) = (htL ks : Int) + 1 := wrap64_in (by omega) (by omega)
  exact go0 aj0 aj0 (aj2 hDl q1)

end Go.Proofs.YtdgocjbakjamaaaGreat
end

