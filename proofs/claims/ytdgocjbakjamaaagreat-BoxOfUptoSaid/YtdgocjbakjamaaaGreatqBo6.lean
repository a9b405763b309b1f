/- Parts of a proof, laid together: WJ3, RT, RX4, RY2, RG, EnW, EnX, RX5, RY3, RB1, RB2, RB3. -/
import Derived.RangeFuncNested
import Derived.Test.YtdgocjbakjamaaaGreatqBo4
import Derived.Test.YtdgocjbakjamaaaGreatqBo5
section
set_option linter.unusedSectionVars false
/- strings.Join -/


set_option linter.unusedSimpArgs false
set_option linter.unusedVariables false
namespace Go.Proofs.YtdgocjbakjamaaaGreat
open Go Go.Dm Go.RowKit Go.Proofs
variable [DMode]
attribute [local irreducible] DW callP callS
set_option maxRecDepth 100000

def joinF (sep : ByteArray) (T y : ByteArray) : ByteArray := T ++ sep ++ y
def joinB : List ByteArray → ByteArray → ByteArray
 | [], _ => ⟨#[]⟩
 | x :: r, sep => r.foldl (joinF sep) x
theorem joinF_size (sep T y : ByteArray) : (joinF sep T y).size = T.size + sep.size + y.size := by simp [joinF, ByteArray.size_append]
theorem joinK_size (sep : ByteArray) (hs : sep.size ≤ 3) : ∀ (r : List ByteArray) (x : ByteArray), (∀ y ∈ r, y.size ≤ 67108864) → (r.foldl (joinF sep) x).size ≤ x.size + 67108867 * r.length ∧ x.size ≤ (r.foldl (joinF sep) x).size
 | [], x, _ => by simp
 | y :: r, x, h => by
  obtain ⟨h1, h2⟩ := joinK_size sep hs r (joinF sep x y) fun z hz => h z (List.mem_cons_of_mem _ hz)
  have h3 := h y List.mem_cons_self
  rw [joinF_size] at h1 h2
  rw [List.foldl_cons, List.length_cons]
  omega
theorem foldl_snoc {β α : Type} {f : β → α → β} {b : β} {l : List α} {k : Nat} {x : α} (hx : l[k]? = some x) : (l.take (k + 1)).foldl f b = f ((l.take k).foldl f b) x := by
 obtain ⟨h, rfl⟩ := List.getElem?_eq_some_iff.1 hx
 rw [List.take_succ_eq_append_getElem h, List.foldl_append]
 rfl
theorem str_app0 (x : ByteArray) : (⟨#[]⟩ : ByteArray) ++ x = x := by
 apply bytes_ext
 simp [ByteArray.data_append]
theorem bytesD_0 : bytesD ⟨#[]⟩ = [] := rfl

def anWJ3266 : Ann := ⟨[57, 61, 70, 72, 74], [⟨18, [8], [], []⟩]⟩
set_option maxHeartbeats 8000000 in
theorem join_pure (xs : List ByteArray) (sep : ByteArray) (hs : sep.size ≤ 3) (hl : xs.length ≤ 1310720) (hx : ∀ x ∈ xs, 1 ≤ x.size ∧ x.size ≤ 67108864) : DPure Tryz.prog 266 [.sl 1 16 (xs.map dStr), .str sep] (.str (joinB xs sep)) := by
 refine DPure_introF [] (fn := Tryz.f266) Tryz.func266 rfl Tryz.call266 (by simp [Tryz.ntmps266]) (by simp [mx]) ?_
 intro hwf B hnt
 simp only [Tryz.ntmps266] at hnt
 have hA := an_is anWJ3266 Tryz.mixed (aj2 @anWJ3266.eq_1 Tryz.results266)
 clear hwf
 simp only [argS]
 have size_e : (⟨#[]⟩ : ByteArray).size = 0 := rfl
 match xs, hl, hx with
 | [], hl, hx =>
  exact go0 aj0 aj0 (aj3 @size_e @joinB.eq_1 @joinB.eq_2)
 | [x], hl, hx =>
  exact go0 aj0 aj0 (aj4 @size_e @joinB.eq_1 @joinB.eq_2 @dStr.eq_1)
 | x0 :: x1 :: r, hl, hx =>
  obtain ⟨xs, hxs⟩ : ∃ xs, xs = x0 :: x1 :: r := ⟨_, rfl⟩
  have hJ : joinB (x0 :: x1 :: r) sep = (xs.drop 1).foldl (joinF sep) x0 := by rw [hxs]; rfl
  have h0 : xs[0]? = some x0 := by rw [hxs]; rfl
  have h2 : 2 ≤ xs.length := by rw [hxs]; simp
  obtain ⟨J, hJJ⟩ : ∃ J, J = joinB (x0 :: x1 :: r) sep := ⟨_, rfl⟩
  rw [← hJJ]
  rw [← hxs] at hl hx ⊢
  rw [← hJJ] at hJ
  clear hJJ hxs
  have hlt0 : 0 < xs.length := by omega
  have h0' : xs[0]'hlt0 = x0 := (List.getElem?_eq_some_iff.1 h0).2
  have c0 : ¬ (xs.length : Int) = 0 := by omega
  have c1 : ¬ (xs.length : Int) = 1 := by omega
  have c0b : ((xs.length : Int) == 0) = false := by simpa using c0
  have c1b : ((xs.length : Int) == 1) = false := by simpa using c1
  have w1 : IntKind.i64.wrap ((xs.length : Int) - 1) = (xs.length : Int) - 1 := wrap64_in (by omega) (by omega)
  obtain ⟨m0, hm0, hm1, hst⟩ : ∃ m0 : Int, 0 ≤ m0 ∧ m0 ≤ 3932160 ∧ (if 0 < sep.size then m0 = (sep.size : Int) * ((xs.length : Int) - 1) else m0 = 0) := by
   by_cases h : 0 < sep.size
   ·refine ⟨(sep.size : Int) * ((xs.length : Int) - 1), ?_, ?_, by rw [if_pos h]⟩
    ·exact Int.mul_nonneg (by omega) (by omega)
    ·have : (sep.size : Int) * ((xs.length : Int) - 1) ≤ 3 * 1310720 := Int.mul_le_mul (by omega) (by omega) (by omega) (by omega)
     omega
   ·exact ⟨0, by omega, by omega, by rw [if_neg h]⟩
  have hys : (xs.drop 1).length = xs.length - 1 := by rw [List.length_drop]
  have hyx : ∀ y ∈ xs.drop 1, y.size ≤ 67108864 := fun y hy => (hx y (List.mem_of_mem_drop hy)).2
  have t2 : List.take (xs.length - 1) (xs.map dStr).tail = (xs.drop 1).map dStr := by rw [← List.drop_one, ← List.map_drop]; exact List.take_of_length_le (by simp)
  have hx0 := hx x0 (by rw [← h0']; exact List.getElem_mem hlt0)
  have hw1 := writeUsed_spec ⟨#[]⟩ x0 (by rw [size_e]; omega)
  rw [str_app0, bytesD_0] at hw1
  obtain ⟨ys, hysd⟩ : ∃ ys, ys = xs.drop 1 := ⟨_, rfl⟩
  rw [← hysd] at hJ hys hyx t2
  clear hysd
  have hwr : ∀ n : Nat, (n : Int) ≤ 9223372036854775807 → IntKind.i64.wrap (n : Int) = n := fun n h => wrap64_in (by omega) h
  by_cases hsep : 0 < sep.size
  ·rw [if_pos hsep] at hst
   have w2 : IntKind.i64.wrap ((sep.size : Int) * ((xs.length : Int) - 1)) = m0 := by rw [← hst]; exact wrap64_in (by omega) (by omega)
   have w3 : IntKind.i64.wrap m0 = m0 := wrap64_in (by omega) (by omega)
   have hdv : ¬ IntKind.i64.wrap ((9223372036854775807 : Int).tdiv ((xs.length : Int) - 1)) ≤ (sep.size : Int) := by
    rw [Int.tdiv_eq_ediv_of_nonneg (by omega)]
    have h4 : (4 : Int) ≤ 9223372036854775807 / ((xs.length : Int) - 1) := Int.le_ediv_of_mul_le (by omega) (by omega)
    have h5 : (9223372036854775807 : Int) / ((xs.length : Int) - 1) ≤ 9223372036854775807 := Int.ediv_le_self _ (by omega)
    rw [wrap64_in (by omega) h5]
    omega
   have hnz : ¬ (xs.length : Int) - 1 = 0 := by omega
   have hsi : (0 : Int) < (sep.size : Int) := by omega
   (refine go1 aj0 aj0 (aj12 @size_e c0 c1 c0b c1b w1 w2 w3 hdv hnz hsep hsi) ?_; intros; refine mk_i ?_)
   refine DW_loop (X := {p : Nat × Nat // p.1 ≤ xs.length ∧ p.2 ≤ 3932160 + 67108864 * p.1 ∧ (0 < p.1 → 1 ≤ p.2)}) (fun p => ⟨[(0, .sl 1 16 (xs.map dStr)), (1, .str sep), (5, .int .i64 p.1.2), (39, .sl 1 16 (xs.map dStr)), (40, .int .i64 xs.length), (41, .int .i64 p.1.1)], []⟩) (fun p => xs.length - p.1.1) ⟨(0, m0.toNat), by simp only; refine ⟨by omega, by omega, by omega⟩⟩ (Sub.lit (by simp; try omega)) ?_
   rintro ⟨⟨k, m⟩, hk, hmb, hm1⟩
   simp only at hk hmb hm1 ⊢
   by_cases hlt : k < xs.length
   ·obtain ⟨x, hxk, hxk', hxm⟩ := at_lt' hlt
    obtain ⟨y1, y2⟩ := hx x hxm
    have q1 : IntKind.i64.wrap (9223372036854775807 - (m : Int)) = 9223372036854775807 - (m : Int) := wrap64_in (by omega) (by omega)
    have q2 : ¬ (9223372036854775807 - (m : Int) < (x.size : Int)) := by omega
    have q3 : IntKind.i64.wrap ((m : Int) + (x.size : Int)) = (m : Int) + (x.size : Int) := wrap64_in (by omega) (by omega)
    (refine go1 aj0 aj0 (aj7 @dStr.eq_1 hlt hxk hxk' q1 q2 q3) ?_; intros; refine mk_i ?_)
    refine Again.mk ⟨(k + 1, m + x.size), show k + 1 ≤ xs.length ∧ m + x.size ≤ 3932160 + 67108864 * (k + 1) ∧ (0 < k + 1 → 1 ≤ m + x.size) from ⟨by omega, by omega, by omega⟩⟩ (Sub.lit (by simp)) (by simp; omega)
    skip
   ·have hkk : k = xs.length := by omega
    subst hkk
    have hg := growFirst_spec m (hm1 (by omega)) (by omega)
    (repeat (first | (refine DW_allocT (bs := 32) (k := 2) (z := [.nilp, .nilsl]) (by simp [hnt]) (by simp) (by rfl) rfl (by decide) (fun _ _ => ?_); simp [hnt, dStr, h0, h0', hlt0, t2, size_e]) | refine DW_seq fun K hK => ?_ | (refine DW_r anWJ3266 Tryz.mixed (by kernel_rfl) ?_; simp [anWJ3266, hnt, dStr, h0, h0', hlt0, t2, size_e]; try simp (disch := omega) only [wrap64_in]) | refine DW_block ?_ | (refine DW_if ?_ ?_ ?_; (· (simp [hnt, dStr, h0, h0', hlt0, t2, size_e]; done)); (try (rotate_left; (· (intro hc; (try simp [hnt, dStr, h0, h0', hlt0, t2, size_e] at hc); done))))) | (refine DW_ret ?_; simp [Tryz.results266, hnt, dStr, h0, h0', hlt0, t2, size_e]) | ((first | refine DW_exit ?_ | refine DW_skip ?_); simp [hnt, dStr, h0, h0', hlt0, t2, size_e]) | (intro hc; (try simp [hnt, dStr, h0, h0', hlt0, t2, size_e] at hc); (try (exfalso; omega))) | (refine callS_mk [(8,0)] [(50,1)] (hg) ?_ ?_; (· (simp [hnt, dStr, h0, h0', hlt0, t2, size_e]; done)); (intro _; try simp [hnt, dStr, h0, h0', hlt0, t2, size_e])) | (refine callS_mk [(8,0),(50,1)] [] (hw1) ?_ ?_; (· (simp [hnt, dStr, h0, h0', hlt0, t2, size_e]; done)); (intro _; try simp [hnt, dStr, h0, h0', hlt0, t2, size_e])) | (refine ⟨?_, ?_⟩; · omega) | omega | apply_assumption -exfalso -symm | (exfalso; omega)))
    refine DW_loop (X := {k : Nat // k ≤ ys.length}) (fun k => ⟨[(1, .str sep), (8, .rx 8 1 2 0 0), (63, .sl 1 16 (ys.map dStr)), (64, .int .i64 ys.length), (65, .int .i64 k.1)], [⟨8, 1, .row 299 2 32 [[.rx 8 1 2 0 0, .osl 50 1]]⟩, ⟨50, 1, .row 5 1 1 (bytesD ((ys.take k.1).foldl (joinF sep) x0))⟩]⟩) (fun k => ys.length - k.1) ⟨0, by omega⟩ (Sub.lit (by simp [t2, hys])) ?_
    rintro ⟨k, hk⟩
    simp only
    by_cases hlt : k < ys.length
    ·obtain ⟨y, hy, hy', hym⟩ := at_lt' hlt
     obtain ⟨j1, j2⟩ := joinK_size sep hs (ys.take k) x0 fun z hz => hyx z (List.mem_of_mem_take hz)
     rw [List.length_take] at j1
     have hst2 := foldl_snoc (f := joinF sep) (b := x0) hy
     have hy9 := hyx y hym
     obtain ⟨T, hT⟩ : ∃ T, T = (ys.take k).foldl (joinF sep) x0 := ⟨_, rfl⟩
     rw [← hT] at j1 j2 hst2 ⊢
     have e1 := writeUsed_spec T sep (by omega)
     have e2 := writeUsed_spec (T ++ sep) y (by rw [ByteArray.size_append]; omega)
     rw [show T ++ sep ++ y = joinF sep T y from rfl, ← hst2] at e2
     (refine go1 aj0 (aj2 (spc [(8,0),(50,1)] [] e1) (spc [(8,0),(50,1)] [] e2)) (aj4 @dStr.eq_1 hlt hy hy') ?_; intros; refine mk_i ?_)
     refine Again.mk ⟨k + 1, by omega⟩ (Sub.lit (by simp)) (by simp; omega)
     skip
    ·have hkk : k = ys.length := by omega
     subst hkk
     rw [List.take_length, ← hJ]
     obtain ⟨j1, j2⟩ := joinK_size sep hs ys x0 hyx
     rw [← hJ] at j1 j2
     have e1 := stringSome_spec J (by omega)
     exact go0 aj0 (aj1 (spc [(8,0),(50,1)] [] e1)) aj0
  ·rw [if_neg hsep] at hst
   (refine go1 aj0 aj0 (aj7 @size_e c0 c1 c0b c1b w1 hsep) ?_; intros; refine mk_i ?_)
   refine DW_loop (X := {p : Nat × Nat // p.1 ≤ xs.length ∧ p.2 ≤ 3932160 + 67108864 * p.1 ∧ (0 < p.1 → 1 ≤ p.2)}) (fun p => ⟨[(0, .sl 1 16 (xs.map dStr)), (1, .str sep), (5, .int .i64 p.1.2), (39, .sl 1 16 (xs.map dStr)), (40, .int .i64 xs.length), (41, .int .i64 p.1.1)], []⟩) (fun p => xs.length - p.1.1) ⟨(0, m0.toNat), by simp only; refine ⟨by omega, by omega, by omega⟩⟩ (Sub.lit (by simp; try omega)) ?_
   rintro ⟨⟨k, m⟩, hk, hmb, hm1⟩
   simp only at hk hmb hm1 ⊢
   by_cases hlt : k < xs.length
   ·obtain ⟨x, hxk, hxk', hxm⟩ := at_lt' hlt
    obtain ⟨y1, y2⟩ := hx x hxm
    have q1 : IntKind.i64.wrap (9223372036854775807 - (m : Int)) = 9223372036854775807 - (m : Int) := wrap64_in (by omega) (by omega)
    have q2 : ¬ (9223372036854775807 - (m : Int) < (x.size : Int)) := by omega
    have q3 : IntKind.i64.wrap ((m : Int) + (x.size : Int)) = (m : Int) + (x.size : Int) := wrap64_in (by omega) (by omega)
    (refine go1 aj0 aj0 (aj7 @dStr.eq_1 hlt hxk hxk' q1 q2 q3) ?_; intros; refine mk_i ?_)
    refine Again.mk ⟨(k + 1, m + x.size), show k + 1 ≤ xs.length ∧ m + x.size ≤ 3932160 + 67108864 * (k + 1) ∧ (0 < k + 1 → 1 ≤ m + x.size) from ⟨by omega, by omega, by omega⟩⟩ (Sub.lit (by simp)) (by simp; omega)
    skip
   ·have hkk : k = xs.length := by omega
    subst hkk
    have hg := growFirst_spec m (hm1 (by omega)) (by omega)
    (repeat (first | (refine DW_allocT (bs := 32) (k := 2) (z := [.nilp, .nilsl]) (by simp [hnt]) (by simp) (by rfl) rfl (by decide) (fun _ _ => ?_); simp [hnt, dStr, h0, h0', hlt0, t2, size_e]) | refine DW_seq fun K hK => ?_ | (refine DW_r anWJ3266 Tryz.mixed (by kernel_rfl) ?_; simp [anWJ3266, hnt, dStr, h0, h0', hlt0, t2, size_e]; try simp (disch := omega) only [wrap64_in]) | refine DW_block ?_ | (refine DW_if ?_ ?_ ?_; (· (simp [hnt, dStr, h0, h0', hlt0, t2, size_e]; done)); (try (rotate_left; (· (intro hc; (try simp [hnt, dStr, h0, h0', hlt0, t2, size_e] at hc); done))))) | (refine DW_ret ?_; simp [Tryz.results266, hnt, dStr, h0, h0', hlt0, t2, size_e]) | ((first | refine DW_exit ?_ | refine DW_skip ?_); simp [hnt, dStr, h0, h0', hlt0, t2, size_e]) | (intro hc; (try simp [hnt, dStr, h0, h0', hlt0, t2, size_e] at hc); (try (exfalso; omega))) | (refine callS_mk [(8,0)] [(50,1)] (hg) ?_ ?_; (· (simp [hnt, dStr, h0, h0', hlt0, t2, size_e]; done)); (intro _; try simp [hnt, dStr, h0, h0', hlt0, t2, size_e])) | (refine callS_mk [(8,0),(50,1)] [] (hw1) ?_ ?_; (· (simp [hnt, dStr, h0, h0', hlt0, t2, size_e]; done)); (intro _; try simp [hnt, dStr, h0, h0', hlt0, t2, size_e])) | (refine ⟨?_, ?_⟩; · omega) | omega | apply_assumption -exfalso -symm | (exfalso; omega)))
    refine DW_loop (X := {k : Nat // k ≤ ys.length}) (fun k => ⟨[(1, .str sep), (8, .rx 8 1 2 0 0), (63, .sl 1 16 (ys.map dStr)), (64, .int .i64 ys.length), (65, .int .i64 k.1)], [⟨8, 1, .row 299 2 32 [[.rx 8 1 2 0 0, .osl 50 1]]⟩, ⟨50, 1, .row 5 1 1 (bytesD ((ys.take k.1).foldl (joinF sep) x0))⟩]⟩) (fun k => ys.length - k.1) ⟨0, by omega⟩ (Sub.lit (by simp [t2, hys])) ?_
    rintro ⟨k, hk⟩
    simp only
    by_cases hlt : k < ys.length
    ·obtain ⟨y, hy, hy', hym⟩ := at_lt' hlt
     obtain ⟨j1, j2⟩ := joinK_size sep hs (ys.take k) x0 fun z hz => hyx z (List.mem_of_mem_take hz)
     rw [List.length_take] at j1
     have hst2 := foldl_snoc (f := joinF sep) (b := x0) hy
     have hy9 := hyx y hym
     obtain ⟨T, hT⟩ : ∃ T, T = (ys.take k).foldl (joinF sep) x0 := ⟨_, rfl⟩
     rw [← hT] at j1 j2 hst2 ⊢
     have e1 := writeUsed_spec T sep (by omega)
     have e2 := writeUsed_spec (T ++ sep) y (by rw [ByteArray.size_append]; omega)
     rw [show T ++ sep ++ y = joinF sep T y from rfl, ← hst2] at e2
     (refine go1 aj0 (aj2 (spc [(8,0),(50,1)] [] e1) (spc [(8,0),(50,1)] [] e2)) (aj4 @dStr.eq_1 hlt hy hy') ?_; intros; refine mk_i ?_)
     refine Again.mk ⟨k + 1, by omega⟩ (Sub.lit (by simp)) (by simp; omega)
     skip
    ·have hkk : k = ys.length := by omega
     subst hkk
     rw [List.take_length, ← hJ]
     obtain ⟨j1, j2⟩ := joinK_size sep hs ys x0 hyx
     rw [← hJ] at j1 j2
     have e1 := stringSome_spec J (by omega)
     exact go0 aj0 (aj1 (spc [(8,0),(50,1)] [] e1)) aj0
end Go.Proofs.YtdgocjbakjamaaaGreat
end

section
set_option linter.unusedSectionVars false
/- Texts of trees: plain Lean. -/


set_option linter.unusedSimpArgs false
set_option linter.unusedVariables false
namespace Go.Proofs.YtdgocjbakjamaaaGreat
open Go Go.Dm
variable [DMode]

def sgn (k : Int) : ByteArray := if k = 6 then ⟨#[42]⟩ else if k = 7 then ⟨#[43]⟩ else if k = 8 then ⟨#[63]⟩ else ⟨#[]⟩
def btw (k : Int) : ByteArray := if k = 5 then ⟨#[32, 124, 32]⟩ else if k = 4 then ⟨#[32]⟩ else ⟨#[]⟩
def parB (pk k : Int) : Bool := decide (k = 5) || (decide (k = 4) && !decide (pk = 5))
def parT (pk k : Int) (s : ByteArray) : ByteArray := if parB pk k then ⟨#[40]⟩ ++ s ++ ⟨#[41]⟩ else s
mutual
def txtT : RT → ByteArray
 | .mk x ks => if x.k = 1 then ⟨#[37]⟩ else if x.k = 2 ∨ x.k = 3 then x.s else joinB (txtL x.k ks) (btw x.k) ++ sgn x.k
def txtL (pk : Int) : List RT → List ByteArray
 | [] => []
 | t :: ts => parT pk t.x.k (txtT t) :: txtL pk ts
end
theorem txtT_mk (x : Nd) (ks : List RT) : txtT (.mk x ks) = if x.k = 1 then ⟨#[37]⟩ else if x.k = 2 ∨ x.k = 3 then x.s else joinB (txtL x.k ks) (btw x.k) ++ sgn x.k := by rw [txtT]
theorem txtL_cons (pk : Int) (t : RT) (ts : List RT) : txtL pk (t :: ts) = parT pk t.x.k (txtT t) :: txtL pk ts := by rw [txtL]
theorem txtL_nil (pk : Int) : txtL pk [] = [] := by rw [txtL]
theorem txtL_map (pk : Int) : ∀ ts : List RT, txtL pk ts = ts.map fun t => parT pk t.x.k (txtT t)
 | [] => txtL_nil pk
 | t :: ts => by rw [txtL_cons, txtL_map pk ts]; rfl
theorem size1' (a : UInt8) : (⟨#[a]⟩ : ByteArray).size = 1 := rfl
theorem btw_size (k : Int) : (btw k).size ≤ 3 := by unfold btw; split <;> (try split) <;> decide
theorem sgn_size (k : Int) : (sgn k).size ≤ 1 := by
 unfold sgn
 repeat' split
 all_goals decide
theorem parT_size (pk k : Int) (s : ByteArray) : s.size ≤ (parT pk k s).size ∧ (parT pk k s).size ≤ s.size + 2 := by
 unfold parT
 split
 ·rw [ByteArray.size_append, ByteArray.size_append, size1', size1']; omega
 ·omega
theorem join_total (sep : ByteArray) (hs : sep.size ≤ 3) : ∀ (r : List ByteArray) (x : ByteArray), (r.foldl (joinF sep) x).size ≤ x.size + (r.map fun y => y.size + 3).sum ∧ x.size ≤ (r.foldl (joinF sep) x).size
 | [], x => by simp
 | y :: r, x => by
  obtain ⟨h1, h2⟩ := join_total sep hs r (joinF sep x y)
  rw [joinF_size] at h1 h2
  rw [List.foldl_cons, List.map_cons, List.sum_cons]
  omega
theorem joinB_size (xs : List ByteArray) (sep : ByteArray) (hs : sep.size ≤ 3) : (joinB xs sep).size ≤ (xs.map fun y => y.size + 3).sum := by
 cases xs with
 | nil => simp [joinB]; decide
 | cons x r =>
  have := (join_total sep hs r x).1
  show (r.foldl (joinF sep) x).size ≤ _
  rw [List.map_cons, List.sum_cons]
  omega
theorem mayN_leaf {x : Nd} (h : mayN x = true) (hk : x.k = 2 ∨ x.k = 3) : 1 ≤ x.s.size := by
 have hn : ∀ s, nameOK s = true → 1 ≤ s.size := fun s hs => by unfold nameOK at hs; simp only [Bool.and_eq_true, decide_eq_true_eq] at hs; exact hs.1.1
 unfold mayN at h
 rcases hk with hk | hk
 ·rw [if_neg (by omega), if_pos hk] at h
  simp only [Bool.and_eq_true] at h
  exact hn _ h.2.1
 ·rw [if_neg (by omega), if_neg (by omega), if_pos hk] at h
  simp only [Bool.and_eq_true] at h
  exact hn _ h.2.1
theorem mayN_many {x : Nd} (h : mayN x = true) (h1 : ¬ x.k = 1) (h2 : ¬ (x.k = 2 ∨ x.k = 3)) : 1 ≤ x.n := by
 unfold mayN at h
 rw [if_neg h1, if_neg (fun e => h2 (.inl e)), if_neg (fun e => h2 (.inr e))] at h
 repeat' split at h
 all_goals simp only [Bool.and_eq_true, decide_eq_true_eq, Bool.false_eq_true] at h
 all_goals omega
mutual
theorem txt_sizeT : ∀ (t : RT), okT t = true → 1 ≤ (txtT t).size ∧ (txtT t).size + 5 ≤ 24 * (flat t).length
 | .mk x ks, h => by
  obtain ⟨h1, h2, h3⟩ := okT_mk h
  rw [txtT_mk, flat_mk, List.length_cons]
  split
  ·rw [size1']; omega
  ·rename_i k1
   split
   ·rename_i k2
    have := mayN_leaf h1 k2
    have := mayN_size h1
    omega
   ·rename_i k2
    have hn := mayN_many h1 k1 k2
    obtain ⟨s1, s2⟩ := txt_sizeL x.k ks h3
    have hj := joinB_size (txtL x.k ks) (btw x.k) (btw_size _)
    have hg := sgn_size x.k
    rw [ByteArray.size_append]
    refine ⟨?_, by omega⟩
    cases ks with
    | nil => simp at h2; omega
    | cons t ts =>
     have := s2 (parT x.k t.x.k (txtT t)) (by rw [txtL_cons]; exact List.mem_cons_self)
     have h4 := (join_total (btw x.k) (btw_size _) (txtL x.k ts) (parT x.k t.x.k (txtT t))).2
     rw [txtL_cons]
     show 1 ≤ ((txtL x.k ts).foldl (joinF (btw x.k)) (parT x.k t.x.k (txtT t))).size + _
     omega
theorem txt_sizeL : ∀ (pk : Int) (ts : List RT), okL ts = true → ((txtL pk ts).map fun y => y.size + 3).sum ≤ 24 * (flatL ts).length ∧ ∀ y ∈ txtL pk ts, 1 ≤ y.size
 | pk, [], _ => by simp [txtL_nil]
 | pk, t :: ts, h => by
  obtain ⟨h1, h2⟩ := okL_cons h
  obtain ⟨a1, a2⟩ := txt_sizeT t h1
  obtain ⟨b1, b2⟩ := txt_sizeL pk ts h2
  obtain ⟨c1, c2⟩ := parT_size pk t.x.k (txtT t)
  rw [txtL_cons, flatL_cons, List.map_cons, List.sum_cons, List.length_append]
  refine ⟨by omega, fun y hy => ?_⟩
  rcases List.mem_cons.1 hy with rfl | hy
  ·omega
  ·exact b2 y hy
end
end Go.Proofs.YtdgocjbakjamaaaGreat
end

section
set_option linter.unusedSectionVars false
/- regular expressions as lists: texts, bounds, Check, Height -/



set_option linter.unusedSimpArgs false
set_option linter.unusedVariables false
namespace Go.Proofs.YtdgocjbakjamaaaGreat
open Go Go.Dm
variable [DMode]
attribute [local irreducible] DW callP callS
set_option maxRecDepth 100000

def anRX4267 : Ann := ⟨[], []⟩
theorem sign156_pure (k : Int) : DPure Tryz.prog 267 [.int .i64 k] (.str (sgn k)) := by
 refine DPure_introF [] (fn := Tryz.f267) Tryz.func267 rfl Tryz.call267 (by simp [Tryz.ntmps267]) (by simp [mx]) ?_
 intro hwf B hnt
 simp only [Tryz.ntmps267] at hnt
 have hA := an_is anRX4267 Tryz.mixed (aj2 @anRX4267.eq_1 Tryz.results267)
 simp only [argS]
 have z0 : (⟨#[]⟩ : ByteArray).size = 0 := rfl
 have z1 : (⟨#[42]⟩ : ByteArray).size = 1 := rfl
 have z2 : (⟨#[43]⟩ : ByteArray).size = 1 := rfl
 have z3 : (⟨#[63]⟩ : ByteArray).size = 1 := rfl
 have m1 : 1 ≤ maxLen := by decide
 unfold sgn
 by_cases k6 : k = 6
 ·exact go0 aj0 aj0 (aj6 z0 z1 z2 z3 m1 k6)
 by_cases k7 : k = 7
 ·exact go0 aj0 aj0 (aj7 z0 z1 z2 z3 m1 k6 k7)
 by_cases k8 : k = 8
 ·exact go0 aj0 aj0 (aj8 z0 z1 z2 z3 m1 k6 k7 k8)
 exact go0 aj0 aj0 (aj8 z0 z1 z2 z3 m1 k6 k7 k8)

theorem le_sum {l : List Nat} {a : Nat} (h : a ∈ l) : a ≤ l.sum := by
 induction l with
 | nil => simp at h
 | cons b l ih =>
  rw [List.sum_cons]
  rcases List.mem_cons.1 h with rfl | h
  ·omega
  ·have := ih h; omega
theorem txtL_take {pk : Int} {ks : List RT} {i : Nat} {t : RT} (h : ks[i]? = some t) : txtL pk (ks.take (i + 1)) = txtL pk (ks.take i) ++ [parT pk t.x.k (txtT t)] := by
 rw [txtL_map, txtL_map, List.take_add_one, h, List.map_append]; rfl
theorem txtL_len (pk : Int) (ks : List RT) : (txtL pk ks).length = ks.length := by rw [txtL_map, List.length_map]
theorem flat_head (t : RT) : (flat t)[0]? = some t.x := by cases t; rfl
theorem flatL_mem {ks : List RT} {t : RT} (h : t ∈ ks) : (flat t).length ≤ (flatL ks).length := by
 induction ks with
 | nil => simp at h
 | cons u ks ih =>
  rw [flatL_cons, List.length_append]
  rcases List.mem_cons.1 h with rfl | h
  ·omega
  ·have := ih h; omega

def anRX4207 : Ann := ⟨[], [⟨1, [3], [], []⟩]⟩
set_option maxHeartbeats 8000000 in
theorem text110_pure : ∀ (n : Nat) (t : RT), (flat t).length = n → okT t = true → (flat t).length ≤ 1310720 → DPure Tryz.prog 207 [dNds (flat t)] (.str (txtT t)) := by
 intro n
 induction n using Nat.strongRecOn with
 | ind n ih =>
 intro t hn ht hs
 obtain ⟨x, ks⟩ := t
 have kk := kids86_pure x ks ht hs
 obtain ⟨hm, hkn, hok⟩ := okT_mk ht
 have hsz := (txt_sizeT _ ht)
 have h0 := flat_head (.mk x ks)
 have hlt0 : 0 < (flat (.mk x ks)).length := flat_len _
 have hfl : (flat (.mk x ks)).length = (flatL ks).length + 1 := by rw [flat_mk, List.length_cons]
 have hkl := flatL_len ks
 have hch : ∀ u ∈ ks, DPure Tryz.prog 207 [dNds (flat u)] (.str (txtT u)) := fun u hu => by
  have := flatL_mem hu
  exact ih (flat u).length (by omega) u rfl (okL_mem hok u hu) (by omega)
 have hsj := txt_sizeL x.k ks hok
 have hparts : ∀ y ∈ txtL x.k ks, 1 ≤ y.size ∧ y.size ≤ 67108864 := fun y hy => by
  refine ⟨hsj.2 y hy, ?_⟩
  have : y.size + 3 ≤ ((txtL x.k ks).map fun y => y.size + 3).sum := le_sum (List.mem_map.2 ⟨y, hy, rfl⟩)
  omega
 have kj := join_pure (txtL x.k ks) (btw x.k) (btw_size _) (by rw [txtL_len]; omega) hparts
 have kg := sign156_pure x.k
 have hjs := joinB_size (txtL x.k ks) (btw x.k) (btw_size _)
 have hgs := sgn_size x.k
 rw [txtT_mk]
 have hbig : ((txtL x.k ks).map fun y => y.size + 3).sum ≤ 31457280 := by omega
 clear ih hn hsz
 obtain ⟨l, hl⟩ : ∃ l, l = flat (.mk x ks) := ⟨_, rfl⟩
 rw [← hl] at kk h0 hlt0 ⊢
 have h0' : l[0]'hlt0 = x := (List.getElem?_eq_some_iff.1 h0).2
 have z0 : (⟨#[]⟩ : ByteArray).size = 0 := rfl
 have z1 : (⟨#[37]⟩ : ByteArray).size = 1 := rfl
 have z2 : (⟨#[32]⟩ : ByteArray).size = 1 := rfl
 have z3 : (⟨#[32, 124, 32]⟩ : ByteArray).size = 3 := rfl
 have z4 : (⟨#[40]⟩ : ByteArray).size = 1 := rfl
 have z5 : (⟨#[41]⟩ : ByteArray).size = 1 := rfl
 have m1 : 1 ≤ maxLen := by decide
 have m3 : 3 ≤ maxLen := by decide
 refine DPure_introF [] (fn := Tryz.f207) Tryz.func207 rfl Tryz.call207 (by simp [Tryz.ntmps207]) (by simp [mx]) ?_
 intro hwf B hnt
 simp only [Tryz.ntmps207] at hnt
 have hA := an_is anRX4207 Tryz.mixed (aj2 @anRX4207.eq_1 Tryz.results207)
 clear hwf
 simp only [argS]
 obtain ⟨b, hb⟩ : ∃ b, b = btw x.k := ⟨_, rfl⟩
 have hbz : b = btw x.k := hb
 rw [← hb] at kj ⊢
 unfold btw at hb
 rcases mayN_kind hm with k | k | k | k | k | k | k | k
 ·exact go0 (aj1 kk) aj0 (aj8 @dNd.eq_1 h0 h0' hlt0 z0 z1 m1 k)
 ·exact go0 (aj1 kk) aj0 (aj8 @dNd.eq_1 h0 h0' hlt0 z0 z1 m1 k)
 ·exact go0 (aj1 kk) aj0 (aj8 @dNd.eq_1 h0 h0' hlt0 z0 z1 m1 k)
 all_goals
  have k1 : ¬ x.k = 1 := by omega
  have k2 : ¬ (x.k = 2 ∨ x.k = 3) := by omega
  rw [if_neg k1, if_neg k2]
  have hb2 := hb
  simp only [k] at hb2
  try simp at hb2
  (refine go1 (aj1 kk) aj0 (aj11 @dNd.eq_1 h0 h0' hlt0 z0 z1 z2 z3 m1 m3 k) ?_; intros; refine mk_i ?_)
  refine DW_adoptS 5 50 9 1 16 (by simp [hnt, Tryz.results207, anRX4207]) (fun n => ?_)
  refine DW_loop (X := {i : Nat // i ≤ ks.length}) (fun i => ⟨[(3, .ref [.int .i64 x.k, .str x.s, .int .i64 x.n]), (4, .str b), (5, .osl 50 1), (26, dTs ks), (27, .int .i64 ks.length), (28, .int .i64 i.1)], [⟨50, 1, .row 9 1 16 ((txtL x.k (ks.take i.1)).map dStr)⟩]⟩) (fun i => ks.length - i.1) ⟨0, by omega⟩ (Sub.lit (by simp [k, hb2, txtL_nil])) ?_
  clear hb hb2 k kk
  rintro ⟨i, hi⟩
  simp only
  by_cases hlt : i < ks.length
  ·obtain ⟨u, hu, hu', hum⟩ := at_lt' hlt
   have ku := hch u hum
   have g0 := flat_head u
   have gl : 0 < (flat u).length := flat_len u
   have hus := txt_sizeT u (okL_mem hok u hum)
   have hul := flatL_mem hum
   have htk := txtL_take (pk := x.k) hu
   have hpt : parT x.k u.x.k (txtT u) = if parB x.k u.x.k then ⟨#[40]⟩ ++ txtT u ++ ⟨#[41]⟩ else txtT u := rfl
   unfold parB at hpt
   obtain ⟨m, hm2⟩ : ∃ m, m = flat u := ⟨_, rfl⟩
   have hfm : flat u = m := hm2.symm
   rw [← hm2] at ku g0 gl hus hul
   obtain ⟨s, hs2⟩ : ∃ s, s = txtT u := ⟨_, rfl⟩
   rw [← hs2] at ku hus hpt htk
   have g0' : m[0]'gl = u.x := (List.getElem?_eq_some_iff.1 g0).2
   obtain ⟨P, hP⟩ : ∃ P, P = parT x.k u.x.k s := ⟨_, rfl⟩
   rw [← hP] at hpt htk
   have hl1 : (txtL x.k (ks.take i)).length = i := by rw [txtL_len, List.length_take]; omega
   obtain ⟨T, hT⟩ : ∃ T, T = txtL x.k (ks.take i) := ⟨_, rfl⟩
   rw [← hT] at htk hl1 ⊢
   have y1 : (i + 1) * 16 ≤ 150000000000000 := by omega
   have y2 : i + 1 ≤ 9223372036854775807 := by omega
   have y3 : 1 + s.size ≤ maxLen := by unfold maxLen; omega
   have y4 : 1 + s.size + 1 ≤ maxLen := by unfold maxLen; omega
   by_cases p5 : u.x.k = 5
   ·simp [p5] at hpt
    (repeat (first | refine DW_seq fun K hK => ?_ | (refine DW_r anRX4207 Tryz.mixed (by kernel_rfl) ?_; simp [anRX4207, hnt, dT, dNd, hfm, hlt, hu, hu', g0, g0', gl, p5, y1, y2, y3, y4, z4, z5, m1, hl1, ByteArray.size_append]; try simp (disch := omega) only [wrap64_in]) | refine DW_block ?_ | (refine DW_if ?_ ?_ ?_; (· (simp [hnt, dT, dNd, hfm, hlt, hu, hu', g0, g0', gl, p5, y1, y2, y3, y4, z4, z5, m1, hl1, ByteArray.size_append]; done)); (try (rotate_left; (· (intro hc; (try simp [hnt, dT, dNd, hfm, hlt, hu, hu', g0, g0', gl, p5, y1, y2, y3, y4, z4, z5, m1, hl1, ByteArray.size_append] at hc); done))))) | (refine DW_ret ?_; simp [Tryz.results207, hnt, dT, dNd, hfm, hlt, hu, hu', g0, g0', gl, p5, y1, y2, y3, y4, z4, z5, m1, hl1, ByteArray.size_append]) | ((first | refine DW_exit ?_ | refine DW_skip ?_); simp [hnt, dT, dNd, hfm, hlt, hu, hu', g0, g0', gl, p5, y1, y2, y3, y4, z4, z5, m1, hl1, ByteArray.size_append]) | (intro hc; (try simp [hnt, dT, dNd, hfm, hlt, hu, hu', g0, g0', gl, p5, y1, y2, y3, y4, z4, z5, m1, hl1, ByteArray.size_append] at hc); (try (exfalso; omega))) | ((first | refine callP_mk (ku) ?_ | (refine callP_wk (ku) ?_ ?_; (· (simp; done)))); try simp [hnt, dT, dNd, hfm, hlt, hu, hu', g0, g0', gl, p5, y1, y2, y3, y4, z4, z5, m1, hl1, ByteArray.size_append]) | (refine ⟨?_, ?_⟩; · omega) | omega | apply_assumption -exfalso -symm | (exfalso; omega)))
    refine Again.mk ⟨i + 1, by omega⟩ (Sub.lit (by simp [htk, hpt, dStr])) (by simp; omega)
    skip
   ·have p5' : (u.x.k == 5) = false := by simpa using p5
    by_cases p4 : u.x.k = 4
    ·by_cases q5 : x.k = 5
     ·simp [p4, q5] at hpt
      (repeat (first | refine DW_seq fun K hK => ?_ | (refine DW_r anRX4207 Tryz.mixed (by kernel_rfl) ?_; simp [anRX4207, hnt, dT, dNd, hfm, hlt, hu, hu', g0, g0', gl, p4, p5, p5', q5, y1, y2, y3, y4, z4, z5, m1, hl1, ByteArray.size_append]; try simp (disch := omega) only [wrap64_in]) | refine DW_block ?_ | (refine DW_if ?_ ?_ ?_; (· (simp [hnt, dT, dNd, hfm, hlt, hu, hu', g0, g0', gl, p4, p5, p5', q5, y1, y2, y3, y4, z4, z5, m1, hl1, ByteArray.size_append]; done)); (try (rotate_left; (· (intro hc; (try simp [hnt, dT, dNd, hfm, hlt, hu, hu', g0, g0', gl, p4, p5, p5', q5, y1, y2, y3, y4, z4, z5, m1, hl1, ByteArray.size_append] at hc); done))))) | (refine DW_ret ?_; simp [Tryz.results207, hnt, dT, dNd, hfm, hlt, hu, hu', g0, g0', gl, p4, p5, p5', q5, y1, y2, y3, y4, z4, z5, m1, hl1, ByteArray.size_append]) | ((first | refine DW_exit ?_ | refine DW_skip ?_); simp [hnt, dT, dNd, hfm, hlt, hu, hu', g0, g0', gl, p4, p5, p5', q5, y1, y2, y3, y4, z4, z5, m1, hl1, ByteArray.size_append]) | (intro hc; (try simp [hnt, dT, dNd, hfm, hlt, hu, hu', g0, g0', gl, p4, p5, p5', q5, y1, y2, y3, y4, z4, z5, m1, hl1, ByteArray.size_append] at hc); (try (exfalso; omega))) | ((first | refine callP_mk (ku) ?_ | (refine callP_wk (ku) ?_ ?_; (· (simp; done)))); try simp [hnt, dT, dNd, hfm, hlt, hu, hu', g0, g0', gl, p4, p5, p5', q5, y1, y2, y3, y4, z4, z5, m1, hl1, ByteArray.size_append]) | (refine ⟨?_, ?_⟩; · omega) | omega | apply_assumption -exfalso -symm | (exfalso; omega)))
      have htk5 := htk
      rw [q5] at htk5
      refine Again.mk ⟨i + 1, by omega⟩ (Sub.lit (by simp [htk5, hpt, dStr, q5])) (by simp; omega)
      skip
     ·have q5' : (x.k == 5) = false := by simpa using q5
      simp [p4, q5] at hpt
      (repeat (first | refine DW_seq fun K hK => ?_ | (refine DW_r anRX4207 Tryz.mixed (by kernel_rfl) ?_; simp [anRX4207, hnt, dT, dNd, hfm, hlt, hu, hu', g0, g0', gl, p4, p5, p5', q5, q5', y1, y2, y3, y4, z4, z5, m1, hl1, ByteArray.size_append]; try simp (disch := omega) only [wrap64_in]) | refine DW_block ?_ | (refine DW_if ?_ ?_ ?_; (· (simp [hnt, dT, dNd, hfm, hlt, hu, hu', g0, g0', gl, p4, p5, p5', q5, q5', y1, y2, y3, y4, z4, z5, m1, hl1, ByteArray.size_append]; done)); (try (rotate_left; (· (intro hc; (try simp [hnt, dT, dNd, hfm, hlt, hu, hu', g0, g0', gl, p4, p5, p5', q5, q5', y1, y2, y3, y4, z4, z5, m1, hl1, ByteArray.size_append] at hc); done))))) | (refine DW_ret ?_; simp [Tryz.results207, hnt, dT, dNd, hfm, hlt, hu, hu', g0, g0', gl, p4, p5, p5', q5, q5', y1, y2, y3, y4, z4, z5, m1, hl1, ByteArray.size_append]) | ((first | refine DW_exit ?_ | refine DW_skip ?_); simp [hnt, dT, dNd, hfm, hlt, hu, hu', g0, g0', gl, p4, p5, p5', q5, q5', y1, y2, y3, y4, z4, z5, m1, hl1, ByteArray.size_append]) | (intro hc; (try simp [hnt, dT, dNd, hfm, hlt, hu, hu', g0, g0', gl, p4, p5, p5', q5, q5', y1, y2, y3, y4, z4, z5, m1, hl1, ByteArray.size_append] at hc); (try (exfalso; omega))) | ((first | refine callP_mk (ku) ?_ | (refine callP_wk (ku) ?_ ?_; (· (simp; done)))); try simp [hnt, dT, dNd, hfm, hlt, hu, hu', g0, g0', gl, p4, p5, p5', q5, q5', y1, y2, y3, y4, z4, z5, m1, hl1, ByteArray.size_append]) | (refine ⟨?_, ?_⟩; · omega) | omega | apply_assumption -exfalso -symm | (exfalso; omega)))
      refine Again.mk ⟨i + 1, by omega⟩ (Sub.lit (by simp [htk, hpt, dStr])) (by simp; omega)
      skip
    ·have p4' : (u.x.k == 4) = false := by simpa using p4
     simp [p4, p5] at hpt
     (repeat (first | refine DW_seq fun K hK => ?_ | (refine DW_r anRX4207 Tryz.mixed (by kernel_rfl) ?_; simp [anRX4207, hnt, dT, dNd, hfm, hlt, hu, hu', g0, g0', gl, p4, p4', p5, p5', y1, y2, y3, y4, z4, z5, m1, hl1, ByteArray.size_append]; try simp (disch := omega) only [wrap64_in]) | refine DW_block ?_ | (refine DW_if ?_ ?_ ?_; (· (simp [hnt, dT, dNd, hfm, hlt, hu, hu', g0, g0', gl, p4, p4', p5, p5', y1, y2, y3, y4, z4, z5, m1, hl1, ByteArray.size_append]; done)); (try (rotate_left; (· (intro hc; (try simp [hnt, dT, dNd, hfm, hlt, hu, hu', g0, g0', gl, p4, p4', p5, p5', y1, y2, y3, y4, z4, z5, m1, hl1, ByteArray.size_append] at hc); done))))) | (refine DW_ret ?_; simp [Tryz.results207, hnt, dT, dNd, hfm, hlt, hu, hu', g0, g0', gl, p4, p4', p5, p5', y1, y2, y3, y4, z4, z5, m1, hl1, ByteArray.size_append]) | ((first | refine DW_exit ?_ | refine DW_skip ?_); simp [hnt, dT, dNd, hfm, hlt, hu, hu', g0, g0', gl, p4, p4', p5, p5', y1, y2, y3, y4, z4, z5, m1, hl1, ByteArray.size_append]) | (intro hc; (try simp [hnt, dT, dNd, hfm, hlt, hu, hu', g0, g0', gl, p4, p4', p5, p5', y1, y2, y3, y4, z4, z5, m1, hl1, ByteArray.size_append] at hc); (try (exfalso; omega))) | ((first | refine callP_mk (ku) ?_ | (refine callP_wk (ku) ?_ ?_; (· (simp; done)))); try simp [hnt, dT, dNd, hfm, hlt, hu, hu', g0, g0', gl, p4, p4', p5, p5', y1, y2, y3, y4, z4, z5, m1, hl1, ByteArray.size_append]) | (refine ⟨?_, ?_⟩; · omega) | omega | apply_assumption -exfalso -symm | (exfalso; omega)))
     refine Again.mk ⟨i + 1, by omega⟩ (Sub.lit (by simp [htk, hpt, dStr])) (by simp; omega)
     skip
  ·have hkk : i = ks.length := by omega
   subst hkk
   rw [List.take_length]
   obtain ⟨J, hJ⟩ : ∃ J, J = joinB (txtL x.k ks) b := ⟨_, rfl⟩
   have hJs : J.size ≤ 31457280 := by rw [hJ]; exact Nat.le_trans (joinB_size _ _ (by rw [hbz]; exact btw_size _)) hbig
   rw [← hJ] at kj ⊢
   have y5 : J.size + (sgn x.k).size ≤ maxLen := by unfold maxLen; omega
   refine DW_sub (Sub.freezeL [50] _) ?_
   simp [hnt, Tryz.results207, anRX4207]
   exact go0 (aj2 kj kg) aj0 (aj1 y5)

def boundI (t : RT) : Int := if 16 < htT t then 171 else if 2048 < (txtT t).size then 174 else 0
def anRX4134 : Ann := ⟨[], []⟩
theorem bounded57_pure (t : RT) (ht : okT t = true) (hs : (flat t).length ≤ 1310720) : DPure Tryz.prog 134 [dNds (flat t)] (.int .i64 (boundI t)) := by
 refine DPure_introF [] (fn := Tryz.f134) Tryz.func134 rfl Tryz.call134 (by simp [Tryz.ntmps134]) (by simp [mx]) ?_
 intro hwf B hnt
 simp only [Tryz.ntmps134] at hnt
 have hA := an_is anRX4134 Tryz.mixed (aj2 @anRX4134.eq_1 Tryz.results134)
 clear hwf
 simp only [argS]
 have k1 := height109_pure t ht hs
 have k2 := text110_pure _ t rfl ht hs
 unfold boundI
 obtain ⟨T, hT⟩ : ∃ T, T = txtT t := ⟨_, rfl⟩
 rw [← hT] at k2 ⊢
 by_cases c1 : 16 < htT t
 ·have d1 : (16 : Int) < (htT t : Int) := by omega
  exact go0 (aj2 k1 k2) aj0 (aj2 c1 d1)
 ·have d1 : ¬ (16 : Int) < (htT t : Int) := by omega
  by_cases c2 : 2048 < T.size
  ·have d2 : (2048 : Int) < (T.size : Int) := by omega
   exact go0 (aj2 k1 k2) aj0 (aj4 c1 d1 c2 d2)
  ·have d2 : ¬ (2048 : Int) < (T.size : Int) := by omega
   exact go0 (aj2 k1 k2) aj0 (aj4 c1 d1 c2 d2)
def anRX467 : Ann := ⟨[], []⟩
theorem check23_tree (t : RT) (ht : okT t = true) (h : (flat t).length ≤ 2048) : DPure Tryz.prog 67 [dNds (flat t)] (.int .i64 (boundI t)) := by
 refine DPure_introF [] (fn := Tryz.f67) Tryz.func67 rfl Tryz.call67 (by simp [Tryz.ntmps67]) (by simp [mx]) ?_
 intro hwf B hnt
 simp only [Tryz.ntmps67] at hnt
 have hA := an_is anRX467 Tryz.mixed (aj2 @anRX467.eq_1 Tryz.results67)
 clear hwf
 simp only [argS]
 have k1 := whole56_pure (flat t) (by omega)
 rw [tree_whole ht] at k1
 have k2 := bounded57_pure t ht (by omega)
 have d1 : ¬ (2048 : Int) < ((flat t).length : Int) := by omega
 have d2 : ¬ 2048 < (flat t).length := by omega
 exact go0 (aj2 k1 k2) aj0 (aj2 d1 d2)
theorem check23_long (l : List Nd) (h : 2048 < l.length) : DPure Tryz.prog 67 [dNds l] (.int .i64 3) := by
 refine DPure_introF [] (fn := Tryz.f67) Tryz.func67 rfl Tryz.call67 (by simp [Tryz.ntmps67]) (by simp [mx]) ?_
 intro hwf B hnt
 simp only [Tryz.ntmps67] at hnt
 have hA := an_is anRX467 Tryz.mixed (aj2 @anRX467.eq_1 Tryz.results67)
 clear hwf
 simp only [argS]
 have d1 : (2048 : Int) < (l.length : Int) := by omega
 exact go0 aj0 aj0 (aj2 d1 h)
theorem check23_bad (l : List Nd) (h : l.length ≤ 2048) (hw : wholeB l = false) : DPure Tryz.prog 67 [dNds l] (.int .i64 170) := by
 refine DPure_introF [] (fn := Tryz.f67) Tryz.func67 rfl Tryz.call67 (by simp [Tryz.ntmps67]) (by simp [mx]) ?_
 intro hwf B hnt
 simp only [Tryz.ntmps67] at hnt
 have hA := an_is anRX467 Tryz.mixed (aj2 @anRX467.eq_1 Tryz.results67)
 clear hwf
 simp only [argS]
 have k1 := whole56_pure l (by omega)
 rw [hw] at k1
 have d1 : ¬ (2048 : Int) < (l.length : Int) := by omega
 have d2 : ¬ 2048 < l.length := by omega
 exact go0 (aj1 k1) aj0 (aj2 d1 d2)
def anRX4192 : Ann := ⟨[], []⟩
theorem height94_tree (t : RT) (ht : okT t = true) (hs : (flat t).length ≤ 1310720) : DPure Tryz.prog 192 [dNds (flat t)] (.int .i64 (htT t)) := by
 refine DPure_introF [] (fn := Tryz.f192) Tryz.func192 rfl Tryz.call192 (by simp [Tryz.ntmps192]) (by simp [mx]) ?_
 intro hwf B hnt
 simp only [Tryz.ntmps192] at hnt
 have hA := an_is anRX4192 Tryz.mixed (aj2 @anRX4192.eq_1 Tryz.results192)
 clear hwf
 simp only [argS]
 have k1 := whole56_pure (flat t) hs
 rw [tree_whole ht] at k1
 have k2 := height109_pure t ht hs
 exact go0 (aj2 k1 k2) aj0 aj0
theorem height94_bad (l : List Nd) (hs : l.length ≤ 1310720) (hw : wholeB l = false) : DPure Tryz.prog 192 [dNds l] (.int .i64 0) := by
 refine DPure_introF [] (fn := Tryz.f192) Tryz.func192 rfl Tryz.call192 (by simp [Tryz.ntmps192]) (by simp [mx]) ?_
 intro hwf B hnt
 simp only [Tryz.ntmps192] at hnt
 have hA := an_is anRX4192 Tryz.mixed (aj2 @anRX4192.eq_1 Tryz.results192)
 clear hwf
 simp only [argS]
 have k1 := whole56_pure l hs
 rw [hw] at k1
 exact go0 (aj1 k1) aj0 aj0
end Go.Proofs.YtdgocjbakjamaaaGreat
end

section
set_option linter.unusedSectionVars false
/- regular expressions by definition: Kids, heights, texts, the empty word, places -/



set_option linter.unusedSimpArgs false
set_option linter.unusedVariables false
namespace Go.Proofs.YtdgocjbakjamaaaGreat
open Go Go.Dm
variable [DMode]
attribute [local irreducible] DW callP callS
set_option maxRecDepth 100000

structure At (l : List Nd) (p : Nat) (t : RT) : Prop where
 ok : okT t = true
 le : p ≤ l.length
 eq : ∃ r, l.drop p = flat t ++ r
def kidP (p : Nat) (ks : List RT) (i : Nat) : Nat := p + 1 + (flatL (ks.take i)).length
def kidD (n : Nat) : List DVal := [.int .i64 (n : Int)]
def kidsD (p : Nat) (ks : List RT) : DVal := .sl 1 8 ((List.range ks.length).map fun i => kidD (kidP p ks i))
@[simp] theorem mx_kidD (n : Nat) : mxL (kidD n) = 0 := by simp [kidD, mxL, mx]
@[simp] theorem mx_kids (p : Nat) (ks : List RT) (n : Nat) : mxR ((List.range n).map fun i => kidD (kidP p ks i)) = 0 := mxR0 (fun i => kidD (kidP p ks i)) (fun i => mx_kidD _) _
theorem At.top {t : RT} (h : okT t = true) : At (flat t) 0 t := ⟨h, by omega, [], by simp⟩
theorem At.kid {l : List Nd} {p : Nat} {x : Nd} {ks : List RT} (h : At l p (.mk x ks)) {i : Nat} {u : RT} (hu : ks[i]? = some u) : At l (kidP p ks i) u ∧ endN (l.drop (kidP p ks i)) 1 = some (l.drop (kidP p ks (i + 1))) ∧ kidP p ks (i + 1) ≤ l.length := by
 obtain ⟨hok, hle, r, hr⟩ := h
 obtain ⟨_, _, h3⟩ := okT_mk hok
 obtain ⟨hi, rfl⟩ := List.getElem?_eq_some_iff.1 hu
 have hlen : (l.drop p).length = 1 + (flatL ks).length + r.length := by rw [hr, flat_mk, List.length_append, List.length_cons]; omega
 rw [List.length_drop] at hlen
 have hsp := flatL_split ks i
 have hdr := List.drop_eq_getElem_cons hi
 have hnx := flatL_take (ks := ks) hu
 have hfl : (flatL ks).length = (flatL (ks.take i)).length + ((flat ks[i]).length + (flatL (ks.drop (i + 1))).length) := by rw [hsp, List.length_append, hdr, flatL_cons, List.length_append]
 have hdrop : l.drop (kidP p ks i) = flat ks[i] ++ (flatL (ks.drop (i + 1)) ++ r) := by
  unfold kidP
  rw [Nat.add_assoc, ← List.drop_drop, hr, flat_mk, Nat.add_comm 1, List.cons_append, List.drop_succ_cons, hsp, List.append_assoc, List.drop_append_of_le_length (Nat.le_refl _), List.drop_length, List.nil_append, hdr, flatL_cons, List.append_assoc]
 have hoku : okT ks[i] = true := okL_mem h3 _ (List.getElem_mem hi)
 refine ⟨⟨hoku, by unfold kidP; omega, _, hdrop⟩, ?_, by unfold kidP; omega⟩
 rw [hdrop, endN_flat _ _ 0 hoku, endN_zero]
 congr 1
 have h5 : kidP p ks (i + 1) = kidP p ks i + (flat ks[i]).length := by unfold kidP; omega
 have h6 : l.drop (kidP p ks i + (flat ks[i]).length) = (l.drop (kidP p ks i)).drop (flat ks[i]).length := by rw [List.drop_drop]
 rw [h5, h6, hdrop, List.drop_append_of_le_length (Nat.le_refl _), List.drop_length, List.nil_append]
theorem At.head {l : List Nd} {p : Nat} {t : RT} (h : At l p t) : l[p]? = some t.x ∧ p < l.length ∧ p + (flat t).length ≤ l.length := by
 obtain ⟨hok, hle, r, hr⟩ := h
 have h1 := flat_len t
 have h2 := congrArg List.length hr
 rw [List.length_drop, List.length_append] at h2
 refine ⟨?_, by omega, by omega⟩
 have h3 : (l.drop p)[0]? = some t.x := by rw [hr, List.getElem?_append_left (by omega)]; exact flat_head t
 rw [List.getElem?_drop] at h3
 simpa using h3

def anRY2151 : Ann := ⟨[], []⟩
set_option maxHeartbeats 4000000 in
theorem kids81_pure (l : List Nd) (p : Nat) (x : Nd) (ks : List RT) (h : At l p (.mk x ks)) (hs : l.length ≤ 1310720) : DPure Tryz.prog 151 [dNds l, .int .i64 p] (kidsD p ks) := by
 refine DPure_introF [50] (fn := Tryz.f151) Tryz.func151 rfl Tryz.call151 (by simp [Tryz.ntmps151]) (by simp [mx, kidsD]) ?_
 intro hwf B hnt
 simp only [Tryz.ntmps151] at hnt
 have hA := an_is anRY2151 Tryz.mixed (aj2 @anRY2151.eq_1 Tryz.results151)
 clear hwf
 simp only [argS]
 obtain ⟨hm, hn, hok⟩ := okT_mk h.ok
 obtain ⟨g0, gl, ge⟩ := h.head
 have g0' : l[p]'gl = x := (List.getElem?_eq_some_iff.1 g0).2
 have hkl : ks.length ≤ 1310720 := by have := flatL_len ks; rw [flat_mk, List.length_cons] at ge; omega
 simp only [RT.x] at g0
 unfold kidsD
 (refine go1 aj0 aj0 aj0 ?_; intros; refine mk_i ?_)
 refine DW_adoptS 5 50 3 1 8 (by simp [hnt, Tryz.results151, anRY2151]) (fun n => ?_)
 refine DW_loop (X := {i : Nat // i ≤ ks.length}) (fun i => ⟨[(0, dNds l), (1, .int .i64 p), (5, .osl 50 1), (6, .int .i64 (kidP p ks i.1)), (7, .int .i64 i.1)], [⟨50, 1, .row 3 1 8 ((List.range i.1).map fun i => kidD (kidP p ks i))⟩]⟩) (fun i => ks.length - i.1) ⟨0, by omega⟩ (Sub.lit (by simp [kidP, flatL])) ?_
 rintro ⟨i, hi⟩
 simp only
 by_cases hlt : i < ks.length
 ·obtain ⟨u, hu, hu', _⟩ := at_lt' hlt
  obtain ⟨a1, a2, a3⟩ := h.kid hu
  have e1 := end144_pure l (kidP p ks i) hs a1.le
  unfold endI at e1
  rw [a2] at e1
  simp only [List.length_drop] at e1
  have hq : (l.length : Int) - ((l.length - kidP p ks (i + 1) : Nat) : Int) = (kidP p ks (i + 1) : Int) := by omega
  rw [hq] at e1
  have hr : (List.range (i + 1)).map (fun i => kidD (kidP p ks i)) = (List.range i).map (fun i => kidD (kidP p ks i)) ++ [kidD (kidP p ks i)] := by rw [List.range_succ, List.map_append]; rfl
  have z1 : (i + 1) * 8 ≤ 150000000000000 := by omega
  have z2 : i + 1 ≤ 9223372036854775807 := by omega
  obtain ⟨q, hqq⟩ : ∃ q, q = kidP p ks i := ⟨_, rfl⟩
  obtain ⟨q', hqq'⟩ : ∃ q', q' = kidP p ks (i + 1) := ⟨_, rfl⟩
  rw [← hqq, ← hqq'] at e1
  rw [← hqq] at hr ⊢
  have hDm := mx_kids p ks i
  have hDl : ((List.range i).map fun i => kidD (kidP p ks i)).length = i := by simp
  obtain ⟨D, hD⟩ : ∃ D, D = (List.range i).map fun i => kidD (kidP p ks i) := ⟨_, rfl⟩
  rw [← hD] at hr hDm hDl ⊢
  have hr2 : (List.range (i + 1)).map (fun i => kidD (kidP p ks i)) = D ++ [[.int .i64 (q : Int)]] := hr
  clear hD hr
  (refine go1 (aj1 e1) aj0 (aj9 @dNd.eq_1 g0 g0' gl hn hlt z1 z2 hDl) ?_; intros; refine mk_i ?_)
  refine Again.mk ⟨i + 1, by omega⟩ (Sub.lit (by simp only [← hqq', hr2]; simp [hDm, mxR_append])) (by simp; omega)
  skip
 ·have hkk : i = ks.length := by omega
  subst hkk
  exact go0 aj0 aj0 (aj5 @dNd.eq_1 g0 g0' gl hn)
end Go.Proofs.YtdgocjbakjamaaaGreat
end

section
set_option linter.unusedSectionVars false
/- What begins a tree's words, what ends them, what follows: told by lists, and place by place. Plain Lean. -/

set_option linter.unusedSimpArgs false
set_option linter.unusedVariables false
namespace Go.Proofs.YtdgocjbakjamaaaGreat
open Go Go.Dm
variable [DMode]

mutual
def empT : RT → Bool
 | .mk x ks => if x.k = 2 ∨ x.k = 3 then false else if x.k = 5 then anyE ks else if x.k = 4 ∨ x.k = 7 then allE ks else true
def anyE : List RT → Bool
 | [] => false
 | t :: ts => empT t || anyE ts
def allE : List RT → Bool
 | [] => true
 | t :: ts => empT t && allE ts
end
theorem empT_mk (x : Nd) (ks : List RT) : empT (.mk x ks) = if x.k = 2 ∨ x.k = 3 then false else if x.k = 5 then anyE ks else if x.k = 4 ∨ x.k = 7 then allE ks else true := by rw [empT]
theorem anyE_any : ∀ ts : List RT, anyE ts = ts.any empT
 | [] => by rw [anyE]; rfl
 | t :: ts => by rw [anyE, anyE_any ts]; rfl
theorem allE_all : ∀ ts : List RT, allE ts = ts.all empT
 | [] => by rw [allE]; rfl
 | t :: ts => by rw [allE, allE_all ts]; rfl
theorem allE_cons (t : RT) (ts : List RT) : allE (t :: ts) = (empT t && allE ts) := by rw [allE]
theorem allE_nil : allE [] = true := by rw [allE]
theorem allE_snoc (ts : List RT) (t : RT) : allE (ts ++ [t]) = (allE ts && empT t) := by rw [allE_all, allE_all, List.all_append]; simp

def joinP (l f : List Nat) : List (Nat × Nat) := l.flatMap fun p => f.map fun q => (p, q)
theorem mem_joinP {l f : List Nat} {p q : Nat} : (p, q) ∈ joinP l f ↔ p ∈ l ∧ q ∈ f := by
 unfold joinP
 simp only [List.mem_flatMap, List.mem_map, _root_.Prod.mk.injEq]
 constructor
 ·rintro ⟨a, ha, b, hb, rfl, rfl⟩; exact ⟨ha, hb⟩
 ·rintro ⟨ha, hb⟩; exact ⟨p, ha, q, hb, rfl, rfl⟩
theorem joinP_nil (f : List Nat) : joinP [] f = [] := rfl

mutual
def fiT : RT → Nat → List Nat
 | .mk x ks, a => if x.k = 2 ∨ x.k = 3 then [a] else fiL x.k ks (a + 1)
def fiL (k : Int) : List RT → Nat → List Nat
 | [], _ => []
 | u :: us, a => fiT u a ++ (if k = 4 ∧ empT u = false then [] else fiL k us (a + (flat u).length))
end
mutual
def laT : RT → Nat → List Nat
 | .mk x ks, a => if x.k = 2 ∨ x.k = 3 then [a] else laL x.k ks (a + 1)
def laL (k : Int) : List RT → Nat → List Nat
 | [], _ => []
 | u :: us, a => if k = 4 then laL k us (a + (flat u).length) ++ (if allE us = true then laT u a else []) else laT u a ++ laL k us (a + (flat u).length)
end
mutual
def arT : RT → Nat → List (Nat × Nat)
 | .mk x ks, a => if x.k = 2 ∨ x.k = 3 then [] else arL x.k ks (a + 1) [] ++ (if x.k = 6 ∨ x.k = 7 then joinP (laL x.k ks (a + 1)) (fiL x.k ks (a + 1)) else [])
def arL (k : Int) : List RT → Nat → List Nat → List (Nat × Nat)
 | [], _, _ => []
 | u :: us, a, acc => arT u a ++ ((if k = 4 then joinP acc (fiT u a) else []) ++ arL k us (a + (flat u).length) (if k = 4 then laT u a ++ (if empT u = true then acc else []) else []))
end
theorem fiT_mk (x : Nd) (ks : List RT) (a : Nat) : fiT (.mk x ks) a = if x.k = 2 ∨ x.k = 3 then [a] else fiL x.k ks (a + 1) := by rw [fiT]
theorem fiL_nil (k : Int) (a : Nat) : fiL k [] a = [] := by rw [fiL]
theorem fiL_cons (k : Int) (u : RT) (us : List RT) (a : Nat) : fiL k (u :: us) a = fiT u a ++ (if k = 4 ∧ empT u = false then [] else fiL k us (a + (flat u).length)) := by rw [fiL]
theorem laT_mk (x : Nd) (ks : List RT) (a : Nat) : laT (.mk x ks) a = if x.k = 2 ∨ x.k = 3 then [a] else laL x.k ks (a + 1) := by rw [laT]
theorem laL_nil (k : Int) (a : Nat) : laL k [] a = [] := by rw [laL]
theorem laL_cons (k : Int) (u : RT) (us : List RT) (a : Nat) : laL k (u :: us) a = if k = 4 then laL k us (a + (flat u).length) ++ (if allE us = true then laT u a else []) else laT u a ++ laL k us (a + (flat u).length) := by rw [laL]
theorem arT_mk (x : Nd) (ks : List RT) (a : Nat) : arT (.mk x ks) a = if x.k = 2 ∨ x.k = 3 then [] else arL x.k ks (a + 1) [] ++ (if x.k = 6 ∨ x.k = 7 then joinP (laL x.k ks (a + 1)) (fiL x.k ks (a + 1)) else []) := by rw [arT]
theorem arL_nil (k : Int) (a : Nat) (acc : List Nat) : arL k [] a acc = [] := by rw [arL]
theorem arL_cons (k : Int) (u : RT) (us : List RT) (a : Nat) (acc : List Nat) : arL k (u :: us) a acc = arT u a ++ ((if k = 4 then joinP acc (fiT u a) else []) ++ arL k us (a + (flat u).length) (if k = 4 then laT u a ++ (if empT u = true then acc else []) else [])) := by rw [arL]
theorem flatL_nil : flatL [] = [] := by rw [flatL]

theorem fiL_snoc (k : Int) (u : RT) : ∀ (us : List RT) (a : Nat), fiL k (us ++ [u]) a = fiL k us a ++ (if k = 4 ∧ allE us = false then [] else fiT u (a + (flatL us).length))
 | [], a => by simp [fiL_nil, fiL_cons, allE_nil, flatL_nil]
 | v :: us, a => by
  rw [List.cons_append, fiL_cons, fiL_cons, fiL_snoc k u us, allE_cons, flatL_cons, List.length_append, ← Nat.add_assoc, List.append_assoc]
  by_cases h4 : k = 4 <;> cases hv : empT v <;> simp [h4]
theorem laL_snoc (k : Int) (u : RT) : ∀ (us : List RT) (a : Nat), laL k (us ++ [u]) a = if k = 4 then laT u (a + (flatL us).length) ++ (if empT u = true then laL k us a else []) else laL k us a ++ laT u (a + (flatL us).length)
 | [], a => by simp [laL_nil, laL_cons, allE_nil, flatL_nil]
 | v :: us, a => by
  rw [List.cons_append, laL_cons, laL_cons, laL_snoc k u us, allE_snoc, flatL_cons, List.length_append, ← Nat.add_assoc]
  by_cases h4 : k = 4
  ·cases hu : empT u <;> cases hs : allE us <;> simp [h4]
  ·simp [h4]
theorem arL_snoc4 (u : RT) : ∀ (us : List RT) (a : Nat) (acc : List Nat), arL 4 (us ++ [u]) a acc = arL 4 us a acc ++ (arT u (a + (flatL us).length) ++ joinP (laL 4 us a ++ (if allE us = true then acc else [])) (fiT u (a + (flatL us).length)))
 | [], a, acc => by simp [arL_nil, arL_cons, laL_nil, allE_nil, flatL_nil]
 | v :: us, a, acc => by
  rw [List.cons_append, arL_cons, arL_cons, arL_snoc4 u us, allE_cons, flatL_cons, List.length_append, ← Nat.add_assoc, laL_cons]
  cases hv : empT v <;> cases hs : allE us <;> simp [List.append_assoc]
theorem arL_snoc (k : Int) (h4 : ¬ k = 4) (u : RT) : ∀ (us : List RT) (a : Nat), arL k (us ++ [u]) a [] = arL k us a [] ++ arT u (a + (flatL us).length)
 | [], a => by simp [arL_nil, arL_cons, flatL_nil, h4]
 | v :: us, a => by
  rw [List.cons_append, arL_cons, arL_cons, flatL_cons, List.length_append, ← Nat.add_assoc]
  simp only [h4, if_false, List.nil_append]
  rw [arL_snoc k h4 u us, List.append_assoc]

-- where these lie
mutual
theorem fiT_in : ∀ (t : RT) (a q : Nat), q ∈ fiT t a → a ≤ q ∧ q < a + (flat t).length
 | .mk x ks, a, q, h => by
  rw [fiT_mk] at h
  rw [flat_mk, List.length_cons]
  split at h
  ·simp at h; omega
  ·have := fiL_in x.k ks (a + 1) q h; omega
theorem fiL_in (k : Int) : ∀ (us : List RT) (a q : Nat), q ∈ fiL k us a → a ≤ q ∧ q < a + (flatL us).length
 | [], a, q, h => by simp [fiL_nil] at h
 | u :: us, a, q, h => by
  rw [fiL_cons, List.mem_append] at h
  rw [flatL_cons, List.length_append]
  rcases h with h | h
  ·have := fiT_in u a q h; omega
  ·split at h
   ·simp at h
   ·have := fiL_in k us _ q h; omega
end
mutual
theorem laT_in : ∀ (t : RT) (a q : Nat), q ∈ laT t a → a ≤ q ∧ q < a + (flat t).length
 | .mk x ks, a, q, h => by
  rw [laT_mk] at h
  rw [flat_mk, List.length_cons]
  split at h
  ·simp at h; omega
  ·have := laL_in x.k ks (a + 1) q h; omega
theorem laL_in (k : Int) : ∀ (us : List RT) (a q : Nat), q ∈ laL k us a → a ≤ q ∧ q < a + (flatL us).length
 | [], a, q, h => by simp [laL_nil] at h
 | u :: us, a, q, h => by
  rw [laL_cons] at h
  rw [flatL_cons, List.length_append]
  have key : q ∈ laT u a ∨ q ∈ laL k us (a + (flat u).length) := by
   split at h
   ·rcases List.mem_append.1 h with h | h
    ·exact .inr h
    ·split at h
     ·exact .inl h
     ·simp at h
   ·exact List.mem_append.1 h
  rcases key with h | h
  ·have := laT_in u a q h; omega
  ·have := laL_in k us _ q h; omega
end
mutual
theorem arT_in : ∀ (t : RT) (a p q : Nat), (p, q) ∈ arT t a → (a ≤ p ∧ p < a + (flat t).length) ∧ (a ≤ q ∧ q < a + (flat t).length)
 | .mk x ks, a, p, q, h => by
  rw [arT_mk] at h
  rw [flat_mk, List.length_cons]
  split at h
  ·simp at h
  ·rcases List.mem_append.1 h with h | h
   ·rcases arL_in x.k ks (a + 1) [] p q h with ⟨h1 | h1, h2⟩
    ·omega
    ·simp at h1
   ·split at h
    ·obtain ⟨h1, h2⟩ := mem_joinP.1 h
     have := laL_in x.k ks _ p h1
     have := fiL_in x.k ks _ q h2
     omega
    ·simp at h
theorem arL_in (k : Int) : ∀ (us : List RT) (a : Nat) (acc : List Nat) (p q : Nat), (p, q) ∈ arL k us a acc → ((a ≤ p ∧ p < a + (flatL us).length) ∨ p ∈ acc) ∧ (a ≤ q ∧ q < a + (flatL us).length)
 | [], a, acc, p, q, h => by simp [arL_nil] at h
 | u :: us, a, acc, p, q, h => by
  rw [arL_cons] at h
  rw [flatL_cons, List.length_append]
  simp only [List.mem_append] at h
  rcases h with h | h | h
  ·have := arT_in u a p q h; omega
  ·split at h
   ·obtain ⟨h1, h2⟩ := mem_joinP.1 h
    have := fiT_in u a q h2
    exact ⟨.inr h1, by omega⟩
   ·simp at h
  ·obtain ⟨h1, h2⟩ := arL_in k us _ _ p q h
   refine ⟨?_, by omega⟩
   rcases h1 with h1 | h1
   ·left; omega
   ·split at h1
    ·rcases List.mem_append.1 h1 with h1 | h1
     ·have := laT_in u a p h1; left; omega
     ·split at h1
      ·exact .inr h1
      ·simp at h1
    ·simp at h1
end

def inB (u : RT) (a p : Nat) : Bool := decide (a ≤ p) && decide (p < a + (flat u).length)
theorem inB_iff {u : RT} {a p : Nat} : inB u a p = true ↔ a ≤ p ∧ p < a + (flat u).length := by unfold inB; simp
theorem inB_f {u : RT} {a p : Nat} (h : p < a ∨ a + (flat u).length ≤ p) : inB u a p = false := by
 rw [Bool.eq_false_iff]; intro hh; rw [inB_iff] at hh; omega
mutual
def bgT : RT → Nat → Nat → Bool
 | .mk x ks, a, p => decide (a = p) || bgL x.k ks (a + 1) p
def bgL (k : Int) : List RT → Nat → Nat → Bool
 | [], _, _ => false
 | u :: us, a, p => (inB u a p && bgT u a p) || (if k = 4 ∧ empT u = false then false else bgL k us (a + (flat u).length) p)
end
mutual
def enT : RT → Nat → Nat → Bool
 | .mk x ks, a, p => decide (a = p) || enL x.k ks (a + 1) p
def enL (k : Int) : List RT → Nat → Nat → Bool
 | [], _, _ => false
 | u :: us, a, p => enL k us (a + (flat u).length) p || ((!decide (k = 4) || allE us) && (inB u a p && enT u a p))
end
def afL : List RT → Nat → Nat → Bool
 | [], _, _ => false
 | u :: us, a, q => if inB u a q then bgT u a q else if empT u then afL us (a + (flat u).length) q else false
def irL : List RT → Nat → Nat → Nat → Bool
 | [], _, _, _ => false
 | u :: us, a, p, q => if inB u a p then enT u a p && afL us (a + (flat u).length) q else irL us (a + (flat u).length) p q
def hdL : List RT → Nat → Nat → Nat → Bool
 | [], _, _, _ => false
 | u :: _, a, p, q => enT u a p && bgT u a q
mutual
def foT : RT → Nat → Nat → Nat → Bool
 | .mk x ks, a, p, q => if (decide (x.k = 6) || decide (x.k = 7)) && hdL ks (a + 1) p q then true else match foL ks (a + 1) p q with
  | some b => b
  | none => decide (x.k = 4) && irL ks (a + 1) p q
def foL : List RT → Nat → Nat → Nat → Option Bool
 | [], _, _, _ => none
 | u :: us, a, p, q => if inB u a p && inB u a q then some (foT u a p q) else foL us (a + (flat u).length) p q
end
theorem bgT_mk (x : Nd) (ks : List RT) (a p : Nat) : bgT (.mk x ks) a p = (decide (a = p) || bgL x.k ks (a + 1) p) := by rw [bgT]
theorem bgL_nil (k : Int) (a p : Nat) : bgL k [] a p = false := by rw [bgL]
theorem bgL_cons (k : Int) (u : RT) (us : List RT) (a p : Nat) : bgL k (u :: us) a p = ((inB u a p && bgT u a p) || (if k = 4 ∧ empT u = false then false else bgL k us (a + (flat u).length) p)) := by rw [bgL]
theorem enT_mk (x : Nd) (ks : List RT) (a p : Nat) : enT (.mk x ks) a p = (decide (a = p) || enL x.k ks (a + 1) p) := by rw [enT]
theorem enL_nil (k : Int) (a p : Nat) : enL k [] a p = false := by rw [enL]
theorem enL_cons (k : Int) (u : RT) (us : List RT) (a p : Nat) : enL k (u :: us) a p = (enL k us (a + (flat u).length) p || ((!decide (k = 4) || allE us) && (inB u a p && enT u a p))) := by rw [enL]
theorem enL_snoc (k : Int) (u : RT) (p : Nat) : ∀ (us : List RT) (a : Nat), enL k (us ++ [u]) a p = ((inB u (a + (flatL us).length) p && enT u (a + (flatL us).length) p) || (if k = 4 ∧ empT u = false then false else enL k us a p))
 | [], a => by simp [enL_nil, enL_cons, allE_nil, flatL_nil]
 | v :: us, a => by
  rw [List.cons_append, enL_cons, enL_cons, enL_snoc k u p us, allE_snoc, flatL_cons, List.length_append, ← Nat.add_assoc]
  by_cases h4 : k = 4
  ·cases hu : empT u <;> cases hs : allE us <;> simp [h4, Bool.or_assoc]
  ·simp [h4, Bool.or_assoc]
theorem foT_mk (x : Nd) (ks : List RT) (a p q : Nat) : foT (.mk x ks) a p q = if (decide (x.k = 6) || decide (x.k = 7)) && hdL ks (a + 1) p q then true else match foL ks (a + 1) p q with
 | some b => b
 | none => decide (x.k = 4) && irL ks (a + 1) p q := by rw [foT]
theorem foL_nil (a p q : Nat) : foL [] a p q = none := by rw [foL]
theorem foL_cons (u : RT) (us : List RT) (a p q : Nat) : foL (u :: us) a p q = if inB u a p && inB u a q then some (foT u a p q) else foL us (a + (flat u).length) p q := by rw [foL]

theorem afL_low : ∀ (us : List RT) (a q : Nat), q < a → afL us a q = false
 | [], _, _, _ => rfl
 | u :: us, a, q, h => by
  rw [afL, inB_f (.inl h)]
  simp only [Bool.false_eq_true, if_false]
  rw [afL_low us _ q (by omega)]
  simp
theorem irL_low : ∀ (us : List RT) (a p q : Nat), p < a ∨ q < a → irL us a p q = false
 | [], _, _, _, _ => rfl
 | u :: us, a, p, q, h => by
  rw [irL]
  split
  ·rename_i hp
   rw [inB_iff] at hp
   rw [afL_low us _ q (by omega), Bool.and_false]
  ·exact irL_low us _ p q (by omega)
theorem foL_low : ∀ (us : List RT) (a p q : Nat), p < a ∨ q < a → foL us a p q = none
 | [], _, _, _, _ => by rw [foL_nil]
 | u :: us, a, p, q, h => by
  rw [foL_cons, if_neg]
  ·exact foL_low us _ p q (by omega)
  ·intro hh
   rw [Bool.and_eq_true, inB_iff, inB_iff] at hh
   omega

def Lf (l : List Nd) (a p : Nat) : Prop := ∀ x, a ≤ p → l[p - a]? = some x → x.k = 2 ∨ x.k = 3
theorem Lf.left {l m : List Nd} {a p : Nat} (h : Lf (l ++ m) a p) : Lf l a p := fun x h1 h2 => h x h1 (by
 rw [List.getElem?_append_left (List.getElem?_eq_some_iff.1 h2).1]; exact h2)
theorem Lf.right {l m : List Nd} {a p : Nat} (h : Lf (l ++ m) a p) : Lf m (a + l.length) p := fun x h1 h2 => h x (by omega) (by
 rw [List.getElem?_append_right (by omega), Nat.sub_sub]; exact h2)
theorem Lf.kids {x : Nd} {ks : List RT} {a p : Nat} (h : Lf (flat (.mk x ks)) a p) : Lf (flatL ks) (a + 1) p := fun y h1 h2 => h y (by omega) (by
 rw [flat_mk, show p - a = (p - (a + 1)) + 1 by omega, List.getElem?_cons_succ]; exact h2)
theorem Lf.head {x : Nd} {ks : List RT} {a p : Nat} (h : Lf (flat (.mk x ks)) a p) (hx : ¬ (x.k = 2 ∨ x.k = 3)) : a ≠ p := fun e => hx (h x (by omega) (by rw [flat_mk, show p - a = 0 by omega]; rfl))
theorem leaf_nil {x : Nd} {ks : List RT} (h : okT (.mk x ks) = true) (hx : x.k = 2 ∨ x.k = 3) : ks = [] := by
 obtain ⟨h1, h2, _⟩ := okT_mk h
 unfold mayN at h1
 have h0 : x.n = 0 := by
  rcases hx with hx | hx
  ·rw [if_neg (by omega), if_pos hx] at h1; simp only [Bool.and_eq_true, decide_eq_true_eq] at h1; exact h1.1
  ·rw [if_neg (by omega), if_neg (by omega), if_pos hx] at h1; simp only [Bool.and_eq_true, decide_eq_true_eq] at h1; exact h1.1
 exact List.eq_nil_of_length_eq_zero (by omega)
theorem one_kid {x : Nd} {ks : List RT} (h : okT (.mk x ks) = true) (hx : x.k = 6 ∨ x.k = 7 ∨ x.k = 8) : ∃ u, ks = [u] := by
 obtain ⟨h1, h2, _⟩ := okT_mk h
 unfold mayN at h1
 have h0 : x.n = 1 := by
  rcases hx with hx | hx | hx <;> simp [hx] at h1 <;> exact h1.2
 exact List.length_eq_one_iff.1 (by omega)

mutual
theorem bg_iff : ∀ (t : RT) (a p : Nat), okT t = true → Lf (flat t) a p → (p ∈ fiT t a ↔ bgT t a p = true)
 | .mk x ks, a, p, ok, hl => by
  rw [fiT_mk, bgT_mk]
  by_cases hx : x.k = 2 ∨ x.k = 3
  ·rw [if_pos hx, leaf_nil ok hx, bgL_nil]
   simp only [List.mem_singleton, Bool.or_false, decide_eq_true_eq]
   exact eq_comm
  ·have hne := hl.head hx
   rw [if_neg hx, decide_eq_false hne, Bool.false_or]
   exact bgL_iff x.k ks (a + 1) p (okT_mk ok).2.2 hl.kids
theorem bgL_iff (k : Int) : ∀ (us : List RT) (a p : Nat), okL us = true → Lf (flatL us) a p → (p ∈ fiL k us a ↔ bgL k us a p = true)
 | [], a, p, _, _ => by simp [fiL_nil, bgL_nil]
 | u :: us, a, p, ok, hl => by
  obtain ⟨ok1, ok2⟩ := okL_cons ok
  rw [flatL_cons] at hl
  have i1 := bg_iff u a p ok1 hl.left
  have i2 := bgL_iff k us _ p ok2 hl.right
  rw [fiL_cons, bgL_cons, List.mem_append, Bool.or_eq_true, Bool.and_eq_true]
  have e1 : p ∈ fiT u a ↔ (inB u a p = true ∧ bgT u a p = true) := by
   rw [← i1]
   exact ⟨fun h => ⟨inB_iff.2 (fiT_in u a p h), h⟩, fun h => h.2⟩
  rw [e1]
  by_cases hc : k = 4 ∧ empT u = false
  ·rw [if_pos hc, if_pos hc]; simp
  ·rw [if_neg hc, if_neg hc, i2]
end
mutual
theorem en_iff : ∀ (t : RT) (a p : Nat), okT t = true → Lf (flat t) a p → (p ∈ laT t a ↔ enT t a p = true)
 | .mk x ks, a, p, ok, hl => by
  rw [laT_mk, enT_mk]
  by_cases hx : x.k = 2 ∨ x.k = 3
  ·rw [if_pos hx, leaf_nil ok hx, enL_nil]
   simp only [List.mem_singleton, Bool.or_false, decide_eq_true_eq]
   exact eq_comm
  ·have hne := hl.head hx
   rw [if_neg hx, decide_eq_false hne, Bool.false_or]
   exact enL_iff x.k ks (a + 1) p (okT_mk ok).2.2 hl.kids
theorem enL_iff (k : Int) : ∀ (us : List RT) (a p : Nat), okL us = true → Lf (flatL us) a p → (p ∈ laL k us a ↔ enL k us a p = true)
 | [], a, p, _, _ => by simp [laL_nil, enL_nil]
 | u :: us, a, p, ok, hl => by
  obtain ⟨ok1, ok2⟩ := okL_cons ok
  rw [flatL_cons] at hl
  have i1 := en_iff u a p ok1 hl.left
  have i2 := enL_iff k us _ p ok2 hl.right
  rw [laL_cons, enL_cons, Bool.or_eq_true, Bool.and_eq_true, Bool.and_eq_true, ← i2]
  have e1 : p ∈ laT u a ↔ (inB u a p = true ∧ enT u a p = true) := by
   rw [← i1]
   exact ⟨fun h => ⟨inB_iff.2 (laT_in u a p h), h⟩, fun h => h.2⟩
  rw [← e1]
  by_cases h4 : k = 4
  ·rw [if_pos h4, List.mem_append]
   cases hs : allE us <;> simp [h4]
  ·rw [if_neg h4, List.mem_append]
   simp only [h4, decide_false, Bool.not_false, Bool.true_or, true_and]
   exact or_comm
end

mutual
theorem fo_iff : ∀ (t : RT) (a p q : Nat), okT t = true → Lf (flat t) a p → Lf (flat t) a q → ((p, q) ∈ arT t a ↔ foT t a p q = true)
 | .mk x ks, a, p, q, ok, hp, hq => by
  rw [arT_mk, foT_mk]
  obtain ⟨_, _, ok2⟩ := okT_mk ok
  by_cases hx : x.k = 2 ∨ x.k = 3
  ·rw [if_pos hx, leaf_nil ok hx, foL_nil, decide_eq_false (by omega), decide_eq_false (by omega), decide_eq_false (by omega)]
   simp
  ·rw [if_neg hx, List.mem_append]
   have hL := foL_iff x.k ks (a + 1) [] p q ok2 hp.kids hq.kids (by simp)
   simp only [List.not_mem_nil, false_and, or_false] at hL
   rw [hL]
   by_cases h67 : x.k = 6 ∨ x.k = 7
   ·rw [if_pos h67, mem_joinP]
    have h4 : ¬ x.k = 4 := by omega
    have hk : x.k = 6 ∨ x.k = 7 ∨ x.k = 8 := by omega
    obtain ⟨u, rfl⟩ := one_kid ok hk
    rw [enL_iff x.k [u] (a + 1) p ok2 hp.kids, bgL_iff x.k [u] (a + 1) q ok2 hq.kids]
    have h1 : enL x.k [u] (a + 1) p = (inB u (a + 1) p && enT u (a + 1) p) := by rw [enL_cons, enL_nil, allE_nil]; simp
    have h2 : bgL x.k [u] (a + 1) q = (inB u (a + 1) q && bgT u (a + 1) q) := by rw [bgL_cons, bgL_nil]; simp
    have h3 : hdL [u] (a + 1) p q = (enT u (a + 1) p && bgT u (a + 1) q) := rfl
    have i1 : enT u (a + 1) p = true → inB u (a + 1) p = true := fun h => inB_iff.2 (laT_in u _ p ((en_iff u (a + 1) p (okL_cons ok2).1 (by have := hp.kids; rw [flatL_cons, flatL_nil, List.append_nil] at this; exact this)).2 h))
    have i2 : bgT u (a + 1) q = true → inB u (a + 1) q = true := fun h => inB_iff.2 (fiT_in u _ q ((bg_iff u (a + 1) q (okL_cons ok2).1 (by have := hq.kids; rw [flatL_cons, flatL_nil, List.append_nil] at this; exact this)).2 h))
    have e67 : (decide (x.k = 6) || decide (x.k = 7)) = true := by simpa using h67
    rw [h1, h2, h3, e67, Bool.true_and]
    simp only [h4, decide_false, Bool.false_and, false_and, or_false, Bool.and_eq_true]
    by_cases hh : enT u (a + 1) p = true ∧ bgT u (a + 1) q = true
    ·rw [if_pos hh]
     simp only [iff_true]
     exact .inr ⟨⟨i1 hh.1, hh.1⟩, i2 hh.2, hh.2⟩
    ·rw [if_neg hh]
     cases hf : foL [u] (a + 1) p q with
     | none =>
      simp only [reduceCtorEq, false_or]
      exact ⟨fun h => absurd ⟨h.1.2, h.2.2⟩ hh, fun h => by simp at h⟩
     | some b =>
      simp only [Option.some.injEq]
      exact ⟨fun h => by rcases h with h | h; exact h; exact absurd ⟨h.1.2, h.2.2⟩ hh, fun h => .inl h⟩
   ·have e67 : (decide (x.k = 6) || decide (x.k = 7)) = false := by rw [Bool.eq_false_iff]; simpa using h67
    rw [if_neg h67, e67, Bool.false_and]
    simp only [Bool.false_eq_true, if_false, List.not_mem_nil, or_false]
    cases hf : foL ks (a + 1) p q with
    | none => simp
    | some b => simp
theorem foL_iff (k : Int) : ∀ (us : List RT) (a : Nat) (acc : List Nat) (p q : Nat), okL us = true → Lf (flatL us) a p → Lf (flatL us) a q → (∀ r ∈ acc, r < a) →
  ((p, q) ∈ arL k us a acc ↔ (foL us a p q = some true ∨ (k = 4 ∧ foL us a p q = none ∧ (irL us a p q = true ∨ (p ∈ acc ∧ afL us a q = true)))))
 | [], a, acc, p, q, _, _, _, _ => by simp [arL_nil, foL_nil, irL, afL]
 | u :: us, a, acc, p, q, ok, hp, hq, hacc => by
  obtain ⟨ok1, ok2⟩ := okL_cons ok
  rw [flatL_cons] at hp hq
  have iT := fo_iff u a p q ok1 hp.left hq.left
  have ib := bg_iff u a q ok1 hq.left
  have ie := en_iff u a p ok1 hp.left
  have rT := arT_in u a p q
  have rf := fiT_in u a q
  have rl := laT_in u a p
  have racc : p ∈ acc → p < a := hacc p
  obtain ⟨a', ha'⟩ : ∃ a', a' = a + (flat u).length := ⟨_, rfl⟩
  obtain ⟨acc', hacc'⟩ : ∃ acc', acc' = (if k = 4 then laT u a ++ (if empT u = true then acc else []) else []) := ⟨_, rfl⟩
  have hlt : ∀ r ∈ acc', r < a' := by
   intro r hr
   rw [hacc'] at hr
   split at hr
   ·rcases List.mem_append.1 hr with hr | hr
    ·have := laT_in u a r hr; omega
    ·split at hr
     ·have := hacc r hr; omega
     ·simp at hr
   ·simp at hr
  have iL := foL_iff k us a' acc' p q ok2 (ha' ▸ hp.right) (ha' ▸ hq.right) hlt
  have macc : k = 4 → (p ∈ acc' ↔ p ∈ laT u a ∨ (empT u = true ∧ p ∈ acc)) := by
   intro h4
   rw [hacc', if_pos h4, List.mem_append]
   cases empT u <;> simp
  rw [arL_cons, foL_cons, irL, afL, ← ha', ← hacc', List.mem_append, List.mem_append, iL, iT]
  have mj : (p, q) ∈ (if k = 4 then joinP acc (fiT u a) else []) ↔ k = 4 ∧ p ∈ acc ∧ q ∈ fiT u a := by
   by_cases h4 : k = 4 <;> simp [h4, mem_joinP]
  rw [mj]
  clear hp hq hacc hlt iL mj hacc'
  by_cases bp : inB u a p = true
  ·have bp' := inB_iff.1 bp
   have hna : ¬ p ∈ acc := fun h => by have := racc h; omega
   by_cases bq : inB u a q = true
   ·have bq' := inB_iff.1 bq
    rw [bp, bq, foL_low us a' p q (by omega), irL_low us a' p q (by omega), afL_low us a' q (by omega)]
    simp [hna]
   ·have bq' : ¬ (a ≤ q ∧ q < a + (flat u).length) := fun h => bq (inB_iff.2 h)
    have hnT : ¬ foT u a p q = true := fun h => bq' (rT (iT.2 h)).2
    rw [Bool.not_eq_true] at bq
    rw [bp, bq, foL_low us a' p q (by omega), irL_low us a' p q (by omega)]
    simp only [hnT, hna, Bool.and_false, Bool.false_eq_true, if_false, if_true, false_and, and_false, false_or, or_false, reduceCtorEq, true_and, Bool.and_eq_true]
    constructor
    ·rintro ⟨h4, h1, h2⟩
     rw [macc h4] at h1
     rcases h1 with h1 | h1
     ·exact ⟨h4, ie.1 h1, h2⟩
     ·exact absurd h1.2 hna
    ·rintro ⟨h4, h1, h2⟩
     exact ⟨h4, (macc h4).2 (.inl (ie.2 h1)), h2⟩
  ·have bp' : ¬ (a ≤ p ∧ p < a + (flat u).length) := fun h => bp (inB_iff.2 h)
   have hnT : ¬ foT u a p q = true := fun h => bp' (rT (iT.2 h)).1
   have hnl : ¬ p ∈ laT u a := fun h => bp' (rl h)
   rw [Bool.not_eq_true] at bp
   by_cases bq : inB u a q = true
   ·have bq' := inB_iff.1 bq
    rw [bp, bq, foL_low us a' p q (by omega), irL_low us a' p q (by omega), afL_low us a' q (by omega)]
    simp only [hnT, Bool.false_and, Bool.false_eq_true, if_false, if_true, false_and, and_false, false_or, or_false, reduceCtorEq, true_and]
    rw [ib]
   ·have bq' : ¬ (a ≤ q ∧ q < a + (flat u).length) := fun h => bq (inB_iff.2 h)
    have hnf : ¬ q ∈ fiT u a := fun h => bq' (rf h)
    rw [Bool.not_eq_true] at bq
    rw [bp, bq]
    simp only [hnT, hnf, Bool.false_and, Bool.false_eq_true, if_false, and_false, false_or]
    by_cases h4 : k = 4
    ·rw [macc h4]
     cases empT u <;> simp [hnl]
    ·simp [h4]
end

mutual
theorem la_nodup : ∀ (t : RT) (a : Nat), (laT t a).Nodup
 | .mk x ks, a => by
  rw [laT_mk]
  split
  ·simp
  ·exact laL_nodup x.k ks (a + 1)
theorem laL_nodup (k : Int) : ∀ (us : List RT) (a : Nat), (laL k us a).Nodup
 | [], a => by rw [laL_nil]; simp
 | u :: us, a => by
  have h1 := la_nodup u a
  have h2 := laL_nodup k us (a + (flat u).length)
  rw [laL_cons]
  split
  ·refine List.nodup_append.2 ⟨h2, ?_, ?_⟩
   ·split
    ·exact h1
    ·simp
   ·rintro x hx y hy rfl
    split at hy
    ·have := laL_in k us _ x hx
     have := laT_in u a x hy
     omega
    ·simp at hy
  ·refine List.nodup_append.2 ⟨h1, h2, ?_⟩
   rintro x hx y hy rfl
   have := laL_in k us _ x hy
   have := laT_in u a x hx
   omega
end

-- what begins and ends are occurrences
mutual
theorem fiT_leaf : ∀ (t : RT) (a q : Nat), q ∈ fiT t a → ∃ x, (flat t)[q - a]? = some x ∧ (x.k = 2 ∨ x.k = 3)
 | .mk x ks, a, q, h => by
  rw [fiT_mk] at h
  split at h
  ·rename_i hx
   simp at h
   subst h
   exact ⟨x, by rw [flat_mk, Nat.sub_self]; rfl, hx⟩
  ·have h1 := fiL_in x.k ks _ q h
   obtain ⟨y, hy, hk⟩ := fiL_leaf x.k ks _ q h
   refine ⟨y, ?_, hk⟩
   rw [flat_mk, show q - a = (q - (a + 1)) + 1 by omega, List.getElem?_cons_succ]
   exact hy
theorem fiL_leaf (k : Int) : ∀ (us : List RT) (a q : Nat), q ∈ fiL k us a → ∃ x, (flatL us)[q - a]? = some x ∧ (x.k = 2 ∨ x.k = 3)
 | [], a, q, h => by simp [fiL_nil] at h
 | u :: us, a, q, h => by
  rw [fiL_cons, List.mem_append] at h
  rw [flatL_cons]
  rcases h with h | h
  ·have h1 := fiT_in u a q h
   obtain ⟨y, hy, hk⟩ := fiT_leaf u a q h
   exact ⟨y, by rw [List.getElem?_append_left (by omega)]; exact hy, hk⟩
  ·split at h
   ·simp at h
   ·have h1 := fiL_in k us _ q h
    obtain ⟨y, hy, hk⟩ := fiL_leaf k us _ q h
    exact ⟨y, by rw [List.getElem?_append_right (by omega), Nat.sub_sub]; exact hy, hk⟩
end
mutual
theorem laT_leaf : ∀ (t : RT) (a q : Nat), q ∈ laT t a → ∃ x, (flat t)[q - a]? = some x ∧ (x.k = 2 ∨ x.k = 3)
 | .mk x ks, a, q, h => by
  rw [laT_mk] at h
  split at h
  ·rename_i hx
   simp at h
   subst h
   exact ⟨x, by rw [flat_mk, Nat.sub_self]; rfl, hx⟩
  ·have h1 := laL_in x.k ks _ q h
   obtain ⟨y, hy, hk⟩ := laL_leaf x.k ks _ q h
   refine ⟨y, ?_, hk⟩
   rw [flat_mk, show q - a = (q - (a + 1)) + 1 by omega, List.getElem?_cons_succ]
   exact hy
theorem laL_leaf (k : Int) : ∀ (us : List RT) (a q : Nat), q ∈ laL k us a → ∃ x, (flatL us)[q - a]? = some x ∧ (x.k = 2 ∨ x.k = 3)
 | [], a, q, h => by simp [laL_nil] at h
 | u :: us, a, q, h => by
  rw [laL_cons] at h
  rw [flatL_cons]
  have key : q ∈ laT u a ∨ q ∈ laL k us (a + (flat u).length) := by
   split at h
   ·rcases List.mem_append.1 h with h | h
    ·exact .inr h
    ·split at h
     ·exact .inl h
     ·simp at h
   ·exact List.mem_append.1 h
  rcases key with h | h
  ·have h1 := laT_in u a q h
   obtain ⟨y, hy, hk⟩ := laT_leaf u a q h
   exact ⟨y, by rw [List.getElem?_append_left (by omega)]; exact hy, hk⟩
  ·have h1 := laL_in k us _ q h
   obtain ⟨y, hy, hk⟩ := laL_leaf k us _ q h
   exact ⟨y, by rw [List.getElem?_append_right (by omega), Nat.sub_sub]; exact hy, hk⟩
end
mutual
theorem arT_leaf : ∀ (t : RT) (a p q : Nat), (p, q) ∈ arT t a → (∃ x, (flat t)[p - a]? = some x ∧ (x.k = 2 ∨ x.k = 3)) ∧ (∃ x, (flat t)[q - a]? = some x ∧ (x.k = 2 ∨ x.k = 3))
 | .mk x ks, a, p, q, h => by
  rw [arT_mk] at h
  have lift : ∀ r, a + 1 ≤ r → (∃ x, (flatL ks)[r - (a + 1)]? = some x ∧ (x.k = 2 ∨ x.k = 3)) → ∃ y, (flat (.mk x ks))[r - a]? = some y ∧ (y.k = 2 ∨ y.k = 3) := by
   rintro r hr ⟨y, hy, hk⟩
   refine ⟨y, ?_, hk⟩
   rw [flat_mk, show r - a = (r - (a + 1)) + 1 by omega, List.getElem?_cons_succ]
   exact hy
  split at h
  ·simp at h
  ·rcases List.mem_append.1 h with h | h
   ·have h1 := arL_in x.k ks _ [] p q h
    obtain ⟨h2, h3⟩ := arL_leaf x.k ks _ [] p q h
    simp only [List.not_mem_nil, or_false] at h1 h2
    exact ⟨lift p h1.1.1 h2, lift q h1.2.1 h3⟩
   ·split at h
    ·obtain ⟨h1, h2⟩ := mem_joinP.1 h
     exact ⟨lift p (laL_in x.k ks _ p h1).1 (laL_leaf x.k ks _ p h1), lift q (fiL_in x.k ks _ q h2).1 (fiL_leaf x.k ks _ q h2)⟩
    ·simp at h
theorem arL_leaf (k : Int) : ∀ (us : List RT) (a : Nat) (acc : List Nat) (p q : Nat), (p, q) ∈ arL k us a acc → ((∃ x, (flatL us)[p - a]? = some x ∧ (x.k = 2 ∨ x.k = 3)) ∨ p ∈ acc) ∧ (∃ x, (flatL us)[q - a]? = some x ∧ (x.k = 2 ∨ x.k = 3))
 | [], a, acc, p, q, h => by simp [arL_nil] at h
 | u :: us, a, acc, p, q, h => by
  rw [arL_cons] at h
  rw [flatL_cons]
  have l1 : ∀ r, a ≤ r ∧ r < a + (flat u).length → (∃ x, (flat u)[r - a]? = some x ∧ (x.k = 2 ∨ x.k = 3)) → ∃ y, (flat u ++ flatL us)[r - a]? = some y ∧ (y.k = 2 ∨ y.k = 3) := by
   rintro r hr ⟨y, hy, hk⟩
   exact ⟨y, by rw [List.getElem?_append_left (by omega)]; exact hy, hk⟩
  have l2 : ∀ r, a + (flat u).length ≤ r → (∃ x, (flatL us)[r - (a + (flat u).length)]? = some x ∧ (x.k = 2 ∨ x.k = 3)) → ∃ y, (flat u ++ flatL us)[r - a]? = some y ∧ (y.k = 2 ∨ y.k = 3) := by
   rintro r hr ⟨y, hy, hk⟩
   exact ⟨y, by rw [List.getElem?_append_right (by omega), Nat.sub_sub]; exact hy, hk⟩
  simp only [List.mem_append] at h
  rcases h with h | h | h
  ·have h1 := arT_in u a p q h
   obtain ⟨h2, h3⟩ := arT_leaf u a p q h
   exact ⟨.inl (l1 p h1.1 h2), l1 q h1.2 h3⟩
  ·split at h
   ·obtain ⟨h1, h2⟩ := mem_joinP.1 h
    exact ⟨.inr h1, l1 q (fiT_in u a q h2) (fiT_leaf u a q h2)⟩
   ·simp at h
  ·obtain ⟨h1, h2⟩ := arL_in k us _ _ p q h
   obtain ⟨h3, h4⟩ := arL_leaf k us _ _ p q h
   refine ⟨?_, l2 q h2.1 h4⟩
   by_cases hacc : p ∈ acc
   ·exact .inr hacc
   left
   have h5 : ∀ {c : List Nat}, p ∈ (if k = 4 then laT u a ++ (if empT u = true then acc else []) else []) → p ∈ laT u a := by
    intro _ h
    split at h
    ·rcases List.mem_append.1 h with h | h
     ·exact h
     ·split at h
      ·exact absurd h hacc
      ·simp at h
    ·simp at h
   by_cases hla : p ∈ laT u a
   ·exact l1 p (laT_in u a p hla) (laT_leaf u a p hla)
   ·rcases h1 with h1 | h1
    ·rcases h3 with h3 | h3
     ·exact l2 p h1.1 h3
     ·exact absurd (h5 (c := []) h3) hla
    ·exact absurd (h5 (c := []) h1) hla
end
end Go.Proofs.YtdgocjbakjamaaaGreat
end

section
set_option linter.unusedSectionVars false
/- The data machine, second make, part W: a range over a function: its rounds, the loop's own state as a thing of which the iterator knows no more than that it can be called. -/

set_option linter.unusedSimpArgs false
set_option linter.unusedVariables false
namespace Go.Dm
variable [DMode]

theorem obj_nd {cur : Cur} {M : List Nat} {h : Array Obj} {l : Loc} {obj : DObj} (hk : ObjOK cur M h l obj) : ∀ b ∈ l.blks, ∀ c, h[b]? ≠ some (.deferred c) := by
 intro b hb c hc
 cases obj with
 | box cs =>
  obtain ⟨b', arr, ty, h1, h2, _⟩ := hk
  rw [h1] at hb
  simp only [List.mem_singleton] at hb
  subst hb
  rw [h2] at hc; simp at hc
 | row et k bs es =>
  obtain ⟨_, ⟨_, h1, _⟩ | ⟨b', arr, cap, h1, h2, h3, _⟩⟩ := hk
  ·rw [h1] at hb; cases hb
  ·rw [h1] at hb
   simp only [List.mem_singleton] at hb
   subst hb
   rw [h3] at hc; simp at hc
 | map ks vs =>
  obtain ⟨b', es, clk, h1, h2, _⟩ := hk
  rw [h1] at hb
  simp only [List.mem_singleton] at hb
  subst hb
  rw [h2] at hc; simp at hc
 | abs A => exact A.nd _ _ _ _ hk b hb c hc

def AbsL (sl : List (Nat × DVal)) (hsl : mxS sl ≤ 1) (own : List Ent) (tm : Array Value) (own0 : List Ent) (loc0 : Nat → Loc) (l : Nat) (L : Loop) : Abs where
 J := fun M bl hd h => hd = .func (.yield l) #[] #[] ∧ ∃ loc, bl = hotOf own loc ++ [l] ∧ (own.map (·.id)).Nodup ∧ (∀ e ∈ own, ObjOK (curOf own loc) M h (loc e.id) e.obj) ∧
  (∀ p ∈ sl, rd (curOf own loc) M h p.2 (tm.getD p.1 Go.undef)) ∧ h[l]? = some (.loop L) ∧ (∀ e ∈ own, e.r < 1 → curOf own0 loc0 e.id e.r = some (loc e.id))
 weak := by
  rintro M M' bl hd h h' hb hm hk ⟨h1, loc, h2, h3, h4, h5, h6, h7⟩
  have W : ∀ n, Weak (curOf own loc) (curOf own loc) M M' h h' n := fun n => ⟨fun _ _ _ _ h => h, hb, hm⟩
  refine ⟨h1, loc, h2, h3, fun e he => ObjOK_weak (W _) (Nat.le_refl _) (fun b o hb' ho => hk b o ?_ ho) (h4 e he), fun p hp => rd_weak (W _) _ _ (Nat.le_refl _) (h5 p hp), hk l _ ?_ h6, h7⟩
  ·rw [h2]; exact List.mem_append_left _ (mem_hot he hb')
  ·rw [h2]; simp
 one := by rintro _ _ _ _ ⟨rfl, _⟩; exact ⟨rfl, rfl⟩
 nd := by
  rintro M bl hd h ⟨_, loc, rfl, _, h4, _, h6, _⟩ b hb c hc
  rcases List.mem_append.1 hb with hb | hb
  ·obtain ⟨e, he, hb⟩ := List.mem_flatMap.1 hb
   exact obj_nd (h4 e he) b hb c hc
  ·simp only [List.mem_singleton] at hb
   subst hb
   rw [h6] at hc; simp at hc

def putM : List Nat → List DVal → List (Nat × DVal) → List (Nat × DVal)
 | p :: ps, d :: ds, l => putM ps ds ((p, d) :: l)
 | _, _, l => l

theorem size_zipset : ∀ (z : List (Nat × Value)) (t : Array Value), (z.foldl (fun t p => t.setIfInBounds p.1 p.2) t).size = t.size
 | [], t => rfl
 | p :: z, t => by rw [List.foldl_cons, size_zipset z]; simp

theorem putM_rd {cur : Cur} {M : List Nat} {h : Array Obj} : ∀ (ps : List Nat) (ds : List DVal) (vs : List Value) (l : List (Nat × DVal)) (t : Array Value), ds.length = ps.length → (∀ p ∈ ps, p < t.size) → rdV cur M h ds vs →
  (∀ i, rd cur M h (getS l i) (t.getD i Go.undef)) → ∀ i, rd cur M h (getS (putM ps ds l) i) (((ps.zip vs).foldl (fun t p => t.setIfInBounds p.1 p.2) t).getD i Go.undef)
 | [], ds, vs, l, t, hl, hp, hr, hs => by
  cases ds with
  | nil => simpa [putM] using hs
  | cons d ds => simp at hl
 | p :: ps, [], vs, l, t, hl, hp, hr, hs => by simp at hl
 | p :: ps, d :: ds, vs, l, t, hl, hp, hr, hs => by
  simp only [rdV] at hr
  obtain ⟨v, r, rfl, h1, h2⟩ := hr
  simp only [putM, List.zip_cons_cons, List.foldl_cons]
  refine putM_rd ps ds r _ _ (by simpa using hl) (fun q hq => by simpa using hp q (List.mem_cons_of_mem _ hq)) h2 ?_
  intro i
  have hlt := hp p List.mem_cons_self
  simp only [getS, Array.getD_eq_getD_getElem?, Array.getElem?_setIfInBounds]
  by_cases hi : i = p
  ·subst hi; simpa [hlt] using h1
  ·rw [if_neg hi, if_neg (fun h => hi h.symm)]
   have := hs i
   simpa [Array.getD_eq_getD_getElem?] using this

theorem getS_mem : ∀ (l : List (Nat × DVal)) (i : Nat), getS l i = .any ∨ (i, getS l i) ∈ l
 | [], i => .inl rfl
 | (j, d) :: l, i => by
  simp only [getS]
  split
  ·rename_i h; subst h; exact .inr (by simp)
  ·exact (getS_mem l i).imp id (fun h => List.mem_cons_of_mem _ h)

def RQ (B : Base) (okk : Bool) (S : List Ent) (j : Code) : Exit → DS → Prop
 | .normal, s => okk = true ∧ Sub B ⟨[], s.own⟩ ⟨[], S⟩
 | .ret, s => okk = false ∧ j = .ret ∧ Sub B ⟨[], s.own⟩ ⟨[], S⟩
 | .exit id, s => okk = false ∧ j = .exit id ∧ Sub B ⟨[], s.own⟩ ⟨[], S⟩
 | .goto t, s => okk = false ∧ j = .goto t ∧ Sub B ⟨[], s.own⟩ ⟨[], S⟩
 | _, _ => False
def RB (P : Program) (nt : Nat) (body : Code) (okk : Bool) (S : List Ent) (j : Code) (s : DS) : Prop := ∀ B : Base, B.nt = nt → DW P B body (RQ B okk S j) s
theorem RB_mk {P : Program} {nt : Nat} {body : Code} {okk : Bool} {S : List Ent} {j : Code} {s : DS} (h : ∀ B : Base, B.nt = nt → DW P B body (RQ B okk S j) s) : RB P nt body okk S j s := h
def RA (P : Program) (nt : Nat) (body : Code) (okk : Bool) (S : List Ent) (j : Code) : Exit → DS → Prop
 | .normal, s => RB P nt body okk S j s
 | _, _ => False

theorem chain_weak {own own' : List Ent} {loc loc' : Nat → Loc} {M M' : List Nat} {h h' : Array Obj} {n : Nat} (hc : ∀ e ∈ own', e.r < n → curOf own loc e.id e.r = some (loc' e.id)) (hb : ∀ (b : Nat) (o : Obj), b ∉ M → isD o = true → h[b]? = some o → h'[b]? = some o)
  (hm : ∀ b ∈ M', b ∈ M ∨ h.size ≤ b) : Weak (curOf own loc) (curOf own' loc') M M' h h' n where
 c := by
  intro id r l hr hl
  obtain ⟨e, he, rfl, rfl, rfl⟩ := curOf_some hl
  exact hc e he hr
 b := hb
 m := by
  intro b o hb' _ ho hm'
  rcases hm b hm' with h1 | h1
  ·exact hb' h1
  ·have := (Array.getElem?_eq_some_iff.1 ho).1; omega

theorem putObj_size (w : World) (l : Nat) (o : Obj) : (w.putObj l o).heap.size = w.heap.size := by simp [World.putObj]

theorem YAt_of {P : Program} {sl : List (Nat × DVal)} {hsl : mxS sl ≤ 1} {own S : List Ent} {tm : Array Value} {own0 : List Ent} {loc0 : Nat → Loc} {l nt : Nat} {L : Loop} {x : List DVal} {okk : Bool} {j : Code}
  (hL : L.state = .ready) (hLp : L.pending = none) (hLt : L.tmps = tm) (hnt : tm.size = nt) (hx : x.length = L.params.size) (hps : ∀ p ∈ L.params.toList, p < nt) (hx0 : mxL x = 0)
  (h : ∀ B : Base, B.nt = nt → DW P B L.assign (RA P nt L.body okk S j) ⟨putM L.params.toList x sl, own⟩) :
  YAt P l (AbsL sl hsl own tm own0 loc0 l L) x okk (AbsL sl hsl S tm own0 loc0 l { L with state := if okk then .ready else .done, pending := if okk then none else some j }) := by
 rintro M bl hd w vs hnd hblM hMlt ⟨rfl, loc, rfl, hidn, hobj, hslot, hrec, hver0⟩ hvs
 have hlM : l ∈ M := hblM l (by simp)
 have hlhot : l ∉ hotOf own loc := by
  intro hm
  rw [List.nodup_append] at hnd
  exact hnd.2.2 l hm l (by simp) rfl
 have hhotM : ∀ b ∈ hotOf own loc, b ∈ M := fun b hb => hblM b (List.mem_append_left _ hb)
 have hlen := rdV_length _ _ hvs
 simp only [Array.length_toList] at hlen
 have hy := run_yield (P := P) (args := vs) hrec (by omega)
 -- the base of the assignment
 let M0 : List Nat := M.filter (fun b => !(hotOf own loc).contains b)
 have hM0 : ∀ b, b ∈ M0 ↔ b ∈ M ∧ b ∉ hotOf own loc := by
  intro b
  simp only [M0, List.mem_filter, List.contains_eq_mem, Bool.not_eq_true', decide_eq_false_iff_not]
 have hMM : ∀ b, b ∈ hotOf own loc ++ M0 ↔ b ∈ M := by
  intro b
  rw [List.mem_append, hM0]
  constructor
  ·rintro (h | h)
   ·exact hhotM b h
   ·exact h.1
  ·intro h
   by_cases hb : b ∈ hotOf own loc
   ·exact .inl hb
   ·exact .inr ⟨h, hb⟩
 have W0 : ∀ n, Weak (curOf own loc) (curOf own loc) M (hotOf own loc ++ M0) w.heap w.heap n := fun n =>
  ⟨fun _ _ _ _ h => h, fun b o _ (_ : isD o = true) ho => ho, fun b o hb (_ : isD o = true) _ hm => hb ((hMM b).1 hm)⟩
 let B1 : Base := ⟨own, loc, M0, 1, w, nt, some l, by decide, w.heap.size, Nat.le_refl _⟩
 let a1 : Act := { tmps := (L.params.zip vs).foldl (fun tmps (t, a) => tmps.setIfInBounds t a) L.tmps, defers := [] }
 have hfold : a1.tmps = (L.params.toList.zip vs.toList).foldl (fun t p => t.setIfInBounds p.1 p.2) tm := by
  show (L.params.zip vs).foldl _ _ = _
  rw [← Array.foldl_toList, Array.toList_zip, hLt]
 have R1 : Rel B1 ⟨putM L.params.toList x sl, own⟩ a1 w loc := by
  refine ⟨⟨hidn, ?_, fun b hb hm => ((hM0 b).1 hm).2 hb, fun b hb => hMlt b ((hMM b).1 hb), fun e he => ObjOK_weak (W0 _) (Nat.le_refl _) (fun _ _ _ h => h) (hobj e he)⟩, Upd.refl _ _, fun b hb => .inl hb, fun e he _ => curOf_self hidn he, ?_, ?_, ⟨[], rfl, List.nodup_nil, by simp⟩⟩
  ·rw [List.nodup_append] at hnd; exact hnd.1
  ·intro i
   rw [hfold]
   refine putM_rd _ _ _ _ _ (by simpa using hx) (fun p hp => by rw [hnt]; exact hps p hp) ?_ ?_ i
   ·exact rdV_weak (n := 0) ⟨fun _ _ _ h => by omega, fun b o _ (_ : isD o = true) ho => ho, fun b o hb (_ : isD o = true) _ hm => hb ((hMM b).1 hm)⟩ _ _ (Nat.le_of_eq hx0) hvs
   ·intro q
    rcases getS_mem sl q with h1 | h1
    ·rw [h1]; simp [rd]
    ·exact rd_weak (W0 _) _ _ (Nat.le_refl _) (hslot _ h1)
  ·rw [hfold, size_zipset]; exact hnt
 refine ⟨L.fn, _, L.assign, L.body, hy, roundIn_of_wpIn (F := wd none) trivial ?_⟩
 refine wpIn_mono (h B1 rfl a1 w loc R1) ?_
 rintro e a' w' ⟨s', loc', hq, R'⟩
 cases e <;> simp only [RA] at hq <;> first
  | exact hq.elim
  | skip
 -- the record lies as it lay
 have hl0 : w'.heap[l]? = some (.loop L) := by
  rw [R'.upd.blk l (Array.getElem?_eq_some_iff.1 hrec).1 hlhot]; exact hrec
 have hllt : l < w'.heap.size := (Array.getElem?_eq_some_iff.1 hl0).1
 refine ⟨w'.putObj l (.loop { L with state := .busy }), run_beginRound hl0 hL, ?_⟩
 obtain ⟨w2, hw2⟩ : ∃ w2, w2 = w'.putObj l (.loop { L with state := .busy }) := ⟨_, rfl⟩
 rw [← hw2]
 have hsz2 : w2.heap.size = w'.heap.size := by rw [hw2]; exact putObj_size _ _ _
 have hoth : ∀ b, b ≠ l → w2.heap[b]? = w'.heap[b]? := fun b hb => by rw [hw2]; exact World.putObj_heap_other hb
 have hlb : w2.heap[l]? = some (.loop { L with state := .busy }) := by rw [hw2]; exact World.putObj_heap_same hllt
 have hlM0 : l ∈ M0 := (hM0 l).2 ⟨hlM, hlhot⟩
 have hlhot' : l ∉ hotOf s'.own loc' := fun hm => R'.st.ap l hm hlM0
 have hd2 : ∀ (b : Nat) (o : Obj), isD o = true → w'.heap[b]? = some o → w2.heap[b]? = some o := by
  intro b o ho hb
  rw [hoth b (fun he => by subst he; rw [hl0] at hb; simp only [Option.some.injEq] at hb; subst hb; simp [isD] at ho)]
  exact hb
 have St2 : St s'.own loc' M0 w2.heap := R'.st.same (Nat.le_of_eq hsz2.symm) hd2 (fun b o hm hb => by rw [hoth b (fun he => hlhot' (he ▸ hm))]; exact hb)
 have W2 : ∀ n, Weak (curOf s'.own loc') (curOf s'.own loc') (hotOf s'.own loc' ++ M0) (hotOf s'.own loc' ++ M0) w'.heap w2.heap n := fun n =>
  ⟨fun _ _ _ _ h => h, fun b o _ (h1 : isD o = true) h2 => hd2 b o h1 h2, fun b o hb (_ : isD o = true) _ => hb⟩
 let B2 : Base := ⟨s'.own, loc', M0, 1, w2, nt, some l, by decide, w2.heap.size, Nat.le_refl _⟩
 obtain ⟨rs, hrs, _, _, hrs2⟩ := R'.df
 have hz : rs = [] := hrs2 (by simp [B1])
 let B2 : Base := ⟨s'.own, loc', M0, 1, w2, nt, some l, by decide, w2.heap.size, Nat.le_refl _⟩
 have R2 : Rel B2 s' a' w2 loc' :=
  ⟨St2, Upd.refl _ _, fun b hb => .inl hb, fun e he _ => curOf_self St2.nd he, fun i => rd_weak (W2 _) _ _ (Nat.le_refl _) (R'.sl i), R'.nt, ⟨[], by rw [hz] at hrs; simpa using hrs, List.nodup_nil, by simp⟩⟩
 refine wpIn_mono (hq B2 rfl a' w2 loc' R2) ?_
 rintro e a2 w3 ⟨s3, loc3, hq3, R3⟩
 have hl3 : w3.heap[l]? = some (.loop { L with state := .busy }) := by
  rw [R3.upd.blk l (Array.getElem?_eq_some_iff.1 hlb).1 hlhot']; exact hlb
 have fin : ∀ (jump : Option Code), Sub B2 ⟨[], s3.own⟩ ⟨[], S⟩ → jump.isNone = okk → jump = (if okk then none else some j) → ∃ v w4, (Instr.endRound l jump).run P w3 = .ok v w4 ∧ ∃ v0, Ending.returned v = .returned v0 ∧ v0 = .bool okk ∧ ∃ bl', Upd (hotOf own loc ++ [l]) w w4 ∧ bl'.Nodup ∧ (∀ q ∈ bl', q < w4.heap.size ∧ (q ∈ hotOf own loc ++ [l] ∨ w.heap.size ≤ q)) ∧
   ∀ M', (∀ q ∈ M', q ∈ bl' ∨ (q ∈ M ∧ q ∉ hotOf own loc ++ [l])) → (AbsL sl hsl S tm own0 loc0 l { L with state := if okk then .ready else .done, pending := if okk then none else some j }).J M' bl' (.func (.yield l) #[] #[]) w4.heap := by
  intro jump hsub hj1 hj2
  have hrun := run_endRound (P := P) jump hl3
  have hrec' : ({ ({ L with state := .busy } : Loop) with state := if jump.isNone then .ready else .done, pending := jump } : Loop) = { L with state := if okk then .ready else .done, pending := if okk then none else some j } := by
   rw [hj1, hj2]
  rw [hrec', hj1] at hrun
  obtain ⟨w4, hw4⟩ : ∃ w4, w4 = w3.putObj l (.loop { L with state := if okk then .ready else .done, pending := if okk then none else some j }) := ⟨_, rfl⟩
  rw [← hw4] at hrun
  have hl3lt := (Array.getElem?_eq_some_iff.1 hl3).1
  have hsz4 : w4.heap.size = w3.heap.size := by rw [hw4]; exact putObj_size _ _ _
  have hoth4 : ∀ b, b ≠ l → w4.heap[b]? = w3.heap[b]? := fun b hb => by rw [hw4]; exact World.putObj_heap_other hb
  have hl4 : w4.heap[l]? = some (.loop { L with state := if okk then .ready else .done, pending := if okk then none else some j }) := by rw [hw4]; exact World.putObj_heap_same hl3lt
  have R3' : Rel B2 ⟨[], s3.own⟩ a2 w3 loc3 := ⟨R3.st, R3.upd, R3.new, R3.ver, fun i => by simp [getS, rd], R3.nt, R3.df⟩
  obtain ⟨loc4, R4⟩ := hsub a2 w3 loc3 R3'
  have hl4hot : l ∉ hotOf S loc4 := fun hm => R4.st.ap l hm hlM0
  have uput : ∀ (v : World) (o : Obj), Upd [l] v (v.putObj l o) := fun v o => ⟨rfl, rfl, rfl, fun _ => Nat.le_refl _, by rw [putObj_size]; exact Nat.le_refl _, fun b _ hb => World.putObj_heap_other (fun h => hb (by simp [h]))⟩
  have U1 : Upd (hotOf own loc ++ [l]) w w' := (Upd.refl _ w).trans R'.upd (fun x hx => .inl (List.mem_append_left _ hx))
  have U2 : Upd (hotOf own loc ++ [l]) w w2 := by rw [hw2]; exact U1.trans (uput _ _) (fun x hx => .inl (List.mem_append_right _ hx))
  have U3 : Upd (hotOf own loc ++ [l]) w w3 := U2.trans R4.upd (fun x hx => (R'.new x hx).imp (fun h => List.mem_append_left _ h) id)
  have U4 : Upd (hotOf own loc ++ [l]) w w4 := by rw [hw4]; exact U3.trans (uput _ _) (fun x hx => .inl (List.mem_append_right _ hx))
  have hbl : ∀ q ∈ hotOf S loc4, q < w4.heap.size ∧ (q ∈ hotOf own loc ++ [l] ∨ w.heap.size ≤ q) := by
   intro q hq
   refine ⟨by rw [hsz4]; exact R4.st.lt q (List.mem_append_left _ hq), ?_⟩
   rcases R4.new q hq with h | h
   ·exact (R'.new q h).imp (fun h => List.mem_append_left _ h) id
   ·exact .inr (Nat.le_trans U2.size h)
  refine ⟨_, w4, hrun, _, rfl, rfl, hotOf S loc4 ++ [l], U4, ?_, ?_, ?_⟩
  ·rw [List.nodup_append]
   exact ⟨R4.st.bl, by simp, fun b hb b' hb' hbb => hl4hot (by simp only [List.mem_singleton] at hb'; rw [← hb', ← hbb]; exact hb)⟩
  ·intro q hq
   rcases List.mem_append.1 hq with hq | hq
   ·exact hbl q hq
   ·simp only [List.mem_singleton] at hq
    subst hq
    exact ⟨by rw [hsz4]; exact hl3lt, .inl (by simp)⟩
  ·intro M' hM'
   have hchain : ∀ e ∈ S, e.r < 1 → curOf own loc e.id e.r = some (loc4 e.id) := by
    intro e he hlt
    obtain ⟨e1, h1, h2, h3, h4⟩ := curOf_some (R4.ver e he hlt)
    have h5 := R'.ver e1 h1 (by show e1.r < 1; omega)
    rw [h2, h3] at h5
    rw [h4]; exact h5
   have hinM : ∀ b ∈ M', b ∈ hotOf S loc4 ++ M0 := by
    intro b hb
    rcases hM' b hb with h | ⟨h1, h2⟩
    ·rcases List.mem_append.1 h with h | h
     ·exact List.mem_append_left _ h
     ·simp only [List.mem_singleton] at h
      subst h
      exact List.mem_append_right _ hlM0
    ·exact List.mem_append_right _ ((hM0 b).2 ⟨h1, fun h => h2 (List.mem_append_left _ h)⟩)
   have hd4 : ∀ (b : Nat) (o : Obj), isD o = true → w3.heap[b]? = some o → w4.heap[b]? = some o := by
    intro b o ho hb
    rw [hoth4 b (fun he => by subst he; rw [hl3] at hb; simp only [Option.some.injEq] at hb; subst hb; simp [isD] at ho)]
    exact hb
   have W4 : ∀ n, Weak (curOf S loc4) (curOf S loc4) (hotOf S loc4 ++ M0) M' w3.heap w4.heap n := fun n =>
    ⟨fun _ _ _ _ h => h, fun b o _ (h1 : isD o = true) h2 => hd4 b o h1 h2, fun b o hb (_ : isD o = true) _ hm => hb (hinM b hm)⟩
   have W5 : Weak (curOf own loc) (curOf S loc4) M M' w.heap w4.heap 1 := by
    refine chain_weak hchain (fun b o hb _ ho => ?_) (fun b hb => ?_)
    ·rw [U4.blk b (Array.getElem?_eq_some_iff.1 ho).1 (fun h => hb (hblM b h))]; exact ho
    ·rcases hM' b hb with h | ⟨h1, _⟩
     ·rcases List.mem_append.1 h with h | h
      ·exact (hbl b h).2.imp (hblM b) id
      ·simp only [List.mem_singleton] at h
       subst h
       exact .inl hlM
     ·exact .inl h1
   refine ⟨rfl, loc4, rfl, R4.st.nd, fun e he => ?_, fun p hp => ?_, hl4, fun e he hlt => ?_⟩
   ·exact ObjOK_weak (W4 _) (Nat.le_refl _) (fun b o hb ho => by rw [hoth4 b (fun h => hl4hot (h ▸ mem_hot he hb))]; exact ho) (R4.st.ok e he)
   ·refine rd_weak W5 _ _ (Nat.le_trans ?_ hsl) (hslot p hp)
    have : ∀ (l : List (Nat × DVal)), p ∈ l → mx p.2 ≤ mxS l := by
     intro l
     induction l with
     | nil => intro h; cases h
     | cons q l ih =>
      intro h
      simp only [mxS]
      rcases List.mem_cons.1 h with rfl | h
      ·omega
      ·have := ih h; omega
    exact this sl hp
   ·obtain ⟨e1, h1, h2, h3, h4⟩ := curOf_some (hchain e he hlt)
    have h5 := hver0 e1 h1 (by omega)
    rw [h2, h3] at h5
    rw [h4]; exact h5
 cases e <;> simp only [RQ] at hq3 <;> simp only [roundPost]
 ·obtain ⟨rfl, hs⟩ := hq3
  exact fin none hs rfl rfl
 ·obtain ⟨rfl, rfl, hs⟩ := hq3
  exact fin _ hs rfl rfl
 ·obtain ⟨rfl, rfl, hs⟩ := hq3
  exact fin _ hs rfl rfl
 ·obtain ⟨rfl, rfl, hs⟩ := hq3
  exact fin _ hs rfl rfl
end Go.Dm
end

section
set_option linter.unusedSectionVars false
/- The data machine, second make, part X: the statement 'for .. := range f', over an iterator that has its contract. -/


set_option linter.unusedSimpArgs false
set_option linter.unusedVariables false
namespace Go.Dm
variable [DMode]

def stopAt (ok : Nat → Bool) : Nat → Option Nat
 | 0 => none
 | n + 1 => match stopAt ok n with
  | some k => some k
  | none => if ok n then none else some n

def ISpec (P : Program) (f : FuncId) (us cs : List DVal) (xs : List (List DVal)) (ok : Nat → Bool) : Prop :=
 ∀ (l : Nat) (A Z : Nat → Abs), (∀ k x, xs[k]? = some x → (∀ j, j < k → ok j = true) → YAt P l (A k) x (ok k) (if ok k then A (k + 1) else Z k)) →
  DSpec P (.func f) (us ++ .pk 0 0 :: cs) [⟨0, 0, .abs (yH l)⟩, ⟨1, 0, .abs (A 0)⟩] (.tup []) [⟨0, 0, .abs (yH l)⟩, ⟨1, 1, .abs (match stopAt ok xs.length with | none => A xs.length | some k => Z k)⟩]

def loopC (P : Program) (c : Code) (idx : List Nat) (nt : Nat) (e0 : Exit) : Tran := fun vs w R => ∀ a : Act, idx.map (fun i => a.tmps.getD i Go.undef) = vs.toList → a.tmps.size = nt →
 c.wpIn (wd none) 0 P (fun e a' w' => e = e0 ∧ (∃ D, a' = { a with defers := { target := .collected D, args := #[] } :: a.defers } ∧ w.heap.size ≤ D ∧ w'.heap[D]? = some (.deferred (some []))) ∧ R (.tuple #[]) w') a w

theorem rdV_idx {cur : Cur} {M : List Nat} {h : Array Obj} {f : Nat → Value} : ∀ {sl : List (Nat × DVal)}, rdV cur M h (sl.map (·.2)) (sl.map fun p => f p.1) → ∀ p ∈ sl, rd cur M h p.2 (f p.1)
 | [], _, p, hp => by cases hp
 | q :: sl, hr, p, hp => by
  simp only [List.map_cons, rdV] at hr
  obtain ⟨v, r, he, h1, h2⟩ := hr
  simp only [List.cons.injEq] at he
  obtain ⟨rfl, rfl⟩ := he
  rcases List.mem_cons.1 hp with rfl | hp
  ·exact h1
  ·exact rdV_idx h2 p hp

theorem loop_spec {P : Program} {gt nt : Nat} {ps : Array Tmp} {assign body : Code} {f : FuncId} {us cs : List DVal} {xs : List (List DVal)} {ok : Nat → Bool} {sl : List (Nat × DVal)} {S Z : Nat → List Ent} {jc : Nat → Code} {T : List Ent} {e0 : Exit}
  (hsl : mxS sl ≤ 1) (hI : ISpec P f us cs xs ok) (hmx : mxL us = 0 ∧ mxL cs = 0) (hgt : (gt, .fn (.func f) us cs) ∈ sl) (hps : ∀ x ∈ xs, x.length = ps.size ∧ mxL x = 0) (hpn : ∀ p ∈ ps.toList, p < nt)
  (round : ∀ k x, xs[k]? = some x → (∀ j, j < k → ok j = true) → ∀ B : Base, B.nt = nt → DW P B assign (RA P nt body (ok k) (if ok k then S (k + 1) else Z k) (jc k)) ⟨putM ps.toList x sl, S k⟩)
  (hT : match stopAt ok xs.length with | none => e0 = .normal ∧ T = S xs.length | some k => (jc k = .ret ∧ e0 = .ret ∨ (∃ id, jc k = .exit id ∧ e0 = .exit id) ∨ (∃ t, jc k = .goto t ∧ e0 = .goto t)) ∧ T = Z k) :
  DSpecG (loopC P (.rangeFunc (.tmp gt) ps assign body) (sl.map (·.1)) nt e0) (sl.map (·.2)) (S 0) (.tup []) T := by
 intro M w loc vs St0 hr a hvs hnt
 have hslot : ∀ p ∈ sl, rd (curOf (S 0) loc) (hotOf (S 0) loc ++ M) w.heap p.2 (a.tmps.getD p.1 Go.undef) := by
  refine rdV_idx (f := fun i => a.tmps.getD i Go.undef) ?_
  rw [← hvs, List.map_map] at hr
  exact hr
 have hg := hslot _ hgt
 simp only [rd] at hg
 obtain ⟨us', cs', hv, hus, hcs⟩ := hg
 refine wpIn_rangeFunc ?_
 intro fn hfn
 obtain ⟨rec, hrec⟩ : ∃ rec : Loop, rec = { state := .ready, pending := none, fn, tmps := a.tmps, params := ps, assign, body, defers := w.heap.size } := ⟨_, rfl⟩
 obtain ⟨W1, hW1⟩ : ∃ W1, W1 = (w.alloc (.deferred (some []))).alloc (.loop rec) := ⟨_, rfl⟩
 obtain ⟨l, hl⟩ : ∃ l, l = w.heap.size + 1 := ⟨_, rfl⟩
 have hsz1 : W1.heap.size = w.heap.size + 2 := by rw [hW1]; simp
 have hold1 : ∀ b, b < w.heap.size → W1.heap[b]? = w.heap[b]? := by
  intro b hb
  rw [hW1]
  simp only [World.alloc, Array.getElem?_push, Array.size_push]
  rw [if_neg (by omega), if_neg (by omega)]
 have hD1 : W1.heap[w.heap.size]? = some (.deferred (some [])) := by
  rw [hW1]; simp only [World.alloc, Array.getElem?_push, Array.size_push]
  rw [if_neg (by omega)]; simp
 have hl1 : W1.heap[l]? = some (.loop rec) := by
  rw [hW1, hl]; simp only [World.alloc, Array.getElem?_push, Array.size_push]
  simp
 have hen := run_enterLoop_outer (P := P) (w := w) fn a.tmps ps assign body
 rw [← hrec, ← hW1, ← hl] at hen
 let A : Nat → Abs := fun k => AbsL sl hsl (S k) a.tmps (S 0) loc l rec
 let Zs : Nat → Abs := fun k => AbsL sl hsl (Z k) a.tmps (S 0) loc l { rec with state := .done, pending := some (jc k) }
 have hy : ∀ k x, xs[k]? = some x → (∀ j, j < k → ok j = true) → YAt P l (A k) x (ok k) (if ok k then A (k + 1) else Zs k) := by
  intro k x hx hj
  have hxm := hps x (List.mem_of_getElem? hx)
  have hY := YAt_of (hsl := hsl) (own := S k) (S := if ok k then S (k + 1) else Z k) (own0 := S 0) (loc0 := loc) (l := l) (L := rec) (tm := a.tmps) (nt := nt) (x := x) (okk := ok k) (j := jc k) (by rw [hrec]) (by rw [hrec]) (by rw [hrec]) hnt (by rw [hrec]; exact hxm.1) (by rw [hrec]; exact hpn) hxm.2 (by rw [hrec]; exact round k x hx hj)
  cases hk : ok k with
  | true =>
   rw [hk] at hY
   have e1 : ({ rec with state := if true = true then .ready else .done, pending := if true = true then none else some (jc k) } : Loop) = rec := by rw [hrec]; rfl
   rw [e1] at hY
   exact hY
  | false =>
   rw [hk] at hY
   exact hY
 have hD := hI l A Zs hy
 have hhotlt : ∀ b ∈ hotOf (S 0) loc, b < w.heap.size := fun b hb => St0.lt b (List.mem_append_left _ hb)
 let loc1 : Nat → Loc := fun i => if i = 0 then ⟨[], .func (.yield l) #[] #[]⟩ else ⟨hotOf (S 0) loc ++ [l], .func (.yield l) #[] #[]⟩
 have hhot1 : hotOf [⟨0, 0, .abs (yH l)⟩, ⟨1, 0, .abs (A 0)⟩] loc1 = hotOf (S 0) loc ++ [l] := by simp [hotOf, loc1]
 have W1w : ∀ n, Weak (curOf (S 0) loc) (curOf (S 0) loc) (hotOf (S 0) loc ++ M) (hotOf (S 0) loc ++ [l] ++ M) w.heap W1.heap n := fun n =>
  ⟨fun _ _ _ _ h => h, fun b o _ (_ : isD o = true) ho => by rw [hold1 b (Array.getElem?_eq_some_iff.1 ho).1]; exact ho, fun b o hb (_ : isD o = true) ho hm => by
   have hlt := (Array.getElem?_eq_some_iff.1 ho).1
   simp only [List.mem_append, List.mem_singleton] at hm hb
   rcases hm with (hm | hm) | hm
   ·exact hb (.inl hm)
   ·omega
   ·exact hb (.inr hm)⟩
 have St1 : St [⟨0, 0, .abs (yH l)⟩, ⟨1, 0, .abs (A 0)⟩] loc1 M W1.heap := by
  refine ⟨by simp, ?_, ?_, ?_, ?_⟩
  ·rw [hhot1, List.nodup_append]
   exact ⟨St0.bl, by simp, fun b hb b' hb' => by simp only [List.mem_singleton] at hb'; have := hhotlt b hb; omega⟩
  ·rw [hhot1]
   intro b hb hm
   rcases List.mem_append.1 hb with hb | hb
   ·exact St0.ap b hb hm
   ·simp only [List.mem_singleton] at hb
    have := St0.lt b (List.mem_append_right _ hm)
    omega
  ·rw [hhot1]
   intro b hb
   simp only [List.mem_append, List.mem_singleton] at hb
   rcases hb with (hb | hb) | hb
   ·have := hhotlt b hb; omega
   ·omega
   ·have := St0.lt b (List.mem_append_right _ hb); omega
  ·intro e he
   simp only [List.mem_cons, List.not_mem_nil, or_false] at he
   rcases he with rfl | rfl
   ·exact ⟨rfl, rfl⟩
   ·refine ⟨rfl, loc, rfl, St0.nd, fun e he => ?_, fun p hp => ?_, hl1, fun e he _ => curOf_self St0.nd he⟩
    ·rw [hhot1]
     exact ObjOK_weak (W1w _) (Nat.le_refl _) (fun b o hb ho => by rw [hold1 b (Array.getElem?_eq_some_iff.1 ho).1]; exact ho) (St0.ok e he)
    ·rw [hhot1]
     exact rd_weak (W1w _) _ _ (Nat.le_refl _) (hslot p hp)
 have W1z : Weak (curOf (S 0) loc) (curOf [⟨0, 0, .abs (yH l)⟩, ⟨1, 0, .abs (A 0)⟩] loc1) (hotOf (S 0) loc ++ M) (hotOf [⟨0, 0, .abs (yH l)⟩, ⟨1, 0, .abs (A 0)⟩] loc1 ++ M) w.heap W1.heap 0 := by
  rw [hhot1]
  exact ⟨fun _ _ _ h => by omega, (W1w 0).b, (W1w 0).m⟩
 have hcall := hD.2.2 M W1 loc1 (us' ++ #[.func (.yield l) #[] #[]] ++ cs') St1 (by
  have e1 : (us' ++ #[Value.func (.yield l) #[] #[]] ++ cs').toList = us'.toList ++ Value.func (.yield l) #[] #[] :: cs'.toList := by simp
  rw [e1]
  refine rdV_append _ _ _ _ (rdV_weak W1z _ _ (Nat.le_of_eq hmx.1) hus) ?_
  simp only [rdV]
  refine ⟨_, _, rfl, ?_, rdV_weak W1z _ _ (Nat.le_of_eq hmx.2) hcs⟩
  simp only [rd]
  intro lc hlc
  have : curOf [⟨0, 0, .abs (yH l)⟩, ⟨1, 0, .abs (A 0)⟩] loc1 0 0 = some (loc1 0) := rfl
  rw [this] at hlc
  simp only [Option.some.injEq] at hlc
  rw [← hlc]
  rfl)
 have hev : a.eval (.tmp gt) = .func (.func f) us' cs' := hv
 refine ⟨l, [{ target := .collected w.heap.size, args := #[] }], W1, { target := .fn (.func f) cs', args := us' ++ #[.func (.yield l) #[] #[]] }, W1, f, us' ++ #[.func (.yield l) #[] #[]] ++ cs', W1, hen, ?_, fun _ _ => trivial, ?_, fun h => by simp [wd] at h, ?_⟩
 ·simp only [resolve, rangeCall, hev]
  simp [Deferred.ofValue, Act.eval]
 ·simp only [invoke]
  exact hcall.1 _ _
 ·refine (calls_wd none _ hcall.2).mono ?_
  rintro e w2 ⟨v, rfl, loc2, S2, hu, hnew, hver, _⟩
  have hk := S2.ok _ (List.mem_cons_of_mem _ List.mem_cons_self)
  have hk0 := S2.ok _ List.mem_cons_self
  have hb0 : (loc2 0).blks = [] := hk0.1
  -- what is known behind, by the loop's state
  have main : ∀ (L : Loop) (T' : List Ent), (AbsL sl hsl T' a.tmps (S 0) loc l L).J (hotOf [⟨0, 0, .abs (yH l)⟩, ⟨1, 1, .abs (match stopAt ok xs.length with | none => A xs.length | some k => Zs k)⟩] loc2 ++ M) (loc2 1).blks (loc2 1).hdr w2.heap → L.state ≠ .busy →
    (Instr.endLoop l).run P w2 = .ok L.pending (w2.putObj l (.loop { L with state := .exhausted })) ∧ (∃ D, ({ a with defers := [{ target := .collected w.heap.size, args := #[] }] ++ a.defers } : Act) = { a with defers := { target := .collected D, args := #[] } :: a.defers } ∧ w.heap.size ≤ D ∧ (w2.putObj l (.loop { L with state := .exhausted })).heap[D]? = some (.deferred (some []))) ∧
    ∃ loc', St T' loc' M (w2.putObj l (.loop { L with state := .exhausted })).heap ∧ Upd (hotOf (S 0) loc) w (w2.putObj l (.loop { L with state := .exhausted })) ∧ (∀ b ∈ hotOf T' loc', b ∈ hotOf (S 0) loc ∨ w.heap.size ≤ b) ∧
     (∀ e ∈ T', e.r < 1 → curOf (S 0) loc e.id e.r = some (loc' e.id)) ∧ rd (curOf T' loc') (hotOf T' loc' ++ M) (w2.putObj l (.loop { L with state := .exhausted })).heap (.tup []) (.tuple #[]) := by
   rintro L T' ⟨_, loc3, hbl, hnd3, hob3, hsl3, hl3, hver3⟩ hbusy
   have hhot2 : hotOf [⟨0, 0, .abs (yH l)⟩, ⟨1, 1, .abs (match stopAt ok xs.length with | none => A xs.length | some k => Zs k)⟩] loc2 = hotOf T' loc3 ++ [l] := by
    simp [hotOf, hb0]
    simpa [hotOf] using hbl
   obtain ⟨w4, hw4⟩ : ∃ w4, w4 = w2.putObj l (.loop { L with state := .exhausted }) := ⟨_, rfl⟩
   rw [← hw4]
   have hrun := run_endLoop (P := P) hl3 hbusy
   rw [← hw4] at hrun
   have hsz4 : w4.heap.size = w2.heap.size := by rw [hw4]; exact putObj_size _ _ _
   have hoth4 : ∀ b, b ≠ l → w4.heap[b]? = w2.heap[b]? := fun b hb => by rw [hw4]; exact World.putObj_heap_other hb
   rw [hhot1] at hu
   have hlhot : l ∉ hotOf T' loc3 := by
    have := S2.bl
    rw [hhot2, List.nodup_append] at this
    exact fun hm => this.2.2 l hm l (by simp) rfl
   refine ⟨hrun, ⟨w.heap.size, rfl, Nat.le_refl _, ?_⟩, loc3, ?_, ?_, ?_, hver3, ?_⟩
   ·rw [hoth4 _ (by omega), hu.blk _ (by omega) (fun h => by
     simp only [List.mem_append, List.mem_singleton] at h
     rcases h with h | h
     ·have := hhotlt _ h; omega
     ·omega)]
    exact hD1
   ·have hsub : ∀ b ∈ hotOf T' loc3, b ∈ hotOf T' loc3 ++ [l] := fun b hb => List.mem_append_left _ hb
    have hd4 : ∀ (b : Nat) (o : Obj), isD o = true → w2.heap[b]? = some o → w4.heap[b]? = some o := by
     intro b o ho hb
     rw [hoth4 b (fun he => by subst he; rw [hl3] at hb; simp only [Option.some.injEq] at hb; subst hb; simp [isD] at ho)]
     exact hb
    refine ⟨hnd3, ?_, fun b hb => S2.ap b (by rw [hhot2]; exact hsub b hb), fun b hb => ?_, fun e he => ?_⟩
    ·have := S2.bl
     rw [hhot2, List.nodup_append] at this
     exact this.1
    ·rw [hsz4]
     refine S2.lt b ?_
     rw [hhot2]
     rcases List.mem_append.1 hb with hb | hb
     ·exact List.mem_append_left _ (hsub b hb)
     ·exact List.mem_append_right _ hb
    ·have h3 := hob3 e he
     rw [hhot2] at h3
     refine ObjOK_weak (n := mxO e.obj) ⟨fun _ _ _ _ h => h, fun b o _ (h1 : isD o = true) h2 => hd4 b o h1 h2, fun b o hb (_ : isD o = true) _ hm => hb ?_⟩ (Nat.le_refl _) (fun b o hb ho => by rw [hoth4 b (fun h => hlhot (h ▸ mem_hot he hb))]; exact ho) h3
     rcases List.mem_append.1 hm with hm | hm
     ·exact List.mem_append_left _ (hsub b hm)
     ·exact List.mem_append_right _ hm
   ·have U1 : Upd (hotOf (S 0) loc) w W1 := ⟨by rw [hW1]; rfl, by rw [hW1]; rfl, by rw [hW1]; rfl, fun _ => by rw [hW1]; exact Nat.le_refl _, by omega, fun b hb _ => hold1 b hb⟩
    have U2 : Upd (hotOf (S 0) loc) w w2 := U1.trans hu (fun x hx => by
     simp only [List.mem_append, List.mem_singleton] at hx
     rcases hx with hx | hx
     ·exact .inl hx
     ·exact .inr (by omega))
    have U3 : Upd [l] w2 w4 := by
     rw [hw4]
     exact ⟨rfl, rfl, rfl, fun _ => Nat.le_refl _, by rw [putObj_size]; exact Nat.le_refl _, fun b _ hb => World.putObj_heap_other (fun h => hb (by simp [h]))⟩
    exact U2.trans U3 (fun x hx => .inr (by simp only [List.mem_singleton] at hx; omega))
   ·intro b hb
    have hbm : b ∈ hotOf [⟨0, 0, .abs (yH l)⟩, ⟨1, 1, .abs (match stopAt ok xs.length with | none => A xs.length | some k => Zs k)⟩] loc2 := by rw [hhot2]; exact List.mem_append_left _ hb
    rcases hnew b hbm with h | h
    ·rw [hhot1] at h
     simp only [List.mem_append, List.mem_singleton] at h
     rcases h with h | h
     ·exact .inl h
     ·exact .inr (by omega)
    ·exact .inr (by omega)
   ·simp only [rd]; exact ⟨#[], rfl, by simp [rdV]⟩
  clear hnew hver
  cases hst : stopAt ok xs.length with
  | none =>
   rw [hst] at hT
   obtain ⟨rfl, rfl⟩ := hT
   have hk' : (A xs.length).J (hotOf [⟨0, 0, .abs (yH l)⟩, ⟨1, 1, .abs (match stopAt ok xs.length with | none => A xs.length | some k => Zs k)⟩] loc2 ++ M) (loc2 1).blks (loc2 1).hdr w2.heap := by
    have h := hk
    simp only [ObjOK] at h
    generalize hF : (match stopAt ok xs.length with | none => A xs.length | some k => Zs k) = F at h ⊢
    rw [hst] at hF
    simp only at hF
    subst hF
    exact h
   obtain ⟨h1, h2, h3⟩ := main rec _ hk' (by rw [hrec]; simp)
   refine ⟨_, _, h1, ?_⟩
   rw [hrec]
   simp only
   rw [hrec] at h2 h3
   exact ⟨trivial, h2, h3⟩
  | some k =>
   rw [hst] at hT
   obtain ⟨hj, rfl⟩ := hT
   have hk' : (Zs k).J (hotOf [⟨0, 0, .abs (yH l)⟩, ⟨1, 1, .abs (match stopAt ok xs.length with | none => A xs.length | some k => Zs k)⟩] loc2 ++ M) (loc2 1).blks (loc2 1).hdr w2.heap := by
    have h := hk
    simp only [ObjOK] at h
    generalize hF : (match stopAt ok xs.length with | none => A xs.length | some k => Zs k) = F at h ⊢
    rw [hst] at hF
    simp only at hF
    subst hF
    exact h
   obtain ⟨h1, h2, h3⟩ := main _ _ hk' (by simp)
   refine ⟨_, _, h1, ?_⟩
   simp only
   rcases hj with ⟨hj, rfl⟩ | ⟨id, hj, rfl⟩ | ⟨t, hj, rfl⟩
   ·rw [hj] at h2 h3 ⊢; exact wpIn_ret ⟨rfl, h2, h3⟩
   ·rw [hj] at h2 h3 ⊢; exact wpIn_exit ⟨rfl, h2, h3⟩
   ·rw [hj] at h2 h3 ⊢; exact wpIn_goto ⟨rfl, h2, h3⟩

theorem DW_rangeFunc {P : Program} {B : Base} {Q : Exit → DS → Prop} {s : DS} {gt nt : Nat} {ps : Array Tmp} {assign body : Code} {f : FuncId} {us cs : List DVal} {xs : List (List DVal)} {ok : Nat → Bool} (ρ ν : List (Nat × Nat)) (sl : List (Nat × DVal)) (S Z : Nat → List Ent) (jc : Nat → Code) (T : List Ent) (e0 : Exit)
  (hI : ISpec P f us cs xs ok) (hB : B.nt = nt ∧ B.ro = none) (hsl : mxS sl ≤ 1) (hmx : mxL us = 0 ∧ mxL cs = 0) (hgt : (gt, .fn (.func f) us cs) ∈ sl) (hps : ∀ x ∈ xs, x.length = ps.size ∧ mxL x = 0) (hpn : ∀ p ∈ ps.toList, p < nt)
  (hpre : outE s.own (phiOf s.own (inRho ρ)) (inRho ρ) = some (S 0) ∧ inOK s.own ρ ∧ (okDs (sl.map fun p => getS s.slots p.1) ∧ wkA ((sl.map fun p => getS s.slots p.1).map (renD (phiOf s.own (inRho ρ)))) (sl.map (·.2))) ∧ (((ρ ++ ν).map (·.1)).Nodup ∧ (ρ.map (·.2)).Nodup))
  (round : ∀ k x, xs[k]? = some x → (∀ j, j < k → ok j = true) → ∀ B : Base, B.nt = nt → DW P B assign (RA P nt body (ok k) (if ok k then S (k + 1) else Z k) (jc k)) ⟨putM ps.toList x sl, S k⟩)
  (hT : match stopAt ok xs.length with | none => e0 = .normal ∧ T = S xs.length | some k => (jc k = .ret ∧ e0 = .ret ∨ (∃ id, jc k = .exit id ∧ e0 = .exit id) ∨ (∃ t, jc k = .goto t ∧ e0 = .goto t)) ∧ T = Z k)
  (hTo : okOs T)
  (hk : ∀ r, match backE (backOf s.own ρ ν r) T with
   | some l => ((frameE s.own ((ρ ++ ν).map (·.1)) ++ l).map (·.id)).Nodup ∧ Q e0 ⟨s.slots, frameE s.own ((ρ ++ ν).map (·.1)) ++ l⟩
   | none => False) : DW P B (.rangeFunc (.tmp gt) ps assign body) Q s := by
 intro a w loc R
 have h := hk (lim B s)
 split at h
 rotate_left
 ·exact h.elim
 rename_i l hl
 obtain ⟨hnd, hQ⟩ := h
 have hC : ∀ vs w (R R' : Value → World → Prop), (∀ v w', R v w' → R' v w') → loopC P (.rangeFunc (.tmp gt) ps assign body) (sl.map (·.1)) nt e0 vs w R → loopC P (.rangeFunc (.tmp gt) ps assign body) (sl.map (·.1)) nt e0 vs w R' :=
  fun vs w R R' h hc a h1 h2 => wpIn_mono (hc a h1 h2) (fun e a' w' ⟨k1, k2, k3⟩ => ⟨k1, k2, h _ _ k3⟩)
 have hS := SpecC_of hC ρ ν (loop_spec hsl hI hmx hgt hps hpn round hT) hpre.1 hpre.2.1 hpre.2.2.1 hpre.2.2.2 hl hTo (by simp [okD, ok3s]) hnd
 have hlim : lim B s = max B.N (max (mxS s.slots) (mxE s.own)) := rfl
 have hw := hS B.M0 w loc ((sl.map fun p => a.tmps.getD p.1 Go.undef).toArray) (by omega) R.st (by
  have key : ∀ l : List (Nat × DVal), rdV (curOf s.own loc) (hotOf s.own loc ++ B.M0) w.heap (l.map fun p => getS s.slots p.1) (l.map fun p => a.tmps.getD p.1 Go.undef) := by
   intro l
   induction l with
   | nil => simp [rdV]
   | cons p l ih => simp only [List.map_cons, rdV]; exact ⟨_, _, rfl, R.sl p.1, ih⟩
  simpa using key sl) a (by simp) (by rw [R.nt]; exact hB.1)
 rw [hB.2]
 refine wpIn_mono hw ?_
 rintro e a' w' ⟨rfl, ⟨D, rfl, hD1, hD2⟩, loc', St', hu, hnew, hver, _⟩
 have R' := R.step (dst := none) (v := Go.undef) (d := .any) (n := lim B s) (by omega) (by omega) (fun i hi => by simp at hi) St' hu hnew hver (by simp [rd])
 refine ⟨_, loc', hQ, ⟨R'.st, R'.upd, R'.new, R'.ver, R'.sl, R'.nt, ?_⟩⟩
 obtain ⟨rs, h1, h2, h3, h4⟩ := R.df
 obtain ⟨rs', g1, g2, g3, g4⟩ := R'.df
 have hrs : ∀ r ∈ rs, r < w.heap.size := fun r hr => (Array.getElem?_eq_some_iff.1 (h3 r hr).1).1
 refine ⟨D :: rs, by simp [h1], ?_, ?_, fun h => absurd hB.2 h⟩
 ·rw [List.nodup_cons]
  exact ⟨fun hm => by have := hrs D hm; omega, h2⟩
 ·intro r hr
  rcases List.mem_cons.1 hr with rfl | hr
  ·refine ⟨hD2, Nat.le_trans B.hnd (Nat.le_trans R.upd.size hD1), fun hm => ?_⟩
   rcases List.mem_append.1 hm with hm | hm
   ·obtain ⟨e, he, hb⟩ := List.mem_flatMap.1 hm
    exact obj_nd (St'.ok e he) _ hb _ hD2
   ·have := R.st.lt r (List.mem_append_right _ hm); omega
  ·obtain ⟨k1, k2, k3⟩ := h3 r hr
   have hlt := hrs r hr
   refine ⟨?_, k2, fun hm => ?_⟩
   ·rw [hu.blk r hlt (fun hm => k3 (List.mem_append_left _ hm))]; exact k1
   ·rcases List.mem_append.1 hm with hm | hm
    ·rcases hnew r hm with h | h
     ·exact k3 (List.mem_append_left _ h)
     ·omega
    ·exact k3 (List.mem_append_right _ hm)

def yOK (own : List Ent) (id r' l : Nat) (A : Abs) : Prop := match findE own id, findE own (id + 1) with
 | some e0, some e => e0.r = r' ∧ e0.obj = .abs (yH l) ∧ e.obj = .abs A
 | _, _ => False
theorem callY_mk {P : Program} {id r' l : Nat} {args : List DVal} {own : List Ent} {K : ContE} {A A' : Abs} {b : Bool} (hY : YAt P l A args b A') (hpre : yOK own id r' l A ∧ mxL args = 0)
  (hk : ∀ r, K.f (.bool b) (upE own (id + 1) r (.abs A'))) : callY P id r' args own K := by
 obtain ⟨h, hm⟩ := hpre
 unfold yOK at h
 split at h
 ·rename_i e0 e h1 h2
  exact ⟨e0, l, e, A, A', b, h1, h.1, h.2.1, h2, h.2.2, hm, hY, hk⟩
 ·exact h.elim

theorem stopAt_some {ok : Nat → Bool} : ∀ {n k : Nat}, k < n → (∀ j, j < k → ok j = true) → ok k = false → stopAt ok n = some k
 | n + 1, k, hk, hj, ho => by
  simp only [stopAt]
  by_cases h : k < n
  ·rw [stopAt_some h hj ho]
  ·have : k = n := by omega
   subst this
   have : stopAt ok k = none := by
    have key : ∀ m, m ≤ k → stopAt ok m = none := by
     intro m
     induction m with
     | zero => intro _; rfl
     | succ m ih => intro hm; simp only [stopAt, ih (by omega), hj m (by omega), if_true]
    exact key k (Nat.le_refl _)
   rw [this, ho]; rfl
theorem stopAt_none {ok : Nat → Bool} : ∀ {n : Nat}, (∀ j, j < n → ok j = true) → stopAt ok n = none
 | 0, _ => rfl
 | n + 1, hj => by simp only [stopAt, stopAt_none (n := n) (fun j h => hj j (by omega)), hj n (by omega), if_true]
attribute [simp] yOK RA RQ putM
end Go.Dm
end

section
set_option linter.unusedSectionVars false
/- occurrences of regular expressions, gone over -/



set_option linter.unusedSimpArgs false
set_option linter.unusedVariables false
namespace Go.Proofs.YtdgocjbakjamaaaGreat
open Go Go.Dm
variable [DMode]
attribute [local irreducible] DW callP callS callY RB Dm.Sub
set_option maxRecDepth 100000

def isOcc (x : Nd) : Bool := decide (x.k = 2) || decide (x.k = 3)
def occAt (l : List Nd) (j : Nat) : Option (Nat × ByteArray) := match l[j]? with
 | some p => if isOcc p = true then some (j, p.s) else none
 | none => none
def occTo (l : List Nd) (n : Nat) : List (Nat × ByteArray) := (List.range n).filterMap (occAt l)
def dOcc (x : Nat × ByteArray) : List DVal := [.int .i64 x.1, .str x.2]
theorem occTo_succ {l : List Nd} {n : Nat} {p : Nd} (h : l[n]? = some p) : occTo l (n + 1) = occTo l n ++ (if isOcc p = true then [(n, p.s)] else []) := by
 simp only [occTo, List.range_succ, List.filterMap_append, List.filterMap_cons, List.filterMap_nil, occAt, h]
 by_cases hp : isOcc p = true <;> simp [hp]
theorem occTo_split {l : List Nd} {n m : Nat} (h : n ≤ m) : ∃ r, occTo l m = occTo l n ++ r := by
 obtain ⟨d, rfl⟩ : ∃ d, m = n + d := ⟨m - n, by omega⟩
 exact ⟨((List.range d).map (n + ·)).filterMap (occAt l), by simp only [occTo, List.range_add, List.filterMap_append]⟩
theorem occTo_at {l : List Nd} {n m : Nat} {p : Nd} (h : l[n]? = some p) (hp : isOcc p = true) (hm : n < m) : (occTo l m)[(occTo l n).length]? = some (n, p.s) := by
 obtain ⟨r, hr⟩ := occTo_split (l := l)  (show n + 1 ≤ m from hm)
 rw [hr, occTo_succ h, if_pos hp]
 simp
theorem occTo_lt {l : List Nd} {n m : Nat} {p : Nd} (h : l[n]? = some p) (hp : isOcc p = true) (hm : n < m) : (occTo l n).length < (occTo l m).length := (List.getElem?_eq_some_iff.1 (occTo_at h hp hm)).1
def anRX5123 : Ann := ⟨[], []⟩
def anRX5123b2 : Ann := ⟨[5], []⟩
theorem cloneN_pure (l : List Nd) : DPure Tryz.prog 123 [dNds l] (dNds l) := by
 match l with
 | [] =>
  refine DPure_sl [] ?_ ?_
  ·refine DPure_introF [7] (fn := Tryz.f123) Tryz.func123 rfl Tryz.call123 (by simp [Tryz.ntmps123]) (by simp [mx, mxR]) ?_
   intro hwf B hnt
   simp only [Tryz.ntmps123] at hnt
   have hA := an_is anRX5123 Tryz.mixed (aj2 @anRX5123.eq_1 Tryz.results123)
   simp only [argS, List.nil_append, dNds, List.map_cons]
   exact go0 aj0 aj0 aj0
  ·refine DPure_introF [7, 5] (fn := Tryz.f123) Tryz.func123 rfl Tryz.call123 (by simp [Tryz.ntmps123]) (by simp [mx, mxR]) ?_
   intro hwf B hnt
   simp only [Tryz.ntmps123] at hnt
   have hA := an_is anRX5123b2 Tryz.mixed (aj2 @anRX5123b2.eq_1 Tryz.results123)
   simp only [argS, List.nil_append, dNds, List.map_cons]
   exact go0 aj0 aj0 aj0
 | s :: l =>
  refine DPure_introF [7, 5] (fn := Tryz.f123) Tryz.func123 rfl Tryz.call123 (by simp [Tryz.ntmps123]) (by simp [mx, mxR]) ?_
  intro hwf B hnt
  simp only [Tryz.ntmps123] at hnt
  have hA := an_is anRX5123b2 Tryz.mixed (aj2 @anRX5123b2.eq_1 Tryz.results123)
  have hsz : (s :: l).length * 32 ≤ 150000000000000 := by have := hwf.1; simp only [wfD, List.length_map] at this; exact this.1
  clear hwf
  have z2 : (s :: l).length ≤ 9223372036854775807 := by omega
  simp only [List.length_cons] at hsz z2
  simp only [argS, List.nil_append, dNds, List.map_cons]
  exact go0 aj0 aj0 (aj2 hsz z2)


def anRX5153 : Ann := ⟨[25], [⟨2, [4], [], []⟩]⟩
set_option maxHeartbeats 1000000 in
theorem names84_spec (l : List Nd) (ok : Nat → Bool) : ISpec Tryz.prog 153 [] [.ref [dNds l]] ((occTo l l.length).map dOcc) ok := by
 intro lb A Z hY
 refine DSpec_intro [] [(0, 0, 0), (1, 1, 1)] (fn := Tryz.f153) Tryz.func153 rfl Tryz.call153 (by simp [Tryz.ntmps153]) (by simp) (by simp) ?_
 intro hwf B hnt
 simp only [Tryz.ntmps153] at hnt
 have hA := an_is anRX5153 Tryz.mixed (aj2 @anRX5153.eq_1 Tryz.results153)
 have hwl : l.length < 9223372036854775807 := len_nds (by simpa [wfL, wfD] using hwf)
 clear hwf
 simp only [argS, List.nil_append]
 (refine go1 aj0 aj0 aj0 ?_; intros; refine mk_i ?_)
 refine DW_loop (X := {k : Nat // k ≤ l.length ∧ ∀ j, j < (occTo l k).length → ok j = true}) (fun k => ⟨[(0, .pk 0 0), (5, dNds l), (6, .int .i64 l.length), (7, .int .i64 k.1)], [⟨0, 0, .abs (yH lb)⟩, ⟨1, 1, .abs (A (occTo l k.1).length)⟩]⟩) (fun k => l.length - k.1) ⟨0, by simp [occTo]⟩ (Sub.lit (by simp [occTo])) ?_
 rintro ⟨k, hk, hj⟩
 by_cases hlt : k < l.length
 ·obtain ⟨p, hp, hp', hpm⟩ := at_lt' hlt
  have hs := occTo_succ hp
  by_cases hh : isOcc p = true
  ·have hx := hY (occTo l k).length (dOcc (k, p.s)) (by rw [List.getElem?_map, occTo_at hp hh hlt]; rfl) hj
   rw [if_pos hh] at hs
   have hkd : p.k = 2 ∨ p.k = 3 := by unfold isOcc at hh; simpa using hh
   have hgo : ∀ j, j < (occTo l (k + 1)).length → ok (occTo l k).length = true → ok j = true := by
    rw [hs]
    intro j hj' hok
    simp at hj'
    by_cases hjk : j = (occTo l k).length
    ·subst hjk; exact hok
    ·exact hj j (by omega)
   rcases hkd with hkd | hkd
   ·(refine go1 aj0 aj0 (aj5 @dNd.eq_1 hlt hp hp' hkd) ?_; intros; refine mk_i ?_)
    cases hok : ok (occTo l k).length
    ·rw [hok] at hx
     refine callY_mk hx (by simp [dOcc]) (fun r => ?_)
     have hst := stopAt_some (occTo_lt hp hh hlt) hj hok
     simp [hnt, Tryz.results153, anRX5153, hst]
     exact go0 aj0 aj0 (aj1 hst)
    ·rw [hok] at hx
     refine callY_mk hx (by simp [dOcc]) (fun r => ?_)
     simp [hnt, Tryz.results153, anRX5153]
     (refine go1 aj0 aj0 aj0 ?_; intros; refine mk_i ?_)
     refine Again.mk ⟨k + 1, by omega, fun j hj' => hgo j hj' hok⟩ (Sub.lit (by simp [hs])) (by simp; omega)
     skip
   ·(refine go1 aj0 aj0 (aj5 @dNd.eq_1 hlt hp hp' hkd) ?_; intros; refine mk_i ?_)
    cases hok : ok (occTo l k).length
    ·rw [hok] at hx
     refine callY_mk hx (by simp [dOcc]) (fun r => ?_)
     have hst := stopAt_some (occTo_lt hp hh hlt) hj hok
     simp [hnt, Tryz.results153, anRX5153, hst]
     exact go0 aj0 aj0 (aj1 hst)
    ·rw [hok] at hx
     refine callY_mk hx (by simp [dOcc]) (fun r => ?_)
     simp [hnt, Tryz.results153, anRX5153]
     (refine go1 aj0 aj0 aj0 ?_; intros; refine mk_i ?_)
     refine Again.mk ⟨k + 1, by omega, fun j hj' => hgo j hj' hok⟩ (Sub.lit (by simp [hs])) (by simp; omega)
     skip
  ·rw [if_neg hh, List.append_nil] at hs
   have h2 : ¬ p.k = 2 := fun e => hh (by unfold isOcc; simp [e])
   have h3 : ¬ p.k = 3 := fun e => hh (by unfold isOcc; simp [e])
   have h2' : (p.k == 2) = false := by simpa using h2
   have h3' : (p.k == 3) = false := by simpa using h3
   (refine go1 aj0 aj0 (aj8 @dNd.eq_1 hlt hp hp' h2 h3 h2' h3') ?_; intros; refine mk_i ?_)
   refine Again.mk ⟨k + 1, by omega, by rw [hs]; exact hj⟩ (Sub.lit (by simp [hs])) (by simp; omega)
   skip
 ·have hkk : k = l.length := by omega
  subst hkk
  have hst := stopAt_none hj
  exact go0 aj0 aj0 (aj1 hst)

def anRX583 : Ann := ⟨[1], [⟨1, [1], [], []⟩]⟩
theorem names41_pure (l : List Nd) : DPure Tryz.prog 83 [dNds l] (.fn (.func 153) [] [.ref [dNds l]]) := by
 refine DPure_introF [] (fn := Tryz.f83) Tryz.func83 rfl Tryz.call83 (by simp [Tryz.ntmps83]) (by simp [mx, mxL]) ?_
 intro hwf B hnt
 simp only [Tryz.ntmps83] at hnt
 have hA := an_is anRX583 Tryz.mixed (aj2 @anRX583.eq_1 Tryz.results83)
 clear hwf
 simp only [argS]
 have h1 := cloneN_pure l
 exact go0 (aj1 h1) aj0 aj0

def occN (l : List Nd) : Nat := (occTo l l.length).length
def anRX521 : Ann := ⟨[], []⟩
set_option maxHeartbeats 1000000 in
theorem occ13_pure (l : List Nd) : DPure Tryz.prog 21 [dNds l] (.int .i64 (occN l)) := by
 refine DPure_introF [] (fn := Tryz.f21) Tryz.func21 rfl Tryz.call21 (by simp [Tryz.ntmps21]) (by simp [mx]) ?_
 intro hwf B hnt
 simp only [Tryz.ntmps21] at hnt
 have hA := an_is anRX521 Tryz.mixed (aj2 @anRX521.eq_1 Tryz.results21)
 have hwl := len_nds hwf.1
 clear hwf
 simp only [argS]
 have h1 := names41_pure l
 (refine go1 (aj1 h1) aj0 aj0 ?_; intros; refine mk_i ?_)
 have hI := names84_spec l (fun _ => true)
 have hst : stopAt (fun _ : Nat => true) (occTo l l.length).length = none := stopAt_none fun _ _ => rfl
 have hocc : ∀ x ∈ (occTo l l.length).map dOcc, x.length = 2 ∧ mxL x = 0 := by
  intro x hx
  obtain ⟨y, _, rfl⟩ := List.mem_map.1 hx
  exact ⟨rfl, by simp [dOcc, mx]⟩
 have hlen : (occTo l l.length).length ≤ l.length := by
  simp only [occTo]
  exact Nat.le_trans (List.length_filterMap_le _ _) (by simp)
 refine DW_rangeFunc (nt := 11) [(3, 3)] [] [(0, dNds l), (3, .bx 3 0 0), (5, .fn (.func 153) [] [.ref [dNds l]])]
  (fun k => [⟨3, 0, .box [.int .i64 (k : Int)]⟩]) (fun k => [⟨3, 0, .box [.int .i64 (k : Int)]⟩]) (fun _ => .ret) [⟨3, 0, .box [.int .i64 (occN l : Int)]⟩] .normal
  hI (by simp [hnt]) (by simp [mxS]) (by simp) (List.mem_of_getElem? (i := 2) rfl) hocc (by simp) ?_ ?_ ?_ ?_ ?_
 ·simp
 ·intro k x hx hj B1 hnt
  rw [List.getElem?_map, Option.map_eq_some_iff] at hx
  obtain ⟨⟨j, s⟩, hy, rfl⟩ := hx
  have hkl : k < (occTo l l.length).length := (List.getElem?_eq_some_iff.1 hy).1
  have hw : IntKind.i64.wrap ((k : Int) + 1) = (k : Int) + 1 := wrap64_in (by omega) (by omega)
  simp only [Array.toList, putM]
  (refine go1 aj0 aj0 aj0 ?_; intros; refine mk_i ?_)
  refine RB_mk fun B2 hnt => ?_
  (refine go1 aj0 aj0 (aj2 @dOcc.eq_1 hw) ?_; intros; refine mk_i ?_)
  refine Sub.lit ?_
  simp
 ·simp only [List.length_map, hst]
  exact ⟨trivial, rfl⟩
 ·simp
 ·intro r
  simp
  exact go0 aj0 aj0 aj0
end Go.Proofs.YtdgocjbakjamaaaGreat
end

section
set_option linter.unusedSectionVars false
/- regular expressions by definition: heights, the empty word, places -/




set_option linter.unusedSimpArgs false
set_option linter.unusedVariables false
namespace Go.Proofs.YtdgocjbakjamaaaGreat
open Go Go.Dm
variable [DMode]
attribute [local irreducible] DW callP callS
set_option maxRecDepth 100000

theorem htL_snoc : ∀ (a : List RT) (u : RT), htL (a ++ [u]) = max (htL a) (htT u)
 | [], u => by rw [List.nil_append, htL_cons, htL_nil]; omega
 | t :: a, u => by rw [List.cons_append, htL_cons, htL_snoc a u, htL_cons]; omega
theorem htL_take {ks : List RT} {i : Nat} {u : RT} (h : ks[i]? = some u) : htL (ks.take (i + 1)) = max (htL (ks.take i)) (htT u) := by
 rw [List.take_add_one, h]; exact htL_snoc _ _
mutual
theorem ht_leT : ∀ t : RT, htT t ≤ (flat t).length
 | .mk x ks => by rw [htT_mk, flat_mk, List.length_cons]; have := ht_leL ks; omega
theorem ht_leL : ∀ ts : List RT, htL ts ≤ (flatL ts).length
 | [] => by rw [htL_nil]; omega
 | t :: ts => by rw [htL_cons, flatL_cons, List.length_append]; have := ht_leT t; have := ht_leL ts; omega
end
theorem flatL_take_le (ks : List RT) (i : Nat) : (flatL (ks.take i)).length ≤ (flatL ks).length := by
 have := congrArg List.length (flatL_split ks i)
 rw [List.length_append] at this
 omega
theorem kids_row {p : Nat} {ks : List RT} {i : Nat} (h : i < ks.length) : ((List.range ks.length).map fun i => kidD (kidP p ks i))[i]? = some [.int .i64 (kidP p ks i : Int)] := by
 rw [List.getElem?_map, List.getElem?_range h]; rfl

def anRY3238 : Ann := ⟨[], []⟩
set_option maxHeartbeats 4000000 in
theorem height169_pure : ∀ (n : Nat) (t : RT) (l : List Nd) (p : Nat), (flat t).length = n → At l p t → l.length ≤ 1310720 → DPure Tryz.prog 238 [dNds l, .int .i64 p] (.int .i64 (htT t)) := by
 intro n
 induction n using Nat.strongRecOn with
 | ind n ih =>
 intro t l p hn ht hs
 obtain ⟨x, ks⟩ := t
 have kk := kids81_pure l p x ks ht hs
 obtain ⟨g0, gl, ge⟩ := ht.head
 have hfl : (flat (.mk x ks)).length = (flatL ks).length + 1 := by rw [flat_mk, List.length_cons]
 have hkl := flatL_len ks
 have hk9 : ks.length ≤ 1310720 := by omega
 have hch : ∀ i u, ks[i]? = some u → DPure Tryz.prog 238 [dNds l, .int .i64 (kidP p ks i)] (.int .i64 (htT u)) := fun i u hu => by
  have hm := flatL_mem (List.mem_of_getElem? hu)
  exact ih (flat u).length (by omega) u l _ rfl (ht.kid hu).1 hs
 have hrow : ∀ i, i < ks.length → _ := fun i h => kids_row (p := p) (ks := ks) (i := i) h
 have hht : htL ks ≤ 1310720 := by have := ht_leL ks; omega
 rw [htT_mk]
 unfold kidsD at kk
 obtain ⟨D, hD⟩ : ∃ D, D = (List.range ks.length).map fun i => kidD (kidP p ks i) := ⟨_, rfl⟩
 have hDl : D.length = ks.length := by rw [hD]; simp
 have hDm : mxR D = 0 := by rw [hD]; exact mx_kids p ks _
 rw [← hD] at kk hrow
 clear hD ih ht g0 gl ge hn
 refine DPure_introF [] (fn := Tryz.f238) Tryz.func238 rfl Tryz.call238 (by simp [Tryz.ntmps238]) (by simp [mx]) ?_
 intro hwf B hnt
 simp only [Tryz.ntmps238] at hnt
 have hA := an_is anRY3238 Tryz.mixed (aj2 @anRY3238.eq_1 Tryz.results238)
 clear hwf
 simp only [argS]
 (refine go1 (aj1 kk) aj0 aj0 ?_; intros; refine mk_i ?_)
 refine DW_loop (X := {i : Nat // i ≤ ks.length}) (fun i => ⟨[(0, dNds l), (5, .int .i64 (htL (ks.take i.1))), (6, .sl 1 8 D), (7, .int .i64 i.1)], []⟩) (fun i => ks.length - i.1) ⟨0, by omega⟩ (Sub.lit (by simp [htL_nil, hDm])) ?_
 rintro ⟨i, hi⟩
 simp only
 by_cases hlt : i < ks.length
 ·obtain ⟨u, hu, hu', _⟩ := at_lt' hlt
  have e1 := hch i u hu
  have hr := hrow i hlt
  have hltD : i < D.length := by omega
  have hwi : IntKind.i64.wrap ((i : Int) + 1) = (i : Int) + 1 := wrap64_in (by omega) (by omega)
  have hr' : D[i]'hltD = [.int .i64 (kidP p ks i : Int)] := (List.getElem?_eq_some_iff.1 hr).2
  have htk := htL_take hu
  obtain ⟨a, ha⟩ : ∃ a, a = htL (ks.take i) := ⟨_, rfl⟩
  obtain ⟨c, hcc⟩ : ∃ c, c = htT u := ⟨_, rfl⟩
  rw [← ha, ← hcc] at htk
  rw [← hcc] at e1
  rw [← ha]
  obtain ⟨q, hq⟩ : ∃ q, q = kidP p ks i := ⟨_, rfl⟩
  rw [← hq] at e1 hr hr'
  by_cases hgt : a < c
  ·have hgt' : (a : Int) < (c : Int) := by omega
   have hmx : ((htL (ks.take (i + 1)) : Nat) : Int) = (c : Int) := by omega
   (refine go1 (aj1 e1) aj0 (aj8 hDl hltD hwi hr hr' hgt hgt' hlt) ?_; intros; refine mk_i ?_)
   refine Again.mk ⟨i + 1, by omega⟩ (Sub.lit (by simp only [hmx]; simp [hDm])) (by simp; omega)
   skip
  ·have hgt' : ¬ (a : Int) < (c : Int) := by omega
   have hmx : ((htL (ks.take (i + 1)) : Nat) : Int) = (a : Int) := by omega
   (refine go1 (aj1 e1) aj0 (aj8 hDl hltD hwi hr hr' hgt hgt' hlt) ?_; intros; refine mk_i ?_)
   refine Again.mk ⟨i + 1, by omega⟩ (Sub.lit (by simp only [hmx]; simp [hDm])) (by simp; omega)
   skip
 ·have hkk : i = ks.length := by omega
  subst hkk
  rw [List.take_length]
  have q1 : IntKind.i64.wrap ((htL ks : Int) + 1) = (htL ks : Int) + 1 := wrap64_in (by omega) (by omega)
  exact go0 aj0 aj0 (aj2 hDl q1)

theorem any_take {α : Type} {f : α → Bool} {l : List α} {i : Nat} {u : α} (h : l[i]? = some u) : (l.take (i + 1)).any f = ((l.take i).any f || f u) := by
 rw [List.take_add_one, h, List.any_append]; simp
theorem all_take {α : Type} {f : α → Bool} {l : List α} {i : Nat} {u : α} (h : l[i]? = some u) : (l.take (i + 1)).all f = ((l.take i).all f && f u) := by
 rw [List.take_add_one, h, List.all_append]; simp
def anRY382 : Ann := ⟨[], []⟩
set_option maxHeartbeats 4000000 in
theorem empty39_pure : ∀ (n : Nat) (t : RT) (l : List Nd) (p : Nat), (flat t).length = n → At l p t → l.length ≤ 1310720 → DPure Tryz.prog 82 [dNds l, .int .i64 p] (.bool (empT t)) := by
 intro n
 induction n using Nat.strongRecOn with
 | ind n ih =>
 intro t l p hn ht hs
 obtain ⟨x, ks⟩ := t
 have kk := kids81_pure l p x ks ht hs
 have hm := (okT_mk ht.ok).1
 obtain ⟨g0, gl, ge⟩ := ht.head
 simp only [RT.x] at g0
 have g0' : l[p]'gl = x := (List.getElem?_eq_some_iff.1 g0).2
 have hfl : (flat (.mk x ks)).length = (flatL ks).length + 1 := by rw [flat_mk, List.length_cons]
 have hkl := flatL_len ks
 have hk9 : ks.length ≤ 1310720 := by omega
 have hch : ∀ i u, ks[i]? = some u → DPure Tryz.prog 82 [dNds l, .int .i64 (kidP p ks i)] (.bool (empT u)) := fun i u hu => by
  have hm := flatL_mem (List.mem_of_getElem? hu)
  exact ih (flat u).length (by omega) u l _ rfl (ht.kid hu).1 hs
 have hrow : ∀ i, i < ks.length → _ := fun i h => kids_row (p := p) (ks := ks) (i := i) h
 rw [empT_mk, anyE_any, allE_all]
 unfold kidsD at kk
 obtain ⟨D, hD⟩ : ∃ D, D = (List.range ks.length).map fun i => kidD (kidP p ks i) := ⟨_, rfl⟩
 have hDl : D.length = ks.length := by rw [hD]; simp
 have hDm : mxR D = 0 := by rw [hD]; exact mx_kids p ks _
 rw [← hD] at kk hrow
 clear hD ih ht ge hn
 refine DPure_introF [] (fn := Tryz.f82) Tryz.func82 rfl Tryz.call82 (by simp [Tryz.ntmps82]) (by simp [mx]) ?_
 intro hwf B hnt
 simp only [Tryz.ntmps82] at hnt
 have hA := an_is anRY382 Tryz.mixed (aj2 @anRY382.eq_1 Tryz.results82)
 clear hwf
 simp only [argS]
 (refine go1 (aj1 kk) aj0 (aj4 @dNd.eq_1 g0 g0' gl) ?_; intros; refine mk_i ?_)
 refine DW_loop (X := {i : Nat // i ≤ ks.length}) (fun i => ⟨[(0, dNds l), (5, .int .i64 x.k), (6, .sl 1 8 D), (7, .bool ((ks.take i.1).any empT)), (8, .bool ((ks.take i.1).all empT)), (9, .int .i64 i.1)], []⟩) (fun i => ks.length - i.1) ⟨0, by omega⟩ (Sub.lit (by simp [hDm])) ?_
 rintro ⟨i, hi⟩
 simp only
 by_cases hlt : i < ks.length
 ·obtain ⟨u, hu, hu', _⟩ := at_lt' hlt
  have e1 := hch i u hu
  have hr := hrow i hlt
  have hltD : i < D.length := by omega
  have hwi : IntKind.i64.wrap ((i : Int) + 1) = (i : Int) + 1 := wrap64_in (by omega) (by omega)
  have hr' : D[i]'hltD = [.int .i64 (kidP p ks i : Int)] := (List.getElem?_eq_some_iff.1 hr).2
  have h1 := any_take (f := empT) hu
  have h2 := all_take (f := empT) hu
  obtain ⟨a, ha⟩ : ∃ a, a = (ks.take i).any empT := ⟨_, rfl⟩
  obtain ⟨b, hb⟩ : ∃ b, b = (ks.take i).all empT := ⟨_, rfl⟩
  rw [← ha] at h1
  rw [← hb] at h2
  rw [← ha, ← hb]
  obtain ⟨q, hq⟩ : ∃ q, q = kidP p ks i := ⟨_, rfl⟩
  rw [← hq] at e1 hr hr'
  (refine go1 (aj1 e1) aj0 (aj6 hDl hltD hwi hr hr' hlt) ?_; intros; refine mk_i ?_)
  refine Again.mk ⟨i + 1, by omega⟩ (Sub.lit (by simp only [h1, h2]; simp [hDm])) (by simp; omega)
  skip
 ·have hkk : i = ks.length := by omega
  subst hkk
  rw [List.take_length]
  rcases mayN_kind hm with k | k | k | k | k | k | k | k <;> exact go0 aj0 aj0 (aj2 hDl k)
end Go.Proofs.YtdgocjbakjamaaaGreat
end

section
set_option linter.unusedSectionVars false
/- boxes by definition: what may stand first, last, next -/


set_option linter.unusedSimpArgs false
set_option linter.unusedVariables false
namespace Go.Proofs.YtdgocjbakjamaaaGreat
open Go Go.Dm
variable [DMode]
attribute [local irreducible] DW callP callS
set_option maxRecDepth 100000

theorem At.end {l : List Nd} {p : Nat} {t : RT} (h : At l p t) : endI l p = (p : Int) + (flat t).length := by
 obtain ⟨hok, hle, r, hr⟩ := h
 unfold endI
 rw [hr, endN_flat _ _ 0 hok, endN_zero]
 have h2 := congrArg List.length hr
 rw [List.length_drop, List.length_append] at h2
 simp only
 omega
def anRB1152 : Ann := ⟨[], []⟩
theorem within152_pure (l : List Nd) (p q : Nat) (t : RT) (h : At l p t) (hs : l.length ≤ 1310720) : DPure Tryz.prog 152 [dNds l, .int .i64 p, .int .i64 q] (.bool (inB t p q)) := by
 refine DPure_introF [] (fn := Tryz.f152) Tryz.func152 rfl Tryz.call152 (by simp [Tryz.ntmps152]) (by simp [mx]) ?_
 intro hwf B hnt
 simp only [Tryz.ntmps152] at hnt
 have hA := an_is anRB1152 Tryz.mixed (aj2 @anRB1152.eq_1 Tryz.results152)
 clear hwf
 simp only [argS]
 have e1 := end144_pure l p hs h.le
 rw [h.end] at e1
 obtain ⟨n, hn⟩ : ∃ n, n = (flat t).length := ⟨_, rfl⟩
 unfold inB
 rw [← hn] at e1 ⊢
 have hc : ((p : Int) ≤ (q : Int)) = (p ≤ q) := by simp
 have hd : ((q : Int) < (p : Int) + (n : Int)) = (q < p + n) := by apply propext; omega
 by_cases h1 : p ≤ q
 ·exact go0 (aj1 e1) aj0 (aj3 hc hd h1)
 ·exact go0 (aj1 e1) aj0 (aj3 hc hd h1)
theorem kid_next {p : Nat} {ks : List RT} {i : Nat} {u : RT} (h : ks[i]? = some u) : kidP p ks (i + 1) = kidP p ks i + (flat u).length := by
 unfold kidP
 rw [flatL_take (ks := ks) h]
 omega
theorem kid_drop {ks : List RT} {i : Nat} {u : RT} (h : ks[i]? = some u) : ks.drop i = u :: ks.drop (i + 1) := by
 obtain ⟨hi, rfl⟩ := List.getElem?_eq_some_iff.1 h
 exact List.drop_eq_getElem_cons hi
theorem kid_zero (p : Nat) (ks : List RT) : kidP p ks 0 = p + 1 := by unfold kidP; rw [List.take_zero, flatL_nil]; rfl
def anRB1148 : Ann := ⟨[], []⟩
set_option maxHeartbeats 4000000 in
theorem begins148_pure (q : Nat) : ∀ (n : Nat) (t : RT) (l : List Nd) (p : Nat), (flat t).length = n → At l p t → l.length ≤ 1310720 → DPure Tryz.prog 148 [dNds l, .int .i64 p, .int .i64 q] (.bool (bgT t p q)) := by
 intro n
 induction n using Nat.strongRecOn with
 | ind n ih =>
 intro t l p hn ht hs
 obtain ⟨x, ks⟩ := t
 have kk := kids81_pure l p x ks ht hs
 obtain ⟨g0, gl, ge⟩ := ht.head
 simp only [RT.x] at g0
 have g0' : l[p]'gl = x := (List.getElem?_eq_some_iff.1 g0).2
 have hfl : (flat (.mk x ks)).length = (flatL ks).length + 1 := by rw [flat_mk, List.length_cons]
 have hkl := flatL_len ks
 have hk9 : ks.length ≤ 1310720 := by omega
 have hch : ∀ i u, ks[i]? = some u → DPure Tryz.prog 148 [dNds l, .int .i64 (kidP p ks i), .int .i64 q] (.bool (bgT u (kidP p ks i) q)) := fun i u hu => by
  have hm := flatL_mem (List.mem_of_getElem? hu)
  exact ih (flat u).length (by omega) u l _ rfl (ht.kid hu).1 hs
 have hwi1 : ∀ i u, ks[i]? = some u → _ := fun i u hu => within152_pure l (kidP p ks i) q u (ht.kid hu).1 hs
 have hem : ∀ i u, ks[i]? = some u → _ := fun i u hu => empty39_pure _ u l (kidP p ks i) rfl (ht.kid hu).1 hs
 have hrow : ∀ i, i < ks.length → _ := fun i h => kids_row (p := p) (ks := ks) (i := i) h
 rw [bgT_mk]
 unfold kidsD at kk
 obtain ⟨D, hD⟩ : ∃ D, D = (List.range ks.length).map fun i => kidD (kidP p ks i) := ⟨_, rfl⟩
 have hDl : D.length = ks.length := by rw [hD]; simp
 have hDm : mxR D = 0 := by rw [hD]; exact mx_kids p ks _
 rw [← hD] at kk hrow
 clear hD ih ht ge hn
 obtain ⟨R, hR⟩ : ∃ R, R = bgL x.k ks (p + 1) q := ⟨_, rfl⟩
 rw [← hR]
 refine DPure_introF [] (fn := Tryz.f148) Tryz.func148 rfl Tryz.call148 (by simp [Tryz.ntmps148]) (by simp [mx]) ?_
 intro hwf B hnt
 simp only [Tryz.ntmps148] at hnt
 have hA := an_is anRB1148 Tryz.mixed (aj2 @anRB1148.eq_1 Tryz.results148)
 clear hwf
 simp only [argS]
 by_cases hpq : p = q
 ·have hpq' : (p : Int) = (q : Int) := by omega
  exact go0 (aj1 kk) aj0 (aj2 hpq hpq')
 have hpq' : ¬ (p : Int) = (q : Int) := by omega
 have hpqb : ((p : Int) == (q : Int)) = false := by simpa using hpq'
 (refine go1 (aj1 kk) aj0 (aj3 hpq hpq' hpqb) ?_; intros; refine mk_i ?_)
 rw [← kid_zero p ks, ← List.drop_zero (l := ks)] at hR
 refine DW_loop (X := {i : Nat // i ≤ ks.length ∧ R = bgL x.k (ks.drop i) (kidP p ks i) q}) (fun i => ⟨[(0, dNds l), (1, .int .i64 p), (2, .int .i64 q), (7, .sl 1 8 D), (8, .int .i64 i.1)], []⟩) (fun i => ks.length - i.1) ⟨0, by omega, by simpa using hR⟩ (Sub.lit (by simp [hDm])) ?_
 clear hR
 rintro ⟨i, hi, hR⟩
 simp only
 by_cases hlt : i < ks.length
 ·obtain ⟨u, hu, hu', _⟩ := at_lt' hlt
  have e1 := hch i u hu
  have e2 := hwi1 i u hu
  have e3 := hem i u hu
  have hr := hrow i hlt
  have hltD : i < D.length := by omega
  have hwi : IntKind.i64.wrap ((i : Int) + 1) = (i : Int) + 1 := wrap64_in (by omega) (by omega)
  have hr' : D[i]'hltD = [.int .i64 (kidP p ks i : Int)] := (List.getElem?_eq_some_iff.1 hr).2
  rw [kid_drop hu, bgL_cons, ← kid_next hu] at hR
  obtain ⟨a, ha⟩ : ∃ a, a = kidP p ks i := ⟨_, rfl⟩
  rw [← ha] at e1 e2 e3 hr hr' hR
  obtain ⟨b1, hb1⟩ : ∃ b1, b1 = inB u a q := ⟨_, rfl⟩
  obtain ⟨b2, hb2⟩ : ∃ b2, b2 = bgT u a q := ⟨_, rfl⟩
  obtain ⟨b3, hb3⟩ : ∃ b3, b3 = empT u := ⟨_, rfl⟩
  rw [← hb1] at e2 hR
  rw [← hb2] at e1 hR
  rw [← hb3] at e3 hR
  by_cases hb : (b1 && b2) = true
  ·rw [hb, Bool.true_or] at hR
   simp only [Bool.and_eq_true] at hb
   rw [hb.1] at e2
   rw [hb.2] at e1
   exact go0 (aj3 e1 e2 e3) aj0 (aj6 hDl hltD hr hr' hlt hR)
  ·rw [Bool.not_eq_true] at hb
   rw [hb, Bool.false_or] at hR
   by_cases k4 : x.k = 4
   ·cases b3
    ·rw [if_pos ⟨k4, rfl⟩] at hR
     cases b1
     ·exact go0 (aj3 e1 e2 e3) aj0 (aj11 @dNd.eq_1 g0 g0' gl hDl hltD hr hr' hlt hR k4)
     ·simp only [Bool.true_and] at hb
      rw [hb] at e1
      exact go0 (aj3 e1 e2 e3) aj0 (aj11 @dNd.eq_1 g0 g0' gl hDl hltD hr hr' hlt hR k4)
    ·rw [if_neg (by simp)] at hR
     cases b1
     ·(refine go1 (aj3 e1 e2 e3) aj0 (aj11 @dNd.eq_1 g0 g0' gl hDl hltD hwi hr hr' hlt k4) ?_; intros; refine mk_i ?_)
      refine Again.mk ⟨i + 1, by omega, hR⟩ (Sub.lit (by simp [hDm])) (by simp; omega)
      skip
     ·simp only [Bool.true_and] at hb
      rw [hb] at e1
      (refine go1 (aj3 e1 e2 e3) aj0 (aj11 @dNd.eq_1 g0 g0' gl hDl hltD hwi hr hr' hlt k4) ?_; intros; refine mk_i ?_)
      refine Again.mk ⟨i + 1, by omega, hR⟩ (Sub.lit (by simp [hDm])) (by simp; omega)
      skip
   ·rw [if_neg (fun h => k4 h.1)] at hR
    have b4 : (x.k == 4) = false := by simpa using k4
    cases b1
    ·(refine go1 (aj3 e1 e2 e3) aj0 (aj12 @dNd.eq_1 g0 g0' gl hDl hltD hwi hr hr' hlt k4 b4) ?_; intros; refine mk_i ?_)
     refine Again.mk ⟨i + 1, by omega, hR⟩ (Sub.lit (by simp [hDm])) (by simp; omega)
     skip
    ·simp only [Bool.true_and] at hb
     rw [hb] at e1
     (refine go1 (aj3 e1 e2 e3) aj0 (aj12 @dNd.eq_1 g0 g0' gl hDl hltD hwi hr hr' hlt k4 b4) ?_; intros; refine mk_i ?_)
     refine Again.mk ⟨i + 1, by omega, hR⟩ (Sub.lit (by simp [hDm])) (by simp; omega)
     skip
 ·have hkk : i = ks.length := by omega
  subst hkk
  rw [List.drop_length, bgL_nil] at hR
  exact go0 aj0 aj0 (aj2 hDl hR)
end Go.Proofs.YtdgocjbakjamaaaGreat
end

section
set_option linter.unusedSectionVars false
/- boxes by definition: what may stand last, next -/


set_option linter.unusedSimpArgs false
set_option linter.unusedVariables false
namespace Go.Proofs.YtdgocjbakjamaaaGreat
open Go Go.Dm
variable [DMode]
attribute [local irreducible] DW callP callS
set_option maxRecDepth 100000

theorem take_snoc2 {α : Type} {l : List α} {i : Nat} {x : α} (h : l[i]? = some x) : l.take (i + 1) = l.take i ++ [x] := by rw [List.take_add_one, h]; rfl
def anRB281 : Ann := ⟨[], []⟩
set_option maxHeartbeats 4000000 in
theorem ends81_pure (q : Nat) : ∀ (n : Nat) (t : RT) (l : List Nd) (p : Nat), (flat t).length = n → At l p t → l.length ≤ 1310720 → DPure Tryz.prog 81 [dNds l, .int .i64 p, .int .i64 q] (.bool (enT t p q)) := by
 intro n
 induction n using Nat.strongRecOn with
 | ind n ih =>
 intro t l p hn ht hs
 obtain ⟨x, ks⟩ := t
 have kk := kids81_pure l p x ks ht hs
 obtain ⟨g0, gl, ge⟩ := ht.head
 simp only [RT.x] at g0
 have g0' : l[p]'gl = x := (List.getElem?_eq_some_iff.1 g0).2
 have hfl : (flat (.mk x ks)).length = (flatL ks).length + 1 := by rw [flat_mk, List.length_cons]
 have hkl := flatL_len ks
 have hk9 : ks.length ≤ 1310720 := by omega
 have hch : ∀ i u, ks[i]? = some u → DPure Tryz.prog 81 [dNds l, .int .i64 (kidP p ks i), .int .i64 q] (.bool (enT u (kidP p ks i) q)) := fun i u hu => by
  have hm := flatL_mem (List.mem_of_getElem? hu)
  exact ih (flat u).length (by omega) u l _ rfl (ht.kid hu).1 hs
 have hwi1 : ∀ i u, ks[i]? = some u → _ := fun i u hu => within152_pure l (kidP p ks i) q u (ht.kid hu).1 hs
 have hem : ∀ i u, ks[i]? = some u → _ := fun i u hu => empty39_pure _ u l (kidP p ks i) rfl (ht.kid hu).1 hs
 have hrow : ∀ i, i < ks.length → _ := fun i h => kids_row (p := p) (ks := ks) (i := i) h
 rw [enT_mk]
 unfold kidsD at kk
 obtain ⟨D, hD⟩ : ∃ D, D = (List.range ks.length).map fun i => kidD (kidP p ks i) := ⟨_, rfl⟩
 have hDl : D.length = ks.length := by rw [hD]; simp
 have hDm : mxR D = 0 := by rw [hD]; exact mx_kids p ks _
 rw [← hD] at kk hrow
 clear hD ih ht ge hn
 obtain ⟨R, hR⟩ : ∃ R, R = enL x.k ks (p + 1) q := ⟨_, rfl⟩
 rw [← hR]
 refine DPure_introF [] (fn := Tryz.f81) Tryz.func81 rfl Tryz.call81 (by simp [Tryz.ntmps81]) (by simp [mx]) ?_
 intro hwf B hnt
 simp only [Tryz.ntmps81] at hnt
 have hA := an_is anRB281 Tryz.mixed (aj2 @anRB281.eq_1 Tryz.results81)
 clear hwf
 simp only [argS]
 by_cases hpq : p = q
 ·have hpq' : (p : Int) = (q : Int) := by omega
  exact go0 (aj1 kk) aj0 (aj2 hpq hpq')
 have hpq' : ¬ (p : Int) = (q : Int) := by omega
 have hpqb : ((p : Int) == (q : Int)) = false := by simpa using hpq'
 (refine go1 (aj1 kk) aj0 (aj3 hpq hpq' hpqb) ?_; intros; refine mk_i ?_)
 have hw0 : IntKind.i64.wrap ((ks.length : Int) - 1) = (ks.length : Int) - 1 := wrap64_in (by omega) (by omega)
 refine DW_loop (X := {m : Nat // m ≤ ks.length ∧ R = enL x.k (ks.take m) (p + 1) q}) (fun m => ⟨[(0, dNds l), (1, .int .i64 p), (2, .int .i64 q), (7, .sl 1 8 D), (8, .int .i64 ((m.1 : Int) - 1))], []⟩) (fun m => m.1) ⟨ks.length, by omega, by rw [List.take_length]; exact hR⟩ (Sub.lit (by simp [hDm, hDl, hw0])) ?_
 clear hR
 rintro ⟨m, hi, hR⟩
 simp only
 cases m with
 | zero =>
  rw [List.take_zero, enL_nil] at hR
  exact go0 aj0 aj0 (aj1 hR)
 | succ i =>
  have hlt : i < ks.length := by omega
  obtain ⟨u, hu, hu', _⟩ := at_lt' hlt
  have e1 := hch i u hu
  have e2 := hwi1 i u hu
  have e3 := hem i u hu
  have hr := hrow i hlt
  have hltD : i < D.length := by omega
  have hi1 : (((i + 1 : Nat) : Int) - 1) = (i : Int) := by omega
  have hwi : IntKind.i64.wrap ((i : Int) - 1) = (i : Int) - 1 := wrap64_in (by omega) (by omega)
  have hr' : D[i]'hltD = [.int .i64 (kidP p ks i : Int)] := (List.getElem?_eq_some_iff.1 hr).2
  rw [take_snoc2 hu, enL_snoc] at hR
  rw [show p + 1 + (flatL (ks.take i)).length = kidP p ks i from rfl] at hR
  obtain ⟨a, ha⟩ : ∃ a, a = kidP p ks i := ⟨_, rfl⟩
  rw [← ha] at e1 e2 e3 hr hr' hR
  obtain ⟨b1, hb1⟩ : ∃ b1, b1 = inB u a q := ⟨_, rfl⟩
  obtain ⟨b2, hb2⟩ : ∃ b2, b2 = enT u a q := ⟨_, rfl⟩
  obtain ⟨b3, hb3⟩ : ∃ b3, b3 = empT u := ⟨_, rfl⟩
  rw [← hb1] at e2 hR
  rw [← hb2] at e1 hR
  rw [← hb3] at e3 hR
  rw [hi1]
  by_cases hb : (b1 && b2) = true
  ·rw [hb, Bool.true_or] at hR
   simp only [Bool.and_eq_true] at hb
   rw [hb.1] at e2
   rw [hb.2] at e1
   exact go0 (aj3 e1 e2 e3) aj0 (aj6 hDl hltD hr hr' hlt hR)
  ·rw [Bool.not_eq_true] at hb
   rw [hb, Bool.false_or] at hR
   by_cases k4 : x.k = 4
   ·cases b3
    ·rw [if_pos ⟨k4, rfl⟩] at hR
     cases b1
     ·exact go0 (aj3 e1 e2 e3) aj0 (aj11 @dNd.eq_1 g0 g0' gl hDl hltD hr hr' hlt hR k4)
     ·simp only [Bool.true_and] at hb
      rw [hb] at e1
      exact go0 (aj3 e1 e2 e3) aj0 (aj11 @dNd.eq_1 g0 g0' gl hDl hltD hr hr' hlt hR k4)
    ·rw [if_neg (by simp)] at hR
     cases b1
     ·(refine go1 (aj3 e1 e2 e3) aj0 (aj11 @dNd.eq_1 g0 g0' gl hDl hltD hwi hr hr' hlt k4) ?_; intros; refine mk_i ?_)
      refine Again.mk ⟨i, by omega, hR⟩ (Sub.lit (by simp [hDm])) (by simp)
      skip
     ·simp only [Bool.true_and] at hb
      rw [hb] at e1
      (refine go1 (aj3 e1 e2 e3) aj0 (aj11 @dNd.eq_1 g0 g0' gl hDl hltD hwi hr hr' hlt k4) ?_; intros; refine mk_i ?_)
      refine Again.mk ⟨i, by omega, hR⟩ (Sub.lit (by simp [hDm])) (by simp)
      skip
   ·rw [if_neg (fun h => k4 h.1)] at hR
    have b4 : (x.k == 4) = false := by simpa using k4
    cases b1
    ·(refine go1 (aj3 e1 e2 e3) aj0 (aj12 @dNd.eq_1 g0 g0' gl hDl hltD hwi hr hr' hlt k4 b4) ?_; intros; refine mk_i ?_)
     refine Again.mk ⟨i, by omega, hR⟩ (Sub.lit (by simp [hDm])) (by simp)
     skip
    ·simp only [Bool.true_and] at hb
     rw [hb] at e1
     (refine go1 (aj3 e1 e2 e3) aj0 (aj12 @dNd.eq_1 g0 g0' gl hDl hltD hwi hr hr' hlt k4 b4) ?_; intros; refine mk_i ?_)
     refine Again.mk ⟨i, by omega, hR⟩ (Sub.lit (by simp [hDm])) (by simp)
     skip
end Go.Proofs.YtdgocjbakjamaaaGreat
end

section
set_option linter.unusedSectionVars false
/- boxes by definition: two places in a row of trees -/


set_option linter.unusedSimpArgs false
set_option linter.unusedVariables false
namespace Go.Proofs.YtdgocjbakjamaaaGreat
open Go Go.Dm
variable [DMode]
attribute [local irreducible] DW callP callS
set_option maxRecDepth 100000

def anRB3233 : Ann := ⟨[], []⟩
set_option maxHeartbeats 4000000 in
theorem inRow233_pure (l : List Nd) (P p q : Nat) (x : Nd) (ks : List RT) (ht : At l P (.mk x ks)) (hs : l.length ≤ 1310720) : DPure Tryz.prog 233 [dNds l, kidsD P ks, .int .i64 p, .int .i64 q] (.bool (irL ks (P + 1) p q)) := by
 obtain ⟨g0, gl, ge⟩ := ht.head
 have hfl : (flat (.mk x ks)).length = (flatL ks).length + 1 := by rw [flat_mk, List.length_cons]
 have hkl := flatL_len ks
 have hk9 : ks.length ≤ 1310720 := by omega
 have hwp : ∀ i u, ks[i]? = some u → _ := fun i u hu => within152_pure l (kidP P ks i) p u (ht.kid hu).1 hs
 have hwq : ∀ i u, ks[i]? = some u → _ := fun i u hu => within152_pure l (kidP P ks i) q u (ht.kid hu).1 hs
 have hen : ∀ i u, ks[i]? = some u → _ := fun i u hu => ends81_pure p _ u l (kidP P ks i) rfl (ht.kid hu).1 hs
 have hbe : ∀ i u, ks[i]? = some u → _ := fun i u hu => begins148_pure q _ u l (kidP P ks i) rfl (ht.kid hu).1 hs
 have hem : ∀ i u, ks[i]? = some u → _ := fun i u hu => empty39_pure _ u l (kidP P ks i) rfl (ht.kid hu).1 hs
 have hrow : ∀ i, i < ks.length → _ := fun i h => kids_row (p := P) (ks := ks) (i := i) h
 unfold kidsD
 obtain ⟨D, hD⟩ : ∃ D, D = (List.range ks.length).map fun i => kidD (kidP P ks i) := ⟨_, rfl⟩
 have hDl : D.length = ks.length := by rw [hD]; simp
 have hDm : mxR D = 0 := by rw [hD]; exact mx_kids P ks _
 rw [← hD] at hrow ⊢
 clear hD ht ge
 obtain ⟨R, hR⟩ : ∃ R, R = irL ks (P + 1) p q := ⟨_, rfl⟩
 rw [← hR]
 rw [← kid_zero P ks, ← List.drop_zero (l := ks)] at hR
 refine DPure_introF [] (fn := Tryz.f233) Tryz.func233 rfl Tryz.call233 (by simp [Tryz.ntmps233]) (by simp [mx]) ?_
 intro hwf B hnt
 simp only [Tryz.ntmps233] at hnt
 have hA := an_is anRB3233 Tryz.mixed (aj2 @anRB3233.eq_1 Tryz.results233)
 clear hwf
 simp only [argS]
 (refine go1 aj0 aj0 aj0 ?_; intros; refine mk_i ?_)
 refine DW_loop (X := {i : Nat // i ≤ ks.length ∧ R = irL (ks.drop i) (kidP P ks i) p q}) (fun i => ⟨[(0, dNds l), (1, .sl 1 8 D), (2, .int .i64 p), (3, .int .i64 q), (9, .int .i64 i.1)], []⟩) (fun i => ks.length - i.1) ⟨0, by omega, by simpa using hR⟩ (Sub.lit (by simp [hDm])) ?_
 clear hR
 rintro ⟨i, hi, hR⟩
 simp only
 by_cases hlt : i < ks.length
 ·obtain ⟨u, hu, hu', _⟩ := at_lt' hlt
  have e1 := hwp i u hu
  have e2 := hen i u hu
  have hr := hrow i hlt
  have hltD : i < D.length := by omega
  have hwi : IntKind.i64.wrap ((i : Int) + 1) = (i : Int) + 1 := wrap64_in (by omega) (by omega)
  have hr' : D[i]'hltD = [.int .i64 (kidP P ks i : Int)] := (List.getElem?_eq_some_iff.1 hr).2
  have hge : ¬ (ks.length : Int) ≤ (i : Int) := by omega
  rw [kid_drop hu, irL, ← kid_next hu] at hR
  obtain ⟨a, ha⟩ : ∃ a, a = kidP P ks i := ⟨_, rfl⟩
  rw [← ha] at e1 e2 hr hr' hR
  obtain ⟨b1, hb1⟩ : ∃ b1, b1 = inB u a p := ⟨_, rfl⟩
  obtain ⟨b2, hb2⟩ : ∃ b2, b2 = enT u a p := ⟨_, rfl⟩
  rw [← hb1] at e1 hR
  rw [← hb2] at e2 hR
  clear hb1 hb2
  cases b1
  ·simp only [Bool.false_eq_true, if_false] at hR
   (refine go1 (aj2 e1 e2) aj0 (aj6 hDl hltD hwi hr hr' hlt) ?_; intros; refine mk_i ?_)
   refine Again.mk ⟨i + 1, by omega, hR⟩ (Sub.lit (by simp [hDm])) (by simp; omega)
   skip
  ·simp only [if_true] at hR
   cases b2
   ·simp only [Bool.false_and] at hR
    exact go0 (aj2 e1 e2) aj0 (aj8 hDl hltD hwi hr hr' hlt hge hR)
   ·simp only [Bool.true_and] at hR
    (refine go1 (aj2 e1 e2) aj0 (aj7 hDl hltD hwi hr hr' hlt hge) ?_; intros; refine mk_i ?_)
    refine DW_loop (X := {j : Nat // j ≤ ks.length ∧ R = afL (ks.drop j) (kidP P ks j) q}) (fun j => ⟨[(0, dNds l), (1, .sl 1 8 D), (2, .int .i64 p), (3, .int .i64 q), (9, .int .i64 j.1)], []⟩) (fun j => ks.length - j.1) ⟨i + 1, by omega, hR⟩ (Sub.lit (by simp [hDm])) ?_
    clear hR hr hr' hwi hltD
    rintro ⟨j, hj, hR⟩
    simp only
    by_cases hlt2 : j < ks.length
    ·obtain ⟨v, hv, hv', _⟩ := at_lt' hlt2
     have e3 := hwq j v hv
     have e4 := hbe j v hv
     have e5 := hem j v hv
     have hr := hrow j hlt2
     have hltD : j < D.length := by omega
     have hwi : IntKind.i64.wrap ((j : Int) + 1) = (j : Int) + 1 := wrap64_in (by omega) (by omega)
     have hr' : D[j]'hltD = [.int .i64 (kidP P ks j : Int)] := (List.getElem?_eq_some_iff.1 hr).2
     rw [kid_drop hv, afL, ← kid_next hv] at hR
     obtain ⟨c, hcc⟩ : ∃ c, c = kidP P ks j := ⟨_, rfl⟩
     rw [← hcc] at e3 e4 e5 hr hr' hR
     obtain ⟨b3, hb3⟩ : ∃ b3, b3 = inB v c q := ⟨_, rfl⟩
     obtain ⟨b4, hb4⟩ : ∃ b4, b4 = bgT v c q := ⟨_, rfl⟩
     obtain ⟨b5, hb5⟩ : ∃ b5, b5 = empT v := ⟨_, rfl⟩
     rw [← hb3] at e3 hR
     rw [← hb4] at e4 hR
     rw [← hb5] at e5 hR
     clear hb3 hb4 hb5
     cases b3
     ·simp only [Bool.false_eq_true, if_false] at hR
      cases b5
      ·simp only [Bool.false_eq_true, if_false] at hR
       exact go0 (aj3 e3 e4 e5) aj0 (aj7 hDl hltD hwi hr hr' hlt2 hR)
      ·simp only [if_true] at hR
       (refine go1 (aj3 e3 e4 e5) aj0 (aj6 hDl hltD hwi hr hr' hlt2) ?_; intros; refine mk_i ?_)
       refine Again.mk ⟨j + 1, by omega, hR⟩ (Sub.lit (by simp [hDm])) (by simp; omega)
       skip
     ·simp only [if_true] at hR
      exact go0 (aj3 e3 e4 e5) aj0 (aj7 hDl hltD hwi hr hr' hlt2 hR)
    ·have hkk : j = ks.length := by omega
     subst hkk
     rw [List.drop_length] at hR
     have hR2 : R = false := hR
     exact go0 aj0 aj0 (aj2 hDl hR2)
 ·have hkk : i = ks.length := by omega
  subst hkk
  rw [List.drop_length] at hR
  have hR2 : R = false := hR
  exact go0 aj0 aj0 (aj2 hDl hR2)
end Go.Proofs.YtdgocjbakjamaaaGreat
end

