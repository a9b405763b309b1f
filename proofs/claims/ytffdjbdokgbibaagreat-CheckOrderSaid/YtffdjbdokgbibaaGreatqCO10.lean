/- Parts of a proof, laid together: WB14, WB15, WE4, WE5, WE6, WB16, WE7. -/
import Derived.Test.YtffdjbdokgbibaaGreatqCO9
section
/- the program's text of a graph -/

set_option linter.unusedSimpArgs false
set_option linter.unusedVariables false
namespace Go.Proofs.YtffdjbdokgbibaaGreat
open Go Go.Dm
attribute [local irreducible] DW callP callS
set_option maxRecDepth 100000

/-- a builder that holds a text -/
def bldO (i j : Nat) (T : ByteArray) : List Ent := if T.size = 0 then [⟨i, 1, .row 86 2 32 [[.nilp, .nilsl]]⟩] else [⟨i, 1, .row 86 2 32 [[.rx i 1 2 0 0, .osl j 1]]⟩, ⟨j, 1, .row 5 1 1 (bytesD T)⟩]
theorem bldO_none {i j : Nat} {T : ByteArray} (h : T.size = 0) : bldO i j T = [⟨i, 1, .row 86 2 32 [[.nilp, .nilsl]]⟩] := if_pos h
theorem bldO_some {i j : Nat} {T : ByteArray} (h : T.size ≠ 0) : bldO i j T = [⟨i, 1, .row 86 2 32 [[.rx i 1 2 0 0, .osl j 1]]⟩, ⟨j, 1, .row 5 1 1 (bytesD T)⟩] := if_neg h
theorem size0 {T : ByteArray} (h : T.size = 0) : T = ⟨#[]⟩ := by
  obtain ⟨a⟩ := T
  have : a = #[] := Array.eq_empty_of_size_eq_zero h
  rw [this]
theorem empty_app (x : ByteArray) : (⟨#[]⟩ : ByteArray) ++ x = x := by
  apply bytes_ext
  simp [ByteArray.data_append]
theorem str_assoc (a b c : ByteArray) : a ++ b ++ c = a ++ (b ++ c) := by
  apply bytes_ext
  simp [ByteArray.data_append]
theorem textN_eq (T n : ByteArray) : T ++ (n ++ ⟨#[32, 59, 10]⟩) = textN T n := by unfold textN; rw [str_assoc]
theorem textE_eq (T : ByteArray) (x : Edge) : T ++ (x.fr ++ ⟨#[32]⟩ ++ x.lb ++ ⟨#[32]⟩ ++ x.to ++ ⟨#[32, 59, 10]⟩) = textE T x := by unfold textE; simp only [str_assoc]

def anWB1465 : Ann := ⟨[17, 37, 39], [⟨1, [3], [], []⟩, ⟨9, [7], [], []⟩]⟩
set_option maxHeartbeats 4000000 in
theorem text138_pure (g : Edges) (hg : SmallG g) : DPure Tryz.prog 65 [.agg (dGr g)] (.str (textB g)) := by
  refine DPure_introF [] (fn := Tryz.f65) Tryz.func65 rfl Tryz.call65 (by simp [Tryz.ntmps65]) (by simp [mx]) ?_
  intro hwf B hnt
  simp only [Tryz.ntmps65] at hnt
  clear hwf
  simp only [argS]
  obtain ⟨R, hRR⟩ : ∃ R, R = textB g := ⟨_, rfl⟩
  rw [← hRR]
  have h1 := lone176_pure g
  obtain ⟨s1, s2⟩ := lone_small hg
  obtain ⟨L, hL⟩ : ∃ L, L = loneL g := ⟨_, rfl⟩
  have hR : textB g = g.edges.foldl textE (L.foldl textN ⟨#[]⟩) := by rw [hL]; rfl
  rw [hR] at hRR
  clear hR
  rw [← hL] at h1 s1 s2
  clear hL
  obtain ⟨n1, n2, n3, n4⟩ := hg
  obtain ⟨ns, es⟩ := g
  simp only [dGr] at h1 n3 n4 hRR
  clear n1 n2
  have hsL := lone_size L ⟨#[]⟩ s2
  rw [show (⟨#[]⟩ : ByteArray).size = 0 from rfl] at hsL
  have e0 : (⟨#[]⟩ : ByteArray).size ≤ maxLen := Nat.zero_le _
  have m3 : 3 ≤ maxLen := by unfold maxLen; omega
  have m1 : 1 ≤ maxLen := by unfold maxLen; omega
  refine DW_seq fun K0 hK0 => ?_
  (first | refine DW_seq fun K hK => ?_ | (refine DW_r anWB1465 Tryz.mixed (by kernel_rfl) ?_; simp [anWB1465, hnt, dGr, e0]; try simp (disch := omega) only [wrap64_in]) | refine DW_block ?_ | (refine DW_if ?_ ?_ ?_; (· (simp [hnt, dGr, e0]; done)); (try (rotate_left; (· (intro hc; (try simp [hnt, dGr, e0] at hc); done))))) | (refine DW_ret ?_; simp [Tryz.results65, hnt, dGr, e0]) | ((first | refine DW_exit ?_ | refine DW_skip ?_); simp [hnt, dGr, e0]) | (intro hc; (try simp [hnt, dGr, e0] at hc); (try (exfalso; omega))) | (refine ⟨?_, ?_⟩; · omega) | omega | apply_assumption -exfalso -symm | (exfalso; omega))
  apply hK0
  refine DW_seq fun K1 hK1 => ?_
  refine DW_allocT (bs := 32) (k := 2) (z := [.nilp, .nilsl]) (by simp [hnt, Tryz.ntmps65]) (by simp) (by rfl) rfl (by decide) (fun r hr => ?_)
  simp
  apply hK1
  (repeat (first | refine DW_seq fun K hK => ?_ | (refine DW_r anWB1465 Tryz.mixed (by kernel_rfl) ?_; simp [anWB1465, hnt, dGr, e0]; try simp (disch := omega) only [wrap64_in]) | refine DW_block ?_ | (refine DW_if ?_ ?_ ?_; (· (simp [hnt, dGr, e0]; done)); (try (rotate_left; (· (intro hc; (try simp [hnt, dGr, e0] at hc); done))))) | (refine DW_ret ?_; simp [Tryz.results65, hnt, dGr, e0]) | ((first | refine DW_exit ?_ | refine DW_skip ?_); simp [hnt, dGr, e0]) | (intro hc; (try simp [hnt, dGr, e0] at hc); (try (exfalso; omega))) | ((first | refine callP_mk (h1) ?_ | (refine callP_wk (h1) ?_ ?_; (· (simp; done)))); try simp [hnt, dGr, e0]) | (refine ⟨?_, ?_⟩; · omega) | omega | apply_assumption -exfalso -symm | (exfalso; omega)))
  refine DW_loop (X := {k : Nat // k ≤ L.length}) (fun k => ⟨[(1, .ref [dStrs ns, dEds es]), (3, .rx 3 1 2 0 0), (9, dStrs L), (10, .int .i64 L.length), (11, .int .i64 k.1)], bldO 3 50 ((L.take k.1).foldl textN ⟨#[]⟩)⟩) (fun k => L.length - k.1) ⟨0, by omega⟩ (Sub.lit (by simp only [List.take_zero, List.foldl_nil, bldO_none (T := ⟨#[]⟩) rfl]; simp)) ?_
  rintro ⟨k, hk⟩
  by_cases hlt : k < L.length
  · obtain ⟨x, hx, hx', hxm⟩ := at_lt' hlt
    have htk := foldl_take (f := textN) (b := ⟨#[]⟩) hx
    have hsz := lone_size (L.take k) ⟨#[]⟩ fun n hn => s2 n (List.mem_of_mem_take hn)
    rw [show (⟨#[]⟩ : ByteArray).size = 0 from rfl, List.length_take] at hsz
    obtain ⟨T, hT⟩ : ∃ T, T = (L.take k).foldl textN ⟨#[]⟩ := ⟨_, rfl⟩
    rw [← hT] at htk hsz ⊢
    have hxs := s2 x hxm
    have q1 : x.size + 3 ≤ maxLen := by unfold maxLen; omega
    have hsx : (x ++ ⟨#[32, 59, 10]⟩ : ByteArray).size = x.size + 3 := by rw [ByteArray.size_append]; rfl
    have hN := textN_eq T x
    have hNs : (textN T x).size ≠ 0 := by rw [textN_size]; omega
    have hnew := bldO_some (i := 3) (j := 50) hNs
    rw [← htk] at hnew
    by_cases hT0 : T.size = 0
    · rw [bldO_none hT0]
      have e1 := writeFirst_spec (x ++ ⟨#[32, 59, 10]⟩) (by omega)
      rw [size0 hT0, empty_app] at hN
      (repeat (first | refine DW_seq fun K hK => ?_ | (refine DW_r anWB1465 Tryz.mixed (by kernel_rfl) ?_; simp [anWB1465, hnt, dStr, hlt, hx, hx', q1, size3, ByteArray.size_append, m3, m1]; try simp (disch := omega) only [wrap64_in]) | refine DW_block ?_ | (refine DW_if ?_ ?_ ?_; (· (simp [hnt, dStr, hlt, hx, hx', q1, size3, ByteArray.size_append, m3, m1]; done)); (try (rotate_left; (· (intro hc; (try simp [hnt, dStr, hlt, hx, hx', q1, size3, ByteArray.size_append, m3, m1] at hc); done))))) | (refine DW_ret ?_; simp [Tryz.results65, hnt, dStr, hlt, hx, hx', q1, size3, ByteArray.size_append, m3, m1]) | ((first | refine DW_exit ?_ | refine DW_skip ?_); simp [hnt, dStr, hlt, hx, hx', q1, size3, ByteArray.size_append, m3, m1]) | (intro hc; (try simp [hnt, dStr, hlt, hx, hx', q1, size3, ByteArray.size_append, m3, m1] at hc); (try (exfalso; omega))) | (refine callS_mk [(3,0)] [(50,1)] (e1) ?_ ?_; (· (simp [hnt, dStr, hlt, hx, hx', q1, size3, ByteArray.size_append, m3, m1]; done)); (intro _; try simp [hnt, dStr, hlt, hx, hx', q1, size3, ByteArray.size_append, m3, m1])) | (refine ⟨?_, ?_⟩; · omega) | omega | apply_assumption -exfalso -symm | (exfalso; omega)))
      refine Again.mk ⟨k + 1, by omega⟩ (Sub.lit (by rw [hnew, htk, size0 hT0, ← hN]; simp)) (by simp; omega)
      (repeat (first | refine DW_seq fun K hK => ?_ | (refine DW_r anWB1465 Tryz.mixed (by kernel_rfl) ?_; simp [anWB1465, hnt]; try simp (disch := omega) only [wrap64_in]) | refine DW_block ?_ | (refine DW_if ?_ ?_ ?_; (· (simp [hnt]; done)); (try (rotate_left; (· (intro hc; (try simp [hnt] at hc); done))))) | (refine DW_ret ?_; simp [Tryz.results65, hnt]) | ((first | refine DW_exit ?_ | refine DW_skip ?_); simp [hnt]) | (intro hc; (try simp [hnt] at hc); (try (exfalso; omega))) | (refine callS_mk [(3,0)] [(50,1)] (e1) ?_ ?_; (· (simp [hnt]; done)); (intro _; try simp [hnt])) | (refine ⟨?_, ?_⟩; · omega) | omega | apply_assumption -exfalso -symm | (exfalso; omega)))
    · rw [bldO_some hT0]
      have e1 := writeUsed_spec T (x ++ ⟨#[32, 59, 10]⟩) (by omega)
      rw [hN, ← htk] at e1
      (repeat (first | refine DW_seq fun K hK => ?_ | (refine DW_r anWB1465 Tryz.mixed (by kernel_rfl) ?_; simp [anWB1465, hnt, dStr, hlt, hx, hx', q1, size3, ByteArray.size_append, m3, m1]; try simp (disch := omega) only [wrap64_in]) | refine DW_block ?_ | (refine DW_if ?_ ?_ ?_; (· (simp [hnt, dStr, hlt, hx, hx', q1, size3, ByteArray.size_append, m3, m1]; done)); (try (rotate_left; (· (intro hc; (try simp [hnt, dStr, hlt, hx, hx', q1, size3, ByteArray.size_append, m3, m1] at hc); done))))) | (refine DW_ret ?_; simp [Tryz.results65, hnt, dStr, hlt, hx, hx', q1, size3, ByteArray.size_append, m3, m1]) | ((first | refine DW_exit ?_ | refine DW_skip ?_); simp [hnt, dStr, hlt, hx, hx', q1, size3, ByteArray.size_append, m3, m1]) | (intro hc; (try simp [hnt, dStr, hlt, hx, hx', q1, size3, ByteArray.size_append, m3, m1] at hc); (try (exfalso; omega))) | (refine callS_mk [(3,0),(50,1)] [] (e1) ?_ ?_; (· (simp [hnt, dStr, hlt, hx, hx', q1, size3, ByteArray.size_append, m3, m1]; done)); (intro _; try simp [hnt, dStr, hlt, hx, hx', q1, size3, ByteArray.size_append, m3, m1])) | (refine ⟨?_, ?_⟩; · omega) | omega | apply_assumption -exfalso -symm | (exfalso; omega)))
      refine Again.mk ⟨k + 1, by omega⟩ (Sub.lit (by rw [hnew]; simp)) (by simp; omega)
      (repeat (first | refine DW_seq fun K hK => ?_ | (refine DW_r anWB1465 Tryz.mixed (by kernel_rfl) ?_; simp [anWB1465, hnt]; try simp (disch := omega) only [wrap64_in]) | refine DW_block ?_ | (refine DW_if ?_ ?_ ?_; (· (simp [hnt]; done)); (try (rotate_left; (· (intro hc; (try simp [hnt] at hc); done))))) | (refine DW_ret ?_; simp [Tryz.results65, hnt]) | ((first | refine DW_exit ?_ | refine DW_skip ?_); simp [hnt]) | (intro hc; (try simp [hnt] at hc); (try (exfalso; omega))) | (refine callS_mk [(3,0),(50,1)] [] (e1) ?_ ?_; (· (simp [hnt]; done)); (intro _; try simp [hnt])) | (refine ⟨?_, ?_⟩; · omega) | omega | apply_assumption -exfalso -symm | (exfalso; omega)))
  · have hkk : k = L.length := by omega
    subst hkk
    rw [List.take_length]
    obtain ⟨S, hS⟩ : ∃ S, S = L.foldl textN ⟨#[]⟩ := ⟨_, rfl⟩
    rw [← hS] at hsL hRR ⊢
    clear hS
    by_cases hS0 : S.size = 0
    · rw [bldO_none hS0]
      (repeat (first | refine DW_seq fun K hK => ?_ | (refine DW_r anWB1465 Tryz.mixed (by kernel_rfl) ?_; simp [anWB1465, hnt]; try simp (disch := omega) only [wrap64_in]) | refine DW_block ?_ | (refine DW_if ?_ ?_ ?_; (· (simp [hnt]; done)); (try (rotate_left; (· (intro hc; (try simp [hnt] at hc); done))))) | (refine DW_ret ?_; simp [Tryz.results65, hnt]) | ((first | refine DW_exit ?_ | refine DW_skip ?_); simp [hnt]) | (intro hc; (try simp [hnt] at hc); (try (exfalso; omega))) | (refine ⟨?_, ?_⟩; · omega) | omega | apply_assumption -exfalso -symm | (exfalso; omega)))
      refine DW_loop (X := {k : Nat // k ≤ es.length}) (fun k => ⟨[(3, .rx 3 1 2 0 0), (20, dEds es), (21, .int .i64 es.length), (22, .int .i64 k.1)], bldO 3 50 ((es.take k.1).foldl textE S)⟩) (fun k => es.length - k.1) ⟨0, by omega⟩ (Sub.lit (by simp only [List.take_zero, List.foldl_nil, bldO_none hS0]; simp)) ?_
      rintro ⟨k, hk⟩
      by_cases hlt : k < es.length
      · obtain ⟨x, hx, hx', hxm⟩ := at_lt' hlt
        have htk := foldl_take (f := textE) (b := S) hx
        have hsz := edge_size (es.take k) S fun n hn => n4 n (List.mem_of_mem_take hn)
        rw [List.length_take] at hsz
        obtain ⟨T, hT⟩ : ∃ T, T = (es.take k).foldl textE S := ⟨_, rfl⟩
        rw [← hT] at htk hsz ⊢
        obtain ⟨x1, x2, x3⟩ := n4 x hxm
        have q1 : x.fr.size + 1 ≤ maxLen := by unfold maxLen; omega
        have q3 : x.fr.size + 1 + x.lb.size ≤ maxLen := by unfold maxLen; omega
        have q4 : x.fr.size + 1 + x.lb.size + 1 ≤ maxLen := by unfold maxLen; omega
        have q5 : x.fr.size + 1 + x.lb.size + 1 + x.to.size ≤ maxLen := by unfold maxLen; omega
        have q6 : x.fr.size + 1 + x.lb.size + 1 + x.to.size + 3 ≤ maxLen := by unfold maxLen; omega
        have hsx : (x.fr ++ ⟨#[32]⟩ ++ x.lb ++ ⟨#[32]⟩ ++ x.to ++ ⟨#[32, 59, 10]⟩ : ByteArray).size = x.fr.size + 1 + x.lb.size + 1 + x.to.size + 3 := by simp only [ByteArray.size_append, size3, size1]
        have hN := textE_eq T x
        have hNs : (textE T x).size ≠ 0 := by rw [textE_size]; omega
        have hnew := bldO_some (i := 3) (j := 50) hNs
        rw [← htk] at hnew
        by_cases hT0 : T.size = 0
        · rw [bldO_none hT0]
          have e1 := writeFirst_spec (x.fr ++ ⟨#[32]⟩ ++ x.lb ++ ⟨#[32]⟩ ++ x.to ++ ⟨#[32, 59, 10]⟩) (by omega)
          rw [size0 hT0, empty_app] at hN
          (repeat (first | refine DW_seq fun K hK => ?_ | (refine DW_r anWB1465 Tryz.mixed (by kernel_rfl) ?_; simp [anWB1465, hnt, dEdge, hlt, hx, hx', q1, q3, q4, q5, q6, size3, size1, ByteArray.size_append, m3, m1]; try simp (disch := omega) only [wrap64_in]) | refine DW_block ?_ | (refine DW_if ?_ ?_ ?_; (· (simp [hnt, dEdge, hlt, hx, hx', q1, q3, q4, q5, q6, size3, size1, ByteArray.size_append, m3, m1]; done)); (try (rotate_left; (· (intro hc; (try simp [hnt, dEdge, hlt, hx, hx', q1, q3, q4, q5, q6, size3, size1, ByteArray.size_append, m3, m1] at hc); done))))) | (refine DW_ret ?_; simp [Tryz.results65, hnt, dEdge, hlt, hx, hx', q1, q3, q4, q5, q6, size3, size1, ByteArray.size_append, m3, m1]) | ((first | refine DW_exit ?_ | refine DW_skip ?_); simp [hnt, dEdge, hlt, hx, hx', q1, q3, q4, q5, q6, size3, size1, ByteArray.size_append, m3, m1]) | (intro hc; (try simp [hnt, dEdge, hlt, hx, hx', q1, q3, q4, q5, q6, size3, size1, ByteArray.size_append, m3, m1] at hc); (try (exfalso; omega))) | (refine callS_mk [(3,0)] [(50,1)] (e1) ?_ ?_; (· (simp [hnt, dEdge, hlt, hx, hx', q1, q3, q4, q5, q6, size3, size1, ByteArray.size_append, m3, m1]; done)); (intro _; try simp [hnt, dEdge, hlt, hx, hx', q1, q3, q4, q5, q6, size3, size1, ByteArray.size_append, m3, m1])) | (refine ⟨?_, ?_⟩; · omega) | omega | apply_assumption -exfalso -symm | (exfalso; omega)))
          refine Again.mk ⟨k + 1, by omega⟩ (Sub.lit (by rw [hnew, htk, size0 hT0, ← hN]; simp)) (by simp; omega)
          (repeat (first | refine DW_seq fun K hK => ?_ | (refine DW_r anWB1465 Tryz.mixed (by kernel_rfl) ?_; simp [anWB1465, hnt]; try simp (disch := omega) only [wrap64_in]) | refine DW_block ?_ | (refine DW_if ?_ ?_ ?_; (· (simp [hnt]; done)); (try (rotate_left; (· (intro hc; (try simp [hnt] at hc); done))))) | (refine DW_ret ?_; simp [Tryz.results65, hnt]) | ((first | refine DW_exit ?_ | refine DW_skip ?_); simp [hnt]) | (intro hc; (try simp [hnt] at hc); (try (exfalso; omega))) | (refine callS_mk [(3,0)] [(50,1)] (e1) ?_ ?_; (· (simp [hnt]; done)); (intro _; try simp [hnt])) | (refine ⟨?_, ?_⟩; · omega) | omega | apply_assumption -exfalso -symm | (exfalso; omega)))
        · rw [bldO_some hT0]
          have e1 := writeUsed_spec T (x.fr ++ ⟨#[32]⟩ ++ x.lb ++ ⟨#[32]⟩ ++ x.to ++ ⟨#[32, 59, 10]⟩) (by omega)
          rw [hN, ← htk] at e1
          (repeat (first | refine DW_seq fun K hK => ?_ | (refine DW_r anWB1465 Tryz.mixed (by kernel_rfl) ?_; simp [anWB1465, hnt, dEdge, hlt, hx, hx', q1, q3, q4, q5, q6, size3, size1, ByteArray.size_append, m3, m1]; try simp (disch := omega) only [wrap64_in]) | refine DW_block ?_ | (refine DW_if ?_ ?_ ?_; (· (simp [hnt, dEdge, hlt, hx, hx', q1, q3, q4, q5, q6, size3, size1, ByteArray.size_append, m3, m1]; done)); (try (rotate_left; (· (intro hc; (try simp [hnt, dEdge, hlt, hx, hx', q1, q3, q4, q5, q6, size3, size1, ByteArray.size_append, m3, m1] at hc); done))))) | (refine DW_ret ?_; simp [Tryz.results65, hnt, dEdge, hlt, hx, hx', q1, q3, q4, q5, q6, size3, size1, ByteArray.size_append, m3, m1]) | ((first | refine DW_exit ?_ | refine DW_skip ?_); simp [hnt, dEdge, hlt, hx, hx', q1, q3, q4, q5, q6, size3, size1, ByteArray.size_append, m3, m1]) | (intro hc; (try simp [hnt, dEdge, hlt, hx, hx', q1, q3, q4, q5, q6, size3, size1, ByteArray.size_append, m3, m1] at hc); (try (exfalso; omega))) | (refine callS_mk [(3,0),(50,1)] [] (e1) ?_ ?_; (· (simp [hnt, dEdge, hlt, hx, hx', q1, q3, q4, q5, q6, size3, size1, ByteArray.size_append, m3, m1]; done)); (intro _; try simp [hnt, dEdge, hlt, hx, hx', q1, q3, q4, q5, q6, size3, size1, ByteArray.size_append, m3, m1])) | (refine ⟨?_, ?_⟩; · omega) | omega | apply_assumption -exfalso -symm | (exfalso; omega)))
          refine Again.mk ⟨k + 1, by omega⟩ (Sub.lit (by rw [hnew]; simp)) (by simp; omega)
          (repeat (first | refine DW_seq fun K hK => ?_ | (refine DW_r anWB1465 Tryz.mixed (by kernel_rfl) ?_; simp [anWB1465, hnt]; try simp (disch := omega) only [wrap64_in]) | refine DW_block ?_ | (refine DW_if ?_ ?_ ?_; (· (simp [hnt]; done)); (try (rotate_left; (· (intro hc; (try simp [hnt] at hc); done))))) | (refine DW_ret ?_; simp [Tryz.results65, hnt]) | ((first | refine DW_exit ?_ | refine DW_skip ?_); simp [hnt]) | (intro hc; (try simp [hnt] at hc); (try (exfalso; omega))) | (refine callS_mk [(3,0),(50,1)] [] (e1) ?_ ?_; (· (simp [hnt]; done)); (intro _; try simp [hnt])) | (refine ⟨?_, ?_⟩; · omega) | omega | apply_assumption -exfalso -symm | (exfalso; omega)))
      · have hkk : k = es.length := by omega
        subst hkk
        rw [List.take_length, ← hRR]
        by_cases hR0 : R.size = 0
        · rw [bldO_none hR0]
          have e1 := stringNone_spec
          rw [← size0 hR0] at e1
          (repeat (first | refine DW_seq fun K hK => ?_ | (refine DW_r anWB1465 Tryz.mixed (by kernel_rfl) ?_; simp [anWB1465, hnt]; try simp (disch := omega) only [wrap64_in]) | refine DW_block ?_ | (refine DW_if ?_ ?_ ?_; (· (simp [hnt]; done)); (try (rotate_left; (· (intro hc; (try simp [hnt] at hc); done))))) | (refine DW_ret ?_; simp [Tryz.results65, hnt]) | ((first | refine DW_exit ?_ | refine DW_skip ?_); simp [hnt]) | (intro hc; (try simp [hnt] at hc); (try (exfalso; omega))) | (refine callS_mk [(3,0)] [] (e1) ?_ ?_; (· (simp [hnt]; done)); (intro _; try simp [hnt])) | (refine ⟨?_, ?_⟩; · omega) | omega | apply_assumption -exfalso -symm | (exfalso; omega)))
        · rw [bldO_some hR0]
          have e1 := stringSome_spec R hR0
          (repeat (first | refine DW_seq fun K hK => ?_ | (refine DW_r anWB1465 Tryz.mixed (by kernel_rfl) ?_; simp [anWB1465, hnt]; try simp (disch := omega) only [wrap64_in]) | refine DW_block ?_ | (refine DW_if ?_ ?_ ?_; (· (simp [hnt]; done)); (try (rotate_left; (· (intro hc; (try simp [hnt] at hc); done))))) | (refine DW_ret ?_; simp [Tryz.results65, hnt]) | ((first | refine DW_exit ?_ | refine DW_skip ?_); simp [hnt]) | (intro hc; (try simp [hnt] at hc); (try (exfalso; omega))) | (refine callS_mk [(3,0),(50,1)] [] (e1) ?_ ?_; (· (simp [hnt]; done)); (intro _; try simp [hnt])) | (refine ⟨?_, ?_⟩; · omega) | omega | apply_assumption -exfalso -symm | (exfalso; omega)))
    · rw [bldO_some hS0]
      (repeat (first | refine DW_seq fun K hK => ?_ | (refine DW_r anWB1465 Tryz.mixed (by kernel_rfl) ?_; simp [anWB1465, hnt]; try simp (disch := omega) only [wrap64_in]) | refine DW_block ?_ | (refine DW_if ?_ ?_ ?_; (· (simp [hnt]; done)); (try (rotate_left; (· (intro hc; (try simp [hnt] at hc); done))))) | (refine DW_ret ?_; simp [Tryz.results65, hnt]) | ((first | refine DW_exit ?_ | refine DW_skip ?_); simp [hnt]) | (intro hc; (try simp [hnt] at hc); (try (exfalso; omega))) | (refine ⟨?_, ?_⟩; · omega) | omega | apply_assumption -exfalso -symm | (exfalso; omega)))
      refine DW_loop (X := {k : Nat // k ≤ es.length}) (fun k => ⟨[(3, .rx 3 1 2 0 0), (20, dEds es), (21, .int .i64 es.length), (22, .int .i64 k.1)], bldO 3 50 ((es.take k.1).foldl textE S)⟩) (fun k => es.length - k.1) ⟨0, by omega⟩ (Sub.lit (by simp only [List.take_zero, List.foldl_nil, bldO_some hS0]; simp)) ?_
      rintro ⟨k, hk⟩
      by_cases hlt : k < es.length
      · obtain ⟨x, hx, hx', hxm⟩ := at_lt' hlt
        have htk := foldl_take (f := textE) (b := S) hx
        have hsz := edge_size (es.take k) S fun n hn => n4 n (List.mem_of_mem_take hn)
        rw [List.length_take] at hsz
        obtain ⟨T, hT⟩ : ∃ T, T = (es.take k).foldl textE S := ⟨_, rfl⟩
        rw [← hT] at htk hsz ⊢
        obtain ⟨x1, x2, x3⟩ := n4 x hxm
        have q1 : x.fr.size + 1 ≤ maxLen := by unfold maxLen; omega
        have q3 : x.fr.size + 1 + x.lb.size ≤ maxLen := by unfold maxLen; omega
        have q4 : x.fr.size + 1 + x.lb.size + 1 ≤ maxLen := by unfold maxLen; omega
        have q5 : x.fr.size + 1 + x.lb.size + 1 + x.to.size ≤ maxLen := by unfold maxLen; omega
        have q6 : x.fr.size + 1 + x.lb.size + 1 + x.to.size + 3 ≤ maxLen := by unfold maxLen; omega
        have hsx : (x.fr ++ ⟨#[32]⟩ ++ x.lb ++ ⟨#[32]⟩ ++ x.to ++ ⟨#[32, 59, 10]⟩ : ByteArray).size = x.fr.size + 1 + x.lb.size + 1 + x.to.size + 3 := by simp only [ByteArray.size_append, size3, size1]
        have hN := textE_eq T x
        have hNs : (textE T x).size ≠ 0 := by rw [textE_size]; omega
        have hnew := bldO_some (i := 3) (j := 50) hNs
        rw [← htk] at hnew
        by_cases hT0 : T.size = 0
        · rw [bldO_none hT0]
          have e1 := writeFirst_spec (x.fr ++ ⟨#[32]⟩ ++ x.lb ++ ⟨#[32]⟩ ++ x.to ++ ⟨#[32, 59, 10]⟩) (by omega)
          rw [size0 hT0, empty_app] at hN
          (repeat (first | refine DW_seq fun K hK => ?_ | (refine DW_r anWB1465 Tryz.mixed (by kernel_rfl) ?_; simp [anWB1465, hnt, dEdge, hlt, hx, hx', q1, q3, q4, q5, q6, size3, size1, ByteArray.size_append, m3, m1]; try simp (disch := omega) only [wrap64_in]) | refine DW_block ?_ | (refine DW_if ?_ ?_ ?_; (· (simp [hnt, dEdge, hlt, hx, hx', q1, q3, q4, q5, q6, size3, size1, ByteArray.size_append, m3, m1]; done)); (try (rotate_left; (· (intro hc; (try simp [hnt, dEdge, hlt, hx, hx', q1, q3, q4, q5, q6, size3, size1, ByteArray.size_append, m3, m1] at hc); done))))) | (refine DW_ret ?_; simp [Tryz.results65, hnt, dEdge, hlt, hx, hx', q1, q3, q4, q5, q6, size3, size1, ByteArray.size_append, m3, m1]) | ((first | refine DW_exit ?_ | refine DW_skip ?_); simp [hnt, dEdge, hlt, hx, hx', q1, q3, q4, q5, q6, size3, size1, ByteArray.size_append, m3, m1]) | (intro hc; (try simp [hnt, dEdge, hlt, hx, hx', q1, q3, q4, q5, q6, size3, size1, ByteArray.size_append, m3, m1] at hc); (try (exfalso; omega))) | (refine callS_mk [(3,0)] [(50,1)] (e1) ?_ ?_; (· (simp [hnt, dEdge, hlt, hx, hx', q1, q3, q4, q5, q6, size3, size1, ByteArray.size_append, m3, m1]; done)); (intro _; try simp [hnt, dEdge, hlt, hx, hx', q1, q3, q4, q5, q6, size3, size1, ByteArray.size_append, m3, m1])) | (refine ⟨?_, ?_⟩; · omega) | omega | apply_assumption -exfalso -symm | (exfalso; omega)))
          refine Again.mk ⟨k + 1, by omega⟩ (Sub.lit (by rw [hnew, htk, size0 hT0, ← hN]; simp)) (by simp; omega)
          (repeat (first | refine DW_seq fun K hK => ?_ | (refine DW_r anWB1465 Tryz.mixed (by kernel_rfl) ?_; simp [anWB1465, hnt]; try simp (disch := omega) only [wrap64_in]) | refine DW_block ?_ | (refine DW_if ?_ ?_ ?_; (· (simp [hnt]; done)); (try (rotate_left; (· (intro hc; (try simp [hnt] at hc); done))))) | (refine DW_ret ?_; simp [Tryz.results65, hnt]) | ((first | refine DW_exit ?_ | refine DW_skip ?_); simp [hnt]) | (intro hc; (try simp [hnt] at hc); (try (exfalso; omega))) | (refine callS_mk [(3,0)] [(50,1)] (e1) ?_ ?_; (· (simp [hnt]; done)); (intro _; try simp [hnt])) | (refine ⟨?_, ?_⟩; · omega) | omega | apply_assumption -exfalso -symm | (exfalso; omega)))
        · rw [bldO_some hT0]
          have e1 := writeUsed_spec T (x.fr ++ ⟨#[32]⟩ ++ x.lb ++ ⟨#[32]⟩ ++ x.to ++ ⟨#[32, 59, 10]⟩) (by omega)
          rw [hN, ← htk] at e1
          (repeat (first | refine DW_seq fun K hK => ?_ | (refine DW_r anWB1465 Tryz.mixed (by kernel_rfl) ?_; simp [anWB1465, hnt, dEdge, hlt, hx, hx', q1, q3, q4, q5, q6, size3, size1, ByteArray.size_append, m3, m1]; try simp (disch := omega) only [wrap64_in]) | refine DW_block ?_ | (refine DW_if ?_ ?_ ?_; (· (simp [hnt, dEdge, hlt, hx, hx', q1, q3, q4, q5, q6, size3, size1, ByteArray.size_append, m3, m1]; done)); (try (rotate_left; (· (intro hc; (try simp [hnt, dEdge, hlt, hx, hx', q1, q3, q4, q5, q6, size3, size1, ByteArray.size_append, m3, m1] at hc); done))))) | (refine DW_ret ?_; simp [Tryz.results65, hnt, dEdge, hlt, hx, hx', q1, q3, q4, q5, q6, size3, size1, ByteArray.size_append, m3, m1]) | ((first | refine DW_exit ?_ | refine DW_skip ?_); simp [hnt, dEdge, hlt, hx, hx', q1, q3, q4, q5, q6, size3, size1, ByteArray.size_append, m3, m1]) | (intro hc; (try simp [hnt, dEdge, hlt, hx, hx', q1, q3, q4, q5, q6, size3, size1, ByteArray.size_append, m3, m1] at hc); (try (exfalso; omega))) | (refine callS_mk [(3,0),(50,1)] [] (e1) ?_ ?_; (· (simp [hnt, dEdge, hlt, hx, hx', q1, q3, q4, q5, q6, size3, size1, ByteArray.size_append, m3, m1]; done)); (intro _; try simp [hnt, dEdge, hlt, hx, hx', q1, q3, q4, q5, q6, size3, size1, ByteArray.size_append, m3, m1])) | (refine ⟨?_, ?_⟩; · omega) | omega | apply_assumption -exfalso -symm | (exfalso; omega)))
          refine Again.mk ⟨k + 1, by omega⟩ (Sub.lit (by rw [hnew]; simp)) (by simp; omega)
          (repeat (first | refine DW_seq fun K hK => ?_ | (refine DW_r anWB1465 Tryz.mixed (by kernel_rfl) ?_; simp [anWB1465, hnt]; try simp (disch := omega) only [wrap64_in]) | refine DW_block ?_ | (refine DW_if ?_ ?_ ?_; (· (simp [hnt]; done)); (try (rotate_left; (· (intro hc; (try simp [hnt] at hc); done))))) | (refine DW_ret ?_; simp [Tryz.results65, hnt]) | ((first | refine DW_exit ?_ | refine DW_skip ?_); simp [hnt]) | (intro hc; (try simp [hnt] at hc); (try (exfalso; omega))) | (refine callS_mk [(3,0),(50,1)] [] (e1) ?_ ?_; (· (simp [hnt]; done)); (intro _; try simp [hnt])) | (refine ⟨?_, ?_⟩; · omega) | omega | apply_assumption -exfalso -symm | (exfalso; omega)))
      · have hkk : k = es.length := by omega
        subst hkk
        rw [List.take_length, ← hRR]
        by_cases hR0 : R.size = 0
        · rw [bldO_none hR0]
          have e1 := stringNone_spec
          rw [← size0 hR0] at e1
          (repeat (first | refine DW_seq fun K hK => ?_ | (refine DW_r anWB1465 Tryz.mixed (by kernel_rfl) ?_; simp [anWB1465, hnt]; try simp (disch := omega) only [wrap64_in]) | refine DW_block ?_ | (refine DW_if ?_ ?_ ?_; (· (simp [hnt]; done)); (try (rotate_left; (· (intro hc; (try simp [hnt] at hc); done))))) | (refine DW_ret ?_; simp [Tryz.results65, hnt]) | ((first | refine DW_exit ?_ | refine DW_skip ?_); simp [hnt]) | (intro hc; (try simp [hnt] at hc); (try (exfalso; omega))) | (refine callS_mk [(3,0)] [] (e1) ?_ ?_; (· (simp [hnt]; done)); (intro _; try simp [hnt])) | (refine ⟨?_, ?_⟩; · omega) | omega | apply_assumption -exfalso -symm | (exfalso; omega)))
        · rw [bldO_some hR0]
          have e1 := stringSome_spec R hR0
          (repeat (first | refine DW_seq fun K hK => ?_ | (refine DW_r anWB1465 Tryz.mixed (by kernel_rfl) ?_; simp [anWB1465, hnt]; try simp (disch := omega) only [wrap64_in]) | refine DW_block ?_ | (refine DW_if ?_ ?_ ?_; (· (simp [hnt]; done)); (try (rotate_left; (· (intro hc; (try simp [hnt] at hc); done))))) | (refine DW_ret ?_; simp [Tryz.results65, hnt]) | ((first | refine DW_exit ?_ | refine DW_skip ?_); simp [hnt]) | (intro hc; (try simp [hnt] at hc); (try (exfalso; omega))) | (refine callS_mk [(3,0),(50,1)] [] (e1) ?_ ?_; (· (simp [hnt]; done)); (intro _; try simp [hnt])) | (refine ⟨?_, ?_⟩; · omega) | omega | apply_assumption -exfalso -symm | (exfalso; omega)))
end Go.Proofs.YtffdjbdokgbibaaGreat
end

section
/- Check and Way of a graph -/

set_option linter.unusedSimpArgs false
set_option linter.unusedVariables false
namespace Go.Proofs.YtffdjbdokgbibaaGreat
open Go Go.Dm
attribute [local irreducible] DW callP callS
set_option maxRecDepth 100000

def anWB1548 : Ann := ⟨[], []⟩
theorem caps103_pure (g : Edges) (hn : namedB g = true) : DPure Tryz.prog 48 [.agg (dGr g)] (.int .i64 (capsI g)) := by
  refine DPure_introF [] (fn := Tryz.f48) Tryz.func48 rfl Tryz.call48 (by simp [Tryz.ntmps48]) (by simp [mx]) ?_
  intro hwf B hnt
  simp only [Tryz.ntmps48] at hnt
  clear hwf
  simp only [argS]
  unfold capsI
  have h1 := labels137_pure g
  by_cases c1 : 32 < g.nodes.length
  · have d1 : (32 : Int) < g.nodes.length := by omega
    (repeat (first | refine DW_seq fun K hK => ?_ | (refine DW_r anWB1548 Tryz.mixed (by kernel_rfl) ?_; simp [anWB1548, hnt, dGr, c1, d1]; try simp (disch := omega) only [wrap64_in]) | refine DW_block ?_ | (refine DW_if ?_ ?_ ?_; (· (simp [hnt, dGr, c1, d1]; done)); (try (rotate_left; (· (intro hc; (try simp [hnt, dGr, c1, d1] at hc); done))))) | (refine DW_ret ?_; simp [Tryz.results48, hnt, dGr, c1, d1]) | ((first | refine DW_exit ?_ | refine DW_skip ?_); simp [hnt, dGr, c1, d1]) | (intro hc; (try simp [hnt, dGr, c1, d1] at hc); (try (exfalso; omega))) | (refine ⟨?_, ?_⟩; · omega) | omega | apply_assumption -exfalso -symm | (exfalso; omega)))
  · have d1 : ¬ (32 : Int) < g.nodes.length := by omega
    obtain ⟨U, hU⟩ : ∃ U, U = uniqS (labelsL g.edges) := ⟨_, rfl⟩
    rw [← hU] at h1 ⊢
    clear hU
    simp only [dGr] at h1
    by_cases c2 : 16 < U.length
    · have d2 : (16 : Int) < U.length := by omega
      (repeat (first | refine DW_seq fun K hK => ?_ | (refine DW_r anWB1548 Tryz.mixed (by kernel_rfl) ?_; simp [anWB1548, hnt, dGr, c1, d1, c2, d2]; try simp (disch := omega) only [wrap64_in]) | refine DW_block ?_ | (refine DW_if ?_ ?_ ?_; (· (simp [hnt, dGr, c1, d1, c2, d2]; done)); (try (rotate_left; (· (intro hc; (try simp [hnt, dGr, c1, d1, c2, d2] at hc); done))))) | (refine DW_ret ?_; simp [Tryz.results48, hnt, dGr, c1, d1, c2, d2]) | ((first | refine DW_exit ?_ | refine DW_skip ?_); simp [hnt, dGr, c1, d1, c2, d2]) | (intro hc; (try simp [hnt, dGr, c1, d1, c2, d2] at hc); (try (exfalso; omega))) | ((first | refine callP_mk (h1) ?_ | (refine callP_wk (h1) ?_ ?_; (· (simp; done)))); try simp [hnt, dGr, c1, d1, c2, d2]) | (refine ⟨?_, ?_⟩; · omega) | omega | apply_assumption -exfalso -symm | (exfalso; omega)))
    · have d2 : ¬ (16 : Int) < U.length := by omega
      by_cases c3 : 256 < g.edges.length
      · have d3 : (256 : Int) < g.edges.length := by omega
        (repeat (first | refine DW_seq fun K hK => ?_ | (refine DW_r anWB1548 Tryz.mixed (by kernel_rfl) ?_; simp [anWB1548, hnt, dGr, c1, d1, c2, d2, c3, d3]; try simp (disch := omega) only [wrap64_in]) | refine DW_block ?_ | (refine DW_if ?_ ?_ ?_; (· (simp [hnt, dGr, c1, d1, c2, d2, c3, d3]; done)); (try (rotate_left; (· (intro hc; (try simp [hnt, dGr, c1, d1, c2, d2, c3, d3] at hc); done))))) | (refine DW_ret ?_; simp [Tryz.results48, hnt, dGr, c1, d1, c2, d2, c3, d3]) | ((first | refine DW_exit ?_ | refine DW_skip ?_); simp [hnt, dGr, c1, d1, c2, d2, c3, d3]) | (intro hc; (try simp [hnt, dGr, c1, d1, c2, d2, c3, d3] at hc); (try (exfalso; omega))) | ((first | refine callP_mk (h1) ?_ | (refine callP_wk (h1) ?_ ?_; (· (simp; done)))); try simp [hnt, dGr, c1, d1, c2, d2, c3, d3]) | (refine ⟨?_, ?_⟩; · omega) | omega | apply_assumption -exfalso -symm | (exfalso; omega)))
      · have d3 : ¬ (256 : Int) < g.edges.length := by omega
        have h2 := text138_pure g (small_of hn (by omega) (by omega))
        obtain ⟨T, hT⟩ : ∃ T, T = textB g := ⟨_, rfl⟩
        rw [← hT] at h2 ⊢
        clear hT
        simp only [dGr] at h2
        by_cases c4 : 2048 < T.size
        · have d4 : (2048 : Int) < T.size := by omega
          (repeat (first | refine DW_seq fun K hK => ?_ | (refine DW_r anWB1548 Tryz.mixed (by kernel_rfl) ?_; simp [anWB1548, hnt, dGr, c1, d1, c2, d2, c3, d3, c4, d4]; try simp (disch := omega) only [wrap64_in]) | refine DW_block ?_ | (refine DW_if ?_ ?_ ?_; (· (simp [hnt, dGr, c1, d1, c2, d2, c3, d3, c4, d4]; done)); (try (rotate_left; (· (intro hc; (try simp [hnt, dGr, c1, d1, c2, d2, c3, d3, c4, d4] at hc); done))))) | (refine DW_ret ?_; simp [Tryz.results48, hnt, dGr, c1, d1, c2, d2, c3, d3, c4, d4]) | ((first | refine DW_exit ?_ | refine DW_skip ?_); simp [hnt, dGr, c1, d1, c2, d2, c3, d3, c4, d4]) | (intro hc; (try simp [hnt, dGr, c1, d1, c2, d2, c3, d3, c4, d4] at hc); (try (exfalso; omega))) | ((first | refine callP_mk (h1) ?_ | refine callP_mk (h2) ?_ | (refine callP_wk (h1) ?_ ?_; (· (simp; done))) | (refine callP_wk (h2) ?_ ?_; (· (simp; done)))); try simp [hnt, dGr, c1, d1, c2, d2, c3, d3, c4, d4]) | (refine ⟨?_, ?_⟩; · omega) | omega | apply_assumption -exfalso -symm | (exfalso; omega)))
        · have d4 : ¬ (2048 : Int) < T.size := by omega
          (repeat (first | refine DW_seq fun K hK => ?_ | (refine DW_r anWB1548 Tryz.mixed (by kernel_rfl) ?_; simp [anWB1548, hnt, dGr, c1, d1, c2, d2, c3, d3, c4, d4]; try simp (disch := omega) only [wrap64_in]) | refine DW_block ?_ | (refine DW_if ?_ ?_ ?_; (· (simp [hnt, dGr, c1, d1, c2, d2, c3, d3, c4, d4]; done)); (try (rotate_left; (· (intro hc; (try simp [hnt, dGr, c1, d1, c2, d2, c3, d3, c4, d4] at hc); done))))) | (refine DW_ret ?_; simp [Tryz.results48, hnt, dGr, c1, d1, c2, d2, c3, d3, c4, d4]) | ((first | refine DW_exit ?_ | refine DW_skip ?_); simp [hnt, dGr, c1, d1, c2, d2, c3, d3, c4, d4]) | (intro hc; (try simp [hnt, dGr, c1, d1, c2, d2, c3, d3, c4, d4] at hc); (try (exfalso; omega))) | ((first | refine callP_mk (h1) ?_ | refine callP_mk (h2) ?_ | (refine callP_wk (h1) ?_ ?_; (· (simp; done))) | (refine callP_wk (h2) ?_ ?_; (· (simp; done)))); try simp [hnt, dGr, c1, d1, c2, d2, c3, d3, c4, d4]) | (refine ⟨?_, ?_⟩; · omega) | omega | apply_assumption -exfalso -symm | (exfalso; omega)))

def anWB1533 : Ann := ⟨[], []⟩
theorem check61_pure (g : Edges) : DPure Tryz.prog 33 [.agg (dGr g)] (.int .i64 (checkI g)) := by
  refine DPure_introF [] (fn := Tryz.f33) Tryz.func33 rfl Tryz.call33 (by simp [Tryz.ntmps33]) (by simp [mx]) ?_
  intro hwf B hnt
  simp only [Tryz.ntmps33] at hnt
  clear hwf
  simp only [argS]
  unfold checkI
  have h1 := form101_pure g
  have h2 := named102_pure g
  simp only [dGr] at h1 h2
  cases hf : formB g
  · rw [hf] at h1
    (repeat (first | refine DW_seq fun K hK => ?_ | (refine DW_r anWB1533 Tryz.mixed (by kernel_rfl) ?_; simp [anWB1533, hnt, dGr]; try simp (disch := omega) only [wrap64_in]) | refine DW_block ?_ | (refine DW_if ?_ ?_ ?_; (· (simp [hnt, dGr]; done)); (try (rotate_left; (· (intro hc; (try simp [hnt, dGr] at hc); done))))) | (refine DW_ret ?_; simp [Tryz.results33, hnt, dGr]) | ((first | refine DW_exit ?_ | refine DW_skip ?_); simp [hnt, dGr]) | (intro hc; (try simp [hnt, dGr] at hc); (try (exfalso; omega))) | ((first | refine callP_mk (h1) ?_ | refine callP_mk (h2) ?_ | (refine callP_wk (h1) ?_ ?_; (· (simp; done))) | (refine callP_wk (h2) ?_ ?_; (· (simp; done)))); try simp [hnt, dGr]) | (refine ⟨?_, ?_⟩; · omega) | omega | apply_assumption -exfalso -symm | (exfalso; omega)))
  · rw [hf] at h1
    cases hn : namedB g
    · rw [hn] at h2
      (repeat (first | refine DW_seq fun K hK => ?_ | (refine DW_r anWB1533 Tryz.mixed (by kernel_rfl) ?_; simp [anWB1533, hnt, dGr]; try simp (disch := omega) only [wrap64_in]) | refine DW_block ?_ | (refine DW_if ?_ ?_ ?_; (· (simp [hnt, dGr]; done)); (try (rotate_left; (· (intro hc; (try simp [hnt, dGr] at hc); done))))) | (refine DW_ret ?_; simp [Tryz.results33, hnt, dGr]) | ((first | refine DW_exit ?_ | refine DW_skip ?_); simp [hnt, dGr]) | (intro hc; (try simp [hnt, dGr] at hc); (try (exfalso; omega))) | ((first | refine callP_mk (h1) ?_ | refine callP_mk (h2) ?_ | (refine callP_wk (h1) ?_ ?_; (· (simp; done))) | (refine callP_wk (h2) ?_ ?_; (· (simp; done)))); try simp [hnt, dGr]) | (refine ⟨?_, ?_⟩; · omega) | omega | apply_assumption -exfalso -symm | (exfalso; omega)))
    · rw [hn] at h2
      have h3 := caps103_pure g hn
      simp only [dGr] at h3
      (repeat (first | refine DW_seq fun K hK => ?_ | (refine DW_r anWB1533 Tryz.mixed (by kernel_rfl) ?_; simp [anWB1533, hnt, dGr]; try simp (disch := omega) only [wrap64_in]) | refine DW_block ?_ | (refine DW_if ?_ ?_ ?_; (· (simp [hnt, dGr]; done)); (try (rotate_left; (· (intro hc; (try simp [hnt, dGr] at hc); done))))) | (refine DW_ret ?_; simp [Tryz.results33, hnt, dGr]) | ((first | refine DW_exit ?_ | refine DW_skip ?_); simp [hnt, dGr]) | (intro hc; (try simp [hnt, dGr] at hc); (try (exfalso; omega))) | ((first | refine callP_mk (h1) ?_ | refine callP_mk (h2) ?_ | refine callP_mk (h3) ?_ | (refine callP_wk (h1) ?_ ?_; (· (simp; done))) | (refine callP_wk (h2) ?_ ?_; (· (simp; done))) | (refine callP_wk (h3) ?_ ?_; (· (simp; done)))); try simp [hnt, dGr]) | (refine ⟨?_, ?_⟩; · omega) | omega | apply_assumption -exfalso -symm | (exfalso; omega)))

def anWB1532 : Ann := ⟨[], []⟩
theorem way1_pure (g : Edges) : DPure Tryz.prog 32 [.ref (dGr g)] (.int .i64 (checkI g)) := by
  refine DPure_introF [] (fn := Tryz.f32) Tryz.func32 rfl Tryz.call32 (by simp [Tryz.ntmps32]) (by simp [mx]) ?_
  intro hwf B hnt
  simp only [Tryz.ntmps32] at hnt
  clear hwf
  simp only [argS]
  have h := check61_pure g
  simp only [dGr] at h
  (repeat (first | refine DW_seq fun K hK => ?_ | (refine DW_r anWB1532 Tryz.mixed (by kernel_rfl) ?_; simp [anWB1532, hnt, dGr]; try simp (disch := omega) only [wrap64_in]) | refine DW_block ?_ | (refine DW_if ?_ ?_ ?_; (· (simp [hnt, dGr]; done)); (try (rotate_left; (· (intro hc; (try simp [hnt, dGr] at hc); done))))) | (refine DW_ret ?_; simp [Tryz.results32, hnt, dGr]) | ((first | refine DW_exit ?_ | refine DW_skip ?_); simp [hnt, dGr]) | (intro hc; (try simp [hnt, dGr] at hc); (try (exfalso; omega))) | ((first | refine callP_mk (h) ?_ | (refine callP_wk (h) ?_ ?_; (· (simp; done)))); try simp [hnt, dGr]) | (refine ⟨?_, ?_⟩; · omega) | omega | apply_assumption -exfalso -symm | (exfalso; omega)))
def anWB1534 : Ann := ⟨[], []⟩
theorem way2_pure (g : Edges) (a b : ByteArray) : DPure Tryz.prog 34 [.ref (dGr g), .ref [.str a], .ref [.str b]] (.int .i64 (endsI g a b)) := by
  refine DPure_introF [] (fn := Tryz.f34) Tryz.func34 rfl Tryz.call34 (by simp [Tryz.ntmps34]) (by simp [mx]) ?_
  intro hwf B hnt
  simp only [Tryz.ntmps34] at hnt
  clear hwf
  simp only [argS]
  have h := ends63_pure g a b
  simp only [dGr] at h
  (repeat (first | refine DW_seq fun K hK => ?_ | (refine DW_r anWB1534 Tryz.mixed (by kernel_rfl) ?_; simp [anWB1534, hnt, dGr]; try simp (disch := omega) only [wrap64_in]) | refine DW_block ?_ | (refine DW_if ?_ ?_ ?_; (· (simp [hnt, dGr]; done)); (try (rotate_left; (· (intro hc; (try simp [hnt, dGr] at hc); done))))) | (refine DW_ret ?_; simp [Tryz.results34, hnt, dGr]) | ((first | refine DW_exit ?_ | refine DW_skip ?_); simp [hnt, dGr]) | (intro hc; (try simp [hnt, dGr] at hc); (try (exfalso; omega))) | ((first | refine callP_mk (h) ?_ | (refine callP_wk (h) ?_ ?_; (· (simp; done)))); try simp [hnt, dGr]) | (refine ⟨?_, ?_⟩; · omega) | omega | apply_assumption -exfalso -symm | (exfalso; omega)))
def anWB1536 : Ann := ⟨[], []⟩
theorem way3_pure (way : List Edge) : DPure Tryz.prog 36 [.ref [dEds way]] (.int .i64 (if 64 < way.length then 3 else 0)) := by
  refine DPure_introF [] (fn := Tryz.f36) Tryz.func36 rfl Tryz.call36 (by simp [Tryz.ntmps36]) (by simp [mx]) ?_
  intro hwf B hnt
  simp only [Tryz.ntmps36] at hnt
  clear hwf
  simp only [argS]
  have h := given_pure (decide ((64 : Int) < way.length)) 3
  by_cases c : 64 < way.length
  · have d : (64 : Int) < way.length := by omega
    have h := given_pure true 3
    simp only [if_true] at h
    (repeat (first | refine DW_seq fun K hK => ?_ | (refine DW_r anWB1536 Tryz.mixed (by kernel_rfl) ?_; simp [anWB1536, hnt, c, d]; try simp (disch := omega) only [wrap64_in]) | refine DW_block ?_ | (refine DW_if ?_ ?_ ?_; (· (simp [hnt, c, d]; done)); (try (rotate_left; (· (intro hc; (try simp [hnt, c, d] at hc); done))))) | (refine DW_ret ?_; simp [Tryz.results36, hnt, c, d]) | ((first | refine DW_exit ?_ | refine DW_skip ?_); simp [hnt, c, d]) | (intro hc; (try simp [hnt, c, d] at hc); (try (exfalso; omega))) | ((first | refine callP_mk (h) ?_ | (refine callP_wk (h) ?_ ?_; (· (simp; done)))); try simp [hnt, c, d]) | (refine ⟨?_, ?_⟩; · omega) | omega | apply_assumption -exfalso -symm | (exfalso; omega)))
  · have d : ¬ (64 : Int) < way.length := by omega
    have h := given_pure false 3
    simp only [Bool.false_eq_true, if_false] at h
    (repeat (first | refine DW_seq fun K hK => ?_ | (refine DW_r anWB1536 Tryz.mixed (by kernel_rfl) ?_; simp [anWB1536, hnt, c, d]; try simp (disch := omega) only [wrap64_in]) | refine DW_block ?_ | (refine DW_if ?_ ?_ ?_; (· (simp [hnt, c, d]; done)); (try (rotate_left; (· (intro hc; (try simp [hnt, c, d] at hc); done))))) | (refine DW_ret ?_; simp [Tryz.results36, hnt, c, d]) | ((first | refine DW_exit ?_ | refine DW_skip ?_); simp [hnt, c, d]) | (intro hc; (try simp [hnt, c, d] at hc); (try (exfalso; omega))) | ((first | refine callP_mk (h) ?_ | (refine callP_wk (h) ?_ ?_; (· (simp; done)))); try simp [hnt, c, d]) | (refine ⟨?_, ?_⟩; · omega) | omega | apply_assumption -exfalso -symm | (exfalso; omega)))
def anWB1538 : Ann := ⟨[], []⟩
theorem way4_pure (g : Edges) (a b : ByteArray) (way : List Edge) : DPure Tryz.prog 38 [.ref (dGr g), .ref [.str a], .ref [.str b], .ref [dEds way]] (.int .i64 (if isWay g a b way then 0 else 370)) := by
  refine DPure_introF [] (fn := Tryz.f38) Tryz.func38 rfl Tryz.call38 (by simp [Tryz.ntmps38]) (by simp [mx]) ?_
  intro hwf B hnt
  simp only [Tryz.ntmps38] at hnt
  clear hwf
  simp only [argS]
  have h := joined_pure g a b way
  obtain ⟨z, hz⟩ : ∃ z, z = isWay g a b way := ⟨_, rfl⟩
  rw [← hz] at h ⊢
  clear hz
  simp only [dGr] at h
  cases z
  · have h2 := given_pure true 370
    simp only [if_true] at h2
    (repeat (first | refine DW_seq fun K hK => ?_ | (refine DW_r anWB1538 Tryz.mixed (by kernel_rfl) ?_; simp [anWB1538, hnt, dGr]; try simp (disch := omega) only [wrap64_in]) | refine DW_block ?_ | (refine DW_if ?_ ?_ ?_; (· (simp [hnt, dGr]; done)); (try (rotate_left; (· (intro hc; (try simp [hnt, dGr] at hc); done))))) | (refine DW_ret ?_; simp [Tryz.results38, hnt, dGr]) | ((first | refine DW_exit ?_ | refine DW_skip ?_); simp [hnt, dGr]) | (intro hc; (try simp [hnt, dGr] at hc); (try (exfalso; omega))) | ((first | refine callP_mk (h) ?_ | refine callP_mk (h2) ?_ | (refine callP_wk (h) ?_ ?_; (· (simp; done))) | (refine callP_wk (h2) ?_ ?_; (· (simp; done)))); try simp [hnt, dGr]) | (refine ⟨?_, ?_⟩; · omega) | omega | apply_assumption -exfalso -symm | (exfalso; omega)))
  · have h2 := given_pure false 370
    simp only [Bool.false_eq_true, if_false] at h2
    (repeat (first | refine DW_seq fun K hK => ?_ | (refine DW_r anWB1538 Tryz.mixed (by kernel_rfl) ?_; simp [anWB1538, hnt, dGr]; try simp (disch := omega) only [wrap64_in]) | refine DW_block ?_ | (refine DW_if ?_ ?_ ?_; (· (simp [hnt, dGr]; done)); (try (rotate_left; (· (intro hc; (try simp [hnt, dGr] at hc); done))))) | (refine DW_ret ?_; simp [Tryz.results38, hnt, dGr]) | ((first | refine DW_exit ?_ | refine DW_skip ?_); simp [hnt, dGr]) | (intro hc; (try simp [hnt, dGr] at hc); (try (exfalso; omega))) | ((first | refine callP_mk (h) ?_ | refine callP_mk (h2) ?_ | (refine callP_wk (h) ?_ ?_; (· (simp; done))) | (refine callP_wk (h2) ?_ ?_; (· (simp; done)))); try simp [hnt, dGr]) | (refine ⟨?_, ?_⟩; · omega) | omega | apply_assumption -exfalso -symm | (exfalso; omega)))

def anWB1520 : Ann := ⟨[], []⟩
theorem way31_pure (g : Edges) (a b : ByteArray) (way : List Edge) : DPure Tryz.prog 20 [.agg (dGr g), .str a, .str b, dEds way] (.int .i64 (wayI g a b way)) := by
  refine DPure_introF [] (fn := Tryz.f20) Tryz.func20 rfl Tryz.call20 (by simp [Tryz.ntmps20]) (by simp [mx]) ?_
  intro hwf B hnt
  simp only [Tryz.ntmps20] at hnt
  clear hwf
  simp only [argS]
  have hI : wayI g a b way = (if checkI g = 0 then (if endsI g a b = 0 then (if (if 64 < way.length then (3 : Int) else 0) = 0 then (if isWay g a b way then 0 else 370) else (if 64 < way.length then 3 else 0)) else endsI g a b) else checkI g) := by
    unfold wayI
    by_cases c : 64 < way.length <;> simp [c]
  have h := first4_pure 32 34 36 38 [.ref (dGr g)] [.ref (dGr g), .ref [.str a], .ref [.str b]] [.ref [dEds way]] [.ref (dGr g), .ref [.str a], .ref [.str b], .ref [dEds way]] _ _ _ _ (way1_pure g) (fun _ => way2_pure g a b) (fun _ _ => way3_pure way) (fun _ _ _ => way4_pure g a b way)
  rw [← hI] at h
  clear hI
  obtain ⟨R, hR⟩ : ∃ R, R = wayI g a b way := ⟨_, rfl⟩
  rw [← hR] at h ⊢
  clear hR
  have hr4 : (([0, 1, 2, 3] : List Nat) = List.range 4) = True := eq_true rfl
  simp only [dGr] at h
  (repeat (first | refine DW_seq fun K hK => ?_ | (refine DW_r anWB1520 Tryz.mixed (by kernel_rfl) ?_; simp [anWB1520, hnt, dGr, hr4]; try simp (disch := omega) only [wrap64_in]) | refine DW_block ?_ | (refine DW_if ?_ ?_ ?_; (· (simp [hnt, dGr, hr4]; done)); (try (rotate_left; (· (intro hc; (try simp [hnt, dGr, hr4] at hc); done))))) | (refine DW_ret ?_; simp [Tryz.results20, hnt, dGr, hr4]) | ((first | refine DW_exit ?_ | refine DW_skip ?_); simp [hnt, dGr, hr4]) | (intro hc; (try simp [hnt, dGr, hr4] at hc); (try (exfalso; omega))) | ((first | refine callP_mk (h) ?_ | (refine callP_wk (h) ?_ ?_; (· (simp; done)))); try simp [hnt, dGr, hr4]) | (refine ⟨?_, ?_⟩; · omega) | omega | apply_assumption -exfalso -symm | (exfalso; omega)))

def anWB1510 : Ann := ⟨[], []⟩
theorem rise0_pure : DPure Tryz.prog 10 [.nilsl] (.bool true) := by
  refine DPure_introF [] (fn := Tryz.f10) Tryz.func10 rfl Tryz.call10 (by simp [Tryz.ntmps10]) (by simp [mx]) ?_
  intro hwf B hnt
  simp only [Tryz.ntmps10] at hnt
  clear hwf
  simp only [argS]
  (repeat (first | refine DW_seq fun K hK => ?_ | (refine DW_r anWB1510 Tryz.mixed (by kernel_rfl) ?_; simp [anWB1510, hnt]; try simp (disch := omega) only [wrap64_in]) | refine DW_block ?_ | (refine DW_if ?_ ?_ ?_; (· (simp [hnt]; done)); (try (rotate_left; (· (intro hc; (try simp [hnt] at hc); done))))) | (refine DW_ret ?_; simp [Tryz.results10, hnt]) | ((first | refine DW_exit ?_ | refine DW_skip ?_); simp [hnt]) | (intro hc; (try simp [hnt] at hc); (try (exfalso; omega))) | (refine ⟨?_, ?_⟩; · omega) | omega | apply_assumption -exfalso -symm | (exfalso; omega)))
  refine DW_loop (X := Unit) (fun _ => ⟨[(0, .nilsl), (3, .int .i64 1)], []⟩) (fun _ => 0) () (Sub.lit (by simp)) ?_
  rintro ⟨⟩
  (repeat (first | refine DW_seq fun K hK => ?_ | (refine DW_r anWB1510 Tryz.mixed (by kernel_rfl) ?_; simp [anWB1510, hnt]; try simp (disch := omega) only [wrap64_in]) | refine DW_block ?_ | (refine DW_if ?_ ?_ ?_; (· (simp [hnt]; done)); (try (rotate_left; (· (intro hc; (try simp [hnt] at hc); done))))) | (refine DW_ret ?_; simp [Tryz.results10, hnt]) | ((first | refine DW_exit ?_ | refine DW_skip ?_); simp [hnt]) | (intro hc; (try simp [hnt] at hc); (try (exfalso; omega))) | (refine ⟨?_, ?_⟩; · omega) | omega | apply_assumption -exfalso -symm | (exfalso; omega)))
end Go.Proofs.YtffdjbdokgbibaaGreat
end

section
/- the graph of a way's edges: the program's, the document's -/


set_option linter.unusedSimpArgs false
set_option linter.unusedVariables false
namespace Go.Proofs.YtffdjbdokgbibaaGreat
open Go Go.Dm
attribute [local irreducible] DW callP callS
set_option maxRecDepth 100000

def madeG (es : List Edge) : Edges := ⟨uniqS (endsL es), uniqC eCmp es⟩
theorem named_made {es : List Edge} (h : namedB ⟨[], es⟩ = true) : namedB (madeG es) = true := by
  unfold namedB madeG at *
  simp only [List.all_nil, Bool.true_and, Bool.and_eq_true, List.all_eq_true] at h ⊢
  refine ⟨fun s hs => ?_, fun e he => h e (((uniqC_ok ordE es).2 e).1 he)⟩
  rw [(uniqS_ok _).2] at hs
  unfold endsL at hs
  obtain ⟨e, he, hs⟩ := List.mem_flatMap.1 hs
  have := h e he
  unfold edgeOK at this
  simp only [Bool.and_eq_true] at this
  simp only [List.mem_cons, List.not_mem_nil, or_false] at hs
  rcases hs with rfl | rfl
  · exact this.1
  · exact this.2.2
def madeD (es : List Edge) : DVal := if capsI (madeG es) = 0 then .tup [.agg (dGr (madeG es)), .int .i64 0] else .tup [.agg [.nilsl, .nilsl], .int .i64 (capsI (madeG es))]
def ofD (es : List Edge) : DVal := if namedB ⟨[], es⟩ then madeD es else .tup [.agg [.nilsl, .nilsl], .int .i64 173]

def anWE443 : Ann := ⟨[], []⟩
theorem cloneS_nilsl : DPure Tryz.prog 43 [.nilsl] .nilsl := by
  refine DPure_introF [] (fn := Tryz.f43) Tryz.func43 rfl Tryz.call43 (by simp [Tryz.ntmps43]) (by simp [mx]) ?_
  intro hwf B hnt
  simp only [Tryz.ntmps43] at hnt
  simp only [argS]
  (repeat (first | refine DW_seq fun K hK => ?_ | (refine DW_r anWE443 Tryz.mixed (by kernel_rfl) ?_; simp [anWE443, hnt]; try simp (disch := omega) only [wrap64_in]) | refine DW_block ?_ | (refine DW_if ?_ ?_ ?_; (· (simp [hnt]; done)); (try (rotate_left; (· (intro hc; (try simp [hnt] at hc); done))))) | (refine DW_ret ?_; simp [Tryz.results43, hnt]) | ((first | refine DW_exit ?_ | refine DW_skip ?_); simp [hnt]) | (intro hc; (try simp [hnt] at hc); (try (exfalso; omega))) | (refine ⟨?_, ?_⟩; · omega) | omega | apply_assumption -exfalso -symm | (exfalso; omega)))

def anWE425 : Ann := ⟨[], [⟨4, [8], [], []⟩, ⟨7, [9], [], []⟩]⟩
set_option maxHeartbeats 2000000 in
theorem made25_pure (es : List Edge) (hn : namedB ⟨[], es⟩ = true) : DPure Tryz.prog 25 [.nilsl, dEds es] (madeD es) := by
  obtain ⟨cc, hcc⟩ : ∃ cc, cc = capsI (madeG es) := ⟨_, rfl⟩
  obtain ⟨N, hN⟩ : ∃ N, N = uniqS (endsL es) := ⟨_, rfl⟩
  obtain ⟨E, hE⟩ : ∃ E, E = uniqC eCmp es := ⟨_, rfl⟩
  have hR : madeD es = if cc = 0 then .tup [.agg [dStrs N, dEds E], .int .i64 0] else .tup [.agg [.nilsl, .nilsl], .int .i64 cc] := by unfold madeD; rw [← hcc, hN, hE]; rfl
  rw [hR]
  have k1 := sortedS_pure (endsL es)
  rw [← hN] at k1
  have k2 := sortedE_pure es
  rw [← hE] at k2
  have k3 := caps103_pure (madeG es) (named_made hn)
  rw [← hcc] at k3
  unfold madeG at k3
  rw [← hN, ← hE] at k3
  simp only [dGr] at k3
  clear hR hcc hN hE
  refine DPure_introF [] (fn := Tryz.f25) Tryz.func25 rfl Tryz.call25 (by simp [Tryz.ntmps25]) (by split <;> simp [mx, mxL]) ?_
  intro hwf B hnt
  simp only [Tryz.ntmps25] at hnt
  have hsz : es.length * 48 ≤ 150000000000000 := by have := hwf.2.1; simp only [wfD, List.length_map] at this; exact this.1
  clear hwf
  simp only [argS]
  (repeat (first | refine DW_seq fun K hK => ?_ | (refine DW_r anWE425 Tryz.mixed (by kernel_rfl) ?_; simp [anWE425, hnt]; try simp (disch := omega) only [wrap64_in]) | refine DW_block ?_ | (refine DW_if ?_ ?_ ?_; (· (simp [hnt]; done)); (try (rotate_left; (· (intro hc; (try simp [hnt] at hc); done))))) | (refine DW_ret ?_; simp [Tryz.results25, hnt]) | ((first | refine DW_exit ?_ | refine DW_skip ?_); simp [hnt]) | (intro hc; (try simp [hnt] at hc); (try (exfalso; omega))) | ((first | refine callP_mk (cloneS_nilsl) ?_ | refine callP_mk (k1) ?_ | refine callP_mk (k2) ?_ | refine callP_mk (k3) ?_ | (refine callP_wk (cloneS_nilsl) ?_ ?_; (· (simp; done))) | (refine callP_wk (k1) ?_ ?_; (· (simp; done))) | (refine callP_wk (k2) ?_ ?_; (· (simp; done))) | (refine callP_wk (k3) ?_ ?_; (· (simp; done)))); try simp [hnt]) | (refine ⟨?_, ?_⟩; · omega) | omega | apply_assumption -exfalso -symm | (exfalso; omega)))
  refine DW_adoptS 6 60 9 1 16 (by simp [hnt, Tryz.results25, anWE425]) (fun n => ?_)
  refine DW_loop (X := {k : Nat // k ≤ es.length}) (fun k => ⟨[(1, dEds es), (4, .bx 4 1 0), (6, .osl 60 1), (13, dEds es), (14, .int .i64 es.length), (15, .int .i64 k.1)], [⟨4, 1, .box [.nilsl, .nilsl]⟩, ⟨60, 1, .row 9 1 16 ((endsL (es.take k.1)).map dStr)⟩]⟩) (fun k => es.length - k.1) ⟨0, by omega⟩ (Sub.lit (by simp [endsL])) ?_
  rintro ⟨k, hk⟩
  simp only
  by_cases hlt : k < es.length
  · obtain ⟨x, hx, hx', hxm⟩ := at_lt' hlt
    have htk := endsL_take hx
    have hl1 : (endsL (es.take k)).length = 2 * k := by rw [endsL_len, List.length_take]; omega
    obtain ⟨T, hT⟩ : ∃ T, T = endsL (es.take k) := ⟨_, rfl⟩
    rw [← hT] at htk hl1 ⊢
    have z1 : (2 * k + 2) * 16 ≤ 150000000000000 := by omega
    have z2 : 2 * k + 2 ≤ 9223372036854775807 := by omega
    have hr2 : (([0, 1] : List Nat) = List.range 2) = True := eq_true rfl
    (repeat (first | refine DW_seq fun K hK => ?_ | (refine DW_r anWE425 Tryz.mixed (by kernel_rfl) ?_; simp [anWE425, hnt, dEdge, hlt, hx, hx', hl1, z1, z2, hr2]; try simp (disch := omega) only [wrap64_in]) | refine DW_block ?_ | (refine DW_if ?_ ?_ ?_; (· (simp [hnt, dEdge, hlt, hx, hx', hl1, z1, z2, hr2]; done)); (try (rotate_left; (· (intro hc; (try simp [hnt, dEdge, hlt, hx, hx', hl1, z1, z2, hr2] at hc); done))))) | (refine DW_ret ?_; simp [Tryz.results25, hnt, dEdge, hlt, hx, hx', hl1, z1, z2, hr2]) | ((first | refine DW_exit ?_ | refine DW_skip ?_); simp [hnt, dEdge, hlt, hx, hx', hl1, z1, z2, hr2]) | (intro hc; (try simp [hnt, dEdge, hlt, hx, hx', hl1, z1, z2, hr2] at hc); (try (exfalso; omega))) | ((first | refine callP_mk (cloneS_nilsl) ?_ | refine callP_mk (k1) ?_ | refine callP_mk (k2) ?_ | refine callP_mk (k3) ?_ | (refine callP_wk (cloneS_nilsl) ?_ ?_; (· (simp; done))) | (refine callP_wk (k1) ?_ ?_; (· (simp; done))) | (refine callP_wk (k2) ?_ ?_; (· (simp; done))) | (refine callP_wk (k3) ?_ ?_; (· (simp; done)))); try simp [hnt, dEdge, hlt, hx, hx', hl1, z1, z2, hr2]) | (refine ⟨?_, ?_⟩; · omega) | omega | apply_assumption -exfalso -symm | (exfalso; omega)))
    refine Again.mk ⟨k + 1, by omega⟩ (Sub.lit (by simp [htk, dStr])) (by simp; omega)
    (repeat (first | refine DW_seq fun K hK => ?_ | (refine DW_r anWE425 Tryz.mixed (by kernel_rfl) ?_; simp [anWE425, hnt]; try simp (disch := omega) only [wrap64_in]) | refine DW_block ?_ | (refine DW_if ?_ ?_ ?_; (· (simp [hnt]; done)); (try (rotate_left; (· (intro hc; (try simp [hnt] at hc); done))))) | (refine DW_ret ?_; simp [Tryz.results25, hnt]) | ((first | refine DW_exit ?_ | refine DW_skip ?_); simp [hnt]) | (intro hc; (try simp [hnt] at hc); (try (exfalso; omega))) | ((first | refine callP_mk (cloneS_nilsl) ?_ | refine callP_mk (k1) ?_ | refine callP_mk (k2) ?_ | refine callP_mk (k3) ?_ | (refine callP_wk (cloneS_nilsl) ?_ ?_; (· (simp; done))) | (refine callP_wk (k1) ?_ ?_; (· (simp; done))) | (refine callP_wk (k2) ?_ ?_; (· (simp; done))) | (refine callP_wk (k3) ?_ ?_; (· (simp; done)))); try simp [hnt]) | (refine ⟨?_, ?_⟩; · omega) | omega | apply_assumption -exfalso -symm | (exfalso; omega)))
  · have hkk : k = es.length := by omega
    subst hkk
    rw [List.take_length]
    refine DW_sub (Sub.freezeL [60] _) ?_
    simp [hnt, Tryz.results25, anWE425]
    by_cases h0 : cc = 0
    · (repeat (first | refine DW_seq fun K hK => ?_ | (refine DW_r anWE425 Tryz.mixed (by kernel_rfl) ?_; simp [anWE425, hnt, h0]; try simp (disch := omega) only [wrap64_in]) | refine DW_block ?_ | (refine DW_if ?_ ?_ ?_; (· (simp [hnt, h0]; done)); (try (rotate_left; (· (intro hc; (try simp [hnt, h0] at hc); done))))) | (refine DW_ret ?_; simp [Tryz.results25, hnt, h0]) | ((first | refine DW_exit ?_ | refine DW_skip ?_); simp [hnt, h0]) | (intro hc; (try simp [hnt, h0] at hc); (try (exfalso; omega))) | ((first | refine callP_mk (cloneS_nilsl) ?_ | refine callP_mk (k1) ?_ | refine callP_mk (k2) ?_ | refine callP_mk (k3) ?_ | (refine callP_wk (cloneS_nilsl) ?_ ?_; (· (simp; done))) | (refine callP_wk (k1) ?_ ?_; (· (simp; done))) | (refine callP_wk (k2) ?_ ?_; (· (simp; done))) | (refine callP_wk (k3) ?_ ?_; (· (simp; done)))); try simp [hnt, h0]) | (refine ⟨?_, ?_⟩; · omega) | omega | apply_assumption -exfalso -symm | (exfalso; omega)))
    · have h0' : (cc != 0) = true := by simpa using h0
      (repeat (first | refine DW_seq fun K hK => ?_ | (refine DW_r anWE425 Tryz.mixed (by kernel_rfl) ?_; simp [anWE425, hnt, h0, h0']; try simp (disch := omega) only [wrap64_in]) | refine DW_block ?_ | (refine DW_if ?_ ?_ ?_; (· (simp [hnt, h0, h0']; done)); (try (rotate_left; (· (intro hc; (try simp [hnt, h0, h0'] at hc); done))))) | (refine DW_ret ?_; simp [Tryz.results25, hnt, h0, h0']) | ((first | refine DW_exit ?_ | refine DW_skip ?_); simp [hnt, h0, h0']) | (intro hc; (try simp [hnt, h0, h0'] at hc); (try (exfalso; omega))) | ((first | refine callP_mk (cloneS_nilsl) ?_ | refine callP_mk (k1) ?_ | refine callP_mk (k2) ?_ | refine callP_mk (k3) ?_ | (refine callP_wk (cloneS_nilsl) ?_ ?_; (· (simp; done))) | (refine callP_wk (k1) ?_ ?_; (· (simp; done))) | (refine callP_wk (k2) ?_ ?_; (· (simp; done))) | (refine callP_wk (k3) ?_ ?_; (· (simp; done)))); try simp [hnt, h0, h0']) | (refine ⟨?_, ?_⟩; · omega) | omega | apply_assumption -exfalso -symm | (exfalso; omega)))
def anWE416 : Ann := ⟨[], []⟩
theorem of16_pure (es : List Edge) : DPure Tryz.prog 16 [.nilsl, dEds es] (ofD es) := by
  have k1 := named102_pure ⟨[], es⟩
  simp only [dGr, dStrs, List.map_nil] at k1
  have k2 := made25_pure es
  unfold madeD at k2
  unfold ofD madeD
  refine DPure_introF [] (fn := Tryz.f16) Tryz.func16 rfl Tryz.call16 (by simp [Tryz.ntmps16]) (by split <;> (try split) <;> simp [mx, mxL]) ?_
  intro hwf B hnt
  simp only [Tryz.ntmps16] at hnt
  clear hwf
  simp only [argS]
  cases hn : namedB ⟨[], es⟩
  · rw [hn] at k1
    (repeat (first | refine DW_seq fun K hK => ?_ | (refine DW_r anWE416 Tryz.mixed (by kernel_rfl) ?_; simp [anWE416, hnt]; try simp (disch := omega) only [wrap64_in]) | refine DW_block ?_ | (refine DW_if ?_ ?_ ?_; (· (simp [hnt]; done)); (try (rotate_left; (· (intro hc; (try simp [hnt] at hc); done))))) | (refine DW_ret ?_; simp [Tryz.results16, hnt]) | ((first | refine DW_exit ?_ | refine DW_skip ?_); simp [hnt]) | (intro hc; (try simp [hnt] at hc); (try (exfalso; omega))) | ((first | refine callP_mk (k1) ?_ | (refine callP_wk (k1) ?_ ?_; (· (simp; done)))); try simp [hnt]) | (refine ⟨?_, ?_⟩; · omega) | omega | apply_assumption -exfalso -symm | (exfalso; omega)))
  · rw [hn] at k1
    have k2 := k2 hn
    obtain ⟨cc, hcc⟩ : ∃ cc, cc = capsI (madeG es) := ⟨_, rfl⟩
    rw [← hcc] at k2 ⊢
    by_cases h0 : cc = 0
    · simp only [h0, if_true, dGr] at k2 ⊢
      (repeat (first | refine DW_seq fun K hK => ?_ | (refine DW_r anWE416 Tryz.mixed (by kernel_rfl) ?_; simp [anWE416, hnt]; try simp (disch := omega) only [wrap64_in]) | refine DW_block ?_ | (refine DW_if ?_ ?_ ?_; (· (simp [hnt]; done)); (try (rotate_left; (· (intro hc; (try simp [hnt] at hc); done))))) | (refine DW_ret ?_; simp [Tryz.results16, hnt]) | ((first | refine DW_exit ?_ | refine DW_skip ?_); simp [hnt]) | (intro hc; (try simp [hnt] at hc); (try (exfalso; omega))) | ((first | refine callP_mk (k1) ?_ | refine callP_mk (k2) ?_ | (refine callP_wk (k1) ?_ ?_; (· (simp; done))) | (refine callP_wk (k2) ?_ ?_; (· (simp; done)))); try simp [hnt]) | (refine ⟨?_, ?_⟩; · omega) | omega | apply_assumption -exfalso -symm | (exfalso; omega)))
    · simp only [h0, if_false] at k2 ⊢
      (repeat (first | refine DW_seq fun K hK => ?_ | (refine DW_r anWE416 Tryz.mixed (by kernel_rfl) ?_; simp [anWE416, hnt]; try simp (disch := omega) only [wrap64_in]) | refine DW_block ?_ | (refine DW_if ?_ ?_ ?_; (· (simp [hnt]; done)); (try (rotate_left; (· (intro hc; (try simp [hnt] at hc); done))))) | (refine DW_ret ?_; simp [Tryz.results16, hnt]) | ((first | refine DW_exit ?_ | refine DW_skip ?_); simp [hnt]) | (intro hc; (try simp [hnt] at hc); (try (exfalso; omega))) | ((first | refine callP_mk (k1) ?_ | refine callP_mk (k2) ?_ | (refine callP_wk (k1) ?_ ?_; (· (simp; done))) | (refine callP_wk (k2) ?_ ?_; (· (simp; done)))); try simp [hnt]) | (refine ⟨?_, ?_⟩; · omega) | omega | apply_assumption -exfalso -symm | (exfalso; omega)))
def anWE46 : Ann := ⟨[], []⟩
theorem edges6_pure (es : List Edge) : DPure Tryz.prog 6 [dEds es] (ofD es) := by
  have k1 := of16_pure es
  unfold ofD madeD at *
  refine DPure_introF [] (fn := Tryz.f6) Tryz.func6 rfl Tryz.call6 (by simp [Tryz.ntmps6]) (by split <;> (try split) <;> simp [mx, mxL]) ?_
  intro hwf B hnt
  simp only [Tryz.ntmps6] at hnt
  clear hwf
  simp only [argS]
  cases hn : namedB ⟨[], es⟩
  · simp only [hn, Bool.false_eq_true, if_false] at k1 ⊢
    (repeat (first | refine DW_seq fun K hK => ?_ | (refine DW_r anWE46 Tryz.mixed (by kernel_rfl) ?_; simp [anWE46, hnt]; try simp (disch := omega) only [wrap64_in]) | refine DW_block ?_ | (refine DW_if ?_ ?_ ?_; (· (simp [hnt]; done)); (try (rotate_left; (· (intro hc; (try simp [hnt] at hc); done))))) | (refine DW_ret ?_; simp [Tryz.results6, hnt]) | ((first | refine DW_exit ?_ | refine DW_skip ?_); simp [hnt]) | (intro hc; (try simp [hnt] at hc); (try (exfalso; omega))) | ((first | refine callP_mk (k1) ?_ | (refine callP_wk (k1) ?_ ?_; (· (simp; done)))); try simp [hnt]) | (refine ⟨?_, ?_⟩; · omega) | omega | apply_assumption -exfalso -symm | (exfalso; omega)))
  · simp only [hn, if_true] at k1 ⊢
    by_cases h0 : capsI (madeG es) = 0
    · simp only [h0, if_true, dGr] at k1 ⊢
      (repeat (first | refine DW_seq fun K hK => ?_ | (refine DW_r anWE46 Tryz.mixed (by kernel_rfl) ?_; simp [anWE46, hnt]; try simp (disch := omega) only [wrap64_in]) | refine DW_block ?_ | (refine DW_if ?_ ?_ ?_; (· (simp [hnt]; done)); (try (rotate_left; (· (intro hc; (try simp [hnt] at hc); done))))) | (refine DW_ret ?_; simp [Tryz.results6, hnt]) | ((first | refine DW_exit ?_ | refine DW_skip ?_); simp [hnt]) | (intro hc; (try simp [hnt] at hc); (try (exfalso; omega))) | ((first | refine callP_mk (k1) ?_ | (refine callP_wk (k1) ?_ ?_; (· (simp; done)))); try simp [hnt]) | (refine ⟨?_, ?_⟩; · omega) | omega | apply_assumption -exfalso -symm | (exfalso; omega)))
    · simp only [h0, if_false] at k1 ⊢
      (repeat (first | refine DW_seq fun K hK => ?_ | (refine DW_r anWE46 Tryz.mixed (by kernel_rfl) ?_; simp [anWE46, hnt]; try simp (disch := omega) only [wrap64_in]) | refine DW_block ?_ | (refine DW_if ?_ ?_ ?_; (· (simp [hnt]; done)); (try (rotate_left; (· (intro hc; (try simp [hnt] at hc); done))))) | (refine DW_ret ?_; simp [Tryz.results6, hnt]) | ((first | refine DW_exit ?_ | refine DW_skip ?_); simp [hnt]) | (intro hc; (try simp [hnt] at hc); (try (exfalso; omega))) | ((first | refine callP_mk (k1) ?_ | (refine callP_wk (k1) ?_ ?_; (· (simp; done)))); try simp [hnt]) | (refine ⟨?_, ?_⟩; · omega) | omega | apply_assumption -exfalso -symm | (exfalso; omega)))
end Go.Proofs.YtffdjbdokgbibaaGreat
end

section
/- the graph of a way's edges: the document's; graphs held against each other -/


set_option linter.unusedSimpArgs false
set_option linter.unusedVariables false
namespace Go.Proofs.YtffdjbdokgbibaaGreat
open Go Go.Dm
attribute [local irreducible] DW callP callS
set_option maxRecDepth 100000

def anWE529 : Ann := ⟨[11], []⟩
set_option maxHeartbeats 4000000 in
theorem sorted29_pure : ∀ (n : Nat) (l : List Edge), l.length = n → l.length * 48 ≤ 150000000000000 → DPure Tryz.prog 29 [dEds l] (dEds (uniqC eCmp l)) := by
  intro n
  induction n using Nat.strongRecOn with
  | ind n ih =>
  intro l hn hsz
  by_cases h2 : l.length < 2
  · refine DPure_introF [11] (fn := Tryz.f29) Tryz.func29 rfl Tryz.call29 (by simp [Tryz.ntmps29]) (by simp [mx]) ?_
    intro hwf B hnt
    simp only [Tryz.ntmps29] at hnt
    clear hwf
    simp only [argS]
    rw [uniqC_small ordE h2]
    have h2' : (l.length : Int) < 2 := by omega
    have hl9 : l.length ≤ 9223372036854775807 := by omega
    (repeat (first | refine DW_seq fun K hK => ?_ | (refine DW_r anWE529 Tryz.mixed (by kernel_rfl) ?_; simp [anWE529, hnt, h2, h2', hsz, hl9]; try simp (disch := omega) only [wrap64_in]) | refine DW_block ?_ | (refine DW_if ?_ ?_ ?_; (· (simp [hnt, h2, h2', hsz, hl9]; done)); (try (rotate_left; (· (intro hc; (try simp [hnt, h2, h2', hsz, hl9] at hc); done))))) | (refine DW_ret ?_; simp [Tryz.results29, hnt, h2, h2', hsz, hl9]) | ((first | refine DW_exit ?_ | refine DW_skip ?_); simp [hnt, h2, h2', hsz, hl9]) | (intro hc; (try simp [hnt, h2, h2', hsz, hl9] at hc); (try (exfalso; omega))) | (refine ⟨?_, ?_⟩; · omega) | omega | apply_assumption -exfalso -symm | (exfalso; omega)))
  · refine DPure_introF [50] (fn := Tryz.f29) Tryz.func29 rfl Tryz.call29 (by simp [Tryz.ntmps29]) (by simp [mx]) ?_
    intro hwf B hnt
    simp only [Tryz.ntmps29] at hnt
    clear hwf
    simp only [argS]
    obtain ⟨h, hh⟩ : ∃ h, h = l.length / 2 := ⟨_, rfl⟩
    have i1 := ih (l.take h).length (by rw [List.length_take]; omega) (l.take h) rfl (by rw [List.length_take]; omega)
    have i2 := ih (l.drop h).length (by rw [List.length_drop]; omega) (l.drop h) rfl (by rw [List.length_drop]; omega)
    have u1 := uniqC_len eCmp (l.take h)
    have u2 := uniqC_len eCmp (l.drop h)
    rw [List.length_take] at u1
    rw [List.length_drop] at u2
    have hm := mergeC_uniq ordE (l.take h) (l.drop h)
    rw [List.take_append_drop] at hm
    obtain ⟨R, hR⟩ : ∃ R, R = uniqC eCmp l := ⟨_, rfl⟩
    rw [← hR] at hm ⊢
    clear hR
    obtain ⟨a, ha⟩ : ∃ a, a = uniqC eCmp (l.take h) := ⟨_, rfl⟩
    obtain ⟨b, hb⟩ : ∃ b, b = uniqC eCmp (l.drop h) := ⟨_, rfl⟩
    rw [← ha] at i1 u1 hm
    rw [← hb] at i2 u2 hm
    clear ha hb
    have hab : (a.length + b.length) * 48 ≤ 150000000000000 := Nat.le_trans (Nat.mul_le_mul_right 48 (by omega)) hsz
    have h2' : ¬ (l.length : Int) < 2 := by omega
    have w1 : ((l.length : Int)).tdiv 2 = h := by rw [Int.tdiv_eq_ediv_of_nonneg (by omega), hh]; omega
    have w2 : IntKind.i64.wrap (h : Int) = h := wrap64_in (by omega) (by omega)
    have w3 : (h : Int) ≤ l.length := by omega
    have w4 : h ≤ l.length := by omega
    have la : a.length < 9223372036854775807 := by omega
    have lb : b.length < 9223372036854775807 := by omega
    rw [dEds, List.map_take] at i1
    have t1 : (l.map dEdge).take (l.length - h + h) = l.map dEdge := List.take_of_length_le (by simp; omega)
    have t2 : List.take (l.length - h) (List.drop h (l.map dEdge)) = List.drop h (l.map dEdge) := List.take_of_length_le (by simp)
    rw [dEds, List.map_drop] at i2
    (repeat (first | refine DW_seq fun K hK => ?_ | (refine DW_r anWE529 Tryz.mixed (by kernel_rfl) ?_; simp [anWE529, hnt, h2, h2', w1, w2, w3, w4, t1, t2]; try simp (disch := omega) only [wrap64_in]) | refine DW_block ?_ | (refine DW_if ?_ ?_ ?_; (· (simp [hnt, h2, h2', w1, w2, w3, w4, t1, t2]; done)); (try (rotate_left; (· (intro hc; (try simp [hnt, h2, h2', w1, w2, w3, w4, t1, t2] at hc); done))))) | (refine DW_ret ?_; simp [Tryz.results29, hnt, h2, h2', w1, w2, w3, w4, t1, t2]) | ((first | refine DW_exit ?_ | refine DW_skip ?_); simp [hnt, h2, h2', w1, w2, w3, w4, t1, t2]) | (intro hc; (try simp [hnt, h2, h2', w1, w2, w3, w4, t1, t2] at hc); (try (exfalso; omega))) | ((first | refine callP_mk (i1) ?_ | refine callP_mk (i2) ?_ | (refine callP_wk (i1) ?_ ?_; (· (simp; done))) | (refine callP_wk (i2) ?_ ?_; (· (simp; done)))); try simp [hnt, h2, h2', w1, w2, w3, w4, t1, t2]) | (refine ⟨?_, ?_⟩; · omega) | omega | apply_assumption -exfalso -symm | (exfalso; omega)))
    clear i1 i2 t1 t2 w1 w2 w3 w4 u1 u2 ih hn
    refine DW_adoptS 5 50 40 3 48 (by simp [hnt, Tryz.results29, anWE529]) (fun n5 => ?_)
    refine DW_loop (X := {x : Nat × Nat × List Edge // x.1 ≤ a.length ∧ x.2.1 ≤ b.length ∧ x.2.2 ++ mergeC eCmp (a.drop x.1) (b.drop x.2.1) = R ∧ x.2.2.length ≤ x.1 + x.2.1})
      (fun x => ⟨[(3, dEds a), (4, dEds b), (5, .osl 50 1), (6, .int .i64 x.1.1), (7, .int .i64 x.1.2.1)], [⟨50, 1, .row 40 3 48 (x.1.2.2.map dEdge)⟩]⟩) (fun x => (a.length - x.1.1) + (b.length - x.1.2.1)) ⟨(0, 0, []), by simp [hm]⟩ (Sub.lit (by simp)) ?_
    rintro ⟨⟨i, j, out⟩, hi, hj, hw, hl⟩
    simp only at hi hj hw hl ⊢
    clear hm
    have z1 : (i < a.length ∨ j < b.length) → (out.length + 1) * 48 ≤ 150000000000000 := fun h => Nat.le_trans (Nat.mul_le_mul_right 48 (by omega)) hab
    have z2 : (i < a.length ∨ j < b.length) → out.length + 1 ≤ 9223372036854775807 := fun h => by have := z1 h; omega
    by_cases h1 : i < a.length
    · have z1 := z1 (.inl h1)
      have z2 := z2 (.inl h1)
      obtain ⟨x, hx, hx', _⟩ := at_lt' h1
      rw [drop_cons hx] at hw
      by_cases h2 : j < b.length
      · obtain ⟨y, hy, hy', _⟩ := at_lt' h2
        rw [drop_cons hy] at hw
        have e1 : ((j : Int) == b.length) = false := by simp; omega
        have kb := before_pure x y
        simp only [dEdge] at kb
        unfold mergeC at hw
        cases hl1 : eLess x y
        · rw [if_neg (fun hh => by rw [eCmp_neg, hl1] at hh; simp at hh)] at hw
          rw [hl1] at kb
          by_cases he : x = y
          · rw [if_pos ((ordE.eq0 _ _).2 he)] at hw
            subst he
            (repeat (first | refine DW_seq fun K hK => ?_ | (refine DW_r anWE529 Tryz.mixed (by kernel_rfl) ?_; simp [anWE529, hnt, dEdge, h1, h2, hx, hx', hy, hy', e1, z1, z2]; try simp (disch := omega) only [wrap64_in]) | refine DW_block ?_ | (refine DW_if ?_ ?_ ?_; (· (simp [hnt, dEdge, h1, h2, hx, hx', hy, hy', e1, z1, z2]; done)); (try (rotate_left; (· (intro hc; (try simp [hnt, dEdge, h1, h2, hx, hx', hy, hy', e1, z1, z2] at hc); done))))) | (refine DW_ret ?_; simp [Tryz.results29, hnt, dEdge, h1, h2, hx, hx', hy, hy', e1, z1, z2]) | ((first | refine DW_exit ?_ | refine DW_skip ?_); simp [hnt, dEdge, h1, h2, hx, hx', hy, hy', e1, z1, z2]) | (intro hc; (try simp [hnt, dEdge, h1, h2, hx, hx', hy, hy', e1, z1, z2] at hc); (try (exfalso; omega))) | ((first | refine callP_mk (kb) ?_ | (refine callP_wk (kb) ?_ ?_; (· (simp; done)))); try simp [hnt, dEdge, h1, h2, hx, hx', hy, hy', e1, z1, z2]) | (refine ⟨?_, ?_⟩; · omega) | omega | apply_assumption -exfalso -symm | (exfalso; omega)))
            refine Again.mk ⟨(i + 1, j + 1, out ++ [x]), show i + 1 ≤ a.length ∧ j + 1 ≤ b.length ∧ (out ++ [x]) ++ mergeC eCmp (a.drop (i + 1)) (b.drop (j + 1)) = R ∧ (out ++ [x]).length ≤ (i + 1) + (j + 1) from ⟨by omega, by omega, by rw [List.append_assoc]; exact hw, by simp; omega⟩⟩ (Sub.lit (by simp [dEdge])) (by simp; omega)
            (repeat (first | refine DW_seq fun K hK => ?_ | (refine DW_r anWE529 Tryz.mixed (by kernel_rfl) ?_; simp [anWE529, hnt]; try simp (disch := omega) only [wrap64_in]) | refine DW_block ?_ | (refine DW_if ?_ ?_ ?_; (· (simp [hnt]; done)); (try (rotate_left; (· (intro hc; (try simp [hnt] at hc); done))))) | (refine DW_ret ?_; simp [Tryz.results29, hnt]) | ((first | refine DW_exit ?_ | refine DW_skip ?_); simp [hnt]) | (intro hc; (try simp [hnt] at hc); (try (exfalso; omega))) | ((first | refine callP_mk (kb) ?_ | (refine callP_wk (kb) ?_ ?_; (· (simp; done)))); try simp [hnt]) | (refine ⟨?_, ?_⟩; · omega) | omega | apply_assumption -exfalso -symm | (exfalso; omega)))
          · rw [if_neg (fun hh => he ((ordE.eq0 _ _).1 hh))] at hw
            have he' := edge_ne he
            (repeat (first | refine DW_seq fun K hK => ?_ | (refine DW_r anWE529 Tryz.mixed (by kernel_rfl) ?_; simp [anWE529, hnt, dEdge, h1, h2, hx, hx', hy, hy', e1, he', z1, z2]; try simp (disch := omega) only [wrap64_in]) | refine DW_block ?_ | (refine DW_if ?_ ?_ ?_; (· (simp [hnt, dEdge, h1, h2, hx, hx', hy, hy', e1, he', z1, z2]; done)); (try (rotate_left; (· (intro hc; (try simp [hnt, dEdge, h1, h2, hx, hx', hy, hy', e1, he', z1, z2] at hc); done))))) | (refine DW_ret ?_; simp [Tryz.results29, hnt, dEdge, h1, h2, hx, hx', hy, hy', e1, he', z1, z2]) | ((first | refine DW_exit ?_ | refine DW_skip ?_); simp [hnt, dEdge, h1, h2, hx, hx', hy, hy', e1, he', z1, z2]) | (intro hc; (try simp [hnt, dEdge, h1, h2, hx, hx', hy, hy', e1, he', z1, z2] at hc); (try (exfalso; omega))) | ((first | refine callP_mk (kb) ?_ | (refine callP_wk (kb) ?_ ?_; (· (simp; done)))); try simp [hnt, dEdge, h1, h2, hx, hx', hy, hy', e1, he', z1, z2]) | (refine ⟨?_, ?_⟩; · omega) | omega | apply_assumption -exfalso -symm | (exfalso; omega)))
            refine Again.mk ⟨(i, j + 1, out ++ [y]), show i ≤ a.length ∧ j + 1 ≤ b.length ∧ (out ++ [y]) ++ mergeC eCmp (a.drop i) (b.drop (j + 1)) = R ∧ (out ++ [y]).length ≤ i + (j + 1) from ⟨by omega, by omega, by rw [drop_cons hx, List.append_assoc]; exact hw, by simp; omega⟩⟩ (Sub.lit (by simp [dEdge])) (by simp; omega)
            (repeat (first | refine DW_seq fun K hK => ?_ | (refine DW_r anWE529 Tryz.mixed (by kernel_rfl) ?_; simp [anWE529, hnt]; try simp (disch := omega) only [wrap64_in]) | refine DW_block ?_ | (refine DW_if ?_ ?_ ?_; (· (simp [hnt]; done)); (try (rotate_left; (· (intro hc; (try simp [hnt] at hc); done))))) | (refine DW_ret ?_; simp [Tryz.results29, hnt]) | ((first | refine DW_exit ?_ | refine DW_skip ?_); simp [hnt]) | (intro hc; (try simp [hnt] at hc); (try (exfalso; omega))) | ((first | refine callP_mk (kb) ?_ | (refine callP_wk (kb) ?_ ?_; (· (simp; done)))); try simp [hnt]) | (refine ⟨?_, ?_⟩; · omega) | omega | apply_assumption -exfalso -symm | (exfalso; omega)))
        · rw [if_pos (eCmp_neg.2 hl1)] at hw
          rw [hl1] at kb
          (repeat (first | refine DW_seq fun K hK => ?_ | (refine DW_r anWE529 Tryz.mixed (by kernel_rfl) ?_; simp [anWE529, hnt, dEdge, h1, h2, hx, hx', hy, hy', e1, z1, z2]; try simp (disch := omega) only [wrap64_in]) | refine DW_block ?_ | (refine DW_if ?_ ?_ ?_; (· (simp [hnt, dEdge, h1, h2, hx, hx', hy, hy', e1, z1, z2]; done)); (try (rotate_left; (· (intro hc; (try simp [hnt, dEdge, h1, h2, hx, hx', hy, hy', e1, z1, z2] at hc); done))))) | (refine DW_ret ?_; simp [Tryz.results29, hnt, dEdge, h1, h2, hx, hx', hy, hy', e1, z1, z2]) | ((first | refine DW_exit ?_ | refine DW_skip ?_); simp [hnt, dEdge, h1, h2, hx, hx', hy, hy', e1, z1, z2]) | (intro hc; (try simp [hnt, dEdge, h1, h2, hx, hx', hy, hy', e1, z1, z2] at hc); (try (exfalso; omega))) | ((first | refine callP_mk (kb) ?_ | (refine callP_wk (kb) ?_ ?_; (· (simp; done)))); try simp [hnt, dEdge, h1, h2, hx, hx', hy, hy', e1, z1, z2]) | (refine ⟨?_, ?_⟩; · omega) | omega | apply_assumption -exfalso -symm | (exfalso; omega)))
          refine Again.mk ⟨(i + 1, j, out ++ [x]), show i + 1 ≤ a.length ∧ j ≤ b.length ∧ (out ++ [x]) ++ mergeC eCmp (a.drop (i + 1)) (b.drop j) = R ∧ (out ++ [x]).length ≤ (i + 1) + j from ⟨by omega, by omega, by rw [drop_cons hy, List.append_assoc]; exact hw, by simp; omega⟩⟩ (Sub.lit (by simp [dEdge])) (by simp; omega)
          (repeat (first | refine DW_seq fun K hK => ?_ | (refine DW_r anWE529 Tryz.mixed (by kernel_rfl) ?_; simp [anWE529, hnt]; try simp (disch := omega) only [wrap64_in]) | refine DW_block ?_ | (refine DW_if ?_ ?_ ?_; (· (simp [hnt]; done)); (try (rotate_left; (· (intro hc; (try simp [hnt] at hc); done))))) | (refine DW_ret ?_; simp [Tryz.results29, hnt]) | ((first | refine DW_exit ?_ | refine DW_skip ?_); simp [hnt]) | (intro hc; (try simp [hnt] at hc); (try (exfalso; omega))) | ((first | refine callP_mk (kb) ?_ | (refine callP_wk (kb) ?_ ?_; (· (simp; done)))); try simp [hnt]) | (refine ⟨?_, ?_⟩; · omega) | omega | apply_assumption -exfalso -symm | (exfalso; omega)))
      · have hjj : j = b.length := by omega
        subst hjj
        rw [List.drop_length] at hw
        unfold mergeC at hw
        (repeat (first | refine DW_seq fun K hK => ?_ | (refine DW_r anWE529 Tryz.mixed (by kernel_rfl) ?_; simp [anWE529, hnt, dEdge, h1, h2, hx, hx', z1, z2]; try simp (disch := omega) only [wrap64_in]) | refine DW_block ?_ | (refine DW_if ?_ ?_ ?_; (· (simp [hnt, dEdge, h1, h2, hx, hx', z1, z2]; done)); (try (rotate_left; (· (intro hc; (try simp [hnt, dEdge, h1, h2, hx, hx', z1, z2] at hc); done))))) | (refine DW_ret ?_; simp [Tryz.results29, hnt, dEdge, h1, h2, hx, hx', z1, z2]) | ((first | refine DW_exit ?_ | refine DW_skip ?_); simp [hnt, dEdge, h1, h2, hx, hx', z1, z2]) | (intro hc; (try simp [hnt, dEdge, h1, h2, hx, hx', z1, z2] at hc); (try (exfalso; omega))) | (refine ⟨?_, ?_⟩; · omega) | omega | apply_assumption -exfalso -symm | (exfalso; omega)))
        refine Again.mk ⟨(i + 1, b.length, out ++ [x]), show i + 1 ≤ a.length ∧ b.length ≤ b.length ∧ (out ++ [x]) ++ mergeC eCmp (a.drop (i + 1)) (b.drop b.length) = R ∧ (out ++ [x]).length ≤ (i + 1) + b.length from ⟨by omega, by omega, by rw [List.drop_length, List.append_assoc]; exact hw, by simp; omega⟩⟩ (Sub.lit (by simp [dEdge])) (by simp; omega)
        (repeat (first | refine DW_seq fun K hK => ?_ | (refine DW_r anWE529 Tryz.mixed (by kernel_rfl) ?_; simp [anWE529, hnt]; try simp (disch := omega) only [wrap64_in]) | refine DW_block ?_ | (refine DW_if ?_ ?_ ?_; (· (simp [hnt]; done)); (try (rotate_left; (· (intro hc; (try simp [hnt] at hc); done))))) | (refine DW_ret ?_; simp [Tryz.results29, hnt]) | ((first | refine DW_exit ?_ | refine DW_skip ?_); simp [hnt]) | (intro hc; (try simp [hnt] at hc); (try (exfalso; omega))) | (refine ⟨?_, ?_⟩; · omega) | omega | apply_assumption -exfalso -symm | (exfalso; omega)))
    · have hii : i = a.length := by omega
      subst hii
      rw [List.drop_length] at hw
      by_cases h2 : j < b.length
      · have z1 := z1 (.inr h2)
        have z2 := z2 (.inr h2)
        obtain ⟨y, hy, hy', _⟩ := at_lt' h2
        rw [drop_cons hy] at hw
        unfold mergeC at hw
        have e1 : ((j : Int) == b.length) = false := by simp; omega
        (repeat (first | refine DW_seq fun K hK => ?_ | (refine DW_r anWE529 Tryz.mixed (by kernel_rfl) ?_; simp [anWE529, hnt, dEdge, h1, h2, hy, hy', e1, z1, z2]; try simp (disch := omega) only [wrap64_in]) | refine DW_block ?_ | (refine DW_if ?_ ?_ ?_; (· (simp [hnt, dEdge, h1, h2, hy, hy', e1, z1, z2]; done)); (try (rotate_left; (· (intro hc; (try simp [hnt, dEdge, h1, h2, hy, hy', e1, z1, z2] at hc); done))))) | (refine DW_ret ?_; simp [Tryz.results29, hnt, dEdge, h1, h2, hy, hy', e1, z1, z2]) | ((first | refine DW_exit ?_ | refine DW_skip ?_); simp [hnt, dEdge, h1, h2, hy, hy', e1, z1, z2]) | (intro hc; (try simp [hnt, dEdge, h1, h2, hy, hy', e1, z1, z2] at hc); (try (exfalso; omega))) | (refine ⟨?_, ?_⟩; · omega) | omega | apply_assumption -exfalso -symm | (exfalso; omega)))
        refine Again.mk ⟨(a.length, j + 1, out ++ [y]), show a.length ≤ a.length ∧ j + 1 ≤ b.length ∧ (out ++ [y]) ++ mergeC eCmp (a.drop a.length) (b.drop (j + 1)) = R ∧ (out ++ [y]).length ≤ a.length + (j + 1) from ⟨by omega, by omega, by rw [List.drop_length, List.append_assoc]; exact hw, by simp; omega⟩⟩ (Sub.lit (by simp [dEdge])) (by simp; omega)
        (repeat (first | refine DW_seq fun K hK => ?_ | (refine DW_r anWE529 Tryz.mixed (by kernel_rfl) ?_; simp [anWE529, hnt]; try simp (disch := omega) only [wrap64_in]) | refine DW_block ?_ | (refine DW_if ?_ ?_ ?_; (· (simp [hnt]; done)); (try (rotate_left; (· (intro hc; (try simp [hnt] at hc); done))))) | (refine DW_ret ?_; simp [Tryz.results29, hnt]) | ((first | refine DW_exit ?_ | refine DW_skip ?_); simp [hnt]) | (intro hc; (try simp [hnt] at hc); (try (exfalso; omega))) | (refine ⟨?_, ?_⟩; · omega) | omega | apply_assumption -exfalso -symm | (exfalso; omega)))
      · have hjj : j = b.length := by omega
        subst hjj
        rw [List.drop_length] at hw
        have hm0 : mergeC eCmp [] [] = [] := by unfold mergeC; rfl
        rw [hm0, List.append_nil] at hw
        subst hw
        (repeat (first | refine DW_seq fun K hK => ?_ | (refine DW_r anWE529 Tryz.mixed (by kernel_rfl) ?_; simp [anWE529, hnt, h1, h2]; try simp (disch := omega) only [wrap64_in]) | refine DW_block ?_ | (refine DW_if ?_ ?_ ?_; (· (simp [hnt, h1, h2]; done)); (try (rotate_left; (· (intro hc; (try simp [hnt, h1, h2] at hc); done))))) | (refine DW_ret ?_; simp [Tryz.results29, hnt, h1, h2]) | ((first | refine DW_exit ?_ | refine DW_skip ?_); simp [hnt, h1, h2]) | (intro hc; (try simp [hnt, h1, h2] at hc); (try (exfalso; omega))) | (refine ⟨?_, ?_⟩; · omega) | omega | apply_assumption -exfalso -symm | (exfalso; omega)))
end Go.Proofs.YtffdjbdokgbibaaGreat
end

section
/- the document's graph of a way's edges; graphs held against each other; ways that rise -/

set_option linter.unusedSimpArgs false
set_option linter.unusedVariables false
namespace Go.Proofs.YtffdjbdokgbibaaGreat
open Go Go.Dm
attribute [local irreducible] DW callP callS
set_option maxRecDepth 100000

def anWE618 : Ann := ⟨[10], [⟨6, [8], [], []⟩]⟩
set_option maxHeartbeats 2000000 in
theorem made18_pure (es : List Edge) (hn : namedB ⟨[], es⟩ = true) : DPure Tryz.prog 18 [.nilsl, dEds es] (madeD es) := by
  obtain ⟨cc, hcc⟩ : ∃ cc, cc = capsI (madeG es) := ⟨_, rfl⟩
  obtain ⟨N, hN⟩ : ∃ N, N = uniqS (endsL es) := ⟨_, rfl⟩
  obtain ⟨E, hE⟩ : ∃ E, E = uniqC eCmp es := ⟨_, rfl⟩
  have hR : madeD es = if cc = 0 then .tup [.agg [dStrs N, dEds E], .int .i64 0] else .tup [.agg [.nilsl, .nilsl], .int .i64 cc] := by unfold madeD; rw [← hcc, hN, hE]; rfl
  rw [hR]
  have k3 := caps109_pure (madeG es) (named_made hn)
  rw [← hcc] at k3
  unfold madeG at k3
  rw [← hN, ← hE] at k3
  simp only [dGr] at k3
  refine DPure_introF [] (fn := Tryz.f18) Tryz.func18 rfl Tryz.call18 (by simp [Tryz.ntmps18]) (by split <;> simp [mx, mxL]) ?_
  intro hwf B hnt
  simp only [Tryz.ntmps18] at hnt
  have hsz : es.length * 48 ≤ 150000000000000 := by have := hwf.2.1; simp only [wfD, List.length_map] at this; exact this.1
  clear hwf
  have k1 := texts_pure _ (endsL es) rfl (by rw [endsL_len]; omega)
  rw [← hN] at k1
  have k2 := sorted29_pure _ es rfl hsz
  rw [← hE] at k2
  clear hR hcc hN hE
  simp only [argS]
  (repeat (first | refine DW_seq fun K hK => ?_ | (refine DW_r anWE618 Tryz.mixed (by kernel_rfl) ?_; simp [anWE618, hnt]; try simp (disch := omega) only [wrap64_in]) | refine DW_block ?_ | (refine DW_if ?_ ?_ ?_; (· (simp [hnt]; done)); (try (rotate_left; (· (intro hc; (try simp [hnt] at hc); done))))) | (refine DW_ret ?_; simp [Tryz.results18, hnt]) | ((first | refine DW_exit ?_ | refine DW_skip ?_); simp [hnt]) | (intro hc; (try simp [hnt] at hc); (try (exfalso; omega))) | ((first | refine callP_mk (k1) ?_ | refine callP_mk (k2) ?_ | refine callP_mk (k3) ?_ | (refine callP_wk (k1) ?_ ?_; (· (simp; done))) | (refine callP_wk (k2) ?_ ?_; (· (simp; done))) | (refine callP_wk (k3) ?_ ?_; (· (simp; done)))); try simp [hnt]) | (refine ⟨?_, ?_⟩; · omega) | omega | apply_assumption -exfalso -symm | (exfalso; omega)))
  refine DW_loop (X := {k : Nat // k ≤ es.length}) (fun k => ⟨[(1, dEds es), (4, .bx 4 1 0), (6, .osl 10 1), (7, .int .i64 k.1)], [⟨4, 1, .box [.nilsl, .nilsl]⟩, ⟨10, 1, .row 9 1 16 ((endsL (es.take k.1)).map dStr)⟩]⟩) (fun k => es.length - k.1) ⟨0, by omega⟩ (Sub.lit (by simp [endsL])) ?_
  rintro ⟨k, hk⟩
  simp only
  by_cases hlt : k < es.length
  · obtain ⟨x, hx, hx', hxm⟩ := at_lt' hlt
    have htk := endsL_take hx
    have hl1 : (endsL (es.take k)).length = 2 * k := by rw [endsL_len, List.length_take]; omega
    obtain ⟨T, hT⟩ : ∃ T, T = endsL (es.take k) := ⟨_, rfl⟩
    rw [← hT] at htk hl1 ⊢
    have z1 : (2 * k + 2) * 16 ≤ 150000000000000 := by omega
    have z2 : 2 * k + 2 ≤ 9223372036854775807 := by omega
    have hr2 : (([0, 1] : List Nat) = List.range 2) = True := eq_true rfl
    (repeat (first | refine DW_seq fun K hK => ?_ | (refine DW_r anWE618 Tryz.mixed (by kernel_rfl) ?_; simp [anWE618, hnt, dEdge, hlt, hx, hx', hl1, z1, z2, hr2]; try simp (disch := omega) only [wrap64_in]) | refine DW_block ?_ | (refine DW_if ?_ ?_ ?_; (· (simp [hnt, dEdge, hlt, hx, hx', hl1, z1, z2, hr2]; done)); (try (rotate_left; (· (intro hc; (try simp [hnt, dEdge, hlt, hx, hx', hl1, z1, z2, hr2] at hc); done))))) | (refine DW_ret ?_; simp [Tryz.results18, hnt, dEdge, hlt, hx, hx', hl1, z1, z2, hr2]) | ((first | refine DW_exit ?_ | refine DW_skip ?_); simp [hnt, dEdge, hlt, hx, hx', hl1, z1, z2, hr2]) | (intro hc; (try simp [hnt, dEdge, hlt, hx, hx', hl1, z1, z2, hr2] at hc); (try (exfalso; omega))) | ((first | refine callP_mk (k1) ?_ | refine callP_mk (k2) ?_ | refine callP_mk (k3) ?_ | (refine callP_wk (k1) ?_ ?_; (· (simp; done))) | (refine callP_wk (k2) ?_ ?_; (· (simp; done))) | (refine callP_wk (k3) ?_ ?_; (· (simp; done)))); try simp [hnt, dEdge, hlt, hx, hx', hl1, z1, z2, hr2]) | (refine ⟨?_, ?_⟩; · omega) | omega | apply_assumption -exfalso -symm | (exfalso; omega)))
    refine Again.mk ⟨k + 1, by omega⟩ (Sub.lit (by simp [htk, dStr])) (by simp; omega)
    (repeat (first | refine DW_seq fun K hK => ?_ | (refine DW_r anWE618 Tryz.mixed (by kernel_rfl) ?_; simp [anWE618, hnt]; try simp (disch := omega) only [wrap64_in]) | refine DW_block ?_ | (refine DW_if ?_ ?_ ?_; (· (simp [hnt]; done)); (try (rotate_left; (· (intro hc; (try simp [hnt] at hc); done))))) | (refine DW_ret ?_; simp [Tryz.results18, hnt]) | ((first | refine DW_exit ?_ | refine DW_skip ?_); simp [hnt]) | (intro hc; (try simp [hnt] at hc); (try (exfalso; omega))) | ((first | refine callP_mk (k1) ?_ | refine callP_mk (k2) ?_ | refine callP_mk (k3) ?_ | (refine callP_wk (k1) ?_ ?_; (· (simp; done))) | (refine callP_wk (k2) ?_ ?_; (· (simp; done))) | (refine callP_wk (k3) ?_ ?_; (· (simp; done)))); try simp [hnt]) | (refine ⟨?_, ?_⟩; · omega) | omega | apply_assumption -exfalso -symm | (exfalso; omega)))
  · have hkk : k = es.length := by omega
    subst hkk
    rw [List.take_length]
    refine DW_sub (Sub.freezeL [10] _) ?_
    simp [hnt, Tryz.results18, anWE618]
    by_cases h0 : cc = 0
    · (repeat (first | refine DW_seq fun K hK => ?_ | (refine DW_r anWE618 Tryz.mixed (by kernel_rfl) ?_; simp [anWE618, hnt, h0]; try simp (disch := omega) only [wrap64_in]) | refine DW_block ?_ | (refine DW_if ?_ ?_ ?_; (· (simp [hnt, h0]; done)); (try (rotate_left; (· (intro hc; (try simp [hnt, h0] at hc); done))))) | (refine DW_ret ?_; simp [Tryz.results18, hnt, h0]) | ((first | refine DW_exit ?_ | refine DW_skip ?_); simp [hnt, h0]) | (intro hc; (try simp [hnt, h0] at hc); (try (exfalso; omega))) | ((first | refine callP_mk (k1) ?_ | refine callP_mk (k2) ?_ | refine callP_mk (k3) ?_ | (refine callP_wk (k1) ?_ ?_; (· (simp; done))) | (refine callP_wk (k2) ?_ ?_; (· (simp; done))) | (refine callP_wk (k3) ?_ ?_; (· (simp; done)))); try simp [hnt, h0]) | (refine ⟨?_, ?_⟩; · omega) | omega | apply_assumption -exfalso -symm | (exfalso; omega)))
    · have h0' : (cc != 0) = true := by simpa using h0
      (repeat (first | refine DW_seq fun K hK => ?_ | (refine DW_r anWE618 Tryz.mixed (by kernel_rfl) ?_; simp [anWE618, hnt, h0, h0']; try simp (disch := omega) only [wrap64_in]) | refine DW_block ?_ | (refine DW_if ?_ ?_ ?_; (· (simp [hnt, h0, h0']; done)); (try (rotate_left; (· (intro hc; (try simp [hnt, h0, h0'] at hc); done))))) | (refine DW_ret ?_; simp [Tryz.results18, hnt, h0, h0']) | ((first | refine DW_exit ?_ | refine DW_skip ?_); simp [hnt, h0, h0']) | (intro hc; (try simp [hnt, h0, h0'] at hc); (try (exfalso; omega))) | ((first | refine callP_mk (k1) ?_ | refine callP_mk (k2) ?_ | refine callP_mk (k3) ?_ | (refine callP_wk (k1) ?_ ?_; (· (simp; done))) | (refine callP_wk (k2) ?_ ?_; (· (simp; done))) | (refine callP_wk (k3) ?_ ?_; (· (simp; done)))); try simp [hnt, h0, h0']) | (refine ⟨?_, ?_⟩; · omega) | omega | apply_assumption -exfalso -symm | (exfalso; omega)))
def anWE67 : Ann := ⟨[], []⟩
theorem of7_pure (es : List Edge) : DPure Tryz.prog 7 [.nilsl, dEds es] (ofD es) := by
  have k1 := named108_pure [] es
  simp only [dStrs, List.map_nil] at k1
  have k2 := made18_pure es
  unfold madeD at k2
  unfold ofD madeD
  refine DPure_introF [] (fn := Tryz.f7) Tryz.func7 rfl Tryz.call7 (by simp [Tryz.ntmps7]) (by split <;> (try split) <;> simp [mx, mxL]) ?_
  intro hwf B hnt
  simp only [Tryz.ntmps7] at hnt
  clear hwf
  simp only [argS]
  cases hn : namedB ⟨[], es⟩
  · rw [hn] at k1
    (repeat (first | refine DW_seq fun K hK => ?_ | (refine DW_r anWE67 Tryz.mixed (by kernel_rfl) ?_; simp [anWE67, hnt]; try simp (disch := omega) only [wrap64_in]) | refine DW_block ?_ | (refine DW_if ?_ ?_ ?_; (· (simp [hnt]; done)); (try (rotate_left; (· (intro hc; (try simp [hnt] at hc); done))))) | (refine DW_ret ?_; simp [Tryz.results7, hnt]) | ((first | refine DW_exit ?_ | refine DW_skip ?_); simp [hnt]) | (intro hc; (try simp [hnt] at hc); (try (exfalso; omega))) | ((first | refine callP_mk (k1) ?_ | (refine callP_wk (k1) ?_ ?_; (· (simp; done)))); try simp [hnt]) | (refine ⟨?_, ?_⟩; · omega) | omega | apply_assumption -exfalso -symm | (exfalso; omega)))
  · rw [hn] at k1
    have k2 := k2 hn
    obtain ⟨cc, hcc⟩ : ∃ cc, cc = capsI (madeG es) := ⟨_, rfl⟩
    rw [← hcc] at k2 ⊢
    by_cases h0 : cc = 0
    · simp only [h0, if_true, dGr] at k2 ⊢
      (repeat (first | refine DW_seq fun K hK => ?_ | (refine DW_r anWE67 Tryz.mixed (by kernel_rfl) ?_; simp [anWE67, hnt]; try simp (disch := omega) only [wrap64_in]) | refine DW_block ?_ | (refine DW_if ?_ ?_ ?_; (· (simp [hnt]; done)); (try (rotate_left; (· (intro hc; (try simp [hnt] at hc); done))))) | (refine DW_ret ?_; simp [Tryz.results7, hnt]) | ((first | refine DW_exit ?_ | refine DW_skip ?_); simp [hnt]) | (intro hc; (try simp [hnt] at hc); (try (exfalso; omega))) | ((first | refine callP_mk (k1) ?_ | refine callP_mk (k2) ?_ | (refine callP_wk (k1) ?_ ?_; (· (simp; done))) | (refine callP_wk (k2) ?_ ?_; (· (simp; done)))); try simp [hnt]) | (refine ⟨?_, ?_⟩; · omega) | omega | apply_assumption -exfalso -symm | (exfalso; omega)))
    · simp only [h0, if_false] at k2 ⊢
      (repeat (first | refine DW_seq fun K hK => ?_ | (refine DW_r anWE67 Tryz.mixed (by kernel_rfl) ?_; simp [anWE67, hnt]; try simp (disch := omega) only [wrap64_in]) | refine DW_block ?_ | (refine DW_if ?_ ?_ ?_; (· (simp [hnt]; done)); (try (rotate_left; (· (intro hc; (try simp [hnt] at hc); done))))) | (refine DW_ret ?_; simp [Tryz.results7, hnt]) | ((first | refine DW_exit ?_ | refine DW_skip ?_); simp [hnt]) | (intro hc; (try simp [hnt] at hc); (try (exfalso; omega))) | ((first | refine callP_mk (k1) ?_ | refine callP_mk (k2) ?_ | (refine callP_wk (k1) ?_ ?_; (· (simp; done))) | (refine callP_wk (k2) ?_ ?_; (· (simp; done)))); try simp [hnt]) | (refine ⟨?_, ?_⟩; · omega) | omega | apply_assumption -exfalso -symm | (exfalso; omega)))
theorem ofD_form (es : List Edge) : (∃ N E e, ofD es = .tup [.agg [dStrs N, dEds E], .int .i64 e]) ∨ ∃ e, ofD es = .tup [.agg [.nilsl, .nilsl], .int .i64 e] := by
  unfold ofD madeD
  split
  · split
    · exact .inl ⟨_, _, _, rfl⟩
    · exact .inr ⟨_, rfl⟩
  · exact .inr ⟨_, rfl⟩

def anWE619 : Ann := ⟨[], []⟩
theorem sameTexts16_refl (l : List ByteArray) : DPure Tryz.prog 19 [dStrs l, dStrs l] (.bool true) := by
  refine DPure_introF [] (fn := Tryz.f19) Tryz.func19 rfl Tryz.call19 (by simp [Tryz.ntmps19]) (by simp [mx]) ?_
  intro hwf B hnt
  simp only [Tryz.ntmps19] at hnt
  have hl := len_strs hwf.1
  clear hwf
  simp only [argS]
  (repeat (first | refine DW_seq fun K hK => ?_ | (refine DW_r anWE619 Tryz.mixed (by kernel_rfl) ?_; simp [anWE619, hnt]; try simp (disch := omega) only [wrap64_in]) | refine DW_block ?_ | (refine DW_if ?_ ?_ ?_; (· (simp [hnt]; done)); (try (rotate_left; (· (intro hc; (try simp [hnt] at hc); done))))) | (refine DW_ret ?_; simp [Tryz.results19, hnt]) | ((first | refine DW_exit ?_ | refine DW_skip ?_); simp [hnt]) | (intro hc; (try simp [hnt] at hc); (try (exfalso; omega))) | (refine ⟨?_, ?_⟩; · omega) | omega | apply_assumption -exfalso -symm | (exfalso; omega)))
  refine DW_loop (X := {k : Nat // k ≤ l.length}) (fun k => ⟨[(0, dStrs l), (1, dStrs l), (5, .int .i64 k.1)], []⟩) (fun k => l.length - k.1) ⟨0, by simp⟩ (Sub.lit (by simp)) ?_
  rintro ⟨k, hk⟩
  simp only
  by_cases hlt : k < l.length
  · obtain ⟨q, hq, hq', _⟩ := at_lt' hlt
    (repeat (first | refine DW_seq fun K hK => ?_ | (refine DW_r anWE619 Tryz.mixed (by kernel_rfl) ?_; simp [anWE619, hnt, dStr, hlt, hq, hq']; try simp (disch := omega) only [wrap64_in]) | refine DW_block ?_ | (refine DW_if ?_ ?_ ?_; (· (simp [hnt, dStr, hlt, hq, hq']; done)); (try (rotate_left; (· (intro hc; (try simp [hnt, dStr, hlt, hq, hq'] at hc); done))))) | (refine DW_ret ?_; simp [Tryz.results19, hnt, dStr, hlt, hq, hq']) | ((first | refine DW_exit ?_ | refine DW_skip ?_); simp [hnt, dStr, hlt, hq, hq']) | (intro hc; (try simp [hnt, dStr, hlt, hq, hq'] at hc); (try (exfalso; omega))) | (refine ⟨?_, ?_⟩; · omega) | omega | apply_assumption -exfalso -symm | (exfalso; omega)))
    refine Again.mk ⟨k + 1, by omega⟩ (Sub.lit (by simp)) (by simp; omega)
    (repeat (first | refine DW_seq fun K hK => ?_ | (refine DW_r anWE619 Tryz.mixed (by kernel_rfl) ?_; simp [anWE619, hnt]; try simp (disch := omega) only [wrap64_in]) | refine DW_block ?_ | (refine DW_if ?_ ?_ ?_; (· (simp [hnt]; done)); (try (rotate_left; (· (intro hc; (try simp [hnt] at hc); done))))) | (refine DW_ret ?_; simp [Tryz.results19, hnt]) | ((first | refine DW_exit ?_ | refine DW_skip ?_); simp [hnt]) | (intro hc; (try simp [hnt] at hc); (try (exfalso; omega))) | (refine ⟨?_, ?_⟩; · omega) | omega | apply_assumption -exfalso -symm | (exfalso; omega)))
  · have hkk : k = l.length := by omega
    subst hkk
    (repeat (first | refine DW_seq fun K hK => ?_ | (refine DW_r anWE619 Tryz.mixed (by kernel_rfl) ?_; simp [anWE619, hnt]; try simp (disch := omega) only [wrap64_in]) | refine DW_block ?_ | (refine DW_if ?_ ?_ ?_; (· (simp [hnt]; done)); (try (rotate_left; (· (intro hc; (try simp [hnt] at hc); done))))) | (refine DW_ret ?_; simp [Tryz.results19, hnt]) | ((first | refine DW_exit ?_ | refine DW_skip ?_); simp [hnt]) | (intro hc; (try simp [hnt] at hc); (try (exfalso; omega))) | (refine ⟨?_, ?_⟩; · omega) | omega | apply_assumption -exfalso -symm | (exfalso; omega)))
def anWE68 : Ann := ⟨[], []⟩
theorem same8_refl (N : List ByteArray) (E : List Edge) : DPure Tryz.prog 8 [.agg [dStrs N, dEds E], .agg [dStrs N, dEds E]] (.bool true) := by
  refine DPure_introF [] (fn := Tryz.f8) Tryz.func8 rfl Tryz.call8 (by simp [Tryz.ntmps8]) (by simp [mx]) ?_
  intro hwf B hnt
  simp only [Tryz.ntmps8] at hnt
  have hl := len_eds (l := E) (by have := hwf.1; simp only [wfD, wfL] at this; exact this.2.1)
  clear hwf
  simp only [argS]
  have k1 := sameTexts16_refl N
  (repeat (first | refine DW_seq fun K hK => ?_ | (refine DW_r anWE68 Tryz.mixed (by kernel_rfl) ?_; simp [anWE68, hnt]; try simp (disch := omega) only [wrap64_in]) | refine DW_block ?_ | (refine DW_if ?_ ?_ ?_; (· (simp [hnt]; done)); (try (rotate_left; (· (intro hc; (try simp [hnt] at hc); done))))) | (refine DW_ret ?_; simp [Tryz.results8, hnt]) | ((first | refine DW_exit ?_ | refine DW_skip ?_); simp [hnt]) | (intro hc; (try simp [hnt] at hc); (try (exfalso; omega))) | ((first | refine callP_mk (k1) ?_ | (refine callP_wk (k1) ?_ ?_; (· (simp; done)))); try simp [hnt]) | (refine ⟨?_, ?_⟩; · omega) | omega | apply_assumption -exfalso -symm | (exfalso; omega)))
  refine DW_loop (X := {k : Nat // k ≤ E.length}) (fun k => ⟨[(2, .ref [dStrs N, dEds E]), (3, .ref [dStrs N, dEds E]), (5, .int .i64 k.1)], []⟩) (fun k => E.length - k.1) ⟨0, by simp⟩ (Sub.lit (by simp)) ?_
  rintro ⟨k, hk⟩
  simp only
  by_cases hlt : k < E.length
  · obtain ⟨q, hq, hq', _⟩ := at_lt' hlt
    (repeat (first | refine DW_seq fun K hK => ?_ | (refine DW_r anWE68 Tryz.mixed (by kernel_rfl) ?_; simp [anWE68, hnt, dEdge, hlt, hq, hq']; try simp (disch := omega) only [wrap64_in]) | refine DW_block ?_ | (refine DW_if ?_ ?_ ?_; (· (simp [hnt, dEdge, hlt, hq, hq']; done)); (try (rotate_left; (· (intro hc; (try simp [hnt, dEdge, hlt, hq, hq'] at hc); done))))) | (refine DW_ret ?_; simp [Tryz.results8, hnt, dEdge, hlt, hq, hq']) | ((first | refine DW_exit ?_ | refine DW_skip ?_); simp [hnt, dEdge, hlt, hq, hq']) | (intro hc; (try simp [hnt, dEdge, hlt, hq, hq'] at hc); (try (exfalso; omega))) | ((first | refine callP_mk (k1) ?_ | (refine callP_wk (k1) ?_ ?_; (· (simp; done)))); try simp [hnt, dEdge, hlt, hq, hq']) | (refine ⟨?_, ?_⟩; · omega) | omega | apply_assumption -exfalso -symm | (exfalso; omega)))
    refine Again.mk ⟨k + 1, by omega⟩ (Sub.lit (by simp)) (by simp; omega)
    (repeat (first | refine DW_seq fun K hK => ?_ | (refine DW_r anWE68 Tryz.mixed (by kernel_rfl) ?_; simp [anWE68, hnt]; try simp (disch := omega) only [wrap64_in]) | refine DW_block ?_ | (refine DW_if ?_ ?_ ?_; (· (simp [hnt]; done)); (try (rotate_left; (· (intro hc; (try simp [hnt] at hc); done))))) | (refine DW_ret ?_; simp [Tryz.results8, hnt]) | ((first | refine DW_exit ?_ | refine DW_skip ?_); simp [hnt]) | (intro hc; (try simp [hnt] at hc); (try (exfalso; omega))) | ((first | refine callP_mk (k1) ?_ | (refine callP_wk (k1) ?_ ?_; (· (simp; done)))); try simp [hnt]) | (refine ⟨?_, ?_⟩; · omega) | omega | apply_assumption -exfalso -symm | (exfalso; omega)))
  · have hkk : k = E.length := by omega
    subst hkk
    (repeat (first | refine DW_seq fun K hK => ?_ | (refine DW_r anWE68 Tryz.mixed (by kernel_rfl) ?_; simp [anWE68, hnt]; try simp (disch := omega) only [wrap64_in]) | refine DW_block ?_ | (refine DW_if ?_ ?_ ?_; (· (simp [hnt]; done)); (try (rotate_left; (· (intro hc; (try simp [hnt] at hc); done))))) | (refine DW_ret ?_; simp [Tryz.results8, hnt]) | ((first | refine DW_exit ?_ | refine DW_skip ?_); simp [hnt]) | (intro hc; (try simp [hnt] at hc); (try (exfalso; omega))) | ((first | refine callP_mk (k1) ?_ | (refine callP_wk (k1) ?_ ?_; (· (simp; done)))); try simp [hnt]) | (refine ⟨?_, ?_⟩; · omega) | omega | apply_assumption -exfalso -symm | (exfalso; omega)))

/-- ways, one behind the other -/
def dWay (w : List Edge) : List DVal := [dEds w]
abbrev dWs (ws : List (List Edge)) : DVal := .sl 1 24 (ws.map dWay)
@[simp] theorem mx_dWay (s : List Edge) : mxL (dWay s) = 0 := by simp [dWay, mxL, mx]
@[simp] theorem mx_dWs (l : List (List Edge)) : mxR (l.map dWay) = 0 := mxR0 _ mx_dWay l
theorem len_ws {l : List (List Edge)} (h : wfD (dWs l)) : l.length < 9223372036854775807 := by
  simp only [wfD, List.length_map] at h
  omega
theorem rall_succ {n : Nat} (f : Nat → Bool) : (List.range (n + 1)).all f = ((List.range n).all f && f n) := by
  rw [List.range_succ, List.all_append]; simp
theorem rall_stop {n k : Nat} {f : Nat → Bool} (hk : k < n) (h : f k = false) : (List.range n).all f = false := by
  rw [Bool.eq_false_iff]
  intro hh
  rw [List.all_eq_true] at hh
  have := hh k (List.mem_range.2 hk)
  rw [h] at this
  exact absurd this (by simp)
def okW (ws : List (List Edge)) (k : Nat) : Bool := match ws[k]? with
  | none => true
  | some y => decide (k = 0) || match ws[k - 1]? with | none => true | some x => decide (wayC x y < 0)
theorem okW_zero (ws : List (List Edge)) : okW ws 0 = true := by unfold okW; split <;> simp
theorem okW_pos {ws : List (List Edge)} {k : Nat} {x y : List Edge} (h : ws[k + 1]? = some y) (hp : ws[k]? = some x) : okW ws (k + 1) = decide (wayC x y < 0) := by
  unfold okW; rw [h]
  simp only [show k + 1 - 1 = k by omega, hp, show ¬ k + 1 = 0 by omega, decide_false, Bool.false_or]
def riseW (ws : List (List Edge)) : Bool := (List.range ws.length).all (okW ws)
def anWE610 : Ann := ⟨[], []⟩
theorem rise10_pure (ws : List (List Edge)) : DPure Tryz.prog 10 [dWs ws] (.bool (riseW ws)) := by
  refine DPure_introF [] (fn := Tryz.f10) Tryz.func10 rfl Tryz.call10 (by simp [Tryz.ntmps10]) (by simp [mx]) ?_
  intro hwf B hnt
  simp only [Tryz.ntmps10] at hnt
  have hl := len_ws hwf.1
  clear hwf
  simp only [argS]
  obtain ⟨R, hR⟩ : ∃ R, R = riseW ws := ⟨_, rfl⟩
  rw [← hR]
  unfold riseW at hR
  (repeat (first | refine DW_seq fun K hK => ?_ | (refine DW_r anWE610 Tryz.mixed (by kernel_rfl) ?_; simp [anWE610, hnt]; try simp (disch := omega) only [wrap64_in]) | refine DW_block ?_ | (refine DW_if ?_ ?_ ?_; (· (simp [hnt]; done)); (try (rotate_left; (· (intro hc; (try simp [hnt] at hc); done))))) | (refine DW_ret ?_; simp [Tryz.results10, hnt]) | ((first | refine DW_exit ?_ | refine DW_skip ?_); simp [hnt]) | (intro hc; (try simp [hnt] at hc); (try (exfalso; omega))) | (refine ⟨?_, ?_⟩; · omega) | omega | apply_assumption -exfalso -symm | (exfalso; omega)))
  refine DW_loop (X := {k : Nat // (k + 1 ≤ ws.length ∨ k = 0) ∧ (List.range (k + 1)).all (okW ws) = true}) (fun k => ⟨[(0, dWs ws), (3, .int .i64 (k.1 + 1))], []⟩) (fun k => ws.length - k.1) ⟨0, by simp [okW_zero]⟩ (Sub.lit (by simp)) ?_
  rintro ⟨k, hk, hall⟩
  simp only
  by_cases hlt : k + 1 < ws.length
  · obtain ⟨y, hy, hy', _⟩ := at_lt' hlt
    obtain ⟨x, hx, hx', _⟩ := at_lt' (l := ws) (k := k) (by omega)
    have ho := okW_pos hy hx
    have hst := rall_succ (n := k + 1) (okW ws)
    rw [hall, ho, Bool.true_and] at hst
    have k1 := cmp4_pure x y
    have hlt' : (k : Int) + 1 < ws.length := by omega
    have hm2 : k < ws.length := by omega
    have hm4 : IntKind.i64.wrap (k : Int) = k := wrap64_in (by omega) (by omega)
    by_cases hneg : wayC x y < 0
    · rw [decide_eq_true hneg] at hst
      have hng : ¬ (0 : Int) ≤ wayC x y := by omega
      (repeat (first | refine DW_seq fun K hK => ?_ | (refine DW_r anWE610 Tryz.mixed (by kernel_rfl) ?_; simp [anWE610, hnt, dWay, hlt, hlt', hx, hx', hy, hy', hm2, hm4, hng]; try simp (disch := omega) only [wrap64_in]) | refine DW_block ?_ | (refine DW_if ?_ ?_ ?_; (· (simp [hnt, dWay, hlt, hlt', hx, hx', hy, hy', hm2, hm4, hng]; done)); (try (rotate_left; (· (intro hc; (try simp [hnt, dWay, hlt, hlt', hx, hx', hy, hy', hm2, hm4, hng] at hc); done))))) | (refine DW_ret ?_; simp [Tryz.results10, hnt, dWay, hlt, hlt', hx, hx', hy, hy', hm2, hm4, hng]) | ((first | refine DW_exit ?_ | refine DW_skip ?_); simp [hnt, dWay, hlt, hlt', hx, hx', hy, hy', hm2, hm4, hng]) | (intro hc; (try simp [hnt, dWay, hlt, hlt', hx, hx', hy, hy', hm2, hm4, hng] at hc); (try (exfalso; omega))) | ((first | refine callP_mk (k1) ?_ | (refine callP_wk (k1) ?_ ?_; (· (simp; done)))); try simp [hnt, dWay, hlt, hlt', hx, hx', hy, hy', hm2, hm4, hng]) | (refine ⟨?_, ?_⟩; · omega) | omega | apply_assumption -exfalso -symm | (exfalso; omega)))
      refine Again.mk ⟨k + 1, by omega, hst⟩ (Sub.lit (by simp)) (by simp; omega)
      (repeat (first | refine DW_seq fun K hK => ?_ | (refine DW_r anWE610 Tryz.mixed (by kernel_rfl) ?_; simp [anWE610, hnt]; try simp (disch := omega) only [wrap64_in]) | refine DW_block ?_ | (refine DW_if ?_ ?_ ?_; (· (simp [hnt]; done)); (try (rotate_left; (· (intro hc; (try simp [hnt] at hc); done))))) | (refine DW_ret ?_; simp [Tryz.results10, hnt]) | ((first | refine DW_exit ?_ | refine DW_skip ?_); simp [hnt]) | (intro hc; (try simp [hnt] at hc); (try (exfalso; omega))) | ((first | refine callP_mk (k1) ?_ | (refine callP_wk (k1) ?_ ?_; (· (simp; done)))); try simp [hnt]) | (refine ⟨?_, ?_⟩; · omega) | omega | apply_assumption -exfalso -symm | (exfalso; omega)))
    · rw [decide_eq_false hneg] at ho
      have hRf : R = false := by rw [hR]; exact rall_stop hlt ho
      subst hRf
      have hng : (0 : Int) ≤ wayC x y := by omega
      (repeat (first | refine DW_seq fun K hK => ?_ | (refine DW_r anWE610 Tryz.mixed (by kernel_rfl) ?_; simp [anWE610, hnt, dWay, hlt, hlt', hx, hx', hy, hy', hm2, hm4, hng]; try simp (disch := omega) only [wrap64_in]) | refine DW_block ?_ | (refine DW_if ?_ ?_ ?_; (· (simp [hnt, dWay, hlt, hlt', hx, hx', hy, hy', hm2, hm4, hng]; done)); (try (rotate_left; (· (intro hc; (try simp [hnt, dWay, hlt, hlt', hx, hx', hy, hy', hm2, hm4, hng] at hc); done))))) | (refine DW_ret ?_; simp [Tryz.results10, hnt, dWay, hlt, hlt', hx, hx', hy, hy', hm2, hm4, hng]) | ((first | refine DW_exit ?_ | refine DW_skip ?_); simp [hnt, dWay, hlt, hlt', hx, hx', hy, hy', hm2, hm4, hng]) | (intro hc; (try simp [hnt, dWay, hlt, hlt', hx, hx', hy, hy', hm2, hm4, hng] at hc); (try (exfalso; omega))) | ((first | refine callP_mk (k1) ?_ | (refine callP_wk (k1) ?_ ?_; (· (simp; done)))); try simp [hnt, dWay, hlt, hlt', hx, hx', hy, hy', hm2, hm4, hng]) | (refine ⟨?_, ?_⟩; · omega) | omega | apply_assumption -exfalso -symm | (exfalso; omega)))
  · have hRt : R = true := by
      rw [hR]
      rcases hk with hk | hk
      · rw [show ws.length = k + 1 by omega]; exact hall
      · subst hk
        have : ws.length = 0 ∨ ws.length = 1 := by omega
        rcases this with h | h
        · rw [h]; rfl
        · rw [h]; exact hall
    subst hRt
    have hlt' : ¬ (k : Int) + 1 < ws.length := by omega
    (repeat (first | refine DW_seq fun K hK => ?_ | (refine DW_r anWE610 Tryz.mixed (by kernel_rfl) ?_; simp [anWE610, hnt, hlt']; try simp (disch := omega) only [wrap64_in]) | refine DW_block ?_ | (refine DW_if ?_ ?_ ?_; (· (simp [hnt, hlt']; done)); (try (rotate_left; (· (intro hc; (try simp [hnt, hlt'] at hc); done))))) | (refine DW_ret ?_; simp [Tryz.results10, hnt, hlt']) | ((first | refine DW_exit ?_ | refine DW_skip ?_); simp [hnt, hlt']) | (intro hc; (try simp [hnt, hlt'] at hc); (try (exfalso; omega))) | (refine ⟨?_, ?_⟩; · omega) | omega | apply_assumption -exfalso -symm | (exfalso; omega)))
end Go.Proofs.YtffdjbdokgbibaaGreat
end

section
/- CheckWay -/

set_option linter.unusedSimpArgs false
set_option linter.unusedVariables false
namespace Go.Proofs.YtffdjbdokgbibaaGreat
open Go Go.Dm
attribute [local irreducible] DW callP callS
set_option maxRecDepth 100000

def gOne : Edges := ⟨[⟨#[110]⟩], []⟩
theorem check_one : checkI gOne = 0 := by
  unfold checkI
  rw [if_pos (by rfl), if_pos (by rfl)]
  unfold capsI
  have h1 : (uniqS (labelsL gOne.edges)).length = 0 := by
    have := uniqS_len (labelsL gOne.edges)
    simp [labelsL, gOne] at this ⊢
    exact this
  have h2 : (textB gOne).size ≤ 2048 := by
    have h := lone_size (loneL gOne) ⟨#[]⟩ (by
      intro n hn
      have := (List.mem_filter.1 hn).1
      simp only [gOne, List.mem_singleton] at this
      subst this
      decide)
    have hl : (loneL gOne).length ≤ 1 := List.length_filter_le ..
    have e : textB gOne = (loneL gOne).foldl textN ⟨#[]⟩ := rfl
    rw [e]
    rw [show (⟨#[]⟩ : ByteArray).size = 0 from rfl] at h
    omega
  rw [if_neg (by simp [gOne]), if_neg (by omega), if_neg (by simp [gOne]), if_neg (by omega)]
theorem way_one_m : wayI gOne ⟨#[110]⟩ ⟨#[109]⟩ [] = 4 := by
  unfold wayI
  rw [check_one, if_pos rfl]
  have h : endsI gOne ⟨#[110]⟩ ⟨#[109]⟩ = 4 := by rfl
  rw [h]
  rfl
theorem way_one_n : wayI gOne ⟨#[110]⟩ ⟨#[110]⟩ [] = 0 := by
  unfold wayI
  rw [check_one, if_pos rfl]
  have h : endsI gOne ⟨#[110]⟩ ⟨#[110]⟩ = 0 := by rfl
  rw [h, if_pos rfl, if_neg (by simp)]
  rfl

def anWB169 : Ann := ⟨[], [⟨1, [1], [], []⟩]⟩
theorem head33_pure : DPure Tryz.prog 9 [] (.bool true) := by
  refine DPure_introF [] (fn := Tryz.f9) Tryz.func9 rfl Tryz.call9 (by simp [Tryz.ntmps9]) (by simp [mx]) ?_
  intro hwf B hnt
  simp only [Tryz.ntmps9] at hnt
  simp only [argS]
  have h1 := way31_pure gOne ⟨#[110]⟩ ⟨#[109]⟩ []
  have h2 := way31_pure gOne ⟨#[110]⟩ ⟨#[110]⟩ []
  have h3 := rise0_pure
  rw [way_one_m] at h1
  rw [way_one_n] at h2
  have k1 : DPure Tryz.prog 20 [.agg [.sl 1 16 [[.str ⟨#[110]⟩]], .sl 3 48 []], .str ⟨#[110]⟩, .str ⟨#[109]⟩, .sl 3 48 []] (.int .i64 4) := h1
  have k2 : DPure Tryz.prog 20 [.agg [.sl 1 16 [[.str ⟨#[110]⟩]], .sl 3 48 []], .str ⟨#[110]⟩, .str ⟨#[110]⟩, .sl 3 48 []] (.int .i64 0) := h2
  have m1 : 1 ≤ maxLen := by unfold maxLen; omega
  have s1 : (⟨#[110]⟩ : ByteArray).size = 1 := rfl
  have s2 : (⟨#[109]⟩ : ByteArray).size = 1 := rfl
  have hr1 : (([0] : List Nat) = List.range 1) = True := eq_true rfl
  (repeat (first | refine DW_seq fun K hK => ?_ | (refine DW_r anWB169 Tryz.mixed (by kernel_rfl) ?_; simp [anWB169, hnt, m1, s1, s2, hr1]; try simp (disch := omega) only [wrap64_in]) | refine DW_block ?_ | (refine DW_if ?_ ?_ ?_; (· (simp [hnt, m1, s1, s2, hr1]; done)); (try (rotate_left; (· (intro hc; (try simp [hnt, m1, s1, s2, hr1] at hc); done))))) | (refine DW_ret ?_; simp [Tryz.results9, hnt, m1, s1, s2, hr1]) | ((first | refine DW_exit ?_ | refine DW_skip ?_); simp [hnt, m1, s1, s2, hr1]) | (intro hc; (try simp [hnt, m1, s1, s2, hr1] at hc); (try (exfalso; omega))) | ((first | refine callP_mk (k1) ?_ | refine callP_mk (k2) ?_ | refine callP_mk (h3) ?_ | (refine callP_wk (k1) ?_ ?_; (· (simp; done))) | (refine callP_wk (k2) ?_ ?_; (· (simp; done))) | (refine callP_wk (h3) ?_ ?_; (· (simp; done)))); try simp [hnt, m1, s1, s2, hr1]) | (refine ⟨?_, ?_⟩; · omega) | omega | apply_assumption -exfalso -symm | (exfalso; omega)))

end Go.Proofs.YtffdjbdokgbibaaGreat
end

section
/- 'CheckOrder': the statement answers true -/


set_option linter.unusedSimpArgs false
set_option linter.unusedVariables false
namespace Go.Proofs.YtffdjbdokgbibaaGreat
open Go Go.Dm
attribute [local irreducible] DW callP callS
set_option maxRecDepth 100000

def anWE73 : Ann := ⟨[], [⟨13, [7], [], []⟩, ⟨14, [9], [], []⟩]⟩
set_option maxHeartbeats 4000000 in
theorem checkOrder_pure (ws : List (List Edge)) : DPure Tryz.prog 3 [dWs ws] (.bool true) := by
  refine DPure_introF [] (fn := Tryz.f3) Tryz.func3 rfl Tryz.call3 (by simp [Tryz.ntmps3]) (by simp [mx]) ?_
  intro hwf B hnt
  simp only [Tryz.ntmps3] at hnt
  have hl := len_ws hwf.1
  clear hwf
  simp only [argS]
  (repeat (first | refine DW_seq fun K hK => ?_ | (refine DW_r anWE73 Tryz.mixed (by kernel_rfl) ?_; simp [anWE73, hnt]; try simp (disch := omega) only [wrap64_in]) | refine DW_block ?_ | (refine DW_if ?_ ?_ ?_; (· (simp [hnt]; done)); (try (rotate_left; (· (intro hc; (try simp [hnt] at hc); done))))) | (refine DW_ret ?_; simp [Tryz.results3, hnt]) | ((first | refine DW_exit ?_ | refine DW_skip ?_); simp [hnt]) | (intro hc; (try simp [hnt] at hc); (try (exfalso; omega))) | (refine ⟨?_, ?_⟩; · omega) | omega | apply_assumption -exfalso -symm | (exfalso; omega)))
  refine DW_loop (X := {k : Nat // k ≤ ws.length}) (fun k => ⟨[(0, dWs ws), (3, .bool ((List.range k.1).all (okW ws))), (4, .int .i64 k.1)], []⟩) (fun k => ws.length - k.1) ⟨0, by simp⟩ (Sub.lit (by simp)) ?_
  rintro ⟨i, hi⟩
  simp only
  by_cases hlt : i < ws.length
  · obtain ⟨x, hx, hx', _⟩ := at_lt' hlt
    obtain ⟨b, hb⟩ : ∃ b, b = (List.range i).all (okW ws) := ⟨_, rfl⟩
    rw [← hb]
    have hst := rall_succ (n := i) (okW ws)
    rw [← hb] at hst
    (repeat (first | refine DW_seq fun K hK => ?_ | (refine DW_r anWE73 Tryz.mixed (by kernel_rfl) ?_; simp [anWE73, hnt, hlt]; try simp (disch := omega) only [wrap64_in]) | refine DW_block ?_ | (refine DW_if ?_ ?_ ?_; (· (simp [hnt, hlt]; done)); (try (rotate_left; (· (intro hc; (try simp [hnt, hlt] at hc); done))))) | (refine DW_ret ?_; simp [Tryz.results3, hnt, hlt]) | ((first | refine DW_exit ?_ | refine DW_skip ?_); simp [hnt, hlt]) | (intro hc; (try simp [hnt, hlt] at hc); (try (exfalso; omega))) | (refine ⟨?_, ?_⟩; · omega) | omega | apply_assumption -exfalso -symm | (exfalso; omega)))
    refine DW_loop (X := {k : Nat // k ≤ ws.length}) (fun k => ⟨[(0, dWs ws), (3, .bool b), (4, .int .i64 i), (5, .int .i64 k.1)], []⟩) (fun k => ws.length - k.1) ⟨0, by simp⟩ (Sub.lit (by simp)) ?_
    rintro ⟨j, hj⟩
    simp only
    by_cases hlt2 : j < ws.length
    · obtain ⟨y, hy, hy', _⟩ := at_lt' hlt2
      have k1 := cmp4_pure x y
      have k2 := cmp5_pure x y
      have k3 := cmp4_pure y x
      have hr := rng_w x y
      rw [wayC_neg x y] at k3
      obtain ⟨cc, hcc⟩ : ∃ cc, cc = wayC x y := ⟨_, rfl⟩
      rw [← hcc] at k1 k2 k3 hr
      unfold rng at hr
      have w1 : IntKind.i64.wrap cc = cc := wrap64_in (by omega) (by omega)
      (repeat (first | refine DW_seq fun K hK => ?_ | (refine DW_r anWE73 Tryz.mixed (by kernel_rfl) ?_; simp [anWE73, hnt, dWay, hlt, hlt2, hx, hx', hy, hy', w1]; try simp (disch := omega) only [wrap64_in]) | refine DW_block ?_ | (refine DW_if ?_ ?_ ?_; (· (simp [hnt, dWay, hlt, hlt2, hx, hx', hy, hy', w1]; done)); (try (rotate_left; (· (intro hc; (try simp [hnt, dWay, hlt, hlt2, hx, hx', hy, hy', w1] at hc); done))))) | (refine DW_ret ?_; simp [Tryz.results3, hnt, dWay, hlt, hlt2, hx, hx', hy, hy', w1]) | ((first | refine DW_exit ?_ | refine DW_skip ?_); simp [hnt, dWay, hlt, hlt2, hx, hx', hy, hy', w1]) | (intro hc; (try simp [hnt, dWay, hlt, hlt2, hx, hx', hy, hy', w1] at hc); (try (exfalso; omega))) | ((first | refine callP_mk (k1) ?_ | refine callP_mk (k2) ?_ | refine callP_mk (k3) ?_ | (refine callP_wk (k1) ?_ ?_; (· (simp; done))) | (refine callP_wk (k2) ?_ ?_; (· (simp; done))) | (refine callP_wk (k3) ?_ ?_; (· (simp; done)))); try simp [hnt, dWay, hlt, hlt2, hx, hx', hy, hy', w1]) | (refine ⟨?_, ?_⟩; · omega) | omega | apply_assumption -exfalso -symm | (exfalso; omega)))
      refine Again.mk ⟨j + 1, by omega⟩ (Sub.lit (by simp)) (by simp; omega)
      (repeat (first | refine DW_seq fun K hK => ?_ | (refine DW_r anWE73 Tryz.mixed (by kernel_rfl) ?_; simp [anWE73, hnt]; try simp (disch := omega) only [wrap64_in]) | refine DW_block ?_ | (refine DW_if ?_ ?_ ?_; (· (simp [hnt]; done)); (try (rotate_left; (· (intro hc; (try simp [hnt] at hc); done))))) | (refine DW_ret ?_; simp [Tryz.results3, hnt]) | ((first | refine DW_exit ?_ | refine DW_skip ?_); simp [hnt]) | (intro hc; (try simp [hnt] at hc); (try (exfalso; omega))) | ((first | refine callP_mk (k1) ?_ | refine callP_mk (k2) ?_ | refine callP_mk (k3) ?_ | (refine callP_wk (k1) ?_ ?_; (· (simp; done))) | (refine callP_wk (k2) ?_ ?_; (· (simp; done))) | (refine callP_wk (k3) ?_ ?_; (· (simp; done)))); try simp [hnt]) | (refine ⟨?_, ?_⟩; · omega) | omega | apply_assumption -exfalso -symm | (exfalso; omega)))
    · have hkk : j = ws.length := by omega
      subst hkk
      have k4 := edges6_pure x
      have k5 := of7_pure x
      cases i with
      | zero =>
        have hst' : (List.range (0 + 1)).all (okW ws) = b := by rw [hst, okW_zero, Bool.and_true]
        rcases ofD_form x with ⟨N, E, e, hE⟩ | ⟨e, hE⟩
        · rw [hE] at k4 k5
          have k6 := same8_refl N E
          (repeat (first | refine DW_seq fun K hK => ?_ | (refine DW_r anWE73 Tryz.mixed (by kernel_rfl) ?_; simp [anWE73, hnt, dWay, hlt, hx, hx']; try simp (disch := omega) only [wrap64_in]) | refine DW_block ?_ | (refine DW_if ?_ ?_ ?_; (· (simp [hnt, dWay, hlt, hx, hx']; done)); (try (rotate_left; (· (intro hc; (try simp [hnt, dWay, hlt, hx, hx'] at hc); done))))) | (refine DW_ret ?_; simp [Tryz.results3, hnt, dWay, hlt, hx, hx']) | ((first | refine DW_exit ?_ | refine DW_skip ?_); simp [hnt, dWay, hlt, hx, hx']) | (intro hc; (try simp [hnt, dWay, hlt, hx, hx'] at hc); (try (exfalso; omega))) | ((first | refine callP_mk (k4) ?_ | refine callP_mk (k5) ?_ | refine callP_mk (k6) ?_ | (refine callP_wk (k4) ?_ ?_; (· (simp; done))) | (refine callP_wk (k5) ?_ ?_; (· (simp; done))) | (refine callP_wk (k6) ?_ ?_; (· (simp; done)))); try simp [hnt, dWay, hlt, hx, hx']) | (refine ⟨?_, ?_⟩; · omega) | omega | apply_assumption -exfalso -symm | (exfalso; omega)))
          refine Again.mk ⟨0 + 1, by omega⟩ (Sub.lit (by simp only [hst']; simp)) (by simp; omega)
          (repeat (first | refine DW_seq fun K hK => ?_ | (refine DW_r anWE73 Tryz.mixed (by kernel_rfl) ?_; simp [anWE73, hnt]; try simp (disch := omega) only [wrap64_in]) | refine DW_block ?_ | (refine DW_if ?_ ?_ ?_; (· (simp [hnt]; done)); (try (rotate_left; (· (intro hc; (try simp [hnt] at hc); done))))) | (refine DW_ret ?_; simp [Tryz.results3, hnt]) | ((first | refine DW_exit ?_ | refine DW_skip ?_); simp [hnt]) | (intro hc; (try simp [hnt] at hc); (try (exfalso; omega))) | ((first | refine callP_mk (k4) ?_ | refine callP_mk (k5) ?_ | refine callP_mk (k6) ?_ | (refine callP_wk (k4) ?_ ?_; (· (simp; done))) | (refine callP_wk (k5) ?_ ?_; (· (simp; done))) | (refine callP_wk (k6) ?_ ?_; (· (simp; done)))); try simp [hnt]) | (refine ⟨?_, ?_⟩; · omega) | omega | apply_assumption -exfalso -symm | (exfalso; omega)))
        · rw [hE] at k4 k5
          have k6 := same8_refl [] []
          simp only [dStrs, dEds, List.map_nil] at k6
          (repeat (first | refine DW_seq fun K hK => ?_ | (refine DW_r anWE73 Tryz.mixed (by kernel_rfl) ?_; simp [anWE73, hnt, dWay, hlt, hx, hx']; try simp (disch := omega) only [wrap64_in]) | refine DW_block ?_ | (refine DW_if ?_ ?_ ?_; (· (simp [hnt, dWay, hlt, hx, hx']; done)); (try (rotate_left; (· (intro hc; (try simp [hnt, dWay, hlt, hx, hx'] at hc); done))))) | (refine DW_ret ?_; simp [Tryz.results3, hnt, dWay, hlt, hx, hx']) | ((first | refine DW_exit ?_ | refine DW_skip ?_); simp [hnt, dWay, hlt, hx, hx']) | (intro hc; (try simp [hnt, dWay, hlt, hx, hx'] at hc); (try (exfalso; omega))) | ((first | refine callP_mk (k4) ?_ | refine callP_mk (k5) ?_ | refine callP_mk (k6) ?_ | (refine callP_wk (k4) ?_ ?_; (· (simp; done))) | (refine callP_wk (k5) ?_ ?_; (· (simp; done))) | (refine callP_wk (k6) ?_ ?_; (· (simp; done)))); try simp [hnt, dWay, hlt, hx, hx']) | (refine ⟨?_, ?_⟩; · omega) | omega | apply_assumption -exfalso -symm | (exfalso; omega)))
          refine Again.mk ⟨0 + 1, by omega⟩ (Sub.lit (by simp only [hst']; simp)) (by simp; omega)
          (repeat (first | refine DW_seq fun K hK => ?_ | (refine DW_r anWE73 Tryz.mixed (by kernel_rfl) ?_; simp [anWE73, hnt]; try simp (disch := omega) only [wrap64_in]) | refine DW_block ?_ | (refine DW_if ?_ ?_ ?_; (· (simp [hnt]; done)); (try (rotate_left; (· (intro hc; (try simp [hnt] at hc); done))))) | (refine DW_ret ?_; simp [Tryz.results3, hnt]) | ((first | refine DW_exit ?_ | refine DW_skip ?_); simp [hnt]) | (intro hc; (try simp [hnt] at hc); (try (exfalso; omega))) | ((first | refine callP_mk (k4) ?_ | refine callP_mk (k5) ?_ | refine callP_mk (k6) ?_ | (refine callP_wk (k4) ?_ ?_; (· (simp; done))) | (refine callP_wk (k5) ?_ ?_; (· (simp; done))) | (refine callP_wk (k6) ?_ ?_; (· (simp; done)))); try simp [hnt]) | (refine ⟨?_, ?_⟩; · omega) | omega | apply_assumption -exfalso -symm | (exfalso; omega)))
      | succ m =>
        obtain ⟨p, hp, hp', _⟩ := at_lt' (l := ws) (k := m) (by omega)
        have ho := okW_pos hx hp
        rw [ho] at hst
        have k7 := cmp5_pure p x
        have hm1 : (0 : Int) < (m : Int) + 1 := by omega
        have hm2 : m < ws.length := by omega
        have hm4 : IntKind.i64.wrap (m : Int) = m := wrap64_in (by omega) (by omega)
        have hm5 : (m : Int) + 1 < (ws.length : Int) := by omega
        rcases ofD_form x with ⟨N, E, e, hE⟩ | ⟨e, hE⟩
        · rw [hE] at k4 k5
          have k6 := same8_refl N E
          by_cases hneg : wayC p x < 0
          · rw [decide_eq_true hneg, Bool.and_true] at hst
            have hng : ¬ (0 : Int) ≤ wayC p x := by omega
            (repeat (first | refine DW_seq fun K hK => ?_ | (refine DW_r anWE73 Tryz.mixed (by kernel_rfl) ?_; simp [anWE73, hnt, dWay, hlt, hx, hx', hp, hp', hm1, hm2, hm4, hm5, hng]; try simp (disch := omega) only [wrap64_in]) | refine DW_block ?_ | (refine DW_if ?_ ?_ ?_; (· (simp [hnt, dWay, hlt, hx, hx', hp, hp', hm1, hm2, hm4, hm5, hng]; done)); (try (rotate_left; (· (intro hc; (try simp [hnt, dWay, hlt, hx, hx', hp, hp', hm1, hm2, hm4, hm5, hng] at hc); done))))) | (refine DW_ret ?_; simp [Tryz.results3, hnt, dWay, hlt, hx, hx', hp, hp', hm1, hm2, hm4, hm5, hng]) | ((first | refine DW_exit ?_ | refine DW_skip ?_); simp [hnt, dWay, hlt, hx, hx', hp, hp', hm1, hm2, hm4, hm5, hng]) | (intro hc; (try simp [hnt, dWay, hlt, hx, hx', hp, hp', hm1, hm2, hm4, hm5, hng] at hc); (try (exfalso; omega))) | ((first | refine callP_mk (k4) ?_ | refine callP_mk (k5) ?_ | refine callP_mk (k6) ?_ | refine callP_mk (k7) ?_ | (refine callP_wk (k4) ?_ ?_; (· (simp; done))) | (refine callP_wk (k5) ?_ ?_; (· (simp; done))) | (refine callP_wk (k6) ?_ ?_; (· (simp; done))) | (refine callP_wk (k7) ?_ ?_; (· (simp; done)))); try simp [hnt, dWay, hlt, hx, hx', hp, hp', hm1, hm2, hm4, hm5, hng]) | (refine ⟨?_, ?_⟩; · omega) | omega | apply_assumption -exfalso -symm | (exfalso; omega)))
            refine Again.mk ⟨m + 1 + 1, by omega⟩ (Sub.lit (by simp only [hst]; simp)) (by simp; omega)
            (repeat (first | refine DW_seq fun K hK => ?_ | (refine DW_r anWE73 Tryz.mixed (by kernel_rfl) ?_; simp [anWE73, hnt]; try simp (disch := omega) only [wrap64_in]) | refine DW_block ?_ | (refine DW_if ?_ ?_ ?_; (· (simp [hnt]; done)); (try (rotate_left; (· (intro hc; (try simp [hnt] at hc); done))))) | (refine DW_ret ?_; simp [Tryz.results3, hnt]) | ((first | refine DW_exit ?_ | refine DW_skip ?_); simp [hnt]) | (intro hc; (try simp [hnt] at hc); (try (exfalso; omega))) | ((first | refine callP_mk (k4) ?_ | refine callP_mk (k5) ?_ | refine callP_mk (k6) ?_ | refine callP_mk (k7) ?_ | (refine callP_wk (k4) ?_ ?_; (· (simp; done))) | (refine callP_wk (k5) ?_ ?_; (· (simp; done))) | (refine callP_wk (k6) ?_ ?_; (· (simp; done))) | (refine callP_wk (k7) ?_ ?_; (· (simp; done)))); try simp [hnt]) | (refine ⟨?_, ?_⟩; · omega) | omega | apply_assumption -exfalso -symm | (exfalso; omega)))
          · rw [decide_eq_false hneg, Bool.and_false] at hst
            have hng : (0 : Int) ≤ wayC p x := by omega
            (repeat (first | refine DW_seq fun K hK => ?_ | (refine DW_r anWE73 Tryz.mixed (by kernel_rfl) ?_; simp [anWE73, hnt, dWay, hlt, hx, hx', hp, hp', hm1, hm2, hm4, hm5, hng]; try simp (disch := omega) only [wrap64_in]) | refine DW_block ?_ | (refine DW_if ?_ ?_ ?_; (· (simp [hnt, dWay, hlt, hx, hx', hp, hp', hm1, hm2, hm4, hm5, hng]; done)); (try (rotate_left; (· (intro hc; (try simp [hnt, dWay, hlt, hx, hx', hp, hp', hm1, hm2, hm4, hm5, hng] at hc); done))))) | (refine DW_ret ?_; simp [Tryz.results3, hnt, dWay, hlt, hx, hx', hp, hp', hm1, hm2, hm4, hm5, hng]) | ((first | refine DW_exit ?_ | refine DW_skip ?_); simp [hnt, dWay, hlt, hx, hx', hp, hp', hm1, hm2, hm4, hm5, hng]) | (intro hc; (try simp [hnt, dWay, hlt, hx, hx', hp, hp', hm1, hm2, hm4, hm5, hng] at hc); (try (exfalso; omega))) | ((first | refine callP_mk (k4) ?_ | refine callP_mk (k5) ?_ | refine callP_mk (k6) ?_ | refine callP_mk (k7) ?_ | (refine callP_wk (k4) ?_ ?_; (· (simp; done))) | (refine callP_wk (k5) ?_ ?_; (· (simp; done))) | (refine callP_wk (k6) ?_ ?_; (· (simp; done))) | (refine callP_wk (k7) ?_ ?_; (· (simp; done)))); try simp [hnt, dWay, hlt, hx, hx', hp, hp', hm1, hm2, hm4, hm5, hng]) | (refine ⟨?_, ?_⟩; · omega) | omega | apply_assumption -exfalso -symm | (exfalso; omega)))
            refine Again.mk ⟨m + 1 + 1, by omega⟩ (Sub.lit (by simp only [hst]; simp)) (by simp; omega)
            (repeat (first | refine DW_seq fun K hK => ?_ | (refine DW_r anWE73 Tryz.mixed (by kernel_rfl) ?_; simp [anWE73, hnt]; try simp (disch := omega) only [wrap64_in]) | refine DW_block ?_ | (refine DW_if ?_ ?_ ?_; (· (simp [hnt]; done)); (try (rotate_left; (· (intro hc; (try simp [hnt] at hc); done))))) | (refine DW_ret ?_; simp [Tryz.results3, hnt]) | ((first | refine DW_exit ?_ | refine DW_skip ?_); simp [hnt]) | (intro hc; (try simp [hnt] at hc); (try (exfalso; omega))) | ((first | refine callP_mk (k4) ?_ | refine callP_mk (k5) ?_ | refine callP_mk (k6) ?_ | refine callP_mk (k7) ?_ | (refine callP_wk (k4) ?_ ?_; (· (simp; done))) | (refine callP_wk (k5) ?_ ?_; (· (simp; done))) | (refine callP_wk (k6) ?_ ?_; (· (simp; done))) | (refine callP_wk (k7) ?_ ?_; (· (simp; done)))); try simp [hnt]) | (refine ⟨?_, ?_⟩; · omega) | omega | apply_assumption -exfalso -symm | (exfalso; omega)))
        · rw [hE] at k4 k5
          have k6 := same8_refl [] []
          simp only [dStrs, dEds, List.map_nil] at k6
          by_cases hneg : wayC p x < 0
          · rw [decide_eq_true hneg, Bool.and_true] at hst
            have hng : ¬ (0 : Int) ≤ wayC p x := by omega
            (repeat (first | refine DW_seq fun K hK => ?_ | (refine DW_r anWE73 Tryz.mixed (by kernel_rfl) ?_; simp [anWE73, hnt, dWay, hlt, hx, hx', hp, hp', hm1, hm2, hm4, hm5, hng]; try simp (disch := omega) only [wrap64_in]) | refine DW_block ?_ | (refine DW_if ?_ ?_ ?_; (· (simp [hnt, dWay, hlt, hx, hx', hp, hp', hm1, hm2, hm4, hm5, hng]; done)); (try (rotate_left; (· (intro hc; (try simp [hnt, dWay, hlt, hx, hx', hp, hp', hm1, hm2, hm4, hm5, hng] at hc); done))))) | (refine DW_ret ?_; simp [Tryz.results3, hnt, dWay, hlt, hx, hx', hp, hp', hm1, hm2, hm4, hm5, hng]) | ((first | refine DW_exit ?_ | refine DW_skip ?_); simp [hnt, dWay, hlt, hx, hx', hp, hp', hm1, hm2, hm4, hm5, hng]) | (intro hc; (try simp [hnt, dWay, hlt, hx, hx', hp, hp', hm1, hm2, hm4, hm5, hng] at hc); (try (exfalso; omega))) | ((first | refine callP_mk (k4) ?_ | refine callP_mk (k5) ?_ | refine callP_mk (k6) ?_ | refine callP_mk (k7) ?_ | (refine callP_wk (k4) ?_ ?_; (· (simp; done))) | (refine callP_wk (k5) ?_ ?_; (· (simp; done))) | (refine callP_wk (k6) ?_ ?_; (· (simp; done))) | (refine callP_wk (k7) ?_ ?_; (· (simp; done)))); try simp [hnt, dWay, hlt, hx, hx', hp, hp', hm1, hm2, hm4, hm5, hng]) | (refine ⟨?_, ?_⟩; · omega) | omega | apply_assumption -exfalso -symm | (exfalso; omega)))
            refine Again.mk ⟨m + 1 + 1, by omega⟩ (Sub.lit (by simp only [hst]; simp)) (by simp; omega)
            (repeat (first | refine DW_seq fun K hK => ?_ | (refine DW_r anWE73 Tryz.mixed (by kernel_rfl) ?_; simp [anWE73, hnt]; try simp (disch := omega) only [wrap64_in]) | refine DW_block ?_ | (refine DW_if ?_ ?_ ?_; (· (simp [hnt]; done)); (try (rotate_left; (· (intro hc; (try simp [hnt] at hc); done))))) | (refine DW_ret ?_; simp [Tryz.results3, hnt]) | ((first | refine DW_exit ?_ | refine DW_skip ?_); simp [hnt]) | (intro hc; (try simp [hnt] at hc); (try (exfalso; omega))) | ((first | refine callP_mk (k4) ?_ | refine callP_mk (k5) ?_ | refine callP_mk (k6) ?_ | refine callP_mk (k7) ?_ | (refine callP_wk (k4) ?_ ?_; (· (simp; done))) | (refine callP_wk (k5) ?_ ?_; (· (simp; done))) | (refine callP_wk (k6) ?_ ?_; (· (simp; done))) | (refine callP_wk (k7) ?_ ?_; (· (simp; done)))); try simp [hnt]) | (refine ⟨?_, ?_⟩; · omega) | omega | apply_assumption -exfalso -symm | (exfalso; omega)))
          · rw [decide_eq_false hneg, Bool.and_false] at hst
            have hng : (0 : Int) ≤ wayC p x := by omega
            (repeat (first | refine DW_seq fun K hK => ?_ | (refine DW_r anWE73 Tryz.mixed (by kernel_rfl) ?_; simp [anWE73, hnt, dWay, hlt, hx, hx', hp, hp', hm1, hm2, hm4, hm5, hng]; try simp (disch := omega) only [wrap64_in]) | refine DW_block ?_ | (refine DW_if ?_ ?_ ?_; (· (simp [hnt, dWay, hlt, hx, hx', hp, hp', hm1, hm2, hm4, hm5, hng]; done)); (try (rotate_left; (· (intro hc; (try simp [hnt, dWay, hlt, hx, hx', hp, hp', hm1, hm2, hm4, hm5, hng] at hc); done))))) | (refine DW_ret ?_; simp [Tryz.results3, hnt, dWay, hlt, hx, hx', hp, hp', hm1, hm2, hm4, hm5, hng]) | ((first | refine DW_exit ?_ | refine DW_skip ?_); simp [hnt, dWay, hlt, hx, hx', hp, hp', hm1, hm2, hm4, hm5, hng]) | (intro hc; (try simp [hnt, dWay, hlt, hx, hx', hp, hp', hm1, hm2, hm4, hm5, hng] at hc); (try (exfalso; omega))) | ((first | refine callP_mk (k4) ?_ | refine callP_mk (k5) ?_ | refine callP_mk (k6) ?_ | refine callP_mk (k7) ?_ | (refine callP_wk (k4) ?_ ?_; (· (simp; done))) | (refine callP_wk (k5) ?_ ?_; (· (simp; done))) | (refine callP_wk (k6) ?_ ?_; (· (simp; done))) | (refine callP_wk (k7) ?_ ?_; (· (simp; done)))); try simp [hnt, dWay, hlt, hx, hx', hp, hp', hm1, hm2, hm4, hm5, hng]) | (refine ⟨?_, ?_⟩; · omega) | omega | apply_assumption -exfalso -symm | (exfalso; omega)))
            refine Again.mk ⟨m + 1 + 1, by omega⟩ (Sub.lit (by simp only [hst]; simp)) (by simp; omega)
            (repeat (first | refine DW_seq fun K hK => ?_ | (refine DW_r anWE73 Tryz.mixed (by kernel_rfl) ?_; simp [anWE73, hnt]; try simp (disch := omega) only [wrap64_in]) | refine DW_block ?_ | (refine DW_if ?_ ?_ ?_; (· (simp [hnt]; done)); (try (rotate_left; (· (intro hc; (try simp [hnt] at hc); done))))) | (refine DW_ret ?_; simp [Tryz.results3, hnt]) | ((first | refine DW_exit ?_ | refine DW_skip ?_); simp [hnt]) | (intro hc; (try simp [hnt] at hc); (try (exfalso; omega))) | ((first | refine callP_mk (k4) ?_ | refine callP_mk (k5) ?_ | refine callP_mk (k6) ?_ | refine callP_mk (k7) ?_ | (refine callP_wk (k4) ?_ ?_; (· (simp; done))) | (refine callP_wk (k5) ?_ ?_; (· (simp; done))) | (refine callP_wk (k6) ?_ ?_; (· (simp; done))) | (refine callP_wk (k7) ?_ ?_; (· (simp; done)))); try simp [hnt]) | (refine ⟨?_, ?_⟩; · omega) | omega | apply_assumption -exfalso -symm | (exfalso; omega)))
  · have hkk : i = ws.length := by omega
    subst hkk
    have k1 := rise10_pure ws
    obtain ⟨b, hb⟩ : ∃ b, b = (List.range ws.length).all (okW ws) := ⟨_, rfl⟩
    have hb2 : riseW ws = b := by rw [hb]; rfl
    rw [hb2] at k1
    rw [← hb]
    (repeat (first | refine DW_seq fun K hK => ?_ | (refine DW_r anWE73 Tryz.mixed (by kernel_rfl) ?_; simp [anWE73, hnt]; try simp (disch := omega) only [wrap64_in]) | refine DW_block ?_ | (refine DW_if ?_ ?_ ?_; (· (simp [hnt]; done)); (try (rotate_left; (· (intro hc; (try simp [hnt] at hc); done))))) | (refine DW_ret ?_; simp [Tryz.results3, hnt]) | ((first | refine DW_exit ?_ | refine DW_skip ?_); simp [hnt]) | (intro hc; (try simp [hnt] at hc); (try (exfalso; omega))) | ((first | refine callP_mk (head33_pure) ?_ | refine callP_mk (k1) ?_ | (refine callP_wk (head33_pure) ?_ ?_; (· (simp; done))) | (refine callP_wk (k1) ?_ ?_; (· (simp; done)))); try simp [hnt]) | (refine ⟨?_, ?_⟩; · omega) | omega | apply_assumption -exfalso -symm | (exfalso; omega)))
end Go.Proofs.YtffdjbdokgbibaaGreat
end

