/- Parts of a proof, laid together: WB11, WB12, WB13, WB14, WB15. -/
import Derived.Test.YtihkcegelghcpaaqCw9
section
/- graphs by definition: Check, Way -/

set_option linter.unusedSimpArgs false
set_option linter.unusedVariables false
namespace Go.Proofs.Ytihkcegelghcpaa
open Go Go.Dm
attribute [local irreducible] DW callP callS
set_option maxRecDepth 100000

def capsI (g : Edges) : Int := if 32 < g.nodes.length then 260 else if 16 < (uniqS (labelsL g.edges)).length then 261 else if 256 < g.edges.length then 262 else if 2048 < (textB g).size then 174 else 0
def checkI (g : Edges) : Int := if formB g then (if namedB g then capsI g else 173) else 2
theorem small_of {g : Edges} (h : namedB g = true) (h1 : g.nodes.length ≤ 32) (h2 : g.edges.length ≤ 256) : SmallG g := by
  unfold namedB at h
  simp only [Bool.and_eq_true, List.all_eq_true] at h
  have hn : ∀ s, nameOK s = true → s.size ≤ 16 := fun s hs => by unfold nameOK at hs; simp only [Bool.and_eq_true, decide_eq_true_eq] at hs; exact hs.1.2
  refine ⟨h1, fun n hm => hn n (h.1 n hm), h2, fun e he => ?_⟩
  have := h.2 e he
  unfold edgeOK labelOK at this
  simp only [Bool.and_eq_true] at this
  exact ⟨hn _ this.1, hn _ this.2.1.1, hn _ this.2.2⟩

def anWB11109 : Ann := ⟨[], []⟩
theorem caps109_pure (g : Edges) (hn : namedB g = true) : DPure Try.prog 109 [.agg (dGr g)] (.int .i64 (capsI g)) := by
  refine DPure_introF [] (fn := Try.f109) Try.func109 rfl Try.call109 (by simp [Try.ntmps109]) (by simp [mx]) ?_
  intro hwf B hnt
  clear hwf
  simp only [argS]
  unfold capsI
  have h1 := labels147_pure g.edges
  by_cases c1 : 32 < g.nodes.length
  · have d1 : (32 : Int) < g.nodes.length := by omega
    (repeat (first | (refine DW_seq fun K hK => ?_) | (refine DW_r anWB11109 Try.mixed (by kernel_rfl) ?_; simp [hnt, Try.ntmps109, Try.results109, anWB11109, dGr, c1, d1]; try simp (disch := omega) only [wrap64_in]) | (refine DW_block ?_) | (focus (refine DW_if ?_ ?_ ?_; (· (simp [hnt, Try.ntmps109, Try.results109, anWB11109, dGr, c1, d1]; done)); (try (rotate_left; (· (intro hc; (try simp [hnt, Try.ntmps109, Try.results109, anWB11109, dGr, c1, d1] at hc); done)))))) | (refine DW_ret ?_; simp [hnt, Try.ntmps109, Try.results109, anWB11109, dGr, c1, d1]) | (refine DW_exit ?_; simp [hnt, Try.ntmps109, Try.results109, anWB11109, dGr, c1, d1]) | (refine DW_skip ?_; simp [hnt, Try.ntmps109, Try.results109, anWB11109, dGr, c1, d1]) | (intro hc; (try simp [hnt, Try.ntmps109, Try.results109, anWB11109, dGr, c1, d1] at hc); done) | (intro hc; (try simp [hnt, Try.ntmps109, Try.results109, anWB11109, dGr, c1, d1] at hc); (first | (exfalso; omega) | skip)) | (refine ⟨?_, ?_⟩; · omega) | omega | apply_assumption -exfalso -symm | (exfalso; omega)))
  · have d1 : ¬ (32 : Int) < g.nodes.length := by omega
    obtain ⟨U, hU⟩ : ∃ U, U = uniqS (labelsL g.edges) := ⟨_, rfl⟩
    rw [← hU] at h1 ⊢
    clear hU
    by_cases c2 : 16 < U.length
    · have d2 : (16 : Int) < U.length := by omega
      (repeat (first | (refine DW_seq fun K hK => ?_) | (refine DW_r anWB11109 Try.mixed (by kernel_rfl) ?_; simp [hnt, Try.ntmps109, Try.results109, anWB11109, dGr, c1, d1, c2, d2]; try simp (disch := omega) only [wrap64_in]) | (refine DW_block ?_) | (focus (refine DW_if ?_ ?_ ?_; (· (simp [hnt, Try.ntmps109, Try.results109, anWB11109, dGr, c1, d1, c2, d2]; done)); (try (rotate_left; (· (intro hc; (try simp [hnt, Try.ntmps109, Try.results109, anWB11109, dGr, c1, d1, c2, d2] at hc); done)))))) | (refine DW_ret ?_; simp [hnt, Try.ntmps109, Try.results109, anWB11109, dGr, c1, d1, c2, d2]) | (refine DW_exit ?_; simp [hnt, Try.ntmps109, Try.results109, anWB11109, dGr, c1, d1, c2, d2]) | (refine DW_skip ?_; simp [hnt, Try.ntmps109, Try.results109, anWB11109, dGr, c1, d1, c2, d2]) | (intro hc; (try simp [hnt, Try.ntmps109, Try.results109, anWB11109, dGr, c1, d1, c2, d2] at hc); done) | (intro hc; (try simp [hnt, Try.ntmps109, Try.results109, anWB11109, dGr, c1, d1, c2, d2] at hc); (first | (exfalso; omega) | skip)) | (refine callP_mk (h1) ?_; try simp [hnt, Try.ntmps109, Try.results109, anWB11109, dGr, c1, d1, c2, d2]) | (refine callP_wk (h1) ?_ ?_; (· (simp; done)); try simp [hnt, Try.ntmps109, Try.results109, anWB11109, dGr, c1, d1, c2, d2]) | (refine ⟨?_, ?_⟩; · omega) | omega | apply_assumption -exfalso -symm | (exfalso; omega)))
    · have d2 : ¬ (16 : Int) < U.length := by omega
      by_cases c3 : 256 < g.edges.length
      · have d3 : (256 : Int) < g.edges.length := by omega
        (repeat (first | (refine DW_seq fun K hK => ?_) | (refine DW_r anWB11109 Try.mixed (by kernel_rfl) ?_; simp [hnt, Try.ntmps109, Try.results109, anWB11109, dGr, c1, d1, c2, d2, c3, d3]; try simp (disch := omega) only [wrap64_in]) | (refine DW_block ?_) | (focus (refine DW_if ?_ ?_ ?_; (· (simp [hnt, Try.ntmps109, Try.results109, anWB11109, dGr, c1, d1, c2, d2, c3, d3]; done)); (try (rotate_left; (· (intro hc; (try simp [hnt, Try.ntmps109, Try.results109, anWB11109, dGr, c1, d1, c2, d2, c3, d3] at hc); done)))))) | (refine DW_ret ?_; simp [hnt, Try.ntmps109, Try.results109, anWB11109, dGr, c1, d1, c2, d2, c3, d3]) | (refine DW_exit ?_; simp [hnt, Try.ntmps109, Try.results109, anWB11109, dGr, c1, d1, c2, d2, c3, d3]) | (refine DW_skip ?_; simp [hnt, Try.ntmps109, Try.results109, anWB11109, dGr, c1, d1, c2, d2, c3, d3]) | (intro hc; (try simp [hnt, Try.ntmps109, Try.results109, anWB11109, dGr, c1, d1, c2, d2, c3, d3] at hc); done) | (intro hc; (try simp [hnt, Try.ntmps109, Try.results109, anWB11109, dGr, c1, d1, c2, d2, c3, d3] at hc); (first | (exfalso; omega) | skip)) | (refine callP_mk (h1) ?_; try simp [hnt, Try.ntmps109, Try.results109, anWB11109, dGr, c1, d1, c2, d2, c3, d3]) | (refine callP_wk (h1) ?_ ?_; (· (simp; done)); try simp [hnt, Try.ntmps109, Try.results109, anWB11109, dGr, c1, d1, c2, d2, c3, d3]) | (refine ⟨?_, ?_⟩; · omega) | omega | apply_assumption -exfalso -symm | (exfalso; omega)))
      · have d3 : ¬ (256 : Int) < g.edges.length := by omega
        have h2 := text148_pure g (small_of hn (by omega) (by omega))
        obtain ⟨T, hT⟩ : ∃ T, T = textB g := ⟨_, rfl⟩
        rw [← hT] at h2 ⊢
        clear hT
        simp only [dGr] at h2
        by_cases c4 : 2048 < T.size
        · have d4 : (2048 : Int) < T.size := by omega
          (repeat (first | (refine DW_seq fun K hK => ?_) | (refine DW_r anWB11109 Try.mixed (by kernel_rfl) ?_; simp [hnt, Try.ntmps109, Try.results109, anWB11109, dGr, c1, d1, c2, d2, c3, d3, c4, d4]; try simp (disch := omega) only [wrap64_in]) | (refine DW_block ?_) | (focus (refine DW_if ?_ ?_ ?_; (· (simp [hnt, Try.ntmps109, Try.results109, anWB11109, dGr, c1, d1, c2, d2, c3, d3, c4, d4]; done)); (try (rotate_left; (· (intro hc; (try simp [hnt, Try.ntmps109, Try.results109, anWB11109, dGr, c1, d1, c2, d2, c3, d3, c4, d4] at hc); done)))))) | (refine DW_ret ?_; simp [hnt, Try.ntmps109, Try.results109, anWB11109, dGr, c1, d1, c2, d2, c3, d3, c4, d4]) | (refine DW_exit ?_; simp [hnt, Try.ntmps109, Try.results109, anWB11109, dGr, c1, d1, c2, d2, c3, d3, c4, d4]) | (refine DW_skip ?_; simp [hnt, Try.ntmps109, Try.results109, anWB11109, dGr, c1, d1, c2, d2, c3, d3, c4, d4]) | (intro hc; (try simp [hnt, Try.ntmps109, Try.results109, anWB11109, dGr, c1, d1, c2, d2, c3, d3, c4, d4] at hc); done) | (intro hc; (try simp [hnt, Try.ntmps109, Try.results109, anWB11109, dGr, c1, d1, c2, d2, c3, d3, c4, d4] at hc); (first | (exfalso; omega) | skip)) | (refine callP_mk (h1) ?_; try simp [hnt, Try.ntmps109, Try.results109, anWB11109, dGr, c1, d1, c2, d2, c3, d3, c4, d4]) | (refine callP_wk (h1) ?_ ?_; (· (simp; done)); try simp [hnt, Try.ntmps109, Try.results109, anWB11109, dGr, c1, d1, c2, d2, c3, d3, c4, d4]) | (refine callP_mk (h2) ?_; try simp [hnt, Try.ntmps109, Try.results109, anWB11109, dGr, c1, d1, c2, d2, c3, d3, c4, d4]) | (refine callP_wk (h2) ?_ ?_; (· (simp; done)); try simp [hnt, Try.ntmps109, Try.results109, anWB11109, dGr, c1, d1, c2, d2, c3, d3, c4, d4]) | (refine ⟨?_, ?_⟩; · omega) | omega | apply_assumption -exfalso -symm | (exfalso; omega)))
        · have d4 : ¬ (2048 : Int) < T.size := by omega
          (repeat (first | (refine DW_seq fun K hK => ?_) | (refine DW_r anWB11109 Try.mixed (by kernel_rfl) ?_; simp [hnt, Try.ntmps109, Try.results109, anWB11109, dGr, c1, d1, c2, d2, c3, d3, c4, d4]; try simp (disch := omega) only [wrap64_in]) | (refine DW_block ?_) | (focus (refine DW_if ?_ ?_ ?_; (· (simp [hnt, Try.ntmps109, Try.results109, anWB11109, dGr, c1, d1, c2, d2, c3, d3, c4, d4]; done)); (try (rotate_left; (· (intro hc; (try simp [hnt, Try.ntmps109, Try.results109, anWB11109, dGr, c1, d1, c2, d2, c3, d3, c4, d4] at hc); done)))))) | (refine DW_ret ?_; simp [hnt, Try.ntmps109, Try.results109, anWB11109, dGr, c1, d1, c2, d2, c3, d3, c4, d4]) | (refine DW_exit ?_; simp [hnt, Try.ntmps109, Try.results109, anWB11109, dGr, c1, d1, c2, d2, c3, d3, c4, d4]) | (refine DW_skip ?_; simp [hnt, Try.ntmps109, Try.results109, anWB11109, dGr, c1, d1, c2, d2, c3, d3, c4, d4]) | (intro hc; (try simp [hnt, Try.ntmps109, Try.results109, anWB11109, dGr, c1, d1, c2, d2, c3, d3, c4, d4] at hc); done) | (intro hc; (try simp [hnt, Try.ntmps109, Try.results109, anWB11109, dGr, c1, d1, c2, d2, c3, d3, c4, d4] at hc); (first | (exfalso; omega) | skip)) | (refine callP_mk (h1) ?_; try simp [hnt, Try.ntmps109, Try.results109, anWB11109, dGr, c1, d1, c2, d2, c3, d3, c4, d4]) | (refine callP_wk (h1) ?_ ?_; (· (simp; done)); try simp [hnt, Try.ntmps109, Try.results109, anWB11109, dGr, c1, d1, c2, d2, c3, d3, c4, d4]) | (refine callP_mk (h2) ?_; try simp [hnt, Try.ntmps109, Try.results109, anWB11109, dGr, c1, d1, c2, d2, c3, d3, c4, d4]) | (refine callP_wk (h2) ?_ ?_; (· (simp; done)); try simp [hnt, Try.ntmps109, Try.results109, anWB11109, dGr, c1, d1, c2, d2, c3, d3, c4, d4]) | (refine ⟨?_, ?_⟩; · omega) | omega | apply_assumption -exfalso -symm | (exfalso; omega)))

def anWB1169 : Ann := ⟨[], []⟩
theorem check69_pure (g : Edges) : DPure Try.prog 69 [.agg (dGr g)] (.int .i64 (checkI g)) := by
  refine DPure_introF [] (fn := Try.f69) Try.func69 rfl Try.call69 (by simp [Try.ntmps69]) (by simp [mx]) ?_
  intro hwf B hnt
  clear hwf
  simp only [argS]
  unfold checkI
  have h1 := form107_pure g
  have h2 := named108_pure g.nodes g.edges
  simp only [dGr] at h1
  cases hf : formB g
  · rw [hf] at h1
    (repeat (first | (refine DW_seq fun K hK => ?_) | (refine DW_r anWB1169 Try.mixed (by kernel_rfl) ?_; simp [hnt, Try.ntmps69, Try.results69, anWB1169, dGr]; try simp (disch := omega) only [wrap64_in]) | (refine DW_block ?_) | (focus (refine DW_if ?_ ?_ ?_; (· (simp [hnt, Try.ntmps69, Try.results69, anWB1169, dGr]; done)); (try (rotate_left; (· (intro hc; (try simp [hnt, Try.ntmps69, Try.results69, anWB1169, dGr] at hc); done)))))) | (refine DW_ret ?_; simp [hnt, Try.ntmps69, Try.results69, anWB1169, dGr]) | (refine DW_exit ?_; simp [hnt, Try.ntmps69, Try.results69, anWB1169, dGr]) | (refine DW_skip ?_; simp [hnt, Try.ntmps69, Try.results69, anWB1169, dGr]) | (intro hc; (try simp [hnt, Try.ntmps69, Try.results69, anWB1169, dGr] at hc); done) | (intro hc; (try simp [hnt, Try.ntmps69, Try.results69, anWB1169, dGr] at hc); (first | (exfalso; omega) | skip)) | (refine callP_mk (h1) ?_; try simp [hnt, Try.ntmps69, Try.results69, anWB1169, dGr]) | (refine callP_wk (h1) ?_ ?_; (· (simp; done)); try simp [hnt, Try.ntmps69, Try.results69, anWB1169, dGr]) | (refine callP_mk (h2) ?_; try simp [hnt, Try.ntmps69, Try.results69, anWB1169, dGr]) | (refine callP_wk (h2) ?_ ?_; (· (simp; done)); try simp [hnt, Try.ntmps69, Try.results69, anWB1169, dGr]) | (refine ⟨?_, ?_⟩; · omega) | omega | apply_assumption -exfalso -symm | (exfalso; omega)))
  · rw [hf] at h1
    cases hn : namedB g
    · have h2' : DPure Try.prog 108 [dStrs g.nodes, dEds g.edges] (.bool false) := by rw [← hn]; exact h2
      (repeat (first | (refine DW_seq fun K hK => ?_) | (refine DW_r anWB1169 Try.mixed (by kernel_rfl) ?_; simp [hnt, Try.ntmps69, Try.results69, anWB1169, dGr]; try simp (disch := omega) only [wrap64_in]) | (refine DW_block ?_) | (focus (refine DW_if ?_ ?_ ?_; (· (simp [hnt, Try.ntmps69, Try.results69, anWB1169, dGr]; done)); (try (rotate_left; (· (intro hc; (try simp [hnt, Try.ntmps69, Try.results69, anWB1169, dGr] at hc); done)))))) | (refine DW_ret ?_; simp [hnt, Try.ntmps69, Try.results69, anWB1169, dGr]) | (refine DW_exit ?_; simp [hnt, Try.ntmps69, Try.results69, anWB1169, dGr]) | (refine DW_skip ?_; simp [hnt, Try.ntmps69, Try.results69, anWB1169, dGr]) | (intro hc; (try simp [hnt, Try.ntmps69, Try.results69, anWB1169, dGr] at hc); done) | (intro hc; (try simp [hnt, Try.ntmps69, Try.results69, anWB1169, dGr] at hc); (first | (exfalso; omega) | skip)) | (refine callP_mk (h1) ?_; try simp [hnt, Try.ntmps69, Try.results69, anWB1169, dGr]) | (refine callP_wk (h1) ?_ ?_; (· (simp; done)); try simp [hnt, Try.ntmps69, Try.results69, anWB1169, dGr]) | (refine callP_mk (h2') ?_; try simp [hnt, Try.ntmps69, Try.results69, anWB1169, dGr]) | (refine callP_wk (h2') ?_ ?_; (· (simp; done)); try simp [hnt, Try.ntmps69, Try.results69, anWB1169, dGr]) | (refine ⟨?_, ?_⟩; · omega) | omega | apply_assumption -exfalso -symm | (exfalso; omega)))
    · have h2' : DPure Try.prog 108 [dStrs g.nodes, dEds g.edges] (.bool true) := by rw [← hn]; exact h2
      have h3 := caps109_pure g hn
      simp only [dGr] at h3
      (repeat (first | (refine DW_seq fun K hK => ?_) | (refine DW_r anWB1169 Try.mixed (by kernel_rfl) ?_; simp [hnt, Try.ntmps69, Try.results69, anWB1169, dGr]; try simp (disch := omega) only [wrap64_in]) | (refine DW_block ?_) | (focus (refine DW_if ?_ ?_ ?_; (· (simp [hnt, Try.ntmps69, Try.results69, anWB1169, dGr]; done)); (try (rotate_left; (· (intro hc; (try simp [hnt, Try.ntmps69, Try.results69, anWB1169, dGr] at hc); done)))))) | (refine DW_ret ?_; simp [hnt, Try.ntmps69, Try.results69, anWB1169, dGr]) | (refine DW_exit ?_; simp [hnt, Try.ntmps69, Try.results69, anWB1169, dGr]) | (refine DW_skip ?_; simp [hnt, Try.ntmps69, Try.results69, anWB1169, dGr]) | (intro hc; (try simp [hnt, Try.ntmps69, Try.results69, anWB1169, dGr] at hc); done) | (intro hc; (try simp [hnt, Try.ntmps69, Try.results69, anWB1169, dGr] at hc); (first | (exfalso; omega) | skip)) | (refine callP_mk (h1) ?_; try simp [hnt, Try.ntmps69, Try.results69, anWB1169, dGr]) | (refine callP_wk (h1) ?_ ?_; (· (simp; done)); try simp [hnt, Try.ntmps69, Try.results69, anWB1169, dGr]) | (refine callP_mk (h2') ?_; try simp [hnt, Try.ntmps69, Try.results69, anWB1169, dGr]) | (refine callP_wk (h2') ?_ ?_; (· (simp; done)); try simp [hnt, Try.ntmps69, Try.results69, anWB1169, dGr]) | (refine callP_mk (h3) ?_; try simp [hnt, Try.ntmps69, Try.results69, anWB1169, dGr]) | (refine callP_wk (h3) ?_ ?_; (· (simp; done)); try simp [hnt, Try.ntmps69, Try.results69, anWB1169, dGr]) | (refine ⟨?_, ?_⟩; · omega) | omega | apply_assumption -exfalso -symm | (exfalso; omega)))

def wayI (g : Edges) (a b : ByteArray) (way : List Edge) : Int := if checkI g = 0 then (if endsI g a b = 0 then (if 64 < way.length then 3 else if isWay g a b way then 0 else 370) else endsI g a b) else checkI g
def anWB1134 : Ann := ⟨[], []⟩
theorem way34_pure (g : Edges) (a b : ByteArray) (way : List Edge) : DPure Try.prog 34 [.agg (dGr g), .str a, .str b, dEds way] (.int .i64 (wayI g a b way)) := by
  refine DPure_introF [] (fn := Try.f34) Try.func34 rfl Try.call34 (by simp [Try.ntmps34]) (by simp [mx]) ?_
  intro hwf B hnt
  clear hwf
  simp only [argS]
  unfold wayI
  have h1 := check69_pure g
  have h2 := ends70_pure g a b
  have h3 := isway_pure g a b way
  obtain ⟨x, hx⟩ : ∃ x, x = checkI g := ⟨_, rfl⟩
  obtain ⟨y, hy⟩ : ∃ y, y = endsI g a b := ⟨_, rfl⟩
  obtain ⟨z, hz⟩ : ∃ z, z = isWay g a b way := ⟨_, rfl⟩
  rw [← hx] at h1 ⊢
  rw [← hy] at h2 ⊢
  rw [← hz] at h3 ⊢
  clear hx hy hz
  simp only [dGr] at h1 h2 h3
  by_cases c1 : x = 0
  · subst c1
    by_cases c2 : y = 0
    · subst c2
      by_cases c3 : 64 < way.length
      · have d3 : (64 : Int) < way.length := by omega
        (repeat (first | (refine DW_seq fun K hK => ?_) | (refine DW_r anWB1134 Try.mixed (by kernel_rfl) ?_; simp [hnt, Try.ntmps34, Try.results34, anWB1134, dGr, c3, d3]; try simp (disch := omega) only [wrap64_in]) | (refine DW_block ?_) | (focus (refine DW_if ?_ ?_ ?_; (· (simp [hnt, Try.ntmps34, Try.results34, anWB1134, dGr, c3, d3]; done)); (try (rotate_left; (· (intro hc; (try simp [hnt, Try.ntmps34, Try.results34, anWB1134, dGr, c3, d3] at hc); done)))))) | (refine DW_ret ?_; simp [hnt, Try.ntmps34, Try.results34, anWB1134, dGr, c3, d3]) | (refine DW_exit ?_; simp [hnt, Try.ntmps34, Try.results34, anWB1134, dGr, c3, d3]) | (refine DW_skip ?_; simp [hnt, Try.ntmps34, Try.results34, anWB1134, dGr, c3, d3]) | (intro hc; (try simp [hnt, Try.ntmps34, Try.results34, anWB1134, dGr, c3, d3] at hc); done) | (intro hc; (try simp [hnt, Try.ntmps34, Try.results34, anWB1134, dGr, c3, d3] at hc); (first | (exfalso; omega) | skip)) | (refine callP_mk (h1) ?_; try simp [hnt, Try.ntmps34, Try.results34, anWB1134, dGr, c3, d3]) | (refine callP_wk (h1) ?_ ?_; (· (simp; done)); try simp [hnt, Try.ntmps34, Try.results34, anWB1134, dGr, c3, d3]) | (refine callP_mk (h2) ?_; try simp [hnt, Try.ntmps34, Try.results34, anWB1134, dGr, c3, d3]) | (refine callP_wk (h2) ?_ ?_; (· (simp; done)); try simp [hnt, Try.ntmps34, Try.results34, anWB1134, dGr, c3, d3]) | (refine callP_mk (h3) ?_; try simp [hnt, Try.ntmps34, Try.results34, anWB1134, dGr, c3, d3]) | (refine callP_wk (h3) ?_ ?_; (· (simp; done)); try simp [hnt, Try.ntmps34, Try.results34, anWB1134, dGr, c3, d3]) | (refine ⟨?_, ?_⟩; · omega) | omega | apply_assumption -exfalso -symm | (exfalso; omega)))
      · have d3 : ¬ (64 : Int) < way.length := by omega
        cases z
        · (repeat (first | (refine DW_seq fun K hK => ?_) | (refine DW_r anWB1134 Try.mixed (by kernel_rfl) ?_; simp [hnt, Try.ntmps34, Try.results34, anWB1134, dGr, c3, d3]; try simp (disch := omega) only [wrap64_in]) | (refine DW_block ?_) | (focus (refine DW_if ?_ ?_ ?_; (· (simp [hnt, Try.ntmps34, Try.results34, anWB1134, dGr, c3, d3]; done)); (try (rotate_left; (· (intro hc; (try simp [hnt, Try.ntmps34, Try.results34, anWB1134, dGr, c3, d3] at hc); done)))))) | (refine DW_ret ?_; simp [hnt, Try.ntmps34, Try.results34, anWB1134, dGr, c3, d3]) | (refine DW_exit ?_; simp [hnt, Try.ntmps34, Try.results34, anWB1134, dGr, c3, d3]) | (refine DW_skip ?_; simp [hnt, Try.ntmps34, Try.results34, anWB1134, dGr, c3, d3]) | (intro hc; (try simp [hnt, Try.ntmps34, Try.results34, anWB1134, dGr, c3, d3] at hc); done) | (intro hc; (try simp [hnt, Try.ntmps34, Try.results34, anWB1134, dGr, c3, d3] at hc); (first | (exfalso; omega) | skip)) | (refine callP_mk (h1) ?_; try simp [hnt, Try.ntmps34, Try.results34, anWB1134, dGr, c3, d3]) | (refine callP_wk (h1) ?_ ?_; (· (simp; done)); try simp [hnt, Try.ntmps34, Try.results34, anWB1134, dGr, c3, d3]) | (refine callP_mk (h2) ?_; try simp [hnt, Try.ntmps34, Try.results34, anWB1134, dGr, c3, d3]) | (refine callP_wk (h2) ?_ ?_; (· (simp; done)); try simp [hnt, Try.ntmps34, Try.results34, anWB1134, dGr, c3, d3]) | (refine callP_mk (h3) ?_; try simp [hnt, Try.ntmps34, Try.results34, anWB1134, dGr, c3, d3]) | (refine callP_wk (h3) ?_ ?_; (· (simp; done)); try simp [hnt, Try.ntmps34, Try.results34, anWB1134, dGr, c3, d3]) | (refine ⟨?_, ?_⟩; · omega) | omega | apply_assumption -exfalso -symm | (exfalso; omega)))
        · (repeat (first | (refine DW_seq fun K hK => ?_) | (refine DW_r anWB1134 Try.mixed (by kernel_rfl) ?_; simp [hnt, Try.ntmps34, Try.results34, anWB1134, dGr, c3, d3]; try simp (disch := omega) only [wrap64_in]) | (refine DW_block ?_) | (focus (refine DW_if ?_ ?_ ?_; (· (simp [hnt, Try.ntmps34, Try.results34, anWB1134, dGr, c3, d3]; done)); (try (rotate_left; (· (intro hc; (try simp [hnt, Try.ntmps34, Try.results34, anWB1134, dGr, c3, d3] at hc); done)))))) | (refine DW_ret ?_; simp [hnt, Try.ntmps34, Try.results34, anWB1134, dGr, c3, d3]) | (refine DW_exit ?_; simp [hnt, Try.ntmps34, Try.results34, anWB1134, dGr, c3, d3]) | (refine DW_skip ?_; simp [hnt, Try.ntmps34, Try.results34, anWB1134, dGr, c3, d3]) | (intro hc; (try simp [hnt, Try.ntmps34, Try.results34, anWB1134, dGr, c3, d3] at hc); done) | (intro hc; (try simp [hnt, Try.ntmps34, Try.results34, anWB1134, dGr, c3, d3] at hc); (first | (exfalso; omega) | skip)) | (refine callP_mk (h1) ?_; try simp [hnt, Try.ntmps34, Try.results34, anWB1134, dGr, c3, d3]) | (refine callP_wk (h1) ?_ ?_; (· (simp; done)); try simp [hnt, Try.ntmps34, Try.results34, anWB1134, dGr, c3, d3]) | (refine callP_mk (h2) ?_; try simp [hnt, Try.ntmps34, Try.results34, anWB1134, dGr, c3, d3]) | (refine callP_wk (h2) ?_ ?_; (· (simp; done)); try simp [hnt, Try.ntmps34, Try.results34, anWB1134, dGr, c3, d3]) | (refine callP_mk (h3) ?_; try simp [hnt, Try.ntmps34, Try.results34, anWB1134, dGr, c3, d3]) | (refine callP_wk (h3) ?_ ?_; (· (simp; done)); try simp [hnt, Try.ntmps34, Try.results34, anWB1134, dGr, c3, d3]) | (refine ⟨?_, ?_⟩; · omega) | omega | apply_assumption -exfalso -symm | (exfalso; omega)))
    · have e2 : (y != 0) = true := by simpa using c2
      (repeat (first | (refine DW_seq fun K hK => ?_) | (refine DW_r anWB1134 Try.mixed (by kernel_rfl) ?_; simp [hnt, Try.ntmps34, Try.results34, anWB1134, dGr, c2, e2]; try simp (disch := omega) only [wrap64_in]) | (refine DW_block ?_) | (focus (refine DW_if ?_ ?_ ?_; (· (simp [hnt, Try.ntmps34, Try.results34, anWB1134, dGr, c2, e2]; done)); (try (rotate_left; (· (intro hc; (try simp [hnt, Try.ntmps34, Try.results34, anWB1134, dGr, c2, e2] at hc); done)))))) | (refine DW_ret ?_; simp [hnt, Try.ntmps34, Try.results34, anWB1134, dGr, c2, e2]) | (refine DW_exit ?_; simp [hnt, Try.ntmps34, Try.results34, anWB1134, dGr, c2, e2]) | (refine DW_skip ?_; simp [hnt, Try.ntmps34, Try.results34, anWB1134, dGr, c2, e2]) | (intro hc; (try simp [hnt, Try.ntmps34, Try.results34, anWB1134, dGr, c2, e2] at hc); done) | (intro hc; (try simp [hnt, Try.ntmps34, Try.results34, anWB1134, dGr, c2, e2] at hc); (first | (exfalso; omega) | skip)) | (refine callP_mk (h1) ?_; try simp [hnt, Try.ntmps34, Try.results34, anWB1134, dGr, c2, e2]) | (refine callP_wk (h1) ?_ ?_; (· (simp; done)); try simp [hnt, Try.ntmps34, Try.results34, anWB1134, dGr, c2, e2]) | (refine callP_mk (h2) ?_; try simp [hnt, Try.ntmps34, Try.results34, anWB1134, dGr, c2, e2]) | (refine callP_wk (h2) ?_ ?_; (· (simp; done)); try simp [hnt, Try.ntmps34, Try.results34, anWB1134, dGr, c2, e2]) | (refine callP_mk (h3) ?_; try simp [hnt, Try.ntmps34, Try.results34, anWB1134, dGr, c2, e2]) | (refine callP_wk (h3) ?_ ?_; (· (simp; done)); try simp [hnt, Try.ntmps34, Try.results34, anWB1134, dGr, c2, e2]) | (refine ⟨?_, ?_⟩; · omega) | omega | apply_assumption -exfalso -symm | (exfalso; omega)))
  · have e1 : (x != 0) = true := by simpa using c1
    (repeat (first | (refine DW_seq fun K hK => ?_) | (refine DW_r anWB1134 Try.mixed (by kernel_rfl) ?_; simp [hnt, Try.ntmps34, Try.results34, anWB1134, dGr, c1, e1]; try simp (disch := omega) only [wrap64_in]) | (refine DW_block ?_) | (focus (refine DW_if ?_ ?_ ?_; (· (simp [hnt, Try.ntmps34, Try.results34, anWB1134, dGr, c1, e1]; done)); (try (rotate_left; (· (intro hc; (try simp [hnt, Try.ntmps34, Try.results34, anWB1134, dGr, c1, e1] at hc); done)))))) | (refine DW_ret ?_; simp [hnt, Try.ntmps34, Try.results34, anWB1134, dGr, c1, e1]) | (refine DW_exit ?_; simp [hnt, Try.ntmps34, Try.results34, anWB1134, dGr, c1, e1]) | (refine DW_skip ?_; simp [hnt, Try.ntmps34, Try.results34, anWB1134, dGr, c1, e1]) | (intro hc; (try simp [hnt, Try.ntmps34, Try.results34, anWB1134, dGr, c1, e1] at hc); done) | (intro hc; (try simp [hnt, Try.ntmps34, Try.results34, anWB1134, dGr, c1, e1] at hc); (first | (exfalso; omega) | skip)) | (refine callP_mk (h1) ?_; try simp [hnt, Try.ntmps34, Try.results34, anWB1134, dGr, c1, e1]) | (refine callP_wk (h1) ?_ ?_; (· (simp; done)); try simp [hnt, Try.ntmps34, Try.results34, anWB1134, dGr, c1, e1]) | (refine callP_mk (h2) ?_; try simp [hnt, Try.ntmps34, Try.results34, anWB1134, dGr, c1, e1]) | (refine callP_wk (h2) ?_ ?_; (· (simp; done)); try simp [hnt, Try.ntmps34, Try.results34, anWB1134, dGr, c1, e1]) | (refine callP_mk (h3) ?_; try simp [hnt, Try.ntmps34, Try.results34, anWB1134, dGr, c1, e1]) | (refine callP_wk (h3) ?_ ?_; (· (simp; done)); try simp [hnt, Try.ntmps34, Try.results34, anWB1134, dGr, c1, e1]) | (refine ⟨?_, ?_⟩; · omega) | omega | apply_assumption -exfalso -symm | (exfalso; omega)))
end Go.Proofs.Ytihkcegelghcpaa
end

section
/- the program's labels of a graph -/

set_option linter.unusedSimpArgs false
set_option linter.unusedVariables false
namespace Go.Proofs.Ytihkcegelghcpaa
open Go Go.Dm
attribute [local irreducible] DW callP callS
set_option maxRecDepth 100000

def anWB12175 : Ann := ⟨[], []⟩
set_option maxHeartbeats 4000000 in
theorem compact175_spec (l : List ByteArray) :
    DSpec Try.prog (.func 175) [.osl 0 0] [⟨0, 0, .row 9 1 16 (l.map dStr)⟩] (dStrs (compL eqT l)) [] := by
  refine DSpec_introW [0] [] (fn := Try.f175) Try.func175 rfl Try.call175 (by simp [Try.ntmps175]) (by simp) (by simp) ?_
  intro hwf hwo B hnt
  simp only [argS]
  have hl : l.length ≤ 9223372036854775807 := by
    simp only [wfOwn, maxLen, List.length_map] at hwo
    omega
  clear hwo
  by_cases hl2 : l.length < 2
  · have hcl : compL eqT l = l := by
      match l, hl2 with
      | [], _ => rfl
      | [x], _ => rfl
    (repeat (first | (refine DW_seq fun K hK => ?_) | (refine DW_r anWB12175 Try.mixed (by kernel_rfl) ?_; simp [hnt, Try.ntmps175, Try.results175, anWB12175, hl2, hcl]; try simp (disch := omega) only [wrap64_in]) | (refine DW_block ?_) | (focus (refine DW_if ?_ ?_ ?_; (· (simp [hnt, Try.ntmps175, Try.results175, anWB12175, hl2, hcl]; done)); (try (rotate_left; (· (intro hc; (try simp [hnt, Try.ntmps175, Try.results175, anWB12175, hl2, hcl] at hc); done)))))) | (refine DW_ret ?_; simp [hnt, Try.ntmps175, Try.results175, anWB12175, hl2, hcl]) | (refine DW_exit ?_; simp [hnt, Try.ntmps175, Try.results175, anWB12175, hl2, hcl]) | (refine DW_skip ?_; simp [hnt, Try.ntmps175, Try.results175, anWB12175, hl2, hcl]) | (intro hc; (try simp [hnt, Try.ntmps175, Try.results175, anWB12175, hl2, hcl] at hc); done) | (intro hc; (try simp [hnt, Try.ntmps175, Try.results175, anWB12175, hl2, hcl] at hc); (first | (exfalso; omega) | skip)) | (refine ⟨?_, ?_⟩; · omega) | omega | apply_assumption -exfalso -symm | (exfalso; omega)))
  have hl2' : ¬ (l.length : Int) < 2 := by omega
  obtain ⟨R0, hR0⟩ : ∃ R0, R0 = compL eqT l := ⟨_, rfl⟩
  rw [← hR0]
  (repeat (first | (refine DW_seq fun K hK => ?_) | (refine DW_r anWB12175 Try.mixed (by kernel_rfl) ?_; simp [hnt, Try.ntmps175, Try.results175, anWB12175, hl2, hl2']; try simp (disch := omega) only [wrap64_in]) | (refine DW_block ?_) | (focus (refine DW_if ?_ ?_ ?_; (· (simp [hnt, Try.ntmps175, Try.results175, anWB12175, hl2, hl2']; done)); (try (rotate_left; (· (intro hc; (try simp [hnt, Try.ntmps175, Try.results175, anWB12175, hl2, hl2'] at hc); done)))))) | (refine DW_ret ?_; simp [hnt, Try.ntmps175, Try.results175, anWB12175, hl2, hl2']) | (refine DW_exit ?_; simp [hnt, Try.ntmps175, Try.results175, anWB12175, hl2, hl2']) | (refine DW_skip ?_; simp [hnt, Try.ntmps175, Try.results175, anWB12175, hl2, hl2']) | (intro hc; (try simp [hnt, Try.ntmps175, Try.results175, anWB12175, hl2, hl2'] at hc); done) | (intro hc; (try simp [hnt, Try.ntmps175, Try.results175, anWB12175, hl2, hl2'] at hc); (first | (exfalso; omega) | skip)) | (refine ⟨?_, ?_⟩; · omega) | omega | apply_assumption -exfalso -symm | (exfalso; omega)))
  refine DW_loop (X := {k : Nat // 1 ≤ k ∧ k ≤ l.length ∧ compL eqT (l.take k) = l.take k}) (fun k => ⟨[(0, .osl 0 0), (3, .int .i64 k.1)], [⟨0, 0, .row 9 1 16 (l.map dStr)⟩]⟩) (fun k => l.length - k.1) ⟨1, by
    obtain ⟨x, t, rfl⟩ : ∃ x t, l = x :: t := by
      cases l with
      | nil => simp at hl2
      | cons x t => exact ⟨x, t, rfl⟩
    simp [compL, compGo]⟩ (Sub.lit (by simp)) ?_
  rintro ⟨k, hk1, hk, hck⟩
  by_cases hlt : k < l.length
  · obtain ⟨q, hq, hq', hqm⟩ := at_lt' hlt
    obtain ⟨p, hp, hp', hpm⟩ := at_lt' (show k - 1 < l.length by omega)
    have hwr : IntKind.i64.wrap ((k : Int) - 1) = (k : Int) - 1 := wrap64_in (by omega) (by omega)
    have hk0 : ((k : Int) - 1).toNat = k - 1 := by omega
    have hs := compL_snoc (e := eqT) (by omega) hp hq
    have hb1 : (0 : Int) ≤ (k : Int) - 1 := by omega
    have hb2 : (k : Int) - 1 < l.length := by omega
    cases hepq : eqT q p
    · rw [hepq] at hs
      simp only [Bool.false_eq_true, if_false] at hs
      have he2 : (q == p) = false := hepq
      (repeat (first | (refine DW_seq fun K hK => ?_) | (refine DW_r anWB12175 Try.mixed (by kernel_rfl) ?_; simp [hnt, Try.ntmps175, Try.results175, anWB12175, dStr, hlt, hq', hp', hp, hq, hk0, hwr, hb1, hb2, he2]; try simp (disch := omega) only [wrap64_in]) | (refine DW_block ?_) | (focus (refine DW_if ?_ ?_ ?_; (· (simp [hnt, Try.ntmps175, Try.results175, anWB12175, dStr, hlt, hq', hp', hp, hq, hk0, hwr, hb1, hb2, he2]; done)); (try (rotate_left; (· (intro hc; (try simp [hnt, Try.ntmps175, Try.results175, anWB12175, dStr, hlt, hq', hp', hp, hq, hk0, hwr, hb1, hb2, he2] at hc); done)))))) | (refine DW_ret ?_; simp [hnt, Try.ntmps175, Try.results175, anWB12175, dStr, hlt, hq', hp', hp, hq, hk0, hwr, hb1, hb2, he2]) | (refine DW_exit ?_; simp [hnt, Try.ntmps175, Try.results175, anWB12175, dStr, hlt, hq', hp', hp, hq, hk0, hwr, hb1, hb2, he2]) | (refine DW_skip ?_; simp [hnt, Try.ntmps175, Try.results175, anWB12175, dStr, hlt, hq', hp', hp, hq, hk0, hwr, hb1, hb2, he2]) | (intro hc; (try simp [hnt, Try.ntmps175, Try.results175, anWB12175, dStr, hlt, hq', hp', hp, hq, hk0, hwr, hb1, hb2, he2] at hc); done) | (intro hc; (try simp [hnt, Try.ntmps175, Try.results175, anWB12175, dStr, hlt, hq', hp', hp, hq, hk0, hwr, hb1, hb2, he2] at hc); (first | (exfalso; omega) | skip)) | (refine ⟨?_, ?_⟩; · omega) | omega | apply_assumption -exfalso -symm | (exfalso; omega)))
      refine Again.mk ⟨k + 1, by omega, by omega, by rw [hs, hck, List.take_add_one, hq]; rfl⟩ (Sub.lit (by simp)) (by simp; omega)
      (repeat (first | (refine DW_seq fun K hK => ?_) | (refine DW_r anWB12175 Try.mixed (by kernel_rfl) ?_; simp [hnt, Try.ntmps175, Try.results175, anWB12175]; try simp (disch := omega) only [wrap64_in]) | (refine DW_block ?_) | (focus (refine DW_if ?_ ?_ ?_; (· (simp [hnt, Try.ntmps175, Try.results175, anWB12175]; done)); (try (rotate_left; (· (intro hc; (try simp [hnt, Try.ntmps175, Try.results175, anWB12175] at hc); done)))))) | (refine DW_ret ?_; simp [hnt, Try.ntmps175, Try.results175, anWB12175]) | (refine DW_exit ?_; simp [hnt, Try.ntmps175, Try.results175, anWB12175]) | (refine DW_skip ?_; simp [hnt, Try.ntmps175, Try.results175, anWB12175]) | (intro hc; (try simp [hnt, Try.ntmps175, Try.results175, anWB12175] at hc); done) | (intro hc; (try simp [hnt, Try.ntmps175, Try.results175, anWB12175] at hc); (first | (exfalso; omega) | skip)) | (refine ⟨?_, ?_⟩; · omega) | omega | apply_assumption -exfalso -symm | (exfalso; omega)))
    · rw [hepq] at hs
      simp only [if_true, List.append_nil] at hs
      have he2 : (q == p) = true := hepq
      (repeat (first | (refine DW_seq fun K hK => ?_) | (refine DW_r anWB12175 Try.mixed (by kernel_rfl) ?_; simp [hnt, Try.ntmps175, Try.results175, anWB12175, dStr, hlt, hq', hp', hp, hq, hk0, hwr, hb1, hb2, he2]; try simp (disch := omega) only [wrap64_in]) | (refine DW_block ?_) | (focus (refine DW_if ?_ ?_ ?_; (· (simp [hnt, Try.ntmps175, Try.results175, anWB12175, dStr, hlt, hq', hp', hp, hq, hk0, hwr, hb1, hb2, he2]; done)); (try (rotate_left; (· (intro hc; (try simp [hnt, Try.ntmps175, Try.results175, anWB12175, dStr, hlt, hq', hp', hp, hq, hk0, hwr, hb1, hb2, he2] at hc); done)))))) | (refine DW_ret ?_; simp [hnt, Try.ntmps175, Try.results175, anWB12175, dStr, hlt, hq', hp', hp, hq, hk0, hwr, hb1, hb2, he2]) | (refine DW_exit ?_; simp [hnt, Try.ntmps175, Try.results175, anWB12175, dStr, hlt, hq', hp', hp, hq, hk0, hwr, hb1, hb2, he2]) | (refine DW_skip ?_; simp [hnt, Try.ntmps175, Try.results175, anWB12175, dStr, hlt, hq', hp', hp, hq, hk0, hwr, hb1, hb2, he2]) | (intro hc; (try simp [hnt, Try.ntmps175, Try.results175, anWB12175, dStr, hlt, hq', hp', hp, hq, hk0, hwr, hb1, hb2, he2] at hc); done) | (intro hc; (try simp [hnt, Try.ntmps175, Try.results175, anWB12175, dStr, hlt, hq', hp', hp, hq, hk0, hwr, hb1, hb2, he2] at hc); (first | (exfalso; omega) | skip)) | (refine ⟨?_, ?_⟩; · omega) | omega | apply_assumption -exfalso -symm | (exfalso; omega)))
      clear hwr hk0 hb1 hb2
      refine DW_loop (X := {x : Nat × Nat × List ByteArray // 1 ≤ x.1 ∧ k + x.1 ≤ l.length ∧ x.2.1 < k + x.1 ∧ k ≤ x.2.1 ∧ x.2.2.length = l.length ∧ x.2.2.take x.2.1 = compL eqT (l.take (k + x.1)) ∧ ∀ j, k + x.1 ≤ j + 1 → x.2.2[j]? = l[j]?}) (fun x => ⟨[(0, .osl 0 0), (3, .int .i64 x.1.2.1), (4, .vw 0 0 1 16 k (l.length - k)), (5, .int .i64 x.1.1)], [⟨0, 0, .row 9 1 16 (x.1.2.2.map dStr)⟩]⟩) (fun x => l.length - x.1.1)
        ⟨(1, k, l), show 1 ≤ 1 ∧ k + 1 ≤ l.length ∧ k < k + 1 ∧ k ≤ k ∧ l.length = l.length ∧ l.take k = compL eqT (l.take (k + 1)) ∧ (∀ j, k + 1 ≤ j + 1 → l[j]? = l[j]?) from ⟨by omega, by omega, by omega, by omega, rfl, by rw [hs, hck], fun _ _ => rfl⟩⟩ (Sub.lit (by simp)) ?_
      rintro ⟨⟨m, kk, R⟩, x1, x2, x3, x4, x5, x6, x7⟩
      simp only at x1 x2 x3 x4 x5 x6 x7 ⊢
      have hv : k + (l.length - k) ≤ l.length := by omega
      by_cases hm : m < l.length - k
      · obtain ⟨y, hy, hy', hym⟩ := at_lt' (show k + m < l.length by omega)
        obtain ⟨z, hz, hz', hzm⟩ := at_lt' (show k + m - 1 < l.length by omega)
        obtain ⟨c0, hc0, _, _⟩ := at_lt' (show kk < R.length by omega)
        have hRy : R[k + m]? = some y := by rw [x7 _ (by omega)]; exact hy
        have hRz : R[k + (m - 1)]? = some z := by rw [x7 _ (by omega), show k + (m - 1) = k + m - 1 by omega]; exact hz
        have hRy' : R[k + m]'(by omega) = y := (List.getElem?_eq_some_iff.1 hRy).2
        have hRz' : R[k + (m - 1)]'(by omega) = z := (List.getElem?_eq_some_iff.1 hRz).2
        have hwr : IntKind.i64.wrap ((m : Int) - 1) = (m : Int) - 1 := wrap64_in (by omega) (by omega)
        have hk0 : ((m : Int) - 1).toNat = m - 1 := by omega
        have hb1 : (0 : Int) ≤ (m : Int) - 1 := by omega
        have hb2 : (m : Int) - 1 < ((l.length - k : Nat) : Int) := by omega
        have hs2 := compL_snoc (e := eqT) (by omega) hz hy
        rw [← x6] at hs2
        have hkk : kk < l.length := by omega
        cases heyz : eqT y z
        · rw [heyz] at hs2
          simp only [Bool.false_eq_true, if_false] at hs2
          have he3 : (y == z) = false := heyz
          (repeat (first | (refine DW_seq fun K hK => ?_) | (refine DW_r anWB12175 Try.mixed (by kernel_rfl) ?_; simp [hnt, Try.ntmps175, Try.results175, anWB12175, dStr, hm, hRy, hRz, hRy', hRz', hk0, hwr, hb1, hb2, x5, hv, hc0, hkk, he3]; try simp (disch := omega) only [wrap64_in]) | (refine DW_block ?_) | (focus (refine DW_if ?_ ?_ ?_; (· (simp [hnt, Try.ntmps175, Try.results175, anWB12175, dStr, hm, hRy, hRz, hRy', hRz', hk0, hwr, hb1, hb2, x5, hv, hc0, hkk, he3]; done)); (try (rotate_left; (· (intro hc; (try simp [hnt, Try.ntmps175, Try.results175, anWB12175, dStr, hm, hRy, hRz, hRy', hRz', hk0, hwr, hb1, hb2, x5, hv, hc0, hkk, he3] at hc); done)))))) | (refine DW_ret ?_; simp [hnt, Try.ntmps175, Try.results175, anWB12175, dStr, hm, hRy, hRz, hRy', hRz', hk0, hwr, hb1, hb2, x5, hv, hc0, hkk, he3]) | (refine DW_exit ?_; simp [hnt, Try.ntmps175, Try.results175, anWB12175, dStr, hm, hRy, hRz, hRy', hRz', hk0, hwr, hb1, hb2, x5, hv, hc0, hkk, he3]) | (refine DW_skip ?_; simp [hnt, Try.ntmps175, Try.results175, anWB12175, dStr, hm, hRy, hRz, hRy', hRz', hk0, hwr, hb1, hb2, x5, hv, hc0, hkk, he3]) | (intro hc; (try simp [hnt, Try.ntmps175, Try.results175, anWB12175, dStr, hm, hRy, hRz, hRy', hRz', hk0, hwr, hb1, hb2, x5, hv, hc0, hkk, he3] at hc); done) | (intro hc; (try simp [hnt, Try.ntmps175, Try.results175, anWB12175, dStr, hm, hRy, hRz, hRy', hRz', hk0, hwr, hb1, hb2, x5, hv, hc0, hkk, he3] at hc); (first | (exfalso; omega) | skip)) | (refine ⟨?_, ?_⟩; · omega) | omega | apply_assumption -exfalso -symm | (exfalso; omega)))
          refine Again.mk ⟨(m + 1, kk + 1, R.set kk y), show 1 ≤ m + 1 ∧ k + (m + 1) ≤ l.length ∧ kk + 1 < k + (m + 1) ∧ k ≤ kk + 1 ∧ (R.set kk y).length = l.length ∧ (R.set kk y).take (kk + 1) = compL eqT (l.take (k + (m + 1))) ∧ (∀ j, k + (m + 1) ≤ j + 1 → (R.set kk y)[j]? = l[j]?) from ⟨by omega, by omega, by omega, by omega, by simp [x5], ?_, fun j hj => ?_⟩⟩ (Sub.lit ?_) (by simp; omega)
          · rw [show k + (m + 1) = k + m + 1 by omega, hs2, List.take_add_one, List.getElem?_set_self (by omega), List.take_set_of_le (by omega)]
            rfl
          · rw [List.getElem?_set_ne (by omega)]
            exact x7 j (by omega)
          · have hm0 : mxR ((R.map dStr).set kk [.str y]) = 0 := by
              rw [show (R.map dStr).set kk [.str y] = (R.set kk y).map dStr by simp [List.map_set, dStr]]
              exact mx_dStrs _
            simp [List.map_set, dStr, hm0]
          (repeat (first | (refine DW_seq fun K hK => ?_) | (refine DW_r anWB12175 Try.mixed (by kernel_rfl) ?_; simp [hnt, Try.ntmps175, Try.results175, anWB12175]; try simp (disch := omega) only [wrap64_in]) | (refine DW_block ?_) | (focus (refine DW_if ?_ ?_ ?_; (· (simp [hnt, Try.ntmps175, Try.results175, anWB12175]; done)); (try (rotate_left; (· (intro hc; (try simp [hnt, Try.ntmps175, Try.results175, anWB12175] at hc); done)))))) | (refine DW_ret ?_; simp [hnt, Try.ntmps175, Try.results175, anWB12175]) | (refine DW_exit ?_; simp [hnt, Try.ntmps175, Try.results175, anWB12175]) | (refine DW_skip ?_; simp [hnt, Try.ntmps175, Try.results175, anWB12175]) | (intro hc; (try simp [hnt, Try.ntmps175, Try.results175, anWB12175] at hc); done) | (intro hc; (try simp [hnt, Try.ntmps175, Try.results175, anWB12175] at hc); (first | (exfalso; omega) | skip)) | (refine ⟨?_, ?_⟩; · omega) | omega | apply_assumption -exfalso -symm | (exfalso; omega)))
        · rw [heyz] at hs2
          simp only [if_true, List.append_nil] at hs2
          have he3 : (y == z) = true := heyz
          (repeat (first | (refine DW_seq fun K hK => ?_) | (refine DW_r anWB12175 Try.mixed (by kernel_rfl) ?_; simp [hnt, Try.ntmps175, Try.results175, anWB12175, dStr, hm, hRy, hRz, hRy', hRz', hk0, hwr, hb1, hb2, x5, hv, hc0, hkk, he3]; try simp (disch := omega) only [wrap64_in]) | (refine DW_block ?_) | (focus (refine DW_if ?_ ?_ ?_; (· (simp [hnt, Try.ntmps175, Try.results175, anWB12175, dStr, hm, hRy, hRz, hRy', hRz', hk0, hwr, hb1, hb2, x5, hv, hc0, hkk, he3]; done)); (try (rotate_left; (· (intro hc; (try simp [hnt, Try.ntmps175, Try.results175, anWB12175, dStr, hm, hRy, hRz, hRy', hRz', hk0, hwr, hb1, hb2, x5, hv, hc0, hkk, he3] at hc); done)))))) | (refine DW_ret ?_; simp [hnt, Try.ntmps175, Try.results175, anWB12175, dStr, hm, hRy, hRz, hRy', hRz', hk0, hwr, hb1, hb2, x5, hv, hc0, hkk, he3]) | (refine DW_exit ?_; simp [hnt, Try.ntmps175, Try.results175, anWB12175, dStr, hm, hRy, hRz, hRy', hRz', hk0, hwr, hb1, hb2, x5, hv, hc0, hkk, he3]) | (refine DW_skip ?_; simp [hnt, Try.ntmps175, Try.results175, anWB12175, dStr, hm, hRy, hRz, hRy', hRz', hk0, hwr, hb1, hb2, x5, hv, hc0, hkk, he3]) | (intro hc; (try simp [hnt, Try.ntmps175, Try.results175, anWB12175, dStr, hm, hRy, hRz, hRy', hRz', hk0, hwr, hb1, hb2, x5, hv, hc0, hkk, he3] at hc); done) | (intro hc; (try simp [hnt, Try.ntmps175, Try.results175, anWB12175, dStr, hm, hRy, hRz, hRy', hRz', hk0, hwr, hb1, hb2, x5, hv, hc0, hkk, he3] at hc); (first | (exfalso; omega) | skip)) | (refine ⟨?_, ?_⟩; · omega) | omega | apply_assumption -exfalso -symm | (exfalso; omega)))
          refine Again.mk ⟨(m + 1, kk, R), show 1 ≤ m + 1 ∧ k + (m + 1) ≤ l.length ∧ kk < k + (m + 1) ∧ k ≤ kk ∧ R.length = l.length ∧ R.take kk = compL eqT (l.take (k + (m + 1))) ∧ (∀ j, k + (m + 1) ≤ j + 1 → R[j]? = l[j]?) from ⟨by omega, by omega, by omega, by omega, x5, by rw [show k + (m + 1) = k + m + 1 by omega, hs2], fun j hj => x7 j (by omega)⟩⟩ (Sub.lit (by simp)) (by simp; omega)
          (repeat (first | (refine DW_seq fun K hK => ?_) | (refine DW_r anWB12175 Try.mixed (by kernel_rfl) ?_; simp [hnt, Try.ntmps175, Try.results175, anWB12175]; try simp (disch := omega) only [wrap64_in]) | (refine DW_block ?_) | (focus (refine DW_if ?_ ?_ ?_; (· (simp [hnt, Try.ntmps175, Try.results175, anWB12175]; done)); (try (rotate_left; (· (intro hc; (try simp [hnt, Try.ntmps175, Try.results175, anWB12175] at hc); done)))))) | (refine DW_ret ?_; simp [hnt, Try.ntmps175, Try.results175, anWB12175]) | (refine DW_exit ?_; simp [hnt, Try.ntmps175, Try.results175, anWB12175]) | (refine DW_skip ?_; simp [hnt, Try.ntmps175, Try.results175, anWB12175]) | (intro hc; (try simp [hnt, Try.ntmps175, Try.results175, anWB12175] at hc); done) | (intro hc; (try simp [hnt, Try.ntmps175, Try.results175, anWB12175] at hc); (first | (exfalso; omega) | skip)) | (refine ⟨?_, ?_⟩; · omega) | omega | apply_assumption -exfalso -symm | (exfalso; omega)))
      · have hkm : k + m = l.length := by omega
        have hcl1 : (clearD (R.map dStr) kk (l.length - kk) [.str ⟨#[]⟩]).length = l.length := by simp [clearD]; omega
        have hcl2 : (clearD (R.map dStr) kk (l.length - kk) [.str ⟨#[]⟩]).take kk = R0.map dStr := by
          have e1 : l.take (k + m) = l := by rw [hkm, List.take_length]
          rw [e1] at x6
          rw [hR0, ← x6]
          simp only [clearD]
          rw [List.append_assoc, List.take_append_of_le_length (by simp; omega), List.take_take, Nat.min_self, List.map_take]
        have hkl : kk ≤ l.length := by omega
        (repeat (first | (refine DW_seq fun K hK => ?_) | (refine DW_r anWB12175 Try.mixed (by kernel_rfl) ?_; simp [hnt, Try.ntmps175, Try.results175, anWB12175, hm, x5, hv, hcl1, hcl2, hkl]; try simp (disch := omega) only [wrap64_in]) | (refine DW_block ?_) | (focus (refine DW_if ?_ ?_ ?_; (· (simp [hnt, Try.ntmps175, Try.results175, anWB12175, hm, x5, hv, hcl1, hcl2, hkl]; done)); (try (rotate_left; (· (intro hc; (try simp [hnt, Try.ntmps175, Try.results175, anWB12175, hm, x5, hv, hcl1, hcl2, hkl] at hc); done)))))) | (refine DW_ret ?_; simp [hnt, Try.ntmps175, Try.results175, anWB12175, hm, x5, hv, hcl1, hcl2, hkl]) | (refine DW_exit ?_; simp [hnt, Try.ntmps175, Try.results175, anWB12175, hm, x5, hv, hcl1, hcl2, hkl]) | (refine DW_skip ?_; simp [hnt, Try.ntmps175, Try.results175, anWB12175, hm, x5, hv, hcl1, hcl2, hkl]) | (intro hc; (try simp [hnt, Try.ntmps175, Try.results175, anWB12175, hm, x5, hv, hcl1, hcl2, hkl] at hc); done) | (intro hc; (try simp [hnt, Try.ntmps175, Try.results175, anWB12175, hm, x5, hv, hcl1, hcl2, hkl] at hc); (first | (exfalso; omega) | skip)) | (refine ⟨?_, ?_⟩; · omega) | omega | apply_assumption -exfalso -symm | (exfalso; omega)))
  · have hkk : k = l.length := by omega
    subst hkk
    rw [List.take_length] at hck
    rw [hck] at hR0
    (repeat (first | (refine DW_seq fun K hK => ?_) | (refine DW_r anWB12175 Try.mixed (by kernel_rfl) ?_; simp [hnt, Try.ntmps175, Try.results175, anWB12175, hR0]; try simp (disch := omega) only [wrap64_in]) | (refine DW_block ?_) | (focus (refine DW_if ?_ ?_ ?_; (· (simp [hnt, Try.ntmps175, Try.results175, anWB12175, hR0]; done)); (try (rotate_left; (· (intro hc; (try simp [hnt, Try.ntmps175, Try.results175, anWB12175, hR0] at hc); done)))))) | (refine DW_ret ?_; simp [hnt, Try.ntmps175, Try.results175, anWB12175, hR0]) | (refine DW_exit ?_; simp [hnt, Try.ntmps175, Try.results175, anWB12175, hR0]) | (refine DW_skip ?_; simp [hnt, Try.ntmps175, Try.results175, anWB12175, hR0]) | (intro hc; (try simp [hnt, Try.ntmps175, Try.results175, anWB12175, hR0] at hc); done) | (intro hc; (try simp [hnt, Try.ntmps175, Try.results175, anWB12175, hR0] at hc); (first | (exfalso; omega) | skip)) | (refine ⟨?_, ?_⟩; · omega) | omega | apply_assumption -exfalso -symm | (exfalso; omega)))

def anWB12157 : Ann := ⟨[], []⟩
def anWB12157b3 : Ann := ⟨[5], []⟩
theorem cloneS_pure (l : List ByteArray) : DPure Try.prog 157 [dStrs l] (dStrs l) := by
  match l with
  | [] =>
    refine DPure_sl [] ?_ ?_
    · refine DPure_introF [7] (fn := Try.f157) Try.func157 rfl Try.call157 (by simp [Try.ntmps157]) (by simp [mx, mxR]) ?_
      intro hwf B hnt
      simp only [argS, List.nil_append, dStrs, List.map_cons]
      (repeat (first | (refine DW_seq fun K hK => ?_) | (refine DW_r anWB12157 Try.mixed (by kernel_rfl) ?_; simp [hnt, Try.ntmps157, Try.results157, anWB12157]; try simp (disch := omega) only [wrap64_in]) | (refine DW_block ?_) | (focus (refine DW_if ?_ ?_ ?_; (· (simp [hnt, Try.ntmps157, Try.results157, anWB12157]; done)); (try (rotate_left; (· (intro hc; (try simp [hnt, Try.ntmps157, Try.results157, anWB12157] at hc); done)))))) | (refine DW_ret ?_; simp [hnt, Try.ntmps157, Try.results157, anWB12157]) | (refine DW_exit ?_; simp [hnt, Try.ntmps157, Try.results157, anWB12157]) | (refine DW_skip ?_; simp [hnt, Try.ntmps157, Try.results157, anWB12157]) | (intro hc; (try simp [hnt, Try.ntmps157, Try.results157, anWB12157] at hc); done) | (intro hc; (try simp [hnt, Try.ntmps157, Try.results157, anWB12157] at hc); (first | (exfalso; omega) | skip)) | (refine ⟨?_, ?_⟩; · omega) | omega | apply_assumption -exfalso -symm | (exfalso; omega)))
    · refine DPure_introF [7, 5] (fn := Try.f157) Try.func157 rfl Try.call157 (by simp [Try.ntmps157]) (by simp [mx, mxR]) ?_
      intro hwf B hnt
      simp only [argS, List.nil_append, dStrs, List.map_cons]
      (repeat (first | (refine DW_seq fun K hK => ?_) | (refine DW_r anWB12157b3 Try.mixed (by kernel_rfl) ?_; simp [hnt, Try.ntmps157, Try.results157, anWB12157b3]; try simp (disch := omega) only [wrap64_in]) | (refine DW_block ?_) | (focus (refine DW_if ?_ ?_ ?_; (· (simp [hnt, Try.ntmps157, Try.results157, anWB12157b3]; done)); (try (rotate_left; (· (intro hc; (try simp [hnt, Try.ntmps157, Try.results157, anWB12157b3] at hc); done)))))) | (refine DW_ret ?_; simp [hnt, Try.ntmps157, Try.results157, anWB12157b3]) | (refine DW_exit ?_; simp [hnt, Try.ntmps157, Try.results157, anWB12157b3]) | (refine DW_skip ?_; simp [hnt, Try.ntmps157, Try.results157, anWB12157b3]) | (intro hc; (try simp [hnt, Try.ntmps157, Try.results157, anWB12157b3] at hc); done) | (intro hc; (try simp [hnt, Try.ntmps157, Try.results157, anWB12157b3] at hc); (first | (exfalso; omega) | skip)) | (refine ⟨?_, ?_⟩; · omega) | omega | apply_assumption -exfalso -symm | (exfalso; omega)))
  | s :: l =>
    refine DPure_introF [7, 5] (fn := Try.f157) Try.func157 rfl Try.call157 (by simp [Try.ntmps157]) (by simp [mx, mxR]) ?_
    intro hwf B hnt
    have hsz : (s :: l).length * 16 ≤ 150000000000000 := by have := hwf.1; simp only [wfD, List.length_map] at this; exact this.1
    clear hwf
    have z2 : (s :: l).length ≤ 9223372036854775807 := by omega
    simp only [List.length_cons] at hsz z2
    simp only [argS, List.nil_append, dStrs, List.map_cons]
    (repeat (first | (refine DW_seq fun K hK => ?_) | (refine DW_r anWB12157b3 Try.mixed (by kernel_rfl) ?_; simp [hnt, Try.ntmps157, Try.results157, anWB12157b3, hsz, z2]; try simp (disch := omega) only [wrap64_in]) | (refine DW_block ?_) | (focus (refine DW_if ?_ ?_ ?_; (· (simp [hnt, Try.ntmps157, Try.results157, anWB12157b3, hsz, z2]; done)); (try (rotate_left; (· (intro hc; (try simp [hnt, Try.ntmps157, Try.results157, anWB12157b3, hsz, z2] at hc); done)))))) | (refine DW_ret ?_; simp [hnt, Try.ntmps157, Try.results157, anWB12157b3, hsz, z2]) | (refine DW_exit ?_; simp [hnt, Try.ntmps157, Try.results157, anWB12157b3, hsz, z2]) | (refine DW_skip ?_; simp [hnt, Try.ntmps157, Try.results157, anWB12157b3, hsz, z2]) | (intro hc; (try simp [hnt, Try.ntmps157, Try.results157, anWB12157b3, hsz, z2] at hc); done) | (intro hc; (try simp [hnt, Try.ntmps157, Try.results157, anWB12157b3, hsz, z2] at hc); (first | (exfalso; omega) | skip)) | (refine ⟨?_, ?_⟩; · omega) | omega | apply_assumption -exfalso -symm | (exfalso; omega)))

def anWB12173 : Ann := ⟨[7], []⟩
theorem tell_spec (x : Edge) (l : List ByteArray) (hz : (l.length + 1) * 16 ≤ 150000000000000) :
    DSpec Try.prog (.func 173) [.agg (dEdge x), .bx 0 0 0] [⟨0, 0, .box [.osl 1 0]⟩, ⟨1, 0, .row 9 1 16 (l.map dStr)⟩] (.tup []) [⟨0, 0, .box [.osl 1 1]⟩, ⟨1, 1, .row 9 1 16 ((l ++ [x.lb]).map dStr)⟩] := by
  refine DSpec_intro [] [(0, 0, 0), (1, 1, 1)] (fn := Try.f173) Try.func173 rfl Try.call173 (by simp [Try.ntmps173]) (by simp) (by simp) ?_
  intro hwf B hnt
  simp only [argS]
  have z2 : l.length + 1 ≤ 9223372036854775807 := by omega
  (repeat (first | (refine DW_seq fun K hK => ?_) | (refine DW_r anWB12173 Try.mixed (by kernel_rfl) ?_; simp [hnt, Try.ntmps173, Try.results173, anWB12173, dEdge, dStr, hz, z2]; try simp (disch := omega) only [wrap64_in]) | (refine DW_block ?_) | (focus (refine DW_if ?_ ?_ ?_; (· (simp [hnt, Try.ntmps173, Try.results173, anWB12173, dEdge, dStr, hz, z2]; done)); (try (rotate_left; (· (intro hc; (try simp [hnt, Try.ntmps173, Try.results173, anWB12173, dEdge, dStr, hz, z2] at hc); done)))))) | (refine DW_ret ?_; simp [hnt, Try.ntmps173, Try.results173, anWB12173, dEdge, dStr, hz, z2]) | (refine DW_exit ?_; simp [hnt, Try.ntmps173, Try.results173, anWB12173, dEdge, dStr, hz, z2]) | (refine DW_skip ?_; simp [hnt, Try.ntmps173, Try.results173, anWB12173, dEdge, dStr, hz, z2]) | (intro hc; (try simp [hnt, Try.ntmps173, Try.results173, anWB12173, dEdge, dStr, hz, z2] at hc); done) | (intro hc; (try simp [hnt, Try.ntmps173, Try.results173, anWB12173, dEdge, dStr, hz, z2] at hc); (first | (exfalso; omega) | skip)) | (refine ⟨?_, ?_⟩; · omega) | omega | apply_assumption -exfalso -symm | (exfalso; omega)))
end Go.Proofs.Ytihkcegelghcpaa
end

section
/- the program's labels and lone nodes of a graph -/

set_option linter.unusedSimpArgs false
set_option linter.unusedVariables false
namespace Go.Proofs.Ytihkcegelghcpaa
open Go Go.Dm
attribute [local irreducible] DW callP callS
set_option maxRecDepth 100000

def anWB13137 : Ann := ⟨[17, 20, 22], [⟨5, [6], [], []⟩]⟩
set_option maxHeartbeats 1000000 in
theorem labels137_pure (g : Edges) : DPure Try.prog 137 [.agg (dGr g)] (dStrs (uniqS (labelsL g.edges))) := by
  refine DPure_introF [] (fn := Try.f137) Try.func137 rfl Try.call137 (by simp [Try.ntmps137]) (by simp [mx]) ?_
  intro hwf B hnt
  obtain ⟨ns, es⟩ := g
  have hs2 : es.length * 48 ≤ 150000000000000 := by have := hwf.1; simp only [wfD, dGr, wfL, List.length_map] at this; exact this.2.1.1
  clear hwf
  simp only [argS]
  obtain ⟨R, hR⟩ : ∃ R, R = uniqS (labelsL es) := ⟨_, rfl⟩
  rw [← hR]
  (repeat (first | (refine DW_seq fun K hK => ?_) | (refine DW_r anWB13137 Try.mixed (by kernel_rfl) ?_; simp [hnt, Try.ntmps137, Try.results137, anWB13137, dGr]; try simp (disch := omega) only [wrap64_in]) | (refine DW_block ?_) | (focus (refine DW_if ?_ ?_ ?_; (· (simp [hnt, Try.ntmps137, Try.results137, anWB13137, dGr]; done)); (try (rotate_left; (· (intro hc; (try simp [hnt, Try.ntmps137, Try.results137, anWB13137, dGr] at hc); done)))))) | (refine DW_ret ?_; simp [hnt, Try.ntmps137, Try.results137, anWB13137, dGr]) | (refine DW_exit ?_; simp [hnt, Try.ntmps137, Try.results137, anWB13137, dGr]) | (refine DW_skip ?_; simp [hnt, Try.ntmps137, Try.results137, anWB13137, dGr]) | (intro hc; (try simp [hnt, Try.ntmps137, Try.results137, anWB13137, dGr] at hc); done) | (intro hc; (try simp [hnt, Try.ntmps137, Try.results137, anWB13137, dGr] at hc); (first | (exfalso; omega) | skip)) | (refine ⟨?_, ?_⟩; · omega) | omega | apply_assumption -exfalso -symm | (exfalso; omega)))
  refine DW_adoptC 3 0 50 9 1 16 (by simp) (fun n => ?_)
  refine DW_loop (X := {k : Nat // k ≤ es.length}) (fun k => ⟨[(3, .bx 3 1 0), (4, .fn (.func 173) [] [.bx 3 1 0]), (9, dEds es), (10, .int .i64 es.length), (11, .int .i64 k.1)], [⟨3, 1, .box [.osl 50 1]⟩, ⟨50, 1, .row 9 1 16 ((labelsL (es.take k.1)).map dStr)⟩]⟩) (fun k => es.length - k.1) ⟨0, by omega⟩ (Sub.lit (by simp [labelsL])) ?_
  rintro ⟨k, hk⟩
  by_cases hlt : k < es.length
  · obtain ⟨x, hx, hx', hxm⟩ := at_lt' hlt
    have htk : labelsL (es.take (k + 1)) = labelsL (es.take k) ++ [x.lb] := by unfold labelsL; rw [List.take_succ_eq_append_getElem hlt, hx', List.map_append]; rfl
    have hl1 : (labelsL (es.take k)).length = k := by simp [labelsL]; omega
    obtain ⟨T, hT⟩ : ∃ T, T = labelsL (es.take k) := ⟨_, rfl⟩
    rw [← hT] at htk hl1 ⊢
    have e1 := tell_spec x T (by omega)
    simp only [dEdge] at e1
    (repeat (first | (refine DW_seq fun K hK => ?_) | (refine DW_r anWB13137 Try.mixed (by kernel_rfl) ?_; simp [hnt, Try.ntmps137, Try.results137, anWB13137, dEdge, hlt, hx, hx']; try simp (disch := omega) only [wrap64_in]) | (refine DW_block ?_) | (focus (refine DW_if ?_ ?_ ?_; (· (simp [hnt, Try.ntmps137, Try.results137, anWB13137, dEdge, hlt, hx, hx']; done)); (try (rotate_left; (· (intro hc; (try simp [hnt, Try.ntmps137, Try.results137, anWB13137, dEdge, hlt, hx, hx'] at hc); done)))))) | (refine DW_ret ?_; simp [hnt, Try.ntmps137, Try.results137, anWB13137, dEdge, hlt, hx, hx']) | (refine DW_exit ?_; simp [hnt, Try.ntmps137, Try.results137, anWB13137, dEdge, hlt, hx, hx']) | (refine DW_skip ?_; simp [hnt, Try.ntmps137, Try.results137, anWB13137, dEdge, hlt, hx, hx']) | (intro hc; (try simp [hnt, Try.ntmps137, Try.results137, anWB13137, dEdge, hlt, hx, hx'] at hc); done) | (intro hc; (try simp [hnt, Try.ntmps137, Try.results137, anWB13137, dEdge, hlt, hx, hx'] at hc); (first | (exfalso; omega) | skip)) | (refine callS_mk [(3,0),(50,1)] [] (e1) ?_ ?_; (· (simp [hnt, Try.ntmps137, Try.results137, anWB13137, dEdge, hlt, hx, hx']; done)); (intro _; try simp [hnt, Try.ntmps137, Try.results137, anWB13137, dEdge, hlt, hx, hx'])) | (refine ⟨?_, ?_⟩; · omega) | omega | apply_assumption -exfalso -symm | (exfalso; omega)))
    refine Again.mk ⟨k + 1, by omega⟩ (Sub.lit (by simp [htk, dStr])) (by simp; omega)
    (repeat (first | (refine DW_seq fun K hK => ?_) | (refine DW_r anWB13137 Try.mixed (by kernel_rfl) ?_; simp [hnt, Try.ntmps137, Try.results137, anWB13137]; try simp (disch := omega) only [wrap64_in]) | (refine DW_block ?_) | (focus (refine DW_if ?_ ?_ ?_; (· (simp [hnt, Try.ntmps137, Try.results137, anWB13137]; done)); (try (rotate_left; (· (intro hc; (try simp [hnt, Try.ntmps137, Try.results137, anWB13137] at hc); done)))))) | (refine DW_ret ?_; simp [hnt, Try.ntmps137, Try.results137, anWB13137]) | (refine DW_exit ?_; simp [hnt, Try.ntmps137, Try.results137, anWB13137]) | (refine DW_skip ?_; simp [hnt, Try.ntmps137, Try.results137, anWB13137]) | (intro hc; (try simp [hnt, Try.ntmps137, Try.results137, anWB13137] at hc); done) | (intro hc; (try simp [hnt, Try.ntmps137, Try.results137, anWB13137] at hc); (first | (exfalso; omega) | skip)) | (refine callS_mk [(3,0),(50,1)] [] (e1) ?_ ?_; (· (simp [hnt, Try.ntmps137, Try.results137, anWB13137]; done)); (intro _; try simp [hnt, Try.ntmps137, Try.results137, anWB13137])) | (refine ⟨?_, ?_⟩; · omega) | omega | apply_assumption -exfalso -symm | (exfalso; omega)))
  · have hkk : k = es.length := by omega
    subst hkk
    rw [List.take_length]
    have hR2 : R = compL eqT (ssort (labelsL es)) := hR
    clear hR
    obtain ⟨T, hT⟩ : ∃ T, T = labelsL es := ⟨_, rfl⟩
    rw [← hT] at hR2 ⊢
    have e1 := sortTexts_spec T
    have e2 := compact175_spec (ssort T)
    rw [← hR2] at e2
    have e3 := cloneS_pure R
    (repeat (first | (refine DW_seq fun K hK => ?_) | (refine DW_r anWB13137 Try.mixed (by kernel_rfl) ?_; simp [hnt, Try.ntmps137, Try.results137, anWB13137]; try simp (disch := omega) only [wrap64_in]) | (refine DW_block ?_) | (focus (refine DW_if ?_ ?_ ?_; (· (simp [hnt, Try.ntmps137, Try.results137, anWB13137]; done)); (try (rotate_left; (· (intro hc; (try simp [hnt, Try.ntmps137, Try.results137, anWB13137] at hc); done)))))) | (refine DW_ret ?_; simp [hnt, Try.ntmps137, Try.results137, anWB13137]) | (refine DW_exit ?_; simp [hnt, Try.ntmps137, Try.results137, anWB13137]) | (refine DW_skip ?_; simp [hnt, Try.ntmps137, Try.results137, anWB13137]) | (intro hc; (try simp [hnt, Try.ntmps137, Try.results137, anWB13137] at hc); done) | (intro hc; (try simp [hnt, Try.ntmps137, Try.results137, anWB13137] at hc); (first | (exfalso; omega) | skip)) | (refine callP_mk (e3) ?_; try simp [hnt, Try.ntmps137, Try.results137, anWB13137]) | (refine callP_wk (e3) ?_ ?_; (· (simp; done)); try simp [hnt, Try.ntmps137, Try.results137, anWB13137]) | (refine callS_mk [(50,0)] [] (e1) ?_ ?_; (· (simp [hnt, Try.ntmps137, Try.results137, anWB13137]; done)); (intro _; try simp [hnt, Try.ntmps137, Try.results137, anWB13137])) | (refine callS_mk [(50,0)] [] (e2) ?_ ?_; (· (simp [hnt, Try.ntmps137, Try.results137, anWB13137]; done)); (intro _; try simp [hnt, Try.ntmps137, Try.results137, anWB13137])) | (refine ⟨?_, ?_⟩; · omega) | omega | apply_assumption -exfalso -symm | (exfalso; omega)))

def intsV (l : List Int) : List DVal := l.map fun n => .int .i64 n
theorem intsV_set (l : List Int) (j : Nat) (n : Int) : (intsV l).set j (.int .i64 n) = intsV (l.set j n) := by simp [intsV, List.map_set]
theorem intsV_app (l : List Int) (n : Int) : intsV l ++ [.int .i64 n] = intsV (l ++ [n]) := by simp [intsV]
@[simp] theorem mxL_ints (l : List Int) : mxL (intsV l) = 0 := by
  unfold intsV
  induction l with
  | nil => rfl
  | cons a l ih => simp [mxL, mx, ih]
/-- how often texts have come: as far as it counts -/
structure Cnt (K : List ByteArray) (V : List Int) (es : List ByteArray) : Prop where
  len : K.length = V.length
  mem : ∀ s, s ∈ K ↔ s ∈ es
  val : ∀ v ∈ V, 1 ≤ v ∧ v ≤ es.length
theorem strsD_app (l : List ByteArray) (s : ByteArray) : strsD l ++ [.str s] = strsD (l ++ [s]) := by simp [strsD]
theorem Cnt.step {K : List ByteArray} {V : List Int} {es : List ByteArray} (h : Cnt K V es) (s : ByteArray) :
    (∃ j d, lookI (strsD K) (.str s) = some j ∧ (intsV V)[j]? = some (.int .i64 d) ∧ 1 ≤ d ∧ d ≤ es.length ∧ Cnt K (V.set j (d + 1)) (es ++ [s])) ∨
    (lookI (strsD K) (.str s) = none ∧ Cnt (K ++ [s]) (V ++ [1]) (es ++ [s])) := by
  by_cases hs : s ∈ K
  · obtain ⟨j, h1, h2⟩ := lookS_some hs
    have h3 : j < V.length := by rw [← h.len]; exact h2
    have hv := h.val V[j] (List.getElem_mem h3)
    refine .inl ⟨j, V[j], h1, by simp [intsV, h3], hv.1, hv.2, by simp [h.len], fun x => ?_, fun v hv' => ?_⟩
    · rw [h.mem x, List.mem_append]
      constructor
      · exact .inl
      · rintro (hx | hx)
        · exact hx
        · simp only [List.mem_singleton] at hx
          subst hx
          exact (h.mem x).1 hs
    · rcases List.mem_or_eq_of_mem_set hv' with h4 | rfl
      · have := h.val v h4; simp; omega
      · simp; omega
  · refine .inr ⟨lookS_none hs, by simp [h.len], fun x => by simp [h.mem x], fun v hv => ?_⟩
    rcases List.mem_append.1 hv with h4 | h4
    · have := h.val v h4; simp; omega
    · simp only [List.mem_singleton] at h4
      subst h4
      simp
      omega

def anWB13176 : Ann := ⟨[], [⟨4, [5], [], []⟩]⟩
set_option maxHeartbeats 4000000 in
theorem lone176_pure (g : Edges) : DPure Try.prog 176 [.agg (dGr g)] (dStrs (loneL g)) := by
  refine DPure_introF [6] (fn := Try.f176) Try.func176 rfl Try.call176 (by simp [Try.ntmps176]) (by simp [mx]) ?_
  intro hwf B hnt
  obtain ⟨ns, es⟩ := g
  have hs1 : ns.length * 16 ≤ 150000000000000 := by have := hwf.1; simp only [wfD, dGr, wfL, List.length_map] at this; exact this.1.1
  have hs2 : es.length * 48 ≤ 150000000000000 := by have := hwf.1; simp only [wfD, dGr, wfL, List.length_map] at this; exact this.2.1.1
  clear hwf
  simp only [argS]
  obtain ⟨R, hR⟩ : ∃ R, R = loneL ⟨ns, es⟩ := ⟨_, rfl⟩
  rw [← hR]
  (repeat (first | (refine DW_seq fun K hK => ?_) | (refine DW_r anWB13176 Try.mixed (by kernel_rfl) ?_; simp [hnt, Try.ntmps176, Try.results176, anWB13176, dGr]; try simp (disch := omega) only [wrap64_in]) | (refine DW_block ?_) | (focus (refine DW_if ?_ ?_ ?_; (· (simp [hnt, Try.ntmps176, Try.results176, anWB13176, dGr]; done)); (try (rotate_left; (· (intro hc; (try simp [hnt, Try.ntmps176, Try.results176, anWB13176, dGr] at hc); done)))))) | (refine DW_ret ?_; simp [hnt, Try.ntmps176, Try.results176, anWB13176, dGr]) | (refine DW_exit ?_; simp [hnt, Try.ntmps176, Try.results176, anWB13176, dGr]) | (refine DW_skip ?_; simp [hnt, Try.ntmps176, Try.results176, anWB13176, dGr]) | (intro hc; (try simp [hnt, Try.ntmps176, Try.results176, anWB13176, dGr] at hc); done) | (intro hc; (try simp [hnt, Try.ntmps176, Try.results176, anWB13176, dGr] at hc); (first | (exfalso; omega) | skip)) | (refine ⟨?_, ?_⟩; · omega) | omega | apply_assumption -exfalso -symm | (exfalso; omega)))
  refine DW_loop (X := {x : Nat × List ByteArray × List Int // x.1 ≤ es.length ∧ Cnt x.2.1 x.2.2 (endsL (es.take x.1))}) (fun x => ⟨[(1, .ref [dStrs ns, dEds es]), (3, .omp 9 1), (11, dEds es), (12, .int .i64 es.length), (13, .int .i64 x.1.1)], [⟨9, 1, .map (strsD x.1.2.1) (intsV x.1.2.2)⟩]⟩) (fun x => es.length - x.1.1)
    ⟨(0, [], []), by simp, by simp, by simp [endsL], by simp⟩ (Sub.lit (by simp [strsD, intsV])) ?_
  rintro ⟨⟨k, Ks, V⟩, hk, hC⟩
  simp only at hk hC ⊢
  by_cases hlt : k < es.length
  · obtain ⟨x, hx, hx', hxm⟩ := at_lt' hlt
    have htk := endsL_take hx
    have hel : (endsL (es.take k)).length = 2 * k := by rw [endsL_len, List.length_take]; omega
    have hks := keyStrs Ks
    have happ : ∀ C : List ByteArray, endsL (es.take k) ++ [x.fr] ++ [x.to] = endsL (es.take (k + 1)) := fun _ => by rw [htk]; simp
    rcases hC.step x.fr with ⟨j, d, l1, v1, d1, d2, hC1⟩ | ⟨l1, hC1⟩
    · rw [hel] at d2
      have w1 : IntKind.i64.wrap (d + 1) = d + 1 := wrap64_in (by omega) (by omega)
      have st1 := intsV_set V j (d + 1)
      rcases hC1.step x.to with ⟨j2, e, l2, v2, e1, e2, hC2⟩ | ⟨l2, hC2⟩
      · simp only [List.length_append, List.length_cons, List.length_nil, hel] at e2
        have w2 : IntKind.i64.wrap (e + 1) = e + 1 := wrap64_in (by omega) (by omega)
        have st2 := intsV_set (V.set j (d + 1)) j2 (e + 1)
        rw [happ Ks] at hC2
        (repeat (first | (refine DW_seq fun K hK => ?_) | (refine DW_r anWB13176 Try.mixed (by kernel_rfl) ?_; simp [hnt, Try.ntmps176, Try.results176, anWB13176, dEdge, hlt, hx, hx', hks, l1, v1, w1, st1, l2, v2, w2, st2]; try simp (disch := omega) only [wrap64_in]) | (refine DW_block ?_) | (focus (refine DW_if ?_ ?_ ?_; (· (simp [hnt, Try.ntmps176, Try.results176, anWB13176, dEdge, hlt, hx, hx', hks, l1, v1, w1, st1, l2, v2, w2, st2]; done)); (try (rotate_left; (· (intro hc; (try simp [hnt, Try.ntmps176, Try.results176, anWB13176, dEdge, hlt, hx, hx', hks, l1, v1, w1, st1, l2, v2, w2, st2] at hc); done)))))) | (refine DW_ret ?_; simp [hnt, Try.ntmps176, Try.results176, anWB13176, dEdge, hlt, hx, hx', hks, l1, v1, w1, st1, l2, v2, w2, st2]) | (refine DW_exit ?_; simp [hnt, Try.ntmps176, Try.results176, anWB13176, dEdge, hlt, hx, hx', hks, l1, v1, w1, st1, l2, v2, w2, st2]) | (refine DW_skip ?_; simp [hnt, Try.ntmps176, Try.results176, anWB13176, dEdge, hlt, hx, hx', hks, l1, v1, w1, st1, l2, v2, w2, st2]) | (intro hc; (try simp [hnt, Try.ntmps176, Try.results176, anWB13176, dEdge, hlt, hx, hx', hks, l1, v1, w1, st1, l2, v2, w2, st2] at hc); done) | (intro hc; (try simp [hnt, Try.ntmps176, Try.results176, anWB13176, dEdge, hlt, hx, hx', hks, l1, v1, w1, st1, l2, v2, w2, st2] at hc); (first | (exfalso; omega) | skip)) | (refine ⟨?_, ?_⟩; · omega) | omega | apply_assumption -exfalso -symm | (exfalso; omega)))
        refine Again.mk ⟨(k + 1, Ks, (V.set j (d + 1)).set j2 (e + 1)), show k + 1 ≤ es.length ∧ Cnt Ks ((V.set j (d + 1)).set j2 (e + 1)) (endsL (es.take (k + 1))) from ⟨by omega, hC2⟩⟩ (Sub.lit (by simp)) (by simp; omega)
        (repeat (first | (refine DW_seq fun K hK => ?_) | (refine DW_r anWB13176 Try.mixed (by kernel_rfl) ?_; simp [hnt, Try.ntmps176, Try.results176, anWB13176]; try simp (disch := omega) only [wrap64_in]) | (refine DW_block ?_) | (focus (refine DW_if ?_ ?_ ?_; (· (simp [hnt, Try.ntmps176, Try.results176, anWB13176]; done)); (try (rotate_left; (· (intro hc; (try simp [hnt, Try.ntmps176, Try.results176, anWB13176] at hc); done)))))) | (refine DW_ret ?_; simp [hnt, Try.ntmps176, Try.results176, anWB13176]) | (refine DW_exit ?_; simp [hnt, Try.ntmps176, Try.results176, anWB13176]) | (refine DW_skip ?_; simp [hnt, Try.ntmps176, Try.results176, anWB13176]) | (intro hc; (try simp [hnt, Try.ntmps176, Try.results176, anWB13176] at hc); done) | (intro hc; (try simp [hnt, Try.ntmps176, Try.results176, anWB13176] at hc); (first | (exfalso; omega) | skip)) | (refine ⟨?_, ?_⟩; · omega) | omega | apply_assumption -exfalso -symm | (exfalso; omega)))
      · rw [happ Ks] at hC2
        have st2 := intsV_app (V.set j (d + 1)) 1
        have sk2 := strsD_app Ks x.to
        (repeat (first | (refine DW_seq fun K hK => ?_) | (refine DW_r anWB13176 Try.mixed (by kernel_rfl) ?_; simp [hnt, Try.ntmps176, Try.results176, anWB13176, dEdge, hlt, hx, hx', hks, l1, v1, w1, st1, l2, st2, sk2]; try simp (disch := omega) only [wrap64_in]) | (refine DW_block ?_) | (focus (refine DW_if ?_ ?_ ?_; (· (simp [hnt, Try.ntmps176, Try.results176, anWB13176, dEdge, hlt, hx, hx', hks, l1, v1, w1, st1, l2, st2, sk2]; done)); (try (rotate_left; (· (intro hc; (try simp [hnt, Try.ntmps176, Try.results176, anWB13176, dEdge, hlt, hx, hx', hks, l1, v1, w1, st1, l2, st2, sk2] at hc); done)))))) | (refine DW_ret ?_; simp [hnt, Try.ntmps176, Try.results176, anWB13176, dEdge, hlt, hx, hx', hks, l1, v1, w1, st1, l2, st2, sk2]) | (refine DW_exit ?_; simp [hnt, Try.ntmps176, Try.results176, anWB13176, dEdge, hlt, hx, hx', hks, l1, v1, w1, st1, l2, st2, sk2]) | (refine DW_skip ?_; simp [hnt, Try.ntmps176, Try.results176, anWB13176, dEdge, hlt, hx, hx', hks, l1, v1, w1, st1, l2, st2, sk2]) | (intro hc; (try simp [hnt, Try.ntmps176, Try.results176, anWB13176, dEdge, hlt, hx, hx', hks, l1, v1, w1, st1, l2, st2, sk2] at hc); done) | (intro hc; (try simp [hnt, Try.ntmps176, Try.results176, anWB13176, dEdge, hlt, hx, hx', hks, l1, v1, w1, st1, l2, st2, sk2] at hc); (first | (exfalso; omega) | skip)) | (refine ⟨?_, ?_⟩; · omega) | omega | apply_assumption -exfalso -symm | (exfalso; omega)))
        refine Again.mk ⟨(k + 1, Ks ++ [x.to], V.set j (d + 1) ++ [1]), show k + 1 ≤ es.length ∧ Cnt (Ks ++ [x.to]) (V.set j (d + 1) ++ [1]) (endsL (es.take (k + 1))) from ⟨by omega, hC2⟩⟩ (Sub.lit (by simp)) (by simp; omega)
        (repeat (first | (refine DW_seq fun K hK => ?_) | (refine DW_r anWB13176 Try.mixed (by kernel_rfl) ?_; simp [hnt, Try.ntmps176, Try.results176, anWB13176]; try simp (disch := omega) only [wrap64_in]) | (refine DW_block ?_) | (focus (refine DW_if ?_ ?_ ?_; (· (simp [hnt, Try.ntmps176, Try.results176, anWB13176]; done)); (try (rotate_left; (· (intro hc; (try simp [hnt, Try.ntmps176, Try.results176, anWB13176] at hc); done)))))) | (refine DW_ret ?_; simp [hnt, Try.ntmps176, Try.results176, anWB13176]) | (refine DW_exit ?_; simp [hnt, Try.ntmps176, Try.results176, anWB13176]) | (refine DW_skip ?_; simp [hnt, Try.ntmps176, Try.results176, anWB13176]) | (intro hc; (try simp [hnt, Try.ntmps176, Try.results176, anWB13176] at hc); done) | (intro hc; (try simp [hnt, Try.ntmps176, Try.results176, anWB13176] at hc); (first | (exfalso; omega) | skip)) | (refine ⟨?_, ?_⟩; · omega) | omega | apply_assumption -exfalso -symm | (exfalso; omega)))
    · have st1 := intsV_app V 1
      have sk1 := strsD_app Ks x.fr
      have hks1 := keyStrs (Ks ++ [x.fr])
      rcases hC1.step x.to with ⟨j2, e, l2, v2, e1, e2, hC2⟩ | ⟨l2, hC2⟩
      · simp only [List.length_append, List.length_cons, List.length_nil, hel] at e2
        have w2 : IntKind.i64.wrap (e + 1) = e + 1 := wrap64_in (by omega) (by omega)
        have st2 := intsV_set (V ++ [1]) j2 (e + 1)
        rw [happ Ks] at hC2
        (repeat (first | (refine DW_seq fun K hK => ?_) | (refine DW_r anWB13176 Try.mixed (by kernel_rfl) ?_; simp [hnt, Try.ntmps176, Try.results176, anWB13176, dEdge, hlt, hx, hx', hks, l1, st1, sk1, hks1, l2, v2, w2, st2]; try simp (disch := omega) only [wrap64_in]) | (refine DW_block ?_) | (focus (refine DW_if ?_ ?_ ?_; (· (simp [hnt, Try.ntmps176, Try.results176, anWB13176, dEdge, hlt, hx, hx', hks, l1, st1, sk1, hks1, l2, v2, w2, st2]; done)); (try (rotate_left; (· (intro hc; (try simp [hnt, Try.ntmps176, Try.results176, anWB13176, dEdge, hlt, hx, hx', hks, l1, st1, sk1, hks1, l2, v2, w2, st2] at hc); done)))))) | (refine DW_ret ?_; simp [hnt, Try.ntmps176, Try.results176, anWB13176, dEdge, hlt, hx, hx', hks, l1, st1, sk1, hks1, l2, v2, w2, st2]) | (refine DW_exit ?_; simp [hnt, Try.ntmps176, Try.results176, anWB13176, dEdge, hlt, hx, hx', hks, l1, st1, sk1, hks1, l2, v2, w2, st2]) | (refine DW_skip ?_; simp [hnt, Try.ntmps176, Try.results176, anWB13176, dEdge, hlt, hx, hx', hks, l1, st1, sk1, hks1, l2, v2, w2, st2]) | (intro hc; (try simp [hnt, Try.ntmps176, Try.results176, anWB13176, dEdge, hlt, hx, hx', hks, l1, st1, sk1, hks1, l2, v2, w2, st2] at hc); done) | (intro hc; (try simp [hnt, Try.ntmps176, Try.results176, anWB13176, dEdge, hlt, hx, hx', hks, l1, st1, sk1, hks1, l2, v2, w2, st2] at hc); (first | (exfalso; omega) | skip)) | (refine ⟨?_, ?_⟩; · omega) | omega | apply_assumption -exfalso -symm | (exfalso; omega)))
        refine Again.mk ⟨(k + 1, Ks ++ [x.fr], (V ++ [1]).set j2 (e + 1)), show k + 1 ≤ es.length ∧ Cnt (Ks ++ [x.fr]) ((V ++ [1]).set j2 (e + 1)) (endsL (es.take (k + 1))) from ⟨by omega, hC2⟩⟩ (Sub.lit (by simp)) (by simp; omega)
        (repeat (first | (refine DW_seq fun K hK => ?_) | (refine DW_r anWB13176 Try.mixed (by kernel_rfl) ?_; simp [hnt, Try.ntmps176, Try.results176, anWB13176]; try simp (disch := omega) only [wrap64_in]) | (refine DW_block ?_) | (focus (refine DW_if ?_ ?_ ?_; (· (simp [hnt, Try.ntmps176, Try.results176, anWB13176]; done)); (try (rotate_left; (· (intro hc; (try simp [hnt, Try.ntmps176, Try.results176, anWB13176] at hc); done)))))) | (refine DW_ret ?_; simp [hnt, Try.ntmps176, Try.results176, anWB13176]) | (refine DW_exit ?_; simp [hnt, Try.ntmps176, Try.results176, anWB13176]) | (refine DW_skip ?_; simp [hnt, Try.ntmps176, Try.results176, anWB13176]) | (intro hc; (try simp [hnt, Try.ntmps176, Try.results176, anWB13176] at hc); done) | (intro hc; (try simp [hnt, Try.ntmps176, Try.results176, anWB13176] at hc); (first | (exfalso; omega) | skip)) | (refine ⟨?_, ?_⟩; · omega) | omega | apply_assumption -exfalso -symm | (exfalso; omega)))
      · rw [happ Ks] at hC2
        have st2 := intsV_app (V ++ [1]) 1
        have sk2 := strsD_app (Ks ++ [x.fr]) x.to
        (repeat (first | (refine DW_seq fun K hK => ?_) | (refine DW_r anWB13176 Try.mixed (by kernel_rfl) ?_; simp [hnt, Try.ntmps176, Try.results176, anWB13176, dEdge, hlt, hx, hx', hks, l1, st1, sk1, hks1, l2, st2, sk2]; try simp (disch := omega) only [wrap64_in]) | (refine DW_block ?_) | (focus (refine DW_if ?_ ?_ ?_; (· (simp [hnt, Try.ntmps176, Try.results176, anWB13176, dEdge, hlt, hx, hx', hks, l1, st1, sk1, hks1, l2, st2, sk2]; done)); (try (rotate_left; (· (intro hc; (try simp [hnt, Try.ntmps176, Try.results176, anWB13176, dEdge, hlt, hx, hx', hks, l1, st1, sk1, hks1, l2, st2, sk2] at hc); done)))))) | (refine DW_ret ?_; simp [hnt, Try.ntmps176, Try.results176, anWB13176, dEdge, hlt, hx, hx', hks, l1, st1, sk1, hks1, l2, st2, sk2]) | (refine DW_exit ?_; simp [hnt, Try.ntmps176, Try.results176, anWB13176, dEdge, hlt, hx, hx', hks, l1, st1, sk1, hks1, l2, st2, sk2]) | (refine DW_skip ?_; simp [hnt, Try.ntmps176, Try.results176, anWB13176, dEdge, hlt, hx, hx', hks, l1, st1, sk1, hks1, l2, st2, sk2]) | (intro hc; (try simp [hnt, Try.ntmps176, Try.results176, anWB13176, dEdge, hlt, hx, hx', hks, l1, st1, sk1, hks1, l2, st2, sk2] at hc); done) | (intro hc; (try simp [hnt, Try.ntmps176, Try.results176, anWB13176, dEdge, hlt, hx, hx', hks, l1, st1, sk1, hks1, l2, st2, sk2] at hc); (first | (exfalso; omega) | skip)) | (refine ⟨?_, ?_⟩; · omega) | omega | apply_assumption -exfalso -symm | (exfalso; omega)))
        refine Again.mk ⟨(k + 1, Ks ++ [x.fr] ++ [x.to], V ++ [1] ++ [1]), show k + 1 ≤ es.length ∧ Cnt (Ks ++ [x.fr] ++ [x.to]) (V ++ [1] ++ [1]) (endsL (es.take (k + 1))) from ⟨by omega, hC2⟩⟩ (Sub.lit (by simp)) (by simp; omega)
        (repeat (first | (refine DW_seq fun K hK => ?_) | (refine DW_r anWB13176 Try.mixed (by kernel_rfl) ?_; simp [hnt, Try.ntmps176, Try.results176, anWB13176]; try simp (disch := omega) only [wrap64_in]) | (refine DW_block ?_) | (focus (refine DW_if ?_ ?_ ?_; (· (simp [hnt, Try.ntmps176, Try.results176, anWB13176]; done)); (try (rotate_left; (· (intro hc; (try simp [hnt, Try.ntmps176, Try.results176, anWB13176] at hc); done)))))) | (refine DW_ret ?_; simp [hnt, Try.ntmps176, Try.results176, anWB13176]) | (refine DW_exit ?_; simp [hnt, Try.ntmps176, Try.results176, anWB13176]) | (refine DW_skip ?_; simp [hnt, Try.ntmps176, Try.results176, anWB13176]) | (intro hc; (try simp [hnt, Try.ntmps176, Try.results176, anWB13176] at hc); done) | (intro hc; (try simp [hnt, Try.ntmps176, Try.results176, anWB13176] at hc); (first | (exfalso; omega) | skip)) | (refine ⟨?_, ?_⟩; · omega) | omega | apply_assumption -exfalso -symm | (exfalso; omega)))
  · have hkk : k = es.length := by omega
    subst hkk
    rw [List.take_length] at hC
    have hks := keyStrs Ks
    have hRd : R = ns.filter fun n => !decide (n ∈ Ks) := by
      rw [hR]
      unfold loneL
      congr 1
      funext n
      simp only [hC.mem n]
    clear hR
    (repeat (first | (refine DW_seq fun K hK => ?_) | (refine DW_r anWB13176 Try.mixed (by kernel_rfl) ?_; simp [hnt, Try.ntmps176, Try.results176, anWB13176]; try simp (disch := omega) only [wrap64_in]) | (refine DW_block ?_) | (focus (refine DW_if ?_ ?_ ?_; (· (simp [hnt, Try.ntmps176, Try.results176, anWB13176]; done)); (try (rotate_left; (· (intro hc; (try simp [hnt, Try.ntmps176, Try.results176, anWB13176] at hc); done)))))) | (refine DW_ret ?_; simp [hnt, Try.ntmps176, Try.results176, anWB13176]) | (refine DW_exit ?_; simp [hnt, Try.ntmps176, Try.results176, anWB13176]) | (refine DW_skip ?_; simp [hnt, Try.ntmps176, Try.results176, anWB13176]) | (intro hc; (try simp [hnt, Try.ntmps176, Try.results176, anWB13176] at hc); done) | (intro hc; (try simp [hnt, Try.ntmps176, Try.results176, anWB13176] at hc); (first | (exfalso; omega) | skip)) | (refine ⟨?_, ?_⟩; · omega) | omega | apply_assumption -exfalso -symm | (exfalso; omega)))
    refine DW_adoptS 6 6 9 1 16 (by simp [hnt, Try.ntmps176]) (fun n6 => ?_)
    refine DW_loop (X := {k : Nat // k ≤ ns.length}) (fun k => ⟨[(3, .omp 9 1), (6, .osl 6 1), (29, dStrs ns), (30, .int .i64 ns.length), (31, .int .i64 k.1)], [⟨9, 1, .map (strsD Ks) (intsV V)⟩, ⟨6, 1, .row 9 1 16 (((ns.take k.1).filter fun n => !decide (n ∈ Ks)).map dStr)⟩]⟩) (fun k => ns.length - k.1) ⟨0, by omega⟩ (Sub.lit (by simp)) ?_
    rintro ⟨k, hk⟩
    by_cases hlt : k < ns.length
    · obtain ⟨x, hx, hx', hxm⟩ := at_lt' hlt
      have htk : (ns.take (k + 1)).filter (fun n => !decide (n ∈ Ks)) = (ns.take k).filter (fun n => !decide (n ∈ Ks)) ++ (if x ∈ Ks then [] else [x]) := by
        rw [List.take_succ_eq_append_getElem hlt, hx', List.filter_append]
        by_cases hxu : x ∈ Ks <;> simp [hxu]
      have hl1 : ((ns.take k).filter fun n => !decide (n ∈ Ks)).length ≤ k := Nat.le_trans (List.length_filter_le ..) (List.length_take_le k ns)
      obtain ⟨W, hW⟩ : ∃ W, W = (ns.take k).filter fun n => !decide (n ∈ Ks) := ⟨_, rfl⟩
      rw [← hW] at htk hl1 ⊢
      have z1 : (W.length + 1) * 16 ≤ 150000000000000 := by omega
      have z2 : W.length + 1 ≤ 9223372036854775807 := by omega
      by_cases hxu : x ∈ Ks
      · obtain ⟨j, l1, l2⟩ := lookS_some hxu
        have l3 : j < V.length := by rw [← hC.len]; exact l2
        have hv := (hC.val V[j] (List.getElem_mem l3)).1
        have v1 : (intsV V)[j]? = some (.int .i64 V[j]) := by simp [intsV, l3]
        have hv0 : (V[j] == 0) = false := by simp; omega
        rw [if_pos hxu, List.append_nil] at htk
        (repeat (first | (refine DW_seq fun K hK => ?_) | (refine DW_r anWB13176 Try.mixed (by kernel_rfl) ?_; simp [hnt, Try.ntmps176, Try.results176, anWB13176, dStr, hlt, hx, hx', hks, l1, v1, hv0]; try simp (disch := omega) only [wrap64_in]) | (refine DW_block ?_) | (focus (refine DW_if ?_ ?_ ?_; (· (simp [hnt, Try.ntmps176, Try.results176, anWB13176, dStr, hlt, hx, hx', hks, l1, v1, hv0]; done)); (try (rotate_left; (· (intro hc; (try simp [hnt, Try.ntmps176, Try.results176, anWB13176, dStr, hlt, hx, hx', hks, l1, v1, hv0] at hc); done)))))) | (refine DW_ret ?_; simp [hnt, Try.ntmps176, Try.results176, anWB13176, dStr, hlt, hx, hx', hks, l1, v1, hv0]) | (refine DW_exit ?_; simp [hnt, Try.ntmps176, Try.results176, anWB13176, dStr, hlt, hx, hx', hks, l1, v1, hv0]) | (refine DW_skip ?_; simp [hnt, Try.ntmps176, Try.results176, anWB13176, dStr, hlt, hx, hx', hks, l1, v1, hv0]) | (intro hc; (try simp [hnt, Try.ntmps176, Try.results176, anWB13176, dStr, hlt, hx, hx', hks, l1, v1, hv0] at hc); done) | (intro hc; (try simp [hnt, Try.ntmps176, Try.results176, anWB13176, dStr, hlt, hx, hx', hks, l1, v1, hv0] at hc); (first | (exfalso; omega) | skip)) | (refine ⟨?_, ?_⟩; · omega) | omega | apply_assumption -exfalso -symm | (exfalso; omega)))
        refine Again.mk ⟨k + 1, by omega⟩ (Sub.lit (by simp only [htk]; simp)) (by simp; omega)
        (repeat (first | (refine DW_seq fun K hK => ?_) | (refine DW_r anWB13176 Try.mixed (by kernel_rfl) ?_; simp [hnt, Try.ntmps176, Try.results176, anWB13176]; try simp (disch := omega) only [wrap64_in]) | (refine DW_block ?_) | (focus (refine DW_if ?_ ?_ ?_; (· (simp [hnt, Try.ntmps176, Try.results176, anWB13176]; done)); (try (rotate_left; (· (intro hc; (try simp [hnt, Try.ntmps176, Try.results176, anWB13176] at hc); done)))))) | (refine DW_ret ?_; simp [hnt, Try.ntmps176, Try.results176, anWB13176]) | (refine DW_exit ?_; simp [hnt, Try.ntmps176, Try.results176, anWB13176]) | (refine DW_skip ?_; simp [hnt, Try.ntmps176, Try.results176, anWB13176]) | (intro hc; (try simp [hnt, Try.ntmps176, Try.results176, anWB13176] at hc); done) | (intro hc; (try simp [hnt, Try.ntmps176, Try.results176, anWB13176] at hc); (first | (exfalso; omega) | skip)) | (refine ⟨?_, ?_⟩; · omega) | omega | apply_assumption -exfalso -symm | (exfalso; omega)))
      · have l1 := lookS_none hxu
        rw [if_neg hxu] at htk
        (repeat (first | (refine DW_seq fun K hK => ?_) | (refine DW_r anWB13176 Try.mixed (by kernel_rfl) ?_; simp [hnt, Try.ntmps176, Try.results176, anWB13176, dStr, hlt, hx, hx', hks, l1, z1, z2]; try simp (disch := omega) only [wrap64_in]) | (refine DW_block ?_) | (focus (refine DW_if ?_ ?_ ?_; (· (simp [hnt, Try.ntmps176, Try.results176, anWB13176, dStr, hlt, hx, hx', hks, l1, z1, z2]; done)); (try (rotate_left; (· (intro hc; (try simp [hnt, Try.ntmps176, Try.results176, anWB13176, dStr, hlt, hx, hx', hks, l1, z1, z2] at hc); done)))))) | (refine DW_ret ?_; simp [hnt, Try.ntmps176, Try.results176, anWB13176, dStr, hlt, hx, hx', hks, l1, z1, z2]) | (refine DW_exit ?_; simp [hnt, Try.ntmps176, Try.results176, anWB13176, dStr, hlt, hx, hx', hks, l1, z1, z2]) | (refine DW_skip ?_; simp [hnt, Try.ntmps176, Try.results176, anWB13176, dStr, hlt, hx, hx', hks, l1, z1, z2]) | (intro hc; (try simp [hnt, Try.ntmps176, Try.results176, anWB13176, dStr, hlt, hx, hx', hks, l1, z1, z2] at hc); done) | (intro hc; (try simp [hnt, Try.ntmps176, Try.results176, anWB13176, dStr, hlt, hx, hx', hks, l1, z1, z2] at hc); (first | (exfalso; omega) | skip)) | (refine ⟨?_, ?_⟩; · omega) | omega | apply_assumption -exfalso -symm | (exfalso; omega)))
        refine Again.mk ⟨k + 1, by omega⟩ (Sub.lit (by simp only [htk]; simp [dStr])) (by simp; omega)
        (repeat (first | (refine DW_seq fun K hK => ?_) | (refine DW_r anWB13176 Try.mixed (by kernel_rfl) ?_; simp [hnt, Try.ntmps176, Try.results176, anWB13176]; try simp (disch := omega) only [wrap64_in]) | (refine DW_block ?_) | (focus (refine DW_if ?_ ?_ ?_; (· (simp [hnt, Try.ntmps176, Try.results176, anWB13176]; done)); (try (rotate_left; (· (intro hc; (try simp [hnt, Try.ntmps176, Try.results176, anWB13176] at hc); done)))))) | (refine DW_ret ?_; simp [hnt, Try.ntmps176, Try.results176, anWB13176]) | (refine DW_exit ?_; simp [hnt, Try.ntmps176, Try.results176, anWB13176]) | (refine DW_skip ?_; simp [hnt, Try.ntmps176, Try.results176, anWB13176]) | (intro hc; (try simp [hnt, Try.ntmps176, Try.results176, anWB13176] at hc); done) | (intro hc; (try simp [hnt, Try.ntmps176, Try.results176, anWB13176] at hc); (first | (exfalso; omega) | skip)) | (refine ⟨?_, ?_⟩; · omega) | omega | apply_assumption -exfalso -symm | (exfalso; omega)))
    · have hkk : k = ns.length := by omega
      subst hkk
      rw [List.take_length, ← hRd]
      (repeat (first | (refine DW_seq fun K hK => ?_) | (refine DW_r anWB13176 Try.mixed (by kernel_rfl) ?_; simp [hnt, Try.ntmps176, Try.results176, anWB13176]; try simp (disch := omega) only [wrap64_in]) | (refine DW_block ?_) | (focus (refine DW_if ?_ ?_ ?_; (· (simp [hnt, Try.ntmps176, Try.results176, anWB13176]; done)); (try (rotate_left; (· (intro hc; (try simp [hnt, Try.ntmps176, Try.results176, anWB13176] at hc); done)))))) | (refine DW_ret ?_; simp [hnt, Try.ntmps176, Try.results176, anWB13176]) | (refine DW_exit ?_; simp [hnt, Try.ntmps176, Try.results176, anWB13176]) | (refine DW_skip ?_; simp [hnt, Try.ntmps176, Try.results176, anWB13176]) | (intro hc; (try simp [hnt, Try.ntmps176, Try.results176, anWB13176] at hc); done) | (intro hc; (try simp [hnt, Try.ntmps176, Try.results176, anWB13176] at hc); (first | (exfalso; omega) | skip)) | (refine ⟨?_, ?_⟩; · omega) | omega | apply_assumption -exfalso -symm | (exfalso; omega)))
end Go.Proofs.Ytihkcegelghcpaa
end

section
/- the program's text of a graph -/

set_option linter.unusedSimpArgs false
set_option linter.unusedVariables false
namespace Go.Proofs.Ytihkcegelghcpaa
open Go Go.Dm
attribute [local irreducible] DW callP callS
set_option maxRecDepth 100000

/-- a builder that holds a text -/
def bldO (i j : Nat) (T : ByteArray) : List Ent := if T.size = 0 then [⟨i, 1, .row 213 2 32 [[.nilp, .nilsl]]⟩] else [⟨i, 1, .row 213 2 32 [[.rx i 1 2 0 0, .osl j 1]]⟩, ⟨j, 1, .row 5 1 1 (bytesD T)⟩]
theorem bldO_none {i j : Nat} {T : ByteArray} (h : T.size = 0) : bldO i j T = [⟨i, 1, .row 213 2 32 [[.nilp, .nilsl]]⟩] := if_pos h
theorem bldO_some {i j : Nat} {T : ByteArray} (h : T.size ≠ 0) : bldO i j T = [⟨i, 1, .row 213 2 32 [[.rx i 1 2 0 0, .osl j 1]]⟩, ⟨j, 1, .row 5 1 1 (bytesD T)⟩] := if_neg h
theorem size0 {T : ByteArray} (h : T.size = 0) : T = ⟨#[]⟩ := by
  obtain ⟨a⟩ := T
  have : a = #[] := Array.eq_empty_of_size_eq_zero h
  rw [this]
theorem empty_app (x : ByteArray) : (⟨#[]⟩ : ByteArray) ++ x = x := by
  apply bytes_ext
  simp [ByteArray.data_append]
theorem str_assoc (a b c : ByteArray) : a ++ b ++ c = a ++ (b ++ c) := by
  apply bytes_ext
  simp [ByteArray.data_append]
theorem textN_eq (T n : ByteArray) : T ++ (n ++ ⟨#[32, 59, 10]⟩) = textN T n := by unfold textN; rw [str_assoc]
theorem textE_eq (T : ByteArray) (x : Edge) : T ++ (x.fr ++ ⟨#[32]⟩ ++ x.lb ++ ⟨#[32]⟩ ++ x.to ++ ⟨#[32, 59, 10]⟩) = textE T x := by unfold textE; simp only [str_assoc]

def anWB14138 : Ann := ⟨[17, 37, 39], [⟨1, [3], [], []⟩, ⟨9, [7], [], []⟩]⟩
set_option maxHeartbeats 4000000 in
theorem text138_pure (g : Edges) (hg : SmallG g) : DPure Try.prog 138 [.agg (dGr g)] (.str (textB g)) := by
  refine DPure_introF [] (fn := Try.f138) Try.func138 rfl Try.call138 (by simp [Try.ntmps138]) (by simp [mx]) ?_
  intro hwf B hnt
  clear hwf
  simp only [argS]
  obtain ⟨R, hRR⟩ : ∃ R, R = textB g := ⟨_, rfl⟩
  rw [← hRR]
  have h1 := lone176_pure g
  obtain ⟨s1, s2⟩ := lone_small hg
  obtain ⟨L, hL⟩ : ∃ L, L = loneL g := ⟨_, rfl⟩
  have hR : textB g = g.edges.foldl textE (L.foldl textN ⟨#[]⟩) := by rw [hL]; rfl
  rw [hR] at hRR
  clear hR
  rw [← hL] at h1 s1 s2
  clear hL
  obtain ⟨n1, n2, n3, n4⟩ := hg
  obtain ⟨ns, es⟩ := g
  simp only [dGr] at h1 n3 n4 hRR
  clear n1 n2
  have hsL := lone_size L ⟨#[]⟩ s2
  rw [show (⟨#[]⟩ : ByteArray).size = 0 from rfl] at hsL
  have e0 : (⟨#[]⟩ : ByteArray).size ≤ maxLen := Nat.zero_le _
  have m3 : 3 ≤ maxLen := by unfold maxLen; omega
  have m1 : 1 ≤ maxLen := by unfold maxLen; omega
  refine DW_seq fun K0 hK0 => ?_
  (first | (refine DW_seq fun K hK => ?_) | (refine DW_r anWB14138 Try.mixed (by kernel_rfl) ?_; simp [hnt, Try.ntmps138, Try.results138, anWB14138, dGr, e0]; try simp (disch := omega) only [wrap64_in]) | (refine DW_block ?_) | (focus (refine DW_if ?_ ?_ ?_; (· (simp [hnt, Try.ntmps138, Try.results138, anWB14138, dGr, e0]; done)); (try (rotate_left; (· (intro hc; (try simp [hnt, Try.ntmps138, Try.results138, anWB14138, dGr, e0] at hc); done)))))) | (refine DW_ret ?_; simp [hnt, Try.ntmps138, Try.results138, anWB14138, dGr, e0]) | (refine DW_exit ?_; simp [hnt, Try.ntmps138, Try.results138, anWB14138, dGr, e0]) | (refine DW_skip ?_; simp [hnt, Try.ntmps138, Try.results138, anWB14138, dGr, e0]) | (intro hc; (try simp [hnt, Try.ntmps138, Try.results138, anWB14138, dGr, e0] at hc); done) | (intro hc; (try simp [hnt, Try.ntmps138, Try.results138, anWB14138, dGr, e0] at hc); (first | (exfalso; omega) | skip)) | (refine ⟨?_, ?_⟩; · omega) | omega | apply_assumption -exfalso -symm | (exfalso; omega))
  apply hK0
  refine DW_seq fun K1 hK1 => ?_
  refine DW_allocT (bs := 32) (k := 2) (z := [.nilp, .nilsl]) (by simp [hnt, Try.ntmps138]) (by simp) (by rfl) rfl (by decide) (fun r hr => ?_)
  simp
  apply hK1
  (repeat (first | (refine DW_seq fun K hK => ?_) | (refine DW_r anWB14138 Try.mixed (by kernel_rfl) ?_; simp [hnt, Try.ntmps138, Try.results138, anWB14138, dGr, e0]; try simp (disch := omega) only [wrap64_in]) | (refine DW_block ?_) | (focus (refine DW_if ?_ ?_ ?_; (· (simp [hnt, Try.ntmps138, Try.results138, anWB14138, dGr, e0]; done)); (try (rotate_left; (· (intro hc; (try simp [hnt, Try.ntmps138, Try.results138, anWB14138, dGr, e0] at hc); done)))))) | (refine DW_ret ?_; simp [hnt, Try.ntmps138, Try.results138, anWB14138, dGr, e0]) | (refine DW_exit ?_; simp [hnt, Try.ntmps138, Try.results138, anWB14138, dGr, e0]) | (refine DW_skip ?_; simp [hnt, Try.ntmps138, Try.results138, anWB14138, dGr, e0]) | (intro hc; (try simp [hnt, Try.ntmps138, Try.results138, anWB14138, dGr, e0] at hc); done) | (intro hc; (try simp [hnt, Try.ntmps138, Try.results138, anWB14138, dGr, e0] at hc); (first | (exfalso; omega) | skip)) | (refine callP_mk (h1) ?_; try simp [hnt, Try.ntmps138, Try.results138, anWB14138, dGr, e0]) | (refine callP_wk (h1) ?_ ?_; (· (simp; done)); try simp [hnt, Try.ntmps138, Try.results138, anWB14138, dGr, e0]) | (refine ⟨?_, ?_⟩; · omega) | omega | apply_assumption -exfalso -symm | (exfalso; omega)))
  refine DW_loop (X := {k : Nat // k ≤ L.length}) (fun k => ⟨[(1, .ref [dStrs ns, dEds es]), (3, .rx 3 1 2 0 0), (9, dStrs L), (10, .int .i64 L.length), (11, .int .i64 k.1)], bldO 3 50 ((L.take k.1).foldl textN ⟨#[]⟩)⟩) (fun k => L.length - k.1) ⟨0, by omega⟩ (Sub.lit (by simp only [List.take_zero, List.foldl_nil, bldO_none (T := ⟨#[]⟩) rfl]; simp)) ?_
  rintro ⟨k, hk⟩
  by_cases hlt : k < L.length
  · obtain ⟨x, hx, hx', hxm⟩ := at_lt' hlt
    have htk := foldl_take (f := textN) (b := ⟨#[]⟩) hx
    have hsz := lone_size (L.take k) ⟨#[]⟩ fun n hn => s2 n (List.mem_of_mem_take hn)
    rw [show (⟨#[]⟩ : ByteArray).size = 0 from rfl, List.length_take] at hsz
    obtain ⟨T, hT⟩ : ∃ T, T = (L.take k).foldl textN ⟨#[]⟩ := ⟨_, rfl⟩
    rw [← hT] at htk hsz ⊢
    have hxs := s2 x hxm
    have q1 : x.size + 3 ≤ maxLen := by unfold maxLen; omega
    have hsx : (x ++ ⟨#[32, 59, 10]⟩ : ByteArray).size = x.size + 3 := by rw [ByteArray.size_append]; rfl
    have hN := textN_eq T x
    have hNs : (textN T x).size ≠ 0 := by rw [textN_size]; omega
    have hnew := bldO_some (i := 3) (j := 50) hNs
    rw [← htk] at hnew
    by_cases hT0 : T.size = 0
    · rw [bldO_none hT0]
      have e1 := writeFirst_spec (x ++ ⟨#[32, 59, 10]⟩) (by omega)
      rw [size0 hT0, empty_app] at hN
      (repeat (first | (refine DW_seq fun K hK => ?_) | (refine DW_r anWB14138 Try.mixed (by kernel_rfl) ?_; simp [hnt, Try.ntmps138, Try.results138, anWB14138, dStr, hlt, hx, hx', q1, size3, ByteArray.size_append, m3, m1]; try simp (disch := omega) only [wrap64_in]) | (refine DW_block ?_) | (focus (refine DW_if ?_ ?_ ?_; (· (simp [hnt, Try.ntmps138, Try.results138, anWB14138, dStr, hlt, hx, hx', q1, size3, ByteArray.size_append, m3, m1]; done)); (try (rotate_left; (· (intro hc; (try simp [hnt, Try.ntmps138, Try.results138, anWB14138, dStr, hlt, hx, hx', q1, size3, ByteArray.size_append, m3, m1] at hc); done)))))) | (refine DW_ret ?_; simp [hnt, Try.ntmps138, Try.results138, anWB14138, dStr, hlt, hx, hx', q1, size3, ByteArray.size_append, m3, m1]) | (refine DW_exit ?_; simp [hnt, Try.ntmps138, Try.results138, anWB14138, dStr, hlt, hx, hx', q1, size3, ByteArray.size_append, m3, m1]) | (refine DW_skip ?_; simp [hnt, Try.ntmps138, Try.results138, anWB14138, dStr, hlt, hx, hx', q1, size3, ByteArray.size_append, m3, m1]) | (intro hc; (try simp [hnt, Try.ntmps138, Try.results138, anWB14138, dStr, hlt, hx, hx', q1, size3, ByteArray.size_append, m3, m1] at hc); done) | (intro hc; (try simp [hnt, Try.ntmps138, Try.results138, anWB14138, dStr, hlt, hx, hx', q1, size3, ByteArray.size_append, m3, m1] at hc); (first | (exfalso; omega) | skip)) | (refine callS_mk [(3,0)] [(50,1)] (e1) ?_ ?_; (· (simp [hnt, Try.ntmps138, Try.results138, anWB14138, dStr, hlt, hx, hx', q1, size3, ByteArray.size_append, m3, m1]; done)); (intro _; try simp [hnt, Try.ntmps138, Try.results138, anWB14138, dStr, hlt, hx, hx', q1, size3, ByteArray.size_append, m3, m1])) | (refine ⟨?_, ?_⟩; · omega) | omega | apply_assumption -exfalso -symm | (exfalso; omega)))
      refine Again.mk ⟨k + 1, by omega⟩ (Sub.lit (by rw [hnew, htk, size0 hT0, ← hN]; simp)) (by simp; omega)
      (repeat (first | (refine DW_seq fun K hK => ?_) | (refine DW_r anWB14138 Try.mixed (by kernel_rfl) ?_; simp [hnt, Try.ntmps138, Try.results138, anWB14138]; try simp (disch := omega) only [wrap64_in]) | (refine DW_block ?_) | (focus (refine DW_if ?_ ?_ ?_; (· (simp [hnt, Try.ntmps138, Try.results138, anWB14138]; done)); (try (rotate_left; (· (intro hc; (try simp [hnt, Try.ntmps138, Try.results138, anWB14138] at hc); done)))))) | (refine DW_ret ?_; simp [hnt, Try.ntmps138, Try.results138, anWB14138]) | (refine DW_exit ?_; simp [hnt, Try.ntmps138, Try.results138, anWB14138]) | (refine DW_skip ?_; simp [hnt, Try.ntmps138, Try.results138, anWB14138]) | (intro hc; (try simp [hnt, Try.ntmps138, Try.results138, anWB14138] at hc); done) | (intro hc; (try simp [hnt, Try.ntmps138, Try.results138, anWB14138] at hc); (first | (exfalso; omega) | skip)) | (refine callS_mk [(3,0)] [(50,1)] (e1) ?_ ?_; (· (simp [hnt, Try.ntmps138, Try.results138, anWB14138]; done)); (intro _; try simp [hnt, Try.ntmps138, Try.results138, anWB14138])) | (refine ⟨?_, ?_⟩; · omega) | omega | apply_assumption -exfalso -symm | (exfalso; omega)))
    · rw [bldO_some hT0]
      have e1 := writeUsed_spec T (x ++ ⟨#[32, 59, 10]⟩) (by omega)
      rw [hN, ← htk] at e1
      (repeat (first | (refine DW_seq fun K hK => ?_) | (refine DW_r anWB14138 Try.mixed (by kernel_rfl) ?_; simp [hnt, Try.ntmps138, Try.results138, anWB14138, dStr, hlt, hx, hx', q1, size3, ByteArray.size_append, m3, m1]; try simp (disch := omega) only [wrap64_in]) | (refine DW_block ?_) | (focus (refine DW_if ?_ ?_ ?_; (· (simp [hnt, Try.ntmps138, Try.results138, anWB14138, dStr, hlt, hx, hx', q1, size3, ByteArray.size_append, m3, m1]; done)); (try (rotate_left; (· (intro hc; (try simp [hnt, Try.ntmps138, Try.results138, anWB14138, dStr, hlt, hx, hx', q1, size3, ByteArray.size_append, m3, m1] at hc); done)))))) | (refine DW_ret ?_; simp [hnt, Try.ntmps138, Try.results138, anWB14138, dStr, hlt, hx, hx', q1, size3, ByteArray.size_append, m3, m1]) | (refine DW_exit ?_; simp [hnt, Try.ntmps138, Try.results138, anWB14138, dStr, hlt, hx, hx', q1, size3, ByteArray.size_append, m3, m1]) | (refine DW_skip ?_; simp [hnt, Try.ntmps138, Try.results138, anWB14138, dStr, hlt, hx, hx', q1, size3, ByteArray.size_append, m3, m1]) | (intro hc; (try simp [hnt, Try.ntmps138, Try.results138, anWB14138, dStr, hlt, hx, hx', q1, size3, ByteArray.size_append, m3, m1] at hc); done) | (intro hc; (try simp [hnt, Try.ntmps138, Try.results138, anWB14138, dStr, hlt, hx, hx', q1, size3, ByteArray.size_append, m3, m1] at hc); (first | (exfalso; omega) | skip)) | (refine callS_mk [(3,0),(50,1)] [] (e1) ?_ ?_; (· (simp [hnt, Try.ntmps138, Try.results138, anWB14138, dStr, hlt, hx, hx', q1, size3, ByteArray.size_append, m3, m1]; done)); (intro _; try simp [hnt, Try.ntmps138, Try.results138, anWB14138, dStr, hlt, hx, hx', q1, size3, ByteArray.size_append, m3, m1])) | (refine ⟨?_, ?_⟩; · omega) | omega | apply_assumption -exfalso -symm | (exfalso; omega)))
      refine Again.mk ⟨k + 1, by omega⟩ (Sub.lit (by rw [hnew]; simp)) (by simp; omega)
      (repeat (first | (refine DW_seq fun K hK => ?_) | (refine DW_r anWB14138 Try.mixed (by kernel_rfl) ?_; simp [hnt, Try.ntmps138, Try.results138, anWB14138]; try simp (disch := omega) only [wrap64_in]) | (refine DW_block ?_) | (focus (refine DW_if ?_ ?_ ?_; (· (simp [hnt, Try.ntmps138, Try.results138, anWB14138]; done)); (try (rotate_left; (· (intro hc; (try simp [hnt, Try.ntmps138, Try.results138, anWB14138] at hc); done)))))) | (refine DW_ret ?_; simp [hnt, Try.ntmps138, Try.results138, anWB14138]) | (refine DW_exit ?_; simp [hnt, Try.ntmps138, Try.results138, anWB14138]) | (refine DW_skip ?_; simp [hnt, Try.ntmps138, Try.results138, anWB14138]) | (intro hc; (try simp [hnt, Try.ntmps138, Try.results138, anWB14138] at hc); done) | (intro hc; (try simp [hnt, Try.ntmps138, Try.results138, anWB14138] at hc); (first | (exfalso; omega) | skip)) | (refine callS_mk [(3,0),(50,1)] [] (e1) ?_ ?_; (· (simp [hnt, Try.ntmps138, Try.results138, anWB14138]; done)); (intro _; try simp [hnt, Try.ntmps138, Try.results138, anWB14138])) | (refine ⟨?_, ?_⟩; · omega) | omega | apply_assumption -exfalso -symm | (exfalso; omega)))
  · have hkk : k = L.length := by omega
    subst hkk
    rw [List.take_length]
    obtain ⟨S, hS⟩ : ∃ S, S = L.foldl textN ⟨#[]⟩ := ⟨_, rfl⟩
    rw [← hS] at hsL hRR ⊢
    clear hS
    by_cases hS0 : S.size = 0
    · rw [bldO_none hS0]
      (repeat (first | (refine DW_seq fun K hK => ?_) | (refine DW_r anWB14138 Try.mixed (by kernel_rfl) ?_; simp [hnt, Try.ntmps138, Try.results138, anWB14138]; try simp (disch := omega) only [wrap64_in]) | (refine DW_block ?_) | (focus (refine DW_if ?_ ?_ ?_; (· (simp [hnt, Try.ntmps138, Try.results138, anWB14138]; done)); (try (rotate_left; (· (intro hc; (try simp [hnt, Try.ntmps138, Try.results138, anWB14138] at hc); done)))))) | (refine DW_ret ?_; simp [hnt, Try.ntmps138, Try.results138, anWB14138]) | (refine DW_exit ?_; simp [hnt, Try.ntmps138, Try.results138, anWB14138]) | (refine DW_skip ?_; simp [hnt, Try.ntmps138, Try.results138, anWB14138]) | (intro hc; (try simp [hnt, Try.ntmps138, Try.results138, anWB14138] at hc); done) | (intro hc; (try simp [hnt, Try.ntmps138, Try.results138, anWB14138] at hc); (first | (exfalso; omega) | skip)) | (refine ⟨?_, ?_⟩; · omega) | omega | apply_assumption -exfalso -symm | (exfalso; omega)))
      refine DW_loop (X := {k : Nat // k ≤ es.length}) (fun k => ⟨[(3, .rx 3 1 2 0 0), (20, dEds es), (21, .int .i64 es.length), (22, .int .i64 k.1)], bldO 3 50 ((es.take k.1).foldl textE S)⟩) (fun k => es.length - k.1) ⟨0, by omega⟩ (Sub.lit (by simp only [List.take_zero, List.foldl_nil, bldO_none hS0]; simp)) ?_
      rintro ⟨k, hk⟩
      by_cases hlt : k < es.length
      · obtain ⟨x, hx, hx', hxm⟩ := at_lt' hlt
        have htk := foldl_take (f := textE) (b := S) hx
        have hsz := edge_size (es.take k) S fun n hn => n4 n (List.mem_of_mem_take hn)
        rw [List.length_take] at hsz
        obtain ⟨T, hT⟩ : ∃ T, T = (es.take k).foldl textE S := ⟨_, rfl⟩
        rw [← hT] at htk hsz ⊢
        obtain ⟨x1, x2, x3⟩ := n4 x hxm
        have q1 : x.fr.size + 1 ≤ maxLen := by unfold maxLen; omega
        have q3 : x.fr.size + 1 + x.lb.size ≤ maxLen := by unfold maxLen; omega
        have q4 : x.fr.size + 1 + x.lb.size + 1 ≤ maxLen := by unfold maxLen; omega
        have q5 : x.fr.size + 1 + x.lb.size + 1 + x.to.size ≤ maxLen := by unfold maxLen; omega
        have q6 : x.fr.size + 1 + x.lb.size + 1 + x.to.size + 3 ≤ maxLen := by unfold maxLen; omega
        have hsx : (x.fr ++ ⟨#[32]⟩ ++ x.lb ++ ⟨#[32]⟩ ++ x.to ++ ⟨#[32, 59, 10]⟩ : ByteArray).size = x.fr.size + 1 + x.lb.size + 1 + x.to.size + 3 := by simp only [ByteArray.size_append, size3, size1]
        have hN := textE_eq T x
        have hNs : (textE T x).size ≠ 0 := by rw [textE_size]; omega
        have hnew := bldO_some (i := 3) (j := 50) hNs
        rw [← htk] at hnew
        by_cases hT0 : T.size = 0
        · rw [bldO_none hT0]
          have e1 := writeFirst_spec (x.fr ++ ⟨#[32]⟩ ++ x.lb ++ ⟨#[32]⟩ ++ x.to ++ ⟨#[32, 59, 10]⟩) (by omega)
          rw [size0 hT0, empty_app] at hN
          (repeat (first | (refine DW_seq fun K hK => ?_) | (refine DW_r anWB14138 Try.mixed (by kernel_rfl) ?_; simp [hnt, Try.ntmps138, Try.results138, anWB14138, dEdge, hlt, hx, hx', q1, q3, q4, q5, q6, size3, size1, ByteArray.size_append, m3, m1]; try simp (disch := omega) only [wrap64_in]) | (refine DW_block ?_) | (focus (refine DW_if ?_ ?_ ?_; (· (simp [hnt, Try.ntmps138, Try.results138, anWB14138, dEdge, hlt, hx, hx', q1, q3, q4, q5, q6, size3, size1, ByteArray.size_append, m3, m1]; done)); (try (rotate_left; (· (intro hc; (try simp [hnt, Try.ntmps138, Try.results138, anWB14138, dEdge, hlt, hx, hx', q1, q3, q4, q5, q6, size3, size1, ByteArray.size_append, m3, m1] at hc); done)))))) | (refine DW_ret ?_; simp [hnt, Try.ntmps138, Try.results138, anWB14138, dEdge, hlt, hx, hx', q1, q3, q4, q5, q6, size3, size1, ByteArray.size_append, m3, m1]) | (refine DW_exit ?_; simp [hnt, Try.ntmps138, Try.results138, anWB14138, dEdge, hlt, hx, hx', q1, q3, q4, q5, q6, size3, size1, ByteArray.size_append, m3, m1]) | (refine DW_skip ?_; simp [hnt, Try.ntmps138, Try.results138, anWB14138, dEdge, hlt, hx, hx', q1, q3, q4, q5, q6, size3, size1, ByteArray.size_append, m3, m1]) | (intro hc; (try simp [hnt, Try.ntmps138, Try.results138, anWB14138, dEdge, hlt, hx, hx', q1, q3, q4, q5, q6, size3, size1, ByteArray.size_append, m3, m1] at hc); done) | (intro hc; (try simp [hnt, Try.ntmps138, Try.results138, anWB14138, dEdge, hlt, hx, hx', q1, q3, q4, q5, q6, size3, size1, ByteArray.size_append, m3, m1] at hc); (first | (exfalso; omega) | skip)) | (refine callS_mk [(3,0)] [(50,1)] (e1) ?_ ?_; (· (simp [hnt, Try.ntmps138, Try.results138, anWB14138, dEdge, hlt, hx, hx', q1, q3, q4, q5, q6, size3, size1, ByteArray.size_append, m3, m1]; done)); (intro _; try simp [hnt, Try.ntmps138, Try.results138, anWB14138, dEdge, hlt, hx, hx', q1, q3, q4, q5, q6, size3, size1, ByteArray.size_append, m3, m1])) | (refine ⟨?_, ?_⟩; · omega) | omega | apply_assumption -exfalso -symm | (exfalso; omega)))
          refine Again.mk ⟨k + 1, by omega⟩ (Sub.lit (by rw [hnew, htk, size0 hT0, ← hN]; simp)) (by simp; omega)
          (repeat (first | (refine DW_seq fun K hK => ?_) | (refine DW_r anWB14138 Try.mixed (by kernel_rfl) ?_; simp [hnt, Try.ntmps138, Try.results138, anWB14138]; try simp (disch := omega) only [wrap64_in]) | (refine DW_block ?_) | (focus (refine DW_if ?_ ?_ ?_; (· (simp [hnt, Try.ntmps138, Try.results138, anWB14138]; done)); (try (rotate_left; (· (intro hc; (try simp [hnt, Try.ntmps138, Try.results138, anWB14138] at hc); done)))))) | (refine DW_ret ?_; simp [hnt, Try.ntmps138, Try.results138, anWB14138]) | (refine DW_exit ?_; simp [hnt, Try.ntmps138, Try.results138, anWB14138]) | (refine DW_skip ?_; simp [hnt, Try.ntmps138, Try.results138, anWB14138]) | (intro hc; (try simp [hnt, Try.ntmps138, Try.results138, anWB14138] at hc); done) | (intro hc; (try simp [hnt, Try.ntmps138, Try.results138, anWB14138] at hc); (first | (exfalso; omega) | skip)) | (refine callS_mk [(3,0)] [(50,1)] (e1) ?_ ?_; (· (simp [hnt, Try.ntmps138, Try.results138, anWB14138]; done)); (intro _; try simp [hnt, Try.ntmps138, Try.results138, anWB14138])) | (refine ⟨?_, ?_⟩; · omega) | omega | apply_assumption -exfalso -symm | (exfalso; omega)))
        · rw [bldO_some hT0]
          have e1 := writeUsed_spec T (x.fr ++ ⟨#[32]⟩ ++ x.lb ++ ⟨#[32]⟩ ++ x.to ++ ⟨#[32, 59, 10]⟩) (by omega)
          rw [hN, ← htk] at e1
          (repeat (first | (refine DW_seq fun K hK => ?_) | (refine DW_r anWB14138 Try.mixed (by kernel_rfl) ?_; simp [hnt, Try.ntmps138, Try.results138, anWB14138, dEdge, hlt, hx, hx', q1, q3, q4, q5, q6, size3, size1, ByteArray.size_append, m3, m1]; try simp (disch := omega) only [wrap64_in]) | (refine DW_block ?_) | (focus (refine DW_if ?_ ?_ ?_; (· (simp [hnt, Try.ntmps138, Try.results138, anWB14138, dEdge, hlt, hx, hx', q1, q3, q4, q5, q6, size3, size1, ByteArray.size_append, m3, m1]; done)); (try (rotate_left; (· (intro hc; (try simp [hnt, Try.ntmps138, Try.results138, anWB14138, dEdge, hlt, hx, hx', q1, q3, q4, q5, q6, size3, size1, ByteArray.size_append, m3, m1] at hc); done)))))) | (refine DW_ret ?_; simp [hnt, Try.ntmps138, Try.results138, anWB14138, dEdge, hlt, hx, hx', q1, q3, q4, q5, q6, size3, size1, ByteArray.size_append, m3, m1]) | (refine DW_exit ?_; simp [hnt, Try.ntmps138, Try.results138, anWB14138, dEdge, hlt, hx, hx', q1, q3, q4, q5, q6, size3, size1, ByteArray.size_append, m3, m1]) | (refine DW_skip ?_; simp [hnt, Try.ntmps138, Try.results138, anWB14138, dEdge, hlt, hx, hx', q1, q3, q4, q5, q6, size3, size1, ByteArray.size_append, m3, m1]) | (intro hc; (try simp [hnt, Try.ntmps138, Try.results138, anWB14138, dEdge, hlt, hx, hx', q1, q3, q4, q5, q6, size3, size1, ByteArray.size_append, m3, m1] at hc); done) | (intro hc; (try simp [hnt, Try.ntmps138, Try.results138, anWB14138, dEdge, hlt, hx, hx', q1, q3, q4, q5, q6, size3, size1, ByteArray.size_append, m3, m1] at hc); (first | (exfalso; omega) | skip)) | (refine callS_mk [(3,0),(50,1)] [] (e1) ?_ ?_; (· (simp [hnt, Try.ntmps138, Try.results138, anWB14138, dEdge, hlt, hx, hx', q1, q3, q4, q5, q6, size3, size1, ByteArray.size_append, m3, m1]; done)); (intro _; try simp [hnt, Try.ntmps138, Try.results138, anWB14138, dEdge, hlt, hx, hx', q1, q3, q4, q5, q6, size3, size1, ByteArray.size_append, m3, m1])) | (refine ⟨?_, ?_⟩; · omega) | omega | apply_assumption -exfalso -symm | (exfalso; omega)))
          refine Again.mk ⟨k + 1, by omega⟩ (Sub.lit (by rw [hnew]; simp)) (by simp; omega)
          (repeat (first | (refine DW_seq fun K hK => ?_) | (refine DW_r anWB14138 Try.mixed (by kernel_rfl) ?_; simp [hnt, Try.ntmps138, Try.results138, anWB14138]; try simp (disch := omega) only [wrap64_in]) | (refine DW_block ?_) | (focus (refine DW_if ?_ ?_ ?_; (· (simp [hnt, Try.ntmps138, Try.results138, anWB14138]; done)); (try (rotate_left; (· (intro hc; (try simp [hnt, Try.ntmps138, Try.results138, anWB14138] at hc); done)))))) | (refine DW_ret ?_; simp [hnt, Try.ntmps138, Try.results138, anWB14138]) | (refine DW_exit ?_; simp [hnt, Try.ntmps138, Try.results138, anWB14138]) | (refine DW_skip ?_; simp [hnt, Try.ntmps138, Try.results138, anWB14138]) | (intro hc; (try simp [hnt, Try.ntmps138, Try.results138, anWB14138] at hc); done) | (intro hc; (try simp [hnt, Try.ntmps138, Try.results138, anWB14138] at hc); (first | (exfalso; omega) | skip)) | (refine callS_mk [(3,0),(50,1)] [] (e1) ?_ ?_; (· (simp [hnt, Try.ntmps138, Try.results138, anWB14138]; done)); (intro _; try simp [hnt, Try.ntmps138, Try.results138, anWB14138])) | (refine ⟨?_, ?_⟩; · omega) | omega | apply_assumption -exfalso -symm | (exfalso; omega)))
      · have hkk : k = es.length := by omega
        subst hkk
        rw [List.take_length, ← hRR]
        by_cases hR0 : R.size = 0
        · rw [bldO_none hR0]
          have e1 := stringNone_spec
          rw [← size0 hR0] at e1
          (repeat (first | (refine DW_seq fun K hK => ?_) | (refine DW_r anWB14138 Try.mixed (by kernel_rfl) ?_; simp [hnt, Try.ntmps138, Try.results138, anWB14138]; try simp (disch := omega) only [wrap64_in]) | (refine DW_block ?_) | (focus (refine DW_if ?_ ?_ ?_; (· (simp [hnt, Try.ntmps138, Try.results138, anWB14138]; done)); (try (rotate_left; (· (intro hc; (try simp [hnt, Try.ntmps138, Try.results138, anWB14138] at hc); done)))))) | (refine DW_ret ?_; simp [hnt, Try.ntmps138, Try.results138, anWB14138]) | (refine DW_exit ?_; simp [hnt, Try.ntmps138, Try.results138, anWB14138]) | (refine DW_skip ?_; simp [hnt, Try.ntmps138, Try.results138, anWB14138]) | (intro hc; (try simp [hnt, Try.ntmps138, Try.results138, anWB14138] at hc); done) | (intro hc; (try simp [hnt, Try.ntmps138, Try.results138, anWB14138] at hc); (first | (exfalso; omega) | skip)) | (refine callS_mk [(3,0)] [] (e1) ?_ ?_; (· (simp [hnt, Try.ntmps138, Try.results138, anWB14138]; done)); (intro _; try simp [hnt, Try.ntmps138, Try.results138, anWB14138])) | (refine ⟨?_, ?_⟩; · omega) | omega | apply_assumption -exfalso -symm | (exfalso; omega)))
        · rw [bldO_some hR0]
          have e1 := stringSome_spec R hR0
          (repeat (first | (refine DW_seq fun K hK => ?_) | (refine DW_r anWB14138 Try.mixed (by kernel_rfl) ?_; simp [hnt, Try.ntmps138, Try.results138, anWB14138]; try simp (disch := omega) only [wrap64_in]) | (refine DW_block ?_) | (focus (refine DW_if ?_ ?_ ?_; (· (simp [hnt, Try.ntmps138, Try.results138, anWB14138]; done)); (try (rotate_left; (· (intro hc; (try simp [hnt, Try.ntmps138, Try.results138, anWB14138] at hc); done)))))) | (refine DW_ret ?_; simp [hnt, Try.ntmps138, Try.results138, anWB14138]) | (refine DW_exit ?_; simp [hnt, Try.ntmps138, Try.results138, anWB14138]) | (refine DW_skip ?_; simp [hnt, Try.ntmps138, Try.results138, anWB14138]) | (intro hc; (try simp [hnt, Try.ntmps138, Try.results138, anWB14138] at hc); done) | (intro hc; (try simp [hnt, Try.ntmps138, Try.results138, anWB14138] at hc); (first | (exfalso; omega) | skip)) | (refine callS_mk [(3,0),(50,1)] [] (e1) ?_ ?_; (· (simp [hnt, Try.ntmps138, Try.results138, anWB14138]; done)); (intro _; try simp [hnt, Try.ntmps138, Try.results138, anWB14138])) | (refine ⟨?_, ?_⟩; · omega) | omega | apply_assumption -exfalso -symm | (exfalso; omega)))
    · rw [bldO_some hS0]
      (repeat (first | (refine DW_seq fun K hK => ?_) | (refine DW_r anWB14138 Try.mixed (by kernel_rfl) ?_; simp [hnt, Try.ntmps138, Try.results138, anWB14138]; try simp (disch := omega) only [wrap64_in]) | (refine DW_block ?_) | (focus (refine DW_if ?_ ?_ ?_; (· (simp [hnt, Try.ntmps138, Try.results138, anWB14138]; done)); (try (rotate_left; (· (intro hc; (try simp [hnt, Try.ntmps138, Try.results138, anWB14138] at hc); done)))))) | (refine DW_ret ?_; simp [hnt, Try.ntmps138, Try.results138, anWB14138]) | (refine DW_exit ?_; simp [hnt, Try.ntmps138, Try.results138, anWB14138]) | (refine DW_skip ?_; simp [hnt, Try.ntmps138, Try.results138, anWB14138]) | (intro hc; (try simp [hnt, Try.ntmps138, Try.results138, anWB14138] at hc); done) | (intro hc; (try simp [hnt, Try.ntmps138, Try.results138, anWB14138] at hc); (first | (exfalso; omega) | skip)) | (refine ⟨?_, ?_⟩; · omega) | omega | apply_assumption -exfalso -symm | (exfalso; omega)))
      refine DW_loop (X := {k : Nat // k ≤ es.length}) (fun k => ⟨[(3, .rx 3 1 2 0 0), (20, dEds es), (21, .int .i64 es.length), (22, .int .i64 k.1)], bldO 3 50 ((es.take k.1).foldl textE S)⟩) (fun k => es.length - k.1) ⟨0, by omega⟩ (Sub.lit (by simp only [List.take_zero, List.foldl_nil, bldO_some hS0]; simp)) ?_
      rintro ⟨k, hk⟩
      by_cases hlt : k < es.length
      · obtain ⟨x, hx, hx', hxm⟩ := at_lt' hlt
        have htk := foldl_take (f := textE) (b := S) hx
        have hsz := edge_size (es.take k) S fun n hn => n4 n (List.mem_of_mem_take hn)
        rw [List.length_take] at hsz
        obtain ⟨T, hT⟩ : ∃ T, T = (es.take k).foldl textE S := ⟨_, rfl⟩
        rw [← hT] at htk hsz ⊢
        obtain ⟨x1, x2, x3⟩ := n4 x hxm
        have q1 : x.fr.size + 1 ≤ maxLen := by unfold maxLen; omega
        have q3 : x.fr.size + 1 + x.lb.size ≤ maxLen := by unfold maxLen; omega
        have q4 : x.fr.size + 1 + x.lb.size + 1 ≤ maxLen := by unfold maxLen; omega
        have q5 : x.fr.size + 1 + x.lb.size + 1 + x.to.size ≤ maxLen := by unfold maxLen; omega
        have q6 : x.fr.size + 1 + x.lb.size + 1 + x.to.size + 3 ≤ maxLen := by unfold maxLen; omega
        have hsx : (x.fr ++ ⟨#[32]⟩ ++ x.lb ++ ⟨#[32]⟩ ++ x.to ++ ⟨#[32, 59, 10]⟩ : ByteArray).size = x.fr.size + 1 + x.lb.size + 1 + x.to.size + 3 := by simp only [ByteArray.size_append, size3, size1]
        have hN := textE_eq T x
        have hNs : (textE T x).size ≠ 0 := by rw [textE_size]; omega
        have hnew := bldO_some (i := 3) (j := 50) hNs
        rw [← htk] at hnew
        by_cases hT0 : T.size = 0
        · rw [bldO_none hT0]
          have e1 := writeFirst_spec (x.fr ++ ⟨#[32]⟩ ++ x.lb ++ ⟨#[32]⟩ ++ x.to ++ ⟨#[32, 59, 10]⟩) (by omega)
          rw [size0 hT0, empty_app] at hN
          (repeat (first | (refine DW_seq fun K hK => ?_) | (refine DW_r anWB14138 Try.mixed (by kernel_rfl) ?_; simp [hnt, Try.ntmps138, Try.results138, anWB14138, dEdge, hlt, hx, hx', q1, q3, q4, q5, q6, size3, size1, ByteArray.size_append, m3, m1]; try simp (disch := omega) only [wrap64_in]) | (refine DW_block ?_) | (focus (refine DW_if ?_ ?_ ?_; (· (simp [hnt, Try.ntmps138, Try.results138, anWB14138, dEdge, hlt, hx, hx', q1, q3, q4, q5, q6, size3, size1, ByteArray.size_append, m3, m1]; done)); (try (rotate_left; (· (intro hc; (try simp [hnt, Try.ntmps138, Try.results138, anWB14138, dEdge, hlt, hx, hx', q1, q3, q4, q5, q6, size3, size1, ByteArray.size_append, m3, m1] at hc); done)))))) | (refine DW_ret ?_; simp [hnt, Try.ntmps138, Try.results138, anWB14138, dEdge, hlt, hx, hx', q1, q3, q4, q5, q6, size3, size1, ByteArray.size_append, m3, m1]) | (refine DW_exit ?_; simp [hnt, Try.ntmps138, Try.results138, anWB14138, dEdge, hlt, hx, hx', q1, q3, q4, q5, q6, size3, size1, ByteArray.size_append, m3, m1]) | (refine DW_skip ?_; simp [hnt, Try.ntmps138, Try.results138, anWB14138, dEdge, hlt, hx, hx', q1, q3, q4, q5, q6, size3, size1, ByteArray.size_append, m3, m1]) | (intro hc; (try simp [hnt, Try.ntmps138, Try.results138, anWB14138, dEdge, hlt, hx, hx', q1, q3, q4, q5, q6, size3, size1, ByteArray.size_append, m3, m1] at hc); done) | (intro hc; (try simp [hnt, Try.ntmps138, Try.results138, anWB14138, dEdge, hlt, hx, hx', q1, q3, q4, q5, q6, size3, size1, ByteArray.size_append, m3, m1] at hc); (first | (exfalso; omega) | skip)) | (refine callS_mk [(3,0)] [(50,1)] (e1) ?_ ?_; (· (simp [hnt, Try.ntmps138, Try.results138, anWB14138, dEdge, hlt, hx, hx', q1, q3, q4, q5, q6, size3, size1, ByteArray.size_append, m3, m1]; done)); (intro _; try simp [hnt, Try.ntmps138, Try.results138, anWB14138, dEdge, hlt, hx, hx', q1, q3, q4, q5, q6, size3, size1, ByteArray.size_append, m3, m1])) | (refine ⟨?_, ?_⟩; · omega) | omega | apply_assumption -exfalso -symm | (exfalso; omega)))
          refine Again.mk ⟨k + 1, by omega⟩ (Sub.lit (by rw [hnew, htk, size0 hT0, ← hN]; simp)) (by simp; omega)
          (repeat (first | (refine DW_seq fun K hK => ?_) | (refine DW_r anWB14138 Try.mixed (by kernel_rfl) ?_; simp [hnt, Try.ntmps138, Try.results138, anWB14138]; try simp (disch := omega) only [wrap64_in]) | (refine DW_block ?_) | (focus (refine DW_if ?_ ?_ ?_; (· (simp [hnt, Try.ntmps138, Try.results138, anWB14138]; done)); (try (rotate_left; (· (intro hc; (try simp [hnt, Try.ntmps138, Try.results138, anWB14138] at hc); done)))))) | (refine DW_ret ?_; simp [hnt, Try.ntmps138, Try.results138, anWB14138]) | (refine DW_exit ?_; simp [hnt, Try.ntmps138, Try.results138, anWB14138]) | (refine DW_skip ?_; simp [hnt, Try.ntmps138, Try.results138, anWB14138]) | (intro hc; (try simp [hnt, Try.ntmps138, Try.results138, anWB14138] at hc); done) | (intro hc; (try simp [hnt, Try.ntmps138, Try.results138, anWB14138] at hc); (first | (exfalso; omega) | skip)) | (refine callS_mk [(3,0)] [(50,1)] (e1) ?_ ?_; (· (simp [hnt, Try.ntmps138, Try.results138, anWB14138]; done)); (intro _; try simp [hnt, Try.ntmps138, Try.results138, anWB14138])) | (refine ⟨?_, ?_⟩; · omega) | omega | apply_assumption -exfalso -symm | (exfalso; omega)))
        · rw [bldO_some hT0]
          have e1 := writeUsed_spec T (x.fr ++ ⟨#[32]⟩ ++ x.lb ++ ⟨#[32]⟩ ++ x.to ++ ⟨#[32, 59, 10]⟩) (by omega)
          rw [hN, ← htk] at e1
          (repeat (first | (refine DW_seq fun K hK => ?_) | (refine DW_r anWB14138 Try.mixed (by kernel_rfl) ?_; simp [hnt, Try.ntmps138, Try.results138, anWB14138, dEdge, hlt, hx, hx', q1, q3, q4, q5, q6, size3, size1, ByteArray.size_append, m3, m1]; try simp (disch := omega) only [wrap64_in]) | (refine DW_block ?_) | (focus (refine DW_if ?_ ?_ ?_; (· (simp [hnt, Try.ntmps138, Try.results138, anWB14138, dEdge, hlt, hx, hx', q1, q3, q4, q5, q6, size3, size1, ByteArray.size_append, m3, m1]; done)); (try (rotate_left; (· (intro hc; (try simp [hnt, Try.ntmps138, Try.results138, anWB14138, dEdge, hlt, hx, hx', q1, q3, q4, q5, q6, size3, size1, ByteArray.size_append, m3, m1] at hc); done)))))) | (refine DW_ret ?_; simp [hnt, Try.ntmps138, Try.results138, anWB14138, dEdge, hlt, hx, hx', q1, q3, q4, q5, q6, size3, size1, ByteArray.size_append, m3, m1]) | (refine DW_exit ?_; simp [hnt, Try.ntmps138, Try.results138, anWB14138, dEdge, hlt, hx, hx', q1, q3, q4, q5, q6, size3, size1, ByteArray.size_append, m3, m1]) | (refine DW_skip ?_; simp [hnt, Try.ntmps138, Try.results138, anWB14138, dEdge, hlt, hx, hx', q1, q3, q4, q5, q6, size3, size1, ByteArray.size_append, m3, m1]) | (intro hc; (try simp [hnt, Try.ntmps138, Try.results138, anWB14138, dEdge, hlt, hx, hx', q1, q3, q4, q5, q6, size3, size1, ByteArray.size_append, m3, m1] at hc); done) | (intro hc; (try simp [hnt, Try.ntmps138, Try.results138, anWB14138, dEdge, hlt, hx, hx', q1, q3, q4, q5, q6, size3, size1, ByteArray.size_append, m3, m1] at hc); (first | (exfalso; omega) | skip)) | (refine callS_mk [(3,0),(50,1)] [] (e1) ?_ ?_; (· (simp [hnt, Try.ntmps138, Try.results138, anWB14138, dEdge, hlt, hx, hx', q1, q3, q4, q5, q6, size3, size1, ByteArray.size_append, m3, m1]; done)); (intro _; try simp [hnt, Try.ntmps138, Try.results138, anWB14138, dEdge, hlt, hx, hx', q1, q3, q4, q5, q6, size3, size1, ByteArray.size_append, m3, m1])) | (refine ⟨?_, ?_⟩; · omega) | omega | apply_assumption -exfalso -symm | (exfalso; omega)))
          refine Again.mk ⟨k + 1, by omega⟩ (Sub.lit (by rw [hnew]; simp)) (by simp; omega)
          (repeat (first | (refine DW_seq fun K hK => ?_) | (refine DW_r anWB14138 Try.mixed (by kernel_rfl) ?_; simp [hnt, Try.ntmps138, Try.results138, anWB14138]; try simp (disch := omega) only [wrap64_in]) | (refine DW_block ?_) | (focus (refine DW_if ?_ ?_ ?_; (· (simp [hnt, Try.ntmps138, Try.results138, anWB14138]; done)); (try (rotate_left; (· (intro hc; (try simp [hnt, Try.ntmps138, Try.results138, anWB14138] at hc); done)))))) | (refine DW_ret ?_; simp [hnt, Try.ntmps138, Try.results138, anWB14138]) | (refine DW_exit ?_; simp [hnt, Try.ntmps138, Try.results138, anWB14138]) | (refine DW_skip ?_; simp [hnt, Try.ntmps138, Try.results138, anWB14138]) | (intro hc; (try simp [hnt, Try.ntmps138, Try.results138, anWB14138] at hc); done) | (intro hc; (try simp [hnt, Try.ntmps138, Try.results138, anWB14138] at hc); (first | (exfalso; omega) | skip)) | (refine callS_mk [(3,0),(50,1)] [] (e1) ?_ ?_; (· (simp [hnt, Try.ntmps138, Try.results138, anWB14138]; done)); (intro _; try simp [hnt, Try.ntmps138, Try.results138, anWB14138])) | (refine ⟨?_, ?_⟩; · omega) | omega | apply_assumption -exfalso -symm | (exfalso; omega)))
      · have hkk : k = es.length := by omega
        subst hkk
        rw [List.take_length, ← hRR]
        by_cases hR0 : R.size = 0
        · rw [bldO_none hR0]
          have e1 := stringNone_spec
          rw [← size0 hR0] at e1
          (repeat (first | (refine DW_seq fun K hK => ?_) | (refine DW_r anWB14138 Try.mixed (by kernel_rfl) ?_; simp [hnt, Try.ntmps138, Try.results138, anWB14138]; try simp (disch := omega) only [wrap64_in]) | (refine DW_block ?_) | (focus (refine DW_if ?_ ?_ ?_; (· (simp [hnt, Try.ntmps138, Try.results138, anWB14138]; done)); (try (rotate_left; (· (intro hc; (try simp [hnt, Try.ntmps138, Try.results138, anWB14138] at hc); done)))))) | (refine DW_ret ?_; simp [hnt, Try.ntmps138, Try.results138, anWB14138]) | (refine DW_exit ?_; simp [hnt, Try.ntmps138, Try.results138, anWB14138]) | (refine DW_skip ?_; simp [hnt, Try.ntmps138, Try.results138, anWB14138]) | (intro hc; (try simp [hnt, Try.ntmps138, Try.results138, anWB14138] at hc); done) | (intro hc; (try simp [hnt, Try.ntmps138, Try.results138, anWB14138] at hc); (first | (exfalso; omega) | skip)) | (refine callS_mk [(3,0)] [] (e1) ?_ ?_; (· (simp [hnt, Try.ntmps138, Try.results138, anWB14138]; done)); (intro _; try simp [hnt, Try.ntmps138, Try.results138, anWB14138])) | (refine ⟨?_, ?_⟩; · omega) | omega | apply_assumption -exfalso -symm | (exfalso; omega)))
        · rw [bldO_some hR0]
          have e1 := stringSome_spec R hR0
          (repeat (first | (refine DW_seq fun K hK => ?_) | (refine DW_r anWB14138 Try.mixed (by kernel_rfl) ?_; simp [hnt, Try.ntmps138, Try.results138, anWB14138]; try simp (disch := omega) only [wrap64_in]) | (refine DW_block ?_) | (focus (refine DW_if ?_ ?_ ?_; (· (simp [hnt, Try.ntmps138, Try.results138, anWB14138]; done)); (try (rotate_left; (· (intro hc; (try simp [hnt, Try.ntmps138, Try.results138, anWB14138] at hc); done)))))) | (refine DW_ret ?_; simp [hnt, Try.ntmps138, Try.results138, anWB14138]) | (refine DW_exit ?_; simp [hnt, Try.ntmps138, Try.results138, anWB14138]) | (refine DW_skip ?_; simp [hnt, Try.ntmps138, Try.results138, anWB14138]) | (intro hc; (try simp [hnt, Try.ntmps138, Try.results138, anWB14138] at hc); done) | (intro hc; (try simp [hnt, Try.ntmps138, Try.results138, anWB14138] at hc); (first | (exfalso; omega) | skip)) | (refine callS_mk [(3,0),(50,1)] [] (e1) ?_ ?_; (· (simp [hnt, Try.ntmps138, Try.results138, anWB14138]; done)); (intro _; try simp [hnt, Try.ntmps138, Try.results138, anWB14138])) | (refine ⟨?_, ?_⟩; · omega) | omega | apply_assumption -exfalso -symm | (exfalso; omega)))
end Go.Proofs.Ytihkcegelghcpaa
end

section
/- Check and Way of a graph -/

set_option linter.unusedSimpArgs false
set_option linter.unusedVariables false
namespace Go.Proofs.Ytihkcegelghcpaa
open Go Go.Dm
attribute [local irreducible] DW callP callS
set_option maxRecDepth 100000

def anWB15103 : Ann := ⟨[], []⟩
theorem caps103_pure (g : Edges) (hn : namedB g = true) : DPure Try.prog 103 [.agg (dGr g)] (.int .i64 (capsI g)) := by
  refine DPure_introF [] (fn := Try.f103) Try.func103 rfl Try.call103 (by simp [Try.ntmps103]) (by simp [mx]) ?_
  intro hwf B hnt
  clear hwf
  simp only [argS]
  unfold capsI
  have h1 := labels137_pure g
  by_cases c1 : 32 < g.nodes.length
  · have d1 : (32 : Int) < g.nodes.length := by omega
    (repeat (first | (refine DW_seq fun K hK => ?_) | (refine DW_r anWB15103 Try.mixed (by kernel_rfl) ?_; simp [hnt, Try.ntmps103, Try.results103, anWB15103, dGr, c1, d1]; try simp (disch := omega) only [wrap64_in]) | (refine DW_block ?_) | (focus (refine DW_if ?_ ?_ ?_; (· (simp [hnt, Try.ntmps103, Try.results103, anWB15103, dGr, c1, d1]; done)); (try (rotate_left; (· (intro hc; (try simp [hnt, Try.ntmps103, Try.results103, anWB15103, dGr, c1, d1] at hc); done)))))) | (refine DW_ret ?_; simp [hnt, Try.ntmps103, Try.results103, anWB15103, dGr, c1, d1]) | (refine DW_exit ?_; simp [hnt, Try.ntmps103, Try.results103, anWB15103, dGr, c1, d1]) | (refine DW_skip ?_; simp [hnt, Try.ntmps103, Try.results103, anWB15103, dGr, c1, d1]) | (intro hc; (try simp [hnt, Try.ntmps103, Try.results103, anWB15103, dGr, c1, d1] at hc); done) | (intro hc; (try simp [hnt, Try.ntmps103, Try.results103, anWB15103, dGr, c1, d1] at hc); (first | (exfalso; omega) | skip)) | (refine ⟨?_, ?_⟩; · omega) | omega | apply_assumption -exfalso -symm | (exfalso; omega)))
  · have d1 : ¬ (32 : Int) < g.nodes.length := by omega
    obtain ⟨U, hU⟩ : ∃ U, U = uniqS (labelsL g.edges) := ⟨_, rfl⟩
    rw [← hU] at h1 ⊢
    clear hU
    simp only [dGr] at h1
    by_cases c2 : 16 < U.length
    · have d2 : (16 : Int) < U.length := by omega
      (repeat (first | (refine DW_seq fun K hK => ?_) | (refine DW_r anWB15103 Try.mixed (by kernel_rfl) ?_; simp [hnt, Try.ntmps103, Try.results103, anWB15103, dGr, c1, d1, c2, d2]; try simp (disch := omega) only [wrap64_in]) | (refine DW_block ?_) | (focus (refine DW_if ?_ ?_ ?_; (· (simp [hnt, Try.ntmps103, Try.results103, anWB15103, dGr, c1, d1, c2, d2]; done)); (try (rotate_left; (· (intro hc; (try simp [hnt, Try.ntmps103, Try.results103, anWB15103, dGr, c1, d1, c2, d2] at hc); done)))))) | (refine DW_ret ?_; simp [hnt, Try.ntmps103, Try.results103, anWB15103, dGr, c1, d1, c2, d2]) | (refine DW_exit ?_; simp [hnt, Try.ntmps103, Try.results103, anWB15103, dGr, c1, d1, c2, d2]) | (refine DW_skip ?_; simp [hnt, Try.ntmps103, Try.results103, anWB15103, dGr, c1, d1, c2, d2]) | (intro hc; (try simp [hnt, Try.ntmps103, Try.results103, anWB15103, dGr, c1, d1, c2, d2] at hc); done) | (intro hc; (try simp [hnt, Try.ntmps103, Try.results103, anWB15103, dGr, c1, d1, c2, d2] at hc); (first | (exfalso; omega) | skip)) | (refine callP_mk (h1) ?_; try simp [hnt, Try.ntmps103, Try.results103, anWB15103, dGr, c1, d1, c2, d2]) | (refine callP_wk (h1) ?_ ?_; (· (simp; done)); try simp [hnt, Try.ntmps103, Try.results103, anWB15103, dGr, c1, d1, c2, d2]) | (refine ⟨?_, ?_⟩; · omega) | omega | apply_assumption -exfalso -symm | (exfalso; omega)))
    · have d2 : ¬ (16 : Int) < U.length := by omega
      by_cases c3 : 256 < g.edges.length
      · have d3 : (256 : Int) < g.edges.length := by omega
        (repeat (first | (refine DW_seq fun K hK => ?_) | (refine DW_r anWB15103 Try.mixed (by kernel_rfl) ?_; simp [hnt, Try.ntmps103, Try.results103, anWB15103, dGr, c1, d1, c2, d2, c3, d3]; try simp (disch := omega) only [wrap64_in]) | (refine DW_block ?_) | (focus (refine DW_if ?_ ?_ ?_; (· (simp [hnt, Try.ntmps103, Try.results103, anWB15103, dGr, c1, d1, c2, d2, c3, d3]; done)); (try (rotate_left; (· (intro hc; (try simp [hnt, Try.ntmps103, Try.results103, anWB15103, dGr, c1, d1, c2, d2, c3, d3] at hc); done)))))) | (refine DW_ret ?_; simp [hnt, Try.ntmps103, Try.results103, anWB15103, dGr, c1, d1, c2, d2, c3, d3]) | (refine DW_exit ?_; simp [hnt, Try.ntmps103, Try.results103, anWB15103, dGr, c1, d1, c2, d2, c3, d3]) | (refine DW_skip ?_; simp [hnt, Try.ntmps103, Try.results103, anWB15103, dGr, c1, d1, c2, d2, c3, d3]) | (intro hc; (try simp [hnt, Try.ntmps103, Try.results103, anWB15103, dGr, c1, d1, c2, d2, c3, d3] at hc); done) | (intro hc; (try simp [hnt, Try.ntmps103, Try.results103, anWB15103, dGr, c1, d1, c2, d2, c3, d3] at hc); (first | (exfalso; omega) | skip)) | (refine callP_mk (h1) ?_; try simp [hnt, Try.ntmps103, Try.results103, anWB15103, dGr, c1, d1, c2, d2, c3, d3]) | (refine callP_wk (h1) ?_ ?_; (· (simp; done)); try simp [hnt, Try.ntmps103, Try.results103, anWB15103, dGr, c1, d1, c2, d2, c3, d3]) | (refine ⟨?_, ?_⟩; · omega) | omega | apply_assumption -exfalso -symm | (exfalso; omega)))
      · have d3 : ¬ (256 : Int) < g.edges.length := by omega
        have h2 := text138_pure g (small_of hn (by omega) (by omega))
        obtain ⟨T, hT⟩ : ∃ T, T = textB g := ⟨_, rfl⟩
        rw [← hT] at h2 ⊢
        clear hT
        simp only [dGr] at h2
        by_cases c4 : 2048 < T.size
        · have d4 : (2048 : Int) < T.size := by omega
          (repeat (first | (refine DW_seq fun K hK => ?_) | (refine DW_r anWB15103 Try.mixed (by kernel_rfl) ?_; simp [hnt, Try.ntmps103, Try.results103, anWB15103, dGr, c1, d1, c2, d2, c3, d3, c4, d4]; try simp (disch := omega) only [wrap64_in]) | (refine DW_block ?_) | (focus (refine DW_if ?_ ?_ ?_; (· (simp [hnt, Try.ntmps103, Try.results103, anWB15103, dGr, c1, d1, c2, d2, c3, d3, c4, d4]; done)); (try (rotate_left; (· (intro hc; (try simp [hnt, Try.ntmps103, Try.results103, anWB15103, dGr, c1, d1, c2, d2, c3, d3, c4, d4] at hc); done)))))) | (refine DW_ret ?_; simp [hnt, Try.ntmps103, Try.results103, anWB15103, dGr, c1, d1, c2, d2, c3, d3, c4, d4]) | (refine DW_exit ?_; simp [hnt, Try.ntmps103, Try.results103, anWB15103, dGr, c1, d1, c2, d2, c3, d3, c4, d4]) | (refine DW_skip ?_; simp [hnt, Try.ntmps103, Try.results103, anWB15103, dGr, c1, d1, c2, d2, c3, d3, c4, d4]) | (intro hc; (try simp [hnt, Try.ntmps103, Try.results103, anWB15103, dGr, c1, d1, c2, d2, c3, d3, c4, d4] at hc); done) | (intro hc; (try simp [hnt, Try.ntmps103, Try.results103, anWB15103, dGr, c1, d1, c2, d2, c3, d3, c4, d4] at hc); (first | (exfalso; omega) | skip)) | (refine callP_mk (h1) ?_; try simp [hnt, Try.ntmps103, Try.results103, anWB15103, dGr, c1, d1, c2, d2, c3, d3, c4, d4]) | (refine callP_wk (h1) ?_ ?_; (· (simp; done)); try simp [hnt, Try.ntmps103, Try.results103, anWB15103, dGr, c1, d1, c2, d2, c3, d3, c4, d4]) | (refine callP_mk (h2) ?_; try simp [hnt, Try.ntmps103, Try.results103, anWB15103, dGr, c1, d1, c2, d2, c3, d3, c4, d4]) | (refine callP_wk (h2) ?_ ?_; (· (simp; done)); try simp [hnt, Try.ntmps103, Try.results103, anWB15103, dGr, c1, d1, c2, d2, c3, d3, c4, d4]) | (refine ⟨?_, ?_⟩; · omega) | omega | apply_assumption -exfalso -symm | (exfalso; omega)))
        · have d4 : ¬ (2048 : Int) < T.size := by omega
          (repeat (first | (refine DW_seq fun K hK => ?_) | (refine DW_r anWB15103 Try.mixed (by kernel_rfl) ?_; simp [hnt, Try.ntmps103, Try.results103, anWB15103, dGr, c1, d1, c2, d2, c3, d3, c4, d4]; try simp (disch := omega) only [wrap64_in]) | (refine DW_block ?_) | (focus (refine DW_if ?_ ?_ ?_; (· (simp [hnt, Try.ntmps103, Try.results103, anWB15103, dGr, c1, d1, c2, d2, c3, d3, c4, d4]; done)); (try (rotate_left; (· (intro hc; (try simp [hnt, Try.ntmps103, Try.results103, anWB15103, dGr, c1, d1, c2, d2, c3, d3, c4, d4] at hc); done)))))) | (refine DW_ret ?_; simp [hnt, Try.ntmps103, Try.results103, anWB15103, dGr, c1, d1, c2, d2, c3, d3, c4, d4]) | (refine DW_exit ?_; simp [hnt, Try.ntmps103, Try.results103, anWB15103, dGr, c1, d1, c2, d2, c3, d3, c4, d4]) | (refine DW_skip ?_; simp [hnt, Try.ntmps103, Try.results103, anWB15103, dGr, c1, d1, c2, d2, c3, d3, c4, d4]) | (intro hc; (try simp [hnt, Try.ntmps103, Try.results103, anWB15103, dGr, c1, d1, c2, d2, c3, d3, c4, d4] at hc); done) | (intro hc; (try simp [hnt, Try.ntmps103, Try.results103, anWB15103, dGr, c1, d1, c2, d2, c3, d3, c4, d4] at hc); (first | (exfalso; omega) | skip)) | (refine callP_mk (h1) ?_; try simp [hnt, Try.ntmps103, Try.results103, anWB15103, dGr, c1, d1, c2, d2, c3, d3, c4, d4]) | (refine callP_wk (h1) ?_ ?_; (· (simp; done)); try simp [hnt, Try.ntmps103, Try.results103, anWB15103, dGr, c1, d1, c2, d2, c3, d3, c4, d4]) | (refine callP_mk (h2) ?_; try simp [hnt, Try.ntmps103, Try.results103, anWB15103, dGr, c1, d1, c2, d2, c3, d3, c4, d4]) | (refine callP_wk (h2) ?_ ?_; (· (simp; done)); try simp [hnt, Try.ntmps103, Try.results103, anWB15103, dGr, c1, d1, c2, d2, c3, d3, c4, d4]) | (refine ⟨?_, ?_⟩; · omega) | omega | apply_assumption -exfalso -symm | (exfalso; omega)))

def anWB1561 : Ann := ⟨[], []⟩
theorem check61_pure (g : Edges) : DPure Try.prog 61 [.agg (dGr g)] (.int .i64 (checkI g)) := by
  refine DPure_introF [] (fn := Try.f61) Try.func61 rfl Try.call61 (by simp [Try.ntmps61]) (by simp [mx]) ?_
  intro hwf B hnt
  clear hwf
  simp only [argS]
  unfold checkI
  have h1 := form101_pure g
  have h2 := named102_pure g
  simp only [dGr] at h1 h2
  cases hf : formB g
  · rw [hf] at h1
    (repeat (first | (refine DW_seq fun K hK => ?_) | (refine DW_r anWB1561 Try.mixed (by kernel_rfl) ?_; simp [hnt, Try.ntmps61, Try.results61, anWB1561, dGr]; try simp (disch := omega) only [wrap64_in]) | (refine DW_block ?_) | (focus (refine DW_if ?_ ?_ ?_; (· (simp [hnt, Try.ntmps61, Try.results61, anWB1561, dGr]; done)); (try (rotate_left; (· (intro hc; (try simp [hnt, Try.ntmps61, Try.results61, anWB1561, dGr] at hc); done)))))) | (refine DW_ret ?_; simp [hnt, Try.ntmps61, Try.results61, anWB1561, dGr]) | (refine DW_exit ?_; simp [hnt, Try.ntmps61, Try.results61, anWB1561, dGr]) | (refine DW_skip ?_; simp [hnt, Try.ntmps61, Try.results61, anWB1561, dGr]) | (intro hc; (try simp [hnt, Try.ntmps61, Try.results61, anWB1561, dGr] at hc); done) | (intro hc; (try simp [hnt, Try.ntmps61, Try.results61, anWB1561, dGr] at hc); (first | (exfalso; omega) | skip)) | (refine callP_mk (h1) ?_; try simp [hnt, Try.ntmps61, Try.results61, anWB1561, dGr]) | (refine callP_wk (h1) ?_ ?_; (· (simp; done)); try simp [hnt, Try.ntmps61, Try.results61, anWB1561, dGr]) | (refine callP_mk (h2) ?_; try simp [hnt, Try.ntmps61, Try.results61, anWB1561, dGr]) | (refine callP_wk (h2) ?_ ?_; (· (simp; done)); try simp [hnt, Try.ntmps61, Try.results61, anWB1561, dGr]) | (refine ⟨?_, ?_⟩; · omega) | omega | apply_assumption -exfalso -symm | (exfalso; omega)))
  · rw [hf] at h1
    cases hn : namedB g
    · rw [hn] at h2
      (repeat (first | (refine DW_seq fun K hK => ?_) | (refine DW_r anWB1561 Try.mixed (by kernel_rfl) ?_; simp [hnt, Try.ntmps61, Try.results61, anWB1561, dGr]; try simp (disch := omega) only [wrap64_in]) | (refine DW_block ?_) | (focus (refine DW_if ?_ ?_ ?_; (· (simp [hnt, Try.ntmps61, Try.results61, anWB1561, dGr]; done)); (try (rotate_left; (· (intro hc; (try simp [hnt, Try.ntmps61, Try.results61, anWB1561, dGr] at hc); done)))))) | (refine DW_ret ?_; simp [hnt, Try.ntmps61, Try.results61, anWB1561, dGr]) | (refine DW_exit ?_; simp [hnt, Try.ntmps61, Try.results61, anWB1561, dGr]) | (refine DW_skip ?_; simp [hnt, Try.ntmps61, Try.results61, anWB1561, dGr]) | (intro hc; (try simp [hnt, Try.ntmps61, Try.results61, anWB1561, dGr] at hc); done) | (intro hc; (try simp [hnt, Try.ntmps61, Try.results61, anWB1561, dGr] at hc); (first | (exfalso; omega) | skip)) | (refine callP_mk (h1) ?_; try simp [hnt, Try.ntmps61, Try.results61, anWB1561, dGr]) | (refine callP_wk (h1) ?_ ?_; (· (simp; done)); try simp [hnt, Try.ntmps61, Try.results61, anWB1561, dGr]) | (refine callP_mk (h2) ?_; try simp [hnt, Try.ntmps61, Try.results61, anWB1561, dGr]) | (refine callP_wk (h2) ?_ ?_; (· (simp; done)); try simp [hnt, Try.ntmps61, Try.results61, anWB1561, dGr]) | (refine ⟨?_, ?_⟩; · omega) | omega | apply_assumption -exfalso -symm | (exfalso; omega)))
    · rw [hn] at h2
      have h3 := caps103_pure g hn
      simp only [dGr] at h3
      (repeat (first | (refine DW_seq fun K hK => ?_) | (refine DW_r anWB1561 Try.mixed (by kernel_rfl) ?_; simp [hnt, Try.ntmps61, Try.results61, anWB1561, dGr]; try simp (disch := omega) only [wrap64_in]) | (refine DW_block ?_) | (focus (refine DW_if ?_ ?_ ?_; (· (simp [hnt, Try.ntmps61, Try.results61, anWB1561, dGr]; done)); (try (rotate_left; (· (intro hc; (try simp [hnt, Try.ntmps61, Try.results61, anWB1561, dGr] at hc); done)))))) | (refine DW_ret ?_; simp [hnt, Try.ntmps61, Try.results61, anWB1561, dGr]) | (refine DW_exit ?_; simp [hnt, Try.ntmps61, Try.results61, anWB1561, dGr]) | (refine DW_skip ?_; simp [hnt, Try.ntmps61, Try.results61, anWB1561, dGr]) | (intro hc; (try simp [hnt, Try.ntmps61, Try.results61, anWB1561, dGr] at hc); done) | (intro hc; (try simp [hnt, Try.ntmps61, Try.results61, anWB1561, dGr] at hc); (first | (exfalso; omega) | skip)) | (refine callP_mk (h1) ?_; try simp [hnt, Try.ntmps61, Try.results61, anWB1561, dGr]) | (refine callP_wk (h1) ?_ ?_; (· (simp; done)); try simp [hnt, Try.ntmps61, Try.results61, anWB1561, dGr]) | (refine callP_mk (h2) ?_; try simp [hnt, Try.ntmps61, Try.results61, anWB1561, dGr]) | (refine callP_wk (h2) ?_ ?_; (· (simp; done)); try simp [hnt, Try.ntmps61, Try.results61, anWB1561, dGr]) | (refine callP_mk (h3) ?_; try simp [hnt, Try.ntmps61, Try.results61, anWB1561, dGr]) | (refine callP_wk (h3) ?_ ?_; (· (simp; done)); try simp [hnt, Try.ntmps61, Try.results61, anWB1561, dGr]) | (refine ⟨?_, ?_⟩; · omega) | omega | apply_assumption -exfalso -symm | (exfalso; omega)))

def anWB1560 : Ann := ⟨[], []⟩
theorem way1_pure (g : Edges) : DPure Try.prog 60 [.ref (dGr g)] (.int .i64 (checkI g)) := by
  refine DPure_introF [] (fn := Try.f60) Try.func60 rfl Try.call60 (by simp [Try.ntmps60]) (by simp [mx]) ?_
  intro hwf B hnt
  clear hwf
  simp only [argS]
  have h := check61_pure g
  simp only [dGr] at h
  (repeat (first | (refine DW_seq fun K hK => ?_) | (refine DW_r anWB1560 Try.mixed (by kernel_rfl) ?_; simp [hnt, Try.ntmps60, Try.results60, anWB1560, dGr]; try simp (disch := omega) only [wrap64_in]) | (refine DW_block ?_) | (focus (refine DW_if ?_ ?_ ?_; (· (simp [hnt, Try.ntmps60, Try.results60, anWB1560, dGr]; done)); (try (rotate_left; (· (intro hc; (try simp [hnt, Try.ntmps60, Try.results60, anWB1560, dGr] at hc); done)))))) | (refine DW_ret ?_; simp [hnt, Try.ntmps60, Try.results60, anWB1560, dGr]) | (refine DW_exit ?_; simp [hnt, Try.ntmps60, Try.results60, anWB1560, dGr]) | (refine DW_skip ?_; simp [hnt, Try.ntmps60, Try.results60, anWB1560, dGr]) | (intro hc; (try simp [hnt, Try.ntmps60, Try.results60, anWB1560, dGr] at hc); done) | (intro hc; (try simp [hnt, Try.ntmps60, Try.results60, anWB1560, dGr] at hc); (first | (exfalso; omega) | skip)) | (refine callP_mk (h) ?_; try simp [hnt, Try.ntmps60, Try.results60, anWB1560, dGr]) | (refine callP_wk (h) ?_ ?_; (· (simp; done)); try simp [hnt, Try.ntmps60, Try.results60, anWB1560, dGr]) | (refine ⟨?_, ?_⟩; · omega) | omega | apply_assumption -exfalso -symm | (exfalso; omega)))
def anWB1562 : Ann := ⟨[], []⟩
theorem way2_pure (g : Edges) (a b : ByteArray) : DPure Try.prog 62 [.ref (dGr g), .ref [.str a], .ref [.str b]] (.int .i64 (endsI g a b)) := by
  refine DPure_introF [] (fn := Try.f62) Try.func62 rfl Try.call62 (by simp [Try.ntmps62]) (by simp [mx]) ?_
  intro hwf B hnt
  clear hwf
  simp only [argS]
  have h := ends63_pure g a b
  simp only [dGr] at h
  (repeat (first | (refine DW_seq fun K hK => ?_) | (refine DW_r anWB1562 Try.mixed (by kernel_rfl) ?_; simp [hnt, Try.ntmps62, Try.results62, anWB1562, dGr]; try simp (disch := omega) only [wrap64_in]) | (refine DW_block ?_) | (focus (refine DW_if ?_ ?_ ?_; (· (simp [hnt, Try.ntmps62, Try.results62, anWB1562, dGr]; done)); (try (rotate_left; (· (intro hc; (try simp [hnt, Try.ntmps62, Try.results62, anWB1562, dGr] at hc); done)))))) | (refine DW_ret ?_; simp [hnt, Try.ntmps62, Try.results62, anWB1562, dGr]) | (refine DW_exit ?_; simp [hnt, Try.ntmps62, Try.results62, anWB1562, dGr]) | (refine DW_skip ?_; simp [hnt, Try.ntmps62, Try.results62, anWB1562, dGr]) | (intro hc; (try simp [hnt, Try.ntmps62, Try.results62, anWB1562, dGr] at hc); done) | (intro hc; (try simp [hnt, Try.ntmps62, Try.results62, anWB1562, dGr] at hc); (first | (exfalso; omega) | skip)) | (refine callP_mk (h) ?_; try simp [hnt, Try.ntmps62, Try.results62, anWB1562, dGr]) | (refine callP_wk (h) ?_ ?_; (· (simp; done)); try simp [hnt, Try.ntmps62, Try.results62, anWB1562, dGr]) | (refine ⟨?_, ?_⟩; · omega) | omega | apply_assumption -exfalso -symm | (exfalso; omega)))
def anWB1564 : Ann := ⟨[], []⟩
theorem way3_pure (way : List Edge) : DPure Try.prog 64 [.ref [dEds way]] (.int .i64 (if 64 < way.length then 3 else 0)) := by
  refine DPure_introF [] (fn := Try.f64) Try.func64 rfl Try.call64 (by simp [Try.ntmps64]) (by simp [mx]) ?_
  intro hwf B hnt
  clear hwf
  simp only [argS]
  have h := given_pure (decide ((64 : Int) < way.length)) 3
  by_cases c : 64 < way.length
  · have d : (64 : Int) < way.length := by omega
    have h := given_pure true 3
    simp only [if_true] at h
    (repeat (first | (refine DW_seq fun K hK => ?_) | (refine DW_r anWB1564 Try.mixed (by kernel_rfl) ?_; simp [hnt, Try.ntmps64, Try.results64, anWB1564, c, d]; try simp (disch := omega) only [wrap64_in]) | (refine DW_block ?_) | (focus (refine DW_if ?_ ?_ ?_; (· (simp [hnt, Try.ntmps64, Try.results64, anWB1564, c, d]; done)); (try (rotate_left; (· (intro hc; (try simp [hnt, Try.ntmps64, Try.results64, anWB1564, c, d] at hc); done)))))) | (refine DW_ret ?_; simp [hnt, Try.ntmps64, Try.results64, anWB1564, c, d]) | (refine DW_exit ?_; simp [hnt, Try.ntmps64, Try.results64, anWB1564, c, d]) | (refine DW_skip ?_; simp [hnt, Try.ntmps64, Try.results64, anWB1564, c, d]) | (intro hc; (try simp [hnt, Try.ntmps64, Try.results64, anWB1564, c, d] at hc); done) | (intro hc; (try simp [hnt, Try.ntmps64, Try.results64, anWB1564, c, d] at hc); (first | (exfalso; omega) | skip)) | (refine callP_mk (h) ?_; try simp [hnt, Try.ntmps64, Try.results64, anWB1564, c, d]) | (refine callP_wk (h) ?_ ?_; (· (simp; done)); try simp [hnt, Try.ntmps64, Try.results64, anWB1564, c, d]) | (refine ⟨?_, ?_⟩; · omega) | omega | apply_assumption -exfalso -symm | (exfalso; omega)))
  · have d : ¬ (64 : Int) < way.length := by omega
    have h := given_pure false 3
    simp only [Bool.false_eq_true, if_false] at h
    (repeat (first | (refine DW_seq fun K hK => ?_) | (refine DW_r anWB1564 Try.mixed (by kernel_rfl) ?_; simp [hnt, Try.ntmps64, Try.results64, anWB1564, c, d]; try simp (disch := omega) only [wrap64_in]) | (refine DW_block ?_) | (focus (refine DW_if ?_ ?_ ?_; (· (simp [hnt, Try.ntmps64, Try.results64, anWB1564, c, d]; done)); (try (rotate_left; (· (intro hc; (try simp [hnt, Try.ntmps64, Try.results64, anWB1564, c, d] at hc); done)))))) | (refine DW_ret ?_; simp [hnt, Try.ntmps64, Try.results64, anWB1564, c, d]) | (refine DW_exit ?_; simp [hnt, Try.ntmps64, Try.results64, anWB1564, c, d]) | (refine DW_skip ?_; simp [hnt, Try.ntmps64, Try.results64, anWB1564, c, d]) | (intro hc; (try simp [hnt, Try.ntmps64, Try.results64, anWB1564, c, d] at hc); done) | (intro hc; (try simp [hnt, Try.ntmps64, Try.results64, anWB1564, c, d] at hc); (first | (exfalso; omega) | skip)) | (refine callP_mk (h) ?_; try simp [hnt, Try.ntmps64, Try.results64, anWB1564, c, d]) | (refine callP_wk (h) ?_ ?_; (· (simp; done)); try simp [hnt, Try.ntmps64, Try.results64, anWB1564, c, d]) | (refine ⟨?_, ?_⟩; · omega) | omega | apply_assumption -exfalso -symm | (exfalso; omega)))
def anWB1566 : Ann := ⟨[], []⟩
theorem way4_pure (g : Edges) (a b : ByteArray) (way : List Edge) : DPure Try.prog 66 [.ref (dGr g), .ref [.str a], .ref [.str b], .ref [dEds way]] (.int .i64 (if isWay g a b way then 0 else 370)) := by
  refine DPure_introF [] (fn := Try.f66) Try.func66 rfl Try.call66 (by simp [Try.ntmps66]) (by simp [mx]) ?_
  intro hwf B hnt
  clear hwf
  simp only [argS]
  have h := joined_pure g a b way
  obtain ⟨z, hz⟩ : ∃ z, z = isWay g a b way := ⟨_, rfl⟩
  rw [← hz] at h ⊢
  clear hz
  simp only [dGr] at h
  cases z
  · have h2 := given_pure true 370
    simp only [if_true] at h2
    (repeat (first | (refine DW_seq fun K hK => ?_) | (refine DW_r anWB1566 Try.mixed (by kernel_rfl) ?_; simp [hnt, Try.ntmps66, Try.results66, anWB1566, dGr]; try simp (disch := omega) only [wrap64_in]) | (refine DW_block ?_) | (focus (refine DW_if ?_ ?_ ?_; (· (simp [hnt, Try.ntmps66, Try.results66, anWB1566, dGr]; done)); (try (rotate_left; (· (intro hc; (try simp [hnt, Try.ntmps66, Try.results66, anWB1566, dGr] at hc); done)))))) | (refine DW_ret ?_; simp [hnt, Try.ntmps66, Try.results66, anWB1566, dGr]) | (refine DW_exit ?_; simp [hnt, Try.ntmps66, Try.results66, anWB1566, dGr]) | (refine DW_skip ?_; simp [hnt, Try.ntmps66, Try.results66, anWB1566, dGr]) | (intro hc; (try simp [hnt, Try.ntmps66, Try.results66, anWB1566, dGr] at hc); done) | (intro hc; (try simp [hnt, Try.ntmps66, Try.results66, anWB1566, dGr] at hc); (first | (exfalso; omega) | skip)) | (refine callP_mk (h) ?_; try simp [hnt, Try.ntmps66, Try.results66, anWB1566, dGr]) | (refine callP_wk (h) ?_ ?_; (· (simp; done)); try simp [hnt, Try.ntmps66, Try.results66, anWB1566, dGr]) | (refine callP_mk (h2) ?_; try simp [hnt, Try.ntmps66, Try.results66, anWB1566, dGr]) | (refine callP_wk (h2) ?_ ?_; (· (simp; done)); try simp [hnt, Try.ntmps66, Try.results66, anWB1566, dGr]) | (refine ⟨?_, ?_⟩; · omega) | omega | apply_assumption -exfalso -symm | (exfalso; omega)))
  · have h2 := given_pure false 370
    simp only [Bool.false_eq_true, if_false] at h2
    (repeat (first | (refine DW_seq fun K hK => ?_) | (refine DW_r anWB1566 Try.mixed (by kernel_rfl) ?_; simp [hnt, Try.ntmps66, Try.results66, anWB1566, dGr]; try simp (disch := omega) only [wrap64_in]) | (refine DW_block ?_) | (focus (refine DW_if ?_ ?_ ?_; (· (simp [hnt, Try.ntmps66, Try.results66, anWB1566, dGr]; done)); (try (rotate_left; (· (intro hc; (try simp [hnt, Try.ntmps66, Try.results66, anWB1566, dGr] at hc); done)))))) | (refine DW_ret ?_; simp [hnt, Try.ntmps66, Try.results66, anWB1566, dGr]) | (refine DW_exit ?_; simp [hnt, Try.ntmps66, Try.results66, anWB1566, dGr]) | (refine DW_skip ?_; simp [hnt, Try.ntmps66, Try.results66, anWB1566, dGr]) | (intro hc; (try simp [hnt, Try.ntmps66, Try.results66, anWB1566, dGr] at hc); done) | (intro hc; (try simp [hnt, Try.ntmps66, Try.results66, anWB1566, dGr] at hc); (first | (exfalso; omega) | skip)) | (refine callP_mk (h) ?_; try simp [hnt, Try.ntmps66, Try.results66, anWB1566, dGr]) | (refine callP_wk (h) ?_ ?_; (· (simp; done)); try simp [hnt, Try.ntmps66, Try.results66, anWB1566, dGr]) | (refine callP_mk (h2) ?_; try simp [hnt, Try.ntmps66, Try.results66, anWB1566, dGr]) | (refine callP_wk (h2) ?_ ?_; (· (simp; done)); try simp [hnt, Try.ntmps66, Try.results66, anWB1566, dGr]) | (refine ⟨?_, ?_⟩; · omega) | omega | apply_assumption -exfalso -symm | (exfalso; omega)))

def anWB1531 : Ann := ⟨[], []⟩
theorem way31_pure (g : Edges) (a b : ByteArray) (way : List Edge) : DPure Try.prog 31 [.agg (dGr g), .str a, .str b, dEds way] (.int .i64 (wayI g a b way)) := by
  refine DPure_introF [] (fn := Try.f31) Try.func31 rfl Try.call31 (by simp [Try.ntmps31]) (by simp [mx]) ?_
  intro hwf B hnt
  clear hwf
  simp only [argS]
  have hI : wayI g a b way = (if checkI g = 0 then (if endsI g a b = 0 then (if (if 64 < way.length then (3 : Int) else 0) = 0 then (if isWay g a b way then 0 else 370) else (if 64 < way.length then 3 else 0)) else endsI g a b) else checkI g) := by
    unfold wayI
    by_cases c : 64 < way.length <;> simp [c]
  have h := first4_pure 60 62 64 66 [.ref (dGr g)] [.ref (dGr g), .ref [.str a], .ref [.str b]] [.ref [dEds way]] [.ref (dGr g), .ref [.str a], .ref [.str b], .ref [dEds way]] _ _ _ _ (way1_pure g) (fun _ => way2_pure g a b) (fun _ _ => way3_pure way) (fun _ _ _ => way4_pure g a b way)
  rw [← hI] at h
  clear hI
  obtain ⟨R, hR⟩ : ∃ R, R = wayI g a b way := ⟨_, rfl⟩
  rw [← hR] at h ⊢
  clear hR
  have hr4 : (([0, 1, 2, 3] : List Nat) = List.range 4) = True := eq_true rfl
  simp only [dGr] at h
  (repeat (first | (refine DW_seq fun K hK => ?_) | (refine DW_r anWB1531 Try.mixed (by kernel_rfl) ?_; simp [hnt, Try.ntmps31, Try.results31, anWB1531, dGr, hr4]; try simp (disch := omega) only [wrap64_in]) | (refine DW_block ?_) | (focus (refine DW_if ?_ ?_ ?_; (· (simp [hnt, Try.ntmps31, Try.results31, anWB1531, dGr, hr4]; done)); (try (rotate_left; (· (intro hc; (try simp [hnt, Try.ntmps31, Try.results31, anWB1531, dGr, hr4] at hc); done)))))) | (refine DW_ret ?_; simp [hnt, Try.ntmps31, Try.results31, anWB1531, dGr, hr4]) | (refine DW_exit ?_; simp [hnt, Try.ntmps31, Try.results31, anWB1531, dGr, hr4]) | (refine DW_skip ?_; simp [hnt, Try.ntmps31, Try.results31, anWB1531, dGr, hr4]) | (intro hc; (try simp [hnt, Try.ntmps31, Try.results31, anWB1531, dGr, hr4] at hc); done) | (intro hc; (try simp [hnt, Try.ntmps31, Try.results31, anWB1531, dGr, hr4] at hc); (first | (exfalso; omega) | skip)) | (refine callP_mk (h) ?_; try simp [hnt, Try.ntmps31, Try.results31, anWB1531, dGr, hr4]) | (refine callP_wk (h) ?_ ?_; (· (simp; done)); try simp [hnt, Try.ntmps31, Try.results31, anWB1531, dGr, hr4]) | (refine ⟨?_, ?_⟩; · omega) | omega | apply_assumption -exfalso -symm | (exfalso; omega)))

def anWB1568 : Ann := ⟨[], []⟩
theorem rise0_pure : DPure Try.prog 68 [.nilsl] (.bool true) := by
  refine DPure_introF [] (fn := Try.f68) Try.func68 rfl Try.call68 (by simp [Try.ntmps68]) (by simp [mx]) ?_
  intro hwf B hnt
  clear hwf
  simp only [argS]
  (repeat (first | (refine DW_seq fun K hK => ?_) | (refine DW_r anWB1568 Try.mixed (by kernel_rfl) ?_; simp [hnt, Try.ntmps68, Try.results68, anWB1568]; try simp (disch := omega) only [wrap64_in]) | (refine DW_block ?_) | (focus (refine DW_if ?_ ?_ ?_; (· (simp [hnt, Try.ntmps68, Try.results68, anWB1568]; done)); (try (rotate_left; (· (intro hc; (try simp [hnt, Try.ntmps68, Try.results68, anWB1568] at hc); done)))))) | (refine DW_ret ?_; simp [hnt, Try.ntmps68, Try.results68, anWB1568]) | (refine DW_exit ?_; simp [hnt, Try.ntmps68, Try.results68, anWB1568]) | (refine DW_skip ?_; simp [hnt, Try.ntmps68, Try.results68, anWB1568]) | (intro hc; (try simp [hnt, Try.ntmps68, Try.results68, anWB1568] at hc); done) | (intro hc; (try simp [hnt, Try.ntmps68, Try.results68, anWB1568] at hc); (first | (exfalso; omega) | skip)) | (refine ⟨?_, ?_⟩; · omega) | omega | apply_assumption -exfalso -symm | (exfalso; omega)))
  refine DW_loop (X := Unit) (fun _ => ⟨[(0, .nilsl), (3, .int .i64 1)], []⟩) (fun _ => 0) () (Sub.lit (by simp)) ?_
  rintro ⟨⟩
  (repeat (first | (refine DW_seq fun K hK => ?_) | (refine DW_r anWB1568 Try.mixed (by kernel_rfl) ?_; simp [hnt, Try.ntmps68, Try.results68, anWB1568]; try simp (disch := omega) only [wrap64_in]) | (refine DW_block ?_) | (focus (refine DW_if ?_ ?_ ?_; (· (simp [hnt, Try.ntmps68, Try.results68, anWB1568]; done)); (try (rotate_left; (· (intro hc; (try simp [hnt, Try.ntmps68, Try.results68, anWB1568] at hc); done)))))) | (refine DW_ret ?_; simp [hnt, Try.ntmps68, Try.results68, anWB1568]) | (refine DW_exit ?_; simp [hnt, Try.ntmps68, Try.results68, anWB1568]) | (refine DW_skip ?_; simp [hnt, Try.ntmps68, Try.results68, anWB1568]) | (intro hc; (try simp [hnt, Try.ntmps68, Try.results68, anWB1568] at hc); done) | (intro hc; (try simp [hnt, Try.ntmps68, Try.results68, anWB1568] at hc); (first | (exfalso; omega) | skip)) | (refine ⟨?_, ?_⟩; · omega) | omega | apply_assumption -exfalso -symm | (exfalso; omega)))
end Go.Proofs.Ytihkcegelghcpaa
end

