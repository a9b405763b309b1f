/- Parts of a proof, laid together: WR5, W43, W81, W13, W45, WR6, W14, W19. -/
import Derived.Test.YtihkcegelghcpaaqCr6
import Derived.Test.YtihkcegelghcpaaqCr10
section
/- cfg.Rules -/

set_option linter.unusedSimpArgs false
set_option linter.unusedVariables false
namespace Go.Proofs.Ytihkcegelghcpaa
open Go Go.Dm
attribute [local irreducible] DW callP callS
set_option maxRecDepth 100000

theorem stepM_ge (m : Int) (s : Sym) : m ≤ stepM m s := by unfold stepM; split <;> omega
theorem steps_ge : ∀ (l : List Sym) (m : Int), m ≤ l.foldl stepM m
  | [], m => by simp
  | s :: l, m => by rw [List.foldl_cons]; exact Int.le_trans (stepM_ge m s) (steps_ge l _)
theorem steps_mem : ∀ (l : List Sym) (m : Int) (s : Sym), s ∈ l → s.label = true → s.n + 1 ≤ l.foldl stepM m
  | x :: l, m, s, h, hl => by
    rw [List.foldl_cons]
    rcases List.mem_cons.1 h with rfl | h
    · refine Int.le_trans ?_ (steps_ge l _)
      unfold stepM; rw [if_pos hl]; omega
    · exact steps_mem l _ s h hl
theorem mosts_ge : ∀ (l : List Prod) (m : Int), m ≤ l.foldl mostP m
  | [], m => by simp
  | p :: l, m => by rw [List.foldl_cons]; exact Int.le_trans (steps_ge p.body m) (mosts_ge l _)
theorem mosts_mem : ∀ (l : List Prod) (m : Int) (p : Prod) (s : Sym), p ∈ l → s ∈ p.body → s.label = true → s.n + 1 ≤ l.foldl mostP m
  | q :: l, m, p, s, h, hs, hl => by
    rw [List.foldl_cons]
    rcases List.mem_cons.1 h with rfl | h
    · exact Int.le_trans (steps_mem p.body m s hs hl) (mosts_ge l _)
    · exact mosts_mem l _ p s h hs hl

def preOf (p : Prod) : List Nd := if p.body.length = 0 then [⟨1, ⟨#[]⟩, 0⟩] else if p.body.length = 1 then [] else [⟨4, ⟨#[]⟩, p.body.length⟩]
def rulOf (ns ls : List ByteArray) (p : Prod) : Rul := ⟨txtAt ns p.head, preOf p ++ p.body.map (ndOf ns ls)⟩
def argOK (ns ls : List ByteArray) (c : Cnf) : Bool := decide ((ns.length : Int) = c.nts) && decide (mostC c ≤ ls.length) && unlikeB 2 ns && unlikeB 3 ls
def rulesD (ns ls : List ByteArray) (c : Cnf) : DVal := if cnfOK c then (if argOK ns ls c then .tup [dRuls (c.prods.map (rulOf ns ls)), .int .i64 0] else .tup [.nilsl, .int .i64 2]) else .tup [.nilsl, .int .i64 220]
def rowsD (ns ls : List ByteArray) (l : List Prod) : List (List DVal) := l.map fun p => dRul (rulOf ns ls p)
def ndsD (ns ls : List ByteArray) (pre : List Nd) (l : List Sym) : List (List DVal) := (pre ++ l.map (ndOf ns ls)).map dNd
theorem rowsD_len (ns ls : List ByteArray) {l : List Prod} {k : Nat} (h : k ≤ l.length) : (rowsD ns ls (l.take k)).length = k := by
  unfold rowsD; rw [List.length_map, List.length_take]; omega
theorem ndsD_len (ns ls : List ByteArray) (pre : List Nd) {l : List Sym} {k : Nat} (h : k ≤ l.length) : (ndsD ns ls pre (l.take k)).length = pre.length + k := by
  unfold ndsD; rw [List.length_map, List.length_append, List.length_map, List.length_take]; omega
theorem rowsD_next (ns ls : List ByteArray) {l : List Prod} {k : Nat} {p : Prod} (h : l[k]? = some p) : rowsD ns ls (l.take (k + 1)) = rowsD ns ls (l.take k) ++ [[.str (txtAt ns p.head), .sl 3 32 (ndsD ns ls (preOf p) p.body)]] := by
  unfold rowsD
  rw [List.take_add_one, h]
  simp [dRul, rulOf, ndsD]
theorem ndOf_n (ns ls : List ByteArray) (s : Sym) : (ndOf ns ls s).n = 0 := by unfold ndOf; split <;> rfl
theorem ndsD_next (ns ls : List ByteArray) (pre : List Nd) {l : List Sym} {k : Nat} {s : Sym} (h : l[k]? = some s) : ndsD ns ls pre (l.take (k + 1)) = ndsD ns ls pre (l.take k) ++ [[.int .i64 (ndOf ns ls s).k, .str (ndOf ns ls s).s, .int .i64 0]] := by
  unfold ndsD
  rw [List.take_add_one, h]
  simp [dNd, ndOf_n]
theorem rowsD_all (ns ls : List ByteArray) (l : List Prod) : rowsD ns ls l = (l.map (rulOf ns ls)).map dRul := by
  unfold rowsD; rw [List.map_map]; rfl
@[simp] theorem mx_rowsD (ns ls : List ByteArray) (l : List Prod) : mxR (rowsD ns ls l) = 0 := by rw [rowsD_all]; exact mx_dRuls _
@[simp] theorem mx_ndsD (ns ls : List ByteArray) (pre : List Nd) (l : List Sym) : mxR (ndsD ns ls pre l) = 0 := mx_dNds _
theorem ndsD_zero (ns ls : List ByteArray) (pre : List Nd) (l : List Sym) : ndsD ns ls pre (l.take 0) = pre.map dNd := by simp [ndsD]
theorem mx_rulesD (ns ls : List ByteArray) (c : Cnf) : mx (rulesD ns ls c) = 0 := by
  unfold rulesD
  split
  · split
    · simp only [mx, mxL, mx_dRuls]; rfl
    · simp [mx, mxL]
  · simp [mx, mxL]

def anWR538 : Ann := ⟨[85], [⟨7, [11], [], []⟩, ⟨10, [13], [], []⟩, ⟨21, [17], [], []⟩, ⟨30, [20], [], []⟩]⟩
set_option maxHeartbeats 2000000 in
theorem rules38_pure (c : Cnf) (ns ls : List ByteArray) (hp1 : c.prods.length ≤ 100000000) (hp2 : ∀ p ∈ c.prods, p.body.length ≤ 100000000) : DPure Try.prog 38 [.agg (dCnf c), dStrs ns, dStrs ls] (rulesD ns ls c) := by
  refine DPure_introF [15] (fn := Try.f38) Try.func38 rfl Try.call38 (by simp [Try.ntmps38]) (mx_rulesD ns ls c) ?_
  intro hwf B hnt
  have hwn := len_strs hwf.2.1
  have hwl := len_strs hwf.2.2.1
  clear hwf
  simp only [argS]
  have e0 := check_pure c
  obtain ⟨RD, hRD⟩ : ∃ RD, RD = rulesD ns ls c := ⟨_, rfl⟩
  rw [← hRD]
  unfold rulesD at hRD
  cases hok : cnfOK c
  · rw [hok] at e0 hRD
    simp only [Bool.false_eq_true, if_false] at e0 hRD
    subst hRD
    (repeat (first | (refine DW_seq fun K hK => ?_) | (refine DW_r anWR538 Try.mixed (by kernel_rfl) ?_; simp [hnt, Try.ntmps38, Try.results38, anWR538, dCnf]; try simp (disch := omega) only [wrap64_in]) | (refine DW_block ?_) | (focus (refine DW_if ?_ ?_ ?_; (· (simp [hnt, Try.ntmps38, Try.results38, anWR538, dCnf]; done)); (try (rotate_left; (· (intro hc; (try simp [hnt, Try.ntmps38, Try.results38, anWR538, dCnf] at hc); done)))))) | (refine DW_ret ?_; simp [hnt, Try.ntmps38, Try.results38, anWR538, dCnf]) | (refine DW_exit ?_; simp [hnt, Try.ntmps38, Try.results38, anWR538, dCnf]) | (refine DW_skip ?_; simp [hnt, Try.ntmps38, Try.results38, anWR538, dCnf]) | (intro hc; (try simp [hnt, Try.ntmps38, Try.results38, anWR538, dCnf] at hc); done) | (intro hc; (try simp [hnt, Try.ntmps38, Try.results38, anWR538, dCnf] at hc); (first | (exfalso; omega) | skip)) | (refine callP_mk (e0) ?_; try simp [hnt, Try.ntmps38, Try.results38, anWR538, dCnf]) | (refine callP_wk (e0) ?_ ?_; (· (simp; done)); try simp [hnt, Try.ntmps38, Try.results38, anWR538, dCnf]) | (refine ⟨?_, ?_⟩; · omega) | omega | apply_assumption -exfalso -symm | (exfalso; omega)))
  rw [hok] at e0 hRD
  simp only [if_true] at e0 hRD
  (repeat (first | (refine DW_seq fun K hK => ?_) | (refine DW_r anWR538 Try.mixed (by kernel_rfl) ?_; simp [hnt, Try.ntmps38, Try.results38, anWR538, dCnf]; try simp (disch := omega) only [wrap64_in]) | (refine DW_block ?_) | (focus (refine DW_if ?_ ?_ ?_; (· (simp [hnt, Try.ntmps38, Try.results38, anWR538, dCnf]; done)); (try (rotate_left; (· (intro hc; (try simp [hnt, Try.ntmps38, Try.results38, anWR538, dCnf] at hc); done)))))) | (refine DW_ret ?_; simp [hnt, Try.ntmps38, Try.results38, anWR538, dCnf]) | (refine DW_exit ?_; simp [hnt, Try.ntmps38, Try.results38, anWR538, dCnf]) | (refine DW_skip ?_; simp [hnt, Try.ntmps38, Try.results38, anWR538, dCnf]) | (intro hc; (try simp [hnt, Try.ntmps38, Try.results38, anWR538, dCnf] at hc); done) | (intro hc; (try simp [hnt, Try.ntmps38, Try.results38, anWR538, dCnf] at hc); (first | (exfalso; omega) | skip)) | (refine callP_mk (e0) ?_; try simp [hnt, Try.ntmps38, Try.results38, anWR538, dCnf]) | (refine callP_wk (e0) ?_ ?_; (· (simp; done)); try simp [hnt, Try.ntmps38, Try.results38, anWR538, dCnf]) | (refine ⟨?_, ?_⟩; · omega) | omega | apply_assumption -exfalso -symm | (exfalso; omega)))
  obtain ⟨M, hM⟩ : ∃ M, M = mostC c := ⟨_, rfl⟩
  have hMM := hM
  unfold mostC at hM
  refine DW_loop (X := {x : Nat × Int // x.1 ≤ c.prods.length ∧ M = (c.prods.drop x.1).foldl mostP x.2}) (fun x => ⟨[(3, .ref [.int .i64 c.nts, dProds c.prods]), (4, .ref [dStrs ns]), (5, .ref [dStrs ls]), (9, .int .i64 x.1.2), (27, dProds c.prods), (28, .int .i64 c.prods.length), (29, .int .i64 x.1.1)], []⟩) (fun x => c.prods.length - x.1.1) ⟨(0, 0), by simp, by simpa using hM⟩ (Sub.lit (by simp)) ?_
  clear hM e0
  rintro ⟨⟨k, m⟩, hk, hM⟩
  simp only at hk hM ⊢
  by_cases hlt : k < c.prods.length
  · obtain ⟨p, hp, hp', hpm⟩ := at_lt' hlt
    rw [foldl_drop hp] at hM
    obtain ⟨_, _, hs⟩ := ok_prod hok hpm
    have hb := hp2 p hpm
    (repeat (first | (refine DW_seq fun K hK => ?_) | (refine DW_r anWR538 Try.mixed (by kernel_rfl) ?_; simp [hnt, Try.ntmps38, Try.results38, anWR538, dCnf, dProd, hlt, hp']; try simp (disch := omega) only [wrap64_in]) | (refine DW_block ?_) | (focus (refine DW_if ?_ ?_ ?_; (· (simp [hnt, Try.ntmps38, Try.results38, anWR538, dCnf, dProd, hlt, hp']; done)); (try (rotate_left; (· (intro hc; (try simp [hnt, Try.ntmps38, Try.results38, anWR538, dCnf, dProd, hlt, hp'] at hc); done)))))) | (refine DW_ret ?_; simp [hnt, Try.ntmps38, Try.results38, anWR538, dCnf, dProd, hlt, hp']) | (refine DW_exit ?_; simp [hnt, Try.ntmps38, Try.results38, anWR538, dCnf, dProd, hlt, hp']) | (refine DW_skip ?_; simp [hnt, Try.ntmps38, Try.results38, anWR538, dCnf, dProd, hlt, hp']) | (intro hc; (try simp [hnt, Try.ntmps38, Try.results38, anWR538, dCnf, dProd, hlt, hp'] at hc); done) | (intro hc; (try simp [hnt, Try.ntmps38, Try.results38, anWR538, dCnf, dProd, hlt, hp'] at hc); (first | (exfalso; omega) | skip)) | (refine ⟨?_, ?_⟩; · omega) | omega | apply_assumption -exfalso -symm | (exfalso; omega)))
    have hM2 : M = (c.prods.drop (k + 1)).foldl mostP (p.body.foldl stepM m) := hM
    refine DW_loop (X := {x : Nat × Int // x.1 ≤ p.body.length ∧ M = (c.prods.drop (k + 1)).foldl mostP ((p.body.drop x.1).foldl stepM x.2)}) (fun x => ⟨[(3, .ref [.int .i64 c.nts, dProds c.prods]), (4, .ref [dStrs ns]), (5, .ref [dStrs ls]), (9, .int .i64 x.1.2), (27, dProds c.prods), (28, .int .i64 c.prods.length), (29, .int .i64 k), (34, dSyms p.body), (35, .int .i64 p.body.length), (36, .int .i64 x.1.1)], []⟩) (fun x => p.body.length - x.1.1) ⟨(0, m), by simp, by simpa using hM2⟩ (Sub.lit (by simp)) ?_
    clear hM hM2
    rintro ⟨⟨j, m⟩, hj, hM⟩
    simp only at hj hM ⊢
    by_cases hlj : j < p.body.length
    · obtain ⟨s, hs1, hs', hsm⟩ := at_lt' hlj
      obtain ⟨hn0, hn1, _⟩ := hs s hsm
      rw [foldl_drop hs1] at hM
      cases hl : s.label
      · have hst : stepM m s = m := by simp [stepM, hl]
        rw [hst] at hM
        (repeat (first | (refine DW_seq fun K hK => ?_) | (refine DW_r anWR538 Try.mixed (by kernel_rfl) ?_; simp [hnt, Try.ntmps38, Try.results38, anWR538, dCnf, dProd, dSym, hlt, hp', hlj, hs', hl]; try simp (disch := omega) only [wrap64_in]) | (refine DW_block ?_) | (focus (refine DW_if ?_ ?_ ?_; (· (simp [hnt, Try.ntmps38, Try.results38, anWR538, dCnf, dProd, dSym, hlt, hp', hlj, hs', hl]; done)); (try (rotate_left; (· (intro hc; (try simp [hnt, Try.ntmps38, Try.results38, anWR538, dCnf, dProd, dSym, hlt, hp', hlj, hs', hl] at hc); done)))))) | (refine DW_ret ?_; simp [hnt, Try.ntmps38, Try.results38, anWR538, dCnf, dProd, dSym, hlt, hp', hlj, hs', hl]) | (refine DW_exit ?_; simp [hnt, Try.ntmps38, Try.results38, anWR538, dCnf, dProd, dSym, hlt, hp', hlj, hs', hl]) | (refine DW_skip ?_; simp [hnt, Try.ntmps38, Try.results38, anWR538, dCnf, dProd, dSym, hlt, hp', hlj, hs', hl]) | (intro hc; (try simp [hnt, Try.ntmps38, Try.results38, anWR538, dCnf, dProd, dSym, hlt, hp', hlj, hs', hl] at hc); done) | (intro hc; (try simp [hnt, Try.ntmps38, Try.results38, anWR538, dCnf, dProd, dSym, hlt, hp', hlj, hs', hl] at hc); (first | (exfalso; omega) | skip)) | (refine ⟨?_, ?_⟩; · omega) | omega | apply_assumption -exfalso -symm | (exfalso; omega)))
        refine Again.mk ⟨(j + 1, m), show j + 1 ≤ _ ∧ _ from ⟨by omega, hM⟩⟩ (Sub.lit (by simp)) (by simp; omega)
        (repeat (first | (refine DW_seq fun K hK => ?_) | (refine DW_r anWR538 Try.mixed (by kernel_rfl) ?_; simp [hnt, Try.ntmps38, Try.results38, anWR538]; try simp (disch := omega) only [wrap64_in]) | (refine DW_block ?_) | (focus (refine DW_if ?_ ?_ ?_; (· (simp [hnt, Try.ntmps38, Try.results38, anWR538]; done)); (try (rotate_left; (· (intro hc; (try simp [hnt, Try.ntmps38, Try.results38, anWR538] at hc); done)))))) | (refine DW_ret ?_; simp [hnt, Try.ntmps38, Try.results38, anWR538]) | (refine DW_exit ?_; simp [hnt, Try.ntmps38, Try.results38, anWR538]) | (refine DW_skip ?_; simp [hnt, Try.ntmps38, Try.results38, anWR538]) | (intro hc; (try simp [hnt, Try.ntmps38, Try.results38, anWR538] at hc); done) | (intro hc; (try simp [hnt, Try.ntmps38, Try.results38, anWR538] at hc); (first | (exfalso; omega) | skip)) | (refine ⟨?_, ?_⟩; · omega) | omega | apply_assumption -exfalso -symm | (exfalso; omega)))
      · have hn1 := hn1 hl
        have hst : stepM m s = max m (s.n + 1) := by simp [stepM, hl]
        rw [hst] at hM
        (repeat (first | (refine DW_seq fun K hK => ?_) | (refine DW_r anWR538 Try.mixed (by kernel_rfl) ?_; simp [hnt, Try.ntmps38, Try.results38, anWR538, dCnf, dProd, dSym, hlt, hp', hlj, hs', hl]; try simp (disch := omega) only [wrap64_in]) | (refine DW_block ?_) | (focus (refine DW_if ?_ ?_ ?_; (· (simp [hnt, Try.ntmps38, Try.results38, anWR538, dCnf, dProd, dSym, hlt, hp', hlj, hs', hl]; done)); (try (rotate_left; (· (intro hc; (try simp [hnt, Try.ntmps38, Try.results38, anWR538, dCnf, dProd, dSym, hlt, hp', hlj, hs', hl] at hc); done)))))) | (refine DW_ret ?_; simp [hnt, Try.ntmps38, Try.results38, anWR538, dCnf, dProd, dSym, hlt, hp', hlj, hs', hl]) | (refine DW_exit ?_; simp [hnt, Try.ntmps38, Try.results38, anWR538, dCnf, dProd, dSym, hlt, hp', hlj, hs', hl]) | (refine DW_skip ?_; simp [hnt, Try.ntmps38, Try.results38, anWR538, dCnf, dProd, dSym, hlt, hp', hlj, hs', hl]) | (intro hc; (try simp [hnt, Try.ntmps38, Try.results38, anWR538, dCnf, dProd, dSym, hlt, hp', hlj, hs', hl] at hc); done) | (intro hc; (try simp [hnt, Try.ntmps38, Try.results38, anWR538, dCnf, dProd, dSym, hlt, hp', hlj, hs', hl] at hc); (first | (exfalso; omega) | skip)) | (refine ⟨?_, ?_⟩; · omega) | omega | apply_assumption -exfalso -symm | (exfalso; omega)))
        have hmx : (if m < s.n + 1 then s.n + 1 else m) = max m (s.n + 1) := by split <;> omega
        refine Again.mk ⟨(j + 1, max m (s.n + 1)), show j + 1 ≤ _ ∧ _ from ⟨by omega, hM⟩⟩ (Sub.lit (by simp [hmx])) (by simp; omega)
        (repeat (first | (refine DW_seq fun K hK => ?_) | (refine DW_r anWR538 Try.mixed (by kernel_rfl) ?_; simp [hnt, Try.ntmps38, Try.results38, anWR538]; try simp (disch := omega) only [wrap64_in]) | (refine DW_block ?_) | (focus (refine DW_if ?_ ?_ ?_; (· (simp [hnt, Try.ntmps38, Try.results38, anWR538]; done)); (try (rotate_left; (· (intro hc; (try simp [hnt, Try.ntmps38, Try.results38, anWR538] at hc); done)))))) | (refine DW_ret ?_; simp [hnt, Try.ntmps38, Try.results38, anWR538]) | (refine DW_exit ?_; simp [hnt, Try.ntmps38, Try.results38, anWR538]) | (refine DW_skip ?_; simp [hnt, Try.ntmps38, Try.results38, anWR538]) | (intro hc; (try simp [hnt, Try.ntmps38, Try.results38, anWR538] at hc); done) | (intro hc; (try simp [hnt, Try.ntmps38, Try.results38, anWR538] at hc); (first | (exfalso; omega) | skip)) | (refine ⟨?_, ?_⟩; · omega) | omega | apply_assumption -exfalso -symm | (exfalso; omega)))
    · have hjj : j = p.body.length := by omega
      subst hjj
      rw [List.drop_length] at hM
      simp only [List.foldl_nil] at hM
      (repeat (first | (refine DW_seq fun K hK => ?_) | (refine DW_r anWR538 Try.mixed (by kernel_rfl) ?_; simp [hnt, Try.ntmps38, Try.results38, anWR538, dCnf, dProd, hlt, hp']; try simp (disch := omega) only [wrap64_in]) | (refine DW_block ?_) | (focus (refine DW_if ?_ ?_ ?_; (· (simp [hnt, Try.ntmps38, Try.results38, anWR538, dCnf, dProd, hlt, hp']; done)); (try (rotate_left; (· (intro hc; (try simp [hnt, Try.ntmps38, Try.results38, anWR538, dCnf, dProd, hlt, hp'] at hc); done)))))) | (refine DW_ret ?_; simp [hnt, Try.ntmps38, Try.results38, anWR538, dCnf, dProd, hlt, hp']) | (refine DW_exit ?_; simp [hnt, Try.ntmps38, Try.results38, anWR538, dCnf, dProd, hlt, hp']) | (refine DW_skip ?_; simp [hnt, Try.ntmps38, Try.results38, anWR538, dCnf, dProd, hlt, hp']) | (intro hc; (try simp [hnt, Try.ntmps38, Try.results38, anWR538, dCnf, dProd, hlt, hp'] at hc); done) | (intro hc; (try simp [hnt, Try.ntmps38, Try.results38, anWR538, dCnf, dProd, hlt, hp'] at hc); (first | (exfalso; omega) | skip)) | (refine ⟨?_, ?_⟩; · omega) | omega | apply_assumption -exfalso -symm | (exfalso; omega)))
      refine Again.mk ⟨(k + 1, m), show k + 1 ≤ _ ∧ _ from ⟨by omega, hM⟩⟩ (Sub.lit (by simp)) (by simp; omega)
      (repeat (first | (refine DW_seq fun K hK => ?_) | (refine DW_r anWR538 Try.mixed (by kernel_rfl) ?_; simp [hnt, Try.ntmps38, Try.results38, anWR538]; try simp (disch := omega) only [wrap64_in]) | (refine DW_block ?_) | (focus (refine DW_if ?_ ?_ ?_; (· (simp [hnt, Try.ntmps38, Try.results38, anWR538]; done)); (try (rotate_left; (· (intro hc; (try simp [hnt, Try.ntmps38, Try.results38, anWR538] at hc); done)))))) | (refine DW_ret ?_; simp [hnt, Try.ntmps38, Try.results38, anWR538]) | (refine DW_exit ?_; simp [hnt, Try.ntmps38, Try.results38, anWR538]) | (refine DW_skip ?_; simp [hnt, Try.ntmps38, Try.results38, anWR538]) | (intro hc; (try simp [hnt, Try.ntmps38, Try.results38, anWR538] at hc); done) | (intro hc; (try simp [hnt, Try.ntmps38, Try.results38, anWR538] at hc); (first | (exfalso; omega) | skip)) | (refine ⟨?_, ?_⟩; · omega) | omega | apply_assumption -exfalso -symm | (exfalso; omega)))
  have hkk : k = c.prods.length := by omega
  subst hkk
  rw [List.drop_length] at hM
  simp only [List.foldl_nil] at hM
  subst hM
  clear hlt hk
  have e1 := unlike76_pure ns 2 (.inl rfl)
  have e2 := unlike76_pure ls 3 (.inr rfl)
  unfold argOK at hRD
  rw [← hMM] at hRD
  by_cases a1 : (ns.length : Int) = c.nts
  rotate_left
  · simp only [a1, decide_false, Bool.false_and, Bool.false_eq_true, if_false] at hRD
    subst hRD
    (repeat (first | (refine DW_seq fun K hK => ?_) | (refine DW_r anWR538 Try.mixed (by kernel_rfl) ?_; simp [hnt, Try.ntmps38, Try.results38, anWR538, dCnf, a1]; try simp (disch := omega) only [wrap64_in]) | (refine DW_block ?_) | (focus (refine DW_if ?_ ?_ ?_; (· (simp [hnt, Try.ntmps38, Try.results38, anWR538, dCnf, a1]; done)); (try (rotate_left; (· (intro hc; (try simp [hnt, Try.ntmps38, Try.results38, anWR538, dCnf, a1] at hc); done)))))) | (refine DW_ret ?_; simp [hnt, Try.ntmps38, Try.results38, anWR538, dCnf, a1]) | (refine DW_exit ?_; simp [hnt, Try.ntmps38, Try.results38, anWR538, dCnf, a1]) | (refine DW_skip ?_; simp [hnt, Try.ntmps38, Try.results38, anWR538, dCnf, a1]) | (intro hc; (try simp [hnt, Try.ntmps38, Try.results38, anWR538, dCnf, a1] at hc); done) | (intro hc; (try simp [hnt, Try.ntmps38, Try.results38, anWR538, dCnf, a1] at hc); (first | (exfalso; omega) | skip)) | (refine ⟨?_, ?_⟩; · omega) | omega | apply_assumption -exfalso -symm | (exfalso; omega)))
  simp only [a1, decide_true, Bool.true_and] at hRD
  by_cases a2 : M ≤ ls.length
  rotate_left
  · simp only [a2, decide_false, Bool.false_and, Bool.false_eq_true, if_false] at hRD
    subst hRD
    have a2' : (ls.length : Int) < M := by omega
    (repeat (first | (refine DW_seq fun K hK => ?_) | (refine DW_r anWR538 Try.mixed (by kernel_rfl) ?_; simp [hnt, Try.ntmps38, Try.results38, anWR538, dCnf, a1, a2']; try simp (disch := omega) only [wrap64_in]) | (refine DW_block ?_) | (focus (refine DW_if ?_ ?_ ?_; (· (simp [hnt, Try.ntmps38, Try.results38, anWR538, dCnf, a1, a2']; done)); (try (rotate_left; (· (intro hc; (try simp [hnt, Try.ntmps38, Try.results38, anWR538, dCnf, a1, a2'] at hc); done)))))) | (refine DW_ret ?_; simp [hnt, Try.ntmps38, Try.results38, anWR538, dCnf, a1, a2']) | (refine DW_exit ?_; simp [hnt, Try.ntmps38, Try.results38, anWR538, dCnf, a1, a2']) | (refine DW_skip ?_; simp [hnt, Try.ntmps38, Try.results38, anWR538, dCnf, a1, a2']) | (intro hc; (try simp [hnt, Try.ntmps38, Try.results38, anWR538, dCnf, a1, a2'] at hc); done) | (intro hc; (try simp [hnt, Try.ntmps38, Try.results38, anWR538, dCnf, a1, a2'] at hc); (first | (exfalso; omega) | skip)) | (refine ⟨?_, ?_⟩; · omega) | omega | apply_assumption -exfalso -symm | (exfalso; omega)))
  have a2' : ¬ (ls.length : Int) < M := by omega
  simp only [a2, decide_true, Bool.true_and] at hRD
  cases a3 : unlikeB 2 ns
  · rw [a3] at e1 hRD
    simp only [Bool.false_and, Bool.false_eq_true, if_false] at hRD
    subst hRD
    (repeat (first | (refine DW_seq fun K hK => ?_) | (refine DW_r anWR538 Try.mixed (by kernel_rfl) ?_; simp [hnt, Try.ntmps38, Try.results38, anWR538, dCnf, a1, a2']; try simp (disch := omega) only [wrap64_in]) | (refine DW_block ?_) | (focus (refine DW_if ?_ ?_ ?_; (· (simp [hnt, Try.ntmps38, Try.results38, anWR538, dCnf, a1, a2']; done)); (try (rotate_left; (· (intro hc; (try simp [hnt, Try.ntmps38, Try.results38, anWR538, dCnf, a1, a2'] at hc); done)))))) | (refine DW_ret ?_; simp [hnt, Try.ntmps38, Try.results38, anWR538, dCnf, a1, a2']) | (refine DW_exit ?_; simp [hnt, Try.ntmps38, Try.results38, anWR538, dCnf, a1, a2']) | (refine DW_skip ?_; simp [hnt, Try.ntmps38, Try.results38, anWR538, dCnf, a1, a2']) | (intro hc; (try simp [hnt, Try.ntmps38, Try.results38, anWR538, dCnf, a1, a2'] at hc); done) | (intro hc; (try simp [hnt, Try.ntmps38, Try.results38, anWR538, dCnf, a1, a2'] at hc); (first | (exfalso; omega) | skip)) | (refine callP_mk (e1) ?_; try simp [hnt, Try.ntmps38, Try.results38, anWR538, dCnf, a1, a2']) | (refine callP_wk (e1) ?_ ?_; (· (simp; done)); try simp [hnt, Try.ntmps38, Try.results38, anWR538, dCnf, a1, a2']) | (refine ⟨?_, ?_⟩; · omega) | omega | apply_assumption -exfalso -symm | (exfalso; omega)))
  rw [a3] at e1 hRD
  simp only [Bool.true_and] at hRD
  cases a4 : unlikeB 3 ls
  · rw [a4] at e2 hRD
    simp only [Bool.false_eq_true, if_false] at hRD
    subst hRD
    (repeat (first | (refine DW_seq fun K hK => ?_) | (refine DW_r anWR538 Try.mixed (by kernel_rfl) ?_; simp [hnt, Try.ntmps38, Try.results38, anWR538, dCnf, a1, a2']; try simp (disch := omega) only [wrap64_in]) | (refine DW_block ?_) | (focus (refine DW_if ?_ ?_ ?_; (· (simp [hnt, Try.ntmps38, Try.results38, anWR538, dCnf, a1, a2']; done)); (try (rotate_left; (· (intro hc; (try simp [hnt, Try.ntmps38, Try.results38, anWR538, dCnf, a1, a2'] at hc); done)))))) | (refine DW_ret ?_; simp [hnt, Try.ntmps38, Try.results38, anWR538, dCnf, a1, a2']) | (refine DW_exit ?_; simp [hnt, Try.ntmps38, Try.results38, anWR538, dCnf, a1, a2']) | (refine DW_skip ?_; simp [hnt, Try.ntmps38, Try.results38, anWR538, dCnf, a1, a2']) | (intro hc; (try simp [hnt, Try.ntmps38, Try.results38, anWR538, dCnf, a1, a2'] at hc); done) | (intro hc; (try simp [hnt, Try.ntmps38, Try.results38, anWR538, dCnf, a1, a2'] at hc); (first | (exfalso; omega) | skip)) | (refine callP_mk (e1) ?_; try simp [hnt, Try.ntmps38, Try.results38, anWR538, dCnf, a1, a2']) | (refine callP_wk (e1) ?_ ?_; (· (simp; done)); try simp [hnt, Try.ntmps38, Try.results38, anWR538, dCnf, a1, a2']) | (refine callP_mk (e2) ?_; try simp [hnt, Try.ntmps38, Try.results38, anWR538, dCnf, a1, a2']) | (refine callP_wk (e2) ?_ ?_; (· (simp; done)); try simp [hnt, Try.ntmps38, Try.results38, anWR538, dCnf, a1, a2']) | (refine ⟨?_, ?_⟩; · omega) | omega | apply_assumption -exfalso -symm | (exfalso; omega)))
  rw [a4] at e2 hRD
  simp only [if_true] at hRD
  subst hRD
  (repeat (first | (refine DW_seq fun K hK => ?_) | (refine DW_r anWR538 Try.mixed (by kernel_rfl) ?_; simp [hnt, Try.ntmps38, Try.results38, anWR538, dCnf, a1, a2']; try simp (disch := omega) only [wrap64_in]) | (refine DW_block ?_) | (focus (refine DW_if ?_ ?_ ?_; (· (simp [hnt, Try.ntmps38, Try.results38, anWR538, dCnf, a1, a2']; done)); (try (rotate_left; (· (intro hc; (try simp [hnt, Try.ntmps38, Try.results38, anWR538, dCnf, a1, a2'] at hc); done)))))) | (refine DW_ret ?_; simp [hnt, Try.ntmps38, Try.results38, anWR538, dCnf, a1, a2']) | (refine DW_exit ?_; simp [hnt, Try.ntmps38, Try.results38, anWR538, dCnf, a1, a2']) | (refine DW_skip ?_; simp [hnt, Try.ntmps38, Try.results38, anWR538, dCnf, a1, a2']) | (intro hc; (try simp [hnt, Try.ntmps38, Try.results38, anWR538, dCnf, a1, a2'] at hc); done) | (intro hc; (try simp [hnt, Try.ntmps38, Try.results38, anWR538, dCnf, a1, a2'] at hc); (first | (exfalso; omega) | skip)) | (refine callP_mk (e1) ?_; try simp [hnt, Try.ntmps38, Try.results38, anWR538, dCnf, a1, a2']) | (refine callP_wk (e1) ?_ ?_; (· (simp; done)); try simp [hnt, Try.ntmps38, Try.results38, anWR538, dCnf, a1, a2']) | (refine callP_mk (e2) ?_; try simp [hnt, Try.ntmps38, Try.results38, anWR538, dCnf, a1, a2']) | (refine callP_wk (e2) ?_ ?_; (· (simp; done)); try simp [hnt, Try.ntmps38, Try.results38, anWR538, dCnf, a1, a2']) | (refine ⟨?_, ?_⟩; · omega) | omega | apply_assumption -exfalso -symm | (exfalso; omega)))
  clear e1 e2
  refine DW_adoptS 15 15 116 2 40 (by simp [hnt, Try.ntmps38]) (fun n15 => ?_)
  refine DW_loop (X := {k : Nat // k ≤ c.prods.length}) (fun x => ⟨[(3, .ref [.int .i64 c.nts, dProds c.prods]), (4, .ref [dStrs ns]), (5, .ref [dStrs ls]), (14, .fn (.func 77) [] [.ref [dStrs ls], .ref [dStrs ns]]), (15, .osl 15 1), (72, dProds c.prods), (73, .int .i64 c.prods.length), (74, .int .i64 x.1)], [⟨15, 1, .row 116 2 40 (rowsD ns ls (c.prods.take x.1))⟩]⟩) (fun x => c.prods.length - x.1) ⟨0, by simp⟩ (Sub.lit (by simp [rowsD])) ?_
  rintro ⟨k, hk⟩
  simp only
  by_cases hlt : k < c.prods.length
  · obtain ⟨p, hp, hp', hpm⟩ := at_lt' hlt
    obtain ⟨hh0, hh1, hs⟩ := ok_prod hok hpm
    have hb := hp2 p hpm
    have hl1 := rowsD_len ns ls (show k ≤ c.prods.length from hk)
    have hnx := rowsD_next ns ls hp
    obtain ⟨hd, bd⟩ := p
    simp only at hh0 hh1 hs hb
    obtain ⟨hj, rfl⟩ := Int.eq_ofNat_of_zero_le hh0
    have hjn : hj < ns.length := by omega
    obtain ⟨t1, t2⟩ := txtAt_lt hjn
    have hpre : preOf ⟨hj, bd⟩ = if bd.length = 0 then [⟨1, ⟨#[]⟩, 0⟩] else if bd.length = 1 then [] else [⟨4, ⟨#[]⟩, bd.length⟩] := rfl
    have hlab : ∀ s ∈ bd, s.label = true → s.n < ls.length := fun s hsm hl => by
      have := mosts_mem c.prods 0 ⟨hj, bd⟩ s hpm hsm hl
      unfold mostC at hMM
      omega
    have hnt2 : ∀ s ∈ bd, s.label = false → s.n < ns.length := fun s hsm hl => by
      have := (hs s hsm).2.2 hl
      omega
    by_cases b0 : bd.length = 0
    · rw [if_pos b0] at hpre
      have hbd : bd = [] := List.eq_nil_of_length_eq_zero b0
      subst hbd
      rw [hpre] at hnx
      have hnd : ndsD ns ls [⟨1, ⟨#[]⟩, 0⟩] [] = [[.int .i64 1, .str ⟨#[]⟩, .int .i64 0]] := by simp [ndsD, dNd]
      rw [hnd] at hnx
      (repeat (first | (refine DW_seq fun K hK => ?_) | (refine DW_r anWR538 Try.mixed (by kernel_rfl) ?_; simp [hnt, Try.ntmps38, Try.results38, anWR538, dCnf, dProd, hlt, hp']; try simp (disch := omega) only [wrap64_in]) | (refine DW_block ?_) | (focus (refine DW_if ?_ ?_ ?_; (· (simp [hnt, Try.ntmps38, Try.results38, anWR538, dCnf, dProd, hlt, hp']; done)); (try (rotate_left; (· (intro hc; (try simp [hnt, Try.ntmps38, Try.results38, anWR538, dCnf, dProd, hlt, hp'] at hc); done)))))) | (refine DW_ret ?_; simp [hnt, Try.ntmps38, Try.results38, anWR538, dCnf, dProd, hlt, hp']) | (refine DW_exit ?_; simp [hnt, Try.ntmps38, Try.results38, anWR538, dCnf, dProd, hlt, hp']) | (refine DW_skip ?_; simp [hnt, Try.ntmps38, Try.results38, anWR538, dCnf, dProd, hlt, hp']) | (intro hc; (try simp [hnt, Try.ntmps38, Try.results38, anWR538, dCnf, dProd, hlt, hp'] at hc); done) | (intro hc; (try simp [hnt, Try.ntmps38, Try.results38, anWR538, dCnf, dProd, hlt, hp'] at hc); (first | (exfalso; omega) | skip)) | (refine ⟨?_, ?_⟩; · omega) | omega | apply_assumption -exfalso -symm | (exfalso; omega)))
      refine DW_loop (X := Unit) (fun x => ⟨[(3, .ref [.int .i64 c.nts, dProds c.prods]), (4, .ref [dStrs ns]), (5, .ref [dStrs ls]), (14, .fn (.func 77) [] [.ref [dStrs ls], .ref [dStrs ns]]), (15, .osl 15 1), (72, dProds c.prods), (73, .int .i64 c.prods.length), (74, .int .i64 k), (17, .ref [.int .i64 hj, .sl 2 16 []]), (18, .sl 3 32 [[.int .i64 1, .str ⟨#[]⟩, .int .i64 0]]), (93, .sl 2 16 []), (94, .int .i64 0), (95, .int .i64 0)], [⟨15, 1, .row 116 2 40 (rowsD ns ls (c.prods.take k))⟩]⟩) (fun x => 0) () (Sub.lit (by simp)) ?_
      rintro ⟨⟩
      (repeat (first | (refine DW_seq fun K hK => ?_) | (refine DW_r anWR538 Try.mixed (by kernel_rfl) ?_; simp [hnt, Try.ntmps38, Try.results38, anWR538, dCnf, dProd, hlt, hp', hjn, t1, t2, dStr, hl1]; try simp (disch := omega) only [wrap64_in]) | (refine DW_block ?_) | (focus (refine DW_if ?_ ?_ ?_; (· (simp [hnt, Try.ntmps38, Try.results38, anWR538, dCnf, dProd, hlt, hp', hjn, t1, t2, dStr, hl1]; done)); (try (rotate_left; (· (intro hc; (try simp [hnt, Try.ntmps38, Try.results38, anWR538, dCnf, dProd, hlt, hp', hjn, t1, t2, dStr, hl1] at hc); done)))))) | (refine DW_ret ?_; simp [hnt, Try.ntmps38, Try.results38, anWR538, dCnf, dProd, hlt, hp', hjn, t1, t2, dStr, hl1]) | (refine DW_exit ?_; simp [hnt, Try.ntmps38, Try.results38, anWR538, dCnf, dProd, hlt, hp', hjn, t1, t2, dStr, hl1]) | (refine DW_skip ?_; simp [hnt, Try.ntmps38, Try.results38, anWR538, dCnf, dProd, hlt, hp', hjn, t1, t2, dStr, hl1]) | (intro hc; (try simp [hnt, Try.ntmps38, Try.results38, anWR538, dCnf, dProd, hlt, hp', hjn, t1, t2, dStr, hl1] at hc); done) | (intro hc; (try simp [hnt, Try.ntmps38, Try.results38, anWR538, dCnf, dProd, hlt, hp', hjn, t1, t2, dStr, hl1] at hc); (first | (exfalso; omega) | skip)) | (refine ⟨?_, ?_⟩; · omega) | omega | apply_assumption -exfalso -symm | (exfalso; omega)))
      refine Again.mk ⟨k + 1, by omega⟩ (Sub.lit (by simp [hnx])) (by simp; omega)
      (repeat (first | (refine DW_seq fun K hK => ?_) | (refine DW_r anWR538 Try.mixed (by kernel_rfl) ?_; simp [hnt, Try.ntmps38, Try.results38, anWR538]; try simp (disch := omega) only [wrap64_in]) | (refine DW_block ?_) | (focus (refine DW_if ?_ ?_ ?_; (· (simp [hnt, Try.ntmps38, Try.results38, anWR538]; done)); (try (rotate_left; (· (intro hc; (try simp [hnt, Try.ntmps38, Try.results38, anWR538] at hc); done)))))) | (refine DW_ret ?_; simp [hnt, Try.ntmps38, Try.results38, anWR538]) | (refine DW_exit ?_; simp [hnt, Try.ntmps38, Try.results38, anWR538]) | (refine DW_skip ?_; simp [hnt, Try.ntmps38, Try.results38, anWR538]) | (intro hc; (try simp [hnt, Try.ntmps38, Try.results38, anWR538] at hc); done) | (intro hc; (try simp [hnt, Try.ntmps38, Try.results38, anWR538] at hc); (first | (exfalso; omega) | skip)) | (refine ⟨?_, ?_⟩; · omega) | omega | apply_assumption -exfalso -symm | (exfalso; omega)))
    rw [if_neg b0] at hpre
    have b0' : ¬ (bd.length : Int) = 0 := by omega
    by_cases b1 : bd.length = 1
    · rw [if_pos b1] at hpre
      rw [hpre] at hnx
      have b1' : (bd.length : Int) = 1 := by omega
      (repeat (first | (refine DW_seq fun K hK => ?_) | (refine DW_r anWR538 Try.mixed (by kernel_rfl) ?_; simp [hnt, Try.ntmps38, Try.results38, anWR538, dCnf, dProd, hlt, hp', b0, b0', b1, b1']; try simp (disch := omega) only [wrap64_in]) | (refine DW_block ?_) | (focus (refine DW_if ?_ ?_ ?_; (· (simp [hnt, Try.ntmps38, Try.results38, anWR538, dCnf, dProd, hlt, hp', b0, b0', b1, b1']; done)); (try (rotate_left; (· (intro hc; (try simp [hnt, Try.ntmps38, Try.results38, anWR538, dCnf, dProd, hlt, hp', b0, b0', b1, b1'] at hc); done)))))) | (refine DW_ret ?_; simp [hnt, Try.ntmps38, Try.results38, anWR538, dCnf, dProd, hlt, hp', b0, b0', b1, b1']) | (refine DW_exit ?_; simp [hnt, Try.ntmps38, Try.results38, anWR538, dCnf, dProd, hlt, hp', b0, b0', b1, b1']) | (refine DW_skip ?_; simp [hnt, Try.ntmps38, Try.results38, anWR538, dCnf, dProd, hlt, hp', b0, b0', b1, b1']) | (intro hc; (try simp [hnt, Try.ntmps38, Try.results38, anWR538, dCnf, dProd, hlt, hp', b0, b0', b1, b1'] at hc); done) | (intro hc; (try simp [hnt, Try.ntmps38, Try.results38, anWR538, dCnf, dProd, hlt, hp', b0, b0', b1, b1'] at hc); (first | (exfalso; omega) | skip)) | (refine ⟨?_, ?_⟩; · omega) | omega | apply_assumption -exfalso -symm | (exfalso; omega)))
      refine DW_loop (X := {j : Nat // j ≤ bd.length}) (fun x => match x.1 with | 0 => ⟨[(3, .ref [.int .i64 c.nts, dProds c.prods]), (4, .ref [dStrs ns]), (5, .ref [dStrs ls]), (14, .fn (.func 77) [] [.ref [dStrs ls], .ref [dStrs ns]]), (15, .osl 15 1), (72, dProds c.prods), (73, .int .i64 c.prods.length), (74, .int .i64 k), (17, .ref [.int .i64 hj, dSyms bd]), (18, .nilsl), (93, dSyms bd), (94, .int .i64 bd.length), (95, .int .i64 0)], [⟨15, 1, .row 116 2 40 (rowsD ns ls (c.prods.take k))⟩]⟩ | j + 1 => ⟨[(3, .ref [.int .i64 c.nts, dProds c.prods]), (4, .ref [dStrs ns]), (5, .ref [dStrs ls]), (14, .fn (.func 77) [] [.ref [dStrs ls], .ref [dStrs ns]]), (15, .osl 15 1), (72, dProds c.prods), (73, .int .i64 c.prods.length), (74, .int .i64 k), (17, .ref [.int .i64 hj, dSyms bd]), (18, .osl 104 1), (93, dSyms bd), (94, .int .i64 bd.length), (95, .int .i64 (j + 1))], [⟨15, 1, .row 116 2 40 (rowsD ns ls (c.prods.take k))⟩, ⟨104, 1, .row 112 3 32 (ndsD ns ls [] (bd.take (j + 1)))⟩]⟩) (fun x => bd.length - x.1) ⟨0, by simp⟩ (Sub.lit (by simp [b1'])) ?_
      rintro ⟨j, hj2⟩
      match j, hj2 with
      | 0, hj2 =>
        have hlj : 0 < bd.length := by omega
        obtain ⟨s, hs1, hs', hsm⟩ := at_lt' hlj
        have e1 := rules1_pure ns ls s (hs s hsm).1 (hlab s hsm) (hnt2 s hsm)
        have hn1 := ndsD_next ns ls [] hs1
        rw [ndsD_zero] at hn1
        simp only
        (repeat (first | (refine DW_seq fun K hK => ?_) | (refine DW_r anWR538 Try.mixed (by kernel_rfl) ?_; simp [hnt, Try.ntmps38, Try.results38, anWR538, dCnf, dProd, dSym, hlj, hs']; try simp (disch := omega) only [wrap64_in]) | (refine DW_block ?_) | (focus (refine DW_if ?_ ?_ ?_; (· (simp [hnt, Try.ntmps38, Try.results38, anWR538, dCnf, dProd, dSym, hlj, hs']; done)); (try (rotate_left; (· (intro hc; (try simp [hnt, Try.ntmps38, Try.results38, anWR538, dCnf, dProd, dSym, hlj, hs'] at hc); done)))))) | (refine DW_ret ?_; simp [hnt, Try.ntmps38, Try.results38, anWR538, dCnf, dProd, dSym, hlj, hs']) | (refine DW_exit ?_; simp [hnt, Try.ntmps38, Try.results38, anWR538, dCnf, dProd, dSym, hlj, hs']) | (refine DW_skip ?_; simp [hnt, Try.ntmps38, Try.results38, anWR538, dCnf, dProd, dSym, hlj, hs']) | (intro hc; (try simp [hnt, Try.ntmps38, Try.results38, anWR538, dCnf, dProd, dSym, hlj, hs'] at hc); done) | (intro hc; (try simp [hnt, Try.ntmps38, Try.results38, anWR538, dCnf, dProd, dSym, hlj, hs'] at hc); (first | (exfalso; omega) | skip)) | (refine callP_mk (e1) ?_; try simp [hnt, Try.ntmps38, Try.results38, anWR538, dCnf, dProd, dSym, hlj, hs']) | (refine callP_wk (e1) ?_ ?_; (· (simp; done)); try simp [hnt, Try.ntmps38, Try.results38, anWR538, dCnf, dProd, dSym, hlj, hs']) | (refine ⟨?_, ?_⟩; · omega) | omega | apply_assumption -exfalso -symm | (exfalso; omega)))
        refine Again.mk ⟨0 + 1, by omega⟩ (Sub.lit (by simp [hn1, dNd])) (by simp; omega)
        (repeat (first | (refine DW_seq fun K hK => ?_) | (refine DW_r anWR538 Try.mixed (by kernel_rfl) ?_; simp [hnt, Try.ntmps38, Try.results38, anWR538]; try simp (disch := omega) only [wrap64_in]) | (refine DW_block ?_) | (focus (refine DW_if ?_ ?_ ?_; (· (simp [hnt, Try.ntmps38, Try.results38, anWR538]; done)); (try (rotate_left; (· (intro hc; (try simp [hnt, Try.ntmps38, Try.results38, anWR538] at hc); done)))))) | (refine DW_ret ?_; simp [hnt, Try.ntmps38, Try.results38, anWR538]) | (refine DW_exit ?_; simp [hnt, Try.ntmps38, Try.results38, anWR538]) | (refine DW_skip ?_; simp [hnt, Try.ntmps38, Try.results38, anWR538]) | (intro hc; (try simp [hnt, Try.ntmps38, Try.results38, anWR538] at hc); done) | (intro hc; (try simp [hnt, Try.ntmps38, Try.results38, anWR538] at hc); (first | (exfalso; omega) | skip)) | (refine callP_mk (e1) ?_; try simp [hnt, Try.ntmps38, Try.results38, anWR538]) | (refine callP_wk (e1) ?_ ?_; (· (simp; done)); try simp [hnt, Try.ntmps38, Try.results38, anWR538]) | (refine ⟨?_, ?_⟩; · omega) | omega | apply_assumption -exfalso -symm | (exfalso; omega)))
      | j + 1, hj2 =>
        have hl2 := ndsD_len ns ls [] hj2
        simp only [List.length_nil, List.length_singleton] at hl2
        by_cases hlj : j + 1 < bd.length
        · exact absurd hlj (by omega)
        · have hjj : bd.length = j + 1 := by omega
          have htk : bd.take (j + 1) = bd := List.take_of_length_le (by omega)
          simp only
          rw [htk] at hl2 ⊢
          have hlj' : ¬ (j : Int) + 1 < bd.length := by omega
          refine DW_sub (Sub.freezeL [104] _) ?_
          simp [hnt, Try.ntmps38, Try.results38, anWR538]
          (repeat (first | (refine DW_seq fun K hK => ?_) | (refine DW_r anWR538 Try.mixed (by kernel_rfl) ?_; simp [hnt, Try.ntmps38, Try.results38, anWR538, dCnf, dProd, hlj, hlj', hjn, t1, t2, dStr, hl1, hl2]; try simp (disch := omega) only [wrap64_in]) | (refine DW_block ?_) | (focus (refine DW_if ?_ ?_ ?_; (· (simp [hnt, Try.ntmps38, Try.results38, anWR538, dCnf, dProd, hlj, hlj', hjn, t1, t2, dStr, hl1, hl2]; done)); (try (rotate_left; (· (intro hc; (try simp [hnt, Try.ntmps38, Try.results38, anWR538, dCnf, dProd, hlj, hlj', hjn, t1, t2, dStr, hl1, hl2] at hc); done)))))) | (refine DW_ret ?_; simp [hnt, Try.ntmps38, Try.results38, anWR538, dCnf, dProd, hlj, hlj', hjn, t1, t2, dStr, hl1, hl2]) | (refine DW_exit ?_; simp [hnt, Try.ntmps38, Try.results38, anWR538, dCnf, dProd, hlj, hlj', hjn, t1, t2, dStr, hl1, hl2]) | (refine DW_skip ?_; simp [hnt, Try.ntmps38, Try.results38, anWR538, dCnf, dProd, hlj, hlj', hjn, t1, t2, dStr, hl1, hl2]) | (intro hc; (try simp [hnt, Try.ntmps38, Try.results38, anWR538, dCnf, dProd, hlj, hlj', hjn, t1, t2, dStr, hl1, hl2] at hc); done) | (intro hc; (try simp [hnt, Try.ntmps38, Try.results38, anWR538, dCnf, dProd, hlj, hlj', hjn, t1, t2, dStr, hl1, hl2] at hc); (first | (exfalso; omega) | skip)) | (refine ⟨?_, ?_⟩; · omega) | omega | apply_assumption -exfalso -symm | (exfalso; omega)))
          refine Again.mk ⟨k + 1, by omega⟩ (Sub.lit (by simp [hnx])) (by simp; omega)
          (repeat (first | (refine DW_seq fun K hK => ?_) | (refine DW_r anWR538 Try.mixed (by kernel_rfl) ?_; simp [hnt, Try.ntmps38, Try.results38, anWR538]; try simp (disch := omega) only [wrap64_in]) | (refine DW_block ?_) | (focus (refine DW_if ?_ ?_ ?_; (· (simp [hnt, Try.ntmps38, Try.results38, anWR538]; done)); (try (rotate_left; (· (intro hc; (try simp [hnt, Try.ntmps38, Try.results38, anWR538] at hc); done)))))) | (refine DW_ret ?_; simp [hnt, Try.ntmps38, Try.results38, anWR538]) | (refine DW_exit ?_; simp [hnt, Try.ntmps38, Try.results38, anWR538]) | (refine DW_skip ?_; simp [hnt, Try.ntmps38, Try.results38, anWR538]) | (intro hc; (try simp [hnt, Try.ntmps38, Try.results38, anWR538] at hc); done) | (intro hc; (try simp [hnt, Try.ntmps38, Try.results38, anWR538] at hc); (first | (exfalso; omega) | skip)) | (refine ⟨?_, ?_⟩; · omega) | omega | apply_assumption -exfalso -symm | (exfalso; omega)))
    · rw [if_neg b1] at hpre
      rw [hpre] at hnx
      have b1' : ¬ (bd.length : Int) = 1 := by omega
      (repeat (first | (refine DW_seq fun K hK => ?_) | (refine DW_r anWR538 Try.mixed (by kernel_rfl) ?_; simp [hnt, Try.ntmps38, Try.results38, anWR538, dCnf, dProd, hlt, hp', b0, b0', b1, b1']; try simp (disch := omega) only [wrap64_in]) | (refine DW_block ?_) | (focus (refine DW_if ?_ ?_ ?_; (· (simp [hnt, Try.ntmps38, Try.results38, anWR538, dCnf, dProd, hlt, hp', b0, b0', b1, b1']; done)); (try (rotate_left; (· (intro hc; (try simp [hnt, Try.ntmps38, Try.results38, anWR538, dCnf, dProd, hlt, hp', b0, b0', b1, b1'] at hc); done)))))) | (refine DW_ret ?_; simp [hnt, Try.ntmps38, Try.results38, anWR538, dCnf, dProd, hlt, hp', b0, b0', b1, b1']) | (refine DW_exit ?_; simp [hnt, Try.ntmps38, Try.results38, anWR538, dCnf, dProd, hlt, hp', b0, b0', b1, b1']) | (refine DW_skip ?_; simp [hnt, Try.ntmps38, Try.results38, anWR538, dCnf, dProd, hlt, hp', b0, b0', b1, b1']) | (intro hc; (try simp [hnt, Try.ntmps38, Try.results38, anWR538, dCnf, dProd, hlt, hp', b0, b0', b1, b1'] at hc); done) | (intro hc; (try simp [hnt, Try.ntmps38, Try.results38, anWR538, dCnf, dProd, hlt, hp', b0, b0', b1, b1'] at hc); (first | (exfalso; omega) | skip)) | (refine ⟨?_, ?_⟩; · omega) | omega | apply_assumption -exfalso -symm | (exfalso; omega)))
      refine DW_loop (X := {j : Nat // j ≤ bd.length}) (fun x => ⟨[(3, .ref [.int .i64 c.nts, dProds c.prods]), (4, .ref [dStrs ns]), (5, .ref [dStrs ls]), (14, .fn (.func 77) [] [.ref [dStrs ls], .ref [dStrs ns]]), (15, .osl 15 1), (72, dProds c.prods), (73, .int .i64 c.prods.length), (74, .int .i64 k), (17, .ref [.int .i64 hj, dSyms bd]), (18, .osl 85 1), (93, dSyms bd), (94, .int .i64 bd.length), (95, .int .i64 x.1)], [⟨15, 1, .row 116 2 40 (rowsD ns ls (c.prods.take k))⟩, ⟨85, 1, .row 112 3 32 (ndsD ns ls [⟨4, ⟨#[]⟩, bd.length⟩] (bd.take x.1))⟩]⟩) (fun x => bd.length - x.1) ⟨0, by simp⟩ (Sub.lit (by simp [ndsD, dNd])) ?_
      rintro ⟨j, hj2⟩
      simp only
      have hl2 := ndsD_len ns ls [⟨4, ⟨#[]⟩, bd.length⟩] hj2
      simp only [List.length_nil, List.length_singleton] at hl2
      by_cases hlj : j < bd.length
      · obtain ⟨s, hs1, hs', hsm⟩ := at_lt' hlj
        have e1 := rules1_pure ns ls s (hs s hsm).1 (hlab s hsm) (hnt2 s hsm)
        have hn1 := ndsD_next ns ls [⟨4, ⟨#[]⟩, bd.length⟩] hs1
        (repeat (first | (refine DW_seq fun K hK => ?_) | (refine DW_r anWR538 Try.mixed (by kernel_rfl) ?_; simp [hnt, Try.ntmps38, Try.results38, anWR538, dCnf, dProd, dSym, hlj, hs', hl2]; try simp (disch := omega) only [wrap64_in]) | (refine DW_block ?_) | (focus (refine DW_if ?_ ?_ ?_; (· (simp [hnt, Try.ntmps38, Try.results38, anWR538, dCnf, dProd, dSym, hlj, hs', hl2]; done)); (try (rotate_left; (· (intro hc; (try simp [hnt, Try.ntmps38, Try.results38, anWR538, dCnf, dProd, dSym, hlj, hs', hl2] at hc); done)))))) | (refine DW_ret ?_; simp [hnt, Try.ntmps38, Try.results38, anWR538, dCnf, dProd, dSym, hlj, hs', hl2]) | (refine DW_exit ?_; simp [hnt, Try.ntmps38, Try.results38, anWR538, dCnf, dProd, dSym, hlj, hs', hl2]) | (refine DW_skip ?_; simp [hnt, Try.ntmps38, Try.results38, anWR538, dCnf, dProd, dSym, hlj, hs', hl2]) | (intro hc; (try simp [hnt, Try.ntmps38, Try.results38, anWR538, dCnf, dProd, dSym, hlj, hs', hl2] at hc); done) | (intro hc; (try simp [hnt, Try.ntmps38, Try.results38, anWR538, dCnf, dProd, dSym, hlj, hs', hl2] at hc); (first | (exfalso; omega) | skip)) | (refine callP_mk (e1) ?_; try simp [hnt, Try.ntmps38, Try.results38, anWR538, dCnf, dProd, dSym, hlj, hs', hl2]) | (refine callP_wk (e1) ?_ ?_; (· (simp; done)); try simp [hnt, Try.ntmps38, Try.results38, anWR538, dCnf, dProd, dSym, hlj, hs', hl2]) | (refine ⟨?_, ?_⟩; · omega) | omega | apply_assumption -exfalso -symm | (exfalso; omega)))
        refine Again.mk ⟨j + 1, by omega⟩ (Sub.lit (by simp [hn1])) (by simp; omega)
        (repeat (first | (refine DW_seq fun K hK => ?_) | (refine DW_r anWR538 Try.mixed (by kernel_rfl) ?_; simp [hnt, Try.ntmps38, Try.results38, anWR538]; try simp (disch := omega) only [wrap64_in]) | (refine DW_block ?_) | (focus (refine DW_if ?_ ?_ ?_; (· (simp [hnt, Try.ntmps38, Try.results38, anWR538]; done)); (try (rotate_left; (· (intro hc; (try simp [hnt, Try.ntmps38, Try.results38, anWR538] at hc); done)))))) | (refine DW_ret ?_; simp [hnt, Try.ntmps38, Try.results38, anWR538]) | (refine DW_exit ?_; simp [hnt, Try.ntmps38, Try.results38, anWR538]) | (refine DW_skip ?_; simp [hnt, Try.ntmps38, Try.results38, anWR538]) | (intro hc; (try simp [hnt, Try.ntmps38, Try.results38, anWR538] at hc); done) | (intro hc; (try simp [hnt, Try.ntmps38, Try.results38, anWR538] at hc); (first | (exfalso; omega) | skip)) | (refine callP_mk (e1) ?_; try simp [hnt, Try.ntmps38, Try.results38, anWR538]) | (refine callP_wk (e1) ?_ ?_; (· (simp; done)); try simp [hnt, Try.ntmps38, Try.results38, anWR538]) | (refine ⟨?_, ?_⟩; · omega) | omega | apply_assumption -exfalso -symm | (exfalso; omega)))
      · have hjj : bd.length = j := by omega
        have htk : bd.take j = bd := List.take_of_length_le (by omega)
        rw [htk] at hl2 ⊢
        refine DW_sub (Sub.freezeL [85] _) ?_
        simp [hnt, Try.ntmps38, Try.results38, anWR538]
        (repeat (first | (refine DW_seq fun K hK => ?_) | (refine DW_r anWR538 Try.mixed (by kernel_rfl) ?_; simp [hnt, Try.ntmps38, Try.results38, anWR538, dCnf, dProd, hlj, hjn, t1, t2, dStr, hl1, hl2]; try simp (disch := omega) only [wrap64_in]) | (refine DW_block ?_) | (focus (refine DW_if ?_ ?_ ?_; (· (simp [hnt, Try.ntmps38, Try.results38, anWR538, dCnf, dProd, hlj, hjn, t1, t2, dStr, hl1, hl2]; done)); (try (rotate_left; (· (intro hc; (try simp [hnt, Try.ntmps38, Try.results38, anWR538, dCnf, dProd, hlj, hjn, t1, t2, dStr, hl1, hl2] at hc); done)))))) | (refine DW_ret ?_; simp [hnt, Try.ntmps38, Try.results38, anWR538, dCnf, dProd, hlj, hjn, t1, t2, dStr, hl1, hl2]) | (refine DW_exit ?_; simp [hnt, Try.ntmps38, Try.results38, anWR538, dCnf, dProd, hlj, hjn, t1, t2, dStr, hl1, hl2]) | (refine DW_skip ?_; simp [hnt, Try.ntmps38, Try.results38, anWR538, dCnf, dProd, hlj, hjn, t1, t2, dStr, hl1, hl2]) | (intro hc; (try simp [hnt, Try.ntmps38, Try.results38, anWR538, dCnf, dProd, hlj, hjn, t1, t2, dStr, hl1, hl2] at hc); done) | (intro hc; (try simp [hnt, Try.ntmps38, Try.results38, anWR538, dCnf, dProd, hlj, hjn, t1, t2, dStr, hl1, hl2] at hc); (first | (exfalso; omega) | skip)) | (refine ⟨?_, ?_⟩; · omega) | omega | apply_assumption -exfalso -symm | (exfalso; omega)))
        refine Again.mk ⟨k + 1, by omega⟩ (Sub.lit (by simp [hnx])) (by simp; omega)
        (repeat (first | (refine DW_seq fun K hK => ?_) | (refine DW_r anWR538 Try.mixed (by kernel_rfl) ?_; simp [hnt, Try.ntmps38, Try.results38, anWR538]; try simp (disch := omega) only [wrap64_in]) | (refine DW_block ?_) | (focus (refine DW_if ?_ ?_ ?_; (· (simp [hnt, Try.ntmps38, Try.results38, anWR538]; done)); (try (rotate_left; (· (intro hc; (try simp [hnt, Try.ntmps38, Try.results38, anWR538] at hc); done)))))) | (refine DW_ret ?_; simp [hnt, Try.ntmps38, Try.results38, anWR538]) | (refine DW_exit ?_; simp [hnt, Try.ntmps38, Try.results38, anWR538]) | (refine DW_skip ?_; simp [hnt, Try.ntmps38, Try.results38, anWR538]) | (intro hc; (try simp [hnt, Try.ntmps38, Try.results38, anWR538] at hc); done) | (intro hc; (try simp [hnt, Try.ntmps38, Try.results38, anWR538] at hc); (first | (exfalso; omega) | skip)) | (refine ⟨?_, ?_⟩; · omega) | omega | apply_assumption -exfalso -symm | (exfalso; omega)))
  · have hkk : k = c.prods.length := by omega
    subst hkk
    rw [List.take_length]
    have hall := rowsD_all ns ls c.prods
    (repeat (first | (refine DW_seq fun K hK => ?_) | (refine DW_r anWR538 Try.mixed (by kernel_rfl) ?_; simp [hnt, Try.ntmps38, Try.results38, anWR538, hall]; try simp (disch := omega) only [wrap64_in]) | (refine DW_block ?_) | (focus (refine DW_if ?_ ?_ ?_; (· (simp [hnt, Try.ntmps38, Try.results38, anWR538, hall]; done)); (try (rotate_left; (· (intro hc; (try simp [hnt, Try.ntmps38, Try.results38, anWR538, hall] at hc); done)))))) | (refine DW_ret ?_; simp [hnt, Try.ntmps38, Try.results38, anWR538, hall]) | (refine DW_exit ?_; simp [hnt, Try.ntmps38, Try.results38, anWR538, hall]) | (refine DW_skip ?_; simp [hnt, Try.ntmps38, Try.results38, anWR538, hall]) | (intro hc; (try simp [hnt, Try.ntmps38, Try.results38, anWR538, hall] at hc); done) | (intro hc; (try simp [hnt, Try.ntmps38, Try.results38, anWR538, hall] at hc); (first | (exfalso; omega) | skip)) | (refine ⟨?_, ?_⟩; · omega) | omega | apply_assumption -exfalso -symm | (exfalso; omega)))
end Go.Proofs.Ytihkcegelghcpaa
end

section
/- A part of a proof: walks over the functions that it names; their contracts hold for every argument. -/

set_option linter.unusedSimpArgs false
set_option linter.unusedVariables false
namespace Go.Proofs.Ytihkcegelghcpaa
open Go Go.Dm
attribute [local irreducible] DW callP callS

def formOf : List Sym → Int
  | [] => 1
  | [s] => if s.label then 2 else 0
  | [s, t] => if !s.label && !t.label then 3 else 0
  | _ => 0


def anW4343 : Ann := ⟨[], []⟩
set_option maxRecDepth 100000 in
theorem of_pure (l : List Sym) : DPure Try.prog 43 [dSyms l] (.int .i64 (formOf l)) := by
  refine DPure_introF [] (fn := Try.f43) Try.func43 rfl Try.call43 (by simp [Try.ntmps43]) (by simp [mx]) ?_
  intro hwf B hnt
  simp only [argS]
  match l with
  | [] => (repeat (first | (refine DW_seq fun K hK => ?_) | (refine DW_r anW4343 Try.mixed (by kernel_rfl) ?_; simp [hnt, Try.ntmps43, Try.results43, anW4343, dSym, formOf]; try simp (disch := omega) only [wrap64_in]) | (refine DW_block ?_) | (focus (refine DW_if ?_ ?_ ?_; (· (simp [hnt, Try.ntmps43, Try.results43, anW4343, dSym, formOf]; done)); (try (rotate_left; (· (intro hc; (try simp [hnt, Try.ntmps43, Try.results43, anW4343, dSym, formOf] at hc); done)))))) | (refine DW_ret ?_; simp [hnt, Try.ntmps43, Try.results43, anW4343, dSym, formOf]) | (refine DW_exit ?_; simp [hnt, Try.ntmps43, Try.results43, anW4343, dSym, formOf]) | (refine DW_skip ?_; simp [hnt, Try.ntmps43, Try.results43, anW4343, dSym, formOf]) | (intro hc; (try simp [hnt, Try.ntmps43, Try.results43, anW4343, dSym, formOf] at hc); done) | (intro hc; (try simp [hnt, Try.ntmps43, Try.results43, anW4343, dSym, formOf] at hc); (first | (exfalso; omega) | skip)) | (refine ⟨?_, ?_⟩; · omega) | omega | apply_assumption -exfalso -symm | (exfalso; omega)))
  | [s] =>
    cases hl : s.label <;> (repeat (first | (refine DW_seq fun K hK => ?_) | (refine DW_r anW4343 Try.mixed (by kernel_rfl) ?_; simp [hnt, Try.ntmps43, Try.results43, anW4343, dSym, formOf, hl]; try simp (disch := omega) only [wrap64_in]) | (refine DW_block ?_) | (focus (refine DW_if ?_ ?_ ?_; (· (simp [hnt, Try.ntmps43, Try.results43, anW4343, dSym, formOf, hl]; done)); (try (rotate_left; (· (intro hc; (try simp [hnt, Try.ntmps43, Try.results43, anW4343, dSym, formOf, hl] at hc); done)))))) | (refine DW_ret ?_; simp [hnt, Try.ntmps43, Try.results43, anW4343, dSym, formOf, hl]) | (refine DW_exit ?_; simp [hnt, Try.ntmps43, Try.results43, anW4343, dSym, formOf, hl]) | (refine DW_skip ?_; simp [hnt, Try.ntmps43, Try.results43, anW4343, dSym, formOf, hl]) | (intro hc; (try simp [hnt, Try.ntmps43, Try.results43, anW4343, dSym, formOf, hl] at hc); done) | (intro hc; (try simp [hnt, Try.ntmps43, Try.results43, anW4343, dSym, formOf, hl] at hc); (first | (exfalso; omega) | skip)) | (refine ⟨?_, ?_⟩; · omega) | omega | apply_assumption -exfalso -symm | (exfalso; omega)))
  | [s, t] =>
    (repeat (first | (refine DW_seq fun K hK => ?_) | (refine DW_r anW4343 Try.mixed (by kernel_rfl) ?_; simp [hnt, Try.ntmps43, Try.results43, anW4343, dSym, formOf]; try simp (disch := omega) only [wrap64_in]) | (refine DW_block ?_) | (focus (refine DW_if ?_ ?_ ?_; (· (simp [hnt, Try.ntmps43, Try.results43, anW4343, dSym, formOf]; done)); (try (rotate_left; (· (intro hc; (try simp [hnt, Try.ntmps43, Try.results43, anW4343, dSym, formOf] at hc); done)))))) | (refine DW_ret ?_; simp [hnt, Try.ntmps43, Try.results43, anW4343, dSym, formOf]) | (refine DW_exit ?_; simp [hnt, Try.ntmps43, Try.results43, anW4343, dSym, formOf]) | (refine DW_skip ?_; simp [hnt, Try.ntmps43, Try.results43, anW4343, dSym, formOf]) | (intro hc; (try simp [hnt, Try.ntmps43, Try.results43, anW4343, dSym, formOf] at hc); done) | (intro hc; (try simp [hnt, Try.ntmps43, Try.results43, anW4343, dSym, formOf] at hc); (first | (exfalso; omega) | skip)) | (refine ⟨?_, ?_⟩; · omega) | omega | apply_assumption -exfalso -symm | (exfalso; omega)))
  | s :: t :: u :: r =>
    (repeat (first | (refine DW_seq fun K hK => ?_) | (refine DW_r anW4343 Try.mixed (by kernel_rfl) ?_; simp [hnt, Try.ntmps43, Try.results43, anW4343, dSym, formOf]; try simp (disch := omega) only [wrap64_in]) | (refine DW_block ?_) | (focus (refine DW_if ?_ ?_ ?_; (· (simp [hnt, Try.ntmps43, Try.results43, anW4343, dSym, formOf]; done)); (try (rotate_left; (· (intro hc; (try simp [hnt, Try.ntmps43, Try.results43, anW4343, dSym, formOf] at hc); done)))))) | (refine DW_ret ?_; simp [hnt, Try.ntmps43, Try.results43, anW4343, dSym, formOf]) | (refine DW_exit ?_; simp [hnt, Try.ntmps43, Try.results43, anW4343, dSym, formOf]) | (refine DW_skip ?_; simp [hnt, Try.ntmps43, Try.results43, anW4343, dSym, formOf]) | (intro hc; (try simp [hnt, Try.ntmps43, Try.results43, anW4343, dSym, formOf] at hc); done) | (intro hc; (try simp [hnt, Try.ntmps43, Try.results43, anW4343, dSym, formOf] at hc); (first | (exfalso; omega) | skip)) | (refine ⟨?_, ?_⟩; · omega) | omega | apply_assumption -exfalso -symm | (exfalso; omega)))
end Go.Proofs.Ytihkcegelghcpaa
end

section
/- A part of a proof: walks over the functions that it names; their contracts hold for every argument. -/

set_option linter.unusedSimpArgs false
set_option linter.unusedVariables false
namespace Go.Proofs.Ytihkcegelghcpaa
open Go Go.Dm
attribute [local irreducible] DW callP callS
set_option maxRecDepth 100000

def anW8181 : Ann := ⟨[], []⟩
/-- IndexFunc at Prod: the first one that the closure says yes to -/
theorem indexFunc81_pure (g : FuncId) (us cs : List DVal) (l : List Prod) (q : Prod → Bool) (hq : ∀ x ∈ l, DPure Try.prog g (us ++ [.agg (dProd x)] ++ cs) (.bool (q x))) :
    DPure Try.prog 81 [dProds l, .fn (.func g) us cs] (.int .i64 (if l.any q then ((l.findIdx q : Nat) : Int) else -1)) := by
  refine DPure_introF [] (fn := Try.f81) Try.func81 rfl Try.call81 (by simp [Try.ntmps81]) (by simp [mx]) ?_
  intro hwf B hnt
  have hw : wProds l := w_prods hwf.1
  obtain ⟨hw1, hw2, hw3⟩ := hw
  clear hwf hw3
  simp only [argS]
  (repeat (first | (refine DW_seq fun K hK => ?_) | (refine DW_r anW8181 Try.mixed (by kernel_rfl) ?_; simp [hnt, Try.ntmps81, Try.results81, anW8181]; try simp (disch := omega) only [wrap64_in]) | (refine DW_block ?_) | (focus (refine DW_if ?_ ?_ ?_; (· (simp [hnt, Try.ntmps81, Try.results81, anW8181]; done)); (try (rotate_left; (· (intro hc; (try simp [hnt, Try.ntmps81, Try.results81, anW8181] at hc); done)))))) | (refine DW_ret ?_; simp [hnt, Try.ntmps81, Try.results81, anW8181]) | (refine DW_exit ?_; simp [hnt, Try.ntmps81, Try.results81, anW8181]) | (refine DW_skip ?_; simp [hnt, Try.ntmps81, Try.results81, anW8181]) | (intro hc; (try simp [hnt, Try.ntmps81, Try.results81, anW8181] at hc); done) | (intro hc; (try simp [hnt, Try.ntmps81, Try.results81, anW8181] at hc); (first | (exfalso; omega) | skip)) | (refine ⟨?_, ?_⟩; · omega) | omega | apply_assumption -exfalso -symm | (exfalso; omega)))
  refine DW_loop (X := {k : Nat // k ≤ l.length ∧ ∀ i x, i < k → l[i]? = some x → q x = false}) (fun x => ⟨[(0, dProds l), (1, .fn (.func g) us cs), (7, .int .i64 l.length), (8, .int .i64 x.1)], []⟩) (fun x => l.length - x.1) ⟨0, by simp⟩ (Sub.lit (by simp)) ?_
  rintro ⟨k, hk, hno⟩
  by_cases hlt : k < l.length
  · obtain ⟨x, hx, hx', hxm⟩ := at_lt' hlt
    have hqx := hq x hxm
    simp only [dProd, List.append_assoc, List.cons_append, List.nil_append] at hqx
    cases hb : q x
    · rw [hb] at hqx
      have hno' : ∀ i y, i < k + 1 → l[i]? = some y → q y = false := by
        intro i y hi hy
        by_cases hik : i = k
        · subst hik; rw [hx] at hy; simp only [Option.some.injEq] at hy; subst hy; exact hb
        · exact hno i y (by omega) hy
      (repeat (first | (refine DW_seq fun K hK => ?_) | (refine DW_r anW8181 Try.mixed (by kernel_rfl) ?_; simp [hnt, Try.ntmps81, Try.results81, anW8181, dProd, hlt, hx']; try simp (disch := omega) only [wrap64_in]) | (refine DW_block ?_) | (focus (refine DW_if ?_ ?_ ?_; (· (simp [hnt, Try.ntmps81, Try.results81, anW8181, dProd, hlt, hx']; done)); (try (rotate_left; (· (intro hc; (try simp [hnt, Try.ntmps81, Try.results81, anW8181, dProd, hlt, hx'] at hc); done)))))) | (refine DW_ret ?_; simp [hnt, Try.ntmps81, Try.results81, anW8181, dProd, hlt, hx']) | (refine DW_exit ?_; simp [hnt, Try.ntmps81, Try.results81, anW8181, dProd, hlt, hx']) | (refine DW_skip ?_; simp [hnt, Try.ntmps81, Try.results81, anW8181, dProd, hlt, hx']) | (intro hc; (try simp [hnt, Try.ntmps81, Try.results81, anW8181, dProd, hlt, hx'] at hc); done) | (intro hc; (try simp [hnt, Try.ntmps81, Try.results81, anW8181, dProd, hlt, hx'] at hc); (first | (exfalso; omega) | skip)) | (refine callP_mk (hqx) ?_; try simp [hnt, Try.ntmps81, Try.results81, anW8181, dProd, hlt, hx']) | (refine callP_wk (hqx) ?_ ?_; (· (simp; done)); try simp [hnt, Try.ntmps81, Try.results81, anW8181, dProd, hlt, hx']) | (refine ⟨?_, ?_⟩; · omega) | omega | apply_assumption -exfalso -symm | (exfalso; omega)))
      exact Again.mk ⟨k + 1, by omega, hno'⟩ (Sub.lit (by simp [])) (by simp; omega)
      (repeat (first | (refine DW_seq fun K hK => ?_) | (refine DW_r anW8181 Try.mixed (by kernel_rfl) ?_; simp [hnt, Try.ntmps81, Try.results81, anW8181, dProd, hlt, hx']; try simp (disch := omega) only [wrap64_in]) | (refine DW_block ?_) | (focus (refine DW_if ?_ ?_ ?_; (· (simp [hnt, Try.ntmps81, Try.results81, anW8181, dProd, hlt, hx']; done)); (try (rotate_left; (· (intro hc; (try simp [hnt, Try.ntmps81, Try.results81, anW8181, dProd, hlt, hx'] at hc); done)))))) | (refine DW_ret ?_; simp [hnt, Try.ntmps81, Try.results81, anW8181, dProd, hlt, hx']) | (refine DW_exit ?_; simp [hnt, Try.ntmps81, Try.results81, anW8181, dProd, hlt, hx']) | (refine DW_skip ?_; simp [hnt, Try.ntmps81, Try.results81, anW8181, dProd, hlt, hx']) | (intro hc; (try simp [hnt, Try.ntmps81, Try.results81, anW8181, dProd, hlt, hx'] at hc); done) | (intro hc; (try simp [hnt, Try.ntmps81, Try.results81, anW8181, dProd, hlt, hx'] at hc); (first | (exfalso; omega) | skip)) | (refine callP_mk (hqx) ?_; try simp [hnt, Try.ntmps81, Try.results81, anW8181, dProd, hlt, hx']) | (refine callP_wk (hqx) ?_ ?_; (· (simp; done)); try simp [hnt, Try.ntmps81, Try.results81, anW8181, dProd, hlt, hx']) | (refine ⟨?_, ?_⟩; · omega) | omega | apply_assumption -exfalso -symm | (exfalso; omega)))
    · rw [hb] at hqx
      have hany : l.any q = true := List.any_eq_true.2 ⟨x, hxm, hb⟩
      have hidx : l.findIdx q = k := by
        rw [List.findIdx_eq hlt]
        refine ⟨by rw [hx']; exact hb, fun i hi => ?_⟩
        exact hno i _ hi (List.getElem?_eq_getElem (by omega))
      (repeat (first | (refine DW_seq fun K hK => ?_) | (refine DW_r anW8181 Try.mixed (by kernel_rfl) ?_; simp [hnt, Try.ntmps81, Try.results81, anW8181, dProd, hlt, hx', hany, hidx]; try simp (disch := omega) only [wrap64_in]) | (refine DW_block ?_) | (focus (refine DW_if ?_ ?_ ?_; (· (simp [hnt, Try.ntmps81, Try.results81, anW8181, dProd, hlt, hx', hany, hidx]; done)); (try (rotate_left; (· (intro hc; (try simp [hnt, Try.ntmps81, Try.results81, anW8181, dProd, hlt, hx', hany, hidx] at hc); done)))))) | (refine DW_ret ?_; simp [hnt, Try.ntmps81, Try.results81, anW8181, dProd, hlt, hx', hany, hidx]) | (refine DW_exit ?_; simp [hnt, Try.ntmps81, Try.results81, anW8181, dProd, hlt, hx', hany, hidx]) | (refine DW_skip ?_; simp [hnt, Try.ntmps81, Try.results81, anW8181, dProd, hlt, hx', hany, hidx]) | (intro hc; (try simp [hnt, Try.ntmps81, Try.results81, anW8181, dProd, hlt, hx', hany, hidx] at hc); done) | (intro hc; (try simp [hnt, Try.ntmps81, Try.results81, anW8181, dProd, hlt, hx', hany, hidx] at hc); (first | (exfalso; omega) | skip)) | (refine callP_mk (hqx) ?_; try simp [hnt, Try.ntmps81, Try.results81, anW8181, dProd, hlt, hx', hany, hidx]) | (refine callP_wk (hqx) ?_ ?_; (· (simp; done)); try simp [hnt, Try.ntmps81, Try.results81, anW8181, dProd, hlt, hx', hany, hidx]) | (refine ⟨?_, ?_⟩; · omega) | omega | apply_assumption -exfalso -symm | (exfalso; omega)))
  · have hkk : k = l.length := by omega
    have hany : l.any q = false := by
      rw [List.any_eq_false]
      intro x hx
      obtain ⟨i, hi, rfl⟩ := List.getElem_of_mem hx
      rw [hno i _ (by omega) (List.getElem?_eq_getElem hi)]
      simp
    (repeat (first | (refine DW_seq fun K hK => ?_) | (refine DW_r anW8181 Try.mixed (by kernel_rfl) ?_; simp [hnt, Try.ntmps81, Try.results81, anW8181, dProd, hkk, hany]; try simp (disch := omega) only [wrap64_in]) | (refine DW_block ?_) | (focus (refine DW_if ?_ ?_ ?_; (· (simp [hnt, Try.ntmps81, Try.results81, anW8181, dProd, hkk, hany]; done)); (try (rotate_left; (· (intro hc; (try simp [hnt, Try.ntmps81, Try.results81, anW8181, dProd, hkk, hany] at hc); done)))))) | (refine DW_ret ?_; simp [hnt, Try.ntmps81, Try.results81, anW8181, dProd, hkk, hany]) | (refine DW_exit ?_; simp [hnt, Try.ntmps81, Try.results81, anW8181, dProd, hkk, hany]) | (refine DW_skip ?_; simp [hnt, Try.ntmps81, Try.results81, anW8181, dProd, hkk, hany]) | (intro hc; (try simp [hnt, Try.ntmps81, Try.results81, anW8181, dProd, hkk, hany] at hc); done) | (intro hc; (try simp [hnt, Try.ntmps81, Try.results81, anW8181, dProd, hkk, hany] at hc); (first | (exfalso; omega) | skip)) | (refine callP_mk (hqx) ?_; try simp [hnt, Try.ntmps81, Try.results81, anW8181, dProd, hkk, hany]) | (refine callP_wk (hqx) ?_ ?_; (· (simp; done)); try simp [hnt, Try.ntmps81, Try.results81, anW8181, dProd, hkk, hany]) | (refine ⟨?_, ?_⟩; · omega) | omega | apply_assumption -exfalso -symm | (exfalso; omega)))

def anW8141 : Ann := ⟨[], []⟩
theorem containsFunc41_pure (g : FuncId) (us cs : List DVal) (l : List Prod) (q : Prod → Bool) (hq : ∀ x ∈ l, DPure Try.prog g (us ++ [.agg (dProd x)] ++ cs) (.bool (q x))) :
    DPure Try.prog 41 [dProds l, .fn (.func g) us cs] (.bool (l.any q)) := by
  refine DPure_introF [] (fn := Try.f41) Try.func41 rfl Try.call41 (by simp [Try.ntmps41]) (by simp [mx]) ?_
  intro hwf B hnt
  simp only [argS]
  have hi := indexFunc81_pure g us cs l q hq
  have hge : (0 : Int) ≤ (l.findIdx q : Nat) := by omega
  cases hb : l.any q
  · rw [hb] at hi
    (repeat (first | (refine DW_seq fun K hK => ?_) | (refine DW_r anW8141 Try.mixed (by kernel_rfl) ?_; simp [hnt, Try.ntmps41, Try.results41, anW8141, hb]; try simp (disch := omega) only [wrap64_in]) | (refine DW_block ?_) | (focus (refine DW_if ?_ ?_ ?_; (· (simp [hnt, Try.ntmps41, Try.results41, anW8141, hb]; done)); (try (rotate_left; (· (intro hc; (try simp [hnt, Try.ntmps41, Try.results41, anW8141, hb] at hc); done)))))) | (refine DW_ret ?_; simp [hnt, Try.ntmps41, Try.results41, anW8141, hb]) | (refine DW_exit ?_; simp [hnt, Try.ntmps41, Try.results41, anW8141, hb]) | (refine DW_skip ?_; simp [hnt, Try.ntmps41, Try.results41, anW8141, hb]) | (intro hc; (try simp [hnt, Try.ntmps41, Try.results41, anW8141, hb] at hc); done) | (intro hc; (try simp [hnt, Try.ntmps41, Try.results41, anW8141, hb] at hc); (first | (exfalso; omega) | skip)) | (refine callP_mk (hi) ?_; try simp [hnt, Try.ntmps41, Try.results41, anW8141, hb]) | (refine callP_wk (hi) ?_ ?_; (· (simp; done)); try simp [hnt, Try.ntmps41, Try.results41, anW8141, hb]) | (refine ⟨?_, ?_⟩; · omega) | omega | apply_assumption -exfalso -symm | (exfalso; omega)))
  · rw [hb] at hi
    (repeat (first | (refine DW_seq fun K hK => ?_) | (refine DW_r anW8141 Try.mixed (by kernel_rfl) ?_; simp [hnt, Try.ntmps41, Try.results41, anW8141, hb]; try simp (disch := omega) only [wrap64_in]) | (refine DW_block ?_) | (focus (refine DW_if ?_ ?_ ?_; (· (simp [hnt, Try.ntmps41, Try.results41, anW8141, hb]; done)); (try (rotate_left; (· (intro hc; (try simp [hnt, Try.ntmps41, Try.results41, anW8141, hb] at hc); done)))))) | (refine DW_ret ?_; simp [hnt, Try.ntmps41, Try.results41, anW8141, hb]) | (refine DW_exit ?_; simp [hnt, Try.ntmps41, Try.results41, anW8141, hb]) | (refine DW_skip ?_; simp [hnt, Try.ntmps41, Try.results41, anW8141, hb]) | (intro hc; (try simp [hnt, Try.ntmps41, Try.results41, anW8141, hb] at hc); done) | (intro hc; (try simp [hnt, Try.ntmps41, Try.results41, anW8141, hb] at hc); (first | (exfalso; omega) | skip)) | (refine callP_mk (hi) ?_; try simp [hnt, Try.ntmps41, Try.results41, anW8141, hb]) | (refine callP_wk (hi) ?_ ?_; (· (simp; done)); try simp [hnt, Try.ntmps41, Try.results41, anW8141, hb]) | (refine ⟨?_, ?_⟩; · omega) | omega | apply_assumption -exfalso -symm | (exfalso; omega)))
end Go.Proofs.Ytihkcegelghcpaa
end

section
/- A part of a proof: walks over the functions that it names; their contracts hold for every argument. -/



set_option linter.unusedSimpArgs false
set_option linter.unusedVariables false
namespace Go.Proofs.Ytihkcegelghcpaa
open Go Go.Dm
attribute [local irreducible] DW callP callS
set_option maxRecDepth 100000

def isOther (p : Prod) : Bool := formOf p.body == 0
def cnfWeak (c : Cnf) : Bool := cnfOK c && !c.prods.any isOther
def anW1342 : Ann := ⟨[], []⟩
theorem is1_pure (p : Prod) : DPure Try.prog 42 [.agg (dProd p)] (.bool (isOther p)) := by
  refine DPure_introF [] (fn := Try.f42) Try.func42 rfl Try.call42 (by simp [Try.ntmps42]) (by simp [mx]) ?_
  intro hwf B hnt
  simp only [argS]
  (repeat (first | (refine DW_seq fun K hK => ?_) | (refine DW_r anW1342 Try.mixed (by kernel_rfl) ?_; simp [hnt, Try.ntmps42, Try.results42, anW1342, dProd, isOther]; try simp (disch := omega) only [wrap64_in]) | (refine DW_block ?_) | (focus (refine DW_if ?_ ?_ ?_; (· (simp [hnt, Try.ntmps42, Try.results42, anW1342, dProd, isOther]; done)); (try (rotate_left; (· (intro hc; (try simp [hnt, Try.ntmps42, Try.results42, anW1342, dProd, isOther] at hc); done)))))) | (refine DW_ret ?_; simp [hnt, Try.ntmps42, Try.results42, anW1342, dProd, isOther]) | (refine DW_exit ?_; simp [hnt, Try.ntmps42, Try.results42, anW1342, dProd, isOther]) | (refine DW_skip ?_; simp [hnt, Try.ntmps42, Try.results42, anW1342, dProd, isOther]) | (intro hc; (try simp [hnt, Try.ntmps42, Try.results42, anW1342, dProd, isOther] at hc); done) | (intro hc; (try simp [hnt, Try.ntmps42, Try.results42, anW1342, dProd, isOther] at hc); (first | (exfalso; omega) | skip)) | (refine callP_mk (of_pure p.body) ?_; try simp [hnt, Try.ntmps42, Try.results42, anW1342, dProd, isOther]) | (refine callP_wk (of_pure p.body) ?_ ?_; (· (simp; done)); try simp [hnt, Try.ntmps42, Try.results42, anW1342, dProd, isOther]) | (refine ⟨?_, ?_⟩; · omega) | omega | apply_assumption -exfalso -symm | (exfalso; omega)))

def anW1313 : Ann := ⟨[], []⟩
theorem is_pure (c : Cnf) : DPure Try.prog 13 [.agg (dCnf c)] (.bool (cnfWeak c)) := by
  refine DPure_introF [] (fn := Try.f13) Try.func13 rfl Try.call13 (by simp [Try.ntmps13]) (by simp [mx]) ?_
  intro hwf B hnt
  simp only [argS]
  have hq := containsFunc41_pure 42 [] [] c.prods isOther (fun x _ => is1_pure x)
  have hc := check_pure c
  simp only [dCnf] at hc
  cases h1 : cnfOK c
  · rw [h1] at hc
    (repeat (first | (refine DW_seq fun K hK => ?_) | (refine DW_r anW1313 Try.mixed (by kernel_rfl) ?_; simp [hnt, Try.ntmps13, Try.results13, anW1313, dCnf, cnfWeak, h1]; try simp (disch := omega) only [wrap64_in]) | (refine DW_block ?_) | (focus (refine DW_if ?_ ?_ ?_; (· (simp [hnt, Try.ntmps13, Try.results13, anW1313, dCnf, cnfWeak, h1]; done)); (try (rotate_left; (· (intro hc; (try simp [hnt, Try.ntmps13, Try.results13, anW1313, dCnf, cnfWeak, h1] at hc); done)))))) | (refine DW_ret ?_; simp [hnt, Try.ntmps13, Try.results13, anW1313, dCnf, cnfWeak, h1]) | (refine DW_exit ?_; simp [hnt, Try.ntmps13, Try.results13, anW1313, dCnf, cnfWeak, h1]) | (refine DW_skip ?_; simp [hnt, Try.ntmps13, Try.results13, anW1313, dCnf, cnfWeak, h1]) | (intro hc; (try simp [hnt, Try.ntmps13, Try.results13, anW1313, dCnf, cnfWeak, h1] at hc); done) | (intro hc; (try simp [hnt, Try.ntmps13, Try.results13, anW1313, dCnf, cnfWeak, h1] at hc); (first | (exfalso; omega) | skip)) | (refine callP_mk (hc) ?_; try simp [hnt, Try.ntmps13, Try.results13, anW1313, dCnf, cnfWeak, h1]) | (refine callP_wk (hc) ?_ ?_; (· (simp; done)); try simp [hnt, Try.ntmps13, Try.results13, anW1313, dCnf, cnfWeak, h1]) | (refine callP_mk (hq) ?_; try simp [hnt, Try.ntmps13, Try.results13, anW1313, dCnf, cnfWeak, h1]) | (refine callP_wk (hq) ?_ ?_; (· (simp; done)); try simp [hnt, Try.ntmps13, Try.results13, anW1313, dCnf, cnfWeak, h1]) | (refine ⟨?_, ?_⟩; · omega) | omega | apply_assumption -exfalso -symm | (exfalso; omega)))
  · rw [h1] at hc
    cases h2 : c.prods.any isOther
    · rw [h2] at hq
      (repeat (first | (refine DW_seq fun K hK => ?_) | (refine DW_r anW1313 Try.mixed (by kernel_rfl) ?_; simp [hnt, Try.ntmps13, Try.results13, anW1313, dCnf, cnfWeak, h1, h2]; try simp (disch := omega) only [wrap64_in]) | (refine DW_block ?_) | (focus (refine DW_if ?_ ?_ ?_; (· (simp [hnt, Try.ntmps13, Try.results13, anW1313, dCnf, cnfWeak, h1, h2]; done)); (try (rotate_left; (· (intro hc; (try simp [hnt, Try.ntmps13, Try.results13, anW1313, dCnf, cnfWeak, h1, h2] at hc); done)))))) | (refine DW_ret ?_; simp [hnt, Try.ntmps13, Try.results13, anW1313, dCnf, cnfWeak, h1, h2]) | (refine DW_exit ?_; simp [hnt, Try.ntmps13, Try.results13, anW1313, dCnf, cnfWeak, h1, h2]) | (refine DW_skip ?_; simp [hnt, Try.ntmps13, Try.results13, anW1313, dCnf, cnfWeak, h1, h2]) | (intro hc; (try simp [hnt, Try.ntmps13, Try.results13, anW1313, dCnf, cnfWeak, h1, h2] at hc); done) | (intro hc; (try simp [hnt, Try.ntmps13, Try.results13, anW1313, dCnf, cnfWeak, h1, h2] at hc); (first | (exfalso; omega) | skip)) | (refine callP_mk (hc) ?_; try simp [hnt, Try.ntmps13, Try.results13, anW1313, dCnf, cnfWeak, h1, h2]) | (refine callP_wk (hc) ?_ ?_; (· (simp; done)); try simp [hnt, Try.ntmps13, Try.results13, anW1313, dCnf, cnfWeak, h1, h2]) | (refine callP_mk (hq) ?_; try simp [hnt, Try.ntmps13, Try.results13, anW1313, dCnf, cnfWeak, h1, h2]) | (refine callP_wk (hq) ?_ ?_; (· (simp; done)); try simp [hnt, Try.ntmps13, Try.results13, anW1313, dCnf, cnfWeak, h1, h2]) | (refine ⟨?_, ?_⟩; · omega) | omega | apply_assumption -exfalso -symm | (exfalso; omega)))
    · rw [h2] at hq
      (repeat (first | (refine DW_seq fun K hK => ?_) | (refine DW_r anW1313 Try.mixed (by kernel_rfl) ?_; simp [hnt, Try.ntmps13, Try.results13, anW1313, dCnf, cnfWeak, h1, h2]; try simp (disch := omega) only [wrap64_in]) | (refine DW_block ?_) | (focus (refine DW_if ?_ ?_ ?_; (· (simp [hnt, Try.ntmps13, Try.results13, anW1313, dCnf, cnfWeak, h1, h2]; done)); (try (rotate_left; (· (intro hc; (try simp [hnt, Try.ntmps13, Try.results13, anW1313, dCnf, cnfWeak, h1, h2] at hc); done)))))) | (refine DW_ret ?_; simp [hnt, Try.ntmps13, Try.results13, anW1313, dCnf, cnfWeak, h1, h2]) | (refine DW_exit ?_; simp [hnt, Try.ntmps13, Try.results13, anW1313, dCnf, cnfWeak, h1, h2]) | (refine DW_skip ?_; simp [hnt, Try.ntmps13, Try.results13, anW1313, dCnf, cnfWeak, h1, h2]) | (intro hc; (try simp [hnt, Try.ntmps13, Try.results13, anW1313, dCnf, cnfWeak, h1, h2] at hc); done) | (intro hc; (try simp [hnt, Try.ntmps13, Try.results13, anW1313, dCnf, cnfWeak, h1, h2] at hc); (first | (exfalso; omega) | skip)) | (refine callP_mk (hc) ?_; try simp [hnt, Try.ntmps13, Try.results13, anW1313, dCnf, cnfWeak, h1, h2]) | (refine callP_wk (hc) ?_ ?_; (· (simp; done)); try simp [hnt, Try.ntmps13, Try.results13, anW1313, dCnf, cnfWeak, h1, h2]) | (refine callP_mk (hq) ?_; try simp [hnt, Try.ntmps13, Try.results13, anW1313, dCnf, cnfWeak, h1, h2]) | (refine callP_wk (hq) ?_ ?_; (· (simp; done)); try simp [hnt, Try.ntmps13, Try.results13, anW1313, dCnf, cnfWeak, h1, h2]) | (refine ⟨?_, ?_⟩; · omega) | omega | apply_assumption -exfalso -symm | (exfalso; omega)))

def anW1316 : Ann := ⟨[], []⟩
theorem head14_pure : DPure Try.prog 16 [] (.bool true) := by
  refine DPure_introF [] (fn := Try.f16) Try.func16 rfl Try.call16 (by simp [Try.ntmps16]) (by simp [mx]) ?_
  intro hwf B hnt
  simp only [argS]
  have h1 := is_pure ⟨1, []⟩
  have h2 := is_pure ⟨0, []⟩
  have e1 : cnfWeak ⟨1, []⟩ = true := by decide
  have e2 : cnfWeak ⟨0, []⟩ = false := by decide
  rw [e1] at h1
  rw [e2] at h2
  simp only [dCnf, dProds, List.map_nil] at h1 h2
  (repeat (first | (refine DW_seq fun K hK => ?_) | (refine DW_r anW1316 Try.mixed (by kernel_rfl) ?_; simp [hnt, Try.ntmps16, Try.results16, anW1316]; try simp (disch := omega) only [wrap64_in]) | (refine DW_block ?_) | (focus (refine DW_if ?_ ?_ ?_; (· (simp [hnt, Try.ntmps16, Try.results16, anW1316]; done)); (try (rotate_left; (· (intro hc; (try simp [hnt, Try.ntmps16, Try.results16, anW1316] at hc); done)))))) | (refine DW_ret ?_; simp [hnt, Try.ntmps16, Try.results16, anW1316]) | (refine DW_exit ?_; simp [hnt, Try.ntmps16, Try.results16, anW1316]) | (refine DW_skip ?_; simp [hnt, Try.ntmps16, Try.results16, anW1316]) | (intro hc; (try simp [hnt, Try.ntmps16, Try.results16, anW1316] at hc); done) | (intro hc; (try simp [hnt, Try.ntmps16, Try.results16, anW1316] at hc); (first | (exfalso; omega) | skip)) | (refine callP_mk (h1) ?_; try simp [hnt, Try.ntmps16, Try.results16, anW1316]) | (refine callP_wk (h1) ?_ ?_; (· (simp; done)); try simp [hnt, Try.ntmps16, Try.results16, anW1316]) | (refine callP_mk (h2) ?_; try simp [hnt, Try.ntmps16, Try.results16, anW1316]) | (refine callP_wk (h2) ?_ ?_; (· (simp; done)); try simp [hnt, Try.ntmps16, Try.results16, anW1316]) | (refine ⟨?_, ?_⟩; · omega) | omega | apply_assumption -exfalso -symm | (exfalso; omega)))
end Go.Proofs.Ytihkcegelghcpaa
end

section
/- A part of a proof: walks over the functions that it names; their contracts hold for every argument. -/

set_option linter.unusedSimpArgs false
set_option linter.unusedVariables false
namespace Go.Proofs.Ytihkcegelghcpaa
open Go Go.Dm
attribute [local irreducible] DW callP callS
set_option maxRecDepth 100000

def anW4545 : Ann := ⟨[], []⟩
theorem weak_pure (l : List Sym) : DPure Try.prog 45 [dSyms l] (.bool (!(formOf l == 0))) := by
  refine DPure_introF [] (fn := Try.f45) Try.func45 rfl Try.call45 (by simp [Try.ntmps45]) (by simp [mx]) ?_
  intro hwf B hnt
  simp only [argS]
  match l with
  | [] => (repeat (first | (refine DW_seq fun K hK => ?_) | (refine DW_r anW4545 Try.mixed (by kernel_rfl) ?_; simp [hnt, Try.ntmps45, Try.results45, anW4545, dSym, formOf]; try simp (disch := omega) only [wrap64_in]) | (refine DW_block ?_) | (focus (refine DW_if ?_ ?_ ?_; (· (simp [hnt, Try.ntmps45, Try.results45, anW4545, dSym, formOf]; done)); (try (rotate_left; (· (intro hc; (try simp [hnt, Try.ntmps45, Try.results45, anW4545, dSym, formOf] at hc); done)))))) | (refine DW_ret ?_; simp [hnt, Try.ntmps45, Try.results45, anW4545, dSym, formOf]) | (refine DW_exit ?_; simp [hnt, Try.ntmps45, Try.results45, anW4545, dSym, formOf]) | (refine DW_skip ?_; simp [hnt, Try.ntmps45, Try.results45, anW4545, dSym, formOf]) | (intro hc; (try simp [hnt, Try.ntmps45, Try.results45, anW4545, dSym, formOf] at hc); done) | (intro hc; (try simp [hnt, Try.ntmps45, Try.results45, anW4545, dSym, formOf] at hc); (first | (exfalso; omega) | skip)) | (refine ⟨?_, ?_⟩; · omega) | omega | apply_assumption -exfalso -symm | (exfalso; omega)))
  | [s] => cases hl : s.label <;> (repeat (first | (refine DW_seq fun K hK => ?_) | (refine DW_r anW4545 Try.mixed (by kernel_rfl) ?_; simp [hnt, Try.ntmps45, Try.results45, anW4545, dSym, formOf, hl]; try simp (disch := omega) only [wrap64_in]) | (refine DW_block ?_) | (focus (refine DW_if ?_ ?_ ?_; (· (simp [hnt, Try.ntmps45, Try.results45, anW4545, dSym, formOf, hl]; done)); (try (rotate_left; (· (intro hc; (try simp [hnt, Try.ntmps45, Try.results45, anW4545, dSym, formOf, hl] at hc); done)))))) | (refine DW_ret ?_; simp [hnt, Try.ntmps45, Try.results45, anW4545, dSym, formOf, hl]) | (refine DW_exit ?_; simp [hnt, Try.ntmps45, Try.results45, anW4545, dSym, formOf, hl]) | (refine DW_skip ?_; simp [hnt, Try.ntmps45, Try.results45, anW4545, dSym, formOf, hl]) | (intro hc; (try simp [hnt, Try.ntmps45, Try.results45, anW4545, dSym, formOf, hl] at hc); done) | (intro hc; (try simp [hnt, Try.ntmps45, Try.results45, anW4545, dSym, formOf, hl] at hc); (first | (exfalso; omega) | skip)) | (refine ⟨?_, ?_⟩; · omega) | omega | apply_assumption -exfalso -symm | (exfalso; omega)))
  | [s, t] => cases hl : s.label <;> cases ht : t.label <;> (repeat (first | (refine DW_seq fun K hK => ?_) | (refine DW_r anW4545 Try.mixed (by kernel_rfl) ?_; simp [hnt, Try.ntmps45, Try.results45, anW4545, dSym, formOf, hl, ht]; try simp (disch := omega) only [wrap64_in]) | (refine DW_block ?_) | (focus (refine DW_if ?_ ?_ ?_; (· (simp [hnt, Try.ntmps45, Try.results45, anW4545, dSym, formOf, hl, ht]; done)); (try (rotate_left; (· (intro hc; (try simp [hnt, Try.ntmps45, Try.results45, anW4545, dSym, formOf, hl, ht] at hc); done)))))) | (refine DW_ret ?_; simp [hnt, Try.ntmps45, Try.results45, anW4545, dSym, formOf, hl, ht]) | (refine DW_exit ?_; simp [hnt, Try.ntmps45, Try.results45, anW4545, dSym, formOf, hl, ht]) | (refine DW_skip ?_; simp [hnt, Try.ntmps45, Try.results45, anW4545, dSym, formOf, hl, ht]) | (intro hc; (try simp [hnt, Try.ntmps45, Try.results45, anW4545, dSym, formOf, hl, ht] at hc); done) | (intro hc; (try simp [hnt, Try.ntmps45, Try.results45, anW4545, dSym, formOf, hl, ht] at hc); (first | (exfalso; omega) | skip)) | (refine ⟨?_, ?_⟩; · omega) | omega | apply_assumption -exfalso -symm | (exfalso; omega)))
  | s :: t :: u :: r =>
    have hlen : ¬ ((r.length : Int) + 1 + 1 + 1 = 0) ∧ ¬ ((r.length : Int) + 1 + 1 + 1 = 1) ∧ ¬ ((r.length : Int) + 1 + 1 + 1 = 2) := by omega
    obtain ⟨g1, g2, g3⟩ := hlen
    (repeat (first | (refine DW_seq fun K hK => ?_) | (refine DW_r anW4545 Try.mixed (by kernel_rfl) ?_; simp [hnt, Try.ntmps45, Try.results45, anW4545, dSym, formOf, g1, g2, g3]; try simp (disch := omega) only [wrap64_in]) | (refine DW_block ?_) | (focus (refine DW_if ?_ ?_ ?_; (· (simp [hnt, Try.ntmps45, Try.results45, anW4545, dSym, formOf, g1, g2, g3]; done)); (try (rotate_left; (· (intro hc; (try simp [hnt, Try.ntmps45, Try.results45, anW4545, dSym, formOf, g1, g2, g3] at hc); done)))))) | (refine DW_ret ?_; simp [hnt, Try.ntmps45, Try.results45, anW4545, dSym, formOf, g1, g2, g3]) | (refine DW_exit ?_; simp [hnt, Try.ntmps45, Try.results45, anW4545, dSym, formOf, g1, g2, g3]) | (refine DW_skip ?_; simp [hnt, Try.ntmps45, Try.results45, anW4545, dSym, formOf, g1, g2, g3]) | (intro hc; (try simp [hnt, Try.ntmps45, Try.results45, anW4545, dSym, formOf, g1, g2, g3] at hc); done) | (intro hc; (try simp [hnt, Try.ntmps45, Try.results45, anW4545, dSym, formOf, g1, g2, g3] at hc); (first | (exfalso; omega) | skip)) | (refine ⟨?_, ?_⟩; · omega) | omega | apply_assumption -exfalso -symm | (exfalso; omega)))

def anW4528 : Ann := ⟨[], [⟨6, [4], [], []⟩, ⟨12, [6], [], []⟩]⟩
set_option maxHeartbeats 4000000 in
theorem rcheck_pure (c : Cnf) : DPure Try.prog 28 [.agg (dCnf c)] (.int .i64 (if cnfOK c then 0 else 220)) := by
  refine DPure_introF [] (fn := Try.f28) Try.func28 rfl Try.call28 (by simp [Try.ntmps28]) (by simp [mx]) ?_
  intro hwf B hnt
  have hw : wCnf c := w_cnf (by simpa [wfL, wfD] using hwf.1)
  obtain ⟨hw1, hw2, hw3, hw4⟩ := hw
  clear hwf hw1
  simp only [argS]
  by_cases h1 : 1 ≤ c.nts
  rotate_left
  · have h1' : c.nts < 1 := by omega
    have hno : cnfOK c = false := by simp [cnfOK, h1]
    (repeat (first | (refine DW_seq fun K hK => ?_) | (refine DW_r anW4528 Try.mixed (by kernel_rfl) ?_; simp [hnt, Try.ntmps28, Try.results28, anW4528, dCnf, h1', hno]; try simp (disch := omega) only [wrap64_in]) | (refine DW_block ?_) | (focus (refine DW_if ?_ ?_ ?_; (· (simp [hnt, Try.ntmps28, Try.results28, anW4528, dCnf, h1', hno]; done)); (try (rotate_left; (· (intro hc; (try simp [hnt, Try.ntmps28, Try.results28, anW4528, dCnf, h1', hno] at hc); done)))))) | (refine DW_ret ?_; simp [hnt, Try.ntmps28, Try.results28, anW4528, dCnf, h1', hno]) | (refine DW_exit ?_; simp [hnt, Try.ntmps28, Try.results28, anW4528, dCnf, h1', hno]) | (refine DW_skip ?_; simp [hnt, Try.ntmps28, Try.results28, anW4528, dCnf, h1', hno]) | (intro hc; (try simp [hnt, Try.ntmps28, Try.results28, anW4528, dCnf, h1', hno] at hc); done) | (intro hc; (try simp [hnt, Try.ntmps28, Try.results28, anW4528, dCnf, h1', hno] at hc); (first | (exfalso; omega) | skip)) | (refine ⟨?_, ?_⟩; · omega) | omega | apply_assumption -exfalso -symm | (exfalso; omega)))
  by_cases h2 : c.nts ≤ 1024
  rotate_left
  · have h2' : 1024 < c.nts := by omega
    have h1' : ¬ c.nts < 1 := by omega
    have hno : cnfOK c = false := by simp [cnfOK, h2]
    (repeat (first | (refine DW_seq fun K hK => ?_) | (refine DW_r anW4528 Try.mixed (by kernel_rfl) ?_; simp [hnt, Try.ntmps28, Try.results28, anW4528, dCnf, h1', h2', hno]; try simp (disch := omega) only [wrap64_in]) | (refine DW_block ?_) | (focus (refine DW_if ?_ ?_ ?_; (· (simp [hnt, Try.ntmps28, Try.results28, anW4528, dCnf, h1', h2', hno]; done)); (try (rotate_left; (· (intro hc; (try simp [hnt, Try.ntmps28, Try.results28, anW4528, dCnf, h1', h2', hno] at hc); done)))))) | (refine DW_ret ?_; simp [hnt, Try.ntmps28, Try.results28, anW4528, dCnf, h1', h2', hno]) | (refine DW_exit ?_; simp [hnt, Try.ntmps28, Try.results28, anW4528, dCnf, h1', h2', hno]) | (refine DW_skip ?_; simp [hnt, Try.ntmps28, Try.results28, anW4528, dCnf, h1', h2', hno]) | (intro hc; (try simp [hnt, Try.ntmps28, Try.results28, anW4528, dCnf, h1', h2', hno] at hc); done) | (intro hc; (try simp [hnt, Try.ntmps28, Try.results28, anW4528, dCnf, h1', h2', hno] at hc); (first | (exfalso; omega) | skip)) | (refine ⟨?_, ?_⟩; · omega) | omega | apply_assumption -exfalso -symm | (exfalso; omega)))
  have h1' : ¬ c.nts < 1 := by omega
  have h2' : ¬ 1024 < c.nts := by omega
  have hok : cnfOK c = c.prods.all (prodOK c) := by simp [cnfOK, h1, h2]
  (repeat (first | (refine DW_seq fun K hK => ?_) | (refine DW_r anW4528 Try.mixed (by kernel_rfl) ?_; simp [hnt, Try.ntmps28, Try.results28, anW4528, dCnf, h1', h2']; try simp (disch := omega) only [wrap64_in]) | (refine DW_block ?_) | (focus (refine DW_if ?_ ?_ ?_; (· (simp [hnt, Try.ntmps28, Try.results28, anW4528, dCnf, h1', h2']; done)); (try (rotate_left; (· (intro hc; (try simp [hnt, Try.ntmps28, Try.results28, anW4528, dCnf, h1', h2'] at hc); done)))))) | (refine DW_ret ?_; simp [hnt, Try.ntmps28, Try.results28, anW4528, dCnf, h1', h2']) | (refine DW_exit ?_; simp [hnt, Try.ntmps28, Try.results28, anW4528, dCnf, h1', h2']) | (refine DW_skip ?_; simp [hnt, Try.ntmps28, Try.results28, anW4528, dCnf, h1', h2']) | (intro hc; (try simp [hnt, Try.ntmps28, Try.results28, anW4528, dCnf, h1', h2'] at hc); done) | (intro hc; (try simp [hnt, Try.ntmps28, Try.results28, anW4528, dCnf, h1', h2'] at hc); (first | (exfalso; omega) | skip)) | (refine ⟨?_, ?_⟩; · omega) | omega | apply_assumption -exfalso -symm | (exfalso; omega)))
  refine DW_loop (X := {k : Nat // k ≤ c.prods.length ∧ (c.prods.take k).all (prodOK c) = true}) (fun k => ⟨[(1, .ref [.int .i64 c.nts, dProds c.prods]), (3, .int .i64 k.1)], []⟩) (fun k => c.prods.length - k.1) ⟨0, by simp⟩ (Sub.lit (by simp)) ?_
  rintro ⟨k, hk, hkk⟩
  by_cases hlt : k < c.prods.length
  rotate_left
  · have hke : k = c.prods.length := by omega
    subst hke
    rw [List.take_length] at hkk
    rw [hkk] at hok
    (repeat (first | (refine DW_seq fun K hK => ?_) | (refine DW_r anW4528 Try.mixed (by kernel_rfl) ?_; simp [hnt, Try.ntmps28, Try.results28, anW4528, dCnf, hok]; try simp (disch := omega) only [wrap64_in]) | (refine DW_block ?_) | (focus (refine DW_if ?_ ?_ ?_; (· (simp [hnt, Try.ntmps28, Try.results28, anW4528, dCnf, hok]; done)); (try (rotate_left; (· (intro hc; (try simp [hnt, Try.ntmps28, Try.results28, anW4528, dCnf, hok] at hc); done)))))) | (refine DW_ret ?_; simp [hnt, Try.ntmps28, Try.results28, anW4528, dCnf, hok]) | (refine DW_exit ?_; simp [hnt, Try.ntmps28, Try.results28, anW4528, dCnf, hok]) | (refine DW_skip ?_; simp [hnt, Try.ntmps28, Try.results28, anW4528, dCnf, hok]) | (intro hc; (try simp [hnt, Try.ntmps28, Try.results28, anW4528, dCnf, hok] at hc); done) | (intro hc; (try simp [hnt, Try.ntmps28, Try.results28, anW4528, dCnf, hok] at hc); (first | (exfalso; omega) | skip)) | (refine ⟨?_, ?_⟩; · omega) | omega | apply_assumption -exfalso -symm | (exfalso; omega)))
  obtain ⟨p, hp, hp', hpm⟩ := at_lt' hlt
  obtain ⟨hw5, hw6, hw7, hw8⟩ := hw4 p hpm
  have hbad : prodOK c p = false → cnfOK c = false := by
    intro hb
    rw [hok, List.all_eq_false]
    exact ⟨p, hpm, by simp [hb]⟩
  have hstep : prodOK c p = true → (c.prods.take (k + 1)).all (prodOK c) = true := by
    intro hb
    rw [List.take_succ_eq_append_getElem hlt, List.all_append, hkk, hp']; simp [hb]
  by_cases hh1 : p.head < 0
  · have := hbad (by simp [prodOK, ntOK, show ¬ (0 ≤ p.head) by omega])
    (repeat (first | (refine DW_seq fun K hK => ?_) | (refine DW_r anW4528 Try.mixed (by kernel_rfl) ?_; simp [hnt, Try.ntmps28, Try.results28, anW4528, dCnf, dProd, hlt, hp', hh1, this]; try simp (disch := omega) only [wrap64_in]) | (refine DW_block ?_) | (focus (refine DW_if ?_ ?_ ?_; (· (simp [hnt, Try.ntmps28, Try.results28, anW4528, dCnf, dProd, hlt, hp', hh1, this]; done)); (try (rotate_left; (· (intro hc; (try simp [hnt, Try.ntmps28, Try.results28, anW4528, dCnf, dProd, hlt, hp', hh1, this] at hc); done)))))) | (refine DW_ret ?_; simp [hnt, Try.ntmps28, Try.results28, anW4528, dCnf, dProd, hlt, hp', hh1, this]) | (refine DW_exit ?_; simp [hnt, Try.ntmps28, Try.results28, anW4528, dCnf, dProd, hlt, hp', hh1, this]) | (refine DW_skip ?_; simp [hnt, Try.ntmps28, Try.results28, anW4528, dCnf, dProd, hlt, hp', hh1, this]) | (intro hc; (try simp [hnt, Try.ntmps28, Try.results28, anW4528, dCnf, dProd, hlt, hp', hh1, this] at hc); done) | (intro hc; (try simp [hnt, Try.ntmps28, Try.results28, anW4528, dCnf, dProd, hlt, hp', hh1, this] at hc); (first | (exfalso; omega) | skip)) | (refine ⟨?_, ?_⟩; · omega) | omega | apply_assumption -exfalso -symm | (exfalso; omega)))
  by_cases hh2 : c.nts ≤ p.head
  · have := hbad (by simp [prodOK, ntOK, show ¬ (p.head < c.nts) by omega])
    (repeat (first | (refine DW_seq fun K hK => ?_) | (refine DW_r anW4528 Try.mixed (by kernel_rfl) ?_; simp [hnt, Try.ntmps28, Try.results28, anW4528, dCnf, dProd, hlt, hp', hh1, hh2, this]; try simp (disch := omega) only [wrap64_in]) | (refine DW_block ?_) | (focus (refine DW_if ?_ ?_ ?_; (· (simp [hnt, Try.ntmps28, Try.results28, anW4528, dCnf, dProd, hlt, hp', hh1, hh2, this]; done)); (try (rotate_left; (· (intro hc; (try simp [hnt, Try.ntmps28, Try.results28, anW4528, dCnf, dProd, hlt, hp', hh1, hh2, this] at hc); done)))))) | (refine DW_ret ?_; simp [hnt, Try.ntmps28, Try.results28, anW4528, dCnf, dProd, hlt, hp', hh1, hh2, this]) | (refine DW_exit ?_; simp [hnt, Try.ntmps28, Try.results28, anW4528, dCnf, dProd, hlt, hp', hh1, hh2, this]) | (refine DW_skip ?_; simp [hnt, Try.ntmps28, Try.results28, anW4528, dCnf, dProd, hlt, hp', hh1, hh2, this]) | (intro hc; (try simp [hnt, Try.ntmps28, Try.results28, anW4528, dCnf, dProd, hlt, hp', hh1, hh2, this] at hc); done) | (intro hc; (try simp [hnt, Try.ntmps28, Try.results28, anW4528, dCnf, dProd, hlt, hp', hh1, hh2, this] at hc); (first | (exfalso; omega) | skip)) | (refine ⟨?_, ?_⟩; · omega) | omega | apply_assumption -exfalso -symm | (exfalso; omega)))
  have hnt' : ntOK c p.head = true := by simp [ntOK, show 0 ≤ p.head by omega, show p.head < c.nts by omega]
  (repeat (first | (refine DW_seq fun K hK => ?_) | (refine DW_r anW4528 Try.mixed (by kernel_rfl) ?_; simp [hnt, Try.ntmps28, Try.results28, anW4528, dCnf, dProd, hlt, hp', hh1, hh2]; try simp (disch := omega) only [wrap64_in]) | (refine DW_block ?_) | (focus (refine DW_if ?_ ?_ ?_; (· (simp [hnt, Try.ntmps28, Try.results28, anW4528, dCnf, dProd, hlt, hp', hh1, hh2]; done)); (try (rotate_left; (· (intro hc; (try simp [hnt, Try.ntmps28, Try.results28, anW4528, dCnf, dProd, hlt, hp', hh1, hh2] at hc); done)))))) | (refine DW_ret ?_; simp [hnt, Try.ntmps28, Try.results28, anW4528, dCnf, dProd, hlt, hp', hh1, hh2]) | (refine DW_exit ?_; simp [hnt, Try.ntmps28, Try.results28, anW4528, dCnf, dProd, hlt, hp', hh1, hh2]) | (refine DW_skip ?_; simp [hnt, Try.ntmps28, Try.results28, anW4528, dCnf, dProd, hlt, hp', hh1, hh2]) | (intro hc; (try simp [hnt, Try.ntmps28, Try.results28, anW4528, dCnf, dProd, hlt, hp', hh1, hh2] at hc); done) | (intro hc; (try simp [hnt, Try.ntmps28, Try.results28, anW4528, dCnf, dProd, hlt, hp', hh1, hh2] at hc); (first | (exfalso; omega) | skip)) | (refine ⟨?_, ?_⟩; · omega) | omega | apply_assumption -exfalso -symm | (exfalso; omega)))
  refine DW_loop (X := {j : Nat // j ≤ p.body.length ∧ (p.body.take j).any (symBad c) = false}) (fun j => ⟨[(1, .ref [.int .i64 c.nts, dProds c.prods]), (3, .int .i64 k), (4, .ref [.int .i64 p.head, dSyms p.body]), (5, .int .i64 j.1)], []⟩) (fun j => p.body.length - j.1) ⟨0, by simp⟩ (Sub.lit (by simp)) ?_
  rintro ⟨j, hj, hjj⟩
  by_cases hlj : j < p.body.length
  rotate_left
  · have hje : j = p.body.length := by omega
    subst hje
    rw [List.take_length] at hjj
    have hgood := hstep (by simp [prodOK, hnt', hjj])
    (repeat (first | (refine DW_seq fun K hK => ?_) | (refine DW_r anW4528 Try.mixed (by kernel_rfl) ?_; simp [hnt, Try.ntmps28, Try.results28, anW4528]; try simp (disch := omega) only [wrap64_in]) | (refine DW_block ?_) | (focus (refine DW_if ?_ ?_ ?_; (· (simp [hnt, Try.ntmps28, Try.results28, anW4528]; done)); (try (rotate_left; (· (intro hc; (try simp [hnt, Try.ntmps28, Try.results28, anW4528] at hc); done)))))) | (refine DW_ret ?_; simp [hnt, Try.ntmps28, Try.results28, anW4528]) | (refine DW_exit ?_; simp [hnt, Try.ntmps28, Try.results28, anW4528]) | (refine DW_skip ?_; simp [hnt, Try.ntmps28, Try.results28, anW4528]) | (intro hc; (try simp [hnt, Try.ntmps28, Try.results28, anW4528] at hc); done) | (intro hc; (try simp [hnt, Try.ntmps28, Try.results28, anW4528] at hc); (first | (exfalso; omega) | skip)) | (refine ⟨?_, ?_⟩; · omega) | omega | apply_assumption -exfalso -symm | (exfalso; omega)))
    refine Again.mk ⟨k + 1, by omega, hgood⟩ (Sub.lit (by simp)) (by simp; omega)
    (repeat (first | (refine DW_seq fun K hK => ?_) | (refine DW_r anW4528 Try.mixed (by kernel_rfl) ?_; simp [hnt, Try.ntmps28, Try.results28, anW4528]; try simp (disch := omega) only [wrap64_in]) | (refine DW_block ?_) | (focus (refine DW_if ?_ ?_ ?_; (· (simp [hnt, Try.ntmps28, Try.results28, anW4528]; done)); (try (rotate_left; (· (intro hc; (try simp [hnt, Try.ntmps28, Try.results28, anW4528] at hc); done)))))) | (refine DW_ret ?_; simp [hnt, Try.ntmps28, Try.results28, anW4528]) | (refine DW_exit ?_; simp [hnt, Try.ntmps28, Try.results28, anW4528]) | (refine DW_skip ?_; simp [hnt, Try.ntmps28, Try.results28, anW4528]) | (intro hc; (try simp [hnt, Try.ntmps28, Try.results28, anW4528] at hc); done) | (intro hc; (try simp [hnt, Try.ntmps28, Try.results28, anW4528] at hc); (first | (exfalso; omega) | skip)) | (refine ⟨?_, ?_⟩; · omega) | omega | apply_assumption -exfalso -symm | (exfalso; omega)))
  obtain ⟨s, hs, hs', hsm⟩ := at_lt' hlj
  have hsn := hw8 s hsm
  have hb2 : symBad c s = true → cnfOK c = false := by
    intro hb
    refine hbad ?_
    simp only [prodOK, hnt', Bool.true_and, Bool.not_eq_false', List.any_eq_true]
    exact ⟨s, hsm, hb⟩
  have hst2 : symBad c s = false → (p.body.take (j + 1)).any (symBad c) = false := by
    intro hb
    rw [List.take_succ_eq_append_getElem hlj, List.any_append, hjj, hs']; simp [hb]
  by_cases hs1 : s.n < 0
  · have := hb2 (by cases hl : s.label <;> simp [symBad, hl, hs1, ntOK, show ¬ (0 ≤ s.n) by omega])
    (repeat (first | (refine DW_seq fun K hK => ?_) | (refine DW_r anW4528 Try.mixed (by kernel_rfl) ?_; simp [hnt, Try.ntmps28, Try.results28, anW4528, dSym, hlj, hs', hs1, this]; try simp (disch := omega) only [wrap64_in]) | (refine DW_block ?_) | (focus (refine DW_if ?_ ?_ ?_; (· (simp [hnt, Try.ntmps28, Try.results28, anW4528, dSym, hlj, hs', hs1, this]; done)); (try (rotate_left; (· (intro hc; (try simp [hnt, Try.ntmps28, Try.results28, anW4528, dSym, hlj, hs', hs1, this] at hc); done)))))) | (refine DW_ret ?_; simp [hnt, Try.ntmps28, Try.results28, anW4528, dSym, hlj, hs', hs1, this]) | (refine DW_exit ?_; simp [hnt, Try.ntmps28, Try.results28, anW4528, dSym, hlj, hs', hs1, this]) | (refine DW_skip ?_; simp [hnt, Try.ntmps28, Try.results28, anW4528, dSym, hlj, hs', hs1, this]) | (intro hc; (try simp [hnt, Try.ntmps28, Try.results28, anW4528, dSym, hlj, hs', hs1, this] at hc); done) | (intro hc; (try simp [hnt, Try.ntmps28, Try.results28, anW4528, dSym, hlj, hs', hs1, this] at hc); (first | (exfalso; omega) | skip)) | (refine ⟨?_, ?_⟩; · omega) | omega | apply_assumption -exfalso -symm | (exfalso; omega)))
  cases hl : s.label
  · by_cases hs2 : c.nts ≤ s.n
    · have := hb2 (by simp [symBad, hl, ntOK, show ¬ (s.n < c.nts) by omega])
      (repeat (first | (refine DW_seq fun K hK => ?_) | (refine DW_r anW4528 Try.mixed (by kernel_rfl) ?_; simp [hnt, Try.ntmps28, Try.results28, anW4528, dSym, hlj, hs', hs1, hs2, hl, this]; try simp (disch := omega) only [wrap64_in]) | (refine DW_block ?_) | (focus (refine DW_if ?_ ?_ ?_; (· (simp [hnt, Try.ntmps28, Try.results28, anW4528, dSym, hlj, hs', hs1, hs2, hl, this]; done)); (try (rotate_left; (· (intro hc; (try simp [hnt, Try.ntmps28, Try.results28, anW4528, dSym, hlj, hs', hs1, hs2, hl, this] at hc); done)))))) | (refine DW_ret ?_; simp [hnt, Try.ntmps28, Try.results28, anW4528, dSym, hlj, hs', hs1, hs2, hl, this]) | (refine DW_exit ?_; simp [hnt, Try.ntmps28, Try.results28, anW4528, dSym, hlj, hs', hs1, hs2, hl, this]) | (refine DW_skip ?_; simp [hnt, Try.ntmps28, Try.results28, anW4528, dSym, hlj, hs', hs1, hs2, hl, this]) | (intro hc; (try simp [hnt, Try.ntmps28, Try.results28, anW4528, dSym, hlj, hs', hs1, hs2, hl, this] at hc); done) | (intro hc; (try simp [hnt, Try.ntmps28, Try.results28, anW4528, dSym, hlj, hs', hs1, hs2, hl, this] at hc); (first | (exfalso; omega) | skip)) | (refine ⟨?_, ?_⟩; · omega) | omega | apply_assumption -exfalso -symm | (exfalso; omega)))
    · have hgd := hst2 (by simp [symBad, hl, ntOK, show 0 ≤ s.n by omega, show s.n < c.nts by omega])
      (repeat (first | (refine DW_seq fun K hK => ?_) | (refine DW_r anW4528 Try.mixed (by kernel_rfl) ?_; simp [hnt, Try.ntmps28, Try.results28, anW4528, dSym, hlj, hs', hs1, hs2, hl]; try simp (disch := omega) only [wrap64_in]) | (refine DW_block ?_) | (focus (refine DW_if ?_ ?_ ?_; (· (simp [hnt, Try.ntmps28, Try.results28, anW4528, dSym, hlj, hs', hs1, hs2, hl]; done)); (try (rotate_left; (· (intro hc; (try simp [hnt, Try.ntmps28, Try.results28, anW4528, dSym, hlj, hs', hs1, hs2, hl] at hc); done)))))) | (refine DW_ret ?_; simp [hnt, Try.ntmps28, Try.results28, anW4528, dSym, hlj, hs', hs1, hs2, hl]) | (refine DW_exit ?_; simp [hnt, Try.ntmps28, Try.results28, anW4528, dSym, hlj, hs', hs1, hs2, hl]) | (refine DW_skip ?_; simp [hnt, Try.ntmps28, Try.results28, anW4528, dSym, hlj, hs', hs1, hs2, hl]) | (intro hc; (try simp [hnt, Try.ntmps28, Try.results28, anW4528, dSym, hlj, hs', hs1, hs2, hl] at hc); done) | (intro hc; (try simp [hnt, Try.ntmps28, Try.results28, anW4528, dSym, hlj, hs', hs1, hs2, hl] at hc); (first | (exfalso; omega) | skip)) | (refine ⟨?_, ?_⟩; · omega) | omega | apply_assumption -exfalso -symm | (exfalso; omega)))
      refine Again.mk ⟨j + 1, by omega, hgd⟩ (Sub.lit (by simp)) (by simp; omega)
      (repeat (first | (refine DW_seq fun K hK => ?_) | (refine DW_r anW4528 Try.mixed (by kernel_rfl) ?_; simp [hnt, Try.ntmps28, Try.results28, anW4528]; try simp (disch := omega) only [wrap64_in]) | (refine DW_block ?_) | (focus (refine DW_if ?_ ?_ ?_; (· (simp [hnt, Try.ntmps28, Try.results28, anW4528]; done)); (try (rotate_left; (· (intro hc; (try simp [hnt, Try.ntmps28, Try.results28, anW4528] at hc); done)))))) | (refine DW_ret ?_; simp [hnt, Try.ntmps28, Try.results28, anW4528]) | (refine DW_exit ?_; simp [hnt, Try.ntmps28, Try.results28, anW4528]) | (refine DW_skip ?_; simp [hnt, Try.ntmps28, Try.results28, anW4528]) | (intro hc; (try simp [hnt, Try.ntmps28, Try.results28, anW4528] at hc); done) | (intro hc; (try simp [hnt, Try.ntmps28, Try.results28, anW4528] at hc); (first | (exfalso; omega) | skip)) | (refine ⟨?_, ?_⟩; · omega) | omega | apply_assumption -exfalso -symm | (exfalso; omega)))
  · by_cases hs2 : 16 ≤ s.n
    · have := hb2 (by simp [symBad, hl, hs2])
      (repeat (first | (refine DW_seq fun K hK => ?_) | (refine DW_r anW4528 Try.mixed (by kernel_rfl) ?_; simp [hnt, Try.ntmps28, Try.results28, anW4528, dSym, hlj, hs', hs1, hs2, hl, this]; try simp (disch := omega) only [wrap64_in]) | (refine DW_block ?_) | (focus (refine DW_if ?_ ?_ ?_; (· (simp [hnt, Try.ntmps28, Try.results28, anW4528, dSym, hlj, hs', hs1, hs2, hl, this]; done)); (try (rotate_left; (· (intro hc; (try simp [hnt, Try.ntmps28, Try.results28, anW4528, dSym, hlj, hs', hs1, hs2, hl, this] at hc); done)))))) | (refine DW_ret ?_; simp [hnt, Try.ntmps28, Try.results28, anW4528, dSym, hlj, hs', hs1, hs2, hl, this]) | (refine DW_exit ?_; simp [hnt, Try.ntmps28, Try.results28, anW4528, dSym, hlj, hs', hs1, hs2, hl, this]) | (refine DW_skip ?_; simp [hnt, Try.ntmps28, Try.results28, anW4528, dSym, hlj, hs', hs1, hs2, hl, this]) | (intro hc; (try simp [hnt, Try.ntmps28, Try.results28, anW4528, dSym, hlj, hs', hs1, hs2, hl, this] at hc); done) | (intro hc; (try simp [hnt, Try.ntmps28, Try.results28, anW4528, dSym, hlj, hs', hs1, hs2, hl, this] at hc); (first | (exfalso; omega) | skip)) | (refine ⟨?_, ?_⟩; · omega) | omega | apply_assumption -exfalso -symm | (exfalso; omega)))
    · have hgd := hst2 (by simp [symBad, hl, hs1, hs2])
      (repeat (first | (refine DW_seq fun K hK => ?_) | (refine DW_r anW4528 Try.mixed (by kernel_rfl) ?_; simp [hnt, Try.ntmps28, Try.results28, anW4528, dSym, hlj, hs', hs1, hs2, hl]; try simp (disch := omega) only [wrap64_in]) | (refine DW_block ?_) | (focus (refine DW_if ?_ ?_ ?_; (· (simp [hnt, Try.ntmps28, Try.results28, anW4528, dSym, hlj, hs', hs1, hs2, hl]; done)); (try (rotate_left; (· (intro hc; (try simp [hnt, Try.ntmps28, Try.results28, anW4528, dSym, hlj, hs', hs1, hs2, hl] at hc); done)))))) | (refine DW_ret ?_; simp [hnt, Try.ntmps28, Try.results28, anW4528, dSym, hlj, hs', hs1, hs2, hl]) | (refine DW_exit ?_; simp [hnt, Try.ntmps28, Try.results28, anW4528, dSym, hlj, hs', hs1, hs2, hl]) | (refine DW_skip ?_; simp [hnt, Try.ntmps28, Try.results28, anW4528, dSym, hlj, hs', hs1, hs2, hl]) | (intro hc; (try simp [hnt, Try.ntmps28, Try.results28, anW4528, dSym, hlj, hs', hs1, hs2, hl] at hc); done) | (intro hc; (try simp [hnt, Try.ntmps28, Try.results28, anW4528, dSym, hlj, hs', hs1, hs2, hl] at hc); (first | (exfalso; omega) | skip)) | (refine ⟨?_, ?_⟩; · omega) | omega | apply_assumption -exfalso -symm | (exfalso; omega)))
      refine Again.mk ⟨j + 1, by omega, hgd⟩ (Sub.lit (by simp)) (by simp; omega)
      (repeat (first | (refine DW_seq fun K hK => ?_) | (refine DW_r anW4528 Try.mixed (by kernel_rfl) ?_; simp [hnt, Try.ntmps28, Try.results28, anW4528]; try simp (disch := omega) only [wrap64_in]) | (refine DW_block ?_) | (focus (refine DW_if ?_ ?_ ?_; (· (simp [hnt, Try.ntmps28, Try.results28, anW4528]; done)); (try (rotate_left; (· (intro hc; (try simp [hnt, Try.ntmps28, Try.results28, anW4528] at hc); done)))))) | (refine DW_ret ?_; simp [hnt, Try.ntmps28, Try.results28, anW4528]) | (refine DW_exit ?_; simp [hnt, Try.ntmps28, Try.results28, anW4528]) | (refine DW_skip ?_; simp [hnt, Try.ntmps28, Try.results28, anW4528]) | (intro hc; (try simp [hnt, Try.ntmps28, Try.results28, anW4528] at hc); done) | (intro hc; (try simp [hnt, Try.ntmps28, Try.results28, anW4528] at hc); (first | (exfalso; omega) | skip)) | (refine ⟨?_, ?_⟩; · omega) | omega | apply_assumption -exfalso -symm | (exfalso; omega)))
end Go.Proofs.Ytihkcegelghcpaa
end

section
/- the reference's Rules -/


set_option linter.unusedSimpArgs false
set_option linter.unusedVariables false
namespace Go.Proofs.Ytihkcegelghcpaa
open Go Go.Dm
attribute [local irreducible] DW callP callS
set_option maxRecDepth 100000

def anWR639 : Ann := ⟨[], [⟨9, [10], [], []⟩, ⟨18, [13], [], []⟩]⟩
set_option maxHeartbeats 2000000 in
theorem rules39_pure (c : Cnf) (ns ls : List ByteArray) (hp1 : c.prods.length ≤ 100000000) (hp2 : ∀ p ∈ c.prods, p.body.length ≤ 100000000) : DPure Try.prog 39 [.agg (dCnf c), dStrs ns, dStrs ls] (rulesD ns ls c) := by
  refine DPure_introF [8] (fn := Try.f39) Try.func39 rfl Try.call39 (by simp [Try.ntmps39]) (mx_rulesD ns ls c) ?_
  intro hwf B hnt
  have hwn := len_strs hwf.2.1
  have hwl := len_strs hwf.2.2.1
  clear hwf
  simp only [argS]
  have e0 := rcheck_pure c
  obtain ⟨RD, hRD⟩ : ∃ RD, RD = rulesD ns ls c := ⟨_, rfl⟩
  rw [← hRD]
  unfold rulesD at hRD
  cases hok : cnfOK c
  · rw [hok] at e0 hRD
    simp only [Bool.false_eq_true, if_false] at e0 hRD
    subst hRD
    (repeat (first | (refine DW_seq fun K hK => ?_) | (refine DW_r anWR639 Try.mixed (by kernel_rfl) ?_; simp [hnt, Try.ntmps39, Try.results39, anWR639, dCnf]; try simp (disch := omega) only [wrap64_in]) | (refine DW_block ?_) | (focus (refine DW_if ?_ ?_ ?_; (· (simp [hnt, Try.ntmps39, Try.results39, anWR639, dCnf]; done)); (try (rotate_left; (· (intro hc; (try simp [hnt, Try.ntmps39, Try.results39, anWR639, dCnf] at hc); done)))))) | (refine DW_ret ?_; simp [hnt, Try.ntmps39, Try.results39, anWR639, dCnf]) | (refine DW_exit ?_; simp [hnt, Try.ntmps39, Try.results39, anWR639, dCnf]) | (refine DW_skip ?_; simp [hnt, Try.ntmps39, Try.results39, anWR639, dCnf]) | (intro hc; (try simp [hnt, Try.ntmps39, Try.results39, anWR639, dCnf] at hc); done) | (intro hc; (try simp [hnt, Try.ntmps39, Try.results39, anWR639, dCnf] at hc); (first | (exfalso; omega) | skip)) | (refine callP_mk (e0) ?_; try simp [hnt, Try.ntmps39, Try.results39, anWR639, dCnf]) | (refine callP_wk (e0) ?_ ?_; (· (simp; done)); try simp [hnt, Try.ntmps39, Try.results39, anWR639, dCnf]) | (refine ⟨?_, ?_⟩; · omega) | omega | apply_assumption -exfalso -symm | (exfalso; omega)))
  rw [hok] at e0 hRD
  simp only [if_true] at e0 hRD
  obtain ⟨M, hMM⟩ : ∃ M, M = mostC c := ⟨_, rfl⟩
  have e3 := most78_pure c hok
  rw [← hMM] at e3
  have e1 := unlike79_pure ns 2 85 (.inl ⟨rfl, rfl⟩)
  have e2 := unlike79_pure ls 3 76 (.inr ⟨rfl, rfl⟩)
  unfold argOK at hRD
  rw [← hMM] at hRD
  by_cases a1 : (ns.length : Int) = c.nts
  rotate_left
  · simp only [a1, decide_false, Bool.false_and, Bool.false_eq_true, if_false] at hRD
    subst hRD
    have a1b : ((ns.length : Int) != c.nts) = true := by simpa using a1
    (repeat (first | (refine DW_seq fun K hK => ?_) | (refine DW_r anWR639 Try.mixed (by kernel_rfl) ?_; simp [hnt, Try.ntmps39, Try.results39, anWR639, dCnf, a1, a1b]; try simp (disch := omega) only [wrap64_in]) | (refine DW_block ?_) | (focus (refine DW_if ?_ ?_ ?_; (· (simp [hnt, Try.ntmps39, Try.results39, anWR639, dCnf, a1, a1b]; done)); (try (rotate_left; (· (intro hc; (try simp [hnt, Try.ntmps39, Try.results39, anWR639, dCnf, a1, a1b] at hc); done)))))) | (refine DW_ret ?_; simp [hnt, Try.ntmps39, Try.results39, anWR639, dCnf, a1, a1b]) | (refine DW_exit ?_; simp [hnt, Try.ntmps39, Try.results39, anWR639, dCnf, a1, a1b]) | (refine DW_skip ?_; simp [hnt, Try.ntmps39, Try.results39, anWR639, dCnf, a1, a1b]) | (intro hc; (try simp [hnt, Try.ntmps39, Try.results39, anWR639, dCnf, a1, a1b] at hc); done) | (intro hc; (try simp [hnt, Try.ntmps39, Try.results39, anWR639, dCnf, a1, a1b] at hc); (first | (exfalso; omega) | skip)) | (refine callP_mk (e0) ?_; try simp [hnt, Try.ntmps39, Try.results39, anWR639, dCnf, a1, a1b]) | (refine callP_wk (e0) ?_ ?_; (· (simp; done)); try simp [hnt, Try.ntmps39, Try.results39, anWR639, dCnf, a1, a1b]) | (refine callP_mk (e3) ?_; try simp [hnt, Try.ntmps39, Try.results39, anWR639, dCnf, a1, a1b]) | (refine callP_wk (e3) ?_ ?_; (· (simp; done)); try simp [hnt, Try.ntmps39, Try.results39, anWR639, dCnf, a1, a1b]) | (refine ⟨?_, ?_⟩; · omega) | omega | apply_assumption -exfalso -symm | (exfalso; omega)))
  simp only [a1, decide_true, Bool.true_and] at hRD
  have a1b : ((ns.length : Int) != c.nts) = false := by simpa using a1
  by_cases a2 : M ≤ ls.length
  rotate_left
  · simp only [a2, decide_false, Bool.false_and, Bool.false_eq_true, if_false] at hRD
    subst hRD
    have a2' : (ls.length : Int) < M := by omega
    (repeat (first | (refine DW_seq fun K hK => ?_) | (refine DW_r anWR639 Try.mixed (by kernel_rfl) ?_; simp [hnt, Try.ntmps39, Try.results39, anWR639, dCnf, a1, a1b, a2']; try simp (disch := omega) only [wrap64_in]) | (refine DW_block ?_) | (focus (refine DW_if ?_ ?_ ?_; (· (simp [hnt, Try.ntmps39, Try.results39, anWR639, dCnf, a1, a1b, a2']; done)); (try (rotate_left; (· (intro hc; (try simp [hnt, Try.ntmps39, Try.results39, anWR639, dCnf, a1, a1b, a2'] at hc); done)))))) | (refine DW_ret ?_; simp [hnt, Try.ntmps39, Try.results39, anWR639, dCnf, a1, a1b, a2']) | (refine DW_exit ?_; simp [hnt, Try.ntmps39, Try.results39, anWR639, dCnf, a1, a1b, a2']) | (refine DW_skip ?_; simp [hnt, Try.ntmps39, Try.results39, anWR639, dCnf, a1, a1b, a2']) | (intro hc; (try simp [hnt, Try.ntmps39, Try.results39, anWR639, dCnf, a1, a1b, a2'] at hc); done) | (intro hc; (try simp [hnt, Try.ntmps39, Try.results39, anWR639, dCnf, a1, a1b, a2'] at hc); (first | (exfalso; omega) | skip)) | (refine callP_mk (e0) ?_; try simp [hnt, Try.ntmps39, Try.results39, anWR639, dCnf, a1, a1b, a2']) | (refine callP_wk (e0) ?_ ?_; (· (simp; done)); try simp [hnt, Try.ntmps39, Try.results39, anWR639, dCnf, a1, a1b, a2']) | (refine callP_mk (e3) ?_; try simp [hnt, Try.ntmps39, Try.results39, anWR639, dCnf, a1, a1b, a2']) | (refine callP_wk (e3) ?_ ?_; (· (simp; done)); try simp [hnt, Try.ntmps39, Try.results39, anWR639, dCnf, a1, a1b, a2']) | (refine ⟨?_, ?_⟩; · omega) | omega | apply_assumption -exfalso -symm | (exfalso; omega)))
  have a2' : ¬ (ls.length : Int) < M := by omega
  simp only [a2, decide_true, Bool.true_and] at hRD
  cases a3 : unlikeB 2 ns
  · rw [a3] at e1 hRD
    simp only [Bool.false_and, Bool.false_eq_true, if_false] at hRD
    subst hRD
    (repeat (first | (refine DW_seq fun K hK => ?_) | (refine DW_r anWR639 Try.mixed (by kernel_rfl) ?_; simp [hnt, Try.ntmps39, Try.results39, anWR639, dCnf, a1, a1b, a2']; try simp (disch := omega) only [wrap64_in]) | (refine DW_block ?_) | (focus (refine DW_if ?_ ?_ ?_; (· (simp [hnt, Try.ntmps39, Try.results39, anWR639, dCnf, a1, a1b, a2']; done)); (try (rotate_left; (· (intro hc; (try simp [hnt, Try.ntmps39, Try.results39, anWR639, dCnf, a1, a1b, a2'] at hc); done)))))) | (refine DW_ret ?_; simp [hnt, Try.ntmps39, Try.results39, anWR639, dCnf, a1, a1b, a2']) | (refine DW_exit ?_; simp [hnt, Try.ntmps39, Try.results39, anWR639, dCnf, a1, a1b, a2']) | (refine DW_skip ?_; simp [hnt, Try.ntmps39, Try.results39, anWR639, dCnf, a1, a1b, a2']) | (intro hc; (try simp [hnt, Try.ntmps39, Try.results39, anWR639, dCnf, a1, a1b, a2'] at hc); done) | (intro hc; (try simp [hnt, Try.ntmps39, Try.results39, anWR639, dCnf, a1, a1b, a2'] at hc); (first | (exfalso; omega) | skip)) | (refine callP_mk (e0) ?_; try simp [hnt, Try.ntmps39, Try.results39, anWR639, dCnf, a1, a1b, a2']) | (refine callP_wk (e0) ?_ ?_; (· (simp; done)); try simp [hnt, Try.ntmps39, Try.results39, anWR639, dCnf, a1, a1b, a2']) | (refine callP_mk (e1) ?_; try simp [hnt, Try.ntmps39, Try.results39, anWR639, dCnf, a1, a1b, a2']) | (refine callP_wk (e1) ?_ ?_; (· (simp; done)); try simp [hnt, Try.ntmps39, Try.results39, anWR639, dCnf, a1, a1b, a2']) | (refine callP_mk (e3) ?_; try simp [hnt, Try.ntmps39, Try.results39, anWR639, dCnf, a1, a1b, a2']) | (refine callP_wk (e3) ?_ ?_; (· (simp; done)); try simp [hnt, Try.ntmps39, Try.results39, anWR639, dCnf, a1, a1b, a2']) | (refine ⟨?_, ?_⟩; · omega) | omega | apply_assumption -exfalso -symm | (exfalso; omega)))
  rw [a3] at e1 hRD
  simp only [Bool.true_and] at hRD
  cases a4 : unlikeB 3 ls
  · rw [a4] at e2 hRD
    simp only [Bool.false_eq_true, if_false] at hRD
    subst hRD
    (repeat (first | (refine DW_seq fun K hK => ?_) | (refine DW_r anWR639 Try.mixed (by kernel_rfl) ?_; simp [hnt, Try.ntmps39, Try.results39, anWR639, dCnf, a1, a1b, a2']; try simp (disch := omega) only [wrap64_in]) | (refine DW_block ?_) | (focus (refine DW_if ?_ ?_ ?_; (· (simp [hnt, Try.ntmps39, Try.results39, anWR639, dCnf, a1, a1b, a2']; done)); (try (rotate_left; (· (intro hc; (try simp [hnt, Try.ntmps39, Try.results39, anWR639, dCnf, a1, a1b, a2'] at hc); done)))))) | (refine DW_ret ?_; simp [hnt, Try.ntmps39, Try.results39, anWR639, dCnf, a1, a1b, a2']) | (refine DW_exit ?_; simp [hnt, Try.ntmps39, Try.results39, anWR639, dCnf, a1, a1b, a2']) | (refine DW_skip ?_; simp [hnt, Try.ntmps39, Try.results39, anWR639, dCnf, a1, a1b, a2']) | (intro hc; (try simp [hnt, Try.ntmps39, Try.results39, anWR639, dCnf, a1, a1b, a2'] at hc); done) | (intro hc; (try simp [hnt, Try.ntmps39, Try.results39, anWR639, dCnf, a1, a1b, a2'] at hc); (first | (exfalso; omega) | skip)) | (refine callP_mk (e0) ?_; try simp [hnt, Try.ntmps39, Try.results39, anWR639, dCnf, a1, a1b, a2']) | (refine callP_wk (e0) ?_ ?_; (· (simp; done)); try simp [hnt, Try.ntmps39, Try.results39, anWR639, dCnf, a1, a1b, a2']) | (refine callP_mk (e1) ?_; try simp [hnt, Try.ntmps39, Try.results39, anWR639, dCnf, a1, a1b, a2']) | (refine callP_wk (e1) ?_ ?_; (· (simp; done)); try simp [hnt, Try.ntmps39, Try.results39, anWR639, dCnf, a1, a1b, a2']) | (refine callP_mk (e2) ?_; try simp [hnt, Try.ntmps39, Try.results39, anWR639, dCnf, a1, a1b, a2']) | (refine callP_wk (e2) ?_ ?_; (· (simp; done)); try simp [hnt, Try.ntmps39, Try.results39, anWR639, dCnf, a1, a1b, a2']) | (refine callP_mk (e3) ?_; try simp [hnt, Try.ntmps39, Try.results39, anWR639, dCnf, a1, a1b, a2']) | (refine callP_wk (e3) ?_ ?_; (· (simp; done)); try simp [hnt, Try.ntmps39, Try.results39, anWR639, dCnf, a1, a1b, a2']) | (refine ⟨?_, ?_⟩; · omega) | omega | apply_assumption -exfalso -symm | (exfalso; omega)))
  rw [a4] at e2 hRD
  simp only [if_true] at hRD
  subst hRD
  (repeat (first | (refine DW_seq fun K hK => ?_) | (refine DW_r anWR639 Try.mixed (by kernel_rfl) ?_; simp [hnt, Try.ntmps39, Try.results39, anWR639, dCnf, a1, a1b, a2']; try simp (disch := omega) only [wrap64_in]) | (refine DW_block ?_) | (focus (refine DW_if ?_ ?_ ?_; (· (simp [hnt, Try.ntmps39, Try.results39, anWR639, dCnf, a1, a1b, a2']; done)); (try (rotate_left; (· (intro hc; (try simp [hnt, Try.ntmps39, Try.results39, anWR639, dCnf, a1, a1b, a2'] at hc); done)))))) | (refine DW_ret ?_; simp [hnt, Try.ntmps39, Try.results39, anWR639, dCnf, a1, a1b, a2']) | (refine DW_exit ?_; simp [hnt, Try.ntmps39, Try.results39, anWR639, dCnf, a1, a1b, a2']) | (refine DW_skip ?_; simp [hnt, Try.ntmps39, Try.results39, anWR639, dCnf, a1, a1b, a2']) | (intro hc; (try simp [hnt, Try.ntmps39, Try.results39, anWR639, dCnf, a1, a1b, a2'] at hc); done) | (intro hc; (try simp [hnt, Try.ntmps39, Try.results39, anWR639, dCnf, a1, a1b, a2'] at hc); (first | (exfalso; omega) | skip)) | (refine callP_mk (e0) ?_; try simp [hnt, Try.ntmps39, Try.results39, anWR639, dCnf, a1, a1b, a2']) | (refine callP_wk (e0) ?_ ?_; (· (simp; done)); try simp [hnt, Try.ntmps39, Try.results39, anWR639, dCnf, a1, a1b, a2']) | (refine callP_mk (e1) ?_; try simp [hnt, Try.ntmps39, Try.results39, anWR639, dCnf, a1, a1b, a2']) | (refine callP_wk (e1) ?_ ?_; (· (simp; done)); try simp [hnt, Try.ntmps39, Try.results39, anWR639, dCnf, a1, a1b, a2']) | (refine callP_mk (e2) ?_; try simp [hnt, Try.ntmps39, Try.results39, anWR639, dCnf, a1, a1b, a2']) | (refine callP_wk (e2) ?_ ?_; (· (simp; done)); try simp [hnt, Try.ntmps39, Try.results39, anWR639, dCnf, a1, a1b, a2']) | (refine callP_mk (e3) ?_; try simp [hnt, Try.ntmps39, Try.results39, anWR639, dCnf, a1, a1b, a2']) | (refine callP_wk (e3) ?_ ?_; (· (simp; done)); try simp [hnt, Try.ntmps39, Try.results39, anWR639, dCnf, a1, a1b, a2']) | (refine ⟨?_, ?_⟩; · omega) | omega | apply_assumption -exfalso -symm | (exfalso; omega)))
  clear e0 e1 e2 e3
  refine DW_adoptS 8 8 116 2 40 (by simp [hnt, Try.ntmps39]) (fun n8 => ?_)
  refine DW_loop (X := {k : Nat // k ≤ c.prods.length}) (fun x => ⟨[(1, dStrs ns), (2, dStrs ls), (3, .ref [.int .i64 c.nts, dProds c.prods]), (8, .osl 8 1), (9, .int .i64 x.1)], [⟨8, 1, .row 116 2 40 (rowsD ns ls (c.prods.take x.1))⟩]⟩) (fun x => c.prods.length - x.1) ⟨0, by simp⟩ (Sub.lit (by simp [rowsD])) ?_
  rintro ⟨k, hk⟩
  simp only
  by_cases hlt : k < c.prods.length
  · obtain ⟨p, hp, hp', hpm⟩ := at_lt' hlt
    obtain ⟨hh0, hh1, hs⟩ := ok_prod hok hpm
    have hb := hp2 p hpm
    have hl1 := rowsD_len ns ls (show k ≤ c.prods.length from hk)
    have hnx := rowsD_next ns ls hp
    obtain ⟨hd, bd⟩ := p
    simp only at hh0 hh1 hs hb
    obtain ⟨hj, rfl⟩ := Int.eq_ofNat_of_zero_le hh0
    have hjn : hj < ns.length := by omega
    obtain ⟨t1, t2⟩ := txtAt_lt hjn
    have hlab : ∀ s ∈ bd, s.label = true → s.n < ls.length := fun s hsm hl => by
      have := mosts_mem c.prods 0 ⟨hj, bd⟩ s hpm hsm hl
      unfold mostC at hMM
      omega
    have hnt2 : ∀ s ∈ bd, s.label = false → s.n < ns.length := fun s hsm hl => by
      have := (hs s hsm).2.2 hl
      omega
    have hpre : preOf ⟨hj, bd⟩ = if bd.length = 0 then [⟨1, ⟨#[]⟩, 0⟩] else if bd.length = 1 then [] else [⟨4, ⟨#[]⟩, bd.length⟩] := rfl
    by_cases b0 : bd.length = 0
    · rw [if_pos b0] at hpre
      rw [hpre] at hnx
      have b0b : ((bd.length : Int) == 0) = true := by simp [b0]
      have b1 : ¬ bd.length = 1 := by omega
      have b1g : ¬ (1 : Int) < bd.length := by omega
      (repeat (first | (refine DW_seq fun K hK => ?_) | (refine DW_r anWR639 Try.mixed (by kernel_rfl) ?_; simp [hnt, Try.ntmps39, Try.results39, anWR639, dCnf, dProd, hlt, hp', b0, b0b, b1, b1g]; try simp (disch := omega) only [wrap64_in]) | (refine DW_block ?_) | (focus (refine DW_if ?_ ?_ ?_; (· (simp [hnt, Try.ntmps39, Try.results39, anWR639, dCnf, dProd, hlt, hp', b0, b0b, b1, b1g]; done)); (try (rotate_left; (· (intro hc; (try simp [hnt, Try.ntmps39, Try.results39, anWR639, dCnf, dProd, hlt, hp', b0, b0b, b1, b1g] at hc); done)))))) | (refine DW_ret ?_; simp [hnt, Try.ntmps39, Try.results39, anWR639, dCnf, dProd, hlt, hp', b0, b0b, b1, b1g]) | (refine DW_exit ?_; simp [hnt, Try.ntmps39, Try.results39, anWR639, dCnf, dProd, hlt, hp', b0, b0b, b1, b1g]) | (refine DW_skip ?_; simp [hnt, Try.ntmps39, Try.results39, anWR639, dCnf, dProd, hlt, hp', b0, b0b, b1, b1g]) | (intro hc; (try simp [hnt, Try.ntmps39, Try.results39, anWR639, dCnf, dProd, hlt, hp', b0, b0b, b1, b1g] at hc); done) | (intro hc; (try simp [hnt, Try.ntmps39, Try.results39, anWR639, dCnf, dProd, hlt, hp', b0, b0b, b1, b1g] at hc); (first | (exfalso; omega) | skip)) | (refine ⟨?_, ?_⟩; · omega) | omega | apply_assumption -exfalso -symm | (exfalso; omega)))
      refine DW_loop (X := {j : Nat // j ≤ bd.length}) (fun x => ⟨[(1, dStrs ns), (2, dStrs ls), (3, .ref [.int .i64 c.nts, dProds c.prods]), (8, .osl 8 1), (9, .int .i64 k), (10, .ref [.int .i64 hj, dSyms bd]), (11, .osl 58 1), (12, .int .i64 x.1)], [⟨8, 1, .row 116 2 40 (rowsD ns ls (c.prods.take k))⟩, ⟨58, 1, .row 112 3 32 (ndsD ns ls [⟨1, ⟨#[]⟩, 0⟩] (bd.take x.1))⟩]⟩) (fun x => bd.length - x.1) ⟨0, by simp⟩ (Sub.lit (by simp [ndsD, dNd])) ?_
      rintro ⟨j, hj2⟩
      simp only
      have hl2 := ndsD_len ns ls [⟨1, ⟨#[]⟩, 0⟩] hj2
      simp only [List.length_nil, List.length_singleton] at hl2
      by_cases hlj : j < bd.length
      · exact absurd hlj (by omega)
      · have hjj : bd.length = j := by omega
        have htk : bd.take j = bd := List.take_of_length_le (by omega)
        rw [htk] at hl2 ⊢
        refine DW_sub (Sub.freezeL [58] _) ?_
        simp [hnt, Try.ntmps39, Try.results39, anWR639]
        (repeat (first | (refine DW_seq fun K hK => ?_) | (refine DW_r anWR639 Try.mixed (by kernel_rfl) ?_; simp [hnt, Try.ntmps39, Try.results39, anWR639, dCnf, dProd, hlj, hjn, t1, t2, dStr, hl1, hl2]; try simp (disch := omega) only [wrap64_in]) | (refine DW_block ?_) | (focus (refine DW_if ?_ ?_ ?_; (· (simp [hnt, Try.ntmps39, Try.results39, anWR639, dCnf, dProd, hlj, hjn, t1, t2, dStr, hl1, hl2]; done)); (try (rotate_left; (· (intro hc; (try simp [hnt, Try.ntmps39, Try.results39, anWR639, dCnf, dProd, hlj, hjn, t1, t2, dStr, hl1, hl2] at hc); done)))))) | (refine DW_ret ?_; simp [hnt, Try.ntmps39, Try.results39, anWR639, dCnf, dProd, hlj, hjn, t1, t2, dStr, hl1, hl2]) | (refine DW_exit ?_; simp [hnt, Try.ntmps39, Try.results39, anWR639, dCnf, dProd, hlj, hjn, t1, t2, dStr, hl1, hl2]) | (refine DW_skip ?_; simp [hnt, Try.ntmps39, Try.results39, anWR639, dCnf, dProd, hlj, hjn, t1, t2, dStr, hl1, hl2]) | (intro hc; (try simp [hnt, Try.ntmps39, Try.results39, anWR639, dCnf, dProd, hlj, hjn, t1, t2, dStr, hl1, hl2] at hc); done) | (intro hc; (try simp [hnt, Try.ntmps39, Try.results39, anWR639, dCnf, dProd, hlj, hjn, t1, t2, dStr, hl1, hl2] at hc); (first | (exfalso; omega) | skip)) | (refine ⟨?_, ?_⟩; · omega) | omega | apply_assumption -exfalso -symm | (exfalso; omega)))
        refine Again.mk ⟨k + 1, by omega⟩ (Sub.lit (by simp [hnx])) (by simp; omega)
        (repeat (first | (refine DW_seq fun K hK => ?_) | (refine DW_r anWR639 Try.mixed (by kernel_rfl) ?_; simp [hnt, Try.ntmps39, Try.results39, anWR639]; try simp (disch := omega) only [wrap64_in]) | (refine DW_block ?_) | (focus (refine DW_if ?_ ?_ ?_; (· (simp [hnt, Try.ntmps39, Try.results39, anWR639]; done)); (try (rotate_left; (· (intro hc; (try simp [hnt, Try.ntmps39, Try.results39, anWR639] at hc); done)))))) | (refine DW_ret ?_; simp [hnt, Try.ntmps39, Try.results39, anWR639]) | (refine DW_exit ?_; simp [hnt, Try.ntmps39, Try.results39, anWR639]) | (refine DW_skip ?_; simp [hnt, Try.ntmps39, Try.results39, anWR639]) | (intro hc; (try simp [hnt, Try.ntmps39, Try.results39, anWR639] at hc); done) | (intro hc; (try simp [hnt, Try.ntmps39, Try.results39, anWR639] at hc); (first | (exfalso; omega) | skip)) | (refine ⟨?_, ?_⟩; · omega) | omega | apply_assumption -exfalso -symm | (exfalso; omega)))
    rw [if_neg b0] at hpre
    have b0b : ((bd.length : Int) == 0) = false := by simpa using b0
    by_cases b1 : bd.length = 1
    · rw [if_pos b1] at hpre
      rw [hpre] at hnx
      have b1g : ¬ (1 : Int) < bd.length := by omega
      (repeat (first | (refine DW_seq fun K hK => ?_) | (refine DW_r anWR639 Try.mixed (by kernel_rfl) ?_; simp [hnt, Try.ntmps39, Try.results39, anWR639, dCnf, dProd, hlt, hp', b0, b0b, b1, b1g]; try simp (disch := omega) only [wrap64_in]) | (refine DW_block ?_) | (focus (refine DW_if ?_ ?_ ?_; (· (simp [hnt, Try.ntmps39, Try.results39, anWR639, dCnf, dProd, hlt, hp', b0, b0b, b1, b1g]; done)); (try (rotate_left; (· (intro hc; (try simp [hnt, Try.ntmps39, Try.results39, anWR639, dCnf, dProd, hlt, hp', b0, b0b, b1, b1g] at hc); done)))))) | (refine DW_ret ?_; simp [hnt, Try.ntmps39, Try.results39, anWR639, dCnf, dProd, hlt, hp', b0, b0b, b1, b1g]) | (refine DW_exit ?_; simp [hnt, Try.ntmps39, Try.results39, anWR639, dCnf, dProd, hlt, hp', b0, b0b, b1, b1g]) | (refine DW_skip ?_; simp [hnt, Try.ntmps39, Try.results39, anWR639, dCnf, dProd, hlt, hp', b0, b0b, b1, b1g]) | (intro hc; (try simp [hnt, Try.ntmps39, Try.results39, anWR639, dCnf, dProd, hlt, hp', b0, b0b, b1, b1g] at hc); done) | (intro hc; (try simp [hnt, Try.ntmps39, Try.results39, anWR639, dCnf, dProd, hlt, hp', b0, b0b, b1, b1g] at hc); (first | (exfalso; omega) | skip)) | (refine ⟨?_, ?_⟩; · omega) | omega | apply_assumption -exfalso -symm | (exfalso; omega)))
      refine DW_adoptS 11 11 112 3 32 (by simp [hnt, Try.ntmps39]) (fun n11 => ?_)
      refine DW_loop (X := {j : Nat // j ≤ bd.length}) (fun x => ⟨[(1, dStrs ns), (2, dStrs ls), (3, .ref [.int .i64 c.nts, dProds c.prods]), (8, .osl 8 1), (9, .int .i64 k), (10, .ref [.int .i64 hj, dSyms bd]), (11, .osl 11 1), (12, .int .i64 x.1)], [⟨8, 1, .row 116 2 40 (rowsD ns ls (c.prods.take k))⟩, ⟨11, 1, .row 112 3 32 (ndsD ns ls [] (bd.take x.1))⟩]⟩) (fun x => bd.length - x.1) ⟨0, by simp⟩ (Sub.lit (by simp [ndsD, dNd])) ?_
      rintro ⟨j, hj2⟩
      simp only
      have hl2 := ndsD_len ns ls [] hj2
      simp only [List.length_nil, List.length_singleton] at hl2
      by_cases hlj : j < bd.length
      · obtain ⟨s, hs1, hs', hsm⟩ := at_lt' hlj
        obtain ⟨lb, sn⟩ := s
        have hz1 := (hs _ hsm).1
        have hz2 := hlab _ hsm
        have hz3 := hnt2 _ hsm
        have hn1 := ndsD_next ns ls [] hs1
        simp only at hz1 hz2 hz3
        obtain ⟨q, rfl⟩ := Int.eq_ofNat_of_zero_le hz1
        cases lb
        · have hq : q < ns.length := by have := hz3 rfl; omega
          obtain ⟨g1, g2⟩ := txtAt_lt hq
          simp only [ndOf, Bool.false_eq_true, if_false] at hn1
          (repeat (first | (refine DW_seq fun K hK => ?_) | (refine DW_r anWR639 Try.mixed (by kernel_rfl) ?_; simp [hnt, Try.ntmps39, Try.results39, anWR639, dCnf, dProd, dSym, hlj, hs', hl2, hq, g1, g2, dStr]; try simp (disch := omega) only [wrap64_in]) | (refine DW_block ?_) | (focus (refine DW_if ?_ ?_ ?_; (· (simp [hnt, Try.ntmps39, Try.results39, anWR639, dCnf, dProd, dSym, hlj, hs', hl2, hq, g1, g2, dStr]; done)); (try (rotate_left; (· (intro hc; (try simp [hnt, Try.ntmps39, Try.results39, anWR639, dCnf, dProd, dSym, hlj, hs', hl2, hq, g1, g2, dStr] at hc); done)))))) | (refine DW_ret ?_; simp [hnt, Try.ntmps39, Try.results39, anWR639, dCnf, dProd, dSym, hlj, hs', hl2, hq, g1, g2, dStr]) | (refine DW_exit ?_; simp [hnt, Try.ntmps39, Try.results39, anWR639, dCnf, dProd, dSym, hlj, hs', hl2, hq, g1, g2, dStr]) | (refine DW_skip ?_; simp [hnt, Try.ntmps39, Try.results39, anWR639, dCnf, dProd, dSym, hlj, hs', hl2, hq, g1, g2, dStr]) | (intro hc; (try simp [hnt, Try.ntmps39, Try.results39, anWR639, dCnf, dProd, dSym, hlj, hs', hl2, hq, g1, g2, dStr] at hc); done) | (intro hc; (try simp [hnt, Try.ntmps39, Try.results39, anWR639, dCnf, dProd, dSym, hlj, hs', hl2, hq, g1, g2, dStr] at hc); (first | (exfalso; omega) | skip)) | (refine ⟨?_, ?_⟩; · omega) | omega | apply_assumption -exfalso -symm | (exfalso; omega)))
          refine Again.mk ⟨j + 1, by omega⟩ (Sub.lit (by simp [hn1])) (by simp; omega)
          (repeat (first | (refine DW_seq fun K hK => ?_) | (refine DW_r anWR639 Try.mixed (by kernel_rfl) ?_; simp [hnt, Try.ntmps39, Try.results39, anWR639]; try simp (disch := omega) only [wrap64_in]) | (refine DW_block ?_) | (focus (refine DW_if ?_ ?_ ?_; (· (simp [hnt, Try.ntmps39, Try.results39, anWR639]; done)); (try (rotate_left; (· (intro hc; (try simp [hnt, Try.ntmps39, Try.results39, anWR639] at hc); done)))))) | (refine DW_ret ?_; simp [hnt, Try.ntmps39, Try.results39, anWR639]) | (refine DW_exit ?_; simp [hnt, Try.ntmps39, Try.results39, anWR639]) | (refine DW_skip ?_; simp [hnt, Try.ntmps39, Try.results39, anWR639]) | (intro hc; (try simp [hnt, Try.ntmps39, Try.results39, anWR639] at hc); done) | (intro hc; (try simp [hnt, Try.ntmps39, Try.results39, anWR639] at hc); (first | (exfalso; omega) | skip)) | (refine ⟨?_, ?_⟩; · omega) | omega | apply_assumption -exfalso -symm | (exfalso; omega)))
        · have hq : q < ls.length := by have := hz2 rfl; omega
          obtain ⟨g1, g2⟩ := txtAt_lt hq
          simp only [ndOf, if_true] at hn1
          (repeat (first | (refine DW_seq fun K hK => ?_) | (refine DW_r anWR639 Try.mixed (by kernel_rfl) ?_; simp [hnt, Try.ntmps39, Try.results39, anWR639, dCnf, dProd, dSym, hlj, hs', hl2, hq, g1, g2, dStr]; try simp (disch := omega) only [wrap64_in]) | (refine DW_block ?_) | (focus (refine DW_if ?_ ?_ ?_; (· (simp [hnt, Try.ntmps39, Try.results39, anWR639, dCnf, dProd, dSym, hlj, hs', hl2, hq, g1, g2, dStr]; done)); (try (rotate_left; (· (intro hc; (try simp [hnt, Try.ntmps39, Try.results39, anWR639, dCnf, dProd, dSym, hlj, hs', hl2, hq, g1, g2, dStr] at hc); done)))))) | (refine DW_ret ?_; simp [hnt, Try.ntmps39, Try.results39, anWR639, dCnf, dProd, dSym, hlj, hs', hl2, hq, g1, g2, dStr]) | (refine DW_exit ?_; simp [hnt, Try.ntmps39, Try.results39, anWR639, dCnf, dProd, dSym, hlj, hs', hl2, hq, g1, g2, dStr]) | (refine DW_skip ?_; simp [hnt, Try.ntmps39, Try.results39, anWR639, dCnf, dProd, dSym, hlj, hs', hl2, hq, g1, g2, dStr]) | (intro hc; (try simp [hnt, Try.ntmps39, Try.results39, anWR639, dCnf, dProd, dSym, hlj, hs', hl2, hq, g1, g2, dStr] at hc); done) | (intro hc; (try simp [hnt, Try.ntmps39, Try.results39, anWR639, dCnf, dProd, dSym, hlj, hs', hl2, hq, g1, g2, dStr] at hc); (first | (exfalso; omega) | skip)) | (refine ⟨?_, ?_⟩; · omega) | omega | apply_assumption -exfalso -symm | (exfalso; omega)))
          refine Again.mk ⟨j + 1, by omega⟩ (Sub.lit (by simp [hn1])) (by simp; omega)
          (repeat (first | (refine DW_seq fun K hK => ?_) | (refine DW_r anWR639 Try.mixed (by kernel_rfl) ?_; simp [hnt, Try.ntmps39, Try.results39, anWR639]; try simp (disch := omega) only [wrap64_in]) | (refine DW_block ?_) | (focus (refine DW_if ?_ ?_ ?_; (· (simp [hnt, Try.ntmps39, Try.results39, anWR639]; done)); (try (rotate_left; (· (intro hc; (try simp [hnt, Try.ntmps39, Try.results39, anWR639] at hc); done)))))) | (refine DW_ret ?_; simp [hnt, Try.ntmps39, Try.results39, anWR639]) | (refine DW_exit ?_; simp [hnt, Try.ntmps39, Try.results39, anWR639]) | (refine DW_skip ?_; simp [hnt, Try.ntmps39, Try.results39, anWR639]) | (intro hc; (try simp [hnt, Try.ntmps39, Try.results39, anWR639] at hc); done) | (intro hc; (try simp [hnt, Try.ntmps39, Try.results39, anWR639] at hc); (first | (exfalso; omega) | skip)) | (refine ⟨?_, ?_⟩; · omega) | omega | apply_assumption -exfalso -symm | (exfalso; omega)))
      · have hjj : bd.length = j := by omega
        have htk : bd.take j = bd := List.take_of_length_le (by omega)
        rw [htk] at hl2 ⊢
        refine DW_sub (Sub.freezeL [11] _) ?_
        simp [hnt, Try.ntmps39, Try.results39, anWR639]
        (repeat (first | (refine DW_seq fun K hK => ?_) | (refine DW_r anWR639 Try.mixed (by kernel_rfl) ?_; simp [hnt, Try.ntmps39, Try.results39, anWR639, dCnf, dProd, hlj, hjn, t1, t2, dStr, hl1, hl2]; try simp (disch := omega) only [wrap64_in]) | (refine DW_block ?_) | (focus (refine DW_if ?_ ?_ ?_; (· (simp [hnt, Try.ntmps39, Try.results39, anWR639, dCnf, dProd, hlj, hjn, t1, t2, dStr, hl1, hl2]; done)); (try (rotate_left; (· (intro hc; (try simp [hnt, Try.ntmps39, Try.results39, anWR639, dCnf, dProd, hlj, hjn, t1, t2, dStr, hl1, hl2] at hc); done)))))) | (refine DW_ret ?_; simp [hnt, Try.ntmps39, Try.results39, anWR639, dCnf, dProd, hlj, hjn, t1, t2, dStr, hl1, hl2]) | (refine DW_exit ?_; simp [hnt, Try.ntmps39, Try.results39, anWR639, dCnf, dProd, hlj, hjn, t1, t2, dStr, hl1, hl2]) | (refine DW_skip ?_; simp [hnt, Try.ntmps39, Try.results39, anWR639, dCnf, dProd, hlj, hjn, t1, t2, dStr, hl1, hl2]) | (intro hc; (try simp [hnt, Try.ntmps39, Try.results39, anWR639, dCnf, dProd, hlj, hjn, t1, t2, dStr, hl1, hl2] at hc); done) | (intro hc; (try simp [hnt, Try.ntmps39, Try.results39, anWR639, dCnf, dProd, hlj, hjn, t1, t2, dStr, hl1, hl2] at hc); (first | (exfalso; omega) | skip)) | (refine ⟨?_, ?_⟩; · omega) | omega | apply_assumption -exfalso -symm | (exfalso; omega)))
        refine Again.mk ⟨k + 1, by omega⟩ (Sub.lit (by simp [hnx])) (by simp; omega)
        (repeat (first | (refine DW_seq fun K hK => ?_) | (refine DW_r anWR639 Try.mixed (by kernel_rfl) ?_; simp [hnt, Try.ntmps39, Try.results39, anWR639]; try simp (disch := omega) only [wrap64_in]) | (refine DW_block ?_) | (focus (refine DW_if ?_ ?_ ?_; (· (simp [hnt, Try.ntmps39, Try.results39, anWR639]; done)); (try (rotate_left; (· (intro hc; (try simp [hnt, Try.ntmps39, Try.results39, anWR639] at hc); done)))))) | (refine DW_ret ?_; simp [hnt, Try.ntmps39, Try.results39, anWR639]) | (refine DW_exit ?_; simp [hnt, Try.ntmps39, Try.results39, anWR639]) | (refine DW_skip ?_; simp [hnt, Try.ntmps39, Try.results39, anWR639]) | (intro hc; (try simp [hnt, Try.ntmps39, Try.results39, anWR639] at hc); done) | (intro hc; (try simp [hnt, Try.ntmps39, Try.results39, anWR639] at hc); (first | (exfalso; omega) | skip)) | (refine ⟨?_, ?_⟩; · omega) | omega | apply_assumption -exfalso -symm | (exfalso; omega)))
    · rw [if_neg b1] at hpre
      rw [hpre] at hnx
      have b1g : (1 : Int) < bd.length := by omega
      (repeat (first | (refine DW_seq fun K hK => ?_) | (refine DW_r anWR639 Try.mixed (by kernel_rfl) ?_; simp [hnt, Try.ntmps39, Try.results39, anWR639, dCnf, dProd, hlt, hp', b0, b0b, b1, b1g]; try simp (disch := omega) only [wrap64_in]) | (refine DW_block ?_) | (focus (refine DW_if ?_ ?_ ?_; (· (simp [hnt, Try.ntmps39, Try.results39, anWR639, dCnf, dProd, hlt, hp', b0, b0b, b1, b1g]; done)); (try (rotate_left; (· (intro hc; (try simp [hnt, Try.ntmps39, Try.results39, anWR639, dCnf, dProd, hlt, hp', b0, b0b, b1, b1g] at hc); done)))))) | (refine DW_ret ?_; simp [hnt, Try.ntmps39, Try.results39, anWR639, dCnf, dProd, hlt, hp', b0, b0b, b1, b1g]) | (refine DW_exit ?_; simp [hnt, Try.ntmps39, Try.results39, anWR639, dCnf, dProd, hlt, hp', b0, b0b, b1, b1g]) | (refine DW_skip ?_; simp [hnt, Try.ntmps39, Try.results39, anWR639, dCnf, dProd, hlt, hp', b0, b0b, b1, b1g]) | (intro hc; (try simp [hnt, Try.ntmps39, Try.results39, anWR639, dCnf, dProd, hlt, hp', b0, b0b, b1, b1g] at hc); done) | (intro hc; (try simp [hnt, Try.ntmps39, Try.results39, anWR639, dCnf, dProd, hlt, hp', b0, b0b, b1, b1g] at hc); (first | (exfalso; omega) | skip)) | (refine ⟨?_, ?_⟩; · omega) | omega | apply_assumption -exfalso -symm | (exfalso; omega)))
      refine DW_loop (X := {j : Nat // j ≤ bd.length}) (fun x => ⟨[(1, dStrs ns), (2, dStrs ls), (3, .ref [.int .i64 c.nts, dProds c.prods]), (8, .osl 8 1), (9, .int .i64 k), (10, .ref [.int .i64 hj, dSyms bd]), (11, .osl 69 1), (12, .int .i64 x.1)], [⟨8, 1, .row 116 2 40 (rowsD ns ls (c.prods.take k))⟩, ⟨69, 1, .row 112 3 32 (ndsD ns ls [⟨4, ⟨#[]⟩, bd.length⟩] (bd.take x.1))⟩]⟩) (fun x => bd.length - x.1) ⟨0, by simp⟩ (Sub.lit (by simp [ndsD, dNd])) ?_
      rintro ⟨j, hj2⟩
      simp only
      have hl2 := ndsD_len ns ls [⟨4, ⟨#[]⟩, bd.length⟩] hj2
      simp only [List.length_nil, List.length_singleton] at hl2
      by_cases hlj : j < bd.length
      · obtain ⟨s, hs1, hs', hsm⟩ := at_lt' hlj
        obtain ⟨lb, sn⟩ := s
        have hz1 := (hs _ hsm).1
        have hz2 := hlab _ hsm
        have hz3 := hnt2 _ hsm
        have hn1 := ndsD_next ns ls [⟨4, ⟨#[]⟩, bd.length⟩] hs1
        simp only at hz1 hz2 hz3
        obtain ⟨q, rfl⟩ := Int.eq_ofNat_of_zero_le hz1
        cases lb
        · have hq : q < ns.length := by have := hz3 rfl; omega
          obtain ⟨g1, g2⟩ := txtAt_lt hq
          simp only [ndOf, Bool.false_eq_true, if_false] at hn1
          (repeat (first | (refine DW_seq fun K hK => ?_) | (refine DW_r anWR639 Try.mixed (by kernel_rfl) ?_; simp [hnt, Try.ntmps39, Try.results39, anWR639, dCnf, dProd, dSym, hlj, hs', hl2, hq, g1, g2, dStr]; try simp (disch := omega) only [wrap64_in]) | (refine DW_block ?_) | (focus (refine DW_if ?_ ?_ ?_; (· (simp [hnt, Try.ntmps39, Try.results39, anWR639, dCnf, dProd, dSym, hlj, hs', hl2, hq, g1, g2, dStr]; done)); (try (rotate_left; (· (intro hc; (try simp [hnt, Try.ntmps39, Try.results39, anWR639, dCnf, dProd, dSym, hlj, hs', hl2, hq, g1, g2, dStr] at hc); done)))))) | (refine DW_ret ?_; simp [hnt, Try.ntmps39, Try.results39, anWR639, dCnf, dProd, dSym, hlj, hs', hl2, hq, g1, g2, dStr]) | (refine DW_exit ?_; simp [hnt, Try.ntmps39, Try.results39, anWR639, dCnf, dProd, dSym, hlj, hs', hl2, hq, g1, g2, dStr]) | (refine DW_skip ?_; simp [hnt, Try.ntmps39, Try.results39, anWR639, dCnf, dProd, dSym, hlj, hs', hl2, hq, g1, g2, dStr]) | (intro hc; (try simp [hnt, Try.ntmps39, Try.results39, anWR639, dCnf, dProd, dSym, hlj, hs', hl2, hq, g1, g2, dStr] at hc); done) | (intro hc; (try simp [hnt, Try.ntmps39, Try.results39, anWR639, dCnf, dProd, dSym, hlj, hs', hl2, hq, g1, g2, dStr] at hc); (first | (exfalso; omega) | skip)) | (refine ⟨?_, ?_⟩; · omega) | omega | apply_assumption -exfalso -symm | (exfalso; omega)))
          refine Again.mk ⟨j + 1, by omega⟩ (Sub.lit (by simp [hn1])) (by simp; omega)
          (repeat (first | (refine DW_seq fun K hK => ?_) | (refine DW_r anWR639 Try.mixed (by kernel_rfl) ?_; simp [hnt, Try.ntmps39, Try.results39, anWR639]; try simp (disch := omega) only [wrap64_in]) | (refine DW_block ?_) | (focus (refine DW_if ?_ ?_ ?_; (· (simp [hnt, Try.ntmps39, Try.results39, anWR639]; done)); (try (rotate_left; (· (intro hc; (try simp [hnt, Try.ntmps39, Try.results39, anWR639] at hc); done)))))) | (refine DW_ret ?_; simp [hnt, Try.ntmps39, Try.results39, anWR639]) | (refine DW_exit ?_; simp [hnt, Try.ntmps39, Try.results39, anWR639]) | (refine DW_skip ?_; simp [hnt, Try.ntmps39, Try.results39, anWR639]) | (intro hc; (try simp [hnt, Try.ntmps39, Try.results39, anWR639] at hc); done) | (intro hc; (try simp [hnt, Try.ntmps39, Try.results39, anWR639] at hc); (first | (exfalso; omega) | skip)) | (refine ⟨?_, ?_⟩; · omega) | omega | apply_assumption -exfalso -symm | (exfalso; omega)))
        · have hq : q < ls.length := by have := hz2 rfl; omega
          obtain ⟨g1, g2⟩ := txtAt_lt hq
          simp only [ndOf, if_true] at hn1
          (repeat (first | (refine DW_seq fun K hK => ?_) | (refine DW_r anWR639 Try.mixed (by kernel_rfl) ?_; simp [hnt, Try.ntmps39, Try.results39, anWR639, dCnf, dProd, dSym, hlj, hs', hl2, hq, g1, g2, dStr]; try simp (disch := omega) only [wrap64_in]) | (refine DW_block ?_) | (focus (refine DW_if ?_ ?_ ?_; (· (simp [hnt, Try.ntmps39, Try.results39, anWR639, dCnf, dProd, dSym, hlj, hs', hl2, hq, g1, g2, dStr]; done)); (try (rotate_left; (· (intro hc; (try simp [hnt, Try.ntmps39, Try.results39, anWR639, dCnf, dProd, dSym, hlj, hs', hl2, hq, g1, g2, dStr] at hc); done)))))) | (refine DW_ret ?_; simp [hnt, Try.ntmps39, Try.results39, anWR639, dCnf, dProd, dSym, hlj, hs', hl2, hq, g1, g2, dStr]) | (refine DW_exit ?_; simp [hnt, Try.ntmps39, Try.results39, anWR639, dCnf, dProd, dSym, hlj, hs', hl2, hq, g1, g2, dStr]) | (refine DW_skip ?_; simp [hnt, Try.ntmps39, Try.results39, anWR639, dCnf, dProd, dSym, hlj, hs', hl2, hq, g1, g2, dStr]) | (intro hc; (try simp [hnt, Try.ntmps39, Try.results39, anWR639, dCnf, dProd, dSym, hlj, hs', hl2, hq, g1, g2, dStr] at hc); done) | (intro hc; (try simp [hnt, Try.ntmps39, Try.results39, anWR639, dCnf, dProd, dSym, hlj, hs', hl2, hq, g1, g2, dStr] at hc); (first | (exfalso; omega) | skip)) | (refine ⟨?_, ?_⟩; · omega) | omega | apply_assumption -exfalso -symm | (exfalso; omega)))
          refine Again.mk ⟨j + 1, by omega⟩ (Sub.lit (by simp [hn1])) (by simp; omega)
          (repeat (first | (refine DW_seq fun K hK => ?_) | (refine DW_r anWR639 Try.mixed (by kernel_rfl) ?_; simp [hnt, Try.ntmps39, Try.results39, anWR639]; try simp (disch := omega) only [wrap64_in]) | (refine DW_block ?_) | (focus (refine DW_if ?_ ?_ ?_; (· (simp [hnt, Try.ntmps39, Try.results39, anWR639]; done)); (try (rotate_left; (· (intro hc; (try simp [hnt, Try.ntmps39, Try.results39, anWR639] at hc); done)))))) | (refine DW_ret ?_; simp [hnt, Try.ntmps39, Try.results39, anWR639]) | (refine DW_exit ?_; simp [hnt, Try.ntmps39, Try.results39, anWR639]) | (refine DW_skip ?_; simp [hnt, Try.ntmps39, Try.results39, anWR639]) | (intro hc; (try simp [hnt, Try.ntmps39, Try.results39, anWR639] at hc); done) | (intro hc; (try simp [hnt, Try.ntmps39, Try.results39, anWR639] at hc); (first | (exfalso; omega) | skip)) | (refine ⟨?_, ?_⟩; · omega) | omega | apply_assumption -exfalso -symm | (exfalso; omega)))
      · have hjj : bd.length = j := by omega
        have htk : bd.take j = bd := List.take_of_length_le (by omega)
        rw [htk] at hl2 ⊢
        refine DW_sub (Sub.freezeL [69] _) ?_
        simp [hnt, Try.ntmps39, Try.results39, anWR639]
        (repeat (first | (refine DW_seq fun K hK => ?_) | (refine DW_r anWR639 Try.mixed (by kernel_rfl) ?_; simp [hnt, Try.ntmps39, Try.results39, anWR639, dCnf, dProd, hlj, hjn, t1, t2, dStr, hl1, hl2]; try simp (disch := omega) only [wrap64_in]) | (refine DW_block ?_) | (focus (refine DW_if ?_ ?_ ?_; (· (simp [hnt, Try.ntmps39, Try.results39, anWR639, dCnf, dProd, hlj, hjn, t1, t2, dStr, hl1, hl2]; done)); (try (rotate_left; (· (intro hc; (try simp [hnt, Try.ntmps39, Try.results39, anWR639, dCnf, dProd, hlj, hjn, t1, t2, dStr, hl1, hl2] at hc); done)))))) | (refine DW_ret ?_; simp [hnt, Try.ntmps39, Try.results39, anWR639, dCnf, dProd, hlj, hjn, t1, t2, dStr, hl1, hl2]) | (refine DW_exit ?_; simp [hnt, Try.ntmps39, Try.results39, anWR639, dCnf, dProd, hlj, hjn, t1, t2, dStr, hl1, hl2]) | (refine DW_skip ?_; simp [hnt, Try.ntmps39, Try.results39, anWR639, dCnf, dProd, hlj, hjn, t1, t2, dStr, hl1, hl2]) | (intro hc; (try simp [hnt, Try.ntmps39, Try.results39, anWR639, dCnf, dProd, hlj, hjn, t1, t2, dStr, hl1, hl2] at hc); done) | (intro hc; (try simp [hnt, Try.ntmps39, Try.results39, anWR639, dCnf, dProd, hlj, hjn, t1, t2, dStr, hl1, hl2] at hc); (first | (exfalso; omega) | skip)) | (refine ⟨?_, ?_⟩; · omega) | omega | apply_assumption -exfalso -symm | (exfalso; omega)))
        refine Again.mk ⟨k + 1, by omega⟩ (Sub.lit (by simp [hnx])) (by simp; omega)
        (repeat (first | (refine DW_seq fun K hK => ?_) | (refine DW_r anWR639 Try.mixed (by kernel_rfl) ?_; simp [hnt, Try.ntmps39, Try.results39, anWR639]; try simp (disch := omega) only [wrap64_in]) | (refine DW_block ?_) | (focus (refine DW_if ?_ ?_ ?_; (· (simp [hnt, Try.ntmps39, Try.results39, anWR639]; done)); (try (rotate_left; (· (intro hc; (try simp [hnt, Try.ntmps39, Try.results39, anWR639] at hc); done)))))) | (refine DW_ret ?_; simp [hnt, Try.ntmps39, Try.results39, anWR639]) | (refine DW_exit ?_; simp [hnt, Try.ntmps39, Try.results39, anWR639]) | (refine DW_skip ?_; simp [hnt, Try.ntmps39, Try.results39, anWR639]) | (intro hc; (try simp [hnt, Try.ntmps39, Try.results39, anWR639] at hc); done) | (intro hc; (try simp [hnt, Try.ntmps39, Try.results39, anWR639] at hc); (first | (exfalso; omega) | skip)) | (refine ⟨?_, ?_⟩; · omega) | omega | apply_assumption -exfalso -symm | (exfalso; omega)))
  · have hkk : k = c.prods.length := by omega
    subst hkk
    rw [List.take_length]
    have hall := rowsD_all ns ls c.prods
    (repeat (first | (refine DW_seq fun K hK => ?_) | (refine DW_r anWR639 Try.mixed (by kernel_rfl) ?_; simp [hnt, Try.ntmps39, Try.results39, anWR639, hall]; try simp (disch := omega) only [wrap64_in]) | (refine DW_block ?_) | (focus (refine DW_if ?_ ?_ ?_; (· (simp [hnt, Try.ntmps39, Try.results39, anWR639, hall]; done)); (try (rotate_left; (· (intro hc; (try simp [hnt, Try.ntmps39, Try.results39, anWR639, hall] at hc); done)))))) | (refine DW_ret ?_; simp [hnt, Try.ntmps39, Try.results39, anWR639, hall]) | (refine DW_exit ?_; simp [hnt, Try.ntmps39, Try.results39, anWR639, hall]) | (refine DW_skip ?_; simp [hnt, Try.ntmps39, Try.results39, anWR639, hall]) | (intro hc; (try simp [hnt, Try.ntmps39, Try.results39, anWR639, hall] at hc); done) | (intro hc; (try simp [hnt, Try.ntmps39, Try.results39, anWR639, hall] at hc); (first | (exfalso; omega) | skip)) | (refine ⟨?_, ?_⟩; · omega) | omega | apply_assumption -exfalso -symm | (exfalso; omega)))
end Go.Proofs.Ytihkcegelghcpaa
end

section
/- A part of a proof: walks over the functions that it names; their contracts hold for every argument. -/

set_option linter.unusedSimpArgs false
set_option linter.unusedVariables false
namespace Go.Proofs.Ytihkcegelghcpaa
open Go Go.Dm
attribute [local irreducible] DW callP callS
def anW1414 : Ann := ⟨[], [⟨6, [23], [], []⟩]⟩
set_option maxRecDepth 100000 in
theorem copy_pure (c : Cnf) : DPure Try.prog 14 [.agg (dCnf c)] (.agg (dCnf c)) := by
  refine DPure_introF [35] (fn := Try.f14) Try.func14 rfl Try.call14 (by simp [Try.ntmps14]) (by simp [mx]) ?_
  intro hwf B hnt
  have hw : wCnf c := w_cnf (by simpa [wfL, wfD] using hwf.1)
  obtain ⟨hw1, hw2, hw3, hw4⟩ := hw
  clear hwf
  simp only [argS]
  (repeat (first | (refine DW_seq fun K hK => ?_) | (refine DW_r anW1414 Try.mixed (by kernel_rfl) ?_; simp [hnt, Try.ntmps14, Try.results14, anW1414, dCnf]; try simp (disch := omega) only [wrap64_in]) | (refine DW_block ?_) | (focus (refine DW_if ?_ ?_ ?_; (· (simp [hnt, Try.ntmps14, Try.results14, anW1414, dCnf]; done)); (try (rotate_left; (· (intro hc; (try simp [hnt, Try.ntmps14, Try.results14, anW1414, dCnf] at hc); done)))))) | (refine DW_ret ?_; simp [hnt, Try.ntmps14, Try.results14, anW1414, dCnf]) | (refine DW_exit ?_; simp [hnt, Try.ntmps14, Try.results14, anW1414, dCnf]) | (refine DW_skip ?_; simp [hnt, Try.ntmps14, Try.results14, anW1414, dCnf]) | (intro hc; (try simp [hnt, Try.ntmps14, Try.results14, anW1414, dCnf] at hc); done) | (intro hc; (try simp [hnt, Try.ntmps14, Try.results14, anW1414, dCnf] at hc); (first | (exfalso; omega) | skip)) | (refine ⟨?_, ?_⟩; · omega) | omega | apply_assumption -exfalso -symm | (exfalso; omega)))
  refine DW_adoptC 3 1 35 33 2 32 (by simp) (fun n => ?_)
  refine DW_loop (X := {k : Nat // k ≤ c.prods.length}) (fun k => ⟨[(1, .ref [.int .i64 c.nts, dProds c.prods]), (2, .bx 2 1 0), (3, .bx 3 1 0), (4, .int .i64 k.1)], [⟨3, 1, .box [.int .i64 c.nts, .osl 35 1]⟩, ⟨35, 1, .row 33 2 32 ((c.prods.take k.1).map dProd)⟩, ⟨2, 1, .box [.int .i64 0, .nilsl]⟩]⟩) (fun k => c.prods.length - k.1) ⟨0, by simp⟩ (Sub.lit (by simp)) ?_
  rintro ⟨k, hk⟩
  by_cases hlt : k < c.prods.length
  · obtain ⟨p, hp, hp', hpm⟩ := at_lt' hlt
    obtain ⟨hw5, hw6, hw7, hw8⟩ := hw4 p hpm
    have htk : (c.prods.map dProd).take (k + 1) = (c.prods.map dProd).take k ++ [dProd p] := by rw [List.take_add_one, List.getElem?_map, hp]; rfl
    (repeat (first | (refine DW_seq fun K hK => ?_) | (refine DW_r anW1414 Try.mixed (by kernel_rfl) ?_; simp [hnt, Try.ntmps14, Try.results14, anW1414, dCnf, dProd, hlt, hp']; try simp (disch := omega) only [wrap64_in]) | (refine DW_block ?_) | (focus (refine DW_if ?_ ?_ ?_; (· (simp [hnt, Try.ntmps14, Try.results14, anW1414, dCnf, dProd, hlt, hp']; done)); (try (rotate_left; (· (intro hc; (try simp [hnt, Try.ntmps14, Try.results14, anW1414, dCnf, dProd, hlt, hp'] at hc); done)))))) | (refine DW_ret ?_; simp [hnt, Try.ntmps14, Try.results14, anW1414, dCnf, dProd, hlt, hp']) | (refine DW_exit ?_; simp [hnt, Try.ntmps14, Try.results14, anW1414, dCnf, dProd, hlt, hp']) | (refine DW_skip ?_; simp [hnt, Try.ntmps14, Try.results14, anW1414, dCnf, dProd, hlt, hp']) | (intro hc; (try simp [hnt, Try.ntmps14, Try.results14, anW1414, dCnf, dProd, hlt, hp'] at hc); done) | (intro hc; (try simp [hnt, Try.ntmps14, Try.results14, anW1414, dCnf, dProd, hlt, hp'] at hc); (first | (exfalso; omega) | skip)) | (refine ⟨?_, ?_⟩; · omega) | omega | apply_assumption -exfalso -symm | (exfalso; omega)))
    refine Again.mk ⟨k + 1, by omega⟩ (Sub.lit ?_) (by simp; omega)
    · simp [htk, dProd]
    (repeat (first | (refine DW_seq fun K hK => ?_) | (refine DW_r anW1414 Try.mixed (by kernel_rfl) ?_; simp [hnt, Try.ntmps14, Try.results14, anW1414]; try simp (disch := omega) only [wrap64_in]) | (refine DW_block ?_) | (focus (refine DW_if ?_ ?_ ?_; (· (simp [hnt, Try.ntmps14, Try.results14, anW1414]; done)); (try (rotate_left; (· (intro hc; (try simp [hnt, Try.ntmps14, Try.results14, anW1414] at hc); done)))))) | (refine DW_ret ?_; simp [hnt, Try.ntmps14, Try.results14, anW1414]) | (refine DW_exit ?_; simp [hnt, Try.ntmps14, Try.results14, anW1414]) | (refine DW_skip ?_; simp [hnt, Try.ntmps14, Try.results14, anW1414]) | (intro hc; (try simp [hnt, Try.ntmps14, Try.results14, anW1414] at hc); done) | (intro hc; (try simp [hnt, Try.ntmps14, Try.results14, anW1414] at hc); (first | (exfalso; omega) | skip)) | (refine ⟨?_, ?_⟩; · omega) | omega | apply_assumption -exfalso -symm | (exfalso; omega)))
  · have hkk : k = c.prods.length := by omega
    subst hkk
    (repeat (first | (refine DW_seq fun K hK => ?_) | (refine DW_r anW1414 Try.mixed (by kernel_rfl) ?_; simp [hnt, Try.ntmps14, Try.results14, anW1414, dCnf]; try simp (disch := omega) only [wrap64_in]) | (refine DW_block ?_) | (focus (refine DW_if ?_ ?_ ?_; (· (simp [hnt, Try.ntmps14, Try.results14, anW1414, dCnf]; done)); (try (rotate_left; (· (intro hc; (try simp [hnt, Try.ntmps14, Try.results14, anW1414, dCnf] at hc); done)))))) | (refine DW_ret ?_; simp [hnt, Try.ntmps14, Try.results14, anW1414, dCnf]) | (refine DW_exit ?_; simp [hnt, Try.ntmps14, Try.results14, anW1414, dCnf]) | (refine DW_skip ?_; simp [hnt, Try.ntmps14, Try.results14, anW1414, dCnf]) | (intro hc; (try simp [hnt, Try.ntmps14, Try.results14, anW1414, dCnf] at hc); done) | (intro hc; (try simp [hnt, Try.ntmps14, Try.results14, anW1414, dCnf] at hc); (first | (exfalso; omega) | skip)) | (refine ⟨?_, ?_⟩; · omega) | omega | apply_assumption -exfalso -symm | (exfalso; omega)))
end Go.Proofs.Ytihkcegelghcpaa
end

section
/- A part of a proof: walks over the functions that it names; their contracts hold for every argument. -/

set_option linter.unusedSimpArgs false
set_option linter.unusedVariables false
namespace Go.Proofs.Ytihkcegelghcpaa
open Go Go.Dm
attribute [local irreducible] DW callP callS
set_option maxRecDepth 100000

def anW19115 : Ann := ⟨[], []⟩
theorem there_nil : DPure Try.prog 115 [.nilp] (.bool false) := by
  refine DPure_introF [] (fn := Try.f115) Try.func115 rfl Try.call115 (by simp [Try.ntmps115]) (by simp [mx]) ?_
  intro hwf B hnt
  simp only [argS]
  (repeat (first | (refine DW_seq fun K hK => ?_) | (refine DW_r anW19115 Try.mixed (by kernel_rfl) ?_; simp [hnt, Try.ntmps115, Try.results115, anW19115]; try simp (disch := omega) only [wrap64_in]) | (refine DW_block ?_) | (focus (refine DW_if ?_ ?_ ?_; (· (simp [hnt, Try.ntmps115, Try.results115, anW19115]; done)); (try (rotate_left; (· (intro hc; (try simp [hnt, Try.ntmps115, Try.results115, anW19115] at hc); done)))))) | (refine DW_ret ?_; simp [hnt, Try.ntmps115, Try.results115, anW19115]) | (refine DW_exit ?_; simp [hnt, Try.ntmps115, Try.results115, anW19115]) | (refine DW_skip ?_; simp [hnt, Try.ntmps115, Try.results115, anW19115]) | (intro hc; (try simp [hnt, Try.ntmps115, Try.results115, anW19115] at hc); done) | (intro hc; (try simp [hnt, Try.ntmps115, Try.results115, anW19115] at hc); (first | (exfalso; omega) | skip)) | (refine ⟨?_, ?_⟩; · omega) | omega | apply_assumption -exfalso -symm | (exfalso; omega)))
def anW1982 : Ann := ⟨[], []⟩
theorem states_nil : DPure Try.prog 82 [.nilp] (.int .i64 0) := by
  refine DPure_introF [] (fn := Try.f82) Try.func82 rfl Try.call82 (by simp [Try.ntmps82]) (by simp [mx]) ?_
  intro hwf B hnt
  simp only [argS]
  (repeat (first | (refine DW_seq fun K hK => ?_) | (refine DW_r anW1982 Try.mixed (by kernel_rfl) ?_; simp [hnt, Try.ntmps82, Try.results82, anW1982]; try simp (disch := omega) only [wrap64_in]) | (refine DW_block ?_) | (focus (refine DW_if ?_ ?_ ?_; (· (simp [hnt, Try.ntmps82, Try.results82, anW1982]; done)); (try (rotate_left; (· (intro hc; (try simp [hnt, Try.ntmps82, Try.results82, anW1982] at hc); done)))))) | (refine DW_ret ?_; simp [hnt, Try.ntmps82, Try.results82, anW1982]) | (refine DW_exit ?_; simp [hnt, Try.ntmps82, Try.results82, anW1982]) | (refine DW_skip ?_; simp [hnt, Try.ntmps82, Try.results82, anW1982]) | (intro hc; (try simp [hnt, Try.ntmps82, Try.results82, anW1982] at hc); done) | (intro hc; (try simp [hnt, Try.ntmps82, Try.results82, anW1982] at hc); (first | (exfalso; omega) | skip)) | (refine callP_mk (there_nil) ?_; try simp [hnt, Try.ntmps82, Try.results82, anW1982]) | (refine callP_wk (there_nil) ?_ ?_; (· (simp; done)); try simp [hnt, Try.ntmps82, Try.results82, anW1982]) | (refine ⟨?_, ?_⟩; · omega) | omega | apply_assumption -exfalso -symm | (exfalso; omega)))
def anW1946 : Ann := ⟨[], [⟨22, [12], [], []⟩]⟩
theorem cfgOf_nil : DPure Try.prog 46 [.nilp] (.tup [.agg [.int .i64 0, .nilsl], .int .i64 1]) := by
  refine DPure_introF [] (fn := Try.f46) Try.func46 rfl Try.call46 (by simp [Try.ntmps46]) (by simp [mx]) ?_
  intro hwf B hnt
  simp only [argS]
  (repeat (first | (refine DW_seq fun K hK => ?_) | (refine DW_r anW1946 Try.mixed (by kernel_rfl) ?_; simp [hnt, Try.ntmps46, Try.results46, anW1946]; try simp (disch := omega) only [wrap64_in]) | (refine DW_block ?_) | (focus (refine DW_if ?_ ?_ ?_; (· (simp [hnt, Try.ntmps46, Try.results46, anW1946]; done)); (try (rotate_left; (· (intro hc; (try simp [hnt, Try.ntmps46, Try.results46, anW1946] at hc); done)))))) | (refine DW_ret ?_; simp [hnt, Try.ntmps46, Try.results46, anW1946]) | (refine DW_exit ?_; simp [hnt, Try.ntmps46, Try.results46, anW1946]) | (refine DW_skip ?_; simp [hnt, Try.ntmps46, Try.results46, anW1946]) | (intro hc; (try simp [hnt, Try.ntmps46, Try.results46, anW1946] at hc); done) | (intro hc; (try simp [hnt, Try.ntmps46, Try.results46, anW1946] at hc); (first | (exfalso; omega) | skip)) | (refine callP_mk (states_nil) ?_; try simp [hnt, Try.ntmps46, Try.results46, anW1946]) | (refine callP_wk (states_nil) ?_ ?_; (· (simp; done)); try simp [hnt, Try.ntmps46, Try.results46, anW1946]) | (refine ⟨?_, ?_⟩; · omega) | omega | apply_assumption -exfalso -symm | (exfalso; omega)))
def anW1919 : Ann := ⟨[], [⟨1, [1], [], []⟩]⟩
theorem head12_pure : DPure Try.prog 19 [] (.bool true) := by
  refine DPure_introF [] (fn := Try.f19) Try.func19 rfl Try.call19 (by simp [Try.ntmps19]) (by simp [mx]) ?_
  intro hwf B hnt
  simp only [argS]
  have h1 := check_pure ⟨0, []⟩
  have h2 := check_pure ⟨1, []⟩
  simp [dCnf, cnfOK, dProds] at h1 h2
  (repeat (first | (refine DW_seq fun K hK => ?_) | (refine DW_r anW1919 Try.mixed (by kernel_rfl) ?_; simp [hnt, Try.ntmps19, Try.results19, anW1919]; try simp (disch := omega) only [wrap64_in]) | (refine DW_block ?_) | (focus (refine DW_if ?_ ?_ ?_; (· (simp [hnt, Try.ntmps19, Try.results19, anW1919]; done)); (try (rotate_left; (· (intro hc; (try simp [hnt, Try.ntmps19, Try.results19, anW1919] at hc); done)))))) | (refine DW_ret ?_; simp [hnt, Try.ntmps19, Try.results19, anW1919]) | (refine DW_exit ?_; simp [hnt, Try.ntmps19, Try.results19, anW1919]) | (refine DW_skip ?_; simp [hnt, Try.ntmps19, Try.results19, anW1919]) | (intro hc; (try simp [hnt, Try.ntmps19, Try.results19, anW1919] at hc); done) | (intro hc; (try simp [hnt, Try.ntmps19, Try.results19, anW1919] at hc); (first | (exfalso; omega) | skip)) | (refine callP_mk (cfgOf_nil) ?_; try simp [hnt, Try.ntmps19, Try.results19, anW1919]) | (refine callP_wk (cfgOf_nil) ?_ ?_; (· (simp; done)); try simp [hnt, Try.ntmps19, Try.results19, anW1919]) | (refine callP_mk (h1) ?_; try simp [hnt, Try.ntmps19, Try.results19, anW1919]) | (refine callP_wk (h1) ?_ ?_; (· (simp; done)); try simp [hnt, Try.ntmps19, Try.results19, anW1919]) | (refine callP_mk (h2) ?_; try simp [hnt, Try.ntmps19, Try.results19, anW1919]) | (refine callP_wk (h2) ?_ ?_; (· (simp; done)); try simp [hnt, Try.ntmps19, Try.results19, anW1919]) | (refine ⟨?_, ?_⟩; · omega) | omega | apply_assumption -exfalso -symm | (exfalso; omega)))
end Go.Proofs.Ytihkcegelghcpaa
end

