/- Parts of a proof, laid together: RS9, EnU, PB, PU, RS10, RS11. -/
import Derived.SizedLaws
import Derived.ProofKit
import Derived.OpenShut
import Derived.Carry
import Derived.Test.YtdgocjbakjamaaaGreatRows
import Derived.Test.YtdgocjbakjamaaaGreatqRs4
import Derived.Test.YtdgocjbakjamaaaGreatqRs5
import Derived.Test.YtdgocjbakjamaaaGreatqRs10
set_option linter.unusedSimpArgs false
set_option linter.unusedVariables false
set_option linter.unusedSectionVars false
section
namespace Go.Proofs.YtdgocjbakjamaaaGreat
open Go Go.Dm
attribute [local irreducible] DW callP callS
set_option maxRecDepth 100000
def anRS930 : Ann := ⟨[], [⟨5, [6], [], []⟩]⟩
set_option maxHeartbeats 1000000 in
theorem auto30_no (H L : List ByteArray) (xs : List Auto) (n : Int) (hn : n < 0 ∨ (xs.length : Int) ≤ n) : DPure Tryz.prog 30 [dMach H L xs, .int .i64 n] (.tup [autoZ, .int .i64 4]) := by
 refine DPure_introF [4] (fn := Tryz.f30) Tryz.func30 rfl Tryz.call30 (by simp [Tryz.ntmps30]) (by simp [mx, mxL]) ?_
 intro hwf B hnt
 simp only [Tryz.ntmps30] at hnt
 have hA := an_is anRS930 Tryz.mixed (aj2 @anRS930.eq_1 Tryz.results30)
 clear hwf
 have e1 := mthere94_pure H L xs
 have hpl := parA_len xs 0
 simp only [argS, dMach] at e1 ⊢
 obtain ⟨P, hP⟩ : ∃ P, P = parA 0 xs := ⟨_, rfl⟩
 rw [← hP] at e1 hpl ⊢
 clear hP
 by_cases h0 : n < 0
 ·exact go0 (aj1 e1) aj0 (aj1 h0)
 ·have h2 : (P.length : Int) ≤ n := by omega
  exact go0 (aj1 e1) aj0 (aj2 h0 h2)
def anRS930b2 : Ann := ⟨[37, 40], [⟨5, [6], [], []⟩, ⟨6, [], [], [0, 1, 5, 6]⟩]⟩
set_option maxHeartbeats 2000000 in
theorem auto30_ok (H L : List ByteArray) (xs : List Auto) (k : Nat) (a : Auto) (f : Nat) (hs : SmA a) (hk : (parA 0 xs)[k]? = some (a, f)) : DPure Tryz.prog 30 [dMach H L xs, .int .i64 k] (.tup [.agg (dAuto a), .int .i64 0]) := by
 refine DPure_introF [37, 40, 4] (fn := Tryz.f30) Tryz.func30 rfl Tryz.call30 (by simp [Tryz.ntmps30]) (by simp [mx, mxL]) ?_
 intro hwf B hnt
 simp only [Tryz.ntmps30] at hnt
 have hA := an_is anRS930b2 Tryz.mixed (aj2 @anRS930b2.eq_1 Tryz.results30)
 clear hwf
 have e1 := mthere94_pure H L xs
 simp only [argS, dMach] at e1 ⊢
 obtain ⟨P, hP⟩ : ∃ P, P = parA 0 xs := ⟨_, rfl⟩
 rw [← hP] at e1 hk ⊢
 clear hP
 have hlt := (List.getElem?_eq_some_iff.1 hk).1
 have hk' : P[k]'hlt = (a, f) := (List.getElem?_eq_some_iff.1 hk).2
 have h0 : ¬ (k : Int) < 0 := by omega
 have h2 : ¬ (P.length : Int) ≤ (k : Int) := by omega
 have hfi := hs.fi
 have har := hs.ar
 have e2 := cloneI_spec a.fin (by omega)
 have e3 := cloneA_spec a.arcs (by omega)
 (repeat (first | refine DW_seq fun K hK => ?_ | (refine DW_r anRS930b2 Tryz.mixed (by kernel_rfl) ?_; simp [anRS930b2, hnt, dPt, dAuto, h0, h2, hlt, hk, hk']; try simp (disch := omega) only [wrap64_in]) | refine DW_block ?_ | (refine DW_if ?_ ?_ ?_; (· (simp [hnt, dPt, dAuto, h0, h2, hlt, hk, hk']; done)); (try (rotate_left; (· (intro hc; (try simp [hnt, dPt, dAuto, h0, h2, hlt, hk, hk'] at hc); done))))) | (refine DW_ret ?_; simp [Tryz.results30, hnt, dPt, dAuto, h0, h2, hlt, hk, hk']) | ((first | refine DW_exit ?_ | refine DW_skip ?_); simp [hnt, dPt, dAuto, h0, h2, hlt, hk, hk']) | (intro hc; (try simp [hnt, dPt, dAuto, h0, h2, hlt, hk, hk'] at hc); (try (exfalso; omega))) | ((first | refine callP_mk (e1) ?_ | (refine callP_wk (e1) ?_ ?_; (· (simp; done)))); try simp [hnt, dPt, dAuto, h0, h2, hlt, hk, hk']) | (refine callS_mk [] [(37,0)] (e2) ?_ ?_; (· (simp [hnt, dPt, dAuto, h0, h2, hlt, hk, hk']; done)); (intro _; try simp [hnt, dPt, dAuto, h0, h2, hlt, hk, hk'])) | (refine callS_mk [] [(40,0)] (e3) ?_ ?_; (· (simp [hnt, dPt, dAuto, h0, h2, hlt, hk, hk']; done)); (intro _; try simp [hnt, dPt, dAuto, h0, h2, hlt, hk, hk'])) | (refine ⟨?_, ?_⟩; · omega) | omega | apply_assumption -exfalso -symm | (exfalso; omega)))
theorem parA_at : ∀ {xs : List Auto} {f k : Nat} {a : Auto}, xs[k]? = some a → ∃ g, (parA f xs)[k]? = some (a, g)
 | [], _, _, _, h => by simp at h
 | b :: xs, f, 0, a, h => by simp at h; subst h; exact ⟨f, rfl⟩
 | b :: xs, f, k + 1, a, h => parA_at (xs := xs) (f := f + b.st.toNat) (k := k) (by simpa using h)
def anRS97 : Ann := ⟨[], [⟨4, [7], [], []⟩, ⟨5, [8], [], []⟩]⟩
set_option maxHeartbeats 4000000 in
theorem rsmAsks_pure (g : List Rul) (n : Int) (hs : SmlG g) (hl : g.length * 40 ≤ 140737488355328) : DPure Tryz.prog 7 [dRuls g, .int .i64 n] (.bool true) := by
 obtain ⟨c, p1, p2, p3⟩ := g_may g hs
 by_cases hc : c = 0
 ·obtain ⟨gt, rfl, h⟩ := p3 hc
  subst hc
  have hgl := mkG_len gt
  have hle := h.le
  have hnl := names_le (k := 3) hs
  have e1 := machine27_pure gt h hs p1 p2
  have e2 := rnew28_pure gt h hs
  have hsm := autL_sm h
  have hal := autL_len gt
  have hhd := h.hd
  obtain ⟨A, hA⟩ : ∃ A, A = autL gt := ⟨_, rfl⟩
  rw [← hA] at e1 e2 hsm hal
  have hA16 : A.length ≤ 16 := by omega
  obtain ⟨H, hH⟩ : ∃ H, H = headsL (mkG gt) := ⟨_, rfl⟩
  obtain ⟨L, hL⟩ : ∃ L, L = labelsL' (mkG gt) := ⟨_, rfl⟩
  rw [← hH, ← hL] at e1
  have e3 := start31_pure H L A n
  have e4 := at32_pure (stL A) n
  have e5 := nt33_pure H L A hsm hA16 n
  have e6 := at32_pure (ntL A) n
  have e7 := final34_pure H L A hsm hA16 n
  have e8 := rin35_pure (finA A) n
  obtain ⟨g, hg⟩ : ∃ g, g = mkG gt := ⟨_, rfl⟩
  rw [← hg] at e1 e2 ⊢
  clear hA hH hL hg p1 p2 p3 hgl hle hnl hhd hal hl hs h
  by_cases h0 : n < 0
  ·have e9 := auto30_no H L A n (.inl h0)
   unfold dMach at e1 e3 e5 e7 e9
   unfold refM at e2
   refine DPure_introF [] (fn := Tryz.f7) Tryz.func7 rfl Tryz.call7 (by simp [Tryz.ntmps7]) (by simp [mx]) ?_
   intro hwf B hnt
   simp only [Tryz.ntmps7] at hnt
   have hA := an_is anRS97 Tryz.mixed (aj2 @anRS97.eq_1 Tryz.results7)
   clear hwf
   simp only [argS]
   (repeat (first | refine DW_seq fun K hK => ?_ | (refine DW_r anRS97 Tryz.mixed (by kernel_rfl) ?_; simp [anRS97, hnt, h0]; try simp (disch := omega) only [wrap64_in]) | refine DW_block ?_ | (refine DW_if ?_ ?_ ?_; (· (simp [hnt, h0]; done)); (try (rotate_left; (· (intro hc; (try simp [hnt, h0] at hc); done))))) | (refine DW_ret ?_; simp [Tryz.results7, hnt, h0]) | ((first | refine DW_exit ?_ | refine DW_skip ?_); simp [hnt, h0]) | (intro hc; (try simp [hnt, h0] at hc); (try (exfalso; omega))) | ((first | refine callP_mk (e1) ?_ | refine callP_mk (e2) ?_ | refine callP_mk (e3) ?_ | refine callP_mk (e4) ?_ | refine callP_mk (e5) ?_ | refine callP_mk (e6) ?_ | refine callP_mk (e7) ?_ | refine callP_mk (e8) ?_ | refine callP_mk (e9) ?_ | (refine callP_wk (e1) ?_ ?_; (· (simp; done))) | (refine callP_wk (e2) ?_ ?_; (· (simp; done))) | (refine callP_wk (e3) ?_ ?_; (· (simp; done))) | (refine callP_wk (e4) ?_ ?_; (· (simp; done))) | (refine callP_wk (e5) ?_ ?_; (· (simp; done))) | (refine callP_wk (e6) ?_ ?_; (· (simp; done))) | (refine callP_wk (e7) ?_ ?_; (· (simp; done))) | (refine callP_wk (e8) ?_ ?_; (· (simp; done))) | (refine callP_wk (e9) ?_ ?_; (· (simp; done)))); try simp [hnt, h0]) | (refine ⟨?_, ?_⟩; · omega) | omega | apply_assumption -exfalso -symm | (exfalso; omega)))
  ·by_cases h1 : n < A.length
   ·obtain ⟨k, rfl⟩ : ∃ k : Nat, n = (k : Int) := ⟨n.toNat, by omega⟩
    have hlt : k < A.length := by omega
    obtain ⟨a, hx, hx', hxm⟩ := at_lt' hlt
    obtain ⟨f, hf⟩ := parA_at (f := 0) hx
    have e9 := auto30_ok H L A k a f (hsm a hxm) hf
    have e10 := sameAuto20_refl a
    have h2 : ¬ (A.length : Int) ≤ (k : Int) := by omega
    unfold dMach at e1 e3 e5 e7 e9
    unfold refM at e2
    simp only [dAuto] at e9 e10
    refine DPure_introF [] (fn := Tryz.f7) Tryz.func7 rfl Tryz.call7 (by simp [Tryz.ntmps7]) (by simp [mx]) ?_
    intro hwf B hnt
    simp only [Tryz.ntmps7] at hnt
    have hA := an_is anRS97 Tryz.mixed (aj2 @anRS97.eq_1 Tryz.results7)
    clear hwf
    simp only [argS]
    (repeat (first | refine DW_seq fun K hK => ?_ | (refine DW_r anRS97 Tryz.mixed (by kernel_rfl) ?_; simp [anRS97, hnt, dAuto, h0, h1, h2, hlt, hx, hx']; try simp (disch := omega) only [wrap64_in]) | refine DW_block ?_ | (refine DW_if ?_ ?_ ?_; (· (simp [hnt, dAuto, h0, h1, h2, hlt, hx, hx']; done)); (try (rotate_left; (· (intro hc; (try simp [hnt, dAuto, h0, h1, h2, hlt, hx, hx'] at hc); done))))) | (refine DW_ret ?_; simp [Tryz.results7, hnt, dAuto, h0, h1, h2, hlt, hx, hx']) | ((first | refine DW_exit ?_ | refine DW_skip ?_); simp [hnt, dAuto, h0, h1, h2, hlt, hx, hx']) | (intro hc; (try simp [hnt, dAuto, h0, h1, h2, hlt, hx, hx'] at hc); (try (exfalso; omega))) | ((first | refine callP_mk (e1) ?_ | refine callP_mk (e2) ?_ | refine callP_mk (e3) ?_ | refine callP_mk (e4) ?_ | refine callP_mk (e5) ?_ | refine callP_mk (e6) ?_ | refine callP_mk (e7) ?_ | refine callP_mk (e8) ?_ | refine callP_mk (e9) ?_ | refine callP_mk (e10) ?_ | (refine callP_wk (e1) ?_ ?_; (· (simp; done))) | (refine callP_wk (e2) ?_ ?_; (· (simp; done))) | (refine callP_wk (e3) ?_ ?_; (· (simp; done))) | (refine callP_wk (e4) ?_ ?_; (· (simp; done))) | (refine callP_wk (e5) ?_ ?_; (· (simp; done))) | (refine callP_wk (e6) ?_ ?_; (· (simp; done))) | (refine callP_wk (e7) ?_ ?_; (· (simp; done))) | (refine callP_wk (e8) ?_ ?_; (· (simp; done))) | (refine callP_wk (e9) ?_ ?_; (· (simp; done))) | (refine callP_wk (e10) ?_ ?_; (· (simp; done)))); try simp [hnt, dAuto, h0, h1, h2, hlt, hx, hx']) | (refine ⟨?_, ?_⟩; · omega) | omega | apply_assumption -exfalso -symm | (exfalso; omega)))
   ·have e9 := auto30_no H L A n (.inr (by omega))
    have h2 : (A.length : Int) ≤ n := by omega
    unfold dMach at e1 e3 e5 e7 e9
    unfold refM at e2
    refine DPure_introF [] (fn := Tryz.f7) Tryz.func7 rfl Tryz.call7 (by simp [Tryz.ntmps7]) (by simp [mx]) ?_
    intro hwf B hnt
    simp only [Tryz.ntmps7] at hnt
    have hA := an_is anRS97 Tryz.mixed (aj2 @anRS97.eq_1 Tryz.results7)
    clear hwf
    simp only [argS]
    (repeat (first | refine DW_seq fun K hK => ?_ | (refine DW_r anRS97 Tryz.mixed (by kernel_rfl) ?_; simp [anRS97, hnt, h0, h1, h2]; try simp (disch := omega) only [wrap64_in]) | refine DW_block ?_ | (refine DW_if ?_ ?_ ?_; (· (simp [hnt, h0, h1, h2]; done)); (try (rotate_left; (· (intro hc; (try simp [hnt, h0, h1, h2] at hc); done))))) | (refine DW_ret ?_; simp [Tryz.results7, hnt, h0, h1, h2]) | ((first | refine DW_exit ?_ | refine DW_skip ?_); simp [hnt, h0, h1, h2]) | (intro hc; (try simp [hnt, h0, h1, h2] at hc); (try (exfalso; omega))) | ((first | refine callP_mk (e1) ?_ | refine callP_mk (e2) ?_ | refine callP_mk (e3) ?_ | refine callP_mk (e4) ?_ | refine callP_mk (e5) ?_ | refine callP_mk (e6) ?_ | refine callP_mk (e7) ?_ | refine callP_mk (e8) ?_ | refine callP_mk (e9) ?_ | (refine callP_wk (e1) ?_ ?_; (· (simp; done))) | (refine callP_wk (e2) ?_ ?_; (· (simp; done))) | (refine callP_wk (e3) ?_ ?_; (· (simp; done))) | (refine callP_wk (e4) ?_ ?_; (· (simp; done))) | (refine callP_wk (e5) ?_ ?_; (· (simp; done))) | (refine callP_wk (e6) ?_ ?_; (· (simp; done))) | (refine callP_wk (e7) ?_ ?_; (· (simp; done))) | (refine callP_wk (e8) ?_ ?_; (· (simp; done))) | (refine callP_wk (e9) ?_ ?_; (· (simp; done)))); try simp [hnt, h0, h1, h2]) | (refine ⟨?_, ?_⟩; · omega) | omega | apply_assumption -exfalso -symm | (exfalso; omega)))
 ·have e1 := machine27_err g c hs hl hc p1 p2
  refine DPure_introF [] (fn := Tryz.f7) Tryz.func7 rfl Tryz.call7 (by simp [Tryz.ntmps7]) (by simp [mx]) ?_
  intro hwf B hnt
  simp only [Tryz.ntmps7] at hnt
  have hA := an_is anRS97 Tryz.mixed (aj2 @anRS97.eq_1 Tryz.results7)
  clear hwf
  simp only [argS]
  exact go0 (aj1 e1) aj0 aj0
end Go.Proofs.YtdgocjbakjamaaaGreat
end

section
namespace Go.Dm
variable [DMode]
inductive Sh where
 | b
 | i (k : IntKind)
 | s
 | sl (k bs : Nat) (c : List Sh)
mutual
def HasS (L : Nat) : Sh → DVal → Prop
 | .b, d => ∃ b, d = .bool b
 | .i k, d => ∃ n, d = .int k n
 | .s, d => ∃ x : ByteArray, d = .str x ∧ x.size ≤ L
 | .sl k bs c, d => ∃ es, d = .sl k bs es ∧ es.length * bs ≤ L ∧ ∀ e ∈ es, HasL L c e
def HasL (L : Nat) : List Sh → List DVal → Prop
 | [], ds => ds = []
 | x :: r, ds => ∃ d t, ds = d :: t ∧ HasS L x d ∧ HasL L r t
end
theorem HasL_append {L : Nat} : ∀ {a b : List Sh} {x y : List DVal}, HasL L a x → HasL L b y → HasL L (a ++ b) (x ++ y)
 | [], b, x, y, h, k => by simp only [HasL] at h; subst h; exact k
 | a :: r, b, x, y, h, k => by
  simp only [HasL] at h
  obtain ⟨d, t, rfl, h1, h2⟩ := h
  simp only [List.cons_append, HasL]
  exact ⟨d, t ++ y, rfl, h1, HasL_append h2 k⟩
def shF (g : TypeId → Option (List Sh)) (cells : TypeId → Nat) : List Field → Nat → Option (List Sh × Nat)
 | [], off => some ([], off)
 | f :: r, off => if f.offset = off then
  (match g f.type, shF g cells r (off + cells f.type) with
  | some c, some (l, e) => some (c ++ l, e)
  | _, _ => none) else none
def shOf (P : Program) : Nat → TypeId → Option (List Sh)
 | 0, _ => none
 | n + 1, t => match P.underlying t with
  | some .bool => some [.b]
  | some (.int k) => some [.i k]
  | some .string => some [.s]
  | some (.slice e) => if 0 < P.cellsOf e then (shOf P n e).map fun c => [.sl (P.cellsOf e) (P.bytesOf e) c] else none
  | some (.struct fs) => match shF (shOf P n) P.cellsOf fs.toList 0 with
   | some (l, e) => if e = P.cellsOf t then some l else none
   | none => none
  | _ => none
theorem mapM_some {α β : Type} {f : α → Option β} : ∀ {l : List α} {r : List β}, l.mapM f = some r → r.length = l.length ∧ ∀ (i : Nat) (x : α), l[i]? = some x → ∃ y, r[i]? = some y ∧ f x = some y
 | [], r, h => by simp at h; subst h; simp
 | a :: l, r, h => by
  rw [List.mapM_cons] at h
  cases hf : f a with
  | none => rw [hf] at h; simp at h
  | some y =>
   rw [hf] at h
   cases hm : l.mapM f with
   | none => rw [hm] at h; simp at h
   | some r' =>
    rw [hm] at h
    simp at h
    subst h
    obtain ⟨h1, h2⟩ := mapM_some hm
    refine ⟨by simp [h1], fun i x hx => ?_⟩
    cases i with
    | zero => simp only [List.getElem?_cons_zero, Option.some.injEq] at hx; subst hx; exact ⟨y, rfl, hf⟩
    | succ i => simp only [List.getElem?_cons_succ] at hx ⊢; exact h2 i x hx
theorem rdV_len {cur : Cur} {M : List Nat} {h : Array Obj} : ∀ {a : List DVal} {x : List Value}, rdV cur M h a x → a.length = x.length
 | [], x, h1 => by simp only [rdV] at h1; subst h1; rfl
 | d :: a, x, h1 => by
  simp only [rdV] at h1
  obtain ⟨v, r, rfl, h3, h4⟩ := h1
  simp [rdV_len h4]
theorem rdC_of_rdV {cur : Cur} {M : List Nat} {h : Array Obj} {arr : Array Value} : ∀ {a : List DVal} {x : List Value} {o : Nat}, rdV cur M h a x → (∀ v ∈ x, v.oneCell' = true) → (∀ (j : Nat) v, x[j]? = some v → arr[o + j]? = some v) → rdC cur M h a arr o
 | [], x, o, h1, _, _ => by simp [rdC]
 | d :: a, x, o, h1, h2, h3 => by
  simp only [rdV] at h1
  obtain ⟨v, r, rfl, h4, h5⟩ := h1
  simp only [rdC]
  refine ⟨⟨v, by simpa using h3 0 v rfl, h2 v (by simp), h4⟩, rdC_of_rdV h5 (fun u hu => h2 u (by simp [hu])) fun j u hu => ?_⟩
  have := h3 (j + 1) u (by simpa using hu)
  rw [← this]; congr 1; omega
theorem rows_of {L : Nat} {cur : Cur} {M : List Nat} {h : Array Obj} {arr : Array Value} {k : Nat} {c : List Sh} : ∀ (len off : Nat), (∀ i, i < len → ∃ ds, ds.length = k ∧ rdC cur M h ds arr (off + i * k) ∧ HasL L c ds) →
  ∃ es, es.length = len ∧ rdR cur M h k es arr off ∧ ∀ e ∈ es, HasL L c e
 | 0, off, _ => ⟨[], rfl, by simp [rdR], by simp⟩
 | len + 1, off, hh => by
  obtain ⟨ds, h1, h2, h3⟩ := hh 0 (by omega)
  obtain ⟨es, h4, h5, h6⟩ := rows_of len (off + k) (fun i hi => by
   obtain ⟨ds, h1, h2, h3⟩ := hh (i + 1) (by omega)
   refine ⟨ds, h1, ?_, h3⟩
   have : off + k + i * k = off + (i + 1) * k := by rw [Nat.add_mul]; omega
   rw [this]; exact h2)
  refine ⟨ds :: es, by simp [h4], ?_, ?_⟩
  ·simp only [rdR]; exact ⟨h1, by simpa using h2, h5⟩
  ·intro e he
   rcases List.mem_cons.1 he with rfl | he
   ·exact h3
   ·exact h6 e he
theorem inR_of_wf {k : IntKind} {n : Int} (h : (Lit.int k n).wf = true) : inR k n := by
 cases k <;> simpa [Lit.wf, IntKind.min, IntKind.max, IntKind.signed, IntKind.bits, inR] using h
theorem shF_mono {g : TypeId → Option (List Sh)} {cells : TypeId → Nat} : ∀ {fs : List Field} {off e : Nat} {l : List Sh}, shF g cells fs off = some (l, e) → off ≤ e
 | [], off, e, l, h => by simp only [shF, Option.some.injEq, Prod.mk.injEq] at h; omega
 | f :: r, off, e, l, h => by
  simp only [shF] at h
  split at h
  ·split at h
   ·rename_i c l' e' h1 h2
    simp only [Option.some.injEq, Prod.mk.injEq] at h
    have := shF_mono h2
    omega
   ·simp at h
  ·simp at h
section
variable {H : Type} {enc : TypeId × Value → H} {P : Program} {w : World} {cur : Cur}
def RdArg (L : Nat) (P : Program) (cur : Cur) (w : World) (cs : List Value) (shs : List Sh) : Prop :=
 ∃ ds, rdV cur [] w.heap ds cs ∧ (∀ v ∈ cs, v.oneCell' = true) ∧ HasL L shs ds
theorem fields_rd {L fuel n : Nat} (ih : ∀ {t : TypeId} {cs : List Value} {d : DataW H} {ps : List MemPlace} {shs : List Sh}, DataW.trod enc P w 0 (fun _ => true) true fuel t cs = some (d, ps) → shOf P n t = some shs → (∀ x ∈ d.weights P t, x ≤ L) → RdArg L P cur w cs shs)
  (cs : List Value) : ∀ (fs : List Field) (off e : Nat) (l : List Sh) (xs : List (DataW H × List MemPlace)),
   fs.mapM (fun f => DataW.trod enc P w 0 (fun _ => true) true fuel f.type ((cs.drop f.offset).take (P.cellsOf f.type))) = some xs → shF (shOf P n) P.cellsOf fs off = some (l, e) →
   (∀ x ∈ DataW.weightsEach P (fs.map (·.type)) (xs.map (·.1)), x ≤ L) → RdArg L P cur w ((cs.drop off).take (e - off)) l
 | [], off, e, l, xs, h1, h2, h3 => by
  simp only [shF, Option.some.injEq, Prod.mk.injEq] at h2
  obtain ⟨rfl, rfl⟩ := h2
  exact ⟨[], by simp [rdV], by simp, by simp [HasL]⟩
 | f :: fs, off, e, l, xs, h1, h2, h3 => by
  rw [List.mapM_cons] at h1
  simp only [shF] at h2
  split at h2
  ·rename_i hoff
   split at h2
   ·rename_i c l' e' h4 h5
    simp only [Option.some.injEq, Prod.mk.injEq] at h2
    obtain ⟨rfl, rfl⟩ := h2
    have hm := shF_mono h5
    cases hf : DataW.trod enc P w 0 (fun _ => true) true fuel f.type ((cs.drop f.offset).take (P.cellsOf f.type)) with
    | none => rw [hf] at h1; simp at h1
    | some x =>
     rw [hf] at h1
     cases hr : fs.mapM (fun f => DataW.trod enc P w 0 (fun _ => true) true fuel f.type ((cs.drop f.offset).take (P.cellsOf f.type))) with
     | none => rw [hr] at h1; simp at h1
     | some xr =>
      rw [hr] at h1
      simp at h1
      subst h1
      simp only [List.map_cons, DataW.weightsEach, List.mem_append] at h3
      obtain ⟨d1, a1, a2, a3⟩ := ih hf h4 (fun y hy => h3 y (.inl hy))
      obtain ⟨d2, b1, b2, b3⟩ := fields_rd ih cs fs (off + P.cellsOf f.type) e' l' xr hr h5 (fun y hy => h3 y (.inr hy))
      have hsp : (cs.drop off).take (e' - off) = (cs.drop f.offset).take (P.cellsOf f.type) ++ (cs.drop (off + P.cellsOf f.type)).take (e' - (off + P.cellsOf f.type)) := by
       rw [hoff, ← List.drop_drop, show e' - off = P.cellsOf f.type + (e' - (off + P.cellsOf f.type)) by omega, List.take_add]
      rw [hsp]
      exact ⟨d1 ++ d2, rdV_append _ _ _ _ a1 b1, fun v hv => (List.mem_append.1 hv).elim (a2 v) (b2 v), HasL_append a3 b3⟩
   ·simp at h2
  ·simp at h2
theorem weightsAll_mem {e : TypeId} : ∀ {l : List (DataW H)} {d : DataW H}, d ∈ l → ∀ x ∈ d.weights P e, x ∈ DataW.weightsAll P e l
 | a :: l, d, hd, x, hx => by
  simp only [DataW.weightsAll, List.mem_append]
  rcases List.mem_cons.1 hd with rfl | hd
  ·exact .inl hx
  ·exact .inr (weightsAll_mem hd x hx)
theorem cells_get {a : Addr} {n : Nat} {cs : List Value} (h : w.cells? 0 a n = some cs) : cs.length = n ∧ ∀ (j : Nat) v, cs[j]? = some v → w.cell? (a.add j) = some v := by
 unfold World.cells? at h
 rw [if_pos (Nat.zero_le _)] at h
 obtain ⟨h1, h2⟩ := mapM_some h
 rw [List.length_range] at h1
 refine ⟨h1, fun j v hv => ?_⟩
 have hj : j < n := by rw [← h1]; exact (List.getElem?_eq_some_iff.1 hv).1
 obtain ⟨y, hy, hy'⟩ := h2 j j (by rw [List.getElem?_range hj])
 rw [hv] at hy
 rw [hy', hy]
theorem add_none (b o n : Nat) : (⟨b, o, none⟩ : Addr).add n = ⟨b, o + n, none⟩ := by
 unfold Addr.add
 split
 ·rename_i h; subst h; rfl
 ·rfl
theorem trod_rd {L : Nat} (hL : L ≤ 140737488355328) : ∀ {fuel n : Nat} {t : TypeId} {cs : List Value} {d : DataW H} {ps : List MemPlace} {shs : List Sh}, DataW.trod enc P w 0 (fun _ => true) true fuel t cs = some (d, ps) → shOf P n t = some shs →
  (∀ x ∈ d.weights P t, x ≤ L) → RdArg L P cur w cs shs
 | 0, n, t, cs, d, ps, shs, h, hs, hw => by simp [DataW.trod] at h
 | fuel + 1, 0, t, cs, d, ps, shs, h, hs, hw => by simp [shOf] at hs
 | fuel + 1, n + 1, t, cs, d, ps, shs, h, hs, hw => by
  unfold DataW.trod at h
  split at h
  ·rename_i b hu
   simp only [shOf, hu, Option.some.injEq] at hs
   subst hs
   exact ⟨[.bool b], by simp [rdV, rd], by simp [Value.oneCell'], by simp [HasL, HasS]⟩
  ·rename_i k k' n' hu
   simp only [shOf, hu, Option.some.injEq] at hs
   subst hs
   split at h
   ·rename_i hk
    obtain ⟨rfl, hk⟩ := hk
    exact ⟨[.int k' n'], by simp [rdV, rd, inR_of_wf hk], by simp [Value.oneCell'], by simp [HasL, HasS]⟩
   ·simp at h
  ·rename_i hu; simp [shOf, hu] at hs
  ·rename_i x hu
   simp only [shOf, hu, Option.some.injEq] at hs
   subst hs
   split at h
   ·rename_i hk
    simp only [Option.some.injEq, Prod.mk.injEq] at h
    obtain ⟨rfl, _⟩ := h
    have hsz := hw x.data.toList.length (by simp [DataW.weights])
    exact ⟨[.str x], by simp [rdV, rd, hk], by simp [Value.oneCell'], by simp only [HasL, HasS]; exact ⟨_, _, rfl, ⟨x, rfl, by rw [Array.length_toList] at hsz; exact hsz⟩, rfl⟩⟩
   ·simp at h
  ·rename_i hu; simp [shOf, hu] at hs
  ·rename_i hu; simp [shOf, hu] at hs
  ·rename_i e hu
   simp only [shOf, hu] at hs
   split at hs
   rotate_left
   ·simp at hs
   rename_i hk0
   rw [Option.map_eq_some_iff] at hs
   obtain ⟨c, hc, rfl⟩ := hs
   exact ⟨[.sl (P.cellsOf e) (P.bytesOf e) []], by simp only [rdV, rd]; exact ⟨_, _, rfl, ⟨none, 0, rfl, Nat.le_refl _, Nat.zero_le _, by simp, .inl ⟨trivial, fun _ => rfl⟩⟩, rfl⟩, by simp [Value.oneCell'], by simp [HasL, HasS]⟩
  ·rename_i e a len cap hu
   simp only [shOf, hu] at hs
   split at hs
   rotate_left
   ·simp at hs
   rename_i hk0
   rw [Option.map_eq_some_iff] at hs
   obtain ⟨c, hc, rfl⟩ := hs
   simp only at h
   split at h
   ·rename_i hb
    obtain ⟨_, hb1, hb2⟩ := hb
    cases hm : (List.range len).mapM (fun i => (w.cells? 0 (a.add (i * P.cellsOf e)) (P.cellsOf e)).bind (DataW.trod enc P w 0 (fun _ => true) true fuel e)) with
    | none => rw [hm] at h; simp at h
    | some elems =>
     rw [hm] at h
     simp only [Option.bind_some, if_true, Option.map_eq_some_iff] at h
     obtain ⟨rest, hr, h⟩ := h
     simp only [Prod.mk.injEq] at h
     obtain ⟨rfl, rfl⟩ := h
     simp only [DataW.weights, hu, List.mem_cons, List.mem_append, List.length_map] at hw
     obtain ⟨m1, m2⟩ := mapM_some hm
     rw [List.length_range] at m1
     have hsz := hw _ (.inl rfl)
     have hlen : len * P.bytesOf e ≤ L := Nat.le_trans (Nat.mul_le_mul_right _ (by omega)) hsz
     have hel : ∀ i, i < len → ∃ cs ds, w.cells? 0 (a.add (i * P.cellsOf e)) (P.cellsOf e) = some cs ∧ rdV cur [] w.heap ds cs ∧ (∀ v ∈ cs, v.oneCell' = true) ∧ HasL L c ds := by
      intro i hi
      obtain ⟨y, hy, hy'⟩ := m2 i i (by rw [List.getElem?_range hi])
      rw [Option.bind_eq_some_iff] at hy'
      obtain ⟨cs, hcs, hy'⟩ := hy'
      obtain ⟨d', p'⟩ := y
      have hmem : d' ∈ elems.map (·.1) := List.mem_map.2 ⟨_, List.mem_of_getElem? hy, rfl⟩
      obtain ⟨ds, b1, b2, b3⟩ := trod_rd hL hy' hc (fun x hx => hw x (.inr (.inl (weightsAll_mem hmem x hx))))
      exact ⟨cs, ds, hcs, b1, b2, b3⟩
     by_cases h0 : len = 0
     ·subst h0
      exact ⟨[.sl (P.cellsOf e) (P.bytesOf e) []], by simp only [rdV, rd]; exact ⟨_, _, rfl, ⟨some a, cap, rfl, Nat.zero_le _, hb2, by simp, .inl ⟨trivial, fun hh => by simp at hh⟩⟩, rfl⟩, by simp [Value.oneCell'], by simp [HasL, HasS]⟩
     ·obtain ⟨blk, off, spot⟩ := a
      obtain ⟨cs0, ds0, hcs0, _, _, _⟩ := hel 0 (by omega)
      obtain ⟨l1, l2⟩ := cells_get hcs0
      obtain ⟨v, hv⟩ : ∃ v, cs0[0]? = some v := ⟨_, List.getElem?_eq_getElem (by omega)⟩
      have hc0 : w.cell? ⟨blk, off, spot⟩ = some v := by simpa [Addr.add] using l2 0 v hv
      obtain ⟨arr, ty, fz, hblk, hspot⟩ : ∃ arr ty fz, w.heap[blk]? = some (.cells arr ty fz) ∧ spot = none := by
       simp only [World.cell?] at hc0
       split at hc0
       ·rename_i arr ty fz hb
        split at hc0
        ·simp at hc0
        ·rename_i hsp
         exact ⟨arr, ty, fz, hb, by simpa using hsp⟩
       ·simp at hc0
      subst hspot
      obtain ⟨es, e1, e2, e3⟩ := rows_of (cur := cur) (M := []) (h := w.heap) (arr := arr) (k := P.cellsOf e) (c := c) len off (fun i hi => by
       obtain ⟨cs, ds, hcs, b1, b2, b3⟩ := hel i hi
       obtain ⟨l1, l2⟩ := cells_get hcs
       refine ⟨ds, by rw [rdV_len b1, l1], rdC_of_rdV b1 b2 fun j u hu => ?_, b3⟩
       have := l2 j u hu
       rw [add_none, add_none] at this
       simpa [World.cell?, hblk] using this)
      refine ⟨[.sl (P.cellsOf e) (P.bytesOf e) es], ?_, by simp [Value.oneCell'], by simp only [HasL, HasS]; exact ⟨_, _, rfl, ⟨es, rfl, by rw [e1]; exact hlen, e3⟩, rfl⟩⟩
      simp only [rdV, rd]
      exact ⟨_, _, rfl, ⟨_, _, by rw [e1], by omega, hb2, by rw [e1]; omega, .inr ⟨blk, off, arr, ty, fz, rfl, by simp, hblk, e2⟩⟩, rfl⟩
   ·simp at h
  ·rename_i fs hu
   simp only [shOf, hu] at hs
   split at hs
   ·rename_i l e hf
    split at hs
    ·rename_i he
     simp only [Option.some.injEq] at hs
     subst hs
     subst he
     split at h
     ·rename_i hlen
      simp only [Option.map_eq_some_iff] at h
      obtain ⟨xs, hxs, h⟩ := h
      simp only [Prod.mk.injEq] at h
      obtain ⟨rfl, rfl⟩ := h
      simp only [DataW.weights, hu] at hw
      have := fields_rd (cur := cur) (fun h1 h2 h3 => trod_rd hL h1 h2 h3) _ fs.toList 0 (P.cellsOf t) l xs hxs hf hw
      simpa [← hlen] using this
     ·simp at h
    ·simp at hs
   ·simp at hs
  all_goals first | (simp at h; done) | (rename_i hu; simp [shOf, hu] at hs; done)
def isAggT (P : Program) (t : TypeId) : Bool := match P.underlying t with | some (.struct _) => true | _ => false
theorem arg_rd {L base n : Nat} (hL : L ≤ 140737488355328) {t : TypeId} {v : Value} {d : DataW H} {ps : List MemPlace} {shs : List Sh} (hv : Value.okWide P w .any base t v) (h : DataW.Trod enc P w 0 (fun _ => true) true t v d ps) (hs : shOf P n t = some shs)
  (hw : ∀ x ∈ d.weights P t, x ≤ L) : ∃ ds, HasL L shs ds ∧ if isAggT P t then rd cur [] w.heap (.agg ds) v else rdV cur [] w.heap ds [v] := by
 obtain ⟨fuel, h⟩ := h
 obtain ⟨ds, h1, h2, h3⟩ := trod_rd (cur := cur) hL h hs hw
 refine ⟨ds, h3, ?_⟩
 unfold isAggT
 split
 ·rename_i fs hu
  simp only [if_true]
  simp only [Value.okWide, hu] at hv
  obtain ⟨cs, rfl, _, _⟩ := hv
  simp only [rd]
  exact ⟨cs, rfl, h1⟩
 ·rename_i hu
  have hag : v.cells = #[v] := by
   cases n with
   | zero => simp [shOf] at hs
   | succ n =>
    cases v <;> first | rfl | skip
    rename_i cs
    unfold shOf at hs
    unfold Value.okWide at hv
    cases hu' : P.underlying t with
    | none => simp [hu'] at hs
    | some ty =>
     rw [hu'] at hs hv
     cases ty <;> simp [Cell.okWide, Cell.ok, hu'] at hs hv
     exact absurd hu' (hu _)
  rw [hag] at h1
  simpa using h1
def HasArgs (L : Nat) (P : Program) : List TypeId → List (List Sh) → List DVal → Prop
 | [], [], a => a = []
 | t :: ts, x :: xs, a => ∃ ds r, HasL L x ds ∧ a = (if isAggT P t then .agg ds else ds.headD .any) :: r ∧ HasArgs L P ts xs r
 | _, _, _ => False
theorem args_rd0 {L base n : Nat} (hL : L ≤ 140737488355328) : ∀ {ts : List TypeId} {vs : List Value} {ds : List (DataW H)} {ps : List MemPlace} {shs : List (List Sh)}, (∀ (j : Nat) t v, ts[j]? = some t → vs[j]? = some v → Value.okWide P w .any base t v) →
  DataW.TrodAll enc P w 0 (fun _ => true) true ts vs ds ps → ts.map (shOf P n) = shs.map some → (∀ x ∈ DataW.weightsEach P ts ds, x ≤ L) → ∃ das, rdV cur [] w.heap das vs ∧ HasArgs L P ts shs das
 | [], vs, ds, ps, shs, hv, hA, hs, hw => by
  obtain ⟨rfl, rfl, rfl⟩ := ChangeShapes.trodAll_nil hA
  cases shs with
  | nil => exact ⟨[], by simp [rdV], by simp [HasArgs]⟩
  | cons a b => simp at hs
 | t :: ts, vs, ds, ps, shs, hv, hA, hs, hw => by
  obtain ⟨v, vr, d, dr, p, q, rfl, rfl, rfl, h0, hr⟩ := ChangeShapes.trodAll_cons hA
  cases shs with
  | nil => simp at hs
  | cons x xs =>
   simp only [List.map_cons, List.cons.injEq] at hs
   simp only [DataW.weightsEach, List.mem_append] at hw
   obtain ⟨das, a1, a2⟩ := args_rd0 hL (fun j t v h1 h2 => hv (j + 1) t v (by simpa using h1) (by simpa using h2)) hr hs.2 (fun y hy => hw y (.inr hy))
   obtain ⟨dd, b1, b2⟩ := arg_rd (cur := cur) hL (hv 0 t v rfl rfl) h0 hs.1 (fun y hy => hw y (.inl hy))
   refine ⟨(if isAggT P t then .agg dd else dd.headD .any) :: das, ?_, by simp only [HasArgs]; exact ⟨dd, das, b1, rfl, a2⟩⟩
   simp only [rdV]
   refine ⟨v, vr, rfl, ?_, a1⟩
   split
   ·rename_i h; rw [if_pos h] at b2; exact b2
   ·rename_i h
    rw [if_neg h] at b2
    cases dd with
    | nil => simp [rdV] at b2
    | cons d0 dr =>
     simp only [rdV] at b2
     obtain ⟨u, r, hu, hd0, _⟩ := b2
     simp only [List.cons.injEq] at hu
     rw [hu.1]
     simpa using hd0
theorem args_rd {L base n : Nat} {ts : List TypeId} {vs : List Value} {ds : List (DataW H)} {ps : List MemPlace} {shs : List (List Sh)} (h1 : ∀ (j : Nat) t v, ts[j]? = some t → vs[j]? = some v → Value.okWide P w .any base t v)
 (h2 : DataW.TrodAll enc P w 0 (fun _ => true) true ts vs ds ps) (h3 : ts.map (shOf P n) = shs.map some) (h4 : ∀ x ∈ DataW.weightsEach P ts ds, x ≤ L) (hL : L ≤ 140737488355328 := by omega) : ∃ das, rdV cur [] w.heap das vs ∧ HasArgs L P ts shs das := args_rd0 hL h1 h2 h3 h4
theorem Upd.below {a b : World} (h : Upd [] a b) : RowKit.Below a.heap.size a b := ⟨h.os, h.tape, h.output, h.size, fun k hk => h.blk k hk (by simp)⟩
theorem trodAll_stays (hl : laidOutB P = true) {W W' : World} {sp : Nat → Bool} : ∀ {ts : List TypeId} {vs : List Value} {ds : List (DataW H)} {ps : List MemPlace}, (∀ t ∈ ts, P.readableRec t = true ∧ t < P.types.size) →
  DataW.TrodAll enc P W 0 (fun _ => true) true ts vs ds ps → (∀ p ∈ ps, W.sameAt W' p) → (∀ p ∈ ps, sp p.block = true) → DataW.TrodAll enc P W' 0 sp true ts vs ds ps
 | [], vs, ds, ps, ht, hA, h1, h2 => by
  obtain ⟨rfl, rfl, rfl⟩ := ChangeShapes.trodAll_nil hA
  rfl
 | t :: ts, vs, ds, ps, ht, hA, h1, h2 => by
  obtain ⟨v, vr, d, dr, p, q, rfl, rfl, rfl, h0, hr⟩ := ChangeShapes.trodAll_cons hA
  obtain ⟨k1, k2⟩ := ht t (by simp)
  exact ⟨p, q, WideElems.Trod_stays hl k1 k2 h0 (fun x hx => h1 x (by simp [hx])) (fun x hx => h2 x (by simp [hx])), trodAll_stays hl (fun t h => ht t (by simp [h])) hr (fun x hx => h1 x (by simp [hx])) (fun x hx => h2 x (by simp [hx])), rfl⟩
theorem law_post {fn : Func} {s : ChangeSpec} {fresh handsOn : Bool} {tb : TypeId} {W W' : World} {args : Array Value} {ds gs : List (DataW H)} {before : List MemPlace} (hl : laidOutB P = true)
  (hall : ∀ t ∈ fn.params.toList, P.readableRec t = true ∧ t < P.types.size) (hr : fn.resultTypes = #[tb]) (hub : P.underlying tb = some .bool) (hvars : s.vars = [])
  (hs : s.fn H (ds ++ gs) = { results := [.lit (.bool true)], args := ds }) (hW : DataW.Whole enc P fn.params.toList s.vars false W args.toList ds gs before) (hu : Upd [] W W') :
  s.post enc P fn false fresh handsOn false W args (.bool true) W' := by
 have hW' := hW
 obtain ⟨p, q, hA, hV, rfl, hfz, hnd⟩ := hW
 have hlt : ∀ x ∈ p, x.block < W.heap.size := fun x hx => hW'.lt x (by simp [hx])
 have hb := hu.below
 refine ⟨ds, gs, p ++ q, [], p, [], hW', ?_, ?_, ?_, hb.frame _, fun h => by cases h⟩
 ·rw [hs, hr]
  exact ChangeShapes.trodAll_mk1 (RowKit.shut_bool hub true)
 ·rw [hs]
  exact trodAll_stays hl hall hA (fun x hx => hb.same (hlt x hx)) (fun x hx => by simpa using hlt x hx)
 ·rw [hs, hvars]
  rfl
theorem law_contract {f : FuncId} {fn : Func} {s : ChangeSpec} {fresh handsOn : Bool} {tb : TypeId} {W : World} {args : Array Value} {das : List DVal} {ds gs : List (DataW H)} {before : List MemPlace} (hl : laidOutB P = true)
  (hall : ∀ t ∈ fn.params.toList, P.readableRec t = true ∧ t < P.types.size) (hr : fn.resultTypes = #[tb]) (hub : P.underlying tb = some .bool) (hvars : s.vars = [])
  (hs : s.fn H (ds ++ gs) = { results := [.lit (.bool true)], args := ds }) (hW : DataW.Whole enc P fn.params.toList s.vars false W args.toList ds gs before)
  (hrd : rdV (fun _ _ => none) [] W.heap das args.toList) (hd : DPure P f das (.bool true)) :
  Calls P f args W fun e W' => ∃ v, e = .returned v ∧ s.post enc P fn false fresh handsOn false W args v W' := by
 refine (hd.2.2 _ [] W args (by simp) hrd).mono fun e W' ⟨v, he, hu, hv⟩ => ⟨.bool true, ?_, law_post hl hall hr hub hvars hs hW hu⟩
 simp only [rd] at hv
 rw [he, hv]
end
theorem rows_form {α : Type} {f : α → List DVal} : ∀ {es : List (List DVal)}, (∀ e ∈ es, ∃ x, e = f x) → ∃ l : List α, es = l.map f
 | [], _ => ⟨[], rfl⟩
 | e :: es, h => by
  obtain ⟨x, rfl⟩ := h e (by simp)
  obtain ⟨l, rfl⟩ := rows_form (es := es) (f := f) (fun e he => h e (by simp [he]))
  exact ⟨x :: l, rfl⟩
end Go.Dm
end

section
namespace Go.Proofs.YtdgocjbakjamaaaGreat
open Go Go.Dm
variable [DMode]
open Go.ChangeShapes Go.WideShapes Go.ChangeAt Go.RowKit
theorem own : ownKnob Tryz.prog.godebug = none := by kernel_rfl
theorem laidOut : laidOutB Tryz.prog = true := by kernel_rfl
end Go.Proofs.YtdgocjbakjamaaaGreat
end

section
namespace Go.Proofs.YtdgocjbakjamaaaGreat
open Go Go.Dm
variable [DMode]
mutual
def shLe (C : Nat) : Sh → Bool
 | .b => true
 | .i _ => true
 | .s => true
 | .sl _ bs c => decide (bs ≤ C) && shLeL C c
def shLeL (C : Nat) : List Sh → Bool
 | [] => true
 | x :: r => shLe C x && shLeL C r
end
theorem shLeL_append {C : Nat} : ∀ {a b : List Sh}, shLeL C (a ++ b) = (shLeL C a && shLeL C b)
 | [], b => by simp [shLeL]
 | x :: a, b => by simp [shLeL, shLeL_append (a := a), Bool.and_assoc]
section
variable {H : Type}
theorem bulk_pos (d : DataW H) : 1 ≤ Rows.uptoBulk d := by
 cases d with
 | lit l => cases l <;> simp only [Rows.uptoBulk] <;> omega
 | _ => simp only [Rows.uptoBulk] <;> omega
theorem bulk_len : ∀ l : List (DataW H), l.length ≤ Rows.uptoBulkAll l
 | [] => by simp
 | d :: r => by
  have := bulk_pos d
  have := bulk_len r
  simp only [Rows.uptoBulkAll, List.length_cons]
  omega
theorem weights_bulk {P : Program} {C : Nat} (hC : 1 ≤ C) : ∀ (n : Nat) (t : TypeId) (shs : List Sh) (d : DataW H), shOf P n t = some shs → shLeL C shs = true → ∀ x ∈ d.weights P t, x ≤ Rows.uptoBulk d * C
 | 0, t, shs, d, h, hl => by simp [shOf] at h
 | n + 1, t, shs, d, h, hl => by
  intro x hx
  have all : ∀ (e : TypeId) (c : List Sh), shOf P n e = some c → shLeL C c = true → ∀ (l : List (DataW H)), ∀ x ∈ DataW.weightsAll P e l, x ≤ Rows.uptoBulkAll l * C := by
   intro e c he hc l
   induction l with
   | nil => intro x hx; simp [DataW.weightsAll] at hx
   | cons d r ih =>
    intro x hx
    simp only [DataW.weightsAll, List.mem_append] at hx
    simp only [Rows.uptoBulkAll, Nat.add_mul]
    rcases hx with hx | hx
    ·have := weights_bulk hC n e c d he hc x hx; omega
    ·have := ih x hx; omega
  have each : ∀ (fs : List Field) (off e : Nat) (l : List Sh), shF (shOf P n) P.cellsOf fs off = some (l, e) → shLeL C l = true → ∀ (parts : List (DataW H)), ∀ x ∈ DataW.weightsEach P (fs.map (·.type)) parts, x ≤ Rows.uptoBulkAll parts * C := by
   intro fs
   induction fs with
   | nil => intro off e l _ _ parts x hx; simp [DataW.weightsEach] at hx
   | cons f fs ih =>
    intro off e l hf hc parts x hx
    cases parts with
    | nil => simp [DataW.weightsEach] at hx
    | cons d r =>
     simp only [shF] at hf
     split at hf
     ·split at hf
      ·rename_i c l' e' h4 h5
       simp only [Option.some.injEq, Prod.mk.injEq] at hf
       obtain ⟨rfl, rfl⟩ := hf
       rw [shLeL_append, Bool.and_eq_true] at hc
       simp only [List.map_cons, DataW.weightsEach, List.mem_append] at hx
       simp only [Rows.uptoBulkAll, Nat.add_mul]
       rcases hx with hx | hx
       ·have := weights_bulk hC n f.type c d h4 hc.1 x hx; omega
       ·have := ih _ _ _ h5 hc.2 r x hx; omega
      ·simp at hf
     ·simp at hf
  cases d with
  | lit l =>
   cases l <;> simp only [DataW.weights, List.mem_singleton, List.not_mem_nil] at hx
   subst hx
   simp only [Rows.uptoBulk]
   exact Nat.le_trans (Nat.le_succ _) (Nat.le_mul_of_pos_right _ hC)
  | nil => simp [DataW.weights] at hx
  | held a => simp [DataW.weights] at hx
  | iface a b => simp [DataW.weights] at hx
  | ptr d =>
   simp only [DataW.weights] at hx
   split at hx
   ·rename_i hu; simp [shOf, hu] at h
   ·simp at hx
  | map es =>
   simp only [DataW.weights] at hx
   split at hx
   ·rename_i hu; simp [shOf, hu] at h
   ·simp at hx
  | slice elems spare =>
   simp only [DataW.weights] at hx
   split at hx
   ·rename_i e hu
    simp only [shOf, hu] at h
    split at h
    rotate_left
    ·simp at h
    rw [Option.map_eq_some_iff] at h
    obtain ⟨c, hc, rfl⟩ := h
    simp only [shLeL, shLe, Bool.and_true, Bool.and_eq_true, decide_eq_true_eq] at hl
    simp only [Rows.uptoBulk, Nat.add_mul]
    simp only [List.mem_cons, List.mem_append] at hx
    rcases hx with rfl | hx | hx
    ·have h1 := bulk_len elems
     have h2 := bulk_len spare
     rw [Nat.add_mul]
     have g1 := Nat.mul_le_mul h1 hl.1
     have g2 := Nat.mul_le_mul h2 hl.1
     omega
    ·have := all e c hc hl.2 elems x hx; omega
    ·have := all e c hc hl.2 spare x hx; omega
   ·simp at hx
  | agg parts =>
   simp only [DataW.weights] at hx
   split at hx
   ·rename_i fs hu
    simp only [shOf, hu] at h
    split at h
    ·rename_i l e hf
     split at h
     ·simp only [Option.some.injEq] at h
      subst h
      simp only [Rows.uptoBulk, Nat.add_mul]
      have := each fs.toList 0 e l hf hl parts x hx
      omega
     ·simp at h
    ·simp at h
   ·rename_i hu; simp [shOf, hu] at h
   ·simp at hx
theorem weightsEach_bulk {P : Program} {C n : Nat} (hC : 1 ≤ C) : ∀ {ts : List TypeId} {shs : List (List Sh)} (ds : List (DataW H)), ts.map (shOf P n) = shs.map some → shs.all (shLeL C) = true → ∀ x ∈ DataW.weightsEach P ts ds, x ≤ Rows.uptoBulkAll ds * C
 | [], shs, ds, h, hl => by intro x hx; simp [DataW.weightsEach] at hx
 | t :: ts, shs, ds, h, hl => by
  intro x hx
  cases ds with
  | nil => simp [DataW.weightsEach] at hx
  | cons d r =>
   cases shs with
   | nil => simp at h
   | cons s ss =>
    simp only [List.map_cons, List.cons.injEq] at h
    simp only [List.all_cons, Bool.and_eq_true] at hl
    simp only [DataW.weightsEach, List.mem_append] at hx
    simp only [Rows.uptoBulkAll, Nat.add_mul]
    rcases hx with hx | hx
    ·have := weights_bulk hC n t s d h.1 hl.1 x hx; omega
    ·have := weightsEach_bulk hC r h.2 hl.2 x hx; omega
theorem small_le {P : Program} {C n : Nat} (hC : 1 ≤ C) {ts : List TypeId} {shs : List (List Sh)} {ds : List (DataW H)} (hk : Rows.uptoSmall H ds = true) (h : ts.map (shOf P n) = shs.map some) (hl : shs.all (shLeL C) = true) : ∀ x ∈ DataW.weightsEach P ts ds, x ≤ 1048576 * C := by
 intro x hx
 have h1 := weightsEach_bulk hC ds h hl x hx
 simp only [Rows.uptoSmall, decide_eq_true_eq] at hk
 exact Nat.le_trans h1 (Nat.mul_le_mul_right _ hk)
end
end Go.Proofs.YtdgocjbakjamaaaGreat
end

section
namespace Go.Proofs.YtdgocjbakjamaaaGreat
open Go Go.Dm
attribute [local irreducible] DW callP callS callY RB Dm.Sub
set_option maxRecDepth 100000
def outK (z : List Arc) (q : Int) (k : Nat) : List Arc := (z.take k).filter fun x => decide (x.fr = q)
def dOut (x : Arc) : List DVal := [.agg [.bool x.sy.label, .int .i64 x.sy.n], .int .i64 x.to]
theorem outK_zero (z : List Arc) (q : Int) : outK z q 0 = [] := by simp [outK]
theorem outK_next {z : List Arc} {q : Int} {k : Nat} {x : Arc} (h : z[k]? = some x) : outK z q (k + 1) = outK z q k ++ (if x.fr = q then [x] else []) := by
 unfold outK
 rw [List.take_add_one, h, List.filter_append]
 congr 1
 by_cases hx : x.fr = q <;> simp [hx]
theorem outK_len (z : List Arc) (q : Int) (k : Nat) : (outK z q k).length ≤ k := by
 unfold outK
 have := List.length_filter_le (fun x : Arc => decide (x.fr = q)) (z.take k)
 rw [List.length_take] at this
 omega
theorem outK_split {z : List Arc} {q : Int} {n m : Nat} (h : n ≤ m) : ∃ r, outK z q m = outK z q n ++ r := by
 obtain ⟨d, rfl⟩ : ∃ d, m = n + d := ⟨m - n, by omega⟩
 unfold outK
 rw [List.take_add, List.filter_append]
 exact ⟨_, rfl⟩
theorem outK_at {z : List Arc} {q : Int} {n m : Nat} {x : Arc} (h : z[n]? = some x) (hx : x.fr = q) (hm : n < m) : (outK z q m)[(outK z q n).length]? = some x := by
 obtain ⟨r, hr⟩ := outK_split (z := z) (q := q) (show n + 1 ≤ m from hm)
 rw [hr, outK_next h, if_pos hx]
 simp
theorem outK_lt {z : List Arc} {q : Int} {n m : Nat} {x : Arc} (h : z[n]? = some x) (hx : x.fr = q) (hm : n < m) : (outK z q n).length < (outK z q m).length := (List.getElem?_eq_some_iff.1 (outK_at h hx hm)).1
def anRS1093 : Ann := ⟨[23], [⟨2, [5], [], []⟩]⟩
set_option maxHeartbeats 2000000 in
theorem out93_spec (H L : List ByteArray) (A : List Auto) (hsm : ∀ a ∈ A, SmA a) (hl : A.length ≤ 16) (q : Int) (ok : Nat → Bool) : ISpec Tryz.prog 93 [] [.ref [dMach H L A], .ref [.int .i64 q]] ((outK (arcA A) q (arcA A).length).map dOut) ok := by
 intro l Ay Zy hY
 refine DSpec_intro [] [(0, 0, 0), (1, 1, 1)] (fn := Tryz.f93) Tryz.func93 rfl Tryz.call93 (by simp [Tryz.ntmps93]) (by simp) (by simp) ?_
 intro hwf B hnt
 simp only [Tryz.ntmps93] at hnt
 have hA := an_is anRS1093 Tryz.mixed (aj2 @anRS1093.eq_1 Tryz.results93)
 clear hwf
 have e1 := marcs45_pure H L A hsm hl
 have har : (arcA A).length ≤ 17179870208 := Nat.le_trans (arcA_len hsm 0) (Nat.mul_le_mul_left 1073741888 hl)
 simp only [argS, List.nil_append, dMach] at e1 ⊢
 obtain ⟨z, hz⟩ : ∃ z, z = arcA A := ⟨_, rfl⟩
 rw [← hz] at e1 hY har ⊢
 clear hz hsm
 have o0 := outK_zero z q
 (refine go1 (aj1 e1) aj0 aj0 ?_; intros; refine mk_i ?_)
 refine DW_loop (X := {k : Nat // k ≤ z.length ∧ ∀ j, j < (outK z q k).length → ok j = true}) (fun k => ⟨[(0, .pk 0 0), (2, .ref [.int .i64 q]), (7, dArcs z), (8, .int .i64 z.length), (9, .int .i64 k.1)], [⟨0, 0, .abs (yH l)⟩, ⟨1, 1, .abs (Ay (outK z q k.1).length)⟩]⟩) (fun k => z.length - k.1) ⟨0, by simp [o0]⟩ (Sub.lit (by simp [o0])) ?_
 rintro ⟨k, hk, hj⟩
 by_cases hlt : k < z.length
 ·obtain ⟨x, hx, hx', hxm⟩ := at_lt' hlt
  have hs := outK_next (q := q) hx
  have hwk : IntKind.i64.wrap ((k : Int) + 1) = (k : Int) + 1 := wrap64_in (by omega) (by omega)
  by_cases hh : x.fr = q
  ·have hyx := hY (outK z q k).length (dOut x) (by rw [List.getElem?_map, outK_at hx hh hlt]; rfl) hj
   rw [if_pos hh] at hs
   (refine go1 aj0 aj0 (aj5 @dArc.eq_1 hlt hx' hx hh) ?_; intros; refine mk_i ?_)
   cases hok : ok (outK z q k).length
   ·rw [hok] at hyx
    refine callY_mk hyx (by simp [dOut, mxL, mx]) (fun r => ?_)
    have hst := stopAt_some (outK_lt hx hh hlt) hj hok
    simp [hnt, Tryz.results93, anRS1093, hst]
    exact go0 aj0 aj0 (aj1 hst)
   ·rw [hok] at hyx
    refine callY_mk hyx (by simp [dOut, mxL, mx]) (fun r => ?_)
    simp [hnt, Tryz.results93, anRS1093]
    (refine go1 aj0 aj0 (aj1 hwk) ?_; intros; refine mk_i ?_)
    refine Again.mk ⟨k + 1, by omega, by rw [hs]; intro j hj'; simp at hj'; by_cases hjk : j = (outK z q k).length; (· subst hjk; exact hok); exact hj j (by omega)⟩ (Sub.lit (by simp [hs])) (by simp; omega)
    skip
  ·rw [if_neg hh, List.append_nil] at hs
   have hb : (x.fr == q) = false := by simpa using hh
   (refine go1 aj0 aj0 (aj7 @dArc.eq_1 hlt hx' hx hh hb hwk) ?_; intros; refine mk_i ?_)
   refine Again.mk ⟨k + 1, by omega, by rw [hs]; exact hj⟩ (Sub.lit (by simp [hs])) (by simp; omega)
   skip
 ·have hkk : k = z.length := by omega
  subst hkk
  have hst := stopAt_none hj
  exact go0 aj0 aj0 (aj1 hst)
def anRS1029 : Ann := ⟨[], []⟩
theorem out29_pure (H L : List ByteArray) (A : List Auto) (q : Int) : DPure Tryz.prog 29 [dMach H L A, .int .i64 q] (.fn (.func 93) [] [.ref [dMach H L A], .ref [.int .i64 q]]) := by
 refine DPure_introF [] (fn := Tryz.f29) Tryz.func29 rfl Tryz.call29 (by simp [Tryz.ntmps29]) (by simp [mx, mxL, dMach]) ?_
 intro hwf B hnt
 simp only [Tryz.ntmps29] at hnt
 have hA := an_is anRS1029 Tryz.mixed (aj2 @anRS1029.eq_1 Tryz.results29)
 clear hwf
 simp only [argS, dMach]
 exact go0 aj0 aj0 aj0
end Go.Proofs.YtdgocjbakjamaaaGreat
end

section
namespace Go.Proofs.YtdgocjbakjamaaaGreat
open Go Go.Dm
attribute [local irreducible] DW callP callS callY RB Dm.Sub
set_option maxRecDepth 100000
theorem dOut_mx (l : List Arc) : ∀ x ∈ l.map dOut, x.length = 2 ∧ mxL x = 0 := by
 intro x hx
 obtain ⟨y, _, rfl⟩ := List.mem_map.1 hx
 exact ⟨rfl, by simp [dOut, mxL, mx]⟩
theorem bnd_o {a : Nat} (h : a ≤ 17179870208) : (a + 1) * 32 ≤ 150000000000000 := by omega
def anRS116 : Ann := ⟨[], [⟨4, [9], [], []⟩, ⟨11, [51, 10], [], []⟩, ⟨13, [13], [], []⟩]⟩
set_option maxHeartbeats 8000000 in
theorem rsmOut_pure (g : List Rul) (q leave : Int) (hs : SmlG g) (hl : g.length * 40 ≤ 140737488355328) : DPure Tryz.prog 6 [dRuls g, .int .i64 q, .int .i64 leave] (.bool true) := by
 obtain ⟨c, p1, p2, p3⟩ := g_may g hs
 by_cases hc : c = 0
 ·obtain ⟨gt, rfl, h⟩ := p3 hc
  subst hc
  have e1 := machine27_pure gt h hs p1 p2
  have e2 := rnew28_pure gt h hs
  have hsm := autL_sm h
  have hal := autL_len gt
  have hhd := h.hd
  obtain ⟨A, hA⟩ : ∃ A, A = autL gt := ⟨_, rfl⟩
  rw [← hA] at e1 e2 hsm hal
  have hA16 : A.length ≤ 16 := by omega
  obtain ⟨H, hH⟩ : ∃ H, H = headsL (mkG gt) := ⟨_, rfl⟩
  obtain ⟨L, hL⟩ : ∃ L, L = labelsL' (mkG gt) := ⟨_, rfl⟩
  rw [← hH, ← hL] at e1
  obtain ⟨g, hg⟩ : ∃ g, g = mkG gt := ⟨_, rfl⟩
  rw [← hg] at e1 e2 ⊢
  clear hA hH hL hg p1 p2 p3 hhd hal hl hs h
  have har : (arcA A).length ≤ 17179870208 := Nat.le_trans (arcA_len hsm 0) (Nat.mul_le_mul_left 1073741888 hA16)
  have e3 := out29_pure H L A q
  have hI := out93_spec H L A hsm hA16 q (fun k => decide ((k : Int) + 1 ≠ leave))
  unfold refM at e2
  unfold dMach at e1 e3 hI
  obtain ⟨z, hz⟩ : ∃ z, z = arcA A := ⟨_, rfl⟩
  rw [← hz] at e2 hI har
  clear hz hsm
  have o0 := outK_zero z q
  refine DPure_introF [] (fn := Tryz.f6) Tryz.func6 rfl Tryz.call6 (by simp [Tryz.ntmps6]) (by simp [mx]) ?_
  intro hwf B hnt
  simp only [Tryz.ntmps6] at hnt
  have hA := an_is anRS116 Tryz.mixed (aj2 @anRS116.eq_1 Tryz.results6)
  clear hwf
  simp only [argS]
  (refine go1 (aj2 e1 e2) aj0 aj0 ?_; intros; refine mk_i ?_)
  refine DW_adoptC 10 0 51 49 4 32 (by simp) (fun n => ?_)
  refine DW_loop (X := {k : Nat // k ≤ z.length}) (fun k => ⟨[(1, .int .i64 q), (5, .ref [.int .i64 leave]), (6, .bx 6 1 0), (7, .ref [dTab H L, dPts (parA 0 A), .int .i64 (sumS A)]), (9, .ref [.int .i64 (sumS A), dNats (stL A), dNats (ntL A), dNums (finA A), dArcs z, dAutos A]), (10, .bx 10 1 0), (11, .int .i64 k.1)], [⟨6, 1, .box [.bool false]⟩, ⟨10, 1, .box [.osl 51 1]⟩, ⟨51, 1, .row 49 4 32 ((outK z q k.1).map dArc)⟩]⟩) (fun k => z.length - k.1) ⟨0, by simp⟩ (Sub.lit (by simp [o0])) ?_
  rintro ⟨k, hk⟩
  simp only
  by_cases hlt : k < z.length
  ·obtain ⟨x, hx, hx', hxm⟩ := at_lt' hlt
   have hnx := outK_next (q := q) hx
   have hle := outK_len z q k
   have hb : ((outK z q k).length + 1) * 32 ≤ 150000000000000 := bnd_o (by omega)
   have hwk : IntKind.i64.wrap ((k : Int) + 1) = (k : Int) + 1 := wrap64_in (by omega) (by omega)
   obtain ⟨T, hT⟩ : ∃ T, T = outK z q k := ⟨_, rfl⟩
   rw [← hT] at hnx hb ⊢
   clear har hle hT
   by_cases hh : x.fr = q
   ·rw [if_pos hh] at hnx
    have hn2 := congrArg (List.map dArc) hnx
    rw [List.map_append] at hn2
    have hn3 : List.map dArc (outK z q (k + 1)) = List.map dArc T ++ [[.int .i64 x.fr, .bool x.sy.label, .int .i64 x.sy.n, .int .i64 x.to]] := hn2
    rw [hh] at hn3
    (refine go1 aj0 aj0 (aj7 @dArc.eq_1 hlt hx hx' hh hb hwk) ?_; intros; refine mk_i ?_)
    refine Again.mk ⟨k + 1, by omega⟩ (Sub.lit (by simp [hn3])) (by simp; omega)
    skip
   ·rw [if_neg hh, List.append_nil] at hnx
    have hh2 : (x.fr == q) = false := by simpa using hh
    (refine go1 aj0 aj0 (aj7 @dArc.eq_1 hlt hx hx' hh hh2 hwk) ?_; intros; refine mk_i ?_)
    refine Again.mk ⟨k + 1, by omega⟩ (Sub.lit (by simp [hnx])) (by simp; omega)
    skip
  ·have hkk : k = z.length := by omega
   subst hkk
   have hle := outK_len z q z.length
   obtain ⟨xs, hxs⟩ : ∃ xs, xs = outK z q z.length := ⟨_, rfl⟩
   rw [← hxs] at hI hle ⊢
   have hxl : xs.length ≤ 17179870208 := by omega
   clear hxs hle hk hlt har o0
   (refine go1 (aj1 e3) aj0 aj0 ?_; intros; refine mk_i ?_)
   have hstop := stopAt_inv (ok := fun k => decide ((k : Int) + 1 ≠ leave)) (n := xs.length)
   obtain ⟨T, e0, hT⟩ : ∃ T e0, (stopAt (fun k => decide ((k : Int) + 1 ≠ leave)) xs.length = none ∧ e0 = Exit.normal ∧ T = [⟨6, 0, .box [.bool false]⟩, ⟨12, 0, .box [.int .i64 xs.length]⟩]) ∨
     (∃ k : Nat, k < xs.length ∧ stopAt (fun k => decide ((k : Int) + 1 ≠ leave)) xs.length = some k ∧ e0 = Exit.ret ∧ T = [(⟨6, 0, .box [.bool true]⟩ : Ent), ⟨12, 0, .box [.int .i64 (k + 1)]⟩]) := by
    rcases hstop with ⟨k, h4, h5, _⟩ | ⟨h5, _⟩
    ·exact ⟨_, _, .inr ⟨k, h4, h5, rfl, rfl⟩⟩
    ·exact ⟨_, _, .inl ⟨h5, rfl, rfl⟩⟩
   refine DW_rangeFunc (nt := 88) [(6, 6), (12, 12)] [] [(5, .ref [.int .i64 leave]), (6, .bx 6 0 0), (10, .ref [.sl 4 32 (xs.map dArc)]), (12, .bx 12 0 0), (54, .fn (.func 93) [] [.ref [.ref [dTab H L, dPts (parA 0 A), .int .i64 (sumS A)]], .ref [.int .i64 q]])]
    (fun k => [⟨6, 0, .box [.bool false]⟩, ⟨12, 0, .box [.int .i64 k]⟩]) (fun k => [⟨6, 0, .box [.bool true]⟩, ⟨12, 0, .box [.int .i64 (k + 1)]⟩]) (fun _ => .ret) T e0
    hI (by simp [hnt]) (by simp [mxS]) (by simp [mxL, mx]) (List.mem_of_getElem? (i := 4) rfl) (dOut_mx _) (by simp) ?_ ?_ ?_ ?_ ?_
   ·simp
   ·intro k x hx hj B1 hnt
    rw [List.getElem?_map, Option.map_eq_some_iff] at hx
    obtain ⟨y, hy, rfl⟩ := hx
    have hkl : k < xs.length := (List.getElem?_eq_some_iff.1 hy).1
    have hy' : xs[k]'hkl = y := (List.getElem?_eq_some_iff.1 hy).2
    have hkl' : ¬ xs.length ≤ k := by omega
    have hwk : IntKind.i64.wrap ((k : Int) + 1) = (k : Int) + 1 := wrap64_in (by omega) (by omega)
    simp only [Array.toList, putM, dOut]
    (refine go1 aj0 aj0 aj0 ?_; intros; refine mk_i ?_)
    refine RB_mk fun B2 hnt => ?_
    by_cases hle : (k : Int) + 1 = leave
    ·(refine go1 aj0 aj0 (aj7 @dArc.eq_1 hkl hkl' hy hy' hle hwk) ?_; intros; refine mk_i ?_)
     refine Sub.lit ?_
     simp [hle]
    ·have hle' : ((k : Int) + 1 == leave) = false := by simpa using hle
     (refine go1 aj0 aj0 (aj8 @dArc.eq_1 hkl hkl' hy hy' hle hle' hwk) ?_; intros; refine mk_i ?_)
     refine Sub.lit ?_
     simp
   ·simp only [List.length_map]
    rcases hT with ⟨h4, rfl, rfl⟩ | ⟨k, h4, h5, rfl, rfl⟩
    ·rw [h4]; exact ⟨rfl, rfl⟩
    ·rw [h5]; exact ⟨.inl (by simp), rfl⟩
   ·rcases hT with ⟨h4, rfl, rfl⟩ | ⟨k, h4, h5, rfl, rfl⟩ <;> simp
   ·intro r
    rcases hT with ⟨h4, rfl, rfl⟩ | ⟨k, h4, h5, rfl, rfl⟩
    ·simp
     exact go0 aj0 aj0 aj0
    ·simp
     skip
 ·have e1 := machine27_err g c hs hl hc p1 p2
  refine DPure_introF [] (fn := Tryz.f6) Tryz.func6 rfl Tryz.call6 (by simp [Tryz.ntmps6]) (by simp [mx]) ?_
  intro hwf B hnt
  simp only [Tryz.ntmps6] at hnt
  have hA := an_is anRS116 Tryz.mixed (aj2 @anRS116.eq_1 Tryz.results6)
  clear hwf
  simp only [argS]
  exact go0 (aj1 e1) aj0 aj0
end Go.Proofs.YtdgocjbakjamaaaGreat
end

