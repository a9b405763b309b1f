/- The data machine, second make, part Y: slices.SortFunc at structs, by the shelf's contract, as a contract on own rows. -/
import Derived.Test.YtihkcegelghcpaaEnV
import Derived.Shelf.SlSortCmp.NoneTotal
set_option linter.unusedSimpArgs false
set_option linter.unusedVariables false
namespace Go.Dm
open Go.Shelf Go.Sort Go.Proofs

theorem upd_grow {w w' : World} (h : Upd [] w w') : ∃ q os, w' = grow (w.drewN q) os := by
  refine ⟨w'.drawn - w.drawn, w'.heap.extract w.heap.size w'.heap.size, ?_⟩
  obtain ⟨heap, tape, drawn, os, output⟩ := w'
  obtain ⟨h1, h2, h3, h4, h5, h6⟩ := h
  simp only at h1 h2 h3 h4 h5 h6 ⊢
  subst h1; subst h2; subst h3
  have e1 : w.heap ++ heap.extract w.heap.size heap.size = heap := by
    apply Array.ext_getElem?
    intro i
    by_cases hi : i < w.heap.size
    · rw [Array.getElem?_append_left hi, ← h6 i hi (by simp)]
    · rw [Array.getElem?_append_right (by omega), Array.getElem?_extract]
      by_cases hi2 : i < heap.size
      · rw [if_pos (by omega)]
        congr 1
        omega
      · rw [if_neg (by omega), Array.getElem?_eq_none (by omega)]
  have e2 : w.drawn + (drawn - w.drawn) = drawn := by omega
  simp [grow, World.drewN, e1, e2]

section
variable {P : Program} {ρ : Ren} {g : FuncId} {et k cap b : Nat} {cs : List DVal} {cs' : Array Value} {cf : List DVal → List DVal → Int} {es es' : List (List DVal)} {cu0 : Cur} {M1 : List Nat} {w : World} {arr : Array Value}

theorem sortWorld_at {α : Type} [Inhabited α] (enc : α → List Value) (p3 : w.heap[b]? = some (.cells arr et (0, 0))) (m : Nat) (os : Array Obj) (dk : Array α) :
    (sortWorldK enc k w b 0 m dk os).heap[b]? = some (.cells (putCells id 0 (flatK enc k dk) arr) et (0, 0)) ∧ (∀ q, q < w.heap.size → q ≠ b → (sortWorldK enc k w b 0 m dk os).heap[q]? = w.heap[q]?) ∧ w.heap.size ≤ (sortWorldK enc k w b 0 m dk os).heap.size ∧
        (sortWorldK enc k w b 0 m dk os).os = w.os ∧ (sortWorldK enc k w b 0 m dk os).tape = w.tape ∧ (sortWorldK enc k w b 0 m dk os).output = w.output ∧ w.drawn ≤ (sortWorldK enc k w b 0 m dk os).drawn := by
  have hblk : b < w.heap.size := (Array.getElem?_eq_some_iff.1 p3).1
  refine ⟨?_, fun q hq hqb => ?_, ?_, rfl, rfl, rfl, Nat.le_add_right _ _⟩
  · simp only [sortWorldK, grow, putRowK, putRow, mapBlock, ahead]
    rw [Array.getElem?_append_left (by simpa using hblk), Array.getElem?_modify]
    simp [p3, onCells]
  · simp only [sortWorldK, grow, putRowK, putRow, mapBlock, ahead]
    rw [Array.getElem?_append_left (by simpa using hq), Array.getElem?_modify]
    rw [if_neg (fun h => hqb h.symm)]
    rfl
  · simp [sortWorldK, grow, putRowK, putRow, mapBlock, ahead]

/-- the cells of the row that is sorted -/
theorem putCells_at {α : Type} [Inhabited α] {enc : α → List Value} (hlen : ∀ x, (enc x).length = k) {dk : Array α} {i p : Nat} (hi : i < dk.size) (hp : p < k) (hsz : dk.size * k ≤ arr.size) :
    (putCells id 0 (flatK enc k dk) arr)[i * k + p]? = (enc dk[i]!)[p]? := by
  have hrow := mul_lt_row (k := k) hi
  have hlt : i * k + p < arr.size := by omega
  have hdiv : (i * k + p) / k = i := by
    rw [Nat.mul_comm, Nat.mul_add_div (by omega), Nat.div_eq_of_lt hp]; omega
  have hmod : (i * k + p) % k = p := by rw [Nat.mul_comm, Nat.mul_add_mod]; exact Nat.mod_eq_of_lt hp
  have hlf : i * k + p < dk.size * k := by omega
  have hpe : p < (enc dk[i]!).length := by rw [hlen]; exact hp
  simp only [putCells, Nat.zero_add, Array.getElem?_mapIdx, Array.getElem?_eq_getElem hlt, Option.map_some, Nat.zero_le, true_and, size_flatK, hlf, if_true, Nat.sub_zero, id]
  rw [get_flatK _ _ _ _ hlf, hdiv, hmod, getElem!_pos (enc dk[i]!) p hpe, List.getElem?_eq_getElem hpe]

theorem sort_core {α : Type} [Inhabited α] (L : SlLaysF0.n6 P ρ) (dt : α → List DVal) (enc : α → List Value) (d : Array α) (hag : tAgg P (ρ.t 24) = some true) (hcl : tCells P (ρ.t 24) = some k) (hcs : mxL cs = 0) (hes : ∀ x ∈ es, mxL x = 0)
    (hdt : ∀ x, dt x ∈ es) (hdk : ∀ x, (dt x).length = k) (hrd : ∀ x, rdV cu0 M1 w.heap (dt x) (enc x)) (hone : ∀ x, ∀ u ∈ enc x, u.oneCell' = true) (hdsz : d.size = es.length)
    (hd : ∀ i (hi : i < es.length), dt d[i]! = es[i] ∧ ∀ (q : Nat) (v : Value), (enc d[i]!)[q]? = some v → arr[i * k + q]? = some v)
    (p3 : w.heap[b]? = some (.cells arr et (0, 0))) (hcap : es.length * k ≤ arr.size) (hbM : b ∈ M1) (hMlt : ∀ q ∈ M1, q < w.heap.size) (hcsr : rdV cu0 M1 w.heap cs cs'.toList) (hlt : es.length < 4611686018427387904)
    (hg : Enters P g) (hcmp : ∀ x ∈ es, ∀ y ∈ es, DPure P g (.agg x :: .agg y :: cs) (.int .i64 (cf x y)))
    (hirr : ∀ x ∈ es, ¬ cf x x < 0) (htr : ∀ x ∈ es, ∀ y ∈ es, ∀ z ∈ es, cf x y < 0 → cf y z < 0 → cf x z < 0) (hnt : ∀ x ∈ es, ∀ y ∈ es, ∀ z ∈ es, ¬ cf x y < 0 → ¬ cf y z < 0 → ¬ cf x z < 0)
    (huniq : ∀ l : List (List DVal), l.Perm es → l.Pairwise (fun x y => ¬ cf y x < 0) → l = es') :
    Calls P (ρ.f 6) #[.slice (some ⟨b, 0, none⟩) es.length cap, .func (.func g) #[] cs'] w fun e w' => e = .returned (.tuple #[]) ∧ es'.length = es.length ∧ Upd [b] w w' ∧
      ∃ arr', w'.heap[b]? = some (.cells arr' et (0, 0)) ∧ arr'.size = arr.size ∧ ∀ cur M2, (∀ q ∈ M2, q ∈ M1) → rdR cur M2 w'.heap k es' arr' 0 := by
  have hlen : ∀ x : α, (enc x).length = k := fun x => by
    have := rdV_length _ _ (hrd x)
    have := hdk x
    omega
  have hO : SWO (ltOf fun x y : α => cf (dt x) (dt y)) := by
    refine ⟨fun x => ?_, fun x y z h1 h2 => ?_, fun x y z h1 h2 => ?_⟩
    · simp only [ltOf, decide_eq_false_iff_not]; exact hirr _ (hdt x)
    · simp only [ltOf, decide_eq_true_eq] at *; exact htr _ (hdt x) _ (hdt y) _ (hdt z) h1 h2
    · simp only [ltOf, decide_eq_false_iff_not] at *; exact hnt _ (hdt x) _ (hdt y) _ (hdt z) h1 h2
  have hH : HoldsK enc k w b 0 d := by
    intro j hj
    rw [size_flatK, hdsz] at hj
    have hk0 : 0 < k := by
      rcases Nat.eq_zero_or_pos k with h | h
      · subst h; simp at hj
      · exact h
    have hi : j / k < es.length := by rw [Nat.div_lt_iff_lt_mul hk0]; exact hj
    have hq : j % k < k := Nat.mod_lt _ hk0
    rw [get_flatK _ _ _ _ (by rw [hdsz]; exact hj)]
    have hq' : j % k < (enc d[j / k]!).length := by rw [hlen]; exact hq
    have hcell := (hd _ hi).2 (j % k) _ (List.getElem?_eq_getElem hq')
    rw [Nat.mul_comm, Nat.div_add_mod] at hcell
    rw [getElem!_pos (enc d[j / k]!) _ hq']
    exact ⟨by simp only [World.cell?, p3, Nat.zero_add, id]; exact hcell, by simp [World.frozen?, p3]⟩
  have hblk : b < w.heap.size := (Array.getElem?_eq_some_iff.1 p3).1
  have Wk : ∀ m os (dk : Array α) (cur : Cur) (M2 : List Nat), (∀ q ∈ M2, q ∈ M1) → Weak cu0 cur M1 M2 w.heap (sortWorldK enc k w b 0 m dk os).heap 0 := by
    intro m os dk cur M2 hM2
    have hW := sortWorld_at (et := et) (arr := arr) (k := k) enc p3 m os dk
    exact ⟨fun _ _ _ h => by omega, fun q o hq (_ : isD o = true) ho => by rw [hW.2.1 q (Array.getElem?_eq_some_iff.1 ho).1 (fun h => hq (h ▸ hbM))]; exact ho, fun q o hq (_ : isD o = true) _ hm => hq (hM2 q hm)⟩
  have hC : CmpLays P g cs' enc k (fun x y : α => cf (dt x) (dt y)) b 0 d.size w := by
    intro m os dk _ x y
    have hD := hcmp _ (hdt x) _ (hdt y)
    have hW := sortWorld_at (et := et) (arr := arr) (k := k) enc p3 m os dk
    have hx := rdV_weak (Wk m os dk (fun _ _ => none) M1 (fun _ h => h)) _ _ (Nat.le_of_eq (hes _ (hdt x))) (hrd x)
    have hy := rdV_weak (Wk m os dk (fun _ _ => none) M1 (fun _ h => h)) _ _ (Nat.le_of_eq (hes _ (hdt y))) (hrd y)
    have hc := rdV_weak (Wk m os dk (fun _ _ => none) M1 (fun _ h => h)) _ _ (Nat.le_of_eq hcs) hcsr
    obtain ⟨X, hX⟩ : ∃ X, X = (enc x).toArray := ⟨_, rfl⟩
    obtain ⟨Y, hY⟩ : ∃ Y, Y = (enc y).toArray := ⟨_, rfl⟩
    simp only [← hX, ← hY]
    generalize sortWorldK enc k w b 0 m dk os = V at hW hx hy hc ⊢
    have key := hD.2.2 (fun _ _ => none) M1 V (#[.agg X, .agg Y] ++ cs') (fun q hq => Nat.lt_of_lt_of_le (hMlt q hq) hW.2.2.1)
    refine (key ?_).mono ?_
    · have e1 : (#[Value.agg X, Value.agg Y] ++ cs').toList = Value.agg X :: Value.agg Y :: cs'.toList := by simp
      rw [e1]
      simp only [rdV]
      refine ⟨_, _, rfl, ?_, _, _, rfl, ?_, hc⟩
      · simp only [rd]; exact ⟨_, rfl, by rw [hX]; exact hx⟩
      · simp only [rd]; exact ⟨_, rfl, by rw [hY]; exact hy⟩
    · rintro e w' ⟨v, rfl, hu, hv⟩
      simp only [rd] at hv
      exact ⟨by rw [hv.1], upd_grow hu⟩
  have hrun := AnyQ.slices_SortFunc L k (run_isAgg hag) (run_sizeOf' hcl) enc hlen hone (fun x y : α => cf (dt x) (dt y)) hO g cs' b 0 cap d w hg hC hH hblk (by omega)
  rw [hdsz] at hrun
  refine hrun.mono ?_
  rintro e w' ⟨rfl, d', n, os, hP, hS, rfl⟩
  obtain ⟨hsz', _, hperm⟩ := hP
  rw [hdsz] at hsz'
  have e1 : d'.extract 0 es.length = d' := by rw [← hsz']; exact Array.extract_size
  have e2 : d.extract 0 es.length = d := by rw [← hdsz]; exact Array.extract_size
  rw [e1, e2] at hperm
  have hdes : d.toList.map dt = es := by
    apply List.ext_getElem
    · simp [hdsz]
    · intro i h1 h2
      have := (hd i h2).1
      rw [getElem!_pos d i (by omega)] at this
      simpa using this
  have hdata : d'.toList.map dt = es' := by
    refine huniq _ ?_ ?_
    · have := hperm.map dt
      rwa [hdes] at this
    · rw [List.pairwise_map, List.pairwise_iff_getElem]
      intro i j hi hj hij
      have hi' : i < d'.size := by simpa using hi
      have hj' : j < d'.size := by simpa using hj
      have := hS i j (Nat.zero_le _) hij (by omega)
      rw [getElem!_pos d' j hj', getElem!_pos d' i hi'] at this
      simpa [ltOf] using this
  have hlen' : es'.length = es.length := by rw [← hdata]; simp [hsz']
  obtain ⟨q1, q2, q3, q4, q5, q6, q7⟩ := sortWorld_at (et := et) (arr := arr) (k := k) enc p3 n os d'
  refine ⟨rfl, hlen', ⟨q4, q5, q6, q7, q3, fun q hq hn => q2 q hq (fun h => hn (by simp [h]))⟩, _, q1, by simp [putCells], fun cur M2 hM2 => ?_⟩
  refine rdR_mk _ _ _ _ fun i cs0 hi => ?_
  have hil : i < es'.length := (List.getElem?_eq_some_iff.1 hi).1
  have hid : i < d'.size := by omega
  have hcs0 : cs0 = dt d'[i]! := by
    rw [← hdata, List.getElem?_map] at hi
    rw [getElem!_pos d' i hid]
    simp [hid] at hi
    exact hi.symm
  subst hcs0
  refine ⟨hdk _, ?_⟩
  have hv := rdV_weak (Wk n os d' cur M2 hM2) _ _ (Nat.le_of_eq (hes _ (hdt _))) (hrd d'[i]!)
  have h0 := rdC_of _ _ [] [] hv (hone _)
  refine rdC_same _ _ _ _ _ (fun p hp => ?_) h0
  have hp' : p < k := by rw [hdk] at hp; exact hp
  rw [Nat.zero_add, putCells_at hlen hid hp' (by rw [hsz']; exact hcap)]
  simp
end

/-- SORTED BY A COMPARISON: what an own row holds behind is the one sorted list of its elements. -/
theorem sort_spec {P : Program} {ρ : Ren} (L : SlLaysF0.n6 P ρ) {f g : FuncId} {et k bs : Nat} {cs : List DVal} {cf : List DVal → List DVal → Int} {es es' : List (List DVal)} (hf : ρ.f 6 = f) (hen : Enters P f) (hag : tAgg P (ρ.t 24) = some true) (hcl : tCells P (ρ.t 24) = some k)
    (hbs0 : 0 < bs) (hcs : mxL cs = 0) (hes : ∀ x ∈ es, mxL x = 0) (hg : Enters P g) (hcmp : ∀ x ∈ es, ∀ y ∈ es, DPure P g (.agg x :: .agg y :: cs) (.int .i64 (cf x y)))
    (hirr : ∀ x ∈ es, ¬ cf x x < 0) (htr : ∀ x ∈ es, ∀ y ∈ es, ∀ z ∈ es, cf x y < 0 → cf y z < 0 → cf x z < 0) (hnt : ∀ x ∈ es, ∀ y ∈ es, ∀ z ∈ es, ¬ cf x y < 0 → ¬ cf y z < 0 → ¬ cf x z < 0)
    (huniq : ∀ l : List (List DVal), l.Perm es → l.Pairwise (fun x y => ¬ cf y x < 0) → l = es') :
    DSpec P (.func f) [.osl 0 0, .fn (.func g) [] cs] [⟨0, 0, .row et k bs es⟩] (.tup []) [⟨0, 0, .row et k bs es'⟩] := by
  refine ⟨by simp, hen, fun M w loc vs S hr => ?_⟩
  refine ⟨hen, ?_⟩
  simp only [rdV] at hr
  obtain ⟨v0, r0, hvs, h0, v1, r1, rfl, h1, rfl⟩ := hr
  simp only [rd] at h0 h1
  obtain ⟨us', cs', rfl, hus, hcsr⟩ := h1
  simp only [rdV] at hus
  have hus' : us' = #[] := by cases us'; simpa using hus
  subst hus'
  have hcur0 : curOf [(⟨0, 0, .row et k bs es⟩ : Ent)] loc 0 0 = some (loc 0) := rfl
  have hv0 := h0 _ hcur0
  have hvs' : vs = #[v0, .func (.func g) #[] cs'] := by cases vs; simpa using hvs
  subst hvs'
  subst hf
  have hhot : hotOf [(⟨0, 0, .row et k bs es⟩ : Ent)] loc = (loc 0).blks := by simp [hotOf]
  have hhot' : hotOf [(⟨0, 0, .row et k bs es'⟩ : Ent)] loc = (loc 0).blks := by simp [hotOf]
  have htup : ∀ cur M h, rd cur M h (.tup []) (.tuple #[]) := fun _ _ _ => by simp only [rd]; exact ⟨#[], rfl, by simp [rdV]⟩
  have hk := S.ok ⟨0, 0, .row et k bs es⟩ (by simp)
  by_cases hne : es = []
  · subst hne
    have hes' : es' = [] := (huniq [] (List.Perm.refl _) List.Pairwise.nil).symm
    subst hes'
    obtain ⟨a, cap, hh⟩ : ∃ a cap, (loc 0).hdr = .slice a 0 cap := by
      obtain ⟨_, ⟨_, _, h2⟩ | ⟨b, arr, cap, _, h2, _⟩⟩ := hk
      · exact ⟨_, _, h2⟩
      · exact ⟨_, _, h2⟩
    rw [hh] at hv0
    subst hv0
    refine (AnyF.slices_SortFunc_none { L with } a cap (.func (.func g) #[] cs') w).mono ?_
    rintro e w' ⟨rfl, rfl⟩
    exact ⟨_, rfl, loc, S, Upd.refl _ _, fun b hb => .inl hb, fun e he _ => curOf_self S.nd he, htup _ _ _⟩
  · obtain ⟨b, arr, cap, p1, p2, p3, p4, p5, p6, p7⟩ : ∃ b arr cap, (loc 0).blks = [b] ∧ (loc 0).hdr = .slice (some ⟨b, 0, none⟩) es.length cap ∧ w.heap[b]? = some (.cells arr et (0, 0)) ∧ es.length ≤ cap ∧ cap ≤ maxLen ∧ cap * k = arr.size ∧ rdR (curOf [(⟨0, 0, .row et k bs es⟩ : Ent)] loc) (hotOf [(⟨0, 0, .row et k bs es⟩ : Ent)] loc ++ M) w.heap k es arr 0 := by
      obtain ⟨_, ⟨h, _⟩ | h⟩ := hk
      · exact absurd h hne
      · exact h
    have hbs := hk.1
    rw [p2] at hv0
    subst hv0
    obtain ⟨cu0, hcu0⟩ : ∃ c, c = curOf [(⟨0, 0, .row et k bs es⟩ : Ent)] loc := ⟨_, rfl⟩
    obtain ⟨M1, hM1⟩ : ∃ m, m = hotOf [(⟨0, 0, .row et k bs es⟩ : Ent)] loc ++ M := ⟨_, rfl⟩
    rw [← hcu0, ← hM1] at p7 hcsr
    have hbM : b ∈ M1 := by rw [hM1, hhot, p1]; simp
    have hMlt : ∀ q ∈ M1, q < w.heap.size := by rw [hM1]; exact S.lt
    have hcap : es.length * k ≤ arr.size := by rw [← p6]; exact Nat.mul_le_mul_right _ p4
    have hpos : 0 < es.length := List.length_pos_iff.2 hne
    have hel : ∀ i : Fin es.length, ∃ us : List Value, rdV cu0 M1 w.heap es[i.1] us ∧ (∀ u ∈ us, u.oneCell' = true) ∧ ∀ (q : Nat) (v : Value), us[q]? = some v → arr[i.1 * k + q]? = some v := by
      intro i
      obtain ⟨q1, q2⟩ := rdR_at k es arr 0 i.1 es[i.1] p7 (List.getElem?_eq_getElem i.2)
      obtain ⟨us, g1, g2, g3⟩ := rdC_vals _ _ _ q2
      refine ⟨us, g2, fun u hu => ?_, fun q v hq => ?_⟩
      · obtain ⟨j, hj, rfl⟩ := List.getElem_of_mem hu
        exact (g3 j _ (List.getElem?_eq_getElem hj)).2
      · have := (g3 q v hq).1
        simpa using this
    haveI : Inhabited (Fin es.length) := ⟨⟨0, hpos⟩⟩
    have hlt : es.length < 4611686018427387904 := by
      have h1 : es.length * 1 ≤ es.length * bs := Nat.mul_le_mul_left _ hbs0
      have h2 : es.length * bs ≤ 140737488355328 := hbs
      omega
    have hd : ∀ i (hi : i < es.length), (Array.ofFn (fun i : Fin es.length => i))[i]! = ⟨i, hi⟩ := by
      intro i hi
      rw [getElem!_pos _ i (by simpa using hi)]
      simp
    refine (sort_core (et := et) (α := Fin es.length) L (fun i => es[i.1]) (fun i => (hel i).choose) (Array.ofFn fun i => i) hag hcl hcs hes (fun i => List.getElem_mem _) (fun i => (rdR_at k es arr 0 i.1 es[i.1] p7 (List.getElem?_eq_getElem i.2)).1) (fun i => (hel i).choose_spec.1) (fun i => (hel i).choose_spec.2.1) (by simp)
      (fun i hi => by rw [hd i hi]; exact ⟨rfl, (hel ⟨i, hi⟩).choose_spec.2.2⟩) p3 hcap hbM hMlt hcsr hlt hg hcmp hirr htr hnt huniq).mono ?_
    rintro e w' ⟨rfl, hlen', hu, arr', r1, r2, r3⟩
    have hM2 : hotOf [(⟨0, 0, .row et k bs es'⟩ : Ent)] loc ++ M = M1 := by rw [hM1, hhot, hhot']
    refine ⟨_, rfl, loc, ⟨by simp, by rw [hhot', p1]; simp, fun q hq => S.ap q (by rw [hhot]; rwa [hhot'] at hq), fun q hq => ?_, ?_⟩, by rw [hhot, p1]; exact hu, fun q hq => .inl (by rw [hhot]; rwa [hhot'] at hq), ?_, htup _ _ _⟩
    · rw [hM2] at hq; exact Nat.lt_of_lt_of_le (hMlt q hq) hu.size
    · intro e he
      simp only [List.mem_singleton] at he
      subst he
      rw [hM2]
      exact ⟨by rw [hlen']; exact hbs, .inr ⟨b, arr', cap, p1, by rw [hlen']; exact p2, r1, by omega, p5, by omega, r3 _ _ fun _ h => h⟩⟩
    · intro e he _
      simp only [List.mem_singleton] at he
      subst he
      exact hcur0
end Go.Dm
