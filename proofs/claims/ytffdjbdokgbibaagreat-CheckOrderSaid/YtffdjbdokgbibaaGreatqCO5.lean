/- Parts of a proof, laid together: EnI3, EnI4, EnJ, EnK, EnL. -/
import Derived.Laws.CopyRow
import Derived.Lib.AppendStr
import Derived.Carry
import Derived.Test.YtffdjbdokgbibaaGreatqCO3
import Derived.Test.YtffdjbdokgbibaaGreatqCO4
section
/- The data machine, second make, part I3: copies into own rows. -/


set_option linter.unusedSimpArgs false
set_option linter.unusedVariables false
namespace Go.Dm

/-- elements i .. of es overwritten by es2, as far as there are m -/
def copyD (es : List (List DVal)) (i m : Nat) (es2 : List (List DVal)) : List (List DVal) := es.take i ++ es2.take m ++ es.drop (i + min es2.length m)
theorem copyD_len {es es2 : List (List DVal)} {i m : Nat} (h : i + m ≤ es.length) : (copyD es i m es2).length = es.length := by
  simp only [copyD, List.length_append, List.length_take, List.length_drop]; omega
theorem mxR_take' {es : List (List DVal)} {k n : Nat} (h : mxR es ≤ n) : mxR (es.take k) ≤ n := Nat.le_trans (mxR_take k es) h
theorem mxR_drop' {es : List (List DVal)} {k n : Nat} (h : mxR es ≤ n) : mxR (es.drop k) ≤ n := Nat.le_trans (mxR_drop k es) h
theorem copyD_mx {es es2 : List (List DVal)} {i m n : Nat} (h1 : mxR es ≤ n) (h2 : mxR es2 ≤ n) : mxR (copyD es i m es2) ≤ n := by
  unfold copyD
  rw [mxR_append, mxR_append]
  have := mxR_take' (k := i) h1
  have := mxR_take' (k := m) h2
  have := mxR_drop' (k := i + min es2.length m) h1
  omega

theorem flat_take {k : Nat} : ∀ (rows : List (List Value)) (i : Nat), (∀ r ∈ rows, r.length = k) → (rows.take i).flatten = rows.flatten.take (i * k)
  | [], i, _ => by simp
  | r :: rows, 0, _ => by simp
  | r :: rows, i + 1, h => by
    have hr := h r List.mem_cons_self
    rw [List.take_succ_cons, List.flatten_cons, List.flatten_cons, flat_take rows i fun x hx => h x (List.mem_cons_of_mem _ hx), List.take_append, hr]
    have e1 : (i + 1) * k - k = i * k := by rw [Nat.add_mul]; omega
    rw [e1, List.take_of_length_le (l := r) (by rw [hr, Nat.add_mul]; omega)]
theorem flat_drop {k : Nat} : ∀ (rows : List (List Value)) (i : Nat), (∀ r ∈ rows, r.length = k) → (rows.drop i).flatten = rows.flatten.drop (i * k)
  | [], i, _ => by simp
  | r :: rows, 0, _ => by simp
  | r :: rows, i + 1, h => by
    have hr := h r List.mem_cons_self
    rw [List.drop_succ_cons, List.flatten_cons, flat_drop rows i fun x hx => h x (List.mem_cons_of_mem _ hx), List.drop_append, hr]
    have e1 : (i + 1) * k - k = i * k := by rw [Nat.add_mul]; omega
    rw [e1, List.drop_of_length_le (l := r) (by rw [hr, Nat.add_mul]; omega), List.nil_append]

section
variable {P : Program} {B : Base} {s : DS} {a : Act} {w : World} {loc : Nat → Loc}

theorem rows_k {cur : Cur} {M : List Nat} {H : Array Obj} {k : Nat} {es : List (List DVal)} {rows : List (List Value)} (hl : rows.length = es.length)
    (h : ∀ (i : Nat) (cs : List DVal) (us : List Value), es[i]? = some cs → rows[i]? = some us → cs.length = k ∧ rdV cur M H cs us ∧ ∀ u ∈ us, u.oneCell' = true) : ∀ r ∈ rows, r.length = k := by
  intro r hr
  obtain ⟨i, hi, rfl⟩ := List.getElem_of_mem hr
  obtain ⟨h1, h2, _⟩ := h i es[i] rows[i] (List.getElem?_eq_getElem _) (List.getElem?_eq_getElem _)
  have := rdV_length _ _ h2
  omega

theorem Rel.copyRow {d sd : DVal} {id r k0 bs0 i m n k2 : Nat} {t ty : TypeId} {et k bs : Nat} {es es2 : List (List DVal)} {e : Ent} {v sv : Value} {dst : Option Nat} (R : Rel B s a w loc) (he : findE s.own id = some e) (her : e.r = r) (hob : e.obj = .row et k bs es)
    (hv : Rds s loc B.M0 w d v) (hd : d = .osl id r ∧ i = 0 ∧ m = es.length ∨ d = .vw id r k bs0 i m) (hb : i + m ≤ es.length) (ht : tElem P t = some (k, k0)) (hk : 0 < k)
    (hsv : Rds s loc B.M0 w sd sv) (hsrc : rowsN s.own sd = some (k2, es2)) (hk2 : k2 = k ∨ es2 = []) (hmx2 : mxR es2 ≤ n)
    (hlim : lim B s ≤ n) (hdst : ∀ i, dst = some i → i < B.nt) :
    ∃ w', (Builtin.copy_ #[t, t] ty #[v, sv]).run P w = .ok (goInt (min es2.length m : Nat)) w' ∧ Rel B ⟨putS s.slots dst (.int .i64 (min es2.length m : Nat)), upE s.own id r (.row et k bs (copyD es i m es2))⟩ (a.put dst (goInt (min es2.length m : Nat))) w' (upL loc id (loc id)) := by
  obtain ⟨e1, i1, hu, hi, hsz, hby, _⟩ := tElem_some ht
  obtain ⟨rows2, q1, q2, q3, q4, q5, q6⟩ := src_ok (B := B) R.st hsv hsrc
  obtain ⟨ad, cap, rfl, hat⟩ := part_at (B := B) R.st he her hob hv hd
  have hmem := (findE_ent he).1
  have hid := (findE_ent he).2
  have hmxo := (mem_mxE hmem).2
  rw [hob] at hmxo
  simp only [mxO] at hmxo
  have hrdi : ∀ cur M h, rd cur M h (.int .i64 (min es2.length m : Nat)) (goInt (min es2.length m : Nat)) := by
    intro cur M h
    have h5 : min es2.length m ≤ maxLen := Nat.le_trans (Nat.min_le_left _ _) q5
    unfold maxLen at h5
    simp only [rd, goInt]
    refine ⟨?_, ?_⟩
    · trivial
    · simp only [inR]; omega
  by_cases hm : min es2.length m = 0
  · have hcl : copyD es i m es2 = es := by
      unfold copyD
      rw [hm]
      have : es2.take m = [] := by
        rw [← List.length_eq_zero_iff, List.length_take]; omega
      rw [this, List.append_nil, Nat.add_zero, List.take_append_drop]
    rw [hcl]
    rw [hm] at hrdi ⊢
    have hrun : (Builtin.copy_ #[t, t] ty #[.slice ad m cap, sv]).run P w = .ok (goInt 0) w := by
      have hl : ∀ (x : Addr), (loadCells x 0).run P w = .ok #[] w := fun x => by simpa using run_loadCells_list (P := P) w x [] (by simp)
      rcases q6 with ⟨_, x, cap2, rfl⟩ | ⟨x, cap2, rfl, _⟩
      · cases ad <;> cases x <;> simp [Builtin.copy_, run_underlying hu, Builtin.lenOf, Builtin.firstCells, sizeOf, typeInfo, hi, storeCells, hl]
      · have hm' : Nat.min es2.length m = 0 := hm
        cases ad <;> simp [Builtin.copy_, run_underlying hu, Builtin.lenOf, Builtin.firstCells, sizeOf, typeInfo, hi, storeCells, hl, hm']
    refine ⟨w, hrun, ?_⟩
    have hcur : curOf s.own loc id r = some (loc id) := by unfold curOf; rw [he]; simp [her]
    have hk' := R.st.ok e hmem
    rw [hob, hid] at hk'
    have hL : ∀ b0, b0 ∈ (loc id).blks → b0 < w.heap.size ∧ ((∃ e ∈ s.own, e.id = id ∧ b0 ∈ (loc id).blks) ∨ w.heap.size ≤ b0) := fun b0 hb0 =>
      ⟨R.st.lt b0 (List.mem_append_left _ (mem_hot hmem (by rw [hid]; exact hb0))), .inl ⟨e, hmem, hid, hb0⟩⟩
    have W := R.weakUp (obj := .row et k bs es) hlim (Upd.refl _ w) hL (.inr hcur)
    unfold lim at hlim
    exact R.up (hLn := by have := blks_nodup R.st.bl e hmem; rwa [hid] at this) (n := n) hlim hdst (Upd.refl _ w) (fun _ _ _ => rfl) hL (.inr hcur) (ObjOK_weak W (by simp only [mxO]; omega) (fun _ _ _ h => h) hk') (hrdi _ _ _)
  · have hkk : k2 = k := by
      rcases hk2 with h | h
      · exact h
      · subst h; simp at hm
    subst hkk
    obtain ⟨b, hb1, rfl⟩ := hat (by omega)
    obtain ⟨h7, b', arr, cap', h1, h2, h3, h4, h5, h6, hrow⟩ := row_obj (B := B) R.st he hob (by intro h; subst h; simp at hb; omega)
    rw [h1] at hb1
    simp only [List.cons.injEq, and_true] at hb1
    subst hb1
    have hcap : es.length * k2 ≤ arr.size := by rw [← h6]; exact Nat.mul_le_mul_right _ h4
    rcases q6 with ⟨rfl, _⟩ | ⟨x, cap2, rfl, q6⟩
    · simp at hm
    obtain ⟨c, hc⟩ : ∃ c, c = min es2.length m := ⟨_, rfl⟩
    rw [← hc] at hm hrdi ⊢
    have hrk2 := rows_k q1 q2
    have hcs : (rows2.take c).flatten = rows2.flatten.take (c * k2) := flat_take rows2 c hrk2
    have hcsl : (rows2.take c).flatten.length = c * k2 := by
      rw [hcs, List.length_take, q3]
      have : c * k2 ≤ es2.length * k2 := Nat.mul_le_mul_right _ (by omega)
      omega
    have hone : ∀ u ∈ (rows2.take c).flatten, u.oneCell' = true := fun u hu' => q4 u (by rw [hcs] at hu'; exact List.mem_of_mem_take hu')
    have hsrcc : ∀ (j : Nat) (u : Value), (rows2.take c).flatten[j]? = some u → w.cell? (x.add j) = some u := by
      intro j u hj
      have hlt := (List.getElem?_eq_some_iff.1 hj).1
      rw [hcsl] at hlt
      rw [hcs, List.getElem?_take_of_lt hlt] at hj
      exact q6 j u hj
    have hload := run_loadCells_list (P := P) w x (rows2.take c).flatten hsrcc
    have hfit : i * k2 + c * k2 ≤ arr.size := by
      rw [← Nat.add_mul]; exact Nat.le_trans (Nat.mul_le_mul_right _ (by omega)) hcap
    have hst := run_storeCells_at P b' (i * k2) et (rows2.take c).flatten 0 arr w h3 (by rw [hcsl]; omega) hone
    simp only [Nat.add_zero] at hst
    obtain ⟨rows, r1, r2, r3, r4⟩ := rdR_vals k2 es arr 0 hrow
    have hrk := rows_k r1 r3
    have hflat := take_flat r2 r4 hcap
    have harr : arr.toList = rows.flatten ++ arr.toList.drop (es.length * k2) := by rw [← hflat, List.take_append_drop]
    have hik : i * k2 ≤ rows.flatten.length := by rw [r2]; exact Nat.mul_le_mul_right _ (by omega)
    have hic : i * k2 + c * k2 ≤ rows.flatten.length := by rw [r2, ← Nat.add_mul]; exact Nat.mul_le_mul_right _ (by omega)
    have hnew : (arr.toList.take (i * k2) ++ (rows2.take c).flatten ++ arr.toList.drop (i * k2 + (rows2.take c).flatten.length)) = (rows.take i ++ rows2.take c ++ rows.drop (i + c)).flatten ++ arr.toList.drop (es.length * k2) := by
      have e_t : rows.flatten.take (i * k2) = arr.toList.take (i * k2) := by rw [← hflat, List.take_take, Nat.min_eq_left (by rw [r2] at hik; exact hik)]
      have e_d : arr.toList.drop (i * k2 + c * k2) = rows.flatten.drop ((i + c) * k2) ++ arr.toList.drop (es.length * k2) := by
        rw [Nat.add_mul]
        conv => lhs; rw [harr]
        exact List.drop_append_of_le_length hic
      rw [hcsl, List.flatten_append, List.flatten_append, flat_take rows i hrk, flat_drop rows (i + c) hrk, e_t, e_d, List.append_assoc, List.append_assoc, List.append_assoc]
    refine ⟨_, ?_, R.writeRow (es' := copyD es i m es2) (arr' := (arr.toList.take (i * k2) ++ (rows2.take c).flatten ++ arr.toList.drop (i * k2 + (rows2.take c).flatten.length)).toArray) he her hob h1 h2 h3 h4 h5 h6 h7 (copyD_len hb) ?_ ?_ (copyD_mx (by unfold lim at hlim; omega) hmx2) hlim hdst hrdi⟩
    · have hc' : c = Nat.min es2.length m := hc
      have hls : es2.length = es2.length := rfl
      rw [hcsl] at hload
      simp [Builtin.copy_, run_underlying hu, Builtin.lenOf, Builtin.firstCells, sizeOf, typeInfo, hi, ← hc', hsz, hload, hst, -List.length_flatten]
    · simp only [List.size_toArray, List.length_append, List.length_take, List.length_drop, Array.length_toList, hcsl]; omega
    · rw [hnew]
      refine rdR_of k2 _ _ _ ?_ ?_
      · simp only [copyD, List.length_append, List.length_take, List.length_drop]; omega
      · intro j cs us hj hu'
        unfold copyD at hj
        rw [← hc] at hj
        by_cases hj1 : j < i
        · rw [List.append_assoc, List.getElem?_append_left (by simp; omega), List.getElem?_take_of_lt hj1] at hj
          rw [List.append_assoc, List.getElem?_append_left (by simp; omega), List.getElem?_take_of_lt hj1] at hu'
          exact r3 j cs us hj hu'
        · by_cases hj2 : j < i + c
          · rw [List.getElem?_append_left (by simp; omega), List.getElem?_append_right (by simp; omega), List.length_take, Nat.min_eq_left (by omega), List.getElem?_take_of_lt (by omega)] at hj
            rw [List.getElem?_append_left (by simp; omega), List.getElem?_append_right (by simp; omega), List.length_take, Nat.min_eq_left (by omega), List.getElem?_take_of_lt (by omega)] at hu'
            exact q2 _ cs us hj hu'
          · rw [List.getElem?_append_right (by simp; omega), List.getElem?_drop] at hj
            rw [List.getElem?_append_right (by simp; omega), List.getElem?_drop] at hu'
            simp only [List.length_append, List.length_take] at hj hu'
            rw [show i + c + (j - (min i es.length + min m es2.length)) = j by omega] at hj
            rw [show i + c + (j - (min i rows.length + min c rows2.length)) = j by omega] at hu'
            exact r3 j cs us hj hu'
end
end Go.Dm
end

section
/- The data machine, second make, part I4: texts appended to own rows of bytes. -/


set_option linter.unusedSimpArgs false
set_option linter.unusedVariables false
namespace Go.Dm

/-- a text's bytes, as rows of one cell -/
def bytesD (x : ByteArray) : List (List DVal) := x.data.toList.map fun b => [.int .u8 b.toNat]
theorem bytesD_len (x : ByteArray) : (bytesD x).length = x.size := by rw [bytesD, List.length_map]; rfl
@[simp] theorem mx_bytesD (x : ByteArray) : mxR (bytesD x) = 0 := by
  unfold bytesD
  induction x.data.toList with
  | nil => rfl
  | cons b l ih => simp [mxR, mxL, mx, ih]
theorem bytesD_app (x y : ByteArray) : bytesD (x ++ y) = bytesD x ++ bytesD y := by
  simp [bytesD, ByteArray.data_append]
theorem bytes_rows (x : ByteArray) (cur : Cur) (M : List Nat) (H : Array Obj) : ∃ rows2 : List (List Value), rows2.length = (bytesD x).length ∧ (∀ (i : Nat) (cs : List DVal) (us : List Value), (bytesD x)[i]? = some cs → rows2[i]? = some us → cs.length = 1 ∧ rdV cur M H cs us ∧ ∀ u ∈ us, u.oneCell' = true) ∧
      rows2.flatten.length = (bytesD x).length * 1 ∧ (∀ u ∈ rows2.flatten, u.oneCell' = true) ∧ rows2.flatten = Lib.strCells x := by
  have hfl : (x.data.toList.map fun b => [Value.int .u8 b.toNat]).flatten = Lib.strCells x := by
    unfold Lib.strCells
    induction x.data.toList with
    | nil => rfl
    | cons b l ih => simp [ih]
  refine ⟨x.data.toList.map fun b => [.int .u8 b.toNat], by simp [bytesD], ?_, by rw [hfl, Lib.strCells_length, bytesD_len, Nat.mul_one], by rw [hfl]; exact Lib.strCells_oneCell x, hfl⟩
  intro i cs us hc hu
  simp only [bytesD, List.getElem?_map, Option.map_eq_some_iff] at hc hu
  obtain ⟨b, hb, rfl⟩ := hc
  obtain ⟨b', hb', rfl⟩ := hu
  rw [hb] at hb'
  simp only [Option.some.injEq] at hb'
  subst hb'
  refine ⟨rfl, ?_, by simp [Value.oneCell']⟩
  simp only [rdV, rd]
  exact ⟨_, _, rfl, ⟨rfl, by have := UInt8.toNat_lt b; simp only [inR]; omega⟩, rfl⟩

section
variable {P : Program} {B : Base} {s : DS} {a : Act} {w : World} {loc : Nat → Loc}

theorem run_append_zero_str {t t2 ty e : TypeId} {i : TypeInfo} {x : ByteArray} (hu : P.underlying t = some (.slice e)) (hu2 : P.underlying t2 = some .string) (hi : P.info? e = some i) (hx : x.size = 0) {y : Option Addr} {m cap : Nat} (hm' : m ≤ cap) :
    (Builtin.append_ #[t, t2] ty #[.slice y m cap, .string x]).run P w = .ok (.slice y m cap) w := by
  have hf := Lib.run_firstCells_string (P := P) w i.size x
  have hn : Lib.strCells x = [] := List.eq_nil_of_length_eq_zero (by rw [Lib.strCells_length]; exact hx)
  rw [hx, hn] at hf
  cases y <;> simp [Builtin.append_, run_underlying hu, run_underlying hu2, sizeOf, typeInfo, hi, Builtin.lenOf, hx, hf, hm', storeCells]

theorem Rel.appendStr {id n : Nat} {t t2 ty e : TypeId} {k bs : Nat} {es : List (List DVal)} {x : ByteArray} {dv : Value} {dst : Option Nat} (R : Rel B s a w loc) (hlim : lim B s ≤ n) (hdst : ∀ i, dst = some i → i < B.nt)
    (ht : tElem P t = some (k, bs)) (hte : tElemId P t = some e) (hz : zeroOK P t = true) (hk : 0 < k) (hrow : RowAt s loc w B.M0 id e k bs es dv) (hmx1 : mxR es ≤ n)
    (ht2 : P.underlying t2 = some .string) (hk1 : k = 1) (hb : (es.length + x.size) * bs ≤ 150000000000000) (hbs : bs ≤ 65536) (hl : es.length + x.size ≤ maxLen) :
    ∃ v' w' L, (Builtin.append_ #[t, t2] ty #[dv, .string x]).run P w = .ok v' w' ∧ Rel B ⟨putS s.slots dst (.osl id n), upE s.own id n (.row e k bs (es ++ bytesD x))⟩ (a.put dst v') w' (upL loc id L) := by
  obtain ⟨e', i, hu, hi, hsz, hby, _⟩ := tElem_some ht
  have hee : e' = e := by unfold tElemId at hte; rw [hu] at hte; simpa using hte
  subst hee
  obtain ⟨z, hzr, hzs⟩ : ∃ z, i.zero = some z ∧ z.cells.size = k := by
    unfold zeroOK at hz
    rw [hu] at hz
    simp only [hi] at hz
    cases hq : i.zero with
    | none => simp [hq] at hz
    | some z => simp only [hq, beq_iff_eq] at hz; exact ⟨z, rfl, by rw [hz, hsz]⟩
  obtain ⟨es2, hes2⟩ : ∃ es2, es2 = bytesD x := ⟨_, rfl⟩
  rw [← hes2]
  have hx2 : es2.length = x.size := by rw [hes2, bytesD_len]
  obtain ⟨rows2, q1, q2, q3, q4, hfl⟩ : ∃ rows2 : List (List Value), rows2.length = es2.length ∧ (∀ (i : Nat) (cs : List DVal) (us : List Value), es2[i]? = some cs → rows2[i]? = some us → cs.length = k ∧ rdV (cu s loc) (hm s loc B.M0) w.heap cs us ∧ ∀ u ∈ us, u.oneCell' = true) ∧
      rows2.flatten.length = es2.length * k ∧ (∀ u ∈ rows2.flatten, u.oneCell' = true) ∧ rows2.flatten = Lib.strCells x := by
    rw [hes2, hk1]
    exact bytes_rows x _ _ _
  have hmx2 : mxR es2 ≤ n := by rw [hes2, mx_bytesD]; exact Nat.zero_le _
  rw [← hx2] at hb hl
  have hlenb : (es ++ es2).length * bs ≤ 150000000000000 := by simpa using hb
  have mx12 : mxR (es ++ es2) ≤ n := by rw [mxR_append]; omega
  -- what the slot reads at the end
  have rdEnd : ∀ (L : Loc) (h : Array Obj) (obj : DObj), rd (curOf (upE s.own id n obj) (upL loc id L)) (hotOf (upE s.own id n obj) (upL loc id L) ++ B.M0) h (.osl id n) L.hdr := by
    intro L h obj
    simp only [rd]
    intro l hl'
    rw [curOf_up] at hl'
    simp only [Option.some.injEq] at hl'
    rw [hl']
  · by_cases hm0 : es2.length = 0
    · have he2 : es2 = [] := List.eq_nil_of_length_eq_zero hm0
      have hx0 : x.size = 0 := by omega
      rw [he2, List.append_nil]
      rw [he2, List.append_nil] at hlenb
      rcases hrow with ⟨rfl, rfl⟩ | ⟨e0, hmem, hid, b, arr, cap, h1', rfl, h3, h4, h5, h6, h7⟩
      · refine ⟨_, w, ⟨[], .slice none 0 0⟩, run_append_zero_str hu ht2 hi hx0 (Nat.le_refl _), ?_⟩
        refine R.up (L := ⟨[], .slice none 0 0⟩) hlim hdst (Upd.refl _ _) (fun b hb _ => rfl) (fun b hb => by simp at hb) (.inl (Nat.le_refl _)) ⟨by simp, .inl ⟨rfl, rfl, rfl⟩⟩ (rdEnd ⟨[], .slice none 0 0⟩ _ _)
      · have h1 : b ∈ (loc id).blks := by rw [h1']; simp
        refine ⟨_, w, ⟨[b], .slice (some ⟨b, 0, none⟩) es.length cap⟩, run_append_zero_str hu ht2 hi hx0 h4, ?_⟩
        have hL : ∀ b0, b0 ∈ (⟨[b], .slice (some ⟨b, 0, none⟩) es.length cap⟩ : Loc).blks → b0 < w.heap.size ∧ ((∃ e ∈ s.own, e.id = id ∧ b0 ∈ (loc id).blks) ∨ w.heap.size ≤ b0) := by
          intro b0 hb0
          simp only [List.mem_singleton] at hb0
          subst hb0
          exact ⟨(Array.getElem?_eq_some_iff.1 h3).1, .inl ⟨e0, hmem, hid, h1⟩⟩
        have W := R.weakUp (obj := .row e' k bs es) (r := n) hlim (Upd.refl _ _) hL (.inl (Nat.le_refl _))
        exact R.up (L := ⟨[b], .slice (some ⟨b, 0, none⟩) es.length cap⟩) hlim hdst (Upd.refl _ _) (fun b hb _ => rfl) hL (.inl (Nat.le_refl _)) ⟨hlenb, .inr ⟨b, arr, cap, rfl, rfl, h3, h4, h5, h6, rdR_weak W k es arr 0 hmx1 h7⟩⟩ (rdEnd ⟨[b], .slice (some ⟨b, 0, none⟩) es.length cap⟩ _ _)
    · 
      subst hsz
      subst hby
      have hl' : es.length + es2.length ≤ 9223372036854775807 := by unfold maxLen at hl; omega
      -- a new row, whatever it held before
      have fresh : ∀ (rows : List (List Value)) (cap : Nat), es.length ≤ cap ∨ True → rows.length = es.length → rows.flatten.length = es.length * i.size →
          (∀ (j : Nat) (cs : List DVal) (us : List Value), es[j]? = some cs → rows[j]? = some us → cs.length = i.size ∧ rdV (cu s loc) (hm s loc B.M0) w.heap cs us ∧ ∀ u ∈ us, u.oneCell' = true) →
          Rel B ⟨putS s.slots dst (.osl id n), upE s.own id n (.row e' i.size i.bytes (es ++ es2))⟩ (a.put dst (.slice (some ⟨w.heap.size, 0, none⟩) (es.length + es2.length) (grownCap w (es.length + es2.length) cap e')))
            (w.drew.alloc (.cells (rows.flatten.toArray ++ rows2.flatten.toArray ++ Builtin.zeroCells z.cells (grownCap w (es.length + es2.length) cap e' - (es.length + es2.length))) e')) (upL loc id ⟨[w.heap.size], .slice (some ⟨w.heap.size, 0, none⟩) (es.length + es2.length) (grownCap w (es.length + es2.length) cap e')⟩) := by
        intro rows cap _ r1 r2 r3
        have hw : Upd (hotOf s.own loc) w (w.drew.alloc (.cells (rows.flatten.toArray ++ rows2.flatten.toArray ++ Builtin.zeroCells z.cells (grownCap w (es.length + es2.length) cap e' - (es.length + es2.length))) e')) :=
          (Upd.drew _ w).trans (Upd.alloc _ w.drew _) (fun x hx => .inl hx)
        have hL : ∀ b0, b0 ∈ (⟨[w.heap.size], .slice (some ⟨w.heap.size, 0, none⟩) (es.length + es2.length) (grownCap w (es.length + es2.length) cap e')⟩ : Loc).blks → b0 < (w.drew.alloc (.cells (rows.flatten.toArray ++ rows2.flatten.toArray ++ Builtin.zeroCells z.cells (grownCap w (es.length + es2.length) cap e' - (es.length + es2.length))) e')).heap.size ∧ ((∃ e ∈ s.own, e.id = id ∧ b0 ∈ (loc id).blks) ∨ w.heap.size ≤ b0) := by
          intro b0 hb0
          simp only [List.mem_singleton] at hb0
          subst hb0
          exact ⟨by simp, .inr (Nat.le_refl _)⟩
        have W := R.weakUp (obj := .row e' i.size i.bytes (es ++ es2)) (r := n) hlim hw hL (.inl (Nat.le_refl _))
        have hge := grownCap_ge w (es.length + es2.length) cap e'
        have hcm := grownCap_le_maxLen w (es.length + es2.length) cap e' hl
        refine R.up hlim hdst hw (fun b hb _ => by simp only [World.alloc, Array.getElem?_push, World.drew]; rw [if_neg (by omega)]) hL (.inl (Nat.le_refl _)) ⟨hlenb, .inr ⟨w.heap.size, _, _, rfl, by simp, heap_alloc_new w.drew _, by simpa using hge, hcm, ?_, ?_⟩⟩ (rdEnd ⟨[w.heap.size], .slice (some ⟨w.heap.size, 0, none⟩) (es.length + es2.length) (grownCap w (es.length + es2.length) cap e')⟩ _ _)
        · simp only [Array.size_append, List.size_toArray, size_zeroCells, hzs, r2, q3, ← Nat.add_mul]
          congr 1
          omega
        · have := joinRows (k := i.size) r1 q1 (weak_rows W hmx1 r3) (weak_rows W hmx2 q2) (Builtin.zeroCells z.cells (grownCap w (es.length + es2.length) cap e' - (es.length + es2.length))).toList
          have e1 : (rows.flatten ++ rows2.flatten ++ (Builtin.zeroCells z.cells (grownCap w (es.length + es2.length) cap e' - (es.length + es2.length))).toList).toArray = rows.flatten.toArray ++ rows2.flatten.toArray ++ Builtin.zeroCells z.cells (grownCap w (es.length + es2.length) cap e' - (es.length + es2.length)) := by
            apply Array.ext'; simp
          rw [e1] at this
          exact this
      rcases hrow with ⟨rfl, rfl⟩ | ⟨e0, hmem, hid, b, arr, cap, h1', rfl, h3, h4, h5, h6, h7⟩
      · have hr := run_append_nil_string (P := P) w t t2 ty e' i z hu ht2 hi hzr x (by omega) (by omega) (by rw [← hx2]; simp only [List.length_nil, Nat.zero_add] at hb; omega)
        have e1 : (x.data.map fun b => Value.int .u8 b.toNat) = (Lib.strCells x).toArray := by
          apply Array.ext'
          simp [Lib.strCells]
        rw [e1, ← hfl, ← hx2] at hr
        have hf := fresh [] 0 (.inr trivial) rfl (by simp) (by simp)
        simp only [List.length_nil, Nat.zero_add, List.nil_append, List.flatten_nil, Array.empty_append] at hf hr ⊢
        exact ⟨_, _, _, hr, hf⟩
      · have h1 : b ∈ (loc id).blks := by rw [h1']; simp
        obtain ⟨rows, r1, r2, r3, r4⟩ := rdR_vals i.size es arr 0 h7
        have hfits : es.length * i.size ≤ arr.size := by rw [← h6]; exact Nat.mul_le_mul_right _ h4
        by_cases hroom : es.length + es2.length ≤ cap
        · have hfit : es.length * i.size + rows2.flatten.length ≤ arr.size := by rw [q3, ← h6, ← Nat.add_mul]; exact Nat.mul_le_mul_right _ hroom
          have hr := Lib.run_append_room_string (P := P) w t t2 ty e' i hu ht2 hi hk1 b es.length cap arr h3 x (by omega) (by rw [q3, hk1] at hfit; omega)
          have e2 : arr.toList.take es.length ++ Lib.strCells x ++ arr.toList.drop (es.length + x.size) = arr.toList.take (es.length * i.size) ++ rows2.flatten ++ arr.toList.drop (es.length * i.size + rows2.flatten.length) := by
            rw [q3, hfl, hk1, Nat.mul_one, Nat.mul_one, hx2]
          rw [e2, ← hx2] at hr
          refine ⟨_, _, ⟨[b], .slice (some ⟨b, 0, none⟩) (es.length + es2.length) cap⟩, hr, ?_⟩
          have hw : Upd (hotOf s.own loc) w (w.setRow b (arr.toList.take (es.length * i.size) ++ rows2.flatten ++ arr.toList.drop (es.length * i.size + rows2.flatten.length)).toArray) := Upd.setRow hmem (by rw [hid]; exact h1) w _
          have hL : ∀ b0, b0 ∈ (⟨[b], .slice (some ⟨b, 0, none⟩) (es.length + es2.length) cap⟩ : Loc).blks → b0 < (w.setRow b (arr.toList.take (es.length * i.size) ++ rows2.flatten ++ arr.toList.drop (es.length * i.size + rows2.flatten.length)).toArray).heap.size ∧ ((∃ e ∈ s.own, e.id = id ∧ b0 ∈ (loc id).blks) ∨ w.heap.size ≤ b0) := by
            intro b0 hb0
            simp only [List.mem_singleton] at hb0
            subst hb0
            refine ⟨?_, .inl ⟨e0, hmem, hid, h1⟩⟩
            have := (Array.getElem?_eq_some_iff.1 h3).1
            simpa using this
          have W := R.weakUp (obj := .row e' i.size i.bytes (es ++ es2)) (r := n) hlim hw hL (.inl (Nat.le_refl _))
          refine R.up hlim hdst hw ?_ hL (.inl (Nat.le_refl _)) ⟨hlenb, .inr ⟨b, _, cap, rfl, by simp, setRow_heap w b arr _ e' (0, 0) h3, by simpa using hroom, h5, ?_, ?_⟩⟩ (rdEnd ⟨[b], .slice (some ⟨b, 0, none⟩) (es.length + es2.length) cap⟩ _ _)
          · intro b0 hb0 hne
            refine setRow_other w b b0 _ (fun h => hne e0 hmem hid ?_)
            rw [h]; exact h1
          · simp only [List.size_toArray, List.length_append, List.length_take, List.length_drop, Array.length_toList]; omega
          · have ht' := take_flat r2 r4 hfits
            have hj := joinRows r1 q1 (weak_rows W hmx1 r3) (weak_rows W hmx2 q2) (arr.toList.drop (es.length * i.size + rows2.flatten.length))
            rw [← ht'] at hj
            exact hj
        · have hr := Lib.run_append_grow_string (P := P) w t t2 ty e' i z hu ht2 hi hzr ⟨b, 0, none⟩ es.length cap rows.flatten r2 (fun j v hj => by rw [add_lit]; simp only [World.cell?, h3]; exact (r4 j v hj).1) x (by omega) (by omega) (by rw [← hx2]; exact fitsL (by omega) hb hbs)
          rw [← hfl, ← hx2] at hr
          exact ⟨_, _, _, hr, fresh rows cap (.inl h4) r1 r2 r3⟩
end
end Go.Dm
end

section
/- The data machine, second make, part J: regions in the text's order that lay and change own objects. -/




set_option linter.unusedSimpArgs false
set_option linter.unusedVariables false
namespace Go.Dm

/-- the row that is appended to: its rows so far -/
def destOf (own : List Ent) (et k bs : Nat) : DVal → Option (Option Nat × List (List DVal))
  | .nilsl => some (none, [])
  | .osl id r => match findE own id with
    | some e => if e.r = r then (match e.obj with | .row et' k' bs' es => if et' = et ∧ k' = k ∧ bs' = bs then some (some id, es) else none | _ => none) else none
    | none => none
  | _ => none

/-- What an operation asks, the datum that it hands back, the own objects behind it. -/
structure ERes where
  pre : Prop
  d : DVal
  own : List Ent

section
variable (P : Program) (nt : Nat) (ow : List Nat)

/-- the operations that lay or change own objects ('ow': the slots of boxes that are own) -/
def isEff (o : Oper) : Bool := match o.op with
  | .box _ _ => match o.dst with | some i => ow.contains i | none => false
  | .buildSlice _ _ _ => match o.dst with | some i => ow.contains i | none => false
  | .alloc _ => true
  | .store _ _ _ => true
  | .makeMap _ _ => true
  | .mapUpdate _ _ _ _ => true
  | .makeSlice _ _ _ => true
  | .call c => match c.callee with | .builtin .append => true | .builtin .clear => true | .builtin .copy => true | .value _ => (match o.dst with | some i => ow.contains i | none => false) | _ => false
  | _ => false

def strOf : DVal → Option ByteArray
  | .str x => some x
  | _ => none
def eAppend (own : List Ent) (dst : Option Nat) (r : Nat) : List DVal → List TypeId → Option ERes
  | [a, b], [t, t'] => match dst, tElem P t, tElemId P t with
    | some i, some (k, bs), some et => match strOf b with
     | some x => match destOf own et k bs a with
      | some (id, es) => some ⟨tStr P t' = true ∧ zeroOK P t = true ∧ k = 1 ∧ bs ≤ 65536 ∧ (es.length + x.size) * bs ≤ 150000000000000 ∧ es.length + x.size ≤ 9223372036854775807,
          .osl (id.getD i) r, upE own (id.getD i) r (.row et k bs (es ++ bytesD x))⟩
      | none => none
     | none => match destOf own et k bs a, rowsN own b with
      | some (id, es), some (k2, es2) => some ⟨t' = t ∧ zeroOK P t = true ∧ 0 < k ∧ (k2 = k ∨ es2 = []) ∧ bs ≤ 65536 ∧ (es.length + es2.length) * bs ≤ 150000000000000 ∧ es.length + es2.length ≤ 9223372036854775807,
          .osl (id.getD i) r, upE own (id.getD i) r (.row et k bs (es ++ es2))⟩
      | _, _ => none
    | _, _, _ => none
  | _, _ => none

/-- a store into an own row -/
def eStoreRow (own : List Ent) (dst : Option Nat) (t : TypeId) (d : DVal) (id r' k i j : Nat) : Option ERes := match findE own id with
  | some e => match e.obj with
    | .row et k' bs es => match es[i]? with
      | some c0 => some ⟨e.r = r' ∧ k' = k ∧ dst = none ∧ tCells P t = some (cellsD d).length ∧ plainD own d = true ∧ j + (cellsD d).length ≤ k, .any, upE own id r' (.row et k' bs (es.set i (splice c0 j (cellsD d))))⟩
      | none => none
    | _ => none
  | none => none

def eMake (own : List Ent) (dst : Option Nat) (r : Nat) (t : TypeId) (l c : DVal) : Option ERes := match dst, tElem P t, tElemId P t, tZeroE P t, l, c with
  | some i, some (k, bs), some et, some zs, .int _ n, .int _ m => some ⟨zs.all (oneO []) = true ∧ zs.length = k ∧ 0 ≤ n ∧ n ≤ m ∧ m * bs ≤ 150000000000000 ∧ m ≤ 9223372036854775807, .osl i r, upE own i r (.row et k bs (List.replicate n.toNat zs))⟩
  | _, _, _, _, _, _ => none

def eClear (own : List Ent) : List DVal → List TypeId → Option ERes
  | [d], [t] => match tElem P t, tZeroE P t with
    | some (k, _), some zs => match d with
      | .osl id r => match findE own id with
        | some e => match e.obj with
          | .row et k' bs es => some ⟨e.r = r ∧ k' = k ∧ zs.all (oneO []) = true ∧ zs.length = k ∧ 0 < k, .tup [], upE own id r (.row et k' bs (clearD es 0 es.length zs))⟩
          | _ => none
        | none => none
      | .vw id r k0 _ i m => match findE own id with
        | some e => match e.obj with
          | .row et k' bs es => some ⟨e.r = r ∧ k' = k ∧ k0 = k ∧ zs.all (oneO []) = true ∧ zs.length = k ∧ 0 < k ∧ i + m ≤ es.length, .tup [], upE own id r (.row et k' bs (clearD es i m zs))⟩
          | _ => none
        | none => none
      | _ => none
    | _, _ => none
  | _, _ => none

/-- a part of an own row -/
def partD (own : List Ent) : DVal → Option (Nat × Nat × Nat × Nat × TypeId × Nat × Nat × List (List DVal))
  | .osl id r => match findE own id with
    | some e => if e.r = r then (match e.obj with | .row et k bs es => some (id, r, 0, es.length, et, k, bs, es) | _ => none) else none
    | none => none
  | .vw id r k0 _ i m => match findE own id with
    | some e => if e.r = r then (match e.obj with | .row et k bs es => if k0 = k then some (id, r, i, m, et, k, bs, es) else none | _ => none) else none
    | none => none
  | _ => none
def eCopy (own : List Ent) : List DVal → List TypeId → Option ERes
  | [d, s], [t, t'] => match tElem P t, partD own d, rowsN own s with
    | some (k, _), some (id, r', i, m, et, k', bs, es), some (k2, es2) => some ⟨t' = t ∧ k' = k ∧ 0 < k ∧ i + m ≤ es.length ∧ (k2 = k ∨ es2 = []), .int .i64 (min es2.length m : Nat), upE own id r' (.row et k' bs (copyD es i m es2))⟩
    | _, _, _ => none
  | _, _ => none

def eRes (o : Oper) (ed : Operand → DVal) (own : List Ent) (r : Nat) : Option ERes :=
  match o.op with
  | .box _ x => match o.dst with
    | some i => some ⟨plainD own (ed x) = true, .bx i r 0, upE own i r (.box (cellsD (ed x)))⟩
    | none => none
  | .buildSlice t len parts => match o.dst, tElem P t, tElemId P t with
    | some i, some (k, bs), some et => some ⟨nPre P own (ed) (.buildSlice t len parts), .osl i r, upE own i r (.row et k bs (parts.toList.map fun p => cellsD (ed p.2)))⟩
    | _, _, _ => none
  | .alloc t => match o.dst, tZero P t with
    | some i, some z => some ⟨z.all (oneO []) = true, .bx i r 0, upE own i r (.box z)⟩
    | _, _ => none
  | .store t a x => match ed a with
    | .bx id r' off => match findE own id with
      | some e => match e.obj with
        | .box cs => some ⟨e.r = r' ∧ o.dst = none ∧ tCells P t = some (cellsD (ed x)).length ∧ plainD own (ed x) = true ∧ off + (cellsD (ed x)).length ≤ cs.length, .any, upE own id r' (.box (splice cs off (cellsD (ed x))))⟩
        | _ => none
      | none => none
    | .rx id r' k i j => eStoreRow P own o.dst t (ed x) id r' k i j
    | _ => none
  | .makeSlice t l c => eMake P own o.dst r t (ed l) (ed c)
  | .makeMap t rv => match rv, o.dst, tMap P t with
    | none, some i, some _ => some ⟨True, .omp i r, upE own i r (.map [] [])⟩
    | _, _, _ => none
  | .mapUpdate t m k x => match ed m, tMap P t with
    | .omp id r', some (kt, _) => match findE own id with
      | some e => match e.obj with
        | .map ks vs => some ⟨e.r = r' ∧ o.dst = none ∧ keyOK P kt (ed k) = true ∧ ks.all (keyOK P kt) = true, .any, upE own id r' (.map (updK ks (ed k)) (updV ks vs (ed k) (ed x)))⟩
        | _ => none
      | none => none
    | _, _ => none
  | .call c => match c.callee with
    | .builtin .append => eAppend P own o.dst r (c.args.toList.map (ed)) c.argTypes.toList
    | .builtin .clear => eClear P own (c.args.toList.map (ed)) c.argTypes.toList
    | .builtin .copy => eCopy P own (c.args.toList.map (ed)) c.argTypes.toList
    | _ => none
  | _ => none

end

section
variable {P : Program} {B : Base} {s : DS} {a : Act} {w : World} {loc : Nat → Loc} {ow : List Nat}

theorem oneO_nil {own : List Ent} {d : DVal} (h : oneO [] d = true) : oneO own d = true := by
  cases d <;> simp_all [oneO, isCur, findE, rowsOf]

theorem wp_val {ro : Option Nat} {o : Oper} {v : Value} {w' : World} {next : Act → World → Prop} {Q : Exit → Act → World → Prop} (hd : ∀ c, o.op ≠ .defer c) (h : (execOp a.eval o).run P w = .ok (.value v) w') (hn : next (a.put o.dst v) w') : o.wpIn (wd ro) 0 P a w next Q := by
  refine ⟨fun _ _ => trivial, ?_⟩
  rw [Oper.semAt_eq _ _ _ hd, h, Oper.uponIn_value]
  exact hn
theorem wp_unit {ro : Option Nat} {o : Oper} {w' : World} {next : Act → World → Prop} {Q : Exit → Act → World → Prop} (hd : ∀ c, o.op ≠ .defer c) (h : (execOp a.eval o).run P w = .ok .skip w') (hn : next (a.put o.dst Go.undef) w') : o.wpIn (wd ro) 0 P a w next Q := by
  refine ⟨fun _ _ => trivial, ?_⟩
  rw [Oper.semAt_eq _ _ _ hd, h, Oper.uponIn_skip]
  exact hn

theorem destOf_ok {id : Option Nat} {i0 r et k bs : Nat} {es : List (List DVal)} {d : DVal} {v : Value} (R : Rel B s a w loc) (hlim : mxE s.own ≤ r) (hdest : destOf s.own et k bs d = some (id, es)) (ra : Rds s loc B.M0 w d v) :
    RowAt s loc w B.M0 (id.getD i0) et k bs es v ∧ mxR es ≤ r := by
  unfold destOf at hdest
  split at hdest
  · simp only [Option.some.injEq, Prod.mk.injEq] at hdest
    obtain ⟨rfl, rfl⟩ := hdest
    simp only [Rds, rd] at ra
    exact ⟨.inl ⟨rfl, ra⟩, by simp [mxR]⟩
  · rename_i id' r'
    split at hdest
    · rename_i e0 he0
      split at hdest
      · rename_i her
        split at hdest
        · rename_i et' k' bs' es' hob
          split at hdest
          · rename_i heq
            obtain ⟨rfl, rfl, rfl⟩ := heq
            simp only [Option.some.injEq, Prod.mk.injEq] at hdest
            obtain ⟨rfl, rfl⟩ := hdest
            refine ⟨rowAt_osl R.st he0 her hob ra, ?_⟩
            have := (mem_mxE (findE_ent he0).1).2
            rw [hob] at this
            simp only [mxO] at this
            omega
          · simp at hdest
        · simp at hdest
      · simp at hdest
    · simp at hdest
  · simp at hdest

theorem destOf_mx {own : List Ent} {id : Option Nat} {r et k bs : Nat} {es : List (List DVal)} {d : DVal} (hdest : destOf own et k bs d = some (id, es)) (hlim : mxE own ≤ r) : mxR es ≤ r := by
  unfold destOf at hdest
  split at hdest
  · simp only [Option.some.injEq, Prod.mk.injEq] at hdest
    obtain ⟨_, rfl⟩ := hdest
    simp [mxR]
  · split at hdest
    · rename_i e0 he0
      split at hdest
      · split at hdest
        · rename_i hob
          split at hdest
          · simp only [Option.some.injEq, Prod.mk.injEq] at hdest
            obtain ⟨_, rfl⟩ := hdest
            have := (mem_mxE (findE_ent he0).1).2
            rw [hob] at this
            simp only [mxO] at this
            omega
          · simp at hdest
        · simp at hdest
      · simp at hdest
    · simp at hdest
  · simp at hdest
theorem partD_ok {own : List Ent} {d : DVal} {id r i m : Nat} {et : TypeId} {k bs : Nat} {es : List (List DVal)} (h : partD own d = some (id, r, i, m, et, k, bs, es)) :
    ∃ e bs0, findE own id = some e ∧ e.r = r ∧ e.obj = .row et k bs es ∧ (d = .osl id r ∧ i = 0 ∧ m = es.length ∨ d = .vw id r k bs0 i m) := by
  unfold partD at h
  split at h
  · split at h
    · rename_i e he
      split at h
      · rename_i her
        split at h
        · rename_i hob
          simp only [Option.some.injEq, Prod.mk.injEq] at h
          obtain ⟨rfl, rfl, rfl, rfl, rfl, rfl, rfl, rfl⟩ := h
          exact ⟨e, 0, he, her, hob, .inl ⟨rfl, rfl, rfl⟩⟩
        · simp at h
      · simp at h
    · simp at h
  · rename_i bs0 _ _
    split at h
    · rename_i e he
      split at h
      · rename_i her
        split at h
        · rename_i hob
          split at h
          · rename_i hk
            simp only [Option.some.injEq, Prod.mk.injEq] at h
            obtain ⟨rfl, rfl, rfl, rfl, rfl, rfl, rfl, rfl⟩ := h
            exact ⟨e, bs0, he, her, hob, .inr (by rw [hk])⟩
          · simp at h
        · simp at h
      · simp at h
    · simp at h
  · simp at h
theorem rowsN_mx {own : List Ent} {s : DVal} {k2 : Nat} {es2 : List (List DVal)} {n : Nat} (h : rowsN own s = some (k2, es2)) (h1 : mxE own ≤ n) (h2 : mx s ≤ n) : mxR es2 ≤ n := by
  unfold rowsN at h
  split at h
  · simp only [Option.some.injEq, Prod.mk.injEq] at h
    obtain ⟨_, rfl⟩ := h
    simp [mxR]
  · simp only [Option.some.injEq, Prod.mk.injEq] at h
    obtain ⟨_, rfl⟩ := h
    simp [mxR]
  · rw [Option.map_eq_some_iff] at h
    obtain ⟨⟨k', b', es'⟩, h3, h4⟩ := h
    simp only [Prod.mk.injEq] at h4
    obtain ⟨_, rfl⟩ := h4
    have := rowsOf_mx h3
    omega

theorem e_wp {o : Oper} {r : Nat} {x : ERes} {ed : Operand → DVal} {next : Act → World → Prop} {Q : Exit → Act → World → Prop} (R : Rel B s a w loc) (hr : lim B s ≤ r) (hd : dstOK B.nt o.dst = true) (hed : ∀ x ∈ o.op.operands, Rds s loc B.M0 w (ed x) (a.eval x)) (hmd : ∀ x ∈ o.op.operands, mx (ed x) ≤ mxS s.slots) (h : eRes P o ed s.own r = some x) (hp : x.pre)
    (hn : ∀ a' w' loc', Rel B ⟨putS s.slots o.dst x.d, x.own⟩ a' w' loc' → next a' w') : o.wpIn (wd B.ro) 0 P a w next Q := by
  have hlim := hr
  unfold lim at hlim
  obtain ⟨dst, op, type, pos, after, guard⟩ := o
  simp only at hd hn ⊢
  unfold eRes at h
  simp only at h
  cases op <;> simp only [reduceCtorEq] at h
  case box t y =>
    cases dst with
    | none => simp at h
    | some i =>
      simp only [Option.some.injEq] at h
      subst h
      simp only at hp hn
      obtain ⟨h1, h2⟩ := cells_of R.st hp (hed y (by simp [Op.operands, Call.operands]))
      have := R.newBox (id := i) (n := r) (cs := cellsD (ed y)) (us := (a.eval y).cells.toList) (ty := t) (dst := some i) hr (by rw [mx_cellsD]; have := hmd y (by simp [Op.operands, Call.operands]); omega) (fun j hj => by simp only [Option.some.injEq] at hj; subst hj; simpa [dstOK] using hd) h1 h2
      have hrun : (execOp a.eval ⟨some i, .box t y, type, pos, after, guard⟩).run P w = .ok (.value (.pointer (some ⟨w.heap.size, 0, none⟩))) (w.alloc (.cells (a.eval y).cells.toList.toArray t)) := by
        simp [execOp, Instr.box, newVar, newRow]
      exact wp_val (fun c hc => by cases hc) hrun (hn _ _ _ this)
  case buildSlice t len parts =>
    split at h
    · rename_i i k bs et ht hte
      simp only [Option.some.injEq] at h
      subst h
      simp only at hp hn
      simp only [nPre, ht] at hp
      obtain ⟨h1, h2, h3, h4, h5, h6, h7⟩ := hp
      have hlen : parts.toList.length = len := by have := congrArg List.length h1; simpa using this
      obtain ⟨e, us, hu, hrun, hul, hrd⟩ := run_buildSlice (P := P) (M0 := B.M0) (vs := parts.map fun p => (p.1, a.eval p.2)) R.st ht h5 h2 h3 h4 (ds := parts.toList.map fun p => ed p.2) (by rw [Array.toList_map, List.map_map]; exact h1) (by simpa using hlen) (by simpa [List.all_map, Function.comp_def] using h6) (by
        intro i d q hd hq
        simp only [List.getElem?_map, Option.map_eq_some_iff, Array.toList_map] at hd hq
        obtain ⟨a', ha, rfl⟩ := hd
        obtain ⟨b, hb, rfl⟩ := hq
        rw [ha] at hb
        simp only [Option.some.injEq] at hb
        subst hb
        exact hed a'.2 (by simpa [Op.operands] using ⟨a'.1, by simpa using List.mem_of_getElem? ha⟩)) h7
      have hee : e = et := by unfold tElemId at hte; rw [hu] at hte; simpa using hte
      subst hee
      have hL : ∀ b0, b0 ∈ (⟨[w.heap.size], .slice (some ⟨w.heap.size, 0, none⟩) len len⟩ : Loc).blks → b0 < (w.alloc (.cells us.toArray e)).heap.size ∧ ((∃ e ∈ s.own, e.id = i ∧ b0 ∈ (loc i).blks) ∨ w.heap.size ≤ b0) := by
        intro b0 hb0
        simp only [List.mem_singleton] at hb0
        subst hb0
        exact ⟨by simp, .inr (Nat.le_refl _)⟩
      have hw := Upd.alloc (hotOf s.own loc) w (.cells us.toArray e)
      have hmx : mxR (parts.toList.map fun p => cellsD (ed p.2)) ≤ r := by
        refine mxR_le' fun cs hm => ?_
        obtain ⟨p, hp, rfl⟩ := List.mem_map.1 hm
        rw [mx_cellsD]
        have := hmd p.2 (by simpa [Op.operands] using ⟨p.1, by simpa using hp⟩)
        omega
      have W := R.weakUp (obj := .row e k bs (parts.toList.map fun p => cellsD (ed p.2))) (r := r) hr hw hL (.inl (Nat.le_refl _))
      have R' := R.up (id := i) (r := r) (obj := .row e k bs (parts.toList.map fun p => cellsD (ed p.2))) (L := ⟨[w.heap.size], .slice (some ⟨w.heap.size, 0, none⟩) len len⟩) (v := .slice (some ⟨w.heap.size, 0, none⟩) len len) (d := .osl i r) (dst := some i) hr
        (fun j hj => by simp only [Option.some.injEq] at hj; subst hj; simpa [dstOK] using hd) hw (fun b hb _ => by simp only [World.alloc, Array.getElem?_push]; rw [if_neg (by omega)]) hL (.inl (Nat.le_refl _))
        ⟨by simpa [hlen] using h3, .inr ⟨w.heap.size, us.toArray, len, rfl, by simp [hlen], heap_alloc_new w _, by simp [hlen], by unfold maxLen; omega, by simp [hul], rdR_weak W k _ _ 0 hmx (by simpa [List.map_map, Function.comp_def] using hrd)⟩⟩
        (by
          simp only [rd]
          intro l hl
          rw [curOf_up] at hl
          simp only [Option.some.injEq] at hl
          rw [← hl])
      have hrun' : (execOp a.eval ⟨some i, .buildSlice t len parts, type, pos, after, guard⟩).run P w = .ok (.value (.slice (some ⟨w.heap.size, 0, none⟩) len len)) (w.alloc (.cells us.toArray e)) := by
        simp [execOp, hrun]
      exact wp_val (fun c hc => by cases hc) hrun' (hn _ _ _ R')
    · simp at h
  case alloc t =>
    cases dst with
    | none => simp at h
    | some i =>
      split at h
      · rename_i z hi hz
        simp only [Option.some.injEq] at h hi
        subst h; subst hi
        simp only at hp hn
        obtain ⟨zv, hzr, rfl⟩ := tZero_ok (w := w) hz
        have hus : rdV (cu s loc) (hm s loc B.M0) w.heap (zv.cells.toList.map ofV1) zv.cells.toList := rdV_map_ofV1 _
        have hmx : mxL (zv.cells.toList.map ofV1) = 0 := by
          have h1 : ∀ v, mx (ofV1 v) = 0 := by
            intro v
            unfold ofV1
            split <;> (try split) <;> simp [mx]
          generalize zv.cells.toList = l
          induction l with
          | nil => simp [mxL]
          | cons v l ih => simp [mxL, h1, ih]
        have hone := oneO_all R.st (zv.cells.toList.map ofV1) zv.cells.toList (List.all_eq_true.2 fun d hd => oneO_nil (List.all_eq_true.1 hp d hd)) hus
        have := R.newBox (id := i) (n := r) (cs := zv.cells.toList.map ofV1) (us := zv.cells.toList) (ty := t) (dst := some i) hr (by omega) (fun j hj => by simp only [Option.some.injEq] at hj; subst hj; simpa [dstOK] using hd) hus hone
        have hrun : (execOp a.eval ⟨some i, .alloc t, type, pos, after, guard⟩).run P w = .ok (.value (.pointer (some ⟨w.heap.size, 0, none⟩))) (w.alloc (.cells zv.cells.toList.toArray t)) := by
          simp [execOp, Instr.alloc, hzr, newVar, newRow]
        exact wp_val (fun c hc => by cases hc) hrun (hn _ _ _ this)
      · simp at h
  case store t ad y =>
    split at h
    · rename_i id r' off had
      split at h
      · rename_i e he
        split at h
        · rename_i cs hob
          simp only [Option.some.injEq] at h
          subst h
          simp only at hp hn
          obtain ⟨her, rfl, hc, hpl, hfit⟩ := hp
          have ha := hed ad (by simp [Op.operands, Call.operands])
          rw [had] at ha
          obtain ⟨w', hrun, R'⟩ := R.storeBox (P := P) (t := t) (n := r) he her hob ha (hed y (by simp [Op.operands, Call.operands])) hpl hc hfit (hmd y (by simp [Op.operands, Call.operands])) hr
          have hrun' : (execOp a.eval ⟨none, .store t ad y, type, pos, after, guard⟩).run P w = .ok .skip w' := by
            simp [execOp, hrun]
          exact wp_unit (fun c hc => by cases hc) hrun' (hn _ _ _ R')
        · simp at h
      · simp at h
    · rename_i id r' k i j had
      unfold eStoreRow at h
      split at h
      · rename_i e he
        split at h
        · rename_i et k' bs es hob
          split at h
          · rename_i c0 hc0
            simp only [Option.some.injEq] at h
            subst h
            simp only at hp hn
            obtain ⟨her, rfl, rfl, hc, hpl, hfit⟩ := hp
            have ha := hed ad (by simp [Op.operands, Call.operands])
            rw [had] at ha
            obtain ⟨w', hrun, R'⟩ := R.storeRow (P := P) (t := t) (n := r) he her hob ha (hed y (by simp [Op.operands, Call.operands])) hpl hc hc0 hfit (hmd y (by simp [Op.operands, Call.operands])) hr
            have hrun' : (execOp a.eval ⟨none, .store t ad y, type, pos, after, guard⟩).run P w = .ok .skip w' := by
              simp [execOp, hrun]
            exact wp_unit (fun c hc => by cases hc) hrun' (hn _ _ _ R')
          · simp at h
        · simp at h
      · simp at h
    · simp at h
  case makeSlice t lo co =>
    unfold eMake at h
    split at h
    · rename_i i k bs et zs kl n kc m ht hte hz hl hc
      simp only [Option.some.injEq] at h
      subst h
      simp only at hp hn
      obtain ⟨h1, h2, h3, h4, h5, h6⟩ := hp
      have rl := hed lo (by simp [Op.operands, Call.operands])
      have rc := hed co (by simp [Op.operands, Call.operands])
      rw [hl] at rl
      rw [hc] at rc
      simp only [rd] at rl rc
      obtain ⟨v', w', L, hrun, R'⟩ := R.makeRow (P := P) (id := i) (n := r) (kl := kl) (kc := kc) (dst := some i) hr (fun j hj => by simp only [Option.some.injEq] at hj; subst hj; simpa [dstOK] using hd) ht hte hz h1 h2 h3 h4 h5 h6
      have hrun' : (execOp a.eval ⟨some i, .makeSlice t lo co, type, pos, after, guard⟩).run P w = .ok (.value v') w' := by
        simp [execOp, rl.1, rc.1, hrun]
      exact wp_val (fun c hc => by cases hc) hrun' (hn _ _ _ R')
    · simp at h
  case makeMap t rv =>
    split at h
    · rename_i i kte ht
      simp only [Option.some.injEq] at h
      subst h
      simp only at hp hn
      have := R.newMap (id := i) (n := r) (dst := some i) hr (fun j hj => by simp only [Option.some.injEq] at hj; subst hj; simpa [dstOK] using hd)
      have hrun : (execOp a.eval ⟨some i, .makeMap t none, type, pos, after, guard⟩).run P w = .ok (.value (.map (some w.heap.size))) (w.alloc (.map #[] 0)) := by
        simp [execOp, RowKit.run_makeMap]
      exact wp_val (fun c hc => by cases hc) hrun (hn _ _ _ this)
    · simp at h
  case mapUpdate t m k x =>
    split at h
    · rename_i id r' kt et hm ht
      split at h
      · rename_i e he
        split at h
        · rename_i ks vs hob
          simp only [Option.some.injEq] at h
          subst h
          simp only at hp hn
          obtain ⟨her, rfl, hk, hks⟩ := hp
          have ha := hed m (by simp [Op.operands, Call.operands])
          rw [hm] at ha
          obtain ⟨w', hrun, R'⟩ := R.updMap (P := P) (t := t) (n := r) he her hob ha (hed k (by simp [Op.operands, Call.operands])) (hed x (by simp [Op.operands, Call.operands])) ht hk hks (hmd k (by simp [Op.operands, Call.operands])) (hmd x (by simp [Op.operands, Call.operands])) hr
          have hrun' : (execOp a.eval ⟨none, .mapUpdate t m k x, type, pos, after, guard⟩).run P w = .ok .skip w' := by
            simp [execOp, hrun]
          exact wp_unit (fun c hc => by cases hc) hrun' (hn _ _ _ R')
        · simp at h
      · simp at h
    · simp at h
  case call c =>
    obtain ⟨cal, args, ats⟩ := c
    cases cal <;> simp only [reduceCtorEq] at h
    rename_i b
    cases b <;> simp only [reduceCtorEq] at h
    obtain ⟨al⟩ := args
    obtain ⟨tl⟩ := ats
    case append =>
      unfold eAppend at h
      split at h
      · rename_i da db t t' hargs hts
        split at h
        · rename_i i k bs et ht hte
          split at h
          · rename_i x hstr
            split at h
            · rename_i id es hdest
              simp only [Option.some.injEq] at h
              subst h
              simp only at hp hn
              obtain ⟨ht2, hz, hk, hbs, hb, hl⟩ := hp
              have hdb : db = .str x := by
                unfold strOf at hstr
                split at hstr
                · simp only [Option.some.injEq] at hstr; rw [hstr]
                · simp at hstr
              match al, hargs with
              | [xa, xb], hargs =>
                simp only [List.map_cons, List.map_nil, List.cons.injEq, and_true] at hargs
                obtain ⟨hxa, hxb⟩ := hargs
                subst hts
                have ra := hed xa (by simp [Op.operands, Call.operands])
                have rb := hed xb (by simp [Op.operands, Call.operands])
                rw [hxa] at ra
                rw [hxb, hdb] at rb
                simp only [Rds, rd] at rb
                have hrow := destOf_ok (i0 := i) (r := r) R (by omega) hdest ra
                have hu2 : P.underlying t' = some .string := by
                  unfold tStr at ht2
                  split at ht2
                  · assumption
                  · simp at ht2
                obtain ⟨v', w', L, hrun, R'⟩ := R.appendStr (P := P) (ty := type) (id := id.getD i) (n := r) (x := x) (dst := some i) hr (fun j hj => by simp only [Option.some.injEq] at hj; subst hj; simpa [dstOK] using hd) ht hte hz (by omega) hrow.1 hrow.2 hu2 hk hb hbs (by unfold maxLen; omega)
                have hrun' : (execOp a.eval ⟨some i, .call { callee := .builtin .append, args := ⟨[xa, xb]⟩, argTypes := ⟨[t, t']⟩ }, type, pos, after, guard⟩).run P w = .ok (.value v') w' := by
                  simp only [execOp, resolve, Sem.run_bind, List.map_toArray, List.map_cons, List.map_nil, Sem.run_pure, Result.andThen_ok, invoke, builtin, rb.1, hrun]
                exact wp_val (fun c hc => by cases hc) hrun' (hn _ _ _ R')
            · simp at h
          split at h
          · rename_i id es k2 es2 hdest hsrc
            simp only [Option.some.injEq] at h
            subst h
            simp only at hp hn
            obtain ⟨rfl, hz, hk, hk2, hbs, hb, hl⟩ := hp
            match al, hargs with
            | [xa, xb], hargs =>
              simp only [List.map_cons, List.map_nil, List.cons.injEq, and_true] at hargs
              obtain ⟨hxa, hxb⟩ := hargs
              subst hts
              have ra := hed xa (by simp [Op.operands, Call.operands])
              have rb := hed xb (by simp [Op.operands, Call.operands])
              rw [hxa] at ra
              rw [hxb] at rb
              have ma := hmd xa (by simp [Op.operands, Call.operands])
              have mb := hmd xb (by simp [Op.operands, Call.operands])
              rw [hxa] at ma
              rw [hxb] at mb
              have hrow := destOf_ok (i0 := i) (r := r) R (by omega) hdest ra
              have hmx2 : mxR es2 ≤ r := by
                unfold rowsN at hsrc
                split at hsrc
                · simp only [Option.some.injEq, Prod.mk.injEq] at hsrc
                  obtain ⟨_, rfl⟩ := hsrc
                  simp [mxR]
                · simp only [Option.some.injEq, Prod.mk.injEq] at hsrc
                  obtain ⟨_, rfl⟩ := hsrc
                  simp [mxR]
                · rw [Option.map_eq_some_iff] at hsrc
                  obtain ⟨⟨k', b', es'⟩, h1, h2⟩ := hsrc
                  simp only [Prod.mk.injEq] at h2
                  obtain ⟨_, rfl⟩ := h2
                  have := rowsOf_mx h1
                  omega
              obtain ⟨v', w', L, hrun, R'⟩ := R.append (P := P) (ty := type) (id := id.getD i) (n := r) (dst := some i) hr (fun j hj => by simp only [Option.some.injEq] at hj; subst hj; simpa [dstOK] using hd) ht hte hz hk hrow.1 hrow.2 rb hsrc hk2 hmx2 hb hbs (by unfold maxLen; omega)
              have hrun' : (execOp a.eval ⟨some i, .call { callee := .builtin .append, args := ⟨[xa, xb]⟩, argTypes := ⟨[t', t']⟩ }, type, pos, after, guard⟩).run P w = .ok (.value v') w' := by
                simp only [execOp, resolve, Sem.run_bind, List.map_toArray, List.map_cons, List.map_nil, Sem.run_pure, Result.andThen_ok, invoke, builtin, hrun]
              exact wp_val (fun c hc => by cases hc) hrun' (hn _ _ _ R')
          · simp at h
        · simp at h
      · simp at h
    case copy =>
      obtain ⟨al⟩ := args
      obtain ⟨tl⟩ := ats
      unfold eCopy at h
      split at h
      · rename_i d sd t t' hargs hts
        subst hts
        match al, hargs with
        | [xa, xb], hargs =>
          simp only [List.map_cons, List.map_nil, List.cons.injEq, and_true] at hargs
          obtain ⟨hxa, hxb⟩ := hargs
          have ra := hed xa (by simp [Op.operands, Call.operands])
          have rb := hed xb (by simp [Op.operands, Call.operands])
          have mb := hmd xb (by simp [Op.operands, Call.operands])
          rw [hxa] at ra
          rw [hxb] at rb mb
          split at h
          · rename_i k k0 id r' i m et k' bs es k2 es2 ht hpart hsrc
            simp only [Option.some.injEq] at h
            subst h
            simp only at hp
            obtain ⟨rfl, rfl, hk, hb, hk2⟩ := hp
            obtain ⟨e, bs0, he, her, hob, hdd⟩ := partD_ok hpart
            obtain ⟨w', hrun, R'⟩ := R.copyRow (P := P) (ty := type) (n := r) (bs0 := bs0) (dst := dst) he her hob ra hdd hb ht hk rb hsrc hk2 (rowsN_mx hsrc (by omega) (by omega)) hr (fun j hj => by subst hj; simpa [dstOK] using hd)
            have hrun' : (execOp a.eval ⟨dst, .call { callee := .builtin .copy, args := ⟨[xa, xb]⟩, argTypes := ⟨[t', t']⟩ }, type, pos, after, guard⟩).run P w = .ok (.value (goInt (min es2.length m : Nat))) w' := by
              simp only [execOp, resolve, Sem.run_bind, List.map_toArray, List.map_cons, List.map_nil, Sem.run_pure, Result.andThen_ok, invoke, builtin, hrun]
            exact wp_val (fun c hc => by cases hc) hrun' (hn _ _ _ R')
          · simp at h
      · simp at h
    case clear =>
      obtain ⟨al⟩ := args
      obtain ⟨tl⟩ := ats
      have main : ∀ {w' : World} {own' : List Ent} {loc' : Nat → Loc} {xa : Operand} {t : TypeId}, al = [xa] → tl = [t] → (Builtin.clear_ #[t] type #[a.eval xa]).run P w = .ok (.tuple #[]) w' → Rel B ⟨putS s.slots dst (.tup []), own'⟩ (a.put dst (.tuple #[])) w' loc' → x.d = .tup [] → x.own = own' →
          (Oper.mk dst (.call { callee := .builtin .clear, args := ⟨al⟩, argTypes := ⟨tl⟩ }) type pos after guard).wpIn (wd B.ro) 0 P a w next Q := by
        intro w' own' loc' xa t hal htl hrun R' hxd hxo
        subst hal; subst htl
        rw [hxd, hxo] at hn
        have hrun' : (execOp a.eval ⟨dst, .call { callee := .builtin .clear, args := ⟨[xa]⟩, argTypes := ⟨[t]⟩ }, type, pos, after, guard⟩).run P w = .ok (.value (.tuple #[])) w' := by
          simp only [execOp, resolve, Sem.run_bind, List.map_toArray, List.map_cons, List.map_nil, Sem.run_pure, Result.andThen_ok, invoke, builtin, hrun]
        exact wp_val (fun c hc => by cases hc) hrun' (hn _ _ _ R')
      unfold eClear at h
      split at h
      · rename_i d t hargs hts
        subst hts
        match al, hargs with
        | [xa], hargs =>
          simp only [List.map_cons, List.map_nil, List.cons.injEq, and_true] at hargs
          have ra := hed xa (by simp [Op.operands, Call.operands])
          rw [hargs] at ra
          split at h
          · rename_i k bs0 zs ht hz
            split at h
            · rename_i id r' 
              split at h
              · rename_i e he
                split at h
                · rename_i et k' bs es hob
                  simp only [Option.some.injEq] at h
                  subst h
                  simp only at hp
                  obtain ⟨her, rfl, h1, h2, h3⟩ := hp
                  obtain ⟨w', hrun, R'⟩ := R.clearRow (P := P) (t := t) (ty := type) (n := r) (k0 := bs0) (bs0 := 0) (e' := 0) (dst := dst) he her hob ra (.inl ⟨rfl, rfl, rfl⟩) (by simp) ht hz h1 h2 h3 hr (fun j hj => by subst hj; simpa [dstOK] using hd)
                  exact main rfl rfl hrun R' rfl rfl
                · simp at h
              · simp at h
            · rename_i id r' k0 bs1 i m _
              split at h
              · rename_i e he
                split at h
                · rename_i et k' bs es hob
                  simp only [Option.some.injEq] at h
                  subst h
                  simp only at hp
                  obtain ⟨her, rfl, rfl, h1, h2, h3, h4⟩ := hp
                  obtain ⟨w', hrun, R'⟩ := R.clearRow (P := P) (t := t) (ty := type) (n := r) (k0 := bs0) (bs0 := bs1) (e' := 0) (dst := dst) he her hob ra (.inr rfl) h4 ht hz h1 h2 h3 hr (fun j hj => by subst hj; simpa [dstOK] using hd)
                  exact main rfl rfl hrun R' rfl rfl
                · simp at h
              · simp at h
            · simp at h
          · simp at h
      · simp at h


/-- what a yield function's value leads to -/
def yH (l : Nat) : Abs where
  J := fun _ bl hd _ => bl = [] ∧ hd = .func (.yield l) #[] #[]
  weak := fun _ _ _ _ _ _ _ _ _ h => h
  one := by rintro _ _ _ _ ⟨_, rfl⟩; exact ⟨rfl, rfl⟩
  nd := by rintro _ _ _ _ ⟨rfl, _⟩ b hb; cases hb
/-- A round of a range over a function: the loop l, in a state A, called with these, answers b and goes over into A'. -/
def YAt (P : Program) (l : Nat) (A : Abs) (args : List DVal) (b : Bool) (A' : Abs) : Prop :=
  ∀ (M bl : List Nat) (hd : Value) (w : World) (vs : Array Value), bl.Nodup → (∀ q ∈ bl, q ∈ M) → (∀ q ∈ M, q < w.heap.size) → A.J M bl hd w.heap → rdV (fun _ _ => none) M w.heap args vs.toList →
    FCalls P (.yield l) vs w fun v w' => v = .bool b ∧ ∃ bl', Upd bl w w' ∧ bl'.Nodup ∧ (∀ q ∈ bl', q < w'.heap.size ∧ (q ∈ bl ∨ w.heap.size ≤ q)) ∧
      ∀ M', (∀ q ∈ M', q ∈ bl' ∨ (q ∈ M ∧ q ∉ bl)) → A'.J M' bl' hd w'.heap
/-- an own object is called -/
def pkOf (ed : Operand → DVal) (c : Call) : Option (Nat × Nat × List DVal) := match c.callee with
  | .value f => match ed f with | .pk id r => some (id, r, c.args.toList.map ed) | _ => none
  | _ => none

/-- What an operation with an effect hands back, and leaves: one of the machine's own; a call under a contract; a round. -/
def EOut (P : Program) (o : Oper) (ed : Operand → DVal) (own : List Ent) (r : Nat) (d : DVal) (own' : List Ent) : Prop :=
  (∃ x, eRes P o ed own r = some x ∧ x.pre ∧ d = x.d ∧ own' = x.own) ∨ (∃ c g args, o.op = .call c ∧ callee ed c = some (g, args) ∧ SpecAt P (.func g) args own r d own') ∨
    (∃ c id r' args e0 l e A A' b, o.op = .call c ∧ pkOf ed c = some (id, r', args) ∧ findE own id = some e0 ∧ e0.r = r' ∧ e0.obj = .abs (yH l) ∧ findE own (id + 1) = some e ∧ e.obj = .abs A ∧ mxL args = 0 ∧ YAt P l A args b A' ∧ d = .bool b ∧ own' = upE own (id + 1) r (.abs A'))

def effE (P : Program) (o : Oper) (ed : Operand → DVal) (own : List Ent) (K : ContE) : Prop := ∀ r, match eRes P o ed own r with | some x => x.pre ∧ K.f x.d x.own | none => False
def callS (P : Program) (g : FuncId) (args : List DVal) (own : List Ent) (K : ContE) : Prop := ∀ r, ∃ d own', SpecAt P (.func g) args own r d own' ∧ K.f d own'
def callY (P : Program) (id r' : Nat) (args : List DVal) (own : List Ent) (K : ContE) : Prop := ∃ e0 l e A A' b, findE own id = some e0 ∧ e0.r = r' ∧ e0.obj = .abs (yH l) ∧ findE own (id + 1) = some e ∧ e.obj = .abs A ∧ mxL args = 0 ∧ YAt P l A args b A' ∧ ∀ r, K.f (.bool b) (upE own (id + 1) r (.abs A'))
def effX (P : Program) (o : Oper) (ed : Operand → DVal) (own : List Ent) (K : ContE) : Prop := match o.op with
  | .call c => match callee ed c with
    | some (g, args) => callS P g args own K
    | none => match pkOf ed c with
      | some (id, r', args) => callY P id r' args own K
      | none => effE P o ed own K
  | _ => effE P o ed own K

theorem effE_out {P : Program} {o : Oper} {ed : Operand → DVal} {own : List Ent} {K : ContE} (h : effE P o ed own K) (r : Nat) : ∃ d own', EOut P o ed own r d own' ∧ K.f d own' := by
  have h1 := h r
  split at h1
  · rename_i x hx
    exact ⟨x.d, x.own, .inl ⟨x, hx, h1.1, rfl, rfl⟩, h1.2⟩
  · exact h1.elim
theorem effX_out {P : Program} {o : Oper} {ed : Operand → DVal} {own : List Ent} {K : ContE} (h : effX P o ed own K) (r : Nat) : ∃ d own', EOut P o ed own r d own' ∧ K.f d own' := by
  unfold effX at h
  split at h
  · rename_i c hop
    split at h
    · rename_i g args hc
      obtain ⟨d, own', h1, h2⟩ := h r
      exact ⟨d, own', .inr (.inl ⟨c, g, args, hop, hc, h1⟩), h2⟩
    · split at h
      · rename_i id r' args hp
        obtain ⟨e0, l, e, A, A', b, h1, h2, h3, h4, h5, h6, h7, h8⟩ := h
        exact ⟨_, _, .inr (.inr ⟨c, id, r', args, e0, l, e, A, A', b, hop, hp, h1, h2, h3, h4, h5, h6, h7, rfl, rfl⟩), h8 r⟩
      · exact effE_out h r
  · exact effE_out h r

/-- a call under a contract -/
theorem spec_wp {o : Oper} {c : Call} {g : FuncId} {args : List DVal} {r : Nat} {d : DVal} {own' : List Ent} {ed : Operand → DVal} {next : Act → World → Prop} {Q : Exit → Act → World → Prop} (R : Rel B s a w loc) (hr : lim B s ≤ r) (hd : dstOK B.nt o.dst = true) (ho : o.op = .call c)
    (hed : ∀ x ∈ o.op.operands, Rds s loc B.M0 w (ed x) (a.eval x)) (hc : callee ed c = some (g, args)) (hS : SpecAt P (.func g) args s.own r d own')
    (hn : ∀ a' w' loc', Rel B ⟨putS s.slots o.dst d, own'⟩ a' w' loc' → next a' w') : o.wpIn (wd B.ro) 0 P a w next Q := by
  have hlim := hr
  unfold lim at hlim
  obtain ⟨hE, _, _, hS⟩ := hS
  obtain ⟨vs, h1, h2⟩ := run_call (P := P) (ρ := a.eval) (M0 := B.M0) ho (fun x hx => hed x (by rw [ho]; exact hx)) hc hE
  refine ⟨fun _ _ => trivial, ?_⟩
  rw [Oper.semAt_eq _ _ _ (fun c' hc' => by rw [ho] at hc'; cases hc'), h1, Oper.uponIn_enter]
  refine ⟨fun h => by simp [wd] at h, calls_wd B.ro _ ?_⟩
  refine ((hS B.M0 w loc vs (by omega) R.st h2).2).mono ?_
  rintro e w' ⟨v, rfl, loc', S', hu, hnew, hver, hrd⟩
  exact hn _ _ loc' (R.step (n := r) (by omega) (by omega) (dst_lt hd) S' hu hnew hver hrd)

theorem round_wd {P : Program} {l : Nat} {fn : FuncId} {tmps : Array Value} {assign body : Code} {w : World} {R : Ending → World → Prop} (ro : Option Nat) (h : RoundIn (wd none) 0 P l fn tmps assign body w R) : RoundIn (wd ro) 0 P l fn tmps assign body w R := h

/-- a round -/
theorem yield_wp {o : Oper} {c : Call} {id r' n l : Nat} {args : List DVal} {e0 e : Ent} {A A' : Abs} {b : Bool} {ed : Operand → DVal} {next : Act → World → Prop} {Q : Exit → Act → World → Prop} (R : Rel B s a w loc) (hr : lim B s ≤ n) (hd : dstOK B.nt o.dst = true) (ho : o.op = .call c)
    (hed : ∀ x ∈ o.op.operands, Rds s loc B.M0 w (ed x) (a.eval x)) (hc : pkOf ed c = some (id, r', args)) (he0 : findE s.own id = some e0) (her : e0.r = r') (hob0 : e0.obj = .abs (yH l)) (he : findE s.own (id + 1) = some e) (hob : e.obj = .abs A) (hm0 : mxL args = 0) (hY : YAt P l A args b A')
    (hn : ∀ a' w' loc', Rel B ⟨putS s.slots o.dst (.bool b), upE s.own (id + 1) n (.abs A')⟩ a' w' loc' → next a' w') : o.wpIn (wd B.ro) 0 P a w next Q := by
  obtain ⟨dst, op, type, pos, after, guard⟩ := o
  simp only at ho
  subst ho
  obtain ⟨cal, ars, ats⟩ := c
  unfold pkOf at hc
  cases cal with
  | builtin _ => simp at hc
  | invoke _ _ => simp at hc
  | value f =>
    simp only at hc
    split at hc
    rotate_left
    · simp at hc
    rename_i id0 r0 hf
    simp only [Option.some.injEq, Prod.mk.injEq] at hc
    obtain ⟨rfl, rfl, rfl⟩ := hc
    obtain ⟨hmem0, hid0⟩ := findE_ent he0
    obtain ⟨hmem, hid⟩ := findE_ent he
    have hcur : curOf s.own loc id0 r0 = some (loc id0) := by unfold curOf; rw [he0]; simp [her]
    have hx := hed f (by simp [Op.operands, Call.operands])
    rw [hf] at hx
    simp only [Rds, rd] at hx
    have hv := hx _ hcur
    have hk0 := R.st.ok e0 hmem0
    rw [hob0, hid0] at hk0
    have hl : (loc id0).hdr = .func (.yield l) #[] #[] := hk0.2
    have hk := R.st.ok e hmem
    rw [hob, hid] at hk
    have hrd : rdV (fun _ _ => none) (hotOf s.own loc ++ B.M0) w.heap (ars.toList.map ed) (ars.toList.map a.eval) := by
      have key : ∀ l : List Operand, (∀ x ∈ l, x ∈ ars.toList) → rdV (cu s loc) (hm s loc B.M0) w.heap (l.map ed) (l.map a.eval) := by
        intro l
        induction l with
        | nil => intro _; simp [rdV]
        | cons x l ih =>
          intro hl
          simp only [List.map_cons, rdV]
          exact ⟨_, _, rfl, hed x (by have := hl x List.mem_cons_self; simp [Op.operands, Call.operands]; simp at this; exact .inr this), ih fun y hy => hl y (List.mem_cons_of_mem _ hy)⟩
      exact rdV_weak (n := 0) ⟨fun _ _ _ h => by omega, fun b o _ (_ : isD o = true) ho => ho, fun b o hb (_ : isD o = true) _ => hb⟩ _ _ (Nat.le_of_eq hm0) (key _ (fun _ h => h))
    have hF := hY (hotOf s.own loc ++ B.M0) (loc (id0 + 1)).blks (loc (id0 + 1)).hdr w (ars.map a.eval) (by have := blks_nodup R.st.bl e hmem; rwa [hid] at this) (fun q hq => List.mem_append_left _ (mem_hot hmem (by rw [hid]; exact hq))) R.st.lt hk (by simpa using hrd)
    obtain ⟨fn, tmps, assign, body, hrun, hround⟩ := hF
    refine ⟨fun _ _ => trivial, ?_⟩
    have hex : (execOp a.eval ⟨dst, .call { callee := .value f, args := ars, argTypes := ats }, type, pos, after, guard⟩).run P w = .ok (.round l fn tmps assign body) w := by
      simp only [execOp, resolve, hv, hl, Deferred.ofValue, Sem.run_bind, Sem.run_pure, Result.andThen_ok, invoke]
      simpa using hrun
    rw [Oper.semAt_eq _ _ _ (fun c' hc' => by simp at hc'), hex, Oper.uponIn_round]
    refine ⟨fun h => by simp [wd] at h, (round_wd B.ro hround).mono ?_⟩
    rintro e1 w' ⟨v, rfl, rfl, bl', hu, hnd, hbl, hJ⟩
    have hL : ∀ b0, b0 ∈ (⟨bl', (loc (id0 + 1)).hdr⟩ : Loc).blks → b0 < w'.heap.size ∧ ((∃ e ∈ s.own, e.id = id0 + 1 ∧ b0 ∈ (loc (id0 + 1)).blks) ∨ w.heap.size ≤ b0) := fun b0 hb0 =>
      ⟨(hbl b0 hb0).1, (hbl b0 hb0).2.imp (fun h => ⟨e, hmem, hid, h⟩) id⟩
    have hu' : Upd (hotOf s.own loc) w w' := ⟨hu.os, hu.tape, hu.output, hu.drawn, hu.size, fun q hq hn' => hu.blk q hq (fun h => hn' (mem_hot hmem (by rw [hid]; exact h)))⟩
    refine hn _ _ _ (R.up (id := id0 + 1) (r := n) (obj := .abs A') (L := ⟨bl', (loc (id0 + 1)).hdr⟩) (v := .bool b) (d := .bool b) (dst := dst) hr (fun j hj => by subst hj; simpa [dstOK] using hd) hu' (fun q hq hne => hu.blk q hq (hne e hmem hid)) hL (.inl (Nat.le_refl _)) (hJ _ ?_) (by simp [rd]) hnd)
    intro q hq
    rcases List.mem_append.1 hq with hq | hq
    · unfold upE at hq
      rw [hot_cons, hot_delE] at hq
      rcases List.mem_append.1 hq with hq | hq
      · simp only [upL, if_true] at hq; exact .inl hq
      · obtain ⟨e2, he2, hne, hb2⟩ := hot_sub hq
        refine .inr ⟨List.mem_append_left _ (mem_hot he2 hb2), fun hb3 => ?_⟩
        have := hot_inj R.st.bl e2 he2 e hmem q hb2 (by rw [hid]; exact hb3)
        subst this
        exact hne hid
    · exact .inr ⟨List.mem_append_right _ hq, fun hb3 => R.st.ap q (mem_hot hmem (by rw [hid]; exact hb3)) hq⟩
theorem eo_wp {o : Oper} {r : Nat} {d : DVal} {own' : List Ent} {ed : Operand → DVal} {next : Act → World → Prop} {Q : Exit → Act → World → Prop} (R : Rel B s a w loc) (hr : lim B s ≤ r) (hd : dstOK B.nt o.dst = true) (hed : ∀ x ∈ o.op.operands, Rds s loc B.M0 w (ed x) (a.eval x)) (hmd : ∀ x ∈ o.op.operands, mx (ed x) ≤ mxS s.slots) (h : EOut P o ed s.own r d own')
    (hn : ∀ a' w' loc', Rel B ⟨putS s.slots o.dst d, own'⟩ a' w' loc' → next a' w') : o.wpIn (wd B.ro) 0 P a w next Q := by
  rcases h with ⟨x, hx, hp, rfl, rfl⟩ | ⟨c, g, args, hop, hc, hS⟩ | ⟨c, id, r', args, e0, l, e, A, A', b, hop, hc, he0, her, hob0, he, hob, hm0, hY, rfl, rfl⟩
  · exact e_wp R hr hd hed hmd hx hp hn
  · exact spec_wp R hr hd hop hed hc hS hn
  · exact yield_wp R hr hd hop hed hc he0 her hob0 he hob hm0 hY hn

end

end Go.Dm
end

section
/- The data machine, second make, part K: fewer own objects serve as well; which versions a result names. -/

set_option linter.unusedSimpArgs false
set_option linter.unusedVariables false
namespace Go.Dm

/-- what is found in a is found in b -/
def ExtE (a b : List Ent) : Prop := ∀ id e, findE a id = some e → findE b id = some e

section
variable {P : Program} {a b : List Ent} {e : Operand → DVal}

theorem isCur_ext (h : ExtE a b) {id r : Nat} (hc : isCur a id r = true) : isCur b id r = true := by
  unfold isCur at hc ⊢
  split at hc
  · rename_i x hx; rw [h _ _ hx]; exact hc
  · simp at hc

theorem cellsAt_ext (h : ExtE a b) {p : DVal} {cs : List DVal} (hc : cellsAt a p = some cs) : cellsAt b p = some cs := by
  cases p <;> simp only [cellsAt] at hc ⊢ <;> try exact hc
  · split at hc
    · rename_i x hx; rw [h _ _ hx]; exact hc
    · simp at hc
  · split at hc
    · rename_i x hx; rw [h _ _ hx]; exact hc
    · simp at hc

theorem rowsOf_ext (h : ExtE a b) {p : DVal} {x : Nat × Nat × List (List DVal)} (hc : rowsOf a p = some x) : rowsOf b p = some x := by
  cases p <;> simp only [rowsOf] at hc ⊢ <;> try exact hc
  · split at hc
    · rename_i y hy; rw [h _ _ hy]; exact hc
    · simp at hc
  · split at hc
    · rename_i y hy; rw [h _ _ hy]; exact hc
    · simp at hc

theorem oneO_ext (h : ExtE a b) {d : DVal} (hc : oneO a d = true) : oneO b d = true := by
  cases d <;> simp only [oneO] at hc ⊢ <;> try exact hc
  · exact isCur_ext h hc
  · exact isCur_ext h hc
  · obtain ⟨x, hx⟩ := Option.isSome_iff_exists.1 hc
    rw [rowsOf_ext h hx]; rfl
  · exact isCur_ext h hc
  · exact isCur_ext h hc
  · split at hc
    · rename_i e he; rw [h _ e he]; exact hc
    · simp at hc

theorem plainD_ext (h : ExtE a b) {d : DVal} (hc : plainD a d = true) : plainD b d = true := by
  unfold plainD at hc ⊢
  exact List.all_eq_true.2 fun x hx => oneO_ext h (List.all_eq_true.1 hc x hx)

theorem mapOf_ext (h : ExtE a b) {p : DVal} {x : List DVal × List DVal} (hc : mapOf a p = some x) : mapOf b p = some x := by
  unfold mapOf at hc ⊢
  split at hc
  · exact hc
  · exact hc
  · rename_i id r
    cases hf : findE a id with
    | none => rw [hf] at hc; simp at hc
    | some e => rw [hf] at hc; simp only [h id e hf]; exact hc
  · simp at hc

theorem bVal_ext (h : ExtE a b) {bi : Builtin} {ds : List DVal} {ts : List TypeId} (hp : bPre P a bi ds ts) : bPre P b bi ds ts ∧ bVal b bi ds = bVal a bi ds := by
  unfold bPre at hp
  split at hp
  · rename_i d t
    cases d <;> simp only [bPre, bVal] at hp ⊢ <;> first
      | exact ⟨hp, trivial⟩
      | (obtain ⟨h1, h2⟩ := hp
         obtain ⟨x, hx⟩ := Option.isSome_iff_exists.1 h1
         rw [hx, rowsOf_ext h hx]
         exact ⟨⟨rfl, h2⟩, rfl⟩)
      | (obtain ⟨h1, h2⟩ := hp
         split at h2
         · rename_i hx; rw [mapOf_ext h hx]; exact ⟨⟨h1, h2⟩, rfl⟩
         · exact h2.elim)
  · simp only [bPre, bVal]; exact ⟨hp, trivial⟩
  · simp only [bPre, bVal]; exact ⟨hp, trivial⟩
  · exact hp.elim

theorem n_ext (h : ExtE a b) (op : Op) (hp : nPre P a e op) : nPre P b e op ∧ nVal P b e op = nVal P a e op := by
  cases op <;> simp only [nPre, nVal] at hp ⊢ <;> first
    | exact ⟨hp, trivial⟩
    | exact hp.elim
    | trivial
    | skip
  case fieldAddr t x f =>
    refine ⟨?_, trivial⟩
    split at hp
    · exact hp
    · exact ⟨hp.1, isCur_ext h hp.2⟩
    · exact ⟨hp.1, isCur_ext h hp.2⟩
    · exact hp.elim
  case nilCheck x =>
    refine ⟨?_, trivial⟩
    split at hp
    · trivial
    · exact isCur_ext h hp
    · exact isCur_ext h hp
    · trivial
    · exact hp.elim
  case load t x =>
    split at hp
    · rename_i h1 h2 h3; rw [h1, h2, cellsAt_ext h h3]; exact ⟨hp, rfl⟩
    · rename_i h1 h3; rw [h1, cellsAt_ext h h3]; exact ⟨hp, rfl⟩
    · exact hp.elim
  case indexAddr t x i =>
    split at hp
    · rename_i ik n k bs k' bs' es h1 h2 h3
      rw [h1, h2, rowsOf_ext h h3]
      refine ⟨hp, ?_⟩
      simp only
      cases hx : e x <;> rw [hx] at h3 <;> simp only [idxVal]
      rw [h3, rowsOf_ext h h3]
    · exact hp.elim
  case box t x => exact ⟨plainD_ext h hp, trivial⟩
  case slice t x l' h' m =>
    cases hx : e x <;> rw [hx] at hp <;> simp only at hp ⊢ <;> first
      | exact ⟨hp, trivial⟩
      | exact hp.elim
      | skip
    · rename_i id r
      cases hro : rowsOf a (.osl id r) with
      | none => rw [hro] at hp; exact hp.2.elim
      | some y => rw [hro] at hp; rw [rowsOf_ext h hro]; exact ⟨hp, rfl⟩
    · obtain ⟨h1, h2, h3⟩ := hp
      obtain ⟨y, hy⟩ := Option.isSome_iff_exists.1 h2
      rw [rowsOf_ext h hy]
      exact ⟨⟨h1, rfl, h3⟩, trivial⟩
  case lookup t x i ok =>
    split at hp
    · rename_i h1 h2; rw [h1, mapOf_ext h h2]; exact ⟨hp, rfl⟩
    · exact hp.elim
  case build t ps =>
    refine ⟨?_, trivial⟩
    split at hp
    · exact ⟨hp.1, List.all_eq_true.2 fun p hm => plainD_ext h (List.all_eq_true.1 hp.2.1 p hm), hp.2.2⟩
    · exact hp.elim
  case buildSlice t n ps =>
    refine ⟨?_, trivial⟩
    split at hp
    · obtain ⟨h1, h2, h3, h4, h5, h6, h7⟩ := hp
      refine ⟨h1, h2, h3, h4, h5, ?_, h7⟩
      refine List.all_eq_true.2 fun p hm => ?_
      have := List.all_eq_true.1 h6 p hm
      rw [Bool.and_eq_true] at this ⊢
      exact ⟨plainD_ext h this.1, this.2⟩
    · exact hp.elim
  case call c =>
    obtain ⟨cal, args, ts⟩ := c
    cases cal with
    | builtin bi => exact bVal_ext h hp
    | value f => exact hp.elim
    | invoke r m => exact hp.elim
end

/-! ### versions named -/

theorem mxL_mem : ∀ {l : List DVal} {d : DVal}, d ∈ l → mx d ≤ mxL l
  | x :: l, d, h => by
    simp only [mxL]
    rcases List.mem_cons.1 h with rfl | h
    · omega
    · have := mxL_mem h; omega
theorem mxR_mem : ∀ {l : List (List DVal)} {d : List DVal}, d ∈ l → mxL d ≤ mxR l
  | x :: l, d, h => by
    simp only [mxR]
    rcases List.mem_cons.1 h with rfl | h
    · omega
    · have := mxR_mem h; omega
theorem mxL_le {n : Nat} : ∀ {l : List DVal}, (∀ d ∈ l, mx d ≤ n) → mxL l ≤ n
  | [], _ => by simp [mxL]
  | x :: l, h => by
    simp only [mxL]
    have := h x List.mem_cons_self
    have := mxL_le (l := l) fun d hd => h d (List.mem_cons_of_mem _ hd)
    omega
theorem mxR_le {n : Nat} : ∀ {l : List (List DVal)}, (∀ d ∈ l, mxL d ≤ n) → mxR l ≤ n
  | [], _ => by simp [mxR]
  | x :: l, h => by
    simp only [mxR]
    have := h x List.mem_cons_self
    have := mxR_le (l := l) fun d hd => h d (List.mem_cons_of_mem _ hd)
    omega
theorem mx_headD (l : List DVal) : mx (l.headD .any) ≤ mxL l := by
  cases l with
  | nil => simp [mx, mxL]
  | cons d l => simp only [List.headD_cons, mxL]; omega
theorem mx_getD (l : List DVal) (i : Nat) : mx (l.getD i .any) ≤ mxL l := by
  rw [List.getD_eq_getElem?_getD]
  cases h : l[i]? with
  | none => simp [mx]
  | some d => exact mxL_mem (List.mem_of_getElem? h)
theorem mxR_getD (l : List (List DVal)) (i : Nat) : mxL (l.getD i []) ≤ mxR l := by
  rw [List.getD_eq_getElem?_getD]
  cases h : l[i]? with
  | none => simp [mxL]
  | some d => exact mxR_mem (List.mem_of_getElem? h)

section
variable {P : Program} {own : List Ent} {e : Operand → DVal} {n : Nat}

theorem cellsAt_mx {p : DVal} {cs : List DVal} (hc : cellsAt own p = some cs) : mxL cs ≤ max (mx p) (mxE own) := by
  unfold cellsAt at hc
  split at hc
  · simp only [Option.some.injEq] at hc; subst hc; simp only [mx]; omega
  · split at hc
    · rename_i x hx
      split at hc
      · split at hc
        · rename_i cs0 hob
          simp only [Option.some.injEq] at hc; subst hc
          have h1 := (mem_mxE (findE_ent hx).1).2
          rw [hob] at h1
          simp only [mxO] at h1
          exact Nat.le_trans (mxL_drop _ _) (by omega)
        · simp at hc
      · simp at hc
    · simp at hc
  · split at hc
    · rename_i x hx
      split at hc
      · split at hc
        · rename_i es hob
          split at hc
          · rw [Option.map_eq_some_iff] at hc
            obtain ⟨c0, h0, rfl⟩ := hc
            have h1 := (mem_mxE (findE_ent hx).1).2
            rw [hob] at h1
            simp only [mxO] at h1
            have h2 := mxR_mem (List.mem_of_getElem? h0)
            exact Nat.le_trans (mxL_drop _ _) (by omega)
          · simp at hc
        · simp at hc
      · simp at hc
    · simp at hc
  · simp at hc

theorem fillD_mx {place : Nat → Option (Nat × Nat)} : ∀ (ps : List (Nat × DVal)) (z r : List DVal), fillD place z ps = some r → mxL z ≤ n → (∀ p ∈ ps, mx p.2 ≤ n) → mxL r ≤ n
  | [], z, r, h, hz, _ => by simp only [fillD, Option.some.injEq] at h; subst h; exact hz
  | (i, d) :: ps, z, r, h, hz, hp => by
    simp only [fillD] at h
    split at h
    · simp at h
    · split at h
      · refine fillD_mx ps _ r h ?_ fun p hm => hp p (List.mem_cons_of_mem _ hm)
        have h2 := hp (i, d) List.mem_cons_self
        refine Nat.le_trans (splice_mx z _ (cellsD d)) ?_
        rw [mx_cellsD]
        simp only at h2
        omega
      · simp at h

theorem tZero_mx {t : TypeId} {z : List DVal} (h : tZero P t = some z) : mxL z = 0 := by
  have h1 : ∀ v, mx (ofV1 v) = 0 := by
    intro v
    unfold ofV1
    split <;> (try split) <;> simp [mx]
  obtain ⟨zv, _, rfl⟩ := tZero_ok (w := default) h
  have : mxL (zv.cells.toList.map ofV1) ≤ 0 := mxL_le fun d hd => by
    obtain ⟨v, _, rfl⟩ := List.mem_map.1 hd
    rw [h1]; omega
  omega

theorem dbin_mx {op : BinOp} {t : TypeId} {x y d : DVal} (h : dbin P op t x y = some d) : mx d = 0 := by
  unfold dbin at h
  repeat' split at h
  all_goals first
    | (simp only [Option.some.injEq] at h; subst h; rfl)
    | simp at h

theorem bVal_mx {bi : Builtin} {ds : List DVal} : mx (bVal own bi ds) = 0 := by
  unfold bVal
  repeat' split
  all_goals rfl

theorem mx_idxVal {d : DVal} {i : Int} (hn : mxE own ≤ n) (hd : mx d ≤ n) : mx (idxVal own d i) ≤ n := by
  unfold idxVal
  split
  · rename_i k bs es
    simp only [mx] at hd ⊢
    exact Nat.le_trans (mxR_getD _ _) hd
  · split
    · simpa [mx] using hd
    · simp [mx]
  · simpa [mx] using hd
  · simp [mx]

theorem mx_pickV {t : Bool} {x y : DVal} (hx : mx x ≤ n) (hy : mx y ≤ n) : mx (pickV t x y) ≤ n := by
  unfold pickV
  split <;> first
    | (simp [mx]; done)
    | (split <;> assumption)


theorem mapOf_mx {p : DVal} {ks vs : List DVal} (hc : mapOf own p = some (ks, vs)) : mxL vs ≤ max (mx p) (mxE own) := by
  unfold mapOf at hc
  split at hc
  · simp only [Option.some.injEq, Prod.mk.injEq] at hc
    obtain ⟨rfl, rfl⟩ := hc
    simp only [mx]; omega
  · simp only [Option.some.injEq, Prod.mk.injEq] at hc
    obtain ⟨rfl, rfl⟩ := hc
    simp [mxL]
  · split at hc
    · rename_i e he
      split at hc
      · split at hc
        · rename_i hob
          simp only [Option.some.injEq, Prod.mk.injEq] at hc
          obtain ⟨rfl, rfl⟩ := hc
          have := (mem_mxE (findE_ent he).1).2
          rw [hob] at this
          simp only [mxO] at this
          omega
        · simp at hc
      · simp at hc
    · simp at hc
  · simp at hc

theorem mx_ofV (v : Value) : mx (ofV v) = 0 := by
  have h1 : ∀ v, mx (ofV1 v) = 0 := by
    intro v
    unfold ofV1
    split <;> (try split) <;> simp [mx]
  unfold ofV
  split
  · rename_i cs
    simp only [mx]
    generalize cs.toList = l
    induction l with
    | nil => simp [mxL]
    | cons v l ih => simp [mxL, h1, ih]
  · exact h1 _

theorem tZeroD_mx {t : TypeId} {z : DVal} (h : tZeroD P t = some z) : mx z = 0 := by
  unfold tZeroD at h
  split at h
  · rw [Option.map_eq_some_iff] at h
    obtain ⟨v, _, rfl⟩ := h
    exact mx_ofV v
  · simp at h

theorem n_mx (hn : mxE own ≤ n) (op : Op) (h : ∀ x ∈ op.operands, mx (e x) ≤ n) : mx (nVal P own e op) ≤ n := by
  have any0 : mx DVal.any ≤ n := by simp [mx]
  have parts : ∀ (ps : Array (Nat × Operand)), (∀ x ∈ (ps.toList.map (·.2)).toArray, mx (e x) ≤ n) → ∀ p ∈ ps.toList, mx (e p.2) ≤ n := by
    intro ps h p hp
    exact h p.2 (by simpa using ⟨p.1, by simpa using hp⟩)
  cases op <;> simp only [Op.operands] at h <;> simp only [nVal] <;> try exact any0
  case move x => exact h x (by simp)
  case assign x => exact h x (by simp)
  case nilCheck x => exact h x (by simp)
  case pick c x y =>
    split
    · exact mx_pickV (h x (by simp)) (h y (by simp))
    · exact any0
  case fieldAddr t x f =>
    have := h x (by simp)
    split
    · rename_i hx; rw [hx] at this; simp only [mx] at this ⊢; exact Nat.le_trans (mxL_drop _ _) this
    · rename_i hx; rw [hx] at this; simpa [mx] using this
    · rename_i hx; rw [hx] at this; simpa [mx] using this
    · exact any0
  case load t x =>
    have := h x (by simp)
    split
    · rename_i h3; have := cellsAt_mx h3; simp only [mx]; exact Nat.le_trans (mxL_take _ _) (by omega)
    · rename_i h3; have := cellsAt_mx h3; exact Nat.le_trans (mx_headD _) (by omega)
    · exact any0
  case indexAddr t x i =>
    split
    · exact mx_idxVal hn (h x (by simp))
    · exact any0
  case index t x i =>
    split
    · simp [mx]
    · exact any0
  case field t x f =>
    have := h x (by simp)
    split
    · rename_i hx
      rw [hx] at this
      simp only [mx] at this
      split
      · simp only [mx]; exact Nat.le_trans (mxL_take _ _) (Nat.le_trans (mxL_drop _ _) this)
      · exact Nat.le_trans (mx_headD _) (Nat.le_trans (mxL_drop _ _) this)
    · exact any0
  case binOp op t x y yt =>
    cases hd : dbin P op t (e x) (e y) with
    | none => exact any0
    | some d => simp [dbin_mx hd]
  case unOp op t x =>
    split
    · simp [mx]
    · simp [mx]
    · exact any0
  case convert src dst x =>
    have := h x (by simp)
    split
    · split
      · simp [mx]
      · exact any0
    · exact this
  case extract x i =>
    have := h x (by simp)
    split
    · rename_i hx; rw [hx] at this; simp only [mx] at this; exact Nat.le_trans (mx_getD _ _) this
    · exact any0
  case makeFunc f us cs =>
    simp only [mx]
    have h1 : mxL (us.toList.map e) ≤ n := mxL_le fun d hd => by
      obtain ⟨x, hx, rfl⟩ := List.mem_map.1 hd
      exact h x (by simp; left; simpa using hx)
    have h2 : mxL (cs.toList.map e) ≤ n := mxL_le fun d hd => by
      obtain ⟨x, hx, rfl⟩ := List.mem_map.1 hd
      exact h x (by simp; right; simpa using hx)
    omega
  case makeInterface t x => simp only [mx]; exact h x (by simp)
  case slice t x l h' m =>
    have := h x (by simp)
    split
    · rename_i hx; rw [hx] at this; simp only [mx] at this ⊢; exact Nat.le_trans (mxR_take _ _) (Nat.le_trans (mxR_drop _ _) this)
    · simp [mx]
    · rename_i hx
      rw [hx] at this
      split
      · simpa [mx] using this
      · exact any0
    · rename_i hx; rw [hx] at this; simpa [mx] using this
    · simp [mx]
    · exact any0
  case lookup t x i ok =>
    have hx := h x (by simp)
    split
    · rename_i kt et ks vs ht hc
      have hvs := mapOf_mx hc
      have key : mx (match lookI ks (e i) with | some j => vs.getD j .any | none => (tZeroD P et).getD .any) ≤ n := by
        split
        · exact Nat.le_trans (mx_getD _ _) (by omega)
        · cases hz : tZeroD P et with
          | none => exact any0
          | some z => simp [tZeroD_mx hz]
      cases ok
      · exact key
      · exact Nat.max_le.2 ⟨key, by simp [mx, mxL]⟩
    · exact any0
  case box t x => simp only [mx, mx_cellsD]; exact h x (by simp)
  case build t ps =>
    have hp := parts ps h
    split
    · rename_i z hz
      simp only [mx]
      cases hf : fillD (tPlace P t) z (ps.toList.map fun p => (p.1, e p.2)) with
      | none => simp [mxL]
      | some r =>
        refine fillD_mx _ z r hf (by rw [tZero_mx hz]; omega) ?_
        intro p hm
        obtain ⟨q, hq, rfl⟩ := List.mem_map.1 hm
        exact hp q hq
    · exact any0
  case buildSlice t len ps =>
    have hp := parts ps h
    split
    · simp only [mx]
      refine mxR_le fun cs hm => ?_
      obtain ⟨q, hq, rfl⟩ := List.mem_map.1 hm
      rw [mx_cellsD]; exact hp q hq
    · exact any0
  case call c =>
    split
    · rw [bVal_mx]; omega
    · exact any0

theorem mx_strip {l : List (Nat × DVal)} : ∀ xs : List Operand, okL true (ev l) xs → ∀ x ∈ xs, mx (stripE l x) ≤ mx (ev l x)
  | [], _, x, hx => by cases hx
  | y :: ys, h, x, hx => by
    simp only [okL] at h
    rcases List.mem_cons.1 hx with rfl | hx
    · unfold stripE
      cases hq : ev l x <;> simp only [strip] <;> try exact Nat.le_refl _
      rw [hq] at h
      simp only [okG] at h
      simp [mx, h.1 trivial]
    · exact mx_strip ys h.2 x hx
theorem mx_stripE {l : List (Nat × DVal)} {x : Operand} (h : okG true (ev l x)) : mx (stripE l x) ≤ mx (ev l x) := by
  unfold stripE
  cases hq : ev l x <;> simp only [strip] <;> try exact Nat.le_refl _
  rw [hq] at h
  simp only [okG] at h
  simp [mx, h trivial]

theorem mx_pickV_le (t : Bool) (x y : DVal) : mx (pickV t x y) ≤ mx (if t then x else y) := by
  unfold pickV
  split <;> first
    | (simp [mx]; done)
    | exact Nat.le_refl _

theorem okOp_mx {l : List (Nat × DVal)} {op : Op} (hok : okOp true (ev l) op) (hp : nPre P own (stripE l) op) (hn : mxE own ≤ n) (h : ∀ x ∈ op.operands, mx (ev l x) ≤ n) : mx (nVal P own (stripE l) op) ≤ n := by
  by_cases hpk : ∃ x a b, op = .pick x a b
  · obtain ⟨x, a, b, rfl⟩ := hpk
    simp only [okOp] at hok
    obtain ⟨h1, h2⟩ := hok
    simp only [nPre] at hp
    cases hx : stripE l x <;> rw [hx] at hp <;> try exact hp.elim
    rename_i t
    have h2 := h2 t hx
    simp only [nVal, hx]
    refine Nat.le_trans (mx_pickV_le _ _ _) ?_
    cases t
    · exact Nat.le_trans (mx_stripE (h2.2 rfl)) (h b (by simp [Op.operands]))
    · exact Nat.le_trans (mx_stripE (h2.1 rfl)) (h a (by simp [Op.operands]))
  · have hok' : okL true (ev l) op.operands.toList := by
      unfold okOp at hok
      split at hok
      · exact absurd ⟨_, _, _, rfl⟩ hpk
      · exact hok
    exact n_mx hn op fun x hx => Nat.le_trans (mx_strip _ hok' x (by simpa using hx)) (h x hx)
end
end Go.Dm
end

section
/- The data machine, second make, part L: regions that draw their order, with operations that change own objects: the text's order serves for all. -/

set_option linter.unusedSimpArgs false
set_option linter.unusedVariables false
namespace Go.Dm

section
variable {P : Program} {o : Oper} {l l' : List (Nat × DVal)} {own : List Ent} {r n : Nat}

theorem eRes_congr {e1 e2 : Operand → DVal} (h : ∀ x ∈ o.op.operands, e1 x = e2 x) : eRes P o e1 own r = eRes P o e2 own r := by
  unfold eRes
  obtain ⟨dst, op, type, pos, after, guard⟩ := o
  simp only at h ⊢
  cases op <;> simp only [Op.operands] at h <;> simp only
  case box t x => rw [h x (by simp)]
  case store t a x => rw [h a (by simp), h x (by simp)]
  case mapUpdate t m k x => rw [h m (by simp), h k (by simp), h x (by simp)]
  case makeSlice t l c => rw [h l (by simp), h c (by simp)]
  case buildSlice t n ps =>
    have hc := (n_congr0 (P := P) (own := own) (e := e1) (e' := e2) (.buildSlice t n ps) h).1
    have e1 : (ps.toList.map fun p => cellsD (e1 p.2)) = ps.toList.map fun p => cellsD (e2 p.2) := List.map_congr_left fun p hm => by rw [h p.2 (by simpa using ⟨p.1, by simpa using hm⟩)]
    rw [propext hc, e1]
  case call c =>
    obtain ⟨cal, args, ts⟩ := c
    cases cal with
    | builtin b =>
      have : args.toList.map (e1) = args.toList.map (e2) := List.map_congr_left fun x hx => h x (by simp [Call.operands]; simpa using hx)
      cases b <;> simp only [this]
    | value f => rfl
    | invoke a b => rfl

theorem pkOf_congr {e1 e2 : Operand → DVal} {c : Call} (h : ∀ x ∈ c.operands, e1 x = e2 x) : pkOf e1 c = pkOf e2 c := by
  obtain ⟨cal, args, ts⟩ := c
  cases cal with
  | value f =>
    have h1 : args.toList.map e1 = args.toList.map e2 := List.map_congr_left fun x hx => h x (by simp [Call.operands]; simp at hx; exact .inr hx)
    have h2 := h f (by simp [Call.operands])
    simp only [pkOf, h1, h2]
  | builtin b => rfl
  | invoke a b => rfl

theorem EOut_congr {e1 e2 : Operand → DVal} {d : DVal} {own' : List Ent} (h : ∀ x ∈ o.op.operands, e1 x = e2 x) (hx : EOut P o e1 own r d own') : EOut P o e2 own r d own' := by
  rcases hx with ⟨x, h1, h2⟩ | ⟨c, g, args, h1, h2, h3⟩ | ⟨c, id, r', args, e0, l, e, A, A', b, h1, h2, h3⟩
  · exact .inl ⟨x, by rw [← eRes_congr h]; exact h1, h2⟩
  · exact .inr (.inl ⟨c, g, args, h1, by rw [← callee_congr (fun x hx => h x (by rw [h1]; exact hx))]; exact h2, h3⟩)
  · exact .inr (.inr ⟨c, id, r', args, e0, l, e, A, A', b, h1, by rw [← pkOf_congr (fun x hx => h x (by rw [h1]; exact hx))]; exact h2, h3⟩)

theorem mxE_upE (own : List Ent) (id r : Nat) (obj : DObj) : mxE (upE own id r obj) ≤ max (max (r + 1) (mxO obj)) (mxE own) := by
  have : mxE (delE own id) ≤ mxE own := by
    induction own with
    | nil => simp [delE]
    | cons e t ih =>
      simp only [delE]
      split
      · simp only [mxE]; omega
      · simp only [mxE]; omega
  simp only [upE, mxE]
  omega

theorem eRes_mx {x : ERes} {ed : Operand → DVal} (h : eRes P o ed own r = some x) (hp : x.pre) (ho : mxE own ≤ n) (hev : ∀ y ∈ o.op.operands, mx (ed y) ≤ n) (hr : n ≤ r) : mx x.d ≤ r + 1 ∧ mxE x.own ≤ r + 1 := by
  obtain ⟨dst, op, type, pos, after, guard⟩ := o
  unfold eRes at h
  simp only at h
  cases op <;> simp only [reduceCtorEq] at h
  case box t y =>
    split at h
    · rename_i i
      simp only [Option.some.injEq] at h
      subst h
      refine ⟨by simp [mx], Nat.le_trans (mxE_upE _ _ _ _) ?_⟩
      have := hev y (by simp [Op.operands])
      simp only [mxO, mx_cellsD]
      omega
    · simp at h
  case buildSlice t len ps =>
    split at h
    · simp only [Option.some.injEq] at h
      subst h
      refine ⟨by simp [mx], Nat.le_trans (mxE_upE _ _ _ _) ?_⟩
      have : mxR (ps.toList.map fun p => cellsD (ed p.2)) ≤ n := mxR_le fun cs hm => by
        obtain ⟨p, hp', rfl⟩ := List.mem_map.1 hm
        rw [mx_cellsD]
        exact hev p.2 (by simpa [Op.operands] using ⟨p.1, by simpa using hp'⟩)
      simp only [mxO]
      omega
    · simp at h
  case alloc t =>
    split at h
    · rename_i i z hi hz
      simp only [Option.some.injEq] at h
      subst h
      refine ⟨by simp [mx], Nat.le_trans (mxE_upE _ _ _ _) ?_⟩
      simp only [mxO, tZero_mx hz]
      omega
    · simp at h
  case store t ad y =>
    split at h
    · rename_i id r' off had
      split at h
      · rename_i e he
        split at h
        · rename_i cs hob
          simp only [Option.some.injEq] at h
          subst h
          refine ⟨by simp [mx], Nat.le_trans (mxE_upE _ _ _ _) ?_⟩
          simp only at hp
          obtain ⟨h1, h2⟩ := mem_mxE (findE_ent he).1
          rw [hob] at h2
          simp only [mxO] at h2 ⊢
          have h3 := splice_mx cs off (cellsD (ed y))
          have h4 := hev y (by simp [Op.operands, Call.operands])
          rw [mx_cellsD] at h3
          have := hp.1
          omega
        · simp at h
      · simp at h
    · unfold eStoreRow at h
      split at h
      · rename_i e he
        split at h
        · rename_i hob
          split at h
          · rename_i c0 hc0
            simp only [Option.some.injEq] at h
            subst h
            refine ⟨by simp [mx], Nat.le_trans (mxE_upE _ _ _ _) ?_⟩
            simp only at hp
            obtain ⟨h1, h2⟩ := mem_mxE (findE_ent he).1
            rw [hob] at h2
            simp only [mxO] at h2 ⊢
            have h3 := splice_mx c0
            have h4 := hev y (by simp [Op.operands, Call.operands])
            have h5 := hp.1
            have h6 := mxR_at hc0
            refine Nat.max_le.2 ⟨Nat.max_le.2 ⟨by omega, mxR_set _ _ (by omega) (Nat.le_trans (h3 _ _) ?_)⟩, by omega⟩
            rw [mx_cellsD]
            omega
          · simp at h
        · simp at h
      · simp at h
    · simp at h
  case makeSlice t lo co =>
    unfold eMake at h
    split at h
    · rename_i hz _ _
      simp only [Option.some.injEq] at h
      subst h
      refine ⟨by simp [mx], Nat.le_trans (mxE_upE _ _ _ _) ?_⟩
      simp only [mxO]
      unfold tZeroE at hz
      split at hz
      · refine Nat.max_le.2 ⟨Nat.max_le.2 ⟨by omega, Nat.le_trans (mxR_rep (Nat.le_of_eq (tZero_mx hz))) (by omega)⟩, by omega⟩
      · simp at hz
    · simp at h
  case makeMap t rv =>
    split at h
    · simp only [Option.some.injEq] at h
      subst h
      refine ⟨by simp [mx], Nat.le_trans (mxE_upE _ _ _ _) ?_⟩
      simp only [mxO, mxL]
      omega
    · simp at h
  case mapUpdate t m k x =>
    split at h
    · split at h
      · rename_i e he
        split at h
        · rename_i ks vs hob
          simp only [Option.some.injEq] at h
          subst h
          refine ⟨by simp [mx], Nat.le_trans (mxE_upE _ _ _ _) ?_⟩
          simp only at hp
          obtain ⟨h1, h2⟩ := mem_mxE (findE_ent he).1
          rw [hob] at h2
          simp only [mxO] at h2 ⊢
          have h3 := mxL_updK ks (ed k)
          have h4 := mxL_updV ks vs (ed k) (ed x)
          have h5 := hev k (by simp [Op.operands, Call.operands])
          have h6 := hev x (by simp [Op.operands, Call.operands])
          have := hp.1
          omega
        · simp at h
      · simp at h
    · simp at h
  case call c =>
    obtain ⟨cal, args, ats⟩ := c
    cases cal <;> simp only [reduceCtorEq] at h
    rename_i b
    cases b <;> simp only [reduceCtorEq] at h
    case append =>
      unfold eAppend at h
      split at h
      · rename_i da db t t' hargs hts
        split at h
        · rename_i i k bs et _ _
          split at h
          · rename_i x hstr
            split at h
            · rename_i id es hdest
              simp only [Option.some.injEq] at h
              subst h
              refine ⟨by simp [mx], Nat.le_trans (mxE_upE _ _ _ _) ?_⟩
              simp only [mxO, mxR_append, mx_bytesD]
              have h1 : mxR es ≤ n := destOf_mx hdest (by omega)
              omega
            · simp at h
          split at h
          · rename_i id es k2 es2 hdest hsrc
            simp only [Option.some.injEq] at h
            subst h
            have hda : mx da ≤ n := by
              have : da ∈ args.toList.map (ed) := by rw [hargs]; simp
              obtain ⟨y, hy, rfl⟩ := List.mem_map.1 this
              exact hev y (by simpa [Op.operands, Call.operands] using hy)
            have hdb : mx db ≤ n := by
              have : db ∈ args.toList.map (ed) := by rw [hargs]; simp
              obtain ⟨y, hy, rfl⟩ := List.mem_map.1 this
              exact hev y (by simpa [Op.operands, Call.operands] using hy)
            refine ⟨by simp [mx], Nat.le_trans (mxE_upE _ _ _ _) ?_⟩
            simp only [mxO, mxR_append]
            have h1 : mxR es ≤ n := by
              unfold destOf at hdest
              split at hdest
              · simp only [Option.some.injEq, Prod.mk.injEq] at hdest
                obtain ⟨_, rfl⟩ := hdest
                simp [mxR]
              · split at hdest
                · rename_i e0 he0
                  split at hdest
                  · split at hdest
                    · rename_i hob
                      split at hdest
                      · simp only [Option.some.injEq, Prod.mk.injEq] at hdest
                        obtain ⟨_, rfl⟩ := hdest
                        have := (mem_mxE (findE_ent he0).1).2
                        rw [hob] at this
                        simp only [mxO] at this
                        omega
                      · simp at hdest
                    · simp at hdest
                  · simp at hdest
                · simp at hdest
              · simp at hdest
            have h2 : mxR es2 ≤ n := by
              unfold rowsN at hsrc
              split at hsrc
              · simp only [Option.some.injEq, Prod.mk.injEq] at hsrc
                obtain ⟨_, rfl⟩ := hsrc
                simp [mxR]
              · simp only [Option.some.injEq, Prod.mk.injEq] at hsrc
                obtain ⟨_, rfl⟩ := hsrc
                simp [mxR]
              · rw [Option.map_eq_some_iff] at hsrc
                obtain ⟨⟨k', b', es'⟩, h1, h2⟩ := hsrc
                simp only [Prod.mk.injEq] at h2
                obtain ⟨_, rfl⟩ := h2
                have := rowsOf_mx h1
                omega
            omega
          · simp at h
        · simp at h
      · simp at h
    case copy =>
      unfold eCopy at h
      split at h
      · rename_i d sd t t' hargs hts
        split at h
        · rename_i k k0 id r' i m et k' bs es k2 es2 ht hpart hsrc
          simp only [Option.some.injEq] at h
          subst h
          obtain ⟨e, bs0, he, her, hob, hdd⟩ := partD_ok hpart
          have hdb : mx sd ≤ n := by
            have : sd ∈ args.toList.map (ed) := by rw [hargs]; simp
            obtain ⟨y, hy, rfl⟩ := List.mem_map.1 this
            exact hev y (by simpa [Op.operands, Call.operands] using hy)
          refine ⟨by simp [mx], Nat.le_trans (mxE_upE _ _ _ _) ?_⟩
          obtain ⟨h1, h2⟩ := mem_mxE (findE_ent he).1
          rw [hob] at h2
          simp only [mxO] at h2 ⊢
          have h3 : mxR (copyD es i m es2) ≤ n := copyD_mx (by omega) (rowsN_mx hsrc (by omega) hdb)
          omega
        · simp at h
      · simp at h
    case clear =>
      have key : ∀ {zs : List DVal} {t : TypeId} {es : List (List DVal)} {i m N : Nat}, tZeroE P t = some zs → mxR es ≤ N → mxR (clearD es i m zs) ≤ N := by
        intro zs t es i m N hz hes
        unfold tZeroE at hz
        split at hz
        · unfold clearD
          rw [mxR_append, mxR_append]
          have := mxR_take i es
          have := mxR_drop (i + m) es
          have := mxR_rep (n := 0) (m := m) (Nat.le_of_eq (tZero_mx hz))
          omega
        · simp at hz
      unfold eClear at h
      split at h
      · split at h
        · rename_i hz
          split at h
          · split at h
            · rename_i e he
              split at h
              · rename_i hob
                simp only [Option.some.injEq] at h
                subst h
                refine ⟨by simp [mx, mxL], Nat.le_trans (mxE_upE _ _ _ _) ?_⟩
                simp only at hp
                obtain ⟨h1, h2⟩ := mem_mxE (findE_ent he).1
                rw [hob] at h2
                simp only [mxO] at h2 ⊢
                have h3 := hp.1
                exact Nat.max_le.2 ⟨Nat.max_le.2 ⟨by omega, key hz (by omega)⟩, by omega⟩
              · simp at h
            · simp at h
          · split at h
            · rename_i e he
              split at h
              · rename_i hob
                simp only [Option.some.injEq] at h
                subst h
                refine ⟨by simp [mx, mxL], Nat.le_trans (mxE_upE _ _ _ _) ?_⟩
                simp only at hp
                obtain ⟨h1, h2⟩ := mem_mxE (findE_ent he).1
                rw [hob] at h2
                simp only [mxO] at h2 ⊢
                have h3 := hp.1
                exact Nat.max_le.2 ⟨Nat.max_le.2 ⟨by omega, key hz (by omega)⟩, by omega⟩
              · simp at h
            · simp at h
          · simp at h
        · simp at h
      · simp at h
end

/-! the lexical run -/

def isBoxE (e : Ent) : Bool := match e.obj with | .box _ => true | _ => false

/-- codes in l2 of 1000000 and more: ((id + 1) * 1000 + p) * 1000 + q: operation q does not look at the own object id, the one that the store p touches -/
def hidE (l2 : List Nat) (q : Nat) (e : Ent) : Bool := l2.any fun c => decide (1000000 ≤ c) && c % 1000 == q && c / 1000000 == e.id + 1
def hidP (l2 : List Nat) (p q : Nat) : Bool := l2.any fun c => decide (1000000 ≤ c) && c % 1000 == q && c / 1000 % 1000 == p
/-- the own objects that an operation may look at: all; boxes alone (it is free of appends); none (it is free of stores) -/
def ownM (l1 l2 : List Nat) (k : Nat) (own : List Ent) : List Ent := if l2.contains k then [] else if l1.contains k then own.filter isBoxE else if l2.isEmpty then own else own.filter fun e => !hidE l2 k e

def isApp (o : Oper) : Bool := match o.op with
  | .call c => match c.callee with | .builtin .append => true | _ => false
  | _ => false

/-- an address of an element; a store -/
def isIx (o : Oper) : Bool := match o.op with | .indexAddr _ _ _ => true | _ => false
def isSto (o : Oper) : Bool := match o.op with | .store _ _ _ => true | _ => false

/-- which own object a store touches -/
def touchD : DVal → Option Nat
  | .bx id _ _ => some id
  | .rx id _ _ _ _ => some id
  | _ => none
def touchO (slots : List (Nat × DVal)) (o : Oper) : Option Nat := match o.op with
  | .store _ a _ => touchD (stripE slots a)
  | _ => none
def tchOK (l2 : List Nat) (k : Nat) (slots : List (Nat × DVal)) (o : Oper) : Bool := l2.all fun c => decide (c < 1000000) || c / 1000 % 1000 != k || touchO slots o == some (c / 1000000 - 1)

/-- an append's new row stands in no box's place -/
def appOK (own : List Ent) (o : Oper) : Bool := !isApp o || (match o.dst with | some i => (match findE own i with | some e => !isBoxE e | none => true) | none => true)

/-- the same, under a guard that holds -/
def effSel (K : ContE) : ContE := ⟨fun d own' => K.f (.sel true d) own'⟩
theorem effSel_f (K : ContE) (d : DVal) (own' : List Ent) : (effSel K).f d own' = K.f (.sel true d) own' := id rfl
def effG (P : Program) (c : Bool) (o : Oper) (ed : Operand → DVal) (own : List Ent) (K : ContE) : Prop := match c with
  | true => effX P o ed own (effSel K)
  | false => K.f (.sel false .any) own

section
variable (P : Program) (nt : Nat) (ow l1 l2 : List Nat)

def dOpsX (ops : Array Oper) : List Oper → Nat → Cont → DS → Prop
  | [], _, K, s => K.f s
  | o :: rest, k, K, s => match o.guard with
    | none => if isEff ow o then dstOK nt o.dst = true ∧ (appOK s.own o = true ∧ tchOK l2 k s.slots o = true) ∧ effX P o (ev s.slots) s.own ⟨fun d own' => dOpsX ops rest (k + 1) K ⟨putS s.slots o.dst d, own'⟩⟩
        else dOpD P nt o ⟨s.slots, ownM l1 l2 k s.own⟩ ⟨fun s' => dOpsX ops rest (k + 1) K ⟨s'.slots, s.own⟩⟩
    | some (j, want) => gOK (gSlot ops s j) = true ∧ if isEff ow o then dstOK nt o.dst = true ∧ (appOK s.own o = true ∧ tchOK l2 k s.slots o = true) ∧ okOp (gB (gSlot ops s j) want) (ev s.slots) o.op ∧ effG P (gB (gSlot ops s j) want) o (stripE s.slots) s.own ⟨fun d own' => dOpsX ops rest (k + 1) K ⟨putS s.slots o.dst d, own'⟩⟩
        else dOpG P nt (gB (gSlot ops s j) want) o ⟨s.slots, ownM l1 l2 k s.own⟩ ⟨fun s' => dOpsX ops rest (k + 1) K ⟨s'.slots, s.own⟩⟩
/-- the rest of a region -/
def dOpsC (ops : Array Oper) (rest : List Oper) (k : Nat) (own : List Ent) (K : Cont) : Cont := ⟨fun s' => dOpsX P nt ow l1 l2 ops rest k K ⟨s'.slots, own⟩⟩
theorem dOpsC_f (ops : Array Oper) (rest : List Oper) (k : Nat) (own : List Ent) (K : Cont) (s' : DS) : (dOpsC P nt ow l1 l2 ops rest k own K).f s' = dOpsX P nt ow l1 l2 ops rest k K ⟨s'.slots, own⟩ := id rfl
def dOpsE (ops : Array Oper) (rest : List Oper) (k : Nat) (dst : Option Nat) (sl : List (Nat × DVal)) (K : Cont) : ContE := ⟨fun d own' => dOpsX P nt ow l1 l2 ops rest (k + 1) K ⟨putS sl dst d, own'⟩⟩
theorem dOpsE_f (ops : Array Oper) (rest : List Oper) (k : Nat) (dst : Option Nat) (sl : List (Nat × DVal)) (K : Cont) (d : DVal) (own' : List Ent) : (dOpsE P nt ow l1 l2 ops rest k dst sl K).f d own' = dOpsX P nt ow l1 l2 ops rest (k + 1) K ⟨putS sl dst d, own'⟩ := id rfl
theorem dOpsX_nil (ops : Array Oper) (k : Nat) (K : Cont) (s : DS) : dOpsX P nt ow l1 l2 ops [] k K s = K.f s := id rfl
theorem dOpsX_cons (ops : Array Oper) (o : Oper) (rest : List Oper) (k : Nat) (K : Cont) (s : DS) : dOpsX P nt ow l1 l2 ops (o :: rest) k K s = match o.guard with
    | none => if isEff ow o then dstOK nt o.dst = true ∧ (appOK s.own o = true ∧ tchOK l2 k s.slots o = true) ∧ effX P o (ev s.slots) s.own (dOpsE P nt ow l1 l2 ops rest k o.dst s.slots K)
        else dOpD P nt o ⟨s.slots, ownM l1 l2 k s.own⟩ (dOpsC P nt ow l1 l2 ops rest (k + 1) s.own K)
    | some (j, want) => gOK (gSlot ops s j) = true ∧ if isEff ow o then dstOK nt o.dst = true ∧ (appOK s.own o = true ∧ tchOK l2 k s.slots o = true) ∧ okOp (gB (gSlot ops s j) want) (ev s.slots) o.op ∧ effG P (gB (gSlot ops s j) want) o (stripE s.slots) s.own (dOpsE P nt ow l1 l2 ops rest k o.dst s.slots K)
        else dOpG P nt (gB (gSlot ops s j) want) o ⟨s.slots, ownM l1 l2 k s.own⟩ (dOpsC P nt ow l1 l2 ops rest (k + 1) s.own K) := id rfl

/-- an effect, its guard minded -/
def EffOK (ops : Array Oper) (o : Oper) (s : DS) (d : DVal) (own' : List Ent) (r : Nat) : Prop := match o.guard with
  | none => EOut P o (ev s.slots) s.own r d own'
  | some (j, want) => gOK (gSlot ops s j) = true ∧ okOp (gB (gSlot ops s j) want) (ev s.slots) o.op ∧
      ((gB (gSlot ops s j) want = true ∧ ∃ d0, d = .sel true d0 ∧ EOut P o (stripE s.slots) s.own r d0 own') ∨ (gB (gSlot ops s j) want = false ∧ d = .sel false .any ∧ own' = s.own))

def StepOK (ops : Array Oper) (k : Nat) (o : Oper) (s : DS) (d : DVal) (own' : List Ent) (r : Nat) : Prop :=
  (isEff ow o = true ∧ dstOK nt o.dst = true ∧ (appOK s.own o = true ∧ tchOK l2 k s.slots o = true) ∧ EffOK P ops o s d own' r) ∨
    (isEff ow o = false ∧ own' = s.own ∧ OpOK P nt ops o ⟨s.slots, ownM l1 l2 k s.own⟩ d)

def effs (l : List Oper) : Nat := l.countP (isEff ow)

def drawOKE (ops : Array Oper) : Bool :=
  let m := masks ops.toList []
  let zs := ops.toList.zipIdx
  drawOK ops && zs.all fun p => !isEff ow p.1 || zs.all fun q => p.2 == q.2 || (decide (p.2 < q.2) && (m.getD q.2 0).testBit p.2) || (decide (q.2 < p.2) && (m.getD p.2 0).testBit q.2) ||
    (!isEff ow q.1 && (l2.contains q.2 || (l1.contains q.2 && isApp p.1) || (!l1.contains q.2 && isIx q.1 && isSto p.1) || (!l1.contains q.2 && isSto p.1 && hidP l2 p.2 q.2)))
end

section
variable {P : Program} {nt : Nat} {ow l1 l2 : List Nat}

theorem dOpsX_run {ops : Array Oper} {K : Cont} (n0 : Nat) : ∀ (rest : List Oper) (k c : Nat) (s : DS), dOpsX P nt ow l1 l2 ops rest k K s →
    ∃ (ds : List DVal) (owns : Nat → List Ent), ds.length = rest.length ∧ owns 0 = s.own ∧ K.f ⟨lexS s.slots (rest.zip ds), owns rest.length⟩ ∧
      ∀ (j : Nat) (o : Oper), rest[j]? = some o → ∃ d, ds[j]? = some d ∧ StepOK P nt ow l1 l2 ops (k + j) o ⟨lexS s.slots ((rest.zip ds).take j), owns j⟩ d (owns (j + 1)) (n0 + c + effs ow (rest.take j))
  | [], k, c, s, h => ⟨[], fun _ => s.own, rfl, rfl, by simpa [dOpsX, lexS] using h, by simp⟩
  | o :: rest, k, c, s, h => by
    have step : ∀ d own', StepOK P nt ow l1 l2 ops k o s d own' (n0 + c) → dOpsX P nt ow l1 l2 ops rest (k + 1) K ⟨putS s.slots o.dst d, own'⟩ → ∃ (ds : List DVal) (owns : Nat → List Ent), ds.length = (o :: rest).length ∧ owns 0 = s.own ∧ K.f ⟨lexS s.slots ((o :: rest).zip ds), owns (o :: rest).length⟩ ∧
        ∀ (j : Nat) (o' : Oper), (o :: rest)[j]? = some o' → ∃ d, ds[j]? = some d ∧ StepOK P nt ow l1 l2 ops (k + j) o' ⟨lexS s.slots (((o :: rest).zip ds).take j), owns j⟩ d (owns (j + 1)) (n0 + c + effs ow ((o :: rest).take j)) := by
      intro d own' hok hr
      obtain ⟨ds, owns, h1, h0, h2, h3⟩ := dOpsX_run n0 rest (k + 1) (c + effs ow [o]) _ hr
      refine ⟨d :: ds, fun j => match j with | 0 => s.own | j + 1 => owns j, by simp [h1], rfl, by simpa [lexS] using h2, ?_⟩
      intro j o' hj
      cases j with
      | zero => simp only [List.getElem?_cons_zero, Option.some.injEq] at hj; subst hj; exact ⟨d, by simp, by simpa [lexS, effs, h0] using hok⟩
      | succ j =>
        obtain ⟨d', h4, h5⟩ := h3 j o' (by simpa using hj)
        refine ⟨d', by simpa using h4, ?_⟩
        have e1 : n0 + (c + effs ow [o]) + effs ow (rest.take j) = n0 + c + effs ow ((o :: rest).take (j + 1)) := by
          simp only [List.take_succ_cons, effs, List.countP_cons, List.countP_nil]; omega
        rw [e1, show k + 1 + j = k + (j + 1) by omega] at h5
        simpa [lexS] using h5
    simp only [dOpsX] at h
    split at h
    · rename_i hg
      split at h
      · rename_i he
        obtain ⟨hd, ha, h⟩ := h
        obtain ⟨d, own', h1, h2⟩ := effX_out h (n0 + c)
        exact step d own' (.inl ⟨he, hd, ha, by unfold EffOK; rw [hg]; exact h1⟩) h2
      · rename_i he
        have he : isEff ow o = false := by simpa using he
        obtain ⟨hd, h⟩ := h
        split at h
        · rename_i c hop
          split at h
          · rename_i g args hc
            obtain ⟨d, h1, h2⟩ := callP_out h
            exact step d _ (.inr ⟨he, rfl, hd, by rw [hg]; exact .inl ⟨c, g, args, hop, hc, h1⟩⟩) h2
          · exact step _ _ (.inr ⟨he, rfl, hd, by rw [hg]; exact .inr ⟨h.1, rfl⟩⟩) h.2
        · exact step _ _ (.inr ⟨he, rfl, hd, by rw [hg]; exact .inr ⟨h.1, rfl⟩⟩) h.2
    · rename_i j want hg
      obtain ⟨hgo, h⟩ := h
      split at h
      · rename_i he
        obtain ⟨hd, ha, hok, h⟩ := h
        cases hb : gB (gSlot ops s j) want with
        | true =>
          rw [hb] at h
          obtain ⟨d, own', h1, h2⟩ := effX_out (K := effSel _) h (n0 + c)
          exact step (.sel true d) own' (.inl ⟨he, hd, ha, by unfold EffOK; rw [hg]; exact ⟨hgo, hok, .inl ⟨hb, d, rfl, h1⟩⟩⟩) h2
        | false =>
          rw [hb] at h
          exact step (.sel false .any) s.own (.inl ⟨he, hd, ha, by unfold EffOK; rw [hg]; exact ⟨hgo, hok, .inr ⟨hb, rfl, rfl⟩⟩⟩) h
      rename_i he
      have he : isEff ow o = false := by simpa using he
      obtain ⟨hd, hok, h⟩ := h
      have mk : ∀ d, (gB (gSlot ops s j) want = true → OpOK1 P o (ownM l1 l2 k s.own) (stripE s.slots) d) → StepOK P nt ow l1 l2 ops k o s (.sel (gB (gSlot ops s j) want) d) s.own (n0 + c) := by
        intro d h1
        refine .inr ⟨he, rfl, hd, ?_⟩
        rw [hg]
        exact ⟨hgo, hok, d, rfl, h1⟩
      split at h
      · rename_i c hop
        split at h
        · rename_i g args hc
          obtain ⟨d, h1, h2⟩ := callG_out h
          exact step _ _ (mk d fun hq => .inl ⟨c, g, args, hop, hc, h1 hq⟩) h2
        · exact step _ _ (mk _ fun hq => .inr ⟨h.1 hq, rfl⟩) h.2
      · exact step _ _ (mk _ fun hq => .inr ⟨h.1 hq, rfl⟩) h.2
end

theorem mxS_putS (l : List (Nat × DVal)) (o : Option Nat) (d : DVal) : mxS (putS l o d) ≤ max (mx d) (mxS l) := by
  cases o <;> simp only [putS, mxS] <;> omega

theorem mxS_setS {l : List (Nat × DVal)} {S : Nat → Bool} {n : Nat} (hl : mxS l ≤ n) : ∀ (zs : List (Oper × DVal)) (i : Nat), (∀ (k : Nat) (z : Oper × DVal), zs[k]? = some z → S (i + k) = true → mx z.2 ≤ n) → mxS (setS l S i zs) ≤ n
  | [], _, _ => hl
  | (o, d) :: r, i, h => by
    have ih := mxS_setS (S := S) hl r (i + 1) (fun k z hz hS => h (k + 1) z (by simpa using hz) (by rwa [show i + 1 + k = i + (k + 1) by omega] at hS))
    simp only [setS]
    split
    · rename_i hS
      refine Nat.le_trans (mxS_putS _ _ _) ?_
      have := h 0 (o, d) (by simp) (by simpa using hS)
      simp only at this
      omega
    · exact ih

end Go.Dm
end

