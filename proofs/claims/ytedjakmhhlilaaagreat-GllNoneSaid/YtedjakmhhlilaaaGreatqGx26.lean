/- Parts of a proof, laid together: EnT, EnV, EnBl, EvP. -/
import Derived.Shelf.Strings.BuilderF
import Derived.Test.YtedjakmhhlilaaaGreatqGx10
import Derived.Test.YtedjakmhhlilaaaGreatqGx25
set_option linter.unusedSimpArgs false
set_option linter.unusedVariables false
set_option linter.unusedSectionVars false
section
namespace Go.Dm
variable [DMode]
attribute [simp] kQ_f dOpsC_f dOpsX_nil dOpsX_cons isEff eRes eAppend strOf eStoreRow eMake eClear eDelete eCopy partD effG effSel_f pkOf destOf rowsN upE appOK isApp isBoxE ownM tchOK touchO touchD hidE freezeL freezeS frz1 frz2 frzD frzO frzE DretF renR okR okRs ren2 ok2 ok2s ren3 ok3 ok3s renD okD renO okO ok2r ren2r phiOf outE outOK DretS idRho slotOK slotsOK adoptC adoptOK truncS truncOK
attribute [simp] mx mxL mxR mxR_append mxL_append
@[simp] theorem mxR_take0 {l : List (List DVal)} {k : Nat} (h : mxR l = 0) : mxR (l.take k) = 0 := Nat.le_zero.1 (h ▸ mxR_take k l)
@[simp] theorem mxR_drop0 {l : List (List DVal)} {k : Nat} (h : mxR l = 0) : mxR (l.drop k) = 0 := Nat.le_zero.1 (h ▸ mxR_drop k l)
@[simp] theorem range3 : List.range 3 = [0, 1, 2] := rfl
@[simp] theorem range4 : List.range 4 = [0, 1, 2, 3] := rfl
@[simp] theorem range5 : List.range 5 = [0, 1, 2, 3, 4] := rfl
@[simp] theorem range6 : List.range 6 = [0, 1, 2, 3, 4, 5] := rfl
theorem St.out {own own' : List Ent} {loc : Nat → Loc} {M : List Nat} {h : Array Obj} (ρ : List (Nat × Nat × Nat)) (S : St own loc M h) (hρ : (ρ.map (·.2.1)).Nodup ∧ (ρ.map (·.1)).Nodup)
  (ho : outE own (phiOf own ρ) ρ = some own') (hk : outOK own ρ) :
  ∃ loc', St own' loc' M h ∧ (∀ b ∈ hotOf own' loc', b ∈ hotOf own loc) ∧ (∀ x ∈ own', ∃ i e, (i, x.id, x.r) ∈ ρ ∧ findE own i = some e ∧ loc' x.id = loc i ∧ (x.r = 1 ∨ (x.r = 0 ∧ i = x.id ∧ e.r = 0))) ∧
   (∀ d v, okD d → rd (curOf own loc) (hotOf own loc ++ M) h d v → rd (curOf own' loc') (hotOf own' loc' ++ M) h (renD (phiOf own ρ) d) v) := by
 have h2 : ((ρ.map fun p => (p.1, p.2.1)).map (·.2)).Nodup := by rw [List.map_map]; exact hρ.1
 have hloc : ∀ i j v, (i, j, v) ∈ ρ → loc ((lookR (ρ.map fun p => (p.1, p.2.1)) j).getD 0) = loc i := by
  intro i j v hm
  rw [lookR_of_mem h2 (List.mem_map.2 ⟨(i, j, v), hm, rfl⟩)]; rfl
 obtain ⟨hm, hids⟩ := outE_mem ho
 have hx : ∀ x ∈ own', ∃ i e, (i, x.id, x.r) ∈ ρ ∧ findE own i = some e ∧ x.obj = renO (phiOf own ρ) e.obj := by
  intro x hx
  obtain ⟨i, j, v, e, h1, h2, rfl⟩ := hm x hx
  exact ⟨i, e, h1, h2, rfl⟩
 have hnd : (own'.map (·.id)).Nodup := by rw [hids]; exact hρ.1
 have hsel : hotOf own' (fun j => loc ((lookR (ρ.map fun p => (p.1, p.2.1)) j).getD 0)) = hotOf (own'.map fun x => ⟨(lookR (ρ.map fun p => (p.1, p.2.1)) x.id).getD 0, 0, x.obj⟩) loc := by
  simp [hotOf, List.flatMap_map]
 have hselid : ((own'.map fun x => (⟨(lookR (ρ.map fun p => (p.1, p.2.1)) x.id).getD 0, 0, x.obj⟩ : Ent)).map (·.id)).Nodup := by
  rw [List.map_map]
  have : own'.map ((·.id) ∘ fun x => (⟨(lookR (ρ.map fun p => (p.1, p.2.1)) x.id).getD 0, 0, x.obj⟩ : Ent)) = ρ.map (·.1) := by
   have e1 : own'.map ((·.id) ∘ fun x => (⟨(lookR (ρ.map fun p => (p.1, p.2.1)) x.id).getD 0, 0, x.obj⟩ : Ent)) = (own'.map (·.id)).map (fun j => (lookR (ρ.map fun p => (p.1, p.2.1)) j).getD 0) := by
    rw [List.map_map]; rfl
   rw [e1, hids, List.map_map]
   refine List.map_congr_left fun p hp => ?_
   simp only [Function.comp_def]
   rw [lookR_of_mem h2 (List.mem_map.2 ⟨p, hp, rfl⟩)]; rfl
  rw [this]; exact hρ.2
 have hin : ∀ b ∈ hotOf own' (fun j => loc ((lookR (ρ.map fun p => (p.1, p.2.1)) j).getD 0)), b ∈ hotOf own loc := by
  intro b hb
  obtain ⟨x, hx', hb⟩ := List.mem_flatMap.1 hb
  obtain ⟨i, e, h1, h2, _⟩ := hx x hx'
  simp only [hloc i _ _ h1] at hb
  obtain ⟨k1, k2⟩ := findE_mem h2
  rw [← k2] at hb
  exact mem_hot k1 hb
 have hM : ∀ b, b ∈ hotOf own' (fun j => loc ((lookR (ρ.map fun p => (p.1, p.2.1)) j).getD 0)) ++ M → b ∈ hotOf own loc ++ M := by
  intro b hb
  rcases List.mem_append.1 hb with hb | hb
  ·exact List.mem_append_left _ (hin b hb)
  ·exact List.mem_append_right _ hb
 have W : Weak (curOf own loc) (curOf own' fun j => loc ((lookR (ρ.map fun p => (p.1, p.2.1)) j).getD 0)) (hotOf own loc ++ M) (hotOf own' (fun j => loc ((lookR (ρ.map fun p => (p.1, p.2.1)) j).getD 0)) ++ M) h h 0 :=
  ⟨fun id r l hr => by omega, fun b o _ (_ : isD o = true) ho => ho, fun b o hb (_ : isD o = true) _ hm => hb (hM b hm)⟩
 have L : Leads (curOf own loc) (curOf own' fun j => loc ((lookR (ρ.map fun p => (p.1, p.2.1)) j).getD 0)) (phiOf own ρ) := by
  intro i r p lc hp hl
  obtain ⟨e, h1, h2, h3⟩ := phiOf_some hp
  obtain ⟨e0, _, g1, _, g3⟩ := curOf_some hl
  obtain ⟨k1, k2⟩ := findE_mem h2
  rw [← h3, ← k2, curOf_self S.nd k1, g3, hloc i p.1 p.2 h1, k2]
 refine ⟨fun j => loc ((lookR (ρ.map fun p => (p.1, p.2.1)) j).getD 0), ⟨hnd, ?_, fun b hb => S.ap b (hin b hb), fun b hb => S.lt b (hM b hb), ?_⟩, hin, ?_, fun d v hd hr => rd_renD W L hd hr⟩
 ·rw [hsel]
  refine hot_nodup_ids0 S.bl _ hselid fun e he => ?_
  obtain ⟨x, hx', rfl⟩ := List.mem_map.1 he
  obtain ⟨i, e, h1, h2', _⟩ := hx x hx'
  simp only [lookR_of_mem h2 (List.mem_map.2 ⟨_, h1, rfl⟩), Option.getD_some]
  exact ⟨e, findE_mem h2'⟩
 ·intro x hx'
  obtain ⟨i, e, h1, h2', h3⟩ := hx x hx'
  obtain ⟨e', h4, h5, _⟩ := outOK_mem hk i _ _ h1
  rw [h2'] at h4
  simp only [Option.some.injEq] at h4
  subst h4
  obtain ⟨k1, k2⟩ := findE_mem h2'
  rw [h3]
  exact ObjOK_ren W L (l := loc i) h5 (hloc i _ _ h1) (fun b o _ ho => ho) (by have := S.ok e k1; rwa [k2] at this)
 ·intro x hx'
  obtain ⟨i, e, h1, h2', h3⟩ := hx x hx'
  obtain ⟨e', h4, _, h5⟩ := outOK_mem hk i _ _ h1
  rw [h2'] at h4
  simp only [Option.some.injEq] at h4
  subst h4
  exact ⟨i, e, h1, h2', hloc i _ _ h1, h5⟩
attribute [simp] inRho lookR backOf backE frameE okOs okDs inOK effX effE dOpsE_f updK updV lookI keyOK
end Go.Dm
end
section
namespace Go.Dm
variable [DMode]
open Go.Shelf Go.Proofs Go.RowKit
section
variable {P : Program} {B : Base} {s : DS} {a : Act} {w : World} {loc : Nat → Loc}
end
section
variable {P : Program} {ρ : Ren}
theorem lies_same {T n : Nat} (hd : P.depth ≠ 0) (hs : P.cellsOf T ≠ 0) (hn : 1 ≤ n) : liesAt P P.depth T n 0 T 1 = true := by
 obtain ⟨d, hd⟩ : ∃ d, P.depth = d + 1 := ⟨P.depth - 1, by omega⟩
 have h1 : sameLayout P (d + 1) T T = true := by simp [sameLayout]
 rw [hd]
 unfold liesAt
 rw [hd]
 unfold rowAt
 simp [hs, hn, h1]
theorem upd_freeze (w : World) (g n : Nat) : Upd [g] w (w.drew.freeze ⟨g, 0, none⟩ n) := by
 unfold World.freeze
 split
 ·exact Upd.drew _ w
 ·refine ⟨rfl, rfl, rfl, fun _ => Nat.le_succ _, by simp, fun b hb hne => ?_⟩
  simp only [List.mem_singleton] at hne
  simp only [Array.getElem?_modify]
  rw [if_neg (fun h => hne h.symm)]
  rfl
set_option maxHeartbeats 1000000 in
set_option maxRecDepth 100000 in
theorem builderString_some (L : Lays.n169 P ρ) (X : Builder.Extra P ρ) (b g cap : Nat) (p : Value) (cs cur : Array Value) (l : List UInt8) (w : World) (h0 : l ≠ []) (hb : w.heap[b]? = some (.cells cs (ρ.t 72) (0, 0))) (hb1 : cs[1]? = some (.slice (some ⟨g, 0, none⟩) l.length cap))
  (hg : w.heap[g]? = some (.cells cur (ρ.t 5) (0, 0))) (hnc : l.length ≤ cap) (hcm : cap ≤ maxLen) (hcs : cur.size = cap) (htake : cur.toList.take l.length = Lib.byteCells l) :
  Calls P (ρ.f 169) #[.pointer (some ⟨b, 0, none⟩)] w fun e w' => e = .returned (.string ⟨l.toArray⟩) ∧ Upd [g] w w' ∧ w' = w.drew.freeze ⟨g, 0, none⟩ l.length := by
 have hl0 : l.length ≠ 0 := by simpa using h0
 have c1 : w.drew.cell? ⟨b, 1, none⟩ = some (.slice (some ⟨g, 0, none⟩) l.length cap) := by
  have : w.drew.heap[b]? = some (.cells cs (ρ.t 72) (0, 0)) := hb
  rw [Lib.cell_of_heap this]; exact hb1
 have hSD : (Builtin.unsafeSliceData_ #[(ρ.t 37)] (ρ.t 127) #[.slice (some ⟨g, 0, none⟩) l.length cap]).run P w.drew = .ok (.pointer (some ⟨g, 0, none⟩)) w.drew :=
  Lib.run_unsafeSliceData_row _ _ _ _ _ _ (by omega)
 have hUS : (Builtin.unsafeString_ #[(ρ.t 127), (ρ.t 3)] (ρ.t 9) #[.pointer (some ⟨g, 0, none⟩), .int .i64 l.length]).run P w.drew = .ok (.string ⟨l.toArray⟩) (w.drew.freeze ⟨g, 0, none⟩ l.length) := by
  refine Lib.run_unsafeString_row w.drew (ρ.t 127) (ρ.t 3) (ρ.t 9) (ρ.t 5) L.t127 X.cellsByte g cur.size (by have hg' : w.drew.heap[g]? = some (.cells cur (ρ.t 5) (0, 0)) := hg; simp [World.shape?, hg']) l h0 (by omega) (by unfold maxLen at hcm; omega) ?_
  intro j x hx
  have hg' : w.drew.heap[g]? = some (.cells cur (ρ.t 5) (0, 0)) := hg
  have hadd : (⟨g, 0, none⟩ : Addr).add j = ⟨g, j, none⟩ := by unfold Addr.add; split <;> simp_all
  rw [hadd, Lib.cell_of_heap hg']
  have hj : j < l.length := (List.getElem?_eq_some_iff.1 hx).1
  have h2 : (Lib.byteCells l)[j]? = some (.int .u8 x.toNat) := by simp [Lib.byteCells, hx]
  rw [← htake, List.getElem?_take_of_lt hj] at h2
  simpa using h2
 have mixed := L.mixed
 have t72 := L.t72; have a72 := L.a72; have z72 := L.z72; have v72 := L.v72; have u72 := run_underlying L.t72
 have t70 := L.t70; have a70 := L.a70; have z70 := L.z70; have v70 := L.v70; have u70 := run_underlying L.t70
 have t37 := L.t37; have a37 := L.a37; have z37 := L.z37; have v37 := L.v37; have u37 := run_underlying L.t37
 have t127 := L.t127; have a127 := L.a127; have z127 := L.z127; have v127 := L.v127; have u127 := run_underlying L.t127
 have t3 := L.t3; have a3 := L.a3; have z3 := L.z3; have v3 := L.v3; have u3 := run_underlying L.t3
 have t9 := L.t9; have a9 := L.a9; have z9 := L.z9; have v9 := L.v9; have u9 := run_underlying L.t9
 have t5 := X.t5; have a5 := X.a5; have z5 := X.z5; have v5 := X.v5; have u5 := run_underlying X.t5
 go_enter L.f169, Body.n169_ntmps ρ
 go_wp2
 go_region_o
 all_goals (go_wp2; go_ret; exact ⟨rfl, upd_freeze w g l.length, rfl⟩)
set_option maxHeartbeats 1000000 in
set_option maxRecDepth 100000 in
theorem builderString_none (L : Lays.n169 P ρ) (X : Builder.Extra P ρ) (b : Nat) (cs : Array Value) (w : World) (hb : w.heap[b]? = some (.cells cs (ρ.t 72) (0, 0))) (hb1 : cs[1]? = some (.slice none 0 0)) :
  Calls P (ρ.f 169) #[.pointer (some ⟨b, 0, none⟩)] w fun e w' => e = .returned (.string ⟨#[]⟩) ∧ Upd [] w w' := by
 have hUS := Any.unsafeString_none L X
 have c1 : w.drew.cell? ⟨b, 1, none⟩ = some (.slice none 0 0) := by
  have : w.drew.heap[b]? = some (.cells cs (ρ.t 72) (0, 0)) := hb
  rw [Lib.cell_of_heap this]; exact hb1
 have hSD : (Builtin.unsafeSliceData_ #[(ρ.t 37)] (ρ.t 127) #[.slice none 0 0]).run P w.drew = .ok (.pointer none) w.drew := rfl
 have mixed := L.mixed
 have t72 := L.t72; have a72 := L.a72; have z72 := L.z72; have v72 := L.v72; have u72 := run_underlying L.t72
 have t70 := L.t70; have a70 := L.a70; have z70 := L.z70; have v70 := L.v70; have u70 := run_underlying L.t70
 have t37 := L.t37; have a37 := L.a37; have z37 := L.z37; have v37 := L.v37; have u37 := run_underlying L.t37
 have t127 := L.t127; have a127 := L.a127; have z127 := L.z127; have v127 := L.v127; have u127 := run_underlying L.t127
 have t3 := L.t3; have a3 := L.a3; have z3 := L.z3; have v3 := L.v3; have u3 := run_underlying L.t3
 have t9 := L.t9; have a9 := L.a9; have z9 := L.z9; have v9 := L.v9; have u9 := run_underlying L.t9
 have t5 := X.t5; have a5 := X.a5; have z5 := X.z5; have v5 := X.v5; have u5 := run_underlying X.t5
 go_enter L.f169, Body.n169_ntmps ρ
 go_wp2
 go_region_o
 all_goals (go_wp2; go_ret; exact ⟨rfl, Upd.drew _ w⟩)
theorem bld_cells {cur : Cur} {M : List Nat} {H : Array Obj} {d0 d1 : DVal} {arr : Array Value} (h : rdR cur M H 2 [[d0, d1]] arr 0) : ∃ v0 v1 rest, arr = (v0 :: v1 :: rest).toArray ∧ rd cur M H d0 v0 ∧ rd cur M H d1 v1 := by
 obtain ⟨rows, r1, r2, r3, r4⟩ := rdR_vals 2 _ arr 0 h
 match rows, r1 with
 | [us], _ =>
  obtain ⟨g1, g2, g3⟩ := r3 0 _ _ rfl rfl
  simp only [rdV] at g2
  obtain ⟨v0, r, rfl, h0, v1, r', rfl, h1, rfl⟩ := g2
  have e0 := (r4 0 v0 (by simp)).1
  have e1 := (r4 1 v1 (by simp)).1
  obtain ⟨l⟩ := arr
  match l, e0, e1 with
  | x :: y :: rest, e0, e1 =>
   simp at e0 e1
   subst e0; subst e1
   exact ⟨x, y, rest, rfl, h0, h1⟩
theorem bld_rdR {cur : Cur} {M : List Nat} {H : Array Obj} {d0 d1 : DVal} {v0 v1 : Value} {rest : List Value} (h0 : rd cur M H d0 v0) (h1 : rd cur M H d1 v1) (o0 : v0.oneCell' = true) (o1 : v1.oneCell' = true) : rdR cur M H 2 [[d0, d1]] (v0 :: v1 :: rest).toArray 0 := by
 have := rdR_of (cur := cur) (M := M) (H := H) 2 [[d0, d1]] [[v0, v1]] rest rfl (by
  intro i c u hc hu
  cases i with
  | zero =>
   simp only [List.getElem?_cons_zero, Option.some.injEq] at hc hu
   subst hc; subst hu
   exact ⟨rfl, ⟨v0, _, rfl, h0, v1, _, rfl, h1, rfl⟩, by simp [o0, o1]⟩
  | succ i => simp at hc)
 simpa using this
theorem copyCheck_spec1 {g T : Nat} (hd : P.depth ≠ 0) (hs : P.cellsOf T = 2) (hE : Enters P g) (bs : Nat)
  (hcc : ∀ (b n : Nat) (w : World), w.cell? ⟨b, 0, none⟩ = some (.pointer none) → w.shape? b = some (T, n) → 0 < n → liesAt P P.depth T (n / P.cellsOf T) 0 T 1 = true → w.frozen? ⟨b, 0, none⟩ = false →
   Calls P g #[.pointer (some ⟨b, 0, none⟩)] w fun e w' => e = .returned (.tuple #[]) ∧ w' = w.setCell ⟨b, 0, none⟩ (.pointer (some ⟨b, 0, none⟩))) :
  DSpec P (.func g) [.rx 0 0 2 0 0] [⟨0, 0, .row T 2 bs [[.nilp, .nilsl]]⟩] (.tup []) [⟨0, 0, .row T 2 bs [[.rx 0 0 2 0 0, .nilsl]]⟩] := by
 refine ⟨by simp, hE, fun M w loc vs S hvs => ?_⟩
 have hk := S.ok _ (List.mem_singleton.2 rfl)
 obtain ⟨hbs, hk⟩ := hk
 rcases hk with ⟨h, _⟩ | ⟨b, arr, cap, h1, h2, h3, h4, h5, h6, h7⟩
 ·simp at h
 ·obtain ⟨v0, v1, rest, rfl, g0, g1⟩ := bld_cells h7
  simp only [rd] at g0 g1
  subst g0; subst g1
  have hcur : curOf [(⟨0, 0, .row T 2 bs [[.nilp, .nilsl]]⟩ : Ent)] loc 0 0 = some (loc 0) := by simp [curOf, findE]
  simp only [rdV, rd] at hvs
  obtain ⟨pv, r, hvs, hp, rfl⟩ := hvs
  obtain ⟨b', hb', rfl⟩ := hp _ hcur
  simp only at h1 h2
  rw [h1] at hb'
  simp only [List.cons.injEq, and_true] at hb'
  subst hb'
  have hvs' : vs = #[.pointer (some ⟨b, 0, none⟩)] := by apply Array.ext'; simpa using hvs
  subst hvs'
  have hsz : 2 ≤ (Array.size (Value.pointer none :: Value.slice none 0 0 :: rest).toArray) := by simp
  refine ⟨hE, (hcc b (rest.length + 2) w (by rw [Lib.cell_of_heap h3]; rfl) (by simp [World.shape?, h3]) (by omega) (lies_same hd (by omega) (by rw [hs]; omega)) (Lib.frozen_of_heap h3 0)).mono ?_⟩
  rintro e w' ⟨rfl, rfl⟩
  refine ⟨_, rfl, loc, ?_, ?_, ?_, ?_, ?_⟩
  ·have hset := setCell_eq_setRow w b 0 _ _ _ (.pointer (some ⟨b, 0, none⟩)) h3
   rw [hset]
   refine ⟨S.nd, S.bl, S.ap, fun q hq => by have := S.lt q hq; simpa using this, fun e he => ?_⟩
   simp only [List.mem_singleton] at he
   subst he
   refine ⟨hbs, .inr ⟨b, _, cap, h1, h2, setRow_heap w b _ _ _ (0, 0) h3, h4, h5, by simpa using h6, ?_⟩⟩
   have := bld_rdR (cur := curOf [(⟨0, 0, .row T 2 bs [[.rx 0 0 2 0 0, .nilsl]]⟩ : Ent)] loc) (M := hotOf [(⟨0, 0, .row T 2 bs [[.rx 0 0 2 0 0, .nilsl]]⟩ : Ent)] loc ++ M) (H := (w.setRow b ((Value.pointer none :: Value.slice none 0 0 :: rest).toArray.setIfInBounds 0 (.pointer (some ⟨b, 0, none⟩)))).heap)
    (d0 := .rx 0 0 2 0 0) (d1 := .nilsl) (v0 := .pointer (some ⟨b, 0, none⟩)) (v1 := .slice none 0 0) (rest := rest) (by
     simp only [rd]
     intro l hl
     have hc2 : curOf [(⟨0, 0, .row T 2 bs [[.rx 0 0 2 0 0, .nilsl]]⟩ : Ent)] loc 0 0 = some (loc 0) := by simp [curOf, findE]
     rw [hc2] at hl
     simp only [Option.some.injEq] at hl
     subst hl
     exact ⟨b, h1, by simp⟩) (by simp [rd]) rfl rfl
   simpa using this
  ·refine ⟨rfl, rfl, rfl, fun _ => Nat.le_refl _, by simp [World.setCell], fun q hq hne => ?_⟩
   have hqb : b ≠ q := by
    intro h
    subst h
    exact hne (by simp [hotOf, h1])
   simp [World.setCell, Array.getElem?_modify, hqb]
  ·intro q hq
   exact .inl hq
  ·intro e he _
   simp only [List.mem_singleton] at he
   subst he
   exact hcur
  ·simp [rd, rdV]
theorem builderString_spec2k (L : Lays.n169 P ρ) (X : Builder.Extra P ρ) (hE : Enters P (ρ.f 169)) (bs : Nat) (x : ByteArray) (hx : x.size ≠ 0) :
  DSpec P (.func (ρ.f 169)) [.rx 0 0 2 0 0] [⟨0, 0, .row (ρ.t 72) 2 bs [[.rx 0 0 2 0 0, .osl 1 0]]⟩, ⟨1, 0, .row (ρ.t 5) 1 1 (bytesD x)⟩] (.str x) [⟨0, 0, .row (ρ.t 72) 2 bs [[.rx 0 0 2 0 0, .sl 1 1 (bytesD x)]]⟩] := by
 refine ⟨by simp, hE, fun M w loc vs S hvs => ?_⟩
 have hk := S.ok _ List.mem_cons_self
 have hk2 := S.ok _ (List.mem_cons_of_mem _ List.mem_cons_self)
 obtain ⟨hbs, hk⟩ := hk
 obtain ⟨hbs2, hk2⟩ := hk2
 rcases hk with ⟨h, _⟩ | ⟨b, arr, cap, h1, h2, h3, h4, h5, h6, h7⟩
 ·simp at h
 rcases hk2 with ⟨h, _⟩ | ⟨g, cur, cap2, k1, k2, k3, k4, k5, k6, k7⟩
 ·have := congrArg List.length h
  rw [bytesD_len] at this
  exact absurd this hx
 ·obtain ⟨v0, v1, rest, rfl, g0, g1⟩ := bld_cells h7
  simp only [rd] at g0 g1
  have hcur : curOf [(⟨0, 0, .row (ρ.t 72) 2 bs [[.rx 0 0 2 0 0, .osl 1 0]]⟩ : Ent), ⟨1, 0, .row (ρ.t 5) 1 1 (bytesD x)⟩] loc 0 0 = some (loc 0) := by simp [curOf, findE]
  have hcur1 : curOf [(⟨0, 0, .row (ρ.t 72) 2 bs [[.rx 0 0 2 0 0, .osl 1 0]]⟩ : Ent), ⟨1, 0, .row (ρ.t 5) 1 1 (bytesD x)⟩] loc 1 0 = some (loc 1) := by simp [curOf, findE]
  have hv1 := g1 _ hcur1
  simp only at k1 k2
  rw [k2, bytesD_len] at hv1
  subst hv1
  simp only [rdV, rd] at hvs
  obtain ⟨pv, r, hvs, hp, rfl⟩ := hvs
  obtain ⟨b', hb', rfl⟩ := hp _ hcur
  simp only at h1 h2
  rw [h1] at hb'
  simp only [List.cons.injEq, and_true] at hb'
  subst hb'
  have hvs' : vs = #[.pointer (some ⟨b, 0, none⟩)] := by apply Array.ext'; simpa using hvs
  subst hvs'
  have hxl : x.data.toList.length = x.size := rfl
  obtain ⟨rows, r1, r2, r3, r4⟩ := rdR_vals 1 _ cur 0 k7
  have hfl : rows.flatten = Lib.byteCells x.data.toList := by
   have : ∀ (bl : List UInt8) (rows : List (List Value)), rows.length = bl.length → (∀ (i : Nat) (cs : List DVal) (us : List Value), (bl.map fun b => [DVal.int .u8 (b.toNat : Int)])[i]? = some cs → rows[i]? = some us → cs.length = 1 ∧ rdV (curOf [(⟨0, 0, .row (ρ.t 72) 2 bs [[.rx 0 0 2 0 0, .osl 1 0]]⟩ : Ent), ⟨1, 0, .row (ρ.t 5) 1 1 (bytesD x)⟩] loc) (hotOf [(⟨0, 0, .row (ρ.t 72) 2 bs [[.rx 0 0 2 0 0, .osl 1 0]]⟩ : Ent), ⟨1, 0, .row (ρ.t 5) 1 1 (bytesD x)⟩] loc ++ M) w.heap cs us ∧ ∀ u ∈ us, u.oneCell' = true) → rows.flatten = Lib.byteCells bl := by
    intro bl
    induction bl with
    | nil => intro rows hl _; rw [List.eq_nil_of_length_eq_zero hl]; rfl
    | cons y bl ih =>
     intro rows hl h
     match rows, hl with
     | us :: rows, hl =>
      obtain ⟨_, h1, _⟩ := h 0 _ _ rfl rfl
      simp only [rdV, rd] at h1
      obtain ⟨v, r, rfl, ⟨rfl, _⟩, rfl⟩ := h1
      have := ih rows (by simpa using hl) fun i cs us hc hu => h (i + 1) cs us (by simpa using hc) (by simpa using hu)
      simp [this, Lib.byteCells]
   exact this x.data.toList rows (by rw [r1, bytesD_len]; rfl) r3
  rw [bytesD_len] at k4 r2
  have hcsz : cur.size = cap2 := by omega
  have ht := take_flat r2 r4 (by omega)
  rw [hfl, Nat.mul_one] at ht
  refine ⟨hE, (builderString_some L X b g cap2 v0 _ cur x.data.toList w (fun h => hx (by rw [← hxl, h]; rfl)) h3 rfl k3 k4 k5 hcsz ht).mono ?_⟩
  rintro e w' ⟨rfl, hu, hw⟩
  have hv0 := g0 _ hcur
  obtain ⟨b2, hb2, rfl⟩ := hv0
  rw [h1] at hb2
  simp only [List.cons.injEq, and_true] at hb2
  subst hb2
  have hbl := S.bl
  have hap := S.ap
  simp only [hotOf, List.flatMap_cons, List.flatMap_nil, h1, k1, List.append_nil, List.cons_append, List.nil_append, List.nodup_cons, List.mem_singleton] at hbl
  have hbg : b ≠ g := hbl.1
  have hbM : b ∉ M := hap b (by simp [hotOf, h1])
  have hgM : g ∉ M := hap g (by simp [hotOf, k1])
  have hblt := (Array.getElem?_eq_some_iff.1 h3).1
  have hglt := (Array.getElem?_eq_some_iff.1 k3).1
  have hH : hotOf [(⟨0, 0, .row (ρ.t 72) 2 bs [[.rx 0 0 2 0 0, .sl 1 1 (bytesD x)]]⟩ : Ent)] loc = [b] := by simp [hotOf, h1]
  have hhb : w'.heap[b]? = some (.cells (Value.pointer (some ⟨b, 0 * 2 + 0, none⟩) :: .slice (some ⟨g, 0, none⟩) x.size cap2 :: rest).toArray (ρ.t 72) (0, 0)) := by rw [hu.blk b hblt (by simpa using hbg)]; exact h3
  have hhg : ∃ fz, w'.heap[g]? = some (.cells cur (ρ.t 5) fz) := by
   rw [hw]
   unfold World.freeze
   rw [if_neg (by rw [hxl]; exact hx)]
   have : w.drew.heap[g]? = some (.cells cur (ρ.t 5) (0, 0)) := k3
   simp only [Array.getElem?_modify, if_true, this]
   exact ⟨_, rfl⟩
  have W : Weak (curOf [(⟨0, 0, .row (ρ.t 72) 2 bs [[.rx 0 0 2 0 0, .osl 1 0]]⟩ : Ent), ⟨1, 0, .row (ρ.t 5) 1 1 (bytesD x)⟩] loc) (curOf [(⟨0, 0, .row (ρ.t 72) 2 bs [[.rx 0 0 2 0 0, .sl 1 1 (bytesD x)]]⟩ : Ent)] loc) (hotOf [(⟨0, 0, .row (ρ.t 72) 2 bs [[.rx 0 0 2 0 0, .osl 1 0]]⟩ : Ent), ⟨1, 0, .row (ρ.t 5) 1 1 (bytesD x)⟩] loc ++ M) ([b] ++ M) w.heap w'.heap 0 := by
   refine ⟨fun id r l hr _ => absurd hr (Nat.not_lt_zero _), fun q o hq _ ho => ?_, fun q o hq _ _ hm => hq ?_⟩
   ·rw [hu.blk q (Array.getElem?_eq_some_iff.1 ho).1 (fun hm => hq ?_)]
    ·exact ho
    ·simp only [List.mem_singleton] at hm
     subst hm
     simp [hotOf, k1]
   ·rcases List.mem_append.1 hm with hm | hm
    ·simp only [List.mem_singleton] at hm
     subst hm
     simp [hotOf, h1]
    ·exact List.mem_append_right _ hm
  refine ⟨_, rfl, loc, ⟨by simp, by rw [hH]; simp, fun q hq => ?_, fun q hq => ?_, ?_⟩, ?_, fun q hq => ?_, ?_, ?_⟩
  ·rw [hH] at hq; simp only [List.mem_singleton] at hq; subst hq; exact hbM
  ·rw [hH] at hq
   refine Nat.lt_of_lt_of_le (S.lt q ?_) hu.size
   rcases List.mem_append.1 hq with hq | hq
   ·simp only [List.mem_singleton] at hq; subst hq; simp [hotOf, h1]
   ·exact List.mem_append_right _ hq
  ·intro e he
   simp only [List.mem_singleton] at he
   subst he
   rw [hH]
   refine ⟨by simpa using hbs, .inr ⟨b, _, cap, h1, by simpa using h2, hhb, by simpa using h4, h5, h6, bld_rdR ?_ ?_ rfl rfl⟩⟩
   ·simp only [rd]
    intro l hl
    have : curOf [(⟨0, 0, .row (ρ.t 72) 2 bs [[.rx 0 0 2 0 0, .sl 1 1 (bytesD x)]]⟩ : Ent)] loc 0 0 = some (loc 0) := by simp [curOf, findE]
    rw [this] at hl
    simp only [Option.some.injEq] at hl
    subst hl
    exact ⟨b, h1, rfl⟩
   ·simp only [rd]
    obtain ⟨fz, hfz⟩ := hhg
    rw [bytesD_len]
    exact ⟨_, _, rfl, by simpa [bytesD_len] using k4, k5, by simpa [bytesD_len] using hbs2, .inr ⟨g, 0, cur, _, fz, rfl, fun hm => by
     rcases List.mem_append.1 hm with hm | hm
     ·simp only [List.mem_singleton] at hm; exact hbg hm.symm
     ·exact hgM hm, hfz, rdR_weak W 1 _ cur 0 (by rw [mx_bytesD]; exact Nat.le_refl _) k7⟩⟩
  ·refine ⟨hu.os, hu.tape, hu.output, hu.drawn, hu.size, fun q hq hne => hu.blk q hq fun hm => hne ?_⟩
   simp only [List.mem_singleton] at hm
   subst hm
   simp [hotOf, k1]
  ·rw [hH] at hq
   simp only [List.mem_singleton] at hq
   subst hq
   exact .inl (by simp [hotOf, h1])
  ·intro e he _
   simp only [List.mem_singleton] at he
   subst he
   exact hcur
  ·simp only [rd]
   exact ⟨trivial, by omega⟩
end
end Go.Dm
end
section
namespace Go.Dm
variable [DMode]
noncomputable def Mp.del {α : Type} {D : Nat} (i : Nat) (T : Mp α D) : Mp α D := ⟨(PT.putS (α := Option α) D i).f none T.p, T.o⟩
theorem Mp.get_del {α : Type} {D : Nat} {i : Nat} (T : Mp α D) (h : i < 2 ^ D) : (Mp.del i T).get i = none := by
 rw [Mp.get_eq, if_pos h]
 exact PT.get_put _ _ _ _
theorem Mp.get_del_ne {α : Type} {D : Nat} {i j : Nat} (T : Mp α D) (hi : i < 2 ^ D) (h : i ≠ j) : (Mp.del i T).get j = T.get j := by
 rw [Mp.get_eq, Mp.get_eq]
 by_cases hj : j < 2 ^ D
 ·rw [if_pos hj, if_pos hj]
  refine PT.get_put_ne _ _ _ _ _ ?_
  refine Classical.byContradiction fun hn => h (Nat.eq_of_testBit_eq fun k => ?_)
  rcases Nat.lt_or_ge k D with hk | hk
  ·exact Classical.byContradiction fun hne => hn ⟨k, hk, hne⟩
  ·have hp := Nat.pow_le_pow_right (show 0 < 2 by decide) hk
   rw [Nat.testBit_lt_two_pow (by omega), Nat.testBit_lt_two_pow (by omega)]
 ·rw [if_neg hj, if_neg hj]
  rfl
theorem findE_delE {own : List Ent} {i id : Nat} : findE (delE own i) id = if id = i then none else findE own id := by
 induction own with
 | nil => simp [delE, findE]
 | cons a t ih =>
  simp only [delE]
  by_cases ha : a.id = i
  ·rw [if_pos ha, ih]
   by_cases hid : id = i
   ·simp [hid]
   ·rw [if_neg hid, if_neg hid]
    simp only [findE]
    rw [if_neg (by omega)]
  ·rw [if_neg ha]
   simp only [findE]
   by_cases hid : a.id = id
   ·rw [if_pos hid, if_pos hid, if_neg (by omega)]
   ·rw [if_neg hid, if_neg hid, ih]
theorem OwR.del {own : List Ent} {T : OT} (h : OwR own T) {i : Nat} (hi : i < 2 ^ 16) : OwR (delE own i) (Mp.del i T) := by
 intro id
 unfold fnd
 rw [findE_delE]
 by_cases hid : id = i
 ·subst hid
  rw [Mp.get_del T hi]
  simp
 ·rw [Mp.get_del_ne T hi (fun e => hid e.symm), if_neg hid]
  exact h id
theorem mxE_delE (own : List Ent) (i : Nat) : mxE (delE own i) ≤ mxE own := mxE_sub fun e he => (mem_delE.1 he).1
section
variable {P : Program}
theorem SpecAt.toF {f : Fn} {args : List DVal} {own : List Ent} {r : Nat} {d : DVal} {own' : List Ent} (h : SpecAt P f args own r d own') : SpecAtF P f args own r d own' (r + 1) :=
 ⟨h.1, fun h1 _ => ⟨Nat.le_succ _, (h.2.2.1 h1).1, (h.2.2.1 h1).2⟩, fun M w loc vs h1 _ S hr => h.2.2.2 M w loc vs h1 S hr⟩
theorem specF_of {f : Fn} {args : List DVal} {own own' : List Ent} {r : Nat} {d : DVal} (hE : FEnters P f) (hb : mxE own ≤ r → mx d ≤ r + 1 ∧ mxE own' ≤ r + 1)
  (h : (own.map (·.id)).Nodup → ∃ L, SpecAt P f args own r d L ∧ (own'.map (·.id)).Nodup ∧ ∀ e ∈ own', e ∈ L) : SpecAtF P f args own r d own' (r + 1) := by
 refine ⟨hE, fun h1 _ => ⟨Nat.le_succ _, (hb h1).1, (hb h1).2⟩, fun M w loc vs h1 h2 S hr => ?_⟩
 obtain ⟨L, hL, nd, hs⟩ := h S.nd
 exact (SpecAtF.out hL.toF nd hs).2.2 M w loc vs h1 h2 S hr
theorem pure_orc {g : FuncId} {args : List DVal} {own : List Ent} {r : Nat} {d : DVal} (h : DPure P g args d) : SpecAtF P (.func g) args own r d own r := by
 obtain ⟨hE, hd, hS⟩ := h
 refine ⟨hE, fun h1 _ => ⟨Nat.le_refl _, by omega, h1⟩, fun M w loc vs _ _ S hr => ?_⟩
 refine ⟨hE, (hS (curOf own loc) (hotOf own loc ++ M) w vs S.lt hr).mono ?_⟩
 rintro e w' ⟨v, rfl, hu, hrd⟩
 exact ⟨v, rfl, loc, S.keep hu, hu.nil, fun b hb => .inl hb, fun e he _ => curOf_self S.nd he, hrd⟩
theorem bytesD_mx (x : ByteArray) : mxR (bytesD x) = 0 := by
 unfold bytesD
 generalize x.data.toList = l
 induction l with
 | nil => simp [mxR]
 | cons b l ih => simp [mxR, mxL, mx, ih]
theorem bldFirst_orc {g : FuncId} {T : TypeId} (h : DSpec P (.func g) [.rx 0 0 2 0 0] [⟨0, 0, .row T 2 32 [[.nilp, .nilsl]]⟩] (.tup []) [⟨0, 0, .row T 2 32 [[.rx 0 0 2 0 0, .nilsl]]⟩])
  {own : List Ent} {b rb r : Nat} (he : findE own b = some ⟨b, rb, .row T 2 32 [[.nilp, .nilsl]]⟩) : SpecAtF P (.func g) [.rx b rb 2 0 0] own r (.tup []) (upE own b rb (.row T 2 32 [[.rx b rb 2 0 0, .nilsl]])) (r + 1) := by
 have hm := mem_mxE (findE_mem he).1
 refine specF_of h.2.1 (fun h1 => ⟨by simp [mx, mxL], Nat.le_trans (mxE_upE _ _ _ _) ?_⟩) fun nd => ?_
 ·have h2 : mxO (.row T 2 32 [[.rx b rb 2 0 0, .nilsl]]) = rb + 1 := by simp [mxO, mxR, mxL, mx]
  have h3 := hm.1
  simp only at h3
  omega
 ·refine ⟨_, SpecAt_of_DSpec (l := [⟨b, rb, .row T 2 32 [[.rx b rb 2 0 0, .nilsl]]⟩]) [(b, 0)] [] h ?_ ?_ ?_ ?_ ?_ ?_ ?_ ?_, nodup_upE nd, fun e hm' => ?_⟩
  ·simp [outE, inRho, he, renO, mxR, mxL, mx]
  ·simp [inOK, he, okO, mxR, mxL, mx]
  ·simp [okDs, okD, ok3, ok2, okR, wkA, renD, ren3, ren2, renR, phiOf, inRho, he, wk, wk1]
  ·simp
  ·simp [backE, backOf, lookR, he, renO, mxR, mxL, mx, ren2r, ren2, renR]
  ·simp [okOs, okO, ok2r, ok2s, ok2, okR, mx, mxR, mxL]
  ·simp [okD, ok3s]
  ·rw [List.map_append, List.nodup_append]
   refine ⟨List.Sublist.nodup (List.Sublist.map _ (frameE_sub own _)) nd, by simp, ?_⟩
   rintro a ha c hc rfl
   obtain ⟨e, he1, rfl⟩ := List.mem_map.1 ha
   have := (mem_frameE.1 he1).2
   simp at hc this
   exact this hc
  ·rcases List.mem_cons.1 hm' with rfl | hm'
   ·simp
   ·refine List.mem_append_left _ (mem_frameE.2 ⟨(mem_delE.1 hm').1, ?_⟩)
    simpa using (mem_delE.1 hm').2
theorem bldUsed_orc {g : FuncId} {T : TypeId} {bs : Nat} {q : DVal} (hE : Enters P g) (hcc : ∀ (b : Nat) (w : World), w.cell? ⟨b, 0, none⟩ = some (.pointer (some ⟨b, 0, none⟩)) → Calls P g #[.pointer (some ⟨b, 0, none⟩)] w fun e w' => e = .returned (.tuple #[]) ∧ w' = w)
  {own : List Ent} {b rb r : Nat} (he : findE own b = some ⟨b, rb, .row T 2 bs [[.rx b rb 2 0 0, q]]⟩) : SpecAtF P (.func g) [.rx b rb 2 0 0] own r (.tup []) own r := by
 refine ⟨hE, fun h1 _ => ⟨Nat.le_refl _, by simp [mx, mxL], h1⟩, fun M w loc vs _ _ S hvs => ?_⟩
 obtain ⟨hbs, hk⟩ := S.ok _ (findE_mem he).1
 rcases hk with ⟨h, _⟩ | ⟨b0, arr, cap, h1, h2, h3, h4, h5, h6, h7⟩
 ·simp at h
 ·obtain ⟨v0, v1, rs, rfl, g0, g1⟩ := bld_cells h7
  simp only [rd] at g0
  have hcur : curOf own loc b rb = some (loc b) := by simp [curOf, he]
  obtain ⟨b1, hb1, rfl⟩ := g0 _ hcur
  simp only [rdV, rd] at hvs
  obtain ⟨pv, r0, hvs, hp, rfl⟩ := hvs
  obtain ⟨b', hb', rfl⟩ := hp _ hcur
  simp only at h1 h2
  rw [h1] at hb' hb1
  simp only [List.cons.injEq, and_true] at hb' hb1
  subst hb'; subst hb1
  have hvs' : vs = #[.pointer (some ⟨b0, 0, none⟩)] := by apply Array.ext'; simpa using hvs
  subst hvs'
  refine ⟨hE, (hcc b0 w (by rw [Lib.cell_of_heap h3]; rfl)).mono ?_⟩
  rintro e w' ⟨rfl, rfl⟩
  refine ⟨_, rfl, loc, S, Upd.refl _ _, fun q hq => .inl hq, fun e he _ => curOf_self S.nd he, by simp [rd, rdV]⟩
theorem bldGrow_orc {g : FuncId} {T TU : TypeId} {n : Nat} (h : DSpec P (.func g) [.rx 0 0 2 0 0, .int .i64 n] [⟨0, 0, .row T 2 32 [[.nilp, .nilsl]]⟩] (.tup []) [⟨0, 0, .row T 2 32 [[.rx 0 0 2 0 0, .osl 1 1]]⟩, ⟨1, 1, .row TU 1 1 []⟩])
  {own : List Ent} {b rb r : Nat} (hbr : b ≠ r) (he : findE own b = some ⟨b, rb, .row T 2 32 [[.nilp, .nilsl]]⟩) (hr : findE own r = none) : SpecAtF P (.func g) [.rx b rb 2 0 0, .int .i64 n] own r (.tup []) (upE (upE own b rb (.row T 2 32 [[.rx b rb 2 0 0, .osl r r]])) r r (.row TU 1 1 [])) (r + 1) := by
 have hm := mem_mxE (findE_mem he).1
 refine specF_of h.2.1 (fun h1 => ⟨by simp [mx, mxL], Nat.le_trans (mxE_upE _ _ _ _) ?_⟩) fun nd => ?_
 ·have h2 : mxO (.row T 2 32 [[.rx b rb 2 0 0, .osl r r]]) = max (rb + 1) (r + 1) := by simp [mxO, mxR, mxL, mx]
  have h4 : mxO (.row TU 1 1 []) = 0 := by simp [mxO, mxR]
  have h3 := hm.1
  have h5 := mxE_upE own b rb (.row T 2 32 [[.rx b rb 2 0 0, .osl r r]])
  simp only at h3
  omega
 ·refine ⟨_, SpecAt_of_DSpec (l := [⟨b, rb, .row T 2 32 [[.rx b rb 2 0 0, .osl r r]]⟩, ⟨r, r, .row TU 1 1 []⟩]) [(b, 0)] [(r, 1)] h ?_ ?_ ?_ ?_ ?_ ?_ ?_ ?_, nodup_upE (nodup_upE nd), fun e hm' => ?_⟩
  ·simp [outE, inRho, he, renO, mxR, mxL, mx]
  ·simp [inOK, he, okO, mxR, mxL, mx]
  ·simp [okDs, okD, ok3, ok2, okR, wkA, renD, ren3, ren2, renR, phiOf, inRho, he, wk, wk1, mx]
  ·simp; omega
  ·simp [backE, backOf, lookR, he, renO, mxR, mxL, mx, ren2r, ren2, renR]
  ·simp [okOs, okO, ok2r, ok2s, ok2, okR, mx, mxR, mxL]
  ·simp [okD, ok3s]
  ·rw [List.map_append, List.nodup_append]
   refine ⟨List.Sublist.nodup (List.Sublist.map _ (frameE_sub own _)) nd, by simp; omega, ?_⟩
   rintro a ha c hc rfl
   obtain ⟨e, he1, rfl⟩ := List.mem_map.1 ha
   have := (mem_frameE.1 he1).2
   simp at hc this
   omega
  ·rcases List.mem_cons.1 hm' with rfl | hm'
   ·simp
   ·have h1 := mem_delE.1 hm'
    rcases List.mem_cons.1 h1.1 with rfl | h2
    ·simp
    ·have h3 := mem_delE.1 h2
     refine List.mem_append_left _ (mem_frameE.2 ⟨h3.1, ?_⟩)
     have := h1.2
     have := h3.2
     simp
     omega
theorem bldString_orc {g : FuncId} {T TU : TypeId} {x : ByteArray} (h : DSpec P (.func g) [.rx 0 0 2 0 0] [⟨0, 0, .row T 2 32 [[.rx 0 0 2 0 0, .osl 1 0]]⟩, ⟨1, 0, .row TU 1 1 (bytesD x)⟩] (.str x) [⟨0, 0, .row T 2 32 [[.rx 0 0 2 0 0, .sl 1 1 (bytesD x)]]⟩])
  {own : List Ent} {b rb i ri r : Nat} (hbi : b ≠ i) (he : findE own b = some ⟨b, rb, .row T 2 32 [[.rx b rb 2 0 0, .osl i ri]]⟩) (hi : findE own i = some ⟨i, ri, .row TU 1 1 (bytesD x)⟩) :
  SpecAtF P (.func g) [.rx b rb 2 0 0] own r (.str x) (upE (delE own i) b rb (.row T 2 32 [[.rx b rb 2 0 0, .sl 1 1 (bytesD x)]])) (r + 1) := by
 have hm := mem_mxE (findE_mem he).1
 have hb0 := bytesD_mx x
 refine specF_of h.2.1 (fun h1 => ⟨by simp [mx], Nat.le_trans (mxE_upE _ _ _ _) ?_⟩) fun nd => ?_
 ·have h2 : mxO (.row T 2 32 [[.rx b rb 2 0 0, .sl 1 1 (bytesD x)]]) = rb + 1 := by simp [mxO, mxR, mxL, mx, hb0]
  have h3 := hm.1
  have h5 := mxE_delE own i
  simp only at h3
  omega
 ·refine ⟨_, SpecAt_of_DSpec (l := [⟨b, rb, .row T 2 32 [[.rx b rb 2 0 0, .sl 1 1 (bytesD x)]]⟩]) [(b, 0), (i, 1)] [] h ?_ ?_ ?_ ?_ ?_ ?_ ?_ ?_, nodup_upE (nodup_delE nd), fun e hm' => ?_⟩
  ·simp [outE, inRho, he, hi, renO, mxR, mxL, mx, ren2r, ren2, renR, phiOf, hbi, hb0, Ne.symm hbi]
  ·simp [inOK, he, hi, okO, ok2r, ok2s, ok2, okR, mxR, mxL, mx, hb0]
  ·simp [okDs, okD, ok3, ok2, okR, wkA, renD, ren3, ren2, renR, phiOf, inRho, he, wk, wk1, mx]
  ·simp; omega
  ·simp [backE, backOf, lookR, he, renO, mxR, mxL, mx, ren2r, ren2, renR, hb0]
  ·simp [okOs, okO, ok2r, ok2s, ok2, okR, mx, mxR, mxL, hb0]
  ·simp [okD, ok3, ok2, okR, mx]
  ·rw [List.map_append, List.nodup_append]
   refine ⟨List.Sublist.nodup (List.Sublist.map _ (frameE_sub own _)) nd, by simp, ?_⟩
   rintro a ha c hc rfl
   obtain ⟨e, he1, rfl⟩ := List.mem_map.1 ha
   have := (mem_frameE.1 he1).2
   simp at hc this
   omega
  ·rcases List.mem_cons.1 hm' with rfl | hm'
   ·simp
   ·have h1 := mem_delE.1 hm'
    have h2 := mem_delE.1 h1.1
    refine List.mem_append_left _ (mem_frameE.2 ⟨h2.1, ?_⟩)
    have := h1.2
    have := h2.2
    simp
    omega
theorem bldEmpty_orc {g : FuncId} {T : TypeId} (hE : Enters P g) (hs : ∀ (b : Nat) (cs : Array Value) (w : World), w.heap[b]? = some (.cells cs T (0, 0)) → cs[1]? = some (.slice none 0 0) → Calls P g #[.pointer (some ⟨b, 0, none⟩)] w fun e w' => e = .returned (.string ⟨#[]⟩) ∧ Upd [] w w')
  {own : List Ent} {b rb r : Nat} (he : findE own b = some ⟨b, rb, .row T 2 32 [[.nilp, .nilsl]]⟩) : SpecAtF P (.func g) [.rx b rb 2 0 0] own r (.str ⟨#[]⟩) own r := by
 refine ⟨hE, fun h1 _ => ⟨Nat.le_refl _, by simp [mx], h1⟩, fun M w loc vs _ _ S hvs => ?_⟩
 obtain ⟨hbs, hk⟩ := S.ok _ (findE_mem he).1
 rcases hk with ⟨h, _⟩ | ⟨b0, arr, cap, h1, h2, h3, h4, h5, h6, h7⟩
 ·simp at h
 ·obtain ⟨v0, v1, rs, rfl, g0, g1⟩ := bld_cells h7
  simp only [rd] at g0 g1
  subst g0; subst g1
  have hcur : curOf own loc b rb = some (loc b) := by simp [curOf, he]
  simp only [rdV, rd] at hvs
  obtain ⟨pv, r0, hvs, hp, rfl⟩ := hvs
  obtain ⟨b', hb', rfl⟩ := hp _ hcur
  simp only at h1 h2
  rw [h1] at hb'
  simp only [List.cons.injEq, and_true] at hb'
  subst hb'
  have hvs' : vs = #[.pointer (some ⟨b0, 0, none⟩)] := by apply Array.ext'; simpa using hvs
  subst hvs'
  refine ⟨hE, (hs b0 _ w h3 rfl).mono ?_⟩
  rintro e w' ⟨rfl, hu⟩
  refine ⟨_, rfl, loc, S.keep hu, hu.nil, fun q hq => .inl hq, fun e he _ => curOf_self S.nd he, by simp only [rd]; exact ⟨trivial, Nat.zero_le _⟩⟩
end
end Go.Dm
end
