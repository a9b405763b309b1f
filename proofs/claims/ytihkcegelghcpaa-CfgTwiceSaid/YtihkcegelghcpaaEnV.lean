/- The data machine, second make, part V: contracts of functions that take own objects or hand some back. -/
import Derived.Test.YtihkcegelghcpaaEnT
import Derived.Test.YtihkcegelghcpaaEnQ
set_option linter.unusedSimpArgs false
set_option linter.unusedVariables false
namespace Go.Dm

/-- what is handed back, under the contract's names -/
theorem St.out {own own' : List Ent} {loc : Nat → Loc} {M : List Nat} {h : Array Obj} (ρ : List (Nat × Nat × Nat)) (S : St own loc M h) (hρ : (ρ.map (·.2.1)).Nodup ∧ (ρ.map (·.1)).Nodup)
    (ho : outE own (phiOf own ρ) ρ = some own') (hk : outOK own ρ) :
    ∃ loc', St own' loc' M h ∧ (∀ b ∈ hotOf own' loc', b ∈ hotOf own loc) ∧ (∀ x ∈ own', ∃ i e, (i, x.id, x.r) ∈ ρ ∧ findE own i = some e ∧ loc' x.id = loc i ∧ (x.r = 1 ∨ (x.r = 0 ∧ i = x.id ∧ e.r = 0))) ∧
      (∀ d v, okD d → rd (curOf own loc) (hotOf own loc ++ M) h d v → rd (curOf own' loc') (hotOf own' loc' ++ M) h (renD (phiOf own ρ) d) v) := by
  have h2 : ((ρ.map fun p => (p.1, p.2.1)).map (·.2)).Nodup := by rw [List.map_map]; exact hρ.1
  have hloc : ∀ i j v, (i, j, v) ∈ ρ → loc ((lookR (ρ.map fun p => (p.1, p.2.1)) j).getD 0) = loc i := by
    intro i j v hm
    rw [lookR_of_mem h2 (List.mem_map.2 ⟨(i, j, v), hm, rfl⟩)]; rfl
  obtain ⟨hm, hids⟩ := outE_mem ho
  have hx : ∀ x ∈ own', ∃ i e, (i, x.id, x.r) ∈ ρ ∧ findE own i = some e ∧ x.obj = renO (phiOf own ρ) e.obj := by
    intro x hx
    obtain ⟨i, j, v, e, h1, h2, rfl⟩ := hm x hx
    exact ⟨i, e, h1, h2, rfl⟩
  have hnd : (own'.map (·.id)).Nodup := by rw [hids]; exact hρ.1
  have hsel : hotOf own' (fun j => loc ((lookR (ρ.map fun p => (p.1, p.2.1)) j).getD 0)) = hotOf (own'.map fun x => ⟨(lookR (ρ.map fun p => (p.1, p.2.1)) x.id).getD 0, 0, x.obj⟩) loc := by
    simp [hotOf, List.flatMap_map]
  have hselid : ((own'.map fun x => (⟨(lookR (ρ.map fun p => (p.1, p.2.1)) x.id).getD 0, 0, x.obj⟩ : Ent)).map (·.id)).Nodup := by
    rw [List.map_map]
    have : own'.map ((·.id) ∘ fun x => (⟨(lookR (ρ.map fun p => (p.1, p.2.1)) x.id).getD 0, 0, x.obj⟩ : Ent)) = ρ.map (·.1) := by
      have e1 : own'.map ((·.id) ∘ fun x => (⟨(lookR (ρ.map fun p => (p.1, p.2.1)) x.id).getD 0, 0, x.obj⟩ : Ent)) = (own'.map (·.id)).map (fun j => (lookR (ρ.map fun p => (p.1, p.2.1)) j).getD 0) := by
        rw [List.map_map]; rfl
      rw [e1, hids, List.map_map]
      refine List.map_congr_left fun p hp => ?_
      simp only [Function.comp_def]
      rw [lookR_of_mem h2 (List.mem_map.2 ⟨p, hp, rfl⟩)]; rfl
    rw [this]; exact hρ.2
  have hin : ∀ b ∈ hotOf own' (fun j => loc ((lookR (ρ.map fun p => (p.1, p.2.1)) j).getD 0)), b ∈ hotOf own loc := by
    intro b hb
    obtain ⟨x, hx', hb⟩ := List.mem_flatMap.1 hb
    obtain ⟨i, e, h1, h2, _⟩ := hx x hx'
    simp only [hloc i _ _ h1] at hb
    obtain ⟨k1, k2⟩ := findE_mem h2
    rw [← k2] at hb
    exact mem_hot k1 hb
  have hM : ∀ b, b ∈ hotOf own' (fun j => loc ((lookR (ρ.map fun p => (p.1, p.2.1)) j).getD 0)) ++ M → b ∈ hotOf own loc ++ M := by
    intro b hb
    rcases List.mem_append.1 hb with hb | hb
    · exact List.mem_append_left _ (hin b hb)
    · exact List.mem_append_right _ hb
  have W : Weak (curOf own loc) (curOf own' fun j => loc ((lookR (ρ.map fun p => (p.1, p.2.1)) j).getD 0)) (hotOf own loc ++ M) (hotOf own' (fun j => loc ((lookR (ρ.map fun p => (p.1, p.2.1)) j).getD 0)) ++ M) h h 0 :=
    ⟨fun id r l hr => by omega, fun b o _ (_ : isD o = true) ho => ho, fun b o hb (_ : isD o = true) _ hm => hb (hM b hm)⟩
  have L : Leads (curOf own loc) (curOf own' fun j => loc ((lookR (ρ.map fun p => (p.1, p.2.1)) j).getD 0)) (phiOf own ρ) := by
    intro i r p lc hp hl
    obtain ⟨e, h1, h2, h3⟩ := phiOf_some hp
    obtain ⟨e0, _, g1, _, g3⟩ := curOf_some hl
    obtain ⟨k1, k2⟩ := findE_mem h2
    rw [← h3, ← k2, curOf_self S.nd k1, g3, hloc i p.1 p.2 h1, k2]
  refine ⟨fun j => loc ((lookR (ρ.map fun p => (p.1, p.2.1)) j).getD 0), ⟨hnd, ?_, fun b hb => S.ap b (hin b hb), fun b hb => S.lt b (hM b hb), ?_⟩, hin, ?_, fun d v hd hr => rd_renD W L hd hr⟩
  · rw [hsel]
    refine hot_nodup_ids0 S.bl _ hselid fun e he => ?_
    obtain ⟨x, hx', rfl⟩ := List.mem_map.1 he
    obtain ⟨i, e, h1, h2', _⟩ := hx x hx'
    simp only [lookR_of_mem h2 (List.mem_map.2 ⟨_, h1, rfl⟩), Option.getD_some]
    exact ⟨e, findE_mem h2'⟩
  · intro x hx'
    obtain ⟨i, e, h1, h2', h3⟩ := hx x hx'
    obtain ⟨e', h4, h5, _⟩ := outOK_mem hk i _ _ h1
    rw [h2'] at h4
    simp only [Option.some.injEq] at h4
    subst h4
    obtain ⟨k1, k2⟩ := findE_mem h2'
    rw [h3]
    exact ObjOK_ren W L (l := loc i) h5 (hloc i _ _ h1) (fun b o _ ho => ho) (by have := S.ok e k1; rwa [k2] at this)
  · intro x hx'
    obtain ⟨i, e, h1, h2', h3⟩ := hx x hx'
    obtain ⟨e', h4, _, h5⟩ := outOK_mem hk i _ _ h1
    rw [h2'] at h4
    simp only [Option.some.injEq] at h4
    subst h4
    exact ⟨i, e, h1, h2', hloc i _ _ h1, h5⟩

/-- what is known of own objects by themselves -/
def wfOwn : List Ent → Prop
  | [] => True
  | e :: t => (match e.obj with
    | .row _ _ bs es => es.length * bs ≤ 140737488355328 ∧ es.length ≤ maxLen ∧ wfR es
    | .box cs => wfL cs
    | .map ks vs => wfL ks ∧ wfL vs
    | .abs _ => True) ∧ wfOwn t
theorem wf_own {own : List Ent} {loc : Nat → Loc} {M : List Nat} {h : Array Obj} (S : St own loc M h) : wfOwn own := by
  have key : ∀ l : List Ent, (∀ e ∈ l, e ∈ own) → wfOwn l := by
    intro l
    induction l with
    | nil => intro _; trivial
    | cons e t ih =>
      intro hm
      refine ⟨?_, ih fun x hx => hm x (List.mem_cons_of_mem _ hx)⟩
      have hk := S.ok e (hm e List.mem_cons_self)
      cases hob : e.obj with
      | box cs => rw [hob] at hk; obtain ⟨b, arr, ty, _, _, _, h4⟩ := hk; exact rdC_wf cs arr 0 h4
      | row et k bs es =>
        rw [hob] at hk
        obtain ⟨h0, ⟨rfl, _⟩ | ⟨b, arr, cap, _, _, _, h4, h5, _, h7⟩⟩ := hk
        · exact ⟨by simp, by simp, by simp [wfR]⟩
        · exact ⟨h0, Nat.le_trans h4 h5, rdR_wf _ _ _ _ h7⟩
      | map ks vs => rw [hob] at hk; obtain ⟨b, es, clk, _, _, _, h4, h5⟩ := hk; exact ⟨rdV_wf _ _ h4, rdV_wf _ _ h5⟩
      | abs A => trivial
  exact key own fun _ h => h

/-- THE CONTRACT OF A FUNCTION THAT TAKES OWN OBJECTS OR HANDS SOME BACK. ρ: (its number in the walk, its number in the contract, 0: it stayed in its place; else 1), of each that is handed back. -/
theorem DSpec_introW (ids : List Nat) (ρ : List (Nat × Nat × Nat)) {P : Program} {f : FuncId} {fn : Func} {c : Code} {args : List DVal} {own own' : List Ent} {d : DVal} (hf : P.funcs[f]? = some fn) (hb : fn.body = some c) (hen : Enters P f) (hnt : args.length ≤ fn.ntmps)
    (hρ : (ρ.map (·.2.1)).Nodup ∧ (ρ.map (·.1)).Nodup) (hv : own'.all (fun e => decide (e.r ≤ 1)) = true)
    (h : wfL args → wfOwn own → ∀ B : Base, B.nt = fn.ntmps ∧ B.ro = none → DW P B c (DretS P fn ids ρ d own') ⟨argS args 0, own⟩) : DSpec P (.func f) args own d own' := by
  refine ⟨fun e he => by simpa using List.all_eq_true.1 hv e he, hen, fun M w loc vs S hr => ?_⟩
  have key : ∀ B : Base, B.nt = fn.ntmps ∧ B.ro = none → DW P B c (Dend P fn fun s d0 => okD d0 ∧ wk (renD (phiOf s.own ρ) d0) d ∧ outE s.own (phiOf s.own ρ) ρ = some own' ∧ outOK s.own ρ) ⟨argS args 0, own⟩ := by
    intro B hB a w loc R
    refine wpIn_mono (h (rdV_wf _ _ hr) (wf_own S) B hB a w loc R) ?_
    rintro e a' w' ⟨s', loc', hq, R'⟩
    obtain ⟨loc'', R''⟩ := Sub.freezeL ids s' a' w' loc' R'
    refine ⟨freezeL s' ids, loc'', ?_, R''⟩
    cases e <;> simp only [DretS] at hq <;> first
      | (split at hq
         · rename_i d0 hd0; exact ⟨d0, hd0, hq⟩
         · exact hq.elim)
      | exact hq.elim
  refine FCalls_intro (N := 1) (Nat.le_refl 1) hf hb hen hnt S (fun _ _ _ => trivial) hr key ?_
  intro s loc' w' d0 v ⟨hd, hw, ho, hk⟩ S' hu hnew hver hrd
  obtain ⟨loc1, S1, h1, h2, h3⟩ := S'.out ρ hρ ho hk
  refine ⟨loc1, S1, hu, fun b hb => hnew b (h1 b hb), fun x hx hlt => ?_, rd_wk hw (h3 d0 v hd hrd)⟩
  obtain ⟨i, e, g1, g2, g3, g4⟩ := h2 x hx
  rcases g4 with g4 | ⟨g4, g5, g6⟩
  · omega
  · obtain ⟨k1, k2⟩ := findE_mem g2
    have := hver e k1 (by omega)
    rw [k2, g6] at this
    rw [g3, g4, ← g5]
    exact this

theorem DSpec_intro (ids : List Nat) (ρ : List (Nat × Nat × Nat)) {P : Program} {f : FuncId} {fn : Func} {c : Code} {args : List DVal} {own own' : List Ent} {d : DVal} (hf : P.funcs[f]? = some fn) (hb : fn.body = some c) (hen : Enters P f) (hnt : args.length ≤ fn.ntmps)
    (hρ : (ρ.map (·.2.1)).Nodup ∧ (ρ.map (·.1)).Nodup) (hv : own'.all (fun e => decide (e.r ≤ 1)) = true)
    (h : wfL args → ∀ B : Base, B.nt = fn.ntmps ∧ B.ro = none → DW P B c (DretS P fn ids ρ d own') ⟨argS args 0, own⟩) : DSpec P (.func f) args own d own' :=
  DSpec_introW ids ρ hf hb hen hnt hρ hv fun hwf _ => h hwf

/-- A CALL UNDER A CONTRACT, in a walk. ρ: (the caller's number, the contract's) of what is handed in; ν: of what comes back new. -/
theorem callS_mk (ρ ν : List (Nat × Nat)) {P : Program} {g : FuncId} {args args0 : List DVal} {own own0 own0' : List Ent} {d0 : DVal} {K : ContE} (hS : DSpec P (.func g) args0 own0 d0 own0')
    (hpre : outE own (phiOf own (inRho ρ)) (inRho ρ) = some own0 ∧ inOK own ρ ∧ (okDs args ∧ wkA (args.map (renD (phiOf own (inRho ρ)))) args0) ∧ (((ρ ++ ν).map (·.1)).Nodup ∧ (ρ.map (·.2)).Nodup) ∧ okOs own0' ∧ okD d0)
    (hk : ∀ r, match backE (backOf own ρ ν r) own0' with
      | some l => ((frameE own ((ρ ++ ν).map (·.1)) ++ l).map (·.id)).Nodup ∧ K.f (renD (backOf own ρ ν r) d0) (frameE own ((ρ ++ ν).map (·.1)) ++ l)
      | none => False) : callS P g args own K := by
  intro r
  have h := hk r
  split at h
  · rename_i l hl
    exact ⟨_, _, SpecAt_of_DSpec ρ ν hS hpre.1 hpre.2.1 hpre.2.2.1 hpre.2.2.2.1 hl hpre.2.2.2.2.1 hpre.2.2.2.2.2 h.1, h.2⟩
  · exact h.elim
attribute [simp] inRho lookR backOf backE frameE okOs okDs inOK effX effE dOpsE_f updK updV lookI keyOK
end Go.Dm
