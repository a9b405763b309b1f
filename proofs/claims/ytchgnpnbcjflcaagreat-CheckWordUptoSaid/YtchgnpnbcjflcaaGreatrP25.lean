/- 'CheckWord' of bulk at most 1048576: bywaylaw27.CheckWord answers true for every argument that is of bulk at most 1048576, and leaves what came in as it was. That condition alone. -/
import Derived.Deep.CondSized
import Derived.Test.YtchgnpnbcjflcaaGreatqKw13
set_option linter.unusedSimpArgs false
set_option linter.unusedVariables false
namespace Go.Proofs.YtchgnpnbcjflcaaGreat
open Go Go.Dm
open Go.ChangeShapes Go.WideShapes Go.ChangeAt Go.RowKit
set_option maxRecDepth 100000 in
theorem contract6 (H:Type) (enc:TypeId×Value→H) (W:World) (base:Nat) (args:Array Value) (ds gs:List (DataW H)) (before:List MemPlace)
  (hval:∀(j:Nat) t v,Tryz.f6.params[j]? =some t→args[j]? =some v→Value.okWide Tryz.prog W .any base t v)
  (hW:DataW.Whole enc Tryz.prog Tryz.f6.params.toList Rows.checkWordSpec.vars false W args.toList ds gs before)
  (hk:Rows.uptoSmall H (ds++gs)=true) :
  Calls Tryz.prog 6 args W fun e W'=>∃v,e= .returned v∧Rows.checkWordSpec.post enc Tryz.prog Tryz.f6 false true false false W args v W':=by
 have hW':=hW;obtain⟨p,q,hA,hV,rfl,_,_⟩:=hW;obtain⟨rfl,rfl⟩:=trodVars_none hV;simp only[bN0]at hW' hk;have hps:Tryz.f6.params.toList=[22,9,46]:=by rw[Tryz.params6]
 rw[hps]at hA;have hw:=small_le (P:=Tryz.prog) (C:=40) (n:=9) (ts:=[22,9,46]) (shs:=[[.sl 2 40 Lu_],Lt_,[.sl 1 16 Lt_]]) (by omega) hk (by kernel_rfl) (by rfl)
 have hval':∀(j:Nat) t v,([22,9,46]:List TypeId)[j]? =some t→args.toList[j]? =some v→Value.okWide Tryz.prog W .any base t v:=by
  intro j t v h1 h2;refine hval j t v ?_ (by rw[←eV0];exact h2);rw[Tryz.params6,←eV0];exact h1
 clear hval hk;obtain⟨das,hrd,hargs⟩:=args_rd (cur:=fun _ _=>none) (n:=9) (shs:=[[.sl 2 40 Lu_],Lt_,[.sl 1 16 Lt_]]) hval' hA (by kernel_rfl) hw;obtain⟨v0,vs0,d0,ds0,p0,q0,hv0,rfl,rfl,h0,r0⟩:=trodAll_cons hA;obtain⟨v1,vs1,d1,ds1,p1,q1,hv1,rfl,rfl,h1,r1⟩:=trodAll_cons r0;obtain⟨v2,vs2,d2,ds2,p2,q2,hv2,rfl,rfl,h2,r2⟩:=trodAll_cons r1;obtain⟨rfl,rfl,rfl⟩:=trodAll_nil r2;simp only[JJ_]at hargs;obtain⟨dd0,_,hl0,rfl,hargs0⟩:=hargs
 obtain⟨dd1,_,hl1,rfl,hargs1⟩:=hargs0;obtain⟨dd2,_,hl2,rfl,rfl⟩:=hargs1;obtain⟨g,rfl,hg⟩:=ae_ hl0;obtain⟨nt,rfl⟩:=Wl_ hl1;obtain⟨w,rfl⟩:=has_strsB hl2;simp only[show LZ_ Tryz.prog 22=false by kernel_rfl,show LZ_ Tryz.prog 9=false by kernel_rfl,show LZ_ Tryz.prog 46=false by kernel_rfl,aL0,if_false,if_true,List.headD_cons]at hrd;exact RW_ laidOut (by rw[Tryz.params6];intro t ht;simp at ht;(try rcases ht with rfl | rfl | rfl)<;>(try subst ht)<;>exact⟨by kernel_rfl,of_decide_eq_true (by kernel_rfl)⟩) (by kernel_rfl) Tryz.underlying4 rfl rfl hW' hrd (Nm_ g nt w (fun r hr=>by have:=hg r hr;omega))
set_option maxRecDepth 100000 in
theorem lifted6 (os:Os) (started:os.Started) (H:Type) (enc:TypeId×Value→H) (F0:Stop.Interp) :
  ReturnsInHanded {} Tryz.checked os 6 .any ((Rows.OpenSpec.upto Rows.checkWordSpec).pre6 enc Tryz.prog Tryz.f6 Rows.checkWordUptoRow.domain false) (((Rows.OpenSpec.upto Rows.checkWordSpec).at F0).post enc Tryz.prog Tryz.f6 false true false false):=by
 refine returnsInHanded_of_cond_sized (C:=Tryz.checked) (s:=Rows.OpenSpec.upto Rows.checkWordSpec) (k:=Rows.uptoSmall) rfl own started (by kernel_rfl) Tryz.func6
  (OpenSpec.witness (enc:=enc) (C:=Tryz.checked) (s:=Rows.OpenSpec.upto Rows.checkWordSpec) (k:=Rows.uptoSmall) rfl false ⟨#[], #[.slice none 0 0,.string ⟨#[]⟩,.slice none 0 0],[]⟩ 8 (by kernel_rfl) (by kernel_rfl) (by kernel_rfl) (x:=([.nil,.lit (.string []),.nil],[],[])) (by kernel_rfl) (by kernel_rfl) (by kernel_rfl)) ?_
 intro W base args ds gs before hval hW _ hk hsz _;exact contract6 H enc W base args ds gs before hval hW hk
set_option maxRecDepth 100000 in
set_option maxHeartbeats 20000000 in
theorem closed6 : joinedFacts Tryz.pinned.checked.prog 6 Tryz.f6 (Rows.OpenSpec.upto Rows.checkWordSpec).bare Rows.checkWordUptoRow=true:=by
 unfold joinedFacts;refine Cu_ (Cu_ (Cu_ (Cu_ (Cu_ (Cu_ (Cu_ (Cu_ (Cu_ (Cu_ (Cu_ (Cu_ (Cu_ (Cu_ (Cu_ (Cu_ (Cu_ (Cu_ (Cu_ (Cu_ (Cu_ (Cu_ (Cu_ (Cu_ (Cu_ (Cu_ (Cu_ (Cu_ (Cu_ (Cu_ (Cu_ ?_ ?_) ?_) ?_) ?_) ?_) ?_) ?_) ?_) ?_) ?_) ?_) ?_) ?_) ?_) ?_) ?_) ?_) ?_) ?_) ?_) ?_) ?_) ?_) ?_) ?_) ?_) ?_) ?_) ?_) ?_) ?_
 all_goals (as_aux_lemma=>kernel_rfl)
theorem checkWord_upto : Rows.CheckWordUptoSaid :=
 OpenClaim.holds_of_cond 6 Tryz.f6 rfl rfl rfl rfl rfl rfl rfl ⟨rfl,rfl,rfl,rfl,rfl⟩ rfl rfl rfl rfl rfl (by kernel_rfl) Tryz.func6 closed6
  (of_decide_eq_true (by kernel_rfl)) (by unfold Func.isWrapper;first | (rw[if_pos (by decide +kernel)];kernel_rfl) | (rw[if_neg (by decide +kernel)];exact⟨rfl,rfl⟩))
  (fun os started H enc _ F0=>lifted6 os started H enc F0)
end Go.Proofs.YtchgnpnbcjflcaaGreat
