/- 'CheckSplits' of bulk at most 1048576: bywaylaw27.CheckSplits answers true for every argument that is of bulk at most 1048576, and leaves what came in as it was. That condition alone. -/
import Derived.Deep.CondSized
import Derived.Test.YtchgnpnbcjflcaaGreatqCs12
set_option linter.unusedSimpArgs false
set_option linter.unusedVariables false
namespace Go.Proofs.YtchgnpnbcjflcaaGreat
open Go Go.Dm
open Go.ChangeShapes Go.WideShapes Go.ChangeAt Go.RowKit
set_option maxRecDepth 100000 in
theorem contract8 (H:Type) (enc:TypeId×Value→H) (W:World) (base:Nat) (args:Array Value) (ds gs:List (DataW H)) (before:List MemPlace)
  (hval:∀(j:Nat) t v,Tryz.f8.params[j]? =some t→args[j]? =some v→Value.okWide Tryz.prog W .any base t v)
  (hW:DataW.Whole enc Tryz.prog Tryz.f8.params.toList Rows.checkSplitsSpec.vars false W args.toList ds gs before)
  (hk:Rows.uptoSmall H (ds++gs)=true) :
  Calls Tryz.prog 8 args W fun e W'=>∃v,e= .returned v∧Rows.checkSplitsSpec.post enc Tryz.prog Tryz.f8 false true false false W args v W':=by
 have hW':=hW;obtain⟨p,q,hA,hV,rfl,_,_⟩:=hW;obtain⟨rfl,rfl⟩:=trodVars_none hV;simp only[bP0]at hW' hk;have hps:Tryz.f8.params.toList=[60]:=by rw[Tryz.params8]
 rw[hps]at hA;have hw:=small_le (P:=Tryz.prog) (C:=48) (n:=9) (ts:=[60]) (shs:=[UA_]) (by omega) hk (by kernel_rfl) (by rfl)
 have hval':∀(j:Nat) t v,([60]:List TypeId)[j]? =some t→args.toList[j]? =some v→Value.okWide Tryz.prog W .any base t v:=by
  intro j t v h1 h2;refine hval j t v ?_ (by rw[←eJ0];exact h2);rw[Tryz.params8,←eJ0];exact h1
 clear hval hk;obtain⟨das,hrd,hargs⟩:=args_rd (cur:=fun _ _=>none) (n:=9) (shs:=[UA_]) hval' hA (by kernel_rfl) hw;obtain⟨v0,vs0,d0,ds0,p0,q0,hv0,rfl,rfl,h0,r0⟩:=trodAll_cons hA;obtain⟨rfl,rfl,rfl⟩:=trodAll_nil r0;simp only[Je_]at hargs;obtain⟨dd0,_,hl0,rfl,rfl⟩:=hargs;obtain⟨g,d,nt,a,b,way,rfl,hg⟩:=has_askB hl0;simp only[show Rs_ Tryz.prog 60=true by kernel_rfl,aP0,if_false,if_true,List.headD_cons]at hrd
 exact Rn_ laidOut (by rw[Tryz.params8];intro t ht;simp at ht;(try rcases ht with rfl)<;>(try subst ht)<;>exact⟨by kernel_rfl,of_decide_eq_true (by kernel_rfl)⟩) (by kernel_rfl) Tryz.underlying4 rfl rfl hW' hrd (JQ_ g d nt a b way (fun r hr=>by have:=hg r hr;omega))
set_option maxRecDepth 100000 in
theorem lifted8 (os:Os) (started:os.Started) (H:Type) (enc:TypeId×Value→H) (F0:Stop.Interp) :
  ReturnsInHanded {} Tryz.checked os 8 .any ((Rows.OpenSpec.upto Rows.checkSplitsSpec).pre6 enc Tryz.prog Tryz.f8 Rows.checkSplitsUptoRow.domain false) (((Rows.OpenSpec.upto Rows.checkSplitsSpec).at F0).post enc Tryz.prog Tryz.f8 false true false false):=by
 refine returnsInHanded_of_cond_sized (C:=Tryz.checked) (s:=Rows.OpenSpec.upto Rows.checkSplitsSpec) (k:=Rows.uptoSmall) rfl own started (by kernel_rfl) Tryz.func8
  (OpenSpec.witness (enc:=enc) (C:=Tryz.checked) (s:=Rows.OpenSpec.upto Rows.checkSplitsSpec) (k:=Rows.uptoSmall) rfl false ⟨#[], #[.agg #[.slice none 0 0,.slice none 0 0,.slice none 0 0,.string ⟨#[]⟩,.string ⟨#[]⟩,.string ⟨#[]⟩,.slice none 0 0]],[]⟩ 8 (by kernel_rfl) (by kernel_rfl) (by kernel_rfl) (x:=([.agg [.nil,.agg [.nil,.nil],.lit (.string []),.lit (.string []),.lit (.string []),.nil]],[],[])) (by kernel_rfl) (by kernel_rfl) (by kernel_rfl)) ?_
 intro W base args ds gs before hval hW _ hk hsz _;exact contract8 H enc W base args ds gs before hval hW hk
set_option maxRecDepth 100000 in
set_option maxHeartbeats 20000000 in
theorem closed8 : joinedFacts Tryz.pinned.checked.prog 8 Tryz.f8 (Rows.OpenSpec.upto Rows.checkSplitsSpec).bare Rows.checkSplitsUptoRow=true:=by
 unfold joinedFacts;refine Cn_ (Cn_ (Cn_ (Cn_ (Cn_ (Cn_ (Cn_ (Cn_ (Cn_ (Cn_ (Cn_ (Cn_ (Cn_ (Cn_ (Cn_ (Cn_ (Cn_ (Cn_ (Cn_ (Cn_ (Cn_ (Cn_ (Cn_ (Cn_ (Cn_ (Cn_ (Cn_ (Cn_ (Cn_ (Cn_ (Cn_ ?_ ?_) ?_) ?_) ?_) ?_) ?_) ?_) ?_) ?_) ?_) ?_) ?_) ?_) ?_) ?_) ?_) ?_) ?_) ?_) ?_) ?_) ?_) ?_) ?_) ?_) ?_) ?_) ?_) ?_) ?_) ?_
 all_goals (as_aux_lemma=>kernel_rfl)
theorem checkSplits_upto : Rows.CheckSplitsUptoSaid :=
 OpenClaim.holds_of_cond 8 Tryz.f8 rfl rfl rfl rfl rfl rfl rfl ⟨rfl,rfl,rfl,rfl,rfl⟩ rfl rfl rfl rfl rfl (by kernel_rfl) Tryz.func8 closed8
  (of_decide_eq_true (by kernel_rfl)) (by unfold Func.isWrapper;first | (rw[if_pos (by decide +kernel)];kernel_rfl) | (rw[if_neg (by decide +kernel)];exact⟨rfl,rfl⟩))
  (fun os started H enc _ F0=>lifted8 os started H enc F0)
end Go.Proofs.YtchgnpnbcjflcaaGreat
