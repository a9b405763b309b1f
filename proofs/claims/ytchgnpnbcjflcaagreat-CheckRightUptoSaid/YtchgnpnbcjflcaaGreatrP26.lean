/- 'CheckRight' of bulk at most 1048576: bywaylaw27.CheckRight answers true for every argument that is of bulk at most 1048576, and leaves what came in as it was. That condition alone. -/
import Derived.Deep.CondSized
import Derived.Test.YtchgnpnbcjflcaaGreatqCr13
set_option linter.unusedSimpArgs false
set_option maxHeartbeats 8000000
set_option linter.unusedVariables false
namespace Go.Proofs.YtchgnpnbcjflcaaGreat
open Go Go.Proofs.Wy Go.Dm
open Go.ChangeShapes Go.WideShapes Go.ChangeAt Go.RowKit
set_option maxRecDepth 100000 in
theorem contract7 (H:Type) (enc:TypeId×Value->H) (W:World) (base:Nat) (args:Array Value) (ds gs:List (DataW H)) (before:List MemPlace)
  (rE:∀(j:Nat) t v,Tryz.f7.params[j]? =some t->args[j]? =some v->Value.okWide Tryz.prog W .any base t v)
  (hW:DataW.Whole enc Tryz.prog Tryz.f7.params.toList Rows.checkRightSpec.vars false W args.toList ds gs before)
  (hk:Rows.uptoSmall H (ds++gs)=true) :
  Calls Tryz.prog 7 args W fun e W'=>∃v,e= .returned v/\Rows.checkRightSpec.post enc Tryz.prog Tryz.f7 false true false false W args v W':=by
 have hW':=hW;obtain⟨p,q,hA,hV,rfl,_,_⟩:=hW;obtain⟨rfl,rfl⟩:=trodVars_none hV;simp only[bM0]at hW' hk;have dK:Tryz.f7.params.toList=[60]:=by rw[Tryz.params7]
 rw[dK]at hA;have hw:=NA_ (P:=Tryz.prog) (C:=48) (n:=9) (ts:=[60]) (shs:=[eN]) (by omega) hk (by kernel_rfl) (by rfl)
 have hval':∀(j:Nat) t v,([60]:List TypeId)[j]? =some t->args.toList[j]? =some v->Value.okWide Tryz.prog W .any base t v:=by
  intro j t v h1 h2;refine rE j t v ?_ (by rw[<-fA0];exact h2);rw[Tryz.params7,<-fA0];exact h1
 clear rE hk;obtain⟨das,zK,qF⟩:=RR_ (cur:=fun _ _=>none) (n:=9) (shs:=[eN]) hval' hA (by kernel_rfl) hw;obtain⟨v0,vs0,d0,ds0,p0,q0,kA,rfl,rfl,h0,r0⟩:=trodAll_cons hA;obtain⟨rfl,rfl,rfl⟩:=trodAll_nil r0;simp only[NP]at qF;obtain⟨dd0,_,mI,rfl,rfl⟩:=qF;obtain⟨g,d,nt,a,b,way,rfl,hg⟩:=OZ_ mI;simp only[show VL Tryz.prog 60=true by kernel_rfl,aK0,if_false,if_true,List.headD_cons]at zK;exact lI Rq_ (by rw[Tryz.params7];intro t ht;simp at ht;(try rcases ht with rfl)<;>(try subst ht)<;>exact⟨by kernel_rfl,of_decide_eq_true (by kernel_rfl)⟩) (by kernel_rfl) Tryz.underlying4 rfl rfl hW' zK (Tr g d nt a b way (fun r hr=>by have:=hg r hr;omega))
set_option maxRecDepth 100000 in
theorem lifted7 (os:Os) (started:os.Started) (H:Type) (enc:TypeId×Value->H) (F0:Stop.Interp) :
  ReturnsInHanded {} Tryz.checked os 7 .any ((Rows.OpenSpec.upto Rows.checkRightSpec).pre6 enc Tryz.prog Tryz.f7 Rows.checkRightUptoRow.domain false) (((Rows.OpenSpec.upto Rows.checkRightSpec).at F0).post enc Tryz.prog Tryz.f7 false true false false):=by
 refine returnsInHanded_of_cond_sized (C:=Tryz.checked) (s:=Rows.OpenSpec.upto Rows.checkRightSpec) (k:=Rows.uptoSmall) rfl own started (by kernel_rfl) Tryz.func7
  (OpenSpec.witness (enc:=enc) (C:=Tryz.checked) (s:=Rows.OpenSpec.upto Rows.checkRightSpec) (k:=Rows.uptoSmall) rfl false ⟨#[], #[.agg #[.slice none 0 0,.slice none 0 0,.slice none 0 0,.string ⟨#[]⟩,.string ⟨#[]⟩,.string ⟨#[]⟩,.slice none 0 0]],[]⟩ 8 (by kernel_rfl) (by kernel_rfl) (by kernel_rfl) (x:=([.agg [.nil,.agg [.nil,.nil],.lit (.string []),.lit (.string []),.lit (.string []),.nil]],[],[])) (by kernel_rfl) (by kernel_rfl) (by kernel_rfl)) ?_
 intro W base args ds gs before rE hW _ hk qM _;exact contract7 H enc W base args ds gs before rE hW hk
set_option maxRecDepth 100000 in
theorem closed7 : joinedFacts Tryz.pinned.checked.prog 7 Tryz.f7 (Rows.OpenSpec.upto Rows.checkRightSpec).bare Rows.checkRightUptoRow=true:=by
 unfold joinedFacts;refine Da (Da (Da (Da (Da (Da (Da (Da (Da (Da (Da (Da (Da (Da (Da (Da (Da (Da (Da (Da (Da (Da (Da (Da (Da (Da (Da (Da (Da (Da (Da ?_ ?_) ?_) ?_) ?_) ?_) ?_) ?_) ?_) ?_) ?_) ?_) ?_) ?_) ?_) ?_) ?_) ?_) ?_) ?_) ?_) ?_) ?_) ?_) ?_) ?_) ?_) ?_) ?_) ?_) ?_) ?_
 all_goals (as_aux_lemma=>kernel_rfl)
theorem checkRight_upto : Rows.CheckRightUptoSaid :=
 OpenClaim.holds_of_cond 7 Tryz.f7 rfl rfl rfl rfl rfl rfl rfl ⟨rfl,rfl,rfl,rfl,rfl⟩ rfl rfl rfl rfl rfl (by kernel_rfl) Tryz.func7 closed7
  (of_decide_eq_true (by kernel_rfl)) (by unfold Func.isWrapper;first | (rw[if_pos (by decide +kernel)];kernel_rfl) | (rw[if_neg (by decide +kernel)];exact⟨rfl,rfl⟩))
  (fun os started H enc _ F0=>lifted7 os started H enc F0)
end Go.Proofs.YtchgnpnbcjflcaaGreat
