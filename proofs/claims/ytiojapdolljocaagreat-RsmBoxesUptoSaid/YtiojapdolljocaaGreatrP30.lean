/- 'RsmBoxes' of bulk at most 1048576: bywaylaw11.RsmBoxes answers true for every argument that is of bulk at most 1048576, and leaves what came in as it was. That condition alone. -/
import Derived.Deep.CondSized
import Derived.Test.YtiojapdolljocaaGreatqBo35
set_option linter.unusedSimpArgs false
set_option maxHeartbeats 8000000
set_option linter.unusedVariables false
namespace Go.Proofs.YtiojapdolljocaaGreat
open Go Go.Proofs.Wy Go.Dm
open Go.ChangeShapes Go.WideShapes Go.ChangeAt Go.RowKit
set_option maxRecDepth 100000 in
theorem contract4 (H:Type) (enc:TypeId×Value->H) (W:World) (base:Nat) (args:Array Value) (ds gs:List (DataW H)) (before:List MemPlace)
  (dS:∀(j:Nat) t v,Tryz.f4.params[j]? =some t->args[j]? =some v->Value.okWide Tryz.prog W .any base t v)
  (hW:DataW.Whole enc Tryz.prog Tryz.f4.params.toList Rows.rsmBoxesSpec.vars false W args.toList ds gs before)
  (hk:Rows.uptoSmall H (ds++gs)=true) :
  Calls Tryz.prog 4 args W fun e W'=>∃v,e= .returned v/\Rows.rsmBoxesSpec.post enc Tryz.prog Tryz.f4 false true false false W args v W':=by
 have hW':=hW;obtain⟨p,q,hA,hV,rfl,_,_⟩:=hW;obtain⟨rfl,rfl⟩:=trodVars_none hV;simp only[bX0]at hW' hk;have mN:Tryz.f4.params.toList=[22]:=by rw[Tryz.params4]
 rw[mN]at hA;have hw:=uX (P:=Tryz.prog) (C:=48) (n:=9) (ts:=[22]) (shs:=[[.sl 2 40 Oe]]) (by omega) hk (by kernel_rfl) (by rfl)
 have hval':∀(j:Nat) t v,([22]:List TypeId)[j]? =some t->args.toList[j]? =some v->Value.okWide Tryz.prog W .any base t v:=by
  intro j t v h1 h2;refine dS j t v ?_ (by rw[<-dZ0];exact h2);rw[Tryz.params4,<-dZ0];exact h1
 clear dS hk;obtain⟨das,wT,qN⟩:=Dv_ (cur:=fun _ _=>none) (n:=9) (shs:=[[.sl 2 40 Oe]]) hval' hA (by kernel_rfl) hw;obtain⟨v0,vs0,d0,ds0,p0,q0,kI,rfl,rfl,h0,r0⟩:=trodAll_cons hA;obtain⟨rfl,rfl,rfl⟩:=trodAll_nil r0;simp only[JF]at qN;obtain⟨dd0,_,gL,rfl,rfl⟩:=qN;obtain⟨g,rfl,hgl,hg⟩:=ZB gL;simp only[show PK Tryz.prog 22=false by kernel_rfl,bH0,if_false,if_true,List.headD_cons]at wT;exact Ub CQ_ (by rw[Tryz.params4];intro t ht;simp at ht;(try rcases ht with rfl)<;>(try subst ht)<;>exact⟨by kernel_rfl,of_decide_eq_true (by kernel_rfl)⟩) (by kernel_rfl) Tryz.underlying4 rfl rfl hW' wT (Re g (fun r hr=>by have:=hg r hr;omega) (by omega))
set_option maxRecDepth 100000 in
theorem lifted4 (os:Os) (started:os.Started) (H:Type) (enc:TypeId×Value->H) (F0:Stop.Interp) :
  ReturnsInHanded {} Tryz.checked os 4 .any ((Rows.OpenSpec.upto Rows.rsmBoxesSpec).pre6 enc Tryz.prog Tryz.f4 Rows.rsmBoxesUptoRow.domain false) (((Rows.OpenSpec.upto Rows.rsmBoxesSpec).at F0).post enc Tryz.prog Tryz.f4 false true false false):=by
 refine returnsInHanded_of_cond_sized (C:=Tryz.checked) (s:=Rows.OpenSpec.upto Rows.rsmBoxesSpec) (k:=Rows.uptoSmall) rfl own started (by kernel_rfl) Tryz.func4
  (OpenSpec.witness (enc:=enc) (C:=Tryz.checked) (s:=Rows.OpenSpec.upto Rows.rsmBoxesSpec) (k:=Rows.uptoSmall) rfl false ⟨#[], #[.slice none 0 0],[]⟩ 8 (by kernel_rfl) (by kernel_rfl) (by kernel_rfl) (x:=([.nil],[],[])) (by kernel_rfl) (by kernel_rfl) (by kernel_rfl)) ?_
 intro W base args ds gs before dS hW _ hk qF _;exact contract4 H enc W base args ds gs before dS hW hk
set_option maxRecDepth 100000 in
theorem closed4 : joinedFacts Tryz.pinned.checked.prog 4 Tryz.f4 (Rows.OpenSpec.upto Rows.rsmBoxesSpec).bare Rows.rsmBoxesUptoRow=true:=by
 unfold joinedFacts;refine Cb (Cb (Cb (Cb (Cb (Cb (Cb (Cb (Cb (Cb (Cb (Cb (Cb (Cb (Cb (Cb (Cb (Cb (Cb (Cb (Cb (Cb (Cb (Cb (Cb (Cb (Cb (Cb (Cb (Cb (Cb ?_ ?_) ?_) ?_) ?_) ?_) ?_) ?_) ?_) ?_) ?_) ?_) ?_) ?_) ?_) ?_) ?_) ?_) ?_) ?_) ?_) ?_) ?_) ?_) ?_) ?_) ?_) ?_) ?_) ?_) ?_) ?_
 all_goals (as_aux_lemma=>kernel_rfl)
theorem rsmBoxes_upto : Rows.RsmBoxesUptoSaid :=
 OpenClaim.holds_of_cond 4 Tryz.f4 rfl rfl rfl rfl rfl rfl rfl ⟨rfl,rfl,rfl,rfl,rfl⟩ rfl rfl rfl rfl rfl (by kernel_rfl) Tryz.func4 closed4
  (of_decide_eq_true (by kernel_rfl)) (by unfold Func.isWrapper;first | (rw[if_pos (by decide +kernel)];kernel_rfl) | (rw[if_neg (by decide +kernel)];exact⟨rfl,rfl⟩))
  (fun os started H enc _ F0=>lifted4 os started H enc F0)
end Go.Proofs.YtiojapdolljocaaGreat
