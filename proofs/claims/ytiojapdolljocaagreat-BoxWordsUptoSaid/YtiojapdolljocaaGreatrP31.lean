/- 'BoxWords' of bulk at most 1048576: bywaylaw10.BoxWords answers true for every argument that is of bulk at most 1048576, and leaves what came in as it was. That condition alone. -/
import Derived.Deep.CondSized
import Derived.Test.YtiojapdolljocaaGreatqBw35
import Derived.Test.YtiojapdolljocaaGreatqBw36
set_option linter.unusedSimpArgs false
set_option maxHeartbeats 8000000
set_option linter.unusedVariables false
namespace Go.Proofs.YtiojapdolljocaaGreat
open Go Go.Proofs.Wy Go.Dm
open Go.ChangeShapes Go.WideShapes Go.ChangeAt Go.RowKit
set_option maxRecDepth 100000 in
theorem contract6 (H:Type) (enc:TypeId×Value->H) (W:World) (base:Nat) (args:Array Value) (ds gs:List (DataW H)) (before:List MemPlace)
  (dR:∀(j:Nat) t v,Tryz.f6.params[j]? =some t->args[j]? =some v->Value.okWide Tryz.prog W .any base t v)
  (hW:DataW.Whole enc Tryz.prog Tryz.f6.params.toList Rows.boxWordsSpec.vars false W args.toList ds gs before)
  (hk:Rows.uptoSmall H (ds++gs)=true) :
  Calls Tryz.prog 6 args W fun e W'=>∃v,e= .returned v/\Rows.boxWordsSpec.post enc Tryz.prog Tryz.f6 false true false false W args v W':=by
 have hW':=hW;obtain⟨p,q,hA,hV,rfl,_,_⟩:=hW;obtain⟨rfl,rfl⟩:=trodVars_none hV;simp only[bO0]at hW' hk;have mY:Tryz.f6.params.toList=[22,53,73]:=by rw[Tryz.params6]
 rw[mY]at hA;have hw:=xT (P:=Tryz.prog) (C:=40) (n:=9) (ts:=[22,53,73]) (shs:=[[.sl 2 40 OL],[.sl 1 24 ON],[.sl 2 16 Pz]]) (by omega) hk (by kernel_rfl) (by rfl)
 have hval':∀(j:Nat) t v,([22,53,73]:List TypeId)[j]? =some t->args.toList[j]? =some v->Value.okWide Tryz.prog W .any base t v:=by
  intro j t v h1 h2;refine dR j t v ?_ (by rw[<-eC0];exact h2);rw[Tryz.params6,<-eC0];exact h1
 clear dR hk;obtain⟨das,vW,qW⟩:=DA_ (cur:=fun _ _=>none) (n:=9) (shs:=[[.sl 2 40 OL],[.sl 1 24 ON],[.sl 2 16 Pz]]) hval' hA (by kernel_rfl) hw;obtain⟨v0,vs0,d0,ds0,p0,q0,yJ,rfl,rfl,h0,r0⟩:=trodAll_cons hA;obtain⟨v1,vs1,d1,ds1,p1,q1,fQ,rfl,rfl,h1,r1⟩:=trodAll_cons r0;obtain⟨v2,vs2,d2,ds2,p2,q2,hv2,rfl,rfl,h2,r2⟩:=trodAll_cons r1;obtain⟨rfl,rfl,rfl⟩:=trodAll_nil r2;simp only[JX]at qW;obtain⟨dd0,_,kI,rfl,hargs0⟩:=qW
 obtain⟨dd1,_,jV,rfl,hargs1⟩:=hargs0;obtain⟨dd2,_,vR,rfl,rfl⟩:=hargs1;obtain⟨g,rfl,hgl,hg⟩:=aI kI;obtain⟨ls,rfl,hll,hls⟩:=Xk jV;obtain⟨w,rfl⟩:=tJ vR;simp only[show KW Tryz.prog 22=false by kernel_rfl,show KW Tryz.prog 53=false by kernel_rfl,show KW Tryz.prog 73=false by kernel_rfl,bE0,if_false,if_true,List.headD_cons]at vW;exact UF Db_ (by rw[Tryz.params6];intro t ht;simp at ht;(try rcases ht with rfl | rfl | rfl)<;>(try subst ht)<;>exact⟨by kernel_rfl,of_decide_eq_true (by kernel_rfl)⟩) (by kernel_rfl) Tryz.underlying4 rfl rfl hW' vW (Sk g ls w (fun r hr=>by have:=hg r hr;omega) (fun l hl=>by have:=hls l hl;omega) (by omega) (by omega))
set_option maxRecDepth 100000 in
theorem lifted6 (os:Os) (started:os.Started) (H:Type) (enc:TypeId×Value->H) (F0:Stop.Interp) :
  ReturnsInHanded {} Tryz.checked os 6 .any ((Rows.OpenSpec.upto Rows.boxWordsSpec).pre6 enc Tryz.prog Tryz.f6 Rows.boxWordsUptoRow.domain false) (((Rows.OpenSpec.upto Rows.boxWordsSpec).at F0).post enc Tryz.prog Tryz.f6 false true false false):=by
 refine returnsInHanded_of_cond_sized (C:=Tryz.checked) (s:=Rows.OpenSpec.upto Rows.boxWordsSpec) (k:=Rows.uptoSmall) rfl own started (by kernel_rfl) Tryz.func6
  (OpenSpec.witness (enc:=enc) (C:=Tryz.checked) (s:=Rows.OpenSpec.upto Rows.boxWordsSpec) (k:=Rows.uptoSmall) rfl false ⟨#[], #[.slice none 0 0,.slice none 0 0,.slice none 0 0],[]⟩ 8 (by kernel_rfl) (by kernel_rfl) (by kernel_rfl) (x:=([.nil,.nil,.nil],[],[])) (by kernel_rfl) (by kernel_rfl) (by kernel_rfl)) ?_
 intro W base args ds gs before dR hW _ hk qD _;exact contract6 H enc W base args ds gs before dR hW hk
set_option maxRecDepth 100000 in
theorem closed6 : joinedFacts Tryz.pinned.checked.prog 6 Tryz.f6 (Rows.OpenSpec.upto Rows.boxWordsSpec).bare Rows.boxWordsUptoRow=true:=by
 unfold joinedFacts;refine Cg (Cg (Cg (Cg (Cg (Cg (Cg (Cg (Cg (Cg (Cg (Cg (Cg (Cg (Cg (Cg (Cg (Cg (Cg (Cg (Cg (Cg (Cg (Cg (Cg (Cg (Cg (Cg (Cg (Cg (Cg ?_ ?_) ?_) ?_) ?_) ?_) ?_) ?_) ?_) ?_) ?_) ?_) ?_) ?_) ?_) ?_) ?_) ?_) ?_) ?_) ?_) ?_) ?_) ?_) ?_) ?_) ?_) ?_) ?_) ?_) ?_) ?_
 all_goals (as_aux_lemma=>kernel_rfl)
theorem boxWords_upto : Rows.BoxWordsUptoSaid :=
 OpenClaim.holds_of_cond 6 Tryz.f6 rfl rfl rfl rfl rfl rfl rfl ⟨rfl,rfl,rfl,rfl,rfl⟩ rfl rfl rfl rfl rfl (by kernel_rfl) Tryz.func6 closed6
  (of_decide_eq_true (by kernel_rfl)) (by unfold Func.isWrapper;first | (rw[if_pos (by decide +kernel)];kernel_rfl) | (rw[if_neg (by decide +kernel)];exact⟨rfl,rfl⟩))
  (fun os started H enc _ F0=>lifted6 os started H enc F0)
end Go.Proofs.YtiojapdolljocaaGreat
