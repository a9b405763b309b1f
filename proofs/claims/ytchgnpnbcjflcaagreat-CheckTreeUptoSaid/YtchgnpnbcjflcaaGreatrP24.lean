/- 'CheckTree' of bulk at most 1048576: bywaylaw27.CheckTree answers true for every argument that is of bulk at most 1048576, and leaves what came in as it was. That condition alone. -/
import Derived.Deep.CondSized
import Derived.Test.YtchgnpnbcjflcaaGreatqCt12
set_option linter.unusedSimpArgs false
set_option linter.unusedVariables false
namespace Go.Proofs.YtchgnpnbcjflcaaGreat
open Go Go.Dm
open Go.ChangeShapes Go.WideShapes Go.ChangeAt Go.RowKit
set_option maxRecDepth 100000 in
theorem contract5 (H:Type) (enc:TypeId×Value→H) (W:World) (base:Nat) (args:Array Value) (ds gs:List (DataW H)) (before:List MemPlace)
  (hval:∀(j:Nat) t v,Tryz.f5.params[j]? =some t→args[j]? =some v→Value.okWide Tryz.prog W .any base t v)
  (hW:DataW.Whole enc Tryz.prog Tryz.f5.params.toList Rows.checkTreeSpec.vars false W args.toList ds gs before)
  (hk:Rows.uptoSmall H (ds++gs)=true) :
  Calls Tryz.prog 5 args W fun e W'=>∃v,e= .returned v∧Rows.checkTreeSpec.post enc Tryz.prog Tryz.f5 false true false false W args v W':=by
 have hW':=hW;obtain⟨p,q,hA,hV,rfl,_,_⟩:=hW;obtain⟨rfl,rfl⟩:=trodVars_none hV;simp only[bM0]at hW' hk;have hps:Tryz.f5.params.toList=[22,9,46,47]:=by rw[Tryz.params5]
 rw[hps]at hA;have hw:=small_le (P:=Tryz.prog) (C:=40) (n:=9) (ts:=[22,9,46,47]) (shs:=[[.sl 2 40 Ls_],Lq_,[.sl 1 16 Lq_],[.sl 3 24 Lr_]]) (by omega) hk (by kernel_rfl) (by rfl)
 have hval':∀(j:Nat) t v,([22,9,46,47]:List TypeId)[j]? =some t→args.toList[j]? =some v→Value.okWide Tryz.prog W .any base t v:=by
  intro j t v h1 h2;refine hval j t v ?_ (by rw[←eP0];exact h2);rw[Tryz.params5,←eP0];exact h1
 clear hval hk;obtain⟨das,hrd,hargs⟩:=args_rd (cur:=fun _ _=>none) (n:=9) (shs:=[[.sl 2 40 Ls_],Lq_,[.sl 1 16 Lq_],[.sl 3 24 Lr_]]) hval' hA (by kernel_rfl) hw;obtain⟨v0,vs0,d0,ds0,p0,q0,hv0,rfl,rfl,h0,r0⟩:=trodAll_cons hA;obtain⟨v1,vs1,d1,ds1,p1,q1,hv1,rfl,rfl,h1,r1⟩:=trodAll_cons r0;obtain⟨v2,vs2,d2,ds2,p2,q2,hv2,rfl,rfl,h2,r2⟩:=trodAll_cons r1;obtain⟨v3,vs3,d3,ds3,p3,q3,hv3,rfl,rfl,h3,r3⟩:=trodAll_cons r2
 obtain⟨rfl,rfl,rfl⟩:=trodAll_nil r3;simp only[JE_]at hargs;obtain⟨dd0,_,hl0,rfl,hargs0⟩:=hargs;obtain⟨dd1,_,hl1,rfl,hargs1⟩:=hargs0;obtain⟨dd2,_,hl2,rfl,hargs2⟩:=hargs1;obtain⟨dd3,_,hl3,rfl,rfl⟩:=hargs2;obtain⟨g,rfl,hg⟩:=Zz_ hl0;obtain⟨nt,rfl⟩:=VQ_ hl1;obtain⟨w,rfl⟩:=has_strsB hl2;obtain⟨l,rfl⟩:=Zx_ hl3;simp only[show JU_ Tryz.prog 22=false by kernel_rfl,show JU_ Tryz.prog 9=false by kernel_rfl,show JU_ Tryz.prog 46=false by kernel_rfl,show JU_ Tryz.prog 47=false by kernel_rfl,aL0,if_false,if_true,List.headD_cons]at hrd
 exact RM_ laidOut (by rw[Tryz.params5];intro t ht;simp at ht;(try rcases ht with rfl | rfl | rfl | rfl)<;>(try subst ht)<;>exact⟨by kernel_rfl,of_decide_eq_true (by kernel_rfl)⟩) (by kernel_rfl) Tryz.underlying4 rfl rfl hW' hrd (Ni_ g nt w l (fun r hr=>by have:=hg r hr;omega))
set_option maxRecDepth 100000 in
theorem lifted5 (os:Os) (started:os.Started) (H:Type) (enc:TypeId×Value→H) (F0:Stop.Interp) :
  ReturnsInHanded {} Tryz.checked os 5 .any ((Rows.OpenSpec.upto Rows.checkTreeSpec).pre6 enc Tryz.prog Tryz.f5 Rows.checkTreeUptoRow.domain false) (((Rows.OpenSpec.upto Rows.checkTreeSpec).at F0).post enc Tryz.prog Tryz.f5 false true false false):=by
 refine returnsInHanded_of_cond_sized (C:=Tryz.checked) (s:=Rows.OpenSpec.upto Rows.checkTreeSpec) (k:=Rows.uptoSmall) rfl own started (by kernel_rfl) Tryz.func5
  (OpenSpec.witness (enc:=enc) (C:=Tryz.checked) (s:=Rows.OpenSpec.upto Rows.checkTreeSpec) (k:=Rows.uptoSmall) rfl false ⟨#[], #[.slice none 0 0,.string ⟨#[]⟩,.slice none 0 0,.slice none 0 0],[]⟩ 8 (by kernel_rfl) (by kernel_rfl) (by kernel_rfl) (x:=([.nil,.lit (.string []),.nil,.nil],[],[])) (by kernel_rfl) (by kernel_rfl) (by kernel_rfl)) ?_
 intro W base args ds gs before hval hW _ hk hsz _;exact contract5 H enc W base args ds gs before hval hW hk
set_option maxRecDepth 100000 in
set_option maxHeartbeats 20000000 in
theorem closed5 : joinedFacts Tryz.pinned.checked.prog 5 Tryz.f5 (Rows.OpenSpec.upto Rows.checkTreeSpec).bare Rows.checkTreeUptoRow=true:=by
 unfold joinedFacts;refine Ct_ (Ct_ (Ct_ (Ct_ (Ct_ (Ct_ (Ct_ (Ct_ (Ct_ (Ct_ (Ct_ (Ct_ (Ct_ (Ct_ (Ct_ (Ct_ (Ct_ (Ct_ (Ct_ (Ct_ (Ct_ (Ct_ (Ct_ (Ct_ (Ct_ (Ct_ (Ct_ (Ct_ (Ct_ (Ct_ (Ct_ ?_ ?_) ?_) ?_) ?_) ?_) ?_) ?_) ?_) ?_) ?_) ?_) ?_) ?_) ?_) ?_) ?_) ?_) ?_) ?_) ?_) ?_) ?_) ?_) ?_) ?_) ?_) ?_) ?_) ?_) ?_) ?_
 all_goals (as_aux_lemma=>kernel_rfl)
theorem checkTree_upto : Rows.CheckTreeUptoSaid :=
 OpenClaim.holds_of_cond 5 Tryz.f5 rfl rfl rfl rfl rfl rfl rfl ⟨rfl,rfl,rfl,rfl,rfl⟩ rfl rfl rfl rfl rfl (by kernel_rfl) Tryz.func5 closed5
  (of_decide_eq_true (by kernel_rfl)) (by unfold Func.isWrapper;first | (rw[if_pos (by decide +kernel)];kernel_rfl) | (rw[if_neg (by decide +kernel)];exact⟨rfl,rfl⟩))
  (fun os started H enc _ F0=>lifted5 os started H enc F0)
end Go.Proofs.YtchgnpnbcjflcaaGreat
