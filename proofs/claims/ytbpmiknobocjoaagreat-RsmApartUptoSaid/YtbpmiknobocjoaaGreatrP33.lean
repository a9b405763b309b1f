/- 'RsmApart' of bulk at most 1048576: bywaylaw11.RsmApart answers true for every argument that is of bulk at most 1048576, and leaves what came in as it was. That condition alone. -/
import Derived.Deep.CondSized
import Derived.Test.YtbpmiknobocjoaaGreatqAp41
import Derived.Test.YtbpmiknobocjoaaGreatqAp42
set_option linter.unusedSimpArgs false
set_option maxHeartbeats 8000000
set_option linter.unusedVariables false
namespace Go.Proofs.YtbpmiknobocjoaaGreat
open Go Go.Proofs.Wy Go.Dm
open Go.ChangeShapes Go.WideShapes Go.ChangeAt Go.RowKit
set_option maxRecDepth 100000 in
theorem contract3 (H:Type) (enc:TypeId×Value->H) (W:World) (base:Nat) (args:Array Value) (ds gs:List (DataW H)) (before:List MemPlace)
  (mR:∀(j:Nat) t v,Tryz.f3.params[j]? =some t->args[j]? =some v->Value.okWide Tryz.prog W .any base t v)
  (hW:DataW.Whole enc Tryz.prog Tryz.f3.params.toList Rows.rsmApartSpec.vars false W args.toList ds gs before)
  (hk:Rows.uptoSmall H (ds++gs)=true) :
  Calls Tryz.prog 3 args W fun e W'=>∃v,e= .returned v/\Rows.rsmApartSpec.post enc Tryz.prog Tryz.f3 false true false false W args v W':=by
 have hW':=hW;obtain⟨p,q,hA,hV,rfl,_,_⟩:=hW;obtain⟨rfl,rfl⟩:=trodVars_none hV;simp only[bR0]at hW' hk;have bM:Tryz.f3.params.toList=[22,3]:=by rw[Tryz.params3]
 rw[bM]at hA;have hw:=Cy_ (P:=Tryz.prog) (C:=48) (n:=9) (ts:=[22,3]) (shs:=[[.sl 2 40 PM],[.i .i64]]) (by omega) hk (by kernel_rfl) (by rfl)
 have hval':∀(j:Nat) t v,([22,3]:List TypeId)[j]? =some t->args.toList[j]? =some v->Value.okWide Tryz.prog W .any base t v:=by
  intro j t v h1 h2;refine mR j t v ?_ (by rw[<-eH0];exact h2);rw[Tryz.params3,<-eH0];exact h1
 clear mR hk;obtain⟨das,vX,qA⟩:=Gj_ (cur:=fun _ _=>none) (n:=9) (shs:=[[.sl 2 40 PM],[.i .i64]]) hval' hA (by kernel_rfl) hw;obtain⟨v0,vs0,d0,ds0,p0,q0,kN,rfl,rfl,h0,r0⟩:=trodAll_cons hA;obtain⟨v1,vs1,d1,ds1,p1,q1,fT,rfl,rfl,h1,r1⟩:=trodAll_cons r0;obtain⟨rfl,rfl,rfl⟩:=trodAll_nil r1;simp only[Ll]at qA;obtain⟨dd0,_,fC,rfl,hargs0⟩:=qA;obtain⟨dd1,_,kX,rfl,rfl⟩:=hargs0;obtain⟨g,rfl,hgl,hg⟩:=iZ fC;obtain⟨n,rfl⟩:=DM_ kX
 simp only[show Ow Tryz.prog 22=false by kernel_rfl,show Ow Tryz.prog 3=false by kernel_rfl,aQ0,if_false,if_true,List.headD_cons]at vX;exact VN FN_ (by rw[Tryz.params3];intro t ht;simp at ht;(try rcases ht with rfl | rfl)<;>(try subst ht)<;>exact⟨by kernel_rfl,of_decide_eq_true (by kernel_rfl)⟩) (by kernel_rfl) Tryz.underlying4 rfl rfl hW' vX (SU g n (fun r hr=>by have:=hg r hr;omega) (by omega))
set_option maxRecDepth 100000 in
theorem lifted3 (os:Os) (started:os.Started) (H:Type) (enc:TypeId×Value->H) (F0:Stop.Interp) :
  ReturnsInHanded {} Tryz.checked os 3 .any ((Rows.OpenSpec.upto Rows.rsmApartSpec).pre6 enc Tryz.prog Tryz.f3 Rows.rsmApartUptoRow.domain false) (((Rows.OpenSpec.upto Rows.rsmApartSpec).at F0).post enc Tryz.prog Tryz.f3 false true false false):=by
 refine returnsInHanded_of_cond_sized (C:=Tryz.checked) (s:=Rows.OpenSpec.upto Rows.rsmApartSpec) (k:=Rows.uptoSmall) rfl own started (by kernel_rfl) Tryz.func3
  (OpenSpec.witness (enc:=enc) (C:=Tryz.checked) (s:=Rows.OpenSpec.upto Rows.rsmApartSpec) (k:=Rows.uptoSmall) rfl false ⟨#[], #[.slice none 0 0,.int .i64 0],[]⟩ 8 (by kernel_rfl) (by kernel_rfl) (by kernel_rfl) (x:=([.nil,.lit (.int .i64 0)],[],[])) (by kernel_rfl) (by kernel_rfl) (by kernel_rfl)) ?_
 intro W base args ds gs before mR hW _ hk qI _;exact contract3 H enc W base args ds gs before mR hW hk
set_option maxRecDepth 100000 in
theorem closed3 : joinedFacts Tryz.pinned.checked.prog 3 Tryz.f3 (Rows.OpenSpec.upto Rows.rsmApartSpec).bare Rows.rsmApartUptoRow=true:=by
 unfold joinedFacts;refine Cj (Cj (Cj (Cj (Cj (Cj (Cj (Cj (Cj (Cj (Cj (Cj (Cj (Cj (Cj (Cj (Cj (Cj (Cj (Cj (Cj (Cj (Cj (Cj (Cj (Cj (Cj (Cj (Cj (Cj (Cj ?_ ?_) ?_) ?_) ?_) ?_) ?_) ?_) ?_) ?_) ?_) ?_) ?_) ?_) ?_) ?_) ?_) ?_) ?_) ?_) ?_) ?_) ?_) ?_) ?_) ?_) ?_) ?_) ?_) ?_) ?_) ?_
 all_goals (as_aux_lemma=>kernel_rfl)
theorem rsmApart_upto : Rows.RsmApartUptoSaid :=
 OpenClaim.holds_of_cond 3 Tryz.f3 rfl rfl rfl rfl rfl rfl rfl ⟨rfl,rfl,rfl,rfl,rfl⟩ rfl rfl rfl rfl rfl (by kernel_rfl) Tryz.func3 closed3
  (of_decide_eq_true (by kernel_rfl)) (by unfold Func.isWrapper;first | (rw[if_pos (by decide +kernel)];kernel_rfl) | (rw[if_neg (by decide +kernel)];exact⟨rfl,rfl⟩))
  (fun os started H enc _ F0=>lifted3 os started H enc F0)
end Go.Proofs.YtbpmiknobocjoaaGreat
