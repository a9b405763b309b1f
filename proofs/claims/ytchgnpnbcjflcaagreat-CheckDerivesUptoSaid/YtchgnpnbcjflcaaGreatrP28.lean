/- 'CheckDerives' of bulk at most 1048576: bywaylaw27.CheckDerives answers true for every argument that is of bulk at most 1048576, and leaves what came in as it was. That condition alone. -/
import Derived.Deep.CondSized
import Derived.Test.YtchgnpnbcjflcaaGreatqDe12
set_option linter.unusedSimpArgs false
set_option maxHeartbeats 8000000
set_option linter.unusedVariables false
namespace Go.Proofs.YtchgnpnbcjflcaaGreat
open Go Go.Proofs.Wy Go.Dm
open Go.ChangeShapes Go.WideShapes Go.ChangeAt Go.RowKit
set_option maxRecDepth 100000 in
theorem contract9 (H:Type) (enc:TypeId×Value->H) (W:World) (base:Nat) (args:Array Value) (ds gs:List (DataW H)) (before:List MemPlace)
  (nW:∀(j:Nat) t v,Tryz.f9.params[j]? =some t->args[j]? =some v->Value.okWide Tryz.prog W .any base t v)
  (hW:DataW.Whole enc Tryz.prog Tryz.f9.params.toList Rows.checkDerivesSpec.vars false W args.toList ds gs before)
  (hk:Rows.uptoSmall H (ds++gs)=true) :
  Calls Tryz.prog 9 args W fun e W'=>∃v,e= .returned v/\Rows.checkDerivesSpec.post enc Tryz.prog Tryz.f9 false true false false W args v W':=by
 have hW':=hW;obtain⟨p,q,hA,hV,rfl,_,_⟩:=hW;obtain⟨rfl,rfl⟩:=trodVars_none hV;simp only[bR0]at hW' hk;have hps:Tryz.f9.params.toList=[22,9,46]:=by rw[Tryz.params9]
 rw[hps]at hA;have hw:=GY_ (P:=Tryz.prog) (C:=40) (n:=9) (ts:=[22,9,46]) (shs:=[[.sl 2 40 MZ],Mm,[.sl 1 16 Mm]]) (by omega) hk (by kernel_rfl) (by rfl)
 have hval':∀(j:Nat) t v,([22,9,46]:List TypeId)[j]? =some t->args.toList[j]? =some v->Value.okWide Tryz.prog W .any base t v:=by
  intro j t v h1 h2;refine nW j t v ?_ (by rw[<-eL0];exact h2);rw[Tryz.params9,<-eL0];exact h1
 clear nW hk;obtain⟨das,vT,qM⟩:=LB_ (cur:=fun _ _=>none) (n:=9) (shs:=[[.sl 2 40 MZ],Mm,[.sl 1 16 Mm]]) hval' hA (by kernel_rfl) hw;obtain⟨v0,vs0,d0,ds0,p0,q0,kO,rfl,rfl,h0,r0⟩:=trodAll_cons hA;obtain⟨v1,vs1,d1,ds1,p1,q1,gY,rfl,rfl,h1,r1⟩:=trodAll_cons r0;obtain⟨v2,vs2,d2,ds2,p2,q2,hv2,rfl,rfl,h2,r2⟩:=trodAll_cons r1;obtain⟨rfl,rfl,rfl⟩:=trodAll_nil r2;simp only[Lx]at qM;obtain⟨dd0,_,bQ,rfl,hargs0⟩:=qM
 obtain⟨dd1,_,kY,rfl,hargs1⟩:=hargs0;obtain⟨dd2,_,vW,rfl,rfl⟩:=hargs1;obtain⟨g,rfl,hg⟩:=Al_ bQ;obtain⟨nt,rfl⟩:=eI kY;obtain⟨w,rfl⟩:=Fs_ vW;simp only[show MA Tryz.prog 22=false by kernel_rfl,show MA Tryz.prog 9=false by kernel_rfl,show MA Tryz.prog 46=false by kernel_rfl,aU0,if_false,if_true,List.headD_cons]at vT;exact XV KO_ (by rw[Tryz.params9];intro t ht;simp at ht;(try rcases ht with rfl | rfl | rfl)<;>(try subst ht)<;>exact⟨by kernel_rfl,of_decide_eq_true (by kernel_rfl)⟩) (by kernel_rfl) Tryz.underlying4 rfl rfl hW' vT (NM g nt w (fun r hr=>by have:=hg r hr;omega))
set_option maxRecDepth 100000 in
theorem lifted9 (os:Os) (started:os.Started) (H:Type) (enc:TypeId×Value->H) (F0:Stop.Interp) :
  ReturnsInHanded {} Tryz.checked os 9 .any ((Rows.OpenSpec.upto Rows.checkDerivesSpec).pre6 enc Tryz.prog Tryz.f9 Rows.checkDerivesUptoRow.domain false) (((Rows.OpenSpec.upto Rows.checkDerivesSpec).at F0).post enc Tryz.prog Tryz.f9 false true false false):=by
 refine returnsInHanded_of_cond_sized (C:=Tryz.checked) (s:=Rows.OpenSpec.upto Rows.checkDerivesSpec) (k:=Rows.uptoSmall) rfl own started (by kernel_rfl) Tryz.func9
  (OpenSpec.witness (enc:=enc) (C:=Tryz.checked) (s:=Rows.OpenSpec.upto Rows.checkDerivesSpec) (k:=Rows.uptoSmall) rfl false ⟨#[], #[.slice none 0 0,.string ⟨#[]⟩,.slice none 0 0],[]⟩ 8 (by kernel_rfl) (by kernel_rfl) (by kernel_rfl) (x:=([.nil,.lit (.string []),.nil],[],[])) (by kernel_rfl) (by kernel_rfl) (by kernel_rfl)) ?_
 intro W base args ds gs before nW hW _ hk qH _;exact contract9 H enc W base args ds gs before nW hW hk
set_option maxRecDepth 100000 in
theorem closed9 : joinedFacts Tryz.pinned.checked.prog 9 Tryz.f9 (Rows.OpenSpec.upto Rows.checkDerivesSpec).bare Rows.checkDerivesUptoRow=true:=by
 unfold joinedFacts;refine Ct (Ct (Ct (Ct (Ct (Ct (Ct (Ct (Ct (Ct (Ct (Ct (Ct (Ct (Ct (Ct (Ct (Ct (Ct (Ct (Ct (Ct (Ct (Ct (Ct (Ct (Ct (Ct (Ct (Ct (Ct ?_ ?_) ?_) ?_) ?_) ?_) ?_) ?_) ?_) ?_) ?_) ?_) ?_) ?_) ?_) ?_) ?_) ?_) ?_) ?_) ?_) ?_) ?_) ?_) ?_) ?_) ?_) ?_) ?_) ?_) ?_) ?_
 all_goals (as_aux_lemma=>kernel_rfl)
theorem checkDerives_upto : Rows.CheckDerivesUptoSaid :=
 OpenClaim.holds_of_cond 9 Tryz.f9 rfl rfl rfl rfl rfl rfl rfl ⟨rfl,rfl,rfl,rfl,rfl⟩ rfl rfl rfl rfl rfl (by kernel_rfl) Tryz.func9 closed9
  (of_decide_eq_true (by kernel_rfl)) (by unfold Func.isWrapper;first | (rw[if_pos (by decide +kernel)];kernel_rfl) | (rw[if_neg (by decide +kernel)];exact⟨rfl,rfl⟩))
  (fun os started H enc _ F0=>lifted9 os started H enc F0)
end Go.Proofs.YtchgnpnbcjflcaaGreat
