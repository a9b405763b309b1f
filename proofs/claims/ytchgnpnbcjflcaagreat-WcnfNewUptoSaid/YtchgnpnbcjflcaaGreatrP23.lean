/- 'WcnfNew' of bulk at most 1048576: bywaylaw14.WcnfNew answers true for every argument that is of bulk at most 1048576, and leaves what came in as it was. That condition alone. -/
import Derived.Deep.CondSized
import Derived.Test.YtchgnpnbcjflcaaGreatqCw11
import Derived.Test.YtchgnpnbcjflcaaGreatqCw12
set_option linter.unusedSimpArgs false
set_option linter.unusedVariables false
namespace Go.Proofs.YtchgnpnbcjflcaaGreat
open Go Go.Dm
open Go.ChangeShapes Go.WideShapes Go.ChangeAt Go.RowKit
def HG_ : List Sh:=[.i .i64,.s,.i .i64]
def EO_ : List Sh:=[.s,.sl 3 32 HG_]
theorem LT_ {L:Nat} {ds:List DVal} (h:HasL L HG_ ds):∃x:Nd,ds=dNd x:=by
 simp only[HG_,HasL,HasS]at h
 obtain⟨_,_,rfl,⟨k,rfl⟩,_,_,rfl,⟨s,rfl,_⟩,_,_,rfl,⟨n,rfl⟩,rfl⟩:=h
 exact⟨⟨k,s,n⟩,rfl⟩
theorem Jr_ {L:Nat} {ds:List DVal} (h:HasL L [.sl 2 40 EO_] ds):∃g:List Rul,ds=[AC_ g]∧g.length*40≤L∧∀r∈g,r.b.length*32≤L:=by
 simp only[HasL,HasS]at h
 obtain⟨_,_,rfl,⟨es,rfl,hz,he⟩,rfl⟩:=h
 have hq:∀e∈es,∃x:{r:Rul//r.b.length*32≤L},e=dRul x.1:=by
  intro e h
  have h:=he e h
  simp only[EO_,HasL,HasS]at h
  obtain⟨_,_,rfl,⟨s,rfl,_⟩,_,_,rfl,⟨es,rfl,hz,he⟩,rfl⟩:=h
  obtain⟨l,rfl⟩:=FK_ (fun e h=>LT_ (he e h))
  exact⟨⟨⟨s,l⟩,by simpa using hz⟩,rfl⟩
 obtain⟨l,rfl⟩:=FK_ (f:=fun x:{r:Rul//r.b.length*32≤L}=>dRul x.1) hq
 refine⟨l.map (·.1),by simp[Function.comp_def],by simpa using hz,fun r hr=> ?_⟩
 obtain⟨x,_,rfl⟩:=aW0.1 hr
 exact x.2
set_option maxRecDepth 100000 in
theorem contract4 (H:Type) (enc:TypeId×Value→H) (W:World) (base:Nat) (args:Array Value) (ds gs:List (DataW H)) (before:List MemPlace)
  (hval:∀(j:Nat) t v,Tryz.f4.params[j]? =some t→args[j]? =some v→Value.okWide Tryz.prog W .any base t v)
  (hW:DataW.Whole enc Tryz.prog Tryz.f4.params.toList Rows.wcnfNewSpec.vars false W args.toList ds gs before)
  (hk:Rows.uptoSmall H (ds++gs)=true) :
  Calls Tryz.prog 4 args W fun e W'=>∃v,e= .returned v∧Rows.wcnfNewSpec.post enc Tryz.prog Tryz.f4 false true false false W args v W':=by
 have hW':=hW
 obtain⟨p,q,hA,hV,rfl,_,_⟩:=hW
 obtain⟨rfl,rfl⟩:=trodVars_none hV
 simp only[bK0]at hW' hk
 have hps:Tryz.f4.params.toList=[22]:=by rw[Tryz.params4]
 rw[hps]at hA
 have hw:=Uf_ (P:=Tryz.prog) (C:=40) (n:=9) (ts:=[22]) (shs:=[[.sl 2 40 EO_]]) (by omega) hk (by kernel_rfl) (by rfl)
 have hval':∀(j:Nat) t v,([22]:List TypeId)[j]? =some t→args.toList[j]? =some v→Value.okWide Tryz.prog W .any base t v:=by
  intro j t v h1 h2
  refine hval j t v ?_ (by rw[←dO0];exact h2)
  rw[Tryz.params4,←dO0];exact h1
 clear hval hk
 obtain⟨das,hrd,hargs⟩:=args_rd (cur:=fun _ _=>none) (n:=9) (shs:=[[.sl 2 40 EO_]]) hval' hA (by kernel_rfl) hw
 obtain⟨v0,vs0,d0,ds0,p0,q0,hv0,rfl,rfl,h0,r0⟩:=trodAll_cons hA
 obtain⟨rfl,rfl,rfl⟩:=trodAll_nil r0
 simp only[Ib_]at hargs
 obtain⟨dd0,_,hl0,rfl,rfl⟩:=hargs
 obtain⟨g,rfl,hgl,hg⟩:=Jr_ hl0
 simp only[show Ny_ Tryz.prog 22=false by kernel_rfl,aQ0,if_false,List.headD_cons]at hrd
 exact JL_ laidOut (by rw[Tryz.params4];intro t ht;simp at ht;(try rcases ht with rfl | rfl)<;>(try subst ht)<;>exact⟨by kernel_rfl,of_decide_eq_true (by kernel_rfl)⟩) (by kernel_rfl) Tryz.underlying4 rfl rfl hW' hrd (MK_ g (fun r hr=>by have:=hg r hr;omega) (by omega))
set_option maxRecDepth 100000 in
theorem lifted4 (os:Os) (started:os.Started) (H:Type) (enc:TypeId×Value→H) (F:Stop.Interp) :
  ReturnsInHanded {} Tryz.checked os 4 .any ((Rows.OpenSpec.upto Rows.wcnfNewSpec).pre6 enc Tryz.prog Tryz.f4 Rows.wcnfNewUptoRow.domain false) (((Rows.OpenSpec.upto Rows.wcnfNewSpec).at F).post enc Tryz.prog Tryz.f4 false true false false):=by
 refine returnsInHanded_of_cond_sized (C:=Tryz.checked) (s:=Rows.OpenSpec.upto Rows.wcnfNewSpec) (k:=Rows.uptoSmall) rfl own started (by kernel_rfl) Tryz.func4
  (OpenSpec.witness (enc:=enc) (C:=Tryz.checked) (s:=Rows.OpenSpec.upto Rows.wcnfNewSpec) (k:=Rows.uptoSmall) rfl false ⟨#[], #[.slice none 0 0],[]⟩ 8 (by kernel_rfl) (by kernel_rfl) (by kernel_rfl) (x:=([.nil],[],[])) (by kernel_rfl) (by kernel_rfl) (by kernel_rfl)) ?_
 intro W base args ds gs before hval hW _ hk hsz _
 exact contract4 H enc W base args ds gs before hval hW hk
theorem AX_ {a b:Bool} (h1:a=true) (h2:b=true):(a&&b)=true:=by rw[h1,h2];rfl
set_option maxRecDepth 100000 in
set_option maxHeartbeats 20000000 in
theorem closed4 : joinedFacts Tryz.pinned.checked.prog 4 Tryz.f4 (Rows.OpenSpec.upto Rows.wcnfNewSpec).bare Rows.wcnfNewUptoRow=true:=by
 unfold joinedFacts
 refine AX_ (AX_ (AX_ (AX_ (AX_ (AX_ (AX_ (AX_ (AX_ (AX_ (AX_ (AX_ (AX_ (AX_ (AX_ (AX_ (AX_ (AX_ (AX_ (AX_ (AX_ (AX_ (AX_ (AX_ (AX_ (AX_ (AX_ (AX_ (AX_ (AX_ (AX_ ?_ ?_) ?_) ?_) ?_) ?_) ?_) ?_) ?_) ?_) ?_) ?_) ?_) ?_) ?_) ?_) ?_) ?_) ?_) ?_) ?_) ?_) ?_) ?_) ?_) ?_) ?_) ?_) ?_) ?_) ?_) ?_
 all_goals (as_aux_lemma=>kernel_rfl)
theorem wcnfNew_upto : Rows.WcnfNewUptoSaid :=
 OpenClaim.holds_of_cond 4 Tryz.f4 rfl rfl rfl rfl rfl rfl rfl ⟨rfl,rfl,rfl,rfl,rfl⟩ rfl rfl rfl rfl rfl (by kernel_rfl) Tryz.func4 closed4
  (of_decide_eq_true (by kernel_rfl)) (by unfold Func.isWrapper;first | (rw[if_pos (by decide +kernel)];kernel_rfl) | (rw[if_neg (by decide +kernel)];exact⟨rfl,rfl⟩))
  (fun os started H enc _ F=>lifted4 os started H enc F)
end Go.Proofs.YtchgnpnbcjflcaaGreat
