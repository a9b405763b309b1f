/- Parts of a proof, laid together: EnF, EnG, EnH, EnI, EnI1, EnI2. -/
import Derived.Sort.LoopGhostIn
import Derived.RangeFuncCalls
import Derived.RangeFuncLeaves
import Derived.OrdersIn
import Derived.Orders
import Derived.Laws.AppendOwn
import Derived.Laws.OwnMore
import Derived.Deep.DeepAppendWide
import Derived.Laws.MakeOwn
import Derived.Test.YtchgnpnbcjflcaaGreatqDe1
set_option linter.unusedSimpArgs false
set_option maxHeartbeats 8000000
set_option linter.unusedVariables false
set_option linter.unusedSectionVars false
section
namespace Go.Dm
variable [DMode]
def wd (ro:Option Nat):Fence:={ fn:=fun _=>True,depth:=none,alive:=false,round:=ro }
theorem TU {P:Program} {f:FuncId} {args:Array Value} {w:World} {R:Ending->World->Prop} (ro:Option Nat) (n:Nat) (h:Calls P f args w R):CallsIn (wd ro) n P f args w R:=by
 have h:=(callsIn_wide (n:=n)).2 h
 cases ro with
 | none=>exact h
 | some l=>exact CallsIn.inRound l h
section
variable (P : Program) (B : Base)
def QQ (Q:Exit->DS->Prop):Exit->Act->World->Prop:=fun e a w=>∃s loc,Q e s/\Rel B s a w loc
def DW (c:Code) (Q:Exit->DS->Prop) (s:DS):Prop:=∀a w loc,Rel B s a w loc->c.wpIn (wd B.ro) 0 P (QQ B Q) a w
def JN_ (K:DS->Prop) (Q:Exit->DS->Prop):Exit->DS->Prop
 | .normal,s=>K s
 | e,s=>Q e s
def Bh_ (id:Nat) (Q:Exit->DS->Prop):Exit->DS->Prop
 | .exit id',s=>if id'=id then Q .normal s else Q (.exit id') s
 | e,s=>Q e s
def Sub (s s':DS):Prop:=∀a w loc,Rel B s a w loc->∃loc',Rel B s' a w loc'
end
section
variable {P : Program} {B : Base} {Q : Exit -> DS -> Prop} {s s' : DS}
theorem Hg {c:Code} (h:Sub B s s') (hw:DW P B c Q s'):DW P B c Q s:=fun a w loc R =>
 let ⟨loc',R'⟩:=h a w loc R;hw a w loc' R'
theorem AE {x y:Code} (h:∀K:DS->Prop,(∀s,DW P B y Q s->K s)->DW P B x (JN_ K Q) s):DW P B (.seq x y) Q s:=by
 intro a w loc R;refine wpIn_seq (wpIn_mono (h (fun s=>DW P B y Q s) (fun _ h=>h) a w loc R) ?_);rintro e a' w' ⟨s',loc',hq,R'⟩
 cases e<;>first
  | exact hq a' w' loc' R'
  | exact⟨s',loc',hq,R'⟩
theorem Ax (h:Q .normal s):DW P B .skip Q s:=fun a w loc R=>wpIn_skip ⟨s,loc,h,R⟩
theorem Ay {id:Nat} (h:Q (.exit id) s):DW P B (.exit id) Q s:=fun a w loc R=>wpIn_exit ⟨s,loc,h,R⟩
theorem AH (h:Q .ret s):DW P B .ret Q s:=fun a w loc R=>wpIn_ret ⟨s,loc,h,R⟩
theorem tQ {l:Nat} (h:Q .normal s):DW P B (.label l) Q s:=fun a w loc R=>wpIn_label ⟨s,loc,h,R⟩
theorem An {id:Nat} {c:Code} (h:DW P B c (Bh_ id Q) s):DW P B (.block id c) Q s:=by
 intro a w loc R;refine wpIn_block (wpIn_mono (h a w loc R) ?_);rintro e a' w' ⟨s',loc',hq,R'⟩;cases e<;>try exact⟨s',loc',hq,R'⟩
 rename_i id';simp only[Bh_]at hq;simp only[Exit.inBlock]
 split
 ·rename_i h;rw[if_pos h]at hq;exact⟨s',loc',hq,R'⟩
 ·rename_i h;rw[if_neg h]at hq;exact⟨s',loc',hq,R'⟩
theorem Rel.ev {a:Act} {w:World} {loc:Nat->Loc} (R:Rel B s a w loc) (x:Operand):Bt s loc B.M0 w (ev s.slots x) (a.eval x):=Nu_ R.sl x
theorem LI_ {c:Operand} {x y:Code} {b:Bool} (hc:ev s.slots c= .bool b) (ht:b=true->DW P B x Q s) (hf:b=false->DW P B y Q s):DW P B (.cond c x y) Q s:=by
 intro a w loc R;have h:=R.ev c;rw[hc]at h;simp only[Bt,rd]at h;exact wpIn_cond_split h (fun hb=>ht hb a w loc R) (fun hb=>hf hb a w loc R)
def Al (B:Base) {X:Type} (S:X->DS) (μ:X->Nat) (n:Nat) (s':DS):Prop:=∃x',Sub B s' (S x')/\μ x'<n
theorem Al.mk {X:Type} {S:X->DS} {μ:X->Nat} {n:Nat} (x':X) (h:Sub B s' (S x')) (hm:μ x'<n):Al B S μ n s':=⟨x',h,hm⟩
theorem Ak {c:Code} {X:Type} (S:X->DS) (μ:X->Nat) (x₀:X) (h₀:Sub B s (S x₀))
  (round:∀x,DW P B c (JN_ (Al B S μ (μ x)) Q) (S x)):DW P B (.loop c) Q s:=by
 intro a w loc R;refine wpIn_loop_ghost (fun n a w=>∃x loc,μ x=n/\Rel B (S x) a w loc) (μ x₀) ?_ ?_
 ·obtain⟨loc',R'⟩:=h₀ a w loc R;exact⟨x₀,loc',rfl,R'⟩
 ·rintro n a w ⟨x,loc,rfl,R⟩;refine wpIn_mono (round x a w loc R) ?_;rintro e a' w' ⟨s',loc',hq,R'⟩;cases e<;>try exact⟨s',loc',hq,R'⟩
  obtain⟨x',hs,qV⟩:=hq;obtain⟨loc'',R''⟩:=hs a' w' loc' R';exact⟨μ x',qV,x',loc'',rfl,R''⟩
end
def Enters (P:Program) (f:FuncId):Prop:=∀args w,(callFunc f args).run P w= .ok (.enter f args) w
def Ad (P:Program) (f:FuncId) (args:List DVal) (d:DVal):Prop :=
 Enters P f/\mx d=0/\∀(cur:Fb) (M:List Nat) (w:World) (vs:Array Value),(∀b∈M,b<w.heap.size)->AI cur M w.heap args vs.toList ->
  Calls P f vs w fun e w'=>∃v,e= .returned v/\Upd [] w w'/\rd cur M w'.heap d v
mutual
def EI : DVal->Prop
 | .int k n=>JI k n
 | .str s=>s.size<=maxLen
 | .ref cs=>IZ cs
 | .sl _ bs es=>es.length*bs<=150000000000000/\es.length<=maxLen/\wfR es
 | .mp ks vs=>IZ ks/\IZ vs
 | .fn _ us cs=>IZ us/\IZ cs
 | .ifc _ d=>EI d
 | .agg cs=>IZ cs
 | .tup cs=>IZ cs
 | _=>True
def IZ : List DVal->Prop
 | []=>True
 | d::ds=>EI d/\IZ ds
def wfR : List (List DVal)->Prop
 | []=>True
 | cs::es=>IZ cs/\wfR es
end
section
variable {cur : Fb} {M : List Nat} {h : Array Obj}
mutual
theorem BD_ : ∀(d:DVal) (v:Value),rd cur M h d v->EI d
 | .any,_,_=>by simp[EI]
 | .undef,_,_=>by simp[EI]
 | .sel _ _,_,_=>by simp[EI]
 | .bool _,_,_=>by simp[EI]
 | .int _ _,_,hr=>by simp only[rd]at hr;simp only[EI];exact hr.2
 | .str _,_,hr=>by simp only[rd]at hr;simp only[EI];exact hr.2
 | .nilp,_,_=>by simp[EI]
 | .ref cs,v,hr=>by
  simp only[rd]at hr;obtain⟨b,off,arr,ty,fz,_,_,_,h4⟩:=hr;simp only[EI];exact Xt cs arr off h4
 | .bx _ _ _,_,_=>by simp[EI]
 | .rx _ _ _ _ _,_,_=>by simp[EI]
 | .nilsl,_,_=>by simp[EI]
 | .esl,_,_=>by simp[EI]
 | .sl k bs es,v,hr=>by
  simp only[rd]at hr;obtain⟨a,cap,h1,h2,jG,h2'',h3⟩:=hr;simp only[EI];refine⟨h2'',Nat.le_trans h2 jG,?_⟩
  rcases h3 with ⟨rfl,_⟩ | ⟨b,off,arr,ty,fz,g1,g2,g3,g4⟩
  ·simp[wfR]
  ·exact uZ k es arr off g4
 | .osl _ _,_,_=>by simp[EI]
 | .vw _ _ _ _ _ _,_,_=>by simp[EI]
 | .nilmp,_,_=>by simp[EI]
 | .mp ks vs,v,hr=>by
  simp only[rd]at hr;obtain⟨_,es,_,_,_,_,_,h5,h6⟩:=hr;simp only[EI];exact⟨GF ks _ h5,GF vs _ h6⟩
 | .omp _ _,_,_=>by simp[EI]
 | .pk _ _,_,_=>by simp[EI]
 | .nilfn,_,_=>by simp[EI]
 | .fn f us cs,v,hr=>by
  simp only[rd]at hr;obtain⟨us',cs',h1,h2,h3⟩:=hr;simp only[EI];exact⟨GF us _ h2,GF cs _ h3⟩
 | .nilifc,_,_=>by simp[EI]
 | .ifc t d,v,hr=>by
  simp only[rd]at hr;obtain⟨u,h1,h2⟩:=hr;simp only[EI];exact BD_ d u h2
 | .agg cs,v,hr=>by
  simp only[rd]at hr;obtain⟨us,h1,h2⟩:=hr;simp only[EI];exact GF cs _ h2
 | .tup cs,v,hr=>by
  simp only[rd]at hr;obtain⟨us,h1,h2⟩:=hr;simp only[EI];exact GF cs _ h2
theorem Xt : ∀(ds:List DVal) (arr:Array Value) (o:Nat),Ea cur M h ds arr o->IZ ds
 | [],_,_,_=>by simp[IZ]
 | d::ds,arr,o,hr=>by
  simp only[Ea]at hr;obtain⟨⟨v,_,_,h2⟩,h3⟩:=hr;simp only[IZ];exact⟨BD_ d v h2,Xt ds arr _ h3⟩
theorem uZ : ∀(k:Nat) (es:List (List DVal)) (arr:Array Value) (o:Nat),EB cur M h k es arr o->wfR es
 | _,[],_,_,_=>by simp[wfR]
 | k,cs::es,arr,o,hr=>by
  simp only[EB]at hr;obtain⟨_,h2,h3⟩:=hr;simp only[wfR];exact⟨Xt cs arr o h2,uZ k es arr _ h3⟩
theorem GF : ∀(ds:List DVal) (vs:List Value),AI cur M h ds vs->IZ ds
 | [],_,_=>by simp[IZ]
 | d::ds,vs,hr=>by
  simp only[AI]at hr;obtain⟨v,r,_,h2,h3⟩:=hr;simp only[IZ];exact⟨BD_ d v h2,GF ds r h3⟩
end
end
def isE : DVal->Bool
 | .sl _ _ []=>true
 | _=>false
def wk1 (d d':DVal):Prop:=d=d'\/((d= .nilsl\/d= .esl)/\isE d'=true)
def wkL : List DVal->List DVal->Prop
 | [],[]=>True
 | d::ds,e::es=>wk1 d e/\wkL ds es
 | _,_=>False
def wk : DVal->DVal->Prop
 | .tup a,.tup b=>wkL a b
 | .agg a,.agg b=>wkL a b
 | d,d'=>wk1 d d'
section
variable {cur : Fb} {M : List Nat} {h : Array Obj}
theorem Hg_ {d d':DVal} {v:Value} (hw:wk1 d d') (hr:rd cur M h d v):rd cur M h d' v:=by
 rcases hw with rfl | ⟨hd,he⟩
 ·exact hr
 ·unfold isE at he
  split at he
  ·rcases hd with rfl | rfl
   ·simp only[rd]at hr |-;subst hr;exact⟨none,0,rfl,by simp,by unfold maxLen;omega,by simp,.inl ⟨by simp,fun _=>rfl⟩⟩
   ·simp only[rd]at hr |-;obtain⟨ad,cap,rfl,hc⟩:=hr;exact⟨some ad,cap,rfl,by simp,hc,by simp,.inl ⟨by simp,by simp⟩⟩
  ·simp at he
theorem uY : ∀{ds es:List DVal} {vs:List Value},wkL ds es->AI cur M h ds vs->AI cur M h es vs
 | [],[],_,_,hr=>hr
 | d::ds,e::es,vs,hw,hr=>by
  simp only[wkL]at hw;simp only[AI]at hr |-;obtain⟨v,r,rfl,h1,h2⟩:=hr;exact⟨v,r,rfl,Hg_ hw.1 h1,uY hw.2 h2⟩
theorem Zr {d d':DVal} {v:Value} (hw:wk d d') (hr:rd cur M h d v):rd cur M h d' v:=by
 unfold wk at hw
 split at hw
 ·simp only[rd]at hr |-;obtain⟨us,rfl,h1⟩:=hr;exact⟨us,rfl,uY hw h1⟩
 ·simp only[rd]at hr |-;obtain⟨us,rfl,h1⟩:=hr;exact⟨us,rfl,uY hw h1⟩
 ·exact Hg_ hw hr
end
def WL : List DVal->List DVal->Prop
 | [],[]=>True
 | d::ds,e::es=>wk d e/\WL ds es
 | _,_=>False
theorem Sc {cur:Fb} {M:List Nat} {h:Array Obj}:∀{ds es:List DVal} {vs:List Value},WL ds es->AI cur M h ds vs->AI cur M h es vs
 | [],[],_,_,hr=>hr
 | [],_::_,_,hw,_=>hw.elim
 | _::_,[],_,hw,_=>hw.elim
 | d::ds,e::es,vs,hw,hr=>by
  simp only[AI]at hr |-;obtain⟨v,r,rfl,h1,h2⟩:=hr;exact⟨v,r,rfl,Zr hw.1 h1,Sc hw.2 h2⟩
structure Cont where
 f:DS->Prop
structure ContV where
 f:DVal->Prop
structure ContE where
 f:DVal->List Ent->Prop
def Bi (P:Program) (g:FuncId) (args:List DVal) (K:ContV):Prop:=∃args' d,WL args args'/\Ad P g args' d/\K.f d
theorem QD (d:DVal):wk d d:=by
 have h1:∀d,wk1 d d:=fun d=> .inl rfl
 have hL:∀l,wkL l l:=by
  intro l
  induction l with
  | nil=>trivial
  | cons d l ih=>exact⟨h1 d,ih⟩
 cases d<;>first
  | exact hL _
  | exact h1 _
theorem YP : ∀l,WL l l
 | []=>trivial
 | d::l=>⟨QD d,YP l⟩
theorem Ai {P:Program} {g:FuncId} {args:List DVal} {d:DVal} {K:ContV} (h:Ad P g args d) (hk:K.f d):Bi P g args K:=⟨args,d,YP _,h,hk⟩
theorem Ah {P:Program} {g:FuncId} {args args':List DVal} {d:DVal} {K:ContV} (h:Ad P g args' d) (hw:WL args args') (hk:K.f d):Bi P g args K:=⟨args',d,hw,h,hk⟩
theorem Lq {P:Program} {g:FuncId} {args:List DVal} {K:ContV} (h:Bi P g args K):∃d,Ad P g args d/\K.f d:=by
 obtain⟨args',d,hw,h,hk⟩:=h;exact⟨d,⟨h.1,h.2.1,fun cur M w vs hM hr=>h.2.2 cur M w vs hM (Sc hw hr)⟩,hk⟩
def gB : DVal->Bool->Bool
 | .bool t,true=>t
 | .bool t,false=> !t
 | .sel c (.bool t),true=>c&&t
 | .sel c (.bool t),false=>c&& !t
 | _,_=>false
def gOK : DVal->Bool
 | .bool _=>true
 | .sel _ (.bool _)=>true
 | .undef=>true
 | _=>false
def JZ : DVal->DVal
 | .sel _ d=>d
 | d=>d
def okG (c:Bool):DVal->Prop
 | .sel c' _=>c=true->c'=true
 | _=>True
def Gu (c:Bool) (e:Operand->DVal):List Operand->Prop
 | []=>True
 | x::r=>okG c (e x)/\Gu c e r
def Kr (c:Bool) (e:Operand->DVal) (op:Op):Prop:=match op with
 | .pick x a b=>okG c (e x)/\∀t,JZ (e x)= .bool t->(t=true->okG c (e a))/\(t=false->okG c (e b))
 | op=>Gu c e op.operands.toList
def Bl (l:List (Nat×DVal)) (x:Operand):DVal:=JZ (ev l x)
def Cp (nt:Nat):Option Nat->Bool
 | none=>true
 | some i=>decide (i<nt)
def callee (e:Operand->DVal) (c:Call):Option (FuncId×List DVal) :=
 match c.callee with
 | .value f=>match e f with
  | .fn (.func g) us cs=>some (g,us++c.args.toList.map e++cs)
  | _=>none
 | _=>none
section
variable (P : Program) (nt : Nat)
def kD (K:Cont) (s:DS) (dst:Option Nat):ContV:=⟨fun d=>K.f ⟨BI s.slots dst d,s.own⟩⟩
def kG (K:Cont) (c:Bool) (s:DS) (dst:Option Nat):ContV:=⟨fun d=>K.f ⟨BI s.slots dst (.sel c d),s.own⟩⟩
theorem OO_ (K:Cont) (s:DS) (dst:Option Nat) (d:DVal):(kD K s dst).f d=K.f ⟨BI s.slots dst d,s.own⟩:=id rfl
theorem ON_ (K:Cont) (c:Bool) (s:DS) (dst:Option Nat) (d:DVal):(kG K c s dst).f d=K.f ⟨BI s.slots dst (.sel c d),s.own⟩:=id rfl
def Jc_ (c:Bool) (g:FuncId) (args:List DVal) (K:ContV):Prop:=match c with
 | true=>Bi P g args K
 | false=>K.f .any
def MQ_ (c:Bool) (o:Oper) (s:DS) (K:Cont):Prop :=
 Cp nt o.dst=true/\Kr c (ev s.slots) o.op/\match o.op with
  | .call cl=>match callee (Bl s.slots) cl with
   | some (g,args)=>Jc_ P c g args (kG K c s o.dst)
   | none=>(c=true->FY P s.own (Bl s.slots) o.op)/\K.f ⟨BI s.slots o.dst (.sel c (BR P s.own (Bl s.slots) o.op)),s.own⟩
  | op=>(c=true->FY P s.own (Bl s.slots) op)/\K.f ⟨BI s.slots o.dst (.sel c (BR P s.own (Bl s.slots) op)),s.own⟩
def BP (ops:Array Oper) (s:DS) (j:Nat):DVal:=match (ops[j]?).bind (·.dst)with | some t=>Bq s.slots t | none=> .any
end
section
variable {P : Program} {B : Base} {s : DS} {a : Act} {w : World} {loc : Nat -> Loc}
theorem Wt {c:Bool} {g:FuncId} {args:List DVal} {K:ContV} (h:Jc_ P c g args K):∃d,(c=true->Ad P g args d)/\K.f d:=by
 cases c
 ·exact⟨.any,(fun h=>by simp at h),h⟩
 ·obtain⟨d,h1,h2⟩:=Lq h;exact⟨d,fun _=>h1,h2⟩
theorem MH {o:Oper} (h:Cp B.nt o.dst=true):∀i,o.dst=some i->i<B.nt:=by
 intro i hi;rw[hi]at h;simpa[Cp]using h
theorem Rel.lt (R:Rel B s a w loc):∀b∈hm s loc B.M0,b<w.heap.size:=R.st.lt
theorem Zl {o:Oper} {c:Call} (ho:o.op= .call c) {ρ:Operand->Value} {M0:List Nat} {e:Operand->DVal} (hρ:∀x∈c.operands,Bt s loc M0 w (e x) (ρ x)) {g:FuncId} {args:List DVal} (hc:callee e c=some (g,args)) (he:Enters P g) :
  ∃vs:Array Value,(execOp ρ o).run P w= .ok (.enter g vs) w/\AI (cu s loc) (hm s loc M0) w.heap args vs.toList:=by
 obtain⟨dst,op,type,pos,after,guard⟩:=o;simp only at ho;subst ho;obtain⟨cal,ars,ats⟩:=c;unfold callee at hc
 cases cal with
 | value f =>
  simp only at hc
  split at hc
  ·rename_i g' us cs hf;simp only[aA0,aT0]at hc;obtain⟨rfl,rfl⟩:=hc;have hx:=hρ f (by simp[Call.operands]);rw[hf]at hx;simp only[Bt,rd]at hx;obtain⟨us',cs',hv,h1,h2⟩:=hx
   have key:∀l:List Operand,(∀x∈l,Bt s loc M0 w (e x) (ρ x))->AI (cu s loc) (hm s loc M0) w.heap (l.map e) (l.map ρ):=by
    intro l
    induction l with
    | nil=>intro _;simp[AI]
    | cons x l ih=>intro hl;simp only[List.map_cons,AI];exact⟨_,_,rfl,hl x aE0,ih fun y hy=>hl y (aC0 _ hy)⟩
   refine⟨us'++ars.map ρ++cs',?_,?_⟩
   ·simp only[execOp,resolve,hv,Deferred.ofValue,Sem.run_bind,Sem.run_pure,Result.andThen_ok,invoke];exact he _ _
   ·simp only[Array.toList_append,eE0];exact Cr _ _ _ _ (Cr _ _ _ _ h1 (key _ fun x hx=>hρ x (by simp[Call.operands];right;simpa using hx))) h2
  ·simp at hc
 | invoke r m=>simp at hc
 | builtin b=>simp at hc
theorem Sy {own:List Ent} {e e':Operand->DVal} (op:Op) (h:∀x∈op.operands,e x=e' x):(FY P own e op↔FY P own e' op)/\BR P own e op=BR P own e' op:=by
 have parts:∀(ps:Array (Nat×Operand)),(∀x∈(ps.toList.map (·.2)).toArray,e x=e' x)->∀p∈ps.toList,e p.2=e' p.2:=by
  intro ps h p hp;exact h p.2 (by simpa using ⟨p.1,by simpa using hp⟩)
 cases op<;>simp only[Op.operands]at h<;>simp only[FY,BR]
 case move x=>exact⟨trivial,h x (by simp)⟩
 case assign x=>exact⟨trivial,h x (by simp)⟩
 case pick c a b =>
  have h1:=h c (by simp);have h2:=h a (by simp);have h3:=h b (by simp);simp only[h1,h2,h3,and_self]
 case build t ps =>
  have hp:=parts ps h;have e1:(ps.toList.map fun p=>(p.1,e p.2))=ps.toList.map fun p=>(p.1,e' p.2):=cN0 fun p hm=>by rw[hp p hm]
  have e2:(ps.toList.all fun p=>CD own (e p.2))=ps.toList.all fun p=>CD own (e' p.2):=by
   rw[Bool.eq_iff_iff,aV0,aV0]
   constructor<;>intro hq p hm<;>have:=hq p hm
   ·rw[<-hp p hm];exact this
   ·rw[hp p hm];exact this
  simp only[e1,e2,and_self]
 case buildSlice t n ps =>
  have hp:=parts ps h;have e1:(ps.toList.map fun p=>AP (e p.2))=ps.toList.map fun p=>AP (e' p.2):=cN0 fun p hm=>by rw[hp p hm]
  have e2:∀k,(ps.toList.all fun p=>CD own (e p.2)&&(AP (e p.2)).length==k)=ps.toList.all fun p=>CD own (e' p.2)&&(AP (e' p.2)).length==k:=by
   intro k;rw[Bool.eq_iff_iff,aV0,aV0]
   constructor<;>intro hq p hm<;>have:=hq p hm
   ·rw[<-hp p hm];exact this
   ·rw[hp p hm];exact this
  simp only[e1,e2,and_self]
 case makeFunc f us cs =>
  have e1:us.toList.map e=us.toList.map e':=cN0 fun x hx=>h x (by simp;left;simpa using hx)
  have e2:cs.toList.map e=cs.toList.map e':=cN0 fun x hx=>h x (by simp;right;simpa using hx)
  simp only[e1,e2,and_self]
 case call c =>
  have e1:c.args.toList.map e=c.args.toList.map e':=cN0 fun x hx=>h x (by simp[Call.operands];right;simpa using hx)
  cases c.callee<;>simp only[e1,and_self]
 case slice t x l h' m =>
  have hx:=h x (by simp)
  have hi:∀(d:Int) (o:Option Operand),(o=l\/o=h'\/o=m)->Dh e d o=Dh e' d o:=by
   intro d o ho
   cases o with
   | none=>rfl
   | some y =>
    have:e y=e' y:=h y (by
     simp only[Array.mem_append]
     rcases ho with ho | ho | ho<;>subst ho<;>simp)
    simp only[Dh,this]
  have h1:∀d,Dh e d l=Dh e' d l:=fun d=>hi d l (by simp)
  have h2:∀d,Dh e d h'=Dh e' d h':=fun d=>hi d h' (by simp)
  have h3:∀d,Dh e d m=Dh e' d m:=fun d=>hi d m (by simp)
  have h4:∀n,EK e n l h' m↔EK e' n l h' m:=fun n=>by simp only[EK,h1,h2,h3]
  have h5:∀n,EK e n l h' none↔EK e' n l h' none:=fun n=>by simp only[EK,h1,h2,show ∀d,Dh e d none=Dh e' d none from fun _=>rfl]
  simp only[hx,h1,h2,h4,h5,and_self]
 all_goals simp_all
theorem xT {o:Oper} {e:Operand->DVal} {d:DVal} {K:DS->Prop} {next:Act->World->Prop} {Q:Exit->Act->World->Prop} (R:Rel B s a w loc) (hd:Cp B.nt o.dst=true) (he:∀x∈o.op.operands,Bt s loc B.M0 w (e x) (a.eval x)) (hp:FY P s.own e o.op)
  (hk:K ⟨BI s.slots o.dst d,s.own⟩) (kU:∀(w':World) (v:Value),rd (cu s loc) (hm s loc B.M0) w'.heap (BR P s.own e o.op) v->rd (cu s loc) (hm s loc B.M0) w'.heap d v) (hn:∀s' a' w' loc',K s'->Rel B s' a' w' loc'->next a' w'):o.wpIn (wd B.ro) 0 P a w next Q:=by
 classical
 have hc:=Sy (P:=P) (own:=s.own) (e:=e) (e':=fun x=>if x∈o.op.operands then e x else .any) o.op (fun x hx=>by simp[hx])
 obtain⟨v,w',h1,h2,h3⟩:=EO_ (P:=P) (ρ:=a.eval) (M0:=B.M0) (o:=o) (e:=fun x=>if x∈o.op.operands then e x else .any) R.st (fun x=>by
  by_cases hx:x∈o.op.operands
  ·simp only[if_pos hx];exact he x hx
  ·simp only[if_neg hx,Bt,rd]) (hc.1.1 hp)
 rw[<-hc.2]at h3;refine⟨fun _ _=>trivial,?_⟩;rw[Oper.semAt_eq _ _ _ (fun c hc=>by rw[hc]at hp;simp only[FY]at hp),h1,Oper.uponIn_value];exact hn _ _ _ loc hk (R.put (MH hd) h2 (kU _ _ h3))
theorem Ys {o:Oper} {c:Call} {g:FuncId} {args:List DVal} {e:Operand->DVal} {d d':DVal} {K:DS->Prop} {next:Act->World->Prop} {Q:Exit->Act->World->Prop} (R:Rel B s a w loc) (hd:Cp B.nt o.dst=true) (ho:o.op= .call c) (he:∀x∈o.op.operands,Bt s loc B.M0 w (e x) (a.eval x))
  (hc:callee e c=some (g,args)) (hp:Ad P g args d) (hk:EI d->K ⟨BI s.slots o.dst d',s.own⟩) (kU:∀(w':World) (v:Value),rd (cu s loc) (hm s loc B.M0) w'.heap d v->rd (cu s loc) (hm s loc B.M0) w'.heap d' v) (hn:∀s' a' w' loc',K s'->Rel B s' a' w' loc'->next a' w'):o.wpIn (wd B.ro) 0 P a w next Q:=by
 obtain⟨vs,h1,h2⟩:=Zl (P:=P) (ρ:=a.eval) (M0:=B.M0) ho (fun x hx=>he x (by rw[ho];exact hx)) hc hp.1;refine⟨fun _ _=>trivial,?_⟩;rw[Oper.semAt_eq _ _ _ (fun c' mB=>by rw[ho]at mB;cases mB),h1,Oper.uponIn_enter];refine⟨fun h=>by simp[wd]at h,TU B.ro _ ?_⟩;refine(hp.2.2 (cu s loc) (hm s loc B.M0) w vs R.lt h2).mono ?_;rintro e w' ⟨v,rfl,hu,hr⟩;exact hn _ _ _ loc (hk (BD_ _ _ hr)) (R.put (MH hd) hu (kU _ _ hr))
theorem OQ {l:List (Nat×DVal)} {ρ:Operand->Value} {M0:List Nat} (hρ:∀x,Bt s loc M0 w (ev l x) (ρ x)):∀xs:List Operand,Gu true (ev l) xs->∀x∈xs,Bt s loc M0 w (Bl l x) (ρ x)
 | [],_,x,hx=>by cases hx
 | y::ys,h,x,hx=>by
  simp only[Gu]at h
  rcases aJ0.1 hx with rfl | hx
  ·have:=hρ x;unfold Bl;cases hq:ev l x<;>rw[hq]at this h<;>simp only[JZ]<;>try exact this
   simp only[okG]at h;simp only[Bt,rd]at this;exact this.1 (h.1 trivial)
  ·exact OQ hρ ys h.2 x hx
theorem xI (x:DVal):Ko true x .any=x:=by
 cases x<;>try rfl
 rename_i c d;cases d<;>rfl
theorem xH (y:DVal):Ko false .any y=y:=by
 cases y<;>rfl
theorem Zt {cur:Fb} {M:List Nat} {h:Array Obj} {t:Bool} {x y:DVal} {v:Value} (qY:Jg t x y) (hv:rd cur M h (if t then x else y) v):rd cur M h (Ko t x y) v:=by
 unfold Ko
 split
 ·cases t<;>exact hv
 ·cases t
  ·simp only[Jg]at qY;simp only[aU0,if_false,rd]at hv |-;exact hv.1 (qY trivial)
  ·exact hv
 ·cases t
  ·exact hv
  ·simp only[Jg]at qY;simp only[if_true,rd]at hv |-;exact hv.1 (qY trivial)
 ·cases t<;>exact hv
theorem Mu_ {l:List (Nat×DVal)} {ρ:Operand->Value} {M0:List Nat} {x:Operand} (hρ:Bt s loc M0 w (ev l x) (ρ x)) (h:okG true (ev l x)):Bt s loc M0 w (Bl l x) (ρ x):=by
 unfold Bl;cases hq:ev l x<;>rw[hq]at hρ h<;>simp only[JZ]<;>try exact hρ
 simp only[okG]at h;simp only[Bt,rd]at hρ;exact hρ.1 (h trivial)
theorem BW_ {l:List (Nat×DVal)} {ρ:Operand->Value} {M0:List Nat} {op:Op} {own:List Ent} (hρ:∀x,Bt s loc M0 w (ev l x) (ρ x)) (qY:Kr true (ev l) op) (hp:FY P own (Bl l) op) :
  ∃e':Operand->DVal,(∀x∈op.operands,Bt s loc M0 w (e' x) (ρ x))/\FY P own e' op/\∀cur M h v,rd cur M h (BR P own e' op) v->rd cur M h (BR P own (Bl l) op) v:=by
 classical
 by_cases nK:∃x a b,op= .pick x a b
 ·obtain⟨x,a,b,rfl⟩:=nK;simp only[Kr]at qY;obtain⟨h1,h2⟩:=qY;simp only[FY]at hp;cases hx:Bl l x<;>rw[hx]at hp<;>try exact hp.elim
  rename_i t;have h2:=h2 t hx;refine⟨fun y=>if okG true (ev l y)then Bl l y else .any,?_,?_,?_⟩
  ·intro y _;simp only
   split
   ·rename_i hy;exact Mu_ (hρ y) hy
   ·simp only[Bt,rd]
  ·simp only[FY,if_pos h1,hx];cases t
   ·rw[if_pos (h2.2 rfl)]
    split
    ·exact hp
    ·cases Bl l b<;>simp[Jg]
   ·rw[if_pos (h2.1 rfl)]
    split
    ·exact hp
    ·cases hsa:Bl l a<;>simp only[Jg]
  ·intro cur M h v;simp only[BR,if_pos h1,hx];cases t
   ·rw[if_pos (h2.2 rfl)]
    split
    ·exact id
    ·rw[xH];exact fun hv=>Zt hp hv
   ·rw[if_pos (h2.1 rfl)]
    split
    ·exact id
    ·rw[xI];exact fun hv=>Zt hp hv
 ·have yS:Gu true (ev l) op.operands.toList:=by
   unfold Kr at qY
   split at qY
   ·exact absurd ⟨_,_,_,rfl⟩ nK
   ·exact qY
  exact⟨Bl l,fun x hx=>OQ hρ _ yS x (by simpa using hx),hp,fun _ _ _ _ h=>h⟩
theorem Td {ops:Array Oper} {j:Nat} {want:Bool} (R:Rel B s a w loc) (hg:gOK (BP ops s j)=true):(yielded ops a.tmps j==some want)=gB (BP ops s j) want:=by
 unfold BP at hg |-
 cases ht:(ops[j]?).bind (·.dst)with
 | none=>simp[ht,gOK]at hg
 | some t =>
  simp only[ht]at hg |-;have hs:=R.sl t
  have hy:yielded ops a.tmps j=match a.tmps[t]? with | some (.bool b)=>some b | _=>none:=by
   unfold yielded;rw[ht];rfl
  have pK:a.tmps.getD t Go.undef=Go.undef->yielded ops a.tmps j=none:=by
   intro hs;rw[hy]
   cases hq:a.tmps[t]? with
   | none=>rfl
   | some v =>
    simp only[aK0,hq,cB0]at hs;subst hs;rfl
  have pC:∀b,a.tmps.getD t Go.undef= .bool b->yielded ops a.tmps j=some b:=by
   intro b hs;rw[hy]
   cases hq:a.tmps[t]? with
   | none=>simp[aK0,hq,Go.undef]at hs
   | some v =>
    simp only[aK0,hq,cB0]at hs;subst hs;rfl
  cases hd:Bq s.slots t<;>rw[hd]at hg hs<;>try (simp[gOK]at hg;done)
  ·simp only[rd]at hs;rw[pK hs];cases want<;>rfl
  ·rename_i c d;cases d<;>try (simp[gOK]at hg;done)
   rename_i b;simp only[rd]at hs;cases c
   ·rw[pK (hs.2 rfl)];cases want<;>rfl
   ·rw[pC b (hs.1 rfl)];cases want<;>cases b<;>rfl
  ·rename_i b;simp only[rd]at hs;rw[pC b hs];cases want<;>cases b<;>rfl
end
section
variable {P : Program} {own : List Ent} {e e' : Operand -> DVal}
theorem NR {c:Call} (h:∀x∈c.operands,e x=e' x):callee e c=callee e' c:=by
 unfold callee;have qM:c.args.toList.map e=c.args.toList.map e':=cN0 fun x hx=>h x (by simp[Call.operands];right;simpa using hx)
 cases hc:c.callee with
 | value f=>have hf:e f=e' f:=h f (by simp[Call.operands,hc]);simp only[hf,qM]
 | invoke r m=>rfl
 | builtin b=>rfl
theorem Su {c:Bool} {op:Op} (h:∀x∈op.operands,e x=e' x) (hk:Kr c e op):Kr c e' op:=by
 have gen:∀xs:List Operand,(∀x∈xs,e x=e' x)->Gu c e xs->Gu c e' xs:=by
  intro xs
  induction xs with
  | nil=>intro _ _;trivial
  | cons x xs ih =>
   intro hx hq;simp only[Gu]at hq |-;exact⟨by rw[<-hx x aE0];exact hq.1,ih (fun y hy=>hx y (aC0 _ hy)) hq.2⟩
 unfold Kr at hk |-
 split at hk
 ·rename_i x a b;simp only[Op.operands]at h;rw[h x (by simp),h a (by simp),h b (by simp)]at hk;exact hk
 ·exact gen _ (fun x hx=>h x (by simpa using hx)) hk
end
def Mr (o:Oper) (acc:List Nat):Nat:=o.after.toList.foldl (fun s e=>if Region.binds .any e then s ||| 2 ^ e.on ||| acc.getD e.on 0 else s) 0
def Eb : List Oper->List Nat->List Nat
 | [],acc=>acc
 | o::r,acc=>Eb r (acc++[Mr o acc])
def AB_ (ops:Array Oper):Bool :=
 let m:=Eb ops.toList []
 let zs:=ops.toList.zipIdx
 (zs.all fun p=>zs.all fun q=>p.1.dst==none||p.1.dst != q.1.dst||p.2==q.2) &&
 (zs.all fun p=>p.1.after.toList.all fun e=> !Region.binds .any e||decide (e.on<p.2)) &&
 zs.all fun p=>(p.1.looksAt ops).all fun t=>zs.all fun q=>q.1.dst != some t||(decide (q.2<p.2)&&(m.getD p.2 0).testBit q.2)||(decide (p.2<q.2)&&(m.getD q.2 0).testBit p.2)
structure DrawSpec (ops:Array Oper):Prop where
 one:∀(k k':Nat) (o o':Oper) (t:Nat),ops[k]? =some o->ops[k']? =some o'->o.dst=some t->o'.dst=some t->k=k'
 acy:∀(k:Nat) (o:Oper),ops[k]? =some o->∀e∈o.after,Region.binds .any e=true->e.on<k
 ord:∀(j:Nat) (o:Oper) (t:Nat),ops[j]? =some o->t∈o.looksAt ops->∀(k:Nat) (o':Oper),ops[k]? =some o'->o'.dst=some t ->
  (k<j/\((Eb ops.toList []).getD j 0).testBit k=true)\/(j<k/\((Eb ops.toList []).getD k 0).testBit j=true)
theorem KM {ops:Array Oper} (h:AB_ ops=true):DrawSpec ops:=by
 unfold AB_ at h;simp only[aM0,aV0]at h;obtain⟨⟨h1,h2⟩,h3⟩:=h
 have mem:∀(k:Nat) (o:Oper),ops[k]? =some o->(o,k)∈ops.toList.zipIdx:=by
  intro k o hk;rw[List.mem_zipIdx_iff_getElem?];simpa using hk
 refine⟨?_,?_,?_⟩
 ·intro k k' o o' t hk zZ ht gE;have:=h1 (o,k) (mem k o hk) (o',k') (mem k' o' zZ);simpa[ht,gE]using this
 ·intro k o hk e he hb;have:=h2 (o,k) (mem k o hk) e (by simpa using he);simpa[hb]using this
 ·intro j o t hj ht k o' hk hd;have:=h3 (o,j) (mem j o hj) t ht (o',k) (mem k o' hk);simpa[hd]using this
theorem SE (o:Oper) (acc:List Nat) (j:Nat) (h:(Mr o acc).testBit j=true):∃e∈o.after.toList,Region.binds .any e=true/\(j=e.on\/(acc.getD e.on 0).testBit j=true):=by
 unfold Mr at h
 have key:∀(l:List Edge) (s:Nat),(l.foldl (fun s e=>if Region.binds .any e then s ||| 2 ^ e.on ||| acc.getD e.on 0 else s) s).testBit j=true->s.testBit j=true\/∃e∈l,Region.binds .any e=true/\(j=e.on\/(acc.getD e.on 0).testBit j=true):=by
  intro l
  induction l with
  | nil=>intro s hs;exact .inl hs
  | cons e l ih =>
   intro s hs;simp only[cQ0]at hs
   rcases ih _ hs with h1 | ⟨e',zJ,h2⟩
   ·split at h1
    ·rename_i hb;rw[Nat.testBit_or,Nat.testBit_or,cY0,cY0]at h1
     rcases h1 with (h1 | h1) | h1
     ·exact .inl h1
     ·rw[Nat.testBit_two_pow]at h1;exact .inr ⟨e,aE0,hb,.inl (by simpa using h1:e.on=j).symm⟩
     ·exact .inr ⟨e,aE0,hb,.inr h1⟩
    ·exact .inl h1
   ·exact .inr ⟨e',aC0 _ zJ,h2⟩
 rcases key _ 0 h with h1 | h1
 ·simp at h1
 ·exact h1
theorem SD : ∀(l:List Oper) (acc:List Nat) (k:Nat),(Eb l acc).getD k 0=if k<acc.length then acc.getD k 0 else match l[k-acc.length]? with | some o=>Mr o ((Eb l acc).take k) | none=>0
 | [],acc,k=>by
  simp only[Eb]
  split
  ·rfl
  ·rename_i h;simp[bJ0,eI0 (by omega:acc.length<=k)]
 | o::r,acc,k=>by
  simp only[Eb];rw[SD r (acc++[Mr o acc]) k]
  have pre:∀(l:List Oper) (a:List Nat),∃z,Eb l a=a++z:=by
   intro l
   induction l with
   | nil=>intro a;exact⟨[],by simp[Eb]⟩
   | cons o l ih=>intro a;obtain⟨z,hz⟩:=ih (a++[Mr o a]);exact⟨_,by simp only[Eb];rw[hz,aQ0]⟩
  simp only[aD0,List.length_cons,List.length_nil,bS0]
  by_cases h1:k<acc.length
  ·rw[if_pos (by omega),if_pos h1];simp[bJ0,aZ0 h1]
  ·rw[if_neg h1]
   by_cases h2:k=acc.length
   ·subst h2;rw[if_pos (by omega)];simp only[dZ0,bB0];obtain⟨z,hz⟩:=pre r (acc++[Mr o acc]);rw[hz];simp[bJ0]
   ·rw[if_neg (by omega)];have:k-acc.length=(k-(acc.length+1))+1:=by omega
    rw[this,bP0]
def Bj_ (ops:Array Oper) (S:Nat->Bool):Prop:=∀k o,ops[k]? =some o->S k=true->∀e∈o.after,Region.binds .any e=true->S e.on=true
theorem TO {ops:Array Oper} {S:Nat->Bool} (hc:Bj_ ops S):∀(k:Nat),S k=true->∀j,((Eb ops.toList []).getD k 0).testBit j=true->S j=true:=by
 intro k
 induction k using Nat.strongRecOn with
 | _ k ih =>
  intro hk j hj;rw[SD]at hj;simp only[List.length_nil,dU0,if_false,eT0]at hj
  split at hj
  ·rename_i o ho;obtain⟨e,he,hb,h1⟩:=SE _ _ _ hj;have hS:=hc k o (by simpa using ho) hk e (by simpa using he) hb
   rcases h1 with rfl | h1
   ·exact hS
   ·by_cases qV:e.on<k
    ·refine ih e.on qV hS j ?_
     have:((Eb ops.toList []).take k).getD e.on 0=(Eb ops.toList []).getD e.on 0:=by
      simp[bJ0,bX0 qV]
     rwa[this]at h1
    ·have:((Eb ops.toList []).take k).getD e.on 0=0:=by
      rw[bJ0,eI0 (by simp;omega)];rfl
     rw[this]at h1;simp at h1
  ·simp at hj
def FT (P:Program) (o:Oper) (own:List Ent) (e:Operand->DVal) (d:DVal):Prop :=
 (∃c g args,o.op= .call c/\callee e c=some (g,args)/\Ad P g args d)\/(FY P own e o.op/\d=BR P own e o.op)
def OX_ (P:Program) (nt:Nat) (ops:Array Oper) (o:Oper) (s:DS) (d:DVal):Prop :=
 Cp nt o.dst=true/\match o.guard with
  | none=>FT P o s.own (ev s.slots) d
  | some (j,want)=>gOK (BP ops s j)=true/\Kr (gB (BP ops s j) want) (ev s.slots) o.op/\∃d',d= .sel (gB (BP ops s j) want) d'/\(gB (BP ops s j) want=true->FT P o s.own (Bl s.slots) d')
def MR_ (P:Program) (nt:Nat) (o:Oper) (s:DS) (K:Cont):Prop :=
 Cp nt o.dst=true/\match o.op with
  | .call c=>match callee (ev s.slots) c with
   | some (g,args)=>Bi P g args (kD K s o.dst)
   | none=>FY P s.own (ev s.slots) o.op/\K.f ⟨BI s.slots o.dst (BR P s.own (ev s.slots) o.op),s.own⟩
  | op=>FY P s.own (ev s.slots) op/\K.f ⟨BI s.slots o.dst (BR P s.own (ev s.slots) op),s.own⟩
def HL (l:List (Nat×DVal)):List (Oper×DVal)->List (Nat×DVal)
 | []=>l
 | (o,d)::r=>HL (BI l o.dst d) r
def Et (l:List (Nat×DVal)) (S:Nat->Bool):Nat->List (Oper×DVal)->List (Nat×DVal)
 | _,[]=>l
 | i,(o,d)::r=>if S i then BI (Et l S (i+1) r) o.dst d else Et l S (i+1) r
theorem Gw (l:List (Nat×DVal)) (o:Option Nat) (d:DVal) (t:Nat):Bq (BI l o d) t=if o=some t then d else Bq l t:=by
 cases o with
 | none=>simp[BI]
 | some i =>
  simp only[BI,Bq,aA0]
  by_cases h:t=i
  ·subst h;simp
  ·rw[if_neg h,if_neg (fun h'=>h h'.symm)]
theorem BO {l:List (Nat×DVal)} {S:Nat->Bool} {t:Nat}:∀(zs:List (Oper×DVal)) (i:Nat),(∀(k:Nat) (z:Oper×DVal),zs[k]? =some z->z.1.dst=some t->S (i+k)=false)->Bq (Et l S i zs) t=Bq l t
 | [],_,_=>rfl
 | (o,d)::r,i,h=>by
  have ih:=BO (l:=l) (S:=S) (t:=t) r (i+1) (fun k z hz hd=>by have:=h (k+1) z (by simpa using hz) hd;rwa[show i+1+k=i+(k+1) by omega]);simp only[Et]
  split
  ·rename_i hS;rw[Gw,if_neg,ih];intro hd;have:=h 0 (o,d) (by simp) hd;rw[dQ0]at this;rw[this]at hS;simp at hS
  ·exact ih
theorem DJ {l:List (Nat×DVal)} {S:Nat->Bool} {t:Nat}:∀(zs:List (Oper×DVal)) (i k:Nat) (z:Oper×DVal),zs[k]? =some z->z.1.dst=some t->S (i+k)=true->(∀(k':Nat) (z':Oper×DVal),zs[k']? =some z'->z'.1.dst=some t->k'=k)->Bq (Et l S i zs) t=z.2
 | [],_,_,_,hz,_,_,_=>by simp at hz
 | (o,d)::r,i,0,z,hz,hd,hS,_=>by
  simp only[bB0,aA0]at hz;subst hz;simp only[Et];rw[dQ0]at hS;rw[if_pos hS,Gw,if_pos hd]
 | (o,d)::r,i,k+1,z,hz,hd,hS,hu=>by
  have ih:=DJ (l:=l) (S:=S) (t:=t) r (i+1) k z (by simpa using hz) hd (by rwa[show i+1+k=i+(k+1) by omega]) (fun k' z' h1 h2=>by have:=hu (k'+1) z' (by simpa using h1) h2;omega);have qC:o.dst≠some t:=fun h=>by have:=hu 0 (o,d) (by simp) h;omega
  simp only[Et]
  split
  ·rw[Gw,if_neg qC,ih]
  ·exact ih
theorem EO {t:Nat}:∀(zs:List (Oper×DVal)) (l:List (Nat×DVal)),(∀z∈zs,z.1.dst≠some t)->Bq (HL l zs) t=Bq l t
 | [],_,_=>rfl
 | (o,d)::r,l,h=>by
  simp only[HL];rw[EO r _ (fun z hz=>h z (aC0 _ hz)),Gw,if_neg (h (o,d) aE0)]
theorem KG {t:Nat}:∀(zs:List (Oper×DVal)) (l:List (Nat×DVal)) (k:Nat) (z:Oper×DVal),zs[k]? =some z->z.1.dst=some t->(∀(k':Nat) (z':Oper×DVal),zs[k']? =some z'->z'.1.dst=some t->k'=k)->Bq (HL l zs) t=z.2
 | [],_,_,_,hz,_,_=>by simp at hz
 | (o,d)::r,l,0,z,hz,hd,hu=>by
  simp only[bB0,aA0]at hz;subst hz;simp only[HL];rw[EO,Gw,if_pos hd];intro z' hz' h;obtain⟨k',zZ,rfl⟩:=bK0 hz';have:=hu (k'+1) _ (by simp only[bP0];exact aH0 zZ) h;omega
 | (o,d)::r,l,k+1,z,hz,hd,hu=>by
  simp only[HL];exact KG r _ k z (by simpa using hz) hd (fun k' z' h1 h2=>by have:=hu (k'+1) z' (by simpa using h1) h2;omega)
theorem Rel.congr {B:Base} {l l':List (Nat×DVal)} {own:List Ent} {a:Act} {w:World} {loc:Nat->Loc} (h:∀t,Bq l' t=Bq l t) (R:Rel B ⟨l,own⟩ a w loc):Rel B ⟨l',own⟩ a w loc :=
 ⟨R.st,R.upd,R.new,R.ver,fun i=>by have:=R.sl i;simp only at this |-;rw[h i];exact this,R.nt,R.df⟩
theorem Ra (S:Nat->Bool) (i:Nat) (hi:S i=false):∀n,i<n->(List.range n).countP (fun k=>if k=i then true else S k)=(List.range n).countP S+1
 | 0,h=>by omega
 | n+1,h=>by
  have same:∀m,m<=i->(List.range m).countP (fun k=>if k=i then true else S k)=(List.range m).countP S:=by
   intro m hm;refine List.countP_congr fun k hk=> ?_
   have:k≠i:=by have:=cD0.1 hk;omega
   simp[this]
  rw[dF0,List.countP_append,List.countP_append]
  by_cases h':i<n
  ·rw[Ra S i hi n h'];have:n≠i:=by omega
   simp[fB0,this];omega
  ·have:n=i:=by omega
   subst this;rw[same n (Nat.le_refl _)];simp[fB0,hi]
section
variable {P : Program} {B : Base} {s : DS}
theorem IM_ {l l':List (Nat×DVal)} {x:Operand} (h:∀t,x= .tmp t->Bq l t=Bq l' t):ev l x=ev l' x:=by
 cases x<;>first | rfl | exact h _ rfl
end
def Sa (P:Program) (s:DS):ResultVar->Option DVal
 | .tmp t=>some (Bq s.slots t)
 | .cell a t=>match tAgg P t,tCells P t,DU s.own (Bq s.slots a)with
  | some true,some n,some cs=>if n<=cs.length then some (.agg (cs.take n))else none
  | some false,_,some cs=>match cs with | d::_=>some d | []=>none
  | _,_,_=>none
def uX (P:Program) (s:DS):List ResultVar->Option (List DVal)
 | []=>some []
 | r::rs=>match Sa P s r,uX P s rs with
  | some d,some ds=>some (d::ds)
  | _,_=>none
def Qj (P:Program) (s:DS) (rs:List ResultVar):Option DVal :=
 match uX P s rs with
 | some [d]=>some d
 | some ds=>some (.tup ds)
 | none=>none
def OK (tmps:Array Value):ResultVar->Sem Value
 | .tmp t=>pure (tmps.getD t Go.undef)
 | .cell a t=>do loadVar t (<-asAddr (tmps.getD a Go.undef))
theorem uW (fn:Func) (tmps:Array Value):results fn tmps=(do let vs <-fn.results.mapM (OK tmps);pure (if h:vs.size=1 then vs[0]else .tuple vs)):=by
 unfold results
 congr 1
section
variable {P : Program} {B : Base} {s : DS} {a : Act} {w : World} {loc : Nat -> Loc}
structure Reads (B:Base) (s:DS) (a:Act) (w:World) (loc:Nat->Loc):Prop where
 st:St s.own loc B.M0 w.heap
 sl:∀i,rd (Ae s.own loc) (Ab s.own loc++B.M0) w.heap (Bq s.slots i) (a.tmps.getD i Go.undef)
theorem uO (R:Reads B s a w loc) {r:ResultVar} {d:DVal} (h:Sa P s r=some d) :
  ∃v,(OK a.tmps r).run P w= .ok v w/\Bt s loc B.M0 w d v:=by
 cases r with
 | tmp t =>
  simp only[Sa,aA0]at h;subst h;exact⟨_,rfl,R.sl t⟩
 | cell x t =>
  simp only[Sa]at h;have hx:=R.sl x
  split at h
  ·rename_i n cs hb hn hc
   split at h
   ·rename_i wY;simp only[aA0]at h;subst h;obtain⟨ad,u,hv,h1,h2⟩:=OY (P:=P) R.st (b:=true) hb hx hc (fun _=>⟨n,hn,wY⟩) (by simp);exact⟨u,by simp only[OK,hv];simp[asAddr,h1],by simpa[hn]using h2⟩
   ·simp at h
  ·rename_i cs hb hc
   split at h
   ·simp only[aA0]at h;subst h;obtain⟨ad,u,hv,h1,h2⟩:=OY (P:=P) R.st (b:=false) hb hx hc (by simp) (by simp);exact⟨u,by simp only[OK,hv];simp[asAddr,h1],by simpa using h2⟩
   ·simp at h
  ·simp at h
theorem Zk (R:Reads B s a w loc):∀(rs:List ResultVar) (ds:List DVal),uX P s rs=some ds ->
  ∃vs:List Value,(rs.mapM (m:=Sem) (OK a.tmps)).run P w= .ok vs w/\AI (cu s loc) (hm s loc B.M0) w.heap ds vs
 | [],ds,h=>by
  simp only[uX,aA0]at h;subst h;exact⟨[],by simp,by simp[AI]⟩
 | r::rs,ds,h=>by
  simp only[uX]at h
  split at h
  ·rename_i d ds' hd hds;simp only[aA0]at h;subst h;obtain⟨v,h1,h2⟩:=uO R hd;obtain⟨vs,h3,h4⟩:=Zk R rs ds' hds;refine⟨v::vs,?_,by simp only[AI];exact⟨v,vs,rfl,h2,h4⟩⟩;rw[List.mapM_cons,Sem.run_bind,h1];simp[h3]
  ·simp at h
theorem Ha_ (R:Reads B s a w loc) {fn:Func} {d:DVal} (h:Qj P s fn.results.toList=some d):∃v,(results fn a.tmps).run P w= .ok v w/\Bt s loc B.M0 w d v:=by
 unfold Qj at h
 cases hl:uX P s fn.results.toList with
 | none=>rw[hl]at h;simp at h
 | some ds =>
  rw[hl]at h;obtain⟨vs,h1,h2⟩:=Zk R _ _ hl;have qU:=AJ _ _ h2
  have hm:(fn.results.mapM (m:=Sem) (OK a.tmps)).run P w= .ok vs.toArray w:=by
   rw[<-Array.toArray_toList (xs:=fn.results),List.mapM_toArray,Sem.run_map,h1];rfl
  rw[uW,Sem.run_bind,hm]
  match ds,vs,qU,h2,h with
  | [d0],[v0],_,h2,h =>
   simp only[aA0]at h;subst h;simp only[AI]at h2;obtain⟨v,r,he,h5,_⟩:=h2;simp only[bG0]at he;obtain⟨rfl,rfl⟩:=he;exact⟨v0,by simp,h5⟩
  | [],[],_,h2,h =>
   simp only[aA0]at h;subst h;exact⟨.tuple #[],by simp,by simp only[Bt,rd];exact⟨#[],rfl,h2⟩⟩
  | d0::d1::ds,v0::v1::vs,_,h2,h =>
   simp only[aA0]at h;subst h;exact⟨.tuple (v0::v1::vs).toArray,by simp,by simp only[Bt,rd];exact⟨_,rfl,h2⟩⟩
end
def Am : List DVal->Nat->List (Nat×DVal)
 | [],_=>[]
 | d::ds,i=>(i,d)::Am ds (i+1)
theorem Wd : ∀(ds:List DVal) (i t:Nat),Bq (Am ds i) t=if t<i then .any else ds.getD (t-i) .any
 | [],i,t=>by simp[Am,Bq]
 | d::ds,i,t=>by
  simp only[Am,Bq]
  by_cases h:t=i
  ·subst h;simp
  ·rw[if_neg h,Wd ds (i+1) t]
   by_cases h1:t<i
   ·rw[if_pos h1,if_pos (by omega)]
   ·rw[if_neg h1,if_neg (by omega)];have:t-i=(t-(i+1))+1:=by omega
    rw[this,List.getD_cons_succ]
theorem St.same {own:List Ent} {loc:Nat->Loc} {M0:List Nat} {h h':Array Obj} (S:St own loc M0 h) (qH:h.size<=h'.size)
  (hd:∀(b:Nat) (o:Obj),Hi o=true->h[b]? =some o->h'[b]? =some o) (hb:∀(b:Nat) (o:Obj),b∈Ab own loc->h[b]? =some o->h'[b]? =some o):St own loc M0 h' where
 nd:=S.nd
 bl:=S.bl
 ap:=S.ap
 lt:=fun b hb=>bY0 (S.lt b hb) qH
 ok:=by
  intro e he
  have W:Weak (Ae own loc) (Ae own loc) (Ab own loc++M0) (Ab own loc++M0) h h' (Fp e.obj) :=
   ⟨fun _ _ _ _ h=>h,fun b o _ (h1:Hi o=true) h2=>hd b o h1 h2,fun b o hb (_:Hi o=true) _=>hb⟩
  exact Bp W (Nat.le_refl _) (fun b o hm ho=>hb b o (Bm he hm) ho) (S.ok e he)
def HQ (P:Program) (f:Fn) (vs:Array Value) (w:World) (R:Value->World->Prop):Prop :=
 match f with
 | .func g=>Enters P g/\Calls P g vs w fun e w'=>∃v,e= .returned v/\R v w'
 | .yield l=>∃fn tmps assign body,(Instr.yield l vs).run P w= .ok (.round l fn tmps assign body) w/\RoundIn (wd none) 0 P l fn tmps assign body w fun e w'=>∃v,e= .returned v/\R v w'
 | _=>False
theorem HQ.mono {P:Program} {f:Fn} {vs:Array Value} {w:World} {R R':Value->World->Prop} (h:HQ P f vs w R) (hr:∀v w',R v w'->R' v w'):HQ P f vs w R':=by
 cases f with
 | func g=>exact⟨h.1,h.2.mono fun e w' ⟨v,he,hR⟩=>⟨v,he,hr _ _ hR⟩⟩
 | yield l =>
  obtain⟨fn,tmps,assign,body,h1,h2⟩:=h;exact⟨fn,tmps,assign,body,h1,h2.mono fun e w' ⟨v,he,hR⟩=>⟨v,he,hr _ _ hR⟩⟩
 | method n=>exact h.elim
 | methodOf t n=>exact h.elim
 | via t p f q=>exact h.elim
def Gl_ (P:Program) (fn:Func) (K:DS->DVal->Prop):Exit->DS->Prop
 | .normal,s=>∃d0,Qj P s fn.results.toList=some d0/\K s d0
 | .ret,s=>∃d0,Qj P s fn.results.toList=some d0/\K s d0
 | _,_=>False
theorem Nt {P:Program} {fn:Func} {tmps:Array Value} {R:Ending->World->Prop}:∀(rs:List Nat) (w:World),rs.Nodup->(∀r∈rs,w.heap[r]? =some (.deferred (some []))) ->
  (∀w',Upd rs w w'->w'.heap.size=w.heap.size->∃v,(results fn tmps).run P w'= .ok v w'/\R (.returned v) w') ->
  LeavesInM (wd none) 0 P fn tmps R (rs.map fun r=>{ target:= .collected r,args:= #[] }) .returning w
 | [],w,_,_,h=>h w (Upd.refl _ _) rfl
 | r::rs,w,hn,hr,h=>by
  simp only[cS0]at hn;refine⟨by simp,.inl ⟨r,w.putObj r (.deferred none),rfl,run_takeDeferred (hr r aE0),?_⟩⟩;refine Nt rs _ hn.2 (fun r' wL=> ?_) (fun w' hu hs=>h w' ?_ ?_)
  ·rw[World.putObj_heap_other (fun h=>hn.1 (by rw[h]at wL;exact wL))];exact hr r' (aC0 _ wL)
  ·have hu0:Upd [r] w (w.putObj r (.deferred none)) :=
    ⟨rfl,rfl,rfl,fun _=>Nat.le_refl _,by simp[World.putObj],fun b _ hb=>World.putObj_heap_other (fun h=>hb (by simp[h]))⟩
   refine(show Upd (r::rs) w w' from ?_);refine⟨hu.os,hu.tape,hu.output,hu.drawn,Nat.le_trans hu0.size hu.size,fun b hb nJ=> ?_⟩;rw[hu.blk b (bY0 hb hu0.size) (fun h=>nJ (aC0 _ h)),hu0.blk b hb (fun h=>nJ (by simp at h;simp[h]))]
  ·rw[hs];simp[World.putObj]
theorem Ov {P:Program} {f:FuncId} {fn:Func} {c:Code} {args:List DVal} {own:List Ent} {M:List Nat} {w:World} {loc:Nat->Loc} {vs:Array Value} {N:Nat} {R:Value->World->Prop} {K:DS->DVal->Prop} (hN:N<=1)
  (hf:P.funcs[f]? =some fn) (hb:fn.body=some c) (zW:Enters P f) (qX:args.length<=fn.ntmps) (S:St own loc M w.heap) (hv:∀e∈own,e.r<N->True)
  (hr:AI (Ae own loc) (Ab own loc++M) w.heap args vs.toList)
  (h:∀B:Base,B.nt=fn.ntmps/\B.ro=none->DW P B c (Gl_ P fn K) ⟨Am args 0,own⟩)
  (fin:∀(s:DS) (loc':Nat->Loc) (w':World) (d0:DVal) (v:Value),K s d0->St s.own loc' M w'.heap->Upd (Ab own loc) w w'->(∀b∈Ab s.own loc',b∈Ab own loc\/w.heap.size<=b) ->
   (∀e∈s.own,e.r<N->Ae own loc e.id e.r=some (loc' e.id))->rd (Ae s.own loc') (Ab s.own loc'++M) w'.heap d0 v->R v w'):HQ P (.func f) vs w R:=by
 refine⟨zW,?_⟩;refine(callsIn_wide (n:=0)).1 ?_;refine callsIn_of_wp_marks hf hb trivial ?_ rfl
 let B:Base:=⟨own,loc,M,N,w,fn.ntmps,none,hN,w.heap.size,Nat.le_refl _⟩
 have qU:=AJ _ _ hr
 have R0:Rel B ⟨Am args 0,own⟩ { tmps:=vs++Array.replicate (fn.ntmps-vs.size) Go.undef,defers:=[] } w loc:=by
  refine⟨S,Upd.refl _ _,fun b hb=> .inl hb,fun e he _=>AV S.nd he,?_,by show _=fn.ntmps;simp at qU |-;omega,⟨[],rfl,List.nodup_nil,by simp⟩⟩;intro i;rw[Wd];simp only[dU0,if_false,eT0]
  cases hi:args[i]? with
  | none=>simp[bJ0,hi,rd]
  | some d0 =>
   obtain⟨v,hv,h1⟩:=Sf _ _ i d0 hr hi
   have qV:i<vs.size:=by
    have:=(aB0.1 hv).1;simpa using this
   have gG:vs[i]? =some v:=by simpa using hv
   rw[bJ0,hi,aK0,dR0 qV,gG];exact h1
 refine wpIn_mono (h B ⟨rfl,rfl⟩ _ w loc R0) ?_;rintro e a' w' ⟨s',loc',hq,R'⟩
 have key:(∃d0,Qj P s' fn.results.toList=some d0/\K s' d0)->LeavesInM (wd none) 0 P fn a'.tmps (fun e w'=>∃v,e= .returned v/\R v w') a'.defers .returning w':=by
  rintro⟨d0,hres,hK⟩;obtain⟨rs,hd1,bH,hd2,_⟩:=R'.df;rw[hd1];refine Nt rs w' bH (fun r hr=>(hd2 r hr).1) fun w'' hu hs=> ?_
  have hdd:∀(b:Nat) (o:Obj),Hi o=true->w'.heap[b]? =some o->w''.heap[b]? =some o:=by
   intro b o ho hb;have qV:=(aF0.1 hb).1;rw[hu.blk b qV (fun h=>by rw[(hd2 b h).1]at hb;simp only[aA0]at hb;subst hb;simp[Hi]at ho)];exact hb
  have qT:∀(b:Nat) (o:Obj),b∈Ab s'.own loc'->w'.heap[b]? =some o->w''.heap[b]? =some o:=by
   intro b o hm hb;have qV:=(aF0.1 hb).1;rw[hu.blk b qV (fun h=>(hd2 b h).2.2 (aN0 _ hm))];exact hb
  have S'':=R'.st.same (dO0 hs.symm) hdd qT
  have W:∀n,Weak (Ae s'.own loc') (Ae s'.own loc') (Ab s'.own loc'++M) (Ab s'.own loc'++M) w'.heap w''.heap n:=fun n =>
   ⟨fun _ _ _ _ h=>h,fun b o _ (h1:Hi o=true) h2=>hdd b o h1 h2,fun b o hb (_:Hi o=true) _=>hb⟩
  have RR:Reads B s' a' w'' loc':=⟨S'',fun i=>Cu (W _) _ _ (Nat.le_refl _) (R'.sl i)⟩;obtain⟨v,h1,h2⟩:=Ha_ RR hres;refine⟨v,h1,v,rfl,fin s' loc' w'' d0 v hK S'' ?_ R'.new R'.ver h2⟩;refine R'.upd.trans hu (fun x hx=> .inr (hd2 x hx).2.1)
 cases e<;>simp only[Gl_]at hq<;>first
  | exact key hq
  | exact hq.elim
def Ok_ (P:Program) (fn:Func) (d:DVal):Exit->DS->Prop:=Gl_ P fn fun _ d0=>∀cur M h v,rd cur M h d0 v->rd cur M h d v
theorem YL {P:Program} {f:FuncId} {fn:Func} {c:Code} {args:List DVal} {d:DVal} {K:DS->DVal->Prop} (hf:P.funcs[f]? =some fn) (hb:fn.body=some c) (zW:Enters P f) (qX:args.length<=fn.ntmps)
  (hd:mx d=0) (fin:∀(B:Base) (s:DS) (d0:DVal) (loc:Nat->Loc) (w:World) (v:Value),K s d0->St s.own loc B.M0 w.heap->rd (Ae s.own loc) (Ab s.own loc++B.M0) w.heap d0 v->∃(s':DS) (loc':Nat->Loc),(∀b,b∈B.M0->b∈Ab s'.own loc'++B.M0)/\rd (Ae s'.own loc') (Ab s'.own loc'++B.M0) w.heap d v)
  (h:IZ args->∀B:Base,B.nt=fn.ntmps/\B.ro=none->DW P B c (Gl_ P fn K) ⟨Am args 0,[]⟩):Ad P f args d:=by
 refine⟨zW,hd,fun cur M w vs hM hr=> ?_⟩
 have W:Weak cur (Ae [] fun _=>⟨[],Go.undef⟩) M (Ab [] (fun _=>⟨[],Go.undef⟩)++M) w.heap w.heap (AR args) :=
  ⟨fun id r l _ hl=>by simp[Ae,Ar]at hl,fun b o _ _ ho=>ho,fun b o hb _ _=>by simpa[Ab]using hb⟩
 have S:St [] (fun _=>⟨[],Go.undef⟩) M w.heap:=⟨by simp,by simp[Ab],by simp[Ab],by simpa[Ab]using hM,by simp⟩;have:=Ov (P:=P) (R:=fun v w'=>Upd [] w w'/\rd cur M w'.heap d v) (cH0 1) hf hb zW qX S (by simp) (Bd W args _ (Nat.le_refl _) hr) (h (GF _ _ hr)) ?_
 ·exact this.2
 ·intro s loc' w' d0 v hK hS hu _ _ bH;refine⟨by simpa[Ab]using hu,?_⟩;obtain⟨s1,loc1,pR,h1⟩:=fin ⟨[],loc',M,0,w,0,none,by decide,w.heap.size,Nat.le_refl _⟩ s d0 loc' w' v hK hS bH;exact Cu (n:=0) ⟨fun id r l hr=>by omega,fun b o _ _ ho=>ho,fun b o hb _ _ vE=>hb (pR b vE)⟩ d v (by omega) h1
theorem YK {P:Program} {f:FuncId} {fn:Func} {c:Code} {args:List DVal} {d:DVal} (hf:P.funcs[f]? =some fn) (hb:fn.body=some c) (zW:Enters P f) (qX:args.length<=fn.ntmps)
  (hd:mx d=0) (h:IZ args->∀B:Base,B.nt=fn.ntmps/\B.ro=none->DW P B c (Ok_ P fn d) ⟨Am args 0,[]⟩):Ad P f args d :=
 YL hf hb zW qX hd (fun B s d0 loc w v hK _ bH=>⟨s,loc,fun b hb=>aP0 _ hb,hK _ _ _ _ bH⟩) h
theorem Em (e:Ent) (l:List Ent) (loc:Nat->Loc):Ab (e::l) loc=(loc e.id).blks++Ab l loc:=by simp[Ab]
theorem Gj {loc:Nat->Loc}:∀{own:List Ent},(Ab own loc).Nodup->∀e1∈own,∀e2∈own,∀b,b∈(loc e1.id).blks->b∈(loc e2.id).blks->e1=e2
 | [],_,e1,h1,_,_,_,_,_=>by cases h1
 | e::l,hn,e1,h1,e2,h2,b,wQ,wB=>by
  rw[Em,bV0]at hn;obtain⟨_,pQ,hn3⟩:=hn
  rcases aJ0.1 h1 with rfl | kT
  ·rcases aJ0.1 h2 with rfl | jG
   ·rfl
   ·exact absurd rfl (hn3 b wQ b (Bm jG wB))
  ·rcases aJ0.1 h2 with rfl | jG
   ·exact absurd rfl (hn3 b wB b (Bm kT wQ))
   ·exact Gj pQ e1 kT e2 jG b wQ wB
theorem DM {loc:Nat->Loc}:∀{own:List Ent},(Ab own loc).Nodup->∀e∈own,((loc e.id).blks).Nodup
 | [],_,e,h=>by cases h
 | a::l,hn,e,h=>by
  rw[Em,bV0]at hn
  rcases aJ0.1 h with rfl | h'
  ·exact hn.1
  ·exact DM hn.2.1 e h'
theorem El {own:List Ent} {loc:Nat->Loc} (hn:(Ab own loc).Nodup):∀l:List Ent,(l.map (·.id)).Nodup->(∀e∈l,e∈own)->(Ab l loc).Nodup
 | [],_,_=>by simp[Ab]
 | e::l,hd,hm=>by
  simp only[List.map_cons,cS0]at hd;rw[Em,bV0];refine⟨DM hn e (hm e aE0),El hn l hd.2 (fun x hx=>hm x (aC0 _ hx)),?_⟩;intro b hb b' qD jZ;subst jZ;obtain⟨e2,zX,wB⟩:=bT0.1 qD;have:=Gj hn e (hm e aE0) e2 (hm e2 (aC0 _ zX)) b hb wB;subst this;exact hd.1 (cX0 (f:=(·.id)) zX)
def upE (own:List Ent) (id r:Nat) (obj:DObj):List Ent:=⟨id,r,obj⟩::CT own id
def Dc (loc:Nat->Loc) (id:Nat) (L:Loc):Nat->Loc:=fun j=>if j=id then L else loc j
theorem BJ {own:List Ent} {id:Nat} {e:Ent}:e∈CT own id↔e∈own/\e.id≠id:=by
 induction own with
 | nil=>simp[CT]
 | cons a t ih =>
  simp only[CT]
  split
  ·rename_i h;rw[ih,aJ0]
   constructor
   ·rintro⟨h1,h2⟩;exact⟨.inr h1,h2⟩
   ·rintro⟨rfl | h1,h2⟩
    ·exact absurd h h2
    ·exact⟨h1,h2⟩
  ·rename_i h;rw[aJ0,ih,aJ0]
   constructor
   ·rintro (rfl | ⟨h1,h2⟩)
    ·exact⟨.inl rfl,h⟩
    ·exact⟨.inr h1,h2⟩
   ·rintro⟨rfl | h1,h2⟩
    ·exact .inl rfl
    ·exact .inr ⟨h1,h2⟩
theorem Eu {own:List Ent} {id:Nat} (h:(own.map (·.id)).Nodup):((CT own id).map (·.id)).Nodup:=by
 induction own with
 | nil=>simp[CT]
 | cons a t ih =>
  simp only[List.map_cons,cS0]at h;simp only[CT]
  split
  ·exact ih h.2
  ·simp only[List.map_cons,cS0];refine⟨fun hm=> ?_,ih h.2⟩;obtain⟨e,he,h1⟩:=aR0.1 hm;exact h.1 (aR0.2 ⟨e,(BJ.1 he).1,h1⟩)
theorem eQ {α β:Type} {f g:α->List β}:∀{l:List α},(∀x∈l,f x=g x)->l.flatMap f=l.flatMap g
 | [],_=>rfl
 | a::l,h=>by
  rw[cO0,cO0,h a aE0,eQ (fun x hx=>h x (aC0 _ hx))]
theorem SX {own:List Ent} {loc:Nat->Loc} {id:Nat} {L:Loc}:Ab (CT own id) (Dc loc id L)=Ab (CT own id) loc:=by
 unfold Ab;refine eQ fun e he=> ?_
 have:=(BJ.1 he).2;simp[Dc,this]
theorem QW {own:List Ent} {loc:Nat->Loc} {id:Nat} {b:Nat} (h:b∈Ab (CT own id) loc):∃e∈own,e.id≠id/\b∈(loc e.id).blks:=by
 obtain⟨e,he,h1⟩:=bT0.1 h;have:=BJ.1 he;exact⟨e,this.1,this.2,h1⟩
theorem St.up {own:List Ent} {loc:Nat->Loc} {M0:List Nat} {w w':World} {id r:Nat} {obj:DObj} {L:Loc} {n:Nat}
  (S:St own loc M0 w.heap) (qH:w.heap.size<=w'.heap.size) (hLn:L.blks.Nodup)
  (fD:∀b,b<w.heap.size->(∀e∈own,e.id=id->b∉(loc id).blks)->w'.heap[b]? =w.heap[b]?)
  (hL:∀b,b∈L.blks->b<w'.heap.size/\((∃e∈own,e.id=id/\b∈(loc id).blks)\/w.heap.size<=b))
  (hr:n<=r\/Ae own loc id r=some L) (hn:Hj own<=n)
  (wE:KW (Ae (upE own id r obj) (Dc loc id L)) (Ab (upE own id r obj) (Dc loc id L)++M0) w'.heap L obj) :
  St (upE own id r obj) (Dc loc id L) M0 w'.heap/\(∀b∈Ab (upE own id r obj) (Dc loc id L),b∈Ab own loc\/w.heap.size<=b) /\
   (∀e∈upE own id r obj,e.r<n->Ae own loc e.id e.r=some (Dc loc id L e.id))/\(∀b,b<w.heap.size->b∉Ab own loc->w'.heap[b]? =w.heap[b]?):=by
 have wD:∀b∈Ab (upE own id r obj) (Dc loc id L),b∈Ab own loc\/w.heap.size<=b:=by
  intro b hb;obtain⟨e,he,h1⟩:=bT0.1 hb
  rcases aJ0.1 he with rfl | he
  ·simp only[Dc,if_true]at h1
   rcases (hL b h1).2 with ⟨e,he,hid,h2⟩ | h2
   ·exact .inl (Bm he (by rw[hid];exact h2))
   ·exact .inr h2
  ·have:=BJ.1 he;simp only[Dc,if_neg this.2]at h1;exact .inl (Bm this.1 h1)
 have zV:∀e∈upE own id r obj,e.r<n->Ae own loc e.id e.r=some (Dc loc id L e.id):=by
  intro e he qV
  rcases aJ0.1 he with rfl | he
  ·simp only[Dc,if_true]
   rcases hr with h | h
   ·simp only at qV;omega
   ·exact h
  ·have:=BJ.1 he;simp only[Dc,if_neg this.2];exact AV S.nd this.1
 have hblk:∀b,b<w.heap.size->b∉Ab own loc->w'.heap[b]? =w.heap[b]? :=fun b hb nJ=>fD b hb (fun e he hid h=>nJ (Bm he (by rw[hid];exact h)))
 refine⟨⟨?_,?_,?_,?_,?_⟩,wD,zV,hblk⟩
 ·simp only[upE,List.map_cons,cS0];refine⟨fun hm=> ?_,Eu S.nd⟩;obtain⟨e,he,h1⟩:=aR0.1 hm;exact(BJ.1 he).2 h1
 ·unfold upE;rw[Em,SX,bV0];simp only[Dc,if_true];refine⟨hLn,El S.bl _ (Eu S.nd) (fun e he=>(BJ.1 he).1),?_⟩;intro b hb b' qD jZ;subst jZ;obtain⟨e,he,qC,h1⟩:=QW qD
  rcases (hL b hb).2 with ⟨e2,zX,hid,h2⟩ | h2
  ·have:=Gj S.bl e he e2 zX b h1 (by rw[hid];exact h2);subst this;exact qC hid
  ·have:=S.lt b (aN0 _ (Bm he h1));omega
 ·intro b hb hm
  rcases wD b hb with h | h
  ·exact S.ap b h hm
  ·have:=S.lt b (aP0 _ hm);omega
 ·intro b hb
  rcases aI0.1 hb with h | h
  ·obtain⟨e,he,h1⟩:=bT0.1 h
   rcases aJ0.1 he with rfl | he
   ·simp only[Dc,if_true]at h1;exact(hL b h1).1
   ·have:=BJ.1 he;simp only[Dc,if_neg this.2]at h1;exact bY0 (S.lt b (aN0 _ (Bm this.1 h1))) qH
  ·exact bY0 (S.lt b (aP0 _ h)) qH
 ·intro e he
  rcases aJ0.1 he with rfl | he
  ·simpa[Dc]using wE
  ·have qO:=BJ.1 he;simp only[Dc,if_neg qO.2];have hU:Upd (Ab own loc) w ⟨w'.heap,w.tape,w.drawn,w.os,w.output⟩:=⟨rfl,rfl,rfl,fun _=>Nat.le_refl _,qH,hblk⟩
   have W:Weak (Ae own loc) (Ae (upE own id r obj) (Dc loc id L)) (Ab own loc++M0) (Ab (upE own id r obj) (Dc loc id L)++M0) w.heap w'.heap n :=
    Fh (w':=⟨w'.heap,w.tape,w.drawn,w.os,w.output⟩) hU wD zV
   have vF:=(Bs qO.1).2
   have keep:∀b o,b∈(loc e.id).blks->w.heap[b]? =some o->w'.heap[b]? =some o:=by
    intro b o hb ho;rw[fD b (aF0.1 ho).1 (fun e2 zX hid h2=> ?_)]
    ·exact ho
    ·have:=Gj S.bl e qO.1 e2 zX b hb (by rw[hid];exact h2);subst this;exact qO.2 hid
   exact Bp W (by omega) keep (S.ok e qO.1)
section
variable {P : Program} {B : Base} {s : DS} {a : Act} {w : World} {loc : Nat -> Loc}
def Co (B:Base) (s:DS):Nat:=max B.N (max (Lj s.slots) (Hj s.own))
theorem Rel.up {w':World} {id r:Nat} {obj:DObj} {L:Loc} {v:Value} {d:DVal} {dst:Option Nat} {n:Nat}
  (R:Rel B s a w loc) (qF:Co B s<=n) (qI:∀i,dst=some i->i<B.nt) (hw:Upd (Ab s.own loc) w w')
  (fD:∀b,b<w.heap.size->(∀e∈s.own,e.id=id->b∉(loc id).blks)->w'.heap[b]? =w.heap[b]?)
  (hL:∀b,b∈L.blks->b<w'.heap.size/\((∃e∈s.own,e.id=id/\b∈(loc id).blks)\/w.heap.size<=b))
  (hr:n<=r\/Ae s.own loc id r=some L)
  (wE:KW (Ae (upE s.own id r obj) (Dc loc id L)) (Ab (upE s.own id r obj) (Dc loc id L)++B.M0) w'.heap L obj)
  (hd:rd (Ae (upE s.own id r obj) (Dc loc id L)) (Ab (upE s.own id r obj) (Dc loc id L)++B.M0) w'.heap d v) (hLn:L.blks.Nodup:=by simp) :
  Rel B ⟨BI s.slots dst d,upE s.own id r obj⟩ (a.put dst v) w' (Dc loc id L):=by
 unfold Co at qF;obtain⟨h1,h2,h3,_⟩:=R.st.up hw.size hLn fD hL hr (by omega) wE;exact R.step (n:=n) (by omega) (by omega) qI h1 hw h2 h3 hd
theorem Rel.weakUp {w':World} {id r:Nat} {obj:DObj} {L:Loc} {n:Nat} (R:Rel B s a w loc) (qF:Co B s<=n) (hw:Upd (Ab s.own loc) w w')
  (hL:∀b,b∈L.blks->b<w'.heap.size/\((∃e∈s.own,e.id=id/\b∈(loc id).blks)\/w.heap.size<=b))
  (hr:n<=r\/Ae s.own loc id r=some L):Weak (cu s loc) (Ae (upE s.own id r obj) (Dc loc id L)) (hm s loc B.M0) (Ab (upE s.own id r obj) (Dc loc id L)++B.M0) w.heap w'.heap n:=by
 refine Fh hw ?_ ?_
 ·intro b hb;obtain⟨e,he,h1⟩:=bT0.1 hb
  rcases aJ0.1 he with rfl | he
  ·simp only[Dc,if_true]at h1
   rcases (hL b h1).2 with ⟨e,he,hid,h2⟩ | h2
   ·exact .inl (Bm he (by rw[hid];exact h2))
   ·exact .inr h2
  ·have:=BJ.1 he;simp only[Dc,if_neg this.2]at h1;exact .inl (Bm this.1 h1)
 ·intro e he qV
  rcases aJ0.1 he with rfl | he
  ·simp only[Dc,if_true]
   rcases hr with h | h
   ·simp only at qV;omega
   ·exact h
  ·have:=BJ.1 he;simp only[Dc,if_neg this.2];exact AV R.st.nd this.1
theorem DL (id r:Nat) (obj:DObj) (own:List Ent) (loc:Nat->Loc) (L:Loc):Ae (upE own id r obj) (Dc loc id L) id r=some L:=by
 simp[Ae,upE,Ar,Dc]
theorem GG {cur:Fb} {M:List Nat} {H:Array Obj}:∀(cs:List DVal) (us pre post:List Value),AI cur M H cs us->(∀u∈us,u.oneCell'=true)->Ea cur M H cs (pre++us++post).toArray pre.length
 | [],_,_,_,_,_=>by simp[Ea]
 | d::ds,us,pre,post,hr,ho=>by
  simp only[AI]at hr;obtain⟨v,r,rfl,h1,h2⟩:=hr;simp only[Ea];refine⟨⟨v,by simp,ho v aE0,h1⟩,?_⟩;have:=GG ds r (pre++[v]) post h2 (fun u hu=>ho u (aC0 _ hu));simpa using this
theorem Upd.alloc' (H:List Nat) (w:World) (o:Obj):Upd H w (w.alloc o):=Upd.alloc H w o
theorem Rel.newBox {id n:Nat} {cs:List DVal} {us:List Value} {ty:TypeId} {dst:Option Nat} (R:Rel B s a w loc) (qF:Co B s<=n) (vF:AR cs<=n) (qI:∀i,dst=some i->i<B.nt)
  (vH:AI (cu s loc) (hm s loc B.M0) w.heap cs us) (qP:∀u∈us,u.oneCell'=true) :
  Rel B ⟨BI s.slots dst (.bx id n 0),upE s.own id n (.box cs)⟩ (a.put dst (.pointer (some ⟨w.heap.size,0,none⟩))) (w.alloc (.cells us.toArray ty)) (Dc loc id ⟨[w.heap.size],Go.undef⟩):=by
 have hw:=Upd.alloc' (Ab s.own loc) w (.cells us.toArray ty)
 have hL:∀b,b∈(⟨[w.heap.size],Go.undef⟩:Loc).blks->b<(w.alloc (.cells us.toArray ty)).heap.size/\((∃e∈s.own,e.id=id/\b∈(loc id).blks)\/w.heap.size<=b):=by
  intro b hb;simp only[aG0]at hb;subst hb;exact⟨by simp,.inr (Nat.le_refl _)⟩
 have W:=R.weakUp (obj:= .box cs) qF hw hL (.inl (Nat.le_refl _));refine R.up qF qI hw (fun b hb _=>by simp only[World.alloc,bI0];rw[if_neg (by omega)]) hL (.inl (Nat.le_refl _)) ?_ ?_
 ·refine⟨w.heap.size,us.toArray,ty,rfl,heap_alloc_new w _,by have:=AJ _ _ vH;simpa using this,?_⟩;have:=GG cs us [] [] (Bd W cs us vF vH) qP;simpa using this
 ·simp only[rd];intro l hl;rw[DL]at hl;simp only[aA0]at hl;subst hl;exact⟨_,rfl,rfl⟩
theorem Nb {b off:Nat} {arr:Array Value} {ty t:TypeId} {v:Value} (hh:w.heap[b]? =some (.cells arr ty (0,0))) (hc:tCells P t=some v.cells.size) (vZ:off+v.cells.size<=arr.size) (qP:∀u∈v.cells.toList,u.oneCell'=true) :
  (Instr.storeAt t (.pointer (some ⟨b,off,none⟩)) v).run P w= .ok () (w.setRow b (arr.toList.take off++v.cells.toList++arr.toList.drop (off+v.cells.size)).toArray):=by
 have qL:=run_storeCells_at P b off ty v.cells.toList 0 arr w hh (by simpa using vZ) qP;simp only[dQ0,bQ0]at qL;simp[Instr.storeAt,Instr.sureAddr,storeVar,CW hc,qL]
theorem Upd.setRow {own:List Ent} {loc:Nat->Loc} {e:Ent} {b:Nat} (he:e∈own) (hb:b∈(loc e.id).blks) (w:World) (cs:Array Value):Upd (Ab own loc) w (w.setRow b cs) :=
 ⟨rfl,rfl,rfl,fun _=>Nat.le_refl _,by simp,fun b' _ hn=>setRow_other w b b' cs (fun h=>hn (by rw[h];exact Bm he hb))⟩
theorem CH {cur:Fb} {M:List Nat} {H:Array Obj}:∀(cs:List DVal) (arr arr':Array Value) (o o':Nat),(∀j,j<cs.length->arr'[o'+j]? =arr[o+j]?)->Ea cur M H cs arr o->Ea cur M H cs arr' o'
 | [],_,_,_,_,_,_=>by simp[Ea]
 | d::cs,arr,arr',o,o',h,hr=>by
  simp only[Ea]at hr |-;obtain⟨⟨v,h1,h2,h3⟩,h4⟩:=hr;refine⟨⟨v,by have:=h 0 (by simp);simp only[dQ0]at this;rw[this];exact h1,h2,h3⟩,CH cs arr arr' (o+1) (o'+1) (fun j hj=> ?_) h4⟩;have:=h (j+1) (by simp;omega)
  rwa[show o'+(j+1)=o'+1+j by omega,show o+(j+1)=o+1+j by omega]at this
theorem Ni {cur:Fb} {M:List Nat} {H:Array Obj}:∀(a b:List DVal) (arr:Array Value) (o:Nat),Ea cur M H a arr o->Ea cur M H b arr (o+a.length)->Ea cur M H (a++b) arr o
 | [],b,arr,o,_,h=>by simpa using h
 | d::a,b,arr,o,h1,h2=>by
  simp only[Ea,List.cons_append]at h1 |-;refine⟨h1.1,Ni a b arr (o+1) h1.2 ?_⟩;simpa[dJ0,Nat.add_comm 1]using h2
theorem Jm : ∀(a b:List DVal),AR (a++b)=max (AR a) (AR b)
 | [],b=>by simp[AR]
 | d::a,b=>by simp only[List.cons_append,AR,Jm a b];omega
theorem Np : ∀(n:Nat) (a:List DVal),AR (a.take n)<=AR a
 | 0,a=>by simp[AR]
 | n+1,[]=>by simp[AR]
 | n+1,d::a=>by simp only[dK0,AR];have:=Np n a;omega
theorem GP : ∀(n:Nat) (a:List DVal),AR (a.drop n)<=AR a
 | 0,a=>by simp
 | n+1,[]=>by simp
 | n+1,d::a=>by simp only[dY0,AR];have:=GP n a;omega
theorem La (cells:List DVal) (off:Nat) (cs:List DVal):AR (DG cells off cs)<=max (AR cells) (AR cs):=by
 unfold DG;rw[Jm,Jm];have:=Np off cells;have:=GP (off+cs.length) cells;omega
theorem PT (l:List (Nat×DVal)) (x:Operand):mx (ev l x)<=Lj l:=by
 cases x with
 | tmp t=>exact QP l t
 | const v =>
  have h1:∀v,mx (Cm v)=0:=by
   intro v;unfold Cm
   split<;>(try split)<;>simp[mx]
  simp only[ev,ofV]
  split
  ·rename_i cs;simp only[mx]
   have:∀l:List Value,AR (l.map Cm)=0:=by
    intro l
    induction l with
    | nil=>simp[AR]
    | cons v l ih=>simp[AR,h1,ih]
   rw[this];omega
  ·rw[h1];omega
 | global g=>simp[ev,mx]
 | func f=>simp[ev,mx,AR]
theorem CJ (d:DVal):AR (AP d)=mx d:=by
 cases d<;>simp[AP,mx,AR]
theorem QR {n:Nat}:∀{l:List (List DVal)},(∀d∈l,AR d<=n)->Bx l<=n
 | [],_=>by simp[Bx]
 | x::l,h=>by
  simp only[Bx];have:=h x aE0;have:=QR (l:=l) fun d hd=>h d (aC0 _ hd)
  omega
theorem AY {own:List Ent} {id:Nat} {e:Ent} (h:Ar own id=some e):e∈own/\e.id=id:=AN h
theorem Rel.storeBox {id r off n:Nat} {cs:List DVal} {e:Ent} {d:DVal} {t:TypeId} {v:Value} {ad:Value} (R:Rel B s a w loc) (he:Ar s.own id=some e) (wO:e.r=r) (qW:e.obj= .box cs)
  (ha:Bt s loc B.M0 w (.bx id r off) ad) (hd:Bt s loc B.M0 w d v) (hp:CD s.own d=true) (hc:tCells P t=some (AP d).length) (vZ:off+(AP d).length<=cs.length) (vF:mx d<=Lj s.slots) (hn:Co B s<=n) :
  ∃w',(Instr.storeAt t ad v).run P w= .ok () w'/\Rel B ⟨s.slots,upE s.own id r (.box (DG cs off (AP d)))⟩ a w' (Dc loc id (loc id)):=by
 obtain⟨qO,hid⟩:=AY he;have hk:=R.st.ok e qO;rw[qW]at hk;obtain⟨b,arr,ty,h1,h2,h3,h4⟩:=hk;rw[hid]at h1;have qE:Ae s.own loc id r=some (loc id):=by unfold Ae;rw[he];simp[wO]
 simp only[Bt,rd]at ha;obtain⟨b',qD,rfl⟩:=ha _ qE;have wQ:b∈(loc id).blks:=by rw[h1];simp
 rw[h1]at qD;simp only[bG0,and_true]at qD;subst qD;obtain⟨hcv,qP⟩:=IC R.st hp hd;have cO:=AJ _ _ hcv;simp only[bQ0]at cO;have qB:=Nb (P:=P) (w:=w) (b:=b) (off:=off) (t:=t) (v:=v) h2 (by rw[hc,cO]) (by omega) qP;refine⟨_,qB,?_⟩;have hw:Upd (Ab s.own loc) w (w.setRow b (arr.toList.take off++v.cells.toList++arr.toList.drop (off+v.cells.size)).toArray):=Upd.setRow qO (by rw[hid];exact wQ) w _
 have hL:∀b0,b0∈(loc id).blks->b0<(w.setRow b (arr.toList.take off++v.cells.toList++arr.toList.drop (off+v.cells.size)).toArray).heap.size/\((∃e∈s.own,e.id=id/\b0∈(loc id).blks)\/w.heap.size<=b0):=by
  intro b0 qR;refine⟨?_,.inl ⟨e,qO,hid,qR⟩⟩;rw[h1]at qR;simp only[aG0]at qR;subst qR;have:=(aF0.1 h2).1;simpa using this
 have W:=R.weakUp (obj:= .box (DG cs off (AP d))) hn hw hL (.inr qE);have vG:=(Bs qO).2;rw[qW]at vG;simp only[Fp]at vG;unfold Co at hn;refine R.up (hLn:=by rw[h1];simp) (dst:=none) (v:=Go.undef) (d:= .any) (n:=n) (by unfold Co;exact hn) (fun i hi=>by simp at hi) hw ?_ hL (.inr qE) ?_ (by simp[rd])
 ·intro b0 qR qC;refine setRow_other w b b0 _ (fun h=>qC e qO hid ?_);rw[h];exact wQ
 ·refine⟨b,_,ty,h1,setRow_heap w b arr _ ty (0,0) h2,?_,?_⟩
  ·simp[DG,h3,<-cO]
  ·unfold DG;have l1:(arr.toList.take off).length=off:=by simp;omega
   refine Ni _ _ _ _ (Ni _ _ _ _ ?_ ?_) ?_
   ·refine CH _ arr _ 0 0 (fun j hj=> ?_) (Nh off _ _ _ (FH W cs arr 0 (by omega) h4));have cP:j<off:=by simp at hj;omega
    simp only[bS0,dP0,aQ0];rw[aZ0 (by omega),bX0 cP];simp
   ·have vT:=GG (AP d) v.cells.toList (arr.toList.take off) (arr.toList.drop (off+v.cells.size)) (Bd W _ _ (by rw[CJ];omega) hcv) qP;have e1:0+(cs.take off).length=(arr.toList.take off).length:=by simp;omega
    rw[e1];exact vT
   ·have hdr:=GH (off+(AP d).length) cs arr 0 (FH W cs arr 0 (by omega) h4);have e1:0+(cs.take off++AP d).length=0+(off+(AP d).length):=by simp;omega
    rw[e1];refine CH _ arr _ _ _ (fun j hj=> ?_) hdr;simp only[bS0,dP0];rw[bD0 (by simp;omega),dD0];have e2:off+(AP d).length+j-(arr.toList.take off++v.cells.toList).length=j:=by simp;omega
    rw[e2,cO];simp
theorem FG {cur:Fb} {M:List Nat} {H:Array Obj} (k:Nat):∀(es:List (List DVal)) (arr:Array Value) (o:Nat),EB cur M H k es arr o ->
  ∃rows:List (List Value),rows.length=es.length/\rows.flatten.length=es.length*k/\(∀(i:Nat) (cs:List DVal) (us:List Value),es[i]? =some cs->rows[i]? =some us->cs.length=k/\AI cur M H cs us/\∀u∈us,u.oneCell'=true) /\
   (∀j v,rows.flatten[j]? =some v->arr[o+j]? =some v/\v.oneCell'=true)
 | [],arr,o,_=>⟨[],rfl,by simp,by simp,by simp⟩
 | c::es,arr,o,hr=>by
  simp only[EB]at hr;obtain⟨h1,h2,h3⟩:=hr;obtain⟨vs,g1,g2,g3⟩:=FI c arr o h2;obtain⟨rows,k1,k2,k3,k4⟩:=FG k es arr (o+k) h3;refine⟨vs::rows,by simp[k1],by simp only[eW0,aD0,k2,List.length_cons,bU0];omega,?_,?_⟩
  ·intro i cs us hi hu
   cases i with
   | zero =>
    simp only[bB0,aA0]at hi hu;subst hi;subst hu;refine⟨h1,g2,fun u hu=> ?_⟩;obtain⟨j,hj,rfl⟩:=bK0 hu;exact(g3 j _ (aH0 hj)).2
   | succ i=>exact k3 i cs us (by simpa using hi) (by simpa using hu)
  ·intro j v hj;simp only[eW0]at hj
   by_cases qV:j<vs.length
   ·rw[aZ0 qV]at hj;exact g3 j v hj
   ·rw[bD0 (by omega)]at hj;have:=k4 _ v hj
    rwa[show o+k+(j-vs.length)=o+j by omega]at this
theorem Xs {cur:Fb} {M:List Nat} {H:Array Obj} (k:Nat) (es:List (List DVal)) (rows:List (List Value)) (post:List Value) (hl:rows.length=es.length)
  (h:∀(i:Nat) (cs:List DVal) (us:List Value),es[i]? =some cs->rows[i]? =some us->cs.length=k/\AI cur M H cs us/\∀u∈us,u.oneCell'=true):EB cur M H k es (rows.flatten++post).toArray 0:=by
 have key:∀(es:List (List DVal)) (rows:List (List Value)) (pre:List Value),rows.length=es.length ->
   (∀(i:Nat) (cs:List DVal) (us:List Value),es[i]? =some cs->rows[i]? =some us->cs.length=k/\AI cur M H cs us/\∀u∈us,u.oneCell'=true)->EB cur M H k es (pre++rows.flatten++post).toArray pre.length:=by
  intro es
  induction es with
  | nil=>intros;simp[EB]
  | cons c es ih =>
   intro rows pre hl h
   cases rows with
   | nil=>simp at hl
   | cons u rows =>
    have h0:=h 0 c u (by simp) (by simp);have qU:=AJ _ _ h0.2.1;simp only[EB];refine⟨h0.1,?_,?_⟩
    ·have:=GG c u pre (rows.flatten++post) h0.2.1 h0.2.2;simpa using this
    ·have:=ih rows (pre++u) (by simpa using hl) (fun i cs us h1 h2=>h (i+1) cs us (by simpa using h1) (by simpa using h2));have e:(pre++u).length=pre.length+k:=by simp[qU,h0.1]
     rw[e]at this;simpa using this
 simpa using key es rows [] hl h
theorem BG : ∀(a b:List (List DVal)),Bx (a++b)=max (Bx a) (Bx b)
 | [],b=>by simp[Bx]
 | d::a,b=>by simp only[List.cons_append,Bx,BG a b];omega
def Kh (own:List Ent) (d:DVal):Option (Nat×List (List DVal)) :=
 match d with
 | .nilsl=>some (0,[])
 | .esl=>some (0,[])
 | d=>(Bn own d).map fun x=>(x.1,x.2.2)
theorem GO : ∀(m:Nat) (l:List (List DVal)),Bx (l.drop m)<=Bx l
 | 0,l=>by simp
 | m+1,[]=>by simp
 | m+1,d::l=>by simp only[dY0,Bx];have:=GO m l;omega
theorem GN : ∀(m:Nat) (l:List (List DVal)),Bx (l.take m)<=Bx l
 | 0,l=>by simp[Bx]
 | m+1,[]=>by simp
 | m+1,d::l=>by simp only[dK0,Bx];have:=GN m l;omega
theorem OH {own:List Ent} {d:DVal} {k bs:Nat} {es:List (List DVal)} (h:Bn own d=some (k,bs,es)):Bx es<=max (mx d) (Hj own):=by
 unfold Bn at h
 split at h
 ·simp only[aA0,aT0]at h;obtain⟨_,_,rfl⟩:=h;simp only[mx];omega
 ·split at h
  ·rename_i e he
   split at h
   ·split at h
    ·rename_i qW;simp only[aA0,aT0]at h;obtain⟨_,_,rfl⟩:=h;have:=(Bs (AY he).1).2;rw[qW]at this;simp only[Fp]at this;omega
    ·simp at h
   ·simp at h
  ·simp at h
 ·split at h
  ·rename_i e he
   split at h
   ·split at h
    ·rename_i qW
     split at h
     ·simp only[aA0,aT0]at h;obtain⟨_,_,rfl⟩:=h;have:=(Bs (AY he).1).2;rw[qW]at this;simp only[Fp]at this;exact Nat.le_trans (GN _ _) (Nat.le_trans (GO _ _) (by omega))
     ·simp at h
    ·simp at h
   ·simp at h
  ·simp at h
 ·simp at h
theorem GW_ (S:St s.own loc B.M0 w.heap) {d:DVal} {v:Value} {k:Nat} {es:List (List DVal)} (hd:Bt s loc B.M0 w d v) (h:Kh s.own d=some (k,es)) :
  ∃(rows:List (List Value)),rows.length=es.length/\(∀(i:Nat) (cs:List DVal) (us:List Value),es[i]? =some cs->rows[i]? =some us->cs.length=k/\AI (cu s loc) (hm s loc B.M0) w.heap cs us/\∀u∈us,u.oneCell'=true) /\
   rows.flatten.length=es.length*k/\(∀u∈rows.flatten,u.oneCell'=true)/\es.length<=maxLen /\
   ((es=[]/\∃x cap,v= .slice x 0 cap)\/∃ad cap,v= .slice (some ad) es.length cap/\∀j u,rows.flatten[j]? =some u->w.cell? (ad.add j)=some u):=by
 unfold Kh at h;have gen:∀bs,Bn s.own d=some (k,bs,es)->_:=fun bs hr=>Le (k:=k) (bs:=bs) (es:=es) S hd hr
 have fin:(Bn s.own d).map (fun x=>(x.1,x.2.2))=some (k,es)->∃(rows:List (List Value)),rows.length=es.length/\(∀(i:Nat) (cs:List DVal) (us:List Value),es[i]? =some cs->rows[i]? =some us->cs.length=k/\AI (cu s loc) (hm s loc B.M0) w.heap cs us/\∀u∈us,u.oneCell'=true) /\
   rows.flatten.length=es.length*k/\(∀u∈rows.flatten,u.oneCell'=true)/\es.length<=maxLen /\
   ((es=[]/\∃x cap,v= .slice x 0 cap)\/∃ad cap,v= .slice (some ad) es.length cap/\∀j u,rows.flatten[j]? =some u->w.cell? (ad.add j)=some u):=by
  intro vE;rw[bC0]at vE;obtain⟨⟨k',bs,es'⟩,hr,he⟩:=vE;simp only[aT0]at he;obtain⟨rfl,rfl⟩:=he;obtain⟨x,cap,rfl,h2,h3,h4,h5⟩:=Le S hd hr
  rcases h5 with rfl | ⟨b,off,arr,ty,fz,rfl,g2,g3⟩
  ·exact⟨[],rfl,by simp,by simp,by simp,cH0 _,.inl ⟨rfl,_,_,rfl⟩⟩
  ·obtain⟨rows,r1,r2,r3,r4⟩:=FG k' es' arr off g3;refine⟨rows,r1,r3,r2,?_,by omega,.inr ⟨_,cap,rfl,?_⟩⟩
   ·intro u hu;obtain⟨j,hj,rfl⟩:=bK0 hu;exact(r4 j _ (aH0 hj)).2
   ·intro j u hj;rw[DX];simp only[World.cell?,g2];exact(r4 j u hj).1
 split at h
 ·simp only[aA0,aT0]at h;obtain⟨rfl,rfl⟩:=h;simp only[Bt,rd]at hd;subst hd;exact⟨[],rfl,by simp,by simp,by simp,cH0 _,.inl ⟨rfl,_,_,rfl⟩⟩
 ·simp only[aA0,aT0]at h;obtain⟨rfl,rfl⟩:=h;simp only[Bt,rd]at hd;obtain⟨ad,cap,rfl,_⟩:=hd;exact⟨[],rfl,by simp,by simp,by simp,cH0 _,.inl ⟨rfl,_,_,rfl⟩⟩
 ·exact fin h
def tElemId (P:Program) (t:TypeId):Option TypeId:=match P.underlying t with | some (.slice e)=>some e | _=>none
def zeroOK (P:Program) (t:TypeId):Bool:=match P.underlying t with
 | some (.slice e)=>match P.info? e with
  | some i=>match i.zero with | some z=>z.cells.size==i.size | none=>false
  | none=>false
 | _=>false
theorem Es {t ty e:TypeId} {i:TypeInfo} (hu:P.underlying t=some (.slice e)) (hi:P.info? e=some i) {x y:Option Addr} {m cap cap2:Nat} (vE:m<=cap) :
  (Builtin.append_ #[t,t] ty #[.slice y m cap,.slice x 0 cap2]).run P w= .ok (.slice y m cap) w:=by
 cases x<;>cases y<;>simp[Builtin.append_,run_underlying hu,sizeOf,typeInfo,hi,Builtin.lenOf,Builtin.firstCells,vE,storeCells,loadCells,loadCellsFrom]
theorem HX {arr:Array Value} {rows:List (List Value)} {m:Nat} (hl:rows.flatten.length=m) (h:∀j v,rows.flatten[j]? =some v->arr[0+j]? =some v/\v.oneCell'=true) (vE:m<=arr.size):arr.toList.take m=rows.flatten:=by
 apply List.ext_getElem?
 intro j
 by_cases hj:j<m
 ·rw[bX0 hj];have cP:j<rows.flatten.length:=by omega
  have:=(h j _ (aH0 cP)).1;rw[bS0]at this;rw[aH0 cP,<-this];simp
 ·rw[eI0 (by simp;omega),eI0 (by omega)]
theorem Nv {cur:Fb} {M:List Nat} {H:Array Obj} {k:Nat} {es es2:List (List DVal)} {rows rows2:List (List Value)} (l1:rows.length=es.length) (l2:rows2.length=es2.length)
  (h1:∀(i:Nat) (cs:List DVal) (us:List Value),es[i]? =some cs->rows[i]? =some us->cs.length=k/\AI cur M H cs us/\∀u∈us,u.oneCell'=true)
  (h2:∀(i:Nat) (cs:List DVal) (us:List Value),es2[i]? =some cs->rows2[i]? =some us->cs.length=k/\AI cur M H cs us/\∀u∈us,u.oneCell'=true) (post:List Value) :
  EB cur M H k (es++es2) (rows.flatten++rows2.flatten++post).toArray 0:=by
 rw[<-List.flatten_append];refine Xs k _ _ _ (by simp[l1,l2]) ?_;intro i cs us hc hu
 by_cases hi:i<es.length
 ·rw[aZ0 hi]at hc;rw[aZ0 (by omega)]at hu;exact h1 i cs us hc hu
 ·rw[bD0 (by omega)]at hc;rw[bD0 (by omega)]at hu;rw[l1]at hu;exact h2 _ cs us hc hu
theorem EA {cur cur':Fb} {M M':List Nat} {H H':Array Obj} {n k:Nat} (W:Weak cur cur' M M' H H' n) {es:List (List DVal)} {rows:List (List Value)} (vE:Bx es<=n)
  (h:∀(i:Nat) (cs:List DVal) (us:List Value),es[i]? =some cs->rows[i]? =some us->cs.length=k/\AI cur M H cs us/\∀u∈us,u.oneCell'=true) :
  ∀(i:Nat) (cs:List DVal) (us:List Value),es[i]? =some cs->rows[i]? =some us->cs.length=k/\AI cur' M' H' cs us/\∀u∈us,u.oneCell'=true:=by
 intro i cs us hc hu;obtain⟨g1,g2,g3⟩:=h i cs us hc hu;refine⟨g1,Bd W cs us ?_ g2,g3⟩
 have:∀(l:List (List DVal)) (i:Nat),l[i]? =some cs->AR cs<=Bx l:=by
  intro l
  induction l with
  | nil=>intro i h;simp at h
  | cons c l ih =>
   intro i h
   cases i with
   | zero=>simp only[bB0,aA0]at h;subst h;simp only[Bx];omega
   | succ i=>have:=ih i (by simpa using h);simp only[Bx];omega
 have:=this es i hc;omega
def DG_ (s:DS) (loc:Nat->Loc) (w:World) (M0:List Nat) (id:Nat) (et k bs:Nat) (es:List (List DVal)) (dv:Value):Prop :=
 (es=[]/\dv= .slice none 0 0) \/
 ∃e0∈s.own,e0.id=id/\∃b arr cap,(loc id).blks=[b]/\dv= .slice (some ⟨b,0,none⟩) es.length cap/\w.heap[b]? =some (.cells arr et (0,0))/\es.length<=cap/\cap<=maxLen/\cap*k=arr.size/\EB (cu s loc) (hm s loc M0) w.heap k es arr 0
theorem El_ (S:St s.own loc B.M0 w.heap) {id r et k bs:Nat} {es:List (List DVal)} {e0:Ent} {dv:Value} (he:Ar s.own id=some e0) (wO:e0.r=r) (qW:e0.obj= .row et k bs es) (hd:Bt s loc B.M0 w (.osl id r) dv):DG_ s loc w B.M0 id et k bs es dv:=by
 obtain⟨qO,hid⟩:=AY he;have hk:=S.ok e0 qO;rw[qW]at hk;obtain⟨_,hk⟩:=hk;simp only[Bt,rd]at hd;have hv:=hd (loc id) (by show Ae _ _ _ _=_;unfold Ae;rw[he];simp[wO]);rw[hid]at hk
 rcases hk with ⟨h1,h2,h3⟩ | ⟨b,arr,cap,h1,h2,h3,h4,h5,h6,h7⟩
 ·exact .inl ⟨h1,by rw[hv,h3]⟩
 ·exact .inr ⟨e0,qO,hid,b,arr,cap,h1,by rw[hv,h2],h3,h4,h5,h6,h7⟩
theorem LU_ {need old bs:Nat} (h:old<need) (hb:need*bs<=150000000000000) (h2:bs<=65536):Builtin.nextslicecap need old*bs<=281474976710656:=by
 refine growslice_fits_wide h ?_
 have h3:need/4*bs*4<=need*bs:=by
  rw[Nat.mul_right_comm];exact aS0 _ (Nat.div_mul_le_self need 4)
 have h4:192*bs<=192*65536:=cE0 _ h2;rw[bU0,bU0];omega
theorem Rel.append {id n:Nat} {t ty e:TypeId} {k bs k2:Nat} {es es2:List (List DVal)} {sd:DVal} {dv sv:Value} {dst:Option Nat} (R:Rel B s a w loc) (qF:Co B s<=n) (qI:∀i,dst=some i->i<B.nt)
  (ht:tElem P t=some (k,bs)) (kP:tElemId P t=some e) (hz:zeroOK P t=true) (hk:0<k) (wC:DG_ s loc w B.M0 id e k bs es dv) (fF:Bx es<=n)
  (hsv:Bt s loc B.M0 w sd sv) (wS:Kh s.own sd=some (k2,es2)) (yI:k2=k\/es2=[]) (fX:Bx es2<=n) (hb:(es.length+es2.length)*bs<=150000000000000) (wW:bs<=65536) (hl:es.length+es2.length<=maxLen) :
  ∃v' w' L,(Builtin.append_ #[t,t] ty #[dv,sv]).run P w= .ok v' w'/\Rel B ⟨BI s.slots dst (.osl id n),upE s.own id n (.row e k bs (es++es2))⟩ (a.put dst v') w' (Dc loc id L):=by
 obtain⟨e',i,hu,hi,qH,hby,_⟩:=BL ht;have pY:e'=e:=by unfold tElemId at kP;rw[hu]at kP;simpa using kP
 subst pY
 obtain⟨z,kK,hzs⟩:∃z,i.zero=some z/\z.cells.size=k:=by
  unfold zeroOK at hz;rw[hu]at hz;simp only[hi]at hz
  cases hq:i.zero with
  | none=>simp[hq]at hz
  | some z=>simp only[hq,beq_iff_eq]at hz;exact⟨z,rfl,by rw[hz,qH]⟩
 obtain⟨rows2,q1,q2,q3,q4,q5,q6⟩:=GW_ (B:=B) R.st hsv wS;have yU:(es++es2).length*bs<=150000000000000:=by simpa using hb
 have mx12:Bx (es++es2)<=n:=by rw[BG];omega
 -- what the slot reads at the end
 have rdEnd:∀(L:Loc) (h:Array Obj) (obj:DObj),rd (Ae (upE s.own id n obj) (Dc loc id L)) (Ab (upE s.own id n obj) (Dc loc id L)++B.M0) h (.osl id n) L.hdr:=by
  intro L h obj;simp only[rd];intro l wI;rw[DL]at wI;simp only[aA0]at wI;rw[wI]
 rcases q6 with ⟨rfl,x,cap2,rfl⟩ | ⟨ad,cap2,rfl,q6⟩
 ·-- nothing is appended
  rw[bR0]at *
  rcases wC with ⟨rfl,rfl⟩ | ⟨e0,qO,hid,b,arr,cap,kT,rfl,h3,h4,h5,h6,h7⟩
  ·refine⟨_,w,⟨[],.slice none 0 0⟩,Es hu hi (Nat.le_refl _),?_⟩;refine R.up (L:=⟨[],.slice none 0 0⟩) qF qI (Upd.refl _ _) (fun b hb _=>rfl) (fun b hb=>by simp at hb) (.inl (Nat.le_refl _)) ⟨by simp,.inl ⟨rfl,rfl,rfl⟩⟩ (rdEnd ⟨[],.slice none 0 0⟩ _ _)
  ·have h1:b∈(loc id).blks:=by rw[kT];simp
   refine⟨_,w,⟨[b],.slice (some ⟨b,0,none⟩) es.length cap⟩,Es hu hi h4,?_⟩
   have hL:∀b0,b0∈(⟨[b],.slice (some ⟨b,0,none⟩) es.length cap⟩:Loc).blks->b0<w.heap.size/\((∃e∈s.own,e.id=id/\b0∈(loc id).blks)\/w.heap.size<=b0):=by
    intro b0 qR;simp only[aG0]at qR;subst qR;exact⟨(aF0.1 h3).1,.inl ⟨e0,qO,hid,h1⟩⟩
   have W:=R.weakUp (obj:= .row e' k bs es) (r:=n) qF (Upd.refl _ _) hL (.inl (Nat.le_refl _));exact R.up (L:=⟨[b],.slice (some ⟨b,0,none⟩) es.length cap⟩) qF qI (Upd.refl _ _) (fun b hb _=>rfl) hL (.inl (Nat.le_refl _)) ⟨yU,.inr ⟨b,arr,cap,rfl,rfl,h3,h4,h5,h6,Cx W k es arr 0 fF h7⟩⟩ (rdEnd ⟨[b],.slice (some ⟨b,0,none⟩) es.length cap⟩ _ _)
 ·by_cases fH:es2.length=0
  ·have:es2=[]:=bO0 fH;subst this;rw[bR0]at *;simp only[List.length_nil]at *
   rcases wC with ⟨rfl,rfl⟩ | ⟨e0,qO,hid,b,arr,cap,kT,rfl,h3,h4,h5,h6,h7⟩
   ·refine⟨_,w,⟨[],.slice none 0 0⟩,Es hu hi (Nat.le_refl _),?_⟩;refine R.up (L:=⟨[],.slice none 0 0⟩) qF qI (Upd.refl _ _) (fun b hb _=>rfl) (fun b hb=>by simp at hb) (.inl (Nat.le_refl _)) ⟨by simp,.inl ⟨rfl,rfl,rfl⟩⟩ (rdEnd ⟨[],.slice none 0 0⟩ _ _)
   ·have h1:b∈(loc id).blks:=by rw[kT];simp
    refine⟨_,w,⟨[b],.slice (some ⟨b,0,none⟩) es.length cap⟩,Es hu hi h4,?_⟩
    have hL:∀b0,b0∈(⟨[b],.slice (some ⟨b,0,none⟩) es.length cap⟩:Loc).blks->b0<w.heap.size/\((∃e∈s.own,e.id=id/\b0∈(loc id).blks)\/w.heap.size<=b0):=by
     intro b0 qR;simp only[aG0]at qR;subst qR;exact⟨(aF0.1 h3).1,.inl ⟨e0,qO,hid,h1⟩⟩
    have W:=R.weakUp (obj:= .row e' k bs es) (r:=n) qF (Upd.refl _ _) hL (.inl (Nat.le_refl _));exact R.up (L:=⟨[b],.slice (some ⟨b,0,none⟩) es.length cap⟩) qF qI (Upd.refl _ _) (fun b hb _=>rfl) hL (.inl (Nat.le_refl _)) ⟨yU,.inr ⟨b,arr,cap,rfl,rfl,h3,h4,h5,h6,Cx W k es arr 0 fF h7⟩⟩ (rdEnd ⟨[b],.slice (some ⟨b,0,none⟩) es.length cap⟩ _ _)
  ·have qZ:k2=k:=by
    rcases yI with h | h
    ·exact h
    ·subst h;simp at fH
   subst qZ;subst qH
   subst hby;have wI:es.length+es2.length<=9223372036854775807:=by unfold maxLen at hl;omega
   -- a new row, whatever it held before
   have fresh:∀(rows:List (List Value)) (cap:Nat),es.length<=cap\/True->rows.length=es.length->rows.flatten.length=es.length*i.size ->
     (∀(j:Nat) (cs:List DVal) (us:List Value),es[j]? =some cs->rows[j]? =some us->cs.length=i.size/\AI (cu s loc) (hm s loc B.M0) w.heap cs us/\∀u∈us,u.oneCell'=true) ->
     Rel B ⟨BI s.slots dst (.osl id n),upE s.own id n (.row e' i.size i.bytes (es++es2))⟩ (a.put dst (.slice (some ⟨w.heap.size,0,none⟩) (es.length+es2.length) (grownCap w (es.length+es2.length) cap e')))
      (w.drew.alloc (.cells (rows.flatten.toArray++rows2.flatten.toArray++Builtin.zeroCells z.cells (grownCap w (es.length+es2.length) cap e'-(es.length+es2.length))) e')) (Dc loc id ⟨[w.heap.size],.slice (some ⟨w.heap.size,0,none⟩) (es.length+es2.length) (grownCap w (es.length+es2.length) cap e')⟩):=by
    intro rows cap _ r1 r2 r3
    have hw:Upd (Ab s.own loc) w (w.drew.alloc (.cells (rows.flatten.toArray++rows2.flatten.toArray++Builtin.zeroCells z.cells (grownCap w (es.length+es2.length) cap e'-(es.length+es2.length))) e')) :=
     (Upd.drew _ w).trans (Upd.alloc _ w.drew _) (fun x hx=> .inl hx)
    have hL:∀b0,b0∈(⟨[w.heap.size],.slice (some ⟨w.heap.size,0,none⟩) (es.length+es2.length) (grownCap w (es.length+es2.length) cap e')⟩:Loc).blks->b0<(w.drew.alloc (.cells (rows.flatten.toArray++rows2.flatten.toArray++Builtin.zeroCells z.cells (grownCap w (es.length+es2.length) cap e'-(es.length+es2.length))) e')).heap.size/\((∃e∈s.own,e.id=id/\b0∈(loc id).blks)\/w.heap.size<=b0):=by
     intro b0 qR;simp only[aG0]at qR;subst qR;exact⟨by simp,.inr (Nat.le_refl _)⟩
    have W:=R.weakUp (obj:= .row e' i.size i.bytes (es++es2)) (r:=n) qF hw hL (.inl (Nat.le_refl _));have jU:=grownCap_ge w (es.length+es2.length) cap e';have hcm:=grownCap_le_maxLen w (es.length+es2.length) cap e' hl;refine R.up qF qI hw (fun b hb _=>by simp only[World.alloc,bI0,World.drew];rw[if_neg (by omega)]) hL (.inl (Nat.le_refl _)) ⟨yU,.inr ⟨w.heap.size,_,_,rfl,by simp,heap_alloc_new w.drew _,by simpa using jU,hcm,?_,?_⟩⟩ (rdEnd ⟨[w.heap.size],.slice (some ⟨w.heap.size,0,none⟩) (es.length+es2.length) (grownCap w (es.length+es2.length) cap e')⟩ _ _)
    ·simp only[Array.size_append,dL0,size_zeroCells,hzs,r2,q3,<-bU0]
     congr 1
     omega
    ·have:=Nv (k:=i.size) r1 q1 (EA W fF r3) (EA W fX q2) (Builtin.zeroCells z.cells (grownCap w (es.length+es2.length) cap e'-(es.length+es2.length))).toList
     have e1:(rows.flatten++rows2.flatten++(Builtin.zeroCells z.cells (grownCap w (es.length+es2.length) cap e'-(es.length+es2.length))).toList).toArray=rows.flatten.toArray++rows2.flatten.toArray++Builtin.zeroCells z.cells (grownCap w (es.length+es2.length) cap e'-(es.length+es2.length)):=by
      apply Array.ext';simp
     rw[e1]at this;exact this
   rcases wC with ⟨rfl,rfl⟩ | ⟨e0,qO,hid,b,arr,cap,kT,rfl,h3,h4,h5,h6,h7⟩
   ·have hr:=run_append_nil (P:=P) w t ty e' i z hu hi kK ad es2.length cap2 rows2.flatten q3 q6 (by omega) (by omega) (by simp only[List.length_nil,bS0]at hb;omega);have hf:=fresh [] 0 (.inr trivial) rfl (by simp) (by simp);simp only[List.length_nil,bS0,List.nil_append,List.flatten_nil,Array.empty_append]at hf hr |-;exact⟨_,_,_,hr,hf⟩
   ·have h1:b∈(loc id).blks:=by rw[kT];simp
    obtain⟨rows,r1,r2,r3,r4⟩:=FG i.size es arr 0 h7;have mW:es.length*i.size<=arr.size:=by rw[<-h6];exact aS0 _ h4
    by_cases jD:es.length+es2.length<=cap
    ·have vZ:es.length*i.size+rows2.flatten.length<=arr.size:=by rw[q3,<-h6,<-bU0];exact aS0 _ jD
     have hr:=run_append_room (P:=P) w t ty e' i hu hi b es.length cap arr h3 ad es2.length cap2 rows2.flatten q3 q6 q4 jD vZ;refine⟨_,_,⟨[b],.slice (some ⟨b,0,none⟩) (es.length+es2.length) cap⟩,hr,?_⟩;have hw:Upd (Ab s.own loc) w (w.setRow b (arr.toList.take (es.length*i.size)++rows2.flatten++arr.toList.drop (es.length*i.size+rows2.flatten.length)).toArray):=Upd.setRow qO (by rw[hid];exact h1) w _
     have hL:∀b0,b0∈(⟨[b],.slice (some ⟨b,0,none⟩) (es.length+es2.length) cap⟩:Loc).blks->b0<(w.setRow b (arr.toList.take (es.length*i.size)++rows2.flatten++arr.toList.drop (es.length*i.size+rows2.flatten.length)).toArray).heap.size/\((∃e∈s.own,e.id=id/\b0∈(loc id).blks)\/w.heap.size<=b0):=by
      intro b0 qR;simp only[aG0]at qR;subst qR;refine⟨?_,.inl ⟨e0,qO,hid,h1⟩⟩;have:=(aF0.1 h3).1;simpa using this
     have W:=R.weakUp (obj:= .row e' i.size i.bytes (es++es2)) (r:=n) qF hw hL (.inl (Nat.le_refl _));refine R.up qF qI hw ?_ hL (.inl (Nat.le_refl _)) ⟨yU,.inr ⟨b,_,cap,rfl,by simp,setRow_heap w b arr _ e' (0,0) h3,by simpa using jD,h5,?_,?_⟩⟩ (rdEnd ⟨[b],.slice (some ⟨b,0,none⟩) (es.length+es2.length) cap⟩ _ _)
     ·intro b0 qR qC;refine setRow_other w b b0 _ (fun h=>qC e0 qO hid ?_);rw[h];exact h1
     ·simp only[dL0,aD0,bE0,bW0,bQ0];omega
     ·have gE:=HX r2 r4 mW;have hj:=Nv r1 q1 (EA W fF r3) (EA W fX q2) (arr.toList.drop (es.length*i.size+rows2.flatten.length));rw[<-gE]at hj;exact hj
    ·have hr:=run_append_grow (P:=P) w t ty e' i z hu hi kK ⟨b,0,none⟩ es.length cap rows.flatten r2 (fun j v hj=>by rw[DX];simp only[World.cell?,h3];exact(r4 j v hj).1) ad es2.length cap2 rows2.flatten q3 q6 (by omega) (by omega) (LU_ (by omega) hb wW);exact⟨_,_,_,hr,fresh rows cap (.inl h4) r1 r2 r3⟩
end
def eS : Value->Bool
 | .bool _ | .int _ _ | .string _=>true
 | _=>false
theorem LW_ {a b:ByteArray}:(a==b)=true↔a=b:=by
 rw[<-NI,beq_iff_eq]
 constructor
 ·intro h;cases a;cases b;simp at h;rw[h]
 ·rintro rfl;rfl
def UB (ks:List DVal) (k:DVal):List DVal:=match AQ ks k with
 | some _=>ks
 | none=>ks++[k]
def UA (ks vs:List DVal) (k x:DVal):List DVal:=match AQ ks k with
 | some j=>vs.set j x
 | none=>vs++[x]
theorem PJ (a b:List DVal):AR (a++b)=max (AR a) (AR b):=by
 induction a with
 | nil=>simp[AR]
 | cons d a ih=>simp only[List.cons_append,AR,ih];omega
theorem KL_ (a:List DVal) (j:Nat) (d:DVal):AR (a.set j d)<=max (AR a) (mx d):=by
 induction a generalizing j with
 | nil=>simp[AR]
 | cons x a ih =>
  cases j with
  | zero=>simp only[eF0,AR];omega
  | succ j=>have:=ih j;simp only[List.set_cons_succ,AR];omega
theorem aE (ks:List DVal) (k:DVal):AR (UB ks k)<=max (AR ks) (mx k):=by
 unfold UB
 split
 ·omega
 ·rw[PJ];simp[AR]
theorem aD (ks vs:List DVal) (k x:DVal):AR (UA ks vs k x)<=max (AR vs) (mx x):=by
 unfold UA
 split
 ·exact KL_ _ _ _
 ·rw[PJ];simp[AR]
section
variable {cur : Fb} {M : List Nat} {h : Array Obj}
theorem BI_ : ∀{ds:List DVal} {vs:List Value} {j:Nat} {d:DVal} {v:Value},AI cur M h ds vs->rd cur M h d v->AI cur M h (ds.set j d) (vs.set j v)
 | [],vs,j,d,v,h1,h2=>by simp only[AI]at h1;subst h1;simp[AI]
 | a::ds,vs,j,d,v,h1,h2=>by
  simp only[AI]at h1;obtain⟨u,r,rfl,h3,h4⟩:=h1
  cases j with
  | zero=>simp only[eF0,AI];exact⟨v,r,rfl,h2,h4⟩
  | succ j=>simp only[List.set_cons_succ,AI];exact⟨u,_,rfl,h3,BI_ h4 h2⟩
theorem Wj : ∀{cks:List CK} {xs ys:List DVal} {us vs:List Value},Bu cks xs=true->Bu cks ys=true->Du xs ys=true->AI cur M h xs us->AI cur M h ys vs->us=vs/\us.all eS=true
 | [],[],[],us,vs,_,_,_,h1,h2=>by simp only[AI]at h1 h2;subst h1;subst h2;simp
 | c::cks,x::xs,y::ys,us,vs,hx,hy,he,h1,h2=>by
  simp only[Bu,aM0]at hx hy;simp only[Du,aM0]at he;simp only[AI]at h1 h2;obtain⟨u,ur,rfl,h3,h4⟩:=h1;obtain⟨v,vr,rfl,h5,h6⟩:=h2;obtain⟨e1,e2⟩:=Wj hx.2 hy.2 he.2 h4 h6
  have:u=v/\eS u=true:=by
   have fA:=hx.1;have hy1:=hy.1;have cT:=he.1;cases c<;>cases x<;>simp only[Qu]at fA<;>first | (simp at fA;done) | skip
   all_goals cases y<;>simp only[Qu]at hy1<;>first | (simp at hy1;done) | skip
   ·simp only[rd]at h3 h5;simp only[eqC,beq_iff_eq]at cT;subst h3;subst h5;subst cT;exact⟨rfl,rfl⟩
   ·simp only[rd]at h3 h5;simp only[eqC,beq_iff_eq]at cT fA hy1;obtain⟨rfl,_⟩:=h3;obtain⟨rfl,_⟩:=h5;subst fA;subst hy1;subst cT;exact⟨rfl,rfl⟩
   ·simp only[rd]at h3 h5;simp only[eqC,LW_]at cT;obtain⟨rfl,_⟩:=h3;obtain⟨rfl,_⟩:=h5;subst cT;exact⟨rfl,rfl⟩
  obtain⟨rfl,hu⟩:=this;subst e1;exact⟨rfl,by simp only[dB0,aM0];exact⟨hu,e2⟩⟩
 | [],_::_,_,_,_,hx,_,_,_,_=>by simp[Bu]at hx
 | [],[],_::_,_,_,_,hy,_,_,_=>by simp[Bu]at hy
 | _::_,[],_,_,_,hx,_,_,_,_=>by simp[Bu]at hx
 | _::_,_::_,[],_,_,_,hy,_,_,_=>by simp[Bu]at hy
theorem LP : ∀(n:Nat) (v:Value),eS v=true->Instr.sameBits n v v=true:=by
 intro n v hv;cases v<;>simp[eS]at hv<;>cases n<;>simp[Instr.sameBits,LW_]
theorem Ik_ {P:Program} {kt:TypeId} {x k:DVal} {u v:Value} (hx:Ck P kt x=true) (hk:Ck P kt k=true) (he:Du (BH x) (BH k)=true) (rx:rd cur M h x u) (rk:rd cur M h k v):v=u/\Instr.sameBits 10000 v u=true:=by
 unfold Ck at hx hk
 split at hx
 ·rename_i cks b hf hb;simp only[hf,hb,aM0,beq_iff_eq]at hx hk;obtain⟨us,h1,rfl⟩:=Ha hx.2 rx;obtain⟨vs,h2,rfl⟩:=Ha hk.2 rk;obtain⟨rfl,h3⟩:=Wj hx.1 hk.1 he h1 h2;refine⟨rfl,?_⟩
  cases b with
  | false =>
   simp only[valOf]
   match us,h1,h2,hx,hk,h3 with
   | [],h1,h2,hx,hk,h3 =>
    have hl:=AJ _ _ h1;have qD:=hx.2;cases x<;>simp[BH,SU]at hl qD
   | u::r,h1,h2,hx,hk,h3 =>
    simp only[dB0,aM0]at h3;simp;exact LP _ _ h3.1
  | true =>
   simp only[valOf,if_true];rw[show (10000:Nat)=9999+1 from rfl];simp only[Instr.sameBits,beq_self_eq_true,eB0,aV0];intro p hp
   have hz:∀(l:List Value),l.all eS=true->∀p∈l.zip l,Instr.sameBits 9999 p.1 p.2=true:=by
    intro l
    induction l with
    | nil=>intro _ p hp;simp at hp
    | cons a l ih =>
     intro ha p hp;simp only[dB0,aM0]at ha;simp only[List.zip_cons_cons,aJ0]at hp
     rcases hp with rfl | hp
     ·exact LP _ _ ha.1
     ·exact ih ha.2 p hp
   exact hz us h3 p (by simpa using hp)
 ·simp at hx
theorem aO : ∀{ks:List DVal} {x:DVal} {j:Nat},AQ ks x=some j->∃k,ks[j]? =some k/\Du (BH x) (BH k)=true
 | k::ks,x,j,hh=>by
  simp only[AQ]at hh
  split at hh
  ·rename_i he;simp only[aA0]at hh;subst hh;exact⟨k,rfl,he⟩
  ·rw[bC0]at hh;obtain⟨i,h1,rfl⟩:=hh;obtain⟨k',h2,h3⟩:=aO h1;exact⟨k',by simpa using h2,h3⟩
end
section
variable {P : Program} {B : Base} {s : DS} {a : Act} {w : World} {loc : Nat -> Loc}
theorem Rel.newMap {id n:Nat} {dst:Option Nat} (R:Rel B s a w loc) (qF:Co B s<=n) (qI:∀i,dst=some i->i<B.nt) :
  Rel B ⟨BI s.slots dst (.omp id n),upE s.own id n (.map [] [])⟩ (a.put dst (.map (some w.heap.size))) (w.alloc (.map #[] 0)) (Dc loc id ⟨[w.heap.size],Go.undef⟩):=by
 have hw:=Upd.alloc (Ab s.own loc) w (.map #[] 0)
 have hL:∀b,b∈(⟨[w.heap.size],Go.undef⟩:Loc).blks->b<(w.alloc (.map #[] 0)).heap.size/\((∃e∈s.own,e.id=id/\b∈(loc id).blks)\/w.heap.size<=b):=by
  intro b hb;simp only[aG0]at hb;subst hb;exact⟨by simp,.inr (Nat.le_refl _)⟩
 refine R.up qF qI hw (fun b hb _=>by simp only[World.alloc,bI0];rw[if_neg (by omega)]) hL (.inl (Nat.le_refl _)) ?_ ?_
 ·refine⟨w.heap.size, #[],0,rfl,heap_alloc_new w _,⟨by simp,by simp⟩,by simp[AI],by simp[AI]⟩
 ·simp only[rd];intro l hl;rw[DL]at hl;simp only[aA0]at hl;subst hl;exact⟨_,rfl,rfl⟩
theorem Rel.updMap {id r n:Nat} {ks vs:List DVal} {e:Ent} {t kt et:TypeId} {k x:DVal} {mv kv xv:Value} (R:Rel B s a w loc) (he:Ar s.own id=some e) (wO:e.r=r) (qW:e.obj= .map ks vs)
  (ha:Bt s loc B.M0 w (.omp id r) mv) (hk:Bt s loc B.M0 w k kv) (hx:Bt s loc B.M0 w x xv) (ht:tMap P t=some (kt,et)) (hko:Ck P kt k=true) (bB:ks.all (Ck P kt)=true)
  (hmk:mx k<=Lj s.slots) (vF:mx x<=Lj s.slots) (hn:Co B s<=n) :
  ∃w',(Instr.mapUpdate t mv kv xv).run P w= .ok () w'/\Rel B ⟨s.slots,upE s.own id r (.map (UB ks k) (UA ks vs k x))⟩ a w' (Dc loc id (loc id)):=by
 obtain⟨qO,hid⟩:=AY he;have dP:=R.st.ok e qO;rw[qW]at dP;obtain⟨b,es,clk,h1,h2,h3,h4,h5⟩:=dP;rw[hid]at h1;have qE:Ae s.own loc id r=some (loc id):=by unfold Ae;rw[he];simp[wO]
 simp only[Bt,rd]at ha;obtain⟨b',qD,rfl⟩:=ha _ qE;have wQ:b∈(loc id).blks:=by rw[h1];simp
 rw[h1]at qD;simp only[bG0,and_true]at qD;subst qD;have hu:P.underlying t=some (.map kt et):=by unfold tMap at ht;split at ht<;>simp_all
 have mL:=Hq (w:=w) hko hk es.toList ks bB h4;have mV:=AJ _ _ h4;have zO:=AJ _ _ h5;simp only[aL0,bQ0]at mV zO;have fS:=(aF0.1 h2).1;have vG:=(Bs qO).2;rw[qW]at vG;simp only[Fp]at vG
 -- the world behind it
 have main:∀(es':Array MapEntry) (clk':Nat),Pm es' clk'->AI (cu s loc) (hm s loc B.M0) w.heap (UB ks k) (es'.toList.map (·.key))->AI (cu s loc) (hm s loc B.M0) w.heap (UA ks vs k x) (es'.toList.map (·.val)) ->
   Rel B ⟨s.slots,upE s.own id r (.map (UB ks k) (UA ks vs k x))⟩ a { w with heap:=w.heap.setIfInBounds b (.map es' clk') } (Dc loc id (loc id)):=by
  intro es' clk' hb kR gY
  have hw:Upd (Ab s.own loc) w { w with heap:=w.heap.setIfInBounds b (.map es' clk') }:=by
   refine⟨rfl,rfl,rfl,fun _=>Nat.le_refl _,by simp,fun b0 _ hn0=> ?_⟩;have qC:b≠b0:=fun h=>hn0 (h▸Bm qO (by rw[hid];exact wQ))
   simp[cW0,qC]
  have hL:∀b0,b0∈(loc id).blks->b0<({ w with heap:=w.heap.setIfInBounds b (.map es' clk') }:World).heap.size/\((∃e∈s.own,e.id=id/\b0∈(loc id).blks)\/w.heap.size<=b0):=by
   intro b0 qR;refine⟨?_,.inl ⟨e,qO,hid,qR⟩⟩;rw[h1]at qR;simp only[aG0]at qR;subst qR;simpa using fS
  have W:=R.weakUp (obj:= .map (UB ks k) (UA ks vs k x)) hn hw hL (.inr qE);unfold Co at hn;refine R.up (hLn:=by rw[h1];simp) (dst:=none) (v:=Go.undef) (d:= .any) (n:=n) (by unfold Co;exact hn) (fun i hi=>by simp at hi) hw ?_ hL (.inr qE) ?_ (by simp[rd])
  ·intro b0 qR qC;have hne':b≠b0:=fun h=>qC e qO hid (by rw[<-h];exact wQ)
   simp[cW0,hne']
  ·refine⟨b,es',clk',h1,by simp[cW0,fS],hb,Bd W _ _ ?_ kR,Bd W _ _ ?_ gY⟩
   ·have:=aE ks k;omega
   ·have:=aD ks vs k x;omega
 simp only[Instr.mapUpdate,Sem.run_bind,run_underlying hu,Result.andThen_ok,MapKept.run_getObj_map h2,Fz hko hk,mL]
 cases hq:AQ ks k with
 | none =>
  simp only[eP0];refine⟨_,MapKept.run_setObj_map _ h2,main _ _ ?_ ?_ ?_⟩
  ·obtain⟨g1,g2⟩:=h3;refine⟨?_,?_⟩
   ·simp only[eX0,bA0,List.map_cons,List.map_nil];rw[bV0];refine⟨g1,by simp,?_⟩;intro c hc c' mB vK;simp only[aG0]at mB;obtain⟨e',zJ,rfl⟩:=aR0.1 hc;have:=g2 e' zJ;omega
   ·intro e' zJ;simp only[eX0,aI0,aG0]at zJ
    rcases zJ with zJ | rfl
    ·have:=g2 e' zJ;omega
    ·simp
  ·unfold UB;rw[hq];simp only[eX0,bA0,List.map_cons,List.map_nil];exact Cr _ _ _ _ h4 (by simp only[AI];exact⟨kv,[],rfl,hk,rfl⟩)
  ·unfold UA;rw[hq];simp only[eX0,bA0,List.map_cons,List.map_nil];exact Cr _ _ _ _ h5 (by simp only[AI];exact⟨xv,[],rfl,hx,rfl⟩)
 | some j =>
  simp only[dN0];obtain⟨k0,zQ,heq⟩:=aO hq;obtain⟨v0,kO,dA⟩:=Sf _ _ j k0 h4 zQ
  have hjlt:j<es.size:=by
   have:=(aB0.1 zQ).1;omega
  have hkey:(es[j]?).map (·.key)=some v0:=by
   rw[bN0]at kO;simpa using kO
  obtain⟨rfl,hsb⟩:=Ik_ hko (aV0.1 bB k0 (bH0 zQ)) heq hk dA;simp only[hkey,cB0,Instr.keyThatStays,hsb,if_true,Sem.run_pure,Result.andThen_ok];refine⟨_,MapKept.run_setObj_map _ h2,main _ _ ?_ ?_ ?_⟩
  ·obtain⟨g1,g2⟩:=h3
   have bP:(es.modify j fun e=>{ e with key:=v0,val:=xv }).toList.map (·.born)=es.toList.map (·.born):=by
    apply List.ext_getElem?
    intro i;simp only[bN0,eL0,cJ0]
    split
    ·cases es[i]? <;>simp
    ·rfl
   refine⟨by rw[bP];exact g1,?_⟩;intro e' zJ;have:e'.born∈(es.modify j fun e=>{ e with key:=v0,val:=xv }).toList.map (·.born):=cX0 (f:=(·.born)) zJ;rw[bP]at this;obtain⟨e0,vI,qR⟩:=aR0.1 this;rw[<-qR];exact g2 e0 vI
  ·unfold UB;rw[hq]
   have mZ:(es.modify j fun e=>{ e with key:=v0,val:=xv }).toList.map (·.key)=es.toList.map (·.key):=by
    apply List.ext_getElem?
    intro i;simp only[bN0,eL0,cJ0]
    split
    ·rename_i yK;subst yK;rw[hkey];cases rG:es[j]? <;>simp_all
    ·rfl
   rw[mZ];exact h4
  ·unfold UA;rw[hq]
   have hvals:(es.modify j fun e=>{ e with key:=v0,val:=xv }).toList.map (·.val)=(es.toList.map (·.val)).set j xv:=by
    apply List.ext_getElem?
    intro i;simp only[bN0,eL0,cJ0,List.getElem?_set,aL0,bQ0]
    split
    ·rename_i yK;subst yK;simp[hjlt]
    ·rfl
   rw[hvals];exact BI_ h5 hx
def TB (ks:List DVal) (k:DVal):List DVal:=match AQ ks k with | some j=>ks.eraseIdx j | none=>ks
def TA (ks vs:List DVal) (k:DVal):List DVal:=match AQ ks k with | some j=>vs.eraseIdx j | none=>vs
theorem OS : ∀(l:List DVal) (j:Nat),AR (l.eraseIdx j)<=AR l
 | [],_=>by simp
 | d::l,0=>by simp only[List.eraseIdx_cons_zero,AR];omega
 | d::l,j+1=>by have:=OS l j;simp only[List.eraseIdx_cons_succ,AR];omega
theorem aH (ks:List DVal) (k:DVal):AR (TB ks k)<=AR ks:=by
 unfold TB;split
 ·exact OS _ _
 ·exact Nat.le_refl _
theorem aG (ks vs:List DVal) (k:DVal):AR (TA ks vs k)<=AR vs:=by
 unfold TA;split
 ·exact OS _ _
 ·exact Nat.le_refl _
theorem OM {cur:Fb} {M:List Nat} {h:Array Obj}:∀{ds:List DVal} {vs:List Value} (j:Nat),AI cur M h ds vs->AI cur M h (ds.eraseIdx j) (vs.eraseIdx j)
 | [],vs,j,hr=>by simp only[AI]at hr;subst hr;simp[AI]
 | d::ds,vs,0,hr=>by
  simp only[AI]at hr;obtain⟨v,r,rfl,_,h2⟩:=hr;simpa using h2
 | d::ds,vs,j+1,hr=>by
  simp only[AI]at hr;obtain⟨v,r,rfl,h1,h2⟩:=hr;simp only[List.eraseIdx_cons_succ,AI];exact⟨v,_,rfl,h1,OM j h2⟩
theorem Ip {α β:Type} (f:α->β):∀(l:List α) (j:Nat),(l.eraseIdx j).map f=(l.map f).eraseIdx j
 | [],_=>by simp
 | _::l,0=>by simp
 | _::l,j+1=>by simp[Ip f l j]
theorem Rel.delMap {id r n:Nat} {ks vs:List DVal} {e:Ent} {t kt et t2 ty:TypeId} {k:DVal} {mv kv:Value} {dst:Option Nat} (R:Rel B s a w loc) (he:Ar s.own id=some e) (wO:e.r=r) (qW:e.obj= .map ks vs)
  (ha:Bt s loc B.M0 w (.omp id r) mv) (hk:Bt s loc B.M0 w k kv) (ht:tMap P t=some (kt,et)) (hko:Ck P kt k=true) (bB:ks.all (Ck P kt)=true)
  (hn:Co B s<=n) (qI:∀i,dst=some i->i<B.nt) :
  ∃w',(Builtin.delete_ #[t,t2] ty #[mv,kv]).run P w= .ok (.tuple #[]) w'/\Rel B ⟨BI s.slots dst (.tup []),upE s.own id r (.map (TB ks k) (TA ks vs k))⟩ (a.put dst (.tuple #[])) w' (Dc loc id (loc id)):=by
 obtain⟨qO,hid⟩:=AY he;have dP:=R.st.ok e qO;rw[qW]at dP;obtain⟨b,es,clk,h1,h2,h3,h4,h5⟩:=dP;rw[hid]at h1;have qE:Ae s.own loc id r=some (loc id):=by unfold Ae;rw[he];simp[wO]
 simp only[Bt,rd]at ha;obtain⟨b',qD,rfl⟩:=ha _ qE;have wQ:b∈(loc id).blks:=by rw[h1];simp
 rw[h1]at qD;simp only[bG0,and_true]at qD;subst qD;have hu:P.underlying t=some (.map kt et):=by unfold tMap at ht;split at ht<;>simp_all
 have mL:=Hq (w:=w) hko hk es.toList ks bB h4;have mV:=AJ _ _ h4;simp only[aL0,bQ0]at mV;have fS:=(aF0.1 h2).1;have vG:=(Bs qO).2;rw[qW]at vG;simp only[Fp]at vG
 have main:∀(es':Array MapEntry) (clk':Nat),Pm es' clk'->AI (cu s loc) (hm s loc B.M0) w.heap (TB ks k) (es'.toList.map (·.key))->AI (cu s loc) (hm s loc B.M0) w.heap (TA ks vs k) (es'.toList.map (·.val)) ->
   Rel B ⟨BI s.slots dst (.tup []),upE s.own id r (.map (TB ks k) (TA ks vs k))⟩ (a.put dst (.tuple #[])) { w with heap:=w.heap.setIfInBounds b (.map es' clk') } (Dc loc id (loc id)):=by
  intro es' clk' hb kR gY
  have hw:Upd (Ab s.own loc) w { w with heap:=w.heap.setIfInBounds b (.map es' clk') }:=by
   refine⟨rfl,rfl,rfl,fun _=>Nat.le_refl _,by simp,fun b0 _ hn0=> ?_⟩;have qC:b≠b0:=fun h=>hn0 (h▸Bm qO (by rw[hid];exact wQ))
   simp[cW0,qC]
  have hL:∀b0,b0∈(loc id).blks->b0<({ w with heap:=w.heap.setIfInBounds b (.map es' clk') }:World).heap.size/\((∃e∈s.own,e.id=id/\b0∈(loc id).blks)\/w.heap.size<=b0):=by
   intro b0 qR;refine⟨?_,.inl ⟨e,qO,hid,qR⟩⟩;rw[h1]at qR;simp only[aG0]at qR;subst qR;simpa using fS
  have W:=R.weakUp (obj:= .map (TB ks k) (TA ks vs k)) hn hw hL (.inr qE);unfold Co at hn;refine R.up (hLn:=by rw[h1];simp) (n:=n) (by unfold Co;exact hn) qI hw ?_ hL (.inr qE) ?_ (by simp only[rd];exact⟨#[],rfl,by simp[AI]⟩)
  ·intro b0 qR qC;have hne':b≠b0:=fun h=>qC e qO hid (by rw[<-h];exact wQ)
   simp[cW0,hne']
  ·refine⟨b,es',clk',h1,by simp[cW0,fS],hb,Bd W _ _ ?_ kR,Bd W _ _ ?_ gY⟩
   ·have:=aH ks k;omega
   ·have:=aG ks vs k;omega
 simp only[Builtin.delete_,dL0,Sem.run_bind,run_underlying hu,Result.andThen_ok,MapKept.run_getObj_map h2,Fz hko hk,mL,dP0,bB0,bP0]
 cases hq:AQ ks k with
 | none =>
  simp only[eP0,Sem.run_bind,MapKept.run_setObj_map _ h2,Result.andThen_ok,Sem.run_pure];refine⟨_,rfl,main _ _ h3 ?_ ?_⟩
  ·unfold TB;rw[hq];exact h4
  ·unfold TA;rw[hq];exact h5
 | some j =>
  simp only[dN0,Sem.run_bind,MapKept.run_setObj_map _ h2,Result.andThen_ok,Sem.run_pure];have hto:(es.eraseIdxIfInBounds j).toList=es.toList.eraseIdx j:=by simp
  refine⟨_,rfl,main _ _ ⟨?_,?_⟩ ?_ ?_⟩
  ·rw[hto];exact h3.1.sublist ((List.eraseIdx_sublist _ _).map _)
  ·intro e' zJ;rw[hto]at zJ;exact h3.2 e' ((List.eraseIdx_sublist _ _).subset zJ)
  ·unfold TB;rw[hq,hto,Ip];exact OM j h4
  ·unfold TA;rw[hq,hto,Ip];exact OM j h5
end
theorem xA {cur:Fb} {M:List Nat} {H:Array Obj} {cs ds:List DVal} {arr:Array Value} {vs:List Value} {o j:Nat} (hr:Ea cur M H cs arr o) (hv:AI cur M H ds vs) (qP:∀u∈vs,u.oneCell'=true)
  (vZ:j+ds.length<=cs.length) (qH:o+cs.length<=arr.size):Ea cur M H (DG cs j ds) (arr.toList.take (o+j)++vs++arr.toList.drop (o+j+vs.length)).toArray o:=by
 have cO:=AJ _ _ hv;unfold DG;refine Ni _ _ _ _ (Ni _ _ _ _ ?_ ?_) ?_
 ·refine CH _ arr _ o o (fun q hq=> ?_) (Nh j _ _ _ hr);have yE:q<j:=by simp at hq;omega
  simp only[dP0,aQ0];rw[aZ0 (by simp;omega),bX0 (by omega)];simp
 ·have h:=GG ds vs (arr.toList.take (o+j)) (arr.toList.drop (o+j+vs.length)) hv qP;have e1:o+(cs.take j).length=(arr.toList.take (o+j)).length:=by simp;omega
  rw[e1];exact h
 ·have hdr:=GH (j+ds.length) cs arr o hr;have e1:o+(cs.take j++ds).length=o+(j+ds.length):=by simp;omega
  rw[e1];refine CH _ arr _ _ _ (fun q hq=> ?_) hdr;simp only[dP0];rw[bD0 (by simp;omega),dD0];have e2:o+j+vs.length+(o+(j+ds.length)+q-(arr.toList.take (o+j)++vs).length)=o+(j+ds.length)+q:=by simp;omega
  rw[e2];simp
theorem Xj {arr:Array Value} {vs:List Value} {off q:Nat} (qH:off+vs.length<=arr.size) (hq:q<off\/off+vs.length<=q):(arr.toList.take off++vs++arr.toList.drop (off+vs.length)).toArray[q]? =arr[q]? :=by
 simp only[dP0]
 rcases hq with hq | hq
 ·rw[aQ0,aZ0 (by simp;omega),bX0 hq];simp
 ·rw[bD0 (by simp;omega),dD0];have e2:off+vs.length+(q-(arr.toList.take off++vs).length)=q:=by simp;omega
  rw[e2];simp
theorem DH {i k n:Nat} (h:i<n):i*k+k<=n*k:=by
 have:=aS0 k (show i+1<=n from h)
 rwa[bU0,Nat.one_mul]at this
theorem Ki_ {cur:Fb} {M:List Nat} {H:Array Obj} {k i j:Nat} {es:List (List DVal)} {c0 ds:List DVal} {arr:Array Value} {vs:List Value} (hr:EB cur M H k es arr 0) (hi:es[i]? =some c0) (hv:AI cur M H ds vs) (qP:∀u∈vs,u.oneCell'=true)
  (vZ:j+ds.length<=k) (qH:es.length*k<=arr.size):EB cur M H k (es.set i (DG c0 j ds)) (arr.toList.take (i*k+j)++vs++arr.toList.drop (i*k+j+vs.length)).toArray 0:=by
 have cO:=AJ _ _ hv;have yO:i<es.length:=(aB0.1 hi).1;have wC:=DH (k:=k) yO;obtain⟨yW,dA⟩:=Ec k es arr 0 i c0 hr hi;refine FW _ _ _ _ fun q cs hq=> ?_
 rw[List.getElem?_set]at hq
 split at hq
 ·rename_i hiq;subst hiq
  (try simp only[yO,if_true]at hq);simp only[aA0]at hq
  subst hq;refine⟨by simp[DG];omega,?_⟩;simp only[bS0]at dA |-;exact xA dA hv qP (by omega) (by omega)
 ·rename_i hiq;obtain⟨g1,g2⟩:=Ec k es arr 0 q cs hr hq;have nX:q<es.length:=(aB0.1 hq).1;refine⟨g1,CH cs arr _ _ _ (fun p hp=>Xj (by omega) ?_) g2⟩
  rcases Nat.lt_or_gt_of_ne hiq with h | h
  ·have:=DH (k:=k) h;omega
  ·have:=DH (k:=k) h;omega
theorem XP {n:Nat} {cs:List DVal}:∀(es:List (List DVal)) (i:Nat),Bx es<=n->AR cs<=n->Bx (es.set i cs)<=n
 | [],_,_,_=>by simp[Bx]
 | e::es,0,h,hc=>by simp only[eF0,Bx]at h |-;omega
 | e::es,i+1,h,hc=>by
  simp only[List.set_cons_succ,Bx]at h |-;have:=XP es i (by omega) hc;omega
theorem HT_ {es:List (List DVal)} {i:Nat} {c:List DVal} (h:es[i]? =some c):AR c<=Bx es:=by
 induction es generalizing i with
 | nil=>simp at h
 | cons e es ih =>
  cases i with
  | zero=>simp only[bB0,aA0]at h;subst h;simp only[Bx];omega
  | succ i=>have:=ih (i:=i) (by simpa using h);simp only[Bx];omega
section
variable {P : Program} {B : Base} {s : DS} {a : Act} {w : World} {loc : Nat -> Loc}
theorem Rel.writeRow {id r n et k bs cap b:Nat} {e:Ent} {es es':List (List DVal)} {arr arr':Array Value} (R:Rel B s a w loc) (he:Ar s.own id=some e) (wO:e.r=r) (qW:e.obj= .row et k bs es)
  (h1:(loc id).blks=[b]) (h2:(loc id).hdr= .slice (some ⟨b,0,none⟩) es.length cap) (h3:w.heap[b]? =some (.cells arr et (0,0))) (h4:es.length<=cap) (h5:cap<=maxLen) (h6:cap*k=arr.size) (h7:es.length*bs<=150000000000000)
  (qU:es'.length=es.length) (qH:arr'.size=arr.size) (vT:EB (cu s loc) (hm s loc B.M0) w.heap k es' arr' 0) (vF:Bx es'<=n) (hn:Co B s<=n)
  {dst:Option Nat} {d:DVal} {v:Value} (qI:∀i,dst=some i->i<B.nt) (kU:∀cur M h,rd cur M h d v) :
  Rel B ⟨BI s.slots dst d,upE s.own id r (.row et k bs es')⟩ (a.put dst v) (w.setRow b arr') (Dc loc id (loc id)):=by
 obtain⟨qO,hid⟩:=AY he;have qE:Ae s.own loc id r=some (loc id):=by unfold Ae;rw[he];simp[wO]
 have wQ:b∈(loc id).blks:=by rw[h1];simp
 have hw:Upd (Ab s.own loc) w (w.setRow b arr'):=Upd.setRow qO (by rw[hid];exact wQ) w _
 have hL:∀b0,b0∈(loc id).blks->b0<(w.setRow b arr').heap.size/\((∃e∈s.own,e.id=id/\b0∈(loc id).blks)\/w.heap.size<=b0):=by
  intro b0 qR;refine⟨?_,.inl ⟨e,qO,hid,qR⟩⟩;rw[h1]at qR;simp only[aG0]at qR;subst qR;have:=(aF0.1 h3).1;simpa using this
 have W:=R.weakUp (obj:= .row et k bs es') hn hw hL (.inr qE);refine R.up (hLn:=by rw[h1];simp) (n:=n) hn qI hw ?_ hL (.inr qE) ?_ (kU _ _ _)
 ·intro b0 qR qC;refine setRow_other w b b0 _ (fun h=>qC e qO hid ?_);rw[h];exact wQ
 ·exact⟨by rw[qU];exact h7,.inr ⟨b,arr',cap,h1,by rw[qU];exact h2,setRow_heap w b arr _ et (0,0) h3,by omega,h5,by omega,Cx W k es' arr' 0 vF vT⟩⟩
theorem Xk (S:St s.own loc B.M0 w.heap) {id et k bs:Nat} {es:List (List DVal)} {e:Ent} (he:Ar s.own id=some e) (qW:e.obj= .row et k bs es) (qC:es≠[]) :
  es.length*bs<=150000000000000/\∃b arr cap,(loc id).blks=[b]/\(loc id).hdr= .slice (some ⟨b,0,none⟩) es.length cap/\w.heap[b]? =some (.cells arr et (0,0))/\es.length<=cap/\cap<=maxLen/\cap*k=arr.size/\EB (cu s loc) (hm s loc B.M0) w.heap k es arr 0:=by
 obtain⟨qO,hid⟩:=AY he;have hk:=S.ok e qO;rw[qW]at hk;obtain⟨h0,hk⟩:=hk;rw[hid]at hk;refine⟨h0,?_⟩
 rcases hk with ⟨h,_⟩ | h
 ·exact absurd h qC
 ·exact h
theorem Rel.storeRow {id r n i j:Nat} {et k bs:Nat} {es:List (List DVal)} {c0:List DVal} {e:Ent} {d:DVal} {t:TypeId} {v:Value} {ad:Value} (R:Rel B s a w loc) (he:Ar s.own id=some e) (wO:e.r=r) (qW:e.obj= .row et k bs es)
  (ha:Bt s loc B.M0 w (.rx id r k i j) ad) (hd:Bt s loc B.M0 w d v) (hp:CD s.own d=true) (hc:tCells P t=some (AP d).length) (hi:es[i]? =some c0) (vZ:j+(AP d).length<=k) (vF:mx d<=Lj s.slots) (hn:Co B s<=n) :
  ∃w',(Instr.storeAt t ad v).run P w= .ok () w'/\Rel B ⟨s.slots,upE s.own id r (.row et k bs (es.set i (DG c0 j (AP d))))⟩ a w' (Dc loc id (loc id)):=by
 have yO:i<es.length:=(aB0.1 hi).1;obtain⟨h7,b,arr,cap,h1,h2,h3,h4,h5,h6,wC⟩:=Xk (B:=B) R.st he qW (by intro h;subst h;simp at yO);have qE:Ae s.own loc id r=some (loc id):=by unfold Ae;rw[he];simp[wO]
 simp only[Bt,rd]at ha;obtain⟨b',qD,rfl⟩:=ha _ qE;rw[h1]at qD;simp only[bG0,and_true]at qD;subst qD;obtain⟨hcv,qP⟩:=IC R.st hp hd;have cO:=AJ _ _ hcv;simp only[bQ0]at cO;have cI:=DH (k:=k) yO;have kB:es.length*k<=arr.size:=by rw[<-h6];exact aS0 _ h4
 have qB:=Nb (P:=P) (w:=w) (b:=b) (off:=i*k+j) (t:=t) (v:=v) h3 (by rw[hc,cO]) (by omega) qP;have qO:=(AY he).1;have vG:=(Bs qO).2;rw[qW]at vG;simp only[Fp]at vG;refine⟨_,qB,R.writeRow (dst:=none) (d:= .any) (v:=Go.undef) he wO qW h1 h2 h3 h4 h5 h6 h7 (by simp) (by simp;omega) ?_ ?_ hn (fun i hi=>by simp at hi) (fun _ _ _=>by simp[rd])⟩
 ·have:=Ki_ (j:=j) wC hi hcv qP vZ kB;simpa using this
 ·unfold Co at hn;refine XP _ _ (by omega) ?_;have h8:=La c0 j (AP d);have h9:=HT_ hi;rw[CJ]at h8;omega
theorem VH {own:List Ent} {d:DVal} (h:EX [] d=true):EX own d=true:=by
 cases d<;>simp_all [EX,Gc,Ar,Bn]
theorem LU {z:Array Value} {n i q:Nat} (hz:z.size≠0) (hi:i<n) (hq:q<z.size):(madeCells z (n*z.size))[i*z.size+q]? =z[q]? :=by
 have qV:i*z.size+q<n*z.size:=by have:=DH (k:=z.size) hi;omega
 have e1:(i*z.size+q)%z.size=q:=by rw[Nat.mul_comm,Nat.mul_add_mod];exact eM0 hq
 simp[madeCells,qV,e1,hq]
theorem Hf_ {cur:Fb} {M:List Nat} {H:Array Obj} {z:Value} {n:Nat} {k:Nat} (hk:z.cells.size=k) (qP:∀u∈z.cells.toList,u.oneCell'=true) :
  ∀(arr:Array Value) (o:Nat),(∀i q,i<n->q<k->arr[o+(i*k+q)]? =z.cells[q]?)->EB cur M H k (List.replicate n (z.cells.toList.map Cm)) arr o:=by
 intro arr o hq;refine FW _ _ _ _ fun i cs hi=> ?_
 rw[eG0]at hi
 split at hi
 ·rename_i qV;simp only[aA0]at hi;subst hi;refine⟨by simpa using hk,?_⟩;have h0:=GG (cur:=cur) (M:=M) (H:=H) (z.cells.toList.map Cm) z.cells.toList [] [] (BM _) qP;refine CH _ _ arr _ _ (fun p hp=> ?_) h0;have qN:p<k:=by simp at hp;omega
  rw[dJ0,hq i p qV qN];simp
 ·simp at hi
def tZeroE (P:Program) (t:TypeId):Option (List DVal):=match P.underlying t with
 | some (.slice e)=>tZero P e
 | _=>none
theorem Ku_ (l:List Value):AR (l.map Cm)=0:=by
 have h1:∀v,mx (Cm v)=0:=by
  intro v;unfold Cm
  split<;>(try split)<;>simp[mx]
 induction l with
 | nil=>simp[AR]
 | cons v l ih=>simp[AR,h1,ih]
theorem XQ {n m:Nat} {cs:List DVal} (h:AR cs<=n):Bx (List.replicate m cs)<=n:=QR fun d hd=>by rw[List.eq_of_mem_replicate hd];exact h
theorem Rel.makeRow {id n:Nat} {t e:TypeId} {k bs:Nat} {zs:List DVal} {kl kc:IntKind} {l c:Int} {dst:Option Nat} (R:Rel B s a w loc) (qF:Co B s<=n) (qI:∀i,dst=some i->i<B.nt)
  (ht:tElem P t=some (k,bs)) (kP:tElemId P t=some e) (hz:tZeroE P t=some zs) (hzo:zs.all (EX [])=true) (zG:zs.length=k) (h0:0<=l) (hlc:l<=c) (hb:c*bs<=150000000000000) (hl:c<=9223372036854775807) :
  ∃v' w' L,(Instr.makeSlice t (.int kl l) (.int kc c)).run P w= .ok v' w'/\Rel B ⟨BI s.slots dst (.osl id n),upE s.own id n (.row e k bs (List.replicate l.toNat zs))⟩ (a.put dst v') w' (Dc loc id L):=by
 obtain⟨e',i,hu,hi,qH,hby,_⟩:=BL ht;have pY:e'=e:=by unfold tElemId at kP;rw[hu]at kP;simpa using kP
 subst pY;unfold tZeroE at hz;rw[hu]at hz;simp only at hz
 obtain⟨z,kK,hzc⟩:∃z,i.zero=some z/\zs=z.cells.toList.map Cm:=by
  unfold tZero at hz;rw[hi]at hz;simp only at hz;rw[bC0]at hz;obtain⟨z,h1,h2⟩:=hz;exact⟨z,h1,h2.symm⟩
 subst hzc;simp only[aL0,bQ0]at zG
 have qP:∀u∈z.cells.toList,u.oneCell'=true:=by
  intro u zH;have vH:AI (cu s loc) (hm s loc B.M0) w.heap (z.cells.toList.map Cm) z.cells.toList:=BM _;exact GL R.st (z.cells.toList.map Cm) z.cells.toList (aV0.2 fun d hd=>VH (aV0.1 hzo d hd)) vH u zH
 subst qH;subst hby;have qB:=run_make (P:=P) w t e' i z hu hi kK kl kc l c h0 hlc (by rw[Int.mul_comm];omega) hl;have hw:Upd (Ab s.own loc) w (w.alloc (.cells (madeCells z.cells (c.toNat*i.size)) e')):=Upd.alloc _ _ _
 have hL:∀b0,b0∈(⟨[w.heap.size],.slice (some ⟨w.heap.size,0,none⟩) l.toNat c.toNat⟩:Loc).blks->b0<(w.alloc (.cells (madeCells z.cells (c.toNat*i.size)) e')).heap.size/\((∃e∈s.own,e.id=id/\b0∈(loc id).blks)\/w.heap.size<=b0):=by
  intro b0 qR;simp only[aG0]at qR;subst qR;exact⟨by simp,.inr (Nat.le_refl _)⟩
 refine⟨_,_,⟨[w.heap.size],.slice (some ⟨w.heap.size,0,none⟩) l.toNat c.toNat⟩,qB,?_⟩;have hlN:(List.replicate l.toNat (z.cells.toList.map Cm)).length=l.toNat:=dH0
 have hbN:l.toNat*i.bytes<=150000000000000:=by
  have h1:(c.toNat:Int)*i.bytes<=150000000000000:=by rw[Int.toNat_of_nonneg (by omega)];exact hb
  have h2:c.toNat*i.bytes<=150000000000000:=by omega
  exact Nat.le_trans (aS0 _ (by omega)) h2
 refine R.up qF qI hw (fun b hb _=>by simp only[World.alloc,bI0];rw[if_neg (by omega)]) hL (.inl (Nat.le_refl _)) ⟨by rw[hlN];exact hbN,.inr ⟨w.heap.size,_,c.toNat,rfl,by rw[hlN],heap_alloc_new w _,by rw[hlN];omega,by unfold maxLen;omega,by simp[size_madeCells],?_⟩⟩ ?_
 ·by_cases zQ:i.size=0
  ·refine FW _ _ _ _ fun q cs hq=> ?_
   rw[eG0]at hq
   split at hq
   ·simp only[aA0]at hq;subst hq;have:z.cells.toList=[]:=bO0 (by simpa[zQ]using zG);rw[this];simp[zQ,Ea]
   ·simp at hq
  ·refine Hf_ zG qP _ _ fun q p hq hp=> ?_
   rw[bS0];have:=LU (z:=z.cells) (n:=c.toNat) (i:=q) (q:=p) (by omega) (by omega) (by omega)
   rwa[zG]at this
 ·simp only[rd];intro lc wI;rw[DL]at wI;simp only[aA0]at wI;rw[<-wI]
def Dg (es:List (List DVal)) (i m:Nat) (zs:List DVal):List (List DVal):=es.take i++List.replicate m zs++es.drop (i+m)
theorem Ep_ {cur:Fb} {M:List Nat} {H:Array Obj} {k i m:Nat} {es:List (List DVal)} {z:Value} {arr:Array Value} (hr:EB cur M H k es arr 0) (hb:i+m<=es.length) (zG:z.cells.size=k) (qP:∀u∈z.cells.toList,u.oneCell'=true) (hk:k≠0) (qH:es.length*k<=arr.size) :
  EB cur M H k (Dg es i m (z.cells.toList.map Cm)) (arr.toList.take (i*k)++(Builtin.zeroCells z.cells m).toList++arr.toList.drop (i*k+(Builtin.zeroCells z.cells m).toList.length)).toArray 0:=by
 have hlz:(Builtin.zeroCells z.cells m).toList.length=m*k:=by simp[size_zeroCells,zG]
 have vZ:i*k+m*k<=arr.size:=by rw[<-bU0];exact Nat.le_trans (aS0 _ hb) qH
 refine FW _ _ _ _ fun q cs hq=> ?_
 unfold Dg at hq
 by_cases h1:q<i
 ·rw[aQ0,aZ0 (by simp;omega),bX0 h1]at hq;obtain⟨g1,g2⟩:=Ec k es arr 0 q cs hr hq;have:=DH (k:=k) h1;exact⟨g1,CH cs arr _ _ _ (fun p hp=>Xj (by omega) (.inl (by omega))) g2⟩
 ·by_cases h2:q<i+m
  ·rw[aQ0,bD0 (by simp;omega),aZ0 (by simp;omega),eG0,if_pos (by simp;omega)]at hq;simp only[aA0]at hq;subst hq;refine⟨by simpa using zG,?_⟩;have h0:=GG (cur:=cur) (M:=M) (H:=H) (z.cells.toList.map Cm) z.cells.toList [] [] (BM _) qP;refine CH _ _ _ _ _ (fun p hp=> ?_) h0;have qN:p<k:=by simp at hp;omega
   have h3:=DH (k:=k) (show q-i<m by omega);have h4:q*k=i*k+(q-i)*k:=by rw[<-bU0];congr 1;omega
   simp only[dP0,bS0];rw[aQ0,bD0 (by simp;omega),aZ0 (by simp[size_zeroCells,zG];omega)];have e1:q*k+p-(arr.toList.take (i*k)).length=(q-i)*k+p:=by simp;omega
   rw[e1];have h5:=LU (z:=z.cells) (n:=m) (i:=q-i) (q:=p) (by omega) (by omega) (by omega);rw[zG]at h5;have e2:Builtin.zeroCells z.cells m=madeCells z.cells (m*k):=by simp[Builtin.zeroCells,madeCells,zG]
   rw[e2];simpa using h5
  ·rw[bD0 (by simp;omega),dD0]at hq;have e1:i+m+(q-(es.take i++List.replicate m (z.cells.toList.map Cm)).length)=q:=by simp;omega
   rw[e1]at hq;obtain⟨g1,g2⟩:=Ec k es arr 0 q cs hr hq;refine⟨g1,CH cs arr _ _ _ (fun p hp=>Xj (by omega) (.inr ?_)) g2⟩;have:(i+m)*k<=q*k:=aS0 _ (by omega);rw[bU0]at this;omega
theorem BQ_ (S:St s.own loc B.M0 w.heap) {d:DVal} {id r bs0 i m:Nat} {et k bs:Nat} {es:List (List DVal)} {e:Ent} {v:Value} (he:Ar s.own id=some e) (wO:e.r=r) (qW:e.obj= .row et k bs es)
  (hv:Bt s loc B.M0 w d v) (hd:d= .osl id r/\i=0/\m=es.length\/d= .vw id r k bs0 i m):∃a cap,v= .slice a m cap/\(0<m->∃b,(loc id).blks=[b]/\a=some ⟨b,i*k,none⟩):=by
 obtain⟨qE,a,cap,hh,g1,g2,g3⟩:=Ng S he wO qW
 rcases hd with ⟨rfl,rfl,rfl⟩ | rfl
 ·simp only[Bt,rd]at hv;have:=hv _ qE;rw[hh]at this;refine⟨a,cap,this,fun h=> ?_⟩
  rcases g3 with ⟨rfl,_⟩ | ⟨b,hb,rfl⟩
  ·simp at h
  ·exact⟨b,hb,by simp⟩
 ·simp only[Bt,rd]at hv;obtain⟨a,cap,rfl,_,_,_,h,_⟩:=hv _ qE;exact⟨a,cap,rfl,h⟩
theorem Rel.clearRow {d:DVal} {id r k0 bs0 i m n:Nat} {t ty e':TypeId} {et k bs:Nat} {es:List (List DVal)} {zs:List DVal} {e:Ent} {v:Value} {dst:Option Nat} (R:Rel B s a w loc) (he:Ar s.own id=some e) (wO:e.r=r) (qW:e.obj= .row et k bs es)
  (hv:Bt s loc B.M0 w d v) (hd:d= .osl id r/\i=0/\m=es.length\/d= .vw id r k bs0 i m) (hb:i+m<=es.length) (ht:tElem P t=some (k,k0)) (hz:tZeroE P t=some zs) (hzo:zs.all (EX [])=true) (zG:zs.length=k) (hk:0<k)
  (qF:Co B s<=n) (qI:∀i,dst=some i->i<B.nt) :
  ∃w',(Builtin.clear_ #[t] ty #[v]).run P w= .ok (.tuple #[]) w'/\Rel B ⟨BI s.slots dst (.tup []),upE s.own id r (.row et k bs (Dg es i m zs))⟩ (a.put dst (.tuple #[])) w' (Dc loc id (loc id)):=by
 obtain⟨e1,i1,hu,hi,qH,hby,_⟩:=BL ht;unfold tZeroE at hz;rw[hu]at hz;simp only at hz
 obtain⟨z,kK,hzc⟩:∃z,i1.zero=some z/\zs=z.cells.toList.map Cm:=by
  unfold tZero at hz;rw[hi]at hz;simp only at hz;rw[bC0]at hz;obtain⟨z,h1,h2⟩:=hz;exact⟨z,h1,h2.symm⟩
 subst hzc;simp only[aL0,bQ0]at zG;have vH:∀M,AI (cu s loc) M w.heap (z.cells.toList.map Cm) z.cells.toList:=fun M=>BM _
 have qP:∀u∈z.cells.toList,u.oneCell'=true :=
  GL R.st (z.cells.toList.map Cm) z.cells.toList (aV0.2 fun d hd=>VH (aV0.1 hzo d hd)) (vH _)
 obtain⟨ad,cap,rfl,yR⟩:=BQ_ (B:=B) R.st he wO qW hv hd;have kZ:∀cur M h,rd cur M h (.tup []) (.tuple #[]):=fun _ _ _=>by simp only[rd];exact⟨#[],rfl,by simp[AI]⟩
 have qO:=(AY he).1;have hid:=(AY he).2;have vG:=(Bs qO).2;rw[qW]at vG;simp only[Fp]at vG
 by_cases hm:m=0
 ·subst hm;have dQ:Dg es i 0 (z.cells.toList.map Cm)=es:=by simp[Dg]
  rw[dQ];refine⟨w,by cases ad<;>simp[Builtin.clear_,run_underlying hu],?_⟩;have qE:Ae s.own loc id r=some (loc id):=by unfold Ae;rw[he];simp[wO]
  have zZ:=R.st.ok e qO;rw[qW,hid]at zZ
  have hL:∀b0,b0∈(loc id).blks->b0<w.heap.size/\((∃e∈s.own,e.id=id/\b0∈(loc id).blks)\/w.heap.size<=b0):=fun b0 qR =>
   ⟨R.st.lt b0 (aN0 _ (Bm qO (by rw[hid];exact qR))),.inl ⟨e,qO,hid,qR⟩⟩
  have W:=R.weakUp (obj:= .row et k bs es) qF (Upd.refl _ w) hL (.inr qE);unfold Co at qF;exact R.up (hLn:=by have:=DM R.st.bl e qO;rwa[hid]at this) (n:=n) qF qI (Upd.refl _ w) (fun _ _ _=>rfl) hL (.inr qE) (Bp W (by simp only[Fp];omega) (fun _ _ _ h=>h) zZ) (kZ _ _ _)
 ·obtain⟨b,wQ,rfl⟩:=yR (by omega);obtain⟨h7,b',arr,cap',h1,h2,h3,h4,h5,h6,wC⟩:=Xk (B:=B) R.st he qW (by intro h;subst h;simp at hb;omega);rw[h1]at wQ;simp only[bG0,and_true]at wQ;subst wQ;have kB:es.length*k<=arr.size:=by rw[<-h6];exact aS0 _ h4
  have hzn:(Builtin.zeroCells z.cells m).toList.length=m*k:=by simp[size_zeroCells,zG]
  have vZ:i*k+m*k<=arr.size:=by rw[<-bU0];exact Nat.le_trans (aS0 _ hb) kB
  have hzone:∀u∈(Builtin.zeroCells z.cells m).toList,u.oneCell'=true:=by
   intro u zH;simp only[Builtin.zeroCells,eE0,aR0]at zH;obtain⟨j,_,rfl⟩:=zH;have kW:0<z.cells.size:=by omega
   have qV:j%z.cells.size<z.cells.size:=Nat.mod_lt _ kW;rw[getElem!_pos z.cells _ qV];exact qP _ (by simp)
  have qL:=run_storeCells_at P b' (i*k) et (Builtin.zeroCells z.cells m).toList 0 arr w h3 (by rw[hzn];omega) hzone;simp only[dQ0]at qL;obtain⟨m',rfl⟩:∃m',m=m'+1:=⟨m-1,by omega⟩;refine⟨_,?_,R.writeRow he wO qW h1 h2 h3 h4 h5 h6 h7 (by simp[Dg];omega) (by simp only[dL0,aD0,bE0,bW0,bQ0,hzn];rw[<-bQ0];rw[<-bQ0]at vZ;omega) (Ep_ wC hb zG qP (by omega) kB) ?_ qF qI kZ⟩
  ·simp[Builtin.clear_,run_underlying hu,zeroValue,typeInfo,hi,kK,qL]
  ·unfold Dg;unfold Co at qF;rw[BG,BG];have:=GN i es;have:=GO (i+(m'+1)) es;have:=XQ (n:=0) (m:=m'+1) (dO0 (Ku_ z.cells.toList));omega
end
end Go.Dm
end
