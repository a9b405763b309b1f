/- Parts of a proof, laid together: EnF, EnG, EnH, EnI, EnI1, EnI2. -/
import Derived.Sort.LoopGhostIn
import Derived.RangeFuncCalls
import Derived.RangeFuncLeaves
import Derived.OrdersIn
import Derived.Orders
import Derived.Laws.AppendOwn
import Derived.Laws.OwnMore
import Derived.Deep.DeepAppendWide
import Derived.Laws.MakeOwn
import Derived.Test.YtchgnpnbcjflcaaGreatqCt1
set_option linter.unusedSimpArgs false
set_option linter.unusedVariables false
set_option linter.unusedSectionVars false
section
namespace Go.Dm
variable [DMode]
def wd (ro:Option Nat):Fence:={ fn:=fun _=>True,depth:=none,alive:=false,round:=ro }
theorem Qa_ {P:Program} {f:FuncId} {args:Array Value} {w:World} {R:Ending→World→Prop} (ro:Option Nat) (n:Nat) (h:Calls P f args w R):CallsIn (wd ro) n P f args w R:=by
 have h:=(callsIn_wide (n:=n)).2 h
 cases ro with
 | none=>exact h
 | some l=>exact CallsIn.inRound l h
section
variable (P : Program) (B : Base)
def QQ (Q:Exit→DS→Prop):Exit→Act→World→Prop:=fun e a w=>∃s loc,Q e s∧Rel B s a w loc
def DW (c:Code) (Q:Exit→DS→Prop) (s:DS):Prop:=∀a w loc,Rel B s a w loc→c.wpIn (wd B.ro) 0 P (QQ B Q) a w
def Dthen (K:DS→Prop) (Q:Exit→DS→Prop):Exit→DS→Prop
 | .normal,s=>K s
 | e,s=>Q e s
def Dblock (id:Nat) (Q:Exit→DS→Prop):Exit→DS→Prop
 | .exit id',s=>if id'=id then Q .normal s else Q (.exit id') s
 | e,s=>Q e s
def Sub (s s':DS):Prop:=∀a w loc,Rel B s a w loc→∃loc',Rel B s' a w loc'
end
section
variable {P : Program} {B : Base} {Q : Exit → DS → Prop} {s s' : DS}
theorem EP_ {c:Code} (h:Sub B s s') (hw:DW P B c Q s'):DW P B c Q s:=fun a w loc R =>
 let ⟨loc',R'⟩:=h a w loc R;hw a w loc' R'
theorem Aw_ {x y:Code} (h:∀K:DS→Prop,(∀s,DW P B y Q s→K s)→DW P B x (Dthen K Q) s):DW P B (.seq x y) Q s:=by
 intro a w loc R;refine wpIn_seq (wpIn_mono (h (fun s=>DW P B y Q s) (fun _ h=>h) a w loc R) ?_);rintro e a' w' ⟨s',loc',hq,R'⟩
 cases e<;>first
  | exact hq a' w' loc' R'
  | exact⟨s',loc',hq,R'⟩
theorem Ap_ (h:Q .normal s):DW P B .skip Q s:=fun a w loc R=>wpIn_skip ⟨s,loc,h,R⟩
theorem Aq_ {id:Nat} (h:Q (.exit id) s):DW P B (.exit id) Q s:=fun a w loc R=>wpIn_exit ⟨s,loc,h,R⟩
theorem Ay_ (h:Q .ret s):DW P B .ret Q s:=fun a w loc R=>wpIn_ret ⟨s,loc,h,R⟩
theorem DW_label {l:Nat} (h:Q .normal s):DW P B (.label l) Q s:=fun a w loc R=>wpIn_label ⟨s,loc,h,R⟩
theorem Al_ {id:Nat} {c:Code} (h:DW P B c (Dblock id Q) s):DW P B (.block id c) Q s:=by
 intro a w loc R;refine wpIn_block (wpIn_mono (h a w loc R) ?_);rintro e a' w' ⟨s',loc',hq,R'⟩;cases e<;>try exact⟨s',loc',hq,R'⟩
 rename_i id';simp only[Dblock]at hq;simp only[Exit.inBlock]
 split
 ·rename_i h;rw[if_pos h]at hq;exact⟨s',loc',hq,R'⟩
 ·rename_i h;rw[if_neg h]at hq;exact⟨s',loc',hq,R'⟩
theorem Rel.ev {a:Act} {w:World} {loc:Nat→Loc} (R:Rel B s a w loc) (x:Operand):Rds s loc B.M0 w (ev s.slots x) (a.eval x):=rd_ev R.sl x
theorem DW_cond {c:Operand} {x y:Code} {b:Bool} (hc:ev s.slots c= .bool b) (ht:b=true→DW P B x Q s) (hf:b=false→DW P B y Q s):DW P B (.cond c x y) Q s:=by
 intro a w loc R;have h:=R.ev c;rw[hc]at h;simp only[Rds,rd]at h;exact wpIn_cond_split h (fun hb=>ht hb a w loc R) (fun hb=>hf hb a w loc R)
def Aj_ (B:Base) {X:Type} (S:X→DS) (μ:X→Nat) (n:Nat) (s':DS):Prop:=∃x',Sub B s' (S x')∧μ x'<n
theorem Aj_.mk {X:Type} {S:X→DS} {μ:X→Nat} {n:Nat} (x':X) (h:Sub B s' (S x')) (hm:μ x'<n):Aj_ B S μ n s':=⟨x',h,hm⟩
theorem Ae_ {c:Code} {X:Type} (S:X→DS) (μ:X→Nat) (x₀:X) (h₀:Sub B s (S x₀))
  (round:∀x,DW P B c (Dthen (Aj_ B S μ (μ x)) Q) (S x)):DW P B (.loop c) Q s:=by
 intro a w loc R;refine wpIn_loop_ghost (fun n a w=>∃x loc,μ x=n∧Rel B (S x) a w loc) (μ x₀) ?_ ?_
 ·obtain⟨loc',R'⟩:=h₀ a w loc R;exact⟨x₀,loc',rfl,R'⟩
 ·rintro n a w ⟨x,loc,rfl,R⟩;refine wpIn_mono (round x a w loc R) ?_;rintro e a' w' ⟨s',loc',hq,R'⟩;cases e<;>try exact⟨s',loc',hq,R'⟩
  obtain⟨x',hs,hlt⟩:=hq;obtain⟨loc'',R''⟩:=hs a' w' loc' R';exact⟨μ x',hlt,x',loc'',rfl,R''⟩
end
def Ci_ (P:Program) (f:FuncId):Prop:=∀args w,(callFunc f args).run P w= .ok (.enter f args) w
def Ac_ (P:Program) (f:FuncId) (args:List DVal) (d:DVal):Prop :=
 Ci_ P f∧mx d=0∧∀(cur:Cur) (M:List Nat) (w:World) (vs:Array Value),(∀b∈M,b<w.heap.size)→rdV cur M w.heap args vs.toList →
  Calls P f vs w fun e w'=>∃v,e= .returned v∧Upd [] w w'∧rd cur M w'.heap d v
mutual
def wfD : DVal→Prop
 | .int k n=>inR k n
 | .str s=>s.size≤maxLen
 | .ref cs=>wfL cs
 | .sl _ bs es=>es.length*bs≤150000000000000∧es.length≤maxLen∧wfR es
 | .mp ks vs=>wfL ks∧wfL vs
 | .fn _ us cs=>wfL us∧wfL cs
 | .ifc _ d=>wfD d
 | .agg cs=>wfL cs
 | .tup cs=>wfL cs
 | _=>True
def wfL : List DVal→Prop
 | []=>True
 | d::ds=>wfD d∧wfL ds
def wfR : List (List DVal)→Prop
 | []=>True
 | cs::es=>wfL cs∧wfR es
end
section
variable {cur : Cur} {M : List Nat} {h : Array Obj}
mutual
theorem rd_wf : ∀(d:DVal) (v:Value),rd cur M h d v→wfD d
 | .any,_,_=>by simp[wfD]
 | .undef,_,_=>by simp[wfD]
 | .sel _ _,_,_=>by simp[wfD]
 | .bool _,_,_=>by simp[wfD]
 | .int _ _,_,hr=>by simp only[rd]at hr;simp only[wfD];exact hr.2
 | .str _,_,hr=>by simp only[rd]at hr;simp only[wfD];exact hr.2
 | .nilp,_,_=>by simp[wfD]
 | .ref cs,v,hr=>by
  simp only[rd]at hr;obtain⟨b,off,arr,ty,fz,_,_,_,h4⟩:=hr;simp only[wfD];exact Vf_ cs arr off h4
 | .bx _ _ _,_,_=>by simp[wfD]
 | .rx _ _ _ _ _,_,_=>by simp[wfD]
 | .nilsl,_,_=>by simp[wfD]
 | .esl,_,_=>by simp[wfD]
 | .sl k bs es,v,hr=>by
  simp only[rd]at hr;obtain⟨a,cap,h1,h2,h2',h2'',h3⟩:=hr;simp only[wfD];refine⟨h2'',Nat.le_trans h2 h2',?_⟩
  rcases h3 with ⟨rfl,_⟩ | ⟨b,off,arr,ty,fz,g1,g2,g3,g4⟩
  ·simp[wfR]
  ·exact rdR_wf k es arr off g4
 | .osl _ _,_,_=>by simp[wfD]
 | .vw _ _ _ _ _ _,_,_=>by simp[wfD]
 | .nilmp,_,_=>by simp[wfD]
 | .mp ks vs,v,hr=>by
  simp only[rd]at hr;obtain⟨_,es,_,_,_,_,_,h5,h6⟩:=hr;simp only[wfD];exact⟨FV_ ks _ h5,FV_ vs _ h6⟩
 | .omp _ _,_,_=>by simp[wfD]
 | .pk _ _,_,_=>by simp[wfD]
 | .nilfn,_,_=>by simp[wfD]
 | .fn f us cs,v,hr=>by
  simp only[rd]at hr;obtain⟨us',cs',h1,h2,h3⟩:=hr;simp only[wfD];exact⟨FV_ us _ h2,FV_ cs _ h3⟩
 | .nilifc,_,_=>by simp[wfD]
 | .ifc t d,v,hr=>by
  simp only[rd]at hr;obtain⟨u,h1,h2⟩:=hr;simp only[wfD];exact rd_wf d u h2
 | .agg cs,v,hr=>by
  simp only[rd]at hr;obtain⟨us,h1,h2⟩:=hr;simp only[wfD];exact FV_ cs _ h2
 | .tup cs,v,hr=>by
  simp only[rd]at hr;obtain⟨us,h1,h2⟩:=hr;simp only[wfD];exact FV_ cs _ h2
theorem Vf_ : ∀(ds:List DVal) (arr:Array Value) (o:Nat),rdC cur M h ds arr o→wfL ds
 | [],_,_,_=>by simp[wfL]
 | d::ds,arr,o,hr=>by
  simp only[rdC]at hr;obtain⟨⟨v,_,_,h2⟩,h3⟩:=hr;simp only[wfL];exact⟨rd_wf d v h2,Vf_ ds arr _ h3⟩
theorem rdR_wf : ∀(k:Nat) (es:List (List DVal)) (arr:Array Value) (o:Nat),rdR cur M h k es arr o→wfR es
 | _,[],_,_,_=>by simp[wfR]
 | k,cs::es,arr,o,hr=>by
  simp only[rdR]at hr;obtain⟨_,h2,h3⟩:=hr;simp only[wfR];exact⟨Vf_ cs arr o h2,rdR_wf k es arr _ h3⟩
theorem FV_ : ∀(ds:List DVal) (vs:List Value),rdV cur M h ds vs→wfL ds
 | [],_,_=>by simp[wfL]
 | d::ds,vs,hr=>by
  simp only[rdV]at hr;obtain⟨v,r,_,h2,h3⟩:=hr;simp only[wfL];exact⟨rd_wf d v h2,FV_ ds r h3⟩
end
end
def isE : DVal→Bool
 | .sl _ _ []=>true
 | _=>false
def wk1 (d d':DVal):Prop:=d=d'∨((d= .nilsl∨d= .esl)∧isE d'=true)
def wkL : List DVal→List DVal→Prop
 | [],[]=>True
 | d::ds,e::es=>wk1 d e∧wkL ds es
 | _,_=>False
def wk : DVal→DVal→Prop
 | .tup a,.tup b=>wkL a b
 | .agg a,.agg b=>wkL a b
 | d,d'=>wk1 d d'
section
variable {cur : Cur} {M : List Nat} {h : Array Obj}
theorem rd_wk1 {d d':DVal} {v:Value} (hw:wk1 d d') (hr:rd cur M h d v):rd cur M h d' v:=by
 rcases hw with rfl | ⟨hd,he⟩
 ·exact hr
 ·unfold isE at he
  split at he
  ·rcases hd with rfl | rfl
   ·simp only[rd]at hr ⊢;subst hr;exact⟨none,0,rfl,by simp,by unfold maxLen;omega,by simp,.inl ⟨by simp,fun _=>rfl⟩⟩
   ·simp only[rd]at hr ⊢;obtain⟨ad,cap,rfl,hc⟩:=hr;exact⟨some ad,cap,rfl,by simp,hc,by simp,.inl ⟨by simp,by simp⟩⟩
  ·simp at he
theorem rd_wkL : ∀{ds es:List DVal} {vs:List Value},wkL ds es→rdV cur M h ds vs→rdV cur M h es vs
 | [],[],_,_,hr=>hr
 | d::ds,e::es,vs,hw,hr=>by
  simp only[wkL]at hw;simp only[rdV]at hr ⊢;obtain⟨v,r,rfl,h1,h2⟩:=hr;exact⟨v,r,rfl,rd_wk1 hw.1 h1,rd_wkL hw.2 h2⟩
theorem rd_wk {d d':DVal} {v:Value} (hw:wk d d') (hr:rd cur M h d v):rd cur M h d' v:=by
 unfold wk at hw
 split at hw
 ·simp only[rd]at hr ⊢;obtain⟨us,rfl,h1⟩:=hr;exact⟨us,rfl,rd_wkL hw h1⟩
 ·simp only[rd]at hr ⊢;obtain⟨us,rfl,h1⟩:=hr;exact⟨us,rfl,rd_wkL hw h1⟩
 ·exact rd_wk1 hw hr
end
def wkA : List DVal→List DVal→Prop
 | [],[]=>True
 | d::ds,e::es=>wk d e∧wkA ds es
 | _,_=>False
theorem Rf_ {cur:Cur} {M:List Nat} {h:Array Obj}:∀{ds es:List DVal} {vs:List Value},wkA ds es→rdV cur M h ds vs→rdV cur M h es vs
 | [],[],_,_,hr=>hr
 | [],_::_,_,hw,_=>hw.elim
 | _::_,[],_,hw,_=>hw.elim
 | d::ds,e::es,vs,hw,hr=>by
  simp only[rdV]at hr ⊢;obtain⟨v,r,rfl,h1,h2⟩:=hr;exact⟨v,r,rfl,rd_wk hw.1 h1,Rf_ hw.2 h2⟩
structure Cont where
 f:DS→Prop
structure ContV where
 f:DVal→Prop
structure ContE where
 f:DVal→List Ent→Prop
def Bj_ (P:Program) (g:FuncId) (args:List DVal) (K:ContV):Prop:=∃args' d,wkA args args'∧Ac_ P g args' d∧K.f d
theorem SV_ (d:DVal):wk d d:=by
 have h1:∀d,wk1 d d:=fun d=> .inl rfl
 have hL:∀l,wkL l l:=by
  intro l
  induction l with
  | nil=>trivial
  | cons d l ih=>exact⟨h1 d,ih⟩
 cases d<;>first
  | exact hL _
  | exact h1 _
theorem Kp_ : ∀l,wkA l l
 | []=>trivial
 | d::l=>⟨SV_ d,Kp_ l⟩
theorem Ag_ {P:Program} {g:FuncId} {args:List DVal} {d:DVal} {K:ContV} (h:Ac_ P g args d) (hk:K.f d):Bj_ P g args K:=⟨args,d,Kp_ _,h,hk⟩
theorem Af_ {P:Program} {g:FuncId} {args args':List DVal} {d:DVal} {K:ContV} (h:Ac_ P g args' d) (hw:wkA args args') (hk:K.f d):Bj_ P g args K:=⟨args',d,hw,h,hk⟩
theorem MB_ {P:Program} {g:FuncId} {args:List DVal} {K:ContV} (h:Bj_ P g args K):∃d,Ac_ P g args d∧K.f d:=by
 obtain⟨args',d,hw,h,hk⟩:=h;exact⟨d,⟨h.1,h.2.1,fun cur M w vs hM hr=>h.2.2 cur M w vs hM (Rf_ hw hr)⟩,hk⟩
def gB : DVal→Bool→Bool
 | .bool t,true=>t
 | .bool t,false=> !t
 | .sel c (.bool t),true=>c&&t
 | .sel c (.bool t),false=>c&& !t
 | _,_=>false
def gOK : DVal→Bool
 | .bool _=>true
 | .sel _ (.bool _)=>true
 | .undef=>true
 | _=>false
def Ll_ : DVal→DVal
 | .sel _ d=>d
 | d=>d
def okG (c:Bool):DVal→Prop
 | .sel c' _=>c=true→c'=true
 | _=>True
def okL (c:Bool) (e:Operand→DVal):List Operand→Prop
 | []=>True
 | x::r=>okG c (e x)∧okL c e r
def okOp (c:Bool) (e:Operand→DVal) (op:Op):Prop:=match op with
 | .pick x a b=>okG c (e x)∧∀t,Ll_ (e x)= .bool t→(t=true→okG c (e a))∧(t=false→okG c (e b))
 | op=>okL c e op.operands.toList
def AT_ (l:List (Nat×DVal)) (x:Operand):DVal:=Ll_ (ev l x)
def Cs_ (nt:Nat):Option Nat→Bool
 | none=>true
 | some i=>decide (i<nt)
def callee (e:Operand→DVal) (c:Call):Option (FuncId×List DVal) :=
 match c.callee with
 | .value f=>match e f with
  | .fn (.func g) us cs=>some (g,us++c.args.toList.map e++cs)
  | _=>none
 | _=>none
section
variable (P : Program) (nt : Nat)
def kD (K:Cont) (s:DS) (dst:Option Nat):ContV:=⟨fun d=>K.f ⟨putS s.slots dst d,s.own⟩⟩
def kG (K:Cont) (c:Bool) (s:DS) (dst:Option Nat):ContV:=⟨fun d=>K.f ⟨putS s.slots dst (.sel c d),s.own⟩⟩
theorem kD_f (K:Cont) (s:DS) (dst:Option Nat) (d:DVal):(kD K s dst).f d=K.f ⟨putS s.slots dst d,s.own⟩:=id rfl
theorem kG_f (K:Cont) (c:Bool) (s:DS) (dst:Option Nat) (d:DVal):(kG K c s dst).f d=K.f ⟨putS s.slots dst (.sel c d),s.own⟩:=id rfl
def callG (c:Bool) (g:FuncId) (args:List DVal) (K:ContV):Prop:=match c with
 | true=>Bj_ P g args K
 | false=>K.f .any
def dOpG (c:Bool) (o:Oper) (s:DS) (K:Cont):Prop :=
 Cs_ nt o.dst=true∧okOp c (ev s.slots) o.op∧match o.op with
  | .call cl=>match callee (AT_ s.slots) cl with
   | some (g,args)=>callG P c g args (kG K c s o.dst)
   | none=>(c=true→nPre P s.own (AT_ s.slots) o.op)∧K.f ⟨putS s.slots o.dst (.sel c (nVal P s.own (AT_ s.slots) o.op)),s.own⟩
  | op=>(c=true→nPre P s.own (AT_ s.slots) op)∧K.f ⟨putS s.slots o.dst (.sel c (nVal P s.own (AT_ s.slots) op)),s.own⟩
def BH_ (ops:Array Oper) (s:DS) (j:Nat):DVal:=match (ops[j]?).bind (·.dst)with | some t=>getS s.slots t | none=> .any
end
section
variable {P : Program} {B : Base} {s : DS} {a : Act} {w : World} {loc : Nat → Loc}
theorem SB_ {c:Bool} {g:FuncId} {args:List DVal} {K:ContV} (h:callG P c g args K):∃d,(c=true→Ac_ P g args d)∧K.f d:=by
 cases c
 ·exact⟨.any,(fun h=>by simp at h),h⟩
 ·obtain⟨d,h1,h2⟩:=MB_ h;exact⟨d,fun _=>h1,h2⟩
theorem Mr_ {o:Oper} (h:Cs_ B.nt o.dst=true):∀i,o.dst=some i→i<B.nt:=by
 intro i hi;rw[hi]at h;simpa[Cs_]using h
theorem Rel.lt (R:Rel B s a w loc):∀b∈hm s loc B.M0,b<w.heap.size:=R.st.lt
theorem UR_ {o:Oper} {c:Call} (ho:o.op= .call c) {ρ:Operand→Value} {M0:List Nat} {e:Operand→DVal} (hρ:∀x∈c.operands,Rds s loc M0 w (e x) (ρ x)) {g:FuncId} {args:List DVal} (hc:callee e c=some (g,args)) (he:Ci_ P g) :
  ∃vs:Array Value,(execOp ρ o).run P w= .ok (.enter g vs) w∧rdV (cu s loc) (hm s loc M0) w.heap args vs.toList:=by
 obtain⟨dst,op,type,pos,after,guard⟩:=o;simp only at ho;subst ho;obtain⟨cal,ars,ats⟩:=c;unfold callee at hc
 cases cal with
 | value f =>
  simp only at hc
  split at hc
  ·rename_i g' us cs hf;simp only[aA0,aW0]at hc;obtain⟨rfl,rfl⟩:=hc;have hx:=hρ f (by simp[Call.operands]);rw[hf]at hx;simp only[Rds,rd]at hx;obtain⟨us',cs',hv,h1,h2⟩:=hx
   have key:∀l:List Operand,(∀x∈l,Rds s loc M0 w (e x) (ρ x))→rdV (cu s loc) (hm s loc M0) w.heap (l.map e) (l.map ρ):=by
    intro l
    induction l with
    | nil=>intro _;simp[rdV]
    | cons x l ih=>intro hl;simp only[List.map_cons,rdV];exact⟨_,_,rfl,hl x aF0,ih fun y hy=>hl y (aD0 _ hy)⟩
   refine⟨us'++ars.map ρ++cs',?_,?_⟩
   ·simp only[execOp,resolve,hv,Deferred.ofValue,Sem.run_bind,Sem.run_pure,Result.andThen_ok,invoke];exact he _ _
   ·simp only[Array.toList_append,eG0];exact Bz_ _ _ _ _ (Bz_ _ _ _ _ h1 (key _ fun x hx=>hρ x (by simp[Call.operands];right;simpa using hx))) h2
  ·simp at hc
 | invoke r m=>simp at hc
 | builtin b=>simp at hc
theorem Pa_ {own:List Ent} {e e':Operand→DVal} (op:Op) (h:∀x∈op.operands,e x=e' x):(nPre P own e op↔nPre P own e' op)∧nVal P own e op=nVal P own e' op:=by
 have parts:∀(ps:Array (Nat×Operand)),(∀x∈(ps.toList.map (·.2)).toArray,e x=e' x)→∀p∈ps.toList,e p.2=e' p.2:=by
  intro ps h p hp;exact h p.2 (by simpa using ⟨p.1,by simpa using hp⟩)
 cases op<;>simp only[Op.operands]at h<;>simp only[nPre,nVal]
 case move x=>exact⟨trivial,h x (by simp)⟩
 case assign x=>exact⟨trivial,h x (by simp)⟩
 case pick c a b =>
  have h1:=h c (by simp);have h2:=h a (by simp);have h3:=h b (by simp);simp only[h1,h2,h3,and_self]
 case build t ps =>
  have hp:=parts ps h;have e1:(ps.toList.map fun p=>(p.1,e p.2))=ps.toList.map fun p=>(p.1,e' p.2):=cJ0 fun p hm=>by rw[hp p hm]
  have e2:(ps.toList.all fun p=>Ck_ own (e p.2))=ps.toList.all fun p=>Ck_ own (e' p.2):=by
   rw[Bool.eq_iff_iff,bA0,bA0]
   constructor<;>intro hq p hm<;>have:=hq p hm
   ·rw[←hp p hm];exact this
   ·rw[hp p hm];exact this
  simp only[e1,e2,and_self]
 case buildSlice t n ps =>
  have hp:=parts ps h;have e1:(ps.toList.map fun p=>AC_ (e p.2))=ps.toList.map fun p=>AC_ (e' p.2):=cJ0 fun p hm=>by rw[hp p hm]
  have e2:∀k,(ps.toList.all fun p=>Ck_ own (e p.2)&&(AC_ (e p.2)).length==k)=ps.toList.all fun p=>Ck_ own (e' p.2)&&(AC_ (e' p.2)).length==k:=by
   intro k;rw[Bool.eq_iff_iff,bA0,bA0]
   constructor<;>intro hq p hm<;>have:=hq p hm
   ·rw[←hp p hm];exact this
   ·rw[hp p hm];exact this
  simp only[e1,e2,and_self]
 case makeFunc f us cs =>
  have e1:us.toList.map e=us.toList.map e':=cJ0 fun x hx=>h x (by simp;left;simpa using hx)
  have e2:cs.toList.map e=cs.toList.map e':=cJ0 fun x hx=>h x (by simp;right;simpa using hx)
  simp only[e1,e2,and_self]
 case call c =>
  have e1:c.args.toList.map e=c.args.toList.map e':=cJ0 fun x hx=>h x (by simp[Call.operands];right;simpa using hx)
  cases c.callee<;>simp only[e1,and_self]
 case slice t x l h' m =>
  have hx:=h x (by simp)
  have hi:∀(d:Int) (o:Option Operand),(o=l∨o=h'∨o=m)→ixV e d o=ixV e' d o:=by
   intro d o ho
   cases o with
   | none=>rfl
   | some y =>
    have:e y=e' y:=h y (by
     simp only[Array.mem_append]
     rcases ho with ho | ho | ho<;>subst ho<;>simp)
    simp only[ixV,this]
  have h1:∀d,ixV e d l=ixV e' d l:=fun d=>hi d l (by simp)
  have h2:∀d,ixV e d h'=ixV e' d h':=fun d=>hi d h' (by simp)
  have h3:∀d,ixV e d m=ixV e' d m:=fun d=>hi d m (by simp)
  have h4:∀n,Ef_ e n l h' m↔Ef_ e' n l h' m:=fun n=>by simp only[Ef_,h1,h2,h3]
  have h5:∀n,Ef_ e n l h' none↔Ef_ e' n l h' none:=fun n=>by simp only[Ef_,h1,h2,show ∀d,ixV e d none=ixV e' d none from fun _=>rfl]
  simp only[hx,h1,h2,h4,h5,and_self]
 all_goals simp_all
theorem neu_wp {o:Oper} {e:Operand→DVal} {d:DVal} {K:DS→Prop} {next:Act→World→Prop} {Q:Exit→Act→World→Prop} (R:Rel B s a w loc) (hd:Cs_ B.nt o.dst=true) (he:∀x∈o.op.operands,Rds s loc B.M0 w (e x) (a.eval x)) (hp:nPre P s.own e o.op)
  (hk:K ⟨putS s.slots o.dst d,s.own⟩) (hdv:∀(w':World) (v:Value),rd (cu s loc) (hm s loc B.M0) w'.heap (nVal P s.own e o.op) v→rd (cu s loc) (hm s loc B.M0) w'.heap d v) (hn:∀s' a' w' loc',K s'→Rel B s' a' w' loc'→next a' w'):o.wpIn (wd B.ro) 0 P a w next Q:=by
 classical
 have hc:=Pa_ (P:=P) (own:=s.own) (e:=e) (e':=fun x=>if x∈o.op.operands then e x else .any) o.op (fun x hx=>by simp[hx])
 obtain⟨v,w',h1,h2,h3⟩:=neu_sound (P:=P) (ρ:=a.eval) (M0:=B.M0) (o:=o) (e:=fun x=>if x∈o.op.operands then e x else .any) R.st (fun x=>by
  by_cases hx:x∈o.op.operands
  ·simp only[if_pos hx];exact he x hx
  ·simp only[if_neg hx,Rds,rd]) (hc.1.1 hp)
 rw[←hc.2]at h3;refine⟨fun _ _=>trivial,?_⟩;rw[Oper.semAt_eq _ _ _ (fun c hc=>by rw[hc]at hp;simp only[nPre]at hp),h1,Oper.uponIn_value];exact hn _ _ _ loc hk (R.put (Mr_ hd) h2 (hdv _ _ h3))
theorem call_wp {o:Oper} {c:Call} {g:FuncId} {args:List DVal} {e:Operand→DVal} {d d':DVal} {K:DS→Prop} {next:Act→World→Prop} {Q:Exit→Act→World→Prop} (R:Rel B s a w loc) (hd:Cs_ B.nt o.dst=true) (ho:o.op= .call c) (he:∀x∈o.op.operands,Rds s loc B.M0 w (e x) (a.eval x))
  (hc:callee e c=some (g,args)) (hp:Ac_ P g args d) (hk:wfD d→K ⟨putS s.slots o.dst d',s.own⟩) (hdv:∀(w':World) (v:Value),rd (cu s loc) (hm s loc B.M0) w'.heap d v→rd (cu s loc) (hm s loc B.M0) w'.heap d' v) (hn:∀s' a' w' loc',K s'→Rel B s' a' w' loc'→next a' w'):o.wpIn (wd B.ro) 0 P a w next Q:=by
 obtain⟨vs,h1,h2⟩:=UR_ (P:=P) (ρ:=a.eval) (M0:=B.M0) ho (fun x hx=>he x (by rw[ho];exact hx)) hc hp.1;refine⟨fun _ _=>trivial,?_⟩;rw[Oper.semAt_eq _ _ _ (fun c' hc'=>by rw[ho]at hc';cases hc'),h1,Oper.uponIn_enter];refine⟨fun h=>by simp[wd]at h,Qa_ B.ro _ ?_⟩;refine(hp.2.2 (cu s loc) (hm s loc B.M0) w vs R.lt h2).mono ?_;rintro e w' ⟨v,rfl,hu,hr⟩;exact hn _ _ _ loc (hk (rd_wf _ _ hr)) (R.put (Mr_ hd) hu (hdv _ _ hr))
theorem NF_ {l:List (Nat×DVal)} {ρ:Operand→Value} {M0:List Nat} (hρ:∀x,Rds s loc M0 w (ev l x) (ρ x)):∀xs:List Operand,okL true (ev l) xs→∀x∈xs,Rds s loc M0 w (AT_ l x) (ρ x)
 | [],_,x,hx=>by cases hx
 | y::ys,h,x,hx=>by
  simp only[okL]at h
  rcases aK0.1 hx with rfl | hx
  ·have:=hρ x;unfold AT_;cases hq:ev l x<;>rw[hq]at this h<;>simp only[Ll_]<;>try exact this
   simp only[okG]at h;simp only[Rds,rd]at this;exact this.1 (h.1 trivial)
  ·exact NF_ hρ ys h.2 x hx
theorem Zi_ (x:DVal):LE_ true x .any=x:=by
 cases x<;>try rfl
 rename_i c d;cases d<;>rfl
theorem Zh_ (y:DVal):LE_ false .any y=y:=by
 cases y<;>rfl
theorem UW_ {cur:Cur} {M:List Nat} {h:Array Obj} {t:Bool} {x y:DVal} {v:Value} (hok:Iz_ t x y) (hv:rd cur M h (if t then x else y) v):rd cur M h (LE_ t x y) v:=by
 unfold LE_
 split
 ·cases t<;>exact hv
 ·cases t
  ·simp only[Iz_]at hok;simp only[aL0,if_false,rd]at hv ⊢;exact hv.1 (hok trivial)
  ·exact hv
 ·cases t
  ·exact hv
  ·simp only[Iz_]at hok;simp only[if_true,rd]at hv ⊢;exact hv.1 (hok trivial)
 ·cases t<;>exact hv
theorem okG_ok {l:List (Nat×DVal)} {ρ:Operand→Value} {M0:List Nat} {x:Operand} (hρ:Rds s loc M0 w (ev l x) (ρ x)) (h:okG true (ev l x)):Rds s loc M0 w (AT_ l x) (ρ x):=by
 unfold AT_;cases hq:ev l x<;>rw[hq]at hρ h<;>simp only[Ll_]<;>try exact hρ
 simp only[okG]at h;simp only[Rds,rd]at hρ;exact hρ.1 (h trivial)
theorem okOp_ok {l:List (Nat×DVal)} {ρ:Operand→Value} {M0:List Nat} {op:Op} {own:List Ent} (hρ:∀x,Rds s loc M0 w (ev l x) (ρ x)) (hok:okOp true (ev l) op) (hp:nPre P own (AT_ l) op) :
  ∃e':Operand→DVal,(∀x∈op.operands,Rds s loc M0 w (e' x) (ρ x))∧nPre P own e' op∧∀cur M h v,rd cur M h (nVal P own e' op) v→rd cur M h (nVal P own (AT_ l) op) v:=by
 classical
 by_cases hpk:∃x a b,op= .pick x a b
 ·obtain⟨x,a,b,rfl⟩:=hpk;simp only[okOp]at hok;obtain⟨h1,h2⟩:=hok;simp only[nPre]at hp;cases hx:AT_ l x<;>rw[hx]at hp<;>try exact hp.elim
  rename_i t;have h2:=h2 t hx;refine⟨fun y=>if okG true (ev l y)then AT_ l y else .any,?_,?_,?_⟩
  ·intro y _;simp only
   split
   ·rename_i hy;exact okG_ok (hρ y) hy
   ·simp only[Rds,rd]
  ·simp only[nPre,if_pos h1,hx];cases t
   ·rw[if_pos (h2.2 rfl)]
    split
    ·exact hp
    ·cases AT_ l b<;>simp[Iz_]
   ·rw[if_pos (h2.1 rfl)]
    split
    ·exact hp
    ·cases hsa:AT_ l a<;>simp only[Iz_]
  ·intro cur M h v;simp only[nVal,if_pos h1,hx];cases t
   ·rw[if_pos (h2.2 rfl)]
    split
    ·exact id
    ·rw[Zh_];exact fun hv=>UW_ hp hv
   ·rw[if_pos (h2.1 rfl)]
    split
    ·exact id
    ·rw[Zi_];exact fun hv=>UW_ hp hv
 ·have hok':okL true (ev l) op.operands.toList:=by
   unfold okOp at hok
   split at hok
   ·exact absurd ⟨_,_,_,rfl⟩ hpk
   ·exact hok
  exact⟨AT_ l,fun x hx=>NF_ hρ _ hok' x (by simpa using hx),hp,fun _ _ _ _ h=>h⟩
theorem PF_ {ops:Array Oper} {j:Nat} {want:Bool} (R:Rel B s a w loc) (hg:gOK (BH_ ops s j)=true):(yielded ops a.tmps j==some want)=gB (BH_ ops s j) want:=by
 unfold BH_ at hg ⊢
 cases ht:(ops[j]?).bind (·.dst)with
 | none=>simp[ht,gOK]at hg
 | some t =>
  simp only[ht]at hg ⊢;have hs:=R.sl t
  have hy:yielded ops a.tmps j=match a.tmps[t]? with | some (.bool b)=>some b | _=>none:=by
   unfold yielded;rw[ht];rfl
  have hnone:a.tmps.getD t Go.undef=Go.undef→yielded ops a.tmps j=none:=by
   intro hs;rw[hy]
   cases hq:a.tmps[t]? with
   | none=>rfl
   | some v =>
    simp only[aT0,hq,cC0]at hs;subst hs;rfl
  have hsome:∀b,a.tmps.getD t Go.undef= .bool b→yielded ops a.tmps j=some b:=by
   intro b hs;rw[hy]
   cases hq:a.tmps[t]? with
   | none=>simp[aT0,hq,Go.undef]at hs
   | some v =>
    simp only[aT0,hq,cC0]at hs;subst hs;rfl
  cases hd:getS s.slots t<;>rw[hd]at hg hs<;>try (simp[gOK]at hg;done)
  ·simp only[rd]at hs;rw[hnone hs];cases want<;>rfl
  ·rename_i c d;cases d<;>try (simp[gOK]at hg;done)
   rename_i b;simp only[rd]at hs;cases c
   ·rw[hnone (hs.2 rfl)];cases want<;>rfl
   ·rw[hsome b (hs.1 rfl)];cases want<;>cases b<;>rfl
  ·rename_i b;simp only[rd]at hs;rw[hsome b hs];cases want<;>cases b<;>rfl
end
section
variable {P : Program} {own : List Ent} {e e' : Operand → DVal}
theorem Kd_ {c:Call} (h:∀x∈c.operands,e x=e' x):callee e c=callee e' c:=by
 unfold callee;have hargs:c.args.toList.map e=c.args.toList.map e':=cJ0 fun x hx=>h x (by simp[Call.operands];right;simpa using hx)
 cases hc:c.callee with
 | value f=>have hf:e f=e' f:=h f (by simp[Call.operands,hc]);simp only[hf,hargs]
 | invoke r m=>rfl
 | builtin b=>rfl
theorem NE_ {c:Bool} {op:Op} (h:∀x∈op.operands,e x=e' x) (hk:okOp c e op):okOp c e' op:=by
 have gen:∀xs:List Operand,(∀x∈xs,e x=e' x)→okL c e xs→okL c e' xs:=by
  intro xs
  induction xs with
  | nil=>intro _ _;trivial
  | cons x xs ih =>
   intro hx hq;simp only[okL]at hq ⊢;exact⟨by rw[←hx x aF0];exact hq.1,ih (fun y hy=>hx y (aD0 _ hy)) hq.2⟩
 unfold okOp at hk ⊢
 split at hk
 ·rename_i x a b;simp only[Op.operands]at h;rw[h x (by simp),h a (by simp),h b (by simp)]at hk;exact hk
 ·exact gen _ (fun x hx=>h x (by simpa using hx)) hk
end
def LR_ (o:Oper) (acc:List Nat):Nat:=o.after.toList.foldl (fun s e=>if Region.binds .any e then s ||| 2 ^ e.on ||| acc.getD e.on 0 else s) 0
def Ec_ : List Oper→List Nat→List Nat
 | [],acc=>acc
 | o::r,acc=>Ec_ r (acc++[LR_ o acc])
def drawOK (ops:Array Oper):Bool :=
 let m:=Ec_ ops.toList []
 let zs:=ops.toList.zipIdx
 (zs.all fun p=>zs.all fun q=>p.1.dst==none||p.1.dst != q.1.dst||p.2==q.2) &&
 (zs.all fun p=>p.1.after.toList.all fun e=> !Region.binds .any e||decide (e.on<p.2)) &&
 zs.all fun p=>(p.1.looksAt ops).all fun t=>zs.all fun q=>q.1.dst != some t||(decide (q.2<p.2)&&(m.getD p.2 0).testBit q.2)||(decide (p.2<q.2)&&(m.getD q.2 0).testBit p.2)
structure DrawSpec (ops:Array Oper):Prop where
 one:∀(k k':Nat) (o o':Oper) (t:Nat),ops[k]? =some o→ops[k']? =some o'→o.dst=some t→o'.dst=some t→k=k'
 acy:∀(k:Nat) (o:Oper),ops[k]? =some o→∀e∈o.after,Region.binds .any e=true→e.on<k
 ord:∀(j:Nat) (o:Oper) (t:Nat),ops[j]? =some o→t∈o.looksAt ops→∀(k:Nat) (o':Oper),ops[k]? =some o'→o'.dst=some t →
  (k<j∧((Ec_ ops.toList []).getD j 0).testBit k=true)∨(j<k∧((Ec_ ops.toList []).getD k 0).testBit j=true)
theorem Ms_ {ops:Array Oper} (h:drawOK ops=true):DrawSpec ops:=by
 unfold drawOK at h;simp only[aN0,bA0]at h;obtain⟨⟨h1,h2⟩,h3⟩:=h
 have mem:∀(k:Nat) (o:Oper),ops[k]? =some o→(o,k)∈ops.toList.zipIdx:=by
  intro k o hk;rw[List.mem_zipIdx_iff_getElem?];simpa using hk
 refine⟨?_,?_,?_⟩
 ·intro k k' o o' t hk hk' ht ht';have:=h1 (o,k) (mem k o hk) (o',k') (mem k' o' hk');simpa[ht,ht']using this
 ·intro k o hk e he hb;have:=h2 (o,k) (mem k o hk) e (by simpa using he);simpa[hb]using this
 ·intro j o t hj ht k o' hk hd;have:=h3 (o,j) (mem j o hj) t ht (o',k) (mem k o' hk);simpa[hd]using this
theorem NI_ (o:Oper) (acc:List Nat) (j:Nat) (h:(LR_ o acc).testBit j=true):∃e∈o.after.toList,Region.binds .any e=true∧(j=e.on∨(acc.getD e.on 0).testBit j=true):=by
 unfold LR_ at h
 have key:∀(l:List Edge) (s:Nat),(l.foldl (fun s e=>if Region.binds .any e then s ||| 2 ^ e.on ||| acc.getD e.on 0 else s) s).testBit j=true→s.testBit j=true∨∃e∈l,Region.binds .any e=true∧(j=e.on∨(acc.getD e.on 0).testBit j=true):=by
  intro l
  induction l with
  | nil=>intro s hs;exact .inl hs
  | cons e l ih =>
   intro s hs;simp only[cO0]at hs
   rcases ih _ hs with h1 | ⟨e',he',h2⟩
   ·split at h1
    ·rename_i hb;rw[Nat.testBit_or,Nat.testBit_or,dD0,dD0]at h1
     rcases h1 with (h1 | h1) | h1
     ·exact .inl h1
     ·rw[Nat.testBit_two_pow]at h1;exact .inr ⟨e,aF0,hb,.inl (by simpa using h1:e.on=j).symm⟩
     ·exact .inr ⟨e,aF0,hb,.inr h1⟩
    ·exact .inl h1
   ·exact .inr ⟨e',aD0 _ he',h2⟩
 rcases key _ 0 h with h1 | h1
 ·simp at h1
 ·exact h1
theorem Pi_ : ∀(l:List Oper) (acc:List Nat) (k:Nat),(Ec_ l acc).getD k 0=if k<acc.length then acc.getD k 0 else match l[k-acc.length]? with | some o=>LR_ o ((Ec_ l acc).take k) | none=>0
 | [],acc,k=>by
  simp only[Ec_]
  split
  ·rfl
  ·rename_i h;simp[bG0,dO0 (by omega:acc.length≤k)]
 | o::r,acc,k=>by
  simp only[Ec_];rw[Pi_ r (acc++[LR_ o acc]) k]
  have pre:∀(l:List Oper) (a:List Nat),∃z,Ec_ l a=a++z:=by
   intro l
   induction l with
   | nil=>intro a;exact⟨[],by simp[Ec_]⟩
   | cons o l ih=>intro a;obtain⟨z,hz⟩:=ih (a++[LR_ o a]);exact⟨_,by simp only[Ec_];rw[hz,aU0]⟩
  simp only[aC0,List.length_cons,List.length_nil,bT0]
  by_cases h1:k<acc.length
  ·rw[if_pos (by omega),if_pos h1];simp[bG0,bB0 h1]
  ·rw[if_neg h1]
   by_cases h2:k=acc.length
   ·subst h2;rw[if_pos (by omega)];simp only[dT0,bD0];obtain⟨z,hz⟩:=pre r (acc++[LR_ o acc]);rw[hz];simp[bG0]
   ·rw[if_neg (by omega)];have:k-acc.length=(k-(acc.length+1))+1:=by omega
    rw[this,bJ0]
def Closed (ops:Array Oper) (S:Nat→Bool):Prop:=∀k o,ops[k]? =some o→S k=true→∀e∈o.after,Region.binds .any e=true→S e.on=true
theorem NX_ {ops:Array Oper} {S:Nat→Bool} (hc:Closed ops S):∀(k:Nat),S k=true→∀j,((Ec_ ops.toList []).getD k 0).testBit j=true→S j=true:=by
 intro k
 induction k using Nat.strongRecOn with
 | _ k ih =>
  intro hk j hj;rw[Pi_]at hj;simp only[List.length_nil,Nat.not_lt_zero,if_false,eH0]at hj
  split at hj
  ·rename_i o ho;obtain⟨e,he,hb,h1⟩:=NI_ _ _ _ hj;have hS:=hc k o (by simpa using ho) hk e (by simpa using he) hb
   rcases h1 with rfl | h1
   ·exact hS
   ·by_cases hlt:e.on<k
    ·refine ih e.on hlt hS j ?_
     have:((Ec_ ops.toList []).take k).getD e.on 0=(Ec_ ops.toList []).getD e.on 0:=by
      simp[bG0,bY0 hlt]
     rwa[this]at h1
    ·have:((Ec_ ops.toList []).take k).getD e.on 0=0:=by
      rw[bG0,dO0 (by simp;omega)];rfl
     rw[this]at h1;simp at h1
  ·simp at hj
def Hp_ (P:Program) (o:Oper) (own:List Ent) (e:Operand→DVal) (d:DVal):Prop :=
 (∃c g args,o.op= .call c∧callee e c=some (g,args)∧Ac_ P g args d)∨(nPre P own e o.op∧d=nVal P own e o.op)
def OpOK (P:Program) (nt:Nat) (ops:Array Oper) (o:Oper) (s:DS) (d:DVal):Prop :=
 Cs_ nt o.dst=true∧match o.guard with
  | none=>Hp_ P o s.own (ev s.slots) d
  | some (j,want)=>gOK (BH_ ops s j)=true∧okOp (gB (BH_ ops s j) want) (ev s.slots) o.op∧∃d',d= .sel (gB (BH_ ops s j) want) d'∧(gB (BH_ ops s j) want=true→Hp_ P o s.own (AT_ s.slots) d')
def dOpD (P:Program) (nt:Nat) (o:Oper) (s:DS) (K:Cont):Prop :=
 Cs_ nt o.dst=true∧match o.op with
  | .call c=>match callee (ev s.slots) c with
   | some (g,args)=>Bj_ P g args (kD K s o.dst)
   | none=>nPre P s.own (ev s.slots) o.op∧K.f ⟨putS s.slots o.dst (nVal P s.own (ev s.slots) o.op),s.own⟩
  | op=>nPre P s.own (ev s.slots) op∧K.f ⟨putS s.slots o.dst (nVal P s.own (ev s.slots) op),s.own⟩
def lexS (l:List (Nat×DVal)):List (Oper×DVal)→List (Nat×DVal)
 | []=>l
 | (o,d)::r=>lexS (putS l o.dst d) r
def setS (l:List (Nat×DVal)) (S:Nat→Bool):Nat→List (Oper×DVal)→List (Nat×DVal)
 | _,[]=>l
 | i,(o,d)::r=>if S i then putS (setS l S (i+1) r) o.dst d else setS l S (i+1) r
theorem EI_ (l:List (Nat×DVal)) (o:Option Nat) (d:DVal) (t:Nat):getS (putS l o d) t=if o=some t then d else getS l t:=by
 cases o with
 | none=>simp[putS]
 | some i =>
  simp only[putS,getS,aA0]
  by_cases h:t=i
  ·subst h;simp
  ·rw[if_neg h,if_neg (fun h'=>h h'.symm)]
theorem Bd_ {l:List (Nat×DVal)} {S:Nat→Bool} {t:Nat}:∀(zs:List (Oper×DVal)) (i:Nat),(∀(k:Nat) (z:Oper×DVal),zs[k]? =some z→z.1.dst=some t→S (i+k)=false)→getS (setS l S i zs) t=getS l t
 | [],_,_=>rfl
 | (o,d)::r,i,h=>by
  have ih:=Bd_ (l:=l) (S:=S) (t:=t) r (i+1) (fun k z hz hd=>by have:=h (k+1) z (by simpa using hz) hd;rwa[show i+1+k=i+(k+1) by omega]);simp only[setS]
  split
  ·rename_i hS;rw[EI_,if_neg,ih];intro hd;have:=h 0 (o,d) (by simp) hd;rw[cV0]at this;rw[this]at hS;simp at hS
  ·exact ih
theorem Cm_ {l:List (Nat×DVal)} {S:Nat→Bool} {t:Nat}:∀(zs:List (Oper×DVal)) (i k:Nat) (z:Oper×DVal),zs[k]? =some z→z.1.dst=some t→S (i+k)=true→(∀(k':Nat) (z':Oper×DVal),zs[k']? =some z'→z'.1.dst=some t→k'=k)→getS (setS l S i zs) t=z.2
 | [],_,_,_,hz,_,_,_=>by simp at hz
 | (o,d)::r,i,0,z,hz,hd,hS,_=>by
  simp only[bD0,aA0]at hz;subst hz;simp only[setS];rw[cV0]at hS;rw[if_pos hS,EI_,if_pos hd]
 | (o,d)::r,i,k+1,z,hz,hd,hS,hu=>by
  have ih:=Cm_ (l:=l) (S:=S) (t:=t) r (i+1) k z (by simpa using hz) hd (by rwa[show i+1+k=i+(k+1) by omega]) (fun k' z' h1 h2=>by have:=hu (k'+1) z' (by simpa using h1) h2;omega);have hne:o.dst≠some t:=fun h=>by have:=hu 0 (o,d) (by simp) h;omega
  simp only[setS]
  split
  ·rw[EI_,if_neg hne,ih]
  ·exact ih
theorem Di_ {t:Nat}:∀(zs:List (Oper×DVal)) (l:List (Nat×DVal)),(∀z∈zs,z.1.dst≠some t)→getS (lexS l zs) t=getS l t
 | [],_,_=>rfl
 | (o,d)::r,l,h=>by
  simp only[lexS];rw[Di_ r _ (fun z hz=>h z (aD0 _ hz)),EI_,if_neg (h (o,d) aF0)]
theorem HA_ {t:Nat}:∀(zs:List (Oper×DVal)) (l:List (Nat×DVal)) (k:Nat) (z:Oper×DVal),zs[k]? =some z→z.1.dst=some t→(∀(k':Nat) (z':Oper×DVal),zs[k']? =some z'→z'.1.dst=some t→k'=k)→getS (lexS l zs) t=z.2
 | [],_,_,_,hz,_,_=>by simp at hz
 | (o,d)::r,l,0,z,hz,hd,hu=>by
  simp only[bD0,aA0]at hz;subst hz;simp only[lexS];rw[Di_,EI_,if_pos hd];intro z' hz' h;obtain⟨k',hk',rfl⟩:=bN0 hz';have:=hu (k'+1) _ (by simp only[bJ0];exact aH0 hk') h;omega
 | (o,d)::r,l,k+1,z,hz,hd,hu=>by
  simp only[lexS];exact HA_ r _ k z (by simpa using hz) hd (fun k' z' h1 h2=>by have:=hu (k'+1) z' (by simpa using h1) h2;omega)
theorem Rel.congr {B:Base} {l l':List (Nat×DVal)} {own:List Ent} {a:Act} {w:World} {loc:Nat→Loc} (h:∀t,getS l' t=getS l t) (R:Rel B ⟨l,own⟩ a w loc):Rel B ⟨l',own⟩ a w loc :=
 ⟨R.st,R.upd,R.new,R.ver,fun i=>by have:=R.sl i;simp only at this ⊢;rw[h i];exact this,R.nt,R.df⟩
theorem Uh_ (S:Nat→Bool) (i:Nat) (hi:S i=false):∀n,i<n→(List.range n).countP (fun k=>if k=i then true else S k)=(List.range n).countP S+1
 | 0,h=>by omega
 | n+1,h=>by
  have same:∀m,m≤i→(List.range m).countP (fun k=>if k=i then true else S k)=(List.range m).countP S:=by
   intro m hm;refine List.countP_congr fun k hk=> ?_
   have:k≠i:=by have:=dP0.1 hk;omega
   simp[this]
  rw[eA0,List.countP_append,List.countP_append]
  by_cases h':i<n
  ·rw[Uh_ S i hi n h'];have:n≠i:=by omega
   simp[fG0,this];omega
  ·have:n=i:=by omega
   subst this;rw[same n (Nat.le_refl _)];simp[fG0,hi]
section
variable {P : Program} {B : Base} {s : DS}
theorem ev_congr {l l':List (Nat×DVal)} {x:Operand} (h:∀t,x= .tmp t→getS l t=getS l' t):ev l x=ev l' x:=by
 cases x<;>first | rfl | exact h _ rfl
end
def Re_ (P:Program) (s:DS):ResultVar→Option DVal
 | .tmp t=>some (getS s.slots t)
 | .cell a t=>match tAgg P t,tCells P t,Db_ s.own (getS s.slots a)with
  | some true,some n,some cs=>if n≤cs.length then some (.agg (cs.take n))else none
  | some false,_,some cs=>match cs with | d::_=>some d | []=>none
  | _,_,_=>none
def resL (P:Program) (s:DS):List ResultVar→Option (List DVal)
 | []=>some []
 | r::rs=>match Re_ P s r,resL P s rs with
  | some d,some ds=>some (d::ds)
  | _,_=>none
def resD (P:Program) (s:DS) (rs:List ResultVar):Option DVal :=
 match resL P s rs with
 | some [d]=>some d
 | some ds=>some (.tup ds)
 | none=>none
def Nz_ (tmps:Array Value):ResultVar→Sem Value
 | .tmp t=>pure (tmps.getD t Go.undef)
 | .cell a t=>do loadVar t (←asAddr (tmps.getD a Go.undef))
theorem Zc_ (fn:Func) (tmps:Array Value):results fn tmps=(do let vs ←fn.results.mapM (Nz_ tmps);pure (if h:vs.size=1 then vs[0]else .tuple vs)):=by
 unfold results
 congr 1
section
variable {P : Program} {B : Base} {s : DS} {a : Act} {w : World} {loc : Nat → Loc}
structure Reads (B:Base) (s:DS) (a:Act) (w:World) (loc:Nat→Loc):Prop where
 st:St s.own loc B.M0 w.heap
 sl:∀i,rd (Ai_ s.own loc) (Ab_ s.own loc++B.M0) w.heap (getS s.slots i) (a.tmps.getD i Go.undef)
theorem YT_ (R:Reads B s a w loc) {r:ResultVar} {d:DVal} (h:Re_ P s r=some d) :
  ∃v,(Nz_ a.tmps r).run P w= .ok v w∧Rds s loc B.M0 w d v:=by
 cases r with
 | tmp t =>
  simp only[Re_,aA0]at h;subst h;exact⟨_,rfl,R.sl t⟩
 | cell x t =>
  simp only[Re_]at h;have hx:=R.sl x
  split at h
  ·rename_i n cs hb hn hc
   split at h
   ·rename_i hle;simp only[aA0]at h;subst h;obtain⟨ad,u,hv,h1,h2⟩:=LU_ (P:=P) R.st (b:=true) hb hx hc (fun _=>⟨n,hn,hle⟩) (by simp);exact⟨u,by simp only[Nz_,hv];simp[asAddr,h1],by simpa[hn]using h2⟩
   ·simp at h
  ·rename_i cs hb hc
   split at h
   ·simp only[aA0]at h;subst h;obtain⟨ad,u,hv,h1,h2⟩:=LU_ (P:=P) R.st (b:=false) hb hx hc (by simp) (by simp);exact⟨u,by simp only[Nz_,hv];simp[asAddr,h1],by simpa using h2⟩
   ·simp at h
  ·simp at h
theorem UQ_ (R:Reads B s a w loc):∀(rs:List ResultVar) (ds:List DVal),resL P s rs=some ds →
  ∃vs:List Value,(rs.mapM (m:=Sem) (Nz_ a.tmps)).run P w= .ok vs w∧rdV (cu s loc) (hm s loc B.M0) w.heap ds vs
 | [],ds,h=>by
  simp only[resL,aA0]at h;subst h;exact⟨[],by simp,by simp[rdV]⟩
 | r::rs,ds,h=>by
  simp only[resL]at h
  split at h
  ·rename_i d ds' hd hds;simp only[aA0]at h;subst h;obtain⟨v,h1,h2⟩:=YT_ R hd;obtain⟨vs,h3,h4⟩:=UQ_ R rs ds' hds;refine⟨v::vs,?_,by simp only[rdV];exact⟨v,vs,rfl,h2,h4⟩⟩;rw[List.mapM_cons,Sem.run_bind,h1];simp[h3]
  ·simp at h
theorem run_resD (R:Reads B s a w loc) {fn:Func} {d:DVal} (h:resD P s fn.results.toList=some d):∃v,(results fn a.tmps).run P w= .ok v w∧Rds s loc B.M0 w d v:=by
 unfold resD at h
 cases hl:resL P s fn.results.toList with
 | none=>rw[hl]at h;simp at h
 | some ds =>
  rw[hl]at h;obtain⟨vs,h1,h2⟩:=UQ_ R _ _ hl;have hlen:=Au_ _ _ h2
  have hm:(fn.results.mapM (m:=Sem) (Nz_ a.tmps)).run P w= .ok vs.toArray w:=by
   rw[←Array.toArray_toList (xs:=fn.results),List.mapM_toArray,Sem.run_map,h1];rfl
  rw[Zc_,Sem.run_bind,hm]
  match ds,vs,hlen,h2,h with
  | [d0],[v0],_,h2,h =>
   simp only[aA0]at h;subst h;simp only[rdV]at h2;obtain⟨v,r,he,h5,_⟩:=h2;simp only[bH0]at he;obtain⟨rfl,rfl⟩:=he;exact⟨v0,by simp,h5⟩
  | [],[],_,h2,h =>
   simp only[aA0]at h;subst h;exact⟨.tuple #[],by simp,by simp only[Rds,rd];exact⟨#[],rfl,h2⟩⟩
  | d0::d1::ds,v0::v1::vs,_,h2,h =>
   simp only[aA0]at h;subst h;exact⟨.tuple (v0::v1::vs).toArray,by simp,by simp only[Rds,rd];exact⟨_,rfl,h2⟩⟩
end
def argS : List DVal→Nat→List (Nat×DVal)
 | [],_=>[]
 | d::ds,i=>(i,d)::argS ds (i+1)
theorem Sc_ : ∀(ds:List DVal) (i t:Nat),getS (argS ds i) t=if t<i then .any else ds.getD (t-i) .any
 | [],i,t=>by simp[argS,getS]
 | d::ds,i,t=>by
  simp only[argS,getS]
  by_cases h:t=i
  ·subst h;simp
  ·rw[if_neg h,Sc_ ds (i+1) t]
   by_cases h1:t<i
   ·rw[if_pos h1,if_pos (by omega)]
   ·rw[if_neg h1,if_neg (by omega)];have:t-i=(t-(i+1))+1:=by omega
    rw[this,List.getD_cons_succ]
theorem St.same {own:List Ent} {loc:Nat→Loc} {M0:List Nat} {h h':Array Obj} (S:St own loc M0 h) (hsz:h.size≤h'.size)
  (hd:∀(b:Nat) (o:Obj),isD o=true→h[b]? =some o→h'[b]? =some o) (hb:∀(b:Nat) (o:Obj),b∈Ab_ own loc→h[b]? =some o→h'[b]? =some o):St own loc M0 h' where
 nd:=S.nd
 bl:=S.bl
 ap:=S.ap
 lt:=fun b hb=>cG0 (S.lt b hb) hsz
 ok:=by
  intro e he
  have W:Weak (Ai_ own loc) (Ai_ own loc) (Ab_ own loc++M0) (Ab_ own loc++M0) h h' (mxO e.obj) :=
   ⟨fun _ _ _ _ h=>h,fun b o _ (h1:isD o=true) h2=>hd b o h1 h2,fun b o hb (_:isD o=true) _=>hb⟩
  exact AN_ W (Nat.le_refl _) (fun b o hm ho=>hb b o (AO_ he hm) ho) (S.ok e he)
def HD_ (P:Program) (f:Fn) (vs:Array Value) (w:World) (R:Value→World→Prop):Prop :=
 match f with
 | .func g=>Ci_ P g∧Calls P g vs w fun e w'=>∃v,e= .returned v∧R v w'
 | .yield l=>∃fn tmps assign body,(Instr.yield l vs).run P w= .ok (.round l fn tmps assign body) w∧RoundIn (wd none) 0 P l fn tmps assign body w fun e w'=>∃v,e= .returned v∧R v w'
 | _=>False
theorem HD_.mono {P:Program} {f:Fn} {vs:Array Value} {w:World} {R R':Value→World→Prop} (h:HD_ P f vs w R) (hr:∀v w',R v w'→R' v w'):HD_ P f vs w R':=by
 cases f with
 | func g=>exact⟨h.1,h.2.mono fun e w' ⟨v,he,hR⟩=>⟨v,he,hr _ _ hR⟩⟩
 | yield l =>
  obtain⟨fn,tmps,assign,body,h1,h2⟩:=h;exact⟨fn,tmps,assign,body,h1,h2.mono fun e w' ⟨v,he,hR⟩=>⟨v,he,hr _ _ hR⟩⟩
 | method n=>exact h.elim
 | methodOf t n=>exact h.elim
 | via t p f q=>exact h.elim
def Dend (P:Program) (fn:Func) (K:DS→DVal→Prop):Exit→DS→Prop
 | .normal,s=>∃d0,resD P s fn.results.toList=some d0∧K s d0
 | .ret,s=>∃d0,resD P s fn.results.toList=some d0∧K s d0
 | _,_=>False
theorem JR_ {P:Program} {fn:Func} {tmps:Array Value} {R:Ending→World→Prop}:∀(rs:List Nat) (w:World),rs.Nodup→(∀r∈rs,w.heap[r]? =some (.deferred (some []))) →
  (∀w',Upd rs w w'→w'.heap.size=w.heap.size→∃v,(results fn tmps).run P w'= .ok v w'∧R (.returned v) w') →
  LeavesInM (wd none) 0 P fn tmps R (rs.map fun r=>{ target:= .collected r,args:= #[] }) .returning w
 | [],w,_,_,h=>h w (Upd.refl _ _) rfl
 | r::rs,w,hn,hr,h=>by
  simp only[cQ0]at hn;refine⟨by simp,.inl ⟨r,w.putObj r (.deferred none),rfl,run_takeDeferred (hr r aF0),?_⟩⟩;refine JR_ rs _ hn.2 (fun r' hr'=> ?_) (fun w' hu hs=>h w' ?_ ?_)
  ·rw[World.putObj_heap_other (fun h=>hn.1 (by rw[h]at hr';exact hr'))];exact hr r' (aD0 _ hr')
  ·have hu0:Upd [r] w (w.putObj r (.deferred none)) :=
    ⟨rfl,rfl,rfl,fun _=>Nat.le_refl _,by simp[World.putObj],fun b _ hb=>World.putObj_heap_other (fun h=>hb (by simp[h]))⟩
   refine(show Upd (r::rs) w w' from ?_);refine⟨hu.os,hu.tape,hu.output,hu.drawn,Nat.le_trans hu0.size hu.size,fun b hb hnb=> ?_⟩;rw[hu.blk b (cG0 hb hu0.size) (fun h=>hnb (aD0 _ h)),hu0.blk b hb (fun h=>hnb (by simp at h;simp[h]))]
  ·rw[hs];simp[World.putObj]
theorem Ke_ {P:Program} {f:FuncId} {fn:Func} {c:Code} {args:List DVal} {own:List Ent} {M:List Nat} {w:World} {loc:Nat→Loc} {vs:Array Value} {N:Nat} {R:Value→World→Prop} {K:DS→DVal→Prop} (hN:N≤1)
  (hf:P.funcs[f]? =some fn) (hb:fn.body=some c) (hen:Ci_ P f) (hnt:args.length≤fn.ntmps) (S:St own loc M w.heap) (hv:∀e∈own,e.r<N→True)
  (hr:rdV (Ai_ own loc) (Ab_ own loc++M) w.heap args vs.toList)
  (h:∀B:Base,B.nt=fn.ntmps∧B.ro=none→DW P B c (Dend P fn K) ⟨argS args 0,own⟩)
  (fin:∀(s:DS) (loc':Nat→Loc) (w':World) (d0:DVal) (v:Value),K s d0→St s.own loc' M w'.heap→Upd (Ab_ own loc) w w'→(∀b∈Ab_ s.own loc',b∈Ab_ own loc∨w.heap.size≤b) →
   (∀e∈s.own,e.r<N→Ai_ own loc e.id e.r=some (loc' e.id))→rd (Ai_ s.own loc') (Ab_ s.own loc'++M) w'.heap d0 v→R v w'):HD_ P (.func f) vs w R:=by
 refine⟨hen,?_⟩;refine(callsIn_wide (n:=0)).1 ?_;refine callsIn_of_wp_marks hf hb trivial ?_ rfl
 let B:Base:=⟨own,loc,M,N,w,fn.ntmps,none,hN,w.heap.size,Nat.le_refl _⟩
 have hlen:=Au_ _ _ hr
 have R0:Rel B ⟨argS args 0,own⟩ { tmps:=vs++Array.replicate (fn.ntmps-vs.size) Go.undef,defers:=[] } w loc:=by
  refine⟨S,Upd.refl _ _,fun b hb=> .inl hb,fun e he _=>AA_ S.nd he,?_,by show _=fn.ntmps;simp at hlen ⊢;omega,⟨[],rfl,List.nodup_nil,by simp⟩⟩;intro i;rw[Sc_];simp only[Nat.not_lt_zero,if_false,eH0]
  cases hi:args[i]? with
  | none=>simp[bG0,hi,rd]
  | some d0 =>
   obtain⟨v,hv,h1⟩:=Rh_ _ _ i d0 hr hi
   have hlt:i<vs.size:=by
    have:=(aB0.1 hv).1;simpa using this
   have hv':vs[i]? =some v:=by simpa using hv
   rw[bG0,hi,aT0,dM0 hlt,hv'];exact h1
 refine wpIn_mono (h B ⟨rfl,rfl⟩ _ w loc R0) ?_;rintro e a' w' ⟨s',loc',hq,R'⟩
 have key:(∃d0,resD P s' fn.results.toList=some d0∧K s' d0)→LeavesInM (wd none) 0 P fn a'.tmps (fun e w'=>∃v,e= .returned v∧R v w') a'.defers .returning w':=by
  rintro⟨d0,hres,hK⟩;obtain⟨rs,hd1,hd0,hd2,_⟩:=R'.df;rw[hd1];refine JR_ rs w' hd0 (fun r hr=>(hd2 r hr).1) fun w'' hu hs=> ?_
  have hdd:∀(b:Nat) (o:Obj),isD o=true→w'.heap[b]? =some o→w''.heap[b]? =some o:=by
   intro b o ho hb;have hlt:=(aG0.1 hb).1;rw[hu.blk b hlt (fun h=>by rw[(hd2 b h).1]at hb;simp only[aA0]at hb;subst hb;simp[isD]at ho)];exact hb
  have hhot:∀(b:Nat) (o:Obj),b∈Ab_ s'.own loc'→w'.heap[b]? =some o→w''.heap[b]? =some o:=by
   intro b o hm hb;have hlt:=(aG0.1 hb).1;rw[hu.blk b hlt (fun h=>(hd2 b h).2.2 (aM0 _ hm))];exact hb
  have S'':=R'.st.same (dJ0 hs.symm) hdd hhot
  have W:∀n,Weak (Ai_ s'.own loc') (Ai_ s'.own loc') (Ab_ s'.own loc'++M) (Ab_ s'.own loc'++M) w'.heap w''.heap n:=fun n =>
   ⟨fun _ _ _ _ h=>h,fun b o _ (h1:isD o=true) h2=>hdd b o h1 h2,fun b o hb (_:isD o=true) _=>hb⟩
  have RR:Reads B s' a' w'' loc':=⟨S'',fun i=>BR_ (W _) _ _ (Nat.le_refl _) (R'.sl i)⟩;obtain⟨v,h1,h2⟩:=run_resD RR hres;refine⟨v,h1,v,rfl,fin s' loc' w'' d0 v hK S'' ?_ R'.new R'.ver h2⟩;refine R'.upd.trans hu (fun x hx=> .inr (hd2 x hx).2.1)
 cases e<;>simp only[Dend]at hq<;>first
  | exact key hq
  | exact hq.elim
def DretW (P:Program) (fn:Func) (d:DVal):Exit→DS→Prop:=Dend P fn fun _ d0=>∀cur M h v,rd cur M h d0 v→rd cur M h d v
theorem ST_ {P:Program} {f:FuncId} {fn:Func} {c:Code} {args:List DVal} {d:DVal} {K:DS→DVal→Prop} (hf:P.funcs[f]? =some fn) (hb:fn.body=some c) (hen:Ci_ P f) (hnt:args.length≤fn.ntmps)
  (hd:mx d=0) (fin:∀(B:Base) (s:DS) (d0:DVal) (loc:Nat→Loc) (w:World) (v:Value),K s d0→St s.own loc B.M0 w.heap→rd (Ai_ s.own loc) (Ab_ s.own loc++B.M0) w.heap d0 v→∃(s':DS) (loc':Nat→Loc),(∀b,b∈B.M0→b∈Ab_ s'.own loc'++B.M0)∧rd (Ai_ s'.own loc') (Ab_ s'.own loc'++B.M0) w.heap d v)
  (h:wfL args→∀B:Base,B.nt=fn.ntmps∧B.ro=none→DW P B c (Dend P fn K) ⟨argS args 0,[]⟩):Ac_ P f args d:=by
 refine⟨hen,hd,fun cur M w vs hM hr=> ?_⟩
 have W:Weak cur (Ai_ [] fun _=>⟨[],Go.undef⟩) M (Ab_ [] (fun _=>⟨[],Go.undef⟩)++M) w.heap w.heap (mxL args) :=
  ⟨fun id r l _ hl=>by simp[Ai_,At_]at hl,fun b o _ _ ho=>ho,fun b o hb _ _=>by simpa[Ab_]using hb⟩
 have S:St [] (fun _=>⟨[],Go.undef⟩) M w.heap:=⟨by simp,by simp[Ab_],by simp[Ab_],by simpa[Ab_]using hM,by simp⟩;have:=Ke_ (P:=P) (R:=fun v w'=>Upd [] w w'∧rd cur M w'.heap d v) (cL0 1) hf hb hen hnt S (by simp) (AG_ W args _ (Nat.le_refl _) hr) (h (FV_ _ _ hr)) ?_
 ·exact this.2
 ·intro s loc' w' d0 v hK hS hu _ _ hd0;refine⟨by simpa[Ab_]using hu,?_⟩;obtain⟨s1,loc1,hm1,h1⟩:=fin ⟨[],loc',M,0,w,0,none,by decide,w.heap.size,Nat.le_refl _⟩ s d0 loc' w' v hK hS hd0;exact BR_ (n:=0) ⟨fun id r l hr=>by omega,fun b o _ _ ho=>ho,fun b o hb _ _ hm'=>hb (hm1 b hm')⟩ d v (by omega) h1
theorem SS_ {P:Program} {f:FuncId} {fn:Func} {c:Code} {args:List DVal} {d:DVal} (hf:P.funcs[f]? =some fn) (hb:fn.body=some c) (hen:Ci_ P f) (hnt:args.length≤fn.ntmps)
  (hd:mx d=0) (h:wfL args→∀B:Base,B.nt=fn.ntmps∧B.ro=none→DW P B c (DretW P fn d) ⟨argS args 0,[]⟩):Ac_ P f args d :=
 ST_ hf hb hen hnt hd (fun B s d0 loc w v hK _ hd0=>⟨s,loc,fun b hb=>aP0 _ hb,hK _ _ _ _ hd0⟩) h
theorem Dh_ (e:Ent) (l:List Ent) (loc:Nat→Loc):Ab_ (e::l) loc=(loc e.id).blks++Ab_ l loc:=by simp[Ab_]
theorem Fo_ {loc:Nat→Loc}:∀{own:List Ent},(Ab_ own loc).Nodup→∀e1∈own,∀e2∈own,∀b,b∈(loc e1.id).blks→b∈(loc e2.id).blks→e1=e2
 | [],_,e1,h1,_,_,_,_,_=>by cases h1
 | e::l,hn,e1,h1,e2,h2,b,hb1,hb2=>by
  rw[Dh_,cA0]at hn;obtain⟨_,hn2,hn3⟩:=hn
  rcases aK0.1 h1 with rfl | h1'
  ·rcases aK0.1 h2 with rfl | h2'
   ·rfl
   ·exact absurd rfl (hn3 b hb1 b (AO_ h2' hb2))
  ·rcases aK0.1 h2 with rfl | h2'
   ·exact absurd rfl (hn3 b hb2 b (AO_ h1' hb1))
   ·exact Fo_ hn2 e1 h1' e2 h2' b hb1 hb2
theorem Cz_ {loc:Nat→Loc}:∀{own:List Ent},(Ab_ own loc).Nodup→∀e∈own,((loc e.id).blks).Nodup
 | [],_,e,h=>by cases h
 | a::l,hn,e,h=>by
  rw[Dh_,cA0]at hn
  rcases aK0.1 h with rfl | h'
  ·exact hn.1
  ·exact Cz_ hn.2.1 e h'
theorem CI_ {own:List Ent} {loc:Nat→Loc} (hn:(Ab_ own loc).Nodup):∀l:List Ent,(l.map (·.id)).Nodup→(∀e∈l,e∈own)→(Ab_ l loc).Nodup
 | [],_,_=>by simp[Ab_]
 | e::l,hd,hm=>by
  simp only[List.map_cons,cQ0]at hd;rw[Dh_,cA0];refine⟨Cz_ hn e (hm e aF0),CI_ hn l hd.2 (fun x hx=>hm x (aD0 _ hx)),?_⟩;intro b hb b' hb' hbb;subst hbb;obtain⟨e2,he2,hb2⟩:=bR0.1 hb';have:=Fo_ hn e (hm e aF0) e2 (hm e2 (aD0 _ he2)) b hb hb2;subst this;exact hd.1 (cW0 (f:=(·.id)) he2)
def upE (own:List Ent) (id r:Nat) (obj:DObj):List Ent:=⟨id,r,obj⟩::delE own id
def upL (loc:Nat→Loc) (id:Nat) (L:Loc):Nat→Loc:=fun j=>if j=id then L else loc j
theorem Bl_ {own:List Ent} {id:Nat} {e:Ent}:e∈delE own id↔e∈own∧e.id≠id:=by
 induction own with
 | nil=>simp[delE]
 | cons a t ih =>
  simp only[delE]
  split
  ·rename_i h;rw[ih,aK0]
   constructor
   ·rintro⟨h1,h2⟩;exact⟨.inr h1,h2⟩
   ·rintro⟨rfl | h1,h2⟩
    ·exact absurd h h2
    ·exact⟨h1,h2⟩
  ·rename_i h;rw[aK0,ih,aK0]
   constructor
   ·rintro (rfl | ⟨h1,h2⟩)
    ·exact⟨.inl rfl,h⟩
    ·exact⟨.inr h1,h2⟩
   ·rintro⟨rfl | h1,h2⟩
    ·exact .inl rfl
    ·exact .inr ⟨h1,h2⟩
theorem CV_ {own:List Ent} {id:Nat} (h:(own.map (·.id)).Nodup):((delE own id).map (·.id)).Nodup:=by
 induction own with
 | nil=>simp[delE]
 | cons a t ih =>
  simp only[List.map_cons,cQ0]at h;simp only[delE]
  split
  ·exact ih h.2
  ·simp only[List.map_cons,cQ0];refine⟨fun hm=> ?_,ih h.2⟩;obtain⟨e,he,h1⟩:=aV0.1 hm;exact h.1 (aV0.2 ⟨e,(Bl_.1 he).1,h1⟩)
theorem VV_ {α β:Type} {f g:α→List β}:∀{l:List α},(∀x∈l,f x=g x)→l.flatMap f=l.flatMap g
 | [],_=>rfl
 | a::l,h=>by
  rw[cM0,cM0,h a aF0,VV_ (fun x hx=>h x (aD0 _ hx))]
theorem PC_ {own:List Ent} {loc:Nat→Loc} {id:Nat} {L:Loc}:Ab_ (delE own id) (upL loc id L)=Ab_ (delE own id) loc:=by
 unfold Ab_;refine VV_ fun e he=> ?_
 have:=(Bl_.1 he).2;simp[upL,this]
theorem PB_ {own:List Ent} {loc:Nat→Loc} {id:Nat} {b:Nat} (h:b∈Ab_ (delE own id) loc):∃e∈own,e.id≠id∧b∈(loc e.id).blks:=by
 obtain⟨e,he,h1⟩:=bR0.1 h;have:=Bl_.1 he;exact⟨e,this.1,this.2,h1⟩
theorem St.up {own:List Ent} {loc:Nat→Loc} {M0:List Nat} {w w':World} {id r:Nat} {obj:DObj} {L:Loc} {n:Nat}
  (S:St own loc M0 w.heap) (hsz:w.heap.size≤w'.heap.size) (hLn:L.blks.Nodup)
  (hold:∀b,b<w.heap.size→(∀e∈own,e.id=id→b∉(loc id).blks)→w'.heap[b]? =w.heap[b]?)
  (hL:∀b,b∈L.blks→b<w'.heap.size∧((∃e∈own,e.id=id∧b∈(loc id).blks)∨w.heap.size≤b))
  (hr:n≤r∨Ai_ own loc id r=some L) (hn:mxE own≤n)
  (hobj:MO_ (Ai_ (upE own id r obj) (upL loc id L)) (Ab_ (upE own id r obj) (upL loc id L)++M0) w'.heap L obj) :
  St (upE own id r obj) (upL loc id L) M0 w'.heap∧(∀b∈Ab_ (upE own id r obj) (upL loc id L),b∈Ab_ own loc∨w.heap.size≤b) ∧
   (∀e∈upE own id r obj,e.r<n→Ai_ own loc e.id e.r=some (upL loc id L e.id))∧(∀b,b<w.heap.size→b∉Ab_ own loc→w'.heap[b]? =w.heap[b]?):=by
 have hnew:∀b∈Ab_ (upE own id r obj) (upL loc id L),b∈Ab_ own loc∨w.heap.size≤b:=by
  intro b hb;obtain⟨e,he,h1⟩:=bR0.1 hb
  rcases aK0.1 he with rfl | he
  ·simp only[upL,if_true]at h1
   rcases (hL b h1).2 with ⟨e,he,hid,h2⟩ | h2
   ·exact .inl (AO_ he (by rw[hid];exact h2))
   ·exact .inr h2
  ·have:=Bl_.1 he;simp only[upL,if_neg this.2]at h1;exact .inl (AO_ this.1 h1)
 have hver:∀e∈upE own id r obj,e.r<n→Ai_ own loc e.id e.r=some (upL loc id L e.id):=by
  intro e he hlt
  rcases aK0.1 he with rfl | he
  ·simp only[upL,if_true]
   rcases hr with h | h
   ·simp only at hlt;omega
   ·exact h
  ·have:=Bl_.1 he;simp only[upL,if_neg this.2];exact AA_ S.nd this.1
 have hblk:∀b,b<w.heap.size→b∉Ab_ own loc→w'.heap[b]? =w.heap[b]? :=fun b hb hnb=>hold b hb (fun e he hid h=>hnb (AO_ he (by rw[hid];exact h)))
 refine⟨⟨?_,?_,?_,?_,?_⟩,hnew,hver,hblk⟩
 ·simp only[upE,List.map_cons,cQ0];refine⟨fun hm=> ?_,CV_ S.nd⟩;obtain⟨e,he,h1⟩:=aV0.1 hm;exact(Bl_.1 he).2 h1
 ·unfold upE;rw[Dh_,PC_,cA0];simp only[upL,if_true];refine⟨hLn,CI_ S.bl _ (CV_ S.nd) (fun e he=>(Bl_.1 he).1),?_⟩;intro b hb b' hb' hbb;subst hbb;obtain⟨e,he,hne,h1⟩:=PB_ hb'
  rcases (hL b hb).2 with ⟨e2,he2,hid,h2⟩ | h2
  ·have:=Fo_ S.bl e he e2 he2 b h1 (by rw[hid];exact h2);subst this;exact hne hid
  ·have:=S.lt b (aM0 _ (AO_ he h1));omega
 ·intro b hb hm
  rcases hnew b hb with h | h
  ·exact S.ap b h hm
  ·have:=S.lt b (aP0 _ hm);omega
 ·intro b hb
  rcases aI0.1 hb with h | h
  ·obtain⟨e,he,h1⟩:=bR0.1 h
   rcases aK0.1 he with rfl | he
   ·simp only[upL,if_true]at h1;exact(hL b h1).1
   ·have:=Bl_.1 he;simp only[upL,if_neg this.2]at h1;exact cG0 (S.lt b (aM0 _ (AO_ this.1 h1))) hsz
  ·exact cG0 (S.lt b (aP0 _ h)) hsz
 ·intro e he
  rcases aK0.1 he with rfl | he
  ·simpa[upL]using hobj
  ·have hmem:=Bl_.1 he;simp only[upL,if_neg hmem.2];have hU:Upd (Ab_ own loc) w ⟨w'.heap,w.tape,w.drawn,w.os,w.output⟩:=⟨rfl,rfl,rfl,fun _=>Nat.le_refl _,hsz,hblk⟩
   have W:Weak (Ai_ own loc) (Ai_ (upE own id r obj) (upL loc id L)) (Ab_ own loc++M0) (Ab_ (upE own id r obj) (upL loc id L)++M0) w.heap w'.heap n :=
    DP_ (w':=⟨w'.heap,w.tape,w.drawn,w.os,w.output⟩) hU hnew hver
   have hmx:=(AW_ hmem.1).2
   have keep:∀b o,b∈(loc e.id).blks→w.heap[b]? =some o→w'.heap[b]? =some o:=by
    intro b o hb ho;rw[hold b (aG0.1 ho).1 (fun e2 he2 hid h2=> ?_)]
    ·exact ho
    ·have:=Fo_ S.bl e hmem.1 e2 he2 b hb (by rw[hid];exact h2);subst this;exact hmem.2 hid
   exact AN_ W (by omega) keep (S.ok e hmem.1)
section
variable {P : Program} {B : Base} {s : DS} {a : Act} {w : World} {loc : Nat → Loc}
def lim (B:Base) (s:DS):Nat:=max B.N (max (mxS s.slots) (mxE s.own))
theorem Rel.up {w':World} {id r:Nat} {obj:DObj} {L:Loc} {v:Value} {d:DVal} {dst:Option Nat} {n:Nat}
  (R:Rel B s a w loc) (hlim:lim B s≤n) (hdst:∀i,dst=some i→i<B.nt) (hw:Upd (Ab_ s.own loc) w w')
  (hold:∀b,b<w.heap.size→(∀e∈s.own,e.id=id→b∉(loc id).blks)→w'.heap[b]? =w.heap[b]?)
  (hL:∀b,b∈L.blks→b<w'.heap.size∧((∃e∈s.own,e.id=id∧b∈(loc id).blks)∨w.heap.size≤b))
  (hr:n≤r∨Ai_ s.own loc id r=some L)
  (hobj:MO_ (Ai_ (upE s.own id r obj) (upL loc id L)) (Ab_ (upE s.own id r obj) (upL loc id L)++B.M0) w'.heap L obj)
  (hd:rd (Ai_ (upE s.own id r obj) (upL loc id L)) (Ab_ (upE s.own id r obj) (upL loc id L)++B.M0) w'.heap d v) (hLn:L.blks.Nodup:=by simp) :
  Rel B ⟨putS s.slots dst d,upE s.own id r obj⟩ (a.put dst v) w' (upL loc id L):=by
 unfold lim at hlim;obtain⟨h1,h2,h3,_⟩:=R.st.up hw.size hLn hold hL hr (by omega) hobj;exact R.step (n:=n) (by omega) (by omega) hdst h1 hw h2 h3 hd
theorem Rel.weakUp {w':World} {id r:Nat} {obj:DObj} {L:Loc} {n:Nat} (R:Rel B s a w loc) (hlim:lim B s≤n) (hw:Upd (Ab_ s.own loc) w w')
  (hL:∀b,b∈L.blks→b<w'.heap.size∧((∃e∈s.own,e.id=id∧b∈(loc id).blks)∨w.heap.size≤b))
  (hr:n≤r∨Ai_ s.own loc id r=some L):Weak (cu s loc) (Ai_ (upE s.own id r obj) (upL loc id L)) (hm s loc B.M0) (Ab_ (upE s.own id r obj) (upL loc id L)++B.M0) w.heap w'.heap n:=by
 refine DP_ hw ?_ ?_
 ·intro b hb;obtain⟨e,he,h1⟩:=bR0.1 hb
  rcases aK0.1 he with rfl | he
  ·simp only[upL,if_true]at h1
   rcases (hL b h1).2 with ⟨e,he,hid,h2⟩ | h2
   ·exact .inl (AO_ he (by rw[hid];exact h2))
   ·exact .inr h2
  ·have:=Bl_.1 he;simp only[upL,if_neg this.2]at h1;exact .inl (AO_ this.1 h1)
 ·intro e he hlt
  rcases aK0.1 he with rfl | he
  ·simp only[upL,if_true]
   rcases hr with h | h
   ·simp only at hlt;omega
   ·exact h
  ·have:=Bl_.1 he;simp only[upL,if_neg this.2];exact AA_ R.st.nd this.1
theorem CL_ (id r:Nat) (obj:DObj) (own:List Ent) (loc:Nat→Loc) (L:Loc):Ai_ (upE own id r obj) (upL loc id L) id r=some L:=by
 simp[Ai_,upE,At_,upL]
theorem FW_ {cur:Cur} {M:List Nat} {H:Array Obj}:∀(cs:List DVal) (us pre post:List Value),rdV cur M H cs us→(∀u∈us,u.oneCell'=true)→rdC cur M H cs (pre++us++post).toArray pre.length
 | [],_,_,_,_,_=>by simp[rdC]
 | d::ds,us,pre,post,hr,ho=>by
  simp only[rdV]at hr;obtain⟨v,r,rfl,h1,h2⟩:=hr;simp only[rdC];refine⟨⟨v,by simp,ho v aF0,h1⟩,?_⟩;have:=FW_ ds r (pre++[v]) post h2 (fun u hu=>ho u (aD0 _ hu));simpa using this
theorem Upd.alloc' (H:List Nat) (w:World) (o:Obj):Upd H w (w.alloc o):=Upd.alloc H w o
theorem Rel.newBox {id n:Nat} {cs:List DVal} {us:List Value} {ty:TypeId} {dst:Option Nat} (R:Rel B s a w loc) (hlim:lim B s≤n) (hmx:mxL cs≤n) (hdst:∀i,dst=some i→i<B.nt)
  (hus:rdV (cu s loc) (hm s loc B.M0) w.heap cs us) (hone:∀u∈us,u.oneCell'=true) :
  Rel B ⟨putS s.slots dst (.bx id n 0),upE s.own id n (.box cs)⟩ (a.put dst (.pointer (some ⟨w.heap.size,0,none⟩))) (w.alloc (.cells us.toArray ty)) (upL loc id ⟨[w.heap.size],Go.undef⟩):=by
 have hw:=Upd.alloc' (Ab_ s.own loc) w (.cells us.toArray ty)
 have hL:∀b,b∈(⟨[w.heap.size],Go.undef⟩:Loc).blks→b<(w.alloc (.cells us.toArray ty)).heap.size∧((∃e∈s.own,e.id=id∧b∈(loc id).blks)∨w.heap.size≤b):=by
  intro b hb;simp only[aE0]at hb;subst hb;exact⟨by simp,.inr (Nat.le_refl _)⟩
 have W:=R.weakUp (obj:= .box cs) hlim hw hL (.inl (Nat.le_refl _));refine R.up hlim hdst hw (fun b hb _=>by simp only[World.alloc,bV0];rw[if_neg (by omega)]) hL (.inl (Nat.le_refl _)) ?_ ?_
 ·refine⟨w.heap.size,us.toArray,ty,rfl,heap_alloc_new w _,by have:=Au_ _ _ hus;simpa using this,?_⟩;have:=FW_ cs us [] [] (AG_ W cs us hmx hus) hone;simpa using this
 ·simp only[rd];intro l hl;rw[CL_]at hl;simp only[aA0]at hl;subst hl;exact⟨_,rfl,rfl⟩
theorem JK_ {b off:Nat} {arr:Array Value} {ty t:TypeId} {v:Value} (hh:w.heap[b]? =some (.cells arr ty (0,0))) (hc:tCells P t=some v.cells.size) (hfit:off+v.cells.size≤arr.size) (hone:∀u∈v.cells.toList,u.oneCell'=true) :
  (Instr.storeAt t (.pointer (some ⟨b,off,none⟩)) v).run P w= .ok () (w.setRow b (arr.toList.take off++v.cells.toList++arr.toList.drop (off+v.cells.size)).toArray):=by
 have hst:=run_storeCells_at P b off ty v.cells.toList 0 arr w hh (by simpa using hfit) hone;simp only[cV0,bP0]at hst;simp[Instr.storeAt,Instr.sureAddr,storeVar,BW_ hc,hst]
theorem Upd.setRow {own:List Ent} {loc:Nat→Loc} {e:Ent} {b:Nat} (he:e∈own) (hb:b∈(loc e.id).blks) (w:World) (cs:Array Value):Upd (Ab_ own loc) w (w.setRow b cs) :=
 ⟨rfl,rfl,rfl,fun _=>Nat.le_refl _,by simp,fun b' _ hn=>setRow_other w b b' cs (fun h=>hn (by rw[h];exact AO_ he hb))⟩
theorem Cf_ {cur:Cur} {M:List Nat} {H:Array Obj}:∀(cs:List DVal) (arr arr':Array Value) (o o':Nat),(∀j,j<cs.length→arr'[o'+j]? =arr[o+j]?)→rdC cur M H cs arr o→rdC cur M H cs arr' o'
 | [],_,_,_,_,_,_=>by simp[rdC]
 | d::cs,arr,arr',o,o',h,hr=>by
  simp only[rdC]at hr ⊢;obtain⟨⟨v,h1,h2,h3⟩,h4⟩:=hr;refine⟨⟨v,by have:=h 0 (by simp);simp only[cV0]at this;rw[this];exact h1,h2,h3⟩,Cf_ cs arr arr' (o+1) (o'+1) (fun j hj=> ?_) h4⟩;have:=h (j+1) (by simp;omega)
  rwa[show o'+(j+1)=o'+1+j by omega,show o+(j+1)=o+1+j by omega]at this
theorem LC_ {cur:Cur} {M:List Nat} {H:Array Obj}:∀(a b:List DVal) (arr:Array Value) (o:Nat),rdC cur M H a arr o→rdC cur M H b arr (o+a.length)→rdC cur M H (a++b) arr o
 | [],b,arr,o,_,h=>by simpa using h
 | d::a,b,arr,o,h1,h2=>by
  simp only[rdC,List.cons_append]at h1 ⊢;refine⟨h1.1,LC_ a b arr (o+1) h1.2 ?_⟩;simpa[cS0,Nat.add_comm 1]using h2
theorem GH_ : ∀(a b:List DVal),mxL (a++b)=max (mxL a) (mxL b)
 | [],b=>by simp[mxL]
 | d::a,b=>by simp only[List.cons_append,mxL,GH_ a b];omega
theorem KB_ : ∀(n:Nat) (a:List DVal),mxL (a.take n)≤mxL a
 | 0,a=>by simp[mxL]
 | n+1,[]=>by simp[mxL]
 | n+1,d::a=>by simp only[dF0,mxL];have:=KB_ n a;omega
theorem Ff_ : ∀(n:Nat) (a:List DVal),mxL (a.drop n)≤mxL a
 | 0,a=>by simp
 | n+1,[]=>by simp
 | n+1,d::a=>by simp only[dW0,mxL];have:=Ff_ n a;omega
theorem Io_ (cells:List DVal) (off:Nat) (cs:List DVal):mxL (Dm_ cells off cs)≤max (mxL cells) (mxL cs):=by
 unfold Dm_;rw[GH_,GH_];have:=KB_ off cells;have:=Ff_ (off+cs.length) cells;omega
theorem Si_ (l:List (Nat×DVal)) (x:Operand):mx (ev l x)≤mxS l:=by
 cases x with
 | tmp t=>exact Pb_ l t
 | const v =>
  have h1:∀v,mx (ofV1 v)=0:=by
   intro v;unfold ofV1
   split<;>(try split)<;>simp[mx]
  simp only[ev,ofV]
  split
  ·rename_i cs;simp only[mx]
   have:∀l:List Value,mxL (l.map ofV1)=0:=by
    intro l
    induction l with
    | nil=>simp[mxL]
    | cons v l ih=>simp[mxL,h1,ih]
   rw[this];omega
  ·rw[h1];omega
 | global g=>simp[ev,mx]
 | func f=>simp[ev,mx,mxL]
theorem BY_ (d:DVal):mxL (AC_ d)=mx d:=by
 cases d<;>simp[AC_,mx,mxL]
theorem Pc_ {n:Nat}:∀{l:List (List DVal)},(∀d∈l,mxL d≤n)→mxR l≤n
 | [],_=>by simp[mxR]
 | x::l,h=>by
  simp only[mxR];have:=h x aF0;have:=Pc_ (l:=l) fun d hd=>h d (aD0 _ hd)
  omega
theorem AD_ {own:List Ent} {id:Nat} {e:Ent} (h:At_ own id=some e):e∈own∧e.id=id:=Ax_ h
theorem Rel.storeBox {id r off n:Nat} {cs:List DVal} {e:Ent} {d:DVal} {t:TypeId} {v:Value} {ad:Value} (R:Rel B s a w loc) (he:At_ s.own id=some e) (her:e.r=r) (hob:e.obj= .box cs)
  (ha:Rds s loc B.M0 w (.bx id r off) ad) (hd:Rds s loc B.M0 w d v) (hp:Ck_ s.own d=true) (hc:tCells P t=some (AC_ d).length) (hfit:off+(AC_ d).length≤cs.length) (hmx:mx d≤mxS s.slots) (hn:lim B s≤n) :
  ∃w',(Instr.storeAt t ad v).run P w= .ok () w'∧Rel B ⟨s.slots,upE s.own id r (.box (Dm_ cs off (AC_ d)))⟩ a w' (upL loc id (loc id)):=by
 obtain⟨hmem,hid⟩:=AD_ he;have hk:=R.st.ok e hmem;rw[hob]at hk;obtain⟨b,arr,ty,h1,h2,h3,h4⟩:=hk;rw[hid]at h1;have hcur:Ai_ s.own loc id r=some (loc id):=by unfold Ai_;rw[he];simp[her]
 simp only[Rds,rd]at ha;obtain⟨b',hb',rfl⟩:=ha _ hcur;have hb1:b∈(loc id).blks:=by rw[h1];simp
 rw[h1]at hb';simp only[bH0,and_true]at hb';subst hb';obtain⟨hcv,hone⟩:=GS_ R.st hp hd;have hlv:=Au_ _ _ hcv;simp only[bP0]at hlv;have hrun:=JK_ (P:=P) (w:=w) (b:=b) (off:=off) (t:=t) (v:=v) h2 (by rw[hc,hlv]) (by omega) hone;refine⟨_,hrun,?_⟩;have hw:Upd (Ab_ s.own loc) w (w.setRow b (arr.toList.take off++v.cells.toList++arr.toList.drop (off+v.cells.size)).toArray):=Upd.setRow hmem (by rw[hid];exact hb1) w _
 have hL:∀b0,b0∈(loc id).blks→b0<(w.setRow b (arr.toList.take off++v.cells.toList++arr.toList.drop (off+v.cells.size)).toArray).heap.size∧((∃e∈s.own,e.id=id∧b0∈(loc id).blks)∨w.heap.size≤b0):=by
  intro b0 hb0;refine⟨?_,.inl ⟨e,hmem,hid,hb0⟩⟩;rw[h1]at hb0;simp only[aE0]at hb0;subst hb0;have:=(aG0.1 h2).1;simpa using this
 have W:=R.weakUp (obj:= .box (Dm_ cs off (AC_ d))) hn hw hL (.inr hcur);have hmxo:=(AW_ hmem).2;rw[hob]at hmxo;simp only[mxO]at hmxo;unfold lim at hn;refine R.up (hLn:=by rw[h1];simp) (dst:=none) (v:=Go.undef) (d:= .any) (n:=n) (by unfold lim;exact hn) (fun i hi=>by simp at hi) hw ?_ hL (.inr hcur) ?_ (by simp[rd])
 ·intro b0 hb0 hne;refine setRow_other w b b0 _ (fun h=>hne e hmem hid ?_);rw[h];exact hb1
 ·refine⟨b,_,ty,h1,setRow_heap w b arr _ ty (0,0) h2,?_,?_⟩
  ·simp[Dm_,h3,←hlv]
  ·unfold Dm_;have l1:(arr.toList.take off).length=off:=by simp;omega
   refine LC_ _ _ _ _ (LC_ _ _ _ _ ?_ ?_) ?_
   ·refine Cf_ _ arr _ 0 0 (fun j hj=> ?_) (Kx_ off _ _ _ (Eh_ W cs arr 0 (by omega) h4));have hj':j<off:=by simp at hj;omega
    simp only[bT0,dK0,aU0];rw[bB0 (by omega),bY0 hj'];simp
   ·have hrd:=FW_ (AC_ d) v.cells.toList (arr.toList.take off) (arr.toList.drop (off+v.cells.size)) (AG_ W _ _ (by rw[BY_];omega) hcv) hone;have e1:0+(cs.take off).length=(arr.toList.take off).length:=by simp;omega
    rw[e1];exact hrd
   ·have hdr:=EW_ (off+(AC_ d).length) cs arr 0 (Eh_ W cs arr 0 (by omega) h4);have e1:0+(cs.take off++AC_ d).length=0+(off+(AC_ d).length):=by simp;omega
    rw[e1];refine Cf_ _ arr _ _ _ (fun j hj=> ?_) hdr;simp only[bT0,dK0];rw[bC0 (by simp;omega),cT0];have e2:off+(AC_ d).length+j-(arr.toList.take off++v.cells.toList).length=j:=by simp;omega
    rw[e2,hlv];simp
theorem Eg_ {cur:Cur} {M:List Nat} {H:Array Obj} (k:Nat):∀(es:List (List DVal)) (arr:Array Value) (o:Nat),rdR cur M H k es arr o →
  ∃rows:List (List Value),rows.length=es.length∧rows.flatten.length=es.length*k∧(∀(i:Nat) (cs:List DVal) (us:List Value),es[i]? =some cs→rows[i]? =some us→cs.length=k∧rdV cur M H cs us∧∀u∈us,u.oneCell'=true) ∧
   (∀j v,rows.flatten[j]? =some v→arr[o+j]? =some v∧v.oneCell'=true)
 | [],arr,o,_=>⟨[],rfl,by simp,by simp,by simp⟩
 | c::es,arr,o,hr=>by
  simp only[rdR]at hr;obtain⟨h1,h2,h3⟩:=hr;obtain⟨vs,g1,g2,g3⟩:=Ei_ c arr o h2;obtain⟨rows,k1,k2,k3,k4⟩:=Eg_ k es arr (o+k) h3;refine⟨vs::rows,by simp[k1],by simp only[eY0,aC0,k2,List.length_cons,bX0];omega,?_,?_⟩
  ·intro i cs us hi hu
   cases i with
   | zero =>
    simp only[bD0,aA0]at hi hu;subst hi;subst hu;refine⟨h1,g2,fun u hu=> ?_⟩;obtain⟨j,hj,rfl⟩:=bN0 hu;exact(g3 j _ (aH0 hj)).2
   | succ i=>exact k3 i cs us (by simpa using hi) (by simpa using hu)
  ·intro j v hj;simp only[eY0]at hj
   by_cases hlt:j<vs.length
   ·rw[bB0 hlt]at hj;exact g3 j v hj
   ·rw[bC0 (by omega)]at hj;have:=k4 _ v hj
    rwa[show o+k+(j-vs.length)=o+j by omega]at this
theorem Vc_ {cur:Cur} {M:List Nat} {H:Array Obj} (k:Nat) (es:List (List DVal)) (rows:List (List Value)) (post:List Value) (hl:rows.length=es.length)
  (h:∀(i:Nat) (cs:List DVal) (us:List Value),es[i]? =some cs→rows[i]? =some us→cs.length=k∧rdV cur M H cs us∧∀u∈us,u.oneCell'=true):rdR cur M H k es (rows.flatten++post).toArray 0:=by
 have key:∀(es:List (List DVal)) (rows:List (List Value)) (pre:List Value),rows.length=es.length →
   (∀(i:Nat) (cs:List DVal) (us:List Value),es[i]? =some cs→rows[i]? =some us→cs.length=k∧rdV cur M H cs us∧∀u∈us,u.oneCell'=true)→rdR cur M H k es (pre++rows.flatten++post).toArray pre.length:=by
  intro es
  induction es with
  | nil=>intros;simp[rdR]
  | cons c es ih =>
   intro rows pre hl h
   cases rows with
   | nil=>simp at hl
   | cons u rows =>
    have h0:=h 0 c u (by simp) (by simp);have hlen:=Au_ _ _ h0.2.1;simp only[rdR];refine⟨h0.1,?_,?_⟩
    ·have:=FW_ c u pre (rows.flatten++post) h0.2.1 h0.2.2;simpa using this
    ·have:=ih rows (pre++u) (by simpa using hl) (fun i cs us h1 h2=>h (i+1) cs us (by simpa using h1) (by simpa using h2));have e:(pre++u).length=pre.length+k:=by simp[hlen,h0.1]
     rw[e]at this;simpa using this
 simpa using key es rows [] hl h
theorem Ba_ : ∀(a b:List (List DVal)),mxR (a++b)=max (mxR a) (mxR b)
 | [],b=>by simp[mxR]
 | d::a,b=>by simp only[List.cons_append,mxR,Ba_ a b];omega
def Lv_ (own:List Ent) (d:DVal):Option (Nat×List (List DVal)) :=
 match d with
 | .nilsl=>some (0,[])
 | .esl=>some (0,[])
 | d=>(AU_ own d).map fun x=>(x.1,x.2.2)
theorem Fe_ : ∀(m:Nat) (l:List (List DVal)),mxR (l.drop m)≤mxR l
 | 0,l=>by simp
 | m+1,[]=>by simp
 | m+1,d::l=>by simp only[dW0,mxR];have:=Fe_ m l;omega
theorem Fd_ : ∀(m:Nat) (l:List (List DVal)),mxR (l.take m)≤mxR l
 | 0,l=>by simp[mxR]
 | m+1,[]=>by simp
 | m+1,d::l=>by simp only[dF0,mxR];have:=Fd_ m l;omega
theorem Lu_ {own:List Ent} {d:DVal} {k bs:Nat} {es:List (List DVal)} (h:AU_ own d=some (k,bs,es)):mxR es≤max (mx d) (mxE own):=by
 unfold AU_ at h
 split at h
 ·simp only[aA0,aW0]at h;obtain⟨_,_,rfl⟩:=h;simp only[mx];omega
 ·split at h
  ·rename_i e he
   split at h
   ·split at h
    ·rename_i hob;simp only[aA0,aW0]at h;obtain⟨_,_,rfl⟩:=h;have:=(AW_ (AD_ he).1).2;rw[hob]at this;simp only[mxO]at this;omega
    ·simp at h
   ·simp at h
  ·simp at h
 ·split at h
  ·rename_i e he
   split at h
   ·split at h
    ·rename_i hob
     split at h
     ·simp only[aA0,aW0]at h;obtain⟨_,_,rfl⟩:=h;have:=(AW_ (AD_ he).1).2;rw[hob]at this;simp only[mxO]at this;exact Nat.le_trans (Fd_ _ _) (Nat.le_trans (Fe_ _ _) (by omega))
     ·simp at h
    ·simp at h
   ·simp at h
  ·simp at h
 ·simp at h
theorem src_ok (S:St s.own loc B.M0 w.heap) {d:DVal} {v:Value} {k:Nat} {es:List (List DVal)} (hd:Rds s loc B.M0 w d v) (h:Lv_ s.own d=some (k,es)) :
  ∃(rows:List (List Value)),rows.length=es.length∧(∀(i:Nat) (cs:List DVal) (us:List Value),es[i]? =some cs→rows[i]? =some us→cs.length=k∧rdV (cu s loc) (hm s loc B.M0) w.heap cs us∧∀u∈us,u.oneCell'=true) ∧
   rows.flatten.length=es.length*k∧(∀u∈rows.flatten,u.oneCell'=true)∧es.length≤maxLen ∧
   ((es=[]∧∃x cap,v= .slice x 0 cap)∨∃ad cap,v= .slice (some ad) es.length cap∧∀j u,rows.flatten[j]? =some u→w.cell? (ad.add j)=some u):=by
 unfold Lv_ at h;have gen:∀bs,AU_ s.own d=some (k,bs,es)→_:=fun bs hr=>Iu_ (k:=k) (bs:=bs) (es:=es) S hd hr
 have fin:(AU_ s.own d).map (fun x=>(x.1,x.2.2))=some (k,es)→∃(rows:List (List Value)),rows.length=es.length∧(∀(i:Nat) (cs:List DVal) (us:List Value),es[i]? =some cs→rows[i]? =some us→cs.length=k∧rdV (cu s loc) (hm s loc B.M0) w.heap cs us∧∀u∈us,u.oneCell'=true) ∧
   rows.flatten.length=es.length*k∧(∀u∈rows.flatten,u.oneCell'=true)∧es.length≤maxLen ∧
   ((es=[]∧∃x cap,v= .slice x 0 cap)∨∃ad cap,v= .slice (some ad) es.length cap∧∀j u,rows.flatten[j]? =some u→w.cell? (ad.add j)=some u):=by
  intro hm';rw[bE0]at hm';obtain⟨⟨k',bs,es'⟩,hr,he⟩:=hm';simp only[aW0]at he;obtain⟨rfl,rfl⟩:=he;obtain⟨x,cap,rfl,h2,h3,h4,h5⟩:=Iu_ S hd hr
  rcases h5 with rfl | ⟨b,off,arr,ty,fz,rfl,g2,g3⟩
  ·exact⟨[],rfl,by simp,by simp,by simp,cL0 _,.inl ⟨rfl,_,_,rfl⟩⟩
  ·obtain⟨rows,r1,r2,r3,r4⟩:=Eg_ k' es' arr off g3;refine⟨rows,r1,r3,r2,?_,by omega,.inr ⟨_,cap,rfl,?_⟩⟩
   ·intro u hu;obtain⟨j,hj,rfl⟩:=bN0 hu;exact(r4 j _ (aH0 hj)).2
   ·intro j u hj;rw[Dd_];simp only[World.cell?,g2];exact(r4 j u hj).1
 split at h
 ·simp only[aA0,aW0]at h;obtain⟨rfl,rfl⟩:=h;simp only[Rds,rd]at hd;subst hd;exact⟨[],rfl,by simp,by simp,by simp,cL0 _,.inl ⟨rfl,_,_,rfl⟩⟩
 ·simp only[aA0,aW0]at h;obtain⟨rfl,rfl⟩:=h;simp only[Rds,rd]at hd;obtain⟨ad,cap,rfl,_⟩:=hd;exact⟨[],rfl,by simp,by simp,by simp,cL0 _,.inl ⟨rfl,_,_,rfl⟩⟩
 ·exact fin h
def tElemId (P:Program) (t:TypeId):Option TypeId:=match P.underlying t with | some (.slice e)=>some e | _=>none
def zeroOK (P:Program) (t:TypeId):Bool:=match P.underlying t with
 | some (.slice e)=>match P.info? e with
  | some i=>match i.zero with | some z=>z.cells.size==i.size | none=>false
  | none=>false
 | _=>false
theorem CF_ {t ty e:TypeId} {i:TypeInfo} (hu:P.underlying t=some (.slice e)) (hi:P.info? e=some i) {x y:Option Addr} {m cap cap2:Nat} (hm':m≤cap) :
  (Builtin.append_ #[t,t] ty #[.slice y m cap,.slice x 0 cap2]).run P w= .ok (.slice y m cap) w:=by
 cases x<;>cases y<;>simp[Builtin.append_,run_underlying hu,sizeOf,typeInfo,hi,Builtin.lenOf,Builtin.firstCells,hm',storeCells,loadCells,loadCellsFrom]
theorem FO_ {arr:Array Value} {rows:List (List Value)} {m:Nat} (hl:rows.flatten.length=m) (h:∀j v,rows.flatten[j]? =some v→arr[0+j]? =some v∧v.oneCell'=true) (hm':m≤arr.size):arr.toList.take m=rows.flatten:=by
 apply eZ0
 intro j
 by_cases hj:j<m
 ·rw[bY0 hj];have hj':j<rows.flatten.length:=by omega
  have:=(h j _ (aH0 hj')).1;rw[bT0]at this;rw[aH0 hj',←this];simp
 ·rw[dO0 (by simp;omega),dO0 (by omega)]
theorem KH_ {cur:Cur} {M:List Nat} {H:Array Obj} {k:Nat} {es es2:List (List DVal)} {rows rows2:List (List Value)} (l1:rows.length=es.length) (l2:rows2.length=es2.length)
  (h1:∀(i:Nat) (cs:List DVal) (us:List Value),es[i]? =some cs→rows[i]? =some us→cs.length=k∧rdV cur M H cs us∧∀u∈us,u.oneCell'=true)
  (h2:∀(i:Nat) (cs:List DVal) (us:List Value),es2[i]? =some cs→rows2[i]? =some us→cs.length=k∧rdV cur M H cs us∧∀u∈us,u.oneCell'=true) (post:List Value) :
  rdR cur M H k (es++es2) (rows.flatten++rows2.flatten++post).toArray 0:=by
 rw[←List.flatten_append];refine Vc_ k _ _ _ (by simp[l1,l2]) ?_;intro i cs us hc hu
 by_cases hi:i<es.length
 ·rw[bB0 hi]at hc;rw[bB0 (by omega)]at hu;exact h1 i cs us hc hu
 ·rw[bC0 (by omega)]at hc;rw[bC0 (by omega)]at hu;rw[l1]at hu;exact h2 _ cs us hc hu
theorem Dl_ {cur cur':Cur} {M M':List Nat} {H H':Array Obj} {n k:Nat} (W:Weak cur cur' M M' H H' n) {es:List (List DVal)} {rows:List (List Value)} (hm':mxR es≤n)
  (h:∀(i:Nat) (cs:List DVal) (us:List Value),es[i]? =some cs→rows[i]? =some us→cs.length=k∧rdV cur M H cs us∧∀u∈us,u.oneCell'=true) :
  ∀(i:Nat) (cs:List DVal) (us:List Value),es[i]? =some cs→rows[i]? =some us→cs.length=k∧rdV cur' M' H' cs us∧∀u∈us,u.oneCell'=true:=by
 intro i cs us hc hu;obtain⟨g1,g2,g3⟩:=h i cs us hc hu;refine⟨g1,AG_ W cs us ?_ g2,g3⟩
 have:∀(l:List (List DVal)) (i:Nat),l[i]? =some cs→mxL cs≤mxR l:=by
  intro l
  induction l with
  | nil=>intro i h;simp at h
  | cons c l ih =>
   intro i h
   cases i with
   | zero=>simp only[bD0,aA0]at h;subst h;simp only[mxR];omega
   | succ i=>have:=ih i (by simpa using h);simp only[mxR];omega
 have:=this es i hc;omega
def RowAt (s:DS) (loc:Nat→Loc) (w:World) (M0:List Nat) (id:Nat) (et k bs:Nat) (es:List (List DVal)) (dv:Value):Prop :=
 (es=[]∧dv= .slice none 0 0) ∨
 ∃e0∈s.own,e0.id=id∧∃b arr cap,(loc id).blks=[b]∧dv= .slice (some ⟨b,0,none⟩) es.length cap∧w.heap[b]? =some (.cells arr et (0,0))∧es.length≤cap∧cap≤maxLen∧cap*k=arr.size∧rdR (cu s loc) (hm s loc M0) w.heap k es arr 0
theorem rowAt_osl (S:St s.own loc B.M0 w.heap) {id r et k bs:Nat} {es:List (List DVal)} {e0:Ent} {dv:Value} (he:At_ s.own id=some e0) (her:e0.r=r) (hob:e0.obj= .row et k bs es) (hd:Rds s loc B.M0 w (.osl id r) dv):RowAt s loc w B.M0 id et k bs es dv:=by
 obtain⟨hmem,hid⟩:=AD_ he;have hk:=S.ok e0 hmem;rw[hob]at hk;obtain⟨_,hk⟩:=hk;simp only[Rds,rd]at hd;have hv:=hd (loc id) (by show Ai_ _ _ _ _=_;unfold Ai_;rw[he];simp[her]);rw[hid]at hk
 rcases hk with ⟨h1,h2,h3⟩ | ⟨b,arr,cap,h1,h2,h3,h4,h5,h6,h7⟩
 ·exact .inl ⟨h1,by rw[hv,h3]⟩
 ·exact .inr ⟨e0,hmem,hid,b,arr,cap,h1,by rw[hv,h2],h3,h4,h5,h6,h7⟩
theorem fitsL {need old bs:Nat} (h:old<need) (hb:need*bs≤150000000000000) (h2:bs≤65536):Builtin.nextslicecap need old*bs≤281474976710656:=by
 refine growslice_fits_wide h ?_
 have h3:need/4*bs*4≤need*bs:=by
  rw[Nat.mul_right_comm];exact aO0 _ (Nat.div_mul_le_self need 4)
 have h4:192*bs≤192*65536:=bU0 _ h2;rw[bX0,bX0];omega
theorem Rel.append {id n:Nat} {t ty e:TypeId} {k bs k2:Nat} {es es2:List (List DVal)} {sd:DVal} {dv sv:Value} {dst:Option Nat} (R:Rel B s a w loc) (hlim:lim B s≤n) (hdst:∀i,dst=some i→i<B.nt)
  (ht:tElem P t=some (k,bs)) (hte:tElemId P t=some e) (hz:zeroOK P t=true) (hk:0<k) (hrow:RowAt s loc w B.M0 id e k bs es dv) (hmx1:mxR es≤n)
  (hsv:Rds s loc B.M0 w sd sv) (hsrc:Lv_ s.own sd=some (k2,es2)) (hk2:k2=k∨es2=[]) (hmx2:mxR es2≤n) (hb:(es.length+es2.length)*bs≤150000000000000) (hbs:bs≤65536) (hl:es.length+es2.length≤maxLen) :
  ∃v' w' L,(Builtin.append_ #[t,t] ty #[dv,sv]).run P w= .ok v' w'∧Rel B ⟨putS s.slots dst (.osl id n),upE s.own id n (.row e k bs (es++es2))⟩ (a.put dst v') w' (upL loc id L):=by
 obtain⟨e',i,hu,hi,hsz,hby,_⟩:=Bk_ ht;have hee:e'=e:=by unfold tElemId at hte;rw[hu]at hte;simpa using hte
 subst hee
 obtain⟨z,hzr,hzs⟩:∃z,i.zero=some z∧z.cells.size=k:=by
  unfold zeroOK at hz;rw[hu]at hz;simp only[hi]at hz
  cases hq:i.zero with
  | none=>simp[hq]at hz
  | some z=>simp only[hq,beq_iff_eq]at hz;exact⟨z,rfl,by rw[hz,hsz]⟩
 obtain⟨rows2,q1,q2,q3,q4,q5,q6⟩:=src_ok (B:=B) R.st hsv hsrc;have hlenb:(es++es2).length*bs≤150000000000000:=by simpa using hb
 have mx12:mxR (es++es2)≤n:=by rw[Ba_];omega
 -- what the slot reads at the end
 have rdEnd:∀(L:Loc) (h:Array Obj) (obj:DObj),rd (Ai_ (upE s.own id n obj) (upL loc id L)) (Ab_ (upE s.own id n obj) (upL loc id L)++B.M0) h (.osl id n) L.hdr:=by
  intro L h obj;simp only[rd];intro l hl';rw[CL_]at hl';simp only[aA0]at hl';rw[hl']
 rcases q6 with ⟨rfl,x,cap2,rfl⟩ | ⟨ad,cap2,rfl,q6⟩
 ·-- nothing is appended
  rw[bM0]at *
  rcases hrow with ⟨rfl,rfl⟩ | ⟨e0,hmem,hid,b,arr,cap,h1',rfl,h3,h4,h5,h6,h7⟩
  ·refine⟨_,w,⟨[],.slice none 0 0⟩,CF_ hu hi (Nat.le_refl _),?_⟩;refine R.up (L:=⟨[],.slice none 0 0⟩) hlim hdst (Upd.refl _ _) (fun b hb _=>rfl) (fun b hb=>by simp at hb) (.inl (Nat.le_refl _)) ⟨by simp,.inl ⟨rfl,rfl,rfl⟩⟩ (rdEnd ⟨[],.slice none 0 0⟩ _ _)
  ·have h1:b∈(loc id).blks:=by rw[h1'];simp
   refine⟨_,w,⟨[b],.slice (some ⟨b,0,none⟩) es.length cap⟩,CF_ hu hi h4,?_⟩
   have hL:∀b0,b0∈(⟨[b],.slice (some ⟨b,0,none⟩) es.length cap⟩:Loc).blks→b0<w.heap.size∧((∃e∈s.own,e.id=id∧b0∈(loc id).blks)∨w.heap.size≤b0):=by
    intro b0 hb0;simp only[aE0]at hb0;subst hb0;exact⟨(aG0.1 h3).1,.inl ⟨e0,hmem,hid,h1⟩⟩
   have W:=R.weakUp (obj:= .row e' k bs es) (r:=n) hlim (Upd.refl _ _) hL (.inl (Nat.le_refl _));exact R.up (L:=⟨[b],.slice (some ⟨b,0,none⟩) es.length cap⟩) hlim hdst (Upd.refl _ _) (fun b hb _=>rfl) hL (.inl (Nat.le_refl _)) ⟨hlenb,.inr ⟨b,arr,cap,rfl,rfl,h3,h4,h5,h6,BT_ W k es arr 0 hmx1 h7⟩⟩ (rdEnd ⟨[b],.slice (some ⟨b,0,none⟩) es.length cap⟩ _ _)
 ·by_cases hm0:es2.length=0
  ·have:es2=[]:=bO0 hm0;subst this;rw[bM0]at *;simp only[List.length_nil]at *
   rcases hrow with ⟨rfl,rfl⟩ | ⟨e0,hmem,hid,b,arr,cap,h1',rfl,h3,h4,h5,h6,h7⟩
   ·refine⟨_,w,⟨[],.slice none 0 0⟩,CF_ hu hi (Nat.le_refl _),?_⟩;refine R.up (L:=⟨[],.slice none 0 0⟩) hlim hdst (Upd.refl _ _) (fun b hb _=>rfl) (fun b hb=>by simp at hb) (.inl (Nat.le_refl _)) ⟨by simp,.inl ⟨rfl,rfl,rfl⟩⟩ (rdEnd ⟨[],.slice none 0 0⟩ _ _)
   ·have h1:b∈(loc id).blks:=by rw[h1'];simp
    refine⟨_,w,⟨[b],.slice (some ⟨b,0,none⟩) es.length cap⟩,CF_ hu hi h4,?_⟩
    have hL:∀b0,b0∈(⟨[b],.slice (some ⟨b,0,none⟩) es.length cap⟩:Loc).blks→b0<w.heap.size∧((∃e∈s.own,e.id=id∧b0∈(loc id).blks)∨w.heap.size≤b0):=by
     intro b0 hb0;simp only[aE0]at hb0;subst hb0;exact⟨(aG0.1 h3).1,.inl ⟨e0,hmem,hid,h1⟩⟩
    have W:=R.weakUp (obj:= .row e' k bs es) (r:=n) hlim (Upd.refl _ _) hL (.inl (Nat.le_refl _));exact R.up (L:=⟨[b],.slice (some ⟨b,0,none⟩) es.length cap⟩) hlim hdst (Upd.refl _ _) (fun b hb _=>rfl) hL (.inl (Nat.le_refl _)) ⟨hlenb,.inr ⟨b,arr,cap,rfl,rfl,h3,h4,h5,h6,BT_ W k es arr 0 hmx1 h7⟩⟩ (rdEnd ⟨[b],.slice (some ⟨b,0,none⟩) es.length cap⟩ _ _)
  ·have hkk:k2=k:=by
    rcases hk2 with h | h
    ·exact h
    ·subst h;simp at hm0
   subst hkk;subst hsz
   subst hby;have hl':es.length+es2.length≤9223372036854775807:=by unfold maxLen at hl;omega
   -- a new row, whatever it held before
   have fresh:∀(rows:List (List Value)) (cap:Nat),es.length≤cap∨True→rows.length=es.length→rows.flatten.length=es.length*i.size →
     (∀(j:Nat) (cs:List DVal) (us:List Value),es[j]? =some cs→rows[j]? =some us→cs.length=i.size∧rdV (cu s loc) (hm s loc B.M0) w.heap cs us∧∀u∈us,u.oneCell'=true) →
     Rel B ⟨putS s.slots dst (.osl id n),upE s.own id n (.row e' i.size i.bytes (es++es2))⟩ (a.put dst (.slice (some ⟨w.heap.size,0,none⟩) (es.length+es2.length) (grownCap w (es.length+es2.length) cap e')))
      (w.drew.alloc (.cells (rows.flatten.toArray++rows2.flatten.toArray++Builtin.zeroCells z.cells (grownCap w (es.length+es2.length) cap e'-(es.length+es2.length))) e')) (upL loc id ⟨[w.heap.size],.slice (some ⟨w.heap.size,0,none⟩) (es.length+es2.length) (grownCap w (es.length+es2.length) cap e')⟩):=by
    intro rows cap _ r1 r2 r3
    have hw:Upd (Ab_ s.own loc) w (w.drew.alloc (.cells (rows.flatten.toArray++rows2.flatten.toArray++Builtin.zeroCells z.cells (grownCap w (es.length+es2.length) cap e'-(es.length+es2.length))) e')) :=
     (Upd.drew _ w).trans (Upd.alloc _ w.drew _) (fun x hx=> .inl hx)
    have hL:∀b0,b0∈(⟨[w.heap.size],.slice (some ⟨w.heap.size,0,none⟩) (es.length+es2.length) (grownCap w (es.length+es2.length) cap e')⟩:Loc).blks→b0<(w.drew.alloc (.cells (rows.flatten.toArray++rows2.flatten.toArray++Builtin.zeroCells z.cells (grownCap w (es.length+es2.length) cap e'-(es.length+es2.length))) e')).heap.size∧((∃e∈s.own,e.id=id∧b0∈(loc id).blks)∨w.heap.size≤b0):=by
     intro b0 hb0;simp only[aE0]at hb0;subst hb0;exact⟨by simp,.inr (Nat.le_refl _)⟩
    have W:=R.weakUp (obj:= .row e' i.size i.bytes (es++es2)) (r:=n) hlim hw hL (.inl (Nat.le_refl _));have hge:=grownCap_ge w (es.length+es2.length) cap e';have hcm:=grownCap_le_maxLen w (es.length+es2.length) cap e' hl;refine R.up hlim hdst hw (fun b hb _=>by simp only[World.alloc,bV0,World.drew];rw[if_neg (by omega)]) hL (.inl (Nat.le_refl _)) ⟨hlenb,.inr ⟨w.heap.size,_,_,rfl,by simp,heap_alloc_new w.drew _,by simpa using hge,hcm,?_,?_⟩⟩ (rdEnd ⟨[w.heap.size],.slice (some ⟨w.heap.size,0,none⟩) (es.length+es2.length) (grownCap w (es.length+es2.length) cap e')⟩ _ _)
    ·simp only[Array.size_append,dG0,size_zeroCells,hzs,r2,q3,←bX0]
     congr 1
     omega
    ·have:=KH_ (k:=i.size) r1 q1 (Dl_ W hmx1 r3) (Dl_ W hmx2 q2) (Builtin.zeroCells z.cells (grownCap w (es.length+es2.length) cap e'-(es.length+es2.length))).toList
     have e1:(rows.flatten++rows2.flatten++(Builtin.zeroCells z.cells (grownCap w (es.length+es2.length) cap e'-(es.length+es2.length))).toList).toArray=rows.flatten.toArray++rows2.flatten.toArray++Builtin.zeroCells z.cells (grownCap w (es.length+es2.length) cap e'-(es.length+es2.length)):=by
      apply Array.ext';simp
     rw[e1]at this;exact this
   rcases hrow with ⟨rfl,rfl⟩ | ⟨e0,hmem,hid,b,arr,cap,h1',rfl,h3,h4,h5,h6,h7⟩
   ·have hr:=run_append_nil (P:=P) w t ty e' i z hu hi hzr ad es2.length cap2 rows2.flatten q3 q6 (by omega) (by omega) (by simp only[List.length_nil,bT0]at hb;omega);have hf:=fresh [] 0 (.inr trivial) rfl (by simp) (by simp);simp only[List.length_nil,bT0,List.nil_append,List.flatten_nil,Array.empty_append]at hf hr ⊢;exact⟨_,_,_,hr,hf⟩
   ·have h1:b∈(loc id).blks:=by rw[h1'];simp
    obtain⟨rows,r1,r2,r3,r4⟩:=Eg_ i.size es arr 0 h7;have hfits:es.length*i.size≤arr.size:=by rw[←h6];exact aO0 _ h4
    by_cases hroom:es.length+es2.length≤cap
    ·have hfit:es.length*i.size+rows2.flatten.length≤arr.size:=by rw[q3,←h6,←bX0];exact aO0 _ hroom
     have hr:=run_append_room (P:=P) w t ty e' i hu hi b es.length cap arr h3 ad es2.length cap2 rows2.flatten q3 q6 q4 hroom hfit;refine⟨_,_,⟨[b],.slice (some ⟨b,0,none⟩) (es.length+es2.length) cap⟩,hr,?_⟩;have hw:Upd (Ab_ s.own loc) w (w.setRow b (arr.toList.take (es.length*i.size)++rows2.flatten++arr.toList.drop (es.length*i.size+rows2.flatten.length)).toArray):=Upd.setRow hmem (by rw[hid];exact h1) w _
     have hL:∀b0,b0∈(⟨[b],.slice (some ⟨b,0,none⟩) (es.length+es2.length) cap⟩:Loc).blks→b0<(w.setRow b (arr.toList.take (es.length*i.size)++rows2.flatten++arr.toList.drop (es.length*i.size+rows2.flatten.length)).toArray).heap.size∧((∃e∈s.own,e.id=id∧b0∈(loc id).blks)∨w.heap.size≤b0):=by
      intro b0 hb0;simp only[aE0]at hb0;subst hb0;refine⟨?_,.inl ⟨e0,hmem,hid,h1⟩⟩;have:=(aG0.1 h3).1;simpa using this
     have W:=R.weakUp (obj:= .row e' i.size i.bytes (es++es2)) (r:=n) hlim hw hL (.inl (Nat.le_refl _));refine R.up hlim hdst hw ?_ hL (.inl (Nat.le_refl _)) ⟨hlenb,.inr ⟨b,_,cap,rfl,by simp,setRow_heap w b arr _ e' (0,0) h3,by simpa using hroom,h5,?_,?_⟩⟩ (rdEnd ⟨[b],.slice (some ⟨b,0,none⟩) (es.length+es2.length) cap⟩ _ _)
     ·intro b0 hb0 hne;refine setRow_other w b b0 _ (fun h=>hne e0 hmem hid ?_);rw[h];exact h1
     ·simp only[dG0,aC0,aY0,bS0,bP0];omega
     ·have ht':=FO_ r2 r4 hfits;have hj:=KH_ r1 q1 (Dl_ W hmx1 r3) (Dl_ W hmx2 q2) (arr.toList.drop (es.length*i.size+rows2.flatten.length));rw[←ht']at hj;exact hj
    ·have hr:=run_append_grow (P:=P) w t ty e' i z hu hi hzr ⟨b,0,none⟩ es.length cap rows.flatten r2 (fun j v hj=>by rw[Dd_];simp only[World.cell?,h3];exact(r4 j v hj).1) ad es2.length cap2 rows2.flatten q3 q6 (by omega) (by omega) (fitsL (by omega) hb hbs);exact⟨_,_,_,hr,fresh rows cap (.inl h4) r1 r2 r3⟩
end
def flatV : Value→Bool
 | .bool _ | .int _ _ | .string _=>true
 | _=>false
theorem ba_eq {a b:ByteArray}:(a==b)=true↔a=b:=by
 rw[←KL_,beq_iff_eq]
 constructor
 ·intro h;cases a;cases b;simp at h;rw[h]
 ·rintro rfl;rfl
def updK (ks:List DVal) (k:DVal):List DVal:=match AQ_ ks k with
 | some _=>ks
 | none=>ks++[k]
def updV (ks vs:List DVal) (k x:DVal):List DVal:=match AQ_ ks k with
 | some j=>vs.set j x
 | none=>vs++[x]
theorem LO_ (a b:List DVal):mxL (a++b)=max (mxL a) (mxL b):=by
 induction a with
 | nil=>simp[mxL]
 | cons d a ih=>simp only[List.cons_append,mxL,ih];omega
theorem mxL_set (a:List DVal) (j:Nat) (d:DVal):mxL (a.set j d)≤max (mxL a) (mx d):=by
 induction a generalizing j with
 | nil=>simp[mxL]
 | cons x a ih =>
  cases j with
  | zero=>simp only[eK0,mxL];omega
  | succ j=>have:=ih j;simp only[List.set_cons_succ,mxL];omega
theorem Vy_ (ks:List DVal) (k:DVal):mxL (updK ks k)≤max (mxL ks) (mx k):=by
 unfold updK
 split
 ·omega
 ·rw[LO_];simp[mxL]
theorem Vx_ (ks vs:List DVal) (k x:DVal):mxL (updV ks vs k x)≤max (mxL vs) (mx x):=by
 unfold updV
 split
 ·exact mxL_set _ _ _
 ·rw[LO_];simp[mxL]
section
variable {cur : Cur} {M : List Nat} {h : Array Obj}
theorem rdV_set : ∀{ds:List DVal} {vs:List Value} {j:Nat} {d:DVal} {v:Value},rdV cur M h ds vs→rd cur M h d v→rdV cur M h (ds.set j d) (vs.set j v)
 | [],vs,j,d,v,h1,h2=>by simp only[rdV]at h1;subst h1;simp[rdV]
 | a::ds,vs,j,d,v,h1,h2=>by
  simp only[rdV]at h1;obtain⟨u,r,rfl,h3,h4⟩:=h1
  cases j with
  | zero=>simp only[eK0,rdV];exact⟨v,r,rfl,h2,h4⟩
  | succ j=>simp only[List.set_cons_succ,rdV];exact⟨u,_,rfl,h3,rdV_set h4 h2⟩
theorem Sk_ : ∀{cks:List CK} {xs ys:List DVal} {us vs:List Value},Bo_ cks xs=true→Bo_ cks ys=true→eqCs xs ys=true→rdV cur M h xs us→rdV cur M h ys vs→us=vs∧us.all flatV=true
 | [],[],[],us,vs,_,_,_,h1,h2=>by simp only[rdV]at h1 h2;subst h1;subst h2;simp
 | c::cks,x::xs,y::ys,us,vs,hx,hy,he,h1,h2=>by
  simp only[Bo_,aN0]at hx hy;simp only[eqCs,aN0]at he;simp only[rdV]at h1 h2;obtain⟨u,ur,rfl,h3,h4⟩:=h1;obtain⟨v,vr,rfl,h5,h6⟩:=h2;obtain⟨e1,e2⟩:=Sk_ hx.2 hy.2 he.2 h4 h6
  have:u=v∧flatV u=true:=by
   have hx1:=hx.1;have hy1:=hy.1;have he1:=he.1;cases c<;>cases x<;>simp only[ckOf]at hx1<;>first | (simp at hx1;done) | skip
   all_goals cases y<;>simp only[ckOf]at hy1<;>first | (simp at hy1;done) | skip
   ·simp only[rd]at h3 h5;simp only[eqC,beq_iff_eq]at he1;subst h3;subst h5;subst he1;exact⟨rfl,rfl⟩
   ·simp only[rd]at h3 h5;simp only[eqC,beq_iff_eq]at he1 hx1 hy1;obtain⟨rfl,_⟩:=h3;obtain⟨rfl,_⟩:=h5;subst hx1;subst hy1;subst he1;exact⟨rfl,rfl⟩
   ·simp only[rd]at h3 h5;simp only[eqC,ba_eq]at he1;obtain⟨rfl,_⟩:=h3;obtain⟨rfl,_⟩:=h5;subst he1;exact⟨rfl,rfl⟩
  obtain⟨rfl,hu⟩:=this;subst e1;exact⟨rfl,by simp only[dC0,aN0];exact⟨hu,e2⟩⟩
 | [],_::_,_,_,_,hx,_,_,_,_=>by simp[Bo_]at hx
 | [],[],_::_,_,_,_,hy,_,_,_=>by simp[Bo_]at hy
 | _::_,[],_,_,_,hx,_,_,_,_=>by simp[Bo_]at hx
 | _::_,_::_,[],_,_,_,hy,_,_,_=>by simp[Bo_]at hy
theorem Iq_ : ∀(n:Nat) (v:Value),flatV v=true→Instr.sameBits n v v=true:=by
 intro n v hv;cases v<;>simp[flatV]at hv<;>cases n<;>simp[Instr.sameBits,ba_eq]
theorem key_same {P:Program} {kt:TypeId} {x k:DVal} {u v:Value} (hx:CA_ P kt x=true) (hk:CA_ P kt k=true) (he:eqCs (By_ x) (By_ k)=true) (rx:rd cur M h x u) (rk:rd cur M h k v):v=u∧Instr.sameBits 10000 v u=true:=by
 unfold CA_ at hx hk
 split at hx
 ·rename_i cks b hf hb;simp only[hf,hb,aN0,beq_iff_eq]at hx hk;obtain⟨us,h1,rfl⟩:=EK_ hx.2 rx;obtain⟨vs,h2,rfl⟩:=EK_ hk.2 rk;obtain⟨rfl,h3⟩:=Sk_ hx.1 hk.1 he h1 h2;refine⟨rfl,?_⟩
  cases b with
  | false =>
   simp only[FG_]
   match us,h1,h2,hx,hk,h3 with
   | [],h1,h2,hx,hk,h3 =>
    have hl:=Au_ _ _ h1;have hb':=hx.2;cases x<;>simp[By_,RQ_]at hl hb'
   | u::r,h1,h2,hx,hk,h3 =>
    simp only[dC0,aN0]at h3;simp;exact Iq_ _ _ h3.1
  | true =>
   simp only[FG_,if_true];rw[show (10000:Nat)=9999+1 from rfl];simp only[Instr.sameBits,beq_self_eq_true,cE0,bA0];intro p hp
   have hz:∀(l:List Value),l.all flatV=true→∀p∈l.zip l,Instr.sameBits 9999 p.1 p.2=true:=by
    intro l
    induction l with
    | nil=>intro _ p hp;simp at hp
    | cons a l ih =>
     intro ha p hp;simp only[dC0,aN0]at ha;simp only[List.zip_cons_cons,aK0]at hp
     rcases hp with rfl | hp
     ·exact Iq_ _ _ ha.1
     ·exact ih ha.2 p hp
   exact hz us h3 p (by simpa using hp)
 ·simp at hx
theorem VH_ : ∀{ks:List DVal} {x:DVal} {j:Nat},AQ_ ks x=some j→∃k,ks[j]? =some k∧eqCs (By_ x) (By_ k)=true
 | k::ks,x,j,hh=>by
  simp only[AQ_]at hh
  split at hh
  ·rename_i he;simp only[aA0]at hh;subst hh;exact⟨k,rfl,he⟩
  ·rw[bE0]at hh;obtain⟨i,h1,rfl⟩:=hh;obtain⟨k',h2,h3⟩:=VH_ h1;exact⟨k',by simpa using h2,h3⟩
end
section
variable {P : Program} {B : Base} {s : DS} {a : Act} {w : World} {loc : Nat → Loc}
theorem Rel.newMap {id n:Nat} {dst:Option Nat} (R:Rel B s a w loc) (hlim:lim B s≤n) (hdst:∀i,dst=some i→i<B.nt) :
  Rel B ⟨putS s.slots dst (.omp id n),upE s.own id n (.map [] [])⟩ (a.put dst (.map (some w.heap.size))) (w.alloc (.map #[] 0)) (upL loc id ⟨[w.heap.size],Go.undef⟩):=by
 have hw:=Upd.alloc (Ab_ s.own loc) w (.map #[] 0)
 have hL:∀b,b∈(⟨[w.heap.size],Go.undef⟩:Loc).blks→b<(w.alloc (.map #[] 0)).heap.size∧((∃e∈s.own,e.id=id∧b∈(loc id).blks)∨w.heap.size≤b):=by
  intro b hb;simp only[aE0]at hb;subst hb;exact⟨by simp,.inr (Nat.le_refl _)⟩
 refine R.up hlim hdst hw (fun b hb _=>by simp only[World.alloc,bV0];rw[if_neg (by omega)]) hL (.inl (Nat.le_refl _)) ?_ ?_
 ·refine⟨w.heap.size, #[],0,rfl,heap_alloc_new w _,⟨by simp,by simp⟩,by simp[rdV],by simp[rdV]⟩
 ·simp only[rd];intro l hl;rw[CL_]at hl;simp only[aA0]at hl;subst hl;exact⟨_,rfl,rfl⟩
theorem Rel.updMap {id r n:Nat} {ks vs:List DVal} {e:Ent} {t kt et:TypeId} {k x:DVal} {mv kv xv:Value} (R:Rel B s a w loc) (he:At_ s.own id=some e) (her:e.r=r) (hob:e.obj= .map ks vs)
  (ha:Rds s loc B.M0 w (.omp id r) mv) (hk:Rds s loc B.M0 w k kv) (hx:Rds s loc B.M0 w x xv) (ht:tMap P t=some (kt,et)) (hko:CA_ P kt k=true) (hkall:ks.all (CA_ P kt)=true)
  (hmk:mx k≤mxS s.slots) (hmx:mx x≤mxS s.slots) (hn:lim B s≤n) :
  ∃w',(Instr.mapUpdate t mv kv xv).run P w= .ok () w'∧Rel B ⟨s.slots,upE s.own id r (.map (updK ks k) (updV ks vs k x))⟩ a w' (upL loc id (loc id)):=by
 obtain⟨hmem,hid⟩:=AD_ he;have hob':=R.st.ok e hmem;rw[hob]at hob';obtain⟨b,es,clk,h1,h2,h3,h4,h5⟩:=hob';rw[hid]at h1;have hcur:Ai_ s.own loc id r=some (loc id):=by unfold Ai_;rw[he];simp[her]
 simp only[Rds,rd]at ha;obtain⟨b',hb',rfl⟩:=ha _ hcur;have hb1:b∈(loc id).blks:=by rw[h1];simp
 rw[h1]at hb';simp only[bH0,and_true]at hb';subst hb';have hu:P.underlying t=some (.map kt et):=by unfold tMap at ht;split at ht<;>simp_all
 have hfind:=ET_ (w:=w) hko hk es.toList ks hkall h4;have hlen1:=Au_ _ _ h4;have hlen2:=Au_ _ _ h5;simp only[aJ0,bP0]at hlen1 hlen2;have hblt:=(aG0.1 h2).1;have hmxo:=(AW_ hmem).2;rw[hob]at hmxo;simp only[mxO]at hmxo
 -- the world behind it
 have main:∀(es':Array MapEntry) (clk':Nat),Oc_ es' clk'→rdV (cu s loc) (hm s loc B.M0) w.heap (updK ks k) (es'.toList.map (·.key))→rdV (cu s loc) (hm s loc B.M0) w.heap (updV ks vs k x) (es'.toList.map (·.val)) →
   Rel B ⟨s.slots,upE s.own id r (.map (updK ks k) (updV ks vs k x))⟩ a { w with heap:=w.heap.setIfInBounds b (.map es' clk') } (upL loc id (loc id)):=by
  intro es' clk' hb hk1 hv1
  have hw:Upd (Ab_ s.own loc) w { w with heap:=w.heap.setIfInBounds b (.map es' clk') }:=by
   refine⟨rfl,rfl,rfl,fun _=>Nat.le_refl _,by simp,fun b0 _ hn0=> ?_⟩;have hne:b≠b0:=fun h=>hn0 (h▸AO_ hmem (by rw[hid];exact hb1))
   simp[cU0,hne]
  have hL:∀b0,b0∈(loc id).blks→b0<({ w with heap:=w.heap.setIfInBounds b (.map es' clk') }:World).heap.size∧((∃e∈s.own,e.id=id∧b0∈(loc id).blks)∨w.heap.size≤b0):=by
   intro b0 hb0;refine⟨?_,.inl ⟨e,hmem,hid,hb0⟩⟩;rw[h1]at hb0;simp only[aE0]at hb0;subst hb0;simpa using hblt
  have W:=R.weakUp (obj:= .map (updK ks k) (updV ks vs k x)) hn hw hL (.inr hcur);unfold lim at hn;refine R.up (hLn:=by rw[h1];simp) (dst:=none) (v:=Go.undef) (d:= .any) (n:=n) (by unfold lim;exact hn) (fun i hi=>by simp at hi) hw ?_ hL (.inr hcur) ?_ (by simp[rd])
  ·intro b0 hb0 hne;have hne':b≠b0:=fun h=>hne e hmem hid (by rw[←h];exact hb1)
   simp[cU0,hne']
  ·refine⟨b,es',clk',h1,by simp[cU0,hblt],hb,AG_ W _ _ ?_ hk1,AG_ W _ _ ?_ hv1⟩
   ·have:=Vy_ ks k;omega
   ·have:=Vx_ ks vs k x;omega
 simp only[Instr.mapUpdate,Sem.run_bind,run_underlying hu,Result.andThen_ok,MapKept.run_getObj_map h2,DC_ hko hk,hfind]
 cases hq:AQ_ ks k with
 | none =>
  simp only[eS0];refine⟨_,MapKept.run_setObj_map _ h2,main _ _ ?_ ?_ ?_⟩
  ·obtain⟨g1,g2⟩:=h3;refine⟨?_,?_⟩
   ·simp only[Array.toList_push,aX0,List.map_cons,List.map_nil];rw[cA0];refine⟨g1,by simp,?_⟩;intro c hc c' hc' hcc;simp only[aE0]at hc';obtain⟨e',he',rfl⟩:=aV0.1 hc;have:=g2 e' he';omega
   ·intro e' he';simp only[Array.toList_push,aI0,aE0]at he'
    rcases he' with he' | rfl
    ·have:=g2 e' he';omega
    ·simp
  ·unfold updK;rw[hq];simp only[Array.toList_push,aX0,List.map_cons,List.map_nil];exact Bz_ _ _ _ _ h4 (by simp only[rdV];exact⟨kv,[],rfl,hk,rfl⟩)
  ·unfold updV;rw[hq];simp only[Array.toList_push,aX0,List.map_cons,List.map_nil];exact Bz_ _ _ _ _ h5 (by simp only[rdV];exact⟨xv,[],rfl,hx,rfl⟩)
 | some j =>
  simp only[dI0];obtain⟨k0,hk0,heq⟩:=VH_ hq;obtain⟨v0,hv0,hr0⟩:=Rh_ _ _ j k0 h4 hk0
  have hjlt:j<es.size:=by
   have:=(aB0.1 hk0).1;omega
  have hkey:(es[j]?).map (·.key)=some v0:=by
   rw[bI0]at hv0;simpa using hv0
  obtain⟨rfl,hsb⟩:=key_same hko (bA0.1 hkall k0 (bL0 hk0)) heq hk hr0;simp only[hkey,cC0,Instr.keyThatStays,hsb,if_true,Sem.run_pure,Result.andThen_ok];refine⟨_,MapKept.run_setObj_map _ h2,main _ _ ?_ ?_ ?_⟩
  ·obtain⟨g1,g2⟩:=h3
   have hborn:(es.modify j fun e=>{ e with key:=v0,val:=xv }).toList.map (·.born)=es.toList.map (·.born):=by
    apply eZ0
    intro i;simp only[bI0,eP0,cF0]
    split
    ·cases es[i]? <;>simp
    ·rfl
   refine⟨by rw[hborn];exact g1,?_⟩;intro e' he';have:e'.born∈(es.modify j fun e=>{ e with key:=v0,val:=xv }).toList.map (·.born):=cW0 (f:=(·.born)) he';rw[hborn]at this;obtain⟨e0,he0,hb0⟩:=aV0.1 this;rw[←hb0];exact g2 e0 he0
  ·unfold updK;rw[hq]
   have hkeys:(es.modify j fun e=>{ e with key:=v0,val:=xv }).toList.map (·.key)=es.toList.map (·.key):=by
    apply eZ0
    intro i;simp only[bI0,eP0,cF0]
    split
    ·rename_i hij;subst hij;rw[hkey];cases hes:es[j]? <;>simp_all
    ·rfl
   rw[hkeys];exact h4
  ·unfold updV;rw[hq]
   have hvals:(es.modify j fun e=>{ e with key:=v0,val:=xv }).toList.map (·.val)=(es.toList.map (·.val)).set j xv:=by
    apply eZ0
    intro i;simp only[bI0,eP0,cF0,List.getElem?_set,aJ0,bP0]
    split
    ·rename_i hij;subst hij;simp[hjlt]
    ·rfl
   rw[hvals];exact rdV_set h5 hx
def delK (ks:List DVal) (k:DVal):List DVal:=match AQ_ ks k with | some j=>ks.eraseIdx j | none=>ks
def delV (ks vs:List DVal) (k:DVal):List DVal:=match AQ_ ks k with | some j=>vs.eraseIdx j | none=>vs
theorem LN_ : ∀(l:List DVal) (j:Nat),mxL (l.eraseIdx j)≤mxL l
 | [],_=>by simp
 | d::l,0=>by simp only[List.eraseIdx_cons_zero,mxL];omega
 | d::l,j+1=>by have:=LN_ l j;simp only[List.eraseIdx_cons_succ,mxL];omega
theorem VC_ (ks:List DVal) (k:DVal):mxL (delK ks k)≤mxL ks:=by
 unfold delK;split
 ·exact LN_ _ _
 ·exact Nat.le_refl _
theorem VB_ (ks vs:List DVal) (k:DVal):mxL (delV ks vs k)≤mxL vs:=by
 unfold delV;split
 ·exact LN_ _ _
 ·exact Nat.le_refl _
theorem LB_ {cur:Cur} {M:List Nat} {h:Array Obj}:∀{ds:List DVal} {vs:List Value} (j:Nat),rdV cur M h ds vs→rdV cur M h (ds.eraseIdx j) (vs.eraseIdx j)
 | [],vs,j,hr=>by simp only[rdV]at hr;subst hr;simp[rdV]
 | d::ds,vs,0,hr=>by
  simp only[rdV]at hr;obtain⟨v,r,rfl,_,h2⟩:=hr;simpa using h2
 | d::ds,vs,j+1,hr=>by
  simp only[rdV]at hr;obtain⟨v,r,rfl,h1,h2⟩:=hr;simp only[List.eraseIdx_cons_succ,rdV];exact⟨v,_,rfl,h1,LB_ j h2⟩
theorem Gd_ {α β:Type} (f:α→β):∀(l:List α) (j:Nat),(l.eraseIdx j).map f=(l.map f).eraseIdx j
 | [],_=>by simp
 | _::l,0=>by simp
 | _::l,j+1=>by simp[Gd_ f l j]
theorem Rel.delMap {id r n:Nat} {ks vs:List DVal} {e:Ent} {t kt et t2 ty:TypeId} {k:DVal} {mv kv:Value} {dst:Option Nat} (R:Rel B s a w loc) (he:At_ s.own id=some e) (her:e.r=r) (hob:e.obj= .map ks vs)
  (ha:Rds s loc B.M0 w (.omp id r) mv) (hk:Rds s loc B.M0 w k kv) (ht:tMap P t=some (kt,et)) (hko:CA_ P kt k=true) (hkall:ks.all (CA_ P kt)=true)
  (hn:lim B s≤n) (hdst:∀i,dst=some i→i<B.nt) :
  ∃w',(Builtin.delete_ #[t,t2] ty #[mv,kv]).run P w= .ok (.tuple #[]) w'∧Rel B ⟨putS s.slots dst (.tup []),upE s.own id r (.map (delK ks k) (delV ks vs k))⟩ (a.put dst (.tuple #[])) w' (upL loc id (loc id)):=by
 obtain⟨hmem,hid⟩:=AD_ he;have hob':=R.st.ok e hmem;rw[hob]at hob';obtain⟨b,es,clk,h1,h2,h3,h4,h5⟩:=hob';rw[hid]at h1;have hcur:Ai_ s.own loc id r=some (loc id):=by unfold Ai_;rw[he];simp[her]
 simp only[Rds,rd]at ha;obtain⟨b',hb',rfl⟩:=ha _ hcur;have hb1:b∈(loc id).blks:=by rw[h1];simp
 rw[h1]at hb';simp only[bH0,and_true]at hb';subst hb';have hu:P.underlying t=some (.map kt et):=by unfold tMap at ht;split at ht<;>simp_all
 have hfind:=ET_ (w:=w) hko hk es.toList ks hkall h4;have hlen1:=Au_ _ _ h4;simp only[aJ0,bP0]at hlen1;have hblt:=(aG0.1 h2).1;have hmxo:=(AW_ hmem).2;rw[hob]at hmxo;simp only[mxO]at hmxo
 have main:∀(es':Array MapEntry) (clk':Nat),Oc_ es' clk'→rdV (cu s loc) (hm s loc B.M0) w.heap (delK ks k) (es'.toList.map (·.key))→rdV (cu s loc) (hm s loc B.M0) w.heap (delV ks vs k) (es'.toList.map (·.val)) →
   Rel B ⟨putS s.slots dst (.tup []),upE s.own id r (.map (delK ks k) (delV ks vs k))⟩ (a.put dst (.tuple #[])) { w with heap:=w.heap.setIfInBounds b (.map es' clk') } (upL loc id (loc id)):=by
  intro es' clk' hb hk1 hv1
  have hw:Upd (Ab_ s.own loc) w { w with heap:=w.heap.setIfInBounds b (.map es' clk') }:=by
   refine⟨rfl,rfl,rfl,fun _=>Nat.le_refl _,by simp,fun b0 _ hn0=> ?_⟩;have hne:b≠b0:=fun h=>hn0 (h▸AO_ hmem (by rw[hid];exact hb1))
   simp[cU0,hne]
  have hL:∀b0,b0∈(loc id).blks→b0<({ w with heap:=w.heap.setIfInBounds b (.map es' clk') }:World).heap.size∧((∃e∈s.own,e.id=id∧b0∈(loc id).blks)∨w.heap.size≤b0):=by
   intro b0 hb0;refine⟨?_,.inl ⟨e,hmem,hid,hb0⟩⟩;rw[h1]at hb0;simp only[aE0]at hb0;subst hb0;simpa using hblt
  have W:=R.weakUp (obj:= .map (delK ks k) (delV ks vs k)) hn hw hL (.inr hcur);unfold lim at hn;refine R.up (hLn:=by rw[h1];simp) (n:=n) (by unfold lim;exact hn) hdst hw ?_ hL (.inr hcur) ?_ (by simp only[rd];exact⟨#[],rfl,by simp[rdV]⟩)
  ·intro b0 hb0 hne;have hne':b≠b0:=fun h=>hne e hmem hid (by rw[←h];exact hb1)
   simp[cU0,hne']
  ·refine⟨b,es',clk',h1,by simp[cU0,hblt],hb,AG_ W _ _ ?_ hk1,AG_ W _ _ ?_ hv1⟩
   ·have:=VC_ ks k;omega
   ·have:=VB_ ks vs k;omega
 simp only[Builtin.delete_,dG0,Sem.run_bind,run_underlying hu,Result.andThen_ok,MapKept.run_getObj_map h2,DC_ hko hk,hfind,dK0,bD0,bJ0]
 cases hq:AQ_ ks k with
 | none =>
  simp only[eS0,Sem.run_bind,MapKept.run_setObj_map _ h2,Result.andThen_ok,Sem.run_pure];refine⟨_,rfl,main _ _ h3 ?_ ?_⟩
  ·unfold delK;rw[hq];exact h4
  ·unfold delV;rw[hq];exact h5
 | some j =>
  simp only[dI0,Sem.run_bind,MapKept.run_setObj_map _ h2,Result.andThen_ok,Sem.run_pure];have hto:(es.eraseIdxIfInBounds j).toList=es.toList.eraseIdx j:=by simp
  refine⟨_,rfl,main _ _ ⟨?_,?_⟩ ?_ ?_⟩
  ·rw[hto];exact h3.1.sublist ((List.eraseIdx_sublist _ _).map _)
  ·intro e' he';rw[hto]at he';exact h3.2 e' ((List.eraseIdx_sublist _ _).subset he')
  ·unfold delK;rw[hq,hto,Gd_];exact LB_ j h4
  ·unfold delV;rw[hq,hto,Gd_];exact LB_ j h5
end
theorem Zd_ {cur:Cur} {M:List Nat} {H:Array Obj} {cs ds:List DVal} {arr:Array Value} {vs:List Value} {o j:Nat} (hr:rdC cur M H cs arr o) (hv:rdV cur M H ds vs) (hone:∀u∈vs,u.oneCell'=true)
  (hfit:j+ds.length≤cs.length) (hsz:o+cs.length≤arr.size):rdC cur M H (Dm_ cs j ds) (arr.toList.take (o+j)++vs++arr.toList.drop (o+j+vs.length)).toArray o:=by
 have hlv:=Au_ _ _ hv;unfold Dm_;refine LC_ _ _ _ _ (LC_ _ _ _ _ ?_ ?_) ?_
 ·refine Cf_ _ arr _ o o (fun q hq=> ?_) (Kx_ j _ _ _ hr);have hq':q<j:=by simp at hq;omega
  simp only[dK0,aU0];rw[bB0 (by simp;omega),bY0 (by omega)];simp
 ·have h:=FW_ ds vs (arr.toList.take (o+j)) (arr.toList.drop (o+j+vs.length)) hv hone;have e1:o+(cs.take j).length=(arr.toList.take (o+j)).length:=by simp;omega
  rw[e1];exact h
 ·have hdr:=EW_ (j+ds.length) cs arr o hr;have e1:o+(cs.take j++ds).length=o+(j+ds.length):=by simp;omega
  rw[e1];refine Cf_ _ arr _ _ _ (fun q hq=> ?_) hdr;simp only[dK0];rw[bC0 (by simp;omega),cT0];have e2:o+j+vs.length+(o+(j+ds.length)+q-(arr.toList.take (o+j)++vs).length)=o+(j+ds.length)+q:=by simp;omega
  rw[e2];simp
theorem Tp_ {arr:Array Value} {vs:List Value} {off q:Nat} (hsz:off+vs.length≤arr.size) (hq:q<off∨off+vs.length≤q):(arr.toList.take off++vs++arr.toList.drop (off+vs.length)).toArray[q]? =arr[q]? :=by
 simp only[dK0]
 rcases hq with hq | hq
 ·rw[aU0,bB0 (by simp;omega),bY0 hq];simp
 ·rw[bC0 (by simp;omega),cT0];have e2:off+vs.length+(q-(arr.toList.take off++vs).length)=q:=by simp;omega
  rw[e2];simp
theorem Cw_ {i k n:Nat} (h:i<n):i*k+k≤n*k:=by
 have:=aO0 k (show i+1≤n from h)
 rwa[bX0,Nat.one_mul]at this
theorem rdR_set {cur:Cur} {M:List Nat} {H:Array Obj} {k i j:Nat} {es:List (List DVal)} {c0 ds:List DVal} {arr:Array Value} {vs:List Value} (hr:rdR cur M H k es arr 0) (hi:es[i]? =some c0) (hv:rdV cur M H ds vs) (hone:∀u∈vs,u.oneCell'=true)
  (hfit:j+ds.length≤k) (hsz:es.length*k≤arr.size):rdR cur M H k (es.set i (Dm_ c0 j ds)) (arr.toList.take (i*k+j)++vs++arr.toList.drop (i*k+j+vs.length)).toArray 0:=by
 have hlv:=Au_ _ _ hv;have hil:i<es.length:=(aB0.1 hi).1;have hrow:=Cw_ (k:=k) hil;obtain⟨hc0,hr0⟩:=DB_ k es arr 0 i c0 hr hi;refine FC_ _ _ _ _ fun q cs hq=> ?_
 rw[List.getElem?_set]at hq
 split at hq
 ·rename_i hiq;subst hiq
  (try simp only[hil,if_true]at hq);simp only[aA0]at hq
  subst hq;refine⟨by simp[Dm_];omega,?_⟩;simp only[bT0]at hr0 ⊢;exact Zd_ hr0 hv hone (by omega) (by omega)
 ·rename_i hiq;obtain⟨g1,g2⟩:=DB_ k es arr 0 q cs hr hq;have hql:q<es.length:=(aB0.1 hq).1;refine⟨g1,Cf_ cs arr _ _ _ (fun p hp=>Tp_ (by omega) ?_) g2⟩
  rcases Nat.lt_or_gt_of_ne hiq with h | h
  ·have:=Cw_ (k:=k) h;omega
  ·have:=Cw_ (k:=k) h;omega
theorem TG_ {n:Nat} {cs:List DVal}:∀(es:List (List DVal)) (i:Nat),mxR es≤n→mxL cs≤n→mxR (es.set i cs)≤n
 | [],_,_,_=>by simp[mxR]
 | e::es,0,h,hc=>by simp only[eK0,mxR]at h ⊢;omega
 | e::es,i+1,h,hc=>by
  simp only[List.set_cons_succ,mxR]at h ⊢;have:=TG_ es i (by omega) hc;omega
theorem mxR_at {es:List (List DVal)} {i:Nat} {c:List DVal} (h:es[i]? =some c):mxL c≤mxR es:=by
 induction es generalizing i with
 | nil=>simp at h
 | cons e es ih =>
  cases i with
  | zero=>simp only[bD0,aA0]at h;subst h;simp only[mxR];omega
  | succ i=>have:=ih (i:=i) (by simpa using h);simp only[mxR];omega
section
variable {P : Program} {B : Base} {s : DS} {a : Act} {w : World} {loc : Nat → Loc}
theorem Rel.writeRow {id r n et k bs cap b:Nat} {e:Ent} {es es':List (List DVal)} {arr arr':Array Value} (R:Rel B s a w loc) (he:At_ s.own id=some e) (her:e.r=r) (hob:e.obj= .row et k bs es)
  (h1:(loc id).blks=[b]) (h2:(loc id).hdr= .slice (some ⟨b,0,none⟩) es.length cap) (h3:w.heap[b]? =some (.cells arr et (0,0))) (h4:es.length≤cap) (h5:cap≤maxLen) (h6:cap*k=arr.size) (h7:es.length*bs≤150000000000000)
  (hlen:es'.length=es.length) (hsz:arr'.size=arr.size) (hrd:rdR (cu s loc) (hm s loc B.M0) w.heap k es' arr' 0) (hmx:mxR es'≤n) (hn:lim B s≤n)
  {dst:Option Nat} {d:DVal} {v:Value} (hdst:∀i,dst=some i→i<B.nt) (hdv:∀cur M h,rd cur M h d v) :
  Rel B ⟨putS s.slots dst d,upE s.own id r (.row et k bs es')⟩ (a.put dst v) (w.setRow b arr') (upL loc id (loc id)):=by
 obtain⟨hmem,hid⟩:=AD_ he;have hcur:Ai_ s.own loc id r=some (loc id):=by unfold Ai_;rw[he];simp[her]
 have hb1:b∈(loc id).blks:=by rw[h1];simp
 have hw:Upd (Ab_ s.own loc) w (w.setRow b arr'):=Upd.setRow hmem (by rw[hid];exact hb1) w _
 have hL:∀b0,b0∈(loc id).blks→b0<(w.setRow b arr').heap.size∧((∃e∈s.own,e.id=id∧b0∈(loc id).blks)∨w.heap.size≤b0):=by
  intro b0 hb0;refine⟨?_,.inl ⟨e,hmem,hid,hb0⟩⟩;rw[h1]at hb0;simp only[aE0]at hb0;subst hb0;have:=(aG0.1 h3).1;simpa using this
 have W:=R.weakUp (obj:= .row et k bs es') hn hw hL (.inr hcur);refine R.up (hLn:=by rw[h1];simp) (n:=n) hn hdst hw ?_ hL (.inr hcur) ?_ (hdv _ _ _)
 ·intro b0 hb0 hne;refine setRow_other w b b0 _ (fun h=>hne e hmem hid ?_);rw[h];exact hb1
 ·exact⟨by rw[hlen];exact h7,.inr ⟨b,arr',cap,h1,by rw[hlen];exact h2,setRow_heap w b arr _ et (0,0) h3,by omega,h5,by omega,BT_ W k es' arr' 0 hmx hrd⟩⟩
theorem Tq_ (S:St s.own loc B.M0 w.heap) {id et k bs:Nat} {es:List (List DVal)} {e:Ent} (he:At_ s.own id=some e) (hob:e.obj= .row et k bs es) (hne:es≠[]) :
  es.length*bs≤150000000000000∧∃b arr cap,(loc id).blks=[b]∧(loc id).hdr= .slice (some ⟨b,0,none⟩) es.length cap∧w.heap[b]? =some (.cells arr et (0,0))∧es.length≤cap∧cap≤maxLen∧cap*k=arr.size∧rdR (cu s loc) (hm s loc B.M0) w.heap k es arr 0:=by
 obtain⟨hmem,hid⟩:=AD_ he;have hk:=S.ok e hmem;rw[hob]at hk;obtain⟨h0,hk⟩:=hk;rw[hid]at hk;refine⟨h0,?_⟩
 rcases hk with ⟨h,_⟩ | h
 ·exact absurd h hne
 ·exact h
theorem Rel.storeRow {id r n i j:Nat} {et k bs:Nat} {es:List (List DVal)} {c0:List DVal} {e:Ent} {d:DVal} {t:TypeId} {v:Value} {ad:Value} (R:Rel B s a w loc) (he:At_ s.own id=some e) (her:e.r=r) (hob:e.obj= .row et k bs es)
  (ha:Rds s loc B.M0 w (.rx id r k i j) ad) (hd:Rds s loc B.M0 w d v) (hp:Ck_ s.own d=true) (hc:tCells P t=some (AC_ d).length) (hi:es[i]? =some c0) (hfit:j+(AC_ d).length≤k) (hmx:mx d≤mxS s.slots) (hn:lim B s≤n) :
  ∃w',(Instr.storeAt t ad v).run P w= .ok () w'∧Rel B ⟨s.slots,upE s.own id r (.row et k bs (es.set i (Dm_ c0 j (AC_ d))))⟩ a w' (upL loc id (loc id)):=by
 have hil:i<es.length:=(aB0.1 hi).1;obtain⟨h7,b,arr,cap,h1,h2,h3,h4,h5,h6,hrow⟩:=Tq_ (B:=B) R.st he hob (by intro h;subst h;simp at hil);have hcur:Ai_ s.own loc id r=some (loc id):=by unfold Ai_;rw[he];simp[her]
 simp only[Rds,rd]at ha;obtain⟨b',hb',rfl⟩:=ha _ hcur;rw[h1]at hb';simp only[bH0,and_true]at hb';subst hb';obtain⟨hcv,hone⟩:=GS_ R.st hp hd;have hlv:=Au_ _ _ hcv;simp only[bP0]at hlv;have hrl:=Cw_ (k:=k) hil;have hcap:es.length*k≤arr.size:=by rw[←h6];exact aO0 _ h4
 have hrun:=JK_ (P:=P) (w:=w) (b:=b) (off:=i*k+j) (t:=t) (v:=v) h3 (by rw[hc,hlv]) (by omega) hone;have hmem:=(AD_ he).1;have hmxo:=(AW_ hmem).2;rw[hob]at hmxo;simp only[mxO]at hmxo;refine⟨_,hrun,R.writeRow (dst:=none) (d:= .any) (v:=Go.undef) he her hob h1 h2 h3 h4 h5 h6 h7 (by simp) (by simp;omega) ?_ ?_ hn (fun i hi=>by simp at hi) (fun _ _ _=>by simp[rd])⟩
 ·have:=rdR_set (j:=j) hrow hi hcv hone hfit hcap;simpa using this
 ·unfold lim at hn;refine TG_ _ _ (by omega) ?_;have h8:=Io_ c0 j (AC_ d);have h9:=mxR_at hi;rw[BY_]at h8;omega
theorem Rq_ {own:List Ent} {d:DVal} (h:oneO [] d=true):oneO own d=true:=by
 cases d<;>simp_all [oneO,Hk_,At_,AU_]
theorem IE_ {z:Array Value} {n i q:Nat} (hz:z.size≠0) (hi:i<n) (hq:q<z.size):(madeCells z (n*z.size))[i*z.size+q]? =z[q]? :=by
 have hlt:i*z.size+q<n*z.size:=by have:=Cw_ (k:=z.size) hi;omega
 have e1:(i*z.size+q)%z.size=q:=by rw[Nat.mul_comm,Nat.mul_add_mod];exact Nat.mod_eq_of_lt hq
 simp[madeCells,hlt,e1,hq]
theorem rd_zeros {cur:Cur} {M:List Nat} {H:Array Obj} {z:Value} {n:Nat} {k:Nat} (hk:z.cells.size=k) (hone:∀u∈z.cells.toList,u.oneCell'=true) :
  ∀(arr:Array Value) (o:Nat),(∀i q,i<n→q<k→arr[o+(i*k+q)]? =z.cells[q]?)→rdR cur M H k (List.replicate n (z.cells.toList.map ofV1)) arr o:=by
 intro arr o hq;refine FC_ _ _ _ _ fun i cs hi=> ?_
 rw[eL0]at hi
 split at hi
 ·rename_i hlt;simp only[aA0]at hi;subst hi;refine⟨by simpa using hk,?_⟩;have h0:=FW_ (cur:=cur) (M:=M) (H:=H) (z.cells.toList.map ofV1) z.cells.toList [] [] (Be_ _) hone;refine Cf_ _ _ arr _ _ (fun p hp=> ?_) h0;have hp':p<k:=by simp at hp;omega
  rw[cS0,hq i p hlt hp'];simp
 ·simp at hi
def tZeroE (P:Program) (t:TypeId):Option (List DVal):=match P.underlying t with
 | some (.slice e)=>tZero P e
 | _=>none
theorem ofV1_mx (l:List Value):mxL (l.map ofV1)=0:=by
 have h1:∀v,mx (ofV1 v)=0:=by
  intro v;unfold ofV1
  split<;>(try split)<;>simp[mx]
 induction l with
 | nil=>simp[mxL]
 | cons v l ih=>simp[mxL,h1,ih]
theorem TH_ {n m:Nat} {cs:List DVal} (h:mxL cs≤n):mxR (List.replicate m cs)≤n:=Pc_ fun d hd=>by rw[List.eq_of_mem_replicate hd];exact h
theorem Rel.makeRow {id n:Nat} {t e:TypeId} {k bs:Nat} {zs:List DVal} {kl kc:IntKind} {l c:Int} {dst:Option Nat} (R:Rel B s a w loc) (hlim:lim B s≤n) (hdst:∀i,dst=some i→i<B.nt)
  (ht:tElem P t=some (k,bs)) (hte:tElemId P t=some e) (hz:tZeroE P t=some zs) (hzo:zs.all (oneO [])=true) (hzl:zs.length=k) (h0:0≤l) (hlc:l≤c) (hb:c*bs≤150000000000000) (hl:c≤9223372036854775807) :
  ∃v' w' L,(Instr.makeSlice t (.int kl l) (.int kc c)).run P w= .ok v' w'∧Rel B ⟨putS s.slots dst (.osl id n),upE s.own id n (.row e k bs (List.replicate l.toNat zs))⟩ (a.put dst v') w' (upL loc id L):=by
 obtain⟨e',i,hu,hi,hsz,hby,_⟩:=Bk_ ht;have hee:e'=e:=by unfold tElemId at hte;rw[hu]at hte;simpa using hte
 subst hee;unfold tZeroE at hz;rw[hu]at hz;simp only at hz
 obtain⟨z,hzr,hzc⟩:∃z,i.zero=some z∧zs=z.cells.toList.map ofV1:=by
  unfold tZero at hz;rw[hi]at hz;simp only at hz;rw[bE0]at hz;obtain⟨z,h1,h2⟩:=hz;exact⟨z,h1,h2.symm⟩
 subst hzc;simp only[aJ0,bP0]at hzl
 have hone:∀u∈z.cells.toList,u.oneCell'=true:=by
  intro u hu';have hus:rdV (cu s loc) (hm s loc B.M0) w.heap (z.cells.toList.map ofV1) z.cells.toList:=Be_ _;exact Fc_ R.st (z.cells.toList.map ofV1) z.cells.toList (bA0.2 fun d hd=>Rq_ (bA0.1 hzo d hd)) hus u hu'
 subst hsz;subst hby;have hrun:=run_make (P:=P) w t e' i z hu hi hzr kl kc l c h0 hlc (by rw[Int.mul_comm];omega) hl;have hw:Upd (Ab_ s.own loc) w (w.alloc (.cells (madeCells z.cells (c.toNat*i.size)) e')):=Upd.alloc _ _ _
 have hL:∀b0,b0∈(⟨[w.heap.size],.slice (some ⟨w.heap.size,0,none⟩) l.toNat c.toNat⟩:Loc).blks→b0<(w.alloc (.cells (madeCells z.cells (c.toNat*i.size)) e')).heap.size∧((∃e∈s.own,e.id=id∧b0∈(loc id).blks)∨w.heap.size≤b0):=by
  intro b0 hb0;simp only[aE0]at hb0;subst hb0;exact⟨by simp,.inr (Nat.le_refl _)⟩
 refine⟨_,_,⟨[w.heap.size],.slice (some ⟨w.heap.size,0,none⟩) l.toNat c.toNat⟩,hrun,?_⟩;have hlN:(List.replicate l.toNat (z.cells.toList.map ofV1)).length=l.toNat:=cZ0
 have hbN:l.toNat*i.bytes≤150000000000000:=by
  have h1:(c.toNat:Int)*i.bytes≤150000000000000:=by rw[Int.toNat_of_nonneg (by omega)];exact hb
  have h2:c.toNat*i.bytes≤150000000000000:=by omega
  exact Nat.le_trans (aO0 _ (by omega)) h2
 refine R.up hlim hdst hw (fun b hb _=>by simp only[World.alloc,bV0];rw[if_neg (by omega)]) hL (.inl (Nat.le_refl _)) ⟨by rw[hlN];exact hbN,.inr ⟨w.heap.size,_,c.toNat,rfl,by rw[hlN],heap_alloc_new w _,by rw[hlN];omega,by unfold maxLen;omega,by simp[size_madeCells],?_⟩⟩ ?_
 ·by_cases hk0:i.size=0
  ·refine FC_ _ _ _ _ fun q cs hq=> ?_
   rw[eL0]at hq
   split at hq
   ·simp only[aA0]at hq;subst hq;have:z.cells.toList=[]:=bO0 (by simpa[hk0]using hzl);rw[this];simp[hk0,rdC]
   ·simp at hq
  ·refine rd_zeros hzl hone _ _ fun q p hq hp=> ?_
   rw[bT0];have:=IE_ (z:=z.cells) (n:=c.toNat) (i:=q) (q:=p) (by omega) (by omega) (by omega)
   rwa[hzl]at this
 ·simp only[rd];intro lc hl';rw[CL_]at hl';simp only[aA0]at hl';rw[←hl']
def CM_ (es:List (List DVal)) (i m:Nat) (zs:List DVal):List (List DVal):=es.take i++List.replicate m zs++es.drop (i+m)
theorem rdR_clear {cur:Cur} {M:List Nat} {H:Array Obj} {k i m:Nat} {es:List (List DVal)} {z:Value} {arr:Array Value} (hr:rdR cur M H k es arr 0) (hb:i+m≤es.length) (hzl:z.cells.size=k) (hone:∀u∈z.cells.toList,u.oneCell'=true) (hk:k≠0) (hsz:es.length*k≤arr.size) :
  rdR cur M H k (CM_ es i m (z.cells.toList.map ofV1)) (arr.toList.take (i*k)++(Builtin.zeroCells z.cells m).toList++arr.toList.drop (i*k+(Builtin.zeroCells z.cells m).toList.length)).toArray 0:=by
 have hlz:(Builtin.zeroCells z.cells m).toList.length=m*k:=by simp[size_zeroCells,hzl]
 have hfit:i*k+m*k≤arr.size:=by rw[←bX0];exact Nat.le_trans (aO0 _ hb) hsz
 refine FC_ _ _ _ _ fun q cs hq=> ?_
 unfold CM_ at hq
 by_cases h1:q<i
 ·rw[aU0,bB0 (by simp;omega),bY0 h1]at hq;obtain⟨g1,g2⟩:=DB_ k es arr 0 q cs hr hq;have:=Cw_ (k:=k) h1;exact⟨g1,Cf_ cs arr _ _ _ (fun p hp=>Tp_ (by omega) (.inl (by omega))) g2⟩
 ·by_cases h2:q<i+m
  ·rw[aU0,bC0 (by simp;omega),bB0 (by simp;omega),eL0,if_pos (by simp;omega)]at hq;simp only[aA0]at hq;subst hq;refine⟨by simpa using hzl,?_⟩;have h0:=FW_ (cur:=cur) (M:=M) (H:=H) (z.cells.toList.map ofV1) z.cells.toList [] [] (Be_ _) hone;refine Cf_ _ _ _ _ _ (fun p hp=> ?_) h0;have hp':p<k:=by simp at hp;omega
   have h3:=Cw_ (k:=k) (show q-i<m by omega);have h4:q*k=i*k+(q-i)*k:=by rw[←bX0];congr 1;omega
   simp only[dK0,bT0];rw[aU0,bC0 (by simp;omega),bB0 (by simp[size_zeroCells,hzl];omega)];have e1:q*k+p-(arr.toList.take (i*k)).length=(q-i)*k+p:=by simp;omega
   rw[e1];have h5:=IE_ (z:=z.cells) (n:=m) (i:=q-i) (q:=p) (by omega) (by omega) (by omega);rw[hzl]at h5;have e2:Builtin.zeroCells z.cells m=madeCells z.cells (m*k):=by simp[Builtin.zeroCells,madeCells,hzl]
   rw[e2];simpa using h5
  ·rw[bC0 (by simp;omega),cT0]at hq;have e1:i+m+(q-(es.take i++List.replicate m (z.cells.toList.map ofV1)).length)=q:=by simp;omega
   rw[e1]at hq;obtain⟨g1,g2⟩:=DB_ k es arr 0 q cs hr hq;refine⟨g1,Cf_ cs arr _ _ _ (fun p hp=>Tp_ (by omega) (.inr ?_)) g2⟩;have:(i+m)*k≤q*k:=aO0 _ (by omega);rw[bX0]at this;omega
theorem part_at (S:St s.own loc B.M0 w.heap) {d:DVal} {id r bs0 i m:Nat} {et k bs:Nat} {es:List (List DVal)} {e:Ent} {v:Value} (he:At_ s.own id=some e) (her:e.r=r) (hob:e.obj= .row et k bs es)
  (hv:Rds s loc B.M0 w d v) (hd:d= .osl id r∧i=0∧m=es.length∨d= .vw id r k bs0 i m):∃a cap,v= .slice a m cap∧(0<m→∃b,(loc id).blks=[b]∧a=some ⟨b,i*k,none⟩):=by
 obtain⟨hcur,a,cap,hh,g1,g2,g3⟩:=Kv_ S he her hob
 rcases hd with ⟨rfl,rfl,rfl⟩ | rfl
 ·simp only[Rds,rd]at hv;have:=hv _ hcur;rw[hh]at this;refine⟨a,cap,this,fun h=> ?_⟩
  rcases g3 with ⟨rfl,_⟩ | ⟨b,hb,rfl⟩
  ·simp at h
  ·exact⟨b,hb,by simp⟩
 ·simp only[Rds,rd]at hv;obtain⟨a,cap,rfl,_,_,_,h,_⟩:=hv _ hcur;exact⟨a,cap,rfl,h⟩
theorem Rel.clearRow {d:DVal} {id r k0 bs0 i m n:Nat} {t ty e':TypeId} {et k bs:Nat} {es:List (List DVal)} {zs:List DVal} {e:Ent} {v:Value} {dst:Option Nat} (R:Rel B s a w loc) (he:At_ s.own id=some e) (her:e.r=r) (hob:e.obj= .row et k bs es)
  (hv:Rds s loc B.M0 w d v) (hd:d= .osl id r∧i=0∧m=es.length∨d= .vw id r k bs0 i m) (hb:i+m≤es.length) (ht:tElem P t=some (k,k0)) (hz:tZeroE P t=some zs) (hzo:zs.all (oneO [])=true) (hzl:zs.length=k) (hk:0<k)
  (hlim:lim B s≤n) (hdst:∀i,dst=some i→i<B.nt) :
  ∃w',(Builtin.clear_ #[t] ty #[v]).run P w= .ok (.tuple #[]) w'∧Rel B ⟨putS s.slots dst (.tup []),upE s.own id r (.row et k bs (CM_ es i m zs))⟩ (a.put dst (.tuple #[])) w' (upL loc id (loc id)):=by
 obtain⟨e1,i1,hu,hi,hsz,hby,_⟩:=Bk_ ht;unfold tZeroE at hz;rw[hu]at hz;simp only at hz
 obtain⟨z,hzr,hzc⟩:∃z,i1.zero=some z∧zs=z.cells.toList.map ofV1:=by
  unfold tZero at hz;rw[hi]at hz;simp only at hz;rw[bE0]at hz;obtain⟨z,h1,h2⟩:=hz;exact⟨z,h1,h2.symm⟩
 subst hzc;simp only[aJ0,bP0]at hzl;have hus:∀M,rdV (cu s loc) M w.heap (z.cells.toList.map ofV1) z.cells.toList:=fun M=>Be_ _
 have hone:∀u∈z.cells.toList,u.oneCell'=true :=
  Fc_ R.st (z.cells.toList.map ofV1) z.cells.toList (bA0.2 fun d hd=>Rq_ (bA0.1 hzo d hd)) (hus _)
 obtain⟨ad,cap,rfl,hat⟩:=part_at (B:=B) R.st he her hob hv hd;have htup:∀cur M h,rd cur M h (.tup []) (.tuple #[]):=fun _ _ _=>by simp only[rd];exact⟨#[],rfl,by simp[rdV]⟩
 have hmem:=(AD_ he).1;have hid:=(AD_ he).2;have hmxo:=(AW_ hmem).2;rw[hob]at hmxo;simp only[mxO]at hmxo
 by_cases hm:m=0
 ·subst hm;have hcl:CM_ es i 0 (z.cells.toList.map ofV1)=es:=by simp[CM_]
  rw[hcl];refine⟨w,by cases ad<;>simp[Builtin.clear_,run_underlying hu],?_⟩;have hcur:Ai_ s.own loc id r=some (loc id):=by unfold Ai_;rw[he];simp[her]
  have hk':=R.st.ok e hmem;rw[hob,hid]at hk'
  have hL:∀b0,b0∈(loc id).blks→b0<w.heap.size∧((∃e∈s.own,e.id=id∧b0∈(loc id).blks)∨w.heap.size≤b0):=fun b0 hb0 =>
   ⟨R.st.lt b0 (aM0 _ (AO_ hmem (by rw[hid];exact hb0))),.inl ⟨e,hmem,hid,hb0⟩⟩
  have W:=R.weakUp (obj:= .row et k bs es) hlim (Upd.refl _ w) hL (.inr hcur);unfold lim at hlim;exact R.up (hLn:=by have:=Cz_ R.st.bl e hmem;rwa[hid]at this) (n:=n) hlim hdst (Upd.refl _ w) (fun _ _ _=>rfl) hL (.inr hcur) (AN_ W (by simp only[mxO];omega) (fun _ _ _ h=>h) hk') (htup _ _ _)
 ·obtain⟨b,hb1,rfl⟩:=hat (by omega);obtain⟨h7,b',arr,cap',h1,h2,h3,h4,h5,h6,hrow⟩:=Tq_ (B:=B) R.st he hob (by intro h;subst h;simp at hb;omega);rw[h1]at hb1;simp only[bH0,and_true]at hb1;subst hb1;have hcap:es.length*k≤arr.size:=by rw[←h6];exact aO0 _ h4
  have hzn:(Builtin.zeroCells z.cells m).toList.length=m*k:=by simp[size_zeroCells,hzl]
  have hfit:i*k+m*k≤arr.size:=by rw[←bX0];exact Nat.le_trans (aO0 _ hb) hcap
  have hzone:∀u∈(Builtin.zeroCells z.cells m).toList,u.oneCell'=true:=by
   intro u hu';simp only[Builtin.zeroCells,eG0,aV0]at hu';obtain⟨j,_,rfl⟩:=hu';have hpos:0<z.cells.size:=by omega
   have hlt:j%z.cells.size<z.cells.size:=Nat.mod_lt _ hpos;rw[getElem!_pos z.cells _ hlt];exact hone _ (by simp)
  have hst:=run_storeCells_at P b' (i*k) et (Builtin.zeroCells z.cells m).toList 0 arr w h3 (by rw[hzn];omega) hzone;simp only[cV0]at hst;obtain⟨m',rfl⟩:∃m',m=m'+1:=⟨m-1,by omega⟩;refine⟨_,?_,R.writeRow he her hob h1 h2 h3 h4 h5 h6 h7 (by simp[CM_];omega) (by simp only[dG0,aC0,aY0,bS0,bP0,hzn];rw[←bP0];rw[←bP0]at hfit;omega) (rdR_clear hrow hb hzl hone (by omega) hcap) ?_ hlim hdst htup⟩
  ·simp[Builtin.clear_,run_underlying hu,zeroValue,typeInfo,hi,hzr,hst]
  ·unfold CM_;unfold lim at hlim;rw[Ba_,Ba_];have:=Fd_ i es;have:=Fe_ (i+(m'+1)) es;have:=TH_ (n:=0) (m:=m'+1) (dJ0 (ofV1_mx z.cells.toList));omega
end
end Go.Dm
end
