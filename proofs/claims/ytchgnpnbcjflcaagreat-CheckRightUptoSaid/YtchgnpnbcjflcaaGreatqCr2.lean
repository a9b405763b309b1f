/- Parts of a proof, laid together: EnF, EnG, EnH, EnI, EnI1, EnI2. -/
import Derived.Sort.LoopGhostIn
import Derived.RangeFuncCalls
import Derived.RangeFuncLeaves
import Derived.OrdersIn
import Derived.Orders
import Derived.Laws.AppendOwn
import Derived.Laws.OwnMore
import Derived.Deep.DeepAppendWide
import Derived.Laws.MakeOwn
import Derived.Test.YtchgnpnbcjflcaaGreatqCr1
set_option linter.unusedSimpArgs false
set_option maxHeartbeats 8000000
set_option linter.unusedVariables false
set_option linter.unusedSectionVars false
section
namespace Go.Dm
variable [DMode]
def wd (ro:Option Nat):Fence:={ fn:=fun _=>True,depth:=none,alive:=false,round:=ro }
theorem WU {P:Program} {f:FuncId} {args:Array Value} {w:World} {R:Ending->World->Prop} (ro:Option Nat) (n:Nat) (h:Calls P f args w R):CallsIn (wd ro) n P f args w R:=by
 have h:=(callsIn_wide (n:=n)).2 h
 cases ro with
 | none=>exact h
 | some l=>exact CallsIn.inRound l h
section
variable (P : Program) (B : Base)
def QQ (Q:Exit->DS->Prop):Exit->Act->World->Prop:=fun e a w=>∃s loc,Q e s/\Rel B s a w loc
def DW (c:Code) (Q:Exit->DS->Prop) (s:DS):Prop:=∀a w loc,Rel B s a w loc->c.wpIn (wd B.ro) 0 P (QQ B Q) a w
def Qt_ (K:DS->Prop) (Q:Exit->DS->Prop):Exit->DS->Prop
 | .normal,s=>K s
 | e,s=>Q e s
def Hz_ (id:Nat) (Q:Exit->DS->Prop):Exit->DS->Prop
 | .exit id',s=>if id'=id then Q .normal s else Q (.exit id') s
 | e,s=>Q e s
def Sub (s s':DS):Prop:=∀a w loc,Rel B s a w loc->∃loc',Rel B s' a w loc'
end
section
variable {P : Program} {B : Base} {Q : Exit -> DS -> Prop} {s s' : DS}
theorem Fw {c:Code} (h:Sub B s s') (hw:DW P B c Q s'):DW P B c Q s:=fun a w loc R =>
 let ⟨loc',R'⟩:=h a w loc R;hw a w loc' R'
theorem AI {x y:Code} (h:∀K:DS->Prop,(∀s,DW P B y Q s->K s)->DW P B x (Qt_ K Q) s):DW P B (.seq x y) Q s:=by
 intro a w loc R;refine wpIn_seq (wpIn_mono (h (fun s=>DW P B y Q s) (fun _ h=>h) a w loc R) ?_);rintro e a' w' ⟨s',loc',hq,R'⟩
 cases e<;>first
  | exact hq a' w' loc' R'
  | exact⟨s',loc',hq,R'⟩
theorem AC (h:Q .normal s):DW P B .skip Q s:=fun a w loc R=>wpIn_skip ⟨s,loc,h,R⟩
theorem AD {id:Nat} (h:Q (.exit id) s):DW P B (.exit id) Q s:=fun a w loc R=>wpIn_exit ⟨s,loc,h,R⟩
theorem AK (h:Q .ret s):DW P B .ret Q s:=fun a w loc R=>wpIn_ret ⟨s,loc,h,R⟩
theorem ET_ {l:Nat} (h:Q .normal s):DW P B (.label l) Q s:=fun a w loc R=>wpIn_label ⟨s,loc,h,R⟩
theorem Aw {id:Nat} {c:Code} (h:DW P B c (Hz_ id Q) s):DW P B (.block id c) Q s:=by
 intro a w loc R;refine wpIn_block (wpIn_mono (h a w loc R) ?_);rintro e a' w' ⟨s',loc',hq,R'⟩;cases e<;>try exact⟨s',loc',hq,R'⟩
 rename_i id';simp only[Hz_]at hq;simp only[Exit.inBlock]
 split
 ·rename_i h;rw[if_pos h]at hq;exact⟨s',loc',hq,R'⟩
 ·rename_i h;rw[if_neg h]at hq;exact⟨s',loc',hq,R'⟩
theorem Rel.ev {a:Act} {w:World} {loc:Nat->Loc} (R:Rel B s a w loc) (x:Operand):BJ s loc B.M0 w (ev s.slots x) (a.eval x):=Tv_ R.sl x
theorem RZ_ {c:Operand} {x y:Code} {b:Bool} (hc:ev s.slots c= .bool b) (ht:b=true->DW P B x Q s) (hf:b=false->DW P B y Q s):DW P B (.cond c x y) Q s:=by
 intro a w loc R;have h:=R.ev c;rw[hc]at h;simp only[BJ,rd]at h;exact wpIn_cond_split h (fun hb=>ht hb a w loc R) (fun hb=>hf hb a w loc R)
def Ag (B:Base) {X:Type} (S:X->DS) (μ:X->Nat) (n:Nat) (s':DS):Prop:=∃x',Sub B s' (S x')/\μ x'<n
theorem Ag.mk {X:Type} {S:X->DS} {μ:X->Nat} {n:Nat} (x':X) (h:Sub B s' (S x')) (hm:μ x'<n):Ag B S μ n s':=⟨x',h,hm⟩
theorem Af {c:Code} {X:Type} (S:X->DS) (μ:X->Nat) (x₀:X) (h₀:Sub B s (S x₀))
  (round:∀x,DW P B c (Qt_ (Ag B S μ (μ x)) Q) (S x)):DW P B (.loop c) Q s:=by
 intro a w loc R;refine wpIn_loop_ghost (fun n a w=>∃x loc,μ x=n/\Rel B (S x) a w loc) (μ x₀) ?_ ?_
 ·obtain⟨loc',R'⟩:=h₀ a w loc R;exact⟨x₀,loc',rfl,R'⟩
 ·rintro n a w ⟨x,loc,rfl,R⟩;refine wpIn_mono (round x a w loc R) ?_;rintro e a' w' ⟨s',loc',hq,R'⟩;cases e<;>try exact⟨s',loc',hq,R'⟩
  obtain⟨x',hs,qV⟩:=hq;obtain⟨loc'',R''⟩:=hs a' w' loc' R';exact⟨μ x',qV,x',loc'',rfl,R''⟩
end
def Enters (P:Program) (f:FuncId):Prop:=∀args w,(callFunc f args).run P w= .ok (.enter f args) w
def Ac (P:Program) (f:FuncId) (args:List DVal) (d:DVal):Prop :=
 Enters P f/\mx d=0/\∀(cur:Gp) (M:List Nat) (w:World) (vs:Array Value),(∀b∈M,b<w.heap.size)->AL cur M w.heap args vs.toList ->
  Calls P f vs w fun e w'=>∃v,e= .returned v/\Upd [] w w'/\rd cur M w'.heap d v
mutual
def Dq : DVal->Prop
 | .int k n=>MF k n
 | .str s=>s.size<=maxLen
 | .ref cs=>Gj cs
 | .sl _ bs es=>es.length*bs<=150000000000000/\es.length<=maxLen/\wfR es
 | .mp ks vs=>Gj ks/\Gj vs
 | .fn _ us cs=>Gj us/\Gj cs
 | .ifc _ d=>Dq d
 | .agg cs=>Gj cs
 | .tup cs=>Gj cs
 | _=>True
def Gj : List DVal->Prop
 | []=>True
 | d::ds=>Dq d/\Gj ds
def wfR : List (List DVal)->Prop
 | []=>True
 | cs::es=>Gj cs/\wfR es
end
section
variable {cur : Gp} {M : List Nat} {h : Array Obj}
mutual
theorem HP_ : ∀(d:DVal) (v:Value),rd cur M h d v->Dq d
 | .any,_,_=>by simp[Dq]
 | .undef,_,_=>by simp[Dq]
 | .sel _ _,_,_=>by simp[Dq]
 | .bool _,_,_=>by simp[Dq]
 | .int _ _,_,hr=>by simp only[rd]at hr;simp only[Dq];exact hr.2
 | .str _,_,hr=>by simp only[rd]at hr;simp only[Dq];exact hr.2
 | .nilp,_,_=>by simp[Dq]
 | .ref cs,v,hr=>by
  simp only[rd]at hr;obtain⟨b,off,arr,ty,fz,_,_,_,h4⟩:=hr;simp only[Dq];exact iA cs arr off h4
 | .bx _ _ _,_,_=>by simp[Dq]
 | .rx _ _ _ _ _,_,_=>by simp[Dq]
 | .nilsl,_,_=>by simp[Dq]
 | .esl,_,_=>by simp[Dq]
 | .sl k bs es,v,hr=>by
  simp only[rd]at hr;obtain⟨a,cap,h1,h2,yU,h2'',h3⟩:=hr;simp only[Dq];refine⟨h2'',Nat.le_trans h2 yU,?_⟩
  rcases h3 with ⟨rfl,_⟩ | ⟨b,off,arr,ty,fz,g1,g2,g3,g4⟩
  ·simp[wfR]
  ·exact FI_ k es arr off g4
 | .osl _ _,_,_=>by simp[Dq]
 | .vw _ _ _ _ _ _,_,_=>by simp[Dq]
 | .nilmp,_,_=>by simp[Dq]
 | .mp ks vs,v,hr=>by
  simp only[rd]at hr;obtain⟨_,es,_,_,_,_,_,h5,h6⟩:=hr;simp only[Dq];exact⟨Ip ks _ h5,Ip vs _ h6⟩
 | .omp _ _,_,_=>by simp[Dq]
 | .pk _ _,_,_=>by simp[Dq]
 | .nilfn,_,_=>by simp[Dq]
 | .fn f us cs,v,hr=>by
  simp only[rd]at hr;obtain⟨us',cs',h1,h2,h3⟩:=hr;simp only[Dq];exact⟨Ip us _ h2,Ip cs _ h3⟩
 | .nilifc,_,_=>by simp[Dq]
 | .ifc t d,v,hr=>by
  simp only[rd]at hr;obtain⟨u,h1,h2⟩:=hr;simp only[Dq];exact HP_ d u h2
 | .agg cs,v,hr=>by
  simp only[rd]at hr;obtain⟨us,h1,h2⟩:=hr;simp only[Dq];exact Ip cs _ h2
 | .tup cs,v,hr=>by
  simp only[rd]at hr;obtain⟨us,h1,h2⟩:=hr;simp only[Dq];exact Ip cs _ h2
theorem iA : ∀(ds:List DVal) (arr:Array Value) (o:Nat),ET cur M h ds arr o->Gj ds
 | [],_,_,_=>by simp[Gj]
 | d::ds,arr,o,hr=>by
  simp only[ET]at hr;obtain⟨⟨v,_,_,h2⟩,h3⟩:=hr;simp only[Gj];exact⟨HP_ d v h2,iA ds arr _ h3⟩
theorem FI_ : ∀(k:Nat) (es:List (List DVal)) (arr:Array Value) (o:Nat),Fz cur M h k es arr o->wfR es
 | _,[],_,_,_=>by simp[wfR]
 | k,cs::es,arr,o,hr=>by
  simp only[Fz]at hr;obtain⟨_,h2,h3⟩:=hr;simp only[wfR];exact⟨iA cs arr o h2,FI_ k es arr _ h3⟩
theorem Ip : ∀(ds:List DVal) (vs:List Value),AL cur M h ds vs->Gj ds
 | [],_,_=>by simp[Gj]
 | d::ds,vs,hr=>by
  simp only[AL]at hr;obtain⟨v,r,_,h2,h3⟩:=hr;simp only[Gj];exact⟨HP_ d v h2,Ip ds r h3⟩
end
end
def isE : DVal->Bool
 | .sl _ _ []=>true
 | _=>false
def wk1 (d d':DVal):Prop:=d=d'\/((d= .nilsl\/d= .esl)/\isE d'=true)
def wkL : List DVal->List DVal->Prop
 | [],[]=>True
 | d::ds,e::es=>wk1 d e/\wkL ds es
 | _,_=>False
def wk : DVal->DVal->Prop
 | .tup a,.tup b=>wkL a b
 | .agg a,.agg b=>wkL a b
 | d,d'=>wk1 d d'
section
variable {cur : Gp} {M : List Nat} {h : Array Obj}
theorem NK_ {d d':DVal} {v:Value} (hw:wk1 d d') (hr:rd cur M h d v):rd cur M h d' v:=by
 rcases hw with rfl | ⟨hd,he⟩
 ·exact hr
 ·unfold isE at he
  split at he
  ·rcases hd with rfl | rfl
   ·simp only[rd]at hr |-;subst hr;exact⟨none,0,rfl,by simp,by unfold maxLen;omega,by simp,.inl ⟨by simp,fun _=>rfl⟩⟩
   ·simp only[rd]at hr |-;obtain⟨ad,cap,rfl,hc⟩:=hr;exact⟨some ad,cap,rfl,by simp,hc,by simp,.inl ⟨by simp,by simp⟩⟩
  ·simp at he
theorem FH_ : ∀{ds es:List DVal} {vs:List Value},wkL ds es->AL cur M h ds vs->AL cur M h es vs
 | [],[],_,_,hr=>hr
 | d::ds,e::es,vs,hw,hr=>by
  simp only[wkL]at hw;simp only[AL]at hr |-;obtain⟨v,r,rfl,h1,h2⟩:=hr;exact⟨v,r,rfl,NK_ hw.1 h1,FH_ hw.2 h2⟩
theorem xS {d d':DVal} {v:Value} (hw:wk d d') (hr:rd cur M h d v):rd cur M h d' v:=by
 unfold wk at hw
 split at hw
 ·simp only[rd]at hr |-;obtain⟨us,rfl,h1⟩:=hr;exact⟨us,rfl,FH_ hw h1⟩
 ·simp only[rd]at hr |-;obtain⟨us,rfl,h1⟩:=hr;exact⟨us,rfl,FH_ hw h1⟩
 ·exact NK_ hw hr
end
def aE : List DVal->List DVal->Prop
 | [],[]=>True
 | d::ds,e::es=>wk d e/\aE ds es
 | _,_=>False
theorem UT {cur:Gp} {M:List Nat} {h:Array Obj}:∀{ds es:List DVal} {vs:List Value},aE ds es->AL cur M h ds vs->AL cur M h es vs
 | [],[],_,_,hr=>hr
 | [],_::_,_,hw,_=>hw.elim
 | _::_,[],_,hw,_=>hw.elim
 | d::ds,e::es,vs,hw,hr=>by
  simp only[AL]at hr |-;obtain⟨v,r,rfl,h1,h2⟩:=hr;exact⟨v,r,rfl,xS hw.1 h1,UT hw.2 h2⟩
structure Cont where
 f:DS->Prop
structure ContV where
 f:DVal->Prop
structure ContE where
 f:DVal->List Ent->Prop
def Bs (P:Program) (g:FuncId) (args:List DVal) (K:ContV):Prop:=∃args' d,aE args args'/\Ac P g args' d/\K.f d
theorem aD (d:DVal):wk d d:=by
 have h1:∀d,wk1 d d:=fun d=> .inl rfl
 have hL:∀l,wkL l l:=by
  intro l
  induction l with
  | nil=>trivial
  | cons d l ih=>exact⟨h1 d,ih⟩
 cases d<;>first
  | exact hL _
  | exact h1 _
theorem Pf : ∀l,aE l l
 | []=>trivial
 | d::l=>⟨aD d,Pf l⟩
theorem An {P:Program} {g:FuncId} {args:List DVal} {d:DVal} {K:ContV} (h:Ac P g args d) (hk:K.f d):Bs P g args K:=⟨args,d,Pf _,h,hk⟩
theorem Am {P:Program} {g:FuncId} {args args':List DVal} {d:DVal} {K:ContV} (h:Ac P g args' d) (hw:aE args args') (hk:K.f d):Bs P g args K:=⟨args',d,hw,h,hk⟩
theorem Sb {P:Program} {g:FuncId} {args:List DVal} {K:ContV} (h:Bs P g args K):∃d,Ac P g args d/\K.f d:=by
 obtain⟨args',d,hw,h,hk⟩:=h;exact⟨d,⟨h.1,h.2.1,fun cur M w vs hM hr=>h.2.2 cur M w vs hM (UT hw hr)⟩,hk⟩
def gB : DVal->Bool->Bool
 | .bool t,true=>t
 | .bool t,false=> !t
 | .sel c (.bool t),true=>c&&t
 | .sel c (.bool t),false=>c&& !t
 | _,_=>false
def gOK : DVal->Bool
 | .bool _=>true
 | .sel _ (.bool _)=>true
 | .undef=>true
 | _=>false
def LZ : DVal->DVal
 | .sel _ d=>d
 | d=>d
def okG (c:Bool):DVal->Prop
 | .sel c' _=>c=true->c'=true
 | _=>True
def HA (c:Bool) (e:Operand->DVal):List Operand->Prop
 | []=>True
 | x::r=>okG c (e x)/\HA c e r
def Mu (c:Bool) (e:Operand->DVal) (op:Op):Prop:=match op with
 | .pick x a b=>okG c (e x)/\∀t,LZ (e x)= .bool t->(t=true->okG c (e a))/\(t=false->okG c (e b))
 | op=>HA c e op.operands.toList
def Bt (l:List (Nat×DVal)) (x:Operand):DVal:=LZ (ev l x)
def CX (nt:Nat):Option Nat->Bool
 | none=>true
 | some i=>decide (i<nt)
def callee (e:Operand->DVal) (c:Call):Option (FuncId×List DVal) :=
 match c.callee with
 | .value f=>match e f with
  | .fn (.func g) us cs=>some (g,us++c.args.toList.map e++cs)
  | _=>none
 | _=>none
section
variable (P : Program) (nt : Nat)
def kD (K:Cont) (s:DS) (dst:Option Nat):ContV:=⟨fun d=>K.f ⟨Ce s.slots dst d,s.own⟩⟩
def kG (K:Cont) (c:Bool) (s:DS) (dst:Option Nat):ContV:=⟨fun d=>K.f ⟨Ce s.slots dst (.sel c d),s.own⟩⟩
theorem UL_ (K:Cont) (s:DS) (dst:Option Nat) (d:DVal):(kD K s dst).f d=K.f ⟨Ce s.slots dst d,s.own⟩:=id rfl
theorem UK_ (K:Cont) (c:Bool) (s:DS) (dst:Option Nat) (d:DVal):(kG K c s dst).f d=K.f ⟨Ce s.slots dst (.sel c d),s.own⟩:=id rfl
def PJ_ (c:Bool) (g:FuncId) (args:List DVal) (K:ContV):Prop:=match c with
 | true=>Bs P g args K
 | false=>K.f .any
def SZ_ (c:Bool) (o:Oper) (s:DS) (K:Cont):Prop :=
 CX nt o.dst=true/\Mu c (ev s.slots) o.op/\match o.op with
  | .call cl=>match callee (Bt s.slots) cl with
   | some (g,args)=>PJ_ P c g args (kG K c s o.dst)
   | none=>(c=true->Hu P s.own (Bt s.slots) o.op)/\K.f ⟨Ce s.slots o.dst (.sel c (Ck P s.own (Bt s.slots) o.op)),s.own⟩
  | op=>(c=true->Hu P s.own (Bt s.slots) op)/\K.f ⟨Ce s.slots o.dst (.sel c (Ck P s.own (Bt s.slots) op)),s.own⟩
def Ci (ops:Array Oper) (s:DS) (j:Nat):DVal:=match (ops[j]?).bind (·.dst)with | some t=>BL s.slots t | none=> .any
end
section
variable {P : Program} {B : Base} {s : DS} {a : Act} {w : World} {loc : Nat -> Loc}
theorem ZG {c:Bool} {g:FuncId} {args:List DVal} {K:ContV} (h:PJ_ P c g args K):∃d,(c=true->Ac P g args d)/\K.f d:=by
 cases c
 ·exact⟨.any,(fun h=>by simp at h),h⟩
 ·obtain⟨d,h1,h2⟩:=Sb h;exact⟨d,fun _=>h1,h2⟩
theorem OX {o:Oper} (h:CX B.nt o.dst=true):∀i,o.dst=some i->i<B.nt:=by
 intro i hi;rw[hi]at h;simpa[CX]using h
theorem Rel.lt (R:Rel B s a w loc):∀b∈hm s loc B.M0,b<w.heap.size:=R.st.lt
theorem xJ {o:Oper} {c:Call} (ho:o.op= .call c) {ρ:Operand->Value} {M0:List Nat} {e:Operand->DVal} (hρ:∀x∈c.operands,BJ s loc M0 w (e x) (ρ x)) {g:FuncId} {args:List DVal} (hc:callee e c=some (g,args)) (he:Enters P g) :
  ∃vs:Array Value,(execOp ρ o).run P w= .ok (.enter g vs) w/\AL (cu s loc) (hm s loc M0) w.heap args vs.toList:=by
 obtain⟨dst,op,type,pos,after,guard⟩:=o;simp only at ho;subst ho;obtain⟨cal,ars,ats⟩:=c;unfold callee at hc
 cases cal with
 | value f =>
  simp only at hc
  split at hc
  ·rename_i g' us cs hf;simp only[aA0,aY0]at hc;obtain⟨rfl,rfl⟩:=hc;have hx:=hρ f (by simp[Call.operands]);rw[hf]at hx;simp only[BJ,rd]at hx;obtain⟨us',cs',hv,h1,h2⟩:=hx
   have key:∀l:List Operand,(∀x∈l,BJ s loc M0 w (e x) (ρ x))->AL (cu s loc) (hm s loc M0) w.heap (l.map e) (l.map ρ):=by
    intro l
    induction l with
    | nil=>intro _;simp[AL]
    | cons x l ih=>intro hl;simp only[List.map_cons,AL];exact⟨_,_,rfl,hl x aF0,ih fun y hy=>hl y (aE0 _ hy)⟩
   refine⟨us'++ars.map ρ++cs',?_,?_⟩
   ·simp only[execOp,resolve,hv,Deferred.ofValue,Sem.run_bind,Sem.run_pure,Result.andThen_ok,invoke];exact he _ _
   ·simp only[Array.toList_append,eS0];exact CU _ _ _ _ (CU _ _ _ _ h1 (key _ fun x hx=>hρ x (by simp[Call.operands];right;simpa using hx))) h2
  ·simp at hc
 | invoke r m=>simp at hc
 | builtin b=>simp at hc
theorem Vs {own:List Ent} {e e':Operand->DVal} (op:Op) (h:∀x∈op.operands,e x=e' x):(Hu P own e op↔Hu P own e' op)/\Ck P own e op=Ck P own e' op:=by
 have parts:∀(ps:Array (Nat×Operand)),(∀x∈(ps.toList.map (·.2)).toArray,e x=e' x)->∀p∈ps.toList,e p.2=e' p.2:=by
  intro ps h p hp;exact h p.2 (by simpa using ⟨p.1,by simpa using hp⟩)
 cases op<;>simp only[Op.operands]at h<;>simp only[Hu,Ck]
 case move x=>exact⟨trivial,h x (by simp)⟩
 case assign x=>exact⟨trivial,h x (by simp)⟩
 case pick c a b =>
  have h1:=h c (by simp);have h2:=h a (by simp);have h3:=h b (by simp);simp only[h1,h2,h3,and_self]
 case build t ps =>
  have hp:=parts ps h;have e1:(ps.toList.map fun p=>(p.1,e p.2))=ps.toList.map fun p=>(p.1,e' p.2):=cR0 fun p hm=>by rw[hp p hm]
  have e2:(ps.toList.all fun p=>Dr own (e p.2))=ps.toList.all fun p=>Dr own (e' p.2):=by
   rw[fF0,bA0,bA0]
   constructor<;>intro hq p hm<;>have:=hq p hm
   ·rw[<-hp p hm];exact this
   ·rw[hp p hm];exact this
  simp only[e1,e2,and_self]
 case buildSlice t n ps =>
  have hp:=parts ps h;have e1:(ps.toList.map fun p=>AU (e p.2))=ps.toList.map fun p=>AU (e' p.2):=cR0 fun p hm=>by rw[hp p hm]
  have e2:∀k,(ps.toList.all fun p=>Dr own (e p.2)&&(AU (e p.2)).length==k)=ps.toList.all fun p=>Dr own (e' p.2)&&(AU (e' p.2)).length==k:=by
   intro k;rw[fF0,bA0,bA0]
   constructor<;>intro hq p hm<;>have:=hq p hm
   ·rw[<-hp p hm];exact this
   ·rw[hp p hm];exact this
  simp only[e1,e2,and_self]
 case makeFunc f us cs =>
  have e1:us.toList.map e=us.toList.map e':=cR0 fun x hx=>h x (by simp;left;simpa using hx)
  have e2:cs.toList.map e=cs.toList.map e':=cR0 fun x hx=>h x (by simp;right;simpa using hx)
  simp only[e1,e2,and_self]
 case call c =>
  have e1:c.args.toList.map e=c.args.toList.map e':=cR0 fun x hx=>h x (by simp[Call.operands];right;simpa using hx)
  cases c.callee<;>simp only[e1,and_self]
 case slice t x l h' m =>
  have hx:=h x (by simp)
  have hi:∀(d:Int) (o:Option Operand),(o=l\/o=h'\/o=m)->DY e d o=DY e' d o:=by
   intro d o ho
   cases o with
   | none=>rfl
   | some y =>
    have:e y=e' y:=h y (by
     simp only[Array.mem_append]
     rcases ho with ho | ho | ho<;>subst ho<;>simp)
    simp only[DY,this]
  have h1:∀d,DY e d l=DY e' d l:=fun d=>hi d l (by simp)
  have h2:∀d,DY e d h'=DY e' d h':=fun d=>hi d h' (by simp)
  have h3:∀d,DY e d m=DY e' d m:=fun d=>hi d m (by simp)
  have h4:∀n,FS e n l h' m↔FS e' n l h' m:=fun n=>by simp only[FS,h1,h2,h3]
  have h5:∀n,FS e n l h' none↔FS e' n l h' none:=fun n=>by simp only[FS,h1,h2,show ∀d,DY e d none=DY e' d none from fun _=>rfl]
  simp only[hx,h1,h2,h4,h5,and_self]
 all_goals simp_all
theorem Ok_ {o:Oper} {e:Operand->DVal} {d:DVal} {K:DS->Prop} {next:Act->World->Prop} {Q:Exit->Act->World->Prop} (R:Rel B s a w loc) (hd:CX B.nt o.dst=true) (he:∀x∈o.op.operands,BJ s loc B.M0 w (e x) (a.eval x)) (hp:Hu P s.own e o.op)
  (hk:K ⟨Ce s.slots o.dst d,s.own⟩) (fA:∀(w':World) (v:Value),rd (cu s loc) (hm s loc B.M0) w'.heap (Ck P s.own e o.op) v->rd (cu s loc) (hm s loc B.M0) w'.heap d v) (hn:∀s' a' w' loc',K s'->Rel B s' a' w' loc'->next a' w'):o.wpIn (wd B.ro) 0 P a w next Q:=by
 classical
 have hc:=Vs (P:=P) (own:=s.own) (e:=e) (e':=fun x=>if x∈o.op.operands then e x else .any) o.op (fun x hx=>by simp[hx])
 obtain⟨v,w',h1,h2,h3⟩:=Lg_ (P:=P) (ρ:=a.eval) (M0:=B.M0) (o:=o) (e:=fun x=>if x∈o.op.operands then e x else .any) R.st (fun x=>by
  by_cases hx:x∈o.op.operands
  ·simp only[if_pos hx];exact he x hx
  ·simp only[if_neg hx,BJ,rd]) (hc.1.1 hp)
 rw[<-hc.2]at h3;refine⟨fun _ _=>trivial,?_⟩;rw[Oper.semAt_eq _ _ _ (fun c hc=>by rw[hc]at hp;simp only[Hu]at hp),h1,Oper.uponIn_value];exact hn _ _ _ loc hk (R.put (OX hd) h2 (fA _ _ h3))
theorem IJ_ {o:Oper} {c:Call} {g:FuncId} {args:List DVal} {e:Operand->DVal} {d d':DVal} {K:DS->Prop} {next:Act->World->Prop} {Q:Exit->Act->World->Prop} (R:Rel B s a w loc) (hd:CX B.nt o.dst=true) (ho:o.op= .call c) (he:∀x∈o.op.operands,BJ s loc B.M0 w (e x) (a.eval x))
  (hc:callee e c=some (g,args)) (hp:Ac P g args d) (hk:Dq d->K ⟨Ce s.slots o.dst d',s.own⟩) (fA:∀(w':World) (v:Value),rd (cu s loc) (hm s loc B.M0) w'.heap d v->rd (cu s loc) (hm s loc B.M0) w'.heap d' v) (hn:∀s' a' w' loc',K s'->Rel B s' a' w' loc'->next a' w'):o.wpIn (wd B.ro) 0 P a w next Q:=by
 obtain⟨vs,h1,h2⟩:=xJ (P:=P) (ρ:=a.eval) (M0:=B.M0) ho (fun x hx=>he x (by rw[ho];exact hx)) hc hp.1;refine⟨fun _ _=>trivial,?_⟩;rw[Oper.semAt_eq _ _ _ (fun c' pL=>by rw[ho]at pL;cases pL),h1,Oper.uponIn_enter];refine⟨fun h=>by simp[wd]at h,WU B.ro _ ?_⟩;refine(hp.2.2 (cu s loc) (hm s loc B.M0) w vs R.lt h2).mono ?_;rintro e w' ⟨v,rfl,hu,hr⟩;exact hn _ _ _ loc (hk (HP_ _ _ hr)) (R.put (OX hd) hu (fA _ _ hr))
theorem Rs {l:List (Nat×DVal)} {ρ:Operand->Value} {M0:List Nat} (hρ:∀x,BJ s loc M0 w (ev l x) (ρ x)):∀xs:List Operand,HA true (ev l) xs->∀x∈xs,BJ s loc M0 w (Bt l x) (ρ x)
 | [],_,x,hx=>by cases hx
 | y::ys,h,x,hx=>by
  simp only[HA]at h
  rcases aL0.1 hx with rfl | hx
  ·have:=hρ x;unfold Bt;cases hq:ev l x<;>rw[hq]at this h<;>simp only[LZ]<;>try exact this
   simp only[okG]at h;simp only[BJ,rd]at this;exact this.1 (h.1 trivial)
  ·exact Rs hρ ys h.2 x hx
theorem FR_ (x:DVal):Mq true x .any=x:=by
 cases x<;>try rfl
 rename_i c d;cases d<;>rfl
theorem FQ_ (y:DVal):Mq false .any y=y:=by
 cases y<;>rfl
theorem xT {cur:Gp} {M:List Nat} {h:Array Obj} {t:Bool} {x y:DVal} {v:Value} (qL:La t x y) (hv:rd cur M h (if t then x else y) v):rd cur M h (Mq t x y) v:=by
 unfold Mq
 split
 ·cases t<;>exact hv
 ·cases t
  ·simp only[La]at qL;simp only[aK0,if_false,rd]at hv |-;exact hv.1 (qL trivial)
  ·exact hv
 ·cases t
  ·exact hv
  ·simp only[La]at qL;simp only[if_true,rd]at hv |-;exact hv.1 (qL trivial)
 ·cases t<;>exact hv
theorem SE_ {l:List (Nat×DVal)} {ρ:Operand->Value} {M0:List Nat} {x:Operand} (hρ:BJ s loc M0 w (ev l x) (ρ x)) (h:okG true (ev l x)):BJ s loc M0 w (Bt l x) (ρ x):=by
 unfold Bt;cases hq:ev l x<;>rw[hq]at hρ h<;>simp only[LZ]<;>try exact hρ
 simp only[okG]at h;simp only[BJ,rd]at hρ;exact hρ.1 (h trivial)
theorem Ie_ {l:List (Nat×DVal)} {ρ:Operand->Value} {M0:List Nat} {op:Op} {own:List Ent} (hρ:∀x,BJ s loc M0 w (ev l x) (ρ x)) (qL:Mu true (ev l) op) (hp:Hu P own (Bt l) op) :
  ∃e':Operand->DVal,(∀x∈op.operands,BJ s loc M0 w (e' x) (ρ x))/\Hu P own e' op/\∀cur M h v,rd cur M h (Ck P own e' op) v->rd cur M h (Ck P own (Bt l) op) v:=by
 classical
 by_cases rP:∃x a b,op= .pick x a b
 ·obtain⟨x,a,b,rfl⟩:=rP;simp only[Mu]at qL;obtain⟨h1,h2⟩:=qL;simp only[Hu]at hp;cases hx:Bt l x<;>rw[hx]at hp<;>try exact hp.elim
  rename_i t;have h2:=h2 t hx;refine⟨fun y=>if okG true (ev l y)then Bt l y else .any,?_,?_,?_⟩
  ·intro y _;simp only
   split
   ·rename_i hy;exact SE_ (hρ y) hy
   ·simp only[BJ,rd]
  ·simp only[Hu,if_pos h1,hx];cases t
   ·rw[if_pos (h2.2 rfl)]
    split
    ·exact hp
    ·cases Bt l b<;>simp[La]
   ·rw[if_pos (h2.1 rfl)]
    split
    ·exact hp
    ·cases hsa:Bt l a<;>simp only[La]
  ·intro cur M h v;simp only[Ck,if_pos h1,hx];cases t
   ·rw[if_pos (h2.2 rfl)]
    split
    ·exact id
    ·rw[FQ_];exact fun hv=>xT hp hv
   ·rw[if_pos (h2.1 rfl)]
    split
    ·exact id
    ·rw[FR_];exact fun hv=>xT hp hv
 ·have kB:HA true (ev l) op.operands.toList:=by
   unfold Mu at qL
   split at qL
   ·exact absurd ⟨_,_,_,rfl⟩ rP
   ·exact qL
  exact⟨Bt l,fun x hx=>Rs hρ _ kB x (by simpa using hx),hp,fun _ _ _ _ h=>h⟩
theorem VW {ops:Array Oper} {j:Nat} {want:Bool} (R:Rel B s a w loc) (hg:gOK (Ci ops s j)=true):(yielded ops a.tmps j==some want)=gB (Ci ops s j) want:=by
 unfold Ci at hg |-
 cases ht:(ops[j]?).bind (·.dst)with
 | none=>simp[ht,gOK]at hg
 | some t =>
  simp only[ht]at hg |-;have hs:=R.sl t
  have hy:yielded ops a.tmps j=match a.tmps[t]? with | some (.bool b)=>some b | _=>none:=by
   unfold yielded;rw[ht];rfl
  have sR:a.tmps.getD t Go.undef=Go.undef->yielded ops a.tmps j=none:=by
   intro hs;rw[hy]
   cases hq:a.tmps[t]? with
   | none=>rfl
   | some v =>
    simp only[aW0,hq,cC0]at hs;subst hs;rfl
  have sH:∀b,a.tmps.getD t Go.undef= .bool b->yielded ops a.tmps j=some b:=by
   intro b hs;rw[hy]
   cases hq:a.tmps[t]? with
   | none=>simp[aW0,hq,Go.undef]at hs
   | some v =>
    simp only[aW0,hq,cC0]at hs;subst hs;rfl
  cases hd:BL s.slots t<;>rw[hd]at hg hs<;>try (simp[gOK]at hg;done)
  ·simp only[rd]at hs;rw[sR hs];cases want<;>rfl
  ·rename_i c d;cases d<;>try (simp[gOK]at hg;done)
   rename_i b;simp only[rd]at hs;cases c
   ·rw[sR (hs.2 rfl)];cases want<;>rfl
   ·rw[sH b (hs.1 rfl)];cases want<;>cases b<;>rfl
  ·rename_i b;simp only[rd]at hs;rw[sH b hs];cases want<;>cases b<;>rfl
end
section
variable {P : Program} {own : List Ent} {e e' : Operand -> DVal}
theorem Qt {c:Call} (h:∀x∈c.operands,e x=e' x):callee e c=callee e' c:=by
 unfold callee;have qF:c.args.toList.map e=c.args.toList.map e':=cR0 fun x hx=>h x (by simp[Call.operands];right;simpa using hx)
 cases hc:c.callee with
 | value f=>have hf:e f=e' f:=h f (by simp[Call.operands,hc]);simp only[hf,qF]
 | invoke r m=>rfl
 | builtin b=>rfl
theorem Vo {c:Bool} {op:Op} (h:∀x∈op.operands,e x=e' x) (hk:Mu c e op):Mu c e' op:=by
 have gen:∀xs:List Operand,(∀x∈xs,e x=e' x)->HA c e xs->HA c e' xs:=by
  intro xs
  induction xs with
  | nil=>intro _ _;trivial
  | cons x xs ih =>
   intro hx hq;simp only[HA]at hq |-;exact⟨by rw[<-hx x aF0];exact hq.1,ih (fun y hy=>hx y (aE0 _ hy)) hq.2⟩
 unfold Mu at hk |-
 split at hk
 ·rename_i x a b;simp only[Op.operands]at h;rw[h x (by simp),h a (by simp),h b (by simp)]at hk;exact hk
 ·exact gen _ (fun x hx=>h x (by simpa using hx)) hk
end
def ON (o:Oper) (acc:List Nat):Nat:=o.after.toList.foldl (fun s e=>if Region.binds .any e then s ||| 2 ^ e.on ||| acc.getD e.on 0 else s) 0
def EU : List Oper->List Nat->List Nat
 | [],acc=>acc
 | o::r,acc=>EU r (acc++[ON o acc])
def GQ_ (ops:Array Oper):Bool :=
 let m:=EU ops.toList []
 let zs:=ops.toList.zipIdx
 (zs.all fun p=>zs.all fun q=>p.1.dst==none||p.1.dst != q.1.dst||p.2==q.2) &&
 (zs.all fun p=>p.1.after.toList.all fun e=> !Region.binds .any e||decide (e.on<p.2)) &&
 zs.all fun p=>(p.1.looksAt ops).all fun t=>zs.all fun q=>q.1.dst != some t||(decide (q.2<p.2)&&(m.getD p.2 0).testBit q.2)||(decide (p.2<q.2)&&(m.getD q.2 0).testBit p.2)
structure DrawSpec (ops:Array Oper):Prop where
 one:∀(k k':Nat) (o o':Oper) (t:Nat),ops[k]? =some o->ops[k']? =some o'->o.dst=some t->o'.dst=some t->k=k'
 acy:∀(k:Nat) (o:Oper),ops[k]? =some o->∀e∈o.after,Region.binds .any e=true->e.on<k
 ord:∀(j:Nat) (o:Oper) (t:Nat),ops[j]? =some o->t∈o.looksAt ops->∀(k:Nat) (o':Oper),ops[k]? =some o'->o'.dst=some t ->
  (k<j/\((EU ops.toList []).getD j 0).testBit k=true)\/(j<k/\((EU ops.toList []).getD k 0).testBit j=true)
theorem SQ {ops:Array Oper} (h:GQ_ ops=true):DrawSpec ops:=by
 unfold GQ_ at h;simp only[aM0,bA0]at h;obtain⟨⟨h1,h2⟩,h3⟩:=h
 have mem:∀(k:Nat) (o:Oper),ops[k]? =some o->(o,k)∈ops.toList.zipIdx:=by
  intro k o hk;rw[List.mem_zipIdx_iff_getElem?];simpa using hk
 refine⟨?_,?_,?_⟩
 ·intro k k' o o' t hk zO ht bK;have:=h1 (o,k) (mem k o hk) (o',k') (mem k' o' zO);simpa[ht,bK]using this
 ·intro k o hk e he hb;have:=h2 (o,k) (mem k o hk) e (by simpa using he);simpa[hb]using this
 ·intro j o t hj ht k o' hk hd;have:=h3 (o,j) (mem j o hj) t ht (o',k) (mem k o' hk);simpa[hd]using this
theorem Vx (o:Oper) (acc:List Nat) (j:Nat) (h:(ON o acc).testBit j=true):∃e∈o.after.toList,Region.binds .any e=true/\(j=e.on\/(acc.getD e.on 0).testBit j=true):=by
 unfold ON at h
 have key:∀(l:List Edge) (s:Nat),(l.foldl (fun s e=>if Region.binds .any e then s ||| 2 ^ e.on ||| acc.getD e.on 0 else s) s).testBit j=true->s.testBit j=true\/∃e∈l,Region.binds .any e=true/\(j=e.on\/(acc.getD e.on 0).testBit j=true):=by
  intro l
  induction l with
  | nil=>intro s hs;exact .inl hs
  | cons e l ih =>
   intro s hs;simp only[cM0]at hs
   rcases ih _ hs with h1 | ⟨e',zT,h2⟩
   ·split at h1
    ·rename_i hb;rw[Nat.testBit_or,Nat.testBit_or,dI0,dI0]at h1
     rcases h1 with (h1 | h1) | h1
     ·exact .inl h1
     ·rw[Nat.testBit_two_pow]at h1;exact .inr ⟨e,aF0,hb,.inl (by simpa using h1:e.on=j).symm⟩
     ·exact .inr ⟨e,aF0,hb,.inr h1⟩
    ·exact .inl h1
   ·exact .inr ⟨e',aE0 _ zT,h2⟩
 rcases key _ 0 h with h1 | h1
 ·simp at h1
 ·exact h1
theorem Vw : ∀(l:List Oper) (acc:List Nat) (k:Nat),(EU l acc).getD k 0=if k<acc.length then acc.getD k 0 else match l[k-acc.length]? with | some o=>ON o ((EU l acc).take k) | none=>0
 | [],acc,k=>by
  simp only[EU]
  split
  ·rfl
  ·rename_i h;simp[aZ0,dH0 (by omega:acc.length<=k)]
 | o::r,acc,k=>by
  simp only[EU];rw[Vw r (acc++[ON o acc]) k]
  have pre:∀(l:List Oper) (a:List Nat),∃z,EU l a=a++z:=by
   intro l
   induction l with
   | nil=>intro a;exact⟨[],by simp[EU]⟩
   | cons o l ih=>intro a;obtain⟨z,hz⟩:=ih (a++[ON o a]);exact⟨_,by simp only[EU];rw[hz,aR0]⟩
  simp only[aC0,List.length_cons,List.length_nil,bX0]
  by_cases h1:k<acc.length
  ·rw[if_pos (by omega),if_pos h1];simp[aZ0,bC0 h1]
  ·rw[if_neg h1]
   by_cases h2:k=acc.length
   ·subst h2;rw[if_pos (by omega)];simp only[eA0,bF0];obtain⟨z,hz⟩:=pre r (acc++[ON o acc]);rw[hz];simp[aZ0]
   ·rw[if_neg (by omega)];have:k-acc.length=(k-(acc.length+1))+1:=by omega
    rw[this,bT0]
def HA_ (ops:Array Oper) (S:Nat->Bool):Prop:=∀k o,ops[k]? =some o->S k=true->∀e∈o.after,Region.binds .any e=true->S e.on=true
theorem WM {ops:Array Oper} {S:Nat->Bool} (hc:HA_ ops S):∀(k:Nat),S k=true->∀j,((EU ops.toList []).getD k 0).testBit j=true->S j=true:=by
 intro k
 induction k using Nat.strongRecOn with
 | _ k ih =>
  intro hk j hj;rw[Vw]at hj;simp only[List.length_nil,eV0,if_false,eT0]at hj
  split at hj
  ·rename_i o ho;obtain⟨e,he,hb,h1⟩:=Vx _ _ _ hj;have hS:=hc k o (by simpa using ho) hk e (by simpa using he) hb
   rcases h1 with rfl | h1
   ·exact hS
   ·by_cases qV:e.on<k
    ·refine ih e.on qV hS j ?_
     have:((EU ops.toList []).take k).getD e.on 0=(EU ops.toList []).getD e.on 0:=by
      simp[aZ0,cE0 qV]
     rwa[this]at h1
    ·have:((EU ops.toList []).take k).getD e.on 0=0:=by
      rw[aZ0,dH0 (by simp;omega)];rfl
     rw[this]at h1;simp at h1
  ·simp at hj
def HG (P:Program) (o:Oper) (own:List Ent) (e:Operand->DVal) (d:DVal):Prop :=
 (∃c g args,o.op= .call c/\callee e c=some (g,args)/\Ac P g args d)\/(Hu P own e o.op/\d=Ck P own e o.op)
def UT_ (P:Program) (nt:Nat) (ops:Array Oper) (o:Oper) (s:DS) (d:DVal):Prop :=
 CX nt o.dst=true/\match o.guard with
  | none=>HG P o s.own (ev s.slots) d
  | some (j,want)=>gOK (Ci ops s j)=true/\Mu (gB (Ci ops s j) want) (ev s.slots) o.op/\∃d',d= .sel (gB (Ci ops s j) want) d'/\(gB (Ci ops s j) want=true->HG P o s.own (Bt s.slots) d')
def Ta_ (P:Program) (nt:Nat) (o:Oper) (s:DS) (K:Cont):Prop :=
 CX nt o.dst=true/\match o.op with
  | .call c=>match callee (ev s.slots) c with
   | some (g,args)=>Bs P g args (kD K s o.dst)
   | none=>Hu P s.own (ev s.slots) o.op/\K.f ⟨Ce s.slots o.dst (Ck P s.own (ev s.slots) o.op),s.own⟩
  | op=>Hu P s.own (ev s.slots) op/\K.f ⟨Ce s.slots o.dst (Ck P s.own (ev s.slots) op),s.own⟩
def JM (l:List (Nat×DVal)):List (Oper×DVal)->List (Nat×DVal)
 | []=>l
 | (o,d)::r=>JM (Ce l o.dst d) r
def Fs (l:List (Nat×DVal)) (S:Nat->Bool):Nat->List (Oper×DVal)->List (Nat×DVal)
 | _,[]=>l
 | i,(o,d)::r=>if S i then Ce (Fs l S (i+1) r) o.dst d else Fs l S (i+1) r
theorem Ia (l:List (Nat×DVal)) (o:Option Nat) (d:DVal) (t:Nat):BL (Ce l o d) t=if o=some t then d else BL l t:=by
 cases o with
 | none=>simp[Ce]
 | some i =>
  simp only[Ce,BL,aA0]
  by_cases h:t=i
  ·subst h;simp
  ·rw[if_neg h,if_neg (fun h'=>h h'.symm)]
theorem Ch {l:List (Nat×DVal)} {S:Nat->Bool} {t:Nat}:∀(zs:List (Oper×DVal)) (i:Nat),(∀(k:Nat) (z:Oper×DVal),zs[k]? =some z->z.1.dst=some t->S (i+k)=false)->BL (Fs l S i zs) t=BL l t
 | [],_,_=>rfl
 | (o,d)::r,i,h=>by
  have ih:=Ch (l:=l) (S:=S) (t:=t) r (i+1) (fun k z hz hd=>by have:=h (k+1) z (by simpa using hz) hd;rwa[show i+1+k=i+(k+1) by omega]);simp only[Fs]
  split
  ·rename_i hS;rw[Ia,if_neg,ih];intro hd;have:=h 0 (o,d) (by simp) hd;rw[cT0]at this;rw[this]at hS;simp at hS
  ·exact ih
theorem EJ {l:List (Nat×DVal)} {S:Nat->Bool} {t:Nat}:∀(zs:List (Oper×DVal)) (i k:Nat) (z:Oper×DVal),zs[k]? =some z->z.1.dst=some t->S (i+k)=true->(∀(k':Nat) (z':Oper×DVal),zs[k']? =some z'->z'.1.dst=some t->k'=k)->BL (Fs l S i zs) t=z.2
 | [],_,_,_,hz,_,_,_=>by simp at hz
 | (o,d)::r,i,0,z,hz,hd,hS,_=>by
  simp only[bF0,aA0]at hz;subst hz;simp only[Fs];rw[cT0]at hS;rw[if_pos hS,Ia,if_pos hd]
 | (o,d)::r,i,k+1,z,hz,hd,hS,hu=>by
  have ih:=EJ (l:=l) (S:=S) (t:=t) r (i+1) k z (by simpa using hz) hd (by rwa[show i+1+k=i+(k+1) by omega]) (fun k' z' h1 h2=>by have:=hu (k'+1) z' (by simpa using h1) h2;omega);have qK:o.dst≠some t:=fun h=>by have:=hu 0 (o,d) (by simp) h;omega
  simp only[Fs]
  split
  ·rw[Ia,if_neg qK,ih]
  ·exact ih
theorem Ga {t:Nat}:∀(zs:List (Oper×DVal)) (l:List (Nat×DVal)),(∀z∈zs,z.1.dst≠some t)->BL (JM l zs) t=BL l t
 | [],_,_=>rfl
 | (o,d)::r,l,h=>by
  simp only[JM];rw[Ga r _ (fun z hz=>h z (aE0 _ hz)),Ia,if_neg (h (o,d) aF0)]
theorem MK {t:Nat}:∀(zs:List (Oper×DVal)) (l:List (Nat×DVal)) (k:Nat) (z:Oper×DVal),zs[k]? =some z->z.1.dst=some t->(∀(k':Nat) (z':Oper×DVal),zs[k']? =some z'->z'.1.dst=some t->k'=k)->BL (JM l zs) t=z.2
 | [],_,_,_,hz,_,_=>by simp at hz
 | (o,d)::r,l,0,z,hz,hd,hu=>by
  simp only[bF0,aA0]at hz;subst hz;simp only[JM];rw[Ga,Ia,if_pos hd];intro z' sD h;obtain⟨k',zO,rfl⟩:=bJ0 sD;have:=hu (k'+1) _ (by simp only[bT0];exact aD0 zO) h;omega
 | (o,d)::r,l,k+1,z,hz,hd,hu=>by
  simp only[JM];exact MK r _ k z (by simpa using hz) hd (fun k' z' h1 h2=>by have:=hu (k'+1) z' (by simpa using h1) h2;omega)
theorem Rel.congr {B:Base} {l l':List (Nat×DVal)} {own:List Ent} {a:Act} {w:World} {loc:Nat->Loc} (h:∀t,BL l' t=BL l t) (R:Rel B ⟨l,own⟩ a w loc):Rel B ⟨l',own⟩ a w loc :=
 ⟨R.st,R.upd,R.new,R.ver,fun i=>by have:=R.sl i;simp only at this |-;rw[h i];exact this,R.nt,R.df⟩
theorem oO (S:Nat->Bool) (i:Nat) (hi:S i=false):∀n,i<n->(List.range n).countP (fun k=>if k=i then true else S k)=(List.range n).countP S+1
 | 0,h=>by omega
 | n+1,h=>by
  have same:∀m,m<=i->(List.range m).countP (fun k=>if k=i then true else S k)=(List.range m).countP S:=by
   intro m hm;refine List.countP_congr fun k hk=> ?_
   have:k≠i:=by have:=cP0.1 hk;omega
   simp[this]
  rw[dE0,List.countP_append,List.countP_append]
  by_cases h':i<n
  ·rw[oO S i hi n h'];have:n≠i:=by omega
   simp[fR0,this];omega
  ·have:n=i:=by omega
   subst this;rw[same n (Nat.le_refl _)];simp[fR0,hi]
section
variable {P : Program} {B : Base} {s : DS}
theorem Pu_ {l l':List (Nat×DVal)} {x:Operand} (h:∀t,x= .tmp t->BL l t=BL l' t):ev l x=ev l' x:=by
 cases x<;>first | rfl | exact h _ rfl
end
def UR (P:Program) (s:DS):ResultVar->Option DVal
 | .tmp t=>some (BL s.slots t)
 | .cell a t=>match tAgg P t,tCells P t,EQ s.own (BL s.slots a)with
  | some true,some n,some cs=>if n<=cs.length then some (.agg (cs.take n))else none
  | some false,_,some cs=>match cs with | d::_=>some d | []=>none
  | _,_,_=>none
def FG_ (P:Program) (s:DS):List ResultVar->Option (List DVal)
 | []=>some []
 | r::rs=>match UR P s r,FG_ P s rs with
  | some d,some ds=>some (d::ds)
  | _,_=>none
def Td (P:Program) (s:DS) (rs:List ResultVar):Option DVal :=
 match FG_ P s rs with
 | some [d]=>some d
 | some ds=>some (.tup ds)
 | none=>none
def Rm (tmps:Array Value):ResultVar->Sem Value
 | .tmp t=>pure (tmps.getD t Go.undef)
 | .cell a t=>do loadVar t (<-asAddr (tmps.getD a Go.undef))
theorem FF_ (fn:Func) (tmps:Array Value):results fn tmps=(do let vs <-fn.results.mapM (Rm tmps);pure (if h:vs.size=1 then vs[0]else .tuple vs)):=by
 unfold results
 congr 1
section
variable {P : Program} {B : Base} {s : DS} {a : Act} {w : World} {loc : Nat -> Loc}
structure Reads (B:Base) (s:DS) (a:Act) (w:World) (loc:Nat->Loc):Prop where
 st:St s.own loc B.M0 w.heap
 sl:∀i,rd (Aj s.own loc) (Ad s.own loc++B.M0) w.heap (BL s.slots i) (a.tmps.getD i Go.undef)
theorem Fv_ (R:Reads B s a w loc) {r:ResultVar} {d:DVal} (h:UR P s r=some d) :
  ∃v,(Rm a.tmps r).run P w= .ok v w/\BJ s loc B.M0 w d v:=by
 cases r with
 | tmp t =>
  simp only[UR,aA0]at h;subst h;exact⟨_,rfl,R.sl t⟩
 | cell x t =>
  simp only[UR]at h;have hx:=R.sl x
  split at h
  ·rename_i n cs hb hn hc
   split at h
   ·rename_i vS;simp only[aA0]at h;subst h;obtain⟨ad,u,hv,h1,h2⟩:=RD (P:=P) R.st (b:=true) hb hx hc (fun _=>⟨n,hn,vS⟩) (by simp);exact⟨u,by simp only[Rm,hv];simp[asAddr,h1],by simpa[hn]using h2⟩
   ·simp at h
  ·rename_i cs hb hc
   split at h
   ·simp only[aA0]at h;subst h;obtain⟨ad,u,hv,h1,h2⟩:=RD (P:=P) R.st (b:=false) hb hx hc (by simp) (by simp);exact⟨u,by simp only[Rm,hv];simp[asAddr,h1],by simpa using h2⟩
   ·simp at h
  ·simp at h
theorem xI (R:Reads B s a w loc):∀(rs:List ResultVar) (ds:List DVal),FG_ P s rs=some ds ->
  ∃vs:List Value,(rs.mapM (m:=Sem) (Rm a.tmps)).run P w= .ok vs w/\AL (cu s loc) (hm s loc B.M0) w.heap ds vs
 | [],ds,h=>by
  simp only[FG_,aA0]at h;subst h;exact⟨[],by simp,by simp[AL]⟩
 | r::rs,ds,h=>by
  simp only[FG_]at h
  split at h
  ·rename_i d ds' hd hds;simp only[aA0]at h;subst h;obtain⟨v,h1,h2⟩:=Fv_ R hd;obtain⟨vs,h3,h4⟩:=xI R rs ds' hds;refine⟨v::vs,?_,by simp only[AL];exact⟨v,vs,rfl,h2,h4⟩⟩;rw[List.mapM_cons,Sem.run_bind,h1];simp[h3]
  ·simp at h
theorem NC_ (R:Reads B s a w loc) {fn:Func} {d:DVal} (h:Td P s fn.results.toList=some d):∃v,(results fn a.tmps).run P w= .ok v w/\BJ s loc B.M0 w d v:=by
 unfold Td at h
 cases hl:FG_ P s fn.results.toList with
 | none=>rw[hl]at h;simp at h
 | some ds =>
  rw[hl]at h;obtain⟨vs,h1,h2⟩:=xI R _ _ hl;have qZ:=AM _ _ h2
  have hm:(fn.results.mapM (m:=Sem) (Rm a.tmps)).run P w= .ok vs.toArray w:=by
   rw[<-Array.toArray_toList (xs:=fn.results),List.mapM_toArray,Sem.run_map,h1];rfl
  rw[FF_,Sem.run_bind,hm]
  match ds,vs,qZ,h2,h with
  | [d0],[v0],_,h2,h =>
   simp only[aA0]at h;subst h;simp only[AL]at h2;obtain⟨v,r,he,h5,_⟩:=h2;simp only[bL0]at he;obtain⟨rfl,rfl⟩:=he;exact⟨v0,by simp,h5⟩
  | [],[],_,h2,h =>
   simp only[aA0]at h;subst h;exact⟨.tuple #[],by simp,by simp only[BJ,rd];exact⟨#[],rfl,h2⟩⟩
  | d0::d1::ds,v0::v1::vs,_,h2,h =>
   simp only[aA0]at h;subst h;exact⟨.tuple (v0::v1::vs).toArray,by simp,by simp only[BJ,rd];exact⟨_,rfl,h2⟩⟩
end
def Ak : List DVal->Nat->List (Nat×DVal)
 | [],_=>[]
 | d::ds,i=>(i,d)::Ak ds (i+1)
theorem Zm : ∀(ds:List DVal) (i t:Nat),BL (Ak ds i) t=if t<i then .any else ds.getD (t-i) .any
 | [],i,t=>by simp[Ak,BL]
 | d::ds,i,t=>by
  simp only[Ak,BL]
  by_cases h:t=i
  ·subst h;simp
  ·rw[if_neg h,Zm ds (i+1) t]
   by_cases h1:t<i
   ·rw[if_pos h1,if_pos (by omega)]
   ·rw[if_neg h1,if_neg (by omega)];have:t-i=(t-(i+1))+1:=by omega
    rw[this,List.getD_cons_succ]
theorem St.same {own:List Ent} {loc:Nat->Loc} {M0:List Nat} {h h':Array Obj} (S:St own loc M0 h) (qM:h.size<=h'.size)
  (hd:∀(b:Nat) (o:Obj),IZ o=true->h[b]? =some o->h'[b]? =some o) (hb:∀(b:Nat) (o:Obj),b∈Ad own loc->h[b]? =some o->h'[b]? =some o):St own loc M0 h' where
 nd:=S.nd
 bl:=S.bl
 ap:=S.ap
 lt:=fun b hb=>cN0 (S.lt b hb) qM
 ok:=by
  intro e he
  have W:Weak (Aj own loc) (Aj own loc) (Ad own loc++M0) (Ad own loc++M0) h h' (GC e.obj) :=
   ⟨fun _ _ _ _ h=>h,fun b o _ (h1:IZ o=true) h2=>hd b o h1 h2,fun b o hb (_:IZ o=true) _=>hb⟩
  exact BF W (Nat.le_refl _) (fun b o hm ho=>hb b o (Bw he hm) ho) (S.ok e he)
def JQ (P:Program) (f:Fn) (vs:Array Value) (w:World) (R:Value->World->Prop):Prop :=
 match f with
 | .func g=>Enters P g/\Calls P g vs w fun e w'=>∃v,e= .returned v/\R v w'
 | .yield l=>∃fn tmps assign body,(Instr.yield l vs).run P w= .ok (.round l fn tmps assign body) w/\RoundIn (wd none) 0 P l fn tmps assign body w fun e w'=>∃v,e= .returned v/\R v w'
 | _=>False
theorem JQ.mono {P:Program} {f:Fn} {vs:Array Value} {w:World} {R R':Value->World->Prop} (h:JQ P f vs w R) (hr:∀v w',R v w'->R' v w'):JQ P f vs w R':=by
 cases f with
 | func g=>exact⟨h.1,h.2.mono fun e w' ⟨v,he,hR⟩=>⟨v,he,hr _ _ hR⟩⟩
 | yield l =>
  obtain⟨fn,tmps,assign,body,h1,h2⟩:=h;exact⟨fn,tmps,assign,body,h1,h2.mono fun e w' ⟨v,he,hR⟩=>⟨v,he,hr _ _ hR⟩⟩
 | method n=>exact h.elim
 | methodOf t n=>exact h.elim
 | via t p f q=>exact h.elim
def MH_ (P:Program) (fn:Func) (K:DS->DVal->Prop):Exit->DS->Prop
 | .normal,s=>∃d0,Td P s fn.results.toList=some d0/\K s d0
 | .ret,s=>∃d0,Td P s fn.results.toList=some d0/\K s d0
 | _,_=>False
theorem PV {P:Program} {fn:Func} {tmps:Array Value} {R:Ending->World->Prop}:∀(rs:List Nat) (w:World),rs.Nodup->(∀r∈rs,w.heap[r]? =some (.deferred (some []))) ->
  (∀w',Upd rs w w'->w'.heap.size=w.heap.size->∃v,(results fn tmps).run P w'= .ok v w'/\R (.returned v) w') ->
  LeavesInM (wd none) 0 P fn tmps R (rs.map fun r=>{ target:= .collected r,args:= #[] }) .returning w
 | [],w,_,_,h=>h w (Upd.refl _ _) rfl
 | r::rs,w,hn,hr,h=>by
  simp only[cW0]at hn;refine⟨by simp,.inl ⟨r,w.putObj r (.deferred none),rfl,run_takeDeferred (hr r aF0),?_⟩⟩;refine PV rs _ hn.2 (fun r' qC=> ?_) (fun w' hu hs=>h w' ?_ ?_)
  ·rw[World.putObj_heap_other (fun h=>hn.1 (by rw[h]at qC;exact qC))];exact hr r' (aE0 _ qC)
  ·have sC:Upd [r] w (w.putObj r (.deferred none)) :=
    ⟨rfl,rfl,rfl,fun _=>Nat.le_refl _,by simp[World.putObj],fun b _ hb=>World.putObj_heap_other (fun h=>hb (by simp[h]))⟩
   refine(show Upd (r::rs) w w' from ?_);refine⟨hu.os,hu.tape,hu.output,hu.drawn,Nat.le_trans sC.size hu.size,fun b hb rJ=> ?_⟩;rw[hu.blk b (cN0 hb sC.size) (fun h=>rJ (aE0 _ h)),sC.blk b hb (fun h=>rJ (by simp at h;simp[h]))]
  ·rw[hs];simp[World.putObj]
theorem Rc {P:Program} {f:FuncId} {fn:Func} {c:Code} {args:List DVal} {own:List Ent} {M:List Nat} {w:World} {loc:Nat->Loc} {vs:Array Value} {N:Nat} {R:Value->World->Prop} {K:DS->DVal->Prop} (hN:N<=1)
  (hf:P.funcs[f]? =some fn) (hb:fn.body=some c) (zZ:Enters P f) (qX:args.length<=fn.ntmps) (S:St own loc M w.heap) (hv:∀e∈own,e.r<N->True)
  (hr:AL (Aj own loc) (Ad own loc++M) w.heap args vs.toList)
  (h:∀B:Base,B.nt=fn.ntmps/\B.ro=none->DW P B c (MH_ P fn K) ⟨Ak args 0,own⟩)
  (fin:∀(s:DS) (loc':Nat->Loc) (w':World) (d0:DVal) (v:Value),K s d0->St s.own loc' M w'.heap->Upd (Ad own loc) w w'->(∀b∈Ad s.own loc',b∈Ad own loc\/w.heap.size<=b) ->
   (∀e∈s.own,e.r<N->Aj own loc e.id e.r=some (loc' e.id))->rd (Aj s.own loc') (Ad s.own loc'++M) w'.heap d0 v->R v w'):JQ P (.func f) vs w R:=by
 refine⟨zZ,?_⟩;refine(callsIn_wide (n:=0)).1 ?_;refine callsIn_of_wp_marks hf hb trivial ?_ rfl
 let B:Base:=⟨own,loc,M,N,w,fn.ntmps,none,hN,w.heap.size,Nat.le_refl _⟩
 have qZ:=AM _ _ hr
 have R0:Rel B ⟨Ak args 0,own⟩ { tmps:=vs++Array.replicate (fn.ntmps-vs.size) Go.undef,defers:=[] } w loc:=by
  refine⟨S,Upd.refl _ _,fun b hb=> .inl hb,fun e he _=>Ba S.nd he,?_,by show _=fn.ntmps;simp at qZ |-;omega,⟨[],rfl,List.nodup_nil,by simp⟩⟩;intro i;rw[Zm];simp only[eV0,if_false,eT0]
  cases hi:args[i]? with
  | none=>simp[aZ0,hi,rd]
  | some d0 =>
   obtain⟨v,hv,h1⟩:=UW _ _ i d0 hr hi
   have qV:i<vs.size:=by
    have:=(aB0.1 hv).1;simpa using this
   have bI:vs[i]? =some v:=by simpa using hv
   rw[aZ0,hi,aW0,dV0 qV,bI];exact h1
 refine wpIn_mono (h B ⟨rfl,rfl⟩ _ w loc R0) ?_;rintro e a' w' ⟨s',loc',hq,R'⟩
 have key:(∃d0,Td P s' fn.results.toList=some d0/\K s' d0)->LeavesInM (wd none) 0 P fn a'.tmps (fun e w'=>∃v,e= .returned v/\R v w') a'.defers .returning w':=by
  rintro⟨d0,hres,hK⟩;obtain⟨rs,hd1,bN,hd2,_⟩:=R'.df;rw[hd1];refine PV rs w' bN (fun r hr=>(hd2 r hr).1) fun w'' hu hs=> ?_
  have hdd:∀(b:Nat) (o:Obj),IZ o=true->w'.heap[b]? =some o->w''.heap[b]? =some o:=by
   intro b o ho hb;have qV:=(aH0.1 hb).1;rw[hu.blk b qV (fun h=>by rw[(hd2 b h).1]at hb;simp only[aA0]at hb;subst hb;simp[IZ]at ho)];exact hb
  have wO:∀(b:Nat) (o:Obj),b∈Ad s'.own loc'->w'.heap[b]? =some o->w''.heap[b]? =some o:=by
   intro b o hm hb;have qV:=(aH0.1 hb).1;rw[hu.blk b qV (fun h=>(hd2 b h).2.2 (aS0 _ hm))];exact hb
  have S'':=R'.st.same (dP0 hs.symm) hdd wO
  have W:∀n,Weak (Aj s'.own loc') (Aj s'.own loc') (Ad s'.own loc'++M) (Ad s'.own loc'++M) w'.heap w''.heap n:=fun n =>
   ⟨fun _ _ _ _ h=>h,fun b o _ (h1:IZ o=true) h2=>hdd b o h1 h2,fun b o hb (_:IZ o=true) _=>hb⟩
  have RR:Reads B s' a' w'' loc':=⟨S'',fun i=>Db (W _) _ _ (Nat.le_refl _) (R'.sl i)⟩;obtain⟨v,h1,h2⟩:=NC_ RR hres;refine⟨v,h1,v,rfl,fin s' loc' w'' d0 v hK S'' ?_ R'.new R'.ver h2⟩;refine R'.upd.trans hu (fun x hx=> .inr (hd2 x hx).2.1)
 cases e<;>simp only[MH_]at hq<;>first
  | exact key hq
  | exact hq.elim
def Uk_ (P:Program) (fn:Func) (d:DVal):Exit->DS->Prop:=MH_ P fn fun _ d0=>∀cur M h v,rd cur M h d0 v->rd cur M h d v
theorem uH {P:Program} {f:FuncId} {fn:Func} {c:Code} {args:List DVal} {d:DVal} {K:DS->DVal->Prop} (hf:P.funcs[f]? =some fn) (hb:fn.body=some c) (zZ:Enters P f) (qX:args.length<=fn.ntmps)
  (hd:mx d=0) (fin:∀(B:Base) (s:DS) (d0:DVal) (loc:Nat->Loc) (w:World) (v:Value),K s d0->St s.own loc B.M0 w.heap->rd (Aj s.own loc) (Ad s.own loc++B.M0) w.heap d0 v->∃(s':DS) (loc':Nat->Loc),(∀b,b∈B.M0->b∈Ad s'.own loc'++B.M0)/\rd (Aj s'.own loc') (Ad s'.own loc'++B.M0) w.heap d v)
  (h:Gj args->∀B:Base,B.nt=fn.ntmps/\B.ro=none->DW P B c (MH_ P fn K) ⟨Ak args 0,[]⟩):Ac P f args d:=by
 refine⟨zZ,hd,fun cur M w vs hM hr=> ?_⟩
 have W:Weak cur (Aj [] fun _=>⟨[],Go.undef⟩) M (Ad [] (fun _=>⟨[],Go.undef⟩)++M) w.heap w.heap (AV args) :=
  ⟨fun id r l _ hl=>by simp[Aj,Ax]at hl,fun b o _ _ ho=>ho,fun b o hb _ _=>by simpa[Ad]using hb⟩
 have S:St [] (fun _=>⟨[],Go.undef⟩) M w.heap:=⟨by simp,by simp[Ad],by simp[Ad],by simpa[Ad]using hM,by simp⟩;have:=Rc (P:=P) (R:=fun v w'=>Upd [] w w'/\rd cur M w'.heap d v) (cV0 1) hf hb zZ qX S (by simp) (Bn W args _ (Nat.le_refl _) hr) (h (Ip _ _ hr)) ?_
 ·exact this.2
 ·intro s loc' w' d0 v hK hS hu _ _ bN;refine⟨by simpa[Ad]using hu,?_⟩;obtain⟨s1,loc1,dQ,h1⟩:=fin ⟨[],loc',M,0,w,0,none,by decide,w.heap.size,Nat.le_refl _⟩ s d0 loc' w' v hK hS bN;exact Db (n:=0) ⟨fun id r l hr=>by omega,fun b o _ _ ho=>ho,fun b o hb _ _ zA=>hb (dQ b zA)⟩ d v (by omega) h1
theorem uG {P:Program} {f:FuncId} {fn:Func} {c:Code} {args:List DVal} {d:DVal} (hf:P.funcs[f]? =some fn) (hb:fn.body=some c) (zZ:Enters P f) (qX:args.length<=fn.ntmps)
  (hd:mx d=0) (h:Gj args->∀B:Base,B.nt=fn.ntmps/\B.ro=none->DW P B c (Uk_ P fn d) ⟨Ak args 0,[]⟩):Ac P f args d :=
 uH hf hb zZ qX hd (fun B s d0 loc w v hK _ bN=>⟨s,loc,fun b hb=>aV0 _ hb,hK _ _ _ _ bN⟩) h
theorem Fh (e:Ent) (l:List Ent) (loc:Nat->Loc):Ad (e::l) loc=(loc e.id).blks++Ad l loc:=by simp[Ad]
theorem HP {loc:Nat->Loc}:∀{own:List Ent},(Ad own loc).Nodup->∀e1∈own,∀e2∈own,∀b,b∈(loc e1.id).blks->b∈(loc e2.id).blks->e1=e2
 | [],_,e1,h1,_,_,_,_,_=>by cases h1
 | e::l,hn,e1,h1,e2,h2,b,qE,qP=>by
  rw[Fh,cB0]at hn;obtain⟨_,jV,rV⟩:=hn
  rcases aL0.1 h1 with rfl | kY
  ·rcases aL0.1 h2 with rfl | yU
   ·rfl
   ·exact absurd rfl (rV b qE b (Bw yU qP))
  ·rcases aL0.1 h2 with rfl | yU
   ·exact absurd rfl (rV b qP b (Bw kY qE))
   ·exact HP jV e1 kY e2 yU b qE qP
theorem EM {loc:Nat->Loc}:∀{own:List Ent},(Ad own loc).Nodup->∀e∈own,((loc e.id).blks).Nodup
 | [],_,e,h=>by cases h
 | a::l,hn,e,h=>by
  rw[Fh,cB0]at hn
  rcases aL0.1 h with rfl | h'
  ·exact hn.1
  ·exact EM hn.2.1 e h'
theorem Fg {own:List Ent} {loc:Nat->Loc} (hn:(Ad own loc).Nodup):∀l:List Ent,(l.map (·.id)).Nodup->(∀e∈l,e∈own)->(Ad l loc).Nodup
 | [],_,_=>by simp[Ad]
 | e::l,hd,hm=>by
  simp only[List.map_cons,cW0]at hd;rw[Fh,cB0];refine⟨EM hn e (hm e aF0),Fg hn l hd.2 (fun x hx=>hm x (aE0 _ hx)),?_⟩;intro b hb b' qG fM;subst fM;obtain⟨e2,zN,qP⟩:=bV0.1 qG;have:=HP hn e (hm e aF0) e2 (hm e2 (aE0 _ zN)) b hb qP;subst this;exact hd.1 (dF0 (f:=(·.id)) zN)
def upE (own:List Ent) (id r:Nat) (obj:DObj):List Ent:=⟨id,r,obj⟩::DH own id
def DM (loc:Nat->Loc) (id:Nat) (L:Loc):Nat->Loc:=fun j=>if j=id then L else loc j
theorem BZ {own:List Ent} {id:Nat} {e:Ent}:e∈DH own id↔e∈own/\e.id≠id:=by
 induction own with
 | nil=>simp[DH]
 | cons a t ih =>
  simp only[DH]
  split
  ·rename_i h;rw[ih,aL0]
   constructor
   ·rintro⟨h1,h2⟩;exact⟨.inr h1,h2⟩
   ·rintro⟨rfl | h1,h2⟩
    ·exact absurd h h2
    ·exact⟨h1,h2⟩
  ·rename_i h;rw[aL0,ih,aL0]
   constructor
   ·rintro (rfl | ⟨h1,h2⟩)
    ·exact⟨.inl rfl,h⟩
    ·exact⟨.inr h1,h2⟩
   ·rintro⟨rfl | h1,h2⟩
    ·exact .inl rfl
    ·exact .inr ⟨h1,h2⟩
theorem Ft {own:List Ent} {id:Nat} (h:(own.map (·.id)).Nodup):((DH own id).map (·.id)).Nodup:=by
 induction own with
 | nil=>simp[DH]
 | cons a t ih =>
  simp only[List.map_cons,cW0]at h;simp only[DH]
  split
  ·exact ih h.2
  ·simp only[List.map_cons,cW0];refine⟨fun hm=> ?_,ih h.2⟩;obtain⟨e,he,h1⟩:=aU0.1 hm;exact h.1 (aU0.2 ⟨e,(BZ.1 he).1,h1⟩)
theorem Bm_ {α β:Type} {f g:α->List β}:∀{l:List α},(∀x∈l,f x=g x)->l.flatMap f=l.flatMap g
 | [],_=>rfl
 | a::l,h=>by
  rw[cS0,cS0,h a aF0,Bm_ (fun x hx=>h x (aE0 _ hx))]
theorem VQ {own:List Ent} {loc:Nat->Loc} {id:Nat} {L:Loc}:Ad (DH own id) (DM loc id L)=Ad (DH own id) loc:=by
 unfold Ad;refine Bm_ fun e he=> ?_
 have:=(BZ.1 he).2;simp[DM,this]
theorem TY {own:List Ent} {loc:Nat->Loc} {id:Nat} {b:Nat} (h:b∈Ad (DH own id) loc):∃e∈own,e.id≠id/\b∈(loc e.id).blks:=by
 obtain⟨e,he,h1⟩:=bV0.1 h;have:=BZ.1 he;exact⟨e,this.1,this.2,h1⟩
theorem St.up {own:List Ent} {loc:Nat->Loc} {M0:List Nat} {w w':World} {id r:Nat} {obj:DObj} {L:Loc} {n:Nat}
  (S:St own loc M0 w.heap) (qM:w.heap.size<=w'.heap.size) (hLn:L.blks.Nodup)
  (bQ:∀b,b<w.heap.size->(∀e∈own,e.id=id->b∉(loc id).blks)->w'.heap[b]? =w.heap[b]?)
  (hL:∀b,b∈L.blks->b<w'.heap.size/\((∃e∈own,e.id=id/\b∈(loc id).blks)\/w.heap.size<=b))
  (hr:n<=r\/Aj own loc id r=some L) (hn:Jc own<=n)
  (vX:Nh (Aj (upE own id r obj) (DM loc id L)) (Ad (upE own id r obj) (DM loc id L)++M0) w'.heap L obj) :
  St (upE own id r obj) (DM loc id L) M0 w'.heap/\(∀b∈Ad (upE own id r obj) (DM loc id L),b∈Ad own loc\/w.heap.size<=b) /\
   (∀e∈upE own id r obj,e.r<n->Aj own loc e.id e.r=some (DM loc id L e.id))/\(∀b,b<w.heap.size->b∉Ad own loc->w'.heap[b]? =w.heap[b]?):=by
 have wV:∀b∈Ad (upE own id r obj) (DM loc id L),b∈Ad own loc\/w.heap.size<=b:=by
  intro b hb;obtain⟨e,he,h1⟩:=bV0.1 hb
  rcases aL0.1 he with rfl | he
  ·simp only[DM,if_true]at h1
   rcases (hL b h1).2 with ⟨e,he,hid,h2⟩ | h2
   ·exact .inl (Bw he (by rw[hid];exact h2))
   ·exact .inr h2
  ·have:=BZ.1 he;simp only[DM,if_neg this.2]at h1;exact .inl (Bw this.1 h1)
 have yQ:∀e∈upE own id r obj,e.r<n->Aj own loc e.id e.r=some (DM loc id L e.id):=by
  intro e he qV
  rcases aL0.1 he with rfl | he
  ·simp only[DM,if_true]
   rcases hr with h | h
   ·simp only at qV;omega
   ·exact h
  ·have:=BZ.1 he;simp only[DM,if_neg this.2];exact Ba S.nd this.1
 have hblk:∀b,b<w.heap.size->b∉Ad own loc->w'.heap[b]? =w.heap[b]? :=fun b hb rJ=>bQ b hb (fun e he hid h=>rJ (Bw he (by rw[hid];exact h)))
 refine⟨⟨?_,?_,?_,?_,?_⟩,wV,yQ,hblk⟩
 ·simp only[upE,List.map_cons,cW0];refine⟨fun hm=> ?_,Ft S.nd⟩;obtain⟨e,he,h1⟩:=aU0.1 hm;exact(BZ.1 he).2 h1
 ·unfold upE;rw[Fh,VQ,cB0];simp only[DM,if_true];refine⟨hLn,Fg S.bl _ (Ft S.nd) (fun e he=>(BZ.1 he).1),?_⟩;intro b hb b' qG fM;subst fM;obtain⟨e,he,qK,h1⟩:=TY qG
  rcases (hL b hb).2 with ⟨e2,zN,hid,h2⟩ | h2
  ·have:=HP S.bl e he e2 zN b h1 (by rw[hid];exact h2);subst this;exact qK hid
  ·have:=S.lt b (aS0 _ (Bw he h1));omega
 ·intro b hb hm
  rcases wV b hb with h | h
  ·exact S.ap b h hm
  ·have:=S.lt b (aV0 _ hm);omega
 ·intro b hb
  rcases aI0.1 hb with h | h
  ·obtain⟨e,he,h1⟩:=bV0.1 h
   rcases aL0.1 he with rfl | he
   ·simp only[DM,if_true]at h1;exact(hL b h1).1
   ·have:=BZ.1 he;simp only[DM,if_neg this.2]at h1;exact cN0 (S.lt b (aS0 _ (Bw this.1 h1))) qM
  ·exact cN0 (S.lt b (aV0 _ h)) qM
 ·intro e he
  rcases aL0.1 he with rfl | he
  ·simpa[DM]using vX
  ·have qO:=BZ.1 he;simp only[DM,if_neg qO.2];have hU:Upd (Ad own loc) w ⟨w'.heap,w.tape,w.drawn,w.os,w.output⟩:=⟨rfl,rfl,rfl,fun _=>Nat.le_refl _,qM,hblk⟩
   have W:Weak (Aj own loc) (Aj (upE own id r obj) (DM loc id L)) (Ad own loc++M0) (Ad (upE own id r obj) (DM loc id L)++M0) w.heap w'.heap n :=
    Gt (w':=⟨w'.heap,w.tape,w.drawn,w.os,w.output⟩) hU wV yQ
   have zE:=(BG qO.1).2
   have keep:∀b o,b∈(loc e.id).blks->w.heap[b]? =some o->w'.heap[b]? =some o:=by
    intro b o hb ho;rw[bQ b (aH0.1 ho).1 (fun e2 zN hid h2=> ?_)]
    ·exact ho
    ·have:=HP S.bl e qO.1 e2 zN b hb (by rw[hid];exact h2);subst this;exact qO.2 hid
   exact BF W (by omega) keep (S.ok e qO.1)
section
variable {P : Program} {B : Base} {s : DS} {a : Act} {w : World} {loc : Nat -> Loc}
def CL (B:Base) (s:DS):Nat:=max B.N (max (Nv s.slots) (Jc s.own))
theorem Rel.up {w':World} {id r:Nat} {obj:DObj} {L:Loc} {v:Value} {d:DVal} {dst:Option Nat} {n:Nat}
  (R:Rel B s a w loc) (qS:CL B s<=n) (wY:∀i,dst=some i->i<B.nt) (hw:Upd (Ad s.own loc) w w')
  (bQ:∀b,b<w.heap.size->(∀e∈s.own,e.id=id->b∉(loc id).blks)->w'.heap[b]? =w.heap[b]?)
  (hL:∀b,b∈L.blks->b<w'.heap.size/\((∃e∈s.own,e.id=id/\b∈(loc id).blks)\/w.heap.size<=b))
  (hr:n<=r\/Aj s.own loc id r=some L)
  (vX:Nh (Aj (upE s.own id r obj) (DM loc id L)) (Ad (upE s.own id r obj) (DM loc id L)++B.M0) w'.heap L obj)
  (hd:rd (Aj (upE s.own id r obj) (DM loc id L)) (Ad (upE s.own id r obj) (DM loc id L)++B.M0) w'.heap d v) (hLn:L.blks.Nodup:=by simp) :
  Rel B ⟨Ce s.slots dst d,upE s.own id r obj⟩ (a.put dst v) w' (DM loc id L):=by
 unfold CL at qS;obtain⟨h1,h2,h3,_⟩:=R.st.up hw.size hLn bQ hL hr (by omega) vX;exact R.step (n:=n) (by omega) (by omega) wY h1 hw h2 h3 hd
theorem Rel.weakUp {w':World} {id r:Nat} {obj:DObj} {L:Loc} {n:Nat} (R:Rel B s a w loc) (qS:CL B s<=n) (hw:Upd (Ad s.own loc) w w')
  (hL:∀b,b∈L.blks->b<w'.heap.size/\((∃e∈s.own,e.id=id/\b∈(loc id).blks)\/w.heap.size<=b))
  (hr:n<=r\/Aj s.own loc id r=some L):Weak (cu s loc) (Aj (upE s.own id r obj) (DM loc id L)) (hm s loc B.M0) (Ad (upE s.own id r obj) (DM loc id L)++B.M0) w.heap w'.heap n:=by
 refine Gt hw ?_ ?_
 ·intro b hb;obtain⟨e,he,h1⟩:=bV0.1 hb
  rcases aL0.1 he with rfl | he
  ·simp only[DM,if_true]at h1
   rcases (hL b h1).2 with ⟨e,he,hid,h2⟩ | h2
   ·exact .inl (Bw he (by rw[hid];exact h2))
   ·exact .inr h2
  ·have:=BZ.1 he;simp only[DM,if_neg this.2]at h1;exact .inl (Bw this.1 h1)
 ·intro e he qV
  rcases aL0.1 he with rfl | he
  ·simp only[DM,if_true]
   rcases hr with h | h
   ·simp only at qV;omega
   ·exact h
  ·have:=BZ.1 he;simp only[DM,if_neg this.2];exact Ba R.st.nd this.1
theorem EL (id r:Nat) (obj:DObj) (own:List Ent) (loc:Nat->Loc) (L:Loc):Aj (upE own id r obj) (DM loc id L) id r=some L:=by
 simp[Aj,upE,Ax,DM]
theorem Iq {cur:Gp} {M:List Nat} {H:Array Obj}:∀(cs:List DVal) (us pre post:List Value),AL cur M H cs us->(∀u∈us,u.oneCell'=true)->ET cur M H cs (pre++us++post).toArray pre.length
 | [],_,_,_,_,_=>by simp[ET]
 | d::ds,us,pre,post,hr,ho=>by
  simp only[AL]at hr;obtain⟨v,r,rfl,h1,h2⟩:=hr;simp only[ET];refine⟨⟨v,by simp,ho v aF0,h1⟩,?_⟩;have:=Iq ds r (pre++[v]) post h2 (fun u hu=>ho u (aE0 _ hu));simpa using this
theorem Upd.alloc' (H:List Nat) (w:World) (o:Obj):Upd H w (w.alloc o):=Upd.alloc H w o
theorem Rel.newBox {id n:Nat} {cs:List DVal} {us:List Value} {ty:TypeId} {dst:Option Nat} (R:Rel B s a w loc) (qS:CL B s<=n) (zE:AV cs<=n) (wY:∀i,dst=some i->i<B.nt)
  (zF:AL (cu s loc) (hm s loc B.M0) w.heap cs us) (wW:∀u∈us,u.oneCell'=true) :
  Rel B ⟨Ce s.slots dst (.bx id n 0),upE s.own id n (.box cs)⟩ (a.put dst (.pointer (some ⟨w.heap.size,0,none⟩))) (w.alloc (.cells us.toArray ty)) (DM loc id ⟨[w.heap.size],Go.undef⟩):=by
 have hw:=Upd.alloc' (Ad s.own loc) w (.cells us.toArray ty)
 have hL:∀b,b∈(⟨[w.heap.size],Go.undef⟩:Loc).blks->b<(w.alloc (.cells us.toArray ty)).heap.size/\((∃e∈s.own,e.id=id/\b∈(loc id).blks)\/w.heap.size<=b):=by
  intro b hb;simp only[aG0]at hb;subst hb;exact⟨by simp,.inr (Nat.le_refl _)⟩
 have W:=R.weakUp (obj:= .box cs) qS hw hL (.inl (Nat.le_refl _));refine R.up qS wY hw (fun b hb _=>by simp only[World.alloc,bZ0];rw[if_neg (by omega)]) hL (.inl (Nat.le_refl _)) ?_ ?_
 ·refine⟨w.heap.size,us.toArray,ty,rfl,heap_alloc_new w _,by have:=AM _ _ zF;simpa using this,?_⟩;have:=Iq cs us [] [] (Bn W cs us zE zF) wW;simpa using this
 ·simp only[rd];intro l hl;rw[EL]at hl;simp only[aA0]at hl;subst hl;exact⟨_,rfl,rfl⟩
theorem Pw {b off:Nat} {arr:Array Value} {ty t:TypeId} {v:Value} (hh:w.heap[b]? =some (.cells arr ty (0,0))) (hc:tCells P t=some v.cells.size) (zB:off+v.cells.size<=arr.size) (wW:∀u∈v.cells.toList,u.oneCell'=true) :
  (Instr.storeAt t (.pointer (some ⟨b,off,none⟩)) v).run P w= .ok () (w.setRow b (arr.toList.take off++v.cells.toList++arr.toList.drop (off+v.cells.size)).toArray):=by
 have qD:=run_storeCells_at P b off ty v.cells.toList 0 arr w hh (by simpa using zB) wW;simp only[cT0,bU0]at qD;simp[Instr.storeAt,Instr.sureAddr,storeVar,DJ hc,qD]
theorem Upd.setRow {own:List Ent} {loc:Nat->Loc} {e:Ent} {b:Nat} (he:e∈own) (hb:b∈(loc e.id).blks) (w:World) (cs:Array Value):Upd (Ad own loc) w (w.setRow b cs) :=
 ⟨rfl,rfl,rfl,fun _=>Nat.le_refl _,by simp,fun b' _ hn=>setRow_other w b b' cs (fun h=>hn (by rw[h];exact Bw he hb))⟩
theorem DB {cur:Gp} {M:List Nat} {H:Array Obj}:∀(cs:List DVal) (arr arr':Array Value) (o o':Nat),(∀j,j<cs.length->arr'[o'+j]? =arr[o+j]?)->ET cur M H cs arr o->ET cur M H cs arr' o'
 | [],_,_,_,_,_,_=>by simp[ET]
 | d::cs,arr,arr',o,o',h,hr=>by
  simp only[ET]at hr |-;obtain⟨⟨v,h1,h2,h3⟩,h4⟩:=hr;refine⟨⟨v,by have:=h 0 (by simp);simp only[cT0]at this;rw[this];exact h1,h2,h3⟩,DB cs arr arr' (o+1) (o'+1) (fun j hj=> ?_) h4⟩;have:=h (j+1) (by simp;omega)
  rwa[show o'+(j+1)=o'+1+j by omega,show o+(j+1)=o+1+j by omega]at this
theorem PG {cur:Gp} {M:List Nat} {H:Array Obj}:∀(a b:List DVal) (arr:Array Value) (o:Nat),ET cur M H a arr o->ET cur M H b arr (o+a.length)->ET cur M H (a++b) arr o
 | [],b,arr,o,_,h=>by simpa using h
 | d::a,b,arr,o,h1,h2=>by
  simp only[ET,List.cons_append]at h1 |-;refine⟨h1.1,PG a b arr (o+1) h1.2 ?_⟩;simpa[dA0,Nat.add_comm 1]using h2
theorem Ld : ∀(a b:List DVal),AV (a++b)=max (AV a) (AV b)
 | [],b=>by simp[AV]
 | d::a,b=>by simp only[List.cons_append,AV,Ld a b];omega
theorem PN : ∀(n:Nat) (a:List DVal),AV (a.take n)<=AV a
 | 0,a=>by simp[AV]
 | n+1,[]=>by simp[AV]
 | n+1,d::a=>by simp only[dL0,AV];have:=PN n a;omega
theorem Iz : ∀(n:Nat) (a:List DVal),AV (a.drop n)<=AV a
 | 0,a=>by simp
 | n+1,[]=>by simp
 | n+1,d::a=>by simp only[eF0,AV];have:=Iz n a;omega
theorem Nm (cells:List DVal) (off:Nat) (cs:List DVal):AV (EF cells off cs)<=max (AV cells) (AV cs):=by
 unfold EF;rw[Ld,Ld];have:=PN off cells;have:=Iz (off+cs.length) cells;omega
theorem SL (l:List (Nat×DVal)) (x:Operand):mx (ev l x)<=Nv l:=by
 cases x with
 | tmp t=>exact TQ l t
 | const v =>
  have h1:∀v,mx (CO v)=0:=by
   intro v;unfold CO
   split<;>(try split)<;>simp[mx]
  simp only[ev,ofV]
  split
  ·rename_i cs;simp only[mx]
   have:∀l:List Value,AV (l.map CO)=0:=by
    intro l
    induction l with
    | nil=>simp[AV]
    | cons v l ih=>simp[AV,h1,ih]
   rw[this];omega
  ·rw[h1];omega
 | global g=>simp[ev,mx]
 | func f=>simp[ev,mx,AV]
theorem DC (d:DVal):AV (AU d)=mx d:=by
 cases d<;>simp[AU,mx,AV]
theorem TR {n:Nat}:∀{l:List (List DVal)},(∀d∈l,AV d<=n)->BK l<=n
 | [],_=>by simp[BK]
 | x::l,h=>by
  simp only[BK];have:=h x aF0;have:=TR (l:=l) fun d hd=>h d (aE0 _ hd)
  omega
theorem Bf {own:List Ent} {id:Nat} {e:Ent} (h:Ax own id=some e):e∈own/\e.id=id:=AN h
theorem Rel.storeBox {id r off n:Nat} {cs:List DVal} {e:Ent} {d:DVal} {t:TypeId} {v:Value} {ad:Value} (R:Rel B s a w loc) (he:Ax s.own id=some e) (wB:e.r=r) (qA:e.obj= .box cs)
  (ha:BJ s loc B.M0 w (.bx id r off) ad) (hd:BJ s loc B.M0 w d v) (hp:Dr s.own d=true) (hc:tCells P t=some (AU d).length) (zB:off+(AU d).length<=cs.length) (zE:mx d<=Nv s.slots) (hn:CL B s<=n) :
  ∃w',(Instr.storeAt t ad v).run P w= .ok () w'/\Rel B ⟨s.slots,upE s.own id r (.box (EF cs off (AU d)))⟩ a w' (DM loc id (loc id)):=by
 obtain⟨qO,hid⟩:=Bf he;have hk:=R.st.ok e qO;rw[qA]at hk;obtain⟨b,arr,ty,h1,h2,h3,h4⟩:=hk;rw[hid]at h1;have qB:Aj s.own loc id r=some (loc id):=by unfold Aj;rw[he];simp[wB]
 simp only[BJ,rd]at ha;obtain⟨b',qG,rfl⟩:=ha _ qB;have qE:b∈(loc id).blks:=by rw[h1];simp
 rw[h1]at qG;simp only[bL0,and_true]at qG;subst qG;obtain⟨hcv,wW⟩:=Ky R.st hp hd;have dX:=AM _ _ hcv;simp only[bU0]at dX;have qR:=Pw (P:=P) (w:=w) (b:=b) (off:=off) (t:=t) (v:=v) h2 (by rw[hc,dX]) (by omega) wW;refine⟨_,qR,?_⟩;have hw:Upd (Ad s.own loc) w (w.setRow b (arr.toList.take off++v.cells.toList++arr.toList.drop (off+v.cells.size)).toArray):=Upd.setRow qO (by rw[hid];exact qE) w _
 have hL:∀b0,b0∈(loc id).blks->b0<(w.setRow b (arr.toList.take off++v.cells.toList++arr.toList.drop (off+v.cells.size)).toArray).heap.size/\((∃e∈s.own,e.id=id/\b0∈(loc id).blks)\/w.heap.size<=b0):=by
  intro b0 wJ;refine⟨?_,.inl ⟨e,qO,hid,wJ⟩⟩;rw[h1]at wJ;simp only[aG0]at wJ;subst wJ;have:=(aH0.1 h2).1;simpa using this
 have W:=R.weakUp (obj:= .box (EF cs off (AU d))) hn hw hL (.inr qB);have zY:=(BG qO).2;rw[qA]at zY;simp only[GC]at zY;unfold CL at hn;refine R.up (hLn:=by rw[h1];simp) (dst:=none) (v:=Go.undef) (d:= .any) (n:=n) (by unfold CL;exact hn) (fun i hi=>by simp at hi) hw ?_ hL (.inr qB) ?_ (by simp[rd])
 ·intro b0 wJ qK;refine setRow_other w b b0 _ (fun h=>qK e qO hid ?_);rw[h];exact qE
 ·refine⟨b,_,ty,h1,setRow_heap w b arr _ ty (0,0) h2,?_,?_⟩
  ·simp[EF,h3,<-dX]
  ·unfold EF;have l1:(arr.toList.take off).length=off:=by simp;omega
   refine PG _ _ _ _ (PG _ _ _ _ ?_ ?_) ?_
   ·refine DB _ arr _ 0 0 (fun j hj=> ?_) (PE off _ _ _ (GX W cs arr 0 (by omega) h4));have fK:j<off:=by simp at hj;omega
    simp only[bX0,dQ0,aR0];rw[bC0 (by omega),cE0 fK];simp
   ·have zK:=Iq (AU d) v.cells.toList (arr.toList.take off) (arr.toList.drop (off+v.cells.size)) (Bn W _ _ (by rw[DC];omega) hcv) wW;have e1:0+(cs.take off).length=(arr.toList.take off).length:=by simp;omega
    rw[e1];exact zK
   ·have hdr:=Ir (off+(AU d).length) cs arr 0 (GX W cs arr 0 (by omega) h4);have e1:0+(cs.take off++AU d).length=0+(off+(AU d).length):=by simp;omega
    rw[e1];refine DB _ arr _ _ _ (fun j hj=> ?_) hdr;simp only[bX0,dQ0];rw[bG0 (by simp;omega),dB0];have e2:off+(AU d).length+j-(arr.toList.take off++v.cells.toList).length=j:=by simp;omega
    rw[e2,dX];simp
theorem GW {cur:Gp} {M:List Nat} {H:Array Obj} (k:Nat):∀(es:List (List DVal)) (arr:Array Value) (o:Nat),Fz cur M H k es arr o ->
  ∃rows:List (List Value),rows.length=es.length/\rows.flatten.length=es.length*k/\(∀(i:Nat) (cs:List DVal) (us:List Value),es[i]? =some cs->rows[i]? =some us->cs.length=k/\AL cur M H cs us/\∀u∈us,u.oneCell'=true) /\
   (∀j v,rows.flatten[j]? =some v->arr[o+j]? =some v/\v.oneCell'=true)
 | [],arr,o,_=>⟨[],rfl,by simp,by simp,by simp⟩
 | c::es,arr,o,hr=>by
  simp only[Fz]at hr;obtain⟨h1,h2,h3⟩:=hr;obtain⟨vs,g1,g2,g3⟩:=GY c arr o h2;obtain⟨rows,k1,k2,k3,k4⟩:=GW k es arr (o+k) h3;refine⟨vs::rows,by simp[k1],by simp only[fM0,aC0,k2,List.length_cons,cA0];omega,?_,?_⟩
  ·intro i cs us hi hu
   cases i with
   | zero =>
    simp only[bF0,aA0]at hi hu;subst hi;subst hu;refine⟨h1,g2,fun u hu=> ?_⟩;obtain⟨j,hj,rfl⟩:=bJ0 hu;exact(g3 j _ (aD0 hj)).2
   | succ i=>exact k3 i cs us (by simpa using hi) (by simpa using hu)
  ·intro j v hj;simp only[fM0]at hj
   by_cases qV:j<vs.length
   ·rw[bC0 qV]at hj;exact g3 j v hj
   ·rw[bG0 (by omega)]at hj;have:=k4 _ v hj
    rwa[show o+k+(j-vs.length)=o+j by omega]at this
theorem eZ {cur:Gp} {M:List Nat} {H:Array Obj} (k:Nat) (es:List (List DVal)) (rows:List (List Value)) (post:List Value) (hl:rows.length=es.length)
  (h:∀(i:Nat) (cs:List DVal) (us:List Value),es[i]? =some cs->rows[i]? =some us->cs.length=k/\AL cur M H cs us/\∀u∈us,u.oneCell'=true):Fz cur M H k es (rows.flatten++post).toArray 0:=by
 have key:∀(es:List (List DVal)) (rows:List (List Value)) (pre:List Value),rows.length=es.length ->
   (∀(i:Nat) (cs:List DVal) (us:List Value),es[i]? =some cs->rows[i]? =some us->cs.length=k/\AL cur M H cs us/\∀u∈us,u.oneCell'=true)->Fz cur M H k es (pre++rows.flatten++post).toArray pre.length:=by
  intro es
  induction es with
  | nil=>intros;simp[Fz]
  | cons c es ih =>
   intro rows pre hl h
   cases rows with
   | nil=>simp at hl
   | cons u rows =>
    have h0:=h 0 c u (by simp) (by simp);have qZ:=AM _ _ h0.2.1;simp only[Fz];refine⟨h0.1,?_,?_⟩
    ·have:=Iq c u pre (rows.flatten++post) h0.2.1 h0.2.2;simpa using this
    ·have:=ih rows (pre++u) (by simpa using hl) (fun i cs us h1 h2=>h (i+1) cs us (by simpa using h1) (by simpa using h2));have e:(pre++u).length=pre.length+k:=by simp[qZ,h0.1]
     rw[e]at this;simpa using this
 simpa using key es rows [] hl h
theorem BX : ∀(a b:List (List DVal)),BK (a++b)=max (BK a) (BK b)
 | [],b=>by simp[BK]
 | d::a,b=>by simp only[List.cons_append,BK,BX a b];omega
def Mh (own:List Ent) (d:DVal):Option (Nat×List (List DVal)) :=
 match d with
 | .nilsl=>some (0,[])
 | .esl=>some (0,[])
 | d=>(Bz own d).map fun x=>(x.1,x.2.2)
theorem Iy : ∀(m:Nat) (l:List (List DVal)),BK (l.drop m)<=BK l
 | 0,l=>by simp
 | m+1,[]=>by simp
 | m+1,d::l=>by simp only[eF0,BK];have:=Iy m l;omega
theorem Ix : ∀(m:Nat) (l:List (List DVal)),BK (l.take m)<=BK l
 | 0,l=>by simp[BK]
 | m+1,[]=>by simp
 | m+1,d::l=>by simp only[dL0,BK];have:=Ix m l;omega
theorem Rj {own:List Ent} {d:DVal} {k bs:Nat} {es:List (List DVal)} (h:Bz own d=some (k,bs,es)):BK es<=max (mx d) (Jc own):=by
 unfold Bz at h
 split at h
 ·simp only[aA0,aY0]at h;obtain⟨_,_,rfl⟩:=h;simp only[mx];omega
 ·split at h
  ·rename_i e he
   split at h
   ·split at h
    ·rename_i qA;simp only[aA0,aY0]at h;obtain⟨_,_,rfl⟩:=h;have:=(BG (Bf he).1).2;rw[qA]at this;simp only[GC]at this;omega
    ·simp at h
   ·simp at h
  ·simp at h
 ·split at h
  ·rename_i e he
   split at h
   ·split at h
    ·rename_i qA
     split at h
     ·simp only[aA0,aY0]at h;obtain⟨_,_,rfl⟩:=h;have:=(BG (Bf he).1).2;rw[qA]at this;simp only[GC]at this;exact Nat.le_trans (Ix _ _) (Nat.le_trans (Iy _ _) (by omega))
     ·simp at h
    ·simp at h
   ·simp at h
  ·simp at h
 ·simp at h
theorem Ny_ (S:St s.own loc B.M0 w.heap) {d:DVal} {v:Value} {k:Nat} {es:List (List DVal)} (hd:BJ s loc B.M0 w d v) (h:Mh s.own d=some (k,es)) :
  ∃(rows:List (List Value)),rows.length=es.length/\(∀(i:Nat) (cs:List DVal) (us:List Value),es[i]? =some cs->rows[i]? =some us->cs.length=k/\AL (cu s loc) (hm s loc B.M0) w.heap cs us/\∀u∈us,u.oneCell'=true) /\
   rows.flatten.length=es.length*k/\(∀u∈rows.flatten,u.oneCell'=true)/\es.length<=maxLen /\
   ((es=[]/\∃x cap,v= .slice x 0 cap)\/∃ad cap,v= .slice (some ad) es.length cap/\∀j u,rows.flatten[j]? =some u->w.cell? (ad.add j)=some u):=by
 unfold Mh at h;have gen:∀bs,Bz s.own d=some (k,bs,es)->_:=fun bs hr=>No (k:=k) (bs:=bs) (es:=es) S hd hr
 have fin:(Bz s.own d).map (fun x=>(x.1,x.2.2))=some (k,es)->∃(rows:List (List Value)),rows.length=es.length/\(∀(i:Nat) (cs:List DVal) (us:List Value),es[i]? =some cs->rows[i]? =some us->cs.length=k/\AL (cu s loc) (hm s loc B.M0) w.heap cs us/\∀u∈us,u.oneCell'=true) /\
   rows.flatten.length=es.length*k/\(∀u∈rows.flatten,u.oneCell'=true)/\es.length<=maxLen /\
   ((es=[]/\∃x cap,v= .slice x 0 cap)\/∃ad cap,v= .slice (some ad) es.length cap/\∀j u,rows.flatten[j]? =some u->w.cell? (ad.add j)=some u):=by
  intro zA;rw[bH0]at zA;obtain⟨⟨k',bs,es'⟩,hr,he⟩:=zA;simp only[aY0]at he;obtain⟨rfl,rfl⟩:=he;obtain⟨x,cap,rfl,h2,h3,h4,h5⟩:=No S hd hr
  rcases h5 with rfl | ⟨b,off,arr,ty,fz,rfl,g2,g3⟩
  ·exact⟨[],rfl,by simp,by simp,by simp,cV0 _,.inl ⟨rfl,_,_,rfl⟩⟩
  ·obtain⟨rows,r1,r2,r3,r4⟩:=GW k' es' arr off g3;refine⟨rows,r1,r3,r2,?_,by omega,.inr ⟨_,cap,rfl,?_⟩⟩
   ·intro u hu;obtain⟨j,hj,rfl⟩:=bJ0 hu;exact(r4 j _ (aD0 hj)).2
   ·intro j u hj;rw[ES];simp only[World.cell?,g2];exact(r4 j u hj).1
 split at h
 ·simp only[aA0,aY0]at h;obtain⟨rfl,rfl⟩:=h;simp only[BJ,rd]at hd;subst hd;exact⟨[],rfl,by simp,by simp,by simp,cV0 _,.inl ⟨rfl,_,_,rfl⟩⟩
 ·simp only[aA0,aY0]at h;obtain⟨rfl,rfl⟩:=h;simp only[BJ,rd]at hd;obtain⟨ad,cap,rfl,_⟩:=hd;exact⟨[],rfl,by simp,by simp,by simp,cV0 _,.inl ⟨rfl,_,_,rfl⟩⟩
 ·exact fin h
def tElemId (P:Program) (t:TypeId):Option TypeId:=match P.underlying t with | some (.slice e)=>some e | _=>none
def zeroOK (P:Program) (t:TypeId):Bool:=match P.underlying t with
 | some (.slice e)=>match P.info? e with
  | some i=>match i.zero with | some z=>z.cells.size==i.size | none=>false
  | none=>false
 | _=>false
theorem Fp {t ty e:TypeId} {i:TypeInfo} (hu:P.underlying t=some (.slice e)) (hi:P.info? e=some i) {x y:Option Addr} {m cap cap2:Nat} (zA:m<=cap) :
  (Builtin.append_ #[t,t] ty #[.slice y m cap,.slice x 0 cap2]).run P w= .ok (.slice y m cap) w:=by
 cases x<;>cases y<;>simp[Builtin.append_,run_underlying hu,sizeOf,typeInfo,hi,Builtin.lenOf,Builtin.firstCells,zA,storeCells,loadCells,loadCellsFrom]
theorem JU {arr:Array Value} {rows:List (List Value)} {m:Nat} (hl:rows.flatten.length=m) (h:∀j v,rows.flatten[j]? =some v->arr[0+j]? =some v/\v.oneCell'=true) (zA:m<=arr.size):arr.toList.take m=rows.flatten:=by
 apply eY0
 intro j
 by_cases hj:j<m
 ·rw[cE0 hj];have fK:j<rows.flatten.length:=by omega
  have:=(h j _ (aD0 fK)).1;rw[bX0]at this;rw[aD0 fK,<-this];simp
 ·rw[dH0 (by simp;omega),dH0 (by omega)]
theorem PW {cur:Gp} {M:List Nat} {H:Array Obj} {k:Nat} {es es2:List (List DVal)} {rows rows2:List (List Value)} (l1:rows.length=es.length) (l2:rows2.length=es2.length)
  (h1:∀(i:Nat) (cs:List DVal) (us:List Value),es[i]? =some cs->rows[i]? =some us->cs.length=k/\AL cur M H cs us/\∀u∈us,u.oneCell'=true)
  (h2:∀(i:Nat) (cs:List DVal) (us:List Value),es2[i]? =some cs->rows2[i]? =some us->cs.length=k/\AL cur M H cs us/\∀u∈us,u.oneCell'=true) (post:List Value) :
  Fz cur M H k (es++es2) (rows.flatten++rows2.flatten++post).toArray 0:=by
 rw[<-List.flatten_append];refine eZ k _ _ _ (by simp[l1,l2]) ?_;intro i cs us hc hu
 by_cases hi:i<es.length
 ·rw[bC0 hi]at hc;rw[bC0 (by omega)]at hu;exact h1 i cs us hc hu
 ·rw[bG0 (by omega)]at hc;rw[bG0 (by omega)]at hu;rw[l1]at hu;exact h2 _ cs us hc hu
theorem Fx {cur cur':Gp} {M M':List Nat} {H H':Array Obj} {n k:Nat} (W:Weak cur cur' M M' H H' n) {es:List (List DVal)} {rows:List (List Value)} (zA:BK es<=n)
  (h:∀(i:Nat) (cs:List DVal) (us:List Value),es[i]? =some cs->rows[i]? =some us->cs.length=k/\AL cur M H cs us/\∀u∈us,u.oneCell'=true) :
  ∀(i:Nat) (cs:List DVal) (us:List Value),es[i]? =some cs->rows[i]? =some us->cs.length=k/\AL cur' M' H' cs us/\∀u∈us,u.oneCell'=true:=by
 intro i cs us hc hu;obtain⟨g1,g2,g3⟩:=h i cs us hc hu;refine⟨g1,Bn W cs us ?_ g2,g3⟩
 have:∀(l:List (List DVal)) (i:Nat),l[i]? =some cs->AV cs<=BK l:=by
  intro l
  induction l with
  | nil=>intro i h;simp at h
  | cons c l ih =>
   intro i h
   cases i with
   | zero=>simp only[bF0,aA0]at h;subst h;simp only[BK];omega
   | succ i=>have:=ih i (by simpa using h);simp only[BK];omega
 have:=this es i hc;omega
def Kc_ (s:DS) (loc:Nat->Loc) (w:World) (M0:List Nat) (id:Nat) (et k bs:Nat) (es:List (List DVal)) (dv:Value):Prop :=
 (es=[]/\dv= .slice none 0 0) \/
 ∃e0∈s.own,e0.id=id/\∃b arr cap,(loc id).blks=[b]/\dv= .slice (some ⟨b,0,none⟩) es.length cap/\w.heap[b]? =some (.cells arr et (0,0))/\es.length<=cap/\cap<=maxLen/\cap*k=arr.size/\Fz (cu s loc) (hm s loc M0) w.heap k es arr 0
theorem KG_ (S:St s.own loc B.M0 w.heap) {id r et k bs:Nat} {es:List (List DVal)} {e0:Ent} {dv:Value} (he:Ax s.own id=some e0) (wB:e0.r=r) (qA:e0.obj= .row et k bs es) (hd:BJ s loc B.M0 w (.osl id r) dv):Kc_ s loc w B.M0 id et k bs es dv:=by
 obtain⟨qO,hid⟩:=Bf he;have hk:=S.ok e0 qO;rw[qA]at hk;obtain⟨_,hk⟩:=hk;simp only[BJ,rd]at hd;have hv:=hd (loc id) (by show Aj _ _ _ _=_;unfold Aj;rw[he];simp[wB]);rw[hid]at hk
 rcases hk with ⟨h1,h2,h3⟩ | ⟨b,arr,cap,h1,h2,h3,h4,h5,h6,h7⟩
 ·exact .inl ⟨h1,by rw[hv,h3]⟩
 ·exact .inr ⟨e0,qO,hid,b,arr,cap,h1,by rw[hv,h2],h3,h4,h5,h6,h7⟩
theorem Sg_ {need old bs:Nat} (h:old<need) (hb:need*bs<=150000000000000) (h2:bs<=65536):Builtin.nextslicecap need old*bs<=281474976710656:=by
 refine growslice_fits_wide h ?_
 have h3:need/4*bs*4<=need*bs:=by
  rw[Nat.mul_right_comm];exact aQ0 _ (Nat.div_mul_le_self need 4)
 have h4:192*bs<=192*65536:=bY0 _ h2;rw[cA0,cA0];omega
theorem Rel.append {id n:Nat} {t ty e:TypeId} {k bs k2:Nat} {es es2:List (List DVal)} {sd:DVal} {dv sv:Value} {dst:Option Nat} (R:Rel B s a w loc) (qS:CL B s<=n) (wY:∀i,dst=some i->i<B.nt)
  (ht:tElem P t=some (k,bs)) (jT:tElemId P t=some e) (hz:zeroOK P t=true) (hk:0<k) (qT:Kc_ s loc w B.M0 id e k bs es dv) (bU:BK es<=n)
  (hsv:BJ s loc B.M0 w sd sv) (vZ:Mh s.own sd=some (k2,es2)) (jM:k2=k\/es2=[]) (gY:BK es2<=n) (hb:(es.length+es2.length)*bs<=150000000000000) (wC:bs<=65536) (hl:es.length+es2.length<=maxLen) :
  ∃v' w' L,(Builtin.append_ #[t,t] ty #[dv,sv]).run P w= .ok v' w'/\Rel B ⟨Ce s.slots dst (.osl id n),upE s.own id n (.row e k bs (es++es2))⟩ (a.put dst v') w' (DM loc id L):=by
 obtain⟨e',i,hu,hi,qM,hby,_⟩:=Cc ht;have mV:e'=e:=by unfold tElemId at jT;rw[hu]at jT;simpa using jT
 subst mV
 obtain⟨z,jS,hzs⟩:∃z,i.zero=some z/\z.cells.size=k:=by
  unfold zeroOK at hz;rw[hu]at hz;simp only[hi]at hz
  cases hq:i.zero with
  | none=>simp[hq]at hz
  | some z=>simp only[hq,beq_iff_eq]at hz;exact⟨z,rfl,by rw[hz,qM]⟩
 obtain⟨rows2,q1,q2,q3,q4,q5,q6⟩:=Ny_ (B:=B) R.st hsv vZ;have yR:(es++es2).length*bs<=150000000000000:=by simpa using hb
 have mx12:BK (es++es2)<=n:=by rw[BX];omega
 -- what the slot reads at the end
 have rdEnd:∀(L:Loc) (h:Array Obj) (obj:DObj),rd (Aj (upE s.own id n obj) (DM loc id L)) (Ad (upE s.own id n obj) (DM loc id L)++B.M0) h (.osl id n) L.hdr:=by
  intro L h obj;simp only[rd];intro l wD;rw[EL]at wD;simp only[aA0]at wD;rw[wD]
 rcases q6 with ⟨rfl,x,cap2,rfl⟩ | ⟨ad,cap2,rfl,q6⟩
 ·-- nothing is appended
  rw[bM0]at *
  rcases qT with ⟨rfl,rfl⟩ | ⟨e0,qO,hid,b,arr,cap,kY,rfl,h3,h4,h5,h6,h7⟩
  ·refine⟨_,w,⟨[],.slice none 0 0⟩,Fp hu hi (Nat.le_refl _),?_⟩;refine R.up (L:=⟨[],.slice none 0 0⟩) qS wY (Upd.refl _ _) (fun b hb _=>rfl) (fun b hb=>by simp at hb) (.inl (Nat.le_refl _)) ⟨by simp,.inl ⟨rfl,rfl,rfl⟩⟩ (rdEnd ⟨[],.slice none 0 0⟩ _ _)
  ·have h1:b∈(loc id).blks:=by rw[kY];simp
   refine⟨_,w,⟨[b],.slice (some ⟨b,0,none⟩) es.length cap⟩,Fp hu hi h4,?_⟩
   have hL:∀b0,b0∈(⟨[b],.slice (some ⟨b,0,none⟩) es.length cap⟩:Loc).blks->b0<w.heap.size/\((∃e∈s.own,e.id=id/\b0∈(loc id).blks)\/w.heap.size<=b0):=by
    intro b0 wJ;simp only[aG0]at wJ;subst wJ;exact⟨(aH0.1 h3).1,.inl ⟨e0,qO,hid,h1⟩⟩
   have W:=R.weakUp (obj:= .row e' k bs es) (r:=n) qS (Upd.refl _ _) hL (.inl (Nat.le_refl _));exact R.up (L:=⟨[b],.slice (some ⟨b,0,none⟩) es.length cap⟩) qS wY (Upd.refl _ _) (fun b hb _=>rfl) hL (.inl (Nat.le_refl _)) ⟨yR,.inr ⟨b,arr,cap,rfl,rfl,h3,h4,h5,h6,Dk W k es arr 0 bU h7⟩⟩ (rdEnd ⟨[b],.slice (some ⟨b,0,none⟩) es.length cap⟩ _ _)
 ·by_cases gU:es2.length=0
  ·have:es2=[]:=bP0 gU;subst this;rw[bM0]at *;simp only[List.length_nil]at *
   rcases qT with ⟨rfl,rfl⟩ | ⟨e0,qO,hid,b,arr,cap,kY,rfl,h3,h4,h5,h6,h7⟩
   ·refine⟨_,w,⟨[],.slice none 0 0⟩,Fp hu hi (Nat.le_refl _),?_⟩;refine R.up (L:=⟨[],.slice none 0 0⟩) qS wY (Upd.refl _ _) (fun b hb _=>rfl) (fun b hb=>by simp at hb) (.inl (Nat.le_refl _)) ⟨by simp,.inl ⟨rfl,rfl,rfl⟩⟩ (rdEnd ⟨[],.slice none 0 0⟩ _ _)
   ·have h1:b∈(loc id).blks:=by rw[kY];simp
    refine⟨_,w,⟨[b],.slice (some ⟨b,0,none⟩) es.length cap⟩,Fp hu hi h4,?_⟩
    have hL:∀b0,b0∈(⟨[b],.slice (some ⟨b,0,none⟩) es.length cap⟩:Loc).blks->b0<w.heap.size/\((∃e∈s.own,e.id=id/\b0∈(loc id).blks)\/w.heap.size<=b0):=by
     intro b0 wJ;simp only[aG0]at wJ;subst wJ;exact⟨(aH0.1 h3).1,.inl ⟨e0,qO,hid,h1⟩⟩
    have W:=R.weakUp (obj:= .row e' k bs es) (r:=n) qS (Upd.refl _ _) hL (.inl (Nat.le_refl _));exact R.up (L:=⟨[b],.slice (some ⟨b,0,none⟩) es.length cap⟩) qS wY (Upd.refl _ _) (fun b hb _=>rfl) hL (.inl (Nat.le_refl _)) ⟨yR,.inr ⟨b,arr,cap,rfl,rfl,h3,h4,h5,h6,Dk W k es arr 0 bU h7⟩⟩ (rdEnd ⟨[b],.slice (some ⟨b,0,none⟩) es.length cap⟩ _ _)
  ·have qY:k2=k:=by
    rcases jM with h | h
    ·exact h
    ·subst h;simp at gU
   subst qY;subst qM
   subst hby;have wD:es.length+es2.length<=9223372036854775807:=by unfold maxLen at hl;omega
   -- a new row, whatever it held before
   have fresh:∀(rows:List (List Value)) (cap:Nat),es.length<=cap\/True->rows.length=es.length->rows.flatten.length=es.length*i.size ->
     (∀(j:Nat) (cs:List DVal) (us:List Value),es[j]? =some cs->rows[j]? =some us->cs.length=i.size/\AL (cu s loc) (hm s loc B.M0) w.heap cs us/\∀u∈us,u.oneCell'=true) ->
     Rel B ⟨Ce s.slots dst (.osl id n),upE s.own id n (.row e' i.size i.bytes (es++es2))⟩ (a.put dst (.slice (some ⟨w.heap.size,0,none⟩) (es.length+es2.length) (grownCap w (es.length+es2.length) cap e')))
      (w.drew.alloc (.cells (rows.flatten.toArray++rows2.flatten.toArray++Builtin.zeroCells z.cells (grownCap w (es.length+es2.length) cap e'-(es.length+es2.length))) e')) (DM loc id ⟨[w.heap.size],.slice (some ⟨w.heap.size,0,none⟩) (es.length+es2.length) (grownCap w (es.length+es2.length) cap e')⟩):=by
    intro rows cap _ r1 r2 r3
    have hw:Upd (Ad s.own loc) w (w.drew.alloc (.cells (rows.flatten.toArray++rows2.flatten.toArray++Builtin.zeroCells z.cells (grownCap w (es.length+es2.length) cap e'-(es.length+es2.length))) e')) :=
     (Upd.drew _ w).trans (Upd.alloc _ w.drew _) (fun x hx=> .inl hx)
    have hL:∀b0,b0∈(⟨[w.heap.size],.slice (some ⟨w.heap.size,0,none⟩) (es.length+es2.length) (grownCap w (es.length+es2.length) cap e')⟩:Loc).blks->b0<(w.drew.alloc (.cells (rows.flatten.toArray++rows2.flatten.toArray++Builtin.zeroCells z.cells (grownCap w (es.length+es2.length) cap e'-(es.length+es2.length))) e')).heap.size/\((∃e∈s.own,e.id=id/\b0∈(loc id).blks)\/w.heap.size<=b0):=by
     intro b0 wJ;simp only[aG0]at wJ;subst wJ;exact⟨by simp,.inr (Nat.le_refl _)⟩
    have W:=R.weakUp (obj:= .row e' i.size i.bytes (es++es2)) (r:=n) qS hw hL (.inl (Nat.le_refl _));have kX:=grownCap_ge w (es.length+es2.length) cap e';have hcm:=grownCap_le_maxLen w (es.length+es2.length) cap e' hl;refine R.up qS wY hw (fun b hb _=>by simp only[World.alloc,bZ0,World.drew];rw[if_neg (by omega)]) hL (.inl (Nat.le_refl _)) ⟨yR,.inr ⟨w.heap.size,_,_,rfl,by simp,heap_alloc_new w.drew _,by simpa using kX,hcm,?_,?_⟩⟩ (rdEnd ⟨[w.heap.size],.slice (some ⟨w.heap.size,0,none⟩) (es.length+es2.length) (grownCap w (es.length+es2.length) cap e')⟩ _ _)
    ·simp only[Array.size_append,dM0,size_zeroCells,hzs,r2,q3,<-cA0]
     congr 1
     omega
    ·have:=PW (k:=i.size) r1 q1 (Fx W bU r3) (Fx W gY q2) (Builtin.zeroCells z.cells (grownCap w (es.length+es2.length) cap e'-(es.length+es2.length))).toList
     have e1:(rows.flatten++rows2.flatten++(Builtin.zeroCells z.cells (grownCap w (es.length+es2.length) cap e'-(es.length+es2.length))).toList).toArray=rows.flatten.toArray++rows2.flatten.toArray++Builtin.zeroCells z.cells (grownCap w (es.length+es2.length) cap e'-(es.length+es2.length)):=by
      apply Array.ext';simp
     rw[e1]at this;exact this
   rcases qT with ⟨rfl,rfl⟩ | ⟨e0,qO,hid,b,arr,cap,kY,rfl,h3,h4,h5,h6,h7⟩
   ·have hr:=run_append_nil (P:=P) w t ty e' i z hu hi jS ad es2.length cap2 rows2.flatten q3 q6 (by omega) (by omega) (by simp only[List.length_nil,bX0]at hb;omega);have hf:=fresh [] 0 (.inr trivial) rfl (by simp) (by simp);simp only[List.length_nil,bX0,List.nil_append,List.flatten_nil,Array.empty_append]at hf hr |-;exact⟨_,_,_,hr,hf⟩
   ·have h1:b∈(loc id).blks:=by rw[kY];simp
    obtain⟨rows,r1,r2,r3,r4⟩:=GW i.size es arr 0 h7;have pJ:es.length*i.size<=arr.size:=by rw[<-h6];exact aQ0 _ h4
    by_cases fB:es.length+es2.length<=cap
    ·have zB:es.length*i.size+rows2.flatten.length<=arr.size:=by rw[q3,<-h6,<-cA0];exact aQ0 _ fB
     have hr:=run_append_room (P:=P) w t ty e' i hu hi b es.length cap arr h3 ad es2.length cap2 rows2.flatten q3 q6 q4 fB zB;refine⟨_,_,⟨[b],.slice (some ⟨b,0,none⟩) (es.length+es2.length) cap⟩,hr,?_⟩;have hw:Upd (Ad s.own loc) w (w.setRow b (arr.toList.take (es.length*i.size)++rows2.flatten++arr.toList.drop (es.length*i.size+rows2.flatten.length)).toArray):=Upd.setRow qO (by rw[hid];exact h1) w _
     have hL:∀b0,b0∈(⟨[b],.slice (some ⟨b,0,none⟩) (es.length+es2.length) cap⟩:Loc).blks->b0<(w.setRow b (arr.toList.take (es.length*i.size)++rows2.flatten++arr.toList.drop (es.length*i.size+rows2.flatten.length)).toArray).heap.size/\((∃e∈s.own,e.id=id/\b0∈(loc id).blks)\/w.heap.size<=b0):=by
      intro b0 wJ;simp only[aG0]at wJ;subst wJ;refine⟨?_,.inl ⟨e0,qO,hid,h1⟩⟩;have:=(aH0.1 h3).1;simpa using this
     have W:=R.weakUp (obj:= .row e' i.size i.bytes (es++es2)) (r:=n) qS hw hL (.inl (Nat.le_refl _));refine R.up qS wY hw ?_ hL (.inl (Nat.le_refl _)) ⟨yR,.inr ⟨b,_,cap,rfl,by simp,setRow_heap w b arr _ e' (0,0) h3,by simpa using fB,h5,?_,?_⟩⟩ (rdEnd ⟨[b],.slice (some ⟨b,0,none⟩) (es.length+es2.length) cap⟩ _ _)
     ·intro b0 wJ qK;refine setRow_other w b b0 _ (fun h=>qK e0 qO hid ?_);rw[h];exact h1
     ·simp only[dM0,aC0,aT0,cD0,bU0];omega
     ·have bK:=JU r2 r4 pJ;have hj:=PW r1 q1 (Fx W bU r3) (Fx W gY q2) (arr.toList.drop (es.length*i.size+rows2.flatten.length));rw[<-bK]at hj;exact hj
    ·have hr:=run_append_grow (P:=P) w t ty e' i z hu hi jS ⟨b,0,none⟩ es.length cap rows.flatten r2 (fun j v hj=>by rw[ES];simp only[World.cell?,h3];exact(r4 j v hj).1) ad es2.length cap2 rows2.flatten q3 q6 (by omega) (by omega) (Sg_ (by omega) hb wC);exact⟨_,_,_,hr,fresh rows cap (.inl h4) r1 r2 r3⟩
end
def Bo_ : Value->Bool
 | .bool _ | .int _ _ | .string _=>true
 | _=>false
theorem Sk_ {a b:ByteArray}:(a==b)=true↔a=b:=by
 rw[<-Qm,beq_iff_eq]
 constructor
 ·intro h;cases a;cases b;simp at h;rw[h]
 ·rintro rfl;rfl
def XF (ks:List DVal) (k:DVal):List DVal:=match AZ ks k with
 | some _=>ks
 | none=>ks++[k]
def XD (ks vs:List DVal) (k x:DVal):List DVal:=match AZ ks k with
 | some j=>vs.set j x
 | none=>vs++[x]
theorem SC (a b:List DVal):AV (a++b)=max (AV a) (AV b):=by
 induction a with
 | nil=>simp[AV]
 | cons d a ih=>simp only[List.cons_append,AV,ih];omega
theorem Rp_ (a:List DVal) (j:Nat) (d:DVal):AV (a.set j d)<=max (AV a) (mx d):=by
 induction a generalizing j with
 | nil=>simp[AV]
 | cons x a ih =>
  cases j with
  | zero=>simp only[eW0,AV];omega
  | succ j=>have:=ih j;simp only[List.set_cons_succ,AV];omega
theorem AC_ (ks:List DVal) (k:DVal):AV (XF ks k)<=max (AV ks) (mx k):=by
 unfold XF
 split
 ·omega
 ·rw[SC];simp[AV]
theorem AB_ (ks vs:List DVal) (k x:DVal):AV (XD ks vs k x)<=max (AV vs) (mx x):=by
 unfold XD
 split
 ·exact Rp_ _ _ _
 ·rw[SC];simp[AV]
section
variable {cur : Gp} {M : List Nat} {h : Array Obj}
theorem HU_ : ∀{ds:List DVal} {vs:List Value} {j:Nat} {d:DVal} {v:Value},AL cur M h ds vs->rd cur M h d v->AL cur M h (ds.set j d) (vs.set j v)
 | [],vs,j,d,v,h1,h2=>by simp only[AL]at h1;subst h1;simp[AL]
 | a::ds,vs,j,d,v,h1,h2=>by
  simp only[AL]at h1;obtain⟨u,r,rfl,h3,h4⟩:=h1
  cases j with
  | zero=>simp only[eW0,AL];exact⟨v,r,rfl,h2,h4⟩
  | succ j=>simp only[List.set_cons_succ,AL];exact⟨u,_,rfl,h3,HU_ h4 h2⟩
theorem Zw : ∀{cks:List CK} {xs ys:List DVal} {us vs:List Value},BI cks xs=true->BI cks ys=true->Ek xs ys=true->AL cur M h xs us->AL cur M h ys vs->us=vs/\us.all Bo_=true
 | [],[],[],us,vs,_,_,_,h1,h2=>by simp only[AL]at h1 h2;subst h1;subst h2;simp
 | c::cks,x::xs,y::ys,us,vs,hx,hy,he,h1,h2=>by
  simp only[BI,aM0]at hx hy;simp only[Ek,aM0]at he;simp only[AL]at h1 h2;obtain⟨u,ur,rfl,h3,h4⟩:=h1;obtain⟨v,vr,rfl,h5,h6⟩:=h2;obtain⟨e1,e2⟩:=Zw hx.2 hy.2 he.2 h4 h6
  have:u=v/\Bo_ u=true:=by
   have fU:=hx.1;have pT:=hy.1;have mS:=he.1;cases c<;>cases x<;>simp only[Tq]at fU<;>first | (simp at fU;done) | skip
   all_goals cases y<;>simp only[Tq]at pT<;>first | (simp at pT;done) | skip
   ·simp only[rd]at h3 h5;simp only[eqC,beq_iff_eq]at mS;subst h3;subst h5;subst mS;exact⟨rfl,rfl⟩
   ·simp only[rd]at h3 h5;simp only[eqC,beq_iff_eq]at mS fU pT;obtain⟨rfl,_⟩:=h3;obtain⟨rfl,_⟩:=h5;subst fU;subst pT;subst mS;exact⟨rfl,rfl⟩
   ·simp only[rd]at h3 h5;simp only[eqC,Sk_]at mS;obtain⟨rfl,_⟩:=h3;obtain⟨rfl,_⟩:=h5;subst mS;exact⟨rfl,rfl⟩
  obtain⟨rfl,hu⟩:=this;subst e1;exact⟨rfl,by simp only[cX0,aM0];exact⟨hu,e2⟩⟩
 | [],_::_,_,_,_,hx,_,_,_,_=>by simp[BI]at hx
 | [],[],_::_,_,_,_,hy,_,_,_=>by simp[BI]at hy
 | _::_,[],_,_,_,hx,_,_,_,_=>by simp[BI]at hx
 | _::_,_::_,[],_,_,_,hy,_,_,_=>by simp[BI]at hy
theorem Oi : ∀(n:Nat) (v:Value),Bo_ v=true->Instr.sameBits n v v=true:=by
 intro n v hv;cases v<;>simp[Bo_]at hv<;>cases n<;>simp[Instr.sameBits,Sk_]
theorem ON_ {P:Program} {kt:TypeId} {x k:DVal} {u v:Value} (hx:CS P kt x=true) (hk:CS P kt k=true) (he:Ek (BY x) (BY k)=true) (rx:rd cur M h x u) (rk:rd cur M h k v):v=u/\Instr.sameBits 10000 v u=true:=by
 unfold CS at hx hk
 split at hx
 ·rename_i cks b hf hb;simp only[hf,hb,aM0,beq_iff_eq]at hx hk;obtain⟨us,h1,rfl⟩:=IQ hx.2 rx;obtain⟨vs,h2,rfl⟩:=IQ hk.2 rk;obtain⟨rfl,h3⟩:=Zw hx.1 hk.1 he h1 h2;refine⟨rfl,?_⟩
  cases b with
  | false =>
   simp only[valOf]
   match us,h1,h2,hx,hk,h3 with
   | [],h1,h2,hx,hk,h3 =>
    have hl:=AM _ _ h1;have qG:=hx.2;cases x<;>simp[BY,VM]at hl qG
   | u::r,h1,h2,hx,hk,h3 =>
    simp only[cX0,aM0]at h3;simp;exact Oi _ _ h3.1
  | true =>
   simp only[valOf,if_true];rw[show (10000:Nat)=9999+1 from rfl];simp only[Instr.sameBits,beq_self_eq_true,bO0,bA0];intro p hp
   have hz:∀(l:List Value),l.all Bo_=true->∀p∈l.zip l,Instr.sameBits 9999 p.1 p.2=true:=by
    intro l
    induction l with
    | nil=>intro _ p hp;simp at hp
    | cons a l ih =>
     intro ha p hp;simp only[cX0,aM0]at ha;simp only[List.zip_cons_cons,aL0]at hp
     rcases hp with rfl | hp
     ·exact Oi _ _ ha.1
     ·exact ih ha.2 p hp
   exact hz us h3 p (by simpa using hp)
 ·simp at hx
theorem AM_ : ∀{ks:List DVal} {x:DVal} {j:Nat},AZ ks x=some j->∃k,ks[j]? =some k/\Ek (BY x) (BY k)=true
 | k::ks,x,j,hh=>by
  simp only[AZ]at hh
  split at hh
  ·rename_i he;simp only[aA0]at hh;subst hh;exact⟨k,rfl,he⟩
  ·rw[bH0]at hh;obtain⟨i,h1,rfl⟩:=hh;obtain⟨k',h2,h3⟩:=AM_ h1;exact⟨k',by simpa using h2,h3⟩
end
section
variable {P : Program} {B : Base} {s : DS} {a : Act} {w : World} {loc : Nat -> Loc}
theorem Rel.newMap {id n:Nat} {dst:Option Nat} (R:Rel B s a w loc) (qS:CL B s<=n) (wY:∀i,dst=some i->i<B.nt) :
  Rel B ⟨Ce s.slots dst (.omp id n),upE s.own id n (.map [] [])⟩ (a.put dst (.map (some w.heap.size))) (w.alloc (.map #[] 0)) (DM loc id ⟨[w.heap.size],Go.undef⟩):=by
 have hw:=Upd.alloc (Ad s.own loc) w (.map #[] 0)
 have hL:∀b,b∈(⟨[w.heap.size],Go.undef⟩:Loc).blks->b<(w.alloc (.map #[] 0)).heap.size/\((∃e∈s.own,e.id=id/\b∈(loc id).blks)\/w.heap.size<=b):=by
  intro b hb;simp only[aG0]at hb;subst hb;exact⟨by simp,.inr (Nat.le_refl _)⟩
 refine R.up qS wY hw (fun b hb _=>by simp only[World.alloc,bZ0];rw[if_neg (by omega)]) hL (.inl (Nat.le_refl _)) ?_ ?_
 ·refine⟨w.heap.size, #[],0,rfl,heap_alloc_new w _,⟨by simp,by simp⟩,by simp[AL],by simp[AL]⟩
 ·simp only[rd];intro l hl;rw[EL]at hl;simp only[aA0]at hl;subst hl;exact⟨_,rfl,rfl⟩
theorem Rel.updMap {id r n:Nat} {ks vs:List DVal} {e:Ent} {t kt et:TypeId} {k x:DVal} {mv kv xv:Value} (R:Rel B s a w loc) (he:Ax s.own id=some e) (wB:e.r=r) (qA:e.obj= .map ks vs)
  (ha:BJ s loc B.M0 w (.omp id r) mv) (hk:BJ s loc B.M0 w k kv) (hx:BJ s loc B.M0 w x xv) (ht:tMap P t=some (kt,et)) (hko:CS P kt k=true) (dU:ks.all (CS P kt)=true)
  (hmk:mx k<=Nv s.slots) (zE:mx x<=Nv s.slots) (hn:CL B s<=n) :
  ∃w',(Instr.mapUpdate t mv kv xv).run P w= .ok () w'/\Rel B ⟨s.slots,upE s.own id r (.map (XF ks k) (XD ks vs k x))⟩ a w' (DM loc id (loc id)):=by
 obtain⟨qO,hid⟩:=Bf he;have nM:=R.st.ok e qO;rw[qA]at nM;obtain⟨b,es,clk,h1,h2,h3,h4,h5⟩:=nM;rw[hid]at h1;have qB:Aj s.own loc id r=some (loc id):=by unfold Aj;rw[he];simp[wB]
 simp only[BJ,rd]at ha;obtain⟨b',qG,rfl⟩:=ha _ qB;have qE:b∈(loc id).blks:=by rw[h1];simp
 rw[h1]at qG;simp only[bL0,and_true]at qG;subst qG;have hu:P.underlying t=some (.map kt et):=by unfold tMap at ht;split at ht<;>simp_all
 have pV:=Jn (w:=w) hko hk es.toList ks dU h4;have nI:=AM _ _ h4;have zU:=AM _ _ h5;simp only[aJ0,bU0]at nI zU;have bA:=(aH0.1 h2).1;have zY:=(BG qO).2;rw[qA]at zY;simp only[GC]at zY
 -- the world behind it
 have main:∀(es':Array MapEntry) (clk':Nat),Sc es' clk'->AL (cu s loc) (hm s loc B.M0) w.heap (XF ks k) (es'.toList.map (·.key))->AL (cu s loc) (hm s loc B.M0) w.heap (XD ks vs k x) (es'.toList.map (·.val)) ->
   Rel B ⟨s.slots,upE s.own id r (.map (XF ks k) (XD ks vs k x))⟩ a { w with heap:=w.heap.setIfInBounds b (.map es' clk') } (DM loc id (loc id)):=by
  intro es' clk' hb jE dD
  have hw:Upd (Ad s.own loc) w { w with heap:=w.heap.setIfInBounds b (.map es' clk') }:=by
   refine⟨rfl,rfl,rfl,fun _=>Nat.le_refl _,by simp,fun b0 _ hn0=> ?_⟩;have qK:b≠b0:=fun h=>hn0 (h▸Bw qO (by rw[hid];exact qE))
   simp[dD0,qK]
  have hL:∀b0,b0∈(loc id).blks->b0<({ w with heap:=w.heap.setIfInBounds b (.map es' clk') }:World).heap.size/\((∃e∈s.own,e.id=id/\b0∈(loc id).blks)\/w.heap.size<=b0):=by
   intro b0 wJ;refine⟨?_,.inl ⟨e,qO,hid,wJ⟩⟩;rw[h1]at wJ;simp only[aG0]at wJ;subst wJ;simpa using bA
  have W:=R.weakUp (obj:= .map (XF ks k) (XD ks vs k x)) hn hw hL (.inr qB);unfold CL at hn;refine R.up (hLn:=by rw[h1];simp) (dst:=none) (v:=Go.undef) (d:= .any) (n:=n) (by unfold CL;exact hn) (fun i hi=>by simp at hi) hw ?_ hL (.inr qB) ?_ (by simp[rd])
  ·intro b0 wJ qK;have nD:b≠b0:=fun h=>qK e qO hid (by rw[<-h];exact qE)
   simp[dD0,nD]
  ·refine⟨b,es',clk',h1,by simp[dD0,bA],hb,Bn W _ _ ?_ jE,Bn W _ _ ?_ dD⟩
   ·have:=AC_ ks k;omega
   ·have:=AB_ ks vs k x;omega
 simp only[Instr.mapUpdate,Sem.run_bind,run_underlying hu,Result.andThen_ok,MapKept.run_getObj_map h2,GO hko hk,pV]
 cases hq:AZ ks k with
 | none =>
  simp only[fC0];refine⟨_,MapKept.run_setObj_map _ h2,main _ _ ?_ ?_ ?_⟩
  ·obtain⟨g1,g2⟩:=h3;refine⟨?_,?_⟩
   ·simp only[Array.toList_push,aX0,List.map_cons,List.map_nil];rw[cB0];refine⟨g1,by simp,?_⟩;intro c hc c' pL wU;simp only[aG0]at pL;obtain⟨e',zT,rfl⟩:=aU0.1 hc;have:=g2 e' zT;omega
   ·intro e' zT;simp only[Array.toList_push,aI0,aG0]at zT
    rcases zT with zT | rfl
    ·have:=g2 e' zT;omega
    ·simp
  ·unfold XF;rw[hq];simp only[Array.toList_push,aX0,List.map_cons,List.map_nil];exact CU _ _ _ _ h4 (by simp only[AL];exact⟨kv,[],rfl,hk,rfl⟩)
  ·unfold XD;rw[hq];simp only[Array.toList_push,aX0,List.map_cons,List.map_nil];exact CU _ _ _ _ h5 (by simp only[AL];exact⟨xv,[],rfl,hx,rfl⟩)
 | some j =>
  simp only[dJ0];obtain⟨k0,vT,heq⟩:=AM_ hq;obtain⟨v0,kA,fC⟩:=UW _ _ j k0 h4 vT
  have hjlt:j<es.size:=by
   have:=(aB0.1 vT).1;omega
  have hkey:(es[j]?).map (·.key)=some v0:=by
   rw[bK0]at kA;simpa using kA
  obtain⟨rfl,hsb⟩:=ON_ hko (bA0.1 dU k0 (bI0 vT)) heq hk fC;simp only[hkey,cC0,Instr.keyThatStays,hsb,if_true,Sem.run_pure,Result.andThen_ok];refine⟨_,MapKept.run_setObj_map _ h2,main _ _ ?_ ?_ ?_⟩
  ·obtain⟨g1,g2⟩:=h3
   have dG:(es.modify j fun e=>{ e with key:=v0,val:=xv }).toList.map (·.born)=es.toList.map (·.born):=by
    apply eY0
    intro i;simp only[bK0,fA0,cO0]
    split
    ·cases es[i]? <;>simp
    ·rfl
   refine⟨by rw[dG];exact g1,?_⟩;intro e' zT;have:e'.born∈(es.modify j fun e=>{ e with key:=v0,val:=xv }).toList.map (·.born):=dF0 (f:=(·.born)) zT;rw[dG]at this;obtain⟨e0,zG,wJ⟩:=aU0.1 this;rw[<-wJ];exact g2 e0 zG
  ·unfold XF;rw[hq]
   have nT:(es.modify j fun e=>{ e with key:=v0,val:=xv }).toList.map (·.key)=es.toList.map (·.key):=by
    apply eY0
    intro i;simp only[bK0,fA0,cO0]
    split
    ·rename_i zJ;subst zJ;rw[hkey];cases tN:es[j]? <;>simp_all
    ·rfl
   rw[nT];exact h4
  ·unfold XD;rw[hq]
   have hvals:(es.modify j fun e=>{ e with key:=v0,val:=xv }).toList.map (·.val)=(es.toList.map (·.val)).set j xv:=by
    apply eY0
    intro i;simp only[bK0,fA0,cO0,List.getElem?_set,aJ0,bU0]
    split
    ·rename_i zJ;subst zJ;simp[hjlt]
    ·rfl
   rw[hvals];exact HU_ h5 hx
def Ws (ks:List DVal) (k:DVal):List DVal:=match AZ ks k with | some j=>ks.eraseIdx j | none=>ks
def Wr (ks vs:List DVal) (k:DVal):List DVal:=match AZ ks k with | some j=>vs.eraseIdx j | none=>vs
theorem Rw : ∀(l:List DVal) (j:Nat),AV (l.eraseIdx j)<=AV l
 | [],_=>by simp
 | d::l,0=>by simp only[List.eraseIdx_cons_zero,AV];omega
 | d::l,j+1=>by have:=Rw l j;simp only[List.eraseIdx_cons_succ,AV];omega
theorem AF_ (ks:List DVal) (k:DVal):AV (Ws ks k)<=AV ks:=by
 unfold Ws;split
 ·exact Rw _ _
 ·exact Nat.le_refl _
theorem AE_ (ks vs:List DVal) (k:DVal):AV (Wr ks vs k)<=AV vs:=by
 unfold Wr;split
 ·exact Rw _ _
 ·exact Nat.le_refl _
theorem Ro {cur:Gp} {M:List Nat} {h:Array Obj}:∀{ds:List DVal} {vs:List Value} (j:Nat),AL cur M h ds vs->AL cur M h (ds.eraseIdx j) (vs.eraseIdx j)
 | [],vs,j,hr=>by simp only[AL]at hr;subst hr;simp[AL]
 | d::ds,vs,0,hr=>by
  simp only[AL]at hr;obtain⟨v,r,rfl,_,h2⟩:=hr;simpa using h2
 | d::ds,vs,j+1,hr=>by
  simp only[AL]at hr;obtain⟨v,r,rfl,h1,h2⟩:=hr;simp only[List.eraseIdx_cons_succ,AL];exact⟨v,_,rfl,h1,Ro j h2⟩
theorem Kh {α β:Type} (f:α->β):∀(l:List α) (j:Nat),(l.eraseIdx j).map f=(l.map f).eraseIdx j
 | [],_=>by simp
 | _::l,0=>by simp
 | _::l,j+1=>by simp[Kh f l j]
theorem Rel.delMap {id r n:Nat} {ks vs:List DVal} {e:Ent} {t kt et t2 ty:TypeId} {k:DVal} {mv kv:Value} {dst:Option Nat} (R:Rel B s a w loc) (he:Ax s.own id=some e) (wB:e.r=r) (qA:e.obj= .map ks vs)
  (ha:BJ s loc B.M0 w (.omp id r) mv) (hk:BJ s loc B.M0 w k kv) (ht:tMap P t=some (kt,et)) (hko:CS P kt k=true) (dU:ks.all (CS P kt)=true)
  (hn:CL B s<=n) (wY:∀i,dst=some i->i<B.nt) :
  ∃w',(Builtin.delete_ #[t,t2] ty #[mv,kv]).run P w= .ok (.tuple #[]) w'/\Rel B ⟨Ce s.slots dst (.tup []),upE s.own id r (.map (Ws ks k) (Wr ks vs k))⟩ (a.put dst (.tuple #[])) w' (DM loc id (loc id)):=by
 obtain⟨qO,hid⟩:=Bf he;have nM:=R.st.ok e qO;rw[qA]at nM;obtain⟨b,es,clk,h1,h2,h3,h4,h5⟩:=nM;rw[hid]at h1;have qB:Aj s.own loc id r=some (loc id):=by unfold Aj;rw[he];simp[wB]
 simp only[BJ,rd]at ha;obtain⟨b',qG,rfl⟩:=ha _ qB;have qE:b∈(loc id).blks:=by rw[h1];simp
 rw[h1]at qG;simp only[bL0,and_true]at qG;subst qG;have hu:P.underlying t=some (.map kt et):=by unfold tMap at ht;split at ht<;>simp_all
 have pV:=Jn (w:=w) hko hk es.toList ks dU h4;have nI:=AM _ _ h4;simp only[aJ0,bU0]at nI;have bA:=(aH0.1 h2).1;have zY:=(BG qO).2;rw[qA]at zY;simp only[GC]at zY
 have main:∀(es':Array MapEntry) (clk':Nat),Sc es' clk'->AL (cu s loc) (hm s loc B.M0) w.heap (Ws ks k) (es'.toList.map (·.key))->AL (cu s loc) (hm s loc B.M0) w.heap (Wr ks vs k) (es'.toList.map (·.val)) ->
   Rel B ⟨Ce s.slots dst (.tup []),upE s.own id r (.map (Ws ks k) (Wr ks vs k))⟩ (a.put dst (.tuple #[])) { w with heap:=w.heap.setIfInBounds b (.map es' clk') } (DM loc id (loc id)):=by
  intro es' clk' hb jE dD
  have hw:Upd (Ad s.own loc) w { w with heap:=w.heap.setIfInBounds b (.map es' clk') }:=by
   refine⟨rfl,rfl,rfl,fun _=>Nat.le_refl _,by simp,fun b0 _ hn0=> ?_⟩;have qK:b≠b0:=fun h=>hn0 (h▸Bw qO (by rw[hid];exact qE))
   simp[dD0,qK]
  have hL:∀b0,b0∈(loc id).blks->b0<({ w with heap:=w.heap.setIfInBounds b (.map es' clk') }:World).heap.size/\((∃e∈s.own,e.id=id/\b0∈(loc id).blks)\/w.heap.size<=b0):=by
   intro b0 wJ;refine⟨?_,.inl ⟨e,qO,hid,wJ⟩⟩;rw[h1]at wJ;simp only[aG0]at wJ;subst wJ;simpa using bA
  have W:=R.weakUp (obj:= .map (Ws ks k) (Wr ks vs k)) hn hw hL (.inr qB);unfold CL at hn;refine R.up (hLn:=by rw[h1];simp) (n:=n) (by unfold CL;exact hn) wY hw ?_ hL (.inr qB) ?_ (by simp only[rd];exact⟨#[],rfl,by simp[AL]⟩)
  ·intro b0 wJ qK;have nD:b≠b0:=fun h=>qK e qO hid (by rw[<-h];exact qE)
   simp[dD0,nD]
  ·refine⟨b,es',clk',h1,by simp[dD0,bA],hb,Bn W _ _ ?_ jE,Bn W _ _ ?_ dD⟩
   ·have:=AF_ ks k;omega
   ·have:=AE_ ks vs k;omega
 simp only[Builtin.delete_,dM0,Sem.run_bind,run_underlying hu,Result.andThen_ok,MapKept.run_getObj_map h2,GO hko hk,pV,dQ0,bF0,bT0]
 cases hq:AZ ks k with
 | none =>
  simp only[fC0,Sem.run_bind,MapKept.run_setObj_map _ h2,Result.andThen_ok,Sem.run_pure];refine⟨_,rfl,main _ _ h3 ?_ ?_⟩
  ·unfold Ws;rw[hq];exact h4
  ·unfold Wr;rw[hq];exact h5
 | some j =>
  simp only[dJ0,Sem.run_bind,MapKept.run_setObj_map _ h2,Result.andThen_ok,Sem.run_pure];have hto:(es.eraseIdxIfInBounds j).toList=es.toList.eraseIdx j:=by simp
  refine⟨_,rfl,main _ _ ⟨?_,?_⟩ ?_ ?_⟩
  ·rw[hto];exact h3.1.sublist ((List.eraseIdx_sublist _ _).map _)
  ·intro e' zT;rw[hto]at zT;exact h3.2 e' ((List.eraseIdx_sublist _ _).subset zT)
  ·unfold Ws;rw[hq,hto,Kh];exact Ro j h4
  ·unfold Wr;rw[hq,hto,Kh];exact Ro j h5
end
theorem FJ_ {cur:Gp} {M:List Nat} {H:Array Obj} {cs ds:List DVal} {arr:Array Value} {vs:List Value} {o j:Nat} (hr:ET cur M H cs arr o) (hv:AL cur M H ds vs) (wW:∀u∈vs,u.oneCell'=true)
  (zB:j+ds.length<=cs.length) (qM:o+cs.length<=arr.size):ET cur M H (EF cs j ds) (arr.toList.take (o+j)++vs++arr.toList.drop (o+j+vs.length)).toArray o:=by
 have dX:=AM _ _ hv;unfold EF;refine PG _ _ _ _ (PG _ _ _ _ ?_ ?_) ?_
 ·refine DB _ arr _ o o (fun q hq=> ?_) (PE j _ _ _ hr);have vV:q<j:=by simp at hq;omega
  simp only[dQ0,aR0];rw[bC0 (by simp;omega),cE0 (by omega)];simp
 ·have h:=Iq ds vs (arr.toList.take (o+j)) (arr.toList.drop (o+j+vs.length)) hv wW;have e1:o+(cs.take j).length=(arr.toList.take (o+j)).length:=by simp;omega
  rw[e1];exact h
 ·have hdr:=Ir (j+ds.length) cs arr o hr;have e1:o+(cs.take j++ds).length=o+(j+ds.length):=by simp;omega
  rw[e1];refine DB _ arr _ _ _ (fun q hq=> ?_) hdr;simp only[dQ0];rw[bG0 (by simp;omega),dB0];have e2:o+j+vs.length+(o+(j+ds.length)+q-(arr.toList.take (o+j)++vs).length)=o+(j+ds.length)+q:=by simp;omega
  rw[e2];simp
theorem eO {arr:Array Value} {vs:List Value} {off q:Nat} (qM:off+vs.length<=arr.size) (hq:q<off\/off+vs.length<=q):(arr.toList.take off++vs++arr.toList.drop (off+vs.length)).toArray[q]? =arr[q]? :=by
 simp only[dQ0]
 rcases hq with hq | hq
 ·rw[aR0,bC0 (by simp;omega),cE0 hq];simp
 ·rw[bG0 (by simp;omega),dB0];have e2:off+vs.length+(q-(arr.toList.take off++vs).length)=q:=by simp;omega
  rw[e2];simp
theorem EG {i k n:Nat} (h:i<n):i*k+k<=n*k:=by
 have:=aQ0 k (show i+1<=n from h)
 rwa[cA0,Nat.one_mul]at this
theorem QQ_ {cur:Gp} {M:List Nat} {H:Array Obj} {k i j:Nat} {es:List (List DVal)} {c0 ds:List DVal} {arr:Array Value} {vs:List Value} (hr:Fz cur M H k es arr 0) (hi:es[i]? =some c0) (hv:AL cur M H ds vs) (wW:∀u∈vs,u.oneCell'=true)
  (zB:j+ds.length<=k) (qM:es.length*k<=arr.size):Fz cur M H k (es.set i (EF c0 j ds)) (arr.toList.take (i*k+j)++vs++arr.toList.drop (i*k+j+vs.length)).toArray 0:=by
 have dX:=AM _ _ hv;have jU:i<es.length:=(aB0.1 hi).1;have qT:=EG (k:=k) jU;obtain⟨yG,fC⟩:=EW k es arr 0 i c0 hr hi;refine Hq _ _ _ _ fun q cs hq=> ?_
 rw[List.getElem?_set]at hq
 split at hq
 ·rename_i hiq;subst hiq
  (try simp only[jU,if_true]at hq);simp only[aA0]at hq
  subst hq;refine⟨by simp[EF];omega,?_⟩;simp only[bX0]at fC |-;exact FJ_ fC hv wW (by omega) (by omega)
 ·rename_i hiq;obtain⟨g1,g2⟩:=EW k es arr 0 q cs hr hq;have rX:q<es.length:=(aB0.1 hq).1;refine⟨g1,DB cs arr _ _ _ (fun p hp=>eO (by omega) ?_) g2⟩
  rcases Nat.lt_or_gt_of_ne hiq with h | h
  ·have:=EG (k:=k) h;omega
  ·have:=EG (k:=k) h;omega
theorem iZ {n:Nat} {cs:List DVal}:∀(es:List (List DVal)) (i:Nat),BK es<=n->AV cs<=n->BK (es.set i cs)<=n
 | [],_,_,_=>by simp[BK]
 | e::es,0,h,hc=>by simp only[eW0,BK]at h |-;omega
 | e::es,i+1,h,hc=>by
  simp only[List.set_cons_succ,BK]at h |-;have:=iZ es i (by omega) hc;omega
theorem Ox_ {es:List (List DVal)} {i:Nat} {c:List DVal} (h:es[i]? =some c):AV c<=BK es:=by
 induction es generalizing i with
 | nil=>simp at h
 | cons e es ih =>
  cases i with
  | zero=>simp only[bF0,aA0]at h;subst h;simp only[BK];omega
  | succ i=>have:=ih (i:=i) (by simpa using h);simp only[BK];omega
section
variable {P : Program} {B : Base} {s : DS} {a : Act} {w : World} {loc : Nat -> Loc}
theorem Rel.writeRow {id r n et k bs cap b:Nat} {e:Ent} {es es':List (List DVal)} {arr arr':Array Value} (R:Rel B s a w loc) (he:Ax s.own id=some e) (wB:e.r=r) (qA:e.obj= .row et k bs es)
  (h1:(loc id).blks=[b]) (h2:(loc id).hdr= .slice (some ⟨b,0,none⟩) es.length cap) (h3:w.heap[b]? =some (.cells arr et (0,0))) (h4:es.length<=cap) (h5:cap<=maxLen) (h6:cap*k=arr.size) (h7:es.length*bs<=150000000000000)
  (qZ:es'.length=es.length) (qM:arr'.size=arr.size) (zK:Fz (cu s loc) (hm s loc B.M0) w.heap k es' arr' 0) (zE:BK es'<=n) (hn:CL B s<=n)
  {dst:Option Nat} {d:DVal} {v:Value} (wY:∀i,dst=some i->i<B.nt) (fA:∀cur M h,rd cur M h d v) :
  Rel B ⟨Ce s.slots dst d,upE s.own id r (.row et k bs es')⟩ (a.put dst v) (w.setRow b arr') (DM loc id (loc id)):=by
 obtain⟨qO,hid⟩:=Bf he;have qB:Aj s.own loc id r=some (loc id):=by unfold Aj;rw[he];simp[wB]
 have qE:b∈(loc id).blks:=by rw[h1];simp
 have hw:Upd (Ad s.own loc) w (w.setRow b arr'):=Upd.setRow qO (by rw[hid];exact qE) w _
 have hL:∀b0,b0∈(loc id).blks->b0<(w.setRow b arr').heap.size/\((∃e∈s.own,e.id=id/\b0∈(loc id).blks)\/w.heap.size<=b0):=by
  intro b0 wJ;refine⟨?_,.inl ⟨e,qO,hid,wJ⟩⟩;rw[h1]at wJ;simp only[aG0]at wJ;subst wJ;have:=(aH0.1 h3).1;simpa using this
 have W:=R.weakUp (obj:= .row et k bs es') hn hw hL (.inr qB);refine R.up (hLn:=by rw[h1];simp) (n:=n) hn wY hw ?_ hL (.inr qB) ?_ (fA _ _ _)
 ·intro b0 wJ qK;refine setRow_other w b b0 _ (fun h=>qK e qO hid ?_);rw[h];exact qE
 ·exact⟨by rw[qZ];exact h7,.inr ⟨b,arr',cap,h1,by rw[qZ];exact h2,setRow_heap w b arr _ et (0,0) h3,by omega,h5,by omega,Dk W k es' arr' 0 zE zK⟩⟩
theorem eT (S:St s.own loc B.M0 w.heap) {id et k bs:Nat} {es:List (List DVal)} {e:Ent} (he:Ax s.own id=some e) (qA:e.obj= .row et k bs es) (qK:es≠[]) :
  es.length*bs<=150000000000000/\∃b arr cap,(loc id).blks=[b]/\(loc id).hdr= .slice (some ⟨b,0,none⟩) es.length cap/\w.heap[b]? =some (.cells arr et (0,0))/\es.length<=cap/\cap<=maxLen/\cap*k=arr.size/\Fz (cu s loc) (hm s loc B.M0) w.heap k es arr 0:=by
 obtain⟨qO,hid⟩:=Bf he;have hk:=S.ok e qO;rw[qA]at hk;obtain⟨h0,hk⟩:=hk;rw[hid]at hk;refine⟨h0,?_⟩
 rcases hk with ⟨h,_⟩ | h
 ·exact absurd h qK
 ·exact h
theorem Rel.storeRow {id r n i j:Nat} {et k bs:Nat} {es:List (List DVal)} {c0:List DVal} {e:Ent} {d:DVal} {t:TypeId} {v:Value} {ad:Value} (R:Rel B s a w loc) (he:Ax s.own id=some e) (wB:e.r=r) (qA:e.obj= .row et k bs es)
  (ha:BJ s loc B.M0 w (.rx id r k i j) ad) (hd:BJ s loc B.M0 w d v) (hp:Dr s.own d=true) (hc:tCells P t=some (AU d).length) (hi:es[i]? =some c0) (zB:j+(AU d).length<=k) (zE:mx d<=Nv s.slots) (hn:CL B s<=n) :
  ∃w',(Instr.storeAt t ad v).run P w= .ok () w'/\Rel B ⟨s.slots,upE s.own id r (.row et k bs (es.set i (EF c0 j (AU d))))⟩ a w' (DM loc id (loc id)):=by
 have jU:i<es.length:=(aB0.1 hi).1;obtain⟨h7,b,arr,cap,h1,h2,h3,h4,h5,h6,qT⟩:=eT (B:=B) R.st he qA (by intro h;subst h;simp at jU);have qB:Aj s.own loc id r=some (loc id):=by unfold Aj;rw[he];simp[wB]
 simp only[BJ,rd]at ha;obtain⟨b',qG,rfl⟩:=ha _ qB;rw[h1]at qG;simp only[bL0,and_true]at qG;subst qG;obtain⟨hcv,wW⟩:=Ky R.st hp hd;have dX:=AM _ _ hcv;simp only[bU0]at dX;have bR:=EG (k:=k) jU;have jI:es.length*k<=arr.size:=by rw[<-h6];exact aQ0 _ h4
 have qR:=Pw (P:=P) (w:=w) (b:=b) (off:=i*k+j) (t:=t) (v:=v) h3 (by rw[hc,dX]) (by omega) wW;have qO:=(Bf he).1;have zY:=(BG qO).2;rw[qA]at zY;simp only[GC]at zY;refine⟨_,qR,R.writeRow (dst:=none) (d:= .any) (v:=Go.undef) he wB qA h1 h2 h3 h4 h5 h6 h7 (by simp) (by simp;omega) ?_ ?_ hn (fun i hi=>by simp at hi) (fun _ _ _=>by simp[rd])⟩
 ·have:=QQ_ (j:=j) qT hi hcv wW zB jI;simpa using this
 ·unfold CL at hn;refine iZ _ _ (by omega) ?_;have h8:=Nm c0 j (AU d);have h9:=Ox_ hi;rw[DC]at h8;omega
theorem YN {own:List Ent} {d:DVal} (h:Hs [] d=true):Hs own d=true:=by
 cases d<;>simp_all [Hs,HC,Ax,Bz]
theorem Oq {z:Array Value} {n i q:Nat} (hz:z.size≠0) (hi:i<n) (hq:q<z.size):(madeCells z (n*z.size))[i*z.size+q]? =z[q]? :=by
 have qV:i*z.size+q<n*z.size:=by have:=EG (k:=z.size) hi;omega
 have e1:(i*z.size+q)%z.size=q:=by rw[eB0,Nat.mul_add_mod];exact eR0 hq
 simp[madeCells,qV,e1,hq]
theorem NJ_ {cur:Gp} {M:List Nat} {H:Array Obj} {z:Value} {n:Nat} {k:Nat} (hk:z.cells.size=k) (wW:∀u∈z.cells.toList,u.oneCell'=true) :
  ∀(arr:Array Value) (o:Nat),(∀i q,i<n->q<k->arr[o+(i*k+q)]? =z.cells[q]?)->Fz cur M H k (List.replicate n (z.cells.toList.map CO)) arr o:=by
 intro arr o hq;refine Hq _ _ _ _ fun i cs hi=> ?_
 rw[eD0]at hi
 split at hi
 ·rename_i qV;simp only[aA0]at hi;subst hi;refine⟨by simpa using hk,?_⟩;have h0:=Iq (cur:=cur) (M:=M) (H:=H) (z.cells.toList.map CO) z.cells.toList [] [] (Cd _) wW;refine DB _ _ arr _ _ (fun p hp=> ?_) h0;have qI:p<k:=by simp at hp;omega
  rw[dA0,hq i p qV qI];simp
 ·simp at hi
def tZeroE (P:Program) (t:TypeId):Option (List DVal):=match P.underlying t with
 | some (.slice e)=>tZero P e
 | _=>none
theorem Ra_ (l:List Value):AV (l.map CO)=0:=by
 have h1:∀v,mx (CO v)=0:=by
  intro v;unfold CO
  split<;>(try split)<;>simp[mx]
 induction l with
 | nil=>simp[AV]
 | cons v l ih=>simp[AV,h1,ih]
theorem lA {n m:Nat} {cs:List DVal} (h:AV cs<=n):BK (List.replicate m cs)<=n:=TR fun d hd=>by rw[List.eq_of_mem_replicate hd];exact h
theorem Rel.makeRow {id n:Nat} {t e:TypeId} {k bs:Nat} {zs:List DVal} {kl kc:IntKind} {l c:Int} {dst:Option Nat} (R:Rel B s a w loc) (qS:CL B s<=n) (wY:∀i,dst=some i->i<B.nt)
  (ht:tElem P t=some (k,bs)) (jT:tElemId P t=some e) (hz:tZeroE P t=some zs) (hzo:zs.all (Hs [])=true) (yZ:zs.length=k) (h0:0<=l) (hlc:l<=c) (hb:c*bs<=150000000000000) (hl:c<=9223372036854775807) :
  ∃v' w' L,(Instr.makeSlice t (.int kl l) (.int kc c)).run P w= .ok v' w'/\Rel B ⟨Ce s.slots dst (.osl id n),upE s.own id n (.row e k bs (List.replicate l.toNat zs))⟩ (a.put dst v') w' (DM loc id L):=by
 obtain⟨e',i,hu,hi,qM,hby,_⟩:=Cc ht;have mV:e'=e:=by unfold tElemId at jT;rw[hu]at jT;simpa using jT
 subst mV;unfold tZeroE at hz;rw[hu]at hz;simp only at hz
 obtain⟨z,jS,hzc⟩:∃z,i.zero=some z/\zs=z.cells.toList.map CO:=by
  unfold tZero at hz;rw[hi]at hz;simp only at hz;rw[bH0]at hz;obtain⟨z,h1,h2⟩:=hz;exact⟨z,h1,h2.symm⟩
 subst hzc;simp only[aJ0,bU0]at yZ
 have wW:∀u∈z.cells.toList,u.oneCell'=true:=by
  intro u zL;have zF:AL (cu s loc) (hm s loc B.M0) w.heap (z.cells.toList.map CO) z.cells.toList:=Cd _;exact Iv R.st (z.cells.toList.map CO) z.cells.toList (bA0.2 fun d hd=>YN (bA0.1 hzo d hd)) zF u zL
 subst qM;subst hby;have qR:=run_make (P:=P) w t e' i z hu hi jS kl kc l c h0 hlc (by rw[Int.mul_comm];omega) hl;have hw:Upd (Ad s.own loc) w (w.alloc (.cells (madeCells z.cells (c.toNat*i.size)) e')):=Upd.alloc _ _ _
 have hL:∀b0,b0∈(⟨[w.heap.size],.slice (some ⟨w.heap.size,0,none⟩) l.toNat c.toNat⟩:Loc).blks->b0<(w.alloc (.cells (madeCells z.cells (c.toNat*i.size)) e')).heap.size/\((∃e∈s.own,e.id=id/\b0∈(loc id).blks)\/w.heap.size<=b0):=by
  intro b0 wJ;simp only[aG0]at wJ;subst wJ;exact⟨by simp,.inr (Nat.le_refl _)⟩
 refine⟨_,_,⟨[w.heap.size],.slice (some ⟨w.heap.size,0,none⟩) l.toNat c.toNat⟩,qR,?_⟩;have hlN:(List.replicate l.toNat (z.cells.toList.map CO)).length=l.toNat:=dG0
 have hbN:l.toNat*i.bytes<=150000000000000:=by
  have h1:(c.toNat:Int)*i.bytes<=150000000000000:=by rw[Int.toNat_of_nonneg (by omega)];exact hb
  have h2:c.toNat*i.bytes<=150000000000000:=by omega
  exact Nat.le_trans (aQ0 _ (by omega)) h2
 refine R.up qS wY hw (fun b hb _=>by simp only[World.alloc,bZ0];rw[if_neg (by omega)]) hL (.inl (Nat.le_refl _)) ⟨by rw[hlN];exact hbN,.inr ⟨w.heap.size,_,c.toNat,rfl,by rw[hlN],heap_alloc_new w _,by rw[hlN];omega,by unfold maxLen;omega,by simp[size_madeCells],?_⟩⟩ ?_
 ·by_cases vT:i.size=0
  ·refine Hq _ _ _ _ fun q cs hq=> ?_
   rw[eD0]at hq
   split at hq
   ·simp only[aA0]at hq;subst hq;have:z.cells.toList=[]:=bP0 (by simpa[vT]using yZ);rw[this];simp[vT,ET]
   ·simp at hq
  ·refine NJ_ yZ wW _ _ fun q p hq hp=> ?_
   rw[bX0];have:=Oq (z:=z.cells) (n:=c.toNat) (i:=q) (q:=p) (by omega) (by omega) (by omega)
   rwa[yZ]at this
 ·simp only[rd];intro lc wD;rw[EL]at wD;simp only[aA0]at wD;rw[<-wD]
def CY (es:List (List DVal)) (i m:Nat) (zs:List DVal):List (List DVal):=es.take i++List.replicate m zs++es.drop (i+m)
theorem KK_ {cur:Gp} {M:List Nat} {H:Array Obj} {k i m:Nat} {es:List (List DVal)} {z:Value} {arr:Array Value} (hr:Fz cur M H k es arr 0) (hb:i+m<=es.length) (yZ:z.cells.size=k) (wW:∀u∈z.cells.toList,u.oneCell'=true) (hk:k≠0) (qM:es.length*k<=arr.size) :
  Fz cur M H k (CY es i m (z.cells.toList.map CO)) (arr.toList.take (i*k)++(Builtin.zeroCells z.cells m).toList++arr.toList.drop (i*k+(Builtin.zeroCells z.cells m).toList.length)).toArray 0:=by
 have hlz:(Builtin.zeroCells z.cells m).toList.length=m*k:=by simp[size_zeroCells,yZ]
 have zB:i*k+m*k<=arr.size:=by rw[<-cA0];exact Nat.le_trans (aQ0 _ hb) qM
 refine Hq _ _ _ _ fun q cs hq=> ?_
 unfold CY at hq
 by_cases h1:q<i
 ·rw[aR0,bC0 (by simp;omega),cE0 h1]at hq;obtain⟨g1,g2⟩:=EW k es arr 0 q cs hr hq;have:=EG (k:=k) h1;exact⟨g1,DB cs arr _ _ _ (fun p hp=>eO (by omega) (.inl (by omega))) g2⟩
 ·by_cases h2:q<i+m
  ·rw[aR0,bG0 (by simp;omega),bC0 (by simp;omega),eD0,if_pos (by simp;omega)]at hq;simp only[aA0]at hq;subst hq;refine⟨by simpa using yZ,?_⟩;have h0:=Iq (cur:=cur) (M:=M) (H:=H) (z.cells.toList.map CO) z.cells.toList [] [] (Cd _) wW;refine DB _ _ _ _ _ (fun p hp=> ?_) h0;have qI:p<k:=by simp at hp;omega
   have h3:=EG (k:=k) (show q-i<m by omega);have h4:q*k=i*k+(q-i)*k:=by rw[<-cA0];congr 1;omega
   simp only[dQ0,bX0];rw[aR0,bG0 (by simp;omega),bC0 (by simp[size_zeroCells,yZ];omega)];have e1:q*k+p-(arr.toList.take (i*k)).length=(q-i)*k+p:=by simp;omega
   rw[e1];have h5:=Oq (z:=z.cells) (n:=m) (i:=q-i) (q:=p) (by omega) (by omega) (by omega);rw[yZ]at h5;have e2:Builtin.zeroCells z.cells m=madeCells z.cells (m*k):=by simp[Builtin.zeroCells,madeCells,yZ]
   rw[e2];simpa using h5
  ·rw[bG0 (by simp;omega),dB0]at hq;have e1:i+m+(q-(es.take i++List.replicate m (z.cells.toList.map CO)).length)=q:=by simp;omega
   rw[e1]at hq;obtain⟨g1,g2⟩:=EW k es arr 0 q cs hr hq;refine⟨g1,DB cs arr _ _ _ (fun p hp=>eO (by omega) (.inr ?_)) g2⟩;have:(i+m)*k<=q*k:=aQ0 _ (by omega);rw[cA0]at this;omega
theorem Ia_ (S:St s.own loc B.M0 w.heap) {d:DVal} {id r bs0 i m:Nat} {et k bs:Nat} {es:List (List DVal)} {e:Ent} {v:Value} (he:Ax s.own id=some e) (wB:e.r=r) (qA:e.obj= .row et k bs es)
  (hv:BJ s loc B.M0 w d v) (hd:d= .osl id r/\i=0/\m=es.length\/d= .vw id r k bs0 i m):∃a cap,v= .slice a m cap/\(0<m->∃b,(loc id).blks=[b]/\a=some ⟨b,i*k,none⟩):=by
 obtain⟨qB,a,cap,hh,g1,g2,g3⟩:=PA S he wB qA
 rcases hd with ⟨rfl,rfl,rfl⟩ | rfl
 ·simp only[BJ,rd]at hv;have:=hv _ qB;rw[hh]at this;refine⟨a,cap,this,fun h=> ?_⟩
  rcases g3 with ⟨rfl,_⟩ | ⟨b,hb,rfl⟩
  ·simp at h
  ·exact⟨b,hb,by simp⟩
 ·simp only[BJ,rd]at hv;obtain⟨a,cap,rfl,_,_,_,h,_⟩:=hv _ qB;exact⟨a,cap,rfl,h⟩
theorem Rel.clearRow {d:DVal} {id r k0 bs0 i m n:Nat} {t ty e':TypeId} {et k bs:Nat} {es:List (List DVal)} {zs:List DVal} {e:Ent} {v:Value} {dst:Option Nat} (R:Rel B s a w loc) (he:Ax s.own id=some e) (wB:e.r=r) (qA:e.obj= .row et k bs es)
  (hv:BJ s loc B.M0 w d v) (hd:d= .osl id r/\i=0/\m=es.length\/d= .vw id r k bs0 i m) (hb:i+m<=es.length) (ht:tElem P t=some (k,k0)) (hz:tZeroE P t=some zs) (hzo:zs.all (Hs [])=true) (yZ:zs.length=k) (hk:0<k)
  (qS:CL B s<=n) (wY:∀i,dst=some i->i<B.nt) :
  ∃w',(Builtin.clear_ #[t] ty #[v]).run P w= .ok (.tuple #[]) w'/\Rel B ⟨Ce s.slots dst (.tup []),upE s.own id r (.row et k bs (CY es i m zs))⟩ (a.put dst (.tuple #[])) w' (DM loc id (loc id)):=by
 obtain⟨e1,i1,hu,hi,qM,hby,_⟩:=Cc ht;unfold tZeroE at hz;rw[hu]at hz;simp only at hz
 obtain⟨z,jS,hzc⟩:∃z,i1.zero=some z/\zs=z.cells.toList.map CO:=by
  unfold tZero at hz;rw[hi]at hz;simp only at hz;rw[bH0]at hz;obtain⟨z,h1,h2⟩:=hz;exact⟨z,h1,h2.symm⟩
 subst hzc;simp only[aJ0,bU0]at yZ;have zF:∀M,AL (cu s loc) M w.heap (z.cells.toList.map CO) z.cells.toList:=fun M=>Cd _
 have wW:∀u∈z.cells.toList,u.oneCell'=true :=
  Iv R.st (z.cells.toList.map CO) z.cells.toList (bA0.2 fun d hd=>YN (bA0.1 hzo d hd)) (zF _)
 obtain⟨ad,cap,rfl,zV⟩:=Ia_ (B:=B) R.st he wB qA hv hd;have jO:∀cur M h,rd cur M h (.tup []) (.tuple #[]):=fun _ _ _=>by simp only[rd];exact⟨#[],rfl,by simp[AL]⟩
 have qO:=(Bf he).1;have hid:=(Bf he).2;have zY:=(BG qO).2;rw[qA]at zY;simp only[GC]at zY
 by_cases hm:m=0
 ·subst hm;have jH:CY es i 0 (z.cells.toList.map CO)=es:=by simp[CY]
  rw[jH];refine⟨w,by cases ad<;>simp[Builtin.clear_,run_underlying hu],?_⟩;have qB:Aj s.own loc id r=some (loc id):=by unfold Aj;rw[he];simp[wB]
  have zO:=R.st.ok e qO;rw[qA,hid]at zO
  have hL:∀b0,b0∈(loc id).blks->b0<w.heap.size/\((∃e∈s.own,e.id=id/\b0∈(loc id).blks)\/w.heap.size<=b0):=fun b0 wJ =>
   ⟨R.st.lt b0 (aS0 _ (Bw qO (by rw[hid];exact wJ))),.inl ⟨e,qO,hid,wJ⟩⟩
  have W:=R.weakUp (obj:= .row et k bs es) qS (Upd.refl _ w) hL (.inr qB);unfold CL at qS;exact R.up (hLn:=by have:=EM R.st.bl e qO;rwa[hid]at this) (n:=n) qS wY (Upd.refl _ w) (fun _ _ _=>rfl) hL (.inr qB) (BF W (by simp only[GC];omega) (fun _ _ _ h=>h) zO) (jO _ _ _)
 ·obtain⟨b,qE,rfl⟩:=zV (by omega);obtain⟨h7,b',arr,cap',h1,h2,h3,h4,h5,h6,qT⟩:=eT (B:=B) R.st he qA (by intro h;subst h;simp at hb;omega);rw[h1]at qE;simp only[bL0,and_true]at qE;subst qE;have jI:es.length*k<=arr.size:=by rw[<-h6];exact aQ0 _ h4
  have hzn:(Builtin.zeroCells z.cells m).toList.length=m*k:=by simp[size_zeroCells,yZ]
  have zB:i*k+m*k<=arr.size:=by rw[<-cA0];exact Nat.le_trans (aQ0 _ hb) jI
  have hzone:∀u∈(Builtin.zeroCells z.cells m).toList,u.oneCell'=true:=by
   intro u zL;simp only[Builtin.zeroCells,eS0,aU0]at zL;obtain⟨j,_,rfl⟩:=zL;have kU:0<z.cells.size:=by omega
   have qV:j%z.cells.size<z.cells.size:=Nat.mod_lt _ kU;rw[getElem!_pos z.cells _ qV];exact wW _ (by simp)
  have qD:=run_storeCells_at P b' (i*k) et (Builtin.zeroCells z.cells m).toList 0 arr w h3 (by rw[hzn];omega) hzone;simp only[cT0]at qD;obtain⟨m',rfl⟩:∃m',m=m'+1:=⟨m-1,by omega⟩;refine⟨_,?_,R.writeRow he wB qA h1 h2 h3 h4 h5 h6 h7 (by simp[CY];omega) (by simp only[dM0,aC0,aT0,cD0,bU0,hzn];rw[<-bU0];rw[<-bU0]at zB;omega) (KK_ qT hb yZ wW (by omega) jI) ?_ qS wY jO⟩
  ·simp[Builtin.clear_,run_underlying hu,zeroValue,typeInfo,hi,jS,qD]
  ·unfold CY;unfold CL at qS;rw[BX,BX];have:=Ix i es;have:=Iy (i+(m'+1)) es;have:=lA (n:=0) (m:=m'+1) (dP0 (Ra_ z.cells.toList));omega
end
end Go.Dm
end
