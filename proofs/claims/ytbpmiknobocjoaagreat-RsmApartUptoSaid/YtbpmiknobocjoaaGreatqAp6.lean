/- Parts of a proof, laid together: EnF, EnG. -/
import Derived.Sort.LoopGhostIn
import Derived.RangeFuncCalls
import Derived.RangeFuncLeaves
import Derived.OrdersIn
import Derived.Orders
import Derived.Test.YtbpmiknobocjoaaGreatqAp5
set_option linter.unusedSimpArgs false
set_option maxHeartbeats 8000000
set_option linter.unusedVariables false
set_option linter.unusedSectionVars false
section
namespace Go.Dm
variable [DMode]
def wd (ro:Option Nat):Fence:={ fn:=fun _=>True,depth:=none,alive:=false,round:=ro }
theorem KA {P:Program} {f:FuncId} {args:Array Value} {w:World} {R:Ending->World->Prop} (ro:Option Nat) (n:Nat) (h:Calls P f args w R):CallsIn (wd ro) n P f args w R:=by
 have h:=(callsIn_wide (n:=n)).2 h
 cases ro with
 | none=>exact h
 | some l=>exact CallsIn.inRound l h
section
variable (P : Program) (B : Base)
def QQ (Q:Exit->DS->Prop):Exit->Act->World->Prop:=fun e a w=>∃s loc,Q e s/\Rel B s a w loc
def DW (c:Code) (Q:Exit->DS->Prop) (s:DS):Prop:=∀a w loc,Rel B s a w loc->c.wpIn (wd B.ro) 0 P (QQ B Q) a w
def IG (K:DS->Prop) (Q:Exit->DS->Prop):Exit->DS->Prop
 | .normal,s=>K s
 | e,s=>Q e s
def oO (id:Nat) (Q:Exit->DS->Prop):Exit->DS->Prop
 | .exit id',s=>if id'=id then Q .normal s else Q (.exit id') s
 | e,s=>Q e s
def Sub (s s':DS):Prop:=∀a w loc,Rel B s a w loc->∃loc',Rel B s' a w loc'
end
section
variable {P : Program} {B : Base} {Q : Exit -> DS -> Prop} {s s' : DS}
theorem ER {c:Code} (h:Sub B s s') (hw:DW P B c Q s'):DW P B c Q s:=fun a w loc R =>
 let ⟨loc',R'⟩:=h a w loc R;hw a w loc' R'
theorem AC {x y:Code} (h:∀K:DS->Prop,(∀s,DW P B y Q s->K s)->DW P B x (IG K Q) s):DW P B (.seq x y) Q s:=by
 intro a w loc R;refine wpIn_seq (wpIn_mono (h (fun s=>DW P B y Q s) (fun _ h=>h) a w loc R) ?_);rintro e a' w' ⟨s',loc',hq,R'⟩
 cases e<;>first
  | exact hq a' w' loc' R'
  | exact⟨s',loc',hq,R'⟩
theorem Av (h:Q .normal s):DW P B .skip Q s:=fun a w loc R=>wpIn_skip ⟨s,loc,h,R⟩
theorem Aw {id:Nat} (h:Q (.exit id) s):DW P B (.exit id) Q s:=fun a w loc R=>wpIn_exit ⟨s,loc,h,R⟩
theorem AE (h:Q .ret s):DW P B .ret Q s:=fun a w loc R=>wpIn_ret ⟨s,loc,h,R⟩
theorem Ao {id:Nat} {c:Code} (h:DW P B c (oO id Q) s):DW P B (.block id c) Q s:=by
 intro a w loc R;refine wpIn_block (wpIn_mono (h a w loc R) ?_);rintro e a' w' ⟨s',loc',hq,R'⟩;cases e<;>try exact⟨s',loc',hq,R'⟩
 rename_i id';simp only[oO]at hq;simp only[Exit.inBlock]
 split
 ·rename_i h;rw[if_pos h]at hq;exact⟨s',loc',hq,R'⟩
 ·rename_i h;rw[if_neg h]at hq;exact⟨s',loc',hq,R'⟩
theorem Rel.ev {a:Act} {w:World} {loc:Nat->Loc} (R:Rel B s a w loc) (x:Operand):Bg s loc B.M0 w (ev s.slots x) (a.eval x):=HQ_ R.sl x
theorem Gq_ {c:Operand} {x y:Code} {b:Bool} (hc:ev s.slots c= .bool b) (ht:b=true->DW P B x Q s) (hf:b=false->DW P B y Q s):DW P B (.cond c x y) Q s:=by
 intro a w loc R;have h:=R.ev c;rw[hc]at h;simp only[Bg,rd]at h;exact wpIn_cond_split h (fun hb=>ht hb a w loc R) (fun hb=>hf hb a w loc R)
def Al (B:Base) {X:Type} (S:X->DS) (μ:X->Nat) (n:Nat) (s':DS):Prop:=∃x',Sub B s' (S x')/\μ x'<n
theorem Al.mk {X:Type} {S:X->DS} {μ:X->Nat} {n:Nat} (x':X) (h:Sub B s' (S x')) (hm:μ x'<n):Al B S μ n s':=⟨x',h,hm⟩
theorem Ai {c:Code} {X:Type} (S:X->DS) (μ:X->Nat) (x₀:X) (h₀:Sub B s (S x₀))
  (round:∀x,DW P B c (IG (Al B S μ (μ x)) Q) (S x)):DW P B (.loop c) Q s:=by
 intro a w loc R;refine wpIn_loop_ghost (fun n a w=>∃x loc,μ x=n/\Rel B (S x) a w loc) (μ x₀) ?_ ?_
 ·obtain⟨loc',R'⟩:=h₀ a w loc R;exact⟨x₀,loc',rfl,R'⟩
 ·rintro n a w ⟨x,loc,rfl,R⟩;refine wpIn_mono (round x a w loc R) ?_;rintro e a' w' ⟨s',loc',hq,R'⟩;cases e<;>try exact⟨s',loc',hq,R'⟩
  obtain⟨x',hs,qV⟩:=hq;obtain⟨loc'',R''⟩:=hs a' w' loc' R';exact⟨μ x',qV,x',loc'',rfl,R''⟩
end
def Enters (P:Program) (f:FuncId):Prop:=∀args w,(callFunc f args).run P w= .ok (.enter f args) w
def Af (P:Program) (f:FuncId) (args:List DVal) (d:DVal):Prop :=
 Enters P f/\mx d=0/\∀(cur:ES) (M:List Nat) (w:World) (vs:Array Value),(∀b∈M,b<w.heap.size)->rdV cur M w.heap args vs.toList ->
  Calls P f vs w fun e w'=>∃v,e= .returned v/\Upd [] w w'/\rd cur M w'.heap d v
mutual
def Ev : DVal->Prop
 | .int k n=>KV k n
 | .str s=>s.size<=maxLen
 | .ref cs=>KI cs
 | .sl _ bs es=>es.length*bs<=150000000000000/\es.length<=maxLen/\xW es
 | .mp ks vs=>KI ks/\KI vs
 | .fn _ us cs=>KI us/\KI cs
 | .ifc _ d=>Ev d
 | .agg cs=>KI cs
 | .tup cs=>KI cs
 | _=>True
def KI : List DVal->Prop
 | []=>True
 | d::ds=>Ev d/\KI ds
def xW : List (List DVal)->Prop
 | []=>True
 | cs::es=>KI cs/\xW es
end
section
variable {cur : ES} {M : List Nat} {h : Array Obj}
mutual
theorem oZ : ∀(d:DVal) (v:Value),rd cur M h d v->Ev d
 | .any,_,_=>by simp[Ev]
 | .undef,_,_=>by simp[Ev]
 | .sel _ _,_,_=>by simp[Ev]
 | .bool _,_,_=>by simp[Ev]
 | .int _ _,_,hr=>by simp only[rd]at hr;simp only[Ev];exact hr.2
 | .str _,_,hr=>by simp only[rd]at hr;simp only[Ev];exact hr.2
 | .nilp,_,_=>by simp[Ev]
 | .ref cs,v,hr=>by
  simp only[rd]at hr;obtain⟨b,off,arr,ty,fz,_,_,_,h4⟩:=hr;simp only[Ev];exact Vl cs arr off h4
 | .bx _ _ _,_,_=>by simp[Ev]
 | .rx _ _ _ _ _,_,_=>by simp[Ev]
 | .nilsl,_,_=>by simp[Ev]
 | .esl,_,_=>by simp[Ev]
 | .sl k bs es,v,hr=>by
  simp only[rd]at hr;obtain⟨a,cap,h1,h2,fG,h2'',h3⟩:=hr;simp only[Ev];refine⟨h2'',Nat.le_trans h2 fG,?_⟩
  rcases h3 with ⟨rfl,_⟩ | ⟨b,off,arr,ty,fz,g1,g2,g3,g4⟩
  ·simp[xW]
  ·exact eU k es arr off g4
 | .osl _ _,_,_=>by simp[Ev]
 | .vw _ _ _ _ _ _,_,_=>by simp[Ev]
 | .nilmp,_,_=>by simp[Ev]
 | .mp ks vs,v,hr=>by
  simp only[rd]at hr;obtain⟨_,es,_,_,_,_,_,h5,h6⟩:=hr;simp only[Ev];exact⟨Fh ks _ h5,Fh vs _ h6⟩
 | .omp _ _,_,_=>by simp[Ev]
 | .pk _ _,_,_=>by simp[Ev]
 | .nilfn,_,_=>by simp[Ev]
 | .fn f us cs,v,hr=>by
  simp only[rd]at hr;obtain⟨us',cs',h1,h2,h3⟩:=hr;simp only[Ev];exact⟨Fh us _ h2,Fh cs _ h3⟩
 | .nilifc,_,_=>by simp[Ev]
 | .pin _,_,_=>by simp[Ev]
 | .ifc t d,v,hr=>by
  simp only[rd]at hr;obtain⟨u,h1,h2⟩:=hr;simp only[Ev];exact oZ d u h2
 | .agg cs,v,hr=>by
  simp only[rd]at hr;obtain⟨us,h1,h2⟩:=hr;simp only[Ev];exact Fh cs _ h2
 | .tup cs,v,hr=>by
  simp only[rd]at hr;obtain⟨us,h1,h2⟩:=hr;simp only[Ev];exact Fh cs _ h2
theorem Vl : ∀(ds:List DVal) (arr:Array Value) (o:Nat),rdC cur M h ds arr o->KI ds
 | [],_,_,_=>by simp[KI]
 | d::ds,arr,o,hr=>by
  simp only[rdC]at hr;obtain⟨⟨v,_,_,h2⟩,h3⟩:=hr;simp only[KI];exact⟨oZ d v h2,Vl ds arr _ h3⟩
theorem eU : ∀(k:Nat) (es:List (List DVal)) (arr:Array Value) (o:Nat),Dt cur M h k es arr o->xW es
 | _,[],_,_,_=>by simp[xW]
 | k,cs::es,arr,o,hr=>by
  simp only[Dt]at hr;obtain⟨_,h2,h3⟩:=hr;simp only[xW];exact⟨Vl cs arr o h2,eU k es arr _ h3⟩
theorem Fh : ∀(ds:List DVal) (vs:List Value),rdV cur M h ds vs->KI ds
 | [],_,_=>by simp[KI]
 | d::ds,vs,hr=>by
  simp only[rdV]at hr;obtain⟨v,r,_,h2,h3⟩:=hr;simp only[KI];exact⟨oZ d v h2,Fh ds r h3⟩
end
end
def isE : DVal->Bool
 | .sl _ _ []=>true
 | _=>false
def wk1 (d d':DVal):Prop:=d=d'\/((d= .nilsl\/d= .esl)/\isE d'=true)
def wkL : List DVal->List DVal->Prop
 | [],[]=>True
 | d::ds,e::es=>wk1 d e/\wkL ds es
 | _,_=>False
def wk : DVal->DVal->Prop
 | .tup a,.tup b=>wkL a b
 | .agg a,.agg b=>wkL a b
 | d,d'=>wk1 d d'
section
variable {cur : ES} {M : List Nat} {h : Array Obj}
theorem CJ_ {d d':DVal} {v:Value} (hw:wk1 d d') (hr:rd cur M h d v):rd cur M h d' v:=by
 rcases hw with rfl | ⟨hd,he⟩
 ·exact hr
 ·unfold isE at he
  split at he
  ·rcases hd with rfl | rfl
   ·simp only[rd]at hr |-;subst hr;exact⟨none,0,rfl,by simp,by unfold maxLen;omega,by simp,.inl ⟨by simp,fun _=>rfl⟩⟩
   ·simp only[rd]at hr |-;obtain⟨ad,cap,rfl,hc⟩:=hr;exact⟨some ad,cap,rfl,by simp,hc,by simp,.inl ⟨by simp,by simp⟩⟩
  ·simp at he
theorem eR : ∀{ds es:List DVal} {vs:List Value},wkL ds es->rdV cur M h ds vs->rdV cur M h es vs
 | [],[],_,_,hr=>hr
 | d::ds,e::es,vs,hw,hr=>by
  simp only[wkL]at hw;simp only[rdV]at hr |-;obtain⟨v,r,rfl,h1,h2⟩:=hr;exact⟨v,r,rfl,CJ_ hw.1 h1,eR hw.2 h2⟩
theorem Xv {d d':DVal} {v:Value} (hw:wk d d') (hr:rd cur M h d v):rd cur M h d' v:=by
 unfold wk at hw
 split at hw
 ·simp only[rd]at hr |-;obtain⟨us,rfl,h1⟩:=hr;exact⟨us,rfl,eR hw h1⟩
 ·simp only[rd]at hr |-;obtain⟨us,rfl,h1⟩:=hr;exact⟨us,rfl,eR hw h1⟩
 ·exact CJ_ hw hr
end
def wkA : List DVal->List DVal->Prop
 | [],[]=>True
 | d::ds,e::es=>wk d e/\wkA ds es
 | _,_=>False
theorem eT {cur:ES} {M:List Nat} {h:Array Obj}:∀{ds es:List DVal} {vs:List Value},wkA ds es->rdV cur M h ds vs->rdV cur M h es vs
 | [],[],_,_,hr=>hr
 | [],_::_,_,hw,_=>hw.elim
 | _::_,[],_,hw,_=>hw.elim
 | d::ds,e::es,vs,hw,hr=>by
  simp only[rdV]at hr |-;obtain⟨v,r,rfl,h1,h2⟩:=hr;exact⟨v,r,rfl,Xv hw.1 h1,eT hw.2 h2⟩
structure Cont where
 f:DS->Prop
structure ContV where
 f:DVal->Prop
structure ContE where
 f:DVal->List Ent->Prop
def BN (P:Program) (g:FuncId) (args:List DVal) (K:ContV):Prop:=∃args' d,wkA args args'/\Af P g args' d/\K.f d
theorem oR (d:DVal):wk d d:=by
 have h1:∀d,wk1 d d:=fun d=> .inl rfl
 have hL:∀l,wkL l l:=by
  intro l
  induction l with
  | nil=>trivial
  | cons d l ih=>exact⟨h1 d,ih⟩
 cases d<;>first
  | exact hL _
  | exact h1 _
theorem WW : ∀l,wkA l l
 | []=>trivial
 | d::l=>⟨oR d,WW l⟩
theorem Ak {P:Program} {g:FuncId} {args:List DVal} {d:DVal} {K:ContV} (h:Af P g args d) (hk:K.f d):BN P g args K:=⟨args,d,WW _,h,hk⟩
theorem Aj {P:Program} {g:FuncId} {args args':List DVal} {d:DVal} {K:ContV} (h:Af P g args' d) (hw:wkA args args') (hk:K.f d):BN P g args K:=⟨args',d,hw,h,hk⟩
theorem KX {P:Program} {g:FuncId} {args:List DVal} {K:ContV} (h:BN P g args K):∃d,Af P g args d/\K.f d:=by
 obtain⟨args',d,hw,h,hk⟩:=h;exact⟨d,⟨h.1,h.2.1,fun cur M w vs hM hr=>h.2.2 cur M w vs hM (eT hw hr)⟩,hk⟩
def gB : DVal->Bool->Bool
 | .bool t,true=>t
 | .bool t,false=> !t
 | .sel c (.bool t),true=>c&&t
 | .sel c (.bool t),false=>c&& !t
 | _,_=>false
def gOK : DVal->Bool
 | .bool _=>true
 | .sel _ (.bool _)=>true
 | .undef=>true
 | _=>false
def JI : DVal->DVal
 | .sel _ d=>d
 | d=>d
def okG (c:Bool):DVal->Prop
 | .sel c' _=>c=true->c'=true
 | _=>True
def FQ (c:Bool) (e:Operand->DVal):List Operand->Prop
 | []=>True
 | x::r=>okG c (e x)/\FQ c e r
def Kb (c:Bool) (e:Operand->DVal) (op:Op):Prop:=match op with
 | .pick x a b=>okG c (e x)/\∀t,JI (e x)= .bool t->(t=true->okG c (e a))/\(t=false->okG c (e b))
 | op=>FQ c e op.operands.toList
def Bf (l:List (Nat×DVal)) (x:Operand):DVal:=JI (ev l x)
def Bs (nt:Nat):Option Nat->Bool
 | none=>true
 | some i=>decide (i<nt)
def callee (e:Operand->DVal) (c:Call):Option (FuncId×List DVal) :=
 match c.callee with
 | .value f=>match e f with
  | .fn (.func g) us cs=>some (g,us++c.args.toList.map e++cs)
  | _=>none
 | _=>none
section
variable (P : Program) (nt : Nat)
def kD (K:Cont) (s:DS) (dst:Option Nat):ContV:=⟨fun d=>K.f ⟨putS s.slots dst d,s.own⟩⟩
def kG (K:Cont) (c:Bool) (s:DS) (dst:Option Nat):ContV:=⟨fun d=>K.f ⟨putS s.slots dst (.sel c d),s.own⟩⟩
theorem IW_ (K:Cont) (s:DS) (dst:Option Nat) (d:DVal):(kD K s dst).f d=K.f ⟨putS s.slots dst d,s.own⟩:=id rfl
theorem IV_ (K:Cont) (c:Bool) (s:DS) (dst:Option Nat) (d:DVal):(kG K c s dst).f d=K.f ⟨putS s.slots dst (.sel c d),s.own⟩:=id rfl
def Et_ (c:Bool) (g:FuncId) (args:List DVal) (K:ContV):Prop:=match c with
 | true=>BN P g args K
 | false=>K.f .any
def Hj_ (c:Bool) (o:Oper) (s:DS) (K:Cont):Prop :=
 Bs nt o.dst=true/\Kb c (ev s.slots) o.op/\match o.op with
  | .call cl=>match callee (Bf s.slots) cl with
   | some (g,args)=>Et_ P c g args (kG K c s o.dst)
   | none=>(c=true->DV P s.own (Bf s.slots) o.op)/\K.f ⟨putS s.slots o.dst (.sel c (Bm P s.own (Bf s.slots) o.op)),s.own⟩
  | op=>(c=true->DV P s.own (Bf s.slots) op)/\K.f ⟨putS s.slots o.dst (.sel c (Bm P s.own (Bf s.slots) op)),s.own⟩
def BI (ops:Array Oper) (s:DS) (j:Nat):DVal:=match (ops[j]?).bind (·.dst)with | some t=>getS s.slots t | none=> .any
end
section
variable {P : Program} {B : Base} {s : DS} {a : Act} {w : World} {loc : Nat -> Loc}
theorem UA {c:Bool} {g:FuncId} {args:List DVal} {K:ContV} (h:Et_ P c g args K):∃d,(c=true->Af P g args d)/\K.f d:=by
 cases c
 ·exact⟨.any,(fun h=>by simp at h),h⟩
 ·obtain⟨d,h1,h2⟩:=KX h;exact⟨d,fun _=>h1,h2⟩
theorem Jh {o:Oper} (h:Bs B.nt o.dst=true):∀i,o.dst=some i->i<B.nt:=by
 intro i hi;rw[hi]at h;simpa[Bs]using h
theorem Rel.lt (R:Rel B s a w loc):∀b∈hm s loc B.M0,b<w.heap.size:=R.st.lt
theorem MA {o:Oper} {c:Call} (ho:o.op= .call c) {ρ:Operand->Value} {M0:List Nat} {e:Operand->DVal} (hρ:∀x∈c.operands,Bg s loc M0 w (e x) (ρ x)) {g:FuncId} {args:List DVal} (hc:callee e c=some (g,args)) (he:Enters P g) :
  ∃vs:Array Value,(execOp ρ o).run P w= .ok (.enter g vs) w/\rdV (cu s loc) (hm s loc M0) w.heap args vs.toList:=by
 obtain⟨dst,op,type,Fx,after,guard⟩:=o;simp only at ho;subst ho;obtain⟨cal,ars,ats⟩:=c;unfold callee at hc
 cases cal with
 | value f =>
  simp only at hc
  split at hc
  ·rename_i g' us cs hf;simp only[aA0,aV0]at hc;obtain⟨rfl,rfl⟩:=hc;have hx:=hρ f (by simp[Call.operands]);rw[hf]at hx;simp only[Bg,rd]at hx;obtain⟨us',cs',hv,h1,h2⟩:=hx
   have key:∀l:List Operand,(∀x∈l,Bg s loc M0 w (e x) (ρ x))->rdV (cu s loc) (hm s loc M0) w.heap (l.map e) (l.map ρ):=by
    intro l
    induction l with
    | nil=>intro _;simp[rdV]
    | cons x l ih=>intro hl;simp only[List.map_cons,rdV];exact⟨_,_,rfl,hl x aH0,ih fun y hy=>hl y (aF0 _ hy)⟩
   refine⟨us'++ars.map ρ++cs',?_,?_⟩
   ·simp only[execOp,resolve,hv,Deferred.ofValue,Sem.run_bind,Sem.run_pure,Result.andThen_ok,invoke];exact he _ _
   ·simp only[Array.toList_append,dS0];exact Cf _ _ _ _ (Cf _ _ _ _ h1 (key _ fun x hx=>hρ x (by simp[Call.operands];right;simpa using hx))) h2
  ·simp at hc
 | invoke r m=>simp at hc
 | builtin b=>simp at hc
theorem Ra {own:List Ent} {e e':Operand->DVal} (op:Op) (h:∀x∈op.operands,e x=e' x):(DV P own e op↔DV P own e' op)/\Bm P own e op=Bm P own e' op:=by
 have parts:∀(ps:Array (Nat×Operand)),(∀x∈(ps.toList.map (·.2)).toArray,e x=e' x)->∀p∈ps.toList,e p.2=e' p.2:=by
  intro ps h p hp;exact h p.2 (by simpa using ⟨p.1,by simpa using hp⟩)
 cases op<;>simp only[Op.operands]at h<;>simp only[DV,Bm]
 case move x=>exact⟨trivial,h x (by simp)⟩
 case assign x=>exact⟨trivial,h x (by simp)⟩
 case pick c a b =>
  have h1:=h c (by simp);have h2:=h a (by simp);have h3:=h b (by simp);simp only[h1,h2,h3,and_self]
 case build t ps =>
  have hp:=parts ps h;have e1:(ps.toList.map fun p=>(p.1,e p.2))=ps.toList.map fun p=>(p.1,e' p.2):=cJ0 fun p hm=>by rw[hp p hm]
  have e2:(ps.toList.all fun p=>Cz own (e p.2))=ps.toList.all fun p=>Cz own (e' p.2):=by
   rw[Bool.eq_iff_iff,aZ0,aZ0]
   constructor<;>intro hq p hm<;>have:=hq p hm
   ·rw[<-hp p hm];exact this
   ·rw[hp p hm];exact this
  simp only[e1,e2,and_self]
 case buildSlice t n ps =>
  have hp:=parts ps h;have e1:(ps.toList.map fun p=>AI (e p.2))=ps.toList.map fun p=>AI (e' p.2):=cJ0 fun p hm=>by rw[hp p hm]
  have e2:∀k,(ps.toList.all fun p=>Cz own (e p.2)&&(AI (e p.2)).length==k)=ps.toList.all fun p=>Cz own (e' p.2)&&(AI (e' p.2)).length==k:=by
   intro k;rw[Bool.eq_iff_iff,aZ0,aZ0]
   constructor<;>intro hq p hm<;>have:=hq p hm
   ·rw[<-hp p hm];exact this
   ·rw[hp p hm];exact this
  simp only[e1,e2,and_self]
 case makeFunc f us cs =>
  have e1:us.toList.map e=us.toList.map e':=cJ0 fun x hx=>h x (by simp;left;simpa using hx)
  have e2:cs.toList.map e=cs.toList.map e':=cJ0 fun x hx=>h x (by simp;right;simpa using hx)
  simp only[e1,e2,and_self]
 case call c =>
  have e1:c.args.toList.map e=c.args.toList.map e':=cJ0 fun x hx=>h x (by simp[Call.operands];right;simpa using hx)
  cases c.callee<;>simp only[e1,and_self]
 case slice t x l h' m =>
  have hx:=h x (by simp)
  have hi:∀(d:Int) (o:Option Operand),(o=l\/o=h'\/o=m)->CY e d o=CY e' d o:=by
   intro d o ho
   cases o with
   | none=>rfl
   | some y =>
    have:e y=e' y:=h y (by
     simp only[Array.mem_append]
     rcases ho with ho | ho | ho<;>subst ho<;>simp)
    simp only[CY,this]
  have h1:∀d,CY e d l=CY e' d l:=fun d=>hi d l (by simp)
  have h2:∀d,CY e d h'=CY e' d h':=fun d=>hi d h' (by simp)
  have h3:∀d,CY e d m=CY e' d m:=fun d=>hi d m (by simp)
  have h4:∀n,Ey e n l h' m↔Ey e' n l h' m:=fun n=>by simp only[Ey,h1,h2,h3]
  have h5:∀n,Ey e n l h' none↔Ey e' n l h' none:=fun n=>by simp only[Ey,h1,h2,show ∀d,CY e d none=CY e' d none from fun _=>rfl]
  simp only[hx,h1,h2,h4,h5,and_self]
 all_goals simp_all
theorem VC {o:Oper} {e:Operand->DVal} {d:DVal} {K:DS->Prop} {next:Act->World->Prop} {Q:Exit->Act->World->Prop} (R:Rel B s a w loc) (hd:Bs B.nt o.dst=true) (he:∀x∈o.op.operands,Bg s loc B.M0 w (e x) (a.eval x)) (hp:DV P s.own e o.op)
  (hk:K ⟨putS s.slots o.dst d,s.own⟩) (yF:∀(w':World) (v:Value),rd (cu s loc) (hm s loc B.M0) w'.heap (Bm P s.own e o.op) v->rd (cu s loc) (hm s loc B.M0) w'.heap d v) (hn:∀s' a' w' loc',K s'->Rel B s' a' w' loc'->next a' w'):o.wpIn (wd B.ro) 0 P a w next Q:=by
 classical
 have hc:=Ra (P:=P) (own:=s.own) (e:=e) (e':=fun x=>if x∈o.op.operands then e x else .any) o.op (fun x hx=>by simp[hx])
 obtain⟨v,w',h1,h2,h3⟩:=TT (P:=P) (ρ:=a.eval) (M0:=B.M0) (o:=o) (e:=fun x=>if x∈o.op.operands then e x else .any) R.st (fun x=>by
  by_cases hx:x∈o.op.operands
  ·simp only[if_pos hx];exact he x hx
  ·simp only[if_neg hx,Bg,rd]) (hc.1.1 hp)
 rw[<-hc.2]at h3;refine⟨fun _ _=>trivial,?_⟩;rw[Oper.semAt_eq _ _ _ (fun c hc=>by rw[hc]at hp;simp only[DV]at hp),h1,Oper.uponIn_value];exact hn _ _ _ loc hk (R.put (Jh hd) h2 (yF _ _ h3))
theorem Wq {o:Oper} {c:Call} {g:FuncId} {args:List DVal} {e:Operand->DVal} {d d':DVal} {K:DS->Prop} {next:Act->World->Prop} {Q:Exit->Act->World->Prop} (R:Rel B s a w loc) (hd:Bs B.nt o.dst=true) (ho:o.op= .call c) (he:∀x∈o.op.operands,Bg s loc B.M0 w (e x) (a.eval x))
  (hc:callee e c=some (g,args)) (hp:Af P g args d) (hk:Ev d->K ⟨putS s.slots o.dst d',s.own⟩) (yF:∀(w':World) (v:Value),rd (cu s loc) (hm s loc B.M0) w'.heap d v->rd (cu s loc) (hm s loc B.M0) w'.heap d' v) (hn:∀s' a' w' loc',K s'->Rel B s' a' w' loc'->next a' w'):o.wpIn (wd B.ro) 0 P a w next Q:=by
 obtain⟨vs,h1,h2⟩:=MA (P:=P) (ρ:=a.eval) (M0:=B.M0) ho (fun x hx=>he x (by rw[ho];exact hx)) hc hp.1;refine⟨fun _ _=>trivial,?_⟩;rw[Oper.semAt_eq _ _ _ (fun c' kO=>by rw[ho]at kO;cases kO),h1,Oper.uponIn_enter];refine⟨fun h=>by simp[wd]at h,KA B.ro _ ?_⟩;refine(hp.2.2 (cu s loc) (hm s loc B.M0) w vs R.lt h2).mono ?_;rintro e w' ⟨v,rfl,hu,hr⟩;exact hn _ _ _ loc (hk (oZ _ _ hr)) (R.put (Jh hd) hu (yF _ _ hr))
theorem Oe {l:List (Nat×DVal)} {ρ:Operand->Value} {M0:List Nat} (hρ:∀x,Bg s loc M0 w (ev l x) (ρ x)):∀xs:List Operand,FQ true (ev l) xs->∀x∈xs,Bg s loc M0 w (Bf l x) (ρ x)
 | [],_,x,hx=>by cases hx
 | y::ys,h,x,hx=>by
  simp only[FQ]at h
  rcases aK0.1 hx with rfl | hx
  ·have:=hρ x;unfold Bf;cases hq:ev l x<;>rw[hq]at this h<;>simp only[JI]<;>try exact this
   simp only[okG]at h;simp only[Bg,rd]at this;exact this.1 (h.1 trivial)
  ·exact Oe hρ ys h.2 x hx
theorem iC (x:DVal):JY true x .any=x:=by
 cases x<;>try rfl
 rename_i c d;cases d<;>rfl
theorem iB (y:DVal):JY false .any y=y:=by
 cases y<;>rfl
theorem Xw {cur:ES} {M:List Nat} {h:Array Obj} {t:Bool} {x y:DVal} {v:Value} (qG:IS t x y) (hv:rd cur M h (if t then x else y) v):rd cur M h (JY t x y) v:=by
 unfold JY
 split
 ·cases t<;>exact hv
 ·cases t
  ·simp only[IS]at qG;simp only[aQ0,if_false,rd]at hv |-;exact hv.1 (qG trivial)
  ·exact hv
 ·cases t
  ·exact hv
  ·simp only[IS]at qG;simp only[if_true,rd]at hv |-;exact hv.1 (qG trivial)
 ·cases t<;>exact hv
theorem GQ_ {l:List (Nat×DVal)} {ρ:Operand->Value} {M0:List Nat} {x:Operand} (hρ:Bg s loc M0 w (ev l x) (ρ x)) (h:okG true (ev l x)):Bg s loc M0 w (Bf l x) (ρ x):=by
 unfold Bf;cases hq:ev l x<;>rw[hq]at hρ h<;>simp only[JI]<;>try exact hρ
 simp only[okG]at h;simp only[Bg,rd]at hρ;exact hρ.1 (h trivial)
theorem rS {l:List (Nat×DVal)} {ρ:Operand->Value} {M0:List Nat} {op:Op} {own:List Ent} (hρ:∀x,Bg s loc M0 w (ev l x) (ρ x)) (qG:Kb true (ev l) op) (hp:DV P own (Bf l) op) :
  ∃e':Operand->DVal,(∀x∈op.operands,Bg s loc M0 w (e' x) (ρ x))/\DV P own e' op/\∀cur M h v,rd cur M h (Bm P own e' op) v->rd cur M h (Bm P own (Bf l) op) v:=by
 classical
 by_cases hpk:∃x a b,op= .pick x a b
 ·obtain⟨x,a,b,rfl⟩:=hpk;simp only[Kb]at qG;obtain⟨h1,h2⟩:=qG;simp only[DV]at hp;cases hx:Bf l x<;>rw[hx]at hp<;>try exact hp.elim
  rename_i t;have h2:=h2 t hx;refine⟨fun y=>if okG true (ev l y)then Bf l y else .any,?_,?_,?_⟩
  ·intro y _;simp only
   split
   ·rename_i hy;exact GQ_ (hρ y) hy
   ·simp only[Bg,rd]
  ·simp only[DV,if_pos h1,hx];cases t
   ·rw[if_pos (h2.2 rfl)]
    split
    ·exact hp
    ·cases Bf l b<;>simp[IS]
   ·rw[if_pos (h2.1 rfl)]
    split
    ·exact hp
    ·cases hsa:Bf l a<;>simp only[IS]
  ·intro cur M h v;simp only[Bm,if_pos h1,hx];cases t
   ·rw[if_pos (h2.2 rfl)]
    split
    ·exact id
    ·rw[iB];exact fun hv=>Xw hp hv
   ·rw[if_pos (h2.1 rfl)]
    split
    ·exact id
    ·rw[iC];exact fun hv=>Xw hp hv
 ·have yO:FQ true (ev l) op.operands.toList:=by
   unfold Kb at qG
   split at qG
   ·exact absurd ⟨_,_,_,rfl⟩ hpk
   ·exact qG
  exact⟨Bf l,fun x hx=>Oe hρ _ yO x (by simpa using hx),hp,fun _ _ _ _ h=>h⟩
theorem RE {ops:Array Oper} {j:Nat} {want:Bool} (R:Rel B s a w loc) (hg:gOK (BI ops s j)=true):(yielded ops a.tmps j==some want)=gB (BI ops s j) want:=by
 unfold BI at hg |-
 cases ht:(ops[j]?).bind (·.dst)with
 | none=>simp[ht,gOK]at hg
 | some t =>
  simp only[ht]at hg |-;have hs:=R.sl t
  have hy:yielded ops a.tmps j=match a.tmps[t]? with | some (.bool b)=>some b | _=>none:=by
   unfold yielded;rw[ht];rfl
  have pZ:a.tmps.getD t Go.undef=Go.undef->yielded ops a.tmps j=none:=by
   intro hs;rw[hy]
   cases hq:a.tmps[t]? with
   | none=>rfl
   | some v =>
    simp only[aO0,hq,bY0]at hs;subst hs;rfl
  have pV:∀b,a.tmps.getD t Go.undef= .bool b->yielded ops a.tmps j=some b:=by
   intro b hs;rw[hy]
   cases hq:a.tmps[t]? with
   | none=>simp[aO0,hq,Go.undef]at hs
   | some v =>
    simp only[aO0,hq,bY0]at hs;subst hs;rfl
  cases hd:getS s.slots t<;>rw[hd]at hg hs<;>try (simp[gOK]at hg;done)
  ·simp only[rd]at hs;rw[pZ hs];cases want<;>rfl
  ·rename_i c d;cases d<;>try (simp[gOK]at hg;done)
   rename_i b;simp only[rd]at hs;cases c
   ·rw[pZ (hs.2 rfl)];cases want<;>rfl
   ·rw[pV b (hs.1 rfl)];cases want<;>cases b<;>rfl
  ·rename_i b;simp only[rd]at hs;rw[pV b hs];cases want<;>cases b<;>rfl
end
section
variable {P : Program} {own : List Ent} {e e' : Operand -> DVal}
theorem Nq {c:Call} (h:∀x∈c.operands,e x=e' x):callee e c=callee e' c:=by
 unfold callee;have qA:c.args.toList.map e=c.args.toList.map e':=cJ0 fun x hx=>h x (by simp[Call.operands];right;simpa using hx)
 cases hc:c.callee with
 | value f=>have hf:e f=e' f:=h f (by simp[Call.operands,hc]);simp only[hf,qA]
 | invoke r m=>rfl
 | builtin b=>rfl
theorem QX {c:Bool} {op:Op} (h:∀x∈op.operands,e x=e' x) (hk:Kb c e op):Kb c e' op:=by
 have gen:∀xs:List Operand,(∀x∈xs,e x=e' x)->FQ c e xs->FQ c e' xs:=by
  intro xs
  induction xs with
  | nil=>intro _ _;trivial
  | cons x xs ih =>
   intro hx hq;simp only[FQ]at hq |-;exact⟨by rw[<-hx x aH0];exact hq.1,ih (fun y hy=>hx y (aF0 _ hy)) hq.2⟩
 unfold Kb at hk |-
 split at hk
 ·rename_i x a b;simp only[Op.operands]at h;rw[h x (by simp),h a (by simp),h b (by simp)]at hk;exact hk
 ·exact gen _ (fun x hx=>h x (by simpa using hx)) hk
end
def LY (o:Oper) (acc:List Nat):Nat:=o.after.toList.foldl (fun s e=>if Region.binds .any e then s ||| 2 ^ e.on ||| acc.getD e.on 0 else s) 0
def DL : List Oper->List Nat->List Nat
 | [],acc=>acc
 | o::r,acc=>DL r (acc++[LY o acc])
def lP (ops:Array Oper):Bool :=
 let m:=DL ops.toList []
 let zs:=ops.toList.zipIdx
 (zs.all fun p=>zs.all fun q=>p.1.dst==none||p.1.dst != q.1.dst||p.2==q.2) &&
 (zs.all fun p=>p.1.after.toList.all fun e=> !Region.binds .any e||decide (e.on<p.2)) &&
 zs.all fun p=>(p.1.looksAt ops).all fun t=>zs.all fun q=>q.1.dst != some t||(decide (q.2<p.2)&&(m.getD p.2 0).testBit q.2)||(decide (p.2<q.2)&&(m.getD q.2 0).testBit p.2)
structure DrawSpec (ops:Array Oper):Prop where
 one:∀(k k':Nat) (o o':Oper) (t:Nat),ops[k]? =some o->ops[k']? =some o'->o.dst=some t->o'.dst=some t->k=k'
 acy:∀(k:Nat) (o:Oper),ops[k]? =some o->∀e∈o.after,Region.binds .any e=true->e.on<k
 ord:∀(j:Nat) (o:Oper) (t:Nat),ops[j]? =some o->t∈o.looksAt ops->∀(k:Nat) (o':Oper),ops[k]? =some o'->o'.dst=some t ->
  (k<j/\((DL ops.toList []).getD j 0).testBit k=true)\/(j<k/\((DL ops.toList []).getD k 0).testBit j=true)
theorem Pd {ops:Array Oper} (h:lP ops=true):DrawSpec ops:=by
 unfold lP at h;simp only[aL0,aZ0]at h;obtain⟨⟨h1,h2⟩,h3⟩:=h
 have mem:∀(k:Nat) (o:Oper),ops[k]? =some o->(o,k)∈ops.toList.zipIdx:=by
  intro k o hk;rw[List.mem_zipIdx_iff_getElem?];simpa using hk
 refine⟨?_,?_,?_⟩
 ·intro k k' o o' t hk vH ht nQ;have:=h1 (o,k) (mem k o hk) (o',k') (mem k' o' vH);simpa[ht,nQ]using this
 ·intro k o hk e he hb;have:=h2 (o,k) (mem k o hk) e (by simpa using he);simpa[hb]using this
 ·intro j o t hj ht k o' hk hd;have:=h3 (o,j) (mem j o hj) t ht (o',k) (mem k o' hk);simpa[hd]using this
theorem Ri (o:Oper) (acc:List Nat) (j:Nat) (h:(LY o acc).testBit j=true):∃e∈o.after.toList,Region.binds .any e=true/\(j=e.on\/(acc.getD e.on 0).testBit j=true):=by
 unfold LY at h
 have key:∀(l:List Edge) (s:Nat),(l.foldl (fun s e=>if Region.binds .any e then s ||| 2 ^ e.on ||| acc.getD e.on 0 else s) s).testBit j=true->s.testBit j=true\/∃e∈l,Region.binds .any e=true/\(j=e.on\/(acc.getD e.on 0).testBit j=true):=by
  intro l
  induction l with
  | nil=>intro s hs;exact .inl hs
  | cons e l ih =>
   intro s hs;simp only[cY0]at hs
   rcases ih _ hs with h1 | ⟨e',vE,h2⟩
   ·split at h1
    ·rename_i hb;rw[Nat.testBit_or,Nat.testBit_or,dB0,dB0]at h1
     rcases h1 with (h1 | h1) | h1
     ·exact .inl h1
     ·rw[Nat.testBit_two_pow]at h1;exact .inr ⟨e,aH0,hb,.inl (by simpa using h1:e.on=j).symm⟩
     ·exact .inr ⟨e,aH0,hb,.inr h1⟩
    ·exact .inl h1
   ·exact .inr ⟨e',aF0 _ vE,h2⟩
 rcases key _ 0 h with h1 | h1
 ·simp at h1
 ·exact h1
theorem Rh : ∀(l:List Oper) (acc:List Nat) (k:Nat),(DL l acc).getD k 0=if k<acc.length then acc.getD k 0 else match l[k-acc.length]? with | some o=>LY o ((DL l acc).take k) | none=>0
 | [],acc,k=>by
  simp only[DL]
  split
  ·rfl
  ·rename_i h;simp[bK0,eG0 (by omega:acc.length<=k)]
 | o::r,acc,k=>by
  simp only[DL];rw[Rh r (acc++[LY o acc]) k]
  have pre:∀(l:List Oper) (a:List Nat),∃z,DL l a=a++z:=by
   intro l
   induction l with
   | nil=>intro a;exact⟨[],by simp[DL]⟩
   | cons o l ih=>intro a;obtain⟨z,hz⟩:=ih (a++[LY o a]);exact⟨_,by simp only[DL];rw[hz,aS0]⟩
  simp only[aD0,List.length_cons,List.length_nil,bQ0]
  by_cases h1:k<acc.length
  ·rw[if_pos (by omega),if_pos h1];simp[bK0,bC0 h1]
  ·rw[if_neg h1]
   by_cases h2:k=acc.length
   ·subst h2;rw[if_pos (by omega)];simp only[eF0,bA0];obtain⟨z,hz⟩:=pre r (acc++[LY o acc]);rw[hz];simp[bK0]
   ·rw[if_neg (by omega)];have:k-acc.length=(k-(acc.length+1))+1:=by omega
    rw[this,bL0]
def oP (ops:Array Oper) (S:Nat->Bool):Prop:=∀k o,ops[k]? =some o->S k=true->∀e∈o.after,Region.binds .any e=true->S e.on=true
theorem Sk {ops:Array Oper} {S:Nat->Bool} (hc:oP ops S):∀(k:Nat),S k=true->∀j,((DL ops.toList []).getD k 0).testBit j=true->S j=true:=by
 intro k
 induction k using Nat.strongRecOn with
 | _ k ih =>
  intro hk j hj;rw[Rh]at hj;simp only[List.length_nil,Nat.not_lt_zero,if_false,eE0]at hj
  split at hj
  ·rename_i o ho;obtain⟨e,he,hb,h1⟩:=Ri _ _ _ hj;have hS:=hc k o (by simpa using ho) hk e (by simpa using he) hb
   rcases h1 with rfl | h1
   ·exact hS
   ·by_cases qV:e.on<k
    ·refine ih e.on qV hS j ?_
     have:((DL ops.toList []).take k).getD e.on 0=(DL ops.toList []).getD e.on 0:=by
      simp[bK0,bT0 qV]
     rwa[this]at h1
    ·have:((DL ops.toList []).take k).getD e.on 0=0:=by
      rw[bK0,eG0 (by simp;omega)];rfl
     rw[this]at h1;simp at h1
  ·simp at hj
def FK (P:Program) (o:Oper) (own:List Ent) (e:Operand->DVal) (d:DVal):Prop :=
 (∃c g args,o.op= .call c/\callee e c=some (g,args)/\Af P g args d)\/(DV P own e o.op/\d=Bm P own e o.op)
def Je_ (P:Program) (nt:Nat) (ops:Array Oper) (o:Oper) (s:DS) (d:DVal):Prop :=
 Bs nt o.dst=true/\match o.guard with
  | none=>FK P o s.own (ev s.slots) d
  | some (j,want)=>gOK (BI ops s j)=true/\Kb (gB (BI ops s j) want) (ev s.slots) o.op/\∃d',d= .sel (gB (BI ops s j) want) d'/\(gB (BI ops s j) want=true->FK P o s.own (Bf s.slots) d')
def Hk_ (P:Program) (nt:Nat) (o:Oper) (s:DS) (K:Cont):Prop :=
 Bs nt o.dst=true/\match o.op with
  | .call c=>match callee (ev s.slots) c with
   | some (g,args)=>BN P g args (kD K s o.dst)
   | none=>DV P s.own (ev s.slots) o.op/\K.f ⟨putS s.slots o.dst (Bm P s.own (ev s.slots) o.op),s.own⟩
  | op=>DV P s.own (ev s.slots) op/\K.f ⟨putS s.slots o.dst (Bm P s.own (ev s.slots) op),s.own⟩
def HF (l:List (Nat×DVal)):List (Oper×DVal)->List (Nat×DVal)
 | []=>l
 | (o,d)::r=>HF (putS l o.dst d) r
def Ek (l:List (Nat×DVal)) (S:Nat->Bool):Nat->List (Oper×DVal)->List (Nat×DVal)
 | _,[]=>l
 | i,(o,d)::r=>if S i then putS (Ek l S (i+1) r) o.dst d else Ek l S (i+1) r
theorem Gl (l:List (Nat×DVal)) (o:Option Nat) (d:DVal) (t:Nat):getS (putS l o d) t=if o=some t then d else getS l t:=by
 cases o with
 | none=>simp[putS]
 | some i =>
  simp only[putS,getS,aA0]
  by_cases h:t=i
  ·subst h;simp
  ·rw[if_neg h,if_neg (fun h'=>h h'.symm)]
theorem BH {l:List (Nat×DVal)} {S:Nat->Bool} {t:Nat}:∀(zs:List (Oper×DVal)) (i:Nat),(∀(k:Nat) (z:Oper×DVal),zs[k]? =some z->z.1.dst=some t->S (i+k)=false)->getS (Ek l S i zs) t=getS l t
 | [],_,_=>rfl
 | (o,d)::r,i,h=>by
  have ih:=BH (l:=l) (S:=S) (t:=t) r (i+1) (fun k z hz hd=>by have:=h (k+1) z (by simpa using hz) hd;rwa[show i+1+k=i+(k+1) by omega]);simp only[Ek]
  split
  ·rename_i hS;rw[Gl,if_neg,ih];intro hd;have:=h 0 (o,d) (by simp) hd;rw[dH0]at this;rw[this]at hS;simp at hS
  ·exact ih
theorem DC {l:List (Nat×DVal)} {S:Nat->Bool} {t:Nat}:∀(zs:List (Oper×DVal)) (i k:Nat) (z:Oper×DVal),zs[k]? =some z->z.1.dst=some t->S (i+k)=true->(∀(k':Nat) (z':Oper×DVal),zs[k']? =some z'->z'.1.dst=some t->k'=k)->getS (Ek l S i zs) t=z.2
 | [],_,_,_,hz,_,_,_=>by simp at hz
 | (o,d)::r,i,0,z,hz,hd,hS,_=>by
  simp only[bA0,aA0]at hz;subst hz;simp only[Ek];rw[dH0]at hS;rw[if_pos hS,Gl,if_pos hd]
 | (o,d)::r,i,k+1,z,hz,hd,hS,hu=>by
  have ih:=DC (l:=l) (S:=S) (t:=t) r (i+1) k z (by simpa using hz) hd (by rwa[show i+1+k=i+(k+1) by omega]) (fun k' z' h1 h2=>by have:=hu (k'+1) z' (by simpa using h1) h2;omega);have qF:o.dst≠some t:=fun h=>by have:=hu 0 (o,d) (by simp) h;omega
  simp only[Ek]
  split
  ·rw[Gl,if_neg qF,ih]
  ·exact ih
theorem EJ {t:Nat}:∀(zs:List (Oper×DVal)) (l:List (Nat×DVal)),(∀z∈zs,z.1.dst≠some t)->getS (HF l zs) t=getS l t
 | [],_,_=>rfl
 | (o,d)::r,l,h=>by
  simp only[HF];rw[EJ r _ (fun z hz=>h z (aF0 _ hz)),Gl,if_neg (h (o,d) aH0)]
theorem Ko {t:Nat}:∀(zs:List (Oper×DVal)) (l:List (Nat×DVal)) (k:Nat) (z:Oper×DVal),zs[k]? =some z->z.1.dst=some t->(∀(k':Nat) (z':Oper×DVal),zs[k']? =some z'->z'.1.dst=some t->k'=k)->getS (HF l zs) t=z.2
 | [],_,_,_,hz,_,_=>by simp at hz
 | (o,d)::r,l,0,z,hz,hd,hu=>by
  simp only[bA0,aA0]at hz;subst hz;simp only[HF];rw[EJ,Gl,if_pos hd];intro z' hz' h;obtain⟨k',vH,rfl⟩:=bW0 hz';have:=hu (k'+1) _ (by simp only[bL0];exact aI0 vH) h;omega
 | (o,d)::r,l,k+1,z,hz,hd,hu=>by
  simp only[HF];exact Ko r _ k z (by simpa using hz) hd (fun k' z' h1 h2=>by have:=hu (k'+1) z' (by simpa using h1) h2;omega)
theorem Rel.congr {B:Base} {l l':List (Nat×DVal)} {own:List Ent} {a:Act} {w:World} {loc:Nat->Loc} (h:∀t,getS l' t=getS l t) (R:Rel B ⟨l,own⟩ a w loc):Rel B ⟨l',own⟩ a w loc :=
 ⟨R.st,R.upd,R.new,R.ver,fun i=>by have:=R.sl i;simp only at this |-;rw[h i];exact this,R.nt,R.df⟩
theorem Wp (S:Nat->Bool) (i:Nat) (hi:S i=false):∀n,i<n->(List.range n).countP (fun k=>if k=i then true else S k)=(List.range n).countP S+1
 | 0,h=>by omega
 | n+1,h=>by
  have same:∀m,m<=i->(List.range m).countP (fun k=>if k=i then true else S k)=(List.range m).countP S:=by
   intro m hm;refine List.countP_congr fun k hk=> ?_
   have:k≠i:=by have:=bZ0.1 hk;omega
   simp[this]
  rw[List.range_succ,List.countP_append,List.countP_append]
  by_cases h':i<n
  ·rw[Wp S i hi n h'];have:n≠i:=by omega
   simp[eY0,this];omega
  ·have:n=i:=by omega
   subst this;rw[same n (Nat.le_refl _)];simp[eY0,hi]
section
variable {P : Program} {B : Base} {s : DS}
theorem Ed_ {l l':List (Nat×DVal)} {x:Operand} (h:∀t,x= .tmp t->getS l t=getS l' t):ev l x=ev l' x:=by
 cases x<;>first | rfl | exact h _ rfl
end
end Go.Dm
end
