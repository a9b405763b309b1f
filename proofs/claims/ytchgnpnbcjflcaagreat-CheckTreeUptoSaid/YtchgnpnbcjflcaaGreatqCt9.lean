/- Parts of a proof, laid together: EnFl, BO4, BO6, BO8, BX1, EnSu, BO9, BY0, BP0, BY1, RB1, RB2, RB3, RB4, RB5, RB6. -/
import Derived.Test.YtchgnpnbcjflcaaGreatqCt4
import Derived.Test.YtchgnpnbcjflcaaGreatqCt5
import Derived.Test.YtchgnpnbcjflcaaGreatqCt6
import Derived.Test.YtchgnpnbcjflcaaGreatqCt7
import Derived.Test.YtchgnpnbcjflcaaGreatqCt8
set_option linter.unusedSimpArgs false
set_option linter.unusedVariables false
set_option linter.unusedSectionVars false
section
namespace Go.Dm
variable [DMode]
theorem wpIn_keep {F:Fence} {n:Nat} {P:Program} {Q:Exit→Act→World→Prop} {o:Oper} {a:Act} {w:World} {K:Act→World→Prop} {t:Nat} {v0:Value} (ht:o.dst≠some t) (h0:a.tmps.getD t Go.undef=v0)
  (hh:o.wpIn F n P a w K Q):o.wpIn F n P a w (fun a' w'=>K a' w'∧a'.tmps.getD t Go.undef=v0) Q:=by
 have key:∀(a:Act) v,a.tmps.getD t Go.undef=v0→(a.put o.dst v).tmps.getD t Go.undef=v0:=by
  intro a v h0;unfold Act.put
  cases hd:o.dst with
  | none=>exact h0
  | some i =>
   have hi:i≠t:=fun e=>ht (by rw[hd,e])
   show (a.tmps.setIfInBounds i v).getD t Go.undef=v0
   rw[aT0]at h0 ⊢;rw[dS0 hi];exact h0
 unfold Oper.wpIn at *;refine⟨hh.1,?_⟩;have hh:=hh.2
 generalize (o.semAt F.round a.eval).run P w=r at *
 cases r with
 | ok x w' =>
  cases x<;>simp only[Oper.uponIn]at hh ⊢ <;>
   first
    | exact⟨hh,key _ _ h0⟩
    | exact⟨hh,key { a with defers:=_ } _ h0⟩
    | exact⟨hh.1,CallsIn.mono hh.2 (fun e w'' he=>by cases e<;>first | exact⟨he,key _ _ h0⟩ | exact he)⟩
    | exact⟨hh.1,RowsIn.mono hh.2 (fun _ _ he=>⟨he,key _ _ h0⟩)⟩
    | exact⟨hh.1,RoundIn.mono hh.2 (fun e w'' he=>by cases e<;>first | exact⟨he,key _ _ h0⟩ | exact he)⟩
 | halt x w'=>cases x<;>simp only[Oper.uponIn]at hh ⊢ <;>exact hh
section
variable {P : Program} {B : Base} {s : DS}
def Back (B B':Base) (t b:Nat) (cs:List DVal):Prop :=
 B'.nt=B.nt∧B'.N=B.N∧B'.ro=B.ro∧∀s' a' w' loc',Rel B' s' a' w' loc'→a'.tmps.getD t Go.undef= .pointer (some ⟨b,0,none⟩) →
  ∃loc'',Rel B ⟨(t,.bx t (lim B s') 0)::s'.slots,upE s'.own t (lim B s') (.box cs)⟩ a' w' loc''
theorem Rel.hide {X:DS} {a:Act} {w:World} {loc:Nat→Loc} {t ty:Nat} {cs:List DVal} {us:List Value} (R:Rel B X a w loc) (ht:t<B.nt) (hX:getS X.slots t= .any)
  (hus:∀cur M h,rdV cur M h cs us) (hmx:mxL cs=0) (hone:∀u∈us,u.oneCell'=true) :
  ∃B',Back B B' t w.heap.size cs∧Rel B' X (a.put (some t) (.pointer (some ⟨w.heap.size,0,none⟩))) (w.alloc (.cells us.toArray ty)) loc:=by
 have hnb:∀b∈Ab_ X.own loc++B.M0,b<w.heap.size:=R.st.lt;have hsz1:(w.alloc (.cells us.toArray ty)).heap.size=w.heap.size+1:=by show (w.heap.push _).size=_;simp
 have hget:∀b,b<w.heap.size→(w.alloc (.cells us.toArray ty)).heap[b]? =w.heap[b]? :=fun b hb=>by
  show (w.heap.push _)[b]? =_
  rw[bV0,if_neg (by omega)]
 have hU:Upd (Ab_ X.own loc) w (w.alloc (.cells us.toArray ty)):=Upd.alloc _ _ _
 let B':Base:=⟨X.own,loc,w.heap.size::B.M0,B.N,w.alloc (.cells us.toArray ty),B.nt,B.ro,B.hN,B.nd,by have h1:=B.hnd;have h2:=R.upd.size;omega⟩
 have W:Weak (Ai_ X.own loc) (Ai_ X.own loc) (Ab_ X.own loc++B.M0) (Ab_ X.own loc++w.heap.size::B.M0) w.heap (w.alloc (.cells us.toArray ty)).heap (lim B X):=by
  refine⟨fun _ _ _ _ h=>h,fun b o _ _ ho=> ?_,fun b o hb _ ho hm=> ?_⟩
  ·have hlt:=(aG0.1 ho).1;rw[hget b hlt];exact ho
  ·have hlt:=(aG0.1 ho).1
   rcases aI0.1 hm with h | h
   ·exact hb (aM0 _ h)
   ·rcases aK0.1 h with h | h
    ·omega
    ·exact hb (aP0 _ h)
 have hlm:∀i,mx (getS X.slots i)≤lim B X:=fun i=>Nat.le_trans (Pb_ _ i) (by unfold lim;omega)
 refine⟨B',⟨rfl,rfl,rfl,?_⟩,?_⟩
 ·intro s' a' w' loc' R' hv;have hlimE:lim B' s'=lim B s':=rfl;have hbM:w.heap.size∉B.M0:=fun h=>by have:=hnb _ (aP0 _ h);omega
  have hbH:w.heap.size∉Ab_ X.own loc:=fun h=>by have:=hnb _ (aM0 _ h);omega
  have hbS:w.heap.size∉Ab_ s'.own loc':=fun h=>R'.st.ap _ h aF0
  have hcell:w'.heap[w.heap.size]? =some (.cells us.toArray ty (0,0)):=by
   rw[R'.upd.blk w.heap.size (by show _<(w.alloc _).heap.size;omega) hbH];exact heap_alloc_new w _
  have hids:∀e∈upE s'.own t (lim B s') (.box cs),(e=⟨t,lim B s',.box cs⟩)∨(e∈s'.own∧e.id≠t):=fun e he=>by
   rcases aK0.1 he with h | h
   ·exact .inl h
   ·exact .inr (Bl_.1 h)
  have hhot:∀b∈Ab_ (upE s'.own t (lim B s') (.box cs)) (upL loc' t ⟨[w.heap.size],Go.undef⟩),b=w.heap.size∨b∈Ab_ s'.own loc':=by
   intro b hb;obtain⟨e,he,h1⟩:=bR0.1 hb
   rcases hids e he with rfl | ⟨h2,h3⟩
   ·simp only[upL,if_true,aE0]at h1;exact .inl h1
   ·simp only[upL,if_neg h3]at h1;exact .inr (AO_ h2 h1)
  have W2:Weak (Ai_ s'.own loc') (Ai_ (upE s'.own t (lim B s') (.box cs)) (upL loc' t ⟨[w.heap.size],Go.undef⟩)) (Ab_ s'.own loc'++w.heap.size::B.M0) (Ab_ (upE s'.own t (lim B s') (.box cs)) (upL loc' t ⟨[w.heap.size],Go.undef⟩)++B.M0) w'.heap w'.heap (lim B s'):=by
   refine⟨fun id r l hr hl=> ?_,fun b o _ _ ho=>ho,fun b o hb _ _ hm=> ?_⟩
   ·obtain⟨e,he,rfl,rfl,rfl⟩:=Bm_ hl
    rcases hids e he with rfl | ⟨h2,h3⟩
    ·simp at hr
    ·simp only[upL,if_neg h3];exact AA_ R'.st.nd h2
   ·rcases aI0.1 hm with h | h
    ·rcases hhot b h with rfl | h
     ·exact hb (aP0 _ aF0)
     ·exact hb (aM0 _ h)
    ·exact hb (aP0 _ (aD0 _ h))
  refine⟨upL loc' t ⟨[w.heap.size],Go.undef⟩,⟨?_,?_,?_,?_,?_⟩,?_,?_,?_,?_,R'.nt,?_⟩
  ·simp only[upE,List.map_cons,cQ0];refine⟨fun hm=> ?_,CV_ R'.st.nd⟩;obtain⟨e,he,h1⟩:=aV0.1 hm;exact(Bl_.1 he).2 h1
  ·unfold upE;rw[Dh_,PC_,cA0];simp only[upL,if_true];refine⟨by simp,CI_ R'.st.bl _ (CV_ R'.st.nd) (fun e he=>(Bl_.1 he).1),?_⟩;intro b hb b' hb' hbb;subst hbb;obtain⟨e,he,hne,h1⟩:=PB_ hb';simp only[aE0]at hb;subst hb;exact hbS (AO_ he h1)
  ·intro b hb hm
   rcases hhot b hb with rfl | h
   ·exact hbM hm
   ·exact R'.st.ap b h (aD0 _ hm)
  ·intro b hb
   rcases aI0.1 hb with h | h
   ·rcases hhot b h with rfl | h
    ·exact(aG0.1 hcell).1
    ·exact R'.st.lt b (aM0 _ h)
   ·exact R'.st.lt b (aP0 _ (aD0 _ h))
  ·intro e he
   rcases hids e he with rfl | ⟨h2,h3⟩
   ·refine⟨w.heap.size,us.toArray,ty,by simp[upL],hcell,by have:=Au_ _ _ (hus (fun _ _=>none) [] #[]);simpa using this,?_⟩;have:=FW_ cs us [] [] (hus (Ai_ (upE s'.own t (lim B s') (.box cs)) (upL loc' t ⟨[w.heap.size],Go.undef⟩)) (Ab_ (upE s'.own t (lim B s') (.box cs)) (upL loc' t ⟨[w.heap.size],Go.undef⟩)++B.M0) w'.heap) hone;simpa using this
   ·have hk:=R'.st.ok e h2;have hl:upL loc' t ⟨[w.heap.size],Go.undef⟩ e.id=loc' e.id:=by simp only[upL,if_neg h3]
    rw[hl];refine AN_ W2 ?_ (fun _ _ _ ho=>ho) hk;have:=(AW_ h2).2;unfold lim;omega
  ·exact(R.upd.trans (Upd.alloc [] w _) (by simp)).trans R'.upd (fun x hx=>R.new x hx)
  ·intro b hb
   rcases hhot b hb with rfl | h
   ·exact .inr R.upd.size
   ·rcases R'.new b h with h | h
    ·exact R.new b h
    ·right
     have h1:w.heap.size+1≤b:=by rw[←hsz1];exact h
     have:=R.upd.size;omega
  ·intro e he hlt
   rcases hids e he with rfl | ⟨h2,h3⟩
   ·simp only at hlt;unfold lim at hlt;omega
   ·simp only[upL,if_neg h3];obtain⟨e2,k1,k2,k3,k4⟩:=Bm_ (R'.ver e h2 hlt);have:=R.ver e2 k1 (by omega);rw[k2,k3]at this;rw[this,k4]
  ·intro i;simp only[getS]
   split
   ·rename_i hi;subst hi;simp only[rd];intro l hl;rw[CL_]at hl;simp only[aA0]at hl;subst hl;exact⟨_,rfl,hv⟩
   ·exact BR_ W2 _ _ (Nat.le_trans (Pb_ _ i) (by unfold lim;omega)) (R'.sl i)
  ·obtain⟨rs,g1,g2,g3,g4⟩:=R'.df;refine⟨rs,g1,g2,fun r hr=> ?_,g4⟩;obtain⟨k1,k2,k3⟩:=g3 r hr;refine⟨k1,k2,fun hm=>k3 ?_⟩
   rcases aI0.1 hm with h | h
   ·rcases hhot r h with rfl | h
    ·exact aP0 _ aF0
    ·exact aM0 _ h
   ·exact aP0 _ (aD0 _ h)
 ·refine⟨⟨R.st.nd,R.st.bl,?_,?_,?_⟩,Upd.refl _ _,fun b hb=> .inl hb,fun e he _=>AA_ R.st.nd he,?_,by simpa[Act.put]using R.nt,?_⟩
  ·intro b hb hm
   rcases aK0.1 hm with h | h
   ·have:=hnb b (aM0 _ hb);omega
   ·exact R.st.ap b hb h
  ·intro b hb;rw[hsz1]
   rcases aI0.1 hb with h | h
   ·have:=hnb b (aM0 _ h);omega
   ·rcases aK0.1 h with h | h
    ·omega
    ·have:=hnb b (aP0 _ h);omega
  ·intro e he;have:=(AW_ he).2;exact AN_ W (by unfold lim;omega) (fun b o _ ho=>by rw[hget b (aG0.1 ho).1];exact ho) (R.st.ok e he)
  ·intro i
   by_cases hi:i=t
   ·subst hi;rw[hX];simp only[rd]
   ·have h1:(a.put (some t) (.pointer (some ⟨w.heap.size,0,none⟩))).tmps.getD i Go.undef=a.tmps.getD i Go.undef:=by
     show (a.tmps.setIfInBounds t _).getD i Go.undef=_
     rw[aT0,aT0,dS0 (Ne.symm hi)]
    rw[h1];exact BR_ W _ _ (hlm i) (R.sl i)
  ·refine R.df.keep (B:=B) (M':=Ab_ X.own loc++w.heap.size::B.M0) rfl hU (fun x hx=>aM0 _ hx) fun b hb=> ?_
   rcases aI0.1 hb with h | h
   ·exact .inl (aM0 _ h)
   ·rcases aK0.1 h with h | h
    ·exact .inr (by omega)
    ·exact .inl (aP0 _ h)
def lastOK (o:Oper) (n:Nat):Bool:=((List.range n).all fun k=>o.after.toList.any fun e=>Region.binds .any e&&e.on==k)&&o.after.toList.all fun e=>decide (e.on<n)
def gdOK (ops:Array Oper):Bool:=ops.toList.all fun o=>match o.guard with | some (j,_)=>decide (j<ops.size) | none=>true
theorem YU_ {a:Act} {w:World} {i t:Nat} {z:List DVal} {type:TypeId} {pos:String} {after:Array Edge} {guard:Option (Nat×Bool)} (hz:tZero P t=some z) (hp:z.all (oneO [])=true) :
  ∃us:List Value,(∀cur M h,rdV cur M h z us)∧mxL z=0∧(∀u∈us,u.oneCell'=true)∧(execOp a.eval ⟨some i,.alloc t,type,pos,after,guard⟩).run P w= .ok (.value (.pointer (some ⟨w.heap.size,0,none⟩))) (w.alloc (.cells us.toArray t)):=by
 obtain⟨zv,hzr,rfl⟩:=GC_ (w:=w) hz
 have hmx:mxL (zv.cells.toList.map ofV1)=0:=by
  have h1:∀v,mx (ofV1 v)=0:=by
   intro v;unfold ofV1
   split<;>(try split)<;>simp[mx]
  generalize zv.cells.toList=l
  induction l with
  | nil=>simp[mxL]
  | cons v l ih =>
   show max (mx (ofV1 v)) (mxL (l.map ofV1))=0
   rw[h1,ih];rfl
 refine⟨zv.cells.toList,fun cur M h=>Be_ _,hmx,?_,?_⟩
 ·exact Fc_ (s:=⟨[],[]⟩) (loc:=fun _=>⟨[],Go.undef⟩) (M0:=[]) (w:=w) ⟨by simp,by simp[Ab_],by simp[Ab_],by simp[Ab_],by simp⟩ (zv.cells.toList.map ofV1) zv.cells.toList (bA0.2 fun d hd=>OU_ (bA0.1 hp d hd)) (Be_ _)
 ·simp[execOp,Instr.alloc,hzr,newVar,newRow]
def kF (P:Program) (B:Base) (Q:DS→Prop) (ow:List Nat) (t:Nat) (cs:List DVal) (o:Oper):Cont :=
 ⟨fun s1=>∀r,CN_ P B.nt ow [] [] #[o] [o] 0 ⟨Q⟩ ⟨(t,.bx t r 0)::s1.slots,upE s1.own t r (.box cs)⟩⟩
theorem kF_f (P:Program) (B:Base) (Q:DS→Prop) (ow:List Nat) (t:Nat) (cs:List DVal) (o:Oper) (s1:DS):(kF P B Q ow t cs o).f s1=∀r,CN_ P B.nt ow [] [] #[o] [o] 0 ⟨Q⟩ ⟨(t,.bx t r 0)::s1.slots,upE s1.own t r (.box cs)⟩:=id rfl
theorem MR_ (ow l1 l2:List Nat) {id t ty:Nat} {ops ops3:Array Oper} {z o:Oper} {cs:List DVal} {Q:Exit→DS→Prop} (hm:P.follows .mixedOrders=true) (h3:ops3=(ops.push z).push o) (hok:Ex_ ow l1 l2 ops=true)
  (hz:z.op= .alloc ty∧z.dst=some t∧z.guard=none∧z.after= #[]) (ho:o.guard=none∧Bs_ ow o=true) (hlast:lastOK o (ops.size+1)=true) (hgd:gdOK ops=true)
  (ht:t<B.nt) (hdst:ops.toList.all (fun o=>decide (o.dst≠some t))=true) (hsl:getS s.slots t= .any) (hcs:tZero P ty=some cs) (hone:cs.all (oneO [])=true)
  (h:CN_ P B.nt ow l1 l2 ops ops.toList 0 (kF P B (Q .normal) ow t cs o) s):DW P B (.region id ops3 true) Q s:=by
 subst h3;intro a w loc R;refine wpIn_region_any hm ?_;obtain⟨Inv,i1,i2,i3,i4⟩:=NA_ (N:=B.N) ow l1 l2 hok R.st.nd h;have hdst':∀o∈ops.toList,o.dst≠some t:=fun o ho=>by simpa using bA0.1 hdst o ho
 have spec:=Ms_ (by unfold Ex_ at hok;simp only[aN0]at hok;exact hok.1);have hsz3:((ops.push z).push o).size=ops.size+2:=by simp
 have at_lo:∀k,k<ops.size→((ops.push z).push o)[k]? =ops[k]? :=fun k hk=>by
  rw[bV0,if_neg (by simp;omega),bV0,if_neg (by omega)]
 have at_z:((ops.push z).push o)[ops.size]? =some z:=by
  rw[bV0,if_neg (by simp),bV0,if_pos rfl]
 have at_o:((ops.push z).push o)[ops.size+1]? =some o:=by
  rw[bV0,if_pos (by simp)]
 have spec2:(∀k,k<ops.size+1→∃e∈o.after,Region.binds .any e=true∧e.on=k)∧∀e∈o.after,e.on<ops.size+1:=by
  unfold lastOK at hlast;simp only[aN0,bA0,dP0,bZ0,beq_iff_eq,decide_eq_true_eq]at hlast;exact⟨fun k hk=>by obtain⟨e,he,h1,h2⟩:=hlast.1 k hk;exact⟨e,by simpa using he,h1,h2⟩,fun e he=>hlast.2 e (by simpa using he)⟩
 let lo:Array Bool→Array Bool:=fun l=>Array.ofFn (n:=ops.size) fun i=>l.getD i.1 false
 have lo_get:∀(l:Array Bool) k d,k<ops.size→(lo l).getD k d=l.getD k false:=by
  intro l k d hk;rw[aT0];simp[lo,hk]
 have lo_set:∀(l:Array Bool) i,i<ops.size→l.size=ops.size+2→lo (l.setIfInBounds i true)=(lo l).setIfInBounds i true:=by
  intro l i hi hl
  apply Array.ext
  ·simp[lo]
  ·intro j h1 h2;rw[Array.getElem_setIfInBounds (by simpa using h2)];simp only[lo,Array.getElem_ofFn]
   split
   ·rename_i hij;subst hij;rw[aT0,eC0 (by omega)];rfl
   ·rename_i hij;rw[aT0,aT0,dS0 hij]
 have lo_set2:∀(l:Array Bool) i,ops.size≤i→lo (l.setIfInBounds i true)=lo l:=by
  intro l i hi
  apply Array.ext
  ·simp[lo]
  ·intro j h1 h2;simp only[lo,Array.getElem_ofFn];have hj:j<ops.size:=by simpa[lo]using h2
   rw[aT0,aT0,dS0 (by omega)]
 have done:∀(fuel:Nat) (listed:Array Bool) (a:Act) (w:World),listed.size=ops.size+2→(∀i,i<ops.size+2→listed.getD i false=true)→QQ B Q .normal a w→wpAnyIn (wd B.ro) 0 P .any ((ops.push z).push o) (QQ B Q) fuel listed a w:=by
  intro fuel listed a w hsz hall hq
  have hr:Region.ready .any ((ops.push z).push o) listed=[]:=by
   rw[List.eq_nil_iff_forall_not_mem];intro i hi;rw[mem_ready]at hi;obtain⟨g0,o',ho',_⟩:=hi;have hlt:i<ops.size+2:=by have:=(aG0.1 ho').1;omega
   have g1:=hall i hlt;have hi':i<listed.size:=by omega
   simp only[aT0,cD0 hi',cC0]at g0 g1;rw[g0]at g1;simp at g1
  cases fuel with
  | zero=>exact⟨hr,hq⟩
  | succ fuel=>exact⟨fun _=>hq,fun i hi=>by rw[hr]at hi;simp at hi⟩
 have main:∀(fuel:Nat) (listed:Array Bool) (a:Act) (w:World),(List.range (ops.size+2)).countP (fun k=>listed.getD k false)+fuel=ops.size+2→listed.size=ops.size+2→listed.getD (ops.size+1) false=false →
   ((listed.getD ops.size false=false∧Inv B (lo listed) a w)∨(listed.getD ops.size false=true∧∃B' b,Back B B' t b cs∧a.tmps.getD t Go.undef= .pointer (some ⟨b,0,none⟩)∧Inv B' (lo listed) a w)) →
   wpAnyIn (wd B.ro) 0 P .any ((ops.push z).push o) (QQ B Q) fuel listed a w:=by
  intro fuel
  induction fuel with
  | zero =>
   intro listed a w hcnt hsz hlst _;have:=(List.countP_eq_length (p:=fun k=>listed.getD k false) (l:=List.range (ops.size+2))).1 (by simpa using hcnt) (ops.size+1) (dP0.2 (by omega));simp only[hlst]at this;simp at this
  | succ fuel ih =>
   intro listed a w hcnt hsz hlst hJ
   have hgd1:∀k d,k<ops.size+2→listed.getD k d=listed.getD k false:=by
    intro k d hk;have:k<listed.size:=by omega
    simp[aT0,cD0 this]
   have cnt1:∀i,i<ops.size+2→listed.getD i false=false→(List.range (ops.size+2)).countP (fun k=>(listed.setIfInBounds i true).getD k false)+fuel=ops.size+2:=by
    intro i hi hSi;have hi':i<listed.size:=by omega
    have hS':(fun k=>(listed.setIfInBounds i true).getD k false)=fun k=>if k=i then true else listed.getD k false:=by
     funext k
     by_cases hk:k=i
     ·subst hk;simp[hi']
     ·rw[if_neg hk,getD_set_ne false (Ne.symm hk)]
    rw[hS',Uh_ _ i hSi _ hi];omega
   have low:∀i,i<ops.size→(i∈Region.ready .any ops (lo listed)↔i∈Region.ready .any ((ops.push z).push o) listed):=by
    intro i hi;rw[mem_ready,mem_ready,at_lo i hi,lo_get _ _ _ hi,hgd1 i true (by omega)];refine and_congr_right fun _=>exists_congr fun o'=>and_congr_right fun ho'=>forall_congr' fun e=>forall_congr' fun he=>forall_congr' fun hb=> ?_
    have:=spec.acy i o' ho' e he hb;rw[lo_get _ _ _ (by omega)]
   obtain⟨B1,hB1,hI1⟩:∃B1,(B1.nt=B.nt∧B1.N=B.N∧B1.ro=B.ro)∧Inv B1 (lo listed) a w:=by
    rcases hJ with ⟨_,hI⟩ | ⟨_,B',b,hB,_,hI⟩
    ·exact⟨B,⟨rfl,rfl,rfl⟩,hI⟩
    ·exact⟨B',⟨hB.1,hB.2.1,hB.2.2.1⟩,hI⟩
   obtain⟨hsl1,h5,h6⟩:=i2 _ _ _ _ hI1;refine⟨fun hr=> ?_,fun i hi=> ?_⟩
   ·exfalso
    have h7:Region.ready .any ops (lo listed)=[]:=by
     rw[List.eq_nil_iff_forall_not_mem];intro i hi
     have hlt:i<ops.size:=by
      rw[mem_ready]at hi;obtain⟨_,o',ho',_⟩:=hi;exact(aG0.1 ho').1
     have:=(low i hlt).1 hi;rw[hr]at this;simp at this
    have h8:=h5 h7
    rcases hJ with ⟨hzl,_⟩ | ⟨hzl,_⟩
    ·have:ops.size∈Region.ready .any ((ops.push z).push o) listed:=by
      rw[mem_ready,hgd1 _ true (by omega)];exact⟨hzl,z,at_z,fun e he=>by rw[hz.2.2.2]at he;simp at he⟩
     rw[hr]at this;simp at this
    ·have:ops.size+1∈Region.ready .any ((ops.push z).push o) listed:=by
      rw[mem_ready,hgd1 _ true (by omega)];refine⟨hlst,o,at_o,fun e he _=> ?_⟩;have:=spec2.2 e he
      by_cases he2:e.on=ops.size
      ·rw[he2];exact hzl
      ·rw[←lo_get listed e.on false (by omega)];exact h8 e.on (by omega)
     rw[hr]at this;simp at this
   ·have hi0:=hi;rw[mem_ready]at hi0;obtain⟨g0,o',ho',hpre⟩:=hi0;have hlt:i<ops.size+2:=by have:=(aG0.1 ho').1;omega
    rw[hgd1 i true hlt]at g0;have hset:∀k,k≠i→(listed.setIfInBounds i true).getD k false=listed.getD k false:=fun k hk=>getD_set_ne false (Ne.symm hk)
    by_cases hin:i<ops.size
    ·have hio:ops[i]? =some o':=by rw[←at_lo i hin];exact ho'
     have hdn:o'.dst≠some t:=hdst' o' (by simpa using Array.mem_of_getElem? hio)
     have hy:Region.wanted o' (yielded ((ops.push z).push o) a.tmps)=Region.wanted o' (yielded ops a.tmps):=by
      unfold Region.wanted
      cases hg:o'.guard with
      | none=>rfl
      | some jw =>
       obtain⟨j,want⟩:=jw
       have hj:j<ops.size:=by
        have h9:=bA0.1 hgd o' (by simpa using Array.mem_of_getElem? hio);rw[hg]at h9;simpa using h9
       simp only[yielded,at_lo j hj]
     have conv:∀{K:Act→World→Prop},wpOpIn (wd B.ro) 0 P ops (QQ B Q) i K a w→wpOpIn (wd B.ro) 0 P ((ops.push z).push o) (QQ B Q) i K a w:=by
      intro K hh;unfold wpOpIn at hh ⊢;rw[hio]at hh;rw[ho'];simp only at hh ⊢;rw[hy];exact hh
     have hsz':(listed.setIfInBounds i true).size=ops.size+2:=by simpa using hsz
     have hl':(listed.setIfInBounds i true).getD (ops.size+1) false=false:=by rw[hset _ (by omega)];exact hlst
     rcases hJ with ⟨hzl,hI⟩ | ⟨hzl,B',b,hB,hv,hI⟩
     ·refine conv (i3 B (lo listed) a w i _ _ rfl rfl hI ((low i hin).2 hi) fun a' w' hI'=> ?_)
      exact ih _ a' w' (cnt1 i hlt g0) hsz' hl' (.inl ⟨by rw[hset _ (by omega)];exact hzl,by rw[lo_set _ i hin hsz];exact hI'⟩)
     ·have hw:=i3 B' (lo listed) a w i (Inv B' ((lo listed).setIfInBounds i true)) (QQ B Q) hB.1 hB.2.1 hI ((low i hin).2 hi) fun _ _ h=>h
      rw[hB.2.2.1]at hw;refine conv ?_
      unfold wpOpIn at hw ⊢;rw[hio]at hw ⊢;simp only at hw ⊢
      have nx:∀a' w',Inv B' ((lo listed).setIfInBounds i true) a' w'∧a'.tmps.getD t Go.undef= .pointer (some ⟨b,0,none⟩)→wpAnyIn (wd B.ro) 0 P .any ((ops.push z).push o) (QQ B Q) fuel (listed.setIfInBounds i true) a' w':=by
       rintro a' w' ⟨hI',hv'⟩;exact ih _ a' w' (cnt1 i hlt g0) hsz' hl' (.inr ⟨by rw[hset _ (by omega)];exact hzl,B',b,hB,hv',by rw[lo_set _ i hin hsz];exact hI'⟩)
      split
      ·rename_i hw1;rw[if_pos hw1]at hw;exact Oper.wpIn_mono nx (wpIn_keep hdn hv hw)
      ·rename_i hw1;rw[if_neg hw1]at hw;refine⟨hw.1,nx _ _ ⟨hw.2,?_⟩⟩;unfold Act.put
       cases hd:o'.dst with
       | none=>exact hv
       | some i' =>
        have hi':i'≠t:=fun e=>hdn (by rw[hd,e])
        show (a.tmps.setIfInBounds i' _).getD t Go.undef=_
        rw[aT0]at hv ⊢;rw[dS0 hi'];exact hv
    ·by_cases hiz:i=ops.size
     ·subst hiz;rw[at_z]at ho';simp only[aA0]at ho';subst ho'
      rcases hJ with ⟨_,hI⟩ | ⟨hzl,_⟩
      ·obtain⟨dst,op,type,pos,after,guard⟩:=z;obtain⟨hz1,hz2,hz3,hz4⟩:=hz;simp only at hz1 hz2 hz3 hz4;subst hz1 hz2 hz3 hz4;unfold wpOpIn;rw[at_z];simp only;rw[if_pos (by simp[Region.wanted])];obtain⟨us,u1,u2,u3,u4⟩:=YU_ (a:=a) (w:=w) (i:=t) (type:=type) (pos:=pos) (after:= #[]) (guard:=none) hcs hone;refine Fy_ (fun c hc=>by cases hc) u4 ?_
       obtain⟨B',⟨hB',hv'⟩,hI'⟩:=i4 B (fun B'=>Back B B' t w.heap.size cs∧(a.put (some t) (.pointer (some ⟨w.heap.size,0,none⟩))).tmps.getD t Go.undef= .pointer (some ⟨w.heap.size,0,none⟩)) (lo listed) a w (a.put (some t) (.pointer (some ⟨w.heap.size,0,none⟩))) (w.alloc (.cells us.toArray ty)) t hI hdst' (fun X loc hX RX=>by
        obtain⟨B',b1,b2⟩:=RX.hide (ty:=ty) ht (by rw[hX];exact hsl) u1 u2 u3;refine⟨B',⟨b1,?_⟩,b2⟩
        show (a.tmps.setIfInBounds t _).getD t Go.undef=_
        rw[aT0,eC0 (by rw[RX.nt];exact ht)]
        rfl)
       refine ih _ _ _ (cnt1 _ hlt g0) (by simpa using hsz) (by rw[hset _ (by omega)];exact hlst) (.inr ⟨?_,B',_,hB',hv',by rw[lo_set2 _ _ (Nat.le_refl _)];exact hI'⟩);rw[aT0,eC0 (by omega)];rfl
      ·rw[hzl]at g0;simp at g0
     ·have hil:i=ops.size+1:=by omega
      subst hil;rw[at_o]at ho';simp only[aA0]at ho';subst ho'
      have hall:∀k,k<ops.size+1→listed.getD k false=true:=by
       intro k hk;obtain⟨e,he,hb,rfl⟩:=spec2.1 k hk;exact hpre e he hb
      rcases hJ with ⟨hzl,_⟩ | ⟨_,B',b,hB,hv,hI⟩
      ·rw[hall _ (by omega)]at hzl;simp at hzl
      ·obtain⟨_,_,h9⟩:=i2 _ _ _ _ hI;obtain⟨s1,loc1,hK,R1⟩:=h9 fun k hk=>by rw[lo_get _ _ _ hk];exact hall k (by omega)
       obtain⟨loc2,R2⟩:=hB.2.2.2 s1 a w loc1 R1 hv;rw[kF_f]at hK;have hK:=hK (lim B s1);rw[NR_,ho.1]at hK;simp only[ho.2,if_true]at hK;obtain⟨hd,_,hx⟩:=hK;obtain⟨d,own',x1,x2⟩:=IT_ hx (lim B ⟨(t,.bx t (lim B s1) 0)::s1.slots,upE s1.own t (lim B s1) (.box cs)⟩);unfold wpOpIn;rw[at_o];simp only;rw[if_pos (by simp[Region.wanted,ho.1])];refine eo_wp (R:=R2) (Nat.le_refl _) hd (fun x _=>R2.ev x) (fun x _=>Si_ _ x) x1 fun a' w' loc' R'=> ?_
       refine done fuel _ a' w' (by simpa using hsz) (fun k hk=> ?_) ⟨_,loc',x2,R'⟩
       by_cases hk2:k=ops.size+1
       ·subst hk2;rw[aT0,eC0 (by omega)];rfl
       ·rw[hset k hk2];exact hall k (by omega)
 have hrep:∀k,(Array.replicate (ops.size+2) false).getD k false=false:=by
  intro k;simp[aT0,eJ0]
  split<;>simp
 have hlo:lo (Array.replicate (ops.size+2) false)=Array.replicate ops.size false:=by
  apply Array.ext
  ·simp[lo]
  ·intro j h1 h2;simp only[lo,Array.getElem_ofFn,hrep,Array.getElem_replicate]
 rw[hsz3];refine main (ops.size+2) _ a _ ?_ (by simp) (hrep _) (.inl ⟨hrep _,by rw[hlo];exact i1 B rfl rfl a w loc R⟩)
 have:(List.range (ops.size+2)).countP (fun k=>(Array.replicate (ops.size+2) false).getD k false)=0:=by
  rw[List.countP_eq_zero];intro k _;rw[hrep];simp
 omega
def floatOK (ow l1 l2:List Nat) (ops3:Array Oper) (t ty:Nat):Bool :=
 Ex_ ow l1 l2 ops3.pop.pop&&gdOK ops3.pop.pop&&ops3.pop.pop.toList.all (fun o=>decide (o.dst≠some t)) &&
 (match ops3.pop.back? with | some z=>(match z.op with | .alloc ty'=>ty'==ty | _=>false)&&z.dst==some t&&z.guard.isNone&&z.after.isEmpty | none=>false) &&
 (match ops3.back? with | some o=>o.guard.isNone&&Bs_ ow o&&lastOK o (ops3.pop.pop.size+1) | none=>false)
theorem DW_rf (ow l1 l2:List Nat) (t ty:Nat) (cs:List DVal) {id:Nat} {ops3:Array Oper} {z o:Oper} {Q:Exit→DS→Prop} (hm:P.follows .mixedOrders=true) (hzb:ops3.pop.back?=some z) (hob:ops3.back?=some o) (h3:ops3=(ops3.pop.pop.push z).push o) (hc:floatOK ow l1 l2 ops3 t ty=true)
  (ht:t<B.nt) (hsl:getS s.slots t= .any) (hcs:tZero P ty=some cs) (hone:cs.all (oneO [])=true)
  (h:CN_ P B.nt ow l1 l2 ops3.pop.pop ops3.pop.pop.toList 0 (kF P B (Q .normal) ow t cs o) s):DW P B (.region id ops3 true) Q s:=by
 unfold floatOK at hc;rw[hzb,hob]at hc;simp only[aN0]at hc;obtain⟨⟨⟨⟨c1,c2⟩,c3⟩,c4⟩,c5⟩:=hc;obtain⟨⟨⟨c6,c7⟩,c8⟩,c9⟩:=c4;refine MR_ ow l1 l2 (z:=z) (o:=o) hm h3 c1 ⟨?_,by simpa using c7,by simpa using c8,by simpa using c9⟩ ⟨by simpa using c5.1.1,c5.1.2⟩ c5.2 c2 ht c3 hsl hcs hone h;cases hz:z.op<;>rw[hz]at c6<;>simp at c6;rw[c6]
end
theorem Qt_ {P:Program} {B:Base} {Q:Exit→DS→Prop} {s:DS} {x:Code} (bid c k bs:Nat) {rb:Nat} {cs:List DVal} (h:At_ s.own bid=some ⟨bid,rb,.box cs⟩) (hc:cs.getD c .any= .nilsl)
  (hw:DW P B x Q ⟨s.slots,upE s.own bid rb (.box (cs.set c (.sl k bs [])))⟩):DW P B x Q s:=by
 refine EP_ (fun a w loc R=> ?_) hw;refine R.reBox h rfl (by simp) fun arr hr=>Tv_ cs arr 0 c (fun v hv=> ?_) hr
 rw[hc]at hv;simp only[rd]at hv ⊢;rw[hv];exact⟨none,0,by simp,by simp,by simp,by simp,.inl ⟨by simp,fun _=>rfl⟩⟩
end Go.Dm
end
section
namespace Go.Proofs.YtchgnpnbcjflcaaGreat
open Go Go.Dm Go.Shelf
variable [DMode]
attribute [local irreducible] DW Bj_ Bp_
set_option maxRecDepth 100000
def Bt_ : Ann:=⟨[13,22,25],[⟨2,[],[],[0,1,2,3,4,5,6,7,9,10,12]⟩]⟩
set_option maxHeartbeats 2000000 in
theorem To_ (S SF:List Sym) (A:List Arc) (e e':Bool) (f f' l l':List Nat) (hp:S <+: SF) (hf:∀q∈f',1≤q∧q≤S.length) (hS:S.length<9223372036854775807) (hb:(A.length+l.length*f'.length)*32≤150000000000000)
  (h1:(f.length+f'.length)*8≤140737488355328) (h2:(l'.length+l.length)*8≤140737488355328) :
  AM_ Tryz.prog (.func 184) [.bx 0 0 0,PT_ e f l,PT_ e' f' l'] (dBx 0 0 S A) (PT_ (e&&e') (f++if e=true then f' else []) (l'++if e'=true then l else [])) (dBx 0 1 S (A++DA_ SF (CB_ l f'))):=by
 refine AP_ [22,25,6,7] [(0,0,0),(1,1,0),(2,2,1)] Bt_ Tryz.func184 Tryz.call184 Tryz.ntmps184 mxd (aj2 @Bt_.eq_1 Tryz.results184) rfl (by simp) (by simp) (by simp[dBx]) fun hwf B hnt hgAnn=> ?_
 clear hwf;simp only[argS];have e1:=HP_ S SF A l f' hp hf hS hb;have e2:=Ka_ f (by omega);have e3:=Ka_ l' (by omega);have b1:(f.length+f'.length)*8≤150000000000000:=by omega
 have b2:(l'.length+l.length)*8≤150000000000000:=by omega
 obtain⟨Z,hZ⟩:∃Z,Z=A++DA_ SF (CB_ l f'):=⟨_,rfl⟩;rw[←hZ]at e1 ⊢;cases e
 ·cases e'
  ·(repeat (first | (refine DW_rf (id:=2) (Bt_).ow [] [0,1,2,3,4,5,6,7,9,10] 7 165 [.bool false,.nilsl,.nilsl] mxd rfl rfl (by kernel_rfl) (by kernel_rfl) (by simp[hnt]) (by simp) (by simp) (by rfl) ?_;simp only[List.pop_toArray,fD0,fC0,List.dropLast_nil];simp[kF_f,Bt_,hnt,dBx,b1,b2,kF_f];try simp (disch:=omega) only[Ah_]) | refine Aw_ fun K hK=> ?_ | (refine DW_r Bt_ mxd (by kernel_rfl) ?_;simp[Bt_,hnt,dBx,b1,b2,kF_f];try simp (disch:=omega) only[Ah_]) | refine Al_ ?_ | (refine AJ_ ?_ ?_ ?_;(· (simp[hnt,dBx,b1,b2,kF_f];done));(try (rotate_left;(· (intro hc;(try simp[hnt,dBx,b1,b2,kF_f]at hc);done))))) | (refine Ay_ ?_;simp[Tryz.results184,hnt,dBx,b1,b2,kF_f]) | ((first | refine Aq_ ?_ | refine Ap_ ?_);simp[hnt,dBx,b1,b2,kF_f]) | (intro hc;(try simp[hnt,dBx,b1,b2,kF_f]at hc);(try (exfalso;omega))) | (refine Az_ [(0,0),(1,1),(2,2)] [] (e1) ?_ ?_;(· (simp[hnt,dBx,b1,b2,kF_f];done));(intro _;try simp[hnt,dBx,b1,b2,kF_f])) | (refine Az_ [] [(22,0)] (e2) ?_ ?_;(· (simp[hnt,dBx,b1,b2,kF_f];done));(intro _;try simp[hnt,dBx,b1,b2,kF_f])) | (refine Az_ [] [(25,0)] (e3) ?_ ?_;(· (simp[hnt,dBx,b1,b2,kF_f];done));(intro _;try simp[hnt,dBx,b1,b2,kF_f])) | (refine⟨?_,?_⟩; · omega) | omega | apply_assumption -exfalso -symm | (exfalso;omega)))
  ·(repeat (first | (refine DW_rf (id:=2) (Bt_).ow [] [0,1,2,3,4,5,6,7,9,10] 7 165 [.bool false,.nilsl,.nilsl] mxd rfl rfl (by kernel_rfl) (by kernel_rfl) (by simp[hnt]) (by simp) (by simp) (by rfl) ?_;simp only[List.pop_toArray,fD0,fC0,List.dropLast_nil];simp[kF_f,Bt_,hnt,dBx,b1,b2,kF_f];try simp (disch:=omega) only[Ah_]) | refine Aw_ fun K hK=> ?_ | (refine DW_r Bt_ mxd (by kernel_rfl) ?_;simp[Bt_,hnt,dBx,b1,b2,kF_f];try simp (disch:=omega) only[Ah_]) | refine Al_ ?_ | (refine AJ_ ?_ ?_ ?_;(· (simp[hnt,dBx,b1,b2,kF_f];done));(try (rotate_left;(· (intro hc;(try simp[hnt,dBx,b1,b2,kF_f]at hc);done))))) | (refine Ay_ ?_;simp[Tryz.results184,hnt,dBx,b1,b2,kF_f]) | ((first | refine Aq_ ?_ | refine Ap_ ?_);simp[hnt,dBx,b1,b2,kF_f]) | (intro hc;(try simp[hnt,dBx,b1,b2,kF_f]at hc);(try (exfalso;omega))) | (refine Az_ [(0,0),(1,1),(2,2)] [] (e1) ?_ ?_;(· (simp[hnt,dBx,b1,b2,kF_f];done));(intro _;try simp[hnt,dBx,b1,b2,kF_f])) | (refine Az_ [] [(22,0)] (e2) ?_ ?_;(· (simp[hnt,dBx,b1,b2,kF_f];done));(intro _;try simp[hnt,dBx,b1,b2,kF_f])) | (refine Az_ [] [(25,0)] (e3) ?_ ?_;(· (simp[hnt,dBx,b1,b2,kF_f];done));(intro _;try simp[hnt,dBx,b1,b2,kF_f])) | (refine⟨?_,?_⟩; · omega) | omega | apply_assumption -exfalso -symm | (exfalso;omega)))
 ·cases e'
  ·(repeat (first | (refine DW_rf (id:=2) (Bt_).ow [] [0,1,2,3,4,5,6,7,9,10] 7 165 [.bool false,.nilsl,.nilsl] mxd rfl rfl (by kernel_rfl) (by kernel_rfl) (by simp[hnt]) (by simp) (by simp) (by rfl) ?_;simp only[List.pop_toArray,fD0,fC0,List.dropLast_nil];simp[kF_f,Bt_,hnt,dBx,b1,b2,kF_f];try simp (disch:=omega) only[Ah_]) | refine Aw_ fun K hK=> ?_ | (refine DW_r Bt_ mxd (by kernel_rfl) ?_;simp[Bt_,hnt,dBx,b1,b2,kF_f];try simp (disch:=omega) only[Ah_]) | refine Al_ ?_ | (refine AJ_ ?_ ?_ ?_;(· (simp[hnt,dBx,b1,b2,kF_f];done));(try (rotate_left;(· (intro hc;(try simp[hnt,dBx,b1,b2,kF_f]at hc);done))))) | (refine Ay_ ?_;simp[Tryz.results184,hnt,dBx,b1,b2,kF_f]) | ((first | refine Aq_ ?_ | refine Ap_ ?_);simp[hnt,dBx,b1,b2,kF_f]) | (intro hc;(try simp[hnt,dBx,b1,b2,kF_f]at hc);(try (exfalso;omega))) | (refine Az_ [(0,0),(1,1),(2,2)] [] (e1) ?_ ?_;(· (simp[hnt,dBx,b1,b2,kF_f];done));(intro _;try simp[hnt,dBx,b1,b2,kF_f])) | (refine Az_ [] [(22,0)] (e2) ?_ ?_;(· (simp[hnt,dBx,b1,b2,kF_f];done));(intro _;try simp[hnt,dBx,b1,b2,kF_f])) | (refine Az_ [] [(25,0)] (e3) ?_ ?_;(· (simp[hnt,dBx,b1,b2,kF_f];done));(intro _;try simp[hnt,dBx,b1,b2,kF_f])) | (refine⟨?_,?_⟩; · omega) | omega | apply_assumption -exfalso -symm | (exfalso;omega)))
  ·(repeat (first | (refine DW_rf (id:=2) (Bt_).ow [] [0,1,2,3,4,5,6,7,9,10] 7 165 [.bool false,.nilsl,.nilsl] mxd rfl rfl (by kernel_rfl) (by kernel_rfl) (by simp[hnt]) (by simp) (by simp) (by rfl) ?_;simp only[List.pop_toArray,fD0,fC0,List.dropLast_nil];simp[kF_f,Bt_,hnt,dBx,b1,b2,kF_f];try simp (disch:=omega) only[Ah_]) | refine Aw_ fun K hK=> ?_ | (refine DW_r Bt_ mxd (by kernel_rfl) ?_;simp[Bt_,hnt,dBx,b1,b2,kF_f];try simp (disch:=omega) only[Ah_]) | refine Al_ ?_ | (refine AJ_ ?_ ?_ ?_;(· (simp[hnt,dBx,b1,b2,kF_f];done));(try (rotate_left;(· (intro hc;(try simp[hnt,dBx,b1,b2,kF_f]at hc);done))))) | (refine Ay_ ?_;simp[Tryz.results184,hnt,dBx,b1,b2,kF_f]) | ((first | refine Aq_ ?_ | refine Ap_ ?_);simp[hnt,dBx,b1,b2,kF_f]) | (intro hc;(try simp[hnt,dBx,b1,b2,kF_f]at hc);(try (exfalso;omega))) | (refine Az_ [(0,0),(1,1),(2,2)] [] (e1) ?_ ?_;(· (simp[hnt,dBx,b1,b2,kF_f];done));(intro _;try simp[hnt,dBx,b1,b2,kF_f])) | (refine Az_ [] [(22,0)] (e2) ?_ ?_;(· (simp[hnt,dBx,b1,b2,kF_f];done));(intro _;try simp[hnt,dBx,b1,b2,kF_f])) | (refine Az_ [] [(25,0)] (e3) ?_ ?_;(· (simp[hnt,dBx,b1,b2,kF_f];done));(intro _;try simp[hnt,dBx,b1,b2,kF_f])) | (refine⟨?_,?_⟩; · omega) | omega | apply_assumption -exfalso -symm | (exfalso;omega)))
end Go.Proofs.YtchgnpnbcjflcaaGreat
end
section
namespace Go.Proofs.YtchgnpnbcjflcaaGreat
open Go Go.Dm
variable [DMode]
def Jm_ (H L:List ByteArray) (S:List Sym) (t:RT):List Sym:=S++(lvs (flat t)).map (symS H L)
def FP_ (H L:List ByteArray) (S:List Sym) (us:List RT):List Sym:=S++(lvs (Am_ us)).map (symS H L)
def firT (l:List Nd) (ah:Nat) (t:RT) (a:Nat):List Nat:=(fiT t a).map (num l ah)
def lasT (l:List Nd) (ah:Nat) (t:RT) (a:Nat):List Nat:=(laT t a).map (num l ah)
def Gv_ (SF:List Sym) (l:List Nd) (ah:Nat) (A:List Arc) (t:RT) (a:Nat):List Arc:=A++DA_ SF ((arT t a).map (num2 l ah))
def firA (l:List Nd) (ah:Nat) (k:Int) (us:List RT) (a:Nat):List Nat:=(fiL k us a).map (num l ah)
def lasA (l:List Nd) (ah:Nat) (k:Int) (us:List RT) (a:Nat):List Nat:=(laL k us a).map (num l ah)
def Fu_ (SF:List Sym) (l:List Nd) (ah:Nat) (A:List Arc) (k:Int) (us:List RT) (a:Nat):List Arc:=A++DA_ SF ((arL k us a []).map (num2 l ah))
theorem symsA_nil (H L:List ByteArray) (S:List Sym):FP_ H L S []=S:=by unfold FP_;rw[Bg_];simp[lvs]
theorem firA_nil (l:List Nd) (ah:Nat) (k:Int) (a:Nat):firA l ah k [] a=[]:=by unfold firA;rw[HU_];rfl
theorem lasA_nil (l:List Nd) (ah:Nat) (k:Int) (a:Nat):lasA l ah k [] a=[]:=by unfold lasA;rw[Gg_];rfl
theorem arcsA_nil (SF:List Sym) (l:List Nd) (ah:Nat) (A:List Arc) (k:Int) (a:Nat):Fu_ SF l ah A k [] a=A:=by unfold Fu_;rw[Ic_];simp[DA_]
theorem YL_ (H L:List ByteArray) (S:List Sym) (us:List RT) (u:RT):FP_ H L S (us++[u])=Jm_ H L (FP_ H L S us) u:=by
 unfold FP_ Jm_;rw[DY_,flatL_one,Fh_,aX0,aU0]
theorem symsA_all (H L:List ByteArray) (S:List Sym) {x:Nd} (ks:List RT) (h:¬(x.k=2∨x.k=3)):Jm_ H L S (.mk x ks)=FP_ H L S ks:=by
 unfold FP_ Jm_;rw[AB_,IF_ h]
theorem firA_four (l:List Nd) (ah:Nat) (us:List RT) (u:RT) (a:Nat):firA l ah 4 (us++[u]) a=firA l ah 4 us a++(if pE 4 us=true then firT l ah u (a+(Am_ us).length)else []):=by
 unfold firA firT;rw[PO_,aX0]
 congr 1
 unfold pE;cases h:allE us<;>simp
theorem firA_else (l:List Nd) (ah:Nat) {k:Int} (hk:¬k=4) (us:List RT) (u:RT) (a:Nat):firA l ah k (us++[u]) a=firA l ah k us a++firT l ah u (a+(Am_ us).length):=by
 unfold firA firT;rw[PO_,aX0,if_neg (fun h=>hk h.1)]
theorem lasA_four (l:List Nd) (ah:Nat) (us:List RT) (u:RT) (a:Nat):lasA l ah 4 (us++[u]) a=lasT l ah u (a+(Am_ us).length)++(if empT u=true then lasA l ah 4 us a else []):=by
 unfold lasA lasT;rw[Pp_,if_pos rfl,aX0];cases h:empT u<;>simp
theorem lasA_else (l:List Nd) (ah:Nat) {k:Int} (hk:¬k=4) (us:List RT) (u:RT) (a:Nat):lasA l ah k (us++[u]) a=lasA l ah k us a++lasT l ah u (a+(Am_ us).length):=by
 unfold lasA lasT;rw[Pp_,if_neg hk,aX0]
theorem ZW_ (SF:List Sym) (l:List Nd) (ah:Nat) (A:List Arc) (us:List RT) (u:RT) (a:Nat):Fu_ SF l ah A 4 (us++[u]) a=Gv_ SF l ah (Fu_ SF l ah A 4 us a) u (a+(Am_ us).length)++DA_ SF (CB_ (lasA l ah 4 us a) (firT l ah u (a+(Am_ us).length))):=by
 unfold Fu_ Gv_ lasA firT;rw[SK_,RP_,aX0,aX0,EN_,EN_];simp[aU0]
theorem ZX_ (SF:List Sym) (l:List Nd) (ah:Nat) (A:List Arc) {k:Int} (hk:¬k=4) (us:List RT) (u:RT) (a:Nat):Fu_ SF l ah A k (us++[u]) a=Gv_ SF l ah (Fu_ SF l ah A k us a) u (a+(Am_ us).length):=by
 unfold Fu_ Gv_;rw[Wu_ k hk,aX0,EN_,aU0]
theorem firA_all (l:List Nd) (ah:Nat) {x:Nd} (ks:List RT) (a:Nat) (h:¬(x.k=2∨x.k=3)):firT l ah (.mk x ks) a=firA l ah x.k ks (a+1):=by
 unfold firT firA;rw[JX_,if_neg h]
theorem lasA_all (l:List Nd) (ah:Nat) {x:Nd} (ks:List RT) (a:Nat) (h:¬(x.k=2∨x.k=3)):lasT l ah (.mk x ks) a=lasA l ah x.k ks (a+1):=by
 unfold lasT lasA;rw[IK_,if_neg h]
theorem Oe_ (SF:List Sym) (l:List Nd) (ah:Nat) (A:List Arc) {x:Nd} (ks:List RT) (a:Nat) (h:¬(x.k=2∨x.k=3)) (h6:x.k=6∨x.k=7):Gv_ SF l ah A (.mk x ks) a=Fu_ SF l ah A x.k ks (a+1)++DA_ SF (CB_ (lasA l ah x.k ks (a+1)) (firA l ah x.k ks (a+1))):=by
 unfold Gv_ Fu_ lasA firA;rw[Jd_,if_neg h,if_pos h6,RP_,aX0,EN_,aU0]
theorem ZV_ (SF:List Sym) (l:List Nd) (ah:Nat) (A:List Arc) {x:Nd} (ks:List RT) (a:Nat) (h:¬(x.k=2∨x.k=3)) (h6:¬(x.k=6∨x.k=7)):Gv_ SF l ah A (.mk x ks) a=Fu_ SF l ah A x.k ks (a+1):=by
 unfold Gv_ Fu_;rw[Jd_,if_neg h,if_neg h6,bM0]
theorem firT_len (l:List Nd) (ah:Nat) (t:RT) (a:Nat):(firT l ah t a).length≤(lvs (flat t)).length:=by unfold firT;rw[aJ0];exact PN_ t a
theorem lasT_len (l:List Nd) (ah:Nat) (t:RT) (a:Nat):(lasT l ah t a).length≤(lvs (flat t)).length:=by unfold lasT;rw[aJ0];exact Po_ t a
theorem VY_ (l:List Nd) (ah:Nat) (k:Int) (us:List RT) (a:Nat):(firA l ah k us a).length≤(lvs (Am_ us)).length:=by unfold firA;rw[aJ0];exact PQ_ k us a
theorem VI_ (l:List Nd) (ah:Nat) (k:Int) (us:List RT) (a:Nat):(lasA l ah k us a).length≤(lvs (Am_ us)).length:=by unfold lasA;rw[aJ0];exact Pr_ k us a
theorem SJ_ (SF:List Sym) (l:List Nd) (ah:Nat) (A:List Arc) (k:Int) (us:List RT) (a:Nat) (h:(lvs (Am_ us)).length≤64):(Fu_ SF l ah A k us a).length≤A.length+8192*(Am_ us).length:=by
 unfold Fu_;rw[aC0,Jb_,aJ0];have:=Uv_ k us a [] (by simpa using h);omega
theorem arcsT_len (SF:List Sym) (l:List Nd) (ah:Nat) (A:List Arc) (t:RT) (a:Nat) (h:(lvs (flat t)).length≤64):(Gv_ SF l ah A t a).length+4096≤A.length+8192*(flat t).length:=by
 unfold Gv_;rw[aC0,Jb_,aJ0];have:=Uu_ t a h;omega
theorem symsT_len (H L:List ByteArray) (S:List Sym) (t:RT):(Jm_ H L S t).length=S.length+(lvs (flat t)).length:=by simp[Jm_]
theorem QJ_ (H L:List ByteArray) (S:List Sym) (us:List RT):(FP_ H L S us).length=S.length+(lvs (Am_ us)).length:=by simp[FP_]
theorem firT_num {l r:List Nd} {t:RT} {a ah:Nat} (h:l.drop a=flat t++r):∀q∈firT l ah t a,1≤q∧q≤ah+rkN l (a+(flat t).length):=fi_num h
theorem firA_num {l r:List Nd} {k:Int} {us:List RT} {a ah:Nat} (h:l.drop a=Am_ us++r):∀q∈firA l ah k us a,1≤q∧q≤ah+rkN l (a+(Am_ us).length):=fiL_num h
end Go.Proofs.YtchgnpnbcjflcaaGreat
end
section
namespace Go.Proofs.YtchgnpnbcjflcaaGreat
open Go Go.Dm Go.Shelf
variable [DMode]
attribute [local irreducible] DW Bj_ Bp_
set_option maxRecDepth 100000
abbrev ofF (H L:List ByteArray):DVal:= .fn (.func 105) [] [.ref [dTab H L]]
def Lf_ (H L:List ByteArray) (l:List Nd) (ah:Nat) (SF:List Sym) (t:RT):Prop :=
 ∀(a:Nat) (r:List Nd) (S:List Sym) (A:List Arc),l.drop a=flat t++r→S.length=ah+rkN l a→Jm_ H L S t <+: SF→(A.length+8192*(flat t).length)*32≤150000000000000 →
  AM_ Tryz.prog (.func 104) [.bx 0 0 0,dNds (flat t++r),ofF H L] (dBx 0 0 S A) (.tup [PT_ (empT t) (firT l ah t a) (lasT l ah t a),dNds r]) (dBx 1 1 (Jm_ H L S t) (Gv_ SF l ah A t a))
def Yb_ : Ann:=⟨[66,75,90],[⟨1,[8],[],[]⟩,⟨5,[],[0],[]⟩]⟩
set_option maxHeartbeats 2000000 in
theorem Tf_ (H L:List ByteArray) (l:List Nd) (ah:Nat) (SF:List Sym) (x:Nd) (hx:x.k=2∨x.k=3) (h64:ah+(lvs l).length≤64):Lf_ H L l ah SF (.mk x []):=by
 intro a r S A hdr hS hSF hA;have hfl:flat (.mk x [])=[x]:=by rw[AB_,Bg_]
 have hlx:lvs (flat (.mk x []))=[x]:=by rw[hfl,Pj_ hx];rfl
 have h1:Jm_ H L S (.mk x [])=S++[symS H L x]:=by unfold Jm_;rw[hlx];rfl
 have h2:firT l ah (.mk x []) a=[num l ah a]:=by unfold firT;rw[JX_,if_pos hx];rfl
 have h3:lasT l ah (.mk x []) a=[num l ah a]:=by unfold lasT;rw[IK_,if_pos hx];rfl
 have h4:Gv_ SF l ah A (.mk x []) a=A:=by unfold Gv_;rw[Jd_,if_pos hx];simp[DA_]
 have h5:empT (.mk x [])=false:=by rw[Mo_,if_pos hx]
 have h6:num l ah a=S.length+1:=by unfold num;omega
 have hs:=lvs_sub hdr;rw[hlx]at hs
 have hr1:rkN l a≤(lvs l).length:=by
  rw[←FU_]
  by_cases h:a≤l.length
  ·exact OG_ l h
  ·unfold rkN;rw[bW0 (by omega),aQ0];exact Nat.le_refl _
 rw[h1,h2,h3,h4,h5,h6,hfl];have e1:=of70_pure H L x;clear hSF h1 h2 h3 h4 h5 h6 hdr hfl hlx;refine AP_ [6,10] [(0,0,0),(1,1,1),(2,2,1)] Yb_ Tryz.func104 Tryz.call104 Tryz.ntmps104 mxd (aj2 @Yb_.eq_1 Tryz.results104) rfl (by simp) (by simp) (by simp[dBx]) fun hwf B hnt hgAnn=> ?_
 clear hwf;have hS1:S.length≤64:=by omega
 have hS2:(S.length+1)*16≤150000000000000:=by omega
 simp only[argS,List.cons_append,List.nil_append];have hT:List.take r.length (List.map dNd r)=List.map dNd r:=bW0 (by simp)
 rcases hx with hx | hx
 ·simp only[dNd,hx]at e1;exact go0 (aj1 e1) aj0 (aj7 @dBx.eq_1 @dNd.eq_1 @dSym.eq_1 hx hS2 @natD.eq_1 hT)
 ·simp only[dNd,hx]at e1;exact go0 (aj1 e1) aj0 (aj7 @dBx.eq_1 @dNd.eq_1 @dSym.eq_1 hx hS2 @natD.eq_1 hT)
theorem rkN_le (l:List Nd) (p:Nat):rkN l p≤(lvs l).length:=by
 rw[←FU_]
 by_cases h:p≤l.length
 ·exact OG_ l h
 ·unfold rkN;rw[bW0 (by omega),aQ0];exact Nat.le_refl _
theorem VX_ : ∀us:List RT,us.length≤(Am_ us).length
 | []=>by simp
 | u::us=>by
  have h1:=Fr_ u;have h2:=VX_ us;rw[An_,aC0,List.length_cons];omega
theorem VW_ : ∀{us:List RT} {u:RT},u∈us→(flat u).length≤(Am_ us).length
 | v::us,u,h=>by
  rw[An_,aC0]
  rcases aK0.1 h with rfl | h
  ·omega
  ·have:=VW_ h;omega
def Oj_ : Ann:=⟨[66,75,90],[⟨1,[8],[],[]⟩,⟨5,[],[0],[]⟩]⟩
set_option maxHeartbeats 4000000 in
theorem Te_ (H L:List ByteArray) (l:List Nd) (ah:Nat) (SF:List Sym) (x:Nd) (ks:List RT) (ht:okT (.mk x ks)=true) (hx:¬(x.k=2∨x.k=3)) (h64:ah+(lvs l).length≤64) (ih:∀u∈ks,Lf_ H L l ah SF u):Lf_ H L l ah SF (.mk x ks):=by
 intro a r S A hdr hS hSF hA;have hn:=(Bx_ ht).2.1;have hEall:=pE_all ht hx
 have hdr1:l.drop (a+1)=Am_ ks++r:=by
  have:=Sp_ (m:=[x]) (r:=Am_ ks++r) (by rw[hdr,AB_];rfl);simpa using this
 have hrk1:rkN l (a+1)=rkN l a:=by
  have:=EV_ (m:=[x]) (r:=Am_ ks++r) (by rw[hdr,AB_];rfl);rw[IF_ hx]at this;simpa[lvs]using this
 rw[symsA_all H L S ks hx]at hSF ⊢;rw[firA_all l ah ks a hx,lasA_all l ah ks a hx,hEall];rw[AB_,List.length_cons]at hA;have hlv:=lvs_sub hdr1;have hrl:=rkN_le l;obtain⟨AF,hAF⟩:∃AF,AF=Gv_ SF l ah A (.mk x ks) a:=⟨_,rfl⟩;rw[←hAF,AB_];clear hEall hdr ht;refine AP_ [6,10] [(0,0,0),(1,1,1),(2,2,1)] Oj_ Tryz.func104 Tryz.call104 Tryz.ntmps104 mxd (aj2 @Oj_.eq_1 Tryz.results104) rfl (by simp) (by simp) (by simp[dBx]) fun hwf B hnt hgAnn=> ?_
 clear hwf;have k2:¬x.k=2:=fun h=>hx (.inl h)
 have k3:¬x.k=3:=fun h=>hx (.inr h)
 have hT:List.take (Am_ ks++r).length (List.map dNd (Am_ ks++r))=List.map dNd (Am_ ks++r):=bW0 (by simp);obtain⟨R1,hR1⟩:∃R1,R1=Am_ ks++r:=⟨_,rfl⟩;simp only[argS,List.cons_append];rw[←hR1]at hT ⊢;have b2:(x.k==2)=false:=by simpa using k2
 have b3:(x.k==3)=false:=by simpa using k3
 (refine go1 aj0 aj0 (aj7 @dBx.eq_1 @dNd.eq_1 k2 k3 b2 b3 hT) ?_;intros;refine mk_i ?_)
 have hp0:(decide (x.k=1)||x.k==4)=pE x.k []:=by rw[pE_nil];rfl
 rw[hp0];refine Qt_ 10 1 1 8 rfl rfl ?_;refine Qt_ 10 2 1 8 rfl rfl ?_;have hj0:(0:Int)=(([]:List RT).length:Int):=rfl
 refine Ae_ (X:={p:List RT×List RT//ks=p.1++p.2}) (fun p=>⟨[(0,.bx 0 0 0),(2,ofF H L),(6,.bx 6 1 0),(7,.nilsl),(8,.ref (dNd x)),(9,dNds (Am_ p.1.2++r)),(10,.bx 10 1 0),(59,.int .i64 x.n),(60,.int .i64 p.1.1.length)],
  dBx 1 1 (FP_ H L S p.1.1) (Fu_ SF l ah A x.k p.1.1 (a+1))++[⟨6,1,.box [.bool false,.nilsl,.nilsl]⟩,⟨10,1,.box [.bool (pE x.k p.1.1),BM_ (firA l ah x.k p.1.1 (a+1)),BM_ (lasA l ah x.k p.1.1 (a+1))]⟩]⟩) (fun p=>p.1.2.length) ⟨([],ks),rfl⟩ (Sub.lit (by simp[dBx,symsA_nil,arcsA_nil,firA_nil,lasA_nil,dNd,hR1])) ?_
 rintro⟨⟨us,vs⟩,hks⟩;simp only at hks ⊢
 cases vs with
 | cons u vs =>
  have hmem:u∈ks:=by rw[hks];simp
  have hlt:(us.length:Int)<x.n:=by rw[hn,hks];simp;omega
  have hks1:Am_ ks=Am_ us++(flat u++Am_ vs):=by rw[hks,DY_,An_]
  have hdrA:l.drop (a+1)=Am_ us++(flat u++(Am_ vs++r)):=by rw[hdr1,hks1];simp
  have hdrU:=Sp_ hdrA;have hSU:(FP_ H L S us).length=ah+rkN l (a+1+(Am_ us).length):=by rw[QJ_,EV_ hdrA,hS,hrk1];omega
  have hpre:FP_ H L S (us++[u]) <+: SF:=by
   refine List.IsPrefix.trans ?_ hSF;rw[hks];unfold FP_;rw[show us++u::vs=(us++[u])++vs by simp,DY_ (us++[u]),Fh_,aX0,←aU0];exact List.prefix_append _ _
  have hSn:=YL_ H L S us u;rw[hSn]at hpre
  have hlv1:(lvs (Am_ us)).length+(lvs (flat u)).length≤(lvs l).length:=by
   rw[hks1,Fh_,Fh_,aC0,aC0]at hlv;omega
  have hAl:=SJ_ SF l ah A x.k us (a+1) (by omega);have hfl:(Am_ ks).length=(Am_ us).length+((flat u).length+(Am_ vs).length):=by rw[hks1,aC0,aC0]
  have e1:=ih u hmem _ _ (FP_ H L S us) (Fu_ SF l ah A x.k us (a+1)) hdrU hSU hpre (by omega);have hAl1:=arcsT_len SF l ah (Fu_ SF l ah A x.k us (a+1)) u (a+1+(Am_ us).length) (by omega);have hSl1:=symsT_len H L (FP_ H L S us) u;have hnum:=firT_num (ah:=ah) hdrU;have hr5:=hrl (a+1+(Am_ us).length+(flat u).length);rw[EV_ hdrU]at hnum hr5;have hF0:=VY_ l ah x.k us (a+1);have hL0:=VI_ l ah x.k us (a+1)
  have hF1:=firT_len l ah u (a+1+(Am_ us).length);have hL1:=lasT_len l ah u (a+1+(Am_ us).length);have hEn:=pE_snoc x.k us u;have hFn:=fun h=>firA_else l ah (k:=x.k) h us u (a+1)
  have hLn:=fun h=>lasA_else l ah (k:=x.k) h us u (a+1)
  have hAn:=fun h=>ZX_ SF l ah A (k:=x.k) h us u (a+1)
  have hFn4:=firA_four l ah us u (a+1);have hLn4:=lasA_four l ah us u (a+1);have hAn4:=ZW_ SF l ah A us u (a+1);have hdl:Am_ (u::vs)++r=flat u++(Am_ vs++r):=by rw[An_,aU0]
  rw[hdl];obtain⟨R0,hR0⟩:∃R0,R0=flat u++(Am_ vs++r):=⟨_,rfl⟩;rw[←hR0]at e1 ⊢;obtain⟨R2,hR2⟩:∃R2,R2=Am_ vs++r:=⟨_,rfl⟩;rw[←hR2]at e1;have hjm:=Pu_ (l:=lasA l ah x.k us (a+1)) (f:=firT l ah u (a+1+(Am_ us).length)) (by omega) (by omega);have hge:=VX_ us;have hwr:IntKind.i64.wrap ((us.length:Int)+1)=(us.length:Int)+1:=wq
  by_cases k4:x.k=4
  ·have e2:=To_ (Jm_ H L (FP_ H L S us) u) SF (Gv_ SF l ah (Fu_ SF l ah A x.k us (a+1)) u (a+1+(Am_ us).length)) (pE x.k us) (empT u) (firA l ah x.k us (a+1)) (firT l ah u (a+1+(Am_ us).length)) (lasA l ah x.k us (a+1)) (lasT l ah u (a+1+(Am_ us).length)) hpre (fun q hq=>by have:=hnum q hq;omega) (by omega) (by omega) (by omega) (by omega);rw[k4]at e1 e2 hEn;rw[if_pos rfl]at hEn;rw[←hFn4,←hLn4,←hAn4,←hEn]at e2
   rw[←hSn]at e1 e2;simp only[k4]
   (refine go1 aj0 (aj2 (spc [(0,0),(1,1),(2,2)] [] e1) (spc [(0,0),(1,1),(2,2)] [] e2)) (aj4 @dBx.eq_1 @dNd.eq_1 k4 hlt) ?_;intros;refine mk_i ?_)
   refine Aj_.mk ⟨(us++[u],vs),by simp[hks]⟩ (Sub.lit (by simp[dBx,hR2,hwr])) (by simp)
   skip
  ·have e2:=aa_ (pE x.k us) (empT u) (firA l ah x.k us (a+1)) (firT l ah u (a+1+(Am_ us).length)) (lasA l ah x.k us (a+1)) (lasT l ah u (a+1+(Am_ us).length)) (by omega) (by omega);rw[if_neg k4]at hEn;rw[←hFn k4,←hLn k4,←hEn]at e2;rw[←hAn k4,←hSn]at e1;have b4:(x.k==4)=false:=by simpa using k4
   (refine go1 (aj1 e2) (aj1 (spc [(0,0),(1,1),(2,2)] [] e1)) (aj5 @dBx.eq_1 @dNd.eq_1 k4 b4 hlt) ?_;intros;refine mk_i ?_)
   refine Aj_.mk ⟨(us++[u],vs),by simp[hks]⟩ (Sub.lit (by simp[dBx,hR2,hwr])) (by simp)
   skip
 | nil =>
  rw[bM0]at hks;subst hks;have hnlt:¬((ks.length:Int)<x.n):=by rw[hn];omega
  have hSl:=QJ_ H L S ks;have hr5:=hrl (a+1+(Am_ ks).length);rw[EV_ hdr1]at hr5;have hF0:=VY_ l ah x.k ks (a+1);have hL0:=VI_ l ah x.k ks (a+1);have hAl:=SJ_ SF l ah A x.k ks (a+1) (by omega);have hnum:=firA_num (ah:=ah) (k:=x.k) hdr1;rw[EV_ hdr1]at hnum;have hjm:=Pu_ (l:=lasA l ah x.k ks (a+1)) (f:=firA l ah x.k ks (a+1)) (by omega) (by omega);have e3:=HP_ (FP_ H L S ks) SF (Fu_ SF l ah A x.k ks (a+1)) (lasA l ah x.k ks (a+1)) (firA l ah x.k ks (a+1)) hSF (fun q hq=>by have:=hnum q hq;omega) (by omega) (by omega)
  have hdl:Am_ []++r=r:=by rw[Bg_];rfl
  rw[hdl];have hbe:∀n:Int,(x.k==n)=decide (x.k=n):=fun n=>rfl
  by_cases h6:x.k=6
  ·rw[Oe_ SF l ah A ks a hx (.inl h6)]at hAF;rw[←hAF]at e3;rw[h6]at e3;simp only[h6];exact go0 aj0 (aj1 (spc [(0,0),(1,1),(2,2)] [] e3)) (aj4 @dBx.eq_1 @dNd.eq_1 h6 hnlt)
  ·by_cases h7:x.k=7
   ·rw[Oe_ SF l ah A ks a hx (.inr h7)]at hAF;rw[←hAF]at e3;rw[h7]at e3;simp only[h7];exact go0 aj0 (aj1 (spc [(0,0),(1,1),(2,2)] [] e3)) (aj4 @dBx.eq_1 @dNd.eq_1 h7 hnlt)
   ·rw[ZV_ SF l ah A ks a hx (by omega)]at hAF;have b6:(x.k==6)=false:=by simpa using h6
    have b7:(x.k==7)=false:=by simpa using h7
    exact go0 aj0 aj0 (aj9 @dBx.eq_1 @dNd.eq_1 h6 h7 b6 b7 hnlt hbe hAF)
theorem Nq_ (H L:List ByteArray) (l:List Nd) (ah:Nat) (SF:List Sym) (h64:ah+(lvs l).length≤64):∀(n:Nat) (t:RT),(flat t).length≤n→okT t=true→Lf_ H L l ah SF t
 | 0,t,hn,_=>by have:=Fr_ t;omega
 | n+1,.mk x ks,hn,ht=>by
  by_cases hx:x.k=2∨x.k=3
  ·have:=Fl_ ht hx;subst this;exact Tf_ H L l ah SF x hx h64
  ·refine Te_ H L l ah SF x ks ht hx h64 fun u hu=> ?_
   refine Nq_ H L l ah SF h64 n u ?_ (OX_ (Bx_ ht).2.2 u hu);have h1:=VW_ hu;rw[AB_,List.length_cons]at hn;omega
end Go.Proofs.YtchgnpnbcjflcaaGreat
end
section
namespace Go.Proofs.YtchgnpnbcjflcaaGreat
open Go Go.Dm
variable [DMode]
attribute [local irreducible] DW Bj_ Bp_
set_option maxRecDepth 100000
def XY_ : Ann:=⟨[],[]⟩
theorem SC_ (x y:Sym):Ac_ Tryz.prog 190 [.agg (dSym x),.agg (dSym y)] (.int .i64 (symC x y)):=by
 refine Aa_ [] XY_ Tryz.func190 Tryz.call190 Tryz.ntmps190 mxd (aj2 @XY_.eq_1 Tryz.results190) rfl (by simp) (by simp[mx]) fun hwf B hnt hgAnn=> ?_
 simp only[argS];cases h1:x.label<;>cases h2:y.label<;>exact go0 (aj1 (Cc_ x.n y.n)) aj0 (aj4 @dSym.eq_1 h1 h2 @symC.eq_1)
def XZ_ : Ann:=⟨[],[]⟩
theorem Rm_ (x y:Arc):Ac_ Tryz.prog 109 [.agg (dArc x),.agg (dArc y)] (.int .i64 (arcC x y)):=by
 refine Aa_ [] XZ_ Tryz.func109 Tryz.call109 Tryz.ntmps109 mxd (aj2 @XZ_.eq_1 Tryz.results109) rfl (by simp) (by simp[mx]) fun hwf B hnt hgAnn=> ?_
 simp only[argS];have h1:=Cc_ x.fr y.fr;have h2:=SC_ x.sy y.sy;have h3:=Cc_ x.to y.to;have h4:=Vk_ (cmpI x.fr y.fr) (symC x.sy y.sy) (cmpI x.to y.to);simp only[dSym]at h2;unfold arcC;exact go0 (aj4 h1 h2 h3 h4) aj0 (aj1 @dArc.eq_1)
def XX_ : Ann:=⟨[],[]⟩
theorem MU_ (x y:Sym):Ac_ Tryz.prog 206 [.agg (dSym x),.agg (dSym y)] (.bool (Lk_ x y)):=by
 refine Aa_ [] XX_ Tryz.func206 Tryz.call206 Tryz.ntmps206 mxd (aj2 @XX_.eq_1 Tryz.results206) rfl (by simp) (by simp[mx]) fun hwf B hnt hgAnn=> ?_
 simp only[argS];cases h1:x.label<;>cases h2:y.label<;>exact go0 aj0 aj0 (aj4 @dSym.eq_1 h1 h2 @Lk_.eq_1)
def XW_ : Ann:=⟨[],[]⟩
theorem TL_ (x y:Arc):Ac_ Tryz.prog 297 [.agg (dArc x),.agg (dArc y)] (.bool (JB_ x y)):=by
 refine Aa_ [] XW_ Tryz.func297 Tryz.call297 Tryz.ntmps297 mxd (aj2 @XW_.eq_1 Tryz.results297) rfl (by simp) (by simp[mx]) fun hwf B hnt hgAnn=> ?_
 simp only[argS];have h2:=MU_ x.sy y.sy;simp only[dSym]at h2;unfold JB_
 by_cases h1:x.fr=y.fr
 ·have h1b:(x.fr != y.fr)=false:=by simpa using h1
  by_cases h3:x.sy=y.sy
  ·have e1:x.sy.label=y.sy.label:=by rw[h3]
   have e2:x.sy.n=y.sy.n:=by rw[h3]
   exact go0 (aj1 h2) aj0 (aj6 @dArc.eq_1 h1 h1b h3 e1 e2)
  ·have e:(x.sy.label==y.sy.label&&x.sy.n==y.sy.n)=false:=by
    rw[eE0];intro hh;simp only[aN0,beq_iff_eq]at hh
    apply h3
    cases hx:x.sy;cases hy:y.sy;rw[hx,hy]at hh;simp only at hh;rw[hh.1,hh.2]
   exact go0 (aj1 h2) aj0 (aj5 @dArc.eq_1 h1 h1b h3 e)
 ·have h1b:(x.fr != y.fr)=true:=by simpa using h1
  exact go0 (aj1 h2) aj0 (aj3 @dArc.eq_1 h1 h1b)
end Go.Proofs.YtchgnpnbcjflcaaGreat
end
section
namespace Go.Dm
variable [DMode]
open Go.Shelf Go.Sort Go.Proofs Go.RowKit
abbrev TextM := { s:ByteArray//s.size≤maxLen }
instance : Inhabited TextM:=⟨⟨⟨#[]⟩,by decide⟩⟩
end Go.Dm
end
section
namespace Go.Proofs.YtchgnpnbcjflcaaGreat
open Go Go.Dm Go.Shelf
variable [DMode]
attribute [local irreducible] DW Bj_ Bp_
set_option maxRecDepth 100000
abbrev eqA (x y:Arc):Bool:=arcC x y==0
theorem eqA_ne {x y:Arc} (h:eqA x y=false):¬x=y:=fun e=>by
 have:=(CP_.eq0 x y).2 e;simp[eqA,this]at h
theorem eqA_eq {x y:Arc} (h:eqA x y=true):x=y:=(CP_.eq0 x y).1 (by simpa[eqA]using h)
theorem arc_ne {x y:Arc} (h:¬x=y):(x.fr==y.fr&&(x.sy.label==y.sy.label&&(x.sy.n==y.sy.n&&x.to==y.to)))=false:=by
 cases hb:(x.fr==y.fr&&(x.sy.label==y.sy.label&&(x.sy.n==y.sy.n&&x.to==y.to)))with
 | false=>rfl
 | true =>
  exfalso
  apply h
  obtain⟨a,⟨b,c⟩,d⟩:=x;obtain⟨a',⟨b',c'⟩,d'⟩:=y;simp at hb;obtain⟨rfl,rfl,rfl,rfl⟩:=hb;rfl
def Ya_ : Ann:=⟨[],[]⟩
set_option maxHeartbeats 4000000 in
theorem PU_ (l:List Arc) :
  AM_ Tryz.prog (.func 111) [.osl 0 0] [⟨0,0,.row 97 4 32 (l.map dArc)⟩] (Cb_ (Bu_ eqA l)) []:=by
 refine Eq_ [0] [] Tryz.func111 rfl Tryz.call111 (by simp[Tryz.ntmps111]) (by simp) (by simp) ?_;intro hwf hwo B hnt;have hgAnn:=an_is Ya_ mxd (aj2 @Ya_.eq_1 Tryz.results111);simp only[argS]
 have hl:l.length≤9223372036854775807:=by
  simp only[YE_,maxLen,aJ0]at hwo;omega
 clear hwo
 by_cases hl2:l.length<2
 ·have hcl:Bu_ eqA l=l:=by
   match l,hl2 with
   | [],_=>rfl
   | [x],_=>rfl
  exact go0 aj0 aj0 (aj2 hl2 hcl)
 have hl2':¬(l.length:Int)<2:=by omega
 obtain⟨R0,hR0⟩:∃R0,R0=Bu_ eqA l:=⟨_,rfl⟩;rw[←hR0]
 (refine go1 aj0 aj0 (aj2 hl2 hl2') ?_;intros;refine mk_i ?_)
 refine Ae_ (X:={k:Nat//1≤k∧k≤l.length∧Bu_ eqA (l.take k)=l.take k}) (fun k=>⟨[(0,.osl 0 0),(3,.int .i64 k.1)],[⟨0,0,.row 97 4 32 (l.map dArc)⟩]⟩) (fun k=>l.length-k.1) ⟨1,by
  obtain⟨x,t,rfl⟩:∃x t,l=x::t:=by
   cases l with
   | nil=>simp at hl2
   | cons x t=>exact⟨x,t,rfl⟩
  simp[Bu_,BN_]⟩ (Sub.lit (by simp)) ?_
 rintro⟨k,hk1,hk,hck⟩
 by_cases hlt:k<l.length
 ·obtain⟨q,hq,hq',hqm⟩:=Ak_ hlt;obtain⟨p,hp,hp',hpm⟩:=Ak_ (show k-1<l.length by omega);have hwr:IntKind.i64.wrap ((k:Int)-1)=(k:Int)-1:=wq;have hk0:((k:Int)-1).toNat=k-1:=by omega
  have hs:=GQ_ (e:=eqA) (by omega) hp hq;have hb1:(0:Int)≤(k:Int)-1:=by omega
  have hb2:(k:Int)-1<l.length:=by omega
  cases hepq:eqA q p
  ·rw[hepq]at hs;simp only[aL0,if_false]at hs;have he2:(q.fr==p.fr&&(q.sy.label==p.sy.label&&(q.sy.n==p.sy.n&&q.to==p.to)))=false:=arc_ne (eqA_ne hepq)
   (refine go1 aj0 aj0 (aj11 @dArc.eq_1 hlt hq' hp' hp hq hk0 hwr hb1 hb2 he2) ?_;intros;refine mk_i ?_)
   refine Aj_.mk ⟨k+1,by omega,by omega,by rw[hs,hck,bF0,hq];rfl⟩ (Sub.lit (by simp)) (by simp;omega)
   skip
  ·rw[hepq]at hs;simp only[if_true,bM0]at hs;have he2:(q.fr==p.fr&&(q.sy.label==p.sy.label&&(q.sy.n==p.sy.n&&q.to==p.to)))=true:=by rw[eqA_eq hepq];simp
   (refine go1 aj0 aj0 (aj11 @dArc.eq_1 hlt hq' hp' hp hq hk0 hwr hb1 hb2 he2) ?_;intros;refine mk_i ?_)
   clear hwr hk0 hb1 hb2
   refine Ae_ (X:={x:Nat×Nat×List Arc//1≤x.1∧k+x.1≤l.length∧x.2.1<k+x.1∧k≤x.2.1∧x.2.2.length=l.length∧x.2.2.take x.2.1=Bu_ eqA (l.take (k+x.1))∧∀j,k+x.1≤j+1→x.2.2[j]? =l[j]?}) (fun x=>⟨[(0,.osl 0 0),(3,.int .i64 x.1.2.1),(4,.vw 0 0 4 32 k (l.length-k)),(5,.int .i64 x.1.1)],[⟨0,0,.row 97 4 32 (x.1.2.2.map dArc)⟩]⟩) (fun x=>l.length-x.1.1)
    ⟨(1,k,l),show 1≤1∧k+1≤l.length∧k<k+1∧k≤k∧l.length=l.length∧l.take k=Bu_ eqA (l.take (k+1))∧(∀j,k+1≤j+1→l[j]? =l[j]?) from ⟨by omega,by omega,by omega,by omega,rfl,by rw[hs,hck],fun _ _=>rfl⟩⟩ (Sub.lit (by simp)) ?_
   rintro⟨⟨m,kk,R⟩,x1,x2,x3,x4,x5,x6,x7⟩;simp only at x1 x2 x3 x4 x5 x6 x7 ⊢;have hv:k+(l.length-k)≤l.length:=by omega
   by_cases hm:m<l.length-k
   ·obtain⟨y,hy,hy',hym⟩:=Ak_ (show k+m<l.length by omega);obtain⟨z,hz,hz',hzm⟩:=Ak_ (show k+m-1<l.length by omega);obtain⟨c0,hc0,_,_⟩:=Ak_ (show kk<R.length by omega);have hRy:R[k+m]? =some y:=by rw[x7 _ (by omega)];exact hy
    have hRz:R[k+(m-1)]? =some z:=by rw[x7 _ (by omega),show k+(m-1)=k+m-1 by omega];exact hz
    have hRy':R[k+m]'(by omega)=y:=(aB0.1 hRy).2;have hRz':R[k+(m-1)]'(by omega)=z:=(aB0.1 hRz).2;have hwr:IntKind.i64.wrap ((m:Int)-1)=(m:Int)-1:=wq;have hk0:((m:Int)-1).toNat=m-1:=by omega
    have hb1:(0:Int)≤(m:Int)-1:=by omega
    have hb2:(m:Int)-1<((l.length-k:Nat):Int):=by omega
    have hs2:=GQ_ (e:=eqA) (by omega) hz hy;rw[←x6]at hs2;have hkk:kk<l.length:=by omega
    cases heyz:eqA y z
    ·rw[heyz]at hs2;simp only[aL0,if_false]at hs2;have he3:(y.fr==z.fr&&(y.sy.label==z.sy.label&&(y.sy.n==z.sy.n&&y.to==z.to)))=false:=arc_ne (eqA_ne heyz)
     (refine go1 aj0 aj0 (aj15 @dArc.eq_1 hm hRy hRz hRy' hRz' hk0 hwr hb1 hb2 x5 hv hc0 hkk he3) ?_;intros;refine mk_i ?_)
     refine Aj_.mk ⟨(m+1,kk+1,R.set kk y),show 1≤m+1∧k+(m+1)≤l.length∧kk+1<k+(m+1)∧k≤kk+1∧(R.set kk y).length=l.length∧(R.set kk y).take (kk+1)=Bu_ eqA (l.take (k+(m+1)))∧(∀j,k+(m+1)≤j+1→(R.set kk y)[j]? =l[j]?) from ⟨by omega,by omega,by omega,by omega,by simp[x5],?_,fun j hj=> ?_⟩⟩ (Sub.lit ?_) (by simp;omega)
     ·rw[show k+(m+1)=k+m+1 by omega,hs2,bF0,fH0 (by omega),List.take_set_of_le (by omega)];rfl
     ·rw[List.getElem?_set_ne (by omega)];exact x7 j (by omega)
     ·have hm0:mxR ((R.map dArc).set kk [.int .i64 y.fr,.bool y.sy.label,.int .i64 y.sy.n,.int .i64 y.to])=0:=by
       rw[show (R.map dArc).set kk [.int .i64 y.fr,.bool y.sy.label,.int .i64 y.sy.n,.int .i64 y.to]=(R.set kk y).map dArc by simp[eI0,dArc]];exact mx_dArcs _
      simp[eI0,dArc,hm0]
     skip
    ·rw[heyz]at hs2;simp only[if_true,bM0]at hs2;have he3:(y.fr==z.fr&&(y.sy.label==z.sy.label&&(y.sy.n==z.sy.n&&y.to==z.to)))=true:=by rw[eqA_eq heyz];simp
     (refine go1 aj0 aj0 (aj15 @dArc.eq_1 hm hRy hRz hRy' hRz' hk0 hwr hb1 hb2 x5 hv hc0 hkk he3) ?_;intros;refine mk_i ?_)
     refine Aj_.mk ⟨(m+1,kk,R),show 1≤m+1∧k+(m+1)≤l.length∧kk<k+(m+1)∧k≤kk∧R.length=l.length∧R.take kk=Bu_ eqA (l.take (k+(m+1)))∧(∀j,k+(m+1)≤j+1→R[j]? =l[j]?) from ⟨by omega,by omega,by omega,by omega,x5,by rw[show k+(m+1)=k+m+1 by omega,hs2],fun j hj=>x7 j (by omega)⟩⟩ (Sub.lit (by simp)) (by simp;omega)
     skip
   ·have hkm:k+m=l.length:=by omega
    have hcl1:(CM_ (R.map dArc) kk (l.length-kk) [.int .i64 0,.bool false,.int .i64 0,.int .i64 0]).length=l.length:=by simp[CM_];omega
    have hcl2:(CM_ (R.map dArc) kk (l.length-kk) [.int .i64 0,.bool false,.int .i64 0,.int .i64 0]).take kk=R0.map dArc:=by
     have e1:l.take (k+m)=l:=by rw[hkm,aQ0]
     rw[e1]at x6;rw[hR0,←x6];simp only[CM_];rw[aU0,eQ0 (by simp;omega),List.take_take,Nat.min_self,eR0]
    have hkl:kk≤l.length:=by omega
    exact go0 aj0 aj0 (aj6 hm x5 hv hcl1 hcl2 hkl)
 ·have hkk:k=l.length:=by omega
  subst hkk;rw[aQ0]at hck;rw[hck]at hR0;exact go0 aj0 aj0 (aj1 hR0)
theorem Tm_ (l:List Arc):AM_ Tryz.prog (.func 108) [.osl 0 0,.fn (.func 109) [] []] [⟨0,0,.row 97 4 32 (l.map dArc)⟩] (.tup []) [⟨0,0,.row 97 4 32 ((ER_ arcC l).map dArc)⟩]:=by
 obtain⟨un,hun⟩:∃un:List DVal→Arc,∀e,un (dArc e)=e:=⟨fun d=>match d with | [.int _ a,.bool b,.int _ c,.int _ e]=>⟨a,⟨b,c⟩,e⟩ | _=>⟨0,⟨false,0⟩,0⟩,fun e=>rfl⟩
 have hmem:∀x∈l.map dArc,∃p∈l,x=dArc p:=fun x hx=>by
  obtain⟨p,hp,rfl⟩:=aV0.1 hx;exact⟨p,hp,rfl⟩
 refine QU_ (cf:=fun x y=>arcC (un x) (un y)) Tryz.sortFArc (by rfl) Tryz.call108 (by kernel_rfl) (by kernel_rfl) (by decide) rfl ?_ Tryz.call109 ?_ ?_ ?_ ?_ ?_
 ·intro x hx;obtain⟨p,_,rfl⟩:=hmem x hx;simp
 ·intro x hx y hy;obtain⟨p,_,rfl⟩:=hmem x hx;obtain⟨q,_,rfl⟩:=hmem y hy;simp only[hun];exact @Rm_ Ik_ p q
 ·intro x _;rw[CP_.refl];omega
 ·intro x _ y _ z _;exact CP_.trans _ _ _
 ·intro x _ y _ z _;exact CP_.ntrans _ _ _
 ·intro L hp hs;exact QC_ CP_ hun hp hs
end Go.Proofs.YtchgnpnbcjflcaaGreat
end
section
namespace Go.Proofs.YtchgnpnbcjflcaaGreat
open Go Go.Dm
variable [DMode]
inductive Rch (E:List (Nat×Nat)):Nat→Nat→Prop where
 | refl (p:Nat):Rch E p p
 | step {p q r:Nat}:(p,q)∈E→Rch E q r→Rch E p r
theorem Rch.one {E:List (Nat×Nat)} {p q:Nat} (h:(p,q)∈E):Rch E p q:= .step h (.refl q)
theorem Rch.trans {E:List (Nat×Nat)} {p q r:Nat} (h:Rch E p q) (h':Rch E q r):Rch E p r:=by
 induction h with
 | refl _=>exact h'
 | step a _ ih=>exact .step a (ih h')
theorem Rch.mono {E E':List (Nat×Nat)} (h:∀x∈E,x∈E') {p q:Nat} (hr:Rch E p q):Rch E' p q:=by
 induction hr with
 | refl _=>exact .refl _
 | step a _ ih=>exact .step (h _ a) ih
theorem Rch.map {E E':List (Nat×Nat)} (f:Nat→Nat) (h:∀x∈E,(f x.1,f x.2)∈E') {p q:Nat} (hr:Rch E p q):Rch E' (f p) (f q):=by
 induction hr with
 | refl _=>exact .refl _
 | step a _ ih=>exact .step (h _ a) ih
theorem RF_ {x:Nd} {ks:List RT} (h:okT (.mk x ks)=true) (h5:x.k=5):ks≠[]:=by
 obtain⟨h1,h2,_⟩:=Bx_ h;rintro rfl;unfold mayN at h1;simp[h5,h2]at h1
mutual
theorem fiT_none : ∀(t:RT) (a:Nat),okT t=true→fiT t a=[]→empT t=true
 | .mk x ks,a,hok,h=>by
  rw[JX_]at h;rw[Mo_]
  split at h
  ·simp at h
  ·rename_i h23;rw[if_neg h23];have hall:=PP_ x.k ks (a+1) (Bx_ hok).2.2 h
   split
   ·rename_i h5;have:=RF_ hok h5
    cases ks with
    | nil=>exact absurd rfl this
    | cons u us =>
     rw[Du_,aN0]at hall;rw[anyE,hall.1];rfl
   ·split
    ·exact hall
    ·rfl
theorem PP_ (k:Int):∀(us:List RT) (a:Nat),okL us=true→fiL k us a=[]→allE us=true
 | [],a,_,_=>DK_
 | u::us,a,hok,h=>by
  obtain⟨o1,o2⟩:=AZ_ hok;rw[Cn_]at h;obtain⟨h1,h2⟩:=List.append_eq_nil_iff.1 h;have e1:=fiT_none u a o1 h1;rw[if_neg (by rw[e1];simp)]at h2;rw[Du_,e1,PP_ k us _ o2 h2];rfl
end
mutual
theorem Pn_ : ∀(t:RT) (a:Nat),okT t=true→laT t a=[]→empT t=true
 | .mk x ks,a,hok,h=>by
  rw[IK_]at h;rw[Mo_]
  split at h
  ·simp at h
  ·rename_i h23;rw[if_neg h23];have hall:=Pq_ x.k ks (a+1) (Bx_ hok).2.2 h
   split
   ·rename_i h5;have:=RF_ hok h5
    cases ks with
    | nil=>exact absurd rfl this
    | cons u us =>
     rw[Du_,aN0]at hall;rw[anyE,hall.1];rfl
   ·split
    ·exact hall
    ·rfl
theorem Pq_ (k:Int):∀(us:List RT) (a:Nat),okL us=true→laL k us a=[]→allE us=true
 | [],a,_,_=>DK_
 | u::us,a,hok,h=>by
  obtain⟨o1,o2⟩:=AZ_ hok;rw[BU_]at h
  split at h
  ·obtain⟨h1,h2⟩:=List.append_eq_nil_iff.1 h;have e2:=Pq_ k us _ o2 h1;rw[if_pos e2]at h2;rw[Du_,Pn_ u a o1 h2,e2];rfl
  ·obtain⟨h1,h2⟩:=List.append_eq_nil_iff.1 h;rw[Du_,Pn_ u a o1 h1,Pq_ k us _ o2 h2];rfl
end
def LfT (l:List Nd) (a q:Nat):Prop:=a≤q∧∃x,l[q-a]? =some x∧(x.k=2∨x.k=3)
theorem YB_ {u:RT} {us:List RT} {a q:Nat} (h:LfT (Am_ (u::us)) a q):LfT (flat u) a q∨LfT (Am_ us) (a+(flat u).length) q:=by
 obtain⟨h1,x,hx,hk⟩:=h;rw[An_]at hx
 by_cases hq:q-a<(flat u).length
 ·rw[bB0 hq]at hx;exact .inl ⟨h1,x,hx,hk⟩
 ·rw[bC0 (by omega)]at hx;exact .inr ⟨by omega,x,by rw[←fA0];exact hx,hk⟩
theorem laT_Lf {t:RT} {a q:Nat} (h:q∈laT t a):LfT (flat t) a q:=⟨(Gf_ t a q h).1,KG_ t a q h⟩
theorem fiL_Lf {k:Int} {us:List RT} {a q:Nat} (h:q∈fiL k us a):LfT (Am_ us) a q:=⟨(JZ_ k us a q h).1,IR_ k us a q h⟩
theorem acc_fi : ∀(us:List RT) (a:Nat) (acc:List Nat),∀l∈acc,∀f∈fiL 4 us a,(l,f)∈arL 4 us a acc
 | [],a,acc,l,hl,f,hf=>by rw[HU_]at hf;simp at hf
 | u::us,a,acc,l,hl,f,hf=>by
  rw[Cn_,aI0]at hf;rw[Cq_,if_pos rfl,if_pos rfl,aI0,aI0]
  rcases hf with hf | hf
  ·exact .inr (.inl (DX_.2 ⟨hl,hf⟩))
  ·split at hf
   ·simp at hf
   ·rename_i he;have he:empT u=true:=by cases h:empT u with | true=>rfl | false=>exact absurd ⟨rfl,h⟩ he
    exact .inr (.inr (acc_fi us _ _ l (by rw[if_pos he];exact aP0 _ hl) f hf))
theorem arL_sub (k:Int) (u:RT) (us:List RT) (a:Nat) (acc:List Nat):(∀x∈arT u a,x∈arL k (u::us) a acc)∧(∀x∈arL k us (a+(flat u).length) (if k=4 then laT u a++(if empT u=true then acc else [])else []),x∈arL k (u::us) a acc):=by
 rw[Cq_];exact⟨fun x h=>aM0 _ h,fun x h=>aP0 _ (aP0 _ h)⟩
mutual
theorem ahead_T : ∀(t:RT) (a q:Nat),okT t=true→LfT (flat t) a q→∃f∈fiT t a,Rch (arT t a) f q
 | .mk x ks,a,q,hok,h=>by
  rw[JX_,Jd_];obtain⟨h1,y,hy,hk⟩:=h;rw[AB_]at hy
  split
  ·rename_i h23;have hks:=Fl_ hok h23;rw[hks,Bg_]at hy
   have hq:q=a:=by
    have:=(aB0.1 hy).1;simp at this;omega
   subst hq;exact⟨q,by simp,.refl q⟩
  ·rename_i h23
   have hq:a+1≤q:=by
    rcases Nat.lt_or_ge a q with h | h
    ·exact h
    ·exfalso;rw[show q-a=0 by omega]at hy;simp at hy;rw[hy]at h23;exact h23 hk
   have hl:LfT (Am_ ks) (a+1) q:=⟨hq,y,by rw[show q-a=q-(a+1)+1 by omega,bJ0]at hy;exact hy,hk⟩;obtain⟨f,hf,hr⟩:=ahead_L x.k ks (a+1) [] q (Bx_ hok).2.2 hl;exact⟨f,hf,hr.mono fun _ h=>aM0 _ h⟩
theorem ahead_L (k:Int):∀(us:List RT) (a:Nat) (acc:List Nat) (q:Nat),okL us=true→LfT (Am_ us) a q→∃f∈fiL k us a,Rch (arL k us a acc) f q
 | [],a,acc,q,_,h=>by
  obtain⟨_,y,hy,_⟩:=h;rw[Bg_]at hy;simp at hy
 | u::us,a,acc,q,hok,h=>by
  obtain⟨o1,o2⟩:=AZ_ hok;obtain⟨s1,s2⟩:=arL_sub k u us a acc
  rcases YB_ h with h | h
  ·obtain⟨f,hf,hr⟩:=ahead_T u a q o1 h;exact⟨f,by rw[Cn_];exact aM0 _ hf,hr.mono s1⟩
  ·obtain⟨f,hf,hr⟩:=ahead_L k us (a+(flat u).length) (if k=4 then laT u a++(if empT u=true then acc else [])else []) q o2 h
   by_cases hc:k=4∧empT u=false
   ·obtain⟨h4,he⟩:=hc;subst h4;rw[if_pos rfl]at s2 hr;have hla:laT u a≠[]:=fun h=>by rw[Pn_ u a o1 h]at he;simp at he
    obtain⟨l,hl⟩:=List.exists_mem_of_ne_nil _ hla;obtain⟨f0,hf0,hr0⟩:=ahead_T u a l o1 (laT_Lf hl);have hj:=acc_fi us (a+(flat u).length) _ l (aM0 (if empT u=true then acc else []) hl) f hf;exact⟨f0,by rw[Cn_];exact aM0 _ hf0,(hr0.mono s1).trans ((Rch.one (s2 _ hj)).trans (hr.mono s2))⟩
   ·exact⟨f,by rw[Cn_,if_neg hc];exact aP0 _ hf,hr.mono s2⟩
end
mutual
theorem behind_T : ∀(t:RT) (a q:Nat),okT t=true→LfT (flat t) a q→∃l∈laT t a,Rch (arT t a) q l
 | .mk x ks,a,q,hok,h=>by
  rw[IK_,Jd_];obtain⟨h1,y,hy,hk⟩:=h;rw[AB_]at hy
  split
  ·rename_i h23;have hks:=Fl_ hok h23;rw[hks,Bg_]at hy
   have hq:q=a:=by
    have:=(aB0.1 hy).1;simp at this;omega
   subst hq;exact⟨q,by simp,.refl q⟩
  ·rename_i h23
   have hq:a+1≤q:=by
    rcases Nat.lt_or_ge a q with h | h
    ·exact h
    ·exfalso;rw[show q-a=0 by omega]at hy;simp at hy;rw[hy]at h23;exact h23 hk
   have hl:LfT (Am_ ks) (a+1) q:=⟨hq,y,by rw[show q-a=q-(a+1)+1 by omega,bJ0]at hy;exact hy,hk⟩;obtain⟨f,hf,hr⟩:=Qf_ x.k ks (a+1) [] q (Bx_ hok).2.2 hl;exact⟨f,hf,hr.mono fun _ h=>aM0 _ h⟩
theorem Qf_ (k:Int):∀(us:List RT) (a:Nat) (acc:List Nat) (q:Nat),okL us=true→LfT (Am_ us) a q→∃l∈laL k us a,Rch (arL k us a acc) q l
 | [],a,acc,q,_,h=>by
  obtain⟨_,y,hy,_⟩:=h;rw[Bg_]at hy;simp at hy
 | u::us,a,acc,q,hok,h=>by
  obtain⟨o1,o2⟩:=AZ_ hok;obtain⟨s1,s2⟩:=arL_sub k u us a acc
  rcases YB_ h with h | h
  ·obtain⟨l,hl,hr⟩:=behind_T u a q o1 h
   by_cases h4:k=4
   ·subst h4;rw[if_pos rfl]at s2
    by_cases he:allE us=true
    ·exact⟨l,by rw[BU_,if_pos rfl,if_pos he];exact aP0 _ hl,hr.mono s1⟩
    ·have hfi:fiL 4 us (a+(flat u).length)≠[]:=fun h=>he (PP_ 4 us _ o2 h)
     obtain⟨f,hf⟩:=List.exists_mem_of_ne_nil _ hfi;have hj:=acc_fi us (a+(flat u).length) _ l (aM0 (if empT u=true then acc else []) hl) f hf;obtain⟨l2,hl2,hr2⟩:=Qf_ 4 us (a+(flat u).length) (laT u a++(if empT u=true then acc else [])) f o2 (fiL_Lf hf);exact⟨l2,by rw[BU_,if_pos rfl];exact aM0 _ hl2,(hr.mono s1).trans ((Rch.one (s2 _ hj)).trans (hr2.mono s2))⟩
   ·exact⟨l,by rw[BU_,if_neg h4];exact aM0 _ hl,hr.mono s1⟩
  ·obtain⟨l,hl,hr⟩:=Qf_ k us (a+(flat u).length) _ q o2 h;refine⟨l,?_,hr.mono s2⟩;rw[BU_]
   split
   ·exact aM0 _ hl
   ·exact aP0 _ hl
end
theorem EL_ (l:List Nd):∃c:Int,Ac_ Tryz.prog 101 [dNds l] (.int .i64 c)∧Ac_ Tryz.prog 207 [dNds l] (.int .i64 c)∧(c=0→l.length≤2048∧∃t,okT t=true∧l=flat t)∧(l.length≤2048→CO_ l=true→∃t,okT t=true∧l=flat t∧c=CR_ t):=by
 by_cases h:2048<l.length
 ·exact⟨3,Kc_ l h,MY_ l h,by omega,fun hh=>by omega⟩
 ·cases hw:CO_ l with
  | false=>exact⟨170,Un_ l (by omega) hw,OM_ l (by omega) hw,by omega,fun _ hh=>by simp at hh⟩
  | true =>
   obtain⟨t,ht,rfl⟩:=Jj_ hw;exact⟨CR_ t,Kb_ t ht (by omega),MX_ t ht (by omega),fun _=>⟨by omega,t,ht,rfl⟩,fun _ _=>⟨t,ht,rfl,rfl⟩⟩
noncomputable def Ko_ (l:List Nd):Int:=Classical.choose (EL_ l)
theorem bodyC_p (l:List Nd):Ac_ Tryz.prog 101 [dNds l] (.int .i64 (Ko_ l)):=(Classical.choose_spec (EL_ l)).1
theorem bodyC_r (l:List Nd):Ac_ Tryz.prog 207 [dNds l] (.int .i64 (Ko_ l)):=(Classical.choose_spec (EL_ l)).2.1
theorem bodyC_0 {l:List Nd} (h:Ko_ l=0):l.length≤2048∧∃t,okT t=true∧l=flat t:=(Classical.choose_spec (EL_ l)).2.2.1 h
theorem bodyC_t {l:List Nd} (h:l.length≤2048) (hw:CO_ l=true):∃t,okT t=true∧l=flat t∧Ko_ l=CR_ t:=(Classical.choose_spec (EL_ l)).2.2.2 h hw
noncomputable def errF : List (List Nd)→Int
 | []=>0
 | l::ls=>if Ko_ l=0 then errF ls else Ko_ l
theorem GO_ : ∀{ls:List (List Nd)},errF ls=0→∃ts:List RT,ls=ts.map flat∧∀t∈ts,okT t=true∧(flat t).length≤2048
 | [],_=>⟨[],rfl,by simp⟩
 | l::ls,h=>by
  unfold errF at h
  split at h
  ·rename_i h1;obtain⟨h2,t,h3,h4⟩:=bodyC_0 h1;obtain⟨ts,h5,h6⟩:=GO_ h;refine⟨t::ts,by rw[h5,h4];rfl,fun u hu=> ?_⟩
   rcases aK0.1 hu with rfl | hu
   ·exact⟨h3,by rw[←h4];exact h2⟩
   ·exact h6 u hu
  ·rename_i h1;exact absurd h h1
def bad4 (H L:List ByteArray) (l:List Nd):Bool:=l.any fun x=>decide (symE H L x=4)
def rowB (l:List Nd):List DVal:=[dNds l]
@[simp] theorem mx_rowB (l:List Nd):mxL (rowB l)=0:=by simp[rowB,mxL,mx]
@[simp] theorem mx_rowBs (l:List (List Nd)):mxR (l.map rowB)=0:=mxR0 _ mx_rowB l
def occS (ls:List (List Nd)):Nat:=(ls.map occN).sum
theorem Rv_ (ls:List (List Nd)) (l:List Nd):occS (ls++[l])=occS ls+occN l:=by simp[occS]
theorem Vo_ : occS []=0:=rfl
theorem EF_ : ∀ts:List RT,occS (ts.map flat)=(lvL ts).length
 | []=>by simp[occS,lvL]
 | t::ts=>by
  have ih:=EF_ ts;have h1:lvL (t::ts)=lvs (flat t)++lvL ts:=by simp[lvL]
  have h2:occS (List.map flat (t::ts))=occN (flat t)+occS (ts.map flat):=by simp[occS]
  rw[h2,h1,aC0,ih,Kz_]
theorem TC_ : ∀(ts:List RT),(∀t∈ts,(flat t).length≤2048)→occS (ts.map flat)≤2048*ts.length
 | [],_=>by simp[occS]
 | t::ts,h=>by
  have ih:=TC_ ts fun u hu=>h u (aD0 _ hu)
  have h1:=h t aF0;have h2:occS (List.map flat (t::ts))=occN (flat t)+occS (ts.map flat):=by simp[occS]
  have h3:occN (flat t)≤(flat t).length:=by rw[Kz_];exact cI0 _ _
  rw[h2,List.length_cons];omega
theorem Ru_ {ls:List (List Nd)} {k:Nat}:occS (ls.take k)≤occS ls:=by
 have h1:occS ls=occS (ls.take k)+occS (ls.drop k):=by
  unfold occS;rw[←List.sum_append_nat,←aX0,List.take_append_drop]
 omega
theorem arT_few (t:RT) (h:(flat t).length≤2048) (h64:(lvs (flat t)).length≤64):(arT t 0).length≤16777216*(lvs (flat t)).length:=by
 by_cases h0:(lvs (flat t)).length=0
 ·have:arT t 0=[]:=by
   cases ha:arT t 0 with
   | nil=>rfl
   | cons p r =>
    exfalso;obtain⟨⟨x,hx,hk⟩,_⟩:=KN_ t 0 p.1 p.2 (by rw[ha];exact aF0)
    have h1:x∈lvs (flat t):=by
     unfold lvs;rw[cN0];exact⟨bL0 hx,Bf_.2 hk⟩
    have:=List.length_pos_of_mem h1;omega
  rw[this];simp
 ·have:=Uu_ t 0 h64;omega
theorem Ty_ : ∀(ts:List RT) (ah:Nat),(∀t∈ts,(flat t).length≤2048)→(lvL ts).length≤64→(prL ah ts).length≤16777216*(lvL ts).length
 | [],ah,_,_=>by simp[prL]
 | t::ts,ah,h,h64=>by
  have h1:lvL (t::ts)=lvs (flat t)++lvL ts:=by simp[lvL]
  rw[h1,aC0]at h64 ⊢;have ih:=Ty_ ts (ah+(lvs (flat t)).length) (fun u hu=>h u (aD0 _ hu)) (by omega);have h2:=arT_few t (h t aF0) (by omega);rw[prL,aC0,aJ0];omega
theorem Uc_ : ∀(ts:List RT) (ah:Nat),(fiN ah ts).length≤(lvL ts).length
 | [],ah=>by simp[fiN]
 | t::ts,ah=>by
  have h1:lvL (t::ts)=lvs (flat t)++lvL ts:=by simp[lvL]
  have ih:=Uc_ ts (ah+(lvs (flat t)).length);have h2:=PN_ t 0;rw[fiN,h1,aC0,aC0,aJ0];omega
theorem laN_len : ∀(ts:List RT) (ah:Nat),(laN ah ts).length≤(lvL ts).length
 | [],ah=>by simp[laN]
 | t::ts,ah=>by
  have h1:lvL (t::ts)=lvs (flat t)++lvL ts:=by simp[lvL]
  have ih:=laN_len ts (ah+(lvs (flat t)).length);have h2:=Po_ t 0;rw[laN,h1,aC0,aC0,aJ0];omega
theorem Ub_ : ∀(ts:List RT) (ah:Nat),∀q∈fiN ah ts,1≤q∧q≤ah+(lvL ts).length
 | [],ah,q,h=>by simp[fiN]at h
 | t::ts,ah,q,h=>by
  have h1:lvL (t::ts)=lvs (flat t)++lvL ts:=by simp[lvL]
  rw[h1,aC0];rw[fiN,aI0]at h
  rcases h with h | h
  ·have h2:(flat t).drop 0=flat t++[]:=by simp
   have h3:=fi_num (ah:=ah) h2 q h;rw[EV_ h2,OE_]at h3;omega
  ·have:=Ub_ ts _ q h;omega
def firN (us:List RT):List Nat:=fiN 0 us
def lasN (us:List RT):List Nat:=laN 0 us
def MG_ (SF:List Sym) (us:List RT):List Arc:=DA_ SF (prL 0 us)
theorem syL_snoc (sy:Nd→Sym) (us:List RT) (t:RT):syL sy (us++[t])=syL sy us++(lvs (flat t)).map sy:=by unfold syL;rw[Pk_,aX0]
theorem Ot_ (sy:Nd→Sym) (us:List RT):(syL sy us).length=(lvL us).length:=by simp[syL]
theorem syN_step (H L:List ByteArray) (us:List RT) (t:RT):Jm_ H L (syL (symS H L) us) t=syL (symS H L) (us++[t]):=by unfold Jm_;rw[syL_snoc]
theorem firN_step (us:List RT) (t:RT):firN us++firT (flat t) (lvL us).length t 0=firN (us++[t]):=by unfold firN firT;rw[We_,bT0]
theorem lasN_step (us:List RT) (t:RT):lasN us++lasT (flat t) (lvL us).length t 0=lasN (us++[t]):=by unfold lasN lasT;rw[VK_,bT0]
theorem ZT_ (SF:List Sym) (us:List RT) (t:RT):Gv_ SF (flat t) (lvL us).length (MG_ SF us) t 0=MG_ SF (us++[t]):=by unfold MG_ Gv_;rw[Vh_,EN_,bT0]
theorem arcsN_all (sy:Nd→Sym) (ts:List RT):MG_ (syL sy ts) ts++DA_ (syL sy ts) (CB_ [0] (firN ts))=Ho_ sy ts:=by
 unfold MG_ Ho_ firN DA_ CB_;rw[aX0];simp
theorem lvL_pre {us vs:List RT}:(lvL us).length≤(lvL (us++vs)).length:=by
 have:lvL (us++vs)=lvL us++lvL vs:=by simp[lvL]
 rw[this,aC0];omega
theorem syL_pre (sy:Nd→Sym) (us vs:List RT):syL sy us <+: syL sy (us++vs):=by
 unfold syL;have:lvL (us++vs)=lvL us++lvL vs:=by simp[lvL]
 rw[this,aX0];exact List.prefix_append _ _
theorem Og_ (us:List RT) (t:RT):(anyE us||empT t)=anyE (us++[t]):=(SL_ us t).symm
def ZR_ (n:Int) (fs:List Int) (zs:List Arc):DVal:= .agg [.int .i64 n,Bn_ fs,Cb_ zs]
def boxF (H L:List ByteArray) (ts:List RT):DVal:=ZR_ ((lvL ts).length+1) (IP_ ts) (Bu_ (fun x y=>arcC x y==0) (ER_ arcC (Ho_ (symS H L) ts)))
def Qh_ (sy:Nd→Sym) (ts:List RT):List Arc:=Bu_ (fun x y=>arcC x y==0) (ER_ arcC (Ho_ sy ts))
theorem mem_arcsB {sy:Nd→Sym} {ts:List RT} {x:Arc}:x∈Qh_ sy ts↔x∈Ho_ sy ts:=by
 unfold Qh_;rw[(BF_ CP_ (Bv_ CP_ (Ho_ sy ts))).2,(Cd_ _ _).mem_iff]
theorem SI_ (sy:Nd→Sym) (ts:List RT):Dw_ arcC (Qh_ sy ts):=(BF_ CP_ (Bv_ CP_ (Ho_ sy ts))).1
theorem arc_pair {sy:Nd→Sym} {ts:List RT} {x:Arc}:x∈Qh_ sy ts↔∃p q,((p,q)∈prL 0 ts∨(p=0∧q∈fiN 0 ts))∧x=arcJ (syL sy ts) (p,q):=by
 rw[mem_arcsB];unfold Ho_;rw[aV0]
 constructor
 ·rintro⟨⟨p,q⟩,h,rfl⟩;refine⟨p,q,?_,rfl⟩
  rcases aI0.1 h with h | h
  ·exact .inl h
  ·obtain⟨q',hq,he⟩:=aV0.1 h;simp only[_root_.Prod.mk.injEq]at he;obtain⟨rfl,rfl⟩:=he;exact .inr ⟨rfl,hq⟩
 ·rintro⟨p,q,h,rfl⟩;refine⟨(p,q),?_,rfl⟩
  rcases h with h | ⟨rfl,h⟩
  ·exact aM0 _ h
  ·exact aP0 _ (aV0.2 ⟨q,h,rfl⟩)
theorem prL_num : ∀(ts:List RT) (ah:Nat) (p q:Nat),(p,q)∈prL ah ts→(ah<p∧p≤ah+(lvL ts).length)∧ah<q∧q≤ah+(lvL ts).length
 | [],ah,p,q,h=>by simp[prL]at h
 | t::ts,ah,p,q,h=>by
  have hl:(lvL (t::ts)).length=(lvs (flat t)).length+(lvL ts).length:=by simp[lvL]
  rw[prL,aI0]at h
  rcases h with h | h
  ·obtain⟨⟨a,b⟩,hab,he⟩:=aV0.1 h;simp only[num2,_root_.Prod.mk.injEq]at he;obtain⟨rfl,rfl⟩:=he;obtain⟨⟨x,hx,hkx⟩,⟨y,hy,hky⟩⟩:=KN_ t 0 a b hab;have hd:(flat t).drop 0=flat t++[]:=by simp
   have h1:=Vp_ (ah:=ah) hd (cL0 a) ⟨x,hx,hkx⟩;have h2:=Vp_ (ah:=ah) hd (cL0 b) ⟨y,hy,hky⟩;rw[EV_ hd,OE_]at h1 h2;unfold num at h1 h2 ⊢;omega
  ·have:=prL_num ts _ p q h;omega
theorem fiN_num2 (ts:List RT):∀q∈fiN 0 ts,1≤q∧q≤(lvL ts).length:=fun q h=>by have:=Ub_ ts 0 q h;omega
theorem arc_num {sy:Nd→Sym} {ts:List RT} {x:Arc} (h:x∈Qh_ sy ts):∃p q:Nat,p≤(lvL ts).length∧1≤q∧q≤(lvL ts).length∧x=⟨(p:Int),(syL sy ts).getD (q-1) ⟨false,0⟩,(q:Int)⟩:=by
 obtain⟨p,q,hpq,rfl⟩:=arc_pair.1 h;clear h
 rcases hpq with h | ⟨rfl,h⟩
 ·have:=prL_num ts 0 p q h;exact⟨p,q,by omega,by omega,by omega,rfl⟩
 ·have:=fiN_num2 ts q h;exact⟨0,q,by omega,by omega,by omega,rfl⟩
def boxA (sy:Nd→Sym) (ts:List RT):Auto:=⟨(lvL ts).length+1,IP_ ts,Qh_ sy ts⟩
theorem pw_ok {l:List Int} {s:Int} (hp:l.Pairwise (· < ·)) (h:∀q∈l,0≤q∧q<s):(List.range l.length).all (okF s l)=true:=by
 rw[bA0];intro k hk;have hk:=dP0.1 hk
 have hs:stB s l[k]=true:=by
  have:=h _ (cY0 hk);unfold stB;simp[this]
 rcases eV0 k with rfl | h0
 ·rw[okF_zero (aH0 hk)];exact hs
 ·rw[okF_pos h0 (aH0 hk) (aH0 (show k-1<l.length by omega)),hs];have:=List.pairwise_iff_getElem.1 hp (k-1) k (by omega) hk (by omega);simpa using this
theorem pw_okA {l:List Arc} {s:Int} (hp:l.Pairwise (fun x y=>arcC x y<0)) (h:∀x∈l,ZY_ s x=true):(List.range l.length).all (okA s l)=true:=by
 rw[bA0];intro k hk;have hk:=dP0.1 hk;have hs:=h _ (cY0 hk)
 rcases eV0 k with rfl | h0
 ·rw[okA_zero (aH0 hk)];exact hs
 ·rw[okA_pos h0 (aH0 hk) (aH0 (show k-1<l.length by omega)),hs,Of_];have:=List.pairwise_iff_getElem.1 hp (k-1) k (by omega) hk (by omega);simpa using this
theorem symS_nn (H L:List ByteArray) (x:Nd):0≤(symS H L x).n:=by
 unfold symS ixS
 repeat' split
 all_goals simp
theorem boxA_ok (H L:List ByteArray) (ts:List RT) (h64:(lvL ts).length≤64):Gu_ (boxA (symS H L) ts)=true:=by
 unfold Gu_ boxA;simp only[aN0,decide_eq_true_eq];refine⟨⟨by omega,by omega⟩,?_,?_⟩
 ·obtain⟨h1,h2⟩:=TZ_ ts 0
  have hm:((finR 0 ts).map toI).Pairwise (· < ·):=by
   rw[dL0];exact h1.imp fun h=>by unfold toI;omega
  have hb:∀q∈(finR 0 ts).map toI,0<q∧q<((lvL ts).length:Int)+1:=by
   intro q hq;obtain⟨p,hp,rfl⟩:=aV0.1 hq;have:=h2 p hp;unfold toI;omega
  refine pw_ok ?_ ?_
  ·unfold IP_
   split
   ·exact cH0.2 ⟨fun q hq=>(hb q hq).1,hm⟩
   ·exact hm
  ·intro q hq;unfold IP_ at hq
   rcases aI0.1 hq with hq | hq
   ·split at hq
    ·simp at hq;subst hq;omega
    ·simp at hq
   ·have:=hb q hq;omega
 ·refine pw_okA (SI_ _ _) ?_;intro x hx;obtain⟨p,q,h1,h2,h3,rfl⟩:=arc_num hx
  have hn:0≤((syL (symS H L) ts).getD (q-1) ⟨false,0⟩).n:=by
   rw[bG0]
   cases h:(syL (symS H L) ts)[q-1]? with
   | none=>exact Int.le_refl 0
   | some s =>
    obtain⟨y,_,rfl⟩:=aV0.1 (bL0 h);exact symS_nn H L y
  unfold ZY_ stB;simp only[aN0,decide_eq_true_eq];exact⟨⟨by omega,by omega⟩,⟨by omega,by omega⟩,hn⟩
theorem boxA_eq (H L:List ByteArray) (ts:List RT):boxF H L ts= .agg (Gq_ (boxA (symS H L) ts)):=rfl
theorem compL_le {α:Type} (e:α→α→Bool) (l:List α):(Bu_ e l).length≤l.length:=by
 cases l with
 | nil=>simp[Bu_]
 | cons p t =>
  have:=Fs_ e t p;simp only[Bu_,List.length_cons];omega
theorem arcsB_len (sy:Nd→Sym) (ts:List RT) (h:∀t∈ts,(flat t).length≤2048) (h64:(lvL ts).length≤64):(Qh_ sy ts).length≤1073741888:=by
 have h1:=compL_le (fun x y=>arcC x y==0) (ER_ arcC (Ho_ sy ts));rw[(Cd_ arcC (Ho_ sy ts)).length_eq]at h1;have h2:=Ty_ ts 0 h h64;have h3:=Uc_ ts 0;unfold Qh_;unfold Ho_ at h1 ⊢;rw[aJ0,aC0,aJ0]at h1;omega
end Go.Proofs.YtchgnpnbcjflcaaGreat
end
section
namespace Go.Proofs.YtchgnpnbcjflcaaGreat
open Go Go.Dm
variable [DMode]
attribute [local irreducible] DW Bj_ Bp_
set_option maxRecDepth 100000
theorem At.end {l:List Nd} {p:Nat} {t:RT} (h:At l p t):endI l p=(p:Int)+(flat t).length:=by
 obtain⟨hok,hle,r,hr⟩:=h;unfold endI;rw[hr,EJ_ _ _ 0 hok,BL_];have h2:=congrArg List.length hr;rw[bS0,aC0]at h2;simp only;omega
def XP_ : Ann:=⟨[],[]⟩
theorem BP_ (l:List Nd) (p q:Nat) (t:RT) (h:At l p t) (hs:l.length≤1572864):Ac_ Tryz.prog 212 [dNds l,.int .i64 p,.int .i64 q] (.bool (inB t p q)):=by
 refine Aa_ [] XP_ Tryz.func212 Tryz.call212 Tryz.ntmps212 mxd (aj2 @XP_.eq_1 Tryz.results212) rfl (by simp) (by simp[mx]) fun hwf B hnt hgAnn=> ?_
 clear hwf;simp only[argS];have e1:=HW_ l p hs h.le;rw[h.end]at e1;obtain⟨n,hn⟩:∃n,n=(flat t).length:=⟨_,rfl⟩;unfold inB;rw[←hn]at e1 ⊢;have hc:((p:Int)≤(q:Int))=(p≤q):=by simp
 have hd:((q:Int)<(p:Int)+(n:Int))=(q<p+n):=by apply propext;omega
 by_cases h1:p≤q
 ·exact go0 (aj1 e1) aj0 (aj3 hc hd h1)
 ·exact go0 (aj1 e1) aj0 (aj3 hc hd h1)
theorem Ek_ {p:Nat} {ks:List RT} {i:Nat} {u:RT} (h:ks[i]? =some u):kidP p ks (i+1)=kidP p ks i+(flat u).length:=by
 unfold kidP;rw[Jz_ (ks:=ks) h];omega
theorem El_ {ks:List RT} {i:Nat} {u:RT} (h:ks[i]? =some u):ks.drop i=u::ks.drop (i+1):=by
 obtain⟨hi,rfl⟩:=aB0.1 h;exact aR0 hi
theorem Ej_ (p:Nat) (ks:List RT):kidP p ks 0=p+1:=by unfold kidP;rw[List.take_zero,Bg_];rfl
def XQ_ : Ann:=⟨[],[]⟩
set_option maxHeartbeats 4000000 in
theorem Ey_ (q:Nat):∀(n:Nat) (t:RT) (l:List Nd) (p:Nat),(flat t).length=n→At l p t→l.length≤1572864→Ac_ Tryz.prog 209 [dNds l,.int .i64 p,.int .i64 q] (.bool (bgT t p q)):=by
 intro n
 induction n using Nat.strongRecOn with
 | ind n ih =>
 intro t l p hn ht hs;obtain⟨x,ks⟩:=t;have kk:=CW_ l p x ks ht hs;obtain⟨g0,gl,ge⟩:=ht.head;simp only[RT.x]at g0;have g0':l[p]'gl=x:=(aB0.1 g0).2;have hfl:(flat (.mk x ks)).length=(Am_ ks).length+1:=by rw[AB_,List.length_cons]
 have hkl:=BK_ ks;have hk9:ks.length≤1572864:=by omega
 have hch:∀i u,ks[i]? =some u→Ac_ Tryz.prog 209 [dNds l,.int .i64 (kidP p ks i),.int .i64 q] (.bool (bgT u (kidP p ks i) q)):=fun i u hu=>by
  have hm:=Dr_ (bL0 hu);exact ih (flat u).length (by omega) u l _ rfl (ht.kid hu).1 hs
 have hwi1:∀i u,ks[i]? =some u→_:=fun i u hu=>BP_ l (kidP p ks i) q u (ht.kid hu).1 hs
 have hem:∀i u,ks[i]? =some u→_:=fun i u hu=>Em_ _ u l (kidP p ks i) rfl (ht.kid hu).1 hs
 have hrow:∀i,i<ks.length→_:=fun i h=>Fm_ (p:=p) (ks:=ks) (i:=i) h
 rw[bgT_mk];unfold LV_ at kk;obtain⟨D,hD⟩:∃D,D=(List.range ks.length).map fun i=>kidD (kidP p ks i):=⟨_,rfl⟩
 have hDl:D.length=ks.length:=by rw[hD];simp
 have hDm:mxR D=0:=by rw[hD];exact FZ_ p ks _
 rw[←hD]at kk hrow;clear hD ih ht ge hn;obtain⟨R,hR⟩:∃R,R=bgL x.k ks (p+1) q:=⟨_,rfl⟩;rw[←hR];refine Aa_ [] XQ_ Tryz.func209 Tryz.call209 Tryz.ntmps209 mxd (aj2 @XQ_.eq_1 Tryz.results209) rfl (by simp) (by simp[mx]) fun hwf B hnt hgAnn=> ?_
 clear hwf;simp only[argS]
 by_cases hpq:p=q
 ·have hpq':(p:Int)=(q:Int):=by omega
  exact go0 (aj1 kk) aj0 (aj2 hpq hpq')
 have hpq':¬(p:Int)=(q:Int):=by omega
 have hpqb:((p:Int)==(q:Int))=false:=by simpa using hpq'
 (refine go1 (aj1 kk) aj0 (aj3 hpq hpq' hpqb) ?_;intros;refine mk_i ?_)
 rw[←Ej_ p ks,←eF0 (l:=ks)]at hR;refine Ae_ (X:={i:Nat//i≤ks.length∧R=bgL x.k (ks.drop i) (kidP p ks i) q}) (fun i=>⟨[(0,dNds l),(1,.int .i64 p),(2,.int .i64 q),(7,.sl 1 8 D),(8,.int .i64 i.1)],[]⟩) (fun i=>ks.length-i.1) ⟨0,by omega,by simpa using hR⟩ (Sub.lit (by simp[hDm])) ?_;clear hR;rintro⟨i,hi,hR⟩;simp only
 by_cases hlt:i<ks.length
 ·obtain⟨u,hu,hu',_⟩:=Ak_ hlt;have e1:=hch i u hu;have e2:=hwi1 i u hu;have e3:=hem i u hu;have hr:=hrow i hlt;have hltD:i<D.length:=by omega
  have hwi:IntKind.i64.wrap ((i:Int)+1)=(i:Int)+1:=wq;have hr':D[i]'hltD=[.int .i64 (kidP p ks i:Int)]:=(aB0.1 hr).2;rw[El_ hu,Qe_,←Ek_ hu]at hR;obtain⟨a,ha⟩:∃a,a=kidP p ks i:=⟨_,rfl⟩;rw[←ha]at e1 e2 e3 hr hr' hR;obtain⟨b1,hb1⟩:∃b1,b1=inB u a q:=⟨_,rfl⟩;obtain⟨b2,hb2⟩:∃b2,b2=bgT u a q:=⟨_,rfl⟩;obtain⟨b3,hb3⟩:∃b3,b3=empT u:=⟨_,rfl⟩;rw[←hb1]at e2 hR;rw[←hb2]at e1 hR;rw[←hb3]at e3 hR
  by_cases hb:(b1&&b2)=true
  ·rw[hb,Bool.true_or]at hR;simp only[aN0]at hb;rw[hb.1]at e2;rw[hb.2]at e1;exact go0 (aj3 e1 e2 e3) aj0 (aj6 hDl hltD hr hr' hlt hR)
  ·rw[dZ0]at hb;rw[hb,eM0]at hR
   by_cases k4:x.k=4
   ·cases b3
    ·rw[if_pos ⟨k4,rfl⟩]at hR;cases b1
     ·exact go0 (aj3 e1 e2 e3) aj0 (aj11 @dNd.eq_1 g0 g0' gl hDl hltD hr hr' hlt hR k4)
     ·simp only[cE0]at hb;rw[hb]at e1;exact go0 (aj3 e1 e2 e3) aj0 (aj11 @dNd.eq_1 g0 g0' gl hDl hltD hr hr' hlt hR k4)
    ·rw[if_neg (by simp)]at hR;cases b1
     ·(refine go1 (aj3 e1 e2 e3) aj0 (aj11 @dNd.eq_1 g0 g0' gl hDl hltD hwi hr hr' hlt k4) ?_;intros;refine mk_i ?_)
      refine Aj_.mk ⟨i+1,by omega,hR⟩ (Sub.lit (by simp[hDm])) (by simp;omega)
      skip
     ·simp only[cE0]at hb;rw[hb]at e1
      (refine go1 (aj3 e1 e2 e3) aj0 (aj11 @dNd.eq_1 g0 g0' gl hDl hltD hwi hr hr' hlt k4) ?_;intros;refine mk_i ?_)
      refine Aj_.mk ⟨i+1,by omega,hR⟩ (Sub.lit (by simp[hDm])) (by simp;omega)
      skip
   ·rw[if_neg (fun h=>k4 h.1)]at hR;have b4:(x.k==4)=false:=by simpa using k4
    cases b1
    ·(refine go1 (aj3 e1 e2 e3) aj0 (aj12 @dNd.eq_1 g0 g0' gl hDl hltD hwi hr hr' hlt k4 b4) ?_;intros;refine mk_i ?_)
     refine Aj_.mk ⟨i+1,by omega,hR⟩ (Sub.lit (by simp[hDm])) (by simp;omega)
     skip
    ·simp only[cE0]at hb;rw[hb]at e1
     (refine go1 (aj3 e1 e2 e3) aj0 (aj12 @dNd.eq_1 g0 g0' gl hDl hltD hwi hr hr' hlt k4 b4) ?_;intros;refine mk_i ?_)
     refine Aj_.mk ⟨i+1,by omega,hR⟩ (Sub.lit (by simp[hDm])) (by simp;omega)
     skip
 ·have hkk:i=ks.length:=by omega
  subst hkk;rw[bQ0,Qd_]at hR;exact go0 aj0 aj0 (aj2 hDl hR)
theorem YK_ {α:Type} {l:List α} {i:Nat} {x:α} (h:l[i]? =some x):l.take (i+1)=l.take i++[x]:=by rw[bF0,h];rfl
def XO_ : Ann:=⟨[],[]⟩
set_option maxHeartbeats 4000000 in
theorem HV_ (q:Nat):∀(n:Nat) (t:RT) (l:List Nd) (p:Nat),(flat t).length=n→At l p t→l.length≤1572864→Ac_ Tryz.prog 141 [dNds l,.int .i64 p,.int .i64 q] (.bool (enT t p q)):=by
 intro n
 induction n using Nat.strongRecOn with
 | ind n ih =>
 intro t l p hn ht hs;obtain⟨x,ks⟩:=t;have kk:=CW_ l p x ks ht hs;obtain⟨g0,gl,ge⟩:=ht.head;simp only[RT.x]at g0;have g0':l[p]'gl=x:=(aB0.1 g0).2;have hfl:(flat (.mk x ks)).length=(Am_ ks).length+1:=by rw[AB_,List.length_cons]
 have hkl:=BK_ ks;have hk9:ks.length≤1572864:=by omega
 have hch:∀i u,ks[i]? =some u→Ac_ Tryz.prog 141 [dNds l,.int .i64 (kidP p ks i),.int .i64 q] (.bool (enT u (kidP p ks i) q)):=fun i u hu=>by
  have hm:=Dr_ (bL0 hu);exact ih (flat u).length (by omega) u l _ rfl (ht.kid hu).1 hs
 have hwi1:∀i u,ks[i]? =some u→_:=fun i u hu=>BP_ l (kidP p ks i) q u (ht.kid hu).1 hs
 have hem:∀i u,ks[i]? =some u→_:=fun i u hu=>Em_ _ u l (kidP p ks i) rfl (ht.kid hu).1 hs
 have hrow:∀i,i<ks.length→_:=fun i h=>Fm_ (p:=p) (ks:=ks) (i:=i) h
 rw[enT_mk];unfold LV_ at kk;obtain⟨D,hD⟩:∃D,D=(List.range ks.length).map fun i=>kidD (kidP p ks i):=⟨_,rfl⟩
 have hDl:D.length=ks.length:=by rw[hD];simp
 have hDm:mxR D=0:=by rw[hD];exact FZ_ p ks _
 rw[←hD]at kk hrow;clear hD ih ht ge hn;obtain⟨R,hR⟩:∃R,R=enL x.k ks (p+1) q:=⟨_,rfl⟩;rw[←hR];refine Aa_ [] XO_ Tryz.func141 Tryz.call141 Tryz.ntmps141 mxd (aj2 @XO_.eq_1 Tryz.results141) rfl (by simp) (by simp[mx]) fun hwf B hnt hgAnn=> ?_
 clear hwf;simp only[argS]
 by_cases hpq:p=q
 ·have hpq':(p:Int)=(q:Int):=by omega
  exact go0 (aj1 kk) aj0 (aj2 hpq hpq')
 have hpq':¬(p:Int)=(q:Int):=by omega
 have hpqb:((p:Int)==(q:Int))=false:=by simpa using hpq'
 (refine go1 (aj1 kk) aj0 (aj3 hpq hpq' hpqb) ?_;intros;refine mk_i ?_)
 have hw0:IntKind.i64.wrap ((ks.length:Int)-1)=(ks.length:Int)-1:=wq;refine Ae_ (X:={m:Nat//m≤ks.length∧R=enL x.k (ks.take m) (p+1) q}) (fun m=>⟨[(0,dNds l),(1,.int .i64 p),(2,.int .i64 q),(7,.sl 1 8 D),(8,.int .i64 ((m.1:Int)-1))],[]⟩) (fun m=>m.1) ⟨ks.length,by omega,by rw[aQ0];exact hR⟩ (Sub.lit (by simp[hDm,hDl,hw0])) ?_;clear hR;rintro⟨m,hi,hR⟩;simp only
 cases m with
 | zero =>
  rw[List.take_zero,Mn_]at hR;exact go0 aj0 aj0 (aj1 hR)
 | succ i =>
  have hlt:i<ks.length:=by omega
  obtain⟨u,hu,hu',_⟩:=Ak_ hlt;have e1:=hch i u hu;have e2:=hwi1 i u hu;have e3:=hem i u hu;have hr:=hrow i hlt;have hltD:i<D.length:=by omega
  have hi1:(((i+1:Nat):Int)-1)=(i:Int):=by omega
  have hwi:IntKind.i64.wrap ((i:Int)-1)=(i:Int)-1:=wq;have hr':D[i]'hltD=[.int .i64 (kidP p ks i:Int)]:=(aB0.1 hr).2;rw[YK_ hu,Wf_]at hR;rw[show p+1+(Am_ (ks.take i)).length=kidP p ks i from rfl]at hR;obtain⟨a,ha⟩:∃a,a=kidP p ks i:=⟨_,rfl⟩;rw[←ha]at e1 e2 e3 hr hr' hR;obtain⟨b1,hb1⟩:∃b1,b1=inB u a q:=⟨_,rfl⟩;obtain⟨b2,hb2⟩:∃b2,b2=enT u a q:=⟨_,rfl⟩;obtain⟨b3,hb3⟩:∃b3,b3=empT u:=⟨_,rfl⟩;rw[←hb1]at e2 hR
  rw[←hb2]at e1 hR;rw[←hb3]at e3 hR;rw[hi1]
  by_cases hb:(b1&&b2)=true
  ·rw[hb,Bool.true_or]at hR;simp only[aN0]at hb;rw[hb.1]at e2;rw[hb.2]at e1;exact go0 (aj3 e1 e2 e3) aj0 (aj6 hDl hltD hr hr' hlt hR)
  ·rw[dZ0]at hb;rw[hb,eM0]at hR
   by_cases k4:x.k=4
   ·cases b3
    ·rw[if_pos ⟨k4,rfl⟩]at hR;cases b1
     ·exact go0 (aj3 e1 e2 e3) aj0 (aj11 @dNd.eq_1 g0 g0' gl hDl hltD hr hr' hlt hR k4)
     ·simp only[cE0]at hb;rw[hb]at e1;exact go0 (aj3 e1 e2 e3) aj0 (aj11 @dNd.eq_1 g0 g0' gl hDl hltD hr hr' hlt hR k4)
    ·rw[if_neg (by simp)]at hR;cases b1
     ·(refine go1 (aj3 e1 e2 e3) aj0 (aj11 @dNd.eq_1 g0 g0' gl hDl hltD hwi hr hr' hlt k4) ?_;intros;refine mk_i ?_)
      refine Aj_.mk ⟨i,by omega,hR⟩ (Sub.lit (by simp[hDm])) (by simp)
      skip
     ·simp only[cE0]at hb;rw[hb]at e1
      (refine go1 (aj3 e1 e2 e3) aj0 (aj11 @dNd.eq_1 g0 g0' gl hDl hltD hwi hr hr' hlt k4) ?_;intros;refine mk_i ?_)
      refine Aj_.mk ⟨i,by omega,hR⟩ (Sub.lit (by simp[hDm])) (by simp)
      skip
   ·rw[if_neg (fun h=>k4 h.1)]at hR;have b4:(x.k==4)=false:=by simpa using k4
    cases b1
    ·(refine go1 (aj3 e1 e2 e3) aj0 (aj12 @dNd.eq_1 g0 g0' gl hDl hltD hwi hr hr' hlt k4 b4) ?_;intros;refine mk_i ?_)
     refine Aj_.mk ⟨i,by omega,hR⟩ (Sub.lit (by simp[hDm])) (by simp)
     skip
    ·simp only[cE0]at hb;rw[hb]at e1
     (refine go1 (aj3 e1 e2 e3) aj0 (aj12 @dNd.eq_1 g0 g0' gl hDl hltD hwi hr hr' hlt k4 b4) ?_;intros;refine mk_i ?_)
     refine Aj_.mk ⟨i,by omega,hR⟩ (Sub.lit (by simp[hDm])) (by simp)
     skip
def XN_ : Ann:=⟨[],[]⟩
set_option maxHeartbeats 4000000 in
theorem PA_ (l:List Nd) (P p q:Nat) (x:Nd) (ks:List RT) (ht:At l P (.mk x ks)) (hs:l.length≤1572864):Ac_ Tryz.prog 298 [dNds l,LV_ P ks,.int .i64 p,.int .i64 q] (.bool (irL ks (P+1) p q)):=by
 obtain⟨g0,gl,ge⟩:=ht.head;have hfl:(flat (.mk x ks)).length=(Am_ ks).length+1:=by rw[AB_,List.length_cons]
 have hkl:=BK_ ks;have hk9:ks.length≤1572864:=by omega
 have hwp:∀i u,ks[i]? =some u→_:=fun i u hu=>BP_ l (kidP P ks i) p u (ht.kid hu).1 hs
 have hwq:∀i u,ks[i]? =some u→_:=fun i u hu=>BP_ l (kidP P ks i) q u (ht.kid hu).1 hs
 have hen:∀i u,ks[i]? =some u→_:=fun i u hu=>HV_ p _ u l (kidP P ks i) rfl (ht.kid hu).1 hs
 have hbe:∀i u,ks[i]? =some u→_:=fun i u hu=>Ey_ q _ u l (kidP P ks i) rfl (ht.kid hu).1 hs
 have hem:∀i u,ks[i]? =some u→_:=fun i u hu=>Em_ _ u l (kidP P ks i) rfl (ht.kid hu).1 hs
 have hrow:∀i,i<ks.length→_:=fun i h=>Fm_ (p:=P) (ks:=ks) (i:=i) h
 unfold LV_;obtain⟨D,hD⟩:∃D,D=(List.range ks.length).map fun i=>kidD (kidP P ks i):=⟨_,rfl⟩
 have hDl:D.length=ks.length:=by rw[hD];simp
 have hDm:mxR D=0:=by rw[hD];exact FZ_ P ks _
 rw[←hD]at hrow ⊢;clear hD ht ge;obtain⟨R,hR⟩:∃R,R=irL ks (P+1) p q:=⟨_,rfl⟩;rw[←hR];rw[←Ej_ P ks,←eF0 (l:=ks)]at hR;refine Aa_ [] XN_ Tryz.func298 Tryz.call298 Tryz.ntmps298 mxd (aj2 @XN_.eq_1 Tryz.results298) rfl (by simp) (by simp[mx]) fun hwf B hnt hgAnn=> ?_
 clear hwf;simp only[argS]
 (refine go1 aj0 aj0 aj0 ?_;intros;refine mk_i ?_)
 refine Ae_ (X:={i:Nat//i≤ks.length∧R=irL (ks.drop i) (kidP P ks i) p q}) (fun i=>⟨[(0,dNds l),(1,.sl 1 8 D),(2,.int .i64 p),(3,.int .i64 q),(9,.int .i64 i.1)],[]⟩) (fun i=>ks.length-i.1) ⟨0,by omega,by simpa using hR⟩ (Sub.lit (by simp[hDm])) ?_;clear hR;rintro⟨i,hi,hR⟩;simp only
 by_cases hlt:i<ks.length
 ·obtain⟨u,hu,hu',_⟩:=Ak_ hlt;have e1:=hwp i u hu;have e2:=hen i u hu;have hr:=hrow i hlt;have hltD:i<D.length:=by omega
  have hwi:IntKind.i64.wrap ((i:Int)+1)=(i:Int)+1:=wq;have hr':D[i]'hltD=[.int .i64 (kidP P ks i:Int)]:=(aB0.1 hr).2;have hge:¬(ks.length:Int)≤(i:Int):=by omega
  rw[El_ hu,irL,←Ek_ hu]at hR;obtain⟨a,ha⟩:∃a,a=kidP P ks i:=⟨_,rfl⟩;rw[←ha]at e1 e2 hr hr' hR;obtain⟨b1,hb1⟩:∃b1,b1=inB u a p:=⟨_,rfl⟩;obtain⟨b2,hb2⟩:∃b2,b2=enT u a p:=⟨_,rfl⟩;rw[←hb1]at e1 hR;rw[←hb2]at e2 hR;clear hb1 hb2;cases b1
  ·simp only[aL0,if_false]at hR
   (refine go1 (aj2 e1 e2) aj0 (aj6 hDl hltD hwi hr hr' hlt) ?_;intros;refine mk_i ?_)
   refine Aj_.mk ⟨i+1,by omega,hR⟩ (Sub.lit (by simp[hDm])) (by simp;omega)
   skip
  ·simp only[if_true]at hR;cases b2
   ·simp only[cK0]at hR;exact go0 (aj2 e1 e2) aj0 (aj8 hDl hltD hwi hr hr' hlt hge hR)
   ·simp only[cE0]at hR
    (refine go1 (aj2 e1 e2) aj0 (aj7 hDl hltD hwi hr hr' hlt hge) ?_;intros;refine mk_i ?_)
    refine Ae_ (X:={j:Nat//j≤ks.length∧R=afL (ks.drop j) (kidP P ks j) q}) (fun j=>⟨[(0,dNds l),(1,.sl 1 8 D),(2,.int .i64 p),(3,.int .i64 q),(9,.int .i64 j.1)],[]⟩) (fun j=>ks.length-j.1) ⟨i+1,by omega,hR⟩ (Sub.lit (by simp[hDm])) ?_;clear hR hr hr' hwi hltD;rintro⟨j,hj,hR⟩;simp only
    by_cases hlt2:j<ks.length
    ·obtain⟨v,hv,hv',_⟩:=Ak_ hlt2;have e3:=hwq j v hv;have e4:=hbe j v hv;have e5:=hem j v hv;have hr:=hrow j hlt2;have hltD:j<D.length:=by omega
     have hwi:IntKind.i64.wrap ((j:Int)+1)=(j:Int)+1:=wq;have hr':D[j]'hltD=[.int .i64 (kidP P ks j:Int)]:=(aB0.1 hr).2;rw[El_ hv,afL,←Ek_ hv]at hR;obtain⟨c,hcc⟩:∃c,c=kidP P ks j:=⟨_,rfl⟩;rw[←hcc]at e3 e4 e5 hr hr' hR;obtain⟨b3,hb3⟩:∃b3,b3=inB v c q:=⟨_,rfl⟩;obtain⟨b4,hb4⟩:∃b4,b4=bgT v c q:=⟨_,rfl⟩;obtain⟨b5,hb5⟩:∃b5,b5=empT v:=⟨_,rfl⟩;rw[←hb3]at e3 hR;rw[←hb4]at e4 hR;rw[←hb5]at e5 hR;clear hb3 hb4 hb5
     cases b3
     ·simp only[aL0,if_false]at hR;cases b5
      ·simp only[aL0,if_false]at hR;exact go0 (aj3 e3 e4 e5) aj0 (aj7 hDl hltD hwi hr hr' hlt2 hR)
      ·simp only[if_true]at hR
       (refine go1 (aj3 e3 e4 e5) aj0 (aj6 hDl hltD hwi hr hr' hlt2) ?_;intros;refine mk_i ?_)
       refine Aj_.mk ⟨j+1,by omega,hR⟩ (Sub.lit (by simp[hDm])) (by simp;omega)
       skip
     ·simp only[if_true]at hR;exact go0 (aj3 e3 e4 e5) aj0 (aj7 hDl hltD hwi hr hr' hlt2 hR)
    ·have hkk:j=ks.length:=by omega
     subst hkk;rw[bQ0]at hR;have hR2:R=false:=hR;exact go0 aj0 aj0 (aj2 hDl hR2)
 ·have hkk:i=ks.length:=by omega
  subst hkk;rw[bQ0]at hR;have hR2:R=false:=hR;exact go0 aj0 aj0 (aj2 hDl hR2)
def foG (x:Nd) (ks:List RT) (P p q:Nat) (G:Option Bool):Bool:=match G with
 | some b=>b
 | none=>decide (x.k=4)&&irL ks (P+1) p q
theorem foT_go (x:Nd) (ks:List RT) (P p q:Nat) (h:((decide (x.k=6)||decide (x.k=7))&&hdL ks (P+1) p q)=false):foT (.mk x ks) P p q=foG x ks P p q (foL ks (P+1) p q):=by
 rw[foT_mk,h];rfl
def XM_ : Ann:=⟨[],[]⟩
set_option maxHeartbeats 8000000 in
theorem Mg_ (p q:Nat):∀(n:Nat) (t:RT) (l:List Nd) (P:Nat),(flat t).length=n→At l P t→l.length≤1572864→Ac_ Tryz.prog 211 [dNds l,.int .i64 P,.int .i64 p,.int .i64 q] (.bool (foT t P p q)):=by
 intro n
 induction n using Nat.strongRecOn with
 | ind n ih =>
 intro t l P hn ht hs;obtain⟨x,ks⟩:=t;have kk:=CW_ l P x ks ht hs;have hIR:=PA_ l P p q x ks ht hs;obtain⟨g0,gl,ge⟩:=ht.head;simp only[RT.x]at g0;have g0':l[P]'gl=x:=(aB0.1 g0).2;have hok:=ht.ok;have hfl:(flat (.mk x ks)).length=(Am_ ks).length+1:=by rw[AB_,List.length_cons]
 have hkl:=BK_ ks;have hk9:ks.length≤1572864:=by omega
 have hch:∀i u,ks[i]? =some u→Ac_ Tryz.prog 211 [dNds l,.int .i64 (kidP P ks i),.int .i64 p,.int .i64 q] (.bool (foT u (kidP P ks i) p q)):=fun i u hu=>by
  have hm:=Dr_ (bL0 hu);exact ih (flat u).length (by omega) u l _ rfl (ht.kid hu).1 hs
 have hwp:∀i u,ks[i]? =some u→_:=fun i u hu=>BP_ l (kidP P ks i) p u (ht.kid hu).1 hs
 have hwq:∀i u,ks[i]? =some u→_:=fun i u hu=>BP_ l (kidP P ks i) q u (ht.kid hu).1 hs
 have hen:∀i u,ks[i]? =some u→_:=fun i u hu=>HV_ p _ u l (kidP P ks i) rfl (ht.kid hu).1 hs
 have hbe:∀i u,ks[i]? =some u→_:=fun i u hu=>Ey_ q _ u l (kidP P ks i) rfl (ht.kid hu).1 hs
 have hrow:∀i,i<ks.length→_:=fun i h=>Fm_ (p:=P) (ks:=ks) (i:=i) h
 unfold LV_ at kk hIR;obtain⟨D,hD⟩:∃D,D=(List.range ks.length).map fun i=>kidD (kidP P ks i):=⟨_,rfl⟩
 have hDl:D.length=ks.length:=by rw[hD];simp
 have hDm:mxR D=0:=by rw[hD];exact FZ_ P ks _
 rw[←hD]at kk hrow hIR;clear hD ih ht ge hn;have hgo:=foT_go x ks P p q;have htr:=foT_mk x ks P p q;obtain⟨R,hR⟩:∃R,R=foT (.mk x ks) P p q:=⟨_,rfl⟩;rw[←hR]at hgo htr ⊢;clear hR;refine Aa_ [] XM_ Tryz.func211 Tryz.call211 Tryz.ntmps211 mxd (aj2 @XM_.eq_1 Tryz.results211) rfl (by simp) (by simp[mx]) fun hwf B hnt hgAnn=> ?_
 clear hwf;simp only[argS]
 by_cases k67:x.k=6∨x.k=7
 ·obtain⟨u0,hu0⟩:=OT_ hok (by omega);have hu1:ks[0]? =some u0:=by rw[hu0];rfl
  have hlt0:0<ks.length:=by rw[hu0];simp
  have hltD0:0<D.length:=by omega
  have hr0:=hrow 0 hlt0;have hr0':D[0]'hltD0=[.int .i64 (kidP P ks 0:Int)]:=(aB0.1 hr0).2;have e4:=hen 0 u0 hu1;have e5:=hbe 0 u0 hu1;have hhd:hdL ks (P+1) p q=(enT u0 (kidP P ks 0) p&&bgT u0 (kidP P ks 0) q):=by rw[Ej_,hu0];rfl
  rw[hhd]at hgo htr;clear hu0 hhd;obtain⟨a0,ha0⟩:∃a0,a0=kidP P ks 0:=⟨_,rfl⟩;rw[←ha0]at hr0 hr0' e4 e5 hgo htr;obtain⟨c1,hc1⟩:∃c1,c1=enT u0 a0 p:=⟨_,rfl⟩;obtain⟨c2,hc2⟩:∃c2,c2=bgT u0 a0 q:=⟨_,rfl⟩;rw[←hc1]at e4 hgo htr;rw[←hc2]at e5 hgo htr;have hkb:(decide (x.k=6)||decide (x.k=7))=true:=by simpa using k67
  have hkb2:(x.k==6||x.k==7)=true:=by simpa using k67
  have hk2:(x.k==7)=(decide (x.k=7)):=rfl;have hk3:(x.k==6)=(decide (x.k=6)):=rfl;rw[hkb]at hgo htr;simp only[cE0]at hgo htr
  by_cases hcc:(c1&&c2)=true
  ·rw[hcc]at htr;simp only[if_true]at htr;simp only[aN0]at hcc;rw[hcc.1]at e4;rw[hcc.2]at e5
   rcases k67 with k6 | k7
   ·exact go0 (aj3 kk e4 e5) aj0 (aj10 @dNd.eq_1 g0 g0' gl hDl hltD0 hr0 hr0' k6 htr)
   ·exact go0 (aj3 kk e4 e5) aj0 (aj10 @dNd.eq_1 g0 g0' gl hDl hltD0 hr0 hr0' k7 htr)
  ·rw[dZ0]at hcc
   replace hgo:=hgo hcc
   cases c1
   ·rcases k67 with k6 | k7
    ·(refine go1 (aj3 kk e4 e5) aj0 (aj9 @dNd.eq_1 g0 g0' gl hDl hltD0 hr0 hr0' k6) ?_;intros;refine mk_i ?_)
     refine Ae_ (X:={i:Nat//i≤ks.length∧R=foG x ks P p q (foL (ks.drop i) (kidP P ks i) p q)}) (fun i=>⟨[(0,dNds l),(2,.int .i64 p),(3,.int .i64 q),(9,.sl 1 8 D),(10,.int .i64 x.k),(11,.int .i64 i.1)],[]⟩) (fun i=>ks.length-i.1) ⟨0,by omega,by rw[eF0,Ej_];exact hgo⟩ (Sub.lit (by simp[hDm,k6])) ?_;clear hgo htr;rintro⟨i,hi,hR⟩;simp only
     by_cases hlt:i<ks.length
     ·obtain⟨u,hu,hu',_⟩:=Ak_ hlt;have e1:=hwp i u hu;have e2:=hwq i u hu;have e3:=hch i u hu;have hr:=hrow i hlt;have hltD:i<D.length:=by omega
      have hwi:IntKind.i64.wrap ((i:Int)+1)=(i:Int)+1:=wq;have hr':D[i]'hltD=[.int .i64 (kidP P ks i:Int)]:=(aB0.1 hr).2;rw[El_ hu,Fq_,←Ek_ hu]at hR;obtain⟨a,ha⟩:∃a,a=kidP P ks i:=⟨_,rfl⟩;rw[←ha]at e1 e2 e3 hr hr' hR;obtain⟨b1,hb1⟩:∃b1,b1=inB u a p:=⟨_,rfl⟩;obtain⟨b2,hb2⟩:∃b2,b2=inB u a q:=⟨_,rfl⟩;rw[←hb1]at e1 hR;rw[←hb2]at e2 hR;clear hb1 hb2;cases b1
      ·simp only[cK0,aL0,if_false]at hR
       (refine go1 (aj3 e1 e2 e3) aj0 (aj6 hDl hltD hwi hr hr' hlt) ?_;intros;refine mk_i ?_)
       refine Aj_.mk ⟨i+1,by omega,hR⟩ (Sub.lit (by simp[hDm])) (by simp;omega)
       skip
      ·cases b2
       ·simp only[dQ0,aL0,if_false]at hR
        (refine go1 (aj3 e1 e2 e3) aj0 (aj6 hDl hltD hwi hr hr' hlt) ?_;intros;refine mk_i ?_)
        refine Aj_.mk ⟨i+1,by omega,hR⟩ (Sub.lit (by simp[hDm])) (by simp;omega)
        skip
       ·simp only[Bool.and_self,if_true]at hR;have hR2:R=foT u a p q:=hR;exact go0 (aj3 e1 e2 e3) aj0 (aj7 hDl hltD hwi hr hr' hlt hR2)
     ·have hkk:i=ks.length:=by omega
      subst hkk;rw[bQ0,Gn_]at hR;have hR2:R=(decide (x.k=4)&&irL ks (P+1) p q):=hR
      by_cases k4:x.k=4
      ·rw[decide_eq_true k4,cE0]at hR2;rw[←hR2]at hIR;exact go0 (aj1 hIR) aj0 (aj2 hDl k4)
      ·rw[decide_eq_false k4,cK0]at hR2;have b4:(x.k==4)=false:=by simpa using k4
       exact go0 aj0 aj0 (aj4 hDl k4 b4 hR2)
    ·skip
     (refine go1 (aj3 kk e4 e5) aj0 (aj9 @dNd.eq_1 g0 g0' gl hDl hltD0 hr0 hr0' k7) ?_;intros;refine mk_i ?_)
     refine Ae_ (X:={i:Nat//i≤ks.length∧R=foG x ks P p q (foL (ks.drop i) (kidP P ks i) p q)}) (fun i=>⟨[(0,dNds l),(2,.int .i64 p),(3,.int .i64 q),(9,.sl 1 8 D),(10,.int .i64 x.k),(11,.int .i64 i.1)],[]⟩) (fun i=>ks.length-i.1) ⟨0,by omega,by rw[eF0,Ej_];exact hgo⟩ (Sub.lit (by simp[hDm,k7])) ?_;clear hgo htr;rintro⟨i,hi,hR⟩;simp only
     by_cases hlt:i<ks.length
     ·obtain⟨u,hu,hu',_⟩:=Ak_ hlt;have e1:=hwp i u hu;have e2:=hwq i u hu;have e3:=hch i u hu;have hr:=hrow i hlt;have hltD:i<D.length:=by omega
      have hwi:IntKind.i64.wrap ((i:Int)+1)=(i:Int)+1:=wq;have hr':D[i]'hltD=[.int .i64 (kidP P ks i:Int)]:=(aB0.1 hr).2;rw[El_ hu,Fq_,←Ek_ hu]at hR;obtain⟨a,ha⟩:∃a,a=kidP P ks i:=⟨_,rfl⟩;rw[←ha]at e1 e2 e3 hr hr' hR;obtain⟨b1,hb1⟩:∃b1,b1=inB u a p:=⟨_,rfl⟩;obtain⟨b2,hb2⟩:∃b2,b2=inB u a q:=⟨_,rfl⟩;rw[←hb1]at e1 hR;rw[←hb2]at e2 hR;clear hb1 hb2;cases b1
      ·simp only[cK0,aL0,if_false]at hR
       (refine go1 (aj3 e1 e2 e3) aj0 (aj6 hDl hltD hwi hr hr' hlt) ?_;intros;refine mk_i ?_)
       refine Aj_.mk ⟨i+1,by omega,hR⟩ (Sub.lit (by simp[hDm])) (by simp;omega)
       skip
      ·cases b2
       ·simp only[dQ0,aL0,if_false]at hR
        (refine go1 (aj3 e1 e2 e3) aj0 (aj6 hDl hltD hwi hr hr' hlt) ?_;intros;refine mk_i ?_)
        refine Aj_.mk ⟨i+1,by omega,hR⟩ (Sub.lit (by simp[hDm])) (by simp;omega)
        skip
       ·simp only[Bool.and_self,if_true]at hR;have hR2:R=foT u a p q:=hR;exact go0 (aj3 e1 e2 e3) aj0 (aj7 hDl hltD hwi hr hr' hlt hR2)
     ·have hkk:i=ks.length:=by omega
      subst hkk;rw[bQ0,Gn_]at hR;have hR2:R=(decide (x.k=4)&&irL ks (P+1) p q):=hR
      by_cases k4:x.k=4
      ·rw[decide_eq_true k4,cE0]at hR2;rw[←hR2]at hIR;exact go0 (aj1 hIR) aj0 (aj2 hDl k4)
      ·rw[decide_eq_false k4,cK0]at hR2;have b4:(x.k==4)=false:=by simpa using k4
       exact go0 aj0 aj0 (aj4 hDl k4 b4 hR2)
   ·simp only[cE0]at hcc;rw[hcc]at e5
    rcases k67 with k6 | k7
    ·skip
     (refine go1 (aj3 kk e4 e5) aj0 (aj9 @dNd.eq_1 g0 g0' gl hDl hltD0 hr0 hr0' k6) ?_;intros;refine mk_i ?_)
     refine Ae_ (X:={i:Nat//i≤ks.length∧R=foG x ks P p q (foL (ks.drop i) (kidP P ks i) p q)}) (fun i=>⟨[(0,dNds l),(2,.int .i64 p),(3,.int .i64 q),(9,.sl 1 8 D),(10,.int .i64 x.k),(11,.int .i64 i.1)],[]⟩) (fun i=>ks.length-i.1) ⟨0,by omega,by rw[eF0,Ej_];exact hgo⟩ (Sub.lit (by simp[hDm,k6])) ?_;clear hgo htr;rintro⟨i,hi,hR⟩;simp only
     by_cases hlt:i<ks.length
     ·obtain⟨u,hu,hu',_⟩:=Ak_ hlt;have e1:=hwp i u hu;have e2:=hwq i u hu;have e3:=hch i u hu;have hr:=hrow i hlt;have hltD:i<D.length:=by omega
      have hwi:IntKind.i64.wrap ((i:Int)+1)=(i:Int)+1:=wq;have hr':D[i]'hltD=[.int .i64 (kidP P ks i:Int)]:=(aB0.1 hr).2;rw[El_ hu,Fq_,←Ek_ hu]at hR;obtain⟨a,ha⟩:∃a,a=kidP P ks i:=⟨_,rfl⟩;rw[←ha]at e1 e2 e3 hr hr' hR;obtain⟨b1,hb1⟩:∃b1,b1=inB u a p:=⟨_,rfl⟩;obtain⟨b2,hb2⟩:∃b2,b2=inB u a q:=⟨_,rfl⟩;rw[←hb1]at e1 hR;rw[←hb2]at e2 hR;clear hb1 hb2;cases b1
      ·simp only[cK0,aL0,if_false]at hR
       (refine go1 (aj3 e1 e2 e3) aj0 (aj6 hDl hltD hwi hr hr' hlt) ?_;intros;refine mk_i ?_)
       refine Aj_.mk ⟨i+1,by omega,hR⟩ (Sub.lit (by simp[hDm])) (by simp;omega)
       skip
      ·cases b2
       ·simp only[dQ0,aL0,if_false]at hR
        (refine go1 (aj3 e1 e2 e3) aj0 (aj6 hDl hltD hwi hr hr' hlt) ?_;intros;refine mk_i ?_)
        refine Aj_.mk ⟨i+1,by omega,hR⟩ (Sub.lit (by simp[hDm])) (by simp;omega)
        skip
       ·simp only[Bool.and_self,if_true]at hR;have hR2:R=foT u a p q:=hR;exact go0 (aj3 e1 e2 e3) aj0 (aj7 hDl hltD hwi hr hr' hlt hR2)
     ·have hkk:i=ks.length:=by omega
      subst hkk;rw[bQ0,Gn_]at hR;have hR2:R=(decide (x.k=4)&&irL ks (P+1) p q):=hR
      by_cases k4:x.k=4
      ·rw[decide_eq_true k4,cE0]at hR2;rw[←hR2]at hIR;exact go0 (aj1 hIR) aj0 (aj2 hDl k4)
      ·rw[decide_eq_false k4,cK0]at hR2;have b4:(x.k==4)=false:=by simpa using k4
       exact go0 aj0 aj0 (aj4 hDl k4 b4 hR2)
    ·skip
     (refine go1 (aj3 kk e4 e5) aj0 (aj9 @dNd.eq_1 g0 g0' gl hDl hltD0 hr0 hr0' k7) ?_;intros;refine mk_i ?_)
     refine Ae_ (X:={i:Nat//i≤ks.length∧R=foG x ks P p q (foL (ks.drop i) (kidP P ks i) p q)}) (fun i=>⟨[(0,dNds l),(2,.int .i64 p),(3,.int .i64 q),(9,.sl 1 8 D),(10,.int .i64 x.k),(11,.int .i64 i.1)],[]⟩) (fun i=>ks.length-i.1) ⟨0,by omega,by rw[eF0,Ej_];exact hgo⟩ (Sub.lit (by simp[hDm,k7])) ?_;clear hgo htr;rintro⟨i,hi,hR⟩;simp only
     by_cases hlt:i<ks.length
     ·obtain⟨u,hu,hu',_⟩:=Ak_ hlt;have e1:=hwp i u hu;have e2:=hwq i u hu;have e3:=hch i u hu;have hr:=hrow i hlt;have hltD:i<D.length:=by omega
      have hwi:IntKind.i64.wrap ((i:Int)+1)=(i:Int)+1:=wq;have hr':D[i]'hltD=[.int .i64 (kidP P ks i:Int)]:=(aB0.1 hr).2;rw[El_ hu,Fq_,←Ek_ hu]at hR;obtain⟨a,ha⟩:∃a,a=kidP P ks i:=⟨_,rfl⟩;rw[←ha]at e1 e2 e3 hr hr' hR;obtain⟨b1,hb1⟩:∃b1,b1=inB u a p:=⟨_,rfl⟩;obtain⟨b2,hb2⟩:∃b2,b2=inB u a q:=⟨_,rfl⟩;rw[←hb1]at e1 hR;rw[←hb2]at e2 hR;clear hb1 hb2;cases b1
      ·simp only[cK0,aL0,if_false]at hR
       (refine go1 (aj3 e1 e2 e3) aj0 (aj6 hDl hltD hwi hr hr' hlt) ?_;intros;refine mk_i ?_)
       refine Aj_.mk ⟨i+1,by omega,hR⟩ (Sub.lit (by simp[hDm])) (by simp;omega)
       skip
      ·cases b2
       ·simp only[dQ0,aL0,if_false]at hR
        (refine go1 (aj3 e1 e2 e3) aj0 (aj6 hDl hltD hwi hr hr' hlt) ?_;intros;refine mk_i ?_)
        refine Aj_.mk ⟨i+1,by omega,hR⟩ (Sub.lit (by simp[hDm])) (by simp;omega)
        skip
       ·simp only[Bool.and_self,if_true]at hR;have hR2:R=foT u a p q:=hR;exact go0 (aj3 e1 e2 e3) aj0 (aj7 hDl hltD hwi hr hr' hlt hR2)
     ·have hkk:i=ks.length:=by omega
      subst hkk;rw[bQ0,Gn_]at hR;have hR2:R=(decide (x.k=4)&&irL ks (P+1) p q):=hR
      by_cases k4:x.k=4
      ·rw[decide_eq_true k4,cE0]at hR2;rw[←hR2]at hIR;exact go0 (aj1 hIR) aj0 (aj2 hDl k4)
      ·rw[decide_eq_false k4,cK0]at hR2;have b4:(x.k==4)=false:=by simpa using k4
       exact go0 aj0 aj0 (aj4 hDl k4 b4 hR2)
 ·have b6:(x.k==6)=false:=by simpa using fun h=>k67 (.inl h)
  have b7:(x.k==7)=false:=by simpa using fun h=>k67 (.inr h)
  have n6:¬x.k=6:=fun h=>k67 (.inl h)
  have n7:¬x.k=7:=fun h=>k67 (.inr h)
  replace hgo:=hgo (by simp[n6,n7])
  (refine go1 (aj1 kk) aj0 (aj8 @dNd.eq_1 g0 g0' gl n6 n7 b6 b7) ?_;intros;refine mk_i ?_)
  refine Ae_ (X:={i:Nat//i≤ks.length∧R=foG x ks P p q (foL (ks.drop i) (kidP P ks i) p q)}) (fun i=>⟨[(0,dNds l),(2,.int .i64 p),(3,.int .i64 q),(9,.sl 1 8 D),(10,.int .i64 x.k),(11,.int .i64 i.1)],[]⟩) (fun i=>ks.length-i.1) ⟨0,by omega,by rw[eF0,Ej_];exact hgo⟩ (Sub.lit (by simp[hDm])) ?_;clear hgo htr;rintro⟨i,hi,hR⟩;simp only
  by_cases hlt:i<ks.length
  ·obtain⟨u,hu,hu',_⟩:=Ak_ hlt;have e1:=hwp i u hu;have e2:=hwq i u hu;have e3:=hch i u hu;have hr:=hrow i hlt;have hltD:i<D.length:=by omega
   have hwi:IntKind.i64.wrap ((i:Int)+1)=(i:Int)+1:=wq;have hr':D[i]'hltD=[.int .i64 (kidP P ks i:Int)]:=(aB0.1 hr).2;rw[El_ hu,Fq_,←Ek_ hu]at hR;obtain⟨a,ha⟩:∃a,a=kidP P ks i:=⟨_,rfl⟩;rw[←ha]at e1 e2 e3 hr hr' hR;obtain⟨b1,hb1⟩:∃b1,b1=inB u a p:=⟨_,rfl⟩;obtain⟨b2,hb2⟩:∃b2,b2=inB u a q:=⟨_,rfl⟩;rw[←hb1]at e1 hR;rw[←hb2]at e2 hR;clear hb1 hb2;cases b1
   ·simp only[cK0,aL0,if_false]at hR
    (refine go1 (aj3 e1 e2 e3) aj0 (aj6 hDl hltD hwi hr hr' hlt) ?_;intros;refine mk_i ?_)
    refine Aj_.mk ⟨i+1,by omega,hR⟩ (Sub.lit (by simp[hDm])) (by simp;omega)
    skip
   ·cases b2
    ·simp only[dQ0,aL0,if_false]at hR
     (refine go1 (aj3 e1 e2 e3) aj0 (aj6 hDl hltD hwi hr hr' hlt) ?_;intros;refine mk_i ?_)
     refine Aj_.mk ⟨i+1,by omega,hR⟩ (Sub.lit (by simp[hDm])) (by simp;omega)
     skip
    ·simp only[Bool.and_self,if_true]at hR;have hR2:R=foT u a p q:=hR;exact go0 (aj3 e1 e2 e3) aj0 (aj7 hDl hltD hwi hr hr' hlt hR2)
  ·have hkk:i=ks.length:=by omega
   subst hkk;rw[bQ0,Gn_]at hR;have hR2:R=(decide (x.k=4)&&irL ks (P+1) p q):=hR
   by_cases k4:x.k=4
   ·rw[decide_eq_true k4,cE0]at hR2;rw[←hR2]at hIR;exact go0 (aj1 hIR) aj0 (aj2 hDl k4)
   ·rw[decide_eq_false k4,cK0]at hR2;have b4:(x.k==4)=false:=by simpa using k4
    exact go0 aj0 aj0 (aj4 hDl k4 b4 hR2)
def DJ_ : Ann:=⟨[],[]⟩
set_option maxHeartbeats 4000000 in
theorem Gk_ (l:List Arc) (p:Arc) (hsz:(l.length+1)*32≤150000000000000):Ac_ Tryz.prog 210 [Cb_ l,.agg (dArc p)] (Cb_ (insC arcC l p)):=by
 refine Aa_ [50] DJ_ Tryz.func210 Tryz.call210 Tryz.ntmps210 mxd (aj2 @DJ_.eq_1 Tryz.results210) rfl (by simp) (by simp[mx]) fun hwf B hnt hgAnn=> ?_
 clear hwf;simp only[argS];obtain⟨r,hr⟩:∃r,r=insC arcC l p:=⟨_,rfl⟩;rw[←hr]
 (refine go1 aj0 aj0 (aj1 @dArc.eq_1) ?_;intros;refine mk_i ?_)
 refine AV_ 5 50 97 4 32 (by simp[hnt,Tryz.results210,DJ_]) (fun n=> ?_);refine Ae_ (X:={x:Nat×Bool×List Arc//x.1≤l.length∧x.2.2.length≤x.1+(if x.2.1 then 1 else 0)∧x.2.2++(if x.2.1 then l.drop x.1 else insC arcC (l.drop x.1) p)=r}) (fun x=>⟨[(0,Cb_ l),(1,.agg (dArc p)),(3,.ref (dArc p)),(5,.osl 50 1),(6,.bool x.1.2.1),(7,.int .i64 x.1.1)],[⟨50,1,.row 97 4 32 (x.1.2.2.map dArc)⟩]⟩) (fun x=>l.length-x.1.1) ⟨(0,false,[]),by simp[hr]⟩ (Sub.lit (by simp[dArc])) ?_
 rintro⟨⟨k,b,R⟩,hk,hR,hcc⟩;simp only at hk hR hcc ⊢;clear hr
 by_cases hlt:k<l.length
 ·obtain⟨q,hq,hq',hqm⟩:=Ak_ hlt;rw[aR0 hlt,hq']at hcc;cases b
  ·simp only[aL0,if_false,insC,cV0]at hR hcc;have hz1:(R.length+1)*32≤150000000000000:=Nat.le_trans (aO0 32 (by omega)) hsz;have hz2:R.length≤9223372036854775806:=by omega
   have hz3:(R.length+1+1)*32≤150000000000000:=Nat.le_trans (aO0 32 (by omega)) hsz;have hz4:R.length+1≤9223372036854775806:=by omega
   have e1:=TL_ q p;rw[Of_]at e1;simp only[dArc]at e1
   by_cases hc2:¬arcC q p<0
   ·rw[decide_eq_false hc2]at e1;rw[if_neg hc2]at hcc
    by_cases he:q=p
    ·subst he;rw[if_neg hc2]at hcc
     (refine go1 (aj1 e1) aj0 (aj8 @dArc.eq_1 hlt hq' hc2 hz1 hz2 hz3 hz4) ?_;intros;refine mk_i ?_)
     refine Aj_.mk ⟨(k+1,true,R++[q]),show k+1≤l.length∧(R++[q]).length≤k+1+_∧_ from ⟨by omega,by simp;omega,by simpa using hcc⟩⟩ (Sub.lit (by simp[dArc])) (by simp;omega)
     skip
    ·have he2:(q.fr==p.fr&&(q.sy.label==p.sy.label&&(q.sy.n==p.sy.n&&q.to==p.to)))=false:=arc_ne he
     have hlp:arcC p q<0:=by
      have h0:arcC q p≠0:=fun h=>he ((CP_.eq0 q p).1 h)
      exact(CP_.anti p q).2 (by omega)
     rw[if_pos hlp]at hcc
     (refine go1 (aj1 e1) aj0 (aj9 @dArc.eq_1 hlt hq' hc2 he2 hz1 hz2 hz3 hz4) ?_;intros;refine mk_i ?_)
     refine Aj_.mk ⟨(k+1,true,R++[p,q]),show k+1≤l.length∧(R++[p,q]).length≤k+1+_∧_ from ⟨by omega,by simp;omega,by simpa using hcc⟩⟩ (Sub.lit (by simp[dArc])) (by simp;omega)
     skip
   ·have hc3:arcC q p<0:=by omega
    rw[decide_eq_true hc3]at e1;rw[if_pos hc3]at hcc
    (refine go1 (aj1 e1) aj0 (aj8 @dArc.eq_1 hlt hq' hc2 hz1 hz2 hz3 hz4) ?_;intros;refine mk_i ?_)
    refine Aj_.mk ⟨(k+1,false,R++[q]),show k+1≤l.length∧(R++[q]).length≤k+1+_∧_ from ⟨by omega,by simp;omega,by simpa using hcc⟩⟩ (Sub.lit (by simp[dArc])) (by simp;omega)
    skip
  ·simp only[if_true]at hR hcc;have hz1:(R.length+1)*32≤150000000000000:=Nat.le_trans (aO0 32 (by omega)) hsz;have hz2:R.length≤9223372036854775806:=by omega
   (repeat (first | refine Aw_ fun K hK=> ?_ | (refine DW_r DJ_ mxd (by kernel_rfl) ?_;simp[DJ_,hnt,dArc,hlt,hq',hz1,hz2];try simp (disch:=omega) only[Ah_]) | refine Al_ ?_ | (refine AJ_ ?_ ?_ ?_;(· (simp[hnt,dArc,hlt,hq',hz1,hz2];done));(try (rotate_left;(· (intro hc;(try simp[hnt,dArc,hlt,hq',hz1,hz2]at hc);done))))) | (refine Ay_ ?_;simp[Tryz.results210,hnt,dArc,hlt,hq',hz1,hz2]) | ((first | refine Aq_ ?_ | refine Ap_ ?_);simp[hnt,dArc,hlt,hq',hz1,hz2]) | (intro hc;(try simp[hnt,dArc,hlt,hq',hz1,hz2]at hc);(try (exfalso;omega))) | ((first | refine Ag_ (e1) ?_ | (refine Af_ (e1) ?_ ?_;(· (simp;done))));try simp[hnt,dArc,hlt,hq',hz1,hz2]) | (refine⟨?_,?_⟩; · omega) | omega | apply_assumption -exfalso -symm | (exfalso;omega)))
   refine Aj_.mk ⟨(k+1,true,R++[q]),show k+1≤l.length∧(R++[q]).length≤k+1+_∧_ from ⟨by omega,by simp;omega,by simpa using hcc⟩⟩ (Sub.lit (by simp[dArc])) (by simp;omega)
   skip
 ·have hk':k=l.length:=by omega
  subst hk';rw[bQ0]at hcc;cases b
  ·simp only[aL0,if_false,insC,cV0]at hR hcc;subst hcc;have hz1:(R.length+1)*32≤150000000000000:=Nat.le_trans (aO0 32 (by omega)) hsz;have hz2:R.length≤9223372036854775806:=by omega
   (repeat (first | refine Aw_ fun K hK=> ?_ | (refine DW_r DJ_ mxd (by kernel_rfl) ?_;simp[DJ_,hnt,dArc,hz1,hz2];try simp (disch:=omega) only[Ah_]) | refine Al_ ?_ | (refine AJ_ ?_ ?_ ?_;(· (simp[hnt,dArc,hz1,hz2];done));(try (rotate_left;(· (intro hc;(try simp[hnt,dArc,hz1,hz2]at hc);done))))) | (refine Ay_ ?_;simp[Tryz.results210,hnt,dArc,hz1,hz2]) | ((first | refine Aq_ ?_ | refine Ap_ ?_);simp[hnt,dArc,hz1,hz2]) | (intro hc;(try simp[hnt,dArc,hz1,hz2]at hc);(try (exfalso;omega))) | ((first | refine Ag_ (e1) ?_ | (refine Af_ (e1) ?_ ?_;(· (simp;done))));try simp[hnt,dArc,hz1,hz2]) | (refine⟨?_,?_⟩; · omega) | omega | apply_assumption -exfalso -symm | (exfalso;omega)))
  ·simp only[if_true,bM0]at hR hcc;subst hcc
   (repeat (first | refine Aw_ fun K hK=> ?_ | (refine DW_r DJ_ mxd (by kernel_rfl) ?_;simp[DJ_,hnt,dArc];try simp (disch:=omega) only[Ah_]) | refine Al_ ?_ | (refine AJ_ ?_ ?_ ?_;(· (simp[hnt,dArc];done));(try (rotate_left;(· (intro hc;(try simp[hnt,dArc]at hc);done))))) | (refine Ay_ ?_;simp[Tryz.results210,hnt,dArc]) | ((first | refine Aq_ ?_ | refine Ap_ ?_);simp[hnt,dArc]) | (intro hc;(try simp[hnt,dArc]at hc);(try (exfalso;omega))) | ((first | refine Ag_ (e1) ?_ | (refine Af_ (e1) ?_ ?_;(· (simp;done))));try simp[hnt,dArc]) | (refine⟨?_,?_⟩; · omega) | omega | apply_assumption -exfalso -symm | (exfalso;omega)))
theorem Px_ {α:Type} (c:α→α→Int):∀(l:List α) (p:α),(insC c l p).length≤l.length+1
 | [],p=>by simp[insC]
 | x::l,p=>by
  have:=Px_ c l p;unfold insC
  split
  ·simp;omega
  ·split
   ·simp
   ·simp
def insA (Z E:List Arc):List Arc:=E.foldl (insC arcC) Z
theorem Py_ (Z:List Arc):insA Z []=Z:=rfl
theorem GL_ (Z E F:List Arc):insA Z (E++F)=insA (insA Z E) F:=by unfold insA;rw[cR0]
theorem KI_ (Z:List Arc):∀E:List Arc,(insA Z E).length≤Z.length+E.length:=by
 intro E
 induction E generalizing Z with
 | nil=>simp[insA]
 | cons x E ih =>
  have h1:=ih (insC arcC Z x);have h2:=Px_ arcC Z x;have h3:insA Z (x::E)=insA (insC arcC Z x) E:=rfl;rw[h3,List.length_cons];omega
def oneA (b:Bool) (x:Arc):List Arc:=if b=true then [x]else []
theorem Vl_ (b:Bool) (x:Arc):(oneA b x).length≤1:=by unfold oneA;split<;>simp
def rowA (sy:Nd→Sym) (ah:Nat) (t:RT) (q:Nat) (ps:List Nat):List Arc:=ps.flatMap fun p=>oneA (foT t 0 p q) ⟨(num (flat t) ah p:Int),sy (nd (flat t) q),(num (flat t) ah q:Int)⟩
theorem rowA_snoc (sy:Nd→Sym) (ah:Nat) (t:RT) (q:Nat) (ps:List Nat) (p:Nat):rowA sy ah t q (ps++[p])=rowA sy ah t q ps++oneA (foT t 0 p q) ⟨(num (flat t) ah p:Int),sy (nd (flat t) q),(num (flat t) ah q:Int)⟩:=by simp[rowA]
theorem UV_ (sy:Nd→Sym) (ah:Nat) (t:RT) (q:Nat):rowA sy ah t q []=[]:=rfl
theorem OD_ (sy:Nd→Sym) (ah:Nat) (t:RT) (q:Nat):∀ps:List Nat,(rowA sy ah t q ps).length≤ps.length
 | []=>by simp[rowA]
 | p::ps=>by
  have h1:rowA sy ah t q (p::ps)=oneA (foT t 0 p q) ⟨(num (flat t) ah p:Int),sy (nd (flat t) q),(num (flat t) ah q:Int)⟩++rowA sy ah t q ps:=rfl;have h2:=Vl_ (foT t 0 p q) ⟨(num (flat t) ah p:Int),sy (nd (flat t) q),(num (flat t) ah q:Int)⟩;have h3:=OD_ sy ah t q ps;rw[h1,aC0,List.length_cons];omega
theorem Wr_ (sy:Nd→Sym) (ah:Nat) (t:RT) (q:Nat):Nl_ sy ah t q=oneA (bgT t 0 q) ⟨0,sy (nd (flat t) q),(num (flat t) ah q:Int)⟩++rowA sy ah t q (plN (flat t) (flat t).length):=rfl
def FJ_ (sy:Nd→Sym) (ah:Nat) (t:RT) (ps:List Nat):List Arc:=ps.flatMap (Nl_ sy ah t)
theorem ZP_ (sy:Nd→Sym) (ah:Nat) (t:RT) (ps:List Nat) (q:Nat):FJ_ sy ah t (ps++[q])=FJ_ sy ah t ps++Nl_ sy ah t q:=by simp[FJ_]
theorem bodyA_nil (sy:Nd→Sym) (ah:Nat) (t:RT):FJ_ sy ah t []=[]:=rfl
theorem MD_ (sy:Nd→Sym) (ah:Nat) (t:RT) (h:(plN (flat t) (flat t).length).length≤64):∀ps:List Nat,(FJ_ sy ah t ps).length≤65*ps.length
 | []=>by simp[FJ_]
 | q::ps=>by
  have h1:FJ_ sy ah t (q::ps)=Nl_ sy ah t q++FJ_ sy ah t ps:=rfl;have h3:=MD_ sy ah t h ps;have h4:=Vl_ (bgT t 0 q) ⟨0,sy (nd (flat t) q),(num (flat t) ah q:Int)⟩;have h5:=OD_ sy ah t q (plN (flat t) (flat t).length);rw[h1,Wr_,aC0,aC0,List.length_cons];omega
def syG (g:List Rul):Nd→Sym:=symS (Ar_ g) (Ao_ g)
def XL_ : Ann:=⟨[],[⟨5,[11],[],[]⟩]⟩
set_option maxHeartbeats 8000000 in
theorem ab_ (g:List Rul) (t:RT) (ah:Nat) (Z:List Arc) (ht:okT t=true) (hs:(flat t).length≤2048) (h64:ah+(lvs (flat t)).length≤64) (hn:((AE_ 3 g).length+1)*16≤150000000000000) (hZ:(Z.length+5000)*32≤150000000000000) :
  Ac_ Tryz.prog 139 [Av_ g,dNds (flat t),.int .i64 ah,Cb_ Z] (Cb_ (insA Z (FJ_ (syG g) ah t (plN (flat t) (flat t).length)))):=by
 obtain⟨l,hl⟩:∃l,l=flat t:=⟨_,rfl⟩;have ep:=EX_ l
 have hpl:(plN l l.length).length≤64:=by
  rw[Jr_ (Nat.le_refl _),FU_,hl];omega
 have hprk:∀j p,(plN l l.length)[j]? =some p→rkN l p=j:=fun j p h=>OP_ (Nat.le_refl _) h
 have hpin:∀p∈plN l l.length,∃x,l[p]? =some x:=fun p h=>by
  obtain⟨x,hx,_⟩:=HN_.1 h;exact⟨x,hx⟩
 have eS:=fun x=>JM_ g x hn
 have hat:At (flat t) 0 t:=At.top ht;have eB:∀q:Nat,Ac_ Tryz.prog 209 [dNds l,.int .i64 0,.int .i64 q] (.bool (bgT t 0 q)):=fun q=>by rw[hl];exact Ey_ q _ t (flat t) 0 rfl hat (by omega)
 have eF:∀p q:Nat,Ac_ Tryz.prog 211 [dNds l,.int .i64 0,.int .i64 p,.int .i64 q] (.bool (foT t 0 p q)):=fun p q=>by rw[hl];exact Mg_ p q _ t (flat t) 0 rfl hat (by omega)
 have hbl:=MD_ (syG g) ah t (by rw[←hl];exact hpl);have hrl:=OD_ (syG g) ah t;have hrs:=rowA_snoc (syG g) ah t;have hbs:=ZP_ (syG g) ah t;have hq:=Wr_ (syG g) ah t;rw[←hl]at hq;simp only[←hl]at hrs;rw[←hl];obtain⟨ps,hps⟩:∃ps,ps=plN l l.length:=⟨_,rfl⟩;rw[←hps]at ep hpl hprk hpin hq ⊢;clear hps hat;obtain⟨R,hR⟩:∃R,R=insA Z (FJ_ (syG g) ah t ps):=⟨_,rfl⟩;rw[←hR];refine Aa_ [] XL_ Tryz.func139 Tryz.call139 Tryz.ntmps139 mxd (aj2 @XL_.eq_1 Tryz.results139) rfl (by simp) (by simp[mx]) fun hwf B hnt hgAnn=> ?_
 clear hwf;simp only[argS]
 (refine go1 (aj1 ep) aj0 aj0 ?_;intros;refine mk_i ?_)
 refine Ae_ (X:={j:Nat//j≤ps.length}) (fun j=>⟨[(0,Av_ g),(1,dNds l),(2,.int .i64 ah),(3,Cb_ (insA Z (FJ_ (syG g) ah t (ps.take j.1)))),(9,BM_ ps),(10,.int .i64 j.1)],[]⟩) (fun j=>ps.length-j.1) ⟨0,by omega⟩ (Sub.lit (by simp[bodyA_nil,Py_])) ?_;rintro⟨j,hj⟩;simp only
 by_cases hlt:j<ps.length
 ·obtain⟨q,hq0,hq0',hqm⟩:=Ak_ hlt;obtain⟨x,hx⟩:=hpin q hqm;have hx':=(aB0.1 hx).2;have hxl:=(aB0.1 hx).1;have hrk:=hprk j q hq0;have hnum:(num l ah q:Int)=(ah:Int)+(j:Int)+1:=by unfold num;omega
  have hnd:=nd_at hx;have e1:=eS x;have e2:=eB q;have hb1:=hbs (ps.take j) q;rw[←AK_ hq0,hq q]at hb1;rw[hl]at hnd hnum;have hlen:=KI_ Z (FJ_ (syG g) ah t (ps.take j));have hbl1:=hbl (ps.take j);rw[aY0]at hbl1;obtain⟨y,hy⟩:∃y,y=symS (Ar_ g) (Ao_ g) x:=⟨_,rfl⟩;have hyx:syG g x=y:=hy.symm;rw[←hy]at e1;simp only[dNd,dSym]at e1;obtain⟨N,hN⟩:∃N:Int,N=(ah:Int)+(j:Int)+1:=⟨_,rfl⟩;have hwj1:IntKind.i64.wrap ((ah:Int)+(j:Int))=(ah:Int)+(j:Int):=wq
  have hwj2:IntKind.i64.wrap ((ah:Int)+(j:Int)+1)=N:=by rw[hN];exact wq
  rw[←hl]at hnd hnum;have hin0:=GL_ Z (FJ_ (syG g) ah t (ps.take j));obtain⟨Z0,hZ0⟩:∃Z0,Z0=insA Z (FJ_ (syG g) ah t (ps.take j)):=⟨_,rfl⟩;rw[←hZ0]at hlen hin0 ⊢;have e3:=Gk_ Z0 ⟨0,y,(ah:Int)+(j:Int)+1⟩ (by omega);simp only[dArc]at e3;rw[←hN]at e3;rw[hnd,hyx,hnum,←hN]at hb1;cases hd0:bgT t 0 q
  ·rw[hd0]at e2 hb1;obtain⟨Z1,hZc⟩:∃Z1,Z1=Z0:=⟨_,rfl⟩;have hl1:Z1.length≤Z0.length+1:=by rw[hZc];omega
   have hZ1:insA Z1 (rowA (syG g) ah t q ps)=insA Z (FJ_ (syG g) ah t (ps.take (j+1))):=by rw[hb1,hin0,GL_,hZc];rfl
   (refine go1 (aj2 e1 e2) aj0 (aj10 @dNd.eq_1 hlt hq0 hq0' hx hx' hxl @natD.eq_1 hwj1 hwj2) ?_;intros;refine mk_i ?_)
   refine Ae_ (X:={i:Nat//i≤ps.length}) (fun i=>⟨[(0,Av_ g),(1,dNds l),(2,.int .i64 ah),(3,Cb_ (insA Z1 (rowA (syG g) ah t q (ps.take i.1)))),(9,BM_ ps),(10,.int .i64 j),(11,.ref (dSym y)),(13,.int .i64 N),(14,.int .i64 i.1)],[]⟩) (fun i=>ps.length-i.1) ⟨0,by omega⟩ (Sub.lit (by simp[UV_,Py_,dSym,←hZc])) ?_;rintro⟨i,hi⟩;simp only
   by_cases hlt2:i<ps.length
   ·obtain⟨p,hp0,hp0',hpm⟩:=Ak_ hlt2;have hrk2:=hprk i p hp0;have hnum2:(num l ah p:Int)=(ah:Int)+(i:Int)+1:=by unfold num;omega
    have e4:=eF p q;have hb2:=hrs q (ps.take i) p;rw[←AK_ hp0,hnd,hyx,hnum,hnum2]at hb2;have hl2:=KI_ Z1 (rowA (syG g) ah t q (ps.take i));have hrl1:=hrl q (ps.take i);rw[aY0]at hrl1;have hin:=GL_ Z1 (rowA (syG g) ah t q (ps.take i));obtain⟨Z2,hZ2⟩:∃Z2,Z2=insA Z1 (rowA (syG g) ah t q (ps.take i)):=⟨_,rfl⟩;rw[←hZ2]at hl2 hin ⊢;have e5:=Gk_ Z2 ⟨(ah:Int)+(i:Int)+1,y,(ah:Int)+(j:Int)+1⟩ (by omega);have hwi1:IntKind.i64.wrap ((ah:Int)+(i:Int))=(ah:Int)+(i:Int):=wq
    have hwi2:IntKind.i64.wrap ((ah:Int)+(i:Int)+1)=(ah:Int)+(i:Int)+1:=wq;simp only[dArc]at e5;rw[←hN]at e5 hb2;cases hd:foT t 0 p q
    ·rw[hd]at e4 hb2;have h9:insA Z1 (rowA (syG g) ah t q (ps.take (i+1)))=Z2:=by rw[hb2,hin];rfl
     (refine go1 (aj2 e4 e5) aj0 (aj7 hlt2 hp0 hp0' hq0 hq0' hlt @natD.eq_1) ?_;intros;refine mk_i ?_)
     refine Aj_.mk ⟨i+1,by omega⟩ (Sub.lit (by simp[h9])) (by simp;omega)
     skip
    ·rw[hd]at e4 hb2;have h9:insA Z1 (rowA (syG g) ah t q (ps.take (i+1)))=insC arcC Z2 ⟨(ah:Int)+(i:Int)+1,y,N⟩:=by rw[hb2,hin];rfl
     (refine go1 (aj2 e4 e5) aj0 (aj10 hlt2 hp0 hp0' hq0 hq0' hlt @natD.eq_1 hwi1 hwi2 @dSym.eq_1) ?_;intros;refine mk_i ?_)
     refine Aj_.mk ⟨i+1,by omega⟩ (Sub.lit (by simp[h9])) (by simp;omega)
     skip
   ·have hkk:i=ps.length:=by omega
    subst hkk;rw[aQ0,hZ1]
    (refine go1 aj0 aj0 aj0 ?_;intros;refine mk_i ?_)
    refine Aj_.mk ⟨j+1,by omega⟩ (Sub.lit (by simp)) (by simp;omega)
    skip
  ·rw[hd0]at e2 hb1;obtain⟨Z1,hZc⟩:∃Z1,Z1=insC arcC Z0 ⟨0,y,N⟩:=⟨_,rfl⟩;have hl1:Z1.length≤Z0.length+1:=by rw[hZc];exact Px_ _ _ _
   have hZ1:insA Z1 (rowA (syG g) ah t q ps)=insA Z (FJ_ (syG g) ah t (ps.take (j+1))):=by rw[hb1,hin0,GL_,hZc];rfl
   (refine go1 (aj3 e1 e2 e3) aj0 (aj11 @dNd.eq_1 @dSym.eq_1 hlt hq0 hq0' hx hx' hxl @natD.eq_1 hwj1 hwj2) ?_;intros;refine mk_i ?_)
   refine Ae_ (X:={i:Nat//i≤ps.length}) (fun i=>⟨[(0,Av_ g),(1,dNds l),(2,.int .i64 ah),(3,Cb_ (insA Z1 (rowA (syG g) ah t q (ps.take i.1)))),(9,BM_ ps),(10,.int .i64 j),(11,.ref (dSym y)),(13,.int .i64 N),(14,.int .i64 i.1)],[]⟩) (fun i=>ps.length-i.1) ⟨0,by omega⟩ (Sub.lit (by simp[UV_,Py_,dSym,←hZc])) ?_;rintro⟨i,hi⟩;simp only
   by_cases hlt2:i<ps.length
   ·obtain⟨p,hp0,hp0',hpm⟩:=Ak_ hlt2;have hrk2:=hprk i p hp0;have hnum2:(num l ah p:Int)=(ah:Int)+(i:Int)+1:=by unfold num;omega
    have e4:=eF p q;have hb2:=hrs q (ps.take i) p;rw[←AK_ hp0,hnd,hyx,hnum,hnum2]at hb2;have hl2:=KI_ Z1 (rowA (syG g) ah t q (ps.take i));have hrl1:=hrl q (ps.take i);rw[aY0]at hrl1;have hin:=GL_ Z1 (rowA (syG g) ah t q (ps.take i));obtain⟨Z2,hZ2⟩:∃Z2,Z2=insA Z1 (rowA (syG g) ah t q (ps.take i)):=⟨_,rfl⟩;rw[←hZ2]at hl2 hin ⊢;have e5:=Gk_ Z2 ⟨(ah:Int)+(i:Int)+1,y,(ah:Int)+(j:Int)+1⟩ (by omega);have hwi1:IntKind.i64.wrap ((ah:Int)+(i:Int))=(ah:Int)+(i:Int):=wq
    have hwi2:IntKind.i64.wrap ((ah:Int)+(i:Int)+1)=(ah:Int)+(i:Int)+1:=wq;simp only[dArc]at e5;rw[←hN]at e5 hb2;cases hd:foT t 0 p q
    ·rw[hd]at e4 hb2;have h9:insA Z1 (rowA (syG g) ah t q (ps.take (i+1)))=Z2:=by rw[hb2,hin];rfl
     (refine go1 (aj2 e4 e5) aj0 (aj7 hlt2 hp0 hp0' hq0 hq0' hlt @natD.eq_1) ?_;intros;refine mk_i ?_)
     refine Aj_.mk ⟨i+1,by omega⟩ (Sub.lit (by simp[h9])) (by simp;omega)
     skip
    ·rw[hd]at e4 hb2;have h9:insA Z1 (rowA (syG g) ah t q (ps.take (i+1)))=insC arcC Z2 ⟨(ah:Int)+(i:Int)+1,y,N⟩:=by rw[hb2,hin];rfl
     (refine go1 (aj2 e4 e5) aj0 (aj10 hlt2 hp0 hp0' hq0 hq0' hlt @natD.eq_1 hwi1 hwi2 @dSym.eq_1) ?_;intros;refine mk_i ?_)
     refine Aj_.mk ⟨i+1,by omega⟩ (Sub.lit (by simp[h9])) (by simp;omega)
     skip
   ·have hkk:i=ps.length:=by omega
    subst hkk;rw[aQ0,hZ1]
    (refine go1 aj0 aj0 aj0 ?_;intros;refine mk_i ?_)
    refine Aj_.mk ⟨j+1,by omega⟩ (Sub.lit (by simp)) (by simp;omega)
    skip
 ·have hkk:j=ps.length:=by omega
  subst hkk;rw[aQ0,←hR];exact go0 aj0 aj0 aj0
end Go.Proofs.YtchgnpnbcjflcaaGreat
end
