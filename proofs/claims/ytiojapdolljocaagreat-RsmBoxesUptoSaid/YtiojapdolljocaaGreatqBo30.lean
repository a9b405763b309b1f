/- Parts of a proof, laid together: EnFl. -/
import Derived.Test.YtiojapdolljocaaGreatqBo14
set_option linter.unusedSimpArgs false
set_option maxHeartbeats 8000000
set_option linter.unusedVariables false
set_option linter.unusedSectionVars false
section
namespace Go.Dm
variable [DMode]
theorem oL {F:Fence} {n:Nat} {P:Program} {Q:Exit->Act->World->Prop} {o:Oper} {a:Act} {w:World} {K:Act->World->Prop} {t:Nat} {v0:Value} (ht:o.dst≠some t) (h0:a.tmps.getD t Go.undef=v0)
  (hh:o.wpIn F n P a w K Q):o.wpIn F n P a w (fun a' w'=>K a' w'/\a'.tmps.getD t Go.undef=v0) Q:=by
 have key:∀(a:Act) v,a.tmps.getD t Go.undef=v0->(a.put o.dst v).tmps.getD t Go.undef=v0:=by
  intro a v h0;unfold Act.put
  cases hd:o.dst with
  | none=>exact h0
  | some i =>
   have hi:i≠t:=fun e=>ht (by rw[hd,e])
   show (a.tmps.setIfInBounds i v).getD t Go.undef=v0
   rw[aK0]at h0 |-;rw[dE0 hi];exact h0
 unfold Oper.wpIn at *;refine⟨hh.1,?_⟩;have hh:=hh.2
 generalize (o.semAt F.round a.eval).run P w=r at *
 cases r with
 | ok x w' =>
  cases x<;>simp only[Oper.uponIn]at hh |- <;>
   first
    | exact⟨hh,key _ _ h0⟩
    | exact⟨hh,key { a with defers:=_ } _ h0⟩
    | exact⟨hh.1,CallsIn.mono hh.2 (fun e w'' he=>by cases e<;>first | exact⟨he,key _ _ h0⟩ | exact he)⟩
    | exact⟨hh.1,RowsIn.mono hh.2 (fun _ _ he=>⟨he,key _ _ h0⟩)⟩
    | exact⟨hh.1,RoundIn.mono hh.2 (fun e w'' he=>by cases e<;>first | exact⟨he,key _ _ h0⟩ | exact he)⟩
 | halt x w'=>cases x<;>simp only[Oper.uponIn]at hh |- <;>exact hh
section
variable {P : Program} {B : Base} {s : DS}
def ED_ (B B':Base) (t b:Nat) (cs:List DVal):Prop :=
 B'.nt=B.nt/\B'.N=B.N/\B'.ro=B.ro/\∀s' a' w' loc',Rel B' s' a' w' loc'->a'.tmps.getD t Go.undef= .pointer (some ⟨b,0,none⟩) ->
  ∃loc'',Rel B ⟨(t,.bx t (BU B s') 0)::s'.slots,upE s'.own t (BU B s') (.box cs)⟩ a' w' loc''
theorem Rel.hide {X:DS} {a:Act} {w:World} {loc:Nat->Loc} {t ty:Nat} {cs:List DVal} {us:List Value} (R:Rel B X a w loc) (ht:t<B.nt) (hX:Be X.slots t= .any)
  (vO:∀cur M h,Au cur M h cs us) (vU:AH cs=0) (qD:∀u∈us,u.oneCell'=true) :
  ∃B',ED_ B B' t w.heap.size cs/\Rel B' X (a.put (some t) (.pointer (some ⟨w.heap.size,0,none⟩))) (w.alloc (.cells us.toArray ty)) loc:=by
 have dA:∀b∈Aa X.own loc++B.M0,b<w.heap.size:=R.st.lt;have hsz1:(w.alloc (.cells us.toArray ty)).heap.size=w.heap.size+1:=by show (w.heap.push _).size=_;simp
 have zI:∀b,b<w.heap.size->(w.alloc (.cells us.toArray ty)).heap[b]? =w.heap[b]? :=fun b hb=>by
  show (w.heap.push _)[b]? =_
  rw[bO0,if_neg (by omega)]
 have hU:Upd (Aa X.own loc) w (w.alloc (.cells us.toArray ty)):=Upd.alloc _ _ _
 let B':Base:=⟨X.own,loc,w.heap.size::B.M0,B.N,w.alloc (.cells us.toArray ty),B.nt,B.ro,B.hN,B.nd,by have h1:=B.hnd;have h2:=R.upd.size;omega⟩
 have W:Weak (Ad X.own loc) (Ad X.own loc) (Aa X.own loc++B.M0) (Aa X.own loc++w.heap.size::B.M0) w.heap (w.alloc (.cells us.toArray ty)).heap (BU B X):=by
  refine⟨fun _ _ _ _ h=>h,fun b o _ _ ho=> ?_,fun b o hb _ ho hm=> ?_⟩
  ·have qV:=(aC0.1 ho).1;rw[zI b qV];exact ho
  ·have qV:=(aC0.1 ho).1
   rcases aI0.1 hm with h | h
   ·exact hb (aL0 _ h)
   ·rcases aJ0.1 h with h | h
    ·omega
    ·exact hb (aP0 _ h)
 have hlm:∀i,mx (Be X.slots i)<=BU B X:=fun i=>Nat.le_trans (Om _ i) (by unfold BU;omega)
 refine⟨B',⟨rfl,rfl,rfl,?_⟩,?_⟩
 ·intro s' a' w' loc' R' hv;have hlimE:BU B' s'=BU B s':=rfl;have hbM:w.heap.size∉B.M0:=fun h=>by have:=dA _ (aP0 _ h);omega
  have hbH:w.heap.size∉Aa X.own loc:=fun h=>by have:=dA _ (aL0 _ h);omega
  have hbS:w.heap.size∉Aa s'.own loc':=fun h=>R'.st.ap _ h aH0
  have vZ:w'.heap[w.heap.size]? =some (.cells us.toArray ty (0,0)):=by
   rw[R'.upd.blk w.heap.size (by show _<(w.alloc _).heap.size;omega) hbH];exact heap_alloc_new w _
  have yF:∀e∈upE s'.own t (BU B s') (.box cs),(e=⟨t,BU B s',.box cs⟩)\/(e∈s'.own/\e.id≠t):=fun e he=>by
   rcases aJ0.1 he with h | h
   ·exact .inl h
   ·exact .inr (Bt.1 h)
  have wQ:∀b∈Aa (upE s'.own t (BU B s') (.box cs)) (CG loc' t ⟨[w.heap.size],Go.undef⟩),b=w.heap.size\/b∈Aa s'.own loc':=by
   intro b hb;obtain⟨e,he,h1⟩:=bQ0.1 hb
   rcases yF e he with rfl | ⟨h2,h3⟩
   ·simp only[CG,if_true,aE0]at h1;exact .inl h1
   ·simp only[CG,if_neg h3]at h1;exact .inr (AZ h2 h1)
  have W2:Weak (Ad s'.own loc') (Ad (upE s'.own t (BU B s') (.box cs)) (CG loc' t ⟨[w.heap.size],Go.undef⟩)) (Aa s'.own loc'++w.heap.size::B.M0) (Aa (upE s'.own t (BU B s') (.box cs)) (CG loc' t ⟨[w.heap.size],Go.undef⟩)++B.M0) w'.heap w'.heap (BU B s'):=by
   refine⟨fun id r l hr hl=> ?_,fun b o _ _ ho=>ho,fun b o hb _ _ hm=> ?_⟩
   ·obtain⟨e,he,rfl,rfl,rfl⟩:=BC hl
    rcases yF e he with rfl | ⟨h2,h3⟩
    ·simp at hr
    ·simp only[CG,if_neg h3];exact AG R'.st.nd h2
   ·rcases aI0.1 hm with h | h
    ·rcases wQ b h with rfl | h
     ·exact hb (aP0 _ aH0)
     ·exact hb (aL0 _ h)
    ·exact hb (aP0 _ (aF0 _ h))
  refine⟨CG loc' t ⟨[w.heap.size],Go.undef⟩,⟨?_,?_,?_,?_,?_⟩,?_,?_,?_,?_,R'.nt,?_⟩
  ·simp only[upE,List.map_cons,cH0];refine⟨fun hm=> ?_,DM R'.st.nd⟩;obtain⟨e,he,h1⟩:=aR0.1 hm;exact(Bt.1 he).2 h1
  ·unfold upE;rw[DE,PN,bS0];simp only[CG,if_true];refine⟨by simp,DD R'.st.bl _ (DM R'.st.nd) (fun e he=>(Bt.1 he).1),?_⟩;intro b hb b' qG gF;subst gF;obtain⟨e,he,qE,h1⟩:=Ow qG;simp only[aE0]at hb;subst hb;exact hbS (AZ he h1)
  ·intro b hb hm
   rcases wQ b hb with rfl | h
   ·exact hbM hm
   ·exact R'.st.ap b h (aF0 _ hm)
  ·intro b hb
   rcases aI0.1 hb with h | h
   ·rcases wQ b h with rfl | h
    ·exact(aC0.1 vZ).1
    ·exact R'.st.lt b (aL0 _ h)
   ·exact R'.st.lt b (aP0 _ (aF0 _ h))
  ·intro e he
   rcases yF e he with rfl | ⟨h2,h3⟩
   ·refine⟨w.heap.size,us.toArray,ty,by simp[CG],vZ,by have:=Ap _ _ (vO (fun _ _=>none) [] #[]);simpa using this,?_⟩;have:=Gv cs us [] [] (vO (Ad (upE s'.own t (BU B s') (.box cs)) (CG loc' t ⟨[w.heap.size],Go.undef⟩)) (Aa (upE s'.own t (BU B s') (.box cs)) (CG loc' t ⟨[w.heap.size],Go.undef⟩)++B.M0) w'.heap) qD;simpa using this
   ·have hk:=R'.st.ok e h2;have hl:CG loc' t ⟨[w.heap.size],Go.undef⟩ e.id=loc' e.id:=by simp only[CG,if_neg h3]
    rw[hl];refine Bd W2 ?_ (fun _ _ _ ho=>ho) hk;have:=(Bi h2).2;unfold BU;omega
  ·exact(R.upd.trans (Upd.alloc [] w _) (by simp)).trans R'.upd (fun x hx=>R.new x hx)
  ·intro b hb
   rcases wQ b hb with rfl | h
   ·exact .inr R.upd.size
   ·rcases R'.new b h with h | h
    ·exact R.new b h
    ·right
     have h1:w.heap.size+1<=b:=by rw[<-hsz1];exact h
     have:=R.upd.size;omega
  ·intro e he qV
   rcases yF e he with rfl | ⟨h2,h3⟩
   ·simp only at qV;unfold BU at qV;omega
   ·simp only[CG,if_neg h3];obtain⟨e2,k1,k2,k3,k4⟩:=BC (R'.ver e h2 qV);have:=R.ver e2 k1 (by omega);rw[k2,k3]at this;rw[this,k4]
  ·intro i;simp only[Be]
   split
   ·rename_i hi;subst hi;simp only[rd];intro l hl;rw[Dk]at hl;simp only[aA0]at hl;subst hl;exact⟨_,rfl,hv⟩
   ·exact Cc W2 _ _ (Nat.le_trans (Om _ i) (by unfold BU;omega)) (R'.sl i)
  ·obtain⟨rs,g1,g2,g3,g4⟩:=R'.df;refine⟨rs,g1,g2,fun r hr=> ?_,g4⟩;obtain⟨k1,k2,k3⟩:=g3 r hr;refine⟨k1,k2,fun hm=>k3 ?_⟩
   rcases aI0.1 hm with h | h
   ·rcases wQ r h with rfl | h
    ·exact aP0 _ aH0
    ·exact aL0 _ h
   ·exact aP0 _ (aF0 _ h)
 ·refine⟨⟨R.st.nd,R.st.bl,?_,?_,?_⟩,Upd.refl _ _,fun b hb=> .inl hb,fun e he _=>AG R.st.nd he,?_,by simpa[Act.put]using R.nt,?_⟩
  ·intro b hb hm
   rcases aJ0.1 hm with h | h
   ·have:=dA b (aL0 _ hb);omega
   ·exact R.st.ap b hb h
  ·intro b hb;rw[hsz1]
   rcases aI0.1 hb with h | h
   ·have:=dA b (aL0 _ h);omega
   ·rcases aJ0.1 h with h | h
    ·omega
    ·have:=dA b (aP0 _ h);omega
  ·intro e he;have:=(Bi he).2;exact Bd W (by unfold BU;omega) (fun b o _ ho=>by rw[zI b (aC0.1 ho).1];exact ho) (R.st.ok e he)
  ·intro i
   by_cases hi:i=t
   ·subst hi;rw[hX];simp only[rd]
   ·have h1:(a.put (some t) (.pointer (some ⟨w.heap.size,0,none⟩))).tmps.getD i Go.undef=a.tmps.getD i Go.undef:=by
     show (a.tmps.setIfInBounds t _).getD i Go.undef=_
     rw[aK0,aK0,dE0 (Ne.symm hi)]
    rw[h1];exact Cc W _ _ (hlm i) (R.sl i)
  ·refine R.df.keep (B:=B) (M':=Aa X.own loc++w.heap.size::B.M0) rfl hU (fun x hx=>aL0 _ hx) fun b hb=> ?_
   rcases aI0.1 hb with h | h
   ·exact .inl (aL0 _ h)
   ·rcases aJ0.1 h with h | h
    ·exact .inr (by omega)
    ·exact .inl (aP0 _ h)
def PE (lt:Nat) (o:Oper) (n:Nat):Bool:=((List.range n).all fun k=>k==lt||o.after.toList.any fun e=>Region.binds .any e&&e.on==k)&&o.after.toList.all fun e=>decide (e.on<n)
def CT_ (ops:Array Oper):Bool:=ops.toList.all fun o=>match o.guard with | some (j,_)=>decide (j<ops.size) | none=>true
theorem YS {a:Act} {w:World} {i t:Nat} {z:List DVal} {type:TypeId} {FX:String} {after:Array Edge} {guard:Option (Nat×Bool)} (hz:tZero P t=some z) (hp:z.all (EO [])=true) :
  ∃us:List Value,(∀cur M h,Au cur M h z us)/\AH z=0/\(∀u∈us,u.oneCell'=true)/\(execOp a.eval ⟨some i,.alloc t,type,FX,after,guard⟩).run P w= .ok (.value (.pointer (some ⟨w.heap.size,0,none⟩))) (w.alloc (.cells us.toArray t)):=by
 obtain⟨zv,zR,rfl⟩:=Fz (w:=w) hz
 have vU:AH (zv.cells.toList.map BQ)=0:=by
  have h1:∀v,mx (BQ v)=0:=by
   intro v;unfold BQ
   split<;>(try split)<;>simp[mx]
  generalize zv.cells.toList=l
  induction l with
  | nil=>simp[AH]
  | cons v l ih =>
   show max (mx (BQ v)) (AH (l.map BQ))=0
   rw[h1,ih];rfl
 refine⟨zv.cells.toList,fun cur M h=>Bn _,vU,?_,?_⟩
 ·exact FE (s:=⟨[],[]⟩) (loc:=fun _=>⟨[],Go.undef⟩) (M0:=[]) (w:=w) ⟨by simp,by simp[Aa],by simp[Aa],by simp[Aa],by simp⟩ (zv.cells.toList.map BQ) zv.cells.toList (bB0.2 fun d hd=>Pi (bB0.1 hp d hd)) (Bn _)
 ·simp[execOp,Instr.alloc,zR,newVar,newRow]
def kF (P:Program) (B:Base) (Q:DS->Prop) (ow:List Nat) (t:Nat) (cs:List DVal) (o:Oper):Cont :=
 ⟨fun s1=>∀r,BZ P B.nt ow [] [] #[o] [o] 0 ⟨Q⟩ ⟨(t,.bx t r 0)::s1.slots,upE s1.own t r (.box cs)⟩⟩
theorem BF (P:Program) (B:Base) (Q:DS->Prop) (ow:List Nat) (t:Nat) (cs:List DVal) (o:Oper) (s1:DS):(kF P B Q ow t cs o).f s1=∀r,BZ P B.nt ow [] [] #[o] [o] 0 ⟨Q⟩ ⟨(t,.bx t r 0)::s1.slots,upE s1.own t r (.box cs)⟩:=id rfl
structure LateP (ops3:Array Oper) (p o:Oper):Prop where
 ex:∃u k,p.op= .extract (.tmp u) k
 g:p.guard=none
 st:∃ty x y,o.op= .store ty x y
 nd:o.dst=none
 ap:∀d,p.dst=some d->d∉o.looksAt ops3
theorem CX_ {p:Oper} {u k:Nat} (hp:p.op= .extract (.tmp u) k) {F:Fence} {n:Nat} {a:Act} {w:World} {C:Act->World->Prop} (h:p.wpIn F n P a w C fun _ _ _=>False) :
  ∃v,(∀(a':Act) (w':World),a'.tmps=a.tmps->(execOp a'.eval p).run P w'= .ok (.value v) w')/\C (a.put p.dst v) w:=by
 have hr:∀(a':Act) (w':World),a'.tmps=a.tmps->execOp a'.eval p=(do pure (.value (<-Instr.extract (a.tmps.getD u Go.undef) k))):=by
  intro a' w' ha;unfold execOp;rw[hp];simp only[Act.eval,ha]
 unfold Oper.wpIn at h;have h:=h.2;rw[Oper.semAt_eq _ _ _ (fun c hc=>by rw[hp]at hc;cases hc),hr a w rfl]at h;unfold Instr.extract at h hr
 split at h
 ·rename_i vs
  split at h
  ·rename_i v hv;refine⟨v,fun a' w' ha=> ?_,?_⟩
   ·rw[hr a' w' ha];simp only[*];rfl
   ·exact h
  ·exact h.elim
 ·exact h.elim
theorem pC {ro:Option Nat} {ops:Array Oper} {o:Oper} {a:Act} {d:Option Tmp} {u:Value} {w:World} {K:Act->World->Prop} (qK:∃ty x y,o.op= .store ty x y) (hdo:o.dst=none) (h1:∀e,d=some e->e∉o.looksAt ops)
  (h:o.wpIn (wd ro) 0 P (a.put d u) w K fun _ _ _=>False) (Q:Exit->Act->World->Prop):o.wpIn (wd ro) 0 P a w (fun a' w'=>K (a'.put d u) w'/\a'.tmps=a.tmps) Q:=by
 obtain⟨ty,x,y,wW⟩:=qK;unfold Oper.wpIn at h |-;rw[about_put o w a d u h1,Oper.semAt_eq _ _ _ (fun c hc=>by rw[wW]at hc;cases hc),execOp_put o (fun cs b hc=>by rw[wW]at hc;cases hc) a d u h1]at h;rw[Oper.semAt_eq _ _ _ (fun c hc=>by rw[wW]at hc;cases hc)];refine⟨h.1,?_⟩
 replace h:=h.2
 generalize (execOp a.eval o).run P w=r at *
 cases r with
 | ok x w' =>
  cases x<;>simp only[Oper.uponIn,hdo]at h |-
  case value v=>exact⟨h,rfl⟩
  case skip=>exact⟨h,rfl⟩
  case defer e =>
   have e1:=Act.put_defers a d u e;refine⟨?_,rfl⟩;have h:K ({ a.put d u with defers:=e::(a.put d u).defers }:Act) w':=h;rw[e1]at h;exact h
  case enter f args =>
   refine⟨h.1,CallsIn.mono h.2 fun e w'' he=> ?_⟩
   cases e with
   | returned v=>exact⟨he,rfl⟩
   | panicked c=>exact he.elim
   | outgrown=>obtain⟨_,_,he⟩:=he;exact he.elim
  case row row args=>exact⟨h.1,RowsIn.mono h.2 fun v w'' he=>⟨he,rfl⟩⟩
  case round l f tmps assign body =>
   refine⟨h.1,RoundIn.mono h.2 fun e w'' he=> ?_⟩
   cases e with
   | returned v=>exact⟨he,rfl⟩
   | panicked c=>exact he.elim
   | outgrown=>obtain⟨_,_,he⟩:=he;exact he.elim
 | halt x w'=>cases x<;>simp only[Oper.uponIn]at h<;>exact h.elim
theorem DX_ {ow:List Nat} {o:Oper} {K:Cont} {a:Act} {w:World} {loc:Nat->Loc} {next:Act->World->Prop} {Q:Exit->Act->World->Prop} (hg:o.guard=none) (h:BZ P B.nt ow [] [] #[o] [o] 0 K s) (R:Rel B s a w loc)
  (hn:∀s' a' w' loc',K.f s'->Rel B s' a' w' loc'->next a' w'):o.wpIn (wd B.ro) 0 P a w next Q:=by
 have ext:KJ (HD [] [] 0 s.own) s.own:=by
  unfold HD;simp;exact fun _ _ h=>h
 have neu:∀(e:Operand->DVal) (d d':DVal),(∀x∈o.op.operands,Bb s loc B.M0 w (e x) (a.eval x))->(∀(w':World) (v:Value),rd (Ad s.own loc) (Aa s.own loc++B.M0) w'.heap d' v->rd (Ad s.own loc) (Aa s.own loc++B.M0) w'.heap d v) ->
   BV B.nt o.dst=true->EV P o (HD [] [] 0 s.own) e d'->K.f ⟨Bs s.slots o.dst d,s.own⟩->o.wpIn (wd B.ro) 0 P a w next Q:=by
  intro e d d' he zT hd h1 hk
  rcases h1.ext ext (fun x _=>rfl)with ⟨c,g,args,wW,zP,wE⟩ | ⟨wE,hq⟩
  ·exact Uu (d':=d) (K:=fun s'=>s'=⟨Bs s.slots o.dst d,s.own⟩) R hd wW he zP wE (fun _=>rfl) zT (fun s' a' w' loc' fC R'=>by subst fC;exact hn _ a' w' loc' hk R')
  ·exact Zp (d:=d) (K:=fun s'=>s'=⟨Bs s.slots o.dst d,s.own⟩) R hd he wE rfl (fun w' v h=>zT w' v (by rw[hq];exact h)) (fun s' a' w' loc' fC R'=>by subst fC;exact hn _ a' w' loc' hk R')
 simp only[BZ]at h;rw[hg]at h;simp only at h
 split at h
 ·obtain⟨hd,_,h⟩:=h;obtain⟨d,own',h1,h2⟩:=IX h (BU B s);exact WQ (R:=R) (Nat.le_refl _) hd (fun x _=>R.ev x) (fun x _=>Nq _ x) h1 fun a' w' loc' R'=>hn _ a' w' loc' h2 R'
 ·obtain⟨hd,h⟩:=h
  split at h
  ·rename_i c wW
   split at h
   ·rename_i g args hc;obtain⟨d,h1,h2⟩:=Jt h;exact neu _ d d (fun x _=>R.ev x) (fun _ _ h=>h) hd (.inl ⟨c,g,args,wW,hc,h1⟩) h2
   ·exact neu _ _ _ (fun x _=>R.ev x) (fun _ _ h=>h) hd (.inr ⟨h.1,rfl⟩) h.2
  ·exact neu _ _ _ (fun x _=>R.ev x) (fun _ _ h=>h) hd (.inr ⟨h.1,rfl⟩) h.2
theorem tQ (ow l1 l2:List Nat) {t ty:Nat} {ops ops3:Array Oper} {z o:Oper} {cs:List DVal} {Q:Exit->DS->Prop} (h3:ops3=(ops.push z).push o) (qW:DJ ow l1 l2 ops=true)
  (hz:z.op= .alloc ty/\z.dst=some t/\z.guard=none/\z.after= #[]) (ho:o.guard=none) (lt:Nat) (yS:PE lt o (ops.size+1)=true) (gL:lt≠ops.size) (cY:∀p,ops[lt]? =some p->LateP ops3 p o) (zQ:CT_ ops=true)
  (ht:t<B.nt) (qH:ops.toList.all (fun o=>decide (o.dst≠some t))=true) (hsl:Be s.slots t= .any) (kY:tZero P ty=some cs) (qD:cs.all (EO [])=true)
  (h:BZ P B.nt ow l1 l2 ops ops.toList 0 (kF P B (Q .normal) ow t cs o) s) {a:Act} {w:World} {loc:Nat->Loc} (R:Rel B s a w loc):wpAnyIn (wd B.ro) 0 P .any ops3 (QQ B Q) ops3.size (Array.replicate ops3.size false) a w.drew:=by
 subst h3;obtain⟨Inv,i1,i2,i3,i4⟩:=OZ (N:=B.N) ow l1 l2 qW R.st.nd h;have cA:∀o∈ops.toList,o.dst≠some t:=fun o ho=>by simpa using bB0.1 qH o ho
 have spec:=Nu (by unfold DJ at qW;simp only[aN0]at qW;exact qW.1);have hsz3:((ops.push z).push o).size=ops.size+2:=by simp
 have at_lo:∀k,k<ops.size->((ops.push z).push o)[k]? =ops[k]? :=fun k hk=>by
  rw[bO0,if_neg (by simp;omega),bO0,if_neg (by omega)]
 have at_z:((ops.push z).push o)[ops.size]? =some z:=by
  rw[bO0,if_neg (by simp),bO0,if_pos rfl]
 have at_o:((ops.push z).push o)[ops.size+1]? =some o:=by
  rw[bO0,if_pos (by simp)]
 have spec2:(∀k,k<ops.size+1->k≠lt->∃e∈o.after,Region.binds .any e=true/\e.on=k)/\∀e∈o.after,e.on<ops.size+1:=by
  unfold PE at yS;simp only[aN0,bB0,dQ0,cL0,cV0,beq_iff_eq,decide_eq_true_eq]at yS;exact⟨fun k hk wH=>by obtain⟨e,he,h1,h2⟩:=(yS.1 k hk).resolve_left wH;exact⟨e,by simpa using he,h1,h2⟩,fun e he=>yS.2 e (by simpa using he)⟩
 let lo:Array Bool->Array Bool:=fun l=>Array.ofFn (n:=ops.size) fun i=>l.getD i.1 false
 have lo_get:∀(l:Array Bool) k d,k<ops.size->(lo l).getD k d=l.getD k false:=by
  intro l k d hk;rw[aK0];simp[lo,hk]
 have lo_set:∀(l:Array Bool) i,i<ops.size->l.size=ops.size+2->lo (l.setIfInBounds i true)=(lo l).setIfInBounds i true:=by
  intro l i hi hl
  apply Array.ext
  ·simp[lo]
  ·intro j h1 h2;rw[Array.getElem_setIfInBounds (by simpa using h2)];simp only[lo,Array.getElem_ofFn]
   split
   ·rename_i yU;subst yU;rw[aK0,cK0 (by omega)];rfl
   ·rename_i yU;rw[aK0,aK0,dE0 yU]
 have lo_set2:∀(l:Array Bool) i,ops.size<=i->lo (l.setIfInBounds i true)=lo l:=by
  intro l i hi
  apply Array.ext
  ·simp[lo]
  ·intro j h1 h2;simp only[lo,Array.getElem_ofFn];have hj:j<ops.size:=by simpa[lo]using h2
   rw[aK0,aK0,dE0 (by omega)]
 have done:∀(fuel:Nat) (listed:Array Bool) (a:Act) (w:World),listed.size=ops.size+2->(∀i,i<ops.size+2->listed.getD i false=true)->QQ B Q .normal a w->wpAnyIn (wd B.ro) 0 P .any ((ops.push z).push o) (QQ B Q) fuel listed a w:=by
  intro fuel listed a w qF qI hq
  have hr:Region.ready .any ((ops.push z).push o) listed=[]:=by
   rw[List.eq_nil_iff_forall_not_mem];intro i hi;rw[mem_ready]at hi;obtain⟨g0,o',jN,_⟩:=hi;have qV:i<ops.size+2:=by have:=(aC0.1 jN).1;omega
   have g1:=qI i qV;have zO:i<listed.size:=by omega
   simp only[aK0,cA0 zO,bZ0]at g0 g1;rw[g0]at g1;simp at g1
  cases fuel with
  | zero=>exact⟨hr,hq⟩
  | succ fuel=>exact⟨fun _=>hq,fun i hi=>by rw[hr]at hi;simp at hi⟩
 have main:∀(fuel:Nat) (listed:Array Bool) (a:Act) (w:World),(List.range (ops.size+2)).countP (fun k=>listed.getD k false)+fuel=ops.size+2->listed.size=ops.size+2->listed.getD (ops.size+1) false=false ->
   ((listed.getD ops.size false=false/\Inv B (lo listed) a w)\/(listed.getD ops.size false=true/\∃B' b,ED_ B B' t b cs/\a.tmps.getD t Go.undef= .pointer (some ⟨b,0,none⟩)/\Inv B' (lo listed) a w)) ->
   wpAnyIn (wd B.ro) 0 P .any ((ops.push z).push o) (QQ B Q) fuel listed a w:=by
  intro fuel
  induction fuel with
  | zero =>
   intro listed a w cD qF bT _;have:=(List.countP_eq_length (p:=fun k=>listed.getD k false) (l:=List.range (ops.size+2))).1 (by simpa using cD) (ops.size+1) (dQ0.2 (by omega));simp only[bT]at this;simp at this
  | succ fuel ih =>
   intro listed a w cD qF bT hJ
   have gM:∀k d,k<ops.size+2->listed.getD k d=listed.getD k false:=by
    intro k d hk;have:k<listed.size:=by omega
    simp[aK0,cA0 this]
   have cnt1:∀i,i<ops.size+2->listed.getD i false=false->(List.range (ops.size+2)).countP (fun k=>(listed.setIfInBounds i true).getD k false)+fuel=ops.size+2:=by
    intro i hi hSi;have zO:i<listed.size:=by omega
    have hS':(fun k=>(listed.setIfInBounds i true).getD k false)=fun k=>if k=i then true else listed.getD k false:=by
     funext k
     by_cases hk:k=i
     ·subst hk;simp[zO]
     ·rw[if_neg hk,getD_set_ne false (Ne.symm hk)]
    rw[hS',Ut _ i hSi _ hi];omega
   have low:∀i,i<ops.size->(i∈Region.ready .any ops (lo listed)↔i∈Region.ready .any ((ops.push z).push o) listed):=by
    intro i hi;rw[mem_ready,mem_ready,at_lo i hi,lo_get _ _ _ hi,gM i true (by omega)];refine and_congr_right fun _=>exists_congr fun o'=>and_congr_right fun jN=>forall_congr' fun e=>forall_congr' fun he=>forall_congr' fun hb=> ?_
    have:=spec.acy i o' jN e he hb;rw[lo_get _ _ _ (by omega)]
   obtain⟨B1,hB1,hI1⟩:∃B1,(B1.nt=B.nt/\B1.N=B.N/\B1.ro=B.ro)/\Inv B1 (lo listed) a w:=by
    rcases hJ with ⟨_,hI⟩ | ⟨_,B',b,hB,_,hI⟩
    ·exact⟨B,⟨rfl,rfl,rfl⟩,hI⟩
    ·exact⟨B',⟨hB.1,hB.2.1,hB.2.2.1⟩,hI⟩
   obtain⟨hsl1,h5,h6⟩:=i2 _ _ _ _ hI1;refine⟨fun hr=> ?_,fun i hi=> ?_⟩
   ·exfalso
    have h7:Region.ready .any ops (lo listed)=[]:=by
     rw[List.eq_nil_iff_forall_not_mem];intro i hi
     have qV:i<ops.size:=by
      rw[mem_ready]at hi;obtain⟨_,o',jN,_⟩:=hi;exact(aC0.1 jN).1
     have:=(low i qV).1 hi;rw[hr]at this;simp at this
    have h8:=h5 h7
    rcases hJ with ⟨vI,_⟩ | ⟨vI,_⟩
    ·have:ops.size∈Region.ready .any ((ops.push z).push o) listed:=by
      rw[mem_ready,gM _ true (by omega)];exact⟨vI,z,at_z,fun e he=>by rw[hz.2.2.2]at he;simp at he⟩
     rw[hr]at this;simp at this
    ·have:ops.size+1∈Region.ready .any ((ops.push z).push o) listed:=by
      rw[mem_ready,gM _ true (by omega)];refine⟨bT,o,at_o,fun e he _=> ?_⟩;have:=spec2.2 e he
      by_cases vA:e.on=ops.size
      ·rw[vA];exact vI
      ·rw[<-lo_get listed e.on false (by omega)];exact h8 e.on (by omega)
     rw[hr]at this;simp at this
   ·have hi0:=hi;rw[mem_ready]at hi0;obtain⟨g0,o',jN,wU⟩:=hi0;have qV:i<ops.size+2:=by have:=(aC0.1 jN).1;omega
    rw[gM i true qV]at g0;have vW:∀k,k≠i->(listed.setIfInBounds i true).getD k false=listed.getD k false:=fun k hk=>getD_set_ne false (Ne.symm hk)
    by_cases yC:i<ops.size
    ·have hio:ops[i]? =some o':=by rw[<-at_lo i yC];exact jN
     have hdn:o'.dst≠some t:=cA o' (by simpa using Array.mem_of_getElem? hio)
     have hy:Region.wanted o' (yielded ((ops.push z).push o) a.tmps)=Region.wanted o' (yielded ops a.tmps):=by
      unfold Region.wanted
      cases hg:o'.guard with
      | none=>rfl
      | some jw =>
       obtain⟨j,want⟩:=jw
       have hj:j<ops.size:=by
        have h9:=bB0.1 zQ o' (by simpa using Array.mem_of_getElem? hio);rw[hg]at h9;simpa using h9
       simp only[yielded,at_lo j hj]
     have conv:∀{K:Act->World->Prop},wpOpIn (wd B.ro) 0 P ops (QQ B Q) i K a w->wpOpIn (wd B.ro) 0 P ((ops.push z).push o) (QQ B Q) i K a w:=by
      intro K hh;unfold wpOpIn at hh |-;rw[hio]at hh;rw[jN];simp only at hh |-;rw[hy];exact hh
     have jS:(listed.setIfInBounds i true).size=ops.size+2:=by simpa using qF
     have wY:(listed.setIfInBounds i true).getD (ops.size+1) false=false:=by rw[vW _ (by omega)];exact bT
     rcases hJ with ⟨vI,hI⟩ | ⟨vI,B',b,hB,hv,hI⟩
     ·refine conv (i3 B (lo listed) a w i _ _ rfl rfl hI ((low i yC).2 hi) fun a' w' hI'=> ?_)
      exact ih _ a' w' (cnt1 i qV g0) jS wY (.inl ⟨by rw[vW _ (by omega)];exact vI,by rw[lo_set _ i yC qF];exact hI'⟩)
     ·have hw:=i3 B' (lo listed) a w i (Inv B' ((lo listed).setIfInBounds i true)) (QQ B Q) hB.1 hB.2.1 hI ((low i yC).2 hi) fun _ _ h=>h
      rw[hB.2.2.1]at hw;refine conv ?_
      unfold wpOpIn at hw |-;rw[hio]at hw |-;simp only at hw |-
      have nx:∀a' w',Inv B' ((lo listed).setIfInBounds i true) a' w'/\a'.tmps.getD t Go.undef= .pointer (some ⟨b,0,none⟩)->wpAnyIn (wd B.ro) 0 P .any ((ops.push z).push o) (QQ B Q) fuel (listed.setIfInBounds i true) a' w':=by
       rintro a' w' ⟨hI',kT⟩;exact ih _ a' w' (cnt1 i qV g0) jS wY (.inr ⟨by rw[vW _ (by omega)];exact vI,B',b,hB,kT,by rw[lo_set _ i yC qF];exact hI'⟩)
      split
      ·rename_i wK;rw[if_pos wK]at hw;exact Oper.wpIn_mono nx (oL hdn hv hw)
      ·rename_i wK;rw[if_neg wK]at hw;refine⟨hw.1,nx _ _ ⟨hw.2,?_⟩⟩;unfold Act.put
       cases hd:o'.dst with
       | none=>exact hv
       | some i' =>
        have zO:i'≠t:=fun e=>hdn (by rw[hd,e])
        show (a.tmps.setIfInBounds i' _).getD t Go.undef=_
        rw[aK0]at hv |-;rw[dE0 zO];exact hv
    ·by_cases hiz:i=ops.size
     ·subst hiz;rw[at_z]at jN;simp only[aA0]at jN;subst jN
      rcases hJ with ⟨_,hI⟩ | ⟨vI,_⟩
      ·obtain⟨dst,op,type,FX,after,guard⟩:=z;obtain⟨dV,dJ,hz3,hz4⟩:=hz;simp only at dV dJ hz3 hz4;subst dV dJ hz3 hz4;unfold wpOpIn;rw[at_z];simp only;rw[if_pos (by simp[Region.wanted])];obtain⟨us,u1,u2,u3,u4⟩:=YS (a:=a) (w:=w) (i:=t) (type:=type) (FX:=FX) (after:= #[]) (guard:=none) kY qD;refine Es (fun c hc=>by cases hc) u4 ?_
       obtain⟨B',⟨hB',kT⟩,hI'⟩:=i4 B (fun B'=>ED_ B B' t w.heap.size cs/\(a.put (some t) (.pointer (some ⟨w.heap.size,0,none⟩))).tmps.getD t Go.undef= .pointer (some ⟨w.heap.size,0,none⟩)) (lo listed) a w (a.put (some t) (.pointer (some ⟨w.heap.size,0,none⟩))) (w.alloc (.cells us.toArray ty)) t hI cA (fun X loc hX RX=>by
        obtain⟨B',b1,b2⟩:=RX.hide (ty:=ty) ht (by rw[hX];exact hsl) u1 u2 u3;refine⟨B',⟨b1,?_⟩,b2⟩
        show (a.tmps.setIfInBounds t _).getD t Go.undef=_
        rw[aK0,cK0 (by rw[RX.nt];exact ht)]
        rfl)
       refine ih _ _ _ (cnt1 _ qV g0) (by simpa using qF) (by rw[vW _ (by omega)];exact bT) (.inr ⟨?_,B',_,hB',kT,by rw[lo_set2 _ _ (Nat.le_refl _)];exact hI'⟩);rw[aK0,cK0 (by omega)];rfl
      ·rw[vI]at g0;simp at g0
     ·have fN:i=ops.size+1:=by omega
      subst fN;rw[at_o]at jN;simp only[aA0]at jN;subst jN
      have qI:∀k,k<ops.size+1->k≠lt->listed.getD k false=true:=by
       intro k hk wH;obtain⟨e,he,hb,rfl⟩:=spec2.1 k hk wH;exact wU e he hb
      rcases hJ with ⟨vI,_⟩ | ⟨_,B',b,hB,hv,hI⟩
      ·rw[qI _ (by omega) (Ne.symm gL)]at vI;simp at vI
      ·unfold wpOpIn;rw[at_o];simp only;rw[if_pos (by simp[Region.wanted,ho])]
       have fin:∀(a:Act) (w:World) l,Inv B' l a w->(∀k,k<ops.size->l.getD k false=true)->a.tmps.getD t Go.undef= .pointer (some ⟨b,0,none⟩)->∀Q',o.wpIn (wd B.ro) 0 P a w (fun a' w'=>QQ B Q .normal a' w') Q':=by
        intro a w l hI hl hv Q';obtain⟨_,_,h9⟩:=i2 _ _ _ _ hI;obtain⟨s1,loc1,hK,R1⟩:=h9 hl;obtain⟨loc2,R2⟩:=hB.2.2.2 s1 a w loc1 R1 hv;rw[BF]at hK;have hK:=hK (BU B s1);exact DX_ ho hK R2 fun s' a' w' loc' hk R'=>⟨s',loc',hk,R'⟩
       have setO:(listed.setIfInBounds (ops.size+1) true).getD (ops.size+1) false=true:=by
        rw[aK0,cK0 (by omega)];rfl
       by_cases nW:∀k,k<ops.size->listed.getD k false=true
       ·refine Oper.wpIn_mono (fun a' w' hq=> ?_) (fin a w (lo listed) hI (fun k hk=>by rw[lo_get _ _ _ hk];exact nW k hk) hv _);refine done fuel _ a' w' (by simpa using qF) (fun k hk=> ?_) hq
        by_cases zD:k=ops.size+1
        ·subst zD;exact setO
        ·rw[vW k zD]
         by_cases hk3:k=ops.size
         ·exact qI k (by omega) (by omega)
         ·exact nW k (by omega)
       ·have hlt1:lt<ops.size/\listed.getD lt false=false:=by
         refine Classical.byContradiction fun hn=>nW fun k hk=> ?_
         by_cases wH:k=lt
         ·subst wH
          cases hg:listed.getD k false with
          | true=>rfl
          | false=>exact absurd ⟨hk,hg⟩ hn
         ·exact qI k (by omega) wH
        obtain⟨jI,zH⟩:=hlt1;obtain⟨p,hp⟩:∃p,ops[lt]? =some p:=⟨ops[lt],cA0 jI⟩;obtain⟨⟨u,kk,jF⟩,hpg,qK,hdo,hpa⟩:=cY p hp
        have dL:lt∈Region.ready .any ops (lo listed):=by
         rw[mem_ready];refine⟨by rw[lo_get _ _ _ jI];exact zH,p,hp,fun e he hb=> ?_⟩;have:=spec.acy lt p hp e he hb;rw[lo_get _ _ _ (by omega)];exact qI _ (by omega) (by omega)
        have hw:=i3 B' (lo listed) a w lt (Inv B' ((lo listed).setIfInBounds lt true)) (fun _ _ _=>False) hB.1 hB.2.1 hI dL fun _ _ h=>h
        unfold wpOpIn at hw;rw[hp]at hw;simp only at hw;rw[if_pos (by simp[Region.wanted,hpg])]at hw;obtain⟨v,fM,hI2⟩:=CX_ jF hw;have kJ:p.dst≠some t:=cA p (by simpa using Array.mem_of_getElem? hp)
        have hv2:(a.put p.dst v).tmps.getD t Go.undef= .pointer (some ⟨b,0,none⟩):=by
         unfold Act.put
         cases hd:p.dst with
         | none=>exact hv
         | some i' =>
          have zO:i'≠t:=fun e=>kJ (by rw[hd,e])
          show (a.tmps.setIfInBounds i' _).getD t Go.undef=_
          rw[aK0]at hv |-;rw[dE0 zO];exact hv
        have gV:∀k,k<ops.size->((lo listed).setIfInBounds lt true).getD k false=true:=by
         intro k hk;rw[<-lo_set _ _ jI qF,lo_get _ _ _ hk]
         by_cases wH:k=lt
         ·subst wH;rw[aK0,cK0 (by omega)];rfl
         ·rw[getD_set_ne false (Ne.symm wH)];exact qI k (by omega) wH
        refine Oper.wpIn_mono (fun a' w' hq=> ?_) (pC (ops:=(ops.push z).push o) qK hdo hpa (fin _ w _ hI2 gV hv2 _) (QQ B Q));obtain⟨fF,jC⟩:=hq
        have yD:lt∈Region.ready .any ((ops.push z).push o) (listed.setIfInBounds (ops.size+1) true):=by
         rw[mem_ready];refine⟨?_,p,by rw[at_lo lt jI];exact hp,fun e he hb=> ?_⟩
         ·rw[getD_set_ne true (by omega),gM lt true (by omega)];exact zH
         ·have:=spec.acy lt p hp e he hb;rw[getD_set_ne false (by omega)];exact qI _ (by omega) (by omega)
        cases fuel with
        | zero =>
         have h1:=cnt1 _ qV g0;have:=(List.countP_eq_length (p:=fun k=>(listed.setIfInBounds (ops.size+1) true).getD k false) (l:=List.range (ops.size+2))).1 (by simpa using h1) lt (dQ0.2 (by omega));simp only[getD_set_ne false (show ops.size+1≠lt by omega),zH]at this;simp at this
        | succ fuel =>
         refine⟨fun hr=>by rw[hr]at yD;simp at yD,fun j hj=> ?_⟩
         have hjl:j=lt:=by
          refine Classical.byContradiction fun hn=> ?_
          rw[mem_ready]at hj;obtain⟨j0,oj,hoj,_⟩:=hj;have nG:j<ops.size+2:=by have:=(aC0.1 hoj).1;omega
          by_cases hje:j=ops.size+1
          ·subst hje;rw[aK0,cK0 (by omega)]at j0;simp at j0
          ·rw[getD_set_ne true (Ne.symm hje),gM j true nG,qI j (by omega) hn]at j0;simp at j0
         subst hjl;unfold wpOpIn;rw[at_lo j jI,hp];simp only;rw[if_pos (by simp[Region.wanted,hpg])];refine Es (fun c hc=>by rw[jF]at hc;cases hc) (fM a' w' jC) ?_;refine done fuel _ _ w' (by simpa using qF) (fun k hk=> ?_) fF
         by_cases zD:k=j
         ·subst zD;rw[aK0,cK0 (by simp;omega)];rfl
         ·rw[getD_set_ne false (Ne.symm zD)]
          by_cases hk3:k=ops.size+1
          ·subst hk3;exact setO
          ·rw[vW k hk3];exact qI k (by omega) zD
 have fV:∀k,(Array.replicate (ops.size+2) false).getD k false=false:=by
  intro k;simp[aK0,dV0]
  split<;>simp
 have hlo:lo (Array.replicate (ops.size+2) false)=Array.replicate ops.size false:=by
  apply Array.ext
  ·simp[lo]
  ·intro j h1 h2;simp only[lo,Array.getElem_ofFn,fV,Array.getElem_replicate]
 rw[hsz3];refine main (ops.size+2) _ a _ ?_ (by simp) (fV _) (.inl ⟨fV _,by rw[hlo];exact i1 B rfl rfl a w loc R⟩)
 have:(List.range (ops.size+2)).countP (fun k=>(Array.replicate (ops.size+2) false).getD k false)=0:=by
  rw[List.countP_eq_zero];intro k _;rw[fV];simp
 omega
theorem NY (ow l1 l2:List Nat) (lt:Nat) {id t ty:Nat} {ops ops3:Array Oper} {z o:Oper} {cs:List DVal} {Q:Exit->DS->Prop} (hm:P.follows .mixedOrders=true) (h3:ops3=(ops.push z).push o) (qW:DJ ow l1 l2 ops=true)
  (hz:z.op= .alloc ty/\z.dst=some t/\z.guard=none/\z.after= #[]) (ho:o.guard=none) (yS:PE lt o (ops.size+1)=true) (gL:lt≠ops.size) (cY:∀p,ops[lt]? =some p->LateP ops3 p o) (zQ:CT_ ops=true)
  (ht:t<B.nt) (qH:ops.toList.all (fun o=>decide (o.dst≠some t))=true) (hsl:Be s.slots t= .any) (kY:tZero P ty=some cs) (qD:cs.all (EO [])=true)
  (h:BZ P B.nt ow l1 l2 ops ops.toList 0 (kF P B (Q .normal) ow t cs o) s):DW P B (.region id ops3 true) Q s:=by
 intro a w loc R;exact wpIn_region_any hm (tQ ow l1 l2 h3 qW hz ho lt yS gL cY zQ ht qH hsl kY qD h R)
def Aw_ (lt:Nat) (ops ops3:Array Oper) (o:Oper):Bool:=match ops[lt]? with
 | none=>true
 | some p=>(match p.op with | .extract (.tmp _) _=>true | _=>false)&&p.guard.isNone&&(match o.op with | .store _ _ _=>true | _=>false)&&o.dst.isNone&&(match p.dst with | some d=> !(o.looksAt ops3).contains d | none=>true)
theorem CP_ {lt:Nat} {ops ops3:Array Oper} {o:Oper} (h:Aw_ lt ops ops3 o=true):∀p,ops[lt]? =some p->LateP ops3 p o:=by
 intro p hp;unfold Aw_ at h;rw[hp]at h;simp only[aN0]at h;obtain⟨⟨⟨⟨h1,h2⟩,h3⟩,h4⟩,h5⟩:=h;refine⟨?_,by simpa using h2,?_,by simpa using h4,fun d hd=> ?_⟩
 ·split at h1
  ·exact⟨_,_,by assumption⟩
  ·cases h1
 ·split at h3
  ·exact⟨_,_,_,by assumption⟩
  ·cases h3
 ·rw[hd]at h5;simpa using h5
def Uj (ow l1 l2:List Nat) (lt:Nat) (ops3:Array Oper) (t ty:Nat):Bool :=
 DJ ow l1 l2 ops3.pop.pop&&CT_ ops3.pop.pop&&ops3.pop.pop.toList.all (fun o=>decide (o.dst≠some t)) &&
 (match ops3.pop.back? with | some z=>(match z.op with | .alloc ty'=>ty'==ty | _=>false)&&z.dst==some t&&z.guard.isNone&&z.after.isEmpty | none=>false) &&
 (match ops3.back? with | some o=>o.guard.isNone&&PE lt o (ops3.pop.pop.size+1)&&Aw_ lt ops3.pop.pop ops3 o&&decide (lt≠ops3.pop.pop.size) | none=>false)
theorem ZH {ow l1 l2:List Nat} {lt:Nat} {ops3:Array Oper} {t ty:Nat} {z o:Oper} (hzb:ops3.pop.back?=some z) (qO:ops3.back?=some o) (hc:Uj ow l1 l2 lt ops3 t ty=true) :
  DJ ow l1 l2 ops3.pop.pop=true/\CT_ ops3.pop.pop=true/\ops3.pop.pop.toList.all (fun o=>decide (o.dst≠some t))=true/\(z.op= .alloc ty/\z.dst=some t/\z.guard=none/\z.after= #[])/\o.guard=none/\PE lt o (ops3.pop.pop.size+1)=true/\(∀p,ops3.pop.pop[lt]? =some p->LateP ops3 p o)/\lt≠ops3.pop.pop.size:=by
 unfold Uj at hc;rw[hzb,qO]at hc;simp only[aN0]at hc;obtain⟨⟨⟨⟨c1,c2⟩,c3⟩,c4⟩,c5⟩:=hc;obtain⟨⟨⟨c6,c7⟩,c8⟩,c9⟩:=c4;refine⟨c1,c2,c3,⟨?_,by simpa using c7,by simpa using c8,by simpa using c9⟩,by simpa using c5.1.1.1,c5.1.1.2,CP_ c5.1.2,by simpa using c5.2⟩;cases hz:z.op<;>rw[hz]at c6<;>simp at c6;rw[c6]
theorem oJ (ow l1 l2:List Nat) (t ty:Nat) (cs:List DVal) {id:Nat} {ops3:Array Oper} {z o:Oper} {Q:Exit->DS->Prop} (hm:P.follows .mixedOrders=true) (hzb:ops3.pop.back?=some z) (qO:ops3.back?=some o) (h3:ops3=(ops3.pop.pop.push z).push o) (hc:Uj ow l1 l2 1000 ops3 t ty=true)
  (ht:t<B.nt) (hsl:Be s.slots t= .any) (kY:tZero P ty=some cs) (qD:cs.all (EO [])=true)
  (h:BZ P B.nt ow l1 l2 ops3.pop.pop ops3.pop.pop.toList 0 (kF P B (Q .normal) ow t cs o) s):DW P B (.region id ops3 true) Q s:=by
 obtain⟨c1,c2,c3,c4,c5,c6,c7,c8⟩:=ZH hzb qO hc;exact NY ow l1 l2 1000 (z:=z) (o:=o) hm h3 c1 c4 c5 c6 c8 c7 c2 ht c3 hsl kY qD h
end
theorem UQ {P:Program} {B:Base} {Q:Exit->DS->Prop} {s:DS} {x:Code} (bid c k bs:Nat) {rb:Nat} {cs:List DVal} (h:Aj s.own bid=some ⟨bid,rb,.box cs⟩) (hc:cs.getD c .any= .nilsl)
  (hw:DW P B x Q ⟨s.slots,upE s.own bid rb (.box (cs.set c (.sl k bs [])))⟩):DW P B x Q s:=by
 refine KK (fun a w loc R=> ?_) hw;refine R.reBox h rfl (by simp) fun arr hr=>TE cs arr 0 c (fun v hv=> ?_) hr
 rw[hc]at hv;simp only[rd]at hv |-;rw[hv];exact⟨none,0,by simp,by simp,by simp,by simp,.inl ⟨by simp,fun _=>rfl⟩⟩
end Go.Dm
end
