/- Parts of a proof, laid together: EnFl. -/
import Derived.Test.YtiojapdolljocaaGreatqBw14
set_option linter.unusedSimpArgs false
set_option maxHeartbeats 8000000
set_option linter.unusedVariables false
set_option linter.unusedSectionVars false
section
namespace Go.Dm
variable [DMode]
theorem pN {F:Fence} {n:Nat} {P:Program} {Q:Exit->Act->World->Prop} {o:Oper} {a:Act} {w:World} {K:Act->World->Prop} {t:Nat} {v0:Value} (ht:o.dst≠some t) (h0:a.tmps.getD t Go.undef=v0)
  (hh:o.wpIn F n P a w K Q):o.wpIn F n P a w (fun a' w'=>K a' w'/\a'.tmps.getD t Go.undef=v0) Q:=by
 have key:∀(a:Act) v,a.tmps.getD t Go.undef=v0->(a.put o.dst v).tmps.getD t Go.undef=v0:=by
  intro a v h0;unfold Act.put
  cases hd:o.dst with
  | none=>exact h0
  | some i =>
   have hi:i≠t:=fun e=>ht (by rw[hd,e])
   show (a.tmps.setIfInBounds i v).getD t Go.undef=v0
   rw[aN0]at h0 |-;rw[dA0 hi];exact h0
 unfold Oper.wpIn at *;refine⟨hh.1,?_⟩;have hh:=hh.2
 generalize (o.semAt F.round a.eval).run P w=r at *
 cases r with
 | ok x w' =>
  cases x<;>simp only[Oper.uponIn]at hh |- <;>
   first
    | exact⟨hh,key _ _ h0⟩
    | exact⟨hh,key { a with defers:=_ } _ h0⟩
    | exact⟨hh.1,CallsIn.mono hh.2 (fun e w'' he=>by cases e<;>first | exact⟨he,key _ _ h0⟩ | exact he)⟩
    | exact⟨hh.1,RowsIn.mono hh.2 (fun _ _ he=>⟨he,key _ _ h0⟩)⟩
    | exact⟨hh.1,RoundIn.mono hh.2 (fun e w'' he=>by cases e<;>first | exact⟨he,key _ _ h0⟩ | exact he)⟩
 | halt x w'=>cases x<;>simp only[Oper.uponIn]at hh |- <;>exact hh
section
variable {P : Program} {B : Base} {s : DS}
def EM_ (B B':Base) (t b:Nat) (cs:List DVal):Prop :=
 B'.nt=B.nt/\B'.N=B.N/\B'.ro=B.ro/\∀s' a' w' loc',Rel B' s' a' w' loc'->a'.tmps.getD t Go.undef= .pointer (some ⟨b,0,none⟩) ->
  ∃loc'',Rel B ⟨(t,.bx t (Cb B s') 0)::s'.slots,upE s'.own t (Cb B s') (.box cs)⟩ a' w' loc''
theorem Rel.hide {X:DS} {a:Act} {w:World} {loc:Nat->Loc} {t ty:Nat} {cs:List DVal} {us:List Value} (R:Rel B X a w loc) (ht:t<B.nt) (hX:Bg X.slots t= .any)
  (vO:∀cur M h,Aw cur M h cs us) (vY:AJ cs=0) (qI:∀u∈us,u.oneCell'=true) :
  ∃B',EM_ B B' t w.heap.size cs/\Rel B' X (a.put (some t) (.pointer (some ⟨w.heap.size,0,none⟩))) (w.alloc (.cells us.toArray ty)) loc:=by
 have dO:∀b∈Aa X.own loc++B.M0,b<w.heap.size:=R.st.lt;have hsz1:(w.alloc (.cells us.toArray ty)).heap.size=w.heap.size+1:=by show (w.heap.push _).size=_;simp
 have zT:∀b,b<w.heap.size->(w.alloc (.cells us.toArray ty)).heap[b]? =w.heap[b]? :=fun b hb=>by
  show (w.heap.push _)[b]? =_
  rw[bP0,if_neg (by omega)]
 have hU:Upd (Aa X.own loc) w (w.alloc (.cells us.toArray ty)):=Upd.alloc _ _ _
 let B':Base:=⟨X.own,loc,w.heap.size::B.M0,B.N,w.alloc (.cells us.toArray ty),B.nt,B.ro,B.hN,B.nd,by have h1:=B.hnd;have h2:=R.upd.size;omega⟩
 have W:Weak (Ab X.own loc) (Ab X.own loc) (Aa X.own loc++B.M0) (Aa X.own loc++w.heap.size::B.M0) w.heap (w.alloc (.cells us.toArray ty)).heap (Cb B X):=by
  refine⟨fun _ _ _ _ h=>h,fun b o _ _ ho=> ?_,fun b o hb _ ho hm=> ?_⟩
  ·have qV:=(aD0.1 ho).1;rw[zT b qV];exact ho
  ·have qV:=(aD0.1 ho).1
   rcases aC0.1 hm with h | h
   ·exact hb (aH0 _ h)
   ·rcases aL0.1 h with h | h
    ·omega
    ·exact hb (aJ0 _ h)
 have mN:∀i,mx (Bg X.slots i)<=Cb B X:=fun i=>Nat.le_trans (OU _ i) (by unfold Cb;omega)
 refine⟨B',⟨rfl,rfl,rfl,?_⟩,?_⟩
 ·intro s' a' w' loc' R' hv;have hlimE:Cb B' s'=Cb B s':=rfl;have hbM:w.heap.size∉B.M0:=fun h=>by have:=dO _ (aJ0 _ h);omega
  have hbH:w.heap.size∉Aa X.own loc:=fun h=>by have:=dO _ (aH0 _ h);omega
  have hbS:w.heap.size∉Aa s'.own loc':=fun h=>R'.st.ap _ h aK0
  have vZ:w'.heap[w.heap.size]? =some (.cells us.toArray ty (0,0)):=by
   rw[R'.upd.blk w.heap.size (by show _<(w.alloc _).heap.size;omega) hbH];exact heap_alloc_new w _
  have yR:∀e∈upE s'.own t (Cb B s') (.box cs),(e=⟨t,Cb B s',.box cs⟩)\/(e∈s'.own/\e.id≠t):=fun e he=>by
   rcases aL0.1 he with h | h
   ·exact .inl h
   ·exact .inr (Bw.1 h)
  have qF:∀b∈Aa (upE s'.own t (Cb B s') (.box cs)) (CH loc' t ⟨[w.heap.size],Go.undef⟩),b=w.heap.size\/b∈Aa s'.own loc':=by
   intro b hb;obtain⟨e,he,h1⟩:=bW0.1 hb
   rcases yR e he with rfl | ⟨h2,h3⟩
   ·simp only[CH,if_true,aG0]at h1;exact .inl h1
   ·simp only[CH,if_neg h3]at h1;exact .inr (AY h2 h1)
  have W2:Weak (Ab s'.own loc') (Ab (upE s'.own t (Cb B s') (.box cs)) (CH loc' t ⟨[w.heap.size],Go.undef⟩)) (Aa s'.own loc'++w.heap.size::B.M0) (Aa (upE s'.own t (Cb B s') (.box cs)) (CH loc' t ⟨[w.heap.size],Go.undef⟩)++B.M0) w'.heap w'.heap (Cb B s'):=by
   refine⟨fun id r l hr hl=> ?_,fun b o _ _ ho=>ho,fun b o hb _ _ hm=> ?_⟩
   ·obtain⟨e,he,rfl,rfl,rfl⟩:=Bn hl
    rcases yR e he with rfl | ⟨h2,h3⟩
    ·simp at hr
    ·simp only[CH,if_neg h3];exact AG R'.st.nd h2
   ·rcases aC0.1 hm with h | h
    ·rcases qF b h with rfl | h
     ·exact hb (aJ0 _ aK0)
     ·exact hb (aH0 _ h)
    ·exact hb (aJ0 _ (aI0 _ h))
  refine⟨CH loc' t ⟨[w.heap.size],Go.undef⟩,⟨?_,?_,?_,?_,?_⟩,?_,?_,?_,?_,R'.nt,?_⟩
  ·simp only[upE,List.map_cons,cG0];refine⟨fun hm=> ?_,DY R'.st.nd⟩;obtain⟨e,he,h1⟩:=aQ0.1 hm;exact(Bw.1 he).2 h1
  ·unfold upE;rw[DN,Qt,bS0];simp only[CH,if_true];refine⟨by simp,DM R'.st.bl _ (DY R'.st.nd) (fun e he=>(Bw.1 he).1),?_⟩;intro b hb b' qL gS;subst gS;obtain⟨e,he,qB,h1⟩:=Pb qL;simp only[aG0]at hb;subst hb;exact hbS (AY he h1)
  ·intro b hb hm
   rcases qF b hb with rfl | h
   ·exact hbM hm
   ·exact R'.st.ap b h (aI0 _ hm)
  ·intro b hb
   rcases aC0.1 hb with h | h
   ·rcases qF b h with rfl | h
    ·exact(aD0.1 vZ).1
    ·exact R'.st.lt b (aH0 _ h)
   ·exact R'.st.lt b (aJ0 _ (aI0 _ h))
  ·intro e he
   rcases yR e he with rfl | ⟨h2,h3⟩
   ·refine⟨w.heap.size,us.toArray,ty,by simp[CH],vZ,by have:=Aq _ _ (vO (fun _ _=>none) [] #[]);simpa using this,?_⟩;have:=GD cs us [] [] (vO (Ab (upE s'.own t (Cb B s') (.box cs)) (CH loc' t ⟨[w.heap.size],Go.undef⟩)) (Aa (upE s'.own t (Cb B s') (.box cs)) (CH loc' t ⟨[w.heap.size],Go.undef⟩)++B.M0) w'.heap) qI;simpa using this
   ·have hk:=R'.st.ok e h2;have hl:CH loc' t ⟨[w.heap.size],Go.undef⟩ e.id=loc' e.id:=by simp only[CH,if_neg h3]
    rw[hl];refine Bd W2 ?_ (fun _ _ _ ho=>ho) hk;have:=(Be h2).2;unfold Cb;omega
  ·exact(R.upd.trans (Upd.alloc [] w _) (by simp)).trans R'.upd (fun x hx=>R.new x hx)
  ·intro b hb
   rcases qF b hb with rfl | h
   ·exact .inr R.upd.size
   ·rcases R'.new b h with h | h
    ·exact R.new b h
    ·right
     have h1:w.heap.size+1<=b:=by rw[<-hsz1];exact h
     have:=R.upd.size;omega
  ·intro e he qV
   rcases yR e he with rfl | ⟨h2,h3⟩
   ·simp only at qV;unfold Cb at qV;omega
   ·simp only[CH,if_neg h3];obtain⟨e2,k1,k2,k3,k4⟩:=Bn (R'.ver e h2 qV);have:=R.ver e2 k1 (by omega);rw[k2,k3]at this;rw[this,k4]
  ·intro i;simp only[Bg]
   split
   ·rename_i hi;subst hi;simp only[rd];intro l hl;rw[Ds]at hl;simp only[aA0]at hl;subst hl;exact⟨_,rfl,hv⟩
   ·exact Ch W2 _ _ (Nat.le_trans (OU _ i) (by unfold Cb;omega)) (R'.sl i)
  ·obtain⟨rs,g1,g2,g3,g4⟩:=R'.df;refine⟨rs,g1,g2,fun r hr=> ?_,g4⟩;obtain⟨k1,k2,k3⟩:=g3 r hr;refine⟨k1,k2,fun hm=>k3 ?_⟩
   rcases aC0.1 hm with h | h
   ·rcases qF r h with rfl | h
    ·exact aJ0 _ aK0
    ·exact aH0 _ h
   ·exact aJ0 _ (aI0 _ h)
 ·refine⟨⟨R.st.nd,R.st.bl,?_,?_,?_⟩,Upd.refl _ _,fun b hb=> .inl hb,fun e he _=>AG R.st.nd he,?_,by simpa[Act.put]using R.nt,?_⟩
  ·intro b hb hm
   rcases aL0.1 hm with h | h
   ·have:=dO b (aH0 _ hb);omega
   ·exact R.st.ap b hb h
  ·intro b hb;rw[hsz1]
   rcases aC0.1 hb with h | h
   ·have:=dO b (aH0 _ h);omega
   ·rcases aL0.1 h with h | h
    ·omega
    ·have:=dO b (aJ0 _ h);omega
  ·intro e he;have:=(Be he).2;exact Bd W (by unfold Cb;omega) (fun b o _ ho=>by rw[zT b (aD0.1 ho).1];exact ho) (R.st.ok e he)
  ·intro i
   by_cases hi:i=t
   ·subst hi;rw[hX];simp only[rd]
   ·have h1:(a.put (some t) (.pointer (some ⟨w.heap.size,0,none⟩))).tmps.getD i Go.undef=a.tmps.getD i Go.undef:=by
     show (a.tmps.setIfInBounds t _).getD i Go.undef=_
     rw[aN0,aN0,dA0 (Ne.symm hi)]
    rw[h1];exact Ch W _ _ (mN i) (R.sl i)
  ·refine R.df.keep (B:=B) (M':=Aa X.own loc++w.heap.size::B.M0) rfl hU (fun x hx=>aH0 _ hx) fun b hb=> ?_
   rcases aC0.1 hb with h | h
   ·exact .inl (aH0 _ h)
   ·rcases aL0.1 h with h | h
    ·exact .inr (by omega)
    ·exact .inl (aJ0 _ h)
def Qo (lt:Nat) (o:Oper) (n:Nat):Bool:=((List.range n).all fun k=>k==lt||o.after.toList.any fun e=>Region.binds .any e&&e.on==k)&&o.after.toList.all fun e=>decide (e.on<n)
def De_ (ops:Array Oper):Bool:=ops.toList.all fun o=>match o.guard with | some (j,_)=>decide (j<ops.size) | none=>true
theorem Zy {a:Act} {w:World} {i t:Nat} {z:List DVal} {type:TypeId} {Gg:String} {after:Array Edge} {guard:Option (Nat×Bool)} (hz:tZero P t=some z) (hp:z.all (Fe [])=true) :
  ∃us:List Value,(∀cur M h,Aw cur M h z us)/\AJ z=0/\(∀u∈us,u.oneCell'=true)/\(execOp a.eval ⟨some i,.alloc t,type,Gg,after,guard⟩).run P w= .ok (.value (.pointer (some ⟨w.heap.size,0,none⟩))) (w.alloc (.cells us.toArray t)):=by
 obtain⟨zv,yX,rfl⟩:=FK (w:=w) hz
 have vY:AJ (zv.cells.toList.map BZ)=0:=by
  have h1:∀v,mx (BZ v)=0:=by
   intro v;unfold BZ
   split<;>(try split)<;>simp[mx]
  generalize zv.cells.toList=l
  induction l with
  | nil=>simp[AJ]
  | cons v l ih =>
   show max (mx (BZ v)) (AJ (l.map BZ))=0
   rw[h1,ih];rfl
 refine⟨zv.cells.toList,fun cur M h=>Br _,vY,?_,?_⟩
 ·exact FO (s:=⟨[],[]⟩) (loc:=fun _=>⟨[],Go.undef⟩) (M0:=[]) (w:=w) ⟨by simp,by simp[Aa],by simp[Aa],by simp[Aa],by simp⟩ (zv.cells.toList.map BZ) zv.cells.toList (aX0.2 fun d hd=>PY (aX0.1 hp d hd)) (Br _)
 ·simp[execOp,Instr.alloc,yX,newVar,newRow]
def kF (P:Program) (B:Base) (Q:DS->Prop) (ow:List Nat) (t:Nat) (cs:List DVal) (o:Oper):Cont :=
 ⟨fun s1=>∀r,Ce P B.nt ow [] [] #[o] [o] 0 ⟨Q⟩ ⟨(t,.bx t r 0)::s1.slots,upE s1.own t r (.box cs)⟩⟩
theorem BF (P:Program) (B:Base) (Q:DS->Prop) (ow:List Nat) (t:Nat) (cs:List DVal) (o:Oper) (s1:DS):(kF P B Q ow t cs o).f s1=∀r,Ce P B.nt ow [] [] #[o] [o] 0 ⟨Q⟩ ⟨(t,.bx t r 0)::s1.slots,upE s1.own t r (.box cs)⟩:=id rfl
structure LateP (ops3:Array Oper) (p o:Oper):Prop where
 ex:∃u k,p.op= .extract (.tmp u) k
 g:p.guard=none
 st:∃ty x y,o.op= .store ty x y
 nd:o.dst=none
 ap:∀d,p.dst=some d->d∉o.looksAt ops3
theorem Di_ {p:Oper} {u k:Nat} (hp:p.op= .extract (.tmp u) k) {F:Fence} {n:Nat} {a:Act} {w:World} {C:Act->World->Prop} (h:p.wpIn F n P a w C fun _ _ _=>False) :
  ∃v,(∀(a':Act) (w':World),a'.tmps=a.tmps->(execOp a'.eval p).run P w'= .ok (.value v) w')/\C (a.put p.dst v) w:=by
 have hr:∀(a':Act) (w':World),a'.tmps=a.tmps->execOp a'.eval p=(do pure (.value (<-Instr.extract (a.tmps.getD u Go.undef) k))):=by
  intro a' w' ha;unfold execOp;rw[hp];simp only[Act.eval,ha]
 unfold Oper.wpIn at h;have h:=h.2;rw[Oper.semAt_eq _ _ _ (fun c hc=>by rw[hp]at hc;cases hc),hr a w rfl]at h;unfold Instr.extract at h hr
 split at h
 ·rename_i vs
  split at h
  ·rename_i v hv;refine⟨v,fun a' w' ha=> ?_,?_⟩
   ·rw[hr a' w' ha];simp only[*];rfl
   ·exact h
  ·exact h.elim
 ·exact h.elim
theorem rC {ro:Option Nat} {ops:Array Oper} {o:Oper} {a:Act} {d:Option Tmp} {u:Value} {w:World} {K:Act->World->Prop} (qR:∃ty x y,o.op= .store ty x y) (hdo:o.dst=none) (h1:∀e,d=some e->e∉o.looksAt ops)
  (h:o.wpIn (wd ro) 0 P (a.put d u) w K fun _ _ _=>False) (Q:Exit->Act->World->Prop):o.wpIn (wd ro) 0 P a w (fun a' w'=>K (a'.put d u) w'/\a'.tmps=a.tmps) Q:=by
 obtain⟨ty,x,y,wL⟩:=qR;unfold Oper.wpIn at h |-;rw[about_put o w a d u h1,Oper.semAt_eq _ _ _ (fun c hc=>by rw[wL]at hc;cases hc),execOp_put o (fun cs b hc=>by rw[wL]at hc;cases hc) a d u h1]at h;rw[Oper.semAt_eq _ _ _ (fun c hc=>by rw[wL]at hc;cases hc)];refine⟨h.1,?_⟩
 replace h:=h.2
 generalize (execOp a.eval o).run P w=r at *
 cases r with
 | ok x w' =>
  cases x<;>simp only[Oper.uponIn,hdo]at h |-
  case value v=>exact⟨h,rfl⟩
  case skip=>exact⟨h,rfl⟩
  case defer e =>
   have e1:=Act.put_defers a d u e;refine⟨?_,rfl⟩;have h:K ({ a.put d u with defers:=e::(a.put d u).defers }:Act) w':=h;rw[e1]at h;exact h
  case enter f args =>
   refine⟨h.1,CallsIn.mono h.2 fun e w'' he=> ?_⟩
   cases e with
   | returned v=>exact⟨he,rfl⟩
   | panicked c=>exact he.elim
   | outgrown=>obtain⟨_,_,he⟩:=he;exact he.elim
  case row row args=>exact⟨h.1,RowsIn.mono h.2 fun v w'' he=>⟨he,rfl⟩⟩
  case round l f tmps assign body =>
   refine⟨h.1,RoundIn.mono h.2 fun e w'' he=> ?_⟩
   cases e with
   | returned v=>exact⟨he,rfl⟩
   | panicked c=>exact he.elim
   | outgrown=>obtain⟨_,_,he⟩:=he;exact he.elim
 | halt x w'=>cases x<;>simp only[Oper.uponIn]at h<;>exact h.elim
theorem Ef_ {ow:List Nat} {o:Oper} {K:Cont} {a:Act} {w:World} {loc:Nat->Loc} {next:Act->World->Prop} {Q:Exit->Act->World->Prop} (hg:o.guard=none) (h:Ce P B.nt ow [] [] #[o] [o] 0 K s) (R:Rel B s a w loc)
  (hn:∀s' a' w' loc',K.f s'->Rel B s' a' w' loc'->next a' w'):o.wpIn (wd B.ro) 0 P a w next Q:=by
 have ext:Lk (HL [] [] 0 s.own) s.own:=by
  unfold HL;simp;exact fun _ _ h=>h
 have neu:∀(e:Operand->DVal) (d d':DVal),(∀x∈o.op.operands,Bb s loc B.M0 w (e x) (a.eval x))->(∀(w':World) (v:Value),rd (Ab s.own loc) (Aa s.own loc++B.M0) w'.heap d' v->rd (Ab s.own loc) (Aa s.own loc++B.M0) w'.heap d v) ->
   Cc B.nt o.dst=true->Fj P o (HL [] [] 0 s.own) e d'->K.f ⟨Bv s.slots o.dst d,s.own⟩->o.wpIn (wd B.ro) 0 P a w next Q:=by
  intro e d d' he zF hd h1 hk
  rcases h1.ext ext (fun x _=>rfl)with ⟨c,g,args,wL,yQ,wC⟩ | ⟨wC,hq⟩
  ·exact UZ (d':=d) (K:=fun s'=>s'=⟨Bv s.slots o.dst d,s.own⟩) R hd wL he yQ wC (fun _=>rfl) zF (fun s' a' w' loc' yM R'=>by subst yM;exact hn _ a' w' loc' hk R')
  ·exact ZV (d:=d) (K:=fun s'=>s'=⟨Bv s.slots o.dst d,s.own⟩) R hd he wC rfl (fun w' v h=>zF w' v (by rw[hq];exact h)) (fun s' a' w' loc' yM R'=>by subst yM;exact hn _ a' w' loc' hk R')
 simp only[Ce]at h;rw[hg]at h;simp only at h
 split at h
 ·obtain⟨hd,_,h⟩:=h;obtain⟨d,own',h1,h2⟩:=Jo h (Cb B s);exact XB (R:=R) (Nat.le_refl _) hd (fun x _=>R.ev x) (fun x _=>NO _ x) h1 fun a' w' loc' R'=>hn _ a' w' loc' h2 R'
 ·obtain⟨hd,h⟩:=h
  split at h
  ·rename_i c wL
   split at h
   ·rename_i g args hc;obtain⟨d,h1,h2⟩:=JO h;exact neu _ d d (fun x _=>R.ev x) (fun _ _ h=>h) hd (.inl ⟨c,g,args,wL,hc,h1⟩) h2
   ·exact neu _ _ _ (fun x _=>R.ev x) (fun _ _ h=>h) hd (.inr ⟨h.1,rfl⟩) h.2
  ·exact neu _ _ _ (fun x _=>R.ev x) (fun _ _ h=>h) hd (.inr ⟨h.1,rfl⟩) h.2
theorem uM (ow l1 l2:List Nat) {t ty:Nat} {ops ops3:Array Oper} {z o:Oper} {cs:List DVal} {Q:Exit->DS->Prop} (h3:ops3=(ops.push z).push o) (qO:DT ow l1 l2 ops=true)
  (hz:z.op= .alloc ty/\z.dst=some t/\z.guard=none/\z.after= #[]) (ho:o.guard=none) (lt:Nat) (kU:Qo lt o (ops.size+1)=true) (kI:lt≠ops.size) (cZ:∀p,ops[lt]? =some p->LateP ops3 p o) (yV:De_ ops=true)
  (ht:t<B.nt) (qC:ops.toList.all (fun o=>decide (o.dst≠some t))=true) (hsl:Bg s.slots t= .any) (kN:tZero P ty=some cs) (qI:cs.all (Fe [])=true)
  (h:Ce P B.nt ow l1 l2 ops ops.toList 0 (kF P B (Q .normal) ow t cs o) s) {a:Act} {w:World} {loc:Nat->Loc} (R:Rel B s a w loc):wpAnyIn (wd B.ro) 0 P .any ops3 (QQ B Q) ops3.size (Array.replicate ops3.size false) a w.drew:=by
 subst h3;obtain⟨Inv,i1,i2,i3,i4⟩:=PI (N:=B.N) ow l1 l2 qO R.st.nd h;have cB:∀o∈ops.toList,o.dst≠some t:=fun o ho=>by simpa using aX0.1 qC o ho
 have spec:=NS (by unfold DT at qO;simp only[aM0]at qO;exact qO.1);have hsz3:((ops.push z).push o).size=ops.size+2:=by simp
 have at_lo:∀k,k<ops.size->((ops.push z).push o)[k]? =ops[k]? :=fun k hk=>by
  rw[bP0,if_neg (by simp;omega),bP0,if_neg (by omega)]
 have at_z:((ops.push z).push o)[ops.size]? =some z:=by
  rw[bP0,if_neg (by simp),bP0,if_pos rfl]
 have at_o:((ops.push z).push o)[ops.size+1]? =some o:=by
  rw[bP0,if_pos (by simp)]
 have spec2:(∀k,k<ops.size+1->k≠lt->∃e∈o.after,Region.binds .any e=true/\e.on=k)/\∀e∈o.after,e.on<ops.size+1:=by
  unfold Qo at kU;simp only[aM0,aX0,dP0,cF0,cO0,beq_iff_eq,decide_eq_true_eq]at kU;exact⟨fun k hk vJ=>by obtain⟨e,he,h1,h2⟩:=(kU.1 k hk).resolve_left vJ;exact⟨e,by simpa using he,h1,h2⟩,fun e he=>kU.2 e (by simpa using he)⟩
 let lo:Array Bool->Array Bool:=fun l=>Array.ofFn (n:=ops.size) fun i=>l.getD i.1 false
 have lo_get:∀(l:Array Bool) k d,k<ops.size->(lo l).getD k d=l.getD k false:=by
  intro l k d hk;rw[aN0];simp[lo,hk]
 have lo_set:∀(l:Array Bool) i,i<ops.size->l.size=ops.size+2->lo (l.setIfInBounds i true)=(lo l).setIfInBounds i true:=by
  intro l i hi hl
  apply Array.ext
  ·simp[lo]
  ·intro j h1 h2;rw[Array.getElem_setIfInBounds (by simpa using h2)];simp only[lo,Array.getElem_ofFn]
   split
   ·rename_i zO;subst zO;rw[aN0,cI0 (by omega)];rfl
   ·rename_i zO;rw[aN0,aN0,dA0 zO]
 have lo_set2:∀(l:Array Bool) i,ops.size<=i->lo (l.setIfInBounds i true)=lo l:=by
  intro l i hi
  apply Array.ext
  ·simp[lo]
  ·intro j h1 h2;simp only[lo,Array.getElem_ofFn];have hj:j<ops.size:=by simpa[lo]using h2
   rw[aN0,aN0,dA0 (by omega)]
 have done:∀(fuel:Nat) (listed:Array Bool) (a:Act) (w:World),listed.size=ops.size+2->(∀i,i<ops.size+2->listed.getD i false=true)->QQ B Q .normal a w->wpAnyIn (wd B.ro) 0 P .any ((ops.push z).push o) (QQ B Q) fuel listed a w:=by
  intro fuel listed a w qD qP hq
  have hr:Region.ready .any ((ops.push z).push o) listed=[]:=by
   rw[List.eq_nil_iff_forall_not_mem];intro i hi;rw[mem_ready]at hi;obtain⟨g0,o',kE,_⟩:=hi;have qV:i<ops.size+2:=by have:=(aD0.1 kE).1;omega
   have g1:=qP i qV;have zS:i<listed.size:=by omega
   simp only[aN0,bX0 zS,bV0]at g0 g1;rw[g0]at g1;simp at g1
  cases fuel with
  | zero=>exact⟨hr,hq⟩
  | succ fuel=>exact⟨fun _=>hq,fun i hi=>by rw[hr]at hi;simp at hi⟩
 have main:∀(fuel:Nat) (listed:Array Bool) (a:Act) (w:World),(List.range (ops.size+2)).countP (fun k=>listed.getD k false)+fuel=ops.size+2->listed.size=ops.size+2->listed.getD (ops.size+1) false=false ->
   ((listed.getD ops.size false=false/\Inv B (lo listed) a w)\/(listed.getD ops.size false=true/\∃B' b,EM_ B B' t b cs/\a.tmps.getD t Go.undef= .pointer (some ⟨b,0,none⟩)/\Inv B' (lo listed) a w)) ->
   wpAnyIn (wd B.ro) 0 P .any ((ops.push z).push o) (QQ B Q) fuel listed a w:=by
  intro fuel
  induction fuel with
  | zero =>
   intro listed a w cI qD cJ _;have:=(List.countP_eq_length (p:=fun k=>listed.getD k false) (l:=List.range (ops.size+2))).1 (by simpa using cI) (ops.size+1) (dP0.2 (by omega));simp only[cJ]at this;simp at this
  | succ fuel ih =>
   intro listed a w cI qD cJ hJ
   have gI:∀k d,k<ops.size+2->listed.getD k d=listed.getD k false:=by
    intro k d hk;have:k<listed.size:=by omega
    simp[aN0,bX0 this]
   have cnt1:∀i,i<ops.size+2->listed.getD i false=false->(List.range (ops.size+2)).countP (fun k=>(listed.setIfInBounds i true).getD k false)+fuel=ops.size+2:=by
    intro i hi hSi;have zS:i<listed.size:=by omega
    have hS':(fun k=>(listed.setIfInBounds i true).getD k false)=fun k=>if k=i then true else listed.getD k false:=by
     funext k
     by_cases hk:k=i
     ·subst hk;simp[zS]
     ·rw[if_neg hk,getD_set_ne false (Ne.symm hk)]
    rw[hS',UY _ i hSi _ hi];omega
   have low:∀i,i<ops.size->(i∈Region.ready .any ops (lo listed)↔i∈Region.ready .any ((ops.push z).push o) listed):=by
    intro i hi;rw[mem_ready,mem_ready,at_lo i hi,lo_get _ _ _ hi,gI i true (by omega)];refine and_congr_right fun _=>exists_congr fun o'=>and_congr_right fun kE=>forall_congr' fun e=>forall_congr' fun he=>forall_congr' fun hb=> ?_
    have:=spec.acy i o' kE e he hb;rw[lo_get _ _ _ (by omega)]
   obtain⟨B1,hB1,hI1⟩:∃B1,(B1.nt=B.nt/\B1.N=B.N/\B1.ro=B.ro)/\Inv B1 (lo listed) a w:=by
    rcases hJ with ⟨_,hI⟩ | ⟨_,B',b,hB,_,hI⟩
    ·exact⟨B,⟨rfl,rfl,rfl⟩,hI⟩
    ·exact⟨B',⟨hB.1,hB.2.1,hB.2.2.1⟩,hI⟩
   obtain⟨hsl1,h5,h6⟩:=i2 _ _ _ _ hI1;refine⟨fun hr=> ?_,fun i hi=> ?_⟩
   ·exfalso
    have h7:Region.ready .any ops (lo listed)=[]:=by
     rw[List.eq_nil_iff_forall_not_mem];intro i hi
     have qV:i<ops.size:=by
      rw[mem_ready]at hi;obtain⟨_,o',kE,_⟩:=hi;exact(aD0.1 kE).1
     have:=(low i qV).1 hi;rw[hr]at this;simp at this
    have h8:=h5 h7
    rcases hJ with ⟨vS,_⟩ | ⟨vS,_⟩
    ·have:ops.size∈Region.ready .any ((ops.push z).push o) listed:=by
      rw[mem_ready,gI _ true (by omega)];exact⟨vS,z,at_z,fun e he=>by rw[hz.2.2.2]at he;simp at he⟩
     rw[hr]at this;simp at this
    ·have:ops.size+1∈Region.ready .any ((ops.push z).push o) listed:=by
      rw[mem_ready,gI _ true (by omega)];refine⟨cJ,o,at_o,fun e he _=> ?_⟩;have:=spec2.2 e he
      by_cases vU:e.on=ops.size
      ·rw[vU];exact vS
      ·rw[<-lo_get listed e.on false (by omega)];exact h8 e.on (by omega)
     rw[hr]at this;simp at this
   ·have hi0:=hi;rw[mem_ready]at hi0;obtain⟨g0,o',kE,wU⟩:=hi0;have qV:i<ops.size+2:=by have:=(aD0.1 kE).1;omega
    rw[gI i true qV]at g0;have vN:∀k,k≠i->(listed.setIfInBounds i true).getD k false=listed.getD k false:=fun k hk=>getD_set_ne false (Ne.symm hk)
    by_cases fS:i<ops.size
    ·have hio:ops[i]? =some o':=by rw[<-at_lo i fS];exact kE
     have hdn:o'.dst≠some t:=cB o' (by simpa using Array.mem_of_getElem? hio)
     have hy:Region.wanted o' (yielded ((ops.push z).push o) a.tmps)=Region.wanted o' (yielded ops a.tmps):=by
      unfold Region.wanted
      cases hg:o'.guard with
      | none=>rfl
      | some jw =>
       obtain⟨j,want⟩:=jw
       have hj:j<ops.size:=by
        have h9:=aX0.1 yV o' (by simpa using Array.mem_of_getElem? hio);rw[hg]at h9;simpa using h9
       simp only[yielded,at_lo j hj]
     have conv:∀{K:Act->World->Prop},wpOpIn (wd B.ro) 0 P ops (QQ B Q) i K a w->wpOpIn (wd B.ro) 0 P ((ops.push z).push o) (QQ B Q) i K a w:=by
      intro K hh;unfold wpOpIn at hh |-;rw[hio]at hh;rw[kE];simp only at hh |-;rw[hy];exact hh
     have fJ:(listed.setIfInBounds i true).size=ops.size+2:=by simpa using qD
     have wY:(listed.setIfInBounds i true).getD (ops.size+1) false=false:=by rw[vN _ (by omega)];exact cJ
     rcases hJ with ⟨vS,hI⟩ | ⟨vS,B',b,hB,hv,hI⟩
     ·refine conv (i3 B (lo listed) a w i _ _ rfl rfl hI ((low i fS).2 hi) fun a' w' hI'=> ?_)
      exact ih _ a' w' (cnt1 i qV g0) fJ wY (.inl ⟨by rw[vN _ (by omega)];exact vS,by rw[lo_set _ i fS qD];exact hI'⟩)
     ·have hw:=i3 B' (lo listed) a w i (Inv B' ((lo listed).setIfInBounds i true)) (QQ B Q) hB.1 hB.2.1 hI ((low i fS).2 hi) fun _ _ h=>h
      rw[hB.2.2.1]at hw;refine conv ?_
      unfold wpOpIn at hw |-;rw[hio]at hw |-;simp only at hw |-
      have nx:∀a' w',Inv B' ((lo listed).setIfInBounds i true) a' w'/\a'.tmps.getD t Go.undef= .pointer (some ⟨b,0,none⟩)->wpAnyIn (wd B.ro) 0 P .any ((ops.push z).push o) (QQ B Q) fuel (listed.setIfInBounds i true) a' w':=by
       rintro a' w' ⟨hI',fX⟩;exact ih _ a' w' (cnt1 i qV g0) fJ wY (.inr ⟨by rw[vN _ (by omega)];exact vS,B',b,hB,fX,by rw[lo_set _ i fS qD];exact hI'⟩)
      split
      ·rename_i wK;rw[if_pos wK]at hw;exact Oper.wpIn_mono nx (pN hdn hv hw)
      ·rename_i wK;rw[if_neg wK]at hw;refine⟨hw.1,nx _ _ ⟨hw.2,?_⟩⟩;unfold Act.put
       cases hd:o'.dst with
       | none=>exact hv
       | some i' =>
        have zS:i'≠t:=fun e=>hdn (by rw[hd,e])
        show (a.tmps.setIfInBounds i' _).getD t Go.undef=_
        rw[aN0]at hv |-;rw[dA0 zS];exact hv
    ·by_cases hiz:i=ops.size
     ·subst hiz;rw[at_z]at kE;simp only[aA0]at kE;subst kE
      rcases hJ with ⟨_,hI⟩ | ⟨vS,_⟩
      ·obtain⟨dst,op,type,Gg,after,guard⟩:=z;obtain⟨fF,fC,dD,hz4⟩:=hz;simp only at fF fC dD hz4;subst fF fC dD hz4;unfold wpOpIn;rw[at_z];simp only;rw[if_pos (by simp[Region.wanted])];obtain⟨us,u1,u2,u3,u4⟩:=Zy (a:=a) (w:=w) (i:=t) (type:=type) (Gg:=Gg) (after:= #[]) (guard:=none) kN qI;refine EJ (fun c hc=>by cases hc) u4 ?_
       obtain⟨B',⟨hB',fX⟩,hI'⟩:=i4 B (fun B'=>EM_ B B' t w.heap.size cs/\(a.put (some t) (.pointer (some ⟨w.heap.size,0,none⟩))).tmps.getD t Go.undef= .pointer (some ⟨w.heap.size,0,none⟩)) (lo listed) a w (a.put (some t) (.pointer (some ⟨w.heap.size,0,none⟩))) (w.alloc (.cells us.toArray ty)) t hI cB (fun X loc hX RX=>by
        obtain⟨B',b1,b2⟩:=RX.hide (ty:=ty) ht (by rw[hX];exact hsl) u1 u2 u3;refine⟨B',⟨b1,?_⟩,b2⟩
        show (a.tmps.setIfInBounds t _).getD t Go.undef=_
        rw[aN0,cI0 (by rw[RX.nt];exact ht)]
        rfl)
       refine ih _ _ _ (cnt1 _ qV g0) (by simpa using qD) (by rw[vN _ (by omega)];exact cJ) (.inr ⟨?_,B',_,hB',fX,by rw[lo_set2 _ _ (Nat.le_refl _)];exact hI'⟩);rw[aN0,cI0 (by omega)];rfl
      ·rw[vS]at g0;simp at g0
     ·have fM:i=ops.size+1:=by omega
      subst fM;rw[at_o]at kE;simp only[aA0]at kE;subst kE
      have qP:∀k,k<ops.size+1->k≠lt->listed.getD k false=true:=by
       intro k hk vJ;obtain⟨e,he,hb,rfl⟩:=spec2.1 k hk vJ;exact wU e he hb
      rcases hJ with ⟨vS,_⟩ | ⟨_,B',b,hB,hv,hI⟩
      ·rw[qP _ (by omega) (Ne.symm kI)]at vS;simp at vS
      ·unfold wpOpIn;rw[at_o];simp only;rw[if_pos (by simp[Region.wanted,ho])]
       have fin:∀(a:Act) (w:World) l,Inv B' l a w->(∀k,k<ops.size->l.getD k false=true)->a.tmps.getD t Go.undef= .pointer (some ⟨b,0,none⟩)->∀Q',o.wpIn (wd B.ro) 0 P a w (fun a' w'=>QQ B Q .normal a' w') Q':=by
        intro a w l hI hl hv Q';obtain⟨_,_,h9⟩:=i2 _ _ _ _ hI;obtain⟨s1,loc1,hK,R1⟩:=h9 hl;obtain⟨loc2,R2⟩:=hB.2.2.2 s1 a w loc1 R1 hv;rw[BF]at hK;have hK:=hK (Cb B s1);exact Ef_ ho hK R2 fun s' a' w' loc' hk R'=>⟨s',loc',hk,R'⟩
       have setO:(listed.setIfInBounds (ops.size+1) true).getD (ops.size+1) false=true:=by
        rw[aN0,cI0 (by omega)];rfl
       by_cases bX:∀k,k<ops.size->listed.getD k false=true
       ·refine Oper.wpIn_mono (fun a' w' hq=> ?_) (fin a w (lo listed) hI (fun k hk=>by rw[lo_get _ _ _ hk];exact bX k hk) hv _);refine done fuel _ a' w' (by simpa using qD) (fun k hk=> ?_) hq
        by_cases zI:k=ops.size+1
        ·subst zI;exact setO
        ·rw[vN k zI]
         by_cases hk3:k=ops.size
         ·exact qP k (by omega) (by omega)
         ·exact bX k (by omega)
       ·have hlt1:lt<ops.size/\listed.getD lt false=false:=by
         refine Classical.byContradiction fun hn=>bX fun k hk=> ?_
         by_cases vJ:k=lt
         ·subst vJ
          cases hg:listed.getD k false with
          | true=>rfl
          | false=>exact absurd ⟨hk,hg⟩ hn
         ·exact qP k (by omega) vJ
        obtain⟨jV,vR⟩:=hlt1;obtain⟨p,hp⟩:∃p,ops[lt]? =some p:=⟨ops[lt],bX0 jV⟩;obtain⟨⟨u,kk,jP⟩,hpg,qR,hdo,hpa⟩:=cZ p hp
        have hrl:lt∈Region.ready .any ops (lo listed):=by
         rw[mem_ready];refine⟨by rw[lo_get _ _ _ jV];exact vR,p,hp,fun e he hb=> ?_⟩;have:=spec.acy lt p hp e he hb;rw[lo_get _ _ _ (by omega)];exact qP _ (by omega) (by omega)
        have hw:=i3 B' (lo listed) a w lt (Inv B' ((lo listed).setIfInBounds lt true)) (fun _ _ _=>False) hB.1 hB.2.1 hI hrl fun _ _ h=>h
        unfold wpOpIn at hw;rw[hp]at hw;simp only at hw;rw[if_pos (by simp[Region.wanted,hpg])]at hw;obtain⟨v,fQ,hI2⟩:=Di_ jP hw;have kZ:p.dst≠some t:=cB p (by simpa using Array.mem_of_getElem? hp)
        have hv2:(a.put p.dst v).tmps.getD t Go.undef= .pointer (some ⟨b,0,none⟩):=by
         unfold Act.put
         cases hd:p.dst with
         | none=>exact hv
         | some i' =>
          have zS:i'≠t:=fun e=>kZ (by rw[hd,e])
          show (a.tmps.setIfInBounds i' _).getD t Go.undef=_
          rw[aN0]at hv |-;rw[dA0 zS];exact hv
        have gO:∀k,k<ops.size->((lo listed).setIfInBounds lt true).getD k false=true:=by
         intro k hk;rw[<-lo_set _ _ jV qD,lo_get _ _ _ hk]
         by_cases vJ:k=lt
         ·subst vJ;rw[aN0,cI0 (by omega)];rfl
         ·rw[getD_set_ne false (Ne.symm vJ)];exact qP k (by omega) vJ
        refine Oper.wpIn_mono (fun a' w' hq=> ?_) (rC (ops:=(ops.push z).push o) qR hdo hpa (fin _ w _ hI2 gO hv2 _) (QQ B Q));obtain⟨fK,jK⟩:=hq
        have yK:lt∈Region.ready .any ((ops.push z).push o) (listed.setIfInBounds (ops.size+1) true):=by
         rw[mem_ready];refine⟨?_,p,by rw[at_lo lt jV];exact hp,fun e he hb=> ?_⟩
         ·rw[getD_set_ne true (by omega),gI lt true (by omega)];exact vR
         ·have:=spec.acy lt p hp e he hb;rw[getD_set_ne false (by omega)];exact qP _ (by omega) (by omega)
        cases fuel with
        | zero =>
         have h1:=cnt1 _ qV g0;have:=(List.countP_eq_length (p:=fun k=>(listed.setIfInBounds (ops.size+1) true).getD k false) (l:=List.range (ops.size+2))).1 (by simpa using h1) lt (dP0.2 (by omega));simp only[getD_set_ne false (show ops.size+1≠lt by omega),vR]at this;simp at this
        | succ fuel =>
         refine⟨fun hr=>by rw[hr]at yK;simp at yK,fun j hj=> ?_⟩
         have hjl:j=lt:=by
          refine Classical.byContradiction fun hn=> ?_
          rw[mem_ready]at hj;obtain⟨j0,oj,hoj,_⟩:=hj;have hj2:j<ops.size+2:=by have:=(aD0.1 hoj).1;omega
          by_cases hje:j=ops.size+1
          ·subst hje;rw[aN0,cI0 (by omega)]at j0;simp at j0
          ·rw[getD_set_ne true (Ne.symm hje),gI j true hj2,qP j (by omega) hn]at j0;simp at j0
         subst hjl;unfold wpOpIn;rw[at_lo j jV,hp];simp only;rw[if_pos (by simp[Region.wanted,hpg])];refine EJ (fun c hc=>by rw[jP]at hc;cases hc) (fQ a' w' jK) ?_;refine done fuel _ _ w' (by simpa using qD) (fun k hk=> ?_) fK
         by_cases zI:k=j
         ·subst zI;rw[aN0,cI0 (by simp;omega)];rfl
         ·rw[getD_set_ne false (Ne.symm zI)]
          by_cases hk3:k=ops.size+1
          ·subst hk3;exact setO
          ·rw[vN k hk3];exact qP k (by omega) zI
 have fW:∀k,(Array.replicate (ops.size+2) false).getD k false=false:=by
  intro k;simp[aN0,dY0]
  split<;>simp
 have hlo:lo (Array.replicate (ops.size+2) false)=Array.replicate ops.size false:=by
  apply Array.ext
  ·simp[lo]
  ·intro j h1 h2;simp only[lo,Array.getElem_ofFn,fW,Array.getElem_replicate]
 rw[hsz3];refine main (ops.size+2) _ a _ ?_ (by simp) (fW _) (.inl ⟨fW _,by rw[hlo];exact i1 B rfl rfl a w loc R⟩)
 have:(List.range (ops.size+2)).countP (fun k=>(Array.replicate (ops.size+2) false).getD k false)=0:=by
  rw[List.countP_eq_zero];intro k _;rw[fW];simp
 omega
theorem OF (ow l1 l2:List Nat) (lt:Nat) {id t ty:Nat} {ops ops3:Array Oper} {z o:Oper} {cs:List DVal} {Q:Exit->DS->Prop} (hm:P.follows .mixedOrders=true) (h3:ops3=(ops.push z).push o) (qO:DT ow l1 l2 ops=true)
  (hz:z.op= .alloc ty/\z.dst=some t/\z.guard=none/\z.after= #[]) (ho:o.guard=none) (kU:Qo lt o (ops.size+1)=true) (kI:lt≠ops.size) (cZ:∀p,ops[lt]? =some p->LateP ops3 p o) (yV:De_ ops=true)
  (ht:t<B.nt) (qC:ops.toList.all (fun o=>decide (o.dst≠some t))=true) (hsl:Bg s.slots t= .any) (kN:tZero P ty=some cs) (qI:cs.all (Fe [])=true)
  (h:Ce P B.nt ow l1 l2 ops ops.toList 0 (kF P B (Q .normal) ow t cs o) s):DW P B (.region id ops3 true) Q s:=by
 intro a w loc R;exact wpIn_region_any hm (uM ow l1 l2 h3 qO hz ho lt kU kI cZ yV ht qC hsl kN qI h R)
def AQ_ (lt:Nat) (ops ops3:Array Oper) (o:Oper):Bool:=match ops[lt]? with
 | none=>true
 | some p=>(match p.op with | .extract (.tmp _) _=>true | _=>false)&&p.guard.isNone&&(match o.op with | .store _ _ _=>true | _=>false)&&o.dst.isNone&&(match p.dst with | some d=> !(o.looksAt ops3).contains d | none=>true)
theorem Da_ {lt:Nat} {ops ops3:Array Oper} {o:Oper} (h:AQ_ lt ops ops3 o=true):∀p,ops[lt]? =some p->LateP ops3 p o:=by
 intro p hp;unfold AQ_ at h;rw[hp]at h;simp only[aM0]at h;obtain⟨⟨⟨⟨h1,h2⟩,h3⟩,h4⟩,h5⟩:=h;refine⟨?_,by simpa using h2,?_,by simpa using h4,fun d hd=> ?_⟩
 ·split at h1
  ·exact⟨_,_,by assumption⟩
  ·cases h1
 ·split at h3
  ·exact⟨_,_,_,by assumption⟩
  ·cases h3
 ·rw[hd]at h5;simpa using h5
def UP (ow l1 l2:List Nat) (lt:Nat) (ops3:Array Oper) (t ty:Nat):Bool :=
 DT ow l1 l2 ops3.pop.pop&&De_ ops3.pop.pop&&ops3.pop.pop.toList.all (fun o=>decide (o.dst≠some t)) &&
 (match ops3.pop.back? with | some z=>(match z.op with | .alloc ty'=>ty'==ty | _=>false)&&z.dst==some t&&z.guard.isNone&&z.after.isEmpty | none=>false) &&
 (match ops3.back? with | some o=>o.guard.isNone&&Qo lt o (ops3.pop.pop.size+1)&&AQ_ lt ops3.pop.pop ops3 o&&decide (lt≠ops3.pop.pop.size) | none=>false)
theorem aQ {ow l1 l2:List Nat} {lt:Nat} {ops3:Array Oper} {t ty:Nat} {z o:Oper} (hzb:ops3.pop.back?=some z) (qZ:ops3.back?=some o) (hc:UP ow l1 l2 lt ops3 t ty=true) :
  DT ow l1 l2 ops3.pop.pop=true/\De_ ops3.pop.pop=true/\ops3.pop.pop.toList.all (fun o=>decide (o.dst≠some t))=true/\(z.op= .alloc ty/\z.dst=some t/\z.guard=none/\z.after= #[])/\o.guard=none/\Qo lt o (ops3.pop.pop.size+1)=true/\(∀p,ops3.pop.pop[lt]? =some p->LateP ops3 p o)/\lt≠ops3.pop.pop.size:=by
 unfold UP at hc;rw[hzb,qZ]at hc;simp only[aM0]at hc;obtain⟨⟨⟨⟨c1,c2⟩,c3⟩,c4⟩,c5⟩:=hc;obtain⟨⟨⟨c6,c7⟩,c8⟩,c9⟩:=c4;refine⟨c1,c2,c3,⟨?_,by simpa using c7,by simpa using c8,by simpa using c9⟩,by simpa using c5.1.1.1,c5.1.1.2,Da_ c5.1.2,by simpa using c5.2⟩;cases hz:z.op<;>rw[hz]at c6<;>simp at c6;rw[c6]
theorem pI (ow l1 l2:List Nat) (t ty:Nat) (cs:List DVal) {id:Nat} {ops3:Array Oper} {z o:Oper} {Q:Exit->DS->Prop} (hm:P.follows .mixedOrders=true) (hzb:ops3.pop.back?=some z) (qZ:ops3.back?=some o) (h3:ops3=(ops3.pop.pop.push z).push o) (hc:UP ow l1 l2 1000 ops3 t ty=true)
  (ht:t<B.nt) (hsl:Bg s.slots t= .any) (kN:tZero P ty=some cs) (qI:cs.all (Fe [])=true)
  (h:Ce P B.nt ow l1 l2 ops3.pop.pop ops3.pop.pop.toList 0 (kF P B (Q .normal) ow t cs o) s):DW P B (.region id ops3 true) Q s:=by
 obtain⟨c1,c2,c3,c4,c5,c6,c7,c8⟩:=aQ hzb qZ hc;exact OF ow l1 l2 1000 (z:=z) (o:=o) hm h3 c1 c4 c5 c6 c8 c7 c2 ht c3 hsl kN qI h
end
theorem Vu {P:Program} {B:Base} {Q:Exit->DS->Prop} {s:DS} {x:Code} (bid c k bs:Nat) {rb:Nat} {cs:List DVal} (h:Aj s.own bid=some ⟨bid,rb,.box cs⟩) (hc:cs.getD c .any= .nilsl)
  (hw:DW P B x Q ⟨s.slots,upE s.own bid rb (.box (cs.set c (.sl k bs [])))⟩):DW P B x Q s:=by
 refine GL (fun a w loc R=> ?_) hw;refine R.reBox h rfl (by simp) fun arr hr=>Uf cs arr 0 c (fun v hv=> ?_) hr
 rw[hc]at hv;simp only[rd]at hv |-;rw[hv];exact⟨none,0,by simp,by simp,by simp,by simp,.inl ⟨by simp,fun _=>rfl⟩⟩
end Go.Dm
end
