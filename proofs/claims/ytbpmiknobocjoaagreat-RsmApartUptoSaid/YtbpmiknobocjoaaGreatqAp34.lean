/- Parts of a proof, laid together: EnFl. -/
import Derived.Test.YtbpmiknobocjoaaGreatqAp16
set_option linter.unusedSimpArgs false
set_option maxHeartbeats 8000000
set_option linter.unusedVariables false
set_option linter.unusedSectionVars false
section
namespace Go.Dm
variable [DMode]
theorem xV {F:Fence} {n:Nat} {P:Program} {Q:Exit->Act->World->Prop} {o:Oper} {a:Act} {w:World} {K:Act->World->Prop} {t:Nat} {v0:Value} (ht:o.dst≠some t) (h0:a.tmps.getD t Go.undef=v0)
  (hh:o.wpIn F n P a w K Q):o.wpIn F n P a w (fun a' w'=>K a' w'/\a'.tmps.getD t Go.undef=v0) Q:=by
 have key:∀(a:Act) v,a.tmps.getD t Go.undef=v0->(a.put o.dst v).tmps.getD t Go.undef=v0:=by
  intro a v h0;unfold Act.put
  cases hd:o.dst with
  | none=>exact h0
  | some i =>
   have hi:i≠t:=fun e=>ht (by rw[hd,e])
   show (a.tmps.setIfInBounds i v).getD t Go.undef=v0
   rw[aO0]at h0 |-;rw[dG0 hi];exact h0
 unfold Oper.wpIn at *;refine⟨hh.1,?_⟩;have hh:=hh.2
 generalize (o.semAt F.round a.eval).run P w=r at *
 cases r with
 | ok x w' =>
  cases x<;>simp only[Oper.uponIn]at hh |- <;>
   first
    | exact⟨hh,key _ _ h0⟩
    | exact⟨hh,key { a with defers:=_ } _ h0⟩
    | exact⟨hh.1,CallsIn.mono hh.2 (fun e w'' he=>by cases e<;>first | exact⟨he,key _ _ h0⟩ | exact he)⟩
    | exact⟨hh.1,RowsIn.mono hh.2 (fun _ _ he=>⟨he,key _ _ h0⟩)⟩
    | exact⟨hh.1,RoundIn.mono hh.2 (fun e w'' he=>by cases e<;>first | exact⟨he,key _ _ h0⟩ | exact he)⟩
 | halt x w'=>cases x<;>simp only[Oper.uponIn]at hh |- <;>exact hh
section
variable {P : Program} {B : Base} {s : DS}
def Hz_ (B B':Base) (t b:Nat) (cs:List DVal):Prop :=
 B'.nt=B.nt/\B'.N=B.N/\B'.ro=B.ro/\∀s' a' w' loc',Rel B' s' a' w' loc'->a'.tmps.getD t Go.undef= .pointer (some ⟨b,0,none⟩) ->
  ∃loc'',Rel B ⟨(t,.bx t (Cd B s') 0)::s'.slots,upE s'.own t (Cd B s') (.box cs)⟩ a' w' loc''
theorem Rel.hide {X:DS} {a:Act} {w:World} {loc:Nat->Loc} {t ty:Nat} {cs:List DVal} {us:List Value} (R:Rel B X a w loc) (ht:t<B.nt) (hX:getS X.slots t= .any)
  (vV:∀cur M h,rdV cur M h cs us) (vG:AJ cs=0) (qS:∀u∈us,u.oneCell'=true) :
  ∃B',Hz_ B B' t w.heap.size cs/\Rel B' X (a.put (some t) (.pointer (some ⟨w.heap.size,0,none⟩))) (w.alloc (.cells us.toArray ty)) loc:=by
 have mL:∀b∈Aa X.own loc++B.M0,b<w.heap.size:=R.st.lt;have hsz1:(w.alloc (.cells us.toArray ty)).heap.size=w.heap.size+1:=by show (w.heap.push _).size=_;simp
 have yN:∀b,b<w.heap.size->(w.alloc (.cells us.toArray ty)).heap[b]? =w.heap[b]? :=fun b hb=>by
  show (w.heap.push _)[b]? =_
  rw[bS0,if_neg (by omega)]
 have hU:Upd (Aa X.own loc) w (w.alloc (.cells us.toArray ty)):=Upd.alloc _ _ _
 let B':Base:=⟨X.own,loc,w.heap.size::B.M0,B.N,w.alloc (.cells us.toArray ty),B.nt,B.ro,B.nd,(by have h1:=B.hnd;have h2:=R.upd.size;omega),B.idle⟩
 have W:Weak (Ac X.own loc) (Ac X.own loc) (Aa X.own loc++B.M0) (Aa X.own loc++w.heap.size::B.M0) w.heap (w.alloc (.cells us.toArray ty)).heap (Cd B X):=by
  refine⟨fun _ _ _ _ h=>h,fun b o _ _ ho=> ?_,fun b o hb _ ho hm=> ?_⟩
  ·have qV:=(aC0.1 ho).1;rw[yN b qV];exact ho
  ·have qV:=(aC0.1 ho).1
   rcases aG0.1 hm with h | h
   ·exact hb (aM0 _ h)
   ·rcases aK0.1 h with h | h
    ·omega
    ·exact hb (aN0 _ h)
 have dN:∀i,mx (getS X.slots i)<=Cd B X:=fun i=>Nat.le_trans (KR _ i) (by unfold Cd;omega)
 refine⟨B',⟨rfl,rfl,rfl,?_⟩,?_⟩
 ·intro s' a' w' loc' R' hv;have hlimE:Cd B' s'=Cd B s':=rfl;have hbM:w.heap.size∉B.M0:=fun h=>by have:=mL _ (aN0 _ h);omega
  have hbH:w.heap.size∉Aa X.own loc:=fun h=>by have:=mL _ (aM0 _ h);omega
  have hbS:w.heap.size∉Aa s'.own loc':=fun h=>R'.st.ap _ h aH0
  have vK:w'.heap[w.heap.size]? =some (.cells us.toArray ty (0,0)):=by
   rw[R'.upd.blk w.heap.size (by show _<(w.alloc _).heap.size;omega) hbH];exact heap_alloc_new w _
  have zW:∀e∈upE s'.own t (Cd B s') (.box cs),(e=⟨t,Cd B s',.box cs⟩)\/(e∈s'.own/\e.id≠t):=fun e he=>by
   rcases aK0.1 he with h | h
   ·exact .inl h
   ·exact .inr (Bv.1 h)
  have wQ:∀b∈Aa (upE s'.own t (Cd B s') (.box cs)) (CS loc' t ⟨[w.heap.size],Go.undef⟩),b=w.heap.size\/b∈Aa s'.own loc':=by
   intro b hb;obtain⟨e,he,h1⟩:=bP0.1 hb
   rcases zW e he with rfl | ⟨h2,h3⟩
   ·simp only[CS,if_true,aE0]at h1;exact .inl h1
   ·simp only[CS,if_neg h3]at h1;exact .inr (AW h2 h1)
  have W2:Weak (Ac s'.own loc') (Ac (upE s'.own t (Cd B s') (.box cs)) (CS loc' t ⟨[w.heap.size],Go.undef⟩)) (Aa s'.own loc'++w.heap.size::B.M0) (Aa (upE s'.own t (Cd B s') (.box cs)) (CS loc' t ⟨[w.heap.size],Go.undef⟩)++B.M0) w'.heap w'.heap (Cd B s'):=by
   refine⟨fun id r l hr hl=> ?_,fun b o _ _ ho=>ho,fun b o hb _ _ hm=> ?_⟩
   ·obtain⟨e,he,rfl,rfl,rfl⟩:=BE hl
    rcases zW e he with rfl | ⟨h2,h3⟩
    ·simp at hr
    ·simp only[CS,if_neg h3];exact Ay R'.st.nd h2
   ·rcases aG0.1 hm with h | h
    ·rcases wQ b h with rfl | h
     ·exact hb (aN0 _ aH0)
     ·exact hb (aM0 _ h)
    ·exact hb (aN0 _ (aF0 _ h))
  refine⟨CS loc' t ⟨[w.heap.size],Go.undef⟩,⟨?_,?_,?_,?_,?_⟩,?_,?_,?_,?_,R'.nt,?_⟩
  ·simp only[upE,List.map_cons,cV0];refine⟨fun hm=> ?_,Dy R'.st.nd⟩;obtain⟨e,he,h1⟩:=aT0.1 hm;exact(Bv.1 he).2 h1
  ·unfold upE;rw[Ec,Ry,bX0];simp only[CS,if_true];refine⟨by simp,Df R'.st.bl _ (Dy R'.st.nd) (fun e he=>(Bv.1 he).1),?_⟩;intro b hb b' qM jI;subst jI;obtain⟨e,he,qF,h1⟩:=MX qM;simp only[aE0]at hb;subst hb;exact hbS (AW he h1)
  ·intro b hb hm
   rcases wQ b hb with rfl | h
   ·exact hbM hm
   ·exact R'.st.ap b h (aF0 _ hm)
  ·intro b hb
   rcases aG0.1 hb with h | h
   ·rcases wQ b h with rfl | h
    ·exact(aC0.1 vK).1
    ·exact R'.st.lt b (aM0 _ h)
   ·exact R'.st.lt b (aN0 _ (aF0 _ h))
  ·intro e he
   rcases zW e he with rfl | ⟨h2,h3⟩
   ·refine⟨w.heap.size,us.toArray,ty,by simp[CS],vK,by have:=AA _ _ (vV (fun _ _=>none) [] #[]);simpa using this,?_⟩;have:=Hz cs us [] [] (vV (Ac (upE s'.own t (Cd B s') (.box cs)) (CS loc' t ⟨[w.heap.size],Go.undef⟩)) (Aa (upE s'.own t (Cd B s') (.box cs)) (CS loc' t ⟨[w.heap.size],Go.undef⟩)++B.M0) w'.heap) qS;simpa using this
   ·have hk:=R'.st.ok e h2;have hl:CS loc' t ⟨[w.heap.size],Go.undef⟩ e.id=loc' e.id:=by simp only[CS,if_neg h3]
    rw[hl];refine AV W2 ?_ (fun _ _ _ ho=>ho) hk;have:=(Bn h2).2;unfold Cd;omega
  ·exact(R.upd.trans (Upd.alloc [] w _) (by simp)).trans R'.upd (fun x hx=>R.new x hx)
  ·intro b hb
   rcases wQ b hb with rfl | h
   ·exact .inr R.upd.size
   ·rcases R'.new b h with h | h
    ·exact R.new b h
    ·right
     have h1:w.heap.size+1<=b:=by rw[<-hsz1];exact h
     have:=R.upd.size;omega
  ·intro e he qV
   rcases zW e he with rfl | ⟨h2,h3⟩
   ·simp only at qV;unfold Cd at qV;omega
   ·simp only[CS,if_neg h3];obtain⟨e2,k1,k2,k3,k4⟩:=BE (R'.ver e h2 qV);have:=R.ver e2 k1 (by omega);rw[k2,k3]at this;rw[this,k4]
  ·intro i;simp only[getS]
   split
   ·rename_i hi;subst hi;simp only[rd];intro l hl;rw[DD]at hl;simp only[aA0]at hl;subst hl;exact⟨_,rfl,hv⟩
   ·exact Bk W2 _ _ (Nat.le_trans (KR _ i) (by unfold Cd;omega)) (R'.sl i)
  ·obtain⟨rs,g1,g2,g3,g4⟩:=R'.df;refine⟨rs,g1,g2,fun r hr=> ?_,g4⟩;obtain⟨k1,k2,k3⟩:=g3 r hr;refine⟨k1,k2,fun hm=>k3 ?_⟩
   rcases aG0.1 hm with h | h
   ·rcases wQ r h with rfl | h
    ·exact aN0 _ aH0
    ·exact aM0 _ h
   ·exact aN0 _ (aF0 _ h)
 ·refine⟨⟨R.st.nd,R.st.bl,?_,?_,?_⟩,Upd.refl _ _,fun b hb=> .inl hb,fun e he _=>Ay R.st.nd he,?_,by simpa[Act.put]using R.nt,?_⟩
  ·intro b hb hm
   rcases aK0.1 hm with h | h
   ·have:=mL b (aM0 _ hb);omega
   ·exact R.st.ap b hb h
  ·intro b hb;rw[hsz1]
   rcases aG0.1 hb with h | h
   ·have:=mL b (aM0 _ h);omega
   ·rcases aK0.1 h with h | h
    ·omega
    ·have:=mL b (aN0 _ h);omega
  ·intro e he;have:=(Bn he).2;exact AV W (by unfold Cd;omega) (fun b o _ ho=>by rw[yN b (aC0.1 ho).1];exact ho) (R.st.ok e he)
  ·intro i
   by_cases hi:i=t
   ·subst hi;rw[hX];simp only[rd]
   ·have h1:(a.put (some t) (.pointer (some ⟨w.heap.size,0,none⟩))).tmps.getD i Go.undef=a.tmps.getD i Go.undef:=by
     show (a.tmps.setIfInBounds t _).getD i Go.undef=_
     rw[aO0,aO0,dG0 (Ne.symm hi)]
    rw[h1];exact Bk W _ _ (dN i) (R.sl i)
  ·refine R.df.keep (B:=B) (M':=Aa X.own loc++w.heap.size::B.M0) rfl hU (fun x hx=>aM0 _ hx) fun b hb=> ?_
   rcases aG0.1 hb with h | h
   ·exact .inl (aM0 _ h)
   ·rcases aK0.1 h with h | h
    ·exact .inr (by omega)
    ·exact .inl (aN0 _ h)
def Ro (lt:Nat) (o:Oper) (n:Nat):Bool:=((List.range n).all fun k=>k==lt||o.after.toList.any fun e=>Region.binds .any e&&e.on==k)&&o.after.toList.all fun e=>decide (e.on<n)
def FO_ (ops:Array Oper):Bool:=ops.toList.all fun o=>match o.guard with | some (j,_)=>decide (j<ops.size) | none=>true
theorem eJ {a:Act} {w:World} {i t:Nat} {z:List DVal} {type:TypeId} {Fx:String} {after:Array Edge} {guard:Option (Nat×Bool)} (hz:tZero P t=some z) (hp:z.all (Fy [])=true) :
  ∃us:List Value,(∀cur M h,rdV cur M h z us)/\AJ z=0/\(∀u∈us,u.oneCell'=true)/\(execOp a.eval ⟨some i,.alloc t,type,Fx,after,guard⟩).run P w= .ok (.value (.pointer (some ⟨w.heap.size,0,none⟩))) (w.alloc (.cells us.toArray t)):=by
 obtain⟨zv,yG,rfl⟩:=Gr (w:=w) hz
 have vG:AJ (zv.cells.toList.map Cb)=0:=by
  have h1:∀v,mx (Cb v)=0:=by
   intro v;unfold Cb
   split<;>(try split)<;>simp[mx]
  generalize zv.cells.toList=l
  induction l with
  | nil=>simp[AJ]
  | cons v l ih =>
   show max (mx (Cb v)) (AJ (l.map Cb))=0
   rw[h1,ih];rfl
 refine⟨zv.cells.toList,fun cur M h=>BB _,vG,?_,?_⟩
 ·exact Gx (s:=⟨[],[]⟩) (loc:=fun _=>⟨[],Go.undef⟩) (M0:=[]) (w:=w) ⟨by simp,by simp[Aa],by simp[Aa],by simp[Aa],by simp⟩ (zv.cells.toList.map Cb) zv.cells.toList (aZ0.2 fun d hd=>QW (aZ0.1 hp d hd)) (BB _)
 ·simp[execOp,Instr.alloc,yG,newVar,newRow]
def kF (P:Program) (B:Base) (Q:DS->Prop) (ow:List Nat) (t:Nat) (cs:List DVal) (o:Oper):Cont :=
 ⟨fun s1=>∀r,Ci P B.nt ow [] [] #[o] [o] 0 ⟨Q⟩ ⟨(t,.bx t r 0)::s1.slots,upE s1.own t r (.box cs)⟩⟩
theorem BO (P:Program) (B:Base) (Q:DS->Prop) (ow:List Nat) (t:Nat) (cs:List DVal) (o:Oper) (s1:DS):(kF P B Q ow t cs o).f s1=∀r,Ci P B.nt ow [] [] #[o] [o] 0 ⟨Q⟩ ⟨(t,.bx t r 0)::s1.slots,upE s1.own t r (.box cs)⟩:=id rfl
structure LateP (ops3:Array Oper) (p o:Oper):Prop where
 ex:∃u k,p.op= .extract (.tmp u) k
 g:p.guard=none
 st:∃ty x y,o.op= .store ty x y
 nd:o.dst=none
 ap:∀d,p.dst=some d->d∉o.looksAt ops3
theorem FT_ {p:Oper} {u k:Nat} (hp:p.op= .extract (.tmp u) k) {F:Fence} {n:Nat} {a:Act} {w:World} {C:Act->World->Prop} (h:p.wpIn F n P a w C fun _ _ _=>False) :
  ∃v,(∀(a':Act) (w':World),a'.tmps=a.tmps->(execOp a'.eval p).run P w'= .ok (.value v) w')/\C (a.put p.dst v) w:=by
 have hr:∀(a':Act) (w':World),a'.tmps=a.tmps->execOp a'.eval p=(do pure (.value (<-Instr.extract (a.tmps.getD u Go.undef) k))):=by
  intro a' w' ha;unfold execOp;rw[hp];simp only[Act.eval,ha]
 unfold Oper.wpIn at h;have h:=h.2;rw[Oper.semAt_eq _ _ _ (fun c hc=>by rw[hp]at hc;cases hc),hr a w rfl]at h;unfold Instr.extract at h hr
 split at h
 ·rename_i vs
  split at h
  ·rename_i v hv;refine⟨v,fun a' w' ha=> ?_,?_⟩
   ·rw[hr a' w' ha];simp only[*];rfl
   ·exact h
  ·exact h.elim
 ·exact h.elim
theorem Ak_ {ro:Option Nat} {ops:Array Oper} {o:Oper} {a:Act} {d:Option Tmp} {u:Value} {w:World} {K:Act->World->Prop} (wO:∃ty x y,o.op= .store ty x y) (hdo:o.dst=none) (h1:∀e,d=some e->e∉o.looksAt ops)
  (h:o.wpIn (wd ro) 0 P (a.put d u) w K fun _ _ _=>False) (Q:Exit->Act->World->Prop):o.wpIn (wd ro) 0 P a w (fun a' w'=>K (a'.put d u) w'/\a'.tmps=a.tmps) Q:=by
 obtain⟨ty,x,y,wD⟩:=wO;unfold Oper.wpIn at h |-;rw[about_put o w a d u h1,Oper.semAt_eq _ _ _ (fun c hc=>by rw[wD]at hc;cases hc),execOp_put o (fun cs b hc=>by rw[wD]at hc;cases hc) a d u h1]at h;rw[Oper.semAt_eq _ _ _ (fun c hc=>by rw[wD]at hc;cases hc)];refine⟨h.1,?_⟩
 replace h:=h.2
 generalize (execOp a.eval o).run P w=r at *
 cases r with
 | ok x w' =>
  cases x<;>simp only[Oper.uponIn,hdo]at h |-
  case value v=>exact⟨h,rfl⟩
  case skip=>exact⟨h,rfl⟩
  case defer e =>
   have e1:=Act.put_defers a d u e;refine⟨?_,rfl⟩;have h:K ({ a.put d u with defers:=e::(a.put d u).defers }:Act) w':=h;rw[e1]at h;exact h
  case enter f args =>
   refine⟨h.1,CallsIn.mono h.2 fun e w'' he=> ?_⟩
   cases e with
   | returned v=>exact⟨he,rfl⟩
   | panicked c=>exact he.elim
   | outgrown=>obtain⟨_,_,he⟩:=he;exact he.elim
  case row row args=>exact⟨h.1,RowsIn.mono h.2 fun v w'' he=>⟨he,rfl⟩⟩
  case round l f tmps assign body =>
   refine⟨h.1,RoundIn.mono h.2 fun e w'' he=> ?_⟩
   cases e with
   | returned v=>exact⟨he,rfl⟩
   | panicked c=>exact he.elim
   | outgrown=>obtain⟨_,_,he⟩:=he;exact he.elim
 | halt x w'=>cases x<;>simp only[Oper.uponIn]at h<;>exact h.elim
theorem GN_ {ow:List Nat} {o:Oper} {K:Cont} {a:Act} {w:World} {loc:Nat->Loc} {next:Act->World->Prop} {Q:Exit->Act->World->Prop} (hg:o.guard=none) (h:Ci P B.nt ow [] [] #[o] [o] 0 K s) (R:Rel B s a w loc)
  (hn:∀s' a' w' loc',K.f s'->Rel B s' a' w' loc'->next a' w'):o.wpIn (wd B.ro) 0 P a w next Q:=by
 have ext:Mm (IU [] [] 0 s.own) s.own:=by
  unfold IU;simp;exact fun _ _ h=>h
 have neu:∀(e:Operand->DVal) (d d':DVal),(∀x∈o.op.operands,Bg s loc B.M0 w (e x) (a.eval x))->(∀(w':World) (v:Value),rd (Ac s.own loc) (Aa s.own loc++B.M0) w'.heap d' v->rd (Ac s.own loc) (Aa s.own loc++B.M0) w'.heap d v) ->
   Bs B.nt o.dst=true->FK P o (IU [] [] 0 s.own) e d'->K.f ⟨putS s.slots o.dst d,s.own⟩->o.wpIn (wd B.ro) 0 P a w next Q:=by
  intro e d d' he yF hd h1 hk
  rcases h1.ext ext (fun x _=>rfl)with ⟨c,g,args,wD,yL,wM⟩ | ⟨wM,hq⟩
  ·exact Wq (d':=d) (K:=fun s'=>s'=⟨putS s.slots o.dst d,s.own⟩) R hd wD he yL wM (fun _=>rfl) yF (fun s' a' w' loc' gI R'=>by subst gI;exact hn _ a' w' loc' hk R')
  ·exact VC (d:=d) (K:=fun s'=>s'=⟨putS s.slots o.dst d,s.own⟩) R hd he wM rfl (fun w' v h=>yF w' v (by rw[hq];exact h)) (fun s' a' w' loc' gI R'=>by subst gI;exact hn _ a' w' loc' hk R')
 simp only[Ci]at h;rw[hg]at h;simp only at h
 split at h
 ·obtain⟨hd,_,h⟩:=h;obtain⟨d,own',h1,h2⟩:=Kw h (Cd B s);exact YR (R:=R) (Nat.le_refl _) hd (fun x _=>R.ev x) (fun x _=>Pa _ x) h1 fun a' w' loc' R'=>hn _ a' w' loc' h2 R'
 ·obtain⟨hd,h⟩:=h
  split at h
  ·rename_i c wD
   split at h
   ·rename_i g args hc;obtain⟨d,h1,h2⟩:=KX h;exact neu _ d d (fun x _=>R.ev x) (fun _ _ h=>h) hd (.inl ⟨c,g,args,wD,hc,h1⟩) h2
   ·exact neu _ _ _ (fun x _=>R.ev x) (fun _ _ h=>h) hd (.inr ⟨h.1,rfl⟩) h.2
  ·exact neu _ _ _ (fun x _=>R.ev x) (fun _ _ h=>h) hd (.inr ⟨h.1,rfl⟩) h.2
theorem BO_ (ow l1 l2:List Nat) {t ty:Nat} {ops ops3:Array Oper} {z o:Oper} {cs:List DVal} {Q:Exit->DS->Prop} (h3:ops3=(ops.push z).push o) (qG:Ei ow l1 l2 ops=true)
  (hz:z.op= .alloc ty/\z.dst=some t/\z.guard=none/\z.after= #[]) (ho:o.guard=none) (lt:Nat) (jV:Ro lt o (ops.size+1)=true) (fC:lt≠ops.size) (dA:∀p,ops[lt]? =some p->LateP ops3 p o) (yC:FO_ ops=true)
  (ht:t<B.nt) (qT:ops.toList.all (fun o=>decide (o.dst≠some t))=true) (hsl:getS s.slots t= .any) (yY:tZero P ty=some cs) (qS:cs.all (Fy [])=true)
  (h:Ci P B.nt ow l1 l2 ops ops.toList 0 (kF P B (Q .normal) ow t cs o) s) {a:Act} {w:World} {loc:Nat->Loc} (R:Rel B s a w loc):wpAnyIn (wd B.ro) 0 P .any ops3 (QQ B Q) ops3.size (Array.replicate ops3.size false) a w.drew:=by
 subst h3;obtain⟨Inv,i1,i2,i3,i4⟩:=QJ (N:=B.N) ow l1 l2 qG R.st.nd h;have dH:∀o∈ops.toList,o.dst≠some t:=fun o ho=>by simpa using aZ0.1 qT o ho
 have spec:=Pd (by unfold Ei at qG;simp only[aL0]at qG;exact qG.1);have hsz3:((ops.push z).push o).size=ops.size+2:=by simp
 have at_lo:∀k,k<ops.size->((ops.push z).push o)[k]? =ops[k]? :=fun k hk=>by
  rw[bS0,if_neg (by simp;omega),bS0,if_neg (by omega)]
 have at_z:((ops.push z).push o)[ops.size]? =some z:=by
  rw[bS0,if_neg (by simp),bS0,if_pos rfl]
 have at_o:((ops.push z).push o)[ops.size+1]? =some o:=by
  rw[bS0,if_pos (by simp)]
 have spec2:(∀k,k<ops.size+1->k≠lt->∃e∈o.after,Region.binds .any e=true/\e.on=k)/\∀e∈o.after,e.on<ops.size+1:=by
  unfold Ro at jV;simp only[aL0,aZ0,bZ0,cF0,dB0,beq_iff_eq,decide_eq_true_eq]at jV;exact⟨fun k hk yJ=>by obtain⟨e,he,h1,h2⟩:=(jV.1 k hk).resolve_left yJ;exact⟨e,by simpa using he,h1,h2⟩,fun e he=>jV.2 e (by simpa using he)⟩
 let lo:Array Bool->Array Bool:=fun l=>Array.ofFn (n:=ops.size) fun i=>l.getD i.1 false
 have lo_get:∀(l:Array Bool) k d,k<ops.size->(lo l).getD k d=l.getD k false:=by
  intro l k d hk;rw[aO0];simp[lo,hk]
 have lo_set:∀(l:Array Bool) i,i<ops.size->l.size=ops.size+2->lo (l.setIfInBounds i true)=(lo l).setIfInBounds i true:=by
  intro l i hi hl
  apply Array.ext
  ·simp[lo]
  ·intro j h1 h2;rw[Array.getElem_setIfInBounds (by simpa using h2)];simp only[lo,Array.getElem_ofFn]
   split
   ·rename_i yB;subst yB;rw[aO0,cN0 (by omega)];rfl
   ·rename_i yB;rw[aO0,aO0,dG0 yB]
 have lo_set2:∀(l:Array Bool) i,ops.size<=i->lo (l.setIfInBounds i true)=lo l:=by
  intro l i hi
  apply Array.ext
  ·simp[lo]
  ·intro j h1 h2;simp only[lo,Array.getElem_ofFn];have hj:j<ops.size:=by simpa[lo]using h2
   rw[aO0,aO0,dG0 (by omega)]
 have done:∀(fuel:Nat) (listed:Array Bool) (a:Act) (w:World),listed.size=ops.size+2->(∀i,i<ops.size+2->listed.getD i false=true)->QQ B Q .normal a w->wpAnyIn (wd B.ro) 0 P .any ((ops.push z).push o) (QQ B Q) fuel listed a w:=by
  intro fuel listed a w qI wZ hq
  have hr:Region.ready .any ((ops.push z).push o) listed=[]:=by
   rw[List.eq_nil_iff_forall_not_mem];intro i hi;rw[mem_ready]at hi;obtain⟨g0,o',fV,_⟩:=hi;have qV:i<ops.size+2:=by have:=(aC0.1 fV).1;omega
   have g1:=wZ i qV;have zP:i<listed.size:=by omega
   simp only[aO0,bO0 zP,bY0]at g0 g1;rw[g0]at g1;simp at g1
  cases fuel with
  | zero=>exact⟨hr,hq⟩
  | succ fuel=>exact⟨fun _=>hq,fun i hi=>by rw[hr]at hi;simp at hi⟩
 have main:∀(fuel:Nat) (listed:Array Bool) (a:Act) (w:World),(List.range (ops.size+2)).countP (fun k=>listed.getD k false)+fuel=ops.size+2->listed.size=ops.size+2->listed.getD (ops.size+1) false=false ->
   ((listed.getD ops.size false=false/\Inv B (lo listed) a w)\/(listed.getD ops.size false=true/\∃B' b,Hz_ B B' t b cs/\a.tmps.getD t Go.undef= .pointer (some ⟨b,0,none⟩)/\Inv B' (lo listed) a w)) ->
   wpAnyIn (wd B.ro) 0 P .any ((ops.push z).push o) (QQ B Q) fuel listed a w:=by
  intro fuel
  induction fuel with
  | zero =>
   intro listed a w dR qI dU _;have:=(List.countP_eq_length (p:=fun k=>listed.getD k false) (l:=List.range (ops.size+2))).1 (by simpa using dR) (ops.size+1) (bZ0.2 (by omega));simp only[dU]at this;simp at this
  | succ fuel ih =>
   intro listed a w dR qI dU hJ
   have bI:∀k d,k<ops.size+2->listed.getD k d=listed.getD k false:=by
    intro k d hk;have:k<listed.size:=by omega
    simp[aO0,bO0 this]
   have cnt1:∀i,i<ops.size+2->listed.getD i false=false->(List.range (ops.size+2)).countP (fun k=>(listed.setIfInBounds i true).getD k false)+fuel=ops.size+2:=by
    intro i hi hSi;have zP:i<listed.size:=by omega
    have hS':(fun k=>(listed.setIfInBounds i true).getD k false)=fun k=>if k=i then true else listed.getD k false:=by
     funext k
     by_cases hk:k=i
     ·subst hk;simp[zP]
     ·rw[if_neg hk,getD_set_ne false (Ne.symm hk)]
    rw[hS',Wp _ i hSi _ hi];omega
   have low:∀i,i<ops.size->(i∈Region.ready .any ops (lo listed)↔i∈Region.ready .any ((ops.push z).push o) listed):=by
    intro i hi;rw[mem_ready,mem_ready,at_lo i hi,lo_get _ _ _ hi,bI i true (by omega)];refine and_congr_right fun _=>exists_congr fun o'=>and_congr_right fun fV=>forall_congr' fun e=>forall_congr' fun he=>forall_congr' fun hb=> ?_
    have:=spec.acy i o' fV e he hb;rw[lo_get _ _ _ (by omega)]
   obtain⟨B1,hB1,hI1⟩:∃B1,(B1.nt=B.nt/\B1.N=B.N/\B1.ro=B.ro)/\Inv B1 (lo listed) a w:=by
    rcases hJ with ⟨_,hI⟩ | ⟨_,B',b,hB,_,hI⟩
    ·exact⟨B,⟨rfl,rfl,rfl⟩,hI⟩
    ·exact⟨B',⟨hB.1,hB.2.1,hB.2.2.1⟩,hI⟩
   obtain⟨hsl1,h5,h6⟩:=i2 _ _ _ _ hI1;refine⟨fun hr=> ?_,fun i hi=> ?_⟩
   ·exfalso
    have h7:Region.ready .any ops (lo listed)=[]:=by
     rw[List.eq_nil_iff_forall_not_mem];intro i hi
     have qV:i<ops.size:=by
      rw[mem_ready]at hi;obtain⟨_,o',fV,_⟩:=hi;exact(aC0.1 fV).1
     have:=(low i qV).1 hi;rw[hr]at this;simp at this
    have h8:=h5 h7
    rcases hJ with ⟨vA,_⟩ | ⟨vA,_⟩
    ·have:ops.size∈Region.ready .any ((ops.push z).push o) listed:=by
      rw[mem_ready,bI _ true (by omega)];exact⟨vA,z,at_z,fun e he=>by rw[hz.2.2.2]at he;simp at he⟩
     rw[hr]at this;simp at this
    ·have:ops.size+1∈Region.ready .any ((ops.push z).push o) listed:=by
      rw[mem_ready,bI _ true (by omega)];refine⟨dU,o,at_o,fun e he _=> ?_⟩;have:=spec2.2 e he
      by_cases vS:e.on=ops.size
      ·rw[vS];exact vA
      ·rw[<-lo_get listed e.on false (by omega)];exact h8 e.on (by omega)
     rw[hr]at this;simp at this
   ·have hi0:=hi;rw[mem_ready]at hi0;obtain⟨g0,o',fV,wL⟩:=hi0;have qV:i<ops.size+2:=by have:=(aC0.1 fV).1;omega
    rw[bI i true qV]at g0;have vP:∀k,k≠i->(listed.setIfInBounds i true).getD k false=listed.getD k false:=fun k hk=>getD_set_ne false (Ne.symm hk)
    by_cases kH:i<ops.size
    ·have hio:ops[i]? =some o':=by rw[<-at_lo i kH];exact fV
     have hdn:o'.dst≠some t:=dH o' (by simpa using Array.mem_of_getElem? hio)
     have hy:Region.wanted o' (yielded ((ops.push z).push o) a.tmps)=Region.wanted o' (yielded ops a.tmps):=by
      unfold Region.wanted
      cases hg:o'.guard with
      | none=>rfl
      | some jw =>
       obtain⟨j,want⟩:=jw
       have hj:j<ops.size:=by
        have h9:=aZ0.1 yC o' (by simpa using Array.mem_of_getElem? hio);rw[hg]at h9;simpa using h9
       simp only[yielded,at_lo j hj]
     have conv:∀{K:Act->World->Prop},wpOpIn (wd B.ro) 0 P ops (QQ B Q) i K a w->wpOpIn (wd B.ro) 0 P ((ops.push z).push o) (QQ B Q) i K a w:=by
      intro K hh;unfold wpOpIn at hh |-;rw[hio]at hh;rw[fV];simp only at hh |-;rw[hy];exact hh
     have gX:(listed.setIfInBounds i true).size=ops.size+2:=by simpa using qI
     have wW:(listed.setIfInBounds i true).getD (ops.size+1) false=false:=by rw[vP _ (by omega)];exact dU
     rcases hJ with ⟨vA,hI⟩ | ⟨vA,B',b,hB,hv,hI⟩
     ·refine conv (i3 B (lo listed) a w i _ _ rfl rfl hI ((low i kH).2 hi) fun a' w' hI'=> ?_)
      exact ih _ a' w' (cnt1 i qV g0) gX wW (.inl ⟨by rw[vP _ (by omega)];exact vA,by rw[lo_set _ i kH qI];exact hI'⟩)
     ·have hw:=i3 B' (lo listed) a w i (Inv B' ((lo listed).setIfInBounds i true)) (QQ B Q) hB.1 hB.2.1 hI ((low i kH).2 hi) fun _ _ h=>h
      rw[hB.2.2.1]at hw;refine conv ?_
      unfold wpOpIn at hw |-;rw[hio]at hw |-;simp only at hw |-
      have nx:∀a' w',Inv B' ((lo listed).setIfInBounds i true) a' w'/\a'.tmps.getD t Go.undef= .pointer (some ⟨b,0,none⟩)->wpAnyIn (wd B.ro) 0 P .any ((ops.push z).push o) (QQ B Q) fuel (listed.setIfInBounds i true) a' w':=by
       rintro a' w' ⟨hI',zB⟩;exact ih _ a' w' (cnt1 i qV g0) gX wW (.inr ⟨by rw[vP _ (by omega)];exact vA,B',b,hB,zB,by rw[lo_set _ i kH qI];exact hI'⟩)
      split
      ·rename_i vU;rw[if_pos vU]at hw;exact Oper.wpIn_mono nx (xV hdn hv hw)
      ·rename_i vU;rw[if_neg vU]at hw;refine⟨hw.1,nx _ _ ⟨hw.2,?_⟩⟩;unfold Act.put
       cases hd:o'.dst with
       | none=>exact hv
       | some i' =>
        have zP:i'≠t:=fun e=>hdn (by rw[hd,e])
        show (a.tmps.setIfInBounds i' _).getD t Go.undef=_
        rw[aO0]at hv |-;rw[dG0 zP];exact hv
    ·by_cases hiz:i=ops.size
     ·subst hiz;rw[at_z]at fV;simp only[aA0]at fV;subst fV
      rcases hJ with ⟨_,hI⟩ | ⟨vA,_⟩
      ·obtain⟨dst,op,type,Fx,after,guard⟩:=z;obtain⟨zQ,vT,mV,mJ⟩:=hz;simp only at zQ vT mV mJ;subst zQ vT mV mJ;unfold wpOpIn;rw[at_z];simp only;rw[if_pos (by simp[Region.wanted])];obtain⟨us,u1,u2,u3,u4⟩:=eJ (a:=a) (w:=w) (i:=t) (type:=type) (Fx:=Fx) (after:= #[]) (guard:=none) yY qS;refine Ej (fun c hc=>by cases hc) u4 ?_
       obtain⟨B',⟨hB',zB⟩,hI'⟩:=i4 B (fun B'=>Hz_ B B' t w.heap.size cs/\(a.put (some t) (.pointer (some ⟨w.heap.size,0,none⟩))).tmps.getD t Go.undef= .pointer (some ⟨w.heap.size,0,none⟩)) (lo listed) a w (a.put (some t) (.pointer (some ⟨w.heap.size,0,none⟩))) (w.alloc (.cells us.toArray ty)) t hI dH (fun X loc hX RX=>by
        obtain⟨B',b1,b2⟩:=RX.hide (ty:=ty) ht (by rw[hX];exact hsl) u1 u2 u3;refine⟨B',⟨b1,?_⟩,b2⟩
        show (a.tmps.setIfInBounds t _).getD t Go.undef=_
        rw[aO0,cN0 (by rw[RX.nt];exact ht)]
        rfl)
       refine ih _ _ _ (cnt1 _ qV g0) (by simpa using qI) (by rw[vP _ (by omega)];exact dU) (.inr ⟨?_,B',_,hB',zB,by rw[lo_set2 _ _ (Nat.le_refl _)];exact hI'⟩);rw[aO0,cN0 (by omega)];rfl
      ·rw[vA]at g0;simp at g0
     ·have kI:i=ops.size+1:=by omega
      subst kI;rw[at_o]at fV;simp only[aA0]at fV;subst fV
      have wZ:∀k,k<ops.size+1->k≠lt->listed.getD k false=true:=by
       intro k hk yJ;obtain⟨e,he,hb,rfl⟩:=spec2.1 k hk yJ;exact wL e he hb
      rcases hJ with ⟨vA,_⟩ | ⟨_,B',b,hB,hv,hI⟩
      ·rw[wZ _ (by omega) (Ne.symm fC)]at vA;simp at vA
      ·unfold wpOpIn;rw[at_o];simp only;rw[if_pos (by simp[Region.wanted,ho])]
       have fin:∀(a:Act) (w:World) l,Inv B' l a w->(∀k,k<ops.size->l.getD k false=true)->a.tmps.getD t Go.undef= .pointer (some ⟨b,0,none⟩)->∀Q',o.wpIn (wd B.ro) 0 P a w (fun a' w'=>QQ B Q .normal a' w') Q':=by
        intro a w l hI hl hv Q';obtain⟨_,_,h9⟩:=i2 _ _ _ _ hI;obtain⟨s1,loc1,hK,R1⟩:=h9 hl;obtain⟨loc2,R2⟩:=hB.2.2.2 s1 a w loc1 R1 hv;rw[BO]at hK;have hK:=hK (Cd B s1);exact GN_ ho hK R2 fun s' a' w' loc' hk R'=>⟨s',loc',hk,R'⟩
       have setO:(listed.setIfInBounds (ops.size+1) true).getD (ops.size+1) false=true:=by
        rw[aO0,cN0 (by omega)];rfl
       by_cases pW:∀k,k<ops.size->listed.getD k false=true
       ·refine Oper.wpIn_mono (fun a' w' hq=> ?_) (fin a w (lo listed) hI (fun k hk=>by rw[lo_get _ _ _ hk];exact pW k hk) hv _);refine done fuel _ a' w' (by simpa using qI) (fun k hk=> ?_) hq
        by_cases zT:k=ops.size+1
        ·subst zT;exact setO
        ·rw[vP k zT]
         by_cases hk3:k=ops.size
         ·exact wZ k (by omega) (by omega)
         ·exact pW k (by omega)
       ·have hlt1:lt<ops.size/\listed.getD lt false=false:=by
         refine Classical.byContradiction fun hn=>pW fun k hk=> ?_
         by_cases yJ:k=lt
         ·subst yJ
          cases hg:listed.getD k false with
          | true=>rfl
          | false=>exact absurd ⟨hk,hg⟩ hn
         ·exact wZ k (by omega) yJ
        obtain⟨kX,vR⟩:=hlt1;obtain⟨p,hp⟩:∃p,ops[lt]? =some p:=⟨ops[lt],bO0 kX⟩;obtain⟨⟨u,kk,fD⟩,hpg,wO,hdo,hpa⟩:=dA p hp
        have jS:lt∈Region.ready .any ops (lo listed):=by
         rw[mem_ready];refine⟨by rw[lo_get _ _ _ kX];exact vR,p,hp,fun e he hb=> ?_⟩;have:=spec.acy lt p hp e he hb;rw[lo_get _ _ _ (by omega)];exact wZ _ (by omega) (by omega)
        have hw:=i3 B' (lo listed) a w lt (Inv B' ((lo listed).setIfInBounds lt true)) (fun _ _ _=>False) hB.1 hB.2.1 hI jS fun _ _ h=>h
        unfold wpOpIn at hw;rw[hp]at hw;simp only at hw;rw[if_pos (by simp[Region.wanted,hpg])]at hw;obtain⟨v,fT,hI2⟩:=FT_ fD hw;have jO:p.dst≠some t:=dH p (by simpa using Array.mem_of_getElem? hp)
        have hv2:(a.put p.dst v).tmps.getD t Go.undef= .pointer (some ⟨b,0,none⟩):=by
         unfold Act.put
         cases hd:p.dst with
         | none=>exact hv
         | some i' =>
          have zP:i'≠t:=fun e=>jO (by rw[hd,e])
          show (a.tmps.setIfInBounds i' _).getD t Go.undef=_
          rw[aO0]at hv |-;rw[dG0 zP];exact hv
        have bZ:∀k,k<ops.size->((lo listed).setIfInBounds lt true).getD k false=true:=by
         intro k hk;rw[<-lo_set _ _ kX qI,lo_get _ _ _ hk]
         by_cases yJ:k=lt
         ·subst yJ;rw[aO0,cN0 (by omega)];rfl
         ·rw[getD_set_ne false (Ne.symm yJ)];exact wZ k (by omega) yJ
        refine Oper.wpIn_mono (fun a' w' hq=> ?_) (Ak_ (ops:=(ops.push z).push o) wO hdo hpa (fin _ w _ hI2 bZ hv2 _) (QQ B Q));obtain⟨jT,yE⟩:=hq
        have zF:lt∈Region.ready .any ((ops.push z).push o) (listed.setIfInBounds (ops.size+1) true):=by
         rw[mem_ready];refine⟨?_,p,by rw[at_lo lt kX];exact hp,fun e he hb=> ?_⟩
         ·rw[getD_set_ne true (by omega),bI lt true (by omega)];exact vR
         ·have:=spec.acy lt p hp e he hb;rw[getD_set_ne false (by omega)];exact wZ _ (by omega) (by omega)
        cases fuel with
        | zero =>
         have h1:=cnt1 _ qV g0;have:=(List.countP_eq_length (p:=fun k=>(listed.setIfInBounds (ops.size+1) true).getD k false) (l:=List.range (ops.size+2))).1 (by simpa using h1) lt (bZ0.2 (by omega));simp only[getD_set_ne false (show ops.size+1≠lt by omega),vR]at this;simp at this
        | succ fuel =>
         refine⟨fun hr=>by rw[hr]at zF;simp at zF,fun j hj=> ?_⟩
         have hjl:j=lt:=by
          refine Classical.byContradiction fun hn=> ?_
          rw[mem_ready]at hj;obtain⟨j0,oj,hoj,_⟩:=hj;have hj2:j<ops.size+2:=by have:=(aC0.1 hoj).1;omega
          by_cases hje:j=ops.size+1
          ·subst hje;rw[aO0,cN0 (by omega)]at j0;simp at j0
          ·rw[getD_set_ne true (Ne.symm hje),bI j true hj2,wZ j (by omega) hn]at j0;simp at j0
         subst hjl;unfold wpOpIn;rw[at_lo j kX,hp];simp only;rw[if_pos (by simp[Region.wanted,hpg])];refine Ej (fun c hc=>by rw[fD]at hc;cases hc) (fT a' w' yE) ?_;refine done fuel _ _ w' (by simpa using qI) (fun k hk=> ?_) jT
         by_cases zT:k=j
         ·subst zT;rw[aO0,cN0 (by simp;omega)];rfl
         ·rw[getD_set_ne false (Ne.symm zT)]
          by_cases hk3:k=ops.size+1
          ·subst hk3;exact setO
          ·rw[vP k hk3];exact wZ k (by omega) zT
 have gZ:∀k,(Array.replicate (ops.size+2) false).getD k false=false:=by
  intro k;simp[aO0,dX0]
  split<;>simp
 have hlo:lo (Array.replicate (ops.size+2) false)=Array.replicate ops.size false:=by
  apply Array.ext
  ·simp[lo]
  ·intro j h1 h2;simp only[lo,Array.getElem_ofFn,gZ,Array.getElem_replicate]
 rw[hsz3];refine main (ops.size+2) _ a _ ?_ (by simp) (gZ _) (.inl ⟨gZ _,by rw[hlo];exact i1 B rfl rfl a w loc R⟩)
 have:(List.range (ops.size+2)).countP (fun k=>(Array.replicate (ops.size+2) false).getD k false)=0:=by
  rw[List.countP_eq_zero];intro k _;rw[gZ];simp
 omega
theorem PH (ow l1 l2:List Nat) (lt:Nat) {id t ty:Nat} {ops ops3:Array Oper} {z o:Oper} {cs:List DVal} {Q:Exit->DS->Prop} (hm:P.follows .mixedOrders=true) (h3:ops3=(ops.push z).push o) (qG:Ei ow l1 l2 ops=true)
  (hz:z.op= .alloc ty/\z.dst=some t/\z.guard=none/\z.after= #[]) (ho:o.guard=none) (jV:Ro lt o (ops.size+1)=true) (fC:lt≠ops.size) (dA:∀p,ops[lt]? =some p->LateP ops3 p o) (yC:FO_ ops=true)
  (ht:t<B.nt) (qT:ops.toList.all (fun o=>decide (o.dst≠some t))=true) (hsl:getS s.slots t= .any) (yY:tZero P ty=some cs) (qS:cs.all (Fy [])=true)
  (h:Ci P B.nt ow l1 l2 ops ops.toList 0 (kF P B (Q .normal) ow t cs o) s):DW P B (.region id ops3 true) Q s:=by
 intro a w loc R;exact wpIn_region_any hm (BO_ ow l1 l2 h3 qG hz ho lt jV fC dA yC ht qT hsl yY qS h R)
def DB_ (lt:Nat) (ops ops3:Array Oper) (o:Oper):Bool:=match ops[lt]? with
 | none=>true
 | some p=>(match p.op with | .extract (.tmp _) _=>true | _=>false)&&p.guard.isNone&&(match o.op with | .store _ _ _=>true | _=>false)&&o.dst.isNone&&(match p.dst with | some d=> !(o.looksAt ops3).contains d | none=>true)
theorem FM_ {lt:Nat} {ops ops3:Array Oper} {o:Oper} (h:DB_ lt ops ops3 o=true):∀p,ops[lt]? =some p->LateP ops3 p o:=by
 intro p hp;unfold DB_ at h;rw[hp]at h;simp only[aL0]at h;obtain⟨⟨⟨⟨h1,h2⟩,h3⟩,h4⟩,h5⟩:=h;refine⟨?_,by simpa using h2,?_,by simpa using h4,fun d hd=> ?_⟩
 ·split at h1
  ·exact⟨_,_,by assumption⟩
  ·cases h1
 ·split at h3
  ·exact⟨_,_,_,by assumption⟩
  ·cases h3
 ·rw[hd]at h5;simpa using h5
def VZ (ow l1 l2:List Nat) (lt:Nat) (ops3:Array Oper) (t ty:Nat):Bool :=
 Ei ow l1 l2 ops3.pop.pop&&FO_ ops3.pop.pop&&ops3.pop.pop.toList.all (fun o=>decide (o.dst≠some t)) &&
 (match ops3.pop.back? with | some z=>(match z.op with | .alloc ty'=>ty'==ty | _=>false)&&z.dst==some t&&z.guard.isNone&&z.after.isEmpty | none=>false) &&
 (match ops3.back? with | some o=>o.guard.isNone&&Ro lt o (ops3.pop.pop.size+1)&&DB_ lt ops3.pop.pop ops3 o&&decide (lt≠ops3.pop.pop.size) | none=>false)
theorem lI {ow l1 l2:List Nat} {lt:Nat} {ops3:Array Oper} {t ty:Nat} {z o:Oper} (hzb:ops3.pop.back?=some z) (qN:ops3.back?=some o) (hc:VZ ow l1 l2 lt ops3 t ty=true) :
  Ei ow l1 l2 ops3.pop.pop=true/\FO_ ops3.pop.pop=true/\ops3.pop.pop.toList.all (fun o=>decide (o.dst≠some t))=true/\(z.op= .alloc ty/\z.dst=some t/\z.guard=none/\z.after= #[])/\o.guard=none/\Ro lt o (ops3.pop.pop.size+1)=true/\(∀p,ops3.pop.pop[lt]? =some p->LateP ops3 p o)/\lt≠ops3.pop.pop.size:=by
 unfold VZ at hc;rw[hzb,qN]at hc;simp only[aL0]at hc;obtain⟨⟨⟨⟨c1,c2⟩,c3⟩,c4⟩,c5⟩:=hc;obtain⟨⟨⟨c6,c7⟩,c8⟩,c9⟩:=c4;refine⟨c1,c2,c3,⟨?_,by simpa using c7,by simpa using c8,by simpa using c9⟩,by simpa using c5.1.1.1,c5.1.1.2,FM_ c5.1.2,by simpa using c5.2⟩;cases hz:z.op<;>rw[hz]at c6<;>simp at c6;rw[c6]
theorem xS (ow l1 l2:List Nat) (t ty:Nat) (cs:List DVal) {id:Nat} {ops3:Array Oper} {z o:Oper} {Q:Exit->DS->Prop} (hm:P.follows .mixedOrders=true) (hzb:ops3.pop.back?=some z) (qN:ops3.back?=some o) (h3:ops3=(ops3.pop.pop.push z).push o) (hc:VZ ow l1 l2 1000 ops3 t ty=true)
  (ht:t<B.nt) (hsl:getS s.slots t= .any) (yY:tZero P ty=some cs) (qS:cs.all (Fy [])=true)
  (h:Ci P B.nt ow l1 l2 ops3.pop.pop ops3.pop.pop.toList 0 (kF P B (Q .normal) ow t cs o) s):DW P B (.region id ops3 true) Q s:=by
 obtain⟨c1,c2,c3,c4,c5,c6,c7,c8⟩:=lI hzb qN hc;exact PH ow l1 l2 1000 (z:=z) (o:=o) hm h3 c1 c4 c5 c6 c8 c7 c2 ht c3 hsl yY qS h
end
theorem Ql {P:Program} {B:Base} {Q:Exit->DS->Prop} {s:DS} {x:Code} (bid c k bs:Nat) {rb:Nat} {cs:List DVal} (h:Ah s.own bid=some ⟨bid,rb,.box cs⟩) (hc:cs.getD c .any= .nilsl)
  (hw:DW P B x Q ⟨s.slots,upE s.own bid rb (.box (cs.set c (.sl k bs [])))⟩):DW P B x Q s:=by
 refine ER (fun a w loc R=> ?_) hw;refine R.reBox h rfl (by simp) fun arr hr=>Vm cs arr 0 c (fun v hv=> ?_) hr
 rw[hc]at hv;simp only[rd]at hv |-;rw[hv];exact⟨none,0,by simp,by simp,by simp,by simp,.inl ⟨by simp,fun _=>rfl⟩⟩
end Go.Dm
end
