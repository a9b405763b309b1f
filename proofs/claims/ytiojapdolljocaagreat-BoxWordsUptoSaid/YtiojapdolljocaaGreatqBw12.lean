/- Parts of a proof, laid together: EnK, EnL. -/
import Derived.Test.YtiojapdolljocaaGreatqBw11
set_option linter.unusedSimpArgs false
set_option maxHeartbeats 8000000
set_option linter.unusedVariables false
set_option linter.unusedSectionVars false
section
namespace Go.Dm
variable [DMode]
def Lk (a b:List Ent):Prop:=∀id e,Aj a id=some e->Aj b id=some e
section
variable {P : Program} {a b : List Ent} {e : Operand -> DVal}
theorem Dw (h:Lk a b) {id r:Nat} (hc:DK a id r=true):DK b id r=true:=by
 unfold DK at hc |-
 split at hc
 ·rename_i x hx;rw[h _ _ hx];exact hc
 ·simp at hc
theorem NV (h:Lk a b) {p:DVal} {cs:List DVal} (hc:DA a p=some cs):DA b p=some cs:=by
 cases p<;>simp only[DA]at hc |- <;>try exact hc
 ·split at hc
  ·rename_i x hx;rw[h _ _ hx];exact hc
  ·simp at hc
 ·split at hc
  ·rename_i x hx;rw[h _ _ hx];exact hc
  ·simp at hc
theorem EO (h:Lk a b) {p:DVal} {x:Nat×Nat×List (List DVal)} (hc:AZ a p=some x):AZ b p=some x:=by
 cases p<;>simp only[AZ]at hc |- <;>try exact hc
 ·split at hc
  ·rename_i y hy;rw[h _ _ hy];exact hc
  ·simp at hc
 ·split at hc
  ·rename_i y hy;rw[h _ _ hy];exact hc
  ·simp at hc
theorem Al_ (h:Lk a b) {d:DVal} (hc:Fe a d=true):Fe b d=true:=by
 cases d<;>simp only[Fe]at hc |- <;>try exact hc
 ·exact Dw h hc
 ·exact Dw h hc
 ·obtain⟨x,hx⟩:=bG0.1 hc;rw[EO h hx];rfl
 ·exact Dw h hc
 ·exact Dw h hc
 ·split at hc
  ·rename_i e he;rw[h _ e he];exact hc
  ·simp at hc
theorem KK (h:Lk a b) {d:DVal} (hc:Cs a d=true):Cs b d=true:=by
 unfold Cs at hc |-;exact aX0.2 fun x hx=>Al_ h (aX0.1 hc x hx)
theorem SP (h:Lk a b) {p:DVal} {x:List DVal×List DVal} (hc:FT a p=some x):FT b p=some x:=by
 unfold FT at hc |-
 split at hc
 ·exact hc
 ·exact hc
 ·rename_i id r
  cases hf:Aj a id with
  | none=>rw[hf]at hc;simp at hc
  | some e=>rw[hf]at hc;simp only[h id e hf];exact hc
 ·simp at hc
theorem BR_ (h:Lk a b) {bi:Builtin} {ds:List DVal} {ts:List TypeId} (hp:Sl P a bi ds ts):Sl P b bi ds ts/\Mn b bi ds=Mn a bi ds:=by
 unfold Sl at hp
 split at hp
 ·rename_i d t
  cases d<;>simp only[Sl,Mn]at hp |- <;>first
   | exact⟨hp,trivial⟩
   |(obtain⟨h1,h2⟩:=hp
     obtain⟨x,hx⟩:=bG0.1 h1;rw[hx,EO h hx]
     exact⟨⟨rfl,h2⟩,rfl⟩)
   |(obtain⟨h1,h2⟩:=hp
     split at h2
     ·rename_i hx;rw[SP h hx];exact⟨⟨h1,h2⟩,rfl⟩
     ·exact h2.elim)
 ·simp only[Sl,Mn];exact⟨hp,trivial⟩
 ·simp only[Sl,Mn];exact⟨hp,trivial⟩
 ·simp only[Sl,Mn];exact⟨hp,trivial⟩
 ·exact hp.elim
theorem Fl_ (h:Lk a b) (op:Op) (hp:Fm P a e op):Fm P b e op/\Bx P b e op=Bx P a e op:=by
 cases op<;>simp only[Fm,Bx]at hp |- <;>first
  | exact⟨hp,trivial⟩
  | exact hp.elim
  | trivial
  | skip
 case fieldAddr t x f =>
  refine⟨?_,trivial⟩
  split at hp
  ·exact hp
  ·exact⟨hp.1,Dw h hp.2⟩
  ·exact⟨hp.1,Dw h hp.2⟩
  ·exact hp.elim
 case nilCheck x =>
  refine⟨?_,trivial⟩
  split at hp
  ·trivial
  ·exact Dw h hp
  ·exact Dw h hp
  ·trivial
  ·exact hp.elim
 case load t x =>
  split at hp
  ·rename_i h1 h2 h3;rw[h1,h2,NV h h3];exact⟨hp,rfl⟩
  ·rename_i h1 h3;rw[h1,NV h h3];exact⟨hp,rfl⟩
  ·exact hp.elim
 case indexAddr t x i =>
  split at hp
  ·rename_i ik n k bs k' bs' es h1 h2 h3;rw[h1,h2,EO h h3];refine⟨hp,?_⟩;simp only;cases hx:e x<;>rw[hx]at h3<;>simp only[FW];rw[h3,EO h h3]
  ·rename_i ik n h1 h2;rw[h1,h2];simp only
   split at hp
   ·rename_i len k h3;obtain⟨p1,p2,p3⟩:=hp;refine⟨⟨p1,p2,?_⟩,trivial⟩;cases hx:e x<;>rw[hx]at p3<;>simp only at p3 |- <;>exact Dw h p3
   ·exact hp.elim
  ·exact hp.elim
 case box t x=>exact⟨KK h hp,trivial⟩
 case slice t x l' h' m =>
  cases hx:e x<;>rw[hx]at hp<;>simp only at hp |- <;>first
   | exact⟨hp,trivial⟩
   | exact hp.elim
   | skip
  ·rename_i id r
   cases dY:AZ a (.osl id r)with
   | none=>rw[dY]at hp;exact hp.2.elim
   | some y=>rw[dY]at hp;rw[EO h dY];exact⟨hp,rfl⟩
  ·obtain⟨h1,h2,h3⟩:=hp;obtain⟨y,hy⟩:=bG0.1 h2;rw[EO h hy];exact⟨⟨h1,rfl,h3⟩,trivial⟩
 case lookup t x i ok =>
  split at hp
  ·rename_i h1 h2;rw[h1,SP h h2];exact⟨hp,rfl⟩
  ·exact hp.elim
 case build t ps =>
  refine⟨?_,trivial⟩
  split at hp
  ·exact⟨hp.1,aX0.2 fun p hm=>KK h (aX0.1 hp.2.1 p hm),hp.2.2⟩
  ·exact hp.elim
 case buildSlice t n ps =>
  refine⟨?_,trivial⟩
  split at hp
  ·obtain⟨h1,h2,h3,h4,h5,h6,h7⟩:=hp;refine⟨h1,h2,h3,h4,h5,?_,h7⟩;refine aX0.2 fun p hm=> ?_
   have:=aX0.1 h6 p hm;rw[aM0]at this |-;exact⟨KK h this.1,this.2⟩
  ·exact hp.elim
 case call c =>
  obtain⟨cal,args,ts⟩:=c
  cases cal with
  | builtin bi=>exact BR_ h hp
  | value f=>exact hp.elim
  | invoke r m=>exact hp.elim
end
theorem lE : ∀{l:List DVal} {d:DVal},d∈l->mx d<=AJ l
 | x::l,d,h=>by
  simp only[AJ]
  rcases aL0.1 h with rfl | h
  ·omega
  ·have:=lE h;omega
theorem UC : ∀{l:List (List DVal)} {d:List DVal},d∈l->AJ d<=Bq l
 | x::l,d,h=>by
  simp only[Bq]
  rcases aL0.1 h with rfl | h
  ·omega
  ·have:=UC h;omega
theorem UD {n:Nat}:∀{l:List DVal},(∀d∈l,mx d<=n)->AJ l<=n
 | [],_=>by simp[AJ]
 | x::l,h=>by
  simp only[AJ];have:=h x aK0;have:=UD (l:=l) fun d hd=>h d (aI0 _ hd)
  omega
theorem ZX {n:Nat}:∀{l:List (List DVal)},(∀d∈l,AJ d<=n)->Bq l<=n
 | [],_=>by simp[Bq]
 | x::l,h=>by
  simp only[Bq];have:=h x aK0;have:=ZX (l:=l) fun d hd=>h d (aI0 _ hd)
  omega
theorem Qe (l:List DVal):mx (l.headD .any)<=AJ l:=by
 cases l with
 | nil=>simp[mx,AJ]
 | cons d l=>simp only[List.headD_cons,AJ];omega
theorem lD (l:List DVal) (i:Nat):mx (l.getD i .any)<=AJ l:=by
 rw[bA0]
 cases h:l[i]? with
 | none=>simp[mx]
 | some d=>exact lE (bJ0 h)
theorem AF_ (l:List (List DVal)) (i:Nat):AJ (l.getD i [])<=Bq l:=by
 rw[bA0]
 cases h:l[i]? with
 | none=>simp[AJ]
 | some d=>exact UC (bJ0 h)
section
variable {P : Program} {own : List Ent} {e : Operand -> DVal} {n : Nat}
theorem QY {p:DVal} {cs:List DVal} (hc:DA own p=some cs):AJ cs<=max (mx p) (Gj own):=by
 unfold DA at hc
 split at hc
 ·simp only[aA0]at hc;subst hc;simp only[mx];omega
 ·split at hc
  ·rename_i x hx
   split at hc
   ·split at hc
    ·rename_i cs0 qZ;simp only[aA0]at hc;subst hc;have h1:=(Be (AN hx).1).2;rw[qZ]at h1;simp only[EP]at h1;exact Nat.le_trans (Eo _ _) (by omega)
    ·simp at hc
   ·simp at hc
  ·simp at hc
 ·split at hc
  ·rename_i x hx
   split at hc
   ·split at hc
    ·rename_i es qZ
     split at hc
     ·rw[aY0]at hc;obtain⟨c0,h0,rfl⟩:=hc;have h1:=(Be (AN hx).1).2;rw[qZ]at h1;simp only[EP]at h1;have h2:=UC (bJ0 h0);exact Nat.le_trans (Eo _ _) (by omega)
     ·simp at hc
    ·simp at hc
   ·simp at hc
  ·simp at hc
 ·simp at hc
theorem Xy {place:Nat->Option (Nat×Nat)}:∀(ps:List (Nat×DVal)) (z r:List DVal),FZ place z ps=some r->AJ z<=n->(∀p∈ps,mx p.2<=n)->AJ r<=n
 | [],z,r,h,hz,_=>by simp only[FZ,aA0]at h;subst h;exact hz
 | (i,d)::ps,z,r,h,hz,hp=>by
  simp only[FZ]at h
  split at h
  ·simp at h
  ·split at h
   ·refine Xy ps _ r h ?_ fun p hm=>hp p (aI0 _ hm)
    have h2:=hp (i,d) aK0;refine Nat.le_trans (JC z _ (AB d)) ?_;rw[Cy];simp only at h2;omega
   ·simp at h
theorem Lr {t:TypeId} {z:List DVal} (h:tZero P t=some z):AJ z=0:=by
 have h1:∀v,mx (BZ v)=0:=by
  intro v;unfold BZ
  split<;>(try split)<;>simp[mx]
 obtain⟨zv,_,rfl⟩:=FK (w:=default) h
 have:AJ (zv.cells.toList.map BZ)<=0:=UD fun d hd=>by
  obtain⟨v,_,rfl⟩:=aQ0.1 hd;rw[h1];omega
 omega
theorem Dp_ {op:BinOp} {t:TypeId} {x y d:DVal} (h:Gl P op t x y=some d):mx d=0:=by
 unfold Gl at h
 repeat' split at h
 all_goals first
  | (simp only[aA0]at h;subst h;rfl)
  | simp at h
theorem Dy_ {bi:Builtin} {ds:List DVal}:mx (Mn own bi ds)=0:=by
 unfold Mn
 repeat' split
 all_goals rfl
theorem sL {d:DVal} {i:Int} (hn:Gj own<=n) (hd:mx d<=n):mx (FW own d i)<=n:=by
 unfold FW
 split
 ·rename_i k bs es;simp only[mx]at hd |-;exact Nat.le_trans (AF_ _ _) hd
 ·split
  ·simpa[mx]using hd
  ·simp[mx]
 ·simpa[mx]using hd
 ·simp[mx]
theorem Ay_ {t:Bool} {x y:DVal} (hx:mx x<=n) (hy:mx y<=n):mx (IQ t x y)<=n:=by
 unfold IQ
 split<;>first
  | (simp[mx];done)
  | (split<;>assumption)
theorem AJ_ {p:DVal} {ks vs:List DVal} (hc:FT own p=some (ks,vs)):AJ vs<=max (mx p) (Gj own):=by
 unfold FT at hc
 split at hc
 ·simp only[aA0,aR0]at hc;obtain⟨rfl,rfl⟩:=hc;simp only[mx];omega
 ·simp only[aA0,aR0]at hc;obtain⟨rfl,rfl⟩:=hc;simp[AJ]
 ·split at hc
  ·rename_i e he
   split at hc
   ·split at hc
    ·rename_i qZ;simp only[aA0,aR0]at hc;obtain⟨rfl,rfl⟩:=hc;have:=(Be (AN he).1).2;rw[qZ]at this;simp only[EP]at this;omega
    ·simp at hc
   ·simp at hc
  ·simp at hc
 ·simp at hc
theorem El_ (v:Value):mx (ofV v)=0:=by
 have h1:∀v,mx (BZ v)=0:=by
  intro v;unfold BZ
  split<;>(try split)<;>simp[mx]
 unfold ofV
 split
 ·rename_i cs;simp only[mx]
  generalize cs.toList=l
  induction l with
  | nil=>simp[AJ]
  | cons v l ih=>simp[AJ,h1,ih]
 ·exact h1 _
theorem pU {t:TypeId} {z:DVal} (h:tZeroD P t=some z):mx z=0:=by
 unfold tZeroD at h
 split at h
 ·rw[aY0]at h;obtain⟨v,_,rfl⟩:=h;exact El_ v
 ·simp at h
theorem Fk_ (hn:Gj own<=n) (op:Op) (h:∀x∈op.operands,mx (e x)<=n):mx (Bx P own e op)<=n:=by
 have any0:mx DVal.any<=n:=by simp[mx]
 have parts:∀(ps:Array (Nat×Operand)),(∀x∈(ps.toList.map (·.2)).toArray,mx (e x)<=n)->∀p∈ps.toList,mx (e p.2)<=n:=by
  intro ps h p hp;exact h p.2 (by simpa using ⟨p.1,by simpa using hp⟩)
 cases op<;>simp only[Op.operands]at h<;>simp only[Bx]<;>try exact any0
 case move x=>exact h x (by simp)
 case assign x=>exact h x (by simp)
 case nilCheck x=>exact h x (by simp)
 case pick c x y =>
  split
  ·exact Ay_ (h x (by simp)) (h y (by simp))
  ·exact any0
 case fieldAddr t x f =>
  have:=h x (by simp)
  split
  ·rename_i hx;rw[hx]at this;simp only[mx]at this |-;exact Nat.le_trans (Eo _ _) this
  ·rename_i hx;rw[hx]at this;simpa[mx]using this
  ·rename_i hx;rw[hx]at this;simpa[mx]using this
  ·exact any0
 case load t x =>
  have:=h x (by simp)
  split
  ·rename_i h3;have:=QY h3;simp only[mx];exact Nat.le_trans (LL _ _) (by omega)
  ·rename_i h3;have:=QY h3;exact Nat.le_trans (Qe _) (by omega)
  ·exact any0
 case indexAddr t x i =>
  split
  ·exact sL hn (h x (by simp))
  ·split
   ·have:=h x (by simp);unfold eE
    split
    ·rename_i hx;rw[hx]at this;simp only[mx]at this |-;exact Nat.le_trans (Eo _ _) this
    ·rename_i hx;rw[hx]at this;simpa[mx]using this
    ·rename_i hx;rw[hx]at this;simpa[mx]using this
    ·exact any0
   ·exact any0
  ·exact any0
 case index t x i =>
  split
  ·simp[mx]
  ·rename_i cs ik n hx hi;have:=h x (by simp);rw[hx]at this;simp only[mx]at this;exact Nat.le_trans (Qe _) (Nat.le_trans (Eo _ _) this)
  ·exact any0
 case field t x f =>
  have:=h x (by simp)
  split
  ·rename_i hx;rw[hx]at this;simp only[mx]at this
   split
   ·simp only[mx];exact Nat.le_trans (LL _ _) (Nat.le_trans (Eo _ _) this)
   ·exact Nat.le_trans (Qe _) (Nat.le_trans (Eo _ _) this)
  ·exact any0
 case binOp op t x y yt =>
  cases hd:Gl P op t (e x) (e y)with
  | none=>exact any0
  | some d=>simp[Dp_ hd]
 case unOp op t x =>
  split
  ·simp[mx]
  ·simp[mx]
  ·exact any0
 case convert src dst x =>
  have:=h x (by simp)
  split
  ·split
   ·simp[mx]
   ·exact any0
  ·exact this
 case extract x i =>
  have:=h x (by simp)
  split
  ·rename_i hx;rw[hx]at this;simp only[mx]at this;exact Nat.le_trans (lD _ _) this
  ·exact any0
 case makeFunc f us cs =>
  simp only[mx]
  have h1:AJ (us.toList.map e)<=n:=UD fun d hd=>by
   obtain⟨x,hx,rfl⟩:=aQ0.1 hd;exact h x (by simp;left;simpa using hx)
  have h2:AJ (cs.toList.map e)<=n:=UD fun d hd=>by
   obtain⟨x,hx,rfl⟩:=aQ0.1 hd;exact h x (by simp;right;simpa using hx)
  omega
 case makeInterface t x=>simp only[mx];exact h x (by simp)
 case slice t x l h' m =>
  have:=h x (by simp)
  split
  ·rename_i hx;rw[hx]at this;simp only[mx]at this |-;exact Nat.le_trans (FP _ _) (Nat.le_trans (FQ _ _) this)
  ·simp[mx]
  ·rename_i hx;rw[hx]at this
   split
   ·simpa[mx]using this
   ·exact any0
  ·rename_i hx;rw[hx]at this;simpa[mx]using this
  ·simp[mx]
  ·exact any0
 case lookup t x i ok =>
  have hx:=h x (by simp)
  split
  ·rename_i kt et ks vs ht hc;have wI:=AJ_ hc
   have key:mx (match AU ks (e i)with | some j=>vs.getD j .any | none=>(tZeroD P et).getD .any)<=n:=by
    split
    ·exact Nat.le_trans (lD _ _) (by omega)
    ·cases hz:tZeroD P et with
     | none=>exact any0
     | some z=>simp[pU hz]
   cases ok
   ·exact key
   ·exact dS0.2 ⟨key,by simp[mx,AJ]⟩
  ·exact any0
 case box t x=>simp only[mx,Cy];exact h x (by simp)
 case build t ps =>
  have hp:=parts ps h
  split
  ·rename_i z hz;simp only[mx]
   cases hf:FZ (GA P t) z (ps.toList.map fun p=>(p.1,e p.2))with
   | none=>simp[AJ]
   | some r =>
    refine Xy _ z r hf (by rw[Lr hz];omega) ?_;intro p hm;obtain⟨q,hq,rfl⟩:=aQ0.1 hm;exact hp q hq
  ·exact any0
 case buildSlice t len ps =>
  have hp:=parts ps h
  split
  ·simp only[mx];refine ZX fun cs hm=> ?_
   obtain⟨q,hq,rfl⟩:=aQ0.1 hm;rw[Cy];exact hp q hq
  ·exact any0
 case call c =>
  split
  ·rw[Dy_];omega
  ·exact any0
theorem WC {l:List (Nat×DVal)}:∀xs:List Operand,Fs true (ev l) xs->∀x∈xs,mx (AW l x)<=mx (ev l x)
 | [],_,x,hx=>by cases hx
 | y::ys,h,x,hx=>by
  simp only[Fs]at h
  rcases aL0.1 hx with rfl | hx
  ·unfold AW;cases hq:ev l x<;>simp only[IA]<;>try exact Nat.le_refl _
   rw[hq]at h;simp only[xA]at h;simp[mx,h.1 trivial]
  ·exact WC ys h.2 x hx
theorem SM {l:List (Nat×DVal)} {x:Operand} (h:xA true (ev l x)):mx (AW l x)<=mx (ev l x):=by
 unfold AW;cases hq:ev l x<;>simp only[IA]<;>try exact Nat.le_refl _
 rw[hq]at h;simp only[xA]at h;simp[mx,h trivial]
theorem WD (t:Bool) (x y:DVal):mx (IQ t x y)<=mx (if t then x else y):=by
 unfold IQ
 split<;>first
  | (simp[mx];done)
  | exact Nat.le_refl _
theorem CG_ {l:List (Nat×DVal)} {op:Op} (qO:IU true (ev l) op) (hp:Fm P own (AW l) op) (hn:Gj own<=n) (h:∀x∈op.operands,mx (ev l x)<=n):mx (Bx P own (AW l) op)<=n:=by
 by_cases hpk:∃x a b,op= .pick x a b
 ·obtain⟨x,a,b,rfl⟩:=hpk;simp only[IU]at qO;obtain⟨h1,h2⟩:=qO;simp only[Fm]at hp;cases hx:AW l x<;>rw[hx]at hp<;>try exact hp.elim
  rename_i t;have h2:=h2 t hx;simp only[Bx,hx];refine Nat.le_trans (WD _ _ _) ?_;cases t
  ·exact Nat.le_trans (SM (h2.2 rfl)) (h b (by simp[Op.operands]))
  ·exact Nat.le_trans (SM (h2.1 rfl)) (h a (by simp[Op.operands]))
 ·have zR:Fs true (ev l) op.operands.toList:=by
   unfold IU at qO
   split at qO
   ·exact absurd ⟨_,_,_,rfl⟩ hpk
   ·exact qO
  exact Fk_ hn op fun x hx=>Nat.le_trans (WC _ zR x (by simpa using hx)) (h x hx)
end
section
variable {P : Program} {o : Oper} {l l' : List (Nat × DVal)} {own : List Ent} {r n : Nat}
theorem aU {e1 e2:Operand->DVal} (h:∀x∈o.op.operands,e1 x=e2 x):It P o e1 own r=It P o e2 own r:=by
 unfold It;obtain⟨dst,op,type,Gg,after,guard⟩:=o;simp only at h |-;cases op<;>simp only[Op.operands]at h<;>simp only
 case box t x=>rw[h x (by simp)]
 case store t a x=>rw[h a (by simp),h x (by simp)]
 case mapUpdate t m k x=>rw[h m (by simp),h k (by simp),h x (by simp)]
 case makeSlice t l c=>rw[h l (by simp),h c (by simp)]
 case buildSlice t n ps =>
  have hc:=(Qc (P:=P) (own:=own) (e:=e1) (e':=e2) (.buildSlice t n ps) h).1;have e1:(ps.toList.map fun p=>AB (e1 p.2))=ps.toList.map fun p=>AB (e2 p.2):=bY0 fun p hm=>by rw[h p.2 (by simpa using ⟨p.1,by simpa using hm⟩)]
  rw[propext hc,e1]
 case call c =>
  obtain⟨cal,args,ts⟩:=c
  cases cal with
  | builtin b =>
   have:args.toList.map (e1)=args.toList.map (e2):=bY0 fun x hx=>h x (by simp[Call.operands];simpa using hx)
   cases b<;>simp only[this]
  | value f=>rfl
  | invoke a b=>rfl
theorem ZJ {e1 e2:Operand->DVal} {c:Call} (h:∀x∈c.operands,e1 x=e2 x):Uk e1 c=Uk e2 c:=by
 obtain⟨cal,args,ts⟩:=c
 cases cal with
 | value f =>
  have h1:args.toList.map e1=args.toList.map e2:=bY0 fun x hx=>h x (by simp[Call.operands];simp at hx;exact .inr hx)
  have h2:=h f (by simp[Call.operands]);simp only[Uk,h1,h2]
 | builtin b=>rfl
 | invoke a b=>rfl
theorem RC {e1 e2:Operand->DVal} {d:DVal} {own':List Ent} (h:∀x∈o.op.operands,e1 x=e2 x) (hx:OD P o e1 own r d own'):OD P o e2 own r d own':=by
 rcases hx with ⟨x,h1,h2⟩ | ⟨c,g,args,h1,h2,h3⟩ | ⟨c,id,r',args,e0,l,e,A,A',b,h1,h2,h3⟩
 ·exact .inl ⟨x,by rw[<-aU h];exact h1,h2⟩
 ·exact .inr (.inl ⟨c,g,args,h1,by rw[<-Mi (fun x hx=>h x (by rw[h1];exact hx))];exact h2,h3⟩)
 ·exact .inr (.inr ⟨c,id,r',args,e0,l,e,A,A',b,h1,by rw[<-ZJ (fun x hx=>h x (by rw[h1];exact hx))];exact h2,h3⟩)
theorem CJ (own:List Ent) (id r:Nat) (obj:DObj):Gj (upE own id r obj)<=max (max (r+1) (EP obj)) (Gj own):=by
 have:Gj (CE own id)<=Gj own:=by
  induction own with
  | nil=>simp[CE]
  | cons e t ih =>
   simp only[CE]
   split
   ·simp only[Gj];omega
   ·simp only[Gj];omega
 simp only[upE,Gj];omega
theorem Dm_ {x:ERes} {ed:Operand->DVal} (h:It P o ed own r=some x) (hp:x.pre) (ho:Gj own<=n) (yD:∀y∈o.op.operands,mx (ed y)<=n) (hr:n<=r):mx x.d<=r+1/\Gj x.own<=r+1:=by
 obtain⟨dst,op,type,Gg,after,guard⟩:=o;unfold It at h;simp only at h;cases op<;>simp only[reduceCtorEq]at h
 case box t y =>
  split at h
  ·rename_i i;simp only[aA0]at h;subst h;refine⟨by simp[mx],Nat.le_trans (CJ _ _ _ _) ?_⟩;have:=yD y (by simp[Op.operands]);simp only[EP,Cy];omega
  ·simp at h
 case buildSlice t len ps =>
  split at h
  ·simp only[aA0]at h;subst h;refine⟨by simp[mx],Nat.le_trans (CJ _ _ _ _) ?_⟩
   have:Bq (ps.toList.map fun p=>AB (ed p.2))<=n:=ZX fun cs hm=>by
    obtain⟨p,zD,rfl⟩:=aQ0.1 hm;rw[Cy];exact yD p.2 (by simpa[Op.operands]using ⟨p.1,by simpa using zD⟩)
   simp only[EP];omega
  ·simp at h
 case alloc t =>
  split at h
  ·rename_i i z hi hz;simp only[aA0]at h;subst h;refine⟨by simp[mx],Nat.le_trans (CJ _ _ _ _) ?_⟩;simp only[EP,Lr hz];omega
  ·simp at h
 case store t ad y =>
  split at h
  ·rename_i id r' off had
   split at h
   ·rename_i e he
    split at h
    ·rename_i cs qZ;simp only[aA0]at h;subst h;refine⟨by simp[mx],Nat.le_trans (CJ _ _ _ _) ?_⟩;simp only at hp;obtain⟨h1,h2⟩:=Be (AN he).1;rw[qZ]at h2;simp only[EP]at h2 |-;have h3:=JC cs off (AB (ed y));have h4:=yD y (by simp[Op.operands,Call.operands]);rw[Cy]at h3;have:=hp.1;omega
    ·simp at h
   ·simp at h
  ·unfold ER at h
   split at h
   ·rename_i e he
    split at h
    ·rename_i qZ
     split at h
     ·rename_i c0 yL;simp only[aA0]at h;subst h;refine⟨by simp[mx],Nat.le_trans (CJ _ _ _ _) ?_⟩;simp only at hp;obtain⟨h1,h2⟩:=Be (AN he).1;rw[qZ]at h2;simp only[EP]at h2 |-;have h3:=JC c0;have h4:=yD y (by simp[Op.operands,Call.operands]);have h5:=hp.1;have h6:=AG_ yL;refine dS0.2 ⟨dS0.2 ⟨by omega,UA _ _ (by omega) (Nat.le_trans (h3 _ _) ?_)⟩,by omega⟩;rw[Cy];omega
     ·simp at h
    ·simp at h
   ·simp at h
  ·simp at h
 case makeSlice t lo co =>
  unfold XE at h
  split at h
  ·rename_i hz _ _;simp only[aA0]at h;subst h;refine⟨by simp[mx],Nat.le_trans (CJ _ _ _ _) ?_⟩;simp only[EP];unfold tZeroE at hz
   split at hz
   ·refine dS0.2 ⟨dS0.2 ⟨by omega,Nat.le_trans (UB (cU0 (Lr hz))) (by omega)⟩,by omega⟩
   ·simp at hz
  ·simp at h
 case makeMap t rv =>
  split at h
  ·simp only[aA0]at h;subst h;refine⟨by simp[mx],Nat.le_trans (CJ _ _ _ _) ?_⟩;simp only[EP,AJ];omega
  ·simp at h
 case mapUpdate t m k x =>
  split at h
  ·split at h
   ·rename_i e he
    split at h
    ·rename_i ks vs qZ;simp only[aA0]at h;subst h;refine⟨by simp[mx],Nat.le_trans (CJ _ _ _ _) ?_⟩;simp only at hp;obtain⟨h1,h2⟩:=Be (AN he).1;rw[qZ]at h2;simp only[EP]at h2 |-;have h3:=WH ks (ed k);have h4:=WG ks vs (ed k) (ed x);have h5:=yD k (by simp[Op.operands,Call.operands]);have h6:=yD x (by simp[Op.operands,Call.operands]);have:=hp.1;omega
    ·simp at h
   ·simp at h
  ·simp at h
 case call c =>
  obtain⟨cal,args,ats⟩:=c;cases cal<;>simp only[reduceCtorEq]at h;rename_i b;cases b<;>simp only[reduceCtorEq]at h
  case append =>
   unfold LZ at h
   split at h
   ·rename_i da db t t' qW zL
    split at h
    ·rename_i i k bs et _ _
     split at h
     ·rename_i x fV
      split at h
      ·rename_i id es hdest;simp only[aA0]at h;subst h;refine⟨by simp[mx],Nat.le_trans (CJ _ _ _ _) ?_⟩;simp only[EP,Bt,FE];have h1:Bq es<=n:=uA hdest (by omega);omega
      ·simp at h
     split at h
     ·rename_i id es k2 es2 hdest wB;simp only[aA0]at h;subst h
      have hda:mx da<=n:=by
       have:da∈args.toList.map (ed):=by rw[qW];simp
       obtain⟨y,hy,rfl⟩:=aQ0.1 this;exact yD y (by simpa[Op.operands,Call.operands]using hy)
      have hdb:mx db<=n:=by
       have:db∈args.toList.map (ed):=by rw[qW];simp
       obtain⟨y,hy,rfl⟩:=aQ0.1 this;exact yD y (by simpa[Op.operands,Call.operands]using hy)
      refine⟨by simp[mx],Nat.le_trans (CJ _ _ _ _) ?_⟩;simp only[EP,Bt]
      have h1:Bq es<=n:=by
       unfold GJ at hdest
       split at hdest
       ·simp only[aA0,aR0]at hdest;obtain⟨_,rfl⟩:=hdest;simp[Bq]
       ·split at hdest
        ·rename_i e0 vA
         split at hdest
         ·split at hdest
          ·rename_i qZ
           split at hdest
           ·simp only[aA0,aR0]at hdest;obtain⟨_,rfl⟩:=hdest;have:=(Be (AN vA).1).2;rw[qZ]at this;simp only[EP]at this;omega
           ·simp at hdest
          ·simp at hdest
         ·simp at hdest
        ·simp at hdest
       ·simp at hdest
      have h2:Bq es2<=n:=by
       unfold IJ at wB
       split at wB
       ·simp only[aA0,aR0]at wB;obtain⟨_,rfl⟩:=wB;simp[Bq]
       ·simp only[aA0,aR0]at wB;obtain⟨_,rfl⟩:=wB;simp[Bq]
       ·rw[aY0]at wB;obtain⟨⟨k',b',es'⟩,h1,h2⟩:=wB;simp only[aR0]at h2;obtain⟨_,rfl⟩:=h2;have:=MF h1;omega
      omega
     ·simp at h
    ·simp at h
   ·simp at h
  case copy =>
   unfold XF at h
   split at h
   ·rename_i d sd t t' qW zL
    split at h
    ·rename_i k k0 id r' i m et k' bs es k2 es2 ht bB wB;simp only[aA0]at h;subst h;obtain⟨e,bs0,he,qT,qZ,hdd⟩:=Wp bB
     have hdb:mx sd<=n:=by
      have:sd∈args.toList.map (ed):=by rw[qW];simp
      obtain⟨y,hy,rfl⟩:=aQ0.1 this;exact yD y (by simpa[Op.operands,Call.operands]using hy)
     refine⟨by simp[mx],Nat.le_trans (CJ _ _ _ _) ?_⟩;obtain⟨h1,h2⟩:=Be (AN he).1;rw[qZ]at h2;simp only[EP]at h2 |-;have h3:Bq (Gb es i m es2)<=n:=XH (by omega) (VY wB (by omega) hdb);omega
    ·simp at h
   ·simp at h
  case clear =>
   have key:∀{zs:List DVal} {t:TypeId} {es:List (List DVal)} {i m N:Nat},tZeroE P t=some zs->Bq es<=N->Bq (Ea es i m zs)<=N:=by
    intro zs t es i m N hz wH;unfold tZeroE at hz
    split at hz
    ·unfold Ea;rw[Bt,Bt];have:=FP i es;have:=FQ (i+m) es;have:=UB (n:=0) (m:=m) (cU0 (Lr hz));omega
    ·simp at hz
   unfold QK at h
   split at h
   ·split at h
    ·rename_i hz
     split at h
     ·split at h
      ·rename_i e he
       split at h
       ·rename_i qZ;simp only[aA0]at h;subst h;refine⟨by simp[mx,AJ],Nat.le_trans (CJ _ _ _ _) ?_⟩;simp only at hp;obtain⟨h1,h2⟩:=Be (AN he).1;rw[qZ]at h2;simp only[EP]at h2 |-;have h3:=hp.1;exact dS0.2 ⟨dS0.2 ⟨by omega,key hz (by omega)⟩,by omega⟩
       ·simp at h
      ·simp at h
     ·split at h
      ·rename_i e he
       split at h
       ·rename_i qZ;simp only[aA0]at h;subst h;refine⟨by simp[mx,AJ],Nat.le_trans (CJ _ _ _ _) ?_⟩;simp only at hp;obtain⟨h1,h2⟩:=Be (AN he).1;rw[qZ]at h2;simp only[EP]at h2 |-;have h3:=hp.1;exact dS0.2 ⟨dS0.2 ⟨by omega,key hz (by omega)⟩,by omega⟩
       ·simp at h
      ·simp at h
     ·simp at h
    ·simp at h
   ·simp at h
  case delete =>
   unfold LY at h
   split at h
   ·split at h
    ·split at h
     ·rename_i e he
      split at h
      ·rename_i ks vs qZ;simp only[aA0]at h;subst h;refine⟨by simp[mx,AJ],Nat.le_trans (CJ _ _ _ _) ?_⟩;simp only at hp;obtain⟨h1,h2⟩:=Be (AN he).1;rw[qZ]at h2;simp only[EP]at h2 |-;have h3:=hp.1;refine dS0.2 ⟨dS0.2 ⟨by omega,dS0.2 ⟨Nat.le_trans (WK _ _) (by omega),Nat.le_trans (WJ _ _ _) (by omega)⟩⟩,by omega⟩
      ·simp at h
     ·simp at h
    ·simp at h
   ·simp at h
end
def Fo (e:Ent):Bool:=match e.obj with | .box _=>true | _=>false
def aH (l2:List Nat) (q:Nat) (e:Ent):Bool:=l2.any fun c=>decide (1000000<=c)&&c%1000==q&&c/1000000==e.id+1
def UM (l2:List Nat) (p q:Nat):Bool:=l2.any fun c=>decide (1000000<=c)&&c%1000==q&&c/1000%1000==p
def HL (l1 l2:List Nat) (k:Nat) (own:List Ent):List Ent:=if l2.contains k then []else if l1.contains k then own.filter Fo else if l2.isEmpty then own else own.filter fun e=> !aH l2 k e
def CR (o:Oper):Bool:=match o.op with
 | .call c=>match c.callee with | .builtin .append=>true | _=>false
 | _=>false
def aF (o:Oper):Bool:=match o.op with | .indexAddr _ _ _=>true | _=>false
def De (o:Oper):Bool:=match o.op with | .store _ _ _=>true | _=>false
def HD : DVal->Option Nat
 | .bx id _ _=>some id
 | .rx id _ _ _ _=>some id
 | _=>none
def Pq (slots:List (Nat×DVal)) (o:Oper):Option Nat:=match o.op with
 | .store _ a _=>HD (AW slots a)
 | _=>none
def Pr (l2:List Nat) (k:Nat) (slots:List (Nat×DVal)) (o:Oper):Bool:=l2.all fun c=>decide (c<1000000)||c/1000%1000 != k||Pq slots o==some (c/1000000-1)
def KF (own:List Ent) (o:Oper):Bool:= !CR o||(match o.dst with | some i=>(match Aj own i with | some e=> !Fo e | none=>true) | none=>true)
def UU (K:ContE):ContE:=⟨fun d own'=>K.f (.sel true d) own'⟩
theorem BA_ (K:ContE) (d:DVal) (own':List Ent):(UU K).f d own'=K.f (.sel true d) own':=id rfl
def Ey_ (P:Program) (c:Bool) (o:Oper) (ed:Operand->DVal) (own:List Ent) (K:ContE):Prop:=match c with
 | true=>tY P o ed own (UU K)
 | false=>K.f (.sel false .any) own
section
variable (P : Program) (nt : Nat) (ow l1 l2 : List Nat)
def Ce (ops:Array Oper):List Oper->Nat->Cont->DS->Prop
 | [],_,K,s=>K.f s
 | o::rest,k,K,s=>match o.guard with
  | none=>if Bm ow o then Cc nt o.dst=true/\(KF s.own o=true/\Pr l2 k s.slots o=true)/\tY P o (ev s.slots) s.own ⟨fun d own'=>Ce ops rest (k+1) K ⟨Bv s.slots o.dst d,own'⟩⟩
   else EB_ P nt o ⟨s.slots,HL l1 l2 k s.own⟩ ⟨fun s'=>Ce ops rest (k+1) K ⟨s'.slots,s.own⟩⟩
  | some (j,want)=>gOK (BD ops s j)=true/\if Bm ow o then Cc nt o.dst=true/\(KF s.own o=true/\Pr l2 k s.slots o=true)/\IU (gB (BD ops s j) want) (ev s.slots) o.op/\Ey_ P (gB (BD ops s j) want) o (AW s.slots) s.own ⟨fun d own'=>Ce ops rest (k+1) K ⟨Bv s.slots o.dst d,own'⟩⟩
   else EA_ P nt (gB (BD ops s j) want) o ⟨s.slots,HL l1 l2 k s.own⟩ ⟨fun s'=>Ce ops rest (k+1) K ⟨s'.slots,s.own⟩⟩
def BF_ (ops:Array Oper) (rest:List Oper) (k:Nat) (own:List Ent) (K:Cont):Cont:=⟨fun s'=>Ce P nt ow l1 l2 ops rest k K ⟨s'.slots,own⟩⟩
theorem Dr_ (ops:Array Oper) (rest:List Oper) (k:Nat) (own:List Ent) (K:Cont) (s':DS):(BF_ P nt ow l1 l2 ops rest k own K).f s'=Ce P nt ow l1 l2 ops rest k K ⟨s'.slots,own⟩:=id rfl
def BE_ (ops:Array Oper) (rest:List Oper) (k:Nat) (dst:Option Nat) (sl:List (Nat×DVal)) (K:Cont):ContE:=⟨fun d own'=>Ce P nt ow l1 l2 ops rest (k+1) K ⟨Bv sl dst d,own'⟩⟩
theorem Dq_ (ops:Array Oper) (rest:List Oper) (k:Nat) (dst:Option Nat) (sl:List (Nat×DVal)) (K:Cont) (d:DVal) (own':List Ent):(BE_ P nt ow l1 l2 ops rest k dst sl K).f d own'=Ce P nt ow l1 l2 ops rest (k+1) K ⟨Bv sl dst d,own'⟩:=id rfl
theorem uB (ops:Array Oper) (k:Nat) (K:Cont) (s:DS):Ce P nt ow l1 l2 ops [] k K s=K.f s:=id rfl
theorem aX (ops:Array Oper) (o:Oper) (rest:List Oper) (k:Nat) (K:Cont) (s:DS):Ce P nt ow l1 l2 ops (o::rest) k K s=match o.guard with
 | none=>if Bm ow o then Cc nt o.dst=true/\(KF s.own o=true/\Pr l2 k s.slots o=true)/\tY P o (ev s.slots) s.own (BE_ P nt ow l1 l2 ops rest k o.dst s.slots K)
  else EB_ P nt o ⟨s.slots,HL l1 l2 k s.own⟩ (BF_ P nt ow l1 l2 ops rest (k+1) s.own K)
 | some (j,want)=>gOK (BD ops s j)=true/\if Bm ow o then Cc nt o.dst=true/\(KF s.own o=true/\Pr l2 k s.slots o=true)/\IU (gB (BD ops s j) want) (ev s.slots) o.op/\Ey_ P (gB (BD ops s j) want) o (AW s.slots) s.own (BE_ P nt ow l1 l2 ops rest k o.dst s.slots K)
  else EA_ P nt (gB (BD ops s j) want) o ⟨s.slots,HL l1 l2 k s.own⟩ (BF_ P nt ow l1 l2 ops rest (k+1) s.own K):=id rfl
def ED (ops:Array Oper) (o:Oper) (s:DS) (d:DVal) (own':List Ent) (r:Nat):Prop:=match o.guard with
 | none=>OD P o (ev s.slots) s.own r d own'
 | some (j,want)=>gOK (BD ops s j)=true/\IU (gB (BD ops s j) want) (ev s.slots) o.op /\
  ((gB (BD ops s j) want=true/\∃d0,d= .sel true d0/\OD P o (AW s.slots) s.own r d0 own')\/(gB (BD ops s j) want=false/\d= .sel false .any/\own'=s.own))
def Vp (ops:Array Oper) (k:Nat) (o:Oper) (s:DS) (d:DVal) (own':List Ent) (r:Nat):Prop :=
 (Bm ow o=true/\Cc nt o.dst=true/\(KF s.own o=true/\Pr l2 k s.slots o=true)/\ED P ops o s d own' r) \/
  (Bm ow o=false/\own'=s.own/\GJ_ P nt ops o ⟨s.slots,HL l1 l2 k s.own⟩ d)
def DE (l:List Oper):Nat:=l.countP (Bm ow)
def DT (ops:Array Oper):Bool :=
 let m:=DB ops.toList []
 let zs:=ops.toList.zipIdx
 aV ops&&zs.all fun p=> !Bm ow p.1||zs.all fun q=>p.2==q.2||(decide (p.2<q.2)&&(m.getD q.2 0).testBit p.2)||(decide (q.2<p.2)&&(m.getD p.2 0).testBit q.2) ||
  (!Bm ow q.1&&(l2.contains q.2||(l1.contains q.2&&CR p.1)||(!l1.contains q.2&&aF q.1&&De p.1)||(!l1.contains q.2&&De p.1&&UM l2 p.2 q.2)))
end
section
variable {P : Program} {nt : Nat} {ow l1 l2 : List Nat}
theorem Tp {ops:Array Oper} {K:Cont} (n0:Nat):∀(rest:List Oper) (k c:Nat) (s:DS),Ce P nt ow l1 l2 ops rest k K s ->
  ∃(ds:List DVal) (owns:Nat->List Ent),ds.length=rest.length/\owns 0=s.own/\K.f ⟨GI s.slots (rest.zip ds),owns rest.length⟩ /\
   ∀(j:Nat) (o:Oper),rest[j]? =some o->∃d,ds[j]? =some d/\Vp P nt ow l1 l2 ops (k+j) o ⟨GI s.slots ((rest.zip ds).take j),owns j⟩ d (owns (j+1)) (n0+c+DE ow (rest.take j))
 | [],k,c,s,h=>⟨[],fun _=>s.own,rfl,rfl,by simpa[Ce,GI]using h,by simp⟩
 | o::rest,k,c,s,h=>by
  have step:∀d own',Vp P nt ow l1 l2 ops k o s d own' (n0+c)->Ce P nt ow l1 l2 ops rest (k+1) K ⟨Bv s.slots o.dst d,own'⟩->∃(ds:List DVal) (owns:Nat->List Ent),ds.length=(o::rest).length/\owns 0=s.own/\K.f ⟨GI s.slots ((o::rest).zip ds),owns (o::rest).length⟩ /\
    ∀(j:Nat) (o':Oper),(o::rest)[j]? =some o'->∃d,ds[j]? =some d/\Vp P nt ow l1 l2 ops (k+j) o' ⟨GI s.slots (((o::rest).zip ds).take j),owns j⟩ d (owns (j+1)) (n0+c+DE ow ((o::rest).take j)):=by
   intro d own' qO hr;obtain⟨ds,owns,h1,h0,h2,h3⟩:=Tp n0 rest (k+1) (c+DE ow [o]) _ hr;refine⟨d::ds,fun j=>match j with | 0=>s.own | j+1=>owns j,by simp[h1],rfl,by simpa[GI]using h2,?_⟩;intro j o' hj
   cases j with
   | zero=>simp only[bB0,aA0]at hj;subst hj;exact⟨d,by simp,by simpa[GI,DE,h0]using qO⟩
   | succ j =>
    obtain⟨d',h4,h5⟩:=h3 j o' (by simpa using hj);refine⟨d',by simpa using h4,?_⟩
    have e1:n0+(c+DE ow [o])+DE ow (rest.take j)=n0+c+DE ow ((o::rest).take (j+1)):=by
     simp only[cJ0,DE,dN0,List.countP_nil];omega
    rw[e1,show k+1+j=k+(j+1) by omega]at h5;simpa[GI]using h5
  simp only[Ce]at h
  split at h
  ·rename_i hg
   split at h
   ·rename_i he;obtain⟨hd,ha,h⟩:=h;obtain⟨d,own',h1,h2⟩:=Jo h (n0+c);exact step d own' (.inl ⟨he,hd,ha,by unfold ED;rw[hg];exact h1⟩) h2
   ·rename_i he;have he:Bm ow o=false:=by simpa using he
    obtain⟨hd,h⟩:=h
    split at h
    ·rename_i c wL
     split at h
     ·rename_i g args hc;obtain⟨d,h1,h2⟩:=JO h;exact step d _ (.inr ⟨he,rfl,hd,by rw[hg];exact .inl ⟨c,g,args,wL,hc,h1⟩⟩) h2
     ·exact step _ _ (.inr ⟨he,rfl,hd,by rw[hg];exact .inr ⟨h.1,rfl⟩⟩) h.2
    ·exact step _ _ (.inr ⟨he,rfl,hd,by rw[hg];exact .inr ⟨h.1,rfl⟩⟩) h.2
  ·rename_i j want hg;obtain⟨bJ,h⟩:=h
   split at h
   ·rename_i he;obtain⟨hd,ha,qO,h⟩:=h
    cases hb:gB (BD ops s j) want with
    | true =>
     rw[hb]at h;obtain⟨d,own',h1,h2⟩:=Jo (K:=UU _) h (n0+c);exact step (.sel true d) own' (.inl ⟨he,hd,ha,by unfold ED;rw[hg];exact⟨bJ,qO,.inl ⟨hb,d,rfl,h1⟩⟩⟩) h2
    | false =>
     rw[hb]at h;exact step (.sel false .any) s.own (.inl ⟨he,hd,ha,by unfold ED;rw[hg];exact⟨bJ,qO,.inr ⟨hb,rfl,rfl⟩⟩⟩) h
   rename_i he;have he:Bm ow o=false:=by simpa using he
   obtain⟨hd,qO,h⟩:=h
   have mk:∀d,(gB (BD ops s j) want=true->Fj P o (HL l1 l2 k s.own) (AW s.slots) d)->Vp P nt ow l1 l2 ops k o s (.sel (gB (BD ops s j) want) d) s.own (n0+c):=by
    intro d h1;refine .inr ⟨he,rfl,hd,?_⟩;rw[hg];exact⟨bJ,qO,d,rfl,h1⟩
   split at h
   ·rename_i c wL
    split at h
    ·rename_i g args hc;obtain⟨d,h1,h2⟩:=Ts h;exact step _ _ (mk d fun hq=> .inl ⟨c,g,args,wL,hc,h1 hq⟩) h2
    ·exact step _ _ (mk _ fun hq=> .inr ⟨h.1 hq,rfl⟩) h.2
   ·exact step _ _ (mk _ fun hq=> .inr ⟨h.1 hq,rfl⟩) h.2
end
theorem AE_ (l:List (Nat×DVal)) (o:Option Nat) (d:DVal):JK (Bv l o d)<=max (mx d) (JK l):=by
 cases o<;>simp only[Bv,JK]<;>omega
theorem WE {l:List (Nat×DVal)} {S:Nat->Bool} {n:Nat} (hl:JK l<=n):∀(zs:List (Oper×DVal)) (i:Nat),(∀(k:Nat) (z:Oper×DVal),zs[k]? =some z->S (i+k)=true->mx z.2<=n)->JK (DV l S i zs)<=n
 | [],_,_=>hl
 | (o,d)::r,i,h=>by
  have ih:=WE (S:=S) hl r (i+1) (fun k z hz hS=>h (k+1) z (by simpa using hz) (by rwa[show i+1+k=i+(k+1) by omega]at hS));simp only[DV]
  split
  ·rename_i hS;refine Nat.le_trans (AE_ _ _ _) ?_;have:=h 0 (o,d) (by simp) (by simpa using hS);simp only at this;omega
  ·exact ih
end Go.Dm
end
