/- Parts of a proof, laid together: EnK, EnL. -/
import Derived.Test.YtiojapdolljocaaGreatqMx11
set_option linter.unusedSimpArgs false
set_option maxHeartbeats 8000000
set_option linter.unusedVariables false
set_option linter.unusedSectionVars false
section
namespace Go.Dm
variable [DMode]
def LM (a b:List Ent):Prop:=∀id e,An a id=some e->An b id=some e
section
variable {P : Program} {a b : List Ent} {e : Operand -> DVal}
theorem DA (h:LM a b) {id r:Nat} (hc:DP a id r=true):DP b id r=true:=by
 unfold DP at hc |-
 split at hc
 ·rename_i x hx;rw[h _ _ hx];exact hc
 ·simp at hc
theorem OM (h:LM a b) {p:DVal} {cs:List DVal} (hc:DD a p=some cs):DD b p=some cs:=by
 cases p<;>simp only[DD]at hc |- <;>try exact hc
 ·split at hc
  ·rename_i x hx;rw[h _ _ hx];exact hc
  ·simp at hc
 ·split at hc
  ·rename_i x hx;rw[h _ _ hx];exact hc
  ·simp at hc
theorem EY (h:LM a b) {p:DVal} {x:Nat×Nat×List (List DVal)} (hc:Bg a p=some x):Bg b p=some x:=by
 cases p<;>simp only[Bg]at hc |- <;>try exact hc
 ·split at hc
  ·rename_i y hy;rw[h _ _ hy];exact hc
  ·simp at hc
 ·split at hc
  ·rename_i y hy;rw[h _ _ hy];exact hc
  ·simp at hc
theorem CD_ (h:LM a b) {d:DVal} (hc:Fo a d=true):Fo b d=true:=by
 cases d<;>simp only[Fo]at hc |- <;>try exact hc
 ·exact DA h hc
 ·exact DA h hc
 ·obtain⟨x,hx⟩:=bG0.1 hc;rw[EY h hx];rfl
 ·exact DA h hc
 ·exact DA h hc
 ·split at hc
  ·rename_i e he;rw[h _ e he];exact hc
  ·simp at hc
theorem Lq (h:LM a b) {d:DVal} (hc:CB a d=true):CB b d=true:=by
 unfold CB at hc |-;exact bC0.2 fun x hx=>CD_ h (bC0.1 hc x hx)
theorem TH (h:LM a b) {p:DVal} {x:List DVal×List DVal} (hc:Gu a p=some x):Gu b p=some x:=by
 unfold Gu at hc |-
 split at hc
 ·exact hc
 ·exact hc
 ·rename_i id r
  cases hf:An a id with
  | none=>rw[hf]at hc;simp at hc
  | some e=>rw[hf]at hc;simp only[h id e hf];exact hc
 ·simp at hc
theorem El_ (h:LM a b) {bi:Builtin} {ds:List DVal} {ts:List TypeId} (hp:Ta P a bi ds ts):Ta P b bi ds ts/\MW b bi ds=MW a bi ds:=by
 unfold Ta at hp
 split at hp
 ·rename_i d t
  cases d<;>simp only[Ta,MW]at hp |- <;>first
   | exact⟨hp,trivial⟩
   |(obtain⟨h1,h2⟩:=hp
     obtain⟨x,hx⟩:=bG0.1 h1;rw[hx,EY h hx]
     exact⟨⟨rfl,h2⟩,rfl⟩)
   |(obtain⟨h1,h2⟩:=hp
     split at h2
     ·rename_i hx;rw[TH h hx];exact⟨⟨h1,h2⟩,rfl⟩
     ·exact h2.elim)
 ·simp only[Ta,MW];exact⟨hp,trivial⟩
 ·simp only[Ta,MW];exact⟨hp,trivial⟩
 ·simp only[Ta,MW];exact⟨hp,trivial⟩
 ·exact hp.elim
theorem HH_ (h:LM a b) (op:Op) (hp:FE P a e op):FE P b e op/\BC P b e op=BC P a e op:=by
 cases op<;>simp only[FE,BC]at hp |- <;>first
  | exact⟨hp,trivial⟩
  | exact hp.elim
  | trivial
  | skip
 case fieldAddr t x f =>
  refine⟨?_,trivial⟩
  split at hp
  ·exact hp
  ·exact⟨hp.1,DA h hp.2⟩
  ·exact⟨hp.1,DA h hp.2⟩
  ·exact hp.elim
 case nilCheck x =>
  refine⟨?_,trivial⟩
  split at hp
  ·trivial
  ·exact DA h hp
  ·exact DA h hp
  ·trivial
  ·exact hp.elim
 case load t x =>
  split at hp
  ·rename_i h1 h2 h3;rw[h1,h2,OM h h3];exact⟨hp,rfl⟩
  ·rename_i h1 h3;rw[h1,OM h h3];exact⟨hp,rfl⟩
  ·exact hp.elim
 case indexAddr t x i =>
  split at hp
  ·rename_i ik n k bs k' bs' es h1 h2 h3;rw[h1,h2,EY h h3];refine⟨hp,?_⟩;simp only;cases hx:e x<;>rw[hx]at h3<;>simp only[Gy];rw[h3,EY h h3]
  ·rename_i ik n h1 h2;rw[h1,h2];simp only
   split at hp
   ·rename_i len k h3;obtain⟨p1,p2,p3⟩:=hp;refine⟨⟨p1,p2,?_⟩,trivial⟩;cases hx:e x<;>rw[hx]at p3<;>simp only at p3 |- <;>exact DA h p3
   ·exact hp.elim
  ·exact hp.elim
 case box t x=>exact⟨Lq h hp,trivial⟩
 case slice t x l' h' m =>
  cases hx:e x<;>rw[hx]at hp<;>simp only at hp |- <;>first
   | exact⟨hp,trivial⟩
   | exact hp.elim
   | skip
  ·rename_i id r
   cases mI:Bg a (.osl id r)with
   | none=>rw[mI]at hp;exact hp.2.elim
   | some y=>rw[mI]at hp;rw[EY h mI];exact⟨hp,rfl⟩
  ·obtain⟨h1,h2,h3⟩:=hp;obtain⟨y,hy⟩:=bG0.1 h2;rw[EY h hy];exact⟨⟨h1,rfl,h3⟩,trivial⟩
 case lookup t x i ok =>
  split at hp
  ·rename_i h1 h2;rw[h1,TH h h2];exact⟨hp,rfl⟩
  ·exact hp.elim
 case build t ps =>
  refine⟨?_,trivial⟩
  split at hp
  ·exact⟨hp.1,bC0.2 fun p hm=>Lq h (bC0.1 hp.2.1 p hm),hp.2.2⟩
  ·exact hp.elim
 case buildSlice t n ps =>
  refine⟨?_,trivial⟩
  split at hp
  ·obtain⟨h1,h2,h3,h4,h5,h6,h7⟩:=hp;refine⟨h1,h2,h3,h4,h5,?_,h7⟩;refine bC0.2 fun p hm=> ?_
   have:=bC0.1 h6 p hm;rw[aJ0]at this |-;exact⟨Lq h this.1,this.2⟩
  ·exact hp.elim
 case call c =>
  obtain⟨cal,args,ts⟩:=c
  cases cal with
  | builtin bi=>exact El_ h hp
  | value f=>exact hp.elim
  | invoke r m=>exact hp.elim
end
theorem rR : ∀{l:List DVal} {d:DVal},d∈l->mx d<=AL l
 | x::l,d,h=>by
  simp only[AL]
  rcases aK0.1 h with rfl | h
  ·omega
  ·have:=rR h;omega
theorem Vq : ∀{l:List (List DVal)} {d:List DVal},d∈l->AL d<=Bp l
 | x::l,d,h=>by
  simp only[Bp]
  rcases aK0.1 h with rfl | h
  ·omega
  ·have:=Vq h;omega
theorem Vr {n:Nat}:∀{l:List DVal},(∀d∈l,mx d<=n)->AL l<=n
 | [],_=>by simp[AL]
 | x::l,h=>by
  simp only[AL];have:=h x aI0;have:=Vr (l:=l) fun d hd=>h d (aG0 _ hd)
  omega
theorem iH {n:Nat}:∀{l:List (List DVal)},(∀d∈l,AL d<=n)->Bp l<=n
 | [],_=>by simp[Bp]
 | x::l,h=>by
  simp only[Bp];have:=h x aI0;have:=iH (l:=l) fun d hd=>h d (aG0 _ hd)
  omega
theorem QN (l:List DVal):mx (l.headD .any)<=AL l:=by
 cases l with
 | nil=>simp[mx,AL]
 | cons d l=>simp only[List.headD_cons,AL];omega
theorem rO (l:List DVal) (i:Nat):mx (l.getD i .any)<=AL l:=by
 rw[aO0]
 cases h:l[i]? with
 | none=>simp[mx]
 | some d=>exact rR (bP0 h)
theorem CU_ (l:List (List DVal)) (i:Nat):AL (l.getD i [])<=Bp l:=by
 rw[aO0]
 cases h:l[i]? with
 | none=>simp[AL]
 | some d=>exact Vq (bP0 h)
section
variable {P : Program} {own : List Ent} {e : Operand -> DVal} {n : Nat}
theorem RU {p:DVal} {cs:List DVal} (hc:DD own p=some cs):AL cs<=max (mx p) (GO own):=by
 unfold DD at hc
 split at hc
 ·simp only[aA0]at hc;subst hc;simp only[mx];omega
 ·split at hc
  ·rename_i x hx
   split at hc
   ·split at hc
    ·rename_i cs0 qN;simp only[aA0]at hc;subst hc;have h1:=(Bm (AS hx).1).2;rw[qN]at h1;simp only[Fa]at h1;exact Nat.le_trans (Ey _ _) (by omega)
    ·simp at hc
   ·simp at hc
  ·simp at hc
 ·split at hc
  ·rename_i x hx
   split at hc
   ·split at hc
    ·rename_i es qN
     split at hc
     ·rw[bF0]at hc;obtain⟨c0,h0,rfl⟩:=hc;have h1:=(Bm (AS hx).1).2;rw[qN]at h1;simp only[Fa]at h1;have h2:=Vq (bP0 h0);exact Nat.le_trans (Ey _ _) (by omega)
     ·simp at hc
    ·simp at hc
   ·simp at hc
  ·simp at hc
 ·simp at hc
theorem Yl {place:Nat->Option (Nat×Nat)}:∀(ps:List (Nat×DVal)) (z r:List DVal),GC place z ps=some r->AL z<=n->(∀p∈ps,mx p.2<=n)->AL r<=n
 | [],z,r,h,hz,_=>by simp only[GC,aA0]at h;subst h;exact hz
 | (i,d)::ps,z,r,h,hz,hp=>by
  simp only[GC]at h
  split at h
  ·simp at h
  ·split at h
   ·refine Yl ps _ r h ?_ fun p hm=>hp p (aG0 _ hm)
    have h2:=hp (i,d) aI0;refine Nat.le_trans (Km z _ (AE d)) ?_;rw[CH];simp only at h2;omega
   ·simp at h
theorem LU {t:TypeId} {z:List DVal} (h:tZero P t=some z):AL z=0:=by
 have h1:∀v,mx (Ca v)=0:=by
  intro v;unfold Ca
  split<;>(try split)<;>simp[mx]
 obtain⟨zv,_,rfl⟩:=Gh (w:=default) h
 have:AL (zv.cells.toList.map Ca)<=0:=Vr fun d hd=>by
  obtain⟨v,_,rfl⟩:=aT0.1 hd;rw[h1];omega
 omega
theorem FJ_ {op:BinOp} {t:TypeId} {x y d:DVal} (h:GQ P op t x y=some d):mx d=0:=by
 unfold GQ at h
 repeat' split at h
 all_goals first
  | (simp only[aA0]at h;subst h;rfl)
  | simp at h
theorem FV_ {bi:Builtin} {ds:List DVal}:mx (MW own bi ds)=0:=by
 unfold MW
 repeat' split
 all_goals rfl
theorem Aq_ {d:DVal} {i:Int} (hn:GO own<=n) (hd:mx d<=n):mx (Gy own d i)<=n:=by
 unfold Gy
 split
 ·rename_i k bs es;simp only[mx]at hd |-;exact Nat.le_trans (CU_ _ _) hd
 ·split
  ·simpa[mx]using hd
  ·simp[mx]
 ·simpa[mx]using hd
 ·simp[mx]
theorem CN_ {t:Bool} {x y:DVal} (hx:mx x<=n) (hy:mx y<=n):mx (JC t x y)<=n:=by
 unfold JC
 split<;>first
  | (simp[mx];done)
  | (split<;>assumption)
theorem CZ_ {p:DVal} {ks vs:List DVal} (hc:Gu own p=some (ks,vs)):AL vs<=max (mx p) (GO own):=by
 unfold Gu at hc
 split at hc
 ·simp only[aA0,aU0]at hc;obtain⟨rfl,rfl⟩:=hc;simp only[mx];omega
 ·simp only[aA0,aU0]at hc;obtain⟨rfl,rfl⟩:=hc;simp[AL]
 ·split at hc
  ·rename_i e he
   split at hc
   ·split at hc
    ·rename_i qN;simp only[aA0,aU0]at hc;obtain⟨rfl,rfl⟩:=hc;have:=(Bm (AS he).1).2;rw[qN]at this;simp only[Fa]at this;omega
    ·simp at hc
   ·simp at hc
  ·simp at hc
 ·simp at hc
theorem GD_ (v:Value):mx (ofV v)=0:=by
 have h1:∀v,mx (Ca v)=0:=by
  intro v;unfold Ca
  split<;>(try split)<;>simp[mx]
 unfold ofV
 split
 ·rename_i cs;simp only[mx]
  generalize cs.toList=l
  induction l with
  | nil=>simp[AL]
  | cons v l ih=>simp[AL,h1,ih]
 ·exact h1 _
theorem xA {t:TypeId} {z:DVal} (h:tZeroD P t=some z):mx z=0:=by
 unfold tZeroD at h
 split at h
 ·rw[bF0]at h;obtain⟨v,_,rfl⟩:=h;exact GD_ v
 ·simp at h
theorem HG_ (hn:GO own<=n) (op:Op) (h:∀x∈op.operands,mx (e x)<=n):mx (BC P own e op)<=n:=by
 have any0:mx DVal.any<=n:=by simp[mx]
 have parts:∀(ps:Array (Nat×Operand)),(∀x∈(ps.toList.map (·.2)).toArray,mx (e x)<=n)->∀p∈ps.toList,mx (e p.2)<=n:=by
  intro ps h p hp;exact h p.2 (by simpa using ⟨p.1,by simpa using hp⟩)
 cases op<;>simp only[Op.operands]at h<;>simp only[BC]<;>try exact any0
 case move x=>exact h x (by simp)
 case assign x=>exact h x (by simp)
 case nilCheck x=>exact h x (by simp)
 case pick c x y =>
  split
  ·exact CN_ (h x (by simp)) (h y (by simp))
  ·exact any0
 case fieldAddr t x f =>
  have:=h x (by simp)
  split
  ·rename_i hx;rw[hx]at this;simp only[mx]at this |-;exact Nat.le_trans (Ey _ _) this
  ·rename_i hx;rw[hx]at this;simpa[mx]using this
  ·rename_i hx;rw[hx]at this;simpa[mx]using this
  ·exact any0
 case load t x =>
  have:=h x (by simp)
  split
  ·rename_i h3;have:=RU h3;simp only[mx];exact Nat.le_trans (Mt _ _) (by omega)
  ·rename_i h3;have:=RU h3;exact Nat.le_trans (QN _) (by omega)
  ·exact any0
 case indexAddr t x i =>
  split
  ·exact Aq_ hn (h x (by simp))
  ·split
   ·have:=h x (by simp);unfold lR
    split
    ·rename_i hx;rw[hx]at this;simp only[mx]at this |-;exact Nat.le_trans (Ey _ _) this
    ·rename_i hx;rw[hx]at this;simpa[mx]using this
    ·rename_i hx;rw[hx]at this;simpa[mx]using this
    ·exact any0
   ·exact any0
  ·exact any0
 case index t x i =>
  split
  ·simp[mx]
  ·rename_i cs ik n hx hi;have:=h x (by simp);rw[hx]at this;simp only[mx]at this;exact Nat.le_trans (QN _) (Nat.le_trans (Ey _ _) this)
  ·exact any0
 case field t x f =>
  have:=h x (by simp)
  split
  ·rename_i hx;rw[hx]at this;simp only[mx]at this
   split
   ·simp only[mx];exact Nat.le_trans (Mt _ _) (Nat.le_trans (Ey _ _) this)
   ·exact Nat.le_trans (QN _) (Nat.le_trans (Ey _ _) this)
  ·exact any0
 case binOp op t x y yt =>
  cases hd:GQ P op t (e x) (e y)with
  | none=>exact any0
  | some d=>simp[FJ_ hd]
 case unOp op t x =>
  split
  ·simp[mx]
  ·simp[mx]
  ·exact any0
 case convert src dst x =>
  have:=h x (by simp)
  split
  ·split
   ·simp[mx]
   ·exact any0
  ·exact this
 case extract x i =>
  have:=h x (by simp)
  split
  ·rename_i hx;rw[hx]at this;simp only[mx]at this;exact Nat.le_trans (rO _ _) this
  ·exact any0
 case makeFunc f us cs =>
  simp only[mx]
  have h1:AL (us.toList.map e)<=n:=Vr fun d hd=>by
   obtain⟨x,hx,rfl⟩:=aT0.1 hd;exact h x (by simp;left;simpa using hx)
  have h2:AL (cs.toList.map e)<=n:=Vr fun d hd=>by
   obtain⟨x,hx,rfl⟩:=aT0.1 hd;exact h x (by simp;right;simpa using hx)
  omega
 case makeInterface t x=>simp only[mx];exact h x (by simp)
 case slice t x l h' m =>
  have:=h x (by simp)
  split
  ·rename_i hx;rw[hx]at this;simp only[mx]at this |-;exact Nat.le_trans (Gr _ _) (Nat.le_trans (Gs _ _) this)
  ·simp[mx]
  ·rename_i hx;rw[hx]at this
   split
   ·simpa[mx]using this
   ·exact any0
  ·rename_i hx;rw[hx]at this;simpa[mx]using this
  ·simp[mx]
  ·exact any0
 case lookup t x i ok =>
  have hx:=h x (by simp)
  split
  ·rename_i kt et ks vs ht hc;have vX:=CZ_ hc
   have key:mx (match Ba ks (e i)with | some j=>vs.getD j .any | none=>(tZeroD P et).getD .any)<=n:=by
    split
    ·exact Nat.le_trans (rO _ _) (by omega)
    ·cases hz:tZeroD P et with
     | none=>exact any0
     | some z=>simp[xA hz]
   cases ok
   ·exact key
   ·exact dY0.2 ⟨key,by simp[mx,AL]⟩
  ·exact any0
 case box t x=>simp only[mx,CH];exact h x (by simp)
 case build t ps =>
  have hp:=parts ps h
  split
  ·rename_i z hz;simp only[mx]
   cases hf:GC (Ho P t) z (ps.toList.map fun p=>(p.1,e p.2))with
   | none=>simp[AL]
   | some r =>
    refine Yl _ z r hf (by rw[LU hz];omega) ?_;intro p hm;obtain⟨q,hq,rfl⟩:=aT0.1 hm;exact hp q hq
  ·exact any0
 case buildSlice t len ps =>
  have hp:=parts ps h
  split
  ·simp only[mx];refine iH fun cs hm=> ?_
   obtain⟨q,hq,rfl⟩:=aT0.1 hm;rw[CH];exact hp q hq
  ·exact any0
 case call c =>
  split
  ·rw[FV_];omega
  ·exact any0
theorem Xs {l:List (Nat×DVal)}:∀xs:List Operand,FJ true (ev l) xs->∀x∈xs,mx (Bd l x)<=mx (ev l x)
 | [],_,x,hx=>by cases hx
 | y::ys,h,x,hx=>by
  simp only[FJ]at h
  rcases aK0.1 hx with rfl | hx
  ·unfold Bd;cases hq:ev l x<;>simp only[Jq]<;>try exact Nat.le_refl _
   rw[hq]at h;simp only[okG]at h;simp[mx,h.1 trivial]
  ·exact Xs ys h.2 x hx
theorem TE {l:List (Nat×DVal)} {x:Operand} (h:okG true (ev l x)):mx (Bd l x)<=mx (ev l x):=by
 unfold Bd;cases hq:ev l x<;>simp only[Jq]<;>try exact Nat.le_refl _
 rw[hq]at h;simp only[okG]at h;simp[mx,h trivial]
theorem Xt (t:Bool) (x y:DVal):mx (JC t x y)<=mx (if t then x else y):=by
 unfold JC
 split<;>first
  | (simp[mx];done)
  | exact Nat.le_refl _
theorem Fa_ {l:List (Nat×DVal)} {op:Op} (qW:JF true (ev l) op) (hp:FE P own (Bd l) op) (hn:GO own<=n) (h:∀x∈op.operands,mx (ev l x)<=n):mx (BC P own (Bd l) op)<=n:=by
 by_cases hpk:∃x a b,op= .pick x a b
 ·obtain⟨x,a,b,rfl⟩:=hpk;simp only[JF]at qW;obtain⟨h1,h2⟩:=qW;simp only[FE]at hp;cases hx:Bd l x<;>rw[hx]at hp<;>try exact hp.elim
  rename_i t;have h2:=h2 t hx;simp only[BC,hx];refine Nat.le_trans (Xt _ _ _) ?_;cases t
  ·exact Nat.le_trans (TE (h2.2 rfl)) (h b (by simp[Op.operands]))
  ·exact Nat.le_trans (TE (h2.1 rfl)) (h a (by simp[Op.operands]))
 ·have yZ:FJ true (ev l) op.operands.toList:=by
   unfold JF at qW
   split at qW
   ·exact absurd ⟨_,_,_,rfl⟩ hpk
   ·exact qW
  exact HG_ hn op fun x hx=>Nat.le_trans (Xs _ yZ x (by simpa using hx)) (h x hx)
end
section
variable {P : Program} {o : Oper} {l l' : List (Nat × DVal)} {own : List Ent} {r n : Nat}
theorem lD {e1 e2:Operand->DVal} (h:∀x∈o.op.operands,e1 x=e2 x):Jl P o e1 own r=Jl P o e2 own r:=by
 unfold Jl;obtain⟨dst,op,type,GL,after,guard⟩:=o;simp only at h |-;cases op<;>simp only[Op.operands]at h<;>simp only
 case box t x=>rw[h x (by simp)]
 case store t a x=>rw[h a (by simp),h x (by simp)]
 case mapUpdate t m k x=>rw[h m (by simp),h k (by simp),h x (by simp)]
 case makeSlice t l c=>rw[h l (by simp),h c (by simp)]
 case buildSlice t n ps =>
  have hc:=(QM (P:=P) (own:=own) (e:=e1) (e':=e2) (.buildSlice t n ps) h).1;have e1:(ps.toList.map fun p=>AE (e1 p.2))=ps.toList.map fun p=>AE (e2 p.2):=cA0 fun p hm=>by rw[h p.2 (by simpa using ⟨p.1,by simpa using hm⟩)]
  rw[propext hc,e1]
 case call c =>
  obtain⟨cal,args,ts⟩:=c
  cases cal with
  | builtin b =>
   have:args.toList.map (e1)=args.toList.map (e2):=cA0 fun x hx=>h x (by simp[Call.operands];simpa using hx)
   cases b<;>simp only[this]
  | value f=>rfl
  | invoke a b=>rfl
theorem eV {e1 e2:Operand->DVal} {c:Call} (h:∀x∈c.operands,e1 x=e2 x):Va e1 c=Va e2 c:=by
 obtain⟨cal,args,ts⟩:=c
 cases cal with
 | value f =>
  have h1:args.toList.map e1=args.toList.map e2:=cA0 fun x hx=>h x (by simp[Call.operands];simp at hx;exact .inr hx)
  have h2:=h f (by simp[Call.operands]);simp only[Va,h1,h2]
 | builtin b=>rfl
 | invoke a b=>rfl
theorem Sq {e1 e2:Operand->DVal} {d:DVal} {own':List Ent} (h:∀x∈o.op.operands,e1 x=e2 x) (hx:Pj P o e1 own r d own'):Pj P o e2 own r d own':=by
 rcases hx with ⟨x,h1,h2⟩ | ⟨c,g,args,h1,h2,h3⟩ | ⟨c,id,r',args,e0,l,e,A,A',b,h1,h2,h3⟩
 ·exact .inl ⟨x,by rw[<-lD h];exact h1,h2⟩
 ·exact .inr (.inl ⟨c,g,args,h1,by rw[<-MS (fun x hx=>h x (by rw[h1];exact hx))];exact h2,h3⟩)
 ·exact .inr (.inr ⟨c,id,r',args,e0,l,e,A,A',b,h1,by rw[<-eV (fun x hx=>h x (by rw[h1];exact hx))];exact h2,h3⟩)
theorem CS (own:List Ent) (id r:Nat) (obj:DObj):GO (upE own id r obj)<=max (max (r+1) (Fa obj)) (GO own):=by
 have:GO (CL own id)<=GO own:=by
  induction own with
  | nil=>simp[CL]
  | cons e t ih =>
   simp only[CL]
   split
   ·simp only[GO];omega
   ·simp only[GO];omega
 simp only[upE,GO];omega
theorem FG_ {x:ERes} {ed:Operand->DVal} (h:Jl P o ed own r=some x) (hp:x.pre) (ho:GO own<=n) (kJ:∀y∈o.op.operands,mx (ed y)<=n) (hr:n<=r):mx x.d<=r+1/\GO x.own<=r+1:=by
 obtain⟨dst,op,type,GL,after,guard⟩:=o;unfold Jl at h;simp only at h;cases op<;>simp only[reduceCtorEq]at h
 case box t y =>
  split at h
  ·rename_i i;simp only[aA0]at h;subst h;refine⟨by simp[mx],Nat.le_trans (CS _ _ _ _) ?_⟩;have:=kJ y (by simp[Op.operands]);simp only[Fa,CH];omega
  ·simp at h
 case buildSlice t len ps =>
  split at h
  ·simp only[aA0]at h;subst h;refine⟨by simp[mx],Nat.le_trans (CS _ _ _ _) ?_⟩
   have:Bp (ps.toList.map fun p=>AE (ed p.2))<=n:=iH fun cs hm=>by
    obtain⟨p,yE,rfl⟩:=aT0.1 hm;rw[CH];exact kJ p.2 (by simpa[Op.operands]using ⟨p.1,by simpa using yE⟩)
   simp only[Fa];omega
  ·simp at h
 case alloc t =>
  split at h
  ·rename_i i z hi hz;simp only[aA0]at h;subst h;refine⟨by simp[mx],Nat.le_trans (CS _ _ _ _) ?_⟩;simp only[Fa,LU hz];omega
  ·simp at h
 case store t ad y =>
  split at h
  ·rename_i id r' off had
   split at h
   ·rename_i e he
    split at h
    ·rename_i cs qN;simp only[aA0]at h;subst h;refine⟨by simp[mx],Nat.le_trans (CS _ _ _ _) ?_⟩;simp only at hp;obtain⟨h1,h2⟩:=Bm (AS he).1;rw[qN]at h2;simp only[Fa]at h2 |-;have h3:=Km cs off (AE (ed y));have h4:=kJ y (by simp[Op.operands,Call.operands]);rw[CH]at h3;have:=hp.1;omega
    ·simp at h
   ·simp at h
  ·unfold Fe at h
   split at h
   ·rename_i e he
    split at h
    ·rename_i qN
     split at h
     ·rename_i c0 yT;simp only[aA0]at h;subst h;refine⟨by simp[mx],Nat.le_trans (CS _ _ _ _) ?_⟩;simp only at hp;obtain⟨h1,h2⟩:=Bm (AS he).1;rw[qN]at h2;simp only[Fa]at h2 |-;have h3:=Km c0;have h4:=kJ y (by simp[Op.operands,Call.operands]);have h5:=hp.1;have h6:=CV_ yT;refine dY0.2 ⟨dY0.2 ⟨by omega,Vo _ _ (by omega) (Nat.le_trans (h3 _ _) ?_)⟩,by omega⟩;rw[CH];omega
     ·simp at h
    ·simp at h
   ·simp at h
  ·simp at h
 case makeSlice t lo co =>
  unfold Yr at h
  split at h
  ·rename_i hz _ _;simp only[aA0]at h;subst h;refine⟨by simp[mx],Nat.le_trans (CS _ _ _ _) ?_⟩;simp only[Fa];unfold tZeroE at hz
   split at hz
   ·refine dY0.2 ⟨dY0.2 ⟨by omega,Nat.le_trans (Vp (dH0 (LU hz))) (by omega)⟩,by omega⟩
   ·simp at hz
  ·simp at h
 case makeMap t rv =>
  split at h
  ·simp only[aA0]at h;subst h;refine⟨by simp[mx],Nat.le_trans (CS _ _ _ _) ?_⟩;simp only[Fa,AL];omega
  ·simp at h
 case mapUpdate t m k x =>
  split at h
  ·split at h
   ·rename_i e he
    split at h
    ·rename_i ks vs qN;simp only[aA0]at h;subst h;refine⟨by simp[mx],Nat.le_trans (CS _ _ _ _) ?_⟩;simp only at hp;obtain⟨h1,h2⟩:=Bm (AS he).1;rw[qN]at h2;simp only[Fa]at h2 |-;have h3:=Xx ks (ed k);have h4:=Xw ks vs (ed k) (ed x);have h5:=kJ k (by simp[Op.operands,Call.operands]);have h6:=kJ x (by simp[Op.operands,Call.operands]);have:=hp.1;omega
    ·simp at h
   ·simp at h
  ·simp at h
 case call c =>
  obtain⟨cal,args,ats⟩:=c;cases cal<;>simp only[reduceCtorEq]at h;rename_i b;cases b<;>simp only[reduceCtorEq]at h
  case append =>
   unfold MK at h
   split at h
   ·rename_i da db t t' qE vD
    split at h
    ·rename_i i k bs et _ _
     split at h
     ·rename_i x fT
      split at h
      ·rename_i id es hdest;simp only[aA0]at h;subst h;refine⟨by simp[mx],Nat.le_trans (CS _ _ _ _) ?_⟩;simp only[Fa,Bx,Ga];have h1:Bp es<=n:=Bi_ hdest (by omega);omega
      ·simp at h
     split at h
     ·rename_i id es k2 es2 hdest wF;simp only[aA0]at h;subst h
      have hda:mx da<=n:=by
       have:da∈args.toList.map (ed):=by rw[qE];simp
       obtain⟨y,hy,rfl⟩:=aT0.1 this;exact kJ y (by simpa[Op.operands,Call.operands]using hy)
      have hdb:mx db<=n:=by
       have:db∈args.toList.map (ed):=by rw[qE];simp
       obtain⟨y,hy,rfl⟩:=aT0.1 this;exact kJ y (by simpa[Op.operands,Call.operands]using hy)
      refine⟨by simp[mx],Nat.le_trans (CS _ _ _ _) ?_⟩;simp only[Fa,Bx]
      have h1:Bp es<=n:=by
       unfold HB at hdest
       split at hdest
       ·simp only[aA0,aU0]at hdest;obtain⟨_,rfl⟩:=hdest;simp[Bp]
       ·split at hdest
        ·rename_i e0 vW
         split at hdest
         ·split at hdest
          ·rename_i qN
           split at hdest
           ·simp only[aA0,aU0]at hdest;obtain⟨_,rfl⟩:=hdest;have:=(Bm (AS vW).1).2;rw[qN]at this;simp only[Fa]at this;omega
           ·simp at hdest
          ·simp at hdest
         ·simp at hdest
        ·simp at hdest
       ·simp at hdest
      have h2:Bp es2<=n:=by
       unfold Jz at wF
       split at wF
       ·simp only[aA0,aU0]at wF;obtain⟨_,rfl⟩:=wF;simp[Bp]
       ·simp only[aA0,aU0]at wF;obtain⟨_,rfl⟩:=wF;simp[Bp]
       ·rw[bF0]at wF;obtain⟨⟨k',b',es'⟩,h1,h2⟩:=wF;simp only[aU0]at h2;obtain⟨_,rfl⟩:=h2;have:=NA h1;omega
      omega
     ·simp at h
    ·simp at h
   ·simp at h
  case copy =>
   unfold Ys at h
   split at h
   ·rename_i d sd t t' qE vD
    split at h
    ·rename_i k k0 id r' i m et k' bs es k2 es2 ht cT wF;simp only[aA0]at h;subst h;obtain⟨e,bs0,he,wV,qN,hdd⟩:=Xh cT
     have hdb:mx sd<=n:=by
      have:sd∈args.toList.map (ed):=by rw[qE];simp
      obtain⟨y,hy,rfl⟩:=aT0.1 this;exact kJ y (by simpa[Op.operands,Call.operands]using hy)
     refine⟨by simp[mx],Nat.le_trans (CS _ _ _ _) ?_⟩;obtain⟨h1,h2⟩:=Bm (AS he).1;rw[qN]at h2;simp only[Fa]at h2 |-;have h3:Bp (Je es i m es2)<=n:=Yu (by omega) (WS wF (by omega) hdb);omega
    ·simp at h
   ·simp at h
  case clear =>
   have key:∀{zs:List DVal} {t:TypeId} {es:List (List DVal)} {i m N:Nat},tZeroE P t=some zs->Bp es<=N->Bp (Eh es i m zs)<=N:=by
    intro zs t es i m N hz wP;unfold tZeroE at hz
    split at hz
    ·unfold Eh;rw[Bx,Bx];have:=Gr i es;have:=Gs (i+m) es;have:=Vp (n:=0) (m:=m) (dH0 (LU hz));omega
    ·simp at hz
   unfold Rz at h
   split at h
   ·split at h
    ·rename_i hz
     split at h
     ·split at h
      ·rename_i e he
       split at h
       ·rename_i qN;simp only[aA0]at h;subst h;refine⟨by simp[mx,AL],Nat.le_trans (CS _ _ _ _) ?_⟩;simp only at hp;obtain⟨h1,h2⟩:=Bm (AS he).1;rw[qN]at h2;simp only[Fa]at h2 |-;have h3:=hp.1;exact dY0.2 ⟨dY0.2 ⟨by omega,key hz (by omega)⟩,by omega⟩
       ·simp at h
      ·simp at h
     ·split at h
      ·rename_i e he
       split at h
       ·rename_i qN;simp only[aA0]at h;subst h;refine⟨by simp[mx,AL],Nat.le_trans (CS _ _ _ _) ?_⟩;simp only at hp;obtain⟨h1,h2⟩:=Bm (AS he).1;rw[qN]at h2;simp only[Fa]at h2 |-;have h3:=hp.1;exact dY0.2 ⟨dY0.2 ⟨by omega,key hz (by omega)⟩,by omega⟩
       ·simp at h
      ·simp at h
     ·simp at h
    ·simp at h
   ·simp at h
  case delete =>
   unfold MJ at h
   split at h
   ·split at h
    ·split at h
     ·rename_i e he
      split at h
      ·rename_i ks vs qN;simp only[aA0]at h;subst h;refine⟨by simp[mx,AL],Nat.le_trans (CS _ _ _ _) ?_⟩;simp only at hp;obtain⟨h1,h2⟩:=Bm (AS he).1;rw[qN]at h2;simp only[Fa]at h2 |-;have h3:=hp.1;refine dY0.2 ⟨dY0.2 ⟨by omega,dY0.2 ⟨Nat.le_trans (XA _ _) (by omega),Nat.le_trans (Xz _ _ _) (by omega)⟩⟩,by omega⟩
      ·simp at h
     ·simp at h
    ·simp at h
   ·simp at h
end
def FF (e:Ent):Bool:=match e.obj with | .box _=>true | _=>false
def iQ (l2:List Nat) (q:Nat) (e:Ent):Bool:=l2.any fun c=>decide (1000000<=c)&&c%1000==q&&c/1000000==e.id+1
def VA (l2:List Nat) (p q:Nat):Bool:=l2.any fun c=>decide (1000000<=c)&&c%1000==q&&c/1000%1000==p
def ID (l1 l2:List Nat) (k:Nat) (own:List Ent):List Ent:=if l2.contains k then []else if l1.contains k then own.filter FF else if l2.isEmpty then own else own.filter fun e=> !iQ l2 k e
def CW (o:Oper):Bool:=match o.op with
 | .call c=>match c.callee with | .builtin .append=>true | _=>false
 | _=>false
def iO (o:Oper):Bool:=match o.op with | .indexAddr _ _ _=>true | _=>false
def Di (o:Oper):Bool:=match o.op with | .store _ _ _=>true | _=>false
def Iy : DVal->Option Nat
 | .bx id _ _=>some id
 | .rx id _ _ _ _=>some id
 | _=>none
def PY (slots:List (Nat×DVal)) (o:Oper):Option Nat:=match o.op with
 | .store _ a _=>Iy (Bd slots a)
 | _=>none
def PZ (l2:List Nat) (k:Nat) (slots:List (Nat×DVal)) (o:Oper):Bool:=l2.all fun c=>decide (c<1000000)||c/1000%1000 != k||PY slots o==some (c/1000000-1)
def Lk (own:List Ent) (o:Oper):Bool:= !CW o||(match o.dst with | some i=>(match An own i with | some e=> !FF e | none=>true) | none=>true)
def VL (K:ContE):ContE:=⟨fun d own'=>K.f (.sel true d) own'⟩
theorem DN_ (K:ContE) (d:DVal) (own':List Ent):(VL K).f d own'=K.f (.sel true d) own':=id rfl
def GR_ (P:Program) (c:Bool) (o:Oper) (ed:Operand->DVal) (own:List Ent) (K:ContE):Prop:=match c with
 | true=>Bg_ P o ed own (VL K)
 | false=>K.f (.sel false .any) own
section
variable (P : Program) (nt : Nat) (ow l1 l2 : List Nat)
def Cl (ops:Array Oper):List Oper->Nat->Cont->DS->Prop
 | [],_,K,s=>K.f s
 | o::rest,k,K,s=>match o.guard with
  | none=>if Br ow o then Cf nt o.dst=true/\(Lk s.own o=true/\PZ l2 k s.slots o=true)/\Bg_ P o (ev s.slots) s.own ⟨fun d own'=>Cl ops rest (k+1) K ⟨Bz s.slots o.dst d,own'⟩⟩
   else GU_ P nt o ⟨s.slots,ID l1 l2 k s.own⟩ ⟨fun s'=>Cl ops rest (k+1) K ⟨s'.slots,s.own⟩⟩
  | some (j,want)=>gOK (BI ops s j)=true/\if Br ow o then Cf nt o.dst=true/\(Lk s.own o=true/\PZ l2 k s.slots o=true)/\JF (gB (BI ops s j) want) (ev s.slots) o.op/\GR_ P (gB (BI ops s j) want) o (Bd s.slots) s.own ⟨fun d own'=>Cl ops rest (k+1) K ⟨Bz s.slots o.dst d,own'⟩⟩
   else GT_ P nt (gB (BI ops s j) want) o ⟨s.slots,ID l1 l2 k s.own⟩ ⟨fun s'=>Cl ops rest (k+1) K ⟨s'.slots,s.own⟩⟩
def DU_ (ops:Array Oper) (rest:List Oper) (k:Nat) (own:List Ent) (K:Cont):Cont:=⟨fun s'=>Cl P nt ow l1 l2 ops rest k K ⟨s'.slots,own⟩⟩
theorem FM_ (ops:Array Oper) (rest:List Oper) (k:Nat) (own:List Ent) (K:Cont) (s':DS):(DU_ P nt ow l1 l2 ops rest k own K).f s'=Cl P nt ow l1 l2 ops rest k K ⟨s'.slots,own⟩:=id rfl
def DT_ (ops:Array Oper) (rest:List Oper) (k:Nat) (dst:Option Nat) (sl:List (Nat×DVal)) (K:Cont):ContE:=⟨fun d own'=>Cl P nt ow l1 l2 ops rest (k+1) K ⟨Bz sl dst d,own'⟩⟩
theorem FL_ (ops:Array Oper) (rest:List Oper) (k:Nat) (dst:Option Nat) (sl:List (Nat×DVal)) (K:Cont) (d:DVal) (own':List Ent):(DT_ P nt ow l1 l2 ops rest k dst sl K).f d own'=Cl P nt ow l1 l2 ops rest (k+1) K ⟨Bz sl dst d,own'⟩:=id rfl
theorem Bj_ (ops:Array Oper) (k:Nat) (K:Cont) (s:DS):Cl P nt ow l1 l2 ops [] k K s=K.f s:=id rfl
theorem lG (ops:Array Oper) (o:Oper) (rest:List Oper) (k:Nat) (K:Cont) (s:DS):Cl P nt ow l1 l2 ops (o::rest) k K s=match o.guard with
 | none=>if Br ow o then Cf nt o.dst=true/\(Lk s.own o=true/\PZ l2 k s.slots o=true)/\Bg_ P o (ev s.slots) s.own (DT_ P nt ow l1 l2 ops rest k o.dst s.slots K)
  else GU_ P nt o ⟨s.slots,ID l1 l2 k s.own⟩ (DU_ P nt ow l1 l2 ops rest (k+1) s.own K)
 | some (j,want)=>gOK (BI ops s j)=true/\if Br ow o then Cf nt o.dst=true/\(Lk s.own o=true/\PZ l2 k s.slots o=true)/\JF (gB (BI ops s j) want) (ev s.slots) o.op/\GR_ P (gB (BI ops s j) want) o (Bd s.slots) s.own (DT_ P nt ow l1 l2 ops rest k o.dst s.slots K)
  else GT_ P nt (gB (BI ops s j) want) o ⟨s.slots,ID l1 l2 k s.own⟩ (DU_ P nt ow l1 l2 ops rest (k+1) s.own K):=id rfl
def EK (ops:Array Oper) (o:Oper) (s:DS) (d:DVal) (own':List Ent) (r:Nat):Prop:=match o.guard with
 | none=>Pj P o (ev s.slots) s.own r d own'
 | some (j,want)=>gOK (BI ops s j)=true/\JF (gB (BI ops s j) want) (ev s.slots) o.op /\
  ((gB (BI ops s j) want=true/\∃d0,d= .sel true d0/\Pj P o (Bd s.slots) s.own r d0 own')\/(gB (BI ops s j) want=false/\d= .sel false .any/\own'=s.own))
def Wl (ops:Array Oper) (k:Nat) (o:Oper) (s:DS) (d:DVal) (own':List Ent) (r:Nat):Prop :=
 (Br ow o=true/\Cf nt o.dst=true/\(Lk s.own o=true/\PZ l2 k s.slots o=true)/\EK P ops o s d own' r) \/
  (Br ow o=false/\own'=s.own/\Jf_ P nt ops o ⟨s.slots,ID l1 l2 k s.own⟩ d)
def DH (l:List Oper):Nat:=l.countP (Br ow)
def Eb (ops:Array Oper):Bool :=
 let m:=DF ops.toList []
 let zs:=ops.toList.zipIdx
 lE ops&&zs.all fun p=> !Br ow p.1||zs.all fun q=>p.2==q.2||(decide (p.2<q.2)&&(m.getD q.2 0).testBit p.2)||(decide (q.2<p.2)&&(m.getD p.2 0).testBit q.2) ||
  (!Br ow q.1&&(l2.contains q.2||(l1.contains q.2&&CW p.1)||(!l1.contains q.2&&iO q.1&&Di p.1)||(!l1.contains q.2&&Di p.1&&VA l2 p.2 q.2)))
end
section
variable {P : Program} {nt : Nat} {ow l1 l2 : List Nat}
theorem Ub {ops:Array Oper} {K:Cont} (n0:Nat):∀(rest:List Oper) (k c:Nat) (s:DS),Cl P nt ow l1 l2 ops rest k K s ->
  ∃(ds:List DVal) (owns:Nat->List Ent),ds.length=rest.length/\owns 0=s.own/\K.f ⟨Hy s.slots (rest.zip ds),owns rest.length⟩ /\
   ∀(j:Nat) (o:Oper),rest[j]? =some o->∃d,ds[j]? =some d/\Wl P nt ow l1 l2 ops (k+j) o ⟨Hy s.slots ((rest.zip ds).take j),owns j⟩ d (owns (j+1)) (n0+c+DH ow (rest.take j))
 | [],k,c,s,h=>⟨[],fun _=>s.own,rfl,rfl,by simpa[Cl,Hy]using h,by simp⟩
 | o::rest,k,c,s,h=>by
  have step:∀d own',Wl P nt ow l1 l2 ops k o s d own' (n0+c)->Cl P nt ow l1 l2 ops rest (k+1) K ⟨Bz s.slots o.dst d,own'⟩->∃(ds:List DVal) (owns:Nat->List Ent),ds.length=(o::rest).length/\owns 0=s.own/\K.f ⟨Hy s.slots ((o::rest).zip ds),owns (o::rest).length⟩ /\
    ∀(j:Nat) (o':Oper),(o::rest)[j]? =some o'->∃d,ds[j]? =some d/\Wl P nt ow l1 l2 ops (k+j) o' ⟨Hy s.slots (((o::rest).zip ds).take j),owns j⟩ d (owns (j+1)) (n0+c+DH ow ((o::rest).take j)):=by
   intro d own' qW hr;obtain⟨ds,owns,h1,h0,h2,h3⟩:=Ub n0 rest (k+1) (c+DH ow [o]) _ hr;refine⟨d::ds,fun j=>match j with | 0=>s.own | j+1=>owns j,by simp[h1],rfl,by simpa[Hy]using h2,?_⟩;intro j o' hj
   cases j with
   | zero=>simp only[bE0,aA0]at hj;subst hj;exact⟨d,by simp,by simpa[Hy,DH,h0]using qW⟩
   | succ j =>
    obtain⟨d',h4,h5⟩:=h3 j o' (by simpa using hj);refine⟨d',by simpa using h4,?_⟩
    have e1:n0+(c+DH ow [o])+DH ow (rest.take j)=n0+c+DH ow ((o::rest).take (j+1)):=by
     simp only[cO0,DH,fC0,List.countP_nil];omega
    rw[e1,show k+1+j=k+(j+1) by omega]at h5;simpa[Hy]using h5
  simp only[Cl]at h
  split at h
  ·rename_i hg
   split at h
   ·rename_i he;obtain⟨hd,ha,h⟩:=h;obtain⟨d,own',h1,h2⟩:=Kb h (n0+c);exact step d own' (.inl ⟨he,hd,ha,by unfold EK;rw[hg];exact h1⟩) h2
   ·rename_i he;have he:Br ow o=false:=by simpa using he
    obtain⟨hd,h⟩:=h
    split at h
    ·rename_i c wE
     split at h
     ·rename_i g args hc;obtain⟨d,h1,h2⟩:=Ky h;exact step d _ (.inr ⟨he,rfl,hd,by rw[hg];exact .inl ⟨c,g,args,wE,hc,h1⟩⟩) h2
     ·exact step _ _ (.inr ⟨he,rfl,hd,by rw[hg];exact .inr ⟨h.1,rfl⟩⟩) h.2
    ·exact step _ _ (.inr ⟨he,rfl,hd,by rw[hg];exact .inr ⟨h.1,rfl⟩⟩) h.2
  ·rename_i j want hg;obtain⟨vF,h⟩:=h
   split at h
   ·rename_i he;obtain⟨hd,ha,qW,h⟩:=h
    cases hb:gB (BI ops s j) want with
    | true =>
     rw[hb]at h;obtain⟨d,own',h1,h2⟩:=Kb (K:=VL _) h (n0+c);exact step (.sel true d) own' (.inl ⟨he,hd,ha,by unfold EK;rw[hg];exact⟨vF,qW,.inl ⟨hb,d,rfl,h1⟩⟩⟩) h2
    | false =>
     rw[hb]at h;exact step (.sel false .any) s.own (.inl ⟨he,hd,ha,by unfold EK;rw[hg];exact⟨vF,qW,.inr ⟨hb,rfl,rfl⟩⟩⟩) h
   rename_i he;have he:Br ow o=false:=by simpa using he
   obtain⟨hd,qW,h⟩:=h
   have mk:∀d,(gB (BI ops s j) want=true->FB P o (ID l1 l2 k s.own) (Bd s.slots) d)->Wl P nt ow l1 l2 ops k o s (.sel (gB (BI ops s j) want) d) s.own (n0+c):=by
    intro d h1;refine .inr ⟨he,rfl,hd,?_⟩;rw[hg];exact⟨vF,qW,d,rfl,h1⟩
   split at h
   ·rename_i c wE
    split at h
    ·rename_i g args hc;obtain⟨d,h1,h2⟩:=Ug h;exact step _ _ (mk d fun hq=> .inl ⟨c,g,args,wE,hc,h1 hq⟩) h2
    ·exact step _ _ (mk _ fun hq=> .inr ⟨h.1 hq,rfl⟩) h.2
   ·exact step _ _ (mk _ fun hq=> .inr ⟨h.1 hq,rfl⟩) h.2
end
theorem CT_ (l:List (Nat×DVal)) (o:Option Nat) (d:DVal):Ku (Bz l o d)<=max (mx d) (Ku l):=by
 cases o<;>simp only[Bz,Ku]<;>omega
theorem Xu {l:List (Nat×DVal)} {S:Nat->Bool} {n:Nat} (hl:Ku l<=n):∀(zs:List (Oper×DVal)) (i:Nat),(∀(k:Nat) (z:Oper×DVal),zs[k]? =some z->S (i+k)=true->mx z.2<=n)->Ku (Ed l S i zs)<=n
 | [],_,_=>hl
 | (o,d)::r,i,h=>by
  have ih:=Xu (S:=S) hl r (i+1) (fun k z hz hS=>h (k+1) z (by simpa using hz) (by rwa[show i+1+k=i+(k+1) by omega]at hS));simp only[Ed]
  split
  ·rename_i hS;refine Nat.le_trans (CT_ _ _ _) ?_;have:=h 0 (o,d) (by simp) (by simpa using hS);simp only at this;omega
  ·exact ih
end Go.Dm
end
