/- Parts of a proof, laid together: EnK, EnL. -/
import Derived.Test.YtiojapdolljocaaGreatqBo11
set_option linter.unusedSimpArgs false
set_option maxHeartbeats 8000000
set_option linter.unusedVariables false
set_option linter.unusedSectionVars false
section
namespace Go.Dm
variable [DMode]
def KJ (a b:List Ent):Prop:=∀id e,Aj a id=some e->Aj b id=some e
section
variable {P : Program} {a b : List Ent} {e : Operand -> DVal}
theorem Dq (h:KJ a b) {id r:Nat} (hc:DB a id r=true):DB b id r=true:=by
 unfold DB at hc |-
 split at hc
 ·rename_i x hx;rw[h _ _ hx];exact hc
 ·simp at hc
theorem Nz (h:KJ a b) {p:DVal} {cs:List DVal} (hc:Du a p=some cs):Du b p=some cs:=by
 cases p<;>simp only[Du]at hc |- <;>try exact hc
 ·split at hc
  ·rename_i x hx;rw[h _ _ hx];exact hc
  ·simp at hc
 ·split at hc
  ·rename_i x hx;rw[h _ _ hx];exact hc
  ·simp at hc
theorem Ey (h:KJ a b) {p:DVal} {x:Nat×Nat×List (List DVal)} (hc:Ba a p=some x):Ba b p=some x:=by
 cases p<;>simp only[Ba]at hc |- <;>try exact hc
 ·split at hc
  ·rename_i y hy;rw[h _ _ hy];exact hc
  ·simp at hc
 ·split at hc
  ·rename_i y hy;rw[h _ _ hy];exact hc
  ·simp at hc
theorem xR (h:KJ a b) {d:DVal} (hc:EO a d=true):EO b d=true:=by
 cases d<;>simp only[EO]at hc |- <;>try exact hc
 ·exact Dq h hc
 ·exact Dq h hc
 ·obtain⟨x,hx⟩:=bE0.1 hc;rw[Ey h hx];rfl
 ·exact Dq h hc
 ·exact Dq h hc
 ·split at hc
  ·rename_i e he;rw[h _ e he];exact hc
  ·simp at hc
theorem Kl (h:KJ a b) {d:DVal} (hc:Cq a d=true):Cq b d=true:=by
 unfold Cq at hc |-;exact bB0.2 fun x hx=>xR h (bB0.1 hc x hx)
theorem Sn (h:KJ a b) {p:DVal} {x:List DVal×List DVal} (hc:FJ a p=some x):FJ b p=some x:=by
 unfold FJ at hc |-
 split at hc
 ·exact hc
 ·exact hc
 ·rename_i id r
  cases hf:Aj a id with
  | none=>rw[hf]at hc;simp at hc
  | some e=>rw[hf]at hc;simp only[h id e hf];exact hc
 ·simp at hc
theorem By_ (h:KJ a b) {bi:Builtin} {ds:List DVal} {ts:List TypeId} (hp:Ry P a bi ds ts):Ry P b bi ds ts/\LQ b bi ds=LQ a bi ds:=by
 unfold Ry at hp
 split at hp
 ·rename_i d t
  cases d<;>simp only[Ry,LQ]at hp |- <;>first
   | exact⟨hp,trivial⟩
   |(obtain⟨h1,h2⟩:=hp
     obtain⟨x,hx⟩:=bE0.1 h1;rw[hx,Ey h hx]
     exact⟨⟨rfl,h2⟩,rfl⟩)
   |(obtain⟨h1,h2⟩:=hp
     split at h2
     ·rename_i hx;rw[Sn h hx];exact⟨⟨h1,h2⟩,rfl⟩
     ·exact h2.elim)
 ·simp only[Ry,LQ];exact⟨hp,trivial⟩
 ·simp only[Ry,LQ];exact⟨hp,trivial⟩
 ·simp only[Ry,LQ];exact⟨hp,trivial⟩
 ·exact hp.elim
theorem Fh_ (h:KJ a b) (op:Op) (hp:Fa P a e op):Fa P b e op/\Bv P b e op=Bv P a e op:=by
 cases op<;>simp only[Fa,Bv]at hp |- <;>first
  | exact⟨hp,trivial⟩
  | exact hp.elim
  | trivial
  | skip
 case fieldAddr t x f =>
  refine⟨?_,trivial⟩
  split at hp
  ·exact hp
  ·exact⟨hp.1,Dq h hp.2⟩
  ·exact⟨hp.1,Dq h hp.2⟩
  ·exact hp.elim
 case nilCheck x =>
  refine⟨?_,trivial⟩
  split at hp
  ·trivial
  ·exact Dq h hp
  ·exact Dq h hp
  ·trivial
  ·exact hp.elim
 case load t x =>
  split at hp
  ·rename_i h1 h2 h3;rw[h1,h2,Nz h h3];exact⟨hp,rfl⟩
  ·rename_i h1 h3;rw[h1,Nz h h3];exact⟨hp,rfl⟩
  ·exact hp.elim
 case indexAddr t x i =>
  split at hp
  ·rename_i ik n k bs k' bs' es h1 h2 h3;rw[h1,h2,Ey h h3];refine⟨hp,?_⟩;simp only;cases hx:e x<;>rw[hx]at h3<;>simp only[FM];rw[h3,Ey h h3]
  ·rename_i ik n h1 h2;rw[h1,h2];simp only
   split at hp
   ·rename_i len k h3;obtain⟨p1,p2,p3⟩:=hp;refine⟨⟨p1,p2,?_⟩,trivial⟩;cases hx:e x<;>rw[hx]at p3<;>simp only at p3 |- <;>exact Dq h p3
   ·exact hp.elim
  ·exact hp.elim
 case box t x=>exact⟨Kl h hp,trivial⟩
 case slice t x l' h' m =>
  cases hx:e x<;>rw[hx]at hp<;>simp only at hp |- <;>first
   | exact⟨hp,trivial⟩
   | exact hp.elim
   | skip
  ·rename_i id r
   cases dW:Ba a (.osl id r)with
   | none=>rw[dW]at hp;exact hp.2.elim
   | some y=>rw[dW]at hp;rw[Ey h dW];exact⟨hp,rfl⟩
  ·obtain⟨h1,h2,h3⟩:=hp;obtain⟨y,hy⟩:=bE0.1 h2;rw[Ey h hy];exact⟨⟨h1,rfl,h3⟩,trivial⟩
 case lookup t x i ok =>
  split at hp
  ·rename_i h1 h2;rw[h1,Sn h h2];exact⟨hp,rfl⟩
  ·exact hp.elim
 case build t ps =>
  refine⟨?_,trivial⟩
  split at hp
  ·exact⟨hp.1,bB0.2 fun p hm=>Kl h (bB0.1 hp.2.1 p hm),hp.2.2⟩
  ·exact hp.elim
 case buildSlice t n ps =>
  refine⟨?_,trivial⟩
  split at hp
  ·obtain⟨h1,h2,h3,h4,h5,h6,h7⟩:=hp;refine⟨h1,h2,h3,h4,h5,?_,h7⟩;refine bB0.2 fun p hm=> ?_
   have:=bB0.1 h6 p hm;rw[aN0]at this |-;exact⟨Kl h this.1,this.2⟩
  ·exact hp.elim
 case call c =>
  obtain⟨cal,args,ts⟩:=c
  cases cal with
  | builtin bi=>exact By_ h hp
  | value f=>exact hp.elim
  | invoke r m=>exact hp.elim
end
theorem eS : ∀{l:List DVal} {d:DVal},d∈l->mx d<=AH l
 | x::l,d,h=>by
  simp only[AH]
  rcases aJ0.1 h with rfl | h
  ·omega
  ·have:=eS h;omega
theorem TY : ∀{l:List (List DVal)} {d:List DVal},d∈l->AH d<=Bo l
 | x::l,d,h=>by
  simp only[Bo]
  rcases aJ0.1 h with rfl | h
  ·omega
  ·have:=TY h;omega
theorem TZ {n:Nat}:∀{l:List DVal},(∀d∈l,mx d<=n)->AH l<=n
 | [],_=>by simp[AH]
 | x::l,h=>by
  simp only[AH];have:=h x aH0;have:=TZ (l:=l) fun d hd=>h d (aF0 _ hd)
  omega
theorem Zr {n:Nat}:∀{l:List (List DVal)},(∀d∈l,AH d<=n)->Bo l<=n
 | [],_=>by simp[Bo]
 | x::l,h=>by
  simp only[Bo];have:=h x aH0;have:=Zr (l:=l) fun d hd=>h d (aF0 _ hd)
  omega
theorem Ps (l:List DVal):mx (l.headD .any)<=AH l:=by
 cases l with
 | nil=>simp[mx,AH]
 | cons d l=>simp only[List.headD_cons,AH];omega
theorem eR (l:List DVal) (i:Nat):mx (l.getD i .any)<=AH l:=by
 rw[aM0]
 cases h:l[i]? with
 | none=>simp[mx]
 | some d=>exact eS (bU0 h)
theorem Ak_ (l:List (List DVal)) (i:Nat):AH (l.getD i [])<=Bo l:=by
 rw[aM0]
 cases h:l[i]? with
 | none=>simp[AH]
 | some d=>exact TY (bU0 h)
section
variable {P : Program} {own : List Ent} {e : Operand -> DVal} {n : Nat}
theorem Qz {p:DVal} {cs:List DVal} (hc:Du own p=some cs):AH cs<=max (mx p) (FZ own):=by
 unfold Du at hc
 split at hc
 ·simp only[aA0]at hc;subst hc;simp only[mx];omega
 ·split at hc
  ·rename_i x hx
   split at hc
   ·split at hc
    ·rename_i cs0 qO;simp only[aA0]at hc;subst hc;have h1:=(Bi (AN hx).1).2;rw[qO]at h1;simp only[Ez]at h1;exact Nat.le_trans (Eb _ _) (by omega)
    ·simp at hc
   ·simp at hc
  ·simp at hc
 ·split at hc
  ·rename_i x hx
   split at hc
   ·split at hc
    ·rename_i es qO
     split at hc
     ·rw[bA0]at hc;obtain⟨c0,h0,rfl⟩:=hc;have h1:=(Bi (AN hx).1).2;rw[qO]at h1;simp only[Ez]at h1;have h2:=TY (bU0 h0);exact Nat.le_trans (Eb _ _) (by omega)
     ·simp at hc
    ·simp at hc
   ·simp at hc
  ·simp at hc
 ·simp at hc
theorem WN {place:Nat->Option (Nat×Nat)}:∀(ps:List (Nat×DVal)) (z r:List DVal),FP place z ps=some r->AH z<=n->(∀p∈ps,mx p.2<=n)->AH r<=n
 | [],z,r,h,hz,_=>by simp only[FP,aA0]at h;subst h;exact hz
 | (i,d)::ps,z,r,h,hz,hp=>by
  simp only[FP]at h
  split at h
  ·simp at h
  ·split at h
   ·refine WN ps _ r h ?_ fun p hm=>hp p (aF0 _ hm)
    have h2:=hp (i,d) aH0;refine Nat.le_trans (Jh z _ (AD d)) ?_;rw[Cy];simp only at h2;omega
   ·simp at h
theorem KR {t:TypeId} {z:List DVal} (h:tZero P t=some z):AH z=0:=by
 have h1:∀v,mx (BQ v)=0:=by
  intro v;unfold BQ
  split<;>(try split)<;>simp[mx]
 obtain⟨zv,_,rfl⟩:=Fz (w:=default) h
 have:AH (zv.cells.toList.map BQ)<=0:=TZ fun d hd=>by
  obtain⟨v,_,rfl⟩:=aR0.1 hd;rw[h1];omega
 omega
theorem Dg_ {op:BinOp} {t:TypeId} {x y d:DVal} (h:Gb P op t x y=some d):mx d=0:=by
 unfold Gb at h
 repeat' split at h
 all_goals first
  | (simp only[aA0]at h;subst h;rfl)
  | simp at h
theorem Du_ {bi:Builtin} {ds:List DVal}:mx (LQ own bi ds)=0:=by
 unfold LQ
 repeat' split
 all_goals rfl
theorem rI {d:DVal} {i:Int} (hn:FZ own<=n) (hd:mx d<=n):mx (FM own d i)<=n:=by
 unfold FM
 split
 ·rename_i k bs es;simp only[mx]at hd |-;exact Nat.le_trans (Ak_ _ _) hd
 ·split
  ·simpa[mx]using hd
  ·simp[mx]
 ·simpa[mx]using hd
 ·simp[mx]
theorem Ad_ {t:Bool} {x y:DVal} (hx:mx x<=n) (hy:mx y<=n):mx (IB t x y)<=n:=by
 unfold IB
 split<;>first
  | (simp[mx];done)
  | (split<;>assumption)
theorem Ap_ {p:DVal} {ks vs:List DVal} (hc:FJ own p=some (ks,vs)):AH vs<=max (mx p) (FZ own):=by
 unfold FJ at hc
 split at hc
 ·simp only[aA0,aS0]at hc;obtain⟨rfl,rfl⟩:=hc;simp only[mx];omega
 ·simp only[aA0,aS0]at hc;obtain⟨rfl,rfl⟩:=hc;simp[AH]
 ·split at hc
  ·rename_i e he
   split at hc
   ·split at hc
    ·rename_i qO;simp only[aA0,aS0]at hc;obtain⟨rfl,rfl⟩:=hc;have:=(Bi (AN he).1).2;rw[qO]at this;simp only[Ez]at this;omega
    ·simp at hc
   ·simp at hc
  ·simp at hc
 ·simp at hc
theorem Ec_ (v:Value):mx (ofV v)=0:=by
 have h1:∀v,mx (BQ v)=0:=by
  intro v;unfold BQ
  split<;>(try split)<;>simp[mx]
 unfold ofV
 split
 ·rename_i cs;simp only[mx]
  generalize cs.toList=l
  induction l with
  | nil=>simp[AH]
  | cons v l ih=>simp[AH,h1,ih]
 ·exact h1 _
theorem oR {t:TypeId} {z:DVal} (h:tZeroD P t=some z):mx z=0:=by
 unfold tZeroD at h
 split at h
 ·rw[bA0]at h;obtain⟨v,_,rfl⟩:=h;exact Ec_ v
 ·simp at h
theorem Fg_ (hn:FZ own<=n) (op:Op) (h:∀x∈op.operands,mx (e x)<=n):mx (Bv P own e op)<=n:=by
 have any0:mx DVal.any<=n:=by simp[mx]
 have parts:∀(ps:Array (Nat×Operand)),(∀x∈(ps.toList.map (·.2)).toArray,mx (e x)<=n)->∀p∈ps.toList,mx (e p.2)<=n:=by
  intro ps h p hp;exact h p.2 (by simpa using ⟨p.1,by simpa using hp⟩)
 cases op<;>simp only[Op.operands]at h<;>simp only[Bv]<;>try exact any0
 case move x=>exact h x (by simp)
 case assign x=>exact h x (by simp)
 case nilCheck x=>exact h x (by simp)
 case pick c x y =>
  split
  ·exact Ad_ (h x (by simp)) (h y (by simp))
  ·exact any0
 case fieldAddr t x f =>
  have:=h x (by simp)
  split
  ·rename_i hx;rw[hx]at this;simp only[mx]at this |-;exact Nat.le_trans (Eb _ _) this
  ·rename_i hx;rw[hx]at this;simpa[mx]using this
  ·rename_i hx;rw[hx]at this;simpa[mx]using this
  ·exact any0
 case load t x =>
  have:=h x (by simp)
  split
  ·rename_i h3;have:=Qz h3;simp only[mx];exact Nat.le_trans (Ln _ _) (by omega)
  ·rename_i h3;have:=Qz h3;exact Nat.le_trans (Ps _) (by omega)
  ·exact any0
 case indexAddr t x i =>
  split
  ·exact rI hn (h x (by simp))
  ·split
   ·have:=h x (by simp);unfold ZW
    split
    ·rename_i hx;rw[hx]at this;simp only[mx]at this |-;exact Nat.le_trans (Eb _ _) this
    ·rename_i hx;rw[hx]at this;simpa[mx]using this
    ·rename_i hx;rw[hx]at this;simpa[mx]using this
    ·exact any0
   ·exact any0
  ·exact any0
 case index t x i =>
  split
  ·simp[mx]
  ·rename_i cs ik n hx hi;have:=h x (by simp);rw[hx]at this;simp only[mx]at this;exact Nat.le_trans (Ps _) (Nat.le_trans (Eb _ _) this)
  ·exact any0
 case field t x f =>
  have:=h x (by simp)
  split
  ·rename_i hx;rw[hx]at this;simp only[mx]at this
   split
   ·simp only[mx];exact Nat.le_trans (Ln _ _) (Nat.le_trans (Eb _ _) this)
   ·exact Nat.le_trans (Ps _) (Nat.le_trans (Eb _ _) this)
  ·exact any0
 case binOp op t x y yt =>
  cases hd:Gb P op t (e x) (e y)with
  | none=>exact any0
  | some d=>simp[Dg_ hd]
 case unOp op t x =>
  split
  ·simp[mx]
  ·simp[mx]
  ·exact any0
 case convert src dst x =>
  have:=h x (by simp)
  split
  ·split
   ·simp[mx]
   ·exact any0
  ·exact this
 case extract x i =>
  have:=h x (by simp)
  split
  ·rename_i hx;rw[hx]at this;simp only[mx]at this;exact Nat.le_trans (eR _ _) this
  ·exact any0
 case makeFunc f us cs =>
  simp only[mx]
  have h1:AH (us.toList.map e)<=n:=TZ fun d hd=>by
   obtain⟨x,hx,rfl⟩:=aR0.1 hd;exact h x (by simp;left;simpa using hx)
  have h2:AH (cs.toList.map e)<=n:=TZ fun d hd=>by
   obtain⟨x,hx,rfl⟩:=aR0.1 hd;exact h x (by simp;right;simpa using hx)
  omega
 case makeInterface t x=>simp only[mx];exact h x (by simp)
 case slice t x l h' m =>
  have:=h x (by simp)
  split
  ·rename_i hx;rw[hx]at this;simp only[mx]at this |-;exact Nat.le_trans (FG _ _) (Nat.le_trans (FH _ _) this)
  ·simp[mx]
  ·rename_i hx;rw[hx]at this
   split
   ·simpa[mx]using this
   ·exact any0
  ·rename_i hx;rw[hx]at this;simpa[mx]using this
  ·simp[mx]
  ·exact any0
 case lookup t x i ok =>
  have hx:=h x (by simp)
  split
  ·rename_i kt et ks vs ht hc;have wF:=Ap_ hc
   have key:mx (match AU ks (e i)with | some j=>vs.getD j .any | none=>(tZeroD P et).getD .any)<=n:=by
    split
    ·exact Nat.le_trans (eR _ _) (by omega)
    ·cases hz:tZeroD P et with
     | none=>exact any0
     | some z=>simp[oR hz]
   cases ok
   ·exact key
   ·exact dR0.2 ⟨key,by simp[mx,AH]⟩
  ·exact any0
 case box t x=>simp only[mx,Cy];exact h x (by simp)
 case build t ps =>
  have hp:=parts ps h
  split
  ·rename_i z hz;simp only[mx]
   cases hf:FP (Gs P t) z (ps.toList.map fun p=>(p.1,e p.2))with
   | none=>simp[AH]
   | some r =>
    refine WN _ z r hf (by rw[KR hz];omega) ?_;intro p hm;obtain⟨q,hq,rfl⟩:=aR0.1 hm;exact hp q hq
  ·exact any0
 case buildSlice t len ps =>
  have hp:=parts ps h
  split
  ·simp only[mx];refine Zr fun cs hm=> ?_
   obtain⟨q,hq,rfl⟩:=aR0.1 hm;rw[Cy];exact hp q hq
  ·exact any0
 case call c =>
  split
  ·rw[Du_];omega
  ·exact any0
theorem VT {l:List (Nat×DVal)}:∀xs:List Operand,Fs true (ev l) xs->∀x∈xs,mx (AW l x)<=mx (ev l x)
 | [],_,x,hx=>by cases hx
 | y::ys,h,x,hx=>by
  simp only[Fs]at h
  rcases aJ0.1 hx with rfl | hx
  ·unfold AW;cases hq:ev l x<;>simp only[Ip]<;>try exact Nat.le_refl _
   rw[hq]at h;simp only[tZ]at h;simp[mx,h.1 trivial]
  ·exact VT ys h.2 x hx
theorem Sj {l:List (Nat×DVal)} {x:Operand} (h:tZ true (ev l x)):mx (AW l x)<=mx (ev l x):=by
 unfold AW;cases hq:ev l x<;>simp only[Ip]<;>try exact Nat.le_refl _
 rw[hq]at h;simp only[tZ]at h;simp[mx,h trivial]
theorem VU (t:Bool) (x y:DVal):mx (IB t x y)<=mx (if t then x else y):=by
 unfold IB
 split<;>first
  | (simp[mx];done)
  | exact Nat.le_refl _
theorem Cq_ {l:List (Nat×DVal)} {op:Op} (qW:IF true (ev l) op) (hp:Fa P own (AW l) op) (hn:FZ own<=n) (h:∀x∈op.operands,mx (ev l x)<=n):mx (Bv P own (AW l) op)<=n:=by
 by_cases hpk:∃x a b,op= .pick x a b
 ·obtain⟨x,a,b,rfl⟩:=hpk;simp only[IF]at qW;obtain⟨h1,h2⟩:=qW;simp only[Fa]at hp;cases hx:AW l x<;>rw[hx]at hp<;>try exact hp.elim
  rename_i t;have h2:=h2 t hx;simp only[Bv,hx];refine Nat.le_trans (VU _ _ _) ?_;cases t
  ·exact Nat.le_trans (Sj (h2.2 rfl)) (h b (by simp[Op.operands]))
  ·exact Nat.le_trans (Sj (h2.1 rfl)) (h a (by simp[Op.operands]))
 ·have zF:Fs true (ev l) op.operands.toList:=by
   unfold IF at qW
   split at qW
   ·exact absurd ⟨_,_,_,rfl⟩ hpk
   ·exact qW
  exact Fg_ hn op fun x hx=>Nat.le_trans (VT _ zF x (by simpa using hx)) (h x hx)
end
section
variable {P : Program} {o : Oper} {l l' : List (Nat × DVal)} {own : List Ent} {r n : Nat}
theorem ZL {e1 e2:Operand->DVal} (h:∀x∈o.op.operands,e1 x=e2 x):Ii P o e1 own r=Ii P o e2 own r:=by
 unfold Ii;obtain⟨dst,op,type,FX,after,guard⟩:=o;simp only at h |-;cases op<;>simp only[Op.operands]at h<;>simp only
 case box t x=>rw[h x (by simp)]
 case store t a x=>rw[h a (by simp),h x (by simp)]
 case mapUpdate t m k x=>rw[h m (by simp),h k (by simp),h x (by simp)]
 case makeSlice t l c=>rw[h l (by simp),h c (by simp)]
 case buildSlice t n ps =>
  have hc:=(Pr (P:=P) (own:=own) (e:=e1) (e':=e2) (.buildSlice t n ps) h).1;have e1:(ps.toList.map fun p=>AD (e1 p.2))=ps.toList.map fun p=>AD (e2 p.2):=bV0 fun p hm=>by rw[h p.2 (by simpa using ⟨p.1,by simpa using hm⟩)]
  rw[propext hc,e1]
 case call c =>
  obtain⟨cal,args,ts⟩:=c
  cases cal with
  | builtin b =>
   have:args.toList.map (e1)=args.toList.map (e2):=bV0 fun x hx=>h x (by simp[Call.operands];simpa using hx)
   cases b<;>simp only[this]
  | value f=>rfl
  | invoke a b=>rfl
theorem Ze {e1 e2:Operand->DVal} {c:Call} (h:∀x∈c.operands,e1 x=e2 x):TJ e1 c=TJ e2 c:=by
 obtain⟨cal,args,ts⟩:=c
 cases cal with
 | value f =>
  have h1:args.toList.map e1=args.toList.map e2:=bV0 fun x hx=>h x (by simp[Call.operands];simp at hx;exact .inr hx)
  have h2:=h f (by simp[Call.operands]);simp only[TJ,h1,h2]
 | builtin b=>rfl
 | invoke a b=>rfl
theorem QR {e1 e2:Operand->DVal} {d:DVal} {own':List Ent} (h:∀x∈o.op.operands,e1 x=e2 x) (hx:NW P o e1 own r d own'):NW P o e2 own r d own':=by
 rcases hx with ⟨x,h1,h2⟩ | ⟨c,g,args,h1,h2,h3⟩ | ⟨c,id,r',args,e0,l,e,A,A',b,h1,h2,h3⟩
 ·exact .inl ⟨x,by rw[<-ZL h];exact h1,h2⟩
 ·exact .inr (.inl ⟨c,g,args,h1,by rw[<-LL (fun x hx=>h x (by rw[h1];exact hx))];exact h2,h3⟩)
 ·exact .inr (.inr ⟨c,id,r',args,e0,l,e,A,A',b,h1,by rw[<-Ze (fun x hx=>h x (by rw[h1];exact hx))];exact h2,h3⟩)
theorem CI (own:List Ent) (id r:Nat) (obj:DObj):FZ (upE own id r obj)<=max (max (r+1) (Ez obj)) (FZ own):=by
 have:FZ (CC own id)<=FZ own:=by
  induction own with
  | nil=>simp[CC]
  | cons e t ih =>
   simp only[CC]
   split
   ·simp only[FZ];omega
   ·simp only[FZ];omega
 simp only[upE,FZ];omega
theorem Dd_ {x:ERes} {ed:Operand->DVal} (h:Ii P o ed own r=some x) (hp:x.pre) (ho:FZ own<=n) (yA:∀y∈o.op.operands,mx (ed y)<=n) (hr:n<=r):mx x.d<=r+1/\FZ x.own<=r+1:=by
 obtain⟨dst,op,type,FX,after,guard⟩:=o;unfold Ii at h;simp only at h;cases op<;>simp only[reduceCtorEq]at h
 case box t y =>
  split at h
  ·rename_i i;simp only[aA0]at h;subst h;refine⟨by simp[mx],Nat.le_trans (CI _ _ _ _) ?_⟩;have:=yA y (by simp[Op.operands]);simp only[Ez,Cy];omega
  ·simp at h
 case buildSlice t len ps =>
  split at h
  ·simp only[aA0]at h;subst h;refine⟨by simp[mx],Nat.le_trans (CI _ _ _ _) ?_⟩
   have:Bo (ps.toList.map fun p=>AD (ed p.2))<=n:=Zr fun cs hm=>by
    obtain⟨p,zS,rfl⟩:=aR0.1 hm;rw[Cy];exact yA p.2 (by simpa[Op.operands]using ⟨p.1,by simpa using zS⟩)
   simp only[Ez];omega
  ·simp at h
 case alloc t =>
  split at h
  ·rename_i i z hi hz;simp only[aA0]at h;subst h;refine⟨by simp[mx],Nat.le_trans (CI _ _ _ _) ?_⟩;simp only[Ez,KR hz];omega
  ·simp at h
 case store t ad y =>
  split at h
  ·rename_i id r' off had
   split at h
   ·rename_i e he
    split at h
    ·rename_i cs qO;simp only[aA0]at h;subst h;refine⟨by simp[mx],Nat.le_trans (CI _ _ _ _) ?_⟩;simp only at hp;obtain⟨h1,h2⟩:=Bi (AN he).1;rw[qO]at h2;simp only[Ez]at h2 |-;have h3:=Jh cs off (AD (ed y));have h4:=yA y (by simp[Op.operands,Call.operands]);rw[Cy]at h3;have:=hp.1;omega
    ·simp at h
   ·simp at h
  ·unfold ED at h
   split at h
   ·rename_i e he
    split at h
    ·rename_i qO
     split at h
     ·rename_i c0 yN;simp only[aA0]at h;subst h;refine⟨by simp[mx],Nat.le_trans (CI _ _ _ _) ?_⟩;simp only at hp;obtain⟨h1,h2⟩:=Bi (AN he).1;rw[qO]at h2;simp only[Ez]at h2 |-;have h3:=Jh c0;have h4:=yA y (by simp[Op.operands,Call.operands]);have h5:=hp.1;have h6:=Al_ yN;refine dR0.2 ⟨dR0.2 ⟨by omega,TW _ _ (by omega) (Nat.le_trans (h3 _ _) ?_)⟩,by omega⟩;rw[Cy];omega
     ·simp at h
    ·simp at h
   ·simp at h
  ·simp at h
 case makeSlice t lo co =>
  unfold WT at h
  split at h
  ·rename_i hz _ _;simp only[aA0]at h;subst h;refine⟨by simp[mx],Nat.le_trans (CI _ _ _ _) ?_⟩;simp only[Ez];unfold tZeroE at hz
   split at hz
   ·refine dR0.2 ⟨dR0.2 ⟨by omega,Nat.le_trans (TX (dF0 (KR hz))) (by omega)⟩,by omega⟩
   ·simp at hz
  ·simp at h
 case makeMap t rv =>
  split at h
  ·simp only[aA0]at h;subst h;refine⟨by simp[mx],Nat.le_trans (CI _ _ _ _) ?_⟩;simp only[Ez,AH];omega
  ·simp at h
 case mapUpdate t m k x =>
  split at h
  ·split at h
   ·rename_i e he
    split at h
    ·rename_i ks vs qO;simp only[aA0]at h;subst h;refine⟨by simp[mx],Nat.le_trans (CI _ _ _ _) ?_⟩;simp only at hp;obtain⟨h1,h2⟩:=Bi (AN he).1;rw[qO]at h2;simp only[Ez]at h2 |-;have h3:=VY ks (ed k);have h4:=VX ks vs (ed k) (ed x);have h5:=yA k (by simp[Op.operands,Call.operands]);have h6:=yA x (by simp[Op.operands,Call.operands]);have:=hp.1;omega
    ·simp at h
   ·simp at h
  ·simp at h
 case call c =>
  obtain⟨cal,args,ats⟩:=c;cases cal<;>simp only[reduceCtorEq]at h;rename_i b;cases b<;>simp only[reduceCtorEq]at h
  case append =>
   unfold LB at h
   split at h
   ·rename_i da db t t' qN zA
    split at h
    ·rename_i i k bs et _ _
     split at h
     ·rename_i x jT
      split at h
      ·rename_i id es hdest;simp only[aA0]at h;subst h;refine⟨by simp[mx],Nat.le_trans (CI _ _ _ _) ?_⟩;simp only[Ez,Br,Ft];have h1:Bo es<=n:=sZ hdest (by omega);omega
      ·simp at h
     split at h
     ·rename_i id es k2 es2 hdest wG;simp only[aA0]at h;subst h
      have hda:mx da<=n:=by
       have:da∈args.toList.map (ed):=by rw[qN];simp
       obtain⟨y,hy,rfl⟩:=aR0.1 this;exact yA y (by simpa[Op.operands,Call.operands]using hy)
      have hdb:mx db<=n:=by
       have:db∈args.toList.map (ed):=by rw[qN];simp
       obtain⟨y,hy,rfl⟩:=aR0.1 this;exact yA y (by simpa[Op.operands,Call.operands]using hy)
      refine⟨by simp[mx],Nat.le_trans (CI _ _ _ _) ?_⟩;simp only[Ez,Br]
      have h1:Bo es<=n:=by
       unfold GA at hdest
       split at hdest
       ·simp only[aA0,aS0]at hdest;obtain⟨_,rfl⟩:=hdest;simp[Bo]
       ·split at hdest
        ·rename_i e0 vG
         split at hdest
         ·split at hdest
          ·rename_i qO
           split at hdest
           ·simp only[aA0,aS0]at hdest;obtain⟨_,rfl⟩:=hdest;have:=(Bi (AN vG).1).2;rw[qO]at this;simp only[Ez]at this;omega
           ·simp at hdest
          ·simp at hdest
         ·simp at hdest
        ·simp at hdest
       ·simp at hdest
      have h2:Bo es2<=n:=by
       unfold Iy at wG
       split at wG
       ·simp only[aA0,aS0]at wG;obtain⟨_,rfl⟩:=wG;simp[Bo]
       ·simp only[aA0,aS0]at wG;obtain⟨_,rfl⟩:=wG;simp[Bo]
       ·rw[bA0]at wG;obtain⟨⟨k',b',es'⟩,h1,h2⟩:=wG;simp only[aS0]at h2;obtain⟨_,rfl⟩:=h2;have:=Mp h1;omega
      omega
     ·simp at h
    ·simp at h
   ·simp at h
  case copy =>
   unfold WU at h
   split at h
   ·rename_i d sd t t' qN zA
    split at h
    ·rename_i k k0 id r' i m et k' bs es k2 es2 ht bG wG;simp only[aA0]at h;subst h;obtain⟨e,bs0,he,qS,qO,hdd⟩:=VI bG
     have hdb:mx sd<=n:=by
      have:sd∈args.toList.map (ed):=by rw[qN];simp
      obtain⟨y,hy,rfl⟩:=aR0.1 this;exact yA y (by simpa[Op.operands,Call.operands]using hy)
     refine⟨by simp[mx],Nat.le_trans (CI _ _ _ _) ?_⟩;obtain⟨h1,h2⟩:=Bi (AN he).1;rw[qO]at h2;simp only[Ez]at h2 |-;have h3:Bo (Ia es i m es2)<=n:=WW (by omega) (Vr wG (by omega) hdb);omega
    ·simp at h
   ·simp at h
  case clear =>
   have key:∀{zs:List DVal} {t:TypeId} {es:List (List DVal)} {i m N:Nat},tZeroE P t=some zs->Bo es<=N->Bo (DO es i m zs)<=N:=by
    intro zs t es i m N hz wB;unfold tZeroE at hz
    split at hz
    ·unfold DO;rw[Br,Br];have:=FG i es;have:=FH (i+m) es;have:=TX (n:=0) (m:=m) (dF0 (KR hz));omega
    ·simp at hz
   unfold Qj at h
   split at h
   ·split at h
    ·rename_i hz
     split at h
     ·split at h
      ·rename_i e he
       split at h
       ·rename_i qO;simp only[aA0]at h;subst h;refine⟨by simp[mx,AH],Nat.le_trans (CI _ _ _ _) ?_⟩;simp only at hp;obtain⟨h1,h2⟩:=Bi (AN he).1;rw[qO]at h2;simp only[Ez]at h2 |-;have h3:=hp.1;exact dR0.2 ⟨dR0.2 ⟨by omega,key hz (by omega)⟩,by omega⟩
       ·simp at h
      ·simp at h
     ·split at h
      ·rename_i e he
       split at h
       ·rename_i qO;simp only[aA0]at h;subst h;refine⟨by simp[mx,AH],Nat.le_trans (CI _ _ _ _) ?_⟩;simp only at hp;obtain⟨h1,h2⟩:=Bi (AN he).1;rw[qO]at h2;simp only[Ez]at h2 |-;have h3:=hp.1;exact dR0.2 ⟨dR0.2 ⟨by omega,key hz (by omega)⟩,by omega⟩
       ·simp at h
      ·simp at h
     ·simp at h
    ·simp at h
   ·simp at h
  case delete =>
   unfold LA at h
   split at h
   ·split at h
    ·split at h
     ·rename_i e he
      split at h
      ·rename_i ks vs qO;simp only[aA0]at h;subst h;refine⟨by simp[mx,AH],Nat.le_trans (CI _ _ _ _) ?_⟩;simp only at hp;obtain⟨h1,h2⟩:=Bi (AN he).1;rw[qO]at h2;simp only[Ez]at h2 |-;have h3:=hp.1;refine dR0.2 ⟨dR0.2 ⟨by omega,dR0.2 ⟨Nat.le_trans (Wb _ _) (by omega),Nat.le_trans (Wa _ _ _) (by omega)⟩⟩,by omega⟩
      ·simp at h
     ·simp at h
    ·simp at h
   ·simp at h
end
def Fb (e:Ent):Bool:=match e.obj with | .box _=>true | _=>false
def ZA (l2:List Nat) (q:Nat) (e:Ent):Bool:=l2.any fun c=>decide (1000000<=c)&&c%1000==q&&c/1000000==e.id+1
def Uh (l2:List Nat) (p q:Nat):Bool:=l2.any fun c=>decide (1000000<=c)&&c%1000==q&&c/1000%1000==p
def HD (l1 l2:List Nat) (k:Nat) (own:List Ent):List Ent:=if l2.contains k then []else if l1.contains k then own.filter Fb else if l2.isEmpty then own else own.filter fun e=> !ZA l2 k e
def CN (o:Oper):Bool:=match o.op with
 | .call c=>match c.callee with | .builtin .append=>true | _=>false
 | _=>false
def Zy (o:Oper):Bool:=match o.op with | .indexAddr _ _ _=>true | _=>false
def CY (o:Oper):Bool:=match o.op with | .store _ _ _=>true | _=>false
def Hx : DVal->Option Nat
 | .bx id _ _=>some id
 | .rx id _ _ _ _=>some id
 | _=>none
def OK (slots:List (Nat×DVal)) (o:Oper):Option Nat:=match o.op with
 | .store _ a _=>Hx (AW slots a)
 | _=>none
def OL (l2:List Nat) (k:Nat) (slots:List (Nat×DVal)) (o:Oper):Bool:=l2.all fun c=>decide (c<1000000)||c/1000%1000 != k||OK slots o==some (c/1000000-1)
def Kg (own:List Ent) (o:Oper):Bool:= !CN o||(match o.dst with | some i=>(match Aj own i with | some e=> !Fb e | none=>true) | none=>true)
def Un (K:ContE):ContE:=⟨fun d own'=>K.f (.sel true d) own'⟩
theorem Ba_ (K:ContE) (d:DVal) (own':List Ent):(Un K).f d own'=K.f (.sel true d) own':=id rfl
def Ep_ (P:Program) (c:Bool) (o:Oper) (ed:Operand->DVal) (own:List Ent) (K:ContE):Prop:=match c with
 | true=>sX P o ed own (Un K)
 | false=>K.f (.sel false .any) own
section
variable (P : Program) (nt : Nat) (ow l1 l2 : List Nat)
def BZ (ops:Array Oper):List Oper->Nat->Cont->DS->Prop
 | [],_,K,s=>K.f s
 | o::rest,k,K,s=>match o.guard with
  | none=>if Bk ow o then BV nt o.dst=true/\(Kg s.own o=true/\OL l2 k s.slots o=true)/\sX P o (ev s.slots) s.own ⟨fun d own'=>BZ ops rest (k+1) K ⟨Bs s.slots o.dst d,own'⟩⟩
   else Es_ P nt o ⟨s.slots,HD l1 l2 k s.own⟩ ⟨fun s'=>BZ ops rest (k+1) K ⟨s'.slots,s.own⟩⟩
  | some (j,want)=>gOK (BA ops s j)=true/\if Bk ow o then BV nt o.dst=true/\(Kg s.own o=true/\OL l2 k s.slots o=true)/\IF (gB (BA ops s j) want) (ev s.slots) o.op/\Ep_ P (gB (BA ops s j) want) o (AW s.slots) s.own ⟨fun d own'=>BZ ops rest (k+1) K ⟨Bs s.slots o.dst d,own'⟩⟩
   else Er_ P nt (gB (BA ops s j) want) o ⟨s.slots,HD l1 l2 k s.own⟩ ⟨fun s'=>BZ ops rest (k+1) K ⟨s'.slots,s.own⟩⟩
def Bg_ (ops:Array Oper) (rest:List Oper) (k:Nat) (own:List Ent) (K:Cont):Cont:=⟨fun s'=>BZ P nt ow l1 l2 ops rest k K ⟨s'.slots,own⟩⟩
theorem Dj_ (ops:Array Oper) (rest:List Oper) (k:Nat) (own:List Ent) (K:Cont) (s':DS):(Bg_ P nt ow l1 l2 ops rest k own K).f s'=BZ P nt ow l1 l2 ops rest k K ⟨s'.slots,own⟩:=id rfl
def Bf_ (ops:Array Oper) (rest:List Oper) (k:Nat) (dst:Option Nat) (sl:List (Nat×DVal)) (K:Cont):ContE:=⟨fun d own'=>BZ P nt ow l1 l2 ops rest (k+1) K ⟨Bs sl dst d,own'⟩⟩
theorem Di_ (ops:Array Oper) (rest:List Oper) (k:Nat) (dst:Option Nat) (sl:List (Nat×DVal)) (K:Cont) (d:DVal) (own':List Ent):(Bf_ P nt ow l1 l2 ops rest k dst sl K).f d own'=BZ P nt ow l1 l2 ops rest (k+1) K ⟨Bs sl dst d,own'⟩:=id rfl
theorem tB (ops:Array Oper) (k:Nat) (K:Cont) (s:DS):BZ P nt ow l1 l2 ops [] k K s=K.f s:=id rfl
theorem ZO (ops:Array Oper) (o:Oper) (rest:List Oper) (k:Nat) (K:Cont) (s:DS):BZ P nt ow l1 l2 ops (o::rest) k K s=match o.guard with
 | none=>if Bk ow o then BV nt o.dst=true/\(Kg s.own o=true/\OL l2 k s.slots o=true)/\sX P o (ev s.slots) s.own (Bf_ P nt ow l1 l2 ops rest k o.dst s.slots K)
  else Es_ P nt o ⟨s.slots,HD l1 l2 k s.own⟩ (Bg_ P nt ow l1 l2 ops rest (k+1) s.own K)
 | some (j,want)=>gOK (BA ops s j)=true/\if Bk ow o then BV nt o.dst=true/\(Kg s.own o=true/\OL l2 k s.slots o=true)/\IF (gB (BA ops s j) want) (ev s.slots) o.op/\Ep_ P (gB (BA ops s j) want) o (AW s.slots) s.own (Bf_ P nt ow l1 l2 ops rest k o.dst s.slots K)
  else Er_ P nt (gB (BA ops s j) want) o ⟨s.slots,HD l1 l2 k s.own⟩ (Bg_ P nt ow l1 l2 ops rest (k+1) s.own K):=id rfl
def El (ops:Array Oper) (o:Oper) (s:DS) (d:DVal) (own':List Ent) (r:Nat):Prop:=match o.guard with
 | none=>NW P o (ev s.slots) s.own r d own'
 | some (j,want)=>gOK (BA ops s j)=true/\IF (gB (BA ops s j) want) (ev s.slots) o.op /\
  ((gB (BA ops s j) want=true/\∃d0,d= .sel true d0/\NW P o (AW s.slots) s.own r d0 own')\/(gB (BA ops s j) want=false/\d= .sel false .any/\own'=s.own))
def UM (ops:Array Oper) (k:Nat) (o:Oper) (s:DS) (d:DVal) (own':List Ent) (r:Nat):Prop :=
 (Bk ow o=true/\BV nt o.dst=true/\(Kg s.own o=true/\OL l2 k s.slots o=true)/\El P ops o s d own' r) \/
  (Bk ow o=false/\own'=s.own/\GB_ P nt ops o ⟨s.slots,HD l1 l2 k s.own⟩ d)
def Dw (l:List Oper):Nat:=l.countP (Bk ow)
def DJ (ops:Array Oper):Bool :=
 let m:=Dv ops.toList []
 let zs:=ops.toList.zipIdx
 ZM ops&&zs.all fun p=> !Bk ow p.1||zs.all fun q=>p.2==q.2||(decide (p.2<q.2)&&(m.getD q.2 0).testBit p.2)||(decide (q.2<p.2)&&(m.getD p.2 0).testBit q.2) ||
  (!Bk ow q.1&&(l2.contains q.2||(l1.contains q.2&&CN p.1)||(!l1.contains q.2&&Zy q.1&&CY p.1)||(!l1.contains q.2&&CY p.1&&Uh l2 p.2 q.2)))
end
section
variable {P : Program} {nt : Nat} {ow l1 l2 : List Nat}
theorem SI {ops:Array Oper} {K:Cont} (n0:Nat):∀(rest:List Oper) (k c:Nat) (s:DS),BZ P nt ow l1 l2 ops rest k K s ->
  ∃(ds:List DVal) (owns:Nat->List Ent),ds.length=rest.length/\owns 0=s.own/\K.f ⟨Gz s.slots (rest.zip ds),owns rest.length⟩ /\
   ∀(j:Nat) (o:Oper),rest[j]? =some o->∃d,ds[j]? =some d/\UM P nt ow l1 l2 ops (k+j) o ⟨Gz s.slots ((rest.zip ds).take j),owns j⟩ d (owns (j+1)) (n0+c+Dw ow (rest.take j))
 | [],k,c,s,h=>⟨[],fun _=>s.own,rfl,rfl,by simpa[BZ,Gz]using h,by simp⟩
 | o::rest,k,c,s,h=>by
  have step:∀d own',UM P nt ow l1 l2 ops k o s d own' (n0+c)->BZ P nt ow l1 l2 ops rest (k+1) K ⟨Bs s.slots o.dst d,own'⟩->∃(ds:List DVal) (owns:Nat->List Ent),ds.length=(o::rest).length/\owns 0=s.own/\K.f ⟨Gz s.slots ((o::rest).zip ds),owns (o::rest).length⟩ /\
    ∀(j:Nat) (o':Oper),(o::rest)[j]? =some o'->∃d,ds[j]? =some d/\UM P nt ow l1 l2 ops (k+j) o' ⟨Gz s.slots (((o::rest).zip ds).take j),owns j⟩ d (owns (j+1)) (n0+c+Dw ow ((o::rest).take j)):=by
   intro d own' qW hr;obtain⟨ds,owns,h1,h0,h2,h3⟩:=SI n0 rest (k+1) (c+Dw ow [o]) _ hr;refine⟨d::ds,fun j=>match j with | 0=>s.own | j+1=>owns j,by simp[h1],rfl,by simpa[Gz]using h2,?_⟩;intro j o' hj
   cases j with
   | zero=>simp only[aZ0,aA0]at hj;subst hj;exact⟨d,by simp,by simpa[Gz,Dw,h0]using qW⟩
   | succ j =>
    obtain⟨d',h4,h5⟩:=h3 j o' (by simpa using hj);refine⟨d',by simpa using h4,?_⟩
    have e1:n0+(c+Dw ow [o])+Dw ow (rest.take j)=n0+c+Dw ow ((o::rest).take (j+1)):=by
     simp only[cF0,Dw,eQ0,List.countP_nil];omega
    rw[e1,show k+1+j=k+(j+1) by omega]at h5;simpa[Gz]using h5
  simp only[BZ]at h
  split at h
  ·rename_i hg
   split at h
   ·rename_i he;obtain⟨hd,ha,h⟩:=h;obtain⟨d,own',h1,h2⟩:=IX h (n0+c);exact step d own' (.inl ⟨he,hd,ha,by unfold El;rw[hg];exact h1⟩) h2
   ·rename_i he;have he:Bk ow o=false:=by simpa using he
    obtain⟨hd,h⟩:=h
    split at h
    ·rename_i c wW
     split at h
     ·rename_i g args hc;obtain⟨d,h1,h2⟩:=Jt h;exact step d _ (.inr ⟨he,rfl,hd,by rw[hg];exact .inl ⟨c,g,args,wW,hc,h1⟩⟩) h2
     ·exact step _ _ (.inr ⟨he,rfl,hd,by rw[hg];exact .inr ⟨h.1,rfl⟩⟩) h.2
    ·exact step _ _ (.inr ⟨he,rfl,hd,by rw[hg];exact .inr ⟨h.1,rfl⟩⟩) h.2
  ·rename_i j want hg;obtain⟨fL,h⟩:=h
   split at h
   ·rename_i he;obtain⟨hd,ha,qW,h⟩:=h
    cases hb:gB (BA ops s j) want with
    | true =>
     rw[hb]at h;obtain⟨d,own',h1,h2⟩:=IX (K:=Un _) h (n0+c);exact step (.sel true d) own' (.inl ⟨he,hd,ha,by unfold El;rw[hg];exact⟨fL,qW,.inl ⟨hb,d,rfl,h1⟩⟩⟩) h2
    | false =>
     rw[hb]at h;exact step (.sel false .any) s.own (.inl ⟨he,hd,ha,by unfold El;rw[hg];exact⟨fL,qW,.inr ⟨hb,rfl,rfl⟩⟩⟩) h
   rename_i he;have he:Bk ow o=false:=by simpa using he
   obtain⟨hd,qW,h⟩:=h
   have mk:∀d,(gB (BA ops s j) want=true->EV P o (HD l1 l2 k s.own) (AW s.slots) d)->UM P nt ow l1 l2 ops k o s (.sel (gB (BA ops s j) want) d) s.own (n0+c):=by
    intro d h1;refine .inr ⟨he,rfl,hd,?_⟩;rw[hg];exact⟨fL,qW,d,rfl,h1⟩
   split at h
   ·rename_i c wW
    split at h
    ·rename_i g args hc;obtain⟨d,h1,h2⟩:=SM h;exact step _ _ (mk d fun hq=> .inl ⟨c,g,args,wW,hc,h1 hq⟩) h2
    ·exact step _ _ (mk _ fun hq=> .inr ⟨h.1 hq,rfl⟩) h.2
   ·exact step _ _ (mk _ fun hq=> .inr ⟨h.1 hq,rfl⟩) h.2
end
theorem Aj_ (l:List (Nat×DVal)) (o:Option Nat) (d:DVal):Jp (Bs l o d)<=max (mx d) (Jp l):=by
 cases o<;>simp only[Bs,Jp]<;>omega
theorem VV {l:List (Nat×DVal)} {S:Nat->Bool} {n:Nat} (hl:Jp l<=n):∀(zs:List (Oper×DVal)) (i:Nat),(∀(k:Nat) (z:Oper×DVal),zs[k]? =some z->S (i+k)=true->mx z.2<=n)->Jp (DL l S i zs)<=n
 | [],_,_=>hl
 | (o,d)::r,i,h=>by
  have ih:=VV (S:=S) hl r (i+1) (fun k z hz hS=>h (k+1) z (by simpa using hz) (by rwa[show i+1+k=i+(k+1) by omega]at hS));simp only[DL]
  split
  ·rename_i hS;refine Nat.le_trans (Aj_ _ _ _) ?_;have:=h 0 (o,d) (by simp) (by simpa using hS);simp only at this;omega
  ·exact ih
end Go.Dm
end
