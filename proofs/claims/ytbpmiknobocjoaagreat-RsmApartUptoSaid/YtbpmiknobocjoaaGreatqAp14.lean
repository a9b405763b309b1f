/- Parts of a proof, laid together: EnK, EnL. -/
import Derived.Test.YtbpmiknobocjoaaGreatqAp13
set_option linter.unusedSimpArgs false
set_option maxHeartbeats 8000000
set_option linter.unusedVariables false
set_option linter.unusedSectionVars false
section
namespace Go.Dm
variable [DMode]
def Mm (a b:List Ent):Prop:=∀id e,Ah a id=some e->Ah b id=some e
section
variable {P : Program} {a b : List Ent} {e : Operand -> DVal}
theorem DH (h:Mm a b) {id r:Nat} (hc:Ea a id r=true):Ea b id r=true:=by
 unfold Ea at hc |-
 split at hc
 ·rename_i x hx;rw[h _ _ hx];exact hc
 ·simp at hc
theorem Ph (h:Mm a b) {p:DVal} {cs:List DVal} (hc:DJ a p=some cs):DJ b p=some cs:=by
 cases p<;>simp only[DJ]at hc |- <;>try exact hc
 ·split at hc
  ·rename_i x hx;rw[h _ _ hx];exact hc
  ·simp at hc
 ·split at hc
  ·rename_i x hx;rw[h _ _ hx];exact hc
  ·simp at hc
theorem Ff (h:Mm a b) {p:DVal} {x:Nat×Nat×List (List DVal)} (hc:Bi a p=some x):Bi b p=some x:=by
 cases p<;>simp only[Bi]at hc |- <;>try exact hc
 ·split at hc
  ·rename_i y hy;rw[h _ _ hy];exact hc
  ·simp at hc
 ·split at hc
  ·rename_i y hy;rw[h _ _ hy];exact hc
  ·simp at hc
theorem CR_ (h:Mm a b) {d:DVal} (hc:Fy a d=true):Fy b d=true:=by
 cases d<;>simp only[Fy]at hc |- <;>try exact hc
 ·exact DH h hc
 ·exact DH h hc
 ·obtain⟨x,hx⟩:=bF0.1 hc;rw[Ff h hx];rfl
 ·exact DH h hc
 ·exact DH h hc
 ·split at hc
  ·rename_i e he;rw[h _ e he];exact hc
  ·simp at hc
theorem LV (h:Mm a b) {d:DVal} (hc:Cz a d=true):Cz b d=true:=by
 unfold Cz at hc |-;exact aZ0.2 fun x hx=>CR_ h (aZ0.1 hc x hx)
theorem TY (h:Mm a b) {p:DVal} {x:List DVal×List DVal} (hc:GA a p=some x):GA b p=some x:=by
 unfold GA at hc |-
 split at hc
 ·exact hc
 ·exact hc
 ·rename_i id r
  cases hf:Ah a id with
  | none=>rw[hf]at hc;simp at hc
  | some e=>rw[hf]at hc;simp only[h id e hf];exact hc
 ·simp at hc
theorem EE_ (h:Mm a b) {bi:Builtin} {ds:List DVal} {ts:List TypeId} (hp:Tp P a bi ds ts):Tp P b bi ds ts/\Nt b bi ds=Nt a bi ds:=by
 unfold Tp at hp
 split at hp
 ·rename_i d t
  cases d<;>simp only[Tp,Nt]at hp |- <;>first
   | exact⟨hp,trivial⟩
   |(obtain⟨h1,h2⟩:=hp
     obtain⟨x,hx⟩:=bF0.1 h1;rw[hx,Ff h hx]
     exact⟨⟨rfl,h2⟩,rfl⟩)
   |(obtain⟨h1,h2⟩:=hp
     split at h2
     ·rename_i hx;rw[TY h hx];exact⟨⟨h1,h2⟩,rfl⟩
     ·exact h2.elim)
 ·simp only[Tp,Nt];exact⟨hp,trivial⟩
 ·simp only[Tp,Nt];exact⟨hp,trivial⟩
 ·simp only[Tp,Nt];exact⟨hp,trivial⟩
 ·exact hp.elim
theorem HT_ (h:Mm a b) (op:Op) (hp:DV P a e op):DV P b e op/\Bm P b e op=Bm P a e op:=by
 cases op<;>simp only[DV,Bm]at hp |- <;>first
  | exact⟨hp,trivial⟩
  | exact hp.elim
  | trivial
  | skip
 case fieldAddr t x f =>
  refine⟨?_,trivial⟩
  split at hp
  ·exact hp
  ·exact⟨hp.1,DH h hp.2⟩
  ·exact⟨hp.1,DH h hp.2⟩
  ·exact hp.elim
 case nilCheck x =>
  refine⟨?_,trivial⟩
  split at hp
  ·trivial
  ·exact DH h hp
  ·exact DH h hp
  ·trivial
  ·exact hp.elim
 case load t x =>
  split at hp
  ·rename_i h1 h2 h3;rw[h1,h2,Ph h h3];exact⟨hp,rfl⟩
  ·rename_i h1 h3;rw[h1,Ph h h3];exact⟨hp,rfl⟩
  ·exact hp.elim
 case indexAddr t x i =>
  split at hp
  ·rename_i ik n k bs k' bs' es h1 h2 h3;rw[h1,h2,Ff h h3];refine⟨hp,?_⟩;simp only;cases hx:e x<;>rw[hx]at h3<;>simp only[GF];rw[h3,Ff h h3]
  ·rename_i ik n h1 h2;rw[h1,h2];simp only
   split at hp
   ·rename_i len k h3;obtain⟨p1,p2,p3⟩:=hp;refine⟨⟨p1,p2,?_⟩,trivial⟩;cases hx:e x<;>rw[hx]at p3<;>simp only at p3 |- <;>exact DH h p3
   ·exact hp.elim
  ·exact hp.elim
 case box t x=>exact⟨LV h hp,trivial⟩
 case slice t x l' h' m =>
  cases hx:e x<;>rw[hx]at hp<;>simp only at hp |- <;>first
   | exact⟨hp,trivial⟩
   | exact hp.elim
   | skip
  ·rename_i id r
   cases mZ:Bi a (.osl id r)with
   | none=>rw[mZ]at hp;exact hp.2.elim
   | some y=>rw[mZ]at hp;rw[Ff h mZ];exact⟨hp,rfl⟩
  ·obtain⟨h1,h2,h3⟩:=hp;obtain⟨y,hy⟩:=bF0.1 h2;rw[Ff h hy];exact⟨⟨h1,rfl,h3⟩,trivial⟩
 case lookup t x i ok =>
  split at hp
  ·rename_i h1 h2;rw[h1,TY h h2];exact⟨hp,rfl⟩
  ·exact hp.elim
 case build t ps =>
  refine⟨?_,trivial⟩
  split at hp
  ·exact⟨hp.1,aZ0.2 fun p hm=>LV h (aZ0.1 hp.2.1 p hm),hp.2.2⟩
  ·exact hp.elim
 case buildSlice t n ps =>
  refine⟨?_,trivial⟩
  split at hp
  ·obtain⟨h1,h2,h3,h4,h5,h6,h7⟩:=hp;refine⟨h1,h2,h3,h4,h5,?_,h7⟩;refine aZ0.2 fun p hm=> ?_
   have:=aZ0.1 h6 p hm;rw[aL0]at this |-;exact⟨LV h this.1,this.2⟩
  ·exact hp.elim
 case call c =>
  obtain⟨cal,args,ts⟩:=c
  cases cal with
  | builtin bi=>exact EE_ h hp
  | value f=>exact hp.elim
  | invoke r m=>exact hp.elim
end
theorem sA : ∀{l:List DVal} {d:DVal},d∈l->mx d<=AJ l
 | x::l,d,h=>by
  simp only[AJ]
  rcases aK0.1 h with rfl | h
  ·omega
  ·have:=sA h;omega
theorem VI : ∀{l:List (List DVal)} {d:List DVal},d∈l->AJ d<=Br l
 | x::l,d,h=>by
  simp only[Br]
  rcases aK0.1 h with rfl | h
  ·omega
  ·have:=VI h;omega
theorem VJ {n:Nat}:∀{l:List DVal},(∀d∈l,mx d<=n)->AJ l<=n
 | [],_=>by simp[AJ]
 | x::l,h=>by
  simp only[AJ];have:=h x aH0;have:=VJ (l:=l) fun d hd=>h d (aF0 _ hd)
  omega
theorem iO {n:Nat}:∀{l:List (List DVal)},(∀d∈l,AJ d<=n)->Br l<=n
 | [],_=>by simp[Br]
 | x::l,h=>by
  simp only[Br];have:=h x aH0;have:=iO (l:=l) fun d hd=>h d (aF0 _ hd)
  omega
theorem Rb (l:List DVal):mx (l.headD .any)<=AJ l:=by
 cases l with
 | nil=>simp[mx,AJ]
 | cons d l=>simp only[List.headD_cons,AJ];omega
theorem rZ (l:List DVal) (i:Nat):mx (l.getD i .any)<=AJ l:=by
 rw[bK0]
 cases h:l[i]? with
 | none=>simp[mx]
 | some d=>exact sA (bJ0 h)
theorem Dj_ (l:List (List DVal)) (i:Nat):AJ (l.getD i [])<=Br l:=by
 rw[bK0]
 cases h:l[i]? with
 | none=>simp[AJ]
 | some d=>exact VI (bJ0 h)
section
variable {P : Program} {own : List Ent} {e : Operand -> DVal} {n : Nat}
theorem Sn {p:DVal} {cs:List DVal} (hc:DJ own p=some cs):AJ cs<=max (mx p) (GY own):=by
 unfold DJ at hc
 split at hc
 ·simp only[aA0]at hc;subst hc;simp only[mx];omega
 ·split at hc
  ·rename_i x hx
   split at hc
   ·split at hc
    ·rename_i cs0 qN;simp only[aA0]at hc;subst hc;have h1:=(Bn (AU hx).1).2;rw[qN]at h1;simp only[Em]at h1;exact Nat.le_trans (DX _ _) (by omega)
    ·rename_i g vs qN;simp only[aA0]at hc;subst hc;refine Nat.le_trans (DX _ _) ?_;rw[TW];exact dC0 _
    ·simp at hc
   ·simp at hc
  ·simp at hc
 ·split at hc
  ·rename_i x hx
   split at hc
   ·split at hc
    ·rename_i es qN
     split at hc
     ·rw[bB0]at hc;obtain⟨c0,h0,rfl⟩:=hc;have h1:=(Bn (AU hx).1).2;rw[qN]at h1;simp only[Em]at h1;have h2:=VI (bJ0 h0);exact Nat.le_trans (DX _ _) (by omega)
     ·simp at hc
    ·simp at hc
   ·simp at hc
  ·simp at hc
 ·simp at hc
theorem YP {place:Nat->Option (Nat×Nat)}:∀(ps:List (Nat×DVal)) (z r:List DVal),FT place z ps=some r->AJ z<=n->(∀p∈ps,mx p.2<=n)->AJ r<=n
 | [],z,r,h,hz,_=>by simp only[FT,aA0]at h;subst h;exact hz
 | (i,d)::ps,z,r,h,hz,hp=>by
  simp only[FT]at h
  split at h
  ·simp at h
  ·split at h
   ·refine YP ps _ r h ?_ fun p hm=>hp p (aF0 _ hm)
    have h2:=hp (i,d) aH0;refine Nat.le_trans (KL z _ (AI d)) ?_;rw[CH];simp only at h2;omega
   ·simp at h
theorem Mu {t:TypeId} {z:List DVal} (h:tZero P t=some z):AJ z=0:=by
 have h1:∀v,mx (Cb v)=0:=by
  intro v;unfold Cb
  split<;>(try split)<;>simp[mx]
 obtain⟨zv,_,rfl⟩:=Gr (w:=default) h
 have:AJ (zv.cells.toList.map Cb)<=0:=VJ fun d hd=>by
  obtain⟨v,_,rfl⟩:=aT0.1 hd;rw[h1];omega
 omega
theorem FZ_ {op:BinOp} {t:TypeId} {x y d:DVal} (h:FH P op t x y=some d):mx d=0:=by
 unfold FH at h
 repeat' split at h
 all_goals first
  | (simp only[aA0]at h;subst h;rfl)
  | simp at h
theorem Gi_ {bi:Builtin} {ds:List DVal}:mx (Nt own bi ds)=0:=by
 unfold Nt
 repeat' split
 all_goals rfl
theorem AN_ {d:DVal} {i:Int} (hn:GY own<=n) (hd:mx d<=n):mx (GF own d i)<=n:=by
 unfold GF
 split
 ·rename_i k bs es;simp only[mx]at hd |-;exact Nat.le_trans (Dj_ _ _) hd
 ·split
  ·simpa[mx]using hd
  ·simp[mx]
 ·simpa[mx]using hd
 ·simp[mx]
theorem Dc_ {t:Bool} {x y:DVal} (hx:mx x<=n) (hy:mx y<=n):mx (JY t x y)<=n:=by
 unfold JY
 split<;>first
  | (simp[mx];done)
  | (split<;>assumption)
theorem Dq_ {p:DVal} {ks vs:List DVal} (hc:GA own p=some (ks,vs)):AJ vs<=max (mx p) (GY own):=by
 unfold GA at hc
 split at hc
 ·simp only[aA0,aV0]at hc;obtain⟨rfl,rfl⟩:=hc;simp only[mx];omega
 ·simp only[aA0,aV0]at hc;obtain⟨rfl,rfl⟩:=hc;simp[AJ]
 ·split at hc
  ·rename_i e he
   split at hc
   ·split at hc
    ·rename_i qN;simp only[aA0,aV0]at hc;obtain⟨rfl,rfl⟩:=hc;have:=(Bn (AU he).1).2;rw[qN]at this;simp only[Em]at this;omega
    ·rename_i qN;simp only[aA0,aV0]at hc;obtain⟨rfl,rfl⟩:=hc;have:=(Bn (AU he).1).2;rw[qN]at this;simp only[Em]at this;omega
    ·simp at hc
   ·simp at hc
  ·simp at hc
 ·simp at hc
theorem GU_ (v:Value):mx (ofV v)=0:=by
 have h1:∀v,mx (Cb v)=0:=by
  intro v;unfold Cb
  split<;>(try split)<;>simp[mx]
 unfold ofV
 split
 ·rename_i cs;simp only[mx]
  generalize cs.toList=l
  induction l with
  | nil=>simp[AJ]
  | cons v l ih=>simp[AJ,h1,ih]
 ·exact h1 _
theorem Ab_ {t:TypeId} {z:DVal} (h:tZeroD P t=some z):mx z=0:=by
 unfold tZeroD at h
 split at h
 ·rw[bB0]at h;obtain⟨v,_,rfl⟩:=h;exact GU_ v
 ·simp at h
theorem HS_ (hn:GY own<=n) (op:Op) (h:∀x∈op.operands,mx (e x)<=n):mx (Bm P own e op)<=n:=by
 have any0:mx DVal.any<=n:=by simp[mx]
 have parts:∀(ps:Array (Nat×Operand)),(∀x∈(ps.toList.map (·.2)).toArray,mx (e x)<=n)->∀p∈ps.toList,mx (e p.2)<=n:=by
  intro ps h p hp;exact h p.2 (by simpa using ⟨p.1,by simpa using hp⟩)
 cases op<;>simp only[Op.operands]at h<;>simp only[Bm]<;>try exact any0
 case move x=>exact h x (by simp)
 case assign x=>exact h x (by simp)
 case nilCheck x=>exact h x (by simp)
 case pick c x y =>
  split
  ·exact Dc_ (h x (by simp)) (h y (by simp))
  ·exact any0
 case fieldAddr t x f =>
  have:=h x (by simp)
  split
  ·rename_i hx;rw[hx]at this;simp only[mx]at this |-;exact Nat.le_trans (DX _ _) this
  ·rename_i hx;rw[hx]at this;simpa[mx]using this
  ·rename_i hx;rw[hx]at this;simpa[mx]using this
  ·exact any0
 case load t x =>
  have:=h x (by simp)
  split
  ·rename_i h3;have:=Sn h3;simp only[mx];exact Nat.le_trans (MQ _ _) (by omega)
  ·rename_i h3;have:=Sn h3;exact Nat.le_trans (Rb _) (by omega)
  ·exact any0
 case indexAddr t x i =>
  split
  ·exact AN_ hn (h x (by simp))
  ·split
   ·have:=h x (by simp);unfold oA
    split
    ·rename_i hx;rw[hx]at this;simp only[mx]at this |-;exact Nat.le_trans (DX _ _) this
    ·rename_i hx;rw[hx]at this;simpa[mx]using this
    ·rename_i hx;rw[hx]at this;simpa[mx]using this
    ·exact any0
   ·exact any0
  ·exact any0
 case index t x i =>
  split
  ·simp[mx]
  ·rename_i cs ik n hx hi;have:=h x (by simp);rw[hx]at this;simp only[mx]at this;exact Nat.le_trans (Rb _) (Nat.le_trans (DX _ _) this)
  ·exact any0
 case field t x f =>
  have:=h x (by simp)
  split
  ·rename_i hx;rw[hx]at this;simp only[mx]at this
   split
   ·simp only[mx];exact Nat.le_trans (MQ _ _) (Nat.le_trans (DX _ _) this)
   ·exact Nat.le_trans (Rb _) (Nat.le_trans (DX _ _) this)
  ·exact any0
 case binOp op t x y yt =>
  cases hd:FH P op t (e x) (e y)with
  | none=>exact any0
  | some d=>simp[FZ_ hd]
 case unOp op t x =>
  split
  ·simp[mx]
  ·simp[mx]
  ·exact any0
 case convert src dst x =>
  have:=h x (by simp)
  split
  ·split
   ·simp[mx]
   ·exact any0
  ·exact this
 case extract x i =>
  have:=h x (by simp)
  split
  ·rename_i hx;rw[hx]at this;simp only[mx]at this;exact Nat.le_trans (rZ _ _) this
  ·exact any0
 case makeFunc f us cs =>
  simp only[mx]
  have h1:AJ (us.toList.map e)<=n:=VJ fun d hd=>by
   obtain⟨x,hx,rfl⟩:=aT0.1 hd;exact h x (by simp;left;simpa using hx)
  have h2:AJ (cs.toList.map e)<=n:=VJ fun d hd=>by
   obtain⟨x,hx,rfl⟩:=aT0.1 hd;exact h x (by simp;right;simpa using hx)
  omega
 case makeInterface t x=>simp only[mx];exact h x (by simp)
 case slice t x l h' m =>
  have:=h x (by simp)
  split
  ·rename_i hx;rw[hx]at this;simp only[mx]at this |-;exact Nat.le_trans (EF _ _) (Nat.le_trans (Gy _ _) this)
  ·simp[mx]
  ·rename_i hx;rw[hx]at this
   split
   ·simpa[mx]using this
   ·exact any0
  ·rename_i hx;rw[hx]at this;simpa[mx]using this
  ·simp[mx]
  ·exact any0
 case lookup t x i ok =>
  have hx:=h x (by simp)
  split
  ·rename_i kt et ks vs ht hc;have wS:=Dq_ hc
   have key:mx (match Bc ks (e i)with | some j=>vs.getD j .any | none=>(tZeroD P et).getD .any)<=n:=by
    split
    ·exact Nat.le_trans (rZ _ _) (by omega)
    ·cases hz:tZeroD P et with
     | none=>exact any0
     | some z=>simp[Ab_ hz]
   cases ok
   ·exact key
   ·exact dV0.2 ⟨key,by simp[mx,AJ]⟩
  ·exact any0
 case box t x=>simp only[mx,CH];exact h x (by simp)
 case build t ps =>
  have hp:=parts ps h
  split
  ·rename_i z hz;simp only[mx]
   cases hf:FT (Hw P t) z (ps.toList.map fun p=>(p.1,e p.2))with
   | none=>simp[AJ]
   | some r =>
    refine YP _ z r hf (by rw[Mu hz];omega) ?_;intro p hm;obtain⟨q,hq,rfl⟩:=aT0.1 hm;exact hp q hq
  ·exact any0
 case buildSlice t len ps =>
  have hp:=parts ps h
  split
  ·simp only[mx];refine iO fun cs hm=> ?_
   obtain⟨q,hq,rfl⟩:=aT0.1 hm;rw[CH];exact hp q hq
  ·exact any0
 case call c =>
  split
  ·rw[Gi_];omega
  ·exact any0
theorem XX {l:List (Nat×DVal)}:∀xs:List Operand,FQ true (ev l) xs->∀x∈xs,mx (Bf l x)<=mx (ev l x)
 | [],_,x,hx=>by cases hx
 | y::ys,h,x,hx=>by
  simp only[FQ]at h
  rcases aK0.1 hx with rfl | hx
  ·unfold Bf;cases hq:ev l x<;>simp only[JI]<;>try exact Nat.le_refl _
   rw[hq]at h;simp only[okG]at h;simp[mx,h.1 trivial]
  ·exact XX ys h.2 x hx
theorem TU {l:List (Nat×DVal)} {x:Operand} (h:okG true (ev l x)):mx (Bf l x)<=mx (ev l x):=by
 unfold Bf;cases hq:ev l x<;>simp only[JI]<;>try exact Nat.le_refl _
 rw[hq]at h;simp only[okG]at h;simp[mx,h trivial]
theorem XY (t:Bool) (x y:DVal):mx (JY t x y)<=mx (if t then x else y):=by
 unfold JY
 split<;>first
  | (simp[mx];done)
  | exact Nat.le_refl _
theorem Fn_ {l:List (Nat×DVal)} {op:Op} (qG:Kb true (ev l) op) (hp:DV P own (Bf l) op) (hn:GY own<=n) (h:∀x∈op.operands,mx (ev l x)<=n):mx (Bm P own (Bf l) op)<=n:=by
 by_cases hpk:∃x a b,op= .pick x a b
 ·obtain⟨x,a,b,rfl⟩:=hpk;simp only[Kb]at qG;obtain⟨h1,h2⟩:=qG;simp only[DV]at hp;cases hx:Bf l x<;>rw[hx]at hp<;>try exact hp.elim
  rename_i t;have h2:=h2 t hx;simp only[Bm,hx];refine Nat.le_trans (XY _ _ _) ?_;cases t
  ·exact Nat.le_trans (TU (h2.2 rfl)) (h b (by simp[Op.operands]))
  ·exact Nat.le_trans (TU (h2.1 rfl)) (h a (by simp[Op.operands]))
 ·have yO:FQ true (ev l) op.operands.toList:=by
   unfold Kb at qG
   split at qG
   ·exact absurd ⟨_,_,_,rfl⟩ hpk
   ·exact qG
  exact HS_ hn op fun x hx=>Nat.le_trans (XX _ yO x (by simpa using hx)) (h x hx)
end
section
variable {P : Program} {o : Oper} {l l' : List (Nat × DVal)} {own : List Ent} {r n : Nat}
theorem lO {e1 e2:Operand->DVal} (h:∀x∈o.op.operands,e1 x=e2 x):JD P o e1 own r=JD P o e2 own r:=by
 unfold JD;obtain⟨dst,op,type,Fx,after,guard⟩:=o;simp only at h |-;cases op<;>simp only[Op.operands]at h<;>simp only
 case box t x=>rw[h x (by simp)]
 case store t a x=>rw[h a (by simp),h x (by simp)]
 case mapUpdate t m k x=>rw[h m (by simp),h k (by simp),h x (by simp)]
 case makeSlice t l c=>rw[h l (by simp),h c (by simp)]
 case buildSlice t n ps =>
  have hc:=(Ra (P:=P) (own:=own) (e:=e1) (e':=e2) (.buildSlice t n ps) h).1;have e1:(ps.toList.map fun p=>AI (e1 p.2))=ps.toList.map fun p=>AI (e2 p.2):=cJ0 fun p hm=>by rw[h p.2 (by simpa using ⟨p.1,by simpa using hm⟩)]
  rw[propext hc,e1]
 case call c =>
  obtain⟨cal,args,ts⟩:=c
  cases cal with
  | builtin b =>
   have:args.toList.map (e1)=args.toList.map (e2):=cJ0 fun x hx=>h x (by simp[Call.operands];simpa using hx)
   cases b<;>simp only[this]
  | value f=>rfl
  | invoke a b=>rfl
theorem iA {e1 e2:Operand->DVal} {c:Call} (h:∀x∈c.operands,e1 x=e2 x):Vp e1 c=Vp e2 c:=by
 obtain⟨cal,args,ts⟩:=c
 cases cal with
 | value f =>
  have h1:args.toList.map e1=args.toList.map e2:=cJ0 fun x hx=>h x (by simp[Call.operands];simp at hx;exact .inr hx)
  have h2:=h f (by simp[Call.operands]);simp only[Vp,h1,h2]
 | builtin b=>rfl
 | invoke a b=>rfl
theorem SH {e1 e2:Operand->DVal} {d:DVal} {own':List Ent} (h:∀x∈o.op.operands,e1 x=e2 x) (hx:PF P o e1 own r d own'):PF P o e2 own r d own':=by
 rcases hx with ⟨x,h1,h2⟩ | ⟨c,g,args,h1,h2,h3⟩ | ⟨c,id,r',args,e0,l,e,A,A',b,h1,h2,h3⟩
 ·exact .inl ⟨x,by rw[<-lO h];exact h1,h2⟩
 ·exact .inr (.inl ⟨c,g,args,h1,by rw[<-Nq (fun x hx=>h x (by rw[h1];exact hx))];exact h2,h3⟩)
 ·exact .inr (.inr ⟨c,id,r',args,e0,l,e,A,A',b,h1,by rw[<-iA (fun x hx=>h x (by rw[h1];exact hx))];exact h2,h3⟩)
theorem CU (own:List Ent) (id r:Nat) (obj:DObj):GY (upE own id r obj)<=max (max (r+1) (Em obj)) (GY own):=by
 have:GY (Bp own id)<=GY own:=by
  induction own with
  | nil=>simp[Bp]
  | cons e t ih =>
   simp only[Bp]
   split
   ·simp only[GY];omega
   ·simp only[GY];omega
 simp only[upE,GY];omega
theorem FW_ {x:ERes} {ed:Operand->DVal} (h:JD P o ed own r=some x) (hp:x.pre) (ho:GY own<=n) (kW:∀y∈o.op.operands,mx (ed y)<=n) (hr:n<=r):mx x.d<=r+1/\GY x.own<=r+1:=by
 obtain⟨dst,op,type,Fx,after,guard⟩:=o;unfold JD at h;simp only at h;cases op<;>simp only[reduceCtorEq]at h
 case box t y =>
  split at h
  ·rename_i i;simp only[aA0]at h;subst h;refine⟨by simp[mx],Nat.le_trans (CU _ _ _ _) ?_⟩;have:=kW y (by simp[Op.operands]);simp only[Em,CH];omega
  ·simp at h
 case buildSlice t len ps =>
  split at h
  ·simp only[aA0]at h;subst h;refine⟨by simp[mx],Nat.le_trans (CU _ _ _ _) ?_⟩
   have:Br (ps.toList.map fun p=>AI (ed p.2))<=n:=iO fun cs hm=>by
    obtain⟨p,zM,rfl⟩:=aT0.1 hm;rw[CH];exact kW p.2 (by simpa[Op.operands]using ⟨p.1,by simpa using zM⟩)
   simp only[Em];omega
  ·simp at h
 case alloc t =>
  split at h
  ·rename_i i z hi hz;simp only[aA0]at h;subst h;refine⟨by simp[mx],Nat.le_trans (CU _ _ _ _) ?_⟩;simp only[Em,Mu hz];omega
  ·simp at h
 case store t ad y =>
  split at h
  ·rename_i id r' off had
   split at h
   ·rename_i e he
    split at h
    ·rename_i cs qN;simp only[aA0]at h;subst h;refine⟨by simp[mx],Nat.le_trans (CU _ _ _ _) ?_⟩;simp only at hp;obtain⟨h1,h2⟩:=Bn (AU he).1;rw[qN]at h2;simp only[Em]at h2 |-;have h3:=KL cs off (AI (ed y));have h4:=kW y (by simp[Op.operands,Call.operands]);rw[CH]at h3;have:=hp.1;omega
    ·simp at h
   ·simp at h
  ·unfold Fl at h
   split at h
   ·rename_i e he
    split at h
    ·rename_i qN
     split at h
     ·rename_i c0 yA;simp only[aA0]at h;subst h;refine⟨by simp[mx],Nat.le_trans (CU _ _ _ _) ?_⟩;simp only at hp;obtain⟨h1,h2⟩:=Bn (AU he).1;rw[qN]at h2;simp only[Em]at h2 |-;have h3:=KL c0;have h4:=kW y (by simp[Op.operands,Call.operands]);have h5:=hp.1;have h6:=Dk_ yA;refine dV0.2 ⟨dV0.2 ⟨by omega,VG _ _ (by omega) (Nat.le_trans (h3 _ _) ?_)⟩,by omega⟩;rw[CH];omega
     ·simp at h
    ·simp at h
   ·simp at h
  ·simp at h
 case makeSlice t lo co =>
  unfold YV at h
  split at h
  ·rename_i hz _ _;simp only[aA0]at h;subst h;refine⟨by simp[mx],Nat.le_trans (CU _ _ _ _) ?_⟩;simp only[Em];unfold tZeroE at hz
   split at hz
   ·refine dV0.2 ⟨dV0.2 ⟨by omega,Nat.le_trans (VH (dD0 (Mu hz))) (by omega)⟩,by omega⟩
   ·simp at hz
  ·simp at h
 case makeMap t rv =>
  split at h
  ·simp only[aA0]at h;subst h;refine⟨by simp[mx],Nat.le_trans (CU _ _ _ _) ?_⟩;simp only[Em,AJ];omega
  ·simp at h
 case mapUpdate t m k x =>
  split at h
  ·split at h
   ·rename_i e he
    split at h
    ·rename_i ks vs qN;simp only[aA0]at h;subst h;refine⟨by simp[mx],Nat.le_trans (CU _ _ _ _) ?_⟩;simp only at hp;obtain⟨h1,h2⟩:=Bn (AU he).1;rw[qN]at h2;simp only[Em]at h2 |-;have h3:=Yc ks (ed k);have h4:=Yb ks vs (ed k) (ed x);have h5:=kW k (by simp[Op.operands,Call.operands]);have h6:=kW x (by simp[Op.operands,Call.operands]);have:=hp.1;omega
    ·simp at h
   ·simp at h
  ·simp at h
 case call c =>
  obtain⟨cal,args,ats⟩:=c;cases cal<;>simp only[reduceCtorEq]at h;rename_i b;cases b<;>simp only[reduceCtorEq]at h
  case append =>
   unfold Nh at h
   split at h
   ·rename_i da db t t' qA vC
    split at h
    ·rename_i i k bs et _ _
     split at h
     ·rename_i x gJ
      split at h
      ·rename_i id es hdest;simp only[aA0]at h;subst h;refine⟨by simp[mx],Nat.le_trans (CU _ _ _ _) ?_⟩;simp only[Em,BD,Gj];have h1:Br es<=n:=Uv hdest (by omega);omega
      ·simp at h
     split at h
     ·rename_i id es k2 es2 hdest wH;simp only[aA0]at h;subst h
      have hda:mx da<=n:=by
       have:da∈args.toList.map (ed):=by rw[qA];simp
       obtain⟨y,hy,rfl⟩:=aT0.1 this;exact kW y (by simpa[Op.operands,Call.operands]using hy)
      have hdb:mx db<=n:=by
       have:db∈args.toList.map (ed):=by rw[qA];simp
       obtain⟨y,hy,rfl⟩:=aT0.1 this;exact kW y (by simpa[Op.operands,Call.operands]using hy)
      refine⟨by simp[mx],Nat.le_trans (CU _ _ _ _) ?_⟩;simp only[Em,BD]
      have h1:Br es<=n:=by
       exact Uv hdest (by omega)
      have h2:Br es2<=n:=by
       unfold JU at wH
       split at wH
       ·simp only[aA0,aV0]at wH;obtain⟨_,rfl⟩:=wH;simp[Br]
       ·simp only[aA0,aV0]at wH;obtain⟨_,rfl⟩:=wH;simp[Br]
       ·rw[bB0]at wH;obtain⟨⟨k',b',es'⟩,h1,h2⟩:=wH;simp only[aV0]at h2;obtain⟨_,rfl⟩:=h2;have:=NV h1;omega
      omega
     ·simp at h
    ·simp at h
   ·simp at h
  case copy =>
   unfold YW at h
   split at h
   ·rename_i d sd t t' qA vC
    split at h
    ·rename_i k k0 id r' i m et k' bs es k2 es2 ht cC wH;simp only[aA0]at h;subst h;obtain⟨e,bs0,he,wV,qN,hdd⟩:=XJ cC
     have hdb:mx sd<=n:=by
      have:sd∈args.toList.map (ed):=by rw[qA];simp
      obtain⟨y,hy,rfl⟩:=aT0.1 this;exact kW y (by simpa[Op.operands,Call.operands]using hy)
     refine⟨by simp[mx],Nat.le_trans (CU _ _ _ _) ?_⟩;obtain⟨h1,h2⟩:=Bn (AU he).1;rw[qN]at h2;simp only[Em]at h2 |-;have h3:Br (Jw es i m es2)<=n:=YY (by omega) (Xs wH (by omega) hdb);omega
    ·simp at h
   ·simp at h
  case clear =>
   have key:∀{zs:List DVal} {t:TypeId} {es:List (List DVal)} {i m N:Nat},tZeroE P t=some zs->Br es<=N->Br (Eo es i m zs)<=N:=by
    intro zs t es i m N hz bJ;unfold tZeroE at hz
    split at hz
    ·unfold Eo;rw[BD,BD];have:=EF i es;have:=Gy (i+m) es;have:=VH (n:=0) (m:=m) (dD0 (Mu hz));omega
    ·simp at hz
   unfold RY at h
   split at h
   ·split at h
    ·rename_i hz
     split at h
     ·split at h
      ·rename_i e he
       split at h
       ·rename_i qN;simp only[aA0]at h;subst h;refine⟨by simp[mx,AJ],Nat.le_trans (CU _ _ _ _) ?_⟩;simp only at hp;obtain⟨h1,h2⟩:=Bn (AU he).1;rw[qN]at h2;simp only[Em]at h2 |-;have h3:=hp.1;exact dV0.2 ⟨dV0.2 ⟨by omega,key hz (by omega)⟩,by omega⟩
       ·simp at h
      ·simp at h
     ·split at h
      ·rename_i e he
       split at h
       ·rename_i qN;simp only[aA0]at h;subst h;refine⟨by simp[mx,AJ],Nat.le_trans (CU _ _ _ _) ?_⟩;simp only at hp;obtain⟨h1,h2⟩:=Bn (AU he).1;rw[qN]at h2;simp only[Em]at h2 |-;have h3:=hp.1;exact dV0.2 ⟨dV0.2 ⟨by omega,key hz (by omega)⟩,by omega⟩
       ·simp at h
      ·simp at h
     ·simp at h
    ·simp at h
   ·simp at h
  case delete =>
   unfold Ng at h
   split at h
   ·split at h
    ·split at h
     ·rename_i e he
      split at h
      ·rename_i ks vs qN;simp only[aA0]at h;subst h;refine⟨by simp[mx,AJ],Nat.le_trans (CU _ _ _ _) ?_⟩;simp only at hp;obtain⟨h1,h2⟩:=Bn (AU he).1;rw[qN]at h2;simp only[Em]at h2 |-;have h3:=hp.1;refine dV0.2 ⟨dV0.2 ⟨by omega,dV0.2 ⟨Nat.le_trans (Yf _ _) (by omega),Nat.le_trans (Ye _ _ _) (by omega)⟩⟩,by omega⟩
      ·simp at h
     ·simp at h
    ·simp at h
   ·simp at h
end
def FM (e:Ent):Bool:=match e.obj with | .box _=>true | _=>false
def iY (l2:List Nat) (q:Nat) (e:Ent):Bool:=l2.any fun c=>decide (1000000<=c)&&c%1000==q&&c/1000000==e.id+1
def VT (l2:List Nat) (p q:Nat):Bool:=l2.any fun c=>decide (1000000<=c)&&c%1000==q&&c/1000%1000==p
def IU (l1 l2:List Nat) (k:Nat) (own:List Ent):List Ent:=if l2.contains k then []else if l1.contains k then own.filter FM else if l2.isEmpty then own else own.filter fun e=> !iY l2 k e
def Da (o:Oper):Bool:=match o.op with
 | .call c=>match c.callee with | .builtin .append=>true | _=>false
 | _=>false
def iW (o:Oper):Bool:=match o.op with | .indexAddr _ _ _=>true | _=>false
def Dp (o:Oper):Bool:=match o.op with | .store _ _ _=>true | _=>false
def IK : DVal->Option Nat
 | .bx id _ _=>some id
 | .rx id _ _ _ _=>some id
 | _=>none
def Qr (slots:List (Nat×DVal)) (o:Oper):Option Nat:=match o.op with
 | .store _ a _=>IK (Bf slots a)
 | _=>none
def Qs (l2:List Nat) (k:Nat) (slots:List (Nat×DVal)) (o:Oper):Bool:=l2.all fun c=>decide (c<1000000)||c/1000%1000 != k||Qr slots o==some (c/1000000-1)
def LO (own:List Ent) (o:Oper):Bool:= !Da o||(match o.dst with | some i=>(match Ah own i with | some e=> !FM e | none=>true) | none=>true)
def Wl (K:ContE):ContE:=⟨fun d own'=>K.f (.sel true d) own'⟩
theorem Eh_ (K:ContE) (d:DVal) (own':List Ent):(Wl K).f d own'=K.f (.sel true d) own':=id rfl
def Hh_ (P:Program) (c:Bool) (o:Oper) (ed:Operand->DVal) (own:List Ent) (K:ContE):Prop:=match c with
 | true=>Bz_ P o ed own (Wl K)
 | false=>K.f (.sel false .any) own
section
variable (P : Program) (nt : Nat) (ow l1 l2 : List Nat)
def Ci (ops:Array Oper):List Oper->Nat->Cont->DS->Prop
 | [],_,K,s=>K.f s
 | o::rest,k,K,s=>match o.guard with
  | none=>if Bw ow o then Bs nt o.dst=true/\(LO s.own o=true/\Qs l2 k s.slots o=true)/\Bz_ P o (ev s.slots) s.own ⟨fun d own'=>Ci ops rest (k+1) K ⟨putS s.slots o.dst d,own'⟩⟩
   else Hk_ P nt o ⟨s.slots,IU l1 l2 k s.own⟩ ⟨fun s'=>Ci ops rest (k+1) K ⟨s'.slots,s.own⟩⟩
  | some (j,want)=>gOK (BI ops s j)=true/\if Bw ow o then Bs nt o.dst=true/\(LO s.own o=true/\Qs l2 k s.slots o=true)/\Kb (gB (BI ops s j) want) (ev s.slots) o.op/\Hh_ P (gB (BI ops s j) want) o (Bf s.slots) s.own ⟨fun d own'=>Ci ops rest (k+1) K ⟨putS s.slots o.dst d,own'⟩⟩
   else Hj_ P nt (gB (BI ops s j) want) o ⟨s.slots,IU l1 l2 k s.own⟩ ⟨fun s'=>Ci ops rest (k+1) K ⟨s'.slots,s.own⟩⟩
def Em_ (ops:Array Oper) (rest:List Oper) (k:Nat) (own:List Ent) (K:Cont):Cont:=⟨fun s'=>Ci P nt ow l1 l2 ops rest k K ⟨s'.slots,own⟩⟩
theorem Gb_ (ops:Array Oper) (rest:List Oper) (k:Nat) (own:List Ent) (K:Cont) (s':DS):(Em_ P nt ow l1 l2 ops rest k own K).f s'=Ci P nt ow l1 l2 ops rest k K ⟨s'.slots,own⟩:=id rfl
def El_ (ops:Array Oper) (rest:List Oper) (k:Nat) (dst:Option Nat) (sl:List (Nat×DVal)) (K:Cont):ContE:=⟨fun d own'=>Ci P nt ow l1 l2 ops rest (k+1) K ⟨putS sl dst d,own'⟩⟩
theorem Ga_ (ops:Array Oper) (rest:List Oper) (k:Nat) (dst:Option Nat) (sl:List (Nat×DVal)) (K:Cont) (d:DVal) (own':List Ent):(El_ P nt ow l1 l2 ops rest k dst sl K).f d own'=Ci P nt ow l1 l2 ops rest (k+1) K ⟨putS sl dst d,own'⟩:=id rfl
theorem BB_ (ops:Array Oper) (k:Nat) (K:Cont) (s:DS):Ci P nt ow l1 l2 ops [] k K s=K.f s:=id rfl
theorem lR (ops:Array Oper) (o:Oper) (rest:List Oper) (k:Nat) (K:Cont) (s:DS):Ci P nt ow l1 l2 ops (o::rest) k K s=match o.guard with
 | none=>if Bw ow o then Bs nt o.dst=true/\(LO s.own o=true/\Qs l2 k s.slots o=true)/\Bz_ P o (ev s.slots) s.own (El_ P nt ow l1 l2 ops rest k o.dst s.slots K)
  else Hk_ P nt o ⟨s.slots,IU l1 l2 k s.own⟩ (Em_ P nt ow l1 l2 ops rest (k+1) s.own K)
 | some (j,want)=>gOK (BI ops s j)=true/\if Bw ow o then Bs nt o.dst=true/\(LO s.own o=true/\Qs l2 k s.slots o=true)/\Kb (gB (BI ops s j) want) (ev s.slots) o.op/\Hh_ P (gB (BI ops s j) want) o (Bf s.slots) s.own (El_ P nt ow l1 l2 ops rest k o.dst s.slots K)
  else Hj_ P nt (gB (BI ops s j) want) o ⟨s.slots,IU l1 l2 k s.own⟩ (Em_ P nt ow l1 l2 ops rest (k+1) s.own K):=id rfl
def EQ (ops:Array Oper) (o:Oper) (s:DS) (d:DVal) (own':List Ent) (r:Nat):Prop:=match o.guard with
 | none=>PF P o (ev s.slots) s.own r d own'
 | some (j,want)=>gOK (BI ops s j)=true/\Kb (gB (BI ops s j) want) (ev s.slots) o.op /\
  ((gB (BI ops s j) want=true/\∃d0,d= .sel true d0/\PF P o (Bf s.slots) s.own r d0 own')\/(gB (BI ops s j) want=false/\d= .sel false .any/\own'=s.own))
def WL (ops:Array Oper) (k:Nat) (o:Oper) (s:DS) (d:DVal) (own':List Ent) (r:Nat):Prop :=
 (Bw ow o=true/\Bs nt o.dst=true/\(LO s.own o=true/\Qs l2 k s.slots o=true)/\EQ P ops o s d own' r) \/
  (Bw ow o=false/\own'=s.own/\Je_ P nt ops o ⟨s.slots,IU l1 l2 k s.own⟩ d)
def DN (l:List Oper):Nat:=l.countP (Bw ow)
def Ei (ops:Array Oper):Bool :=
 let m:=DL ops.toList []
 let zs:=ops.toList.zipIdx
 lP ops&&zs.all fun p=> !Bw ow p.1||zs.all fun q=>p.2==q.2||(decide (p.2<q.2)&&(m.getD q.2 0).testBit p.2)||(decide (q.2<p.2)&&(m.getD p.2 0).testBit q.2) ||
  (!Bw ow q.1&&(l2.contains q.2||(l1.contains q.2&&Da p.1)||(!l1.contains q.2&&iW q.1&&Dp p.1)||(!l1.contains q.2&&Dp p.1&&VT l2 p.2 q.2)))
end
section
variable {P : Program} {nt : Nat} {ow l1 l2 : List Nat}
theorem Uw {ops:Array Oper} {K:Cont} (n0:Nat):∀(rest:List Oper) (k c:Nat) (s:DS),Ci P nt ow l1 l2 ops rest k K s ->
  ∃(ds:List DVal) (owns:Nat->List Ent),ds.length=rest.length/\owns 0=s.own/\K.f ⟨HF s.slots (rest.zip ds),owns rest.length⟩ /\
   ∀(j:Nat) (o:Oper),rest[j]? =some o->∃d,ds[j]? =some d/\WL P nt ow l1 l2 ops (k+j) o ⟨HF s.slots ((rest.zip ds).take j),owns j⟩ d (owns (j+1)) (n0+c+DN ow (rest.take j))
 | [],k,c,s,h=>⟨[],fun _=>s.own,rfl,rfl,by simpa[Ci,HF]using h,by simp⟩
 | o::rest,k,c,s,h=>by
  have step:∀d own',WL P nt ow l1 l2 ops k o s d own' (n0+c)->Ci P nt ow l1 l2 ops rest (k+1) K ⟨putS s.slots o.dst d,own'⟩->∃(ds:List DVal) (owns:Nat->List Ent),ds.length=(o::rest).length/\owns 0=s.own/\K.f ⟨HF s.slots ((o::rest).zip ds),owns (o::rest).length⟩ /\
    ∀(j:Nat) (o':Oper),(o::rest)[j]? =some o'->∃d,ds[j]? =some d/\WL P nt ow l1 l2 ops (k+j) o' ⟨HF s.slots (((o::rest).zip ds).take j),owns j⟩ d (owns (j+1)) (n0+c+DN ow ((o::rest).take j)):=by
   intro d own' qG hr;obtain⟨ds,owns,h1,h0,h2,h3⟩:=Uw n0 rest (k+1) (c+DN ow [o]) _ hr;refine⟨d::ds,fun j=>match j with | 0=>s.own | j+1=>owns j,by simp[h1],rfl,by simpa[HF]using h2,?_⟩;intro j o' hj
   cases j with
   | zero=>simp only[bA0,aA0]at hj;subst hj;exact⟨d,by simp,by simpa[HF,DN,h0]using qG⟩
   | succ j =>
    obtain⟨d',h4,h5⟩:=h3 j o' (by simpa using hj);refine⟨d',by simpa using h4,?_⟩
    have e1:n0+(c+DN ow [o])+DN ow (rest.take j)=n0+c+DN ow ((o::rest).take (j+1)):=by
     simp only[cI0,DN,eY0,List.countP_nil];omega
    rw[e1,show k+1+j=k+(j+1) by omega]at h5;simpa[HF]using h5
  simp only[Ci]at h
  split at h
  ·rename_i hg
   split at h
   ·rename_i he;obtain⟨hd,ha,h⟩:=h;obtain⟨d,own',h1,h2⟩:=Kw h (n0+c);exact step d own' (.inl ⟨he,hd,ha,by unfold EQ;rw[hg];exact h1⟩) h2
   ·rename_i he;have he:Bw ow o=false:=by simpa using he
    obtain⟨hd,h⟩:=h
    split at h
    ·rename_i c wD
     split at h
     ·rename_i g args hc;obtain⟨d,h1,h2⟩:=KX h;exact step d _ (.inr ⟨he,rfl,hd,by rw[hg];exact .inl ⟨c,g,args,wD,hc,h1⟩⟩) h2
     ·exact step _ _ (.inr ⟨he,rfl,hd,by rw[hg];exact .inr ⟨h.1,rfl⟩⟩) h.2
    ·exact step _ _ (.inr ⟨he,rfl,hd,by rw[hg];exact .inr ⟨h.1,rfl⟩⟩) h.2
  ·rename_i j want hg;obtain⟨zZ,h⟩:=h
   split at h
   ·rename_i he;obtain⟨hd,ha,qG,h⟩:=h
    cases hb:gB (BI ops s j) want with
    | true =>
     rw[hb]at h;obtain⟨d,own',h1,h2⟩:=Kw (K:=Wl _) h (n0+c);exact step (.sel true d) own' (.inl ⟨he,hd,ha,by unfold EQ;rw[hg];exact⟨zZ,qG,.inl ⟨hb,d,rfl,h1⟩⟩⟩) h2
    | false =>
     rw[hb]at h;exact step (.sel false .any) s.own (.inl ⟨he,hd,ha,by unfold EQ;rw[hg];exact⟨zZ,qG,.inr ⟨hb,rfl,rfl⟩⟩⟩) h
   rename_i he;have he:Bw ow o=false:=by simpa using he
   obtain⟨hd,qG,h⟩:=h
   have mk:∀d,(gB (BI ops s j) want=true->FK P o (IU l1 l2 k s.own) (Bf s.slots) d)->WL P nt ow l1 l2 ops k o s (.sel (gB (BI ops s j) want) d) s.own (n0+c):=by
    intro d h1;refine .inr ⟨he,rfl,hd,?_⟩;rw[hg];exact⟨zZ,qG,d,rfl,h1⟩
   split at h
   ·rename_i c wD
    split at h
    ·rename_i g args hc;obtain⟨d,h1,h2⟩:=UA h;exact step _ _ (mk d fun hq=> .inl ⟨c,g,args,wD,hc,h1 hq⟩) h2
    ·exact step _ _ (mk _ fun hq=> .inr ⟨h.1 hq,rfl⟩) h.2
   ·exact step _ _ (mk _ fun hq=> .inr ⟨h.1 hq,rfl⟩) h.2
end
theorem Di_ (l:List (Nat×DVal)) (o:Option Nat) (d:DVal):Hk (putS l o d)<=max (mx d) (Hk l):=by
 cases o<;>simp only[putS,Hk]<;>omega
theorem XZ {l:List (Nat×DVal)} {S:Nat->Bool} {n:Nat} (hl:Hk l<=n):∀(zs:List (Oper×DVal)) (i:Nat),(∀(k:Nat) (z:Oper×DVal),zs[k]? =some z->S (i+k)=true->mx z.2<=n)->Hk (Ek l S i zs)<=n
 | [],_,_=>hl
 | (o,d)::r,i,h=>by
  have ih:=XZ (S:=S) hl r (i+1) (fun k z hz hS=>h (k+1) z (by simpa using hz) (by rwa[show i+1+k=i+(k+1) by omega]at hS));simp only[Ek]
  split
  ·rename_i hS;refine Nat.le_trans (Di_ _ _ _) ?_;have:=h 0 (o,d) (by simp) (by simpa using hS);simp only at this;omega
  ·exact ih
end Go.Dm
end
