/- Parts of a proof, laid together: EnI. -/
import Derived.Laws.AppendOwn
import Derived.Laws.OwnMore
import Derived.Deep.DeepAppendWide
import Derived.Test.YtiojapdolljocaaGreatqBw5
set_option linter.unusedSimpArgs false
set_option maxHeartbeats 8000000
set_option linter.unusedVariables false
set_option linter.unusedSectionVars false
section
namespace Go.Dm
variable [DMode]
def upE (own:List Ent) (id r:Nat) (obj:DObj):List Ent:=⟨id,r,obj⟩::CE own id
def CH (loc:Nat->Loc) (id:Nat) (L:Loc):Nat->Loc:=fun j=>if j=id then L else loc j
theorem Bw {own:List Ent} {id:Nat} {e:Ent}:e∈CE own id↔e∈own/\e.id≠id:=by
 induction own with
 | nil=>simp[CE]
 | cons a t ih =>
  simp only[CE]
  split
  ·rename_i h;rw[ih,aL0]
   constructor
   ·rintro⟨h1,h2⟩;exact⟨.inr h1,h2⟩
   ·rintro⟨rfl | h1,h2⟩
    ·exact absurd h h2
    ·exact⟨h1,h2⟩
  ·rename_i h;rw[aL0,ih,aL0]
   constructor
   ·rintro (rfl | ⟨h1,h2⟩)
    ·exact⟨.inl rfl,h⟩
    ·exact⟨.inr h1,h2⟩
   ·rintro⟨rfl | h1,h2⟩
    ·exact .inl rfl
    ·exact .inr ⟨h1,h2⟩
theorem DY {own:List Ent} {id:Nat} (h:(own.map (·.id)).Nodup):((CE own id).map (·.id)).Nodup:=by
 induction own with
 | nil=>simp[CE]
 | cons a t ih =>
  simp only[List.map_cons,cG0]at h;simp only[CE]
  split
  ·exact ih h.2
  ·simp only[List.map_cons,cG0];refine⟨fun hm=> ?_,ih h.2⟩;obtain⟨e,he,h1⟩:=aQ0.1 hm;exact h.1 (aQ0.2 ⟨e,(Bw.1 he).1,h1⟩)
theorem Xs {α β:Type} {f g:α->List β}:∀{l:List α},(∀x∈l,f x=g x)->l.flatMap f=l.flatMap g
 | [],_=>rfl
 | a::l,h=>by
  rw[dJ0,dJ0,h a aK0,Xs (fun x hx=>h x (aI0 _ hx))]
theorem Qt {own:List Ent} {loc:Nat->Loc} {id:Nat} {L:Loc}:Aa (CE own id) (CH loc id L)=Aa (CE own id) loc:=by
 unfold Aa;refine Xs fun e he=> ?_
 have:=(Bw.1 he).2;simp[CH,this]
theorem Pb {own:List Ent} {loc:Nat->Loc} {id:Nat} {b:Nat} (h:b∈Aa (CE own id) loc):∃e∈own,e.id≠id/\b∈(loc e.id).blks:=by
 obtain⟨e,he,h1⟩:=bW0.1 h;have:=Bw.1 he;exact⟨e,this.1,this.2,h1⟩
theorem St.up {own:List Ent} {loc:Nat->Loc} {M0:List Nat} {w w':World} {id r:Nat} {obj:DObj} {L:Loc} {n:Nat}
  (S:St own loc M0 w.heap) (qD:w.heap.size<=w'.heap.size) (hLn:L.blks.Nodup)
  (jL:∀b,b<w.heap.size->(∀e∈own,e.id=id->b∉(loc id).blks)->w'.heap[b]? =w.heap[b]?)
  (hL:∀b,b∈L.blks->b<w'.heap.size/\((∃e∈own,e.id=id/\b∈(loc id).blks)\/w.heap.size<=b))
  (hr:n<=r\/Ab own loc id r=some L) (hn:Gj own<=n)
  (wO:Gy (Ab (upE own id r obj) (CH loc id L)) (Aa (upE own id r obj) (CH loc id L)++M0) w'.heap L obj) :
  St (upE own id r obj) (CH loc id L) M0 w'.heap/\(∀b∈Aa (upE own id r obj) (CH loc id L),b∈Aa own loc\/w.heap.size<=b) /\
   (∀e∈upE own id r obj,e.r<n->Ab own loc e.id e.r=some (CH loc id L e.id))/\(∀b,b<w.heap.size->b∉Aa own loc->w'.heap[b]? =w.heap[b]?):=by
 have wZ:∀b∈Aa (upE own id r obj) (CH loc id L),b∈Aa own loc\/w.heap.size<=b:=by
  intro b hb;obtain⟨e,he,h1⟩:=bW0.1 hb
  rcases aL0.1 he with rfl | he
  ·simp only[CH,if_true]at h1
   rcases (hL b h1).2 with ⟨e,he,hid,h2⟩ | h2
   ·exact .inl (AY he (by rw[hid];exact h2))
   ·exact .inr h2
  ·have:=Bw.1 he;simp only[CH,if_neg this.2]at h1;exact .inl (AY this.1 h1)
 have vD:∀e∈upE own id r obj,e.r<n->Ab own loc e.id e.r=some (CH loc id L e.id):=by
  intro e he qV
  rcases aL0.1 he with rfl | he
  ·simp only[CH,if_true]
   rcases hr with h | h
   ·simp only at qV;omega
   ·exact h
  ·have:=Bw.1 he;simp only[CH,if_neg this.2];exact AG S.nd this.1
 have hblk:∀b,b<w.heap.size->b∉Aa own loc->w'.heap[b]? =w.heap[b]? :=fun b hb dO=>jL b hb (fun e he hid h=>dO (AY he (by rw[hid];exact h)))
 refine⟨⟨?_,?_,?_,?_,?_⟩,wZ,vD,hblk⟩
 ·simp only[upE,List.map_cons,cG0];refine⟨fun hm=> ?_,DY S.nd⟩;obtain⟨e,he,h1⟩:=aQ0.1 hm;exact(Bw.1 he).2 h1
 ·unfold upE;rw[DN,Qt,bS0];simp only[CH,if_true];refine⟨hLn,DM S.bl _ (DY S.nd) (fun e he=>(Bw.1 he).1),?_⟩;intro b hb b' qL gS;subst gS;obtain⟨e,he,qB,h1⟩:=Pb qL
  rcases (hL b hb).2 with ⟨e2,vU,hid,h2⟩ | h2
  ·have:=Fz S.bl e he e2 vU b h1 (by rw[hid];exact h2);subst this;exact qB hid
  ·have:=S.lt b (aH0 _ (AY he h1));omega
 ·intro b hb hm
  rcases wZ b hb with h | h
  ·exact S.ap b h hm
  ·have:=S.lt b (aJ0 _ hm);omega
 ·intro b hb
  rcases aC0.1 hb with h | h
  ·obtain⟨e,he,h1⟩:=bW0.1 h
   rcases aL0.1 he with rfl | he
   ·simp only[CH,if_true]at h1;exact(hL b h1).1
   ·have:=Bw.1 he;simp only[CH,if_neg this.2]at h1;exact cD0 (S.lt b (aH0 _ (AY this.1 h1))) qD
  ·exact cD0 (S.lt b (aJ0 _ h)) qD
 ·intro e he
  rcases aL0.1 he with rfl | he
  ·simpa[CH]using wO
  ·have qU:=Bw.1 he;simp only[CH,if_neg qU.2];have hU:Upd (Aa own loc) w ⟨w'.heap,w.tape,w.drawn,w.os,w.output⟩:=⟨rfl,rfl,rfl,fun _=>Nat.le_refl _,qD,hblk⟩
   have W:Weak (Ab own loc) (Ab (upE own id r obj) (CH loc id L)) (Aa own loc++M0) (Aa (upE own id r obj) (CH loc id L)++M0) w.heap w'.heap n :=
    EK (w':=⟨w'.heap,w.tape,w.drawn,w.os,w.output⟩) hU wZ vD
   have vY:=(Be qU.1).2
   have keep:∀b o,b∈(loc e.id).blks->w.heap[b]? =some o->w'.heap[b]? =some o:=by
    intro b o hb ho;rw[jL b (aD0.1 ho).1 (fun e2 vU hid h2=> ?_)]
    ·exact ho
    ·have:=Fz S.bl e qU.1 e2 vU b hb (by rw[hid];exact h2);subst this;exact qU.2 hid
   exact Bd W (by omega) keep (S.ok e qU.1)
section
variable {P : Program} {B : Base} {s : DS} {a : Act} {w : World} {loc : Nat -> Loc}
def Cb (B:Base) (s:DS):Nat:=max B.N (max (JK s.slots) (Gj s.own))
theorem Rel.up {w':World} {id r:Nat} {obj:DObj} {L:Loc} {v:Value} {d:DVal} {dst:Option Nat} {n:Nat}
  (R:Rel B s a w loc) (qE:Cb B s<=n) (qC:∀i,dst=some i->i<B.nt) (hw:Upd (Aa s.own loc) w w')
  (jL:∀b,b<w.heap.size->(∀e∈s.own,e.id=id->b∉(loc id).blks)->w'.heap[b]? =w.heap[b]?)
  (hL:∀b,b∈L.blks->b<w'.heap.size/\((∃e∈s.own,e.id=id/\b∈(loc id).blks)\/w.heap.size<=b))
  (hr:n<=r\/Ab s.own loc id r=some L)
  (wO:Gy (Ab (upE s.own id r obj) (CH loc id L)) (Aa (upE s.own id r obj) (CH loc id L)++B.M0) w'.heap L obj)
  (hd:rd (Ab (upE s.own id r obj) (CH loc id L)) (Aa (upE s.own id r obj) (CH loc id L)++B.M0) w'.heap d v) (hLn:L.blks.Nodup:=by simp) :
  Rel B ⟨Bv s.slots dst d,upE s.own id r obj⟩ (a.put dst v) w' (CH loc id L):=by
 unfold Cb at qE;obtain⟨h1,h2,h3,_⟩:=R.st.up hw.size hLn jL hL hr (by omega) wO;exact R.step (n:=n) (by omega) (by omega) qC h1 hw h2 h3 hd
theorem Rel.weakUp {w':World} {id r:Nat} {obj:DObj} {L:Loc} {n:Nat} (R:Rel B s a w loc) (qE:Cb B s<=n) (hw:Upd (Aa s.own loc) w w')
  (hL:∀b,b∈L.blks->b<w'.heap.size/\((∃e∈s.own,e.id=id/\b∈(loc id).blks)\/w.heap.size<=b))
  (hr:n<=r\/Ab s.own loc id r=some L):Weak (cu s loc) (Ab (upE s.own id r obj) (CH loc id L)) (hm s loc B.M0) (Aa (upE s.own id r obj) (CH loc id L)++B.M0) w.heap w'.heap n:=by
 refine EK hw ?_ ?_
 ·intro b hb;obtain⟨e,he,h1⟩:=bW0.1 hb
  rcases aL0.1 he with rfl | he
  ·simp only[CH,if_true]at h1
   rcases (hL b h1).2 with ⟨e,he,hid,h2⟩ | h2
   ·exact .inl (AY he (by rw[hid];exact h2))
   ·exact .inr h2
  ·have:=Bw.1 he;simp only[CH,if_neg this.2]at h1;exact .inl (AY this.1 h1)
 ·intro e he qV
  rcases aL0.1 he with rfl | he
  ·simp only[CH,if_true]
   rcases hr with h | h
   ·simp only at qV;omega
   ·exact h
  ·have:=Bw.1 he;simp only[CH,if_neg this.2];exact AG R.st.nd this.1
theorem Ds (id r:Nat) (obj:DObj) (own:List Ent) (loc:Nat->Loc) (L:Loc):Ab (upE own id r obj) (CH loc id L) id r=some L:=by
 simp[Ab,upE,Aj,CH]
theorem GD {cur:EF} {M:List Nat} {H:Array Obj}:∀(cs:List DVal) (us pre post:List Value),Aw cur M H cs us->(∀u∈us,u.oneCell'=true)->Dv cur M H cs (pre++us++post).toArray pre.length
 | [],_,_,_,_,_=>by simp[Dv]
 | d::ds,us,pre,post,hr,ho=>by
  simp only[Aw]at hr;obtain⟨v,r,rfl,h1,h2⟩:=hr;simp only[Dv];refine⟨⟨v,by simp,ho v aK0,h1⟩,?_⟩;have:=GD ds r (pre++[v]) post h2 (fun u hu=>ho u (aI0 _ hu));simpa using this
theorem Upd.alloc' (H:List Nat) (w:World) (o:Obj):Upd H w (w.alloc o):=Upd.alloc H w o
theorem Rel.newBox {id n:Nat} {cs:List DVal} {us:List Value} {ty:TypeId} {dst:Option Nat} (R:Rel B s a w loc) (qE:Cb B s<=n) (vY:AJ cs<=n) (qC:∀i,dst=some i->i<B.nt)
  (vO:Aw (cu s loc) (hm s loc B.M0) w.heap cs us) (qI:∀u∈us,u.oneCell'=true) :
  Rel B ⟨Bv s.slots dst (.bx id n 0),upE s.own id n (.box cs)⟩ (a.put dst (.pointer (some ⟨w.heap.size,0,none⟩))) (w.alloc (.cells us.toArray ty)) (CH loc id ⟨[w.heap.size],Go.undef⟩):=by
 have hw:=Upd.alloc' (Aa s.own loc) w (.cells us.toArray ty)
 have hL:∀b,b∈(⟨[w.heap.size],Go.undef⟩:Loc).blks->b<(w.alloc (.cells us.toArray ty)).heap.size/\((∃e∈s.own,e.id=id/\b∈(loc id).blks)\/w.heap.size<=b):=by
  intro b hb;simp only[aG0]at hb;subst hb;exact⟨by simp,.inr (Nat.le_refl _)⟩
 have W:=R.weakUp (obj:= .box cs) qE hw hL (.inl (Nat.le_refl _));refine R.up qE qC hw (fun b hb _=>by simp only[World.alloc,bP0];rw[if_neg (by omega)]) hL (.inl (Nat.le_refl _)) ?_ ?_
 ·refine⟨w.heap.size,us.toArray,ty,rfl,heap_alloc_new w _,by have:=Aq _ _ vO;simpa using this,?_⟩;have:=GD cs us [] [] (AL W cs us vY vO) qI;simpa using this
 ·simp only[rd];intro l hl;rw[Ds]at hl;simp only[aA0]at hl;subst hl;exact⟨_,rfl,rfl⟩
theorem Ly {b off:Nat} {arr:Array Value} {ty t:TypeId} {v:Value} (hh:w.heap[b]? =some (.cells arr ty (0,0))) (hc:tCells P t=some v.cells.size) (vL:off+v.cells.size<=arr.size) (qI:∀u∈v.cells.toList,u.oneCell'=true) :
  (Instr.storeAt t (.pointer (some ⟨b,off,none⟩)) v).run P w= .ok () (w.setRow b (arr.toList.take off++v.cells.toList++arr.toList.drop (off+v.cells.size)).toArray):=by
 have qR:=run_storeCells_at P b off ty v.cells.toList 0 arr w hh (by simpa using vL) qI;simp only[dC0,bK0]at qR;simp[Instr.storeAt,Instr.sureAddr,storeVar,BE hc,qR]
theorem Upd.setRow {own:List Ent} {loc:Nat->Loc} {e:Ent} {b:Nat} (he:e∈own) (hb:b∈(loc e.id).blks) (w:World) (cs:Array Value):Upd (Aa own loc) w (w.setRow b cs) :=
 ⟨rfl,rfl,rfl,fun _=>Nat.le_refl _,by simp,fun b' _ hn=>setRow_other w b b' cs (fun h=>hn (by rw[h];exact AY he hb))⟩
theorem CP {cur:EF} {M:List Nat} {H:Array Obj}:∀(cs:List DVal) (arr arr':Array Value) (o o':Nat),(∀j,j<cs.length->arr'[o'+j]? =arr[o+j]?)->Dv cur M H cs arr o->Dv cur M H cs arr' o'
 | [],_,_,_,_,_,_=>by simp[Dv]
 | d::cs,arr,arr',o,o',h,hr=>by
  simp only[Dv]at hr |-;obtain⟨⟨v,h1,h2,h3⟩,h4⟩:=hr;refine⟨⟨v,by have:=h 0 (by simp);simp only[dC0]at this;rw[this];exact h1,h2,h3⟩,CP cs arr arr' (o+1) (o'+1) (fun j hj=> ?_) h4⟩;have:=h (j+1) (by simp;omega)
  rwa[show o'+(j+1)=o'+1+j by omega,show o+(j+1)=o+1+j by omega]at this
theorem LF {cur:EF} {M:List Nat} {H:Array Obj}:∀(a b:List DVal) (arr:Array Value) (o:Nat),Dv cur M H a arr o->Dv cur M H b arr (o+a.length)->Dv cur M H (a++b) arr o
 | [],b,arr,o,_,h=>by simpa using h
 | d::a,b,arr,o,h1,h2=>by
  simp only[Dv,List.cons_append]at h1 |-;refine⟨h1.1,LF a b arr (o+1) h1.2 ?_⟩;simpa[cE0,Nat.add_comm 1]using h2
theorem HN : ∀(a b:List DVal),AJ (a++b)=max (AJ a) (AJ b)
 | [],b=>by simp[AJ]
 | d::a,b=>by simp only[List.cons_append,AJ,HN a b];omega
theorem LL : ∀(n:Nat) (a:List DVal),AJ (a.take n)<=AJ a
 | 0,a=>by simp[AJ]
 | n+1,[]=>by simp[AJ]
 | n+1,d::a=>by simp only[cJ0,AJ];have:=LL n a;omega
theorem Eo : ∀(n:Nat) (a:List DVal),AJ (a.drop n)<=AJ a
 | 0,a=>by simp
 | n+1,[]=>by simp
 | n+1,d::a=>by simp only[dQ0,AJ];have:=Eo n a;omega
theorem JC (cells:List DVal) (off:Nat) (cs:List DVal):AJ (Dl cells off cs)<=max (AJ cells) (AJ cs):=by
 unfold Dl;rw[HN,HN];have:=LL off cells;have:=Eo (off+cs.length) cells;omega
theorem NO (l:List (Nat×DVal)) (x:Operand):mx (ev l x)<=JK l:=by
 cases x with
 | tmp t=>exact OU l t
 | const v =>
  have h1:∀v,mx (BZ v)=0:=by
   intro v;unfold BZ
   split<;>(try split)<;>simp[mx]
  simp only[ev,ofV]
  split
  ·rename_i cs;simp only[mx]
   have:∀l:List Value,AJ (l.map BZ)=0:=by
    intro l
    induction l with
    | nil=>simp[AJ]
    | cons v l ih=>simp[AJ,h1,ih]
   rw[this];omega
  ·rw[h1];omega
 | global g=>simp[ev,mx]
 | func f=>simp[ev,mx,AJ]
theorem Cy (d:DVal):AJ (AB d)=mx d:=by
 cases d<;>simp[AB,mx,AJ]
theorem OV {n:Nat}:∀{l:List (List DVal)},(∀d∈l,AJ d<=n)->Bq l<=n
 | [],_=>by simp[Bq]
 | x::l,h=>by
  simp only[Bq];have:=h x aK0;have:=OV (l:=l) fun d hd=>h d (aI0 _ hd)
  omega
theorem AN {own:List Ent} {id:Nat} {e:Ent} (h:Aj own id=some e):e∈own/\e.id=id:=Ay h
theorem Rel.storeBox {id r off n:Nat} {cs:List DVal} {e:Ent} {d:DVal} {t:TypeId} {v:Value} {ad:Value} (R:Rel B s a w loc) (he:Aj s.own id=some e) (qT:e.r=r) (qZ:e.obj= .box cs)
  (ha:Bb s loc B.M0 w (.bx id r off) ad) (hd:Bb s loc B.M0 w d v) (hp:Cs s.own d=true) (hc:tCells P t=some (AB d).length) (vL:off+(AB d).length<=cs.length) (vY:mx d<=JK s.slots) (hn:Cb B s<=n) :
  ∃w',(Instr.storeAt t ad v).run P w= .ok () w'/\Rel B ⟨s.slots,upE s.own id r (.box (Dl cs off (AB d)))⟩ a w' (CH loc id (loc id)):=by
 obtain⟨qU,hid⟩:=AN he;have hk:=R.st.ok e qU;rw[qZ]at hk;obtain⟨b,arr,ty,h1,h2,h3,h4⟩:=hk;rw[hid]at h1;have qA:Ab s.own loc id r=some (loc id):=by unfold Ab;rw[he];simp[qT]
 simp only[Bb,rd]at ha;obtain⟨b',qL,rfl⟩:=ha _ qA;have qS:b∈(loc id).blks:=by rw[h1];simp
 rw[h1]at qL;simp only[bF0,and_true]at qL;subst qL;obtain⟨hcv,qI⟩:=Hp R.st hp hd;have gC:=Aq _ _ hcv;simp only[bK0]at gC;have qM:=Ly (P:=P) (w:=w) (b:=b) (off:=off) (t:=t) (v:=v) h2 (by rw[hc,gC]) (by omega) qI;refine⟨_,qM,?_⟩;have hw:Upd (Aa s.own loc) w (w.setRow b (arr.toList.take off++v.cells.toList++arr.toList.drop (off+v.cells.size)).toArray):=Upd.setRow qU (by rw[hid];exact qS) w _
 have hL:∀b0,b0∈(loc id).blks->b0<(w.setRow b (arr.toList.take off++v.cells.toList++arr.toList.drop (off+v.cells.size)).toArray).heap.size/\((∃e∈s.own,e.id=id/\b0∈(loc id).blks)\/w.heap.size<=b0):=by
  intro b0 qH;refine⟨?_,.inl ⟨e,qU,hid,qH⟩⟩;rw[h1]at qH;simp only[aG0]at qH;subst qH;have:=(aD0.1 h2).1;simpa using this
 have W:=R.weakUp (obj:= .box (Dl cs off (AB d))) hn hw hL (.inr qA);have wS:=(Be qU).2;rw[qZ]at wS;simp only[EP]at wS;unfold Cb at hn;refine R.up (hLn:=by rw[h1];simp) (dst:=none) (v:=Go.undef) (d:= .any) (n:=n) (by unfold Cb;exact hn) (fun i hi=>by simp at hi) hw ?_ hL (.inr qA) ?_ (by simp[rd])
 ·intro b0 qH qB;refine setRow_other w b b0 _ (fun h=>qB e qU hid ?_);rw[h];exact qS
 ·refine⟨b,_,ty,h1,setRow_heap w b arr _ ty (0,0) h2,?_,?_⟩
  ·simp[Dl,h3,<-gC]
  ·unfold Dl;have l1:(arr.toList.take off).length=off:=by simp;omega
   refine LF _ _ _ _ (LF _ _ _ _ ?_ ?_) ?_
   ·refine CP _ arr _ 0 0 (fun j hj=> ?_) (LD off _ _ _ (Fa W cs arr 0 (by omega) h4));have fG:j<off:=by simp at hj;omega
    simp only[bN0,dE0,aS0];rw[bC0 (by omega),bT0 fG];simp
   ·have vW:=GD (AB d) v.cells.toList (arr.toList.take off) (arr.toList.drop (off+v.cells.size)) (AL W _ _ (by rw[Cy];omega) hcv) qI;have e1:0+(cs.take off).length=(arr.toList.take off).length:=by simp;omega
    rw[e1];exact vW
   ·have hdr:=Fb (off+(AB d).length) cs arr 0 (Fa W cs arr 0 (by omega) h4);have e1:0+(cs.take off++AB d).length=0+(off+(AB d).length):=by simp;omega
    rw[e1];refine CP _ arr _ _ _ (fun j hj=> ?_) hdr;simp only[bN0,dE0];rw[bD0 (by simp;omega),cQ0];have e2:off+(AB d).length+j-(arr.toList.take off++v.cells.toList).length=j:=by simp;omega
    rw[e2,gC];simp
theorem EZ {cur:EF} {M:List Nat} {H:Array Obj} (k:Nat):∀(es:List (List DVal)) (arr:Array Value) (o:Nat),Ec cur M H k es arr o ->
  ∃rows:List (List Value),rows.length=es.length/\rows.flatten.length=es.length*k/\(∀(i:Nat) (cs:List DVal) (us:List Value),es[i]? =some cs->rows[i]? =some us->cs.length=k/\Aw cur M H cs us/\∀u∈us,u.oneCell'=true) /\
   (∀j v,rows.flatten[j]? =some v->arr[o+j]? =some v/\v.oneCell'=true)
 | [],arr,o,_=>⟨[],rfl,by simp,by simp,by simp⟩
 | c::es,arr,o,hr=>by
  simp only[Ec]at hr;obtain⟨h1,h2,h3⟩:=hr;obtain⟨vs,g1,g2,g3⟩:=GX c arr o h2;obtain⟨rows,k1,k2,k3,k4⟩:=EZ k es arr (o+k) h3;refine⟨vs::rows,by simp[k1],by simp only[cZ0,aE0,k2,List.length_cons,bQ0];omega,?_,?_⟩
  ·intro i cs us hi hu
   cases i with
   | zero =>
    simp only[bB0,aA0]at hi hu;subst hi;subst hu;refine⟨h1,g2,fun u hu=> ?_⟩;obtain⟨j,hj,rfl⟩:=bU0 hu;exact(g3 j _ (aB0 hj)).2
   | succ i=>exact k3 i cs us (by simpa using hi) (by simpa using hu)
  ·intro j v hj;simp only[cZ0]at hj
   by_cases qV:j<vs.length
   ·rw[bC0 qV]at hj;exact g3 j v hj
   ·rw[bD0 (by omega)]at hj;have:=k4 _ v hj
    rwa[show o+k+(j-vs.length)=o+j by omega]at this
theorem Ud {cur:EF} {M:List Nat} {H:Array Obj} (k:Nat) (es:List (List DVal)) (rows:List (List Value)) (post:List Value) (hl:rows.length=es.length)
  (h:∀(i:Nat) (cs:List DVal) (us:List Value),es[i]? =some cs->rows[i]? =some us->cs.length=k/\Aw cur M H cs us/\∀u∈us,u.oneCell'=true):Ec cur M H k es (rows.flatten++post).toArray 0:=by
 have key:∀(es:List (List DVal)) (rows:List (List Value)) (pre:List Value),rows.length=es.length ->
   (∀(i:Nat) (cs:List DVal) (us:List Value),es[i]? =some cs->rows[i]? =some us->cs.length=k/\Aw cur M H cs us/\∀u∈us,u.oneCell'=true)->Ec cur M H k es (pre++rows.flatten++post).toArray pre.length:=by
  intro es
  induction es with
  | nil=>intros;simp[Ec]
  | cons c es ih =>
   intro rows pre hl h
   cases rows with
   | nil=>simp at hl
   | cons u rows =>
    have h0:=h 0 c u (by simp) (by simp);have qY:=Aq _ _ h0.2.1;simp only[Ec];refine⟨h0.1,?_,?_⟩
    ·have:=GD c u pre (rows.flatten++post) h0.2.1 h0.2.2;simpa using this
    ·have:=ih rows (pre++u) (by simpa using hl) (fun i cs us h1 h2=>h (i+1) cs us (by simpa using h1) (by simpa using h2));have e:(pre++u).length=pre.length+k:=by simp[qY,h0.1]
     rw[e]at this;simpa using this
 simpa using key es rows [] hl h
theorem Bt : ∀(a b:List (List DVal)),Bq (a++b)=max (Bq a) (Bq b)
 | [],b=>by simp[Bq]
 | d::a,b=>by simp only[List.cons_append,Bq,Bt a b];omega
def IJ (own:List Ent) (d:DVal):Option (Nat×List (List DVal)) :=
 match d with
 | .nilsl=>some (0,[])
 | .esl=>some (0,[])
 | d=>(AZ own d).map fun x=>(x.1,x.2.2)
theorem FQ : ∀(m:Nat) (l:List (List DVal)),Bq (l.drop m)<=Bq l
 | 0,l=>by simp
 | m+1,[]=>by simp
 | m+1,d::l=>by simp only[dQ0,Bq];have:=FQ m l;omega
theorem FP : ∀(m:Nat) (l:List (List DVal)),Bq (l.take m)<=Bq l
 | 0,l=>by simp[Bq]
 | m+1,[]=>by simp
 | m+1,d::l=>by simp only[cJ0,Bq];have:=FP m l;omega
theorem MF {own:List Ent} {d:DVal} {k bs:Nat} {es:List (List DVal)} (h:AZ own d=some (k,bs,es)):Bq es<=max (mx d) (Gj own):=by
 unfold AZ at h
 split at h
 ·simp only[aA0,aR0]at h;obtain⟨_,_,rfl⟩:=h;simp only[mx];omega
 ·split at h
  ·rename_i e he
   split at h
   ·split at h
    ·rename_i qZ;simp only[aA0,aR0]at h;obtain⟨_,_,rfl⟩:=h;have:=(Be (AN he).1).2;rw[qZ]at this;simp only[EP]at this;omega
    ·simp at h
   ·simp at h
  ·simp at h
 ·split at h
  ·rename_i e he
   split at h
   ·split at h
    ·rename_i qZ
     split at h
     ·simp only[aA0,aR0]at h;obtain⟨_,_,rfl⟩:=h;have:=(Be (AN he).1).2;rw[qZ]at this;simp only[EP]at this;exact Nat.le_trans (FP _ _) (Nat.le_trans (FQ _ _) (by omega))
     ·simp at h
    ·simp at h
   ·simp at h
  ·simp at h
 ·simp at h
theorem xR (S:St s.own loc B.M0 w.heap) {d:DVal} {v:Value} {k:Nat} {es:List (List DVal)} (hd:Bb s loc B.M0 w d v) (h:IJ s.own d=some (k,es)) :
  ∃(rows:List (List Value)),rows.length=es.length/\(∀(i:Nat) (cs:List DVal) (us:List Value),es[i]? =some cs->rows[i]? =some us->cs.length=k/\Aw (cu s loc) (hm s loc B.M0) w.heap cs us/\∀u∈us,u.oneCell'=true) /\
   rows.flatten.length=es.length*k/\(∀u∈rows.flatten,u.oneCell'=true)/\es.length<=maxLen /\
   ((es=[]/\∃x cap,v= .slice x 0 cap)\/∃ad cap,v= .slice (some ad) es.length cap/\∀j u,rows.flatten[j]? =some u->w.cell? (ad.add j)=some u):=by
 unfold IJ at h;have gen:∀bs,AZ s.own d=some (k,bs,es)->_:=fun bs hr=>JF (k:=k) (bs:=bs) (es:=es) S hd hr
 have fin:(AZ s.own d).map (fun x=>(x.1,x.2.2))=some (k,es)->∃(rows:List (List Value)),rows.length=es.length/\(∀(i:Nat) (cs:List DVal) (us:List Value),es[i]? =some cs->rows[i]? =some us->cs.length=k/\Aw (cu s loc) (hm s loc B.M0) w.heap cs us/\∀u∈us,u.oneCell'=true) /\
   rows.flatten.length=es.length*k/\(∀u∈rows.flatten,u.oneCell'=true)/\es.length<=maxLen /\
   ((es=[]/\∃x cap,v= .slice x 0 cap)\/∃ad cap,v= .slice (some ad) es.length cap/\∀j u,rows.flatten[j]? =some u->w.cell? (ad.add j)=some u):=by
  intro vX;rw[aY0]at vX;obtain⟨⟨k',bs,es'⟩,hr,he⟩:=vX;simp only[aR0]at he;obtain⟨rfl,rfl⟩:=he;obtain⟨x,cap,rfl,h2,h3,h4,h5⟩:=JF S hd hr
  rcases h5 with rfl | ⟨b,off,arr,ty,fz,rfl,g2,g3⟩
  ·exact⟨[],rfl,by simp,by simp,by simp,cW0 _,.inl ⟨rfl,_,_,rfl⟩⟩
  ·obtain⟨rows,r1,r2,r3,r4⟩:=EZ k' es' arr off g3;refine⟨rows,r1,r3,r2,?_,by omega,.inr ⟨_,cap,rfl,?_⟩⟩
   ·intro u hu;obtain⟨j,hj,rfl⟩:=bU0 hu;exact(r4 j _ (aB0 hj)).2
   ·intro j u hj;rw[Dh];simp only[World.cell?,g2];exact(r4 j u hj).1
 split at h
 ·simp only[aA0,aR0]at h;obtain⟨rfl,rfl⟩:=h;simp only[Bb,rd]at hd;subst hd;exact⟨[],rfl,by simp,by simp,by simp,cW0 _,.inl ⟨rfl,_,_,rfl⟩⟩
 ·simp only[aA0,aR0]at h;obtain⟨rfl,rfl⟩:=h;simp only[Bb,rd]at hd;obtain⟨ad,cap,rfl,_⟩:=hd;exact⟨[],rfl,by simp,by simp,by simp,cW0 _,.inl ⟨rfl,_,_,rfl⟩⟩
 ·exact fin h
def tElemId (P:Program) (t:TypeId):Option TypeId:=match P.underlying t with | some (.slice e)=>some e | _=>none
def zeroOK (P:Program) (t:TypeId):Bool:=match P.underlying t with
 | some (.slice e)=>match P.info? e with
  | some i=>match i.zero with | some z=>z.cells.size==i.size | none=>false
  | none=>false
 | _=>false
theorem DQ {t ty e:TypeId} {i:TypeInfo} (hu:P.underlying t=some (.slice e)) (hi:P.info? e=some i) {x y:Option Addr} {m cap cap2:Nat} (vX:m<=cap) :
  (Builtin.append_ #[t,t] ty #[.slice y m cap,.slice x 0 cap2]).run P w= .ok (.slice y m cap) w:=by
 cases x<;>cases y<;>simp[Builtin.append_,run_underlying hu,sizeOf,typeInfo,hi,Builtin.lenOf,Builtin.firstCells,vX,storeCells,loadCells,loadCellsFrom]
theorem GQ {arr:Array Value} {rows:List (List Value)} {m:Nat} (hl:rows.flatten.length=m) (h:∀j v,rows.flatten[j]? =some v->arr[0+j]? =some v/\v.oneCell'=true) (vX:m<=arr.size):arr.toList.take m=rows.flatten:=by
 apply List.ext_getElem?
 intro j
 by_cases hj:j<m
 ·rw[bT0 hj];have fG:j<rows.flatten.length:=by omega
  have:=(h j _ (aB0 fG)).1;rw[bN0]at this;rw[aB0 fG,<-this];simp
 ·rw[dF0 (by simp;omega),dF0 (by omega)]
theorem LQ {cur:EF} {M:List Nat} {H:Array Obj} {k:Nat} {es es2:List (List DVal)} {rows rows2:List (List Value)} (l1:rows.length=es.length) (l2:rows2.length=es2.length)
  (h1:∀(i:Nat) (cs:List DVal) (us:List Value),es[i]? =some cs->rows[i]? =some us->cs.length=k/\Aw cur M H cs us/\∀u∈us,u.oneCell'=true)
  (h2:∀(i:Nat) (cs:List DVal) (us:List Value),es2[i]? =some cs->rows2[i]? =some us->cs.length=k/\Aw cur M H cs us/\∀u∈us,u.oneCell'=true) (post:List Value) :
  Ec cur M H k (es++es2) (rows.flatten++rows2.flatten++post).toArray 0:=by
 rw[<-List.flatten_append];refine Ud k _ _ _ (by simp[l1,l2]) ?_;intro i cs us hc hu
 by_cases hi:i<es.length
 ·rw[bC0 hi]at hc;rw[bC0 (by omega)]at hu;exact h1 i cs us hc hu
 ·rw[bD0 (by omega)]at hc;rw[bD0 (by omega)]at hu;rw[l1]at hu;exact h2 _ cs us hc hu
theorem Eb {cur cur':EF} {M M':List Nat} {H H':Array Obj} {n k:Nat} (W:Weak cur cur' M M' H H' n) {es:List (List DVal)} {rows:List (List Value)} (vX:Bq es<=n)
  (h:∀(i:Nat) (cs:List DVal) (us:List Value),es[i]? =some cs->rows[i]? =some us->cs.length=k/\Aw cur M H cs us/\∀u∈us,u.oneCell'=true) :
  ∀(i:Nat) (cs:List DVal) (us:List Value),es[i]? =some cs->rows[i]? =some us->cs.length=k/\Aw cur' M' H' cs us/\∀u∈us,u.oneCell'=true:=by
 intro i cs us hc hu;obtain⟨g1,g2,g3⟩:=h i cs us hc hu;refine⟨g1,AL W cs us ?_ g2,g3⟩
 have:∀(l:List (List DVal)) (i:Nat),l[i]? =some cs->AJ cs<=Bq l:=by
  intro l
  induction l with
  | nil=>intro i h;simp at h
  | cons c l ih =>
   intro i h
   cases i with
   | zero=>simp only[bB0,aA0]at h;subst h;simp only[Bq];omega
   | succ i=>have:=ih i (by simpa using h);simp only[Bq];omega
 have:=this es i hc;omega
def pA (s:DS) (loc:Nat->Loc) (w:World) (M0:List Nat) (id:Nat) (et k bs:Nat) (es:List (List DVal)) (dv:Value):Prop :=
 (es=[]/\dv= .slice none 0 0) \/
 ∃e0∈s.own,e0.id=id/\∃b arr cap,(loc id).blks=[b]/\dv= .slice (some ⟨b,0,none⟩) es.length cap/\w.heap[b]? =some (.cells arr et (0,0))/\es.length<=cap/\cap<=maxLen/\cap*k=arr.size/\Ec (cu s loc) (hm s loc M0) w.heap k es arr 0
theorem rN (S:St s.own loc B.M0 w.heap) {id r et k bs:Nat} {es:List (List DVal)} {e0:Ent} {dv:Value} (he:Aj s.own id=some e0) (qT:e0.r=r) (qZ:e0.obj= .row et k bs es) (hd:Bb s loc B.M0 w (.osl id r) dv):pA s loc w B.M0 id et k bs es dv:=by
 obtain⟨qU,hid⟩:=AN he;have hk:=S.ok e0 qU;rw[qZ]at hk;obtain⟨_,hk⟩:=hk;simp only[Bb,rd]at hd;have hv:=hd (loc id) (by show Ab _ _ _ _=_;unfold Ab;rw[he];simp[qT]);rw[hid]at hk
 rcases hk with ⟨h1,h2,h3⟩ | ⟨b,arr,cap,h1,h2,h3,h4,h5,h6,h7⟩
 ·exact .inl ⟨h1,by rw[hv,h3]⟩
 ·exact .inr ⟨e0,qU,hid,b,arr,cap,h1,by rw[hv,h2],h3,h4,h5,h6,h7⟩
theorem DQ_ {need old bs:Nat} (h:old<need) (hb:need*bs<=150000000000000) (h2:bs<=65536):Builtin.nextslicecap need old*bs<=281474976710656:=by
 refine growslice_fits_wide h ?_
 have h3:need/4*bs*4<=need*bs:=by
  rw[Nat.mul_right_comm];exact aZ0 _ (Nat.div_mul_le_self need 4)
 have h4:192*bs<=192*65536:=Nat.mul_le_mul_left _ h2;rw[bQ0,bQ0];omega
theorem Rel.append {id n:Nat} {t ty e:TypeId} {k bs k2:Nat} {es es2:List (List DVal)} {sd:DVal} {dv sv:Value} {dst:Option Nat} (R:Rel B s a w loc) (qE:Cb B s<=n) (qC:∀i,dst=some i->i<B.nt)
  (ht:tElem P t=some (k,bs)) (zH:tElemId P t=some e) (hz:zeroOK P t=true) (hk:0<k) (wW:pA s loc w B.M0 id e k bs es dv) (jM:Bq es<=n)
  (hsv:Bb s loc B.M0 w sd sv) (wB:IJ s.own sd=some (k2,es2)) (zI:k2=k\/es2=[]) (kB:Bq es2<=n) (hb:(es.length+es2.length)*bs<=150000000000000) (wT:bs<=65536) (hl:es.length+es2.length<=maxLen) :
  ∃v' w' L,(Builtin.append_ #[t,t] ty #[dv,sv]).run P w= .ok v' w'/\Rel B ⟨Bv s.slots dst (.osl id n),upE s.own id n (.row e k bs (es++es2))⟩ (a.put dst v') w' (CH loc id L):=by
 obtain⟨e',i,hu,hi,qD,hby,_⟩:=BA ht;have hee:e'=e:=by unfold tElemId at zH;rw[hu]at zH;simpa using zH
 subst hee
 obtain⟨z,yX,hzs⟩:∃z,i.zero=some z/\z.cells.size=k:=by
  unfold zeroOK at hz;rw[hu]at hz;simp only[hi]at hz
  cases hq:i.zero with
  | none=>simp[hq]at hz
  | some z=>simp only[hq,beq_iff_eq]at hz;exact⟨z,rfl,by rw[hz,qD]⟩
 obtain⟨rows2,q1,q2,q3,q4,q5,q6⟩:=xR (B:=B) R.st hsv wB;have zB:(es++es2).length*bs<=150000000000000:=by simpa using hb
 have mx12:Bq (es++es2)<=n:=by rw[Bt];omega
 -- what the slot reads at the end
 have rdEnd:∀(L:Loc) (h:Array Obj) (obj:DObj),rd (Ab (upE s.own id n obj) (CH loc id L)) (Aa (upE s.own id n obj) (CH loc id L)++B.M0) h (.osl id n) L.hdr:=by
  intro L h obj;simp only[rd];intro l wY;rw[Ds]at wY;simp only[aA0]at wY;rw[wY]
 rcases q6 with ⟨rfl,x,cap2,rfl⟩ | ⟨ad,cap2,rfl,q6⟩
 ·-- nothing is appended
  rw[bO0]at *
  rcases wW with ⟨rfl,rfl⟩ | ⟨e0,qU,hid,b,arr,cap,yG,rfl,h3,h4,h5,h6,h7⟩
  ·refine⟨_,w,⟨[],.slice none 0 0⟩,DQ hu hi (Nat.le_refl _),?_⟩;refine R.up (L:=⟨[],.slice none 0 0⟩) qE qC (Upd.refl _ _) (fun b hb _=>rfl) (fun b hb=>by simp at hb) (.inl (Nat.le_refl _)) ⟨by simp,.inl ⟨rfl,rfl,rfl⟩⟩ (rdEnd ⟨[],.slice none 0 0⟩ _ _)
  ·have h1:b∈(loc id).blks:=by rw[yG];simp
   refine⟨_,w,⟨[b],.slice (some ⟨b,0,none⟩) es.length cap⟩,DQ hu hi h4,?_⟩
   have hL:∀b0,b0∈(⟨[b],.slice (some ⟨b,0,none⟩) es.length cap⟩:Loc).blks->b0<w.heap.size/\((∃e∈s.own,e.id=id/\b0∈(loc id).blks)\/w.heap.size<=b0):=by
    intro b0 qH;simp only[aG0]at qH;subst qH;exact⟨(aD0.1 h3).1,.inl ⟨e0,qU,hid,h1⟩⟩
   have W:=R.weakUp (obj:= .row e' k bs es) (r:=n) qE (Upd.refl _ _) hL (.inl (Nat.le_refl _));exact R.up (L:=⟨[b],.slice (some ⟨b,0,none⟩) es.length cap⟩) qE qC (Upd.refl _ _) (fun b hb _=>rfl) hL (.inl (Nat.le_refl _)) ⟨zB,.inr ⟨b,arr,cap,rfl,rfl,h3,h4,h5,h6,Cd W k es arr 0 jM h7⟩⟩ (rdEnd ⟨[b],.slice (some ⟨b,0,none⟩) es.length cap⟩ _ _)
 ·by_cases fL:es2.length=0
  ·have:es2=[]:=bM0 fL;subst this;rw[bO0]at *;simp only[List.length_nil]at *
   rcases wW with ⟨rfl,rfl⟩ | ⟨e0,qU,hid,b,arr,cap,yG,rfl,h3,h4,h5,h6,h7⟩
   ·refine⟨_,w,⟨[],.slice none 0 0⟩,DQ hu hi (Nat.le_refl _),?_⟩;refine R.up (L:=⟨[],.slice none 0 0⟩) qE qC (Upd.refl _ _) (fun b hb _=>rfl) (fun b hb=>by simp at hb) (.inl (Nat.le_refl _)) ⟨by simp,.inl ⟨rfl,rfl,rfl⟩⟩ (rdEnd ⟨[],.slice none 0 0⟩ _ _)
   ·have h1:b∈(loc id).blks:=by rw[yG];simp
    refine⟨_,w,⟨[b],.slice (some ⟨b,0,none⟩) es.length cap⟩,DQ hu hi h4,?_⟩
    have hL:∀b0,b0∈(⟨[b],.slice (some ⟨b,0,none⟩) es.length cap⟩:Loc).blks->b0<w.heap.size/\((∃e∈s.own,e.id=id/\b0∈(loc id).blks)\/w.heap.size<=b0):=by
     intro b0 qH;simp only[aG0]at qH;subst qH;exact⟨(aD0.1 h3).1,.inl ⟨e0,qU,hid,h1⟩⟩
    have W:=R.weakUp (obj:= .row e' k bs es) (r:=n) qE (Upd.refl _ _) hL (.inl (Nat.le_refl _));exact R.up (L:=⟨[b],.slice (some ⟨b,0,none⟩) es.length cap⟩) qE qC (Upd.refl _ _) (fun b hb _=>rfl) hL (.inl (Nat.le_refl _)) ⟨zB,.inr ⟨b,arr,cap,rfl,rfl,h3,h4,h5,h6,Cd W k es arr 0 jM h7⟩⟩ (rdEnd ⟨[b],.slice (some ⟨b,0,none⟩) es.length cap⟩ _ _)
  ·have qN:k2=k:=by
    rcases zI with h | h
    ·exact h
    ·subst h;simp at fL
   subst qN;subst qD
   subst hby;have wY:es.length+es2.length<=9223372036854775807:=by unfold maxLen at hl;omega
   -- a new row, whatever it held before
   have fresh:∀(rows:List (List Value)) (cap:Nat),es.length<=cap\/True->rows.length=es.length->rows.flatten.length=es.length*i.size ->
     (∀(j:Nat) (cs:List DVal) (us:List Value),es[j]? =some cs->rows[j]? =some us->cs.length=i.size/\Aw (cu s loc) (hm s loc B.M0) w.heap cs us/\∀u∈us,u.oneCell'=true) ->
     Rel B ⟨Bv s.slots dst (.osl id n),upE s.own id n (.row e' i.size i.bytes (es++es2))⟩ (a.put dst (.slice (some ⟨w.heap.size,0,none⟩) (es.length+es2.length) (grownCap w (es.length+es2.length) cap e')))
      (w.drew.alloc (.cells (rows.flatten.toArray++rows2.flatten.toArray++Builtin.zeroCells z.cells (grownCap w (es.length+es2.length) cap e'-(es.length+es2.length))) e')) (CH loc id ⟨[w.heap.size],.slice (some ⟨w.heap.size,0,none⟩) (es.length+es2.length) (grownCap w (es.length+es2.length) cap e')⟩):=by
    intro rows cap _ r1 r2 r3
    have hw:Upd (Aa s.own loc) w (w.drew.alloc (.cells (rows.flatten.toArray++rows2.flatten.toArray++Builtin.zeroCells z.cells (grownCap w (es.length+es2.length) cap e'-(es.length+es2.length))) e')) :=
     (Upd.drew _ w).trans (Upd.alloc _ w.drew _) (fun x hx=> .inl hx)
    have hL:∀b0,b0∈(⟨[w.heap.size],.slice (some ⟨w.heap.size,0,none⟩) (es.length+es2.length) (grownCap w (es.length+es2.length) cap e')⟩:Loc).blks->b0<(w.drew.alloc (.cells (rows.flatten.toArray++rows2.flatten.toArray++Builtin.zeroCells z.cells (grownCap w (es.length+es2.length) cap e'-(es.length+es2.length))) e')).heap.size/\((∃e∈s.own,e.id=id/\b0∈(loc id).blks)\/w.heap.size<=b0):=by
     intro b0 qH;simp only[aG0]at qH;subst qH;exact⟨by simp,.inr (Nat.le_refl _)⟩
    have W:=R.weakUp (obj:= .row e' i.size i.bytes (es++es2)) (r:=n) qE hw hL (.inl (Nat.le_refl _));have gX:=grownCap_ge w (es.length+es2.length) cap e';have hcm:=grownCap_le_maxLen w (es.length+es2.length) cap e' hl;refine R.up qE qC hw (fun b hb _=>by simp only[World.alloc,bP0,World.drew];rw[if_neg (by omega)]) hL (.inl (Nat.le_refl _)) ⟨zB,.inr ⟨w.heap.size,_,_,rfl,by simp,heap_alloc_new w.drew _,by simpa using gX,hcm,?_,?_⟩⟩ (rdEnd ⟨[w.heap.size],.slice (some ⟨w.heap.size,0,none⟩) (es.length+es2.length) (grownCap w (es.length+es2.length) cap e')⟩ _ _)
    ·simp only[Array.size_append,dH0,size_zeroCells,hzs,r2,q3,<-bQ0]
     congr 1
     omega
    ·have:=LQ (k:=i.size) r1 q1 (Eb W jM r3) (Eb W kB q2) (Builtin.zeroCells z.cells (grownCap w (es.length+es2.length) cap e'-(es.length+es2.length))).toList
     have e1:(rows.flatten++rows2.flatten++(Builtin.zeroCells z.cells (grownCap w (es.length+es2.length) cap e'-(es.length+es2.length))).toList).toArray=rows.flatten.toArray++rows2.flatten.toArray++Builtin.zeroCells z.cells (grownCap w (es.length+es2.length) cap e'-(es.length+es2.length)):=by
      apply Array.ext';simp
     rw[e1]at this;exact this
   rcases wW with ⟨rfl,rfl⟩ | ⟨e0,qU,hid,b,arr,cap,yG,rfl,h3,h4,h5,h6,h7⟩
   ·have hr:=run_append_nil (P:=P) w t ty e' i z hu hi yX ad es2.length cap2 rows2.flatten q3 q6 (by omega) (by omega) (by simp only[List.length_nil,bN0]at hb;omega);have hf:=fresh [] 0 (.inr trivial) rfl (by simp) (by simp);simp only[List.length_nil,bN0,List.nil_append,List.flatten_nil,Array.empty_append]at hf hr |-;exact⟨_,_,_,hr,hf⟩
   ·have h1:b∈(loc id).blks:=by rw[yG];simp
    obtain⟨rows,r1,r2,r3,r4⟩:=EZ i.size es arr 0 h7;have cE:es.length*i.size<=arr.size:=by rw[<-h6];exact aZ0 _ h4
    by_cases kX:es.length+es2.length<=cap
    ·have vL:es.length*i.size+rows2.flatten.length<=arr.size:=by rw[q3,<-h6,<-bQ0];exact aZ0 _ kX
     have hr:=run_append_room (P:=P) w t ty e' i hu hi b es.length cap arr h3 ad es2.length cap2 rows2.flatten q3 q6 q4 kX vL;refine⟨_,_,⟨[b],.slice (some ⟨b,0,none⟩) (es.length+es2.length) cap⟩,hr,?_⟩;have hw:Upd (Aa s.own loc) w (w.setRow b (arr.toList.take (es.length*i.size)++rows2.flatten++arr.toList.drop (es.length*i.size+rows2.flatten.length)).toArray):=Upd.setRow qU (by rw[hid];exact h1) w _
     have hL:∀b0,b0∈(⟨[b],.slice (some ⟨b,0,none⟩) (es.length+es2.length) cap⟩:Loc).blks->b0<(w.setRow b (arr.toList.take (es.length*i.size)++rows2.flatten++arr.toList.drop (es.length*i.size+rows2.flatten.length)).toArray).heap.size/\((∃e∈s.own,e.id=id/\b0∈(loc id).blks)\/w.heap.size<=b0):=by
      intro b0 qH;simp only[aG0]at qH;subst qH;refine⟨?_,.inl ⟨e0,qU,hid,h1⟩⟩;have:=(aD0.1 h3).1;simpa using this
     have W:=R.weakUp (obj:= .row e' i.size i.bytes (es++es2)) (r:=n) qE hw hL (.inl (Nat.le_refl _));refine R.up qE qC hw ?_ hL (.inl (Nat.le_refl _)) ⟨zB,.inr ⟨b,_,cap,rfl,by simp,setRow_heap w b arr _ e' (0,0) h3,by simpa using kX,h5,?_,?_⟩⟩ (rdEnd ⟨[b],.slice (some ⟨b,0,none⟩) (es.length+es2.length) cap⟩ _ _)
     ·intro b0 qH qB;refine setRow_other w b b0 _ (fun h=>qB e0 qU hid ?_);rw[h];exact h1
     ·simp only[dH0,aE0,aW0,bZ0,bK0];omega
     ·have mT:=GQ r2 r4 cE;have hj:=LQ r1 q1 (Eb W jM r3) (Eb W kB q2) (arr.toList.drop (es.length*i.size+rows2.flatten.length));rw[<-mT]at hj;exact hj
    ·have hr:=run_append_grow (P:=P) w t ty e' i z hu hi yX ⟨b,0,none⟩ es.length cap rows.flatten r2 (fun j v hj=>by rw[Dh];simp only[World.cell?,h3];exact(r4 j v hj).1) ad es2.length cap2 rows2.flatten q3 q6 (by omega) (by omega) (DQ_ (by omega) hb wT);exact⟨_,_,_,hr,fresh rows cap (.inl h4) r1 r2 r3⟩
end
end Go.Dm
end
