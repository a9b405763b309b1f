/- Parts of a proof, laid together: EnI. -/
import Derived.Laws.AppendOwn
import Derived.Laws.OwnMore
import Derived.Deep.DeepAppendWide
import Derived.Test.YtiojapdolljocaaGreatqBo5
set_option linter.unusedSimpArgs false
set_option maxHeartbeats 8000000
set_option linter.unusedVariables false
set_option linter.unusedSectionVars false
section
namespace Go.Dm
variable [DMode]
def upE (own:List Ent) (id r:Nat) (obj:DObj):List Ent:=⟨id,r,obj⟩::CC own id
def CG (loc:Nat->Loc) (id:Nat) (L:Loc):Nat->Loc:=fun j=>if j=id then L else loc j
theorem Bt {own:List Ent} {id:Nat} {e:Ent}:e∈CC own id↔e∈own/\e.id≠id:=by
 induction own with
 | nil=>simp[CC]
 | cons a t ih =>
  simp only[CC]
  split
  ·rename_i h;rw[ih,aJ0]
   constructor
   ·rintro⟨h1,h2⟩;exact⟨.inr h1,h2⟩
   ·rintro⟨rfl | h1,h2⟩
    ·exact absurd h h2
    ·exact⟨h1,h2⟩
  ·rename_i h;rw[aJ0,ih,aJ0]
   constructor
   ·rintro (rfl | ⟨h1,h2⟩)
    ·exact⟨.inl rfl,h⟩
    ·exact⟨.inr h1,h2⟩
   ·rintro⟨rfl | h1,h2⟩
    ·exact .inl rfl
    ·exact .inr ⟨h1,h2⟩
theorem DM {own:List Ent} {id:Nat} (h:(own.map (·.id)).Nodup):((CC own id).map (·.id)).Nodup:=by
 induction own with
 | nil=>simp[CC]
 | cons a t ih =>
  simp only[List.map_cons,cH0]at h;simp only[CC]
  split
  ·exact ih h.2
  ·simp only[List.map_cons,cH0];refine⟨fun hm=> ?_,ih h.2⟩;obtain⟨e,he,h1⟩:=aR0.1 hm;exact h.1 (aR0.2 ⟨e,(Bt.1 he).1,h1⟩)
theorem WF {α β:Type} {f g:α->List β}:∀{l:List α},(∀x∈l,f x=g x)->l.flatMap f=l.flatMap g
 | [],_=>rfl
 | a::l,h=>by
  rw[cT0,cT0,h a aH0,WF (fun x hx=>h x (aF0 _ hx))]
theorem PN {own:List Ent} {loc:Nat->Loc} {id:Nat} {L:Loc}:Aa (CC own id) (CG loc id L)=Aa (CC own id) loc:=by
 unfold Aa;refine WF fun e he=> ?_
 have:=(Bt.1 he).2;simp[CG,this]
theorem Ow {own:List Ent} {loc:Nat->Loc} {id:Nat} {b:Nat} (h:b∈Aa (CC own id) loc):∃e∈own,e.id≠id/\b∈(loc e.id).blks:=by
 obtain⟨e,he,h1⟩:=bQ0.1 h;have:=Bt.1 he;exact⟨e,this.1,this.2,h1⟩
theorem St.up {own:List Ent} {loc:Nat->Loc} {M0:List Nat} {w w':World} {id r:Nat} {obj:DObj} {L:Loc} {n:Nat}
  (S:St own loc M0 w.heap) (qF:w.heap.size<=w'.heap.size) (hLn:L.blks.Nodup)
  (jU:∀b,b<w.heap.size->(∀e∈own,e.id=id->b∉(loc id).blks)->w'.heap[b]? =w.heap[b]?)
  (hL:∀b,b∈L.blks->b<w'.heap.size/\((∃e∈own,e.id=id/\b∈(loc id).blks)\/w.heap.size<=b))
  (hr:n<=r\/Ad own loc id r=some L) (hn:FZ own<=n)
  (wO:Jd (Ad (upE own id r obj) (CG loc id L)) (Aa (upE own id r obj) (CG loc id L)++M0) w'.heap L obj) :
  St (upE own id r obj) (CG loc id L) M0 w'.heap/\(∀b∈Aa (upE own id r obj) (CG loc id L),b∈Aa own loc\/w.heap.size<=b) /\
   (∀e∈upE own id r obj,e.r<n->Ad own loc e.id e.r=some (CG loc id L e.id))/\(∀b,b<w.heap.size->b∉Aa own loc->w'.heap[b]? =w.heap[b]?):=by
 have wZ:∀b∈Aa (upE own id r obj) (CG loc id L),b∈Aa own loc\/w.heap.size<=b:=by
  intro b hb;obtain⟨e,he,h1⟩:=bQ0.1 hb
  rcases aJ0.1 he with rfl | he
  ·simp only[CG,if_true]at h1
   rcases (hL b h1).2 with ⟨e,he,hid,h2⟩ | h2
   ·exact .inl (AZ he (by rw[hid];exact h2))
   ·exact .inr h2
  ·have:=Bt.1 he;simp only[CG,if_neg this.2]at h1;exact .inl (AZ this.1 h1)
 have vC:∀e∈upE own id r obj,e.r<n->Ad own loc e.id e.r=some (CG loc id L e.id):=by
  intro e he qV
  rcases aJ0.1 he with rfl | he
  ·simp only[CG,if_true]
   rcases hr with h | h
   ·simp only at qV;omega
   ·exact h
  ·have:=Bt.1 he;simp only[CG,if_neg this.2];exact AG S.nd this.1
 have hblk:∀b,b<w.heap.size->b∉Aa own loc->w'.heap[b]? =w.heap[b]? :=fun b hb dA=>jU b hb (fun e he hid h=>dA (AZ he (by rw[hid];exact h)))
 refine⟨⟨?_,?_,?_,?_,?_⟩,wZ,vC,hblk⟩
 ·simp only[upE,List.map_cons,cH0];refine⟨fun hm=> ?_,DM S.nd⟩;obtain⟨e,he,h1⟩:=aR0.1 hm;exact(Bt.1 he).2 h1
 ·unfold upE;rw[DE,PN,bS0];simp only[CG,if_true];refine⟨hLn,DD S.bl _ (DM S.nd) (fun e he=>(Bt.1 he).1),?_⟩;intro b hb b' qG gF;subst gF;obtain⟨e,he,qE,h1⟩:=Ow qG
  rcases (hL b hb).2 with ⟨e2,vA,hid,h2⟩ | h2
  ·have:=Fk S.bl e he e2 vA b h1 (by rw[hid];exact h2);subst this;exact qE hid
  ·have:=S.lt b (aL0 _ (AZ he h1));omega
 ·intro b hb hm
  rcases wZ b hb with h | h
  ·exact S.ap b h hm
  ·have:=S.lt b (aP0 _ hm);omega
 ·intro b hb
  rcases aI0.1 hb with h | h
  ·obtain⟨e,he,h1⟩:=bQ0.1 h
   rcases aJ0.1 he with rfl | he
   ·simp only[CG,if_true]at h1;exact(hL b h1).1
   ·have:=Bt.1 he;simp only[CG,if_neg this.2]at h1;exact cG0 (S.lt b (aL0 _ (AZ this.1 h1))) qF
  ·exact cG0 (S.lt b (aP0 _ h)) qF
 ·intro e he
  rcases aJ0.1 he with rfl | he
  ·simpa[CG]using wO
  ·have qY:=Bt.1 he;simp only[CG,if_neg qY.2];have hU:Upd (Aa own loc) w ⟨w'.heap,w.tape,w.drawn,w.os,w.output⟩:=⟨rfl,rfl,rfl,fun _=>Nat.le_refl _,qF,hblk⟩
   have W:Weak (Ad own loc) (Ad (upE own id r obj) (CG loc id L)) (Aa own loc++M0) (Aa (upE own id r obj) (CG loc id L)++M0) w.heap w'.heap n :=
    Et (w':=⟨w'.heap,w.tape,w.drawn,w.os,w.output⟩) hU wZ vC
   have vU:=(Bi qY.1).2
   have keep:∀b o,b∈(loc e.id).blks->w.heap[b]? =some o->w'.heap[b]? =some o:=by
    intro b o hb ho;rw[jU b (aC0.1 ho).1 (fun e2 vA hid h2=> ?_)]
    ·exact ho
    ·have:=Fk S.bl e qY.1 e2 vA b hb (by rw[hid];exact h2);subst this;exact qY.2 hid
   exact Bd W (by omega) keep (S.ok e qY.1)
section
variable {P : Program} {B : Base} {s : DS} {a : Act} {w : World} {loc : Nat -> Loc}
def BU (B:Base) (s:DS):Nat:=max B.N (max (Jp s.slots) (FZ s.own))
theorem Rel.up {w':World} {id r:Nat} {obj:DObj} {L:Loc} {v:Value} {d:DVal} {dst:Option Nat} {n:Nat}
  (R:Rel B s a w loc) (qB:BU B s<=n) (qH:∀i,dst=some i->i<B.nt) (hw:Upd (Aa s.own loc) w w')
  (jU:∀b,b<w.heap.size->(∀e∈s.own,e.id=id->b∉(loc id).blks)->w'.heap[b]? =w.heap[b]?)
  (hL:∀b,b∈L.blks->b<w'.heap.size/\((∃e∈s.own,e.id=id/\b∈(loc id).blks)\/w.heap.size<=b))
  (hr:n<=r\/Ad s.own loc id r=some L)
  (wO:Jd (Ad (upE s.own id r obj) (CG loc id L)) (Aa (upE s.own id r obj) (CG loc id L)++B.M0) w'.heap L obj)
  (hd:rd (Ad (upE s.own id r obj) (CG loc id L)) (Aa (upE s.own id r obj) (CG loc id L)++B.M0) w'.heap d v) (hLn:L.blks.Nodup:=by simp) :
  Rel B ⟨Bs s.slots dst d,upE s.own id r obj⟩ (a.put dst v) w' (CG loc id L):=by
 unfold BU at qB;obtain⟨h1,h2,h3,_⟩:=R.st.up hw.size hLn jU hL hr (by omega) wO;exact R.step (n:=n) (by omega) (by omega) qH h1 hw h2 h3 hd
theorem Rel.weakUp {w':World} {id r:Nat} {obj:DObj} {L:Loc} {n:Nat} (R:Rel B s a w loc) (qB:BU B s<=n) (hw:Upd (Aa s.own loc) w w')
  (hL:∀b,b∈L.blks->b<w'.heap.size/\((∃e∈s.own,e.id=id/\b∈(loc id).blks)\/w.heap.size<=b))
  (hr:n<=r\/Ad s.own loc id r=some L):Weak (cu s loc) (Ad (upE s.own id r obj) (CG loc id L)) (hm s loc B.M0) (Aa (upE s.own id r obj) (CG loc id L)++B.M0) w.heap w'.heap n:=by
 refine Et hw ?_ ?_
 ·intro b hb;obtain⟨e,he,h1⟩:=bQ0.1 hb
  rcases aJ0.1 he with rfl | he
  ·simp only[CG,if_true]at h1
   rcases (hL b h1).2 with ⟨e,he,hid,h2⟩ | h2
   ·exact .inl (AZ he (by rw[hid];exact h2))
   ·exact .inr h2
  ·have:=Bt.1 he;simp only[CG,if_neg this.2]at h1;exact .inl (AZ this.1 h1)
 ·intro e he qV
  rcases aJ0.1 he with rfl | he
  ·simp only[CG,if_true]
   rcases hr with h | h
   ·simp only at qV;omega
   ·exact h
  ·have:=Bt.1 he;simp only[CG,if_neg this.2];exact AG R.st.nd this.1
theorem Dk (id r:Nat) (obj:DObj) (own:List Ent) (loc:Nat->Loc) (L:Loc):Ad (upE own id r obj) (CG loc id L) id r=some L:=by
 simp[Ad,upE,Aj,CG]
theorem Gv {cur:Er} {M:List Nat} {H:Array Obj}:∀(cs:List DVal) (us pre post:List Value),Au cur M H cs us->(∀u∈us,u.oneCell'=true)->Dz cur M H cs (pre++us++post).toArray pre.length
 | [],_,_,_,_,_=>by simp[Dz]
 | d::ds,us,pre,post,hr,ho=>by
  simp only[Au]at hr;obtain⟨v,r,rfl,h1,h2⟩:=hr;simp only[Dz];refine⟨⟨v,by simp,ho v aH0,h1⟩,?_⟩;have:=Gv ds r (pre++[v]) post h2 (fun u hu=>ho u (aF0 _ hu));simpa using this
theorem Upd.alloc' (H:List Nat) (w:World) (o:Obj):Upd H w (w.alloc o):=Upd.alloc H w o
theorem Rel.newBox {id n:Nat} {cs:List DVal} {us:List Value} {ty:TypeId} {dst:Option Nat} (R:Rel B s a w loc) (qB:BU B s<=n) (vU:AH cs<=n) (qH:∀i,dst=some i->i<B.nt)
  (vO:Au (cu s loc) (hm s loc B.M0) w.heap cs us) (qD:∀u∈us,u.oneCell'=true) :
  Rel B ⟨Bs s.slots dst (.bx id n 0),upE s.own id n (.box cs)⟩ (a.put dst (.pointer (some ⟨w.heap.size,0,none⟩))) (w.alloc (.cells us.toArray ty)) (CG loc id ⟨[w.heap.size],Go.undef⟩):=by
 have hw:=Upd.alloc' (Aa s.own loc) w (.cells us.toArray ty)
 have hL:∀b,b∈(⟨[w.heap.size],Go.undef⟩:Loc).blks->b<(w.alloc (.cells us.toArray ty)).heap.size/\((∃e∈s.own,e.id=id/\b∈(loc id).blks)\/w.heap.size<=b):=by
  intro b hb;simp only[aE0]at hb;subst hb;exact⟨by simp,.inr (Nat.le_refl _)⟩
 have W:=R.weakUp (obj:= .box cs) qB hw hL (.inl (Nat.le_refl _));refine R.up qB qH hw (fun b hb _=>by simp only[World.alloc,bO0];rw[if_neg (by omega)]) hL (.inl (Nat.le_refl _)) ?_ ?_
 ·refine⟨w.heap.size,us.toArray,ty,rfl,heap_alloc_new w _,by have:=Ap _ _ vO;simpa using this,?_⟩;have:=Gv cs us [] [] (AQ W cs us vU vO) qD;simpa using this
 ·simp only[rd];intro l hl;rw[Dk]at hl;simp only[aA0]at hl;subst hl;exact⟨_,rfl,rfl⟩
theorem KY {b off:Nat} {arr:Array Value} {ty t:TypeId} {v:Value} (hh:w.heap[b]? =some (.cells arr ty (0,0))) (hc:tCells P t=some v.cells.size) (vL:off+v.cells.size<=arr.size) (qD:∀u∈v.cells.toList,u.oneCell'=true) :
  (Instr.storeAt t (.pointer (some ⟨b,off,none⟩)) v).run P w= .ok () (w.setRow b (arr.toList.take off++v.cells.toList++arr.toList.drop (off+v.cells.size)).toArray):=by
 have qK:=run_storeCells_at P b off ty v.cells.toList 0 arr w hh (by simpa using vL) qD;simp only[dN0,bI0]at qK;simp[Instr.storeAt,Instr.sureAddr,storeVar,BE hc,qK]
theorem Upd.setRow {own:List Ent} {loc:Nat->Loc} {e:Ent} {b:Nat} (he:e∈own) (hb:b∈(loc e.id).blks) (w:World) (cs:Array Value):Upd (Aa own loc) w (w.setRow b cs) :=
 ⟨rfl,rfl,rfl,fun _=>Nat.le_refl _,by simp,fun b' _ hn=>setRow_other w b b' cs (fun h=>hn (by rw[h];exact AZ he hb))⟩
theorem CJ {cur:Er} {M:List Nat} {H:Array Obj}:∀(cs:List DVal) (arr arr':Array Value) (o o':Nat),(∀j,j<cs.length->arr'[o'+j]? =arr[o+j]?)->Dz cur M H cs arr o->Dz cur M H cs arr' o'
 | [],_,_,_,_,_,_=>by simp[Dz]
 | d::cs,arr,arr',o,o',h,hr=>by
  simp only[Dz]at hr |-;obtain⟨⟨v,h1,h2,h3⟩,h4⟩:=hr;refine⟨⟨v,by have:=h 0 (by simp);simp only[dN0]at this;rw[this];exact h1,h2,h3⟩,CJ cs arr arr' (o+1) (o'+1) (fun j hj=> ?_) h4⟩;have:=h (j+1) (by simp;omega)
  rwa[show o'+(j+1)=o'+1+j by omega,show o+(j+1)=o+1+j by omega]at this
theorem Ld {cur:Er} {M:List Nat} {H:Array Obj}:∀(a b:List DVal) (arr:Array Value) (o:Nat),Dz cur M H a arr o->Dz cur M H b arr (o+a.length)->Dz cur M H (a++b) arr o
 | [],b,arr,o,_,h=>by simpa using h
 | d::a,b,arr,o,h1,h2=>by
  simp only[Dz,List.cons_append]at h1 |-;refine⟨h1.1,Ld a b arr (o+1) h1.2 ?_⟩;simpa[cR0,Nat.add_comm 1]using h2
theorem HF : ∀(a b:List DVal),AH (a++b)=max (AH a) (AH b)
 | [],b=>by simp[AH]
 | d::a,b=>by simp only[List.cons_append,AH,HF a b];omega
theorem Ln : ∀(n:Nat) (a:List DVal),AH (a.take n)<=AH a
 | 0,a=>by simp[AH]
 | n+1,[]=>by simp[AH]
 | n+1,d::a=>by simp only[cF0,AH];have:=Ln n a;omega
theorem Eb : ∀(n:Nat) (a:List DVal),AH (a.drop n)<=AH a
 | 0,a=>by simp
 | n+1,[]=>by simp
 | n+1,d::a=>by simp only[dP0,AH];have:=Eb n a;omega
theorem Jh (cells:List DVal) (off:Nat) (cs:List DVal):AH (Dg cells off cs)<=max (AH cells) (AH cs):=by
 unfold Dg;rw[HF,HF];have:=Ln off cells;have:=Eb (off+cs.length) cells;omega
theorem Nq (l:List (Nat×DVal)) (x:Operand):mx (ev l x)<=Jp l:=by
 cases x with
 | tmp t=>exact Om l t
 | const v =>
  have h1:∀v,mx (BQ v)=0:=by
   intro v;unfold BQ
   split<;>(try split)<;>simp[mx]
  simp only[ev,ofV]
  split
  ·rename_i cs;simp only[mx]
   have:∀l:List Value,AH (l.map BQ)=0:=by
    intro l
    induction l with
    | nil=>simp[AH]
    | cons v l ih=>simp[AH,h1,ih]
   rw[this];omega
  ·rw[h1];omega
 | global g=>simp[ev,mx]
 | func f=>simp[ev,mx,AH]
theorem Cy (d:DVal):AH (AD d)=mx d:=by
 cases d<;>simp[AD,mx,AH]
theorem Oo {n:Nat}:∀{l:List (List DVal)},(∀d∈l,AH d<=n)->Bo l<=n
 | [],_=>by simp[Bo]
 | x::l,h=>by
  simp only[Bo];have:=h x aH0;have:=Oo (l:=l) fun d hd=>h d (aF0 _ hd)
  omega
theorem AN {own:List Ent} {id:Nat} {e:Ent} (h:Aj own id=some e):e∈own/\e.id=id:=AA h
theorem Rel.storeBox {id r off n:Nat} {cs:List DVal} {e:Ent} {d:DVal} {t:TypeId} {v:Value} {ad:Value} (R:Rel B s a w loc) (he:Aj s.own id=some e) (qS:e.r=r) (qO:e.obj= .box cs)
  (ha:Bb s loc B.M0 w (.bx id r off) ad) (hd:Bb s loc B.M0 w d v) (hp:Cq s.own d=true) (hc:tCells P t=some (AD d).length) (vL:off+(AD d).length<=cs.length) (vU:mx d<=Jp s.slots) (hn:BU B s<=n) :
  ∃w',(Instr.storeAt t ad v).run P w= .ok () w'/\Rel B ⟨s.slots,upE s.own id r (.box (Dg cs off (AD d)))⟩ a w' (CG loc id (loc id)):=by
 obtain⟨qY,hid⟩:=AN he;have hk:=R.st.ok e qY;rw[qO]at hk;obtain⟨b,arr,ty,h1,h2,h3,h4⟩:=hk;rw[hid]at h1;have qL:Ad s.own loc id r=some (loc id):=by unfold Ad;rw[he];simp[qS]
 simp only[Bb,rd]at ha;obtain⟨b',qG,rfl⟩:=ha _ qL;have qR:b∈(loc id).blks:=by rw[h1];simp
 rw[h1]at qG;simp only[bG0,and_true]at qG;subst qG;obtain⟨hcv,qD⟩:=Hj R.st hp hd;have fO:=Ap _ _ hcv;simp only[bI0]at fO;have qM:=KY (P:=P) (w:=w) (b:=b) (off:=off) (t:=t) (v:=v) h2 (by rw[hc,fO]) (by omega) qD;refine⟨_,qM,?_⟩;have hw:Upd (Aa s.own loc) w (w.setRow b (arr.toList.take off++v.cells.toList++arr.toList.drop (off+v.cells.size)).toArray):=Upd.setRow qY (by rw[hid];exact qR) w _
 have hL:∀b0,b0∈(loc id).blks->b0<(w.setRow b (arr.toList.take off++v.cells.toList++arr.toList.drop (off+v.cells.size)).toArray).heap.size/\((∃e∈s.own,e.id=id/\b0∈(loc id).blks)\/w.heap.size<=b0):=by
  intro b0 qC;refine⟨?_,.inl ⟨e,qY,hid,qC⟩⟩;rw[h1]at qC;simp only[aE0]at qC;subst qC;have:=(aC0.1 h2).1;simpa using this
 have W:=R.weakUp (obj:= .box (Dg cs off (AD d))) hn hw hL (.inr qL);have vQ:=(Bi qY).2;rw[qO]at vQ;simp only[Ez]at vQ;unfold BU at hn;refine R.up (hLn:=by rw[h1];simp) (dst:=none) (v:=Go.undef) (d:= .any) (n:=n) (by unfold BU;exact hn) (fun i hi=>by simp at hi) hw ?_ hL (.inr qL) ?_ (by simp[rd])
 ·intro b0 qC qE;refine setRow_other w b b0 _ (fun h=>qE e qY hid ?_);rw[h];exact qR
 ·refine⟨b,_,ty,h1,setRow_heap w b arr _ ty (0,0) h2,?_,?_⟩
  ·simp[Dg,h3,<-fO]
  ·unfold Dg;have l1:(arr.toList.take off).length=off:=by simp;omega
   refine Ld _ _ _ _ (Ld _ _ _ _ ?_ ?_) ?_
   ·refine CJ _ arr _ 0 0 (fun j hj=> ?_) (Lc off _ _ _ (EL W cs arr 0 (by omega) h4));have kE:j<off:=by simp at hj;omega
    simp only[bN0,dG0,aT0];rw[aV0 (by omega),bL0 kE];simp
   ·have wT:=Gv (AD d) v.cells.toList (arr.toList.take off) (arr.toList.drop (off+v.cells.size)) (AQ W _ _ (by rw[Cy];omega) hcv) qD;have e1:0+(cs.take off).length=(arr.toList.take off).length:=by simp;omega
    rw[e1];exact wT
   ·have hdr:=EM (off+(AD d).length) cs arr 0 (EL W cs arr 0 (by omega) h4);have e1:0+(cs.take off++AD d).length=0+(off+(AD d).length):=by simp;omega
    rw[e1];refine CJ _ arr _ _ _ (fun j hj=> ?_) hdr;simp only[bN0,dG0];rw[aX0 (by simp;omega),cJ0];have e2:off+(AD d).length+j-(arr.toList.take off++v.cells.toList).length=j:=by simp;omega
    rw[e2,fO];simp
theorem EK {cur:Er} {M:List Nat} {H:Array Obj} (k:Nat):∀(es:List (List DVal)) (arr:Array Value) (o:Nat),Em cur M H k es arr o ->
  ∃rows:List (List Value),rows.length=es.length/\rows.flatten.length=es.length*k/\(∀(i:Nat) (cs:List DVal) (us:List Value),es[i]? =some cs->rows[i]? =some us->cs.length=k/\Au cur M H cs us/\∀u∈us,u.oneCell'=true) /\
   (∀j v,rows.flatten[j]? =some v->arr[o+j]? =some v/\v.oneCell'=true)
 | [],arr,o,_=>⟨[],rfl,by simp,by simp,by simp⟩
 | c::es,arr,o,hr=>by
  simp only[Em]at hr;obtain⟨h1,h2,h3⟩:=hr;obtain⟨vs,g1,g2,g3⟩:=GR c arr o h2;obtain⟨rows,k1,k2,k3,k4⟩:=EK k es arr (o+k) h3;refine⟨vs::rows,by simp[k1],by simp only[eM0,aB0,k2,List.length_cons,bR0];omega,?_,?_⟩
  ·intro i cs us hi hu
   cases i with
   | zero =>
    simp only[aZ0,aA0]at hi hu;subst hi;subst hu;refine⟨h1,g2,fun u hu=> ?_⟩;obtain⟨j,hj,rfl⟩:=bW0 hu;exact(g3 j _ (aD0 hj)).2
   | succ i=>exact k3 i cs us (by simpa using hi) (by simpa using hu)
  ·intro j v hj;simp only[eM0]at hj
   by_cases qV:j<vs.length
   ·rw[aV0 qV]at hj;exact g3 j v hj
   ·rw[aX0 (by omega)]at hj;have:=k4 _ v hj
    rwa[show o+k+(j-vs.length)=o+j by omega]at this
theorem TC {cur:Er} {M:List Nat} {H:Array Obj} (k:Nat) (es:List (List DVal)) (rows:List (List Value)) (post:List Value) (hl:rows.length=es.length)
  (h:∀(i:Nat) (cs:List DVal) (us:List Value),es[i]? =some cs->rows[i]? =some us->cs.length=k/\Au cur M H cs us/\∀u∈us,u.oneCell'=true):Em cur M H k es (rows.flatten++post).toArray 0:=by
 have key:∀(es:List (List DVal)) (rows:List (List Value)) (pre:List Value),rows.length=es.length ->
   (∀(i:Nat) (cs:List DVal) (us:List Value),es[i]? =some cs->rows[i]? =some us->cs.length=k/\Au cur M H cs us/\∀u∈us,u.oneCell'=true)->Em cur M H k es (pre++rows.flatten++post).toArray pre.length:=by
  intro es
  induction es with
  | nil=>intros;simp[Em]
  | cons c es ih =>
   intro rows pre hl h
   cases rows with
   | nil=>simp at hl
   | cons u rows =>
    have h0:=h 0 c u (by simp) (by simp);have qU:=Ap _ _ h0.2.1;simp only[Em];refine⟨h0.1,?_,?_⟩
    ·have:=Gv c u pre (rows.flatten++post) h0.2.1 h0.2.2;simpa using this
    ·have:=ih rows (pre++u) (by simpa using hl) (fun i cs us h1 h2=>h (i+1) cs us (by simpa using h1) (by simpa using h2));have e:(pre++u).length=pre.length+k:=by simp[qU,h0.1]
     rw[e]at this;simpa using this
 simpa using key es rows [] hl h
theorem Br : ∀(a b:List (List DVal)),Bo (a++b)=max (Bo a) (Bo b)
 | [],b=>by simp[Bo]
 | d::a,b=>by simp only[List.cons_append,Bo,Br a b];omega
def Iy (own:List Ent) (d:DVal):Option (Nat×List (List DVal)) :=
 match d with
 | .nilsl=>some (0,[])
 | .esl=>some (0,[])
 | d=>(Ba own d).map fun x=>(x.1,x.2.2)
theorem FH : ∀(m:Nat) (l:List (List DVal)),Bo (l.drop m)<=Bo l
 | 0,l=>by simp
 | m+1,[]=>by simp
 | m+1,d::l=>by simp only[dP0,Bo];have:=FH m l;omega
theorem FG : ∀(m:Nat) (l:List (List DVal)),Bo (l.take m)<=Bo l
 | 0,l=>by simp[Bo]
 | m+1,[]=>by simp
 | m+1,d::l=>by simp only[cF0,Bo];have:=FG m l;omega
theorem Mp {own:List Ent} {d:DVal} {k bs:Nat} {es:List (List DVal)} (h:Ba own d=some (k,bs,es)):Bo es<=max (mx d) (FZ own):=by
 unfold Ba at h
 split at h
 ·simp only[aA0,aS0]at h;obtain⟨_,_,rfl⟩:=h;simp only[mx];omega
 ·split at h
  ·rename_i e he
   split at h
   ·split at h
    ·rename_i qO;simp only[aA0,aS0]at h;obtain⟨_,_,rfl⟩:=h;have:=(Bi (AN he).1).2;rw[qO]at this;simp only[Ez]at this;omega
    ·simp at h
   ·simp at h
  ·simp at h
 ·split at h
  ·rename_i e he
   split at h
   ·split at h
    ·rename_i qO
     split at h
     ·simp only[aA0,aS0]at h;obtain⟨_,_,rfl⟩:=h;have:=(Bi (AN he).1).2;rw[qO]at this;simp only[Ez]at this;exact Nat.le_trans (FG _ _) (Nat.le_trans (FH _ _) (by omega))
     ·simp at h
    ·simp at h
   ·simp at h
  ·simp at h
 ·simp at h
theorem uV (S:St s.own loc B.M0 w.heap) {d:DVal} {v:Value} {k:Nat} {es:List (List DVal)} (hd:Bb s loc B.M0 w d v) (h:Iy s.own d=some (k,es)) :
  ∃(rows:List (List Value)),rows.length=es.length/\(∀(i:Nat) (cs:List DVal) (us:List Value),es[i]? =some cs->rows[i]? =some us->cs.length=k/\Au (cu s loc) (hm s loc B.M0) w.heap cs us/\∀u∈us,u.oneCell'=true) /\
   rows.flatten.length=es.length*k/\(∀u∈rows.flatten,u.oneCell'=true)/\es.length<=maxLen /\
   ((es=[]/\∃x cap,v= .slice x 0 cap)\/∃ad cap,v= .slice (some ad) es.length cap/\∀j u,rows.flatten[j]? =some u->w.cell? (ad.add j)=some u):=by
 unfold Iy at h;have gen:∀bs,Ba s.own d=some (k,bs,es)->_:=fun bs hr=>Jl (k:=k) (bs:=bs) (es:=es) S hd hr
 have fin:(Ba s.own d).map (fun x=>(x.1,x.2.2))=some (k,es)->∃(rows:List (List Value)),rows.length=es.length/\(∀(i:Nat) (cs:List DVal) (us:List Value),es[i]? =some cs->rows[i]? =some us->cs.length=k/\Au (cu s loc) (hm s loc B.M0) w.heap cs us/\∀u∈us,u.oneCell'=true) /\
   rows.flatten.length=es.length*k/\(∀u∈rows.flatten,u.oneCell'=true)/\es.length<=maxLen /\
   ((es=[]/\∃x cap,v= .slice x 0 cap)\/∃ad cap,v= .slice (some ad) es.length cap/\∀j u,rows.flatten[j]? =some u->w.cell? (ad.add j)=some u):=by
  intro vV;rw[bA0]at vV;obtain⟨⟨k',bs,es'⟩,hr,he⟩:=vV;simp only[aS0]at he;obtain⟨rfl,rfl⟩:=he;obtain⟨x,cap,rfl,h2,h3,h4,h5⟩:=Jl S hd hr
  rcases h5 with rfl | ⟨b,off,arr,ty,fz,rfl,g2,g3⟩
  ·exact⟨[],rfl,by simp,by simp,by simp,dB0 _,.inl ⟨rfl,_,_,rfl⟩⟩
  ·obtain⟨rows,r1,r2,r3,r4⟩:=EK k' es' arr off g3;refine⟨rows,r1,r3,r2,?_,by omega,.inr ⟨_,cap,rfl,?_⟩⟩
   ·intro u hu;obtain⟨j,hj,rfl⟩:=bW0 hu;exact(r4 j _ (aD0 hj)).2
   ·intro j u hj;rw[Da];simp only[World.cell?,g2];exact(r4 j u hj).1
 split at h
 ·simp only[aA0,aS0]at h;obtain⟨rfl,rfl⟩:=h;simp only[Bb,rd]at hd;subst hd;exact⟨[],rfl,by simp,by simp,by simp,dB0 _,.inl ⟨rfl,_,_,rfl⟩⟩
 ·simp only[aA0,aS0]at h;obtain⟨rfl,rfl⟩:=h;simp only[Bb,rd]at hd;obtain⟨ad,cap,rfl,_⟩:=hd;exact⟨[],rfl,by simp,by simp,by simp,dB0 _,.inl ⟨rfl,_,_,rfl⟩⟩
 ·exact fin h
def tElemId (P:Program) (t:TypeId):Option TypeId:=match P.underlying t with | some (.slice e)=>some e | _=>none
def zeroOK (P:Program) (t:TypeId):Bool:=match P.underlying t with
 | some (.slice e)=>match P.info? e with
  | some i=>match i.zero with | some z=>z.cells.size==i.size | none=>false
  | none=>false
 | _=>false
theorem DI {t ty e:TypeId} {i:TypeInfo} (hu:P.underlying t=some (.slice e)) (hi:P.info? e=some i) {x y:Option Addr} {m cap cap2:Nat} (vV:m<=cap) :
  (Builtin.append_ #[t,t] ty #[.slice y m cap,.slice x 0 cap2]).run P w= .ok (.slice y m cap) w:=by
 cases x<;>cases y<;>simp[Builtin.append_,run_underlying hu,sizeOf,typeInfo,hi,Builtin.lenOf,Builtin.firstCells,vV,storeCells,loadCells,loadCellsFrom]
theorem GJ {arr:Array Value} {rows:List (List Value)} {m:Nat} (hl:rows.flatten.length=m) (h:∀j v,rows.flatten[j]? =some v->arr[0+j]? =some v/\v.oneCell'=true) (vV:m<=arr.size):arr.toList.take m=rows.flatten:=by
 apply eN0
 intro j
 by_cases hj:j<m
 ·rw[bL0 hj];have kE:j<rows.flatten.length:=by omega
  have:=(h j _ (aD0 kE)).1;rw[bN0]at this;rw[aD0 kE,<-this];simp
 ·rw[List.getElem?_eq_none (by simp;omega),List.getElem?_eq_none (by omega)]
theorem Lt {cur:Er} {M:List Nat} {H:Array Obj} {k:Nat} {es es2:List (List DVal)} {rows rows2:List (List Value)} (l1:rows.length=es.length) (l2:rows2.length=es2.length)
  (h1:∀(i:Nat) (cs:List DVal) (us:List Value),es[i]? =some cs->rows[i]? =some us->cs.length=k/\Au cur M H cs us/\∀u∈us,u.oneCell'=true)
  (h2:∀(i:Nat) (cs:List DVal) (us:List Value),es2[i]? =some cs->rows2[i]? =some us->cs.length=k/\Au cur M H cs us/\∀u∈us,u.oneCell'=true) (post:List Value) :
  Em cur M H k (es++es2) (rows.flatten++rows2.flatten++post).toArray 0:=by
 rw[<-List.flatten_append];refine TC k _ _ _ (by simp[l1,l2]) ?_;intro i cs us hc hu
 by_cases hi:i<es.length
 ·rw[aV0 hi]at hc;rw[aV0 (by omega)]at hu;exact h1 i cs us hc hu
 ·rw[aX0 (by omega)]at hc;rw[aX0 (by omega)]at hu;rw[l1]at hu;exact h2 _ cs us hc hu
theorem DP {cur cur':Er} {M M':List Nat} {H H':Array Obj} {n k:Nat} (W:Weak cur cur' M M' H H' n) {es:List (List DVal)} {rows:List (List Value)} (vV:Bo es<=n)
  (h:∀(i:Nat) (cs:List DVal) (us:List Value),es[i]? =some cs->rows[i]? =some us->cs.length=k/\Au cur M H cs us/\∀u∈us,u.oneCell'=true) :
  ∀(i:Nat) (cs:List DVal) (us:List Value),es[i]? =some cs->rows[i]? =some us->cs.length=k/\Au cur' M' H' cs us/\∀u∈us,u.oneCell'=true:=by
 intro i cs us hc hu;obtain⟨g1,g2,g3⟩:=h i cs us hc hu;refine⟨g1,AQ W cs us ?_ g2,g3⟩
 have:∀(l:List (List DVal)) (i:Nat),l[i]? =some cs->AH cs<=Bo l:=by
  intro l
  induction l with
  | nil=>intro i h;simp at h
  | cons c l ih =>
   intro i h
   cases i with
   | zero=>simp only[aZ0,aA0]at h;subst h;simp only[Bo];omega
   | succ i=>have:=ih i (by simpa using h);simp only[Bo];omega
 have:=this es i hc;omega
def oE (s:DS) (loc:Nat->Loc) (w:World) (M0:List Nat) (id:Nat) (et k bs:Nat) (es:List (List DVal)) (dv:Value):Prop :=
 (es=[]/\dv= .slice none 0 0) \/
 ∃e0∈s.own,e0.id=id/\∃b arr cap,(loc id).blks=[b]/\dv= .slice (some ⟨b,0,none⟩) es.length cap/\w.heap[b]? =some (.cells arr et (0,0))/\es.length<=cap/\cap<=maxLen/\cap*k=arr.size/\Em (cu s loc) (hm s loc M0) w.heap k es arr 0
theorem pK (S:St s.own loc B.M0 w.heap) {id r et k bs:Nat} {es:List (List DVal)} {e0:Ent} {dv:Value} (he:Aj s.own id=some e0) (qS:e0.r=r) (qO:e0.obj= .row et k bs es) (hd:Bb s loc B.M0 w (.osl id r) dv):oE s loc w B.M0 id et k bs es dv:=by
 obtain⟨qY,hid⟩:=AN he;have hk:=S.ok e0 qY;rw[qO]at hk;obtain⟨_,hk⟩:=hk;simp only[Bb,rd]at hd;have hv:=hd (loc id) (by show Ad _ _ _ _=_;unfold Ad;rw[he];simp[qS]);rw[hid]at hk
 rcases hk with ⟨h1,h2,h3⟩ | ⟨b,arr,cap,h1,h2,h3,h4,h5,h6,h7⟩
 ·exact .inl ⟨h1,by rw[hv,h3]⟩
 ·exact .inr ⟨e0,qY,hid,b,arr,cap,h1,by rw[hv,h2],h3,h4,h5,h6,h7⟩
theorem DI_ {need old bs:Nat} (h:old<need) (hb:need*bs<=150000000000000) (h2:bs<=65536):Builtin.nextslicecap need old*bs<=281474976710656:=by
 refine growslice_fits_wide h ?_
 have h3:need/4*bs*4<=need*bs:=by
  rw[Nat.mul_right_comm];exact aY0 _ (Nat.div_mul_le_self need 4)
 have h4:192*bs<=192*65536:=dT0 _ h2;rw[bR0,bR0];omega
theorem Rel.append {id n:Nat} {t ty e:TypeId} {k bs k2:Nat} {es es2:List (List DVal)} {sd:DVal} {dv sv:Value} {dst:Option Nat} (R:Rel B s a w loc) (qB:BU B s<=n) (qH:∀i,dst=some i->i<B.nt)
  (ht:tElem P t=some (k,bs)) (zC:tElemId P t=some e) (hz:zeroOK P t=true) (hk:0<k) (wN:oE s loc w B.M0 id e k bs es dv) (jW:Bo es<=n)
  (hsv:Bb s loc B.M0 w sd sv) (wG:Iy s.own sd=some (k2,es2)) (zD:k2=k\/es2=[]) (kN:Bo es2<=n) (hb:(es.length+es2.length)*bs<=150000000000000) (vX:bs<=65536) (hl:es.length+es2.length<=maxLen) :
  ∃v' w' L,(Builtin.append_ #[t,t] ty #[dv,sv]).run P w= .ok v' w'/\Rel B ⟨Bs s.slots dst (.osl id n),upE s.own id n (.row e k bs (es++es2))⟩ (a.put dst v') w' (CG loc id L):=by
 obtain⟨e',i,hu,hi,qF,hby,_⟩:=Bw ht;have hee:e'=e:=by unfold tElemId at zC;rw[hu]at zC;simpa using zC
 subst hee
 obtain⟨z,zR,hzs⟩:∃z,i.zero=some z/\z.cells.size=k:=by
  unfold zeroOK at hz;rw[hu]at hz;simp only[hi]at hz
  cases hq:i.zero with
  | none=>simp[hq]at hz
  | some z=>simp only[hq,beq_iff_eq]at hz;exact⟨z,rfl,by rw[hz,qF]⟩
 obtain⟨rows2,q1,q2,q3,q4,q5,q6⟩:=uV (B:=B) R.st hsv wG;have zN:(es++es2).length*bs<=150000000000000:=by simpa using hb
 have mx12:Bo (es++es2)<=n:=by rw[Br];omega
 -- what the slot reads at the end
 have rdEnd:∀(L:Loc) (h:Array Obj) (obj:DObj),rd (Ad (upE s.own id n obj) (CG loc id L)) (Aa (upE s.own id n obj) (CG loc id L)++B.M0) h (.osl id n) L.hdr:=by
  intro L h obj;simp only[rd];intro l wY;rw[Dk]at wY;simp only[aA0]at wY;rw[wY]
 rcases q6 with ⟨rfl,x,cap2,rfl⟩ | ⟨ad,cap2,rfl,q6⟩
 ·-- nothing is appended
  rw[bX0]at *
  rcases wN with ⟨rfl,rfl⟩ | ⟨e0,qY,hid,b,arr,cap,kU,rfl,h3,h4,h5,h6,h7⟩
  ·refine⟨_,w,⟨[],.slice none 0 0⟩,DI hu hi (Nat.le_refl _),?_⟩;refine R.up (L:=⟨[],.slice none 0 0⟩) qB qH (Upd.refl _ _) (fun b hb _=>rfl) (fun b hb=>by simp at hb) (.inl (Nat.le_refl _)) ⟨by simp,.inl ⟨rfl,rfl,rfl⟩⟩ (rdEnd ⟨[],.slice none 0 0⟩ _ _)
  ·have h1:b∈(loc id).blks:=by rw[kU];simp
   refine⟨_,w,⟨[b],.slice (some ⟨b,0,none⟩) es.length cap⟩,DI hu hi h4,?_⟩
   have hL:∀b0,b0∈(⟨[b],.slice (some ⟨b,0,none⟩) es.length cap⟩:Loc).blks->b0<w.heap.size/\((∃e∈s.own,e.id=id/\b0∈(loc id).blks)\/w.heap.size<=b0):=by
    intro b0 qC;simp only[aE0]at qC;subst qC;exact⟨(aC0.1 h3).1,.inl ⟨e0,qY,hid,h1⟩⟩
   have W:=R.weakUp (obj:= .row e' k bs es) (r:=n) qB (Upd.refl _ _) hL (.inl (Nat.le_refl _));exact R.up (L:=⟨[b],.slice (some ⟨b,0,none⟩) es.length cap⟩) qB qH (Upd.refl _ _) (fun b hb _=>rfl) hL (.inl (Nat.le_refl _)) ⟨zN,.inr ⟨b,arr,cap,rfl,rfl,h3,h4,h5,h6,Cj W k es arr 0 jW h7⟩⟩ (rdEnd ⟨[b],.slice (some ⟨b,0,none⟩) es.length cap⟩ _ _)
 ·by_cases fU:es2.length=0
  ·have:es2=[]:=bK0 fU;subst this;rw[bX0]at *;simp only[List.length_nil]at *
   rcases wN with ⟨rfl,rfl⟩ | ⟨e0,qY,hid,b,arr,cap,kU,rfl,h3,h4,h5,h6,h7⟩
   ·refine⟨_,w,⟨[],.slice none 0 0⟩,DI hu hi (Nat.le_refl _),?_⟩;refine R.up (L:=⟨[],.slice none 0 0⟩) qB qH (Upd.refl _ _) (fun b hb _=>rfl) (fun b hb=>by simp at hb) (.inl (Nat.le_refl _)) ⟨by simp,.inl ⟨rfl,rfl,rfl⟩⟩ (rdEnd ⟨[],.slice none 0 0⟩ _ _)
   ·have h1:b∈(loc id).blks:=by rw[kU];simp
    refine⟨_,w,⟨[b],.slice (some ⟨b,0,none⟩) es.length cap⟩,DI hu hi h4,?_⟩
    have hL:∀b0,b0∈(⟨[b],.slice (some ⟨b,0,none⟩) es.length cap⟩:Loc).blks->b0<w.heap.size/\((∃e∈s.own,e.id=id/\b0∈(loc id).blks)\/w.heap.size<=b0):=by
     intro b0 qC;simp only[aE0]at qC;subst qC;exact⟨(aC0.1 h3).1,.inl ⟨e0,qY,hid,h1⟩⟩
    have W:=R.weakUp (obj:= .row e' k bs es) (r:=n) qB (Upd.refl _ _) hL (.inl (Nat.le_refl _));exact R.up (L:=⟨[b],.slice (some ⟨b,0,none⟩) es.length cap⟩) qB qH (Upd.refl _ _) (fun b hb _=>rfl) hL (.inl (Nat.le_refl _)) ⟨zN,.inr ⟨b,arr,cap,rfl,rfl,h3,h4,h5,h6,Cj W k es arr 0 jW h7⟩⟩ (rdEnd ⟨[b],.slice (some ⟨b,0,none⟩) es.length cap⟩ _ _)
  ·have qZ:k2=k:=by
    rcases zD with h | h
    ·exact h
    ·subst h;simp at fU
   subst qZ;subst qF
   subst hby;have wY:es.length+es2.length<=9223372036854775807:=by unfold maxLen at hl;omega
   -- a new row, whatever it held before
   have fresh:∀(rows:List (List Value)) (cap:Nat),es.length<=cap\/True->rows.length=es.length->rows.flatten.length=es.length*i.size ->
     (∀(j:Nat) (cs:List DVal) (us:List Value),es[j]? =some cs->rows[j]? =some us->cs.length=i.size/\Au (cu s loc) (hm s loc B.M0) w.heap cs us/\∀u∈us,u.oneCell'=true) ->
     Rel B ⟨Bs s.slots dst (.osl id n),upE s.own id n (.row e' i.size i.bytes (es++es2))⟩ (a.put dst (.slice (some ⟨w.heap.size,0,none⟩) (es.length+es2.length) (grownCap w (es.length+es2.length) cap e')))
      (w.drew.alloc (.cells (rows.flatten.toArray++rows2.flatten.toArray++Builtin.zeroCells z.cells (grownCap w (es.length+es2.length) cap e'-(es.length+es2.length))) e')) (CG loc id ⟨[w.heap.size],.slice (some ⟨w.heap.size,0,none⟩) (es.length+es2.length) (grownCap w (es.length+es2.length) cap e')⟩):=by
    intro rows cap _ r1 r2 r3
    have hw:Upd (Aa s.own loc) w (w.drew.alloc (.cells (rows.flatten.toArray++rows2.flatten.toArray++Builtin.zeroCells z.cells (grownCap w (es.length+es2.length) cap e'-(es.length+es2.length))) e')) :=
     (Upd.drew _ w).trans (Upd.alloc _ w.drew _) (fun x hx=> .inl hx)
    have hL:∀b0,b0∈(⟨[w.heap.size],.slice (some ⟨w.heap.size,0,none⟩) (es.length+es2.length) (grownCap w (es.length+es2.length) cap e')⟩:Loc).blks->b0<(w.drew.alloc (.cells (rows.flatten.toArray++rows2.flatten.toArray++Builtin.zeroCells z.cells (grownCap w (es.length+es2.length) cap e'-(es.length+es2.length))) e')).heap.size/\((∃e∈s.own,e.id=id/\b0∈(loc id).blks)\/w.heap.size<=b0):=by
     intro b0 qC;simp only[aE0]at qC;subst qC;exact⟨by simp,.inr (Nat.le_refl _)⟩
    have W:=R.weakUp (obj:= .row e' i.size i.bytes (es++es2)) (r:=n) qB hw hL (.inl (Nat.le_refl _));have gG:=grownCap_ge w (es.length+es2.length) cap e';have mI:=grownCap_le_maxLen w (es.length+es2.length) cap e' hl;refine R.up qB qH hw (fun b hb _=>by simp only[World.alloc,bO0,World.drew];rw[if_neg (by omega)]) hL (.inl (Nat.le_refl _)) ⟨zN,.inr ⟨w.heap.size,_,_,rfl,by simp,heap_alloc_new w.drew _,by simpa using gG,mI,?_,?_⟩⟩ (rdEnd ⟨[w.heap.size],.slice (some ⟨w.heap.size,0,none⟩) (es.length+es2.length) (grownCap w (es.length+es2.length) cap e')⟩ _ _)
    ·simp only[Array.size_append,dJ0,size_zeroCells,hzs,r2,q3,<-bR0]
     congr 1
     omega
    ·have:=Lt (k:=i.size) r1 q1 (DP W jW r3) (DP W kN q2) (Builtin.zeroCells z.cells (grownCap w (es.length+es2.length) cap e'-(es.length+es2.length))).toList
     have e1:(rows.flatten++rows2.flatten++(Builtin.zeroCells z.cells (grownCap w (es.length+es2.length) cap e'-(es.length+es2.length))).toList).toArray=rows.flatten.toArray++rows2.flatten.toArray++Builtin.zeroCells z.cells (grownCap w (es.length+es2.length) cap e'-(es.length+es2.length)):=by
      apply Array.ext';simp
     rw[e1]at this;exact this
   rcases wN with ⟨rfl,rfl⟩ | ⟨e0,qY,hid,b,arr,cap,kU,rfl,h3,h4,h5,h6,h7⟩
   ·have hr:=run_append_nil (P:=P) w t ty e' i z hu hi zR ad es2.length cap2 rows2.flatten q3 q6 (by omega) (by omega) (by simp only[List.length_nil,bN0]at hb;omega);have hf:=fresh [] 0 (.inr trivial) rfl (by simp) (by simp);simp only[List.length_nil,bN0,List.nil_append,List.flatten_nil,Array.empty_append]at hf hr |-;exact⟨_,_,_,hr,hf⟩
   ·have h1:b∈(loc id).blks:=by rw[kU];simp
    obtain⟨rows,r1,r2,r3,r4⟩:=EK i.size es arr 0 h7;have cW:es.length*i.size<=arr.size:=by rw[<-h6];exact aY0 _ h4
    by_cases yK:es.length+es2.length<=cap
    ·have vL:es.length*i.size+rows2.flatten.length<=arr.size:=by rw[q3,<-h6,<-bR0];exact aY0 _ yK
     have hr:=run_append_room (P:=P) w t ty e' i hu hi b es.length cap arr h3 ad es2.length cap2 rows2.flatten q3 q6 q4 yK vL;refine⟨_,_,⟨[b],.slice (some ⟨b,0,none⟩) (es.length+es2.length) cap⟩,hr,?_⟩;have hw:Upd (Aa s.own loc) w (w.setRow b (arr.toList.take (es.length*i.size)++rows2.flatten++arr.toList.drop (es.length*i.size+rows2.flatten.length)).toArray):=Upd.setRow qY (by rw[hid];exact h1) w _
     have hL:∀b0,b0∈(⟨[b],.slice (some ⟨b,0,none⟩) (es.length+es2.length) cap⟩:Loc).blks->b0<(w.setRow b (arr.toList.take (es.length*i.size)++rows2.flatten++arr.toList.drop (es.length*i.size+rows2.flatten.length)).toArray).heap.size/\((∃e∈s.own,e.id=id/\b0∈(loc id).blks)\/w.heap.size<=b0):=by
      intro b0 qC;simp only[aE0]at qC;subst qC;refine⟨?_,.inl ⟨e0,qY,hid,h1⟩⟩;have:=(aC0.1 h3).1;simpa using this
     have W:=R.weakUp (obj:= .row e' i.size i.bytes (es++es2)) (r:=n) qB hw hL (.inl (Nat.le_refl _));refine R.up qB qH hw ?_ hL (.inl (Nat.le_refl _)) ⟨zN,.inr ⟨b,_,cap,rfl,by simp,setRow_heap w b arr _ e' (0,0) h3,by simpa using yK,h5,?_,?_⟩⟩ (rdEnd ⟨[b],.slice (some ⟨b,0,none⟩) (es.length+es2.length) cap⟩ _ _)
     ·intro b0 qC qE;refine setRow_other w b b0 _ (fun h=>qE e0 qY hid ?_);rw[h];exact h1
     ·simp only[dJ0,aB0,bD0,cB0,bI0];omega
     ·have nJ:=GJ r2 r4 cW;have hj:=Lt r1 q1 (DP W jW r3) (DP W kN q2) (arr.toList.drop (es.length*i.size+rows2.flatten.length));rw[<-nJ]at hj;exact hj
    ·have hr:=run_append_grow (P:=P) w t ty e' i z hu hi zR ⟨b,0,none⟩ es.length cap rows.flatten r2 (fun j v hj=>by rw[Da];simp only[World.cell?,h3];exact(r4 j v hj).1) ad es2.length cap2 rows2.flatten q3 q6 (by omega) (by omega) (DI_ (by omega) hb vX);exact⟨_,_,_,hr,fresh rows cap (.inl h4) r1 r2 r3⟩
end
end Go.Dm
end
