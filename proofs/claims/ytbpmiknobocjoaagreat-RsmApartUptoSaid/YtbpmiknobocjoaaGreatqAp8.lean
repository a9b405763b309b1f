/- Parts of a proof, laid together: EnI. -/
import Derived.Laws.AppendOwn
import Derived.Laws.OwnMore
import Derived.Deep.DeepAppendWide
import Derived.Test.YtbpmiknobocjoaaGreatqAp7
set_option linter.unusedSimpArgs false
set_option maxHeartbeats 8000000
set_option linter.unusedVariables false
set_option linter.unusedSectionVars false
section
namespace Go.Dm
variable [DMode]
def upE (own:List Ent) (id r:Nat) (obj:DObj):List Ent:=⟨id,r,obj⟩::Bp own id
def CS (loc:Nat->Loc) (id:Nat) (L:Loc):Nat->Loc:=fun j=>if j=id then L else loc j
theorem Bv {own:List Ent} {id:Nat} {e:Ent}:e∈Bp own id↔e∈own/\e.id≠id:=by
 induction own with
 | nil=>simp[Bp]
 | cons a t ih =>
  simp only[Bp]
  split
  ·rename_i h;rw[ih,aK0]
   constructor
   ·rintro⟨h1,h2⟩;exact⟨.inr h1,h2⟩
   ·rintro⟨rfl | h1,h2⟩
    ·exact absurd h h2
    ·exact⟨h1,h2⟩
  ·rename_i h;rw[aK0,ih,aK0]
   constructor
   ·rintro (rfl | ⟨h1,h2⟩)
    ·exact⟨.inl rfl,h⟩
    ·exact⟨.inr h1,h2⟩
   ·rintro⟨rfl | h1,h2⟩
    ·exact .inl rfl
    ·exact .inr ⟨h1,h2⟩
theorem Dy {own:List Ent} {id:Nat} (h:(own.map (·.id)).Nodup):((Bp own id).map (·.id)).Nodup:=by
 induction own with
 | nil=>simp[Bp]
 | cons a t ih =>
  simp only[List.map_cons,cV0]at h;simp only[Bp]
  split
  ·exact ih h.2
  ·simp only[List.map_cons,cV0];refine⟨fun hm=> ?_,ih h.2⟩;obtain⟨e,he,h1⟩:=aT0.1 hm;exact h.1 (aT0.2 ⟨e,(Bv.1 he).1,h1⟩)
theorem YF {α β:Type} {f g:α->List β}:∀{l:List α},(∀x∈l,f x=g x)->l.flatMap f=l.flatMap g
 | [],_=>rfl
 | a::l,h=>by
  rw[cP0,cP0,h a aH0,YF (fun x hx=>h x (aF0 _ hx))]
theorem Ry {own:List Ent} {loc:Nat->Loc} {id:Nat} {L:Loc}:Aa (Bp own id) (CS loc id L)=Aa (Bp own id) loc:=by
 unfold Aa;refine YF fun e he=> ?_
 have:=(Bv.1 he).2;simp[CS,this]
theorem MX {own:List Ent} {loc:Nat->Loc} {id:Nat} {b:Nat} (h:b∈Aa (Bp own id) loc):∃e∈own,e.id≠id/\b∈(loc e.id).blks:=by
 obtain⟨e,he,h1⟩:=bP0.1 h;have:=Bv.1 he;exact⟨e,this.1,this.2,h1⟩
theorem St.up {own:List Ent} {loc:Nat->Loc} {M0:List Nat} {w w':World} {id r:Nat} {obj:DObj} {L:Loc} {n:Nat}
  (S:St own loc M0 w.heap) (qI:w.heap.size<=w'.heap.size) (hLn:L.blks.Nodup)
  (yS:∀b,b<w.heap.size->(∀e∈own,e.id=id->b∉(loc id).blks)->w'.heap[b]? =w.heap[b]?)
  (hL:∀b,b∈L.blks->b<w'.heap.size/\((∃e∈own,e.id=id/\b∈(loc id).blks)\/w.heap.size<=b))
  (hr:n<=r\/Ac own loc id r=some L) (hn:GY own<=n)
  (qK:KH (Ac (upE own id r obj) (CS loc id L)) (Aa (upE own id r obj) (CS loc id L)++M0) w'.heap L obj) :
  St (upE own id r obj) (CS loc id L) M0 w'.heap/\(∀b∈Aa (upE own id r obj) (CS loc id L),b∈Aa own loc\/w.heap.size<=b) /\
   (∀e∈upE own id r obj,e.r<n->Ac own loc e.id e.r=some (CS loc id L e.id))/\(∀b,b<w.heap.size->b∉Aa own loc->w'.heap[b]? =w.heap[b]?):=by
 have wG:∀b∈Aa (upE own id r obj) (CS loc id L),b∈Aa own loc\/w.heap.size<=b:=by
  intro b hb;obtain⟨e,he,h1⟩:=bP0.1 hb
  rcases aK0.1 he with rfl | he
  ·simp only[CS,if_true]at h1
   rcases (hL b h1).2 with ⟨e,he,hid,h2⟩ | h2
   ·exact .inl (AW he (by rw[hid];exact h2))
   ·exact .inr h2
  ·have:=Bv.1 he;simp only[CS,if_neg this.2]at h1;exact .inl (AW this.1 h1)
 have vB:∀e∈upE own id r obj,e.r<n->Ac own loc e.id e.r=some (CS loc id L e.id):=by
  intro e he qV
  rcases aK0.1 he with rfl | he
  ·simp only[CS,if_true]
   rcases hr with h | h
   ·simp only at qV;omega
   ·exact h
  ·have:=Bv.1 he;simp only[CS,if_neg this.2];exact Ay S.nd this.1
 have hblk:∀b,b<w.heap.size->b∉Aa own loc->w'.heap[b]? =w.heap[b]? :=fun b hb mL=>yS b hb (fun e he hid h=>mL (AW he (by rw[hid];exact h)))
 refine⟨⟨?_,?_,?_,?_,?_⟩,wG,vB,hblk⟩
 ·simp only[upE,List.map_cons,cV0];refine⟨fun hm=> ?_,Dy S.nd⟩;obtain⟨e,he,h1⟩:=aT0.1 hm;exact(Bv.1 he).2 h1
 ·unfold upE;rw[Ec,Ry,bX0];simp only[CS,if_true];refine⟨hLn,Df S.bl _ (Dy S.nd) (fun e he=>(Bv.1 he).1),?_⟩;intro b hb b' qM jI;subst jI;obtain⟨e,he,qF,h1⟩:=MX qM
  rcases (hL b hb).2 with ⟨e2,vS,hid,h2⟩ | h2
  ·have:=EI S.bl e he e2 vS b h1 (by rw[hid];exact h2);subst this;exact qF hid
  ·have:=S.lt b (aM0 _ (AW he h1));omega
 ·intro b hb hm
  rcases wG b hb with h | h
  ·exact S.ap b h hm
  ·have:=S.lt b (aN0 _ hm);omega
 ·intro b hb
  rcases aG0.1 hb with h | h
  ·obtain⟨e,he,h1⟩:=bP0.1 h
   rcases aK0.1 he with rfl | he
   ·simp only[CS,if_true]at h1;exact(hL b h1).1
   ·have:=Bv.1 he;simp only[CS,if_neg this.2]at h1;exact cB0 (S.lt b (aM0 _ (AW this.1 h1))) qI
  ·exact cB0 (S.lt b (aN0 _ h)) qI
 ·intro e he
  rcases aK0.1 he with rfl | he
  ·simpa[CS]using qK
  ·have qY:=Bv.1 he;simp only[CS,if_neg qY.2];have hU:Upd (Aa own loc) w ⟨w'.heap,w.tape,w.drawn,w.os,w.output⟩:=⟨rfl,rfl,rfl,fun _=>Nat.le_refl _,qI,hblk⟩
   have W:Weak (Ac own loc) (Ac (upE own id r obj) (CS loc id L)) (Aa own loc++M0) (Aa (upE own id r obj) (CS loc id L)++M0) w.heap w'.heap n :=
    Er (w':=⟨w'.heap,w.tape,w.drawn,w.os,w.output⟩) hU wG vB
   have vG:=(Bn qY.1).2
   have keep:∀b o,b∈(loc e.id).blks->w.heap[b]? =some o->w'.heap[b]? =some o:=by
    intro b o hb ho;rw[yS b (aC0.1 ho).1 (fun e2 vS hid h2=> ?_)]
    ·exact ho
    ·have:=EI S.bl e qY.1 e2 vS b hb (by rw[hid];exact h2);subst this;exact qY.2 hid
   exact AV W (by omega) keep (S.ok e qY.1)
section
variable {P : Program} {B : Base} {s : DS} {a : Act} {w : World} {loc : Nat -> Loc}
noncomputable def Cd (B:Base) (s:DS):Nat:=max B.N (max (Hk s.slots) (GY s.own))
theorem Rel.up {w':World} {id r:Nat} {obj:DObj} {L:Loc} {v:Value} {d:DVal} {dst:Option Nat} {n:Nat}
  (R:Rel B s a w loc) (qP:Cd B s<=n) (qT:∀i,dst=some i->i<B.nt) (hw:Upd (Aa s.own loc) w w')
  (yS:∀b,b<w.heap.size->(∀e∈s.own,e.id=id->b∉(loc id).blks)->w'.heap[b]? =w.heap[b]?)
  (hL:∀b,b∈L.blks->b<w'.heap.size/\((∃e∈s.own,e.id=id/\b∈(loc id).blks)\/w.heap.size<=b))
  (hr:n<=r\/Ac s.own loc id r=some L)
  (qK:KH (Ac (upE s.own id r obj) (CS loc id L)) (Aa (upE s.own id r obj) (CS loc id L)++B.M0) w'.heap L obj)
  (hd:rd (Ac (upE s.own id r obj) (CS loc id L)) (Aa (upE s.own id r obj) (CS loc id L)++B.M0) w'.heap d v) (hLn:L.blks.Nodup:=by simp) :
  Rel B ⟨putS s.slots dst d,upE s.own id r obj⟩ (a.put dst v) w' (CS loc id L):=by
 unfold Cd at qP;obtain⟨h1,h2,h3,_⟩:=R.st.up hw.size hLn yS hL hr (by omega) qK;exact R.step (n:=n) (by omega) (by omega) qT h1 hw h2 h3 hd
theorem Rel.weakUp {w':World} {id r:Nat} {obj:DObj} {L:Loc} {n:Nat} (R:Rel B s a w loc) (qP:Cd B s<=n) (hw:Upd (Aa s.own loc) w w')
  (hL:∀b,b∈L.blks->b<w'.heap.size/\((∃e∈s.own,e.id=id/\b∈(loc id).blks)\/w.heap.size<=b))
  (hr:n<=r\/Ac s.own loc id r=some L):Weak (cu s loc) (Ac (upE s.own id r obj) (CS loc id L)) (hm s loc B.M0) (Aa (upE s.own id r obj) (CS loc id L)++B.M0) w.heap w'.heap n:=by
 refine Er hw ?_ ?_
 ·intro b hb;obtain⟨e,he,h1⟩:=bP0.1 hb
  rcases aK0.1 he with rfl | he
  ·simp only[CS,if_true]at h1
   rcases (hL b h1).2 with ⟨e,he,hid,h2⟩ | h2
   ·exact .inl (AW he (by rw[hid];exact h2))
   ·exact .inr h2
  ·have:=Bv.1 he;simp only[CS,if_neg this.2]at h1;exact .inl (AW this.1 h1)
 ·intro e he qV
  rcases aK0.1 he with rfl | he
  ·simp only[CS,if_true]
   rcases hr with h | h
   ·simp only at qV;omega
   ·exact h
  ·have:=Bv.1 he;simp only[CS,if_neg this.2];exact Ay R.st.nd this.1
theorem DD (id r:Nat) (obj:DObj) (own:List Ent) (loc:Nat->Loc) (L:Loc):Ac (upE own id r obj) (CS loc id L) id r=some L:=by
 simp[Ac,upE,Ah,CS]
theorem Hz {cur:ES} {M:List Nat} {H:Array Obj}:∀(cs:List DVal) (us pre post:List Value),rdV cur M H cs us->(∀u∈us,u.oneCell'=true)->rdC cur M H cs (pre++us++post).toArray pre.length
 | [],_,_,_,_,_=>by simp[rdC]
 | d::ds,us,pre,post,hr,ho=>by
  simp only[rdV]at hr;obtain⟨v,r,rfl,h1,h2⟩:=hr;simp only[rdC];refine⟨⟨v,by simp,ho v aH0,h1⟩,?_⟩;have:=Hz ds r (pre++[v]) post h2 (fun u hu=>ho u (aF0 _ hu));simpa using this
theorem Upd.alloc' (H:List Nat) (w:World) (o:Obj):Upd H w (w.alloc o):=Upd.alloc H w o
theorem Rel.newBox {id n:Nat} {cs:List DVal} {us:List Value} {ty:TypeId} {dst:Option Nat} (R:Rel B s a w loc) (qP:Cd B s<=n) (vG:AJ cs<=n) (qT:∀i,dst=some i->i<B.nt)
  (vV:rdV (cu s loc) (hm s loc B.M0) w.heap cs us) (qS:∀u∈us,u.oneCell'=true) :
  Rel B ⟨putS s.slots dst (.bx id n 0),upE s.own id n (.box cs)⟩ (a.put dst (.pointer (some ⟨w.heap.size,0,none⟩))) (w.alloc (.cells us.toArray ty)) (CS loc id ⟨[w.heap.size],Go.undef⟩):=by
 have hw:=Upd.alloc' (Aa s.own loc) w (.cells us.toArray ty)
 have hL:∀b,b∈(⟨[w.heap.size],Go.undef⟩:Loc).blks->b<(w.alloc (.cells us.toArray ty)).heap.size/\((∃e∈s.own,e.id=id/\b∈(loc id).blks)\/w.heap.size<=b):=by
  intro b hb;simp only[aE0]at hb;subst hb;exact⟨by simp,.inr (Nat.le_refl _)⟩
 have W:=R.weakUp (obj:= .box cs) qP hw hL (.inl (Nat.le_refl _));refine R.up qP qT hw (fun b hb _=>by simp only[World.alloc,bS0];rw[if_neg (by omega)]) hL (.inl (Nat.le_refl _)) ?_ ?_
 ·refine⟨w.heap.size,us.toArray,ty,rfl,heap_alloc_new w _,by have:=AA _ _ vV;simpa using this,?_⟩;have:=Hz cs us [] [] (AP W cs us vG vV) qS;simpa using this
 ·simp only[rd];intro l hl;rw[DD]at hl;simp only[aA0]at hl;subst hl;exact⟨_,rfl,rfl⟩
theorem IP {b off:Nat} {arr:Array Value} {ty t:TypeId} {v:Value} (hh:w.heap[b]? =some (.cells arr ty (0,0))) (hc:tCells P t=some v.cells.size) (vW:off+v.cells.size<=arr.size) (qS:∀u∈v.cells.toList,u.oneCell'=true) :
  (Instr.storeAt t (.pointer (some ⟨b,off,none⟩)) v).run P w= .ok () (w.setRow b (arr.toList.take off++v.cells.toList++arr.toList.drop (off+v.cells.size)).toArray):=by
 have wO:=run_storeCells_at P b off ty v.cells.toList 0 arr w hh (by simpa using vW) qS;simp only[dH0,bI0]at wO;simp[Instr.storeAt,Instr.sureAddr,storeVar,Bq hc,wO]
theorem Upd.setRow {own:List Ent} {loc:Nat->Loc} {e:Ent} {b:Nat} (he:e∈own) (hb:b∈(loc e.id).blks) (w:World) (cs:Array Value):Upd (Aa own loc) w (w.setRow b cs) :=
 ⟨rfl,rfl,rfl,fun _=>Nat.le_refl _,by simp,fun b' _ hn=>setRow_other w b b' cs (fun h=>hn (by rw[h];exact AW he hb))⟩
theorem CX {cur:ES} {M:List Nat} {H:Array Obj}:∀(cs:List DVal) (arr arr':Array Value) (o o':Nat),(∀j,j<cs.length->arr'[o'+j]? =arr[o+j]?)->rdC cur M H cs arr o->rdC cur M H cs arr' o'
 | [],_,_,_,_,_,_=>by simp[rdC]
 | d::cs,arr,arr',o,o',h,hr=>by
  simp only[rdC]at hr |-;obtain⟨⟨v,h1,h2,h3⟩,h4⟩:=hr;refine⟨⟨v,by have:=h 0 (by simp);simp only[dH0]at this;rw[this];exact h1,h2,h3⟩,CX cs arr arr' (o+1) (o'+1) (fun j hj=> ?_) h4⟩;have:=h (j+1) (by simp;omega)
  rwa[show o'+(j+1)=o'+1+j by omega,show o+(j+1)=o+1+j by omega]at this
theorem MI {cur:ES} {M:List Nat} {H:Array Obj}:∀(a b:List DVal) (arr:Array Value) (o:Nat),rdC cur M H a arr o->rdC cur M H b arr (o+a.length)->rdC cur M H (a++b) arr o
 | [],b,arr,o,_,h=>by simpa using h
 | d::a,b,arr,o,h1,h2=>by
  simp only[rdC,List.cons_append]at h1 |-;refine⟨h1.1,MI a b arr (o+1) h1.2 ?_⟩;simpa[cS0,Nat.add_comm 1]using h2
theorem IW : ∀(a b:List DVal),AJ (a++b)=max (AJ a) (AJ b)
 | [],b=>by simp[AJ]
 | d::a,b=>by simp only[List.cons_append,AJ,IW a b];omega
theorem MQ : ∀(n:Nat) (a:List DVal),AJ (a.take n)<=AJ a
 | 0,a=>by simp[AJ]
 | n+1,[]=>by simp[AJ]
 | n+1,d::a=>by simp only[cI0,AJ];have:=MQ n a;omega
theorem DX : ∀(n:Nat) (a:List DVal),AJ (a.drop n)<=AJ a
 | 0,a=>by simp
 | n+1,[]=>by simp
 | n+1,d::a=>by simp only[dP0,AJ];have:=DX n a;omega
theorem KL (cells:List DVal) (off:Nat) (cs:List DVal):AJ (Dx cells off cs)<=max (AJ cells) (AJ cs):=by
 unfold Dx;rw[IW,IW];have:=MQ off cells;have:=DX (off+cs.length) cells;omega
theorem Pa (l:List (Nat×DVal)) (x:Operand):mx (ev l x)<=Hk l:=by
 cases x with
 | tmp t=>exact KR l t
 | const v =>
  have h1:∀v,mx (Cb v)=0:=by
   intro v;unfold Cb
   split<;>(try split)<;>simp[mx]
  simp only[ev,ofV]
  split
  ·rename_i cs;simp only[mx]
   have:∀l:List Value,AJ (l.map Cb)=0:=by
    intro l
    induction l with
    | nil=>simp[AJ]
    | cons v l ih=>simp[AJ,h1,ih]
   rw[this];omega
  ·rw[h1];omega
 | global g=>simp[ev,mx]
 | func f=>simp[ev,mx,AJ]
theorem CH (d:DVal):AJ (AI d)=mx d:=by
 cases d<;>simp[AI,mx,AJ]
theorem PX {n:Nat}:∀{l:List (List DVal)},(∀d∈l,AJ d<=n)->Br l<=n
 | [],_=>by simp[Br]
 | x::l,h=>by
  simp only[Br];have:=h x aH0;have:=PX (l:=l) fun d hd=>h d (aF0 _ hd)
  omega
theorem AU {own:List Ent} {id:Nat} {e:Ent} (h:Ah own id=some e):e∈own/\e.id=id:=Ar h
theorem Rel.storeBox {id r off n:Nat} {cs:List DVal} {e:Ent} {d:DVal} {t:TypeId} {v:Value} {ad:Value} (R:Rel B s a w loc) (he:Ah s.own id=some e) (wV:e.r=r) (qN:e.obj= .box cs)
  (ha:Bg s loc B.M0 w (.bx id r off) ad) (hd:Bg s loc B.M0 w d v) (hp:Cz s.own d=true) (hc:tCells P t=some (AI d).length) (vW:off+(AI d).length<=cs.length) (vG:mx d<=Hk s.slots) (hn:Cd B s<=n) :
  ∃w',(Instr.storeAt t ad v).run P w= .ok () w'/\Rel B ⟨s.slots,upE s.own id r (.box (Dx cs off (AI d)))⟩ a w' (CS loc id (loc id)):=by
 obtain⟨qY,hid⟩:=AU he;have hk:=R.st.ok e qY;rw[qN]at hk;obtain⟨b,arr,ty,h1,h2,h3,h4⟩:=hk;rw[hid]at h1;have qE:Ac s.own loc id r=some (loc id):=by unfold Ac;rw[he];simp[wV]
 simp only[Bg,rd]at ha;obtain⟨b',qM,rfl⟩:=ha _ qE;have qC:b∈(loc id).blks:=by rw[h1];simp
 rw[h1]at qM;simp only[bG0,and_true]at qM;subst qM;obtain⟨hcv,qS⟩:=GM R.st hp hd;have gK:=AA _ _ hcv;simp only[bI0]at gK;have qD:=IP (P:=P) (w:=w) (b:=b) (off:=off) (t:=t) (v:=v) h2 (by rw[hc,gK]) (by omega) qS;refine⟨_,qD,?_⟩;have hw:Upd (Aa s.own loc) w (w.setRow b (arr.toList.take off++v.cells.toList++arr.toList.drop (off+v.cells.size)).toArray):=Upd.setRow qY (by rw[hid];exact qC) w _
 have hL:∀b0,b0∈(loc id).blks->b0<(w.setRow b (arr.toList.take off++v.cells.toList++arr.toList.drop (off+v.cells.size)).toArray).heap.size/\((∃e∈s.own,e.id=id/\b0∈(loc id).blks)\/w.heap.size<=b0):=by
  intro b0 qR;refine⟨?_,.inl ⟨e,qY,hid,qR⟩⟩;rw[h1]at qR;simp only[aE0]at qR;subst qR;have:=(aC0.1 h2).1;simpa using this
 have W:=R.weakUp (obj:= .box (Dx cs off (AI d))) hn hw hL (.inr qE);have vM:=(Bn qY).2;rw[qN]at vM;simp only[Em]at vM;unfold Cd at hn;refine R.up (hLn:=by rw[h1];simp) (dst:=none) (v:=Go.undef) (d:= .any) (n:=n) (by unfold Cd;exact hn) (fun i hi=>by simp at hi) hw ?_ hL (.inr qE) ?_ (by simp[rd])
 ·intro b0 qR qF;refine setRow_other w b b0 _ (fun h=>qF e qY hid ?_);rw[h];exact qC
 ·refine⟨b,_,ty,h1,setRow_heap w b arr _ ty (0,0) h2,?_,?_⟩
  ·simp[Dx,h3,<-gK]
  ·unfold Dx;have l1:(arr.toList.take off).length=off:=by simp;omega
   refine MI _ _ _ _ (MI _ _ _ _ ?_ ?_) ?_
   ·refine CX _ arr _ 0 0 (fun j hj=> ?_) (MH off _ _ _ (EB W cs arr 0 (by omega) h4));have fH:j<off:=by simp at hj;omega
    simp only[bQ0,cR0,aS0];rw[bC0 (by omega),bT0 fH];simp
   ·have vX:=Hz (AI d) v.cells.toList (arr.toList.take off) (arr.toList.drop (off+v.cells.size)) (AP W _ _ (by rw[CH];omega) hcv) qS;have e1:0+(cs.take off).length=(arr.toList.take off).length:=by simp;omega
    rw[e1];exact vX
   ·have hdr:=EC (off+(AI d).length) cs arr 0 (EB W cs arr 0 (by omega) h4);have e1:0+(cs.take off++AI d).length=0+(off+(AI d).length):=by simp;omega
    rw[e1];refine CX _ arr _ _ _ (fun j hj=> ?_) hdr;simp only[bQ0,cR0];rw[bE0 (by simp;omega),cQ0];have e2:off+(AI d).length+j-(arr.toList.take off++v.cells.toList).length=j:=by simp;omega
    rw[e2,gK];simp
theorem Fv {cur:ES} {M:List Nat} {H:Array Obj} (k:Nat):∀(es:List (List DVal)) (arr:Array Value) (o:Nat),Dt cur M H k es arr o ->
  ∃rows:List (List Value),rows.length=es.length/\rows.flatten.length=es.length*k/\(∀(i:Nat) (cs:List DVal) (us:List Value),es[i]? =some cs->rows[i]? =some us->cs.length=k/\rdV cur M H cs us/\∀u∈us,u.oneCell'=true) /\
   (∀j v,rows.flatten[j]? =some v->arr[o+j]? =some v/\v.oneCell'=true)
 | [],arr,o,_=>⟨[],rfl,by simp,by simp,by simp⟩
 | c::es,arr,o,hr=>by
  simp only[Dt]at hr;obtain⟨h1,h2,h3⟩:=hr;obtain⟨vs,g1,g2,g3⟩:=Ia c arr o h2;obtain⟨rows,k1,k2,k3,k4⟩:=Fv k es arr (o+k) h3;refine⟨vs::rows,by simp[k1],by simp only[eR0,aD0,k2,List.length_cons,bV0];omega,?_,?_⟩
  ·intro i cs us hi hu
   cases i with
   | zero =>
    simp only[bA0,aA0]at hi hu;subst hi;subst hu;refine⟨h1,g2,fun u hu=> ?_⟩;obtain⟨j,hj,rfl⟩:=bW0 hu;exact(g3 j _ (aI0 hj)).2
   | succ i=>exact k3 i cs us (by simpa using hi) (by simpa using hu)
  ·intro j v hj;simp only[eR0]at hj
   by_cases qV:j<vs.length
   ·rw[bC0 qV]at hj;exact g3 j v hj
   ·rw[bE0 (by omega)]at hj;have:=k4 _ v hj
    rwa[show o+k+(j-vs.length)=o+j by omega]at this
theorem Vk {cur:ES} {M:List Nat} {H:Array Obj} (k:Nat) (es:List (List DVal)) (rows:List (List Value)) (post:List Value) (hl:rows.length=es.length)
  (h:∀(i:Nat) (cs:List DVal) (us:List Value),es[i]? =some cs->rows[i]? =some us->cs.length=k/\rdV cur M H cs us/\∀u∈us,u.oneCell'=true):Dt cur M H k es (rows.flatten++post).toArray 0:=by
 have key:∀(es:List (List DVal)) (rows:List (List Value)) (pre:List Value),rows.length=es.length ->
   (∀(i:Nat) (cs:List DVal) (us:List Value),es[i]? =some cs->rows[i]? =some us->cs.length=k/\rdV cur M H cs us/\∀u∈us,u.oneCell'=true)->Dt cur M H k es (pre++rows.flatten++post).toArray pre.length:=by
  intro es
  induction es with
  | nil=>intros;simp[Dt]
  | cons c es ih =>
   intro rows pre hl h
   cases rows with
   | nil=>simp at hl
   | cons u rows =>
    have h0:=h 0 c u (by simp) (by simp);have qU:=AA _ _ h0.2.1;simp only[Dt];refine⟨h0.1,?_,?_⟩
    ·have:=Hz c u pre (rows.flatten++post) h0.2.1 h0.2.2;simpa using this
    ·have:=ih rows (pre++u) (by simpa using hl) (fun i cs us h1 h2=>h (i+1) cs us (by simpa using h1) (by simpa using h2));have e:(pre++u).length=pre.length+k:=by simp[qU,h0.1]
     rw[e]at this;simpa using this
 simpa using key es rows [] hl h
theorem BD : ∀(a b:List (List DVal)),Br (a++b)=max (Br a) (Br b)
 | [],b=>by simp[Br]
 | d::a,b=>by simp only[List.cons_append,Br,BD a b];omega
def JU (own:List Ent) (d:DVal):Option (Nat×List (List DVal)) :=
 match d with
 | .nilsl=>some (0,[])
 | .esl=>some (0,[])
 | d=>(Bi own d).map fun x=>(x.1,x.2.2)
theorem Gy : ∀(m:Nat) (l:List (List DVal)),Br (l.drop m)<=Br l
 | 0,l=>by simp
 | m+1,[]=>by simp
 | m+1,d::l=>by simp only[dP0,Br];have:=Gy m l;omega
theorem EF : ∀(m:Nat) (l:List (List DVal)),Br (l.take m)<=Br l
 | 0,l=>by simp[Br]
 | m+1,[]=>by simp
 | m+1,d::l=>by simp only[cI0,Br];have:=EF m l;omega
theorem NV {own:List Ent} {d:DVal} {k bs:Nat} {es:List (List DVal)} (h:Bi own d=some (k,bs,es)):Br es<=max (mx d) (GY own):=by
 unfold Bi at h
 split at h
 ·simp only[aA0,aV0]at h;obtain⟨_,_,rfl⟩:=h;simp only[mx];omega
 ·split at h
  ·rename_i e he
   split at h
   ·split at h
    ·rename_i qN;simp only[aA0,aV0]at h;obtain⟨_,_,rfl⟩:=h;have:=(Bn (AU he).1).2;rw[qN]at this;simp only[Em]at this;omega
    ·simp at h
   ·simp at h
  ·simp at h
 ·split at h
  ·rename_i e he
   split at h
   ·split at h
    ·rename_i qN
     split at h
     ·simp only[aA0,aV0]at h;obtain⟨_,_,rfl⟩:=h;have:=(Bn (AU he).1).2;rw[qN]at this;simp only[Em]at this;exact Nat.le_trans (EF _ _) (Nat.le_trans (Gy _ _) (by omega))
     ·simp at h
    ·simp at h
   ·simp at h
  ·simp at h
 ·simp at h
theorem Cw_ (S:St s.own loc B.M0 w.heap) {d:DVal} {v:Value} {k:Nat} {es:List (List DVal)} (hd:Bg s loc B.M0 w d v) (h:JU s.own d=some (k,es)) :
  ∃(rows:List (List Value)),rows.length=es.length/\(∀(i:Nat) (cs:List DVal) (us:List Value),es[i]? =some cs->rows[i]? =some us->cs.length=k/\rdV (cu s loc) (hm s loc B.M0) w.heap cs us/\∀u∈us,u.oneCell'=true) /\
   rows.flatten.length=es.length*k/\(∀u∈rows.flatten,u.oneCell'=true)/\es.length<=maxLen /\
   ((es=[]/\∃x cap,v= .slice x 0 cap)\/∃ad cap,v= .slice (some ad) es.length cap/\∀j u,rows.flatten[j]? =some u->w.cell? (ad.add j)=some u):=by
 unfold JU at h;have gen:∀bs,Bi s.own d=some (k,bs,es)->_:=fun bs hr=>KN (k:=k) (bs:=bs) (es:=es) S hd hr
 have fin:(Bi s.own d).map (fun x=>(x.1,x.2.2))=some (k,es)->∃(rows:List (List Value)),rows.length=es.length/\(∀(i:Nat) (cs:List DVal) (us:List Value),es[i]? =some cs->rows[i]? =some us->cs.length=k/\rdV (cu s loc) (hm s loc B.M0) w.heap cs us/\∀u∈us,u.oneCell'=true) /\
   rows.flatten.length=es.length*k/\(∀u∈rows.flatten,u.oneCell'=true)/\es.length<=maxLen /\
   ((es=[]/\∃x cap,v= .slice x 0 cap)\/∃ad cap,v= .slice (some ad) es.length cap/\∀j u,rows.flatten[j]? =some u->w.cell? (ad.add j)=some u):=by
  intro wR;rw[bB0]at wR;obtain⟨⟨k',bs,es'⟩,hr,he⟩:=wR;simp only[aV0]at he;obtain⟨rfl,rfl⟩:=he;obtain⟨x,cap,rfl,h2,h3,h4,h5⟩:=KN S hd hr
  rcases h5 with rfl | ⟨b,off,arr,ty,fz,rfl,g2,g3⟩
  ·exact⟨[],rfl,by simp,by simp,by simp,dC0 _,.inl ⟨rfl,_,_,rfl⟩⟩
  ·obtain⟨rows,r1,r2,r3,r4⟩:=Fv k' es' arr off g3;refine⟨rows,r1,r3,r2,?_,by omega,.inr ⟨_,cap,rfl,?_⟩⟩
   ·intro u hu;obtain⟨j,hj,rfl⟩:=bW0 hu;exact(r4 j _ (aI0 hj)).2
   ·intro j u hj;rw[CD];simp only[World.cell?,g2];exact(r4 j u hj).1
 split at h
 ·simp only[aA0,aV0]at h;obtain⟨rfl,rfl⟩:=h;simp only[Bg,rd]at hd;subst hd;exact⟨[],rfl,by simp,by simp,by simp,dC0 _,.inl ⟨rfl,_,_,rfl⟩⟩
 ·simp only[aA0,aV0]at h;obtain⟨rfl,rfl⟩:=h;simp only[Bg,rd]at hd;obtain⟨ad,cap,rfl,_⟩:=hd;exact⟨[],rfl,by simp,by simp,by simp,dC0 _,.inl ⟨rfl,_,_,rfl⟩⟩
 ·exact fin h
def tElemId (P:Program) (t:TypeId):Option TypeId:=match P.underlying t with | some (.slice e)=>some e | _=>none
def zeroOK (P:Program) (t:TypeId):Bool:=match P.underlying t with
 | some (.slice e)=>match P.info? e with
  | some i=>match i.zero with | some z=>z.cells.size==i.size | none=>false
  | none=>false
 | _=>false
theorem Eh {t ty e:TypeId} {i:TypeInfo} (hu:P.underlying t=some (.slice e)) (hi:P.info? e=some i) {x y:Option Addr} {m cap cap2:Nat} (wR:m<=cap) :
  (Builtin.append_ #[t,t] ty #[.slice y m cap,.slice x 0 cap2]).run P w= .ok (.slice y m cap) w:=by
 cases x<;>cases y<;>simp[Builtin.append_,run_underlying hu,sizeOf,typeInfo,hi,Builtin.lenOf,Builtin.firstCells,wR,storeCells,loadCells,loadCellsFrom]
theorem HT {arr:Array Value} {rows:List (List Value)} {m:Nat} (hl:rows.flatten.length=m) (h:∀j v,rows.flatten[j]? =some v->arr[0+j]? =some v/\v.oneCell'=true) (wR:m<=arr.size):arr.toList.take m=rows.flatten:=by
 apply List.ext_getElem?
 intro j
 by_cases hj:j<m
 ·rw[bT0 hj];have fH:j<rows.flatten.length:=by omega
  have:=(h j _ (aI0 fH)).1;rw[bQ0]at this;rw[aI0 fH,<-this];simp
 ·rw[eG0 (by simp;omega),eG0 (by omega)]
theorem MU {cur:ES} {M:List Nat} {H:Array Obj} {k:Nat} {es es2:List (List DVal)} {rows rows2:List (List Value)} (l1:rows.length=es.length) (l2:rows2.length=es2.length)
  (h1:∀(i:Nat) (cs:List DVal) (us:List Value),es[i]? =some cs->rows[i]? =some us->cs.length=k/\rdV cur M H cs us/\∀u∈us,u.oneCell'=true)
  (h2:∀(i:Nat) (cs:List DVal) (us:List Value),es2[i]? =some cs->rows2[i]? =some us->cs.length=k/\rdV cur M H cs us/\∀u∈us,u.oneCell'=true) (post:List Value) :
  Dt cur M H k (es++es2) (rows.flatten++rows2.flatten++post).toArray 0:=by
 rw[<-List.flatten_append];refine Vk k _ _ _ (by simp[l1,l2]) ?_;intro i cs us hc hu
 by_cases hi:i<es.length
 ·rw[bC0 hi]at hc;rw[bC0 (by omega)]at hu;exact h1 i cs us hc hu
 ·rw[bE0 (by omega)]at hc;rw[bE0 (by omega)]at hu;rw[l1]at hu;exact h2 _ cs us hc hu
theorem Es {cur cur':ES} {M M':List Nat} {H H':Array Obj} {n k:Nat} (W:Weak cur cur' M M' H H' n) {es:List (List DVal)} {rows:List (List Value)} (wR:Br es<=n)
  (h:∀(i:Nat) (cs:List DVal) (us:List Value),es[i]? =some cs->rows[i]? =some us->cs.length=k/\rdV cur M H cs us/\∀u∈us,u.oneCell'=true) :
  ∀(i:Nat) (cs:List DVal) (us:List Value),es[i]? =some cs->rows[i]? =some us->cs.length=k/\rdV cur' M' H' cs us/\∀u∈us,u.oneCell'=true:=by
 intro i cs us hc hu;obtain⟨g1,g2,g3⟩:=h i cs us hc hu;refine⟨g1,AP W cs us ?_ g2,g3⟩
 have:∀(l:List (List DVal)) (i:Nat),l[i]? =some cs->AJ cs<=Br l:=by
  intro l
  induction l with
  | nil=>intro i h;simp at h
  | cons c l ih =>
   intro i h
   cases i with
   | zero=>simp only[bA0,aA0]at h;subst h;simp only[Br];omega
   | succ i=>have:=ih i (by simpa using h);simp only[Br];omega
 have:=this es i hc;omega
def aC (s:DS) (loc:Nat->Loc) (w:World) (M0:List Nat) (id:Nat) (et k bs:Nat) (es:List (List DVal)) (dv:Value):Prop :=
 (es=[]/\dv= .slice none 0 0) \/
 ∃e0∈s.own,e0.id=id/\∃b arr cap,(loc id).blks=[b]/\dv= .slice (some ⟨b,0,none⟩) es.length cap/\w.heap[b]? =some (.cells arr et (0,0))/\es.length<=cap/\cap<=maxLen/\cap*k=arr.size/\Dt (cu s loc) (hm s loc M0) w.heap k es arr 0
theorem At_ (S:St s.own loc B.M0 w.heap) {id r et k bs:Nat} {es:List (List DVal)} {e0:Ent} {dv:Value} (he:Ah s.own id=some e0) (wV:e0.r=r) (qN:e0.obj= .row et k bs es) (hd:Bg s loc B.M0 w (.osl id r) dv):aC s loc w B.M0 id et k bs es dv:=by
 obtain⟨qY,hid⟩:=AU he;have hk:=S.ok e0 qY;rw[qN]at hk;obtain⟨_,hk⟩:=hk;simp only[Bg,rd]at hd;have hv:=hd (loc id) (by show Ac _ _ _ _=_;unfold Ac;rw[he];simp[wV]);rw[hid]at hk
 rcases hk with ⟨h1,h2,h3⟩ | ⟨b,arr,cap,h1,h2,h3,h4,h5,h6,h7⟩
 ·exact .inl ⟨h1,by rw[hv,h3]⟩
 ·exact .inr ⟨e0,qY,hid,b,arr,cap,h1,by rw[hv,h2],h3,h4,h5,h6,h7⟩
theorem Gt_ {need old bs:Nat} (h:old<need) (hb:need*bs<=150000000000000) (h2:bs<=65536):Builtin.nextslicecap need old*bs<=281474976710656:=by
 refine growslice_fits_wide h ?_
 have h3:need/4*bs*4<=need*bs:=by
  rw[Nat.mul_right_comm];exact aW0 _ (Nat.div_mul_le_self need 4)
 have h4:192*bs<=192*65536:=cO0 _ h2;rw[bV0,bV0];omega
theorem Rel.append {id n:Nat} {t ty e:TypeId} {k bs k2:Nat} {es es2:List (List DVal)} {sd:DVal} {dv sv:Value} {dst:Option Nat} (R:Rel B s a w loc) (qP:Cd B s<=n) (qT:∀i,dst=some i->i<B.nt)
  (ht:tElem P t=some (k,bs)) (yU:tElemId P t=some e) (hz:zeroOK P t=true) (hk:0<k) (qH:aC s loc w B.M0 id e k bs es dv) (fY:Br es<=n)
  (hsv:Bg s loc B.M0 w sd sv) (wH:JU s.own sd=some (k2,es2)) (zT:k2=k\/es2=[]) (jA:Br es2<=n) (hb:(es.length+es2.length)*bs<=150000000000000) (wI:bs<=65536) (hl:es.length+es2.length<=maxLen) :
  ∃v' w' L,(Builtin.append_ #[t,t] ty #[dv,sv]).run P w= .ok v' w'/\Rel B ⟨putS s.slots dst (.osl id n),upE s.own id n (.row e k bs (es++es2))⟩ (a.put dst v') w' (CS loc id L):=by
 obtain⟨e',i,hu,hi,qI,hby,_⟩:=Bx ht;have hee:e'=e:=by unfold tElemId at yU;rw[hu]at yU;simpa using yU
 subst hee
 obtain⟨z,yG,hzs⟩:∃z,i.zero=some z/\z.cells.size=k:=by
  unfold zeroOK at hz;rw[hu]at hz;simp only[hi]at hz
  cases hq:i.zero with
  | none=>simp[hq]at hz
  | some z=>simp only[hq,beq_iff_eq]at hz;exact⟨z,rfl,by rw[hz,qI]⟩
 obtain⟨rows2,q1,q2,q3,q4,q5,q6⟩:=Cw_ (B:=B) R.st hsv wH;have zH:(es++es2).length*bs<=150000000000000:=by simpa using hb
 have mx12:Br (es++es2)<=n:=by rw[BD];omega
 -- what the slot reads at the end
 have rdEnd:∀(L:Loc) (h:Array Obj) (obj:DObj),rd (Ac (upE s.own id n obj) (CS loc id L)) (Aa (upE s.own id n obj) (CS loc id L)++B.M0) h (.osl id n) L.hdr:=by
  intro L h obj;simp only[rd];intro l wW;rw[DD]at wW;simp only[aA0]at wW;rw[wW]
 rcases q6 with ⟨rfl,x,cap2,rfl⟩ | ⟨ad,cap2,rfl,q6⟩
 ·-- nothing is appended
  rw[bR0]at *
  rcases qH with ⟨rfl,rfl⟩ | ⟨e0,qY,hid,b,arr,cap,kM,rfl,h3,h4,h5,h6,h7⟩
  ·refine⟨_,w,⟨[],.slice none 0 0⟩,Eh hu hi (Nat.le_refl _),?_⟩;refine R.up (L:=⟨[],.slice none 0 0⟩) qP qT (Upd.refl _ _) (fun b hb _=>rfl) (fun b hb=>by simp at hb) (.inl (Nat.le_refl _)) ⟨by simp,.inl ⟨rfl,rfl,rfl⟩⟩ (rdEnd ⟨[],.slice none 0 0⟩ _ _)
  ·have h1:b∈(loc id).blks:=by rw[kM];simp
   refine⟨_,w,⟨[b],.slice (some ⟨b,0,none⟩) es.length cap⟩,Eh hu hi h4,?_⟩
   have hL:∀b0,b0∈(⟨[b],.slice (some ⟨b,0,none⟩) es.length cap⟩:Loc).blks->b0<w.heap.size/\((∃e∈s.own,e.id=id/\b0∈(loc id).blks)\/w.heap.size<=b0):=by
    intro b0 qR;simp only[aE0]at qR;subst qR;exact⟨(aC0.1 h3).1,.inl ⟨e0,qY,hid,h1⟩⟩
   have W:=R.weakUp (obj:= .row e' k bs es) (r:=n) qP (Upd.refl _ _) hL (.inl (Nat.le_refl _));exact R.up (L:=⟨[b],.slice (some ⟨b,0,none⟩) es.length cap⟩) qP qT (Upd.refl _ _) (fun b hb _=>rfl) hL (.inl (Nat.le_refl _)) ⟨zH,.inr ⟨b,arr,cap,rfl,rfl,h3,h4,h5,h6,Cu W k es arr 0 fY h7⟩⟩ (rdEnd ⟨[b],.slice (some ⟨b,0,none⟩) es.length cap⟩ _ _)
 ·by_cases gA:es2.length=0
  ·have:es2=[]:=bN0 gA;subst this;rw[bR0]at *;simp only[List.length_nil]at *
   rcases qH with ⟨rfl,rfl⟩ | ⟨e0,qY,hid,b,arr,cap,kM,rfl,h3,h4,h5,h6,h7⟩
   ·refine⟨_,w,⟨[],.slice none 0 0⟩,Eh hu hi (Nat.le_refl _),?_⟩;refine R.up (L:=⟨[],.slice none 0 0⟩) qP qT (Upd.refl _ _) (fun b hb _=>rfl) (fun b hb=>by simp at hb) (.inl (Nat.le_refl _)) ⟨by simp,.inl ⟨rfl,rfl,rfl⟩⟩ (rdEnd ⟨[],.slice none 0 0⟩ _ _)
   ·have h1:b∈(loc id).blks:=by rw[kM];simp
    refine⟨_,w,⟨[b],.slice (some ⟨b,0,none⟩) es.length cap⟩,Eh hu hi h4,?_⟩
    have hL:∀b0,b0∈(⟨[b],.slice (some ⟨b,0,none⟩) es.length cap⟩:Loc).blks->b0<w.heap.size/\((∃e∈s.own,e.id=id/\b0∈(loc id).blks)\/w.heap.size<=b0):=by
     intro b0 qR;simp only[aE0]at qR;subst qR;exact⟨(aC0.1 h3).1,.inl ⟨e0,qY,hid,h1⟩⟩
    have W:=R.weakUp (obj:= .row e' k bs es) (r:=n) qP (Upd.refl _ _) hL (.inl (Nat.le_refl _));exact R.up (L:=⟨[b],.slice (some ⟨b,0,none⟩) es.length cap⟩) qP qT (Upd.refl _ _) (fun b hb _=>rfl) hL (.inl (Nat.le_refl _)) ⟨zH,.inr ⟨b,arr,cap,rfl,rfl,h3,h4,h5,h6,Cu W k es arr 0 fY h7⟩⟩ (rdEnd ⟨[b],.slice (some ⟨b,0,none⟩) es.length cap⟩ _ _)
  ·have qZ:k2=k:=by
    rcases zT with h | h
    ·exact h
    ·subst h;simp at gA
   subst qZ;subst qI
   subst hby;have wW:es.length+es2.length<=9223372036854775807:=by unfold maxLen at hl;omega
   -- a new row, whatever it held before
   have fresh:∀(rows:List (List Value)) (cap:Nat),es.length<=cap\/True->rows.length=es.length->rows.flatten.length=es.length*i.size ->
     (∀(j:Nat) (cs:List DVal) (us:List Value),es[j]? =some cs->rows[j]? =some us->cs.length=i.size/\rdV (cu s loc) (hm s loc B.M0) w.heap cs us/\∀u∈us,u.oneCell'=true) ->
     Rel B ⟨putS s.slots dst (.osl id n),upE s.own id n (.row e' i.size i.bytes (es++es2))⟩ (a.put dst (.slice (some ⟨w.heap.size,0,none⟩) (es.length+es2.length) (grownCap w (es.length+es2.length) cap e')))
      (w.drew.alloc (.cells (rows.flatten.toArray++rows2.flatten.toArray++Builtin.zeroCells z.cells (grownCap w (es.length+es2.length) cap e'-(es.length+es2.length))) e')) (CS loc id ⟨[w.heap.size],.slice (some ⟨w.heap.size,0,none⟩) (es.length+es2.length) (grownCap w (es.length+es2.length) cap e')⟩):=by
    intro rows cap _ r1 r2 r3
    have hw:Upd (Aa s.own loc) w (w.drew.alloc (.cells (rows.flatten.toArray++rows2.flatten.toArray++Builtin.zeroCells z.cells (grownCap w (es.length+es2.length) cap e'-(es.length+es2.length))) e')) :=
     (Upd.drew _ w).trans (Upd.alloc _ w.drew _) (fun x hx=> .inl hx)
    have hL:∀b0,b0∈(⟨[w.heap.size],.slice (some ⟨w.heap.size,0,none⟩) (es.length+es2.length) (grownCap w (es.length+es2.length) cap e')⟩:Loc).blks->b0<(w.drew.alloc (.cells (rows.flatten.toArray++rows2.flatten.toArray++Builtin.zeroCells z.cells (grownCap w (es.length+es2.length) cap e'-(es.length+es2.length))) e')).heap.size/\((∃e∈s.own,e.id=id/\b0∈(loc id).blks)\/w.heap.size<=b0):=by
     intro b0 qR;simp only[aE0]at qR;subst qR;exact⟨by simp,.inr (Nat.le_refl _)⟩
    have W:=R.weakUp (obj:= .row e' i.size i.bytes (es++es2)) (r:=n) qP hw hL (.inl (Nat.le_refl _));have fI:=grownCap_ge w (es.length+es2.length) cap e';have hcm:=grownCap_le_maxLen w (es.length+es2.length) cap e' hl;refine R.up qP qT hw (fun b hb _=>by simp only[World.alloc,bS0,World.drew];rw[if_neg (by omega)]) hL (.inl (Nat.le_refl _)) ⟨zH,.inr ⟨w.heap.size,_,_,rfl,by simp,heap_alloc_new w.drew _,by simpa using fI,hcm,?_,?_⟩⟩ (rdEnd ⟨[w.heap.size],.slice (some ⟨w.heap.size,0,none⟩) (es.length+es2.length) (grownCap w (es.length+es2.length) cap e')⟩ _ _)
    ·simp only[Array.size_append,dJ0,size_zeroCells,hzs,r2,q3,<-bV0]
     congr 1
     omega
    ·have:=MU (k:=i.size) r1 q1 (Es W fY r3) (Es W jA q2) (Builtin.zeroCells z.cells (grownCap w (es.length+es2.length) cap e'-(es.length+es2.length))).toList
     have e1:(rows.flatten++rows2.flatten++(Builtin.zeroCells z.cells (grownCap w (es.length+es2.length) cap e'-(es.length+es2.length))).toList).toArray=rows.flatten.toArray++rows2.flatten.toArray++Builtin.zeroCells z.cells (grownCap w (es.length+es2.length) cap e'-(es.length+es2.length)):=by
      apply Array.ext';simp
     rw[e1]at this;exact this
   rcases qH with ⟨rfl,rfl⟩ | ⟨e0,qY,hid,b,arr,cap,kM,rfl,h3,h4,h5,h6,h7⟩
   ·have hr:=run_append_nil (P:=P) w t ty e' i z hu hi yG ad es2.length cap2 rows2.flatten q3 q6 (by omega) (by omega) (by simp only[List.length_nil,bQ0]at hb;omega);have hf:=fresh [] 0 (.inr trivial) rfl (by simp) (by simp);simp only[List.length_nil,bQ0,List.nil_append,List.flatten_nil,Array.empty_append]at hf hr |-;exact⟨_,_,_,hr,hf⟩
   ·have h1:b∈(loc id).blks:=by rw[kM];simp
    obtain⟨rows,r1,r2,r3,r4⟩:=Fv i.size es arr 0 h7;have dC:es.length*i.size<=arr.size:=by rw[<-h6];exact aW0 _ h4
    by_cases jQ:es.length+es2.length<=cap
    ·have vW:es.length*i.size+rows2.flatten.length<=arr.size:=by rw[q3,<-h6,<-bV0];exact aW0 _ jQ
     have hr:=run_append_room (P:=P) w t ty e' i hu hi b es.length cap arr h3 ad es2.length cap2 rows2.flatten q3 q6 q4 jQ vW;refine⟨_,_,⟨[b],.slice (some ⟨b,0,none⟩) (es.length+es2.length) cap⟩,hr,?_⟩;have hw:Upd (Aa s.own loc) w (w.setRow b (arr.toList.take (es.length*i.size)++rows2.flatten++arr.toList.drop (es.length*i.size+rows2.flatten.length)).toArray):=Upd.setRow qY (by rw[hid];exact h1) w _
     have hL:∀b0,b0∈(⟨[b],.slice (some ⟨b,0,none⟩) (es.length+es2.length) cap⟩:Loc).blks->b0<(w.setRow b (arr.toList.take (es.length*i.size)++rows2.flatten++arr.toList.drop (es.length*i.size+rows2.flatten.length)).toArray).heap.size/\((∃e∈s.own,e.id=id/\b0∈(loc id).blks)\/w.heap.size<=b0):=by
      intro b0 qR;simp only[aE0]at qR;subst qR;refine⟨?_,.inl ⟨e0,qY,hid,h1⟩⟩;have:=(aC0.1 h3).1;simpa using this
     have W:=R.weakUp (obj:= .row e' i.size i.bytes (es++es2)) (r:=n) qP hw hL (.inl (Nat.le_refl _));refine R.up qP qT hw ?_ hL (.inl (Nat.le_refl _)) ⟨zH,.inr ⟨b,_,cap,rfl,by simp,setRow_heap w b arr _ e' (0,0) h3,by simpa using jQ,h5,?_,?_⟩⟩ (rdEnd ⟨[b],.slice (some ⟨b,0,none⟩) (es.length+es2.length) cap⟩ _ _)
     ·intro b0 qR qF;refine setRow_other w b b0 _ (fun h=>qF e0 qY hid ?_);rw[h];exact h1
     ·simp only[dJ0,aD0,aY0,cD0,bI0];omega
     ·have nQ:=HT r2 r4 dC;have hj:=MU r1 q1 (Es W fY r3) (Es W jA q2) (arr.toList.drop (es.length*i.size+rows2.flatten.length));rw[<-nQ]at hj;exact hj
    ·have hr:=run_append_grow (P:=P) w t ty e' i z hu hi yG ⟨b,0,none⟩ es.length cap rows.flatten r2 (fun j v hj=>by rw[CD];simp only[World.cell?,h3];exact(r4 j v hj).1) ad es2.length cap2 rows2.flatten q3 q6 (by omega) (by omega) (Gt_ (by omega) hb wI);exact⟨_,_,_,hr,fresh rows cap (.inl h4) r1 r2 r3⟩
end
end Go.Dm
end
