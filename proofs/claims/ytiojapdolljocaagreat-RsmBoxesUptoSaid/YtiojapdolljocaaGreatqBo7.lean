/- Parts of a proof, laid together: EnI1, EnI2. -/
import Derived.Laws.MakeOwn
import Derived.Test.YtiojapdolljocaaGreatqBo6
set_option linter.unusedSimpArgs false
set_option maxHeartbeats 8000000
set_option linter.unusedVariables false
set_option linter.unusedSectionVars false
section
namespace Go.Dm
variable [DMode]
def WH : Value->Bool
 | .bool _ | .int _ _ | .string _=>true
 | _=>false
theorem DK_ {a b:ByteArray}:(a==b)=true↔a=b:=by
 rw[<-LC,beq_iff_eq]
 constructor
 ·intro h;cases a;cases b;simp at h;rw[h]
 ·rintro rfl;rfl
def QW (ks:List DVal) (k:DVal):List DVal:=match AU ks k with
 | some _=>ks
 | none=>ks++[k]
def QV (ks vs:List DVal) (k x:DVal):List DVal:=match AU ks k with
 | some j=>vs.set j x
 | none=>vs++[x]
theorem Ni (a b:List DVal):AH (a++b)=max (AH a) (AH b):=by
 induction a with
 | nil=>simp[AH]
 | cons d a ih=>simp only[List.cons_append,AH,ih];omega
theorem CL_ (a:List DVal) (j:Nat) (d:DVal):AH (a.set j d)<=max (AH a) (mx d):=by
 induction a generalizing j with
 | nil=>simp[AH]
 | cons x a ih =>
  cases j with
  | zero=>simp only[eI0,AH];omega
  | succ j=>have:=ih j;simp only[List.set_cons_succ,AH];omega
theorem VY (ks:List DVal) (k:DVal):AH (QW ks k)<=max (AH ks) (mx k):=by
 unfold QW
 split
 ·omega
 ·rw[Ni];simp[AH]
theorem VX (ks vs:List DVal) (k x:DVal):AH (QV ks vs k x)<=max (AH vs) (mx x):=by
 unfold QV
 split
 ·exact CL_ _ _ _
 ·rw[Ni];simp[AH]
section
variable {cur : Er} {M : List Nat} {h : Array Obj}
theorem aY : ∀{ds:List DVal} {vs:List Value} {j:Nat} {d:DVal} {v:Value},Au cur M h ds vs->rd cur M h d v->Au cur M h (ds.set j d) (vs.set j v)
 | [],vs,j,d,v,h1,h2=>by simp only[Au]at h1;subst h1;simp[Au]
 | a::ds,vs,j,d,v,h1,h2=>by
  simp only[Au]at h1;obtain⟨u,r,rfl,h3,h4⟩:=h1
  cases j with
  | zero=>simp only[eI0,Au];exact⟨v,r,rfl,h2,h4⟩
  | succ j=>simp only[List.set_cons_succ,Au];exact⟨u,_,rfl,h3,aY h4 h2⟩
theorem SD : ∀{cks:List CK} {xs ys:List DVal} {us vs:List Value},Bj cks xs=true->Bj cks ys=true->BY xs ys=true->Au cur M h xs us->Au cur M h ys vs->us=vs/\us.all WH=true
 | [],[],[],us,vs,_,_,_,h1,h2=>by simp only[Au]at h1 h2;subst h1;subst h2;simp
 | c::cks,x::xs,y::ys,us,vs,hx,hy,he,h1,h2=>by
  simp only[Bj,aN0]at hx hy;simp only[BY,aN0]at he;simp only[Au]at h1 h2;obtain⟨u,ur,rfl,h3,h4⟩:=h1;obtain⟨v,vr,rfl,h5,h6⟩:=h2;obtain⟨e1,e2⟩:=SD hx.2 hy.2 he.2 h4 h6
  have:u=v/\WH u=true:=by
   have hx1:=hx.1;have hy1:=hy.1;have bX:=he.1;cases c<;>cases x<;>simp only[MQ]at hx1<;>first | (simp at hx1;done) | skip
   all_goals cases y<;>simp only[MQ]at hy1<;>first | (simp at hy1;done) | skip
   ·simp only[rd]at h3 h5;simp only[SE,beq_iff_eq]at bX;subst h3;subst h5;subst bX;exact⟨rfl,rfl⟩
   ·simp only[rd]at h3 h5;simp only[SE,beq_iff_eq]at bX hx1 hy1;obtain⟨rfl,_⟩:=h3;obtain⟨rfl,_⟩:=h5;subst hx1;subst hy1;subst bX;exact⟨rfl,rfl⟩
   ·simp only[rd]at h3 h5;simp only[SE,DK_]at bX;obtain⟨rfl,_⟩:=h3;obtain⟨rfl,_⟩:=h5;subst bX;exact⟨rfl,rfl⟩
  obtain⟨rfl,hu⟩:=this;subst e1;exact⟨rfl,by simp only[dA0,aN0];exact⟨hu,e2⟩⟩
 | [],_::_,_,_,_,hx,_,_,_,_=>by simp[Bj]at hx
 | [],[],_::_,_,_,_,hy,_,_,_=>by simp[Bj]at hy
 | _::_,[],_,_,_,hx,_,_,_,_=>by simp[Bj]at hx
 | _::_,_::_,[],_,_,_,hy,_,_,_=>by simp[Bj]at hy
theorem JT : ∀(n:Nat) (v:Value),WH v=true->Instr.sameBits n v v=true:=by
 intro n v hv;cases v<;>simp[WH]at hv<;>cases n<;>simp[Instr.sameBits,DK_]
theorem AA_ {P:Program} {kt:TypeId} {x k:DVal} {u v:Value} (hx:Cf P kt x=true) (hk:Cf P kt k=true) (he:BY (BO x) (BO k)=true) (rx:rd cur M h x u) (rk:rd cur M h k v):v=u/\Instr.sameBits 10000 v u=true:=by
 unfold Cf at hx hk
 split at hx
 ·rename_i cks b hf hb;simp only[hf,hb,aN0,beq_iff_eq]at hx hk;obtain⟨us,h1,rfl⟩:=FT hx.2 rx;obtain⟨vs,h2,rfl⟩:=FT hk.2 rk;obtain⟨rfl,h3⟩:=SD hx.1 hk.1 he h1 h2;refine⟨rfl,?_⟩
  cases b with
  | false =>
   simp only[valOf]
   match us,h1,h2,hx,hk,h3 with
   | [],h1,h2,hx,hk,h3 =>
    have hl:=Ap _ _ h1;have qG:=hx.2;cases x<;>simp[BO,PL]at hl qG
   | u::r,h1,h2,hx,hk,h3 =>
    simp only[dA0,aN0]at h3;simp;exact JT _ _ h3.1
  | true =>
   simp only[valOf,if_true];rw[show (10000:Nat)=9999+1 from rfl];simp only[Instr.sameBits,beq_self_eq_true,dO0,bB0];intro p hp
   have hz:∀(l:List Value),l.all WH=true->∀p∈l.zip l,Instr.sameBits 9999 p.1 p.2=true:=by
    intro l
    induction l with
    | nil=>intro _ p hp;simp at hp
    | cons a l ih =>
     intro ha p hp;simp only[dA0,aN0]at ha;simp only[List.zip_cons_cons,aJ0]at hp
     rcases hp with rfl | hp
     ·exact JT _ _ ha.1
     ·exact ih ha.2 p hp
   exact hz us h3 p (by simpa using hp)
 ·simp at hx
theorem Wi : ∀{ks:List DVal} {x:DVal} {j:Nat},AU ks x=some j->∃k,ks[j]? =some k/\BY (BO x) (BO k)=true
 | k::ks,x,j,hh=>by
  simp only[AU]at hh
  split at hh
  ·rename_i he;simp only[aA0]at hh;subst hh;exact⟨k,rfl,he⟩
  ·rw[bA0]at hh;obtain⟨i,h1,rfl⟩:=hh;obtain⟨k',h2,h3⟩:=Wi h1;exact⟨k',by simpa using h2,h3⟩
end
section
variable {P : Program} {B : Base} {s : DS} {a : Act} {w : World} {loc : Nat -> Loc}
theorem Rel.newMap {id n:Nat} {dst:Option Nat} (R:Rel B s a w loc) (qB:BU B s<=n) (qH:∀i,dst=some i->i<B.nt) :
  Rel B ⟨Bs s.slots dst (.omp id n),upE s.own id n (.map [] [])⟩ (a.put dst (.map (some w.heap.size))) (w.alloc (.map #[] 0)) (CG loc id ⟨[w.heap.size],Go.undef⟩):=by
 have hw:=Upd.alloc (Aa s.own loc) w (.map #[] 0)
 have hL:∀b,b∈(⟨[w.heap.size],Go.undef⟩:Loc).blks->b<(w.alloc (.map #[] 0)).heap.size/\((∃e∈s.own,e.id=id/\b∈(loc id).blks)\/w.heap.size<=b):=by
  intro b hb;simp only[aE0]at hb;subst hb;exact⟨by simp,.inr (Nat.le_refl _)⟩
 refine R.up qB qH hw (fun b hb _=>by simp only[World.alloc,bO0];rw[if_neg (by omega)]) hL (.inl (Nat.le_refl _)) ?_ ?_
 ·refine⟨w.heap.size, #[],0,rfl,heap_alloc_new w _,⟨by simp,by simp⟩,by simp[Au],by simp[Au]⟩
 ·simp only[rd];intro l hl;rw[Dk]at hl;simp only[aA0]at hl;subst hl;exact⟨_,rfl,rfl⟩
theorem Rel.updMap {id r n:Nat} {ks vs:List DVal} {e:Ent} {t kt et:TypeId} {k x:DVal} {mv kv xv:Value} (R:Rel B s a w loc) (he:Aj s.own id=some e) (qS:e.r=r) (qO:e.obj= .map ks vs)
  (ha:Bb s loc B.M0 w (.omp id r) mv) (hk:Bb s loc B.M0 w k kv) (hx:Bb s loc B.M0 w x xv) (ht:tMap P t=some (kt,et)) (hko:Cf P kt k=true) (fK:ks.all (Cf P kt)=true)
  (hmk:mx k<=Jp s.slots) (vU:mx x<=Jp s.slots) (hn:BU B s<=n) :
  ∃w',(Instr.mapUpdate t mv kv xv).run P w= .ok () w'/\Rel B ⟨s.slots,upE s.own id r (.map (QW ks k) (QV ks vs k x))⟩ a w' (CG loc id (loc id)):=by
 obtain⟨qY,hid⟩:=AN he;have bI:=R.st.ok e qY;rw[qO]at bI;obtain⟨b,es,clk,h1,h2,h3,h4,h5⟩:=bI;rw[hid]at h1;have qL:Ad s.own loc id r=some (loc id):=by unfold Ad;rw[he];simp[qS]
 simp only[Bb,rd]at ha;obtain⟨b',qG,rfl⟩:=ha _ qL;have qR:b∈(loc id).blks:=by rw[h1];simp
 rw[h1]at qG;simp only[bG0,and_true]at qG;subst qG;have hu:P.underlying t=some (.map kt et):=by unfold tMap at ht;split at ht<;>simp_all
 have cL:=Gf (w:=w) hko hk es.toList ks fK h4;have cV:=Ap _ _ h4;have wC:=Ap _ _ h5;simp only[aO0,bI0]at cV wC;have jM:=(aC0.1 h2).1;have vQ:=(Bi qY).2;rw[qO]at vQ;simp only[Ez]at vQ
 -- the world behind it
 have main:∀(es':Array MapEntry) (clk':Nat),MS es' clk'->Au (cu s loc) (hm s loc B.M0) w.heap (QW ks k) (es'.toList.map (·.key))->Au (cu s loc) (hm s loc B.M0) w.heap (QV ks vs k x) (es'.toList.map (·.val)) ->
   Rel B ⟨s.slots,upE s.own id r (.map (QW ks k) (QV ks vs k x))⟩ a { w with heap:=w.heap.setIfInBounds b (.map es' clk') } (CG loc id (loc id)):=by
  intro es' clk' hb kM fM
  have hw:Upd (Aa s.own loc) w { w with heap:=w.heap.setIfInBounds b (.map es' clk') }:=by
   refine⟨rfl,rfl,rfl,fun _=>Nat.le_refl _,by simp,fun b0 _ hn0=> ?_⟩;have qE:b≠b0:=fun h=>hn0 (h▸AZ qY (by rw[hid];exact qR))
   simp[cO0,qE]
  have hL:∀b0,b0∈(loc id).blks->b0<({ w with heap:=w.heap.setIfInBounds b (.map es' clk') }:World).heap.size/\((∃e∈s.own,e.id=id/\b0∈(loc id).blks)\/w.heap.size<=b0):=by
   intro b0 qC;refine⟨?_,.inl ⟨e,qY,hid,qC⟩⟩;rw[h1]at qC;simp only[aE0]at qC;subst qC;simpa using jM
  have W:=R.weakUp (obj:= .map (QW ks k) (QV ks vs k x)) hn hw hL (.inr qL);unfold BU at hn;refine R.up (hLn:=by rw[h1];simp) (dst:=none) (v:=Go.undef) (d:= .any) (n:=n) (by unfold BU;exact hn) (fun i hi=>by simp at hi) hw ?_ hL (.inr qL) ?_ (by simp[rd])
  ·intro b0 qC qE;have hne':b≠b0:=fun h=>qE e qY hid (by rw[<-h];exact qR)
   simp[cO0,hne']
  ·refine⟨b,es',clk',h1,by simp[cO0,jM],hb,AQ W _ _ ?_ kM,AQ W _ _ ?_ fM⟩
   ·have:=VY ks k;omega
   ·have:=VX ks vs k x;omega
 simp only[Instr.mapUpdate,Sem.run_bind,run_underlying hu,Result.andThen_ok,MapKept.run_getObj_map h2,EF hko hk,cL]
 cases hq:AU ks k with
 | none =>
  simp only[Option.map_none];refine⟨_,MapKept.run_setObj_map _ h2,main _ _ ?_ ?_ ?_⟩
  ·obtain⟨g1,g2⟩:=h3;refine⟨?_,?_⟩
   ·simp only[Array.toList_push,bF0,List.map_cons,List.map_nil];rw[bS0];refine⟨g1,by simp,?_⟩;intro c hc c' cF wI;simp only[aE0]at cF;obtain⟨e',vE,rfl⟩:=aR0.1 hc;have:=g2 e' vE;omega
   ·intro e' vE;simp only[Array.toList_push,aI0,aE0]at vE
    rcases vE with vE | rfl
    ·have:=g2 e' vE;omega
    ·simp
  ·unfold QW;rw[hq];simp only[Array.toList_push,bF0,List.map_cons,List.map_nil];exact BW _ _ _ _ h4 (by simp only[Au];exact⟨kv,[],rfl,hk,rfl⟩)
  ·unfold QV;rw[hq];simp only[Array.toList_push,bF0,List.map_cons,List.map_nil];exact BW _ _ _ _ h5 (by simp only[Au];exact⟨xv,[],rfl,hx,rfl⟩)
 | some j =>
  simp only[dK0];obtain⟨k0,zU,heq⟩:=Wi hq;obtain⟨v0,kI,bW⟩:=Mu _ _ j k0 h4 zU
  have hjlt:j<es.size:=by
   have:=(aG0.1 zU).1;omega
  have hkey:(es[j]?).map (·.key)=some v0:=by
   rw[bM0]at kI;simpa using kI
  obtain⟨rfl,hsb⟩:=AA_ hko (bB0.1 fK k0 (bU0 zU)) heq hk bW;simp only[hkey,bZ0,Instr.keyThatStays,hsb,if_true,Sem.run_pure,Result.andThen_ok];refine⟨_,MapKept.run_setObj_map _ h2,main _ _ ?_ ?_ ?_⟩
  ·obtain⟨g1,g2⟩:=h3
   have gJ:(es.modify j fun e=>{ e with key:=v0,val:=xv }).toList.map (·.born)=es.toList.map (·.born):=by
    apply eN0
    intro i;simp only[bM0,dZ0,cD0]
    split
    ·cases es[i]? <;>simp
    ·rfl
   refine⟨by rw[gJ];exact g1,?_⟩;intro e' vE;have:e'.born∈(es.modify j fun e=>{ e with key:=v0,val:=xv }).toList.map (·.born):=cP0 (f:=(·.born)) vE;rw[gJ]at this;obtain⟨e0,vG,qC⟩:=aR0.1 this;rw[<-qC];exact g2 e0 vG
  ·unfold QW;rw[hq]
   have cZ:(es.modify j fun e=>{ e with key:=v0,val:=xv }).toList.map (·.key)=es.toList.map (·.key):=by
    apply eN0
    intro i;simp only[bM0,dZ0,cD0]
    split
    ·rename_i yU;subst yU;rw[hkey];cases wB:es[j]? <;>simp_all
    ·rfl
   rw[cZ];exact h4
  ·unfold QV;rw[hq]
   have hvals:(es.modify j fun e=>{ e with key:=v0,val:=xv }).toList.map (·.val)=(es.toList.map (·.val)).set j xv:=by
    apply eN0
    intro i;simp only[bM0,dZ0,cD0,List.getElem?_set,aO0,bI0]
    split
    ·rename_i yU;subst yU;simp[hjlt]
    ·rfl
   rw[hvals];exact aY h5 hx
def Ql (ks:List DVal) (k:DVal):List DVal:=match AU ks k with | some j=>ks.eraseIdx j | none=>ks
def Qk (ks vs:List DVal) (k:DVal):List DVal:=match AU ks k with | some j=>vs.eraseIdx j | none=>vs
theorem MA : ∀(l:List DVal) (j:Nat),AH (l.eraseIdx j)<=AH l
 | [],_=>by simp
 | d::l,0=>by simp only[List.eraseIdx_cons_zero,AH];omega
 | d::l,j+1=>by have:=MA l j;simp only[List.eraseIdx_cons_succ,AH];omega
theorem Wb (ks:List DVal) (k:DVal):AH (Ql ks k)<=AH ks:=by
 unfold Ql;split
 ·exact MA _ _
 ·exact Nat.le_refl _
theorem Wa (ks vs:List DVal) (k:DVal):AH (Qk ks vs k)<=AH vs:=by
 unfold Qk;split
 ·exact MA _ _
 ·exact Nat.le_refl _
theorem Mt {cur:Er} {M:List Nat} {h:Array Obj}:∀{ds:List DVal} {vs:List Value} (j:Nat),Au cur M h ds vs->Au cur M h (ds.eraseIdx j) (vs.eraseIdx j)
 | [],vs,j,hr=>by simp only[Au]at hr;subst hr;simp[Au]
 | d::ds,vs,0,hr=>by
  simp only[Au]at hr;obtain⟨v,r,rfl,_,h2⟩:=hr;simpa using h2
 | d::ds,vs,j+1,hr=>by
  simp only[Au]at hr;obtain⟨v,r,rfl,h1,h2⟩:=hr;simp only[List.eraseIdx_cons_succ,Au];exact⟨v,_,rfl,h1,Mt j h2⟩
theorem GW {α β:Type} (f:α->β):∀(l:List α) (j:Nat),(l.eraseIdx j).map f=(l.map f).eraseIdx j
 | [],_=>by simp
 | _::l,0=>by simp
 | _::l,j+1=>by simp[GW f l j]
theorem Rel.delMap {id r n:Nat} {ks vs:List DVal} {e:Ent} {t kt et t2 ty:TypeId} {k:DVal} {mv kv:Value} {dst:Option Nat} (R:Rel B s a w loc) (he:Aj s.own id=some e) (qS:e.r=r) (qO:e.obj= .map ks vs)
  (ha:Bb s loc B.M0 w (.omp id r) mv) (hk:Bb s loc B.M0 w k kv) (ht:tMap P t=some (kt,et)) (hko:Cf P kt k=true) (fK:ks.all (Cf P kt)=true)
  (hn:BU B s<=n) (qH:∀i,dst=some i->i<B.nt) :
  ∃w',(Builtin.delete_ #[t,t2] ty #[mv,kv]).run P w= .ok (.tuple #[]) w'/\Rel B ⟨Bs s.slots dst (.tup []),upE s.own id r (.map (Ql ks k) (Qk ks vs k))⟩ (a.put dst (.tuple #[])) w' (CG loc id (loc id)):=by
 obtain⟨qY,hid⟩:=AN he;have bI:=R.st.ok e qY;rw[qO]at bI;obtain⟨b,es,clk,h1,h2,h3,h4,h5⟩:=bI;rw[hid]at h1;have qL:Ad s.own loc id r=some (loc id):=by unfold Ad;rw[he];simp[qS]
 simp only[Bb,rd]at ha;obtain⟨b',qG,rfl⟩:=ha _ qL;have qR:b∈(loc id).blks:=by rw[h1];simp
 rw[h1]at qG;simp only[bG0,and_true]at qG;subst qG;have hu:P.underlying t=some (.map kt et):=by unfold tMap at ht;split at ht<;>simp_all
 have cL:=Gf (w:=w) hko hk es.toList ks fK h4;have cV:=Ap _ _ h4;simp only[aO0,bI0]at cV;have jM:=(aC0.1 h2).1;have vQ:=(Bi qY).2;rw[qO]at vQ;simp only[Ez]at vQ
 have main:∀(es':Array MapEntry) (clk':Nat),MS es' clk'->Au (cu s loc) (hm s loc B.M0) w.heap (Ql ks k) (es'.toList.map (·.key))->Au (cu s loc) (hm s loc B.M0) w.heap (Qk ks vs k) (es'.toList.map (·.val)) ->
   Rel B ⟨Bs s.slots dst (.tup []),upE s.own id r (.map (Ql ks k) (Qk ks vs k))⟩ (a.put dst (.tuple #[])) { w with heap:=w.heap.setIfInBounds b (.map es' clk') } (CG loc id (loc id)):=by
  intro es' clk' hb kM fM
  have hw:Upd (Aa s.own loc) w { w with heap:=w.heap.setIfInBounds b (.map es' clk') }:=by
   refine⟨rfl,rfl,rfl,fun _=>Nat.le_refl _,by simp,fun b0 _ hn0=> ?_⟩;have qE:b≠b0:=fun h=>hn0 (h▸AZ qY (by rw[hid];exact qR))
   simp[cO0,qE]
  have hL:∀b0,b0∈(loc id).blks->b0<({ w with heap:=w.heap.setIfInBounds b (.map es' clk') }:World).heap.size/\((∃e∈s.own,e.id=id/\b0∈(loc id).blks)\/w.heap.size<=b0):=by
   intro b0 qC;refine⟨?_,.inl ⟨e,qY,hid,qC⟩⟩;rw[h1]at qC;simp only[aE0]at qC;subst qC;simpa using jM
  have W:=R.weakUp (obj:= .map (Ql ks k) (Qk ks vs k)) hn hw hL (.inr qL);unfold BU at hn;refine R.up (hLn:=by rw[h1];simp) (n:=n) (by unfold BU;exact hn) qH hw ?_ hL (.inr qL) ?_ (by simp only[rd];exact⟨#[],rfl,by simp[Au]⟩)
  ·intro b0 qC qE;have hne':b≠b0:=fun h=>qE e qY hid (by rw[<-h];exact qR)
   simp[cO0,hne']
  ·refine⟨b,es',clk',h1,by simp[cO0,jM],hb,AQ W _ _ ?_ kM,AQ W _ _ ?_ fM⟩
   ·have:=Wb ks k;omega
   ·have:=Wa ks vs k;omega
 simp only[Builtin.delete_,dJ0,Sem.run_bind,run_underlying hu,Result.andThen_ok,MapKept.run_getObj_map h2,EF hko hk,cL,dG0,aZ0,bJ0]
 cases hq:AU ks k with
 | none =>
  simp only[Option.map_none,Sem.run_bind,MapKept.run_setObj_map _ h2,Result.andThen_ok,Sem.run_pure];refine⟨_,rfl,main _ _ h3 ?_ ?_⟩
  ·unfold Ql;rw[hq];exact h4
  ·unfold Qk;rw[hq];exact h5
 | some j =>
  simp only[dK0,Sem.run_bind,MapKept.run_setObj_map _ h2,Result.andThen_ok,Sem.run_pure];have hto:(es.eraseIdxIfInBounds j).toList=es.toList.eraseIdx j:=by simp
  refine⟨_,rfl,main _ _ ⟨?_,?_⟩ ?_ ?_⟩
  ·rw[hto];exact h3.1.sublist ((List.eraseIdx_sublist _ _).map _)
  ·intro e' vE;rw[hto]at vE;exact h3.2 e' ((List.eraseIdx_sublist _ _).subset vE)
  ·unfold Ql;rw[hq,hto,GW];exact Mt j h4
  ·unfold Qk;rw[hq,hto,GW];exact Mt j h5
end
theorem Za {cur:Er} {M:List Nat} {H:Array Obj} {cs ds:List DVal} {arr:Array Value} {vs:List Value} {o j:Nat} (hr:Dz cur M H cs arr o) (hv:Au cur M H ds vs) (qD:∀u∈vs,u.oneCell'=true)
  (vL:j+ds.length<=cs.length) (qF:o+cs.length<=arr.size):Dz cur M H (Dg cs j ds) (arr.toList.take (o+j)++vs++arr.toList.drop (o+j+vs.length)).toArray o:=by
 have fO:=Ap _ _ hv;unfold Dg;refine Ld _ _ _ _ (Ld _ _ _ _ ?_ ?_) ?_
 ·refine CJ _ arr _ o o (fun q hq=> ?_) (Lc j _ _ _ hr);have zE:q<j:=by simp at hq;omega
  simp only[dG0,aT0];rw[aV0 (by simp;omega),bL0 (by omega)];simp
 ·have h:=Gv ds vs (arr.toList.take (o+j)) (arr.toList.drop (o+j+vs.length)) hv qD;have e1:o+(cs.take j).length=(arr.toList.take (o+j)).length:=by simp;omega
  rw[e1];exact h
 ·have hdr:=EM (j+ds.length) cs arr o hr;have e1:o+(cs.take j++ds).length=o+(j+ds.length):=by simp;omega
  rw[e1];refine CJ _ arr _ _ _ (fun q hq=> ?_) hdr;simp only[dG0];rw[aX0 (by simp;omega),cJ0];have e2:o+j+vs.length+(o+(j+ds.length)+q-(arr.toList.take (o+j)++vs).length)=o+(j+ds.length)+q:=by simp;omega
  rw[e2];simp
theorem Tt {arr:Array Value} {vs:List Value} {off q:Nat} (qF:off+vs.length<=arr.size) (hq:q<off\/off+vs.length<=q):(arr.toList.take off++vs++arr.toList.drop (off+vs.length)).toArray[q]? =arr[q]? :=by
 simp only[dG0]
 rcases hq with hq | hq
 ·rw[aT0,aV0 (by simp;omega),bL0 hq];simp
 ·rw[aX0 (by simp;omega),cJ0];have e2:off+vs.length+(q-(arr.toList.take off++vs).length)=q:=by simp;omega
  rw[e2];simp
theorem Dh {i k n:Nat} (h:i<n):i*k+k<=n*k:=by
 have:=aY0 k (show i+1<=n from h)
 rwa[bR0,Nat.one_mul]at this
theorem Ch_ {cur:Er} {M:List Nat} {H:Array Obj} {k i j:Nat} {es:List (List DVal)} {c0 ds:List DVal} {arr:Array Value} {vs:List Value} (hr:Em cur M H k es arr 0) (hi:es[i]? =some c0) (hv:Au cur M H ds vs) (qD:∀u∈vs,u.oneCell'=true)
  (vL:j+ds.length<=k) (qF:es.length*k<=arr.size):Em cur M H k (es.set i (Dg c0 j ds)) (arr.toList.take (i*k+j)++vs++arr.toList.drop (i*k+j+vs.length)).toArray 0:=by
 have fO:=Ap _ _ hv;have fN:i<es.length:=(aG0.1 hi).1;have wN:=Dh (k:=k) fN;obtain⟨yN,bW⟩:=DZ k es arr 0 i c0 hr hi;refine FD _ _ _ _ fun q cs hq=> ?_
 rw[List.getElem?_set]at hq
 split at hq
 ·rename_i hiq;subst hiq
  (try simp only[fN,if_true]at hq);simp only[aA0]at hq
  subst hq;refine⟨by simp[Dg];omega,?_⟩;simp only[bN0]at bW |-;exact Za bW hv qD (by omega) (by omega)
 ·rename_i hiq;obtain⟨g1,g2⟩:=DZ k es arr 0 q cs hr hq;have hql:q<es.length:=(aG0.1 hq).1;refine⟨g1,CJ cs arr _ _ _ (fun p hp=>Tt (by omega) ?_) g2⟩
  rcases Nat.lt_or_gt_of_ne hiq with h | h
  ·have:=Dh (k:=k) h;omega
  ·have:=Dh (k:=k) h;omega
theorem TW {n:Nat} {cs:List DVal}:∀(es:List (List DVal)) (i:Nat),Bo es<=n->AH cs<=n->Bo (es.set i cs)<=n
 | [],_,_,_=>by simp[Bo]
 | e::es,0,h,hc=>by simp only[eI0,Bo]at h |-;omega
 | e::es,i+1,h,hc=>by
  simp only[List.set_cons_succ,Bo]at h |-;have:=TW es i (by omega) hc;omega
theorem Al_ {es:List (List DVal)} {i:Nat} {c:List DVal} (h:es[i]? =some c):AH c<=Bo es:=by
 induction es generalizing i with
 | nil=>simp at h
 | cons e es ih =>
  cases i with
  | zero=>simp only[aZ0,aA0]at h;subst h;simp only[Bo];omega
  | succ i=>have:=ih (i:=i) (by simpa using h);simp only[Bo];omega
section
variable {P : Program} {B : Base} {s : DS} {a : Act} {w : World} {loc : Nat -> Loc}
theorem Rel.writeRow {id r n et k bs cap b:Nat} {e:Ent} {es es':List (List DVal)} {arr arr':Array Value} (R:Rel B s a w loc) (he:Aj s.own id=some e) (qS:e.r=r) (qO:e.obj= .row et k bs es)
  (h1:(loc id).blks=[b]) (h2:(loc id).hdr= .slice (some ⟨b,0,none⟩) es.length cap) (h3:w.heap[b]? =some (.cells arr et (0,0))) (h4:es.length<=cap) (h5:cap<=maxLen) (h6:cap*k=arr.size) (h7:es.length*bs<=150000000000000)
  (qU:es'.length=es.length) (qF:arr'.size=arr.size) (wT:Em (cu s loc) (hm s loc B.M0) w.heap k es' arr' 0) (vU:Bo es'<=n) (hn:BU B s<=n)
  {dst:Option Nat} {d:DVal} {v:Value} (qH:∀i,dst=some i->i<B.nt) (zT:∀cur M h,rd cur M h d v) :
  Rel B ⟨Bs s.slots dst d,upE s.own id r (.row et k bs es')⟩ (a.put dst v) (w.setRow b arr') (CG loc id (loc id)):=by
 obtain⟨qY,hid⟩:=AN he;have qL:Ad s.own loc id r=some (loc id):=by unfold Ad;rw[he];simp[qS]
 have qR:b∈(loc id).blks:=by rw[h1];simp
 have hw:Upd (Aa s.own loc) w (w.setRow b arr'):=Upd.setRow qY (by rw[hid];exact qR) w _
 have hL:∀b0,b0∈(loc id).blks->b0<(w.setRow b arr').heap.size/\((∃e∈s.own,e.id=id/\b0∈(loc id).blks)\/w.heap.size<=b0):=by
  intro b0 qC;refine⟨?_,.inl ⟨e,qY,hid,qC⟩⟩;rw[h1]at qC;simp only[aE0]at qC;subst qC;have:=(aC0.1 h3).1;simpa using this
 have W:=R.weakUp (obj:= .row et k bs es') hn hw hL (.inr qL);refine R.up (hLn:=by rw[h1];simp) (n:=n) hn qH hw ?_ hL (.inr qL) ?_ (zT _ _ _)
 ·intro b0 qC qE;refine setRow_other w b b0 _ (fun h=>qE e qY hid ?_);rw[h];exact qR
 ·exact⟨by rw[qU];exact h7,.inr ⟨b,arr',cap,h1,by rw[qU];exact h2,setRow_heap w b arr _ et (0,0) h3,by omega,h5,by omega,Cj W k es' arr' 0 vU wT⟩⟩
theorem Tv (S:St s.own loc B.M0 w.heap) {id et k bs:Nat} {es:List (List DVal)} {e:Ent} (he:Aj s.own id=some e) (qO:e.obj= .row et k bs es) (qE:es≠[]) :
  es.length*bs<=150000000000000/\∃b arr cap,(loc id).blks=[b]/\(loc id).hdr= .slice (some ⟨b,0,none⟩) es.length cap/\w.heap[b]? =some (.cells arr et (0,0))/\es.length<=cap/\cap<=maxLen/\cap*k=arr.size/\Em (cu s loc) (hm s loc B.M0) w.heap k es arr 0:=by
 obtain⟨qY,hid⟩:=AN he;have hk:=S.ok e qY;rw[qO]at hk;obtain⟨h0,hk⟩:=hk;rw[hid]at hk;refine⟨h0,?_⟩
 rcases hk with ⟨h,_⟩ | h
 ·exact absurd h qE
 ·exact h
theorem Rel.storeRow {id r n i j:Nat} {et k bs:Nat} {es:List (List DVal)} {c0:List DVal} {e:Ent} {d:DVal} {t:TypeId} {v:Value} {ad:Value} (R:Rel B s a w loc) (he:Aj s.own id=some e) (qS:e.r=r) (qO:e.obj= .row et k bs es)
  (ha:Bb s loc B.M0 w (.rx id r k i j) ad) (hd:Bb s loc B.M0 w d v) (hp:Cq s.own d=true) (hc:tCells P t=some (AD d).length) (hi:es[i]? =some c0) (vL:j+(AD d).length<=k) (vU:mx d<=Jp s.slots) (hn:BU B s<=n) :
  ∃w',(Instr.storeAt t ad v).run P w= .ok () w'/\Rel B ⟨s.slots,upE s.own id r (.row et k bs (es.set i (Dg c0 j (AD d))))⟩ a w' (CG loc id (loc id)):=by
 have fN:i<es.length:=(aG0.1 hi).1;obtain⟨h7,b,arr,cap,h1,h2,h3,h4,h5,h6,wN⟩:=Tv (B:=B) R.st he qO (by intro h;subst h;simp at fN);have qL:Ad s.own loc id r=some (loc id):=by unfold Ad;rw[he];simp[qS]
 simp only[Bb,rd]at ha;obtain⟨b',qG,rfl⟩:=ha _ qL;rw[h1]at qG;simp only[bG0,and_true]at qG;subst qG;obtain⟨hcv,qD⟩:=Hj R.st hp hd;have fO:=Ap _ _ hcv;simp only[bI0]at fO;have dL:=Dh (k:=k) fN;have yZ:es.length*k<=arr.size:=by rw[<-h6];exact aY0 _ h4
 have qM:=KY (P:=P) (w:=w) (b:=b) (off:=i*k+j) (t:=t) (v:=v) h3 (by rw[hc,fO]) (by omega) qD;have qY:=(AN he).1;have vQ:=(Bi qY).2;rw[qO]at vQ;simp only[Ez]at vQ;refine⟨_,qM,R.writeRow (dst:=none) (d:= .any) (v:=Go.undef) he qS qO h1 h2 h3 h4 h5 h6 h7 (by simp) (by simp;omega) ?_ ?_ hn (fun i hi=>by simp at hi) (fun _ _ _=>by simp[rd])⟩
 ·have:=Ch_ (j:=j) wN hi hcv qD vL yZ;simpa using this
 ·unfold BU at hn;refine TW _ _ (by omega) ?_;have h8:=Jh c0 j (AD d);have h9:=Al_ hi;rw[Cy]at h8;omega
theorem Sc {own:List Ent} {d:DVal} (h:EO [] d=true):EO own d=true:=by
 cases d<;>simp_all [EO,DB,Aj,Ba]
theorem JX {z:Array Value} {n i q:Nat} (hz:z.size≠0) (hi:i<n) (hq:q<z.size):(madeCells z (n*z.size))[i*z.size+q]? =z[q]? :=by
 have qV:i*z.size+q<n*z.size:=by have:=Dh (k:=z.size) hi;omega
 have e1:(i*z.size+q)%z.size=q:=by rw[Nat.mul_comm,Nat.mul_add_mod];exact eA0 hq
 simp[madeCells,qV,e1,hq]
theorem xF {cur:Er} {M:List Nat} {H:Array Obj} {z:Value} {n:Nat} {k:Nat} (hk:z.cells.size=k) (qD:∀u∈z.cells.toList,u.oneCell'=true) :
  ∀(arr:Array Value) (o:Nat),(∀i q,i<n->q<k->arr[o+(i*k+q)]? =z.cells[q]?)->Em cur M H k (List.replicate n (z.cells.toList.map BQ)) arr o:=by
 intro arr o hq;refine FD _ _ _ _ fun i cs hi=> ?_
 rw[cZ0]at hi
 split at hi
 ·rename_i qV;simp only[aA0]at hi;subst hi;refine⟨by simpa using hk,?_⟩;have h0:=Gv (cur:=cur) (M:=M) (H:=H) (z.cells.toList.map BQ) z.cells.toList [] [] (Bn _) qD;refine CJ _ _ arr _ _ (fun p hp=> ?_) h0;have zS:p<k:=by simp at hp;omega
  rw[cR0,hq i p qV zS];simp
 ·simp at hi
def tZeroE (P:Program) (t:TypeId):Option (List DVal):=match P.underlying t with
 | some (.slice e)=>tZero P e
 | _=>none
theorem Cu_ (l:List Value):AH (l.map BQ)=0:=by
 have h1:∀v,mx (BQ v)=0:=by
  intro v;unfold BQ
  split<;>(try split)<;>simp[mx]
 induction l with
 | nil=>simp[AH]
 | cons v l ih=>simp[AH,h1,ih]
theorem TX {n m:Nat} {cs:List DVal} (h:AH cs<=n):Bo (List.replicate m cs)<=n:=Oo fun d hd=>by rw[List.eq_of_mem_replicate hd];exact h
theorem Rel.makeRow {id n:Nat} {t e:TypeId} {k bs:Nat} {zs:List DVal} {kl kc:IntKind} {l c:Int} {dst:Option Nat} (R:Rel B s a w loc) (qB:BU B s<=n) (qH:∀i,dst=some i->i<B.nt)
  (ht:tElem P t=some (k,bs)) (zC:tElemId P t=some e) (hz:tZeroE P t=some zs) (hzo:zs.all (EO [])=true) (vI:zs.length=k) (h0:0<=l) (hlc:l<=c) (hb:c*bs<=150000000000000) (hl:c<=9223372036854775807) :
  ∃v' w' L,(Instr.makeSlice t (.int kl l) (.int kc c)).run P w= .ok v' w'/\Rel B ⟨Bs s.slots dst (.osl id n),upE s.own id n (.row e k bs (List.replicate l.toNat zs))⟩ (a.put dst v') w' (CG loc id L):=by
 obtain⟨e',i,hu,hi,qF,hby,_⟩:=Bw ht;have hee:e'=e:=by unfold tElemId at zC;rw[hu]at zC;simpa using zC
 subst hee;unfold tZeroE at hz;rw[hu]at hz;simp only at hz
 obtain⟨z,zR,hzc⟩:∃z,i.zero=some z/\zs=z.cells.toList.map BQ:=by
  unfold tZero at hz;rw[hi]at hz;simp only at hz;rw[bA0]at hz;obtain⟨z,h1,h2⟩:=hz;exact⟨z,h1,h2.symm⟩
 subst hzc;simp only[aO0,bI0]at vI
 have qD:∀u∈z.cells.toList,u.oneCell'=true:=by
  intro u zX;have vO:Au (cu s loc) (hm s loc B.M0) w.heap (z.cells.toList.map BQ) z.cells.toList:=Bn _;exact FE R.st (z.cells.toList.map BQ) z.cells.toList (bB0.2 fun d hd=>Sc (bB0.1 hzo d hd)) vO u zX
 subst qF;subst hby;have qM:=run_make (P:=P) w t e' i z hu hi zR kl kc l c h0 hlc (by rw[Int.mul_comm];omega) hl;have hw:Upd (Aa s.own loc) w (w.alloc (.cells (madeCells z.cells (c.toNat*i.size)) e')):=Upd.alloc _ _ _
 have hL:∀b0,b0∈(⟨[w.heap.size],.slice (some ⟨w.heap.size,0,none⟩) l.toNat c.toNat⟩:Loc).blks->b0<(w.alloc (.cells (madeCells z.cells (c.toNat*i.size)) e')).heap.size/\((∃e∈s.own,e.id=id/\b0∈(loc id).blks)\/w.heap.size<=b0):=by
  intro b0 qC;simp only[aE0]at qC;subst qC;exact⟨by simp,.inr (Nat.le_refl _)⟩
 refine⟨_,_,⟨[w.heap.size],.slice (some ⟨w.heap.size,0,none⟩) l.toNat c.toNat⟩,qM,?_⟩;have hlN:(List.replicate l.toNat (z.cells.toList.map BQ)).length=l.toNat:=cY0
 have hbN:l.toNat*i.bytes<=150000000000000:=by
  have h1:(c.toNat:Int)*i.bytes<=150000000000000:=by rw[Int.toNat_of_nonneg (by omega)];exact hb
  have h2:c.toNat*i.bytes<=150000000000000:=by omega
  exact Nat.le_trans (aY0 _ (by omega)) h2
 refine R.up qB qH hw (fun b hb _=>by simp only[World.alloc,bO0];rw[if_neg (by omega)]) hL (.inl (Nat.le_refl _)) ⟨by rw[hlN];exact hbN,.inr ⟨w.heap.size,_,c.toNat,rfl,by rw[hlN],heap_alloc_new w _,by rw[hlN];omega,by unfold maxLen;omega,by simp[size_madeCells],?_⟩⟩ ?_
 ·by_cases zU:i.size=0
  ·refine FD _ _ _ _ fun q cs hq=> ?_
   rw[cZ0]at hq
   split at hq
   ·simp only[aA0]at hq;subst hq;have:z.cells.toList=[]:=bK0 (by simpa[zU]using vI);rw[this];simp[zU,Dz]
   ·simp at hq
  ·refine xF vI qD _ _ fun q p hq hp=> ?_
   rw[bN0];have:=JX (z:=z.cells) (n:=c.toNat) (i:=q) (q:=p) (by omega) (by omega) (by omega)
   rwa[vI]at this
 ·simp only[rd];intro lc wY;rw[Dk]at wY;simp only[aA0]at wY;rw[<-wY]
def DO (es:List (List DVal)) (i m:Nat) (zs:List DVal):List (List DVal):=es.take i++List.replicate m zs++es.drop (i+m)
theorem pL {cur:Er} {M:List Nat} {H:Array Obj} {k i m:Nat} {es:List (List DVal)} {z:Value} {arr:Array Value} (hr:Em cur M H k es arr 0) (hb:i+m<=es.length) (vI:z.cells.size=k) (qD:∀u∈z.cells.toList,u.oneCell'=true) (hk:k≠0) (qF:es.length*k<=arr.size) :
  Em cur M H k (DO es i m (z.cells.toList.map BQ)) (arr.toList.take (i*k)++(Builtin.zeroCells z.cells m).toList++arr.toList.drop (i*k+(Builtin.zeroCells z.cells m).toList.length)).toArray 0:=by
 have hlz:(Builtin.zeroCells z.cells m).toList.length=m*k:=by simp[size_zeroCells,vI]
 have vL:i*k+m*k<=arr.size:=by rw[<-bR0];exact Nat.le_trans (aY0 _ hb) qF
 refine FD _ _ _ _ fun q cs hq=> ?_
 unfold DO at hq
 by_cases h1:q<i
 ·rw[aT0,aV0 (by simp;omega),bL0 h1]at hq;obtain⟨g1,g2⟩:=DZ k es arr 0 q cs hr hq;have:=Dh (k:=k) h1;exact⟨g1,CJ cs arr _ _ _ (fun p hp=>Tt (by omega) (.inl (by omega))) g2⟩
 ·by_cases h2:q<i+m
  ·rw[aT0,aX0 (by simp;omega),aV0 (by simp;omega),cZ0,if_pos (by simp;omega)]at hq;simp only[aA0]at hq;subst hq;refine⟨by simpa using vI,?_⟩;have h0:=Gv (cur:=cur) (M:=M) (H:=H) (z.cells.toList.map BQ) z.cells.toList [] [] (Bn _) qD;refine CJ _ _ _ _ _ (fun p hp=> ?_) h0;have zS:p<k:=by simp at hp;omega
   have h3:=Dh (k:=k) (show q-i<m by omega);have h4:q*k=i*k+(q-i)*k:=by rw[<-bR0];congr 1;omega
   simp only[dG0,bN0];rw[aT0,aX0 (by simp;omega),aV0 (by simp[size_zeroCells,vI];omega)];have e1:q*k+p-(arr.toList.take (i*k)).length=(q-i)*k+p:=by simp;omega
   rw[e1];have h5:=JX (z:=z.cells) (n:=m) (i:=q-i) (q:=p) (by omega) (by omega) (by omega);rw[vI]at h5;have e2:Builtin.zeroCells z.cells m=madeCells z.cells (m*k):=by simp[Builtin.zeroCells,madeCells,vI]
   rw[e2];simpa using h5
  ·rw[aX0 (by simp;omega),cJ0]at hq;have e1:i+m+(q-(es.take i++List.replicate m (z.cells.toList.map BQ)).length)=q:=by simp;omega
   rw[e1]at hq;obtain⟨g1,g2⟩:=DZ k es arr 0 q cs hr hq;refine⟨g1,CJ cs arr _ _ _ (fun p hp=>Tt (by omega) (.inr ?_)) g2⟩;have:(i+m)*k<=q*k:=aY0 _ (by omega);rw[bR0]at this;omega
theorem eD (S:St s.own loc B.M0 w.heap) {d:DVal} {id r bs0 i m:Nat} {et k bs:Nat} {es:List (List DVal)} {e:Ent} {v:Value} (he:Aj s.own id=some e) (qS:e.r=r) (qO:e.obj= .row et k bs es)
  (hv:Bb s loc B.M0 w d v) (hd:d= .osl id r/\i=0/\m=es.length\/d= .vw id r k bs0 i m):∃a cap,v= .slice a m cap/\(0<m->∃b,(loc id).blks=[b]/\a=some ⟨b,i*k,none⟩):=by
 obtain⟨qL,a,cap,hh,g1,g2,g3⟩:=La S he qS qO
 rcases hd with ⟨rfl,rfl,rfl⟩ | rfl
 ·simp only[Bb,rd]at hv;have:=hv _ qL;rw[hh]at this;refine⟨a,cap,this,fun h=> ?_⟩
  rcases g3 with ⟨rfl,_⟩ | ⟨b,hb,rfl⟩
  ·simp at h
  ·exact⟨b,hb,by simp⟩
 ·simp only[Bb,rd]at hv;obtain⟨a,cap,rfl,_,_,_,h,_⟩:=hv _ qL;exact⟨a,cap,rfl,h⟩
theorem Rel.clearRow {d:DVal} {id r k0 bs0 i m n:Nat} {t ty e':TypeId} {et k bs:Nat} {es:List (List DVal)} {zs:List DVal} {e:Ent} {v:Value} {dst:Option Nat} (R:Rel B s a w loc) (he:Aj s.own id=some e) (qS:e.r=r) (qO:e.obj= .row et k bs es)
  (hv:Bb s loc B.M0 w d v) (hd:d= .osl id r/\i=0/\m=es.length\/d= .vw id r k bs0 i m) (hb:i+m<=es.length) (ht:tElem P t=some (k,k0)) (hz:tZeroE P t=some zs) (hzo:zs.all (EO [])=true) (vI:zs.length=k) (hk:0<k)
  (qB:BU B s<=n) (qH:∀i,dst=some i->i<B.nt) :
  ∃w',(Builtin.clear_ #[t] ty #[v]).run P w= .ok (.tuple #[]) w'/\Rel B ⟨Bs s.slots dst (.tup []),upE s.own id r (.row et k bs (DO es i m zs))⟩ (a.put dst (.tuple #[])) w' (CG loc id (loc id)):=by
 obtain⟨e1,i1,hu,hi,qF,hby,_⟩:=Bw ht;unfold tZeroE at hz;rw[hu]at hz;simp only at hz
 obtain⟨z,zR,hzc⟩:∃z,i1.zero=some z/\zs=z.cells.toList.map BQ:=by
  unfold tZero at hz;rw[hi]at hz;simp only at hz;rw[bA0]at hz;obtain⟨z,h1,h2⟩:=hz;exact⟨z,h1,h2.symm⟩
 subst hzc;simp only[aO0,bI0]at vI;have vO:∀M,Au (cu s loc) M w.heap (z.cells.toList.map BQ) z.cells.toList:=fun M=>Bn _
 have qD:∀u∈z.cells.toList,u.oneCell'=true :=
  FE R.st (z.cells.toList.map BQ) z.cells.toList (bB0.2 fun d hd=>Sc (bB0.1 hzo d hd)) (vO _)
 obtain⟨ad,cap,rfl,jP⟩:=eD (B:=B) R.st he qS qO hv hd;have jX:∀cur M h,rd cur M h (.tup []) (.tuple #[]):=fun _ _ _=>by simp only[rd];exact⟨#[],rfl,by simp[Au]⟩
 have qY:=(AN he).1;have hid:=(AN he).2;have vQ:=(Bi qY).2;rw[qO]at vQ;simp only[Ez]at vQ
 by_cases hm:m=0
 ·subst hm;have jA:DO es i 0 (z.cells.toList.map BQ)=es:=by simp[DO]
  rw[jA];refine⟨w,by cases ad<;>simp[Builtin.clear_,run_underlying hu],?_⟩;have qL:Ad s.own loc id r=some (loc id):=by unfold Ad;rw[he];simp[qS]
  have vM:=R.st.ok e qY;rw[qO,hid]at vM
  have hL:∀b0,b0∈(loc id).blks->b0<w.heap.size/\((∃e∈s.own,e.id=id/\b0∈(loc id).blks)\/w.heap.size<=b0):=fun b0 qC =>
   ⟨R.st.lt b0 (aL0 _ (AZ qY (by rw[hid];exact qC))),.inl ⟨e,qY,hid,qC⟩⟩
  have W:=R.weakUp (obj:= .row et k bs es) qB (Upd.refl _ w) hL (.inr qL);unfold BU at qB;exact R.up (hLn:=by have:=Dl R.st.bl e qY;rwa[hid]at this) (n:=n) qB qH (Upd.refl _ w) (fun _ _ _=>rfl) hL (.inr qL) (Bd W (by simp only[Ez];omega) (fun _ _ _ h=>h) vM) (jX _ _ _)
 ·obtain⟨b,qR,rfl⟩:=jP (by omega);obtain⟨h7,b',arr,cap',h1,h2,h3,h4,h5,h6,wN⟩:=Tv (B:=B) R.st he qO (by intro h;subst h;simp at hb;omega);rw[h1]at qR;simp only[bG0,and_true]at qR;subst qR;have yZ:es.length*k<=arr.size:=by rw[<-h6];exact aY0 _ h4
  have hzn:(Builtin.zeroCells z.cells m).toList.length=m*k:=by simp[size_zeroCells,vI]
  have vL:i*k+m*k<=arr.size:=by rw[<-bR0];exact Nat.le_trans (aY0 _ hb) yZ
  have hzone:∀u∈(Builtin.zeroCells z.cells m).toList,u.oneCell'=true:=by
   intro u zX;simp only[Builtin.zeroCells,dS0,aR0]at zX;obtain⟨j,_,rfl⟩:=zX;have zG:0<z.cells.size:=by omega
   have qV:j%z.cells.size<z.cells.size:=dW0 _ zG;rw[getElem!_pos z.cells _ qV];exact qD _ (by simp)
  have qK:=run_storeCells_at P b' (i*k) et (Builtin.zeroCells z.cells m).toList 0 arr w h3 (by rw[hzn];omega) hzone;simp only[dN0]at qK;obtain⟨m',rfl⟩:∃m',m=m'+1:=⟨m-1,by omega⟩;refine⟨_,?_,R.writeRow he qS qO h1 h2 h3 h4 h5 h6 h7 (by simp[DO];omega) (by simp only[dJ0,aB0,bD0,cB0,bI0,hzn];rw[<-bI0];rw[<-bI0]at vL;omega) (pL wN hb vI qD (by omega) yZ) ?_ qB qH jX⟩
  ·simp[Builtin.clear_,run_underlying hu,zeroValue,typeInfo,hi,zR,qK]
  ·unfold DO;unfold BU at qB;rw[Br,Br];have:=FG i es;have:=FH (i+(m'+1)) es;have:=TX (n:=0) (m:=m'+1) (dF0 (Cu_ z.cells.toList));omega
end
end Go.Dm
end
