/- Parts of a proof, laid together: EnI1, EnI2. -/
import Derived.Laws.MakeOwn
import Derived.Test.YtiojapdolljocaaGreatqBw6
set_option linter.unusedSimpArgs false
set_option maxHeartbeats 8000000
set_option linter.unusedVariables false
set_option linter.unusedSectionVars false
section
namespace Go.Dm
variable [DMode]
def Xu : Value->Bool
 | .bool _ | .int _ _ | .string _=>true
 | _=>false
theorem DT_ {a b:ByteArray}:(a==b)=true↔a=b:=by
 rw[<-Ma,beq_iff_eq]
 constructor
 ·intro h;cases a;cases b;simp at h;rw[h]
 ·rintro rfl;rfl
def RM (ks:List DVal) (k:DVal):List DVal:=match AU ks k with
 | some _=>ks
 | none=>ks++[k]
def RL (ks vs:List DVal) (k x:DVal):List DVal:=match AU ks k with
 | some j=>vs.set j x
 | none=>vs++[x]
theorem NF (a b:List DVal):AJ (a++b)=max (AJ a) (AJ b):=by
 induction a with
 | nil=>simp[AJ]
 | cons d a ih=>simp only[List.cons_append,AJ,ih];omega
theorem CW_ (a:List DVal) (j:Nat) (d:DVal):AJ (a.set j d)<=max (AJ a) (mx d):=by
 induction a generalizing j with
 | nil=>simp[AJ]
 | cons x a ih =>
  cases j with
  | zero=>simp only[eJ0,AJ];omega
  | succ j=>have:=ih j;simp only[List.set_cons_succ,AJ];omega
theorem WH (ks:List DVal) (k:DVal):AJ (RM ks k)<=max (AJ ks) (mx k):=by
 unfold RM
 split
 ·omega
 ·rw[NF];simp[AJ]
theorem WG (ks vs:List DVal) (k x:DVal):AJ (RL ks vs k x)<=max (AJ vs) (mx x):=by
 unfold RL
 split
 ·exact CW_ _ _ _
 ·rw[NF];simp[AJ]
section
variable {cur : EF} {M : List Nat} {h : Array Obj}
theorem iI : ∀{ds:List DVal} {vs:List Value} {j:Nat} {d:DVal} {v:Value},Aw cur M h ds vs->rd cur M h d v->Aw cur M h (ds.set j d) (vs.set j v)
 | [],vs,j,d,v,h1,h2=>by simp only[Aw]at h1;subst h1;simp[Aw]
 | a::ds,vs,j,d,v,h1,h2=>by
  simp only[Aw]at h1;obtain⟨u,r,rfl,h3,h4⟩:=h1
  cases j with
  | zero=>simp only[eJ0,Aw];exact⟨v,r,rfl,h2,h4⟩
  | succ j=>simp only[List.set_cons_succ,Aw];exact⟨u,_,rfl,h3,iI h4 h2⟩
theorem Tk : ∀{cks:List CK} {xs ys:List DVal} {us vs:List Value},Bp cks xs=true->Bp cks ys=true->Cu xs ys=true->Aw cur M h xs us->Aw cur M h ys vs->us=vs/\us.all Xu=true
 | [],[],[],us,vs,_,_,_,h1,h2=>by simp only[Aw]at h1 h2;subst h1;subst h2;simp
 | c::cks,x::xs,y::ys,us,vs,hx,hy,he,h1,h2=>by
  simp only[Bp,aM0]at hx hy;simp only[Cu,aM0]at he;simp only[Aw]at h1 h2;obtain⟨u,ur,rfl,h3,h4⟩:=h1;obtain⟨v,vr,rfl,h5,h6⟩:=h2;obtain⟨e1,e2⟩:=Tk hx.2 hy.2 he.2 h4 h6
  have:u=v/\Xu u=true:=by
   have hx1:=hx.1;have hy1:=hy.1;have bY:=he.1;cases c<;>cases x<;>simp only[Nj]at hx1<;>first | (simp at hx1;done) | skip
   all_goals cases y<;>simp only[Nj]at hy1<;>first | (simp at hy1;done) | skip
   ·simp only[rd]at h3 h5;simp only[US,beq_iff_eq]at bY;subst h3;subst h5;subst bY;exact⟨rfl,rfl⟩
   ·simp only[rd]at h3 h5;simp only[US,beq_iff_eq]at bY hx1 hy1;obtain⟨rfl,_⟩:=h3;obtain⟨rfl,_⟩:=h5;subst hx1;subst hy1;subst bY;exact⟨rfl,rfl⟩
   ·simp only[rd]at h3 h5;simp only[US,DT_]at bY;obtain⟨rfl,_⟩:=h3;obtain⟨rfl,_⟩:=h5;subst bY;exact⟨rfl,rfl⟩
  obtain⟨rfl,hu⟩:=this;subst e1;exact⟨rfl,by simp only[cP0,aM0];exact⟨hu,e2⟩⟩
 | [],_::_,_,_,_,hx,_,_,_,_=>by simp[Bp]at hx
 | [],[],_::_,_,_,_,hy,_,_,_=>by simp[Bp]at hy
 | _::_,[],_,_,_,hx,_,_,_,_=>by simp[Bp]at hx
 | _::_,_::_,[],_,_,_,hy,_,_,_=>by simp[Bp]at hy
theorem Kn : ∀(n:Nat) (v:Value),Xu v=true->Instr.sameBits n v v=true:=by
 intro n v hv;cases v<;>simp[Xu]at hv<;>cases n<;>simp[Instr.sameBits,DT_]
theorem AV_ {P:Program} {kt:TypeId} {x k:DVal} {u v:Value} (hx:Ck P kt x=true) (hk:Ck P kt k=true) (he:Cu (BX x) (BX k)=true) (rx:rd cur M h x u) (rk:rd cur M h k v):v=u/\Instr.sameBits 10000 v u=true:=by
 unfold Ck at hx hk
 split at hx
 ·rename_i cks b hf hb;simp only[hf,hb,aM0,beq_iff_eq]at hx hk;obtain⟨us,h1,rfl⟩:=Gc hx.2 rx;obtain⟨vs,h2,rfl⟩:=Gc hk.2 rk;obtain⟨rfl,h3⟩:=Tk hx.1 hk.1 he h1 h2;refine⟨rfl,?_⟩
  cases b with
  | false =>
   simp only[valOf]
   match us,h1,h2,hx,hk,h3 with
   | [],h1,h2,hx,hk,h3 =>
    have hl:=Aq _ _ h1;have qL:=hx.2;cases x<;>simp[BX,Qr]at hl qL
   | u::r,h1,h2,hx,hk,h3 =>
    simp only[cP0,aM0]at h3;simp;exact Kn _ _ h3.1
  | true =>
   simp only[valOf,if_true];rw[show (10000:Nat)=9999+1 from rfl];simp only[Instr.sameBits,beq_self_eq_true,cT0,aX0];intro p hp
   have hz:∀(l:List Value),l.all Xu=true->∀p∈l.zip l,Instr.sameBits 9999 p.1 p.2=true:=by
    intro l
    induction l with
    | nil=>intro _ p hp;simp at hp
    | cons a l ih =>
     intro ha p hp;simp only[cP0,aM0]at ha;simp only[List.zip_cons_cons,aL0]at hp
     rcases hp with rfl | hp
     ·exact Kn _ _ ha.1
     ·exact ih ha.2 p hp
   exact hz us h3 p (by simpa using hp)
 ·simp at hx
theorem WS : ∀{ks:List DVal} {x:DVal} {j:Nat},AU ks x=some j->∃k,ks[j]? =some k/\Cu (BX x) (BX k)=true
 | k::ks,x,j,hh=>by
  simp only[AU]at hh
  split at hh
  ·rename_i he;simp only[aA0]at hh;subst hh;exact⟨k,rfl,he⟩
  ·rw[aY0]at hh;obtain⟨i,h1,rfl⟩:=hh;obtain⟨k',h2,h3⟩:=WS h1;exact⟨k',by simpa using h2,h3⟩
end
section
variable {P : Program} {B : Base} {s : DS} {a : Act} {w : World} {loc : Nat -> Loc}
theorem Rel.newMap {id n:Nat} {dst:Option Nat} (R:Rel B s a w loc) (qE:Cb B s<=n) (qC:∀i,dst=some i->i<B.nt) :
  Rel B ⟨Bv s.slots dst (.omp id n),upE s.own id n (.map [] [])⟩ (a.put dst (.map (some w.heap.size))) (w.alloc (.map #[] 0)) (CH loc id ⟨[w.heap.size],Go.undef⟩):=by
 have hw:=Upd.alloc (Aa s.own loc) w (.map #[] 0)
 have hL:∀b,b∈(⟨[w.heap.size],Go.undef⟩:Loc).blks->b<(w.alloc (.map #[] 0)).heap.size/\((∃e∈s.own,e.id=id/\b∈(loc id).blks)\/w.heap.size<=b):=by
  intro b hb;simp only[aG0]at hb;subst hb;exact⟨by simp,.inr (Nat.le_refl _)⟩
 refine R.up qE qC hw (fun b hb _=>by simp only[World.alloc,bP0];rw[if_neg (by omega)]) hL (.inl (Nat.le_refl _)) ?_ ?_
 ·refine⟨w.heap.size, #[],0,rfl,heap_alloc_new w _,⟨by simp,by simp⟩,by simp[Aw],by simp[Aw]⟩
 ·simp only[rd];intro l hl;rw[Ds]at hl;simp only[aA0]at hl;subst hl;exact⟨_,rfl,rfl⟩
theorem Rel.updMap {id r n:Nat} {ks vs:List DVal} {e:Ent} {t kt et:TypeId} {k x:DVal} {mv kv xv:Value} (R:Rel B s a w loc) (he:Aj s.own id=some e) (qT:e.r=r) (qZ:e.obj= .map ks vs)
  (ha:Bb s loc B.M0 w (.omp id r) mv) (hk:Bb s loc B.M0 w k kv) (hx:Bb s loc B.M0 w x xv) (ht:tMap P t=some (kt,et)) (hko:Ck P kt k=true) (fR:ks.all (Ck P kt)=true)
  (hmk:mx k<=JK s.slots) (vY:mx x<=JK s.slots) (hn:Cb B s<=n) :
  ∃w',(Instr.mapUpdate t mv kv xv).run P w= .ok () w'/\Rel B ⟨s.slots,upE s.own id r (.map (RM ks k) (RL ks vs k x))⟩ a w' (CH loc id (loc id)):=by
 obtain⟨qU,hid⟩:=AN he;have bR:=R.st.ok e qU;rw[qZ]at bR;obtain⟨b,es,clk,h1,h2,h3,h4,h5⟩:=bR;rw[hid]at h1;have qA:Ab s.own loc id r=some (loc id):=by unfold Ab;rw[he];simp[qT]
 simp only[Bb,rd]at ha;obtain⟨b',qL,rfl⟩:=ha _ qA;have qS:b∈(loc id).blks:=by rw[h1];simp
 rw[h1]at qL;simp only[bF0,and_true]at qL;subst qL;have hu:P.underlying t=some (.map kt et):=by unfold tMap at ht;split at ht<;>simp_all
 have cD:=Gq (w:=w) hko hk es.toList ks fR h4;have cO:=Aq _ _ h4;have vF:=Aq _ _ h5;simp only[aO0,bK0]at cO vF;have jC:=(aD0.1 h2).1;have wS:=(Be qU).2;rw[qZ]at wS;simp only[EP]at wS
 -- the world behind it
 have main:∀(es':Array MapEntry) (clk':Nat),Nk es' clk'->Aw (cu s loc) (hm s loc B.M0) w.heap (RM ks k) (es'.toList.map (·.key))->Aw (cu s loc) (hm s loc B.M0) w.heap (RL ks vs k x) (es'.toList.map (·.val)) ->
   Rel B ⟨s.slots,upE s.own id r (.map (RM ks k) (RL ks vs k x))⟩ a { w with heap:=w.heap.setIfInBounds b (.map es' clk') } (CH loc id (loc id)):=by
  intro es' clk' hb yE fQ
  have hw:Upd (Aa s.own loc) w { w with heap:=w.heap.setIfInBounds b (.map es' clk') }:=by
   refine⟨rfl,rfl,rfl,fun _=>Nat.le_refl _,by simp,fun b0 _ hn0=> ?_⟩;have qB:b≠b0:=fun h=>hn0 (h▸AY qU (by rw[hid];exact qS))
   simp[cM0,qB]
  have hL:∀b0,b0∈(loc id).blks->b0<({ w with heap:=w.heap.setIfInBounds b (.map es' clk') }:World).heap.size/\((∃e∈s.own,e.id=id/\b0∈(loc id).blks)\/w.heap.size<=b0):=by
   intro b0 qH;refine⟨?_,.inl ⟨e,qU,hid,qH⟩⟩;rw[h1]at qH;simp only[aG0]at qH;subst qH;simpa using jC
  have W:=R.weakUp (obj:= .map (RM ks k) (RL ks vs k x)) hn hw hL (.inr qA);unfold Cb at hn;refine R.up (hLn:=by rw[h1];simp) (dst:=none) (v:=Go.undef) (d:= .any) (n:=n) (by unfold Cb;exact hn) (fun i hi=>by simp at hi) hw ?_ hL (.inr qA) ?_ (by simp[rd])
  ·intro b0 qH qB;have hne':b≠b0:=fun h=>qB e qU hid (by rw[<-h];exact qS)
   simp[cM0,hne']
  ·refine⟨b,es',clk',h1,by simp[cM0,jC],hb,AL W _ _ ?_ yE,AL W _ _ ?_ fQ⟩
   ·have:=WH ks k;omega
   ·have:=WG ks vs k x;omega
 simp only[Instr.mapUpdate,Sem.run_bind,run_underlying hu,Result.andThen_ok,MapKept.run_getObj_map h2,ET hko hk,cD]
 cases hq:AU ks k with
 | none =>
  simp only[Option.map_none];refine⟨_,MapKept.run_setObj_map _ h2,main _ _ ?_ ?_ ?_⟩
  ·obtain⟨g1,g2⟩:=h3;refine⟨?_,?_⟩
   ·simp only[Array.toList_push,bI0,List.map_cons,List.map_nil];rw[bS0];refine⟨g1,by simp,?_⟩;intro c hc c' bU zX;simp only[aG0]at bU;obtain⟨e',vG,rfl⟩:=aQ0.1 hc;have:=g2 e' vG;omega
   ·intro e' vG;simp only[Array.toList_push,aC0,aG0]at vG
    rcases vG with vG | rfl
    ·have:=g2 e' vG;omega
    ·simp
  ·unfold RM;rw[hq];simp only[Array.toList_push,bI0,List.map_cons,List.map_nil];exact BV _ _ _ _ h4 (by simp only[Aw];exact⟨kv,[],rfl,hk,rfl⟩)
  ·unfold RL;rw[hq];simp only[Array.toList_push,bI0,List.map_cons,List.map_nil];exact BV _ _ _ _ h5 (by simp only[Aw];exact⟨xv,[],rfl,hx,rfl⟩)
 | some j =>
  simp only[dB0];obtain⟨k0,zA,heq⟩:=WS hq;obtain⟨v0,yJ,bA⟩:=PM _ _ j k0 h4 zA
  have hjlt:j<es.size:=by
   have:=(aF0.1 zA).1;omega
  have hkey:(es[j]?).map (·.key)=some v0:=by
   rw[bH0]at yJ;simpa using yJ
  obtain⟨rfl,hsb⟩:=AV_ hko (aX0.1 fR k0 (bJ0 zA)) heq hk bA;simp only[hkey,bV0,Instr.keyThatStays,hsb,if_true,Sem.run_pure,Result.andThen_ok];refine⟨_,MapKept.run_setObj_map _ h2,main _ _ ?_ ?_ ?_⟩
  ·obtain⟨g1,g2⟩:=h3
   have gU:(es.modify j fun e=>{ e with key:=v0,val:=xv }).toList.map (·.born)=es.toList.map (·.born):=by
    apply List.ext_getElem?
    intro i;simp only[bH0,eC0,cC0]
    split
    ·cases es[i]? <;>simp
    ·rfl
   refine⟨by rw[gU];exact g1,?_⟩;intro e' vG;have:e'.born∈(es.modify j fun e=>{ e with key:=v0,val:=xv }).toList.map (·.born):=cN0 (f:=(·.born)) vG;rw[gU]at this;obtain⟨e0,vA,qH⟩:=aQ0.1 this;rw[<-qH];exact g2 e0 vA
  ·unfold RM;rw[hq]
   have cA:(es.modify j fun e=>{ e with key:=v0,val:=xv }).toList.map (·.key)=es.toList.map (·.key):=by
    apply List.ext_getElem?
    intro i;simp only[bH0,eC0,cC0]
    split
    ·rename_i zO;subst zO;rw[hkey];cases wH:es[j]? <;>simp_all
    ·rfl
   rw[cA];exact h4
  ·unfold RL;rw[hq]
   have hvals:(es.modify j fun e=>{ e with key:=v0,val:=xv }).toList.map (·.val)=(es.toList.map (·.val)).set j xv:=by
    apply List.ext_getElem?
    intro i;simp only[bH0,eC0,cC0,List.getElem?_set,aO0,bK0]
    split
    ·rename_i zO;subst zO;simp[hjlt]
    ·rfl
   rw[hvals];exact iI h5 hx
def QM (ks:List DVal) (k:DVal):List DVal:=match AU ks k with | some j=>ks.eraseIdx j | none=>ks
def QL (ks vs:List DVal) (k:DVal):List DVal:=match AU ks k with | some j=>vs.eraseIdx j | none=>vs
theorem MP : ∀(l:List DVal) (j:Nat),AJ (l.eraseIdx j)<=AJ l
 | [],_=>by simp
 | d::l,0=>by simp only[List.eraseIdx_cons_zero,AJ];omega
 | d::l,j+1=>by have:=MP l j;simp only[List.eraseIdx_cons_succ,AJ];omega
theorem WK (ks:List DVal) (k:DVal):AJ (QM ks k)<=AJ ks:=by
 unfold QM;split
 ·exact MP _ _
 ·exact Nat.le_refl _
theorem WJ (ks vs:List DVal) (k:DVal):AJ (QL ks vs k)<=AJ vs:=by
 unfold QL;split
 ·exact MP _ _
 ·exact Nat.le_refl _
theorem MK {cur:EF} {M:List Nat} {h:Array Obj}:∀{ds:List DVal} {vs:List Value} (j:Nat),Aw cur M h ds vs->Aw cur M h (ds.eraseIdx j) (vs.eraseIdx j)
 | [],vs,j,hr=>by simp only[Aw]at hr;subst hr;simp[Aw]
 | d::ds,vs,0,hr=>by
  simp only[Aw]at hr;obtain⟨v,r,rfl,_,h2⟩:=hr;simpa using h2
 | d::ds,vs,j+1,hr=>by
  simp only[Aw]at hr;obtain⟨v,r,rfl,h1,h2⟩:=hr;simp only[List.eraseIdx_cons_succ,Aw];exact⟨v,_,rfl,h1,MK j h2⟩
theorem Ha {α β:Type} (f:α->β):∀(l:List α) (j:Nat),(l.eraseIdx j).map f=(l.map f).eraseIdx j
 | [],_=>by simp
 | _::l,0=>by simp
 | _::l,j+1=>by simp[Ha f l j]
theorem Rel.delMap {id r n:Nat} {ks vs:List DVal} {e:Ent} {t kt et t2 ty:TypeId} {k:DVal} {mv kv:Value} {dst:Option Nat} (R:Rel B s a w loc) (he:Aj s.own id=some e) (qT:e.r=r) (qZ:e.obj= .map ks vs)
  (ha:Bb s loc B.M0 w (.omp id r) mv) (hk:Bb s loc B.M0 w k kv) (ht:tMap P t=some (kt,et)) (hko:Ck P kt k=true) (fR:ks.all (Ck P kt)=true)
  (hn:Cb B s<=n) (qC:∀i,dst=some i->i<B.nt) :
  ∃w',(Builtin.delete_ #[t,t2] ty #[mv,kv]).run P w= .ok (.tuple #[]) w'/\Rel B ⟨Bv s.slots dst (.tup []),upE s.own id r (.map (QM ks k) (QL ks vs k))⟩ (a.put dst (.tuple #[])) w' (CH loc id (loc id)):=by
 obtain⟨qU,hid⟩:=AN he;have bR:=R.st.ok e qU;rw[qZ]at bR;obtain⟨b,es,clk,h1,h2,h3,h4,h5⟩:=bR;rw[hid]at h1;have qA:Ab s.own loc id r=some (loc id):=by unfold Ab;rw[he];simp[qT]
 simp only[Bb,rd]at ha;obtain⟨b',qL,rfl⟩:=ha _ qA;have qS:b∈(loc id).blks:=by rw[h1];simp
 rw[h1]at qL;simp only[bF0,and_true]at qL;subst qL;have hu:P.underlying t=some (.map kt et):=by unfold tMap at ht;split at ht<;>simp_all
 have cD:=Gq (w:=w) hko hk es.toList ks fR h4;have cO:=Aq _ _ h4;simp only[aO0,bK0]at cO;have jC:=(aD0.1 h2).1;have wS:=(Be qU).2;rw[qZ]at wS;simp only[EP]at wS
 have main:∀(es':Array MapEntry) (clk':Nat),Nk es' clk'->Aw (cu s loc) (hm s loc B.M0) w.heap (QM ks k) (es'.toList.map (·.key))->Aw (cu s loc) (hm s loc B.M0) w.heap (QL ks vs k) (es'.toList.map (·.val)) ->
   Rel B ⟨Bv s.slots dst (.tup []),upE s.own id r (.map (QM ks k) (QL ks vs k))⟩ (a.put dst (.tuple #[])) { w with heap:=w.heap.setIfInBounds b (.map es' clk') } (CH loc id (loc id)):=by
  intro es' clk' hb yE fQ
  have hw:Upd (Aa s.own loc) w { w with heap:=w.heap.setIfInBounds b (.map es' clk') }:=by
   refine⟨rfl,rfl,rfl,fun _=>Nat.le_refl _,by simp,fun b0 _ hn0=> ?_⟩;have qB:b≠b0:=fun h=>hn0 (h▸AY qU (by rw[hid];exact qS))
   simp[cM0,qB]
  have hL:∀b0,b0∈(loc id).blks->b0<({ w with heap:=w.heap.setIfInBounds b (.map es' clk') }:World).heap.size/\((∃e∈s.own,e.id=id/\b0∈(loc id).blks)\/w.heap.size<=b0):=by
   intro b0 qH;refine⟨?_,.inl ⟨e,qU,hid,qH⟩⟩;rw[h1]at qH;simp only[aG0]at qH;subst qH;simpa using jC
  have W:=R.weakUp (obj:= .map (QM ks k) (QL ks vs k)) hn hw hL (.inr qA);unfold Cb at hn;refine R.up (hLn:=by rw[h1];simp) (n:=n) (by unfold Cb;exact hn) qC hw ?_ hL (.inr qA) ?_ (by simp only[rd];exact⟨#[],rfl,by simp[Aw]⟩)
  ·intro b0 qH qB;have hne':b≠b0:=fun h=>qB e qU hid (by rw[<-h];exact qS)
   simp[cM0,hne']
  ·refine⟨b,es',clk',h1,by simp[cM0,jC],hb,AL W _ _ ?_ yE,AL W _ _ ?_ fQ⟩
   ·have:=WK ks k;omega
   ·have:=WJ ks vs k;omega
 simp only[Builtin.delete_,dH0,Sem.run_bind,run_underlying hu,Result.andThen_ok,MapKept.run_getObj_map h2,ET hko hk,cD,dE0,bB0,bL0]
 cases hq:AU ks k with
 | none =>
  simp only[Option.map_none,Sem.run_bind,MapKept.run_setObj_map _ h2,Result.andThen_ok,Sem.run_pure];refine⟨_,rfl,main _ _ h3 ?_ ?_⟩
  ·unfold QM;rw[hq];exact h4
  ·unfold QL;rw[hq];exact h5
 | some j =>
  simp only[dB0,Sem.run_bind,MapKept.run_setObj_map _ h2,Result.andThen_ok,Sem.run_pure];have hto:(es.eraseIdxIfInBounds j).toList=es.toList.eraseIdx j:=by simp
  refine⟨_,rfl,main _ _ ⟨?_,?_⟩ ?_ ?_⟩
  ·rw[hto];exact h3.1.sublist ((List.eraseIdx_sublist _ _).map _)
  ·intro e' vG;rw[hto]at vG;exact h3.2 e' ((List.eraseIdx_sublist _ _).subset vG)
  ·unfold QM;rw[hq,hto,Ha];exact MK j h4
  ·unfold QL;rw[hq,hto,Ha];exact MK j h5
end
theorem ZG {cur:EF} {M:List Nat} {H:Array Obj} {cs ds:List DVal} {arr:Array Value} {vs:List Value} {o j:Nat} (hr:Dv cur M H cs arr o) (hv:Aw cur M H ds vs) (qI:∀u∈vs,u.oneCell'=true)
  (vL:j+ds.length<=cs.length) (qD:o+cs.length<=arr.size):Dv cur M H (Dl cs j ds) (arr.toList.take (o+j)++vs++arr.toList.drop (o+j+vs.length)).toArray o:=by
 have gC:=Aq _ _ hv;unfold Dl;refine LF _ _ _ _ (LF _ _ _ _ ?_ ?_) ?_
 ·refine CP _ arr _ o o (fun q hq=> ?_) (LD j _ _ _ hr);have vH:q<j:=by simp at hq;omega
  simp only[dE0,aS0];rw[bC0 (by simp;omega),bT0 (by omega)];simp
 ·have h:=GD ds vs (arr.toList.take (o+j)) (arr.toList.drop (o+j+vs.length)) hv qI;have e1:o+(cs.take j).length=(arr.toList.take (o+j)).length:=by simp;omega
  rw[e1];exact h
 ·have hdr:=Fb (j+ds.length) cs arr o hr;have e1:o+(cs.take j++ds).length=o+(j+ds.length):=by simp;omega
  rw[e1];refine CP _ arr _ _ _ (fun q hq=> ?_) hdr;simp only[dE0];rw[bD0 (by simp;omega),cQ0];have e2:o+j+vs.length+(o+(j+ds.length)+q-(arr.toList.take (o+j)++vs).length)=o+(j+ds.length)+q:=by simp;omega
  rw[e2];simp
theorem TV {arr:Array Value} {vs:List Value} {off q:Nat} (qD:off+vs.length<=arr.size) (hq:q<off\/off+vs.length<=q):(arr.toList.take off++vs++arr.toList.drop (off+vs.length)).toArray[q]? =arr[q]? :=by
 simp only[dE0]
 rcases hq with hq | hq
 ·rw[aS0,bC0 (by simp;omega),bT0 hq];simp
 ·rw[bD0 (by simp;omega),cQ0];have e2:off+vs.length+(q-(arr.toList.take off++vs).length)=q:=by simp;omega
  rw[e2];simp
theorem Dp {i k n:Nat} (h:i<n):i*k+k<=n*k:=by
 have:=aZ0 k (show i+1<=n from h)
 rwa[bQ0,Nat.one_mul]at this
theorem CC_ {cur:EF} {M:List Nat} {H:Array Obj} {k i j:Nat} {es:List (List DVal)} {c0 ds:List DVal} {arr:Array Value} {vs:List Value} (hr:Ec cur M H k es arr 0) (hi:es[i]? =some c0) (hv:Aw cur M H ds vs) (qI:∀u∈vs,u.oneCell'=true)
  (vL:j+ds.length<=k) (qD:es.length*k<=arr.size):Ec cur M H k (es.set i (Dl c0 j ds)) (arr.toList.take (i*k+j)++vs++arr.toList.drop (i*k+j+vs.length)).toArray 0:=by
 have gC:=Aq _ _ hv;have fM:i<es.length:=(aF0.1 hi).1;have wW:=Dp (k:=k) fM;obtain⟨yL,bA⟩:=El k es arr 0 i c0 hr hi;refine FN _ _ _ _ fun q cs hq=> ?_
 rw[List.getElem?_set]at hq
 split at hq
 ·rename_i hiq;subst hiq
  (try simp only[fM,if_true]at hq);simp only[aA0]at hq
  subst hq;refine⟨by simp[Dl];omega,?_⟩;simp only[bN0]at bA |-;exact ZG bA hv qI (by omega) (by omega)
 ·rename_i hiq;obtain⟨g1,g2⟩:=El k es arr 0 q cs hr hq;have hql:q<es.length:=(aF0.1 hq).1;refine⟨g1,CP cs arr _ _ _ (fun p hp=>TV (by omega) ?_) g2⟩
  rcases Nat.lt_or_gt_of_ne hiq with h | h
  ·have:=Dp (k:=k) h;omega
  ·have:=Dp (k:=k) h;omega
theorem UA {n:Nat} {cs:List DVal}:∀(es:List (List DVal)) (i:Nat),Bq es<=n->AJ cs<=n->Bq (es.set i cs)<=n
 | [],_,_,_=>by simp[Bq]
 | e::es,0,h,hc=>by simp only[eJ0,Bq]at h |-;omega
 | e::es,i+1,h,hc=>by
  simp only[List.set_cons_succ,Bq]at h |-;have:=UA es i (by omega) hc;omega
theorem AG_ {es:List (List DVal)} {i:Nat} {c:List DVal} (h:es[i]? =some c):AJ c<=Bq es:=by
 induction es generalizing i with
 | nil=>simp at h
 | cons e es ih =>
  cases i with
  | zero=>simp only[bB0,aA0]at h;subst h;simp only[Bq];omega
  | succ i=>have:=ih (i:=i) (by simpa using h);simp only[Bq];omega
section
variable {P : Program} {B : Base} {s : DS} {a : Act} {w : World} {loc : Nat -> Loc}
theorem Rel.writeRow {id r n et k bs cap b:Nat} {e:Ent} {es es':List (List DVal)} {arr arr':Array Value} (R:Rel B s a w loc) (he:Aj s.own id=some e) (qT:e.r=r) (qZ:e.obj= .row et k bs es)
  (h1:(loc id).blks=[b]) (h2:(loc id).hdr= .slice (some ⟨b,0,none⟩) es.length cap) (h3:w.heap[b]? =some (.cells arr et (0,0))) (h4:es.length<=cap) (h5:cap<=maxLen) (h6:cap*k=arr.size) (h7:es.length*bs<=150000000000000)
  (qY:es'.length=es.length) (qD:arr'.size=arr.size) (vW:Ec (cu s loc) (hm s loc B.M0) w.heap k es' arr' 0) (vY:Bq es'<=n) (hn:Cb B s<=n)
  {dst:Option Nat} {d:DVal} {v:Value} (qC:∀i,dst=some i->i<B.nt) (zF:∀cur M h,rd cur M h d v) :
  Rel B ⟨Bv s.slots dst d,upE s.own id r (.row et k bs es')⟩ (a.put dst v) (w.setRow b arr') (CH loc id (loc id)):=by
 obtain⟨qU,hid⟩:=AN he;have qA:Ab s.own loc id r=some (loc id):=by unfold Ab;rw[he];simp[qT]
 have qS:b∈(loc id).blks:=by rw[h1];simp
 have hw:Upd (Aa s.own loc) w (w.setRow b arr'):=Upd.setRow qU (by rw[hid];exact qS) w _
 have hL:∀b0,b0∈(loc id).blks->b0<(w.setRow b arr').heap.size/\((∃e∈s.own,e.id=id/\b0∈(loc id).blks)\/w.heap.size<=b0):=by
  intro b0 qH;refine⟨?_,.inl ⟨e,qU,hid,qH⟩⟩;rw[h1]at qH;simp only[aG0]at qH;subst qH;have:=(aD0.1 h3).1;simpa using this
 have W:=R.weakUp (obj:= .row et k bs es') hn hw hL (.inr qA);refine R.up (hLn:=by rw[h1];simp) (n:=n) hn qC hw ?_ hL (.inr qA) ?_ (zF _ _ _)
 ·intro b0 qH qB;refine setRow_other w b b0 _ (fun h=>qB e qU hid ?_);rw[h];exact qS
 ·exact⟨by rw[qY];exact h7,.inr ⟨b,arr',cap,h1,by rw[qY];exact h2,setRow_heap w b arr _ et (0,0) h3,by omega,h5,by omega,Cd W k es' arr' 0 vY vW⟩⟩
theorem TW (S:St s.own loc B.M0 w.heap) {id et k bs:Nat} {es:List (List DVal)} {e:Ent} (he:Aj s.own id=some e) (qZ:e.obj= .row et k bs es) (qB:es≠[]) :
  es.length*bs<=150000000000000/\∃b arr cap,(loc id).blks=[b]/\(loc id).hdr= .slice (some ⟨b,0,none⟩) es.length cap/\w.heap[b]? =some (.cells arr et (0,0))/\es.length<=cap/\cap<=maxLen/\cap*k=arr.size/\Ec (cu s loc) (hm s loc B.M0) w.heap k es arr 0:=by
 obtain⟨qU,hid⟩:=AN he;have hk:=S.ok e qU;rw[qZ]at hk;obtain⟨h0,hk⟩:=hk;rw[hid]at hk;refine⟨h0,?_⟩
 rcases hk with ⟨h,_⟩ | h
 ·exact absurd h qB
 ·exact h
theorem Rel.storeRow {id r n i j:Nat} {et k bs:Nat} {es:List (List DVal)} {c0:List DVal} {e:Ent} {d:DVal} {t:TypeId} {v:Value} {ad:Value} (R:Rel B s a w loc) (he:Aj s.own id=some e) (qT:e.r=r) (qZ:e.obj= .row et k bs es)
  (ha:Bb s loc B.M0 w (.rx id r k i j) ad) (hd:Bb s loc B.M0 w d v) (hp:Cs s.own d=true) (hc:tCells P t=some (AB d).length) (hi:es[i]? =some c0) (vL:j+(AB d).length<=k) (vY:mx d<=JK s.slots) (hn:Cb B s<=n) :
  ∃w',(Instr.storeAt t ad v).run P w= .ok () w'/\Rel B ⟨s.slots,upE s.own id r (.row et k bs (es.set i (Dl c0 j (AB d))))⟩ a w' (CH loc id (loc id)):=by
 have fM:i<es.length:=(aF0.1 hi).1;obtain⟨h7,b,arr,cap,h1,h2,h3,h4,h5,h6,wW⟩:=TW (B:=B) R.st he qZ (by intro h;subst h;simp at fM);have qA:Ab s.own loc id r=some (loc id):=by unfold Ab;rw[he];simp[qT]
 simp only[Bb,rd]at ha;obtain⟨b',qL,rfl⟩:=ha _ qA;rw[h1]at qL;simp only[bF0,and_true]at qL;subst qL;obtain⟨hcv,qI⟩:=Hp R.st hp hd;have gC:=Aq _ _ hcv;simp only[bK0]at gC;have hrl:=Dp (k:=k) fM;have yW:es.length*k<=arr.size:=by rw[<-h6];exact aZ0 _ h4
 have qM:=Ly (P:=P) (w:=w) (b:=b) (off:=i*k+j) (t:=t) (v:=v) h3 (by rw[hc,gC]) (by omega) qI;have qU:=(AN he).1;have wS:=(Be qU).2;rw[qZ]at wS;simp only[EP]at wS;refine⟨_,qM,R.writeRow (dst:=none) (d:= .any) (v:=Go.undef) he qT qZ h1 h2 h3 h4 h5 h6 h7 (by simp) (by simp;omega) ?_ ?_ hn (fun i hi=>by simp at hi) (fun _ _ _=>by simp[rd])⟩
 ·have:=CC_ (j:=j) wW hi hcv qI vL yW;simpa using this
 ·unfold Cb at hn;refine UA _ _ (by omega) ?_;have h8:=JC c0 j (AB d);have h9:=AG_ hi;rw[Cy]at h8;omega
theorem SH {own:List Ent} {d:DVal} (h:Fe [] d=true):Fe own d=true:=by
 cases d<;>simp_all [Fe,DK,Aj,AZ]
theorem Ku {z:Array Value} {n i q:Nat} (hz:z.size≠0) (hi:i<n) (hq:q<z.size):(madeCells z (n*z.size))[i*z.size+q]? =z[q]? :=by
 have qV:i*z.size+q<n*z.size:=by have:=Dp (k:=z.size) hi;omega
 have e1:(i*z.size+q)%z.size=q:=by rw[Nat.mul_comm,Nat.mul_add_mod];exact Nat.mod_eq_of_lt hq
 simp[madeCells,qV,e1,hq]
theorem Ab_ {cur:EF} {M:List Nat} {H:Array Obj} {z:Value} {n:Nat} {k:Nat} (hk:z.cells.size=k) (qI:∀u∈z.cells.toList,u.oneCell'=true) :
  ∀(arr:Array Value) (o:Nat),(∀i q,i<n->q<k->arr[o+(i*k+q)]? =z.cells[q]?)->Ec cur M H k (List.replicate n (z.cells.toList.map BZ)) arr o:=by
 intro arr o hq;refine FN _ _ _ _ fun i cs hi=> ?_
 rw[dG0]at hi
 split at hi
 ·rename_i qV;simp only[aA0]at hi;subst hi;refine⟨by simpa using hk,?_⟩;have h0:=GD (cur:=cur) (M:=M) (H:=H) (z.cells.toList.map BZ) z.cells.toList [] [] (Br _) qI;refine CP _ _ arr _ _ (fun p hp=> ?_) h0;have zD:p<k:=by simp at hp;omega
  rw[cE0,hq i p qV zD];simp
 ·simp at hi
def tZeroE (P:Program) (t:TypeId):Option (List DVal):=match P.underlying t with
 | some (.slice e)=>tZero P e
 | _=>none
theorem CI_ (l:List Value):AJ (l.map BZ)=0:=by
 have h1:∀v,mx (BZ v)=0:=by
  intro v;unfold BZ
  split<;>(try split)<;>simp[mx]
 induction l with
 | nil=>simp[AJ]
 | cons v l ih=>simp[AJ,h1,ih]
theorem UB {n m:Nat} {cs:List DVal} (h:AJ cs<=n):Bq (List.replicate m cs)<=n:=OV fun d hd=>by rw[List.eq_of_mem_replicate hd];exact h
theorem Rel.makeRow {id n:Nat} {t e:TypeId} {k bs:Nat} {zs:List DVal} {kl kc:IntKind} {l c:Int} {dst:Option Nat} (R:Rel B s a w loc) (qE:Cb B s<=n) (qC:∀i,dst=some i->i<B.nt)
  (ht:tElem P t=some (k,bs)) (zH:tElemId P t=some e) (hz:tZeroE P t=some zs) (hzo:zs.all (Fe [])=true) (vS:zs.length=k) (h0:0<=l) (hlc:l<=c) (hb:c*bs<=150000000000000) (hl:c<=9223372036854775807) :
  ∃v' w' L,(Instr.makeSlice t (.int kl l) (.int kc c)).run P w= .ok v' w'/\Rel B ⟨Bv s.slots dst (.osl id n),upE s.own id n (.row e k bs (List.replicate l.toNat zs))⟩ (a.put dst v') w' (CH loc id L):=by
 obtain⟨e',i,hu,hi,qD,hby,_⟩:=BA ht;have hee:e'=e:=by unfold tElemId at zH;rw[hu]at zH;simpa using zH
 subst hee;unfold tZeroE at hz;rw[hu]at hz;simp only at hz
 obtain⟨z,yX,hzc⟩:∃z,i.zero=some z/\zs=z.cells.toList.map BZ:=by
  unfold tZero at hz;rw[hi]at hz;simp only at hz;rw[aY0]at hz;obtain⟨z,h1,h2⟩:=hz;exact⟨z,h1,h2.symm⟩
 subst hzc;simp only[aO0,bK0]at vS
 have qI:∀u∈z.cells.toList,u.oneCell'=true:=by
  intro u vB;have vO:Aw (cu s loc) (hm s loc B.M0) w.heap (z.cells.toList.map BZ) z.cells.toList:=Br _;exact FO R.st (z.cells.toList.map BZ) z.cells.toList (aX0.2 fun d hd=>SH (aX0.1 hzo d hd)) vO u vB
 subst qD;subst hby;have qM:=run_make (P:=P) w t e' i z hu hi yX kl kc l c h0 hlc (by rw[Int.mul_comm];omega) hl;have hw:Upd (Aa s.own loc) w (w.alloc (.cells (madeCells z.cells (c.toNat*i.size)) e')):=Upd.alloc _ _ _
 have hL:∀b0,b0∈(⟨[w.heap.size],.slice (some ⟨w.heap.size,0,none⟩) l.toNat c.toNat⟩:Loc).blks->b0<(w.alloc (.cells (madeCells z.cells (c.toNat*i.size)) e')).heap.size/\((∃e∈s.own,e.id=id/\b0∈(loc id).blks)\/w.heap.size<=b0):=by
  intro b0 qH;simp only[aG0]at qH;subst qH;exact⟨by simp,.inr (Nat.le_refl _)⟩
 refine⟨_,_,⟨[w.heap.size],.slice (some ⟨w.heap.size,0,none⟩) l.toNat c.toNat⟩,qM,?_⟩;have hlN:(List.replicate l.toNat (z.cells.toList.map BZ)).length=l.toNat:=dO0
 have hbN:l.toNat*i.bytes<=150000000000000:=by
  have h1:(c.toNat:Int)*i.bytes<=150000000000000:=by rw[Int.toNat_of_nonneg (by omega)];exact hb
  have h2:c.toNat*i.bytes<=150000000000000:=by omega
  exact Nat.le_trans (aZ0 _ (by omega)) h2
 refine R.up qE qC hw (fun b hb _=>by simp only[World.alloc,bP0];rw[if_neg (by omega)]) hL (.inl (Nat.le_refl _)) ⟨by rw[hlN];exact hbN,.inr ⟨w.heap.size,_,c.toNat,rfl,by rw[hlN],heap_alloc_new w _,by rw[hlN];omega,by unfold maxLen;omega,by simp[size_madeCells],?_⟩⟩ ?_
 ·by_cases zA:i.size=0
  ·refine FN _ _ _ _ fun q cs hq=> ?_
   rw[dG0]at hq
   split at hq
   ·simp only[aA0]at hq;subst hq;have:z.cells.toList=[]:=bM0 (by simpa[zA]using vS);rw[this];simp[zA,Dv]
   ·simp at hq
  ·refine Ab_ vS qI _ _ fun q p hq hp=> ?_
   rw[bN0];have:=Ku (z:=z.cells) (n:=c.toNat) (i:=q) (q:=p) (by omega) (by omega) (by omega)
   rwa[vS]at this
 ·simp only[rd];intro lc wY;rw[Ds]at wY;simp only[aA0]at wY;rw[<-wY]
def Ea (es:List (List DVal)) (i m:Nat) (zs:List DVal):List (List DVal):=es.take i++List.replicate m zs++es.drop (i+m)
theorem rO {cur:EF} {M:List Nat} {H:Array Obj} {k i m:Nat} {es:List (List DVal)} {z:Value} {arr:Array Value} (hr:Ec cur M H k es arr 0) (hb:i+m<=es.length) (vS:z.cells.size=k) (qI:∀u∈z.cells.toList,u.oneCell'=true) (hk:k≠0) (qD:es.length*k<=arr.size) :
  Ec cur M H k (Ea es i m (z.cells.toList.map BZ)) (arr.toList.take (i*k)++(Builtin.zeroCells z.cells m).toList++arr.toList.drop (i*k+(Builtin.zeroCells z.cells m).toList.length)).toArray 0:=by
 have hlz:(Builtin.zeroCells z.cells m).toList.length=m*k:=by simp[size_zeroCells,vS]
 have vL:i*k+m*k<=arr.size:=by rw[<-bQ0];exact Nat.le_trans (aZ0 _ hb) qD
 refine FN _ _ _ _ fun q cs hq=> ?_
 unfold Ea at hq
 by_cases h1:q<i
 ·rw[aS0,bC0 (by simp;omega),bT0 h1]at hq;obtain⟨g1,g2⟩:=El k es arr 0 q cs hr hq;have:=Dp (k:=k) h1;exact⟨g1,CP cs arr _ _ _ (fun p hp=>TV (by omega) (.inl (by omega))) g2⟩
 ·by_cases h2:q<i+m
  ·rw[aS0,bD0 (by simp;omega),bC0 (by simp;omega),dG0,if_pos (by simp;omega)]at hq;simp only[aA0]at hq;subst hq;refine⟨by simpa using vS,?_⟩;have h0:=GD (cur:=cur) (M:=M) (H:=H) (z.cells.toList.map BZ) z.cells.toList [] [] (Br _) qI;refine CP _ _ _ _ _ (fun p hp=> ?_) h0;have zD:p<k:=by simp at hp;omega
   have h3:=Dp (k:=k) (show q-i<m by omega);have h4:q*k=i*k+(q-i)*k:=by rw[<-bQ0];congr 1;omega
   simp only[dE0,bN0];rw[aS0,bD0 (by simp;omega),bC0 (by simp[size_zeroCells,vS];omega)];have e1:q*k+p-(arr.toList.take (i*k)).length=(q-i)*k+p:=by simp;omega
   rw[e1];have h5:=Ku (z:=z.cells) (n:=m) (i:=q-i) (q:=p) (by omega) (by omega) (by omega);rw[vS]at h5;have e2:Builtin.zeroCells z.cells m=madeCells z.cells (m*k):=by simp[Builtin.zeroCells,madeCells,vS]
   rw[e2];simpa using h5
  ·rw[bD0 (by simp;omega),cQ0]at hq;have e1:i+m+(q-(es.take i++List.replicate m (z.cells.toList.map BZ)).length)=q:=by simp;omega
   rw[e1]at hq;obtain⟨g1,g2⟩:=El k es arr 0 q cs hr hq;refine⟨g1,CP cs arr _ _ _ (fun p hp=>TV (by omega) (.inr ?_)) g2⟩;have:(i+m)*k<=q*k:=aZ0 _ (by omega);rw[bQ0]at this;omega
theorem iP (S:St s.own loc B.M0 w.heap) {d:DVal} {id r bs0 i m:Nat} {et k bs:Nat} {es:List (List DVal)} {e:Ent} {v:Value} (he:Aj s.own id=some e) (qT:e.r=r) (qZ:e.obj= .row et k bs es)
  (hv:Bb s loc B.M0 w d v) (hd:d= .osl id r/\i=0/\m=es.length\/d= .vw id r k bs0 i m):∃a cap,v= .slice a m cap/\(0<m->∃b,(loc id).blks=[b]/\a=some ⟨b,i*k,none⟩):=by
 obtain⟨qA,a,cap,hh,g1,g2,g3⟩:=LA S he qT qZ
 rcases hd with ⟨rfl,rfl,rfl⟩ | rfl
 ·simp only[Bb,rd]at hv;have:=hv _ qA;rw[hh]at this;refine⟨a,cap,this,fun h=> ?_⟩
  rcases g3 with ⟨rfl,_⟩ | ⟨b,hb,rfl⟩
  ·simp at h
  ·exact⟨b,hb,by simp⟩
 ·simp only[Bb,rd]at hv;obtain⟨a,cap,rfl,_,_,_,h,_⟩:=hv _ qA;exact⟨a,cap,rfl,h⟩
theorem Rel.clearRow {d:DVal} {id r k0 bs0 i m n:Nat} {t ty e':TypeId} {et k bs:Nat} {es:List (List DVal)} {zs:List DVal} {e:Ent} {v:Value} {dst:Option Nat} (R:Rel B s a w loc) (he:Aj s.own id=some e) (qT:e.r=r) (qZ:e.obj= .row et k bs es)
  (hv:Bb s loc B.M0 w d v) (hd:d= .osl id r/\i=0/\m=es.length\/d= .vw id r k bs0 i m) (hb:i+m<=es.length) (ht:tElem P t=some (k,k0)) (hz:tZeroE P t=some zs) (hzo:zs.all (Fe [])=true) (vS:zs.length=k) (hk:0<k)
  (qE:Cb B s<=n) (qC:∀i,dst=some i->i<B.nt) :
  ∃w',(Builtin.clear_ #[t] ty #[v]).run P w= .ok (.tuple #[]) w'/\Rel B ⟨Bv s.slots dst (.tup []),upE s.own id r (.row et k bs (Ea es i m zs))⟩ (a.put dst (.tuple #[])) w' (CH loc id (loc id)):=by
 obtain⟨e1,i1,hu,hi,qD,hby,_⟩:=BA ht;unfold tZeroE at hz;rw[hu]at hz;simp only at hz
 obtain⟨z,yX,hzc⟩:∃z,i1.zero=some z/\zs=z.cells.toList.map BZ:=by
  unfold tZero at hz;rw[hi]at hz;simp only at hz;rw[aY0]at hz;obtain⟨z,h1,h2⟩:=hz;exact⟨z,h1,h2.symm⟩
 subst hzc;simp only[aO0,bK0]at vS;have vO:∀M,Aw (cu s loc) M w.heap (z.cells.toList.map BZ) z.cells.toList:=fun M=>Br _
 have qI:∀u∈z.cells.toList,u.oneCell'=true :=
  FO R.st (z.cells.toList.map BZ) z.cells.toList (aX0.2 fun d hd=>SH (aX0.1 hzo d hd)) (vO _)
 obtain⟨ad,cap,rfl,jT⟩:=iP (B:=B) R.st he qT qZ hv hd;have jZ:∀cur M h,rd cur M h (.tup []) (.tuple #[]):=fun _ _ _=>by simp only[rd];exact⟨#[],rfl,by simp[Aw]⟩
 have qU:=(AN he).1;have hid:=(AN he).2;have wS:=(Be qU).2;rw[qZ]at wS;simp only[EP]at wS
 by_cases hm:m=0
 ·subst hm;have mB:Ea es i 0 (z.cells.toList.map BZ)=es:=by simp[Ea]
  rw[mB];refine⟨w,by cases ad<;>simp[Builtin.clear_,run_underlying hu],?_⟩;have qA:Ab s.own loc id r=some (loc id):=by unfold Ab;rw[he];simp[qT]
  have vI:=R.st.ok e qU;rw[qZ,hid]at vI
  have hL:∀b0,b0∈(loc id).blks->b0<w.heap.size/\((∃e∈s.own,e.id=id/\b0∈(loc id).blks)\/w.heap.size<=b0):=fun b0 qH =>
   ⟨R.st.lt b0 (aH0 _ (AY qU (by rw[hid];exact qH))),.inl ⟨e,qU,hid,qH⟩⟩
  have W:=R.weakUp (obj:= .row et k bs es) qE (Upd.refl _ w) hL (.inr qA);unfold Cb at qE;exact R.up (hLn:=by have:=Dt R.st.bl e qU;rwa[hid]at this) (n:=n) qE qC (Upd.refl _ w) (fun _ _ _=>rfl) hL (.inr qA) (Bd W (by simp only[EP];omega) (fun _ _ _ h=>h) vI) (jZ _ _ _)
 ·obtain⟨b,qS,rfl⟩:=jT (by omega);obtain⟨h7,b',arr,cap',h1,h2,h3,h4,h5,h6,wW⟩:=TW (B:=B) R.st he qZ (by intro h;subst h;simp at hb;omega);rw[h1]at qS;simp only[bF0,and_true]at qS;subst qS;have yW:es.length*k<=arr.size:=by rw[<-h6];exact aZ0 _ h4
  have hzn:(Builtin.zeroCells z.cells m).toList.length=m*k:=by simp[size_zeroCells,vS]
  have vL:i*k+m*k<=arr.size:=by rw[<-bQ0];exact Nat.le_trans (aZ0 _ hb) yW
  have hzone:∀u∈(Builtin.zeroCells z.cells m).toList,u.oneCell'=true:=by
   intro u vB;simp only[Builtin.zeroCells,dV0,aQ0]at vB;obtain⟨j,_,rfl⟩:=vB;have yO:0<z.cells.size:=by omega
   have qV:j%z.cells.size<z.cells.size:=Nat.mod_lt _ yO;rw[getElem!_pos z.cells _ qV];exact qI _ (by simp)
  have qR:=run_storeCells_at P b' (i*k) et (Builtin.zeroCells z.cells m).toList 0 arr w h3 (by rw[hzn];omega) hzone;simp only[dC0]at qR;obtain⟨m',rfl⟩:∃m',m=m'+1:=⟨m-1,by omega⟩;refine⟨_,?_,R.writeRow he qT qZ h1 h2 h3 h4 h5 h6 h7 (by simp[Ea];omega) (by simp only[dH0,aE0,aW0,bZ0,bK0,hzn];rw[<-bK0];rw[<-bK0]at vL;omega) (rO wW hb vS qI (by omega) yW) ?_ qE qC jZ⟩
  ·simp[Builtin.clear_,run_underlying hu,zeroValue,typeInfo,hi,yX,qR]
  ·unfold Ea;unfold Cb at qE;rw[Bt,Bt];have:=FP i es;have:=FQ (i+(m'+1)) es;have:=UB (n:=0) (m:=m'+1) (cU0 (CI_ z.cells.toList));omega
end
end Go.Dm
end
