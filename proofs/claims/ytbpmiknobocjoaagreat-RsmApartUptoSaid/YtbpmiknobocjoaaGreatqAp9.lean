/- Parts of a proof, laid together: EnI1, EnI2. -/
import Derived.Laws.MakeOwn
import Derived.Test.YtbpmiknobocjoaaGreatqAp8
set_option linter.unusedSimpArgs false
set_option maxHeartbeats 8000000
set_option linter.unusedVariables false
set_option linter.unusedSectionVars false
section
namespace Go.Dm
variable [DMode]
def YH : Value->Bool
 | .bool _ | .int _ _ | .string _=>true
 | _=>false
theorem Gx_ {a b:ByteArray}:(a==b)=true↔a=b:=by
 rw[<-Ni,beq_iff_eq]
 constructor
 ·intro h;cases a;cases b;simp at h;rw[h]
 ·rintro rfl;rfl
def SO (ks:List DVal) (k:DVal):List DVal:=match Bc ks k with
 | some _=>ks
 | none=>ks++[k]
def SN (ks vs:List DVal) (k x:DVal):List DVal:=match Bc ks k with
 | some j=>vs.set j x
 | none=>vs++[x]
theorem OT (a b:List DVal):AJ (a++b)=max (AJ a) (AJ b):=by
 induction a with
 | nil=>simp[AJ]
 | cons d a ih=>simp only[List.cons_append,AJ,ih];omega
theorem FI_ (a:List DVal) (j:Nat) (d:DVal):AJ (a.set j d)<=max (AJ a) (mx d):=by
 induction a generalizing j with
 | nil=>simp[AJ]
 | cons x a ih =>
  cases j with
  | zero=>simp only[eN0,AJ];omega
  | succ j=>have:=ih j;simp only[List.set_cons_succ,AJ];omega
theorem Yc (ks:List DVal) (k:DVal):AJ (SO ks k)<=max (AJ ks) (mx k):=by
 unfold SO
 split
 ·omega
 ·rw[OT];simp[AJ]
theorem Yb (ks vs:List DVal) (k x:DVal):AJ (SN ks vs k x)<=max (AJ vs) (mx x):=by
 unfold SN
 split
 ·exact FI_ _ _ _
 ·rw[OT];simp[AJ]
section
variable {cur : ES} {M : List Nat} {h : Array Obj}
theorem rE : ∀{ds:List DVal} {vs:List Value} {j:Nat} {d:DVal} {v:Value},rdV cur M h ds vs->rd cur M h d v->rdV cur M h (ds.set j d) (vs.set j v)
 | [],vs,j,d,v,h1,h2=>by simp only[rdV]at h1;subst h1;simp[rdV]
 | a::ds,vs,j,d,v,h1,h2=>by
  simp only[rdV]at h1;obtain⟨u,r,rfl,h3,h4⟩:=h1
  cases j with
  | zero=>simp only[eN0,rdV];exact⟨v,r,rfl,h2,h4⟩
  | succ j=>simp only[List.set_cons_succ,rdV];exact⟨u,_,rfl,h3,rE h4 h2⟩
theorem Us : ∀{cks:List CK} {xs ys:List DVal} {us vs:List Value},Bt cks xs=true->Bt cks ys=true->CA xs ys=true->rdV cur M h xs us->rdV cur M h ys vs->us=vs/\us.all YH=true
 | [],[],[],us,vs,_,_,_,h1,h2=>by simp only[rdV]at h1 h2;subst h1;subst h2;simp
 | c::cks,x::xs,y::ys,us,vs,hx,hy,he,h1,h2=>by
  simp only[Bt,aL0]at hx hy;simp only[CA,aL0]at he;simp only[rdV]at h1 h2;obtain⟨u,ur,rfl,h3,h4⟩:=h1;obtain⟨v,vr,rfl,h5,h6⟩:=h2;obtain⟨e1,e2⟩:=Us hx.2 hy.2 he.2 h4 h6
  have:u=v/\YH u=true:=by
   have hx1:=hx.1;have hy1:=hy.1;have cY:=he.1;cases c<;>cases x<;>simp only[Nm]at hx1<;>first | (simp at hx1;done) | skip
   all_goals cases y<;>simp only[Nm]at hy1<;>first | (simp at hy1;done) | skip
   ·simp only[rd]at h3 h5;simp only[Wg,beq_iff_eq]at cY;subst h3;subst h5;subst cY;exact⟨rfl,rfl⟩
   ·simp only[rd]at h3 h5;simp only[Wg,beq_iff_eq]at cY hx1 hy1;obtain⟨rfl,_⟩:=h3;obtain⟨rfl,_⟩:=h5;subst hx1;subst hy1;subst cY;exact⟨rfl,rfl⟩
   ·simp only[rd]at h3 h5;simp only[Wg,Gx_]at cY;obtain⟨rfl,_⟩:=h3;obtain⟨rfl,_⟩:=h5;subst cY;exact⟨rfl,rfl⟩
  obtain⟨rfl,hu⟩:=this;subst e1;exact⟨rfl,by simp only[cT0,aL0];exact⟨hu,e2⟩⟩
 | [],_::_,_,_,_,hx,_,_,_,_=>by simp[Bt]at hx
 | [],[],_::_,_,_,_,hy,_,_,_=>by simp[Bt]at hy
 | _::_,[],_,_,_,hx,_,_,_,_=>by simp[Bt]at hx
 | _::_,_::_,[],_,_,_,hy,_,_,_=>by simp[Bt]at hy
theorem Ly : ∀(n:Nat) (v:Value),YH v=true->Instr.sameBits n v v=true:=by
 intro n v hv;cases v<;>simp[YH]at hv<;>cases n<;>simp[Instr.sameBits,Gx_]
theorem DF_ {P:Program} {kt:TypeId} {x k:DVal} {u v:Value} (hx:Cm P kt x=true) (hk:Cm P kt k=true) (he:CA (BX x) (BX k)=true) (rx:rd cur M h x u) (rk:rd cur M h k v):v=u/\Instr.sameBits 10000 v u=true:=by
 unfold Cm at hx hk
 split at hx
 ·rename_i cks b hf hb;simp only[hf,hb,aL0,beq_iff_eq]at hx hk;obtain⟨us,h1,rfl⟩:=GN hx.2 rx;obtain⟨vs,h2,rfl⟩:=GN hk.2 rk;obtain⟨rfl,h3⟩:=Us hx.1 hk.1 he h1 h2;refine⟨rfl,?_⟩
  cases b with
  | false =>
   simp only[valOf]
   match us,h1,h2,hx,hk,h3 with
   | [],h1,h2,hx,hk,h3 =>
    have hl:=AA _ _ h1;have qM:=hx.2;cases x<;>simp[BX,Ru]at hl qM
   | u::r,h1,h2,hx,hk,h3 =>
    simp only[cT0,aL0]at h3;simp;exact Ly _ _ h3.1
  | true =>
   simp only[valOf,if_true];rw[show (10000:Nat)=9999+1 from rfl];simp only[Instr.sameBits,beq_self_eq_true,cA0,aZ0];intro p hp
   have hz:∀(l:List Value),l.all YH=true->∀p∈l.zip l,Instr.sameBits 9999 p.1 p.2=true:=by
    intro l
    induction l with
    | nil=>intro _ p hp;simp at hp
    | cons a l ih =>
     intro ha p hp;simp only[cT0,aL0]at ha;simp only[List.zip_cons_cons,aK0]at hp
     rcases hp with rfl | hp
     ·exact Ly _ _ ha.1
     ·exact ih ha.2 p hp
   exact hz us h3 p (by simpa using hp)
 ·simp at hx
theorem Yn : ∀{ks:List DVal} {x:DVal} {j:Nat},Bc ks x=some j->∃k,ks[j]? =some k/\CA (BX x) (BX k)=true
 | k::ks,x,j,hh=>by
  simp only[Bc]at hh
  split at hh
  ·rename_i he;simp only[aA0]at hh;subst hh;exact⟨k,rfl,he⟩
  ·rw[bB0]at hh;obtain⟨i,h1,rfl⟩:=hh;obtain⟨k',h2,h3⟩:=Yn h1;exact⟨k',by simpa using h2,h3⟩
end
section
variable {P : Program} {B : Base} {s : DS} {a : Act} {w : World} {loc : Nat -> Loc}
theorem Rel.newMap {id n:Nat} {dst:Option Nat} (R:Rel B s a w loc) (qP:Cd B s<=n) (qT:∀i,dst=some i->i<B.nt) :
  Rel B ⟨putS s.slots dst (.omp id n),upE s.own id n (.map [] [])⟩ (a.put dst (.map (some w.heap.size))) (w.alloc (.map #[] 0)) (CS loc id ⟨[w.heap.size],Go.undef⟩):=by
 have hw:=Upd.alloc (Aa s.own loc) w (.map #[] 0)
 have hL:∀b,b∈(⟨[w.heap.size],Go.undef⟩:Loc).blks->b<(w.alloc (.map #[] 0)).heap.size/\((∃e∈s.own,e.id=id/\b∈(loc id).blks)\/w.heap.size<=b):=by
  intro b hb;simp only[aE0]at hb;subst hb;exact⟨by simp,.inr (Nat.le_refl _)⟩
 refine R.up qP qT hw (fun b hb _=>by simp only[World.alloc,bS0];rw[if_neg (by omega)]) hL (.inl (Nat.le_refl _)) ?_ ?_
 ·refine⟨w.heap.size, #[],0,rfl,heap_alloc_new w _,⟨by simp,by simp⟩,by simp[rdV],by simp[rdV]⟩
 ·simp only[rd];intro l hl;rw[DD]at hl;simp only[aA0]at hl;subst hl;exact⟨_,rfl,rfl⟩
theorem Rel.updMap {id r n:Nat} {ks vs:List DVal} {e:Ent} {t kt et:TypeId} {k x:DVal} {mv kv xv:Value} (R:Rel B s a w loc) (he:Ah s.own id=some e) (wV:e.r=r) (qN:e.obj= .map ks vs)
  (ha:Bg s loc B.M0 w (.omp id r) mv) (hk:Bg s loc B.M0 w k kv) (hx:Bg s loc B.M0 w x xv) (ht:tMap P t=some (kt,et)) (hko:Cm P kt k=true) (gT:ks.all (Cm P kt)=true)
  (hmk:mx k<=Hk s.slots) (vG:mx x<=Hk s.slots) (hn:Cd B s<=n) :
  ∃w',(Instr.mapUpdate t mv kv xv).run P w= .ok () w'/\Rel B ⟨s.slots,upE s.own id r (.map (SO ks k) (SN ks vs k x))⟩ a w' (CS loc id (loc id)):=by
 obtain⟨qY,hid⟩:=AU he;have dQ:=R.st.ok e qY;rw[qN]at dQ;obtain⟨b,es,clk,h1,h2,h3,h4,h5⟩:=dQ;rw[hid]at h1;have qE:Ac s.own loc id r=some (loc id):=by unfold Ac;rw[he];simp[wV]
 simp only[Bg,rd]at ha;obtain⟨b',qM,rfl⟩:=ha _ qE;have qC:b∈(loc id).blks:=by rw[h1];simp
 rw[h1]at qM;simp only[bG0,and_true]at qM;subst qM;have hu:P.underlying t=some (.map kt et):=by unfold tMap at ht;split at ht<;>simp_all
 have dF:=Hf (w:=w) hko hk es.toList ks gT h4;have dL:=AA _ _ h4;have zU:=AA _ _ h5;simp only[aJ0,bI0]at dL zU;have fN:=(aC0.1 h2).1;have vM:=(Bn qY).2;rw[qN]at vM;simp only[Em]at vM
 -- the world behind it
 have main:∀(es':Array MapEntry) (clk':Nat),GP es' clk'->rdV (cu s loc) (hm s loc B.M0) w.heap (SO ks k) (es'.toList.map (·.key))->rdV (cu s loc) (hm s loc B.M0) w.heap (SN ks vs k x) (es'.toList.map (·.val)) ->
   Rel B ⟨s.slots,upE s.own id r (.map (SO ks k) (SN ks vs k x))⟩ a { w with heap:=w.heap.setIfInBounds b (.map es' clk') } (CS loc id (loc id)):=by
  intro es' clk' hb jE fT
  have hw:Upd (Aa s.own loc) w { w with heap:=w.heap.setIfInBounds b (.map es' clk') }:=by
   refine⟨rfl,rfl,rfl,fun _=>Nat.le_refl _,by simp,fun b0 _ hn0=> ?_⟩;have qF:b≠b0:=fun h=>hn0 (h▸AW qY (by rw[hid];exact qC))
   simp[cW0,qF]
  have hL:∀b0,b0∈(loc id).blks->b0<({ w with heap:=w.heap.setIfInBounds b (.map es' clk') }:World).heap.size/\((∃e∈s.own,e.id=id/\b0∈(loc id).blks)\/w.heap.size<=b0):=by
   intro b0 qR;refine⟨?_,.inl ⟨e,qY,hid,qR⟩⟩;rw[h1]at qR;simp only[aE0]at qR;subst qR;simpa using fN
  have W:=R.weakUp (obj:= .map (SO ks k) (SN ks vs k x)) hn hw hL (.inr qE);unfold Cd at hn;refine R.up (hLn:=by rw[h1];simp) (dst:=none) (v:=Go.undef) (d:= .any) (n:=n) (by unfold Cd;exact hn) (fun i hi=>by simp at hi) hw ?_ hL (.inr qE) ?_ (by simp[rd])
  ·intro b0 qR qF;have hne':b≠b0:=fun h=>qF e qY hid (by rw[<-h];exact qC)
   simp[cW0,hne']
  ·refine⟨b,es',clk',h1,by simp[cW0,fN],hb,AP W _ _ ?_ jE,AP W _ _ ?_ fT⟩
   ·have:=Yc ks k;omega
   ·have:=Yb ks vs k x;omega
 simp only[Instr.mapUpdate,Sem.run_bind,run_underlying hu,Result.andThen_ok,MapKept.run_getObj_map h2,Fm hko hk,dF]
 cases hq:Bc ks k with
 | none =>
  simp only[Option.map_none];refine⟨_,MapKept.run_setObj_map _ h2,main _ _ ?_ ?_ ?_⟩
  ·obtain⟨g1,g2⟩:=h3;refine⟨?_,?_⟩
   ·simp only[Array.toList_push,bD0,List.map_cons,List.map_nil];rw[bX0];refine⟨g1,by simp,?_⟩;intro c hc c' kO wE;simp only[aE0]at kO;obtain⟨e',vE,rfl⟩:=aT0.1 hc;have:=g2 e' vE;omega
   ·intro e' vE;simp only[Array.toList_push,aG0,aE0]at vE
    rcases vE with vE | rfl
    ·have:=g2 e' vE;omega
    ·simp
  ·unfold SO;rw[hq];simp only[Array.toList_push,bD0,List.map_cons,List.map_nil];exact Cf _ _ _ _ h4 (by simp only[rdV];exact⟨kv,[],rfl,hk,rfl⟩)
  ·unfold SN;rw[hq];simp only[Array.toList_push,bD0,List.map_cons,List.map_nil];exact Cf _ _ _ _ h5 (by simp only[rdV];exact⟨xv,[],rfl,hx,rfl⟩)
 | some j =>
  simp only[cU0];obtain⟨k0,zD,heq⟩:=Yn hq;obtain⟨v0,kN,yP⟩:=QM _ _ j k0 h4 zD
  have hjlt:j<es.size:=by
   have:=(aB0.1 zD).1;omega
  have hkey:(es[j]?).map (·.key)=some v0:=by
   rw[bH0]at kN;simpa using kN
  obtain⟨rfl,hsb⟩:=DF_ hko (aZ0.1 gT k0 (bJ0 zD)) heq hk yP;simp only[hkey,bY0,Instr.keyThatStays,hsb,if_true,Sem.run_pure,Result.andThen_ok];refine⟨_,MapKept.run_setObj_map _ h2,main _ _ ?_ ?_ ?_⟩
  ·obtain⟨g1,g2⟩:=h3
   have bO:(es.modify j fun e=>{ e with key:=v0,val:=xv }).toList.map (·.born)=es.toList.map (·.born):=by
    apply List.ext_getElem?
    intro i;simp only[bH0,eH0,cE0]
    split
    ·cases es[i]? <;>simp
    ·rfl
   refine⟨by rw[bO];exact g1,?_⟩;intro e' vE;have:e'.born∈(es.modify j fun e=>{ e with key:=v0,val:=xv }).toList.map (·.born):=cX0 (f:=(·.born)) vE;rw[bO]at this;obtain⟨e0,vL,qR⟩:=aT0.1 this;rw[<-qR];exact g2 e0 vL
  ·unfold SO;rw[hq]
   have dD:(es.modify j fun e=>{ e with key:=v0,val:=xv }).toList.map (·.key)=es.toList.map (·.key):=by
    apply List.ext_getElem?
    intro i;simp only[bH0,eH0,cE0]
    split
    ·rename_i yB;subst yB;rw[hkey];cases bJ:es[j]? <;>simp_all
    ·rfl
   rw[dD];exact h4
  ·unfold SN;rw[hq]
   have hvals:(es.modify j fun e=>{ e with key:=v0,val:=xv }).toList.map (·.val)=(es.toList.map (·.val)).set j xv:=by
    apply List.ext_getElem?
    intro i;simp only[bH0,eH0,cE0,List.getElem?_set,aJ0,bI0]
    split
    ·rename_i yB;subst yB;simp[hjlt]
    ·rfl
   rw[hvals];exact rE h5 hx
def Sa (ks:List DVal) (k:DVal):List DVal:=match Bc ks k with | some j=>ks.eraseIdx j | none=>ks
def RZ (ks vs:List DVal) (k:DVal):List DVal:=match Bc ks k with | some j=>vs.eraseIdx j | none=>vs
theorem Oh : ∀(l:List DVal) (j:Nat),AJ (l.eraseIdx j)<=AJ l
 | [],_=>by simp
 | d::l,0=>by simp only[List.eraseIdx_cons_zero,AJ];omega
 | d::l,j+1=>by have:=Oh l j;simp only[List.eraseIdx_cons_succ,AJ];omega
theorem Yf (ks:List DVal) (k:DVal):AJ (Sa ks k)<=AJ ks:=by
 unfold Sa;split
 ·exact Oh _ _
 ·exact Nat.le_refl _
theorem Ye (ks vs:List DVal) (k:DVal):AJ (RZ ks vs k)<=AJ vs:=by
 unfold RZ;split
 ·exact Oh _ _
 ·exact Nat.le_refl _
theorem Oa {cur:ES} {M:List Nat} {h:Array Obj}:∀{ds:List DVal} {vs:List Value} (j:Nat),rdV cur M h ds vs->rdV cur M h (ds.eraseIdx j) (vs.eraseIdx j)
 | [],vs,j,hr=>by simp only[rdV]at hr;subst hr;simp[rdV]
 | d::ds,vs,0,hr=>by
  simp only[rdV]at hr;obtain⟨v,r,rfl,_,h2⟩:=hr;simpa using h2
 | d::ds,vs,j+1,hr=>by
  simp only[rdV]at hr;obtain⟨v,r,rfl,h1,h2⟩:=hr;simp only[List.eraseIdx_cons_succ,rdV];exact⟨v,_,rfl,h1,Oa j h2⟩
theorem Ih {α β:Type} (f:α->β):∀(l:List α) (j:Nat),(l.eraseIdx j).map f=(l.map f).eraseIdx j
 | [],_=>by simp
 | _::l,0=>by simp
 | _::l,j+1=>by simp[Ih f l j]
theorem Rel.delMap {id r n:Nat} {ks vs:List DVal} {e:Ent} {t kt et t2 ty:TypeId} {k:DVal} {mv kv:Value} {dst:Option Nat} (R:Rel B s a w loc) (he:Ah s.own id=some e) (wV:e.r=r) (qN:e.obj= .map ks vs)
  (ha:Bg s loc B.M0 w (.omp id r) mv) (hk:Bg s loc B.M0 w k kv) (ht:tMap P t=some (kt,et)) (hko:Cm P kt k=true) (gT:ks.all (Cm P kt)=true)
  (hn:Cd B s<=n) (qT:∀i,dst=some i->i<B.nt) :
  ∃w',(Builtin.delete_ #[t,t2] ty #[mv,kv]).run P w= .ok (.tuple #[]) w'/\Rel B ⟨putS s.slots dst (.tup []),upE s.own id r (.map (Sa ks k) (RZ ks vs k))⟩ (a.put dst (.tuple #[])) w' (CS loc id (loc id)):=by
 obtain⟨qY,hid⟩:=AU he;have dQ:=R.st.ok e qY;rw[qN]at dQ;obtain⟨b,es,clk,h1,h2,h3,h4,h5⟩:=dQ;rw[hid]at h1;have qE:Ac s.own loc id r=some (loc id):=by unfold Ac;rw[he];simp[wV]
 simp only[Bg,rd]at ha;obtain⟨b',qM,rfl⟩:=ha _ qE;have qC:b∈(loc id).blks:=by rw[h1];simp
 rw[h1]at qM;simp only[bG0,and_true]at qM;subst qM;have hu:P.underlying t=some (.map kt et):=by unfold tMap at ht;split at ht<;>simp_all
 have dF:=Hf (w:=w) hko hk es.toList ks gT h4;have dL:=AA _ _ h4;simp only[aJ0,bI0]at dL;have fN:=(aC0.1 h2).1;have vM:=(Bn qY).2;rw[qN]at vM;simp only[Em]at vM
 have main:∀(es':Array MapEntry) (clk':Nat),GP es' clk'->rdV (cu s loc) (hm s loc B.M0) w.heap (Sa ks k) (es'.toList.map (·.key))->rdV (cu s loc) (hm s loc B.M0) w.heap (RZ ks vs k) (es'.toList.map (·.val)) ->
   Rel B ⟨putS s.slots dst (.tup []),upE s.own id r (.map (Sa ks k) (RZ ks vs k))⟩ (a.put dst (.tuple #[])) { w with heap:=w.heap.setIfInBounds b (.map es' clk') } (CS loc id (loc id)):=by
  intro es' clk' hb jE fT
  have hw:Upd (Aa s.own loc) w { w with heap:=w.heap.setIfInBounds b (.map es' clk') }:=by
   refine⟨rfl,rfl,rfl,fun _=>Nat.le_refl _,by simp,fun b0 _ hn0=> ?_⟩;have qF:b≠b0:=fun h=>hn0 (h▸AW qY (by rw[hid];exact qC))
   simp[cW0,qF]
  have hL:∀b0,b0∈(loc id).blks->b0<({ w with heap:=w.heap.setIfInBounds b (.map es' clk') }:World).heap.size/\((∃e∈s.own,e.id=id/\b0∈(loc id).blks)\/w.heap.size<=b0):=by
   intro b0 qR;refine⟨?_,.inl ⟨e,qY,hid,qR⟩⟩;rw[h1]at qR;simp only[aE0]at qR;subst qR;simpa using fN
  have W:=R.weakUp (obj:= .map (Sa ks k) (RZ ks vs k)) hn hw hL (.inr qE);unfold Cd at hn;refine R.up (hLn:=by rw[h1];simp) (n:=n) (by unfold Cd;exact hn) qT hw ?_ hL (.inr qE) ?_ (by simp only[rd];exact⟨#[],rfl,by simp[rdV]⟩)
  ·intro b0 qR qF;have hne':b≠b0:=fun h=>qF e qY hid (by rw[<-h];exact qC)
   simp[cW0,hne']
  ·refine⟨b,es',clk',h1,by simp[cW0,fN],hb,AP W _ _ ?_ jE,AP W _ _ ?_ fT⟩
   ·have:=Yf ks k;omega
   ·have:=Ye ks vs k;omega
 simp only[Builtin.delete_,dJ0,Sem.run_bind,run_underlying hu,Result.andThen_ok,MapKept.run_getObj_map h2,Fm hko hk,dF,cR0,bA0,bL0]
 cases hq:Bc ks k with
 | none =>
  simp only[Option.map_none,Sem.run_bind,MapKept.run_setObj_map _ h2,Result.andThen_ok,Sem.run_pure];refine⟨_,rfl,main _ _ h3 ?_ ?_⟩
  ·unfold Sa;rw[hq];exact h4
  ·unfold RZ;rw[hq];exact h5
 | some j =>
  simp only[cU0,Sem.run_bind,MapKept.run_setObj_map _ h2,Result.andThen_ok,Sem.run_pure];have hto:(es.eraseIdxIfInBounds j).toList=es.toList.eraseIdx j:=by simp
  refine⟨_,rfl,main _ _ ⟨?_,?_⟩ ?_ ?_⟩
  ·rw[hto];exact h3.1.sublist ((List.eraseIdx_sublist _ _).map _)
  ·intro e' vE;rw[hto]at vE;exact h3.2 e' ((List.eraseIdx_sublist _ _).subset vE)
  ·unfold Sa;rw[hq,hto,Ih];exact Oa j h4
  ·unfold RZ;rw[hq,hto,Ih];exact Oa j h5
end
theorem eV {cur:ES} {M:List Nat} {H:Array Obj} {cs ds:List DVal} {arr:Array Value} {vs:List Value} {o j:Nat} (hr:rdC cur M H cs arr o) (hv:rdV cur M H ds vs) (qS:∀u∈vs,u.oneCell'=true)
  (vW:j+ds.length<=cs.length) (qI:o+cs.length<=arr.size):rdC cur M H (Dx cs j ds) (arr.toList.take (o+j)++vs++arr.toList.drop (o+j+vs.length)).toArray o:=by
 have gK:=AA _ _ hv;unfold Dx;refine MI _ _ _ _ (MI _ _ _ _ ?_ ?_) ?_
 ·refine CX _ arr _ o o (fun q hq=> ?_) (MH j _ _ _ hr);have wB:q<j:=by simp at hq;omega
  simp only[cR0,aS0];rw[bC0 (by simp;omega),bT0 (by omega)];simp
 ·have h:=Hz ds vs (arr.toList.take (o+j)) (arr.toList.drop (o+j+vs.length)) hv qS;have e1:o+(cs.take j).length=(arr.toList.take (o+j)).length:=by simp;omega
  rw[e1];exact h
 ·have hdr:=EC (j+ds.length) cs arr o hr;have e1:o+(cs.take j++ds).length=o+(j+ds.length):=by simp;omega
  rw[e1];refine CX _ arr _ _ _ (fun q hq=> ?_) hdr;simp only[cR0];rw[bE0 (by simp;omega),cQ0];have e2:o+j+vs.length+(o+(j+ds.length)+q-(arr.toList.take (o+j)++vs).length)=o+(j+ds.length)+q:=by simp;omega
  rw[e2];simp
theorem Ve {arr:Array Value} {vs:List Value} {off q:Nat} (qI:off+vs.length<=arr.size) (hq:q<off\/off+vs.length<=q):(arr.toList.take off++vs++arr.toList.drop (off+vs.length)).toArray[q]? =arr[q]? :=by
 simp only[cR0]
 rcases hq with hq | hq
 ·rw[aS0,bC0 (by simp;omega),bT0 hq];simp
 ·rw[bE0 (by simp;omega),cQ0];have e2:off+vs.length+(q-(arr.toList.take off++vs).length)=q:=by simp;omega
  rw[e2];simp
theorem Dz {i k n:Nat} (h:i<n):i*k+k<=n*k:=by
 have:=aW0 k (show i+1<=n from h)
 rwa[bV0,Nat.one_mul]at this
theorem Fi_ {cur:ES} {M:List Nat} {H:Array Obj} {k i j:Nat} {es:List (List DVal)} {c0 ds:List DVal} {arr:Array Value} {vs:List Value} (hr:Dt cur M H k es arr 0) (hi:es[i]? =some c0) (hv:rdV cur M H ds vs) (qS:∀u∈vs,u.oneCell'=true)
  (vW:j+ds.length<=k) (qI:es.length*k<=arr.size):Dt cur M H k (es.set i (Dx c0 j ds)) (arr.toList.take (i*k+j)++vs++arr.toList.drop (i*k+j+vs.length)).toArray 0:=by
 have gK:=AA _ _ hv;have kI:i<es.length:=(aB0.1 hi).1;have qH:=Dz (k:=k) kI;obtain⟨yA,yP⟩:=Dh k es arr 0 i c0 hr hi;refine EA _ _ _ _ fun q cs hq=> ?_
 rw[List.getElem?_set]at hq
 split at hq
 ·rename_i hiq;subst hiq
  (try simp only[kI,if_true]at hq);simp only[aA0]at hq
  subst hq;refine⟨by simp[Dx];omega,?_⟩;simp only[bQ0]at yP |-;exact eV yP hv qS (by omega) (by omega)
 ·rename_i hiq;obtain⟨g1,g2⟩:=Dh k es arr 0 q cs hr hq;have hql:q<es.length:=(aB0.1 hq).1;refine⟨g1,CX cs arr _ _ _ (fun p hp=>Ve (by omega) ?_) g2⟩
  rcases Nat.lt_or_gt_of_ne hiq with h | h
  ·have:=Dz (k:=k) h;omega
  ·have:=Dz (k:=k) h;omega
theorem VG {n:Nat} {cs:List DVal}:∀(es:List (List DVal)) (i:Nat),Br es<=n->AJ cs<=n->Br (es.set i cs)<=n
 | [],_,_,_=>by simp[Br]
 | e::es,0,h,hc=>by simp only[eN0,Br]at h |-;omega
 | e::es,i+1,h,hc=>by
  simp only[List.set_cons_succ,Br]at h |-;have:=VG es i (by omega) hc;omega
theorem Dk_ {es:List (List DVal)} {i:Nat} {c:List DVal} (h:es[i]? =some c):AJ c<=Br es:=by
 induction es generalizing i with
 | nil=>simp at h
 | cons e es ih =>
  cases i with
  | zero=>simp only[bA0,aA0]at h;subst h;simp only[Br];omega
  | succ i=>have:=ih (i:=i) (by simpa using h);simp only[Br];omega
section
variable {P : Program} {B : Base} {s : DS} {a : Act} {w : World} {loc : Nat -> Loc}
theorem Rel.writeRow {id r n et k bs cap b:Nat} {e:Ent} {es es':List (List DVal)} {arr arr':Array Value} (R:Rel B s a w loc) (he:Ah s.own id=some e) (wV:e.r=r) (qN:e.obj= .row et k bs es)
  (h1:(loc id).blks=[b]) (h2:(loc id).hdr= .slice (some ⟨b,0,none⟩) es.length cap) (h3:w.heap[b]? =some (.cells arr et (0,0))) (h4:es.length<=cap) (h5:cap<=maxLen) (h6:cap*k=arr.size) (h7:es.length*bs<=150000000000000)
  (qU:es'.length=es.length) (qI:arr'.size=arr.size) (vX:Dt (cu s loc) (hm s loc B.M0) w.heap k es' arr' 0) (vG:Br es'<=n) (hn:Cd B s<=n)
  {dst:Option Nat} {d:DVal} {v:Value} (qT:∀i,dst=some i->i<B.nt) (yF:∀cur M h,rd cur M h d v) :
  Rel B ⟨putS s.slots dst d,upE s.own id r (.row et k bs es')⟩ (a.put dst v) (w.setRow b arr') (CS loc id (loc id)):=by
 obtain⟨qY,hid⟩:=AU he;have qE:Ac s.own loc id r=some (loc id):=by unfold Ac;rw[he];simp[wV]
 have qC:b∈(loc id).blks:=by rw[h1];simp
 have hw:Upd (Aa s.own loc) w (w.setRow b arr'):=Upd.setRow qY (by rw[hid];exact qC) w _
 have hL:∀b0,b0∈(loc id).blks->b0<(w.setRow b arr').heap.size/\((∃e∈s.own,e.id=id/\b0∈(loc id).blks)\/w.heap.size<=b0):=by
  intro b0 qR;refine⟨?_,.inl ⟨e,qY,hid,qR⟩⟩;rw[h1]at qR;simp only[aE0]at qR;subst qR;have:=(aC0.1 h3).1;simpa using this
 have W:=R.weakUp (obj:= .row et k bs es') hn hw hL (.inr qE);refine R.up (hLn:=by rw[h1];simp) (n:=n) hn qT hw ?_ hL (.inr qE) ?_ (yF _ _ _)
 ·intro b0 qR qF;refine setRow_other w b b0 _ (fun h=>qF e qY hid ?_);rw[h];exact qC
 ·exact⟨by rw[qU];exact h7,.inr ⟨b,arr',cap,h1,by rw[qU];exact h2,setRow_heap w b arr _ et (0,0) h3,by omega,h5,by omega,Cu W k es' arr' 0 vG vX⟩⟩
theorem Vf (S:St s.own loc B.M0 w.heap) {id et k bs:Nat} {es:List (List DVal)} {e:Ent} (he:Ah s.own id=some e) (qN:e.obj= .row et k bs es) (qF:es≠[]) :
  es.length*bs<=150000000000000/\∃b arr cap,(loc id).blks=[b]/\(loc id).hdr= .slice (some ⟨b,0,none⟩) es.length cap/\w.heap[b]? =some (.cells arr et (0,0))/\es.length<=cap/\cap<=maxLen/\cap*k=arr.size/\Dt (cu s loc) (hm s loc B.M0) w.heap k es arr 0:=by
 obtain⟨qY,hid⟩:=AU he;have hk:=S.ok e qY;rw[qN]at hk;obtain⟨h0,hk⟩:=hk;rw[hid]at hk;refine⟨h0,?_⟩
 rcases hk with ⟨h,_⟩ | h
 ·exact absurd h qF
 ·exact h
theorem Rel.storeRow {id r n i j:Nat} {et k bs:Nat} {es:List (List DVal)} {c0:List DVal} {e:Ent} {d:DVal} {t:TypeId} {v:Value} {ad:Value} (R:Rel B s a w loc) (he:Ah s.own id=some e) (wV:e.r=r) (qN:e.obj= .row et k bs es)
  (ha:Bg s loc B.M0 w (.rx id r k i j) ad) (hd:Bg s loc B.M0 w d v) (hp:Cz s.own d=true) (hc:tCells P t=some (AI d).length) (hi:es[i]? =some c0) (vW:j+(AI d).length<=k) (vG:mx d<=Hk s.slots) (hn:Cd B s<=n) :
  ∃w',(Instr.storeAt t ad v).run P w= .ok () w'/\Rel B ⟨s.slots,upE s.own id r (.row et k bs (es.set i (Dx c0 j (AI d))))⟩ a w' (CS loc id (loc id)):=by
 have kI:i<es.length:=(aB0.1 hi).1;obtain⟨h7,b,arr,cap,h1,h2,h3,h4,h5,h6,qH⟩:=Vf (B:=B) R.st he qN (by intro h;subst h;simp at kI);have qE:Ac s.own loc id r=some (loc id):=by unfold Ac;rw[he];simp[wV]
 simp only[Bg,rd]at ha;obtain⟨b',qM,rfl⟩:=ha _ qE;rw[h1]at qM;simp only[bG0,and_true]at qM;subst qM;obtain⟨hcv,qS⟩:=GM R.st hp hd;have gK:=AA _ _ hcv;simp only[bI0]at gK;have jS:=Dz (k:=k) kI;have kU:es.length*k<=arr.size:=by rw[<-h6];exact aW0 _ h4
 have qD:=IP (P:=P) (w:=w) (b:=b) (off:=i*k+j) (t:=t) (v:=v) h3 (by rw[hc,gK]) (by omega) qS;have qY:=(AU he).1;have vM:=(Bn qY).2;rw[qN]at vM;simp only[Em]at vM;refine⟨_,qD,R.writeRow (dst:=none) (d:= .any) (v:=Go.undef) he wV qN h1 h2 h3 h4 h5 h6 h7 (by simp) (by simp;omega) ?_ ?_ hn (fun i hi=>by simp at hi) (fun _ _ _=>by simp[rd])⟩
 ·have:=Fi_ (j:=j) qH hi hcv qS vW kU;simpa using this
 ·unfold Cd at hn;refine VG _ _ (by omega) ?_;have h8:=KL c0 j (AI d);have h9:=Dk_ hi;rw[CH]at h8;omega
theorem TN {own:List Ent} {d:DVal} (h:Fy [] d=true):Fy own d=true:=by
 cases d<;>simp_all [Fy,Ea,Ah,Bi]
theorem LD {z:Array Value} {n i q:Nat} (hz:z.size≠0) (hi:i<n) (hq:q<z.size):(madeCells z (n*z.size))[i*z.size+q]? =z[q]? :=by
 have qV:i*z.size+q<n*z.size:=by have:=Dz (k:=z.size) hi;omega
 have e1:(i*z.size+q)%z.size=q:=by rw[Nat.mul_comm,Nat.mul_add_mod];exact Nat.mod_eq_of_lt hq
 simp[madeCells,qV,e1,hq]
theorem CI_ {cur:ES} {M:List Nat} {H:Array Obj} {z:Value} {n:Nat} {k:Nat} (hk:z.cells.size=k) (qS:∀u∈z.cells.toList,u.oneCell'=true) :
  ∀(arr:Array Value) (o:Nat),(∀i q,i<n->q<k->arr[o+(i*k+q)]? =z.cells[q]?)->Dt cur M H k (List.replicate n (z.cells.toList.map Cb)) arr o:=by
 intro arr o hq;refine EA _ _ _ _ fun i cs hi=> ?_
 rw[List.getElem?_replicate]at hi
 split at hi
 ·rename_i qV;simp only[aA0]at hi;subst hi;refine⟨by simpa using hk,?_⟩;have h0:=Hz (cur:=cur) (M:=M) (H:=H) (z.cells.toList.map Cb) z.cells.toList [] [] (BB _) qS;refine CX _ _ arr _ _ (fun p hp=> ?_) h0;have zM:p<k:=by simp at hp;omega
  rw[cS0,hq i p qV zM];simp
 ·simp at hi
def tZeroE (P:Program) (t:TypeId):Option (List DVal):=match P.underlying t with
 | some (.slice e)=>tZero P e
 | _=>none
theorem Fs_ (l:List Value):AJ (l.map Cb)=0:=by
 have h1:∀v,mx (Cb v)=0:=by
  intro v;unfold Cb
  split<;>(try split)<;>simp[mx]
 induction l with
 | nil=>simp[AJ]
 | cons v l ih=>simp[AJ,h1,ih]
theorem VH {n m:Nat} {cs:List DVal} (h:AJ cs<=n):Br (List.replicate m cs)<=n:=PX fun d hd=>by rw[List.eq_of_mem_replicate hd];exact h
theorem Rel.makeRow {id n:Nat} {t e:TypeId} {k bs:Nat} {zs:List DVal} {kl kc:IntKind} {l c:Int} {dst:Option Nat} (R:Rel B s a w loc) (qP:Cd B s<=n) (qT:∀i,dst=some i->i<B.nt)
  (ht:tElem P t=some (k,bs)) (yU:tElemId P t=some e) (hz:tZeroE P t=some zs) (hzo:zs.all (Fy [])=true) (vA:zs.length=k) (h0:0<=l) (hlc:l<=c) (hb:c*bs<=150000000000000) (hl:c<=9223372036854775807) :
  ∃v' w' L,(Instr.makeSlice t (.int kl l) (.int kc c)).run P w= .ok v' w'/\Rel B ⟨putS s.slots dst (.osl id n),upE s.own id n (.row e k bs (List.replicate l.toNat zs))⟩ (a.put dst v') w' (CS loc id L):=by
 obtain⟨e',i,hu,hi,qI,hby,_⟩:=Bx ht;have hee:e'=e:=by unfold tElemId at yU;rw[hu]at yU;simpa using yU
 subst hee;unfold tZeroE at hz;rw[hu]at hz;simp only at hz
 obtain⟨z,yG,hzc⟩:∃z,i.zero=some z/\zs=z.cells.toList.map Cb:=by
  unfold tZero at hz;rw[hi]at hz;simp only at hz;rw[bB0]at hz;obtain⟨z,h1,h2⟩:=hz;exact⟨z,h1,h2.symm⟩
 subst hzc;simp only[aJ0,bI0]at vA
 have qS:∀u∈z.cells.toList,u.oneCell'=true:=by
  intro u vO;have vV:rdV (cu s loc) (hm s loc B.M0) w.heap (z.cells.toList.map Cb) z.cells.toList:=BB _;exact Gx R.st (z.cells.toList.map Cb) z.cells.toList (aZ0.2 fun d hd=>TN (aZ0.1 hzo d hd)) vV u vO
 subst qI;subst hby;have qD:=run_make (P:=P) w t e' i z hu hi yG kl kc l c h0 hlc (by rw[Int.mul_comm];omega) hl;have hw:Upd (Aa s.own loc) w (w.alloc (.cells (madeCells z.cells (c.toNat*i.size)) e')):=Upd.alloc _ _ _
 have hL:∀b0,b0∈(⟨[w.heap.size],.slice (some ⟨w.heap.size,0,none⟩) l.toNat c.toNat⟩:Loc).blks->b0<(w.alloc (.cells (madeCells z.cells (c.toNat*i.size)) e')).heap.size/\((∃e∈s.own,e.id=id/\b0∈(loc id).blks)\/w.heap.size<=b0):=by
  intro b0 qR;simp only[aE0]at qR;subst qR;exact⟨by simp,.inr (Nat.le_refl _)⟩
 refine⟨_,_,⟨[w.heap.size],.slice (some ⟨w.heap.size,0,none⟩) l.toNat c.toNat⟩,qD,?_⟩;have hlN:(List.replicate l.toNat (z.cells.toList.map Cb)).length=l.toNat:=List.length_replicate
 have hbN:l.toNat*i.bytes<=150000000000000:=by
  have h1:(c.toNat:Int)*i.bytes<=150000000000000:=by rw[Int.toNat_of_nonneg (by omega)];exact hb
  have h2:c.toNat*i.bytes<=150000000000000:=by omega
  exact Nat.le_trans (aW0 _ (by omega)) h2
 refine R.up qP qT hw (fun b hb _=>by simp only[World.alloc,bS0];rw[if_neg (by omega)]) hL (.inl (Nat.le_refl _)) ⟨by rw[hlN];exact hbN,.inr ⟨w.heap.size,_,c.toNat,rfl,by rw[hlN],heap_alloc_new w _,by rw[hlN];omega,by unfold maxLen;omega,by simp[size_madeCells],?_⟩⟩ ?_
 ·by_cases zD:i.size=0
  ·refine EA _ _ _ _ fun q cs hq=> ?_
   rw[List.getElem?_replicate]at hq
   split at hq
   ·simp only[aA0]at hq;subst hq;have:z.cells.toList=[]:=bN0 (by simpa[zD]using vA);rw[this];simp[zD,rdC]
   ·simp at hq
  ·refine CI_ vA qS _ _ fun q p hq hp=> ?_
   rw[bQ0];have:=LD (z:=z.cells) (n:=c.toNat) (i:=q) (q:=p) (by omega) (by omega) (by omega)
   rwa[vA]at this
 ·simp only[rd];intro lc wW;rw[DD]at wW;simp only[aA0]at wW;rw[<-wW]
def Eo (es:List (List DVal)) (i m:Nat) (zs:List DVal):List (List DVal):=es.take i++List.replicate m zs++es.drop (i+m)
theorem Aw_ {cur:ES} {M:List Nat} {H:Array Obj} {k i m:Nat} {es:List (List DVal)} {z:Value} {arr:Array Value} (hr:Dt cur M H k es arr 0) (hb:i+m<=es.length) (vA:z.cells.size=k) (qS:∀u∈z.cells.toList,u.oneCell'=true) (hk:k≠0) (qI:es.length*k<=arr.size) :
  Dt cur M H k (Eo es i m (z.cells.toList.map Cb)) (arr.toList.take (i*k)++(Builtin.zeroCells z.cells m).toList++arr.toList.drop (i*k+(Builtin.zeroCells z.cells m).toList.length)).toArray 0:=by
 have hlz:(Builtin.zeroCells z.cells m).toList.length=m*k:=by simp[size_zeroCells,vA]
 have vW:i*k+m*k<=arr.size:=by rw[<-bV0];exact Nat.le_trans (aW0 _ hb) qI
 refine EA _ _ _ _ fun q cs hq=> ?_
 unfold Eo at hq
 by_cases h1:q<i
 ·rw[aS0,bC0 (by simp;omega),bT0 h1]at hq;obtain⟨g1,g2⟩:=Dh k es arr 0 q cs hr hq;have:=Dz (k:=k) h1;exact⟨g1,CX cs arr _ _ _ (fun p hp=>Ve (by omega) (.inl (by omega))) g2⟩
 ·by_cases h2:q<i+m
  ·rw[aS0,bE0 (by simp;omega),bC0 (by simp;omega),List.getElem?_replicate,if_pos (by simp;omega)]at hq;simp only[aA0]at hq;subst hq;refine⟨by simpa using vA,?_⟩;have h0:=Hz (cur:=cur) (M:=M) (H:=H) (z.cells.toList.map Cb) z.cells.toList [] [] (BB _) qS;refine CX _ _ _ _ _ (fun p hp=> ?_) h0;have zM:p<k:=by simp at hp;omega
   have h3:=Dz (k:=k) (show q-i<m by omega);have h4:q*k=i*k+(q-i)*k:=by rw[<-bV0];congr 1;omega
   simp only[cR0,bQ0];rw[aS0,bE0 (by simp;omega),bC0 (by simp[size_zeroCells,vA];omega)];have e1:q*k+p-(arr.toList.take (i*k)).length=(q-i)*k+p:=by simp;omega
   rw[e1];have h5:=LD (z:=z.cells) (n:=m) (i:=q-i) (q:=p) (by omega) (by omega) (by omega);rw[vA]at h5;have e2:Builtin.zeroCells z.cells m=madeCells z.cells (m*k):=by simp[Builtin.zeroCells,madeCells,vA]
   rw[e2];simpa using h5
  ·rw[bE0 (by simp;omega),cQ0]at hq;have e1:i+m+(q-(es.take i++List.replicate m (z.cells.toList.map Cb)).length)=q:=by simp;omega
   rw[e1]at hq;obtain⟨g1,g2⟩:=Dh k es arr 0 q cs hr hq;refine⟨g1,CX cs arr _ _ _ (fun p hp=>Ve (by omega) (.inr ?_)) g2⟩;have:(i+m)*k<=q*k:=aW0 _ (by omega);rw[bV0]at this;omega
theorem rM (S:St s.own loc B.M0 w.heap) {d:DVal} {id r bs0 i m:Nat} {et k bs:Nat} {es:List (List DVal)} {e:Ent} {v:Value} (he:Ah s.own id=some e) (wV:e.r=r) (qN:e.obj= .row et k bs es)
  (hv:Bg s loc B.M0 w d v) (hd:d= .osl id r/\i=0/\m=es.length\/d= .vw id r k bs0 i m):∃a cap,v= .slice a m cap/\(0<m->∃b,(loc id).blks=[b]/\a=some ⟨b,i*k,none⟩):=by
 obtain⟨qE,a,cap,hh,g1,g2,g3⟩:=MD S he wV qN
 rcases hd with ⟨rfl,rfl,rfl⟩ | rfl
 ·simp only[Bg,rd]at hv;have:=hv _ qE;rw[hh]at this;refine⟨a,cap,this,fun h=> ?_⟩
  rcases g3 with ⟨rfl,_⟩ | ⟨b,hb,rfl⟩
  ·simp at h
  ·exact⟨b,hb,by simp⟩
 ·simp only[Bg,rd]at hv;obtain⟨a,cap,rfl,_,_,_,h,_⟩:=hv _ qE;exact⟨a,cap,rfl,h⟩
theorem Rel.clearRow {d:DVal} {id r k0 bs0 i m n:Nat} {t ty e':TypeId} {et k bs:Nat} {es:List (List DVal)} {zs:List DVal} {e:Ent} {v:Value} {dst:Option Nat} (R:Rel B s a w loc) (he:Ah s.own id=some e) (wV:e.r=r) (qN:e.obj= .row et k bs es)
  (hv:Bg s loc B.M0 w d v) (hd:d= .osl id r/\i=0/\m=es.length\/d= .vw id r k bs0 i m) (hb:i+m<=es.length) (ht:tElem P t=some (k,k0)) (hz:tZeroE P t=some zs) (hzo:zs.all (Fy [])=true) (vA:zs.length=k) (hk:0<k)
  (qP:Cd B s<=n) (qT:∀i,dst=some i->i<B.nt) :
  ∃w',(Builtin.clear_ #[t] ty #[v]).run P w= .ok (.tuple #[]) w'/\Rel B ⟨putS s.slots dst (.tup []),upE s.own id r (.row et k bs (Eo es i m zs))⟩ (a.put dst (.tuple #[])) w' (CS loc id (loc id)):=by
 obtain⟨e1,i1,hu,hi,qI,hby,_⟩:=Bx ht;unfold tZeroE at hz;rw[hu]at hz;simp only at hz
 obtain⟨z,yG,hzc⟩:∃z,i1.zero=some z/\zs=z.cells.toList.map Cb:=by
  unfold tZero at hz;rw[hi]at hz;simp only at hz;rw[bB0]at hz;obtain⟨z,h1,h2⟩:=hz;exact⟨z,h1,h2.symm⟩
 subst hzc;simp only[aJ0,bI0]at vA;have vV:∀M,rdV (cu s loc) M w.heap (z.cells.toList.map Cb) z.cells.toList:=fun M=>BB _
 have qS:∀u∈z.cells.toList,u.oneCell'=true :=
  Gx R.st (z.cells.toList.map Cb) z.cells.toList (aZ0.2 fun d hd=>TN (aZ0.1 hzo d hd)) (vV _)
 obtain⟨ad,cap,rfl,yI⟩:=rM (B:=B) R.st he wV qN hv hd;have jP:∀cur M h,rd cur M h (.tup []) (.tuple #[]):=fun _ _ _=>by simp only[rd];exact⟨#[],rfl,by simp[rdV]⟩
 have qY:=(AU he).1;have hid:=(AU he).2;have vM:=(Bn qY).2;rw[qN]at vM;simp only[Em]at vM
 by_cases hm:m=0
 ·subst hm;have nD:Eo es i 0 (z.cells.toList.map Cb)=es:=by simp[Eo]
  rw[nD];refine⟨w,by cases ad<;>simp[Builtin.clear_,run_underlying hu],?_⟩;have qE:Ac s.own loc id r=some (loc id):=by unfold Ac;rw[he];simp[wV]
  have vH:=R.st.ok e qY;rw[qN,hid]at vH
  have hL:∀b0,b0∈(loc id).blks->b0<w.heap.size/\((∃e∈s.own,e.id=id/\b0∈(loc id).blks)\/w.heap.size<=b0):=fun b0 qR =>
   ⟨R.st.lt b0 (aM0 _ (AW qY (by rw[hid];exact qR))),.inl ⟨e,qY,hid,qR⟩⟩
  have W:=R.weakUp (obj:= .row et k bs es) qP (Upd.refl _ w) hL (.inr qE);unfold Cd at qP;exact R.up (hLn:=by have:=DE R.st.bl e qY;rwa[hid]at this) (n:=n) qP qT (Upd.refl _ w) (fun _ _ _=>rfl) hL (.inr qE) (AV W (by simp only[Em];omega) (fun _ _ _ h=>h) vH) (jP _ _ _)
 ·obtain⟨b,qC,rfl⟩:=yI (by omega);obtain⟨h7,b',arr,cap',h1,h2,h3,h4,h5,h6,qH⟩:=Vf (B:=B) R.st he qN (by intro h;subst h;simp at hb;omega);rw[h1]at qC;simp only[bG0,and_true]at qC;subst qC;have kU:es.length*k<=arr.size:=by rw[<-h6];exact aW0 _ h4
  have hzn:(Builtin.zeroCells z.cells m).toList.length=m*k:=by simp[size_zeroCells,vA]
  have vW:i*k+m*k<=arr.size:=by rw[<-bV0];exact Nat.le_trans (aW0 _ hb) kU
  have hzone:∀u∈(Builtin.zeroCells z.cells m).toList,u.oneCell'=true:=by
   intro u vO;simp only[Builtin.zeroCells,dS0,aT0]at vO;obtain⟨j,_,rfl⟩:=vO;have yR:0<z.cells.size:=by omega
   have qV:j%z.cells.size<z.cells.size:=Nat.mod_lt _ yR;rw[getElem!_pos z.cells _ qV];exact qS _ (by simp)
  have wO:=run_storeCells_at P b' (i*k) et (Builtin.zeroCells z.cells m).toList 0 arr w h3 (by rw[hzn];omega) hzone;simp only[dH0]at wO;obtain⟨m',rfl⟩:∃m',m=m'+1:=⟨m-1,by omega⟩;refine⟨_,?_,R.writeRow he wV qN h1 h2 h3 h4 h5 h6 h7 (by simp[Eo];omega) (by simp only[dJ0,aD0,aY0,cD0,bI0,hzn];rw[<-bI0];rw[<-bI0]at vW;omega) (Aw_ qH hb vA qS (by omega) kU) ?_ qP qT jP⟩
  ·simp[Builtin.clear_,run_underlying hu,zeroValue,typeInfo,hi,yG,wO]
  ·unfold Eo;unfold Cd at qP;rw[BD,BD];have:=EF i es;have:=Gy (i+(m'+1)) es;have:=VH (n:=0) (m:=m'+1) (dD0 (Fs_ z.cells.toList));omega
end
end Go.Dm
end
