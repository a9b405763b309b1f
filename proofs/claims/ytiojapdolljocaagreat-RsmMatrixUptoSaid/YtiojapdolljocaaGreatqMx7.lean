/- Parts of a proof, laid together: EnI1, EnI2. -/
import Derived.Laws.MakeOwn
import Derived.Test.YtiojapdolljocaaGreatqMx6
set_option linter.unusedSimpArgs false
set_option maxHeartbeats 8000000
set_option linter.unusedVariables false
set_option linter.unusedSectionVars false
section
namespace Go.Dm
variable [DMode]
def Ye : Value->Bool
 | .bool _ | .int _ _ | .string _=>true
 | _=>false
theorem Gl_ {a b:ByteArray}:(a==b)=true↔a=b:=by
 rw[<-ML,beq_iff_eq]
 constructor
 ·intro h;cases a;cases b;simp at h;rw[h]
 ·rintro rfl;rfl
def Sw (ks:List DVal) (k:DVal):List DVal:=match Ba ks k with
 | some _=>ks
 | none=>ks++[k]
def Sv (ks vs:List DVal) (k x:DVal):List DVal:=match Ba ks k with
 | some j=>vs.set j x
 | none=>vs++[x]
theorem Oz (a b:List DVal):AL (a++b)=max (AL a) (AL b):=by
 induction a with
 | nil=>simp[AL]
 | cons d a ih=>simp only[List.cons_append,AL,ih];omega
theorem Fu_ (a:List DVal) (j:Nat) (d:DVal):AL (a.set j d)<=max (AL a) (mx d):=by
 induction a generalizing j with
 | nil=>simp[AL]
 | cons x a ih =>
  cases j with
  | zero=>simp only[eR0,AL];omega
  | succ j=>have:=ih j;simp only[List.set_cons_succ,AL];omega
theorem Xx (ks:List DVal) (k:DVal):AL (Sw ks k)<=max (AL ks) (mx k):=by
 unfold Sw
 split
 ·omega
 ·rw[Oz];simp[AL]
theorem Xw (ks vs:List DVal) (k x:DVal):AL (Sv ks vs k x)<=max (AL vs) (mx x):=by
 unfold Sv
 split
 ·exact Fu_ _ _ _
 ·rw[Oz];simp[AL]
section
variable {cur : ER} {M : List Nat} {h : Array Obj}
theorem oX : ∀{ds:List DVal} {vs:List Value} {j:Nat} {d:DVal} {v:Value},Az cur M h ds vs->rd cur M h d v->Az cur M h (ds.set j d) (vs.set j v)
 | [],vs,j,d,v,h1,h2=>by simp only[Az]at h1;subst h1;simp[Az]
 | a::ds,vs,j,d,v,h1,h2=>by
  simp only[Az]at h1;obtain⟨u,r,rfl,h3,h4⟩:=h1
  cases j with
  | zero=>simp only[eR0,Az];exact⟨v,r,rfl,h2,h4⟩
  | succ j=>simp only[List.set_cons_succ,Az];exact⟨u,_,rfl,h3,oX h4 h2⟩
theorem TX : ∀{cks:List CK} {xs ys:List DVal} {us vs:List Value},Bo cks xs=true->Bo cks ys=true->Ck xs ys=true->Az cur M h xs us->Az cur M h ys vs->us=vs/\us.all Ye=true
 | [],[],[],us,vs,_,_,_,h1,h2=>by simp only[Az]at h1 h2;subst h1;subst h2;simp
 | c::cks,x::xs,y::ys,us,vs,hx,hy,he,h1,h2=>by
  simp only[Bo,aJ0]at hx hy;simp only[Ck,aJ0]at he;simp only[Az]at h1 h2;obtain⟨u,ur,rfl,h3,h4⟩:=h1;obtain⟨v,vr,rfl,h5,h6⟩:=h2;obtain⟨e1,e2⟩:=TX hx.2 hy.2 he.2 h4 h6
  have:u=v/\Ye u=true:=by
   have hx1:=hx.1;have hy1:=hy.1;have cL:=he.1;cases c<;>cases x<;>simp only[Oc]at hx1<;>first | (simp at hx1;done) | skip
   all_goals cases y<;>simp only[Oc]at hy1<;>first | (simp at hy1;done) | skip
   ·simp only[rd]at h3 h5;simp only[TY,beq_iff_eq]at cL;subst h3;subst h5;subst cL;exact⟨rfl,rfl⟩
   ·simp only[rd]at h3 h5;simp only[TY,beq_iff_eq]at cL hx1 hy1;obtain⟨rfl,_⟩:=h3;obtain⟨rfl,_⟩:=h5;subst hx1;subst hy1;subst cL;exact⟨rfl,rfl⟩
   ·simp only[rd]at h3 h5;simp only[TY,Gl_]at cL;obtain⟨rfl,_⟩:=h3;obtain⟨rfl,_⟩:=h5;subst cL;exact⟨rfl,rfl⟩
  obtain⟨rfl,hu⟩:=this;subst e1;exact⟨rfl,by simp only[dA0,aJ0];exact⟨hu,e2⟩⟩
 | [],_::_,_,_,_,hx,_,_,_,_=>by simp[Bo]at hx
 | [],[],_::_,_,_,_,hy,_,_,_=>by simp[Bo]at hy
 | _::_,[],_,_,_,hx,_,_,_,_=>by simp[Bo]at hx
 | _::_,_::_,[],_,_,_,hy,_,_,_=>by simp[Bo]at hy
theorem KW : ∀(n:Nat) (v:Value),Ye v=true->Instr.sameBits n v v=true:=by
 intro n v hv;cases v<;>simp[Ye]at hv<;>cases n<;>simp[Instr.sameBits,Gl_]
theorem Dj_ {P:Program} {kt:TypeId} {x k:DVal} {u v:Value} (hx:Cp P kt x=true) (hk:Cp P kt k=true) (he:Ck (BX x) (BX k)=true) (rx:rd cur M h x u) (rk:rd cur M h k v):v=u/\Instr.sameBits 10000 v u=true:=by
 unfold Cp at hx hk
 split at hx
 ·rename_i cks b hf hb;simp only[hf,hb,aJ0,beq_iff_eq]at hx hk;obtain⟨us,h1,rfl⟩:=GE hx.2 rx;obtain⟨vs,h2,rfl⟩:=GE hk.2 rk;obtain⟨rfl,h3⟩:=TX hx.1 hk.1 he h1 h2;refine⟨rfl,?_⟩
  cases b with
  | false =>
   simp only[valOf]
   match us,h1,h2,hx,hk,h3 with
   | [],h1,h2,hx,hk,h3 =>
    have hl:=Aw _ _ h1;have qM:=hx.2;cases x<;>simp[BX,Rf]at hl qM
   | u::r,h1,h2,hx,hk,h3 =>
    simp only[dA0,aJ0]at h3;simp;exact KW _ _ h3.1
  | true =>
   simp only[valOf,if_true];rw[show (10000:Nat)=9999+1 from rfl];simp only[Instr.sameBits,beq_self_eq_true,cC0,bC0];intro p hp
   have hz:∀(l:List Value),l.all Ye=true->∀p∈l.zip l,Instr.sameBits 9999 p.1 p.2=true:=by
    intro l
    induction l with
    | nil=>intro _ p hp;simp at hp
    | cons a l ih =>
     intro ha p hp;simp only[dA0,aJ0]at ha;simp only[List.zip_cons_cons,aK0]at hp
     rcases hp with rfl | hp
     ·exact KW _ _ ha.1
     ·exact ih ha.2 p hp
   exact hz us h3 p (by simpa using hp)
 ·simp at hx
theorem XH : ∀{ks:List DVal} {x:DVal} {j:Nat},Ba ks x=some j->∃k,ks[j]? =some k/\Ck (BX x) (BX k)=true
 | k::ks,x,j,hh=>by
  simp only[Ba]at hh
  split at hh
  ·rename_i he;simp only[aA0]at hh;subst hh;exact⟨k,rfl,he⟩
  ·rw[bF0]at hh;obtain⟨i,h1,rfl⟩:=hh;obtain⟨k',h2,h3⟩:=XH h1;exact⟨k',by simpa using h2,h3⟩
end
section
variable {P : Program} {B : Base} {s : DS} {a : Act} {w : World} {loc : Nat -> Loc}
theorem Rel.newMap {id n:Nat} {dst:Option Nat} (R:Rel B s a w loc) (qH:Ce B s<=n) (qS:∀i,dst=some i->i<B.nt) :
  Rel B ⟨Bz s.slots dst (.omp id n),upE s.own id n (.map [] [])⟩ (a.put dst (.map (some w.heap.size))) (w.alloc (.map #[] 0)) (CQ loc id ⟨[w.heap.size],Go.undef⟩):=by
 have hw:=Upd.alloc (Aa s.own loc) w (.map #[] 0)
 have hL:∀b,b∈(⟨[w.heap.size],Go.undef⟩:Loc).blks->b<(w.alloc (.map #[] 0)).heap.size/\((∃e∈s.own,e.id=id/\b∈(loc id).blks)\/w.heap.size<=b):=by
  intro b hb;simp only[aF0]at hb;subst hb;exact⟨by simp,.inr (Nat.le_refl _)⟩
 refine R.up qH qS hw (fun b hb _=>by simp only[World.alloc,bS0];rw[if_neg (by omega)]) hL (.inl (Nat.le_refl _)) ?_ ?_
 ·refine⟨w.heap.size, #[],0,rfl,heap_alloc_new w _,⟨by simp,by simp⟩,by simp[Az],by simp[Az]⟩
 ·simp only[rd];intro l hl;rw[Dv]at hl;simp only[aA0]at hl;subst hl;exact⟨_,rfl,rfl⟩
theorem Rel.updMap {id r n:Nat} {ks vs:List DVal} {e:Ent} {t kt et:TypeId} {k x:DVal} {mv kv xv:Value} (R:Rel B s a w loc) (he:An s.own id=some e) (wV:e.r=r) (qN:e.obj= .map ks vs)
  (ha:Bh s loc B.M0 w (.omp id r) mv) (hk:Bh s loc B.M0 w k kv) (hx:Bh s loc B.M0 w x xv) (ht:tMap P t=some (kt,et)) (hko:Cp P kt k=true) (bV:ks.all (Cp P kt)=true)
  (hmk:mx k<=Ku s.slots) (vA:mx x<=Ku s.slots) (hn:Ce B s<=n) :
  ∃w',(Instr.mapUpdate t mv kv xv).run P w= .ok () w'/\Rel B ⟨s.slots,upE s.own id r (.map (Sw ks k) (Sv ks vs k x))⟩ a w' (CQ loc id (loc id)):=by
 obtain⟨qY,hid⟩:=AS he;have dN:=R.st.ok e qY;rw[qN]at dN;obtain⟨b,es,clk,h1,h2,h3,h4,h5⟩:=dN;rw[hid]at h1;have qD:Ad s.own loc id r=some (loc id):=by unfold Ad;rw[he];simp[wV]
 simp only[Bh,rd]at ha;obtain⟨b',qM,rfl⟩:=ha _ qD;have qI:b∈(loc id).blks:=by rw[h1];simp
 rw[h1]at qM;simp only[bH0,and_true]at qM;subst qM;have hu:P.underlying t=some (.map kt et):=by unfold tMap at ht;split at ht<;>simp_all
 have mQ:=GX (w:=w) hko hk es.toList ks bV h4;have dD:=Aw _ _ h4;have wS:=Aw _ _ h5;simp only[aN0,bI0]at dD wS;have fA:=(aD0.1 h2).1;have vU:=(Bm qY).2;rw[qN]at vU;simp only[Fa]at vU
 -- the world behind it
 have main:∀(es':Array MapEntry) (clk':Nat),Od es' clk'->Az (cu s loc) (hm s loc B.M0) w.heap (Sw ks k) (es'.toList.map (·.key))->Az (cu s loc) (hm s loc B.M0) w.heap (Sv ks vs k x) (es'.toList.map (·.val)) ->
   Rel B ⟨s.slots,upE s.own id r (.map (Sw ks k) (Sv ks vs k x))⟩ a { w with heap:=w.heap.setIfInBounds b (.map es' clk') } (CQ loc id (loc id)):=by
  intro es' clk' hb jA fR
  have hw:Upd (Aa s.own loc) w { w with heap:=w.heap.setIfInBounds b (.map es' clk') }:=by
   refine⟨rfl,rfl,rfl,fun _=>Nat.le_refl _,by simp,fun b0 _ hn0=> ?_⟩;have qF:b≠b0:=fun h=>hn0 (h▸Bf qY (by rw[hid];exact qI))
   simp[cR0,qF]
  have hL:∀b0,b0∈(loc id).blks->b0<({ w with heap:=w.heap.setIfInBounds b (.map es' clk') }:World).heap.size/\((∃e∈s.own,e.id=id/\b0∈(loc id).blks)\/w.heap.size<=b0):=by
   intro b0 qR;refine⟨?_,.inl ⟨e,qY,hid,qR⟩⟩;rw[h1]at qR;simp only[aF0]at qR;subst qR;simpa using fA
  have W:=R.weakUp (obj:= .map (Sw ks k) (Sv ks vs k x)) hn hw hL (.inr qD);unfold Ce at hn;refine R.up (hLn:=by rw[h1];simp) (dst:=none) (v:=Go.undef) (d:= .any) (n:=n) (by unfold Ce;exact hn) (fun i hi=>by simp at hi) hw ?_ hL (.inr qD) ?_ (by simp[rd])
  ·intro b0 qR qF;have hne':b≠b0:=fun h=>qF e qY hid (by rw[<-h];exact qI)
   simp[cR0,hne']
  ·refine⟨b,es',clk',h1,by simp[cR0,fA],hb,AY W _ _ ?_ jA,AY W _ _ ?_ fR⟩
   ·have:=Xx ks k;omega
   ·have:=Xw ks vs k x;omega
 simp only[Instr.mapUpdate,Sem.run_bind,run_underlying hu,Result.andThen_ok,MapKept.run_getObj_map h2,Ff hko hk,mQ]
 cases hq:Ba ks k with
 | none =>
  simp only[Option.map_none];refine⟨_,MapKept.run_setObj_map _ h2,main _ _ ?_ ?_ ?_⟩
  ·obtain⟨g1,g2⟩:=h3;refine⟨?_,?_⟩
   ·simp only[Array.toList_push,bD0,List.map_cons,List.map_nil];rw[bV0];refine⟨g1,by simp,?_⟩;intro c hc c' mZ wU;simp only[aF0]at mZ;obtain⟨e',vR,rfl⟩:=aT0.1 hc;have:=g2 e' vR;omega
   ·intro e' vR;simp only[Array.toList_push,aH0,aF0]at vR
    rcases vR with vR | rfl
    ·have:=g2 e' vR;omega
    ·simp
  ·unfold Sw;rw[hq];simp only[Array.toList_push,bD0,List.map_cons,List.map_nil];exact Ci _ _ _ _ h4 (by simp only[Az];exact⟨kv,[],rfl,hk,rfl⟩)
  ·unfold Sv;rw[hq];simp only[Array.toList_push,bD0,List.map_cons,List.map_nil];exact Ci _ _ _ _ h5 (by simp only[Az];exact⟨xv,[],rfl,hx,rfl⟩)
 | some j =>
  simp only[dL0];obtain⟨k0,zB,heq⟩:=XH hq;obtain⟨v0,jF,kH⟩:=NF _ _ j k0 h4 zB
  have hjlt:j<es.size:=by
   have:=(aB0.1 zB).1;omega
  have hkey:(es[j]?).map (·.key)=some v0:=by
   rw[bK0]at jF;simpa using jF
  obtain⟨rfl,hsb⟩:=Dj_ hko (bC0.1 bV k0 (bP0 zB)) heq hk kH;simp only[hkey,bZ0,Instr.keyThatStays,hsb,if_true,Sem.run_pure,Result.andThen_ok];refine⟨_,MapKept.run_setObj_map _ h2,main _ _ ?_ ?_ ?_⟩
  ·obtain⟨g1,g2⟩:=h3
   have bW:(es.modify j fun e=>{ e with key:=v0,val:=xv }).toList.map (·.born)=es.toList.map (·.born):=by
    apply eX0
    intro i;simp only[bK0,eI0,cG0]
    split
    ·cases es[i]? <;>simp
    ·rfl
   refine⟨by rw[bW];exact g1,?_⟩;intro e' vR;have:e'.born∈(es.modify j fun e=>{ e with key:=v0,val:=xv }).toList.map (·.born):=cS0 (f:=(·.born)) vR;rw[bW]at this;obtain⟨e0,vW,qR⟩:=aT0.1 this;rw[<-qR];exact g2 e0 vW
  ·unfold Sw;rw[hq]
   have dK:(es.modify j fun e=>{ e with key:=v0,val:=xv }).toList.map (·.key)=es.toList.map (·.key):=by
    apply eX0
    intro i;simp only[bK0,eI0,cG0]
    split
    ·rename_i yP;subst yP;rw[hkey];cases wP:es[j]? <;>simp_all
    ·rfl
   rw[dK];exact h4
  ·unfold Sv;rw[hq]
   have hvals:(es.modify j fun e=>{ e with key:=v0,val:=xv }).toList.map (·.val)=(es.toList.map (·.val)).set j xv:=by
    apply eX0
    intro i;simp only[bK0,eI0,cG0,List.getElem?_set,aN0,bI0]
    split
    ·rename_i yP;subst yP;simp[hjlt]
    ·rfl
   rw[hvals];exact oX h5 hx
def RD (ks:List DVal) (k:DVal):List DVal:=match Ba ks k with | some j=>ks.eraseIdx j | none=>ks
def RC (ks vs:List DVal) (k:DVal):List DVal:=match Ba ks k with | some j=>vs.eraseIdx j | none=>vs
theorem NL : ∀(l:List DVal) (j:Nat),AL (l.eraseIdx j)<=AL l
 | [],_=>by simp
 | d::l,0=>by simp only[List.eraseIdx_cons_zero,AL];omega
 | d::l,j+1=>by have:=NL l j;simp only[List.eraseIdx_cons_succ,AL];omega
theorem XA (ks:List DVal) (k:DVal):AL (RD ks k)<=AL ks:=by
 unfold RD;split
 ·exact NL _ _
 ·exact Nat.le_refl _
theorem Xz (ks vs:List DVal) (k:DVal):AL (RC ks vs k)<=AL vs:=by
 unfold RC;split
 ·exact NL _ _
 ·exact Nat.le_refl _
theorem NE {cur:ER} {M:List Nat} {h:Array Obj}:∀{ds:List DVal} {vs:List Value} (j:Nat),Az cur M h ds vs->Az cur M h (ds.eraseIdx j) (vs.eraseIdx j)
 | [],vs,j,hr=>by simp only[Az]at hr;subst hr;simp[Az]
 | d::ds,vs,0,hr=>by
  simp only[Az]at hr;obtain⟨v,r,rfl,_,h2⟩:=hr;simpa using h2
 | d::ds,vs,j+1,hr=>by
  simp only[Az]at hr;obtain⟨v,r,rfl,h1,h2⟩:=hr;simp only[List.eraseIdx_cons_succ,Az];exact⟨v,_,rfl,h1,NE j h2⟩
theorem HV {α β:Type} (f:α->β):∀(l:List α) (j:Nat),(l.eraseIdx j).map f=(l.map f).eraseIdx j
 | [],_=>by simp
 | _::l,0=>by simp
 | _::l,j+1=>by simp[HV f l j]
theorem Rel.delMap {id r n:Nat} {ks vs:List DVal} {e:Ent} {t kt et t2 ty:TypeId} {k:DVal} {mv kv:Value} {dst:Option Nat} (R:Rel B s a w loc) (he:An s.own id=some e) (wV:e.r=r) (qN:e.obj= .map ks vs)
  (ha:Bh s loc B.M0 w (.omp id r) mv) (hk:Bh s loc B.M0 w k kv) (ht:tMap P t=some (kt,et)) (hko:Cp P kt k=true) (bV:ks.all (Cp P kt)=true)
  (hn:Ce B s<=n) (qS:∀i,dst=some i->i<B.nt) :
  ∃w',(Builtin.delete_ #[t,t2] ty #[mv,kv]).run P w= .ok (.tuple #[]) w'/\Rel B ⟨Bz s.slots dst (.tup []),upE s.own id r (.map (RD ks k) (RC ks vs k))⟩ (a.put dst (.tuple #[])) w' (CQ loc id (loc id)):=by
 obtain⟨qY,hid⟩:=AS he;have dN:=R.st.ok e qY;rw[qN]at dN;obtain⟨b,es,clk,h1,h2,h3,h4,h5⟩:=dN;rw[hid]at h1;have qD:Ad s.own loc id r=some (loc id):=by unfold Ad;rw[he];simp[wV]
 simp only[Bh,rd]at ha;obtain⟨b',qM,rfl⟩:=ha _ qD;have qI:b∈(loc id).blks:=by rw[h1];simp
 rw[h1]at qM;simp only[bH0,and_true]at qM;subst qM;have hu:P.underlying t=some (.map kt et):=by unfold tMap at ht;split at ht<;>simp_all
 have mQ:=GX (w:=w) hko hk es.toList ks bV h4;have dD:=Aw _ _ h4;simp only[aN0,bI0]at dD;have fA:=(aD0.1 h2).1;have vU:=(Bm qY).2;rw[qN]at vU;simp only[Fa]at vU
 have main:∀(es':Array MapEntry) (clk':Nat),Od es' clk'->Az (cu s loc) (hm s loc B.M0) w.heap (RD ks k) (es'.toList.map (·.key))->Az (cu s loc) (hm s loc B.M0) w.heap (RC ks vs k) (es'.toList.map (·.val)) ->
   Rel B ⟨Bz s.slots dst (.tup []),upE s.own id r (.map (RD ks k) (RC ks vs k))⟩ (a.put dst (.tuple #[])) { w with heap:=w.heap.setIfInBounds b (.map es' clk') } (CQ loc id (loc id)):=by
  intro es' clk' hb jA fR
  have hw:Upd (Aa s.own loc) w { w with heap:=w.heap.setIfInBounds b (.map es' clk') }:=by
   refine⟨rfl,rfl,rfl,fun _=>Nat.le_refl _,by simp,fun b0 _ hn0=> ?_⟩;have qF:b≠b0:=fun h=>hn0 (h▸Bf qY (by rw[hid];exact qI))
   simp[cR0,qF]
  have hL:∀b0,b0∈(loc id).blks->b0<({ w with heap:=w.heap.setIfInBounds b (.map es' clk') }:World).heap.size/\((∃e∈s.own,e.id=id/\b0∈(loc id).blks)\/w.heap.size<=b0):=by
   intro b0 qR;refine⟨?_,.inl ⟨e,qY,hid,qR⟩⟩;rw[h1]at qR;simp only[aF0]at qR;subst qR;simpa using fA
  have W:=R.weakUp (obj:= .map (RD ks k) (RC ks vs k)) hn hw hL (.inr qD);unfold Ce at hn;refine R.up (hLn:=by rw[h1];simp) (n:=n) (by unfold Ce;exact hn) qS hw ?_ hL (.inr qD) ?_ (by simp only[rd];exact⟨#[],rfl,by simp[Az]⟩)
  ·intro b0 qR qF;have hne':b≠b0:=fun h=>qF e qY hid (by rw[<-h];exact qI)
   simp[cR0,hne']
  ·refine⟨b,es',clk',h1,by simp[cR0,fA],hb,AY W _ _ ?_ jA,AY W _ _ ?_ fR⟩
   ·have:=XA ks k;omega
   ·have:=Xz ks vs k;omega
 simp only[Builtin.delete_,dK0,Sem.run_bind,run_underlying hu,Result.andThen_ok,MapKept.run_getObj_map h2,Ff hko hk,mQ,dJ0,bE0,bL0]
 cases hq:Ba ks k with
 | none =>
  simp only[Option.map_none,Sem.run_bind,MapKept.run_setObj_map _ h2,Result.andThen_ok,Sem.run_pure];refine⟨_,rfl,main _ _ h3 ?_ ?_⟩
  ·unfold RD;rw[hq];exact h4
  ·unfold RC;rw[hq];exact h5
 | some j =>
  simp only[dL0,Sem.run_bind,MapKept.run_setObj_map _ h2,Result.andThen_ok,Sem.run_pure];have hto:(es.eraseIdxIfInBounds j).toList=es.toList.eraseIdx j:=by simp
  refine⟨_,rfl,main _ _ ⟨?_,?_⟩ ?_ ?_⟩
  ·rw[hto];exact h3.1.sublist ((List.eraseIdx_sublist _ _).map _)
  ·intro e' vR;rw[hto]at vR;exact h3.2 e' ((List.eraseIdx_sublist _ _).subset vR)
  ·unfold RD;rw[hq,hto,HV];exact NE j h4
  ·unfold RC;rw[hq,hto,HV];exact NE j h5
end
theorem eQ {cur:ER} {M:List Nat} {H:Array Obj} {cs ds:List DVal} {arr:Array Value} {vs:List Value} {o j:Nat} (hr:DL cur M H cs arr o) (hv:Az cur M H ds vs) (qC:∀u∈vs,u.oneCell'=true)
  (vH:j+ds.length<=cs.length) (qP:o+cs.length<=arr.size):DL cur M H (Dr cs j ds) (arr.toList.take (o+j)++vs++arr.toList.drop (o+j+vs.length)).toArray o:=by
 have fF:=Aw _ _ hv;unfold Dr;refine Mh _ _ _ _ (Mh _ _ _ _ ?_ ?_) ?_
 ·refine CU _ arr _ o o (fun q hq=> ?_) (Mg j _ _ _ hr);have vY:q<j:=by simp at hq;omega
  simp only[dJ0,aV0];rw[aZ0 (by simp;omega),bN0 (by omega)];simp
 ·have h:=Hs ds vs (arr.toList.take (o+j)) (arr.toList.drop (o+j+vs.length)) hv qC;have e1:o+(cs.take j).length=(arr.toList.take (o+j)).length:=by simp;omega
  rw[e1];exact h
 ·have hdr:=Fl (j+ds.length) cs arr o hr;have e1:o+(cs.take j++ds).length=o+(j+ds.length):=by simp;omega
  rw[e1];refine CU _ arr _ _ _ (fun q hq=> ?_) hdr;simp only[dJ0];rw[bB0 (by simp;omega),cL0];have e2:o+j+vs.length+(o+(j+ds.length)+q-(arr.toList.take (o+j)++vs).length)=o+(j+ds.length)+q:=by simp;omega
  rw[e2];simp
theorem UN {arr:Array Value} {vs:List Value} {off q:Nat} (qP:off+vs.length<=arr.size) (hq:q<off\/off+vs.length<=q):(arr.toList.take off++vs++arr.toList.drop (off+vs.length)).toArray[q]? =arr[q]? :=by
 simp only[dJ0]
 rcases hq with hq | hq
 ·rw[aV0,aZ0 (by simp;omega),bN0 hq];simp
 ·rw[bB0 (by simp;omega),cL0];have e2:off+vs.length+(q-(arr.toList.take off++vs).length)=q:=by simp;omega
  rw[e2];simp
theorem Ds {i k n:Nat} (h:i<n):i*k+k<=n*k:=by
 have:=aX0 k (show i+1<=n from h)
 rwa[bU0,Nat.one_mul]at this
theorem ER_ {cur:ER} {M:List Nat} {H:Array Obj} {k i j:Nat} {es:List (List DVal)} {c0 ds:List DVal} {arr:Array Value} {vs:List Value} (hr:EL cur M H k es arr 0) (hi:es[i]? =some c0) (hv:Az cur M H ds vs) (qC:∀u∈vs,u.oneCell'=true)
  (vH:j+ds.length<=k) (qP:es.length*k<=arr.size):EL cur M H k (es.set i (Dr c0 j ds)) (arr.toList.take (i*k+j)++vs++arr.toList.drop (i*k+j+vs.length)).toArray 0:=by
 have fF:=Aw _ _ hv;have gG:i<es.length:=(aB0.1 hi).1;have qK:=Ds (k:=k) gG;obtain⟨yT,kH⟩:=Eu k es arr 0 i c0 hr hi;refine Gn _ _ _ _ fun q cs hq=> ?_
 rw[List.getElem?_set]at hq
 split at hq
 ·rename_i hiq;subst hiq
  (try simp only[gG,if_true]at hq);simp only[aA0]at hq
  subst hq;refine⟨by simp[Dr];omega,?_⟩;simp only[bR0]at kH |-;exact eQ kH hv qC (by omega) (by omega)
 ·rename_i hiq;obtain⟨g1,g2⟩:=Eu k es arr 0 q cs hr hq;have hql:q<es.length:=(aB0.1 hq).1;refine⟨g1,CU cs arr _ _ _ (fun p hp=>UN (by omega) ?_) g2⟩
  rcases Nat.lt_or_gt_of_ne hiq with h | h
  ·have:=Ds (k:=k) h;omega
  ·have:=Ds (k:=k) h;omega
theorem Vo {n:Nat} {cs:List DVal}:∀(es:List (List DVal)) (i:Nat),Bp es<=n->AL cs<=n->Bp (es.set i cs)<=n
 | [],_,_,_=>by simp[Bp]
 | e::es,0,h,hc=>by simp only[eR0,Bp]at h |-;omega
 | e::es,i+1,h,hc=>by
  simp only[List.set_cons_succ,Bp]at h |-;have:=Vo es i (by omega) hc;omega
theorem CV_ {es:List (List DVal)} {i:Nat} {c:List DVal} (h:es[i]? =some c):AL c<=Bp es:=by
 induction es generalizing i with
 | nil=>simp at h
 | cons e es ih =>
  cases i with
  | zero=>simp only[bE0,aA0]at h;subst h;simp only[Bp];omega
  | succ i=>have:=ih (i:=i) (by simpa using h);simp only[Bp];omega
section
variable {P : Program} {B : Base} {s : DS} {a : Act} {w : World} {loc : Nat -> Loc}
theorem Rel.writeRow {id r n et k bs cap b:Nat} {e:Ent} {es es':List (List DVal)} {arr arr':Array Value} (R:Rel B s a w loc) (he:An s.own id=some e) (wV:e.r=r) (qN:e.obj= .row et k bs es)
  (h1:(loc id).blks=[b]) (h2:(loc id).hdr= .slice (some ⟨b,0,none⟩) es.length cap) (h3:w.heap[b]? =some (.cells arr et (0,0))) (h4:es.length<=cap) (h5:cap<=maxLen) (h6:cap*k=arr.size) (h7:es.length*bs<=150000000000000)
  (qU:es'.length=es.length) (qP:arr'.size=arr.size) (vV:EL (cu s loc) (hm s loc B.M0) w.heap k es' arr' 0) (vA:Bp es'<=n) (hn:Ce B s<=n)
  {dst:Option Nat} {d:DVal} {v:Value} (qS:∀i,dst=some i->i<B.nt) (yD:∀cur M h,rd cur M h d v) :
  Rel B ⟨Bz s.slots dst d,upE s.own id r (.row et k bs es')⟩ (a.put dst v) (w.setRow b arr') (CQ loc id (loc id)):=by
 obtain⟨qY,hid⟩:=AS he;have qD:Ad s.own loc id r=some (loc id):=by unfold Ad;rw[he];simp[wV]
 have qI:b∈(loc id).blks:=by rw[h1];simp
 have hw:Upd (Aa s.own loc) w (w.setRow b arr'):=Upd.setRow qY (by rw[hid];exact qI) w _
 have hL:∀b0,b0∈(loc id).blks->b0<(w.setRow b arr').heap.size/\((∃e∈s.own,e.id=id/\b0∈(loc id).blks)\/w.heap.size<=b0):=by
  intro b0 qR;refine⟨?_,.inl ⟨e,qY,hid,qR⟩⟩;rw[h1]at qR;simp only[aF0]at qR;subst qR;have:=(aD0.1 h3).1;simpa using this
 have W:=R.weakUp (obj:= .row et k bs es') hn hw hL (.inr qD);refine R.up (hLn:=by rw[h1];simp) (n:=n) hn qS hw ?_ hL (.inr qD) ?_ (yD _ _ _)
 ·intro b0 qR qF;refine setRow_other w b b0 _ (fun h=>qF e qY hid ?_);rw[h];exact qI
 ·exact⟨by rw[qU];exact h7,.inr ⟨b,arr',cap,h1,by rw[qU];exact h2,setRow_heap w b arr _ et (0,0) h3,by omega,h5,by omega,Cv W k es' arr' 0 vA vV⟩⟩
theorem UP (S:St s.own loc B.M0 w.heap) {id et k bs:Nat} {es:List (List DVal)} {e:Ent} (he:An s.own id=some e) (qN:e.obj= .row et k bs es) (qF:es≠[]) :
  es.length*bs<=150000000000000/\∃b arr cap,(loc id).blks=[b]/\(loc id).hdr= .slice (some ⟨b,0,none⟩) es.length cap/\w.heap[b]? =some (.cells arr et (0,0))/\es.length<=cap/\cap<=maxLen/\cap*k=arr.size/\EL (cu s loc) (hm s loc B.M0) w.heap k es arr 0:=by
 obtain⟨qY,hid⟩:=AS he;have hk:=S.ok e qY;rw[qN]at hk;obtain⟨h0,hk⟩:=hk;rw[hid]at hk;refine⟨h0,?_⟩
 rcases hk with ⟨h,_⟩ | h
 ·exact absurd h qF
 ·exact h
theorem Rel.storeRow {id r n i j:Nat} {et k bs:Nat} {es:List (List DVal)} {c0:List DVal} {e:Ent} {d:DVal} {t:TypeId} {v:Value} {ad:Value} (R:Rel B s a w loc) (he:An s.own id=some e) (wV:e.r=r) (qN:e.obj= .row et k bs es)
  (ha:Bh s loc B.M0 w (.rx id r k i j) ad) (hd:Bh s loc B.M0 w d v) (hp:CB s.own d=true) (hc:tCells P t=some (AE d).length) (hi:es[i]? =some c0) (vH:j+(AE d).length<=k) (vA:mx d<=Ku s.slots) (hn:Ce B s<=n) :
  ∃w',(Instr.storeAt t ad v).run P w= .ok () w'/\Rel B ⟨s.slots,upE s.own id r (.row et k bs (es.set i (Dr c0 j (AE d))))⟩ a w' (CQ loc id (loc id)):=by
 have gG:i<es.length:=(aB0.1 hi).1;obtain⟨h7,b,arr,cap,h1,h2,h3,h4,h5,h6,qK⟩:=UP (B:=B) R.st he qN (by intro h;subst h;simp at gG);have qD:Ad s.own loc id r=some (loc id):=by unfold Ad;rw[he];simp[wV]
 simp only[Bh,rd]at ha;obtain⟨b',qM,rfl⟩:=ha _ qD;rw[h1]at qM;simp only[bH0,and_true]at qM;subst qM;obtain⟨hcv,qC⟩:=Ij R.st hp hd;have fF:=Aw _ _ hcv;simp only[bI0]at fF;have kB:=Ds (k:=k) gG;have yS:es.length*k<=arr.size:=by rw[<-h6];exact aX0 _ h4
 have qB:=Ma (P:=P) (w:=w) (b:=b) (off:=i*k+j) (t:=t) (v:=v) h3 (by rw[hc,fF]) (by omega) qC;have qY:=(AS he).1;have vU:=(Bm qY).2;rw[qN]at vU;simp only[Fa]at vU;refine⟨_,qB,R.writeRow (dst:=none) (d:= .any) (v:=Go.undef) he wV qN h1 h2 h3 h4 h5 h6 h7 (by simp) (by simp;omega) ?_ ?_ hn (fun i hi=>by simp at hi) (fun _ _ _=>by simp[rd])⟩
 ·have:=ER_ (j:=j) qK hi hcv qC vH yS;simpa using this
 ·unfold Ce at hn;refine Vo _ _ (by omega) ?_;have h8:=Km c0 j (AE d);have h9:=CV_ hi;rw[CH]at h8;omega
theorem Tu {own:List Ent} {d:DVal} (h:Fo [] d=true):Fo own d=true:=by
 cases d<;>simp_all [Fo,DP,An,Bg]
theorem KZ {z:Array Value} {n i q:Nat} (hz:z.size≠0) (hi:i<n) (hq:q<z.size):(madeCells z (n*z.size))[i*z.size+q]? =z[q]? :=by
 have qV:i*z.size+q<n*z.size:=by have:=Ds (k:=z.size) hi;omega
 have e1:(i*z.size+q)%z.size=q:=by rw[Nat.mul_comm,Nat.mul_add_mod];exact eJ0 hq
 simp[madeCells,qV,e1,hq]
theorem Cr_ {cur:ER} {M:List Nat} {H:Array Obj} {z:Value} {n:Nat} {k:Nat} (hk:z.cells.size=k) (qC:∀u∈z.cells.toList,u.oneCell'=true) :
  ∀(arr:Array Value) (o:Nat),(∀i q,i<n->q<k->arr[o+(i*k+q)]? =z.cells[q]?)->EL cur M H k (List.replicate n (z.cells.toList.map Ca)) arr o:=by
 intro arr o hq;refine Gn _ _ _ _ fun i cs hi=> ?_
 rw[dR0]at hi
 split at hi
 ·rename_i qV;simp only[aA0]at hi;subst hi;refine⟨by simpa using hk,?_⟩;have h0:=Hs (cur:=cur) (M:=M) (H:=H) (z.cells.toList.map Ca) z.cells.toList [] [] (Bu _) qC;refine CU _ _ arr _ _ (fun p hp=> ?_) h0;have yE:p<k:=by simp at hp;omega
  rw[cQ0,hq i p qV yE];simp
 ·simp at hi
def tZeroE (P:Program) (t:TypeId):Option (List DVal):=match P.underlying t with
 | some (.slice e)=>tZero P e
 | _=>none
theorem Fe_ (l:List Value):AL (l.map Ca)=0:=by
 have h1:∀v,mx (Ca v)=0:=by
  intro v;unfold Ca
  split<;>(try split)<;>simp[mx]
 induction l with
 | nil=>simp[AL]
 | cons v l ih=>simp[AL,h1,ih]
theorem Vp {n m:Nat} {cs:List DVal} (h:AL cs<=n):Bp (List.replicate m cs)<=n:=Py fun d hd=>by rw[List.eq_of_mem_replicate hd];exact h
theorem Rel.makeRow {id n:Nat} {t e:TypeId} {k bs:Nat} {zs:List DVal} {kl kc:IntKind} {l c:Int} {dst:Option Nat} (R:Rel B s a w loc) (qH:Ce B s<=n) (qS:∀i,dst=some i->i<B.nt)
  (ht:tElem P t=some (k,bs)) (yU:tElemId P t=some e) (hz:tZeroE P t=some zs) (hzo:zs.all (Fo [])=true) (zM:zs.length=k) (h0:0<=l) (hlc:l<=c) (hb:c*bs<=150000000000000) (hl:c<=9223372036854775807) :
  ∃v' w' L,(Instr.makeSlice t (.int kl l) (.int kc c)).run P w= .ok v' w'/\Rel B ⟨Bz s.slots dst (.osl id n),upE s.own id n (.row e k bs (List.replicate l.toNat zs))⟩ (a.put dst v') w' (CQ loc id L):=by
 obtain⟨e',i,hu,hi,qP,hby,_⟩:=BF ht;have hee:e'=e:=by unfold tElemId at yU;rw[hu]at yU;simpa using yU
 subst hee;unfold tZeroE at hz;rw[hu]at hz;simp only at hz
 obtain⟨z,yM,hzc⟩:∃z,i.zero=some z/\zs=z.cells.toList.map Ca:=by
  unfold tZero at hz;rw[hi]at hz;simp only at hz;rw[bF0]at hz;obtain⟨z,h1,h2⟩:=hz;exact⟨z,h1,h2.symm⟩
 subst hzc;simp only[aN0,bI0]at zM
 have qC:∀u∈z.cells.toList,u.oneCell'=true:=by
  intro u vZ;have vE:Az (cu s loc) (hm s loc B.M0) w.heap (z.cells.toList.map Ca) z.cells.toList:=Bu _;exact Gp R.st (z.cells.toList.map Ca) z.cells.toList (bC0.2 fun d hd=>Tu (bC0.1 hzo d hd)) vE u vZ
 subst qP;subst hby;have qB:=run_make (P:=P) w t e' i z hu hi yM kl kc l c h0 hlc (by rw[Int.mul_comm];omega) hl;have hw:Upd (Aa s.own loc) w (w.alloc (.cells (madeCells z.cells (c.toNat*i.size)) e')):=Upd.alloc _ _ _
 have hL:∀b0,b0∈(⟨[w.heap.size],.slice (some ⟨w.heap.size,0,none⟩) l.toNat c.toNat⟩:Loc).blks->b0<(w.alloc (.cells (madeCells z.cells (c.toNat*i.size)) e')).heap.size/\((∃e∈s.own,e.id=id/\b0∈(loc id).blks)\/w.heap.size<=b0):=by
  intro b0 qR;simp only[aF0]at qR;subst qR;exact⟨by simp,.inr (Nat.le_refl _)⟩
 refine⟨_,_,⟨[w.heap.size],.slice (some ⟨w.heap.size,0,none⟩) l.toNat c.toNat⟩,qB,?_⟩;have hlN:(List.replicate l.toNat (z.cells.toList.map Ca)).length=l.toNat:=List.length_replicate
 have hbN:l.toNat*i.bytes<=150000000000000:=by
  have h1:(c.toNat:Int)*i.bytes<=150000000000000:=by rw[Int.toNat_of_nonneg (by omega)];exact hb
  have h2:c.toNat*i.bytes<=150000000000000:=by omega
  exact Nat.le_trans (aX0 _ (by omega)) h2
 refine R.up qH qS hw (fun b hb _=>by simp only[World.alloc,bS0];rw[if_neg (by omega)]) hL (.inl (Nat.le_refl _)) ⟨by rw[hlN];exact hbN,.inr ⟨w.heap.size,_,c.toNat,rfl,by rw[hlN],heap_alloc_new w _,by rw[hlN];omega,by unfold maxLen;omega,by simp[size_madeCells],?_⟩⟩ ?_
 ·by_cases zB:i.size=0
  ·refine Gn _ _ _ _ fun q cs hq=> ?_
   rw[dR0]at hq
   split at hq
   ·simp only[aA0]at hq;subst hq;have:z.cells.toList=[]:=bM0 (by simpa[zB]using zM);rw[this];simp[zB,DL]
   ·simp at hq
  ·refine Cr_ zM qC _ _ fun q p hq hp=> ?_
   rw[bR0];have:=KZ (z:=z.cells) (n:=c.toNat) (i:=q) (q:=p) (by omega) (by omega) (by omega)
   rwa[zM]at this
 ·simp only[rd];intro lc wZ;rw[Dv]at wZ;simp only[aA0]at wZ;rw[<-wZ]
def Eh (es:List (List DVal)) (i m:Nat) (zs:List DVal):List (List DVal):=es.take i++List.replicate m zs++es.drop (i+m)
theorem xV {cur:ER} {M:List Nat} {H:Array Obj} {k i m:Nat} {es:List (List DVal)} {z:Value} {arr:Array Value} (hr:EL cur M H k es arr 0) (hb:i+m<=es.length) (zM:z.cells.size=k) (qC:∀u∈z.cells.toList,u.oneCell'=true) (hk:k≠0) (qP:es.length*k<=arr.size) :
  EL cur M H k (Eh es i m (z.cells.toList.map Ca)) (arr.toList.take (i*k)++(Builtin.zeroCells z.cells m).toList++arr.toList.drop (i*k+(Builtin.zeroCells z.cells m).toList.length)).toArray 0:=by
 have hlz:(Builtin.zeroCells z.cells m).toList.length=m*k:=by simp[size_zeroCells,zM]
 have vH:i*k+m*k<=arr.size:=by rw[<-bU0];exact Nat.le_trans (aX0 _ hb) qP
 refine Gn _ _ _ _ fun q cs hq=> ?_
 unfold Eh at hq
 by_cases h1:q<i
 ·rw[aV0,aZ0 (by simp;omega),bN0 h1]at hq;obtain⟨g1,g2⟩:=Eu k es arr 0 q cs hr hq;have:=Ds (k:=k) h1;exact⟨g1,CU cs arr _ _ _ (fun p hp=>UN (by omega) (.inl (by omega))) g2⟩
 ·by_cases h2:q<i+m
  ·rw[aV0,bB0 (by simp;omega),aZ0 (by simp;omega),dR0,if_pos (by simp;omega)]at hq;simp only[aA0]at hq;subst hq;refine⟨by simpa using zM,?_⟩;have h0:=Hs (cur:=cur) (M:=M) (H:=H) (z.cells.toList.map Ca) z.cells.toList [] [] (Bu _) qC;refine CU _ _ _ _ _ (fun p hp=> ?_) h0;have yE:p<k:=by simp at hp;omega
   have h3:=Ds (k:=k) (show q-i<m by omega);have h4:q*k=i*k+(q-i)*k:=by rw[<-bU0];congr 1;omega
   simp only[dJ0,bR0];rw[aV0,bB0 (by simp;omega),aZ0 (by simp[size_zeroCells,zM];omega)];have e1:q*k+p-(arr.toList.take (i*k)).length=(q-i)*k+p:=by simp;omega
   rw[e1];have h5:=KZ (z:=z.cells) (n:=m) (i:=q-i) (q:=p) (by omega) (by omega) (by omega);rw[zM]at h5;have e2:Builtin.zeroCells z.cells m=madeCells z.cells (m*k):=by simp[Builtin.zeroCells,madeCells,zM]
   rw[e2];simpa using h5
  ·rw[bB0 (by simp;omega),cL0]at hq;have e1:i+m+(q-(es.take i++List.replicate m (z.cells.toList.map Ca)).length)=q:=by simp;omega
   rw[e1]at hq;obtain⟨g1,g2⟩:=Eu k es arr 0 q cs hr hq;refine⟨g1,CU cs arr _ _ _ (fun p hp=>UN (by omega) (.inr ?_)) g2⟩;have:(i+m)*k<=q*k:=aX0 _ (by omega);rw[bU0]at this;omega
theorem rC (S:St s.own loc B.M0 w.heap) {d:DVal} {id r bs0 i m:Nat} {et k bs:Nat} {es:List (List DVal)} {e:Ent} {v:Value} (he:An s.own id=some e) (wV:e.r=r) (qN:e.obj= .row et k bs es)
  (hv:Bh s loc B.M0 w d v) (hd:d= .osl id r/\i=0/\m=es.length\/d= .vw id r k bs0 i m):∃a cap,v= .slice a m cap/\(0<m->∃b,(loc id).blks=[b]/\a=some ⟨b,i*k,none⟩):=by
 obtain⟨qD,a,cap,hh,g1,g2,g3⟩:=Md S he wV qN
 rcases hd with ⟨rfl,rfl,rfl⟩ | rfl
 ·simp only[Bh,rd]at hv;have:=hv _ qD;rw[hh]at this;refine⟨a,cap,this,fun h=> ?_⟩
  rcases g3 with ⟨rfl,_⟩ | ⟨b,hb,rfl⟩
  ·simp at h
  ·exact⟨b,hb,by simp⟩
 ·simp only[Bh,rd]at hv;obtain⟨a,cap,rfl,_,_,_,h,_⟩:=hv _ qD;exact⟨a,cap,rfl,h⟩
theorem Rel.clearRow {d:DVal} {id r k0 bs0 i m n:Nat} {t ty e':TypeId} {et k bs:Nat} {es:List (List DVal)} {zs:List DVal} {e:Ent} {v:Value} {dst:Option Nat} (R:Rel B s a w loc) (he:An s.own id=some e) (wV:e.r=r) (qN:e.obj= .row et k bs es)
  (hv:Bh s loc B.M0 w d v) (hd:d= .osl id r/\i=0/\m=es.length\/d= .vw id r k bs0 i m) (hb:i+m<=es.length) (ht:tElem P t=some (k,k0)) (hz:tZeroE P t=some zs) (hzo:zs.all (Fo [])=true) (zM:zs.length=k) (hk:0<k)
  (qH:Ce B s<=n) (qS:∀i,dst=some i->i<B.nt) :
  ∃w',(Builtin.clear_ #[t] ty #[v]).run P w= .ok (.tuple #[]) w'/\Rel B ⟨Bz s.slots dst (.tup []),upE s.own id r (.row et k bs (Eh es i m zs))⟩ (a.put dst (.tuple #[])) w' (CQ loc id (loc id)):=by
 obtain⟨e1,i1,hu,hi,qP,hby,_⟩:=BF ht;unfold tZeroE at hz;rw[hu]at hz;simp only at hz
 obtain⟨z,yM,hzc⟩:∃z,i1.zero=some z/\zs=z.cells.toList.map Ca:=by
  unfold tZero at hz;rw[hi]at hz;simp only at hz;rw[bF0]at hz;obtain⟨z,h1,h2⟩:=hz;exact⟨z,h1,h2.symm⟩
 subst hzc;simp only[aN0,bI0]at zM;have vE:∀M,Az (cu s loc) M w.heap (z.cells.toList.map Ca) z.cells.toList:=fun M=>Bu _
 have qC:∀u∈z.cells.toList,u.oneCell'=true :=
  Gp R.st (z.cells.toList.map Ca) z.cells.toList (bC0.2 fun d hd=>Tu (bC0.1 hzo d hd)) (vE _)
 obtain⟨ad,cap,rfl,yC⟩:=rC (B:=B) R.st he wV qN hv hd;have jS:∀cur M h,rd cur M h (.tup []) (.tuple #[]):=fun _ _ _=>by simp only[rd];exact⟨#[],rfl,by simp[Az]⟩
 have qY:=(AS he).1;have hid:=(AS he).2;have vU:=(Bm qY).2;rw[qN]at vU;simp only[Fa]at vU
 by_cases hm:m=0
 ·subst hm;have bT:Eh es i 0 (z.cells.toList.map Ca)=es:=by simp[Eh]
  rw[bT];refine⟨w,by cases ad<;>simp[Builtin.clear_,run_underlying hu],?_⟩;have qD:Ad s.own loc id r=some (loc id):=by unfold Ad;rw[he];simp[wV]
  have vK:=R.st.ok e qY;rw[qN,hid]at vK
  have hL:∀b0,b0∈(loc id).blks->b0<w.heap.size/\((∃e∈s.own,e.id=id/\b0∈(loc id).blks)\/w.heap.size<=b0):=fun b0 qR =>
   ⟨R.st.lt b0 (aM0 _ (Bf qY (by rw[hid];exact qR))),.inl ⟨e,qY,hid,qR⟩⟩
  have W:=R.weakUp (obj:= .row et k bs es) qH (Upd.refl _ w) hL (.inr qD);unfold Ce at qH;exact R.up (hLn:=by have:=Dw R.st.bl e qY;rwa[hid]at this) (n:=n) qH qS (Upd.refl _ w) (fun _ _ _=>rfl) hL (.inr qD) (Bk W (by simp only[Fa];omega) (fun _ _ _ h=>h) vK) (jS _ _ _)
 ·obtain⟨b,qI,rfl⟩:=yC (by omega);obtain⟨h7,b',arr,cap',h1,h2,h3,h4,h5,h6,qK⟩:=UP (B:=B) R.st he qN (by intro h;subst h;simp at hb;omega);rw[h1]at qI;simp only[bH0,and_true]at qI;subst qI;have yS:es.length*k<=arr.size:=by rw[<-h6];exact aX0 _ h4
  have hzn:(Builtin.zeroCells z.cells m).toList.length=m*k:=by simp[size_zeroCells,zM]
  have vH:i*k+m*k<=arr.size:=by rw[<-bU0];exact Nat.le_trans (aX0 _ hb) yS
  have hzone:∀u∈(Builtin.zeroCells z.cells m).toList,u.oneCell'=true:=by
   intro u vZ;simp only[Builtin.zeroCells,dZ0,aT0]at vZ;obtain⟨j,_,rfl⟩:=vZ;have zR:0<z.cells.size:=by omega
   have qV:j%z.cells.size<z.cells.size:=eF0 _ zR;rw[getElem!_pos z.cells _ qV];exact qC _ (by simp)
  have wJ:=run_storeCells_at P b' (i*k) et (Builtin.zeroCells z.cells m).toList 0 arr w h3 (by rw[hzn];omega) hzone;simp only[dI0]at wJ;obtain⟨m',rfl⟩:∃m',m=m'+1:=⟨m-1,by omega⟩;refine⟨_,?_,R.writeRow he wV qN h1 h2 h3 h4 h5 h6 h7 (by simp[Eh];omega) (by simp only[dK0,aC0,bA0,cF0,bI0,hzn];rw[<-bI0];rw[<-bI0]at vH;omega) (xV qK hb zM qC (by omega) yS) ?_ qH qS jS⟩
  ·simp[Builtin.clear_,run_underlying hu,zeroValue,typeInfo,hi,yM,wJ]
  ·unfold Eh;unfold Ce at qH;rw[Bx,Bx];have:=Gr i es;have:=Gs (i+(m'+1)) es;have:=Vp (n:=0) (m:=m'+1) (dH0 (Fe_ z.cells.toList));omega
end
end Go.Dm
end
