/- Parts of a proof, laid together: EnJ. -/
import Derived.Carry
import Derived.Test.YtbpmiknobocjoaaGreatqAp9
import Derived.Test.YtbpmiknobocjoaaGreatqAp11
import Derived.Test.YtbpmiknobocjoaaGreatqAp12
set_option linter.unusedSimpArgs false
set_option maxHeartbeats 8000000
set_option linter.unusedVariables false
set_option linter.unusedSectionVars false
section
namespace Go.Dm
variable [DMode]
def Mh (own:List Ent) (et k bs:Nat):DVal->Option (Option Nat×List (List DVal))
 | .nilsl=>some (none,[])
 | .osl id r=>match Ah own id with
  | some e=>if e.r=r then (match e.obj with | .row et' k' bs' es=>if et'=et/\k'=k/\bs'=bs then some (some id,es)else none | _=>none)else none
  | none=>none
 | .vw id r k0 b0 i m=>if i=0/\b0≠0 then (match Ah own id with
  | some e=>if e.r=r then (match e.obj with | .row et' k' bs' es=>if (et'=et/\k'=k/\bs'=bs)/\k0=k/\m<=es.length then some (some id,es.take m)else none | _=>none)else none
  | none=>none)else none
 | _=>none
theorem Hq {own:List Ent} {et k bs:Nat} {d:DVal} {id:Option Nat} {es:List (List DVal)} (h:Mh own et k bs d=some (id,es)) :
  (d= .nilsl/\id=none/\es=[])\/∃i e0 es0 m,id=some i/\Ah own i=some e0/\e0.obj= .row et k bs es0/\es=es0.take m/\(d= .osl i e0.r/\es=es0\/∃b0,d= .vw i e0.r k b0 0 m/\m<=es0.length/\b0≠0):=by
 unfold Mh at h
 split at h
 ·simp only[aA0,aV0]at h;exact .inl ⟨rfl,h.1.symm,h.2.symm⟩
 ·split at h
  ·rename_i e0 vL
   split at h
   ·rename_i wV
    split at h
    ·rename_i qN
     split at h
     ·rename_i heq;obtain⟨rfl,rfl,rfl⟩:=heq;simp only[aA0,aV0]at h;obtain⟨rfl,rfl⟩:=h;exact .inr ⟨_,e0,_,_,rfl,vL,qN,(aU0).symm,.inl ⟨by rw[wV],rfl⟩⟩
     ·simp at h
    ·simp at h
   ·simp at h
  ·simp at h
 ·split at h
  ·rename_i hi;obtain⟨hi,qR⟩:=hi;subst hi
   split at h
   ·rename_i e0 vL
    split at h
    ·rename_i wV
     split at h
     ·rename_i qN
      split at h
      ·rename_i heq;obtain⟨⟨rfl,rfl,rfl⟩,rfl,hm⟩:=heq;simp only[aA0,aV0]at h;obtain⟨rfl,rfl⟩:=h;exact .inr ⟨_,e0,_,_,rfl,vL,qN,rfl,.inr ⟨_,by rw[wV],hm,qR⟩⟩
      ·simp at h
     ·simp at h
    ·simp at h
   ·simp at h
  ·simp at h
 ·simp at h
structure ERes where
 pre:Prop
 d:DVal
 own:List Ent
section
variable (P : Program) (nt : Nat) (ow : List Nat)
def Bw (o:Oper):Bool:=match o.op with
 | .box _ _=>match o.dst with | some i=>ow.contains i | none=>false
 | .buildSlice _ _ _=>match o.dst with | some i=>ow.contains i | none=>false
 | .alloc _=>true
 | .store _ _ _=>true
 | .makeMap _ _=>true
 | .mapUpdate _ _ _ _=>true
 | .makeSlice _ _ _=>true
 | .call c=>match c.callee with | .builtin .append=>(match o.dst with | some i=> !ow.contains (i+1000000) | none=>true) | .builtin .clear=>true | .builtin .copy=>true | .builtin .delete=>true | .value _=>(match o.dst with | some i=>ow.contains i | none=>false) | _=>false
 | _=>false
def strOf : DVal->Option ByteArray
 | .str x=>some x
 | _=>none
def Nh (own:List Ent) (dst:Option Nat) (r:Nat):List DVal->List TypeId->Option ERes
 | [a,b],[t,t']=>match dst,tElem P t,tElemId P t with
  | some i,some (k,bs),some et=>match strOf b with
   | some x=>match Mh own et k bs a with
    | some (id,es)=>some ⟨tStr P t'=true/\zeroOK P t=true/\k=1/\bs<=65536/\(es.length+x.size)*bs<=150000000000000/\es.length+x.size<=9223372036854775807,
     .osl (id.getD i) r,upE own (id.getD i) r (.row et k bs (es++AZ x))⟩
    | none=>none
   | none=>match Mh own et k bs a,JU own b with
    | some (id,es),some (k2,es2)=>some ⟨t'=t/\zeroOK P t=true/\0<k/\(k2=k\/es2=[])/\bs<=65536/\(es.length+es2.length)*bs<=150000000000000/\es.length+es2.length<=9223372036854775807,
     .osl (id.getD i) r,upE own (id.getD i) r (.row et k bs (es++es2))⟩
    | _,_=>none
  | _,_,_=>none
 | _,_=>none
def Fl (own:List Ent) (dst:Option Nat) (t:TypeId) (d:DVal) (id r' k i j:Nat):Option ERes:=match Ah own id with
 | some e=>match e.obj with
  | .row et k' bs es=>match es[i]? with
   | some c0=>some ⟨e.r=r'/\k'=k/\dst=none/\tCells P t=some (AI d).length/\Cz own d=true/\j+(AI d).length<=k,.any,upE own id r' (.row et k' bs (es.set i (Dx c0 j (AI d))))⟩
   | none=>none
  | _=>none
 | none=>none
def YV (own:List Ent) (dst:Option Nat) (r:Nat) (t:TypeId) (l c:DVal):Option ERes:=match dst,tElem P t,tElemId P t,tZeroE P t,l,c with
 | some i,some (k,bs),some et,some zs,.int _ n,.int _ m=>some ⟨zs.all (Fy [])=true/\zs.length=k/\0<=n/\n<=m/\m*bs<=150000000000000/\m<=9223372036854775807,.osl i r,upE own i r (.row et k bs (List.replicate n.toNat zs))⟩
 | _,_,_,_,_,_=>none
def RY (own:List Ent):List DVal->List TypeId->Option ERes
 | [d],[t]=>match tElem P t,tZeroE P t with
  | some (k,_),some zs=>match d with
   | .osl id r=>match Ah own id with
    | some e=>match e.obj with
     | .row et k' bs es=>some ⟨e.r=r/\k'=k/\zs.all (Fy [])=true/\zs.length=k/\0<k,.tup [],upE own id r (.row et k' bs (Eo es 0 es.length zs))⟩
     | _=>none
    | none=>none
   | .vw id r k0 _ i m=>match Ah own id with
    | some e=>match e.obj with
     | .row et k' bs es=>some ⟨e.r=r/\k'=k/\k0=k/\zs.all (Fy [])=true/\zs.length=k/\0<k/\i+m<=es.length,.tup [],upE own id r (.row et k' bs (Eo es i m zs))⟩
     | _=>none
    | none=>none
   | _=>none
  | _,_=>none
 | _,_=>none
def Ng (own:List Ent):List DVal->List TypeId->Option ERes
 | [m,k],[t,_]=>match m,tMap P t with
  | .omp id r',some (kt,_)=>match Ah own id with
   | some e=>match e.obj with
    | .map ks vs=>some ⟨e.r=r'/\Cm P kt k=true/\ks.all (Cm P kt)=true,.tup [],upE own id r' (.map (Sa ks k) (RZ ks vs k))⟩
    | _=>none
   | none=>none
  | _,_=>none
 | _,_=>none
def rN (own:List Ent):DVal->Option (Nat×Nat×Nat×Nat×TypeId×Nat×Nat×List (List DVal))
 | .osl id r=>match Ah own id with
  | some e=>if e.r=r then (match e.obj with | .row et k bs es=>some (id,r,0,es.length,et,k,bs,es) | _=>none)else none
  | none=>none
 | .vw id r k0 _ i m=>match Ah own id with
  | some e=>if e.r=r then (match e.obj with | .row et k bs es=>if k0=k then some (id,r,i,m,et,k,bs,es)else none | _=>none)else none
  | none=>none
 | _=>none
def YW (own:List Ent):List DVal->List TypeId->Option ERes
 | [d,s],[t,t']=>match tElem P t,rN own d,JU own s with
  | some (k,_),some (id,r',i,m,et,k',bs,es),some (k2,es2)=>some ⟨t'=t/\k'=k/\0<k/\i+m<=es.length/\(k2=k\/es2=[]),.int .i64 (min es2.length m:Nat),upE own id r' (.row et k' bs (Jw es i m es2))⟩
  | _,_,_=>none
 | _,_=>none
def JD (o:Oper) (ed:Operand->DVal) (own:List Ent) (r:Nat):Option ERes :=
 match o.op with
 | .box _ x=>match o.dst with
  | some i=>some ⟨Cz own (ed x)=true,.bx i r 0,upE own i r (.box (AI (ed x)))⟩
  | none=>none
 | .buildSlice t len parts=>match o.dst,tElem P t,tElemId P t with
  | some i,some (k,bs),some et=>some ⟨DV P own (ed) (.buildSlice t len parts),.osl i r,upE own i r (.row et k bs (parts.toList.map fun p=>AI (ed p.2)))⟩
  | _,_,_=>none
 | .alloc t=>match o.dst,tZero P t with
  | some i,some z=>some ⟨z.all (Fy [])=true,.bx i r 0,upE own i r (.box z)⟩
  | _,_=>none
 | .store t a x=>match ed a with
  | .bx id r' off=>match Ah own id with
   | some e=>match e.obj with
    | .box cs=>some ⟨e.r=r'/\o.dst=none/\tCells P t=some (AI (ed x)).length/\Cz own (ed x)=true/\off+(AI (ed x)).length<=cs.length,.any,upE own id r' (.box (Dx cs off (AI (ed x))))⟩
    | _=>none
   | none=>none
  | .rx id r' k i j=>Fl P own o.dst t (ed x) id r' k i j
  | _=>none
 | .makeSlice t l c=>YV P own o.dst r t (ed l) (ed c)
 | .makeMap t rv=>match rv,o.dst,tMap P t with
  | none,some i,some _=>some ⟨True,.omp i r,upE own i r (.map [] [])⟩
  | _,_,_=>none
 | .mapUpdate t m k x=>match ed m,tMap P t with
  | .omp id r',some (kt,_)=>match Ah own id with
   | some e=>match e.obj with
    | .map ks vs=>some ⟨e.r=r'/\o.dst=none/\Cm P kt (ed k)=true/\ks.all (Cm P kt)=true,.any,upE own id r' (.map (SO ks (ed k)) (SN ks vs (ed k) (ed x)))⟩
    | _=>none
   | none=>none
  | _,_=>none
 | .call c=>match c.callee with
  | .builtin .append=>Nh P own o.dst r (c.args.toList.map (ed)) c.argTypes.toList
  | .builtin .clear=>RY P own (c.args.toList.map (ed)) c.argTypes.toList
  | .builtin .copy=>YW P own (c.args.toList.map (ed)) c.argTypes.toList
  | .builtin .delete=>Ng P own (c.args.toList.map (ed)) c.argTypes.toList
  | _=>none
 | _=>none
end
section
variable {P : Program} {B : Base} {s : DS} {a : Act} {w : World} {loc : Nat -> Loc} {ow : List Nat}
theorem QW {own:List Ent} {d:DVal} (h:Fy [] d=true):Fy own d=true:=by
 cases d<;>simp_all [Fy,Ea,Ah,Bi]
theorem Ej {ro:Option Nat} {o:Oper} {v:Value} {w':World} {next:Act->World->Prop} {Q:Exit->Act->World->Prop} (hd:∀c,o.op≠ .defer c) (h:(execOp a.eval o).run P w= .ok (.value v) w') (hn:next (a.put o.dst v) w'):o.wpIn (wd ro) 0 P a w next Q:=by
 refine⟨fun _ _=>trivial,?_⟩;rw[Oper.semAt_eq _ _ _ hd,h,Oper.uponIn_value];exact hn
theorem PJ {ro:Option Nat} {o:Oper} {w':World} {next:Act->World->Prop} {Q:Exit->Act->World->Prop} (hd:∀c,o.op≠ .defer c) (h:(execOp a.eval o).run P w= .ok .skip w') (hn:next (a.put o.dst Go.undef) w'):o.wpIn (wd ro) 0 P a w next Q:=by
 refine⟨fun _ _=>trivial,?_⟩;rw[Oper.semAt_eq _ _ _ hd,h,Oper.uponIn_skip];exact hn
theorem CE_ (S:St s.own loc B.M0 w.heap) {id r et k bs b0 m:Nat} {es:List (List DVal)} {e0:Ent} {dv:Value} (he:Ah s.own id=some e0) (wV:e0.r=r) (qN:e0.obj= .row et k bs es) (jG:m<=es.length) (qR:b0≠0) (hd:Bg s loc B.M0 w (.vw id r k b0 0 m) dv):aC s loc w B.M0 id et k bs (es.take m) dv:=by
 obtain⟨qY,hid⟩:=AU he;have hk:=S.ok e0 qY;rw[qN]at hk;obtain⟨_,hk⟩:=hk;simp only[Bg,rd]at hd;obtain⟨a,cap,rfl,g1,g2,g3,g4,g5⟩:=hd (loc id) (by show Ac _ _ _ _=_;unfold Ac;rw[he];simp[wV]);obtain⟨n0,g5⟩:=(g5 trivial).resolve_left qR;rw[hid]at hk
 rcases hk with ⟨h1,h2,h3⟩ | ⟨b,arr,cap2,h1,h2,h3,h4,h5,h6,h7⟩
 ·subst h1;rw[h3]at g5;simp only[Value.slice.injEq]at g5;obtain⟨rfl,_,rfl⟩:=g5;simp only[List.length_nil,Nat.le_zero]at jG;subst jG;exact .inl ⟨by simp,rfl⟩
 ·rw[h2]at g5;simp only[Value.slice.injEq]at g5;obtain⟨rfl,_,rfl⟩:=g5;have qU:(es.take m).length=m:=by simp;omega
  refine .inr ⟨e0,qY,hid,b,arr,cap2,h1,by rw[qU],h3,by rw[qU];exact g1,h5,h6,EA _ _ _ _ fun q cs hq=> ?_⟩;rw[dZ0]at hq
  split at hq
  ·exact Dh k es arr 0 q cs h7 hq
  ·simp at hq
theorem Uu {id:Option Nat} {i0 r et k bs:Nat} {es:List (List DVal)} {d:DVal} {v:Value} (R:Rel B s a w loc) (qP:GY s.own<=r) (hdest:Mh s.own et k bs d=some (id,es)) (ra:Bg s loc B.M0 w d v) :
  aC s loc w B.M0 (id.getD i0) et k bs es v/\Br es<=r:=by
 rcases Hq hdest with ⟨rfl,rfl,rfl⟩ | ⟨i,e0,es0,m,rfl,vL,qN,bJ,hd⟩
 ·simp only[Bg,rd]at ra;exact⟨.inl ⟨rfl,ra⟩,by simp[Br]⟩
 ·have vG:Br es0<=r:=by
   have:=(Bn (AU vL).1).2;rw[qN]at this;simp only[Em]at this;omega
  rcases hd with ⟨rfl,rfl⟩ | ⟨b0,rfl,jG,qR⟩
  ·exact⟨At_ R.st vL rfl qN ra,vG⟩
  ·subst bJ;exact⟨CE_ R.st vL rfl qN jG qR ra,Nat.le_trans (EF m es0) vG⟩
theorem Uv {own:List Ent} {id:Option Nat} {r et k bs:Nat} {es:List (List DVal)} {d:DVal} (hdest:Mh own et k bs d=some (id,es)) (qP:GY own<=r):Br es<=r:=by
 rcases Hq hdest with ⟨rfl,rfl,rfl⟩ | ⟨i,e0,es0,m,rfl,vL,qN,rfl,_⟩
 ·simp[Br]
 ·have:=(Bn (AU vL).1).2;rw[qN]at this;simp only[Em]at this;exact Nat.le_trans (EF m es0) (by omega)
theorem XJ {own:List Ent} {d:DVal} {id r i m:Nat} {et:TypeId} {k bs:Nat} {es:List (List DVal)} (h:rN own d=some (id,r,i,m,et,k,bs,es)) :
  ∃e bs0,Ah own id=some e/\e.r=r/\e.obj= .row et k bs es/\(d= .osl id r/\i=0/\m=es.length\/d= .vw id r k bs0 i m):=by
 unfold rN at h
 split at h
 ·split at h
  ·rename_i e he
   split at h
   ·rename_i wV
    split at h
    ·rename_i qN;simp only[aA0,aV0]at h;obtain⟨rfl,rfl,rfl,rfl,rfl,rfl,rfl,rfl⟩:=h;exact⟨e,0,he,wV,qN,.inl ⟨rfl,rfl,rfl⟩⟩
    ·simp at h
   ·simp at h
  ·simp at h
 ·rename_i bs0 _ _
  split at h
  ·rename_i e he
   split at h
   ·rename_i wV
    split at h
    ·rename_i qN
     split at h
     ·rename_i hk;simp only[aA0,aV0]at h;obtain⟨rfl,rfl,rfl,rfl,rfl,rfl,rfl,rfl⟩:=h;exact⟨e,bs0,he,wV,qN,.inr (by rw[hk])⟩
     ·simp at h
    ·simp at h
   ·simp at h
  ·simp at h
 ·simp at h
theorem Xs {own:List Ent} {s:DVal} {k2:Nat} {es2:List (List DVal)} {n:Nat} (h:JU own s=some (k2,es2)) (h1:GY own<=n) (h2:mx s<=n):Br es2<=n:=by
 unfold JU at h
 split at h
 ·simp only[aA0,aV0]at h;obtain⟨_,rfl⟩:=h;simp[Br]
 ·simp only[aA0,aV0]at h;obtain⟨_,rfl⟩:=h;simp[Br]
 ·rw[bB0]at h;obtain⟨⟨k',b',es'⟩,h3,h4⟩:=h;simp only[aV0]at h4;obtain⟨_,rfl⟩:=h4;have:=NV h3;omega
theorem Jb_ {o:Oper} {r:Nat} {x:ERes} {ed:Operand->DVal} {next:Act->World->Prop} {Q:Exit->Act->World->Prop} (R:Rel B s a w loc) (hr:Cd B s<=r) (hd:Bs B.nt o.dst=true) (zI:∀x∈o.op.operands,Bg s loc B.M0 w (ed x) (a.eval x)) (fB:∀x∈o.op.operands,mx (ed x)<=Hk s.slots) (h:JD P o ed s.own r=some x) (hp:x.pre)
  (hn:∀a' w' loc',Rel B ⟨putS s.slots o.dst x.d,x.own⟩ a' w' loc'->next a' w'):o.wpIn (wd B.ro) 0 P a w next Q:=by
 have qP:=hr;unfold Cd at qP;obtain⟨dst,op,type,Fx,after,guard⟩:=o;simp only at hd hn |-;unfold JD at h;simp only at h;cases op<;>simp only[reduceCtorEq]at h
 case box t y =>
  cases dst with
  | none=>simp at h
  | some i =>
   simp only[aA0]at h;subst h;simp only at hp hn;obtain⟨h1,h2⟩:=GM R.st hp (zI y (by simp[Op.operands,Call.operands]));have:=R.newBox (id:=i) (n:=r) (cs:=AI (ed y)) (us:=(a.eval y).cells.toList) (ty:=t) (dst:=some i) hr (by rw[CH];have:=fB y (by simp[Op.operands,Call.operands]);omega) (fun j hj=>by simp only[aA0]at hj;subst hj;simpa[Bs]using hd) h1 h2
   have qD:(execOp a.eval ⟨some i,.box t y,type,Fx,after,guard⟩).run P w= .ok (.value (.pointer (some ⟨w.heap.size,0,none⟩))) (w.alloc (.cells (a.eval y).cells.toList.toArray t)):=by
    simp[execOp,Instr.box,newVar,newRow]
   exact Ej (fun c hc=>by cases hc) qD (hn _ _ _ this)
 case buildSlice t len parts =>
  split at h
  ·rename_i i k bs et ht yU;simp only[aA0]at h;subst h;simp only at hp hn;simp only[DV,ht]at hp;obtain⟨h1,h2,h3,h4,h5,h6,h7⟩:=hp;have qU:parts.toList.length=len:=by have:=congrArg List.length h1;simpa using this
   obtain⟨e,us,hu,qD,pX,vX⟩:=JT (P:=P) (M0:=B.M0) (vs:=parts.map fun p=>(p.1,a.eval p.2)) R.st ht h5 h2 h3 h4 (ds:=parts.toList.map fun p=>ed p.2) (by rw[dS0,cC0];exact h1) (by simpa using qU) (by simpa[List.all_map,Function.comp_def]using h6) (by
    intro i d q hd hq;simp only[bH0,bB0,dS0]at hd hq;obtain⟨a',ha,rfl⟩:=hd;obtain⟨b,hb,rfl⟩:=hq;rw[ha]at hb;simp only[aA0]at hb;subst hb
    exact zI a'.2 (by simpa[Op.operands]using ⟨a'.1,by simpa using bJ0 ha⟩)) h7
   have hee:e=et:=by unfold tElemId at yU;rw[hu]at yU;simpa using yU
   subst hee
   have hL:∀b0,b0∈(⟨[w.heap.size],.slice (some ⟨w.heap.size,0,none⟩) len len⟩:Loc).blks->b0<(w.alloc (.cells us.toArray e)).heap.size/\((∃e∈s.own,e.id=i/\b0∈(loc i).blks)\/w.heap.size<=b0):=by
    intro b0 qR;simp only[aE0]at qR;subst qR;exact⟨by simp,.inr (Nat.le_refl _)⟩
   have hw:=Upd.alloc (Aa s.own loc) w (.cells us.toArray e)
   have vG:Br (parts.toList.map fun p=>AI (ed p.2))<=r:=by
    refine PX fun cs hm=> ?_
    obtain⟨p,hp,rfl⟩:=aT0.1 hm;rw[CH];have:=fB p.2 (by simpa[Op.operands]using ⟨p.1,by simpa using hp⟩);omega
   have W:=R.weakUp (obj:= .row e k bs (parts.toList.map fun p=>AI (ed p.2))) (r:=r) hr hw hL (.inl (Nat.le_refl _))
   have R':=R.up (id:=i) (r:=r) (obj:= .row e k bs (parts.toList.map fun p=>AI (ed p.2))) (L:=⟨[w.heap.size],.slice (some ⟨w.heap.size,0,none⟩) len len⟩) (v:= .slice (some ⟨w.heap.size,0,none⟩) len len) (d:= .osl i r) (dst:=some i) hr
    (fun j hj=>by simp only[aA0]at hj;subst hj;simpa[Bs]using hd) hw (fun b hb _=>by simp only[World.alloc,bS0];rw[if_neg (by omega)]) hL (.inl (Nat.le_refl _))
    ⟨by simpa[qU]using h3,.inr ⟨w.heap.size,us.toArray,len,rfl,by simp[qU],heap_alloc_new w _,by simp[qU],by unfold maxLen;omega,by simp[pX],Cu W k _ _ 0 vG (by simpa[cC0,Function.comp_def]using vX)⟩⟩
    (by
     simp only[rd];intro l hl;rw[DD]at hl;simp only[aA0]at hl
     rw[<-hl])
   have wF:(execOp a.eval ⟨some i,.buildSlice t len parts,type,Fx,after,guard⟩).run P w= .ok (.value (.slice (some ⟨w.heap.size,0,none⟩) len len)) (w.alloc (.cells us.toArray e)):=by
    simp[execOp,qD]
   exact Ej (fun c hc=>by cases hc) wF (hn _ _ _ R')
  ·simp at h
 case alloc t =>
  cases dst with
  | none=>simp at h
  | some i =>
   split at h
   ·rename_i z hi hz;simp only[aA0]at h hi;subst h;subst hi;simp only at hp hn;obtain⟨zv,yG,rfl⟩:=Gr (w:=w) hz;have vV:rdV (cu s loc) (hm s loc B.M0) w.heap (zv.cells.toList.map Cb) zv.cells.toList:=BB _
    have vG:AJ (zv.cells.toList.map Cb)=0:=by
     have h1:∀v,mx (Cb v)=0:=by
      intro v;unfold Cb
      split<;>(try split)<;>simp[mx]
     generalize zv.cells.toList=l
     induction l with
     | nil=>simp[AJ]
     | cons v l ih=>simp[AJ,h1,ih]
    have qS:=Gx R.st (zv.cells.toList.map Cb) zv.cells.toList (aZ0.2 fun d hd=>QW (aZ0.1 hp d hd)) vV;have:=R.newBox (id:=i) (n:=r) (cs:=zv.cells.toList.map Cb) (us:=zv.cells.toList) (ty:=t) (dst:=some i) hr (by omega) (fun j hj=>by simp only[aA0]at hj;subst hj;simpa[Bs]using hd) vV qS
    have qD:(execOp a.eval ⟨some i,.alloc t,type,Fx,after,guard⟩).run P w= .ok (.value (.pointer (some ⟨w.heap.size,0,none⟩))) (w.alloc (.cells zv.cells.toList.toArray t)):=by
     simp[execOp,Instr.alloc,yG,newVar,newRow]
    exact Ej (fun c hc=>by cases hc) qD (hn _ _ _ this)
   ·simp at h
 case store t ad y =>
  split at h
  ·rename_i id r' off had
   split at h
   ·rename_i e he
    split at h
    ·rename_i cs qN;simp only[aA0]at h;subst h;simp only at hp hn;obtain⟨wV,rfl,hc,zA,vW⟩:=hp;have ha:=zI ad (by simp[Op.operands,Call.operands]);rw[had]at ha;obtain⟨w',qD,R'⟩:=R.storeBox (P:=P) (t:=t) (n:=r) he wV qN ha (zI y (by simp[Op.operands,Call.operands])) zA hc vW (fB y (by simp[Op.operands,Call.operands])) hr
     have wF:(execOp a.eval ⟨none,.store t ad y,type,Fx,after,guard⟩).run P w= .ok .skip w':=by
      simp[execOp,qD]
     exact PJ (fun c hc=>by cases hc) wF (hn _ _ _ R')
    ·simp at h
   ·simp at h
  ·rename_i id r' k i j had;unfold Fl at h
   split at h
   ·rename_i e he
    split at h
    ·rename_i et k' bs es qN
     split at h
     ·rename_i c0 yA;simp only[aA0]at h;subst h;simp only at hp hn;obtain⟨wV,rfl,rfl,hc,zA,vW⟩:=hp;have ha:=zI ad (by simp[Op.operands,Call.operands]);rw[had]at ha;obtain⟨w',qD,R'⟩:=R.storeRow (P:=P) (t:=t) (n:=r) he wV qN ha (zI y (by simp[Op.operands,Call.operands])) zA hc yA vW (fB y (by simp[Op.operands,Call.operands])) hr
      have wF:(execOp a.eval ⟨none,.store t ad y,type,Fx,after,guard⟩).run P w= .ok .skip w':=by
       simp[execOp,qD]
      exact PJ (fun c hc=>by cases hc) wF (hn _ _ _ R')
     ·simp at h
    ·simp at h
   ·simp at h
  ·simp at h
 case makeSlice t lo co =>
  unfold YV at h
  split at h
  ·rename_i i k bs et zs kl n kc m ht yU hz hl hc;simp only[aA0]at h;subst h;simp only at hp hn;obtain⟨h1,h2,h3,h4,h5,h6⟩:=hp;have rl:=zI lo (by simp[Op.operands,Call.operands]);have rc:=zI co (by simp[Op.operands,Call.operands]);rw[hl]at rl;rw[hc]at rc;simp only[rd]at rl rc;obtain⟨v',w',L,qD,R'⟩:=R.makeRow (P:=P) (id:=i) (n:=r) (kl:=kl) (kc:=kc) (dst:=some i) hr (fun j hj=>by simp only[aA0]at hj;subst hj;simpa[Bs]using hd) ht yU hz h1 h2 h3 h4 h5 h6
   have wF:(execOp a.eval ⟨some i,.makeSlice t lo co,type,Fx,after,guard⟩).run P w= .ok (.value v') w':=by
    simp[execOp,rl.1,rc.1,qD]
   exact Ej (fun c hc=>by cases hc) wF (hn _ _ _ R')
  ·simp at h
 case makeMap t rv =>
  split at h
  ·rename_i i kte ht;simp only[aA0]at h;subst h;simp only at hp hn;have:=R.newMap (id:=i) (n:=r) (dst:=some i) hr (fun j hj=>by simp only[aA0]at hj;subst hj;simpa[Bs]using hd)
   have qD:(execOp a.eval ⟨some i,.makeMap t none,type,Fx,after,guard⟩).run P w= .ok (.value (.map (some w.heap.size))) (w.alloc (.map #[] 0)):=by
    simp[execOp,RowKit.run_makeMap]
   exact Ej (fun c hc=>by cases hc) qD (hn _ _ _ this)
  ·simp at h
 case mapUpdate t m k x =>
  split at h
  ·rename_i id r' kt et hm ht
   split at h
   ·rename_i e he
    split at h
    ·rename_i ks vs qN;simp only[aA0]at h;subst h;simp only at hp hn;obtain⟨wV,rfl,hk,zE⟩:=hp;have ha:=zI m (by simp[Op.operands,Call.operands]);rw[hm]at ha;obtain⟨w',qD,R'⟩:=R.updMap (P:=P) (t:=t) (n:=r) he wV qN ha (zI k (by simp[Op.operands,Call.operands])) (zI x (by simp[Op.operands,Call.operands])) ht hk zE (fB k (by simp[Op.operands,Call.operands])) (fB x (by simp[Op.operands,Call.operands])) hr
     have wF:(execOp a.eval ⟨none,.mapUpdate t m k x,type,Fx,after,guard⟩).run P w= .ok .skip w':=by
      simp[execOp,qD]
     exact PJ (fun c hc=>by cases hc) wF (hn _ _ _ R')
    ·simp at h
   ·simp at h
  ·simp at h
 case call c =>
  obtain⟨cal,args,ats⟩:=c;cases cal<;>simp only[reduceCtorEq]at h;rename_i b;cases b<;>simp only[reduceCtorEq]at h;obtain⟨al⟩:=args;obtain⟨tl⟩:=ats
  case append =>
   unfold Nh at h
   split at h
   ·rename_i da db t t' qA vC
    split at h
    ·rename_i i k bs et ht yU
     split at h
     ·rename_i x gJ
      split at h
      ·rename_i id es hdest;simp only[aA0]at h;subst h;simp only at hp hn;obtain⟨mT,hz,hk,wI,hb,hl⟩:=hp
       have hdb:db= .str x:=by
        unfold strOf at gJ
        split at gJ
        ·simp only[aA0]at gJ;rw[gJ]
        ·simp at gJ
       match al,qA with
       | [xa,xb],qA =>
        simp only[List.map_cons,List.map_nil,bG0,and_true]at qA;obtain⟨pQ,nT⟩:=qA;subst vC;have ra:=zI xa (by simp[Op.operands,Call.operands]);have rb:=zI xb (by simp[Op.operands,Call.operands]);rw[pQ]at ra;rw[nT,hdb]at rb;simp only[Bg,rd]at rb;have qH:=Uu (i0:=i) (r:=r) R (by omega) hdest ra
        have hu2:P.underlying t'=some .string:=by
         unfold tStr at mT
         split at mT
         ·assumption
         ·simp at mT
        obtain⟨v',w',L,qD,R'⟩:=R.appendStr (P:=P) (ty:=type) (id:=id.getD i) (n:=r) (x:=x) (dst:=some i) hr (fun j hj=>by simp only[aA0]at hj;subst hj;simpa[Bs]using hd) ht yU hz (by omega) qH.1 qH.2 hu2 hk hb wI (by unfold maxLen;omega)
        have wF:(execOp a.eval ⟨some i,.call { callee:= .builtin .append,args:=⟨[xa,xb]⟩,argTypes:=⟨[t,t']⟩ },type,Fx,after,guard⟩).run P w= .ok (.value v') w':=by
         simp only[execOp,resolve,Sem.run_bind,dM0,List.map_cons,List.map_nil,Sem.run_pure,Result.andThen_ok,invoke,builtin,rb.1,qD]
        exact Ej (fun c hc=>by cases hc) wF (hn _ _ _ R')
      ·simp at h
     split at h
     ·rename_i id es k2 es2 hdest wH;simp only[aA0]at h;subst h;simp only at hp hn;obtain⟨rfl,hz,hk,zT,wI,hb,hl⟩:=hp
      match al,qA with
      | [xa,xb],qA =>
       simp only[List.map_cons,List.map_nil,bG0,and_true]at qA;obtain⟨pQ,nT⟩:=qA;subst vC;have ra:=zI xa (by simp[Op.operands,Call.operands]);have rb:=zI xb (by simp[Op.operands,Call.operands]);rw[pQ]at ra;rw[nT]at rb;have ma:=fB xa (by simp[Op.operands,Call.operands]);have mb:=fB xb (by simp[Op.operands,Call.operands]);rw[pQ]at ma;rw[nT]at mb;have qH:=Uu (i0:=i) (r:=r) R (by omega) hdest ra
       have jA:Br es2<=r:=by
        unfold JU at wH
        split at wH
        ·simp only[aA0,aV0]at wH;obtain⟨_,rfl⟩:=wH;simp[Br]
        ·simp only[aA0,aV0]at wH;obtain⟨_,rfl⟩:=wH;simp[Br]
        ·rw[bB0]at wH;obtain⟨⟨k',b',es'⟩,h1,h2⟩:=wH;simp only[aV0]at h2;obtain⟨_,rfl⟩:=h2;have:=NV h1;omega
       obtain⟨v',w',L,qD,R'⟩:=R.append (P:=P) (ty:=type) (id:=id.getD i) (n:=r) (dst:=some i) hr (fun j hj=>by simp only[aA0]at hj;subst hj;simpa[Bs]using hd) ht yU hz hk qH.1 qH.2 rb wH zT jA hb wI (by unfold maxLen;omega)
       have wF:(execOp a.eval ⟨some i,.call { callee:= .builtin .append,args:=⟨[xa,xb]⟩,argTypes:=⟨[t',t']⟩ },type,Fx,after,guard⟩).run P w= .ok (.value v') w':=by
        simp only[execOp,resolve,Sem.run_bind,dM0,List.map_cons,List.map_nil,Sem.run_pure,Result.andThen_ok,invoke,builtin,qD]
       exact Ej (fun c hc=>by cases hc) wF (hn _ _ _ R')
     ·simp at h
    ·simp at h
   ·simp at h
  case copy =>
   obtain⟨al⟩:=args;obtain⟨tl⟩:=ats;unfold YW at h
   split at h
   ·rename_i d sd t t' qA vC;subst vC
    match al,qA with
    | [xa,xb],qA =>
     simp only[List.map_cons,List.map_nil,bG0,and_true]at qA;obtain⟨pQ,nT⟩:=qA;have ra:=zI xa (by simp[Op.operands,Call.operands]);have rb:=zI xb (by simp[Op.operands,Call.operands]);have mb:=fB xb (by simp[Op.operands,Call.operands]);rw[pQ]at ra;rw[nT]at rb mb
     split at h
     ·rename_i k k0 id r' i m et k' bs es k2 es2 ht cC wH;simp only[aA0]at h;subst h;simp only at hp;obtain⟨rfl,rfl,hk,hb,zT⟩:=hp;obtain⟨e,bs0,he,wV,qN,hdd⟩:=XJ cC;obtain⟨w',qD,R'⟩:=R.copyRow (P:=P) (ty:=type) (n:=r) (bs0:=bs0) (dst:=dst) he wV qN ra hdd hb ht hk rb wH zT (Xs wH (by omega) (by omega)) hr (fun j hj=>by subst hj;simpa[Bs]using hd)
      have wF:(execOp a.eval ⟨dst,.call { callee:= .builtin .copy,args:=⟨[xa,xb]⟩,argTypes:=⟨[t',t']⟩ },type,Fx,after,guard⟩).run P w= .ok (.value (goInt (min es2.length m:Nat))) w':=by
       simp only[execOp,resolve,Sem.run_bind,dM0,List.map_cons,List.map_nil,Sem.run_pure,Result.andThen_ok,invoke,builtin,qD]
      exact Ej (fun c hc=>by cases hc) wF (hn _ _ _ R')
     ·simp at h
   ·simp at h
  case clear =>
   obtain⟨al⟩:=args;obtain⟨tl⟩:=ats
   have main:∀{w':World} {own':List Ent} {loc':Nat->Loc} {xa:Operand} {t:TypeId},al=[xa]->tl=[t]->(Builtin.clear_ #[t] type #[a.eval xa]).run P w= .ok (.tuple #[]) w'->Rel B ⟨putS s.slots dst (.tup []),own'⟩ (a.put dst (.tuple #[])) w' loc'->x.d= .tup []->x.own=own' ->
     (Oper.mk dst (.call { callee:= .builtin .clear,args:=⟨al⟩,argTypes:=⟨tl⟩ }) type Fx after guard).wpIn (wd B.ro) 0 P a w next Q:=by
    intro w' own' loc' xa t mD yK qD R' hxd hxo;subst mD;subst yK;rw[hxd,hxo]at hn
    have wF:(execOp a.eval ⟨dst,.call { callee:= .builtin .clear,args:=⟨[xa]⟩,argTypes:=⟨[t]⟩ },type,Fx,after,guard⟩).run P w= .ok (.value (.tuple #[])) w':=by
     simp only[execOp,resolve,Sem.run_bind,dM0,List.map_cons,List.map_nil,Sem.run_pure,Result.andThen_ok,invoke,builtin,qD]
    exact Ej (fun c hc=>by cases hc) wF (hn _ _ _ R')
   unfold RY at h
   split at h
   ·rename_i d t qA vC;subst vC
    match al,qA with
    | [xa],qA =>
     simp only[List.map_cons,List.map_nil,bG0,and_true]at qA;have ra:=zI xa (by simp[Op.operands,Call.operands]);rw[qA]at ra
     split at h
     ·rename_i k bs0 zs ht hz
      split at h
      ·rename_i id r' 
       split at h
       ·rename_i e he
        split at h
        ·rename_i et k' bs es qN;simp only[aA0]at h;subst h;simp only at hp;obtain⟨wV,rfl,h1,h2,h3⟩:=hp;obtain⟨w',qD,R'⟩:=R.clearRow (P:=P) (t:=t) (ty:=type) (n:=r) (k0:=bs0) (bs0:=0) (e':=0) (dst:=dst) he wV qN ra (.inl ⟨rfl,rfl,rfl⟩) (by simp) ht hz h1 h2 h3 hr (fun j hj=>by subst hj;simpa[Bs]using hd);exact main rfl rfl qD R' rfl rfl
        ·simp at h
       ·simp at h
      ·rename_i id r' k0 bs1 i m _
       split at h
       ·rename_i e he
        split at h
        ·rename_i et k' bs es qN;simp only[aA0]at h;subst h;simp only at hp;obtain⟨wV,rfl,rfl,h1,h2,h3,h4⟩:=hp;obtain⟨w',qD,R'⟩:=R.clearRow (P:=P) (t:=t) (ty:=type) (n:=r) (k0:=bs0) (bs0:=bs1) (e':=0) (dst:=dst) he wV qN ra (.inr rfl) h4 ht hz h1 h2 h3 hr (fun j hj=>by subst hj;simpa[Bs]using hd);exact main rfl rfl qD R' rfl rfl
        ·simp at h
       ·simp at h
      ·simp at h
     ·simp at h
   ·simp at h
  case delete =>
   obtain⟨al⟩:=args;obtain⟨tl⟩:=ats;unfold Ng at h
   split at h
   ·rename_i dm dk t t2 qA vC;have yK:tl=[t,t2]:=vC;subst yK
    match al,qA with
    | [xa,xb],qA =>
     simp only[List.map_cons,List.map_nil,bG0,and_true]at qA;obtain⟨pQ,nT⟩:=qA;have ra:=zI xa (by simp[Op.operands,Call.operands]);have rb:=zI xb (by simp[Op.operands,Call.operands]);rw[pQ]at ra;rw[nT]at rb
     split at h
     ·rename_i id r' kt et ht
      split at h
      ·rename_i e he
       split at h
       ·rename_i ks vs qN;simp only[aA0]at h;subst h;simp only at hp hn;obtain⟨wV,hk,zE⟩:=hp;obtain⟨w',qD,R'⟩:=R.delMap (P:=P) (t:=t) (t2:=t2) (ty:=type) (n:=r) (dst:=dst) he wV qN ra rb ht hk zE hr (fun j hj=>by subst hj;simpa[Bs]using hd)
        have wF:(execOp a.eval ⟨dst,.call { callee:= .builtin .delete,args:=⟨[xa,xb]⟩,argTypes:=⟨[t,t2]⟩ },type,Fx,after,guard⟩).run P w= .ok (.value (.tuple #[])) w':=by
         simp only[execOp,resolve,Sem.run_bind,dM0,List.map_cons,List.map_nil,Sem.run_pure,Result.andThen_ok,invoke,builtin,qD]
        exact Ej (fun c hc=>by cases hc) wF (hn _ _ _ R')
       ·simp at h
      ·simp at h
     ·simp at h
   ·simp at h
def yH (l:Nat):Abs where
 J:=fun _ bl hd _=>bl=[]/\hd= .func (.yield l) #[] #[]
 weak:=fun _ _ _ _ _ _ _ _ _ h=>h
 one:=by rintro _ _ _ _ ⟨_,rfl⟩;exact⟨rfl,rfl⟩
 nd:=by rintro _ _ _ _ ⟨rfl,_⟩ b hb;cases hb
def YAt (P:Program) (l:Nat) (A:Abs) (args:List DVal) (b:Bool) (A':Abs):Prop :=
 ∀(M bl:List Nat) (hd:Value) (w:World) (vs:Array Value),bl.Nodup->(∀q∈bl,q∈M)->(∀q∈M,q<w.heap.size)->A.J M bl hd w.heap->rdV (fun _ _=>none) M w.heap args vs.toList ->
  HN P (.yield l) vs w fun v w'=>v= .bool b/\∃bl',Upd bl w w'/\bl'.Nodup/\(∀q∈bl',q<w'.heap.size/\(q∈bl\/w.heap.size<=q)) /\
   ∀M',(∀q∈M',q∈bl'\/(q∈M/\q∉bl))->A'.J M' bl' hd w'.heap
def Vp (ed:Operand->DVal) (c:Call):Option (Nat×Nat×List DVal):=match c.callee with
 | .value f=>match ed f with | .pk id r=>some (id,r,c.args.toList.map ed) | _=>none
 | _=>none
def PF (P:Program) (o:Oper) (ed:Operand->DVal) (own:List Ent) (r:Nat) (d:DVal) (own':List Ent):Prop :=
 (∃x,JD P o ed own r=some x/\x.pre/\d=x.d/\own'=x.own)\/(∃c g args,o.op= .call c/\callee ed c=some (g,args)/\WM P (.func g) args own r d own') \/
  (∃c id r' args e0 l e A A' b,o.op= .call c/\Vp ed c=some (id,r',args)/\Ah own id=some e0/\e0.r=r'/\e0.obj= .abs (yH l)/\Ah own (id+1)=some e/\e.obj= .abs A/\AJ args=0/\YAt P l A args b A'/\d= .bool b/\own'=upE own (id+1) r (.abs A'))
def FV_ (P:Program) (o:Oper) (ed:Operand->DVal) (own:List Ent) (K:ContE):Prop:=∀r,match JD P o ed own r with | some x=>x.pre/\K.f x.d x.own | none=>False
def BS (P:Program) (g:FuncId) (args:List DVal) (own:List Ent) (K:ContE):Prop:=∀r,∃d own',WM P (.func g) args own r d own'/\K.f d own'
def Es_ (P:Program) (id r':Nat) (args:List DVal) (own:List Ent) (K:ContE):Prop:=∃e0 l e A A' b,Ah own id=some e0/\e0.r=r'/\e0.obj= .abs (yH l)/\Ah own (id+1)=some e/\e.obj= .abs A/\AJ args=0/\YAt P l A args b A'/\∀r,K.f (.bool b) (upE own (id+1) r (.abs A'))
def Bz_ (P:Program) (o:Oper) (ed:Operand->DVal) (own:List Ent) (K:ContE):Prop:=match o.op with
 | .call c=>match callee ed c with
  | some (g,args)=>BS P g args own K
  | none=>match Vp ed c with
   | some (id,r',args)=>Es_ P id r' args own K
   | none=>FV_ P o ed own K
 | _=>FV_ P o ed own K
theorem YT {P:Program} {o:Oper} {ed:Operand->DVal} {own:List Ent} {K:ContE} (h:FV_ P o ed own K) (r:Nat):∃d own',PF P o ed own r d own'/\K.f d own':=by
 have h1:=h r
 split at h1
 ·rename_i x hx;exact⟨x.d,x.own,.inl ⟨x,hx,h1.1,rfl,rfl⟩,h1.2⟩
 ·exact h1.elim
theorem Kw {P:Program} {o:Oper} {ed:Operand->DVal} {own:List Ent} {K:ContE} (h:Bz_ P o ed own K) (r:Nat):∃d own',PF P o ed own r d own'/\K.f d own':=by
 unfold Bz_ at h
 split at h
 ·rename_i c wD
  split at h
  ·rename_i g args hc;obtain⟨d,own',h1,h2⟩:=h r;exact⟨d,own',.inr (.inl ⟨c,g,args,wD,hc,h1⟩),h2⟩
  ·split at h
   ·rename_i id r' args hp;obtain⟨e0,l,e,A,A',b,h1,h2,h3,h4,h5,h6,h7,h8⟩:=h;exact⟨_,_,.inr (.inr ⟨c,id,r',args,e0,l,e,A,A',b,wD,hp,h1,h2,h3,h4,h5,h6,h7,rfl,rfl⟩),h8 r⟩
   ·exact YT h r
 ·exact YT h r
theorem Fh_ {o:Oper} {c:Call} {g:FuncId} {args:List DVal} {r:Nat} {d:DVal} {own':List Ent} {ed:Operand->DVal} {next:Act->World->Prop} {Q:Exit->Act->World->Prop} (R:Rel B s a w loc) (hr:Cd B s<=r) (hd:Bs B.nt o.dst=true) (ho:o.op= .call c)
  (zI:∀x∈o.op.operands,Bg s loc B.M0 w (ed x) (a.eval x)) (hc:callee ed c=some (g,args)) (hS:WM P (.func g) args s.own r d own')
  (hn:∀a' w' loc',Rel B ⟨putS s.slots o.dst d,own'⟩ a' w' loc'->next a' w'):o.wpIn (wd B.ro) 0 P a w next Q:=by
 have qP:=hr;unfold Cd at qP;obtain⟨hE,_,_,hS⟩:=hS;obtain⟨vs,h1,h2⟩:=MA (P:=P) (ρ:=a.eval) (M0:=B.M0) ho (fun x hx=>zI x (by rw[ho];exact hx)) hc hE;refine⟨fun _ _=>trivial,?_⟩;rw[Oper.semAt_eq _ _ _ (fun c' kO=>by rw[ho]at kO;cases kO),h1,Oper.uponIn_enter];refine⟨fun h=>by simp[wd]at h,KA B.ro _ ?_⟩;refine((hS B.M0 w loc vs (by omega) R.st h2).2).mono ?_;rintro e w' ⟨v,rfl,loc',S',hu,wG,vB,vX⟩;exact hn _ _ loc' (R.step (n:=r) (by omega) (by omega) (Jh hd) S' hu wG vB vX)
theorem CF_ {P:Program} {l:Nat} {fn:FuncId} {tmps:Array Value} {assign body:Code} {w:World} {R:Ending->World->Prop} (ro:Option Nat) (h:RoundIn (wd none) 0 P l fn tmps assign body w R):RoundIn (wd ro) 0 P l fn tmps assign body w R:=h
theorem BX_ {o:Oper} {c:Call} {id r' n l:Nat} {args:List DVal} {e0 e:Ent} {A A':Abs} {b:Bool} {ed:Operand->DVal} {next:Act->World->Prop} {Q:Exit->Act->World->Prop} (R:Rel B s a w loc) (hr:Cd B s<=n) (hd:Bs B.nt o.dst=true) (ho:o.op= .call c)
  (zI:∀x∈o.op.operands,Bg s loc B.M0 w (ed x) (a.eval x)) (hc:Vp ed c=some (id,r',args)) (vL:Ah s.own id=some e0) (wV:e0.r=r') (hob0:e0.obj= .abs (yH l)) (he:Ah s.own (id+1)=some e) (qN:e.obj= .abs A) (gA:AJ args=0) (hY:YAt P l A args b A')
  (hn:∀a' w' loc',Rel B ⟨putS s.slots o.dst (.bool b),upE s.own (id+1) n (.abs A')⟩ a' w' loc'->next a' w'):o.wpIn (wd B.ro) 0 P a w next Q:=by
 obtain⟨dst,op,type,Fx,after,guard⟩:=o;simp only at ho;subst ho;obtain⟨cal,ars,ats⟩:=c;unfold Vp at hc
 cases cal with
 | builtin _=>simp at hc
 | invoke _ _=>simp at hc
 | value f =>
  simp only at hc
  split at hc
  rotate_left
  ·simp at hc
  rename_i id0 r0 hf;simp only[aA0,aV0]at hc;obtain⟨rfl,rfl,rfl⟩:=hc;obtain⟨hmem0,jD⟩:=AU vL;obtain⟨qY,hid⟩:=AU he;have qE:Ac s.own loc id0 r0=some (loc id0):=by unfold Ac;rw[vL];simp[wV]
  have hx:=zI f (by simp[Op.operands,Call.operands]);rw[hf]at hx;simp only[Bg,rd]at hx;have hv:=hx _ qE;have zD:=R.st.ok e0 hmem0;rw[hob0,jD]at zD;have hl:(loc id0).hdr= .func (.yield l) #[] #[]:=zD.2;have hk:=R.st.ok e qY;rw[qN,hid]at hk
  have vX:rdV (fun _ _=>none) (Aa s.own loc++B.M0) w.heap (ars.toList.map ed) (ars.toList.map a.eval):=by
   have key:∀l:List Operand,(∀x∈l,x∈ars.toList)->rdV (cu s loc) (hm s loc B.M0) w.heap (l.map ed) (l.map a.eval):=by
    intro l
    induction l with
    | nil=>intro _;simp[rdV]
    | cons x l ih =>
     intro hl;simp only[List.map_cons,rdV];exact⟨_,_,rfl,zI x (by have:=hl x aH0;simp[Op.operands,Call.operands];simp at this;exact .inr this),ih fun y hy=>hl y (aF0 _ hy)⟩
   exact AP (n:=0) ⟨fun _ _ _ h=>by omega,fun b o _ (_:FE o=true) ho=>ho,fun b o hb (_:FE o=true) _=>hb⟩ _ _ (dD0 gA) (key _ (fun _ h=>h))
  have hF:=hY (Aa s.own loc++B.M0) (loc (id0+1)).blks (loc (id0+1)).hdr w (ars.map a.eval) (by have:=DE R.st.bl e qY;rwa[hid]at this) (fun q hq=>aM0 _ (AW qY (by rw[hid];exact hq))) R.st.lt hk (by simpa using vX);obtain⟨fn,tmps,assign,body,qD,hround⟩:=hF;refine⟨fun _ _=>trivial,?_⟩
  have hex:(execOp a.eval ⟨dst,.call { callee:= .value f,args:=ars,argTypes:=ats },type,Fx,after,guard⟩).run P w= .ok (.round l fn tmps assign body) w:=by
   simp only[execOp,resolve,hv,hl,Deferred.ofValue,Sem.run_bind,Sem.run_pure,Result.andThen_ok,invoke];simpa using qD
  rw[Oper.semAt_eq _ _ _ (fun c' kO=>by simp at kO),hex,Oper.uponIn_round];refine⟨fun h=>by simp[wd]at h,(CF_ B.ro hround).mono ?_⟩;rintro e1 w' ⟨v,rfl,rfl,bl',hu,hnd,kP,hJ⟩
  have hL:∀b0,b0∈(⟨bl',(loc (id0+1)).hdr⟩:Loc).blks->b0<w'.heap.size/\((∃e∈s.own,e.id=id0+1/\b0∈(loc (id0+1)).blks)\/w.heap.size<=b0):=fun b0 qR =>
   ⟨(kP b0 qR).1,(kP b0 qR).2.imp (fun h=>⟨e,qY,hid,h⟩) id⟩
  have vO:Upd (Aa s.own loc) w w':=⟨hu.os,hu.tape,hu.output,hu.drawn,hu.size,fun q hq mA=>hu.blk q hq (fun h=>mA (AW qY (by rw[hid];exact h)))⟩;refine hn _ _ _ (R.up (id:=id0+1) (r:=n) (obj:= .abs A') (L:=⟨bl',(loc (id0+1)).hdr⟩) (v:= .bool b) (d:= .bool b) (dst:=dst) hr (fun j hj=>by subst hj;simpa[Bs]using hd) vO (fun q hq qF=>hu.blk q hq (qF e qY hid)) hL (.inl (Nat.le_refl _)) (hJ _ ?_) (by simp[rd]) hnd)
  intro q hq
  rcases aG0.1 hq with hq | hq
  ·unfold upE at hq;rw[Ec,Ry]at hq
   rcases aG0.1 hq with hq | hq
   ·simp only[CS,if_true]at hq;exact .inl hq
   ·obtain⟨e2,vS,qF,wX⟩:=MX hq;refine .inr ⟨aM0 _ (AW vS wX),fun cU=> ?_⟩;have:=EI R.st.bl e2 vS e qY q wX (by rw[hid];exact cU);subst this;exact qF hid
  ·exact .inr ⟨aN0 _ hq,fun cU=>R.st.ap q (AW qY (by rw[hid];exact cU)) hq⟩
theorem YR {o:Oper} {r:Nat} {d:DVal} {own':List Ent} {ed:Operand->DVal} {next:Act->World->Prop} {Q:Exit->Act->World->Prop} (R:Rel B s a w loc) (hr:Cd B s<=r) (hd:Bs B.nt o.dst=true) (zI:∀x∈o.op.operands,Bg s loc B.M0 w (ed x) (a.eval x)) (fB:∀x∈o.op.operands,mx (ed x)<=Hk s.slots) (h:PF P o ed s.own r d own')
  (hn:∀a' w' loc',Rel B ⟨putS s.slots o.dst d,own'⟩ a' w' loc'->next a' w'):o.wpIn (wd B.ro) 0 P a w next Q:=by
 rcases h with ⟨x,hx,hp,rfl,rfl⟩ | ⟨c,g,args,wD,hc,hS⟩ | ⟨c,id,r',args,e0,l,e,A,A',b,wD,hc,vL,wV,hob0,he,qN,gA,hY,rfl,rfl⟩
 ·exact Jb_ R hr hd zI fB hx hp hn
 ·exact Fh_ R hr hd wD zI hc hS hn
 ·exact BX_ R hr hd wD zI hc vL wV hob0 he qN gA hY hn
end
end Go.Dm
end
