/- Parts of a proof, laid together: EnJ. -/
import Derived.Carry
import Derived.Test.YtiojapdolljocaaGreatqMx7
import Derived.Test.YtiojapdolljocaaGreatqMx9
import Derived.Test.YtiojapdolljocaaGreatqMx10
set_option linter.unusedSimpArgs false
set_option maxHeartbeats 8000000
set_option linter.unusedVariables false
set_option linter.unusedSectionVars false
section
namespace Go.Dm
variable [DMode]
def HB (own:List Ent) (et k bs:Nat):DVal->Option (Option Nat×List (List DVal))
 | .nilsl=>some (none,[])
 | .osl id r=>match An own id with
  | some e=>if e.r=r then (match e.obj with | .row et' k' bs' es=>if et'=et/\k'=k/\bs'=bs then some (some id,es)else none | _=>none)else none
  | none=>none
 | _=>none
structure ERes where
 pre:Prop
 d:DVal
 own:List Ent
section
variable (P : Program) (nt : Nat) (ow : List Nat)
def Br (o:Oper):Bool:=match o.op with
 | .box _ _=>match o.dst with | some i=>ow.contains i | none=>false
 | .buildSlice _ _ _=>match o.dst with | some i=>ow.contains i | none=>false
 | .alloc _=>true
 | .store _ _ _=>true
 | .makeMap _ _=>true
 | .mapUpdate _ _ _ _=>true
 | .makeSlice _ _ _=>true
 | .call c=>match c.callee with | .builtin .append=>(match o.dst with | some i=> !ow.contains (i+1000000) | none=>true) | .builtin .clear=>true | .builtin .copy=>true | .builtin .delete=>true | .value _=>(match o.dst with | some i=>ow.contains i | none=>false) | _=>false
 | _=>false
def strOf : DVal->Option ByteArray
 | .str x=>some x
 | _=>none
def MK (own:List Ent) (dst:Option Nat) (r:Nat):List DVal->List TypeId->Option ERes
 | [a,b],[t,t']=>match dst,tElem P t,tElemId P t with
  | some i,some (k,bs),some et=>match strOf b with
   | some x=>match HB own et k bs a with
    | some (id,es)=>some ⟨tStr P t'=true/\zeroOK P t=true/\k=1/\bs<=65536/\(es.length+x.size)*bs<=150000000000000/\es.length+x.size<=9223372036854775807,
     .osl (id.getD i) r,upE own (id.getD i) r (.row et k bs (es++AX x))⟩
    | none=>none
   | none=>match HB own et k bs a,Jz own b with
    | some (id,es),some (k2,es2)=>some ⟨t'=t/\zeroOK P t=true/\0<k/\(k2=k\/es2=[])/\bs<=65536/\(es.length+es2.length)*bs<=150000000000000/\es.length+es2.length<=9223372036854775807,
     .osl (id.getD i) r,upE own (id.getD i) r (.row et k bs (es++es2))⟩
    | _,_=>none
  | _,_,_=>none
 | _,_=>none
def Fe (own:List Ent) (dst:Option Nat) (t:TypeId) (d:DVal) (id r' k i j:Nat):Option ERes:=match An own id with
 | some e=>match e.obj with
  | .row et k' bs es=>match es[i]? with
   | some c0=>some ⟨e.r=r'/\k'=k/\dst=none/\tCells P t=some (AE d).length/\CB own d=true/\j+(AE d).length<=k,.any,upE own id r' (.row et k' bs (es.set i (Dr c0 j (AE d))))⟩
   | none=>none
  | _=>none
 | none=>none
def Yr (own:List Ent) (dst:Option Nat) (r:Nat) (t:TypeId) (l c:DVal):Option ERes:=match dst,tElem P t,tElemId P t,tZeroE P t,l,c with
 | some i,some (k,bs),some et,some zs,.int _ n,.int _ m=>some ⟨zs.all (Fo [])=true/\zs.length=k/\0<=n/\n<=m/\m*bs<=150000000000000/\m<=9223372036854775807,.osl i r,upE own i r (.row et k bs (List.replicate n.toNat zs))⟩
 | _,_,_,_,_,_=>none
def Rz (own:List Ent):List DVal->List TypeId->Option ERes
 | [d],[t]=>match tElem P t,tZeroE P t with
  | some (k,_),some zs=>match d with
   | .osl id r=>match An own id with
    | some e=>match e.obj with
     | .row et k' bs es=>some ⟨e.r=r/\k'=k/\zs.all (Fo [])=true/\zs.length=k/\0<k,.tup [],upE own id r (.row et k' bs (Eh es 0 es.length zs))⟩
     | _=>none
    | none=>none
   | .vw id r k0 _ i m=>match An own id with
    | some e=>match e.obj with
     | .row et k' bs es=>some ⟨e.r=r/\k'=k/\k0=k/\zs.all (Fo [])=true/\zs.length=k/\0<k/\i+m<=es.length,.tup [],upE own id r (.row et k' bs (Eh es i m zs))⟩
     | _=>none
    | none=>none
   | _=>none
  | _,_=>none
 | _,_=>none
def MJ (own:List Ent):List DVal->List TypeId->Option ERes
 | [m,k],[t,_]=>match m,tMap P t with
  | .omp id r',some (kt,_)=>match An own id with
   | some e=>match e.obj with
    | .map ks vs=>some ⟨e.r=r'/\Cp P kt k=true/\ks.all (Cp P kt)=true,.tup [],upE own id r' (.map (RD ks k) (RC ks vs k))⟩
    | _=>none
   | none=>none
  | _,_=>none
 | _,_=>none
def rD (own:List Ent):DVal->Option (Nat×Nat×Nat×Nat×TypeId×Nat×Nat×List (List DVal))
 | .osl id r=>match An own id with
  | some e=>if e.r=r then (match e.obj with | .row et k bs es=>some (id,r,0,es.length,et,k,bs,es) | _=>none)else none
  | none=>none
 | .vw id r k0 _ i m=>match An own id with
  | some e=>if e.r=r then (match e.obj with | .row et k bs es=>if k0=k then some (id,r,i,m,et,k,bs,es)else none | _=>none)else none
  | none=>none
 | _=>none
def Ys (own:List Ent):List DVal->List TypeId->Option ERes
 | [d,s],[t,t']=>match tElem P t,rD own d,Jz own s with
  | some (k,_),some (id,r',i,m,et,k',bs,es),some (k2,es2)=>some ⟨t'=t/\k'=k/\0<k/\i+m<=es.length/\(k2=k\/es2=[]),.int .i64 (min es2.length m:Nat),upE own id r' (.row et k' bs (Je es i m es2))⟩
  | _,_,_=>none
 | _,_=>none
def Jl (o:Oper) (ed:Operand->DVal) (own:List Ent) (r:Nat):Option ERes :=
 match o.op with
 | .box _ x=>match o.dst with
  | some i=>some ⟨CB own (ed x)=true,.bx i r 0,upE own i r (.box (AE (ed x)))⟩
  | none=>none
 | .buildSlice t len parts=>match o.dst,tElem P t,tElemId P t with
  | some i,some (k,bs),some et=>some ⟨FE P own (ed) (.buildSlice t len parts),.osl i r,upE own i r (.row et k bs (parts.toList.map fun p=>AE (ed p.2)))⟩
  | _,_,_=>none
 | .alloc t=>match o.dst,tZero P t with
  | some i,some z=>some ⟨z.all (Fo [])=true,.bx i r 0,upE own i r (.box z)⟩
  | _,_=>none
 | .store t a x=>match ed a with
  | .bx id r' off=>match An own id with
   | some e=>match e.obj with
    | .box cs=>some ⟨e.r=r'/\o.dst=none/\tCells P t=some (AE (ed x)).length/\CB own (ed x)=true/\off+(AE (ed x)).length<=cs.length,.any,upE own id r' (.box (Dr cs off (AE (ed x))))⟩
    | _=>none
   | none=>none
  | .rx id r' k i j=>Fe P own o.dst t (ed x) id r' k i j
  | _=>none
 | .makeSlice t l c=>Yr P own o.dst r t (ed l) (ed c)
 | .makeMap t rv=>match rv,o.dst,tMap P t with
  | none,some i,some _=>some ⟨True,.omp i r,upE own i r (.map [] [])⟩
  | _,_,_=>none
 | .mapUpdate t m k x=>match ed m,tMap P t with
  | .omp id r',some (kt,_)=>match An own id with
   | some e=>match e.obj with
    | .map ks vs=>some ⟨e.r=r'/\o.dst=none/\Cp P kt (ed k)=true/\ks.all (Cp P kt)=true,.any,upE own id r' (.map (Sw ks (ed k)) (Sv ks vs (ed k) (ed x)))⟩
    | _=>none
   | none=>none
  | _,_=>none
 | .call c=>match c.callee with
  | .builtin .append=>MK P own o.dst r (c.args.toList.map (ed)) c.argTypes.toList
  | .builtin .clear=>Rz P own (c.args.toList.map (ed)) c.argTypes.toList
  | .builtin .copy=>Ys P own (c.args.toList.map (ed)) c.argTypes.toList
  | .builtin .delete=>MJ P own (c.args.toList.map (ed)) c.argTypes.toList
  | _=>none
 | _=>none
end
section
variable {P : Program} {B : Base} {s : DS} {a : Act} {w : World} {loc : Nat -> Loc} {ow : List Nat}
theorem QF {own:List Ent} {d:DVal} (h:Fo [] d=true):Fo own d=true:=by
 cases d<;>simp_all [Fo,DP,An,Bg]
theorem ES {ro:Option Nat} {o:Oper} {v:Value} {w':World} {next:Act->World->Prop} {Q:Exit->Act->World->Prop} (hd:∀c,o.op≠ .defer c) (h:(execOp a.eval o).run P w= .ok (.value v) w') (hn:next (a.put o.dst v) w'):o.wpIn (wd ro) 0 P a w next Q:=by
 refine⟨fun _ _=>trivial,?_⟩;rw[Oper.semAt_eq _ _ _ hd,h,Oper.uponIn_value];exact hn
theorem Ux {ro:Option Nat} {o:Oper} {w':World} {next:Act->World->Prop} {Q:Exit->Act->World->Prop} (hd:∀c,o.op≠ .defer c) (h:(execOp a.eval o).run P w= .ok .skip w') (hn:next (a.put o.dst Go.undef) w'):o.wpIn (wd ro) 0 P a w next Q:=by
 refine⟨fun _ _=>trivial,?_⟩;rw[Oper.semAt_eq _ _ _ hd,h,Oper.uponIn_skip];exact hn
theorem Ua {id:Option Nat} {i0 r et k bs:Nat} {es:List (List DVal)} {d:DVal} {v:Value} (R:Rel B s a w loc) (qH:GO s.own<=r) (hdest:HB s.own et k bs d=some (id,es)) (ra:Bh s loc B.M0 w d v) :
  uN s loc w B.M0 (id.getD i0) et k bs es v/\Bp es<=r:=by
 unfold HB at hdest
 split at hdest
 ·simp only[aA0,aU0]at hdest;obtain⟨rfl,rfl⟩:=hdest;simp only[Bh,rd]at ra;exact⟨.inl ⟨rfl,ra⟩,by simp[Bp]⟩
 ·rename_i id' r'
  split at hdest
  ·rename_i e0 vW
   split at hdest
   ·rename_i wV
    split at hdest
    ·rename_i et' k' bs' es' qN
     split at hdest
     ·rename_i heq;obtain⟨rfl,rfl,rfl⟩:=heq;simp only[aA0,aU0]at hdest;obtain⟨rfl,rfl⟩:=hdest;refine⟨xR R.st vW wV qN ra,?_⟩;have:=(Bm (AS vW).1).2;rw[qN]at this;simp only[Fa]at this;omega
     ·simp at hdest
    ·simp at hdest
   ·simp at hdest
  ·simp at hdest
 ·simp at hdest
theorem Bi_ {own:List Ent} {id:Option Nat} {r et k bs:Nat} {es:List (List DVal)} {d:DVal} (hdest:HB own et k bs d=some (id,es)) (qH:GO own<=r):Bp es<=r:=by
 unfold HB at hdest
 split at hdest
 ·simp only[aA0,aU0]at hdest;obtain⟨_,rfl⟩:=hdest;simp[Bp]
 ·split at hdest
  ·rename_i e0 vW
   split at hdest
   ·split at hdest
    ·rename_i qN
     split at hdest
     ·simp only[aA0,aU0]at hdest;obtain⟨_,rfl⟩:=hdest;have:=(Bm (AS vW).1).2;rw[qN]at this;simp only[Fa]at this;omega
     ·simp at hdest
    ·simp at hdest
   ·simp at hdest
  ·simp at hdest
 ·simp at hdest
theorem Xh {own:List Ent} {d:DVal} {id r i m:Nat} {et:TypeId} {k bs:Nat} {es:List (List DVal)} (h:rD own d=some (id,r,i,m,et,k,bs,es)) :
  ∃e bs0,An own id=some e/\e.r=r/\e.obj= .row et k bs es/\(d= .osl id r/\i=0/\m=es.length\/d= .vw id r k bs0 i m):=by
 unfold rD at h
 split at h
 ·split at h
  ·rename_i e he
   split at h
   ·rename_i wV
    split at h
    ·rename_i qN;simp only[aA0,aU0]at h;obtain⟨rfl,rfl,rfl,rfl,rfl,rfl,rfl,rfl⟩:=h;exact⟨e,0,he,wV,qN,.inl ⟨rfl,rfl,rfl⟩⟩
    ·simp at h
   ·simp at h
  ·simp at h
 ·rename_i bs0 _ _
  split at h
  ·rename_i e he
   split at h
   ·rename_i wV
    split at h
    ·rename_i qN
     split at h
     ·rename_i hk;simp only[aA0,aU0]at h;obtain⟨rfl,rfl,rfl,rfl,rfl,rfl,rfl,rfl⟩:=h;exact⟨e,bs0,he,wV,qN,.inr (by rw[hk])⟩
     ·simp at h
    ·simp at h
   ·simp at h
  ·simp at h
 ·simp at h
theorem WS {own:List Ent} {s:DVal} {k2:Nat} {es2:List (List DVal)} {n:Nat} (h:Jz own s=some (k2,es2)) (h1:GO own<=n) (h2:mx s<=n):Bp es2<=n:=by
 unfold Jz at h
 split at h
 ·simp only[aA0,aU0]at h;obtain⟨_,rfl⟩:=h;simp[Bp]
 ·simp only[aA0,aU0]at h;obtain⟨_,rfl⟩:=h;simp[Bp]
 ·rw[bF0]at h;obtain⟨⟨k',b',es'⟩,h3,h4⟩:=h;simp only[aU0]at h4;obtain⟨_,rfl⟩:=h4;have:=NA h3;omega
theorem IZ_ {o:Oper} {r:Nat} {x:ERes} {ed:Operand->DVal} {next:Act->World->Prop} {Q:Exit->Act->World->Prop} (R:Rel B s a w loc) (hr:Ce B s<=r) (hd:Cf B.nt o.dst=true) (zK:∀x∈o.op.operands,Bh s loc B.M0 w (ed x) (a.eval x)) (fC:∀x∈o.op.operands,mx (ed x)<=Ku s.slots) (h:Jl P o ed s.own r=some x) (hp:x.pre)
  (hn:∀a' w' loc',Rel B ⟨Bz s.slots o.dst x.d,x.own⟩ a' w' loc'->next a' w'):o.wpIn (wd B.ro) 0 P a w next Q:=by
 have qH:=hr;unfold Ce at qH;obtain⟨dst,op,type,GL,after,guard⟩:=o;simp only at hd hn |-;unfold Jl at h;simp only at h;cases op<;>simp only[reduceCtorEq]at h
 case box t y =>
  cases dst with
  | none=>simp at h
  | some i =>
   simp only[aA0]at h;subst h;simp only at hp hn;obtain⟨h1,h2⟩:=Ij R.st hp (zK y (by simp[Op.operands,Call.operands]));have:=R.newBox (id:=i) (n:=r) (cs:=AE (ed y)) (us:=(a.eval y).cells.toList) (ty:=t) (dst:=some i) hr (by rw[CH];have:=fC y (by simp[Op.operands,Call.operands]);omega) (fun j hj=>by simp only[aA0]at hj;subst hj;simpa[Cf]using hd) h1 h2
   have qB:(execOp a.eval ⟨some i,.box t y,type,GL,after,guard⟩).run P w= .ok (.value (.pointer (some ⟨w.heap.size,0,none⟩))) (w.alloc (.cells (a.eval y).cells.toList.toArray t)):=by
    simp[execOp,Instr.box,newVar,newRow]
   exact ES (fun c hc=>by cases hc) qB (hn _ _ _ this)
 case buildSlice t len parts =>
  split at h
  ·rename_i i k bs et ht yU;simp only[aA0]at h;subst h;simp only at hp hn;simp only[FE,ht]at hp;obtain⟨h1,h2,h3,h4,h5,h6,h7⟩:=hp;have qU:parts.toList.length=len:=by have:=congrArg List.length h1;simpa using this
   obtain⟨e,us,hu,qB,pW,vV⟩:=Jy (P:=P) (M0:=B.M0) (vs:=parts.map fun p=>(p.1,a.eval p.2)) R.st ht h5 h2 h3 h4 (ds:=parts.toList.map fun p=>ed p.2) (by rw[dZ0,bY0];exact h1) (by simpa using qU) (by simpa[List.all_map,Function.comp_def]using h6) (by
    intro i d q hd hq;simp only[bK0,bF0,dZ0]at hd hq;obtain⟨a',ha,rfl⟩:=hd;obtain⟨b,hb,rfl⟩:=hq;rw[ha]at hb;simp only[aA0]at hb;subst hb
    exact zK a'.2 (by simpa[Op.operands]using ⟨a'.1,by simpa using bP0 ha⟩)) h7
   have hee:e=et:=by unfold tElemId at yU;rw[hu]at yU;simpa using yU
   subst hee
   have hL:∀b0,b0∈(⟨[w.heap.size],.slice (some ⟨w.heap.size,0,none⟩) len len⟩:Loc).blks->b0<(w.alloc (.cells us.toArray e)).heap.size/\((∃e∈s.own,e.id=i/\b0∈(loc i).blks)\/w.heap.size<=b0):=by
    intro b0 qR;simp only[aF0]at qR;subst qR;exact⟨by simp,.inr (Nat.le_refl _)⟩
   have hw:=Upd.alloc (Aa s.own loc) w (.cells us.toArray e)
   have vA:Bp (parts.toList.map fun p=>AE (ed p.2))<=r:=by
    refine Py fun cs hm=> ?_
    obtain⟨p,hp,rfl⟩:=aT0.1 hm;rw[CH];have:=fC p.2 (by simpa[Op.operands]using ⟨p.1,by simpa using hp⟩);omega
   have W:=R.weakUp (obj:= .row e k bs (parts.toList.map fun p=>AE (ed p.2))) (r:=r) hr hw hL (.inl (Nat.le_refl _))
   have R':=R.up (id:=i) (r:=r) (obj:= .row e k bs (parts.toList.map fun p=>AE (ed p.2))) (L:=⟨[w.heap.size],.slice (some ⟨w.heap.size,0,none⟩) len len⟩) (v:= .slice (some ⟨w.heap.size,0,none⟩) len len) (d:= .osl i r) (dst:=some i) hr
    (fun j hj=>by simp only[aA0]at hj;subst hj;simpa[Cf]using hd) hw (fun b hb _=>by simp only[World.alloc,bS0];rw[if_neg (by omega)]) hL (.inl (Nat.le_refl _))
    ⟨by simpa[qU]using h3,.inr ⟨w.heap.size,us.toArray,len,rfl,by simp[qU],heap_alloc_new w _,by simp[qU],by unfold maxLen;omega,by simp[pW],Cv W k _ _ 0 vA (by simpa[bY0,Function.comp_def]using vV)⟩⟩
    (by
     simp only[rd];intro l hl;rw[Dv]at hl;simp only[aA0]at hl
     rw[<-hl])
   have wB:(execOp a.eval ⟨some i,.buildSlice t len parts,type,GL,after,guard⟩).run P w= .ok (.value (.slice (some ⟨w.heap.size,0,none⟩) len len)) (w.alloc (.cells us.toArray e)):=by
    simp[execOp,qB]
   exact ES (fun c hc=>by cases hc) wB (hn _ _ _ R')
  ·simp at h
 case alloc t =>
  cases dst with
  | none=>simp at h
  | some i =>
   split at h
   ·rename_i z hi hz;simp only[aA0]at h hi;subst h;subst hi;simp only at hp hn;obtain⟨zv,yM,rfl⟩:=Gh (w:=w) hz;have vE:Az (cu s loc) (hm s loc B.M0) w.heap (zv.cells.toList.map Ca) zv.cells.toList:=Bu _
    have vA:AL (zv.cells.toList.map Ca)=0:=by
     have h1:∀v,mx (Ca v)=0:=by
      intro v;unfold Ca
      split<;>(try split)<;>simp[mx]
     generalize zv.cells.toList=l
     induction l with
     | nil=>simp[AL]
     | cons v l ih=>simp[AL,h1,ih]
    have qC:=Gp R.st (zv.cells.toList.map Ca) zv.cells.toList (bC0.2 fun d hd=>QF (bC0.1 hp d hd)) vE;have:=R.newBox (id:=i) (n:=r) (cs:=zv.cells.toList.map Ca) (us:=zv.cells.toList) (ty:=t) (dst:=some i) hr (by omega) (fun j hj=>by simp only[aA0]at hj;subst hj;simpa[Cf]using hd) vE qC
    have qB:(execOp a.eval ⟨some i,.alloc t,type,GL,after,guard⟩).run P w= .ok (.value (.pointer (some ⟨w.heap.size,0,none⟩))) (w.alloc (.cells zv.cells.toList.toArray t)):=by
     simp[execOp,Instr.alloc,yM,newVar,newRow]
    exact ES (fun c hc=>by cases hc) qB (hn _ _ _ this)
   ·simp at h
 case store t ad y =>
  split at h
  ·rename_i id r' off had
   split at h
   ·rename_i e he
    split at h
    ·rename_i cs qN;simp only[aA0]at h;subst h;simp only at hp hn;obtain⟨wV,rfl,hc,zS,vH⟩:=hp;have ha:=zK ad (by simp[Op.operands,Call.operands]);rw[had]at ha;obtain⟨w',qB,R'⟩:=R.storeBox (P:=P) (t:=t) (n:=r) he wV qN ha (zK y (by simp[Op.operands,Call.operands])) zS hc vH (fC y (by simp[Op.operands,Call.operands])) hr
     have wB:(execOp a.eval ⟨none,.store t ad y,type,GL,after,guard⟩).run P w= .ok .skip w':=by
      simp[execOp,qB]
     exact Ux (fun c hc=>by cases hc) wB (hn _ _ _ R')
    ·simp at h
   ·simp at h
  ·rename_i id r' k i j had;unfold Fe at h
   split at h
   ·rename_i e he
    split at h
    ·rename_i et k' bs es qN
     split at h
     ·rename_i c0 yT;simp only[aA0]at h;subst h;simp only at hp hn;obtain⟨wV,rfl,rfl,hc,zS,vH⟩:=hp;have ha:=zK ad (by simp[Op.operands,Call.operands]);rw[had]at ha;obtain⟨w',qB,R'⟩:=R.storeRow (P:=P) (t:=t) (n:=r) he wV qN ha (zK y (by simp[Op.operands,Call.operands])) zS hc yT vH (fC y (by simp[Op.operands,Call.operands])) hr
      have wB:(execOp a.eval ⟨none,.store t ad y,type,GL,after,guard⟩).run P w= .ok .skip w':=by
       simp[execOp,qB]
      exact Ux (fun c hc=>by cases hc) wB (hn _ _ _ R')
     ·simp at h
    ·simp at h
   ·simp at h
  ·simp at h
 case makeSlice t lo co =>
  unfold Yr at h
  split at h
  ·rename_i i k bs et zs kl n kc m ht yU hz hl hc;simp only[aA0]at h;subst h;simp only at hp hn;obtain⟨h1,h2,h3,h4,h5,h6⟩:=hp;have rl:=zK lo (by simp[Op.operands,Call.operands]);have rc:=zK co (by simp[Op.operands,Call.operands]);rw[hl]at rl;rw[hc]at rc;simp only[rd]at rl rc;obtain⟨v',w',L,qB,R'⟩:=R.makeRow (P:=P) (id:=i) (n:=r) (kl:=kl) (kc:=kc) (dst:=some i) hr (fun j hj=>by simp only[aA0]at hj;subst hj;simpa[Cf]using hd) ht yU hz h1 h2 h3 h4 h5 h6
   have wB:(execOp a.eval ⟨some i,.makeSlice t lo co,type,GL,after,guard⟩).run P w= .ok (.value v') w':=by
    simp[execOp,rl.1,rc.1,qB]
   exact ES (fun c hc=>by cases hc) wB (hn _ _ _ R')
  ·simp at h
 case makeMap t rv =>
  split at h
  ·rename_i i kte ht;simp only[aA0]at h;subst h;simp only at hp hn;have:=R.newMap (id:=i) (n:=r) (dst:=some i) hr (fun j hj=>by simp only[aA0]at hj;subst hj;simpa[Cf]using hd)
   have qB:(execOp a.eval ⟨some i,.makeMap t none,type,GL,after,guard⟩).run P w= .ok (.value (.map (some w.heap.size))) (w.alloc (.map #[] 0)):=by
    simp[execOp,RowKit.run_makeMap]
   exact ES (fun c hc=>by cases hc) qB (hn _ _ _ this)
  ·simp at h
 case mapUpdate t m k x =>
  split at h
  ·rename_i id r' kt et hm ht
   split at h
   ·rename_i e he
    split at h
    ·rename_i ks vs qN;simp only[aA0]at h;subst h;simp only at hp hn;obtain⟨wV,rfl,hk,zA⟩:=hp;have ha:=zK m (by simp[Op.operands,Call.operands]);rw[hm]at ha;obtain⟨w',qB,R'⟩:=R.updMap (P:=P) (t:=t) (n:=r) he wV qN ha (zK k (by simp[Op.operands,Call.operands])) (zK x (by simp[Op.operands,Call.operands])) ht hk zA (fC k (by simp[Op.operands,Call.operands])) (fC x (by simp[Op.operands,Call.operands])) hr
     have wB:(execOp a.eval ⟨none,.mapUpdate t m k x,type,GL,after,guard⟩).run P w= .ok .skip w':=by
      simp[execOp,qB]
     exact Ux (fun c hc=>by cases hc) wB (hn _ _ _ R')
    ·simp at h
   ·simp at h
  ·simp at h
 case call c =>
  obtain⟨cal,args,ats⟩:=c;cases cal<;>simp only[reduceCtorEq]at h;rename_i b;cases b<;>simp only[reduceCtorEq]at h;obtain⟨al⟩:=args;obtain⟨tl⟩:=ats
  case append =>
   unfold MK at h
   split at h
   ·rename_i da db t t' qE vD
    split at h
    ·rename_i i k bs et ht yU
     split at h
     ·rename_i x fT
      split at h
      ·rename_i id es hdest;simp only[aA0]at h;subst h;simp only at hp hn;obtain⟨nW,hz,hk,wT,hb,hl⟩:=hp
       have hdb:db= .str x:=by
        unfold strOf at fT
        split at fT
        ·simp only[aA0]at fT;rw[fT]
        ·simp at fT
       match al,qE with
       | [xa,xb],qE =>
        simp only[List.map_cons,List.map_nil,bH0,and_true]at qE;obtain⟨pN,pZ⟩:=qE;subst vD;have ra:=zK xa (by simp[Op.operands,Call.operands]);have rb:=zK xb (by simp[Op.operands,Call.operands]);rw[pN]at ra;rw[pZ,hdb]at rb;simp only[Bh,rd]at rb;have qK:=Ua (i0:=i) (r:=r) R (by omega) hdest ra
        have hu2:P.underlying t'=some .string:=by
         unfold tStr at nW
         split at nW
         ·assumption
         ·simp at nW
        obtain⟨v',w',L,qB,R'⟩:=R.appendStr (P:=P) (ty:=type) (id:=id.getD i) (n:=r) (x:=x) (dst:=some i) hr (fun j hj=>by simp only[aA0]at hj;subst hj;simpa[Cf]using hd) ht yU hz (by omega) qK.1 qK.2 hu2 hk hb wT (by unfold maxLen;omega)
        have wB:(execOp a.eval ⟨some i,.call { callee:= .builtin .append,args:=⟨[xa,xb]⟩,argTypes:=⟨[t,t']⟩ },type,GL,after,guard⟩).run P w= .ok (.value v') w':=by
         simp only[execOp,resolve,Sem.run_bind,dO0,List.map_cons,List.map_nil,Sem.run_pure,Result.andThen_ok,invoke,builtin,rb.1,qB]
        exact ES (fun c hc=>by cases hc) wB (hn _ _ _ R')
      ·simp at h
     split at h
     ·rename_i id es k2 es2 hdest wF;simp only[aA0]at h;subst h;simp only at hp hn;obtain⟨rfl,hz,hk,yX,wT,hb,hl⟩:=hp
      match al,qE with
      | [xa,xb],qE =>
       simp only[List.map_cons,List.map_nil,bH0,and_true]at qE;obtain⟨pN,pZ⟩:=qE;subst vD;have ra:=zK xa (by simp[Op.operands,Call.operands]);have rb:=zK xb (by simp[Op.operands,Call.operands]);rw[pN]at ra;rw[pZ]at rb;have ma:=fC xa (by simp[Op.operands,Call.operands]);have mb:=fC xb (by simp[Op.operands,Call.operands]);rw[pN]at ma;rw[pZ]at mb;have qK:=Ua (i0:=i) (r:=r) R (by omega) hdest ra
       have jZ:Bp es2<=r:=by
        unfold Jz at wF
        split at wF
        ·simp only[aA0,aU0]at wF;obtain⟨_,rfl⟩:=wF;simp[Bp]
        ·simp only[aA0,aU0]at wF;obtain⟨_,rfl⟩:=wF;simp[Bp]
        ·rw[bF0]at wF;obtain⟨⟨k',b',es'⟩,h1,h2⟩:=wF;simp only[aU0]at h2;obtain⟨_,rfl⟩:=h2;have:=NA h1;omega
       obtain⟨v',w',L,qB,R'⟩:=R.append (P:=P) (ty:=type) (id:=id.getD i) (n:=r) (dst:=some i) hr (fun j hj=>by simp only[aA0]at hj;subst hj;simpa[Cf]using hd) ht yU hz hk qK.1 qK.2 rb wF yX jZ hb wT (by unfold maxLen;omega)
       have wB:(execOp a.eval ⟨some i,.call { callee:= .builtin .append,args:=⟨[xa,xb]⟩,argTypes:=⟨[t',t']⟩ },type,GL,after,guard⟩).run P w= .ok (.value v') w':=by
        simp only[execOp,resolve,Sem.run_bind,dO0,List.map_cons,List.map_nil,Sem.run_pure,Result.andThen_ok,invoke,builtin,qB]
       exact ES (fun c hc=>by cases hc) wB (hn _ _ _ R')
     ·simp at h
    ·simp at h
   ·simp at h
  case copy =>
   obtain⟨al⟩:=args;obtain⟨tl⟩:=ats;unfold Ys at h
   split at h
   ·rename_i d sd t t' qE vD;subst vD
    match al,qE with
    | [xa,xb],qE =>
     simp only[List.map_cons,List.map_nil,bH0,and_true]at qE;obtain⟨pN,pZ⟩:=qE;have ra:=zK xa (by simp[Op.operands,Call.operands]);have rb:=zK xb (by simp[Op.operands,Call.operands]);have mb:=fC xb (by simp[Op.operands,Call.operands]);rw[pN]at ra;rw[pZ]at rb mb
     split at h
     ·rename_i k k0 id r' i m et k' bs es k2 es2 ht cT wF;simp only[aA0]at h;subst h;simp only at hp;obtain⟨rfl,rfl,hk,hb,yX⟩:=hp;obtain⟨e,bs0,he,wV,qN,hdd⟩:=Xh cT;obtain⟨w',qB,R'⟩:=R.copyRow (P:=P) (ty:=type) (n:=r) (bs0:=bs0) (dst:=dst) he wV qN ra hdd hb ht hk rb wF yX (WS wF (by omega) (by omega)) hr (fun j hj=>by subst hj;simpa[Cf]using hd)
      have wB:(execOp a.eval ⟨dst,.call { callee:= .builtin .copy,args:=⟨[xa,xb]⟩,argTypes:=⟨[t',t']⟩ },type,GL,after,guard⟩).run P w= .ok (.value (goInt (min es2.length m:Nat))) w':=by
       simp only[execOp,resolve,Sem.run_bind,dO0,List.map_cons,List.map_nil,Sem.run_pure,Result.andThen_ok,invoke,builtin,qB]
      exact ES (fun c hc=>by cases hc) wB (hn _ _ _ R')
     ·simp at h
   ·simp at h
  case clear =>
   obtain⟨al⟩:=args;obtain⟨tl⟩:=ats
   have main:∀{w':World} {own':List Ent} {loc':Nat->Loc} {xa:Operand} {t:TypeId},al=[xa]->tl=[t]->(Builtin.clear_ #[t] type #[a.eval xa]).run P w= .ok (.tuple #[]) w'->Rel B ⟨Bz s.slots dst (.tup []),own'⟩ (a.put dst (.tuple #[])) w' loc'->x.d= .tup []->x.own=own' ->
     (Oper.mk dst (.call { callee:= .builtin .clear,args:=⟨al⟩,argTypes:=⟨tl⟩ }) type GL after guard).wpIn (wd B.ro) 0 P a w next Q:=by
    intro w' own' loc' xa t cG jY qB R' hxd hxo;subst cG;subst jY;rw[hxd,hxo]at hn
    have wB:(execOp a.eval ⟨dst,.call { callee:= .builtin .clear,args:=⟨[xa]⟩,argTypes:=⟨[t]⟩ },type,GL,after,guard⟩).run P w= .ok (.value (.tuple #[])) w':=by
     simp only[execOp,resolve,Sem.run_bind,dO0,List.map_cons,List.map_nil,Sem.run_pure,Result.andThen_ok,invoke,builtin,qB]
    exact ES (fun c hc=>by cases hc) wB (hn _ _ _ R')
   unfold Rz at h
   split at h
   ·rename_i d t qE vD;subst vD
    match al,qE with
    | [xa],qE =>
     simp only[List.map_cons,List.map_nil,bH0,and_true]at qE;have ra:=zK xa (by simp[Op.operands,Call.operands]);rw[qE]at ra
     split at h
     ·rename_i k bs0 zs ht hz
      split at h
      ·rename_i id r' 
       split at h
       ·rename_i e he
        split at h
        ·rename_i et k' bs es qN;simp only[aA0]at h;subst h;simp only at hp;obtain⟨wV,rfl,h1,h2,h3⟩:=hp;obtain⟨w',qB,R'⟩:=R.clearRow (P:=P) (t:=t) (ty:=type) (n:=r) (k0:=bs0) (bs0:=0) (e':=0) (dst:=dst) he wV qN ra (.inl ⟨rfl,rfl,rfl⟩) (by simp) ht hz h1 h2 h3 hr (fun j hj=>by subst hj;simpa[Cf]using hd);exact main rfl rfl qB R' rfl rfl
        ·simp at h
       ·simp at h
      ·rename_i id r' k0 bs1 i m _
       split at h
       ·rename_i e he
        split at h
        ·rename_i et k' bs es qN;simp only[aA0]at h;subst h;simp only at hp;obtain⟨wV,rfl,rfl,h1,h2,h3,h4⟩:=hp;obtain⟨w',qB,R'⟩:=R.clearRow (P:=P) (t:=t) (ty:=type) (n:=r) (k0:=bs0) (bs0:=bs1) (e':=0) (dst:=dst) he wV qN ra (.inr rfl) h4 ht hz h1 h2 h3 hr (fun j hj=>by subst hj;simpa[Cf]using hd);exact main rfl rfl qB R' rfl rfl
        ·simp at h
       ·simp at h
      ·simp at h
     ·simp at h
   ·simp at h
  case delete =>
   obtain⟨al⟩:=args;obtain⟨tl⟩:=ats;unfold MJ at h
   split at h
   ·rename_i dm dk t t2 qE vD;have jY:tl=[t,t2]:=vD;subst jY
    match al,qE with
    | [xa,xb],qE =>
     simp only[List.map_cons,List.map_nil,bH0,and_true]at qE;obtain⟨pN,pZ⟩:=qE;have ra:=zK xa (by simp[Op.operands,Call.operands]);have rb:=zK xb (by simp[Op.operands,Call.operands]);rw[pN]at ra;rw[pZ]at rb
     split at h
     ·rename_i id r' kt et ht
      split at h
      ·rename_i e he
       split at h
       ·rename_i ks vs qN;simp only[aA0]at h;subst h;simp only at hp hn;obtain⟨wV,hk,zA⟩:=hp;obtain⟨w',qB,R'⟩:=R.delMap (P:=P) (t:=t) (t2:=t2) (ty:=type) (n:=r) (dst:=dst) he wV qN ra rb ht hk zA hr (fun j hj=>by subst hj;simpa[Cf]using hd)
        have wB:(execOp a.eval ⟨dst,.call { callee:= .builtin .delete,args:=⟨[xa,xb]⟩,argTypes:=⟨[t,t2]⟩ },type,GL,after,guard⟩).run P w= .ok (.value (.tuple #[])) w':=by
         simp only[execOp,resolve,Sem.run_bind,dO0,List.map_cons,List.map_nil,Sem.run_pure,Result.andThen_ok,invoke,builtin,qB]
        exact ES (fun c hc=>by cases hc) wB (hn _ _ _ R')
       ·simp at h
      ·simp at h
     ·simp at h
   ·simp at h
def yH (l:Nat):Abs where
 J:=fun _ bl hd _=>bl=[]/\hd= .func (.yield l) #[] #[]
 weak:=fun _ _ _ _ _ _ _ _ _ h=>h
 one:=by rintro _ _ _ _ ⟨_,rfl⟩;exact⟨rfl,rfl⟩
 nd:=by rintro _ _ _ _ ⟨rfl,_⟩ b hb;cases hb
def YAt (P:Program) (l:Nat) (A:Abs) (args:List DVal) (b:Bool) (A':Abs):Prop :=
 ∀(M bl:List Nat) (hd:Value) (w:World) (vs:Array Value),bl.Nodup->(∀q∈bl,q∈M)->(∀q∈M,q<w.heap.size)->A.J M bl hd w.heap->Az (fun _ _=>none) M w.heap args vs.toList ->
  Ki P (.yield l) vs w fun v w'=>v= .bool b/\∃bl',Upd bl w w'/\bl'.Nodup/\(∀q∈bl',q<w'.heap.size/\(q∈bl\/w.heap.size<=q)) /\
   ∀M',(∀q∈M',q∈bl'\/(q∈M/\q∉bl))->A'.J M' bl' hd w'.heap
def Va (ed:Operand->DVal) (c:Call):Option (Nat×Nat×List DVal):=match c.callee with
 | .value f=>match ed f with | .pk id r=>some (id,r,c.args.toList.map ed) | _=>none
 | _=>none
def Pj (P:Program) (o:Oper) (ed:Operand->DVal) (own:List Ent) (r:Nat) (d:DVal) (own':List Ent):Prop :=
 (∃x,Jl P o ed own r=some x/\x.pre/\d=x.d/\own'=x.own)\/(∃c g args,o.op= .call c/\callee ed c=some (g,args)/\Wm P (.func g) args own r d own') \/
  (∃c id r' args e0 l e A A' b,o.op= .call c/\Va ed c=some (id,r',args)/\An own id=some e0/\e0.r=r'/\e0.obj= .abs (yH l)/\An own (id+1)=some e/\e.obj= .abs A/\AL args=0/\YAt P l A args b A'/\d= .bool b/\own'=upE own (id+1) r (.abs A'))
def FF_ (P:Program) (o:Oper) (ed:Operand->DVal) (own:List Ent) (K:ContE):Prop:=∀r,match Jl P o ed own r with | some x=>x.pre/\K.f x.d x.own | none=>False
def Bt (P:Program) (g:FuncId) (args:List DVal) (own:List Ent) (K:ContE):Prop:=∀r,∃d own',Wm P (.func g) args own r d own'/\K.f d own'
def DZ_ (P:Program) (id r':Nat) (args:List DVal) (own:List Ent) (K:ContE):Prop:=∃e0 l e A A' b,An own id=some e0/\e0.r=r'/\e0.obj= .abs (yH l)/\An own (id+1)=some e/\e.obj= .abs A/\AL args=0/\YAt P l A args b A'/\∀r,K.f (.bool b) (upE own (id+1) r (.abs A'))
def Bg_ (P:Program) (o:Oper) (ed:Operand->DVal) (own:List Ent) (K:ContE):Prop:=match o.op with
 | .call c=>match callee ed c with
  | some (g,args)=>Bt P g args own K
  | none=>match Va ed c with
   | some (id,r',args)=>DZ_ P id r' args own K
   | none=>FF_ P o ed own K
 | _=>FF_ P o ed own K
theorem Yp {P:Program} {o:Oper} {ed:Operand->DVal} {own:List Ent} {K:ContE} (h:FF_ P o ed own K) (r:Nat):∃d own',Pj P o ed own r d own'/\K.f d own':=by
 have h1:=h r
 split at h1
 ·rename_i x hx;exact⟨x.d,x.own,.inl ⟨x,hx,h1.1,rfl,rfl⟩,h1.2⟩
 ·exact h1.elim
theorem Kb {P:Program} {o:Oper} {ed:Operand->DVal} {own:List Ent} {K:ContE} (h:Bg_ P o ed own K) (r:Nat):∃d own',Pj P o ed own r d own'/\K.f d own':=by
 unfold Bg_ at h
 split at h
 ·rename_i c wE
  split at h
  ·rename_i g args hc;obtain⟨d,own',h1,h2⟩:=h r;exact⟨d,own',.inr (.inl ⟨c,g,args,wE,hc,h1⟩),h2⟩
  ·split at h
   ·rename_i id r' args hp;obtain⟨e0,l,e,A,A',b,h1,h2,h3,h4,h5,h6,h7,h8⟩:=h;exact⟨_,_,.inr (.inr ⟨c,id,r',args,e0,l,e,A,A',b,wE,hp,h1,h2,h3,h4,h5,h6,h7,rfl,rfl⟩),h8 r⟩
   ·exact Yp h r
 ·exact Yp h r
theorem EO_ {o:Oper} {c:Call} {g:FuncId} {args:List DVal} {r:Nat} {d:DVal} {own':List Ent} {ed:Operand->DVal} {next:Act->World->Prop} {Q:Exit->Act->World->Prop} (R:Rel B s a w loc) (hr:Ce B s<=r) (hd:Cf B.nt o.dst=true) (ho:o.op= .call c)
  (zK:∀x∈o.op.operands,Bh s loc B.M0 w (ed x) (a.eval x)) (hc:callee ed c=some (g,args)) (hS:Wm P (.func g) args s.own r d own')
  (hn:∀a' w' loc',Rel B ⟨Bz s.slots o.dst d,own'⟩ a' w' loc'->next a' w'):o.wpIn (wd B.ro) 0 P a w next Q:=by
 have qH:=hr;unfold Ce at qH;obtain⟨hE,_,_,hS⟩:=hS;obtain⟨vs,h1,h2⟩:=WQ (P:=P) (ρ:=a.eval) (M0:=B.M0) ho (fun x hx=>zK x (by rw[ho];exact hx)) hc hE;refine⟨fun _ _=>trivial,?_⟩;rw[Oper.semAt_eq _ _ _ (fun c' mZ=>by rw[ho]at mZ;cases mZ),h1,Oper.uponIn_enter];refine⟨fun h=>by simp[wd]at h,RY B.ro _ ?_⟩;refine((hS B.M0 w loc vs (by omega) R.st h2).2).mono ?_;rintro e w' ⟨v,rfl,loc',S',hu,wM,zQ,vV⟩;exact hn _ _ loc' (R.step (n:=r) (by omega) (by omega) (LG hd) S' hu wM zQ vV)
theorem Cp_ {P:Program} {l:Nat} {fn:FuncId} {tmps:Array Value} {assign body:Code} {w:World} {R:Ending->World->Prop} (ro:Option Nat) (h:RoundIn (wd none) 0 P l fn tmps assign body w R):RoundIn (wd ro) 0 P l fn tmps assign body w R:=h
theorem BI_ {o:Oper} {c:Call} {id r' n l:Nat} {args:List DVal} {e0 e:Ent} {A A':Abs} {b:Bool} {ed:Operand->DVal} {next:Act->World->Prop} {Q:Exit->Act->World->Prop} (R:Rel B s a w loc) (hr:Ce B s<=n) (hd:Cf B.nt o.dst=true) (ho:o.op= .call c)
  (zK:∀x∈o.op.operands,Bh s loc B.M0 w (ed x) (a.eval x)) (hc:Va ed c=some (id,r',args)) (vW:An s.own id=some e0) (wV:e0.r=r') (hob0:e0.obj= .abs (yH l)) (he:An s.own (id+1)=some e) (qN:e.obj= .abs A) (gW:AL args=0) (hY:YAt P l A args b A')
  (hn:∀a' w' loc',Rel B ⟨Bz s.slots o.dst (.bool b),upE s.own (id+1) n (.abs A')⟩ a' w' loc'->next a' w'):o.wpIn (wd B.ro) 0 P a w next Q:=by
 obtain⟨dst,op,type,GL,after,guard⟩:=o;simp only at ho;subst ho;obtain⟨cal,ars,ats⟩:=c;unfold Va at hc
 cases cal with
 | builtin _=>simp at hc
 | invoke _ _=>simp at hc
 | value f =>
  simp only at hc
  split at hc
  rotate_left
  ·simp at hc
  rename_i id0 r0 hf;simp only[aA0,aU0]at hc;obtain⟨rfl,rfl,rfl⟩:=hc;obtain⟨hmem0,jM⟩:=AS vW;obtain⟨qY,hid⟩:=AS he;have qD:Ad s.own loc id0 r0=some (loc id0):=by unfold Ad;rw[vW];simp[wV]
  have hx:=zK f (by simp[Op.operands,Call.operands]);rw[hf]at hx;simp only[Bh,rd]at hx;have hv:=hx _ qD;have zB:=R.st.ok e0 hmem0;rw[hob0,jM]at zB;have hl:(loc id0).hdr= .func (.yield l) #[] #[]:=zB.2;have hk:=R.st.ok e qY;rw[qN,hid]at hk
  have vV:Az (fun _ _=>none) (Aa s.own loc++B.M0) w.heap (ars.toList.map ed) (ars.toList.map a.eval):=by
   have key:∀l:List Operand,(∀x∈l,x∈ars.toList)->Az (cu s loc) (hm s loc B.M0) w.heap (l.map ed) (l.map a.eval):=by
    intro l
    induction l with
    | nil=>intro _;simp[Az]
    | cons x l ih =>
     intro hl;simp only[List.map_cons,Az];exact⟨_,_,rfl,zK x (by have:=hl x aI0;simp[Op.operands,Call.operands];simp at this;exact .inr this),ih fun y hy=>hl y (aG0 _ hy)⟩
   exact AY (n:=0) ⟨fun _ _ _ h=>by omega,fun b o _ (_:GM o=true) ho=>ho,fun b o hb (_:GM o=true) _=>hb⟩ _ _ (dH0 gW) (key _ (fun _ h=>h))
  have hF:=hY (Aa s.own loc++B.M0) (loc (id0+1)).blks (loc (id0+1)).hdr w (ars.map a.eval) (by have:=Dw R.st.bl e qY;rwa[hid]at this) (fun q hq=>aM0 _ (Bf qY (by rw[hid];exact hq))) R.st.lt hk (by simpa using vV);obtain⟨fn,tmps,assign,body,qB,hround⟩:=hF;refine⟨fun _ _=>trivial,?_⟩
  have hex:(execOp a.eval ⟨dst,.call { callee:= .value f,args:=ars,argTypes:=ats },type,GL,after,guard⟩).run P w= .ok (.round l fn tmps assign body) w:=by
   simp only[execOp,resolve,hv,hl,Deferred.ofValue,Sem.run_bind,Sem.run_pure,Result.andThen_ok,invoke];simpa using qB
  rw[Oper.semAt_eq _ _ _ (fun c' mZ=>by simp at mZ),hex,Oper.uponIn_round];refine⟨fun h=>by simp[wd]at h,(Cp_ B.ro hround).mono ?_⟩;rintro e1 w' ⟨v,rfl,rfl,bl',hu,hnd,jD,hJ⟩
  have hL:∀b0,b0∈(⟨bl',(loc (id0+1)).hdr⟩:Loc).blks->b0<w'.heap.size/\((∃e∈s.own,e.id=id0+1/\b0∈(loc (id0+1)).blks)\/w.heap.size<=b0):=fun b0 qR =>
   ⟨(jD b0 qR).1,(jD b0 qR).2.imp (fun h=>⟨e,qY,hid,h⟩) id⟩
  have vZ:Upd (Aa s.own loc) w w':=⟨hu.os,hu.tape,hu.output,hu.drawn,hu.size,fun q hq hn'=>hu.blk q hq (fun h=>hn' (Bf qY (by rw[hid];exact h)))⟩;refine hn _ _ _ (R.up (id:=id0+1) (r:=n) (obj:= .abs A') (L:=⟨bl',(loc (id0+1)).hdr⟩) (v:= .bool b) (d:= .bool b) (dst:=dst) hr (fun j hj=>by subst hj;simpa[Cf]using hd) vZ (fun q hq qF=>hu.blk q hq (qF e qY hid)) hL (.inl (Nat.le_refl _)) (hJ _ ?_) (by simp[rd]) hnd)
  intro q hq
  rcases aH0.1 hq with hq | hq
  ·unfold upE at hq;rw[DT,Rj]at hq
   rcases aH0.1 hq with hq | hq
   ·simp only[CQ,if_true]at hq;exact .inl hq
   ·obtain⟨e2,vM,qF,qT⟩:=PF hq;refine .inr ⟨aM0 _ (Bf vM qT),fun cA=> ?_⟩;have:=FU R.st.bl e2 vM e qY q qT (by rw[hid];exact cA);subst this;exact qF hid
  ·exact .inr ⟨aP0 _ hq,fun cA=>R.st.ap q (Bf qY (by rw[hid];exact cA)) hq⟩
theorem Yn {o:Oper} {r:Nat} {d:DVal} {own':List Ent} {ed:Operand->DVal} {next:Act->World->Prop} {Q:Exit->Act->World->Prop} (R:Rel B s a w loc) (hr:Ce B s<=r) (hd:Cf B.nt o.dst=true) (zK:∀x∈o.op.operands,Bh s loc B.M0 w (ed x) (a.eval x)) (fC:∀x∈o.op.operands,mx (ed x)<=Ku s.slots) (h:Pj P o ed s.own r d own')
  (hn:∀a' w' loc',Rel B ⟨Bz s.slots o.dst d,own'⟩ a' w' loc'->next a' w'):o.wpIn (wd B.ro) 0 P a w next Q:=by
 rcases h with ⟨x,hx,hp,rfl,rfl⟩ | ⟨c,g,args,wE,hc,hS⟩ | ⟨c,id,r',args,e0,l,e,A,A',b,wE,hc,vW,wV,hob0,he,qN,gW,hY,rfl,rfl⟩
 ·exact IZ_ R hr hd zK fC hx hp hn
 ·exact EO_ R hr hd wE zK hc hS hn
 ·exact BI_ R hr hd wE zK hc vW wV hob0 he qN gW hY hn
end
end Go.Dm
end
