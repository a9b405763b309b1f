/- Parts of a proof, laid together: EnJ. -/
import Derived.Carry
import Derived.Test.YtiojapdolljocaaGreatqBo7
import Derived.Test.YtiojapdolljocaaGreatqBo9
import Derived.Test.YtiojapdolljocaaGreatqBo10
set_option linter.unusedSimpArgs false
set_option maxHeartbeats 8000000
set_option linter.unusedVariables false
set_option linter.unusedSectionVars false
section
namespace Go.Dm
variable [DMode]
def GA (own:List Ent) (et k bs:Nat):DVal->Option (Option Nat×List (List DVal))
 | .nilsl=>some (none,[])
 | .osl id r=>match Aj own id with
  | some e=>if e.r=r then (match e.obj with | .row et' k' bs' es=>if et'=et/\k'=k/\bs'=bs then some (some id,es)else none | _=>none)else none
  | none=>none
 | _=>none
structure ERes where
 pre:Prop
 d:DVal
 own:List Ent
section
variable (P : Program) (nt : Nat) (ow : List Nat)
def Bk (o:Oper):Bool:=match o.op with
 | .box _ _=>match o.dst with | some i=>ow.contains i | none=>false
 | .buildSlice _ _ _=>match o.dst with | some i=>ow.contains i | none=>false
 | .alloc _=>true
 | .store _ _ _=>true
 | .makeMap _ _=>true
 | .mapUpdate _ _ _ _=>true
 | .makeSlice _ _ _=>true
 | .call c=>match c.callee with | .builtin .append=>(match o.dst with | some i=> !ow.contains (i+1000000) | none=>true) | .builtin .clear=>true | .builtin .copy=>true | .builtin .delete=>true | .value _=>(match o.dst with | some i=>ow.contains i | none=>false) | _=>false
 | _=>false
def strOf : DVal->Option ByteArray
 | .str x=>some x
 | _=>none
def LB (own:List Ent) (dst:Option Nat) (r:Nat):List DVal->List TypeId->Option ERes
 | [a,b],[t,t']=>match dst,tElem P t,tElemId P t with
  | some i,some (k,bs),some et=>match strOf b with
   | some x=>match GA own et k bs a with
    | some (id,es)=>some ⟨tStr P t'=true/\zeroOK P t=true/\k=1/\bs<=65536/\(es.length+x.size)*bs<=150000000000000/\es.length+x.size<=9223372036854775807,
     .osl (id.getD i) r,upE own (id.getD i) r (.row et k bs (es++AP x))⟩
    | none=>none
   | none=>match GA own et k bs a,Iy own b with
    | some (id,es),some (k2,es2)=>some ⟨t'=t/\zeroOK P t=true/\0<k/\(k2=k\/es2=[])/\bs<=65536/\(es.length+es2.length)*bs<=150000000000000/\es.length+es2.length<=9223372036854775807,
     .osl (id.getD i) r,upE own (id.getD i) r (.row et k bs (es++es2))⟩
    | _,_=>none
  | _,_,_=>none
 | _,_=>none
def ED (own:List Ent) (dst:Option Nat) (t:TypeId) (d:DVal) (id r' k i j:Nat):Option ERes:=match Aj own id with
 | some e=>match e.obj with
  | .row et k' bs es=>match es[i]? with
   | some c0=>some ⟨e.r=r'/\k'=k/\dst=none/\tCells P t=some (AD d).length/\Cq own d=true/\j+(AD d).length<=k,.any,upE own id r' (.row et k' bs (es.set i (Dg c0 j (AD d))))⟩
   | none=>none
  | _=>none
 | none=>none
def WT (own:List Ent) (dst:Option Nat) (r:Nat) (t:TypeId) (l c:DVal):Option ERes:=match dst,tElem P t,tElemId P t,tZeroE P t,l,c with
 | some i,some (k,bs),some et,some zs,.int _ n,.int _ m=>some ⟨zs.all (EO [])=true/\zs.length=k/\0<=n/\n<=m/\m*bs<=150000000000000/\m<=9223372036854775807,.osl i r,upE own i r (.row et k bs (List.replicate n.toNat zs))⟩
 | _,_,_,_,_,_=>none
def Qj (own:List Ent):List DVal->List TypeId->Option ERes
 | [d],[t]=>match tElem P t,tZeroE P t with
  | some (k,_),some zs=>match d with
   | .osl id r=>match Aj own id with
    | some e=>match e.obj with
     | .row et k' bs es=>some ⟨e.r=r/\k'=k/\zs.all (EO [])=true/\zs.length=k/\0<k,.tup [],upE own id r (.row et k' bs (DO es 0 es.length zs))⟩
     | _=>none
    | none=>none
   | .vw id r k0 _ i m=>match Aj own id with
    | some e=>match e.obj with
     | .row et k' bs es=>some ⟨e.r=r/\k'=k/\k0=k/\zs.all (EO [])=true/\zs.length=k/\0<k/\i+m<=es.length,.tup [],upE own id r (.row et k' bs (DO es i m zs))⟩
     | _=>none
    | none=>none
   | _=>none
  | _,_=>none
 | _,_=>none
def LA (own:List Ent):List DVal->List TypeId->Option ERes
 | [m,k],[t,_]=>match m,tMap P t with
  | .omp id r',some (kt,_)=>match Aj own id with
   | some e=>match e.obj with
    | .map ks vs=>some ⟨e.r=r'/\Cf P kt k=true/\ks.all (Cf P kt)=true,.tup [],upE own id r' (.map (Ql ks k) (Qk ks vs k))⟩
    | _=>none
   | none=>none
  | _,_=>none
 | _,_=>none
def eE (own:List Ent):DVal->Option (Nat×Nat×Nat×Nat×TypeId×Nat×Nat×List (List DVal))
 | .osl id r=>match Aj own id with
  | some e=>if e.r=r then (match e.obj with | .row et k bs es=>some (id,r,0,es.length,et,k,bs,es) | _=>none)else none
  | none=>none
 | .vw id r k0 _ i m=>match Aj own id with
  | some e=>if e.r=r then (match e.obj with | .row et k bs es=>if k0=k then some (id,r,i,m,et,k,bs,es)else none | _=>none)else none
  | none=>none
 | _=>none
def WU (own:List Ent):List DVal->List TypeId->Option ERes
 | [d,s],[t,t']=>match tElem P t,eE own d,Iy own s with
  | some (k,_),some (id,r',i,m,et,k',bs,es),some (k2,es2)=>some ⟨t'=t/\k'=k/\0<k/\i+m<=es.length/\(k2=k\/es2=[]),.int .i64 (min es2.length m:Nat),upE own id r' (.row et k' bs (Ia es i m es2))⟩
  | _,_,_=>none
 | _,_=>none
def Ii (o:Oper) (ed:Operand->DVal) (own:List Ent) (r:Nat):Option ERes :=
 match o.op with
 | .box _ x=>match o.dst with
  | some i=>some ⟨Cq own (ed x)=true,.bx i r 0,upE own i r (.box (AD (ed x)))⟩
  | none=>none
 | .buildSlice t len parts=>match o.dst,tElem P t,tElemId P t with
  | some i,some (k,bs),some et=>some ⟨Fa P own (ed) (.buildSlice t len parts),.osl i r,upE own i r (.row et k bs (parts.toList.map fun p=>AD (ed p.2)))⟩
  | _,_,_=>none
 | .alloc t=>match o.dst,tZero P t with
  | some i,some z=>some ⟨z.all (EO [])=true,.bx i r 0,upE own i r (.box z)⟩
  | _,_=>none
 | .store t a x=>match ed a with
  | .bx id r' off=>match Aj own id with
   | some e=>match e.obj with
    | .box cs=>some ⟨e.r=r'/\o.dst=none/\tCells P t=some (AD (ed x)).length/\Cq own (ed x)=true/\off+(AD (ed x)).length<=cs.length,.any,upE own id r' (.box (Dg cs off (AD (ed x))))⟩
    | _=>none
   | none=>none
  | .rx id r' k i j=>ED P own o.dst t (ed x) id r' k i j
  | _=>none
 | .makeSlice t l c=>WT P own o.dst r t (ed l) (ed c)
 | .makeMap t rv=>match rv,o.dst,tMap P t with
  | none,some i,some _=>some ⟨True,.omp i r,upE own i r (.map [] [])⟩
  | _,_,_=>none
 | .mapUpdate t m k x=>match ed m,tMap P t with
  | .omp id r',some (kt,_)=>match Aj own id with
   | some e=>match e.obj with
    | .map ks vs=>some ⟨e.r=r'/\o.dst=none/\Cf P kt (ed k)=true/\ks.all (Cf P kt)=true,.any,upE own id r' (.map (QW ks (ed k)) (QV ks vs (ed k) (ed x)))⟩
    | _=>none
   | none=>none
  | _,_=>none
 | .call c=>match c.callee with
  | .builtin .append=>LB P own o.dst r (c.args.toList.map (ed)) c.argTypes.toList
  | .builtin .clear=>Qj P own (c.args.toList.map (ed)) c.argTypes.toList
  | .builtin .copy=>WU P own (c.args.toList.map (ed)) c.argTypes.toList
  | .builtin .delete=>LA P own (c.args.toList.map (ed)) c.argTypes.toList
  | _=>none
 | _=>none
end
section
variable {P : Program} {B : Base} {s : DS} {a : Act} {w : World} {loc : Nat -> Loc} {ow : List Nat}
theorem Pi {own:List Ent} {d:DVal} (h:EO [] d=true):EO own d=true:=by
 cases d<;>simp_all [EO,DB,Aj,Ba]
theorem Es {ro:Option Nat} {o:Oper} {v:Value} {w':World} {next:Act->World->Prop} {Q:Exit->Act->World->Prop} (hd:∀c,o.op≠ .defer c) (h:(execOp a.eval o).run P w= .ok (.value v) w') (hn:next (a.put o.dst v) w'):o.wpIn (wd ro) 0 P a w next Q:=by
 refine⟨fun _ _=>trivial,?_⟩;rw[Oper.semAt_eq _ _ _ hd,h,Oper.uponIn_value];exact hn
theorem Tc {ro:Option Nat} {o:Oper} {w':World} {next:Act->World->Prop} {Q:Exit->Act->World->Prop} (hd:∀c,o.op≠ .defer c) (h:(execOp a.eval o).run P w= .ok .skip w') (hn:next (a.put o.dst Go.undef) w'):o.wpIn (wd ro) 0 P a w next Q:=by
 refine⟨fun _ _=>trivial,?_⟩;rw[Oper.semAt_eq _ _ _ hd,h,Oper.uponIn_skip];exact hn
theorem SH {id:Option Nat} {i0 r et k bs:Nat} {es:List (List DVal)} {d:DVal} {v:Value} (R:Rel B s a w loc) (qB:FZ s.own<=r) (hdest:GA s.own et k bs d=some (id,es)) (ra:Bb s loc B.M0 w d v) :
  oE s loc w B.M0 (id.getD i0) et k bs es v/\Bo es<=r:=by
 unfold GA at hdest
 split at hdest
 ·simp only[aA0,aS0]at hdest;obtain⟨rfl,rfl⟩:=hdest;simp only[Bb,rd]at ra;exact⟨.inl ⟨rfl,ra⟩,by simp[Bo]⟩
 ·rename_i id' r'
  split at hdest
  ·rename_i e0 vG
   split at hdest
   ·rename_i qS
    split at hdest
    ·rename_i et' k' bs' es' qO
     split at hdest
     ·rename_i heq;obtain⟨rfl,rfl,rfl⟩:=heq;simp only[aA0,aS0]at hdest;obtain⟨rfl,rfl⟩:=hdest;refine⟨pK R.st vG qS qO ra,?_⟩;have:=(Bi (AN vG).1).2;rw[qO]at this;simp only[Ez]at this;omega
     ·simp at hdest
    ·simp at hdest
   ·simp at hdest
  ·simp at hdest
 ·simp at hdest
theorem sZ {own:List Ent} {id:Option Nat} {r et k bs:Nat} {es:List (List DVal)} {d:DVal} (hdest:GA own et k bs d=some (id,es)) (qB:FZ own<=r):Bo es<=r:=by
 unfold GA at hdest
 split at hdest
 ·simp only[aA0,aS0]at hdest;obtain⟨_,rfl⟩:=hdest;simp[Bo]
 ·split at hdest
  ·rename_i e0 vG
   split at hdest
   ·split at hdest
    ·rename_i qO
     split at hdest
     ·simp only[aA0,aS0]at hdest;obtain⟨_,rfl⟩:=hdest;have:=(Bi (AN vG).1).2;rw[qO]at this;simp only[Ez]at this;omega
     ·simp at hdest
    ·simp at hdest
   ·simp at hdest
  ·simp at hdest
 ·simp at hdest
theorem VI {own:List Ent} {d:DVal} {id r i m:Nat} {et:TypeId} {k bs:Nat} {es:List (List DVal)} (h:eE own d=some (id,r,i,m,et,k,bs,es)) :
  ∃e bs0,Aj own id=some e/\e.r=r/\e.obj= .row et k bs es/\(d= .osl id r/\i=0/\m=es.length\/d= .vw id r k bs0 i m):=by
 unfold eE at h
 split at h
 ·split at h
  ·rename_i e he
   split at h
   ·rename_i qS
    split at h
    ·rename_i qO;simp only[aA0,aS0]at h;obtain⟨rfl,rfl,rfl,rfl,rfl,rfl,rfl,rfl⟩:=h;exact⟨e,0,he,qS,qO,.inl ⟨rfl,rfl,rfl⟩⟩
    ·simp at h
   ·simp at h
  ·simp at h
 ·rename_i bs0 _ _
  split at h
  ·rename_i e he
   split at h
   ·rename_i qS
    split at h
    ·rename_i qO
     split at h
     ·rename_i hk;simp only[aA0,aS0]at h;obtain⟨rfl,rfl,rfl,rfl,rfl,rfl,rfl,rfl⟩:=h;exact⟨e,bs0,he,qS,qO,.inr (by rw[hk])⟩
     ·simp at h
    ·simp at h
   ·simp at h
  ·simp at h
 ·simp at h
theorem Vr {own:List Ent} {s:DVal} {k2:Nat} {es2:List (List DVal)} {n:Nat} (h:Iy own s=some (k2,es2)) (h1:FZ own<=n) (h2:mx s<=n):Bo es2<=n:=by
 unfold Iy at h
 split at h
 ·simp only[aA0,aS0]at h;obtain⟨_,rfl⟩:=h;simp[Bo]
 ·simp only[aA0,aS0]at h;obtain⟨_,rfl⟩:=h;simp[Bo]
 ·rw[bA0]at h;obtain⟨⟨k',b',es'⟩,h3,h4⟩:=h;simp only[aS0]at h4;obtain⟨_,rfl⟩:=h4;have:=Mp h3;omega
theorem Gv_ {o:Oper} {r:Nat} {x:ERes} {ed:Operand->DVal} {next:Act->World->Prop} {Q:Exit->Act->World->Prop} (R:Rel B s a w loc) (hr:BU B s<=r) (hd:BV B.nt o.dst=true) (zW:∀x∈o.op.operands,Bb s loc B.M0 w (ed x) (a.eval x)) (jH:∀x∈o.op.operands,mx (ed x)<=Jp s.slots) (h:Ii P o ed s.own r=some x) (hp:x.pre)
  (hn:∀a' w' loc',Rel B ⟨Bs s.slots o.dst x.d,x.own⟩ a' w' loc'->next a' w'):o.wpIn (wd B.ro) 0 P a w next Q:=by
 have qB:=hr;unfold BU at qB;obtain⟨dst,op,type,FX,after,guard⟩:=o;simp only at hd hn |-;unfold Ii at h;simp only at h;cases op<;>simp only[reduceCtorEq]at h
 case box t y =>
  cases dst with
  | none=>simp at h
  | some i =>
   simp only[aA0]at h;subst h;simp only at hp hn;obtain⟨h1,h2⟩:=Hj R.st hp (zW y (by simp[Op.operands,Call.operands]));have:=R.newBox (id:=i) (n:=r) (cs:=AD (ed y)) (us:=(a.eval y).cells.toList) (ty:=t) (dst:=some i) hr (by rw[Cy];have:=jH y (by simp[Op.operands,Call.operands]);omega) (fun j hj=>by simp only[aA0]at hj;subst hj;simpa[BV]using hd) h1 h2
   have qM:(execOp a.eval ⟨some i,.box t y,type,FX,after,guard⟩).run P w= .ok (.value (.pointer (some ⟨w.heap.size,0,none⟩))) (w.alloc (.cells (a.eval y).cells.toList.toArray t)):=by
    simp[execOp,Instr.box,newVar,newRow]
   exact Es (fun c hc=>by cases hc) qM (hn _ _ _ this)
 case buildSlice t len parts =>
  split at h
  ·rename_i i k bs et ht zC;simp only[aA0]at h;subst h;simp only at hp hn;simp only[Fa,ht]at hp;obtain⟨h1,h2,h3,h4,h5,h6,h7⟩:=hp;have qU:parts.toList.length=len:=by have:=congrArg List.length h1;simpa using this
   obtain⟨e,us,hu,qM,nX,wT⟩:=Ix (P:=P) (M0:=B.M0) (vs:=parts.map fun p=>(p.1,a.eval p.2)) R.st ht h5 h2 h3 h4 (ds:=parts.toList.map fun p=>ed p.2) (by rw[dS0,bY0];exact h1) (by simpa using qU) (by simpa[List.all_map,Function.comp_def]using h6) (by
    intro i d q hd hq;simp only[bM0,bA0,dS0]at hd hq;obtain⟨a',ha,rfl⟩:=hd;obtain⟨b,hb,rfl⟩:=hq;rw[ha]at hb;simp only[aA0]at hb;subst hb
    exact zW a'.2 (by simpa[Op.operands]using ⟨a'.1,by simpa using bU0 ha⟩)) h7
   have hee:e=et:=by unfold tElemId at zC;rw[hu]at zC;simpa using zC
   subst hee
   have hL:∀b0,b0∈(⟨[w.heap.size],.slice (some ⟨w.heap.size,0,none⟩) len len⟩:Loc).blks->b0<(w.alloc (.cells us.toArray e)).heap.size/\((∃e∈s.own,e.id=i/\b0∈(loc i).blks)\/w.heap.size<=b0):=by
    intro b0 qC;simp only[aE0]at qC;subst qC;exact⟨by simp,.inr (Nat.le_refl _)⟩
   have hw:=Upd.alloc (Aa s.own loc) w (.cells us.toArray e)
   have vU:Bo (parts.toList.map fun p=>AD (ed p.2))<=r:=by
    refine Oo fun cs hm=> ?_
    obtain⟨p,hp,rfl⟩:=aR0.1 hm;rw[Cy];have:=jH p.2 (by simpa[Op.operands]using ⟨p.1,by simpa using hp⟩);omega
   have W:=R.weakUp (obj:= .row e k bs (parts.toList.map fun p=>AD (ed p.2))) (r:=r) hr hw hL (.inl (Nat.le_refl _))
   have R':=R.up (id:=i) (r:=r) (obj:= .row e k bs (parts.toList.map fun p=>AD (ed p.2))) (L:=⟨[w.heap.size],.slice (some ⟨w.heap.size,0,none⟩) len len⟩) (v:= .slice (some ⟨w.heap.size,0,none⟩) len len) (d:= .osl i r) (dst:=some i) hr
    (fun j hj=>by simp only[aA0]at hj;subst hj;simpa[BV]using hd) hw (fun b hb _=>by simp only[World.alloc,bO0];rw[if_neg (by omega)]) hL (.inl (Nat.le_refl _))
    ⟨by simpa[qU]using h3,.inr ⟨w.heap.size,us.toArray,len,rfl,by simp[qU],heap_alloc_new w _,by simp[qU],by unfold maxLen;omega,by simp[nX],Cj W k _ _ 0 vU (by simpa[bY0,Function.comp_def]using wT)⟩⟩
    (by
     simp only[rd];intro l hl;rw[Dk]at hl;simp only[aA0]at hl
     rw[<-hl])
   have wA:(execOp a.eval ⟨some i,.buildSlice t len parts,type,FX,after,guard⟩).run P w= .ok (.value (.slice (some ⟨w.heap.size,0,none⟩) len len)) (w.alloc (.cells us.toArray e)):=by
    simp[execOp,qM]
   exact Es (fun c hc=>by cases hc) wA (hn _ _ _ R')
  ·simp at h
 case alloc t =>
  cases dst with
  | none=>simp at h
  | some i =>
   split at h
   ·rename_i z hi hz;simp only[aA0]at h hi;subst h;subst hi;simp only at hp hn;obtain⟨zv,zR,rfl⟩:=Fz (w:=w) hz;have vO:Au (cu s loc) (hm s loc B.M0) w.heap (zv.cells.toList.map BQ) zv.cells.toList:=Bn _
    have vU:AH (zv.cells.toList.map BQ)=0:=by
     have h1:∀v,mx (BQ v)=0:=by
      intro v;unfold BQ
      split<;>(try split)<;>simp[mx]
     generalize zv.cells.toList=l
     induction l with
     | nil=>simp[AH]
     | cons v l ih=>simp[AH,h1,ih]
    have qD:=FE R.st (zv.cells.toList.map BQ) zv.cells.toList (bB0.2 fun d hd=>Pi (bB0.1 hp d hd)) vO;have:=R.newBox (id:=i) (n:=r) (cs:=zv.cells.toList.map BQ) (us:=zv.cells.toList) (ty:=t) (dst:=some i) hr (by omega) (fun j hj=>by simp only[aA0]at hj;subst hj;simpa[BV]using hd) vO qD
    have qM:(execOp a.eval ⟨some i,.alloc t,type,FX,after,guard⟩).run P w= .ok (.value (.pointer (some ⟨w.heap.size,0,none⟩))) (w.alloc (.cells zv.cells.toList.toArray t)):=by
     simp[execOp,Instr.alloc,zR,newVar,newRow]
    exact Es (fun c hc=>by cases hc) qM (hn _ _ _ this)
   ·simp at h
 case store t ad y =>
  split at h
  ·rename_i id r' off had
   split at h
   ·rename_i e he
    split at h
    ·rename_i cs qO;simp only[aA0]at h;subst h;simp only at hp hn;obtain⟨qS,rfl,hc,yV,vL⟩:=hp;have ha:=zW ad (by simp[Op.operands,Call.operands]);rw[had]at ha;obtain⟨w',qM,R'⟩:=R.storeBox (P:=P) (t:=t) (n:=r) he qS qO ha (zW y (by simp[Op.operands,Call.operands])) yV hc vL (jH y (by simp[Op.operands,Call.operands])) hr
     have wA:(execOp a.eval ⟨none,.store t ad y,type,FX,after,guard⟩).run P w= .ok .skip w':=by
      simp[execOp,qM]
     exact Tc (fun c hc=>by cases hc) wA (hn _ _ _ R')
    ·simp at h
   ·simp at h
  ·rename_i id r' k i j had;unfold ED at h
   split at h
   ·rename_i e he
    split at h
    ·rename_i et k' bs es qO
     split at h
     ·rename_i c0 yN;simp only[aA0]at h;subst h;simp only at hp hn;obtain⟨qS,rfl,rfl,hc,yV,vL⟩:=hp;have ha:=zW ad (by simp[Op.operands,Call.operands]);rw[had]at ha;obtain⟨w',qM,R'⟩:=R.storeRow (P:=P) (t:=t) (n:=r) he qS qO ha (zW y (by simp[Op.operands,Call.operands])) yV hc yN vL (jH y (by simp[Op.operands,Call.operands])) hr
      have wA:(execOp a.eval ⟨none,.store t ad y,type,FX,after,guard⟩).run P w= .ok .skip w':=by
       simp[execOp,qM]
      exact Tc (fun c hc=>by cases hc) wA (hn _ _ _ R')
     ·simp at h
    ·simp at h
   ·simp at h
  ·simp at h
 case makeSlice t lo co =>
  unfold WT at h
  split at h
  ·rename_i i k bs et zs kl n kc m ht zC hz hl hc;simp only[aA0]at h;subst h;simp only at hp hn;obtain⟨h1,h2,h3,h4,h5,h6⟩:=hp;have rl:=zW lo (by simp[Op.operands,Call.operands]);have rc:=zW co (by simp[Op.operands,Call.operands]);rw[hl]at rl;rw[hc]at rc;simp only[rd]at rl rc;obtain⟨v',w',L,qM,R'⟩:=R.makeRow (P:=P) (id:=i) (n:=r) (kl:=kl) (kc:=kc) (dst:=some i) hr (fun j hj=>by simp only[aA0]at hj;subst hj;simpa[BV]using hd) ht zC hz h1 h2 h3 h4 h5 h6
   have wA:(execOp a.eval ⟨some i,.makeSlice t lo co,type,FX,after,guard⟩).run P w= .ok (.value v') w':=by
    simp[execOp,rl.1,rc.1,qM]
   exact Es (fun c hc=>by cases hc) wA (hn _ _ _ R')
  ·simp at h
 case makeMap t rv =>
  split at h
  ·rename_i i kte ht;simp only[aA0]at h;subst h;simp only at hp hn;have:=R.newMap (id:=i) (n:=r) (dst:=some i) hr (fun j hj=>by simp only[aA0]at hj;subst hj;simpa[BV]using hd)
   have qM:(execOp a.eval ⟨some i,.makeMap t none,type,FX,after,guard⟩).run P w= .ok (.value (.map (some w.heap.size))) (w.alloc (.map #[] 0)):=by
    simp[execOp,RowKit.run_makeMap]
   exact Es (fun c hc=>by cases hc) qM (hn _ _ _ this)
  ·simp at h
 case mapUpdate t m k x =>
  split at h
  ·rename_i id r' kt et hm ht
   split at h
   ·rename_i e he
    split at h
    ·rename_i ks vs qO;simp only[aA0]at h;subst h;simp only at hp hn;obtain⟨qS,rfl,hk,zV⟩:=hp;have ha:=zW m (by simp[Op.operands,Call.operands]);rw[hm]at ha;obtain⟨w',qM,R'⟩:=R.updMap (P:=P) (t:=t) (n:=r) he qS qO ha (zW k (by simp[Op.operands,Call.operands])) (zW x (by simp[Op.operands,Call.operands])) ht hk zV (jH k (by simp[Op.operands,Call.operands])) (jH x (by simp[Op.operands,Call.operands])) hr
     have wA:(execOp a.eval ⟨none,.mapUpdate t m k x,type,FX,after,guard⟩).run P w= .ok .skip w':=by
      simp[execOp,qM]
     exact Tc (fun c hc=>by cases hc) wA (hn _ _ _ R')
    ·simp at h
   ·simp at h
  ·simp at h
 case call c =>
  obtain⟨cal,args,ats⟩:=c;cases cal<;>simp only[reduceCtorEq]at h;rename_i b;cases b<;>simp only[reduceCtorEq]at h;obtain⟨al⟩:=args;obtain⟨tl⟩:=ats
  case append =>
   unfold LB at h
   split at h
   ·rename_i da db t t' qN zA
    split at h
    ·rename_i i k bs et ht zC
     split at h
     ·rename_i x jT
      split at h
      ·rename_i id es hdest;simp only[aA0]at h;subst h;simp only at hp hn;obtain⟨mX,hz,hk,vX,hb,hl⟩:=hp
       have hdb:db= .str x:=by
        unfold strOf at jT
        split at jT
        ·simp only[aA0]at jT;rw[jT]
        ·simp at jT
       match al,qN with
       | [xa,xb],qN =>
        simp only[List.map_cons,List.map_nil,bG0,and_true]at qN;obtain⟨nQ,mT⟩:=qN;subst zA;have ra:=zW xa (by simp[Op.operands,Call.operands]);have rb:=zW xb (by simp[Op.operands,Call.operands]);rw[nQ]at ra;rw[mT,hdb]at rb;simp only[Bb,rd]at rb;have wN:=SH (i0:=i) (r:=r) R (by omega) hdest ra
        have hu2:P.underlying t'=some .string:=by
         unfold tStr at mX
         split at mX
         ·assumption
         ·simp at mX
        obtain⟨v',w',L,qM,R'⟩:=R.appendStr (P:=P) (ty:=type) (id:=id.getD i) (n:=r) (x:=x) (dst:=some i) hr (fun j hj=>by simp only[aA0]at hj;subst hj;simpa[BV]using hd) ht zC hz (by omega) wN.1 wN.2 hu2 hk hb vX (by unfold maxLen;omega)
        have wA:(execOp a.eval ⟨some i,.call { callee:= .builtin .append,args:=⟨[xa,xb]⟩,argTypes:=⟨[t,t']⟩ },type,FX,after,guard⟩).run P w= .ok (.value v') w':=by
         simp only[execOp,resolve,Sem.run_bind,dM0,List.map_cons,List.map_nil,Sem.run_pure,Result.andThen_ok,invoke,builtin,rb.1,qM]
        exact Es (fun c hc=>by cases hc) wA (hn _ _ _ R')
      ·simp at h
     split at h
     ·rename_i id es k2 es2 hdest wG;simp only[aA0]at h;subst h;simp only at hp hn;obtain⟨rfl,hz,hk,zD,vX,hb,hl⟩:=hp
      match al,qN with
      | [xa,xb],qN =>
       simp only[List.map_cons,List.map_nil,bG0,and_true]at qN;obtain⟨nQ,mT⟩:=qN;subst zA;have ra:=zW xa (by simp[Op.operands,Call.operands]);have rb:=zW xb (by simp[Op.operands,Call.operands]);rw[nQ]at ra;rw[mT]at rb;have ma:=jH xa (by simp[Op.operands,Call.operands]);have mb:=jH xb (by simp[Op.operands,Call.operands]);rw[nQ]at ma;rw[mT]at mb;have wN:=SH (i0:=i) (r:=r) R (by omega) hdest ra
       have kN:Bo es2<=r:=by
        unfold Iy at wG
        split at wG
        ·simp only[aA0,aS0]at wG;obtain⟨_,rfl⟩:=wG;simp[Bo]
        ·simp only[aA0,aS0]at wG;obtain⟨_,rfl⟩:=wG;simp[Bo]
        ·rw[bA0]at wG;obtain⟨⟨k',b',es'⟩,h1,h2⟩:=wG;simp only[aS0]at h2;obtain⟨_,rfl⟩:=h2;have:=Mp h1;omega
       obtain⟨v',w',L,qM,R'⟩:=R.append (P:=P) (ty:=type) (id:=id.getD i) (n:=r) (dst:=some i) hr (fun j hj=>by simp only[aA0]at hj;subst hj;simpa[BV]using hd) ht zC hz hk wN.1 wN.2 rb wG zD kN hb vX (by unfold maxLen;omega)
       have wA:(execOp a.eval ⟨some i,.call { callee:= .builtin .append,args:=⟨[xa,xb]⟩,argTypes:=⟨[t',t']⟩ },type,FX,after,guard⟩).run P w= .ok (.value v') w':=by
        simp only[execOp,resolve,Sem.run_bind,dM0,List.map_cons,List.map_nil,Sem.run_pure,Result.andThen_ok,invoke,builtin,qM]
       exact Es (fun c hc=>by cases hc) wA (hn _ _ _ R')
     ·simp at h
    ·simp at h
   ·simp at h
  case copy =>
   obtain⟨al⟩:=args;obtain⟨tl⟩:=ats;unfold WU at h
   split at h
   ·rename_i d sd t t' qN zA;subst zA
    match al,qN with
    | [xa,xb],qN =>
     simp only[List.map_cons,List.map_nil,bG0,and_true]at qN;obtain⟨nQ,mT⟩:=qN;have ra:=zW xa (by simp[Op.operands,Call.operands]);have rb:=zW xb (by simp[Op.operands,Call.operands]);have mb:=jH xb (by simp[Op.operands,Call.operands]);rw[nQ]at ra;rw[mT]at rb mb
     split at h
     ·rename_i k k0 id r' i m et k' bs es k2 es2 ht bG wG;simp only[aA0]at h;subst h;simp only at hp;obtain⟨rfl,rfl,hk,hb,zD⟩:=hp;obtain⟨e,bs0,he,qS,qO,hdd⟩:=VI bG;obtain⟨w',qM,R'⟩:=R.copyRow (P:=P) (ty:=type) (n:=r) (bs0:=bs0) (dst:=dst) he qS qO ra hdd hb ht hk rb wG zD (Vr wG (by omega) (by omega)) hr (fun j hj=>by subst hj;simpa[BV]using hd)
      have wA:(execOp a.eval ⟨dst,.call { callee:= .builtin .copy,args:=⟨[xa,xb]⟩,argTypes:=⟨[t',t']⟩ },type,FX,after,guard⟩).run P w= .ok (.value (goInt (min es2.length m:Nat))) w':=by
       simp only[execOp,resolve,Sem.run_bind,dM0,List.map_cons,List.map_nil,Sem.run_pure,Result.andThen_ok,invoke,builtin,qM]
      exact Es (fun c hc=>by cases hc) wA (hn _ _ _ R')
     ·simp at h
   ·simp at h
  case clear =>
   obtain⟨al⟩:=args;obtain⟨tl⟩:=ats
   have main:∀{w':World} {own':List Ent} {loc':Nat->Loc} {xa:Operand} {t:TypeId},al=[xa]->tl=[t]->(Builtin.clear_ #[t] type #[a.eval xa]).run P w= .ok (.tuple #[]) w'->Rel B ⟨Bs s.slots dst (.tup []),own'⟩ (a.put dst (.tuple #[])) w' loc'->x.d= .tup []->x.own=own' ->
     (Oper.mk dst (.call { callee:= .builtin .clear,args:=⟨al⟩,argTypes:=⟨tl⟩ }) type FX after guard).wpIn (wd B.ro) 0 P a w next Q:=by
    intro w' own' loc' xa t dC gK qM R' hxd hxo;subst dC;subst gK;rw[hxd,hxo]at hn
    have wA:(execOp a.eval ⟨dst,.call { callee:= .builtin .clear,args:=⟨[xa]⟩,argTypes:=⟨[t]⟩ },type,FX,after,guard⟩).run P w= .ok (.value (.tuple #[])) w':=by
     simp only[execOp,resolve,Sem.run_bind,dM0,List.map_cons,List.map_nil,Sem.run_pure,Result.andThen_ok,invoke,builtin,qM]
    exact Es (fun c hc=>by cases hc) wA (hn _ _ _ R')
   unfold Qj at h
   split at h
   ·rename_i d t qN zA;subst zA
    match al,qN with
    | [xa],qN =>
     simp only[List.map_cons,List.map_nil,bG0,and_true]at qN;have ra:=zW xa (by simp[Op.operands,Call.operands]);rw[qN]at ra
     split at h
     ·rename_i k bs0 zs ht hz
      split at h
      ·rename_i id r' 
       split at h
       ·rename_i e he
        split at h
        ·rename_i et k' bs es qO;simp only[aA0]at h;subst h;simp only at hp;obtain⟨qS,rfl,h1,h2,h3⟩:=hp;obtain⟨w',qM,R'⟩:=R.clearRow (P:=P) (t:=t) (ty:=type) (n:=r) (k0:=bs0) (bs0:=0) (e':=0) (dst:=dst) he qS qO ra (.inl ⟨rfl,rfl,rfl⟩) (by simp) ht hz h1 h2 h3 hr (fun j hj=>by subst hj;simpa[BV]using hd);exact main rfl rfl qM R' rfl rfl
        ·simp at h
       ·simp at h
      ·rename_i id r' k0 bs1 i m _
       split at h
       ·rename_i e he
        split at h
        ·rename_i et k' bs es qO;simp only[aA0]at h;subst h;simp only at hp;obtain⟨qS,rfl,rfl,h1,h2,h3,h4⟩:=hp;obtain⟨w',qM,R'⟩:=R.clearRow (P:=P) (t:=t) (ty:=type) (n:=r) (k0:=bs0) (bs0:=bs1) (e':=0) (dst:=dst) he qS qO ra (.inr rfl) h4 ht hz h1 h2 h3 hr (fun j hj=>by subst hj;simpa[BV]using hd);exact main rfl rfl qM R' rfl rfl
        ·simp at h
       ·simp at h
      ·simp at h
     ·simp at h
   ·simp at h
  case delete =>
   obtain⟨al⟩:=args;obtain⟨tl⟩:=ats;unfold LA at h
   split at h
   ·rename_i dm dk t t2 qN zA;have gK:tl=[t,t2]:=zA;subst gK
    match al,qN with
    | [xa,xb],qN =>
     simp only[List.map_cons,List.map_nil,bG0,and_true]at qN;obtain⟨nQ,mT⟩:=qN;have ra:=zW xa (by simp[Op.operands,Call.operands]);have rb:=zW xb (by simp[Op.operands,Call.operands]);rw[nQ]at ra;rw[mT]at rb
     split at h
     ·rename_i id r' kt et ht
      split at h
      ·rename_i e he
       split at h
       ·rename_i ks vs qO;simp only[aA0]at h;subst h;simp only at hp hn;obtain⟨qS,hk,zV⟩:=hp;obtain⟨w',qM,R'⟩:=R.delMap (P:=P) (t:=t) (t2:=t2) (ty:=type) (n:=r) (dst:=dst) he qS qO ra rb ht hk zV hr (fun j hj=>by subst hj;simpa[BV]using hd)
        have wA:(execOp a.eval ⟨dst,.call { callee:= .builtin .delete,args:=⟨[xa,xb]⟩,argTypes:=⟨[t,t2]⟩ },type,FX,after,guard⟩).run P w= .ok (.value (.tuple #[])) w':=by
         simp only[execOp,resolve,Sem.run_bind,dM0,List.map_cons,List.map_nil,Sem.run_pure,Result.andThen_ok,invoke,builtin,qM]
        exact Es (fun c hc=>by cases hc) wA (hn _ _ _ R')
       ·simp at h
      ·simp at h
     ·simp at h
   ·simp at h
def yH (l:Nat):Abs where
 J:=fun _ bl hd _=>bl=[]/\hd= .func (.yield l) #[] #[]
 weak:=fun _ _ _ _ _ _ _ _ _ h=>h
 one:=by rintro _ _ _ _ ⟨_,rfl⟩;exact⟨rfl,rfl⟩
 nd:=by rintro _ _ _ _ ⟨rfl,_⟩ b hb;cases hb
def YAt (P:Program) (l:Nat) (A:Abs) (args:List DVal) (b:Bool) (A':Abs):Prop :=
 ∀(M bl:List Nat) (hd:Value) (w:World) (vs:Array Value),bl.Nodup->(∀q∈bl,q∈M)->(∀q∈M,q<w.heap.size)->A.J M bl hd w.heap->Au (fun _ _=>none) M w.heap args vs.toList ->
  Je P (.yield l) vs w fun v w'=>v= .bool b/\∃bl',Upd bl w w'/\bl'.Nodup/\(∀q∈bl',q<w'.heap.size/\(q∈bl\/w.heap.size<=q)) /\
   ∀M',(∀q∈M',q∈bl'\/(q∈M/\q∉bl))->A'.J M' bl' hd w'.heap
def TJ (ed:Operand->DVal) (c:Call):Option (Nat×Nat×List DVal):=match c.callee with
 | .value f=>match ed f with | .pk id r=>some (id,r,c.args.toList.map ed) | _=>none
 | _=>none
def NW (P:Program) (o:Oper) (ed:Operand->DVal) (own:List Ent) (r:Nat) (d:DVal) (own':List Ent):Prop :=
 (∃x,Ii P o ed own r=some x/\x.pre/\d=x.d/\own'=x.own)\/(∃c g args,o.op= .call c/\callee ed c=some (g,args)/\UN P (.func g) args own r d own') \/
  (∃c id r' args e0 l e A A' b,o.op= .call c/\TJ ed c=some (id,r',args)/\Aj own id=some e0/\e0.r=r'/\e0.obj= .abs (yH l)/\Aj own (id+1)=some e/\e.obj= .abs A/\AH args=0/\YAt P l A args b A'/\d= .bool b/\own'=upE own (id+1) r (.abs A'))
def Dc_ (P:Program) (o:Oper) (ed:Operand->DVal) (own:List Ent) (K:ContE):Prop:=∀r,match Ii P o ed own r with | some x=>x.pre/\K.f x.d x.own | none=>False
def Bq (P:Program) (g:FuncId) (args:List DVal) (own:List Ent) (K:ContE):Prop:=∀r,∃d own',UN P (.func g) args own r d own'/\K.f d own'
def Bl_ (P:Program) (id r':Nat) (args:List DVal) (own:List Ent) (K:ContE):Prop:=∃e0 l e A A' b,Aj own id=some e0/\e0.r=r'/\e0.obj= .abs (yH l)/\Aj own (id+1)=some e/\e.obj= .abs A/\AH args=0/\YAt P l A args b A'/\∀r,K.f (.bool b) (upE own (id+1) r (.abs A'))
def sX (P:Program) (o:Oper) (ed:Operand->DVal) (own:List Ent) (K:ContE):Prop:=match o.op with
 | .call c=>match callee ed c with
  | some (g,args)=>Bq P g args own K
  | none=>match TJ ed c with
   | some (id,r',args)=>Bl_ P id r' args own K
   | none=>Dc_ P o ed own K
 | _=>Dc_ P o ed own K
theorem WR {P:Program} {o:Oper} {ed:Operand->DVal} {own:List Ent} {K:ContE} (h:Dc_ P o ed own K) (r:Nat):∃d own',NW P o ed own r d own'/\K.f d own':=by
 have h1:=h r
 split at h1
 ·rename_i x hx;exact⟨x.d,x.own,.inl ⟨x,hx,h1.1,rfl,rfl⟩,h1.2⟩
 ·exact h1.elim
theorem IX {P:Program} {o:Oper} {ed:Operand->DVal} {own:List Ent} {K:ContE} (h:sX P o ed own K) (r:Nat):∃d own',NW P o ed own r d own'/\K.f d own':=by
 unfold sX at h
 split at h
 ·rename_i c wW
  split at h
  ·rename_i g args hc;obtain⟨d,own',h1,h2⟩:=h r;exact⟨d,own',.inr (.inl ⟨c,g,args,wW,hc,h1⟩),h2⟩
  ·split at h
   ·rename_i id r' args hp;obtain⟨e0,l,e,A,A',b,h1,h2,h3,h4,h5,h6,h7,h8⟩:=h;exact⟨_,_,.inr (.inr ⟨c,id,r',args,e0,l,e,A,A',b,wW,hp,h1,h2,h3,h4,h5,h6,h7,rfl,rfl⟩),h8 r⟩
   ·exact WR h r
 ·exact WR h r
theorem Ce_ {o:Oper} {c:Call} {g:FuncId} {args:List DVal} {r:Nat} {d:DVal} {own':List Ent} {ed:Operand->DVal} {next:Act->World->Prop} {Q:Exit->Act->World->Prop} (R:Rel B s a w loc) (hr:BU B s<=r) (hd:BV B.nt o.dst=true) (ho:o.op= .call c)
  (zW:∀x∈o.op.operands,Bb s loc B.M0 w (ed x) (a.eval x)) (hc:callee ed c=some (g,args)) (hS:UN P (.func g) args s.own r d own')
  (hn:∀a' w' loc',Rel B ⟨Bs s.slots o.dst d,own'⟩ a' w' loc'->next a' w'):o.wpIn (wd B.ro) 0 P a w next Q:=by
 have qB:=hr;unfold BU at qB;obtain⟨hE,_,_,hS⟩:=hS;obtain⟨vs,h1,h2⟩:=Vp (P:=P) (ρ:=a.eval) (M0:=B.M0) ho (fun x hx=>zW x (by rw[ho];exact hx)) hc hE;refine⟨fun _ _=>trivial,?_⟩;rw[Oper.semAt_eq _ _ _ (fun c' cF=>by rw[ho]at cF;cases cF),h1,Oper.uponIn_enter];refine⟨fun h=>by simp[wd]at h,QB B.ro _ ?_⟩;refine((hS B.M0 w loc vs (by omega) R.st h2).2).mono ?_;rintro e w' ⟨v,rfl,loc',S',hu,wZ,vC,wT⟩;exact hn _ _ loc' (R.step (n:=r) (by omega) (by omega) (KG hd) S' hu wZ vC wT)
theorem xE {P:Program} {l:Nat} {fn:FuncId} {tmps:Array Value} {assign body:Code} {w:World} {R:Ending->World->Prop} (ro:Option Nat) (h:RoundIn (wd none) 0 P l fn tmps assign body w R):RoundIn (wd ro) 0 P l fn tmps assign body w R:=h
theorem uA {o:Oper} {c:Call} {id r' n l:Nat} {args:List DVal} {e0 e:Ent} {A A':Abs} {b:Bool} {ed:Operand->DVal} {next:Act->World->Prop} {Q:Exit->Act->World->Prop} (R:Rel B s a w loc) (hr:BU B s<=n) (hd:BV B.nt o.dst=true) (ho:o.op= .call c)
  (zW:∀x∈o.op.operands,Bb s loc B.M0 w (ed x) (a.eval x)) (hc:TJ ed c=some (id,r',args)) (vG:Aj s.own id=some e0) (qS:e0.r=r') (hob0:e0.obj= .abs (yH l)) (he:Aj s.own (id+1)=some e) (qO:e.obj= .abs A) (fU:AH args=0) (hY:YAt P l A args b A')
  (hn:∀a' w' loc',Rel B ⟨Bs s.slots o.dst (.bool b),upE s.own (id+1) n (.abs A')⟩ a' w' loc'->next a' w'):o.wpIn (wd B.ro) 0 P a w next Q:=by
 obtain⟨dst,op,type,FX,after,guard⟩:=o;simp only at ho;subst ho;obtain⟨cal,ars,ats⟩:=c;unfold TJ at hc
 cases cal with
 | builtin _=>simp at hc
 | invoke _ _=>simp at hc
 | value f =>
  simp only at hc
  split at hc
  rotate_left
  ·simp at hc
  rename_i id0 r0 hf;simp only[aA0,aS0]at hc;obtain⟨rfl,rfl,rfl⟩:=hc;obtain⟨hmem0,kB⟩:=AN vG;obtain⟨qY,hid⟩:=AN he;have qL:Ad s.own loc id0 r0=some (loc id0):=by unfold Ad;rw[vG];simp[qS]
  have hx:=zW f (by simp[Op.operands,Call.operands]);rw[hf]at hx;simp only[Bb,rd]at hx;have hv:=hx _ qL;have zU:=R.st.ok e0 hmem0;rw[hob0,kB]at zU;have hl:(loc id0).hdr= .func (.yield l) #[] #[]:=zU.2;have hk:=R.st.ok e qY;rw[qO,hid]at hk
  have wT:Au (fun _ _=>none) (Aa s.own loc++B.M0) w.heap (ars.toList.map ed) (ars.toList.map a.eval):=by
   have key:∀l:List Operand,(∀x∈l,x∈ars.toList)->Au (cu s loc) (hm s loc B.M0) w.heap (l.map ed) (l.map a.eval):=by
    intro l
    induction l with
    | nil=>intro _;simp[Au]
    | cons x l ih =>
     intro hl;simp only[List.map_cons,Au];exact⟨_,_,rfl,zW x (by have:=hl x aH0;simp[Op.operands,Call.operands];simp at this;exact .inr this),ih fun y hy=>hl y (aF0 _ hy)⟩
   exact AQ (n:=0) ⟨fun _ _ _ h=>by omega,fun b o _ (_:FY o=true) ho=>ho,fun b o hb (_:FY o=true) _=>hb⟩ _ _ (dF0 fU) (key _ (fun _ h=>h))
  have hF:=hY (Aa s.own loc++B.M0) (loc (id0+1)).blks (loc (id0+1)).hdr w (ars.map a.eval) (by have:=Dl R.st.bl e qY;rwa[hid]at this) (fun q hq=>aL0 _ (AZ qY (by rw[hid];exact hq))) R.st.lt hk (by simpa using wT);obtain⟨fn,tmps,assign,body,qM,hround⟩:=hF;refine⟨fun _ _=>trivial,?_⟩
  have hex:(execOp a.eval ⟨dst,.call { callee:= .value f,args:=ars,argTypes:=ats },type,FX,after,guard⟩).run P w= .ok (.round l fn tmps assign body) w:=by
   simp only[execOp,resolve,hv,hl,Deferred.ofValue,Sem.run_bind,Sem.run_pure,Result.andThen_ok,invoke];simpa using qM
  rw[Oper.semAt_eq _ _ _ (fun c' cF=>by simp at cF),hex,Oper.uponIn_round];refine⟨fun h=>by simp[wd]at h,(xE B.ro hround).mono ?_⟩;rintro e1 w' ⟨v,rfl,rfl,bl',hu,hnd,jK,hJ⟩
  have hL:∀b0,b0∈(⟨bl',(loc (id0+1)).hdr⟩:Loc).blks->b0<w'.heap.size/\((∃e∈s.own,e.id=id0+1/\b0∈(loc (id0+1)).blks)\/w.heap.size<=b0):=fun b0 qC =>
   ⟨(jK b0 qC).1,(jK b0 qC).2.imp (fun h=>⟨e,qY,hid,h⟩) id⟩
  have zX:Upd (Aa s.own loc) w w':=⟨hu.os,hu.tape,hu.output,hu.drawn,hu.size,fun q hq hn'=>hu.blk q hq (fun h=>hn' (AZ qY (by rw[hid];exact h)))⟩;refine hn _ _ _ (R.up (id:=id0+1) (r:=n) (obj:= .abs A') (L:=⟨bl',(loc (id0+1)).hdr⟩) (v:= .bool b) (d:= .bool b) (dst:=dst) hr (fun j hj=>by subst hj;simpa[BV]using hd) zX (fun q hq qE=>hu.blk q hq (qE e qY hid)) hL (.inl (Nat.le_refl _)) (hJ _ ?_) (by simp[rd]) hnd)
  intro q hq
  rcases aI0.1 hq with hq | hq
  ·unfold upE at hq;rw[DE,PN]at hq
   rcases aI0.1 hq with hq | hq
   ·simp only[CG,if_true]at hq;exact .inl hq
   ·obtain⟨e2,vA,qE,wM⟩:=Ow hq;refine .inr ⟨aL0 _ (AZ vA wM),fun hb3=> ?_⟩;have:=Fk R.st.bl e2 vA e qY q wM (by rw[hid];exact hb3);subst this;exact qE hid
  ·exact .inr ⟨aP0 _ hq,fun hb3=>R.st.ap q (AZ qY (by rw[hid];exact hb3)) hq⟩
theorem WQ {o:Oper} {r:Nat} {d:DVal} {own':List Ent} {ed:Operand->DVal} {next:Act->World->Prop} {Q:Exit->Act->World->Prop} (R:Rel B s a w loc) (hr:BU B s<=r) (hd:BV B.nt o.dst=true) (zW:∀x∈o.op.operands,Bb s loc B.M0 w (ed x) (a.eval x)) (jH:∀x∈o.op.operands,mx (ed x)<=Jp s.slots) (h:NW P o ed s.own r d own')
  (hn:∀a' w' loc',Rel B ⟨Bs s.slots o.dst d,own'⟩ a' w' loc'->next a' w'):o.wpIn (wd B.ro) 0 P a w next Q:=by
 rcases h with ⟨x,hx,hp,rfl,rfl⟩ | ⟨c,g,args,wW,hc,hS⟩ | ⟨c,id,r',args,e0,l,e,A,A',b,wW,hc,vG,qS,hob0,he,qO,fU,hY,rfl,rfl⟩
 ·exact Gv_ R hr hd zW jH hx hp hn
 ·exact Ce_ R hr hd wW zW hc hS hn
 ·exact uA R hr hd wW zW hc vG qS hob0 he qO fU hY hn
end
end Go.Dm
end
