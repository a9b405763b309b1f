/- Parts of a proof, laid together: EnJ. -/
import Derived.Carry
import Derived.Test.YtiojapdolljocaaGreatqBw7
import Derived.Test.YtiojapdolljocaaGreatqBw9
import Derived.Test.YtiojapdolljocaaGreatqBw10
set_option linter.unusedSimpArgs false
set_option maxHeartbeats 8000000
set_option linter.unusedVariables false
set_option linter.unusedSectionVars false
section
namespace Go.Dm
variable [DMode]
def GJ (own:List Ent) (et k bs:Nat):DVal->Option (Option Nat×List (List DVal))
 | .nilsl=>some (none,[])
 | .osl id r=>match Aj own id with
  | some e=>if e.r=r then (match e.obj with | .row et' k' bs' es=>if et'=et/\k'=k/\bs'=bs then some (some id,es)else none | _=>none)else none
  | none=>none
 | _=>none
structure ERes where
 pre:Prop
 d:DVal
 own:List Ent
section
variable (P : Program) (nt : Nat) (ow : List Nat)
def Bm (o:Oper):Bool:=match o.op with
 | .box _ _=>match o.dst with | some i=>ow.contains i | none=>false
 | .buildSlice _ _ _=>match o.dst with | some i=>ow.contains i | none=>false
 | .alloc _=>true
 | .store _ _ _=>true
 | .makeMap _ _=>true
 | .mapUpdate _ _ _ _=>true
 | .makeSlice _ _ _=>true
 | .call c=>match c.callee with | .builtin .append=>(match o.dst with | some i=> !ow.contains (i+1000000) | none=>true) | .builtin .clear=>true | .builtin .copy=>true | .builtin .delete=>true | .value _=>(match o.dst with | some i=>ow.contains i | none=>false) | _=>false
 | _=>false
def strOf : DVal->Option ByteArray
 | .str x=>some x
 | _=>none
def LZ (own:List Ent) (dst:Option Nat) (r:Nat):List DVal->List TypeId->Option ERes
 | [a,b],[t,t']=>match dst,tElem P t,tElemId P t with
  | some i,some (k,bs),some et=>match strOf b with
   | some x=>match GJ own et k bs a with
    | some (id,es)=>some ⟨tStr P t'=true/\zeroOK P t=true/\k=1/\bs<=65536/\(es.length+x.size)*bs<=150000000000000/\es.length+x.size<=9223372036854775807,
     .osl (id.getD i) r,upE own (id.getD i) r (.row et k bs (es++AP x))⟩
    | none=>none
   | none=>match GJ own et k bs a,IJ own b with
    | some (id,es),some (k2,es2)=>some ⟨t'=t/\zeroOK P t=true/\0<k/\(k2=k\/es2=[])/\bs<=65536/\(es.length+es2.length)*bs<=150000000000000/\es.length+es2.length<=9223372036854775807,
     .osl (id.getD i) r,upE own (id.getD i) r (.row et k bs (es++es2))⟩
    | _,_=>none
  | _,_,_=>none
 | _,_=>none
def ER (own:List Ent) (dst:Option Nat) (t:TypeId) (d:DVal) (id r' k i j:Nat):Option ERes:=match Aj own id with
 | some e=>match e.obj with
  | .row et k' bs es=>match es[i]? with
   | some c0=>some ⟨e.r=r'/\k'=k/\dst=none/\tCells P t=some (AB d).length/\Cs own d=true/\j+(AB d).length<=k,.any,upE own id r' (.row et k' bs (es.set i (Dl c0 j (AB d))))⟩
   | none=>none
  | _=>none
 | none=>none
def XE (own:List Ent) (dst:Option Nat) (r:Nat) (t:TypeId) (l c:DVal):Option ERes:=match dst,tElem P t,tElemId P t,tZeroE P t,l,c with
 | some i,some (k,bs),some et,some zs,.int _ n,.int _ m=>some ⟨zs.all (Fe [])=true/\zs.length=k/\0<=n/\n<=m/\m*bs<=150000000000000/\m<=9223372036854775807,.osl i r,upE own i r (.row et k bs (List.replicate n.toNat zs))⟩
 | _,_,_,_,_,_=>none
def QK (own:List Ent):List DVal->List TypeId->Option ERes
 | [d],[t]=>match tElem P t,tZeroE P t with
  | some (k,_),some zs=>match d with
   | .osl id r=>match Aj own id with
    | some e=>match e.obj with
     | .row et k' bs es=>some ⟨e.r=r/\k'=k/\zs.all (Fe [])=true/\zs.length=k/\0<k,.tup [],upE own id r (.row et k' bs (Ea es 0 es.length zs))⟩
     | _=>none
    | none=>none
   | .vw id r k0 _ i m=>match Aj own id with
    | some e=>match e.obj with
     | .row et k' bs es=>some ⟨e.r=r/\k'=k/\k0=k/\zs.all (Fe [])=true/\zs.length=k/\0<k/\i+m<=es.length,.tup [],upE own id r (.row et k' bs (Ea es i m zs))⟩
     | _=>none
    | none=>none
   | _=>none
  | _,_=>none
 | _,_=>none
def LY (own:List Ent):List DVal->List TypeId->Option ERes
 | [m,k],[t,_]=>match m,tMap P t with
  | .omp id r',some (kt,_)=>match Aj own id with
   | some e=>match e.obj with
    | .map ks vs=>some ⟨e.r=r'/\Ck P kt k=true/\ks.all (Ck P kt)=true,.tup [],upE own id r' (.map (QM ks k) (QL ks vs k))⟩
    | _=>none
   | none=>none
  | _,_=>none
 | _,_=>none
def iQ (own:List Ent):DVal->Option (Nat×Nat×Nat×Nat×TypeId×Nat×Nat×List (List DVal))
 | .osl id r=>match Aj own id with
  | some e=>if e.r=r then (match e.obj with | .row et k bs es=>some (id,r,0,es.length,et,k,bs,es) | _=>none)else none
  | none=>none
 | .vw id r k0 _ i m=>match Aj own id with
  | some e=>if e.r=r then (match e.obj with | .row et k bs es=>if k0=k then some (id,r,i,m,et,k,bs,es)else none | _=>none)else none
  | none=>none
 | _=>none
def XF (own:List Ent):List DVal->List TypeId->Option ERes
 | [d,s],[t,t']=>match tElem P t,iQ own d,IJ own s with
  | some (k,_),some (id,r',i,m,et,k',bs,es),some (k2,es2)=>some ⟨t'=t/\k'=k/\0<k/\i+m<=es.length/\(k2=k\/es2=[]),.int .i64 (min es2.length m:Nat),upE own id r' (.row et k' bs (Gb es i m es2))⟩
  | _,_,_=>none
 | _,_=>none
def It (o:Oper) (ed:Operand->DVal) (own:List Ent) (r:Nat):Option ERes :=
 match o.op with
 | .box _ x=>match o.dst with
  | some i=>some ⟨Cs own (ed x)=true,.bx i r 0,upE own i r (.box (AB (ed x)))⟩
  | none=>none
 | .buildSlice t len parts=>match o.dst,tElem P t,tElemId P t with
  | some i,some (k,bs),some et=>some ⟨Fm P own (ed) (.buildSlice t len parts),.osl i r,upE own i r (.row et k bs (parts.toList.map fun p=>AB (ed p.2)))⟩
  | _,_,_=>none
 | .alloc t=>match o.dst,tZero P t with
  | some i,some z=>some ⟨z.all (Fe [])=true,.bx i r 0,upE own i r (.box z)⟩
  | _,_=>none
 | .store t a x=>match ed a with
  | .bx id r' off=>match Aj own id with
   | some e=>match e.obj with
    | .box cs=>some ⟨e.r=r'/\o.dst=none/\tCells P t=some (AB (ed x)).length/\Cs own (ed x)=true/\off+(AB (ed x)).length<=cs.length,.any,upE own id r' (.box (Dl cs off (AB (ed x))))⟩
    | _=>none
   | none=>none
  | .rx id r' k i j=>ER P own o.dst t (ed x) id r' k i j
  | _=>none
 | .makeSlice t l c=>XE P own o.dst r t (ed l) (ed c)
 | .makeMap t rv=>match rv,o.dst,tMap P t with
  | none,some i,some _=>some ⟨True,.omp i r,upE own i r (.map [] [])⟩
  | _,_,_=>none
 | .mapUpdate t m k x=>match ed m,tMap P t with
  | .omp id r',some (kt,_)=>match Aj own id with
   | some e=>match e.obj with
    | .map ks vs=>some ⟨e.r=r'/\o.dst=none/\Ck P kt (ed k)=true/\ks.all (Ck P kt)=true,.any,upE own id r' (.map (RM ks (ed k)) (RL ks vs (ed k) (ed x)))⟩
    | _=>none
   | none=>none
  | _,_=>none
 | .call c=>match c.callee with
  | .builtin .append=>LZ P own o.dst r (c.args.toList.map (ed)) c.argTypes.toList
  | .builtin .clear=>QK P own (c.args.toList.map (ed)) c.argTypes.toList
  | .builtin .copy=>XF P own (c.args.toList.map (ed)) c.argTypes.toList
  | .builtin .delete=>LY P own (c.args.toList.map (ed)) c.argTypes.toList
  | _=>none
 | _=>none
end
section
variable {P : Program} {B : Base} {s : DS} {a : Act} {w : World} {loc : Nat -> Loc} {ow : List Nat}
theorem PY {own:List Ent} {d:DVal} (h:Fe [] d=true):Fe own d=true:=by
 cases d<;>simp_all [Fe,DK,Aj,AZ]
theorem EJ {ro:Option Nat} {o:Oper} {v:Value} {w':World} {next:Act->World->Prop} {Q:Exit->Act->World->Prop} (hd:∀c,o.op≠ .defer c) (h:(execOp a.eval o).run P w= .ok (.value v) w') (hn:next (a.put o.dst v) w'):o.wpIn (wd ro) 0 P a w next Q:=by
 refine⟨fun _ _=>trivial,?_⟩;rw[Oper.semAt_eq _ _ _ hd,h,Oper.uponIn_value];exact hn
theorem TH {ro:Option Nat} {o:Oper} {w':World} {next:Act->World->Prop} {Q:Exit->Act->World->Prop} (hd:∀c,o.op≠ .defer c) (h:(execOp a.eval o).run P w= .ok .skip w') (hn:next (a.put o.dst Go.undef) w'):o.wpIn (wd ro) 0 P a w next Q:=by
 refine⟨fun _ _=>trivial,?_⟩;rw[Oper.semAt_eq _ _ _ hd,h,Oper.uponIn_skip];exact hn
theorem Tn {id:Option Nat} {i0 r et k bs:Nat} {es:List (List DVal)} {d:DVal} {v:Value} (R:Rel B s a w loc) (qE:Gj s.own<=r) (hdest:GJ s.own et k bs d=some (id,es)) (ra:Bb s loc B.M0 w d v) :
  pA s loc w B.M0 (id.getD i0) et k bs es v/\Bq es<=r:=by
 unfold GJ at hdest
 split at hdest
 ·simp only[aA0,aR0]at hdest;obtain⟨rfl,rfl⟩:=hdest;simp only[Bb,rd]at ra;exact⟨.inl ⟨rfl,ra⟩,by simp[Bq]⟩
 ·rename_i id' r'
  split at hdest
  ·rename_i e0 vA
   split at hdest
   ·rename_i qT
    split at hdest
    ·rename_i et' k' bs' es' qZ
     split at hdest
     ·rename_i heq;obtain⟨rfl,rfl,rfl⟩:=heq;simp only[aA0,aR0]at hdest;obtain⟨rfl,rfl⟩:=hdest;refine⟨rN R.st vA qT qZ ra,?_⟩;have:=(Be (AN vA).1).2;rw[qZ]at this;simp only[EP]at this;omega
     ·simp at hdest
    ·simp at hdest
   ·simp at hdest
  ·simp at hdest
 ·simp at hdest
theorem uA {own:List Ent} {id:Option Nat} {r et k bs:Nat} {es:List (List DVal)} {d:DVal} (hdest:GJ own et k bs d=some (id,es)) (qE:Gj own<=r):Bq es<=r:=by
 unfold GJ at hdest
 split at hdest
 ·simp only[aA0,aR0]at hdest;obtain⟨_,rfl⟩:=hdest;simp[Bq]
 ·split at hdest
  ·rename_i e0 vA
   split at hdest
   ·split at hdest
    ·rename_i qZ
     split at hdest
     ·simp only[aA0,aR0]at hdest;obtain⟨_,rfl⟩:=hdest;have:=(Be (AN vA).1).2;rw[qZ]at this;simp only[EP]at this;omega
     ·simp at hdest
    ·simp at hdest
   ·simp at hdest
  ·simp at hdest
 ·simp at hdest
theorem Wp {own:List Ent} {d:DVal} {id r i m:Nat} {et:TypeId} {k bs:Nat} {es:List (List DVal)} (h:iQ own d=some (id,r,i,m,et,k,bs,es)) :
  ∃e bs0,Aj own id=some e/\e.r=r/\e.obj= .row et k bs es/\(d= .osl id r/\i=0/\m=es.length\/d= .vw id r k bs0 i m):=by
 unfold iQ at h
 split at h
 ·split at h
  ·rename_i e he
   split at h
   ·rename_i qT
    split at h
    ·rename_i qZ;simp only[aA0,aR0]at h;obtain⟨rfl,rfl,rfl,rfl,rfl,rfl,rfl,rfl⟩:=h;exact⟨e,0,he,qT,qZ,.inl ⟨rfl,rfl,rfl⟩⟩
    ·simp at h
   ·simp at h
  ·simp at h
 ·rename_i bs0 _ _
  split at h
  ·rename_i e he
   split at h
   ·rename_i qT
    split at h
    ·rename_i qZ
     split at h
     ·rename_i hk;simp only[aA0,aR0]at h;obtain⟨rfl,rfl,rfl,rfl,rfl,rfl,rfl,rfl⟩:=h;exact⟨e,bs0,he,qT,qZ,.inr (by rw[hk])⟩
     ·simp at h
    ·simp at h
   ·simp at h
  ·simp at h
 ·simp at h
theorem VY {own:List Ent} {s:DVal} {k2:Nat} {es2:List (List DVal)} {n:Nat} (h:IJ own s=some (k2,es2)) (h1:Gj own<=n) (h2:mx s<=n):Bq es2<=n:=by
 unfold IJ at h
 split at h
 ·simp only[aA0,aR0]at h;obtain⟨_,rfl⟩:=h;simp[Bq]
 ·simp only[aA0,aR0]at h;obtain⟨_,rfl⟩:=h;simp[Bq]
 ·rw[aY0]at h;obtain⟨⟨k',b',es'⟩,h3,h4⟩:=h;simp only[aR0]at h4;obtain⟨_,rfl⟩:=h4;have:=MF h3;omega
theorem GC_ {o:Oper} {r:Nat} {x:ERes} {ed:Operand->DVal} {next:Act->World->Prop} {Q:Exit->Act->World->Prop} (R:Rel B s a w loc) (hr:Cb B s<=r) (hd:Cc B.nt o.dst=true) (zC:∀x∈o.op.operands,Bb s loc B.M0 w (ed x) (a.eval x)) (jR:∀x∈o.op.operands,mx (ed x)<=JK s.slots) (h:It P o ed s.own r=some x) (hp:x.pre)
  (hn:∀a' w' loc',Rel B ⟨Bv s.slots o.dst x.d,x.own⟩ a' w' loc'->next a' w'):o.wpIn (wd B.ro) 0 P a w next Q:=by
 have qE:=hr;unfold Cb at qE;obtain⟨dst,op,type,Gg,after,guard⟩:=o;simp only at hd hn |-;unfold It at h;simp only at h;cases op<;>simp only[reduceCtorEq]at h
 case box t y =>
  cases dst with
  | none=>simp at h
  | some i =>
   simp only[aA0]at h;subst h;simp only at hp hn;obtain⟨h1,h2⟩:=Hp R.st hp (zC y (by simp[Op.operands,Call.operands]));have:=R.newBox (id:=i) (n:=r) (cs:=AB (ed y)) (us:=(a.eval y).cells.toList) (ty:=t) (dst:=some i) hr (by rw[Cy];have:=jR y (by simp[Op.operands,Call.operands]);omega) (fun j hj=>by simp only[aA0]at hj;subst hj;simpa[Cc]using hd) h1 h2
   have qM:(execOp a.eval ⟨some i,.box t y,type,Gg,after,guard⟩).run P w= .ok (.value (.pointer (some ⟨w.heap.size,0,none⟩))) (w.alloc (.cells (a.eval y).cells.toList.toArray t)):=by
    simp[execOp,Instr.box,newVar,newRow]
   exact EJ (fun c hc=>by cases hc) qM (hn _ _ _ this)
 case buildSlice t len parts =>
  split at h
  ·rename_i i k bs et ht zH;simp only[aA0]at h;subst h;simp only at hp hn;simp only[Fm,ht]at hp;obtain⟨h1,h2,h3,h4,h5,h6,h7⟩:=hp;have qY:parts.toList.length=len:=by have:=congrArg List.length h1;simpa using this
   obtain⟨e,us,hu,qM,gW,vW⟩:=II (P:=P) (M0:=B.M0) (vs:=parts.map fun p=>(p.1,a.eval p.2)) R.st ht h5 h2 h3 h4 (ds:=parts.toList.map fun p=>ed p.2) (by rw[dV0,cA0];exact h1) (by simpa using qY) (by simpa[List.all_map,Function.comp_def]using h6) (by
    intro i d q hd hq;simp only[bH0,aY0,dV0]at hd hq;obtain⟨a',ha,rfl⟩:=hd;obtain⟨b,hb,rfl⟩:=hq;rw[ha]at hb;simp only[aA0]at hb;subst hb
    exact zC a'.2 (by simpa[Op.operands]using ⟨a'.1,by simpa using bJ0 ha⟩)) h7
   have hee:e=et:=by unfold tElemId at zH;rw[hu]at zH;simpa using zH
   subst hee
   have hL:∀b0,b0∈(⟨[w.heap.size],.slice (some ⟨w.heap.size,0,none⟩) len len⟩:Loc).blks->b0<(w.alloc (.cells us.toArray e)).heap.size/\((∃e∈s.own,e.id=i/\b0∈(loc i).blks)\/w.heap.size<=b0):=by
    intro b0 qH;simp only[aG0]at qH;subst qH;exact⟨by simp,.inr (Nat.le_refl _)⟩
   have hw:=Upd.alloc (Aa s.own loc) w (.cells us.toArray e)
   have vY:Bq (parts.toList.map fun p=>AB (ed p.2))<=r:=by
    refine OV fun cs hm=> ?_
    obtain⟨p,hp,rfl⟩:=aQ0.1 hm;rw[Cy];have:=jR p.2 (by simpa[Op.operands]using ⟨p.1,by simpa using hp⟩);omega
   have W:=R.weakUp (obj:= .row e k bs (parts.toList.map fun p=>AB (ed p.2))) (r:=r) hr hw hL (.inl (Nat.le_refl _))
   have R':=R.up (id:=i) (r:=r) (obj:= .row e k bs (parts.toList.map fun p=>AB (ed p.2))) (L:=⟨[w.heap.size],.slice (some ⟨w.heap.size,0,none⟩) len len⟩) (v:= .slice (some ⟨w.heap.size,0,none⟩) len len) (d:= .osl i r) (dst:=some i) hr
    (fun j hj=>by simp only[aA0]at hj;subst hj;simpa[Cc]using hd) hw (fun b hb _=>by simp only[World.alloc,bP0];rw[if_neg (by omega)]) hL (.inl (Nat.le_refl _))
    ⟨by simpa[qY]using h3,.inr ⟨w.heap.size,us.toArray,len,rfl,by simp[qY],heap_alloc_new w _,by simp[qY],by unfold maxLen;omega,by simp[gW],Cd W k _ _ 0 vY (by simpa[cA0,Function.comp_def]using vW)⟩⟩
    (by
     simp only[rd];intro l hl;rw[Ds]at hl;simp only[aA0]at hl
     rw[<-hl])
   have wD:(execOp a.eval ⟨some i,.buildSlice t len parts,type,Gg,after,guard⟩).run P w= .ok (.value (.slice (some ⟨w.heap.size,0,none⟩) len len)) (w.alloc (.cells us.toArray e)):=by
    simp[execOp,qM]
   exact EJ (fun c hc=>by cases hc) wD (hn _ _ _ R')
  ·simp at h
 case alloc t =>
  cases dst with
  | none=>simp at h
  | some i =>
   split at h
   ·rename_i z hi hz;simp only[aA0]at h hi;subst h;subst hi;simp only at hp hn;obtain⟨zv,yX,rfl⟩:=FK (w:=w) hz;have vO:Aw (cu s loc) (hm s loc B.M0) w.heap (zv.cells.toList.map BZ) zv.cells.toList:=Br _
    have vY:AJ (zv.cells.toList.map BZ)=0:=by
     have h1:∀v,mx (BZ v)=0:=by
      intro v;unfold BZ
      split<;>(try split)<;>simp[mx]
     generalize zv.cells.toList=l
     induction l with
     | nil=>simp[AJ]
     | cons v l ih=>simp[AJ,h1,ih]
    have qI:=FO R.st (zv.cells.toList.map BZ) zv.cells.toList (aX0.2 fun d hd=>PY (aX0.1 hp d hd)) vO;have:=R.newBox (id:=i) (n:=r) (cs:=zv.cells.toList.map BZ) (us:=zv.cells.toList) (ty:=t) (dst:=some i) hr (by omega) (fun j hj=>by simp only[aA0]at hj;subst hj;simpa[Cc]using hd) vO qI
    have qM:(execOp a.eval ⟨some i,.alloc t,type,Gg,after,guard⟩).run P w= .ok (.value (.pointer (some ⟨w.heap.size,0,none⟩))) (w.alloc (.cells zv.cells.toList.toArray t)):=by
     simp[execOp,Instr.alloc,yX,newVar,newRow]
    exact EJ (fun c hc=>by cases hc) qM (hn _ _ _ this)
   ·simp at h
 case store t ad y =>
  split at h
  ·rename_i id r' off had
   split at h
   ·rename_i e he
    split at h
    ·rename_i cs qZ;simp only[aA0]at h;subst h;simp only at hp hn;obtain⟨qT,rfl,hc,gA,vL⟩:=hp;have ha:=zC ad (by simp[Op.operands,Call.operands]);rw[had]at ha;obtain⟨w',qM,R'⟩:=R.storeBox (P:=P) (t:=t) (n:=r) he qT qZ ha (zC y (by simp[Op.operands,Call.operands])) gA hc vL (jR y (by simp[Op.operands,Call.operands])) hr
     have wD:(execOp a.eval ⟨none,.store t ad y,type,Gg,after,guard⟩).run P w= .ok .skip w':=by
      simp[execOp,qM]
     exact TH (fun c hc=>by cases hc) wD (hn _ _ _ R')
    ·simp at h
   ·simp at h
  ·rename_i id r' k i j had;unfold ER at h
   split at h
   ·rename_i e he
    split at h
    ·rename_i et k' bs es qZ
     split at h
     ·rename_i c0 yL;simp only[aA0]at h;subst h;simp only at hp hn;obtain⟨qT,rfl,rfl,hc,gA,vL⟩:=hp;have ha:=zC ad (by simp[Op.operands,Call.operands]);rw[had]at ha;obtain⟨w',qM,R'⟩:=R.storeRow (P:=P) (t:=t) (n:=r) he qT qZ ha (zC y (by simp[Op.operands,Call.operands])) gA hc yL vL (jR y (by simp[Op.operands,Call.operands])) hr
      have wD:(execOp a.eval ⟨none,.store t ad y,type,Gg,after,guard⟩).run P w= .ok .skip w':=by
       simp[execOp,qM]
      exact TH (fun c hc=>by cases hc) wD (hn _ _ _ R')
     ·simp at h
    ·simp at h
   ·simp at h
  ·simp at h
 case makeSlice t lo co =>
  unfold XE at h
  split at h
  ·rename_i i k bs et zs kl n kc m ht zH hz hl hc;simp only[aA0]at h;subst h;simp only at hp hn;obtain⟨h1,h2,h3,h4,h5,h6⟩:=hp;have rl:=zC lo (by simp[Op.operands,Call.operands]);have rc:=zC co (by simp[Op.operands,Call.operands]);rw[hl]at rl;rw[hc]at rc;simp only[rd]at rl rc;obtain⟨v',w',L,qM,R'⟩:=R.makeRow (P:=P) (id:=i) (n:=r) (kl:=kl) (kc:=kc) (dst:=some i) hr (fun j hj=>by simp only[aA0]at hj;subst hj;simpa[Cc]using hd) ht zH hz h1 h2 h3 h4 h5 h6
   have wD:(execOp a.eval ⟨some i,.makeSlice t lo co,type,Gg,after,guard⟩).run P w= .ok (.value v') w':=by
    simp[execOp,rl.1,rc.1,qM]
   exact EJ (fun c hc=>by cases hc) wD (hn _ _ _ R')
  ·simp at h
 case makeMap t rv =>
  split at h
  ·rename_i i kte ht;simp only[aA0]at h;subst h;simp only at hp hn;have:=R.newMap (id:=i) (n:=r) (dst:=some i) hr (fun j hj=>by simp only[aA0]at hj;subst hj;simpa[Cc]using hd)
   have qM:(execOp a.eval ⟨some i,.makeMap t none,type,Gg,after,guard⟩).run P w= .ok (.value (.map (some w.heap.size))) (w.alloc (.map #[] 0)):=by
    simp[execOp,RowKit.run_makeMap]
   exact EJ (fun c hc=>by cases hc) qM (hn _ _ _ this)
  ·simp at h
 case mapUpdate t m k x =>
  split at h
  ·rename_i id r' kt et hm ht
   split at h
   ·rename_i e he
    split at h
    ·rename_i ks vs qZ;simp only[aA0]at h;subst h;simp only at hp hn;obtain⟨qT,rfl,hk,wR⟩:=hp;have ha:=zC m (by simp[Op.operands,Call.operands]);rw[hm]at ha;obtain⟨w',qM,R'⟩:=R.updMap (P:=P) (t:=t) (n:=r) he qT qZ ha (zC k (by simp[Op.operands,Call.operands])) (zC x (by simp[Op.operands,Call.operands])) ht hk wR (jR k (by simp[Op.operands,Call.operands])) (jR x (by simp[Op.operands,Call.operands])) hr
     have wD:(execOp a.eval ⟨none,.mapUpdate t m k x,type,Gg,after,guard⟩).run P w= .ok .skip w':=by
      simp[execOp,qM]
     exact TH (fun c hc=>by cases hc) wD (hn _ _ _ R')
    ·simp at h
   ·simp at h
  ·simp at h
 case call c =>
  obtain⟨cal,args,ats⟩:=c;cases cal<;>simp only[reduceCtorEq]at h;rename_i b;cases b<;>simp only[reduceCtorEq]at h;obtain⟨al⟩:=args;obtain⟨tl⟩:=ats
  case append =>
   unfold LZ at h
   split at h
   ·rename_i da db t t' qW zL
    split at h
    ·rename_i i k bs et ht zH
     split at h
     ·rename_i x fV
      split at h
      ·rename_i id es hdest;simp only[aA0]at h;subst h;simp only at hp hn;obtain⟨mQ,hz,hk,wT,hb,hl⟩:=hp
       have hdb:db= .str x:=by
        unfold strOf at fV
        split at fV
        ·simp only[aA0]at fV;rw[fV]
        ·simp at fV
       match al,qW with
       | [xa,xb],qW =>
        simp only[List.map_cons,List.map_nil,bF0,and_true]at qW;obtain⟨mP,mK⟩:=qW;subst zL;have ra:=zC xa (by simp[Op.operands,Call.operands]);have rb:=zC xb (by simp[Op.operands,Call.operands]);rw[mP]at ra;rw[mK,hdb]at rb;simp only[Bb,rd]at rb;have wW:=Tn (i0:=i) (r:=r) R (by omega) hdest ra
        have hu2:P.underlying t'=some .string:=by
         unfold tStr at mQ
         split at mQ
         ·assumption
         ·simp at mQ
        obtain⟨v',w',L,qM,R'⟩:=R.appendStr (P:=P) (ty:=type) (id:=id.getD i) (n:=r) (x:=x) (dst:=some i) hr (fun j hj=>by simp only[aA0]at hj;subst hj;simpa[Cc]using hd) ht zH hz (by omega) wW.1 wW.2 hu2 hk hb wT (by unfold maxLen;omega)
        have wD:(execOp a.eval ⟨some i,.call { callee:= .builtin .append,args:=⟨[xa,xb]⟩,argTypes:=⟨[t,t']⟩ },type,Gg,after,guard⟩).run P w= .ok (.value v') w':=by
         simp only[execOp,resolve,Sem.run_bind,dM0,List.map_cons,List.map_nil,Sem.run_pure,Result.andThen_ok,invoke,builtin,rb.1,qM]
        exact EJ (fun c hc=>by cases hc) wD (hn _ _ _ R')
      ·simp at h
     split at h
     ·rename_i id es k2 es2 hdest wB;simp only[aA0]at h;subst h;simp only at hp hn;obtain⟨rfl,hz,hk,zI,wT,hb,hl⟩:=hp
      match al,qW with
      | [xa,xb],qW =>
       simp only[List.map_cons,List.map_nil,bF0,and_true]at qW;obtain⟨mP,mK⟩:=qW;subst zL;have ra:=zC xa (by simp[Op.operands,Call.operands]);have rb:=zC xb (by simp[Op.operands,Call.operands]);rw[mP]at ra;rw[mK]at rb;have ma:=jR xa (by simp[Op.operands,Call.operands]);have mb:=jR xb (by simp[Op.operands,Call.operands]);rw[mP]at ma;rw[mK]at mb;have wW:=Tn (i0:=i) (r:=r) R (by omega) hdest ra
       have kB:Bq es2<=r:=by
        unfold IJ at wB
        split at wB
        ·simp only[aA0,aR0]at wB;obtain⟨_,rfl⟩:=wB;simp[Bq]
        ·simp only[aA0,aR0]at wB;obtain⟨_,rfl⟩:=wB;simp[Bq]
        ·rw[aY0]at wB;obtain⟨⟨k',b',es'⟩,h1,h2⟩:=wB;simp only[aR0]at h2;obtain⟨_,rfl⟩:=h2;have:=MF h1;omega
       obtain⟨v',w',L,qM,R'⟩:=R.append (P:=P) (ty:=type) (id:=id.getD i) (n:=r) (dst:=some i) hr (fun j hj=>by simp only[aA0]at hj;subst hj;simpa[Cc]using hd) ht zH hz hk wW.1 wW.2 rb wB zI kB hb wT (by unfold maxLen;omega)
       have wD:(execOp a.eval ⟨some i,.call { callee:= .builtin .append,args:=⟨[xa,xb]⟩,argTypes:=⟨[t',t']⟩ },type,Gg,after,guard⟩).run P w= .ok (.value v') w':=by
        simp only[execOp,resolve,Sem.run_bind,dM0,List.map_cons,List.map_nil,Sem.run_pure,Result.andThen_ok,invoke,builtin,qM]
       exact EJ (fun c hc=>by cases hc) wD (hn _ _ _ R')
     ·simp at h
    ·simp at h
   ·simp at h
  case copy =>
   obtain⟨al⟩:=args;obtain⟨tl⟩:=ats;unfold XF at h
   split at h
   ·rename_i d sd t t' qW zL;subst zL
    match al,qW with
    | [xa,xb],qW =>
     simp only[List.map_cons,List.map_nil,bF0,and_true]at qW;obtain⟨mP,mK⟩:=qW;have ra:=zC xa (by simp[Op.operands,Call.operands]);have rb:=zC xb (by simp[Op.operands,Call.operands]);have mb:=jR xb (by simp[Op.operands,Call.operands]);rw[mP]at ra;rw[mK]at rb mb
     split at h
     ·rename_i k k0 id r' i m et k' bs es k2 es2 ht bB wB;simp only[aA0]at h;subst h;simp only at hp;obtain⟨rfl,rfl,hk,hb,zI⟩:=hp;obtain⟨e,bs0,he,qT,qZ,hdd⟩:=Wp bB;obtain⟨w',qM,R'⟩:=R.copyRow (P:=P) (ty:=type) (n:=r) (bs0:=bs0) (dst:=dst) he qT qZ ra hdd hb ht hk rb wB zI (VY wB (by omega) (by omega)) hr (fun j hj=>by subst hj;simpa[Cc]using hd)
      have wD:(execOp a.eval ⟨dst,.call { callee:= .builtin .copy,args:=⟨[xa,xb]⟩,argTypes:=⟨[t',t']⟩ },type,Gg,after,guard⟩).run P w= .ok (.value (goInt (min es2.length m:Nat))) w':=by
       simp only[execOp,resolve,Sem.run_bind,dM0,List.map_cons,List.map_nil,Sem.run_pure,Result.andThen_ok,invoke,builtin,qM]
      exact EJ (fun c hc=>by cases hc) wD (hn _ _ _ R')
     ·simp at h
   ·simp at h
  case clear =>
   obtain⟨al⟩:=args;obtain⟨tl⟩:=ats
   have main:∀{w':World} {own':List Ent} {loc':Nat->Loc} {xa:Operand} {t:TypeId},al=[xa]->tl=[t]->(Builtin.clear_ #[t] type #[a.eval xa]).run P w= .ok (.tuple #[]) w'->Rel B ⟨Bv s.slots dst (.tup []),own'⟩ (a.put dst (.tuple #[])) w' loc'->x.d= .tup []->x.own=own' ->
     (Oper.mk dst (.call { callee:= .builtin .clear,args:=⟨al⟩,argTypes:=⟨tl⟩ }) type Gg after guard).wpIn (wd B.ro) 0 P a w next Q:=by
    intro w' own' loc' xa t hal mS qM R' hxd hxo;subst hal;subst mS;rw[hxd,hxo]at hn
    have wD:(execOp a.eval ⟨dst,.call { callee:= .builtin .clear,args:=⟨[xa]⟩,argTypes:=⟨[t]⟩ },type,Gg,after,guard⟩).run P w= .ok (.value (.tuple #[])) w':=by
     simp only[execOp,resolve,Sem.run_bind,dM0,List.map_cons,List.map_nil,Sem.run_pure,Result.andThen_ok,invoke,builtin,qM]
    exact EJ (fun c hc=>by cases hc) wD (hn _ _ _ R')
   unfold QK at h
   split at h
   ·rename_i d t qW zL;subst zL
    match al,qW with
    | [xa],qW =>
     simp only[List.map_cons,List.map_nil,bF0,and_true]at qW;have ra:=zC xa (by simp[Op.operands,Call.operands]);rw[qW]at ra
     split at h
     ·rename_i k bs0 zs ht hz
      split at h
      ·rename_i id r' 
       split at h
       ·rename_i e he
        split at h
        ·rename_i et k' bs es qZ;simp only[aA0]at h;subst h;simp only at hp;obtain⟨qT,rfl,h1,h2,h3⟩:=hp;obtain⟨w',qM,R'⟩:=R.clearRow (P:=P) (t:=t) (ty:=type) (n:=r) (k0:=bs0) (bs0:=0) (e':=0) (dst:=dst) he qT qZ ra (.inl ⟨rfl,rfl,rfl⟩) (by simp) ht hz h1 h2 h3 hr (fun j hj=>by subst hj;simpa[Cc]using hd);exact main rfl rfl qM R' rfl rfl
        ·simp at h
       ·simp at h
      ·rename_i id r' k0 bs1 i m _
       split at h
       ·rename_i e he
        split at h
        ·rename_i et k' bs es qZ;simp only[aA0]at h;subst h;simp only at hp;obtain⟨qT,rfl,rfl,h1,h2,h3,h4⟩:=hp;obtain⟨w',qM,R'⟩:=R.clearRow (P:=P) (t:=t) (ty:=type) (n:=r) (k0:=bs0) (bs0:=bs1) (e':=0) (dst:=dst) he qT qZ ra (.inr rfl) h4 ht hz h1 h2 h3 hr (fun j hj=>by subst hj;simpa[Cc]using hd);exact main rfl rfl qM R' rfl rfl
        ·simp at h
       ·simp at h
      ·simp at h
     ·simp at h
   ·simp at h
  case delete =>
   obtain⟨al⟩:=args;obtain⟨tl⟩:=ats;unfold LY at h
   split at h
   ·rename_i dm dk t t2 qW zL;have mS:tl=[t,t2]:=zL;subst mS
    match al,qW with
    | [xa,xb],qW =>
     simp only[List.map_cons,List.map_nil,bF0,and_true]at qW;obtain⟨mP,mK⟩:=qW;have ra:=zC xa (by simp[Op.operands,Call.operands]);have rb:=zC xb (by simp[Op.operands,Call.operands]);rw[mP]at ra;rw[mK]at rb
     split at h
     ·rename_i id r' kt et ht
      split at h
      ·rename_i e he
       split at h
       ·rename_i ks vs qZ;simp only[aA0]at h;subst h;simp only at hp hn;obtain⟨qT,hk,wR⟩:=hp;obtain⟨w',qM,R'⟩:=R.delMap (P:=P) (t:=t) (t2:=t2) (ty:=type) (n:=r) (dst:=dst) he qT qZ ra rb ht hk wR hr (fun j hj=>by subst hj;simpa[Cc]using hd)
        have wD:(execOp a.eval ⟨dst,.call { callee:= .builtin .delete,args:=⟨[xa,xb]⟩,argTypes:=⟨[t,t2]⟩ },type,Gg,after,guard⟩).run P w= .ok (.value (.tuple #[])) w':=by
         simp only[execOp,resolve,Sem.run_bind,dM0,List.map_cons,List.map_nil,Sem.run_pure,Result.andThen_ok,invoke,builtin,qM]
        exact EJ (fun c hc=>by cases hc) wD (hn _ _ _ R')
       ·simp at h
      ·simp at h
     ·simp at h
   ·simp at h
def yH (l:Nat):Abs where
 J:=fun _ bl hd _=>bl=[]/\hd= .func (.yield l) #[] #[]
 weak:=fun _ _ _ _ _ _ _ _ _ h=>h
 one:=by rintro _ _ _ _ ⟨_,rfl⟩;exact⟨rfl,rfl⟩
 nd:=by rintro _ _ _ _ ⟨rfl,_⟩ b hb;cases hb
def YAt (P:Program) (l:Nat) (A:Abs) (args:List DVal) (b:Bool) (A':Abs):Prop :=
 ∀(M bl:List Nat) (hd:Value) (w:World) (vs:Array Value),bl.Nodup->(∀q∈bl,q∈M)->(∀q∈M,q<w.heap.size)->A.J M bl hd w.heap->Aw (fun _ _=>none) M w.heap args vs.toList ->
  JA P (.yield l) vs w fun v w'=>v= .bool b/\∃bl',Upd bl w w'/\bl'.Nodup/\(∀q∈bl',q<w'.heap.size/\(q∈bl\/w.heap.size<=q)) /\
   ∀M',(∀q∈M',q∈bl'\/(q∈M/\q∉bl))->A'.J M' bl' hd w'.heap
def Uk (ed:Operand->DVal) (c:Call):Option (Nat×Nat×List DVal):=match c.callee with
 | .value f=>match ed f with | .pk id r=>some (id,r,c.args.toList.map ed) | _=>none
 | _=>none
def OD (P:Program) (o:Oper) (ed:Operand->DVal) (own:List Ent) (r:Nat) (d:DVal) (own':List Ent):Prop :=
 (∃x,It P o ed own r=some x/\x.pre/\d=x.d/\own'=x.own)\/(∃c g args,o.op= .call c/\callee ed c=some (g,args)/\Vq P (.func g) args own r d own') \/
  (∃c id r' args e0 l e A A' b,o.op= .call c/\Uk ed c=some (id,r',args)/\Aj own id=some e0/\e0.r=r'/\e0.obj= .abs (yH l)/\Aj own (id+1)=some e/\e.obj= .abs A/\AJ args=0/\YAt P l A args b A'/\d= .bool b/\own'=upE own (id+1) r (.abs A'))
def Dl_ (P:Program) (o:Oper) (ed:Operand->DVal) (own:List Ent) (K:ContE):Prop:=∀r,match It P o ed own r with | some x=>x.pre/\K.f x.d x.own | none=>False
def Bk (P:Program) (g:FuncId) (args:List DVal) (own:List Ent) (K:ContE):Prop:=∀r,∃d own',Vq P (.func g) args own r d own'/\K.f d own'
def BJ_ (P:Program) (id r':Nat) (args:List DVal) (own:List Ent) (K:ContE):Prop:=∃e0 l e A A' b,Aj own id=some e0/\e0.r=r'/\e0.obj= .abs (yH l)/\Aj own (id+1)=some e/\e.obj= .abs A/\AJ args=0/\YAt P l A args b A'/\∀r,K.f (.bool b) (upE own (id+1) r (.abs A'))
def tY (P:Program) (o:Oper) (ed:Operand->DVal) (own:List Ent) (K:ContE):Prop:=match o.op with
 | .call c=>match callee ed c with
  | some (g,args)=>Bk P g args own K
  | none=>match Uk ed c with
   | some (id,r',args)=>BJ_ P id r' args own K
   | none=>Dl_ P o ed own K
 | _=>Dl_ P o ed own K
theorem XC {P:Program} {o:Oper} {ed:Operand->DVal} {own:List Ent} {K:ContE} (h:Dl_ P o ed own K) (r:Nat):∃d own',OD P o ed own r d own'/\K.f d own':=by
 have h1:=h r
 split at h1
 ·rename_i x hx;exact⟨x.d,x.own,.inl ⟨x,hx,h1.1,rfl,rfl⟩,h1.2⟩
 ·exact h1.elim
theorem Jo {P:Program} {o:Oper} {ed:Operand->DVal} {own:List Ent} {K:ContE} (h:tY P o ed own K) (r:Nat):∃d own',OD P o ed own r d own'/\K.f d own':=by
 unfold tY at h
 split at h
 ·rename_i c wL
  split at h
  ·rename_i g args hc;obtain⟨d,own',h1,h2⟩:=h r;exact⟨d,own',.inr (.inl ⟨c,g,args,wL,hc,h1⟩),h2⟩
  ·split at h
   ·rename_i id r' args hp;obtain⟨e0,l,e,A,A',b,h1,h2,h3,h4,h5,h6,h7,h8⟩:=h;exact⟨_,_,.inr (.inr ⟨c,id,r',args,e0,l,e,A,A',b,wL,hp,h1,h2,h3,h4,h5,h6,h7,rfl,rfl⟩),h8 r⟩
   ·exact XC h r
 ·exact XC h r
theorem CB_ {o:Oper} {c:Call} {g:FuncId} {args:List DVal} {r:Nat} {d:DVal} {own':List Ent} {ed:Operand->DVal} {next:Act->World->Prop} {Q:Exit->Act->World->Prop} (R:Rel B s a w loc) (hr:Cb B s<=r) (hd:Cc B.nt o.dst=true) (ho:o.op= .call c)
  (zC:∀x∈o.op.operands,Bb s loc B.M0 w (ed x) (a.eval x)) (hc:callee ed c=some (g,args)) (hS:Vq P (.func g) args s.own r d own')
  (hn:∀a' w' loc',Rel B ⟨Bv s.slots o.dst d,own'⟩ a' w' loc'->next a' w'):o.wpIn (wd B.ro) 0 P a w next Q:=by
 have qE:=hr;unfold Cb at qE;obtain⟨hE,_,_,hS⟩:=hS;obtain⟨vs,h1,h2⟩:=VX (P:=P) (ρ:=a.eval) (M0:=B.M0) ho (fun x hx=>zC x (by rw[ho];exact hx)) hc hE;refine⟨fun _ _=>trivial,?_⟩;rw[Oper.semAt_eq _ _ _ (fun c' bU=>by rw[ho]at bU;cases bU),h1,Oper.uponIn_enter];refine⟨fun h=>by simp[wd]at h,QZ B.ro _ ?_⟩;refine((hS B.M0 w loc vs (by omega) R.st h2).2).mono ?_;rintro e w' ⟨v,rfl,loc',S',hu,wZ,vD,vW⟩;exact hn _ _ loc' (R.step (n:=r) (by omega) (by omega) (Ld hd) S' hu wZ vD vW)
theorem Aa_ {P:Program} {l:Nat} {fn:FuncId} {tmps:Array Value} {assign body:Code} {w:World} {R:Ending->World->Prop} (ro:Option Nat) (h:RoundIn (wd none) 0 P l fn tmps assign body w R):RoundIn (wd ro) 0 P l fn tmps assign body w R:=h
theorem xB {o:Oper} {c:Call} {id r' n l:Nat} {args:List DVal} {e0 e:Ent} {A A':Abs} {b:Bool} {ed:Operand->DVal} {next:Act->World->Prop} {Q:Exit->Act->World->Prop} (R:Rel B s a w loc) (hr:Cb B s<=n) (hd:Cc B.nt o.dst=true) (ho:o.op= .call c)
  (zC:∀x∈o.op.operands,Bb s loc B.M0 w (ed x) (a.eval x)) (hc:Uk ed c=some (id,r',args)) (vA:Aj s.own id=some e0) (qT:e0.r=r') (hob0:e0.obj= .abs (yH l)) (he:Aj s.own (id+1)=some e) (qZ:e.obj= .abs A) (fL:AJ args=0) (hY:YAt P l A args b A')
  (hn:∀a' w' loc',Rel B ⟨Bv s.slots o.dst (.bool b),upE s.own (id+1) n (.abs A')⟩ a' w' loc'->next a' w'):o.wpIn (wd B.ro) 0 P a w next Q:=by
 obtain⟨dst,op,type,Gg,after,guard⟩:=o;simp only at ho;subst ho;obtain⟨cal,ars,ats⟩:=c;unfold Uk at hc
 cases cal with
 | builtin _=>simp at hc
 | invoke _ _=>simp at hc
 | value f =>
  simp only at hc
  split at hc
  rotate_left
  ·simp at hc
  rename_i id0 r0 hf;simp only[aA0,aR0]at hc;obtain⟨rfl,rfl,rfl⟩:=hc;obtain⟨hmem0,kP⟩:=AN vA;obtain⟨qU,hid⟩:=AN he;have qA:Ab s.own loc id0 r0=some (loc id0):=by unfold Ab;rw[vA];simp[qT]
  have hx:=zC f (by simp[Op.operands,Call.operands]);rw[hf]at hx;simp only[Bb,rd]at hx;have hv:=hx _ qA;have zA:=R.st.ok e0 hmem0;rw[hob0,kP]at zA;have hl:(loc id0).hdr= .func (.yield l) #[] #[]:=zA.2;have hk:=R.st.ok e qU;rw[qZ,hid]at hk
  have vW:Aw (fun _ _=>none) (Aa s.own loc++B.M0) w.heap (ars.toList.map ed) (ars.toList.map a.eval):=by
   have key:∀l:List Operand,(∀x∈l,x∈ars.toList)->Aw (cu s loc) (hm s loc B.M0) w.heap (l.map ed) (l.map a.eval):=by
    intro l
    induction l with
    | nil=>intro _;simp[Aw]
    | cons x l ih =>
     intro hl;simp only[List.map_cons,Aw];exact⟨_,_,rfl,zC x (by have:=hl x aK0;simp[Op.operands,Call.operands];simp at this;exact .inr this),ih fun y hy=>hl y (aI0 _ hy)⟩
   exact AL (n:=0) ⟨fun _ _ _ h=>by omega,fun b o _ (_:Gh o=true) ho=>ho,fun b o hb (_:Gh o=true) _=>hb⟩ _ _ (cU0 fL) (key _ (fun _ h=>h))
  have hF:=hY (Aa s.own loc++B.M0) (loc (id0+1)).blks (loc (id0+1)).hdr w (ars.map a.eval) (by have:=Dt R.st.bl e qU;rwa[hid]at this) (fun q hq=>aH0 _ (AY qU (by rw[hid];exact hq))) R.st.lt hk (by simpa using vW);obtain⟨fn,tmps,assign,body,qM,hround⟩:=hF;refine⟨fun _ _=>trivial,?_⟩
  have hex:(execOp a.eval ⟨dst,.call { callee:= .value f,args:=ars,argTypes:=ats },type,Gg,after,guard⟩).run P w= .ok (.round l fn tmps assign body) w:=by
   simp only[execOp,resolve,hv,hl,Deferred.ofValue,Sem.run_bind,Sem.run_pure,Result.andThen_ok,invoke];simpa using qM
  rw[Oper.semAt_eq _ _ _ (fun c' bU=>by simp at bU),hex,Oper.uponIn_round];refine⟨fun h=>by simp[wd]at h,(Aa_ B.ro hround).mono ?_⟩;rintro e1 w' ⟨v,rfl,rfl,bl',hu,hnd,yS,hJ⟩
  have hL:∀b0,b0∈(⟨bl',(loc (id0+1)).hdr⟩:Loc).blks->b0<w'.heap.size/\((∃e∈s.own,e.id=id0+1/\b0∈(loc (id0+1)).blks)\/w.heap.size<=b0):=fun b0 qH =>
   ⟨(yS b0 qH).1,(yS b0 qH).2.imp (fun h=>⟨e,qU,hid,h⟩) id⟩
  have vB:Upd (Aa s.own loc) w w':=⟨hu.os,hu.tape,hu.output,hu.drawn,hu.size,fun q hq hn'=>hu.blk q hq (fun h=>hn' (AY qU (by rw[hid];exact h)))⟩;refine hn _ _ _ (R.up (id:=id0+1) (r:=n) (obj:= .abs A') (L:=⟨bl',(loc (id0+1)).hdr⟩) (v:= .bool b) (d:= .bool b) (dst:=dst) hr (fun j hj=>by subst hj;simpa[Cc]using hd) vB (fun q hq qB=>hu.blk q hq (qB e qU hid)) hL (.inl (Nat.le_refl _)) (hJ _ ?_) (by simp[rd]) hnd)
  intro q hq
  rcases aC0.1 hq with hq | hq
  ·unfold upE at hq;rw[DN,Qt]at hq
   rcases aC0.1 hq with hq | hq
   ·simp only[CH,if_true]at hq;exact .inl hq
   ·obtain⟨e2,vU,qB,wV⟩:=Pb hq;refine .inr ⟨aH0 _ (AY vU wV),fun hb3=> ?_⟩;have:=Fz R.st.bl e2 vU e qU q wV (by rw[hid];exact hb3);subst this;exact qB hid
  ·exact .inr ⟨aJ0 _ hq,fun hb3=>R.st.ap q (AY qU (by rw[hid];exact hb3)) hq⟩
theorem XB {o:Oper} {r:Nat} {d:DVal} {own':List Ent} {ed:Operand->DVal} {next:Act->World->Prop} {Q:Exit->Act->World->Prop} (R:Rel B s a w loc) (hr:Cb B s<=r) (hd:Cc B.nt o.dst=true) (zC:∀x∈o.op.operands,Bb s loc B.M0 w (ed x) (a.eval x)) (jR:∀x∈o.op.operands,mx (ed x)<=JK s.slots) (h:OD P o ed s.own r d own')
  (hn:∀a' w' loc',Rel B ⟨Bv s.slots o.dst d,own'⟩ a' w' loc'->next a' w'):o.wpIn (wd B.ro) 0 P a w next Q:=by
 rcases h with ⟨x,hx,hp,rfl,rfl⟩ | ⟨c,g,args,wL,hc,hS⟩ | ⟨c,id,r',args,e0,l,e,A,A',b,wL,hc,vA,qT,hob0,he,qZ,fL,hY,rfl,rfl⟩
 ·exact GC_ R hr hd zC jR hx hp hn
 ·exact CB_ R hr hd wL zC hc hS hn
 ·exact xB R hr hd wL zC hc vA qT hob0 he qZ fL hY hn
end
end Go.Dm
end
