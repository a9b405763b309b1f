/- Parts of a proof, laid together: EnE. -/
import Derived.MapKept
import Derived.Test.YtbpmiknobocjoaaGreatqAp4
set_option linter.unusedSimpArgs false
set_option maxHeartbeats 8000000
set_option linter.unusedVariables false
set_option linter.unusedSectionVars false
section
namespace Go.Dm
variable [DMode]
def AI : DVal->List DVal
 | .agg cs=>cs
 | d=>[d]
def Dx (cells:List DVal) (off:Nat) (cs:List DVal):List DVal:=cells.take off++cs++cells.drop (off+cs.length)
def FT (place:Nat->Option (Nat×Nat)) (cells:List DVal):List (Nat×DVal)->Option (List DVal)
 | []=>some cells
 | (i,d)::rest=>match place i with
  | none=>none
  | some (off,size)=>if (AI d).length=size/\off+size<=cells.length then FT place (Dx cells off (AI d)) rest else none
def Ea (own:List Ent) (id r:Nat):Bool:=match Ah own id with | some e=>e.r==r | none=>false
def Fy (own:List Ent):DVal->Bool
 | .any | .undef | .sel _ _ | .tup _ | .agg _=>false
 | .bx id r _=>Ea own id r
 | .rx id r _ _ _=>Ea own id r
 | .omp id r=>Ea own id r
 | .osl id r=>(Bi own (.osl id r)).isSome
 | .vw id r _ _ _ _=>Ea own id r
 | .pk id r=>match Ah own id with | some e=>e.r==r&&(match e.obj with | .abs _=>true | .lrec _ _ _ _ _ _=>true | _=>false) | none=>false
 | _=>true
def Cz (own:List Ent) (d:DVal):Bool:=(AI d).all (Fy own)
def JY (t:Bool):DVal->DVal->DVal
 | .bool p,.bool q=> .bool (if t then p else q)
 | .bool p,.sel _ (.bool q)=> .bool (if t then p else q)
 | .sel _ (.bool p),.bool q=> .bool (if t then p else q)
 | a,b=>if t then a else b
def IS (t:Bool):DVal->DVal->Prop
 | .bool _,.sel c (.bool _)=>t=false->c=true
 | .sel c (.bool _),.bool _=>t=true->c=true
 | _,_=>True
def GF (own:List Ent) (d:DVal) (n:Int):DVal :=
 match d with
 | .sl _ _ es=> .ref (es.getD n.toNat [])
 | .osl id r=>match Bi own (.osl id r)with | some (k,_,_)=> .rx id r k n.toNat 0 | none=> .any
 | .vw id r k _ i _=> .rx id r k (i+n.toNat) 0
 | _=> .any
def GA (own:List Ent):DVal->Option (List DVal×List DVal)
 | .mp ks vs=>some (ks,vs)
 | .nilmp=>some ([],[])
 | .omp id r=>match Ah own id with
  | some e=>if e.r=r then (match e.obj with | .map ks vs=>some (ks,vs) | .mapD ks vs=>some (ks,vs) | _=>none)else none
  | none=>none
 | _=>none
def CY (e:Operand->DVal) (dflt:Int):Option Operand->Int
 | none=>dflt
 | some x=>match e x with | .int _ n=>n | _=> -1
def Ey (e:Operand->DVal) (len:Nat) (l h m:Option Operand):Prop :=
 0<=CY e 0 l/\CY e 0 l<=CY e len h/\CY e len h<=CY e len m/\CY e len m<=len/\(m.isSome=true->h.isSome=true)
section
variable (P : Program) (own : List Ent) (e : Operand -> DVal)
def Tp : Builtin->List DVal->List TypeId->Prop
 | .len,[d],[t]=>match d with
  | .str _=>tStr P t=true
  | .nilsl=>(tElem P t).isSome=true
  | .mp ks _=>(tMap P t).isSome=true/\(ks.length:Int)<=9223372036854775807
  | .nilmp=>(tMap P t).isSome=true
  | .omp id r=>(tMap P t).isSome=true/\match GA own (.omp id r)with | some (ks,_)=>(ks.length:Int)<=9223372036854775807 | none=>False
  | d=>(Bi own d).isSome=true/\(tElem P t).isSome=true
 | .min,[x,y],_=>match x,y with | .int k _,.int k' _=>k=k' | _,_=>False
 | .max,[x,y],_=>match x,y with | .int k _,.int k' _=>k=k' | _,_=>False
 | .append,[x,y],[t,t']=>match x,y with | .nilsl,.nilsl=>t'=t/\(tElem P t).isSome=true | _,_=>False
 | _,_,_=>False
def Nt : Builtin->List DVal->DVal
 | .len,[d]=>match d with
  | .str s=> .int .i64 s.size
  | .nilsl=> .int .i64 0
  | .mp ks _=> .int .i64 ks.length
  | .nilmp=> .int .i64 0
  | .omp id r=>match GA own (.omp id r)with | some (ks,_)=> .int .i64 ks.length | none=> .any
  | d=>match Bi own d with | some (_,_,es)=> .int .i64 es.length | none=> .any
 | .min,[x,y]=>match x,y with | .int k a,.int _ b=> .int k (if b<a then b else a) | _,_=> .any
 | .max,[x,y]=>match x,y with | .int k a,.int _ b=> .int k (if a<b then b else a) | _,_=> .any
 | .append,[x,y]=>match x,y with | .nilsl,.nilsl=> .nilsl | _,_=> .any
 | _,_=> .any
def Hw (t:TypeId) (i:Nat):Option (Nat×Nat):=match tField P t i with | some x=>some (x.1,x.2.1) | none=>(SP P t).map fun a=>(i*a.2,a.2)
def tParts (t:TypeId):Bool:=match Dl P t with | some fs=>fs.toList.all fun f=>(tCells P f.type).isSome | none=>(SP P t).isSome
def tElemZ (t:TypeId):Bool:=match P.underlying t with | some (.slice e)=>(tZero P e).isSome | _=>false
def Hq_ (d:DVal) (len:Nat) (n:Int):Prop:=0<=n/\n<len/\match d with
 | .ref _=>True
 | .bx id r _=>Ea own id r=true
 | .rx id r _ _ _=>Ea own id r=true
 | _=>False
def oA (d:DVal) (k:Nat) (n:Int):DVal:=match d with
 | .ref cs=> .ref (cs.drop (n.toNat*k))
 | .bx id r o=> .bx id r (o+n.toNat*k)
 | .rx id r c i j=> .rx id r c i (j+n.toNat*k)
 | _=> .any
def DV : Op->Prop
 | .move _=>True
 | .assign _=>True
 | .pick c a b=>match e c with | .bool t=>IS t (e a) (e b) | _=>False
 | .fieldAddr t x f=>match tField P t f,e x with
  | some (_,n,_),.ref _=>n≠0
  | some (_,n,_),.bx id r _=>n≠0/\Ea own id r=true
  | some (_,n,_),.rx id r _ _ _=>n≠0/\Ea own id r=true
  | _,_=>False
 | .load t a=>match tAgg P t,tCells P t,DJ own (e a)with
  | some true,some n,some cs=>n<=cs.length
  | some false,_,some cs=>0<cs.length
  | _,_,_=>False
 | .indexAddr t x i=>match e i,tElem P t,Bi own (e x)with
  | .int _ n,some (k,_),some (k',_,es)=>k=k'/\0<=n/\n<es.length
  | .int _ n,none,_=>(match SP P t with | some (len,_)=>Hq_ own (e x) len n | none=>False)
  | _,_,_=>False
 | .index t x i=>match e x,e i with
  | .str s,.int _ n=>tStr P t=true/\0<=n/\n<s.size
  | .agg cs,.int _ n=>(match Cp_ P t with | some len=>0<=n/\n<len/\len<=cs.length | none=>False)
  | _,_=>False
 | .field t x f=>match tField P t f,e x with
  | some (off,n,b),.agg cs=>off+n<=cs.length/\(b=false->n=1)
  | _,_=>False
 | .binOp op t x y _=>(FH P op t (e x) (e y)).isSome=true
 | .unOp op _ x=>match op,e x with
  | .not,.bool _=>True
  | .neg,.int _ _=>True
  | _,_=>False
 | .convert src dst x=>(P.underlying src).isSome=true/\match e x with
  | .int _ _=>(GB_ P dst).isSome=true
  | .str _=>tStr P dst=true
  | _=>False
 | .extract x i=>match e x with
  | .tup vs=>i<vs.length
  | _=>False
 | .makeFunc _ _ _=>True
 | .makeInterface t _=>(match P.underlying t with | some (.interface _)=>False | some _=>True | none=>False)
 | .nilCheck x=>match e x with
  | .ref _=>True
  | .bx id r _=>Ea own id r=true
  | .rx id r _ _ _=>Ea own id r=true
  | .fn (.func _) _ _=>True
  | _=>False
 | .box _ x=>Cz own (e x)=true
 | .build t parts=>match tZero P t with
  | some z=>(FT (Hw P t) z (parts.toList.map fun p=>(p.1,e p.2))).isSome=true/\(parts.toList.all fun p=>Cz own (e p.2))=true/\tParts P t=true
  | none=>False
 | .buildSlice t len parts=>match tElem P t with
  | some (k,bs)=>parts.toList.map (·.1)=List.range len/\len*k<=16777216/\len*bs<=150000000000000/\len<=16777216/\0<k/\(parts.toList.all fun p=>Cz own (e p.2)&&(AI (e p.2)).length==k)=true/\tElemZ P t=true
  | none=>False
 | .call c=>match c.callee with
  | .builtin b=>Tp P own b (c.args.toList.map e) c.argTypes.toList
  | _=>False
 | .slice t x l h m=>match e x with
  | .sl k _ es=>tElem P t=some (k,(tElem P t).elim 0 (·.2))/\Ey e es.length l h m
  | .nilsl=>(tElem P t).isSome=true/\Ey e 0 l h m
  | .osl id r=>m=none/\match Bi own (.osl id r)with | some (k,_,es)=>tElem P t=some (k,(tElem P t).elim 0 (·.2))/\Ey e es.length l h none | none=>False
  | .vw id r k bs i n=>m=none/\(Bi own (.vw id r k bs i n)).isSome=true/\tElem P t=some (k,(tElem P t).elim 0 (·.2))/\Ey e n l h none
  | .str str=>tStr P t=true/\m=none/\Ey e str.size l h none
  | _=>False
 | .lookup t x i _=>match tMap P t,GA own (e x)with
  | some (kt,et),some (ks,_)=>Cm P kt (e i)=true/\ks.all (Cm P kt)=true/\(tZeroD P et).isSome=true
  | _,_=>False
 | _=>False
def Bm : Op->DVal
 | .move x=>e x
 | .assign x=>e x
 | .pick c a b=>match e c with | .bool t=>JY t (e a) (e b) | _=> .any
 | .fieldAddr t x f=>match tField P t f,e x with
  | some (off,_,_),.ref cs=> .ref (cs.drop off)
  | some (off,_,_),.bx id r o=> .bx id r (o+off)
  | some (off,_,_),.rx id r k i j=> .rx id r k i (j+off)
  | _,_=> .any
 | .load t a=>match tAgg P t,tCells P t,DJ own (e a)with
  | some true,some n,some cs=> .agg (cs.take n)
  | some false,_,some cs=>cs.headD .any
  | _,_,_=> .any
 | .indexAddr t x i=>match e i,tElem P t with
  | .int _ n,some _=>GF own (e x) n
  | .int _ n,none=>(match SP P t with | some (_,k)=>oA (e x) k n | none=> .any)
  | _,_=> .any
 | .index _ x i=>match e x,e i with
  | .str s,.int _ n=> .int .u8 (s.data.toList.getD n.toNat 0).toNat
  | .agg cs,.int _ n=>(cs.drop n.toNat).headD .any
  | _,_=> .any
 | .field t x f=>match tField P t f,e x with
  | some (off,n,b),.agg cs=>if b then .agg ((cs.drop off).take n)else (cs.drop off).headD .any
  | _,_=> .any
 | .binOp op t x y _=>(FH P op t (e x) (e y)).getD .any
 | .unOp op _ x=>match op,e x with
  | .not,.bool b=> .bool (!b)
  | .neg,.int k n=> .int k (k.wrap (0-n))
  | _,_=> .any
 | .convert _ dst x=>match e x with
  | .int _ n=>match GB_ P dst with | some k=> .int k (k.wrap n) | none=> .any
  | d=>d
 | .extract x i=>match e x with
  | .tup vs=>vs.getD i .any
  | _=> .any
 | .makeFunc f us cs=> .fn f (us.toList.map e) (cs.toList.map e)
 | .makeInterface t x=> .ifc t (e x)
 | .nilCheck x=>e x
 | .box _ x=> .ref (AI (e x))
 | .build t parts=>match tZero P t with
  | some z=> .agg ((FT (Hw P t) z (parts.toList.map fun p=>(p.1,e p.2))).getD [])
  | none=> .any
 | .buildSlice t _ parts=>match tElem P t with
  | some (k,bs)=> .sl k bs (parts.toList.map fun p=>AI (e p.2))
  | none=> .any
 | .call c=>match c.callee with
  | .builtin b=>Nt own b (c.args.toList.map e)
  | _=> .any
 | .slice _ x l h _=>match e x with
  | .sl k bs es=> .sl k bs ((es.drop (CY e 0 l).toNat).take ((CY e es.length h).toNat-(CY e 0 l).toNat))
  | .nilsl=> .nilsl
  | .osl id r=>match Bi own (.osl id r)with | some (k,bs,es)=> .vw id r k bs (CY e 0 l).toNat ((CY e es.length h).toNat-(CY e 0 l).toNat) | none=> .any
  | .vw id r k bs i n=> .vw id r k bs (i+(CY e 0 l).toNat) ((CY e n h).toNat-(CY e 0 l).toNat)
  | .str str=> .str (str.extract (CY e 0 l).toNat (CY e str.size h).toNat)
  | _=> .any
 | .lookup t x i ok=>match tMap P t,GA own (e x)with
  | some (_,et),some (ks,vs) =>
   let r:=Bc ks (e i)
   let v:=match r with | some j=>vs.getD j .any | none=>(tZeroD P et).getD .any
   if ok then .tup [v,.bool r.isSome]else v
  | _,_=> .any
 | _=> .any
end
section
variable {P : Program} {s : DS} {loc : Nat -> Loc} {M0 : List Nat} {w : World} {ρ : Operand -> Value}
abbrev Bg (s:DS) (loc:Nat->Loc) (M0:List Nat) (w:World) (d:DVal) (v:Value):Prop:=rd (cu s loc) (hm s loc M0) w.heap d v
def Yields (P:Program) (s:DS) (loc:Nat->Loc) (M0:List Nat) (w:World) (x:Sem Value) (d:DVal):Prop :=
 ∃v w',x.run P w= .ok v w'/\Upd [] w w'/\rd (cu s loc) (hm s loc M0) w'.heap d v
theorem Yields.same {x:Sem Value} {d:DVal} {v:Value} (hr:x.run P w= .ok v w) (hd:Bg s loc M0 w d v):Yields P s loc M0 w x d:=⟨v,w,hr,Upd.refl _ _,hd⟩
theorem NP {t f off n:Nat} {b:Bool} {d:DVal} {v:Value} (hf:tField P t f=some (off,n,b)) (hn:n≠0) (hd:Bg s loc M0 w d v)
  (hk:(∃cs,d= .ref cs)\/(∃id r o,d= .bx id r o/\(Ac s.own loc id r).isSome=true)\/(∃id r k i j,d= .rx id r k i j/\(Ac s.own loc id r).isSome=true)) :
  Yields P s loc M0 w (Instr.fieldAt t v f) (match d with | .ref cs=> .ref (cs.drop off) | .bx id r o=> .bx id r (o+off) | .rx id r k i j=> .rx id r k i (j+off) | _=> .any):=by
 unfold tField at hf
 split at hf
 ·rename_i fs hu
  split at hf
  ·rename_i fl vI
   split at hf
   ·rename_i n' b' mA qM;simp only[aA0,aV0]at hf;obtain⟨rfl,rfl,rfl⟩:=hf
    have main:∀a:Addr,a.spot=none->(Instr.fieldAt t (.pointer (some a)) f).run P w= .ok (.pointer (some ⟨a.block,a.off+fl.offset,none⟩)) w:=by
     intro a ha;obtain⟨ab,ao,asp⟩:=a;simp only at ha;subst ha;simp[Instr.fieldAt,run_underlying hu,vI,Instr.sureAddr,fieldPlace,Bq mA,hn,CD]
    rcases hk with ⟨cs,rfl⟩ | ⟨id,r,o,rfl,hc⟩ | ⟨id,r,k,i,j,rfl,hc⟩
    ·simp only[Bg,rd]at hd;obtain⟨bb,oo,arr,ty,fz,rfl,h2,h3,h4⟩:=hd;refine Yields.same (main _ rfl) ?_;simp only[Bg,rd];exact⟨bb,oo+fl.offset,arr,ty,fz,rfl,h2,h3,EC _ _ _ _ h4⟩
    ·obtain⟨l,hl⟩:=bF0.1 hc;simp only[Bg,rd]at hd;obtain⟨bb,qC,rfl⟩:=hd l hl;refine Yields.same (main _ rfl) ?_;simp only[Bg,rd];intro l' wW;have:l'=l:=by have h':Ac s.own loc id r=some l':=wW;rw[hl]at h';exact(Option.some.inj h').symm
     subst this;exact⟨bb,qC,rfl⟩
    ·obtain⟨l,hl⟩:=bF0.1 hc;simp only[Bg,rd]at hd;obtain⟨bb,qC,rfl⟩:=hd l hl;refine Yields.same (main _ rfl) ?_;simp only[Bg,rd];intro l' wW;have:l'=l:=by have h':Ac s.own loc id r=some l':=wW;rw[hl]at h';exact(Option.some.inj h').symm
     subst this;exact⟨bb,qC,by simp[cS0]⟩
   ·simp at hf
  ·simp at hf
 ·simp at hf
theorem Ot (S:St s.own loc M0 w.heap) {t:TypeId} {d:DVal} {v:Value} {cs:List DVal} {b:Bool} (hb:tAgg P t=some b) (hd:Bg s loc M0 w d v) (hc:DJ s.own d=some cs)
  (hn:b=true->∃n,tCells P t=some n/\n<=cs.length) (h0:b=false->0<cs.length) :
  ∃ad u,v= .pointer (some ad)/\(loadVar t ad).run P w= .ok u w/\Bg s loc M0 w (match b with | true=> .agg (cs.take ((tCells P t).getD 0)) | false=>cs.headD .any) u:=by
 obtain⟨bb,off,arr,ty,fz,rfl,h2,h3⟩:=lV S hd hc
 cases b with
 | true =>
  obtain⟨n,hn,yD⟩:=hn rfl;obtain⟨vs,g1,g2,g3⟩:=Ia _ _ _ (MH n cs arr off h3);have qU:vs.length=n:=by rw[g1];simp;omega
  have hl:=run_loadCells_list (P:=P) w ⟨bb,off,none⟩ vs (fun j u hj=>by
   rw[CD];simp only[World.cell?,h2]
   exact(g3 j u hj).1)
  rw[qU]at hl;refine⟨_,.agg vs.toArray,rfl,?_,?_⟩
  ·simp[loadVar,HX hb,Bq hn,hl]
  ·simp only[hn,bY0,Bg,rd];exact⟨vs.toArray,rfl,g2⟩
 | false =>
  match cs,h0 rfl,h3 with
  | d0::cs,_,h3 =>
   simp only[rdC]at h3;obtain⟨⟨u,k1,k2,k3⟩,_⟩:=h3;refine⟨_,u,rfl,?_,by simpa[Bg]using k3⟩;simp[loadVar,HX hb,run_load,World.cell?,h2,k1]
theorem Ca_ (S:St s.own loc M0 w.heap) {t:TypeId} {d:DVal} {v:Value} {cs:List DVal} {b:Bool} (hb:tAgg P t=some b) (hd:Bg s loc M0 w d v) (hc:DJ s.own d=some cs)
  (hn:b=true->∃n,tCells P t=some n/\n<=cs.length) (h0:b=false->0<cs.length) :
  Yields P s loc M0 w (Instr.loadAt t v) (match b with | true=> .agg (cs.take ((tCells P t).getD 0)) | false=>cs.headD .any):=by
 obtain⟨ad,u,rfl,h1,h2⟩:=Ot S hb hd hc hn h0;exact Yields.same (v:=u) (by simp[Instr.loadAt,Instr.sureAddr,h1]) h2
theorem Bx {t k bs:Nat} (h:tElem P t=some (k,bs)):∃e i,P.underlying t=some (.slice e)/\P.info? e=some i/\i.size=k/\i.bytes=bs/\tCells P e=some k:=by
 unfold tElem at h
 split at h
 ·rename_i e hu
  cases hi:P.info? e with
  | none=>simp[hi]at h
  | some i =>
   simp only[hi,cU0,aA0,aV0]at h;exact⟨e,i,hu,hi,h.1,h.2,by simp[tCells,hi,h.1]⟩
 ·simp at h
theorem xU (S:St s.own loc M0 w.heap) {t:TypeId} {d:DVal} {v:Value} {ik:IntKind} {n:Int} {k bs bs':Nat} {es:List (List DVal)} (ht:tElem P t=some (k,bs)) (hd:Bg s loc M0 w d v)
  (hr:Bi s.own d=some (k,bs',es)) (h0:0<=n) (h1:n<es.length) :
  Yields P s loc M0 w (Instr.indexAt t v (.int ik n)) (GF s.own d n):=by
 obtain⟨e,i,hu,hi,qI,_,kY⟩:=Bx ht
 have run:∀(a:Addr) (len cap:Nat),n<len->(Instr.indexAt t (.slice (some a) len cap) (.int ik n)).run P w= .ok (.pointer (some (a.add (n.toNat*k)))) w:=by
  intro a len cap qV;simp[Instr.indexAt,asIntOf,run_underlying hu,h0,qV,Bq kY]
 have qF:es≠[]:=by intro h;subst h;simp at h1;omega
 cases d with
 | sl k0 b0 es0 =>
  simp only[Bi,aA0,aV0]at hr;obtain⟨rfl,rfl,rfl⟩:=hr;simp only[Bg,rd]at hd;obtain⟨a,cap,rfl,g2,g3,g4,g5⟩:=hd
  rcases g5 with g5 | ⟨bb,off,arr,ty,fz,rfl,q1,q2,q3⟩
  ·exact absurd g5.1 qF
  ·refine Yields.same (run _ _ _ h1) ?_;rw[CD];simp only[GF,Bg,rd];have qV:n.toNat<es0.length:=by omega
   have yI:=Dh _ _ _ _ n.toNat (es0[n.toNat]) q3 (aI0 qV);refine⟨bb,off+n.toNat*k0,arr,ty,fz,rfl,q1,q2,?_⟩;rw[bK0,aI0 qV];exact yI.2
 | osl id r =>
  have qW:=hr;unfold Bi at hr;simp only at hr
  split at hr
  ·rename_i e0 vL
   split at hr
   ·rename_i wV
    split at hr
    ·rename_i et0 k0 b0 es0 qK;simp only[aA0,aV0]at hr;obtain⟨rfl,rfl,rfl⟩:=hr;obtain⟨wR,hid⟩:=Ar vL;have hk:=S.ok e0 wR;rw[qK]at hk;obtain⟨_,hk⟩:=hk;have qE:Ac s.own loc id r=some (loc id):=by unfold Ac;rw[vL];simp[wV]
     simp only[Bg,rd]at hd;have hv:=hd (loc id) qE;rw[<-hid]at hv
     rcases hk with ⟨rfl,_⟩ | ⟨b,arr,cap,p1,p2,p3,p4,p5,p6,p7⟩
     ·exact absurd rfl qF
     ·rw[p2]at hv;subst hv;refine Yields.same (run _ _ _ h1) ?_;rw[CD];simp only[GF,qW,Bg,rd];intro l hl;have wW:Ac s.own loc id r=some l:=hl;rw[qE]at wW;simp only[aA0]at wW;subst wW;exact⟨b,by rw[<-hid];exact p1,by simp⟩
    ·simp at hr
   ·simp at hr
  ·simp at hr
 | vw id r kk bb i0 n0 =>
  unfold Bi at hr;simp only at hr
  split at hr
  ·rename_i e0 vL
   split at hr
   ·rename_i wV
    split at hr
    ·rename_i et0 k0 b0 es0 qK
     split at hr
     ·rename_i hb;obtain⟨rfl,_,hb⟩:=hb;simp only[aA0,aV0]at hr;obtain⟨rfl,rfl,rfl⟩:=hr;have qE:Ac s.own loc id r=some (loc id):=by unfold Ac;rw[vL];simp[wV]
      simp only[Bg,rd]at hd;obtain⟨a,cap,rfl,g1,g2,_,g3,_⟩:=hd (loc id) qE;have qV:n<(n0:Int):=by simp at h1;omega
      obtain⟨b,qC,rfl⟩:=g3 (by omega);refine Yields.same (run _ _ _ qV) ?_;rw[CD];simp only[GF,Bg,rd];intro l hl;have wW:Ac s.own loc id r=some l:=hl;rw[qE]at wW;simp only[aA0]at wW;subst wW;exact⟨b,qC,by simp[bV0]⟩
     ·simp at hr
    ·simp at hr
   ·simp at hr
  ·simp at hr
 | _=>simp[Bi]at hr
theorem Fb_ {t f off n:Nat} {b:Bool} {cs:List DVal} {v:Value} (hf:tField P t f=some (off,n,b)) (hd:Bg s loc M0 w (.agg cs) v) (hl:off+n<=cs.length) (h1:b=false->n=1) :
  Yields P s loc M0 w (Instr.field t v f) (if b then .agg ((cs.drop off).take n)else (cs.drop off).headD .any):=by
 unfold tField at hf
 split at hf
 rotate_left
 ·simp at hf
 rename_i fs hu
 split at hf
 rotate_left
 ·simp at hf
 rename_i fl vI
 split at hf
 rotate_left
 ·simp at hf
 rename_i n' b' mA qM;simp only[aA0,aV0]at hf;obtain⟨rfl,rfl,rfl⟩:=hf;simp only[Bg,rd]at hd;obtain⟨us,rfl,vV⟩:=hd;have qU:=AA _ _ vV;have hp:=Gt (P:=P) (w:=w) (us:=us) (o:=fl.offset) qM mA h1 (by simp at qU;omega);have vX:=DT n' _ _ (DU fl.offset _ _ vV);refine Yields.same (v:=valOf b' ((us.toList.drop fl.offset).take n')) ?_ ?_
 ·simp[Instr.field,run_underlying hu,vI,asAgg,hp]
 ·cases b' with
  | true=>simp only[valOf,if_true,Bg,rd];exact⟨_,rfl,vX⟩
  | false =>
   have:=h1 rfl;subst this;simp only[valOf,aQ0,if_false,Bg];have qV:fl.offset<cs.length:=by omega
   rw[aR0 qV]at vX |-;simp only[cI0,dN0,rdV]at vX;obtain⟨v,r,he,hv,rfl⟩:=vX;rw[he];simpa[aI0 qV]using hv
theorem BY_ {cs:List DVal} {us:List Value} {ty:TypeId} (vV:rdV (cu s loc) (hm s loc M0) w.heap cs us) (qS:∀u∈us,u.oneCell'=true) (S:St s.own loc M0 w.heap) :
  Upd [] w (w.alloc (.cells us.toArray ty))/\w.heap.size∉hm s loc M0/\(w.alloc (.cells us.toArray ty)).heap[w.heap.size]? =some (.cells us.toArray ty (0,0)) /\
   rdC (cu s loc) (hm s loc M0) (w.alloc (.cells us.toArray ty)).heap cs us.toArray 0:=by
 have hu:=Upd.alloc [] w (.cells us.toArray ty);have wG:(w.alloc (.cells us.toArray ty)).heap[w.heap.size]? =some (.cells us.toArray ty (0,0)):=heap_alloc_new w _;refine⟨hu,fun wR=>by have:=S.lt _ wR;omega,wG,?_⟩
 have W:Weak (cu s loc) (cu s loc) (hm s loc M0) (hm s loc M0) w.heap (w.alloc (.cells us.toArray ty)).heap (AJ cs) :=
  Er hu.nil (fun b hb=> .inl hb) (fun e' vE _=>Ay S.nd vE)
 have hus':=AP W cs us (Nat.le_refl _) vV
 have key:∀(H:Array Obj) (cs:List DVal) (us pre:List Value),rdV (cu s loc) (hm s loc M0) H cs us->(∀u∈us,u.oneCell'=true)->rdC (cu s loc) (hm s loc M0) H cs (pre++us).toArray pre.length:=by
  intro H cs
  induction cs with
  | nil=>intros;simp[rdC]
  | cons d ds ih =>
   intro us pre hr ho;simp only[rdV]at hr;obtain⟨v,r,rfl,h1,h2⟩:=hr;simp only[rdC];refine⟨⟨v,by simp,ho v aH0,h1⟩,?_⟩;have:=ih r (pre++[v]) h2 (fun u hu=>ho u (aF0 _ hu));simpa using this
 simpa using key _ cs us [] hus' qS
theorem De {id r:Nat} (hc:Ea s.own id r=true):Ac s.own loc id r=some (loc id):=by
 unfold Ea at hc;unfold Ac
 split at hc
 ·rename_i e he
  try rw[he]
  have:e.r=r:=by simpa using hc
  simp[this]
 ·simp at hc
theorem Fd_ {t len k:Nat} {d:DVal} {v:Value} {ik:IntKind} {n:Int} (ht:SP P t=some (len,k)) (hd:Bg s loc M0 w d v) (hp:Hq_ s.own d len n):Yields P s loc M0 w (Instr.indexAt t v (.int ik n)) (oA d k n):=by
 unfold SP at ht
 split at ht
 ·rename_i ln e hu
  cases hi:P.info? e with
  | none=>rw[hi]at ht;simp at ht
  | some inf =>
   rw[hi]at ht;simp only[cU0,aA0,aV0]at ht;obtain⟨rfl,rfl⟩:=ht;have kY:tCells P e=some inf.size:=by unfold tCells;rw[hi];rfl
   obtain⟨h0,h1,hp⟩:=hp
   have main:∀a:Addr,a.spot=none->(Instr.indexAt t (.pointer (some a)) (.int ik n)).run P w= .ok (.pointer (some ⟨a.block,a.off+n.toNat*inf.size,none⟩)) w:=by
    intro a ha;obtain⟨ab,ao,asp⟩:=a;simp only at ha;subst ha;simp[Instr.indexAt,asIntOf,run_underlying hu,Instr.sureAddr,h0,h1,Bq kY,CD]
   cases d<;>simp only at hp
   case ref cs =>
    simp only[Bg,rd]at hd;obtain⟨bb,oo,arr,ty,fz,rfl,h2,h3,h4⟩:=hd;refine Yields.same (main _ rfl) ?_;simp only[Bg,rd,oA];exact⟨bb,oo+n.toNat*inf.size,arr,ty,fz,rfl,h2,h3,EC _ _ _ _ h4⟩
   case bx id r o =>
    obtain⟨l,hl⟩:=bF0.1 (show (Ac s.own loc id r).isSome=true by rw[De hp];rfl);simp only[Bg,rd]at hd;obtain⟨bb,qC,rfl⟩:=hd l hl;refine Yields.same (main _ rfl) ?_;simp only[Bg,rd,oA];intro l' wW;have:l'=l:=by have h':Ac s.own loc id r=some l':=wW;rw[hl]at h';exact(Option.some.inj h').symm
    subst this;exact⟨bb,qC,rfl⟩
   case rx id r c i j =>
    obtain⟨l,hl⟩:=bF0.1 (show (Ac s.own loc id r).isSome=true by rw[De hp];rfl);simp only[Bg,rd]at hd;obtain⟨bb,qC,rfl⟩:=hd l hl;refine Yields.same (main _ rfl) ?_;simp only[Bg,rd,oA];intro l' wW;have:l'=l:=by have h':Ac s.own loc id r=some l':=wW;rw[hl]at h';exact(Option.some.inj h').symm
    subst this;exact⟨bb,qC,by simp[cS0]⟩
 ·simp at ht
theorem rP (S:St s.own loc M0 w.heap) {d:DVal} {v:Value} (ho:Fy s.own d=true) (hd:Bg s loc M0 w d v):v.oneCell'=true/\v.cells= #[v]:=by
 cases d<;>simp only[Fy,aQ0]at ho<;>simp only[Bg,rd]at hd
 case bool=>subst hd;exact⟨rfl,rfl⟩
 case int=>obtain⟨rfl,_⟩:=hd;exact⟨rfl,rfl⟩
 case str=>obtain⟨rfl,_⟩:=hd;exact⟨rfl,rfl⟩
 case nilp=>subst hd;exact⟨rfl,rfl⟩
 case ref=>obtain⟨_,_,_,_,_,rfl,_⟩:=hd;exact⟨rfl,rfl⟩
 case bx id r o=>obtain⟨b,_,rfl⟩:=hd _ (De ho);exact⟨rfl,rfl⟩
 case rx id r k i j=>obtain⟨b,_,rfl⟩:=hd _ (De ho);exact⟨rfl,rfl⟩
 case nilsl=>subst hd;exact⟨rfl,rfl⟩
 case esl=>obtain⟨_,_,rfl,_⟩:=hd;exact⟨rfl,rfl⟩
 case sl=>obtain⟨_,_,rfl,_⟩:=hd;exact⟨rfl,rfl⟩
 case osl id r =>
  obtain⟨x,hx⟩:=bF0.1 ho;obtain⟨a,cap,rfl,_⟩:=KN (k:=x.1) (bs:=x.2.1) (es:=x.2.2) (p:= .osl id r) S (by simp only[rd];exact hd) hx;exact⟨rfl,rfl⟩
 case vw id r k bs i n=>obtain⟨_,_,rfl,_⟩:=hd _ (De ho);exact⟨rfl,rfl⟩
 case nilmp=>subst hd;exact⟨rfl,rfl⟩
 case omp id r=>obtain⟨b,_,rfl⟩:=hd _ (De ho);exact⟨rfl,rfl⟩
 case nilfn=>subst hd;exact⟨rfl,rfl⟩
 case fn=>obtain⟨_,_,rfl,_⟩:=hd;exact⟨rfl,rfl⟩
 case nilifc=>subst hd;exact⟨rfl,rfl⟩
 case pin=>exact hd.2
 case ifc=>obtain⟨_,rfl,_⟩:=hd;exact⟨rfl,rfl⟩
 case mp=>obtain⟨_,_,_,rfl,_⟩:=hd;exact⟨rfl,rfl⟩
 case pk id r =>
  split at ho
  ·rename_i e he;simp only[aL0,beq_iff_eq]at ho;obtain⟨h1,h2⟩:=ho;have hv:=hd (loc id) (by show Ac _ _ _ _=_;unfold Ac;rw[he];simp[h1]);obtain⟨wR,hid⟩:=Ar he;have hk:=S.ok e wR
   split at h2
   ·rename_i A qN;rw[qN]at hk;rw[hv,<-hid];exact A.one _ _ _ _ hk
   ·rename_i qN;rw[qN]at hk;obtain⟨_,_,_,_,_,hh,_⟩:=hk;rw[hv,<-hid,hh];exact⟨rfl,rfl⟩
   ·simp at h2
  ·simp at ho
theorem Gx (S:St s.own loc M0 w.heap):∀(ds:List DVal) (vs:List Value),ds.all (Fy s.own)=true->rdV (cu s loc) (hm s loc M0) w.heap ds vs->∀v∈vs,v.oneCell'=true
 | [],vs,_,hr=>by simp only[rdV]at hr;subst hr;simp
 | d::ds,vs,ha,hr=>by
  simp only[rdV]at hr;obtain⟨v,r,rfl,h1,h2⟩:=hr;simp only[cT0,aL0]at ha;intro u hu
  rcases aK0.1 hu with rfl | hu
  ·exact(rP S ha.1 h1).1
  ·exact Gx S ds r ha.2 h2 u hu
theorem GM (S:St s.own loc M0 w.heap) {d:DVal} {v:Value} (hp:Cz s.own d=true) (hd:Bg s loc M0 w d v) :
  rdV (cu s loc) (hm s loc M0) w.heap (AI d) v.cells.toList/\∀u∈v.cells.toList,u.oneCell'=true:=by
 have base:Fy s.own d=true->rdV (cu s loc) (hm s loc M0) w.heap [d] v.cells.toList/\∀u∈v.cells.toList,u.oneCell'=true:=by
  intro ho;obtain⟨h1,h2⟩:=rP S ho hd;rw[h2];refine⟨by simp only[rdV];exact⟨v,[],rfl,hd,rfl⟩,by simpa using h1⟩
 cases d
 case agg cs =>
  simp only[Bg,rd]at hd;obtain⟨us,rfl,vV⟩:=hd;exact⟨vV,Gx S cs _ hp vV⟩
 all_goals exact base (by simpa[Cz,AI]using hp)
theorem HJ_ (S:St s.own loc M0 w.heap) {t:TypeId} {d:DVal} {v:Value} (hp:Cz s.own d=true) (hd:Bg s loc M0 w d v):Yields P s loc M0 w (Instr.box t v) (.ref (AI d)):=by
 obtain⟨h1,h2⟩:=GM S hp hd;obtain⟨g1,g2,g3,g4⟩:=BY_ (ty:=t) h1 h2 S;refine⟨.pointer (some ⟨w.heap.size,0,none⟩),_,?_,g1,?_⟩
 ·simp[Instr.box,newVar,newRow]
 ·simp only[rd];exact⟨_,0,_,_,_,rfl,g2,g3,g4⟩
theorem LU : ∀(us:List Value) (arr:Array Value) (off i:Nat),off+i+us.length<=arr.size ->
  ((us.zipIdx i).foldl (fun cs (c,j)=>cs.setIfInBounds (off+j) c) arr).toList=arr.toList.take (off+i)++us++arr.toList.drop (off+i+us.length)
 | [],arr,off,i,_=>by simp
 | u::us,arr,off,i,h=>by
  simp only[List.length_cons]at h;simp only[List.zipIdx_cons,cY0];rw[LU us _ off (i+1) (by simp;omega)];simp only[Array.toList_setIfInBounds,List.length_cons];have qV:off+i<arr.toList.length:=by simp;omega
  rw[List.set_eq_take_append_cons_drop,if_pos qV];have e1:(arr.toList.take (off+i)).length=off+i:=by simp;omega
  rw[show off+(i+1)=(off+i)+1 by omega,List.take_append,e1];simp only[aS0,show off+i+1-(off+i)=1 by omega];rw[List.take_take,List.drop_append,e1];simp only[show min (off+i+1) (off+i)=off+i by omega];rw[List.drop_take];have e2:off+i+1+us.length-(off+i)=us.length+1:=by omega
  have e3:off+i-(off+i+1+us.length)=0:=by omega
  simp only[e2,e3,dN0,List.nil_append,dP0,eQ0,cI0,List.cons_append];simp
  congr 1
  omega
theorem Wb {placeD placeV:Nat->Option (Nat×Nat)} (zA:∀i x,placeD i=some x->placeV i=some x) :
  ∀(ds:List (Nat×DVal)) (vs:List (Nat×Value)) (cells:List DVal) (arr:Array Value) (out:List DVal),ds.map (·.1)=vs.map (·.1) ->
   (∀(i:Nat) (p:Nat×DVal) (q:Nat×Value),ds[i]? =some p->vs[i]? =some q->rdV (cu s loc) (hm s loc M0) w.heap (AI p.2) q.2.cells.toList) ->
   rdV (cu s loc) (hm s loc M0) w.heap cells arr.toList->FT placeD cells ds=some out->∃arr',Instr.fill placeV arr vs=some arr'/\rdV (cu s loc) (hm s loc M0) w.heap out arr'.toList
 | [],vs,cells,arr,out,hi,_,hc,hf=>by
  simp only[List.map_nil]at hi;have:vs=[]:=by cases vs<;>simp_all
  subst this;simp only[FT,aA0]at hf;subst hf;exact⟨arr,rfl,hc⟩
 | (i,d)::ds,[],cells,arr,out,hi,_,_,_=>by simp at hi
 | (i,d)::ds,(i',v)::vs,cells,arr,out,hi,hr,hc,hf=>by
  simp only[List.map_cons,bG0]at hi;obtain⟨rfl,hi⟩:=hi;simp only[FT]at hf
  split at hf
  ·simp at hf
  rename_i off size hp
  split at hf
  rotate_left
  ·simp at hf
  rename_i qI;have h0:=hr 0 (i,d) (i,v) (by simp) (by simp);have fC:=AA _ _ h0;have hlc:=AA _ _ hc;simp only[bI0]at fC hlc;have qD:=LU v.cells.toList arr off 0 (by simp;omega)
  have key:rdV (cu s loc) (hm s loc M0) w.heap (Dx cells off (AI d)) (v.cells.zipIdx.foldl (fun cs (c,j)=>cs.setIfInBounds (off+j) c) arr).toList:=by
   rw[<-Array.foldl_toList,Array.toList_zipIdx,qD];unfold Dx;refine Cf _ _ _ _ (Cf _ _ _ _ ?_ h0) ?_
   ·simpa using DT off _ _ hc
   ·simpa[fC]using DU (off+(AI d).length) _ _ hc
  have ih:=Wb zA ds vs _ _ out hi (fun j p q hp hq=>hr (j+1) p q (by simpa using hp) (by simpa using hq)) key hf;obtain⟨arr',h1,h2⟩:=ih;refine⟨arr',?_,h2⟩;simp only[Instr.fill,zA _ _ hp];rw[if_neg (by simp;omega)];exact h1
theorem Xe {t:TypeId} {fs:Array Field} (hu:P.underlying t=some (.struct fs)) (wZ:∀f∈fs.toList,(tCells P f.type).isSome=true) :
  (fs.mapM (m:=Sem) fun f=>do pure (f.offset,<-sizeOf f.type)).run P w= .ok (fs.map fun f=>(f.offset,(tCells P f.type).getD 0)) w:=by
 rw[<-Array.toArray_toList (xs:=fs)]
 generalize fs.toList=l at wZ
 rw[List.mapM_toArray]
 have:∀(l:List Field),(∀f∈l,(tCells P f.type).isSome=true)->(l.mapM (m:=Sem) fun f=>do pure (f.offset,<-sizeOf f.type)).run P w= .ok (l.map fun f=>(f.offset,(tCells P f.type).getD 0)) w:=by
  intro l
  induction l with
  | nil=>intro _;simp
  | cons f l ih =>
   intro h;obtain⟨n,hn⟩:=bF0.1 (h f aH0);have ih':=ih (fun g hg=>h g (aF0 _ hg));simp only[List.mapM_cons,Sem.run_bind,Bq hn,Result.andThen_ok,Sem.run_pure,ih',List.map_cons,hn,bY0]
 rw[Sem.run_map,this l wZ];simp
theorem Gr {t:TypeId} {z:List DVal} (hz:tZero P t=some z):∃v,(zeroValue t).run P w= .ok v w/\z=v.cells.toList.map Cb:=by
 unfold tZero at hz
 split at hz
 ·rename_i i hi
  cases hv:i.zero with
  | none=>simp[hv]at hz
  | some v =>
   simp only[hv,cU0,aA0]at hz;exact⟨v,by simp[zeroValue,typeInfo,hi,hv],hz.symm⟩
 ·simp at hz
theorem Fc_ (S:St s.own loc M0 w.heap) {t:TypeId} {z out:List DVal} {fs:Array Field} {ds:List (Nat×DVal)} {vs:Array (Nat×Value)} (hz:tZero P t=some z) (hs:Dl P t=some fs)
  (wZ:fs.toList.all (fun f=>(tCells P f.type).isSome)=true)
  (hi:ds.map (·.1)=vs.toList.map (·.1)) (hr:∀(i:Nat) (p:Nat×DVal) (q:Nat×Value),ds[i]? =some p->vs.toList[i]? =some q->rdV (cu s loc) (hm s loc M0) w.heap (AI p.2) q.2.cells.toList)
  (hf:FT (Hw P t) z ds=some out):Yields P s loc M0 w (Instr.build t vs) (.agg out):=by
 obtain⟨zv,yG,rfl⟩:=Gr (w:=w) hz
 have hu:P.underlying t=some (.struct fs):=by
  unfold Dl at hs
  split at hs
  ·simp only[aA0]at hs;subst hs;assumption
  ·simp at hs
 have wR:=Xe (P:=P) (w:=w) hu (aZ0.1 wZ)
 have zA:∀i x,Hw P t i=some x->((fs.map fun f=>(f.offset,(tCells P f.type).getD 0))[i]?)=some x:=by
  intro i x hx;have hna:SP P t=none:=by unfold SP;rw[hu]
  unfold Hw tField at hx;rw[hu,hna]at hx;simp only at hx
  cases nW:fs[i]? with
  | none=>simp[nW]at hx
  | some f =>
   simp only[nW]at hx
   cases hc:tCells P f.type with
   | none=>simp[hc]at hx
   | some n =>
    cases ha:tAgg P f.type with
    | none=>simp[hc,ha]at hx
    | some b =>
     simp only[hc,ha,cU0,aA0]at hx;simp[nW,hc,hx]
 obtain⟨arr',h1,h2⟩:=Wb zA ds vs.toList _ zv.cells out hi hr (BB _) hf;refine Yields.same (v:= .agg arr') ?_ (by simp only[Bg,rd];exact⟨arr',rfl,h2⟩);simp only[Instr.build,Sem.run_bind,yG,Result.andThen_ok,run_underlying hu,wR,h1,Sem.run_pure]
theorem Cb_ (S:St s.own loc M0 w.heap) {t:TypeId} {z out:List DVal} {ds:List (Nat×DVal)} {vs:Array (Nat×Value)} (hz:tZero P t=some z) (ha:(SP P t).isSome=true)
  (hi:ds.map (·.1)=vs.toList.map (·.1)) (hr:∀(i:Nat) (p:Nat×DVal) (q:Nat×Value),ds[i]? =some p->vs.toList[i]? =some q->rdV (cu s loc) (hm s loc M0) w.heap (AI p.2) q.2.cells.toList)
  (hf:FT (Hw P t) z ds=some out):Yields P s loc M0 w (Instr.build t vs) (.agg out):=by
 obtain⟨zv,yG,rfl⟩:=Gr (w:=w) hz;obtain⟨a,haa⟩:=bF0.1 ha;have haa0:=haa;unfold SP at haa
 split at haa
 ·rename_i n e hu;rw[bB0]at haa;obtain⟨inf,hinf,rfl⟩:=haa;have hc:tCells P e=some inf.size:=by simp[tCells,hinf]
  have zA:∀i x,Hw P t i=some x->(fun i=>some (i*inf.size,inf.size)) i=some x:=by
   intro i x hx;unfold Hw at hx;rw[haa0]at hx;have:tField P t i=none:=by simp[tField,hu]
   rw[this]at hx;exact hx
  obtain⟨arr',h1,h2⟩:=Wb zA ds vs.toList _ zv.cells out hi hr (BB _) hf;refine Yields.same (v:= .agg arr') ?_ (by simp only[Bg,rd];exact⟨arr',rfl,h2⟩);simp only[Instr.build,Sem.run_bind,yG,Result.andThen_ok,run_underlying hu,Bq hc,h1,Sem.run_pure]
 ·simp at haa
theorem Cc_ {t len:Nat} {cs:List DVal} {v:Value} {ik:IntKind} {n:Int} (ht:Cp_ P t=some len) (hd:Bg s loc M0 w (.agg cs) v) (h0:0<=n) (h1:n<len) (h2:len<=cs.length):Yields P s loc M0 w (Instr.index t v (.int ik n)) ((cs.drop n.toNat).headD .any):=by
 unfold Cp_ at ht
 split at ht
 ·rename_i ln e hu
  split at ht
  ·rename_i hc;simp only[aA0]at ht;subst ht;simp only[Bg,rd]at hd;obtain⟨us,rfl,hr⟩:=hd;have hl:=AA _ _ hr;have hp:=Gt (P:=P) (w:=w) (us:=us) (o:=n.toNat) hc.2 hc.1 (fun _=>rfl) (by rw[bI0]at hl;omega);have hn:n.toNat<cs.length:=by omega
   refine Yields.same (v:=valOf false ((us.toList.drop n.toNat).take 1)) ?_ ?_
   ·simp[Instr.index,asIntOf,run_underlying hu,h0,h1,Bq hc.1,hp]
   ·have bA:=DT 1 _ _ (DU n.toNat _ _ hr);rw[aR0 hn]at bA |-;simp only[cI0,dN0,rdV]at bA;obtain⟨u,r,e1,e2,e3⟩:=bA;subst e3;rw[e1];exact e2
  ·simp at ht
 ·simp at ht
theorem HI_ (S:St s.own loc M0 w.heap) {t ty:TypeId} {d:DVal} {v:Value} {k bs:Nat} {es:List (List DVal)} (ht:(tElem P t).isSome=true) (hd:Bg s loc M0 w d v) (hr:Bi s.own d=some (k,bs,es)) :
  Yields P s loc M0 w (Builtin.len_ #[t] ty #[v]) (.int .i64 es.length):=by
 obtain⟨x,hx⟩:=bF0.1 ht;obtain⟨e,i,hu,_⟩:=Bx (k:=x.1) (bs:=x.2) hx;obtain⟨a,cap,rfl,h2,h3,_⟩:=KN S hd hr;refine Yields.same (v:= .int .i64 es.length) ?_ ?_
 ·simp[Builtin.len_,run_underlying hu,goInt]
 ·simp only[Bg,rd,KV,true_and];unfold maxLen at h3;omega
theorem YO (k:Nat):∀(vs:List (Nat×Value)) (i0:Nat) (pre rest:List Value),vs.map (·.1)=List.range' i0 vs.length->(∀q∈vs,q.2.cells.size=k)->pre.length=i0*k->rest.length=vs.length*k ->
  Instr.fill (fun i=>some (i*k,k)) (pre++rest).toArray vs=some (pre++vs.flatMap fun q=>q.2.cells.toList).toArray
 | [],i0,pre,rest,_,_,_,hr=>by
  simp only[List.length_nil,Nat.zero_mul,dY0]at hr;subst hr;simp[Instr.fill]
 | (i,v)::vs,i0,pre,rest,hi,hk,hp,hr=>by
  simp only[List.map_cons,List.length_cons,eI0,bG0]at hi;obtain⟨rfl,hi⟩:=hi;have hv:v.cells.size=k:=hk _ aH0;simp only[List.length_cons,bV0,Nat.one_mul]at hr;simp only[Instr.fill];rw[if_neg (by simp;omega)];have qD:=LU v.cells.toList (pre++rest).toArray (i*k) 0 (by simp;omega)
  have e:(v.cells.zipIdx.foldl (fun cs (c,j)=>cs.setIfInBounds (i*k+j) c) (pre++rest).toArray)=((pre++v.cells.toList)++rest.drop k).toArray:=by
   apply Array.ext'
   rw[<-Array.foldl_toList,Array.toList_zipIdx,qD];simp only[dH0,aS0];rw[List.take_append_of_le_length (by omega),cK0 (by omega),bI0,hv,<-hp,List.drop_append,dA0 (by omega)];simp
  rw[e,YO k vs (i+1) (pre++v.cells.toList) (rest.drop k) hi (fun q hq=>hk q (aF0 _ hq)) (by simp[hp,hv,bV0]) (by simp;omega)];simp
theorem XC {cur:ES} {M:List Nat} {H:Array Obj} (k:Nat):∀(ds:List (List DVal)) (vs:List (List Value)) (pre:List Value),ds.length=vs.length ->
  (∀(i:Nat) (cs:List DVal) (us:List Value),ds[i]? =some cs->vs[i]? =some us->cs.length=k/\rdV cur M H cs us/\∀u∈us,u.oneCell'=true)->Dt cur M H k ds (pre++vs.flatten).toArray pre.length
 | [],vs,pre,_,_=>by simp[Dt]
 | d::ds,[],pre,hl,_=>by simp at hl
 | d::ds,u::vs,pre,hl,h=>by
  have h0:=h 0 d u (by simp) (by simp);have qU:=AA _ _ h0.2.1
  have key:∀(cs:List DVal) (us pre post:List Value),rdV cur M H cs us->(∀u∈us,u.oneCell'=true)->rdC cur M H cs (pre++us++post).toArray pre.length:=by
   intro cs
   induction cs with
   | nil=>intros;simp[rdC]
   | cons d ds ih =>
    intro us pre post hr ho;simp only[rdV]at hr;obtain⟨v,r,rfl,h1,h2⟩:=hr;simp only[rdC];refine⟨⟨v,by simp,ho v aH0,h1⟩,?_⟩;have:=ih r (pre++[v]) post h2 (fun u hu=>ho u (aF0 _ hu));simpa using this
  simp only[Dt];refine⟨h0.1,?_,?_⟩
  ·have:=key d u pre vs.flatten h0.2.1 h0.2.2;simpa using this
  ·have ih:=XC k ds vs (pre++u) (by simpa using hl) (fun i cs us h1 h2=>h (i+1) cs us (by simpa using h1) (by simpa using h2));have e:(pre++u).length=pre.length+k:=by simp[qU,h0.1]
   rw[e]at ih;simpa using ih
theorem JT (S:St s.own loc M0 w.heap) {t len k bs:Nat} {ds:List DVal} {vs:Array (Nat×Value)} (ht:tElem P t=some (k,bs)) (zD:0<k) (kX:len*k<=16777216) (vR:len*bs<=150000000000000) (fU:len<=16777216)
  (hi:vs.toList.map (·.1)=List.range len) (qU:ds.length=len) (hp:ds.all (fun d=>Cz s.own d&&(AI d).length==k)=true)
  (hr:∀(i:Nat) (d:DVal) (q:Nat×Value),ds[i]? =some d->vs.toList[i]? =some q->Bg s loc M0 w d q.2)
  (hz:(match P.underlying t with | some (.slice e)=>(tZero P e).isSome | _=>false)=true):∃(e:TypeId) (us:List Value),P.underlying t=some (.slice e)/\(Instr.buildSlice t len vs).run P w= .ok (.slice (some ⟨w.heap.size,0,none⟩) len len) (w.alloc (.cells us.toArray e))/\us.length=len*k/\Dt (cu s loc) (hm s loc M0) w.heap k (ds.map AI) us.toArray 0:=by
 obtain⟨e,ei,hu,cV,_,_,hce⟩:=Bx ht;rw[hu]at hz;obtain⟨z,hz⟩:=bF0.1 hz;obtain⟨zv,yG,_⟩:=Gr (w:=w) hz;have hvl:vs.toList.length=len:=by have:=congrArg List.length hi;simpa using this
 have vK:∀(i:Nat) (d:DVal) (q:Nat×Value),ds[i]? =some d->vs.toList[i]? =some q->(AI d).length=k/\rdV (cu s loc) (hm s loc M0) w.heap (AI d) q.2.cells.toList/\∀u∈q.2.cells.toList,u.oneCell'=true:=by
  intro i d q hd hq;have h1:=aZ0.1 hp d (bJ0 hd);simp only[aL0,beq_iff_eq]at h1;exact⟨h1.2,GM S h1.1 (hr i d q hd hq)⟩
 have qI:∀q∈vs.toList,q.2.cells.size=k:=by
  intro q hq;obtain⟨i,zP,wB⟩:=bW0 hq;have hid:i<ds.length:=by omega
  have:=vK i ds[i] q (aI0 hid) (by rw[aI0 zP,wB]);have hl:=AA _ _ this.2.1;simp only[bI0]at hl;omega
 have pH:∀Z:Array Value,Z.size=len*k->Instr.fill (fun i=>some (i*k,k)) Z vs.toList=some (vs.toList.flatMap fun q=>q.2.cells.toList).toArray:=by
  intro Z hZs;have:=YO k vs.toList 0 [] Z.toList (by rw[hi,hvl,eJ0]) qI (by simp) (by simp only[bI0,hZs,hvl]);simpa using this
 let us:List Value:=vs.toList.flatMap fun q=>q.2.cells.toList
 have pX:∀l:List (Nat×Value),(∀q∈l,q.2.cells.size=k)->(l.flatMap fun q=>q.2.cells.toList).length=l.length*k:=by
  intro l
  induction l with
  | nil=>intro _;simp
  | cons q l ih =>
   intro hq;have h1:=hq q aH0;have h2:=ih fun x hx=>hq x (aF0 _ hx)
   simp only[cP0,aD0,List.length_cons,bI0,h1,h2,bV0];omega
 refine⟨e,us,hu,?_,by rw[pX _ qI,hvl],?_⟩
 ·have h24':(2:Nat) ^ 24=16777216:=by decide
  have h24:¬(len*k > 2 ^ 24):=by omega
  simp only[Instr.buildSlice,Sem.run_bind,run_underlying hu,Result.andThen_ok,Bq hce,h24,if_false]
  by_cases h0:len*k=0
  ·simp only[h0,if_true,Sem.run_bind,Sem.run_pure,Result.andThen_ok];rw[pH _ (by simp[h0])];simp[newRow,us]
  ·simp only[h0,if_false,Sem.run_bind,yG,Sem.run_pure,Result.andThen_ok];rw[pH _ (by simp)];simp[newRow,us]
 ·have:=XC (cur:=cu s loc) (M:=hm s loc M0) (H:=w.heap) k (ds.map AI) (vs.toList.map fun q=>q.2.cells.toList) [] (by rw[aJ0,aJ0,qU,hvl]) (by
   intro i cs us h1 h2;simp only[bH0,bB0]at h1 h2;obtain⟨d,hd,rfl⟩:=h1;obtain⟨q,hq,rfl⟩:=h2
   exact vK i d q hd hq)
  simpa[us,List.flatMap]using this
theorem UO (S:St s.own loc M0 w.heap) {t len k bs:Nat} {ds:List DVal} {vs:Array (Nat×Value)} (ht:tElem P t=some (k,bs)) (zD:0<k) (kX:len*k<=16777216) (vR:len*bs<=150000000000000) (fU:len<=16777216)
  (hi:vs.toList.map (·.1)=List.range len) (qU:ds.length=len) (hp:ds.all (fun d=>Cz s.own d&&(AI d).length==k)=true)
  (hr:∀(i:Nat) (d:DVal) (q:Nat×Value),ds[i]? =some d->vs.toList[i]? =some q->Bg s loc M0 w d q.2)
  (hz:(match P.underlying t with | some (.slice e)=>(tZero P e).isSome | _=>false)=true):Yields P s loc M0 w (Instr.buildSlice t len vs) (.sl k bs (ds.map AI)):=by
 obtain⟨e,us,_,h1,_,h2⟩:=JT (M0:=M0) S ht zD kX vR fU hi qU hp hr hz;have wG:(w.alloc (.cells us.toArray e)).heap[w.heap.size]? =some (.cells us.toArray e (0,0)):=heap_alloc_new w _;refine⟨_,_,h1,Upd.alloc _ _ _,?_⟩;simp only[rd];refine⟨_,len,by simp[qU];rfl,by simp[qU],by unfold maxLen;omega,by simpa[qU]using vR,?_⟩;refine .inr ⟨w.heap.size,0,us.toArray,e,(0,0),rfl,fun hmm=>by have:=S.lt _ hmm;omega,wG,?_⟩
 have W:Weak (cu s loc) (cu s loc) (hm s loc M0) (hm s loc M0) w.heap (w.alloc (.cells us.toArray e)).heap (Br (ds.map AI)) :=
  Er (Upd.alloc [] w _).nil (fun b hb=> .inl hb) (fun e' vE _=>Ay S.nd vE)
 exact Cu W k _ _ 0 (Nat.le_refl _) h2
theorem Yk (S:St s.own loc M0 w.heap) {p:DVal} {v:Value} {ks vs:List DVal} (hp:Bg s loc M0 w p v) (hc:GA s.own p=some (ks,vs)) :
  (v= .map none/\ks=[]/\vs=[])\/∃b es clk,v= .map (some b)/\w.heap[b]? =some (.map es clk)/\GP es clk/\rdV (cu s loc) (hm s loc M0) w.heap ks (es.toList.map (·.key))/\rdV (cu s loc) (hm s loc M0) w.heap vs (es.toList.map (·.val)):=by
 unfold GA at hc
 split at hc
 ·simp only[aA0,aV0]at hc;obtain⟨rfl,rfl⟩:=hc;simp only[Bg,rd]at hp;obtain⟨b,es,clk,h1,_,h3,h4,h5,h6⟩:=hp;exact .inr ⟨b,es,clk,h1,h3,h4,h5,h6⟩
 ·simp only[aA0,aV0]at hc;obtain⟨rfl,rfl⟩:=hc;simp only[Bg,rd]at hp;exact .inl ⟨hp,rfl,rfl⟩
 ·rename_i id r
  split at hc
  ·rename_i e he
   split at hc
   ·rename_i wV
    split at hc
    ·rename_i ks0 vs0 qK;simp only[aA0,aV0]at hc;obtain⟨rfl,rfl⟩:=hc;obtain⟨wR,hid⟩:=Ar he;have hk:=S.ok e wR;rw[qK]at hk;obtain⟨b,es,clk,h1,h2,h3,h4,h5⟩:=hk;simp only[Bg,rd]at hp;obtain⟨b',qM,hv⟩:=hp (loc id) (by unfold cu Ac;rw[he];simp[wV]);rw[<-hid,h1]at qM;simp only[bG0,and_true]at qM;subst qM;exact .inr ⟨b,es,clk,hv,h2,h3.ok,h4,h5⟩
    ·rename_i ks0 vs0 qK;simp only[aA0,aV0]at hc;obtain⟨rfl,rfl⟩:=hc;obtain⟨wR,hid⟩:=Ar he;have hk:=S.ok e wR;rw[qK]at hk;obtain⟨b,es,clk,h1,h2,h3,h4,h5⟩:=hk;simp only[Bg,rd]at hp;obtain⟨b',qM,hv⟩:=hp (loc id) (by unfold cu Ac;rw[he];simp[wV]);rw[<-hid,h1]at qM;simp only[bG0,and_true]at qM;subst qM;exact .inr ⟨b,es,clk,hv,h2,h3,h4,h5⟩
    ·simp at hc
   ·simp at hc
  ·simp at hc
 ·simp at hc
theorem Xd {t:TypeId} {x:TypeId×TypeId} (h:tMap P t=some x):P.underlying t=some (.map x.1 x.2):=by
 unfold tMap at h
 split at h
 ·simp only[aA0]at h;subst h;assumption
 ·simp at h
theorem BZ_ (S:St s.own loc M0 w.heap) {t kt et:TypeId} {d x z:DVal} {v u:Value} {ks vs:List DVal} {ok:Bool} (ht:tMap P t=some (kt,et)) (hd:Bg s loc M0 w d v) (hc:GA s.own d=some (ks,vs)) (hx:Bg s loc M0 w x u)
  (hk:Cm P kt x=true) (zE:ks.all (Cm P kt)=true) (hz:tZeroD P et=some z) :
  Yields P s loc M0 w (Instr.lookup t v u ok) (if ok then .tup [(match Bc ks x with | some j=>vs.getD j .any | none=>z),.bool (Bc ks x).isSome]else (match Bc ks x with | some j=>vs.getD j .any | none=>z)):=by
 obtain⟨zv,yG,hzd⟩:=Aa_ (P:=P) (cur:=cu s loc) (M:=hm s loc M0) (h:=w.heap) hz (w:=w);have hu:=Xd ht;simp only at hu
 have fin:∀(es:Array MapEntry) (v1:Value) (b1:Bool) (d1:DVal),Bg s loc M0 w d1 v1->(Instr.lookup t v u ok).run P w= .ok (if ok then .tuple #[v1,.bool b1]else v1) w->Yields P s loc M0 w (Instr.lookup t v u ok) (if ok then .tup [d1,.bool b1]else d1):=by
  intro es v1 b1 d1 pK hr;refine Yields.same hr ?_;cases ok
  ·exact pK
  ·simp only[if_true,Bg,rd];exact⟨_,rfl,by simp only[rdV];exact⟨v1,[.bool b1],rfl,pK,.bool b1,[],rfl,by simp only[rd],rfl⟩⟩
 rcases Yk S hd hc with ⟨rfl,rfl,rfl⟩ | ⟨b,es,clk,rfl,hb,_,h5,h6⟩
 ·have kL:=Fm (w:=w) (e:=true) hk hx;refine fin #[] zv false _ ?_ ?_
  ·simpa[Bc]using hzd
  ·have hf:=Hf (w:=w) hk hx [] [] (by simp) (by simp[rdV]);simp only[Bc,Option.map_none]at hf;cases ok<;>simp[Instr.lookup,run_underlying hu,kL,hf,yG]
 ·have kL:=Fm (w:=w) (e:=es.isEmpty) hk hx;have hf:=Hf (w:=w) hk hx es.toList ks zE h5;have hg:(getObj b).run P w= .ok (.map es clk) w:=_root_.Go.run_getObj_map (P:=P) (w:=w) b es clk hb
  cases hl:Bc ks x with
  | none =>
   rw[hl]at hf;simp only[Option.map_none]at hf;refine fin es zv false _ hzd ?_;cases ok<;>simp[Instr.lookup,run_underlying hu,hg,kL,hf,yG]
  | some j =>
   rw[hl]at hf;simp only[cU0]at hf;have hj:=Ym hl;have yD:=AA _ _ h5;have gK:=AA _ _ h6;simp only[aJ0,bI0]at yD gK;have hjv:j<vs.length:=by omega
   obtain⟨v1,fT,hr1⟩:=QM _ _ j _ h6 (aI0 hjv);rw[bH0]at fT;refine fin es v1 true _ ?_ ?_
   ·simp only[bK0,aI0 hjv,bY0];exact hr1
   ·rw[fT]at hf;simp only[bY0]at hf;cases ok<;>simp[Instr.lookup,run_underlying hu,hg,kL,hf]
theorem Qn (S:St s.own loc M0 w.heap) {t ty:TypeId} {d:DVal} {v:Value} {ks vs:List DVal} (ht:(tMap P t).isSome=true) (hd:Bg s loc M0 w d v) (hc:GA s.own d=some (ks,vs)) (hl:(ks.length:Int)<=9223372036854775807) :
  Yields P s loc M0 w (Builtin.len_ #[t] ty #[v]) (.int .i64 ks.length):=by
 obtain⟨y,hy⟩:=bF0.1 ht;have hu:=Xd hy
 rcases Yk S hd hc with ⟨rfl,rfl,rfl⟩ | ⟨b,es,clk,rfl,hb,_,h5,_⟩
 ·exact Yields.same (v:= .int .i64 0) (by simp[Builtin.len_,run_underlying hu,goInt]) (by simp[Bg,rd,KV])
 ·have hln:=AA _ _ h5;simp only[aJ0,bI0]at hln;have hg:(getObj b).run P w= .ok (.map es clk) w:=_root_.Go.run_getObj_map (P:=P) (w:=w) b es clk hb;refine Yields.same (v:= .int .i64 es.size) (by simp[Builtin.len_,run_underlying hu,goInt,hg]) ?_;simp only[Bg,rd,KV,hln];exact⟨trivial,by omega,hl⟩
theorem XD {cur:ES} {M:List Nat} {H:Array Obj} {k:Nat}:∀(n:Nat) (es:List (List DVal)) (arr:Array Value) (o:Nat),Dt cur M H k es arr o->Dt cur M H k (es.drop n) arr (o+n*k)
 | 0,es,arr,o,hr=>by simpa using hr
 | n+1,[],arr,o,hr=>by simp[Dt]
 | n+1,c::es,arr,o,hr=>by
  simp only[Dt]at hr;have:=XD n es arr (o+k) hr.2.2;simp only[dP0]
  rwa[show o+k+n*k=o+(n+1)*k by rw[bV0];omega]at this
theorem XA {cur:ES} {M:List Nat} {H:Array Obj} {k:Nat}:∀(n:Nat) (es:List (List DVal)) (arr:Array Value) (o:Nat),Dt cur M H k es arr o->Dt cur M H k (es.take n) arr o
 | 0,es,arr,o,hr=>by simp[Dt]
 | n+1,[],arr,o,hr=>by simp[Dt]
 | n+1,c::es,arr,o,hr=>by
  simp only[Dt,cI0]at hr |-;exact⟨hr.1,hr.2.1,XA n es arr (o+k) hr.2.2⟩
theorem run_sliceBound {e:Operand->DVal} {x:Operand} (hρ:Bg s loc M0 w (e x) (ρ x)) {d:Int} {y:Nat} {c:BoundsCode} (h0:0<=CY e d (some x)) (h1:CY e d (some x)<=y):(Instr.sliceBound (ρ x) y c).run P w= .ok (CY e d (some x)).toNat w:=by
 simp only[CY]at h0 h1 |-
 split at h0
 ·rename_i ik n hx;simp only[hx]at h1 |-;rw[hx]at hρ;simp only[Bg,rd]at hρ;rw[hρ.1];simp[Instr.sliceBound,asIntOf,h0,h1]
 ·omega
theorem HW {e:Operand->DVal} (hρ:∀x,Bg s loc M0 w (e x) (ρ x)) {b:Bool} {len cap:Nat} {l h:Option Operand} (hp:Ey e len l h none) (hc:len<=cap) :
  (Instr.sliceBounds b len cap (l.map ρ) (h.map ρ) none).run P w= .ok ((CY e 0 l).toNat,(CY e len h).toNat,cap) w:=by
 obtain⟨h0,h1,h2,h3,h4⟩:=hp;have en:∀d,CY e d none=d:=fun _=>rfl
 rw[en]at h2 h3
 cases h with
 | none =>
  rw[en]at h1 |-
  cases l with
  | none=>simp[Instr.sliceBounds,en]
  | some y =>
   have hb:=run_sliceBound (P:=P) (c:= .sliceB) (hρ y) (d:=0) (y:=len) h0 h1;simp[Instr.sliceBounds,hb]
 | some x =>
  have hh:=run_sliceBound (P:=P) (c:=if b then .sliceAcap else .sliceAlen) (hρ x) (d:=len) (y:=cap) (by omega) (by omega)
  cases l with
  | none=>simp[Instr.sliceBounds,en,hh]
  | some y =>
   have hb:=run_sliceBound (P:=P) (c:= .sliceB) (hρ y) (d:=0) (y:=(CY e len (some x)).toNat) h0 (by omega);simp[Instr.sliceBounds,hb,hh]
theorem MD (S:St s.own loc M0 w.heap) {id r et k bs:Nat} {es:List (List DVal)} {e:Ent} (he:Ah s.own id=some e) (wV:e.r=r) (qN:e.obj= .row et k bs es) :
  Ac s.own loc id r=some (loc id)/\∃a cap,(loc id).hdr= .slice a es.length cap/\es.length<=cap/\cap<=maxLen/\((es=[]/\(loc id).blks=[]/\a=none/\cap=0)\/∃b,(loc id).blks=[b]/\a=some ⟨b,0,none⟩):=by
 obtain⟨wR,hid⟩:=Ar he;have hk:=S.ok e wR;rw[qN]at hk;obtain⟨_,hk⟩:=hk;rw[hid]at hk;refine⟨by unfold Ac;rw[he];simp[wV],?_⟩
 rcases hk with ⟨rfl,h1,h2⟩ | ⟨b,arr,cap,p1,p2,p3,p4,p5,p6,p7⟩
 ·exact⟨none,0,h2,by simp,by unfold maxLen;omega,.inl ⟨rfl,h1,rfl,rfl⟩⟩
 ·exact⟨_,cap,p2,p4,p5,.inr ⟨b,p1,rfl⟩⟩
theorem eK {own:List Ent} {d:DVal} {id r k bs:Nat} {es:List (List DVal)} (hd:d= .osl id r) (h:Bi own d=some (k,bs,es)):∃e et,Ah own id=some e/\e.r=r/\e.obj= .row et k bs es:=by
 subst hd;unfold Bi at h;simp only at h
 split at h
 ·rename_i e he
  split at h
  ·rename_i wV
   split at h
   ·rename_i et k' bs' es' qN;simp only[aA0,aV0]at h;obtain⟨rfl,rfl,rfl⟩:=h;exact⟨e,et,he,wV,qN⟩
   ·simp at h
  ·simp at h
 ·simp at h
theorem As_ {own:List Ent} {d:DVal} {id r k bs i n:Nat} (hd:d= .vw id r k bs i n) (h:(Bi own d).isSome=true):∃e et b1 es,Ah own id=some e/\e.r=r/\e.obj= .row et k b1 es/\i+n<=es.length:=by
 subst hd;unfold Bi at h;simp only at h
 split at h
 ·rename_i e he
  split at h
  ·rename_i wV
   split at h
   ·rename_i et k' bs' es' qN
    split at h
    ·rename_i hb;obtain⟨rfl,_,hb⟩:=hb;exact⟨e,et,bs',es',he,wV,qN,hb⟩
    ·simp at h
   ·simp at h
  ·simp at h
 ·simp at h
theorem FL {e:Operand->DVal} (hρ:∀x,Bg s loc M0 w (e x) (ρ x)) {b:Bool} {len cap:Nat} {l h m:Option Operand} (hp:Ey e len l h m) (hc:len<=cap) :
  ∃mm,(Instr.sliceBounds b len cap (l.map ρ) (h.map ρ) (m.map ρ)).run P w= .ok ((CY e 0 l).toNat,(CY e len h).toNat,mm) w/\(CY e len h).toNat<=mm/\mm<=cap:=by
 obtain⟨h0,h1,h2,h3,h4⟩:=hp;have en:∀d,CY e d none=d:=fun _=>rfl
 cases m with
 | none =>
  rw[en]at h2 h3;refine⟨cap,?_,by omega,Nat.le_refl _⟩
  cases h with
  | none =>
   rw[en]at h1 |-
   cases l with
   | none=>simp[Instr.sliceBounds,en]
   | some y =>
    have hb:=run_sliceBound (P:=P) (c:= .sliceB) (hρ y) (d:=0) (y:=len) h0 h1;simp[Instr.sliceBounds,hb]
  | some x =>
   have hh:=run_sliceBound (P:=P) (c:=if b then .sliceAcap else .sliceAlen) (hρ x) (d:=len) (y:=cap) (by omega) (by omega)
   cases l with
   | none=>simp[Instr.sliceBounds,en,hh]
   | some y =>
    have hb:=run_sliceBound (P:=P) (c:= .sliceB) (hρ y) (d:=0) (y:=(CY e len (some x)).toNat) h0 (by omega);simp[Instr.sliceBounds,hb,hh]
 | some z =>
  obtain⟨x,rfl⟩:=bF0.1 (h4 rfl);have hm:=run_sliceBound (P:=P) (c:=if b then .slice3Acap else .slice3Alen) (hρ z) (d:=len) (y:=cap) (by omega) (by omega);have hh:=run_sliceBound (P:=P) (c:= .slice3B) (hρ x) (d:=len) (y:=(CY e len (some z)).toNat) (by omega) (by omega);refine⟨(CY e len (some z)).toNat,?_,by omega,by omega⟩
  cases l with
  | none=>simp[Instr.sliceBounds,en,hm,hh]
  | some y =>
   have hb:=run_sliceBound (P:=P) (c:= .slice3C) (hρ y) (d:=0) (y:=(CY e len (some x)).toNat) h0 (by omega);simp[Instr.sliceBounds,hb,hm,hh]
theorem TT {o:Oper} {e:Operand->DVal} (S:St s.own loc M0 w.heap) (hρ:∀x,Bg s loc M0 w (e x) (ρ x)) (hp:DV P s.own e o.op) :
  ∃v w',(execOp ρ o).run P w= .ok (.value v) w'/\Upd [] w w'/\rd (cu s loc) (hm s loc M0) w'.heap (Bm P s.own e o.op) v:=by
 obtain⟨dst,op,type,Fx,after,guard⟩:=o;simp only at hp |-
 have fin:∀(x:Sem Value) (d:DVal),Yields P s loc M0 w x d->∃v w',(do pure (.value (<-x)):Sem Next).run P w= .ok (.value v) w'/\Upd [] w w'/\rd (cu s loc) (hm s loc M0) w'.heap d v:=by
  rintro x d ⟨v,w',h1,h2,h3⟩;exact⟨v,w',by rw[Sem.run_bind,h1];rfl,h2,h3⟩
 have fin':∀(x:Sem Value) (d:DVal),Yields P s loc M0 w x d->∃v w',((x.run P w).andThen fun a w'=>Result.ok (Next.value a) w')= .ok (.value v) w'/\Upd [] w w'/\rd (cu s loc) (hm s loc M0) w'.heap d v:=by
  rintro x d ⟨v,w',h1,h2,h3⟩;exact⟨v,w',by rw[h1];rfl,h2,h3⟩
 have one:∀(v:Value) (d:DVal),Bg s loc M0 w d v->∃v' w',(pure (.value v):Sem Next).run P w= .ok (.value v') w'/\Upd [] w w'/\rd (cu s loc) (hm s loc M0) w'.heap d v' :=
  fun v d h=>⟨v,w,rfl,Upd.refl _ _,h⟩
 cases op<;>simp only[DV]at hp
 case move x=>exact one _ _ (hρ x)
 case assign x=>exact one _ _ (hρ x)
 case pick c a b =>
  have hc:=hρ c
  split at hp
  ·rename_i t ht;rw[ht]at hc;simp only[Bg,rd]at hc;simp only[Bm,ht,execOp,hc];refine one (if t then ρ a else ρ b) _ ?_;have ha:=hρ a;have hb:=hρ b
   generalize e a=da at *
   generalize e b=db at *
   have plain:Bg s loc M0 w (if t then da else db) (if t then ρ a else ρ b):=by cases t<;>simp<;>assumption
   unfold JY
   split
   ·cases t<;>simpa using plain
   ·rename_i p c q;simp only[IS]at hp;simp only[Bg,rd]at ha hb |-;cases t
    ·exact hb.1 (hp rfl)
    ·exact ha
   ·rename_i c p q;simp only[IS]at hp;simp only[Bg,rd]at ha hb |-;cases t
    ·exact hb
    ·exact ha.1 (hp rfl)
   ·exact plain
  ·exact hp.elim
 case fieldAddr t x f =>
  have hx:=hρ x;simp only[execOp];refine fin _ _ ?_
  split at hp
  ·rename_i off n b cs hf hd;rw[hd]at hx;have:=NP (P:=P) hf hp hx (.inl ⟨cs,rfl⟩);simpa only[Bm,hf,hd]using this
  ·rename_i off n b id r o hf hd;rw[hd]at hx;have:=NP (P:=P) hf hp.1 hx (.inr (.inl ⟨id,r,o,rfl,by rw[De hp.2];rfl⟩));simpa only[Bm,hf,hd]using this
  ·rename_i off n b id r k i j hf hd;rw[hd]at hx;have:=NP (P:=P) hf hp.1 hx (.inr (.inr ⟨id,r,k,i,j,rfl,by rw[De hp.2];rfl⟩));simpa only[Bm,hf,hd]using this
  ·exact hp.elim
 case load t a =>
  have ha:=hρ a;simp only[execOp];refine fin _ _ ?_
  split at hp
  ·rename_i n cs hg hn hc;have:=Ca_ (P:=P) S (b:=true) hg ha hc (fun _=>⟨n,hn,hp⟩) (by simp);simpa only[Bm,hg,hn,hc,bY0]using this
  ·rename_i cs hg hc;have:=Ca_ (P:=P) S (b:=false) hg ha hc (by simp) (fun _=>hp);cases hn:tCells P t<;>simpa only[Bm,hg,hn,hc]using this
  ·exact hp.elim
 case indexAddr t x i =>
  have hx:=hρ x;have hi:=hρ i;simp only[execOp];refine fin _ _ ?_
  split at hp
  ·rename_i ik n k bs k' bs' es cV yU hr;obtain⟨rfl,h0,h1⟩:=hp;rw[cV]at hi;simp only[Bg,rd]at hi;rw[hi.1];have:=xU (P:=P) S (ik:=ik) yU hx hr h0 h1;simpa only[Bm,cV,yU]using this
  ·rename_i ik n cV yU
   split at hp
   ·rename_i len k hta;rw[cV]at hi;simp only[Bg,rd]at hi;rw[hi.1];have:=Fd_ (P:=P) (ik:=ik) hta hx hp;simpa only[Bm,cV,yU,hta]using this
   ·exact hp.elim
  ·exact hp.elim
 case index t x i =>
  have hx:=hρ x;have hi:=hρ i;simp only[execOp];refine fin _ _ ?_
  split at hp
  ·rename_i str ik n hd cV;obtain⟨ht,h0,h1⟩:=hp;rw[cV]at hi;rw[hd]at hx;simp only[Bg,rd]at hi hx;rw[hi.1,hx.1];simp only[Bm,hd,cV]
   have hu:P.underlying t=some .string:=by
    unfold tStr at ht
    split at ht
    ·assumption
    ·simp at ht
   have qV:n.toNat<str.size:=by omega
   refine Yields.same (v:= .int .u8 (str[n.toNat]).toNat) ?_ ?_
   ·simp[Instr.index,asIntOf,run_underlying hu,h0,qV]
   ·have e:str.data.toList.getD n.toNat 0=str[n.toNat]:=by
     have bH:n.toNat<str.data.size:=qV;rw[bK0,aI0 (by simpa using bH)];rfl
    simp only[Bg,rd,e,KV,true_and];have:=(str[n.toNat]).toNat_lt;omega
  ·rename_i cs ik n hd cV
   split at hp
   ·rename_i len hta;rw[cV]at hi;rw[hd]at hx;simp only[Bg,rd]at hi;rw[hi.1];have:=Cc_ (P:=P) (ik:=ik) hta hx hp.1 hp.2.1 hp.2.2;simpa only[Bm,hd,cV]using this
   ·exact hp.elim
  ·exact hp.elim
 case field t x f =>
  have hx:=hρ x;simp only[execOp];refine fin _ _ ?_
  split at hp
  ·rename_i off n b cs hf hd;rw[hd]at hx;have:=Fb_ (P:=P) hf hx hp.1 hp.2;simpa only[Bm,hf,hd]using this
  ·exact hp.elim
 case binOp op t x y ty =>
  obtain⟨d,hd⟩:=bF0.1 hp;obtain⟨r,h1,h2⟩:=FY_ (P:=P) (w:=w) (xo:=x) (yo:=y) hd (hρ x) (hρ y);simp only[execOp];refine fin _ _ ?_;simp only[Bm,hd,bY0];exact Yields.same h1 h2
 case unOp op t x =>
  have hx:=hρ x;simp only[execOp];refine fin _ _ ?_
  split at hp
  ·rename_i b hd;rw[hd]at hx;simp only[Bg,rd]at hx;rw[hx];simp only[Bm,hd];exact Yields.same (v:= .bool (!b)) rfl (by simp only[Bg,rd])
  ·rename_i k n hd;rw[hd]at hx;simp only[Bg,rd]at hx;rw[hx.1];simp only[Bm,hd];exact Yields.same (v:= .int k (k.wrap (0-n))) rfl (by simp only[Bg,rd,JF,and_self])
  ·exact hp.elim
 case convert src dst x =>
  have hx:=hρ x;obtain⟨hs,hp⟩:=hp;obtain⟨sd,hs⟩:=bF0.1 hs;simp only[execOp];refine fin _ _ ?_
  split at hp
  ·rename_i k n hd;rw[hd]at hx;simp only[Bg,rd]at hx;rw[hx.1];obtain⟨k',vH⟩:=bF0.1 hp;simp only[Bm,hd,vH]
   have hu:P.underlying dst=some (.int k'):=by
    unfold GB_ at vH
    split at vH
    ·simp only[aA0]at vH;subst vH;assumption
    ·simp at vH
   refine Yields.same (v:= .int k' (k'.wrap n)) ?_ (by simp only[Bg,rd,JF,and_self]);simp[convert,run_underlying hs,run_underlying hu,Conv.intToInt]
  ·rename_i str hd;rw[hd]at hx;simp only[Bg,rd]at hx;simp only[Bm,hd]
   have hu:P.underlying dst=some .string:=by
    unfold tStr at hp
    split at hp
    ·assumption
    ·simp at hp
   refine Yields.same (v:=ρ x) ?_ (by simp only[Bg,rd];exact hx);rw[hx.1];simp only[convert,Sem.run_bind,run_underlying hs,run_underlying hu,Result.andThen_ok];cases sd<;>rfl
  ·exact hp.elim
 case extract x i =>
  have hx:=hρ x;simp only[execOp];refine fin _ _ ?_
  split at hp
  ·rename_i vs hd;rw[hd]at hx;simp only[Bg,rd]at hx;obtain⟨us,hu,vV⟩:=hx;rw[hu];obtain⟨v,hv,hr⟩:=QM _ _ i vs[i] vV (aI0 hp);simp only[Bm,hd];refine Yields.same (v:=v) ?_ ?_
   ·have zB:us[i]? =some v:=by simpa using hv
    simp[Instr.extract,zB]
   ·rw[bK0,aI0 hp];exact hr
  ·exact hp.elim
 case makeFunc f us cs =>
  have key:∀l:List Operand,rdV (cu s loc) (hm s loc M0) w.heap (l.map e) (l.map ρ):=by
   intro l
   induction l with
   | nil=>simp[rdV]
   | cons x l ih=>simp only[List.map_cons,rdV];exact⟨_,_,rfl,hρ x,ih⟩
  simp only[execOp,Bm];refine fin _ _ (Yields.same (v:= .func f (us.map ρ) (cs.map ρ)) rfl ?_);simp only[Bg,rd];exact⟨_,_,rfl,by simpa using key us.toList,by simpa using key cs.toList⟩
 case makeInterface t x =>
  simp only[execOp,Bm];refine fin _ _ (Yields.same (v:= .iface t (ρ x)) ?_ (by simp only[Bg,rd];exact⟨_,rfl,hρ x⟩))
  cases hu:P.underlying t with
  | none=>simp[hu]at hp
  | some d=>cases d<;>simp[hu]at hp<;>simp[Instr.makeInterface,run_underlying hu]
 case nilCheck x =>
  have hx:=hρ x
  split at hp
  ·rename_i cs hd;rw[hd]at hx;simp only[Bg,rd]at hx;have qB:=hx;obtain⟨b,off,arr,ty,fz,hv,_⟩:=hx;simp only[execOp,hv,Bm,hd];exact one _ _ (by rw[<-hv];simp only[Bg,rd];exact qB)
  ·rename_i id r off hd;rw[hd]at hx;have qB:=hx;simp only[Bg,rd]at hx;obtain⟨b,_,hv⟩:=hx _ (De hp);simp only[execOp,hv,Bm,hd];exact one _ _ (by rw[<-hv];exact qB)
  ·rename_i id r k i j hd;rw[hd]at hx;have qB:=hx;simp only[Bg,rd]at hx;obtain⟨b,_,hv⟩:=hx _ (De hp);simp only[execOp,hv,Bm,hd];exact one _ _ (by rw[<-hv];exact qB)
  ·rename_i f us cs hd;rw[hd]at hx;simp only[Bg,rd]at hx;have qB:=hx;obtain⟨us',cs',hv,_⟩:=hx;simp only[execOp,hv,Bm,hd];exact one _ _ (by rw[<-hv];simp only[Bg,rd];exact qB)
  ·exact hp.elim
 case box t x =>
  simp only[execOp,Bm];exact fin _ _ (HJ_ S hp (hρ x))
 case build t parts =>
  split at hp
  ·rename_i z hz;obtain⟨h1,h2,h3⟩:=hp;unfold tParts at h3
   split at h3
   ·rename_i fs hs;obtain⟨out,vY⟩:=bF0.1 h1;simp only[execOp,Bm,hz,vY,bY0];refine fin _ _ (Fc_ S hz hs h3 (ds:=parts.toList.map fun p=>(p.1,e p.2)) (by simp) ?_ vY);intro i p q zM wB;simp only[bH0,bB0,dS0]at zM wB;obtain⟨a,ha,rfl⟩:=zM;obtain⟨b,hb,rfl⟩:=wB;rw[ha]at hb;simp only[aA0]at hb;subst hb;exact(GM S (aZ0.1 h2 a (bJ0 ha)) (hρ a.2)).1
   ·obtain⟨out,vY⟩:=bF0.1 h1;simp only[execOp,Bm,hz,vY,bY0];refine fin _ _ (Cb_ S hz h3 (ds:=parts.toList.map fun p=>(p.1,e p.2)) (by simp) ?_ vY);intro i p q zM wB;simp only[bH0,bB0,dS0]at zM wB;obtain⟨a,ha,rfl⟩:=zM;obtain⟨b,hb,rfl⟩:=wB;rw[ha]at hb;simp only[aA0]at hb;subst hb;exact(GM S (aZ0.1 h2 a (bJ0 ha)) (hρ a.2)).1
  ·exact hp.elim
 case buildSlice t len parts =>
  split at hp
  ·rename_i k bs ht;obtain⟨h1,h2,h3,h4,h5,h6,h7⟩:=hp;simp only[execOp,Bm,ht];have qU:parts.toList.length=len:=by have:=congrArg List.length h1;simpa using this
   have:=UO (P:=P) (vs:=parts.map fun p=>(p.1,ρ p.2)) S ht h5 h2 h3 h4 (ds:=parts.toList.map fun p=>e p.2) (by rw[dS0,cC0];exact h1) (by simpa using qU) (by simpa[List.all_map,Function.comp_def]using h6) (by
    intro i d q hd hq;simp only[bH0,bB0,dS0]at hd hq;obtain⟨a,ha,rfl⟩:=hd;obtain⟨b,hb,rfl⟩:=hq;rw[ha]at hb;simp only[aA0]at hb;subst hb
    exact hρ a.2) h7
   refine fin _ _ ?_;simpa[cC0,Function.comp_def]using this
  ·exact hp.elim
 case slice t x l h m =>
  have hx:=hρ x;simp only[execOp];refine fin _ _ ?_
  split at hp
  ·rename_i k bs es hd;rw[hd]at hx;simp only[Bg,rd]at hx;obtain⟨a,cap,hv,g1,g2,g3,g4⟩:=hx;obtain⟨e',i,hu,hi,qI,_,_⟩:=Bx hp.1;obtain⟨mm,hr,k1,k2⟩:=FL (P:=P) hρ (b:=true) hp.2 g1;obtain⟨p0,p1,p2,p3,_⟩:=hp.2;simp only[Bm,hd];rw[hv]
   have qU:((es.drop (CY e 0 l).toNat).take ((CY e es.length h).toNat-(CY e 0 l).toNat)).length=(CY e es.length h).toNat-(CY e 0 l).toNat:=by
    simp only[aY0,cD0];omega
   refine Yields.same (v:= .slice (if mm=(CY e 0 l).toNat then a else a.map (·.add ((CY e 0 l).toNat*k))) ((CY e es.length h).toNat-(CY e 0 l).toNat) (mm-(CY e 0 l).toNat)) ?_ ?_
   ·simp[Instr.sliceAt,Instr.slice,run_underlying hu,hr,sizeOf,typeInfo,hi,qI]
   ·simp only[Bg,rd];refine⟨_,_,by rw[qU],by rw[qU];omega,by omega,?_,?_⟩
    ·refine Nat.le_trans (aW0 bs ?_) g3;rw[qU];omega
    ·by_cases hz:(CY e es.length h).toNat-(CY e 0 l).toNat=0
     ·refine .inl ⟨bN0 (by rw[qU];exact hz),?_⟩;intro hn
      rcases g4 with ⟨rfl,hc⟩ | ⟨b,off,arr,ty,fz,rfl,_⟩
      ·split at hn
       ·omega
       ·cases a with
        | none=>have:=hc rfl;omega
        | some a=>simp at hn
      ·split at hn<;>simp at hn
     ·right
      rcases g4 with ⟨rfl,_⟩ | ⟨b,off,arr,ty,fz,rfl,q1,q2,q3⟩
      ·simp only[List.length_nil]at hz qU p3 p2;simp at qU;omega
      ·refine⟨b,off+(CY e 0 l).toNat*k,arr,ty,fz,?_,q1,q2,XA _ _ _ _ (XD _ _ _ _ q3)⟩;rw[if_neg (by omega)];simp[CD]
  ·rename_i hd;rw[hd]at hx;simp only[Bg,rd]at hx;obtain⟨y,hy⟩:=bF0.1 hp.1;obtain⟨e',i,hu,hi,qI,_,_⟩:=Bx (k:=y.1) (bs:=y.2) hy;obtain⟨mm,hr,k1,k2⟩:=FL (P:=P) hρ (b:=true) hp.2 (Nat.le_refl 0);obtain⟨p0,p1,p2,p3,_⟩:=hp.2;simp only[Bm,hd];rw[hx];have e0:((0:Nat):Int)=0:=rfl;rw[e0]at hr k1 p1 p2 p3;have z1:(CY e 0 l).toNat=0:=by omega
   have z2:(CY e 0 h).toNat=0:=by omega
   have z3:mm=0:=by omega
   subst z3;refine Yields.same (v:= .slice none 0 0) ?_ (by simp only[Bg,rd]);simp[Instr.sliceAt,Instr.slice,run_underlying hu,hr,sizeOf,typeInfo,hi,z1,z2]
  ·rename_i id r hd;obtain⟨rfl,hp⟩:=hp;rw[hd]at hx
   cases mZ:Bi s.own (.osl id r)with
   | none=>rw[mZ]at hp;exact hp.elim
   | some x =>
    obtain⟨k,bs,es⟩:=x;rw[mZ]at hp;simp only at hp;obtain⟨e',i,hu,hi,qI,_,_⟩:=Bx hp.1;obtain⟨e0,et,vL,wV,qN⟩:=eK rfl mZ;obtain⟨qE,a,cap,hh,g1,g2,g3⟩:=MD S vL wV qN;simp only[Bg,rd]at hx;have hv:=hx _ qE;rw[hh]at hv;have hr:=HW (P:=P) hρ (b:=true) hp.2 g1;obtain⟨p0,p1,p2,p3,_⟩:=hp.2;have en:CY e es.length none=es.length:=rfl;rw[en]at p2 p3;simp only[Bm,hd,mZ];rw[hv];refine Yields.same (v:= .slice (if cap=(CY e 0 l).toNat then a else a.map (·.add ((CY e 0 l).toNat*k))) ((CY e es.length h).toNat-(CY e 0 l).toNat) (cap-(CY e 0 l).toNat)) ?_ ?_
    ·simp[Instr.sliceAt,Instr.slice,run_underlying hu,hr,sizeOf,typeInfo,hi,qI]
    ·simp only[Bg,rd];intro lc hl;have wW:Ac s.own loc id r=some lc:=hl;rw[qE]at wW;simp only[aA0]at wW;subst wW;refine⟨_,_,rfl,by omega,by omega,fun hn=> ?_,fun hn=> ?_,fun hz=> ?_⟩
     ·rcases g3 with ⟨_,_,_,yA⟩ | ⟨b,qC,rfl⟩
      ·omega
      ·split at hn<;>simp at hn
     ·rcases g3 with ⟨rfl,_⟩ | ⟨b,qC,rfl⟩
      ·simp only[List.length_nil]at p2 hn;omega
      ·refine⟨b,qC,?_⟩;rw[if_neg (by omega)];simp[CD]
     ·refine .inr ⟨es.length,?_⟩;rw[hh,hz]
      rcases g3 with ⟨rfl,_,rfl,rfl⟩ | ⟨b,qC,rfl⟩
      ·simp
      ·simp[CD]
  ·rename_i id r k bs i0 n0 hd;obtain⟨rfl,mZ,hp⟩:=hp;rw[hd]at hx;obtain⟨e0,et,b1,es,vL,wV,qN,hbound⟩:=As_ rfl mZ;obtain⟨e',i,hu,hi,qI,_,_⟩:=Bx hp.1;obtain⟨qE,a0,cap0,hh,g1,g2,g3⟩:=MD S vL wV qN;simp only[Bg,rd]at hx;obtain⟨a,cap,hv,q1,q2,q5,q3,q4⟩:=hx _ qE;have hr:=HW (P:=P) hρ (b:=true) hp.2 q1;obtain⟨p0,p1,p2,p3,_⟩:=hp.2;have en:CY e n0 none=n0:=rfl;rw[en]at p2 p3;simp only[Bm,hd];rw[hv];refine Yields.same (v:= .slice (if cap=(CY e 0 l).toNat then a else a.map (·.add ((CY e 0 l).toNat*k))) ((CY e n0 h).toNat-(CY e 0 l).toNat) (cap-(CY e 0 l).toNat)) ?_ ?_
   ·simp[Instr.sliceAt,Instr.slice,run_underlying hu,hr,sizeOf,typeInfo,hi,qI]
   ·simp only[Bg,rd];intro lc hl;have wW:Ac s.own loc id r=some lc:=hl;rw[qE]at wW;simp only[aA0]at wW;subst wW;refine⟨_,_,rfl,by omega,by omega,fun hn=> ?_,fun hn=> ?_,fun hz=> ?_⟩
    ·have ha:a=none:=by
      split at hn
      ·exact hn
      ·simpa using hn
     have:=q5 ha;omega
    ·obtain⟨b,qC,rfl⟩:=q3 (by omega);refine⟨b,qC,?_⟩;rw[if_neg (by omega)];simp[CD,bV0]
    ·rcases q4 (by omega)with qR | ⟨n1,hh1⟩
     ·exact .inl qR
     rw[hh]at hh1;simp only[Value.slice.injEq]at hh1;obtain⟨rfl,_,rfl⟩:=hh1;refine .inr ⟨es.length,?_⟩;have z0:(CY e 0 l).toNat=0:=by omega
     rw[hh,z0]
     rcases g3 with ⟨rfl,_,rfl,rfl⟩ | ⟨b,qC,rfl⟩
     ·simp
     ·simp[CD]
  ·rename_i str hd;obtain⟨ht,rfl,jC⟩:=hp;rw[hd]at hx;simp only[Bg,rd]at hx
   have hu:P.underlying t=some .string:=by
    unfold tStr at ht
    split at ht
    ·assumption
    ·simp at ht
   obtain⟨mm,hr,k1,k2⟩:=FL (P:=P) hρ (b:=false) (cap:=str.size) jC (Nat.le_refl _);simp only[Bm,hd];rw[hx.1];refine Yields.same (v:= .string (str.extract (CY e 0 l).toNat (CY e str.size h).toNat)) ?_ ?_
   ·simp only[Option.map_none]at hr;simp[Instr.sliceAt,Instr.slice,run_underlying hu,hr]
   ·simp only[Bg,rd,true_and];have h2:=hx.2
    have:(str.extract (CY e 0 l).toNat (CY e str.size h).toNat).size<=str.size:=by
     rw[ByteArray.size_extract];omega
    omega
  ·exact hp.elim
 case lookup t x i ok =>
  have hx:=hρ x;have hi:=hρ i;simp only[execOp];refine fin _ _ ?_
  split at hp
  ·rename_i kt et ks vs ht hc;obtain⟨z,hz⟩:=bF0.1 hp.2.2;have:=BZ_ (P:=P) (ok:=ok) S ht hx hc hi hp.1 hp.2.1 hz;simpa only[Bm,ht,hc,hz,bY0]using this
  ·exact hp.elim
 case call c =>
  obtain⟨callee,args,ats⟩:=c;cases callee<;>simp only at hp
  case builtin b =>
   cases b<;>simp only[Tp]at hp
   case append =>
    obtain⟨al⟩:=args;obtain⟨tl⟩:=ats
    match al,tl,hp with
    | [x,y],[t,t'],hp =>
     have hx:=hρ x;have hy:=hρ y;simp only[List.map_cons,List.map_nil]at hp;simp only[Bm,List.map_cons,List.map_nil,Nt];simp only[execOp,resolve,Sem.run_bind,dM0,List.map_cons,List.map_nil,Sem.run_pure,Result.andThen_ok,invoke,builtin];refine fin' _ _ ?_
     split at hp
     ·rename_i ha hb;rw[ha]at hx;rw[hb]at hy;simp only[Bg,rd]at hx hy;obtain⟨rfl,h2⟩:=hp;obtain⟨y0,hy0⟩:=bF0.1 h2;obtain⟨e0,i,hu,hi,_⟩:=Bx (k:=y0.1) (bs:=y0.2) hy0;rw[hx,hy];refine Yields.same (v:= .slice none 0 0) (by simp[Builtin.append_,run_underlying hu,sizeOf,typeInfo,hi,Builtin.lenOf,Builtin.firstCells,storeCells]) ?_;simp only[Bg,rd]
     ·exact hp.elim
   case min =>
    obtain⟨al⟩:=args;obtain⟨tl⟩:=ats
    match al,hp with
    | [x,y],hp =>
     have hx:=hρ x;have hy:=hρ y;simp only[List.map_cons,List.map_nil]at hp;simp only[Bm,List.map_cons,List.map_nil,Nt];simp only[execOp,resolve,Sem.run_bind,dM0,List.map_cons,List.map_nil,Sem.run_pure,Result.andThen_ok,invoke,builtin];refine fin' _ _ ?_
     split at hp
     ·rename_i k a k' b ha hb;rw[ha]at hx;rw[hb]at hy;simp only[Bg,rd]at hx hy;subst hp;rw[hx.1,hy.1];refine Yields.same (v:= .int k (if b<a then b else a)) (by simp[Builtin.min_,Builtin.min2]) ?_;simp only[Bg,rd,true_and]
      split
      ·exact hy.2
      ·exact hx.2
     ·exact hp.elim
    | [],hp=>simp at hp
    | [_],hp=>simp at hp
    | _::_::_::_,hp=>simp at hp
   case max =>
    obtain⟨al⟩:=args;obtain⟨tl⟩:=ats
    match al,hp with
    | [x,y],hp =>
     have hx:=hρ x;have hy:=hρ y;simp only[List.map_cons,List.map_nil]at hp;simp only[Bm,List.map_cons,List.map_nil,Nt];simp only[execOp,resolve,Sem.run_bind,dM0,List.map_cons,List.map_nil,Sem.run_pure,Result.andThen_ok,invoke,builtin];refine fin' _ _ ?_
     split at hp
     ·rename_i k a k' b ha hb;rw[ha]at hx;rw[hb]at hy;simp only[Bg,rd]at hx hy;subst hp;rw[hx.1,hy.1];refine Yields.same (v:= .int k (if a<b then b else a)) (by simp[Builtin.max_,Builtin.max2]) ?_;simp only[Bg,rd,true_and]
      split
      ·exact hy.2
      ·exact hx.2
     ·exact hp.elim
    | [],hp=>simp at hp
    | [_],hp=>simp at hp
    | _::_::_::_,hp=>simp at hp
   case len =>
    have qA:∀x∈args.toList,Bg s loc M0 w (e x) (ρ x):=fun x _=>hρ x
    obtain⟨al⟩:=args;obtain⟨tl⟩:=ats
    match al,tl,hp,qA with
    | [x],[t],hp,qA =>
     have hx:=hρ x;simp only[List.map_cons,List.map_nil]at hp;simp only[Bm,List.map_cons,List.map_nil,Nt];simp only[execOp,resolve,Sem.run_bind,dM0,List.map_cons,List.map_nil,Sem.run_pure,Result.andThen_ok,invoke,builtin];refine fin' _ _ ?_
     split at hp
     ·rename_i str hd;rw[hd]at hx;simp only[Bg,rd]at hx;rw[hx.1]
      have hu:P.underlying t=some .string:=by
       unfold tStr at hp
       split at hp
       ·assumption
       ·simp at hp
      have qI:=hx.2;refine Yields.same (v:= .int .i64 str.size) (by simp[Builtin.len_,run_underlying hu,goInt]) ?_;simp only[Bg,rd,KV,true_and];unfold maxLen at qI;omega
     ·rename_i hd;rw[hd]at hx;simp only[Bg,rd]at hx;rw[hx];obtain⟨y,hy⟩:=bF0.1 hp;obtain⟨e,i,hu,_⟩:=Bx (k:=y.1) (bs:=y.2) hy;refine Yields.same (v:= .int .i64 0) (by simp[Builtin.len_,run_underlying hu,goInt]) ?_;simp only[Bg,rd,KV,true_and];omega
     ·rename_i ks vs hd;rw[hd]at hx;exact Qn (P:=P) S hp.1 hx rfl hp.2
     ·rename_i hd;rw[hd]at hx;have:=Qn (P:=P) (ty:=type) (ks:=[]) (vs:=[]) S hp hx rfl (by simp);simpa using this
     ·rename_i id r hd;rw[hd]at hx;obtain⟨h1,h2⟩:=hp
      cases hq:GA s.own (.omp id r)with
      | none=>rw[hq]at h2;exact h2.elim
      | some y =>
       rw[hq]at h2;exact Qn (P:=P) S h1 hx hq h2
     ·rename_i d h1 h2 h3 h4 h5;obtain⟨y,hy⟩:=bF0.1 hp.1;have:=HI_ (P:=P) (ty:=type) S hp.2 hx (k:=y.1) (bs:=y.2.1) (es:=y.2.2) hy;cases hd:e x<;>rw[hd]at h1 h2 h3 h4 h5 hy<;>first | (exact(h1 _ rfl).elim) | (exact(h2 rfl).elim) | (exact(h3 _ _ rfl).elim) | (exact(h4 rfl).elim) | (exact(h5 _ _ rfl).elim) | (simp only[hy];exact this)
end
end Go.Dm
end
