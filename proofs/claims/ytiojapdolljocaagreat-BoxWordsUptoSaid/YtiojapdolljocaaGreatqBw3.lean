/- Parts of a proof, laid together: EnE. -/
import Derived.MapKept
import Derived.Test.YtiojapdolljocaaGreatqBw2
set_option linter.unusedSimpArgs false
set_option maxHeartbeats 8000000
set_option linter.unusedVariables false
set_option linter.unusedSectionVars false
section
namespace Go.Dm
variable [DMode]
def AB : DVal->List DVal
 | .agg cs=>cs
 | d=>[d]
def Dl (cells:List DVal) (off:Nat) (cs:List DVal):List DVal:=cells.take off++cs++cells.drop (off+cs.length)
def FZ (place:Nat->Option (Nat×Nat)) (cells:List DVal):List (Nat×DVal)->Option (List DVal)
 | []=>some cells
 | (i,d)::rest=>match place i with
  | none=>none
  | some (off,size)=>if (AB d).length=size/\off+size<=cells.length then FZ place (Dl cells off (AB d)) rest else none
def DK (own:List Ent) (id r:Nat):Bool:=match Aj own id with | some e=>e.r==r | none=>false
def Fe (own:List Ent):DVal->Bool
 | .any | .undef | .sel _ _ | .tup _ | .agg _=>false
 | .bx id r _=>DK own id r
 | .rx id r _ _ _=>DK own id r
 | .omp id r=>DK own id r
 | .osl id r=>(AZ own (.osl id r)).isSome
 | .vw id r _ _ _ _=>DK own id r
 | .pk id r=>match Aj own id with | some e=>e.r==r&&(match e.obj with | .abs _=>true | _=>false) | none=>false
 | _=>true
def Cs (own:List Ent) (d:DVal):Bool:=(AB d).all (Fe own)
def IQ (t:Bool):DVal->DVal->DVal
 | .bool p,.bool q=> .bool (if t then p else q)
 | .bool p,.sel _ (.bool q)=> .bool (if t then p else q)
 | .sel _ (.bool p),.bool q=> .bool (if t then p else q)
 | a,b=>if t then a else b
def HJ (t:Bool):DVal->DVal->Prop
 | .bool _,.sel c (.bool _)=>t=false->c=true
 | .sel c (.bool _),.bool _=>t=true->c=true
 | _,_=>True
def FW (own:List Ent) (d:DVal) (n:Int):DVal :=
 match d with
 | .sl _ _ es=> .ref (es.getD n.toNat [])
 | .osl id r=>match AZ own (.osl id r)with | some (k,_,_)=> .rx id r k n.toNat 0 | none=> .any
 | .vw id r k _ i _=> .rx id r k (i+n.toNat) 0
 | _=> .any
def FT (own:List Ent):DVal->Option (List DVal×List DVal)
 | .mp ks vs=>some (ks,vs)
 | .nilmp=>some ([],[])
 | .omp id r=>match Aj own id with
  | some e=>if e.r=r then (match e.obj with | .map ks vs=>some (ks,vs) | _=>none)else none
  | none=>none
 | _=>none
def CQ (e:Operand->DVal) (dflt:Int):Option Operand->Int
 | none=>dflt
 | some x=>match e x with | .int _ n=>n | _=> -1
def Eg (e:Operand->DVal) (len:Nat) (l h m:Option Operand):Prop :=
 0<=CQ e 0 l/\CQ e 0 l<=CQ e len h/\CQ e len h<=CQ e len m/\CQ e len m<=len/\(m.isSome=true->h.isSome=true)
section
variable (P : Program) (own : List Ent) (e : Operand -> DVal)
def Sl : Builtin->List DVal->List TypeId->Prop
 | .len,[d],[t]=>match d with
  | .str _=>tStr P t=true
  | .nilsl=>(tElem P t).isSome=true
  | .mp ks _=>(tMap P t).isSome=true/\(ks.length:Int)<=9223372036854775807
  | .nilmp=>(tMap P t).isSome=true
  | .omp id r=>(tMap P t).isSome=true/\match FT own (.omp id r)with | some (ks,_)=>(ks.length:Int)<=9223372036854775807 | none=>False
  | d=>(AZ own d).isSome=true/\(tElem P t).isSome=true
 | .min,[x,y],_=>match x,y with | .int k _,.int k' _=>k=k' | _,_=>False
 | .max,[x,y],_=>match x,y with | .int k _,.int k' _=>k=k' | _,_=>False
 | .append,[x,y],[t,t']=>match x,y with | .nilsl,.nilsl=>t'=t/\(tElem P t).isSome=true | _,_=>False
 | _,_,_=>False
def Mn : Builtin->List DVal->DVal
 | .len,[d]=>match d with
  | .str s=> .int .i64 s.size
  | .nilsl=> .int .i64 0
  | .mp ks _=> .int .i64 ks.length
  | .nilmp=> .int .i64 0
  | .omp id r=>match FT own (.omp id r)with | some (ks,_)=> .int .i64 ks.length | none=> .any
  | d=>match AZ own d with | some (_,_,es)=> .int .i64 es.length | none=> .any
 | .min,[x,y]=>match x,y with | .int k a,.int _ b=> .int k (if b<a then b else a) | _,_=> .any
 | .max,[x,y]=>match x,y with | .int k a,.int _ b=> .int k (if a<b then b else a) | _,_=> .any
 | .append,[x,y]=>match x,y with | .nilsl,.nilsl=> .nilsl | _,_=> .any
 | _,_=> .any
def GA (t:TypeId) (i:Nat):Option (Nat×Nat):=(tField P t i).map fun x=>(x.1,x.2.1)
def tParts (t:TypeId):Bool:=match Db P t with | some fs=>fs.toList.all fun f=>(tCells P f.type).isSome | none=>(Zo P t).isSome
def tElemZ (t:TypeId):Bool:=match P.underlying t with | some (.slice e)=>(tZero P e).isSome | _=>false
def EG_ (d:DVal) (len:Nat) (n:Int):Prop:=0<=n/\n<len/\match d with
 | .ref _=>True
 | .bx id r _=>DK own id r=true
 | .rx id r _ _ _=>DK own id r=true
 | _=>False
def eE (d:DVal) (k:Nat) (n:Int):DVal:=match d with
 | .ref cs=> .ref (cs.drop (n.toNat*k))
 | .bx id r o=> .bx id r (o+n.toNat*k)
 | .rx id r c i j=> .rx id r c i (j+n.toNat*k)
 | _=> .any
def Fm : Op->Prop
 | .move _=>True
 | .assign _=>True
 | .pick c a b=>match e c with | .bool t=>HJ t (e a) (e b) | _=>False
 | .fieldAddr t x f=>match tField P t f,e x with
  | some (_,n,_),.ref _=>n≠0
  | some (_,n,_),.bx id r _=>n≠0/\DK own id r=true
  | some (_,n,_),.rx id r _ _ _=>n≠0/\DK own id r=true
  | _,_=>False
 | .load t a=>match tAgg P t,tCells P t,DA own (e a)with
  | some true,some n,some cs=>n<=cs.length
  | some false,_,some cs=>0<cs.length
  | _,_,_=>False
 | .indexAddr t x i=>match e i,tElem P t,AZ own (e x)with
  | .int _ n,some (k,_),some (k',_,es)=>k=k'/\0<=n/\n<es.length
  | .int _ n,none,_=>(match Zo P t with | some (len,_)=>EG_ own (e x) len n | none=>False)
  | _,_,_=>False
 | .index t x i=>match e x,e i with
  | .str s,.int _ n=>tStr P t=true/\0<=n/\n<s.size
  | .agg cs,.int _ n=>(match xO P t with | some len=>0<=n/\n<len/\len<=cs.length | none=>False)
  | _,_=>False
 | .field t x f=>match tField P t f,e x with
  | some (off,n,b),.agg cs=>off+n<=cs.length/\(b=false->n=1)
  | _,_=>False
 | .binOp op t x y _=>(Gl P op t (e x) (e y)).isSome=true
 | .unOp op _ x=>match op,e x with
  | .not,.bool _=>True
  | .neg,.int _ _=>True
  | _,_=>False
 | .convert src dst x=>(P.underlying src).isSome=true/\match e x with
  | .int _ _=>(DW_ P dst).isSome=true
  | .str _=>tStr P dst=true
  | _=>False
 | .extract x i=>match e x with
  | .tup vs=>i<vs.length
  | _=>False
 | .makeFunc _ _ _=>True
 | .makeInterface t _=>(match P.underlying t with | some (.interface _)=>False | some _=>True | none=>False)
 | .nilCheck x=>match e x with
  | .ref _=>True
  | .bx id r _=>DK own id r=true
  | .rx id r _ _ _=>DK own id r=true
  | .fn (.func _) _ _=>True
  | _=>False
 | .box _ x=>Cs own (e x)=true
 | .build t parts=>match tZero P t with
  | some z=>(FZ (GA P t) z (parts.toList.map fun p=>(p.1,e p.2))).isSome=true/\(parts.toList.all fun p=>Cs own (e p.2))=true/\tParts P t=true
  | none=>False
 | .buildSlice t len parts=>match tElem P t with
  | some (k,bs)=>parts.toList.map (·.1)=List.range len/\len*k<=16777216/\len*bs<=150000000000000/\len<=16777216/\0<k/\(parts.toList.all fun p=>Cs own (e p.2)&&(AB (e p.2)).length==k)=true/\tElemZ P t=true
  | none=>False
 | .call c=>match c.callee with
  | .builtin b=>Sl P own b (c.args.toList.map e) c.argTypes.toList
  | _=>False
 | .slice t x l h m=>match e x with
  | .sl k _ es=>tElem P t=some (k,(tElem P t).elim 0 (·.2))/\Eg e es.length l h m
  | .nilsl=>(tElem P t).isSome=true/\Eg e 0 l h m
  | .osl id r=>m=none/\match AZ own (.osl id r)with | some (k,_,es)=>tElem P t=some (k,(tElem P t).elim 0 (·.2))/\Eg e es.length l h none | none=>False
  | .vw id r k bs i n=>m=none/\(AZ own (.vw id r k bs i n)).isSome=true/\tElem P t=some (k,(tElem P t).elim 0 (·.2))/\Eg e n l h none
  | .str str=>tStr P t=true/\m=none/\Eg e str.size l h none
  | _=>False
 | .lookup t x i _=>match tMap P t,FT own (e x)with
  | some (kt,et),some (ks,_)=>Ck P kt (e i)=true/\ks.all (Ck P kt)=true/\(tZeroD P et).isSome=true
  | _,_=>False
 | _=>False
def Bx : Op->DVal
 | .move x=>e x
 | .assign x=>e x
 | .pick c a b=>match e c with | .bool t=>IQ t (e a) (e b) | _=> .any
 | .fieldAddr t x f=>match tField P t f,e x with
  | some (off,_,_),.ref cs=> .ref (cs.drop off)
  | some (off,_,_),.bx id r o=> .bx id r (o+off)
  | some (off,_,_),.rx id r k i j=> .rx id r k i (j+off)
  | _,_=> .any
 | .load t a=>match tAgg P t,tCells P t,DA own (e a)with
  | some true,some n,some cs=> .agg (cs.take n)
  | some false,_,some cs=>cs.headD .any
  | _,_,_=> .any
 | .indexAddr t x i=>match e i,tElem P t with
  | .int _ n,some _=>FW own (e x) n
  | .int _ n,none=>(match Zo P t with | some (_,k)=>eE (e x) k n | none=> .any)
  | _,_=> .any
 | .index _ x i=>match e x,e i with
  | .str s,.int _ n=> .int .u8 (s.data.toList.getD n.toNat 0).toNat
  | .agg cs,.int _ n=>(cs.drop n.toNat).headD .any
  | _,_=> .any
 | .field t x f=>match tField P t f,e x with
  | some (off,n,b),.agg cs=>if b then .agg ((cs.drop off).take n)else (cs.drop off).headD .any
  | _,_=> .any
 | .binOp op t x y _=>(Gl P op t (e x) (e y)).getD .any
 | .unOp op _ x=>match op,e x with
  | .not,.bool b=> .bool (!b)
  | .neg,.int k n=> .int k (k.wrap (0-n))
  | _,_=> .any
 | .convert _ dst x=>match e x with
  | .int _ n=>match DW_ P dst with | some k=> .int k (k.wrap n) | none=> .any
  | d=>d
 | .extract x i=>match e x with
  | .tup vs=>vs.getD i .any
  | _=> .any
 | .makeFunc f us cs=> .fn f (us.toList.map e) (cs.toList.map e)
 | .makeInterface t x=> .ifc t (e x)
 | .nilCheck x=>e x
 | .box _ x=> .ref (AB (e x))
 | .build t parts=>match tZero P t with
  | some z=> .agg ((FZ (GA P t) z (parts.toList.map fun p=>(p.1,e p.2))).getD [])
  | none=> .any
 | .buildSlice t _ parts=>match tElem P t with
  | some (k,bs)=> .sl k bs (parts.toList.map fun p=>AB (e p.2))
  | none=> .any
 | .call c=>match c.callee with
  | .builtin b=>Mn own b (c.args.toList.map e)
  | _=> .any
 | .slice _ x l h _=>match e x with
  | .sl k bs es=> .sl k bs ((es.drop (CQ e 0 l).toNat).take ((CQ e es.length h).toNat-(CQ e 0 l).toNat))
  | .nilsl=> .nilsl
  | .osl id r=>match AZ own (.osl id r)with | some (k,bs,es)=> .vw id r k bs (CQ e 0 l).toNat ((CQ e es.length h).toNat-(CQ e 0 l).toNat) | none=> .any
  | .vw id r k bs i n=> .vw id r k bs (i+(CQ e 0 l).toNat) ((CQ e n h).toNat-(CQ e 0 l).toNat)
  | .str str=> .str (str.extract (CQ e 0 l).toNat (CQ e str.size h).toNat)
  | _=> .any
 | .lookup t x i ok=>match tMap P t,FT own (e x)with
  | some (_,et),some (ks,vs) =>
   let r:=AU ks (e i)
   let v:=match r with | some j=>vs.getD j .any | none=>(tZeroD P et).getD .any
   if ok then .tup [v,.bool r.isSome]else v
  | _,_=> .any
 | _=> .any
end
section
variable {P : Program} {s : DS} {loc : Nat -> Loc} {M0 : List Nat} {w : World} {ρ : Operand -> Value}
abbrev Bb (s:DS) (loc:Nat->Loc) (M0:List Nat) (w:World) (d:DVal) (v:Value):Prop:=rd (cu s loc) (hm s loc M0) w.heap d v
def Yields (P:Program) (s:DS) (loc:Nat->Loc) (M0:List Nat) (w:World) (x:Sem Value) (d:DVal):Prop :=
 ∃v w',x.run P w= .ok v w'/\Upd [] w w'/\rd (cu s loc) (hm s loc M0) w'.heap d v
theorem Yields.same {x:Sem Value} {d:DVal} {v:Value} (hr:x.run P w= .ok v w) (hd:Bb s loc M0 w d v):Yields P s loc M0 w x d:=⟨v,w,hr,Upd.refl _ _,hd⟩
theorem MC {t f off n:Nat} {b:Bool} {d:DVal} {v:Value} (hf:tField P t f=some (off,n,b)) (hn:n≠0) (hd:Bb s loc M0 w d v)
  (hk:(∃cs,d= .ref cs)\/(∃id r o,d= .bx id r o/\(Ab s.own loc id r).isSome=true)\/(∃id r k i j,d= .rx id r k i j/\(Ab s.own loc id r).isSome=true)) :
  Yields P s loc M0 w (Instr.fieldAt t v f) (match d with | .ref cs=> .ref (cs.drop off) | .bx id r o=> .bx id r (o+off) | .rx id r k i j=> .rx id r k i (j+off) | _=> .any):=by
 unfold tField at hf
 split at hf
 ·rename_i fs hu
  split at hf
  ·rename_i fl zG
   split at hf
   ·rename_i n' b' hn' qL;simp only[aA0,aR0]at hf;obtain⟨rfl,rfl,rfl⟩:=hf
    have main:∀a:Addr,a.spot=none->(Instr.fieldAt t (.pointer (some a)) f).run P w= .ok (.pointer (some ⟨a.block,a.off+fl.offset,none⟩)) w:=by
     intro a ha;obtain⟨ab,ao,asp⟩:=a;simp only at ha;subst ha;simp[Instr.fieldAt,run_underlying hu,zG,Instr.sureAddr,fieldPlace,BE hn',hn,Dh]
    rcases hk with ⟨cs,rfl⟩ | ⟨id,r,o,rfl,hc⟩ | ⟨id,r,k,i,j,rfl,hc⟩
    ·simp only[Bb,rd]at hd;obtain⟨bb,oo,arr,ty,fz,rfl,h2,h3,h4⟩:=hd;refine Yields.same (main _ rfl) ?_;simp only[Bb,rd];exact⟨bb,oo+fl.offset,arr,ty,fz,rfl,h2,h3,Fb _ _ _ _ h4⟩
    ·obtain⟨l,hl⟩:=bG0.1 hc;simp only[Bb,rd]at hd;obtain⟨bb,qS,rfl⟩:=hd l hl;refine Yields.same (main _ rfl) ?_;simp only[Bb,rd];intro l' wY;have:l'=l:=by have h':Ab s.own loc id r=some l':=wY;rw[hl]at h';exact(Option.some.inj h').symm
     subst this;exact⟨bb,qS,rfl⟩
    ·obtain⟨l,hl⟩:=bG0.1 hc;simp only[Bb,rd]at hd;obtain⟨bb,qS,rfl⟩:=hd l hl;refine Yields.same (main _ rfl) ?_;simp only[Bb,rd];intro l' wY;have:l'=l:=by have h':Ab s.own loc id r=some l':=wY;rw[hl]at h';exact(Option.some.inj h').symm
     subst this;exact⟨bb,qS,by simp[cE0]⟩
   ·simp at hf
  ·simp at hf
 ·simp at hf
theorem MV (S:St s.own loc M0 w.heap) {t:TypeId} {d:DVal} {v:Value} {cs:List DVal} {b:Bool} (hb:tAgg P t=some b) (hd:Bb s loc M0 w d v) (hc:DA s.own d=some cs)
  (hn:b=true->∃n,tCells P t=some n/\n<=cs.length) (h0:b=false->0<cs.length) :
  ∃ad u,v= .pointer (some ad)/\(loadVar t ad).run P w= .ok u w/\Bb s loc M0 w (match b with | true=> .agg (cs.take ((tCells P t).getD 0)) | false=>cs.headD .any) u:=by
 obtain⟨bb,off,arr,ty,fz,rfl,h2,h3⟩:=eB S hd hc
 cases b with
 | true =>
  obtain⟨n,hn,zU⟩:=hn rfl;obtain⟨vs,g1,g2,g3⟩:=GX _ _ _ (LD n cs arr off h3);have qY:vs.length=n:=by rw[g1];simp;omega
  have hl:=run_loadCells_list (P:=P) w ⟨bb,off,none⟩ vs (fun j u hj=>by
   rw[Dh];simp only[World.cell?,h2]
   exact(g3 j u hj).1)
  rw[qY]at hl;refine⟨_,.agg vs.toArray,rfl,?_,?_⟩
  ·simp[loadVar,JE hb,BE hn,hl]
  ·simp only[hn,bV0,Bb,rd];exact⟨vs.toArray,rfl,g2⟩
 | false =>
  match cs,h0 rfl,h3 with
  | d0::cs,_,h3 =>
   simp only[Dv]at h3;obtain⟨⟨u,k1,k2,k3⟩,_⟩:=h3;refine⟨_,u,rfl,?_,by simpa[Bb]using k3⟩;simp[loadVar,JE hb,run_load,World.cell?,h2,k1]
theorem xE (S:St s.own loc M0 w.heap) {t:TypeId} {d:DVal} {v:Value} {cs:List DVal} {b:Bool} (hb:tAgg P t=some b) (hd:Bb s loc M0 w d v) (hc:DA s.own d=some cs)
  (hn:b=true->∃n,tCells P t=some n/\n<=cs.length) (h0:b=false->0<cs.length) :
  Yields P s loc M0 w (Instr.loadAt t v) (match b with | true=> .agg (cs.take ((tCells P t).getD 0)) | false=>cs.headD .any):=by
 obtain⟨ad,u,rfl,h1,h2⟩:=MV S hb hd hc hn h0;exact Yields.same (v:=u) (by simp[Instr.loadAt,Instr.sureAddr,h1]) h2
theorem BA {t k bs:Nat} (h:tElem P t=some (k,bs)):∃e i,P.underlying t=some (.slice e)/\P.info? e=some i/\i.size=k/\i.bytes=bs/\tCells P e=some k:=by
 unfold tElem at h
 split at h
 ·rename_i e hu
  cases hi:P.info? e with
  | none=>simp[hi]at h
  | some i =>
   simp only[hi,dB0,aA0,aR0]at h;exact⟨e,i,hu,hi,h.1,h.2,by simp[tCells,hi,h.1]⟩
 ·simp at h
theorem pM (S:St s.own loc M0 w.heap) {t:TypeId} {d:DVal} {v:Value} {ik:IntKind} {n:Int} {k bs bs':Nat} {es:List (List DVal)} (ht:tElem P t=some (k,bs)) (hd:Bb s loc M0 w d v)
  (hr:AZ s.own d=some (k,bs',es)) (h0:0<=n) (h1:n<es.length) :
  Yields P s loc M0 w (Instr.indexAt t v (.int ik n)) (FW s.own d n):=by
 obtain⟨e,i,hu,hi,qD,_,fD⟩:=BA ht
 have run:∀(a:Addr) (len cap:Nat),n<len->(Instr.indexAt t (.slice (some a) len cap) (.int ik n)).run P w= .ok (.pointer (some (a.add (n.toNat*k)))) w:=by
  intro a len cap qV;simp[Instr.indexAt,asIntOf,run_underlying hu,h0,qV,BE fD]
 have qB:es≠[]:=by intro h;subst h;simp at h1;omega
 cases d with
 | sl k0 b0 es0 =>
  simp only[AZ,aA0,aR0]at hr;obtain⟨rfl,rfl,rfl⟩:=hr;simp only[Bb,rd]at hd;obtain⟨a,cap,rfl,g2,g3,g4,g5⟩:=hd
  rcases g5 with g5 | ⟨bb,off,arr,ty,fz,rfl,q1,q2,q3⟩
  ·exact absurd g5.1 qB
  ·refine Yields.same (run _ _ _ h1) ?_;rw[Dh];simp only[FW,Bb,rd];have qV:n.toNat<es0.length:=by omega
   have jT:=El _ _ _ _ n.toNat (es0[n.toNat]) q3 (aB0 qV);refine⟨bb,off+n.toNat*k0,arr,ty,fz,rfl,q1,q2,?_⟩;rw[bA0,aB0 qV];exact jT.2
 | osl id r =>
  have wG:=hr;unfold AZ at hr;simp only at hr
  split at hr
  ·rename_i e0 vA
   split at hr
   ·rename_i qT
    split at hr
    ·rename_i et0 k0 b0 es0 wO;simp only[aA0,aR0]at hr;obtain⟨rfl,rfl,rfl⟩:=hr;obtain⟨vX,hid⟩:=Ay vA;have hk:=S.ok e0 vX;rw[wO]at hk;obtain⟨_,hk⟩:=hk;have qA:Ab s.own loc id r=some (loc id):=by unfold Ab;rw[vA];simp[qT]
     simp only[Bb,rd]at hd;have hv:=hd (loc id) qA;rw[<-hid]at hv
     rcases hk with ⟨rfl,_⟩ | ⟨b,arr,cap,p1,p2,p3,p4,p5,p6,p7⟩
     ·exact absurd rfl qB
     ·rw[p2]at hv;subst hv;refine Yields.same (run _ _ _ h1) ?_;rw[Dh];simp only[FW,wG,Bb,rd];intro l hl;have wY:Ab s.own loc id r=some l:=hl;rw[qA]at wY;simp only[aA0]at wY;subst wY;exact⟨b,by rw[<-hid];exact p1,by simp⟩
    ·simp at hr
   ·simp at hr
  ·simp at hr
 | vw id r kk bb i0 n0 =>
  unfold AZ at hr;simp only at hr
  split at hr
  ·rename_i e0 vA
   split at hr
   ·rename_i qT
    split at hr
    ·rename_i et0 k0 b0 es0 wO
     split at hr
     ·rename_i hb;obtain⟨rfl,rfl,hb⟩:=hb;simp only[aA0,aR0]at hr;obtain⟨rfl,rfl,rfl⟩:=hr;have qA:Ab s.own loc id r=some (loc id):=by unfold Ab;rw[vA];simp[qT]
      simp only[Bb,rd]at hd;obtain⟨a,cap,rfl,g1,g2,_,g3,_⟩:=hd (loc id) qA;have qV:n<(n0:Int):=by simp at h1;omega
      obtain⟨b,qS,rfl⟩:=g3 (by omega);refine Yields.same (run _ _ _ qV) ?_;rw[Dh];simp only[FW,Bb,rd];intro l hl;have wY:Ab s.own loc id r=some l:=hl;rw[qA]at wY;simp only[aA0]at wY;subst wY;exact⟨b,qS,by simp[bQ0]⟩
     ·simp at hr
    ·simp at hr
   ·simp at hr
  ·simp at hr
 | _=>simp[AZ]at hr
theorem Ct_ {t f off n:Nat} {b:Bool} {cs:List DVal} {v:Value} (hf:tField P t f=some (off,n,b)) (hd:Bb s loc M0 w (.agg cs) v) (hl:off+n<=cs.length) (h1:b=false->n=1) :
  Yields P s loc M0 w (Instr.field t v f) (if b then .agg ((cs.drop off).take n)else (cs.drop off).headD .any):=by
 unfold tField at hf
 split at hf
 rotate_left
 ·simp at hf
 rename_i fs hu
 split at hf
 rotate_left
 ·simp at hf
 rename_i fl zG
 split at hf
 rotate_left
 ·simp at hf
 rename_i n' b' hn' qL;simp only[aA0,aR0]at hf;obtain⟨rfl,rfl,rfl⟩:=hf;simp only[Bb,rd]at hd;obtain⟨us,rfl,vO⟩:=hd;have qY:=Aq _ _ vO;have hp:=GV (P:=P) (w:=w) (us:=us) (o:=fl.offset) qL hn' h1 (by simp at qY;omega);have vW:=Ej n' _ _ (Ek fl.offset _ _ vO);refine Yields.same (v:=valOf b' ((us.toList.drop fl.offset).take n')) ?_ ?_
 ·simp[Instr.field,run_underlying hu,zG,asAgg,hp]
 ·cases b' with
  | true=>simp only[valOf,if_true,Bb,rd];exact⟨_,rfl,vW⟩
  | false =>
   have:=h1 rfl;subst this;simp only[valOf,bE0,if_false,Bb];have qV:fl.offset<cs.length:=by omega
   rw[aU0 qV]at vW |-;simp only[cJ0,dU0,Aw]at vW;obtain⟨v,r,he,hv,rfl⟩:=vW;rw[he];simpa[aB0 qV]using hv
theorem xC {cs:List DVal} {us:List Value} {ty:TypeId} (vO:Aw (cu s loc) (hm s loc M0) w.heap cs us) (qI:∀u∈us,u.oneCell'=true) (S:St s.own loc M0 w.heap) :
  Upd [] w (w.alloc (.cells us.toArray ty))/\w.heap.size∉hm s loc M0/\(w.alloc (.cells us.toArray ty)).heap[w.heap.size]? =some (.cells us.toArray ty (0,0)) /\
   Dv (cu s loc) (hm s loc M0) (w.alloc (.cells us.toArray ty)).heap cs us.toArray 0:=by
 have hu:=Upd.alloc [] w (.cells us.toArray ty);have wZ:(w.alloc (.cells us.toArray ty)).heap[w.heap.size]? =some (.cells us.toArray ty (0,0)):=heap_alloc_new w _;refine⟨hu,fun vX=>by have:=S.lt _ vX;omega,wZ,?_⟩
 have W:Weak (cu s loc) (cu s loc) (hm s loc M0) (hm s loc M0) w.heap (w.alloc (.cells us.toArray ty)).heap (AJ cs) :=
  EK hu.nil (fun b hb=> .inl hb) (fun e' vG _=>AG S.nd vG)
 have hus':=AL W cs us (Nat.le_refl _) vO
 have key:∀(H:Array Obj) (cs:List DVal) (us pre:List Value),Aw (cu s loc) (hm s loc M0) H cs us->(∀u∈us,u.oneCell'=true)->Dv (cu s loc) (hm s loc M0) H cs (pre++us).toArray pre.length:=by
  intro H cs
  induction cs with
  | nil=>intros;simp[Dv]
  | cons d ds ih =>
   intro us pre hr ho;simp only[Aw]at hr;obtain⟨v,r,rfl,h1,h2⟩:=hr;simp only[Dv];refine⟨⟨v,by simp,ho v aK0,h1⟩,?_⟩;have:=ih r (pre++[v]) h2 (fun u hu=>ho u (aI0 _ hu));simpa using this
 simpa using key _ cs us [] hus' qI
theorem CX {id r:Nat} (hc:DK s.own id r=true):Ab s.own loc id r=some (loc id):=by
 unfold DK at hc;unfold Ab
 split at hc
 ·rename_i e he
  try rw[he]
  have:e.r=r:=by simpa using hc
  simp[this]
 ·simp at hc
theorem Cv_ {t len k:Nat} {d:DVal} {v:Value} {ik:IntKind} {n:Int} (ht:Zo P t=some (len,k)) (hd:Bb s loc M0 w d v) (hp:EG_ s.own d len n):Yields P s loc M0 w (Instr.indexAt t v (.int ik n)) (eE d k n):=by
 unfold Zo at ht
 split at ht
 ·rename_i ln e hu
  cases hi:P.info? e with
  | none=>rw[hi]at ht;simp at ht
  | some inf =>
   rw[hi]at ht;simp only[dB0,aA0,aR0]at ht;obtain⟨rfl,rfl⟩:=ht;have fD:tCells P e=some inf.size:=by unfold tCells;rw[hi];rfl
   obtain⟨h0,h1,hp⟩:=hp
   have main:∀a:Addr,a.spot=none->(Instr.indexAt t (.pointer (some a)) (.int ik n)).run P w= .ok (.pointer (some ⟨a.block,a.off+n.toNat*inf.size,none⟩)) w:=by
    intro a ha;obtain⟨ab,ao,asp⟩:=a;simp only at ha;subst ha;simp[Instr.indexAt,asIntOf,run_underlying hu,Instr.sureAddr,h0,h1,BE fD,Dh]
   cases d<;>simp only at hp
   case ref cs =>
    simp only[Bb,rd]at hd;obtain⟨bb,oo,arr,ty,fz,rfl,h2,h3,h4⟩:=hd;refine Yields.same (main _ rfl) ?_;simp only[Bb,rd,eE];exact⟨bb,oo+n.toNat*inf.size,arr,ty,fz,rfl,h2,h3,Fb _ _ _ _ h4⟩
   case bx id r o =>
    obtain⟨l,hl⟩:=bG0.1 (show (Ab s.own loc id r).isSome=true by rw[CX hp];rfl);simp only[Bb,rd]at hd;obtain⟨bb,qS,rfl⟩:=hd l hl;refine Yields.same (main _ rfl) ?_;simp only[Bb,rd,eE];intro l' wY;have:l'=l:=by have h':Ab s.own loc id r=some l':=wY;rw[hl]at h';exact(Option.some.inj h').symm
    subst this;exact⟨bb,qS,rfl⟩
   case rx id r c i j =>
    obtain⟨l,hl⟩:=bG0.1 (show (Ab s.own loc id r).isSome=true by rw[CX hp];rfl);simp only[Bb,rd]at hd;obtain⟨bb,qS,rfl⟩:=hd l hl;refine Yields.same (main _ rfl) ?_;simp only[Bb,rd,eE];intro l' wY;have:l'=l:=by have h':Ab s.own loc id r=some l':=wY;rw[hl]at h';exact(Option.some.inj h').symm
    subst this;exact⟨bb,qS,by simp[cE0]⟩
 ·simp at ht
theorem iR (S:St s.own loc M0 w.heap) {d:DVal} {v:Value} (ho:Fe s.own d=true) (hd:Bb s loc M0 w d v):v.oneCell'=true/\v.cells= #[v]:=by
 cases d<;>simp only[Fe,bE0]at ho<;>simp only[Bb,rd]at hd
 case bool=>subst hd;exact⟨rfl,rfl⟩
 case int=>obtain⟨rfl,_⟩:=hd;exact⟨rfl,rfl⟩
 case str=>obtain⟨rfl,_⟩:=hd;exact⟨rfl,rfl⟩
 case nilp=>subst hd;exact⟨rfl,rfl⟩
 case ref=>obtain⟨_,_,_,_,_,rfl,_⟩:=hd;exact⟨rfl,rfl⟩
 case bx id r o=>obtain⟨b,_,rfl⟩:=hd _ (CX ho);exact⟨rfl,rfl⟩
 case rx id r k i j=>obtain⟨b,_,rfl⟩:=hd _ (CX ho);exact⟨rfl,rfl⟩
 case nilsl=>subst hd;exact⟨rfl,rfl⟩
 case esl=>obtain⟨_,_,rfl,_⟩:=hd;exact⟨rfl,rfl⟩
 case sl=>obtain⟨_,_,rfl,_⟩:=hd;exact⟨rfl,rfl⟩
 case osl id r =>
  obtain⟨x,hx⟩:=bG0.1 ho;obtain⟨a,cap,rfl,_⟩:=JF (k:=x.1) (bs:=x.2.1) (es:=x.2.2) (p:= .osl id r) S (by simp only[rd];exact hd) hx;exact⟨rfl,rfl⟩
 case vw id r k bs i n=>obtain⟨_,_,rfl,_⟩:=hd _ (CX ho);exact⟨rfl,rfl⟩
 case nilmp=>subst hd;exact⟨rfl,rfl⟩
 case omp id r=>obtain⟨b,_,rfl⟩:=hd _ (CX ho);exact⟨rfl,rfl⟩
 case nilfn=>subst hd;exact⟨rfl,rfl⟩
 case fn=>obtain⟨_,_,rfl,_⟩:=hd;exact⟨rfl,rfl⟩
 case nilifc=>subst hd;exact⟨rfl,rfl⟩
 case ifc=>obtain⟨_,rfl,_⟩:=hd;exact⟨rfl,rfl⟩
 case mp=>obtain⟨_,_,_,rfl,_⟩:=hd;exact⟨rfl,rfl⟩
 case pk id r =>
  split at ho
  ·rename_i e he;simp only[aM0,beq_iff_eq]at ho;obtain⟨h1,h2⟩:=ho;have hv:=hd (loc id) (by show Ab _ _ _ _=_;unfold Ab;rw[he];simp[h1]);obtain⟨vX,hid⟩:=Ay he;have hk:=S.ok e vX
   split at h2
   ·rename_i A qZ;rw[qZ]at hk;rw[hv,<-hid];exact A.one _ _ _ _ hk
   ·simp at h2
  ·simp at ho
theorem FO (S:St s.own loc M0 w.heap):∀(ds:List DVal) (vs:List Value),ds.all (Fe s.own)=true->Aw (cu s loc) (hm s loc M0) w.heap ds vs->∀v∈vs,v.oneCell'=true
 | [],vs,_,hr=>by simp only[Aw]at hr;subst hr;simp
 | d::ds,vs,ha,hr=>by
  simp only[Aw]at hr;obtain⟨v,r,rfl,h1,h2⟩:=hr;simp only[cP0,aM0]at ha;intro u hu
  rcases aL0.1 hu with rfl | hu
  ·exact(iR S ha.1 h1).1
  ·exact FO S ds r ha.2 h2 u hu
theorem Hp (S:St s.own loc M0 w.heap) {d:DVal} {v:Value} (hp:Cs s.own d=true) (hd:Bb s loc M0 w d v) :
  Aw (cu s loc) (hm s loc M0) w.heap (AB d) v.cells.toList/\∀u∈v.cells.toList,u.oneCell'=true:=by
 have base:Fe s.own d=true->Aw (cu s loc) (hm s loc M0) w.heap [d] v.cells.toList/\∀u∈v.cells.toList,u.oneCell'=true:=by
  intro ho;obtain⟨h1,h2⟩:=iR S ho hd;rw[h2];refine⟨by simp only[Aw];exact⟨v,[],rfl,hd,rfl⟩,by simpa using h1⟩
 cases d
 case agg cs =>
  simp only[Bb,rd]at hd;obtain⟨us,rfl,vO⟩:=hd;exact⟨vO,FO S cs _ hp vO⟩
 all_goals exact base (by simpa[Cs,AB]using hp)
theorem EW_ (S:St s.own loc M0 w.heap) {t:TypeId} {d:DVal} {v:Value} (hp:Cs s.own d=true) (hd:Bb s loc M0 w d v):Yields P s loc M0 w (Instr.box t v) (.ref (AB d)):=by
 obtain⟨h1,h2⟩:=Hp S hp hd;obtain⟨g1,g2,g3,g4⟩:=xC (ty:=t) h1 h2 S;refine⟨.pointer (some ⟨w.heap.size,0,none⟩),_,?_,g1,?_⟩
 ·simp[Instr.box,newVar,newRow]
 ·simp only[rd];exact⟨_,0,_,_,_,rfl,g2,g3,g4⟩
theorem KI : ∀(us:List Value) (arr:Array Value) (off i:Nat),off+i+us.length<=arr.size ->
  ((us.zipIdx i).foldl (fun cs (c,j)=>cs.setIfInBounds (off+j) c) arr).toList=arr.toList.take (off+i)++us++arr.toList.drop (off+i+us.length)
 | [],arr,off,i,_=>by simp
 | u::us,arr,off,i,h=>by
  simp only[List.length_cons]at h;simp only[List.zipIdx_cons,cH0];rw[KI us _ off (i+1) (by simp;omega)];simp only[Array.toList_setIfInBounds,List.length_cons];have qV:off+i<arr.toList.length:=by simp;omega
  rw[List.set_eq_take_append_cons_drop,if_pos qV];have e1:(arr.toList.take (off+i)).length=off+i:=by simp;omega
  rw[show off+(i+1)=(off+i)+1 by omega,List.take_append,e1];simp only[aS0,show off+i+1-(off+i)=1 by omega];rw[List.take_take,List.drop_append,e1];simp only[show min (off+i+1) (off+i)=off+i by omega];rw[List.drop_take];have e2:off+i+1+us.length-(off+i)=us.length+1:=by omega
  have e3:off+i-(off+i+1+us.length)=0:=by omega
  simp only[e2,e3,dU0,List.nil_append,dQ0,eL0,cJ0,List.cons_append];simp
  congr 1
  omega
theorem lR {placeD placeV:Nat->Option (Nat×Nat)} (gA:∀i x,placeD i=some x->placeV i=some x) :
  ∀(ds:List (Nat×DVal)) (vs:List (Nat×Value)) (cells:List DVal) (arr:Array Value) (out:List DVal),ds.map (·.1)=vs.map (·.1) ->
   (∀(i:Nat) (p:Nat×DVal) (q:Nat×Value),ds[i]? =some p->vs[i]? =some q->Aw (cu s loc) (hm s loc M0) w.heap (AB p.2) q.2.cells.toList) ->
   Aw (cu s loc) (hm s loc M0) w.heap cells arr.toList->FZ placeD cells ds=some out->∃arr',Instr.fill placeV arr vs=some arr'/\Aw (cu s loc) (hm s loc M0) w.heap out arr'.toList
 | [],vs,cells,arr,out,hi,_,hc,hf=>by
  simp only[List.map_nil]at hi;have:vs=[]:=by cases vs<;>simp_all
  subst this;simp only[FZ,aA0]at hf;subst hf;exact⟨arr,rfl,hc⟩
 | (i,d)::ds,[],cells,arr,out,hi,_,_,_=>by simp at hi
 | (i,d)::ds,(i',v)::vs,cells,arr,out,hi,hr,hc,hf=>by
  simp only[List.map_cons,bF0]at hi;obtain⟨rfl,hi⟩:=hi;simp only[FZ]at hf
  split at hf
  ·simp at hf
  rename_i off size hp
  split at hf
  rotate_left
  ·simp at hf
  rename_i qD;have h0:=hr 0 (i,d) (i,v) (by simp) (by simp);have kI:=Aq _ _ h0;have hlc:=Aq _ _ hc;simp only[bK0]at kI hlc;have qM:=KI v.cells.toList arr off 0 (by simp;omega)
  have key:Aw (cu s loc) (hm s loc M0) w.heap (Dl cells off (AB d)) (v.cells.zipIdx.foldl (fun cs (c,j)=>cs.setIfInBounds (off+j) c) arr).toList:=by
   rw[<-Array.foldl_toList,Array.toList_zipIdx,qM];unfold Dl;refine BV _ _ _ _ (BV _ _ _ _ ?_ h0) ?_
   ·simpa using Ej off _ _ hc
   ·simpa[kI]using Ek (off+(AB d).length) _ _ hc
  have ih:=lR gA ds vs _ _ out hi (fun j p q hp hq=>hr (j+1) p q (by simpa using hp) (by simpa using hq)) key hf;obtain⟨arr',h1,h2⟩:=ih;refine⟨arr',?_,h2⟩;simp only[Instr.fill,gA _ _ hp];rw[if_neg (by simp;omega)];exact h1
theorem VL {t:TypeId} {fs:Array Field} (hu:P.underlying t=some (.struct fs)) (qP:∀f∈fs.toList,(tCells P f.type).isSome=true) :
  (fs.mapM (m:=Sem) fun f=>do pure (f.offset,<-sizeOf f.type)).run P w= .ok (fs.map fun f=>(f.offset,(tCells P f.type).getD 0)) w:=by
 rw[<-Array.toArray_toList (xs:=fs)]
 generalize fs.toList=l at qP
 rw[List.mapM_toArray]
 have:∀(l:List Field),(∀f∈l,(tCells P f.type).isSome=true)->(l.mapM (m:=Sem) fun f=>do pure (f.offset,<-sizeOf f.type)).run P w= .ok (l.map fun f=>(f.offset,(tCells P f.type).getD 0)) w:=by
  intro l
  induction l with
  | nil=>intro _;simp
  | cons f l ih =>
   intro h;obtain⟨n,hn⟩:=bG0.1 (h f aK0);have ih':=ih (fun g hg=>h g (aI0 _ hg));simp only[List.mapM_cons,Sem.run_bind,BE hn,Result.andThen_ok,Sem.run_pure,ih',List.map_cons,hn,bV0]
 rw[Sem.run_map,this l qP];simp
theorem FK {t:TypeId} {z:List DVal} (hz:tZero P t=some z):∃v,(zeroValue t).run P w= .ok v w/\z=v.cells.toList.map BZ:=by
 unfold tZero at hz
 split at hz
 ·rename_i i hi
  cases hv:i.zero with
  | none=>simp[hv]at hz
  | some v =>
   simp only[hv,dB0,aA0]at hz;exact⟨v,by simp[zeroValue,typeInfo,hi,hv],hz.symm⟩
 ·simp at hz
theorem Cu_ (S:St s.own loc M0 w.heap) {t:TypeId} {z out:List DVal} {fs:Array Field} {ds:List (Nat×DVal)} {vs:Array (Nat×Value)} (hz:tZero P t=some z) (hs:Db P t=some fs)
  (qP:fs.toList.all (fun f=>(tCells P f.type).isSome)=true)
  (hi:ds.map (·.1)=vs.toList.map (·.1)) (hr:∀(i:Nat) (p:Nat×DVal) (q:Nat×Value),ds[i]? =some p->vs.toList[i]? =some q->Aw (cu s loc) (hm s loc M0) w.heap (AB p.2) q.2.cells.toList)
  (hf:FZ (GA P t) z ds=some out):Yields P s loc M0 w (Instr.build t vs) (.agg out):=by
 obtain⟨zv,yX,rfl⟩:=FK (w:=w) hz
 have hu:P.underlying t=some (.struct fs):=by
  unfold Db at hs
  split at hs
  ·simp only[aA0]at hs;subst hs;assumption
  ·simp at hs
 have vX:=VL (P:=P) (w:=w) hu (aX0.1 qP)
 have gA:∀i x,GA P t i=some x->((fs.map fun f=>(f.offset,(tCells P f.type).getD 0))[i]?)=some x:=by
  intro i x hx;unfold GA tField at hx;rw[hu]at hx;simp only at hx
  cases hfi:fs[i]? with
  | none=>simp[hfi]at hx
  | some f =>
   simp only[hfi]at hx
   cases hc:tCells P f.type with
   | none=>simp[hc]at hx
   | some n =>
    cases ha:tAgg P f.type with
    | none=>simp[hc,ha]at hx
    | some b =>
     simp only[hc,ha,dB0,aA0]at hx;simp[hfi,hc,hx]
 obtain⟨arr',h1,h2⟩:=lR gA ds vs.toList _ zv.cells out hi hr (Br _) hf;refine Yields.same (v:= .agg arr') ?_ (by simp only[Bb,rd];exact⟨arr',rfl,h2⟩);simp only[Instr.build,Sem.run_bind,yX,Result.andThen_ok,run_underlying hu,vX,h1,Sem.run_pure]
theorem xF {t:TypeId} {z out:List DVal} {ds:List (Nat×DVal)} {vs:Array (Nat×Value)} (hz:tZero P t=some z) (ha:(Zo P t).isSome=true)
  (hi:ds.map (·.1)=vs.toList.map (·.1)) (hf:FZ (GA P t) z ds=some out):Yields P s loc M0 w (Instr.build t vs) (.agg out):=by
 obtain⟨zv,yX,rfl⟩:=FK (w:=w) hz;unfold Zo at ha
 split at ha
 ·rename_i n e hu
  have hc:∃k,tCells P e=some k:=by
   unfold tCells
   cases hinf:P.info? e with
   | none=>rw[hinf]at ha;simp at ha
   | some inf=>exact⟨_,rfl⟩
  obtain⟨k,hc⟩:=hc;have gA:∀i,GA P t i=none:=fun i=>by unfold GA tField;rw[hu];rfl
  cases ds with
  | cons d ds=>obtain⟨i,d⟩:=d;simp[FZ,gA]at hf
  | nil =>
   simp only[FZ,aA0]at hf;subst hf;have hv:vs.toList=[]:=by simpa using hi.symm
   refine Yields.same (v:= .agg zv.cells) ?_ (by simp only[Bb,rd];exact⟨zv.cells,rfl,Br _⟩);simp only[Instr.build,Sem.run_bind,yX,Result.andThen_ok,run_underlying hu,BE hc,hv,Instr.fill,Sem.run_pure]
 ·simp at ha
theorem xG {t len:Nat} {cs:List DVal} {v:Value} {ik:IntKind} {n:Int} (ht:xO P t=some len) (hd:Bb s loc M0 w (.agg cs) v) (h0:0<=n) (h1:n<len) (h2:len<=cs.length):Yields P s loc M0 w (Instr.index t v (.int ik n)) ((cs.drop n.toNat).headD .any):=by
 unfold xO at ht
 split at ht
 ·rename_i ln e hu
  split at ht
  ·rename_i hc;simp only[aA0]at ht;subst ht;simp only[Bb,rd]at hd;obtain⟨us,rfl,hr⟩:=hd;have hl:=Aq _ _ hr;have hp:=GV (P:=P) (w:=w) (us:=us) (o:=n.toNat) hc.2 hc.1 (fun _=>rfl) (by rw[bK0]at hl;omega);have hn:n.toNat<cs.length:=by omega
   refine Yields.same (v:=valOf false ((us.toList.drop n.toNat).take 1)) ?_ ?_
   ·simp[Instr.index,asIntOf,run_underlying hu,h0,h1,BE hc.1,hp]
   ·have gL:=Ej 1 _ _ (Ek n.toNat _ _ hr);rw[aU0 hn]at gL |-;simp only[cJ0,dU0,Aw]at gL;obtain⟨u,r,e1,e2,e3⟩:=gL;subst e3;rw[e1];exact e2
  ·simp at ht
 ·simp at ht
theorem EV_ (S:St s.own loc M0 w.heap) {t ty:TypeId} {d:DVal} {v:Value} {k bs:Nat} {es:List (List DVal)} (ht:(tElem P t).isSome=true) (hd:Bb s loc M0 w d v) (hr:AZ s.own d=some (k,bs,es)) :
  Yields P s loc M0 w (Builtin.len_ #[t] ty #[v]) (.int .i64 es.length):=by
 obtain⟨x,hx⟩:=bG0.1 ht;obtain⟨e,i,hu,_⟩:=BA (k:=x.1) (bs:=x.2) hx;obtain⟨a,cap,rfl,h2,h3,_⟩:=JF S hd hr;refine Yields.same (v:= .int .i64 es.length) ?_ ?_
 ·simp[Builtin.len_,run_underlying hu,goInt]
 ·simp only[Bb,rd,Kx,true_and];unfold maxLen at h3;omega
theorem Xx (k:Nat):∀(vs:List (Nat×Value)) (i0:Nat) (pre rest:List Value),vs.map (·.1)=List.range' i0 vs.length->(∀q∈vs,q.2.cells.size=k)->pre.length=i0*k->rest.length=vs.length*k ->
  Instr.fill (fun i=>some (i*k,k)) (pre++rest).toArray vs=some (pre++vs.flatMap fun q=>q.2.cells.toList).toArray
 | [],i0,pre,rest,_,_,_,hr=>by
  simp only[List.length_nil,Nat.zero_mul,cX0]at hr;subst hr;simp[Instr.fill]
 | (i,v)::vs,i0,pre,rest,hi,hk,hp,hr=>by
  simp only[List.map_cons,List.length_cons,List.range'_succ,bF0]at hi;obtain⟨rfl,hi⟩:=hi;have hv:v.cells.size=k:=hk _ aK0;simp only[List.length_cons,bQ0,Nat.one_mul]at hr;simp only[Instr.fill];rw[if_neg (by simp;omega)];have qM:=KI v.cells.toList (pre++rest).toArray (i*k) 0 (by simp;omega)
  have e:(v.cells.zipIdx.foldl (fun cs (c,j)=>cs.setIfInBounds (i*k+j) c) (pre++rest).toArray)=((pre++v.cells.toList)++rest.drop k).toArray:=by
   apply Array.ext'
   rw[<-Array.foldl_toList,Array.toList_zipIdx,qM];simp only[dC0,aS0];rw[List.take_append_of_le_length (by omega),cR0 (by omega),bK0,hv,<-hp,List.drop_append,dK0 (by omega)];simp
  rw[e,Xx k vs (i+1) (pre++v.cells.toList) (rest.drop k) hi (fun q hq=>hk q (aI0 _ hq)) (by simp[hp,hv,bQ0]) (by simp;omega)];simp
theorem Wf {cur:EF} {M:List Nat} {H:Array Obj} (k:Nat):∀(ds:List (List DVal)) (vs:List (List Value)) (pre:List Value),ds.length=vs.length ->
  (∀(i:Nat) (cs:List DVal) (us:List Value),ds[i]? =some cs->vs[i]? =some us->cs.length=k/\Aw cur M H cs us/\∀u∈us,u.oneCell'=true)->Ec cur M H k ds (pre++vs.flatten).toArray pre.length
 | [],vs,pre,_,_=>by simp[Ec]
 | d::ds,[],pre,hl,_=>by simp at hl
 | d::ds,u::vs,pre,hl,h=>by
  have h0:=h 0 d u (by simp) (by simp);have qY:=Aq _ _ h0.2.1
  have key:∀(cs:List DVal) (us pre post:List Value),Aw cur M H cs us->(∀u∈us,u.oneCell'=true)->Dv cur M H cs (pre++us++post).toArray pre.length:=by
   intro cs
   induction cs with
   | nil=>intros;simp[Dv]
   | cons d ds ih =>
    intro us pre post hr ho;simp only[Aw]at hr;obtain⟨v,r,rfl,h1,h2⟩:=hr;simp only[Dv];refine⟨⟨v,by simp,ho v aK0,h1⟩,?_⟩;have:=ih r (pre++[v]) post h2 (fun u hu=>ho u (aI0 _ hu));simpa using this
  simp only[Ec];refine⟨h0.1,?_,?_⟩
  ·have:=key d u pre vs.flatten h0.2.1 h0.2.2;simpa using this
  ·have ih:=Wf k ds vs (pre++u) (by simpa using hl) (fun i cs us h1 h2=>h (i+1) cs us (by simpa using h1) (by simpa using h2));have e:(pre++u).length=pre.length+k:=by simp[qY,h0.1]
   rw[e]at ih;simpa using ih
theorem II (S:St s.own loc M0 w.heap) {t len k bs:Nat} {ds:List DVal} {vs:Array (Nat×Value)} (ht:tElem P t=some (k,bs)) (zA:0<k) (jV:len*k<=16777216) (vR:len*bs<=150000000000000) (dN:len<=16777216)
  (hi:vs.toList.map (·.1)=List.range len) (qY:ds.length=len) (hp:ds.all (fun d=>Cs s.own d&&(AB d).length==k)=true)
  (hr:∀(i:Nat) (d:DVal) (q:Nat×Value),ds[i]? =some d->vs.toList[i]? =some q->Bb s loc M0 w d q.2)
  (hz:(match P.underlying t with | some (.slice e)=>(tZero P e).isSome | _=>false)=true):∃(e:TypeId) (us:List Value),P.underlying t=some (.slice e)/\(Instr.buildSlice t len vs).run P w= .ok (.slice (some ⟨w.heap.size,0,none⟩) len len) (w.alloc (.cells us.toArray e))/\us.length=len*k/\Ec (cu s loc) (hm s loc M0) w.heap k (ds.map AB) us.toArray 0:=by
 obtain⟨e,ei,hu,bV,_,_,hce⟩:=BA ht;rw[hu]at hz;obtain⟨z,hz⟩:=bG0.1 hz;obtain⟨zv,yX,_⟩:=FK (w:=w) hz;have mR:vs.toList.length=len:=by have:=congrArg List.length hi;simpa using this
 have vZ:∀(i:Nat) (d:DVal) (q:Nat×Value),ds[i]? =some d->vs.toList[i]? =some q->(AB d).length=k/\Aw (cu s loc) (hm s loc M0) w.heap (AB d) q.2.cells.toList/\∀u∈q.2.cells.toList,u.oneCell'=true:=by
  intro i d q hd hq;have h1:=aX0.1 hp d (bJ0 hd);simp only[aM0,beq_iff_eq]at h1;exact⟨h1.2,Hp S h1.1 (hr i d q hd hq)⟩
 have qD:∀q∈vs.toList,q.2.cells.size=k:=by
  intro q hq;obtain⟨i,zS,vH⟩:=bU0 hq;have hid:i<ds.length:=by omega
  have:=vZ i ds[i] q (aB0 hid) (by rw[aB0 zS,vH]);have hl:=Aq _ _ this.2.1;simp only[bK0]at hl;omega
 have nE:∀Z:Array Value,Z.size=len*k->Instr.fill (fun i=>some (i*k,k)) Z vs.toList=some (vs.toList.flatMap fun q=>q.2.cells.toList).toArray:=by
  intro Z hZs;have:=Xx k vs.toList 0 [] Z.toList (by rw[hi,mR,List.range_eq_range']) qD (by simp) (by simp only[bK0,hZs,mR]);simpa using this
 let us:List Value:=vs.toList.flatMap fun q=>q.2.cells.toList
 have gW:∀l:List (Nat×Value),(∀q∈l,q.2.cells.size=k)->(l.flatMap fun q=>q.2.cells.toList).length=l.length*k:=by
  intro l
  induction l with
  | nil=>intro _;simp
  | cons q l ih =>
   intro hq;have h1:=hq q aK0;have h2:=ih fun x hx=>hq x (aI0 _ hx)
   simp only[dJ0,aE0,List.length_cons,bK0,h1,h2,bQ0];omega
 refine⟨e,us,hu,?_,by rw[gW _ qD,mR],?_⟩
 ·have h24':(2:Nat) ^ 24=16777216:=by decide
  have h24:¬(len*k > 2 ^ 24):=by omega
  simp only[Instr.buildSlice,Sem.run_bind,run_underlying hu,Result.andThen_ok,BE hce,h24,if_false]
  by_cases h0:len*k=0
  ·simp only[h0,if_true,Sem.run_bind,Sem.run_pure,Result.andThen_ok];rw[nE _ (by simp[h0])];simp[newRow,us]
  ·simp only[h0,if_false,Sem.run_bind,yX,Sem.run_pure,Result.andThen_ok];rw[nE _ (by simp)];simp[newRow,us]
 ·have:=Wf (cur:=cu s loc) (M:=hm s loc M0) (H:=w.heap) k (ds.map AB) (vs.toList.map fun q=>q.2.cells.toList) [] (by rw[aO0,aO0,qY,mR]) (by
   intro i cs us h1 h2;simp only[bH0,aY0]at h1 h2;obtain⟨d,hd,rfl⟩:=h1;obtain⟨q,hq,rfl⟩:=h2
   exact vZ i d q hd hq)
  simpa[us,List.flatMap]using this
theorem TG (S:St s.own loc M0 w.heap) {t len k bs:Nat} {ds:List DVal} {vs:Array (Nat×Value)} (ht:tElem P t=some (k,bs)) (zA:0<k) (jV:len*k<=16777216) (vR:len*bs<=150000000000000) (dN:len<=16777216)
  (hi:vs.toList.map (·.1)=List.range len) (qY:ds.length=len) (hp:ds.all (fun d=>Cs s.own d&&(AB d).length==k)=true)
  (hr:∀(i:Nat) (d:DVal) (q:Nat×Value),ds[i]? =some d->vs.toList[i]? =some q->Bb s loc M0 w d q.2)
  (hz:(match P.underlying t with | some (.slice e)=>(tZero P e).isSome | _=>false)=true):Yields P s loc M0 w (Instr.buildSlice t len vs) (.sl k bs (ds.map AB)):=by
 obtain⟨e,us,_,h1,_,h2⟩:=II (M0:=M0) S ht zA jV vR dN hi qY hp hr hz;have wZ:(w.alloc (.cells us.toArray e)).heap[w.heap.size]? =some (.cells us.toArray e (0,0)):=heap_alloc_new w _;refine⟨_,_,h1,Upd.alloc _ _ _,?_⟩;simp only[rd];refine⟨_,len,by simp[qY];rfl,by simp[qY],by unfold maxLen;omega,by simpa[qY]using vR,?_⟩;refine .inr ⟨w.heap.size,0,us.toArray,e,(0,0),rfl,fun hmm=>by have:=S.lt _ hmm;omega,wZ,?_⟩
 have W:Weak (cu s loc) (cu s loc) (hm s loc M0) (hm s loc M0) w.heap (w.alloc (.cells us.toArray e)).heap (Bq (ds.map AB)) :=
  EK (Upd.alloc [] w _).nil (fun b hb=> .inl hb) (fun e' vG _=>AG S.nd vG)
 exact Cd W k _ _ 0 (Nat.le_refl _) h2
theorem WN (S:St s.own loc M0 w.heap) {p:DVal} {v:Value} {ks vs:List DVal} (hp:Bb s loc M0 w p v) (hc:FT s.own p=some (ks,vs)) :
  (v= .map none/\ks=[]/\vs=[])\/∃b es clk,v= .map (some b)/\w.heap[b]? =some (.map es clk)/\Nk es clk/\Aw (cu s loc) (hm s loc M0) w.heap ks (es.toList.map (·.key))/\Aw (cu s loc) (hm s loc M0) w.heap vs (es.toList.map (·.val)):=by
 unfold FT at hc
 split at hc
 ·simp only[aA0,aR0]at hc;obtain⟨rfl,rfl⟩:=hc;simp only[Bb,rd]at hp;obtain⟨b,es,clk,h1,_,h3,h4,h5,h6⟩:=hp;exact .inr ⟨b,es,clk,h1,h3,h4,h5,h6⟩
 ·simp only[aA0,aR0]at hc;obtain⟨rfl,rfl⟩:=hc;simp only[Bb,rd]at hp;exact .inl ⟨hp,rfl,rfl⟩
 ·rename_i id r
  split at hc
  ·rename_i e he
   split at hc
   ·rename_i qT
    split at hc
    ·rename_i ks0 vs0 wO;simp only[aA0,aR0]at hc;obtain⟨rfl,rfl⟩:=hc;obtain⟨vX,hid⟩:=Ay he;have hk:=S.ok e vX;rw[wO]at hk;obtain⟨b,es,clk,h1,h2,h3,h4,h5⟩:=hk;simp only[Bb,rd]at hp;obtain⟨b',qL,hv⟩:=hp (loc id) (by unfold cu Ab;rw[he];simp[qT]);rw[<-hid,h1]at qL;simp only[bF0,and_true]at qL;subst qL;exact .inr ⟨b,es,clk,hv,h2,h3,h4,h5⟩
    ·simp at hc
   ·simp at hc
  ·simp at hc
 ·simp at hc
theorem VK {t:TypeId} {x:TypeId×TypeId} (h:tMap P t=some x):P.underlying t=some (.map x.1 x.2):=by
 unfold tMap at h
 split at h
 ·simp only[aA0]at h;subst h;assumption
 ·simp at h
theorem xD (S:St s.own loc M0 w.heap) {t kt et:TypeId} {d x z:DVal} {v u:Value} {ks vs:List DVal} {ok:Bool} (ht:tMap P t=some (kt,et)) (hd:Bb s loc M0 w d v) (hc:FT s.own d=some (ks,vs)) (hx:Bb s loc M0 w x u)
  (hk:Ck P kt x=true) (wR:ks.all (Ck P kt)=true) (hz:tZeroD P et=some z) :
  Yields P s loc M0 w (Instr.lookup t v u ok) (if ok then .tup [(match AU ks x with | some j=>vs.getD j .any | none=>z),.bool (AU ks x).isSome]else (match AU ks x with | some j=>vs.getD j .any | none=>z)):=by
 obtain⟨zv,yX,hzd⟩:=pT (P:=P) (cur:=cu s loc) (M:=hm s loc M0) (h:=w.heap) hz (w:=w);have hu:=VK ht;simp only at hu
 have fin:∀(es:Array MapEntry) (v1:Value) (b1:Bool) (d1:DVal),Bb s loc M0 w d1 v1->(Instr.lookup t v u ok).run P w= .ok (if ok then .tuple #[v1,.bool b1]else v1) w->Yields P s loc M0 w (Instr.lookup t v u ok) (if ok then .tup [d1,.bool b1]else d1):=by
  intro es v1 b1 d1 hd1 hr;refine Yields.same hr ?_;cases ok
  ·exact hd1
  ·simp only[if_true,Bb,rd];exact⟨_,rfl,by simp only[Aw];exact⟨v1,[.bool b1],rfl,hd1,.bool b1,[],rfl,by simp only[rd],rfl⟩⟩
 rcases WN S hd hc with ⟨rfl,rfl,rfl⟩ | ⟨b,es,clk,rfl,hb,_,h5,h6⟩
 ·have dL:=ET (w:=w) (e:=true) hk hx;refine fin #[] zv false _ ?_ ?_
  ·simpa[AU]using hzd
  ·have hf:=Gq (w:=w) hk hx [] [] (by simp) (by simp[Aw]);simp only[AU,Option.map_none]at hf;cases ok<;>simp[Instr.lookup,run_underlying hu,dL,hf,yX]
 ·have dL:=ET (w:=w) (e:=es.isEmpty) hk hx;have hf:=Gq (w:=w) hk hx es.toList ks wR h5;have hg:(getObj b).run P w= .ok (.map es clk) w:=_root_.Go.run_getObj_map (P:=P) (w:=w) b es clk hb
  cases hl:AU ks x with
  | none =>
   rw[hl]at hf;simp only[Option.map_none]at hf;refine fin es zv false _ hzd ?_;cases ok<;>simp[Instr.lookup,run_underlying hu,hg,dL,hf,yX]
  | some j =>
   rw[hl]at hf;simp only[dB0]at hf;have hj:=WR hl;have zU:=Aq _ _ h5;have gC:=Aq _ _ h6;simp only[aO0,bK0]at zU gC;have hjv:j<vs.length:=by omega
   obtain⟨v1,fQ,nV⟩:=PM _ _ j _ h6 (aB0 hjv);rw[bH0]at fQ;refine fin es v1 true _ ?_ ?_
   ·simp only[bA0,aB0 hjv,bV0];exact nV
   ·rw[fQ]at hf;simp only[bV0]at hf;cases ok<;>simp[Instr.lookup,run_underlying hu,hg,dL,hf]
theorem Pm (S:St s.own loc M0 w.heap) {t ty:TypeId} {d:DVal} {v:Value} {ks vs:List DVal} (ht:(tMap P t).isSome=true) (hd:Bb s loc M0 w d v) (hc:FT s.own d=some (ks,vs)) (hl:(ks.length:Int)<=9223372036854775807) :
  Yields P s loc M0 w (Builtin.len_ #[t] ty #[v]) (.int .i64 ks.length):=by
 obtain⟨y,hy⟩:=bG0.1 ht;have hu:=VK hy
 rcases WN S hd hc with ⟨rfl,rfl,rfl⟩ | ⟨b,es,clk,rfl,hb,_,h5,_⟩
 ·exact Yields.same (v:= .int .i64 0) (by simp[Builtin.len_,run_underlying hu,goInt]) (by simp[Bb,rd,Kx])
 ·have hln:=Aq _ _ h5;simp only[aO0,bK0]at hln;have hg:(getObj b).run P w= .ok (.map es clk) w:=_root_.Go.run_getObj_map (P:=P) (w:=w) b es clk hb;refine Yields.same (v:= .int .i64 es.size) (by simp[Builtin.len_,run_underlying hu,goInt,hg]) ?_;simp only[Bb,rd,Kx,hln];exact⟨trivial,by omega,hl⟩
theorem Wg {cur:EF} {M:List Nat} {H:Array Obj} {k:Nat}:∀(n:Nat) (es:List (List DVal)) (arr:Array Value) (o:Nat),Ec cur M H k es arr o->Ec cur M H k (es.drop n) arr (o+n*k)
 | 0,es,arr,o,hr=>by simpa using hr
 | n+1,[],arr,o,hr=>by simp[Ec]
 | n+1,c::es,arr,o,hr=>by
  simp only[Ec]at hr;have:=Wg n es arr (o+k) hr.2.2;simp only[dQ0]
  rwa[show o+k+n*k=o+(n+1)*k by rw[bQ0];omega]at this
theorem Wd {cur:EF} {M:List Nat} {H:Array Obj} {k:Nat}:∀(n:Nat) (es:List (List DVal)) (arr:Array Value) (o:Nat),Ec cur M H k es arr o->Ec cur M H k (es.take n) arr o
 | 0,es,arr,o,hr=>by simp[Ec]
 | n+1,[],arr,o,hr=>by simp[Ec]
 | n+1,c::es,arr,o,hr=>by
  simp only[Ec,cJ0]at hr |-;exact⟨hr.1,hr.2.1,Wd n es arr (o+k) hr.2.2⟩
theorem run_sliceBound {e:Operand->DVal} {x:Operand} (hρ:Bb s loc M0 w (e x) (ρ x)) {d:Int} {y:Nat} {c:BoundsCode} (h0:0<=CQ e d (some x)) (h1:CQ e d (some x)<=y):(Instr.sliceBound (ρ x) y c).run P w= .ok (CQ e d (some x)).toNat w:=by
 simp only[CQ]at h0 h1 |-
 split at h0
 ·rename_i ik n hx;simp only[hx]at h1 |-;rw[hx]at hρ;simp only[Bb,rd]at hρ;rw[hρ.1];simp[Instr.sliceBound,asIntOf,h0,h1]
 ·omega
theorem GU {e:Operand->DVal} (hρ:∀x,Bb s loc M0 w (e x) (ρ x)) {b:Bool} {len cap:Nat} {l h:Option Operand} (hp:Eg e len l h none) (hc:len<=cap) :
  (Instr.sliceBounds b len cap (l.map ρ) (h.map ρ) none).run P w= .ok ((CQ e 0 l).toNat,(CQ e len h).toNat,cap) w:=by
 obtain⟨h0,h1,h2,h3,h4⟩:=hp;have en:∀d,CQ e d none=d:=fun _=>rfl
 rw[en]at h2 h3
 cases h with
 | none =>
  rw[en]at h1 |-
  cases l with
  | none=>simp[Instr.sliceBounds,en]
  | some y =>
   have hb:=run_sliceBound (P:=P) (c:= .sliceB) (hρ y) (d:=0) (y:=len) h0 h1;simp[Instr.sliceBounds,hb]
 | some x =>
  have hh:=run_sliceBound (P:=P) (c:=if b then .sliceAcap else .sliceAlen) (hρ x) (d:=len) (y:=cap) (by omega) (by omega)
  cases l with
  | none=>simp[Instr.sliceBounds,en,hh]
  | some y =>
   have hb:=run_sliceBound (P:=P) (c:= .sliceB) (hρ y) (d:=0) (y:=(CQ e len (some x)).toNat) h0 (by omega);simp[Instr.sliceBounds,hb,hh]
theorem LA (S:St s.own loc M0 w.heap) {id r et k bs:Nat} {es:List (List DVal)} {e:Ent} (he:Aj s.own id=some e) (qT:e.r=r) (qZ:e.obj= .row et k bs es) :
  Ab s.own loc id r=some (loc id)/\∃a cap,(loc id).hdr= .slice a es.length cap/\es.length<=cap/\cap<=maxLen/\((es=[]/\(loc id).blks=[]/\a=none/\cap=0)\/∃b,(loc id).blks=[b]/\a=some ⟨b,0,none⟩):=by
 obtain⟨vX,hid⟩:=Ay he;have hk:=S.ok e vX;rw[qZ]at hk;obtain⟨_,hk⟩:=hk;rw[hid]at hk;refine⟨by unfold Ab;rw[he];simp[qT],?_⟩
 rcases hk with ⟨rfl,h1,h2⟩ | ⟨b,arr,cap,p1,p2,p3,p4,p5,p6,p7⟩
 ·exact⟨none,0,h2,by simp,by unfold maxLen;omega,.inl ⟨rfl,h1,rfl,rfl⟩⟩
 ·exact⟨_,cap,p2,p4,p5,.inr ⟨b,p1,rfl⟩⟩
theorem Zz {own:List Ent} {d:DVal} {id r k bs:Nat} {es:List (List DVal)} (hd:d= .osl id r) (h:AZ own d=some (k,bs,es)):∃e et,Aj own id=some e/\e.r=r/\e.obj= .row et k bs es:=by
 subst hd;unfold AZ at h;simp only at h
 split at h
 ·rename_i e he
  split at h
  ·rename_i qT
   split at h
   ·rename_i et k' bs' es' qZ;simp only[aA0,aR0]at h;obtain⟨rfl,rfl,rfl⟩:=h;exact⟨e,et,he,qT,qZ⟩
   ·simp at h
  ·simp at h
 ·simp at h
theorem rM {own:List Ent} {d:DVal} {id r k bs i n:Nat} (hd:d= .vw id r k bs i n) (h:(AZ own d).isSome=true):∃e et es,Aj own id=some e/\e.r=r/\e.obj= .row et k bs es/\i+n<=es.length:=by
 subst hd;unfold AZ at h;simp only at h
 split at h
 ·rename_i e he
  split at h
  ·rename_i qT
   split at h
   ·rename_i et k' bs' es' qZ
    split at h
    ·rename_i hb;obtain⟨rfl,rfl,hb⟩:=hb;exact⟨e,et,es',he,qT,qZ,hb⟩
    ·simp at h
   ·simp at h
  ·simp at h
 ·simp at h
theorem Fk {e:Operand->DVal} (hρ:∀x,Bb s loc M0 w (e x) (ρ x)) {b:Bool} {len cap:Nat} {l h m:Option Operand} (hp:Eg e len l h m) (hc:len<=cap) :
  ∃mm,(Instr.sliceBounds b len cap (l.map ρ) (h.map ρ) (m.map ρ)).run P w= .ok ((CQ e 0 l).toNat,(CQ e len h).toNat,mm) w/\(CQ e len h).toNat<=mm/\mm<=cap:=by
 obtain⟨h0,h1,h2,h3,h4⟩:=hp;have en:∀d,CQ e d none=d:=fun _=>rfl
 cases m with
 | none =>
  rw[en]at h2 h3;refine⟨cap,?_,by omega,Nat.le_refl _⟩
  cases h with
  | none =>
   rw[en]at h1 |-
   cases l with
   | none=>simp[Instr.sliceBounds,en]
   | some y =>
    have hb:=run_sliceBound (P:=P) (c:= .sliceB) (hρ y) (d:=0) (y:=len) h0 h1;simp[Instr.sliceBounds,hb]
  | some x =>
   have hh:=run_sliceBound (P:=P) (c:=if b then .sliceAcap else .sliceAlen) (hρ x) (d:=len) (y:=cap) (by omega) (by omega)
   cases l with
   | none=>simp[Instr.sliceBounds,en,hh]
   | some y =>
    have hb:=run_sliceBound (P:=P) (c:= .sliceB) (hρ y) (d:=0) (y:=(CQ e len (some x)).toNat) h0 (by omega);simp[Instr.sliceBounds,hb,hh]
 | some z =>
  obtain⟨x,rfl⟩:=bG0.1 (h4 rfl);have hm:=run_sliceBound (P:=P) (c:=if b then .slice3Acap else .slice3Alen) (hρ z) (d:=len) (y:=cap) (by omega) (by omega);have hh:=run_sliceBound (P:=P) (c:= .slice3B) (hρ x) (d:=len) (y:=(CQ e len (some z)).toNat) (by omega) (by omega);refine⟨(CQ e len (some z)).toNat,?_,by omega,by omega⟩
  cases l with
  | none=>simp[Instr.sliceBounds,en,hm,hh]
  | some y =>
   have hb:=run_sliceBound (P:=P) (c:= .slice3C) (hρ y) (d:=0) (y:=(CQ e len (some x)).toNat) h0 (by omega);simp[Instr.sliceBounds,hb,hm,hh]
theorem sK {o:Oper} {e:Operand->DVal} (S:St s.own loc M0 w.heap) (hρ:∀x,Bb s loc M0 w (e x) (ρ x)) (hp:Fm P s.own e o.op) :
  ∃v w',(execOp ρ o).run P w= .ok (.value v) w'/\Upd [] w w'/\rd (cu s loc) (hm s loc M0) w'.heap (Bx P s.own e o.op) v:=by
 obtain⟨dst,op,type,Gg,after,guard⟩:=o;simp only at hp |-
 have fin:∀(x:Sem Value) (d:DVal),Yields P s loc M0 w x d->∃v w',(do pure (.value (<-x)):Sem Next).run P w= .ok (.value v) w'/\Upd [] w w'/\rd (cu s loc) (hm s loc M0) w'.heap d v:=by
  rintro x d ⟨v,w',h1,h2,h3⟩;exact⟨v,w',by rw[Sem.run_bind,h1];rfl,h2,h3⟩
 have fin':∀(x:Sem Value) (d:DVal),Yields P s loc M0 w x d->∃v w',((x.run P w).andThen fun a w'=>Result.ok (Next.value a) w')= .ok (.value v) w'/\Upd [] w w'/\rd (cu s loc) (hm s loc M0) w'.heap d v:=by
  rintro x d ⟨v,w',h1,h2,h3⟩;exact⟨v,w',by rw[h1];rfl,h2,h3⟩
 have one:∀(v:Value) (d:DVal),Bb s loc M0 w d v->∃v' w',(pure (.value v):Sem Next).run P w= .ok (.value v') w'/\Upd [] w w'/\rd (cu s loc) (hm s loc M0) w'.heap d v' :=
  fun v d h=>⟨v,w,rfl,Upd.refl _ _,h⟩
 cases op<;>simp only[Fm]at hp
 case move x=>exact one _ _ (hρ x)
 case assign x=>exact one _ _ (hρ x)
 case pick c a b =>
  have hc:=hρ c
  split at hp
  ·rename_i t ht;rw[ht]at hc;simp only[Bb,rd]at hc;simp only[Bx,ht,execOp,hc];refine one (if t then ρ a else ρ b) _ ?_;have ha:=hρ a;have hb:=hρ b
   generalize e a=da at *
   generalize e b=db at *
   have plain:Bb s loc M0 w (if t then da else db) (if t then ρ a else ρ b):=by cases t<;>simp<;>assumption
   unfold IQ
   split
   ·cases t<;>simpa using plain
   ·rename_i p c q;simp only[HJ]at hp;simp only[Bb,rd]at ha hb |-;cases t
    ·exact hb.1 (hp rfl)
    ·exact ha
   ·rename_i c p q;simp only[HJ]at hp;simp only[Bb,rd]at ha hb |-;cases t
    ·exact hb
    ·exact ha.1 (hp rfl)
   ·exact plain
  ·exact hp.elim
 case fieldAddr t x f =>
  have hx:=hρ x;simp only[execOp];refine fin _ _ ?_
  split at hp
  ·rename_i off n b cs hf hd;rw[hd]at hx;have:=MC (P:=P) hf hp hx (.inl ⟨cs,rfl⟩);simpa only[Bx,hf,hd]using this
  ·rename_i off n b id r o hf hd;rw[hd]at hx;have:=MC (P:=P) hf hp.1 hx (.inr (.inl ⟨id,r,o,rfl,by rw[CX hp.2];rfl⟩));simpa only[Bx,hf,hd]using this
  ·rename_i off n b id r k i j hf hd;rw[hd]at hx;have:=MC (P:=P) hf hp.1 hx (.inr (.inr ⟨id,r,k,i,j,rfl,by rw[CX hp.2];rfl⟩));simpa only[Bx,hf,hd]using this
  ·exact hp.elim
 case load t a =>
  have ha:=hρ a;simp only[execOp];refine fin _ _ ?_
  split at hp
  ·rename_i n cs hg hn hc;have:=xE (P:=P) S (b:=true) hg ha hc (fun _=>⟨n,hn,hp⟩) (by simp);simpa only[Bx,hg,hn,hc,bV0]using this
  ·rename_i cs hg hc;have:=xE (P:=P) S (b:=false) hg ha hc (by simp) (fun _=>hp);cases hn:tCells P t<;>simpa only[Bx,hg,hn,hc]using this
  ·exact hp.elim
 case indexAddr t x i =>
  have hx:=hρ x;have hi:=hρ i;simp only[execOp];refine fin _ _ ?_
  split at hp
  ·rename_i ik n k bs k' bs' es bV zH hr;obtain⟨rfl,h0,h1⟩:=hp;rw[bV]at hi;simp only[Bb,rd]at hi;rw[hi.1];have:=pM (P:=P) S (ik:=ik) zH hx hr h0 h1;simpa only[Bx,bV,zH]using this
  ·rename_i ik n bV zH
   split at hp
   ·rename_i len k hta;rw[bV]at hi;simp only[Bb,rd]at hi;rw[hi.1];have:=Cv_ (P:=P) (ik:=ik) hta hx hp;simpa only[Bx,bV,zH,hta]using this
   ·exact hp.elim
  ·exact hp.elim
 case index t x i =>
  have hx:=hρ x;have hi:=hρ i;simp only[execOp];refine fin _ _ ?_
  split at hp
  ·rename_i str ik n hd bV;obtain⟨ht,h0,h1⟩:=hp;rw[bV]at hi;rw[hd]at hx;simp only[Bb,rd]at hi hx;rw[hi.1,hx.1];simp only[Bx,hd,bV]
   have hu:P.underlying t=some .string:=by
    unfold tStr at ht
    split at ht
    ·assumption
    ·simp at ht
   have qV:n.toNat<str.size:=by omega
   refine Yields.same (v:= .int .u8 (str[n.toNat]).toNat) ?_ ?_
   ·simp[Instr.index,asIntOf,run_underlying hu,h0,qV]
   ·have e:str.data.toList.getD n.toNat 0=str[n.toNat]:=by
     have gF:n.toNat<str.data.size:=qV;rw[bA0,aB0 (by simpa using gF)];rfl
    simp only[Bb,rd,e,Kx,true_and];have:=(str[n.toNat]).toNat_lt;omega
  ·rename_i cs ik n hd bV
   split at hp
   ·rename_i len hta;rw[bV]at hi;rw[hd]at hx;simp only[Bb,rd]at hi;rw[hi.1];have:=xG (P:=P) (ik:=ik) hta hx hp.1 hp.2.1 hp.2.2;simpa only[Bx,hd,bV]using this
   ·exact hp.elim
  ·exact hp.elim
 case field t x f =>
  have hx:=hρ x;simp only[execOp];refine fin _ _ ?_
  split at hp
  ·rename_i off n b cs hf hd;rw[hd]at hx;have:=Ct_ (P:=P) hf hx hp.1 hp.2;simpa only[Bx,hf,hd]using this
  ·exact hp.elim
 case binOp op t x y ty =>
  obtain⟨d,hd⟩:=bG0.1 hp;obtain⟨r,h1,h2⟩:=Do_ (P:=P) (w:=w) (xo:=x) (yo:=y) hd (hρ x) (hρ y);simp only[execOp];refine fin _ _ ?_;simp only[Bx,hd,bV0];exact Yields.same h1 h2
 case unOp op t x =>
  have hx:=hρ x;simp only[execOp];refine fin _ _ ?_
  split at hp
  ·rename_i b hd;rw[hd]at hx;simp only[Bb,rd]at hx;rw[hx];simp only[Bx,hd];exact Yields.same (v:= .bool (!b)) rfl (by simp only[Bb,rd])
  ·rename_i k n hd;rw[hd]at hx;simp only[Bb,rd]at hx;rw[hx.1];simp only[Bx,hd];exact Yields.same (v:= .int k (k.wrap (0-n))) rfl (by simp only[Bb,rd,Ix,and_self])
  ·exact hp.elim
 case convert src dst x =>
  have hx:=hρ x;obtain⟨hs,hp⟩:=hp;obtain⟨sd,hs⟩:=bG0.1 hs;simp only[execOp];refine fin _ _ ?_
  split at hp
  ·rename_i k n hd;rw[hd]at hx;simp only[Bb,rd]at hx;rw[hx.1];obtain⟨k',vI⟩:=bG0.1 hp;simp only[Bx,hd,vI]
   have hu:P.underlying dst=some (.int k'):=by
    unfold DW_ at vI
    split at vI
    ·simp only[aA0]at vI;subst vI;assumption
    ·simp at vI
   refine Yields.same (v:= .int k' (k'.wrap n)) ?_ (by simp only[Bb,rd,Ix,and_self]);simp[convert,run_underlying hs,run_underlying hu,Conv.intToInt]
  ·rename_i str hd;rw[hd]at hx;simp only[Bb,rd]at hx;simp only[Bx,hd]
   have hu:P.underlying dst=some .string:=by
    unfold tStr at hp
    split at hp
    ·assumption
    ·simp at hp
   refine Yields.same (v:=ρ x) ?_ (by simp only[Bb,rd];exact hx);rw[hx.1];simp only[convert,Sem.run_bind,run_underlying hs,run_underlying hu,Result.andThen_ok];cases sd<;>rfl
  ·exact hp.elim
 case extract x i =>
  have hx:=hρ x;simp only[execOp];refine fin _ _ ?_
  split at hp
  ·rename_i vs hd;rw[hd]at hx;simp only[Bb,rd]at hx;obtain⟨us,hu,vO⟩:=hx;rw[hu];obtain⟨v,hv,hr⟩:=PM _ _ i vs[i] vO (aB0 hp);simp only[Bx,hd];refine Yields.same (v:=v) ?_ ?_
   ·have fX:us[i]? =some v:=by simpa using hv
    simp[Instr.extract,fX]
   ·rw[bA0,aB0 hp];exact hr
  ·exact hp.elim
 case makeFunc f us cs =>
  have key:∀l:List Operand,Aw (cu s loc) (hm s loc M0) w.heap (l.map e) (l.map ρ):=by
   intro l
   induction l with
   | nil=>simp[Aw]
   | cons x l ih=>simp only[List.map_cons,Aw];exact⟨_,_,rfl,hρ x,ih⟩
  simp only[execOp,Bx];refine fin _ _ (Yields.same (v:= .func f (us.map ρ) (cs.map ρ)) rfl ?_);simp only[Bb,rd];exact⟨_,_,rfl,by simpa using key us.toList,by simpa using key cs.toList⟩
 case makeInterface t x =>
  simp only[execOp,Bx];refine fin _ _ (Yields.same (v:= .iface t (ρ x)) ?_ (by simp only[Bb,rd];exact⟨_,rfl,hρ x⟩))
  cases hu:P.underlying t with
  | none=>simp[hu]at hp
  | some d=>cases d<;>simp[hu]at hp<;>simp[Instr.makeInterface,run_underlying hu]
 case nilCheck x =>
  have hx:=hρ x
  split at hp
  ·rename_i cs hd;rw[hd]at hx;simp only[Bb,rd]at hx;have qG:=hx;obtain⟨b,off,arr,ty,fz,hv,_⟩:=hx;simp only[execOp,hv,Bx,hd];exact one _ _ (by rw[<-hv];simp only[Bb,rd];exact qG)
  ·rename_i id r off hd;rw[hd]at hx;have qG:=hx;simp only[Bb,rd]at hx;obtain⟨b,_,hv⟩:=hx _ (CX hp);simp only[execOp,hv,Bx,hd];exact one _ _ (by rw[<-hv];exact qG)
  ·rename_i id r k i j hd;rw[hd]at hx;have qG:=hx;simp only[Bb,rd]at hx;obtain⟨b,_,hv⟩:=hx _ (CX hp);simp only[execOp,hv,Bx,hd];exact one _ _ (by rw[<-hv];exact qG)
  ·rename_i f us cs hd;rw[hd]at hx;simp only[Bb,rd]at hx;have qG:=hx;obtain⟨us',cs',hv,_⟩:=hx;simp only[execOp,hv,Bx,hd];exact one _ _ (by rw[<-hv];simp only[Bb,rd];exact qG)
  ·exact hp.elim
 case box t x =>
  simp only[execOp,Bx];exact fin _ _ (EW_ S hp (hρ x))
 case build t parts =>
  split at hp
  ·rename_i z hz;obtain⟨h1,h2,h3⟩:=hp;unfold tParts at h3
   split at h3
   ·rename_i fs hs;obtain⟨out,vV⟩:=bG0.1 h1;simp only[execOp,Bx,hz,vV,bV0];refine fin _ _ (Cu_ S hz hs h3 (ds:=parts.toList.map fun p=>(p.1,e p.2)) (by simp) ?_ vV);intro i p q zD vH;simp only[bH0,aY0,dV0]at zD vH;obtain⟨a,ha,rfl⟩:=zD;obtain⟨b,hb,rfl⟩:=vH;rw[ha]at hb;simp only[aA0]at hb;subst hb;exact(Hp S (aX0.1 h2 a (bJ0 ha)) (hρ a.2)).1
   ·obtain⟨out,vV⟩:=bG0.1 h1;simp only[execOp,Bx,hz,vV,bV0];exact fin _ _ (xF hz h3 (ds:=parts.toList.map fun p=>(p.1,e p.2)) (by simp) vV)
  ·exact hp.elim
 case buildSlice t len parts =>
  split at hp
  ·rename_i k bs ht;obtain⟨h1,h2,h3,h4,h5,h6,h7⟩:=hp;simp only[execOp,Bx,ht];have qY:parts.toList.length=len:=by have:=congrArg List.length h1;simpa using this
   have:=TG (P:=P) (vs:=parts.map fun p=>(p.1,ρ p.2)) S ht h5 h2 h3 h4 (ds:=parts.toList.map fun p=>e p.2) (by rw[dV0,cA0];exact h1) (by simpa using qY) (by simpa[List.all_map,Function.comp_def]using h6) (by
    intro i d q hd hq;simp only[bH0,aY0,dV0]at hd hq;obtain⟨a,ha,rfl⟩:=hd;obtain⟨b,hb,rfl⟩:=hq;rw[ha]at hb;simp only[aA0]at hb;subst hb
    exact hρ a.2) h7
   refine fin _ _ ?_;simpa[cA0,Function.comp_def]using this
  ·exact hp.elim
 case slice t x l h m =>
  have hx:=hρ x;simp only[execOp];refine fin _ _ ?_
  split at hp
  ·rename_i k bs es hd;rw[hd]at hx;simp only[Bb,rd]at hx;obtain⟨a,cap,hv,g1,g2,g3,g4⟩:=hx;obtain⟨e',i,hu,hi,qD,_,_⟩:=BA hp.1;obtain⟨mm,hr,k1,k2⟩:=Fk (P:=P) hρ (b:=true) hp.2 g1;obtain⟨p0,p1,p2,p3,_⟩:=hp.2;simp only[Bx,hd];rw[hv]
   have qY:((es.drop (CQ e 0 l).toNat).take ((CQ e es.length h).toNat-(CQ e 0 l).toNat)).length=(CQ e es.length h).toNat-(CQ e 0 l).toNat:=by
    simp only[aW0,bZ0];omega
   refine Yields.same (v:= .slice (if mm=(CQ e 0 l).toNat then a else a.map (·.add ((CQ e 0 l).toNat*k))) ((CQ e es.length h).toNat-(CQ e 0 l).toNat) (mm-(CQ e 0 l).toNat)) ?_ ?_
   ·simp[Instr.sliceAt,Instr.slice,run_underlying hu,hr,sizeOf,typeInfo,hi,qD]
   ·simp only[Bb,rd];refine⟨_,_,by rw[qY],by rw[qY];omega,by omega,?_,?_⟩
    ·refine Nat.le_trans (aZ0 bs ?_) g3;rw[qY];omega
    ·by_cases hz:(CQ e es.length h).toNat-(CQ e 0 l).toNat=0
     ·refine .inl ⟨bM0 (by rw[qY];exact hz),?_⟩;intro hn
      rcases g4 with ⟨rfl,hc⟩ | ⟨b,off,arr,ty,fz,rfl,_⟩
      ·split at hn
       ·omega
       ·cases a with
        | none=>have:=hc rfl;omega
        | some a=>simp at hn
      ·split at hn<;>simp at hn
     ·right
      rcases g4 with ⟨rfl,_⟩ | ⟨b,off,arr,ty,fz,rfl,q1,q2,q3⟩
      ·simp only[List.length_nil]at hz qY p3 p2;simp at qY;omega
      ·refine⟨b,off+(CQ e 0 l).toNat*k,arr,ty,fz,?_,q1,q2,Wd _ _ _ _ (Wg _ _ _ _ q3)⟩;rw[if_neg (by omega)];simp[Dh]
  ·rename_i hd;rw[hd]at hx;simp only[Bb,rd]at hx;obtain⟨y,hy⟩:=bG0.1 hp.1;obtain⟨e',i,hu,hi,qD,_,_⟩:=BA (k:=y.1) (bs:=y.2) hy;obtain⟨mm,hr,k1,k2⟩:=Fk (P:=P) hρ (b:=true) hp.2 (Nat.le_refl 0);obtain⟨p0,p1,p2,p3,_⟩:=hp.2;simp only[Bx,hd];rw[hx];have e0:((0:Nat):Int)=0:=rfl;rw[e0]at hr k1 p1 p2 p3;have z1:(CQ e 0 l).toNat=0:=by omega
   have z2:(CQ e 0 h).toNat=0:=by omega
   have z3:mm=0:=by omega
   subst z3;refine Yields.same (v:= .slice none 0 0) ?_ (by simp only[Bb,rd]);simp[Instr.sliceAt,Instr.slice,run_underlying hu,hr,sizeOf,typeInfo,hi,z1,z2]
  ·rename_i id r hd;obtain⟨rfl,hp⟩:=hp;rw[hd]at hx
   cases dY:AZ s.own (.osl id r)with
   | none=>rw[dY]at hp;exact hp.elim
   | some x =>
    obtain⟨k,bs,es⟩:=x;rw[dY]at hp;simp only at hp;obtain⟨e',i,hu,hi,qD,_,_⟩:=BA hp.1;obtain⟨e0,et,vA,qT,qZ⟩:=Zz rfl dY;obtain⟨qA,a,cap,hh,g1,g2,g3⟩:=LA S vA qT qZ;simp only[Bb,rd]at hx;have hv:=hx _ qA;rw[hh]at hv;have hr:=GU (P:=P) hρ (b:=true) hp.2 g1;obtain⟨p0,p1,p2,p3,_⟩:=hp.2;have en:CQ e es.length none=es.length:=rfl;rw[en]at p2 p3;simp only[Bx,hd,dY];rw[hv];refine Yields.same (v:= .slice (if cap=(CQ e 0 l).toNat then a else a.map (·.add ((CQ e 0 l).toNat*k))) ((CQ e es.length h).toNat-(CQ e 0 l).toNat) (cap-(CQ e 0 l).toNat)) ?_ ?_
    ·simp[Instr.sliceAt,Instr.slice,run_underlying hu,hr,sizeOf,typeInfo,hi,qD]
    ·simp only[Bb,rd];intro lc hl;have wY:Ab s.own loc id r=some lc:=hl;rw[qA]at wY;simp only[aA0]at wY;subst wY;refine⟨_,_,rfl,by omega,by omega,fun hn=> ?_,fun hn=> ?_,fun hz=> ?_⟩
     ·rcases g3 with ⟨_,_,_,yL⟩ | ⟨b,qS,rfl⟩
      ·omega
      ·split at hn<;>simp at hn
     ·rcases g3 with ⟨rfl,_⟩ | ⟨b,qS,rfl⟩
      ·simp only[List.length_nil]at p2 hn;omega
      ·refine⟨b,qS,?_⟩;rw[if_neg (by omega)];simp[Dh]
     ·refine⟨es.length,?_⟩;rw[hh,hz]
      rcases g3 with ⟨rfl,_,rfl,rfl⟩ | ⟨b,qS,rfl⟩
      ·simp
      ·simp[Dh]
  ·rename_i id r k bs i0 n0 hd;obtain⟨rfl,dY,hp⟩:=hp;rw[hd]at hx;obtain⟨e0,et,es,vA,qT,qZ,hbound⟩:=rM rfl dY;obtain⟨e',i,hu,hi,qD,_,_⟩:=BA hp.1;obtain⟨qA,a0,cap0,hh,g1,g2,g3⟩:=LA S vA qT qZ;simp only[Bb,rd]at hx;obtain⟨a,cap,hv,q1,q2,q5,q3,q4⟩:=hx _ qA;have hr:=GU (P:=P) hρ (b:=true) hp.2 q1;obtain⟨p0,p1,p2,p3,_⟩:=hp.2;have en:CQ e n0 none=n0:=rfl;rw[en]at p2 p3;simp only[Bx,hd];rw[hv];refine Yields.same (v:= .slice (if cap=(CQ e 0 l).toNat then a else a.map (·.add ((CQ e 0 l).toNat*k))) ((CQ e n0 h).toNat-(CQ e 0 l).toNat) (cap-(CQ e 0 l).toNat)) ?_ ?_
   ·simp[Instr.sliceAt,Instr.slice,run_underlying hu,hr,sizeOf,typeInfo,hi,qD]
   ·simp only[Bb,rd];intro lc hl;have wY:Ab s.own loc id r=some lc:=hl;rw[qA]at wY;simp only[aA0]at wY;subst wY;refine⟨_,_,rfl,by omega,by omega,fun hn=> ?_,fun hn=> ?_,fun hz=> ?_⟩
    ·have ha:a=none:=by
      split at hn
      ·exact hn
      ·simpa using hn
     have:=q5 ha;omega
    ·obtain⟨b,qS,rfl⟩:=q3 (by omega);refine⟨b,qS,?_⟩;rw[if_neg (by omega)];simp[Dh,bQ0]
    ·obtain⟨n1,hh1⟩:=q4 (by omega);rw[hh]at hh1;simp only[Value.slice.injEq]at hh1;obtain⟨rfl,_,rfl⟩:=hh1;refine⟨es.length,?_⟩;have z0:(CQ e 0 l).toNat=0:=by omega
     rw[hh,z0]
     rcases g3 with ⟨rfl,_,rfl,rfl⟩ | ⟨b,qS,rfl⟩
     ·simp
     ·simp[Dh]
  ·rename_i str hd;obtain⟨ht,rfl,jQ⟩:=hp;rw[hd]at hx;simp only[Bb,rd]at hx
   have hu:P.underlying t=some .string:=by
    unfold tStr at ht
    split at ht
    ·assumption
    ·simp at ht
   obtain⟨mm,hr,k1,k2⟩:=Fk (P:=P) hρ (b:=false) (cap:=str.size) jQ (Nat.le_refl _);simp only[Bx,hd];rw[hx.1];refine Yields.same (v:= .string (str.extract (CQ e 0 l).toNat (CQ e str.size h).toNat)) ?_ ?_
   ·simp only[Option.map_none]at hr;simp[Instr.sliceAt,Instr.slice,run_underlying hu,hr]
   ·simp only[Bb,rd,true_and];have h2:=hx.2
    have:(str.extract (CQ e 0 l).toNat (CQ e str.size h).toNat).size<=str.size:=by
     rw[ByteArray.size_extract];omega
    omega
  ·exact hp.elim
 case lookup t x i ok =>
  have hx:=hρ x;have hi:=hρ i;simp only[execOp];refine fin _ _ ?_
  split at hp
  ·rename_i kt et ks vs ht hc;obtain⟨z,hz⟩:=bG0.1 hp.2.2;have:=xD (P:=P) (ok:=ok) S ht hx hc hi hp.1 hp.2.1 hz;simpa only[Bx,ht,hc,hz,bV0]using this
  ·exact hp.elim
 case call c =>
  obtain⟨callee,args,ats⟩:=c;cases callee<;>simp only at hp
  case builtin b =>
   cases b<;>simp only[Sl]at hp
   case append =>
    obtain⟨al⟩:=args;obtain⟨tl⟩:=ats
    match al,tl,hp with
    | [x,y],[t,t'],hp =>
     have hx:=hρ x;have hy:=hρ y;simp only[List.map_cons,List.map_nil]at hp;simp only[Bx,List.map_cons,List.map_nil,Mn];simp only[execOp,resolve,Sem.run_bind,dM0,List.map_cons,List.map_nil,Sem.run_pure,Result.andThen_ok,invoke,builtin];refine fin' _ _ ?_
     split at hp
     ·rename_i ha hb;rw[ha]at hx;rw[hb]at hy;simp only[Bb,rd]at hx hy;obtain⟨rfl,h2⟩:=hp;obtain⟨y0,hy0⟩:=bG0.1 h2;obtain⟨e0,i,hu,hi,_⟩:=BA (k:=y0.1) (bs:=y0.2) hy0;rw[hx,hy];refine Yields.same (v:= .slice none 0 0) (by simp[Builtin.append_,run_underlying hu,sizeOf,typeInfo,hi,Builtin.lenOf,Builtin.firstCells,storeCells]) ?_;simp only[Bb,rd]
     ·exact hp.elim
   case min =>
    obtain⟨al⟩:=args;obtain⟨tl⟩:=ats
    match al,hp with
    | [x,y],hp =>
     have hx:=hρ x;have hy:=hρ y;simp only[List.map_cons,List.map_nil]at hp;simp only[Bx,List.map_cons,List.map_nil,Mn];simp only[execOp,resolve,Sem.run_bind,dM0,List.map_cons,List.map_nil,Sem.run_pure,Result.andThen_ok,invoke,builtin];refine fin' _ _ ?_
     split at hp
     ·rename_i k a k' b ha hb;rw[ha]at hx;rw[hb]at hy;simp only[Bb,rd]at hx hy;subst hp;rw[hx.1,hy.1];refine Yields.same (v:= .int k (if b<a then b else a)) (by simp[Builtin.min_,Builtin.min2]) ?_;simp only[Bb,rd,true_and]
      split
      ·exact hy.2
      ·exact hx.2
     ·exact hp.elim
    | [],hp=>simp at hp
    | [_],hp=>simp at hp
    | _::_::_::_,hp=>simp at hp
   case max =>
    obtain⟨al⟩:=args;obtain⟨tl⟩:=ats
    match al,hp with
    | [x,y],hp =>
     have hx:=hρ x;have hy:=hρ y;simp only[List.map_cons,List.map_nil]at hp;simp only[Bx,List.map_cons,List.map_nil,Mn];simp only[execOp,resolve,Sem.run_bind,dM0,List.map_cons,List.map_nil,Sem.run_pure,Result.andThen_ok,invoke,builtin];refine fin' _ _ ?_
     split at hp
     ·rename_i k a k' b ha hb;rw[ha]at hx;rw[hb]at hy;simp only[Bb,rd]at hx hy;subst hp;rw[hx.1,hy.1];refine Yields.same (v:= .int k (if a<b then b else a)) (by simp[Builtin.max_,Builtin.max2]) ?_;simp only[Bb,rd,true_and]
      split
      ·exact hy.2
      ·exact hx.2
     ·exact hp.elim
    | [],hp=>simp at hp
    | [_],hp=>simp at hp
    | _::_::_::_,hp=>simp at hp
   case len =>
    have qW:∀x∈args.toList,Bb s loc M0 w (e x) (ρ x):=fun x _=>hρ x
    obtain⟨al⟩:=args;obtain⟨tl⟩:=ats
    match al,tl,hp,qW with
    | [x],[t],hp,qW =>
     have hx:=hρ x;simp only[List.map_cons,List.map_nil]at hp;simp only[Bx,List.map_cons,List.map_nil,Mn];simp only[execOp,resolve,Sem.run_bind,dM0,List.map_cons,List.map_nil,Sem.run_pure,Result.andThen_ok,invoke,builtin];refine fin' _ _ ?_
     split at hp
     ·rename_i str hd;rw[hd]at hx;simp only[Bb,rd]at hx;rw[hx.1]
      have hu:P.underlying t=some .string:=by
       unfold tStr at hp
       split at hp
       ·assumption
       ·simp at hp
      have qD:=hx.2;refine Yields.same (v:= .int .i64 str.size) (by simp[Builtin.len_,run_underlying hu,goInt]) ?_;simp only[Bb,rd,Kx,true_and];unfold maxLen at qD;omega
     ·rename_i hd;rw[hd]at hx;simp only[Bb,rd]at hx;rw[hx];obtain⟨y,hy⟩:=bG0.1 hp;obtain⟨e,i,hu,_⟩:=BA (k:=y.1) (bs:=y.2) hy;refine Yields.same (v:= .int .i64 0) (by simp[Builtin.len_,run_underlying hu,goInt]) ?_;simp only[Bb,rd,Kx,true_and];omega
     ·rename_i ks vs hd;rw[hd]at hx;exact Pm (P:=P) S hp.1 hx rfl hp.2
     ·rename_i hd;rw[hd]at hx;have:=Pm (P:=P) (ty:=type) (ks:=[]) (vs:=[]) S hp hx rfl (by simp);simpa using this
     ·rename_i id r hd;rw[hd]at hx;obtain⟨h1,h2⟩:=hp
      cases hq:FT s.own (.omp id r)with
      | none=>rw[hq]at h2;exact h2.elim
      | some y =>
       rw[hq]at h2;exact Pm (P:=P) S h1 hx hq h2
     ·rename_i d h1 h2 h3 h4 h5;obtain⟨y,hy⟩:=bG0.1 hp.1;have:=EV_ (P:=P) (ty:=type) S hp.2 hx (k:=y.1) (bs:=y.2.1) (es:=y.2.2) hy;cases hd:e x<;>rw[hd]at h1 h2 h3 h4 h5 hy<;>first | (exact(h1 _ rfl).elim) | (exact(h2 rfl).elim) | (exact(h3 _ _ rfl).elim) | (exact(h4 rfl).elim) | (exact(h5 _ _ rfl).elim) | (simp only[hy];exact this)
end
end Go.Dm
end
