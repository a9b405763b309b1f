/- Parts of a proof, laid together: EnE. -/
import Derived.MapKept
import Derived.Test.YtiojapdolljocaaGreatqMx2
set_option linter.unusedSimpArgs false
set_option maxHeartbeats 8000000
set_option linter.unusedVariables false
set_option linter.unusedSectionVars false
section
namespace Go.Dm
variable [DMode]
def AE : DVal->List DVal
 | .agg cs=>cs
 | d=>[d]
def Dr (cells:List DVal) (off:Nat) (cs:List DVal):List DVal:=cells.take off++cs++cells.drop (off+cs.length)
def GC (place:Nat->Option (Nat×Nat)) (cells:List DVal):List (Nat×DVal)->Option (List DVal)
 | []=>some cells
 | (i,d)::rest=>match place i with
  | none=>none
  | some (off,size)=>if (AE d).length=size/\off+size<=cells.length then GC place (Dr cells off (AE d)) rest else none
def DP (own:List Ent) (id r:Nat):Bool:=match An own id with | some e=>e.r==r | none=>false
def Fo (own:List Ent):DVal->Bool
 | .any | .undef | .sel _ _ | .tup _ | .agg _=>false
 | .bx id r _=>DP own id r
 | .rx id r _ _ _=>DP own id r
 | .omp id r=>DP own id r
 | .osl id r=>(Bg own (.osl id r)).isSome
 | .vw id r _ _ _ _=>DP own id r
 | .pk id r=>match An own id with | some e=>e.r==r&&(match e.obj with | .abs _=>true | _=>false) | none=>false
 | _=>true
def CB (own:List Ent) (d:DVal):Bool:=(AE d).all (Fo own)
def JC (t:Bool):DVal->DVal->DVal
 | .bool p,.bool q=> .bool (if t then p else q)
 | .bool p,.sel _ (.bool q)=> .bool (if t then p else q)
 | .sel _ (.bool p),.bool q=> .bool (if t then p else q)
 | a,b=>if t then a else b
def IB (t:Bool):DVal->DVal->Prop
 | .bool _,.sel c (.bool _)=>t=false->c=true
 | .sel c (.bool _),.bool _=>t=true->c=true
 | _,_=>True
def Gy (own:List Ent) (d:DVal) (n:Int):DVal :=
 match d with
 | .sl _ _ es=> .ref (es.getD n.toNat [])
 | .osl id r=>match Bg own (.osl id r)with | some (k,_,_)=> .rx id r k n.toNat 0 | none=> .any
 | .vw id r k _ i _=> .rx id r k (i+n.toNat) 0
 | _=> .any
def Gu (own:List Ent):DVal->Option (List DVal×List DVal)
 | .mp ks vs=>some (ks,vs)
 | .nilmp=>some ([],[])
 | .omp id r=>match An own id with
  | some e=>if e.r=r then (match e.obj with | .map ks vs=>some (ks,vs) | _=>none)else none
  | none=>none
 | _=>none
def CV (e:Operand->DVal) (dflt:Int):Option Operand->Int
 | none=>dflt
 | some x=>match e x with | .int _ n=>n | _=> -1
def Ep (e:Operand->DVal) (len:Nat) (l h m:Option Operand):Prop :=
 0<=CV e 0 l/\CV e 0 l<=CV e len h/\CV e len h<=CV e len m/\CV e len m<=len/\(m.isSome=true->h.isSome=true)
section
variable (P : Program) (own : List Ent) (e : Operand -> DVal)
def Ta : Builtin->List DVal->List TypeId->Prop
 | .len,[d],[t]=>match d with
  | .str _=>tStr P t=true
  | .nilsl=>(tElem P t).isSome=true
  | .mp ks _=>(tMap P t).isSome=true/\(ks.length:Int)<=9223372036854775807
  | .nilmp=>(tMap P t).isSome=true
  | .omp id r=>(tMap P t).isSome=true/\match Gu own (.omp id r)with | some (ks,_)=>(ks.length:Int)<=9223372036854775807 | none=>False
  | d=>(Bg own d).isSome=true/\(tElem P t).isSome=true
 | .min,[x,y],_=>match x,y with | .int k _,.int k' _=>k=k' | _,_=>False
 | .max,[x,y],_=>match x,y with | .int k _,.int k' _=>k=k' | _,_=>False
 | .append,[x,y],[t,t']=>match x,y with | .nilsl,.nilsl=>t'=t/\(tElem P t).isSome=true | _,_=>False
 | _,_,_=>False
def MW : Builtin->List DVal->DVal
 | .len,[d]=>match d with
  | .str s=> .int .i64 s.size
  | .nilsl=> .int .i64 0
  | .mp ks _=> .int .i64 ks.length
  | .nilmp=> .int .i64 0
  | .omp id r=>match Gu own (.omp id r)with | some (ks,_)=> .int .i64 ks.length | none=> .any
  | d=>match Bg own d with | some (_,_,es)=> .int .i64 es.length | none=> .any
 | .min,[x,y]=>match x,y with | .int k a,.int _ b=> .int k (if b<a then b else a) | _,_=> .any
 | .max,[x,y]=>match x,y with | .int k a,.int _ b=> .int k (if a<b then b else a) | _,_=> .any
 | .append,[x,y]=>match x,y with | .nilsl,.nilsl=> .nilsl | _,_=> .any
 | _,_=> .any
def Ho (t:TypeId) (i:Nat):Option (Nat×Nat):=(tField P t i).map fun x=>(x.1,x.2.1)
def tParts (t:TypeId):Bool:=match Dg P t with | some fs=>fs.toList.all fun f=>(tCells P f.type).isSome | none=>(tArr P t).isSome
def tElemZ (t:TypeId):Bool:=match P.underlying t with | some (.slice e)=>(tZero P e).isSome | _=>false
def GX_ (d:DVal) (len:Nat) (n:Int):Prop:=0<=n/\n<len/\match d with
 | .ref _=>True
 | .bx id r _=>DP own id r=true
 | .rx id r _ _ _=>DP own id r=true
 | _=>False
def lR (d:DVal) (k:Nat) (n:Int):DVal:=match d with
 | .ref cs=> .ref (cs.drop (n.toNat*k))
 | .bx id r o=> .bx id r (o+n.toNat*k)
 | .rx id r c i j=> .rx id r c i (j+n.toNat*k)
 | _=> .any
def FE : Op->Prop
 | .move _=>True
 | .assign _=>True
 | .pick c a b=>match e c with | .bool t=>IB t (e a) (e b) | _=>False
 | .fieldAddr t x f=>match tField P t f,e x with
  | some (_,n,_),.ref _=>n≠0
  | some (_,n,_),.bx id r _=>n≠0/\DP own id r=true
  | some (_,n,_),.rx id r _ _ _=>n≠0/\DP own id r=true
  | _,_=>False
 | .load t a=>match tAgg P t,tCells P t,DD own (e a)with
  | some true,some n,some cs=>n<=cs.length
  | some false,_,some cs=>0<cs.length
  | _,_,_=>False
 | .indexAddr t x i=>match e i,tElem P t,Bg own (e x)with
  | .int _ n,some (k,_),some (k',_,es)=>k=k'/\0<=n/\n<es.length
  | .int _ n,none,_=>(match tArr P t with | some (len,_)=>GX_ own (e x) len n | none=>False)
  | _,_,_=>False
 | .index t x i=>match e x,e i with
  | .str s,.int _ n=>tStr P t=true/\0<=n/\n<s.size
  | .agg cs,.int _ n=>(match tArrS P t with | some len=>0<=n/\n<len/\len<=cs.length | none=>False)
  | _,_=>False
 | .field t x f=>match tField P t f,e x with
  | some (off,n,b),.agg cs=>off+n<=cs.length/\(b=false->n=1)
  | _,_=>False
 | .binOp op t x y _=>(GQ P op t (e x) (e y)).isSome=true
 | .unOp op _ x=>match op,e x with
  | .not,.bool _=>True
  | .neg,.int _ _=>True
  | _,_=>False
 | .convert src dst x=>(P.underlying src).isSome=true/\match e x with
  | .int _ _=>(tInt P dst).isSome=true
  | .str _=>tStr P dst=true
  | _=>False
 | .extract x i=>match e x with
  | .tup vs=>i<vs.length
  | _=>False
 | .makeFunc _ _ _=>True
 | .makeInterface t _=>(match P.underlying t with | some (.interface _)=>False | some _=>True | none=>False)
 | .nilCheck x=>match e x with
  | .ref _=>True
  | .bx id r _=>DP own id r=true
  | .rx id r _ _ _=>DP own id r=true
  | .fn (.func _) _ _=>True
  | _=>False
 | .box _ x=>CB own (e x)=true
 | .build t parts=>match tZero P t with
  | some z=>(GC (Ho P t) z (parts.toList.map fun p=>(p.1,e p.2))).isSome=true/\(parts.toList.all fun p=>CB own (e p.2))=true/\tParts P t=true
  | none=>False
 | .buildSlice t len parts=>match tElem P t with
  | some (k,bs)=>parts.toList.map (·.1)=List.range len/\len*k<=16777216/\len*bs<=150000000000000/\len<=16777216/\0<k/\(parts.toList.all fun p=>CB own (e p.2)&&(AE (e p.2)).length==k)=true/\tElemZ P t=true
  | none=>False
 | .call c=>match c.callee with
  | .builtin b=>Ta P own b (c.args.toList.map e) c.argTypes.toList
  | _=>False
 | .slice t x l h m=>match e x with
  | .sl k _ es=>tElem P t=some (k,(tElem P t).elim 0 (·.2))/\Ep e es.length l h m
  | .nilsl=>(tElem P t).isSome=true/\Ep e 0 l h m
  | .osl id r=>m=none/\match Bg own (.osl id r)with | some (k,_,es)=>tElem P t=some (k,(tElem P t).elim 0 (·.2))/\Ep e es.length l h none | none=>False
  | .vw id r k bs i n=>m=none/\(Bg own (.vw id r k bs i n)).isSome=true/\tElem P t=some (k,(tElem P t).elim 0 (·.2))/\Ep e n l h none
  | .str str=>tStr P t=true/\m=none/\Ep e str.size l h none
  | _=>False
 | .lookup t x i _=>match tMap P t,Gu own (e x)with
  | some (kt,et),some (ks,_)=>Cp P kt (e i)=true/\ks.all (Cp P kt)=true/\(tZeroD P et).isSome=true
  | _,_=>False
 | _=>False
def BC : Op->DVal
 | .move x=>e x
 | .assign x=>e x
 | .pick c a b=>match e c with | .bool t=>JC t (e a) (e b) | _=> .any
 | .fieldAddr t x f=>match tField P t f,e x with
  | some (off,_,_),.ref cs=> .ref (cs.drop off)
  | some (off,_,_),.bx id r o=> .bx id r (o+off)
  | some (off,_,_),.rx id r k i j=> .rx id r k i (j+off)
  | _,_=> .any
 | .load t a=>match tAgg P t,tCells P t,DD own (e a)with
  | some true,some n,some cs=> .agg (cs.take n)
  | some false,_,some cs=>cs.headD .any
  | _,_,_=> .any
 | .indexAddr t x i=>match e i,tElem P t with
  | .int _ n,some _=>Gy own (e x) n
  | .int _ n,none=>(match tArr P t with | some (_,k)=>lR (e x) k n | none=> .any)
  | _,_=> .any
 | .index _ x i=>match e x,e i with
  | .str s,.int _ n=> .int .u8 (s.data.toList.getD n.toNat 0).toNat
  | .agg cs,.int _ n=>(cs.drop n.toNat).headD .any
  | _,_=> .any
 | .field t x f=>match tField P t f,e x with
  | some (off,n,b),.agg cs=>if b then .agg ((cs.drop off).take n)else (cs.drop off).headD .any
  | _,_=> .any
 | .binOp op t x y _=>(GQ P op t (e x) (e y)).getD .any
 | .unOp op _ x=>match op,e x with
  | .not,.bool b=> .bool (!b)
  | .neg,.int k n=> .int k (k.wrap (0-n))
  | _,_=> .any
 | .convert _ dst x=>match e x with
  | .int _ n=>match tInt P dst with | some k=> .int k (k.wrap n) | none=> .any
  | d=>d
 | .extract x i=>match e x with
  | .tup vs=>vs.getD i .any
  | _=> .any
 | .makeFunc f us cs=> .fn f (us.toList.map e) (cs.toList.map e)
 | .makeInterface t x=> .ifc t (e x)
 | .nilCheck x=>e x
 | .box _ x=> .ref (AE (e x))
 | .build t parts=>match tZero P t with
  | some z=> .agg ((GC (Ho P t) z (parts.toList.map fun p=>(p.1,e p.2))).getD [])
  | none=> .any
 | .buildSlice t _ parts=>match tElem P t with
  | some (k,bs)=> .sl k bs (parts.toList.map fun p=>AE (e p.2))
  | none=> .any
 | .call c=>match c.callee with
  | .builtin b=>MW own b (c.args.toList.map e)
  | _=> .any
 | .slice _ x l h _=>match e x with
  | .sl k bs es=> .sl k bs ((es.drop (CV e 0 l).toNat).take ((CV e es.length h).toNat-(CV e 0 l).toNat))
  | .nilsl=> .nilsl
  | .osl id r=>match Bg own (.osl id r)with | some (k,bs,es)=> .vw id r k bs (CV e 0 l).toNat ((CV e es.length h).toNat-(CV e 0 l).toNat) | none=> .any
  | .vw id r k bs i n=> .vw id r k bs (i+(CV e 0 l).toNat) ((CV e n h).toNat-(CV e 0 l).toNat)
  | .str str=> .str (str.extract (CV e 0 l).toNat (CV e str.size h).toNat)
  | _=> .any
 | .lookup t x i ok=>match tMap P t,Gu own (e x)with
  | some (_,et),some (ks,vs) =>
   let r:=Ba ks (e i)
   let v:=match r with | some j=>vs.getD j .any | none=>(tZeroD P et).getD .any
   if ok then .tup [v,.bool r.isSome]else v
  | _,_=> .any
 | _=> .any
end
section
variable {P : Program} {s : DS} {loc : Nat -> Loc} {M0 : List Nat} {w : World} {ρ : Operand -> Value}
abbrev Bh (s:DS) (loc:Nat->Loc) (M0:List Nat) (w:World) (d:DVal) (v:Value):Prop:=rd (cu s loc) (hm s loc M0) w.heap d v
def Yields (P:Program) (s:DS) (loc:Nat->Loc) (M0:List Nat) (w:World) (x:Sem Value) (d:DVal):Prop :=
 ∃v w',x.run P w= .ok v w'/\Upd [] w w'/\rd (cu s loc) (hm s loc M0) w'.heap d v
theorem Yields.same {x:Sem Value} {d:DVal} {v:Value} (hr:x.run P w= .ok v w) (hd:Bh s loc M0 w d v):Yields P s loc M0 w x d:=⟨v,w,hr,Upd.refl _ _,hd⟩
theorem Nv {t f off n:Nat} {b:Bool} {d:DVal} {v:Value} (hf:tField P t f=some (off,n,b)) (hn:n≠0) (hd:Bh s loc M0 w d v)
  (hk:(∃cs,d= .ref cs)\/(∃id r o,d= .bx id r o/\(Ad s.own loc id r).isSome=true)\/(∃id r k i j,d= .rx id r k i j/\(Ad s.own loc id r).isSome=true)) :
  Yields P s loc M0 w (Instr.fieldAt t v f) (match d with | .ref cs=> .ref (cs.drop off) | .bx id r o=> .bx id r (o+off) | .rx id r k i j=> .rx id r k i (j+off) | _=> .any):=by
 unfold tField at hf
 split at hf
 ·rename_i fs hu
  split at hf
  ·rename_i fl vP
   split at hf
   ·rename_i n' b' hn' qM;simp only[aA0,aU0]at hf;obtain⟨rfl,rfl,rfl⟩:=hf
    have main:∀a:Addr,a.spot=none->(Instr.fieldAt t (.pointer (some a)) f).run P w= .ok (.pointer (some ⟨a.block,a.off+fl.offset,none⟩)) w:=by
     intro a ha;obtain⟨ab,ao,asp⟩:=a;simp only at ha;subst ha;simp[Instr.fieldAt,run_underlying hu,vP,Instr.sureAddr,fieldPlace,BK hn',hn,Dk]
    rcases hk with ⟨cs,rfl⟩ | ⟨id,r,o,rfl,hc⟩ | ⟨id,r,k,i,j,rfl,hc⟩
    ·simp only[Bh,rd]at hd;obtain⟨bb,oo,arr,ty,fz,rfl,h2,h3,h4⟩:=hd;refine Yields.same (main _ rfl) ?_;simp only[Bh,rd];exact⟨bb,oo+fl.offset,arr,ty,fz,rfl,h2,h3,Fl _ _ _ _ h4⟩
    ·obtain⟨l,hl⟩:=bG0.1 hc;simp only[Bh,rd]at hd;obtain⟨bb,qI,rfl⟩:=hd l hl;refine Yields.same (main _ rfl) ?_;simp only[Bh,rd];intro l' wZ;have:l'=l:=by have h':Ad s.own loc id r=some l':=wZ;rw[hl]at h';exact(Option.some.inj h').symm
     subst this;exact⟨bb,qI,rfl⟩
    ·obtain⟨l,hl⟩:=bG0.1 hc;simp only[Bh,rd]at hd;obtain⟨bb,qI,rfl⟩:=hd l hl;refine Yields.same (main _ rfl) ?_;simp only[Bh,rd];intro l' wZ;have:l'=l:=by have h':Ad s.own loc id r=some l':=wZ;rw[hl]at h';exact(Option.some.inj h').symm
     subst this;exact⟨bb,qI,by simp[cQ0]⟩
   ·simp at hf
  ·simp at hf
 ·simp at hf
theorem NQ (S:St s.own loc M0 w.heap) {t:TypeId} {d:DVal} {v:Value} {cs:List DVal} {b:Bool} (hb:tAgg P t=some b) (hd:Bh s loc M0 w d v) (hc:DD s.own d=some cs)
  (hn:b=true->∃n,tCells P t=some n/\n<=cs.length) (h0:b=false->0<cs.length) :
  ∃ad u,v= .pointer (some ad)/\(loadVar t ad).run P w= .ok u w/\Bh s loc M0 w (match b with | true=> .agg (cs.take ((tCells P t).getD 0)) | false=>cs.headD .any) u:=by
 obtain⟨bb,off,arr,ty,fz,rfl,h2,h3⟩:=lL S hd hc
 cases b with
 | true =>
  obtain⟨n,hn,yW⟩:=hn rfl;obtain⟨vs,g1,g2,g3⟩:=HQ _ _ _ (Mg n cs arr off h3);have qU:vs.length=n:=by rw[g1];simp;omega
  have hl:=run_loadCells_list (P:=P) w ⟨bb,off,none⟩ vs (fun j u hj=>by
   rw[Dk];simp only[World.cell?,h2]
   exact(g3 j u hj).1)
  rw[qU]at hl;refine⟨_,.agg vs.toArray,rfl,?_,?_⟩
  ·simp[loadVar,Ko hb,BK hn,hl]
  ·simp only[hn,bZ0,Bh,rd];exact⟨vs.toArray,rfl,g2⟩
 | false =>
  match cs,h0 rfl,h3 with
  | d0::cs,_,h3 =>
   simp only[DL]at h3;obtain⟨⟨u,k1,k2,k3⟩,_⟩:=h3;refine⟨_,u,rfl,?_,by simpa[Bh]using k3⟩;simp[loadVar,Ko hb,run_load,World.cell?,h2,k1]
theorem BL_ (S:St s.own loc M0 w.heap) {t:TypeId} {d:DVal} {v:Value} {cs:List DVal} {b:Bool} (hb:tAgg P t=some b) (hd:Bh s loc M0 w d v) (hc:DD s.own d=some cs)
  (hn:b=true->∃n,tCells P t=some n/\n<=cs.length) (h0:b=false->0<cs.length) :
  Yields P s loc M0 w (Instr.loadAt t v) (match b with | true=> .agg (cs.take ((tCells P t).getD 0)) | false=>cs.headD .any):=by
 obtain⟨ad,u,rfl,h1,h2⟩:=NQ S hb hd hc hn h0;exact Yields.same (v:=u) (by simp[Instr.loadAt,Instr.sureAddr,h1]) h2
theorem BF {t k bs:Nat} (h:tElem P t=some (k,bs)):∃e i,P.underlying t=some (.slice e)/\P.info? e=some i/\i.size=k/\i.bytes=bs/\tCells P e=some k:=by
 unfold tElem at h
 split at h
 ·rename_i e hu
  cases hi:P.info? e with
  | none=>simp[hi]at h
  | some i =>
   simp only[hi,dL0,aA0,aU0]at h;exact⟨e,i,hu,hi,h.1,h.2,by simp[tCells,hi,h.1]⟩
 ·simp at h
theorem uT (S:St s.own loc M0 w.heap) {t:TypeId} {d:DVal} {v:Value} {ik:IntKind} {n:Int} {k bs bs':Nat} {es:List (List DVal)} (ht:tElem P t=some (k,bs)) (hd:Bh s loc M0 w d v)
  (hr:Bg s.own d=some (k,bs',es)) (h0:0<=n) (h1:n<es.length) :
  Yields P s loc M0 w (Instr.indexAt t v (.int ik n)) (Gy s.own d n):=by
 obtain⟨e,i,hu,hi,qP,_,gE⟩:=BF ht
 have run:∀(a:Addr) (len cap:Nat),n<len->(Instr.indexAt t (.slice (some a) len cap) (.int ik n)).run P w= .ok (.pointer (some (a.add (n.toNat*k)))) w:=by
  intro a len cap qV;simp[Instr.indexAt,asIntOf,run_underlying hu,h0,qV,BK gE]
 have qF:es≠[]:=by intro h;subst h;simp at h1;omega
 cases d with
 | sl k0 b0 es0 =>
  simp only[Bg,aA0,aU0]at hr;obtain⟨rfl,rfl,rfl⟩:=hr;simp only[Bh,rd]at hd;obtain⟨a,cap,rfl,g2,g3,g4,g5⟩:=hd
  rcases g5 with g5 | ⟨bb,off,arr,ty,fz,rfl,q1,q2,q3⟩
  ·exact absurd g5.1 qF
  ·refine Yields.same (run _ _ _ h1) ?_;rw[Dk];simp only[Gy,Bh,rd];have qV:n.toNat<es0.length:=by omega
   have yC:=Eu _ _ _ _ n.toNat (es0[n.toNat]) q3 (aE0 qV);refine⟨bb,off+n.toNat*k0,arr,ty,fz,rfl,q1,q2,?_⟩;rw[aO0,aE0 qV];exact yC.2
 | osl id r =>
  have qG:=hr;unfold Bg at hr;simp only at hr
  split at hr
  ·rename_i e0 vW
   split at hr
   ·rename_i wV
    split at hr
    ·rename_i et0 k0 b0 es0 wG;simp only[aA0,aU0]at hr;obtain⟨rfl,rfl,rfl⟩:=hr;obtain⟨vN,hid⟩:=AC vW;have hk:=S.ok e0 vN;rw[wG]at hk;obtain⟨_,hk⟩:=hk;have qD:Ad s.own loc id r=some (loc id):=by unfold Ad;rw[vW];simp[wV]
     simp only[Bh,rd]at hd;have hv:=hd (loc id) qD;rw[<-hid]at hv
     rcases hk with ⟨rfl,_⟩ | ⟨b,arr,cap,p1,p2,p3,p4,p5,p6,p7⟩
     ·exact absurd rfl qF
     ·rw[p2]at hv;subst hv;refine Yields.same (run _ _ _ h1) ?_;rw[Dk];simp only[Gy,qG,Bh,rd];intro l hl;have wZ:Ad s.own loc id r=some l:=hl;rw[qD]at wZ;simp only[aA0]at wZ;subst wZ;exact⟨b,by rw[<-hid];exact p1,by simp⟩
    ·simp at hr
   ·simp at hr
  ·simp at hr
 | vw id r kk bb i0 n0 =>
  unfold Bg at hr;simp only at hr
  split at hr
  ·rename_i e0 vW
   split at hr
   ·rename_i wV
    split at hr
    ·rename_i et0 k0 b0 es0 wG
     split at hr
     ·rename_i hb;obtain⟨rfl,rfl,hb⟩:=hb;simp only[aA0,aU0]at hr;obtain⟨rfl,rfl,rfl⟩:=hr;have qD:Ad s.own loc id r=some (loc id):=by unfold Ad;rw[vW];simp[wV]
      simp only[Bh,rd]at hd;obtain⟨a,cap,rfl,g1,g2,_,g3,_⟩:=hd (loc id) qD;have qV:n<(n0:Int):=by simp at h1;omega
      obtain⟨b,qI,rfl⟩:=g3 (by omega);refine Yields.same (run _ _ _ qV) ?_;rw[Dk];simp only[Gy,Bh,rd];intro l hl;have wZ:Ad s.own loc id r=some l:=hl;rw[qD]at wZ;simp only[aA0]at wZ;subst wZ;exact⟨b,qI,by simp[bU0]⟩
     ·simp at hr
    ·simp at hr
   ·simp at hr
  ·simp at hr
 | _=>simp[Bg]at hr
theorem EI_ {t f off n:Nat} {b:Bool} {cs:List DVal} {v:Value} (hf:tField P t f=some (off,n,b)) (hd:Bh s loc M0 w (.agg cs) v) (hl:off+n<=cs.length) (h1:b=false->n=1) :
  Yields P s loc M0 w (Instr.field t v f) (if b then .agg ((cs.drop off).take n)else (cs.drop off).headD .any):=by
 unfold tField at hf
 split at hf
 rotate_left
 ·simp at hf
 rename_i fs hu
 split at hf
 rotate_left
 ·simp at hf
 rename_i fl vP
 split at hf
 rotate_left
 ·simp at hf
 rename_i n' b' hn' qM;simp only[aA0,aU0]at hf;obtain⟨rfl,rfl,rfl⟩:=hf;simp only[Bh,rd]at hd;obtain⟨us,rfl,vE⟩:=hd;have qU:=Aw _ _ vE;have hp:=HO (P:=P) (w:=w) (us:=us) (o:=fl.offset) qM hn' h1 (by simp at qU;omega);have vV:=Es n' _ _ (Et fl.offset _ _ vE);refine Yields.same (v:=valOf b' ((us.toList.drop fl.offset).take n')) ?_ ?_
 ·simp[Instr.field,run_underlying hu,vP,asAgg,hp]
 ·cases b' with
  | true=>simp only[valOf,if_true,Bh,rd];exact⟨_,rfl,vV⟩
  | false =>
   have:=h1 rfl;subst this;simp only[valOf,aR0,if_false,Bh];have qV:fl.offset<cs.length:=by omega
   rw[aS0 qV]at vV |-;simp only[cO0,dV0,Az]at vV;obtain⟨v,r,he,hv,rfl⟩:=vV;rw[he];simpa[aE0 qV]using hv
theorem BJ_ {cs:List DVal} {us:List Value} {ty:TypeId} (vE:Az (cu s loc) (hm s loc M0) w.heap cs us) (qC:∀u∈us,u.oneCell'=true) (S:St s.own loc M0 w.heap) :
  Upd [] w (w.alloc (.cells us.toArray ty))/\w.heap.size∉hm s loc M0/\(w.alloc (.cells us.toArray ty)).heap[w.heap.size]? =some (.cells us.toArray ty (0,0)) /\
   DL (cu s loc) (hm s loc M0) (w.alloc (.cells us.toArray ty)).heap cs us.toArray 0:=by
 have hu:=Upd.alloc [] w (.cells us.toArray ty);have wM:(w.alloc (.cells us.toArray ty)).heap[w.heap.size]? =some (.cells us.toArray ty (0,0)):=heap_alloc_new w _;refine⟨hu,fun vN=>by have:=S.lt _ vN;omega,wM,?_⟩
 have W:Weak (cu s loc) (cu s loc) (hm s loc M0) (hm s loc M0) w.heap (w.alloc (.cells us.toArray ty)).heap (AL cs) :=
  ET hu.nil (fun b hb=> .inl hb) (fun e' vR _=>AK S.nd vR)
 have hus':=AY W cs us (Nat.le_refl _) vE
 have key:∀(H:Array Obj) (cs:List DVal) (us pre:List Value),Az (cu s loc) (hm s loc M0) H cs us->(∀u∈us,u.oneCell'=true)->DL (cu s loc) (hm s loc M0) H cs (pre++us).toArray pre.length:=by
  intro H cs
  induction cs with
  | nil=>intros;simp[DL]
  | cons d ds ih =>
   intro us pre hr ho;simp only[Az]at hr;obtain⟨v,r,rfl,h1,h2⟩:=hr;simp only[DL];refine⟨⟨v,by simp,ho v aI0,h1⟩,?_⟩;have:=ih r (pre++[v]) h2 (fun u hu=>ho u (aG0 _ hu));simpa using this
 simpa using key _ cs us [] hus' qC
theorem Dc {id r:Nat} (hc:DP s.own id r=true):Ad s.own loc id r=some (loc id):=by
 unfold DP at hc;unfold Ad
 split at hc
 ·rename_i e he
  try rw[he]
  have:e.r=r:=by simpa using hc
  simp[this]
 ·simp at hc
theorem EK_ {t len k:Nat} {d:DVal} {v:Value} {ik:IntKind} {n:Int} (ht:tArr P t=some (len,k)) (hd:Bh s loc M0 w d v) (hp:GX_ s.own d len n):Yields P s loc M0 w (Instr.indexAt t v (.int ik n)) (lR d k n):=by
 unfold tArr at ht
 split at ht
 ·rename_i ln e hu
  cases hi:P.info? e with
  | none=>rw[hi]at ht;simp at ht
  | some inf =>
   rw[hi]at ht;simp only[dL0,aA0,aU0]at ht;obtain⟨rfl,rfl⟩:=ht;have gE:tCells P e=some inf.size:=by unfold tCells;rw[hi];rfl
   obtain⟨h0,h1,hp⟩:=hp
   have main:∀a:Addr,a.spot=none->(Instr.indexAt t (.pointer (some a)) (.int ik n)).run P w= .ok (.pointer (some ⟨a.block,a.off+n.toNat*inf.size,none⟩)) w:=by
    intro a ha;obtain⟨ab,ao,asp⟩:=a;simp only at ha;subst ha;simp[Instr.indexAt,asIntOf,run_underlying hu,Instr.sureAddr,h0,h1,BK gE,Dk]
   cases d<;>simp only at hp
   case ref cs =>
    simp only[Bh,rd]at hd;obtain⟨bb,oo,arr,ty,fz,rfl,h2,h3,h4⟩:=hd;refine Yields.same (main _ rfl) ?_;simp only[Bh,rd,lR];exact⟨bb,oo+n.toNat*inf.size,arr,ty,fz,rfl,h2,h3,Fl _ _ _ _ h4⟩
   case bx id r o =>
    obtain⟨l,hl⟩:=bG0.1 (show (Ad s.own loc id r).isSome=true by rw[Dc hp];rfl);simp only[Bh,rd]at hd;obtain⟨bb,qI,rfl⟩:=hd l hl;refine Yields.same (main _ rfl) ?_;simp only[Bh,rd,lR];intro l' wZ;have:l'=l:=by have h':Ad s.own loc id r=some l':=wZ;rw[hl]at h';exact(Option.some.inj h').symm
    subst this;exact⟨bb,qI,rfl⟩
   case rx id r c i j =>
    obtain⟨l,hl⟩:=bG0.1 (show (Ad s.own loc id r).isSome=true by rw[Dc hp];rfl);simp only[Bh,rd]at hd;obtain⟨bb,qI,rfl⟩:=hd l hl;refine Yields.same (main _ rfl) ?_;simp only[Bh,rd,lR];intro l' wZ;have:l'=l:=by have h':Ad s.own loc id r=some l':=wZ;rw[hl]at h';exact(Option.some.inj h').symm
    subst this;exact⟨bb,qI,by simp[cQ0]⟩
 ·simp at ht
theorem rE (S:St s.own loc M0 w.heap) {d:DVal} {v:Value} (ho:Fo s.own d=true) (hd:Bh s loc M0 w d v):v.oneCell'=true/\v.cells= #[v]:=by
 cases d<;>simp only[Fo,aR0]at ho<;>simp only[Bh,rd]at hd
 case bool=>subst hd;exact⟨rfl,rfl⟩
 case int=>obtain⟨rfl,_⟩:=hd;exact⟨rfl,rfl⟩
 case str=>obtain⟨rfl,_⟩:=hd;exact⟨rfl,rfl⟩
 case nilp=>subst hd;exact⟨rfl,rfl⟩
 case ref=>obtain⟨_,_,_,_,_,rfl,_⟩:=hd;exact⟨rfl,rfl⟩
 case bx id r o=>obtain⟨b,_,rfl⟩:=hd _ (Dc ho);exact⟨rfl,rfl⟩
 case rx id r k i j=>obtain⟨b,_,rfl⟩:=hd _ (Dc ho);exact⟨rfl,rfl⟩
 case nilsl=>subst hd;exact⟨rfl,rfl⟩
 case esl=>obtain⟨_,_,rfl,_⟩:=hd;exact⟨rfl,rfl⟩
 case sl=>obtain⟨_,_,rfl,_⟩:=hd;exact⟨rfl,rfl⟩
 case osl id r =>
  obtain⟨x,hx⟩:=bG0.1 ho;obtain⟨a,cap,rfl,_⟩:=Kp (k:=x.1) (bs:=x.2.1) (es:=x.2.2) (p:= .osl id r) S (by simp only[rd];exact hd) hx;exact⟨rfl,rfl⟩
 case vw id r k bs i n=>obtain⟨_,_,rfl,_⟩:=hd _ (Dc ho);exact⟨rfl,rfl⟩
 case nilmp=>subst hd;exact⟨rfl,rfl⟩
 case omp id r=>obtain⟨b,_,rfl⟩:=hd _ (Dc ho);exact⟨rfl,rfl⟩
 case nilfn=>subst hd;exact⟨rfl,rfl⟩
 case fn=>obtain⟨_,_,rfl,_⟩:=hd;exact⟨rfl,rfl⟩
 case nilifc=>subst hd;exact⟨rfl,rfl⟩
 case ifc=>obtain⟨_,rfl,_⟩:=hd;exact⟨rfl,rfl⟩
 case mp=>obtain⟨_,_,_,rfl,_⟩:=hd;exact⟨rfl,rfl⟩
 case pk id r =>
  split at ho
  ·rename_i e he;simp only[aJ0,beq_iff_eq]at ho;obtain⟨h1,h2⟩:=ho;have hv:=hd (loc id) (by show Ad _ _ _ _=_;unfold Ad;rw[he];simp[h1]);obtain⟨vN,hid⟩:=AC he;have hk:=S.ok e vN
   split at h2
   ·rename_i A qN;rw[qN]at hk;rw[hv,<-hid];exact A.one _ _ _ _ hk
   ·simp at h2
  ·simp at ho
theorem Gp (S:St s.own loc M0 w.heap):∀(ds:List DVal) (vs:List Value),ds.all (Fo s.own)=true->Az (cu s loc) (hm s loc M0) w.heap ds vs->∀v∈vs,v.oneCell'=true
 | [],vs,_,hr=>by simp only[Az]at hr;subst hr;simp
 | d::ds,vs,ha,hr=>by
  simp only[Az]at hr;obtain⟨v,r,rfl,h1,h2⟩:=hr;simp only[dA0,aJ0]at ha;intro u hu
  rcases aK0.1 hu with rfl | hu
  ·exact(rE S ha.1 h1).1
  ·exact Gp S ds r ha.2 h2 u hu
theorem Ij (S:St s.own loc M0 w.heap) {d:DVal} {v:Value} (hp:CB s.own d=true) (hd:Bh s loc M0 w d v) :
  Az (cu s loc) (hm s loc M0) w.heap (AE d) v.cells.toList/\∀u∈v.cells.toList,u.oneCell'=true:=by
 have base:Fo s.own d=true->Az (cu s loc) (hm s loc M0) w.heap [d] v.cells.toList/\∀u∈v.cells.toList,u.oneCell'=true:=by
  intro ho;obtain⟨h1,h2⟩:=rE S ho hd;rw[h2];refine⟨by simp only[Az];exact⟨v,[],rfl,hd,rfl⟩,by simpa using h1⟩
 cases d
 case agg cs =>
  simp only[Bh,rd]at hd;obtain⟨us,rfl,vE⟩:=hd;exact⟨vE,Gp S cs _ hp vE⟩
 all_goals exact base (by simpa[CB,AE]using hp)
theorem Hn_ (S:St s.own loc M0 w.heap) {t:TypeId} {d:DVal} {v:Value} (hp:CB s.own d=true) (hd:Bh s loc M0 w d v):Yields P s loc M0 w (Instr.box t v) (.ref (AE d)):=by
 obtain⟨h1,h2⟩:=Ij S hp hd;obtain⟨g1,g2,g3,g4⟩:=BJ_ (ty:=t) h1 h2 S;refine⟨.pointer (some ⟨w.heap.size,0,none⟩),_,?_,g1,?_⟩
 ·simp[Instr.box,newVar,newRow]
 ·simp only[rd];exact⟨_,0,_,_,_,rfl,g2,g3,g4⟩
theorem Lp : ∀(us:List Value) (arr:Array Value) (off i:Nat),off+i+us.length<=arr.size ->
  ((us.zipIdx i).foldl (fun cs (c,j)=>cs.setIfInBounds (off+j) c) arr).toList=arr.toList.take (off+i)++us++arr.toList.drop (off+i+us.length)
 | [],arr,off,i,_=>by simp
 | u::us,arr,off,i,h=>by
  simp only[List.length_cons]at h;simp only[List.zipIdx_cons,cT0];rw[Lp us _ off (i+1) (by simp;omega)];simp only[Array.toList_setIfInBounds,List.length_cons];have qV:off+i<arr.toList.length:=by simp;omega
  rw[List.set_eq_take_append_cons_drop,if_pos qV];have e1:(arr.toList.take (off+i)).length=off+i:=by simp;omega
  rw[show off+(i+1)=(off+i)+1 by omega,List.take_append,e1];simp only[aV0,show off+i+1-(off+i)=1 by omega];rw[List.take_take,List.drop_append,e1];simp only[show min (off+i+1) (off+i)=off+i by omega];rw[List.drop_take];have e2:off+i+1+us.length-(off+i)=us.length+1:=by omega
  have e3:off+i-(off+i+1+us.length)=0:=by omega
  simp only[e2,e3,dV0,List.nil_append,dS0,eV0,cO0,List.cons_append];simp
  congr 1
  omega
theorem sJ {placeD placeV:Nat->Option (Nat×Nat)} (zS:∀i x,placeD i=some x->placeV i=some x) :
  ∀(ds:List (Nat×DVal)) (vs:List (Nat×Value)) (cells:List DVal) (arr:Array Value) (out:List DVal),ds.map (·.1)=vs.map (·.1) ->
   (∀(i:Nat) (p:Nat×DVal) (q:Nat×Value),ds[i]? =some p->vs[i]? =some q->Az (cu s loc) (hm s loc M0) w.heap (AE p.2) q.2.cells.toList) ->
   Az (cu s loc) (hm s loc M0) w.heap cells arr.toList->GC placeD cells ds=some out->∃arr',Instr.fill placeV arr vs=some arr'/\Az (cu s loc) (hm s loc M0) w.heap out arr'.toList
 | [],vs,cells,arr,out,hi,_,hc,hf=>by
  simp only[List.map_nil]at hi;have:vs=[]:=by cases vs<;>simp_all
  subst this;simp only[GC,aA0]at hf;subst hf;exact⟨arr,rfl,hc⟩
 | (i,d)::ds,[],cells,arr,out,hi,_,_,_=>by simp at hi
 | (i,d)::ds,(i',v)::vs,cells,arr,out,hi,hr,hc,hf=>by
  simp only[List.map_cons,bH0]at hi;obtain⟨rfl,hi⟩:=hi;simp only[GC]at hf
  split at hf
  ·simp at hf
  rename_i off size hp
  split at hf
  rotate_left
  ·simp at hf
  rename_i qP;have h0:=hr 0 (i,d) (i,v) (by simp) (by simp);have bK:=Aw _ _ h0;have hlc:=Aw _ _ hc;simp only[bI0]at bK hlc;have qB:=Lp v.cells.toList arr off 0 (by simp;omega)
  have key:Az (cu s loc) (hm s loc M0) w.heap (Dr cells off (AE d)) (v.cells.zipIdx.foldl (fun cs (c,j)=>cs.setIfInBounds (off+j) c) arr).toList:=by
   rw[<-Array.foldl_toList,Array.toList_zipIdx,qB];unfold Dr;refine Ci _ _ _ _ (Ci _ _ _ _ ?_ h0) ?_
   ·simpa using Es off _ _ hc
   ·simpa[bK]using Et (off+(AE d).length) _ _ hc
  have ih:=sJ zS ds vs _ _ out hi (fun j p q hp hq=>hr (j+1) p q (by simpa using hp) (by simpa using hq)) key hf;obtain⟨arr',h1,h2⟩:=ih;refine⟨arr',?_,h2⟩;simp only[Instr.fill,zS _ _ hp];rw[if_neg (by simp;omega)];exact h1
theorem WH {t:TypeId} {fs:Array Field} (hu:P.underlying t=some (.struct fs)) (wY:∀f∈fs.toList,(tCells P f.type).isSome=true) :
  (fs.mapM (m:=Sem) fun f=>do pure (f.offset,<-sizeOf f.type)).run P w= .ok (fs.map fun f=>(f.offset,(tCells P f.type).getD 0)) w:=by
 rw[<-Array.toArray_toList (xs:=fs)]
 generalize fs.toList=l at wY
 rw[List.mapM_toArray]
 have:∀(l:List Field),(∀f∈l,(tCells P f.type).isSome=true)->(l.mapM (m:=Sem) fun f=>do pure (f.offset,<-sizeOf f.type)).run P w= .ok (l.map fun f=>(f.offset,(tCells P f.type).getD 0)) w:=by
  intro l
  induction l with
  | nil=>intro _;simp
  | cons f l ih =>
   intro h;obtain⟨n,hn⟩:=bG0.1 (h f aI0);have ih':=ih (fun g hg=>h g (aG0 _ hg));simp only[List.mapM_cons,Sem.run_bind,BK hn,Result.andThen_ok,Sem.run_pure,ih',List.map_cons,hn,bZ0]
 rw[Sem.run_map,this l wY];simp
theorem Gh {t:TypeId} {z:List DVal} (hz:tZero P t=some z):∃v,(zeroValue t).run P w= .ok v w/\z=v.cells.toList.map Ca:=by
 unfold tZero at hz
 split at hz
 ·rename_i i hi
  cases hv:i.zero with
  | none=>simp[hv]at hz
  | some v =>
   simp only[hv,dL0,aA0]at hz;exact⟨v,by simp[zeroValue,typeInfo,hi,hv],hz.symm⟩
 ·simp at hz
theorem EJ_ (S:St s.own loc M0 w.heap) {t:TypeId} {z out:List DVal} {fs:Array Field} {ds:List (Nat×DVal)} {vs:Array (Nat×Value)} (hz:tZero P t=some z) (hs:Dg P t=some fs)
  (wY:fs.toList.all (fun f=>(tCells P f.type).isSome)=true)
  (hi:ds.map (·.1)=vs.toList.map (·.1)) (hr:∀(i:Nat) (p:Nat×DVal) (q:Nat×Value),ds[i]? =some p->vs.toList[i]? =some q->Az (cu s loc) (hm s loc M0) w.heap (AE p.2) q.2.cells.toList)
  (hf:GC (Ho P t) z ds=some out):Yields P s loc M0 w (Instr.build t vs) (.agg out):=by
 obtain⟨zv,yM,rfl⟩:=Gh (w:=w) hz
 have hu:P.underlying t=some (.struct fs):=by
  unfold Dg at hs
  split at hs
  ·simp only[aA0]at hs;subst hs;assumption
  ·simp at hs
 have vN:=WH (P:=P) (w:=w) hu (bC0.1 wY)
 have zS:∀i x,Ho P t i=some x->((fs.map fun f=>(f.offset,(tCells P f.type).getD 0))[i]?)=some x:=by
  intro i x hx;unfold Ho tField at hx;rw[hu]at hx;simp only at hx
  cases hfi:fs[i]? with
  | none=>simp[hfi]at hx
  | some f =>
   simp only[hfi]at hx
   cases hc:tCells P f.type with
   | none=>simp[hc]at hx
   | some n =>
    cases ha:tAgg P f.type with
    | none=>simp[hc,ha]at hx
    | some b =>
     simp only[hc,ha,dL0,aA0]at hx;simp[hfi,hc,hx]
 obtain⟨arr',h1,h2⟩:=sJ zS ds vs.toList _ zv.cells out hi hr (Bu _) hf;refine Yields.same (v:= .agg arr') ?_ (by simp only[Bh,rd];exact⟨arr',rfl,h2⟩);simp only[Instr.build,Sem.run_bind,yM,Result.andThen_ok,run_underlying hu,vN,h1,Sem.run_pure]
theorem BM_ {t:TypeId} {z out:List DVal} {ds:List (Nat×DVal)} {vs:Array (Nat×Value)} (hz:tZero P t=some z) (ha:(tArr P t).isSome=true)
  (hi:ds.map (·.1)=vs.toList.map (·.1)) (hf:GC (Ho P t) z ds=some out):Yields P s loc M0 w (Instr.build t vs) (.agg out):=by
 obtain⟨zv,yM,rfl⟩:=Gh (w:=w) hz;unfold tArr at ha
 split at ha
 ·rename_i n e hu
  have hc:∃k,tCells P e=some k:=by
   unfold tCells
   cases hinf:P.info? e with
   | none=>rw[hinf]at ha;simp at ha
   | some inf=>exact⟨_,rfl⟩
  obtain⟨k,hc⟩:=hc;have zS:∀i,Ho P t i=none:=fun i=>by unfold Ho tField;rw[hu];rfl
  cases ds with
  | cons d ds=>obtain⟨i,d⟩:=d;simp[GC,zS]at hf
  | nil =>
   simp only[GC,aA0]at hf;subst hf;have hv:vs.toList=[]:=by simpa using hi.symm
   refine Yields.same (v:= .agg zv.cells) ?_ (by simp only[Bh,rd];exact⟨zv.cells,rfl,Bu _⟩);simp only[Instr.build,Sem.run_bind,yM,Result.andThen_ok,run_underlying hu,BK hc,hv,Instr.fill,Sem.run_pure]
 ·simp at ha
theorem BN_ {t len:Nat} {cs:List DVal} {v:Value} {ik:IntKind} {n:Int} (ht:tArrS P t=some len) (hd:Bh s loc M0 w (.agg cs) v) (h0:0<=n) (h1:n<len) (h2:len<=cs.length):Yields P s loc M0 w (Instr.index t v (.int ik n)) ((cs.drop n.toNat).headD .any):=by
 unfold tArrS at ht
 split at ht
 ·rename_i ln e hu
  split at ht
  ·rename_i hc;simp only[aA0]at ht;subst ht;simp only[Bh,rd]at hd;obtain⟨us,rfl,hr⟩:=hd;have hl:=Aw _ _ hr;have hp:=HO (P:=P) (w:=w) (us:=us) (o:=n.toNat) hc.2 hc.1 (fun _=>rfl) (by rw[bI0]at hl;omega);have hn:n.toNat<cs.length:=by omega
   refine Yields.same (v:=valOf false ((us.toList.drop n.toNat).take 1)) ?_ ?_
   ·simp[Instr.index,asIntOf,run_underlying hu,h0,h1,BK hc.1,hp]
   ·have bB:=Es 1 _ _ (Et n.toNat _ _ hr);rw[aS0 hn]at bB |-;simp only[cO0,dV0,Az]at bB;obtain⟨u,r,e1,e2,e3⟩:=bB;subst e3;rw[e1];exact e2
  ·simp at ht
 ·simp at ht
theorem Hm_ (S:St s.own loc M0 w.heap) {t ty:TypeId} {d:DVal} {v:Value} {k bs:Nat} {es:List (List DVal)} (ht:(tElem P t).isSome=true) (hd:Bh s loc M0 w d v) (hr:Bg s.own d=some (k,bs,es)) :
  Yields P s loc M0 w (Builtin.len_ #[t] ty #[v]) (.int .i64 es.length):=by
 obtain⟨x,hx⟩:=bG0.1 ht;obtain⟨e,i,hu,_⟩:=BF (k:=x.1) (bs:=x.2) hx;obtain⟨a,cap,rfl,h2,h3,_⟩:=Kp S hd hr;refine Yields.same (v:= .int .i64 es.length) ?_ ?_
 ·simp[Builtin.len_,run_underlying hu,goInt]
 ·simp only[Bh,rd,Ly,true_and];unfold maxLen at h3;omega
theorem Yk (k:Nat):∀(vs:List (Nat×Value)) (i0:Nat) (pre rest:List Value),vs.map (·.1)=List.range' i0 vs.length->(∀q∈vs,q.2.cells.size=k)->pre.length=i0*k->rest.length=vs.length*k ->
  Instr.fill (fun i=>some (i*k,k)) (pre++rest).toArray vs=some (pre++vs.flatMap fun q=>q.2.cells.toList).toArray
 | [],i0,pre,rest,_,_,_,hr=>by
  simp only[List.length_nil,Nat.zero_mul,cZ0]at hr;subst hr;simp[Instr.fill]
 | (i,v)::vs,i0,pre,rest,hi,hk,hp,hr=>by
  simp only[List.map_cons,List.length_cons,List.range'_succ,bH0]at hi;obtain⟨rfl,hi⟩:=hi;have hv:v.cells.size=k:=hk _ aI0;simp only[List.length_cons,bU0,Nat.one_mul]at hr;simp only[Instr.fill];rw[if_neg (by simp;omega)];have qB:=Lp v.cells.toList (pre++rest).toArray (i*k) 0 (by simp;omega)
  have e:(v.cells.zipIdx.foldl (fun cs (c,j)=>cs.setIfInBounds (i*k+j) c) (pre++rest).toArray)=((pre++v.cells.toList)++rest.drop k).toArray:=by
   apply Array.ext'
   rw[<-Array.foldl_toList,Array.toList_zipIdx,qB];simp only[dI0,aV0];rw[List.take_append_of_le_length (by omega),cD0 (by omega),bI0,hv,<-hp,List.drop_append,cW0 (by omega)];simp
  rw[e,Yk k vs (i+1) (pre++v.cells.toList) (rest.drop k) hi (fun q hq=>hk q (aG0 _ hq)) (by simp[hp,hv,bU0]) (by simp;omega)];simp
theorem Xb {cur:ER} {M:List Nat} {H:Array Obj} (k:Nat):∀(ds:List (List DVal)) (vs:List (List Value)) (pre:List Value),ds.length=vs.length ->
  (∀(i:Nat) (cs:List DVal) (us:List Value),ds[i]? =some cs->vs[i]? =some us->cs.length=k/\Az cur M H cs us/\∀u∈us,u.oneCell'=true)->EL cur M H k ds (pre++vs.flatten).toArray pre.length
 | [],vs,pre,_,_=>by simp[EL]
 | d::ds,[],pre,hl,_=>by simp at hl
 | d::ds,u::vs,pre,hl,h=>by
  have h0:=h 0 d u (by simp) (by simp);have qU:=Aw _ _ h0.2.1
  have key:∀(cs:List DVal) (us pre post:List Value),Az cur M H cs us->(∀u∈us,u.oneCell'=true)->DL cur M H cs (pre++us++post).toArray pre.length:=by
   intro cs
   induction cs with
   | nil=>intros;simp[DL]
   | cons d ds ih =>
    intro us pre post hr ho;simp only[Az]at hr;obtain⟨v,r,rfl,h1,h2⟩:=hr;simp only[DL];refine⟨⟨v,by simp,ho v aI0,h1⟩,?_⟩;have:=ih r (pre++[v]) post h2 (fun u hu=>ho u (aG0 _ hu));simpa using this
  simp only[EL];refine⟨h0.1,?_,?_⟩
  ·have:=key d u pre vs.flatten h0.2.1 h0.2.2;simpa using this
  ·have ih:=Xb k ds vs (pre++u) (by simpa using hl) (fun i cs us h1 h2=>h (i+1) cs us (by simpa using h1) (by simpa using h2));have e:(pre++u).length=pre.length+k:=by simp[qU,h0.1]
   rw[e]at ih;simpa using ih
theorem Jy (S:St s.own loc M0 w.heap) {t len k bs:Nat} {ds:List DVal} {vs:Array (Nat×Value)} (ht:tElem P t=some (k,bs)) (zB:0<k) (yK:len*k<=16777216) (zL:len*bs<=150000000000000) (gA:len<=16777216)
  (hi:vs.toList.map (·.1)=List.range len) (qU:ds.length=len) (hp:ds.all (fun d=>CB s.own d&&(AE d).length==k)=true)
  (hr:∀(i:Nat) (d:DVal) (q:Nat×Value),ds[i]? =some d->vs.toList[i]? =some q->Bh s loc M0 w d q.2)
  (hz:(match P.underlying t with | some (.slice e)=>(tZero P e).isSome | _=>false)=true):∃(e:TypeId) (us:List Value),P.underlying t=some (.slice e)/\(Instr.buildSlice t len vs).run P w= .ok (.slice (some ⟨w.heap.size,0,none⟩) len len) (w.alloc (.cells us.toArray e))/\us.length=len*k/\EL (cu s loc) (hm s loc M0) w.heap k (ds.map AE) us.toArray 0:=by
 obtain⟨e,ei,hu,cW,_,_,hce⟩:=BF ht;rw[hu]at hz;obtain⟨z,hz⟩:=bG0.1 hz;obtain⟨zv,yM,_⟩:=Gh (w:=w) hz;have hvl:vs.toList.length=len:=by have:=congrArg List.length hi;simpa using this
 have vB:∀(i:Nat) (d:DVal) (q:Nat×Value),ds[i]? =some d->vs.toList[i]? =some q->(AE d).length=k/\Az (cu s loc) (hm s loc M0) w.heap (AE d) q.2.cells.toList/\∀u∈q.2.cells.toList,u.oneCell'=true:=by
  intro i d q hd hq;have h1:=bC0.1 hp d (bP0 hd);simp only[aJ0,beq_iff_eq]at h1;exact⟨h1.2,Ij S h1.1 (hr i d q hd hq)⟩
 have qP:∀q∈vs.toList,q.2.cells.size=k:=by
  intro q hq;obtain⟨i,zC,vY⟩:=bX0 hq;have hid:i<ds.length:=by omega
  have:=vB i ds[i] q (aE0 hid) (by rw[aE0 zC,vY]);have hl:=Aw _ _ this.2.1;simp only[bI0]at hl;omega
 have rQ:∀Z:Array Value,Z.size=len*k->Instr.fill (fun i=>some (i*k,k)) Z vs.toList=some (vs.toList.flatMap fun q=>q.2.cells.toList).toArray:=by
  intro Z hZs;have:=Yk k vs.toList 0 [] Z.toList (by rw[hi,hvl,List.range_eq_range']) qP (by simp) (by simp only[bI0,hZs,hvl]);simpa using this
 let us:List Value:=vs.toList.flatMap fun q=>q.2.cells.toList
 have pW:∀l:List (Nat×Value),(∀q∈l,q.2.cells.size=k)->(l.flatMap fun q=>q.2.cells.toList).length=l.length*k:=by
  intro l
  induction l with
  | nil=>intro _;simp
  | cons q l ih =>
   intro hq;have h1:=hq q aI0;have h2:=ih fun x hx=>hq x (aG0 _ hx)
   simp only[dD0,aC0,List.length_cons,bI0,h1,h2,bU0];omega
 refine⟨e,us,hu,?_,by rw[pW _ qP,hvl],?_⟩
 ·have h24':(2:Nat) ^ 24=16777216:=by decide
  have h24:¬(len*k > 2 ^ 24):=by omega
  simp only[Instr.buildSlice,Sem.run_bind,run_underlying hu,Result.andThen_ok,BK hce,h24,if_false]
  by_cases h0:len*k=0
  ·simp only[h0,if_true,Sem.run_bind,Sem.run_pure,Result.andThen_ok];rw[rQ _ (by simp[h0])];simp[newRow,us]
  ·simp only[h0,if_false,Sem.run_bind,yM,Sem.run_pure,Result.andThen_ok];rw[rQ _ (by simp)];simp[newRow,us]
 ·have:=Xb (cur:=cu s loc) (M:=hm s loc M0) (H:=w.heap) k (ds.map AE) (vs.toList.map fun q=>q.2.cells.toList) [] (by rw[aN0,aN0,qU,hvl]) (by
   intro i cs us h1 h2;simp only[bK0,bF0]at h1 h2;obtain⟨d,hd,rfl⟩:=h1;obtain⟨q,hq,rfl⟩:=h2
   exact vB i d q hd hq)
  simpa[us,List.flatMap]using this
theorem Uv (S:St s.own loc M0 w.heap) {t len k bs:Nat} {ds:List DVal} {vs:Array (Nat×Value)} (ht:tElem P t=some (k,bs)) (zB:0<k) (yK:len*k<=16777216) (zL:len*bs<=150000000000000) (gA:len<=16777216)
  (hi:vs.toList.map (·.1)=List.range len) (qU:ds.length=len) (hp:ds.all (fun d=>CB s.own d&&(AE d).length==k)=true)
  (hr:∀(i:Nat) (d:DVal) (q:Nat×Value),ds[i]? =some d->vs.toList[i]? =some q->Bh s loc M0 w d q.2)
  (hz:(match P.underlying t with | some (.slice e)=>(tZero P e).isSome | _=>false)=true):Yields P s loc M0 w (Instr.buildSlice t len vs) (.sl k bs (ds.map AE)):=by
 obtain⟨e,us,_,h1,_,h2⟩:=Jy (M0:=M0) S ht zB yK zL gA hi qU hp hr hz;have wM:(w.alloc (.cells us.toArray e)).heap[w.heap.size]? =some (.cells us.toArray e (0,0)):=heap_alloc_new w _;refine⟨_,_,h1,Upd.alloc _ _ _,?_⟩;simp only[rd];refine⟨_,len,by simp[qU];rfl,by simp[qU],by unfold maxLen;omega,by simpa[qU]using zL,?_⟩;refine .inr ⟨w.heap.size,0,us.toArray,e,(0,0),rfl,fun hmm=>by have:=S.lt _ hmm;omega,wM,?_⟩
 have W:Weak (cu s loc) (cu s loc) (hm s loc M0) (hm s loc M0) w.heap (w.alloc (.cells us.toArray e)).heap (Bp (ds.map AE)) :=
  ET (Upd.alloc [] w _).nil (fun b hb=> .inl hb) (fun e' vR _=>AK S.nd vR)
 exact Cv W k _ _ 0 (Nat.le_refl _) h2
theorem XE (S:St s.own loc M0 w.heap) {p:DVal} {v:Value} {ks vs:List DVal} (hp:Bh s loc M0 w p v) (hc:Gu s.own p=some (ks,vs)) :
  (v= .map none/\ks=[]/\vs=[])\/∃b es clk,v= .map (some b)/\w.heap[b]? =some (.map es clk)/\Od es clk/\Az (cu s loc) (hm s loc M0) w.heap ks (es.toList.map (·.key))/\Az (cu s loc) (hm s loc M0) w.heap vs (es.toList.map (·.val)):=by
 unfold Gu at hc
 split at hc
 ·simp only[aA0,aU0]at hc;obtain⟨rfl,rfl⟩:=hc;simp only[Bh,rd]at hp;obtain⟨b,es,clk,h1,_,h3,h4,h5,h6⟩:=hp;exact .inr ⟨b,es,clk,h1,h3,h4,h5,h6⟩
 ·simp only[aA0,aU0]at hc;obtain⟨rfl,rfl⟩:=hc;simp only[Bh,rd]at hp;exact .inl ⟨hp,rfl,rfl⟩
 ·rename_i id r
  split at hc
  ·rename_i e he
   split at hc
   ·rename_i wV
    split at hc
    ·rename_i ks0 vs0 wG;simp only[aA0,aU0]at hc;obtain⟨rfl,rfl⟩:=hc;obtain⟨vN,hid⟩:=AC he;have hk:=S.ok e vN;rw[wG]at hk;obtain⟨b,es,clk,h1,h2,h3,h4,h5⟩:=hk;simp only[Bh,rd]at hp;obtain⟨b',qM,hv⟩:=hp (loc id) (by unfold cu Ad;rw[he];simp[wV]);rw[<-hid,h1]at qM;simp only[bH0,and_true]at qM;subst qM;exact .inr ⟨b,es,clk,hv,h2,h3,h4,h5⟩
    ·simp at hc
   ·simp at hc
  ·simp at hc
 ·simp at hc
theorem WG {t:TypeId} {x:TypeId×TypeId} (h:tMap P t=some x):P.underlying t=some (.map x.1 x.2):=by
 unfold tMap at h
 split at h
 ·simp only[aA0]at h;subst h;assumption
 ·simp at h
theorem BK_ (S:St s.own loc M0 w.heap) {t kt et:TypeId} {d x z:DVal} {v u:Value} {ks vs:List DVal} {ok:Bool} (ht:tMap P t=some (kt,et)) (hd:Bh s loc M0 w d v) (hc:Gu s.own d=some (ks,vs)) (hx:Bh s loc M0 w x u)
  (hk:Cp P kt x=true) (zA:ks.all (Cp P kt)=true) (hz:tZeroD P et=some z) :
  Yields P s loc M0 w (Instr.lookup t v u ok) (if ok then .tup [(match Ba ks x with | some j=>vs.getD j .any | none=>z),.bool (Ba ks x).isSome]else (match Ba ks x with | some j=>vs.getD j .any | none=>z)):=by
 obtain⟨zv,yM,hzd⟩:=uZ (P:=P) (cur:=cu s loc) (M:=hm s loc M0) (h:=w.heap) hz (w:=w);have hu:=WG ht;simp only at hu
 have fin:∀(es:Array MapEntry) (v1:Value) (b1:Bool) (d1:DVal),Bh s loc M0 w d1 v1->(Instr.lookup t v u ok).run P w= .ok (if ok then .tuple #[v1,.bool b1]else v1) w->Yields P s loc M0 w (Instr.lookup t v u ok) (if ok then .tup [d1,.bool b1]else d1):=by
  intro es v1 b1 d1 hd1 hr;refine Yields.same hr ?_;cases ok
  ·exact hd1
  ·simp only[if_true,Bh,rd];exact⟨_,rfl,by simp only[Az];exact⟨v1,[.bool b1],rfl,hd1,.bool b1,[],rfl,by simp only[rd],rfl⟩⟩
 rcases XE S hd hc with ⟨rfl,rfl,rfl⟩ | ⟨b,es,clk,rfl,hb,_,h5,h6⟩
 ·have kY:=Ff (w:=w) (e:=true) hk hx;refine fin #[] zv false _ ?_ ?_
  ·simpa[Ba]using hzd
  ·have hf:=GX (w:=w) hk hx [] [] (by simp) (by simp[Az]);simp only[Ba,Option.map_none]at hf;cases ok<;>simp[Instr.lookup,run_underlying hu,kY,hf,yM]
 ·have kY:=Ff (w:=w) (e:=es.isEmpty) hk hx;have hf:=GX (w:=w) hk hx es.toList ks zA h5;have hg:(getObj b).run P w= .ok (.map es clk) w:=_root_.Go.run_getObj_map (P:=P) (w:=w) b es clk hb
  cases hl:Ba ks x with
  | none =>
   rw[hl]at hf;simp only[Option.map_none]at hf;refine fin es zv false _ hzd ?_;cases ok<;>simp[Instr.lookup,run_underlying hu,hg,kY,hf,yM]
  | some j =>
   rw[hl]at hf;simp only[dL0]at hf;have hj:=XG hl;have yW:=Aw _ _ h5;have fF:=Aw _ _ h6;simp only[aN0,bI0]at yW fF;have hjv:j<vs.length:=by omega
   obtain⟨v1,fR,pM⟩:=NF _ _ j _ h6 (aE0 hjv);rw[bK0]at fR;refine fin es v1 true _ ?_ ?_
   ·simp only[aO0,aE0 hjv,bZ0];exact pM
   ·rw[fR]at hf;simp only[bZ0]at hf;cases ok<;>simp[Instr.lookup,run_underlying hu,hg,kY,hf]
theorem PT (S:St s.own loc M0 w.heap) {t ty:TypeId} {d:DVal} {v:Value} {ks vs:List DVal} (ht:(tMap P t).isSome=true) (hd:Bh s loc M0 w d v) (hc:Gu s.own d=some (ks,vs)) (hl:(ks.length:Int)<=9223372036854775807) :
  Yields P s loc M0 w (Builtin.len_ #[t] ty #[v]) (.int .i64 ks.length):=by
 obtain⟨y,hy⟩:=bG0.1 ht;have hu:=WG hy
 rcases XE S hd hc with ⟨rfl,rfl,rfl⟩ | ⟨b,es,clk,rfl,hb,_,h5,_⟩
 ·exact Yields.same (v:= .int .i64 0) (by simp[Builtin.len_,run_underlying hu,goInt]) (by simp[Bh,rd,Ly])
 ·have mP:=Aw _ _ h5;simp only[aN0,bI0]at mP;have hg:(getObj b).run P w= .ok (.map es clk) w:=_root_.Go.run_getObj_map (P:=P) (w:=w) b es clk hb;refine Yields.same (v:= .int .i64 es.size) (by simp[Builtin.len_,run_underlying hu,goInt,hg]) ?_;simp only[Bh,rd,Ly,mP];exact⟨trivial,by omega,hl⟩
theorem Xc {cur:ER} {M:List Nat} {H:Array Obj} {k:Nat}:∀(n:Nat) (es:List (List DVal)) (arr:Array Value) (o:Nat),EL cur M H k es arr o->EL cur M H k (es.drop n) arr (o+n*k)
 | 0,es,arr,o,hr=>by simpa using hr
 | n+1,[],arr,o,hr=>by simp[EL]
 | n+1,c::es,arr,o,hr=>by
  simp only[EL]at hr;have:=Xc n es arr (o+k) hr.2.2;simp only[dS0]
  rwa[show o+k+n*k=o+(n+1)*k by rw[bU0];omega]at this
theorem WZ {cur:ER} {M:List Nat} {H:Array Obj} {k:Nat}:∀(n:Nat) (es:List (List DVal)) (arr:Array Value) (o:Nat),EL cur M H k es arr o->EL cur M H k (es.take n) arr o
 | 0,es,arr,o,hr=>by simp[EL]
 | n+1,[],arr,o,hr=>by simp[EL]
 | n+1,c::es,arr,o,hr=>by
  simp only[EL,cO0]at hr |-;exact⟨hr.1,hr.2.1,WZ n es arr (o+k) hr.2.2⟩
theorem run_sliceBound {e:Operand->DVal} {x:Operand} (hρ:Bh s loc M0 w (e x) (ρ x)) {d:Int} {y:Nat} {c:BoundsCode} (h0:0<=CV e d (some x)) (h1:CV e d (some x)<=y):(Instr.sliceBound (ρ x) y c).run P w= .ok (CV e d (some x)).toNat w:=by
 simp only[CV]at h0 h1 |-
 split at h0
 ·rename_i ik n hx;simp only[hx]at h1 |-;rw[hx]at hρ;simp only[Bh,rd]at hρ;rw[hρ.1];simp[Instr.sliceBound,asIntOf,h0,h1]
 ·omega
theorem HN {e:Operand->DVal} (hρ:∀x,Bh s loc M0 w (e x) (ρ x)) {b:Bool} {len cap:Nat} {l h:Option Operand} (hp:Ep e len l h none) (hc:len<=cap) :
  (Instr.sliceBounds b len cap (l.map ρ) (h.map ρ) none).run P w= .ok ((CV e 0 l).toNat,(CV e len h).toNat,cap) w:=by
 obtain⟨h0,h1,h2,h3,h4⟩:=hp;have en:∀d,CV e d none=d:=fun _=>rfl
 rw[en]at h2 h3
 cases h with
 | none =>
  rw[en]at h1 |-
  cases l with
  | none=>simp[Instr.sliceBounds,en]
  | some y =>
   have hb:=run_sliceBound (P:=P) (c:= .sliceB) (hρ y) (d:=0) (y:=len) h0 h1;simp[Instr.sliceBounds,hb]
 | some x =>
  have hh:=run_sliceBound (P:=P) (c:=if b then .sliceAcap else .sliceAlen) (hρ x) (d:=len) (y:=cap) (by omega) (by omega)
  cases l with
  | none=>simp[Instr.sliceBounds,en,hh]
  | some y =>
   have hb:=run_sliceBound (P:=P) (c:= .sliceB) (hρ y) (d:=0) (y:=(CV e len (some x)).toNat) h0 (by omega);simp[Instr.sliceBounds,hb,hh]
theorem Md (S:St s.own loc M0 w.heap) {id r et k bs:Nat} {es:List (List DVal)} {e:Ent} (he:An s.own id=some e) (wV:e.r=r) (qN:e.obj= .row et k bs es) :
  Ad s.own loc id r=some (loc id)/\∃a cap,(loc id).hdr= .slice a es.length cap/\es.length<=cap/\cap<=maxLen/\((es=[]/\(loc id).blks=[]/\a=none/\cap=0)\/∃b,(loc id).blks=[b]/\a=some ⟨b,0,none⟩):=by
 obtain⟨vN,hid⟩:=AC he;have hk:=S.ok e vN;rw[qN]at hk;obtain⟨_,hk⟩:=hk;rw[hid]at hk;refine⟨by unfold Ad;rw[he];simp[wV],?_⟩
 rcases hk with ⟨rfl,h1,h2⟩ | ⟨b,arr,cap,p1,p2,p3,p4,p5,p6,p7⟩
 ·exact⟨none,0,h2,by simp,by unfold maxLen;omega,.inl ⟨rfl,h1,rfl,rfl⟩⟩
 ·exact⟨_,cap,p2,p4,p5,.inr ⟨b,p1,rfl⟩⟩
theorem eD {own:List Ent} {d:DVal} {id r k bs:Nat} {es:List (List DVal)} (hd:d= .osl id r) (h:Bg own d=some (k,bs,es)):∃e et,An own id=some e/\e.r=r/\e.obj= .row et k bs es:=by
 subst hd;unfold Bg at h;simp only at h
 split at h
 ·rename_i e he
  split at h
  ·rename_i wV
   split at h
   ·rename_i et k' bs' es' qN;simp only[aA0,aU0]at h;obtain⟨rfl,rfl,rfl⟩:=h;exact⟨e,et,he,wV,qN⟩
   ·simp at h
  ·simp at h
 ·simp at h
theorem xQ {own:List Ent} {d:DVal} {id r k bs i n:Nat} (hd:d= .vw id r k bs i n) (h:(Bg own d).isSome=true):∃e et es,An own id=some e/\e.r=r/\e.obj= .row et k bs es/\i+n<=es.length:=by
 subst hd;unfold Bg at h;simp only at h
 split at h
 ·rename_i e he
  split at h
  ·rename_i wV
   split at h
   ·rename_i et k' bs' es' qN
    split at h
    ·rename_i hb;obtain⟨rfl,rfl,hb⟩:=hb;exact⟨e,et,es',he,wV,qN,hb⟩
    ·simp at h
   ·simp at h
  ·simp at h
 ·simp at h
theorem FD {e:Operand->DVal} (hρ:∀x,Bh s loc M0 w (e x) (ρ x)) {b:Bool} {len cap:Nat} {l h m:Option Operand} (hp:Ep e len l h m) (hc:len<=cap) :
  ∃mm,(Instr.sliceBounds b len cap (l.map ρ) (h.map ρ) (m.map ρ)).run P w= .ok ((CV e 0 l).toNat,(CV e len h).toNat,mm) w/\(CV e len h).toNat<=mm/\mm<=cap:=by
 obtain⟨h0,h1,h2,h3,h4⟩:=hp;have en:∀d,CV e d none=d:=fun _=>rfl
 cases m with
 | none =>
  rw[en]at h2 h3;refine⟨cap,?_,by omega,Nat.le_refl _⟩
  cases h with
  | none =>
   rw[en]at h1 |-
   cases l with
   | none=>simp[Instr.sliceBounds,en]
   | some y =>
    have hb:=run_sliceBound (P:=P) (c:= .sliceB) (hρ y) (d:=0) (y:=len) h0 h1;simp[Instr.sliceBounds,hb]
  | some x =>
   have hh:=run_sliceBound (P:=P) (c:=if b then .sliceAcap else .sliceAlen) (hρ x) (d:=len) (y:=cap) (by omega) (by omega)
   cases l with
   | none=>simp[Instr.sliceBounds,en,hh]
   | some y =>
    have hb:=run_sliceBound (P:=P) (c:= .sliceB) (hρ y) (d:=0) (y:=(CV e len (some x)).toNat) h0 (by omega);simp[Instr.sliceBounds,hb,hh]
 | some z =>
  obtain⟨x,rfl⟩:=bG0.1 (h4 rfl);have hm:=run_sliceBound (P:=P) (c:=if b then .slice3Acap else .slice3Alen) (hρ z) (d:=len) (y:=cap) (by omega) (by omega);have hh:=run_sliceBound (P:=P) (c:= .slice3B) (hρ x) (d:=len) (y:=(CV e len (some z)).toNat) (by omega) (by omega);refine⟨(CV e len (some z)).toNat,?_,by omega,by omega⟩
  cases l with
  | none=>simp[Instr.sliceBounds,en,hm,hh]
  | some y =>
   have hb:=run_sliceBound (P:=P) (c:= .slice3C) (hρ y) (d:=0) (y:=(CV e len (some x)).toNat) h0 (by omega);simp[Instr.sliceBounds,hb,hm,hh]
theorem Ap_ {o:Oper} {e:Operand->DVal} (S:St s.own loc M0 w.heap) (hρ:∀x,Bh s loc M0 w (e x) (ρ x)) (hp:FE P s.own e o.op) :
  ∃v w',(execOp ρ o).run P w= .ok (.value v) w'/\Upd [] w w'/\rd (cu s loc) (hm s loc M0) w'.heap (BC P s.own e o.op) v:=by
 obtain⟨dst,op,type,GL,after,guard⟩:=o;simp only at hp |-
 have fin:∀(x:Sem Value) (d:DVal),Yields P s loc M0 w x d->∃v w',(do pure (.value (<-x)):Sem Next).run P w= .ok (.value v) w'/\Upd [] w w'/\rd (cu s loc) (hm s loc M0) w'.heap d v:=by
  rintro x d ⟨v,w',h1,h2,h3⟩;exact⟨v,w',by rw[Sem.run_bind,h1];rfl,h2,h3⟩
 have fin':∀(x:Sem Value) (d:DVal),Yields P s loc M0 w x d->∃v w',((x.run P w).andThen fun a w'=>Result.ok (Next.value a) w')= .ok (.value v) w'/\Upd [] w w'/\rd (cu s loc) (hm s loc M0) w'.heap d v:=by
  rintro x d ⟨v,w',h1,h2,h3⟩;exact⟨v,w',by rw[h1];rfl,h2,h3⟩
 have one:∀(v:Value) (d:DVal),Bh s loc M0 w d v->∃v' w',(pure (.value v):Sem Next).run P w= .ok (.value v') w'/\Upd [] w w'/\rd (cu s loc) (hm s loc M0) w'.heap d v' :=
  fun v d h=>⟨v,w,rfl,Upd.refl _ _,h⟩
 cases op<;>simp only[FE]at hp
 case move x=>exact one _ _ (hρ x)
 case assign x=>exact one _ _ (hρ x)
 case pick c a b =>
  have hc:=hρ c
  split at hp
  ·rename_i t ht;rw[ht]at hc;simp only[Bh,rd]at hc;simp only[BC,ht,execOp,hc];refine one (if t then ρ a else ρ b) _ ?_;have ha:=hρ a;have hb:=hρ b
   generalize e a=da at *
   generalize e b=db at *
   have plain:Bh s loc M0 w (if t then da else db) (if t then ρ a else ρ b):=by cases t<;>simp<;>assumption
   unfold JC
   split
   ·cases t<;>simpa using plain
   ·rename_i p c q;simp only[IB]at hp;simp only[Bh,rd]at ha hb |-;cases t
    ·exact hb.1 (hp rfl)
    ·exact ha
   ·rename_i c p q;simp only[IB]at hp;simp only[Bh,rd]at ha hb |-;cases t
    ·exact hb
    ·exact ha.1 (hp rfl)
   ·exact plain
  ·exact hp.elim
 case fieldAddr t x f =>
  have hx:=hρ x;simp only[execOp];refine fin _ _ ?_
  split at hp
  ·rename_i off n b cs hf hd;rw[hd]at hx;have:=Nv (P:=P) hf hp hx (.inl ⟨cs,rfl⟩);simpa only[BC,hf,hd]using this
  ·rename_i off n b id r o hf hd;rw[hd]at hx;have:=Nv (P:=P) hf hp.1 hx (.inr (.inl ⟨id,r,o,rfl,by rw[Dc hp.2];rfl⟩));simpa only[BC,hf,hd]using this
  ·rename_i off n b id r k i j hf hd;rw[hd]at hx;have:=Nv (P:=P) hf hp.1 hx (.inr (.inr ⟨id,r,k,i,j,rfl,by rw[Dc hp.2];rfl⟩));simpa only[BC,hf,hd]using this
  ·exact hp.elim
 case load t a =>
  have ha:=hρ a;simp only[execOp];refine fin _ _ ?_
  split at hp
  ·rename_i n cs hg hn hc;have:=BL_ (P:=P) S (b:=true) hg ha hc (fun _=>⟨n,hn,hp⟩) (by simp);simpa only[BC,hg,hn,hc,bZ0]using this
  ·rename_i cs hg hc;have:=BL_ (P:=P) S (b:=false) hg ha hc (by simp) (fun _=>hp);cases hn:tCells P t<;>simpa only[BC,hg,hn,hc]using this
  ·exact hp.elim
 case indexAddr t x i =>
  have hx:=hρ x;have hi:=hρ i;simp only[execOp];refine fin _ _ ?_
  split at hp
  ·rename_i ik n k bs k' bs' es cW yU hr;obtain⟨rfl,h0,h1⟩:=hp;rw[cW]at hi;simp only[Bh,rd]at hi;rw[hi.1];have:=uT (P:=P) S (ik:=ik) yU hx hr h0 h1;simpa only[BC,cW,yU]using this
  ·rename_i ik n cW yU
   split at hp
   ·rename_i len k hta;rw[cW]at hi;simp only[Bh,rd]at hi;rw[hi.1];have:=EK_ (P:=P) (ik:=ik) hta hx hp;simpa only[BC,cW,yU,hta]using this
   ·exact hp.elim
  ·exact hp.elim
 case index t x i =>
  have hx:=hρ x;have hi:=hρ i;simp only[execOp];refine fin _ _ ?_
  split at hp
  ·rename_i str ik n hd cW;obtain⟨ht,h0,h1⟩:=hp;rw[cW]at hi;rw[hd]at hx;simp only[Bh,rd]at hi hx;rw[hi.1,hx.1];simp only[BC,hd,cW]
   have hu:P.underlying t=some .string:=by
    unfold tStr at ht
    split at ht
    ·assumption
    ·simp at ht
   have qV:n.toNat<str.size:=by omega
   refine Yields.same (v:= .int .u8 (str[n.toNat]).toNat) ?_ ?_
   ·simp[Instr.index,asIntOf,run_underlying hu,h0,qV]
   ·have e:str.data.toList.getD n.toNat 0=str[n.toNat]:=by
     have bI:n.toNat<str.data.size:=qV;rw[aO0,aE0 (by simpa using bI)];rfl
    simp only[Bh,rd,e,Ly,true_and];have:=(str[n.toNat]).toNat_lt;omega
  ·rename_i cs ik n hd cW
   split at hp
   ·rename_i len hta;rw[cW]at hi;rw[hd]at hx;simp only[Bh,rd]at hi;rw[hi.1];have:=BN_ (P:=P) (ik:=ik) hta hx hp.1 hp.2.1 hp.2.2;simpa only[BC,hd,cW]using this
   ·exact hp.elim
  ·exact hp.elim
 case field t x f =>
  have hx:=hρ x;simp only[execOp];refine fin _ _ ?_
  split at hp
  ·rename_i off n b cs hf hd;rw[hd]at hx;have:=EI_ (P:=P) hf hx hp.1 hp.2;simpa only[BC,hf,hd]using this
  ·exact hp.elim
 case binOp op t x y ty =>
  obtain⟨d,hd⟩:=bG0.1 hp;obtain⟨r,h1,h2⟩:=FI_ (P:=P) (w:=w) (xo:=x) (yo:=y) hd (hρ x) (hρ y);simp only[execOp];refine fin _ _ ?_;simp only[BC,hd,bZ0];exact Yields.same h1 h2
 case unOp op t x =>
  have hx:=hρ x;simp only[execOp];refine fin _ _ ?_
  split at hp
  ·rename_i b hd;rw[hd]at hx;simp only[Bh,rd]at hx;rw[hx];simp only[BC,hd];exact Yields.same (v:= .bool (!b)) rfl (by simp only[Bh,rd])
  ·rename_i k n hd;rw[hd]at hx;simp only[Bh,rd]at hx;rw[hx.1];simp only[BC,hd];exact Yields.same (v:= .int k (k.wrap (0-n))) rfl (by simp only[Bh,rd,Jo,and_self])
  ·exact hp.elim
 case convert src dst x =>
  have hx:=hρ x;obtain⟨hs,hp⟩:=hp;obtain⟨sd,hs⟩:=bG0.1 hs;simp only[execOp];refine fin _ _ ?_
  split at hp
  ·rename_i k n hd;rw[hd]at hx;simp only[Bh,rd]at hx;rw[hx.1];obtain⟨k',vK⟩:=bG0.1 hp;simp only[BC,hd,vK]
   have hu:P.underlying dst=some (.int k'):=by
    unfold tInt at vK
    split at vK
    ·simp only[aA0]at vK;subst vK;assumption
    ·simp at vK
   refine Yields.same (v:= .int k' (k'.wrap n)) ?_ (by simp only[Bh,rd,Jo,and_self]);simp[convert,run_underlying hs,run_underlying hu,Conv.intToInt]
  ·rename_i str hd;rw[hd]at hx;simp only[Bh,rd]at hx;simp only[BC,hd]
   have hu:P.underlying dst=some .string:=by
    unfold tStr at hp
    split at hp
    ·assumption
    ·simp at hp
   refine Yields.same (v:=ρ x) ?_ (by simp only[Bh,rd];exact hx);rw[hx.1];simp only[convert,Sem.run_bind,run_underlying hs,run_underlying hu,Result.andThen_ok];cases sd<;>rfl
  ·exact hp.elim
 case extract x i =>
  have hx:=hρ x;simp only[execOp];refine fin _ _ ?_
  split at hp
  ·rename_i vs hd;rw[hd]at hx;simp only[Bh,rd]at hx;obtain⟨us,hu,vE⟩:=hx;rw[hu];obtain⟨v,hv,hr⟩:=NF _ _ i vs[i] vE (aE0 hp);simp only[BC,hd];refine Yields.same (v:=v) ?_ ?_
   ·have jH:us[i]? =some v:=by simpa using hv
    simp[Instr.extract,jH]
   ·rw[aO0,aE0 hp];exact hr
  ·exact hp.elim
 case makeFunc f us cs =>
  have key:∀l:List Operand,Az (cu s loc) (hm s loc M0) w.heap (l.map e) (l.map ρ):=by
   intro l
   induction l with
   | nil=>simp[Az]
   | cons x l ih=>simp only[List.map_cons,Az];exact⟨_,_,rfl,hρ x,ih⟩
  simp only[execOp,BC];refine fin _ _ (Yields.same (v:= .func f (us.map ρ) (cs.map ρ)) rfl ?_);simp only[Bh,rd];exact⟨_,_,rfl,by simpa using key us.toList,by simpa using key cs.toList⟩
 case makeInterface t x =>
  simp only[execOp,BC];refine fin _ _ (Yields.same (v:= .iface t (ρ x)) ?_ (by simp only[Bh,rd];exact⟨_,rfl,hρ x⟩))
  cases hu:P.underlying t with
  | none=>simp[hu]at hp
  | some d=>cases d<;>simp[hu]at hp<;>simp[Instr.makeInterface,run_underlying hu]
 case nilCheck x =>
  have hx:=hρ x
  split at hp
  ·rename_i cs hd;rw[hd]at hx;simp only[Bh,rd]at hx;have qA:=hx;obtain⟨b,off,arr,ty,fz,hv,_⟩:=hx;simp only[execOp,hv,BC,hd];exact one _ _ (by rw[<-hv];simp only[Bh,rd];exact qA)
  ·rename_i id r off hd;rw[hd]at hx;have qA:=hx;simp only[Bh,rd]at hx;obtain⟨b,_,hv⟩:=hx _ (Dc hp);simp only[execOp,hv,BC,hd];exact one _ _ (by rw[<-hv];exact qA)
  ·rename_i id r k i j hd;rw[hd]at hx;have qA:=hx;simp only[Bh,rd]at hx;obtain⟨b,_,hv⟩:=hx _ (Dc hp);simp only[execOp,hv,BC,hd];exact one _ _ (by rw[<-hv];exact qA)
  ·rename_i f us cs hd;rw[hd]at hx;simp only[Bh,rd]at hx;have qA:=hx;obtain⟨us',cs',hv,_⟩:=hx;simp only[execOp,hv,BC,hd];exact one _ _ (by rw[<-hv];simp only[Bh,rd];exact qA)
  ·exact hp.elim
 case box t x =>
  simp only[execOp,BC];exact fin _ _ (Hn_ S hp (hρ x))
 case build t parts =>
  split at hp
  ·rename_i z hz;obtain⟨h1,h2,h3⟩:=hp;unfold tParts at h3
   split at h3
   ·rename_i fs hs;obtain⟨out,vL⟩:=bG0.1 h1;simp only[execOp,BC,hz,vL,bZ0];refine fin _ _ (EJ_ S hz hs h3 (ds:=parts.toList.map fun p=>(p.1,e p.2)) (by simp) ?_ vL);intro i p q yE vY;simp only[bK0,bF0,dZ0]at yE vY;obtain⟨a,ha,rfl⟩:=yE;obtain⟨b,hb,rfl⟩:=vY;rw[ha]at hb;simp only[aA0]at hb;subst hb;exact(Ij S (bC0.1 h2 a (bP0 ha)) (hρ a.2)).1
   ·obtain⟨out,vL⟩:=bG0.1 h1;simp only[execOp,BC,hz,vL,bZ0];exact fin _ _ (BM_ hz h3 (ds:=parts.toList.map fun p=>(p.1,e p.2)) (by simp) vL)
  ·exact hp.elim
 case buildSlice t len parts =>
  split at hp
  ·rename_i k bs ht;obtain⟨h1,h2,h3,h4,h5,h6,h7⟩:=hp;simp only[execOp,BC,ht];have qU:parts.toList.length=len:=by have:=congrArg List.length h1;simpa using this
   have:=Uv (P:=P) (vs:=parts.map fun p=>(p.1,ρ p.2)) S ht h5 h2 h3 h4 (ds:=parts.toList.map fun p=>e p.2) (by rw[dZ0,bY0];exact h1) (by simpa using qU) (by simpa[List.all_map,Function.comp_def]using h6) (by
    intro i d q hd hq;simp only[bK0,bF0,dZ0]at hd hq;obtain⟨a,ha,rfl⟩:=hd;obtain⟨b,hb,rfl⟩:=hq;rw[ha]at hb;simp only[aA0]at hb;subst hb
    exact hρ a.2) h7
   refine fin _ _ ?_;simpa[bY0,Function.comp_def]using this
  ·exact hp.elim
 case slice t x l h m =>
  have hx:=hρ x;simp only[execOp];refine fin _ _ ?_
  split at hp
  ·rename_i k bs es hd;rw[hd]at hx;simp only[Bh,rd]at hx;obtain⟨a,cap,hv,g1,g2,g3,g4⟩:=hx;obtain⟨e',i,hu,hi,qP,_,_⟩:=BF hp.1;obtain⟨mm,hr,k1,k2⟩:=FD (P:=P) hρ (b:=true) hp.2 g1;obtain⟨p0,p1,p2,p3,_⟩:=hp.2;simp only[BC,hd];rw[hv]
   have qU:((es.drop (CV e 0 l).toNat).take ((CV e es.length h).toNat-(CV e 0 l).toNat)).length=(CV e es.length h).toNat-(CV e 0 l).toNat:=by
    simp only[bA0,cF0];omega
   refine Yields.same (v:= .slice (if mm=(CV e 0 l).toNat then a else a.map (·.add ((CV e 0 l).toNat*k))) ((CV e es.length h).toNat-(CV e 0 l).toNat) (mm-(CV e 0 l).toNat)) ?_ ?_
   ·simp[Instr.sliceAt,Instr.slice,run_underlying hu,hr,sizeOf,typeInfo,hi,qP]
   ·simp only[Bh,rd];refine⟨_,_,by rw[qU],by rw[qU];omega,by omega,?_,?_⟩
    ·refine Nat.le_trans (aX0 bs ?_) g3;rw[qU];omega
    ·by_cases hz:(CV e es.length h).toNat-(CV e 0 l).toNat=0
     ·refine .inl ⟨bM0 (by rw[qU];exact hz),?_⟩;intro hn
      rcases g4 with ⟨rfl,hc⟩ | ⟨b,off,arr,ty,fz,rfl,_⟩
      ·split at hn
       ·omega
       ·cases a with
        | none=>have:=hc rfl;omega
        | some a=>simp at hn
      ·split at hn<;>simp at hn
     ·right
      rcases g4 with ⟨rfl,_⟩ | ⟨b,off,arr,ty,fz,rfl,q1,q2,q3⟩
      ·simp only[List.length_nil]at hz qU p3 p2;simp at qU;omega
      ·refine⟨b,off+(CV e 0 l).toNat*k,arr,ty,fz,?_,q1,q2,WZ _ _ _ _ (Xc _ _ _ _ q3)⟩;rw[if_neg (by omega)];simp[Dk]
  ·rename_i hd;rw[hd]at hx;simp only[Bh,rd]at hx;obtain⟨y,hy⟩:=bG0.1 hp.1;obtain⟨e',i,hu,hi,qP,_,_⟩:=BF (k:=y.1) (bs:=y.2) hy;obtain⟨mm,hr,k1,k2⟩:=FD (P:=P) hρ (b:=true) hp.2 (Nat.le_refl 0);obtain⟨p0,p1,p2,p3,_⟩:=hp.2;simp only[BC,hd];rw[hx];have e0:((0:Nat):Int)=0:=rfl;rw[e0]at hr k1 p1 p2 p3;have z1:(CV e 0 l).toNat=0:=by omega
   have z2:(CV e 0 h).toNat=0:=by omega
   have z3:mm=0:=by omega
   subst z3;refine Yields.same (v:= .slice none 0 0) ?_ (by simp only[Bh,rd]);simp[Instr.sliceAt,Instr.slice,run_underlying hu,hr,sizeOf,typeInfo,hi,z1,z2]
  ·rename_i id r hd;obtain⟨rfl,hp⟩:=hp;rw[hd]at hx
   cases mI:Bg s.own (.osl id r)with
   | none=>rw[mI]at hp;exact hp.elim
   | some x =>
    obtain⟨k,bs,es⟩:=x;rw[mI]at hp;simp only at hp;obtain⟨e',i,hu,hi,qP,_,_⟩:=BF hp.1;obtain⟨e0,et,vW,wV,qN⟩:=eD rfl mI;obtain⟨qD,a,cap,hh,g1,g2,g3⟩:=Md S vW wV qN;simp only[Bh,rd]at hx;have hv:=hx _ qD;rw[hh]at hv;have hr:=HN (P:=P) hρ (b:=true) hp.2 g1;obtain⟨p0,p1,p2,p3,_⟩:=hp.2;have en:CV e es.length none=es.length:=rfl;rw[en]at p2 p3;simp only[BC,hd,mI];rw[hv];refine Yields.same (v:= .slice (if cap=(CV e 0 l).toNat then a else a.map (·.add ((CV e 0 l).toNat*k))) ((CV e es.length h).toNat-(CV e 0 l).toNat) (cap-(CV e 0 l).toNat)) ?_ ?_
    ·simp[Instr.sliceAt,Instr.slice,run_underlying hu,hr,sizeOf,typeInfo,hi,qP]
    ·simp only[Bh,rd];intro lc hl;have wZ:Ad s.own loc id r=some lc:=hl;rw[qD]at wZ;simp only[aA0]at wZ;subst wZ;refine⟨_,_,rfl,by omega,by omega,fun hn=> ?_,fun hn=> ?_,fun hz=> ?_⟩
     ·rcases g3 with ⟨_,_,_,yT⟩ | ⟨b,qI,rfl⟩
      ·omega
      ·split at hn<;>simp at hn
     ·rcases g3 with ⟨rfl,_⟩ | ⟨b,qI,rfl⟩
      ·simp only[List.length_nil]at p2 hn;omega
      ·refine⟨b,qI,?_⟩;rw[if_neg (by omega)];simp[Dk]
     ·refine⟨es.length,?_⟩;rw[hh,hz]
      rcases g3 with ⟨rfl,_,rfl,rfl⟩ | ⟨b,qI,rfl⟩
      ·simp
      ·simp[Dk]
  ·rename_i id r k bs i0 n0 hd;obtain⟨rfl,mI,hp⟩:=hp;rw[hd]at hx;obtain⟨e0,et,es,vW,wV,qN,hbound⟩:=xQ rfl mI;obtain⟨e',i,hu,hi,qP,_,_⟩:=BF hp.1;obtain⟨qD,a0,cap0,hh,g1,g2,g3⟩:=Md S vW wV qN;simp only[Bh,rd]at hx;obtain⟨a,cap,hv,q1,q2,q5,q3,q4⟩:=hx _ qD;have hr:=HN (P:=P) hρ (b:=true) hp.2 q1;obtain⟨p0,p1,p2,p3,_⟩:=hp.2;have en:CV e n0 none=n0:=rfl;rw[en]at p2 p3;simp only[BC,hd];rw[hv];refine Yields.same (v:= .slice (if cap=(CV e 0 l).toNat then a else a.map (·.add ((CV e 0 l).toNat*k))) ((CV e n0 h).toNat-(CV e 0 l).toNat) (cap-(CV e 0 l).toNat)) ?_ ?_
   ·simp[Instr.sliceAt,Instr.slice,run_underlying hu,hr,sizeOf,typeInfo,hi,qP]
   ·simp only[Bh,rd];intro lc hl;have wZ:Ad s.own loc id r=some lc:=hl;rw[qD]at wZ;simp only[aA0]at wZ;subst wZ;refine⟨_,_,rfl,by omega,by omega,fun hn=> ?_,fun hn=> ?_,fun hz=> ?_⟩
    ·have ha:a=none:=by
      split at hn
      ·exact hn
      ·simpa using hn
     have:=q5 ha;omega
    ·obtain⟨b,qI,rfl⟩:=q3 (by omega);refine⟨b,qI,?_⟩;rw[if_neg (by omega)];simp[Dk,bU0]
    ·obtain⟨n1,hh1⟩:=q4 (by omega);rw[hh]at hh1;simp only[Value.slice.injEq]at hh1;obtain⟨rfl,_,rfl⟩:=hh1;refine⟨es.length,?_⟩;have z0:(CV e 0 l).toNat=0:=by omega
     rw[hh,z0]
     rcases g3 with ⟨rfl,_,rfl,rfl⟩ | ⟨b,qI,rfl⟩
     ·simp
     ·simp[Dk]
  ·rename_i str hd;obtain⟨ht,rfl,jI⟩:=hp;rw[hd]at hx;simp only[Bh,rd]at hx
   have hu:P.underlying t=some .string:=by
    unfold tStr at ht
    split at ht
    ·assumption
    ·simp at ht
   obtain⟨mm,hr,k1,k2⟩:=FD (P:=P) hρ (b:=false) (cap:=str.size) jI (Nat.le_refl _);simp only[BC,hd];rw[hx.1];refine Yields.same (v:= .string (str.extract (CV e 0 l).toNat (CV e str.size h).toNat)) ?_ ?_
   ·simp only[Option.map_none]at hr;simp[Instr.sliceAt,Instr.slice,run_underlying hu,hr]
   ·simp only[Bh,rd,true_and];have h2:=hx.2
    have:(str.extract (CV e 0 l).toNat (CV e str.size h).toNat).size<=str.size:=by
     rw[ByteArray.size_extract];omega
    omega
  ·exact hp.elim
 case lookup t x i ok =>
  have hx:=hρ x;have hi:=hρ i;simp only[execOp];refine fin _ _ ?_
  split at hp
  ·rename_i kt et ks vs ht hc;obtain⟨z,hz⟩:=bG0.1 hp.2.2;have:=BK_ (P:=P) (ok:=ok) S ht hx hc hi hp.1 hp.2.1 hz;simpa only[BC,ht,hc,hz,bZ0]using this
  ·exact hp.elim
 case call c =>
  obtain⟨callee,args,ats⟩:=c;cases callee<;>simp only at hp
  case builtin b =>
   cases b<;>simp only[Ta]at hp
   case append =>
    obtain⟨al⟩:=args;obtain⟨tl⟩:=ats
    match al,tl,hp with
    | [x,y],[t,t'],hp =>
     have hx:=hρ x;have hy:=hρ y;simp only[List.map_cons,List.map_nil]at hp;simp only[BC,List.map_cons,List.map_nil,MW];simp only[execOp,resolve,Sem.run_bind,dO0,List.map_cons,List.map_nil,Sem.run_pure,Result.andThen_ok,invoke,builtin];refine fin' _ _ ?_
     split at hp
     ·rename_i ha hb;rw[ha]at hx;rw[hb]at hy;simp only[Bh,rd]at hx hy;obtain⟨rfl,h2⟩:=hp;obtain⟨y0,hy0⟩:=bG0.1 h2;obtain⟨e0,i,hu,hi,_⟩:=BF (k:=y0.1) (bs:=y0.2) hy0;rw[hx,hy];refine Yields.same (v:= .slice none 0 0) (by simp[Builtin.append_,run_underlying hu,sizeOf,typeInfo,hi,Builtin.lenOf,Builtin.firstCells,storeCells]) ?_;simp only[Bh,rd]
     ·exact hp.elim
   case min =>
    obtain⟨al⟩:=args;obtain⟨tl⟩:=ats
    match al,hp with
    | [x,y],hp =>
     have hx:=hρ x;have hy:=hρ y;simp only[List.map_cons,List.map_nil]at hp;simp only[BC,List.map_cons,List.map_nil,MW];simp only[execOp,resolve,Sem.run_bind,dO0,List.map_cons,List.map_nil,Sem.run_pure,Result.andThen_ok,invoke,builtin];refine fin' _ _ ?_
     split at hp
     ·rename_i k a k' b ha hb;rw[ha]at hx;rw[hb]at hy;simp only[Bh,rd]at hx hy;subst hp;rw[hx.1,hy.1];refine Yields.same (v:= .int k (if b<a then b else a)) (by simp[Builtin.min_,Builtin.min2]) ?_;simp only[Bh,rd,true_and]
      split
      ·exact hy.2
      ·exact hx.2
     ·exact hp.elim
    | [],hp=>simp at hp
    | [_],hp=>simp at hp
    | _::_::_::_,hp=>simp at hp
   case max =>
    obtain⟨al⟩:=args;obtain⟨tl⟩:=ats
    match al,hp with
    | [x,y],hp =>
     have hx:=hρ x;have hy:=hρ y;simp only[List.map_cons,List.map_nil]at hp;simp only[BC,List.map_cons,List.map_nil,MW];simp only[execOp,resolve,Sem.run_bind,dO0,List.map_cons,List.map_nil,Sem.run_pure,Result.andThen_ok,invoke,builtin];refine fin' _ _ ?_
     split at hp
     ·rename_i k a k' b ha hb;rw[ha]at hx;rw[hb]at hy;simp only[Bh,rd]at hx hy;subst hp;rw[hx.1,hy.1];refine Yields.same (v:= .int k (if a<b then b else a)) (by simp[Builtin.max_,Builtin.max2]) ?_;simp only[Bh,rd,true_and]
      split
      ·exact hy.2
      ·exact hx.2
     ·exact hp.elim
    | [],hp=>simp at hp
    | [_],hp=>simp at hp
    | _::_::_::_,hp=>simp at hp
   case len =>
    have qE:∀x∈args.toList,Bh s loc M0 w (e x) (ρ x):=fun x _=>hρ x
    obtain⟨al⟩:=args;obtain⟨tl⟩:=ats
    match al,tl,hp,qE with
    | [x],[t],hp,qE =>
     have hx:=hρ x;simp only[List.map_cons,List.map_nil]at hp;simp only[BC,List.map_cons,List.map_nil,MW];simp only[execOp,resolve,Sem.run_bind,dO0,List.map_cons,List.map_nil,Sem.run_pure,Result.andThen_ok,invoke,builtin];refine fin' _ _ ?_
     split at hp
     ·rename_i str hd;rw[hd]at hx;simp only[Bh,rd]at hx;rw[hx.1]
      have hu:P.underlying t=some .string:=by
       unfold tStr at hp
       split at hp
       ·assumption
       ·simp at hp
      have qP:=hx.2;refine Yields.same (v:= .int .i64 str.size) (by simp[Builtin.len_,run_underlying hu,goInt]) ?_;simp only[Bh,rd,Ly,true_and];unfold maxLen at qP;omega
     ·rename_i hd;rw[hd]at hx;simp only[Bh,rd]at hx;rw[hx];obtain⟨y,hy⟩:=bG0.1 hp;obtain⟨e,i,hu,_⟩:=BF (k:=y.1) (bs:=y.2) hy;refine Yields.same (v:= .int .i64 0) (by simp[Builtin.len_,run_underlying hu,goInt]) ?_;simp only[Bh,rd,Ly,true_and];omega
     ·rename_i ks vs hd;rw[hd]at hx;exact PT (P:=P) S hp.1 hx rfl hp.2
     ·rename_i hd;rw[hd]at hx;have:=PT (P:=P) (ty:=type) (ks:=[]) (vs:=[]) S hp hx rfl (by simp);simpa using this
     ·rename_i id r hd;rw[hd]at hx;obtain⟨h1,h2⟩:=hp
      cases hq:Gu s.own (.omp id r)with
      | none=>rw[hq]at h2;exact h2.elim
      | some y =>
       rw[hq]at h2;exact PT (P:=P) S h1 hx hq h2
     ·rename_i d h1 h2 h3 h4 h5;obtain⟨y,hy⟩:=bG0.1 hp.1;have:=Hm_ (P:=P) (ty:=type) S hp.2 hx (k:=y.1) (bs:=y.2.1) (es:=y.2.2) hy;cases hd:e x<;>rw[hd]at h1 h2 h3 h4 h5 hy<;>first | (exact(h1 _ rfl).elim) | (exact(h2 rfl).elim) | (exact(h3 _ _ rfl).elim) | (exact(h4 rfl).elim) | (exact(h5 _ _ rfl).elim) | (simp only[hy];exact this)
end
end Go.Dm
end
