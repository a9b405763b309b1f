/- Parts of a proof, laid together: EnD, EnD1. -/
import Derived.Laws.StructEq
import Derived.Test.YtiojapdolljocaaGreatqBw1
set_option linter.unusedSimpArgs false
set_option maxHeartbeats 8000000
set_option linter.unusedVariables false
set_option linter.unusedSectionVars false
section
namespace Go.Dm
variable [DMode]
section
variable (P : Program)
def DW_ (t:TypeId):Option IntKind:=match P.underlying t with | some (.int k)=>some k | _=>none
def tStr (t:TypeId):Bool:=match P.underlying t with | some .string=>true | _=>false
def tBool (t:TypeId):Bool:=match P.underlying t with | some .bool=>true | _=>false
def tSl (t:TypeId):Bool:=match P.underlying t with | some (.slice _)=>true | _=>false
def tMp (t:TypeId):Bool:=match P.underlying t with | some (.map _ _)=>true | _=>false
def tPtr (t:TypeId):Bool:=match P.underlying t with | some (.pointer _)=>true | _=>false
def tZero (t:TypeId):Option (List DVal):=match P.info? t with
 | some i=>i.zero.map fun v=>v.cells.toList.map BZ
 | none=>none
def Db (t:TypeId):Option (Array Field):=match P.underlying t with | some (.struct fs)=>some fs | _=>none
end
inductive CK where
 | b
 | i (k:IntKind)
 | s
section
variable (P : Program)
def QB (g:TypeId->Option (List CK)):Nat->List Field->Option (List CK)
 | _,[]=>some []
 | o,f::fs=>if f.name= "_" then none else if f.offset≠o then none else
  match g f.type with
  | some ks=>if tCells P f.type=some ks.length then (QB g (o+ks.length) fs).map (ks++ ·)else none
  | none=>none
def flat : Nat->TypeId->Option (List CK)
 | 0,_=>none
 | d+1,t=>match P.underlying t with
  | some .bool=>some [.b]
  | some (.int k)=>some [.i k]
  | some .string=>some [.s]
  | some (.struct fs)=>if P.stoodInHeld t then none else QB P (flat d) 0 fs.toList
  | _=>none
def flatA (t:TypeId):Option (List CK):=match P.underlying t with
 | some (.array n e)=>(match flat P 9999 e with
  | some [c]=>if tCells P e=some 1 then some (List.replicate n c)else none
  | _=>none)
 | _=>flat P 10000 t
end
def Nj : CK->DVal->Bool
 | .b,.bool _=>true
 | .i k,.int k' _=>k==k'
 | .s,.str _=>true
 | _,_=>false
def Bp : List CK->List DVal->Bool
 | [],[]=>true
 | k::ks,d::ds=>Nj k d&&Bp ks ds
 | _,_=>false
def US : DVal->DVal->Bool
 | .bool a,.bool b=>a==b
 | .int _ a,.int _ b=>a==b
 | .str a,.str b=>a==b
 | _,_=>false
def Cu : List DVal->List DVal->Bool
 | [],[]=>true
 | x::xs,y::ys=>US x y&&Cu xs ys
 | _,_=>false
def FD_ (k:IntKind) (a b:Int):Int:=k.wrap (BitVec.ofInt k.bits a &&& BitVec.ofInt k.bits b).toNat
def iOr (k:IntKind) (a b:Int):Int:=k.wrap (BitVec.ofInt k.bits a ||| BitVec.ofInt k.bits b).toNat
def FA_ (k:IntKind) (a b:Int):Int:=k.wrap (BitVec.ofInt k.bits a ^^^ BitVec.ofInt k.bits b).toNat
def lO (k:IntKind) (a b:Int):Int:=k.wrap (BitVec.ofInt k.bits a &&& ~~~(BitVec.ofInt k.bits b)).toNat
def FC_ (k:IntKind) (a b:Int):Int:=k.wrap (a*2 ^ (min b.toNat k.bits))
def FB_ (k:IntKind) (a b:Int):Int:=a.fdiv (2 ^ (min b.toNat k.bits))
def Gl (P:Program) (op:BinOp) (t:TypeId):DVal->DVal->Option DVal
 | .int k a,.int k' b=>match op with
  | .shl=>if b<0 then none else some (.int k (FC_ k a b))
  | .shr=>if b<0 then none else some (.int k (FB_ k a b))
  | _=>if k≠k' then none else match op with
   | .add=>some (.int k (k.wrap (a+b)))
   | .sub=>some (.int k (k.wrap (a-b)))
   | .mul=>some (.int k (k.wrap (a*b)))
   | .quo=>if b=0 then none else some (.int k (k.wrap (a.tdiv b)))
   | .rem=>if b=0 then none else some (.int k (a.tmod b))
   | .and=>some (.int k (FD_ k a b))
   | .or=>some (.int k (iOr k a b))
   | .xor=>some (.int k (FA_ k a b))
   | .andNot=>some (.int k (lO k a b))
   | .eql=>some (.bool (a==b))
   | .neq=>some (.bool (a != b))
   | .lss=>some (.bool (decide (a<b)))
   | .leq=>some (.bool (decide (a<=b)))
   | .gtr=>some (.bool (decide (b<a)))
   | .geq=>some (.bool (decide (b<=a)))
   | _=>none
 | .str a,.str b=>match op with
  | .add=>if a.size+b.size<=maxLen then some (.str (a++b))else none
  | .eql=>some (.bool (a==b))
  | .neq=>some (.bool (!(a==b)))
  | .lss=>some (.bool (Op.bytesLess a.data.toList b.data.toList))
  | .leq=>some (.bool (Op.bytesLess a.data.toList b.data.toList||a==b))
  | .gtr=>some (.bool (!(Op.bytesLess a.data.toList b.data.toList||a==b)))
  | .geq=>some (.bool (!Op.bytesLess a.data.toList b.data.toList))
  | _=>none
 | .bool a,.bool b=>if tBool P t then (match op with
  | .eql=>some (.bool (a==b))
  | .neq=>some (.bool (!(a==b)))
  | _=>none)else none
 | .agg xs,.agg ys=>if P.eqGuardType P.depth t then none else if tAgg P t≠some true then none else match flatA P t with
  | some ks=>if Bp ks xs&&Bp ks ys then (match op with
   | .eql=>some (.bool (Cu xs ys))
   | .neq=>some (.bool (!Cu xs ys))
   | _=>none)else none
  | none=>none
 | .nilp,.nilp=>if tPtr P t then (match op with | .eql=>some (.bool true) | .neq=>some (.bool false) | _=>none)else none
 | .nilsl,.nilsl=>if tSl P t then (match op with | .eql=>some (.bool true) | .neq=>some (.bool false) | _=>none)else none
 | .esl,.nilsl=>if tSl P t then (match op with | .eql=>some (.bool false) | .neq=>some (.bool true) | _=>none)else none
 | .sl _ _ (_::_),.nilsl=>if tSl P t then (match op with | .eql=>some (.bool false) | .neq=>some (.bool true) | _=>none)else none
 | .ref _,.nilp=>if tPtr P t then (match op with | .eql=>some (.bool false) | .neq=>some (.bool true) | _=>none)else none
 | .mp _ _,.nilmp=>if tMp P t then (match op with | .eql=>some (.bool false) | .neq=>some (.bool true) | _=>none)else none
 | .nilmp,.nilmp=>if tMp P t then (match op with | .eql=>some (.bool true) | .neq=>some (.bool false) | _=>none)else none
 | _,_=>none
theorem Ix (k:IntKind) (n:Int):Kx k (k.wrap n):=by
 cases k<;>simp only[IntKind.wrap,IntKind.bits,IntKind.signed,Kx]<;>simp<;>(try split)<;>omega
section
variable {P : Program} {cur : EF} {M : List Nat} {h : Array Obj} {w : World}
theorem GI_ (a b:ByteArray):(a.toList==b.toList)=(a==b):=(beq_toListBytes a b).symm
theorem Oe {d:Nat} {t:TypeId} {c:CK} {x y:DVal} {u v:Value} (hf:flat P (d+1) t=some [c]) (hns:Db P t=none) (hx:Nj c x=true) (hy:Nj c y=true)
  (rx:rd cur M h x u) (ry:rd cur M h y v):(Op.equalIn (d+1) t u v).run P w= .ok (US x y) w:=by
 simp only[flat]at hf
 split at hf<;>rename_i hu
 ·simp only[aA0,bF0,and_true]at hf;subst hf;cases x<;>simp[Nj]at hx;cases y<;>simp[Nj]at hy;simp only[rd]at rx ry;subst rx;subst ry;simpa[US]using run_equalIn_bool' (P:=P) w d t _ _ hu
 ·simp only[aA0,bF0,and_true]at hf;subst hf;cases x<;>simp[Nj]at hx;cases y<;>simp[Nj]at hy;simp only[rd]at rx ry;obtain⟨rfl,_⟩:=rx;obtain⟨rfl,_⟩:=ry;subst hx;subst hy;simpa[US]using run_equalIn_int (P:=P) w d t _ _ _ _ hu
 ·simp only[aA0,bF0,and_true]at hf;subst hf;cases x<;>simp[Nj]at hx;cases y<;>simp[Nj]at hy;simp only[rd]at rx ry;obtain⟨rfl,_⟩:=rx;obtain⟨rfl,_⟩:=ry;rw[run_equalIn_string (P:=P) w d t _ _ hu,GI_];rfl
 ·simp[Db,hu]at hns
 ·simp at hf
theorem NQ : ∀(a b c d:List DVal),a.length=b.length->Cu (a++c) (b++d)=(Cu a b&&Cu c d)
 | [],[],_,_,_=>by simp[Cu]
 | x::a,y::b,c,d,h=>by
  simp only[List.cons_append,Cu,NQ a b c d (by simpa using h),eM0]
theorem Ca : ∀(ks:List CK) (ds:List DVal),Bp ks ds=true->ds.length=ks.length
 | [],[],_=>rfl
 | [],_::_,h=>by simp[Bp]at h
 | _::_,[],h=>by simp[Bp]at h
 | k::ks,d::ds,h=>by
  simp only[Bp,aM0]at h;simp[Ca ks ds h.2]
theorem Gv : ∀(k1 k2:List CK) (ds:List DVal),Bp (k1++k2) ds=true->Bp k1 (ds.take k1.length)=true/\Bp k2 (ds.drop k1.length)=true
 | [],k2,ds,h=>by simpa[Bp]using h
 | k::k1,k2,[],h=>by simp[Bp]at h
 | k::k1,k2,d::ds,h=>by
  simp only[List.cons_append,Bp,aM0]at h;have:=Gv k1 k2 ds h.2;simpa[Bp,h.1]using this
theorem Aq : ∀(ds:List DVal) (vs:List Value),Aw cur M h ds vs->vs.length=ds.length
 | [],vs,hr=>by simp only[Aw]at hr;subst hr;rfl
 | d::ds,vs,hr=>by
  simp only[Aw]at hr;obtain⟨v,r,rfl,_,h3⟩:=hr;simp[Aq ds r h3]
theorem PM : ∀(ds:List DVal) (vs:List Value) (i:Nat) (d:DVal),Aw cur M h ds vs->ds[i]? =some d->∃v,vs[i]? =some v/\rd cur M h d v
 | [],vs,i,d,_,hi=>by simp at hi
 | d::ds,vs,0,d',hr,hi=>by
  simp only[Aw]at hr;obtain⟨v,r,rfl,h2,_⟩:=hr;simp only[bB0,aA0]at hi;subst hi;exact⟨v,by simp,h2⟩
 | d::ds,vs,i+1,d',hr,hi=>by
  simp only[Aw]at hr;obtain⟨v,r,rfl,_,h3⟩:=hr;simpa using PM ds r i d' h3 (by simpa using hi)
theorem Ek : ∀(n:Nat) (ds:List DVal) (vs:List Value),Aw cur M h ds vs->Aw cur M h (ds.drop n) (vs.drop n)
 | 0,ds,vs,hr=>by simpa using hr
 | n+1,[],vs,hr=>by simp only[Aw]at hr;subst hr;simp[Aw]
 | n+1,d::ds,vs,hr=>by
  simp only[Aw]at hr;obtain⟨v,r,rfl,_,h3⟩:=hr;simpa using Ek n ds r h3
theorem Ej : ∀(n:Nat) (ds:List DVal) (vs:List Value),Aw cur M h ds vs->Aw cur M h (ds.take n) (vs.take n)
 | 0,ds,vs,hr=>by simp[Aw]
 | n+1,[],vs,hr=>by simp only[Aw]at hr;subst hr;simp[Aw]
 | n+1,d::ds,vs,hr=>by
  simp only[Aw]at hr;obtain⟨v,r,rfl,h2,h3⟩:=hr;simp only[cJ0,Aw];exact⟨v,_,rfl,h2,Ej n ds r h3⟩
theorem BV : ∀(a b:List DVal) (u v:List Value),Aw cur M h a u->Aw cur M h b v->Aw cur M h (a++b) (u++v)
 | [],b,u,v,h1,h2=>by simp only[Aw]at h1;subst h1;simpa using h2
 | d::a,b,u,v,h1,h2=>by
  simp only[Aw]at h1;obtain⟨x,r,rfl,h3,h4⟩:=h1;simp only[List.cons_append,Aw];exact⟨x,_,rfl,h3,BV a b r v h4 h2⟩
def valOf (agg:Bool) (us:List Value):Value:=if agg then .agg us.toArray else us.headD Go.undef
theorem GV {t:TypeId} {b:Bool} {n:Nat} {us:Array Value} {o:Nat} (hb:tAgg P t=some b) (hn:tCells P t=some n) (yI:b=false->n=1) (hl:o+n<=us.size) :
  (part t us o).run P w= .ok (valOf b ((us.toList.drop o).take n)) w:=by
 unfold part;rw[Sem.run_bind,JE hb]
 cases b with
 | true =>
  simp only[Result.andThen_ok,if_true,Sem.run_bind,BE hn,Sem.run_pure,valOf]
  congr 2
  apply Array.ext'
  simp[List.extract,eN0]
 | false =>
  have:=yI rfl;subst this;have ho:o<us.size:=by omega
  simp only[Result.andThen_ok,bE0,if_false,bX0 ho,Sem.run_pure,valOf]
  congr 1
  rw[aU0 (by simpa using ho)];simp
theorem Jk {d:Nat} {t:TypeId} {ks:List CK} (hf:flat P d t=some ks):∃b,tAgg P t=some b/\(b=false->ks.length=1)/\(b=true->Db P t≠none)/\(b=false->Db P t=none):=by
 cases d with
 | zero=>simp[flat]at hf
 | succ d =>
  simp only[flat]at hf
  split at hf<;>rename_i hu
  ·exact⟨false,by simp[tAgg,hu],fun _=>by simp only[aA0]at hf;subst hf;rfl,by simp,fun _=>by simp[Db,hu]⟩
  ·exact⟨false,by simp[tAgg,hu],fun _=>by simp only[aA0]at hf;subst hf;rfl,by simp,fun _=>by simp[Db,hu]⟩
  ·exact⟨false,by simp[tAgg,hu],fun _=>by simp only[aA0]at hf;subst hf;rfl,by simp,fun _=>by simp[Db,hu]⟩
  ·exact⟨true,by simp[tAgg,hu],by simp,fun _=>by simp[Db,hu],by simp⟩
  ·simp at hf
def YW (P:Program) (cur:EF) (M:List Nat) (h:Array Obj) (d:Nat):Prop :=
 ∀(t:TypeId) (ks:List CK) (b:Bool) (xs ys:List DVal) (us vs:List Value) (w:World),flat P d t=some ks->tAgg P t=some b->Bp ks xs=true->Bp ks ys=true ->
  Aw cur M h xs us->Aw cur M h ys vs->(Op.equalIn d t (valOf b us) (valOf b vs)).run P w= .ok (Cu xs ys) w
theorem GW {d:Nat} (H:YW P cur M h d):∀(fs:List Field) (o:Nat) (ks:List CK) (xs ys:List DVal) (us0 vs0 us vs:List Value) (w:World),QB P (flat P d) o fs=some ks->Bp ks xs=true->Bp ks ys=true ->
  Aw cur M h xs us->Aw cur M h ys vs->us0.length=o->vs0.length=o->(Op.eqFields d (us0++us).toArray (vs0++vs).toArray fs).run P w= .ok (Cu xs ys) w
 | [],o,ks,xs,ys,us0,vs0,us,vs,w,hf,hx,hy,_,_,_,_=>by
  simp only[QB,aA0]at hf;subst hf;have e1:=Ca [] xs hx;have e2:=Ca [] ys hy;simp only[List.length_nil,cX0]at e1 e2;subst e1;subst e2;simp[Op.eqFields,Cu]
 | f::fs,o,ks,xs,ys,us0,vs0,us,vs,w,hf,hx,hy,rx,ry,l1,l2=>by
  simp only[QB]at hf
  split at hf
  ·simp at hf
  rename_i hnm
  split at hf
  ·simp at hf
  rename_i hof;simp only[ne_eq,Decidable.not_not]at hof
  split at hf
  rotate_left
  ·simp at hf
  rename_i k1 yE
  split at hf
  rotate_left
  ·simp at hf
  rename_i qD;simp only[aY0]at hf;obtain⟨k2,zI,rfl⟩:=hf;obtain⟨b,hb,qS,_,_⟩:=Jk yE;have sx:=Gv k1 k2 xs hx;have sy:=Gv k1 k2 ys hy;have lx:=Ca _ _ hx;have ly:=Ca _ _ hy;have rlx:=Aq _ _ rx;have rly:=Aq _ _ ry;simp only[aE0]at lx ly;have p1:=GV (P:=P) (w:=w) (us:=(us0++us).toArray) (o:=o) hb qD qS (by simp;omega);have p2:=GV (P:=P) (w:=w) (us:=(vs0++vs).toArray) (o:=o) hb qD qS (by simp;omega);have d1:((us0++us).toArray.toList.drop o).take k1.length=us.take k1.length:=by subst l1;simp
  have d2:((vs0++vs).toArray.toList.drop o).take k1.length=vs.take k1.length:=by subst l2;simp
  rw[d1]at p1;rw[d2]at p2;have e1:=H f.type k1 b (xs.take k1.length) (ys.take k1.length) _ _ w yE hb sx.1 sy.1 (Ej _ _ _ rx) (Ej _ _ _ ry)
  have ih:=GW H fs (o+k1.length) k2 (xs.drop k1.length) (ys.drop k1.length) (us0++us.take k1.length) (vs0++vs.take k1.length) (us.drop k1.length) (vs.drop k1.length) w zI sx.2 sy.2
   (Ek _ _ _ rx) (Ek _ _ _ ry) (by simp;omega) (by simp;omega)
  rw[aS0,aS0,List.take_append_drop,List.take_append_drop]at ih
  have heq:Cu xs ys=(Cu (xs.take k1.length) (ys.take k1.length)&&Cu (xs.drop k1.length) (ys.drop k1.length)):=by
   have ex:=NQ (xs.take k1.length) (ys.take k1.length) (xs.drop k1.length) (ys.drop k1.length) (by simp;omega)
   rwa[List.take_append_drop,List.take_append_drop]at ex
  simp only[Op.eqFields,ne_eq,hnm,not_false_eq_true,if_true,Sem.run_bind,hof,p1,p2,Result.andThen_ok,e1];rw[heq];cases hq:Cu (xs.take k1.length) (ys.take k1.length)
  ·simp
  ·simp only[Bool.not_true,bE0,if_false,cT0];exact ih
theorem Eh : ∀(d:Nat),YW P cur M h d
 | 0=>by intro t ks b xs ys us vs w hf;simp[flat]at hf
 | d+1=>by
  intro t ks b xs ys us vs w hf hb hx hy rx ry;obtain⟨b',qL,h1,h2,h3⟩:=Jk hf;rw[hb]at qL;simp only[aA0]at qL;subst qL
  cases b with
  | false =>
   have hl:=h1 rfl
   match ks,hl with
   | [c],_ =>
    match xs,ys,hx,hy with
    | [x],[y],hx,hy =>
     simp only[Bp,dT0]at hx hy;simp only[Aw]at rx ry;obtain⟨u,_,rfl,rx,rfl⟩:=rx;obtain⟨v,_,rfl,ry,rfl⟩:=ry;simp only[valOf,bE0,if_false,List.headD_cons];rw[Oe hf (h3 rfl) hx hy rx ry];simp[Cu]
    | [],_,hx,_=>simp[Bp]at hx
    | _::_::_,_,hx,_=>simp[Bp]at hx
    | [_],[],_,hy=>simp[Bp]at hy
    | [_],_::_::_,_,hy=>simp[Bp]at hy
  | true =>
   have qR:=h2 rfl
   obtain⟨fs,hu⟩:∃fs,P.underlying t=some (.struct fs):=by
    unfold Db at qR
    split at qR
    ·exact⟨_,by assumption⟩
    ·simp at qR
   simp only[flat,hu]at hf
   split at hf
   ·simp at hf
   rename_i hsi;have hfo:P.fieldsOf t=fs:=by simp[Program.fieldsOf,hu]
   simp only[valOf,if_true];rw[run_equalIn_struct w d t _ _ (by rw[hfo];exact hu) (by simpa using hsi),hfo];exact GW (Eh d) fs.toList 0 ks xs ys [] [] us vs w hf hx hy rx ry rfl rfl
theorem tR {xs ys:List DVal} {s:Nat} (hx:s<xs.length) (hy:s<ys.length):Cu (xs.drop s) (ys.drop s)=(US xs[s] ys[s]&&Cu (xs.drop (s+1)) (ys.drop (s+1))):=by
 rw[aU0 hx,aU0 hy];rfl
theorem Ij {n:Nat} (w:World) (xs ys:List DVal) (hx:xs.length=n) (hy:ys.length=n) (F:Nat->Option Bool×Unit->Sem (ForInStep (Option Bool×Unit)))
  (hF:∀i (hi:i<n),(F i (none,())).run P w= .ok (if US (xs[i]'(by omega)) (ys[i]'(by omega))then .yield (none,())else .done (some false,())) w) :
  ∀m s,s+m=n->(forIn (List.range' s m) (none,()) F:Sem _).run P w= .ok (if Cu (xs.drop s) (ys.drop s)then (none,())else (some false,())) w
 | 0,s,hs=>by
  rw[dK0 (by omega),dK0 (by omega)];simp[Cu]
 | m+1,s,hs=>by
  have ih:=Ij w xs ys hx hy F hF m (s+1) (by omega);rw[tR (by omega) (by omega),List.range'_succ,List.forIn_cons,Sem.run_bind,hF s (by omega)];cases US (xs[s]'(by omega)) (ys[s]'(by omega))
  ·simp
  ·simp only[if_true,Result.andThen_ok,cT0];exact ih
theorem Og {d t e n:Nat} {b:Bool} {c:CK} (w:World) (hu:P.underlying t=some (.array n e)) (hb:tAgg P e=some b) (qD:tCells P e=some 1) (xs ys:List DVal) (us vs:List Value)
  (H:∀(xs ys:List DVal) (us vs:List Value) (w:World),Bp [c] xs=true->Bp [c] ys=true->Aw cur M h xs us->Aw cur M h ys vs->(Op.equalIn d e (valOf b us) (valOf b vs)).run P w= .ok (Cu xs ys) w)
  (hx:Bp (List.replicate n c) xs=true) (hy:Bp (List.replicate n c) ys=true) (rx:Aw cur M h xs us) (ry:Aw cur M h ys vs) :
  (Op.equalIn (d+1) t (.agg us.toArray) (.agg vs.toArray)).run P w= .ok (Cu xs ys) w:=by
 have lx:=Ca _ _ hx;have ly:=Ca _ _ hy;simp only[dO0]at lx ly;have lu:=Aq _ _ rx;have lv:=Aq _ _ ry
 have ck1:∀(n:Nat) (xs:List DVal),Bp (List.replicate n c) xs=true->∀i (hi:i<xs.length),Nj c xs[i]=true:=by
  intro n
  induction n with
  | zero=>intro xs hx i hi;have:=Ca _ _ hx;simp only[List.replicate_zero,List.length_nil]at this;omega
  | succ n ih =>
   intro xs hx i hi
   cases xs with
   | nil=>simp at hi
   | cons x xs =>
    simp only[List.replicate_succ,Bp,aM0]at hx
    cases i with
    | zero=>exact hx.1
    | succ i=>exact ih xs hx.2 i (by simpa using hi)
 have step:∀i,i<n->(Op.equalIn d e (valOf b ((us.drop i).take 1)) (valOf b ((vs.drop i).take 1))).run P w= .ok (Cu ((xs.drop i).take 1) ((ys.drop i).take 1)) w:=by
  intro i hi;have g1:i<xs.length:=by omega
  have g2:i<ys.length:=by omega
  have c1:=ck1 n xs hx i g1;have c2:=ck1 n ys hy i g2;refine H _ _ _ _ w ?_ ?_ (Ej _ _ _ (Ek _ _ _ rx)) (Ej _ _ _ (Ek _ _ _ ry))
  ·rw[aU0 g1];simp only[cJ0,dU0,Bp,c1,dT0]
  ·rw[aU0 g2];simp only[cJ0,dU0,Bp,c2,dT0]
 have part1:∀(us:List Value) i,i<us.length->(part e us.toArray i).run P w= .ok (valOf b ((us.drop i).take 1)) w:=fun us i hi=>by
  have:=GV (P:=P) (w:=w) (us:=us.toArray) (o:=i) hb qD (fun _=>rfl) (by simp;omega);simpa using this
 have two:∀i (hi:i<n),Cu ((xs.drop i).take 1) ((ys.drop i).take 1)=US (xs[i]'(by omega)) (ys[i]'(by omega)):=by
  intro i hi;rw[aU0 (show i<xs.length by omega),aU0 (show i<ys.length by omega)];simp only[cJ0,dU0,Cu,dT0]
 simp only[Op.equalIn,Sem.run_bind,run_underlying hu,Result.andThen_ok,BE qD,Std.Legacy.Range.forIn_eq_forIn_range',Nat.mul_one];have hn:([:n]:Std.Legacy.Range).size=n:=by simp[Std.Legacy.Range.size]
 rw[hn];rw[Ij w xs ys lx ly _ (fun i hi=> ?_) n 0 (by omega)]
 ·simp only[List.drop_zero,Result.andThen_ok];cases Cu xs ys<;>simp
 ·simp only[Sem.run_bind,part1 us i (by omega),part1 vs i (by omega),Result.andThen_ok,step i hi,two i hi];cases US (xs[i]'(by omega)) (ys[i]'(by omega))<;>simp
theorem Od {t:TypeId} {ks:List CK} {xs ys:List DVal} {us vs:List Value} (w:World) (hf:flatA P t=some ks) (dM:tAgg P t=some true) (hx:Bp ks xs=true) (hy:Bp ks ys=true) (rx:Aw cur M h xs us) (ry:Aw cur M h ys vs) :
  (Op.equalIn 10000 t (.agg us.toArray) (.agg vs.toArray)).run P w= .ok (Cu xs ys) w:=by
 unfold flatA at hf
 split at hf
 ·rename_i n e hu
  split at hf
  ·rename_i c hc
   split at hf
   ·rename_i qD;simp only[aA0]at hf;subst hf;obtain⟨b,hb,_⟩:=Jk hc;exact Og w hu hb qD xs ys us vs (fun xs ys us vs w h1 h2 r1 r2=>Eh 9999 e [c] b xs ys us vs w hc hb h1 h2 r1 r2) hx hy rx ry
   ·simp at hf
  ·simp at hf
 ·have e:=Eh (P:=P) 10000 t ks true xs ys us vs w hf dM hx hy rx ry;simpa only[valOf,if_true]using e
theorem KE (t:TypeId) (a b:Option Addr):binOp .eql t (.pointer a) (.pointer b)=(do pure (.bool (<-Op.equal t (.pointer a) (.pointer b)))):=rfl
theorem KD (t:TypeId) (a b:Option Addr):binOp .neq t (.pointer a) (.pointer b)=(do pure (.bool (!(<-Op.equal t (.pointer a) (.pointer b))))):=rfl
theorem pV {t:TypeId} (hb:tPtr P t=true):∃e,P.underlying t=some (.pointer e):=by
 unfold tPtr at hb
 split at hb
 ·exact⟨_,by assumption⟩
 ·simp at hb
theorem Ka {t:TypeId} (hb:tPtr P t=true) (a:Option Addr) (d:Nat):(Op.equalIn (d+1) t (.pointer a) (.pointer none)).run P w= .ok a.isNone w:=by
 obtain⟨e,ht⟩:=pV hb;cases a<;>simp[Op.equalIn,run_underlying ht]
theorem Gr {t:TypeId} (hb:tPtr P t=true) (a:Option Addr):(Op.equal t (.pointer a) (.pointer none)).run P w= .ok a.isNone w :=
 Ka hb a 9999
theorem NP (op:BinOp) (t:TypeId) (x y:Operand) (a b:Option Addr):(eqGuard op t x y (.pointer a) (.pointer b)).run P w= .ok () w:=by
 cases op<;>rfl
theorem UW {op:BinOp} {t:TypeId} {xo yo:Operand} {d:DVal} (a:Option Addr) (n cap:Nat) (hb:tSl P t=true) (hd:(match op with | .eql=>some (DVal.bool a.isNone) | .neq=>some (.bool (!a.isNone)) | _=>none)=some d) :
  ∃r,(do eqGuard op t xo yo (.slice a n cap) (.slice none 0 0);binOp op t (.slice a n cap) (.slice none 0 0):Sem Value).run P w= .ok r w/\rd cur M h d r:=by
 obtain⟨e,ht⟩:∃e,P.underlying t=some (.slice e):=by
  unfold tSl at hb
  split at hb
  ·exact⟨_,by assumption⟩
  ·simp at hb
 have he:(Op.equal t (.slice a n cap) (.slice none 0 0)).run P w= .ok a.isNone w:=by
  have gen:∀d:Nat,(Op.equalIn (d+1) t (.slice a n cap) (.slice none 0 0)).run P w= .ok a.isNone w:=by
   intro d;cases a<;>simp[Op.equalIn,run_underlying ht]
  exact gen 9999
 cases op<;>simp only[aA0,reduceCtorEq]at hd<;>subst hd
 ·have:binOp .eql t (.slice a n cap) (.slice none 0 0)=(do pure (.bool (<-Op.equal t (.slice a n cap) (.slice none 0 0)))):=rfl;rw[this];have g:(eqGuard .eql t xo yo (.slice a n cap) (.slice none 0 0)).run P w= .ok () w:=rfl;simp only[Sem.run_bind,g,Result.andThen_ok,he,Sem.run_pure];exact⟨_,rfl,by simp[rd]⟩
 ·have:binOp .neq t (.slice a n cap) (.slice none 0 0)=(do pure (.bool (!(<-Op.equal t (.slice a n cap) (.slice none 0 0))))):=rfl;rw[this];have g:(eqGuard .neq t xo yo (.slice a n cap) (.slice none 0 0)).run P w= .ok () w:=rfl;simp only[Sem.run_bind,g,Result.andThen_ok,he,Sem.run_pure];exact⟨_,rfl,by simp[rd]⟩
theorem lW {op:BinOp} {t:TypeId} {xo yo:Operand} {d:DVal} (a:Option Nat) (hb:tMp P t=true) (hd:(match op with | .eql=>some (DVal.bool a.isNone) | .neq=>some (.bool (!a.isNone)) | _=>none)=some d) :
  ∃r,(do eqGuard op t xo yo (.map a) (.map none);binOp op t (.map a) (.map none):Sem Value).run P w= .ok r w/\rd cur M h d r:=by
 obtain⟨_,e,ht⟩:∃k e,P.underlying t=some (.map k e):=by
  unfold tMp at hb
  split at hb
  ·exact⟨_,_,by assumption⟩
  ·simp at hb
 have he:(Op.equal t (.map a) (.map none)).run P w= .ok a.isNone w:=by
  have gen:∀d:Nat,(Op.equalIn (d+1) t (.map a) (.map none)).run P w= .ok a.isNone w:=by
   intro d;cases a<;>simp[Op.equalIn,run_underlying ht]
  exact gen 9999
 cases op<;>simp only[aA0,reduceCtorEq]at hd<;>subst hd
 ·have:binOp .eql t (.map a) (.map none)=(do pure (.bool (<-Op.equal t (.map a) (.map none)))):=rfl;rw[this];have g:(eqGuard .eql t xo yo (.map a) (.map none)).run P w= .ok () w:=rfl;simp only[Sem.run_bind,g,Result.andThen_ok,he,Sem.run_pure];exact⟨_,rfl,by simp[rd]⟩
 ·have:binOp .neq t (.map a) (.map none)=(do pure (.bool (!(<-Op.equal t (.map a) (.map none))))):=rfl;rw[this];have g:(eqGuard .neq t xo yo (.map a) (.map none)).run P w= .ok () w:=rfl;simp only[Sem.run_bind,g,Result.andThen_ok,he,Sem.run_pure];exact⟨_,rfl,by simp[rd]⟩
theorem Ma (a b:ByteArray):(a.data==b.data)=(a==b):=by
 obtain⟨x⟩:=a;obtain⟨y⟩:=b;rfl
theorem Br_ (k:IntKind) (a:Int) (n:Nat) (ha:Kx k a):Kx k (a.fdiv (2 ^ n)):=by
 have hp:(1:Int)<=2 ^ n:=by have:(0:Int)<2 ^ n:=Int.pow_pos (by decide);omega
 rw[Int.fdiv_eq_ediv_of_nonneg _ (by omega)];have h1:0<=a->0<=a/2 ^ n/\a/2 ^ n<=a:=fun h=>⟨Int.ediv_nonneg h (by omega),Int.ediv_le_self _ h⟩
 have h2:a<0->a/2 ^ n<0/\a<=a/2 ^ n:=fun h=>⟨Int.ediv_neg_of_neg_of_pos h (by omega),(Int.le_ediv_iff_mul_le (by omega)).2 (by
  have:=Int.mul_le_mul_of_nonpos_left (a:=a) (by omega) hp
  omega)⟩
 cases k<;>simp only[Kx]at ha |- <;>(rcases Int.lt_or_le a 0 with h | h<;>first | (have:=h1 h;omega) | (have:=h2 h;omega) | omega)
theorem xK (k:IntKind) (a b:Int) (ha:Kx k a):Kx k (a.tmod b):=by
 have h1:0<=a->0<=a.tmod b/\a.tmod b<=a:=fun h=>⟨Int.tmod_nonneg b h,by
  by_cases hb:b=0
  ·subst hb;simp
  ·have:=Int.natAbs_tmod a b;have h5:(a.natAbs%b.natAbs)<=a.natAbs:=Nat.mod_le _ _;have h6:=Int.tmod_nonneg b h
   omega⟩
 have h2:a<0->a.tmod b<=0/\a<=a.tmod b:=fun h=>by
  have e:a.tmod b= -((-a).tmod b):=by rw[Int.neg_tmod];omega
  have h3:=Int.tmod_nonneg b (show 0<= -a by omega);have h4:=Int.natAbs_tmod (-a) b;have h5:((-a).natAbs%b.natAbs)<=(-a).natAbs:=Nat.mod_le _ _;omega
 cases k<;>simp only[Kx]at ha |- <;>(rcases Int.lt_or_le a 0 with h | h<;>first | (have:=h1 h;omega) | (have:=h2 h;omega) | omega)
theorem BD_ {op:BinOp} {t:TypeId} {xo yo:Operand} {k k':IntKind} {a b:Int} {d:DVal} (ha:Kx k a) (hd:Gl P op t (.int k a) (.int k' b)=some d) :
  ∃r,(do eqGuard op t xo yo (.int k a) (.int k' b);binOp op t (.int k a) (.int k' b):Sem Value).run P w= .ok r w/\rd cur M h d r:=by
 cases op<;>simp only[Gl,ne_eq,ite_not]at hd<;>split at hd<;>(try split at hd)<;>(try (simp at hd;done))<;>simp only[aA0,reduceCtorEq]at hd<;>subst hd<;>rename_i hk
 case shl=>simp[eqGuard,binOp,Op.shift,hk,rd,Ix,FC_]
 case shr=>simp[eqGuard,binOp,Op.shift,hk,rd,Br_ _ _ _ ha,FB_]
 case quo=>rename_i yE;subst yE;simp[eqGuard,binOp,Op.intDiv,hk,rd,Ix]
 case rem=>rename_i yE;subst yE;simp[eqGuard,binOp,Op.intDiv,hk,rd,xK _ _ _ ha]
 all_goals (subst hk;simp[eqGuard,binOp,Op.intArith,Op.intCmp,Op.intBits,rd,Ix,FD_,iOr,FA_,lO])
theorem BC_ {op:BinOp} {t:TypeId} {xo yo:Operand} {a b:ByteArray} {d:DVal} (hd:Gl P op t (.str a) (.str b)=some d) :
  ∃r,(do eqGuard op t xo yo (.string a) (.string b);binOp op t (.string a) (.string b):Sem Value).run P w= .ok r w/\rd cur M h d r:=by
 simp only[Gl]at hd;cases op<;>simp at hd
 case add =>
  obtain⟨h1,rfl⟩:=hd;have h2:(a.size:Int)+(b.size:Int)<=9223372036854775807:=by unfold maxLen at h1;omega
  simp[eqGuard,binOp,Op.stringOp,rd,h2,h1]
 all_goals (subst hd;simp[eqGuard,binOp,Op.stringOp,rd,ByteArray.toList_eq,Ma, -beq_iff_eq])
theorem Do_ {op:BinOp} {t:TypeId} {xo yo:Operand} {x y d:DVal} {u v:Value} (hd:Gl P op t x y=some d) (rx:rd cur M h x u) (ry:rd cur M h y v) :
  ∃r,(do eqGuard op t xo yo u v;binOp op t u v:Sem Value).run P w= .ok r w/\rd cur M h d r:=by
 cases x<;>cases y<;>(try (simp[Gl]at hd;done))
 case bool.bool a b =>
  simp only[rd]at rx ry;subst rx;subst ry;simp only[Gl]at hd
  split at hd
  ·rename_i hb
   have ht:P.underlying t=some .bool:=by
    unfold tBool at hb
    split at hb
    ·assumption
    ·simp at hb
   cases op<;>simp at hd<;>subst hd <;>
    simp[eqGuard,binOp,Op.equal,Op.maxDepth,run_equalIn_bool' w _ t _ _ ht,rd]
  ·simp at hd
 case int.int k a k' b =>
  simp only[rd]at rx ry;obtain⟨rfl,rx⟩:=rx;obtain⟨rfl,ry⟩:=ry;exact BD_ rx hd
 case str.str a b =>
  simp only[rd]at rx ry;obtain⟨rfl,rx⟩:=rx;obtain⟨rfl,ry⟩:=ry;exact BC_ hd
 case nilp.nilp =>
  simp only[rd]at rx ry;subst rx;subst ry;simp only[Gl]at hd
  split at hd
  ·rename_i hb;have he:=Gr (P:=P) (w:=w) hb none
   cases op<;>simp only[aA0,reduceCtorEq]at hd<;>subst hd <;>
    simp only[Sem.run_bind,NP,Result.andThen_ok,KE,KD,he,Sem.run_pure]<;>exact⟨_,rfl,by simp[rd]⟩
  ·simp at hd
 case nilsl.nilsl =>
  simp only[rd]at rx ry;subst rx;subst ry;simp only[Gl]at hd
  split at hd
  ·rename_i hb;exact UW none 0 0 hb (by simpa using hd)
  ·simp at hd
 case esl.nilsl =>
  simp only[rd]at rx ry;subst ry;obtain⟨ad,cap,rfl,_⟩:=rx;simp only[Gl]at hd
  split at hd
  ·rename_i hb;exact UW (some ad) 0 cap hb (by simpa using hd)
  ·simp at hd
 case sl.nilsl k bs es =>
  cases es with
  | nil=>simp[Gl]at hd
  | cons e0 es =>
   simp only[rd]at rx ry;subst ry;obtain⟨a,cap,rfl,_,_,_,h5⟩:=rx;simp only[Gl]at hd
   split at hd
   ·rename_i hb
    rcases h5 with h5 | ⟨b,off,arr,ty,fz,rfl,_⟩
    ·simp at h5
    ·exact UW _ _ cap hb (by simpa using hd)
   ·simp at hd
 case nilmp.nilmp =>
  simp only[rd]at rx ry;subst rx;subst ry;simp only[Gl]at hd
  split at hd
  ·rename_i hb;exact lW none hb (by simpa using hd)
  ·simp at hd
 case mp.nilmp ks vs =>
  simp only[rd]at rx ry;subst ry;obtain⟨b,es,clk,rfl,_⟩:=rx;simp only[Gl]at hd
  split at hd
  ·rename_i hb;exact lW (some b) hb (by simpa using hd)
  ·simp at hd
 case ref.nilp =>
  simp only[rd]at rx ry;subst ry;obtain⟨b,off,arr,ty,fz,rfl,_,_,_⟩:=rx;simp only[Gl]at hd
  split at hd
  ·rename_i hb;have he:=Gr (P:=P) (w:=w) hb (some ⟨b,off,none⟩)
   cases op<;>simp only[aA0,reduceCtorEq]at hd<;>subst hd <;>
    simp only[Sem.run_bind,NP,Result.andThen_ok,KE,KD,he,Sem.run_pure]<;>exact⟨_,rfl,by simp[rd]⟩
  ·simp at hd
 case agg.agg xs ys =>
  simp only[rd]at rx ry;obtain⟨us,rfl,rx⟩:=rx;obtain⟨vs,rfl,ry⟩:=ry;simp only[Gl]at hd
  split at hd
  ·simp at hd
  rename_i yV
  split at hd
  ·simp at hd
  rename_i dM;simp only[ne_eq,Decidable.not_not]at dM
  split at hd
  ·rename_i ks wR
   split at hd
   ·rename_i hxy;simp only[aM0]at hxy;have e:=Od (P:=P) w wR dM hxy.1 hxy.2 rx ry;simp only[Array.toArray_toList]at e;have g:(eqGuard op t xo yo (.agg us) (.agg vs)).run P w= .ok () w:=run_eqGuard_agg w op t xo yo us vs (by simpa using yV)
    cases op<;>simp only[aA0,reduceCtorEq]at hd<;>subst hd <;>
     simp only[Sem.run_bind,g,Result.andThen_ok,run_eql_struct,run_neq_struct,e]<;>exact⟨_,rfl,by simp[rd]⟩
   ·simp at hd
  ·simp at hd
end
section
variable (P : Program)
def tMap (t:TypeId):Option (TypeId×TypeId):=match P.underlying t with | some (.map k e)=>some (k,e) | _=>none
def Qr : DVal->Bool
 | .agg _=>true
 | _=>false
def BX : DVal->List DVal
 | .agg cs=>cs
 | d=>[d]
def Ck (kt:TypeId) (d:DVal):Bool:=match flat P 10000 kt,tAgg P kt with
 | some cks,some b=>Bp cks (BX d)&&(b==Qr d)
 | _,_=>false
def tZeroD (t:TypeId):Option DVal:=match P.info? t with
 | some i=>i.zero.map ofV
 | none=>none
end
def AU : List DVal->DVal->Option Nat
 | [],_=>none
 | k::ks,x=>if Cu (BX x) (BX k)then some 0 else (AU ks x).map (· +1)
section
variable {P : Program} {cur : EF} {M : List Nat} {h : Array Obj}
theorem Gc {d:DVal} {v:Value} {b:Bool} (hb:b=Qr d) (hr:rd cur M h d v):∃us,Aw cur M h (BX d) us/\v=valOf b us:=by
 cases d<;>simp only[Qr]at hb<;>subst hb<;>simp only[BX]
 case agg cs =>
  simp only[rd]at hr;obtain⟨us,rfl,h2⟩:=hr;exact⟨us.toList,h2,by simp[valOf]⟩
 all_goals exact⟨[v],by simp only[Aw];exact⟨v,[],rfl,hr,rfl⟩,by simp[valOf]⟩
theorem Ko {kt:TypeId} {x k:DVal} {u v:Value} {w:World} (hx:Ck P kt x=true) (hk:Ck P kt k=true) (rx:rd cur M h x u) (rk:rd cur M h k v) :
  (Op.equal kt u v).run P w= .ok (Cu (BX x) (BX k)) w:=by
 unfold Ck at hx hk
 split at hx
 ·rename_i cks b hf hb;rw[hf,hb]at hk;simp only[aM0,beq_iff_eq]at hx hk;obtain⟨us,h1,rfl⟩:=Gc hx.2 rx;obtain⟨vs,h2,rfl⟩:=Gc hk.2 rk;exact Eh (P:=P) 10000 kt cks b _ _ us vs w hf hb hx.1 hk.1 h1 h2
 ·simp at hx
theorem Lz : ∀(d:Nat) (t:TypeId) (cks:List CK) (b:Bool) (xs:List DVal) (us:List Value) (w:World) (e:Bool),flat P d t=some cks->tAgg P t=some b->Bp cks xs=true->Aw cur M h xs us ->
  (Instr.checkKey e d t (valOf b us)).run P w= .ok () w
 | 0,t,cks,b,xs,us,w,e,hf,_,_,_=>by simp[flat]at hf
 | d+1,t,cks,b,xs,us,w,e,hf,hb,hx,rx=>by
  obtain⟨b',qL,h1,h2,h3⟩:=Jk hf;rw[hb]at qL;simp only[aA0]at qL;subst qL
  cases b with
  | false =>
   have hns:=h3 rfl;rw[flat]at hf
   split at hf
   ·rename_i hu;simp[Instr.checkKey,run_underlying hu]
   ·rename_i hu;simp[Instr.checkKey,run_underlying hu]
   ·rename_i hu;simp[Instr.checkKey,run_underlying hu]
   ·rename_i fs hu;simp[Db,hu]at hns
   ·simp at hf
  | true =>
   have qR:=h2 rfl
   obtain⟨fs,hu⟩:∃fs,P.underlying t=some (.struct fs):=by
    unfold Db at qR
    split at qR
    ·exact⟨_,by assumption⟩
    ·simp at qR
   simp only[flat,hu]at hf
   split at hf
   ·simp at hf
   have zZ:∀(fl:List Field) (o:Nat) (ks:List CK) (xs:List DVal) (us0 us:List Value),QB P (flat P d) o fl=some ks->Bp ks xs=true->Aw cur M h xs us->us0.length=o ->
     (forIn fl PUnit.unit (fun(f:Field) (_:PUnit)=>(if f.name≠ "_" then (do let v <-part f.type (us0++us).toArray f.offset;Instr.checkKey e d f.type v;pure (ForInStep.yield PUnit.unit))else pure (ForInStep.yield PUnit.unit):Sem (ForInStep PUnit)))).run P w= .ok PUnit.unit w:=by
    intro fl
    induction fl with
    | nil=>intros;simp
    | cons f fl ih =>
     intro o ks xs us0 us hf hx rx l1;simp only[QB]at hf
     split at hf
     ·simp at hf
     rename_i hnm
     split at hf
     ·simp at hf
     rename_i hof;simp only[ne_eq,Decidable.not_not]at hof
     split at hf
     rotate_left
     ·simp at hf
     rename_i k1 yE
     split at hf
     rotate_left
     ·simp at hf
     rename_i qD;simp only[aY0]at hf;obtain⟨k2,zI,rfl⟩:=hf;obtain⟨b,hb,qS,_,_⟩:=Jk yE;have sx:=Gv k1 k2 xs hx;have lx:=Ca _ _ hx;have rlx:=Aq _ _ rx;simp only[aE0]at lx;have p1:=GV (P:=P) (w:=w) (us:=(us0++us).toArray) (o:=o) hb qD qS (by simp;omega);have d1:((us0++us).toArray.toList.drop o).take k1.length=us.take k1.length:=by subst l1;simp
     rw[d1]at p1;have e1:=Lz d f.type k1 b (xs.take k1.length) (us.take k1.length) w e yE hb sx.1 (Ej _ _ _ rx);have ih':=ih (o+k1.length) k2 (xs.drop k1.length) (us0++us.take k1.length) (us.drop k1.length) zI sx.2 (Ek _ _ _ rx) (by simp;omega);rw[aS0,List.take_append_drop]at ih';simp only[List.forIn_cons,ne_eq,hnm,not_false_eq_true,if_true,Sem.run_bind,hof,p1,Result.andThen_ok,e1,Sem.run_pure];exact ih'
   have:=zZ fs.toList 0 cks xs [] us hf hx rx rfl;simp only[List.nil_append]at this;simp only[valOf,if_true,Instr.checkKey,Sem.run_bind,run_underlying hu,Result.andThen_ok];rw[<-Array.forIn_toList];rw[this];rfl
theorem ET {kt:TypeId} {x:DVal} {u:Value} {w:World} {e:Bool} (hx:Ck P kt x=true) (rx:rd cur M h x u):(Instr.checkKey e 10000 kt u).run P w= .ok () w:=by
 unfold Ck at hx
 split at hx
 ·rename_i cks b hf hb;simp only[aM0,beq_iff_eq]at hx;obtain⟨us,h1,rfl⟩:=Gc hx.2 rx;exact Lz 10000 kt cks b _ us w e hf hb hx.1 h1
 ·simp at hx
theorem IH {kt:TypeId} {x:DVal} {u:Value} {w:World} (hx:Ck P kt x=true) (rx:rd cur M h x u):∀(es:List MapEntry) (ks:List DVal) (i:Nat),ks.all (Ck P kt)=true->Aw cur M h ks (es.map (·.key)) ->
  (Instr.findAsking kt u es i).run P w= .ok ((AU ks x).map fun j=>(i+j,(es[j]?.map (·.val)).getD Go.undef)) w
 | [],ks,i,_,hr=>by
  have:=Aq _ _ hr;have:ks=[]:=bM0 (by simpa using this.symm);subst this;simp[Instr.findAsking,AU]
 | e::es,ks,i,hk,hr=>by
  cases ks with
  | nil=>have:=Aq _ _ hr;simp at this
  | cons k ks =>
   simp only[List.map_cons,Aw]at hr;obtain⟨v,r,heq,h1,h2⟩:=hr;simp only[bF0]at heq;obtain⟨rfl,rfl⟩:=heq;simp only[cP0,aM0]at hk;have he:=Ko (w:=w) hx hk.1 rx h1;simp only[Instr.findAsking,Sem.run_bind,he,Result.andThen_ok,AU]
   cases hq:Cu (BX x) (BX k)with
   | true=>simp
   | false =>
    simp only[bE0,if_false];rw[IH hx rx es ks (i+1) hk.2 h2]
    cases AU ks x with
    | none=>simp
    | some j=>simp;omega
theorem Gq {kt:TypeId} {x:DVal} {u:Value} {w:World} (hx:Ck P kt x=true) (rx:rd cur M h x u) (es:List MapEntry) (ks:List DVal) (hk:ks.all (Ck P kt)=true) (hr:Aw cur M h ks (es.map (·.key))) :
  (Instr.findKey kt u es).run P w= .ok ((AU ks x).map fun j=>(j,(es[j]?.map (·.val)).getD Go.undef)) w:=by
 have hask:=IH (w:=w) hx rx es ks 0 hk hr;simp only[bN0]at hask
 obtain⟨d,hd⟩:∃d,P.underlying kt=some d:=by
  unfold Ck at hx
  split at hx
  ·rename_i cks b hf hb;unfold tAgg at hb
   split at hb<;>first | exact⟨_,by assumption⟩ | simp at hb
  ·simp at hx
 simp only[Instr.findKey,Sem.run_bind,run_underlying hd,Result.andThen_ok]
 -- where the types decide at once, they decide alike
 have now:∀(es:List MapEntry) (ks:List DVal) (i:Nat) (r:Option (Nat×Value)),ks.all (Ck P kt)=true->Aw cur M h ks (es.map (·.key))->Instr.findNow d u es i=some r->r=(AU ks x).map fun j=>(i+j,(es[j]?.map (·.val)).getD Go.undef):=by
  intro es
  induction es with
  | nil =>
   intro ks i r _ hr hn;have:=Aq _ _ hr;have:ks=[]:=bM0 (by simpa using this.symm);subst this;simp only[Instr.findNow,aA0]at hn;subst hn;simp[AU]
  | cons e es ih =>
   intro ks i r hk hr hn
   cases ks with
   | nil=>have:=Aq _ _ hr;simp at this
   | cons k ks =>
    simp only[List.map_cons,Aw]at hr;obtain⟨v,r',heq,h1,h2⟩:=hr;simp only[bF0]at heq;obtain⟨rfl,rfl⟩:=heq;simp only[cP0,aM0]at hk;have he:=Ko (w:=⟨#[],fun _ _=>0,0,default, #[]⟩) hx hk.1 rx h1
    have hsn:∀b,Instr.sameNow d u e.key=some b->b=Cu (BX x) (BX k):=by
     intro b hb;have e0:Op.equal kt u e.key=Op.equalIn (9999+1) kt u e.key:=rfl;rw[e0]at he;unfold Instr.sameNow at hb
     split at hb
     ·rename_i k1 a k2 b2 heq
      split at hb
      ·rename_i qN;subst qN;simp only[aA0]at hb;subst hb;rw[heq]at he;have gen:∀n w k,(Op.equalIn (n+1) kt (.int k a) (.int k b2)).run P w= .ok (a==b2) w:=by intro n w k;simp[Op.equalIn,run_underlying hd]
       rw[gen]at he;simp only[Result.ok.injEq,and_true]at he;exact he
      ·simp at hb
     ·rename_i a b2 heq;simp only[aA0]at hb;subst hb;rw[heq]at he;have gen:∀n w,(Op.equalIn (n+1) kt (.string a) (.string b2)).run P w= .ok (a==b2) w:=by intro n w;simp[Op.equalIn,run_underlying hd]
      rw[gen]at he;simp only[Result.ok.injEq,and_true]at he;exact he
     ·rename_i a b2 heq;simp only[aA0]at hb;subst hb;rw[heq]at he;have gen:∀n w,(Op.equalIn (n+1) kt (.bool a) (.bool b2)).run P w= .ok (a==b2) w:=by intro n w;simp[Op.equalIn,run_underlying hd]
      rw[gen]at he;simp only[Result.ok.injEq,and_true]at he;exact he
     ·simp at hb
    simp only[Instr.findNow]at hn
    split at hn
    ·rename_i hs;simp only[aA0]at hn;subst hn;simp[AU,<-hsn true hs]
    ·rename_i hs;have:=ih ks (i+1) r hk.2 h2 hn;rw[this];simp only[AU,<-hsn false hs,bE0,if_false]
     cases AU ks x with
     | none=>simp
     | some j=>simp;omega
    ·simp at hn
 cases hn:Instr.findNow d u es 0 with
 | some r =>
  have:=now es ks 0 r hk hr hn;simp only[bN0]at this;simp[this]
 | none=>exact hask
theorem WR : ∀{ks:List DVal} {x:DVal} {j:Nat},AU ks x=some j->j<ks.length
 | [],x,j,h=>by simp[AU]at h
 | k::ks,x,j,h=>by
  simp only[AU]at h
  split at h
  ·simp only[aA0]at h;subst h;simp
  ·rw[aY0]at h;obtain⟨i,h1,rfl⟩:=h;have:=WR h1;simp;omega
theorem pT {t:TypeId} {z:DVal} (hz:tZeroD P t=some z) {w:World}:∃v,(zeroValue t).run P w= .ok v w/\rd cur M h z v:=by
 unfold tZeroD at hz
 split at hz
 ·rename_i i hi;rw[aY0]at hz;obtain⟨v,hv,rfl⟩:=hz;exact⟨v,by simp[zeroValue,typeInfo,hi,hv],Ad_ v⟩
 ·simp at hz
end
end Go.Dm
end
