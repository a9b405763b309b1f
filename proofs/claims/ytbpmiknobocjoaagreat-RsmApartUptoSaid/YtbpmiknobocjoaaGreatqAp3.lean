/- Parts of a proof, laid together: EnD. -/
import Derived.Laws.StructEq
import Derived.Test.YtbpmiknobocjoaaGreatqAp2
set_option linter.unusedSimpArgs false
set_option maxHeartbeats 8000000
set_option linter.unusedVariables false
set_option linter.unusedSectionVars false
section
namespace Go.Dm
variable [DMode]
section
variable (P : Program)
def GB_ (t:TypeId):Option IntKind:=match P.underlying t with | some (.int k)=>some k | _=>none
def tStr (t:TypeId):Bool:=match P.underlying t with | some .string=>true | _=>false
def tBool (t:TypeId):Bool:=match P.underlying t with | some .bool=>true | _=>false
def tSl (t:TypeId):Bool:=match P.underlying t with | some (.slice _)=>true | _=>false
def tMp (t:TypeId):Bool:=match P.underlying t with | some (.map _ _)=>true | _=>false
def tPtr (t:TypeId):Bool:=match P.underlying t with | some (.pointer _)=>true | _=>false
def tZero (t:TypeId):Option (List DVal):=match P.info? t with
 | some i=>i.zero.map fun v=>v.cells.toList.map Cb
 | none=>none
def Dl (t:TypeId):Option (Array Field):=match P.underlying t with | some (.struct fs)=>some fs | _=>none
end
inductive CK where
 | b
 | i (k:IntKind)
 | s
section
variable (P : Program)
def RK (g:TypeId->Option (List CK)):Nat->List Field->Option (List CK)
 | _,[]=>some []
 | o,f::fs=>if f.name= "_" then none else if f.offset≠o then none else
  match g f.type with
  | some ks=>if tCells P f.type=some ks.length then (RK g (o+ks.length) fs).map (ks++ ·)else none
  | none=>none
def Ad : Nat->TypeId->Option (List CK)
 | 0,_=>none
 | d+1,t=>match P.underlying t with
  | some .bool=>some [.b]
  | some (.int k)=>some [.i k]
  | some .string=>some [.s]
  | some (.struct fs)=>if P.stoodInHeld t then none else RK P (Ad d) 0 fs.toList
  | _=>none
def flatA (t:TypeId):Option (List CK):=match P.underlying t with
 | some (.array n e)=>(match Ad P 9999 e with
  | some [c]=>if tCells P e=some 1 then some (List.replicate n c)else none
  | _=>none)
 | _=>Ad P 10000 t
end
def Nm : CK->DVal->Bool
 | .b,.bool _=>true
 | .i k,.int k' _=>k==k'
 | .s,.str _=>true
 | _,_=>false
def Bt : List CK->List DVal->Bool
 | [],[]=>true
 | k::ks,d::ds=>Nm k d&&Bt ks ds
 | _,_=>false
def Wg : DVal->DVal->Bool
 | .bool a,.bool b=>a==b
 | .int _ a,.int _ b=>a==b
 | .str a,.str b=>a==b
 | _,_=>false
def CA : List DVal->List DVal->Bool
 | [],[]=>true
 | x::xs,y::ys=>Wg x y&&CA xs ys
 | _,_=>false
def Ii_ (k:IntKind) (a b:Int):Int:=k.wrap (BitVec.ofInt k.bits a &&& BitVec.ofInt k.bits b).toNat
def iOr (k:IntKind) (a b:Int):Int:=k.wrap (BitVec.ofInt k.bits a ||| BitVec.ofInt k.bits b).toNat
def If_ (k:IntKind) (a b:Int):Int:=k.wrap (BitVec.ofInt k.bits a ^^^ BitVec.ofInt k.bits b).toNat
def sK (k:IntKind) (a b:Int):Int:=k.wrap (BitVec.ofInt k.bits a &&& ~~~(BitVec.ofInt k.bits b)).toNat
def Ih_ (k:IntKind) (a b:Int):Int:=k.wrap (a*2 ^ (min b.toNat k.bits))
def Ig_ (k:IntKind) (a b:Int):Int:=a.fdiv (2 ^ (min b.toNat k.bits))
def FH (P:Program) (op:BinOp) (t:TypeId):DVal->DVal->Option DVal
 | .int k a,.int k' b=>match op with
  | .shl=>if b<0 then none else some (.int k (Ih_ k a b))
  | .shr=>if b<0 then none else some (.int k (Ig_ k a b))
  | _=>if k≠k' then none else match op with
   | .add=>some (.int k (k.wrap (a+b)))
   | .sub=>some (.int k (k.wrap (a-b)))
   | .mul=>some (.int k (k.wrap (a*b)))
   | .quo=>if b=0 then none else some (.int k (k.wrap (a.tdiv b)))
   | .rem=>if b=0 then none else some (.int k (a.tmod b))
   | .and=>some (.int k (Ii_ k a b))
   | .or=>some (.int k (iOr k a b))
   | .xor=>some (.int k (If_ k a b))
   | .andNot=>some (.int k (sK k a b))
   | .eql=>some (.bool (a==b))
   | .neq=>some (.bool (a != b))
   | .lss=>some (.bool (decide (a<b)))
   | .leq=>some (.bool (decide (a<=b)))
   | .gtr=>some (.bool (decide (b<a)))
   | .geq=>some (.bool (decide (b<=a)))
   | _=>none
 | .str a,.str b=>match op with
  | .add=>if a.size+b.size<=maxLen then some (.str (a++b))else none
  | .eql=>some (.bool (a==b))
  | .neq=>some (.bool (!(a==b)))
  | .lss=>some (.bool (Op.bytesLess a.data.toList b.data.toList))
  | .leq=>some (.bool (Op.bytesLess a.data.toList b.data.toList||a==b))
  | .gtr=>some (.bool (!(Op.bytesLess a.data.toList b.data.toList||a==b)))
  | .geq=>some (.bool (!Op.bytesLess a.data.toList b.data.toList))
  | _=>none
 | .bool a,.bool b=>if tBool P t then (match op with
  | .eql=>some (.bool (a==b))
  | .neq=>some (.bool (!(a==b)))
  | _=>none)else none
 | .agg xs,.agg ys=>if P.eqGuardType P.depth t then none else if tAgg P t≠some true then none else match flatA P t with
  | some ks=>if Bt ks xs&&Bt ks ys then (match op with
   | .eql=>some (.bool (CA xs ys))
   | .neq=>some (.bool (!CA xs ys))
   | _=>none)else none
  | none=>none
 | .nilp,.nilp=>if tPtr P t then (match op with | .eql=>some (.bool true) | .neq=>some (.bool false) | _=>none)else none
 | .nilsl,.nilsl=>if tSl P t then (match op with | .eql=>some (.bool true) | .neq=>some (.bool false) | _=>none)else none
 | .esl,.nilsl=>if tSl P t then (match op with | .eql=>some (.bool false) | .neq=>some (.bool true) | _=>none)else none
 | .sl _ _ (_::_),.nilsl=>if tSl P t then (match op with | .eql=>some (.bool false) | .neq=>some (.bool true) | _=>none)else none
 | .ref _,.nilp=>if tPtr P t then (match op with | .eql=>some (.bool false) | .neq=>some (.bool true) | _=>none)else none
 | .mp _ _,.nilmp=>if tMp P t then (match op with | .eql=>some (.bool false) | .neq=>some (.bool true) | _=>none)else none
 | .nilmp,.nilmp=>if tMp P t then (match op with | .eql=>some (.bool true) | .neq=>some (.bool false) | _=>none)else none
 | _,_=>none
theorem JF (k:IntKind) (n:Int):KV k (k.wrap n):=by
 cases k<;>simp only[IntKind.wrap,IntKind.bits,IntKind.signed,KV]<;>simp<;>(try split)<;>omega
section
variable {P : Program} {cur : ES} {M : List Nat} {h : Array Obj} {w : World}
theorem Jd_ (a b:ByteArray):(a.toList==b.toList)=(a==b):=(beq_toListBytes a b).symm
theorem Pn {d:Nat} {t:TypeId} {c:CK} {x y:DVal} {u v:Value} (hf:Ad P (d+1) t=some [c]) (hns:Dl P t=none) (hx:Nm c x=true) (hy:Nm c y=true)
  (rx:rd cur M h x u) (ry:rd cur M h y v):(Op.equalIn (d+1) t u v).run P w= .ok (Wg x y) w:=by
 simp only[Ad]at hf
 split at hf<;>rename_i hu
 ·simp only[aA0,bG0,and_true]at hf;subst hf;cases x<;>simp[Nm]at hx;cases y<;>simp[Nm]at hy;simp only[rd]at rx ry;subst rx;subst ry;simpa[Wg]using run_equalIn_bool' (P:=P) w d t _ _ hu
 ·simp only[aA0,bG0,and_true]at hf;subst hf;cases x<;>simp[Nm]at hx;cases y<;>simp[Nm]at hy;simp only[rd]at rx ry;obtain⟨rfl,_⟩:=rx;obtain⟨rfl,_⟩:=ry;subst hx;subst hy;simpa[Wg]using run_equalIn_int (P:=P) w d t _ _ _ _ hu
 ·simp only[aA0,bG0,and_true]at hf;subst hf;cases x<;>simp[Nm]at hx;cases y<;>simp[Nm]at hy;simp only[rd]at rx ry;obtain⟨rfl,_⟩:=rx;obtain⟨rfl,_⟩:=ry;rw[run_equalIn_string (P:=P) w d t _ _ hu,Jd_];rfl
 ·simp[Dl,hu]at hns
 ·simp at hf
theorem Pc : ∀(a b c d:List DVal),a.length=b.length->CA (a++c) (b++d)=(CA a b&&CA c d)
 | [],[],_,_,_=>by simp[CA]
 | x::a,y::b,c,d,h=>by
  simp only[List.cons_append,CA,Pc a b c d (by simpa using h),Bool.and_assoc]
theorem BK : ∀(ks:List CK) (ds:List DVal),Bt ks ds=true->ds.length=ks.length
 | [],[],_=>rfl
 | [],_::_,h=>by simp[Bt]at h
 | _::_,[],h=>by simp[Bt]at h
 | k::ks,d::ds,h=>by
  simp only[Bt,aL0]at h;simp[BK ks ds h.2]
theorem Hs : ∀(k1 k2:List CK) (ds:List DVal),Bt (k1++k2) ds=true->Bt k1 (ds.take k1.length)=true/\Bt k2 (ds.drop k1.length)=true
 | [],k2,ds,h=>by simpa[Bt]using h
 | k::k1,k2,[],h=>by simp[Bt]at h
 | k::k1,k2,d::ds,h=>by
  simp only[List.cons_append,Bt,aL0]at h;have:=Hs k1 k2 ds h.2;simpa[Bt,h.1]using this
theorem AA : ∀(ds:List DVal) (vs:List Value),rdV cur M h ds vs->vs.length=ds.length
 | [],vs,hr=>by simp only[rdV]at hr;subst hr;rfl
 | d::ds,vs,hr=>by
  simp only[rdV]at hr;obtain⟨v,r,rfl,_,h3⟩:=hr;simp[AA ds r h3]
theorem QM : ∀(ds:List DVal) (vs:List Value) (i:Nat) (d:DVal),rdV cur M h ds vs->ds[i]? =some d->∃v,vs[i]? =some v/\rd cur M h d v
 | [],vs,i,d,_,hi=>by simp at hi
 | d::ds,vs,0,d',hr,hi=>by
  simp only[rdV]at hr;obtain⟨v,r,rfl,h2,_⟩:=hr;simp only[bA0,aA0]at hi;subst hi;exact⟨v,by simp,h2⟩
 | d::ds,vs,i+1,d',hr,hi=>by
  simp only[rdV]at hr;obtain⟨v,r,rfl,_,h3⟩:=hr;simpa using QM ds r i d' h3 (by simpa using hi)
theorem DU : ∀(n:Nat) (ds:List DVal) (vs:List Value),rdV cur M h ds vs->rdV cur M h (ds.drop n) (vs.drop n)
 | 0,ds,vs,hr=>by simpa using hr
 | n+1,[],vs,hr=>by simp only[rdV]at hr;subst hr;simp[rdV]
 | n+1,d::ds,vs,hr=>by
  simp only[rdV]at hr;obtain⟨v,r,rfl,_,h3⟩:=hr;simpa using DU n ds r h3
theorem DT : ∀(n:Nat) (ds:List DVal) (vs:List Value),rdV cur M h ds vs->rdV cur M h (ds.take n) (vs.take n)
 | 0,ds,vs,hr=>by simp[rdV]
 | n+1,[],vs,hr=>by simp only[rdV]at hr;subst hr;simp[rdV]
 | n+1,d::ds,vs,hr=>by
  simp only[rdV]at hr;obtain⟨v,r,rfl,h2,h3⟩:=hr;simp only[cI0,rdV];exact⟨v,_,rfl,h2,DT n ds r h3⟩
theorem Cf : ∀(a b:List DVal) (u v:List Value),rdV cur M h a u->rdV cur M h b v->rdV cur M h (a++b) (u++v)
 | [],b,u,v,h1,h2=>by simp only[rdV]at h1;subst h1;simpa using h2
 | d::a,b,u,v,h1,h2=>by
  simp only[rdV]at h1;obtain⟨x,r,rfl,h3,h4⟩:=h1;simp only[List.cons_append,rdV];exact⟨x,_,rfl,h3,Cf a b r v h4 h2⟩
def valOf (agg:Bool) (us:List Value):Value:=if agg then .agg us.toArray else us.headD Go.undef
theorem Gt {t:TypeId} {b:Bool} {n:Nat} {us:Array Value} {o:Nat} (hb:tAgg P t=some b) (hn:tCells P t=some n) (cJ:b=false->n=1) (hl:o+n<=us.size) :
  (part t us o).run P w= .ok (valOf b ((us.toList.drop o).take n)) w:=by
 unfold part;rw[Sem.run_bind,HX hb]
 cases b with
 | true =>
  simp only[Result.andThen_ok,if_true,Sem.run_bind,Bq hn,Sem.run_pure,valOf]
  congr 2
  apply Array.ext'
  simp[List.extract,Nat.add_sub_cancel_left]
 | false =>
  have:=cJ rfl;subst this;have ho:o<us.size:=by omega
  simp only[Result.andThen_ok,aQ0,if_false,bO0 ho,Sem.run_pure,valOf]
  congr 1
  rw[aR0 (by simpa using ho)];simp
theorem Ip {d:Nat} {t:TypeId} {ks:List CK} (hf:Ad P d t=some ks):∃b,tAgg P t=some b/\(b=false->ks.length=1)/\(b=true->Dl P t≠none)/\(b=false->Dl P t=none):=by
 cases d with
 | zero=>simp[Ad]at hf
 | succ d =>
  simp only[Ad]at hf
  split at hf<;>rename_i hu
  ·exact⟨false,by simp[tAgg,hu],fun _=>by simp only[aA0]at hf;subst hf;rfl,by simp,fun _=>by simp[Dl,hu]⟩
  ·exact⟨false,by simp[tAgg,hu],fun _=>by simp only[aA0]at hf;subst hf;rfl,by simp,fun _=>by simp[Dl,hu]⟩
  ·exact⟨false,by simp[tAgg,hu],fun _=>by simp only[aA0]at hf;subst hf;rfl,by simp,fun _=>by simp[Dl,hu]⟩
  ·exact⟨true,by simp[tAgg,hu],by simp,fun _=>by simp[Dl,hu],by simp⟩
  ·simp at hf
def aD (P:Program) (cur:ES) (M:List Nat) (h:Array Obj) (d:Nat):Prop :=
 ∀(t:TypeId) (ks:List CK) (b:Bool) (xs ys:List DVal) (us vs:List Value) (w:World),Ad P d t=some ks->tAgg P t=some b->Bt ks xs=true->Bt ks ys=true ->
  rdV cur M h xs us->rdV cur M h ys vs->(Op.equalIn d t (valOf b us) (valOf b vs)).run P w= .ok (CA xs ys) w
theorem HY {d:Nat} (H:aD P cur M h d):∀(fs:List Field) (o:Nat) (ks:List CK) (xs ys:List DVal) (us0 vs0 us vs:List Value) (w:World),RK P (Ad P d) o fs=some ks->Bt ks xs=true->Bt ks ys=true ->
  rdV cur M h xs us->rdV cur M h ys vs->us0.length=o->vs0.length=o->(Op.eqFields d (us0++us).toArray (vs0++vs).toArray fs).run P w= .ok (CA xs ys) w
 | [],o,ks,xs,ys,us0,vs0,us,vs,w,hf,hx,hy,_,_,_,_=>by
  simp only[RK,aA0]at hf;subst hf;have e1:=BK [] xs hx;have e2:=BK [] ys hy;simp only[List.length_nil,dY0]at e1 e2;subst e1;subst e2;simp[Op.eqFields,CA]
 | f::fs,o,ks,xs,ys,us0,vs0,us,vs,w,hf,hx,hy,rx,ry,l1,l2=>by
  simp only[RK]at hf
  split at hf
  ·simp at hf
  rename_i hnm
  split at hf
  ·simp at hf
  rename_i hof;simp only[ne_eq,Decidable.not_not]at hof
  split at hf
  rotate_left
  ·simp at hf
  rename_i k1 jE
  split at hf
  rotate_left
  ·simp at hf
  rename_i qI;simp only[bB0]at hf;obtain⟨k2,zT,rfl⟩:=hf;obtain⟨b,hb,qC,_,_⟩:=Ip jE;have sx:=Hs k1 k2 xs hx;have sy:=Hs k1 k2 ys hy;have lx:=BK _ _ hx;have ly:=BK _ _ hy;have rlx:=AA _ _ rx;have rly:=AA _ _ ry;simp only[aD0]at lx ly;have p1:=Gt (P:=P) (w:=w) (us:=(us0++us).toArray) (o:=o) hb qI qC (by simp;omega);have p2:=Gt (P:=P) (w:=w) (us:=(vs0++vs).toArray) (o:=o) hb qI qC (by simp;omega);have d1:((us0++us).toArray.toList.drop o).take k1.length=us.take k1.length:=by subst l1;simp
  have d2:((vs0++vs).toArray.toList.drop o).take k1.length=vs.take k1.length:=by subst l2;simp
  rw[d1]at p1;rw[d2]at p2;have e1:=H f.type k1 b (xs.take k1.length) (ys.take k1.length) _ _ w jE hb sx.1 sy.1 (DT _ _ _ rx) (DT _ _ _ ry)
  have ih:=HY H fs (o+k1.length) k2 (xs.drop k1.length) (ys.drop k1.length) (us0++us.take k1.length) (vs0++vs.take k1.length) (us.drop k1.length) (vs.drop k1.length) w zT sx.2 sy.2
   (DU _ _ _ rx) (DU _ _ _ ry) (by simp;omega) (by simp;omega)
  rw[aS0,aS0,List.take_append_drop,List.take_append_drop]at ih
  have heq:CA xs ys=(CA (xs.take k1.length) (ys.take k1.length)&&CA (xs.drop k1.length) (ys.drop k1.length)):=by
   have ex:=Pc (xs.take k1.length) (ys.take k1.length) (xs.drop k1.length) (ys.drop k1.length) (by simp;omega)
   rwa[List.take_append_drop,List.take_append_drop]at ex
  simp only[Op.eqFields,ne_eq,hnm,not_false_eq_true,if_true,Sem.run_bind,hof,p1,p2,Result.andThen_ok,e1];rw[heq];cases hq:CA (xs.take k1.length) (ys.take k1.length)
  ·simp
  ·simp only[Bool.not_true,aQ0,if_false,cA0];exact ih
theorem Ez : ∀(d:Nat),aD P cur M h d
 | 0=>by intro t ks b xs ys us vs w hf;simp[Ad]at hf
 | d+1=>by
  intro t ks b xs ys us vs w hf hb hx hy rx ry;obtain⟨b',qM,h1,h2,h3⟩:=Ip hf;rw[hb]at qM;simp only[aA0]at qM;subst qM
  cases b with
  | false =>
   have hl:=h1 rfl
   match ks,hl with
   | [c],_ =>
    match xs,ys,hx,hy with
    | [x],[y],hx,hy =>
     simp only[Bt,eB0]at hx hy;simp only[rdV]at rx ry;obtain⟨u,_,rfl,rx,rfl⟩:=rx;obtain⟨v,_,rfl,ry,rfl⟩:=ry;simp only[valOf,aQ0,if_false,List.headD_cons];rw[Pn hf (h3 rfl) hx hy rx ry];simp[CA]
    | [],_,hx,_=>simp[Bt]at hx
    | _::_::_,_,hx,_=>simp[Bt]at hx
    | [_],[],_,hy=>simp[Bt]at hy
    | [_],_::_::_,_,hy=>simp[Bt]at hy
  | true =>
   have wO:=h2 rfl
   obtain⟨fs,hu⟩:∃fs,P.underlying t=some (.struct fs):=by
    unfold Dl at wO
    split at wO
    ·exact⟨_,by assumption⟩
    ·simp at wO
   simp only[Ad,hu]at hf
   split at hf
   ·simp at hf
   rename_i hsi;have hfo:P.fieldsOf t=fs:=by simp[Program.fieldsOf,hu]
   simp only[valOf,if_true];rw[run_equalIn_struct w d t _ _ (by rw[hfo];exact hu) (by simpa using hsi),hfo];exact HY (Ez d) fs.toList 0 ks xs ys [] [] us vs w hf hx hy rx ry rfl rfl
theorem Bw_ {xs ys:List DVal} {s:Nat} (hx:s<xs.length) (hy:s<ys.length):CA (xs.drop s) (ys.drop s)=(Wg xs[s] ys[s]&&CA (xs.drop (s+1)) (ys.drop (s+1))):=by
 rw[aR0 hx,aR0 hy];rfl
theorem Jo {n:Nat} (w:World) (xs ys:List DVal) (hx:xs.length=n) (hy:ys.length=n) (F:Nat->Option Bool×Unit->Sem (ForInStep (Option Bool×Unit)))
  (hF:∀i (hi:i<n),(F i (none,())).run P w= .ok (if Wg (xs[i]'(by omega)) (ys[i]'(by omega))then .yield (none,())else .done (some false,())) w) :
  ∀m s,s+m=n->(forIn (List.range' s m) (none,()) F:Sem _).run P w= .ok (if CA (xs.drop s) (ys.drop s)then (none,())else (some false,())) w
 | 0,s,hs=>by
  rw[dA0 (by omega),dA0 (by omega)];simp[CA]
 | m+1,s,hs=>by
  have ih:=Jo w xs ys hx hy F hF m (s+1) (by omega);rw[Bw_ (by omega) (by omega),eI0,List.forIn_cons,Sem.run_bind,hF s (by omega)];cases Wg (xs[s]'(by omega)) (ys[s]'(by omega))
  ·simp
  ·simp only[if_true,Result.andThen_ok,cA0];exact ih
theorem Po {d t e n:Nat} {b:Bool} {c:CK} (w:World) (hu:P.underlying t=some (.array n e)) (hb:tAgg P e=some b) (qI:tCells P e=some 1) (xs ys:List DVal) (us vs:List Value)
  (H:∀(xs ys:List DVal) (us vs:List Value) (w:World),Bt [c] xs=true->Bt [c] ys=true->rdV cur M h xs us->rdV cur M h ys vs->(Op.equalIn d e (valOf b us) (valOf b vs)).run P w= .ok (CA xs ys) w)
  (hx:Bt (List.replicate n c) xs=true) (hy:Bt (List.replicate n c) ys=true) (rx:rdV cur M h xs us) (ry:rdV cur M h ys vs) :
  (Op.equalIn (d+1) t (.agg us.toArray) (.agg vs.toArray)).run P w= .ok (CA xs ys) w:=by
 have lx:=BK _ _ hx;have ly:=BK _ _ hy;simp only[List.length_replicate]at lx ly;have lu:=AA _ _ rx;have lv:=AA _ _ ry
 have ck1:∀(n:Nat) (xs:List DVal),Bt (List.replicate n c) xs=true->∀i (hi:i<xs.length),Nm c xs[i]=true:=by
  intro n
  induction n with
  | zero=>intro xs hx i hi;have:=BK _ _ hx;simp only[List.replicate_zero,List.length_nil]at this;omega
  | succ n ih =>
   intro xs hx i hi
   cases xs with
   | nil=>simp at hi
   | cons x xs =>
    simp only[List.replicate_succ,Bt,aL0]at hx
    cases i with
    | zero=>exact hx.1
    | succ i=>exact ih xs hx.2 i (by simpa using hi)
 have step:∀i,i<n->(Op.equalIn d e (valOf b ((us.drop i).take 1)) (valOf b ((vs.drop i).take 1))).run P w= .ok (CA ((xs.drop i).take 1) ((ys.drop i).take 1)) w:=by
  intro i hi;have g1:i<xs.length:=by omega
  have g2:i<ys.length:=by omega
  have c1:=ck1 n xs hx i g1;have c2:=ck1 n ys hy i g2;refine H _ _ _ _ w ?_ ?_ (DT _ _ _ (DU _ _ _ rx)) (DT _ _ _ (DU _ _ _ ry))
  ·rw[aR0 g1];simp only[cI0,dN0,Bt,c1,eB0]
  ·rw[aR0 g2];simp only[cI0,dN0,Bt,c2,eB0]
 have part1:∀(us:List Value) i,i<us.length->(part e us.toArray i).run P w= .ok (valOf b ((us.drop i).take 1)) w:=fun us i hi=>by
  have:=Gt (P:=P) (w:=w) (us:=us.toArray) (o:=i) hb qI (fun _=>rfl) (by simp;omega);simpa using this
 have two:∀i (hi:i<n),CA ((xs.drop i).take 1) ((ys.drop i).take 1)=Wg (xs[i]'(by omega)) (ys[i]'(by omega)):=by
  intro i hi;rw[aR0 (show i<xs.length by omega),aR0 (show i<ys.length by omega)];simp only[cI0,dN0,CA,eB0]
 simp only[Op.equalIn,Sem.run_bind,run_underlying hu,Result.andThen_ok,Bq qI,Std.Legacy.Range.forIn_eq_forIn_range',eT0];have hn:([:n]:Std.Legacy.Range).size=n:=by simp[Std.Legacy.Range.size]
 rw[hn];rw[Jo w xs ys lx ly _ (fun i hi=> ?_) n 0 (by omega)]
 ·simp only[dT0,Result.andThen_ok];cases CA xs ys<;>simp
 ·simp only[Sem.run_bind,part1 us i (by omega),part1 vs i (by omega),Result.andThen_ok,step i hi,two i hi];cases Wg (xs[i]'(by omega)) (ys[i]'(by omega))<;>simp
theorem Jp {t:TypeId} {ks:List CK} {xs ys:List DVal} {us vs:List Value} (w:World) (hf:flatA P t=some ks) (mB:tAgg P t=some true) (hx:Bt ks xs=true) (hy:Bt ks ys=true) (rx:rdV cur M h xs us) (ry:rdV cur M h ys vs) :
  (Op.equalIn 10000 t (.agg us.toArray) (.agg vs.toArray)).run P w= .ok (CA xs ys) w:=by
 unfold flatA at hf
 split at hf
 ·rename_i n e hu
  split at hf
  ·rename_i c hc
   split at hf
   ·rename_i qI;simp only[aA0]at hf;subst hf;obtain⟨b,hb,_⟩:=Ip hc;exact Po w hu hb qI xs ys us vs (fun xs ys us vs w h1 h2 r1 r2=>Ez 9999 e [c] b xs ys us vs w hc hb h1 h2 r1 r2) hx hy rx ry
   ·simp at hf
  ·simp at hf
 ·have e:=Ez (P:=P) 10000 t ks true xs ys us vs w hf mB hx hy rx ry;simpa only[valOf,if_true]using e
theorem LM (t:TypeId) (a b:Option Addr):binOp .eql t (.pointer a) (.pointer b)=(do pure (.bool (<-Op.equal t (.pointer a) (.pointer b)))):=rfl
theorem LL (t:TypeId) (a b:Option Addr):binOp .neq t (.pointer a) (.pointer b)=(do pure (.bool (!(<-Op.equal t (.pointer a) (.pointer b))))):=rfl
theorem Ac_ {t:TypeId} (hb:tPtr P t=true):∃e,P.underlying t=some (.pointer e):=by
 unfold tPtr at hb
 split at hb
 ·exact⟨_,by assumption⟩
 ·simp at hb
theorem Lo {t:TypeId} (hb:tPtr P t=true) (a:Option Addr) (d:Nat):(Op.equalIn (d+1) t (.pointer a) (.pointer none)).run P w= .ok a.isNone w:=by
 obtain⟨e,ht⟩:=Ac_ hb;cases a<;>simp[Op.equalIn,run_underlying ht]
theorem Hg {t:TypeId} (hb:tPtr P t=true) (a:Option Addr):(Op.equal t (.pointer a) (.pointer none)).run P w= .ok a.isNone w :=
 Lo hb a 9999
theorem Pb (op:BinOp) (t:TypeId) (x y:Operand) (a b:Option Addr):(eqGuard op t x y (.pointer a) (.pointer b)).run P w= .ok () w:=by
 cases op<;>rfl
theorem Wn {op:BinOp} {t:TypeId} {xo yo:Operand} {d:DVal} (a:Option Addr) (n cap:Nat) (hb:tSl P t=true) (hd:(match op with | .eql=>some (DVal.bool a.isNone) | .neq=>some (.bool (!a.isNone)) | _=>none)=some d) :
  ∃r,(do eqGuard op t xo yo (.slice a n cap) (.slice none 0 0);binOp op t (.slice a n cap) (.slice none 0 0):Sem Value).run P w= .ok r w/\rd cur M h d r:=by
 obtain⟨e,ht⟩:∃e,P.underlying t=some (.slice e):=by
  unfold tSl at hb
  split at hb
  ·exact⟨_,by assumption⟩
  ·simp at hb
 have he:(Op.equal t (.slice a n cap) (.slice none 0 0)).run P w= .ok a.isNone w:=by
  have gen:∀d:Nat,(Op.equalIn (d+1) t (.slice a n cap) (.slice none 0 0)).run P w= .ok a.isNone w:=by
   intro d;cases a<;>simp[Op.equalIn,run_underlying ht]
  exact gen 9999
 cases op<;>simp only[aA0,reduceCtorEq]at hd<;>subst hd
 ·have:binOp .eql t (.slice a n cap) (.slice none 0 0)=(do pure (.bool (<-Op.equal t (.slice a n cap) (.slice none 0 0)))):=rfl;rw[this];have g:(eqGuard .eql t xo yo (.slice a n cap) (.slice none 0 0)).run P w= .ok () w:=rfl;simp only[Sem.run_bind,g,Result.andThen_ok,he,Sem.run_pure];exact⟨_,rfl,by simp[rd]⟩
 ·have:binOp .neq t (.slice a n cap) (.slice none 0 0)=(do pure (.bool (!(<-Op.equal t (.slice a n cap) (.slice none 0 0))))):=rfl;rw[this];have g:(eqGuard .neq t xo yo (.slice a n cap) (.slice none 0 0)).run P w= .ok () w:=rfl;simp only[Sem.run_bind,g,Result.andThen_ok,he,Sem.run_pure];exact⟨_,rfl,by simp[rd]⟩
theorem sR {op:BinOp} {t:TypeId} {xo yo:Operand} {d:DVal} (a:Option Nat) (hb:tMp P t=true) (hd:(match op with | .eql=>some (DVal.bool a.isNone) | .neq=>some (.bool (!a.isNone)) | _=>none)=some d) :
  ∃r,(do eqGuard op t xo yo (.map a) (.map none);binOp op t (.map a) (.map none):Sem Value).run P w= .ok r w/\rd cur M h d r:=by
 obtain⟨_,e,ht⟩:∃k e,P.underlying t=some (.map k e):=by
  unfold tMp at hb
  split at hb
  ·exact⟨_,_,by assumption⟩
  ·simp at hb
 have he:(Op.equal t (.map a) (.map none)).run P w= .ok a.isNone w:=by
  have gen:∀d:Nat,(Op.equalIn (d+1) t (.map a) (.map none)).run P w= .ok a.isNone w:=by
   intro d;cases a<;>simp[Op.equalIn,run_underlying ht]
  exact gen 9999
 cases op<;>simp only[aA0,reduceCtorEq]at hd<;>subst hd
 ·have:binOp .eql t (.map a) (.map none)=(do pure (.bool (<-Op.equal t (.map a) (.map none)))):=rfl;rw[this];have g:(eqGuard .eql t xo yo (.map a) (.map none)).run P w= .ok () w:=rfl;simp only[Sem.run_bind,g,Result.andThen_ok,he,Sem.run_pure];exact⟨_,rfl,by simp[rd]⟩
 ·have:binOp .neq t (.map a) (.map none)=(do pure (.bool (!(<-Op.equal t (.map a) (.map none))))):=rfl;rw[this];have g:(eqGuard .neq t xo yo (.map a) (.map none)).run P w= .ok () w:=rfl;simp only[Sem.run_bind,g,Result.andThen_ok,he,Sem.run_pure];exact⟨_,rfl,by simp[rd]⟩
theorem Ni (a b:ByteArray):(a.data==b.data)=(a==b):=by
 obtain⟨x⟩:=a;obtain⟨y⟩:=b;rfl
theorem Ec_ (k:IntKind) (a:Int) (n:Nat) (ha:KV k a):KV k (a.fdiv (2 ^ n)):=by
 have hp:(1:Int)<=2 ^ n:=by have:(0:Int)<2 ^ n:=Int.pow_pos (by decide);omega
 rw[Int.fdiv_eq_ediv_of_nonneg _ (by omega)];have h1:0<=a->0<=a/2 ^ n/\a/2 ^ n<=a:=fun h=>⟨Int.ediv_nonneg h (by omega),Int.ediv_le_self _ h⟩
 have h2:a<0->a/2 ^ n<0/\a<=a/2 ^ n:=fun h=>⟨Int.ediv_neg_of_neg_of_pos h (by omega),(Int.le_ediv_iff_mul_le (by omega)).2 (by
  have:=Int.mul_le_mul_of_nonpos_left (a:=a) (by omega) hp
  omega)⟩
 cases k<;>simp only[KV]at ha |- <;>(rcases Int.lt_or_le a 0 with h | h<;>first | (have:=h1 h;omega) | (have:=h2 h;omega) | omega)
theorem Cl_ (k:IntKind) (a b:Int) (ha:KV k a):KV k (a.tmod b):=by
 have h1:0<=a->0<=a.tmod b/\a.tmod b<=a:=fun h=>⟨Int.tmod_nonneg b h,by
  by_cases hb:b=0
  ·subst hb;simp
  ·have:=Int.natAbs_tmod a b;have h5:(a.natAbs%b.natAbs)<=a.natAbs:=Nat.mod_le _ _;have h6:=Int.tmod_nonneg b h
   omega⟩
 have h2:a<0->a.tmod b<=0/\a<=a.tmod b:=fun h=>by
  have e:a.tmod b= -((-a).tmod b):=by rw[Int.neg_tmod];omega
  have h3:=Int.tmod_nonneg b (show 0<= -a by omega);have h4:=Int.natAbs_tmod (-a) b;have h5:((-a).natAbs%b.natAbs)<=(-a).natAbs:=Nat.mod_le _ _;omega
 cases k<;>simp only[KV]at ha |- <;>(rcases Int.lt_or_le a 0 with h | h<;>first | (have:=h1 h;omega) | (have:=h2 h;omega) | omega)
theorem Ek_ {op:BinOp} {t:TypeId} {xo yo:Operand} {k k':IntKind} {a b:Int} {d:DVal} (ha:KV k a) (hd:FH P op t (.int k a) (.int k' b)=some d) :
  ∃r,(do eqGuard op t xo yo (.int k a) (.int k' b);binOp op t (.int k a) (.int k' b):Sem Value).run P w= .ok r w/\rd cur M h d r:=by
 cases op<;>simp only[FH,ne_eq,ite_not]at hd<;>split at hd<;>(try split at hd)<;>(try (simp at hd;done))<;>simp only[aA0,reduceCtorEq]at hd<;>subst hd<;>rename_i hk
 case shl=>simp[eqGuard,binOp,Op.shift,hk,rd,JF,Ih_]
 case shr=>simp[eqGuard,binOp,Op.shift,hk,rd,Ec_ _ _ _ ha,Ig_]
 case quo=>rename_i jE;subst jE;simp[eqGuard,binOp,Op.intDiv,hk,rd,JF]
 case rem=>rename_i jE;subst jE;simp[eqGuard,binOp,Op.intDiv,hk,rd,Cl_ _ _ _ ha]
 all_goals (subst hk;simp[eqGuard,binOp,Op.intArith,Op.intCmp,Op.intBits,rd,JF,Ii_,iOr,If_,sK])
theorem Ej_ {op:BinOp} {t:TypeId} {xo yo:Operand} {a b:ByteArray} {d:DVal} (hd:FH P op t (.str a) (.str b)=some d) :
  ∃r,(do eqGuard op t xo yo (.string a) (.string b);binOp op t (.string a) (.string b):Sem Value).run P w= .ok r w/\rd cur M h d r:=by
 simp only[FH]at hd;cases op<;>simp at hd
 case add =>
  obtain⟨h1,rfl⟩:=hd;have h2:(a.size:Int)+(b.size:Int)<=9223372036854775807:=by unfold maxLen at h1;omega
  simp[eqGuard,binOp,Op.stringOp,rd,h2,h1]
 all_goals (subst hd;simp[eqGuard,binOp,Op.stringOp,rd,ByteArray.toList_eq,Ni, -beq_iff_eq])
theorem FY_ {op:BinOp} {t:TypeId} {xo yo:Operand} {x y d:DVal} {u v:Value} (hd:FH P op t x y=some d) (rx:rd cur M h x u) (ry:rd cur M h y v) :
  ∃r,(do eqGuard op t xo yo u v;binOp op t u v:Sem Value).run P w= .ok r w/\rd cur M h d r:=by
 cases x<;>cases y<;>(try (simp[FH]at hd;done))
 case bool.bool a b =>
  simp only[rd]at rx ry;subst rx;subst ry;simp only[FH]at hd
  split at hd
  ·rename_i hb
   have ht:P.underlying t=some .bool:=by
    unfold tBool at hb
    split at hb
    ·assumption
    ·simp at hb
   cases op<;>simp at hd<;>subst hd <;>
    simp[eqGuard,binOp,Op.equal,Op.maxDepth,run_equalIn_bool' w _ t _ _ ht,rd]
  ·simp at hd
 case int.int k a k' b =>
  simp only[rd]at rx ry;obtain⟨rfl,rx⟩:=rx;obtain⟨rfl,ry⟩:=ry;exact Ek_ rx hd
 case str.str a b =>
  simp only[rd]at rx ry;obtain⟨rfl,rx⟩:=rx;obtain⟨rfl,ry⟩:=ry;exact Ej_ hd
 case nilp.nilp =>
  simp only[rd]at rx ry;subst rx;subst ry;simp only[FH]at hd
  split at hd
  ·rename_i hb;have he:=Hg (P:=P) (w:=w) hb none
   cases op<;>simp only[aA0,reduceCtorEq]at hd<;>subst hd <;>
    simp only[Sem.run_bind,Pb,Result.andThen_ok,LM,LL,he,Sem.run_pure]<;>exact⟨_,rfl,by simp[rd]⟩
  ·simp at hd
 case nilsl.nilsl =>
  simp only[rd]at rx ry;subst rx;subst ry;simp only[FH]at hd
  split at hd
  ·rename_i hb;exact Wn none 0 0 hb (by simpa using hd)
  ·simp at hd
 case esl.nilsl =>
  simp only[rd]at rx ry;subst ry;obtain⟨ad,cap,rfl,_⟩:=rx;simp only[FH]at hd
  split at hd
  ·rename_i hb;exact Wn (some ad) 0 cap hb (by simpa using hd)
  ·simp at hd
 case sl.nilsl k bs es =>
  cases es with
  | nil=>simp[FH]at hd
  | cons e0 es =>
   simp only[rd]at rx ry;subst ry;obtain⟨a,cap,rfl,_,_,_,h5⟩:=rx;simp only[FH]at hd
   split at hd
   ·rename_i hb
    rcases h5 with h5 | ⟨b,off,arr,ty,fz,rfl,_⟩
    ·simp at h5
    ·exact Wn _ _ cap hb (by simpa using hd)
   ·simp at hd
 case nilmp.nilmp =>
  simp only[rd]at rx ry;subst rx;subst ry;simp only[FH]at hd
  split at hd
  ·rename_i hb;exact sR none hb (by simpa using hd)
  ·simp at hd
 case mp.nilmp ks vs =>
  simp only[rd]at rx ry;subst ry;obtain⟨b,es,clk,rfl,_⟩:=rx;simp only[FH]at hd
  split at hd
  ·rename_i hb;exact sR (some b) hb (by simpa using hd)
  ·simp at hd
 case ref.nilp =>
  simp only[rd]at rx ry;subst ry;obtain⟨b,off,arr,ty,fz,rfl,_,_,_⟩:=rx;simp only[FH]at hd
  split at hd
  ·rename_i hb;have he:=Hg (P:=P) (w:=w) hb (some ⟨b,off,none⟩)
   cases op<;>simp only[aA0,reduceCtorEq]at hd<;>subst hd <;>
    simp only[Sem.run_bind,Pb,Result.andThen_ok,LM,LL,he,Sem.run_pure]<;>exact⟨_,rfl,by simp[rd]⟩
  ·simp at hd
 case agg.agg xs ys =>
  simp only[rd]at rx ry;obtain⟨us,rfl,rx⟩:=rx;obtain⟨vs,rfl,ry⟩:=ry;simp only[FH]at hd
  split at hd
  ·simp at hd
  rename_i yC
  split at hd
  ·simp at hd
  rename_i mB;simp only[ne_eq,Decidable.not_not]at mB
  split at hd
  ·rename_i ks zE
   split at hd
   ·rename_i mI;simp only[aL0]at mI;have e:=Jp (P:=P) w zE mB mI.1 mI.2 rx ry;simp only[Array.toArray_toList]at e;have g:(eqGuard op t xo yo (.agg us) (.agg vs)).run P w= .ok () w:=run_eqGuard_agg w op t xo yo us vs (by simpa using yC)
    cases op<;>simp only[aA0,reduceCtorEq]at hd<;>subst hd <;>
     simp only[Sem.run_bind,g,Result.andThen_ok,run_eql_struct,run_neq_struct,e]<;>exact⟨_,rfl,by simp[rd]⟩
   ·simp at hd
  ·simp at hd
end
end Go.Dm
end
