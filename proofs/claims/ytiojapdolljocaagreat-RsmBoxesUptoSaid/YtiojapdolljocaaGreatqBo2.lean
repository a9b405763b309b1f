/- Parts of a proof, laid together: EnD, EnD1. -/
import Derived.Laws.StructEq
import Derived.Test.YtiojapdolljocaaGreatqBo1
set_option linter.unusedSimpArgs false
set_option maxHeartbeats 8000000
set_option linter.unusedVariables false
set_option linter.unusedSectionVars false
section
namespace Go.Dm
variable [DMode]
section
variable (P : Program)
def tInt (t:TypeId):Option IntKind:=match P.underlying t with | some (.int k)=>some k | _=>none
def tStr (t:TypeId):Bool:=match P.underlying t with | some .string=>true | _=>false
def tBool (t:TypeId):Bool:=match P.underlying t with | some .bool=>true | _=>false
def tSl (t:TypeId):Bool:=match P.underlying t with | some (.slice _)=>true | _=>false
def tMp (t:TypeId):Bool:=match P.underlying t with | some (.map _ _)=>true | _=>false
def tPtr (t:TypeId):Bool:=match P.underlying t with | some (.pointer _)=>true | _=>false
def tZero (t:TypeId):Option (List DVal):=match P.info? t with
 | some i=>i.zero.map fun v=>v.cells.toList.map BQ
 | none=>none
def CW (t:TypeId):Option (Array Field):=match P.underlying t with | some (.struct fs)=>some fs | _=>none
end
inductive CK where
 | b
 | i (k:IntKind)
 | s
section
variable (P : Program)
def PY (g:TypeId->Option (List CK)):Nat->List Field->Option (List CK)
 | _,[]=>some []
 | o,f::fs=>if f.name= "_" then none else if f.offset≠o then none else
  match g f.type with
  | some ks=>if tCells P f.type=some ks.length then (PY g (o+ks.length) fs).map (ks++ ·)else none
  | none=>none
def flat : Nat->TypeId->Option (List CK)
 | 0,_=>none
 | d+1,t=>match P.underlying t with
  | some .bool=>some [.b]
  | some (.int k)=>some [.i k]
  | some .string=>some [.s]
  | some (.struct fs)=>if P.stoodInHeld t then none else PY P (flat d) 0 fs.toList
  | _=>none
def flatA (t:TypeId):Option (List CK):=match P.underlying t with
 | some (.array n e)=>(match flat P 9999 e with
  | some [c]=>if tCells P e=some 1 then some (List.replicate n c)else none
  | _=>none)
 | _=>flat P 10000 t
end
def MQ : CK->DVal->Bool
 | .b,.bool _=>true
 | .i k,.int k' _=>k==k'
 | .s,.str _=>true
 | _,_=>false
def Bj : List CK->List DVal->Bool
 | [],[]=>true
 | k::ks,d::ds=>MQ k d&&Bj ks ds
 | _,_=>false
def SE : DVal->DVal->Bool
 | .bool a,.bool b=>a==b
 | .int _ a,.int _ b=>a==b
 | .str a,.str b=>a==b
 | _,_=>false
def BY : List DVal->List DVal->Bool
 | [],[]=>true
 | x::xs,y::ys=>SE x y&&BY xs ys
 | _,_=>false
def IM (k:IntKind) (a b:Int):Int:=k.wrap (BitVec.ofInt k.bits a &&& BitVec.ofInt k.bits b).toNat
def iOr (k:IntKind) (a b:Int):Int:=k.wrap (BitVec.ofInt k.bits a ||| BitVec.ofInt k.bits b).toNat
def Fv_ (k:IntKind) (a b:Int):Int:=k.wrap (BitVec.ofInt k.bits a ^^^ BitVec.ofInt k.bits b).toNat
def Lv (k:IntKind) (a b:Int):Int:=k.wrap (BitVec.ofInt k.bits a &&& ~~~(BitVec.ofInt k.bits b)).toNat
def sH (k:IntKind) (a b:Int):Int:=k.wrap (a*2 ^ (min b.toNat k.bits))
def Ig (k:IntKind) (a b:Int):Int:=a.fdiv (2 ^ (min b.toNat k.bits))
def Gb (P:Program) (op:BinOp) (t:TypeId):DVal->DVal->Option DVal
 | .int k a,.int k' b=>match op with
  | .shl=>if b<0 then none else some (.int k (sH k a b))
  | .shr=>if b<0 then none else some (.int k (Ig k a b))
  | _=>if k≠k' then none else match op with
   | .add=>some (.int k (k.wrap (a+b)))
   | .sub=>some (.int k (k.wrap (a-b)))
   | .mul=>some (.int k (k.wrap (a*b)))
   | .quo=>if b=0 then none else some (.int k (k.wrap (a.tdiv b)))
   | .rem=>if b=0 then none else some (.int k (a.tmod b))
   | .and=>some (.int k (IM k a b))
   | .or=>some (.int k (iOr k a b))
   | .xor=>some (.int k (Fv_ k a b))
   | .andNot=>some (.int k (Lv k a b))
   | .eql=>some (.bool (a==b))
   | .neq=>some (.bool (a != b))
   | .lss=>some (.bool (decide (a<b)))
   | .leq=>some (.bool (decide (a<=b)))
   | .gtr=>some (.bool (decide (b<a)))
   | .geq=>some (.bool (decide (b<=a)))
   | _=>none
 | .str a,.str b=>match op with
  | .add=>if a.size+b.size<=maxLen then some (.str (a++b))else none
  | .eql=>some (.bool (a==b))
  | .neq=>some (.bool (!(a==b)))
  | .lss=>some (.bool (Op.bytesLess a.data.toList b.data.toList))
  | .leq=>some (.bool (Op.bytesLess a.data.toList b.data.toList||a==b))
  | .gtr=>some (.bool (!(Op.bytesLess a.data.toList b.data.toList||a==b)))
  | .geq=>some (.bool (!Op.bytesLess a.data.toList b.data.toList))
  | _=>none
 | .bool a,.bool b=>if tBool P t then (match op with
  | .eql=>some (.bool (a==b))
  | .neq=>some (.bool (!(a==b)))
  | _=>none)else none
 | .agg xs,.agg ys=>if P.eqGuardType P.depth t then none else if tAgg P t≠some true then none else match flatA P t with
  | some ks=>if Bj ks xs&&Bj ks ys then (match op with
   | .eql=>some (.bool (BY xs ys))
   | .neq=>some (.bool (!BY xs ys))
   | _=>none)else none
  | none=>none
 | .nilp,.nilp=>if tPtr P t then (match op with | .eql=>some (.bool true) | .neq=>some (.bool false) | _=>none)else none
 | .nilsl,.nilsl=>if tSl P t then (match op with | .eql=>some (.bool true) | .neq=>some (.bool false) | _=>none)else none
 | .esl,.nilsl=>if tSl P t then (match op with | .eql=>some (.bool false) | .neq=>some (.bool true) | _=>none)else none
 | .sl _ _ (_::_),.nilsl=>if tSl P t then (match op with | .eql=>some (.bool false) | .neq=>some (.bool true) | _=>none)else none
 | .ref _,.nilp=>if tPtr P t then (match op with | .eql=>some (.bool false) | .neq=>some (.bool true) | _=>none)else none
 | .mp _ _,.nilmp=>if tMp P t then (match op with | .eql=>some (.bool false) | .neq=>some (.bool true) | _=>none)else none
 | .nilmp,.nilmp=>if tMp P t then (match op with | .eql=>some (.bool true) | .neq=>some (.bool false) | _=>none)else none
 | _,_=>none
theorem Il (k:IntKind) (n:Int):Kx k (k.wrap n):=by
 cases k<;>simp only[IntKind.wrap,IntKind.bits,IntKind.signed,Kx]<;>simp<;>(try split)<;>omega
section
variable {P : Program} {cur : Er} {M : List Nat} {h : Array Obj} {w : World}
theorem Gz_ (a b:ByteArray):(a.toList==b.toList)=(a==b):=(beq_toListBytes a b).symm
theorem NG {d:Nat} {t:TypeId} {c:CK} {x y:DVal} {u v:Value} (hf:flat P (d+1) t=some [c]) (hns:CW P t=none) (hx:MQ c x=true) (hy:MQ c y=true)
  (rx:rd cur M h x u) (ry:rd cur M h y v):(Op.equalIn (d+1) t u v).run P w= .ok (SE x y) w:=by
 simp only[flat]at hf
 split at hf<;>rename_i hu
 ·simp only[aA0,bG0,and_true]at hf;subst hf;cases x<;>simp[MQ]at hx;cases y<;>simp[MQ]at hy;simp only[rd]at rx ry;subst rx;subst ry;simpa[SE]using run_equalIn_bool' (P:=P) w d t _ _ hu
 ·simp only[aA0,bG0,and_true]at hf;subst hf;cases x<;>simp[MQ]at hx;cases y<;>simp[MQ]at hy;simp only[rd]at rx ry;obtain⟨rfl,_⟩:=rx;obtain⟨rfl,_⟩:=ry;subst hx;subst hy;simpa[SE]using run_equalIn_int (P:=P) w d t _ _ _ _ hu
 ·simp only[aA0,bG0,and_true]at hf;subst hf;cases x<;>simp[MQ]at hx;cases y<;>simp[MQ]at hy;simp only[rd]at rx ry;obtain⟨rfl,_⟩:=rx;obtain⟨rfl,_⟩:=ry;rw[run_equalIn_string (P:=P) w d t _ _ hu,Gz_];rfl
 ·simp[CW,hu]at hns
 ·simp at hf
theorem Ns : ∀(a b c d:List DVal),a.length=b.length->BY (a++c) (b++d)=(BY a b&&BY c d)
 | [],[],_,_,_=>by simp[BY]
 | x::a,y::b,c,d,h=>by
  simp only[List.cons_append,BY,Ns a b c d (by simpa using h),Bool.and_assoc]
theorem BR : ∀(ks:List CK) (ds:List DVal),Bj ks ds=true->ds.length=ks.length
 | [],[],_=>rfl
 | [],_::_,h=>by simp[Bj]at h
 | _::_,[],h=>by simp[Bj]at h
 | k::ks,d::ds,h=>by
  simp only[Bj,aN0]at h;simp[BR ks ds h.2]
theorem Gm : ∀(k1 k2:List CK) (ds:List DVal),Bj (k1++k2) ds=true->Bj k1 (ds.take k1.length)=true/\Bj k2 (ds.drop k1.length)=true
 | [],k2,ds,h=>by simpa[Bj]using h
 | k::k1,k2,[],h=>by simp[Bj]at h
 | k::k1,k2,d::ds,h=>by
  simp only[List.cons_append,Bj,aN0]at h;have:=Gm k1 k2 ds h.2;simpa[Bj,h.1]using this
theorem Ap : ∀(ds:List DVal) (vs:List Value),Au cur M h ds vs->vs.length=ds.length
 | [],vs,hr=>by simp only[Au]at hr;subst hr;rfl
 | d::ds,vs,hr=>by
  simp only[Au]at hr;obtain⟨v,r,rfl,_,h3⟩:=hr;simp[Ap ds r h3]
theorem Mu : ∀(ds:List DVal) (vs:List Value) (i:Nat) (d:DVal),Au cur M h ds vs->ds[i]? =some d->∃v,vs[i]? =some v/\rd cur M h d v
 | [],vs,i,d,_,hi=>by simp at hi
 | d::ds,vs,0,d',hr,hi=>by
  simp only[Au]at hr;obtain⟨v,r,rfl,h2,_⟩:=hr;simp only[aZ0,aA0]at hi;subst hi;exact⟨v,by simp,h2⟩
 | d::ds,vs,i+1,d',hr,hi=>by
  simp only[Au]at hr;obtain⟨v,r,rfl,_,h3⟩:=hr;simpa using Mu ds r i d' h3 (by simpa using hi)
theorem DY : ∀(n:Nat) (ds:List DVal) (vs:List Value),Au cur M h ds vs->Au cur M h (ds.drop n) (vs.drop n)
 | 0,ds,vs,hr=>by simpa using hr
 | n+1,[],vs,hr=>by simp only[Au]at hr;subst hr;simp[Au]
 | n+1,d::ds,vs,hr=>by
  simp only[Au]at hr;obtain⟨v,r,rfl,_,h3⟩:=hr;simpa using DY n ds r h3
theorem DX : ∀(n:Nat) (ds:List DVal) (vs:List Value),Au cur M h ds vs->Au cur M h (ds.take n) (vs.take n)
 | 0,ds,vs,hr=>by simp[Au]
 | n+1,[],vs,hr=>by simp only[Au]at hr;subst hr;simp[Au]
 | n+1,d::ds,vs,hr=>by
  simp only[Au]at hr;obtain⟨v,r,rfl,h2,h3⟩:=hr;simp only[cF0,Au];exact⟨v,_,rfl,h2,DX n ds r h3⟩
theorem BW : ∀(a b:List DVal) (u v:List Value),Au cur M h a u->Au cur M h b v->Au cur M h (a++b) (u++v)
 | [],b,u,v,h1,h2=>by simp only[Au]at h1;subst h1;simpa using h2
 | d::a,b,u,v,h1,h2=>by
  simp only[Au]at h1;obtain⟨x,r,rfl,h3,h4⟩:=h1;simp only[List.cons_append,Au];exact⟨x,_,rfl,h3,BW a b r v h4 h2⟩
def valOf (agg:Bool) (us:List Value):Value:=if agg then .agg us.toArray else us.headD Go.undef
theorem GO {t:TypeId} {b:Bool} {n:Nat} {us:Array Value} {o:Nat} (hb:tAgg P t=some b) (hn:tCells P t=some n) (gR:b=false->n=1) (hl:o+n<=us.size) :
  (part t us o).run P w= .ok (valOf b ((us.toList.drop o).take n)) w:=by
 unfold part;rw[Sem.run_bind,Jk hb]
 cases b with
 | true =>
  simp only[Result.andThen_ok,if_true,Sem.run_bind,BE hn,Sem.run_pure,valOf]
  congr 2
  apply Array.ext'
  simp[List.extract,Nat.add_sub_cancel_left]
 | false =>
  have:=gR rfl;subst this;have ho:o<us.size:=by omega
  simp only[Result.andThen_ok,bH0,if_false,cA0 ho,Sem.run_pure,valOf]
  congr 1
  rw[aW0 (by simpa using ho)];simp
theorem IU {d:Nat} {t:TypeId} {ks:List CK} (hf:flat P d t=some ks):∃b,tAgg P t=some b/\(b=false->ks.length=1)/\(b=true->CW P t≠none)/\(b=false->CW P t=none):=by
 cases d with
 | zero=>simp[flat]at hf
 | succ d =>
  simp only[flat]at hf
  split at hf<;>rename_i hu
  ·exact⟨false,by simp[tAgg,hu],fun _=>by simp only[aA0]at hf;subst hf;rfl,by simp,fun _=>by simp[CW,hu]⟩
  ·exact⟨false,by simp[tAgg,hu],fun _=>by simp only[aA0]at hf;subst hf;rfl,by simp,fun _=>by simp[CW,hu]⟩
  ·exact⟨false,by simp[tAgg,hu],fun _=>by simp only[aA0]at hf;subst hf;rfl,by simp,fun _=>by simp[CW,hu]⟩
  ·exact⟨true,by simp[tAgg,hu],by simp,fun _=>by simp[CW,hu],by simp⟩
  ·simp at hf
def Yq (P:Program) (cur:Er) (M:List Nat) (h:Array Obj) (d:Nat):Prop :=
 ∀(t:TypeId) (ks:List CK) (b:Bool) (xs ys:List DVal) (us vs:List Value) (w:World),flat P d t=some ks->tAgg P t=some b->Bj ks xs=true->Bj ks ys=true ->
  Au cur M h xs us->Au cur M h ys vs->(Op.equalIn d t (valOf b us) (valOf b vs)).run P w= .ok (BY xs ys) w
theorem GP {d:Nat} (H:Yq P cur M h d):∀(fs:List Field) (o:Nat) (ks:List CK) (xs ys:List DVal) (us0 vs0 us vs:List Value) (w:World),PY P (flat P d) o fs=some ks->Bj ks xs=true->Bj ks ys=true ->
  Au cur M h xs us->Au cur M h ys vs->us0.length=o->vs0.length=o->(Op.eqFields d (us0++us).toArray (vs0++vs).toArray fs).run P w= .ok (BY xs ys) w
 | [],o,ks,xs,ys,us0,vs0,us,vs,w,hf,hx,hy,_,_,_,_=>by
  simp only[PY,aA0]at hf;subst hf;have e1:=BR [] xs hx;have e2:=BR [] ys hy;simp only[List.length_nil,cS0]at e1 e2;subst e1;subst e2;simp[Op.eqFields,BY]
 | f::fs,o,ks,xs,ys,us0,vs0,us,vs,w,hf,hx,hy,rx,ry,l1,l2=>by
  simp only[PY]at hf
  split at hf
  ·simp at hf
  rename_i hnm
  split at hf
  ·simp at hf
  rename_i hof;simp only[ne_eq,Decidable.not_not]at hof
  split at hf
  rotate_left
  ·simp at hf
  rename_i k1 kM
  split at hf
  rotate_left
  ·simp at hf
  rename_i qF;simp only[bA0]at hf;obtain⟨k2,zD,rfl⟩:=hf;obtain⟨b,hb,qR,_,_⟩:=IU kM;have sx:=Gm k1 k2 xs hx;have sy:=Gm k1 k2 ys hy;have lx:=BR _ _ hx;have ly:=BR _ _ hy;have rlx:=Ap _ _ rx;have rly:=Ap _ _ ry;simp only[aB0]at lx ly;have p1:=GO (P:=P) (w:=w) (us:=(us0++us).toArray) (o:=o) hb qF qR (by simp;omega);have p2:=GO (P:=P) (w:=w) (us:=(vs0++vs).toArray) (o:=o) hb qF qR (by simp;omega);have d1:((us0++us).toArray.toList.drop o).take k1.length=us.take k1.length:=by subst l1;simp
  have d2:((vs0++vs).toArray.toList.drop o).take k1.length=vs.take k1.length:=by subst l2;simp
  rw[d1]at p1;rw[d2]at p2;have e1:=H f.type k1 b (xs.take k1.length) (ys.take k1.length) _ _ w kM hb sx.1 sy.1 (DX _ _ _ rx) (DX _ _ _ ry)
  have ih:=GP H fs (o+k1.length) k2 (xs.drop k1.length) (ys.drop k1.length) (us0++us.take k1.length) (vs0++vs.take k1.length) (us.drop k1.length) (vs.drop k1.length) w zD sx.2 sy.2
   (DY _ _ _ rx) (DY _ _ _ ry) (by simp;omega) (by simp;omega)
  rw[aT0,aT0,List.take_append_drop,List.take_append_drop]at ih
  have heq:BY xs ys=(BY (xs.take k1.length) (ys.take k1.length)&&BY (xs.drop k1.length) (ys.drop k1.length)):=by
   have ex:=Ns (xs.take k1.length) (ys.take k1.length) (xs.drop k1.length) (ys.drop k1.length) (by simp;omega)
   rwa[List.take_append_drop,List.take_append_drop]at ex
  simp only[Op.eqFields,ne_eq,hnm,not_false_eq_true,if_true,Sem.run_bind,hof,p1,p2,Result.andThen_ok,e1];rw[heq];cases hq:BY (xs.take k1.length) (ys.take k1.length)
  ·simp
  ·simp only[Bool.not_true,bH0,if_false,dO0];exact ih
theorem DV : ∀(d:Nat),Yq P cur M h d
 | 0=>by intro t ks b xs ys us vs w hf;simp[flat]at hf
 | d+1=>by
  intro t ks b xs ys us vs w hf hb hx hy rx ry;obtain⟨b',qG,h1,h2,h3⟩:=IU hf;rw[hb]at qG;simp only[aA0]at qG;subst qG
  cases b with
  | false =>
   have hl:=h1 rfl
   match ks,hl with
   | [c],_ =>
    match xs,ys,hx,hy with
    | [x],[y],hx,hy =>
     simp only[Bj,eD0]at hx hy;simp only[Au]at rx ry;obtain⟨u,_,rfl,rx,rfl⟩:=rx;obtain⟨v,_,rfl,ry,rfl⟩:=ry;simp only[valOf,bH0,if_false,List.headD_cons];rw[NG hf (h3 rfl) hx hy rx ry];simp[BY]
    | [],_,hx,_=>simp[Bj]at hx
    | _::_::_,_,hx,_=>simp[Bj]at hx
    | [_],[],_,hy=>simp[Bj]at hy
    | [_],_::_::_,_,hy=>simp[Bj]at hy
  | true =>
   have qK:=h2 rfl
   obtain⟨fs,hu⟩:∃fs,P.underlying t=some (.struct fs):=by
    unfold CW at qK
    split at qK
    ·exact⟨_,by assumption⟩
    ·simp at qK
   simp only[flat,hu]at hf
   split at hf
   ·simp at hf
   rename_i hsi;have hfo:P.fieldsOf t=fs:=by simp[Program.fieldsOf,hu]
   simp only[valOf,if_true];rw[run_equalIn_struct w d t _ _ (by rw[hfo];exact hu) (by simpa using hsi),hfo];exact GP (DV d) fs.toList 0 ks xs ys [] [] us vs w hf hx hy rx ry rfl rfl
theorem sT {xs ys:List DVal} {s:Nat} (hx:s<xs.length) (hy:s<ys.length):BY (xs.drop s) (ys.drop s)=(SE xs[s] ys[s]&&BY (xs.drop (s+1)) (ys.drop (s+1))):=by
 rw[aW0 hx,aW0 hy];rfl
theorem HT {n:Nat} (w:World) (xs ys:List DVal) (hx:xs.length=n) (hy:ys.length=n) (F:Nat->Option Bool×Unit->Sem (ForInStep (Option Bool×Unit)))
  (hF:∀i (hi:i<n),(F i (none,())).run P w= .ok (if SE (xs[i]'(by omega)) (ys[i]'(by omega))then .yield (none,())else .done (some false,())) w) :
  ∀m s,s+m=n->(forIn (List.range' s m) (none,()) F:Sem _).run P w= .ok (if BY (xs.drop s) (ys.drop s)then (none,())else (some false,())) w
 | 0,s,hs=>by
  rw[cU0 (by omega),cU0 (by omega)];simp[BY]
 | m+1,s,hs=>by
  have ih:=HT w xs ys hx hy F hF m (s+1) (by omega);rw[sT (by omega) (by omega),List.range'_succ,List.forIn_cons,Sem.run_bind,hF s (by omega)];cases SE (xs[s]'(by omega)) (ys[s]'(by omega))
  ·simp
  ·simp only[if_true,Result.andThen_ok,dO0];exact ih
theorem NH {d t e n:Nat} {b:Bool} {c:CK} (w:World) (hu:P.underlying t=some (.array n e)) (hb:tAgg P e=some b) (qF:tCells P e=some 1) (xs ys:List DVal) (us vs:List Value)
  (H:∀(xs ys:List DVal) (us vs:List Value) (w:World),Bj [c] xs=true->Bj [c] ys=true->Au cur M h xs us->Au cur M h ys vs->(Op.equalIn d e (valOf b us) (valOf b vs)).run P w= .ok (BY xs ys) w)
  (hx:Bj (List.replicate n c) xs=true) (hy:Bj (List.replicate n c) ys=true) (rx:Au cur M h xs us) (ry:Au cur M h ys vs) :
  (Op.equalIn (d+1) t (.agg us.toArray) (.agg vs.toArray)).run P w= .ok (BY xs ys) w:=by
 have lx:=BR _ _ hx;have ly:=BR _ _ hy;simp only[cY0]at lx ly;have lu:=Ap _ _ rx;have lv:=Ap _ _ ry
 have ck1:∀(n:Nat) (xs:List DVal),Bj (List.replicate n c) xs=true->∀i (hi:i<xs.length),MQ c xs[i]=true:=by
  intro n
  induction n with
  | zero=>intro xs hx i hi;have:=BR _ _ hx;simp only[List.replicate_zero,List.length_nil]at this;omega
  | succ n ih =>
   intro xs hx i hi
   cases xs with
   | nil=>simp at hi
   | cons x xs =>
    simp only[List.replicate_succ,Bj,aN0]at hx
    cases i with
    | zero=>exact hx.1
    | succ i=>exact ih xs hx.2 i (by simpa using hi)
 have step:∀i,i<n->(Op.equalIn d e (valOf b ((us.drop i).take 1)) (valOf b ((vs.drop i).take 1))).run P w= .ok (BY ((xs.drop i).take 1) ((ys.drop i).take 1)) w:=by
  intro i hi;have g1:i<xs.length:=by omega
  have g2:i<ys.length:=by omega
  have c1:=ck1 n xs hx i g1;have c2:=ck1 n ys hy i g2;refine H _ _ _ _ w ?_ ?_ (DX _ _ _ (DY _ _ _ rx)) (DX _ _ _ (DY _ _ _ ry))
  ·rw[aW0 g1];simp only[cF0,dY0,Bj,c1,eD0]
  ·rw[aW0 g2];simp only[cF0,dY0,Bj,c2,eD0]
 have part1:∀(us:List Value) i,i<us.length->(part e us.toArray i).run P w= .ok (valOf b ((us.drop i).take 1)) w:=fun us i hi=>by
  have:=GO (P:=P) (w:=w) (us:=us.toArray) (o:=i) hb qF (fun _=>rfl) (by simp;omega);simpa using this
 have two:∀i (hi:i<n),BY ((xs.drop i).take 1) ((ys.drop i).take 1)=SE (xs[i]'(by omega)) (ys[i]'(by omega)):=by
  intro i hi;rw[aW0 (show i<xs.length by omega),aW0 (show i<ys.length by omega)];simp only[cF0,dY0,BY,eD0]
 simp only[Op.equalIn,Sem.run_bind,run_underlying hu,Result.andThen_ok,BE qF,Std.Legacy.Range.forIn_eq_forIn_range',Nat.mul_one];have hn:([:n]:Std.Legacy.Range).size=n:=by simp[Std.Legacy.Range.size]
 rw[hn];rw[HT w xs ys lx ly _ (fun i hi=> ?_) n 0 (by omega)]
 ·simp only[List.drop_zero,Result.andThen_ok];cases BY xs ys<;>simp
 ·simp only[Sem.run_bind,part1 us i (by omega),part1 vs i (by omega),Result.andThen_ok,step i hi,two i hi];cases SE (xs[i]'(by omega)) (ys[i]'(by omega))<;>simp
theorem NF {t:TypeId} {ks:List CK} {xs ys:List DVal} {us vs:List Value} (w:World) (hf:flatA P t=some ks) (dH:tAgg P t=some true) (hx:Bj ks xs=true) (hy:Bj ks ys=true) (rx:Au cur M h xs us) (ry:Au cur M h ys vs) :
  (Op.equalIn 10000 t (.agg us.toArray) (.agg vs.toArray)).run P w= .ok (BY xs ys) w:=by
 unfold flatA at hf
 split at hf
 ·rename_i n e hu
  split at hf
  ·rename_i c hc
   split at hf
   ·rename_i qF;simp only[aA0]at hf;subst hf;obtain⟨b,hb,_⟩:=IU hc;exact NH w hu hb qF xs ys us vs (fun xs ys us vs w h1 h2 r1 r2=>DV 9999 e [c] b xs ys us vs w hc hb h1 h2 r1 r2) hx hy rx ry
   ·simp at hf
  ·simp at hf
 ·have e:=DV (P:=P) 10000 t ks true xs ys us vs w hf dH hx hy rx ry;simpa only[valOf,if_true]using e
theorem Kf (t:TypeId) (a b:Option Addr):binOp .eql t (.pointer a) (.pointer b)=(do pure (.bool (<-Op.equal t (.pointer a) (.pointer b)))):=rfl
theorem Ke (t:TypeId) (a b:Option Addr):binOp .neq t (.pointer a) (.pointer b)=(do pure (.bool (!(<-Op.equal t (.pointer a) (.pointer b))))):=rfl
theorem oS {t:TypeId} (hb:tPtr P t=true):∃e,P.underlying t=some (.pointer e):=by
 unfold tPtr at hb
 split at hb
 ·exact⟨_,by assumption⟩
 ·simp at hb
theorem JH {t:TypeId} (hb:tPtr P t=true) (a:Option Addr) (d:Nat):(Op.equalIn (d+1) t (.pointer a) (.pointer none)).run P w= .ok a.isNone w:=by
 obtain⟨e,ht⟩:=oS hb;cases a<;>simp[Op.equalIn,run_underlying ht]
theorem Gg {t:TypeId} (hb:tPtr P t=true) (a:Option Addr):(Op.equal t (.pointer a) (.pointer none)).run P w= .ok a.isNone w :=
 JH hb a 9999
theorem Nr (op:BinOp) (t:TypeId) (x y:Operand) (a b:Option Addr):(eqGuard op t x y (.pointer a) (.pointer b)).run P w= .ok () w:=by
 cases op<;>rfl
theorem Up {op:BinOp} {t:TypeId} {xo yo:Operand} {d:DVal} (a:Option Addr) (n cap:Nat) (hb:tSl P t=true) (hd:(match op with | .eql=>some (DVal.bool a.isNone) | .neq=>some (.bool (!a.isNone)) | _=>none)=some d) :
  ∃r,(do eqGuard op t xo yo (.slice a n cap) (.slice none 0 0);binOp op t (.slice a n cap) (.slice none 0 0):Sem Value).run P w= .ok r w/\rd cur M h d r:=by
 obtain⟨e,ht⟩:∃e,P.underlying t=some (.slice e):=by
  unfold tSl at hb
  split at hb
  ·exact⟨_,by assumption⟩
  ·simp at hb
 have he:(Op.equal t (.slice a n cap) (.slice none 0 0)).run P w= .ok a.isNone w:=by
  have gen:∀d:Nat,(Op.equalIn (d+1) t (.slice a n cap) (.slice none 0 0)).run P w= .ok a.isNone w:=by
   intro d;cases a<;>simp[Op.equalIn,run_underlying ht]
  exact gen 9999
 cases op<;>simp only[aA0,reduceCtorEq]at hd<;>subst hd
 ·have:binOp .eql t (.slice a n cap) (.slice none 0 0)=(do pure (.bool (<-Op.equal t (.slice a n cap) (.slice none 0 0)))):=rfl;rw[this];have g:(eqGuard .eql t xo yo (.slice a n cap) (.slice none 0 0)).run P w= .ok () w:=rfl;simp only[Sem.run_bind,g,Result.andThen_ok,he,Sem.run_pure];exact⟨_,rfl,by simp[rd]⟩
 ·have:binOp .neq t (.slice a n cap) (.slice none 0 0)=(do pure (.bool (!(<-Op.equal t (.slice a n cap) (.slice none 0 0))))):=rfl;rw[this];have g:(eqGuard .neq t xo yo (.slice a n cap) (.slice none 0 0)).run P w= .ok () w:=rfl;simp only[Sem.run_bind,g,Result.andThen_ok,he,Sem.run_pure];exact⟨_,rfl,by simp[rd]⟩
theorem iK {op:BinOp} {t:TypeId} {xo yo:Operand} {d:DVal} (a:Option Nat) (hb:tMp P t=true) (hd:(match op with | .eql=>some (DVal.bool a.isNone) | .neq=>some (.bool (!a.isNone)) | _=>none)=some d) :
  ∃r,(do eqGuard op t xo yo (.map a) (.map none);binOp op t (.map a) (.map none):Sem Value).run P w= .ok r w/\rd cur M h d r:=by
 obtain⟨_,e,ht⟩:∃k e,P.underlying t=some (.map k e):=by
  unfold tMp at hb
  split at hb
  ·exact⟨_,_,by assumption⟩
  ·simp at hb
 have he:(Op.equal t (.map a) (.map none)).run P w= .ok a.isNone w:=by
  have gen:∀d:Nat,(Op.equalIn (d+1) t (.map a) (.map none)).run P w= .ok a.isNone w:=by
   intro d;cases a<;>simp[Op.equalIn,run_underlying ht]
  exact gen 9999
 cases op<;>simp only[aA0,reduceCtorEq]at hd<;>subst hd
 ·have:binOp .eql t (.map a) (.map none)=(do pure (.bool (<-Op.equal t (.map a) (.map none)))):=rfl;rw[this];have g:(eqGuard .eql t xo yo (.map a) (.map none)).run P w= .ok () w:=rfl;simp only[Sem.run_bind,g,Result.andThen_ok,he,Sem.run_pure];exact⟨_,rfl,by simp[rd]⟩
 ·have:binOp .neq t (.map a) (.map none)=(do pure (.bool (!(<-Op.equal t (.map a) (.map none))))):=rfl;rw[this];have g:(eqGuard .neq t xo yo (.map a) (.map none)).run P w= .ok () w:=rfl;simp only[Sem.run_bind,g,Result.andThen_ok,he,Sem.run_pure];exact⟨_,rfl,by simp[rd]⟩
theorem LC (a b:ByteArray):(a.data==b.data)=(a==b):=by
 obtain⟨x⟩:=a;obtain⟨y⟩:=b;rfl
theorem AU_ (k:IntKind) (a:Int) (n:Nat) (ha:Kx k a):Kx k (a.fdiv (2 ^ n)):=by
 have hp:(1:Int)<=2 ^ n:=by have:(0:Int)<2 ^ n:=Int.pow_pos (by decide);omega
 rw[Int.fdiv_eq_ediv_of_nonneg _ (by omega)];have h1:0<=a->0<=a/2 ^ n/\a/2 ^ n<=a:=fun h=>⟨Int.ediv_nonneg h (by omega),Int.ediv_le_self _ h⟩
 have h2:a<0->a/2 ^ n<0/\a<=a/2 ^ n:=fun h=>⟨Int.ediv_neg_of_neg_of_pos h (by omega),(Int.le_ediv_iff_mul_le (by omega)).2 (by
  have:=Int.mul_le_mul_of_nonpos_left (a:=a) (by omega) hp
  omega)⟩
 cases k<;>simp only[Kx]at ha |- <;>(rcases Int.lt_or_le a 0 with h | h<;>first | (have:=h1 h;omega) | (have:=h2 h;omega) | omega)
theorem uL (k:IntKind) (a b:Int) (ha:Kx k a):Kx k (a.tmod b):=by
 have h1:0<=a->0<=a.tmod b/\a.tmod b<=a:=fun h=>⟨Int.tmod_nonneg b h,by
  by_cases hb:b=0
  ·subst hb;simp
  ·have:=Int.natAbs_tmod a b;have h5:(a.natAbs%b.natAbs)<=a.natAbs:=Nat.mod_le _ _;have h6:=Int.tmod_nonneg b h
   omega⟩
 have h2:a<0->a.tmod b<=0/\a<=a.tmod b:=fun h=>by
  have e:a.tmod b= -((-a).tmod b):=by rw[Int.neg_tmod];omega
  have h3:=Int.tmod_nonneg b (show 0<= -a by omega);have h4:=Int.natAbs_tmod (-a) b;have h5:((-a).natAbs%b.natAbs)<=(-a).natAbs:=Nat.mod_le _ _;omega
 cases k<;>simp only[Kx]at ha |- <;>(rcases Int.lt_or_le a 0 with h | h<;>first | (have:=h1 h;omega) | (have:=h2 h;omega) | omega)
theorem Be_ {op:BinOp} {t:TypeId} {xo yo:Operand} {k k':IntKind} {a b:Int} {d:DVal} (ha:Kx k a) (hd:Gb P op t (.int k a) (.int k' b)=some d) :
  ∃r,(do eqGuard op t xo yo (.int k a) (.int k' b);binOp op t (.int k a) (.int k' b):Sem Value).run P w= .ok r w/\rd cur M h d r:=by
 cases op<;>simp only[Gb,ne_eq,ite_not]at hd<;>split at hd<;>(try split at hd)<;>(try (simp at hd;done))<;>simp only[aA0,reduceCtorEq]at hd<;>subst hd<;>rename_i hk
 case shl=>simp[eqGuard,binOp,Op.shift,hk,rd,Il,sH]
 case shr=>simp[eqGuard,binOp,Op.shift,hk,rd,AU_ _ _ _ ha,Ig]
 case quo=>rename_i kM;subst kM;simp[eqGuard,binOp,Op.intDiv,hk,rd,Il]
 case rem=>rename_i kM;subst kM;simp[eqGuard,binOp,Op.intDiv,hk,rd,uL _ _ _ ha]
 all_goals (subst hk;simp[eqGuard,binOp,Op.intArith,Op.intCmp,Op.intBits,rd,Il,IM,iOr,Fv_,Lv])
theorem Bd_ {op:BinOp} {t:TypeId} {xo yo:Operand} {a b:ByteArray} {d:DVal} (hd:Gb P op t (.str a) (.str b)=some d) :
  ∃r,(do eqGuard op t xo yo (.string a) (.string b);binOp op t (.string a) (.string b):Sem Value).run P w= .ok r w/\rd cur M h d r:=by
 simp only[Gb]at hd;cases op<;>simp at hd
 case add =>
  obtain⟨h1,rfl⟩:=hd;have h2:(a.size:Int)+(b.size:Int)<=9223372036854775807:=by unfold maxLen at h1;omega
  simp[eqGuard,binOp,Op.stringOp,rd,h2,h1]
 all_goals (subst hd;simp[eqGuard,binOp,Op.stringOp,rd,ByteArray.toList_eq,LC, -beq_iff_eq])
theorem Df_ {op:BinOp} {t:TypeId} {xo yo:Operand} {x y d:DVal} {u v:Value} (hd:Gb P op t x y=some d) (rx:rd cur M h x u) (ry:rd cur M h y v) :
  ∃r,(do eqGuard op t xo yo u v;binOp op t u v:Sem Value).run P w= .ok r w/\rd cur M h d r:=by
 cases x<;>cases y<;>(try (simp[Gb]at hd;done))
 case bool.bool a b =>
  simp only[rd]at rx ry;subst rx;subst ry;simp only[Gb]at hd
  split at hd
  ·rename_i hb
   have ht:P.underlying t=some .bool:=by
    unfold tBool at hb
    split at hb
    ·assumption
    ·simp at hb
   cases op<;>simp at hd<;>subst hd <;>
    simp[eqGuard,binOp,Op.equal,Op.maxDepth,run_equalIn_bool' w _ t _ _ ht,rd]
  ·simp at hd
 case int.int k a k' b =>
  simp only[rd]at rx ry;obtain⟨rfl,rx⟩:=rx;obtain⟨rfl,ry⟩:=ry;exact Be_ rx hd
 case str.str a b =>
  simp only[rd]at rx ry;obtain⟨rfl,rx⟩:=rx;obtain⟨rfl,ry⟩:=ry;exact Bd_ hd
 case nilp.nilp =>
  simp only[rd]at rx ry;subst rx;subst ry;simp only[Gb]at hd
  split at hd
  ·rename_i hb;have he:=Gg (P:=P) (w:=w) hb none
   cases op<;>simp only[aA0,reduceCtorEq]at hd<;>subst hd <;>
    simp only[Sem.run_bind,Nr,Result.andThen_ok,Kf,Ke,he,Sem.run_pure]<;>exact⟨_,rfl,by simp[rd]⟩
  ·simp at hd
 case nilsl.nilsl =>
  simp only[rd]at rx ry;subst rx;subst ry;simp only[Gb]at hd
  split at hd
  ·rename_i hb;exact Up none 0 0 hb (by simpa using hd)
  ·simp at hd
 case esl.nilsl =>
  simp only[rd]at rx ry;subst ry;obtain⟨ad,cap,rfl,_⟩:=rx;simp only[Gb]at hd
  split at hd
  ·rename_i hb;exact Up (some ad) 0 cap hb (by simpa using hd)
  ·simp at hd
 case sl.nilsl k bs es =>
  cases es with
  | nil=>simp[Gb]at hd
  | cons e0 es =>
   simp only[rd]at rx ry;subst ry;obtain⟨a,cap,rfl,_,_,_,h5⟩:=rx;simp only[Gb]at hd
   split at hd
   ·rename_i hb
    rcases h5 with h5 | ⟨b,off,arr,ty,fz,rfl,_⟩
    ·simp at h5
    ·exact Up _ _ cap hb (by simpa using hd)
   ·simp at hd
 case nilmp.nilmp =>
  simp only[rd]at rx ry;subst rx;subst ry;simp only[Gb]at hd
  split at hd
  ·rename_i hb;exact iK none hb (by simpa using hd)
  ·simp at hd
 case mp.nilmp ks vs =>
  simp only[rd]at rx ry;subst ry;obtain⟨b,es,clk,rfl,_⟩:=rx;simp only[Gb]at hd
  split at hd
  ·rename_i hb;exact iK (some b) hb (by simpa using hd)
  ·simp at hd
 case ref.nilp =>
  simp only[rd]at rx ry;subst ry;obtain⟨b,off,arr,ty,fz,rfl,_,_,_⟩:=rx;simp only[Gb]at hd
  split at hd
  ·rename_i hb;have he:=Gg (P:=P) (w:=w) hb (some ⟨b,off,none⟩)
   cases op<;>simp only[aA0,reduceCtorEq]at hd<;>subst hd <;>
    simp only[Sem.run_bind,Nr,Result.andThen_ok,Kf,Ke,he,Sem.run_pure]<;>exact⟨_,rfl,by simp[rd]⟩
  ·simp at hd
 case agg.agg xs ys =>
  simp only[rd]at rx ry;obtain⟨us,rfl,rx⟩:=rx;obtain⟨vs,rfl,ry⟩:=ry;simp only[Gb]at hd
  split at hd
  ·simp at hd
  rename_i zQ
  split at hd
  ·simp at hd
  rename_i dH;simp only[ne_eq,Decidable.not_not]at dH
  split at hd
  ·rename_i ks zV
   split at hd
   ·rename_i bY;simp only[aN0]at bY;have e:=NF (P:=P) w zV dH bY.1 bY.2 rx ry;simp only[Array.toArray_toList]at e;have g:(eqGuard op t xo yo (.agg us) (.agg vs)).run P w= .ok () w:=run_eqGuard_agg w op t xo yo us vs (by simpa using zQ)
    cases op<;>simp only[aA0,reduceCtorEq]at hd<;>subst hd <;>
     simp only[Sem.run_bind,g,Result.andThen_ok,run_eql_struct,run_neq_struct,e]<;>exact⟨_,rfl,by simp[rd]⟩
   ·simp at hd
  ·simp at hd
end
section
variable (P : Program)
def tMap (t:TypeId):Option (TypeId×TypeId):=match P.underlying t with | some (.map k e)=>some (k,e) | _=>none
def PL : DVal->Bool
 | .agg _=>true
 | _=>false
def BO : DVal->List DVal
 | .agg cs=>cs
 | d=>[d]
def Cf (kt:TypeId) (d:DVal):Bool:=match flat P 10000 kt,tAgg P kt with
 | some cks,some b=>Bj cks (BO d)&&(b==PL d)
 | _,_=>false
def tZeroD (t:TypeId):Option DVal:=match P.info? t with
 | some i=>i.zero.map ofV
 | none=>none
end
def AU : List DVal->DVal->Option Nat
 | [],_=>none
 | k::ks,x=>if BY (BO x) (BO k)then some 0 else (AU ks x).map (· +1)
section
variable {P : Program} {cur : Er} {M : List Nat} {h : Array Obj}
theorem FT {d:DVal} {v:Value} {b:Bool} (hb:b=PL d) (hr:rd cur M h d v):∃us,Au cur M h (BO d) us/\v=valOf b us:=by
 cases d<;>simp only[PL]at hb<;>subst hb<;>simp only[BO]
 case agg cs =>
  simp only[rd]at hr;obtain⟨us,rfl,h2⟩:=hr;exact⟨us.toList,h2,by simp[valOf]⟩
 all_goals exact⟨[v],by simp only[Au];exact⟨v,[],rfl,hr,rfl⟩,by simp[valOf]⟩
theorem JU {kt:TypeId} {x k:DVal} {u v:Value} {w:World} (hx:Cf P kt x=true) (hk:Cf P kt k=true) (rx:rd cur M h x u) (rk:rd cur M h k v) :
  (Op.equal kt u v).run P w= .ok (BY (BO x) (BO k)) w:=by
 unfold Cf at hx hk
 split at hx
 ·rename_i cks b hf hb;rw[hf,hb]at hk;simp only[aN0,beq_iff_eq]at hx hk;obtain⟨us,h1,rfl⟩:=FT hx.2 rx;obtain⟨vs,h2,rfl⟩:=FT hk.2 rk;exact DV (P:=P) 10000 kt cks b _ _ us vs w hf hb hx.1 hk.1 h1 h2
 ·simp at hx
theorem KZ : ∀(d:Nat) (t:TypeId) (cks:List CK) (b:Bool) (xs:List DVal) (us:List Value) (w:World) (e:Bool),flat P d t=some cks->tAgg P t=some b->Bj cks xs=true->Au cur M h xs us ->
  (Instr.checkKey e d t (valOf b us)).run P w= .ok () w
 | 0,t,cks,b,xs,us,w,e,hf,_,_,_=>by simp[flat]at hf
 | d+1,t,cks,b,xs,us,w,e,hf,hb,hx,rx=>by
  obtain⟨b',qG,h1,h2,h3⟩:=IU hf;rw[hb]at qG;simp only[aA0]at qG;subst qG
  cases b with
  | false =>
   have hns:=h3 rfl;rw[flat]at hf
   split at hf
   ·rename_i hu;simp[Instr.checkKey,run_underlying hu]
   ·rename_i hu;simp[Instr.checkKey,run_underlying hu]
   ·rename_i hu;simp[Instr.checkKey,run_underlying hu]
   ·rename_i fs hu;simp[CW,hu]at hns
   ·simp at hf
  | true =>
   have qK:=h2 rfl
   obtain⟨fs,hu⟩:∃fs,P.underlying t=some (.struct fs):=by
    unfold CW at qK
    split at qK
    ·exact⟨_,by assumption⟩
    ·simp at qK
   simp only[flat,hu]at hf
   split at hf
   ·simp at hf
   have zK:∀(fl:List Field) (o:Nat) (ks:List CK) (xs:List DVal) (us0 us:List Value),PY P (flat P d) o fl=some ks->Bj ks xs=true->Au cur M h xs us->us0.length=o ->
     (forIn fl PUnit.unit (fun(f:Field) (_:PUnit)=>(if f.name≠ "_" then (do let v <-part f.type (us0++us).toArray f.offset;Instr.checkKey e d f.type v;pure (ForInStep.yield PUnit.unit))else pure (ForInStep.yield PUnit.unit):Sem (ForInStep PUnit)))).run P w= .ok PUnit.unit w:=by
    intro fl
    induction fl with
    | nil=>intros;simp
    | cons f fl ih =>
     intro o ks xs us0 us hf hx rx l1;simp only[PY]at hf
     split at hf
     ·simp at hf
     rename_i hnm
     split at hf
     ·simp at hf
     rename_i hof;simp only[ne_eq,Decidable.not_not]at hof
     split at hf
     rotate_left
     ·simp at hf
     rename_i k1 kM
     split at hf
     rotate_left
     ·simp at hf
     rename_i qF;simp only[bA0]at hf;obtain⟨k2,zD,rfl⟩:=hf;obtain⟨b,hb,qR,_,_⟩:=IU kM;have sx:=Gm k1 k2 xs hx;have lx:=BR _ _ hx;have rlx:=Ap _ _ rx;simp only[aB0]at lx;have p1:=GO (P:=P) (w:=w) (us:=(us0++us).toArray) (o:=o) hb qF qR (by simp;omega);have d1:((us0++us).toArray.toList.drop o).take k1.length=us.take k1.length:=by subst l1;simp
     rw[d1]at p1;have e1:=KZ d f.type k1 b (xs.take k1.length) (us.take k1.length) w e kM hb sx.1 (DX _ _ _ rx);have ih':=ih (o+k1.length) k2 (xs.drop k1.length) (us0++us.take k1.length) (us.drop k1.length) zD sx.2 (DY _ _ _ rx) (by simp;omega);rw[aT0,List.take_append_drop]at ih';simp only[List.forIn_cons,ne_eq,hnm,not_false_eq_true,if_true,Sem.run_bind,hof,p1,Result.andThen_ok,e1,Sem.run_pure];exact ih'
   have:=zK fs.toList 0 cks xs [] us hf hx rx rfl;simp only[List.nil_append]at this;simp only[valOf,if_true,Instr.checkKey,Sem.run_bind,run_underlying hu,Result.andThen_ok];rw[<-Array.forIn_toList];rw[this];rfl
theorem EF {kt:TypeId} {x:DVal} {u:Value} {w:World} {e:Bool} (hx:Cf P kt x=true) (rx:rd cur M h x u):(Instr.checkKey e 10000 kt u).run P w= .ok () w:=by
 unfold Cf at hx
 split at hx
 ·rename_i cks b hf hb;simp only[aN0,beq_iff_eq]at hx;obtain⟨us,h1,rfl⟩:=FT hx.2 rx;exact KZ 10000 kt cks b _ us w e hf hb hx.1 h1
 ·simp at hx
theorem Iw {kt:TypeId} {x:DVal} {u:Value} {w:World} (hx:Cf P kt x=true) (rx:rd cur M h x u):∀(es:List MapEntry) (ks:List DVal) (i:Nat),ks.all (Cf P kt)=true->Au cur M h ks (es.map (·.key)) ->
  (Instr.findAsking kt u es i).run P w= .ok ((AU ks x).map fun j=>(i+j,(es[j]?.map (·.val)).getD Go.undef)) w
 | [],ks,i,_,hr=>by
  have:=Ap _ _ hr;have:ks=[]:=bK0 (by simpa using this.symm);subst this;simp[Instr.findAsking,AU]
 | e::es,ks,i,hk,hr=>by
  cases ks with
  | nil=>have:=Ap _ _ hr;simp at this
  | cons k ks =>
   simp only[List.map_cons,Au]at hr;obtain⟨v,r,heq,h1,h2⟩:=hr;simp only[bG0]at heq;obtain⟨rfl,rfl⟩:=heq;simp only[dA0,aN0]at hk;have he:=JU (w:=w) hx hk.1 rx h1;simp only[Instr.findAsking,Sem.run_bind,he,Result.andThen_ok,AU]
   cases hq:BY (BO x) (BO k)with
   | true=>simp
   | false =>
    simp only[bH0,if_false];rw[Iw hx rx es ks (i+1) hk.2 h2]
    cases AU ks x with
    | none=>simp
    | some j=>simp;omega
theorem Gf {kt:TypeId} {x:DVal} {u:Value} {w:World} (hx:Cf P kt x=true) (rx:rd cur M h x u) (es:List MapEntry) (ks:List DVal) (hk:ks.all (Cf P kt)=true) (hr:Au cur M h ks (es.map (·.key))) :
  (Instr.findKey kt u es).run P w= .ok ((AU ks x).map fun j=>(j,(es[j]?.map (·.val)).getD Go.undef)) w:=by
 have hask:=Iw (w:=w) hx rx es ks 0 hk hr;simp only[bN0]at hask
 obtain⟨d,hd⟩:∃d,P.underlying kt=some d:=by
  unfold Cf at hx
  split at hx
  ·rename_i cks b hf hb;unfold tAgg at hb
   split at hb<;>first | exact⟨_,by assumption⟩ | simp at hb
  ·simp at hx
 simp only[Instr.findKey,Sem.run_bind,run_underlying hd,Result.andThen_ok]
 -- where the types decide at once, they decide alike
 have now:∀(es:List MapEntry) (ks:List DVal) (i:Nat) (r:Option (Nat×Value)),ks.all (Cf P kt)=true->Au cur M h ks (es.map (·.key))->Instr.findNow d u es i=some r->r=(AU ks x).map fun j=>(i+j,(es[j]?.map (·.val)).getD Go.undef):=by
  intro es
  induction es with
  | nil =>
   intro ks i r _ hr hn;have:=Ap _ _ hr;have:ks=[]:=bK0 (by simpa using this.symm);subst this;simp only[Instr.findNow,aA0]at hn;subst hn;simp[AU]
  | cons e es ih =>
   intro ks i r hk hr hn
   cases ks with
   | nil=>have:=Ap _ _ hr;simp at this
   | cons k ks =>
    simp only[List.map_cons,Au]at hr;obtain⟨v,r',heq,h1,h2⟩:=hr;simp only[bG0]at heq;obtain⟨rfl,rfl⟩:=heq;simp only[dA0,aN0]at hk;have he:=JU (w:=⟨#[],fun _ _=>0,0,default, #[]⟩) hx hk.1 rx h1
    have yG:∀b,Instr.sameNow d u e.key=some b->b=BY (BO x) (BO k):=by
     intro b hb;have e0:Op.equal kt u e.key=Op.equalIn (9999+1) kt u e.key:=rfl;rw[e0]at he;unfold Instr.sameNow at hb
     split at hb
     ·rename_i k1 a k2 b2 heq
      split at hb
      ·rename_i qZ;subst qZ;simp only[aA0]at hb;subst hb;rw[heq]at he;have gen:∀n w k,(Op.equalIn (n+1) kt (.int k a) (.int k b2)).run P w= .ok (a==b2) w:=by intro n w k;simp[Op.equalIn,run_underlying hd]
       rw[gen]at he;simp only[Result.ok.injEq,and_true]at he;exact he
      ·simp at hb
     ·rename_i a b2 heq;simp only[aA0]at hb;subst hb;rw[heq]at he;have gen:∀n w,(Op.equalIn (n+1) kt (.string a) (.string b2)).run P w= .ok (a==b2) w:=by intro n w;simp[Op.equalIn,run_underlying hd]
      rw[gen]at he;simp only[Result.ok.injEq,and_true]at he;exact he
     ·rename_i a b2 heq;simp only[aA0]at hb;subst hb;rw[heq]at he;have gen:∀n w,(Op.equalIn (n+1) kt (.bool a) (.bool b2)).run P w= .ok (a==b2) w:=by intro n w;simp[Op.equalIn,run_underlying hd]
      rw[gen]at he;simp only[Result.ok.injEq,and_true]at he;exact he
     ·simp at hb
    simp only[Instr.findNow]at hn
    split at hn
    ·rename_i hs;simp only[aA0]at hn;subst hn;simp[AU,<-yG true hs]
    ·rename_i hs;have:=ih ks (i+1) r hk.2 h2 hn;rw[this];simp only[AU,<-yG false hs,bH0,if_false]
     cases AU ks x with
     | none=>simp
     | some j=>simp;omega
    ·simp at hn
 cases hn:Instr.findNow d u es 0 with
 | some r =>
  have:=now es ks 0 r hk hr hn;simp only[bN0]at this;simp[this]
 | none=>exact hask
theorem Wh : ∀{ks:List DVal} {x:DVal} {j:Nat},AU ks x=some j->j<ks.length
 | [],x,j,h=>by simp[AU]at h
 | k::ks,x,j,h=>by
  simp only[AU]at h
  split at h
  ·simp only[aA0]at h;subst h;simp
  ·rw[bA0]at h;obtain⟨i,h1,rfl⟩:=h;have:=Wh h1;simp;omega
theorem oQ {t:TypeId} {z:DVal} (hz:tZeroD P t=some z) {w:World}:∃v,(zeroValue t).run P w= .ok v w/\rd cur M h z v:=by
 unfold tZeroD at hz
 split at hz
 ·rename_i i hi;rw[bA0]at hz;obtain⟨v,hv,rfl⟩:=hz;exact⟨v,by simp[zeroValue,typeInfo,hi,hv],xH v⟩
 ·simp at hz
end
end Go.Dm
end
