/- Parts of a proof, laid together: EnV, W0, QD0, QD1, EnGo. -/
import Derived.Test.YtiojapdolljocaaGreatqMx8
import Derived.Test.YtiojapdolljocaaGreatqMx9
import Derived.Test.YtiojapdolljocaaGreatqMx14
set_option linter.unusedSimpArgs false
set_option maxHeartbeats 8000000
set_option linter.unusedVariables false
set_option linter.unusedSectionVars false
section
namespace Go.Dm
variable [DMode]
theorem St.out {own own':List Ent} {loc:Nat->Loc} {M:List Nat} {h:Array Obj} (ρ:List (Nat×Nat×Nat)) (S:St own loc M h) (hρ:(ρ.map (·.2.1)).Nodup/\(ρ.map (·.1)).Nodup)
  (ho:Lr own (BP own ρ) ρ=some own') (hk:Ml own ρ) :
  ∃loc',St own' loc' M h/\(∀b∈Aa own' loc',b∈Aa own loc)/\(∀x∈own',∃i e,(i,x.id,x.r)∈ρ/\An own i=some e/\loc' x.id=loc i/\(x.r=1\/(x.r=0/\i=x.id/\e.r=0))) /\
   (∀d v,Vf d->rd (Ad own loc) (Aa own loc++M) h d v->rd (Ad own' loc') (Aa own' loc'++M) h (Hr (BP own ρ) d) v):=by
 have h2:((ρ.map fun p=>(p.1,p.2.1)).map (·.2)).Nodup:=by rw[bY0];exact hρ.1
 have gL:∀i j v,(i,j,v)∈ρ->loc ((BG (ρ.map fun p=>(p.1,p.2.1)) j).getD 0)=loc i:=by
  intro i j v hm;rw[Cx h2 (aT0.2 ⟨(i,j,v),hm,rfl⟩)];rfl
 obtain⟨hm,kA⟩:=Mm ho
 have hx:∀x∈own',∃i e,(i,x.id,x.r)∈ρ/\An own i=some e/\x.obj=Ji (BP own ρ) e.obj:=by
  intro x hx;obtain⟨i,j,v,e,h1,h2,rfl⟩:=hm x hx;exact⟨i,e,h1,h2,rfl⟩
 have hnd:(own'.map (·.id)).Nodup:=by rw[kA];exact hρ.1
 have kN:Aa own' (fun j=>loc ((BG (ρ.map fun p=>(p.1,p.2.1)) j).getD 0))=Aa (own'.map fun x=>⟨(BG (ρ.map fun p=>(p.1,p.2.1)) x.id).getD 0,0,x.obj⟩) loc:=by
  simp[Aa,List.flatMap_map]
 have gJ:((own'.map fun x=>(⟨(BG (ρ.map fun p=>(p.1,p.2.1)) x.id).getD 0,0,x.obj⟩:Ent)).map (·.id)).Nodup:=by
  rw[bY0]
  have:own'.map ((·.id)∘fun x=>(⟨(BG (ρ.map fun p=>(p.1,p.2.1)) x.id).getD 0,0,x.obj⟩:Ent))=ρ.map (·.1):=by
   have e1:own'.map ((·.id)∘fun x=>(⟨(BG (ρ.map fun p=>(p.1,p.2.1)) x.id).getD 0,0,x.obj⟩:Ent))=(own'.map (·.id)).map (fun j=>(BG (ρ.map fun p=>(p.1,p.2.1)) j).getD 0):=by
    rw[bY0];rfl
   rw[e1,kA,bY0];refine cA0 fun p hp=> ?_
   simp only[Function.comp_def];rw[Cx h2 (aT0.2 ⟨p,hp,rfl⟩)];rfl
  rw[this];exact hρ.2
 have zG:∀b∈Aa own' (fun j=>loc ((BG (ρ.map fun p=>(p.1,p.2.1)) j).getD 0)),b∈Aa own loc:=by
  intro b hb;obtain⟨x,qA,hb⟩:=bQ0.1 hb;obtain⟨i,e,h1,h2,_⟩:=hx x qA;simp only[gL i _ _ h1]at hb;obtain⟨k1,k2⟩:=AC h2;rw[<-k2]at hb;exact Bf k1 hb
 have hM:∀b,b∈Aa own' (fun j=>loc ((BG (ρ.map fun p=>(p.1,p.2.1)) j).getD 0))++M->b∈Aa own loc++M:=by
  intro b hb
  rcases aH0.1 hb with hb | hb
  ·exact aM0 _ (zG b hb)
  ·exact aP0 _ hb
 have W:Weak (Ad own loc) (Ad own' fun j=>loc ((BG (ρ.map fun p=>(p.1,p.2.1)) j).getD 0)) (Aa own loc++M) (Aa own' (fun j=>loc ((BG (ρ.map fun p=>(p.1,p.2.1)) j).getD 0))++M) h h 0 :=
  ⟨fun id r l hr=>by omega,fun b o _ (_:GM o=true) ho=>ho,fun b o hb (_:GM o=true) _ hm=>hb (hM b hm)⟩
 have L:GK (Ad own loc) (Ad own' fun j=>loc ((BG (ρ.map fun p=>(p.1,p.2.1)) j).getD 0)) (BP own ρ):=by
  intro i r p lc hp hl;obtain⟨e,h1,h2,h3⟩:=IC hp;obtain⟨e0,_,g1,_,g3⟩:=BJ hl;obtain⟨k1,k2⟩:=AC h2;rw[<-h3,<-k2,AK S.nd k1,g3,gL i p.1 p.2 h1,k2]
 refine⟨fun j=>loc ((BG (ρ.map fun p=>(p.1,p.2.1)) j).getD 0),⟨hnd,?_,fun b hb=>S.ap b (zG b hb),fun b hb=>S.lt b (hM b hb),?_⟩,zG,?_,fun d v hd hr=>Ps W L hd hr⟩
 ·rw[kN];refine Gz S.bl _ gJ fun e he=> ?_
  obtain⟨x,qA,rfl⟩:=aT0.1 he;obtain⟨i,e,h1,jB,_⟩:=hx x qA;simp only[Cx h2 (aT0.2 ⟨_,h1,rfl⟩),bZ0];exact⟨e,AC jB⟩
 ·intro x qA;obtain⟨i,e,h1,jB,h3⟩:=hx x qA;obtain⟨e',h4,h5,_⟩:=Kt hk i _ _ h1;rw[jB]at h4;simp only[aA0]at h4;subst h4;obtain⟨k1,k2⟩:=AC jB;rw[h3];exact KI W L (l:=loc i) h5 (gL i _ _ h1) (fun b o _ ho=>ho) (by have:=S.ok e k1;rwa[k2]at this)
 ·intro x qA;obtain⟨i,e,h1,jB,h3⟩:=hx x qA;obtain⟨e',h4,_,h5⟩:=Kt hk i _ _ h1;rw[jB]at h4;simp only[aA0]at h4;subst h4;exact⟨i,e,h1,jB,gL i _ _ h1,h5⟩
def Ww : List Ent->Prop
 | []=>True
 | e::t=>(match e.obj with
  | .row _ _ bs es=>es.length*bs<=150000000000000/\es.length<=maxLen/\uV es
  | .box cs=>Lm cs
  | .map ks vs=>Lm ks/\Lm vs
  | .abs _=>True)/\Ww t
theorem Gm_ {own:List Ent} {loc:Nat->Loc} {M:List Nat} {h:Array Obj} (S:St own loc M h):Ww own:=by
 have key:∀l:List Ent,(∀e∈l,e∈own)->Ww l:=by
  intro l
  induction l with
  | nil=>intro _;trivial
  | cons e t ih =>
   intro hm;refine⟨?_,ih fun x hx=>hm x (aG0 _ hx)⟩;have hk:=S.ok e (hm e aI0)
   cases qN:e.obj with
   | box cs=>rw[qN]at hk;obtain⟨b,arr,ty,_,_,_,h4⟩:=hk;exact UV cs arr 0 h4
   | row et k bs es =>
    rw[qN]at hk;obtain⟨h0,⟨rfl,_⟩ | ⟨b,arr,cap,_,_,_,h4,h5,_,h7⟩⟩:=hk
    ·exact⟨by simp,by simp,by simp[uV]⟩
    ·exact⟨h0,Nat.le_trans h4 h5,eP _ _ _ _ h7⟩
   | map ks vs=>rw[qN]at hk;obtain⟨b,es,clk,_,_,_,h4,h5⟩:=hk;exact⟨Gm _ _ h4,Gm _ _ h5⟩
   | abs A=>trivial
 exact key own fun _ h=>h
theorem Ns (ids:List Nat) (ρ:List (Nat×Nat×Nat)) {P:Program} {f:FuncId} {fn:Func} {c:Code} {args:List DVal} {own own':List Ent} {d:DVal} (hf:P.funcs[f]? =some fn) (hb:fn.body=some c) (vG:Enters P f) (qX:args.length<=fn.ntmps)
  (hρ:(ρ.map (·.2.1)).Nodup/\(ρ.map (·.1)).Nodup) (hv:own'.all (fun e=>decide (e.r<=1))=true)
  (h:Lm args->Ww own->∀B:Base,B.nt=fn.ntmps/\B.ro=none->DW P B c (aD P fn ids ρ d own') ⟨Am args 0,own⟩):Bn P (.func f) args own d own':=by
 refine⟨fun e he=>by simpa using bC0.1 hv e he,vG,fun M w loc vs S hr=> ?_⟩
 have key:∀B:Base,B.nt=fn.ntmps/\B.ro=none->DW P B c (BD_ P fn fun s d0=>Vf d0/\wk (Hr (BP s.own ρ) d0) d/\Lr s.own (BP s.own ρ) ρ=some own'/\Ml s.own ρ) ⟨Am args 0,own⟩:=by
  intro B hB a w loc R;refine wpIn_mono (h (Gm _ _ hr) (Gm_ S) B hB a w loc R) ?_;rintro e a' w' ⟨s',loc',hq,R'⟩;obtain⟨loc'',R''⟩:=Sub.freezeL ids s' a' w' loc' R';refine⟨freezeL s' ids,loc'',?_,R''⟩
  cases e<;>simp only[aD]at hq<;>first
   |(split at hq
     ·rename_i d0 fW;exact⟨d0,fW,hq⟩
     ·exact hq.elim)
   | exact hq.elim
 refine Nq (N:=1) (Nat.le_refl 1) hf hb vG qX S (fun _ _ _=>trivial) hr key ?_;intro s loc' w' d0 v ⟨hd,hw,ho,hk⟩ S' hu wM zQ vV;obtain⟨loc1,S1,h1,h2,h3⟩:=S'.out ρ hρ ho hk;refine⟨loc1,S1,hu,fun b hb=>wM b (h1 b hb),fun x hx qV=> ?_,oR hw (h3 d0 v hd vV)⟩;obtain⟨i,e,g1,g2,g3,g4⟩:=h2 x hx
 rcases g4 with g4 | ⟨g4,g5,g6⟩
 ·omega
 ·obtain⟨k1,k2⟩:=AC g2;have:=zQ e k1 (by omega);rw[k2,g6]at this;rw[g3,g4,<-g5];exact this
theorem aG (ids:List Nat) (ρ:List (Nat×Nat×Nat)) {P:Program} {f:FuncId} {fn:Func} {c:Code} {args:List DVal} {own own':List Ent} {d:DVal} (hf:P.funcs[f]? =some fn) (hb:fn.body=some c) (vG:Enters P f) (qX:args.length<=fn.ntmps)
  (hρ:(ρ.map (·.2.1)).Nodup/\(ρ.map (·.1)).Nodup) (hv:own'.all (fun e=>decide (e.r<=1))=true)
  (h:Lm args->∀B:Base,B.nt=fn.ntmps/\B.ro=none->DW P B c (aD P fn ids ρ d own') ⟨Am args 0,own⟩):Bn P (.func f) args own d own' :=
 Ns ids ρ hf hb vG qX hρ hv fun qJ _=>h qJ
theorem AQ (ρ ν:List (Nat×Nat)) {P:Program} {g:FuncId} {args args0:List DVal} {own own0 own0':List Ent} {d0:DVal} {K:ContE} (hS:Bn P (.func g) args0 own0 d0 own0')
  (wW:Lr own (BP own (DQ ρ)) (DQ ρ)=some own0/\Vy own ρ/\(Ve args/\wkA (args.map (Hr (BP own (DQ ρ)))) args0)/\(((ρ++ν).map (·.1)).Nodup/\(ρ.map (·.2)).Nodup)/\Vd own0'/\Vf d0)
  (hk:∀r,match Io (Dx own ρ ν r) own0' with
   | some l=>((Bj own ((ρ++ν).map (·.1))++l).map (·.id)).Nodup/\K.f (Hr (Dx own ρ ν r) d0) (Bj own ((ρ++ν).map (·.1))++l)
   | none=>False):Bt P g args own K:=by
 intro r;have h:=hk r
 split at h
 ·rename_i l hl;exact⟨_,_,Pi ρ ν hS wW.1 wW.2.1 wW.2.2.1 wW.2.2.2.1 hl wW.2.2.2.2.1 wW.2.2.2.2.2 h.1,h.2⟩
 ·exact h.elim
attribute [simp] DQ BG Dx Io Bj Vd Ve Vy Bg_ FF_ FL_ Sw Sv Ba Cp
end Go.Dm
end
section
namespace Go.Proofs.Wy
open Go Go.Dm Tryz
variable [DMode]
attribute [local irreducible] DW Bs Bt
structure Sym where
 label:Bool
 n:Int
 deriving DecidableEq
def AM (s:Sym):List DVal:=[.bool s.label,.int .i64 s.n]
abbrev Ia_ (l:List Sym):DVal:= .sl 2 16 (l.map AM)
structure Prod where
 head:Int
 body:List Sym
 deriving DecidableEq
def sQ (p:Prod):List DVal:=[.int .i64 p.head,Ia_ p.body]
abbrev GS_ (l:List Prod):DVal:= .sl 2 32 (l.map sQ)
structure Cnf where
 nts:Int
 prods:List Prod
 deriving DecidableEq
def Ic_ (c:Cnf):List DVal:=[.int .i64 c.nts,GS_ c.prods]
theorem mxd : Tryz.prog.follows .mixedOrders=true:=by kernel_rfl
theorem HT {α:Type} (f:α->List DVal) (h:∀x,AL (f x)=0) (l:List α):Bp (l.map f)=0:=by
 induction l with
 | nil=>rfl
 | cons x l ih=>simp[Bp,h,ih]
@[simp] theorem Fo_ (s:Sym):AL (AM s)=0:=by simp[AM,AL,mx]
@[simp] theorem HL_ (l:List Sym):Bp (l.map AM)=0:=HT _ Fo_ l
@[simp] theorem CO_ (p:Prod):AL (sQ p)=0:=by simp[sQ,AL,mx]
@[simp] theorem Hf_ (l:List Prod):Bp (l.map sQ)=0:=HT _ CO_ l
@[simp] theorem Iy_ (c:Cnf):AL (Ic_ c)=0:=by simp[Ic_,AL,mx]
theorem aO {α:Type} {f:α->List DVal}:∀{l:List α} {k:Nat} {x:α},uV (l.map f)->l[k]? =some x->Lm (f x)
 | a::l,0,x,h,hx=>by
  simp only[bE0,aA0]at hx;subst hx;simp only[List.map_cons,uV]at h;exact h.1
 | a::l,k+1,x,h,hx=>by
  simp only[List.map_cons,uV]at h;exact aO h.2 (by simpa using hx)
theorem Ao {α:Type} {l:List α} {k:Nat} (h:k<l.length):∃x,l[k]? =some x/\l[k]=x/\x∈l:=⟨l[k],aE0 h,rfl,bW0 h⟩
end Go.Proofs.Wy
end
section
namespace Go.Proofs.Wy
open Go Go.Dm Tryz
variable [DMode]
theorem HF_ {x y:Nat} (hx:x<2 ^ 64) (hy:y<2 ^ 64):iOr .u64 (x:Int) (y:Int)=((x ||| y:Nat):Int)/\x ||| y<2 ^ 64:=by
 have h:x ||| y<2 ^ 64:=Nat.or_lt_two_pow hx hy
 refine⟨?_,h⟩;unfold iOr
 have e:(BitVec.ofInt 64 (x:Int) ||| BitVec.ofInt 64 (y:Int)).toNat=x ||| y:=by
  rw[BitVec.toNat_or];simp only[BitVec.ofInt_natCast,BitVec.toNat_ofNat];rw[eJ0 hx,eJ0 hy]
 show IntKind.u64.wrap ((BitVec.ofInt 64 (x:Int) ||| BitVec.ofInt 64 (y:Int)).toNat:Int)=_
 rw[e];simp only[IntKind.wrap,IntKind.bits,IntKind.signed];simp;omega
theorem Er_ {x y:Nat} (hx:x<2 ^ 64) (hy:y<2 ^ 64):MA .u64 (x:Int) (y:Int)=((BitVec.ofNat 64 x &&& ~~~ BitVec.ofNat 64 y).toNat:Int):=by
 unfold MA
 show IntKind.u64.wrap ((BitVec.ofInt 64 (x:Int) &&& ~~~ BitVec.ofInt 64 (y:Int)).toNat:Int)=_
 simp only[BitVec.ofInt_natCast];have h:=(BitVec.ofNat 64 x &&& ~~~ BitVec.ofNat 64 y).isLt
 generalize (BitVec.ofNat 64 x &&& ~~~ BitVec.ofNat 64 y).toNat=z at *
 simp only[IntKind.wrap,IntKind.bits,IntKind.signed];simp;omega
theorem EP_ {c:Nat} (hc:c<64):AO_ .u64 1 (c:Int)=((2 ^ c:Nat):Int):=by
 have h:2 ^ c<2 ^ 64:=Nat.pow_lt_pow_right (by omega) hc;unfold AO_;simp only[IntKind.bits,dE0];rw[show min c 64=c by omega]
 generalize hz:(2:Nat) ^ c=z at *
 have:(1:Int)*2 ^ c=(z:Int):=by rw[<-hz];simp
 rw[this];simp only[IntKind.wrap,IntKind.bits,IntKind.signed];simp;omega
theorem HY_ {x c:Nat} (hx:x<2 ^ 64) (hc:c<64):(JO .u64 (Jj .u64 (x:Int) (c:Int)) 1==1)=x.testBit c:=by
 unfold Jj;simp only[IntKind.bits,dE0];rw[show min c 64=c by omega]
 have e1:(x:Int).fdiv (2 ^ c)=((x/2 ^ c:Nat):Int):=by
  rw[show ((2:Int) ^ c)=((2 ^ c:Nat):Int) by simp,Int.fdiv_eq_ediv_of_nonneg _ (Int.natCast_nonneg _)];exact(Int.natCast_ediv x (2 ^ c)).symm
 rw[e1,Nat.testBit_eq_decide_div_mod_eq];have h:x/2 ^ c<2 ^ 64:=Nat.lt_of_le_of_lt (Nat.div_le_self _ _) hx
 generalize x/2 ^ c=z at *
 unfold JO
 have e2:(BitVec.ofInt 64 (z:Int) &&& BitVec.ofInt 64 1).toNat=z%2:=by
  rw[BitVec.toNat_and];simp only[BitVec.ofInt_natCast,BitVec.toNat_ofNat];rw[eJ0 h];exact Nat.and_one_is_mod z
 have e3:IntKind.u64.wrap ((BitVec.ofInt 64 (z:Int) &&& BitVec.ofInt 64 1).toNat:Int)=((z%2:Nat):Int):=by
  rw[e2];have:z%2<2:=eF0 _ (by omega)
  generalize z%2=y at *
  simp only[IntKind.wrap,IntKind.bits,IntKind.signed];simp;omega
 show (IntKind.u64.wrap ((BitVec.ofInt 64 (z:Int) &&& BitVec.ofInt 64 1).toNat:Int)==1)=_
 rw[e3];rw[eO0];simp;omega
abbrev IU := List Nat
def Tv (b:IU):Prop:=b.length=64/\∀x∈b,x<2 ^ 64
def IZ : IU:=List.replicate 64 0
def Ev (r c:Nat):IU:=IZ.set r (2 ^ c)
def Jm (b:IU) (r c:Nat):Bool:=(b.getD r 0).testBit c
def orB (a b:IU):IU:=List.zipWith (· ||| ·) a b
theorem CM_ : Tv IZ:=⟨by simp[IZ],fun x hx=>by rw[List.eq_of_mem_replicate hx];decide⟩
theorem Mn {r c:Nat} (hc:c<64):Tv (Ev r c):=by
 refine⟨by simp[Ev,IZ],fun x hx=> ?_⟩
 rcases eU0 hx with h | h
 ·exact CM_.2 x h
 ·rw[h];exact Nat.pow_lt_pow_right (by omega) hc
theorem Vc {a b:IU} (ha:Tv a) (hb:Tv b):Tv (orB a b):=by
 refine⟨by simp[orB,ha.1,hb.1],fun x hx=> ?_⟩;obtain⟨i,hi,rfl⟩:=bX0 hx;simp only[orB,List.getElem_zipWith];exact Nat.or_lt_two_pow (ha.2 _ (bW0 _)) (hb.2 _ (bW0 _))
theorem IM {b:IU} {r:Nat} (h:r<b.length):b.getD r 0=b[r]:=by rw[aO0,aE0 h];rfl
theorem VW (r c:Nat):Jm IZ r c=false:=by
 unfold Jm IZ;rw[aO0,dR0]
 split<;>simp
theorem YF {r c:Nat} (hr:r<64) (r' c':Nat):Jm (Ev r c) r' c'=(decide (r=r')&&decide (c=c')):=by
 unfold Jm Ev;rw[aO0]
 by_cases h:r=r'
 ·subst h;rw[fD0 (by simp[IZ];omega)];simp[Nat.testBit_two_pow]
 ·rw[List.getElem?_set_ne h];have:=VW r' c';unfold Jm at this;rw[aO0]at this;rw[this];simp[h]
theorem FU_ {a b:IU} (ha:Tv a) (hb:Tv b) {r:Nat} (hr:r<64) (c:Nat):Jm (orB a b) r c=(Jm a r c||Jm b r c):=by
 unfold Jm;rw[IM (by simp[orB,ha.1,hb.1];exact hr),IM (by rw[ha.1];exact hr),IM (by rw[hb.1];exact hr)];simp only[orB,List.getElem_zipWith,Nat.testBit_or]
structure Qd where
 ps:List Nat
 lv:List IU
 cnt:Nat
structure QdI (q:Qd):Prop where
 p4:q.ps.length=4
 lo:∀p∈q.ps,p<=q.lv.length
 inj:∀i j:Nat,i<4->j<4->q.ps.getD i 0=q.ps.getD j 0->q.ps.getD i 0≠0->i=j
 ok:∀b∈q.lv,Tv b
def Ec (i j:Nat):Nat:=2*(i/64)+j/64
def Ic (q:Qd) (i j:Nat):Bool:=match q.ps.getD (Ec i j) 0 with
 | 0=>false
 | n+1=>Jm (q.lv.getD n IZ) (i%64) (j%64)
def CX (q:Qd) (k:Nat):Qd:=if q.ps.getD k 0=0 then ⟨q.ps.set k (q.lv.length+1),q.lv++[IZ],q.cnt⟩else q
def orQ (q:Qd) (k r c:Nat):Qd:=⟨q.ps,q.lv.set (q.ps.getD k 0-1) (orB (q.lv.getD (q.ps.getD k 0-1) IZ) (Ev r c)),q.cnt+1⟩
def Qj (q:Qd) (i j:Nat):Qd:=if Ic q i j then q else orQ (CX q (Ec i j)) (Ec i j) (i%64) (j%64)
def LF : Qd:=⟨[0,0,0,0],[],0⟩
theorem Bf_ : QdI LF:=⟨rfl,by simp[LF],fun i j hi hj h h0=>by
 exfalso
 apply h0
 unfold LF;simp only
 match i,hi with
 | 0,_=>rfl
 | 1,_=>rfl
 | 2,_=>rfl
 | 3,_=>rfl,by simp[LF]⟩
theorem Kk {i j:Nat} (hi:i<128) (hj:j<128):Ec i j<4:=by unfold Ec;omega
theorem BS_ {i j i' j':Nat} (hj:j<128) (jG:j'<128) (h:Ec i j=Ec i' j'):i/64=i'/64/\j/64=j'/64:=by unfold Ec at h;omega
theorem XZ {l:List Nat} (h:l.length=4) {k:Nat} (hk:k<4):l.getD k 0∈l:=by
 rw[aO0,aE0 (by omega)];exact bW0 _
theorem HM {l:List Nat} {k v:Nat} (h:k<l.length):(l.set k v).getD k 0=v:=by
 rw[aO0,fD0 h];rfl
theorem Pr {l:List Nat} {k j v:Nat} (h:k≠j):(l.set k v).getD j 0=l.getD j 0:=by
 rw[aO0,List.getElem?_set_ne h,aO0]
theorem Rn {q:Qd} (h:QdI q) {k:Nat} (hk:k<4):QdI (CX q k)/\(CX q k).ps.getD k 0≠0/\(∀i j:Nat,i<128->j<128->Ic (CX q k) i j=Ic q i j)/\(CX q k).cnt=q.cnt:=by
 unfold CX
 split
 ·rename_i h0;have wR:k<q.ps.length:=by rw[h.p4];exact hk
  have hn:∀j,j<4->q.ps.getD j 0<=q.lv.length:=fun j hj=>h.lo _ (XZ h.p4 hj)
  refine⟨⟨by simp[h.p4],fun p hp=> ?_,fun i j hi hj he qF=> ?_,fun b hb=> ?_⟩,?_,fun i j hi hj=> ?_,rfl⟩
  ·simp only[aC0,List.length_singleton]
   rcases eU0 hp with hp | hp
   ·have:=h.lo p hp;omega
   ·omega
  ·simp only at he qF
   by_cases jL:k=i
   ·subst jL
    by_cases nH:k=j
    ·exact nH
    ·rw[HM wR,Pr nH]at he;have:=hn j hj;omega
   ·rw[Pr jL]at he qF
    by_cases nH:k=j
    ·subst nH;rw[HM wR]at he;have:=hn i hi;omega
    ·rw[Pr nH]at he;exact h.inj i j hi hj he qF
  ·rcases aH0.1 hb with hb | hb
   ·exact h.ok b hb
   ·rw[aF0.1 hb];exact CM_
  ·simp only;rw[HM wR];omega
  ·unfold Ic;simp only
   by_cases hw:k=Ec i j
   ·subst hw;rw[HM wR,h0];simp only;rw[aO0,bB0 (Nat.le_refl _)];simp[VW]
   ·rw[Pr hw];have yW:=hn (Ec i j) (Kk hi hj)
    cases hv:q.ps.getD (Ec i j) 0 with
    | zero=>rfl
    | succ n =>
     simp only;rw[aO0,aZ0 (by omega),<-aO0]
 ·exact⟨h,by assumption,fun _ _ _ _=>rfl,rfl⟩
theorem EQ_ {q:Qd} (h:QdI q) {i j:Nat} (hi:i<128) (hj:j<128):QdI (Qj q i j)/\(∀i' j':Nat,i'<128->j'<128->Ic (Qj q i j) i' j'=(Ic q i' j'||(decide (i=i')&&decide (j=j'))))/\(Qj q i j).cnt=q.cnt+(if Ic q i j then 0 else 1):=by
 unfold Qj
 split
 ·rename_i hg;refine⟨h,fun i' j' _ _=> ?_,by simp⟩
  by_cases he:i=i'/\j=j'
  ·obtain⟨rfl,rfl⟩:=he;rw[hg];rfl
  ·have:(decide (i=i')&&decide (j=j'))=false:=by simpa using he
   rw[this,Bool.or_false]
 ·rename_i hg;have hk:=Kk hi hj;obtain⟨g1,g2,g3,g4⟩:=Rn h hk;have hg':Ic (CX q (Ec i j)) i j=false:=by rw[g3 i j hi hj];simpa using hg
  rw[<-g4];have vF:∀i' j',i'<128->j'<128->Ic q i' j'=Ic (CX q (Ec i j)) i' j':=fun i' j' a b=>(g3 i' j' a b).symm
  obtain⟨Q,hQ⟩:∃Q,Q=CX q (Ec i j):=⟨_,rfl⟩;rw[<-hQ]at g1 g2 hg' vF |-;obtain⟨n,hn⟩:∃n,Q.ps.getD (Ec i j) 0=n+1:=⟨_,(Nat.succ_pred_eq_of_pos (by omega)).symm⟩;have cZ:n<Q.lv.length:=by have:=g1.lo _ (XZ g1.p4 hk);omega
  have hb:Tv (Q.lv.getD n IZ):=by
   rw[aO0,aE0 cZ];exact g1.ok _ (bW0 _)
  have qC:Tv (Ev (i%64) (j%64)):=Mn (eF0 _ (by omega));refine⟨⟨g1.p4,fun p hp=>by simpa[orQ]using g1.lo p hp,g1.inj,fun b qM=> ?_⟩,fun i' j' zC jG=> ?_,?_⟩
  ·unfold orQ at qM;simp only[hn,eQ0]at qM
   rcases eU0 qM with qM | qM
   ·exact g1.ok b qM
   ·rw[qM];exact Vc hb qC
  ·rw[vF i' j' zC jG];unfold Ic orQ;simp only[hn,eQ0]
   by_cases hw:Ec i' j'=Ec i j
   ·rw[hw,hn];simp only;rw[aO0,fD0 cZ];simp only[bZ0];rw[FU_ hb qC (eF0 _ (by omega)),YF (eF0 _ (by omega))];obtain⟨w1,w2⟩:=BS_ jG hj hw;have e1:decide (i%64=i'%64)=decide (i=i'):=decide_eq_decide.2 (by omega);have e2:decide (j%64=j'%64)=decide (j=j'):=decide_eq_decide.2 (by omega);rw[e1,e2]
   ·have qF:(decide (i=i')&&decide (j=j'))=false:=by
     rw[Bool.and_eq_false_iff]
     by_cases he:i=i'
     ·right
      subst he;simp only[decide_eq_false_iff_not];intro vM;subst vM;exact hw rfl
     ·left;simpa using he
    rw[qF,Bool.or_false]
    cases hv:Q.ps.getD (Ec i' j') 0 with
    | zero=>rfl
    | succ m =>
     simp only
     have hmn:n≠m:=fun e=>by
      subst e;have:=g1.inj (Ec i' j') (Ec i j) (Kk zC jG) hk (by rw[hv,hn]) (by rw[hv];omega);exact hw this
     rw[aO0,List.getElem?_set_ne hmn,<-aO0]
  ·rfl
def QJ (l:List (Nat×Nat)):Qd:=l.foldl (fun q x=>Qj q x.1 x.2) LF
theorem QI (l:List (Nat×Nat)) (x:Nat×Nat):QJ (l++[x])=Qj (QJ l) x.1 x.2:=by unfold QJ;rw[cY0];rfl
theorem Ff_ : ∀(n:Nat) (l:List (Nat×Nat)),l.length=n->(∀x∈l,x.1<128/\x.2<128)->QdI (QJ l)/\(∀i j:Nat,i<128->j<128->Ic (QJ l) i j=decide ((i,j)∈l))/\(l.Nodup->(QJ l).cnt=l.length):=by
 intro n
 induction n with
 | zero =>
  intro l mP _;have:=cZ0.1 mP;subst this;refine⟨Bf_,fun i j hi hj=> ?_,fun _=>rfl⟩;have h4:=Kk hi hj;unfold Ic QJ LF;simp only[List.foldl_nil]
  generalize Ec i j=k at *
  match k,h4 with
  | 0,_=>rfl
  | 1,_=>rfl
  | 2,_=>rfl
  | 3,_=>rfl
 | succ n ih =>
  intro l0 mP hl
  rcases List.eq_nil_or_concat l0 with rfl | ⟨l,x,rfl⟩
  ·simp at mP
  rw[List.concat_eq_append]at mP hl |-;obtain⟨a1,a2,a3⟩:=ih l (by simpa using mP) fun y hy=>hl y (aM0 _ hy)
  obtain⟨x1,x2⟩:=hl x (by simp);rw[QI];obtain⟨b1,b2,b3⟩:=EQ_ a1 x1 x2;refine⟨b1,fun i j hi hj=> ?_,fun hn=> ?_⟩
  ·rw[b2 i j hi hj,a2 i j hi hj];obtain⟨u,v⟩:=x;rw[eO0];simp only[cU0,aJ0,decide_eq_true_eq,aH0,aF0,aU0]
   constructor
   ·rintro (h | ⟨rfl,rfl⟩)
    ·exact .inl h
    ·exact .inr ⟨rfl,rfl⟩
   ·rintro (h | ⟨rfl,rfl⟩)
    ·exact .inl h
    ·exact .inr ⟨rfl,rfl⟩
  ·rw[bV0]at hn;obtain⟨n1,_,n3⟩:=hn;rw[b3,a2 _ _ x1 x2,a3 n1];have:¬(x.1,x.2)∈l:=fun hm=>n3 x hm x (by simp) rfl
   simp[this]
theorem CH_ {l:List (Nat×Nat)} (h:∀x∈l,x.1<128/\x.2<128):QdI (QJ l)/\(∀i j:Nat,i<128->j<128->Ic (QJ l) i j=decide ((i,j)∈l))/\(l.Nodup->(QJ l).cnt=l.length):=Ff_ l.length l rfl h
def w64 (x:Nat):DVal:= .int .u64 (x:Int)
def dB (b:IU):List DVal:=b.map w64
theorem DJ_ : ∀(a b:IU),Ck (dB a) (dB b)=decide (a=b)
 | [],[]=>rfl
 | [],_::_=>by simp[Ck,dB]
 | _::_,[]=>by simp[Ck,dB]
 | x::a,y::b=>by
  have ih:=DJ_ a b;unfold dB at ih |-;simp only[List.map_cons,Ck];rw[ih];rw[eO0];simp[TY,w64];omega
theorem EX_ {r c:Nat} (hr:r<64):Ev r c≠IZ:=fun h=>by
 have h1:=YF hr r c (c:=c);rw[h,VW]at h1;simp at h1
def Nb (x y:Nat):Nat:=(BitVec.ofNat 64 x &&& ~~~ BitVec.ofNat 64 y).toNat
theorem Bx_ (y:Nat):Nb 0 y=0:=by simp[Nb]
theorem Es_ {c y:Nat} (hc:c<64) (hy:y<2 ^ 64) (h:y.testBit c=false):Nb (2 ^ c) y=2 ^ c:=by
 have hp:2 ^ c<2 ^ 64:=Nat.pow_lt_pow_right (by omega) hc;unfold Nb
 have:BitVec.ofNat 64 (2 ^ c) &&& ~~~ BitVec.ofNat 64 y=BitVec.ofNat 64 (2 ^ c):=by
  apply BitVec.eq_of_getLsbD_eq
  intro i hi;simp only[BitVec.getLsbD_and,BitVec.getLsbD_not,BitVec.getLsbD_ofNat,hi,decide_true,cC0];rw[Nat.testBit_two_pow]
  by_cases hci:c=i
  ·subst hci;simp[h]
  ·simp[hci]
 rw[this,BitVec.toNat_ofNat,eJ0 hp]
def OB (a b:IU):IU:=List.zipWith Nb a b
theorem AC_ {r c:Nat} {b:IU} (hr:r<64) (hc:c<64) (hb:Tv b) (h:Jm b r c=false):OB (Ev r c) b=Ev r c:=by
 apply List.ext_getElem
 ·simp[OB,Ev,IZ,hb.1]
 ·intro i h1 h2;have hi:i<64:=by simpa[Ev,IZ]using h2
  simp only[OB,List.getElem_zipWith,Ev];rw[List.getElem_set]
  split
  ·rename_i he;subst he;refine Es_ hc (hb.2 _ (bW0 _)) ?_;unfold Jm at h;rw[IM (by rw[hb.1];exact hr)]at h;exact h
  ·simp only[IZ,List.getElem_replicate];exact Bx_ _
def Sx (f:Nat->Nat->Nat) (a b:IU) (k:Nat):IU:=(List.zipWith f a b).take k++a.drop k
theorem Wz (f:Nat->Nat->Nat) (a b:IU):Sx f a b 0=a:=by simp[Sx]
theorem UA {f:Nat->Nat->Nat} {a b:IU} (h:a.length=b.length) {k:Nat} (hk:k<=a.length):(Sx f a b k).length=a.length:=by simp[Sx,h];omega
theorem Gn_ {f:Nat->Nat->Nat} {a b:IU} {k:Nat} (h:k<a.length):(Sx f a b k)[k]? =a[k]? \/b.length<a.length:=by
 by_cases hb:b.length<a.length
 ·exact .inr hb
 ·left
  unfold Sx;rw[bB0 (by simp;omega)];simp only[bA0,List.length_zipWith,cL0]
  congr 1
  omega
theorem WB {f:Nat->Nat->Nat} {a b:IU} (h:a.length=b.length) {k:Nat} (hk:k<a.length):Sx f a b (k+1)=(Sx f a b k).set k (f (a[k]) (b[k]'(by omega))):=by
 have hz:k<(List.zipWith f a b).length:=by simp;omega
 apply eX0
 intro i;rw[List.getElem?_set];have l1:((List.zipWith f a b).take k).length=k:=by simp;omega
 have l2:((List.zipWith f a b).take (k+1)).length=k+1:=by simp;omega
 by_cases hi:k=i
 ·subst hi;rw[if_pos rfl,if_pos (by rw[UA h (by omega)];exact hk)];unfold Sx;rw[aZ0 (by rw[l2];omega),bN0 (by omega),aE0 hz,List.getElem_zipWith]
 ·rw[if_neg hi];unfold Sx
  by_cases mR:i<k
  ·rw[aZ0 (by rw[l2];omega),aZ0 (by rw[l1];omega),bN0 (by omega),bN0 mR]
  ·rw[bB0 (by rw[l2];omega),bB0 (by rw[l1];omega),l1,l2,cL0,cL0]
   congr 1
   omega
theorem oK {f:Nat->Nat->Nat} {a b:IU} (h:a.length=b.length):Sx f a b a.length=List.zipWith f a b:=by
 unfold Sx;rw[cD0 (by simp;omega),bT0,bO0]
end Go.Proofs.Wy
end
section
namespace Go.Dm
variable [DMode]
structure AnIs (P:Program) (an:Ann) (E:Prop):Prop where
 m:P.follows .mixedOrders=true
 e:E
theorem Ih_ {P:Program} (an:Ann) {E:Prop} (m:P.follows .mixedOrders=true) (e:E):AnIs P an E:=⟨m,e⟩
theorem ED_ {P:Program} {B:Base} {s:DS} {A:Ann} {E:Prop} {id:Nat} {ops:Array Oper} {draw:Bool} {Q:Exit->DS->Prop} (qQ:AnIs P A E) (qW:(!draw||Eb A.ow (Iq A.rs id).l1 (Iq A.rs id).l2 ops)=true)
 (h:Cl P B.nt A.ow (Iq A.rs id).l1 (Iq A.rs id).l2 ops ops.toList 0 (kQ Q (Iq A.rs id).fz) s):DW P B (.region id ops draw) Q s:=BV A qQ.m qW h
structure Spc (ρ ν:List (Nat×Nat)) (p:Prop):Prop where
 o:p
theorem KV (ρ ν:List (Nat×Nat)) {p:Prop} (h:p):Spc ρ ν p:=⟨h⟩
theorem Da {ρ ν:List (Nat×Nat)} {P:Program} {g:FuncId} {args args0:List DVal} {own own0 own0':List Ent} {d0:DVal} {K:ContE} (hS:Spc ρ ν (Bn P (.func g) args0 own0 d0 own0'))
 (wW:Lr own (BP own (DQ ρ)) (DQ ρ)=some own0/\Vy own ρ/\(Ve args/\wkA (args.map (Hr (BP own (DQ ρ)))) args0)/\(((ρ++ν).map (·.1)).Nodup/\(ρ.map (·.2)).Nodup)/\Vd own0'/\Vf d0)
 (hk:∀r,match Io (Dx own ρ ν r) own0' with
  | some l=>((Bj own ((ρ++ν).map (·.1))++l).map (·.id)).Nodup/\K.f (Hr (Dx own ρ ν r) d0) (Bj own ((ρ++ν).map (·.1))++l)
  | none=>False):Bt P g args own K:=AQ ρ ν hS.o wW hk
structure Hd (p:Prop):Prop where
 o:p
def Mk (p:Prop):Prop:=p
theorem GJ_ {p:Prop} (h:Mk p):p:=h
theorem Ah {p:Prop} (h:p):Mk p:=h
theorem Ab : True:=trivial
theorem AD {a:Prop} (h0:a):a/\True:=⟨h0,trivial⟩
theorem Au {a b:Prop} (h0:a) (h1:b):a/\b/\True:=⟨h0,h1,trivial⟩
theorem CD {a b c:Prop} (h0:a) (h1:b) (h2:c):a/\b/\c/\True:=⟨h0,h1,h2,trivial⟩
theorem GV {a b c d:Prop} (h0:a) (h1:b) (h2:c) (h3:d):a/\b/\c/\d/\True:=⟨h0,h1,h2,h3,trivial⟩
theorem Jh {a b c d e:Prop} (h0:a) (h1:b) (h2:c) (h3:d) (h4:e):a/\b/\c/\d/\e/\True:=⟨h0,h1,h2,h3,h4,trivial⟩
theorem GN {a b c d e f:Prop} (h0:a) (h1:b) (h2:c) (h3:d) (h4:e) (h5:f):a/\b/\c/\d/\e/\f/\True:=⟨h0,h1,h2,h3,h4,h5,trivial⟩
theorem Iw {a b c d e f g:Prop} (h0:a) (h1:b) (h2:c) (h3:d) (h4:e) (h5:f) (h6:g):a/\b/\c/\d/\e/\f/\g/\True:=⟨h0,h1,h2,h3,h4,h5,h6,trivial⟩
theorem KQ {a b c d e f g h:Prop} (h0:a) (h1:b) (h2:c) (h3:d) (h4:e) (h5:f) (h6:g) (h7:h):a/\b/\c/\d/\e/\f/\g/\h/\True:=⟨h0,h1,h2,h3,h4,h5,h6,h7,trivial⟩
theorem Ut {a b c d e f g h i:Prop} (h0:a) (h1:b) (h2:c) (h3:d) (h4:e) (h5:f) (h6:g) (h7:h) (h8:i):a/\b/\c/\d/\e/\f/\g/\h/\i/\True:=⟨h0,h1,h2,h3,h4,h5,h6,h7,h8,trivial⟩
theorem LL {a b c d e f g h i j:Prop} (h0:a) (h1:b) (h2:c) (h3:d) (h4:e) (h5:f) (h6:g) (h7:h) (h8:i) (h9:j):a/\b/\c/\d/\e/\f/\g/\h/\i/\j/\True:=⟨h0,h1,h2,h3,h4,h5,h6,h7,h8,h9,trivial⟩
theorem Jn {a b c d e f g h i j k:Prop} (h0:a) (h1:b) (h2:c) (h3:d) (h4:e) (h5:f) (h6:g) (h7:h) (h8:i) (h9:j) (mE:k):a/\b/\c/\d/\e/\f/\g/\h/\i/\j/\k/\True:=⟨h0,h1,h2,h3,h4,h5,h6,h7,h8,h9,mE,trivial⟩
theorem oC {a b c d e f g h i j k l:Prop} (h0:a) (h1:b) (h2:c) (h3:d) (h4:e) (h5:f) (h6:g) (h7:h) (h8:i) (h9:j) (mE:k) (pO:l):a/\b/\c/\d/\e/\f/\g/\h/\i/\j/\k/\l/\True:=⟨h0,h1,h2,h3,h4,h5,h6,h7,h8,h9,mE,pO,trivial⟩
theorem Je_ {a b c d e f g h i j k l m:Prop} (h0:a) (h1:b) (h2:c) (h3:d) (h4:e) (h5:f) (h6:g) (h7:h) (h8:i) (h9:j) (mE:k) (pO:l) (mM:m):a/\b/\c/\d/\e/\f/\g/\h/\i/\j/\k/\l/\m/\True:=⟨h0,h1,h2,h3,h4,h5,h6,h7,h8,h9,mE,pO,mM,trivial⟩
theorem GZ_ {a b c d e f g h i j k l m n:Prop} (h0:a) (h1:b) (h2:c) (h3:d) (h4:e) (h5:f) (h6:g) (h7:h) (h8:i) (h9:j) (mE:k) (pO:l) (mM:m) (h13:n):a/\b/\c/\d/\e/\f/\g/\h/\i/\j/\k/\l/\m/\n/\True:=⟨h0,h1,h2,h3,h4,h5,h6,h7,h8,h9,mE,pO,mM,h13,trivial⟩
theorem Ii_ {a b c d e f g h i j k l m n o:Prop} (h0:a) (h1:b) (h2:c) (h3:d) (h4:e) (h5:f) (h6:g) (h7:h) (h8:i) (h9:j) (mE:k) (pO:l) (mM:m) (h13:n) (h14:o):a/\b/\c/\d/\e/\f/\g/\h/\i/\j/\k/\l/\m/\n/\o/\True:=⟨h0,h1,h2,h3,h4,h5,h6,h7,h8,h9,mE,pO,mM,h13,h14,trivial⟩
theorem No {a b c d e f g h i j k l m n o p:Prop} (h0:a) (h1:b) (h2:c) (h3:d) (h4:e) (h5:f) (h6:g) (h7:h) (h8:i) (h9:j) (mE:k) (pO:l) (mM:m) (h13:n) (h14:o) (h15:p):a/\b/\c/\d/\e/\f/\g/\h/\i/\j/\k/\l/\m/\n/\o/\p/\True:=⟨h0,h1,h2,h3,h4,h5,h6,h7,h8,h9,mE,pO,mM,h13,h14,h15,trivial⟩
theorem Av {p c s a:Prop} (C:c) (S:s) (A:a) (h:c->s->a->p:=by
 (intro C S A;(repeat (first | refine AJ fun Kz hKz=> ?_ | (refine ED_ qQ (by kernel_rfl) ?_;simp[qQ.e,qX,A];try simp (disch:=omega) only[Al]) | refine Aq ?_ | (refine Bi ?_ ?_ ?_;(· (simp[qX,A];done));(try (rotate_left;(· (intro bO;(try simp[qX,A]at bO);done))))) | (refine AN ?_;simp[qQ.e,qX,A]) | ((first | refine AB ?_ | refine AA ?_);simp[qX,A]) | (intro bO;(try simp[qX,A]at bO);(try (exfalso;omega))) | ((first | refine Ag C.1 ?_ | (refine Af C.1 ?_ ?_;(· (simp;done))) | refine Ag C.2.1 ?_ | (refine Af C.2.1 ?_ ?_;(· (simp;done))) | refine Ag C.2.2.1 ?_ | (refine Af C.2.2.1 ?_ ?_;(· (simp;done))) | refine Ag C.2.2.2.1 ?_ | (refine Af C.2.2.2.1 ?_ ?_;(· (simp;done))) | refine Ag C.2.2.2.2.1 ?_ | (refine Af C.2.2.2.2.1 ?_ ?_;(· (simp;done))) | refine Ag C.2.2.2.2.2.1 ?_ | (refine Af C.2.2.2.2.2.1 ?_ ?_;(· (simp;done))) | refine Ag C.2.2.2.2.2.2.1 ?_ | (refine Af C.2.2.2.2.2.2.1 ?_ ?_;(· (simp;done))) | refine Ag C.2.2.2.2.2.2.2.1 ?_ | (refine Af C.2.2.2.2.2.2.2.1 ?_ ?_;(· (simp;done))));try simp[qX,A]) | (refine Da S.1 ?_ ?_;(· (simp[qX,A];done));(intro Kz;try simp[qX,A])) | (refine Da S.2.1 ?_ ?_;(· (simp[qX,A];done));(intro Kz;try simp[qX,A])) | (refine Da S.2.2.1 ?_ ?_;(· (simp[qX,A];done));(intro Kz;try simp[qX,A])) | (refine Da S.2.2.2.1 ?_ ?_;(· (simp[qX,A];done));(intro Kz;try simp[qX,A])) | (refine⟨?_,?_⟩; · omega) | omega | apply_assumption -exfalso -symm | (exfalso;omega))))):p:=h C S A
theorem AG {p c s a q0:Prop} (C:c) (S:s) (A:a) (h0:q0) (h:c->s->a->Hd q0->p:=by
 (intro C S A k0;(repeat (first | refine AJ fun Kz hKz=> ?_ | (refine ED_ qQ (by kernel_rfl) ?_;simp[qQ.e,qX,A];try simp (disch:=omega) only[Al]) | refine Aq ?_ | (refine Bi ?_ ?_ ?_;(· (simp[qX,A];done));(try (rotate_left;(· (intro bO;(try simp[qX,A]at bO);done))))) | (refine AN ?_;simp[qQ.e,qX,A]) | ((first | refine AB ?_ | refine AA ?_);simp[qX,A]) | (intro bO;(try simp[qX,A]at bO);(try (exfalso;omega))) | ((first | refine Ag C.1 ?_ | (refine Af C.1 ?_ ?_;(· (simp;done))) | refine Ag C.2.1 ?_ | (refine Af C.2.1 ?_ ?_;(· (simp;done))) | refine Ag C.2.2.1 ?_ | (refine Af C.2.2.1 ?_ ?_;(· (simp;done))) | refine Ag C.2.2.2.1 ?_ | (refine Af C.2.2.2.1 ?_ ?_;(· (simp;done))) | refine Ag C.2.2.2.2.1 ?_ | (refine Af C.2.2.2.2.1 ?_ ?_;(· (simp;done))) | refine Ag C.2.2.2.2.2.1 ?_ | (refine Af C.2.2.2.2.2.1 ?_ ?_;(· (simp;done))) | refine Ag C.2.2.2.2.2.2.1 ?_ | (refine Af C.2.2.2.2.2.2.1 ?_ ?_;(· (simp;done))) | refine Ag C.2.2.2.2.2.2.2.1 ?_ | (refine Af C.2.2.2.2.2.2.2.1 ?_ ?_;(· (simp;done))));try simp[qX,A]) | (refine Da S.1 ?_ ?_;(· (simp[qX,A];done));(intro Kz;try simp[qX,A])) | (refine Da S.2.1 ?_ ?_;(· (simp[qX,A];done));(intro Kz;try simp[qX,A])) | (refine Da S.2.2.1 ?_ ?_;(· (simp[qX,A];done));(intro Kz;try simp[qX,A])) | (refine Da S.2.2.2.1 ?_ ?_;(· (simp[qX,A];done));(intro Kz;try simp[qX,A])) | (refine⟨?_,?_⟩; · omega) | omega | apply_assumption -exfalso -symm | (exfalso;omega)));refine GJ_ ?_;(repeat (first | revert bO | revert Kz));exact k0.o)):p:=h C S A ⟨h0⟩
theorem go2 {p c s a q0 q1:Prop} (C:c) (S:s) (A:a) (h0:q0) (h1:q1) (h:c->s->a->Hd q0->Hd q1->p:=by
 (intro C S A k0 k1;(repeat (first | refine AJ fun Kz hKz=> ?_ | (refine ED_ qQ (by kernel_rfl) ?_;simp[qQ.e,qX,A];try simp (disch:=omega) only[Al]) | refine Aq ?_ | (refine Bi ?_ ?_ ?_;(· (simp[qX,A];done));(try (rotate_left;(· (intro bO;(try simp[qX,A]at bO);done))))) | (refine AN ?_;simp[qQ.e,qX,A]) | ((first | refine AB ?_ | refine AA ?_);simp[qX,A]) | (intro bO;(try simp[qX,A]at bO);(try (exfalso;omega))) | ((first | refine Ag C.1 ?_ | (refine Af C.1 ?_ ?_;(· (simp;done))) | refine Ag C.2.1 ?_ | (refine Af C.2.1 ?_ ?_;(· (simp;done))) | refine Ag C.2.2.1 ?_ | (refine Af C.2.2.1 ?_ ?_;(· (simp;done))) | refine Ag C.2.2.2.1 ?_ | (refine Af C.2.2.2.1 ?_ ?_;(· (simp;done))) | refine Ag C.2.2.2.2.1 ?_ | (refine Af C.2.2.2.2.1 ?_ ?_;(· (simp;done))) | refine Ag C.2.2.2.2.2.1 ?_ | (refine Af C.2.2.2.2.2.1 ?_ ?_;(· (simp;done))) | refine Ag C.2.2.2.2.2.2.1 ?_ | (refine Af C.2.2.2.2.2.2.1 ?_ ?_;(· (simp;done))) | refine Ag C.2.2.2.2.2.2.2.1 ?_ | (refine Af C.2.2.2.2.2.2.2.1 ?_ ?_;(· (simp;done))));try simp[qX,A]) | (refine Da S.1 ?_ ?_;(· (simp[qX,A];done));(intro Kz;try simp[qX,A])) | (refine Da S.2.1 ?_ ?_;(· (simp[qX,A];done));(intro Kz;try simp[qX,A])) | (refine Da S.2.2.1 ?_ ?_;(· (simp[qX,A];done));(intro Kz;try simp[qX,A])) | (refine Da S.2.2.2.1 ?_ ?_;(· (simp[qX,A];done));(intro Kz;try simp[qX,A])) | (refine⟨?_,?_⟩; · omega) | omega | apply_assumption -exfalso -symm | (exfalso;omega)));refine GJ_ ?_;(repeat (first | revert bO | revert Kz));exact k0.o;refine GJ_ ?_;(repeat (first | revert bO | revert Kz));exact k1.o)):p:=h C S A ⟨h0⟩ ⟨h1⟩
theorem Ac (ids:List Nat) {P:Program} {f:FuncId} {fn:Func} {c:Code} {args:List DVal} {d:DVal} {n:Nat} (an:Ann) {E:Prop} (hf:P.funcs[f]? =some fn) (vG:Enters P f) (hn:fn.ntmps=n) (hm:P.follows .mixedOrders=true) (hE:E) (hb:fn.body=some c) (h:Lm args->∀B:Base,B.nt=n/\B.ro=none->AnIs P an E->DW P B c (uR P fn ids d) ⟨Am args 0,[]⟩) (qX:args.length<=n:=by simp) (hd:mx d=0:=by simp[mx]):Ae P f args d :=
 Wr ids hf hb vG (hn▸qX) hd fun qJ B hB=>h qJ B (hn▸hB) ⟨hm,hE⟩
theorem Cd (ids:List Nat) (ρ:List (Nat×Nat×Nat)) {P:Program} {f:FuncId} {fn:Func} {c:Code} {args:List DVal} {own own':List Ent} {d:DVal} {n:Nat} (an:Ann) {E:Prop} (hf:P.funcs[f]? =some fn) (vG:Enters P f) (hn:fn.ntmps=n) (hm:P.follows .mixedOrders=true) (hE:E) (hb:fn.body=some c) (h:Lm args->∀B:Base,B.nt=n/\B.ro=none->AnIs P an E->DW P B c (aD P fn ids ρ d own') ⟨Am args 0,own⟩) (qX:args.length<=n:=by simp) (hρ:(ρ.map (·.2.1)).Nodup/\(ρ.map (·.1)).Nodup:=by simp) (hv:own'.all (fun e=>decide (e.r<=1))=true:=by simp):Bn P (.func f) args own d own' :=
 aG ids ρ hf hb vG (hn▸qX) hρ hv fun qJ B hB=>h qJ B (hn▸hB) ⟨hm,hE⟩
theorem wq {x:Int} (h1: -9223372036854775808<=x:=by omega) (h2:x<=9223372036854775807:=by omega):IntKind.i64.wrap x=x:=Al h1 h2
end Go.Dm
end
