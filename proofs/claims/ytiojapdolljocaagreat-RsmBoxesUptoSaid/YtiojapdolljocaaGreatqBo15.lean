/- Parts of a proof, laid together: EnV, W0, QD0, QD1, EnGo. -/
import Derived.Test.YtiojapdolljocaaGreatqBo8
import Derived.Test.YtiojapdolljocaaGreatqBo9
import Derived.Test.YtiojapdolljocaaGreatqBo14
set_option linter.unusedSimpArgs false
set_option maxHeartbeats 8000000
set_option linter.unusedVariables false
set_option linter.unusedSectionVars false
section
namespace Go.Dm
variable [DMode]
theorem St.out {own own':List Ent} {loc:Nat->Loc} {M:List Nat} {h:Array Obj} (ρ:List (Nat×Nat×Nat)) (S:St own loc M h) (hρ:(ρ.map (·.2.1)).Nodup/\(ρ.map (·.1)).Nodup)
  (ho:Km own (BJ own ρ) ρ=some own') (hk:Lg own ρ) :
  ∃loc',St own' loc' M h/\(∀b∈Aa own' loc',b∈Aa own loc)/\(∀x∈own',∃i e,(i,x.id,x.r)∈ρ/\Aj own i=some e/\loc' x.id=loc i/\(x.r=1\/(x.r=0/\i=x.id/\e.r=0))) /\
   (∀d v,TO d->rd (Ad own loc) (Aa own loc++M) h d v->rd (Ad own' loc') (Aa own' loc'++M) h (Gu (BJ own ρ) d) v):=by
 have h2:((ρ.map fun p=>(p.1,p.2.1)).map (·.2)).Nodup:=by rw[bY0];exact hρ.1
 have fZ:∀i j v,(i,j,v)∈ρ->loc ((Bx (ρ.map fun p=>(p.1,p.2.1)) j).getD 0)=loc i:=by
  intro i j v hm;rw[Cm h2 (aR0.2 ⟨(i,j,v),hm,rfl⟩)];rfl
 obtain⟨hm,yF⟩:=Lh ho
 have hx:∀x∈own',∃i e,(i,x.id,x.r)∈ρ/\Aj own i=some e/\x.obj=Ic (BJ own ρ) e.obj:=by
  intro x hx;obtain⟨i,j,v,e,h1,h2,rfl⟩:=hm x hx;exact⟨i,e,h1,h2,rfl⟩
 have hnd:(own'.map (·.id)).Nodup:=by rw[yF];exact hρ.1
 have yE:Aa own' (fun j=>loc ((Bx (ρ.map fun p=>(p.1,p.2.1)) j).getD 0))=Aa (own'.map fun x=>⟨(Bx (ρ.map fun p=>(p.1,p.2.1)) x.id).getD 0,0,x.obj⟩) loc:=by
  simp[Aa,List.flatMap_map]
 have fJ:((own'.map fun x=>(⟨(Bx (ρ.map fun p=>(p.1,p.2.1)) x.id).getD 0,0,x.obj⟩:Ent)).map (·.id)).Nodup:=by
  rw[bY0]
  have:own'.map ((·.id)∘fun x=>(⟨(Bx (ρ.map fun p=>(p.1,p.2.1)) x.id).getD 0,0,x.obj⟩:Ent))=ρ.map (·.1):=by
   have e1:own'.map ((·.id)∘fun x=>(⟨(Bx (ρ.map fun p=>(p.1,p.2.1)) x.id).getD 0,0,x.obj⟩:Ent))=(own'.map (·.id)).map (fun j=>(Bx (ρ.map fun p=>(p.1,p.2.1)) j).getD 0):=by
    rw[bY0];rfl
   rw[e1,yF,bY0];refine bV0 fun p hp=> ?_
   simp only[Function.comp_def];rw[Cm h2 (aR0.2 ⟨p,hp,rfl⟩)];rfl
  rw[this];exact hρ.2
 have yC:∀b∈Aa own' (fun j=>loc ((Bx (ρ.map fun p=>(p.1,p.2.1)) j).getD 0)),b∈Aa own loc:=by
  intro b hb;obtain⟨x,qA,hb⟩:=bQ0.1 hb;obtain⟨i,e,h1,h2,_⟩:=hx x qA;simp only[fZ i _ _ h1]at hb;obtain⟨k1,k2⟩:=AA h2;rw[<-k2]at hb;exact AZ k1 hb
 have hM:∀b,b∈Aa own' (fun j=>loc ((Bx (ρ.map fun p=>(p.1,p.2.1)) j).getD 0))++M->b∈Aa own loc++M:=by
  intro b hb
  rcases aI0.1 hb with hb | hb
  ·exact aL0 _ (yC b hb)
  ·exact aP0 _ hb
 have W:Weak (Ad own loc) (Ad own' fun j=>loc ((Bx (ρ.map fun p=>(p.1,p.2.1)) j).getD 0)) (Aa own loc++M) (Aa own' (fun j=>loc ((Bx (ρ.map fun p=>(p.1,p.2.1)) j).getD 0))++M) h h 0 :=
  ⟨fun id r l hr=>by omega,fun b o _ (_:FY o=true) ho=>ho,fun b o hb (_:FY o=true) _ hm=>hb (hM b hm)⟩
 have L:FW (Ad own loc) (Ad own' fun j=>loc ((Bx (ρ.map fun p=>(p.1,p.2.1)) j).getD 0)) (BJ own ρ):=by
  intro i r p lc hp hl;obtain⟨e,h1,h2,h3⟩:=HC hp;obtain⟨e0,_,g1,_,g3⟩:=BC hl;obtain⟨k1,k2⟩:=AA h2;rw[<-h3,<-k2,AG S.nd k1,g3,fZ i p.1 p.2 h1,k2]
 refine⟨fun j=>loc ((Bx (ρ.map fun p=>(p.1,p.2.1)) j).getD 0),⟨hnd,?_,fun b hb=>S.ap b (yC b hb),fun b hb=>S.lt b (hM b hb),?_⟩,yC,?_,fun d v hd hr=>Oh W L hd hr⟩
 ·rw[yE];refine FN S.bl _ fJ fun e he=> ?_
  obtain⟨x,qA,rfl⟩:=aR0.1 he;obtain⟨i,e,h1,kH,_⟩:=hx x qA;simp only[Cm h2 (aR0.2 ⟨_,h1,rfl⟩),bZ0];exact⟨e,AA kH⟩
 ·intro x qA;obtain⟨i,e,h1,kH,h3⟩:=hx x qA;obtain⟨e',h4,h5,_⟩:=Jo hk i _ _ h1;rw[kH]at h4;simp only[aA0]at h4;subst h4;obtain⟨k1,k2⟩:=AA kH;rw[h3];exact JE W L (l:=loc i) h5 (fZ i _ _ h1) (fun b o _ ho=>ho) (by have:=S.ok e k1;rwa[k2]at this)
 ·intro x qA;obtain⟨i,e,h1,kH,h3⟩:=hx x qA;obtain⟨e',h4,_,h5⟩:=Jo hk i _ _ h1;rw[kH]at h4;simp only[aA0]at h4;subst h4;exact⟨i,e,h1,kH,fZ i _ _ h1,h5⟩
def UX : List Ent->Prop
 | []=>True
 | e::t=>(match e.obj with
  | .row _ _ bs es=>es.length*bs<=150000000000000/\es.length<=maxLen/\oM es
  | .box cs=>JP cs
  | .map ks vs=>JP ks/\JP vs
  | .abs _=>True)/\UX t
theorem DM_ {own:List Ent} {loc:Nat->Loc} {M:List Nat} {h:Array Obj} (S:St own loc M h):UX own:=by
 have key:∀l:List Ent,(∀e∈l,e∈own)->UX l:=by
  intro l
  induction l with
  | nil=>intro _;trivial
  | cons e t ih =>
   intro hm;refine⟨?_,ih fun x hx=>hm x (aF0 _ hx)⟩;have hk:=S.ok e (hm e aH0)
   cases qO:e.obj with
   | box cs=>rw[qO]at hk;obtain⟨b,arr,ty,_,_,_,h4⟩:=hk;exact TD cs arr 0 h4
   | row et k bs es =>
    rw[qO]at hk;obtain⟨h0,⟨rfl,_⟩ | ⟨b,arr,cap,_,_,_,h4,h5,_,h7⟩⟩:=hk
    ·exact⟨by simp,by simp,by simp[oM]⟩
    ·exact⟨h0,Nat.le_trans h4 h5,YZ _ _ _ _ h7⟩
   | map ks vs=>rw[qO]at hk;obtain⟨b,es,clk,_,_,_,h4,h5⟩:=hk;exact⟨FC _ _ h4,FC _ _ h5⟩
   | abs A=>trivial
 exact key own fun _ h=>h
theorem Mg (ids:List Nat) (ρ:List (Nat×Nat×Nat)) {P:Program} {f:FuncId} {fn:Func} {c:Code} {args:List DVal} {own own':List Ent} {d:DVal} (hf:P.funcs[f]? =some fn) (hb:fn.body=some c) (vH:Enters P f) (qX:args.length<=fn.ntmps)
  (hρ:(ρ.map (·.2.1)).Nodup/\(ρ.map (·.1)).Nodup) (hv:own'.all (fun e=>decide (e.r<=1))=true)
  (h:JP args->UX own->∀B:Base,B.nt=fn.ntmps/\B.ro=none->DW P B c (Yt P fn ids ρ d own') ⟨Ak args 0,own⟩):Bh P (.func f) args own d own':=by
 refine⟨fun e he=>by simpa using bB0.1 hv e he,vH,fun M w loc vs S hr=> ?_⟩
 have key:∀B:Base,B.nt=fn.ntmps/\B.ro=none->DW P B c (tX P fn fun s d0=>TO d0/\wk (Gu (BJ s.own ρ) d0) d/\Km s.own (BJ s.own ρ) ρ=some own'/\Lg s.own ρ) ⟨Ak args 0,own⟩:=by
  intro B hB a w loc R;refine wpIn_mono (h (FC _ _ hr) (DM_ S) B hB a w loc R) ?_;rintro e a' w' ⟨s',loc',hq,R'⟩;obtain⟨loc'',R''⟩:=Sub.freezeL ids s' a' w' loc' R';refine⟨freezeL s' ids,loc'',?_,R''⟩
  cases e<;>simp only[Yt]at hq<;>first
   |(split at hq
     ·rename_i d0 fS;exact⟨d0,fS,hq⟩
     ·exact hq.elim)
   | exact hq.elim
 refine Mf (N:=1) (Nat.le_refl 1) hf hb vH qX S (fun _ _ _=>trivial) hr key ?_;intro s loc' w' d0 v ⟨hd,hw,ho,hk⟩ S' hu wZ vC wT;obtain⟨loc1,S1,h1,h2,h3⟩:=S'.out ρ hρ ho hk;refine⟨loc1,S1,hu,fun b hb=>wZ b (h1 b hb),fun x hx qV=> ?_,aS hw (h3 d0 v hd wT)⟩;obtain⟨i,e,g1,g2,g3,g4⟩:=h2 x hx
 rcases g4 with g4 | ⟨g4,g5,g6⟩
 ·omega
 ·obtain⟨k1,k2⟩:=AA g2;have:=vC e k1 (by omega);rw[k2,g6]at this;rw[g3,g4,<-g5];exact this
theorem Yv (ids:List Nat) (ρ:List (Nat×Nat×Nat)) {P:Program} {f:FuncId} {fn:Func} {c:Code} {args:List DVal} {own own':List Ent} {d:DVal} (hf:P.funcs[f]? =some fn) (hb:fn.body=some c) (vH:Enters P f) (qX:args.length<=fn.ntmps)
  (hρ:(ρ.map (·.2.1)).Nodup/\(ρ.map (·.1)).Nodup) (hv:own'.all (fun e=>decide (e.r<=1))=true)
  (h:JP args->∀B:Base,B.nt=fn.ntmps/\B.ro=none->DW P B c (Yt P fn ids ρ d own') ⟨Ak args 0,own⟩):Bh P (.func f) args own d own' :=
 Mg ids ρ hf hb vH qX hρ hv fun qJ _=>h qJ
theorem AM (ρ ν:List (Nat×Nat)) {P:Program} {g:FuncId} {args args0:List DVal} {own own0 own0':List Ent} {d0:DVal} {K:ContE} (hS:Bh P (.func g) args0 own0 d0 own0')
  (wU:Km own (BJ own (DC ρ)) (DC ρ)=some own0/\Uf own ρ/\(TN args/\uG (args.map (Gu (BJ own (DC ρ)))) args0)/\(((ρ++ν).map (·.1)).Nodup/\(ρ.map (·.2)).Nodup)/\TM own0'/\TO d0)
  (hk:∀r,match Hn (Dn own ρ ν r) own0' with
   | some l=>((Bc own ((ρ++ν).map (·.1))++l).map (·.id)).Nodup/\K.f (Gu (Dn own ρ ν r) d0) (Bc own ((ρ++ν).map (·.1))++l)
   | none=>False):Bq P g args own K:=by
 intro r;have h:=hk r
 split at h
 ·rename_i l hl;exact⟨_,_,NV ρ ν hS wU.1 wU.2.1 wU.2.2.1 wU.2.2.2.1 hl wU.2.2.2.2.1 wU.2.2.2.2.2 h.1,h.2⟩
 ·exact h.elim
attribute [simp] DC Bx Dn Hn Bc TM TN Uf sX Dc_ Di_ QW QV AU Cf
end Go.Dm
end
section
namespace Go.Proofs.Wy
open Go Go.Dm Tryz
variable [DMode]
attribute [local irreducible] DW Bm Bq
structure Sym where
 label:Bool
 n:Int
 deriving DecidableEq
def Bf (s:Sym):List DVal:=[.bool s.label,.int .i64 s.n]
abbrev Fz_ (l:List Sym):DVal:= .sl 2 16 (l.map Bf)
structure Prod where
 head:Int
 body:List Sym
 deriving DecidableEq
def iL (p:Prod):List DVal:=[.int .i64 p.head,Fz_ p.body]
abbrev Eq_ (l:List Prod):DVal:= .sl 2 32 (l.map iL)
structure Cnf where
 nts:Int
 prods:List Prod
 deriving DecidableEq
def FA_ (c:Cnf):List DVal:=[.int .i64 c.nts,Eq_ c.prods]
theorem mxd : Tryz.prog.follows .mixedOrders=true:=by kernel_rfl
theorem Ie {α:Type} (f:α->List DVal) (h:∀x,AH (f x)=0) (l:List α):Bo (l.map f)=0:=by
 induction l with
 | nil=>rfl
 | cons x l ih=>simp[Bo,h,ih]
@[simp] theorem CF_ (s:Sym):AH (Bf s)=0:=by simp[Bf,AH,mx]
@[simp] theorem Fl_ (l:List Sym):Bo (l.map Bf)=0:=Ie _ CF_ l
@[simp] theorem Ae_ (p:Prod):AH (iL p)=0:=by simp[iL,AH,mx]
@[simp] theorem EF_ (l:List Prod):Bo (l.map iL)=0:=Ie _ Ae_ l
@[simp] theorem FV_ (c:Cnf):AH (FA_ c)=0:=by simp[FA_,AH,mx]
theorem YG {α:Type} {f:α->List DVal}:∀{l:List α} {k:Nat} {x:α},oM (l.map f)->l[k]? =some x->JP (f x)
 | a::l,0,x,h,hx=>by
  simp only[aZ0,aA0]at hx;subst hx;simp only[List.map_cons,oM]at h;exact h.1
 | a::l,k+1,x,h,hx=>by
  simp only[List.map_cons,oM]at h;exact YG h.2 (by simpa using hx)
theorem Ax {α:Type} {l:List α} {k:Nat} (h:k<l.length):∃x,l[k]? =some x/\l[k]=x/\x∈l:=⟨l[k],aD0 h,rfl,bT0 h⟩
end Go.Proofs.Wy
end
section
namespace Go.Proofs.Wy
open Go Go.Dm Tryz
variable [DMode]
theorem Ff_ {x y:Nat} (hx:x<2 ^ 64) (hy:y<2 ^ 64):iOr .u64 (x:Int) (y:Int)=((x ||| y:Nat):Int)/\x ||| y<2 ^ 64:=by
 have h:x ||| y<2 ^ 64:=Nat.or_lt_two_pow hx hy
 refine⟨?_,h⟩;unfold iOr
 have e:(BitVec.ofInt 64 (x:Int) ||| BitVec.ofInt 64 (y:Int)).toNat=x ||| y:=by
  rw[BitVec.toNat_or];simp only[BitVec.ofInt_natCast,BitVec.toNat_ofNat];rw[eA0 hx,eA0 hy]
 show IntKind.u64.wrap ((BitVec.ofInt 64 (x:Int) ||| BitVec.ofInt 64 (y:Int)).toNat:Int)=_
 rw[e];simp only[IntKind.wrap,IntKind.bits,IntKind.signed];simp;omega
theorem BI_ {x y:Nat} (hx:x<2 ^ 64) (hy:y<2 ^ 64):Lv .u64 (x:Int) (y:Int)=((BitVec.ofNat 64 x &&& ~~~ BitVec.ofNat 64 y).toNat:Int):=by
 unfold Lv
 show IntKind.u64.wrap ((BitVec.ofInt 64 (x:Int) &&& ~~~ BitVec.ofInt 64 (y:Int)).toNat:Int)=_
 simp only[BitVec.ofInt_natCast];have h:=(BitVec.ofNat 64 x &&& ~~~ BitVec.ofNat 64 y).isLt
 generalize (BitVec.ofNat 64 x &&& ~~~ BitVec.ofNat 64 y).toNat=z at *
 simp only[IntKind.wrap,IntKind.bits,IntKind.signed];simp;omega
theorem Cf_ {c:Nat} (hc:c<64):sH .u64 1 (c:Int)=((2 ^ c:Nat):Int):=by
 have h:2 ^ c<2 ^ 64:=Nat.pow_lt_pow_right (by omega) hc;unfold sH;simp only[IntKind.bits,dD0];rw[show min c 64=c by omega]
 generalize hz:(2:Nat) ^ c=z at *
 have:(1:Int)*2 ^ c=(z:Int):=by rw[<-hz];simp
 rw[this];simp only[IntKind.wrap,IntKind.bits,IntKind.signed];simp;omega
theorem Fx_ {x c:Nat} (hx:x<2 ^ 64) (hc:c<64):(IM .u64 (Ig .u64 (x:Int) (c:Int)) 1==1)=x.testBit c:=by
 unfold Ig;simp only[IntKind.bits,dD0];rw[show min c 64=c by omega]
 have e1:(x:Int).fdiv (2 ^ c)=((x/2 ^ c:Nat):Int):=by
  rw[show ((2:Int) ^ c)=((2 ^ c:Nat):Int) by simp,Int.fdiv_eq_ediv_of_nonneg _ (Int.natCast_nonneg _)];exact(Int.natCast_ediv x (2 ^ c)).symm
 rw[e1,Nat.testBit_eq_decide_div_mod_eq];have h:x/2 ^ c<2 ^ 64:=Nat.lt_of_le_of_lt (Nat.div_le_self _ _) hx
 generalize x/2 ^ c=z at *
 unfold IM
 have e2:(BitVec.ofInt 64 (z:Int) &&& BitVec.ofInt 64 1).toNat=z%2:=by
  rw[BitVec.toNat_and];simp only[BitVec.ofInt_natCast,BitVec.toNat_ofNat];rw[eA0 h];exact Nat.and_one_is_mod z
 have e3:IntKind.u64.wrap ((BitVec.ofInt 64 (z:Int) &&& BitVec.ofInt 64 1).toNat:Int)=((z%2:Nat):Int):=by
  rw[e2];have:z%2<2:=dW0 _ (by omega)
  generalize z%2=y at *
  simp only[IntKind.wrap,IntKind.bits,IntKind.signed];simp;omega
 show (IntKind.u64.wrap ((BitVec.ofInt 64 (z:Int) &&& BitVec.ofInt 64 1).toNat:Int)==1)=_
 rw[e3];rw[eF0];simp;omega
abbrev HR := List Nat
def Sd (b:HR):Prop:=b.length=64/\∀x∈b,x<2 ^ 64
def HV : HR:=List.replicate 64 0
def Ea (r c:Nat):HR:=HV.set r (2 ^ c)
def Ij (b:HR) (r c:Nat):Bool:=(b.getD r 0).testBit c
def xP (a b:HR):HR:=List.zipWith (· ||| ·) a b
theorem Ac_ : Sd HV:=⟨by simp[HV],fun x hx=>by rw[List.eq_of_mem_replicate hx];decide⟩
theorem Li {r c:Nat} (hc:c<64):Sd (Ea r c):=by
 refine⟨by simp[Ea,HV],fun x hx=> ?_⟩
 rcases eL0 hx with h | h
 ·exact Ac_.2 x h
 ·rw[h];exact Nat.pow_lt_pow_right (by omega) hc
theorem TL {a b:HR} (ha:Sd a) (hb:Sd b):Sd (xP a b):=by
 refine⟨by simp[xP,ha.1,hb.1],fun x hx=> ?_⟩;obtain⟨i,hi,rfl⟩:=bW0 hx;simp only[xP,List.getElem_zipWith];exact Nat.or_lt_two_pow (ha.2 _ (bT0 _)) (hb.2 _ (bT0 _))
theorem HL {b:HR} {r:Nat} (h:r<b.length):b.getD r 0=b[r]:=by rw[aM0,aD0 h];rfl
theorem Ux (r c:Nat):Ij HV r c=false:=by
 unfold Ij HV;rw[aM0,cZ0]
 split<;>simp
theorem Xi {r c:Nat} (hr:r<64) (r' c':Nat):Ij (Ea r c) r' c'=(decide (r=r')&&decide (c=c')):=by
 unfold Ij Ea;rw[aM0]
 by_cases h:r=r'
 ·subst h;rw[eR0 (by simp[HV];omega)];simp[Nat.testBit_two_pow]
 ·rw[List.getElem?_set_ne h];have:=Ux r' c';unfold Ij at this;rw[aM0]at this;rw[this];simp[h]
theorem Dt_ {a b:HR} (ha:Sd a) (hb:Sd b) {r:Nat} (hr:r<64) (c:Nat):Ij (xP a b) r c=(Ij a r c||Ij b r c):=by
 unfold Ij;rw[HL (by simp[xP,ha.1,hb.1];exact hr),HL (by rw[ha.1];exact hr),HL (by rw[hb.1];exact hr)];simp only[xP,List.getElem_zipWith,Nat.testBit_or]
structure Qd where
 ps:List Nat
 lv:List HR
 cnt:Nat
structure QdI (q:Qd):Prop where
 p4:q.ps.length=4
 lo:∀p∈q.ps,p<=q.lv.length
 inj:∀i j:Nat,i<4->j<4->q.ps.getD i 0=q.ps.getD j 0->q.ps.getD i 0≠0->i=j
 ok:∀b∈q.lv,Sd b
def DK (i j:Nat):Nat:=2*(i/64)+j/64
def Hb (q:Qd) (i j:Nat):Bool:=match q.ps.getD (DK i j) 0 with
 | 0=>false
 | n+1=>Ij (q.lv.getD n HV) (i%64) (j%64)
def CO (q:Qd) (k:Nat):Qd:=if q.ps.getD k 0=0 then ⟨q.ps.set k (q.lv.length+1),q.lv++[HV],q.cnt⟩else q
def orQ (q:Qd) (k r c:Nat):Qd:=⟨q.ps,q.lv.set (q.ps.getD k 0-1) (xP (q.lv.getD (q.ps.getD k 0-1) HV) (Ea r c)),q.cnt+1⟩
def OR (q:Qd) (i j:Nat):Qd:=if Hb q i j then q else orQ (CO q (DK i j)) (DK i j) (i%64) (j%64)
def KF : Qd:=⟨[0,0,0,0],[],0⟩
theorem sW : QdI KF:=⟨rfl,by simp[KF],fun i j hi hj h h0=>by
 exfalso
 apply h0
 unfold KF;simp only
 match i,hi with
 | 0,_=>rfl
 | 1,_=>rfl
 | 2,_=>rfl
 | 3,_=>rfl,by simp[KF]⟩
theorem Jf {i j:Nat} (hi:i<128) (hj:j<128):DK i j<4:=by unfold DK;omega
theorem uH {i j i' j':Nat} (hj:j<128) (kE:j'<128) (h:DK i j=DK i' j'):i/64=i'/64/\j/64=j'/64:=by unfold DK at h;omega
theorem WC {l:List Nat} (h:l.length=4) {k:Nat} (hk:k<4):l.getD k 0∈l:=by
 rw[aM0,aD0 (by omega)];exact bT0 _
theorem GM {l:List Nat} {k v:Nat} (h:k<l.length):(l.set k v).getD k 0=v:=by
 rw[aM0,eR0 h];rfl
theorem Og {l:List Nat} {k j v:Nat} (h:k≠j):(l.set k v).getD j 0=l.getD j 0:=by
 rw[aM0,List.getElem?_set_ne h,aM0]
theorem PT {q:Qd} (h:QdI q) {k:Nat} (hk:k<4):QdI (CO q k)/\(CO q k).ps.getD k 0≠0/\(∀i j:Nat,i<128->j<128->Hb (CO q k) i j=Hb q i j)/\(CO q k).cnt=q.cnt:=by
 unfold CO
 split
 ·rename_i h0;have wH:k<q.ps.length:=by rw[h.p4];exact hk
  have hn:∀j,j<4->q.ps.getD j 0<=q.lv.length:=fun j hj=>h.lo _ (WC h.p4 hj)
  refine⟨⟨by simp[h.p4],fun p hp=> ?_,fun i j hi hj he qE=> ?_,fun b hb=> ?_⟩,?_,fun i j hi hj=> ?_,rfl⟩
  ·simp only[aB0,List.length_singleton]
   rcases eL0 hp with hp | hp
   ·have:=h.lo p hp;omega
   ·omega
  ·simp only at he qE
   by_cases kA:k=i
   ·subst kA
    by_cases mE:k=j
    ·exact mE
    ·rw[GM wH,Og mE]at he;have:=hn j hj;omega
   ·rw[Og kA]at he qE
    by_cases mE:k=j
    ·subst mE;rw[GM wH]at he;have:=hn i hi;omega
    ·rw[Og mE]at he;exact h.inj i j hi hj he qE
  ·rcases aI0.1 hb with hb | hb
   ·exact h.ok b hb
   ·rw[aE0.1 hb];exact Ac_
  ·simp only;rw[GM wH];omega
  ·unfold Hb;simp only
   by_cases hw:k=DK i j
   ·subst hw;rw[GM wH,h0];simp only;rw[aM0,aX0 (Nat.le_refl _)];simp[Ux]
   ·rw[Og hw];have yL:=hn (DK i j) (Jf hi hj)
    cases hv:q.ps.getD (DK i j) 0 with
    | zero=>rfl
    | succ n =>
     simp only;rw[aM0,aV0 (by omega),<-aM0]
 ·exact⟨h,by assumption,fun _ _ _ _=>rfl,rfl⟩
theorem Cg_ {q:Qd} (h:QdI q) {i j:Nat} (hi:i<128) (hj:j<128):QdI (OR q i j)/\(∀i' j':Nat,i'<128->j'<128->Hb (OR q i j) i' j'=(Hb q i' j'||(decide (i=i')&&decide (j=j'))))/\(OR q i j).cnt=q.cnt+(if Hb q i j then 0 else 1):=by
 unfold OR
 split
 ·rename_i hg;refine⟨h,fun i' j' _ _=> ?_,by simp⟩
  by_cases he:i=i'/\j=j'
  ·obtain⟨rfl,rfl⟩:=he;rw[hg];rfl
  ·have:(decide (i=i')&&decide (j=j'))=false:=by simpa using he
   rw[this,Bool.or_false]
 ·rename_i hg;have hk:=Jf hi hj;obtain⟨g1,g2,g3,g4⟩:=PT h hk;have hg':Hb (CO q (DK i j)) i j=false:=by rw[g3 i j hi hj];simpa using hg
  rw[<-g4];have fL:∀i' j',i'<128->j'<128->Hb q i' j'=Hb (CO q (DK i j)) i' j':=fun i' j' a b=>(g3 i' j' a b).symm
  obtain⟨Q,hQ⟩:∃Q,Q=CO q (DK i j):=⟨_,rfl⟩;rw[<-hQ]at g1 g2 hg' fL |-;obtain⟨n,hn⟩:∃n,Q.ps.getD (DK i j) 0=n+1:=⟨_,(Nat.succ_pred_eq_of_pos (by omega)).symm⟩;have gP:n<Q.lv.length:=by have:=g1.lo _ (WC g1.p4 hk);omega
  have hb:Sd (Q.lv.getD n HV):=by
   rw[aM0,aD0 gP];exact g1.ok _ (bT0 _)
  have qD:Sd (Ea (i%64) (j%64)):=Li (dW0 _ (by omega));refine⟨⟨g1.p4,fun p hp=>by simpa[orQ]using g1.lo p hp,g1.inj,fun b qG=> ?_⟩,fun i' j' zO kE=> ?_,?_⟩
  ·unfold orQ at qG;simp only[hn,Nat.add_sub_cancel]at qG
   rcases eL0 qG with qG | qG
   ·exact g1.ok b qG
   ·rw[qG];exact TL hb qD
  ·rw[fL i' j' zO kE];unfold Hb orQ;simp only[hn,Nat.add_sub_cancel]
   by_cases hw:DK i' j'=DK i j
   ·rw[hw,hn];simp only;rw[aM0,eR0 gP];simp only[bZ0];rw[Dt_ hb qD (dW0 _ (by omega)),Xi (dW0 _ (by omega))];obtain⟨w1,w2⟩:=uH kE hj hw;have e1:decide (i%64=i'%64)=decide (i=i'):=decide_eq_decide.2 (by omega);have e2:decide (j%64=j'%64)=decide (j=j'):=decide_eq_decide.2 (by omega);rw[e1,e2]
   ·have qE:(decide (i=i')&&decide (j=j'))=false:=by
     rw[Bool.and_eq_false_iff]
     by_cases he:i=i'
     ·right
      subst he;simp only[decide_eq_false_iff_not];intro vA;subst vA;exact hw rfl
     ·left;simpa using he
    rw[qE,Bool.or_false]
    cases hv:Q.ps.getD (DK i' j') 0 with
    | zero=>rfl
    | succ m =>
     simp only
     have hmn:n≠m:=fun e=>by
      subst e;have:=g1.inj (DK i' j') (DK i j) (Jf zO kE) hk (by rw[hv,hn]) (by rw[hv];omega);exact hw this
     rw[aM0,List.getElem?_set_ne hmn,<-aM0]
  ·rfl
def Rl (l:List (Nat×Nat)):Qd:=l.foldl (fun q x=>OR q x.1 x.2) KF
theorem Pn (l:List (Nat×Nat)) (x:Nat×Nat):Rl (l++[x])=OR (Rl l) x.1 x.2:=by unfold Rl;rw[dC0];rfl
theorem Cv_ : ∀(n:Nat) (l:List (Nat×Nat)),l.length=n->(∀x∈l,x.1<128/\x.2<128)->QdI (Rl l)/\(∀i j:Nat,i<128->j<128->Hb (Rl l) i j=decide ((i,j)∈l))/\(l.Nodup->(Rl l).cnt=l.length):=by
 intro n
 induction n with
 | zero =>
  intro l dG _;have:=cS0.1 dG;subst this;refine⟨sW,fun i j hi hj=> ?_,fun _=>rfl⟩;have h4:=Jf hi hj;unfold Hb Rl KF;simp only[List.foldl_nil]
  generalize DK i j=k at *
  match k,h4 with
  | 0,_=>rfl
  | 1,_=>rfl
  | 2,_=>rfl
  | 3,_=>rfl
 | succ n ih =>
  intro l0 dG hl
  rcases List.eq_nil_or_concat l0 with rfl | ⟨l,x,rfl⟩
  ·simp at dG
  rw[List.concat_eq_append]at dG hl |-;obtain⟨a1,a2,a3⟩:=ih l (by simpa using dG) fun y hy=>hl y (aL0 _ hy)
  obtain⟨x1,x2⟩:=hl x (by simp);rw[Pn];obtain⟨b1,b2,b3⟩:=Cg_ a1 x1 x2;refine⟨b1,fun i j hi hj=> ?_,fun hn=> ?_⟩
  ·rw[b2 i j hi hj,a2 i j hi hj];obtain⟨u,v⟩:=x;rw[eF0];simp only[cV0,aN0,decide_eq_true_eq,aI0,aE0,_root_.Prod.mk.injEq]
   constructor
   ·rintro (h | ⟨rfl,rfl⟩)
    ·exact .inl h
    ·exact .inr ⟨rfl,rfl⟩
   ·rintro (h | ⟨rfl,rfl⟩)
    ·exact .inl h
    ·exact .inr ⟨rfl,rfl⟩
  ·rw[bS0]at hn;obtain⟨n1,_,n3⟩:=hn;rw[b3,a2 _ _ x1 x2,a3 n1];have:¬(x.1,x.2)∈l:=fun hm=>n3 x hm x (by simp) rfl
   simp[this]
theorem xW {l:List (Nat×Nat)} (h:∀x∈l,x.1<128/\x.2<128):QdI (Rl l)/\(∀i j:Nat,i<128->j<128->Hb (Rl l) i j=decide ((i,j)∈l))/\(l.Nodup->(Rl l).cnt=l.length):=Cv_ l.length l rfl h
def w64 (x:Nat):DVal:= .int .u64 (x:Int)
def dB (b:HR):List DVal:=b.map w64
theorem AW_ : ∀(a b:HR),BY (dB a) (dB b)=decide (a=b)
 | [],[]=>rfl
 | [],_::_=>by simp[BY,dB]
 | _::_,[]=>by simp[BY,dB]
 | x::a,y::b=>by
  have ih:=AW_ a b;unfold dB at ih |-;simp only[List.map_cons,BY];rw[ih];rw[eF0];simp[SE,w64];omega
theorem Cn_ {r c:Nat} (hr:r<64):Ea r c≠HV:=fun h=>by
 have h1:=Xi hr r c (c:=c);rw[h,Ux]at h1;simp at h1
def LU (x y:Nat):Nat:=(BitVec.ofNat 64 x &&& ~~~ BitVec.ofNat 64 y).toNat
theorem tR (y:Nat):LU 0 y=0:=by simp[LU]
theorem BJ_ {c y:Nat} (hc:c<64) (hy:y<2 ^ 64) (h:y.testBit c=false):LU (2 ^ c) y=2 ^ c:=by
 have hp:2 ^ c<2 ^ 64:=Nat.pow_lt_pow_right (by omega) hc;unfold LU
 have:BitVec.ofNat 64 (2 ^ c) &&& ~~~ BitVec.ofNat 64 y=BitVec.ofNat 64 (2 ^ c):=by
  apply BitVec.eq_of_getLsbD_eq
  intro i hi;simp only[BitVec.getLsbD_and,BitVec.getLsbD_not,BitVec.getLsbD_ofNat,hi,decide_true,dO0];rw[Nat.testBit_two_pow]
  by_cases hci:c=i
  ·subst hci;simp[h]
  ·simp[hci]
 rw[this,BitVec.toNat_ofNat,eA0 hp]
def Nj (a b:HR):HR:=List.zipWith LU a b
theorem rU {r c:Nat} {b:HR} (hr:r<64) (hc:c<64) (hb:Sd b) (h:Ij b r c=false):Nj (Ea r c) b=Ea r c:=by
 apply List.ext_getElem
 ·simp[Nj,Ea,HV,hb.1]
 ·intro i h1 h2;have hi:i<64:=by simpa[Ea,HV]using h2
  simp only[Nj,List.getElem_zipWith,Ea];rw[List.getElem_set]
  split
  ·rename_i he;subst he;refine BJ_ hc (hb.2 _ (bT0 _)) ?_;unfold Ij at h;rw[HL (by rw[hb.1];exact hr)]at h;exact h
  ·simp only[HV,List.getElem_replicate];exact tR _
def QX (f:Nat->Nat->Nat) (a b:HR) (k:Nat):HR:=(List.zipWith f a b).take k++a.drop k
theorem UZ (f:Nat->Nat->Nat) (a b:HR):QX f a b 0=a:=by simp[QX]
theorem Tf {f:Nat->Nat->Nat} {a b:HR} (h:a.length=b.length) {k:Nat} (hk:k<=a.length):(QX f a b k).length=a.length:=by simp[QX,h];omega
theorem DN_ {f:Nat->Nat->Nat} {a b:HR} {k:Nat} (h:k<a.length):(QX f a b k)[k]? =a[k]? \/b.length<a.length:=by
 by_cases hb:b.length<a.length
 ·exact .inr hb
 ·left
  unfold QX;rw[aX0 (by simp;omega)];simp only[bD0,List.length_zipWith,cJ0]
  congr 1
  omega
theorem Va {f:Nat->Nat->Nat} {a b:HR} (h:a.length=b.length) {k:Nat} (hk:k<a.length):QX f a b (k+1)=(QX f a b k).set k (f (a[k]) (b[k]'(by omega))):=by
 have hz:k<(List.zipWith f a b).length:=by simp;omega
 apply eN0
 intro i;rw[List.getElem?_set];have l1:((List.zipWith f a b).take k).length=k:=by simp;omega
 have l2:((List.zipWith f a b).take (k+1)).length=k+1:=by simp;omega
 by_cases hi:k=i
 ·subst hi;rw[if_pos rfl,if_pos (by rw[Tf h (by omega)];exact hk)];unfold QX;rw[aV0 (by rw[l2];omega),bL0 (by omega),aD0 hz,List.getElem_zipWith]
 ·rw[if_neg hi];unfold QX
  by_cases gT:i<k
  ·rw[aV0 (by rw[l2];omega),aV0 (by rw[l1];omega),bL0 (by omega),bL0 gT]
  ·rw[aX0 (by rw[l2];omega),aX0 (by rw[l1];omega),l1,l2,cJ0,cJ0]
   congr 1
   omega
theorem aL {f:Nat->Nat->Nat} {a b:HR} (h:a.length=b.length):QX f a b a.length=List.zipWith f a b:=by
 unfold QX;rw[cE0 (by simp;omega),cN0,bX0]
end Go.Proofs.Wy
end
section
namespace Go.Dm
variable [DMode]
structure AnIs (P:Program) (an:Ann) (E:Prop):Prop where
 m:P.follows .mixedOrders=true
 e:E
theorem FE_ {P:Program} (an:Ann) {E:Prop} (m:P.follows .mixedOrders=true) (e:E):AnIs P an E:=⟨m,e⟩
theorem BR_ {P:Program} {B:Base} {s:DS} {A:Ann} {E:Prop} {id:Nat} {ops:Array Oper} {draw:Bool} {Q:Exit->DS->Prop} (qQ:AnIs P A E) (qW:(!draw||DJ A.ow (Hp A.rs id).l1 (Hp A.rs id).l2 ops)=true)
 (h:BZ P B.nt A.ow (Hp A.rs id).l1 (Hp A.rs id).l2 ops ops.toList 0 (kQ Q (Hp A.rs id).fz) s):DW P B (.region id ops draw) Q s:=BS A qQ.m qW h
structure Spc (ρ ν:List (Nat×Nat)) (p:Prop):Prop where
 o:p
theorem Ji (ρ ν:List (Nat×Nat)) {p:Prop} (h:p):Spc ρ ν p:=⟨h⟩
theorem CQ {ρ ν:List (Nat×Nat)} {P:Program} {g:FuncId} {args args0:List DVal} {own own0 own0':List Ent} {d0:DVal} {K:ContE} (hS:Spc ρ ν (Bh P (.func g) args0 own0 d0 own0'))
 (wU:Km own (BJ own (DC ρ)) (DC ρ)=some own0/\Uf own ρ/\(TN args/\uG (args.map (Gu (BJ own (DC ρ)))) args0)/\(((ρ++ν).map (·.1)).Nodup/\(ρ.map (·.2)).Nodup)/\TM own0'/\TO d0)
 (hk:∀r,match Hn (Dn own ρ ν r) own0' with
  | some l=>((Bc own ((ρ++ν).map (·.1))++l).map (·.id)).Nodup/\K.f (Gu (Dn own ρ ν r) d0) (Bc own ((ρ++ν).map (·.1))++l)
  | none=>False):Bq P g args own K:=AM ρ ν hS.o wU hk
structure Hd (p:Prop):Prop where
 o:p
def Mk (p:Prop):Prop:=p
theorem Ei_ {p:Prop} (h:Mk p):p:=h
theorem Am {p:Prop} (h:p):Mk p:=h
theorem Ab : True:=trivial
theorem AJ {a:Prop} (h0:a):a/\True:=⟨h0,trivial⟩
theorem Ar {a b:Prop} (h0:a) (h1:b):a/\b/\True:=⟨h0,h1,trivial⟩
theorem GE {a b c:Prop} (h0:a) (h1:b) (h2:c):a/\b/\c/\True:=⟨h0,h1,h2,trivial⟩
theorem Ik {a b c d:Prop} (h0:a) (h1:b) (h2:c) (h3:d):a/\b/\c/\d/\True:=⟨h0,h1,h2,h3,trivial⟩
theorem Mj {a b c d e:Prop} (h0:a) (h1:b) (h2:c) (h3:d) (h4:e):a/\b/\c/\d/\e/\True:=⟨h0,h1,h2,h3,h4,trivial⟩
theorem MY {a b c d e f:Prop} (h0:a) (h1:b) (h2:c) (h3:d) (h4:e) (h5:f):a/\b/\c/\d/\e/\f/\True:=⟨h0,h1,h2,h3,h4,h5,trivial⟩
theorem NA {a b c d e f g:Prop} (h0:a) (h1:b) (h2:c) (h3:d) (h4:e) (h5:f) (h6:g):a/\b/\c/\d/\e/\f/\g/\True:=⟨h0,h1,h2,h3,h4,h5,h6,trivial⟩
theorem Mi {a b c d e f g h:Prop} (h0:a) (h1:b) (h2:c) (h3:d) (h4:e) (h5:f) (h6:g) (h7:h):a/\b/\c/\d/\e/\f/\g/\h/\True:=⟨h0,h1,h2,h3,h4,h5,h6,h7,trivial⟩
theorem YF {a b c d e f g h i:Prop} (h0:a) (h1:b) (h2:c) (h3:d) (h4:e) (h5:f) (h6:g) (h7:h) (h8:i):a/\b/\c/\d/\e/\f/\g/\h/\i/\True:=⟨h0,h1,h2,h3,h4,h5,h6,h7,h8,trivial⟩
theorem UK {a b c d e f g h i j:Prop} (h0:a) (h1:b) (h2:c) (h3:d) (h4:e) (h5:f) (h6:g) (h7:h) (h8:i) (h9:j):a/\b/\c/\d/\e/\f/\g/\h/\i/\j/\True:=⟨h0,h1,h2,h3,h4,h5,h6,h7,h8,h9,trivial⟩
theorem Yn {a b c d e f g h i j k:Prop} (h0:a) (h1:b) (h2:c) (h3:d) (h4:e) (h5:f) (h6:g) (h7:h) (h8:i) (h9:j) (dX:k):a/\b/\c/\d/\e/\f/\g/\h/\i/\j/\k/\True:=⟨h0,h1,h2,h3,h4,h5,h6,h7,h8,h9,dX,trivial⟩
theorem Ey_ {a b c d e f g h i j k l:Prop} (h0:a) (h1:b) (h2:c) (h3:d) (h4:e) (h5:f) (h6:g) (h7:h) (h8:i) (h9:j) (dX:k) (mS:l):a/\b/\c/\d/\e/\f/\g/\h/\i/\j/\k/\l/\True:=⟨h0,h1,h2,h3,h4,h5,h6,h7,h8,h9,dX,mS,trivial⟩
theorem GA_ {a b c d e f g h i j k l m:Prop} (h0:a) (h1:b) (h2:c) (h3:d) (h4:e) (h5:f) (h6:g) (h7:h) (h8:i) (h9:j) (dX:k) (mS:l) (cT:m):a/\b/\c/\d/\e/\f/\g/\h/\i/\j/\k/\l/\m/\True:=⟨h0,h1,h2,h3,h4,h5,h6,h7,h8,h9,dX,mS,cT,trivial⟩
theorem Ex_ {a b c d e f g h i j k l m n:Prop} (h0:a) (h1:b) (h2:c) (h3:d) (h4:e) (h5:f) (h6:g) (h7:h) (h8:i) (h9:j) (dX:k) (mS:l) (cT:m) (h13:n):a/\b/\c/\d/\e/\f/\g/\h/\i/\j/\k/\l/\m/\n/\True:=⟨h0,h1,h2,h3,h4,h5,h6,h7,h8,h9,dX,mS,cT,h13,trivial⟩
theorem FF_ {a b c d e f g h i j k l m n o:Prop} (h0:a) (h1:b) (h2:c) (h3:d) (h4:e) (h5:f) (h6:g) (h7:h) (h8:i) (h9:j) (dX:k) (mS:l) (cT:m) (h13:n) (h14:o):a/\b/\c/\d/\e/\f/\g/\h/\i/\j/\k/\l/\m/\n/\o/\True:=⟨h0,h1,h2,h3,h4,h5,h6,h7,h8,h9,dX,mS,cT,h13,h14,trivial⟩
theorem Md {a b c d e f g h i j k l m n o p:Prop} (h0:a) (h1:b) (h2:c) (h3:d) (h4:e) (h5:f) (h6:g) (h7:h) (h8:i) (h9:j) (dX:k) (mS:l) (cT:m) (h13:n) (h14:o) (h15:p):a/\b/\c/\d/\e/\f/\g/\h/\i/\j/\k/\l/\m/\n/\o/\p/\True:=⟨h0,h1,h2,h3,h4,h5,h6,h7,h8,h9,dX,mS,cT,h13,h14,h15,trivial⟩
theorem Aw {p c s a:Prop} (C:c) (S:s) (A:a) (h:c->s->a->p:=by
 (intro C S A;(repeat (first | refine AI fun Kz hKz=> ?_ | (refine BR_ qQ (by kernel_rfl) ?_;simp[qQ.e,qX,A];try simp (disch:=omega) only[Ai]) | refine Ao ?_ | (refine Bg ?_ ?_ ?_;(· (simp[qX,A];done));(try (rotate_left;(· (intro fT;(try simp[qX,A]at fT);done))))) | (refine AL ?_;simp[qQ.e,qX,A]) | ((first | refine Az ?_ | refine Ay ?_);simp[qX,A]) | (intro fT;(try simp[qX,A]at fT);(try (exfalso;omega))) | ((first | refine Ag C.1 ?_ | (refine Af C.1 ?_ ?_;(· (simp;done))) | refine Ag C.2.1 ?_ | (refine Af C.2.1 ?_ ?_;(· (simp;done))) | refine Ag C.2.2.1 ?_ | (refine Af C.2.2.1 ?_ ?_;(· (simp;done))) | refine Ag C.2.2.2.1 ?_ | (refine Af C.2.2.2.1 ?_ ?_;(· (simp;done))) | refine Ag C.2.2.2.2.1 ?_ | (refine Af C.2.2.2.2.1 ?_ ?_;(· (simp;done))) | refine Ag C.2.2.2.2.2.1 ?_ | (refine Af C.2.2.2.2.2.1 ?_ ?_;(· (simp;done))) | refine Ag C.2.2.2.2.2.2.1 ?_ | (refine Af C.2.2.2.2.2.2.1 ?_ ?_;(· (simp;done))) | refine Ag C.2.2.2.2.2.2.2.1 ?_ | (refine Af C.2.2.2.2.2.2.2.1 ?_ ?_;(· (simp;done))));try simp[qX,A]) | (refine CQ S.1 ?_ ?_;(· (simp[qX,A];done));(intro Kz;try simp[qX,A])) | (refine CQ S.2.1 ?_ ?_;(· (simp[qX,A];done));(intro Kz;try simp[qX,A])) | (refine CQ S.2.2.1 ?_ ?_;(· (simp[qX,A];done));(intro Kz;try simp[qX,A])) | (refine CQ S.2.2.2.1 ?_ ?_;(· (simp[qX,A];done));(intro Kz;try simp[qX,A])) | (refine⟨?_,?_⟩; · omega) | omega | apply_assumption -exfalso -symm | (exfalso;omega))))):p:=h C S A
theorem AX {p c s a q0:Prop} (C:c) (S:s) (A:a) (h0:q0) (h:c->s->a->Hd q0->p:=by
 (intro C S A k0;(repeat (first | refine AI fun Kz hKz=> ?_ | (refine BR_ qQ (by kernel_rfl) ?_;simp[qQ.e,qX,A];try simp (disch:=omega) only[Ai]) | refine Ao ?_ | (refine Bg ?_ ?_ ?_;(· (simp[qX,A];done));(try (rotate_left;(· (intro fT;(try simp[qX,A]at fT);done))))) | (refine AL ?_;simp[qQ.e,qX,A]) | ((first | refine Az ?_ | refine Ay ?_);simp[qX,A]) | (intro fT;(try simp[qX,A]at fT);(try (exfalso;omega))) | ((first | refine Ag C.1 ?_ | (refine Af C.1 ?_ ?_;(· (simp;done))) | refine Ag C.2.1 ?_ | (refine Af C.2.1 ?_ ?_;(· (simp;done))) | refine Ag C.2.2.1 ?_ | (refine Af C.2.2.1 ?_ ?_;(· (simp;done))) | refine Ag C.2.2.2.1 ?_ | (refine Af C.2.2.2.1 ?_ ?_;(· (simp;done))) | refine Ag C.2.2.2.2.1 ?_ | (refine Af C.2.2.2.2.1 ?_ ?_;(· (simp;done))) | refine Ag C.2.2.2.2.2.1 ?_ | (refine Af C.2.2.2.2.2.1 ?_ ?_;(· (simp;done))) | refine Ag C.2.2.2.2.2.2.1 ?_ | (refine Af C.2.2.2.2.2.2.1 ?_ ?_;(· (simp;done))) | refine Ag C.2.2.2.2.2.2.2.1 ?_ | (refine Af C.2.2.2.2.2.2.2.1 ?_ ?_;(· (simp;done))));try simp[qX,A]) | (refine CQ S.1 ?_ ?_;(· (simp[qX,A];done));(intro Kz;try simp[qX,A])) | (refine CQ S.2.1 ?_ ?_;(· (simp[qX,A];done));(intro Kz;try simp[qX,A])) | (refine CQ S.2.2.1 ?_ ?_;(· (simp[qX,A];done));(intro Kz;try simp[qX,A])) | (refine CQ S.2.2.2.1 ?_ ?_;(· (simp[qX,A];done));(intro Kz;try simp[qX,A])) | (refine⟨?_,?_⟩; · omega) | omega | apply_assumption -exfalso -symm | (exfalso;omega)));refine Ei_ ?_;(repeat (first | revert fT | revert Kz));exact k0.o)):p:=h C S A ⟨h0⟩
theorem go2 {p c s a q0 q1:Prop} (C:c) (S:s) (A:a) (h0:q0) (h1:q1) (h:c->s->a->Hd q0->Hd q1->p:=by
 (intro C S A k0 k1;(repeat (first | refine AI fun Kz hKz=> ?_ | (refine BR_ qQ (by kernel_rfl) ?_;simp[qQ.e,qX,A];try simp (disch:=omega) only[Ai]) | refine Ao ?_ | (refine Bg ?_ ?_ ?_;(· (simp[qX,A];done));(try (rotate_left;(· (intro fT;(try simp[qX,A]at fT);done))))) | (refine AL ?_;simp[qQ.e,qX,A]) | ((first | refine Az ?_ | refine Ay ?_);simp[qX,A]) | (intro fT;(try simp[qX,A]at fT);(try (exfalso;omega))) | ((first | refine Ag C.1 ?_ | (refine Af C.1 ?_ ?_;(· (simp;done))) | refine Ag C.2.1 ?_ | (refine Af C.2.1 ?_ ?_;(· (simp;done))) | refine Ag C.2.2.1 ?_ | (refine Af C.2.2.1 ?_ ?_;(· (simp;done))) | refine Ag C.2.2.2.1 ?_ | (refine Af C.2.2.2.1 ?_ ?_;(· (simp;done))) | refine Ag C.2.2.2.2.1 ?_ | (refine Af C.2.2.2.2.1 ?_ ?_;(· (simp;done))) | refine Ag C.2.2.2.2.2.1 ?_ | (refine Af C.2.2.2.2.2.1 ?_ ?_;(· (simp;done))) | refine Ag C.2.2.2.2.2.2.1 ?_ | (refine Af C.2.2.2.2.2.2.1 ?_ ?_;(· (simp;done))) | refine Ag C.2.2.2.2.2.2.2.1 ?_ | (refine Af C.2.2.2.2.2.2.2.1 ?_ ?_;(· (simp;done))));try simp[qX,A]) | (refine CQ S.1 ?_ ?_;(· (simp[qX,A];done));(intro Kz;try simp[qX,A])) | (refine CQ S.2.1 ?_ ?_;(· (simp[qX,A];done));(intro Kz;try simp[qX,A])) | (refine CQ S.2.2.1 ?_ ?_;(· (simp[qX,A];done));(intro Kz;try simp[qX,A])) | (refine CQ S.2.2.2.1 ?_ ?_;(· (simp[qX,A];done));(intro Kz;try simp[qX,A])) | (refine⟨?_,?_⟩; · omega) | omega | apply_assumption -exfalso -symm | (exfalso;omega)));refine Ei_ ?_;(repeat (first | revert fT | revert Kz));exact k0.o;refine Ei_ ?_;(repeat (first | revert fT | revert Kz));exact k1.o)):p:=h C S A ⟨h0⟩ ⟨h1⟩
theorem Ac (ids:List Nat) {P:Program} {f:FuncId} {fn:Func} {c:Code} {args:List DVal} {d:DVal} {n:Nat} (an:Ann) {E:Prop} (hf:P.funcs[f]? =some fn) (vH:Enters P f) (hn:fn.ntmps=n) (hm:P.follows .mixedOrders=true) (hE:E) (hb:fn.body=some c) (h:JP args->∀B:Base,B.nt=n/\B.ro=none->AnIs P an E->DW P B c (oI P fn ids d) ⟨Ak args 0,[]⟩) (qX:args.length<=n:=by simp) (hd:mx d=0:=by simp[mx]):Ae P f args d :=
 UT ids hf hb vH (hn▸qX) hd fun qJ B hB=>h qJ B (hn▸hB) ⟨hm,hE⟩
theorem BI (ids:List Nat) (ρ:List (Nat×Nat×Nat)) {P:Program} {f:FuncId} {fn:Func} {c:Code} {args:List DVal} {own own':List Ent} {d:DVal} {n:Nat} (an:Ann) {E:Prop} (hf:P.funcs[f]? =some fn) (vH:Enters P f) (hn:fn.ntmps=n) (hm:P.follows .mixedOrders=true) (hE:E) (hb:fn.body=some c) (h:JP args->∀B:Base,B.nt=n/\B.ro=none->AnIs P an E->DW P B c (Yt P fn ids ρ d own') ⟨Ak args 0,own⟩) (qX:args.length<=n:=by simp) (hρ:(ρ.map (·.2.1)).Nodup/\(ρ.map (·.1)).Nodup:=by simp) (hv:own'.all (fun e=>decide (e.r<=1))=true:=by simp):Bh P (.func f) args own d own' :=
 Yv ids ρ hf hb vH (hn▸qX) hρ hv fun qJ B hB=>h qJ B (hn▸hB) ⟨hm,hE⟩
theorem wq {x:Int} (h1: -9223372036854775808<=x:=by omega) (h2:x<=9223372036854775807:=by omega):IntKind.i64.wrap x=x:=Ai h1 h2
end Go.Dm
end
