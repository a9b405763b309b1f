/- Parts of a proof, laid together: EnV, W0, WA, EnGo, WB2, WB1. -/
import Derived.Test.YtiojapdolljocaaGreatqBw8
import Derived.Test.YtiojapdolljocaaGreatqBw9
import Derived.Test.YtiojapdolljocaaGreatqBw14
set_option linter.unusedSimpArgs false
set_option maxHeartbeats 8000000
set_option linter.unusedVariables false
set_option linter.unusedSectionVars false
section
namespace Go.Dm
variable [DMode]
theorem St.out {own own':List Ent} {loc:Nat->Loc} {M:List Nat} {h:Array Obj} (ρ:List (Nat×Nat×Nat)) (S:St own loc M h) (hρ:(ρ.map (·.2.1)).Nodup/\(ρ.map (·.1)).Nodup)
  (ho:KL own (BM own ρ) ρ=some own') (hk:LG own ρ) :
  ∃loc',St own' loc' M h/\(∀b∈Aa own' loc',b∈Aa own loc)/\(∀x∈own',∃i e,(i,x.id,x.r)∈ρ/\Aj own i=some e/\loc' x.id=loc i/\(x.r=1\/(x.r=0/\i=x.id/\e.r=0))) /\
   (∀d v,Us d->rd (Ab own loc) (Aa own loc++M) h d v->rd (Ab own' loc') (Aa own' loc'++M) h (GC (BM own ρ) d) v):=by
 have h2:((ρ.map fun p=>(p.1,p.2.1)).map (·.2)).Nodup:=by rw[cA0];exact hρ.1
 have fA:∀i j v,(i,j,v)∈ρ->loc ((BB (ρ.map fun p=>(p.1,p.2.1)) j).getD 0)=loc i:=by
  intro i j v hm;rw[Cq h2 (aQ0.2 ⟨(i,j,v),hm,rfl⟩)];rfl
 obtain⟨hm,yR⟩:=LH ho
 have hx:∀x∈own',∃i e,(i,x.id,x.r)∈ρ/\Aj own i=some e/\x.obj=Iq (BM own ρ) e.obj:=by
  intro x hx;obtain⟨i,j,v,e,h1,h2,rfl⟩:=hm x hx;exact⟨i,e,h1,h2,rfl⟩
 have hnd:(own'.map (·.id)).Nodup:=by rw[yR];exact hρ.1
 have yF:Aa own' (fun j=>loc ((BB (ρ.map fun p=>(p.1,p.2.1)) j).getD 0))=Aa (own'.map fun x=>⟨(BB (ρ.map fun p=>(p.1,p.2.1)) x.id).getD 0,0,x.obj⟩) loc:=by
  simp[Aa,List.flatMap_map]
 have fN:((own'.map fun x=>(⟨(BB (ρ.map fun p=>(p.1,p.2.1)) x.id).getD 0,0,x.obj⟩:Ent)).map (·.id)).Nodup:=by
  rw[cA0]
  have:own'.map ((·.id)∘fun x=>(⟨(BB (ρ.map fun p=>(p.1,p.2.1)) x.id).getD 0,0,x.obj⟩:Ent))=ρ.map (·.1):=by
   have e1:own'.map ((·.id)∘fun x=>(⟨(BB (ρ.map fun p=>(p.1,p.2.1)) x.id).getD 0,0,x.obj⟩:Ent))=(own'.map (·.id)).map (fun j=>(BB (ρ.map fun p=>(p.1,p.2.1)) j).getD 0):=by
    rw[cA0];rfl
   rw[e1,yR,cA0];refine bY0 fun p hp=> ?_
   simp only[Function.comp_def];rw[Cq h2 (aQ0.2 ⟨p,hp,rfl⟩)];rfl
  rw[this];exact hρ.2
 have fS:∀b∈Aa own' (fun j=>loc ((BB (ρ.map fun p=>(p.1,p.2.1)) j).getD 0)),b∈Aa own loc:=by
  intro b hb;obtain⟨x,qG,hb⟩:=bW0.1 hb;obtain⟨i,e,h1,h2,_⟩:=hx x qG;simp only[fA i _ _ h1]at hb;obtain⟨k1,k2⟩:=Ay h2;rw[<-k2]at hb;exact AY k1 hb
 have hM:∀b,b∈Aa own' (fun j=>loc ((BB (ρ.map fun p=>(p.1,p.2.1)) j).getD 0))++M->b∈Aa own loc++M:=by
  intro b hb
  rcases aC0.1 hb with hb | hb
  ·exact aH0 _ (fS b hb)
  ·exact aJ0 _ hb
 have W:Weak (Ab own loc) (Ab own' fun j=>loc ((BB (ρ.map fun p=>(p.1,p.2.1)) j).getD 0)) (Aa own loc++M) (Aa own' (fun j=>loc ((BB (ρ.map fun p=>(p.1,p.2.1)) j).getD 0))++M) h h 0 :=
  ⟨fun id r l hr=>by omega,fun b o _ (_:Gh o=true) ho=>ho,fun b o hb (_:Gh o=true) _ hm=>hb (hM b hm)⟩
 have L:Gf (Ab own loc) (Ab own' fun j=>loc ((BB (ρ.map fun p=>(p.1,p.2.1)) j).getD 0)) (BM own ρ):=by
  intro i r p lc hp hl;obtain⟨e,h1,h2,h3⟩:=HK hp;obtain⟨e0,_,g1,_,g3⟩:=Bn hl;obtain⟨k1,k2⟩:=Ay h2;rw[<-h3,<-k2,AG S.nd k1,g3,fA i p.1 p.2 h1,k2]
 refine⟨fun j=>loc ((BB (ρ.map fun p=>(p.1,p.2.1)) j).getD 0),⟨hnd,?_,fun b hb=>S.ap b (fS b hb),fun b hb=>S.lt b (hM b hb),?_⟩,fS,?_,fun d v hd hr=>OO W L hd hr⟩
 ·rw[yF];refine FX S.bl _ fN fun e he=> ?_
  obtain⟨x,qG,rfl⟩:=aQ0.1 he;obtain⟨i,e,h1,kW,_⟩:=hx x qG;simp only[Cq h2 (aQ0.2 ⟨_,h1,rfl⟩),bV0];exact⟨e,Ay kW⟩
 ·intro x qG;obtain⟨i,e,h1,kW,h3⟩:=hx x qG;obtain⟨e',h4,h5,_⟩:=JJ hk i _ _ h1;rw[kW]at h4;simp only[aA0]at h4;subst h4;obtain⟨k1,k2⟩:=Ay kW;rw[h3];exact JW W L (l:=loc i) h5 (fA i _ _ h1) (fun b o _ ho=>ho) (by have:=S.ok e k1;rwa[k2]at this)
 ·intro x qG;obtain⟨i,e,h1,kW,h3⟩:=hx x qG;obtain⟨e',h4,_,h5⟩:=JJ hk i _ _ h1;rw[kW]at h4;simp only[aA0]at h4;subst h4;exact⟨i,e,h1,kW,fA i _ _ h1,h5⟩
def VF : List Ent->Prop
 | []=>True
 | e::t=>(match e.obj with
  | .row _ _ bs es=>es.length*bs<=150000000000000/\es.length<=maxLen/\pP es
  | .box cs=>Iy cs
  | .map ks vs=>Iy ks/\Iy vs
  | .abs _=>True)/\VF t
theorem DU_ {own:List Ent} {loc:Nat->Loc} {M:List Nat} {h:Array Obj} (S:St own loc M h):VF own:=by
 have key:∀l:List Ent,(∀e∈l,e∈own)->VF l:=by
  intro l
  induction l with
  | nil=>intro _;trivial
  | cons e t ih =>
   intro hm;refine⟨?_,ih fun x hx=>hm x (aI0 _ hx)⟩;have hk:=S.ok e (hm e aK0)
   cases qZ:e.obj with
   | box cs=>rw[qZ]at hk;obtain⟨b,arr,ty,_,_,_,h4⟩:=hk;exact Ue cs arr 0 h4
   | row et k bs es =>
    rw[qZ]at hk;obtain⟨h0,⟨rfl,_⟩ | ⟨b,arr,cap,_,_,_,h4,h5,_,h7⟩⟩:=hk
    ·exact⟨by simp,by simp,by simp[pP]⟩
    ·exact⟨h0,Nat.le_trans h4 h5,ZF _ _ _ _ h7⟩
   | map ks vs=>rw[qZ]at hk;obtain⟨b,es,clk,_,_,_,h4,h5⟩:=hk;exact⟨FM _ _ h4,FM _ _ h5⟩
   | abs A=>trivial
 exact key own fun _ h=>h
theorem MA (ids:List Nat) (ρ:List (Nat×Nat×Nat)) {P:Program} {f:FuncId} {fn:Func} {c:Code} {args:List DVal} {own own':List Ent} {d:DVal} (hf:P.funcs[f]? =some fn) (hb:fn.body=some c) (vK:Enters P f) (qX:args.length<=fn.ntmps)
  (hρ:(ρ.map (·.2.1)).Nodup/\(ρ.map (·.1)).Nodup) (hv:own'.all (fun e=>decide (e.r<=1))=true)
  (h:Iy args->VF own->∀B:Base,B.nt=fn.ntmps/\B.ro=none->DW P B c (YZ P fn ids ρ d own') ⟨Ap args 0,own⟩):Bl P (.func f) args own d own':=by
 refine⟨fun e he=>by simpa using aX0.1 hv e he,vK,fun M w loc vs S hr=> ?_⟩
 have key:∀B:Base,B.nt=fn.ntmps/\B.ro=none->DW P B c (uX P fn fun s d0=>Us d0/\wk (GC (BM s.own ρ) d0) d/\KL s.own (BM s.own ρ) ρ=some own'/\LG s.own ρ) ⟨Ap args 0,own⟩:=by
  intro B hB a w loc R;refine wpIn_mono (h (FM _ _ hr) (DU_ S) B hB a w loc R) ?_;rintro e a' w' ⟨s',loc',hq,R'⟩;obtain⟨loc'',R''⟩:=Sub.freezeL ids s' a' w' loc' R';refine⟨freezeL s' ids,loc'',?_,R''⟩
  cases e<;>simp only[YZ]at hq<;>first
   |(split at hq
     ·rename_i d0 gJ;exact⟨d0,gJ,hq⟩
     ·exact hq.elim)
   | exact hq.elim
 refine Mz (N:=1) (Nat.le_refl 1) hf hb vK qX S (fun _ _ _=>trivial) hr key ?_;intro s loc' w' d0 v ⟨hd,hw,ho,hk⟩ S' hu wZ vD vW;obtain⟨loc1,S1,h1,h2,h3⟩:=S'.out ρ hρ ho hk;refine⟨loc1,S1,hu,fun b hb=>wZ b (h1 b hb),fun x hx qV=> ?_,iC hw (h3 d0 v hd vW)⟩;obtain⟨i,e,g1,g2,g3,g4⟩:=h2 x hx
 rcases g4 with g4 | ⟨g4,g5,g6⟩
 ·omega
 ·obtain⟨k1,k2⟩:=Ay g2;have:=vD e k1 (by omega);rw[k2,g6]at this;rw[g3,g4,<-g5];exact this
theorem Za (ids:List Nat) (ρ:List (Nat×Nat×Nat)) {P:Program} {f:FuncId} {fn:Func} {c:Code} {args:List DVal} {own own':List Ent} {d:DVal} (hf:P.funcs[f]? =some fn) (hb:fn.body=some c) (vK:Enters P f) (qX:args.length<=fn.ntmps)
  (hρ:(ρ.map (·.2.1)).Nodup/\(ρ.map (·.1)).Nodup) (hv:own'.all (fun e=>decide (e.r<=1))=true)
  (h:Iy args->∀B:Base,B.nt=fn.ntmps/\B.ro=none->DW P B c (YZ P fn ids ρ d own') ⟨Ap args 0,own⟩):Bl P (.func f) args own d own' :=
 MA ids ρ hf hb vK qX hρ hv fun qJ _=>h qJ
theorem AV (ρ ν:List (Nat×Nat)) {P:Program} {g:FuncId} {args args0:List DVal} {own own0 own0':List Ent} {d0:DVal} {K:ContE} (hS:Bl P (.func g) args0 own0 d0 own0')
  (wU:KL own (BM own (DL ρ)) (DL ρ)=some own0/\UK own ρ/\(Ur args/\xH (args.map (GC (BM own (DL ρ)))) args0)/\(((ρ++ν).map (·.1)).Nodup/\(ρ.map (·.2)).Nodup)/\Uq own0'/\Us d0)
  (hk:∀r,match Ht (Du own ρ ν r) own0' with
   | some l=>((Bc own ((ρ++ν).map (·.1))++l).map (·.id)).Nodup/\K.f (GC (Du own ρ ν r) d0) (Bc own ((ρ++ν).map (·.1))++l)
   | none=>False):Bk P g args own K:=by
 intro r;have h:=hk r
 split at h
 ·rename_i l hl;exact⟨_,_,OC ρ ν hS wU.1 wU.2.1 wU.2.2.1 wU.2.2.2.1 hl wU.2.2.2.2.1 wU.2.2.2.2.2 h.1,h.2⟩
 ·exact h.elim
attribute [simp] DL BB Du Ht Bc Uq Ur UK tY Dl_ Dq_ RM RL AU Ck
end Go.Dm
end
section
namespace Go.Proofs.Wy
open Go Go.Dm Tryz
variable [DMode]
attribute [local irreducible] DW Bh Bk
structure Sym where
 label:Bool
 n:Int
 deriving DecidableEq
def AR (s:Sym):List DVal:=[.bool s.label,.int .i64 s.n]
abbrev NT (l:List Sym):DVal:= .sl 2 16 (l.map AR)
structure Prod where
 head:Int
 body:List Sym
 deriving DecidableEq
def lX (p:Prod):List DVal:=[.int .i64 p.head,NT p.body]
abbrev Ez_ (l:List Prod):DVal:= .sl 2 32 (l.map lX)
structure Cnf where
 nts:Int
 prods:List Prod
 deriving DecidableEq
def FF_ (c:Cnf):List DVal:=[.int .i64 c.nts,Ez_ c.prods]
theorem mxd : Tryz.prog.follows .mixedOrders=true:=by kernel_rfl
theorem HM {α:Type} (f:α->List DVal) (h:∀x,AJ (f x)=0) (l:List α):Bq (l.map f)=0:=by
 induction l with
 | nil=>rfl
 | cons x l ih=>simp[Bq,h,ih]
@[simp] theorem CQ_ (s:Sym):AJ (AR s)=0:=by simp[AR,AJ,mx]
@[simp] theorem Fp_ (l:List Sym):Bq (l.map AR)=0:=HM _ CQ_ l
@[simp] theorem Az_ (p:Prod):AJ (lX p)=0:=by simp[lX,AJ,mx]
@[simp] theorem EO_ (l:List Prod):Bq (l.map lX)=0:=HM _ Az_ l
@[simp] theorem FZ_ (c:Cnf):AJ (FF_ c)=0:=by simp[FF_,AJ,mx]
theorem Zj {α:Type} {f:α->List DVal}:∀{l:List α} {k:Nat} {x:α},pP (l.map f)->l[k]? =some x->Iy (f x)
 | a::l,0,x,h,hx=>by
  simp only[bB0,aA0]at hx;subst hx;simp only[List.map_cons,pP]at h;exact h.1
 | a::l,k+1,x,h,hx=>by
  simp only[List.map_cons,pP]at h;exact Zj h.2 (by simpa using hx)
theorem Ar {α:Type} {l:List α} {k:Nat} (h:k<l.length):∃x,l[k]? =some x/\l[k]=x/\x∈l:=⟨l[k],aB0 h,rfl,cY0 h⟩
end Go.Proofs.Wy
end
section
namespace Go.Proofs.Wy
open Go Go.Dm Tryz
variable [DMode]
instance : LawfulBEq ByteArray where
 eq_of_beq {a b} h:=by
  rw[<-Ma]at h;have h:=eq_of_beq h;cases a;cases b;simp only at h;rw[h]
 rfl {a}:=by rw[<-Ma];exact beq_self_eq_true _
structure Edge where
 fr:ByteArray
 lb:ByteArray
 to:ByteArray
 deriving DecidableEq
structure Edges where
 nodes:List ByteArray
 edges:List Edge
 deriving DecidableEq
def AD (s:ByteArray):List DVal:=[.str s]
def lY (e:Edge):List DVal:=[.str e.fr,.str e.lb,.str e.to]
abbrev Bo (l:List ByteArray):DVal:= .sl 1 16 (l.map AD)
abbrev GF_ (l:List Edge):DVal:= .sl 3 48 (l.map lY)
def dGr (g:Edges):List DVal:=[Bo g.nodes,GF_ g.edges]
@[simp] theorem CR_ (s:ByteArray):AJ (AD s)=0:=by simp[AD,AJ,mx]
@[simp] theorem AB_ (s:Edge):AJ (lY s)=0:=by simp[lY,AJ,mx]
@[simp] theorem Fq_ (l:List ByteArray):Bq (l.map AD)=0:=HM _ CR_ l
@[simp] theorem FY_ (l:List Edge):Bq (l.map lY)=0:=HM _ AB_ l
@[simp] theorem Gq_ (g:Edges):AJ (dGr g)=0:=by simp[dGr,AJ,mx]
def CG (a b:ByteArray):Bool:=Op.bytesLess a.data.toList b.data.toList
theorem BQ_ : ∀l:List UInt8,Op.bytesLess l l=false
 | []=>rfl
 | a::l=>by simp[Op.bytesLess,BQ_ l]
theorem XQ : ∀{a b c:List UInt8},Op.bytesLess a b=true->Op.bytesLess b c=true->Op.bytesLess a c=true
 | _,[],_,h,_=>by cases ‹List UInt8› <;>simp[Op.bytesLess]at h
 | _,_::_,[],_,h=>by simp[Op.bytesLess]at h
 | [],_::_,_::_,_,_=>by simp[Op.bytesLess]
 | x::a,y::b,z::c,h1,h2=>by
  simp only[Op.bytesLess,cO0,aM0,decide_eq_true_eq,beq_iff_eq]at h1 h2 |-
  rcases h1 with h1 | ⟨rfl,h1⟩
  ·rcases h2 with h2 | ⟨rfl,h2⟩
   ·exact .inl (UInt8.lt_trans h1 h2)
   ·exact .inl h1
  ·rcases h2 with h2 | ⟨rfl,h2⟩
   ·exact .inl h2
   ·exact .inr ⟨rfl,XQ h1 h2⟩
theorem BP_ : ∀{a b:List UInt8},Op.bytesLess a b=false->Op.bytesLess b a=false->a=b
 | [],[],_,_=>rfl
 | [],_::_,h,_=>by simp[Op.bytesLess]at h
 | _::_,[],_,h=>by simp[Op.bytesLess]at h
 | x::a,y::b,h1,h2=>by
  simp only[Op.bytesLess,Bool.or_eq_false_iff,Bool.and_eq_false_iff,decide_eq_false_iff_not,beq_eq_false_iff_ne]at h1 h2;have hxy:x=y:=UInt8.le_antisymm (UInt8.not_lt.1 h2.1) (UInt8.not_lt.1 h1.1);subst hxy;rw[BP_ (h1.2.resolve_left (by simp)) (h2.2.resolve_left (by simp))]
theorem EN (a:ByteArray):CG a a=false:=BQ_ _
theorem IF {a b c:ByteArray} (h1:CG a b=true) (h2:CG b c=true):CG a c=true:=XQ h1 h2
theorem Hq {a b:ByteArray} (h:a.data.toList=b.data.toList):a=b:=by
 obtain⟨⟨x⟩⟩:=a;obtain⟨⟨y⟩⟩:=b;simp only at h;subst h;rfl
theorem JD {a b:ByteArray} (h1:CG a b=false) (h2:CG b a=false):a=b:=Hq (BP_ h1 h2)
theorem PA {a b:ByteArray} (h:CG a b=true):CG b a=false:=by
 cases hb:CG b a
 ·rfl
 ·have:=IF h hb;rw[EN]at this;simp at this
theorem VV {a b:ByteArray} (h:CG a b=true):a≠b:=fun e=>by subst e;rw[EN]at h;simp at h
def ME (a b:ByteArray):Int:=if CG a b then -1 else if CG b a then 1 else 0
theorem rL {a b:ByteArray}:ME a b=0↔a=b:=by
 unfold ME
 constructor
 ·intro h
  split at h
  ·simp at h
  ·split at h
   ·simp at h
   ·rename_i h1 h2;exact JD (by simpa using h1) (by simpa using h2)
 ·rintro rfl;rw[EN];simp
theorem FL {a b:ByteArray}:ME a b<0↔CG a b=true:=by
 unfold ME
 split
 ·simp_all
 ·split<;>simp_all
end Go.Proofs.Wy
end
section
namespace Go.Dm
variable [DMode]
structure AnIs (P:Program) (an:Ann) (E:Prop):Prop where
 m:P.follows .mixedOrders=true
 e:E
theorem FH_ {P:Program} (an:Ann) {E:Prop} (m:P.follows .mixedOrders=true) (e:E):AnIs P an E:=⟨m,e⟩
theorem Cn_ {P:Program} {B:Base} {s:DS} {A:Ann} {E:Prop} {id:Nat} {ops:Array Oper} {draw:Bool} {Q:Exit->DS->Prop} (qQ:AnIs P A E) (qO:(!draw||DT A.ow (Hv A.rs id).l1 (Hv A.rs id).l2 ops)=true)
 (h:Ce P B.nt A.ow (Hv A.rs id).l1 (Hv A.rs id).l2 ops ops.toList 0 (kQ Q (Hv A.rs id).fz) s):DW P B (.region id ops draw) Q s:=BL A qQ.m qO h
structure Spc (ρ ν:List (Nat×Nat)) (p:Prop):Prop where
 o:p
theorem Ii (ρ ν:List (Nat×Nat)) {p:Prop} (h:p):Spc ρ ν p:=⟨h⟩
theorem CU {ρ ν:List (Nat×Nat)} {P:Program} {g:FuncId} {args args0:List DVal} {own own0 own0':List Ent} {d0:DVal} {K:ContE} (hS:Spc ρ ν (Bl P (.func g) args0 own0 d0 own0'))
 (wU:KL own (BM own (DL ρ)) (DL ρ)=some own0/\UK own ρ/\(Ur args/\xH (args.map (GC (BM own (DL ρ)))) args0)/\(((ρ++ν).map (·.1)).Nodup/\(ρ.map (·.2)).Nodup)/\Uq own0'/\Us d0)
 (hk:∀r,match Ht (Du own ρ ν r) own0' with
  | some l=>((Bc own ((ρ++ν).map (·.1))++l).map (·.id)).Nodup/\K.f (GC (Du own ρ ν r) d0) (Bc own ((ρ++ν).map (·.1))++l)
  | none=>False):Bk P g args own K:=AV ρ ν hS.o wU hk
structure Hd (p:Prop):Prop where
 o:p
def Mk (p:Prop):Prop:=p
theorem Eq_ {p:Prop} (h:Mk p):p:=h
theorem Al {p:Prop} (h:p):Mk p:=h
theorem Ac : True:=trivial
theorem AQ {a:Prop} (h0:a):a/\True:=⟨h0,trivial⟩
theorem Az {a b:Prop} (h0:a) (h1:b):a/\b/\True:=⟨h0,h1,trivial⟩
theorem HB {a b c:Prop} (h0:a) (h1:b) (h2:c):a/\b/\c/\True:=⟨h0,h1,h2,trivial⟩
theorem JV {a b c d:Prop} (h0:a) (h1:b) (h2:c) (h3:d):a/\b/\c/\d/\True:=⟨h0,h1,h2,h3,trivial⟩
theorem Lj {a b c d e:Prop} (h0:a) (h1:b) (h2:c) (h3:d) (h4:e):a/\b/\c/\d/\e/\True:=⟨h0,h1,h2,h3,h4,trivial⟩
theorem Rp {a b c d e f:Prop} (h0:a) (h1:b) (h2:c) (h3:d) (h4:e) (h5:f):a/\b/\c/\d/\e/\f/\True:=⟨h0,h1,h2,h3,h4,h5,trivial⟩
theorem OB {a b c d e f g:Prop} (h0:a) (h1:b) (h2:c) (h3:d) (h4:e) (h5:f) (h6:g):a/\b/\c/\d/\e/\f/\g/\True:=⟨h0,h1,h2,h3,h4,h5,h6,trivial⟩
theorem Np {a b c d e f g h:Prop} (h0:a) (h1:b) (h2:c) (h3:d) (h4:e) (h5:f) (h6:g) (h7:h):a/\b/\c/\d/\e/\f/\g/\h/\True:=⟨h0,h1,h2,h3,h4,h5,h6,h7,trivial⟩
theorem uN {a b c d e f g h i:Prop} (h0:a) (h1:b) (h2:c) (h3:d) (h4:e) (h5:f) (h6:g) (h7:h) (h8:i):a/\b/\c/\d/\e/\f/\g/\h/\i/\True:=⟨h0,h1,h2,h3,h4,h5,h6,h7,h8,trivial⟩
theorem Rq {a b c d e f g h i j:Prop} (h0:a) (h1:b) (h2:c) (h3:d) (h4:e) (h5:f) (h6:g) (h7:h) (h8:i) (h9:j):a/\b/\c/\d/\e/\f/\g/\h/\i/\j/\True:=⟨h0,h1,h2,h3,h4,h5,h6,h7,h8,h9,trivial⟩
theorem Sm {a b c d e f g h i j k:Prop} (h0:a) (h1:b) (h2:c) (h3:d) (h4:e) (h5:f) (h6:g) (h7:h) (h8:i) (h9:j) (fB:k):a/\b/\c/\d/\e/\f/\g/\h/\i/\j/\k/\True:=⟨h0,h1,h2,h3,h4,h5,h6,h7,h8,h9,fB,trivial⟩
theorem eO {a b c d e f g h i j k l:Prop} (h0:a) (h1:b) (h2:c) (h3:d) (h4:e) (h5:f) (h6:g) (h7:h) (h8:i) (h9:j) (fB:k) (dX:l):a/\b/\c/\d/\e/\f/\g/\h/\i/\j/\k/\l/\True:=⟨h0,h1,h2,h3,h4,h5,h6,h7,h8,h9,fB,dX,trivial⟩
theorem FJ_ {a b c d e f g h i j k l m:Prop} (h0:a) (h1:b) (h2:c) (h3:d) (h4:e) (h5:f) (h6:g) (h7:h) (h8:i) (h9:j) (fB:k) (dX:l) (dQ:m):a/\b/\c/\d/\e/\f/\g/\h/\i/\j/\k/\l/\m/\True:=⟨h0,h1,h2,h3,h4,h5,h6,h7,h8,h9,fB,dX,dQ,trivial⟩
theorem uO {a b c d e f g h i j k l m n:Prop} (h0:a) (h1:b) (h2:c) (h3:d) (h4:e) (h5:f) (h6:g) (h7:h) (h8:i) (h9:j) (fB:k) (dX:l) (dQ:m) (h13:n):a/\b/\c/\d/\e/\f/\g/\h/\i/\j/\k/\l/\m/\n/\True:=⟨h0,h1,h2,h3,h4,h5,h6,h7,h8,h9,fB,dX,dQ,h13,trivial⟩
theorem FI_ {a b c d e f g h i j k l m n o:Prop} (h0:a) (h1:b) (h2:c) (h3:d) (h4:e) (h5:f) (h6:g) (h7:h) (h8:i) (h9:j) (fB:k) (dX:l) (dQ:m) (h13:n) (h14:o):a/\b/\c/\d/\e/\f/\g/\h/\i/\j/\k/\l/\m/\n/\o/\True:=⟨h0,h1,h2,h3,h4,h5,h6,h7,h8,h9,fB,dX,dQ,h13,h14,trivial⟩
theorem Mv {a b c d e f g h i j k l m n o p:Prop} (h0:a) (h1:b) (h2:c) (h3:d) (h4:e) (h5:f) (h6:g) (h7:h) (h8:i) (h9:j) (fB:k) (dX:l) (dQ:m) (h13:n) (h14:o) (h15:p):a/\b/\c/\d/\e/\f/\g/\h/\i/\j/\k/\l/\m/\n/\o/\p/\True:=⟨h0,h1,h2,h3,h4,h5,h6,h7,h8,h9,fB,dX,dQ,h13,h14,h15,trivial⟩
theorem AA {p c s a:Prop} (C:c) (S:s) (A:a) (h:c->s->a->p:=by
 (intro C S A;(repeat (first | refine AC fun Kz hKz=> ?_ | (refine Cn_ qQ (by kernel_rfl) ?_;simp[qQ.e,qX,A];try simp (disch:=omega) only[Ai]) | refine Am ?_ | (refine AX ?_ ?_ ?_;(· (simp[qX,A];done));(try (rotate_left;(· (intro yB;(try simp[qX,A]at yB);done))))) | (refine AI ?_;simp[qQ.e,qX,A]) | ((first | refine Av ?_ | refine Au ?_);simp[qX,A]) | (intro yB;(try simp[qX,A]at yB);(try (exfalso;omega))) | ((first | refine Af C.1 ?_ | (refine Ae C.1 ?_ ?_;(· (simp;done))) | refine Af C.2.1 ?_ | (refine Ae C.2.1 ?_ ?_;(· (simp;done))) | refine Af C.2.2.1 ?_ | (refine Ae C.2.2.1 ?_ ?_;(· (simp;done))) | refine Af C.2.2.2.1 ?_ | (refine Ae C.2.2.2.1 ?_ ?_;(· (simp;done))) | refine Af C.2.2.2.2.1 ?_ | (refine Ae C.2.2.2.2.1 ?_ ?_;(· (simp;done))) | refine Af C.2.2.2.2.2.1 ?_ | (refine Ae C.2.2.2.2.2.1 ?_ ?_;(· (simp;done))) | refine Af C.2.2.2.2.2.2.1 ?_ | (refine Ae C.2.2.2.2.2.2.1 ?_ ?_;(· (simp;done))) | refine Af C.2.2.2.2.2.2.2.1 ?_ | (refine Ae C.2.2.2.2.2.2.2.1 ?_ ?_;(· (simp;done))));try simp[qX,A]) | (refine CU S.1 ?_ ?_;(· (simp[qX,A];done));(intro Kz;try simp[qX,A])) | (refine CU S.2.1 ?_ ?_;(· (simp[qX,A];done));(intro Kz;try simp[qX,A])) | (refine CU S.2.2.1 ?_ ?_;(· (simp[qX,A];done));(intro Kz;try simp[qX,A])) | (refine CU S.2.2.2.1 ?_ ?_;(· (simp[qX,A];done));(intro Kz;try simp[qX,A])) | (refine⟨?_,?_⟩; · omega) | omega | apply_assumption -exfalso -symm | (exfalso;omega))))):p:=h C S A
theorem Ba {p c s a q0:Prop} (C:c) (S:s) (A:a) (h0:q0) (h:c->s->a->Hd q0->p:=by
 (intro C S A k0;(repeat (first | refine AC fun Kz hKz=> ?_ | (refine Cn_ qQ (by kernel_rfl) ?_;simp[qQ.e,qX,A];try simp (disch:=omega) only[Ai]) | refine Am ?_ | (refine AX ?_ ?_ ?_;(· (simp[qX,A];done));(try (rotate_left;(· (intro yB;(try simp[qX,A]at yB);done))))) | (refine AI ?_;simp[qQ.e,qX,A]) | ((first | refine Av ?_ | refine Au ?_);simp[qX,A]) | (intro yB;(try simp[qX,A]at yB);(try (exfalso;omega))) | ((first | refine Af C.1 ?_ | (refine Ae C.1 ?_ ?_;(· (simp;done))) | refine Af C.2.1 ?_ | (refine Ae C.2.1 ?_ ?_;(· (simp;done))) | refine Af C.2.2.1 ?_ | (refine Ae C.2.2.1 ?_ ?_;(· (simp;done))) | refine Af C.2.2.2.1 ?_ | (refine Ae C.2.2.2.1 ?_ ?_;(· (simp;done))) | refine Af C.2.2.2.2.1 ?_ | (refine Ae C.2.2.2.2.1 ?_ ?_;(· (simp;done))) | refine Af C.2.2.2.2.2.1 ?_ | (refine Ae C.2.2.2.2.2.1 ?_ ?_;(· (simp;done))) | refine Af C.2.2.2.2.2.2.1 ?_ | (refine Ae C.2.2.2.2.2.2.1 ?_ ?_;(· (simp;done))) | refine Af C.2.2.2.2.2.2.2.1 ?_ | (refine Ae C.2.2.2.2.2.2.2.1 ?_ ?_;(· (simp;done))));try simp[qX,A]) | (refine CU S.1 ?_ ?_;(· (simp[qX,A];done));(intro Kz;try simp[qX,A])) | (refine CU S.2.1 ?_ ?_;(· (simp[qX,A];done));(intro Kz;try simp[qX,A])) | (refine CU S.2.2.1 ?_ ?_;(· (simp[qX,A];done));(intro Kz;try simp[qX,A])) | (refine CU S.2.2.2.1 ?_ ?_;(· (simp[qX,A];done));(intro Kz;try simp[qX,A])) | (refine⟨?_,?_⟩; · omega) | omega | apply_assumption -exfalso -symm | (exfalso;omega)));refine Eq_ ?_;(repeat (first | revert yB | revert Kz));exact k0.o)):p:=h C S A ⟨h0⟩
theorem go2 {p c s a q0 q1:Prop} (C:c) (S:s) (A:a) (h0:q0) (h1:q1) (h:c->s->a->Hd q0->Hd q1->p:=by
 (intro C S A k0 k1;(repeat (first | refine AC fun Kz hKz=> ?_ | (refine Cn_ qQ (by kernel_rfl) ?_;simp[qQ.e,qX,A];try simp (disch:=omega) only[Ai]) | refine Am ?_ | (refine AX ?_ ?_ ?_;(· (simp[qX,A];done));(try (rotate_left;(· (intro yB;(try simp[qX,A]at yB);done))))) | (refine AI ?_;simp[qQ.e,qX,A]) | ((first | refine Av ?_ | refine Au ?_);simp[qX,A]) | (intro yB;(try simp[qX,A]at yB);(try (exfalso;omega))) | ((first | refine Af C.1 ?_ | (refine Ae C.1 ?_ ?_;(· (simp;done))) | refine Af C.2.1 ?_ | (refine Ae C.2.1 ?_ ?_;(· (simp;done))) | refine Af C.2.2.1 ?_ | (refine Ae C.2.2.1 ?_ ?_;(· (simp;done))) | refine Af C.2.2.2.1 ?_ | (refine Ae C.2.2.2.1 ?_ ?_;(· (simp;done))) | refine Af C.2.2.2.2.1 ?_ | (refine Ae C.2.2.2.2.1 ?_ ?_;(· (simp;done))) | refine Af C.2.2.2.2.2.1 ?_ | (refine Ae C.2.2.2.2.2.1 ?_ ?_;(· (simp;done))) | refine Af C.2.2.2.2.2.2.1 ?_ | (refine Ae C.2.2.2.2.2.2.1 ?_ ?_;(· (simp;done))) | refine Af C.2.2.2.2.2.2.2.1 ?_ | (refine Ae C.2.2.2.2.2.2.2.1 ?_ ?_;(· (simp;done))));try simp[qX,A]) | (refine CU S.1 ?_ ?_;(· (simp[qX,A];done));(intro Kz;try simp[qX,A])) | (refine CU S.2.1 ?_ ?_;(· (simp[qX,A];done));(intro Kz;try simp[qX,A])) | (refine CU S.2.2.1 ?_ ?_;(· (simp[qX,A];done));(intro Kz;try simp[qX,A])) | (refine CU S.2.2.2.1 ?_ ?_;(· (simp[qX,A];done));(intro Kz;try simp[qX,A])) | (refine⟨?_,?_⟩; · omega) | omega | apply_assumption -exfalso -symm | (exfalso;omega)));refine Eq_ ?_;(repeat (first | revert yB | revert Kz));exact k0.o;refine Eq_ ?_;(repeat (first | revert yB | revert Kz));exact k1.o)):p:=h C S A ⟨h0⟩ ⟨h1⟩
theorem Ad (ids:List Nat) {P:Program} {f:FuncId} {fn:Func} {c:Code} {args:List DVal} {d:DVal} {n:Nat} (an:Ann) {E:Prop} (hf:P.funcs[f]? =some fn) (vK:Enters P f) (hn:fn.ntmps=n) (hm:P.follows .mixedOrders=true) (hE:E) (hb:fn.body=some c) (h:Iy args->∀B:Base,B.nt=n/\B.ro=none->AnIs P an E->DW P B c (pH P fn ids d) ⟨Ap args 0,[]⟩) (qX:args.length<=n:=by simp) (hd:mx d=0:=by simp[mx]):Ag P f args d :=
 Vy ids hf hb vK (hn▸qX) hd fun qJ B hB=>h qJ B (hn▸hB) ⟨hm,hE⟩
theorem BU (ids:List Nat) (ρ:List (Nat×Nat×Nat)) {P:Program} {f:FuncId} {fn:Func} {c:Code} {args:List DVal} {own own':List Ent} {d:DVal} {n:Nat} (an:Ann) {E:Prop} (hf:P.funcs[f]? =some fn) (vK:Enters P f) (hn:fn.ntmps=n) (hm:P.follows .mixedOrders=true) (hE:E) (hb:fn.body=some c) (h:Iy args->∀B:Base,B.nt=n/\B.ro=none->AnIs P an E->DW P B c (YZ P fn ids ρ d own') ⟨Ap args 0,own⟩) (qX:args.length<=n:=by simp) (hρ:(ρ.map (·.2.1)).Nodup/\(ρ.map (·.1)).Nodup:=by simp) (hv:own'.all (fun e=>decide (e.r<=1))=true:=by simp):Bl P (.func f) args own d own' :=
 Za ids ρ hf hb vK (hn▸qX) hρ hv fun qJ B hB=>h qJ B (hn▸hB) ⟨hm,hE⟩
theorem wq {x:Int} (h1: -9223372036854775808<=x:=by omega) (h2:x<=9223372036854775807:=by omega):IntKind.i64.wrap x=x:=Ai h1 h2
end Go.Dm
end
section
namespace Go.Proofs.Wy
open Go Go.Dm Tryz
variable [DMode]
attribute [local irreducible] DW Bh Bk
set_option maxRecDepth 100000
def HI (l:List ByteArray) (s:ByteArray):Int:=if l.any (fun x=>s==x)then ((l.findIdx fun x=>s==x:Nat):Int)else -1
theorem Wm {l:List ByteArray} {s:ByteArray} {k:Nat} (hk:k<l.length) (h:l[k]=s) (zQ:∀i x,i<k->l[i]? =some x->(s==x)=false):HI l s=k:=by
 unfold HI;have hb:(s==l[k])=true:=by rw[h];exact beq_self_eq_true _
 rw[if_pos (cF0.2 ⟨l[k],cY0 _,hb⟩)]
 congr 1
 rw[List.findIdx_eq hk];exact⟨hb,fun i hi=>zQ i _ hi (aB0 (by omega))⟩
theorem Wn {l:List ByteArray} {s:ByteArray} (zQ:∀i x,i<l.length->l[i]? =some x->(s==x)=false):HI l s= -1:=by
 unfold HI;rw[if_neg];simp only[Bool.not_eq_true,dZ0];intro x hx;obtain⟨i,hi,rfl⟩:=bU0 hx;rw[zQ i _ hi (aB0 hi)]
theorem Be_ {l:List ByteArray} {s x:ByteArray} {k:Nat} (hx:l[k]? =some x) (hb:(s==x)=false) (zQ:∀i x,i<k->l[i]? =some x->(s==x)=false):∀i x,i<k+1->l[i]? =some x->(s==x)=false:=by
 intro i y hi hy
 by_cases dW:i=k
 ·subst dW;rw[hx]at hy;simp only[aA0]at hy;subst hy;exact hb
 ·exact zQ i y (by omega) hy
theorem WU {l:List ByteArray} (h:Ef (Bo l)):l.length<9223372036854775807:=by
 simp only[Ef,aO0]at h;omega
def DO : Ann:=⟨[],[]⟩
theorem Kw (l:List ByteArray) (s:ByteArray):Ag prog 152 [Bo l,.str s] (.int .i64 (HI l s)):=by
 refine Ad [] DO func152 call152 ntmps152 mxd (Az @DO.eq_1 results152) rfl (fun qJ B qX qQ=> ?_);have qY:=WU qJ.1;clear qJ;simp only[Ap];obtain⟨R,hR⟩:∃R,R=HI l s:=⟨_,rfl⟩;rw[<-hR]
 (repeat (first | refine AC fun K hK=> ?_ | (refine BL DO mxd (by kernel_rfl) ?_;simp[DO,qX];try simp (disch:=omega) only[Ai]) | refine Am ?_ | (refine AX ?_ ?_ ?_;(· (simp[qX];done));(try (rotate_left;(· (intro hc;(try simp[qX]at hc);done))))) | (refine AI ?_;simp[results152,qX]) | ((first | refine Av ?_ | refine Au ?_);simp[qX]) | (intro hc;(try simp[qX]at hc);(try (exfalso;omega))) | (refine⟨?_,?_⟩; · omega) | omega | apply_assumption -exfalso -symm | (exfalso;omega)))
 refine An (X:={k:Nat//k<=l.length/\∀i x,i<k->l[i]? =some x->(s==x)=false}) (fun x=>⟨[(0,Bo l),(1,.str s),(7,.int .i64 l.length),(8,.int .i64 x.1)],[]⟩) (fun x=>l.length-x.1) ⟨0,by simp⟩ (Sub.lit (by simp)) ?_;rintro⟨k,hk,zQ⟩
 by_cases qV:k<l.length
 ·obtain⟨x,hx,qG,zJ⟩:=Ar qV;cases hb:s==x
  ·(repeat (first | refine AC fun K hK=> ?_ | (refine BL DO mxd (by kernel_rfl) ?_;simp[DO,qX,AD,qV,qG,hx,hb];try simp (disch:=omega) only[Ai]) | refine Am ?_ | (refine AX ?_ ?_ ?_;(· (simp[qX,AD,qV,qG,hx,hb];done));(try (rotate_left;(· (intro hc;(try simp[qX,AD,qV,qG,hx,hb]at hc);done))))) | (refine AI ?_;simp[results152,qX,AD,qV,qG,hx,hb]) | ((first | refine Av ?_ | refine Au ?_);simp[qX,AD,qV,qG,hx,hb]) | (intro hc;(try simp[qX,AD,qV,qG,hx,hb]at hc);(try (exfalso;omega))) | (refine⟨?_,?_⟩; · omega) | omega | apply_assumption -exfalso -symm | (exfalso;omega)))
   exact Ak.mk ⟨k+1,by omega,Be_ hx hb zQ⟩ (Sub.lit (by simp[])) (by simp;omega)
   skip
  ·have hRk:R=k:=by rw[hR];exact Wm qV (by rw[qG];exact(by simpa using hb:s=x).symm) zQ
   subst hRk
   (repeat (first | refine AC fun K hK=> ?_ | (refine BL DO mxd (by kernel_rfl) ?_;simp[DO,qX,AD,qV,qG,hx,hb];try simp (disch:=omega) only[Ai]) | refine Am ?_ | (refine AX ?_ ?_ ?_;(· (simp[qX,AD,qV,qG,hx,hb];done));(try (rotate_left;(· (intro hc;(try simp[qX,AD,qV,qG,hx,hb]at hc);done))))) | (refine AI ?_;simp[results152,qX,AD,qV,qG,hx,hb]) | ((first | refine Av ?_ | refine Au ?_);simp[qX,AD,qV,qG,hx,hb]) | (intro hc;(try simp[qX,AD,qV,qG,hx,hb]at hc);(try (exfalso;omega))) | (refine⟨?_,?_⟩; · omega) | omega | apply_assumption -exfalso -symm | (exfalso;omega)))
 ·have qN:k=l.length:=by omega
  subst qN;have hRk:R= -1:=by rw[hR];exact Wn zQ
  subst hRk
  (repeat (first | refine AC fun K hK=> ?_ | (refine BL DO mxd (by kernel_rfl) ?_;simp[DO,qX];try simp (disch:=omega) only[Ai]) | refine Am ?_ | (refine AX ?_ ?_ ?_;(· (simp[qX];done));(try (rotate_left;(· (intro hc;(try simp[qX]at hc);done))))) | (refine AI ?_;simp[results152,qX]) | ((first | refine Av ?_ | refine Au ?_);simp[qX]) | (intro hc;(try simp[qX]at hc);(try (exfalso;omega))) | (refine⟨?_,?_⟩; · omega) | omega | apply_assumption -exfalso -symm | (exfalso;omega)))
def Pg : Ann:=⟨[],[]⟩
theorem Nh (l:List ByteArray) (s:ByteArray):Ag prog 98 [Bo l,.str s] (.bool (decide (0<=HI l s))):=by
 refine Ad [] Pg func98 call98 ntmps98 mxd (Az @Pg.eq_1 results98) rfl (fun qJ B qX qQ=> ?_);simp only[Ap]
 (repeat (first | refine AC fun K hK=> ?_ | (refine BL Pg mxd (by kernel_rfl) ?_;simp[Pg,qX];try simp (disch:=omega) only[Ai]) | refine Am ?_ | (refine AX ?_ ?_ ?_;(· (simp[qX];done));(try (rotate_left;(· (intro hc;(try simp[qX]at hc);done))))) | (refine AI ?_;simp[results98,qX]) | ((first | refine Av ?_ | refine Au ?_);simp[qX]) | (intro hc;(try simp[qX]at hc);(try (exfalso;omega))) | ((first | refine Af (Kw l s) ?_ | (refine Ae (Kw l s) ?_ ?_;(· (simp;done))));try simp[qX]) | (refine⟨?_,?_⟩; · omega) | omega | apply_assumption -exfalso -symm | (exfalso;omega)))
def WT (n:Int):Bool:=(decide (97<=n)&&decide (n<=122))||(decide (65<=n)&&decide (n<=90))||(decide (48<=n)&&decide (n<=57))||n==95
def AL_ (s:ByteArray):Bool:=s.data.toList.all fun b=>WT (b.toNat:Int)
def BN (s:ByteArray):Bool:=decide (1<=s.size)&&decide (s.size<=16)&&AL_ s
theorem CF (s:ByteArray):s.data.toList.length=s.size:=rfl
end Go.Proofs.Wy
end
