/- Parts of a proof, laid together: EnV, W0, WA, EnGo, WB2, WB1. -/
import Derived.Test.YtbpmiknobocjoaaGreatqAp10
import Derived.Test.YtbpmiknobocjoaaGreatqAp11
import Derived.Test.YtbpmiknobocjoaaGreatqAp16
set_option linter.unusedSimpArgs false
set_option maxHeartbeats 8000000
set_option linter.unusedVariables false
set_option linter.unusedSectionVars false
section
namespace Go.Dm
variable [DMode]
theorem St.out {own own':List Ent} {loc:Nat->Loc} {M:List Nat} {h:Array Obj} (ρ:List (Nat×Nat×Nat)) (S:St own loc M h) (hρ:(ρ.map (·.2.1)).Nodup/\(ρ.map (·.1)).Nodup)
  (ho:LW own (BT own ρ) ρ=some own') (hk:MK own ρ) :
  ∃loc',St own' loc' M h/\(∀b∈Aa own' loc',b∈Aa own loc)/\(∀x∈own',∃i e,(i,x.id,x.r)∈ρ/\Ah own i=some e/\loc' x.id=loc i/\(x.r=1\/(x.r=0/\i=x.id/\e.r=0))) /\
   (∀d v,Vw d->rd (Ac own loc) (Aa own loc++M) h d v->rd (Ac own' loc') (Aa own' loc'++M) h (Hy (BT own ρ) d) v):=by
 have h2:((ρ.map fun p=>(p.1,p.2.1)).map (·.2)).Nodup:=by rw[cC0];exact hρ.1
 have gG:∀i j v,(i,j,v)∈ρ->loc ((BG (ρ.map fun p=>(p.1,p.2.1)) j).getD 0)=loc i:=by
  intro i j v hm;rw[Cx h2 (aT0.2 ⟨(i,j,v),hm,rfl⟩)];rfl
 obtain⟨hm,zW⟩:=ML ho
 have hx:∀x∈own',∃i e,(i,x.id,x.r)∈ρ/\Ah own i=some e/\x.obj=JB (BT own ρ) e.obj:=by
  intro x hx;obtain⟨i,j,v,e,h1,h2,rfl⟩:=hm x hx;exact⟨i,e,h1,h2,rfl⟩
 have hnd:(own'.map (·.id)).Nodup:=by rw[zW];exact hρ.1
 have kE:Aa own' (fun j=>loc ((BG (ρ.map fun p=>(p.1,p.2.1)) j).getD 0))=Aa (own'.map fun x=>⟨(BG (ρ.map fun p=>(p.1,p.2.1)) x.id).getD 0,0,x.obj⟩) loc:=by
  simp[Aa,List.flatMap_map]
 have gU:((own'.map fun x=>(⟨(BG (ρ.map fun p=>(p.1,p.2.1)) x.id).getD 0,0,x.obj⟩:Ent)).map (·.id)).Nodup:=by
  rw[cC0]
  have:own'.map ((·.id)∘fun x=>(⟨(BG (ρ.map fun p=>(p.1,p.2.1)) x.id).getD 0,0,x.obj⟩:Ent))=ρ.map (·.1):=by
   have e1:own'.map ((·.id)∘fun x=>(⟨(BG (ρ.map fun p=>(p.1,p.2.1)) x.id).getD 0,0,x.obj⟩:Ent))=(own'.map (·.id)).map (fun j=>(BG (ρ.map fun p=>(p.1,p.2.1)) j).getD 0):=by
    rw[cC0];rfl
   rw[e1,zW,cC0];refine cJ0 fun p hp=> ?_
   simp only[Function.comp_def];rw[Cx h2 (aT0.2 ⟨p,hp,rfl⟩)];rfl
  rw[this];exact hρ.2
 have kH:∀b∈Aa own' (fun j=>loc ((BG (ρ.map fun p=>(p.1,p.2.1)) j).getD 0)),b∈Aa own loc:=by
  intro b hb;obtain⟨x,qB,hb⟩:=bP0.1 hb;obtain⟨i,e,h1,h2,_⟩:=hx x qB;simp only[gG i _ _ h1]at hb;obtain⟨k1,k2⟩:=Ar h2;rw[<-k2]at hb;exact AW k1 hb
 have hM:∀b,b∈Aa own' (fun j=>loc ((BG (ρ.map fun p=>(p.1,p.2.1)) j).getD 0))++M->b∈Aa own loc++M:=by
  intro b hb
  rcases aG0.1 hb with hb | hb
  ·exact aM0 _ (kH b hb)
  ·exact aN0 _ hb
 have W:Weak (Ac own loc) (Ac own' fun j=>loc ((BG (ρ.map fun p=>(p.1,p.2.1)) j).getD 0)) (Aa own loc++M) (Aa own' (fun j=>loc ((BG (ρ.map fun p=>(p.1,p.2.1)) j).getD 0))++M) h h 0 :=
  ⟨fun id r l hr=>by omega,fun b o _ (_:FE o=true) ho=>ho,fun b o hb (_:FE o=true) _ hm=>hb (hM b hm)⟩
 have L:GW (Ac own loc) (Ac own' fun j=>loc ((BG (ρ.map fun p=>(p.1,p.2.1)) j).getD 0)) (BT own ρ):=by
  intro i r p lc hp hl;obtain⟨e,h1,h2,h3⟩:=IT hp;obtain⟨e0,_,g1,_,g3⟩:=BE hl;obtain⟨k1,k2⟩:=Ar h2;rw[<-h3,<-k2,Ay S.nd k1,g3,gG i p.1 p.2 h1,k2]
 refine⟨fun j=>loc ((BG (ρ.map fun p=>(p.1,p.2.1)) j).getD 0),⟨hnd,?_,fun b hb=>S.ap b (kH b hb),fun b hb=>S.lt b (hM b hb),?_⟩,kH,?_,fun d v hd hr=>PN W L hd hr⟩
 ·rw[kE];refine GG S.bl _ gU fun e he=> ?_
  obtain⟨x,qB,rfl⟩:=aT0.1 he;obtain⟨i,e,h1,fG,_⟩:=hx x qB;simp only[Cx h2 (aT0.2 ⟨_,h1,rfl⟩),bY0];exact⟨e,Ar fG⟩
 ·intro x qB;obtain⟨i,e,h1,fG,h3⟩:=hx x qB;obtain⟨e',h4,h5,_⟩:=KQ hk i _ _ h1;rw[fG]at h4;simp only[aA0]at h4;subst h4;obtain⟨k1,k2⟩:=Ar fG;rw[h3];exact Lk W L (l:=loc i) h5 (gG i _ _ h1) (fun b o _ ho=>ho) (by have:=S.ok e k1;rwa[k2]at this)
 ·intro x qB;obtain⟨i,e,h1,fG,h3⟩:=hx x qB;obtain⟨e',h4,_,h5⟩:=KQ hk i _ _ h1;rw[fG]at h4;simp only[aA0]at h4;subst h4;exact⟨i,e,h1,fG,gG i _ _ h1,h5⟩
def WY : List Ent->Prop
 | []=>True
 | e::t=>(match e.obj with
  | .row _ _ bs es=>es.length*bs<=150000000000000/\es.length<=maxLen/\xW es
  | .box cs=>KI cs
  | .map ks vs=>KI ks/\KI vs
  | _=>True)/\WY t
theorem GA_ {own:List Ent} {loc:Nat->Loc} {M:List Nat} {h:Array Obj} (S:St own loc M h):WY own:=by
 have key:∀l:List Ent,(∀e∈l,e∈own)->WY l:=by
  intro l
  induction l with
  | nil=>intro _;trivial
  | cons e t ih =>
   intro hm;refine⟨?_,ih fun x hx=>hm x (aF0 _ hx)⟩;have hk:=S.ok e (hm e aH0)
   cases qN:e.obj with
   | box cs=>rw[qN]at hk;obtain⟨b,arr,ty,_,_,_,h4⟩:=hk;exact Vl cs arr 0 h4
   | row et k bs es =>
    rw[qN]at hk;obtain⟨h0,⟨rfl,_⟩ | ⟨b,arr,cap,_,_,_,h4,h5,_,h7⟩⟩:=hk
    ·exact⟨by simp,by simp,by simp[xW]⟩
    ·exact⟨h0,Nat.le_trans h4 h5,eU _ _ _ _ h7⟩
   | map ks vs=>rw[qN]at hk;obtain⟨b,es,clk,_,_,_,h4,h5⟩:=hk;exact⟨Fh _ _ h4,Fh _ _ h5⟩
   | abs A=>trivial
   | mapD _ _=>trivial
   | lrec _ _ _ _ _ _=>trivial
   | glob _ _=>trivial
 exact key own fun _ h=>h
theorem NL (ids:List Nat) (ρ:List (Nat×Nat×Nat)) {P:Program} {f:FuncId} {fn:Func} {c:Code} {args:List DVal} {own own':List Ent} {d:DVal} (hf:P.funcs[f]? =some fn) (hb:fn.body=some c) (vJ:Enters P f) (qX:args.length<=fn.ntmps)
  (hρ:(ρ.map (·.2.1)).Nodup/\(ρ.map (·.1)).Nodup) (hv:own'.all (fun e=>decide (e.r<=1))=true)
  (h:KI args->WY own->∀B:BaseN,B.nt=fn.ntmps/\B.ro=none->DW P B c (aG P fn ids ρ d own') ⟨Aq args 0,own⟩):Bj P (.func f) args own d own':=by
 refine⟨fun e he=>by simpa using aZ0.1 hv e he,vJ,fun M w loc vs S hr=> ?_⟩
 have key:∀B:BaseN,B.nt=fn.ntmps/\B.ro=none->DW P B c (SI P fn fun s d0=>Vw d0/\wk (Hy (BT s.own ρ) d0) d/\LW s.own (BT s.own ρ) ρ=some own'/\MK s.own ρ) ⟨Aq args 0,own⟩:=by
  intro B hB a w loc R;refine wpIn_mono (h (Fh _ _ hr) (GA_ S) B hB a w loc R) ?_;rintro e a' w' ⟨s',loc',hq,R'⟩;obtain⟨loc'',R''⟩:=Sub.freezeL ids s' a' w' loc' R';refine⟨freezeL s' ids,loc'',?_,R''⟩
  cases e<;>simp only[aG]at hq<;>first
   |(split at hq
     ·rename_i d0 kK;exact⟨d0,kK,hq⟩
     ·exact hq.elim)
   | exact hq.elim
 refine NI (N:=1) (Nat.le_refl 1) hf hb vJ qX S (fun _ _ _=>trivial) hr key ?_;intro s loc' w' d0 v ⟨hd,hw,ho,hk⟩ S' hu wG vB vX;obtain⟨loc1,S1,h1,h2,h3⟩:=S'.out ρ hρ ho hk;refine⟨loc1,S1,hu,fun b hb=>wG b (h1 b hb),fun x hx qV=> ?_,Xv hw (h3 d0 v hd vX)⟩;obtain⟨i,e,g1,g2,g3,g4⟩:=h2 x hx
 rcases g4 with g4 | ⟨g4,g5,g6⟩
 ·omega
 ·obtain⟨k1,k2⟩:=Ar g2;have:=vB e k1 (by omega);rw[k2,g6]at this;rw[g3,g4,<-g5];exact this
theorem aJ (ids:List Nat) (ρ:List (Nat×Nat×Nat)) {P:Program} {f:FuncId} {fn:Func} {c:Code} {args:List DVal} {own own':List Ent} {d:DVal} (hf:P.funcs[f]? =some fn) (hb:fn.body=some c) (vJ:Enters P f) (qX:args.length<=fn.ntmps)
  (hρ:(ρ.map (·.2.1)).Nodup/\(ρ.map (·.1)).Nodup) (hv:own'.all (fun e=>decide (e.r<=1))=true)
  (h:KI args->∀B:BaseN,B.nt=fn.ntmps/\B.ro=none->DW P B c (aG P fn ids ρ d own') ⟨Aq args 0,own⟩):Bj P (.func f) args own d own' :=
 NL ids ρ hf hb vJ qX hρ hv fun qJ _=>h qJ
theorem AO (ρ ν:List (Nat×Nat)) {P:Program} {g:FuncId} {args args0:List DVal} {own own0 own0':List Ent} {d0:DVal} {K:ContE} (hS:Bj P (.func g) args0 own0 d0 own0')
  (wL:LW own (BT own (Eb ρ)) (Eb ρ)=some own0/\VR own ρ/\(Vv args/\wkA (args.map (Hy (BT own (Eb ρ)))) args0)/\(((ρ++ν).map (·.1)).Nodup/\(ρ.map (·.2)).Nodup)/\Vu own0'/\Vw d0)
  (hk:∀r,match Iz (DF own ρ ν r) own0' with
   | some l=>((Bl own ((ρ++ν).map (·.1))++l).map (·.id)).Nodup/\K.f (Hy (DF own ρ ν r) d0) (Bl own ((ρ++ν).map (·.1))++l)
   | none=>False):BS P g args own K:=by
 intro r;have h:=hk r
 split at h
 ·rename_i l hl;exact⟨_,_,PE ρ ν hS wL.1 wL.2.1 wL.2.2.1 wL.2.2.2.1 hl wL.2.2.2.2.1 wL.2.2.2.2.2 h.1,h.2⟩
 ·exact h.elim
attribute [simp] Eb BG DF Iz Bl Vu Vv VR Bz_ FV_ Ga_ SO SN Bc Cm
end Go.Dm
end
section
namespace Go.Proofs.Wy
open Go Go.Dm Tryz
variable [DMode]
attribute [local irreducible] DW BN BS
structure Sym where
 label:Bool
 n:Int
 deriving DecidableEq
def Ch (s:Sym):List DVal:=[.bool s.label,.int .i64 s.n]
abbrev Il_ (l:List Sym):DVal:= .sl 2 16 (l.map Ch)
structure Prod where
 head:Int
 body:List Sym
 deriving DecidableEq
def sS (p:Prod):List DVal:=[.int .i64 p.head,Il_ p.body]
abbrev Hi_ (l:List Prod):DVal:= .sl 2 32 (l.map sS)
structure Cnf where
 nts:Int
 prods:List Prod
 deriving DecidableEq
def Im_ (c:Cnf):List DVal:=[.int .i64 c.nts,Hi_ c.prods]
theorem mxd : Tryz.prog.follows .mixedOrders=true:=by kernel_rfl
theorem Ie {α:Type} (f:α->List DVal) (h:∀x,AJ (f x)=0) (l:List α):Br (l.map f)=0:=by
 induction l with
 | nil=>rfl
 | cons x l ih=>simp[Br,h,ih]
@[simp] theorem FC_ (s:Sym):AJ (Ch s)=0:=by simp[Ch,AJ,mx]
@[simp] theorem HX_ (l:List Sym):Br (l.map Ch)=0:=Ie _ FC_ l
@[simp] theorem Dd_ (p:Prod):AJ (sS p)=0:=by simp[sS,AJ,mx]
@[simp] theorem HA_ (l:List Prod):Br (l.map sS)=0:=Ie _ Dd_ l
@[simp] theorem IF_ (c:Cnf):AJ (Im_ c)=0:=by simp[Im_,AJ,mx]
theorem aR {α:Type} {f:α->List DVal}:∀{l:List α} {k:Nat} {x:α},xW (l.map f)->l[k]? =some x->KI (f x)
 | a::l,0,x,h,hx=>by
  simp only[bA0,aA0]at hx;subst hx;simp only[List.map_cons,xW]at h;exact h.1
 | a::l,k+1,x,h,hx=>by
  simp only[List.map_cons,xW]at h;exact aR h.2 (by simpa using hx)
theorem Ap {α:Type} {l:List α} {k:Nat} (h:k<l.length):∃x,l[k]? =some x/\l[k]=x/\x∈l:=⟨l[k],aI0 h,rfl,dE0 h⟩
end Go.Proofs.Wy
end
section
namespace Go.Proofs.Wy
open Go Go.Dm Tryz
variable [DMode]
instance : LawfulBEq ByteArray where
 eq_of_beq {a b} h:=by
  rw[<-Ni]at h;have h:=eq_of_beq h;cases a;cases b;simp only at h;rw[h]
 rfl {a}:=by rw[<-Ni];exact beq_self_eq_true _
structure Edge where
 fr:ByteArray
 lb:ByteArray
 to:ByteArray
 deriving DecidableEq
structure Edges where
 nodes:List ByteArray
 edges:List Edge
 deriving DecidableEq
def Be (s:ByteArray):List DVal:=[.str s]
def sT (e:Edge):List DVal:=[.str e.fr,.str e.lb,.str e.to]
abbrev Bz (l:List ByteArray):DVal:= .sl 1 16 (l.map Be)
abbrev Jc_ (l:List Edge):DVal:= .sl 3 48 (l.map sT)
def dGr (g:Edges):List DVal:=[Bz g.nodes,Jc_ g.edges]
@[simp] theorem FD_ (s:ByteArray):AJ (Be s)=0:=by simp[Be,AJ,mx]
@[simp] theorem Df_ (s:Edge):AJ (sT s)=0:=by simp[sT,AJ,mx]
@[simp] theorem HY_ (l:List ByteArray):Br (l.map Be)=0:=Ie _ FD_ l
@[simp] theorem IE_ (l:List Edge):Br (l.map sT)=0:=Ie _ Df_ l
@[simp] theorem IS_ (g:Edges):AJ (dGr g)=0:=by simp[dGr,AJ,mx]
def CO (a b:ByteArray):Bool:=Op.bytesLess a.data.toList b.data.toList
theorem EC_ : ∀l:List UInt8,Op.bytesLess l l=false
 | []=>rfl
 | a::l=>by simp[Op.bytesLess,EC_ l]
theorem Zi : ∀{a b c:List UInt8},Op.bytesLess a b=true->Op.bytesLess b c=true->Op.bytesLess a c=true
 | _,[],_,h,_=>by cases ‹List UInt8› <;>simp[Op.bytesLess]at h
 | _,_::_,[],_,h=>by simp[Op.bytesLess]at h
 | [],_::_,_::_,_,_=>by simp[Op.bytesLess]
 | x::a,y::b,z::c,h1,h2=>by
  simp only[Op.bytesLess,dB0,aL0,decide_eq_true_eq,beq_iff_eq]at h1 h2 |-
  rcases h1 with h1 | ⟨rfl,h1⟩
  ·rcases h2 with h2 | ⟨rfl,h2⟩
   ·exact .inl (UInt8.lt_trans h1 h2)
   ·exact .inl h1
  ·rcases h2 with h2 | ⟨rfl,h2⟩
   ·exact .inl h2
   ·exact .inr ⟨rfl,Zi h1 h2⟩
theorem EB_ : ∀{a b:List UInt8},Op.bytesLess a b=false->Op.bytesLess b a=false->a=b
 | [],[],_,_=>rfl
 | [],_::_,h,_=>by simp[Op.bytesLess]at h
 | _::_,[],_,h=>by simp[Op.bytesLess]at h
 | x::a,y::b,h1,h2=>by
  simp only[Op.bytesLess,Bool.or_eq_false_iff,Bool.and_eq_false_iff,decide_eq_false_iff_not,beq_eq_false_iff_ne]at h1 h2;have mI:x=y:=UInt8.le_antisymm (UInt8.not_lt.1 h2.1) (UInt8.not_lt.1 h1.1);subst mI;rw[EB_ (h1.2.resolve_left (by simp)) (h2.2.resolve_left (by simp))]
theorem Fe (a:ByteArray):CO a a=false:=EC_ _
theorem JP {a b c:ByteArray} (h1:CO a b=true) (h2:CO b c=true):CO a c=true:=Zi h1 h2
theorem Iw {a b:ByteArray} (h:a.data.toList=b.data.toList):a=b:=by
 obtain⟨⟨x⟩⟩:=a;obtain⟨⟨y⟩⟩:=b;simp only at h;subst h;rfl
theorem KM {a b:ByteArray} (h1:CO a b=false) (h2:CO b a=false):a=b:=Iw (EB_ h1 h2)
theorem QB {a b:ByteArray} (h:CO a b=true):CO b a=false:=by
 cases hb:CO b a
 ·rfl
 ·have:=JP h hb;rw[Fe]at this;simp at this
theorem CA_ {a b:ByteArray} (h:CO a b=true):a≠b:=fun e=>by subst e;rw[Fe]at h;simp at h
def NS (a b:ByteArray):Int:=if CO a b then -1 else if CO b a then 1 else 0
theorem Ar_ {a b:ByteArray}:NS a b=0↔a=b:=by
 unfold NS
 constructor
 ·intro h
  split at h
  ·simp at h
  ·split at h
   ·simp at h
   ·rename_i h1 h2;exact KM (by simpa using h1) (by simpa using h2)
 ·rintro rfl;rw[Fe];simp
theorem Gs {a b:ByteArray}:NS a b<0↔CO a b=true:=by
 unfold NS
 split
 ·simp_all
 ·split<;>simp_all
end Go.Proofs.Wy
end
section
namespace Go.Dm
variable [DMode]
structure AnIs (P:Program) (an:Ann) (E:Prop):Prop where
 m:P.follows .mixedOrders=true
 e:E
theorem EJ_ {P:Program} (an:Ann) {E:Prop} (m:P.follows .mixedOrders=true) (e:E):AnIs P an E:=⟨m,e⟩
theorem EV_ {P:Program} {B:Base} {s:DS} {A:Ann} {E:Prop} {id:Nat} {ops:Array Oper} {draw:Bool} {Q:Exit->DS->Prop} (qQ:AnIs P A E) (qG:(!draw||Ei A.ow (IB A.rs id).l1 (IB A.rs id).l2 ops)=true)
 (h:Ci P B.nt A.ow (IB A.rs id).l1 (IB A.rs id).l2 ops ops.toList 0 (kQ Q (IB A.rs id).fz) s):DW P B (.region id ops draw) Q s:=BA A qQ.m qG h
structure Spc (ρ ν:List (Nat×Nat)) (p:Prop):Prop where
 o:p
theorem JA (ρ ν:List (Nat×Nat)) {p:Prop} (h:p):Spc ρ ν p:=⟨h⟩
theorem Dc {ρ ν:List (Nat×Nat)} {P:Program} {g:FuncId} {args args0:List DVal} {own own0 own0':List Ent} {d0:DVal} {K:ContE} (hS:Spc ρ ν (Bj P (.func g) args0 own0 d0 own0'))
 (wL:LW own (BT own (Eb ρ)) (Eb ρ)=some own0/\VR own ρ/\(Vv args/\wkA (args.map (Hy (BT own (Eb ρ)))) args0)/\(((ρ++ν).map (·.1)).Nodup/\(ρ.map (·.2)).Nodup)/\Vu own0'/\Vw d0)
 (hk:∀r,match Iz (DF own ρ ν r) own0' with
  | some l=>((Bl own ((ρ++ν).map (·.1))++l).map (·.id)).Nodup/\K.f (Hy (DF own ρ ν r) d0) (Bl own ((ρ++ν).map (·.1))++l)
  | none=>False):BS P g args own K:=AO ρ ν hS.o wL hk
structure Hd (p:Prop):Prop where
 o:p
def Mk (p:Prop):Prop:=p
theorem Hb_ {p:Prop} (h:Mk p):p:=h
theorem Am {p:Prop} (h:p):Mk p:=h
theorem Ab : True:=trivial
theorem AH {a:Prop} (h0:a):a/\True:=⟨h0,trivial⟩
theorem AB {a b:Prop} (h0:a) (h1:b):a/\b/\True:=⟨h0,h1,trivial⟩
theorem CL {a b c:Prop} (h0:a) (h1:b) (h2:c):a/\b/\c/\True:=⟨h0,h1,h2,trivial⟩
theorem IF {a b c d:Prop} (h0:a) (h1:b) (h2:c) (h3:d):a/\b/\c/\d/\True:=⟨h0,h1,h2,h3,trivial⟩
theorem Lj {a b c d e:Prop} (h0:a) (h1:b) (h2:c) (h3:d) (h4:e):a/\b/\c/\d/\e/\True:=⟨h0,h1,h2,h3,h4,trivial⟩
theorem Jm {a b c d e f:Prop} (h0:a) (h1:b) (h2:c) (h3:d) (h4:e) (h5:f):a/\b/\c/\d/\e/\f/\True:=⟨h0,h1,h2,h3,h4,h5,trivial⟩
theorem IH {a b c d e f g:Prop} (h0:a) (h1:b) (h2:c) (h3:d) (h4:e) (h5:f) (h6:g):a/\b/\c/\d/\e/\f/\g/\True:=⟨h0,h1,h2,h3,h4,h5,h6,trivial⟩
theorem KG {a b c d e f g h:Prop} (h0:a) (h1:b) (h2:c) (h3:d) (h4:e) (h5:f) (h6:g) (h7:h):a/\b/\c/\d/\e/\f/\g/\h/\True:=⟨h0,h1,h2,h3,h4,h5,h6,h7,trivial⟩
theorem WJ {a b c d e f g h i:Prop} (h0:a) (h1:b) (h2:c) (h3:d) (h4:e) (h5:f) (h6:g) (h7:h) (h8:i):a/\b/\c/\d/\e/\f/\g/\h/\i/\True:=⟨h0,h1,h2,h3,h4,h5,h6,h7,h8,trivial⟩
theorem Ml {a b c d e f g h i j:Prop} (h0:a) (h1:b) (h2:c) (h3:d) (h4:e) (h5:f) (h6:g) (h7:h) (h8:i) (h9:j):a/\b/\c/\d/\e/\f/\g/\h/\i/\j/\True:=⟨h0,h1,h2,h3,h4,h5,h6,h7,h8,h9,trivial⟩
theorem JE {a b c d e f g h i j k:Prop} (h0:a) (h1:b) (h2:c) (h3:d) (h4:e) (h5:f) (h6:g) (h7:h) (h8:i) (h9:j) (nS:k):a/\b/\c/\d/\e/\f/\g/\h/\i/\j/\k/\True:=⟨h0,h1,h2,h3,h4,h5,h6,h7,h8,h9,nS,trivial⟩
theorem oK {a b c d e f g h i j k l:Prop} (h0:a) (h1:b) (h2:c) (h3:d) (h4:e) (h5:f) (h6:g) (h7:h) (h8:i) (h9:j) (nS:k) (h11:l):a/\b/\c/\d/\e/\f/\g/\h/\i/\j/\k/\l/\True:=⟨h0,h1,h2,h3,h4,h5,h6,h7,h8,h9,nS,h11,trivial⟩
theorem Hs_ {a b c d e f g h i j k l m n:Prop} (h0:a) (h1:b) (h2:c) (h3:d) (h4:e) (h5:f) (h6:g) (h7:h) (h8:i) (h9:j) (nS:k) (h11:l) (nR:m) (h13:n):a/\b/\c/\d/\e/\f/\g/\h/\i/\j/\k/\l/\m/\n/\True:=⟨h0,h1,h2,h3,h4,h5,h6,h7,h8,h9,nS,h11,nR,h13,trivial⟩
theorem Ir_ {a b c d e f g h i j k l m n o:Prop} (h0:a) (h1:b) (h2:c) (h3:d) (h4:e) (h5:f) (h6:g) (h7:h) (h8:i) (h9:j) (nS:k) (h11:l) (nR:m) (h13:n) (h14:o):a/\b/\c/\d/\e/\f/\g/\h/\i/\j/\k/\l/\m/\n/\o/\True:=⟨h0,h1,h2,h3,h4,h5,h6,h7,h8,h9,nS,h11,nR,h13,h14,trivial⟩
theorem NG {a b c d e f g h i j k l m n o p:Prop} (h0:a) (h1:b) (h2:c) (h3:d) (h4:e) (h5:f) (h6:g) (h7:h) (h8:i) (h9:j) (nS:k) (h11:l) (nR:m) (h13:n) (h14:o) (h15:p):a/\b/\c/\d/\e/\f/\g/\h/\i/\j/\k/\l/\m/\n/\o/\p/\True:=⟨h0,h1,h2,h3,h4,h5,h6,h7,h8,h9,nS,h11,nR,h13,h14,h15,trivial⟩
theorem Az {p c s a:Prop} (C:c) (S:s) (A:a) (h:c->s->a->p:=by
 (intro C S A;(repeat (first | refine AC fun Kz hKz=> ?_ | (refine EV_ qQ (by kernel_rfl) ?_;simp[qQ.e,qX,A];try simp (disch:=omega) only[Ag]) | refine Ao ?_ | (refine AX ?_ ?_ ?_;(· (simp[qX,A];done));(try (rotate_left;(· (intro bV;(try simp[qX,A]at bV);done))))) | (refine AE ?_;simp[qQ.e,qX,A]) | ((first | refine Aw ?_ | refine Av ?_);simp[qX,A]) | (intro bV;(try simp[qX,A]at bV);(try (exfalso;omega))) | ((first | refine Ak C.1 ?_ | (refine Aj C.1 ?_ ?_;(· (simp;done))) | refine Ak C.2.1 ?_ | (refine Aj C.2.1 ?_ ?_;(· (simp;done))) | refine Ak C.2.2.1 ?_ | (refine Aj C.2.2.1 ?_ ?_;(· (simp;done))) | refine Ak C.2.2.2.1 ?_ | (refine Aj C.2.2.2.1 ?_ ?_;(· (simp;done))) | refine Ak C.2.2.2.2.1 ?_ | (refine Aj C.2.2.2.2.1 ?_ ?_;(· (simp;done))) | refine Ak C.2.2.2.2.2.1 ?_ | (refine Aj C.2.2.2.2.2.1 ?_ ?_;(· (simp;done))) | refine Ak C.2.2.2.2.2.2.1 ?_ | (refine Aj C.2.2.2.2.2.2.1 ?_ ?_;(· (simp;done))) | refine Ak C.2.2.2.2.2.2.2.1 ?_ | (refine Aj C.2.2.2.2.2.2.2.1 ?_ ?_;(· (simp;done))));try simp[qX,A]) | (refine Dc S.1 ?_ ?_;(· (simp[qX,A];done));(intro Kz;try simp[qX,A])) | (refine Dc S.2.1 ?_ ?_;(· (simp[qX,A];done));(intro Kz;try simp[qX,A])) | (refine Dc S.2.2.1 ?_ ?_;(· (simp[qX,A];done));(intro Kz;try simp[qX,A])) | (refine Dc S.2.2.2.1 ?_ ?_;(· (simp[qX,A];done));(intro Kz;try simp[qX,A])) | (refine⟨?_,?_⟩; · omega) | omega | apply_assumption -exfalso -symm | (exfalso;omega))))):p:=h C S A
theorem AL {p c s a q0:Prop} (C:c) (S:s) (A:a) (h0:q0) (h:c->s->a->Hd q0->p:=by
 (intro C S A k0;(repeat (first | refine AC fun Kz hKz=> ?_ | (refine EV_ qQ (by kernel_rfl) ?_;simp[qQ.e,qX,A];try simp (disch:=omega) only[Ag]) | refine Ao ?_ | (refine AX ?_ ?_ ?_;(· (simp[qX,A];done));(try (rotate_left;(· (intro bV;(try simp[qX,A]at bV);done))))) | (refine AE ?_;simp[qQ.e,qX,A]) | ((first | refine Aw ?_ | refine Av ?_);simp[qX,A]) | (intro bV;(try simp[qX,A]at bV);(try (exfalso;omega))) | ((first | refine Ak C.1 ?_ | (refine Aj C.1 ?_ ?_;(· (simp;done))) | refine Ak C.2.1 ?_ | (refine Aj C.2.1 ?_ ?_;(· (simp;done))) | refine Ak C.2.2.1 ?_ | (refine Aj C.2.2.1 ?_ ?_;(· (simp;done))) | refine Ak C.2.2.2.1 ?_ | (refine Aj C.2.2.2.1 ?_ ?_;(· (simp;done))) | refine Ak C.2.2.2.2.1 ?_ | (refine Aj C.2.2.2.2.1 ?_ ?_;(· (simp;done))) | refine Ak C.2.2.2.2.2.1 ?_ | (refine Aj C.2.2.2.2.2.1 ?_ ?_;(· (simp;done))) | refine Ak C.2.2.2.2.2.2.1 ?_ | (refine Aj C.2.2.2.2.2.2.1 ?_ ?_;(· (simp;done))) | refine Ak C.2.2.2.2.2.2.2.1 ?_ | (refine Aj C.2.2.2.2.2.2.2.1 ?_ ?_;(· (simp;done))));try simp[qX,A]) | (refine Dc S.1 ?_ ?_;(· (simp[qX,A];done));(intro Kz;try simp[qX,A])) | (refine Dc S.2.1 ?_ ?_;(· (simp[qX,A];done));(intro Kz;try simp[qX,A])) | (refine Dc S.2.2.1 ?_ ?_;(· (simp[qX,A];done));(intro Kz;try simp[qX,A])) | (refine Dc S.2.2.2.1 ?_ ?_;(· (simp[qX,A];done));(intro Kz;try simp[qX,A])) | (refine⟨?_,?_⟩; · omega) | omega | apply_assumption -exfalso -symm | (exfalso;omega)));refine Hb_ ?_;(repeat (first | revert bV | revert Kz));exact k0.o)):p:=h C S A ⟨h0⟩
theorem go2 {p c s a q0 q1:Prop} (C:c) (S:s) (A:a) (h0:q0) (h1:q1) (h:c->s->a->Hd q0->Hd q1->p:=by
 (intro C S A k0 k1;(repeat (first | refine AC fun Kz hKz=> ?_ | (refine EV_ qQ (by kernel_rfl) ?_;simp[qQ.e,qX,A];try simp (disch:=omega) only[Ag]) | refine Ao ?_ | (refine AX ?_ ?_ ?_;(· (simp[qX,A];done));(try (rotate_left;(· (intro bV;(try simp[qX,A]at bV);done))))) | (refine AE ?_;simp[qQ.e,qX,A]) | ((first | refine Aw ?_ | refine Av ?_);simp[qX,A]) | (intro bV;(try simp[qX,A]at bV);(try (exfalso;omega))) | ((first | refine Ak C.1 ?_ | (refine Aj C.1 ?_ ?_;(· (simp;done))) | refine Ak C.2.1 ?_ | (refine Aj C.2.1 ?_ ?_;(· (simp;done))) | refine Ak C.2.2.1 ?_ | (refine Aj C.2.2.1 ?_ ?_;(· (simp;done))) | refine Ak C.2.2.2.1 ?_ | (refine Aj C.2.2.2.1 ?_ ?_;(· (simp;done))) | refine Ak C.2.2.2.2.1 ?_ | (refine Aj C.2.2.2.2.1 ?_ ?_;(· (simp;done))) | refine Ak C.2.2.2.2.2.1 ?_ | (refine Aj C.2.2.2.2.2.1 ?_ ?_;(· (simp;done))) | refine Ak C.2.2.2.2.2.2.1 ?_ | (refine Aj C.2.2.2.2.2.2.1 ?_ ?_;(· (simp;done))) | refine Ak C.2.2.2.2.2.2.2.1 ?_ | (refine Aj C.2.2.2.2.2.2.2.1 ?_ ?_;(· (simp;done))));try simp[qX,A]) | (refine Dc S.1 ?_ ?_;(· (simp[qX,A];done));(intro Kz;try simp[qX,A])) | (refine Dc S.2.1 ?_ ?_;(· (simp[qX,A];done));(intro Kz;try simp[qX,A])) | (refine Dc S.2.2.1 ?_ ?_;(· (simp[qX,A];done));(intro Kz;try simp[qX,A])) | (refine Dc S.2.2.2.1 ?_ ?_;(· (simp[qX,A];done));(intro Kz;try simp[qX,A])) | (refine⟨?_,?_⟩; · omega) | omega | apply_assumption -exfalso -symm | (exfalso;omega)));refine Hb_ ?_;(repeat (first | revert bV | revert Kz));exact k0.o;refine Hb_ ?_;(repeat (first | revert bV | revert Kz));exact k1.o)):p:=h C S A ⟨h0⟩ ⟨h1⟩
theorem Ae (ids:List Nat) {P:Program} {f:FuncId} {fn:Func} {c:Code} {args:List DVal} {d:DVal} {n:Nat} (an:Ann) {E:Prop} (hf:P.funcs[f]? =some fn) (vJ:Enters P f) (hn:fn.ntmps=n) (hm:P.follows .mixedOrders=true) (hE:E) (hb:fn.body=some c) (h:KI args->∀B:BaseN,B.nt=n/\B.ro=none->AnIs P an E->DW P B c (NJ P fn ids d) ⟨Aq args 0,[]⟩) (qX:args.length<=n:=by simp) (hd:mx d=0:=by simp[mx]):Af P f args d :=
 WS ids hf hb vJ (hn▸qX) hd fun qJ B hB=>h qJ B (hn▸hB) ⟨hm,hE⟩
theorem BL (ids:List Nat) (ρ:List (Nat×Nat×Nat)) {P:Program} {f:FuncId} {fn:Func} {c:Code} {args:List DVal} {own own':List Ent} {d:DVal} {n:Nat} (an:Ann) {E:Prop} (hf:P.funcs[f]? =some fn) (vJ:Enters P f) (hn:fn.ntmps=n) (hm:P.follows .mixedOrders=true) (hE:E) (hb:fn.body=some c) (h:KI args->∀B:BaseN,B.nt=n/\B.ro=none->AnIs P an E->DW P B c (aG P fn ids ρ d own') ⟨Aq args 0,own⟩) (qX:args.length<=n:=by simp) (hρ:(ρ.map (·.2.1)).Nodup/\(ρ.map (·.1)).Nodup:=by simp) (hv:own'.all (fun e=>decide (e.r<=1))=true:=by simp):Bj P (.func f) args own d own' :=
 aJ ids ρ hf hb vJ (hn▸qX) hρ hv fun qJ B hB=>h qJ B (hn▸hB) ⟨hm,hE⟩
theorem wq {x:Int} (h1: -9223372036854775808<=x:=by omega) (h2:x<=9223372036854775807:=by omega):IntKind.i64.wrap x=x:=Ag h1 h2
end Go.Dm
end
section
namespace Go.Proofs.Wy
open Go Go.Dm Tryz
variable [DMode]
attribute [local irreducible] DW BN BS
set_option maxRecDepth 100000
def El (l:List ByteArray) (s:ByteArray):Int:=if l.any (fun x=>s==x)then ((l.findIdx fun x=>s==x:Nat):Int)else -1
theorem OO {l:List ByteArray} {s:ByteArray} {k:Nat} (hk:k<l.length) (h:l[k]=s) (zX:∀i x,i<k->l[i]? =some x->(s==x)=false):El l s=k:=by
 unfold El;have hb:(s==l[k])=true:=by rw[h];exact beq_self_eq_true _
 rw[if_pos (cF0.2 ⟨l[k],dE0 _,hb⟩)]
 congr 1
 rw[List.findIdx_eq hk];exact⟨hb,fun i hi=>zX i _ hi (aI0 (by omega))⟩
theorem OP {l:List ByteArray} {s:ByteArray} (zX:∀i x,i<l.length->l[i]? =some x->(s==x)=false):El l s= -1:=by
 unfold El;rw[if_neg];simp only[dR0,eS0];intro x hx;obtain⟨i,hi,rfl⟩:=bW0 hx;rw[zX i _ hi (aI0 hi)]
theorem Yz {l:List ByteArray} {s x:ByteArray} {k:Nat} (hx:l[k]? =some x) (hb:(s==x)=false) (zX:∀i x,i<k->l[i]? =some x->(s==x)=false):∀i x,i<k+1->l[i]? =some x->(s==x)=false:=by
 intro i y hi hy
 by_cases pG:i=k
 ·subst pG;rw[hx]at hy;simp only[aA0]at hy;subst hy;exact hb
 ·exact zX i y (by omega) hy
theorem Rn {l:List ByteArray} (h:Ev (Bz l)):l.length<9223372036854775807:=by
 simp only[Ev,aJ0]at h;omega
def Ee : Ann:=⟨[],[]⟩
theorem LG (l:List ByteArray) (s:ByteArray):Af prog 115 [Bz l,.str s] (.int .i64 (El l s)):=by
 refine Ae [] Ee func115 call115 ntmps115 mxd (AB @Ee.eq_1 results115) rfl (fun qJ B qX qQ=> ?_);have qU:=Rn qJ.1;clear qJ;simp only[Aq];obtain⟨R,hR⟩:∃R,R=El l s:=⟨_,rfl⟩;rw[<-hR]
 (repeat (first | refine AC fun K hK=> ?_ | (refine BA Ee mxd (by kernel_rfl) ?_;simp[Ee,qX];try simp (disch:=omega) only[Ag]) | refine Ao ?_ | (refine AX ?_ ?_ ?_;(· (simp[qX];done));(try (rotate_left;(· (intro hc;(try simp[qX]at hc);done))))) | (refine AE ?_;simp[results115,qX]) | ((first | refine Aw ?_ | refine Av ?_);simp[qX]) | (intro hc;(try simp[qX]at hc);(try (exfalso;omega))) | (refine⟨?_,?_⟩; · omega) | omega | apply_assumption -exfalso -symm | (exfalso;omega)))
 refine Ai (X:={k:Nat//k<=l.length/\∀i x,i<k->l[i]? =some x->(s==x)=false}) (fun x=>⟨[(0,Bz l),(1,.str s),(7,.int .i64 l.length),(8,.int .i64 x.1)],[]⟩) (fun x=>l.length-x.1) ⟨0,by simp⟩ (Sub.lit (by simp)) ?_;rintro⟨k,hk,zX⟩
 by_cases qV:k<l.length
 ·obtain⟨x,hx,qB,vD⟩:=Ap qV;cases hb:s==x
  ·(repeat (first | refine AC fun K hK=> ?_ | (refine BA Ee mxd (by kernel_rfl) ?_;simp[Ee,qX,Be,qV,qB,hx,hb];try simp (disch:=omega) only[Ag]) | refine Ao ?_ | (refine AX ?_ ?_ ?_;(· (simp[qX,Be,qV,qB,hx,hb];done));(try (rotate_left;(· (intro hc;(try simp[qX,Be,qV,qB,hx,hb]at hc);done))))) | (refine AE ?_;simp[results115,qX,Be,qV,qB,hx,hb]) | ((first | refine Aw ?_ | refine Av ?_);simp[qX,Be,qV,qB,hx,hb]) | (intro hc;(try simp[qX,Be,qV,qB,hx,hb]at hc);(try (exfalso;omega))) | (refine⟨?_,?_⟩; · omega) | omega | apply_assumption -exfalso -symm | (exfalso;omega)))
   exact Al.mk ⟨k+1,by omega,Yz hx hb zX⟩ (Sub.lit (by simp[])) (by simp;omega)
   skip
  ·have nI:R=k:=by rw[hR];exact OO qV (by rw[qB];exact(by simpa using hb:s=x).symm) zX
   subst nI
   (repeat (first | refine AC fun K hK=> ?_ | (refine BA Ee mxd (by kernel_rfl) ?_;simp[Ee,qX,Be,qV,qB,hx,hb];try simp (disch:=omega) only[Ag]) | refine Ao ?_ | (refine AX ?_ ?_ ?_;(· (simp[qX,Be,qV,qB,hx,hb];done));(try (rotate_left;(· (intro hc;(try simp[qX,Be,qV,qB,hx,hb]at hc);done))))) | (refine AE ?_;simp[results115,qX,Be,qV,qB,hx,hb]) | ((first | refine Aw ?_ | refine Av ?_);simp[qX,Be,qV,qB,hx,hb]) | (intro hc;(try simp[qX,Be,qV,qB,hx,hb]at hc);(try (exfalso;omega))) | (refine⟨?_,?_⟩; · omega) | omega | apply_assumption -exfalso -symm | (exfalso;omega)))
 ·have qZ:k=l.length:=by omega
  subst qZ;have nI:R= -1:=by rw[hR];exact OP zX
  subst nI
  (repeat (first | refine AC fun K hK=> ?_ | (refine BA Ee mxd (by kernel_rfl) ?_;simp[Ee,qX];try simp (disch:=omega) only[Ag]) | refine Ao ?_ | (refine AX ?_ ?_ ?_;(· (simp[qX];done));(try (rotate_left;(· (intro hc;(try simp[qX]at hc);done))))) | (refine AE ?_;simp[results115,qX]) | ((first | refine Aw ?_ | refine Av ?_);simp[qX]) | (intro hc;(try simp[qX]at hc);(try (exfalso;omega))) | (refine⟨?_,?_⟩; · omega) | omega | apply_assumption -exfalso -symm | (exfalso;omega)))
def Qi : Ann:=⟨[],[]⟩
theorem OC (l:List ByteArray) (s:ByteArray):Af prog 69 [Bz l,.str s] (.bool (decide (0<=El l s))):=by
 refine Ae [] Qi func69 call69 ntmps69 mxd (AB @Qi.eq_1 results69) rfl (fun qJ B qX qQ=> ?_);simp only[Aq]
 (repeat (first | refine AC fun K hK=> ?_ | (refine BA Qi mxd (by kernel_rfl) ?_;simp[Qi,qX];try simp (disch:=omega) only[Ag]) | refine Ao ?_ | (refine AX ?_ ?_ ?_;(· (simp[qX];done));(try (rotate_left;(· (intro hc;(try simp[qX]at hc);done))))) | (refine AE ?_;simp[results69,qX]) | ((first | refine Aw ?_ | refine Av ?_);simp[qX]) | (intro hc;(try simp[qX]at hc);(try (exfalso;omega))) | ((first | refine Ak (LG l s) ?_ | (refine Aj (LG l s) ?_ ?_;(· (simp;done))));try simp[qX]) | (refine⟨?_,?_⟩; · omega) | omega | apply_assumption -exfalso -symm | (exfalso;omega)))
def Yo (n:Int):Bool:=(decide (97<=n)&&decide (n<=122))||(decide (65<=n)&&decide (n<=90))||(decide (48<=n)&&decide (n<=57))||n==95
def Dt_ (s:ByteArray):Bool:=s.data.toList.all fun b=>Yo (b.toNat:Int)
def BU (s:ByteArray):Bool:=decide (1<=s.size)&&decide (s.size<=16)&&Dt_ s
theorem CN (s:ByteArray):s.data.toList.length=s.size:=rfl
end Go.Proofs.Wy
end
