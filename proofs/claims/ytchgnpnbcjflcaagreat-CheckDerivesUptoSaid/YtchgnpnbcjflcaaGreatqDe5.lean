/- Parts of a proof, laid together: EnGo, WB2, WB1, WR1, RN, RH, RG, RX1, EnW, EnX, RX5, WC1, WC2, BX0, WOg, WSg. -/
import Derived.RangeFuncNested
import Derived.Test.YtchgnpnbcjflcaaGreatqDe4
set_option linter.unusedSimpArgs false
set_option maxHeartbeats 8000000
set_option linter.unusedVariables false
set_option linter.unusedSectionVars false
section
namespace Go.Dm
variable [DMode]
structure AnIs (P:Program) (an:Ann) (E:Prop):Prop where
 m:P.follows .mixedOrders=true
 e:E
theorem CF_ {P:Program} (an:Ann) {E:Prop} (m:P.follows .mixedOrders=true) (e:E):AnIs P an E:=⟨m,e⟩
theorem JQ_ {P:Program} {B:Base} {s:DS} {A:Ann} {E:Prop} {id:Nat} {ops:Array Oper} {draw:Bool} {Q:Exit->DS->Prop} (qQ:AnIs P A E) (qY:(!draw||DB A.ow (II A.rs id).l1 (II A.rs id).l2 ops)=true)
 (h:Cd P B.nt A.ow (II A.rs id).l1 (II A.rs id).l2 ops ops.toList 0 (kQ Q (II A.rs id).fz) s):DW P B (.region id ops draw) Q s:=Bv A qQ.m qY h
structure Spc (ρ ν:List (Nat×Nat)) (p:Prop):Prop where
 o:p
theorem Ee (ρ ν:List (Nat×Nat)) {p:Prop} (h:p):Spc ρ ν p:=⟨h⟩
theorem Dl {ρ ν:List (Nat×Nat)} {P:Program} {g:FuncId} {args args0:List DVal} {own own0 own0':List Ent} {d0:DVal} {K:ContE} (hS:Spc ρ ν (AS P (.func g) args0 own0 d0 own0'))
 (wM:Mo own (Ca own (Ej ρ)) (Ej ρ)=some own0/\Yb own ρ/\(XD args/\WL (args.map (HG (Ca own (Ej ρ)))) args0)/\(((ρ++ν).map (·.1)).Nodup/\(ρ.map (·.2)).Nodup)/\XC own0'/\XE d0)
 (hk:∀r,match IG (DN own ρ ν r) own0' with
  | some l=>((Bo own ((ρ++ν).map (·.1))++l).map (·.id)).Nodup/\K.f (HG (DN own ρ ν r) d0) (Bo own ((ρ++ν).map (·.1))++l)
  | none=>False):Bk P g args own K:=AK ρ ν hS.o wM hk
structure Hd (p:Prop):Prop where
 o:p
def Mk (p:Prop):Prop:=p
theorem MF_ {p:Prop} (h:Mk p):p:=h
theorem Aj {p:Prop} (h:p):Mk p:=h
theorem Aa : True:=trivial
theorem AA {a:Prop} (h0:a):a/\True:=⟨h0,trivial⟩
theorem Aq {a b:Prop} (h0:a) (h1:b):a/\b/\True:=⟨h0,h1,trivial⟩
theorem Ez {a b c:Prop} (h0:a) (h1:b) (h2:c):a/\b/\c/\True:=⟨h0,h1,h2,trivial⟩
theorem EU {a b c d:Prop} (h0:a) (h1:b) (h2:c) (h3:d):a/\b/\c/\d/\True:=⟨h0,h1,h2,h3,trivial⟩
theorem Ja {a b c d e:Prop} (h0:a) (h1:b) (h2:c) (h3:d) (h4:e):a/\b/\c/\d/\e/\True:=⟨h0,h1,h2,h3,h4,trivial⟩
theorem JT {a b c d e f:Prop} (h0:a) (h1:b) (h2:c) (h3:d) (h4:e) (h5:f):a/\b/\c/\d/\e/\f/\True:=⟨h0,h1,h2,h3,h4,h5,trivial⟩
theorem JB {a b c d e f g:Prop} (h0:a) (h1:b) (h2:c) (h3:d) (h4:e) (h5:f) (h6:g):a/\b/\c/\d/\e/\f/\g/\True:=⟨h0,h1,h2,h3,h4,h5,h6,trivial⟩
theorem ML {a b c d e f g h:Prop} (h0:a) (h1:b) (h2:c) (h3:d) (h4:e) (h5:f) (h6:g) (h7:h):a/\b/\c/\d/\e/\f/\g/\h/\True:=⟨h0,h1,h2,h3,h4,h5,h6,h7,trivial⟩
theorem YC {a b c d e f g h i:Prop} (h0:a) (h1:b) (h2:c) (h3:d) (h4:e) (h5:f) (h6:g) (h7:h) (h8:i):a/\b/\c/\d/\e/\f/\g/\h/\i/\True:=⟨h0,h1,h2,h3,h4,h5,h6,h7,h8,trivial⟩
theorem MM {a b c d e f g h i j:Prop} (h0:a) (h1:b) (h2:c) (h3:d) (h4:e) (h5:f) (h6:g) (h7:h) (h8:i) (h9:j):a/\b/\c/\d/\e/\f/\g/\h/\i/\j/\True:=⟨h0,h1,h2,h3,h4,h5,h6,h7,h8,h9,trivial⟩
theorem Pu {a b c d e f g h i j k:Prop} (h0:a) (h1:b) (h2:c) (h3:d) (h4:e) (h5:f) (h6:g) (h7:h) (h8:i) (h9:j) (zF:k):a/\b/\c/\d/\e/\f/\g/\h/\i/\j/\k/\True:=⟨h0,h1,h2,h3,h4,h5,h6,h7,h8,h9,zF,trivial⟩
theorem Be_ {a b c d e f g h i j k l:Prop} (h0:a) (h1:b) (h2:c) (h3:d) (h4:e) (h5:f) (h6:g) (h7:h) (h8:i) (h9:j) (zF:k) (fL:l):a/\b/\c/\d/\e/\f/\g/\h/\i/\j/\k/\l/\True:=⟨h0,h1,h2,h3,h4,h5,h6,h7,h8,h9,zF,fL,trivial⟩
theorem YD {a b c d e f g h i j k l m n:Prop} (h0:a) (h1:b) (h2:c) (h3:d) (h4:e) (h5:f) (h6:g) (h7:h) (h8:i) (h9:j) (zF:k) (fL:l) (pM:m) (h13:n):a/\b/\c/\d/\e/\f/\g/\h/\i/\j/\k/\l/\m/\n/\True:=⟨h0,h1,h2,h3,h4,h5,h6,h7,h8,h9,zF,fL,pM,h13,trivial⟩
theorem MX_ {a b c d e f g h i j k l m n o:Prop} (h0:a) (h1:b) (h2:c) (h3:d) (h4:e) (h5:f) (h6:g) (h7:h) (h8:i) (h9:j) (zF:k) (fL:l) (pM:m) (h13:n) (h14:o):a/\b/\c/\d/\e/\f/\g/\h/\i/\j/\k/\l/\m/\n/\o/\True:=⟨h0,h1,h2,h3,h4,h5,h6,h7,h8,h9,zF,fL,pM,h13,h14,trivial⟩
theorem Gp {a b c d e f g h i j k l m n o p:Prop} (h0:a) (h1:b) (h2:c) (h3:d) (h4:e) (h5:f) (h6:g) (h7:h) (h8:i) (h9:j) (zF:k) (fL:l) (pM:m) (h13:n) (h14:o) (h15:p):a/\b/\c/\d/\e/\f/\g/\h/\i/\j/\k/\l/\m/\n/\o/\p/\True:=⟨h0,h1,h2,h3,h4,h5,h6,h7,h8,h9,zF,fL,pM,h13,h14,h15,trivial⟩
theorem Au {p c s a:Prop} (C:c) (S:s) (A:a) (h:c->s->a->p:=by
 (intro C S A;(repeat (first | refine AE fun Kz hKz=> ?_ | (refine JQ_ qQ (by kernel_rfl) ?_;simp[qQ.e,qX,A];try simp (disch:=omega) only[Af]) | refine An ?_ | (refine AW ?_ ?_ ?_;(· (simp[qX,A];done));(try (rotate_left;(· (intro bI;(try simp[qX,A]at bI);done))))) | (refine AH ?_;simp[qQ.e,qX,A]) | ((first | refine Ay ?_ | refine Ax ?_);simp[qX,A]) | (intro bI;(try simp[qX,A]at bI);(try (exfalso;omega))) | ((first | refine Ai C.1 ?_ | (refine Ah C.1 ?_ ?_;(· (simp;done))) | refine Ai C.2.1 ?_ | (refine Ah C.2.1 ?_ ?_;(· (simp;done))) | refine Ai C.2.2.1 ?_ | (refine Ah C.2.2.1 ?_ ?_;(· (simp;done))) | refine Ai C.2.2.2.1 ?_ | (refine Ah C.2.2.2.1 ?_ ?_;(· (simp;done))) | refine Ai C.2.2.2.2.1 ?_ | (refine Ah C.2.2.2.2.1 ?_ ?_;(· (simp;done))) | refine Ai C.2.2.2.2.2.1 ?_ | (refine Ah C.2.2.2.2.2.1 ?_ ?_;(· (simp;done))) | refine Ai C.2.2.2.2.2.2.1 ?_ | (refine Ah C.2.2.2.2.2.2.1 ?_ ?_;(· (simp;done))) | refine Ai C.2.2.2.2.2.2.2.1 ?_ | (refine Ah C.2.2.2.2.2.2.2.1 ?_ ?_;(· (simp;done))));try simp[qX,A]) | (refine Dl S.1 ?_ ?_;(· (simp[qX,A];done));(intro Kz;try simp[qX,A])) | (refine Dl S.2.1 ?_ ?_;(· (simp[qX,A];done));(intro Kz;try simp[qX,A])) | (refine Dl S.2.2.1 ?_ ?_;(· (simp[qX,A];done));(intro Kz;try simp[qX,A])) | (refine Dl S.2.2.2.1 ?_ ?_;(· (simp[qX,A];done));(intro Kz;try simp[qX,A])) | (refine⟨?_,?_⟩; · omega) | omega | apply_assumption -exfalso -symm | (exfalso;omega))))):p:=h C S A
theorem AM {p c s a q0:Prop} (C:c) (S:s) (A:a) (h0:q0) (h:c->s->a->Hd q0->p:=by
 (intro C S A k0;(repeat (first | refine AE fun Kz hKz=> ?_ | (refine JQ_ qQ (by kernel_rfl) ?_;simp[qQ.e,qX,A];try simp (disch:=omega) only[Af]) | refine An ?_ | (refine AW ?_ ?_ ?_;(· (simp[qX,A];done));(try (rotate_left;(· (intro bI;(try simp[qX,A]at bI);done))))) | (refine AH ?_;simp[qQ.e,qX,A]) | ((first | refine Ay ?_ | refine Ax ?_);simp[qX,A]) | (intro bI;(try simp[qX,A]at bI);(try (exfalso;omega))) | ((first | refine Ai C.1 ?_ | (refine Ah C.1 ?_ ?_;(· (simp;done))) | refine Ai C.2.1 ?_ | (refine Ah C.2.1 ?_ ?_;(· (simp;done))) | refine Ai C.2.2.1 ?_ | (refine Ah C.2.2.1 ?_ ?_;(· (simp;done))) | refine Ai C.2.2.2.1 ?_ | (refine Ah C.2.2.2.1 ?_ ?_;(· (simp;done))) | refine Ai C.2.2.2.2.1 ?_ | (refine Ah C.2.2.2.2.1 ?_ ?_;(· (simp;done))) | refine Ai C.2.2.2.2.2.1 ?_ | (refine Ah C.2.2.2.2.2.1 ?_ ?_;(· (simp;done))) | refine Ai C.2.2.2.2.2.2.1 ?_ | (refine Ah C.2.2.2.2.2.2.1 ?_ ?_;(· (simp;done))) | refine Ai C.2.2.2.2.2.2.2.1 ?_ | (refine Ah C.2.2.2.2.2.2.2.1 ?_ ?_;(· (simp;done))));try simp[qX,A]) | (refine Dl S.1 ?_ ?_;(· (simp[qX,A];done));(intro Kz;try simp[qX,A])) | (refine Dl S.2.1 ?_ ?_;(· (simp[qX,A];done));(intro Kz;try simp[qX,A])) | (refine Dl S.2.2.1 ?_ ?_;(· (simp[qX,A];done));(intro Kz;try simp[qX,A])) | (refine Dl S.2.2.2.1 ?_ ?_;(· (simp[qX,A];done));(intro Kz;try simp[qX,A])) | (refine⟨?_,?_⟩; · omega) | omega | apply_assumption -exfalso -symm | (exfalso;omega)));refine MF_ ?_;(repeat (first | revert bI | revert Kz));exact k0.o)):p:=h C S A ⟨h0⟩
theorem go2 {p c s a q0 q1:Prop} (C:c) (S:s) (A:a) (h0:q0) (h1:q1) (h:c->s->a->Hd q0->Hd q1->p:=by
 (intro C S A k0 k1;(repeat (first | refine AE fun Kz hKz=> ?_ | (refine JQ_ qQ (by kernel_rfl) ?_;simp[qQ.e,qX,A];try simp (disch:=omega) only[Af]) | refine An ?_ | (refine AW ?_ ?_ ?_;(· (simp[qX,A];done));(try (rotate_left;(· (intro bI;(try simp[qX,A]at bI);done))))) | (refine AH ?_;simp[qQ.e,qX,A]) | ((first | refine Ay ?_ | refine Ax ?_);simp[qX,A]) | (intro bI;(try simp[qX,A]at bI);(try (exfalso;omega))) | ((first | refine Ai C.1 ?_ | (refine Ah C.1 ?_ ?_;(· (simp;done))) | refine Ai C.2.1 ?_ | (refine Ah C.2.1 ?_ ?_;(· (simp;done))) | refine Ai C.2.2.1 ?_ | (refine Ah C.2.2.1 ?_ ?_;(· (simp;done))) | refine Ai C.2.2.2.1 ?_ | (refine Ah C.2.2.2.1 ?_ ?_;(· (simp;done))) | refine Ai C.2.2.2.2.1 ?_ | (refine Ah C.2.2.2.2.1 ?_ ?_;(· (simp;done))) | refine Ai C.2.2.2.2.2.1 ?_ | (refine Ah C.2.2.2.2.2.1 ?_ ?_;(· (simp;done))) | refine Ai C.2.2.2.2.2.2.1 ?_ | (refine Ah C.2.2.2.2.2.2.1 ?_ ?_;(· (simp;done))) | refine Ai C.2.2.2.2.2.2.2.1 ?_ | (refine Ah C.2.2.2.2.2.2.2.1 ?_ ?_;(· (simp;done))));try simp[qX,A]) | (refine Dl S.1 ?_ ?_;(· (simp[qX,A];done));(intro Kz;try simp[qX,A])) | (refine Dl S.2.1 ?_ ?_;(· (simp[qX,A];done));(intro Kz;try simp[qX,A])) | (refine Dl S.2.2.1 ?_ ?_;(· (simp[qX,A];done));(intro Kz;try simp[qX,A])) | (refine Dl S.2.2.2.1 ?_ ?_;(· (simp[qX,A];done));(intro Kz;try simp[qX,A])) | (refine⟨?_,?_⟩; · omega) | omega | apply_assumption -exfalso -symm | (exfalso;omega)));refine MF_ ?_;(repeat (first | revert bI | revert Kz));exact k0.o;refine MF_ ?_;(repeat (first | revert bI | revert Kz));exact k1.o)):p:=h C S A ⟨h0⟩ ⟨h1⟩
theorem Ac (ids:List Nat) {P:Program} {f:FuncId} {fn:Func} {c:Code} {args:List DVal} {d:DVal} {n:Nat} (an:Ann) {E:Prop} (hf:P.funcs[f]? =some fn) (zW:Enters P f) (hn:fn.ntmps=n) (hm:P.follows .mixedOrders=true) (hE:E) (hb:fn.body=some c) (h:IZ args->∀B:Base,B.nt=n/\B.ro=none->AnIs P an E->DW P B c (DK_ P fn ids d) ⟨Am args 0,[]⟩) (qX:args.length<=n:=by simp) (hd:mx d=0:=by simp[mx]):Ad P f args d :=
 Ow ids hf hb zW (hn▸qX) hd fun qJ B hB=>h qJ B (hn▸hB) ⟨hm,hE⟩
theorem Bj (ids:List Nat) (ρ:List (Nat×Nat×Nat)) {P:Program} {f:FuncId} {fn:Func} {c:Code} {args:List DVal} {own own':List Ent} {d:DVal} {n:Nat} (an:Ann) {E:Prop} (hf:P.funcs[f]? =some fn) (zW:Enters P f) (hn:fn.ntmps=n) (hm:P.follows .mixedOrders=true) (hE:E) (hb:fn.body=some c) (h:IZ args->∀B:Base,B.nt=n/\B.ro=none->AnIs P an E->DW P B c (tP P fn ids ρ d own') ⟨Am args 0,own⟩) (qX:args.length<=n:=by simp) (hρ:(ρ.map (·.2.1)).Nodup/\(ρ.map (·.1)).Nodup:=by simp) (hv:own'.all (fun e=>decide (e.r<=1))=true:=by simp):AS P (.func f) args own d own' :=
 tR ids ρ hf hb zW (hn▸qX) hρ hv fun qJ B hB=>h qJ B (hn▸hB) ⟨hm,hE⟩
theorem wq {x:Int} (h1: -9223372036854775808<=x:=by omega) (h2:x<=9223372036854775807:=by omega):IntKind.i64.wrap x=x:=Af h1 h2
end Go.Dm
end
section
namespace Go.Proofs.Wy
open Go Go.Dm Tryz
variable [DMode]
attribute [local irreducible] DW Bi Bk
set_option maxRecDepth 100000
def CT_ : Ann:=⟨[],[]⟩
theorem BW (b:Bool) (e:Int):Ad prog 63 [.bool b,.int .i64 e] (.int .i64 (if b then e else 0)):=by
 refine Ac [] CT_ func63 call63 ntmps63 mxd (Aq @CT_.eq_1 results63) rfl (fun qJ B qX qQ=> ?_);simp only[Am];cases b
 ·exact Au Aa Aa Aa
 ·exact Au Aa Aa Aa
def Fo (l:List ByteArray) (s:ByteArray):Int:=if l.any (fun x=>s==x)then ((l.findIdx fun x=>s==x:Nat):Int)else -1
theorem ZF {l:List ByteArray} {s:ByteArray} {k:Nat} (hk:k<l.length) (h:l[k]=s) (vA:∀i x,i<k->l[i]? =some x->(s==x)=false):Fo l s=k:=by
 unfold Fo;have hb:(s==l[k])=true:=by rw[h];exact beq_self_eq_true _
 rw[if_pos (cM0.2 ⟨l[k],dG0 _,hb⟩)]
 congr 1
 rw[List.findIdx_eq hk];exact⟨hb,fun i hi=>vA i _ hi (aH0 (by omega))⟩
theorem ZG {l:List ByteArray} {s:ByteArray} (vA:∀i x,i<l.length->l[i]? =some x->(s==x)=false):Fo l s= -1:=by
 unfold Fo;rw[if_neg];simp only[Bool.not_eq_true,dA0];intro x hx;obtain⟨i,hi,rfl⟩:=bK0 hx;rw[vA i _ hi (aH0 hi)]
theorem Is_ {l:List ByteArray} {s x:ByteArray} {k:Nat} (hx:l[k]? =some x) (hb:(s==x)=false) (vA:∀i x,i<k->l[i]? =some x->(s==x)=false):∀i x,i<k+1->l[i]? =some x->(s==x)=false:=by
 intro i y hi hy
 by_cases gZ:i=k
 ·subst gZ;rw[hx]at hy;simp only[aA0]at hy;subst hy;exact hb
 ·exact vA i y (by omega) hy
theorem aQ {l:List ByteArray} (h:EI (Bg l)):l.length<9223372036854775807:=by
 simp only[EI,aL0]at h;omega
def Eo : Ann:=⟨[],[]⟩
theorem LX (l:List ByteArray) (s:ByteArray):Ad prog 220 [Bg l,.str s] (.int .i64 (Fo l s)):=by
 refine Ac [] Eo func220 call220 ntmps220 mxd (Aq @Eo.eq_1 results220) rfl (fun qJ B qX qQ=> ?_);have qU:=aQ qJ.1;clear qJ;simp only[Am];obtain⟨R,hR⟩:∃R,R=Fo l s:=⟨_,rfl⟩;rw[<-hR]
 (repeat (first | refine AE fun K hK=> ?_ | (refine Bv Eo mxd (by kernel_rfl) ?_;simp[Eo,qX];try simp (disch:=omega) only[Af]) | refine An ?_ | (refine AW ?_ ?_ ?_;(· (simp[qX];done));(try (rotate_left;(· (intro hc;(try simp[qX]at hc);done))))) | (refine AH ?_;simp[results220,qX]) | ((first | refine Ay ?_ | refine Ax ?_);simp[qX]) | (intro hc;(try simp[qX]at hc);(try (exfalso;omega))) | (refine⟨?_,?_⟩; · omega) | omega | apply_assumption -exfalso -symm | (exfalso;omega)))
 refine Ak (X:={k:Nat//k<=l.length/\∀i x,i<k->l[i]? =some x->(s==x)=false}) (fun x=>⟨[(0,Bg l),(1,.str s),(7,.int .i64 l.length),(8,.int .i64 x.1)],[]⟩) (fun x=>l.length-x.1) ⟨0,by simp⟩ (Sub.lit (by simp)) ?_;rintro⟨k,hk,vA⟩
 by_cases qV:k<l.length
 ·obtain⟨x,hx,qG,vN⟩:=Aw qV;cases hb:s==x
  ·(repeat (first | refine AE fun K hK=> ?_ | (refine Bv Eo mxd (by kernel_rfl) ?_;simp[Eo,qX,Bh,qV,qG,hx,hb];try simp (disch:=omega) only[Af]) | refine An ?_ | (refine AW ?_ ?_ ?_;(· (simp[qX,Bh,qV,qG,hx,hb];done));(try (rotate_left;(· (intro hc;(try simp[qX,Bh,qV,qG,hx,hb]at hc);done))))) | (refine AH ?_;simp[results220,qX,Bh,qV,qG,hx,hb]) | ((first | refine Ay ?_ | refine Ax ?_);simp[qX,Bh,qV,qG,hx,hb]) | (intro hc;(try simp[qX,Bh,qV,qG,hx,hb]at hc);(try (exfalso;omega))) | (refine⟨?_,?_⟩; · omega) | omega | apply_assumption -exfalso -symm | (exfalso;omega)))
   exact Al.mk ⟨k+1,by omega,Is_ hx hb vA⟩ (Sub.lit (by simp[])) (by simp;omega)
   skip
  ·have jN:R=k:=by rw[hR];exact ZF qV (by rw[qG];exact(by simpa using hb:s=x).symm) vA
   subst jN
   (repeat (first | refine AE fun K hK=> ?_ | (refine Bv Eo mxd (by kernel_rfl) ?_;simp[Eo,qX,Bh,qV,qG,hx,hb];try simp (disch:=omega) only[Af]) | refine An ?_ | (refine AW ?_ ?_ ?_;(· (simp[qX,Bh,qV,qG,hx,hb];done));(try (rotate_left;(· (intro hc;(try simp[qX,Bh,qV,qG,hx,hb]at hc);done))))) | (refine AH ?_;simp[results220,qX,Bh,qV,qG,hx,hb]) | ((first | refine Ay ?_ | refine Ax ?_);simp[qX,Bh,qV,qG,hx,hb]) | (intro hc;(try simp[qX,Bh,qV,qG,hx,hb]at hc);(try (exfalso;omega))) | (refine⟨?_,?_⟩; · omega) | omega | apply_assumption -exfalso -symm | (exfalso;omega)))
 ·have qZ:k=l.length:=by omega
  subst qZ;have jN:R= -1:=by rw[hR];exact ZG vA
  subst jN
  (repeat (first | refine AE fun K hK=> ?_ | (refine Bv Eo mxd (by kernel_rfl) ?_;simp[Eo,qX];try simp (disch:=omega) only[Af]) | refine An ?_ | (refine AW ?_ ?_ ?_;(· (simp[qX];done));(try (rotate_left;(· (intro hc;(try simp[qX]at hc);done))))) | (refine AH ?_;simp[results220,qX]) | ((first | refine Ay ?_ | refine Ax ?_);simp[qX]) | (intro hc;(try simp[qX]at hc);(try (exfalso;omega))) | (refine⟨?_,?_⟩; · omega) | omega | apply_assumption -exfalso -symm | (exfalso;omega)))
def Oa : Ann:=⟨[],[]⟩
theorem Fx (l:List ByteArray) (s:ByteArray):Ad prog 154 [Bg l,.str s] (.bool (decide (0<=Fo l s))):=by
 refine Ac [] Oa func154 call154 ntmps154 mxd (Aq @Oa.eq_1 results154) rfl (fun qJ B qX qQ=> ?_);simp only[Am]
 (repeat (first | refine AE fun K hK=> ?_ | (refine Bv Oa mxd (by kernel_rfl) ?_;simp[Oa,qX];try simp (disch:=omega) only[Af]) | refine An ?_ | (refine AW ?_ ?_ ?_;(· (simp[qX];done));(try (rotate_left;(· (intro hc;(try simp[qX]at hc);done))))) | (refine AH ?_;simp[results154,qX]) | ((first | refine Ay ?_ | refine Ax ?_);simp[qX]) | (intro hc;(try simp[qX]at hc);(try (exfalso;omega))) | ((first | refine Ai (LX l s) ?_ | (refine Ah (LX l s) ?_ ?_;(· (simp;done))));try simp[qX]) | (refine⟨?_,?_⟩; · omega) | omega | apply_assumption -exfalso -symm | (exfalso;omega)))
def Cs_ (g:Edges) (a b:ByteArray):Int:=if 0<=Fo g.nodes a/\0<=Fo g.nodes b then 0 else 4
def CS_ : Ann:=⟨[],[]⟩
theorem iF (g:Edges) (a b:ByteArray):Ad prog 81 [.agg (dGr g),.str a,.str b] (.int .i64 (Cs_ g a b)):=by
 refine Ac [] CS_ func81 call81 ntmps81 mxd (Aq @CS_.eq_1 results81) rfl (fun qJ B qX qQ=> ?_);simp only[Am];unfold Cs_;have h1:=Fx g.nodes a;have h2:=Fx g.nodes b;have h3:=BW true 4;have h4:=BW false 4;simp only[if_true,aU0,if_false]at h3 h4
 by_cases c1:0<=Fo g.nodes a
 ·by_cases c2:0<=Fo g.nodes b
  ·simp only[c1,c2,decide_true]at h1 h2;exact Au (EU h1 h2 h3 h4) Aa (Ez @dGr.eq_1 c1 c2)
  ·simp only[c1,c2,decide_true,decide_false]at h1 h2;exact Au (EU h1 h2 h3 h4) Aa (Ez @dGr.eq_1 c1 c2)
 ·simp only[c1,decide_false]at h1;exact Au (EU h1 h2 h3 h4) Aa (Aq @dGr.eq_1 c1)
def aP (n:Int):Bool:=(decide (97<=n)&&decide (n<=122))||(decide (65<=n)&&decide (n<=90))||(decide (48<=n)&&decide (n<=57))||n==95
def Ic_ (s:ByteArray):Bool:=s.data.toList.all fun b=>aP (b.toNat:Int)
def Cb (s:ByteArray):Bool:=decide (1<=s.size)&&decide (s.size<=16)&&Ic_ s
theorem CU (s:ByteArray):s.data.toList.length=s.size:=rfl
def tS (n:Int):Bool:=decide (65<=n)&&decide (n<=90)
def tW (n:Int):Bool:=decide (97<=n)&&decide (n<=122)
def lJ : Ann:=⟨[],[]⟩
theorem HD (n:Int):Ad prog 319 [.int .u8 n] (.bool (tS n)):=by
 refine Ac [] lJ func319 call319 ntmps319 mxd (Aq @lJ.eq_1 results319) rfl (fun qJ B qX qQ=> ?_);simp only[Am]
 by_cases h1:65<=n
 ·by_cases h2:n<=90<;>exact Au Aa Aa (Ez @tS.eq_1 h1 h2)
 ·exact Au Aa Aa (Aq @tS.eq_1 h1)
def lI : Ann:=⟨[],[]⟩
theorem HK (n:Int):Ad prog 320 [.int .u8 n] (.bool (tW n)):=by
 refine Ac [] lI func320 call320 ntmps320 mxd (Aq @lI.eq_1 results320) rfl (fun qJ B qX qQ=> ?_);simp only[Am]
 by_cases h1:97<=n
 ·by_cases h2:n<=122<;>exact Au Aa Aa (Ez @tW.eq_1 h1 h2)
 ·exact Au Aa Aa (Aq @tW.eq_1 h1)
def lN : Ann:=⟨[],[]⟩
theorem Ke (n:Int):Ad prog 200 [.int .u8 n] (.bool (tS n)):=by
 refine Ac [] lN func200 call200 ntmps200 mxd (Aq @lN.eq_1 results200) rfl (fun qJ B qX qQ=> ?_);simp only[Am]
 by_cases h1:65<=n
 ·by_cases h2:n<=90<;>exact Au Aa Aa (Ez @tS.eq_1 h1 h2)
 ·exact Au Aa Aa (Aq @tS.eq_1 h1)
def lM : Ann:=⟨[],[]⟩
theorem Kj (n:Int):Ad prog 201 [.int .u8 n] (.bool (tW n)):=by
 refine Ac [] lM func201 call201 ntmps201 mxd (Aq @lM.eq_1 results201) rfl (fun qJ B qX qQ=> ?_);simp only[Am]
 by_cases h1:97<=n
 ·by_cases h2:n<=122<;>exact Au Aa Aa (Ez @tW.eq_1 h1 h2)
 ·exact Au Aa Aa (Aq @tW.eq_1 h1)
theorem Cg_ (n:Int):aP n=(tS n||tW n||(decide (48<=n)&&decide (n<=57))||n==95):=by
 unfold aP tS tW;cases decide (65<=n)<;>cases decide (n<=90)<;>cases decide (97<=n)<;>cases decide (n<=122)<;>rfl
def lO : Ann:=⟨[],[]⟩
theorem UW (n:Int):Ad prog 199 [.int .u8 n] (.bool (aP n)):=by
 refine Ac [] lO func199 call199 ntmps199 mxd (Aq @lO.eq_1 results199) rfl (fun qJ B qX qQ=> ?_);simp only[Am];rw[Cg_];have e1:=Ke n;have e2:=Kj n;cases hU:tS n
 ·rw[hU]at e1;cases hL:tW n
  ·rw[hL]at e2
   by_cases h5:48<=n
   ·by_cases h6:n<=57
    ·exact Au (Aq e1 e2) Aa (Aq h5 h6)
    ·have h7:n=95\/¬n=95:=by omega
     rcases h7 with h7 | h7
     ·subst h7;exact Au (Aq e1 e2) Aa Aa
     ·exact Au (Aq e1 e2) Aa (Ez h5 h6 h7)
   ·have h7:¬n=95:=by omega
    exact Au (Aq e1 e2) Aa (Aq h5 h7)
  ·rw[hL]at e2;exact Au (Aq e1 e2) Aa Aa
 ·rw[hU]at e1;exact Au (AA e1) Aa Aa
def JK (q:Int->Bool) (s:ByteArray):Bool:=match s.data.toList with | []=>false | b::_=>q (b.toNat:Int)
theorem eG {q:Int->Bool} {s:ByteArray} {b:UInt8} (hb:s.data.toList[0]? =some b):JK q s=q (b.toNat:Int):=by
 unfold JK
 cases hd:s.data.toList with
 | nil=>rw[hd]at hb;simp at hb
 | cons x l=>rw[hd]at hb;simp at hb;subst hb;rfl
def lK : Ann:=⟨[],[]⟩
theorem FB (g:FuncId) (q:Int->Bool) (hq:∀n,Ad prog g [.int .u8 n] (.bool (q n))) (s:ByteArray):Ad prog 318 [.str s,.fn (.func g) [] []] (.bool (Cb s&&JK q s)):=by
 refine Ac [] lK func318 call318 ntmps318 mxd (Aq @lK.eq_1 results318) rfl (fun qJ B qX qQ=> ?_);have qH:s.size<=9223372036854775807:=by have:=qJ.1;simp only[EI,maxLen]at this;omega
 clear qJ;simp only[Am];obtain⟨R,hR⟩:∃R,R=(Cb s&&JK q s):=⟨_,rfl⟩;rw[<-hR]
 by_cases h1:1<=s.size
 ·by_cases h2:s.size<=16
  ·have g1:¬(s.size:Int)<1:=by omega
   have g2:¬(16:Int)<s.size:=by omega
   have g0:0<s.size:=by omega
   obtain⟨b0,qR,fT,_⟩:=Aw (show 0<s.data.toList.length by rw[CU];omega);have e0:=hq (b0.toNat:Int);rw[eG qR]at hR;cases hQ:q (b0.toNat:Int)
   ·rw[hQ]at e0 hR;have vY:R=false:=by rw[hR];simp
    subst vY;exact Au (AA e0) Aa (JB g0 g1 g2 h1 h2 qR fT)
   ·rw[hQ]at e0 hR;simp only[eZ0]at hR
    (refine AM (AA e0) Aa (JB g0 g1 g2 h1 h2 qR fT) ?_;intros;refine Aj ?_)
    refine Ak (X:={k:Nat//k<=s.size/\Ic_ s=((s.data.toList.drop k).all fun b=>aP (b.toNat:Int))}) (fun k=>⟨[(0,.str s),(23,.int .i64 s.size),(24,.int .i64 k.1)],[]⟩) (fun k=>s.size-k.1) ⟨0,by simp[Ic_]⟩ (Sub.lit (by simp)) ?_;clear e0 qR fT hQ;rintro⟨k,hk,hl⟩
    by_cases qV:k<s.size
    ·obtain⟨b,hb,qD,_⟩:=Aw (show k<s.data.toList.length by rw[CU];exact qV);rw[aW0 (by rw[CU];exact qV),qD,dB0]at hl;have e1:=HD (b.toNat:Int);have e2:=HK (b.toNat:Int);obtain⟨L,hLL⟩:∃L,L=aP (b.toNat:Int):=⟨_,rfl⟩;have hLe:=Cg_ (b.toNat:Int);rw[<-hLL]at hl hLe;cases hU:tS (b.toNat:Int)
     ·rw[hU]at e1;cases hV:tW (b.toNat:Int)
      ·rw[hV]at e2
       by_cases h5:(48:Int)<=(b.toNat:Int)
       ·by_cases h6:(b.toNat:Int)<=57
        ·have h7:¬(b.toNat:Int)=95:=by omega
         have dV:L=true:=by rw[hLe];simp[hU,hV,h5,h6]
         rw[dV,eB0]at hl
         (refine AM (Aq e1 e2) Aa (JB qV hb qD hU hV h5 h6) ?_;intros;refine Aj ?_)
         refine Al.mk ⟨k+1,by omega,hl⟩ (Sub.lit (by simp)) (by simp;omega)
         skip
        ·by_cases h7:(b.toNat:Int)=95
         ·have dV:L=true:=by rw[hLe];simp[hU,hV,h5,h6,h7]
          rw[h7]at e1 e2;rw[dV,eB0]at hl
          (refine AM (Aq e1 e2) Aa (ML qV hb qD hU hV h5 h6 h7) ?_;intros;refine Aj ?_)
          refine Al.mk ⟨k+1,by omega,hl⟩ (Sub.lit (by simp)) (by simp;omega)
          skip
         ·have dV:L=false:=by rw[hLe];simp[hU,hV,h5,h6,h7]
          rw[dV,Bool.false_and]at hl;have vY:R=false:=by rw[hR];unfold Cb;rw[hl];simp
          subst vY;exact Au (Aq e1 e2) Aa (ML qV hb qD hU hV h5 h6 h7)
       ·have h7:¬(b.toNat:Int)=95:=by omega
        have dV:L=false:=by rw[hLe];simp[hU,hV,h5,h7]
        rw[dV,Bool.false_and]at hl;have vY:R=false:=by rw[hR];unfold Cb;rw[hl];simp
        subst vY;exact Au (Aq e1 e2) Aa (JB qV hb qD hU hV h5 h7)
      ·rw[hV]at e2;have dV:L=true:=by rw[hLe];simp[hU,hV]
       rw[dV,eB0]at hl
       (refine AM (Aq e1 e2) Aa (Ja qV hb qD hU hV) ?_;intros;refine Aj ?_)
       refine Al.mk ⟨k+1,by omega,hl⟩ (Sub.lit (by simp)) (by simp;omega)
       skip
     ·rw[hU]at e1;have dV:L=true:=by rw[hLe];simp[hU]
      rw[dV,eB0]at hl
      (refine AM (AA e1) Aa (EU qV hb qD hU) ?_;intros;refine Aj ?_)
      refine Al.mk ⟨k+1,by omega,hl⟩ (Sub.lit (by simp)) (by simp;omega)
      skip
    ·have qZ:k=s.size:=by omega
     subst qZ;rw[<-CU,cR0]at hl;have vY:R=true:=by rw[hR];unfold Cb;rw[hl];simp[h1,h2]
     subst vY;exact Au Aa Aa Aa
  ·have g1:¬(s.size:Int)<1:=by omega
   have g2:(16:Int)<s.size:=by omega
   have vY:R=false:=by rw[hR];unfold Cb;simp[h2]
   subst vY;exact Au Aa Aa (EU g1 g2 h1 h2)
 ·have g1:(s.size:Int)<1:=by omega
  have vY:R=false:=by rw[hR];unfold Cb;simp[h1]
  subst vY;exact Au Aa Aa (Aq g1 h1)
def DD (k:Int) (s:ByteArray):Bool:=if k=2 then Cb s&&JK tS s else Cb s&&JK tW s
abbrev Ce (k:Int) (s:ByteArray) (n:Int):List DVal:=[.int .i64 k,.str s,.int .i64 n]
def lL : Ann:=⟨[],[]⟩
theorem aJ (k:Int) (hk:k=2\/k=3) (s:ByteArray):Ad prog 261 [.agg (Ce k s 0)] (.bool (DD k s)):=by
 refine Ac [] lL func261 call261 ntmps261 mxd (Aq @lL.eq_1 results261) rfl (fun qJ B qX qQ=> ?_);simp only[Am];have e1:=FB 319 tS HD s;have e2:=FB 320 tW HK s;unfold DD
 rcases hk with rfl | rfl
 ·exact Au (Aq e1 e2) Aa (AA @Ce.eq_1)
 ·exact Au (Aq e1 e2) Aa (AA @Ce.eq_1)
def lP : Ann:=⟨[],[⟨4,[5],[],[]⟩]⟩
theorem Uz (k:Int) (hk:k=2\/k=3) (s:ByteArray):Ad prog 181 [.sl 3 32 [Ce k s 0]] (.bool (DD k s)):=by
 refine Ac [] lP func181 call181 ntmps181 mxd (Aq @lP.eq_1 results181) rfl (fun qJ B qX qQ=> ?_);simp only[Am];have e1:=aJ k hk s;obtain⟨R,hR⟩:∃R,R=DD k s:=⟨_,rfl⟩;rw[<-hR]at e1 |-
 (refine AM Aa Aa (AA @Ce.eq_1) ?_;intros;refine Aj ?_)
 refine Ak (X:={k:Nat//k=0\/k=1/\R=true}) (fun x=>⟨[(0,.sl 3 32 [Ce k s 0]),(3,.int .i64 (1-x.1)),(6,.sl 3 32 [Ce k s 0]),(7,.int .i64 1),(8,.int .i64 x.1)],[]⟩) (fun x=>1-x.1) ⟨0,.inl rfl⟩ (Sub.lit (by simp[Ce])) ?_;rintro⟨x,rfl | ⟨rfl,rfl⟩⟩
 ·simp only[Ce]at e1;cases R
  ·exact Au (AA e1) Aa (AA @Ce.eq_1)
  ·(refine AM (AA e1) Aa (AA @Ce.eq_1) ?_;intros;refine Aj ?_)
   refine Al.mk ⟨1,.inr ⟨rfl,rfl⟩⟩ (Sub.lit (by simp[Ce])) (by simp)
   skip
 ·exact Au Aa Aa (AA @Ce.eq_1)
end Go.Proofs.Wy
end
section
namespace Go.Proofs.Wy
open Go Go.Dm Tryz
variable [DMode]
structure Nd where
 k:Int
 s:ByteArray
 n:Int
 deriving DecidableEq
def Cf (x:Nd):List DVal:=[.int .i64 x.k,.str x.s,.int .i64 x.n]
abbrev BC (l:List Nd):DVal:= .sl 3 32 (l.map Cf)
structure Rul where
 h:ByteArray
 b:List Nd
 deriving DecidableEq
def BX (r:Rul):List DVal:=[.str r.h,BC r.b]
abbrev AD (l:List Rul):DVal:= .sl 2 40 (l.map BX)
@[simp] theorem MB_ (s:Nd):AR (Cf s)=0:=by simp[Cf,AR,mx]
@[simp] theorem Ot_ (l:List Nd):Bx (l.map Cf)=0:=Im _ MB_ l
@[simp] theorem KG_ (s:Rul):AR (BX s)=0:=by simp[BX,AR,mx]
@[simp] theorem NE_ (l:List Rul):Bx (l.map BX)=0:=Im _ KG_ l
theorem QS {l:List Nd} (h:EI (BC l)):l.length<9223372036854775807:=by
 simp only[EI,aL0]at h;omega
theorem Kw {l:List Rul} (h:EI (AD l)):l.length<9223372036854775807:=by
 simp only[EI,aL0]at h;omega
def uA (s:ByteArray):Bool:=decide (s=⟨#[]⟩)
def Ei (x:Nd):Bool :=
 if x.k=1 then uA x.s&&decide (x.n=0)
 else if x.k=2 then decide (x.n=0)&&(Cb x.s&&JK tS x.s)
 else if x.k=3 then decide (x.n=0)&&(Cb x.s&&JK tW x.s)
 else if x.k=4 then uA x.s&&decide (2<=x.n)
 else if x.k=5 then uA x.s&&decide (2<=x.n)
 else if x.k=6 then uA x.s&&decide (x.n=1)
 else if x.k=7 then uA x.s&&decide (x.n=1)
 else if x.k=8 then uA x.s&&decide (x.n=1)
 else false
theorem Io {x:Nd} (h:Ei x=true):0<=x.n:=by
 unfold Ei at h
 repeat' split at h
 all_goals simp only[aM0,decide_eq_true_eq,aU0]at h
 all_goals first | omega | (exact absurd h (by simp)) | (obtain⟨h1,h2⟩:=h;omega)
theorem OV {x:Nd} (h:Ei x=true):x.k=1\/x.k=2\/x.k=3\/x.k=4\/x.k=5\/x.k=6\/x.k=7\/x.k=8:=by
 unfold Ei at h
 repeat' split at h
 all_goals first | omega | (exact absurd h (by simp))
theorem OT {x:Nd} (h:Ei x=true):x.s.size<=16:=by
 have hn:∀s,Cb s=true->s.size<=16:=fun s hs=>by unfold Cb at hs;simp only[aM0,decide_eq_true_eq]at hs;exact hs.1.2
 have he:∀s,uA s=true->s.size<=16:=fun s hs=>by unfold uA at hs;simp only[decide_eq_true_eq]at hs;subst hs;decide
 unfold Ei at h
 repeat' split at h
 all_goals simp only[aM0,decide_eq_true_eq,aU0]at h
 all_goals first | exact he _ h.1 | exact hn _ h.2.1 | (exact absurd h (by simp))
inductive RT where
 | mk (x:Nd) (ks:List RT)
def RT.x : RT->Nd
 | .mk x _=>x
def RT.ks : RT->List RT
 | .mk _ ks=>ks
mutual
def flat : RT->List Nd
 | .mk x ks=>x::Ao ks
def Ao : List RT->List Nd
 | []=>[]
 | t::ts=>flat t++Ao ts
end
mutual
def FX : RT->Bool
 | .mk x ks=>Ei x&&(decide (x.n=(ks.length:Int))&&Gu ks)
def Gu : List RT->Bool
 | []=>true
 | t::ts=>FX t&&Gu ts
end
theorem CI {x:Nd} {ks:List RT} (h:FX (.mk x ks)=true):Ei x=true/\x.n=(ks.length:Int)/\Gu ks=true:=by
 unfold FX at h;simp only[aM0,decide_eq_true_eq]at h;exact h
theorem Cy {t:RT} {ts:List RT} (h:Gu (t::ts)=true):FX t=true/\Gu ts=true:=by
 unfold Gu at h;simp only[aM0]at h;exact h
theorem QM {ts:List RT} (h:Gu ts=true):∀t∈ts,FX t=true:=by
 induction ts with
 | nil=>simp
 | cons t ts ih =>
  obtain⟨h1,h2⟩:=Cy h;intro u hu
  rcases aJ0.1 hu with rfl | hu
  ·exact h1
  ·exact ih h2 u hu
theorem QN : ∀(a b:List RT),Gu (a++b)=(Gu a&&Gu b)
 | [],b=>by simp[Gu]
 | t::a,b=>by simp[Gu,QN a b,Bool.and_assoc]
theorem Fu : ∀(a b:List RT),Ao (a++b)=Ao a++Ao b
 | [],b=>by simp[Ao]
 | t::a,b=>by simp[Ao,Fu a b]
theorem GZ (t:RT):1<=(flat t).length:=by cases t;simp[flat]
theorem Be (x:Nd) (ks:List RT):flat (.mk x ks)=x::Ao ks:=by rw[flat]
theorem AG (t:RT) (ts:List RT):Ao (t::ts)=flat t++Ao ts:=by rw[Ao]
def EY : List Nd->Nat->Option (List Nd)
 | l,0=>some l
 | [],_+1=>none
 | x::l,w+1=>if Ei x then EY l (w+x.n.toNat)else none
theorem Cw (l:List Nd):EY l 0=some l:=by unfold EY;cases l<;>rfl
theorem Iz (w:Nat):EY [] (w+1)=none:=by unfold EY;rfl
theorem DR (x:Nd) (l:List Nd) (w:Nat):EY (x::l) (w+1)=if Ei x then EY l (w+x.n.toNat)else none:=by rw[EY]
mutual
theorem Gx : ∀(t:RT) (r:List Nd) (w:Nat),FX t=true->EY (flat t++r) (w+1)=EY r w
 | .mk x ks,r,w,h=>by
  obtain⟨h1,h2,h3⟩:=CI h;rw[Be,List.cons_append,DR,if_pos h1,h2,dI0];exact Tu ks r w h3
theorem Tu : ∀(ts:List RT) (r:List Nd) (w:Nat),Gu ts=true->EY (Ao ts++r) (w+ts.length)=EY r w
 | [],r,w,h=>by simp[Ao]
 | t::ts,r,w,h=>by
  obtain⟨h1,h2⟩:=Cy h;rw[AG,aQ0,List.length_cons,<-dJ0,Gx t _ _ h1,Tu ts r w h2]
end
theorem FJ_ : ∀(l:List Nd) (w:Nat) (r:List Nd),EY l w=some r->∃ts:List RT,ts.length=w/\Gu ts=true/\l=Ao ts++r:=by
 intro l
 induction l with
 | nil =>
  intro w r h
  cases w with
  | zero=>rw[Cw]at h;simp only[aA0]at h;exact⟨[],rfl,rfl,by simp[Ao,h]⟩
  | succ w=>rw[Iz]at h;simp at h
 | cons x l ih =>
  intro w r h
  cases w with
  | zero=>rw[Cw]at h;simp only[aA0]at h;exact⟨[],rfl,rfl,by simp[Ao,h]⟩
  | succ w =>
   rw[DR]at h
   split at h
   ·rename_i hm;obtain⟨ts,h1,h2,rfl⟩:=ih _ _ h;have hk:=Io hm;refine⟨.mk x (ts.take x.n.toNat)::ts.drop x.n.toNat,by simp;omega,?_,?_⟩
    ·have h3:=QN (ts.take x.n.toNat) (ts.drop x.n.toNat);rw[List.take_append_drop,h2]at h3;have h4:Gu (ts.take x.n.toNat)=true/\Gu (ts.drop x.n.toNat)=true:=by simpa using h3.symm
     have h5:x.n=((ts.take x.n.toNat).length:Int):=by rw[bE0];omega
     unfold Gu FX;rw[hm,decide_eq_true h5,h4.1,h4.2];rfl
    ·rw[AG,Be,List.cons_append,List.cons_append,aQ0,<-aQ0 (Ao _),<-Fu,List.take_append_drop]
   ·simp at h
theorem Tv : ∀(l:List Nd) (w:Nat),l.length<w->EY l w=none
 | _,0,h=>by omega
 | [],w+1,_=>Iz w
 | x::l,w+1,h=>by
  rw[DR]
  split
  ·exact Tv l _ (by simp at h;omega)
  ·rfl
def Dr (l:List Nd):Bool:=match EY l 1 with
 | some []=>true
 | _=>false
theorem Mf {l:List Nd} (h:Dr l=true):∃t,FX t=true/\l=flat t:=by
 unfold Dr at h
 split at h
 ·rename_i he;obtain⟨ts,h1,h2,h3⟩:=FJ_ _ _ _ he
  match ts,h1,h2,h3 with
  | [t],_,h2,h3 =>
   refine⟨t,(Cy h2).1,?_⟩;rw[h3,AG];simp[Ao]
 ·simp at h
theorem Fj {t:RT} (h:FX t=true):Dr (flat t)=true:=by
 unfold Dr;have:=Gx t [] 0 h;rw[bR0,Cw]at this;rw[this]
theorem BV_ {t:RT} (h:FX t=true):∀x∈flat t,Ei x=true:=by
 have key:∀(l:List Nd) (w:Nat) (r:List Nd),EY l w=some r->∀x∈l,x∈r\/Ei x=true:=by
  intro l
  induction l with
  | nil=>intro w r _ x hx;simp at hx
  | cons y l ih =>
   intro w r he x hx
   cases w with
   | zero=>rw[Cw]at he;simp only[aA0]at he;subst he;exact .inl hx
   | succ w =>
    rw[DR]at he
    split at he
    ·rename_i hm
     rcases aJ0.1 hx with rfl | hx
     ·exact .inr hm
     ·exact ih _ _ he x hx
    ·simp at he
 intro x hx;have:=Gx t [] 0 h;rw[bR0,Cw]at this
 rcases key _ _ _ this x hx with h | h
 ·simp at h
 ·exact h
theorem Ft : ∀ts:List RT,ts.length<=(Ao ts).length
 | []=>by simp
 | t::ts=>by
  have:=Ft ts;have:=GZ t;rw[AG];simp;omega
mutual
theorem SP : ∀(t:RT),FX t=true->∀x∈flat t,x.n<=((flat t).length:Int)
 | .mk y ks,h,x,hx=>by
  obtain⟨h1,h2,h3⟩:=CI h;have:=Ft ks;rw[Be]at hx |-;rw[List.length_cons]
  rcases aJ0.1 hx with rfl | hx
  ·omega
  ·have:=aY ks h3 x hx;omega
theorem aY : ∀(ts:List RT),Gu ts=true->∀x∈Ao ts,x.n<=((Ao ts).length:Int)
 | [],_,x,hx=>by simp[Ao]at hx
 | t::ts,h,x,hx=>by
  obtain⟨h1,h2⟩:=Cy h;rw[AG]at hx |-;rw[aD0]
  rcases aI0.1 hx with hx | hx
  ·have:=SP t h1 x hx;omega
  ·have:=aY ts h2 x hx;omega
end
mutual
def JR : RT->Nat
 | .mk _ ks=>UX ks+1
def UX : List RT->Nat
 | []=>0
 | t::ts=>max (JR t) (UX ts)
end
theorem Yc (x:Nd) (ks:List RT):JR (.mk x ks)=UX ks+1:=by rw[JR]
theorem It (t:RT) (ts:List RT):UX (t::ts)=max (JR t) (UX ts):=by rw[UX]
theorem Nw : UX []=0:=by rw[UX]
def fin : List Nat->List Nat
 | []=>[]
 | c::s=>if c=1 then fin s else (c-1)::s
def Ek (p:List Nat×Nat) (x:Nd):List Nat×Nat:=(if x.n.toNat=0 then fin p.1 else x.n.toNat::p.1,max p.2 (p.1.length+1))
mutual
theorem MB : ∀(t:RT) (s:List Nat) (m:Nat),FX t=true->(flat t).foldl Ek (s,m)=(fin s,max m (s.length+JR t))
 | .mk x ks,s,m,h=>by
  obtain⟨h1,h2,h3⟩:=CI h;rw[Be,cQ0,Yc];unfold Ek;rw[h2,dI0]
  cases ks with
  | nil=>simp[Ao,Nw]
  | cons t ts =>
   have:=PM (t::ts) s (max m (s.length+1)) h3 (by simp);simp only[List.length_cons]at this |-;rw[if_neg (by omega)];unfold Ek at this;rw[this]
   congr 1
   omega
theorem PM : ∀(ts:List RT) (s:List Nat) (m:Nat),Gu ts=true->ts≠[]->(Ao ts).foldl Ek (ts.length::s,m)=(fin s,max m (s.length+1+UX ts))
 | [],s,m,h,qC=>absurd rfl qC
 | [t],s,m,h,qC=>by
  obtain⟨h1,h2⟩:=Cy h;have:=MB t (1::s) m h1;rw[AG,cF0];simp only[List.length_cons,List.length_nil,bS0]at this |-;rw[this,It,Nw];simp[Ao,fin]
 | t::u::r,s,m,h,qC=>by
  obtain⟨h1,h2⟩:=Cy h;have h3:=MB t (((u::r).length+1)::s) m h1;have h4:=PM (u::r) s (max m (s.length+1+JR t)) h2 (by simp);rw[AG,cF0,List.length_cons,h3]
  have e:fin (((u::r).length+1)::s)=(u::r).length::s:=by
   simp only[fin];rw[if_neg (by simp)];simp
  rw[e];have e2:max m ((((u::r).length+1)::s).length+JR t)=max m (s.length+1+JR t):=by rw[List.length_cons]
  rw[e2,h4,It t]
  congr 1
  omega
end
theorem KC {t:RT} (h:FX t=true):(flat t).foldl Ek ([],0)=([],JR t):=by
 rw[MB t [] 0 h];simp[fin]
def Hn_ : List Nat->List Nat
 | []=>[]
 | c::s=>if c=0 then fin s else c::s
def pos (s:List Nat):Prop:=∀c∈s,1<=c/\c<=1572864
theorem Es_ {c:Nat} {s:List Nat} (h:1<=c):Hn_ ((c-1)::s)=fin (c::s):=by
 rw[show Hn_ ((c-1)::s)=if c-1=0 then fin s else (c-1)::s from rfl,show fin (c::s)=if c=1 then fin s else (c-1)::s from rfl]
 by_cases h1:c=1
 ·rw[if_pos (by omega),if_pos h1]
 ·rw[if_neg (by omega),if_neg h1]
theorem Cp_ : ∀s:List Nat,(fin s).length<=s.length
 | []=>by simp[fin]
 | c::s=>by
  unfold fin
  split
  ·have:=Cp_ s;simp;omega
  ·simp
theorem Co_ : ∀{s:List Nat},pos s->pos (fin s)
 | [],_=>by intro c hc;simp[fin]at hc
 | c::s,h=>by
  unfold fin
  split
  ·exact Co_ fun d hd=>h d (aC0 _ hd)
  ·intro d hd;have hc:=h c aE0
   rcases aJ0.1 hd with rfl | hd
   ·omega
   ·exact h d (aC0 _ hd)
theorem Fr_ (p:List Nat×Nat) (x:Nd):(Ek p x).1.length<=p.1.length+1:=by
 unfold Ek;simp only
 split
 ·have:=Cp_ p.1;omega
 ·simp
theorem Fq_ {p:List Nat×Nat} (x:Nd) (hx:x.n.toNat<=1572864) (h:pos p.1):pos (Ek p x).1:=by
 unfold Ek;simp only
 split
 ·exact Co_ h
 ·intro d hd
  rcases aJ0.1 hd with rfl | hd
  ·omega
  ·exact h d hd
theorem Et_ (c:Nat) (s:List Nat):Hn_ (c::s)=if c=0 then fin s else c::s:=rfl
def Ju (s:List Nat):List (List DVal):=(s.map fun c:Nat=>[DVal.int .i64 (c:Int)]).reverse
theorem EP (s:List Nat):(Ju s).length=s.length:=by simp[Ju]
theorem IA (c:Nat) (s:List Nat):Ju (c::s)=Ju s++[[.int .i64 (c:Int)]]:=by simp[Ju]
theorem Dj : Ju []=[]:=rfl
@[simp] theorem Or_ (s:List Nat):Bx (Ju s)=0:=by
 unfold Ju
 exact Nat.le_zero.1 (QR fun d hd=>by
  obtain⟨c,_,rfl⟩:=aR0.1 (List.mem_reverse.1 hd)
  simp[AR,mx])
theorem iK (c:Nat) (s:List Nat):(Ju (c::s))[s.length]? =some [.int .i64 (c:Int)]:=by
 rw[IA,bD0 (by rw[EP];omega),EP,dZ0];rfl
theorem FM_ (c:Nat) (s:List Nat):(Ju (c::s)).take s.length=Ju s:=by
 rw[IA,eN0 (by rw[EP];omega),cL0 (by rw[EP];omega)]
theorem IS_ (c d:Nat) (s:List Nat):(Ju (c::s)).set s.length [.int .i64 (d:Int)]=Ju (d::s):=by
 rw[IA,IA,List.set_append_right _ _ (by rw[EP];omega),EP,dZ0];rfl
mutual
def EF : RT->Bool
 | .mk x ks=>if x.k=2\/x.k=3 then false else if x.k=5 then HO ks else if x.k=4\/x.k=7 then Gn ks else true
def HO : List RT->Bool
 | []=>false
 | t::ts=>EF t||HO ts
def Gn : List RT->Bool
 | []=>true
 | t::ts=>EF t&&Gn ts
end
theorem Cv_ (x:Nd) (ks:List RT):EF (.mk x ks)=if x.k=2\/x.k=3 then false else if x.k=5 then HO ks else if x.k=4\/x.k=7 then Gn ks else true:=by rw[EF]
theorem Ug : ∀ts:List RT,HO ts=ts.any EF
 | []=>by rw[HO];rfl
 | t::ts=>by rw[HO,Ug ts];rfl
theorem Ur : ∀ts:List RT,Gn ts=ts.all EF
 | []=>by rw[Gn];rfl
 | t::ts=>by rw[Gn,Ur ts];rfl
theorem Pt (t:RT) (ts:List RT):Gn (t::ts)=(EF t&&Gn ts):=by rw[Gn]
theorem KV : Gn []=true:=by rw[Gn]
theorem WE (ts:List RT) (t:RT):Gn (ts++[t])=(Gn ts&&EF t):=by rw[Ur,Ur,List.all_append];simp
def CB (l f:List Nat):List (Nat×Nat):=l.flatMap fun p=>f.map fun q=>(p,q)
theorem Lk {l f:List Nat} {p q:Nat}:(p,q)∈CB l f↔p∈l/\q∈f:=by
 unfold CB;simp only[bT0,aR0,_root_.Prod.mk.injEq]
 constructor
 ·rintro⟨a,ha,b,hb,rfl,rfl⟩;exact⟨ha,hb⟩
 ·rintro⟨ha,hb⟩;exact⟨p,ha,q,hb,rfl,rfl⟩
theorem Fl_ (f:List Nat):CB [] f=[]:=rfl
mutual
def tX : RT->Nat->List Nat
 | .mk x ks,a=>if x.k=2\/x.k=3 then [a]else YO x.k ks (a+1)
def YO (k:Int):List RT->Nat->List Nat
 | [],_=>[]
 | u::us,a=>tX u a++(if k=4/\EF u=false then []else YO k us (a+(flat u).length))
end
mutual
def Qm : RT->Nat->List Nat
 | .mk x ks,a=>if x.k=2\/x.k=3 then [a]else Qn x.k ks (a+1)
def Qn (k:Int):List RT->Nat->List Nat
 | [],_=>[]
 | u::us,a=>if k=4 then Qn k us (a+(flat u).length)++(if Gn us=true then Qm u a else [])else Qm u a++Qn k us (a+(flat u).length)
end
mutual
def arT : RT->Nat->List (Nat×Nat)
 | .mk x ks,a=>if x.k=2\/x.k=3 then []else uB x.k ks (a+1) []++(if x.k=6\/x.k=7 then CB (Qn x.k ks (a+1)) (YO x.k ks (a+1))else [])
def uB (k:Int):List RT->Nat->List Nat->List (Nat×Nat)
 | [],_,_=>[]
 | u::us,a,acc=>arT u a++((if k=4 then CB acc (tX u a)else [])++uB k us (a+(flat u).length) (if k=4 then Qm u a++(if EF u=true then acc else [])else []))
end
theorem Tm (x:Nd) (ks:List RT) (a:Nat):tX (.mk x ks) a=if x.k=2\/x.k=3 then [a]else YO x.k ks (a+1):=by rw[tX]
theorem NB (k:Int) (a:Nat):YO k [] a=[]:=by rw[YO]
theorem Iy (k:Int) (u:RT) (us:List RT) (a:Nat):YO k (u::us) a=tX u a++(if k=4/\EF u=false then []else YO k us (a+(flat u).length)):=by rw[YO]
theorem Mu (x:Nd) (ks:List RT) (a:Nat):Qm (.mk x ks) a=if x.k=2\/x.k=3 then [a]else Qn x.k ks (a+1):=by rw[Qm]
theorem Ht (k:Int) (a:Nat):Qn k [] a=[]:=by rw[Qn]
theorem EM (k:Int) (u:RT) (us:List RT) (a:Nat):Qn k (u::us) a=if k=4 then Qn k us (a+(flat u).length)++(if Gn us=true then Qm u a else [])else Qm u a++Qn k us (a+(flat u).length):=by rw[Qn]
theorem Pr (x:Nd) (ks:List RT) (a:Nat):arT (.mk x ks) a=if x.k=2\/x.k=3 then []else uB x.k ks (a+1) []++(if x.k=6\/x.k=7 then CB (Qn x.k ks (a+1)) (YO x.k ks (a+1))else []):=by rw[arT]
theorem Lu (k:Int) (a:Nat) (acc:List Nat):uB k [] a acc=[]:=by rw[uB]
theorem ES (k:Int) (u:RT) (us:List RT) (a:Nat) (acc:List Nat):uB k (u::us) a acc=arT u a++((if k=4 then CB acc (tX u a)else [])++uB k us (a+(flat u).length) (if k=4 then Qm u a++(if EF u=true then acc else [])else [])):=by rw[uB]
theorem DQ : Ao []=[]:=by rw[Ao]
theorem Tq (k:Int) (u:RT):∀(us:List RT) (a:Nat),YO k (us++[u]) a=YO k us a++(if k=4/\Gn us=false then []else tX u (a+(Ao us).length))
 | [],a=>by simp[NB,Iy,KV,DQ]
 | v::us,a=>by
  rw[List.cons_append,Iy,Iy,Tq k u us,Pt,AG,aD0,<-dJ0,aQ0]
  by_cases h4:k=4<;>cases hv:EF v<;>simp[h4]
theorem SM (k:Int) (u:RT):∀(us:List RT) (a:Nat),Qn k (us++[u]) a=if k=4 then Qm u (a+(Ao us).length)++(if EF u=true then Qn k us a else [])else Qn k us a++Qm u (a+(Ao us).length)
 | [],a=>by simp[Ht,EM,KV,DQ]
 | v::us,a=>by
  rw[List.cons_append,EM,EM,SM k u us,WE,AG,aD0,<-dJ0]
  by_cases h4:k=4
  ·cases hu:EF u<;>cases hs:Gn us<;>simp[h4]
  ·simp[h4]
theorem Wx (u:RT):∀(us:List RT) (a:Nat) (acc:List Nat),uB 4 (us++[u]) a acc=uB 4 us a acc++(arT u (a+(Ao us).length)++CB (Qn 4 us a++(if Gn us=true then acc else [])) (tX u (a+(Ao us).length)))
 | [],a,acc=>by simp[Lu,ES,Ht,KV,DQ]
 | v::us,a,acc=>by
  rw[List.cons_append,ES,ES,Wx u us,Pt,AG,aD0,<-dJ0,EM];cases hv:EF v<;>cases hs:Gn us<;>simp[aQ0]
theorem lC (k:Int) (h4:¬k=4) (u:RT):∀(us:List RT) (a:Nat),uB k (us++[u]) a []=uB k us a []++arT u (a+(Ao us).length)
 | [],a=>by simp[Lu,ES,DQ,h4]
 | v::us,a=>by
  rw[List.cons_append,ES,ES,AG,aD0,<-dJ0];simp only[h4,if_false,List.nil_append];rw[lC k h4 u us,aQ0]
-- where these lie
mutual
theorem Tp : ∀(t:RT) (a q:Nat),q∈tX t a->a<=q/\q<a+(flat t).length
 | .mk x ks,a,q,h=>by
  rw[Tm]at h;rw[Be,List.length_cons]
  split at h
  ·simp at h;omega
  ·have:=ME x.k ks (a+1) q h;omega
theorem ME (k:Int):∀(us:List RT) (a q:Nat),q∈YO k us a->a<=q/\q<a+(Ao us).length
 | [],a,q,h=>by simp[NB]at h
 | u::us,a,q,h=>by
  rw[Iy,aI0]at h;rw[AG,aD0]
  rcases h with h | h
  ·have:=Tp u a q h;omega
  ·split at h
   ·simp at h
   ·have:=ME k us _ q h;omega
end
mutual
theorem Mv : ∀(t:RT) (a q:Nat),q∈Qm t a->a<=q/\q<a+(flat t).length
 | .mk x ks,a,q,h=>by
  rw[Mu]at h;rw[Be,List.length_cons]
  split at h
  ·simp at h;omega
  ·have:=Kx x.k ks (a+1) q h;omega
theorem Kx (k:Int):∀(us:List RT) (a q:Nat),q∈Qn k us a->a<=q/\q<a+(Ao us).length
 | [],a,q,h=>by simp[Ht]at h
 | u::us,a,q,h=>by
  rw[EM]at h;rw[AG,aD0]
  have key:q∈Qm u a\/q∈Qn k us (a+(flat u).length):=by
   split at h
   ·rcases aI0.1 h with h | h
    ·exact .inr h
    ·split at h
     ·exact .inl h
     ·simp at h
   ·exact aI0.1 h
  rcases key with h | h
  ·have:=Mv u a q h;omega
  ·have:=Kx k us _ q h;omega
end
mutual
theorem Ju_ : ∀(t:RT) (a p q:Nat),(p,q)∈arT t a->(a<=p/\p<a+(flat t).length)/\(a<=q/\q<a+(flat t).length)
 | .mk x ks,a,p,q,h=>by
  rw[Pr]at h;rw[Be,List.length_cons]
  split at h
  ·simp at h
  ·rcases aI0.1 h with h | h
   ·rcases Yz x.k ks (a+1) [] p q h with ⟨h1 | h1,h2⟩
    ·omega
    ·simp at h1
   ·split at h
    ·obtain⟨h1,h2⟩:=Lk.1 h;have:=Kx x.k ks _ p h1;have:=ME x.k ks _ q h2;omega
    ·simp at h
theorem Yz (k:Int):∀(us:List RT) (a:Nat) (acc:List Nat) (p q:Nat),(p,q)∈uB k us a acc->((a<=p/\p<a+(Ao us).length)\/p∈acc)/\(a<=q/\q<a+(Ao us).length)
 | [],a,acc,p,q,h=>by simp[Lu]at h
 | u::us,a,acc,p,q,h=>by
  rw[ES]at h;rw[AG,aD0];simp only[aI0]at h
  rcases h with h | h | h
  ·have:=Ju_ u a p q h;omega
  ·split at h
   ·obtain⟨h1,h2⟩:=Lk.1 h;have:=Tp u a q h2;exact⟨.inr h1,by omega⟩
   ·simp at h
  ·obtain⟨h1,h2⟩:=Yz k us _ _ p q h;refine⟨?_,by omega⟩
   rcases h1 with h1 | h1
   ·left;omega
   ·split at h1
    ·rcases aI0.1 h1 with h1 | h1
     ·have:=Mv u a p h1;left;omega
     ·split at h1
      ·exact .inr h1
      ·simp at h1
    ·simp at h1
end
def inB (u:RT) (a p:Nat):Bool:=decide (a<=p)&&decide (p<a+(flat u).length)
theorem KT_ {u:RT} {a p:Nat}:inB u a p=true↔a<=p/\p<a+(flat u).length:=by unfold inB;simp
mutual
def enT : RT->Nat->Nat->Bool
 | .mk x ks,a,p=>decide (a=p)||enL x.k ks (a+1) p
def enL (k:Int):List RT->Nat->Nat->Bool
 | [],_,_=>false
 | u::us,a,p=>enL k us (a+(flat u).length) p||((!decide (k=4)||Gn us)&&(inB u a p&&enT u a p))
end
theorem MN_ (x:Nd) (ks:List RT) (a p:Nat):enT (.mk x ks) a p=(decide (a=p)||enL x.k ks (a+1) p):=by rw[enT]
theorem Ct_ (k:Int) (a p:Nat):enL k [] a p=false:=by rw[enL]
theorem IP_ (k:Int) (u:RT) (us:List RT) (a p:Nat):enL k (u::us) a p=(enL k us (a+(flat u).length) p||((!decide (k=4)||Gn us)&&(inB u a p&&enT u a p))):=by rw[enL]
def Lf (l:List Nd) (a p:Nat):Prop:=∀x,a<=p->l[p-a]? =some x->x.k=2\/x.k=3
theorem Lf.left {l m:List Nd} {a p:Nat} (h:Lf (l++m) a p):Lf l a p:=fun x h1 h2=>h x h1 (by
 rw[aZ0 (aB0.1 h2).1];exact h2)
theorem Lf.right {l m:List Nd} {a p:Nat} (h:Lf (l++m) a p):Lf m (a+l.length) p:=fun x h1 h2=>h x (by omega) (by
 rw[bD0 (by omega),Nat.sub_sub];exact h2)
theorem Lf.kids {x:Nd} {ks:List RT} {a p:Nat} (h:Lf (flat (.mk x ks)) a p):Lf (Ao ks) (a+1) p:=fun y h1 h2=>h y (by omega) (by
 rw[Be,show p-a=(p-(a+1))+1 by omega,bP0];exact h2)
theorem Lf.head {x:Nd} {ks:List RT} {a p:Nat} (h:Lf (flat (.mk x ks)) a p) (hx:¬(x.k=2\/x.k=3)):a≠p:=fun e=>hx (h x (by omega) (by rw[Be,show p-a=0 by omega];rfl))
theorem SK {x:Nd} {ks:List RT} (h:FX (.mk x ks)=true) (hx:x.k=2\/x.k=3):ks=[]:=by
 obtain⟨h1,h2,_⟩:=CI h;unfold Ei at h1
 have h0:x.n=0:=by
  rcases hx with hx | hx
  ·rw[if_neg (by omega),if_pos hx]at h1;simp only[aM0,decide_eq_true_eq]at h1;exact h1.1
  ·rw[if_neg (by omega),if_neg (by omega),if_pos hx]at h1;simp only[aM0,decide_eq_true_eq]at h1;exact h1.1
 exact bO0 (by omega)
theorem BT_ {x:Nd} {ks:List RT} (h:FX (.mk x ks)=true) (hx:x.k=6\/x.k=7\/x.k=8):∃u,ks=[u]:=by
 obtain⟨h1,h2,_⟩:=CI h;unfold Ei at h1
 have h0:x.n=1:=by
  rcases hx with hx | hx | hx<;>simp[hx]at h1<;>exact h1.2
 exact List.length_eq_one_iff.1 (by omega)
mutual
theorem Ax_ : ∀(t:RT) (a p:Nat),FX t=true->Lf (flat t) a p->(p∈Qm t a↔enT t a p=true)
 | .mk x ks,a,p,ok,hl=>by
  rw[Mu,MN_]
  by_cases hx:x.k=2\/x.k=3
  ·rw[if_pos hx,SK ok hx,Ct_];simp only[aG0,Bool.or_false,decide_eq_true_eq];exact eq_comm
  ·have qC:=hl.head hx;rw[if_neg hx,decide_eq_false qC,Bool.false_or];exact Cu_ x.k ks (a+1) p (CI ok).2.2 hl.kids
theorem Cu_ (k:Int):∀(us:List RT) (a p:Nat),Gu us=true->Lf (Ao us) a p->(p∈Qn k us a↔enL k us a p=true)
 | [],a,p,_,_=>by simp[Ht,Ct_]
 | u::us,a,p,ok,hl=>by
  obtain⟨ok1,ok2⟩:=Cy ok;rw[AG]at hl;have i1:=Ax_ u a p ok1 hl.left;have i2:=Cu_ k us _ p ok2 hl.right;rw[EM,IP_,cY0,aM0,aM0,<-i2]
  have e1:p∈Qm u a↔(inB u a p=true/\enT u a p=true):=by
   rw[<-i1];exact⟨fun h=>⟨KT_.2 (Mv u a p h),h⟩,fun h=>h.2⟩
  rw[<-e1]
  by_cases h4:k=4
  ·rw[if_pos h4,aI0];cases hs:Gn us<;>simp[h4]
  ·rw[if_neg h4,aI0];simp only[h4,decide_false,Bool.not_false,Bool.true_or,true_and];exact or_comm
end
mutual
theorem aT : ∀(t:RT) (a:Nat),(Qm t a).Nodup
 | .mk x ks,a=>by
  rw[Mu]
  split
  ·simp
  ·exact VR x.k ks (a+1)
theorem VR (k:Int):∀(us:List RT) (a:Nat),(Qn k us a).Nodup
 | [],a=>by rw[Ht];simp
 | u::us,a=>by
  have h1:=aT u a;have h2:=VR k us (a+(flat u).length);rw[EM]
  split
  ·refine bV0.2 ⟨h2,?_,?_⟩
   ·split
    ·exact h1
    ·simp
   ·rintro x hx y hy rfl
    split at hy
    ·have:=Kx k us _ x hx;have:=Mv u a x hy;omega
    ·simp at hy
  ·refine bV0.2 ⟨h1,h2,?_⟩;rintro x hx y hy rfl;have:=Kx k us _ x hy;have:=Mv u a x hx;omega
end
-- what begins and ends are occurrences
mutual
theorem Tn : ∀(t:RT) (a q:Nat),q∈tX t a->∃x,(flat t)[q-a]? =some x/\(x.k=2\/x.k=3)
 | .mk x ks,a,q,h=>by
  rw[Tm]at h
  split at h
  ·rename_i hx;simp at h;subst h;exact⟨x,by rw[Be,dZ0];rfl,hx⟩
  ·have h1:=ME x.k ks _ q h;obtain⟨y,hy,hk⟩:=ND x.k ks _ q h;refine⟨y,?_,hk⟩;rw[Be,show q-a=(q-(a+1))+1 by omega,bP0];exact hy
theorem ND (k:Int):∀(us:List RT) (a q:Nat),q∈YO k us a->∃x,(Ao us)[q-a]? =some x/\(x.k=2\/x.k=3)
 | [],a,q,h=>by simp[NB]at h
 | u::us,a,q,h=>by
  rw[Iy,aI0]at h;rw[AG]
  rcases h with h | h
  ·have h1:=Tp u a q h;obtain⟨y,hy,hk⟩:=Tn u a q h;exact⟨y,by rw[aZ0 (by omega)];exact hy,hk⟩
  ·split at h
   ·simp at h
   ·have h1:=ME k us _ q h;obtain⟨y,hy,hk⟩:=ND k us _ q h;exact⟨y,by rw[bD0 (by omega),Nat.sub_sub];exact hy,hk⟩
end
mutual
theorem SL : ∀(t:RT) (a q:Nat),q∈Qm t a->∃x,(flat t)[q-a]? =some x/\(x.k=2\/x.k=3)
 | .mk x ks,a,q,h=>by
  rw[Mu]at h
  split at h
  ·rename_i hx;simp at h;subst h;exact⟨x,by rw[Be,dZ0];rfl,hx⟩
  ·have h1:=Kx x.k ks _ q h;obtain⟨y,hy,hk⟩:=SN x.k ks _ q h;refine⟨y,?_,hk⟩;rw[Be,show q-a=(q-(a+1))+1 by omega,bP0];exact hy
theorem SN (k:Int):∀(us:List RT) (a q:Nat),q∈Qn k us a->∃x,(Ao us)[q-a]? =some x/\(x.k=2\/x.k=3)
 | [],a,q,h=>by simp[Ht]at h
 | u::us,a,q,h=>by
  rw[EM]at h;rw[AG]
  have key:q∈Qm u a\/q∈Qn k us (a+(flat u).length):=by
   split at h
   ·rcases aI0.1 h with h | h
    ·exact .inr h
    ·split at h
     ·exact .inl h
     ·simp at h
   ·exact aI0.1 h
  rcases key with h | h
  ·have h1:=Mv u a q h;obtain⟨y,hy,hk⟩:=SL u a q h;exact⟨y,by rw[aZ0 (by omega)];exact hy,hk⟩
  ·have h1:=Kx k us _ q h;obtain⟨y,hy,hk⟩:=SN k us _ q h;exact⟨y,by rw[bD0 (by omega),Nat.sub_sub];exact hy,hk⟩
end
mutual
theorem Uf : ∀(t:RT) (a p q:Nat),(p,q)∈arT t a->(∃x,(flat t)[p-a]? =some x/\(x.k=2\/x.k=3))/\(∃x,(flat t)[q-a]? =some x/\(x.k=2\/x.k=3))
 | .mk x ks,a,p,q,h=>by
  rw[Pr]at h
  have lift:∀r,a+1<=r->(∃x,(Ao ks)[r-(a+1)]? =some x/\(x.k=2\/x.k=3))->∃y,(flat (.mk x ks))[r-a]? =some y/\(y.k=2\/y.k=3):=by
   rintro r hr ⟨y,hy,hk⟩;refine⟨y,?_,hk⟩;rw[Be,show r-a=(r-(a+1))+1 by omega,bP0];exact hy
  split at h
  ·simp at h
  ·rcases aI0.1 h with h | h
   ·have h1:=Yz x.k ks _ [] p q h;obtain⟨h2,h3⟩:=lD x.k ks _ [] p q h;simp only[eD0,or_false]at h1 h2;exact⟨lift p h1.1.1 h2,lift q h1.2.1 h3⟩
   ·split at h
    ·obtain⟨h1,h2⟩:=Lk.1 h;exact⟨lift p (Kx x.k ks _ p h1).1 (SN x.k ks _ p h1),lift q (ME x.k ks _ q h2).1 (ND x.k ks _ q h2)⟩
    ·simp at h
theorem lD (k:Int):∀(us:List RT) (a:Nat) (acc:List Nat) (p q:Nat),(p,q)∈uB k us a acc->((∃x,(Ao us)[p-a]? =some x/\(x.k=2\/x.k=3))\/p∈acc)/\(∃x,(Ao us)[q-a]? =some x/\(x.k=2\/x.k=3))
 | [],a,acc,p,q,h=>by simp[Lu]at h
 | u::us,a,acc,p,q,h=>by
  rw[ES]at h;rw[AG]
  have l1:∀r,a<=r/\r<a+(flat u).length->(∃x,(flat u)[r-a]? =some x/\(x.k=2\/x.k=3))->∃y,(flat u++Ao us)[r-a]? =some y/\(y.k=2\/y.k=3):=by
   rintro r hr ⟨y,hy,hk⟩;exact⟨y,by rw[aZ0 (by omega)];exact hy,hk⟩
  have l2:∀r,a+(flat u).length<=r->(∃x,(Ao us)[r-(a+(flat u).length)]? =some x/\(x.k=2\/x.k=3))->∃y,(flat u++Ao us)[r-a]? =some y/\(y.k=2\/y.k=3):=by
   rintro r hr ⟨y,hy,hk⟩;exact⟨y,by rw[bD0 (by omega),Nat.sub_sub];exact hy,hk⟩
  simp only[aI0]at h
  rcases h with h | h | h
  ·have h1:=Ju_ u a p q h;obtain⟨h2,h3⟩:=Uf u a p q h;exact⟨.inl (l1 p h1.1 h2),l1 q h1.2 h3⟩
  ·split at h
   ·obtain⟨h1,h2⟩:=Lk.1 h;exact⟨.inr h1,l1 q (Tp u a q h2) (Tn u a q h2)⟩
   ·simp at h
  ·obtain⟨h1,h2⟩:=Yz k us _ _ p q h;obtain⟨h3,h4⟩:=lD k us _ _ p q h;refine⟨?_,l2 q h2.1 h4⟩
   by_cases hacc:p∈acc
   ·exact .inr hacc
   left
   have h5:∀{c:List Nat},p∈(if k=4 then Qm u a++(if EF u=true then acc else [])else [])->p∈Qm u a:=by
    intro _ h
    split at h
    ·rcases aI0.1 h with h | h
     ·exact h
     ·split at h
      ·exact absurd h hacc
      ·simp at h
    ·simp at h
   by_cases rX:p∈Qm u a
   ·exact l1 p (Mv u a p rX) (SL u a p rX)
   ·rcases h1 with h1 | h1
    ·rcases h3 with h3 | h3
     ·exact l2 p h1.1 h3
     ·exact absurd (h5 (c:=[]) h3) rX
    ·exact absurd (h5 (c:=[]) h1) rX
end
end Go.Proofs.Wy
end
section
namespace Go.Proofs.Wy
open Go Go.Dm Tryz
variable [DMode]
attribute [local irreducible] DW Bi Bk
set_option maxRecDepth 100000
theorem Bc : (⟨#[]⟩:ByteArray).size=0:=rfl
def rH : Ann:=⟨[],[]⟩
theorem EZ_ (x:Nd):Ad prog 261 [.agg (Cf x)] (.bool (Ei x)):=by
 refine Ac [] rH func261 call261 ntmps261 mxd (Aq @rH.eq_1 results261) rfl (fun qJ B qX qQ=> ?_);simp only[Am];have e1:=FB 319 tS HD x.s;have e2:=FB 320 tW HK x.s;unfold Ei uA
 by_cases k1:x.k=1
 ·exact Au Aa Aa (Ez @Cf.eq_1 @Bc k1)
 by_cases k2:x.k=2
 ·by_cases h0:x.n=0
  ·exact Au (AA e1) Aa (Ja @Cf.eq_1 @Bc k1 k2 h0)
  ·have vP:(x.n==0)=false:=by simpa using h0
   exact Au Aa Aa (JT @Cf.eq_1 @Bc k1 k2 h0 vP)
 by_cases k3:x.k=3
 ·by_cases h0:x.n=0
  ·exact Au (AA e2) Aa (JT @Cf.eq_1 @Bc k1 k2 k3 h0)
  ·have vP:(x.n==0)=false:=by simpa using h0
   exact Au Aa Aa (JB @Cf.eq_1 @Bc k1 k2 k3 h0 vP)
 by_cases k4:x.k=4
 ·exact Au Aa Aa (JT @Cf.eq_1 @Bc k1 k2 k3 k4)
 by_cases k5:x.k=5
 ·exact Au Aa Aa (JB @Cf.eq_1 @Bc k1 k2 k3 k4 k5)
 by_cases k6:x.k=6
 ·exact Au Aa Aa (ML @Cf.eq_1 @Bc k1 k2 k3 k4 k5 k6)
 by_cases k7:x.k=7
 ·exact Au Aa Aa (YC @Cf.eq_1 @Bc k1 k2 k3 k4 k5 k6 k7)
 by_cases k8:x.k=8
 ·exact Au Aa Aa (MM @Cf.eq_1 @Bc k1 k2 k3 k4 k5 k6 k7 k8)
 exact Au Aa Aa (MM @Cf.eq_1 @Bc k1 k2 k3 k4 k5 k6 k7 k8)
def Ep (r:List Nd) (w:Nat):Bool:=match EY r w with
 | some []=>true
 | _=>false
theorem WM (x:Nd) (r:List Nd):Ep (x::r) 0=false:=by unfold Ep;rw[Cw]
theorem MO {r:List Nd} {w:Nat} (h:EY r w=none):Ep r w=false:=by unfold Ep;rw[h]
theorem WN {x:Nd} {r:List Nd} {w:Nat} (h:Ei x=true):Ep (x::r) (w+1)=Ep r (w+x.n.toNat):=by unfold Ep;rw[DR,if_pos h]
theorem YQ (w:Nat):Ep [] w=decide (w=0):=by
 unfold Ep
 cases w with
 | zero=>rw[Cw];rfl
 | succ w=>rw[Iz];rfl
def rI : Ann:=⟨[],[⟨4,[5],[],[]⟩]⟩
theorem Gf (l:List Nd) (hs:l.length<=1572864):Ad prog 181 [BC l] (.bool (Dr l)):=by
 refine Ac [] rI func181 call181 ntmps181 mxd (Aq @rI.eq_1 results181) rfl (fun qJ B qX qQ=> ?_);clear qJ;simp only[Am];obtain⟨R,hR⟩:∃R,R=Dr l:=⟨_,rfl⟩;rw[<-hR];have vY:Ep l 1=R:=by rw[hR];rfl
 clear hR
 (refine AM Aa Aa Aa ?_;intros;refine Aj ?_)
 refine Ak (X:={p:Nat×Nat//p.1<=l.length/\Ep (l.drop p.1) p.2=R/\p.2<=1+p.1*1572864/\(p.1=0->p.2=1)}) (fun p=>⟨[(0,BC l),(3,.int .i64 p.1.2),(6,BC l),(7,.int .i64 l.length),(8,.int .i64 p.1.1)],[]⟩) (fun p=>l.length-p.1.1) ⟨(0,1),by simp[vY]⟩ (Sub.lit (by simp)) ?_;clear vY;rintro⟨⟨k,w⟩,hk,hw,nZ,hw0⟩;simp only at hk hw nZ hw0 |-
 by_cases qV:k<l.length
 ·obtain⟨x,hx,qG,_⟩:=Aw qV;rw[aW0 qV,qG]at hw;have e1:=EZ_ x;simp only[Cf]at e1
  cases w with
  | zero =>
   rw[WM]at hw;subst hw;exact Au Aa Aa (EU @Cf.eq_1 qV hx qG)
  | succ v =>
   have hv:¬(v:Int)+1=0:=by omega
   have gG:(((v:Int)+1)==0)=false:=by simpa using hv
   cases hm:Ei x
   ·rw[hm]at e1;rw[MO (by rw[DR,hm];rfl)]at hw;subst hw;exact Au (AA e1) Aa (JT @Cf.eq_1 qV hx qG hv gG)
   ·rw[hm]at e1;have zQ:=Io hm;obtain⟨c,yD⟩:∃c:Nat,x.n=(c:Int):=⟨x.n.toNat,by omega⟩;rw[yD]at e1;rw[WN hm,yD,dI0]at hw
    by_cases jO:l.length<c
    ·have kH:(l.length:Int)<(c:Int):=by omega
     rw[MO (Tv _ _ (by rw[bW0];omega))]at hw;subst hw;exact Au (AA e1) Aa (YC @Cf.eq_1 qV hx qG hv gG yD jO kH)
    ·have kH:¬(l.length:Int)<(c:Int):=by omega
     have q1:IntKind.i64.wrap ((c:Int)-1)=(c:Int)-1:=wq;have q2:IntKind.i64.wrap ((v:Int)+1+((c:Int)-1))=(v:Int)+(c:Int):=by rw[wq];omega
     (refine AM (AA e1) Aa (Pu @Cf.eq_1 qV hx qG hv gG yD jO kH q1 q2) ?_;intros;refine Aj ?_)
     refine Al.mk ⟨(k+1,v+c),show k+1<=l.length/\Ep (l.drop (k+1)) (v+c)=R/\v+c<=1+(k+1)*1572864/\(k+1=0->v+c=1) from ⟨by omega,hw,by omega,by omega⟩⟩ (Sub.lit (by simp)) (by simp;omega)
     skip
 ·have qZ:k=l.length:=by omega
  subst qZ;rw[cR0,YQ]at hw
  cases w with
  | zero =>
   have kW:0<l.length:=by
    rcases Nat.eq_zero_or_pos l.length with h | h
    ·have:=hw0 h;omega
    ·exact h
   simp only[decide_true]at hw;subst hw;exact Au Aa Aa (AA kW)
  | succ v =>
   have gA:R=false:=by rw[<-hw];simp
   subst gA;have hv:¬(v:Int)+1=0:=by omega
   have gG:(((v:Int)+1)==0)=false:=by simpa using hv
   exact Au Aa Aa (Aq hv gG)
end Go.Proofs.Wy
end
section
namespace Go.Dm
variable [DMode]
theorem HG_ {cur:Fb} {M:List Nat} {h:Array Obj} {l:Loc} {obj:DObj} (hk:KW cur M h l obj):∀b∈l.blks,∀c,h[b]? ≠some (.deferred c):=by
 intro b hb c hc
 cases obj with
 | box cs =>
  obtain⟨b',arr,ty,h1,h2,_⟩:=hk;rw[h1]at hb;simp only[aG0]at hb;subst hb;rw[h2]at hc;simp at hc
 | row et k bs es =>
  obtain⟨_,⟨_,h1,_⟩ | ⟨b',arr,cap,h1,h2,h3,_⟩⟩:=hk
  ·rw[h1]at hb;cases hb
  ·rw[h1]at hb;simp only[aG0]at hb;subst hb;rw[h3]at hc;simp at hc
 | map ks vs =>
  obtain⟨b',es,clk,h1,h2,_⟩:=hk;rw[h1]at hb;simp only[aG0]at hb;subst hb;rw[h2]at hc;simp at hc
 | abs A=>exact A.nd _ _ _ _ hk b hb c hc
def Gm_ (sl:List (Nat×DVal)) (hsl:Lj sl<=1) (own:List Ent) (tm:Array Value) (own0:List Ent) (loc0:Nat->Loc) (l:Nat) (L:Loop):Abs where
 J:=fun M bl hd h=>hd= .func (.yield l) #[] #[]/\∃loc,bl=Ab own loc++[l]/\(own.map (·.id)).Nodup/\(∀e∈own,KW (Ae own loc) M h (loc e.id) e.obj) /\
  (∀p∈sl,rd (Ae own loc) M h p.2 (tm.getD p.1 Go.undef))/\h[l]? =some (.loop L)/\(∀e∈own,e.r<1->Ae own0 loc0 e.id e.r=some (loc e.id))
 weak:=by
  rintro M M' bl hd h h' hb hm hk ⟨h1,loc,h2,h3,h4,h5,h6,h7⟩;have W:∀n,Weak (Ae own loc) (Ae own loc) M M' h h' n:=fun n=>⟨fun _ _ _ _ h=>h,hb,hm⟩
  refine⟨h1,loc,h2,h3,fun e he=>Bp (W _) (Nat.le_refl _) (fun b o qD ho=>hk b o ?_ ho) (h4 e he),fun p hp=>Cu (W _) _ _ (Nat.le_refl _) (h5 p hp),hk l _ ?_ h6,h7⟩
  ·rw[h2];exact aN0 _ (Bm he qD)
  ·rw[h2];simp
 one:=by rintro _ _ _ _ ⟨rfl,_⟩;exact⟨rfl,rfl⟩
 nd:=by
  rintro M bl hd h ⟨_,loc,rfl,_,h4,_,h6,_⟩ b hb c hc
  rcases aI0.1 hb with hb | hb
  ·obtain⟨e,he,hb⟩:=bT0.1 hb;exact HG_ (h4 e he) b hb c hc
  ·simp only[aG0]at hb;subst hb;rw[h6]at hc;simp at hc
def UK : List Nat->List DVal->List (Nat×DVal)->List (Nat×DVal)
 | p::ps,d::ds,l=>UK ps ds ((p,d)::l)
 | _,_,l=>l
theorem PE : ∀(z:List (Nat×Value)) (t:Array Value),(z.foldl (fun t p=>t.setIfInBounds p.1 p.2) t).size=t.size
 | [],t=>rfl
 | p::z,t=>by rw[cQ0,PE z];simp
theorem BM_ {cur:Fb} {M:List Nat} {h:Array Obj}:∀(ps:List Nat) (ds:List DVal) (vs:List Value) (l:List (Nat×DVal)) (t:Array Value),ds.length=ps.length->(∀p∈ps,p<t.size)->AI cur M h ds vs ->
  (∀i,rd cur M h (Bq l i) (t.getD i Go.undef))->∀i,rd cur M h (Bq (UK ps ds l) i) (((ps.zip vs).foldl (fun t p=>t.setIfInBounds p.1 p.2) t).getD i Go.undef)
 | [],ds,vs,l,t,hl,hp,hr,hs=>by
  cases ds with
  | nil=>simpa[UK]using hs
  | cons d ds=>simp at hl
 | p::ps,[],vs,l,t,hl,hp,hr,hs=>by simp at hl
 | p::ps,d::ds,vs,l,t,hl,hp,hr,hs=>by
  simp only[AI]at hr;obtain⟨v,r,rfl,h1,h2⟩:=hr;simp only[UK,List.zip_cons_cons,cQ0];refine BM_ ps ds r _ _ (by simpa using hl) (fun q hq=>by simpa using hp q (aC0 _ hq)) h2 ?_;intro i;have qV:=hp p aE0;simp only[Bq,aK0,cW0]
  by_cases hi:i=p
  ·subst hi;simpa[qV]using h1
  ·rw[if_neg hi,if_neg (fun h=>hi h.symm)];have:=hs i;simpa[aK0]using this
theorem eK : ∀(l:List (Nat×DVal)) (i:Nat),Bq l i= .any\/(i,Bq l i)∈l
 | [],i=> .inl rfl
 | (j,d)::l,i=>by
  simp only[Bq]
  split
  ·rename_i h;subst h;exact .inr (by simp)
  ·exact(eK l i).imp id (fun h=>aC0 _ h)
def RQ (B:Base) (okk:Bool) (S:List Ent) (j:Code):Exit->DS->Prop
 | .normal,s=>okk=true/\Sub B ⟨[],s.own⟩ ⟨[],S⟩
 | .ret,s=>okk=false/\j= .ret/\Sub B ⟨[],s.own⟩ ⟨[],S⟩
 | .exit id,s=>okk=false/\j= .exit id/\Sub B ⟨[],s.own⟩ ⟨[],S⟩
 | .goto t,s=>okk=false/\j= .goto t/\Sub B ⟨[],s.own⟩ ⟨[],S⟩
 | _,_=>False
def RB (P:Program) (nt:Nat) (body:Code) (okk:Bool) (S:List Ent) (j:Code) (s:DS):Prop:=∀B:Base,B.nt=nt->DW P B body (RQ B okk S j) s
theorem Oi_ {P:Program} {nt:Nat} {body:Code} {okk:Bool} {S:List Ent} {j:Code} {s:DS} (h:∀B:Base,B.nt=nt->DW P B body (RQ B okk S j) s):RB P nt body okk S j s:=h
def RA (P:Program) (nt:Nat) (body:Code) (okk:Bool) (S:List Ent) (j:Code):Exit->DS->Prop
 | .normal,s=>RB P nt body okk S j s
 | _,_=>False
theorem AJ_ {own own':List Ent} {loc loc':Nat->Loc} {M M':List Nat} {h h':Array Obj} {n:Nat} (hc:∀e∈own',e.r<n->Ae own loc e.id e.r=some (loc' e.id)) (hb:∀(b:Nat) (o:Obj),b∉M->Hi o=true->h[b]? =some o->h'[b]? =some o)
  (hm:∀b∈M',b∈M\/h.size<=b):Weak (Ae own loc) (Ae own' loc') M M' h h' n where
 c:=by
  intro id r l hr hl;obtain⟨e,he,rfl,rfl,rfl⟩:=BQ hl;exact hc e he hr
 b:=hb
 m:=by
  intro b o qD _ ho vE
  rcases hm b vE with h1 | h1
  ·exact qD h1
  ·have:=(aF0.1 ho).1;omega
theorem FJ (w:World) (l:Nat) (o:Obj):(w.putObj l o).heap.size=w.heap.size:=by simp[World.putObj]
theorem MY_ {P:Program} {sl:List (Nat×DVal)} {hsl:Lj sl<=1} {own S:List Ent} {tm:Array Value} {own0:List Ent} {loc0:Nat->Loc} {l nt:Nat} {L:Loop} {x:List DVal} {okk:Bool} {j:Code}
  (hL:L.state= .ready) (hLp:L.pending=none) (hLt:L.tmps=tm) (qX:tm.size=nt) (hx:x.length=L.params.size) (hps:∀p∈L.params.toList,p<nt) (hx0:AR x=0)
  (h:∀B:Base,B.nt=nt->DW P B L.assign (RA P nt L.body okk S j) ⟨UK L.params.toList x sl,own⟩) :
  YAt P l (Gm_ sl hsl own tm own0 loc0 l L) x okk (Gm_ sl hsl S tm own0 loc0 l { L with state:=if okk then .ready else .done,pending:=if okk then none else some j }):=by
 rintro M bl hd w vs hnd pZ cC ⟨rfl,loc,rfl,hidn,wE,fM,zI,hver0⟩ vU;have hlM:l∈M:=pZ l (by simp)
 have bM:l∉Ab own loc:=by
  intro hm;rw[bV0]at hnd;exact hnd.2.2 l hm l (by simp) rfl
 have hhotM:∀b∈Ab own loc,b∈M:=fun b hb=>pZ b (aN0 _ hb)
 have qU:=AJ _ _ vU;simp only[bQ0]at qU;have hy:=run_yield (P:=P) (args:=vs) zI (by omega)
 -- the base of the assignment
 let M0:List Nat:=M.filter (fun b=> !(Ab own loc).contains b)
 have hM0:∀b,b∈M0↔b∈M/\b∉Ab own loc:=by
  intro b;simp only[M0,cP0,List.contains_eq_mem,eC0,decide_eq_false_iff_not]
 have hMM:∀b,b∈Ab own loc++M0↔b∈M:=by
  intro b;rw[aI0,hM0]
  constructor
  ·rintro (h | h)
   ·exact hhotM b h
   ·exact h.1
  ·intro h
   by_cases hb:b∈Ab own loc
   ·exact .inl hb
   ·exact .inr ⟨h,hb⟩
 have W0:∀n,Weak (Ae own loc) (Ae own loc) M (Ab own loc++M0) w.heap w.heap n:=fun n =>
  ⟨fun _ _ _ _ h=>h,fun b o _ (_:Hi o=true) ho=>ho,fun b o hb (_:Hi o=true) _ hm=>hb ((hMM b).1 hm)⟩
 let B1:Base:=⟨own,loc,M0,1,w,nt,some l,by decide,w.heap.size,Nat.le_refl _⟩
 let a1:Act:={ tmps:=(L.params.zip vs).foldl (fun tmps (t,a)=>tmps.setIfInBounds t a) L.tmps,defers:=[] }
 have rN:a1.tmps=(L.params.toList.zip vs.toList).foldl (fun t p=>t.setIfInBounds p.1 p.2) tm:=by
  show (L.params.zip vs).foldl _ _=_
  rw[<-Array.foldl_toList,Array.toList_zip,hLt]
 have R1:Rel B1 ⟨UK L.params.toList x sl,own⟩ a1 w loc:=by
  refine⟨⟨hidn,?_,fun b hb hm=>((hM0 b).1 hm).2 hb,fun b hb=>cC b ((hMM b).1 hb),fun e he=>Bp (W0 _) (Nat.le_refl _) (fun _ _ _ h=>h) (wE e he)⟩,Upd.refl _ _,fun b hb=> .inl hb,fun e he _=>AV hidn he,?_,?_,⟨[],rfl,List.nodup_nil,by simp⟩⟩
  ·rw[bV0]at hnd;exact hnd.1
  ·intro i;rw[rN];refine BM_ _ _ _ _ _ (by simpa using hx) (fun p hp=>by rw[qX];exact hps p hp) ?_ ?_ i
   ·exact Bd (n:=0) ⟨fun _ _ _ h=>by omega,fun b o _ (_:Hi o=true) ho=>ho,fun b o hb (_:Hi o=true) _ hm=>hb ((hMM b).1 hm)⟩ _ _ (dO0 hx0) vU
   ·intro q
    rcases eK sl q with h1 | h1
    ·rw[h1];simp[rd]
    ·exact Cu (W0 _) _ _ (Nat.le_refl _) (fM _ h1)
  ·rw[rN,PE];exact qX
 refine⟨L.fn,_,L.assign,L.body,hy,roundIn_of_wpIn (F:=wd none) trivial ?_⟩;refine wpIn_mono (h B1 rfl a1 w loc R1) ?_;rintro e a' w' ⟨s',loc',hq,R'⟩
 cases e<;>simp only[RA]at hq<;>first
  | exact hq.elim
  | skip
 -- the record lies as it lay
 have bQ:w'.heap[l]? =some (.loop L):=by
  rw[R'.upd.blk l (aF0.1 zI).1 bM];exact zI
 have hllt:l<w'.heap.size:=(aF0.1 bQ).1;refine⟨w'.putObj l (.loop { L with state:= .busy }),run_beginRound bQ hL,?_⟩;obtain⟨w2,gA⟩:∃w2,w2=w'.putObj l (.loop { L with state:= .busy }):=⟨_,rfl⟩;rw[<-gA];have hsz2:w2.heap.size=w'.heap.size:=by rw[gA];exact FJ _ _ _
 have hoth:∀b,b≠l->w2.heap[b]? =w'.heap[b]? :=fun b hb=>by rw[gA];exact World.putObj_heap_other hb
 have rQ:w2.heap[l]? =some (.loop { L with state:= .busy }):=by rw[gA];exact World.putObj_heap_same hllt
 have hlM0:l∈M0:=(hM0 l).2 ⟨hlM,bM⟩;have mJ:l∉Ab s'.own loc':=fun hm=>R'.st.ap l hm hlM0
 have hd2:∀(b:Nat) (o:Obj),Hi o=true->w'.heap[b]? =some o->w2.heap[b]? =some o:=by
  intro b o ho hb;rw[hoth b (fun he=>by subst he;rw[bQ]at hb;simp only[aA0]at hb;subst hb;simp[Hi]at ho)];exact hb
 have St2:St s'.own loc' M0 w2.heap:=R'.st.same (dO0 hsz2.symm) hd2 (fun b o hm hb=>by rw[hoth b (fun he=>mJ (he▸hm))];exact hb)
 have W2:∀n,Weak (Ae s'.own loc') (Ae s'.own loc') (Ab s'.own loc'++M0) (Ab s'.own loc'++M0) w'.heap w2.heap n:=fun n =>
  ⟨fun _ _ _ _ h=>h,fun b o _ (h1:Hi o=true) h2=>hd2 b o h1 h2,fun b o hb (_:Hi o=true) _=>hb⟩
 let B2:Base:=⟨s'.own,loc',M0,1,w2,nt,some l,by decide,w2.heap.size,Nat.le_refl _⟩
 obtain⟨rs,cQ,_,_,hrs2⟩:=R'.df;have hz:rs=[]:=hrs2 (by simp[B1])
 let B2:Base:=⟨s'.own,loc',M0,1,w2,nt,some l,by decide,w2.heap.size,Nat.le_refl _⟩
 have R2:Rel B2 s' a' w2 loc' :=
  ⟨St2,Upd.refl _ _,fun b hb=> .inl hb,fun e he _=>AV St2.nd he,fun i=>Cu (W2 _) _ _ (Nat.le_refl _) (R'.sl i),R'.nt,⟨[],by rw[hz]at cQ;simpa using cQ,List.nodup_nil,by simp⟩⟩
 refine wpIn_mono (hq B2 rfl a' w2 loc' R2) ?_;rintro e a2 w3 ⟨s3,loc3,dG,R3⟩
 have kM:w3.heap[l]? =some (.loop { L with state:= .busy }):=by
  rw[R3.upd.blk l (aF0.1 rQ).1 mJ];exact rQ
 have fin:∀(jump:Option Code),Sub B2 ⟨[],s3.own⟩ ⟨[],S⟩->jump.isNone=okk->jump=(if okk then none else some j)->∃v w4,(Instr.endRound l jump).run P w3= .ok v w4/\∃v0,Ending.returned v= .returned v0/\v0= .bool okk/\∃bl',Upd (Ab own loc++[l]) w w4/\bl'.Nodup/\(∀q∈bl',q<w4.heap.size/\(q∈Ab own loc++[l]\/w.heap.size<=q)) /\
   ∀M',(∀q∈M',q∈bl'\/(q∈M/\q∉Ab own loc++[l]))->(Gm_ sl hsl S tm own0 loc0 l { L with state:=if okk then .ready else .done,pending:=if okk then none else some j }).J M' bl' (.func (.yield l) #[] #[]) w4.heap:=by
  intro jump kN cZ jH;have qB:=run_endRound (P:=P) jump kM
  have hrec':({ ({ L with state:= .busy }:Loop)with state:=if jump.isNone then .ready else .done,pending:=jump }:Loop)={ L with state:=if okk then .ready else .done,pending:=if okk then none else some j }:=by
   rw[cZ,jH]
  rw[hrec',cZ]at qB;obtain⟨w4,gV⟩:∃w4,w4=w3.putObj l (.loop { L with state:=if okk then .ready else .done,pending:=if okk then none else some j }):=⟨_,rfl⟩;rw[<-gV]at qB;have rJ:=(aF0.1 kM).1;have nM:w4.heap.size=w3.heap.size:=by rw[gV];exact FJ _ _ _
  have jF:∀b,b≠l->w4.heap[b]? =w3.heap[b]? :=fun b hb=>by rw[gV];exact World.putObj_heap_other hb
  have hl4:w4.heap[l]? =some (.loop { L with state:=if okk then .ready else .done,pending:=if okk then none else some j }):=by rw[gV];exact World.putObj_heap_same rJ
  have R3':Rel B2 ⟨[],s3.own⟩ a2 w3 loc3:=⟨R3.st,R3.upd,R3.new,R3.ver,fun i=>by simp[Bq,rd],R3.nt,R3.df⟩;obtain⟨loc4,R4⟩:=kN a2 w3 loc3 R3';have mY:l∉Ab S loc4:=fun hm=>R4.st.ap l hm hlM0
  have uput:∀(v:World) (o:Obj),Upd [l] v (v.putObj l o):=fun v o=>⟨rfl,rfl,rfl,fun _=>Nat.le_refl _,by rw[FJ];exact Nat.le_refl _,fun b _ hb=>World.putObj_heap_other (fun h=>hb (by simp[h]))⟩
  have U1:Upd (Ab own loc++[l]) w w':=(Upd.refl _ w).trans R'.upd (fun x hx=> .inl (aN0 _ hx));have U2:Upd (Ab own loc++[l]) w w2:=by rw[gA];exact U1.trans (uput _ _) (fun x hx=> .inl (aP0 _ hx))
  have U3:Upd (Ab own loc++[l]) w w3:=U2.trans R4.upd (fun x hx=>(R'.new x hx).imp (fun h=>aN0 _ h) id);have U4:Upd (Ab own loc++[l]) w w4:=by rw[gV];exact U3.trans (uput _ _) (fun x hx=> .inl (aP0 _ hx))
  have gN:∀q∈Ab S loc4,q<w4.heap.size/\(q∈Ab own loc++[l]\/w.heap.size<=q):=by
   intro q hq;refine⟨by rw[nM];exact R4.st.lt q (aN0 _ hq),?_⟩
   rcases R4.new q hq with h | h
   ·exact(R'.new q h).imp (fun h=>aN0 _ h) id
   ·exact .inr (Nat.le_trans U2.size h)
  refine⟨_,w4,qB,_,rfl,rfl,Ab S loc4++[l],U4,?_,?_,?_⟩
  ·rw[bV0];exact⟨R4.st.bl,by simp,fun b hb b' qD jZ=>mY (by simp only[aG0]at qD;rw[<-qD,<-jZ];exact hb)⟩
  ·intro q hq
   rcases aI0.1 hq with hq | hq
   ·exact gN q hq
   ·simp only[aG0]at hq;subst hq;exact⟨by rw[nM];exact rJ,.inl (by simp)⟩
  ·intro M' hM'
   have mD:∀e∈S,e.r<1->Ae own loc e.id e.r=some (loc4 e.id):=by
    intro e he qV;obtain⟨e1,h1,h2,h3,h4⟩:=BQ (R4.ver e he qV);have h5:=R'.ver e1 h1 (by show e1.r<1;omega);rw[h2,h3]at h5;rw[h4];exact h5
   have hinM:∀b∈M',b∈Ab S loc4++M0:=by
    intro b hb
    rcases hM' b hb with h | ⟨h1,h2⟩
    ·rcases aI0.1 h with h | h
     ·exact aN0 _ h
     ·simp only[aG0]at h;subst h;exact aP0 _ hlM0
    ·exact aP0 _ ((hM0 b).2 ⟨h1,fun h=>h2 (aN0 _ h)⟩)
   have hd4:∀(b:Nat) (o:Obj),Hi o=true->w3.heap[b]? =some o->w4.heap[b]? =some o:=by
    intro b o ho hb;rw[jF b (fun he=>by subst he;rw[kM]at hb;simp only[aA0]at hb;subst hb;simp[Hi]at ho)];exact hb
   have W4:∀n,Weak (Ae S loc4) (Ae S loc4) (Ab S loc4++M0) M' w3.heap w4.heap n:=fun n =>
    ⟨fun _ _ _ _ h=>h,fun b o _ (h1:Hi o=true) h2=>hd4 b o h1 h2,fun b o hb (_:Hi o=true) _ hm=>hb (hinM b hm)⟩
   have W5:Weak (Ae own loc) (Ae S loc4) M M' w.heap w4.heap 1:=by
    refine AJ_ mD (fun b o hb _ ho=> ?_) (fun b hb=> ?_)
    ·rw[U4.blk b (aF0.1 ho).1 (fun h=>hb (pZ b h))];exact ho
    ·rcases hM' b hb with h | ⟨h1,_⟩
     ·rcases aI0.1 h with h | h
      ·exact(gN b h).2.imp (pZ b) id
      ·simp only[aG0]at h;subst h;exact .inl hlM
     ·exact .inl h1
   refine⟨rfl,loc4,rfl,R4.st.nd,fun e he=> ?_,fun p hp=> ?_,hl4,fun e he qV=> ?_⟩
   ·exact Bp (W4 _) (Nat.le_refl _) (fun b o hb ho=>by rw[jF b (fun h=>mY (h▸Bm he hb))];exact ho) (R4.st.ok e he)
   ·refine Cu W5 _ _ (Nat.le_trans ?_ hsl) (fM p hp)
    have:∀(l:List (Nat×DVal)),p∈l->mx p.2<=Lj l:=by
     intro l
     induction l with
     | nil=>intro h;cases h
     | cons q l ih =>
      intro h;simp only[Lj]
      rcases aJ0.1 h with rfl | h
      ·omega
      ·have:=ih h;omega
    exact this sl hp
   ·obtain⟨e1,h1,h2,h3,h4⟩:=BQ (mD e he qV);have h5:=hver0 e1 h1 (by omega);rw[h2,h3]at h5;rw[h4];exact h5
 cases e<;>simp only[RQ]at dG<;>simp only[roundPost]
 ·obtain⟨rfl,hs⟩:=dG;exact fin none hs rfl rfl
 ·obtain⟨rfl,rfl,hs⟩:=dG;exact fin _ hs rfl rfl
 ·obtain⟨rfl,rfl,hs⟩:=dG;exact fin _ hs rfl rfl
 ·obtain⟨rfl,rfl,hs⟩:=dG;exact fin _ hs rfl rfl
def CG (ok:Nat->Bool):Nat->Option Nat
 | 0=>none
 | n+1=>match CG ok n with
  | some k=>some k
  | none=>if ok n then none else some n
def JK_ (P:Program) (f:FuncId) (us cs:List DVal) (xs:List (List DVal)) (ok:Nat->Bool):Prop :=
 ∀(l:Nat) (A Z:Nat->Abs),(∀k x,xs[k]? =some x->(∀j,j<k->ok j=true)->YAt P l (A k) x (ok k) (if ok k then A (k+1)else Z k)) ->
  AS P (.func f) (us++ .pk 0 0::cs) [⟨0,0,.abs (yH l)⟩,⟨1,0,.abs (A 0)⟩] (.tup []) [⟨0,0,.abs (yH l)⟩,⟨1,1,.abs (match CG ok xs.length with | none=>A xs.length | some k=>Z k)⟩]
def Ia_ (P:Program) (c:Code) (idx:List Nat) (nt:Nat) (e0:Exit):LF_:=fun vs w R=>∀a:Act,idx.map (fun i=>a.tmps.getD i Go.undef)=vs.toList->a.tmps.size=nt ->
 c.wpIn (wd none) 0 P (fun e a' w'=>e=e0/\(∃D,a'={ a with defers:={ target:= .collected D,args:= #[] }::a.defers }/\w.heap.size<=D/\w'.heap[D]? =some (.deferred (some [])))/\R (.tuple #[]) w') a w
theorem BK_ {cur:Fb} {M:List Nat} {h:Array Obj} {f:Nat->Value}:∀{sl:List (Nat×DVal)},AI cur M h (sl.map (·.2)) (sl.map fun p=>f p.1)->∀p∈sl,rd cur M h p.2 (f p.1)
 | [],_,p,hp=>by cases hp
 | q::sl,hr,p,hp=>by
  simp only[List.map_cons,AI]at hr;obtain⟨v,r,he,h1,h2⟩:=hr;simp only[bG0]at he;obtain⟨rfl,rfl⟩:=he
  rcases aJ0.1 hp with rfl | hp
  ·exact h1
  ·exact BK_ h2 p hp
theorem Fb_ {P:Program} {gt nt:Nat} {ps:Array Tmp} {assign body:Code} {f:FuncId} {us cs:List DVal} {xs:List (List DVal)} {ok:Nat->Bool} {sl:List (Nat×DVal)} {S Z:Nat->List Ent} {jc:Nat->Code} {T:List Ent} {e0:Exit}
  (hsl:Lj sl<=1) (hI:JK_ P f us cs xs ok) (vF:AR us=0/\AR cs=0) (rZ:(gt,.fn (.func f) us cs)∈sl) (hps:∀x∈xs,x.length=ps.size/\AR x=0) (hpn:∀p∈ps.toList,p<nt)
  (round:∀k x,xs[k]? =some x->(∀j,j<k->ok j=true)->∀B:Base,B.nt=nt->DW P B assign (RA P nt body (ok k) (if ok k then S (k+1)else Z k) (jc k)) ⟨UK ps.toList x sl,S k⟩)
  (hT:match CG ok xs.length with | none=>e0= .normal/\T=S xs.length | some k=>(jc k= .ret/\e0= .ret\/(∃id,jc k= .exit id/\e0= .exit id)\/(∃t,jc k= .goto t/\e0= .goto t))/\T=Z k) :
  JR_ (Ia_ P (.rangeFunc (.tmp gt) ps assign body) (sl.map (·.1)) nt e0) (sl.map (·.2)) (S 0) (.tup []) T:=by
 intro M w loc vs St0 hr a vU qX
 have fM:∀p∈sl,rd (Ae (S 0) loc) (Ab (S 0) loc++M) w.heap p.2 (a.tmps.getD p.1 Go.undef):=by
  refine BK_ (f:=fun i=>a.tmps.getD i Go.undef) ?_;rw[<-vU,cC0]at hr;exact hr
 have hg:=fM _ rZ;simp only[rd]at hg;obtain⟨us',cs',hv,vH,zS⟩:=hg;refine wpIn_rangeFunc ?_;intro fn hfn;obtain⟨rec,zI⟩:∃rec:Loop,rec={ state:= .ready,pending:=none,fn,tmps:=a.tmps,params:=ps,assign,body,defers:=w.heap.size }:=⟨_,rfl⟩;obtain⟨W1,bU⟩:∃W1,W1=(w.alloc (.deferred (some []))).alloc (.loop rec):=⟨_,rfl⟩;obtain⟨l,hl⟩:∃l,l=w.heap.size+1:=⟨_,rfl⟩;have hsz1:W1.heap.size=w.heap.size+2:=by rw[bU];simp
 have dI:∀b,b<w.heap.size->W1.heap[b]? =w.heap[b]? :=by
  intro b hb;rw[bU];simp only[World.alloc,bI0,Array.size_push];rw[if_neg (by omega),if_neg (by omega)]
 have hD1:W1.heap[w.heap.size]? =some (.deferred (some [])):=by
  rw[bU];simp only[World.alloc,bI0,Array.size_push];rw[if_neg (by omega)];simp
 have kY:W1.heap[l]? =some (.loop rec):=by
  rw[bU,hl];simp only[World.alloc,bI0,Array.size_push];simp
 have zW:=run_enterLoop_outer (P:=P) (w:=w) fn a.tmps ps assign body;rw[<-zI,<-bU,<-hl]at zW
 let A:Nat->Abs:=fun k=>Gm_ sl hsl (S k) a.tmps (S 0) loc l rec
 let Zs:Nat->Abs:=fun k=>Gm_ sl hsl (Z k) a.tmps (S 0) loc l { rec with state:= .done,pending:=some (jc k) }
 have hy:∀k x,xs[k]? =some x->(∀j,j<k->ok j=true)->YAt P l (A k) x (ok k) (if ok k then A (k+1)else Zs k):=by
  intro k x hx hj;have vN:=hps x (bH0 hx);have hY:=MY_ (hsl:=hsl) (own:=S k) (S:=if ok k then S (k+1)else Z k) (own0:=S 0) (loc0:=loc) (l:=l) (L:=rec) (tm:=a.tmps) (nt:=nt) (x:=x) (okk:=ok k) (j:=jc k) (by rw[zI]) (by rw[zI]) (by rw[zI]) qX (by rw[zI];exact vN.1) (by rw[zI];exact hpn) vN.2 (by rw[zI];exact round k x hx hj)
  cases hk:ok k with
  | true =>
   rw[hk]at hY;have e1:({ rec with state:=if true=true then .ready else .done,pending:=if true=true then none else some (jc k) }:Loop)=rec:=by rw[zI];rfl
   rw[e1]at hY;exact hY
  | false =>
   rw[hk]at hY;exact hY
 have hD:=hI l A Zs hy;have bJ:∀b∈Ab (S 0) loc,b<w.heap.size:=fun b hb=>St0.lt b (aN0 _ hb)
 let loc1:Nat->Loc:=fun i=>if i=0 then ⟨[],.func (.yield l) #[] #[]⟩else ⟨Ab (S 0) loc++[l],.func (.yield l) #[] #[]⟩
 have yP:Ab [⟨0,0,.abs (yH l)⟩,⟨1,0,.abs (A 0)⟩] loc1=Ab (S 0) loc++[l]:=by simp[Ab,loc1]
 have W1w:∀n,Weak (Ae (S 0) loc) (Ae (S 0) loc) (Ab (S 0) loc++M) (Ab (S 0) loc++[l]++M) w.heap W1.heap n:=fun n =>
  ⟨fun _ _ _ _ h=>h,fun b o _ (_:Hi o=true) ho=>by rw[dI b (aF0.1 ho).1];exact ho,fun b o hb (_:Hi o=true) ho hm=>by
   have qV:=(aF0.1 ho).1;simp only[aI0,aG0]at hm hb
   rcases hm with (hm | hm) | hm
   ·exact hb (.inl hm)
   ·omega
   ·exact hb (.inr hm)⟩
 have St1:St [⟨0,0,.abs (yH l)⟩,⟨1,0,.abs (A 0)⟩] loc1 M W1.heap:=by
  refine⟨by simp,?_,?_,?_,?_⟩
  ·rw[yP,bV0];exact⟨St0.bl,by simp,fun b hb b' qD=>by simp only[aG0]at qD;have:=bJ b hb;omega⟩
  ·rw[yP];intro b hb hm
   rcases aI0.1 hb with hb | hb
   ·exact St0.ap b hb hm
   ·simp only[aG0]at hb;have:=St0.lt b (aP0 _ hm);omega
  ·rw[yP];intro b hb;simp only[aI0,aG0]at hb
   rcases hb with (hb | hb) | hb
   ·have:=bJ b hb;omega
   ·omega
   ·have:=St0.lt b (aP0 _ hb);omega
  ·intro e he;simp only[aJ0,eD0,or_false]at he
   rcases he with rfl | rfl
   ·exact⟨rfl,rfl⟩
   ·refine⟨rfl,loc,rfl,St0.nd,fun e he=> ?_,fun p hp=> ?_,kY,fun e he _=>AV St0.nd he⟩
    ·rw[yP];exact Bp (W1w _) (Nat.le_refl _) (fun b o hb ho=>by rw[dI b (aF0.1 ho).1];exact ho) (St0.ok e he)
    ·rw[yP];exact Cu (W1w _) _ _ (Nat.le_refl _) (fM p hp)
 have W1z:Weak (Ae (S 0) loc) (Ae [⟨0,0,.abs (yH l)⟩,⟨1,0,.abs (A 0)⟩] loc1) (Ab (S 0) loc++M) (Ab [⟨0,0,.abs (yH l)⟩,⟨1,0,.abs (A 0)⟩] loc1++M) w.heap W1.heap 0:=by
  rw[yP];exact⟨fun _ _ _ h=>by omega,(W1w 0).b,(W1w 0).m⟩
 have fR:=hD.2.2 M W1 loc1 (us'++ #[.func (.yield l) #[] #[]]++cs') St1 (by
  have e1:(us'++ #[Value.func (.yield l) #[] #[]]++cs').toList=us'.toList++Value.func (.yield l) #[] #[]::cs'.toList:=by simp
  rw[e1];refine Cr _ _ _ _ (Bd W1z _ _ (dO0 vF.1) vH) ?_;simp only[AI];refine⟨_,_,rfl,?_,Bd W1z _ _ (dO0 vF.2) zS⟩;simp only[rd];intro lc hlc;have:Ae [⟨0,0,.abs (yH l)⟩,⟨1,0,.abs (A 0)⟩] loc1 0 0=some (loc1 0):=rfl;rw[this]at hlc;simp only[aA0]at hlc;rw[<-hlc]
  rfl)
 have kS:a.eval (.tmp gt)= .func (.func f) us' cs':=hv;refine⟨l,[{ target:= .collected w.heap.size,args:= #[] }],W1,{ target:= .fn (.func f) cs',args:=us'++ #[.func (.yield l) #[] #[]] },W1,f,us'++ #[.func (.yield l) #[] #[]]++cs',W1,zW,?_,fun _ _=>trivial,?_,fun h=>by simp[wd]at h,?_⟩
 ·simp only[resolve,rangeCall,kS];simp[Deferred.ofValue,Act.eval]
 ·simp only[invoke];exact fR.1 _ _
 ·refine(TU none _ fR.2).mono ?_;rintro e w2 ⟨v,rfl,loc2,S2,hu,wD,zV,_⟩;have hk:=S2.ok _ (aC0 _ aE0);have zQ:=S2.ok _ aE0;have qR:(loc2 0).blks=[]:=zQ.1
  -- what is known behind, by the loop's state
  have main:∀(L:Loop) (T':List Ent),(Gm_ sl hsl T' a.tmps (S 0) loc l L).J (Ab [⟨0,0,.abs (yH l)⟩,⟨1,1,.abs (match CG ok xs.length with | none=>A xs.length | some k=>Zs k)⟩] loc2++M) (loc2 1).blks (loc2 1).hdr w2.heap->L.state≠ .busy ->
    (Instr.endLoop l).run P w2= .ok L.pending (w2.putObj l (.loop { L with state:= .exhausted }))/\(∃D,({ a with defers:=[{ target:= .collected w.heap.size,args:= #[] }]++a.defers }:Act)={ a with defers:={ target:= .collected D,args:= #[] }::a.defers }/\w.heap.size<=D/\(w2.putObj l (.loop { L with state:= .exhausted })).heap[D]? =some (.deferred (some []))) /\
    ∃loc',St T' loc' M (w2.putObj l (.loop { L with state:= .exhausted })).heap/\Upd (Ab (S 0) loc) w (w2.putObj l (.loop { L with state:= .exhausted }))/\(∀b∈Ab T' loc',b∈Ab (S 0) loc\/w.heap.size<=b) /\
     (∀e∈T',e.r<1->Ae (S 0) loc e.id e.r=some (loc' e.id))/\rd (Ae T' loc') (Ab T' loc'++M) (w2.putObj l (.loop { L with state:= .exhausted })).heap (.tup []) (.tuple #[]):=by
   rintro L T' ⟨_,loc3,gN,hnd3,hob3,hsl3,kM,hver3⟩ hbusy
   have jI:Ab [⟨0,0,.abs (yH l)⟩,⟨1,1,.abs (match CG ok xs.length with | none=>A xs.length | some k=>Zs k)⟩] loc2=Ab T' loc3++[l]:=by
    simp[Ab,qR];simpa[Ab]using gN
   obtain⟨w4,gV⟩:∃w4,w4=w2.putObj l (.loop { L with state:= .exhausted }):=⟨_,rfl⟩;rw[<-gV];have qB:=run_endLoop (P:=P) kM hbusy;rw[<-gV]at qB;have nM:w4.heap.size=w2.heap.size:=by rw[gV];exact FJ _ _ _
   have jF:∀b,b≠l->w4.heap[b]? =w2.heap[b]? :=fun b hb=>by rw[gV];exact World.putObj_heap_other hb
   rw[yP]at hu
   have bM:l∉Ab T' loc3:=by
    have:=S2.bl;rw[jI,bV0]at this;exact fun hm=>this.2.2 l hm l (by simp) rfl
   refine⟨qB,⟨w.heap.size,rfl,Nat.le_refl _,?_⟩,loc3,?_,?_,?_,hver3,?_⟩
   ·rw[jF _ (by omega),hu.blk _ (by omega) (fun h=>by
     simp only[aI0,aG0]at h
     rcases h with h | h
     ·have:=bJ _ h;omega
     ·omega)]
    exact hD1
   ·have kN:∀b∈Ab T' loc3,b∈Ab T' loc3++[l]:=fun b hb=>aN0 _ hb
    have hd4:∀(b:Nat) (o:Obj),Hi o=true->w2.heap[b]? =some o->w4.heap[b]? =some o:=by
     intro b o ho hb;rw[jF b (fun he=>by subst he;rw[kM]at hb;simp only[aA0]at hb;subst hb;simp[Hi]at ho)];exact hb
    refine⟨hnd3,?_,fun b hb=>S2.ap b (by rw[jI];exact kN b hb),fun b hb=> ?_,fun e he=> ?_⟩
    ·have:=S2.bl;rw[jI,bV0]at this;exact this.1
    ·rw[nM];refine S2.lt b ?_;rw[jI]
     rcases aI0.1 hb with hb | hb
     ·exact aN0 _ (kN b hb)
     ·exact aP0 _ hb
    ·have h3:=hob3 e he;rw[jI]at h3;refine Bp (n:=Fp e.obj) ⟨fun _ _ _ _ h=>h,fun b o _ (h1:Hi o=true) h2=>hd4 b o h1 h2,fun b o hb (_:Hi o=true) _ hm=>hb ?_⟩ (Nat.le_refl _) (fun b o hb ho=>by rw[jF b (fun h=>bM (h▸Bm he hb))];exact ho) h3
     rcases aI0.1 hm with hm | hm
     ·exact aN0 _ (kN b hm)
     ·exact aP0 _ hm
   ·have U1:Upd (Ab (S 0) loc) w W1:=⟨by rw[bU];rfl,by rw[bU];rfl,by rw[bU];rfl,fun _=>by rw[bU];exact Nat.le_refl _,by omega,fun b hb _=>dI b hb⟩
    have U2:Upd (Ab (S 0) loc) w w2:=U1.trans hu (fun x hx=>by
     simp only[aI0,aG0]at hx
     rcases hx with hx | hx
     ·exact .inl hx
     ·exact .inr (by omega))
    have U3:Upd [l] w2 w4:=by
     rw[gV];exact⟨rfl,rfl,rfl,fun _=>Nat.le_refl _,by rw[FJ];exact Nat.le_refl _,fun b _ hb=>World.putObj_heap_other (fun h=>hb (by simp[h]))⟩
    exact U2.trans U3 (fun x hx=> .inr (by simp only[aG0]at hx;omega))
   ·intro b hb;have hbm:b∈Ab [⟨0,0,.abs (yH l)⟩,⟨1,1,.abs (match CG ok xs.length with | none=>A xs.length | some k=>Zs k)⟩] loc2:=by rw[jI];exact aN0 _ hb
    rcases wD b hbm with h | h
    ·rw[yP]at h;simp only[aI0,aG0]at h
     rcases h with h | h
     ·exact .inl h
     ·exact .inr (by omega)
    ·exact .inr (by omega)
   ·simp only[rd];exact⟨#[],rfl,by simp[AI]⟩
  clear wD zV
  cases qL:CG ok xs.length with
  | none =>
   rw[qL]at hT;obtain⟨rfl,rfl⟩:=hT
   have zZ:(A xs.length).J (Ab [⟨0,0,.abs (yH l)⟩,⟨1,1,.abs (match CG ok xs.length with | none=>A xs.length | some k=>Zs k)⟩] loc2++M) (loc2 1).blks (loc2 1).hdr w2.heap:=by
    have h:=hk;simp only[KW]at h
    generalize hF:(match CG ok xs.length with | none=>A xs.length | some k=>Zs k)=F at h |-
    rw[qL]at hF;simp only at hF;subst hF;exact h
   obtain⟨h1,h2,h3⟩:=main rec _ zZ (by rw[zI];simp);refine⟨_,_,h1,?_⟩;rw[zI];simp only;rw[zI]at h2 h3;exact⟨trivial,h2,h3⟩
  | some k =>
   rw[qL]at hT;obtain⟨hj,rfl⟩:=hT
   have zZ:(Zs k).J (Ab [⟨0,0,.abs (yH l)⟩,⟨1,1,.abs (match CG ok xs.length with | none=>A xs.length | some k=>Zs k)⟩] loc2++M) (loc2 1).blks (loc2 1).hdr w2.heap:=by
    have h:=hk;simp only[KW]at h
    generalize hF:(match CG ok xs.length with | none=>A xs.length | some k=>Zs k)=F at h |-
    rw[qL]at hF;simp only at hF;subst hF;exact h
   obtain⟨h1,h2,h3⟩:=main _ _ zZ (by simp);refine⟨_,_,h1,?_⟩;simp only
   rcases hj with ⟨hj,rfl⟩ | ⟨id,hj,rfl⟩ | ⟨t,hj,rfl⟩
   ·rw[hj]at h2 h3 |-;exact wpIn_ret ⟨rfl,h2,h3⟩
   ·rw[hj]at h2 h3 |-;exact wpIn_exit ⟨rfl,h2,h3⟩
   ·rw[hj]at h2 h3 |-;exact wpIn_goto ⟨rfl,h2,h3⟩
theorem YI {P:Program} {B:Base} {Q:Exit->DS->Prop} {s:DS} {gt nt:Nat} {ps:Array Tmp} {assign body:Code} {f:FuncId} {us cs:List DVal} {xs:List (List DVal)} {ok:Nat->Bool} (ρ ν:List (Nat×Nat)) (sl:List (Nat×DVal)) (S Z:Nat->List Ent) (jc:Nat->Code) (T:List Ent) (e0:Exit)
  (hI:JK_ P f us cs xs ok) (hB:B.nt=nt/\B.ro=none) (hsl:Lj sl<=1) (vF:AR us=0/\AR cs=0) (rZ:(gt,.fn (.func f) us cs)∈sl) (hps:∀x∈xs,x.length=ps.size/\AR x=0) (hpn:∀p∈ps.toList,p<nt)
  (wM:Mo s.own (Ca s.own (Ej ρ)) (Ej ρ)=some (S 0)/\Yb s.own ρ/\(XD (sl.map fun p=>Bq s.slots p.1)/\WL ((sl.map fun p=>Bq s.slots p.1).map (HG (Ca s.own (Ej ρ)))) (sl.map (·.2)))/\(((ρ++ν).map (·.1)).Nodup/\(ρ.map (·.2)).Nodup))
  (round:∀k x,xs[k]? =some x->(∀j,j<k->ok j=true)->∀B:Base,B.nt=nt->DW P B assign (RA P nt body (ok k) (if ok k then S (k+1)else Z k) (jc k)) ⟨UK ps.toList x sl,S k⟩)
  (hT:match CG ok xs.length with | none=>e0= .normal/\T=S xs.length | some k=>(jc k= .ret/\e0= .ret\/(∃id,jc k= .exit id/\e0= .exit id)\/(∃t,jc k= .goto t/\e0= .goto t))/\T=Z k)
  (hTo:XC T)
  (hk:∀r,match IG (DN s.own ρ ν r) T with
   | some l=>((Bo s.own ((ρ++ν).map (·.1))++l).map (·.id)).Nodup/\Q e0 ⟨s.slots,Bo s.own ((ρ++ν).map (·.1))++l⟩
   | none=>False):DW P B (.rangeFunc (.tmp gt) ps assign body) Q s:=by
 intro a w loc R;have h:=hk (Co B s)
 split at h
 rotate_left
 ·exact h.elim
 rename_i l hl;obtain⟨hnd,hQ⟩:=h
 have hC:∀vs w (R R':Value->World->Prop),(∀v w',R v w'->R' v w')->Ia_ P (.rangeFunc (.tmp gt) ps assign body) (sl.map (·.1)) nt e0 vs w R->Ia_ P (.rangeFunc (.tmp gt) ps assign body) (sl.map (·.1)) nt e0 vs w R' :=
  fun vs w R R' h hc a h1 h2=>wpIn_mono (hc a h1 h2) (fun e a' w' ⟨k1,k2,k3⟩=>⟨k1,k2,h _ _ k3⟩)
 have hS:=tK hC ρ ν (Fb_ hsl hI vF rZ hps hpn round hT) wM.1 wM.2.1 wM.2.2.1 wM.2.2.2 hl hTo (by simp[XE,ZP]) hnd;have qF:Co B s=max B.N (max (Lj s.slots) (Hj s.own)):=rfl
 have hw:=hS B.M0 w loc ((sl.map fun p=>a.tmps.getD p.1 Go.undef).toArray) (by omega) R.st (by
  have key:∀l:List (Nat×DVal),AI (Ae s.own loc) (Ab s.own loc++B.M0) w.heap (l.map fun p=>Bq s.slots p.1) (l.map fun p=>a.tmps.getD p.1 Go.undef):=by
   intro l
   induction l with
   | nil=>simp[AI]
   | cons p l ih=>simp only[List.map_cons,AI];exact⟨_,_,rfl,R.sl p.1,ih⟩
  simpa using key sl) a (by simp) (by rw[R.nt];exact hB.1)
 rw[hB.2];refine wpIn_mono hw ?_;rintro e a' w' ⟨rfl,⟨D,rfl,hD1,pG⟩,loc',St',hu,wD,zV,_⟩;have R':=R.step (dst:=none) (v:=Go.undef) (d:= .any) (n:=Co B s) (by omega) (by omega) (fun i hi=>by simp at hi) St' hu wD zV (by simp[rd]);refine⟨_,loc',hQ,⟨R'.st,R'.upd,R'.new,R'.ver,R'.sl,R'.nt,?_⟩⟩;obtain⟨rs,h1,h2,h3,h4⟩:=R.df;obtain⟨rs',g1,g2,g3,g4⟩:=R'.df;have cQ:∀r∈rs,r<w.heap.size:=fun r hr=>(aF0.1 (h3 r hr).1).1
 refine⟨D::rs,by simp[h1],?_,?_,fun h=>absurd hB.2 h⟩
 ·rw[cS0];exact⟨fun hm=>by have:=cQ D hm;omega,h2⟩
 ·intro r hr
  rcases aJ0.1 hr with rfl | hr
  ·refine⟨pG,Nat.le_trans B.hnd (Nat.le_trans R.upd.size hD1),fun hm=> ?_⟩
   rcases aI0.1 hm with hm | hm
   ·obtain⟨e,he,hb⟩:=bT0.1 hm;exact HG_ (St'.ok e he) _ hb _ pG
   ·have:=R.st.lt r (aP0 _ hm);omega
  ·obtain⟨k1,k2,k3⟩:=h3 r hr;have qV:=cQ r hr;refine⟨?_,k2,fun hm=> ?_⟩
   ·rw[hu.blk r qV (fun hm=>k3 (aN0 _ hm))];exact k1
   ·rcases aI0.1 hm with hm | hm
    ·rcases wD r hm with h | h
     ·exact k3 (aN0 _ h)
     ·omega
    ·exact k3 (aP0 _ hm)
def yOK (own:List Ent) (id r' l:Nat) (A:Abs):Prop:=match Ar own id,Ar own (id+1)with
 | some e0,some e=>e0.r=r'/\e0.obj= .abs (yH l)/\e.obj= .abs A
 | _,_=>False
theorem NS {P:Program} {id r' l:Nat} {args:List DVal} {own:List Ent} {K:ContE} {A A':Abs} {b:Bool} (hY:YAt P l A args b A') (wM:yOK own id r' l A/\AR args=0)
  (hk:∀r,K.f (.bool b) (upE own (id+1) r (.abs A'))):Jb_ P id r' args own K:=by
 obtain⟨h,hm⟩:=wM;unfold yOK at h
 split at h
 ·rename_i e0 e h1 h2;exact⟨e0,l,e,A,A',b,h1,h.1,h.2.1,h2,h.2.2,hm,hY,hk⟩
 ·exact h.elim
theorem Ka {ok:Nat->Bool}:∀{n k:Nat},k<n->(∀j,j<k->ok j=true)->ok k=false->CG ok n=some k
 | n+1,k,hk,hj,ho=>by
  simp only[CG]
  by_cases h:k<n
  ·rw[Ka h hj ho]
  ·have:k=n:=by omega
   subst this
   have:CG ok k=none:=by
    have key:∀m,m<=k->CG ok m=none:=by
     intro m
     induction m with
     | zero=>intro _;rfl
     | succ m ih=>intro hm;simp only[CG,ih (by omega),hj m (by omega),if_true]
    exact key k (Nat.le_refl _)
   rw[this,ho];rfl
theorem Kb {ok:Nat->Bool}:∀{n:Nat},(∀j,j<n->ok j=true)->CG ok n=none
 | 0,_=>rfl
 | n+1,hj=>by simp only[CG,Kb (n:=n) (fun j h=>hj j (by omega)),hj n (by omega),if_true]
attribute [simp] yOK RA RQ UK
end Go.Dm
end
section
namespace Go.Proofs.Wy
open Go Go.Dm Tryz
variable [DMode]
attribute [local irreducible] DW Bi Bk Jb_ RB Dm.Sub
set_option maxRecDepth 100000
def CC (x:Nd):Bool:=decide (x.k=2)||decide (x.k=3)
def HF_ (l:List Nd) (j:Nat):Option (Nat×ByteArray):=match l[j]? with
 | some p=>if CC p=true then some (j,p.s)else none
 | none=>none
def Cz (l:List Nd) (n:Nat):List (Nat×ByteArray):=(List.range n).filterMap (HF_ l)
def Yp (x:Nat×ByteArray):List DVal:=[.int .i64 x.1,.str x.2]
theorem Mp {l:List Nd} {n:Nat} {p:Nd} (h:l[n]? =some p):Cz l (n+1)=Cz l n++(if CC p=true then [(n,p.s)]else []):=by
 simp only[Cz,dF0,List.filterMap_append,List.filterMap_cons,List.filterMap_nil,HF_,h]
 by_cases hp:CC p=true<;>simp[hp]
theorem ZQ {l:List Nd} {n m:Nat} (h:n<=m):∃r,Cz l m=Cz l n++r:=by
 obtain⟨d,rfl⟩:∃d,m=n+d:=⟨m-n,by omega⟩;exact⟨((List.range d).map (n+ ·)).filterMap (HF_ l),by simp only[Cz,List.range_add,List.filterMap_append]⟩
theorem ZS {l:List Nd} {n m:Nat} {p:Nd} (h:l[n]? =some p) (hp:CC p=true) (hm:n<m):(Cz l m)[(Cz l n).length]? =some (n,p.s):=by
 obtain⟨r,hr⟩:=ZQ (l:=l)  (show n+1<=m from hm);rw[hr,Mp h,if_pos hp];simp
theorem ZR {l:List Nd} {n m:Nat} {p:Nd} (h:l[n]? =some p) (hp:CC p=true) (hm:n<m):(Cz l n).length<(Cz l m).length:=(aB0.1 (ZS h hp hm)).1
def oW : Ann:=⟨[],[]⟩
def JA : Ann:=⟨[5],[]⟩
theorem Qb (l:List Nd):Ad prog 112 [BC l] (BC l):=by
 match l with
 | [] =>
  refine Ux [] ?_ ?_
  ·refine Ac [7] oW func112 call112 ntmps112 mxd (Aq @oW.eq_1 results112) rfl (fun qJ B qX qQ=> ?_) (hd:=(by simp[mx,Bx]));simp only[Am,List.nil_append,BC,List.map_cons];exact Au Aa Aa Aa
  ·refine Ac [7,5] JA func112 call112 ntmps112 mxd (Aq @JA.eq_1 results112) rfl (fun qJ B qX qQ=> ?_) (hd:=(by simp[mx,Bx]));simp only[Am,List.nil_append,BC,List.map_cons];exact Au Aa Aa Aa
 | s::l =>
  refine Ac [7,5] JA func112 call112 ntmps112 mxd (Aq @JA.eq_1 results112) rfl (fun qJ B qX qQ=> ?_) (hd:=(by simp[mx,Bx]));have qH:(s::l).length*32<=150000000000000:=by have:=qJ.1;simp only[EI,aL0]at this;exact this.1
  clear qJ;have z2:(s::l).length<=9223372036854775807:=by omega
  simp only[List.length_cons]at qH z2;simp only[Am,List.nil_append,BC,List.map_cons];exact Au Aa Aa (Aq qH z2)
def IQ : Ann:=⟨[25],[⟨2,[4],[],[]⟩]⟩
theorem XL (l:List Nd) (ok:Nat->Bool):JK_ prog 264 [] [.ref [BC l]] ((Cz l l.length).map Yp) ok:=by
 intro lb A Z hY;refine Bj [] [(0,0,0),(1,1,1)] IQ func264 call264 ntmps264 mxd (Aq @IQ.eq_1 results264) rfl (fun qJ B qX qQ=> ?_);have pD:l.length<9223372036854775807:=QS (by simpa[IZ,EI]using qJ);clear qJ;simp only[Am,List.nil_append]
 (refine AM Aa Aa Aa ?_;intros;refine Aj ?_)
 refine Ak (X:={k:Nat//k<=l.length/\∀j,j<(Cz l k).length->ok j=true}) (fun k=>⟨[(0,.pk 0 0),(5,BC l),(6,.int .i64 l.length),(7,.int .i64 k.1)],[⟨0,0,.abs (yH lb)⟩,⟨1,1,.abs (A (Cz l k.1).length)⟩]⟩) (fun k=>l.length-k.1) ⟨0,by simp[Cz]⟩ (Sub.lit (by simp[Cz])) ?_;rintro⟨k,hk,hj⟩
 by_cases qV:k<l.length
 ·obtain⟨p,hp,qN,zU⟩:=Aw qV;have hs:=Mp hp
  by_cases hh:CC p=true
  ·have hx:=hY (Cz l k).length (Yp (k,p.s)) (by rw[bN0,ZS hp hh qV];rfl) hj;rw[if_pos hh]at hs;have hkd:p.k=2\/p.k=3:=by unfold CC at hh;simpa using hh
   have cW:∀j,j<(Cz l (k+1)).length->ok (Cz l k).length=true->ok j=true:=by
    rw[hs];intro j cP qY;simp at cP
    by_cases hjk:j=(Cz l k).length
    ·subst hjk;exact qY
    ·exact hj j (by omega)
   rcases hkd with hkd | hkd
   ·(refine AM Aa Aa (Ja @Cf.eq_1 qV hp qN hkd) ?_;intros;refine Aj ?_)
    cases qY:ok (Cz l k).length
    ·rw[qY]at hx;refine NS hx (by simp[Yp]) (fun r=> ?_);have qL:=Ka (ZR hp hh qV) hj qY;simp[qX,results264,IQ,qL];exact Au Aa Aa (AA qL)
    ·rw[qY]at hx;refine NS hx (by simp[Yp]) (fun r=> ?_);simp[qX,results264,IQ]
     (refine AM Aa Aa Aa ?_;intros;refine Aj ?_)
     refine Al.mk ⟨k+1,by omega,fun j cP=>cW j cP qY⟩ (Sub.lit (by simp[hs])) (by simp;omega)
     skip
   ·(refine AM Aa Aa (Ja @Cf.eq_1 qV hp qN hkd) ?_;intros;refine Aj ?_)
    cases qY:ok (Cz l k).length
    ·rw[qY]at hx;refine NS hx (by simp[Yp]) (fun r=> ?_);have qL:=Ka (ZR hp hh qV) hj qY;simp[qX,results264,IQ,qL];exact Au Aa Aa (AA qL)
    ·rw[qY]at hx;refine NS hx (by simp[Yp]) (fun r=> ?_);simp[qX,results264,IQ]
     (refine AM Aa Aa Aa ?_;intros;refine Aj ?_)
     refine Al.mk ⟨k+1,by omega,fun j cP=>cW j cP qY⟩ (Sub.lit (by simp[hs])) (by simp;omega)
     skip
  ·rw[if_neg hh,bR0]at hs;have h2:¬p.k=2:=fun e=>hh (by unfold CC;simp[e])
   have h3:¬p.k=3:=fun e=>hh (by unfold CC;simp[e])
   have jG:(p.k==2)=false:=by simpa using h2
   have h3':(p.k==3)=false:=by simpa using h3
   (refine AM Aa Aa (ML @Cf.eq_1 qV hp qN h2 h3 jG h3') ?_;intros;refine Aj ?_)
   refine Al.mk ⟨k+1,by omega,by rw[hs];exact hj⟩ (Sub.lit (by simp[hs])) (by simp;omega)
   skip
 ·have qZ:k=l.length:=by omega
  subst qZ;have qL:=Kb hj;exact Au Aa Aa (AA qL)
def oV : Ann:=⟨[1],[⟨1,[1],[],[]⟩]⟩
theorem XM (l:List Nd):Ad prog 183 [BC l] (.fn (.func 264) [] [.ref [BC l]]):=by
 refine Ac [] oV func183 call183 ntmps183 mxd (Aq @oV.eq_1 results183) rfl (fun qJ B qX qQ=> ?_) (hd:=(by simp[mx,AR]));clear qJ;simp only[Am];have h1:=Qb l;exact Au (AA h1) Aa Aa
def GM (l:List Nd):Nat:=(Cz l l.length).length
def oX : Ann:=⟨[],[]⟩
theorem Sx (l:List Nd):Ad prog 103 [BC l] (.int .i64 (GM l)):=by
 refine Ac [] oX func103 call103 ntmps103 mxd (Aq @oX.eq_1 results103) rfl (fun qJ B qX qQ=> ?_);have pD:=QS qJ.1;clear qJ;simp only[Am];have h1:=XM l
 (refine AM (AA h1) Aa Aa ?_;intros;refine Aj ?_)
 have hI:=XL l (fun _=>true);have qL:CG (fun _:Nat=>true) (Cz l l.length).length=none:=Kb fun _ _=>rfl
 have hocc:∀x∈(Cz l l.length).map Yp,x.length=2/\AR x=0:=by
  intro x hx;obtain⟨y,_,rfl⟩:=aR0.1 hx;exact⟨rfl,by simp[Yp,mx]⟩
 have qU:(Cz l l.length).length<=l.length:=by
  simp only[Cz];exact Nat.le_trans (List.length_filterMap_le _ _) (by simp)
 refine YI (nt:=11) [(3,3)] [] [(0,BC l),(3,.bx 3 0 0),(5,.fn (.func 264) [] [.ref [BC l]])]
  (fun k=>[⟨3,0,.box [.int .i64 (k:Int)]⟩]) (fun k=>[⟨3,0,.box [.int .i64 (k:Int)]⟩]) (fun _=> .ret) [⟨3,0,.box [.int .i64 (GM l:Int)]⟩] .normal
  hI (by simp[qX]) (by simp[Lj]) (by simp) (bH0 (i:=2) rfl) hocc (by simp) ?_ ?_ ?_ ?_ ?_
 ·simp
 ·intro k x hx hj B1 qX;rw[bN0,bC0]at hx;obtain⟨⟨j,s⟩,hy,rfl⟩:=hx;have yJ:k<(Cz l l.length).length:=(aB0.1 hy).1;have hw:IntKind.i64.wrap ((k:Int)+1)=(k:Int)+1:=wq;simp only[Array.toList,UK]
  (refine AM Aa Aa Aa ?_;intros;refine Aj ?_)
  refine Oi_ fun B2 qX=> ?_
  (refine AM Aa Aa (Aq @Yp.eq_1 hw) ?_;intros;refine Aj ?_)
  refine Sub.lit ?_;simp
 ·simp only[aL0,qL];exact⟨trivial,rfl⟩
 ·simp
 ·intro r;simp;exact Au Aa Aa Aa
end Go.Proofs.Wy
end
section
namespace Go.Proofs.Wy
open Go Go.Dm Tryz
variable [DMode]
attribute [local irreducible] DW Bi Bk
set_option maxRecDepth 100000
def lS : Ann:=⟨[],[]⟩
theorem ZN (a b c:Int):Ad prog 188 [.sl 1 8 [[.int .i64 a],[.int .i64 b],[.int .i64 c]]] (.int .i64 (if a=0 then (if b=0 then c else b)else a)):=by
 refine Ac [] lS func188 call188 ntmps188 mxd (Aq @lS.eq_1 results188) rfl (fun qJ B qX qQ=> ?_);simp only[Am]
 (refine AM Aa Aa Aa ?_;intros;refine Aj ?_)
 refine Ak (X:={k:Nat//k<=3/\(0<k->a=0)/\(1<k->b=0)/\(2<k->c=0)}) (fun k=>⟨[(3,.int .i64 0),(6,.sl 1 8 [[.int .i64 a],[.int .i64 b],[.int .i64 c]]),(7,.int .i64 3),(8,.int .i64 k.1)],[]⟩) (fun k=>3-k.1) ⟨0,by simp⟩ (Sub.lit (by simp)) ?_;rintro⟨k,hk,ha,hb,hc⟩
 match k,hk,ha,hb,hc with
 | 0,_,_,_,_ =>
  by_cases h:a=0
  ·(refine AM Aa Aa (AA h) ?_;intros;refine Aj ?_)
   refine Al.mk ⟨1,by simp[h]⟩ (Sub.lit (by simp)) (by simp)
   skip
  ·have h':(a != 0)=true:=by simpa using h
   exact Au Aa Aa (Aq h h')
 | 1,_,ha,_,_ =>
  have ha:=ha (by omega)
  by_cases h:b=0
  ·(refine AM Aa Aa (AA h) ?_;intros;refine Aj ?_)
   refine Al.mk ⟨2,by simp[h,ha]⟩ (Sub.lit (by simp)) (by simp)
   skip
  ·have h':(b != 0)=true:=by simpa using h
   exact Au Aa Aa (Ez h h' ha)
 | 2,_,ha,hb,_ =>
  have ha:=ha (by omega);have hb:=hb (by omega)
  by_cases h:c=0
  ·(refine AM Aa Aa (AA h) ?_;intros;refine Aj ?_)
   refine Al.mk ⟨3,by simp[h,ha,hb]⟩ (Sub.lit (by simp)) (by simp)
   skip
  ·have h':(c != 0)=true:=by simpa using h
   exact Au Aa Aa (EU h h' ha hb)
 | 3,_,ha,hb,hc =>
  have ha:=ha (by omega);have hb:=hb (by omega);have hc:=hc (by omega);exact Au Aa Aa (Ez ha hb hc)
def Ci {α:Type} (e:α->α->Bool) (p:α):List α->List α
 | []=>[]
 | y::l=>if e y p then Ci e y l else y::Ci e y l
def BA {α:Type} (e:α->α->Bool):List α->List α
 | []=>[]
 | x::l=>x::Ci e x l
theorem PY {α:Type} {e:α->α->Bool} {y:α}:∀{l:List α} {p:α},Ci e p (l++[y])=Ci e p l++(if e y (l.getLast?.getD p)then []else [y])
 | [],p=>by by_cases h:e y p<;>simp[Ci,h]
 | x::l,p=>by
  have h:=PY (e:=e) (y:=y) (l:=l) (p:=x)
  have h2:(x::l).getLast?.getD p=l.getLast?.getD x:=by
   cases l with
   | nil=>rfl
   | cons z l=>simp[List.getLast?_cons_cons,List.getLast?_eq_some_getLast]
  rw[h2];simp only[List.cons_append,Ci]
  split
  ·exact h
  ·rw[h];rfl
theorem Jv {α:Type} {e:α->α->Bool} {l:List α} {k:Nat} {x y:α} (h0:0<k) (hx:l[k-1]? =some x) (hy:l[k]? =some y):BA e (l.take (k+1))=BA e (l.take k)++(if e y x then []else [y]):=by
 rw[bF0,hy]
 obtain⟨z,t,hz⟩:∃z t,l.take k=z::t:=by
  cases h:l.take k with
  | nil =>
   have h1:=congrArg List.length h;have:=(aB0.1 hy).1;rw[bE0]at h1;simp only[List.length_nil]at h1;omega
  | cons z t=>exact⟨z,t,rfl⟩
 have hl:(l.take k).getLast?=some x:=by
  rw[List.getLast?_eq_getElem?,eV0];have:=(aB0.1 hy).1;simp only[bE0];rw[show min k l.length-1=k-1 by omega,if_pos (by omega)];exact hx
 rw[hz]at hl |-
 have h2:t.getLast?.getD z=x:=by
  cases t with
  | nil=>simpa using hl
  | cons a t=>simpa[List.getLast?_cons_cons,List.getLast?_eq_some_getLast]using hl
 simp only[Option.toList_some,List.cons_append,BA,PY,h2]
def Fy (a b:Int):Int:=if a<b then -1 else if b<a then 1 else 0
def Gm {α:Type} (c:α->α->Int):List α->List α->Int
 | [],[]=>0
 | [],_::_=> -1
 | _::_,[]=>1
 | x::a,y::b=>if c x y=0 then Gm c a b else c x y
theorem Lq_ {α:Type} {c:α->α->Int} {a b:List α} {k:Nat} {x y:α} (hx:a[k]? =some x) (hy:b[k]? =some y):Gm c (a.drop k) (b.drop k)=if c x y=0 then Gm c (a.drop (k+1)) (b.drop (k+1))else c x y:=by
 obtain⟨h1,rfl⟩:=aB0.1 hx;obtain⟨h2,rfl⟩:=aB0.1 hy;rw[aW0 h1,aW0 h2,Gm]
theorem Lp_ {α:Type} {c:α->α->Int} {a b:List α} {k:Nat} (h1:k<a.length) (h2:b.length<=k):Gm c (a.drop k) (b.drop k)=1:=by
 rw[aW0 h1,dE0 h2,Gm]
theorem Lo_ {α:Type} {c:α->α->Int} {a b:List α} {k:Nat} (h1:a.length<=k):Gm c (a.drop k) (b.drop k)=if k<b.length then -1 else 0:=by
 rw[dE0 h1]
 split
 ·rename_i h;rw[aW0 h,Gm]
 ·rename_i h;rw[dE0 (by omega),Gm]
def lQ : Ann:=⟨[],[]⟩
theorem Fs (n:Int):Ad prog 276 [.int .i64 n] (.bool false):=by
 refine Ac [] lQ func276 call276 ntmps276 mxd (Aq @lQ.eq_1 results276) rfl (fun qJ B qX qQ=> ?_);simp only[Am];exact Au Aa Aa Aa
def lR : Ann:=⟨[],[]⟩
theorem Db (a b:Int):Ad prog 189 [.int .i64 a,.int .i64 b] (.int .i64 (Fy a b)):=by
 refine Ac [] lR func189 call189 ntmps189 mxd (Aq @lR.eq_1 results189) rfl (fun qJ B qX qQ=> ?_);simp only[Am]
 by_cases h1:a<b
 ·exact Au (Aq (Fs a) (Fs b)) Aa (Aq h1 @Fy.eq_1)
 ·by_cases h2:b<a
  ·exact Au (Aq (Fs a) (Fs b)) Aa (Ez h1 h2 @Fy.eq_1)
  ·exact Au (Aq (Fs a) (Fs b)) Aa (Ez h1 h2 @Fy.eq_1)
def JY (x y:Sym):Int:=if x.label=y.label then Fy x.n y.n else if x.label then 1 else -1
end Go.Proofs.Wy
end
section
namespace Go.Proofs.Wy
open Go Go.Dm Tryz
variable [DMode]
structure Arc where
 fr:Int
 sy:Sym
 to:Int
 deriving DecidableEq
def CO (x:Arc):List DVal:=[.int .i64 x.fr,.bool x.sy.label,.int .i64 x.sy.n,.int .i64 x.to]
abbrev Hw (l:List Arc):DVal:= .sl 4 32 (l.map CO)
def Cl (n:Int):List DVal:=[.int .i64 n]
abbrev Cg (l:List Int):DVal:= .sl 1 8 (l.map Cl)
def dBl (b:Bool):List DVal:=[.bool b]
structure Auto where
 st:Int
 fin:List Int
 arcs:List Arc
 deriving DecidableEq
def TC (a:Auto):List DVal:=[.int .i64 a.st,Cg a.fin,Hw a.arcs]
@[simp] theorem KK_ (s:Arc):AR (CO s)=0:=by simp[CO,AR,mx]
@[simp] theorem HQ_ (l:List Arc):Bx (l.map CO)=0:=Im _ KK_ l
@[simp] theorem KH_ (s:Int):AR (Cl s)=0:=by simp[Cl,AR,mx]
@[simp] theorem HN_ (l:List Int):Bx (l.map Cl)=0:=Im _ KH_ l
@[simp] theorem MD_ (s:Bool):AR (dBl s)=0:=by simp[dBl,AR,mx]
@[simp] theorem KJ_ (l:List Bool):Bx (l.map dBl)=0:=Im _ MD_ l
@[simp] theorem HP_ (a:Auto):AR (TC a)=0:=by simp[TC,AR,mx]
def stB (s q:Int):Bool:=decide (0<=q)&&decide (q<s)
def okF (s:Int) (l:List Int) (k:Nat):Bool:=match l[k]? with
 | none=>true
 | some q=>stB s q&&(decide (k=0)||match l[k-1]? with | none=>true | some p=>decide (p<q))
theorem HA_ {s:Int} {l:List Int} {q:Int} (h:l[0]? =some q):okF s l 0=stB s q:=by
 unfold okF;rw[h];simp
theorem Kr_ {s:Int} {l:List Int} {k:Nat} {p q:Int} (hk:0<k) (h:l[k]? =some q) (hp:l[k-1]? =some p):okF s l k=(stB s q&&decide (p<q)):=by
 unfold okF;rw[h];simp only[hp,show ¬k=0 by omega,decide_false,Bool.false_or]
def Ho (x y:Arc):Int:=if Fy x.fr y.fr=0 then (if JY x.sy y.sy=0 then Fy x.to y.to else JY x.sy y.sy)else Fy x.fr y.fr
def WZ (x y:Sym):Bool:=if x.label=y.label then decide (x.n<y.n)else y.label
def Rc (x y:Arc):Bool:=if x.fr=y.fr then (if x.sy=y.sy then decide (x.to<y.to)else WZ x.sy y.sy)else decide (x.fr<y.fr)
theorem Pl {a b:Int}:Fy a b=0↔a=b:=by unfold Fy;split<;>(try split)<;>omega
theorem TN {a b:Int}:Fy a b<0↔a<b:=by unfold Fy;split<;>(try split)<;>omega
theorem Vr {x y:Sym}:JY x y=0↔x=y:=by
 obtain⟨a,n⟩:=x;obtain⟨b,m⟩:=y;unfold JY;cases a<;>cases b<;>simp[Pl]
theorem uI (x y:Sym):WZ x y=decide (JY x y<0):=by
 obtain⟨a,n⟩:=x;obtain⟨b,m⟩:=y;unfold JY WZ;cases a<;>cases b<;>simp[TN]
theorem AY_ (x y:Arc):Rc x y=decide (Ho x y<0):=by
 unfold Rc Ho
 by_cases h1:x.fr=y.fr
 ·rw[if_pos h1,if_pos (Pl.2 h1)]
  by_cases h2:x.sy=y.sy
  ·rw[if_pos h2,if_pos (Vr.2 h2)];exact decide_eq_decide.2 TN.symm
  ·rw[if_neg h2,if_neg (fun h=>h2 (Vr.1 h)),uI]
 ·rw[if_neg h1,if_neg (fun h=>h1 (Pl.1 h))];exact decide_eq_decide.2 TN.symm
def Ww (s:Int) (x:Arc):Bool:=stB s x.fr&&(stB s x.to&&decide (0<=x.sy.n))
def okA (s:Int) (l:List Arc) (k:Nat):Bool:=match l[k]? with
 | none=>true
 | some q=>Ww s q&&(decide (k=0)||match l[k-1]? with | none=>true | some p=>Rc p q)
theorem HB_ {s:Int} {l:List Arc} {q:Arc} (h:l[0]? =some q):okA s l 0=Ww s q:=by
 unfold okA;rw[h];simp
theorem Ks_ {s:Int} {l:List Arc} {k:Nat} {p q:Arc} (hk:0<k) (h:l[k]? =some q) (hp:l[k-1]? =some p):okA s l k=(Ww s q&&Rc p q):=by
 unfold okA;rw[h];simp only[hp,show ¬k=0 by omega,decide_false,Bool.false_or]
def Hc (a:Auto):Bool:=decide (1<=a.st)&&decide (a.st<=65)&&((List.range a.fin.length).all (okF a.st a.fin)&&(List.range a.arcs.length).all (okA a.st a.arcs))
theorem Nl {a:Auto} (h:Hc a=true):1<=a.st/\a.st<=65:=by
 unfold Hc at h;simp only[aM0,decide_eq_true_eq]at h;exact h.1
theorem Hx_ {a:Auto} (h:Hc a=true) {q:Int} (hq:q∈a.fin):0<=q/\q<a.st:=by
 unfold Hc at h;simp only[aM0,aV0]at h;obtain⟨k,hk,rfl⟩:=bK0 hq;have:=h.2.1 k (cD0.2 hk);unfold okF stB at this;rw[aH0 hk]at this;simp only[aM0,decide_eq_true_eq]at this;exact this.1
theorem Hy_ {a:Auto} (h:Hc a=true) {x:Arc} (hx:x∈a.arcs):0<=x.fr/\x.fr<a.st/\0<=x.to/\x.to<a.st:=by
 unfold Hc at h;simp only[aM0,aV0]at h;obtain⟨k,hk,rfl⟩:=bK0 hx;have:=h.2.2 k (cD0.2 hk);unfold okA Ww stB at this;rw[aH0 hk]at this;simp only[aM0,decide_eq_true_eq]at this;exact⟨this.1.1.1,this.1.1.2,this.1.2.1.1,this.1.2.1.2⟩
def bAt (l:List Bool) (q:Int):Bool:=l[q.toNat]?.getD false
def stepG (fr:List Bool) (s:Sym) (to:List Bool) (x:Arc):List Bool:=if bAt fr x.fr&&decide (x.sy=s)then to.set x.to.toNat true else to
def bD (l:List Bool):List (List DVal):=l.map dBl
@[simp] theorem OZ_ (l:List Bool):Bx (bD l)=0:=KJ_ l
structure OrdC {α:Type} (c:α->α->Int):Prop where
 eq0:∀x y,c x y=0↔x=y
 anti:∀x y,c x y<0↔0<c y x
 trans:∀x y z,c x y<0->c y z<0->c x z<0
theorem OrdC.refl {α:Type} {c:α->α->Int} (h:OrdC c) (x:α):c x x=0:=(h.eq0 x x).2 rfl
theorem OrdC.nle {α:Type} {c:α->α->Int} (h:OrdC c) {x y:α}:¬c x y<0↔c y x<0\/x=y:=by
 have h1:=h.anti x y;have h2:=h.anti y x;have h3:=h.eq0 x y
 constructor
 ·intro hn
  by_cases h0:c x y=0
  ·exact .inr (h3.1 h0)
  ·exact .inl (h2.2 (by omega))
 ·rintro (h4 | rfl)
  ·have:=h2.1 h4;omega
  ·rw[h.refl];omega
theorem OrdC.ntrans {α:Type} {c:α->α->Int} (h:OrdC c) (x y z:α) (h1:¬c x y<0) (h2:¬c y z<0):¬c x z<0:=by
 rw[h.nle]at *
 rcases h1 with h1 | rfl
 ·rcases h2 with h2 | rfl
  ·exact .inl (h.trans _ _ _ h2 h1)
  ·exact .inl h1
 ·exact h2
theorem OrdC.le_anti {α:Type} {c:α->α->Int} (h:OrdC c) {x y:α} (h1:¬c x y<0) (h2:¬c y x<0):x=y:=by
 rcases h.nle.1 h1 with h1 | h1
 ·exact absurd h1 h2
 ·exact h1
theorem OrdC.total {α:Type} {c:α->α->Int} (h:OrdC c) (x y:α):¬c x y<0\/¬c y x<0:=by
 by_cases h1:c x y<0
 ·right;have:=(h.anti x y).1 h1;omega
 ·exact .inl h1
theorem Ev_ : OrdC Fy:=by
 refine⟨fun x y=> ?_,fun x y=> ?_,fun x y z=> ?_⟩<;>unfold Fy
 ·split
  ·constructor<;>intro h<;>omega
  ·split
   ·constructor<;>intro h<;>omega
   ·constructor<;>intro h<;>omega
 ·by_cases h1:x<y<;>by_cases h2:y<x<;>simp[h1,h2]<;>omega
 ·by_cases h1:x<y<;>by_cases h2:y<z<;>by_cases h3:x<z<;>simp[h1,h2,h3]<;>(try split)<;>(try split)<;>omega
def Ff_ {α β:Type} (c:α->α->Int) (d:β->β->Int) (x y:α×β):Int:=if c x.1 y.1=0 then d x.2 y.2 else c x.1 y.1
theorem Sq {α β:Type} {c:α->α->Int} {d:β->β->Int} (h:OrdC c) (k:OrdC d):OrdC (Ff_ c d):=by
 refine⟨fun x y=> ?_,fun x y=> ?_,fun x y z=> ?_⟩<;>unfold Ff_
 ·obtain⟨x1,x2⟩:=x;obtain⟨y1,y2⟩:=y;simp only[_root_.Prod.mk.injEq]
  split
  ·rename_i h0;rw[k.eq0];exact⟨fun hh=>⟨(h.eq0 _ _).1 h0,hh⟩,fun hh=>hh.2⟩
  ·rename_i h0;exact⟨fun hh=>absurd hh h0,fun hh=>absurd ((h.eq0 _ _).2 hh.1) h0⟩
 ·by_cases h0:c x.1 y.1=0
  ·have h1:c y.1 x.1=0:=(h.eq0 _ _).2 ((h.eq0 _ _).1 h0).symm;rw[if_pos h0,if_pos h1];exact k.anti _ _
  ·have h1:¬c y.1 x.1=0:=fun hh=>h0 ((h.eq0 _ _).2 ((h.eq0 _ _).1 hh).symm)
   rw[if_neg h0,if_neg h1];exact h.anti _ _
 ·by_cases h0:c x.1 y.1=0
  ·have e0:=(h.eq0 _ _).1 h0;rw[if_pos h0]
   by_cases h1:c y.1 z.1=0
   ·have e1:=(h.eq0 _ _).1 h1;have h2:c x.1 z.1=0:=(h.eq0 _ _).2 (e0.trans e1);rw[if_pos h1,if_pos h2];exact k.trans _ _ _
   ·have h2:¬c x.1 z.1=0:=by rw[e0];exact h1
    rw[if_neg h1,if_neg h2,e0];exact fun _ hh=>hh
  ·rw[if_neg h0]
   by_cases h1:c y.1 z.1=0
   ·have e1:=(h.eq0 _ _).1 h1;have h2:¬c x.1 z.1=0:=by rw[<-e1];exact h0
    rw[if_pos h1,if_neg h2,<-e1];exact fun hh _=>hh
   ·rw[if_neg h1];intro h3 h4;have h5:=h.trans _ _ _ h3 h4;have h2:¬c x.1 z.1=0:=by omega
    rw[if_neg h2];exact h5
theorem Hu_ {α β:Type} {c:α->α->Int} (h:OrdC c) (f:β->α) (hf:∀x y,f x=f y->x=y):OrdC (fun x y=>c (f x) (f y)) :=
 ⟨fun x y=>by rw[h.eq0];exact⟨hf _ _,fun hh=>by rw[hh]⟩,fun x y=>h.anti _ _,fun x y z=>h.trans _ _ _⟩
theorem OG_ {α:Type} {c:α->α->Int} (h:OrdC c):OrdC (Gm c):=by
 refine⟨fun x=> ?_,fun x=> ?_,fun x=> ?_⟩
 ·induction x with
  | nil=>intro y;cases y<;>simp[Gm]
  | cons a x ih =>
   intro y
   cases y with
   | nil=>simp[Gm]
   | cons b y =>
    simp only[Gm,bG0]
    split
    ·rename_i h0;rw[ih];exact⟨fun hh=>⟨(h.eq0 _ _).1 h0,hh⟩,fun hh=>hh.2⟩
    ·rename_i h0;exact⟨fun hh=>absurd hh h0,fun hh=>absurd ((h.eq0 _ _).2 hh.1) h0⟩
 ·induction x with
  | nil=>intro y;cases y<;>simp[Gm]
  | cons a x ih =>
   intro y
   cases y with
   | nil=>simp[Gm]
   | cons b y =>
    simp only[Gm]
    by_cases h0:c a b=0
    ·have h1:c b a=0:=(h.eq0 _ _).2 ((h.eq0 _ _).1 h0).symm;rw[if_pos h0,if_pos h1];exact ih y
    ·have h1:¬c b a=0:=fun hh=>h0 ((h.eq0 _ _).2 ((h.eq0 _ _).1 hh).symm)
     rw[if_neg h0,if_neg h1];exact h.anti _ _
 ·induction x with
  | nil=>intro y z;cases y<;>cases z<;>simp[Gm]
  | cons a x ih =>
   intro y z
   cases y with
   | nil=>simp[Gm]
   | cons b y =>
    cases z with
    | nil=>simp[Gm]
    | cons d z =>
     simp only[Gm]
     by_cases h0:c a b=0
     ·have e0:=(h.eq0 _ _).1 h0;rw[if_pos h0]
      by_cases h1:c b d=0
      ·have h2:c a d=0:=by rw[e0];exact h1
       rw[if_pos h1,if_pos h2];exact ih y z
      ·have h2:¬c a d=0:=by rw[e0];exact h1
       rw[if_neg h1,if_neg h2,e0];exact fun _ hh=>hh
     ·rw[if_neg h0]
      by_cases h1:c b d=0
      ·have e1:=(h.eq0 _ _).1 h1;have h2:¬c a d=0:=by rw[<-e1];exact h0
       rw[if_pos h1,if_neg h2,<-e1];exact fun hh _=>hh
      ·rw[if_neg h1];intro h3 h4;have h5:=h.trans _ _ _ h3 h4;have h2:¬c a d=0:=by omega
       rw[if_neg h2];exact h5
theorem Ht_ : OrdC JY:=by
 have h:=Hu_ (Sq Ev_ Ev_) (fun s:Sym=>((if s.label then 1 else 0:Int),s.n)) (by
  rintro⟨l,n⟩ ⟨l',n'⟩ hh;simp only[_root_.Prod.mk.injEq]at hh;obtain⟨h1,rfl⟩:=hh
  cases l<;>cases l'<;>simp_all)
 have e:JY=fun x y:Sym=>Ff_ Fy Fy ((if x.label then 1 else 0:Int),x.n) ((if y.label then 1 else 0:Int),y.n):=by
  funext x y
  obtain⟨l,n⟩:=x;obtain⟨l',n'⟩:=y;cases l<;>cases l'<;>simp[JY,Ff_,Fy]
 rw[e];exact h
def FF {α:Type} (c:α->α->Int) (l:List α):List α:=l.mergeSort (fun x y=> !decide (c y x<0))
theorem Fk {α:Type} (c:α->α->Int) (l:List α):(FF c l).Perm l:=dX0 _ _
theorem DO {α:Type} {c:α->α->Int} (h:OrdC c) (l:List α):(FF c l).Pairwise (fun x y=>¬c y x<0):=by
 have:=List.pairwise_mergeSort (le:=fun x y=> !decide (c y x<0)) (by
  intro a b d h1 h2;simp only[eC0,decide_eq_false_iff_not]at *
  exact h.ntrans _ _ _ h2 h1) (by
  intro a b;simp only[cY0,eC0,decide_eq_false_iff_not]
  exact h.total b a) l
 exact this.imp fun h=>by simpa using h
theorem Ef_ {α:Type} {c:α->α->Int} (h:OrdC c) {a b:List α} (hp:a.Perm b) (ha:a.Pairwise (fun x y=>¬c y x<0)) (hb:b.Pairwise (fun x y=>¬c y x<0)):a=b :=
 List.Perm.eq_of_pairwise (le:=fun x y=>¬c y x<0) (fun x y _ _ h1 h2=>h.le_anti h2 h1) ha hb hp
theorem Vl {α:Type} {c:α->α->Int} (h:OrdC c) {d:α->List DVal} {u:List DVal->α} (hu:∀x,u (d x)=x) {l:List α} {L:List (List DVal)} (hp:L.Perm (l.map d)) (hs:L.Pairwise (fun x y=>¬c (u y) (u x)<0)):L=(FF c l).map d:=by
 have h1:(L.map u).Perm l:=by
  have:=hp.map u
  rwa[cC0,show u∘d=id from funext hu,List.map_id]at this
 have h2:(L.map u).Pairwise (fun x y=>¬c y x<0):=by rw[dM0];exact hs
 have h3:=Ef_ h (h1.trans (Fk c l).symm) h2 (DO h l)
 have h4:L=(L.map u).map d:=by
  rw[cC0]
  have h5:∀x∈L,(d∘u) x=id x:=by
   intro x hx;obtain⟨y,_,rfl⟩:=aR0.1 (hp.mem_iff.1 hx);simp[hu]
  rw[cN0 h5,List.map_id]
 rw[h4,h3]
def KB {α:Type} (c:α->α->Int):List α->α->List α
 | [],p=>[p]
 | x::l,p=>if c x p<0 then x::KB c l p else if c p x<0 then p::x::l else x::l
theorem SC {α:Type} {c:α->α->Int} (h:OrdC c) {p z:α}:∀{l:List α},z∈KB c l p↔z=p\/z∈l
 | []=>by simp[KB]
 | x::l=>by
  have ih:=SC h (p:=p) (z:=z) (l:=l);simp only[KB]
  split
  ·rw[aJ0,ih,aJ0];exact⟨fun hh=>by rcases hh with a | a | a<;>simp[a],fun hh=>by rcases hh with a | a | a<;>simp[a]⟩
  ·rename_i h1
   split
   ·simp only[aJ0]
   ·rename_i h2;have:=h.le_anti h1 h2;subst this;simp only[aJ0]
    exact⟨.inr,fun hh=>by
     rcases hh with a | a
     ·exact .inl a
     ·exact a⟩
def Er {α:Type} (c:α->α->Int) (l:List α):Prop:=l.Pairwise (fun x y=>c x y<0)
theorem PL {α:Type} {c:α->α->Int} (h:OrdC c) {p:α}:∀{l:List α},Er c l->Er c (KB c l p)
 | [],_=>by simp[KB,Er]
 | x::l,hs=>by
  obtain⟨h1,h2⟩:=cK0.1 hs;simp only[KB]
  split
  ·rename_i hx;refine cK0.2 ⟨fun z hz=> ?_,PL h h2⟩
   rcases (SC h).1 hz with rfl | hz
   ·exact hx
   ·exact h1 z hz
  ·split
   ·rename_i hx;refine cK0.2 ⟨fun z hz=> ?_,hs⟩
    rcases aJ0.1 hz with rfl | hz
    ·exact hx
    ·exact h.trans _ _ _ hx (h1 z hz)
   ·exact hs
theorem PS {α:Type} {c:α->α->Int} (h:OrdC c):∀(l a:List α),Er c a->Er c (l.foldl (KB c) a)/\∀z,z∈l.foldl (KB c) a↔z∈l\/z∈a
 | [],a,ha=>⟨ha,by simp⟩
 | x::l,a,ha=>by
  obtain⟨h1,h2⟩:=PS h l (KB c a x) (PL h ha);refine⟨h1,fun z=> ?_⟩;rw[cQ0,h2,SC h,aJ0];exact⟨fun hh=>by rcases hh with q | q | q<;>simp[q],fun hh=>by rcases hh with (q | q) | q<;>simp[q]⟩
theorem Mj {α:Type} {c:α->α->Int} (h:OrdC c) {x:α}:¬c x x<0:=by rw[h.refl];omega
theorem Vt {α:Type} {c:α->α->Int} (h:OrdC c):∀{a b:List α},Er c a->Er c b->(∀z,z∈a↔z∈b)->a=b
 | [],[],_,_,_=>rfl
 | [],y::b,_,_,hm=>by have:=(hm y).2 aE0;simp at this
 | x::a,[],_,_,hm=>by have:=(hm x).1 aE0;simp at this
 | x::a,y::b,ha,hb,hm=>by
  obtain⟨a1,a2⟩:=cK0.1 ha;obtain⟨b1,b2⟩:=cK0.1 hb
  have bT:x=y:=by
   rcases aJ0.1 ((hm x).1 aE0)with h1 | h1
   ·exact h1
   ·rcases aJ0.1 ((hm y).2 aE0)with h2 | h2
    ·exact h2.symm
    ·exact absurd (h.trans _ _ _ (a1 y h2) (b1 x h1)) (Mj h)
  subst bT;rw[Vt h a2 b2 fun z=> ?_]
  constructor
  ·intro hz
   rcases aJ0.1 ((hm z).1 (aC0 _ hz))with h1 | h1
   ·subst h1;exact absurd (a1 z hz) (Mj h)
   ·exact h1
  ·intro hz
   rcases aJ0.1 ((hm z).2 (aC0 _ hz))with h1 | h1
   ·subst h1;exact absurd (b1 z hz) (Mj h)
   ·exact h1
theorem Mb {α:Type} {c:α->α->Int} (h:OrdC c):∀{l:List α} {p:α},(p::l).Pairwise (fun x y=>¬c y x<0)->Er c (p::Ci (fun x y=>c x y==0) p l)/\∀z,z∈p::Ci (fun x y=>c x y==0) p l↔z∈p::l
 | [],p,_=>by simp[Ci,Er]
 | y::l,p,hs=>by
  obtain⟨h1,h2⟩:=cK0.1 hs;obtain⟨i1,i2⟩:=Mb h h2;simp only[Ci]
  split
  ·rename_i he;have:y=p:=(h.eq0 _ _).1 (by simpa using he);subst this;exact⟨i1,fun z=>by rw[i2];simp⟩
  ·rename_i he;have qC:y≠p:=fun hh=>he (by subst hh;simp[h.refl])
   have qV:c p y<0:=by
    rcases h.nle.1 (h1 y aE0)with h3 | h3
    ·exact h3
    ·exact absurd h3 qC
   refine⟨cK0.2 ⟨fun z hz=> ?_,i1⟩,fun z=> ?_⟩
   ·obtain⟨j1,_⟩:=cK0.1 i1
    rcases aJ0.1 hz with rfl | hz
    ·exact qV
    ·exact h.trans _ _ _ qV (j1 z hz)
   ·have:=i2 z;rw[aJ0,this];simp[aJ0]
theorem EQ {α:Type} {c:α->α->Int} (h:OrdC c) {l:List α} (hs:l.Pairwise (fun x y=>¬c y x<0)):Er c (BA (fun x y=>c x y==0) l)/\∀z,z∈BA (fun x y=>c x y==0) l↔z∈l:=by
 cases l with
 | nil=>simp[BA,Er]
 | cons x l=>exact Mb h hs
theorem EN_ {α:Type} {c:α->α->Int} (h:OrdC c) (l:List α):BA (fun x y=>c x y==0) (FF c (BA (fun x y=>c x y==0) (FF c l)))=BA (fun x y=>c x y==0) (FF c l):=by
 obtain⟨h3,h4⟩:=EQ h (DO h l);obtain⟨h5,h6⟩:=EQ h (DO h (BA (fun x y=>c x y==0) (FF c l)));refine Vt h h5 h3 fun z=> ?_
 rw[h6,(Fk c _).mem_iff]
theorem TJ {α:Type} {e:α->α->Bool}:∀(l:List α) (p:α),(Ci e p l).length<=l.length
 | [],_=>by simp[Ci]
 | y::l,p=>by
  have:=TJ (e:=e) l y;simp only[Ci]
  split<;>simp<;>omega
theorem FR_ {α:Type} {e:α->α->Bool} (l:List α):(BA e l).length<=l.length:=by
 cases l with
 | nil=>simp[BA]
 | cons x l=>have:=TJ (e:=e) l x;simp[BA];omega
end Go.Proofs.Wy
end
