/- Parts of a proof, laid together: EnGo, WB2, WB1, WR1, RN, RH, RG, RX1, EnW, EnX, RX5, WC1, WC2. -/
import Derived.RangeFuncNested
import Derived.Test.YtchgnpnbcjflcaaGreatqCr4
set_option linter.unusedSimpArgs false
set_option maxHeartbeats 8000000
set_option linter.unusedVariables false
set_option linter.unusedSectionVars false
section
namespace Go.Dm
variable [DMode]
structure AnIs (P:Program) (an:Ann) (E:Prop):Prop where
 m:P.follows .mixedOrders=true
 e:E
theorem ZO {P:Program} (an:Ann) {E:Prop} (m:P.follows .mixedOrders=true) (e:E):AnIs P an E:=⟨m,e⟩
theorem Qw_ {P:Program} {B:Base} {s:DS} {A:Ann} {E:Prop} {id:Nat} {ops:Array Oper} {draw:Bool} {Q:Exit->DS->Prop} (qQ:AnIs P A E) (qL:(!draw||GS A.ow (KE A.rs id).l1 (KE A.rs id).l2 ops)=true)
 (h:Dw P B.nt A.ow (KE A.rs id).l1 (KE A.rs id).l2 ops ops.toList 0 (kQ Q (KE A.rs id).fz) s):DW P B (.region id ops draw) Q s:=BR A qQ.m qL h
structure Spc (ρ ν:List (Nat×Nat)) (p:Prop):Prop where
 o:p
theorem DF (ρ ν:List (Nat×Nat)) {p:Prop} (h:p):Spc ρ ν p:=⟨h⟩
theorem Ed {ρ ν:List (Nat×Nat)} {P:Program} {g:FuncId} {args args0:List DVal} {own own0 own0':List Ent} {d0:DVal} {K:ContE} (hS:Spc ρ ν (AS P (.func g) args0 own0 d0 own0'))
 (wK:OL own (Cv own (Ff ρ)) (Ff ρ)=some own0/\lO own ρ/\(iJ args/\aE (args.map (JG (Cv own (Ff ρ)))) args0)/\(((ρ++ν).map (·.1)).Nodup/\(ρ.map (·.2)).Nodup)/\iI own0'/\iK d0)
 (hk:∀r,match KB (EN own ρ ν r) own0' with
  | some l=>((BE own ((ρ++ν).map (·.1))++l).map (·.id)).Nodup/\K.f (JG (EN own ρ ν r) d0) (BE own ((ρ++ν).map (·.1))++l)
  | none=>False):Bv P g args own K:=AP ρ ν hS.o wK hk
structure Hd (p:Prop):Prop where
 o:p
def Mk (p:Prop):Prop:=p
theorem SO_ {p:Prop} (h:Mk p):p:=h
theorem Ae {p:Prop} (h:p):Mk p:=h
theorem Aa : True:=trivial
theorem Aq {a:Prop} (h0:a):a/\True:=⟨h0,trivial⟩
theorem Ap {a b:Prop} (h0:a) (h1:b):a/\b/\True:=⟨h0,h1,trivial⟩
theorem BC {a b c:Prop} (h0:a) (h1:b) (h2:c):a/\b/\c/\True:=⟨h0,h1,h2,trivial⟩
theorem CG {a b c d:Prop} (h0:a) (h1:b) (h2:c) (h3:d):a/\b/\c/\d/\True:=⟨h0,h1,h2,h3,trivial⟩
theorem Dx {a b c d e:Prop} (h0:a) (h1:b) (h2:c) (h3:d) (h4:e):a/\b/\c/\d/\e/\True:=⟨h0,h1,h2,h3,h4,trivial⟩
theorem EB {a b c d e f:Prop} (h0:a) (h1:b) (h2:c) (h3:d) (h4:e) (h5:f):a/\b/\c/\d/\e/\f/\True:=⟨h0,h1,h2,h3,h4,h5,trivial⟩
theorem Ez {a b c d e f g:Prop} (h0:a) (h1:b) (h2:c) (h3:d) (h4:e) (h5:f) (h6:g):a/\b/\c/\d/\e/\f/\g/\True:=⟨h0,h1,h2,h3,h4,h5,h6,trivial⟩
theorem Ji {a b c d e f g h:Prop} (h0:a) (h1:b) (h2:c) (h3:d) (h4:e) (h5:f) (h6:g) (h7:h):a/\b/\c/\d/\e/\f/\g/\h/\True:=⟨h0,h1,h2,h3,h4,h5,h6,h7,trivial⟩
theorem OD {a b c d e f g h i:Prop} (h0:a) (h1:b) (h2:c) (h3:d) (h4:e) (h5:f) (h6:g) (h7:h) (h8:i):a/\b/\c/\d/\e/\f/\g/\h/\i/\True:=⟨h0,h1,h2,h3,h4,h5,h6,h7,h8,trivial⟩
theorem Hn {a b c d e f g h i j:Prop} (h0:a) (h1:b) (h2:c) (h3:d) (h4:e) (h5:f) (h6:g) (h7:h) (h8:i) (h9:j):a/\b/\c/\d/\e/\f/\g/\h/\i/\j/\True:=⟨h0,h1,h2,h3,h4,h5,h6,h7,h8,h9,trivial⟩
theorem Hm {a b c d e f g h i j k:Prop} (h0:a) (h1:b) (h2:c) (h3:d) (h4:e) (h5:f) (h6:g) (h7:h) (h8:i) (h9:j) (pS:k):a/\b/\c/\d/\e/\f/\g/\h/\i/\j/\k/\True:=⟨h0,h1,h2,h3,h4,h5,h6,h7,h8,h9,pS,trivial⟩
theorem FJ {a b c d e f g h i j k l:Prop} (h0:a) (h1:b) (h2:c) (h3:d) (h4:e) (h5:f) (h6:g) (h7:h) (h8:i) (h9:j) (pS:k) (sE:l):a/\b/\c/\d/\e/\f/\g/\h/\i/\j/\k/\l/\True:=⟨h0,h1,h2,h3,h4,h5,h6,h7,h8,h9,pS,sE,trivial⟩
theorem Uf_ {a b c d e f g h i j k l m:Prop} (h0:a) (h1:b) (h2:c) (h3:d) (h4:e) (h5:f) (h6:g) (h7:h) (h8:i) (h9:j) (pS:k) (sE:l) (pR:m):a/\b/\c/\d/\e/\f/\g/\h/\i/\j/\k/\l/\m/\True:=⟨h0,h1,h2,h3,h4,h5,h6,h7,h8,h9,pS,sE,pR,trivial⟩
theorem Tv {a b c d e f g h i j k l m n:Prop} (h0:a) (h1:b) (h2:c) (h3:d) (h4:e) (h5:f) (h6:g) (h7:h) (h8:i) (h9:j) (pS:k) (sE:l) (pR:m) (h13:n):a/\b/\c/\d/\e/\f/\g/\h/\i/\j/\k/\l/\m/\n/\True:=⟨h0,h1,h2,h3,h4,h5,h6,h7,h8,h9,pS,sE,pR,h13,trivial⟩
theorem My_ {a b c d e f g h i j k l m n o:Prop} (h0:a) (h1:b) (h2:c) (h3:d) (h4:e) (h5:f) (h6:g) (h7:h) (h8:i) (h9:j) (pS:k) (sE:l) (pR:m) (h13:n) (h14:o):a/\b/\c/\d/\e/\f/\g/\h/\i/\j/\k/\l/\m/\n/\o/\True:=⟨h0,h1,h2,h3,h4,h5,h6,h7,h8,h9,pS,sE,pR,h13,h14,trivial⟩
theorem HT {a b c d e f g h i j k l m n o p:Prop} (h0:a) (h1:b) (h2:c) (h3:d) (h4:e) (h5:f) (h6:g) (h7:h) (h8:i) (h9:j) (pS:k) (sE:l) (pR:m) (h13:n) (h14:o) (h15:p):a/\b/\c/\d/\e/\f/\g/\h/\i/\j/\k/\l/\m/\n/\o/\p/\True:=⟨h0,h1,h2,h3,h4,h5,h6,h7,h8,h9,pS,sE,pR,h13,h14,h15,trivial⟩
theorem Al {p c s a:Prop} (C:c) (S:s) (A:a) (h:c->s->a->p:=by
 (intro C S A;(repeat (first | refine AI fun Kz hKz=> ?_ | (refine Qw_ qQ (by kernel_rfl) ?_;simp[qQ.e,qX,A];try simp (disch:=omega) only[Ao]) | refine Aw ?_ | (refine Bb ?_ ?_ ?_;(· (simp[qX,A];done));(try (rotate_left;(· (intro dL;(try simp[qX,A]at dL);done))))) | (refine AK ?_;simp[qQ.e,qX,A]) | ((first | refine AD ?_ | refine AC ?_);simp[qX,A]) | (intro dL;(try simp[qX,A]at dL);(try (exfalso;omega))) | ((first | refine An C.1 ?_ | (refine Am C.1 ?_ ?_;(· (simp;done))) | refine An C.2.1 ?_ | (refine Am C.2.1 ?_ ?_;(· (simp;done))) | refine An C.2.2.1 ?_ | (refine Am C.2.2.1 ?_ ?_;(· (simp;done))) | refine An C.2.2.2.1 ?_ | (refine Am C.2.2.2.1 ?_ ?_;(· (simp;done))) | refine An C.2.2.2.2.1 ?_ | (refine Am C.2.2.2.2.1 ?_ ?_;(· (simp;done))) | refine An C.2.2.2.2.2.1 ?_ | (refine Am C.2.2.2.2.2.1 ?_ ?_;(· (simp;done))) | refine An C.2.2.2.2.2.2.1 ?_ | (refine Am C.2.2.2.2.2.2.1 ?_ ?_;(· (simp;done))) | refine An C.2.2.2.2.2.2.2.1 ?_ | (refine Am C.2.2.2.2.2.2.2.1 ?_ ?_;(· (simp;done))));try simp[qX,A]) | (refine Ed S.1 ?_ ?_;(· (simp[qX,A];done));(intro Kz;try simp[qX,A])) | (refine Ed S.2.1 ?_ ?_;(· (simp[qX,A];done));(intro Kz;try simp[qX,A])) | (refine Ed S.2.2.1 ?_ ?_;(· (simp[qX,A];done));(intro Kz;try simp[qX,A])) | (refine Ed S.2.2.2.1 ?_ ?_;(· (simp[qX,A];done));(intro Kz;try simp[qX,A])) | (refine⟨?_,?_⟩; · omega) | omega | apply_assumption -exfalso -symm | (exfalso;omega))))):p:=h C S A
theorem Au {p c s a q0:Prop} (C:c) (S:s) (A:a) (h0:q0) (h:c->s->a->Hd q0->p:=by
 (intro C S A k0;(repeat (first | refine AI fun Kz hKz=> ?_ | (refine Qw_ qQ (by kernel_rfl) ?_;simp[qQ.e,qX,A];try simp (disch:=omega) only[Ao]) | refine Aw ?_ | (refine Bb ?_ ?_ ?_;(· (simp[qX,A];done));(try (rotate_left;(· (intro dL;(try simp[qX,A]at dL);done))))) | (refine AK ?_;simp[qQ.e,qX,A]) | ((first | refine AD ?_ | refine AC ?_);simp[qX,A]) | (intro dL;(try simp[qX,A]at dL);(try (exfalso;omega))) | ((first | refine An C.1 ?_ | (refine Am C.1 ?_ ?_;(· (simp;done))) | refine An C.2.1 ?_ | (refine Am C.2.1 ?_ ?_;(· (simp;done))) | refine An C.2.2.1 ?_ | (refine Am C.2.2.1 ?_ ?_;(· (simp;done))) | refine An C.2.2.2.1 ?_ | (refine Am C.2.2.2.1 ?_ ?_;(· (simp;done))) | refine An C.2.2.2.2.1 ?_ | (refine Am C.2.2.2.2.1 ?_ ?_;(· (simp;done))) | refine An C.2.2.2.2.2.1 ?_ | (refine Am C.2.2.2.2.2.1 ?_ ?_;(· (simp;done))) | refine An C.2.2.2.2.2.2.1 ?_ | (refine Am C.2.2.2.2.2.2.1 ?_ ?_;(· (simp;done))) | refine An C.2.2.2.2.2.2.2.1 ?_ | (refine Am C.2.2.2.2.2.2.2.1 ?_ ?_;(· (simp;done))));try simp[qX,A]) | (refine Ed S.1 ?_ ?_;(· (simp[qX,A];done));(intro Kz;try simp[qX,A])) | (refine Ed S.2.1 ?_ ?_;(· (simp[qX,A];done));(intro Kz;try simp[qX,A])) | (refine Ed S.2.2.1 ?_ ?_;(· (simp[qX,A];done));(intro Kz;try simp[qX,A])) | (refine Ed S.2.2.2.1 ?_ ?_;(· (simp[qX,A];done));(intro Kz;try simp[qX,A])) | (refine⟨?_,?_⟩; · omega) | omega | apply_assumption -exfalso -symm | (exfalso;omega)));refine SO_ ?_;(repeat (first | revert dL | revert Kz));exact k0.o)):p:=h C S A ⟨h0⟩
theorem go2 {p c s a q0 q1:Prop} (C:c) (S:s) (A:a) (h0:q0) (h1:q1) (h:c->s->a->Hd q0->Hd q1->p:=by
 (intro C S A k0 k1;(repeat (first | refine AI fun Kz hKz=> ?_ | (refine Qw_ qQ (by kernel_rfl) ?_;simp[qQ.e,qX,A];try simp (disch:=omega) only[Ao]) | refine Aw ?_ | (refine Bb ?_ ?_ ?_;(· (simp[qX,A];done));(try (rotate_left;(· (intro dL;(try simp[qX,A]at dL);done))))) | (refine AK ?_;simp[qQ.e,qX,A]) | ((first | refine AD ?_ | refine AC ?_);simp[qX,A]) | (intro dL;(try simp[qX,A]at dL);(try (exfalso;omega))) | ((first | refine An C.1 ?_ | (refine Am C.1 ?_ ?_;(· (simp;done))) | refine An C.2.1 ?_ | (refine Am C.2.1 ?_ ?_;(· (simp;done))) | refine An C.2.2.1 ?_ | (refine Am C.2.2.1 ?_ ?_;(· (simp;done))) | refine An C.2.2.2.1 ?_ | (refine Am C.2.2.2.1 ?_ ?_;(· (simp;done))) | refine An C.2.2.2.2.1 ?_ | (refine Am C.2.2.2.2.1 ?_ ?_;(· (simp;done))) | refine An C.2.2.2.2.2.1 ?_ | (refine Am C.2.2.2.2.2.1 ?_ ?_;(· (simp;done))) | refine An C.2.2.2.2.2.2.1 ?_ | (refine Am C.2.2.2.2.2.2.1 ?_ ?_;(· (simp;done))) | refine An C.2.2.2.2.2.2.2.1 ?_ | (refine Am C.2.2.2.2.2.2.2.1 ?_ ?_;(· (simp;done))));try simp[qX,A]) | (refine Ed S.1 ?_ ?_;(· (simp[qX,A];done));(intro Kz;try simp[qX,A])) | (refine Ed S.2.1 ?_ ?_;(· (simp[qX,A];done));(intro Kz;try simp[qX,A])) | (refine Ed S.2.2.1 ?_ ?_;(· (simp[qX,A];done));(intro Kz;try simp[qX,A])) | (refine Ed S.2.2.2.1 ?_ ?_;(· (simp[qX,A];done));(intro Kz;try simp[qX,A])) | (refine⟨?_,?_⟩; · omega) | omega | apply_assumption -exfalso -symm | (exfalso;omega)));refine SO_ ?_;(repeat (first | revert dL | revert Kz));exact k0.o;refine SO_ ?_;(repeat (first | revert dL | revert Kz));exact k1.o)):p:=h C S A ⟨h0⟩ ⟨h1⟩
theorem Ab (ids:List Nat) {P:Program} {f:FuncId} {fn:Func} {c:Code} {args:List DVal} {d:DVal} {n:Nat} (an:Ann) {E:Prop} (hf:P.funcs[f]? =some fn) (zZ:Enters P f) (hn:fn.ntmps=n) (hm:P.follows .mixedOrders=true) (hE:E) (hb:fn.body=some c) (h:Gj args->∀B:Base,B.nt=n/\B.ro=none->AnIs P an E->DW P B c (Kg_ P fn ids d) ⟨Ak args 0,[]⟩) (qX:args.length<=n:=by simp) (hd:mx d=0:=by simp[mx]):Ac P f args d :=
 Ly ids hf hb zZ (hn▸qX) hd fun qJ B hB=>h qJ B (hn▸hB) ⟨hm,hE⟩
theorem Bi (ids:List Nat) (ρ:List (Nat×Nat×Nat)) {P:Program} {f:FuncId} {fn:Func} {c:Code} {args:List DVal} {own own':List Ent} {d:DVal} {n:Nat} (an:Ann) {E:Prop} (hf:P.funcs[f]? =some fn) (zZ:Enters P f) (hn:fn.ntmps=n) (hm:P.follows .mixedOrders=true) (hE:E) (hb:fn.body=some c) (h:Gj args->∀B:Base,B.nt=n/\B.ro=none->AnIs P an E->DW P B c (ER_ P fn ids ρ d own') ⟨Ak args 0,own⟩) (qX:args.length<=n:=by simp) (hρ:(ρ.map (·.2.1)).Nodup/\(ρ.map (·.1)).Nodup:=by simp) (hv:own'.all (fun e=>decide (e.r<=1))=true:=by simp):AS P (.func f) args own d own' :=
 EU_ ids ρ hf hb zZ (hn▸qX) hρ hv fun qJ B hB=>h qJ B (hn▸hB) ⟨hm,hE⟩
theorem wq {x:Int} (h1: -9223372036854775808<=x:=by omega) (h2:x<=9223372036854775807:=by omega):IntKind.i64.wrap x=x:=Ao h1 h2
end Go.Dm
end
section
namespace Go.Proofs.Wy
open Go Go.Dm Tryz
variable [DMode]
attribute [local irreducible] DW Bs Bv
set_option maxRecDepth 100000
def Jj_ : Ann:=⟨[],[]⟩
theorem Dt (b:Bool) (e:Int):Ac prog 63 [.bool b,.int .i64 e] (.int .i64 (if b then e else 0)):=by
 refine Ab [] Jj_ func63 call63 ntmps63 mxd (Ap @Jj_.eq_1 results63) rfl (fun qJ B qX qQ=> ?_);simp only[Ak];cases b
 ·exact Al Aa Aa Aa
 ·exact Al Aa Aa Aa
def Ct (l:List ByteArray) (s:ByteArray):Int:=if l.any (fun x=>s==x)then ((l.findIdx fun x=>s==x:Nat):Int)else -1
theorem Mo {l:List ByteArray} {s:ByteArray} {k:Nat} (hk:k<l.length) (h:l[k]=s) (wE:∀i x,i<k->l[i]? =some x->(s==x)=false):Ct l s=k:=by
 unfold Ct;have hb:(s==l[k])=true:=by rw[h];exact beq_self_eq_true _
 rw[if_pos (bW0.2 ⟨l[k],cY0 _,hb⟩)]
 congr 1
 rw[fD0 hk];exact⟨hb,fun i hi=>wE i _ hi (aD0 (by omega))⟩
theorem Mp {l:List ByteArray} {s:ByteArray} (wE:∀i x,i<l.length->l[i]? =some x->(s==x)=false):Ct l s= -1:=by
 unfold Ct;rw[if_neg];simp only[dX0,cZ0];intro x hx;obtain⟨i,hi,rfl⟩:=bJ0 hx;rw[wE i _ hi (aD0 hi)]
theorem VR {l:List ByteArray} {s x:ByteArray} {k:Nat} (hx:l[k]? =some x) (hb:(s==x)=false) (wE:∀i x,i<k->l[i]? =some x->(s==x)=false):∀i x,i<k+1->l[i]? =some x->(s==x)=false:=by
 intro i y hi hy
 by_cases fP:i=k
 ·subst fP;rw[hx]at hy;simp only[aA0]at hy;subst hy;exact hb
 ·exact wE i y (by omega) hy
theorem FW {l:List ByteArray} (h:Dq (AJ l)):l.length<9223372036854775807:=by
 simp only[Dq,aJ0]at h;omega
theorem FX {l:List Edge} (h:Dq (Cq l)):l.length<9223372036854775807:=by
 simp only[Dq,aJ0]at h;omega
def Fj : Ann:=⟨[],[]⟩
theorem Ov (l:List ByteArray) (s:ByteArray):Ac prog 220 [AJ l,.str s] (.int .i64 (Ct l s)):=by
 refine Ab [] Fj func220 call220 ntmps220 mxd (Ap @Fj.eq_1 results220) rfl (fun qJ B qX qQ=> ?_);have qZ:=FW qJ.1;clear qJ;simp only[Ak];obtain⟨R,hR⟩:∃R,R=Ct l s:=⟨_,rfl⟩;rw[<-hR]
 (repeat (first | refine AI fun K hK=> ?_ | (refine BR Fj mxd (by kernel_rfl) ?_;simp[Fj,qX];try simp (disch:=omega) only[Ao]) | refine Aw ?_ | (refine Bb ?_ ?_ ?_;(· (simp[qX];done));(try (rotate_left;(· (intro hc;(try simp[qX]at hc);done))))) | (refine AK ?_;simp[results220,qX]) | ((first | refine AD ?_ | refine AC ?_);simp[qX]) | (intro hc;(try simp[qX]at hc);(try (exfalso;omega))) | (refine⟨?_,?_⟩; · omega) | omega | apply_assumption -exfalso -symm | (exfalso;omega)))
 refine Af (X:={k:Nat//k<=l.length/\∀i x,i<k->l[i]? =some x->(s==x)=false}) (fun x=>⟨[(0,AJ l),(1,.str s),(7,.int .i64 l.length),(8,.int .i64 x.1)],[]⟩) (fun x=>l.length-x.1) ⟨0,by simp⟩ (Sub.lit (by simp)) ?_;rintro⟨k,hk,wE⟩
 by_cases qV:k<l.length
 ·obtain⟨x,hx,qU,wA⟩:=Ai qV;cases hb:s==x
  ·(repeat (first | refine AI fun K hK=> ?_ | (refine BR Fj mxd (by kernel_rfl) ?_;simp[Fj,qX,AG,qV,qU,hx,hb];try simp (disch:=omega) only[Ao]) | refine Aw ?_ | (refine Bb ?_ ?_ ?_;(· (simp[qX,AG,qV,qU,hx,hb];done));(try (rotate_left;(· (intro hc;(try simp[qX,AG,qV,qU,hx,hb]at hc);done))))) | (refine AK ?_;simp[results220,qX,AG,qV,qU,hx,hb]) | ((first | refine AD ?_ | refine AC ?_);simp[qX,AG,qV,qU,hx,hb]) | (intro hc;(try simp[qX,AG,qV,qU,hx,hb]at hc);(try (exfalso;omega))) | (refine⟨?_,?_⟩; · omega) | omega | apply_assumption -exfalso -symm | (exfalso;omega)))
   exact Ag.mk ⟨k+1,by omega,VR hx hb wE⟩ (Sub.lit (by simp[])) (by simp;omega)
   skip
  ·have vP:R=k:=by rw[hR];exact Mo qV (by rw[qU];exact(by simpa using hb:s=x).symm) wE
   subst vP
   (repeat (first | refine AI fun K hK=> ?_ | (refine BR Fj mxd (by kernel_rfl) ?_;simp[Fj,qX,AG,qV,qU,hx,hb];try simp (disch:=omega) only[Ao]) | refine Aw ?_ | (refine Bb ?_ ?_ ?_;(· (simp[qX,AG,qV,qU,hx,hb];done));(try (rotate_left;(· (intro hc;(try simp[qX,AG,qV,qU,hx,hb]at hc);done))))) | (refine AK ?_;simp[results220,qX,AG,qV,qU,hx,hb]) | ((first | refine AD ?_ | refine AC ?_);simp[qX,AG,qV,qU,hx,hb]) | (intro hc;(try simp[qX,AG,qV,qU,hx,hb]at hc);(try (exfalso;omega))) | (refine⟨?_,?_⟩; · omega) | omega | apply_assumption -exfalso -symm | (exfalso;omega)))
 ·have qY:k=l.length:=by omega
  subst qY;have vP:R= -1:=by rw[hR];exact Mp wE
  subst vP
  (repeat (first | refine AI fun K hK=> ?_ | (refine BR Fj mxd (by kernel_rfl) ?_;simp[Fj,qX];try simp (disch:=omega) only[Ao]) | refine Aw ?_ | (refine Bb ?_ ?_ ?_;(· (simp[qX];done));(try (rotate_left;(· (intro hc;(try simp[qX]at hc);done))))) | (refine AK ?_;simp[results220,qX]) | ((first | refine AD ?_ | refine AC ?_);simp[qX]) | (intro hc;(try simp[qX]at hc);(try (exfalso;omega))) | (refine⟨?_,?_⟩; · omega) | omega | apply_assumption -exfalso -symm | (exfalso;omega)))
def QG : Ann:=⟨[],[]⟩
theorem GK (l:List ByteArray) (s:ByteArray):Ac prog 154 [AJ l,.str s] (.bool (decide (0<=Ct l s))):=by
 refine Ab [] QG func154 call154 ntmps154 mxd (Ap @QG.eq_1 results154) rfl (fun qJ B qX qQ=> ?_);simp only[Ak]
 (repeat (first | refine AI fun K hK=> ?_ | (refine BR QG mxd (by kernel_rfl) ?_;simp[QG,qX];try simp (disch:=omega) only[Ao]) | refine Aw ?_ | (refine Bb ?_ ?_ ?_;(· (simp[qX];done));(try (rotate_left;(· (intro hc;(try simp[qX]at hc);done))))) | (refine AK ?_;simp[results154,qX]) | ((first | refine AD ?_ | refine AC ?_);simp[qX]) | (intro hc;(try simp[qX]at hc);(try (exfalso;omega))) | ((first | refine An (Ov l s) ?_ | (refine Am (Ov l s) ?_ ?_;(· (simp;done))));try simp[qX]) | (refine⟨?_,?_⟩; · omega) | omega | apply_assumption -exfalso -symm | (exfalso;omega)))
def Ji_ : Ann:=⟨[],[]⟩
theorem GQ (l:List ByteArray) (s:ByteArray):Ac prog 69 [AJ l,.str s] (.int .i64 (Ct l s)):=by
 refine Ab [] Ji_ func69 call69 ntmps69 mxd (Ap @Ji_.eq_1 results69) rfl (fun qJ B qX qQ=> ?_);have qZ:=FW qJ.1;clear qJ;simp only[Ak];obtain⟨R,hR⟩:∃R,R=Ct l s:=⟨_,rfl⟩;rw[<-hR]
 (refine Au Aa Aa Aa ?_;intros;refine Ae ?_)
 refine Af (X:={k:Nat//k<=l.length/\∀i x,i<k->l[i]? =some x->(s==x)=false}) (fun x=>⟨[(0,AJ l),(1,.str s),(5,.int .i64 x.1)],[]⟩) (fun x=>l.length-x.1) ⟨0,by simp⟩ (Sub.lit (by simp)) ?_;rintro⟨k,hk,wE⟩
 by_cases qV:k<l.length
 ·obtain⟨x,hx,qU,wA⟩:=Ai qV;cases hb:s==x
  ·have qG:(x==s)=false:=by rw[dS0]at hb |-;simp at hb |-;exact fun h=>hb h.symm
   (refine Au Aa Aa (Dx @AG.eq_1 qV qU hx qG) ?_;intros;refine Ae ?_)
   exact Ag.mk ⟨k+1,by omega,VR hx hb wE⟩ (Sub.lit (by simp[])) (by simp;omega)
   skip
  ·have qG:(x==s)=true:=by simp at hb |-;exact hb.symm
   have vP:R=k:=by rw[hR];exact Mo qV (by rw[qU];exact(by simpa using hb:s=x).symm) wE
   subst vP;exact Al Aa Aa (Dx @AG.eq_1 qV qU hx qG)
 ·have qY:k=l.length:=by omega
  subst qY;have vP:R= -1:=by rw[hR];exact Mp wE
  subst vP;exact Al Aa Aa Aa
def FF (g:Edges) (a b:ByteArray):Int:=if 0<=Ct g.nodes a/\0<=Ct g.nodes b then 0 else 4
def Jh_ : Ann:=⟨[],[]⟩
theorem SO (g:Edges) (a b:ByteArray):Ac prog 81 [.agg (BU g),.str a,.str b] (.int .i64 (FF g a b)):=by
 refine Ab [] Jh_ func81 call81 ntmps81 mxd (Ap @Jh_.eq_1 results81) rfl (fun qJ B qX qQ=> ?_);simp only[Ak];unfold FF;have h1:=GK g.nodes a;have h2:=GK g.nodes b;have h3:=Dt true 4;have h4:=Dt false 4;simp only[if_true,aK0,if_false]at h3 h4
 by_cases c1:0<=Ct g.nodes a
 ·by_cases c2:0<=Ct g.nodes b
  ·simp only[c1,c2,decide_true]at h1 h2;exact Al (CG h1 h2 h3 h4) Aa (BC @BU.eq_1 c1 c2)
  ·simp only[c1,c2,decide_true,decide_false]at h1 h2;exact Al (CG h1 h2 h3 h4) Aa (BC @BU.eq_1 c1 c2)
 ·simp only[c1,decide_false]at h1;exact Al (CG h1 h2 h3 h4) Aa (Ap @BU.eq_1 c1)
def CJ_ : Ann:=⟨[],[]⟩
theorem BC_ (g:Edges) (a b:ByteArray):Ac prog 172 [.agg (BU g),.str a,.str b] (.int .i64 (FF g a b)):=by
 refine Ab [] CJ_ func172 call172 ntmps172 mxd (Ap @CJ_.eq_1 results172) rfl (fun qJ B qX qQ=> ?_);simp only[Ak];unfold FF;have h1:=GQ g.nodes a;have h2:=GQ g.nodes b
 by_cases c1:0<=Ct g.nodes a
 ·have d1:¬Ct g.nodes a<0:=by omega
  by_cases c2:0<=Ct g.nodes b
  ·have d2:¬Ct g.nodes b<0:=by omega
   exact Al (Ap h1 h2) Aa (Dx @BU.eq_1 c1 c2 d1 d2)
  ·have d2:Ct g.nodes b<0:=by omega
   exact Al (Ap h1 h2) Aa (Dx @BU.eq_1 c1 c2 d1 d2)
 ·have d1:Ct g.nodes a<0:=by omega
  exact Al (Ap h1 h2) Aa (BC @BU.eq_1 c1 d1)
def FI (n:Int):Bool:=(decide (97<=n)&&decide (n<=122))||(decide (65<=n)&&decide (n<=90))||(decide (48<=n)&&decide (n<=57))||n==95
def CP_ : Ann:=⟨[],[]⟩
theorem AN_ (n:Int):Ac prog 309 [.int .u8 n] (.bool (FI n)):=by
 refine Ab [] CP_ func309 call309 ntmps309 mxd (Ap @CP_.eq_1 results309) rfl (fun qJ B qX qQ=> ?_);simp only[Ak]
 by_cases h1:97<=n
 ·have h3:65<=n:=by omega
  have h5:48<=n:=by omega
  have h4:¬n<=90:=by omega
  have h6:¬n<=57:=by omega
  have h7:¬n=95:=by omega
  by_cases h2:n<=122
  ·exact Al Aa Aa (BC @FI.eq_1 h1 h2)
  ·exact Al Aa Aa (Ji @FI.eq_1 h1 h2 h3 h4 h5 h6 h7)
 ·by_cases h3:65<=n
  ·have h5:48<=n:=by omega
   have h6:¬n<=57:=by omega
   by_cases h4:n<=90
   ·exact Al Aa Aa (CG @FI.eq_1 h1 h3 h4)
   ·by_cases h7:n=95
    ·subst h7;exact Al Aa Aa (Aq @FI.eq_1)
    ·exact Al Aa Aa (Ez @FI.eq_1 h1 h3 h4 h5 h6 h7)
  ·have h7:¬n=95:=by omega
   by_cases h5:48<=n
   ·by_cases h6:n<=57
    ·exact Al Aa Aa (Dx @FI.eq_1 h1 h3 h5 h6)
    ·exact Al Aa Aa (EB @FI.eq_1 h1 h3 h5 h6 h7)
   ·exact Al Aa Aa (Dx @FI.eq_1 h1 h3 h5 h7)
def CO_ : Ann:=⟨[],[]⟩
theorem Gx_ (n:Int):Ac prog 313 [.int .u8 n] (.bool (FI n)):=by
 refine Ab [] CO_ func313 call313 ntmps313 mxd (Ap @CO_.eq_1 results313) rfl (fun qJ B qX qQ=> ?_);simp only[Ak]
 by_cases h1:97<=n
 ·have h3:65<=n:=by omega
  have h5:48<=n:=by omega
  have h4:¬n<=90:=by omega
  have h6:¬n<=57:=by omega
  have h7:¬n=95:=by omega
  by_cases h2:n<=122
  ·exact Al Aa Aa (BC @FI.eq_1 h1 h2)
  ·exact Al Aa Aa (Ji @FI.eq_1 h1 h2 h3 h4 h5 h6 h7)
 ·by_cases h3:65<=n
  ·have h5:48<=n:=by omega
   have h6:¬n<=57:=by omega
   by_cases h4:n<=90
   ·exact Al Aa Aa (CG @FI.eq_1 h1 h3 h4)
   ·by_cases h7:n=95
    ·subst h7;exact Al Aa Aa (Aq @FI.eq_1)
    ·exact Al Aa Aa (Ez @FI.eq_1 h1 h3 h4 h5 h6 h7)
  ·have h7:¬n=95:=by omega
   by_cases h5:48<=n
   ·by_cases h6:n<=57
    ·exact Al Aa Aa (Dx @FI.eq_1 h1 h3 h5 h6)
    ·exact Al Aa Aa (EB @FI.eq_1 h1 h3 h5 h6 h7)
   ·exact Al Aa Aa (Dx @FI.eq_1 h1 h3 h5 h7)
def lH (s:ByteArray):Bool:=s.data.toList.all fun b=>FI (b.toNat:Int)
def AX (s:ByteArray):Bool:=decide (1<=s.size)&&decide (s.size<=16)&&lH s
def OE_ (s:ByteArray):Bool:=match s.data.toList with | []=>false | b::_=>decide (97<=b.toNat)&&decide (b.toNat<=122)
def Js (s:ByteArray):Bool:=AX s&&OE_ s
theorem BH (s:ByteArray):s.data.toList.length=s.size:=rfl
def CT_ : Ann:=⟨[],[]⟩
theorem Nu (s:ByteArray):Ac prog 246 [.str s] (.bool (AX s)):=by
 refine Ab [] CT_ func246 call246 ntmps246 mxd (Ap @CT_.eq_1 results246) rfl (fun qJ B qX qQ=> ?_);simp only[Ak]
 by_cases h1:1<=s.size
 ·by_cases h2:s.size<=16
  ·have g1:¬(s.size:Int)<1:=by omega
   have g2:¬(16:Int)<s.size:=by omega
   obtain⟨R,hR⟩:∃R,R=AX s:=⟨_,rfl⟩;rw[<-hR]
   (refine Au Aa Aa (CG g1 g2 h1 h2) ?_;intros;refine Ae ?_)
   refine Af (X:={k:Nat//k<=s.size/\lH s=((s.data.toList.drop k).all fun b=>FI (b.toNat:Int))}) (fun k=>⟨[(0,.str s),(3,.int .i64 k.1)],[]⟩) (fun k=>s.size-k.1) ⟨0,by simp[lH]⟩ (Sub.lit (by simp)) ?_;rintro⟨k,hk,hl⟩
   by_cases qV:k<s.size
   ·obtain⟨b,hb,qG,_⟩:=Ai (show k<s.data.toList.length by rw[BH];exact qV);rw[aP0 (by rw[BH];exact qV),qG,cX0]at hl;have e1:=AN_ (b.toNat:Int);cases hL:FI (b.toNat:Int)
    ·rw[hL]at e1 hl;have wX:R=false:=by rw[hR];unfold AX;rw[hl];simp
     subst wX;exact Al (Aq e1) Aa (BC qV hb qG)
    ·rw[hL]at e1 hl;simp only[bO0]at hl
     (refine Au (Aq e1) Aa (BC qV hb qG) ?_;intros;refine Ae ?_)
     refine Ag.mk ⟨k+1,by omega,hl⟩ (Sub.lit (by simp)) (by simp;omega)
     skip
   ·have qY:k=s.size:=by omega
    subst qY;rw[<-BH,bE0]at hl;have wX:R=true:=by rw[hR];unfold AX;rw[hl];simp[h1,h2]
    subst wX;exact Al Aa Aa Aa
  ·have g1:¬(s.size:Int)<1:=by omega
   have g2:(16:Int)<s.size:=by omega
   exact Al Aa Aa (Dx g1 g2 h1 h2 @AX.eq_1)
 ·have g1:(s.size:Int)<1:=by omega
  exact Al Aa Aa (BC g1 h1 @AX.eq_1)
def CR_ : Ann:=⟨[],[]⟩
theorem KY (s:ByteArray):Ac prog 253 [.str s] (.bool (AX s)):=by
 refine Ab [] CR_ func253 call253 ntmps253 mxd (Ap @CR_.eq_1 results253) rfl (fun qJ B qX qQ=> ?_);simp only[Ak];obtain⟨R,hR⟩:∃R,R=AX s:=⟨_,rfl⟩;rw[<-hR];have qM:s.size<=9223372036854775807:=by have:=qJ.1;simp only[Dq,maxLen]at this;omega
 (refine Au Aa Aa Aa ?_;intros;refine Ae ?_)
 refine Af (X:={k:Nat//k<=s.size/\lH s=((s.data.toList.drop k).all fun b=>FI (b.toNat:Int))}) (fun k=>⟨[(0,.str s),(3,.int .i64 k.1)],[]⟩) (fun k=>s.size-k.1) ⟨0,by simp[lH]⟩ (Sub.lit (by simp)) ?_;rintro⟨k,hk,hl⟩
 by_cases qV:k<s.size
 ·obtain⟨b,hb,qG,_⟩:=Ai (show k<s.data.toList.length by rw[BH];exact qV);rw[aP0 (by rw[BH];exact qV),qG,cX0]at hl;have e1:=Gx_ (b.toNat:Int);cases hL:FI (b.toNat:Int)
  ·rw[hL]at e1 hl;have wX:R=false:=by rw[hR];unfold AX;rw[hl];simp
   subst wX;exact Al (Aq e1) Aa (BC qV hb qG)
  ·rw[hL]at e1 hl;simp only[bO0]at hl
   (refine Au (Aq e1) Aa (BC qV hb qG) ?_;intros;refine Ae ?_)
   refine Ag.mk ⟨k+1,by omega,hl⟩ (Sub.lit (by simp)) (by simp;omega)
   skip
 ·have qY:k=s.size:=by omega
  subst qY;rw[<-BH,bE0]at hl;simp only[fI0]at hl;have wX:R=(decide (1<=s.size)&&decide (s.size<=16)):=by rw[hR];unfold AX;rw[hl];simp
  subst wX
  by_cases h1:1<=s.size
  ·have g1:(1:Int)<=s.size:=by omega
   by_cases h2:s.size<=16
   ·have g2:(s.size:Int)<=16:=by omega
    exact Al Aa Aa (CG g1 g2 h1 h2)
   ·have g2:¬(s.size:Int)<=16:=by omega
    exact Al Aa Aa (CG g1 g2 h1 h2)
  ·have g1:¬(1:Int)<=s.size:=by omega
   exact Al Aa Aa (Ap g1 h1)
def CS_ : Ann:=⟨[],[]⟩
theorem Gp_ (s:ByteArray):Ac prog 247 [.str s] (.bool (Js s)):=by
 refine Ab [] CS_ func247 call247 ntmps247 mxd (Ap @CS_.eq_1 results247) rfl (fun qJ B qX qQ=> ?_);simp only[Ak];have e1:=Nu s;unfold Js;cases hN:AX s
 ·rw[hN]at e1;exact Al (Aq e1) Aa Aa
 ·rw[hN]at e1;have h1:1<=s.size:=by unfold AX at hN;simp at hN;omega
  obtain⟨b,hb,qG,_⟩:=Ai (show 0<s.data.toList.length by rw[BH];omega)
  have hlow:OE_ s=(decide (97<=b.toNat)&&decide (b.toNat<=122)):=by
   unfold OE_
   cases hd:s.data.toList with
   | nil=>rw[hd]at hb;simp at hb
   | cons x l=>rw[hd]at hb;simp at hb;subst hb;rfl
  have g0:0<s.size:=by omega
  rw[hlow]
  by_cases h2:97<=b.toNat
  ·have g1:(97:Int)<=b.toNat:=by omega
   exact Al (Aq e1) Aa (Dx g0 hb qG h2 g1)
  ·have g1:¬(97:Int)<=b.toNat:=by omega
   exact Al (Aq e1) Aa (Dx g0 hb qG h2 g1)
def CQ_ : Ann:=⟨[],[]⟩
theorem xQ (s:ByteArray):Ac prog 254 [.str s] (.bool (Js s)):=by
 refine Ab [] CQ_ func254 call254 ntmps254 mxd (Ap @CQ_.eq_1 results254) rfl (fun qJ B qX qQ=> ?_);simp only[Ak];have e1:=KY s;unfold Js;cases hN:AX s
 ·rw[hN]at e1;exact Al (Aq e1) Aa Aa
 ·rw[hN]at e1;have h1:1<=s.size:=by unfold AX at hN;simp at hN;omega
  obtain⟨b,hb,qG,_⟩:=Ai (show 0<s.data.toList.length by rw[BH];omega)
  have hlow:OE_ s=(decide (97<=b.toNat)&&decide (b.toNat<=122)):=by
   unfold OE_
   cases hd:s.data.toList with
   | nil=>rw[hd]at hb;simp at hb
   | cons x l=>rw[hd]at hb;simp at hb;subst hb;rfl
  have g0:0<s.size:=by omega
  rw[hlow]
  by_cases h2:97<=b.toNat
  ·have g1:(97:Int)<=b.toNat:=by omega
   exact Al (Aq e1) Aa (Dx g0 hb qG h2 g1)
  ·have g1:¬(97:Int)<=b.toNat:=by omega
   exact Al (Aq e1) Aa (Dx g0 hb qG h2 g1)
def upI (n:Int):Bool:=decide (65<=n)&&decide (n<=90)
def loI (n:Int):Bool:=decide (97<=n)&&decide (n<=122)
def Cp_ : Ann:=⟨[],[]⟩
theorem JD (n:Int):Ac prog 319 [.int .u8 n] (.bool (upI n)):=by
 refine Ab [] Cp_ func319 call319 ntmps319 mxd (Ap @Cp_.eq_1 results319) rfl (fun qJ B qX qQ=> ?_);simp only[Ak]
 by_cases h1:65<=n
 ·by_cases h2:n<=90<;>exact Al Aa Aa (BC @upI.eq_1 h1 h2)
 ·exact Al Aa Aa (Ap @upI.eq_1 h1)
def Co_ : Ann:=⟨[],[]⟩
theorem JL (n:Int):Ac prog 320 [.int .u8 n] (.bool (loI n)):=by
 refine Ab [] Co_ func320 call320 ntmps320 mxd (Ap @Co_.eq_1 results320) rfl (fun qJ B qX qQ=> ?_);simp only[Ak]
 by_cases h1:97<=n
 ·by_cases h2:n<=122<;>exact Al Aa Aa (BC @loI.eq_1 h1 h2)
 ·exact Al Aa Aa (Ap @loI.eq_1 h1)
def Ct_ : Ann:=⟨[],[]⟩
theorem Me (n:Int):Ac prog 200 [.int .u8 n] (.bool (upI n)):=by
 refine Ab [] Ct_ func200 call200 ntmps200 mxd (Ap @Ct_.eq_1 results200) rfl (fun qJ B qX qQ=> ?_);simp only[Ak]
 by_cases h1:65<=n
 ·by_cases h2:n<=90<;>exact Al Aa Aa (BC @upI.eq_1 h1 h2)
 ·exact Al Aa Aa (Ap @upI.eq_1 h1)
def Cs_ : Ann:=⟨[],[]⟩
theorem Mj (n:Int):Ac prog 201 [.int .u8 n] (.bool (loI n)):=by
 refine Ab [] Cs_ func201 call201 ntmps201 mxd (Ap @Cs_.eq_1 results201) rfl (fun qJ B qX qQ=> ?_);simp only[Ak]
 by_cases h1:97<=n
 ·by_cases h2:n<=122<;>exact Al Aa Aa (BC @loI.eq_1 h1 h2)
 ·exact Al Aa Aa (Ap @loI.eq_1 h1)
theorem Ir_ (n:Int):FI n=(upI n||loI n||(decide (48<=n)&&decide (n<=57))||n==95):=by
 unfold FI upI loI;cases decide (65<=n)<;>cases decide (n<=90)<;>cases decide (97<=n)<;>cases decide (n<=122)<;>rfl
def Cu_ : Ann:=⟨[],[]⟩
theorem Ya (n:Int):Ac prog 199 [.int .u8 n] (.bool (FI n)):=by
 refine Ab [] Cu_ func199 call199 ntmps199 mxd (Ap @Cu_.eq_1 results199) rfl (fun qJ B qX qQ=> ?_);simp only[Ak];rw[Ir_];have e1:=Me n;have e2:=Mj n;cases hU:upI n
 ·rw[hU]at e1;cases hL:loI n
  ·rw[hL]at e2
   by_cases h5:48<=n
   ·by_cases h6:n<=57
    ·exact Al (Ap e1 e2) Aa (Ap h5 h6)
    ·have h7:n=95\/¬n=95:=by omega
     rcases h7 with h7 | h7
     ·subst h7;exact Al (Ap e1 e2) Aa Aa
     ·exact Al (Ap e1 e2) Aa (BC h5 h6 h7)
   ·have h7:¬n=95:=by omega
    exact Al (Ap e1 e2) Aa (Ap h5 h7)
  ·rw[hL]at e2;exact Al (Ap e1 e2) Aa Aa
 ·rw[hU]at e1;exact Al (Aq e1) Aa Aa
def LJ (q:Int->Bool) (s:ByteArray):Bool:=match s.data.toList with | []=>false | b::_=>q (b.toNat:Int)
theorem Bf_ {q:Int->Bool} {s:ByteArray} {b:UInt8} (hb:s.data.toList[0]? =some b):LJ q s=q (b.toNat:Int):=by
 unfold LJ
 cases hd:s.data.toList with
 | nil=>rw[hd]at hb;simp at hb
 | cons x l=>rw[hd]at hb;simp at hb;subst hb;rfl
def Cq_ : Ann:=⟨[],[]⟩
theorem GR (g:FuncId) (q:Int->Bool) (hq:∀n,Ac prog g [.int .u8 n] (.bool (q n))) (s:ByteArray):Ac prog 318 [.str s,.fn (.func g) [] []] (.bool (AX s&&LJ q s)):=by
 refine Ab [] Cq_ func318 call318 ntmps318 mxd (Ap @Cq_.eq_1 results318) rfl (fun qJ B qX qQ=> ?_);have qM:s.size<=9223372036854775807:=by have:=qJ.1;simp only[Dq,maxLen]at this;omega
 clear qJ;simp only[Ak];obtain⟨R,hR⟩:∃R,R=(AX s&&LJ q s):=⟨_,rfl⟩;rw[<-hR]
 by_cases h1:1<=s.size
 ·by_cases h2:s.size<=16
  ·have g1:¬(s.size:Int)<1:=by omega
   have g2:¬(16:Int)<s.size:=by omega
   have g0:0<s.size:=by omega
   obtain⟨b0,wJ,bG,_⟩:=Ai (show 0<s.data.toList.length by rw[BH];omega);have e0:=hq (b0.toNat:Int);rw[Bf_ wJ]at hR;cases hQ:q (b0.toNat:Int)
   ·rw[hQ]at e0 hR;have wX:R=false:=by rw[hR];simp
    subst wX;exact Al (Aq e0) Aa (Ez g0 g1 g2 h1 h2 wJ bG)
   ·rw[hQ]at e0 hR;simp only[fB0]at hR
    (refine Au (Aq e0) Aa (Ez g0 g1 g2 h1 h2 wJ bG) ?_;intros;refine Ae ?_)
    refine Af (X:={k:Nat//k<=s.size/\lH s=((s.data.toList.drop k).all fun b=>FI (b.toNat:Int))}) (fun k=>⟨[(0,.str s),(23,.int .i64 s.size),(24,.int .i64 k.1)],[]⟩) (fun k=>s.size-k.1) ⟨0,by simp[lH]⟩ (Sub.lit (by simp)) ?_;clear e0 wJ bG hQ;rintro⟨k,hk,hl⟩
    by_cases qV:k<s.size
    ·obtain⟨b,hb,qG,_⟩:=Ai (show k<s.data.toList.length by rw[BH];exact qV);rw[aP0 (by rw[BH];exact qV),qG,cX0]at hl;have e1:=JD (b.toNat:Int);have e2:=JL (b.toNat:Int);obtain⟨L,hLL⟩:∃L,L=FI (b.toNat:Int):=⟨_,rfl⟩;have hLe:=Ir_ (b.toNat:Int);rw[<-hLL]at hl hLe;cases hU:upI (b.toNat:Int)
     ·rw[hU]at e1;cases hV:loI (b.toNat:Int)
      ·rw[hV]at e2
       by_cases h5:(48:Int)<=(b.toNat:Int)
       ·by_cases h6:(b.toNat:Int)<=57
        ·have h7:¬(b.toNat:Int)=95:=by omega
         have nQ:L=true:=by rw[hLe];simp[hU,hV,h5,h6]
         rw[nQ,bO0]at hl
         (refine Au (Ap e1 e2) Aa (Ez qV hb qG hU hV h5 h6) ?_;intros;refine Ae ?_)
         refine Ag.mk ⟨k+1,by omega,hl⟩ (Sub.lit (by simp)) (by simp;omega)
         skip
        ·by_cases h7:(b.toNat:Int)=95
         ·have nQ:L=true:=by rw[hLe];simp[hU,hV,h5,h6,h7]
          rw[h7]at e1 e2;rw[nQ,bO0]at hl
          (refine Au (Ap e1 e2) Aa (Ji qV hb qG hU hV h5 h6 h7) ?_;intros;refine Ae ?_)
          refine Ag.mk ⟨k+1,by omega,hl⟩ (Sub.lit (by simp)) (by simp;omega)
          skip
         ·have nQ:L=false:=by rw[hLe];simp[hU,hV,h5,h6,h7]
          rw[nQ,bN0]at hl;have wX:R=false:=by rw[hR];unfold AX;rw[hl];simp
          subst wX;exact Al (Ap e1 e2) Aa (Ji qV hb qG hU hV h5 h6 h7)
       ·have h7:¬(b.toNat:Int)=95:=by omega
        have nQ:L=false:=by rw[hLe];simp[hU,hV,h5,h7]
        rw[nQ,bN0]at hl;have wX:R=false:=by rw[hR];unfold AX;rw[hl];simp
        subst wX;exact Al (Ap e1 e2) Aa (Ez qV hb qG hU hV h5 h7)
      ·rw[hV]at e2;have nQ:L=true:=by rw[hLe];simp[hU,hV]
       rw[nQ,bO0]at hl
       (refine Au (Ap e1 e2) Aa (Dx qV hb qG hU hV) ?_;intros;refine Ae ?_)
       refine Ag.mk ⟨k+1,by omega,hl⟩ (Sub.lit (by simp)) (by simp;omega)
       skip
     ·rw[hU]at e1;have nQ:L=true:=by rw[hLe];simp[hU]
      rw[nQ,bO0]at hl
      (refine Au (Aq e1) Aa (CG qV hb qG hU) ?_;intros;refine Ae ?_)
      refine Ag.mk ⟨k+1,by omega,hl⟩ (Sub.lit (by simp)) (by simp;omega)
      skip
    ·have qY:k=s.size:=by omega
     subst qY;rw[<-BH,bE0]at hl;have wX:R=true:=by rw[hR];unfold AX;rw[hl];simp[h1,h2]
     subst wX;exact Al Aa Aa Aa
  ·have g1:¬(s.size:Int)<1:=by omega
   have g2:(16:Int)<s.size:=by omega
   have wX:R=false:=by rw[hR];unfold AX;simp[h2]
   subst wX;exact Al Aa Aa (CG g1 g2 h1 h2)
 ·have g1:(s.size:Int)<1:=by omega
  have wX:R=false:=by rw[hR];unfold AX;simp[h1]
  subst wX;exact Al Aa Aa (Ap g1 h1)
def EC (k:Int) (s:ByteArray):Bool:=if k=2 then AX s&&LJ upI s else AX s&&LJ loI s
abbrev Cy (k:Int) (s:ByteArray) (n:Int):List DVal:=[.int .i64 k,.str s,.int .i64 n]
def Cr_ : Ann:=⟨[],[]⟩
theorem AI_ (k:Int) (hk:k=2\/k=3) (s:ByteArray):Ac prog 261 [.agg (Cy k s 0)] (.bool (EC k s)):=by
 refine Ab [] Cr_ func261 call261 ntmps261 mxd (Ap @Cr_.eq_1 results261) rfl (fun qJ B qX qQ=> ?_);simp only[Ak];have e1:=GR 319 upI JD s;have e2:=GR 320 loI JL s;unfold EC
 rcases hk with rfl | rfl
 ·exact Al (Ap e1 e2) Aa (Aq @Cy.eq_1)
 ·exact Al (Ap e1 e2) Aa (Aq @Cy.eq_1)
def Cv_ : Ann:=⟨[],[⟨4,[5],[],[]⟩]⟩
theorem XC (k:Int) (hk:k=2\/k=3) (s:ByteArray):Ac prog 181 [.sl 3 32 [Cy k s 0]] (.bool (EC k s)):=by
 refine Ab [] Cv_ func181 call181 ntmps181 mxd (Ap @Cv_.eq_1 results181) rfl (fun qJ B qX qQ=> ?_);simp only[Ak];have e1:=AI_ k hk s;obtain⟨R,hR⟩:∃R,R=EC k s:=⟨_,rfl⟩;rw[<-hR]at e1 |-
 (refine Au Aa Aa (Aq @Cy.eq_1) ?_;intros;refine Ae ?_)
 refine Af (X:={k:Nat//k=0\/k=1/\R=true}) (fun x=>⟨[(0,.sl 3 32 [Cy k s 0]),(3,.int .i64 (1-x.1)),(6,.sl 3 32 [Cy k s 0]),(7,.int .i64 1),(8,.int .i64 x.1)],[]⟩) (fun x=>1-x.1) ⟨0,.inl rfl⟩ (Sub.lit (by simp[Cy])) ?_;rintro⟨x,rfl | ⟨rfl,rfl⟩⟩
 ·simp only[Cy]at e1;cases R
  ·exact Al (Aq e1) Aa (Aq @Cy.eq_1)
  ·(refine Au (Aq e1) Aa (Aq @Cy.eq_1) ?_;intros;refine Ae ?_)
   refine Ag.mk ⟨1,.inr ⟨rfl,rfl⟩⟩ (Sub.lit (by simp[Cy])) (by simp)
   skip
 ·exact Al Aa Aa (Aq @Cy.eq_1)
end Go.Proofs.Wy
end
section
namespace Go.Proofs.Wy
open Go Go.Dm Tryz
variable [DMode]
structure Nd where
 k:Int
 s:ByteArray
 n:Int
 deriving DecidableEq
def BS (x:Nd):List DVal:=[.int .i64 x.k,.str x.s,.int .i64 x.n]
abbrev Bl (l:List Nd):DVal:= .sl 3 32 (l.map BS)
structure Rul where
 h:ByteArray
 b:List Nd
 deriving DecidableEq
def Co (r:Rul):List DVal:=[.str r.h,Bl r.b]
abbrev Az (l:List Rul):DVal:= .sl 2 40 (l.map Co)
@[simp] theorem SK_ (s:Nd):AV (BS s)=0:=by simp[BS,AV,mx]
@[simp] theorem Us_ (l:List Nd):BK (l.map BS)=0:=Jb _ SK_ l
@[simp] theorem Rl_ (s:Rul):AV (Co s)=0:=by simp[Co,AV,mx]
@[simp] theorem TE_ (l:List Rul):BK (l.map Co)=0:=Jb _ Rl_ l
theorem TS {l:List Nd} (h:Dq (Bl l)):l.length<9223372036854775807:=by
 simp only[Dq,aJ0]at h;omega
theorem Mz {l:List Rul} (h:Dq (Az l)):l.length<9223372036854775807:=by
 simp only[Dq,aJ0]at h;omega
def emp (s:ByteArray):Bool:=decide (s=⟨#[]⟩)
def Fe (x:Nd):Bool :=
 if x.k=1 then emp x.s&&decide (x.n=0)
 else if x.k=2 then decide (x.n=0)&&(AX x.s&&LJ upI x.s)
 else if x.k=3 then decide (x.n=0)&&(AX x.s&&LJ loI x.s)
 else if x.k=4 then emp x.s&&decide (2<=x.n)
 else if x.k=5 then emp x.s&&decide (2<=x.n)
 else if x.k=6 then emp x.s&&decide (x.n=1)
 else if x.k=7 then emp x.s&&decide (x.n=1)
 else if x.k=8 then emp x.s&&decide (x.n=1)
 else false
theorem Kg {x:Nd} (h:Fe x=true):0<=x.n:=by
 unfold Fe at h
 repeat' split at h
 all_goals simp only[aM0,decide_eq_true_eq,aK0]at h
 all_goals first | omega | (exact absurd h (by simp)) | (obtain⟨h1,h2⟩:=h;omega)
theorem Nx {x:Nd} (h:Fe x=true):x.k=1\/x.k=2\/x.k=3\/x.k=4\/x.k=5\/x.k=6\/x.k=7\/x.k=8:=by
 unfold Fe at h
 repeat' split at h
 all_goals first | omega | (exact absurd h (by simp))
theorem Rx {x:Nd} (h:Fe x=true):x.s.size<=16:=by
 have hn:∀s,AX s=true->s.size<=16:=fun s hs=>by unfold AX at hs;simp only[aM0,decide_eq_true_eq]at hs;exact hs.1.2
 have he:∀s,emp s=true->s.size<=16:=fun s hs=>by unfold emp at hs;simp only[decide_eq_true_eq]at hs;subst hs;decide
 unfold Fe at h
 repeat' split at h
 all_goals simp only[aM0,decide_eq_true_eq,aK0]at h
 all_goals first | exact he _ h.1 | exact hn _ h.2.1 | (exact absurd h (by simp))
inductive RT where
 | mk (x:Nd) (ks:List RT)
def RT.x : RT->Nd
 | .mk x _=>x
def RT.ks : RT->List RT
 | .mk _ ks=>ks
mutual
def flat : RT->List Nd
 | .mk x ks=>x::Av ks
def Av : List RT->List Nd
 | []=>[]
 | t::ts=>flat t++Av ts
end
mutual
def FU : RT->Bool
 | .mk x ks=>Fe x&&(decide (x.n=(ks.length:Int))&&HA ks)
def HA : List RT->Bool
 | []=>true
 | t::ts=>FU t&&HA ts
end
theorem CV {x:Nd} {ks:List RT} (h:FU (.mk x ks)=true):Fe x=true/\x.n=(ks.length:Int)/\HA ks=true:=by
 unfold FU at h;simp only[aM0,decide_eq_true_eq]at h;exact h
theorem Cp {t:RT} {ts:List RT} (h:HA (t::ts)=true):FU t=true/\HA ts=true:=by
 unfold HA at h;simp only[aM0]at h;exact h
theorem TN {ts:List RT} (h:HA ts=true):∀t∈ts,FU t=true:=by
 induction ts with
 | nil=>simp
 | cons t ts ih =>
  obtain⟨h1,h2⟩:=Cp h;intro u hu
  rcases aL0.1 hu with rfl | hu
  ·exact h1
  ·exact ih h2 u hu
theorem TO : ∀(a b:List RT),HA (a++b)=(HA a&&HA b)
 | [],b=>by simp[HA]
 | t::a,b=>by simp[HA,TO a b,Bool.and_assoc]
theorem GG : ∀(a b:List RT),Av (a++b)=Av a++Av b
 | [],b=>by simp[Av]
 | t::a,b=>by simp[Av,GG a b]
theorem IL (t:RT):1<=(flat t).length:=by cases t;simp[flat]
theorem Bc (x:Nd) (ks:List RT):flat (.mk x ks)=x::Av ks:=by rw[flat]
theorem AH (t:RT) (ts:List RT):Av (t::ts)=flat t++Av ts:=by rw[Av]
def Gm : List Nd->Nat->Option (List Nd)
 | l,0=>some l
 | [],_+1=>none
 | x::l,w+1=>if Fe x then Gm l (w+x.n.toNat)else none
theorem Dj (l:List Nd):Gm l 0=some l:=by unfold Gm;cases l<;>rfl
theorem Ku (w:Nat):Gm [] (w+1)=none:=by unfold Gm;rfl
theorem EO (x:Nd) (l:List Nd) (w:Nat):Gm (x::l) (w+1)=if Fe x then Gm l (w+x.n.toNat)else none:=by rw[Gm]
mutual
theorem Ib : ∀(t:RT) (r:List Nd) (w:Nat),FU t=true->Gm (flat t++r) (w+1)=Gm r w
 | .mk x ks,r,w,h=>by
  obtain⟨h1,h2,h3⟩:=CV h;rw[Bc,List.cons_append,EO,if_pos h1,h2,cI0];exact Wm ks r w h3
theorem Wm : ∀(ts:List RT) (r:List Nd) (w:Nat),HA ts=true->Gm (Av ts++r) (w+ts.length)=Gm r w
 | [],r,w,h=>by simp[Av]
 | t::ts,r,w,h=>by
  obtain⟨h1,h2⟩:=Cp h;rw[AH,aR0,List.length_cons,<-dA0,Ib t _ _ h1,Wm ts r w h2]
end
theorem LX_ : ∀(l:List Nd) (w:Nat) (r:List Nd),Gm l w=some r->∃ts:List RT,ts.length=w/\HA ts=true/\l=Av ts++r:=by
 intro l
 induction l with
 | nil =>
  intro w r h
  cases w with
  | zero=>rw[Dj]at h;simp only[aA0]at h;exact⟨[],rfl,rfl,by simp[Av,h]⟩
  | succ w=>rw[Ku]at h;simp at h
 | cons x l ih =>
  intro w r h
  cases w with
  | zero=>rw[Dj]at h;simp only[aA0]at h;exact⟨[],rfl,rfl,by simp[Av,h]⟩
  | succ w =>
   rw[EO]at h
   split at h
   ·rename_i hm;obtain⟨ts,h1,h2,rfl⟩:=ih _ _ h;have hk:=Kg hm;refine⟨.mk x (ts.take x.n.toNat)::ts.drop x.n.toNat,by simp;omega,?_,?_⟩
    ·have h3:=TO (ts.take x.n.toNat) (ts.drop x.n.toNat);rw[List.take_append_drop,h2]at h3;have h4:HA (ts.take x.n.toNat)=true/\HA (ts.drop x.n.toNat)=true:=by simpa using h3.symm
     have h5:x.n=((ts.take x.n.toNat).length:Int):=by rw[aT0];omega
     unfold HA FU;rw[hm,decide_eq_true h5,h4.1,h4.2];rfl
    ·rw[AH,Bc,List.cons_append,List.cons_append,aR0,<-aR0 (Av _),<-GG,List.take_append_drop]
   ·simp at h
theorem Wn : ∀(l:List Nd) (w:Nat),l.length<w->Gm l w=none
 | _,0,h=>by omega
 | [],w+1,_=>Ku w
 | x::l,w+1,h=>by
  rw[EO]
  split
  ·exact Wn l _ (by simp at h;omega)
  ·rfl
def Ei (l:List Nd):Bool:=match Gm l 1 with
 | some []=>true
 | _=>false
theorem OE {l:List Nd} (h:Ei l=true):∃t,FU t=true/\l=flat t:=by
 unfold Ei at h
 split at h
 ·rename_i he;obtain⟨ts,h1,h2,h3⟩:=LX_ _ _ _ he
  match ts,h1,h2,h3 with
  | [t],_,h2,h3 =>
   refine⟨t,(Cp h2).1,?_⟩;rw[h3,AH];simp[Av]
 ·simp at h
theorem Gw {t:RT} (h:FU t=true):Ei (flat t)=true:=by
 unfold Ei;have:=Ib t [] 0 h;rw[bM0,Dj]at this;rw[this]
theorem Id_ {t:RT} (h:FU t=true):∀x∈flat t,Fe x=true:=by
 have key:∀(l:List Nd) (w:Nat) (r:List Nd),Gm l w=some r->∀x∈l,x∈r\/Fe x=true:=by
  intro l
  induction l with
  | nil=>intro w r _ x hx;simp at hx
  | cons y l ih =>
   intro w r he x hx
   cases w with
   | zero=>rw[Dj]at he;simp only[aA0]at he;subst he;exact .inl hx
   | succ w =>
    rw[EO]at he
    split at he
    ·rename_i hm
     rcases aL0.1 hx with rfl | hx
     ·exact .inr hm
     ·exact ih _ _ he x hx
    ·simp at he
 intro x hx;have:=Ib t [] 0 h;rw[bM0,Dj]at this
 rcases key _ _ _ this x hx with h | h
 ·simp at h
 ·exact h
theorem Di : ∀ts:List RT,ts.length<=(Av ts).length
 | []=>by simp
 | t::ts=>by
  have:=Di ts;have:=IL t;rw[AH];simp;omega
mutual
theorem VI : ∀(t:RT),FU t=true->∀x∈flat t,x.n<=((flat t).length:Int)
 | .mk y ks,h,x,hx=>by
  obtain⟨h1,h2,h3⟩:=CV h;have:=Di ks;rw[Bc]at hx |-;rw[List.length_cons]
  rcases aL0.1 hx with rfl | hx
  ·omega
  ·have:=AW_ ks h3 x hx;omega
theorem AW_ : ∀(ts:List RT),HA ts=true->∀x∈Av ts,x.n<=((Av ts).length:Int)
 | [],_,x,hx=>by simp[Av]at hx
 | t::ts,h,x,hx=>by
  obtain⟨h1,h2⟩:=Cp h;rw[AH]at hx |-;rw[aC0]
  rcases aI0.1 hx with hx | hx
  ·have:=VI t h1 x hx;omega
  ·have:=AW_ ts h2 x hx;omega
end
mutual
def LS : RT->Nat
 | .mk _ ks=>Ye ks+1
def Ye : List RT->Nat
 | []=>0
 | t::ts=>max (LS t) (Ye ts)
end
theorem lP (x:Nd) (ks:List RT):LS (.mk x ks)=Ye ks+1:=by rw[LS]
theorem Kn (t:RT) (ts:List RT):Ye (t::ts)=max (LS t) (Ye ts):=by rw[Ye]
theorem PY : Ye []=0:=by rw[Ye]
def fin : List Nat->List Nat
 | []=>[]
 | c::s=>if c=1 then fin s else (c-1)::s
def Gq (p:List Nat×Nat) (x:Nd):List Nat×Nat:=(if x.n.toNat=0 then fin p.1 else x.n.toNat::p.1,max p.2 (p.1.length+1))
mutual
theorem OT : ∀(t:RT) (s:List Nat) (m:Nat),FU t=true->(flat t).foldl Gq (s,m)=(fin s,max m (s.length+LS t))
 | .mk x ks,s,m,h=>by
  obtain⟨h1,h2,h3⟩:=CV h;rw[Bc,cM0,lP];unfold Gq;rw[h2,cI0]
  cases ks with
  | nil=>simp[Av,PY]
  | cons t ts =>
   have:=SG (t::ts) s (max m (s.length+1)) h3 (by simp);simp only[List.length_cons]at this |-;rw[if_neg (by omega)];unfold Gq at this;rw[this]
   congr 1
   omega
theorem SG : ∀(ts:List RT) (s:List Nat) (m:Nat),HA ts=true->ts≠[]->(Av ts).foldl Gq (ts.length::s,m)=(fin s,max m (s.length+1+Ye ts))
 | [],s,m,h,qK=>absurd rfl qK
 | [t],s,m,h,qK=>by
  obtain⟨h1,h2⟩:=Cp h;have:=OT t (1::s) m h1;rw[AH,cH0];simp only[List.length_cons,List.length_nil,bX0]at this |-;rw[this,Kn,PY];simp[Av,fin]
 | t::u::r,s,m,h,qK=>by
  obtain⟨h1,h2⟩:=Cp h;have h3:=OT t (((u::r).length+1)::s) m h1;have h4:=SG (u::r) s (max m (s.length+1+LS t)) h2 (by simp);rw[AH,cH0,List.length_cons,h3]
  have e:fin (((u::r).length+1)::s)=(u::r).length::s:=by
   simp only[fin];rw[if_neg (by simp)];simp
  rw[e];have e2:max m ((((u::r).length+1)::s).length+LS t)=max m (s.length+1+LS t):=by rw[List.length_cons]
  rw[e2,h4,Kn t]
  congr 1
  omega
end
theorem MG {t:RT} (h:FU t=true):(flat t).foldl Gq ([],0)=([],LS t):=by
 rw[OT t [] 0 h];simp[fin]
def NP_ : List Nat->List Nat
 | []=>[]
 | c::s=>if c=0 then fin s else c::s
def pos (s:List Nat):Prop:=∀c∈s,1<=c/\c<=1572864
theorem KL_ {c:Nat} {s:List Nat} (h:1<=c):NP_ ((c-1)::s)=fin (c::s):=by
 rw[show NP_ ((c-1)::s)=if c-1=0 then fin s else (c-1)::s from rfl,show fin (c::s)=if c=1 then fin s else (c-1)::s from rfl]
 by_cases h1:c=1
 ·rw[if_pos (by omega),if_pos h1]
 ·rw[if_neg (by omega),if_neg h1]
theorem IC_ : ∀s:List Nat,(fin s).length<=s.length
 | []=>by simp[fin]
 | c::s=>by
  unfold fin
  split
  ·have:=IC_ s;simp;omega
  ·simp
theorem IB_ : ∀{s:List Nat},pos s->pos (fin s)
 | [],_=>by intro c hc;simp[fin]at hc
 | c::s,h=>by
  unfold fin
  split
  ·exact IB_ fun d hd=>h d (aE0 _ hd)
  ·intro d hd;have hc:=h c aF0
   rcases aL0.1 hd with rfl | hd
   ·omega
   ·exact h d (aE0 _ hd)
theorem LG_ (p:List Nat×Nat) (x:Nd):(Gq p x).1.length<=p.1.length+1:=by
 unfold Gq;simp only
 split
 ·have:=IC_ p.1;omega
 ·simp
theorem LF_ {p:List Nat×Nat} (x:Nd) (hx:x.n.toNat<=1572864) (h:pos p.1):pos (Gq p x).1:=by
 unfold Gq;simp only
 split
 ·exact IB_ h
 ·intro d hd
  rcases aL0.1 hd with rfl | hd
  ·omega
  ·exact h d hd
theorem KM_ (c:Nat) (s:List Nat):NP_ (c::s)=if c=0 then fin s else c::s:=rfl
def Lq (s:List Nat):List (List DVal):=(s.map fun c:Nat=>[DVal.int .i64 (c:Int)]).reverse
theorem Gb (s:List Nat):(Lq s).length=s.length:=by simp[Lq]
theorem Kv (c:Nat) (s:List Nat):Lq (c::s)=Lq s++[[.int .i64 (c:Int)]]:=by simp[Lq]
theorem Ea : Lq []=[]:=rfl
@[simp] theorem Uq_ (s:List Nat):BK (Lq s)=0:=by
 unfold Lq
 exact Nat.le_zero.1 (TR fun d hd=>by
  obtain⟨c,_,rfl⟩:=aU0.1 (List.mem_reverse.1 hd)
  simp[AV,mx])
theorem BJ_ (c:Nat) (s:List Nat):(Lq (c::s))[s.length]? =some [.int .i64 (c:Int)]:=by
 rw[Kv,bG0 (by rw[Gb];omega),Gb,eA0];rfl
theorem Ma_ (c:Nat) (s:List Nat):(Lq (c::s)).take s.length=Lq s:=by
 rw[Kv,eG0 (by rw[Gb];omega),cL0 (by rw[Gb];omega)]
theorem Pz_ (c d:Nat) (s:List Nat):(Lq (c::s)).set s.length [.int .i64 (d:Int)]=Lq (d::s):=by
 rw[Kv,Kv,List.set_append_right _ _ (by rw[Gb];omega),Gb,eA0];rfl
mutual
def CC : RT->Bool
 | .mk x ks=>if x.k=2\/x.k=3 then false else if x.k=5 then Fv ks else if x.k=4\/x.k=7 then Hy ks else true
def Fv : List RT->Bool
 | []=>false
 | t::ts=>CC t||Fv ts
def Hy : List RT->Bool
 | []=>true
 | t::ts=>CC t&&Hy ts
end
theorem oH (x:Nd) (ks:List RT):CC (.mk x ks)=if x.k=2\/x.k=3 then false else if x.k=5 then Fv ks else if x.k=4\/x.k=7 then Hy ks else true:=by rw[CC]
theorem QC : ∀ts:List RT,Fv ts=ts.any CC
 | []=>by rw[Fv];rfl
 | t::ts=>by rw[Fv,QC ts];rfl
theorem QY : ∀ts:List RT,Hy ts=ts.all CC
 | []=>by rw[Hy];rfl
 | t::ts=>by rw[Hy,QY ts];rfl
theorem Sk (t:RT) (ts:List RT):Hy (t::ts)=(CC t&&Hy ts):=by rw[Hy]
theorem IX : Hy []=true:=by rw[Hy]
theorem Sj (ts:List RT) (t:RT):Hy (ts++[t])=(Hy ts&&CC t):=by rw[QY,QY,fE0];simp
def Dd (l f:List Nat):List (Nat×Nat):=l.flatMap fun p=>f.map fun q=>(p,q)
theorem HZ {l f:List Nat} {p q:Nat}:(p,q)∈Dd l f↔p∈l/\q∈f:=by
 unfold Dd;simp only[bV0,aU0,_root_.Prod.mk.injEq]
 constructor
 ·rintro⟨a,ha,b,hb,rfl,rfl⟩;exact⟨ha,hb⟩
 ·rintro⟨ha,hb⟩;exact⟨p,ha,q,hb,rfl,rfl⟩
theorem LC_ (f:List Nat):Dd [] f=[]:=rfl
mutual
def XA : RT->Nat->List Nat
 | .mk x ks,a=>if x.k=2\/x.k=3 then [a]else oE x.k ks (a+1)
def oE (k:Int):List RT->Nat->List Nat
 | [],_=>[]
 | u::us,a=>XA u a++(if k=4/\CC u=false then []else oE k us (a+(flat u).length))
end
mutual
def Rf : RT->Nat->List Nat
 | .mk x ks,a=>if x.k=2\/x.k=3 then [a]else Th x.k ks (a+1)
def Th (k:Int):List RT->Nat->List Nat
 | [],_=>[]
 | u::us,a=>if k=4 then Th k us (a+(flat u).length)++(if Hy us=true then Rf u a else [])else Rf u a++Th k us (a+(flat u).length)
end
mutual
def arT : RT->Nat->List (Nat×Nat)
 | .mk x ks,a=>if x.k=2\/x.k=3 then []else arL x.k ks (a+1) []++(if x.k=6\/x.k=7 then Dd (Th x.k ks (a+1)) (oE x.k ks (a+1))else [])
def arL (k:Int):List RT->Nat->List Nat->List (Nat×Nat)
 | [],_,_=>[]
 | u::us,a,acc=>arT u a++((if k=4 then Dd acc (XA u a)else [])++arL k us (a+(flat u).length) (if k=4 then Rf u a++(if CC u=true then acc else [])else []))
end
theorem RU (x:Nd) (ks:List RT) (a:Nat):XA (.mk x ks) a=if x.k=2\/x.k=3 then [a]else oE x.k ks (a+1):=by rw[XA]
theorem NE (k:Int) (a:Nat):oE k [] a=[]:=by rw[oE]
theorem IM (k:Int) (u:RT) (us:List RT) (a:Nat):oE k (u::us) a=XA u a++(if k=4/\CC u=false then []else oE k us (a+(flat u).length)):=by rw[oE]
theorem OQ (x:Nd) (ks:List RT) (a:Nat):Rf (.mk x ks) a=if x.k=2\/x.k=3 then [a]else Th x.k ks (a+1):=by rw[Rf]
theorem Jt (k:Int) (a:Nat):Th k [] a=[]:=by rw[Th]
theorem FY (k:Int) (u:RT) (us:List RT) (a:Nat):Th k (u::us) a=if k=4 then Th k us (a+(flat u).length)++(if Hy us=true then Rf u a else [])else Rf u a++Th k us (a+(flat u).length):=by rw[Th]
theorem Pc (x:Nd) (ks:List RT) (a:Nat):arT (.mk x ks) a=if x.k=2\/x.k=3 then []else arL x.k ks (a+1) []++(if x.k=6\/x.k=7 then Dd (Th x.k ks (a+1)) (oE x.k ks (a+1))else []):=by rw[arT]
theorem Lt (k:Int) (a:Nat) (acc:List Nat):arL k [] a acc=[]:=by rw[arL]
theorem Fi (k:Int) (u:RT) (us:List RT) (a:Nat) (acc:List Nat):arL k (u::us) a acc=arT u a++((if k=4 then Dd acc (XA u a)else [])++arL k us (a+(flat u).length) (if k=4 then Rf u a++(if CC u=true then acc else [])else [])):=by rw[arL]
theorem CT : Av []=[]:=by rw[Av]
theorem Wh (k:Int) (u:RT):∀(us:List RT) (a:Nat),oE k (us++[u]) a=oE k us a++(if k=4/\Hy us=false then []else XA u (a+(Av us).length))
 | [],a=>by simp[NE,IM,IX,CT]
 | v::us,a=>by
  rw[List.cons_append,IM,IM,Wh k u us,Sk,AH,aC0,<-dA0,aR0]
  by_cases h4:k=4<;>cases hv:CC v<;>simp[h4]
theorem VG (k:Int) (u:RT):∀(us:List RT) (a:Nat),Th k (us++[u]) a=if k=4 then Rf u (a+(Av us).length)++(if CC u=true then Th k us a else [])else Th k us a++Rf u (a+(Av us).length)
 | [],a=>by simp[Jt,FY,IX,CT]
 | v::us,a=>by
  rw[List.cons_append,FY,FY,VG k u us,Sj,AH,aC0,<-dA0]
  by_cases h4:k=4
  ·cases hu:CC u<;>cases hs:Hy us<;>simp[h4]
  ·simp[h4]
theorem ZM (u:RT):∀(us:List RT) (a:Nat) (acc:List Nat),arL 4 (us++[u]) a acc=arL 4 us a acc++(arT u (a+(Av us).length)++Dd (Th 4 us a++(if Hy us=true then acc else [])) (XA u (a+(Av us).length)))
 | [],a,acc=>by simp[Lt,Fi,Jt,IX,CT]
 | v::us,a,acc=>by
  rw[List.cons_append,Fi,Fi,ZM u us,Sk,AH,aC0,<-dA0,FY];cases hv:CC v<;>cases hs:Hy us<;>simp[aR0]
theorem Cg_ (k:Int) (h4:¬k=4) (u:RT):∀(us:List RT) (a:Nat),arL k (us++[u]) a []=arL k us a []++arT u (a+(Av us).length)
 | [],a=>by simp[Lt,Fi,CT,h4]
 | v::us,a=>by
  rw[List.cons_append,Fi,Fi,AH,aC0,<-dA0];simp only[h4,if_false,List.nil_append];rw[Cg_ k h4 u us,aR0]
-- where these lie
mutual
theorem MQ : ∀(t:RT) (a q:Nat),q∈XA t a->a<=q/\q<a+(flat t).length
 | .mk x ks,a,q,h=>by
  rw[RU]at h;rw[Bc,List.length_cons]
  split at h
  ·simp at h;omega
  ·have:=OW x.k ks (a+1) q h;omega
theorem OW (k:Int):∀(us:List RT) (a q:Nat),q∈oE k us a->a<=q/\q<a+(Av us).length
 | [],a,q,h=>by simp[NE]at h
 | u::us,a,q,h=>by
  rw[IM,aI0]at h;rw[AH,aC0]
  rcases h with h | h
  ·have:=MQ u a q h;omega
  ·split at h
   ·simp at h
   ·have:=OW k us _ q h;omega
end
mutual
theorem JN : ∀(t:RT) (a q:Nat),q∈Rf t a->a<=q/\q<a+(flat t).length
 | .mk x ks,a,q,h=>by
  rw[OQ]at h;rw[Bc,List.length_cons]
  split at h
  ·simp at h;omega
  ·have:=MB x.k ks (a+1) q h;omega
theorem MB (k:Int):∀(us:List RT) (a q:Nat),q∈Th k us a->a<=q/\q<a+(Av us).length
 | [],a,q,h=>by simp[Jt]at h
 | u::us,a,q,h=>by
  rw[FY]at h;rw[AH,aC0]
  have key:q∈Rf u a\/q∈Th k us (a+(flat u).length):=by
   split at h
   ·rcases aI0.1 h with h | h
    ·exact .inr h
    ·split at h
     ·exact .inl h
     ·simp at h
   ·exact aI0.1 h
  rcases key with h | h
  ·have:=JN u a q h;omega
  ·have:=MB k us _ q h;omega
end
mutual
theorem Hs_ : ∀(t:RT) (a p q:Nat),(p,q)∈arT t a->(a<=p/\p<a+(flat t).length)/\(a<=q/\q<a+(flat t).length)
 | .mk x ks,a,p,q,h=>by
  rw[Pc]at h;rw[Bc,List.length_cons]
  split at h
  ·simp at h
  ·rcases aI0.1 h with h | h
   ·rcases tP x.k ks (a+1) [] p q h with ⟨h1 | h1,h2⟩
    ·omega
    ·simp at h1
   ·split at h
    ·obtain⟨h1,h2⟩:=HZ.1 h;have:=MB x.k ks _ p h1;have:=OW x.k ks _ q h2;omega
    ·simp at h
theorem tP (k:Int):∀(us:List RT) (a:Nat) (acc:List Nat) (p q:Nat),(p,q)∈arL k us a acc->((a<=p/\p<a+(Av us).length)\/p∈acc)/\(a<=q/\q<a+(Av us).length)
 | [],a,acc,p,q,h=>by simp[Lt]at h
 | u::us,a,acc,p,q,h=>by
  rw[Fi]at h;rw[AH,aC0];simp only[aI0]at h
  rcases h with h | h | h
  ·have:=Hs_ u a p q h;omega
  ·split at h
   ·obtain⟨h1,h2⟩:=HZ.1 h;have:=MQ u a q h2;exact⟨.inr h1,by omega⟩
   ·simp at h
  ·obtain⟨h1,h2⟩:=tP k us _ _ p q h;refine⟨?_,by omega⟩
   rcases h1 with h1 | h1
   ·left;omega
   ·split at h1
    ·rcases aI0.1 h1 with h1 | h1
     ·have:=JN u a p h1;left;omega
     ·split at h1
      ·exact .inr h1
      ·simp at h1
    ·simp at h1
end
def Lm (u:RT) (a p:Nat):Bool:=decide (a<=p)&&decide (p<a+(flat u).length)
theorem Ev {u:RT} {a p:Nat}:Lm u a p=true↔a<=p/\p<a+(flat u).length:=by unfold Lm;simp
theorem TN_ {u:RT} {a p:Nat} (h:p<a\/a+(flat u).length<=p):Lm u a p=false:=by
 rw[dS0];intro hh;rw[Ev]at hh;omega
mutual
def Xc : RT->Nat->Nat->Bool
 | .mk x ks,a,p=>decide (a=p)||bgL x.k ks (a+1) p
def bgL (k:Int):List RT->Nat->Nat->Bool
 | [],_,_=>false
 | u::us,a,p=>(Lm u a p&&Xc u a p)||(if k=4/\CC u=false then false else bgL k us (a+(flat u).length) p)
end
mutual
def Qi : RT->Nat->Nat->Bool
 | .mk x ks,a,p=>decide (a=p)||enL x.k ks (a+1) p
def enL (k:Int):List RT->Nat->Nat->Bool
 | [],_,_=>false
 | u::us,a,p=>enL k us (a+(flat u).length) p||((!decide (k=4)||Hy us)&&(Lm u a p&&Qi u a p))
end
def afL : List RT->Nat->Nat->Bool
 | [],_,_=>false
 | u::us,a,q=>if Lm u a q then Xc u a q else if CC u then afL us (a+(flat u).length) q else false
def uJ : List RT->Nat->Nat->Nat->Bool
 | [],_,_,_=>false
 | u::us,a,p,q=>if Lm u a p then Qi u a p&&afL us (a+(flat u).length) q else uJ us (a+(flat u).length) p q
def hdL : List RT->Nat->Nat->Nat->Bool
 | [],_,_,_=>false
 | u::_,a,p,q=>Qi u a p&&Xc u a q
mutual
def TZ : RT->Nat->Nat->Nat->Bool
 | .mk x ks,a,p,q=>if (decide (x.k=6)||decide (x.k=7))&&hdL ks (a+1) p q then true else match lY ks (a+1) p q with
  | some b=>b
  | none=>decide (x.k=4)&&uJ ks (a+1) p q
def lY : List RT->Nat->Nat->Nat->Option Bool
 | [],_,_,_=>none
 | u::us,a,p,q=>if Lm u a p&&Lm u a q then some (TZ u a p q)else lY us (a+(flat u).length) p q
end
theorem PR_ (x:Nd) (ks:List RT) (a p:Nat):Xc (.mk x ks) a p=(decide (a=p)||bgL x.k ks (a+1) p):=by rw[Xc]
theorem Ud (k:Int) (a p:Nat):bgL k [] a p=false:=by rw[bgL]
theorem Xd (k:Int) (u:RT) (us:List RT) (a p:Nat):bgL k (u::us) a p=((Lm u a p&&Xc u a p)||(if k=4/\CC u=false then false else bgL k us (a+(flat u).length) p)):=by rw[bgL]
theorem Px_ (x:Nd) (ks:List RT) (a p:Nat):Qi (.mk x ks) a p=(decide (a=p)||enL x.k ks (a+1) p):=by rw[Qi]
theorem Qj (k:Int) (a p:Nat):enL k [] a p=false:=by rw[enL]
theorem MT (k:Int) (u:RT) (us:List RT) (a p:Nat):enL k (u::us) a p=(enL k us (a+(flat u).length) p||((!decide (k=4)||Hy us)&&(Lm u a p&&Qi u a p))):=by rw[enL]
theorem BD_ (k:Int) (u:RT) (p:Nat):∀(us:List RT) (a:Nat),enL k (us++[u]) a p=((Lm u (a+(Av us).length) p&&Qi u (a+(Av us).length) p)||(if k=4/\CC u=false then false else enL k us a p))
 | [],a=>by simp[Qj,MT,IX,CT]
 | v::us,a=>by
  rw[List.cons_append,MT,MT,BD_ k u p us,Sj,AH,aC0,<-dA0]
  by_cases h4:k=4
  ·cases hu:CC u<;>cases hs:Hy us<;>simp[h4,Bool.or_assoc]
  ·simp[h4,Bool.or_assoc]
theorem GK_ (x:Nd) (ks:List RT) (a p q:Nat):TZ (.mk x ks) a p q=if (decide (x.k=6)||decide (x.k=7))&&hdL ks (a+1) p q then true else match lY ks (a+1) p q with
 | some b=>b
 | none=>decide (x.k=4)&&uJ ks (a+1) p q:=by rw[TZ]
theorem Jw (a p q:Nat):lY [] a p q=none:=by rw[lY]
theorem IK (u:RT) (us:List RT) (a p q:Nat):lY (u::us) a p q=if Lm u a p&&Lm u a q then some (TZ u a p q)else lY us (a+(flat u).length) p q:=by rw[lY]
theorem Uj : ∀(us:List RT) (a q:Nat),q<a->afL us a q=false
 | [],_,_,_=>rfl
 | u::us,a,q,h=>by
  rw[afL,TN_ (.inl h)];simp only[aK0,if_false];rw[Uj us _ q (by omega)];simp
theorem TW : ∀(us:List RT) (a p q:Nat),p<a\/q<a->uJ us a p q=false
 | [],_,_,_,_=>rfl
 | u::us,a,p,q,h=>by
  rw[uJ]
  split
  ·rename_i hp;rw[Ev]at hp;rw[Uj us _ q (by omega),dK0]
  ·exact TW us _ p q (by omega)
theorem Ua : ∀(us:List RT) (a p q:Nat),p<a\/q<a->lY us a p q=none
 | [],_,_,_,_=>by rw[Jw]
 | u::us,a,p,q,h=>by
  rw[IK,if_neg]
  ·exact Ua us _ p q (by omega)
  ·intro hh;rw[aM0,Ev,Ev]at hh;omega
def Lf (l:List Nd) (a p:Nat):Prop:=∀x,a<=p->l[p-a]? =some x->x.k=2\/x.k=3
theorem Lf.left {l m:List Nd} {a p:Nat} (h:Lf (l++m) a p):Lf l a p:=fun x h1 h2=>h x h1 (by
 rw[bC0 (aB0.1 h2).1];exact h2)
theorem Lf.right {l m:List Nd} {a p:Nat} (h:Lf (l++m) a p):Lf m (a+l.length) p:=fun x h1 h2=>h x (by omega) (by
 rw[bG0 (by omega),Nat.sub_sub];exact h2)
theorem Lf.kids {x:Nd} {ks:List RT} {a p:Nat} (h:Lf (flat (.mk x ks)) a p):Lf (Av ks) (a+1) p:=fun y h1 h2=>h y (by omega) (by
 rw[Bc,show p-a=(p-(a+1))+1 by omega,bT0];exact h2)
theorem Lf.head {x:Nd} {ks:List RT} {a p:Nat} (h:Lf (flat (.mk x ks)) a p) (hx:¬(x.k=2\/x.k=3)):a≠p:=fun e=>hx (h x (by omega) (by rw[Bc,show p-a=0 by omega];rfl))
theorem MA {x:Nd} {ks:List RT} (h:FU (.mk x ks)=true) (hx:x.k=2\/x.k=3):ks=[]:=by
 obtain⟨h1,h2,_⟩:=CV h;unfold Fe at h1
 have h0:x.n=0:=by
  rcases hx with hx | hx
  ·rw[if_neg (by omega),if_pos hx]at h1;simp only[aM0,decide_eq_true_eq]at h1;exact h1.1
  ·rw[if_neg (by omega),if_neg (by omega),if_pos hx]at h1;simp only[aM0,decide_eq_true_eq]at h1;exact h1.1
 exact bP0 (by omega)
theorem TL {x:Nd} {ks:List RT} (h:FU (.mk x ks)=true) (hx:x.k=6\/x.k=7\/x.k=8):∃u,ks=[u]:=by
 obtain⟨h1,h2,_⟩:=CV h;unfold Fe at h1
 have h0:x.n=1:=by
  rcases hx with hx | hx | hx<;>simp[hx]at h1<;>exact h1.2
 exact List.length_eq_one_iff.1 (by omega)
mutual
theorem Xb : ∀(t:RT) (a p:Nat),FU t=true->Lf (flat t) a p->(p∈XA t a↔Xc t a p=true)
 | .mk x ks,a,p,ok,hl=>by
  rw[RU,PR_]
  by_cases hx:x.k=2\/x.k=3
  ·rw[if_pos hx,MA ok hx,Ud];simp only[aG0,Bool.or_false,decide_eq_true_eq];exact eq_comm
  ·have qK:=hl.head hx;rw[if_neg hx,decide_eq_false qK,eO0];exact oZ x.k ks (a+1) p (CV ok).2.2 hl.kids
theorem oZ (k:Int):∀(us:List RT) (a p:Nat),HA us=true->Lf (Av us) a p->(p∈oE k us a↔bgL k us a p=true)
 | [],a,p,_,_=>by simp[NE,Ud]
 | u::us,a,p,ok,hl=>by
  obtain⟨ok1,XR⟩:=Cp ok;rw[AH]at hl;have i1:=Xb u a p ok1 hl.left;have i2:=oZ k us _ p XR hl.right;rw[IM,Xd,aI0,dI0,aM0]
  have e1:p∈XA u a↔(Lm u a p=true/\Xc u a p=true):=by
   rw[<-i1];exact⟨fun h=>⟨Ev.2 (MQ u a p h),h⟩,fun h=>h.2⟩
  rw[e1]
  by_cases hc:k=4/\CC u=false
  ·rw[if_pos hc,if_pos hc];simp
  ·rw[if_neg hc,if_neg hc,i2]
end
mutual
theorem Wo : ∀(t:RT) (a p:Nat),FU t=true->Lf (flat t) a p->(p∈Rf t a↔Qi t a p=true)
 | .mk x ks,a,p,ok,hl=>by
  rw[OQ,Px_]
  by_cases hx:x.k=2\/x.k=3
  ·rw[if_pos hx,MA ok hx,Qj];simp only[aG0,Bool.or_false,decide_eq_true_eq];exact eq_comm
  ·have qK:=hl.head hx;rw[if_neg hx,decide_eq_false qK,eO0];exact oG x.k ks (a+1) p (CV ok).2.2 hl.kids
theorem oG (k:Int):∀(us:List RT) (a p:Nat),HA us=true->Lf (Av us) a p->(p∈Th k us a↔enL k us a p=true)
 | [],a,p,_,_=>by simp[Jt,Qj]
 | u::us,a,p,ok,hl=>by
  obtain⟨ok1,XR⟩:=Cp ok;rw[AH]at hl;have i1:=Wo u a p ok1 hl.left;have i2:=oG k us _ p XR hl.right;rw[FY,MT,dI0,aM0,aM0,<-i2]
  have e1:p∈Rf u a↔(Lm u a p=true/\Qi u a p=true):=by
   rw[<-i1];exact⟨fun h=>⟨Ev.2 (JN u a p h),h⟩,fun h=>h.2⟩
  rw[<-e1]
  by_cases h4:k=4
  ·rw[if_pos h4,aI0];cases hs:Hy us<;>simp[h4]
  ·rw[if_neg h4,aI0];simp only[h4,decide_false,Bool.not_false,Bool.true_or,true_and];exact or_comm
end
mutual
theorem GJ_ : ∀(t:RT) (a p q:Nat),FU t=true->Lf (flat t) a p->Lf (flat t) a q->((p,q)∈arT t a↔TZ t a p q=true)
 | .mk x ks,a,p,q,ok,hp,hq=>by
  rw[Pc,GK_];obtain⟨_,_,XR⟩:=CV ok
  by_cases hx:x.k=2\/x.k=3
  ·rw[if_pos hx,MA ok hx,Jw,decide_eq_false (by omega),decide_eq_false (by omega),decide_eq_false (by omega)];simp
  ·rw[if_neg hx,aI0];have hL:=Iz_ x.k ks (a+1) [] p q XR hp.kids hq.kids (by simp);simp only[eH0,false_and,or_false]at hL;rw[hL]
   by_cases h67:x.k=6\/x.k=7
   ·rw[if_pos h67,HZ];have h4:¬x.k=4:=by omega
    have hk:x.k=6\/x.k=7\/x.k=8:=by omega
    obtain⟨u,rfl⟩:=TL ok hk;rw[oG x.k [u] (a+1) p XR hp.kids,oZ x.k [u] (a+1) q XR hq.kids];have h1:enL x.k [u] (a+1) p=(Lm u (a+1) p&&Qi u (a+1) p):=by rw[MT,Qj,IX];simp
    have h2:bgL x.k [u] (a+1) q=(Lm u (a+1) q&&Xc u (a+1) q):=by rw[Xd,Ud];simp
    have h3:hdL [u] (a+1) p q=(Qi u (a+1) p&&Xc u (a+1) q):=rfl;have i1:Qi u (a+1) p=true->Lm u (a+1) p=true:=fun h=>Ev.2 (JN u _ p ((Wo u (a+1) p (Cp XR).1 (by have:=hp.kids;rw[AH,CT,bM0]at this;exact this)).2 h))
    have i2:Xc u (a+1) q=true->Lm u (a+1) q=true:=fun h=>Ev.2 (MQ u _ q ((Xb u (a+1) q (Cp XR).1 (by have:=hq.kids;rw[AH,CT,bM0]at this;exact this)).2 h))
    have e67:(decide (x.k=6)||decide (x.k=7))=true:=by simpa using h67
    rw[h1,h2,h3,e67,bO0];simp only[h4,decide_false,bN0,false_and,or_false,aM0]
    by_cases hh:Qi u (a+1) p=true/\Xc u (a+1) q=true
    ·rw[if_pos hh];simp only[iff_true];exact .inr ⟨⟨i1 hh.1,hh.1⟩,i2 hh.2,hh.2⟩
    ·rw[if_neg hh]
     cases hf:lY [u] (a+1) p q with
     | none =>
      simp only[reduceCtorEq,false_or];exact⟨fun h=>absurd ⟨h.1.2,h.2.2⟩ hh,fun h=>by simp at h⟩
     | some b =>
      simp only[aA0];exact⟨fun h=>by rcases h with h | h;exact h;exact absurd ⟨h.1.2,h.2.2⟩ hh,fun h=> .inl h⟩
   ·have e67:(decide (x.k=6)||decide (x.k=7))=false:=by rw[dS0];simpa using h67
    rw[if_neg h67,e67,bN0];simp only[aK0,if_false,eH0,or_false]
    cases hf:lY ks (a+1) p q with
    | none=>simp
    | some b=>simp
theorem Iz_ (k:Int):∀(us:List RT) (a:Nat) (acc:List Nat) (p q:Nat),HA us=true->Lf (Av us) a p->Lf (Av us) a q->(∀r∈acc,r<a) ->
  ((p,q)∈arL k us a acc↔(lY us a p q=some true\/(k=4/\lY us a p q=none/\(uJ us a p q=true\/(p∈acc/\afL us a q=true)))))
 | [],a,acc,p,q,_,_,_,_=>by simp[Lt,Jw,uJ,afL]
 | u::us,a,acc,p,q,ok,hp,hq,mZ=>by
  obtain⟨ok1,XR⟩:=Cp ok;rw[AH]at hp hq;have iT:=GJ_ u a p q ok1 hp.left hq.left;have ib:=Xb u a q ok1 hq.left;have ie:=Wo u a p ok1 hp.left;have rT:=Hs_ u a p q;have rf:=MQ u a q;have rl:=JN u a p;have racc:p∈acc->p<a:=mZ p;obtain⟨a',kT⟩:∃a',a'=a+(flat u).length:=⟨_,rfl⟩;obtain⟨acc',dM⟩:∃acc',acc'=(if k=4 then Rf u a++(if CC u=true then acc else [])else []):=⟨_,rfl⟩
  have qV:∀r∈acc',r<a':=by
   intro r hr;rw[dM]at hr
   split at hr
   ·rcases aI0.1 hr with hr | hr
    ·have:=JN u a r hr;omega
    ·split at hr
     ·have:=mZ r hr;omega
     ·simp at hr
   ·simp at hr
  have iL:=Iz_ k us a' acc' p q XR (kT▸hp.right) (kT▸hq.right) qV
  have macc:k=4->(p∈acc'↔p∈Rf u a\/(CC u=true/\p∈acc)):=by
   intro h4;rw[dM,if_pos h4,aI0];cases CC u<;>simp
  rw[Fi,IK,uJ,afL,<-kT,<-dM,aI0,aI0,iL,iT]
  have mj:(p,q)∈(if k=4 then Dd acc (XA u a)else [])↔k=4/\p∈acc/\q∈XA u a:=by
   by_cases h4:k=4<;>simp[h4,HZ]
  rw[mj];clear hp hq mZ qV iL mj dM
  by_cases bp:Lm u a p=true
  ·have bp':=Ev.1 bp;have hna:¬p∈acc:=fun h=>by have:=racc h;omega
   by_cases bq:Lm u a q=true
   ·have bq':=Ev.1 bq;rw[bp,bq,Ua us a' p q (by omega),TW us a' p q (by omega),Uj us a' q (by omega)];simp[hna]
   ·have bq':¬(a<=q/\q<a+(flat u).length):=fun h=>bq (Ev.2 h)
    have hnT:¬TZ u a p q=true:=fun h=>bq' (rT (iT.2 h)).2
    rw[dX0]at bq;rw[bp,bq,Ua us a' p q (by omega),TW us a' p q (by omega)];simp only[hnT,hna,dK0,aK0,if_false,if_true,false_and,and_false,false_or,or_false,reduceCtorEq,true_and,aM0]
    constructor
    ·rintro⟨h4,h1,h2⟩;rw[macc h4]at h1
     rcases h1 with h1 | h1
     ·exact⟨h4,ie.1 h1,h2⟩
     ·exact absurd h1.2 hna
    ·rintro⟨h4,h1,h2⟩;exact⟨h4,(macc h4).2 (.inl (ie.2 h1)),h2⟩
  ·have bp':¬(a<=p/\p<a+(flat u).length):=fun h=>bp (Ev.2 h)
   have hnT:¬TZ u a p q=true:=fun h=>bp' (rT (iT.2 h)).1
   have bY:¬p∈Rf u a:=fun h=>bp' (rl h)
   rw[dX0]at bp
   by_cases bq:Lm u a q=true
   ·have bq':=Ev.1 bq;rw[bp,bq,Ua us a' p q (by omega),TW us a' p q (by omega),Uj us a' q (by omega)];simp only[hnT,bN0,aK0,if_false,if_true,false_and,and_false,false_or,or_false,reduceCtorEq,true_and];rw[ib]
   ·have bq':¬(a<=q/\q<a+(flat u).length):=fun h=>bq (Ev.2 h)
    have hnf:¬q∈XA u a:=fun h=>bq' (rf h)
    rw[dX0]at bq;rw[bp,bq];simp only[hnT,hnf,bN0,aK0,if_false,and_false,false_or]
    by_cases h4:k=4
    ·rw[macc h4];cases CC u<;>simp[bY]
    ·simp[h4]
end
mutual
theorem AR_ : ∀(t:RT) (a:Nat),(Rf t a).Nodup
 | .mk x ks,a=>by
  rw[OQ]
  split
  ·simp
  ·exact Za x.k ks (a+1)
theorem Za (k:Int):∀(us:List RT) (a:Nat),(Th k us a).Nodup
 | [],a=>by rw[Jt];simp
 | u::us,a=>by
  have h1:=AR_ u a;have h2:=Za k us (a+(flat u).length);rw[FY]
  split
  ·refine cB0.2 ⟨h2,?_,?_⟩
   ·split
    ·exact h1
    ·simp
   ·rintro x hx y hy rfl
    split at hy
    ·have:=MB k us _ x hx;have:=JN u a x hy;omega
    ·simp at hy
  ·refine cB0.2 ⟨h1,h2,?_⟩;rintro x hx y hy rfl;have:=MB k us _ x hy;have:=JN u a x hx;omega
end
-- what begins and ends are occurrences
mutual
theorem Qg : ∀(t:RT) (a q:Nat),q∈XA t a->∃x,(flat t)[q-a]? =some x/\(x.k=2\/x.k=3)
 | .mk x ks,a,q,h=>by
  rw[RU]at h
  split at h
  ·rename_i hx;simp at h;subst h;exact⟨x,by rw[Bc,eA0];rfl,hx⟩
  ·have h1:=OW x.k ks _ q h;obtain⟨y,hy,hk⟩:=Qh x.k ks _ q h;refine⟨y,?_,hk⟩;rw[Bc,show q-a=(q-(a+1))+1 by omega,bT0];exact hy
theorem Qh (k:Int):∀(us:List RT) (a q:Nat),q∈oE k us a->∃x,(Av us)[q-a]? =some x/\(x.k=2\/x.k=3)
 | [],a,q,h=>by simp[NE]at h
 | u::us,a,q,h=>by
  rw[IM,aI0]at h;rw[AH]
  rcases h with h | h
  ·have h1:=MQ u a q h;obtain⟨y,hy,hk⟩:=Qg u a q h;exact⟨y,by rw[bC0 (by omega)];exact hy,hk⟩
  ·split at h
   ·simp at h
   ·have h1:=OW k us _ q h;obtain⟨y,hy,hk⟩:=Qh k us _ q h;exact⟨y,by rw[bG0 (by omega),Nat.sub_sub];exact hy,hk⟩
end
mutual
theorem VF : ∀(t:RT) (a q:Nat),q∈Rf t a->∃x,(flat t)[q-a]? =some x/\(x.k=2\/x.k=3)
 | .mk x ks,a,q,h=>by
  rw[OQ]at h
  split at h
  ·rename_i hx;simp at h;subst h;exact⟨x,by rw[Bc,eA0];rfl,hx⟩
  ·have h1:=MB x.k ks _ q h;obtain⟨y,hy,hk⟩:=VH x.k ks _ q h;refine⟨y,?_,hk⟩;rw[Bc,show q-a=(q-(a+1))+1 by omega,bT0];exact hy
theorem VH (k:Int):∀(us:List RT) (a q:Nat),q∈Th k us a->∃x,(Av us)[q-a]? =some x/\(x.k=2\/x.k=3)
 | [],a,q,h=>by simp[Jt]at h
 | u::us,a,q,h=>by
  rw[FY]at h;rw[AH]
  have key:q∈Rf u a\/q∈Th k us (a+(flat u).length):=by
   split at h
   ·rcases aI0.1 h with h | h
    ·exact .inr h
    ·split at h
     ·exact .inl h
     ·simp at h
   ·exact aI0.1 h
  rcases key with h | h
  ·have h1:=JN u a q h;obtain⟨y,hy,hk⟩:=VF u a q h;exact⟨y,by rw[bC0 (by omega)];exact hy,hk⟩
  ·have h1:=MB k us _ q h;obtain⟨y,hy,hk⟩:=VH k us _ q h;exact⟨y,by rw[bG0 (by omega),Nat.sub_sub];exact hy,hk⟩
end
mutual
theorem QB : ∀(t:RT) (a p q:Nat),(p,q)∈arT t a->(∃x,(flat t)[p-a]? =some x/\(x.k=2\/x.k=3))/\(∃x,(flat t)[q-a]? =some x/\(x.k=2\/x.k=3))
 | .mk x ks,a,p,q,h=>by
  rw[Pc]at h
  have lift:∀r,a+1<=r->(∃x,(Av ks)[r-(a+1)]? =some x/\(x.k=2\/x.k=3))->∃y,(flat (.mk x ks))[r-a]? =some y/\(y.k=2\/y.k=3):=by
   rintro r hr ⟨y,hy,hk⟩;refine⟨y,?_,hk⟩;rw[Bc,show r-a=(r-(a+1))+1 by omega,bT0];exact hy
  split at h
  ·simp at h
  ·rcases aI0.1 h with h | h
   ·have h1:=tP x.k ks _ [] p q h;obtain⟨h2,h3⟩:=Ch_ x.k ks _ [] p q h;simp only[eH0,or_false]at h1 h2;exact⟨lift p h1.1.1 h2,lift q h1.2.1 h3⟩
   ·split at h
    ·obtain⟨h1,h2⟩:=HZ.1 h;exact⟨lift p (MB x.k ks _ p h1).1 (VH x.k ks _ p h1),lift q (OW x.k ks _ q h2).1 (Qh x.k ks _ q h2)⟩
    ·simp at h
theorem Ch_ (k:Int):∀(us:List RT) (a:Nat) (acc:List Nat) (p q:Nat),(p,q)∈arL k us a acc->((∃x,(Av us)[p-a]? =some x/\(x.k=2\/x.k=3))\/p∈acc)/\(∃x,(Av us)[q-a]? =some x/\(x.k=2\/x.k=3))
 | [],a,acc,p,q,h=>by simp[Lt]at h
 | u::us,a,acc,p,q,h=>by
  rw[Fi]at h;rw[AH]
  have l1:∀r,a<=r/\r<a+(flat u).length->(∃x,(flat u)[r-a]? =some x/\(x.k=2\/x.k=3))->∃y,(flat u++Av us)[r-a]? =some y/\(y.k=2\/y.k=3):=by
   rintro r hr ⟨y,hy,hk⟩;exact⟨y,by rw[bC0 (by omega)];exact hy,hk⟩
  have l2:∀r,a+(flat u).length<=r->(∃x,(Av us)[r-(a+(flat u).length)]? =some x/\(x.k=2\/x.k=3))->∃y,(flat u++Av us)[r-a]? =some y/\(y.k=2\/y.k=3):=by
   rintro r hr ⟨y,hy,hk⟩;exact⟨y,by rw[bG0 (by omega),Nat.sub_sub];exact hy,hk⟩
  simp only[aI0]at h
  rcases h with h | h | h
  ·have h1:=Hs_ u a p q h;obtain⟨h2,h3⟩:=QB u a p q h;exact⟨.inl (l1 p h1.1 h2),l1 q h1.2 h3⟩
  ·split at h
   ·obtain⟨h1,h2⟩:=HZ.1 h;exact⟨.inr h1,l1 q (MQ u a q h2) (Qg u a q h2)⟩
   ·simp at h
  ·obtain⟨h1,h2⟩:=tP k us _ _ p q h;obtain⟨h3,h4⟩:=Ch_ k us _ _ p q h;refine⟨?_,l2 q h2.1 h4⟩
   by_cases mZ:p∈acc
   ·exact .inr mZ
   left
   have h5:∀{c:List Nat},p∈(if k=4 then Rf u a++(if CC u=true then acc else [])else [])->p∈Rf u a:=by
    intro _ h
    split at h
    ·rcases aI0.1 h with h | h
     ·exact h
     ·split at h
      ·exact absurd h mZ
      ·simp at h
    ·simp at h
   by_cases hla:p∈Rf u a
   ·exact l1 p (JN u a p hla) (VF u a p hla)
   ·rcases h1 with h1 | h1
    ·rcases h3 with h3 | h3
     ·exact l2 p h1.1 h3
     ·exact absurd (h5 (c:=[]) h3) hla
    ·exact absurd (h5 (c:=[]) h1) hla
end
end Go.Proofs.Wy
end
section
namespace Go.Proofs.Wy
open Go Go.Dm Tryz
variable [DMode]
attribute [local irreducible] DW Bs Bv
set_option maxRecDepth 100000
theorem Bj : (⟨#[]⟩:ByteArray).size=0:=rfl
def DJ_ : Ann:=⟨[],[]⟩
theorem Lr_ (x:Nd):Ac prog 261 [.agg (BS x)] (.bool (Fe x)):=by
 refine Ab [] DJ_ func261 call261 ntmps261 mxd (Ap @DJ_.eq_1 results261) rfl (fun qJ B qX qQ=> ?_);simp only[Ak];have e1:=GR 319 upI JD x.s;have e2:=GR 320 loI JL x.s;unfold Fe emp
 by_cases k1:x.k=1
 ·exact Al Aa Aa (BC @BS.eq_1 @Bj k1)
 by_cases k2:x.k=2
 ·by_cases h0:x.n=0
  ·exact Al (Aq e1) Aa (Dx @BS.eq_1 @Bj k1 k2 h0)
  ·have zI:(x.n==0)=false:=by simpa using h0
   exact Al Aa Aa (EB @BS.eq_1 @Bj k1 k2 h0 zI)
 by_cases k3:x.k=3
 ·by_cases h0:x.n=0
  ·exact Al (Aq e2) Aa (EB @BS.eq_1 @Bj k1 k2 k3 h0)
  ·have zI:(x.n==0)=false:=by simpa using h0
   exact Al Aa Aa (Ez @BS.eq_1 @Bj k1 k2 k3 h0 zI)
 by_cases k4:x.k=4
 ·exact Al Aa Aa (EB @BS.eq_1 @Bj k1 k2 k3 k4)
 by_cases k5:x.k=5
 ·exact Al Aa Aa (Ez @BS.eq_1 @Bj k1 k2 k3 k4 k5)
 by_cases k6:x.k=6
 ·exact Al Aa Aa (Ji @BS.eq_1 @Bj k1 k2 k3 k4 k5 k6)
 by_cases k7:x.k=7
 ·exact Al Aa Aa (OD @BS.eq_1 @Bj k1 k2 k3 k4 k5 k6 k7)
 by_cases k8:x.k=8
 ·exact Al Aa Aa (Hn @BS.eq_1 @Bj k1 k2 k3 k4 k5 k6 k7 k8)
 exact Al Aa Aa (Hn @BS.eq_1 @Bj k1 k2 k3 k4 k5 k6 k7 k8)
def Fm (r:List Nd) (w:Nat):Bool:=match Gm r w with
 | some []=>true
 | _=>false
theorem aF (x:Nd) (r:List Nd):Fm (x::r) 0=false:=by unfold Fm;rw[Dj]
theorem Pg {r:List Nd} {w:Nat} (h:Gm r w=none):Fm r w=false:=by unfold Fm;rw[h]
theorem aG {x:Nd} {r:List Nd} {w:Nat} (h:Fe x=true):Fm (x::r) (w+1)=Fm r (w+x.n.toNat):=by unfold Fm;rw[EO,if_pos h]
theorem uK (w:Nat):Fm [] w=decide (w=0):=by
 unfold Fm
 cases w with
 | zero=>rw[Dj];rfl
 | succ w=>rw[Ku];rfl
def DK_ : Ann:=⟨[],[⟨4,[5],[],[]⟩]⟩
theorem HH (l:List Nd) (hs:l.length<=1572864):Ac prog 181 [Bl l] (.bool (Ei l)):=by
 refine Ab [] DK_ func181 call181 ntmps181 mxd (Ap @DK_.eq_1 results181) rfl (fun qJ B qX qQ=> ?_);clear qJ;simp only[Ak];obtain⟨R,hR⟩:∃R,R=Ei l:=⟨_,rfl⟩;rw[<-hR];have wX:Fm l 1=R:=by rw[hR];rfl
 clear hR
 (refine Au Aa Aa Aa ?_;intros;refine Ae ?_)
 refine Af (X:={p:Nat×Nat//p.1<=l.length/\Fm (l.drop p.1) p.2=R/\p.2<=1+p.1*1572864/\(p.1=0->p.2=1)}) (fun p=>⟨[(0,Bl l),(3,.int .i64 p.1.2),(6,Bl l),(7,.int .i64 l.length),(8,.int .i64 p.1.1)],[]⟩) (fun p=>l.length-p.1.1) ⟨(0,1),by simp[wX]⟩ (Sub.lit (by simp)) ?_;clear wX;rintro⟨⟨k,w⟩,hk,hw,rM,hw0⟩;simp only at hk hw rM hw0 |-
 by_cases qV:k<l.length
 ·obtain⟨x,hx,qU,_⟩:=Ai qV;rw[aP0 qV,qU]at hw;have e1:=Lr_ x;simp only[BS]at e1
  cases w with
  | zero =>
   rw[aF]at hw;subst hw;exact Al Aa Aa (CG @BS.eq_1 qV hx qU)
  | succ v =>
   have hv:¬(v:Int)+1=0:=by omega
   have bI:(((v:Int)+1)==0)=false:=by simpa using hv
   cases hm:Fe x
   ·rw[hm]at e1;rw[Pg (by rw[EO,hm];rfl)]at hw;subst hw;exact Al (Aq e1) Aa (EB @BS.eq_1 qV hx qU hv bI)
   ·rw[hm]at e1;have vT:=Kg hm;obtain⟨c,kJ⟩:∃c:Nat,x.n=(c:Int):=⟨x.n.toNat,by omega⟩;rw[kJ]at e1;rw[aG hm,kJ,cI0]at hw
    by_cases kS:l.length<c
    ·have jK:(l.length:Int)<(c:Int):=by omega
     rw[Pg (Wn _ _ (by rw[cD0];omega))]at hw;subst hw;exact Al (Aq e1) Aa (OD @BS.eq_1 qV hx qU hv bI kJ kS jK)
    ·have jK:¬(l.length:Int)<(c:Int):=by omega
     have q1:IntKind.i64.wrap ((c:Int)-1)=(c:Int)-1:=wq;have q2:IntKind.i64.wrap ((v:Int)+1+((c:Int)-1))=(v:Int)+(c:Int):=by rw[wq];omega
     (refine Au (Aq e1) Aa (Hm @BS.eq_1 qV hx qU hv bI kJ kS jK q1 q2) ?_;intros;refine Ae ?_)
     refine Ag.mk ⟨(k+1,v+c),show k+1<=l.length/\Fm (l.drop (k+1)) (v+c)=R/\v+c<=1+(k+1)*1572864/\(k+1=0->v+c=1) from ⟨by omega,hw,by omega,by omega⟩⟩ (Sub.lit (by simp)) (by simp;omega)
     skip
 ·have qY:k=l.length:=by omega
  subst qY;rw[bE0,uK]at hw
  cases w with
  | zero =>
   have kU:0<l.length:=by
    rcases fG0 l.length with h | h
    ·have:=hw0 h;omega
    ·exact h
   simp only[decide_true]at hw;subst hw;exact Al Aa Aa (Aq kU)
  | succ v =>
   have yI:R=false:=by rw[<-hw];simp
   subst yI;have hv:¬(v:Int)+1=0:=by omega
   have bI:(((v:Int)+1)==0)=false:=by simpa using hv
   exact Al Aa Aa (Ap hv bI)
end Go.Proofs.Wy
end
section
namespace Go.Dm
variable [DMode]
theorem Og_ {cur:Gp} {M:List Nat} {h:Array Obj} {l:Loc} {obj:DObj} (hk:Nh cur M h l obj):∀b∈l.blks,∀c,h[b]? ≠some (.deferred c):=by
 intro b hb c hc
 cases obj with
 | box cs =>
  obtain⟨b',arr,ty,h1,h2,_⟩:=hk;rw[h1]at hb;simp only[aG0]at hb;subst hb;rw[h2]at hc;simp at hc
 | row et k bs es =>
  obtain⟨_,⟨_,h1,_⟩ | ⟨b',arr,cap,h1,h2,h3,_⟩⟩:=hk
  ·rw[h1]at hb;cases hb
  ·rw[h1]at hb;simp only[aG0]at hb;subst hb;rw[h3]at hc;simp at hc
 | map ks vs =>
  obtain⟨b',es,clk,h1,h2,_⟩:=hk;rw[h1]at hb;simp only[aG0]at hb;subst hb;rw[h2]at hc;simp at hc
 | abs A=>exact A.nd _ _ _ _ hk b hb c hc
def MI_ (sl:List (Nat×DVal)) (hsl:Nv sl<=1) (own:List Ent) (tm:Array Value) (own0:List Ent) (loc0:Nat->Loc) (l:Nat) (L:Loop):Abs where
 J:=fun M bl hd h=>hd= .func (.yield l) #[] #[]/\∃loc,bl=Ad own loc++[l]/\(own.map (·.id)).Nodup/\(∀e∈own,Nh (Aj own loc) M h (loc e.id) e.obj) /\
  (∀p∈sl,rd (Aj own loc) M h p.2 (tm.getD p.1 Go.undef))/\h[l]? =some (.loop L)/\(∀e∈own,e.r<1->Aj own0 loc0 e.id e.r=some (loc e.id))
 weak:=by
  rintro M M' bl hd h h' hb hm hk ⟨h1,loc,h2,h3,h4,h5,h6,h7⟩;have W:∀n,Weak (Aj own loc) (Aj own loc) M M' h h' n:=fun n=>⟨fun _ _ _ _ h=>h,hb,hm⟩
  refine⟨h1,loc,h2,h3,fun e he=>BF (W _) (Nat.le_refl _) (fun b o qG ho=>hk b o ?_ ho) (h4 e he),fun p hp=>Db (W _) _ _ (Nat.le_refl _) (h5 p hp),hk l _ ?_ h6,h7⟩
  ·rw[h2];exact aS0 _ (Bw he qG)
  ·rw[h2];simp
 one:=by rintro _ _ _ _ ⟨rfl,_⟩;exact⟨rfl,rfl⟩
 nd:=by
  rintro M bl hd h ⟨_,loc,rfl,_,h4,_,h6,_⟩ b hb c hc
  rcases aI0.1 hb with hb | hb
  ·obtain⟨e,he,hb⟩:=bV0.1 hb;exact Og_ (h4 e he) b hb c hc
  ·simp only[aG0]at hb;subst hb;rw[h6]at hc;simp at hc
def XP : List Nat->List DVal->List (Nat×DVal)->List (Nat×DVal)
 | p::ps,d::ds,l=>XP ps ds ((p,d)::l)
 | _,_,l=>l
theorem Sr : ∀(z:List (Nat×Value)) (t:Array Value),(z.foldl (fun t p=>t.setIfInBounds p.1 p.2) t).size=t.size
 | [],t=>rfl
 | p::z,t=>by rw[cM0,Sr z];simp
theorem HY_ {cur:Gp} {M:List Nat} {h:Array Obj}:∀(ps:List Nat) (ds:List DVal) (vs:List Value) (l:List (Nat×DVal)) (t:Array Value),ds.length=ps.length->(∀p∈ps,p<t.size)->AL cur M h ds vs ->
  (∀i,rd cur M h (BL l i) (t.getD i Go.undef))->∀i,rd cur M h (BL (XP ps ds l) i) (((ps.zip vs).foldl (fun t p=>t.setIfInBounds p.1 p.2) t).getD i Go.undef)
 | [],ds,vs,l,t,hl,hp,hr,hs=>by
  cases ds with
  | nil=>simpa[XP]using hs
  | cons d ds=>simp at hl
 | p::ps,[],vs,l,t,hl,hp,hr,hs=>by simp at hl
 | p::ps,d::ds,vs,l,t,hl,hp,hr,hs=>by
  simp only[AL]at hr;obtain⟨v,r,rfl,h1,h2⟩:=hr;simp only[XP,List.zip_cons_cons,cM0];refine HY_ ps ds r _ _ (by simpa using hl) (fun q hq=>by simpa using hp q (aE0 _ hq)) h2 ?_;intro i;have qV:=hp p aF0;simp only[BL,aW0,dD0]
  by_cases hi:i=p
  ·subst hi;simpa[qV]using h1
  ·rw[if_neg hi,if_neg (fun h=>hi h.symm)];have:=hs i;simpa[aW0]using this
theorem Bi_ : ∀(l:List (Nat×DVal)) (i:Nat),BL l i= .any\/(i,BL l i)∈l
 | [],i=> .inl rfl
 | (j,d)::l,i=>by
  simp only[BL]
  split
  ·rename_i h;subst h;exact .inr (by simp)
  ·exact(Bi_ l i).imp id (fun h=>aE0 _ h)
def RQ (B:Base) (okk:Bool) (S:List Ent) (j:Code):Exit->DS->Prop
 | .normal,s=>okk=true/\Sub B ⟨[],s.own⟩ ⟨[],S⟩
 | .ret,s=>okk=false/\j= .ret/\Sub B ⟨[],s.own⟩ ⟨[],S⟩
 | .exit id,s=>okk=false/\j= .exit id/\Sub B ⟨[],s.own⟩ ⟨[],S⟩
 | .goto t,s=>okk=false/\j= .goto t/\Sub B ⟨[],s.own⟩ ⟨[],S⟩
 | _,_=>False
def RB (P:Program) (nt:Nat) (body:Code) (okk:Bool) (S:List Ent) (j:Code) (s:DS):Prop:=∀B:Base,B.nt=nt->DW P B body (RQ B okk S j) s
theorem Ui_ {P:Program} {nt:Nat} {body:Code} {okk:Bool} {S:List Ent} {j:Code} {s:DS} (h:∀B:Base,B.nt=nt->DW P B body (RQ B okk S j) s):RB P nt body okk S j s:=h
def RA (P:Program) (nt:Nat) (body:Code) (okk:Bool) (S:List Ent) (j:Code):Exit->DS->Prop
 | .normal,s=>RB P nt body okk S j s
 | _,_=>False
theorem Ha_ {own own':List Ent} {loc loc':Nat->Loc} {M M':List Nat} {h h':Array Obj} {n:Nat} (hc:∀e∈own',e.r<n->Aj own loc e.id e.r=some (loc' e.id)) (hb:∀(b:Nat) (o:Obj),b∉M->IZ o=true->h[b]? =some o->h'[b]? =some o)
  (hm:∀b∈M',b∈M\/h.size<=b):Weak (Aj own loc) (Aj own' loc') M M' h h' n where
 c:=by
  intro id r l hr hl;obtain⟨e,he,rfl,rfl,rfl⟩:=Cj hl;exact hc e he hr
 b:=hb
 m:=by
  intro b o qG _ ho zA
  rcases hm b zA with h1 | h1
  ·exact qG h1
  ·have:=(aH0.1 ho).1;omega
theorem GZ (w:World) (l:Nat) (o:Obj):(w.putObj l o).heap.size=w.heap.size:=by simp[World.putObj]
theorem Td_ {P:Program} {sl:List (Nat×DVal)} {hsl:Nv sl<=1} {own S:List Ent} {tm:Array Value} {own0:List Ent} {loc0:Nat->Loc} {l nt:Nat} {L:Loop} {x:List DVal} {okk:Bool} {j:Code}
  (hL:L.state= .ready) (hLp:L.pending=none) (hLt:L.tmps=tm) (qX:tm.size=nt) (hx:x.length=L.params.size) (dK:∀p∈L.params.toList,p<nt) (hx0:AV x=0)
  (h:∀B:Base,B.nt=nt->DW P B L.assign (RA P nt L.body okk S j) ⟨XP L.params.toList x sl,own⟩) :
  YAt P l (MI_ sl hsl own tm own0 loc0 l L) x okk (MI_ sl hsl S tm own0 loc0 l { L with state:=if okk then .ready else .done,pending:=if okk then none else some j }):=by
 rintro M bl hd w vs hnd sA mL ⟨rfl,loc,rfl,hidn,vX,gK,yE,hver0⟩ vN;have hlM:l∈M:=sA l (by simp)
 have dJ:l∉Ad own loc:=by
  intro hm;rw[cB0]at hnd;exact hnd.2.2 l hm l (by simp) rfl
 have hhotM:∀b∈Ad own loc,b∈M:=fun b hb=>sA b (aS0 _ hb)
 have qZ:=AM _ _ vN;simp only[bU0]at qZ;have hy:=run_yield (P:=P) (args:=vs) yE (by omega)
 -- the base of the assignment
 let M0:List Nat:=M.filter (fun b=> !(Ad own loc).contains b)
 have hM0:∀b,b∈M0↔b∈M/\b∉Ad own loc:=by
  intro b;simp only[M0,cQ0,List.contains_eq_mem,eN0,decide_eq_false_iff_not]
 have hMM:∀b,b∈Ad own loc++M0↔b∈M:=by
  intro b;rw[aI0,hM0]
  constructor
  ·rintro (h | h)
   ·exact hhotM b h
   ·exact h.1
  ·intro h
   by_cases hb:b∈Ad own loc
   ·exact .inl hb
   ·exact .inr ⟨h,hb⟩
 have W0:∀n,Weak (Aj own loc) (Aj own loc) M (Ad own loc++M0) w.heap w.heap n:=fun n =>
  ⟨fun _ _ _ _ h=>h,fun b o _ (_:IZ o=true) ho=>ho,fun b o hb (_:IZ o=true) _ hm=>hb ((hMM b).1 hm)⟩
 let B1:Base:=⟨own,loc,M0,1,w,nt,some l,by decide,w.heap.size,Nat.le_refl _⟩
 let a1:Act:={ tmps:=(L.params.zip vs).foldl (fun tmps (t,a)=>tmps.setIfInBounds t a) L.tmps,defers:=[] }
 have tY:a1.tmps=(L.params.toList.zip vs.toList).foldl (fun t p=>t.setIfInBounds p.1 p.2) tm:=by
  show (L.params.zip vs).foldl _ _=_
  rw[<-Array.foldl_toList,Array.toList_zip,hLt]
 have R1:Rel B1 ⟨XP L.params.toList x sl,own⟩ a1 w loc:=by
  refine⟨⟨hidn,?_,fun b hb hm=>((hM0 b).1 hm).2 hb,fun b hb=>mL b ((hMM b).1 hb),fun e he=>BF (W0 _) (Nat.le_refl _) (fun _ _ _ h=>h) (vX e he)⟩,Upd.refl _ _,fun b hb=> .inl hb,fun e he _=>Ba hidn he,?_,?_,⟨[],rfl,List.nodup_nil,by simp⟩⟩
  ·rw[cB0]at hnd;exact hnd.1
  ·intro i;rw[tY];refine HY_ _ _ _ _ _ (by simpa using hx) (fun p hp=>by rw[qX];exact dK p hp) ?_ ?_ i
   ·exact Bn (n:=0) ⟨fun _ _ _ h=>by omega,fun b o _ (_:IZ o=true) ho=>ho,fun b o hb (_:IZ o=true) _ hm=>hb ((hMM b).1 hm)⟩ _ _ (dP0 hx0) vN
   ·intro q
    rcases Bi_ sl q with h1 | h1
    ·rw[h1];simp[rd]
    ·exact Db (W0 _) _ _ (Nat.le_refl _) (gK _ h1)
  ·rw[tY,Sr];exact qX
 refine⟨L.fn,_,L.assign,L.body,hy,roundIn_of_wpIn (F:=wd none) trivial ?_⟩;refine wpIn_mono (h B1 rfl a1 w loc R1) ?_;rintro e a' w' ⟨s',loc',hq,R'⟩
 cases e<;>simp only[RA]at hq<;>first
  | exact hq.elim
  | skip
 -- the record lies as it lay
 have mI:w'.heap[l]? =some (.loop L):=by
  rw[R'.upd.blk l (aH0.1 yE).1 dJ];exact yE
 have hllt:l<w'.heap.size:=(aH0.1 mI).1;refine⟨w'.putObj l (.loop { L with state:= .busy }),run_beginRound mI hL,?_⟩;obtain⟨w2,yI⟩:∃w2,w2=w'.putObj l (.loop { L with state:= .busy }):=⟨_,rfl⟩;rw[<-yI];have hsz2:w2.heap.size=w'.heap.size:=by rw[yI];exact GZ _ _ _
 have hoth:∀b,b≠l->w2.heap[b]? =w'.heap[b]? :=fun b hb=>by rw[yI];exact World.putObj_heap_other hb
 have sT:w2.heap[l]? =some (.loop { L with state:= .busy }):=by rw[yI];exact World.putObj_heap_same hllt
 have hlM0:l∈M0:=(hM0 l).2 ⟨hlM,dJ⟩;have nH:l∉Ad s'.own loc':=fun hm=>R'.st.ap l hm hlM0
 have hd2:∀(b:Nat) (o:Obj),IZ o=true->w'.heap[b]? =some o->w2.heap[b]? =some o:=by
  intro b o ho hb;rw[hoth b (fun he=>by subst he;rw[mI]at hb;simp only[aA0]at hb;subst hb;simp[IZ]at ho)];exact hb
 have St2:St s'.own loc' M0 w2.heap:=R'.st.same (dP0 hsz2.symm) hd2 (fun b o hm hb=>by rw[hoth b (fun he=>nH (he▸hm))];exact hb)
 have W2:∀n,Weak (Aj s'.own loc') (Aj s'.own loc') (Ad s'.own loc'++M0) (Ad s'.own loc'++M0) w'.heap w2.heap n:=fun n =>
  ⟨fun _ _ _ _ h=>h,fun b o _ (h1:IZ o=true) h2=>hd2 b o h1 h2,fun b o hb (_:IZ o=true) _=>hb⟩
 let B2:Base:=⟨s'.own,loc',M0,1,w2,nt,some l,by decide,w2.heap.size,Nat.le_refl _⟩
 obtain⟨rs,gS,_,_,hrs2⟩:=R'.df;have hz:rs=[]:=hrs2 (by simp[B1])
 let B2:Base:=⟨s'.own,loc',M0,1,w2,nt,some l,by decide,w2.heap.size,Nat.le_refl _⟩
 have R2:Rel B2 s' a' w2 loc' :=
  ⟨St2,Upd.refl _ _,fun b hb=> .inl hb,fun e he _=>Ba St2.nd he,fun i=>Db (W2 _) _ _ (Nat.le_refl _) (R'.sl i),R'.nt,⟨[],by rw[hz]at gS;simpa using gS,List.nodup_nil,by simp⟩⟩
 refine wpIn_mono (hq B2 rfl a' w2 loc' R2) ?_;rintro e a2 w3 ⟨s3,loc3,kE,R3⟩
 have kZ:w3.heap[l]? =some (.loop { L with state:= .busy }):=by
  rw[R3.upd.blk l (aH0.1 sT).1 nH];exact sT
 have fin:∀(jump:Option Code),Sub B2 ⟨[],s3.own⟩ ⟨[],S⟩->jump.isNone=okk->jump=(if okk then none else some j)->∃v w4,(Instr.endRound l jump).run P w3= .ok v w4/\∃v0,Ending.returned v= .returned v0/\v0= .bool okk/\∃bl',Upd (Ad own loc++[l]) w w4/\bl'.Nodup/\(∀q∈bl',q<w4.heap.size/\(q∈Ad own loc++[l]\/w.heap.size<=q)) /\
   ∀M',(∀q∈M',q∈bl'\/(q∈M/\q∉Ad own loc++[l]))->(MI_ sl hsl S tm own0 loc0 l { L with state:=if okk then .ready else .done,pending:=if okk then none else some j }).J M' bl' (.func (.yield l) #[] #[]) w4.heap:=by
  intro jump jN mP mJ;have qR:=run_endRound (P:=P) jump kZ
  have hrec':({ ({ L with state:= .busy }:Loop)with state:=if jump.isNone then .ready else .done,pending:=jump }:Loop)={ L with state:=if okk then .ready else .done,pending:=if okk then none else some j }:=by
   rw[mP,mJ]
  rw[hrec',mP]at qR;obtain⟨w4,yL⟩:∃w4,w4=w3.putObj l (.loop { L with state:=if okk then .ready else .done,pending:=if okk then none else some j }):=⟨_,rfl⟩;rw[<-yL]at qR;have tQ:=(aH0.1 kZ).1;have rF:w4.heap.size=w3.heap.size:=by rw[yL];exact GZ _ _ _
  have fH:∀b,b≠l->w4.heap[b]? =w3.heap[b]? :=fun b hb=>by rw[yL];exact World.putObj_heap_other hb
  have hl4:w4.heap[l]? =some (.loop { L with state:=if okk then .ready else .done,pending:=if okk then none else some j }):=by rw[yL];exact World.putObj_heap_same tQ
  have R3':Rel B2 ⟨[],s3.own⟩ a2 w3 loc3:=⟨R3.st,R3.upd,R3.new,R3.ver,fun i=>by simp[BL,rd],R3.nt,R3.df⟩;obtain⟨loc4,R4⟩:=jN a2 w3 loc3 R3';have nK:l∉Ad S loc4:=fun hm=>R4.st.ap l hm hlM0
  have uput:∀(v:World) (o:Obj),Upd [l] v (v.putObj l o):=fun v o=>⟨rfl,rfl,rfl,fun _=>Nat.le_refl _,by rw[GZ];exact Nat.le_refl _,fun b _ hb=>World.putObj_heap_other (fun h=>hb (by simp[h]))⟩
  have U1:Upd (Ad own loc++[l]) w w':=(Upd.refl _ w).trans R'.upd (fun x hx=> .inl (aS0 _ hx));have U2:Upd (Ad own loc++[l]) w w2:=by rw[yI];exact U1.trans (uput _ _) (fun x hx=> .inl (aV0 _ hx))
  have U3:Upd (Ad own loc++[l]) w w3:=U2.trans R4.upd (fun x hx=>(R'.new x hx).imp (fun h=>aS0 _ h) id);have U4:Upd (Ad own loc++[l]) w w4:=by rw[yL];exact U3.trans (uput _ _) (fun x hx=> .inl (aV0 _ hx))
  have gL:∀q∈Ad S loc4,q<w4.heap.size/\(q∈Ad own loc++[l]\/w.heap.size<=q):=by
   intro q hq;refine⟨by rw[rF];exact R4.st.lt q (aS0 _ hq),?_⟩
   rcases R4.new q hq with h | h
   ·exact(R'.new q h).imp (fun h=>aS0 _ h) id
   ·exact .inr (Nat.le_trans U2.size h)
  refine⟨_,w4,qR,_,rfl,rfl,Ad S loc4++[l],U4,?_,?_,?_⟩
  ·rw[cB0];exact⟨R4.st.bl,by simp,fun b hb b' qG fM=>nK (by simp only[aG0]at qG;rw[<-qG,<-fM];exact hb)⟩
  ·intro q hq
   rcases aI0.1 hq with hq | hq
   ·exact gL q hq
   ·simp only[aG0]at hq;subst hq;exact⟨by rw[rF];exact tQ,.inl (by simp)⟩
  ·intro M' hM'
   have pW:∀e∈S,e.r<1->Aj own loc e.id e.r=some (loc4 e.id):=by
    intro e he qV;obtain⟨e1,h1,h2,h3,h4⟩:=Cj (R4.ver e he qV);have h5:=R'.ver e1 h1 (by show e1.r<1;omega);rw[h2,h3]at h5;rw[h4];exact h5
   have hinM:∀b∈M',b∈Ad S loc4++M0:=by
    intro b hb
    rcases hM' b hb with h | ⟨h1,h2⟩
    ·rcases aI0.1 h with h | h
     ·exact aS0 _ h
     ·simp only[aG0]at h;subst h;exact aV0 _ hlM0
    ·exact aV0 _ ((hM0 b).2 ⟨h1,fun h=>h2 (aS0 _ h)⟩)
   have hd4:∀(b:Nat) (o:Obj),IZ o=true->w3.heap[b]? =some o->w4.heap[b]? =some o:=by
    intro b o ho hb;rw[fH b (fun he=>by subst he;rw[kZ]at hb;simp only[aA0]at hb;subst hb;simp[IZ]at ho)];exact hb
   have W4:∀n,Weak (Aj S loc4) (Aj S loc4) (Ad S loc4++M0) M' w3.heap w4.heap n:=fun n =>
    ⟨fun _ _ _ _ h=>h,fun b o _ (h1:IZ o=true) h2=>hd4 b o h1 h2,fun b o hb (_:IZ o=true) _ hm=>hb (hinM b hm)⟩
   have W5:Weak (Aj own loc) (Aj S loc4) M M' w.heap w4.heap 1:=by
    refine Ha_ pW (fun b o hb _ ho=> ?_) (fun b hb=> ?_)
    ·rw[U4.blk b (aH0.1 ho).1 (fun h=>hb (sA b h))];exact ho
    ·rcases hM' b hb with h | ⟨h1,_⟩
     ·rcases aI0.1 h with h | h
      ·exact(gL b h).2.imp (sA b) id
      ·simp only[aG0]at h;subst h;exact .inl hlM
     ·exact .inl h1
   refine⟨rfl,loc4,rfl,R4.st.nd,fun e he=> ?_,fun p hp=> ?_,hl4,fun e he qV=> ?_⟩
   ·exact BF (W4 _) (Nat.le_refl _) (fun b o hb ho=>by rw[fH b (fun h=>nK (h▸Bw he hb))];exact ho) (R4.st.ok e he)
   ·refine Db W5 _ _ (Nat.le_trans ?_ hsl) (gK p hp)
    have:∀(l:List (Nat×DVal)),p∈l->mx p.2<=Nv l:=by
     intro l
     induction l with
     | nil=>intro h;cases h
     | cons q l ih =>
      intro h;simp only[Nv]
      rcases aL0.1 h with rfl | h
      ·omega
      ·have:=ih h;omega
    exact this sl hp
   ·obtain⟨e1,h1,h2,h3,h4⟩:=Cj (pW e he qV);have h5:=hver0 e1 h1 (by omega);rw[h2,h3]at h5;rw[h4];exact h5
 cases e<;>simp only[RQ]at kE<;>simp only[roundPost]
 ·obtain⟨rfl,hs⟩:=kE;exact fin none hs rfl rfl
 ·obtain⟨rfl,rfl,hs⟩:=kE;exact fin _ hs rfl rfl
 ·obtain⟨rfl,rfl,hs⟩:=kE;exact fin _ hs rfl rfl
 ·obtain⟨rfl,rfl,hs⟩:=kE;exact fin _ hs rfl rfl
def Dz (ok:Nat->Bool):Nat->Option Nat
 | 0=>none
 | n+1=>match Dz ok n with
  | some k=>some k
  | none=>if ok n then none else some n
def Qq_ (P:Program) (f:FuncId) (us cs:List DVal) (xs:List (List DVal)) (ok:Nat->Bool):Prop :=
 ∀(l:Nat) (A Z:Nat->Abs),(∀k x,xs[k]? =some x->(∀j,j<k->ok j=true)->YAt P l (A k) x (ok k) (if ok k then A (k+1)else Z k)) ->
  AS P (.func f) (us++ .pk 0 0::cs) [⟨0,0,.abs (yH l)⟩,⟨1,0,.abs (A 0)⟩] (.tup []) [⟨0,0,.abs (yH l)⟩,⟨1,1,.abs (match Dz ok xs.length with | none=>A xs.length | some k=>Z k)⟩]
def OF_ (P:Program) (c:Code) (idx:List Nat) (nt:Nat) (e0:Exit):RW_:=fun vs w R=>∀a:Act,idx.map (fun i=>a.tmps.getD i Go.undef)=vs.toList->a.tmps.size=nt ->
 c.wpIn (wd none) 0 P (fun e a' w'=>e=e0/\(∃D,a'={ a with defers:={ target:= .collected D,args:= #[] }::a.defers }/\w.heap.size<=D/\w'.heap[D]? =some (.deferred (some [])))/\R (.tuple #[]) w') a w
theorem HW_ {cur:Gp} {M:List Nat} {h:Array Obj} {f:Nat->Value}:∀{sl:List (Nat×DVal)},AL cur M h (sl.map (·.2)) (sl.map fun p=>f p.1)->∀p∈sl,rd cur M h p.2 (f p.1)
 | [],_,p,hp=>by cases hp
 | q::sl,hr,p,hp=>by
  simp only[List.map_cons,AL]at hr;obtain⟨v,r,he,h1,h2⟩:=hr;simp only[bL0]at he;obtain⟨rfl,rfl⟩:=he
  rcases aL0.1 hp with rfl | hp
  ·exact h1
  ·exact HW_ h2 p hp
theorem Lt_ {P:Program} {gt nt:Nat} {ps:Array Tmp} {assign body:Code} {f:FuncId} {us cs:List DVal} {xs:List (List DVal)} {ok:Nat->Bool} {sl:List (Nat×DVal)} {S Z:Nat->List Ent} {jc:Nat->Code} {T:List Ent} {e0:Exit}
  (hsl:Nv sl<=1) (hI:Qq_ P f us cs xs ok) (zE:AV us=0/\AV cs=0) (hgt:(gt,.fn (.func f) us cs)∈sl) (dK:∀x∈xs,x.length=ps.size/\AV x=0) (hpn:∀p∈ps.toList,p<nt)
  (round:∀k x,xs[k]? =some x->(∀j,j<k->ok j=true)->∀B:Base,B.nt=nt->DW P B assign (RA P nt body (ok k) (if ok k then S (k+1)else Z k) (jc k)) ⟨XP ps.toList x sl,S k⟩)
  (hT:match Dz ok xs.length with | none=>e0= .normal/\T=S xs.length | some k=>(jc k= .ret/\e0= .ret\/(∃id,jc k= .exit id/\e0= .exit id)\/(∃t,jc k= .goto t/\e0= .goto t))/\T=Z k) :
  Qx_ (OF_ P (.rangeFunc (.tmp gt) ps assign body) (sl.map (·.1)) nt e0) (sl.map (·.2)) (S 0) (.tup []) T:=by
 intro M w loc vs St0 hr a vN qX
 have gK:∀p∈sl,rd (Aj (S 0) loc) (Ad (S 0) loc++M) w.heap p.2 (a.tmps.getD p.1 Go.undef):=by
  refine HW_ (f:=fun i=>a.tmps.getD i Go.undef) ?_;rw[<-vN,cF0]at hr;exact hr
 have hg:=gK _ hgt;simp only[rd]at hg;obtain⟨us',cs',hv,zF,zR⟩:=hg;refine wpIn_rangeFunc ?_;intro fn hfn;obtain⟨rec,yE⟩:∃rec:Loop,rec={ state:= .ready,pending:=none,fn,tmps:=a.tmps,params:=ps,assign,body,defers:=w.heap.size }:=⟨_,rfl⟩;obtain⟨W1,cE⟩:∃W1,W1=(w.alloc (.deferred (some []))).alloc (.loop rec):=⟨_,rfl⟩;obtain⟨l,hl⟩:∃l,l=w.heap.size+1:=⟨_,rfl⟩;have hsz1:W1.heap.size=w.heap.size+2:=by rw[cE];simp
 have nA:∀b,b<w.heap.size->W1.heap[b]? =w.heap[b]? :=by
  intro b hb;rw[cE];simp only[World.alloc,bZ0,Array.size_push];rw[if_neg (by omega),if_neg (by omega)]
 have hD1:W1.heap[w.heap.size]? =some (.deferred (some [])):=by
  rw[cE];simp only[World.alloc,bZ0,Array.size_push];rw[if_neg (by omega)];simp
 have zD:W1.heap[l]? =some (.loop rec):=by
  rw[cE,hl];simp only[World.alloc,bZ0,Array.size_push];simp
 have zZ:=run_enterLoop_outer (P:=P) (w:=w) fn a.tmps ps assign body;rw[<-yE,<-cE,<-hl]at zZ
 let A:Nat->Abs:=fun k=>MI_ sl hsl (S k) a.tmps (S 0) loc l rec
 let Zs:Nat->Abs:=fun k=>MI_ sl hsl (Z k) a.tmps (S 0) loc l { rec with state:= .done,pending:=some (jc k) }
 have hy:∀k x,xs[k]? =some x->(∀j,j<k->ok j=true)->YAt P l (A k) x (ok k) (if ok k then A (k+1)else Zs k):=by
  intro k x hx hj;have wA:=dK x (bI0 hx);have hY:=Td_ (hsl:=hsl) (own:=S k) (S:=if ok k then S (k+1)else Z k) (own0:=S 0) (loc0:=loc) (l:=l) (L:=rec) (tm:=a.tmps) (nt:=nt) (x:=x) (okk:=ok k) (j:=jc k) (by rw[yE]) (by rw[yE]) (by rw[yE]) qX (by rw[yE];exact wA.1) (by rw[yE];exact hpn) wA.2 (by rw[yE];exact round k x hx hj)
  cases hk:ok k with
  | true =>
   rw[hk]at hY;have e1:({ rec with state:=if true=true then .ready else .done,pending:=if true=true then none else some (jc k) }:Loop)=rec:=by rw[yE];rfl
   rw[e1]at hY;exact hY
  | false =>
   rw[hk]at hY;exact hY
 have hD:=hI l A Zs hy;have cM:∀b∈Ad (S 0) loc,b<w.heap.size:=fun b hb=>St0.lt b (aS0 _ hb)
 let loc1:Nat->Loc:=fun i=>if i=0 then ⟨[],.func (.yield l) #[] #[]⟩else ⟨Ad (S 0) loc++[l],.func (.yield l) #[] #[]⟩
 have kW:Ad [⟨0,0,.abs (yH l)⟩,⟨1,0,.abs (A 0)⟩] loc1=Ad (S 0) loc++[l]:=by simp[Ad,loc1]
 have W1w:∀n,Weak (Aj (S 0) loc) (Aj (S 0) loc) (Ad (S 0) loc++M) (Ad (S 0) loc++[l]++M) w.heap W1.heap n:=fun n =>
  ⟨fun _ _ _ _ h=>h,fun b o _ (_:IZ o=true) ho=>by rw[nA b (aH0.1 ho).1];exact ho,fun b o hb (_:IZ o=true) ho hm=>by
   have qV:=(aH0.1 ho).1;simp only[aI0,aG0]at hm hb
   rcases hm with (hm | hm) | hm
   ·exact hb (.inl hm)
   ·omega
   ·exact hb (.inr hm)⟩
 have St1:St [⟨0,0,.abs (yH l)⟩,⟨1,0,.abs (A 0)⟩] loc1 M W1.heap:=by
  refine⟨by simp,?_,?_,?_,?_⟩
  ·rw[kW,cB0];exact⟨St0.bl,by simp,fun b hb b' qG=>by simp only[aG0]at qG;have:=cM b hb;omega⟩
  ·rw[kW];intro b hb hm
   rcases aI0.1 hb with hb | hb
   ·exact St0.ap b hb hm
   ·simp only[aG0]at hb;have:=St0.lt b (aV0 _ hm);omega
  ·rw[kW];intro b hb;simp only[aI0,aG0]at hb
   rcases hb with (hb | hb) | hb
   ·have:=cM b hb;omega
   ·omega
   ·have:=St0.lt b (aV0 _ hb);omega
  ·intro e he;simp only[aL0,eH0,or_false]at he
   rcases he with rfl | rfl
   ·exact⟨rfl,rfl⟩
   ·refine⟨rfl,loc,rfl,St0.nd,fun e he=> ?_,fun p hp=> ?_,zD,fun e he _=>Ba St0.nd he⟩
    ·rw[kW];exact BF (W1w _) (Nat.le_refl _) (fun b o hb ho=>by rw[nA b (aH0.1 ho).1];exact ho) (St0.ok e he)
    ·rw[kW];exact Db (W1w _) _ _ (Nat.le_refl _) (gK p hp)
 have W1z:Weak (Aj (S 0) loc) (Aj [⟨0,0,.abs (yH l)⟩,⟨1,0,.abs (A 0)⟩] loc1) (Ad (S 0) loc++M) (Ad [⟨0,0,.abs (yH l)⟩,⟨1,0,.abs (A 0)⟩] loc1++M) w.heap W1.heap 0:=by
  rw[kW];exact⟨fun _ _ _ h=>by omega,(W1w 0).b,(W1w 0).m⟩
 have bL:=hD.2.2 M W1 loc1 (us'++ #[.func (.yield l) #[] #[]]++cs') St1 (by
  have e1:(us'++ #[Value.func (.yield l) #[] #[]]++cs').toList=us'.toList++Value.func (.yield l) #[] #[]::cs'.toList:=by simp
  rw[e1];refine CU _ _ _ _ (Bn W1z _ _ (dP0 zE.1) zF) ?_;simp only[AL];refine⟨_,_,rfl,?_,Bn W1z _ _ (dP0 zE.2) zR⟩;simp only[rd];intro lc hlc;have:Aj [⟨0,0,.abs (yH l)⟩,⟨1,0,.abs (A 0)⟩] loc1 0 0=some (loc1 0):=rfl;rw[this]at hlc;simp only[aA0]at hlc;rw[<-hlc]
  rfl)
 have fX:a.eval (.tmp gt)= .func (.func f) us' cs':=hv;refine⟨l,[{ target:= .collected w.heap.size,args:= #[] }],W1,{ target:= .fn (.func f) cs',args:=us'++ #[.func (.yield l) #[] #[]] },W1,f,us'++ #[.func (.yield l) #[] #[]]++cs',W1,zZ,?_,fun _ _=>trivial,?_,fun h=>by simp[wd]at h,?_⟩
 ·simp only[resolve,rangeCall,fX];simp[Deferred.ofValue,Act.eval]
 ·simp only[invoke];exact bL.1 _ _
 ·refine(WU none _ bL.2).mono ?_;rintro e w2 ⟨v,rfl,loc2,S2,hu,wV,yQ,_⟩;have hk:=S2.ok _ (aE0 _ aF0);have vT:=S2.ok _ aF0;have wJ:(loc2 0).blks=[]:=vT.1
  -- what is known behind, by the loop's state
  have main:∀(L:Loop) (T':List Ent),(MI_ sl hsl T' a.tmps (S 0) loc l L).J (Ad [⟨0,0,.abs (yH l)⟩,⟨1,1,.abs (match Dz ok xs.length with | none=>A xs.length | some k=>Zs k)⟩] loc2++M) (loc2 1).blks (loc2 1).hdr w2.heap->L.state≠ .busy ->
    (Instr.endLoop l).run P w2= .ok L.pending (w2.putObj l (.loop { L with state:= .exhausted }))/\(∃D,({ a with defers:=[{ target:= .collected w.heap.size,args:= #[] }]++a.defers }:Act)={ a with defers:={ target:= .collected D,args:= #[] }::a.defers }/\w.heap.size<=D/\(w2.putObj l (.loop { L with state:= .exhausted })).heap[D]? =some (.deferred (some []))) /\
    ∃loc',St T' loc' M (w2.putObj l (.loop { L with state:= .exhausted })).heap/\Upd (Ad (S 0) loc) w (w2.putObj l (.loop { L with state:= .exhausted }))/\(∀b∈Ad T' loc',b∈Ad (S 0) loc\/w.heap.size<=b) /\
     (∀e∈T',e.r<1->Aj (S 0) loc e.id e.r=some (loc' e.id))/\rd (Aj T' loc') (Ad T' loc'++M) (w2.putObj l (.loop { L with state:= .exhausted })).heap (.tup []) (.tuple #[]):=by
   rintro L T' ⟨_,loc3,gL,hnd3,hob3,hsl3,kZ,hver3⟩ hbusy
   have fR:Ad [⟨0,0,.abs (yH l)⟩,⟨1,1,.abs (match Dz ok xs.length with | none=>A xs.length | some k=>Zs k)⟩] loc2=Ad T' loc3++[l]:=by
    simp[Ad,wJ];simpa[Ad]using gL
   obtain⟨w4,yL⟩:∃w4,w4=w2.putObj l (.loop { L with state:= .exhausted }):=⟨_,rfl⟩;rw[<-yL];have qR:=run_endLoop (P:=P) kZ hbusy;rw[<-yL]at qR;have rF:w4.heap.size=w2.heap.size:=by rw[yL];exact GZ _ _ _
   have fH:∀b,b≠l->w4.heap[b]? =w2.heap[b]? :=fun b hb=>by rw[yL];exact World.putObj_heap_other hb
   rw[kW]at hu
   have dJ:l∉Ad T' loc3:=by
    have:=S2.bl;rw[fR,cB0]at this;exact fun hm=>this.2.2 l hm l (by simp) rfl
   refine⟨qR,⟨w.heap.size,rfl,Nat.le_refl _,?_⟩,loc3,?_,?_,?_,hver3,?_⟩
   ·rw[fH _ (by omega),hu.blk _ (by omega) (fun h=>by
     simp only[aI0,aG0]at h
     rcases h with h | h
     ·have:=cM _ h;omega
     ·omega)]
    exact hD1
   ·have jN:∀b∈Ad T' loc3,b∈Ad T' loc3++[l]:=fun b hb=>aS0 _ hb
    have hd4:∀(b:Nat) (o:Obj),IZ o=true->w2.heap[b]? =some o->w4.heap[b]? =some o:=by
     intro b o ho hb;rw[fH b (fun he=>by subst he;rw[kZ]at hb;simp only[aA0]at hb;subst hb;simp[IZ]at ho)];exact hb
    refine⟨hnd3,?_,fun b hb=>S2.ap b (by rw[fR];exact jN b hb),fun b hb=> ?_,fun e he=> ?_⟩
    ·have:=S2.bl;rw[fR,cB0]at this;exact this.1
    ·rw[rF];refine S2.lt b ?_;rw[fR]
     rcases aI0.1 hb with hb | hb
     ·exact aS0 _ (jN b hb)
     ·exact aV0 _ hb
    ·have h3:=hob3 e he;rw[fR]at h3;refine BF (n:=GC e.obj) ⟨fun _ _ _ _ h=>h,fun b o _ (h1:IZ o=true) h2=>hd4 b o h1 h2,fun b o hb (_:IZ o=true) _ hm=>hb ?_⟩ (Nat.le_refl _) (fun b o hb ho=>by rw[fH b (fun h=>dJ (h▸Bw he hb))];exact ho) h3
     rcases aI0.1 hm with hm | hm
     ·exact aS0 _ (jN b hm)
     ·exact aV0 _ hm
   ·have U1:Upd (Ad (S 0) loc) w W1:=⟨by rw[cE];rfl,by rw[cE];rfl,by rw[cE];rfl,fun _=>by rw[cE];exact Nat.le_refl _,by omega,fun b hb _=>nA b hb⟩
    have U2:Upd (Ad (S 0) loc) w w2:=U1.trans hu (fun x hx=>by
     simp only[aI0,aG0]at hx
     rcases hx with hx | hx
     ·exact .inl hx
     ·exact .inr (by omega))
    have U3:Upd [l] w2 w4:=by
     rw[yL];exact⟨rfl,rfl,rfl,fun _=>Nat.le_refl _,by rw[GZ];exact Nat.le_refl _,fun b _ hb=>World.putObj_heap_other (fun h=>hb (by simp[h]))⟩
    exact U2.trans U3 (fun x hx=> .inr (by simp only[aG0]at hx;omega))
   ·intro b hb;have hbm:b∈Ad [⟨0,0,.abs (yH l)⟩,⟨1,1,.abs (match Dz ok xs.length with | none=>A xs.length | some k=>Zs k)⟩] loc2:=by rw[fR];exact aS0 _ hb
    rcases wV b hbm with h | h
    ·rw[kW]at h;simp only[aI0,aG0]at h
     rcases h with h | h
     ·exact .inl h
     ·exact .inr (by omega)
    ·exact .inr (by omega)
   ·simp only[rd];exact⟨#[],rfl,by simp[AL]⟩
  clear wV yQ
  cases qD:Dz ok xs.length with
  | none =>
   rw[qD]at hT;obtain⟨rfl,rfl⟩:=hT
   have zO:(A xs.length).J (Ad [⟨0,0,.abs (yH l)⟩,⟨1,1,.abs (match Dz ok xs.length with | none=>A xs.length | some k=>Zs k)⟩] loc2++M) (loc2 1).blks (loc2 1).hdr w2.heap:=by
    have h:=hk;simp only[Nh]at h
    generalize hF:(match Dz ok xs.length with | none=>A xs.length | some k=>Zs k)=F at h |-
    rw[qD]at hF;simp only at hF;subst hF;exact h
   obtain⟨h1,h2,h3⟩:=main rec _ zO (by rw[yE];simp);refine⟨_,_,h1,?_⟩;rw[yE];simp only;rw[yE]at h2 h3;exact⟨trivial,h2,h3⟩
  | some k =>
   rw[qD]at hT;obtain⟨hj,rfl⟩:=hT
   have zO:(Zs k).J (Ad [⟨0,0,.abs (yH l)⟩,⟨1,1,.abs (match Dz ok xs.length with | none=>A xs.length | some k=>Zs k)⟩] loc2++M) (loc2 1).blks (loc2 1).hdr w2.heap:=by
    have h:=hk;simp only[Nh]at h
    generalize hF:(match Dz ok xs.length with | none=>A xs.length | some k=>Zs k)=F at h |-
    rw[qD]at hF;simp only at hF;subst hF;exact h
   obtain⟨h1,h2,h3⟩:=main _ _ zO (by simp);refine⟨_,_,h1,?_⟩;simp only
   rcases hj with ⟨hj,rfl⟩ | ⟨id,hj,rfl⟩ | ⟨t,hj,rfl⟩
   ·rw[hj]at h2 h3 |-;exact wpIn_ret ⟨rfl,h2,h3⟩
   ·rw[hj]at h2 h3 |-;exact wpIn_exit ⟨rfl,h2,h3⟩
   ·rw[hj]at h2 h3 |-;exact wpIn_goto ⟨rfl,h2,h3⟩
theorem uF {P:Program} {B:Base} {Q:Exit->DS->Prop} {s:DS} {gt nt:Nat} {ps:Array Tmp} {assign body:Code} {f:FuncId} {us cs:List DVal} {xs:List (List DVal)} {ok:Nat->Bool} (ρ ν:List (Nat×Nat)) (sl:List (Nat×DVal)) (S Z:Nat->List Ent) (jc:Nat->Code) (T:List Ent) (e0:Exit)
  (hI:Qq_ P f us cs xs ok) (hB:B.nt=nt/\B.ro=none) (hsl:Nv sl<=1) (zE:AV us=0/\AV cs=0) (hgt:(gt,.fn (.func f) us cs)∈sl) (dK:∀x∈xs,x.length=ps.size/\AV x=0) (hpn:∀p∈ps.toList,p<nt)
  (wK:OL s.own (Cv s.own (Ff ρ)) (Ff ρ)=some (S 0)/\lO s.own ρ/\(iJ (sl.map fun p=>BL s.slots p.1)/\aE ((sl.map fun p=>BL s.slots p.1).map (JG (Cv s.own (Ff ρ)))) (sl.map (·.2)))/\(((ρ++ν).map (·.1)).Nodup/\(ρ.map (·.2)).Nodup))
  (round:∀k x,xs[k]? =some x->(∀j,j<k->ok j=true)->∀B:Base,B.nt=nt->DW P B assign (RA P nt body (ok k) (if ok k then S (k+1)else Z k) (jc k)) ⟨XP ps.toList x sl,S k⟩)
  (hT:match Dz ok xs.length with | none=>e0= .normal/\T=S xs.length | some k=>(jc k= .ret/\e0= .ret\/(∃id,jc k= .exit id/\e0= .exit id)\/(∃t,jc k= .goto t/\e0= .goto t))/\T=Z k)
  (hTo:iI T)
  (hk:∀r,match KB (EN s.own ρ ν r) T with
   | some l=>((BE s.own ((ρ++ν).map (·.1))++l).map (·.id)).Nodup/\Q e0 ⟨s.slots,BE s.own ((ρ++ν).map (·.1))++l⟩
   | none=>False):DW P B (.rangeFunc (.tmp gt) ps assign body) Q s:=by
 intro a w loc R;have h:=hk (CL B s)
 split at h
 rotate_left
 ·exact h.elim
 rename_i l hl;obtain⟨hnd,hQ⟩:=h
 have hC:∀vs w (R R':Value->World->Prop),(∀v w',R v w'->R' v w')->OF_ P (.rangeFunc (.tmp gt) ps assign body) (sl.map (·.1)) nt e0 vs w R->OF_ P (.rangeFunc (.tmp gt) ps assign body) (sl.map (·.1)) nt e0 vs w R' :=
  fun vs w R R' h hc a h1 h2=>wpIn_mono (hc a h1 h2) (fun e a' w' ⟨k1,k2,k3⟩=>⟨k1,k2,h _ _ k3⟩)
 have hS:=EN_ hC ρ ν (Lt_ hsl hI zE hgt dK hpn round hT) wK.1 wK.2.1 wK.2.2.1 wK.2.2.2 hl hTo (by simp[iK,Am_]) hnd;have qS:CL B s=max B.N (max (Nv s.slots) (Jc s.own)):=rfl
 have hw:=hS B.M0 w loc ((sl.map fun p=>a.tmps.getD p.1 Go.undef).toArray) (by omega) R.st (by
  have key:∀l:List (Nat×DVal),AL (Aj s.own loc) (Ad s.own loc++B.M0) w.heap (l.map fun p=>BL s.slots p.1) (l.map fun p=>a.tmps.getD p.1 Go.undef):=by
   intro l
   induction l with
   | nil=>simp[AL]
   | cons p l ih=>simp only[List.map_cons,AL];exact⟨_,_,rfl,R.sl p.1,ih⟩
  simpa using key sl) a (by simp) (by rw[R.nt];exact hB.1)
 rw[hB.2];refine wpIn_mono hw ?_;rintro e a' w' ⟨rfl,⟨D,rfl,hD1,sM⟩,loc',St',hu,wV,yQ,_⟩;have R':=R.step (dst:=none) (v:=Go.undef) (d:= .any) (n:=CL B s) (by omega) (by omega) (fun i hi=>by simp at hi) St' hu wV yQ (by simp[rd]);refine⟨_,loc',hQ,⟨R'.st,R'.upd,R'.new,R'.ver,R'.sl,R'.nt,?_⟩⟩;obtain⟨rs,h1,h2,h3,h4⟩:=R.df;obtain⟨rs',g1,g2,g3,g4⟩:=R'.df;have gS:∀r∈rs,r<w.heap.size:=fun r hr=>(aH0.1 (h3 r hr).1).1
 refine⟨D::rs,by simp[h1],?_,?_,fun h=>absurd hB.2 h⟩
 ·rw[cW0];exact⟨fun hm=>by have:=gS D hm;omega,h2⟩
 ·intro r hr
  rcases aL0.1 hr with rfl | hr
  ·refine⟨sM,Nat.le_trans B.hnd (Nat.le_trans R.upd.size hD1),fun hm=> ?_⟩
   rcases aI0.1 hm with hm | hm
   ·obtain⟨e,he,hb⟩:=bV0.1 hm;exact Og_ (St'.ok e he) _ hb _ sM
   ·have:=R.st.lt r (aV0 _ hm);omega
  ·obtain⟨k1,k2,k3⟩:=h3 r hr;have qV:=gS r hr;refine⟨?_,k2,fun hm=> ?_⟩
   ·rw[hu.blk r qV (fun hm=>k3 (aS0 _ hm))];exact k1
   ·rcases aI0.1 hm with hm | hm
    ·rcases wV r hm with h | h
     ·exact k3 (aS0 _ h)
     ·omega
    ·exact k3 (aV0 _ hm)
def yOK (own:List Ent) (id r' l:Nat) (A:Abs):Prop:=match Ax own id,Ax own (id+1)with
 | some e0,some e=>e0.r=r'/\e0.obj= .abs (yH l)/\e.obj= .abs A
 | _,_=>False
theorem Qu {P:Program} {id r' l:Nat} {args:List DVal} {own:List Ent} {K:ContE} {A A':Abs} {b:Bool} (hY:YAt P l A args b A') (wK:yOK own id r' l A/\AV args=0)
  (hk:∀r,K.f (.bool b) (upE own (id+1) r (.abs A'))):PI_ P id r' args own K:=by
 obtain⟨h,hm⟩:=wK;unfold yOK at h
 split at h
 ·rename_i e0 e h1 h2;exact⟨e0,l,e,A,A',b,h1,h.1,h.2.1,h2,h.2.2,hm,hY,hk⟩
 ·exact h.elim
theorem Ma {ok:Nat->Bool}:∀{n k:Nat},k<n->(∀j,j<k->ok j=true)->ok k=false->Dz ok n=some k
 | n+1,k,hk,hj,ho=>by
  simp only[Dz]
  by_cases h:k<n
  ·rw[Ma h hj ho]
  ·have:k=n:=by omega
   subst this
   have:Dz ok k=none:=by
    have key:∀m,m<=k->Dz ok m=none:=by
     intro m
     induction m with
     | zero=>intro _;rfl
     | succ m ih=>intro hm;simp only[Dz,ih (by omega),hj m (by omega),if_true]
    exact key k (Nat.le_refl _)
   rw[this,ho];rfl
theorem Mb {ok:Nat->Bool}:∀{n:Nat},(∀j,j<n->ok j=true)->Dz ok n=none
 | 0,_=>rfl
 | n+1,hj=>by simp only[Dz,Mb (n:=n) (fun j h=>hj j (by omega)),hj n (by omega),if_true]
attribute [simp] yOK RA RQ XP
end Go.Dm
end
section
namespace Go.Proofs.Wy
open Go Go.Dm Tryz
variable [DMode]
attribute [local irreducible] DW Bs Bv PI_ RB Dm.Sub
set_option maxRecDepth 100000
def Cw (x:Nd):Bool:=decide (x.k=2)||decide (x.k=3)
def Of_ (l:List Nd) (j:Nat):Option (Nat×ByteArray):=match l[j]? with
 | some p=>if Cw p=true then some (j,p.s)else none
 | none=>none
def Dl (l:List Nd) (n:Nat):List (Nat×ByteArray):=(List.range n).filterMap (Of_ l)
def oM (x:Nat×ByteArray):List DVal:=[.int .i64 x.1,.str x.2]
theorem OM {l:List Nd} {n:Nat} {p:Nd} (h:l[n]? =some p):Dl l (n+1)=Dl l n++(if Cw p=true then [(n,p.s)]else []):=by
 simp only[Dl,dE0,List.filterMap_append,List.filterMap_cons,List.filterMap_nil,Of_,h]
 by_cases hp:Cw p=true<;>simp[hp]
theorem An_ {l:List Nd} {n m:Nat} (h:n<=m):∃r,Dl l m=Dl l n++r:=by
 obtain⟨d,rfl⟩:∃d,m=n+d:=⟨m-n,by omega⟩;exact⟨((List.range d).map (n+ ·)).filterMap (Of_ l),by simp only[Dl,List.range_add,List.filterMap_append]⟩
theorem Ap_ {l:List Nd} {n m:Nat} {p:Nd} (h:l[n]? =some p) (hp:Cw p=true) (hm:n<m):(Dl l m)[(Dl l n).length]? =some (n,p.s):=by
 obtain⟨r,hr⟩:=An_ (l:=l)  (show n+1<=m from hm);rw[hr,OM h,if_pos hp];simp
theorem Ao_ {l:List Nd} {n m:Nat} {p:Nd} (h:l[n]? =some p) (hp:Cw p=true) (hm:n<m):(Dl l n).length<(Dl l m).length:=(aB0.1 (Ap_ h hp hm)).1
def DF_ : Ann:=⟨[],[]⟩
def Lw : Ann:=⟨[5],[]⟩
theorem SV (l:List Nd):Ac prog 112 [Bl l] (Bl l):=by
 match l with
 | [] =>
  refine Xy [] ?_ ?_
  ·refine Ab [7] DF_ func112 call112 ntmps112 mxd (Ap @DF_.eq_1 results112) rfl (fun qJ B qX qQ=> ?_) (hd:=(by simp[mx,BK]));simp only[Ak,List.nil_append,Bl,List.map_cons];exact Al Aa Aa Aa
  ·refine Ab [7,5] Lw func112 call112 ntmps112 mxd (Ap @Lw.eq_1 results112) rfl (fun qJ B qX qQ=> ?_) (hd:=(by simp[mx,BK]));simp only[Ak,List.nil_append,Bl,List.map_cons];exact Al Aa Aa Aa
 | s::l =>
  refine Ab [7,5] Lw func112 call112 ntmps112 mxd (Ap @Lw.eq_1 results112) rfl (fun qJ B qX qQ=> ?_) (hd:=(by simp[mx,BK]));have qM:(s::l).length*32<=150000000000000:=by have:=qJ.1;simp only[Dq,aJ0]at this;exact this.1
  clear qJ;have z2:(s::l).length<=9223372036854775807:=by omega
  simp only[List.length_cons]at qM z2;simp only[Ak,List.nil_append,Bl,List.map_cons];exact Al Aa Aa (Ap qM z2)
def KL : Ann:=⟨[25],[⟨2,[4],[],[]⟩]⟩
theorem iV (l:List Nd) (ok:Nat->Bool):Qq_ prog 264 [] [.ref [Bl l]] ((Dl l l.length).map oM) ok:=by
 intro lb A Z hY;refine Bi [] [(0,0,0),(1,1,1)] KL func264 call264 ntmps264 mxd (Ap @KL.eq_1 results264) rfl (fun qJ B qX qQ=> ?_);have rQ:l.length<9223372036854775807:=TS (by simpa[Gj,Dq]using qJ);clear qJ;simp only[Ak,List.nil_append]
 (refine Au Aa Aa Aa ?_;intros;refine Ae ?_)
 refine Af (X:={k:Nat//k<=l.length/\∀j,j<(Dl l k).length->ok j=true}) (fun k=>⟨[(0,.pk 0 0),(5,Bl l),(6,.int .i64 l.length),(7,.int .i64 k.1)],[⟨0,0,.abs (yH lb)⟩,⟨1,1,.abs (A (Dl l k.1).length)⟩]⟩) (fun k=>l.length-k.1) ⟨0,by simp[Dl]⟩ (Sub.lit (by simp[Dl])) ?_;rintro⟨k,hk,hj⟩
 by_cases qV:k<l.length
 ·obtain⟨p,hp,qI,vK⟩:=Ai qV;have hs:=OM hp
  by_cases hh:Cw p=true
  ·have hx:=hY (Dl l k).length (oM (k,p.s)) (by rw[bK0,Ap_ hp hh qV];rfl) hj;rw[if_pos hh]at hs;have hkd:p.k=2\/p.k=3:=by unfold Cw at hh;simpa using hh
   have yY:∀j,j<(Dl l (k+1)).length->ok (Dl l k).length=true->ok j=true:=by
    rw[hs];intro j fK qL;simp at fK
    by_cases hjk:j=(Dl l k).length
    ·subst hjk;exact qL
    ·exact hj j (by omega)
   rcases hkd with hkd | hkd
   ·(refine Au Aa Aa (Dx @BS.eq_1 qV hp qI hkd) ?_;intros;refine Ae ?_)
    cases qL:ok (Dl l k).length
    ·rw[qL]at hx;refine Qu hx (by simp[oM]) (fun r=> ?_);have qD:=Ma (Ao_ hp hh qV) hj qL;simp[qX,results264,KL,qD];exact Al Aa Aa (Aq qD)
    ·rw[qL]at hx;refine Qu hx (by simp[oM]) (fun r=> ?_);simp[qX,results264,KL]
     (refine Au Aa Aa Aa ?_;intros;refine Ae ?_)
     refine Ag.mk ⟨k+1,by omega,fun j fK=>yY j fK qL⟩ (Sub.lit (by simp[hs])) (by simp;omega)
     skip
   ·(refine Au Aa Aa (Dx @BS.eq_1 qV hp qI hkd) ?_;intros;refine Ae ?_)
    cases qL:ok (Dl l k).length
    ·rw[qL]at hx;refine Qu hx (by simp[oM]) (fun r=> ?_);have qD:=Ma (Ao_ hp hh qV) hj qL;simp[qX,results264,KL,qD];exact Al Aa Aa (Aq qD)
    ·rw[qL]at hx;refine Qu hx (by simp[oM]) (fun r=> ?_);simp[qX,results264,KL]
     (refine Au Aa Aa Aa ?_;intros;refine Ae ?_)
     refine Ag.mk ⟨k+1,by omega,fun j fK=>yY j fK qL⟩ (Sub.lit (by simp[hs])) (by simp;omega)
     skip
  ·rw[if_neg hh,bM0]at hs;have h2:¬p.k=2:=fun e=>hh (by unfold Cw;simp[e])
   have h3:¬p.k=3:=fun e=>hh (by unfold Cw;simp[e])
   have yU:(p.k==2)=false:=by simpa using h2
   have h3':(p.k==3)=false:=by simpa using h3
   (refine Au Aa Aa (Ji @BS.eq_1 qV hp qI h2 h3 yU h3') ?_;intros;refine Ae ?_)
   refine Ag.mk ⟨k+1,by omega,by rw[hs];exact hj⟩ (Sub.lit (by simp[hs])) (by simp;omega)
   skip
 ·have qY:k=l.length:=by omega
  subst qY;have qD:=Mb hj;exact Al Aa Aa (Aq qD)
def DE_ : Ann:=⟨[1],[⟨1,[1],[],[]⟩]⟩
theorem iW (l:List Nd):Ac prog 183 [Bl l] (.fn (.func 264) [] [.ref [Bl l]]):=by
 refine Ab [] DE_ func183 call183 ntmps183 mxd (Ap @DE_.eq_1 results183) rfl (fun qJ B qX qQ=> ?_) (hd:=(by simp[mx,AV]));clear qJ;simp only[Ak];have h1:=SV l;exact Al (Aq h1) Aa Aa
def HN (l:List Nd):Nat:=(Dl l l.length).length
def DG_ : Ann:=⟨[],[]⟩
theorem Vq (l:List Nd):Ac prog 103 [Bl l] (.int .i64 (HN l)):=by
 refine Ab [] DG_ func103 call103 ntmps103 mxd (Ap @DG_.eq_1 results103) rfl (fun qJ B qX qQ=> ?_);have rQ:=TS qJ.1;clear qJ;simp only[Ak];have h1:=iW l
 (refine Au (Aq h1) Aa Aa ?_;intros;refine Ae ?_)
 have hI:=iV l (fun _=>true);have qD:Dz (fun _:Nat=>true) (Dl l l.length).length=none:=Mb fun _ _=>rfl
 have hocc:∀x∈(Dl l l.length).map oM,x.length=2/\AV x=0:=by
  intro x hx;obtain⟨y,_,rfl⟩:=aU0.1 hx;exact⟨rfl,by simp[oM,mx]⟩
 have qZ:(Dl l l.length).length<=l.length:=by
  simp only[Dl];exact Nat.le_trans (List.length_filterMap_le _ _) (by simp)
 refine uF (nt:=11) [(3,3)] [] [(0,Bl l),(3,.bx 3 0 0),(5,.fn (.func 264) [] [.ref [Bl l]])]
  (fun k=>[⟨3,0,.box [.int .i64 (k:Int)]⟩]) (fun k=>[⟨3,0,.box [.int .i64 (k:Int)]⟩]) (fun _=> .ret) [⟨3,0,.box [.int .i64 (HN l:Int)]⟩] .normal
  hI (by simp[qX]) (by simp[Nv]) (by simp) (bI0 (i:=2) rfl) hocc (by simp) ?_ ?_ ?_ ?_ ?_
 ·simp
 ·intro k x hx hj B1 qX;rw[bK0,bH0]at hx;obtain⟨⟨j,s⟩,hy,rfl⟩:=hx;have jY:k<(Dl l l.length).length:=(aB0.1 hy).1;have hw:IntKind.i64.wrap ((k:Int)+1)=(k:Int)+1:=wq;simp only[Array.toList,XP]
  (refine Au Aa Aa Aa ?_;intros;refine Ae ?_)
  refine Ui_ fun B2 qX=> ?_
  (refine Au Aa Aa (Ap @oM.eq_1 hw) ?_;intros;refine Ae ?_)
  refine Sub.lit ?_;simp
 ·simp only[aJ0,qD];exact⟨trivial,rfl⟩
 ·simp
 ·intro r;simp;exact Al Aa Aa Aa
end Go.Proofs.Wy
end
section
namespace Go.Proofs.Wy
open Go Go.Dm Tryz
variable [DMode]
attribute [local irreducible] DW Bs Bv
set_option maxRecDepth 100000
def Cy_ : Ann:=⟨[],[]⟩
theorem Vk (a b c:Int):Ac prog 188 [.sl 1 8 [[.int .i64 a],[.int .i64 b],[.int .i64 c]]] (.int .i64 (if a=0 then (if b=0 then c else b)else a)):=by
 refine Ab [] Cy_ func188 call188 ntmps188 mxd (Ap @Cy_.eq_1 results188) rfl (fun qJ B qX qQ=> ?_);simp only[Ak]
 (refine Au Aa Aa Aa ?_;intros;refine Ae ?_)
 refine Af (X:={k:Nat//k<=3/\(0<k->a=0)/\(1<k->b=0)/\(2<k->c=0)}) (fun k=>⟨[(3,.int .i64 0),(6,.sl 1 8 [[.int .i64 a],[.int .i64 b],[.int .i64 c]]),(7,.int .i64 3),(8,.int .i64 k.1)],[]⟩) (fun k=>3-k.1) ⟨0,by simp⟩ (Sub.lit (by simp)) ?_;rintro⟨k,hk,ha,hb,hc⟩
 match k,hk,ha,hb,hc with
 | 0,_,_,_,_ =>
  by_cases h:a=0
  ·(refine Au Aa Aa (Aq h) ?_;intros;refine Ae ?_)
   refine Ag.mk ⟨1,by simp[h]⟩ (Sub.lit (by simp)) (by simp)
   skip
  ·have h':(a != 0)=true:=by simpa using h
   exact Al Aa Aa (Ap h h')
 | 1,_,ha,_,_ =>
  have ha:=ha (by omega)
  by_cases h:b=0
  ·(refine Au Aa Aa (Aq h) ?_;intros;refine Ae ?_)
   refine Ag.mk ⟨2,by simp[h,ha]⟩ (Sub.lit (by simp)) (by simp)
   skip
  ·have h':(b != 0)=true:=by simpa using h
   exact Al Aa Aa (BC h h' ha)
 | 2,_,ha,hb,_ =>
  have ha:=ha (by omega);have hb:=hb (by omega)
  by_cases h:c=0
  ·(refine Au Aa Aa (Aq h) ?_;intros;refine Ae ?_)
   refine Ag.mk ⟨3,by simp[h,ha,hb]⟩ (Sub.lit (by simp)) (by simp)
   skip
  ·have h':(c != 0)=true:=by simpa using h
   exact Al Aa Aa (CG h h' ha hb)
 | 3,_,ha,hb,hc =>
  have ha:=ha (by omega);have hb:=hb (by omega);have hc:=hc (by omega);exact Al Aa Aa (BC ha hb hc)
def CA {α:Type} (e:α->α->Bool) (p:α):List α->List α
 | []=>[]
 | y::l=>if e y p then CA e y l else y::CA e y l
def Bu {α:Type} (e:α->α->Bool):List α->List α
 | []=>[]
 | x::l=>x::CA e x l
theorem SR {α:Type} {e:α->α->Bool} {y:α}:∀{l:List α} {p:α},CA e p (l++[y])=CA e p l++(if e y (l.getLast?.getD p)then []else [y])
 | [],p=>by by_cases h:e y p<;>simp[CA,h]
 | x::l,p=>by
  have h:=SR (e:=e) (y:=y) (l:=l) (p:=x)
  have h2:(x::l).getLast?.getD p=l.getLast?.getD x:=by
   cases l with
   | nil=>rfl
   | cons z l=>simp[List.getLast?_cons_cons,List.getLast?_eq_some_getLast]
  rw[h2];simp only[List.cons_append,CA]
  split
  ·exact h
  ·rw[h];rfl
theorem GL {α:Type} {e:α->α->Bool} {l:List α} {k:Nat} {x y:α} (h0:0<k) (hx:l[k-1]? =some x) (hy:l[k]? =some y):Bu e (l.take (k+1))=Bu e (l.take k)++(if e y x then []else [y]):=by
 rw[bD0,hy]
 obtain⟨z,t,hz⟩:∃z t,l.take k=z::t:=by
  cases h:l.take k with
  | nil =>
   have h1:=congrArg List.length h;have:=(aB0.1 hy).1;rw[aT0]at h1;simp only[List.length_nil]at h1;omega
  | cons z t=>exact⟨z,t,rfl⟩
 have hl:(l.take k).getLast?=some x:=by
  rw[List.getLast?_eq_getElem?,fH0];have:=(aB0.1 hy).1;simp only[aT0];rw[show min k l.length-1=k-1 by omega,if_pos (by omega)];exact hx
 rw[hz]at hl |-
 have h2:t.getLast?.getD z=x:=by
  cases t with
  | nil=>simpa using hl
  | cons a t=>simpa[List.getLast?_cons_cons,List.getLast?_eq_some_getLast]using hl
 simp only[Option.toList_some,List.cons_append,Bu,SR,h2]
def EY (a b:Int):Int:=if a<b then -1 else if b<a then 1 else 0
def GM {α:Type} (c:α->α->Int):List α->List α->Int
 | [],[]=>0
 | [],_::_=> -1
 | _::_,[]=>1
 | x::a,y::b=>if c x y=0 then GM c a b else c x y
theorem II_ {α:Type} {c:α->α->Int} {a b:List α} {k:Nat} {x y:α} (hx:a[k]? =some x) (hy:b[k]? =some y):GM c (a.drop k) (b.drop k)=if c x y=0 then GM c (a.drop (k+1)) (b.drop (k+1))else c x y:=by
 obtain⟨h1,rfl⟩:=aB0.1 hx;obtain⟨h2,rfl⟩:=aB0.1 hy;rw[aP0 h1,aP0 h2,GM]
theorem RJ_ {α:Type} {c:α->α->Int} {a b:List α} {k:Nat} (h1:k<a.length) (h2:b.length<=k):GM c (a.drop k) (b.drop k)=1:=by
 rw[aP0 h1,cU0 h2,GM]
theorem RI_ {α:Type} {c:α->α->Int} {a b:List α} {k:Nat} (h1:a.length<=k):GM c (a.drop k) (b.drop k)=if k<b.length then -1 else 0:=by
 rw[cU0 h1]
 split
 ·rename_i h;rw[aP0 h,GM]
 ·rename_i h;rw[cU0 (by omega),GM]
def Cw_ : Ann:=⟨[],[]⟩
theorem GF (n:Int):Ac prog 276 [.int .i64 n] (.bool false):=by
 refine Ab [] Cw_ func276 call276 ntmps276 mxd (Ap @Cw_.eq_1 results276) rfl (fun qJ B qX qQ=> ?_);simp only[Ak];exact Al Aa Aa Aa
def Cx_ : Ann:=⟨[],[]⟩
theorem DL (a b:Int):Ac prog 189 [.int .i64 a,.int .i64 b] (.int .i64 (EY a b)):=by
 refine Ab [] Cx_ func189 call189 ntmps189 mxd (Ap @Cx_.eq_1 results189) rfl (fun qJ B qX qQ=> ?_);simp only[Ak]
 by_cases h1:a<b
 ·exact Al (Ap (GF a) (GF b)) Aa (Ap h1 @EY.eq_1)
 ·by_cases h2:b<a
  ·exact Al (Ap (GF a) (GF b)) Aa (BC h1 h2 @EY.eq_1)
  ·exact Al (Ap (GF a) (GF b)) Aa (BC h1 h2 @EY.eq_1)
def Gk (x y:Sym):Int:=if x.label=y.label then EY x.n y.n else if x.label then 1 else -1
end Go.Proofs.Wy
end
