/- Parts of a proof, laid together: EnGo, WB2, WB1, WR1, RN, RH, RG, RX1, EnW, EnX, RX5, WC1, WC2, BX0. -/
import Derived.RangeFuncNested
import Derived.Test.YtchgnpnbcjflcaaGreatqCt4
set_option linter.unusedSimpArgs false
set_option linter.unusedVariables false
set_option linter.unusedSectionVars false
section
namespace Go.Dm
variable [DMode]
structure AnIs (P:Program) (an:Ann) (E:Prop):Prop where
 m:P.follows .mixedOrders=true
 e:E
theorem an_is {P:Program} (an:Ann) {E:Prop} (m:P.follows .mixedOrders=true) (e:E):AnIs P an E:=⟨m,e⟩
theorem DW_rA {P:Program} {B:Base} {s:DS} {A:Ann} {E:Prop} {id:Nat} {ops:Array Oper} {draw:Bool} {Q:Exit→DS→Prop} (hgAnn:AnIs P A E) (hok:(!draw||Ex_ A.ow (JC_ A.rs id).l1 (JC_ A.rs id).l2 ops)=true)
 (h:CN_ P B.nt A.ow (JC_ A.rs id).l1 (JC_ A.rs id).l2 ops ops.toList 0 (kQ Q (JC_ A.rs id).fz) s):DW P B (.region id ops draw) Q s:=DW_r A hgAnn.m hok h
structure Spc (ρ ν:List (Nat×Nat)) (p:Prop):Prop where
 o:p
theorem spc (ρ ν:List (Nat×Nat)) {p:Prop} (h:p):Spc ρ ν p:=⟨h⟩
theorem Cp_ {ρ ν:List (Nat×Nat)} {P:Program} {g:FuncId} {args args0:List DVal} {own own0 own0':List Ent} {d0:DVal} {K:ContE} (hS:Spc ρ ν (AM_ P (.func g) args0 own0 d0 own0'))
 (hpre:outE own (BX_ own (Ev_ ρ)) (Ev_ ρ)=some own0∧inOK own ρ∧(okDs args∧wkA (args.map (renD (BX_ own (Ev_ ρ)))) args0)∧(((ρ++ν).map (·.1)).Nodup∧(ρ.map (·.2)).Nodup)∧okOs own0'∧okD d0)
 (hk:∀r,match JA_ (Dt_ own ρ ν r) own0' with
  | some l=>((AY_ own ((ρ++ν).map (·.1))++l).map (·.id)).Nodup∧K.f (renD (Dt_ own ρ ν r) d0) (AY_ own ((ρ++ν).map (·.1))++l)
  | none=>False):Bp_ P g args own K:=Az_ ρ ν hS.o hpre hk
structure Hd (p:Prop):Prop where
 o:p
def Mk (p:Prop):Prop:=p
theorem mk_x {p:Prop} (h:Mk p):p:=h
theorem mk_i {p:Prop} (h:p):Mk p:=h
theorem aj0 : True:=trivial
theorem aj1 {a:Prop} (h0:a):a∧True:=⟨h0,trivial⟩
theorem aj2 {a b:Prop} (h0:a) (h1:b):a∧b∧True:=⟨h0,h1,trivial⟩
theorem aj3 {a b c:Prop} (h0:a) (h1:b) (h2:c):a∧b∧c∧True:=⟨h0,h1,h2,trivial⟩
theorem aj4 {a b c d:Prop} (h0:a) (h1:b) (h2:c) (h3:d):a∧b∧c∧d∧True:=⟨h0,h1,h2,h3,trivial⟩
theorem aj5 {a b c d e:Prop} (h0:a) (h1:b) (h2:c) (h3:d) (h4:e):a∧b∧c∧d∧e∧True:=⟨h0,h1,h2,h3,h4,trivial⟩
theorem aj6 {a b c d e f:Prop} (h0:a) (h1:b) (h2:c) (h3:d) (h4:e) (h5:f):a∧b∧c∧d∧e∧f∧True:=⟨h0,h1,h2,h3,h4,h5,trivial⟩
theorem aj7 {a b c d e f g:Prop} (h0:a) (h1:b) (h2:c) (h3:d) (h4:e) (h5:f) (h6:g):a∧b∧c∧d∧e∧f∧g∧True:=⟨h0,h1,h2,h3,h4,h5,h6,trivial⟩
theorem aj8 {a b c d e f g h:Prop} (h0:a) (h1:b) (h2:c) (h3:d) (h4:e) (h5:f) (h6:g) (h7:h):a∧b∧c∧d∧e∧f∧g∧h∧True:=⟨h0,h1,h2,h3,h4,h5,h6,h7,trivial⟩
theorem aj9 {a b c d e f g h i:Prop} (h0:a) (h1:b) (h2:c) (h3:d) (h4:e) (h5:f) (h6:g) (h7:h) (h8:i):a∧b∧c∧d∧e∧f∧g∧h∧i∧True:=⟨h0,h1,h2,h3,h4,h5,h6,h7,h8,trivial⟩
theorem aj10 {a b c d e f g h i j:Prop} (h0:a) (h1:b) (h2:c) (h3:d) (h4:e) (h5:f) (h6:g) (h7:h) (h8:i) (h9:j):a∧b∧c∧d∧e∧f∧g∧h∧i∧j∧True:=⟨h0,h1,h2,h3,h4,h5,h6,h7,h8,h9,trivial⟩
theorem aj11 {a b c d e f g h i j k:Prop} (h0:a) (h1:b) (h2:c) (h3:d) (h4:e) (h5:f) (h6:g) (h7:h) (h8:i) (h9:j) (h10:k):a∧b∧c∧d∧e∧f∧g∧h∧i∧j∧k∧True:=⟨h0,h1,h2,h3,h4,h5,h6,h7,h8,h9,h10,trivial⟩
theorem aj12 {a b c d e f g h i j k l:Prop} (h0:a) (h1:b) (h2:c) (h3:d) (h4:e) (h5:f) (h6:g) (h7:h) (h8:i) (h9:j) (h10:k) (h11:l):a∧b∧c∧d∧e∧f∧g∧h∧i∧j∧k∧l∧True:=⟨h0,h1,h2,h3,h4,h5,h6,h7,h8,h9,h10,h11,trivial⟩
theorem aj14 {a b c d e f g h i j k l m n:Prop} (h0:a) (h1:b) (h2:c) (h3:d) (h4:e) (h5:f) (h6:g) (h7:h) (h8:i) (h9:j) (h10:k) (h11:l) (h12:m) (h13:n):a∧b∧c∧d∧e∧f∧g∧h∧i∧j∧k∧l∧m∧n∧True:=⟨h0,h1,h2,h3,h4,h5,h6,h7,h8,h9,h10,h11,h12,h13,trivial⟩
theorem aj15 {a b c d e f g h i j k l m n o:Prop} (h0:a) (h1:b) (h2:c) (h3:d) (h4:e) (h5:f) (h6:g) (h7:h) (h8:i) (h9:j) (h10:k) (h11:l) (h12:m) (h13:n) (h14:o):a∧b∧c∧d∧e∧f∧g∧h∧i∧j∧k∧l∧m∧n∧o∧True:=⟨h0,h1,h2,h3,h4,h5,h6,h7,h8,h9,h10,h11,h12,h13,h14,trivial⟩
theorem aj16 {a b c d e f g h i j k l m n o p:Prop} (h0:a) (h1:b) (h2:c) (h3:d) (h4:e) (h5:f) (h6:g) (h7:h) (h8:i) (h9:j) (h10:k) (h11:l) (h12:m) (h13:n) (h14:o) (h15:p):a∧b∧c∧d∧e∧f∧g∧h∧i∧j∧k∧l∧m∧n∧o∧p∧True:=⟨h0,h1,h2,h3,h4,h5,h6,h7,h8,h9,h10,h11,h12,h13,h14,h15,trivial⟩
theorem go0 {p c s a:Prop} (C:c) (S:s) (A:a) (h:c→s→a→p:=by
 (intro C S A;(repeat (first | refine Aw_ fun Kz hKz=> ?_ | (refine DW_rA hgAnn (by kernel_rfl) ?_;simp[hgAnn.e,hnt,A];try simp (disch:=omega) only[Ah_]) | refine Al_ ?_ | (refine AJ_ ?_ ?_ ?_;(· (simp[hnt,A];done));(try (rotate_left;(· (intro hcz;(try simp[hnt,A]at hcz);done))))) | (refine Ay_ ?_;simp[hgAnn.e,hnt,A]) | ((first | refine Aq_ ?_ | refine Ap_ ?_);simp[hnt,A]) | (intro hcz;(try simp[hnt,A]at hcz);(try (exfalso;omega))) | ((first | refine Ag_ C.1 ?_ | (refine Af_ C.1 ?_ ?_;(· (simp;done))) | refine Ag_ C.2.1 ?_ | (refine Af_ C.2.1 ?_ ?_;(· (simp;done))) | refine Ag_ C.2.2.1 ?_ | (refine Af_ C.2.2.1 ?_ ?_;(· (simp;done))) | refine Ag_ C.2.2.2.1 ?_ | (refine Af_ C.2.2.2.1 ?_ ?_;(· (simp;done))) | refine Ag_ C.2.2.2.2.1 ?_ | (refine Af_ C.2.2.2.2.1 ?_ ?_;(· (simp;done))) | refine Ag_ C.2.2.2.2.2.1 ?_ | (refine Af_ C.2.2.2.2.2.1 ?_ ?_;(· (simp;done))) | refine Ag_ C.2.2.2.2.2.2.1 ?_ | (refine Af_ C.2.2.2.2.2.2.1 ?_ ?_;(· (simp;done))) | refine Ag_ C.2.2.2.2.2.2.2.1 ?_ | (refine Af_ C.2.2.2.2.2.2.2.1 ?_ ?_;(· (simp;done))));try simp[hnt,A]) | (refine Cp_ S.1 ?_ ?_;(· (simp[hnt,A];done));(intro Kz;try simp[hnt,A])) | (refine Cp_ S.2.1 ?_ ?_;(· (simp[hnt,A];done));(intro Kz;try simp[hnt,A])) | (refine Cp_ S.2.2.1 ?_ ?_;(· (simp[hnt,A];done));(intro Kz;try simp[hnt,A])) | (refine Cp_ S.2.2.2.1 ?_ ?_;(· (simp[hnt,A];done));(intro Kz;try simp[hnt,A])) | (refine⟨?_,?_⟩; · omega) | omega | apply_assumption -exfalso -symm | (exfalso;omega))))):p:=h C S A
theorem go1 {p c s a q0:Prop} (C:c) (S:s) (A:a) (h0:q0) (h:c→s→a→Hd q0→p:=by
 (intro C S A k0;(repeat (first | refine Aw_ fun Kz hKz=> ?_ | (refine DW_rA hgAnn (by kernel_rfl) ?_;simp[hgAnn.e,hnt,A];try simp (disch:=omega) only[Ah_]) | refine Al_ ?_ | (refine AJ_ ?_ ?_ ?_;(· (simp[hnt,A];done));(try (rotate_left;(· (intro hcz;(try simp[hnt,A]at hcz);done))))) | (refine Ay_ ?_;simp[hgAnn.e,hnt,A]) | ((first | refine Aq_ ?_ | refine Ap_ ?_);simp[hnt,A]) | (intro hcz;(try simp[hnt,A]at hcz);(try (exfalso;omega))) | ((first | refine Ag_ C.1 ?_ | (refine Af_ C.1 ?_ ?_;(· (simp;done))) | refine Ag_ C.2.1 ?_ | (refine Af_ C.2.1 ?_ ?_;(· (simp;done))) | refine Ag_ C.2.2.1 ?_ | (refine Af_ C.2.2.1 ?_ ?_;(· (simp;done))) | refine Ag_ C.2.2.2.1 ?_ | (refine Af_ C.2.2.2.1 ?_ ?_;(· (simp;done))) | refine Ag_ C.2.2.2.2.1 ?_ | (refine Af_ C.2.2.2.2.1 ?_ ?_;(· (simp;done))) | refine Ag_ C.2.2.2.2.2.1 ?_ | (refine Af_ C.2.2.2.2.2.1 ?_ ?_;(· (simp;done))) | refine Ag_ C.2.2.2.2.2.2.1 ?_ | (refine Af_ C.2.2.2.2.2.2.1 ?_ ?_;(· (simp;done))) | refine Ag_ C.2.2.2.2.2.2.2.1 ?_ | (refine Af_ C.2.2.2.2.2.2.2.1 ?_ ?_;(· (simp;done))));try simp[hnt,A]) | (refine Cp_ S.1 ?_ ?_;(· (simp[hnt,A];done));(intro Kz;try simp[hnt,A])) | (refine Cp_ S.2.1 ?_ ?_;(· (simp[hnt,A];done));(intro Kz;try simp[hnt,A])) | (refine Cp_ S.2.2.1 ?_ ?_;(· (simp[hnt,A];done));(intro Kz;try simp[hnt,A])) | (refine Cp_ S.2.2.2.1 ?_ ?_;(· (simp[hnt,A];done));(intro Kz;try simp[hnt,A])) | (refine⟨?_,?_⟩; · omega) | omega | apply_assumption -exfalso -symm | (exfalso;omega)));refine mk_x ?_;(repeat (first | revert hcz | revert Kz));exact k0.o)):p:=h C S A ⟨h0⟩
theorem go2 {p c s a q0 q1:Prop} (C:c) (S:s) (A:a) (h0:q0) (h1:q1) (h:c→s→a→Hd q0→Hd q1→p:=by
 (intro C S A k0 k1;(repeat (first | refine Aw_ fun Kz hKz=> ?_ | (refine DW_rA hgAnn (by kernel_rfl) ?_;simp[hgAnn.e,hnt,A];try simp (disch:=omega) only[Ah_]) | refine Al_ ?_ | (refine AJ_ ?_ ?_ ?_;(· (simp[hnt,A];done));(try (rotate_left;(· (intro hcz;(try simp[hnt,A]at hcz);done))))) | (refine Ay_ ?_;simp[hgAnn.e,hnt,A]) | ((first | refine Aq_ ?_ | refine Ap_ ?_);simp[hnt,A]) | (intro hcz;(try simp[hnt,A]at hcz);(try (exfalso;omega))) | ((first | refine Ag_ C.1 ?_ | (refine Af_ C.1 ?_ ?_;(· (simp;done))) | refine Ag_ C.2.1 ?_ | (refine Af_ C.2.1 ?_ ?_;(· (simp;done))) | refine Ag_ C.2.2.1 ?_ | (refine Af_ C.2.2.1 ?_ ?_;(· (simp;done))) | refine Ag_ C.2.2.2.1 ?_ | (refine Af_ C.2.2.2.1 ?_ ?_;(· (simp;done))) | refine Ag_ C.2.2.2.2.1 ?_ | (refine Af_ C.2.2.2.2.1 ?_ ?_;(· (simp;done))) | refine Ag_ C.2.2.2.2.2.1 ?_ | (refine Af_ C.2.2.2.2.2.1 ?_ ?_;(· (simp;done))) | refine Ag_ C.2.2.2.2.2.2.1 ?_ | (refine Af_ C.2.2.2.2.2.2.1 ?_ ?_;(· (simp;done))) | refine Ag_ C.2.2.2.2.2.2.2.1 ?_ | (refine Af_ C.2.2.2.2.2.2.2.1 ?_ ?_;(· (simp;done))));try simp[hnt,A]) | (refine Cp_ S.1 ?_ ?_;(· (simp[hnt,A];done));(intro Kz;try simp[hnt,A])) | (refine Cp_ S.2.1 ?_ ?_;(· (simp[hnt,A];done));(intro Kz;try simp[hnt,A])) | (refine Cp_ S.2.2.1 ?_ ?_;(· (simp[hnt,A];done));(intro Kz;try simp[hnt,A])) | (refine Cp_ S.2.2.2.1 ?_ ?_;(· (simp[hnt,A];done));(intro Kz;try simp[hnt,A])) | (refine⟨?_,?_⟩; · omega) | omega | apply_assumption -exfalso -symm | (exfalso;omega)));refine mk_x ?_;(repeat (first | revert hcz | revert Kz));exact k0.o;refine mk_x ?_;(repeat (first | revert hcz | revert Kz));exact k1.o)):p:=h C S A ⟨h0⟩ ⟨h1⟩
theorem Aa_ (ids:List Nat) {P:Program} {f:FuncId} {fn:Func} {c:Code} {args:List DVal} {d:DVal} {n:Nat} (an:Ann) {E:Prop} (hf:P.funcs[f]? =some fn) (hen:Ci_ P f) (hn:fn.ntmps=n) (hm:P.follows .mixedOrders=true) (hE:E) (hb:fn.body=some c) (hnt:args.length≤n) (hd:mx d=0) (h:wfL args→∀B:Base,B.nt=n∧B.ro=none→AnIs P an E→DW P B c (DretF P fn ids d) ⟨argS args 0,[]⟩):Ac_ P f args d :=
 Gz_ ids hf hb hen (hn▸hnt) hd fun hwf B hB=>h hwf B (hn▸hB) ⟨hm,hE⟩
theorem AP_ (ids:List Nat) (ρ:List (Nat×Nat×Nat)) {P:Program} {f:FuncId} {fn:Func} {c:Code} {args:List DVal} {own own':List Ent} {d:DVal} {n:Nat} (an:Ann) {E:Prop} (hf:P.funcs[f]? =some fn) (hen:Ci_ P f) (hn:fn.ntmps=n) (hm:P.follows .mixedOrders=true) (hE:E) (hb:fn.body=some c) (hnt:args.length≤n) (hρ:(ρ.map (·.2.1)).Nodup∧(ρ.map (·.1)).Nodup) (hv:own'.all (fun e=>decide (e.r≤1))=true) (h:wfL args→∀B:Base,B.nt=n∧B.ro=none→AnIs P an E→DW P B c (DretS P fn ids ρ d own') ⟨argS args 0,own⟩):AM_ P (.func f) args own d own' :=
 UD_ ids ρ hf hb hen (hn▸hnt) hρ hv fun hwf B hB=>h hwf B (hn▸hB) ⟨hm,hE⟩
theorem wq {x:Int} (h1: -9223372036854775808≤x:=by omega) (h2:x≤9223372036854775807:=by omega):IntKind.i64.wrap x=x:=Ah_ h1 h2
end Go.Dm
end
section
namespace Go.Proofs.YtchgnpnbcjflcaaGreat
open Go Go.Dm
variable [DMode]
attribute [local irreducible] DW Bj_ Bp_
set_option maxRecDepth 100000
def anWB263 : Ann:=⟨[],[]⟩
theorem BB_ (b:Bool) (e:Int):Ac_ Tryz.prog 63 [.bool b,.int .i64 e] (.int .i64 (if b then e else 0)):=by
 refine Aa_ [] anWB263 Tryz.func63 Tryz.call63 Tryz.ntmps63 mxd (aj2 @anWB263.eq_1 Tryz.results63) rfl (by simp) (by simp[mx]) fun hwf B hnt hgAnn=> ?_
 simp only[argS];cases b
 ·exact go0 aj0 aj0 aj0
 ·exact go0 aj0 aj0 aj0
def Cl_ (l:List ByteArray) (s:ByteArray):Int:=if l.any (fun x=>s==x)then ((l.findIdx fun x=>s==x:Nat):Int)else -1
theorem HK_ {l:List ByteArray} {s:ByteArray} {k:Nat} (hk:k<l.length) (h:l[k]=s) (hno:∀i x,i<k→l[i]? =some x→(s==x)=false):Cl_ l s=k:=by
 unfold Cl_;have hb:(s==l[k])=true:=by rw[h];exact beq_self_eq_true _
 rw[if_pos (bZ0.2 ⟨l[k],cY0 _,hb⟩)]
 congr 1
 rw[List.findIdx_eq hk];exact⟨hb,fun i hi=>hno i _ hi (aH0 (by omega))⟩
theorem HL_ {l:List ByteArray} {s:ByteArray} (hno:∀i x,i<l.length→l[i]? =some x→(s==x)=false):Cl_ l s= -1:=by
 unfold Cl_;rw[if_neg];simp only[dZ0,dA0];intro x hx;obtain⟨i,hi,rfl⟩:=bN0 hx;rw[hno i _ hi (aH0 hi)]
theorem PD_ {l:List ByteArray} {s x:ByteArray} {k:Nat} (hx:l[k]? =some x) (hb:(s==x)=false) (hno:∀i x,i<k→l[i]? =some x→(s==x)=false):∀i x,i<k+1→l[i]? =some x→(s==x)=false:=by
 intro i y hi hy
 by_cases hik:i=k
 ·subst hik;rw[hx]at hy;simp only[aA0]at hy;subst hy;exact hb
 ·exact hno i y (by omega) hy
theorem KF_ {l:List ByteArray} (h:wfD (AS_ l)):l.length<9223372036854775807:=by
 simp only[wfD,aJ0]at h;omega
def Dj_ : Ann:=⟨[],[]⟩
theorem IM_ (l:List ByteArray) (s:ByteArray):Ac_ Tryz.prog 220 [AS_ l,.str s] (.int .i64 (Cl_ l s)):=by
 refine Aa_ [] Dj_ Tryz.func220 Tryz.call220 Tryz.ntmps220 mxd (aj2 @Dj_.eq_1 Tryz.results220) rfl (by simp) (by simp[mx]) fun hwf B hnt hgAnn=> ?_
 have hlen:=KF_ hwf.1;clear hwf;simp only[argS];obtain⟨R,hR⟩:∃R,R=Cl_ l s:=⟨_,rfl⟩;rw[←hR]
 (repeat (first | refine Aw_ fun K hK=> ?_ | (refine DW_r Dj_ mxd (by kernel_rfl) ?_;simp[Dj_,hnt];try simp (disch:=omega) only[Ah_]) | refine Al_ ?_ | (refine AJ_ ?_ ?_ ?_;(· (simp[hnt];done));(try (rotate_left;(· (intro hc;(try simp[hnt]at hc);done))))) | (refine Ay_ ?_;simp[Tryz.results220,hnt]) | ((first | refine Aq_ ?_ | refine Ap_ ?_);simp[hnt]) | (intro hc;(try simp[hnt]at hc);(try (exfalso;omega))) | (refine⟨?_,?_⟩; · omega) | omega | apply_assumption -exfalso -symm | (exfalso;omega)))
 refine Ae_ (X:={k:Nat//k≤l.length∧∀i x,i<k→l[i]? =some x→(s==x)=false}) (fun x=>⟨[(0,AS_ l),(1,.str s),(7,.int .i64 l.length),(8,.int .i64 x.1)],[]⟩) (fun x=>l.length-x.1) ⟨0,by simp⟩ (Sub.lit (by simp)) ?_;rintro⟨k,hk,hno⟩
 by_cases hlt:k<l.length
 ·obtain⟨x,hx,hx',hxm⟩:=Ak_ hlt;cases hb:s==x
  ·(repeat (first | refine Aw_ fun K hK=> ?_ | (refine DW_r Dj_ mxd (by kernel_rfl) ?_;simp[Dj_,hnt,dStr,hlt,hx',hx,hb];try simp (disch:=omega) only[Ah_]) | refine Al_ ?_ | (refine AJ_ ?_ ?_ ?_;(· (simp[hnt,dStr,hlt,hx',hx,hb];done));(try (rotate_left;(· (intro hc;(try simp[hnt,dStr,hlt,hx',hx,hb]at hc);done))))) | (refine Ay_ ?_;simp[Tryz.results220,hnt,dStr,hlt,hx',hx,hb]) | ((first | refine Aq_ ?_ | refine Ap_ ?_);simp[hnt,dStr,hlt,hx',hx,hb]) | (intro hc;(try simp[hnt,dStr,hlt,hx',hx,hb]at hc);(try (exfalso;omega))) | (refine⟨?_,?_⟩; · omega) | omega | apply_assumption -exfalso -symm | (exfalso;omega)))
   exact Aj_.mk ⟨k+1,by omega,PD_ hx hb hno⟩ (Sub.lit (by simp[])) (by simp;omega)
   skip
  ·have hRk:R=k:=by rw[hR];exact HK_ hlt (by rw[hx'];exact(by simpa using hb:s=x).symm) hno
   subst hRk
   (repeat (first | refine Aw_ fun K hK=> ?_ | (refine DW_r Dj_ mxd (by kernel_rfl) ?_;simp[Dj_,hnt,dStr,hlt,hx',hx,hb];try simp (disch:=omega) only[Ah_]) | refine Al_ ?_ | (refine AJ_ ?_ ?_ ?_;(· (simp[hnt,dStr,hlt,hx',hx,hb];done));(try (rotate_left;(· (intro hc;(try simp[hnt,dStr,hlt,hx',hx,hb]at hc);done))))) | (refine Ay_ ?_;simp[Tryz.results220,hnt,dStr,hlt,hx',hx,hb]) | ((first | refine Aq_ ?_ | refine Ap_ ?_);simp[hnt,dStr,hlt,hx',hx,hb]) | (intro hc;(try simp[hnt,dStr,hlt,hx',hx,hb]at hc);(try (exfalso;omega))) | (refine⟨?_,?_⟩; · omega) | omega | apply_assumption -exfalso -symm | (exfalso;omega)))
 ·have hkk:k=l.length:=by omega
  subst hkk;have hRk:R= -1:=by rw[hR];exact HL_ hno
  subst hRk
  (repeat (first | refine Aw_ fun K hK=> ?_ | (refine DW_r Dj_ mxd (by kernel_rfl) ?_;simp[Dj_,hnt];try simp (disch:=omega) only[Ah_]) | refine Al_ ?_ | (refine AJ_ ?_ ?_ ?_;(· (simp[hnt];done));(try (rotate_left;(· (intro hc;(try simp[hnt]at hc);done))))) | (refine Ay_ ?_;simp[Tryz.results220,hnt]) | ((first | refine Aq_ ?_ | refine Ap_ ?_);simp[hnt]) | (intro hc;(try simp[hnt]at hc);(try (exfalso;omega))) | (refine⟨?_,?_⟩; · omega) | omega | apply_assumption -exfalso -symm | (exfalso;omega)))
def KP_ : Ann:=⟨[],[]⟩
theorem Dz_ (l:List ByteArray) (s:ByteArray):Ac_ Tryz.prog 154 [AS_ l,.str s] (.bool (decide (0≤Cl_ l s))):=by
 refine Aa_ [] KP_ Tryz.func154 Tryz.call154 Tryz.ntmps154 mxd (aj2 @KP_.eq_1 Tryz.results154) rfl (by simp) (by simp[mx]) fun hwf B hnt hgAnn=> ?_
 simp only[argS]
 (repeat (first | refine Aw_ fun K hK=> ?_ | (refine DW_r KP_ mxd (by kernel_rfl) ?_;simp[KP_,hnt];try simp (disch:=omega) only[Ah_]) | refine Al_ ?_ | (refine AJ_ ?_ ?_ ?_;(· (simp[hnt];done));(try (rotate_left;(· (intro hc;(try simp[hnt]at hc);done))))) | (refine Ay_ ?_;simp[Tryz.results154,hnt]) | ((first | refine Aq_ ?_ | refine Ap_ ?_);simp[hnt]) | (intro hc;(try simp[hnt]at hc);(try (exfalso;omega))) | ((first | refine Ag_ (IM_ l s) ?_ | (refine Af_ (IM_ l s) ?_ ?_;(· (simp;done))));try simp[hnt]) | (refine⟨?_,?_⟩; · omega) | omega | apply_assumption -exfalso -symm | (exfalso;omega)))
def anWB269 : Ann:=⟨[],[]⟩
theorem Iy_ (l:List ByteArray) (s:ByteArray):Ac_ Tryz.prog 69 [AS_ l,.str s] (.int .i64 (Cl_ l s)):=by
 refine Aa_ [] anWB269 Tryz.func69 Tryz.call69 Tryz.ntmps69 mxd (aj2 @anWB269.eq_1 Tryz.results69) rfl (by simp) (by simp[mx]) fun hwf B hnt hgAnn=> ?_
 have hlen:=KF_ hwf.1;clear hwf;simp only[argS];obtain⟨R,hR⟩:∃R,R=Cl_ l s:=⟨_,rfl⟩;rw[←hR]
 (refine go1 aj0 aj0 aj0 ?_;intros;refine mk_i ?_)
 refine Ae_ (X:={k:Nat//k≤l.length∧∀i x,i<k→l[i]? =some x→(s==x)=false}) (fun x=>⟨[(0,AS_ l),(1,.str s),(5,.int .i64 x.1)],[]⟩) (fun x=>l.length-x.1) ⟨0,by simp⟩ (Sub.lit (by simp)) ?_;rintro⟨k,hk,hno⟩
 by_cases hlt:k<l.length
 ·obtain⟨x,hx,hx',hxm⟩:=Ak_ hlt;cases hb:s==x
  ·have hb':(x==s)=false:=by rw[eE0]at hb ⊢;simp at hb ⊢;exact fun h=>hb h.symm
   (refine go1 aj0 aj0 (aj5 @dStr.eq_1 hlt hx' hx hb') ?_;intros;refine mk_i ?_)
   exact Aj_.mk ⟨k+1,by omega,PD_ hx hb hno⟩ (Sub.lit (by simp[])) (by simp;omega)
   skip
  ·have hb':(x==s)=true:=by simp at hb ⊢;exact hb.symm
   have hRk:R=k:=by rw[hR];exact HK_ hlt (by rw[hx'];exact(by simpa using hb:s=x).symm) hno
   subst hRk;exact go0 aj0 aj0 (aj5 @dStr.eq_1 hlt hx' hx hb')
 ·have hkk:k=l.length:=by omega
  subst hkk;have hRk:R= -1:=by rw[hR];exact HL_ hno
  subst hRk;exact go0 aj0 aj0 aj0
def endsI (g:Edges) (a b:ByteArray):Int:=if 0≤Cl_ g.nodes a∧0≤Cl_ g.nodes b then 0 else 4
def anWB281 : Ann:=⟨[],[]⟩
theorem Ud_ (g:Edges) (a b:ByteArray):Ac_ Tryz.prog 81 [.agg (dGr g),.str a,.str b] (.int .i64 (endsI g a b)):=by
 refine Aa_ [] anWB281 Tryz.func81 Tryz.call81 Tryz.ntmps81 mxd (aj2 @anWB281.eq_1 Tryz.results81) rfl (by simp) (by simp[mx]) fun hwf B hnt hgAnn=> ?_
 simp only[argS];unfold endsI;have h1:=Dz_ g.nodes a;have h2:=Dz_ g.nodes b;have h3:=BB_ true 4;have h4:=BB_ false 4;simp only[if_true,aL0,if_false]at h3 h4
 by_cases c1:0≤Cl_ g.nodes a
 ·by_cases c2:0≤Cl_ g.nodes b
  ·simp only[c1,c2,decide_true]at h1 h2;exact go0 (aj4 h1 h2 h3 h4) aj0 (aj3 @dGr.eq_1 c1 c2)
  ·simp only[c1,c2,decide_true,decide_false]at h1 h2;exact go0 (aj4 h1 h2 h3 h4) aj0 (aj3 @dGr.eq_1 c1 c2)
 ·simp only[c1,decide_false]at h1;exact go0 (aj4 h1 h2 h3 h4) aj0 (aj2 @dGr.eq_1 c1)
def letB (n:Int):Bool:=(decide (97≤n)&&decide (n≤122))||(decide (65≤n)&&decide (n≤90))||(decide (48≤n)&&decide (n≤57))||n==95
def letS (s:ByteArray):Bool:=s.data.toList.all fun b=>letB (b.toNat:Int)
def BD_ (s:ByteArray):Bool:=decide (1≤s.size)&&decide (s.size≤16)&&letS s
theorem BV_ (s:ByteArray):s.data.toList.length=s.size:=rfl
def upI (n:Int):Bool:=decide (65≤n)&&decide (n≤90)
def loI (n:Int):Bool:=decide (97≤n)&&decide (n≤122)
def WD_ : Ann:=⟨[],[]⟩
theorem EQ_ (n:Int):Ac_ Tryz.prog 319 [.int .u8 n] (.bool (upI n)):=by
 refine Aa_ [] WD_ Tryz.func319 Tryz.call319 Tryz.ntmps319 mxd (aj2 @WD_.eq_1 Tryz.results319) rfl (by simp) (by simp[mx]) fun hwf B hnt hgAnn=> ?_
 simp only[argS]
 by_cases h1:65≤n
 ·by_cases h2:n≤90<;>exact go0 aj0 aj0 (aj3 @upI.eq_1 h1 h2)
 ·exact go0 aj0 aj0 (aj2 @upI.eq_1 h1)
def WC_ : Ann:=⟨[],[]⟩
theorem Fi_ (n:Int):Ac_ Tryz.prog 320 [.int .u8 n] (.bool (loI n)):=by
 refine Aa_ [] WC_ Tryz.func320 Tryz.call320 Tryz.ntmps320 mxd (aj2 @WC_.eq_1 Tryz.results320) rfl (by simp) (by simp[mx]) fun hwf B hnt hgAnn=> ?_
 simp only[argS]
 by_cases h1:97≤n
 ·by_cases h2:n≤122<;>exact go0 aj0 aj0 (aj3 @loI.eq_1 h1 h2)
 ·exact go0 aj0 aj0 (aj2 @loI.eq_1 h1)
def WH_ : Ann:=⟨[],[]⟩
theorem Hs_ (n:Int):Ac_ Tryz.prog 200 [.int .u8 n] (.bool (upI n)):=by
 refine Aa_ [] WH_ Tryz.func200 Tryz.call200 Tryz.ntmps200 mxd (aj2 @WH_.eq_1 Tryz.results200) rfl (by simp) (by simp[mx]) fun hwf B hnt hgAnn=> ?_
 simp only[argS]
 by_cases h1:65≤n
 ·by_cases h2:n≤90<;>exact go0 aj0 aj0 (aj3 @upI.eq_1 h1 h2)
 ·exact go0 aj0 aj0 (aj2 @upI.eq_1 h1)
def WG_ : Ann:=⟨[],[]⟩
theorem Hv_ (n:Int):Ac_ Tryz.prog 201 [.int .u8 n] (.bool (loI n)):=by
 refine Aa_ [] WG_ Tryz.func201 Tryz.call201 Tryz.ntmps201 mxd (aj2 @WG_.eq_1 Tryz.results201) rfl (by simp) (by simp[mx]) fun hwf B hnt hgAnn=> ?_
 simp only[argS]
 by_cases h1:97≤n
 ·by_cases h2:n≤122<;>exact go0 aj0 aj0 (aj3 @loI.eq_1 h1 h2)
 ·exact go0 aj0 aj0 (aj2 @loI.eq_1 h1)
theorem letB_eq (n:Int):letB n=(upI n||loI n||(decide (48≤n)&&decide (n≤57))||n==95):=by
 unfold letB upI loI;cases decide (65≤n)<;>cases decide (n≤90)<;>cases decide (97≤n)<;>cases decide (n≤122)<;>rfl
def WI_ : Ann:=⟨[],[]⟩
theorem Pz_ (n:Int):Ac_ Tryz.prog 199 [.int .u8 n] (.bool (letB n)):=by
 refine Aa_ [] WI_ Tryz.func199 Tryz.call199 Tryz.ntmps199 mxd (aj2 @WI_.eq_1 Tryz.results199) rfl (by simp) (by simp[mx]) fun hwf B hnt hgAnn=> ?_
 simp only[argS];rw[letB_eq];have e1:=Hs_ n;have e2:=Hv_ n;cases hU:upI n
 ·rw[hU]at e1;cases hL:loI n
  ·rw[hL]at e2
   by_cases h5:48≤n
   ·by_cases h6:n≤57
    ·exact go0 (aj2 e1 e2) aj0 (aj2 h5 h6)
    ·have h7:n=95∨¬n=95:=by omega
     rcases h7 with h7 | h7
     ·subst h7;exact go0 (aj2 e1 e2) aj0 aj0
     ·exact go0 (aj2 e1 e2) aj0 (aj3 h5 h6 h7)
   ·have h7:¬n=95:=by omega
    exact go0 (aj2 e1 e2) aj0 (aj2 h5 h7)
  ·rw[hL]at e2;exact go0 (aj2 e1 e2) aj0 aj0
 ·rw[hU]at e1;exact go0 (aj1 e1) aj0 aj0
def Kl_ (q:Int→Bool) (s:ByteArray):Bool:=match s.data.toList with | []=>false | b::_=>q (b.toNat:Int)
theorem VP_ {q:Int→Bool} {s:ByteArray} {b:UInt8} (hb:s.data.toList[0]? =some b):Kl_ q s=q (b.toNat:Int):=by
 unfold Kl_
 cases hd:s.data.toList with
 | nil=>rw[hd]at hb;simp at hb
 | cons x l=>rw[hd]at hb;simp at hb;subst hb;rfl
def WE_ : Ann:=⟨[],[]⟩
theorem DD_ (g:FuncId) (q:Int→Bool) (hq:∀n,Ac_ Tryz.prog g [.int .u8 n] (.bool (q n))) (s:ByteArray):Ac_ Tryz.prog 318 [.str s,.fn (.func g) [] []] (.bool (BD_ s&&Kl_ q s)):=by
 refine Aa_ [] WE_ Tryz.func318 Tryz.call318 Tryz.ntmps318 mxd (aj2 @WE_.eq_1 Tryz.results318) rfl (by simp) (by simp[mx]) fun hwf B hnt hgAnn=> ?_
 have hsz:s.size≤9223372036854775807:=by have:=hwf.1;simp only[wfD,maxLen]at this;omega
 clear hwf;simp only[argS];obtain⟨R,hR⟩:∃R,R=(BD_ s&&Kl_ q s):=⟨_,rfl⟩;rw[←hR]
 by_cases h1:1≤s.size
 ·by_cases h2:s.size≤16
  ·have g1:¬(s.size:Int)<1:=by omega
   have g2:¬(16:Int)<s.size:=by omega
   have g0:0<s.size:=by omega
   obtain⟨b0,hb0,hb0',_⟩:=Ak_ (show 0<s.data.toList.length by rw[BV_];omega);have e0:=hq (b0.toNat:Int);rw[VP_ hb0]at hR;cases hQ:q (b0.toNat:Int)
   ·rw[hQ]at e0 hR;have hR2:R=false:=by rw[hR];simp
    subst hR2;exact go0 (aj1 e0) aj0 (aj7 g0 g1 g2 h1 h2 hb0 hb0')
   ·rw[hQ]at e0 hR;simp only[fE0]at hR
    (refine go1 (aj1 e0) aj0 (aj7 g0 g1 g2 h1 h2 hb0 hb0') ?_;intros;refine mk_i ?_)
    refine Ae_ (X:={k:Nat//k≤s.size∧letS s=((s.data.toList.drop k).all fun b=>letB (b.toNat:Int))}) (fun k=>⟨[(0,.str s),(23,.int .i64 s.size),(24,.int .i64 k.1)],[]⟩) (fun k=>s.size-k.1) ⟨0,by simp[letS]⟩ (Sub.lit (by simp)) ?_;clear e0 hb0 hb0' hQ;rintro⟨k,hk,hl⟩
    by_cases hlt:k<s.size
    ·obtain⟨b,hb,hb',_⟩:=Ak_ (show k<s.data.toList.length by rw[BV_];exact hlt);rw[aR0 (by rw[BV_];exact hlt),hb',dC0]at hl;have e1:=EQ_ (b.toNat:Int);have e2:=Fi_ (b.toNat:Int);obtain⟨L,hLL⟩:∃L,L=letB (b.toNat:Int):=⟨_,rfl⟩;have hLe:=letB_eq (b.toNat:Int);rw[←hLL]at hl hLe;cases hU:upI (b.toNat:Int)
     ·rw[hU]at e1;cases hV:loI (b.toNat:Int)
      ·rw[hV]at e2
       by_cases h5:(48:Int)≤(b.toNat:Int)
       ·by_cases h6:(b.toNat:Int)≤57
        ·have h7:¬(b.toNat:Int)=95:=by omega
         have hL1:L=true:=by rw[hLe];simp[hU,hV,h5,h6]
         rw[hL1,cE0]at hl
         (refine go1 (aj2 e1 e2) aj0 (aj7 hlt hb hb' hU hV h5 h6) ?_;intros;refine mk_i ?_)
         refine Aj_.mk ⟨k+1,by omega,hl⟩ (Sub.lit (by simp)) (by simp;omega)
         skip
        ·by_cases h7:(b.toNat:Int)=95
         ·have hL1:L=true:=by rw[hLe];simp[hU,hV,h5,h6,h7]
          rw[h7]at e1 e2;rw[hL1,cE0]at hl
          (refine go1 (aj2 e1 e2) aj0 (aj8 hlt hb hb' hU hV h5 h6 h7) ?_;intros;refine mk_i ?_)
          refine Aj_.mk ⟨k+1,by omega,hl⟩ (Sub.lit (by simp)) (by simp;omega)
          skip
         ·have hL1:L=false:=by rw[hLe];simp[hU,hV,h5,h6,h7]
          rw[hL1,cK0]at hl;have hR2:R=false:=by rw[hR];unfold BD_;rw[hl];simp
          subst hR2;exact go0 (aj2 e1 e2) aj0 (aj8 hlt hb hb' hU hV h5 h6 h7)
       ·have h7:¬(b.toNat:Int)=95:=by omega
        have hL1:L=false:=by rw[hLe];simp[hU,hV,h5,h7]
        rw[hL1,cK0]at hl;have hR2:R=false:=by rw[hR];unfold BD_;rw[hl];simp
        subst hR2;exact go0 (aj2 e1 e2) aj0 (aj7 hlt hb hb' hU hV h5 h7)
      ·rw[hV]at e2;have hL1:L=true:=by rw[hLe];simp[hU,hV]
       rw[hL1,cE0]at hl
       (refine go1 (aj2 e1 e2) aj0 (aj5 hlt hb hb' hU hV) ?_;intros;refine mk_i ?_)
       refine Aj_.mk ⟨k+1,by omega,hl⟩ (Sub.lit (by simp)) (by simp;omega)
       skip
     ·rw[hU]at e1;have hL1:L=true:=by rw[hLe];simp[hU]
      rw[hL1,cE0]at hl
      (refine go1 (aj1 e1) aj0 (aj4 hlt hb hb' hU) ?_;intros;refine mk_i ?_)
      refine Aj_.mk ⟨k+1,by omega,hl⟩ (Sub.lit (by simp)) (by simp;omega)
      skip
    ·have hkk:k=s.size:=by omega
     subst hkk;rw[←BV_,bQ0]at hl;have hR2:R=true:=by rw[hR];unfold BD_;rw[hl];simp[h1,h2]
     subst hR2;exact go0 aj0 aj0 aj0
  ·have g1:¬(s.size:Int)<1:=by omega
   have g2:(16:Int)<s.size:=by omega
   have hR2:R=false:=by rw[hR];unfold BD_;simp[h2]
   subst hR2;exact go0 aj0 aj0 (aj4 g1 g2 h1 h2)
 ·have g1:(s.size:Int)<1:=by omega
  have hR2:R=false:=by rw[hR];unfold BD_;simp[h1]
  subst hR2;exact go0 aj0 aj0 (aj2 g1 h1)
def DQ_ (k:Int) (s:ByteArray):Bool:=if k=2 then BD_ s&&Kl_ upI s else BD_ s&&Kl_ loI s
abbrev Ca_ (k:Int) (s:ByteArray) (n:Int):List DVal:=[.int .i64 k,.str s,.int .i64 n]
def WF_ : Ann:=⟨[],[]⟩
theorem TK_ (k:Int) (hk:k=2∨k=3) (s:ByteArray):Ac_ Tryz.prog 261 [.agg (Ca_ k s 0)] (.bool (DQ_ k s)):=by
 refine Aa_ [] WF_ Tryz.func261 Tryz.call261 Tryz.ntmps261 mxd (aj2 @WF_.eq_1 Tryz.results261) rfl (by simp) (by simp[mx]) fun hwf B hnt hgAnn=> ?_
 simp only[argS];have e1:=DD_ 319 upI EQ_ s;have e2:=DD_ 320 loI Fi_ s;unfold DQ_
 rcases hk with rfl | rfl
 ·exact go0 (aj2 e1 e2) aj0 (aj1 @Ca_.eq_1)
 ·exact go0 (aj2 e1 e2) aj0 (aj1 @Ca_.eq_1)
def WJ_ : Ann:=⟨[],[⟨4,[5],[],[]⟩]⟩
theorem Op_ (k:Int) (hk:k=2∨k=3) (s:ByteArray):Ac_ Tryz.prog 181 [.sl 3 32 [Ca_ k s 0]] (.bool (DQ_ k s)):=by
 refine Aa_ [] WJ_ Tryz.func181 Tryz.call181 Tryz.ntmps181 mxd (aj2 @WJ_.eq_1 Tryz.results181) rfl (by simp) (by simp[mx]) fun hwf B hnt hgAnn=> ?_
 simp only[argS];have e1:=TK_ k hk s;obtain⟨R,hR⟩:∃R,R=DQ_ k s:=⟨_,rfl⟩;rw[←hR]at e1 ⊢
 (refine go1 aj0 aj0 (aj1 @Ca_.eq_1) ?_;intros;refine mk_i ?_)
 refine Ae_ (X:={k:Nat//k=0∨k=1∧R=true}) (fun x=>⟨[(0,.sl 3 32 [Ca_ k s 0]),(3,.int .i64 (1-x.1)),(6,.sl 3 32 [Ca_ k s 0]),(7,.int .i64 1),(8,.int .i64 x.1)],[]⟩) (fun x=>1-x.1) ⟨0,.inl rfl⟩ (Sub.lit (by simp[Ca_])) ?_;rintro⟨x,rfl | ⟨rfl,rfl⟩⟩
 ·simp only[Ca_]at e1;cases R
  ·exact go0 (aj1 e1) aj0 (aj1 @Ca_.eq_1)
  ·(refine go1 (aj1 e1) aj0 (aj1 @Ca_.eq_1) ?_;intros;refine mk_i ?_)
   refine Aj_.mk ⟨1,.inr ⟨rfl,rfl⟩⟩ (Sub.lit (by simp[Ca_])) (by simp)
   skip
 ·exact go0 aj0 aj0 (aj1 @Ca_.eq_1)
end Go.Proofs.YtchgnpnbcjflcaaGreat
end
section
namespace Go.Proofs.YtchgnpnbcjflcaaGreat
open Go Go.Dm
variable [DMode]
structure Nd where
 k:Int
 s:ByteArray
 n:Int
 deriving DecidableEq
def dNd (x:Nd):List DVal:=[.int .i64 x.k,.str x.s,.int .i64 x.n]
abbrev dNds (l:List Nd):DVal:= .sl 3 32 (l.map dNd)
structure Rul where
 h:ByteArray
 b:List Nd
 deriving DecidableEq
def dRul (r:Rul):List DVal:=[.str r.h,dNds r.b]
abbrev Av_ (l:List Rul):DVal:= .sl 2 40 (l.map dRul)
@[simp] theorem mx_dNd (s:Nd):mxL (dNd s)=0:=by simp[dNd,mxL,mx]
@[simp] theorem mx_dNds (l:List Nd):mxR (l.map dNd)=0:=mxR0 _ mx_dNd l
@[simp] theorem mx_dRul (s:Rul):mxL (dRul s)=0:=by simp[dRul,mxL,mx]
@[simp] theorem mx_dRuls (l:List Rul):mxR (l.map dRul)=0:=mxR0 _ mx_dRul l
theorem Pm_ {l:List Nd} (h:wfD (dNds l)):l.length<9223372036854775807:=by
 simp only[wfD,aJ0]at h;omega
theorem IH_ {l:List Rul} (h:wfD (Av_ l)):l.length<9223372036854775807:=by
 simp only[wfD,aJ0]at h;omega
def emp (s:ByteArray):Bool:=decide (s=⟨#[]⟩)
def mayN (x:Nd):Bool :=
 if x.k=1 then emp x.s&&decide (x.n=0)
 else if x.k=2 then decide (x.n=0)&&(BD_ x.s&&Kl_ upI x.s)
 else if x.k=3 then decide (x.n=0)&&(BD_ x.s&&Kl_ loI x.s)
 else if x.k=4 then emp x.s&&decide (2≤x.n)
 else if x.k=5 then emp x.s&&decide (2≤x.n)
 else if x.k=6 then emp x.s&&decide (x.n=1)
 else if x.k=7 then emp x.s&&decide (x.n=1)
 else if x.k=8 then emp x.s&&decide (x.n=1)
 else false
theorem Gc_ {x:Nd} (h:mayN x=true):0≤x.n:=by
 unfold mayN at h
 repeat' split at h
 all_goals simp only[aN0,decide_eq_true_eq,aL0]at h
 all_goals first | omega | (exact absurd h (by simp)) | (obtain⟨h1,h2⟩:=h;omega)
theorem ID_ {x:Nd} (h:mayN x=true):x.k=1∨x.k=2∨x.k=3∨x.k=4∨x.k=5∨x.k=6∨x.k=7∨x.k=8:=by
 unfold mayN at h
 repeat' split at h
 all_goals first | omega | (exact absurd h (by simp))
theorem LP_ {x:Nd} (h:mayN x=true):x.s.size≤16:=by
 have hn:∀s,BD_ s=true→s.size≤16:=fun s hs=>by unfold BD_ at hs;simp only[aN0,decide_eq_true_eq]at hs;exact hs.1.2
 have he:∀s,emp s=true→s.size≤16:=fun s hs=>by unfold emp at hs;simp only[decide_eq_true_eq]at hs;subst hs;decide
 unfold mayN at h
 repeat' split at h
 all_goals simp only[aN0,decide_eq_true_eq,aL0]at h
 all_goals first | exact he _ h.1 | exact hn _ h.2.1 | (exact absurd h (by simp))
inductive RT where
 | mk (x:Nd) (ks:List RT)
def RT.x : RT→Nd
 | .mk x _=>x
def RT.ks : RT→List RT
 | .mk _ ks=>ks
mutual
def flat : RT→List Nd
 | .mk x ks=>x::Am_ ks
def Am_ : List RT→List Nd
 | []=>[]
 | t::ts=>flat t++Am_ ts
end
mutual
def okT : RT→Bool
 | .mk x ks=>mayN x&&(decide (x.n=(ks.length:Int))&&okL ks)
def okL : List RT→Bool
 | []=>true
 | t::ts=>okT t&&okL ts
end
theorem Bx_ {x:Nd} {ks:List RT} (h:okT (.mk x ks)=true):mayN x=true∧x.n=(ks.length:Int)∧okL ks=true:=by
 unfold okT at h;simp only[aN0,decide_eq_true_eq]at h;exact h
theorem AZ_ {t:RT} {ts:List RT} (h:okL (t::ts)=true):okT t=true∧okL ts=true:=by
 unfold okL at h;simp only[aN0]at h;exact h
theorem OX_ {ts:List RT} (h:okL ts=true):∀t∈ts,okT t=true:=by
 induction ts with
 | nil=>simp
 | cons t ts ih =>
  obtain⟨h1,h2⟩:=AZ_ h;intro u hu
  rcases aK0.1 hu with rfl | hu
  ·exact h1
  ·exact ih h2 u hu
theorem OY_ : ∀(a b:List RT),okL (a++b)=(okL a&&okL b)
 | [],b=>by simp[okL]
 | t::a,b=>by simp[okL,OY_ a b,Bool.and_assoc]
theorem DY_ : ∀(a b:List RT),Am_ (a++b)=Am_ a++Am_ b
 | [],b=>by simp[Am_]
 | t::a,b=>by simp[Am_,DY_ a b]
theorem Fr_ (t:RT):1≤(flat t).length:=by cases t;simp[flat]
theorem AB_ (x:Nd) (ks:List RT):flat (.mk x ks)=x::Am_ ks:=by rw[flat]
theorem An_ (t:RT) (ts:List RT):Am_ (t::ts)=flat t++Am_ ts:=by rw[Am_]
def endN : List Nd→Nat→Option (List Nd)
 | l,0=>some l
 | [],_+1=>none
 | x::l,w+1=>if mayN x then endN l (w+x.n.toNat)else none
theorem BL_ (l:List Nd):endN l 0=some l:=by unfold endN;cases l<;>rfl
theorem GP_ (w:Nat):endN [] (w+1)=none:=by unfold endN;rfl
theorem CJ_ (x:Nd) (l:List Nd) (w:Nat):endN (x::l) (w+1)=if mayN x then endN l (w+x.n.toNat)else none:=by rw[endN]
mutual
theorem EJ_ : ∀(t:RT) (r:List Nd) (w:Nat),okT t=true→endN (flat t++r) (w+1)=endN r w
 | .mk x ks,r,w,h=>by
  obtain⟨h1,h2,h3⟩:=Bx_ h;rw[AB_,List.cons_append,CJ_,if_pos h1,h2,cX0];exact NQ_ ks r w h3
theorem NQ_ : ∀(ts:List RT) (r:List Nd) (w:Nat),okL ts=true→endN (Am_ ts++r) (w+ts.length)=endN r w
 | [],r,w,h=>by simp[Am_]
 | t::ts,r,w,h=>by
  obtain⟨h1,h2⟩:=AZ_ h;rw[An_,aU0,List.length_cons,←cS0,EJ_ t _ _ h1,NQ_ ts r w h2]
end
theorem endN_tree : ∀(l:List Nd) (w:Nat) (r:List Nd),endN l w=some r→∃ts:List RT,ts.length=w∧okL ts=true∧l=Am_ ts++r:=by
 intro l
 induction l with
 | nil =>
  intro w r h
  cases w with
  | zero=>rw[BL_]at h;simp only[aA0]at h;exact⟨[],rfl,rfl,by simp[Am_,h]⟩
  | succ w=>rw[GP_]at h;simp at h
 | cons x l ih =>
  intro w r h
  cases w with
  | zero=>rw[BL_]at h;simp only[aA0]at h;exact⟨[],rfl,rfl,by simp[Am_,h]⟩
  | succ w =>
   rw[CJ_]at h
   split at h
   ·rename_i hm;obtain⟨ts,h1,h2,rfl⟩:=ih _ _ h;have hk:=Gc_ hm;refine⟨.mk x (ts.take x.n.toNat)::ts.drop x.n.toNat,by simp;omega,?_,?_⟩
    ·have h3:=OY_ (ts.take x.n.toNat) (ts.drop x.n.toNat);rw[List.take_append_drop,h2]at h3;have h4:okL (ts.take x.n.toNat)=true∧okL (ts.drop x.n.toNat)=true:=by simpa using h3.symm
     have h5:x.n=((ts.take x.n.toNat).length:Int):=by rw[aY0];omega
     unfold okL okT;rw[hm,decide_eq_true h5,h4.1,h4.2];rfl
    ·rw[An_,AB_,List.cons_append,List.cons_append,aU0,←aU0 (Am_ _),←DY_,List.take_append_drop]
   ·simp at h
theorem PS_ : ∀(l:List Nd) (w:Nat),l.length<w→endN l w=none
 | _,0,h=>by omega
 | [],w+1,_=>GP_ w
 | x::l,w+1,h=>by
  rw[CJ_]
  split
  ·exact PS_ l _ (by simp at h;omega)
  ·rfl
def CO_ (l:List Nd):Bool:=match endN l 1 with
 | some []=>true
 | _=>false
theorem Jj_ {l:List Nd} (h:CO_ l=true):∃t,okT t=true∧l=flat t:=by
 unfold CO_ at h
 split at h
 ·rename_i he;obtain⟨ts,h1,h2,h3⟩:=endN_tree _ _ _ he
  match ts,h1,h2,h3 with
  | [t],_,h2,h3 =>
   refine⟨t,(AZ_ h2).1,?_⟩;rw[h3,An_];simp[Am_]
 ·simp at h
theorem DL_ {t:RT} (h:okT t=true):CO_ (flat t)=true:=by
 unfold CO_;have:=EJ_ t [] 0 h;rw[bM0,BL_]at this;rw[this]
theorem okT_all {t:RT} (h:okT t=true):∀x∈flat t,mayN x=true:=by
 have key:∀(l:List Nd) (w:Nat) (r:List Nd),endN l w=some r→∀x∈l,x∈r∨mayN x=true:=by
  intro l
  induction l with
  | nil=>intro w r _ x hx;simp at hx
  | cons y l ih =>
   intro w r he x hx
   cases w with
   | zero=>rw[BL_]at he;simp only[aA0]at he;subst he;exact .inl hx
   | succ w =>
    rw[CJ_]at he
    split at he
    ·rename_i hm
     rcases aK0.1 hx with rfl | hx
     ·exact .inr hm
     ·exact ih _ _ he x hx
    ·simp at he
 intro x hx;have:=EJ_ t [] 0 h;rw[bM0,BL_]at this
 rcases key _ _ _ this x hx with h | h
 ·simp at h
 ·exact h
theorem BK_ : ∀ts:List RT,ts.length≤(Am_ ts).length
 | []=>by simp
 | t::ts=>by
  have:=BK_ ts;have:=Fr_ t;rw[An_];simp;omega
mutual
theorem Pt_ : ∀(t:RT),okT t=true→∀x∈flat t,x.n≤((flat t).length:Int)
 | .mk y ks,h,x,hx=>by
  obtain⟨h1,h2,h3⟩:=Bx_ h;have:=BK_ ks;rw[AB_]at hx ⊢;rw[List.length_cons]
  rcases aK0.1 hx with rfl | hx
  ·omega
  ·have:=VL_ ks h3 x hx;omega
theorem VL_ : ∀(ts:List RT),okL ts=true→∀x∈Am_ ts,x.n≤((Am_ ts).length:Int)
 | [],_,x,hx=>by simp[Am_]at hx
 | t::ts,h,x,hx=>by
  obtain⟨h1,h2⟩:=AZ_ h;rw[An_]at hx ⊢;rw[aC0]
  rcases aI0.1 hx with hx | hx
  ·have:=Pt_ t h1 x hx;omega
  ·have:=VL_ ts h2 x hx;omega
end
mutual
def htT : RT→Nat
 | .mk _ ks=>htL ks+1
def htL : List RT→Nat
 | []=>0
 | t::ts=>max (htT t) (htL ts)
end
theorem VN_ (x:Nd) (ks:List RT):htT (.mk x ks)=htL ks+1:=by rw[htT]
theorem GM_ (t:RT) (ts:List RT):htL (t::ts)=max (htT t) (htL ts):=by rw[htL]
theorem Ma_ : htL []=0:=by rw[htL]
def fin : List Nat→List Nat
 | []=>[]
 | c::s=>if c=1 then fin s else (c-1)::s
def FI_ (p:List Nat×Nat) (x:Nd):List Nat×Nat:=(if x.n.toNat=0 then fin p.1 else x.n.toNat::p.1,max p.2 (p.1.length+1))
mutual
theorem Jx_ : ∀(t:RT) (s:List Nat) (m:Nat),okT t=true→(flat t).foldl FI_ (s,m)=(fin s,max m (s.length+htT t))
 | .mk x ks,s,m,h=>by
  obtain⟨h1,h2,h3⟩:=Bx_ h;rw[AB_,cO0,VN_];unfold FI_;rw[h2,cX0]
  cases ks with
  | nil=>simp[Am_,Ma_]
  | cons t ts =>
   have:=Mb_ (t::ts) s (max m (s.length+1)) h3 (by simp);simp only[List.length_cons]at this ⊢;rw[if_neg (by omega)];unfold FI_ at this;rw[this]
   congr 1
   omega
theorem Mb_ : ∀(ts:List RT) (s:List Nat) (m:Nat),okL ts=true→ts≠[]→(Am_ ts).foldl FI_ (ts.length::s,m)=(fin s,max m (s.length+1+htL ts))
 | [],s,m,h,hne=>absurd rfl hne
 | [t],s,m,h,hne=>by
  obtain⟨h1,h2⟩:=AZ_ h;have:=Jx_ t (1::s) m h1;rw[An_,cR0];simp only[List.length_cons,List.length_nil,bT0]at this ⊢;rw[this,GM_,Ma_];simp[Am_,fin]
 | t::u::r,s,m,h,hne=>by
  obtain⟨h1,h2⟩:=AZ_ h;have h3:=Jx_ t (((u::r).length+1)::s) m h1;have h4:=Mb_ (u::r) s (max m (s.length+1+htT t)) h2 (by simp);rw[An_,cR0,List.length_cons,h3]
  have e:fin (((u::r).length+1)::s)=(u::r).length::s:=by
   simp only[fin];rw[if_neg (by simp)];simp
  rw[e];have e2:max m ((((u::r).length+1)::s).length+htT t)=max m (s.length+1+htT t):=by rw[List.length_cons]
  rw[e2,h4,GM_ t]
  congr 1
  omega
end
theorem HQ_ {t:RT} (h:okT t=true):(flat t).foldl FI_ ([],0)=([],htT t):=by
 rw[Jx_ t [] 0 h];simp[fin]
def popR : List Nat→List Nat
 | []=>[]
 | c::s=>if c=0 then fin s else c::s
def pos (s:List Nat):Prop:=∀c∈s,1≤c∧c≤1572864
theorem popR_step {c:Nat} {s:List Nat} (h:1≤c):popR ((c-1)::s)=fin (c::s):=by
 rw[show popR ((c-1)::s)=if c-1=0 then fin s else (c-1)::s from rfl,show fin (c::s)=if c=1 then fin s else (c-1)::s from rfl]
 by_cases h1:c=1
 ·rw[if_pos (by omega),if_pos h1]
 ·rw[if_neg (by omega),if_neg h1]
theorem fin_len : ∀s:List Nat,(fin s).length≤s.length
 | []=>by simp[fin]
 | c::s=>by
  unfold fin
  split
  ·have:=fin_len s;simp;omega
  ·simp
theorem fin_pos : ∀{s:List Nat},pos s→pos (fin s)
 | [],_=>by intro c hc;simp[fin]at hc
 | c::s,h=>by
  unfold fin
  split
  ·exact fin_pos fun d hd=>h d (aD0 _ hd)
  ·intro d hd;have hc:=h c aF0
   rcases aK0.1 hd with rfl | hd
   ·omega
   ·exact h d (aD0 _ hd)
theorem hstep_len (p:List Nat×Nat) (x:Nd):(FI_ p x).1.length≤p.1.length+1:=by
 unfold FI_;simp only
 split
 ·have:=fin_len p.1;omega
 ·simp
theorem hstep_pos {p:List Nat×Nat} (x:Nd) (hx:x.n.toNat≤1572864) (h:pos p.1):pos (FI_ p x).1:=by
 unfold FI_;simp only
 split
 ·exact fin_pos h
 ·intro d hd
  rcases aK0.1 hd with rfl | hd
  ·omega
  ·exact h d hd
theorem popR_push (c:Nat) (s:List Nat):popR (c::s)=if c=0 then fin s else c::s:=rfl
def dstk (s:List Nat):List (List DVal):=(s.map fun c:Nat=>[DVal.int .i64 (c:Int)]).reverse
theorem DH_ (s:List Nat):(dstk s).length=s.length:=by simp[dstk]
theorem Go_ (c:Nat) (s:List Nat):dstk (c::s)=dstk s++[[.int .i64 (c:Int)]]:=by simp[dstk]
theorem Co_ : dstk []=[]:=rfl
@[simp] theorem mx_dstk (s:List Nat):mxR (dstk s)=0:=by
 unfold dstk
 exact Nat.le_zero.1 (Pc_ fun d hd=>by
  obtain⟨c,_,rfl⟩:=aV0.1 (List.mem_reverse.1 hd)
  simp[mxL,mx])
theorem Wj_ (c:Nat) (s:List Nat):(dstk (c::s))[s.length]? =some [.int .i64 (c:Int)]:=by
 rw[Go_,bC0 (by rw[DH_];omega),DH_,dT0];rfl
theorem dstk_take (c:Nat) (s:List Nat):(dstk (c::s)).take s.length=dstk s:=by
 rw[Go_,eQ0 (by rw[DH_];omega),bW0 (by rw[DH_];omega)]
theorem dstk_set (c d:Nat) (s:List Nat):(dstk (c::s)).set s.length [.int .i64 (d:Int)]=dstk (d::s):=by
 rw[Go_,Go_,List.set_append_right _ _ (by rw[DH_];omega),DH_,dT0];rfl
mutual
def empT : RT→Bool
 | .mk x ks=>if x.k=2∨x.k=3 then false else if x.k=5 then anyE ks else if x.k=4∨x.k=7 then allE ks else true
def anyE : List RT→Bool
 | []=>false
 | t::ts=>empT t||anyE ts
def allE : List RT→Bool
 | []=>true
 | t::ts=>empT t&&allE ts
end
theorem Mo_ (x:Nd) (ks:List RT):empT (.mk x ks)=if x.k=2∨x.k=3 then false else if x.k=5 then anyE ks else if x.k=4∨x.k=7 then allE ks else true:=by rw[empT]
theorem KO_ : ∀ts:List RT,anyE ts=ts.any empT
 | []=>by rw[anyE];rfl
 | t::ts=>by rw[anyE,KO_ ts];rfl
theorem Le_ : ∀ts:List RT,allE ts=ts.all empT
 | []=>by rw[allE];rfl
 | t::ts=>by rw[allE,Le_ ts];rfl
theorem Du_ (t:RT) (ts:List RT):allE (t::ts)=(empT t&&allE ts):=by rw[allE]
theorem DK_ : allE []=true:=by rw[allE]
theorem ML_ (ts:List RT) (t:RT):allE (ts++[t])=(allE ts&&empT t):=by rw[Le_,Le_,eU0];simp
def CB_ (l f:List Nat):List (Nat×Nat):=l.flatMap fun p=>f.map fun q=>(p,q)
theorem DX_ {l f:List Nat} {p q:Nat}:(p,q)∈CB_ l f↔p∈l∧q∈f:=by
 unfold CB_;simp only[bR0,aV0,_root_.Prod.mk.injEq]
 constructor
 ·rintro⟨a,ha,b,hb,rfl,rfl⟩;exact⟨ha,hb⟩
 ·rintro⟨ha,hb⟩;exact⟨p,ha,q,hb,rfl,rfl⟩
theorem joinP_nil (f:List Nat):CB_ [] f=[]:=rfl
mutual
def fiT : RT→Nat→List Nat
 | .mk x ks,a=>if x.k=2∨x.k=3 then [a]else fiL x.k ks (a+1)
def fiL (k:Int):List RT→Nat→List Nat
 | [],_=>[]
 | u::us,a=>fiT u a++(if k=4∧empT u=false then []else fiL k us (a+(flat u).length))
end
mutual
def laT : RT→Nat→List Nat
 | .mk x ks,a=>if x.k=2∨x.k=3 then [a]else laL x.k ks (a+1)
def laL (k:Int):List RT→Nat→List Nat
 | [],_=>[]
 | u::us,a=>if k=4 then laL k us (a+(flat u).length)++(if allE us=true then laT u a else [])else laT u a++laL k us (a+(flat u).length)
end
mutual
def arT : RT→Nat→List (Nat×Nat)
 | .mk x ks,a=>if x.k=2∨x.k=3 then []else arL x.k ks (a+1) []++(if x.k=6∨x.k=7 then CB_ (laL x.k ks (a+1)) (fiL x.k ks (a+1))else [])
def arL (k:Int):List RT→Nat→List Nat→List (Nat×Nat)
 | [],_,_=>[]
 | u::us,a,acc=>arT u a++((if k=4 then CB_ acc (fiT u a)else [])++arL k us (a+(flat u).length) (if k=4 then laT u a++(if empT u=true then acc else [])else []))
end
theorem JX_ (x:Nd) (ks:List RT) (a:Nat):fiT (.mk x ks) a=if x.k=2∨x.k=3 then [a]else fiL x.k ks (a+1):=by rw[fiT]
theorem HU_ (k:Int) (a:Nat):fiL k [] a=[]:=by rw[fiL]
theorem Cn_ (k:Int) (u:RT) (us:List RT) (a:Nat):fiL k (u::us) a=fiT u a++(if k=4∧empT u=false then []else fiL k us (a+(flat u).length)):=by rw[fiL]
theorem IK_ (x:Nd) (ks:List RT) (a:Nat):laT (.mk x ks) a=if x.k=2∨x.k=3 then [a]else laL x.k ks (a+1):=by rw[laT]
theorem Gg_ (k:Int) (a:Nat):laL k [] a=[]:=by rw[laL]
theorem BU_ (k:Int) (u:RT) (us:List RT) (a:Nat):laL k (u::us) a=if k=4 then laL k us (a+(flat u).length)++(if allE us=true then laT u a else [])else laT u a++laL k us (a+(flat u).length):=by rw[laL]
theorem Jd_ (x:Nd) (ks:List RT) (a:Nat):arT (.mk x ks) a=if x.k=2∨x.k=3 then []else arL x.k ks (a+1) []++(if x.k=6∨x.k=7 then CB_ (laL x.k ks (a+1)) (fiL x.k ks (a+1))else []):=by rw[arT]
theorem Ic_ (k:Int) (a:Nat) (acc:List Nat):arL k [] a acc=[]:=by rw[arL]
theorem Cq_ (k:Int) (u:RT) (us:List RT) (a:Nat) (acc:List Nat):arL k (u::us) a acc=arT u a++((if k=4 then CB_ acc (fiT u a)else [])++arL k us (a+(flat u).length) (if k=4 then laT u a++(if empT u=true then acc else [])else [])):=by rw[arL]
theorem Bg_ : Am_ []=[]:=by rw[Am_]
theorem PO_ (k:Int) (u:RT):∀(us:List RT) (a:Nat),fiL k (us++[u]) a=fiL k us a++(if k=4∧allE us=false then []else fiT u (a+(Am_ us).length))
 | [],a=>by simp[HU_,Cn_,DK_,Bg_]
 | v::us,a=>by
  rw[List.cons_append,Cn_,Cn_,PO_ k u us,Du_,An_,aC0,←cS0,aU0]
  by_cases h4:k=4<;>cases hv:empT v<;>simp[h4]
theorem Pp_ (k:Int) (u:RT):∀(us:List RT) (a:Nat),laL k (us++[u]) a=if k=4 then laT u (a+(Am_ us).length)++(if empT u=true then laL k us a else [])else laL k us a++laT u (a+(Am_ us).length)
 | [],a=>by simp[Gg_,BU_,DK_,Bg_]
 | v::us,a=>by
  rw[List.cons_append,BU_,BU_,Pp_ k u us,ML_,An_,aC0,←cS0]
  by_cases h4:k=4
  ·cases hu:empT u<;>cases hs:allE us<;>simp[h4]
  ·simp[h4]
theorem SK_ (u:RT):∀(us:List RT) (a:Nat) (acc:List Nat),arL 4 (us++[u]) a acc=arL 4 us a acc++(arT u (a+(Am_ us).length)++CB_ (laL 4 us a++(if allE us=true then acc else [])) (fiT u (a+(Am_ us).length)))
 | [],a,acc=>by simp[Ic_,Cq_,Gg_,DK_,Bg_]
 | v::us,a,acc=>by
  rw[List.cons_append,Cq_,Cq_,SK_ u us,Du_,An_,aC0,←cS0,BU_];cases hv:empT v<;>cases hs:allE us<;>simp[aU0]
theorem Wu_ (k:Int) (h4:¬k=4) (u:RT):∀(us:List RT) (a:Nat),arL k (us++[u]) a []=arL k us a []++arT u (a+(Am_ us).length)
 | [],a=>by simp[Ic_,Cq_,Bg_,h4]
 | v::us,a=>by
  rw[List.cons_append,Cq_,Cq_,An_,aC0,←cS0];simp only[h4,if_false,List.nil_append];rw[Wu_ k h4 u us,aU0]
-- where these lie
mutual
theorem JY_ : ∀(t:RT) (a q:Nat),q∈fiT t a→a≤q∧q<a+(flat t).length
 | .mk x ks,a,q,h=>by
  rw[JX_]at h;rw[AB_,List.length_cons]
  split at h
  ·simp at h;omega
  ·have:=JZ_ x.k ks (a+1) q h;omega
theorem JZ_ (k:Int):∀(us:List RT) (a q:Nat),q∈fiL k us a→a≤q∧q<a+(Am_ us).length
 | [],a,q,h=>by simp[HU_]at h
 | u::us,a,q,h=>by
  rw[Cn_,aI0]at h;rw[An_,aC0]
  rcases h with h | h
  ·have:=JY_ u a q h;omega
  ·split at h
   ·simp at h
   ·have:=JZ_ k us _ q h;omega
end
mutual
theorem Gf_ : ∀(t:RT) (a q:Nat),q∈laT t a→a≤q∧q<a+(flat t).length
 | .mk x ks,a,q,h=>by
  rw[IK_]at h;rw[AB_,List.length_cons]
  split at h
  ·simp at h;omega
  ·have:=JS_ x.k ks (a+1) q h;omega
theorem JS_ (k:Int):∀(us:List RT) (a q:Nat),q∈laL k us a→a≤q∧q<a+(Am_ us).length
 | [],a,q,h=>by simp[Gg_]at h
 | u::us,a,q,h=>by
  rw[BU_]at h;rw[An_,aC0]
  have key:q∈laT u a∨q∈laL k us (a+(flat u).length):=by
   split at h
   ·rcases aI0.1 h with h | h
    ·exact .inr h
    ·split at h
     ·exact .inl h
     ·simp at h
   ·exact aI0.1 h
  rcases key with h | h
  ·have:=Gf_ u a q h;omega
  ·have:=JS_ k us _ q h;omega
end
mutual
theorem arT_in : ∀(t:RT) (a p q:Nat),(p,q)∈arT t a→(a≤p∧p<a+(flat t).length)∧(a≤q∧q<a+(flat t).length)
 | .mk x ks,a,p,q,h=>by
  rw[Jd_]at h;rw[AB_,List.length_cons]
  split at h
  ·simp at h
  ·rcases aI0.1 h with h | h
   ·rcases Ww_ x.k ks (a+1) [] p q h with ⟨h1 | h1,h2⟩
    ·omega
    ·simp at h1
   ·split at h
    ·obtain⟨h1,h2⟩:=DX_.1 h;have:=JS_ x.k ks _ p h1;have:=JZ_ x.k ks _ q h2;omega
    ·simp at h
theorem Ww_ (k:Int):∀(us:List RT) (a:Nat) (acc:List Nat) (p q:Nat),(p,q)∈arL k us a acc→((a≤p∧p<a+(Am_ us).length)∨p∈acc)∧(a≤q∧q<a+(Am_ us).length)
 | [],a,acc,p,q,h=>by simp[Ic_]at h
 | u::us,a,acc,p,q,h=>by
  rw[Cq_]at h;rw[An_,aC0];simp only[aI0]at h
  rcases h with h | h | h
  ·have:=arT_in u a p q h;omega
  ·split at h
   ·obtain⟨h1,h2⟩:=DX_.1 h;have:=JY_ u a q h2;exact⟨.inr h1,by omega⟩
   ·simp at h
  ·obtain⟨h1,h2⟩:=Ww_ k us _ _ p q h;refine⟨?_,by omega⟩
   rcases h1 with h1 | h1
   ·left;omega
   ·split at h1
    ·rcases aI0.1 h1 with h1 | h1
     ·have:=Gf_ u a p h1;left;omega
     ·split at h1
      ·exact .inr h1
      ·simp at h1
    ·simp at h1
end
def inB (u:RT) (a p:Nat):Bool:=decide (a≤p)&&decide (p<a+(flat u).length)
theorem CH_ {u:RT} {a p:Nat}:inB u a p=true↔a≤p∧p<a+(flat u).length:=by unfold inB;simp
theorem inB_f {u:RT} {a p:Nat} (h:p<a∨a+(flat u).length≤p):inB u a p=false:=by
 rw[eE0];intro hh;rw[CH_]at hh;omega
mutual
def bgT : RT→Nat→Nat→Bool
 | .mk x ks,a,p=>decide (a=p)||bgL x.k ks (a+1) p
def bgL (k:Int):List RT→Nat→Nat→Bool
 | [],_,_=>false
 | u::us,a,p=>(inB u a p&&bgT u a p)||(if k=4∧empT u=false then false else bgL k us (a+(flat u).length) p)
end
mutual
def enT : RT→Nat→Nat→Bool
 | .mk x ks,a,p=>decide (a=p)||enL x.k ks (a+1) p
def enL (k:Int):List RT→Nat→Nat→Bool
 | [],_,_=>false
 | u::us,a,p=>enL k us (a+(flat u).length) p||((!decide (k=4)||allE us)&&(inB u a p&&enT u a p))
end
def afL : List RT→Nat→Nat→Bool
 | [],_,_=>false
 | u::us,a,q=>if inB u a q then bgT u a q else if empT u then afL us (a+(flat u).length) q else false
def irL : List RT→Nat→Nat→Nat→Bool
 | [],_,_,_=>false
 | u::us,a,p,q=>if inB u a p then enT u a p&&afL us (a+(flat u).length) q else irL us (a+(flat u).length) p q
def hdL : List RT→Nat→Nat→Nat→Bool
 | [],_,_,_=>false
 | u::_,a,p,q=>enT u a p&&bgT u a q
mutual
def foT : RT→Nat→Nat→Nat→Bool
 | .mk x ks,a,p,q=>if (decide (x.k=6)||decide (x.k=7))&&hdL ks (a+1) p q then true else match foL ks (a+1) p q with
  | some b=>b
  | none=>decide (x.k=4)&&irL ks (a+1) p q
def foL : List RT→Nat→Nat→Nat→Option Bool
 | [],_,_,_=>none
 | u::us,a,p,q=>if inB u a p&&inB u a q then some (foT u a p q)else foL us (a+(flat u).length) p q
end
theorem bgT_mk (x:Nd) (ks:List RT) (a p:Nat):bgT (.mk x ks) a p=(decide (a=p)||bgL x.k ks (a+1) p):=by rw[bgT]
theorem Qd_ (k:Int) (a p:Nat):bgL k [] a p=false:=by rw[bgL]
theorem Qe_ (k:Int) (u:RT) (us:List RT) (a p:Nat):bgL k (u::us) a p=((inB u a p&&bgT u a p)||(if k=4∧empT u=false then false else bgL k us (a+(flat u).length) p)):=by rw[bgL]
theorem enT_mk (x:Nd) (ks:List RT) (a p:Nat):enT (.mk x ks) a p=(decide (a=p)||enL x.k ks (a+1) p):=by rw[enT]
theorem Mn_ (k:Int) (a p:Nat):enL k [] a p=false:=by rw[enL]
theorem IS_ (k:Int) (u:RT) (us:List RT) (a p:Nat):enL k (u::us) a p=(enL k us (a+(flat u).length) p||((!decide (k=4)||allE us)&&(inB u a p&&enT u a p))):=by rw[enL]
theorem Wf_ (k:Int) (u:RT) (p:Nat):∀(us:List RT) (a:Nat),enL k (us++[u]) a p=((inB u (a+(Am_ us).length) p&&enT u (a+(Am_ us).length) p)||(if k=4∧empT u=false then false else enL k us a p))
 | [],a=>by simp[Mn_,IS_,DK_,Bg_]
 | v::us,a=>by
  rw[List.cons_append,IS_,IS_,Wf_ k u p us,ML_,An_,aC0,←cS0]
  by_cases h4:k=4
  ·cases hu:empT u<;>cases hs:allE us<;>simp[h4,Bool.or_assoc]
  ·simp[h4,Bool.or_assoc]
theorem foT_mk (x:Nd) (ks:List RT) (a p q:Nat):foT (.mk x ks) a p q=if (decide (x.k=6)||decide (x.k=7))&&hdL ks (a+1) p q then true else match foL ks (a+1) p q with
 | some b=>b
 | none=>decide (x.k=4)&&irL ks (a+1) p q:=by rw[foT]
theorem Gn_ (a p q:Nat):foL [] a p q=none:=by rw[foL]
theorem Fq_ (u:RT) (us:List RT) (a p q:Nat):foL (u::us) a p q=if inB u a p&&inB u a q then some (foT u a p q)else foL us (a+(flat u).length) p q:=by rw[foL]
theorem Qr_ : ∀(us:List RT) (a q:Nat),q<a→afL us a q=false
 | [],_,_,_=>rfl
 | u::us,a,q,h=>by
  rw[afL,inB_f (.inl h)];simp only[aL0,if_false];rw[Qr_ us _ q (by omega)];simp
theorem Pv_ : ∀(us:List RT) (a p q:Nat),p<a∨q<a→irL us a p q=false
 | [],_,_,_,_=>rfl
 | u::us,a,p,q,h=>by
  rw[irL]
  split
  ·rename_i hp;rw[CH_]at hp;rw[Qr_ us _ q (by omega),dQ0]
  ·exact Pv_ us _ p q (by omega)
theorem PI_ : ∀(us:List RT) (a p q:Nat),p<a∨q<a→foL us a p q=none
 | [],_,_,_,_=>by rw[Gn_]
 | u::us,a,p,q,h=>by
  rw[Fq_,if_neg]
  ·exact PI_ us _ p q (by omega)
  ·intro hh;rw[aN0,CH_,CH_]at hh;omega
def Lf (l:List Nd) (a p:Nat):Prop:=∀x,a≤p→l[p-a]? =some x→x.k=2∨x.k=3
theorem Lf.left {l m:List Nd} {a p:Nat} (h:Lf (l++m) a p):Lf l a p:=fun x h1 h2=>h x h1 (by
 rw[bB0 (aB0.1 h2).1];exact h2)
theorem Lf.right {l m:List Nd} {a p:Nat} (h:Lf (l++m) a p):Lf m (a+l.length) p:=fun x h1 h2=>h x (by omega) (by
 rw[bC0 (by omega),fA0];exact h2)
theorem Lf.kids {x:Nd} {ks:List RT} {a p:Nat} (h:Lf (flat (.mk x ks)) a p):Lf (Am_ ks) (a+1) p:=fun y h1 h2=>h y (by omega) (by
 rw[AB_,show p-a=(p-(a+1))+1 by omega,bJ0];exact h2)
theorem Lf.head {x:Nd} {ks:List RT} {a p:Nat} (h:Lf (flat (.mk x ks)) a p) (hx:¬(x.k=2∨x.k=3)):a≠p:=fun e=>hx (h x (by omega) (by rw[AB_,show p-a=0 by omega];rfl))
theorem Fl_ {x:Nd} {ks:List RT} (h:okT (.mk x ks)=true) (hx:x.k=2∨x.k=3):ks=[]:=by
 obtain⟨h1,h2,_⟩:=Bx_ h;unfold mayN at h1
 have h0:x.n=0:=by
  rcases hx with hx | hx
  ·rw[if_neg (by omega),if_pos hx]at h1;simp only[aN0,decide_eq_true_eq]at h1;exact h1.1
  ·rw[if_neg (by omega),if_neg (by omega),if_pos hx]at h1;simp only[aN0,decide_eq_true_eq]at h1;exact h1.1
 exact bO0 (by omega)
theorem OT_ {x:Nd} {ks:List RT} (h:okT (.mk x ks)=true) (hx:x.k=6∨x.k=7∨x.k=8):∃u,ks=[u]:=by
 obtain⟨h1,h2,_⟩:=Bx_ h;unfold mayN at h1
 have h0:x.n=1:=by
  rcases hx with hx | hx | hx<;>simp[hx]at h1<;>exact h1.2
 exact List.length_eq_one_iff.1 (by omega)
mutual
theorem SE_ : ∀(t:RT) (a p:Nat),okT t=true→Lf (flat t) a p→(p∈fiT t a↔bgT t a p=true)
 | .mk x ks,a,p,ok,hl=>by
  rw[JX_,bgT_mk]
  by_cases hx:x.k=2∨x.k=3
  ·rw[if_pos hx,Fl_ ok hx,Qd_];simp only[aE0,Bool.or_false,decide_eq_true_eq];exact eq_comm
  ·have hne:=hl.head hx;rw[if_neg hx,decide_eq_false hne,eM0];exact Us_ x.k ks (a+1) p (Bx_ ok).2.2 hl.kids
theorem Us_ (k:Int):∀(us:List RT) (a p:Nat),okL us=true→Lf (Am_ us) a p→(p∈fiL k us a↔bgL k us a p=true)
 | [],a,p,_,_=>by simp[HU_,Qd_]
 | u::us,a,p,ok,hl=>by
  obtain⟨ok1,ok2⟩:=AZ_ ok;rw[An_]at hl;have i1:=SE_ u a p ok1 hl.left;have i2:=Us_ k us _ p ok2 hl.right;rw[Cn_,Qe_,aI0,dD0,aN0]
  have e1:p∈fiT u a↔(inB u a p=true∧bgT u a p=true):=by
   rw[←i1];exact⟨fun h=>⟨CH_.2 (JY_ u a p h),h⟩,fun h=>h.2⟩
  rw[e1]
  by_cases hc:k=4∧empT u=false
  ·rw[if_pos hc,if_pos hc];simp
  ·rw[if_neg hc,if_neg hc,i2]
end
mutual
theorem Sm_ : ∀(t:RT) (a p:Nat),okT t=true→Lf (flat t) a p→(p∈laT t a↔enT t a p=true)
 | .mk x ks,a,p,ok,hl=>by
  rw[IK_,enT_mk]
  by_cases hx:x.k=2∨x.k=3
  ·rw[if_pos hx,Fl_ ok hx,Mn_];simp only[aE0,Bool.or_false,decide_eq_true_eq];exact eq_comm
  ·have hne:=hl.head hx;rw[if_neg hx,decide_eq_false hne,eM0];exact Ue_ x.k ks (a+1) p (Bx_ ok).2.2 hl.kids
theorem Ue_ (k:Int):∀(us:List RT) (a p:Nat),okL us=true→Lf (Am_ us) a p→(p∈laL k us a↔enL k us a p=true)
 | [],a,p,_,_=>by simp[Gg_,Mn_]
 | u::us,a,p,ok,hl=>by
  obtain⟨ok1,ok2⟩:=AZ_ ok;rw[An_]at hl;have i1:=Sm_ u a p ok1 hl.left;have i2:=Ue_ k us _ p ok2 hl.right;rw[BU_,IS_,dD0,aN0,aN0,←i2]
  have e1:p∈laT u a↔(inB u a p=true∧enT u a p=true):=by
   rw[←i1];exact⟨fun h=>⟨CH_.2 (Gf_ u a p h),h⟩,fun h=>h.2⟩
  rw[←e1]
  by_cases h4:k=4
  ·rw[if_pos h4,aI0];cases hs:allE us<;>simp[h4]
  ·rw[if_neg h4,aI0];simp only[h4,decide_false,Bool.not_false,Bool.true_or,true_and];exact or_comm
end
mutual
theorem fo_iff : ∀(t:RT) (a p q:Nat),okT t=true→Lf (flat t) a p→Lf (flat t) a q→((p,q)∈arT t a↔foT t a p q=true)
 | .mk x ks,a,p,q,ok,hp,hq=>by
  rw[Jd_,foT_mk];obtain⟨_,_,ok2⟩:=Bx_ ok
  by_cases hx:x.k=2∨x.k=3
  ·rw[if_pos hx,Fl_ ok hx,Gn_,decide_eq_false (by omega),decide_eq_false (by omega),decide_eq_false (by omega)];simp
  ·rw[if_neg hx,aI0];have hL:=foL_iff x.k ks (a+1) [] p q ok2 hp.kids hq.kids (by simp);simp only[dX0,false_and,or_false]at hL;rw[hL]
   by_cases h67:x.k=6∨x.k=7
   ·rw[if_pos h67,DX_];have h4:¬x.k=4:=by omega
    have hk:x.k=6∨x.k=7∨x.k=8:=by omega
    obtain⟨u,rfl⟩:=OT_ ok hk;rw[Ue_ x.k [u] (a+1) p ok2 hp.kids,Us_ x.k [u] (a+1) q ok2 hq.kids];have h1:enL x.k [u] (a+1) p=(inB u (a+1) p&&enT u (a+1) p):=by rw[IS_,Mn_,DK_];simp
    have h2:bgL x.k [u] (a+1) q=(inB u (a+1) q&&bgT u (a+1) q):=by rw[Qe_,Qd_];simp
    have h3:hdL [u] (a+1) p q=(enT u (a+1) p&&bgT u (a+1) q):=rfl;have i1:enT u (a+1) p=true→inB u (a+1) p=true:=fun h=>CH_.2 (Gf_ u _ p ((Sm_ u (a+1) p (AZ_ ok2).1 (by have:=hp.kids;rw[An_,Bg_,bM0]at this;exact this)).2 h))
    have i2:bgT u (a+1) q=true→inB u (a+1) q=true:=fun h=>CH_.2 (JY_ u _ q ((SE_ u (a+1) q (AZ_ ok2).1 (by have:=hq.kids;rw[An_,Bg_,bM0]at this;exact this)).2 h))
    have e67:(decide (x.k=6)||decide (x.k=7))=true:=by simpa using h67
    rw[h1,h2,h3,e67,cE0];simp only[h4,decide_false,cK0,false_and,or_false,aN0]
    by_cases hh:enT u (a+1) p=true∧bgT u (a+1) q=true
    ·rw[if_pos hh];simp only[iff_true];exact .inr ⟨⟨i1 hh.1,hh.1⟩,i2 hh.2,hh.2⟩
    ·rw[if_neg hh]
     cases hf:foL [u] (a+1) p q with
     | none =>
      simp only[reduceCtorEq,false_or];exact⟨fun h=>absurd ⟨h.1.2,h.2.2⟩ hh,fun h=>by simp at h⟩
     | some b =>
      simp only[aA0];exact⟨fun h=>by rcases h with h | h;exact h;exact absurd ⟨h.1.2,h.2.2⟩ hh,fun h=> .inl h⟩
   ·have e67:(decide (x.k=6)||decide (x.k=7))=false:=by rw[eE0];simpa using h67
    rw[if_neg h67,e67,cK0];simp only[aL0,if_false,dX0,or_false]
    cases hf:foL ks (a+1) p q with
    | none=>simp
    | some b=>simp
theorem foL_iff (k:Int):∀(us:List RT) (a:Nat) (acc:List Nat) (p q:Nat),okL us=true→Lf (Am_ us) a p→Lf (Am_ us) a q→(∀r∈acc,r<a) →
  ((p,q)∈arL k us a acc↔(foL us a p q=some true∨(k=4∧foL us a p q=none∧(irL us a p q=true∨(p∈acc∧afL us a q=true)))))
 | [],a,acc,p,q,_,_,_,_=>by simp[Ic_,Gn_,irL,afL]
 | u::us,a,acc,p,q,ok,hp,hq,hacc=>by
  obtain⟨ok1,ok2⟩:=AZ_ ok;rw[An_]at hp hq;have iT:=fo_iff u a p q ok1 hp.left hq.left;have ib:=SE_ u a q ok1 hq.left;have ie:=Sm_ u a p ok1 hp.left;have rT:=arT_in u a p q;have rf:=JY_ u a q;have rl:=Gf_ u a p;have racc:p∈acc→p<a:=hacc p;obtain⟨a',ha'⟩:∃a',a'=a+(flat u).length:=⟨_,rfl⟩;obtain⟨acc',hacc'⟩:∃acc',acc'=(if k=4 then laT u a++(if empT u=true then acc else [])else []):=⟨_,rfl⟩
  have hlt:∀r∈acc',r<a':=by
   intro r hr;rw[hacc']at hr
   split at hr
   ·rcases aI0.1 hr with hr | hr
    ·have:=Gf_ u a r hr;omega
    ·split at hr
     ·have:=hacc r hr;omega
     ·simp at hr
   ·simp at hr
  have iL:=foL_iff k us a' acc' p q ok2 (ha'▸hp.right) (ha'▸hq.right) hlt
  have macc:k=4→(p∈acc'↔p∈laT u a∨(empT u=true∧p∈acc)):=by
   intro h4;rw[hacc',if_pos h4,aI0];cases empT u<;>simp
  rw[Cq_,Fq_,irL,afL,←ha',←hacc',aI0,aI0,iL,iT]
  have mj:(p,q)∈(if k=4 then CB_ acc (fiT u a)else [])↔k=4∧p∈acc∧q∈fiT u a:=by
   by_cases h4:k=4<;>simp[h4,DX_]
  rw[mj];clear hp hq hacc hlt iL mj hacc'
  by_cases bp:inB u a p=true
  ·have bp':=CH_.1 bp;have hna:¬p∈acc:=fun h=>by have:=racc h;omega
   by_cases bq:inB u a q=true
   ·have bq':=CH_.1 bq;rw[bp,bq,PI_ us a' p q (by omega),Pv_ us a' p q (by omega),Qr_ us a' q (by omega)];simp[hna]
   ·have bq':¬(a≤q∧q<a+(flat u).length):=fun h=>bq (CH_.2 h)
    have hnT:¬foT u a p q=true:=fun h=>bq' (rT (iT.2 h)).2
    rw[dZ0]at bq;rw[bp,bq,PI_ us a' p q (by omega),Pv_ us a' p q (by omega)];simp only[hnT,hna,dQ0,aL0,if_false,if_true,false_and,and_false,false_or,or_false,reduceCtorEq,true_and,aN0]
    constructor
    ·rintro⟨h4,h1,h2⟩;rw[macc h4]at h1
     rcases h1 with h1 | h1
     ·exact⟨h4,ie.1 h1,h2⟩
     ·exact absurd h1.2 hna
    ·rintro⟨h4,h1,h2⟩;exact⟨h4,(macc h4).2 (.inl (ie.2 h1)),h2⟩
  ·have bp':¬(a≤p∧p<a+(flat u).length):=fun h=>bp (CH_.2 h)
   have hnT:¬foT u a p q=true:=fun h=>bp' (rT (iT.2 h)).1
   have hnl:¬p∈laT u a:=fun h=>bp' (rl h)
   rw[dZ0]at bp
   by_cases bq:inB u a q=true
   ·have bq':=CH_.1 bq;rw[bp,bq,PI_ us a' p q (by omega),Pv_ us a' p q (by omega),Qr_ us a' q (by omega)];simp only[hnT,cK0,aL0,if_false,if_true,false_and,and_false,false_or,or_false,reduceCtorEq,true_and];rw[ib]
   ·have bq':¬(a≤q∧q<a+(flat u).length):=fun h=>bq (CH_.2 h)
    have hnf:¬q∈fiT u a:=fun h=>bq' (rf h)
    rw[dZ0]at bq;rw[bp,bq];simp only[hnT,hnf,cK0,aL0,if_false,and_false,false_or]
    by_cases h4:k=4
    ·rw[macc h4];cases empT u<;>simp[hnl]
    ·simp[h4]
end
mutual
theorem VJ_ : ∀(t:RT) (a:Nat),(laT t a).Nodup
 | .mk x ks,a=>by
  rw[IK_]
  split
  ·simp
  ·exact RN_ x.k ks (a+1)
theorem RN_ (k:Int):∀(us:List RT) (a:Nat),(laL k us a).Nodup
 | [],a=>by rw[Gg_];simp
 | u::us,a=>by
  have h1:=VJ_ u a;have h2:=RN_ k us (a+(flat u).length);rw[BU_]
  split
  ·refine cA0.2 ⟨h2,?_,?_⟩
   ·split
    ·exact h1
    ·simp
   ·rintro x hx y hy rfl
    split at hy
    ·have:=JS_ k us _ x hx;have:=Gf_ u a x hy;omega
    ·simp at hy
  ·refine cA0.2 ⟨h1,h2,?_⟩;rintro x hx y hy rfl;have:=JS_ k us _ x hy;have:=Gf_ u a x hx;omega
end
-- what begins and ends are occurrences
mutual
theorem KK_ : ∀(t:RT) (a q:Nat),q∈fiT t a→∃x,(flat t)[q-a]? =some x∧(x.k=2∨x.k=3)
 | .mk x ks,a,q,h=>by
  rw[JX_]at h
  split at h
  ·rename_i hx;simp at h;subst h;exact⟨x,by rw[AB_,dT0];rfl,hx⟩
  ·have h1:=JZ_ x.k ks _ q h;obtain⟨y,hy,hk⟩:=IR_ x.k ks _ q h;refine⟨y,?_,hk⟩;rw[AB_,show q-a=(q-(a+1))+1 by omega,bJ0];exact hy
theorem IR_ (k:Int):∀(us:List RT) (a q:Nat),q∈fiL k us a→∃x,(Am_ us)[q-a]? =some x∧(x.k=2∨x.k=3)
 | [],a,q,h=>by simp[HU_]at h
 | u::us,a,q,h=>by
  rw[Cn_,aI0]at h;rw[An_]
  rcases h with h | h
  ·have h1:=JY_ u a q h;obtain⟨y,hy,hk⟩:=KK_ u a q h;exact⟨y,by rw[bB0 (by omega)];exact hy,hk⟩
  ·split at h
   ·simp at h
   ·have h1:=JZ_ k us _ q h;obtain⟨y,hy,hk⟩:=IR_ k us _ q h;exact⟨y,by rw[bC0 (by omega),fA0];exact hy,hk⟩
end
mutual
theorem KG_ : ∀(t:RT) (a q:Nat),q∈laT t a→∃x,(flat t)[q-a]? =some x∧(x.k=2∨x.k=3)
 | .mk x ks,a,q,h=>by
  rw[IK_]at h
  split at h
  ·rename_i hx;simp at h;subst h;exact⟨x,by rw[AB_,dT0];rfl,hx⟩
  ·have h1:=JS_ x.k ks _ q h;obtain⟨y,hy,hk⟩:=Ps_ x.k ks _ q h;refine⟨y,?_,hk⟩;rw[AB_,show q-a=(q-(a+1))+1 by omega,bJ0];exact hy
theorem Ps_ (k:Int):∀(us:List RT) (a q:Nat),q∈laL k us a→∃x,(Am_ us)[q-a]? =some x∧(x.k=2∨x.k=3)
 | [],a,q,h=>by simp[Gg_]at h
 | u::us,a,q,h=>by
  rw[BU_]at h;rw[An_]
  have key:q∈laT u a∨q∈laL k us (a+(flat u).length):=by
   split at h
   ·rcases aI0.1 h with h | h
    ·exact .inr h
    ·split at h
     ·exact .inl h
     ·simp at h
   ·exact aI0.1 h
  rcases key with h | h
  ·have h1:=Gf_ u a q h;obtain⟨y,hy,hk⟩:=KG_ u a q h;exact⟨y,by rw[bB0 (by omega)];exact hy,hk⟩
  ·have h1:=JS_ k us _ q h;obtain⟨y,hy,hk⟩:=Ps_ k us _ q h;exact⟨y,by rw[bC0 (by omega),fA0];exact hy,hk⟩
end
mutual
theorem KN_ : ∀(t:RT) (a p q:Nat),(p,q)∈arT t a→(∃x,(flat t)[p-a]? =some x∧(x.k=2∨x.k=3))∧(∃x,(flat t)[q-a]? =some x∧(x.k=2∨x.k=3))
 | .mk x ks,a,p,q,h=>by
  rw[Jd_]at h
  have lift:∀r,a+1≤r→(∃x,(Am_ ks)[r-(a+1)]? =some x∧(x.k=2∨x.k=3))→∃y,(flat (.mk x ks))[r-a]? =some y∧(y.k=2∨y.k=3):=by
   rintro r hr ⟨y,hy,hk⟩;refine⟨y,?_,hk⟩;rw[AB_,show r-a=(r-(a+1))+1 by omega,bJ0];exact hy
  split at h
  ·simp at h
  ·rcases aI0.1 h with h | h
   ·have h1:=Ww_ x.k ks _ [] p q h;obtain⟨h2,h3⟩:=Wv_ x.k ks _ [] p q h;simp only[dX0,or_false]at h1 h2;exact⟨lift p h1.1.1 h2,lift q h1.2.1 h3⟩
   ·split at h
    ·obtain⟨h1,h2⟩:=DX_.1 h;exact⟨lift p (JS_ x.k ks _ p h1).1 (Ps_ x.k ks _ p h1),lift q (JZ_ x.k ks _ q h2).1 (IR_ x.k ks _ q h2)⟩
    ·simp at h
theorem Wv_ (k:Int):∀(us:List RT) (a:Nat) (acc:List Nat) (p q:Nat),(p,q)∈arL k us a acc→((∃x,(Am_ us)[p-a]? =some x∧(x.k=2∨x.k=3))∨p∈acc)∧(∃x,(Am_ us)[q-a]? =some x∧(x.k=2∨x.k=3))
 | [],a,acc,p,q,h=>by simp[Ic_]at h
 | u::us,a,acc,p,q,h=>by
  rw[Cq_]at h;rw[An_]
  have l1:∀r,a≤r∧r<a+(flat u).length→(∃x,(flat u)[r-a]? =some x∧(x.k=2∨x.k=3))→∃y,(flat u++Am_ us)[r-a]? =some y∧(y.k=2∨y.k=3):=by
   rintro r hr ⟨y,hy,hk⟩;exact⟨y,by rw[bB0 (by omega)];exact hy,hk⟩
  have l2:∀r,a+(flat u).length≤r→(∃x,(Am_ us)[r-(a+(flat u).length)]? =some x∧(x.k=2∨x.k=3))→∃y,(flat u++Am_ us)[r-a]? =some y∧(y.k=2∨y.k=3):=by
   rintro r hr ⟨y,hy,hk⟩;exact⟨y,by rw[bC0 (by omega),fA0];exact hy,hk⟩
  simp only[aI0]at h
  rcases h with h | h | h
  ·have h1:=arT_in u a p q h;obtain⟨h2,h3⟩:=KN_ u a p q h;exact⟨.inl (l1 p h1.1 h2),l1 q h1.2 h3⟩
  ·split at h
   ·obtain⟨h1,h2⟩:=DX_.1 h;exact⟨.inr h1,l1 q (JY_ u a q h2) (KK_ u a q h2)⟩
   ·simp at h
  ·obtain⟨h1,h2⟩:=Ww_ k us _ _ p q h;obtain⟨h3,h4⟩:=Wv_ k us _ _ p q h;refine⟨?_,l2 q h2.1 h4⟩
   by_cases hacc:p∈acc
   ·exact .inr hacc
   left
   have h5:∀{c:List Nat},p∈(if k=4 then laT u a++(if empT u=true then acc else [])else [])→p∈laT u a:=by
    intro _ h
    split at h
    ·rcases aI0.1 h with h | h
     ·exact h
     ·split at h
      ·exact absurd h hacc
      ·simp at h
    ·simp at h
   by_cases hla:p∈laT u a
   ·exact l1 p (Gf_ u a p hla) (KG_ u a p hla)
   ·rcases h1 with h1 | h1
    ·rcases h3 with h3 | h3
     ·exact l2 p h1.1 h3
     ·exact absurd (h5 (c:=[]) h3) hla
    ·exact absurd (h5 (c:=[]) h1) hla
end
end Go.Proofs.YtchgnpnbcjflcaaGreat
end
section
namespace Go.Proofs.YtchgnpnbcjflcaaGreat
open Go Go.Dm
variable [DMode]
attribute [local irreducible] DW Bj_ Bp_
set_option maxRecDepth 100000
theorem AI_ : (⟨#[]⟩:ByteArray).size=0:=rfl
def XD_ : Ann:=⟨[],[]⟩
set_option maxHeartbeats 4000000 in
theorem mayN_pure (x:Nd):Ac_ Tryz.prog 261 [.agg (dNd x)] (.bool (mayN x)):=by
 refine Aa_ [] XD_ Tryz.func261 Tryz.call261 Tryz.ntmps261 mxd (aj2 @XD_.eq_1 Tryz.results261) rfl (by simp) (by simp[mx]) fun hwf B hnt hgAnn=> ?_
 simp only[argS];have e1:=DD_ 319 upI EQ_ x.s;have e2:=DD_ 320 loI Fi_ x.s;unfold mayN emp
 by_cases k1:x.k=1
 ·exact go0 aj0 aj0 (aj3 @dNd.eq_1 @AI_ k1)
 by_cases k2:x.k=2
 ·by_cases h0:x.n=0
  ·exact go0 (aj1 e1) aj0 (aj5 @dNd.eq_1 @AI_ k1 k2 h0)
  ·have h0':(x.n==0)=false:=by simpa using h0
   exact go0 aj0 aj0 (aj6 @dNd.eq_1 @AI_ k1 k2 h0 h0')
 by_cases k3:x.k=3
 ·by_cases h0:x.n=0
  ·exact go0 (aj1 e2) aj0 (aj6 @dNd.eq_1 @AI_ k1 k2 k3 h0)
  ·have h0':(x.n==0)=false:=by simpa using h0
   exact go0 aj0 aj0 (aj7 @dNd.eq_1 @AI_ k1 k2 k3 h0 h0')
 by_cases k4:x.k=4
 ·exact go0 aj0 aj0 (aj6 @dNd.eq_1 @AI_ k1 k2 k3 k4)
 by_cases k5:x.k=5
 ·exact go0 aj0 aj0 (aj7 @dNd.eq_1 @AI_ k1 k2 k3 k4 k5)
 by_cases k6:x.k=6
 ·exact go0 aj0 aj0 (aj8 @dNd.eq_1 @AI_ k1 k2 k3 k4 k5 k6)
 by_cases k7:x.k=7
 ·exact go0 aj0 aj0 (aj9 @dNd.eq_1 @AI_ k1 k2 k3 k4 k5 k6 k7)
 by_cases k8:x.k=8
 ·exact go0 aj0 aj0 (aj10 @dNd.eq_1 @AI_ k1 k2 k3 k4 k5 k6 k7 k8)
 exact go0 aj0 aj0 (aj10 @dNd.eq_1 @AI_ k1 k2 k3 k4 k5 k6 k7 k8)
def Dv_ (r:List Nd) (w:Nat):Bool:=match endN r w with
 | some []=>true
 | _=>false
theorem Qy_ (x:Nd) (r:List Nd):Dv_ (x::r) 0=false:=by unfold Dv_;rw[BL_]
theorem JF_ {r:List Nd} {w:Nat} (h:endN r w=none):Dv_ r w=false:=by unfold Dv_;rw[h]
theorem Qz_ {x:Nd} {r:List Nd} {w:Nat} (h:mayN x=true):Dv_ (x::r) (w+1)=Dv_ r (w+x.n.toNat):=by unfold Dv_;rw[CJ_,if_pos h]
theorem SW_ (w:Nat):Dv_ [] w=decide (w=0):=by
 unfold Dv_
 cases w with
 | zero=>rw[BL_];rfl
 | succ w=>rw[GP_];rfl
def XE_ : Ann:=⟨[],[⟨4,[5],[],[]⟩]⟩
set_option maxHeartbeats 4000000 in
theorem Ed_ (l:List Nd) (hs:l.length≤1572864):Ac_ Tryz.prog 181 [dNds l] (.bool (CO_ l)):=by
 refine Aa_ [] XE_ Tryz.func181 Tryz.call181 Tryz.ntmps181 mxd (aj2 @XE_.eq_1 Tryz.results181) rfl (by simp) (by simp[mx]) fun hwf B hnt hgAnn=> ?_
 clear hwf;simp only[argS];obtain⟨R,hR⟩:∃R,R=CO_ l:=⟨_,rfl⟩;rw[←hR];have hR2:Dv_ l 1=R:=by rw[hR];rfl
 clear hR
 (refine go1 aj0 aj0 aj0 ?_;intros;refine mk_i ?_)
 refine Ae_ (X:={p:Nat×Nat//p.1≤l.length∧Dv_ (l.drop p.1) p.2=R∧p.2≤1+p.1*1572864∧(p.1=0→p.2=1)}) (fun p=>⟨[(0,dNds l),(3,.int .i64 p.1.2),(6,dNds l),(7,.int .i64 l.length),(8,.int .i64 p.1.1)],[]⟩) (fun p=>l.length-p.1.1) ⟨(0,1),by simp[hR2]⟩ (Sub.lit (by simp)) ?_;clear hR2;rintro⟨⟨k,w⟩,hk,hw,hwb,hw0⟩;simp only at hk hw hwb hw0 ⊢
 by_cases hlt:k<l.length
 ·obtain⟨x,hx,hx',_⟩:=Ak_ hlt;rw[aR0 hlt,hx']at hw;have e1:=mayN_pure x;simp only[dNd]at e1
  cases w with
  | zero =>
   rw[Qy_]at hw;subst hw;exact go0 aj0 aj0 (aj4 @dNd.eq_1 hlt hx hx')
  | succ v =>
   have hv:¬(v:Int)+1=0:=by omega
   have hv':(((v:Int)+1)==0)=false:=by simpa using hv
   cases hm:mayN x
   ·rw[hm]at e1;rw[JF_ (by rw[CJ_,hm];rfl)]at hw;subst hw;exact go0 (aj1 e1) aj0 (aj6 @dNd.eq_1 hlt hx hx' hv hv')
   ·rw[hm]at e1;have hk0:=Gc_ hm;obtain⟨c,hcn⟩:∃c:Nat,x.n=(c:Int):=⟨x.n.toNat,by omega⟩;rw[hcn]at e1;rw[Qz_ hm,hcn,cX0]at hw
    by_cases hbig:l.length<c
    ·have hbig':(l.length:Int)<(c:Int):=by omega
     rw[JF_ (PS_ _ _ (by rw[bS0];omega))]at hw;subst hw;exact go0 (aj1 e1) aj0 (aj9 @dNd.eq_1 hlt hx hx' hv hv' hcn hbig hbig')
    ·have hbig':¬(l.length:Int)<(c:Int):=by omega
     have q1:IntKind.i64.wrap ((c:Int)-1)=(c:Int)-1:=wq;have q2:IntKind.i64.wrap ((v:Int)+1+((c:Int)-1))=(v:Int)+(c:Int):=by rw[wq];omega
     (refine go1 (aj1 e1) aj0 (aj11 @dNd.eq_1 hlt hx hx' hv hv' hcn hbig hbig' q1 q2) ?_;intros;refine mk_i ?_)
     refine Aj_.mk ⟨(k+1,v+c),show k+1≤l.length∧Dv_ (l.drop (k+1)) (v+c)=R∧v+c≤1+(k+1)*1572864∧(k+1=0→v+c=1) from ⟨by omega,hw,by omega,by omega⟩⟩ (Sub.lit (by simp)) (by simp;omega)
     skip
 ·have hkk:k=l.length:=by omega
  subst hkk;rw[bQ0,SW_]at hw
  cases w with
  | zero =>
   have hpos:0<l.length:=by
    rcases eV0 l.length with h | h
    ·have:=hw0 h;omega
    ·exact h
   simp only[decide_true]at hw;subst hw;exact go0 aj0 aj0 (aj1 hpos)
  | succ v =>
   have hw2:R=false:=by rw[←hw];simp
   subst hw2;have hv:¬(v:Int)+1=0:=by omega
   have hv':(((v:Int)+1)==0)=false:=by simpa using hv
   exact go0 aj0 aj0 (aj2 hv hv')
end Go.Proofs.YtchgnpnbcjflcaaGreat
end
section
namespace Go.Dm
variable [DMode]
theorem obj_nd {cur:Cur} {M:List Nat} {h:Array Obj} {l:Loc} {obj:DObj} (hk:MO_ cur M h l obj):∀b∈l.blks,∀c,h[b]? ≠some (.deferred c):=by
 intro b hb c hc
 cases obj with
 | box cs =>
  obtain⟨b',arr,ty,h1,h2,_⟩:=hk;rw[h1]at hb;simp only[aE0]at hb;subst hb;rw[h2]at hc;simp at hc
 | row et k bs es =>
  obtain⟨_,⟨_,h1,_⟩ | ⟨b',arr,cap,h1,h2,h3,_⟩⟩:=hk
  ·rw[h1]at hb;cases hb
  ·rw[h1]at hb;simp only[aE0]at hb;subst hb;rw[h3]at hc;simp at hc
 | map ks vs =>
  obtain⟨b',es,clk,h1,h2,_⟩:=hk;rw[h1]at hb;simp only[aE0]at hb;subst hb;rw[h2]at hc;simp at hc
 | abs A=>exact A.nd _ _ _ _ hk b hb c hc
def AbsL (sl:List (Nat×DVal)) (hsl:mxS sl≤1) (own:List Ent) (tm:Array Value) (own0:List Ent) (loc0:Nat→Loc) (l:Nat) (L:Loop):Abs where
 J:=fun M bl hd h=>hd= .func (.yield l) #[] #[]∧∃loc,bl=Ab_ own loc++[l]∧(own.map (·.id)).Nodup∧(∀e∈own,MO_ (Ai_ own loc) M h (loc e.id) e.obj) ∧
  (∀p∈sl,rd (Ai_ own loc) M h p.2 (tm.getD p.1 Go.undef))∧h[l]? =some (.loop L)∧(∀e∈own,e.r<1→Ai_ own0 loc0 e.id e.r=some (loc e.id))
 weak:=by
  rintro M M' bl hd h h' hb hm hk ⟨h1,loc,h2,h3,h4,h5,h6,h7⟩;have W:∀n,Weak (Ai_ own loc) (Ai_ own loc) M M' h h' n:=fun n=>⟨fun _ _ _ _ h=>h,hb,hm⟩
  refine⟨h1,loc,h2,h3,fun e he=>AN_ (W _) (Nat.le_refl _) (fun b o hb' ho=>hk b o ?_ ho) (h4 e he),fun p hp=>BR_ (W _) _ _ (Nat.le_refl _) (h5 p hp),hk l _ ?_ h6,h7⟩
  ·rw[h2];exact aM0 _ (AO_ he hb')
  ·rw[h2];simp
 one:=by rintro _ _ _ _ ⟨rfl,_⟩;exact⟨rfl,rfl⟩
 nd:=by
  rintro M bl hd h ⟨_,loc,rfl,_,h4,_,h6,_⟩ b hb c hc
  rcases aI0.1 hb with hb | hb
  ·obtain⟨e,he,hb⟩:=bR0.1 hb;exact obj_nd (h4 e he) b hb c hc
  ·simp only[aE0]at hb;subst hb;rw[h6]at hc;simp at hc
def putM : List Nat→List DVal→List (Nat×DVal)→List (Nat×DVal)
 | p::ps,d::ds,l=>putM ps ds ((p,d)::l)
 | _,_,l=>l
theorem Lp_ : ∀(z:List (Nat×Value)) (t:Array Value),(z.foldl (fun t p=>t.setIfInBounds p.1 p.2) t).size=t.size
 | [],t=>rfl
 | p::z,t=>by rw[cO0,Lp_ z];simp
theorem putM_rd {cur:Cur} {M:List Nat} {h:Array Obj}:∀(ps:List Nat) (ds:List DVal) (vs:List Value) (l:List (Nat×DVal)) (t:Array Value),ds.length=ps.length→(∀p∈ps,p<t.size)→rdV cur M h ds vs →
  (∀i,rd cur M h (getS l i) (t.getD i Go.undef))→∀i,rd cur M h (getS (putM ps ds l) i) (((ps.zip vs).foldl (fun t p=>t.setIfInBounds p.1 p.2) t).getD i Go.undef)
 | [],ds,vs,l,t,hl,hp,hr,hs=>by
  cases ds with
  | nil=>simpa[putM]using hs
  | cons d ds=>simp at hl
 | p::ps,[],vs,l,t,hl,hp,hr,hs=>by simp at hl
 | p::ps,d::ds,vs,l,t,hl,hp,hr,hs=>by
  simp only[rdV]at hr;obtain⟨v,r,rfl,h1,h2⟩:=hr;simp only[putM,List.zip_cons_cons,cO0];refine putM_rd ps ds r _ _ (by simpa using hl) (fun q hq=>by simpa using hp q (aD0 _ hq)) h2 ?_;intro i;have hlt:=hp p aF0;simp only[getS,aT0,cU0]
  by_cases hi:i=p
  ·subst hi;simpa[hlt]using h1
  ·rw[if_neg hi,if_neg (fun h=>hi h.symm)];have:=hs i;simpa[aT0]using this
theorem VT_ : ∀(l:List (Nat×DVal)) (i:Nat),getS l i= .any∨(i,getS l i)∈l
 | [],i=> .inl rfl
 | (j,d)::l,i=>by
  simp only[getS]
  split
  ·rename_i h;subst h;exact .inr (by simp)
  ·exact(VT_ l i).imp id (fun h=>aD0 _ h)
def RQ (B:Base) (okk:Bool) (S:List Ent) (j:Code):Exit→DS→Prop
 | .normal,s=>okk=true∧Sub B ⟨[],s.own⟩ ⟨[],S⟩
 | .ret,s=>okk=false∧j= .ret∧Sub B ⟨[],s.own⟩ ⟨[],S⟩
 | .exit id,s=>okk=false∧j= .exit id∧Sub B ⟨[],s.own⟩ ⟨[],S⟩
 | .goto t,s=>okk=false∧j= .goto t∧Sub B ⟨[],s.own⟩ ⟨[],S⟩
 | _,_=>False
def RB (P:Program) (nt:Nat) (body:Code) (okk:Bool) (S:List Ent) (j:Code) (s:DS):Prop:=∀B:Base,B.nt=nt→DW P B body (RQ B okk S j) s
theorem RB_mk {P:Program} {nt:Nat} {body:Code} {okk:Bool} {S:List Ent} {j:Code} {s:DS} (h:∀B:Base,B.nt=nt→DW P B body (RQ B okk S j) s):RB P nt body okk S j s:=h
def RA (P:Program) (nt:Nat) (body:Code) (okk:Bool) (S:List Ent) (j:Code):Exit→DS→Prop
 | .normal,s=>RB P nt body okk S j s
 | _,_=>False
theorem ZK_ {own own':List Ent} {loc loc':Nat→Loc} {M M':List Nat} {h h':Array Obj} {n:Nat} (hc:∀e∈own',e.r<n→Ai_ own loc e.id e.r=some (loc' e.id)) (hb:∀(b:Nat) (o:Obj),b∉M→isD o=true→h[b]? =some o→h'[b]? =some o)
  (hm:∀b∈M',b∈M∨h.size≤b):Weak (Ai_ own loc) (Ai_ own' loc') M M' h h' n where
 c:=by
  intro id r l hr hl;obtain⟨e,he,rfl,rfl,rfl⟩:=Bm_ hl;exact hc e he hr
 b:=hb
 m:=by
  intro b o hb' _ ho hm'
  rcases hm b hm' with h1 | h1
  ·exact hb' h1
  ·have:=(aG0.1 ho).1;omega
theorem DV_ (w:World) (l:Nat) (o:Obj):(w.putObj l o).heap.size=w.heap.size:=by simp[World.putObj]
theorem YAt_of {P:Program} {sl:List (Nat×DVal)} {hsl:mxS sl≤1} {own S:List Ent} {tm:Array Value} {own0:List Ent} {loc0:Nat→Loc} {l nt:Nat} {L:Loop} {x:List DVal} {okk:Bool} {j:Code}
  (hL:L.state= .ready) (hLp:L.pending=none) (hLt:L.tmps=tm) (hnt:tm.size=nt) (hx:x.length=L.params.size) (hps:∀p∈L.params.toList,p<nt) (hx0:mxL x=0)
  (h:∀B:Base,B.nt=nt→DW P B L.assign (RA P nt L.body okk S j) ⟨putM L.params.toList x sl,own⟩) :
  YAt P l (AbsL sl hsl own tm own0 loc0 l L) x okk (AbsL sl hsl S tm own0 loc0 l { L with state:=if okk then .ready else .done,pending:=if okk then none else some j }):=by
 rintro M bl hd w vs hnd hblM hMlt ⟨rfl,loc,rfl,hidn,hobj,hslot,hrec,hver0⟩ hvs;have hlM:l∈M:=hblM l (by simp)
 have hlhot:l∉Ab_ own loc:=by
  intro hm;rw[cA0]at hnd;exact hnd.2.2 l hm l (by simp) rfl
 have hhotM:∀b∈Ab_ own loc,b∈M:=fun b hb=>hblM b (aM0 _ hb)
 have hlen:=Au_ _ _ hvs;simp only[bP0]at hlen;have hy:=run_yield (P:=P) (args:=vs) hrec (by omega)
 -- the base of the assignment
 let M0:List Nat:=M.filter (fun b=> !(Ab_ own loc).contains b)
 have hM0:∀b,b∈M0↔b∈M∧b∉Ab_ own loc:=by
  intro b;simp only[M0,cN0,List.contains_eq_mem,eO0,decide_eq_false_iff_not]
 have hMM:∀b,b∈Ab_ own loc++M0↔b∈M:=by
  intro b;rw[aI0,hM0]
  constructor
  ·rintro (h | h)
   ·exact hhotM b h
   ·exact h.1
  ·intro h
   by_cases hb:b∈Ab_ own loc
   ·exact .inl hb
   ·exact .inr ⟨h,hb⟩
 have W0:∀n,Weak (Ai_ own loc) (Ai_ own loc) M (Ab_ own loc++M0) w.heap w.heap n:=fun n =>
  ⟨fun _ _ _ _ h=>h,fun b o _ (_:isD o=true) ho=>ho,fun b o hb (_:isD o=true) _ hm=>hb ((hMM b).1 hm)⟩
 let B1:Base:=⟨own,loc,M0,1,w,nt,some l,by decide,w.heap.size,Nat.le_refl _⟩
 let a1:Act:={ tmps:=(L.params.zip vs).foldl (fun tmps (t,a)=>tmps.setIfInBounds t a) L.tmps,defers:=[] }
 have hfold:a1.tmps=(L.params.toList.zip vs.toList).foldl (fun t p=>t.setIfInBounds p.1 p.2) tm:=by
  show (L.params.zip vs).foldl _ _=_
  rw[←Array.foldl_toList,Array.toList_zip,hLt]
 have R1:Rel B1 ⟨putM L.params.toList x sl,own⟩ a1 w loc:=by
  refine⟨⟨hidn,?_,fun b hb hm=>((hM0 b).1 hm).2 hb,fun b hb=>hMlt b ((hMM b).1 hb),fun e he=>AN_ (W0 _) (Nat.le_refl _) (fun _ _ _ h=>h) (hobj e he)⟩,Upd.refl _ _,fun b hb=> .inl hb,fun e he _=>AA_ hidn he,?_,?_,⟨[],rfl,List.nodup_nil,by simp⟩⟩
  ·rw[cA0]at hnd;exact hnd.1
  ·intro i;rw[hfold];refine putM_rd _ _ _ _ _ (by simpa using hx) (fun p hp=>by rw[hnt];exact hps p hp) ?_ ?_ i
   ·exact AG_ (n:=0) ⟨fun _ _ _ h=>by omega,fun b o _ (_:isD o=true) ho=>ho,fun b o hb (_:isD o=true) _ hm=>hb ((hMM b).1 hm)⟩ _ _ (dJ0 hx0) hvs
   ·intro q
    rcases VT_ sl q with h1 | h1
    ·rw[h1];simp[rd]
    ·exact BR_ (W0 _) _ _ (Nat.le_refl _) (hslot _ h1)
  ·rw[hfold,Lp_];exact hnt
 refine⟨L.fn,_,L.assign,L.body,hy,roundIn_of_wpIn (F:=wd none) trivial ?_⟩;refine wpIn_mono (h B1 rfl a1 w loc R1) ?_;rintro e a' w' ⟨s',loc',hq,R'⟩
 cases e<;>simp only[RA]at hq<;>first
  | exact hq.elim
  | skip
 -- the record lies as it lay
 have hl0:w'.heap[l]? =some (.loop L):=by
  rw[R'.upd.blk l (aG0.1 hrec).1 hlhot];exact hrec
 have hllt:l<w'.heap.size:=(aG0.1 hl0).1;refine⟨w'.putObj l (.loop { L with state:= .busy }),run_beginRound hl0 hL,?_⟩;obtain⟨w2,hw2⟩:∃w2,w2=w'.putObj l (.loop { L with state:= .busy }):=⟨_,rfl⟩;rw[←hw2];have hsz2:w2.heap.size=w'.heap.size:=by rw[hw2];exact DV_ _ _ _
 have hoth:∀b,b≠l→w2.heap[b]? =w'.heap[b]? :=fun b hb=>by rw[hw2];exact World.putObj_heap_other hb
 have hlb:w2.heap[l]? =some (.loop { L with state:= .busy }):=by rw[hw2];exact World.putObj_heap_same hllt
 have hlM0:l∈M0:=(hM0 l).2 ⟨hlM,hlhot⟩;have hlhot':l∉Ab_ s'.own loc':=fun hm=>R'.st.ap l hm hlM0
 have hd2:∀(b:Nat) (o:Obj),isD o=true→w'.heap[b]? =some o→w2.heap[b]? =some o:=by
  intro b o ho hb;rw[hoth b (fun he=>by subst he;rw[hl0]at hb;simp only[aA0]at hb;subst hb;simp[isD]at ho)];exact hb
 have St2:St s'.own loc' M0 w2.heap:=R'.st.same (dJ0 hsz2.symm) hd2 (fun b o hm hb=>by rw[hoth b (fun he=>hlhot' (he▸hm))];exact hb)
 have W2:∀n,Weak (Ai_ s'.own loc') (Ai_ s'.own loc') (Ab_ s'.own loc'++M0) (Ab_ s'.own loc'++M0) w'.heap w2.heap n:=fun n =>
  ⟨fun _ _ _ _ h=>h,fun b o _ (h1:isD o=true) h2=>hd2 b o h1 h2,fun b o hb (_:isD o=true) _=>hb⟩
 let B2:Base:=⟨s'.own,loc',M0,1,w2,nt,some l,by decide,w2.heap.size,Nat.le_refl _⟩
 obtain⟨rs,hrs,_,_,hrs2⟩:=R'.df;have hz:rs=[]:=hrs2 (by simp[B1])
 let B2:Base:=⟨s'.own,loc',M0,1,w2,nt,some l,by decide,w2.heap.size,Nat.le_refl _⟩
 have R2:Rel B2 s' a' w2 loc' :=
  ⟨St2,Upd.refl _ _,fun b hb=> .inl hb,fun e he _=>AA_ St2.nd he,fun i=>BR_ (W2 _) _ _ (Nat.le_refl _) (R'.sl i),R'.nt,⟨[],by rw[hz]at hrs;simpa using hrs,List.nodup_nil,by simp⟩⟩
 refine wpIn_mono (hq B2 rfl a' w2 loc' R2) ?_;rintro e a2 w3 ⟨s3,loc3,hq3,R3⟩
 have hl3:w3.heap[l]? =some (.loop { L with state:= .busy }):=by
  rw[R3.upd.blk l (aG0.1 hlb).1 hlhot'];exact hlb
 have fin:∀(jump:Option Code),Sub B2 ⟨[],s3.own⟩ ⟨[],S⟩→jump.isNone=okk→jump=(if okk then none else some j)→∃v w4,(Instr.endRound l jump).run P w3= .ok v w4∧∃v0,Ending.returned v= .returned v0∧v0= .bool okk∧∃bl',Upd (Ab_ own loc++[l]) w w4∧bl'.Nodup∧(∀q∈bl',q<w4.heap.size∧(q∈Ab_ own loc++[l]∨w.heap.size≤q)) ∧
   ∀M',(∀q∈M',q∈bl'∨(q∈M∧q∉Ab_ own loc++[l]))→(AbsL sl hsl S tm own0 loc0 l { L with state:=if okk then .ready else .done,pending:=if okk then none else some j }).J M' bl' (.func (.yield l) #[] #[]) w4.heap:=by
  intro jump hsub hj1 hj2;have hrun:=run_endRound (P:=P) jump hl3
  have hrec':({ ({ L with state:= .busy }:Loop)with state:=if jump.isNone then .ready else .done,pending:=jump }:Loop)={ L with state:=if okk then .ready else .done,pending:=if okk then none else some j }:=by
   rw[hj1,hj2]
  rw[hrec',hj1]at hrun;obtain⟨w4,hw4⟩:∃w4,w4=w3.putObj l (.loop { L with state:=if okk then .ready else .done,pending:=if okk then none else some j }):=⟨_,rfl⟩;rw[←hw4]at hrun;have hl3lt:=(aG0.1 hl3).1;have hsz4:w4.heap.size=w3.heap.size:=by rw[hw4];exact DV_ _ _ _
  have hoth4:∀b,b≠l→w4.heap[b]? =w3.heap[b]? :=fun b hb=>by rw[hw4];exact World.putObj_heap_other hb
  have hl4:w4.heap[l]? =some (.loop { L with state:=if okk then .ready else .done,pending:=if okk then none else some j }):=by rw[hw4];exact World.putObj_heap_same hl3lt
  have R3':Rel B2 ⟨[],s3.own⟩ a2 w3 loc3:=⟨R3.st,R3.upd,R3.new,R3.ver,fun i=>by simp[getS,rd],R3.nt,R3.df⟩;obtain⟨loc4,R4⟩:=hsub a2 w3 loc3 R3';have hl4hot:l∉Ab_ S loc4:=fun hm=>R4.st.ap l hm hlM0
  have uput:∀(v:World) (o:Obj),Upd [l] v (v.putObj l o):=fun v o=>⟨rfl,rfl,rfl,fun _=>Nat.le_refl _,by rw[DV_];exact Nat.le_refl _,fun b _ hb=>World.putObj_heap_other (fun h=>hb (by simp[h]))⟩
  have U1:Upd (Ab_ own loc++[l]) w w':=(Upd.refl _ w).trans R'.upd (fun x hx=> .inl (aM0 _ hx));have U2:Upd (Ab_ own loc++[l]) w w2:=by rw[hw2];exact U1.trans (uput _ _) (fun x hx=> .inl (aP0 _ hx))
  have U3:Upd (Ab_ own loc++[l]) w w3:=U2.trans R4.upd (fun x hx=>(R'.new x hx).imp (fun h=>aM0 _ h) id);have U4:Upd (Ab_ own loc++[l]) w w4:=by rw[hw4];exact U3.trans (uput _ _) (fun x hx=> .inl (aP0 _ hx))
  have hbl:∀q∈Ab_ S loc4,q<w4.heap.size∧(q∈Ab_ own loc++[l]∨w.heap.size≤q):=by
   intro q hq;refine⟨by rw[hsz4];exact R4.st.lt q (aM0 _ hq),?_⟩
   rcases R4.new q hq with h | h
   ·exact(R'.new q h).imp (fun h=>aM0 _ h) id
   ·exact .inr (Nat.le_trans U2.size h)
  refine⟨_,w4,hrun,_,rfl,rfl,Ab_ S loc4++[l],U4,?_,?_,?_⟩
  ·rw[cA0];exact⟨R4.st.bl,by simp,fun b hb b' hb' hbb=>hl4hot (by simp only[aE0]at hb';rw[←hb',←hbb];exact hb)⟩
  ·intro q hq
   rcases aI0.1 hq with hq | hq
   ·exact hbl q hq
   ·simp only[aE0]at hq;subst hq;exact⟨by rw[hsz4];exact hl3lt,.inl (by simp)⟩
  ·intro M' hM'
   have hchain:∀e∈S,e.r<1→Ai_ own loc e.id e.r=some (loc4 e.id):=by
    intro e he hlt;obtain⟨e1,h1,h2,h3,h4⟩:=Bm_ (R4.ver e he hlt);have h5:=R'.ver e1 h1 (by show e1.r<1;omega);rw[h2,h3]at h5;rw[h4];exact h5
   have hinM:∀b∈M',b∈Ab_ S loc4++M0:=by
    intro b hb
    rcases hM' b hb with h | ⟨h1,h2⟩
    ·rcases aI0.1 h with h | h
     ·exact aM0 _ h
     ·simp only[aE0]at h;subst h;exact aP0 _ hlM0
    ·exact aP0 _ ((hM0 b).2 ⟨h1,fun h=>h2 (aM0 _ h)⟩)
   have hd4:∀(b:Nat) (o:Obj),isD o=true→w3.heap[b]? =some o→w4.heap[b]? =some o:=by
    intro b o ho hb;rw[hoth4 b (fun he=>by subst he;rw[hl3]at hb;simp only[aA0]at hb;subst hb;simp[isD]at ho)];exact hb
   have W4:∀n,Weak (Ai_ S loc4) (Ai_ S loc4) (Ab_ S loc4++M0) M' w3.heap w4.heap n:=fun n =>
    ⟨fun _ _ _ _ h=>h,fun b o _ (h1:isD o=true) h2=>hd4 b o h1 h2,fun b o hb (_:isD o=true) _ hm=>hb (hinM b hm)⟩
   have W5:Weak (Ai_ own loc) (Ai_ S loc4) M M' w.heap w4.heap 1:=by
    refine ZK_ hchain (fun b o hb _ ho=> ?_) (fun b hb=> ?_)
    ·rw[U4.blk b (aG0.1 ho).1 (fun h=>hb (hblM b h))];exact ho
    ·rcases hM' b hb with h | ⟨h1,_⟩
     ·rcases aI0.1 h with h | h
      ·exact(hbl b h).2.imp (hblM b) id
      ·simp only[aE0]at h;subst h;exact .inl hlM
     ·exact .inl h1
   refine⟨rfl,loc4,rfl,R4.st.nd,fun e he=> ?_,fun p hp=> ?_,hl4,fun e he hlt=> ?_⟩
   ·exact AN_ (W4 _) (Nat.le_refl _) (fun b o hb ho=>by rw[hoth4 b (fun h=>hl4hot (h▸AO_ he hb))];exact ho) (R4.st.ok e he)
   ·refine BR_ W5 _ _ (Nat.le_trans ?_ hsl) (hslot p hp)
    have:∀(l:List (Nat×DVal)),p∈l→mx p.2≤mxS l:=by
     intro l
     induction l with
     | nil=>intro h;cases h
     | cons q l ih =>
      intro h;simp only[mxS]
      rcases aK0.1 h with rfl | h
      ·omega
      ·have:=ih h;omega
    exact this sl hp
   ·obtain⟨e1,h1,h2,h3,h4⟩:=Bm_ (hchain e he hlt);have h5:=hver0 e1 h1 (by omega);rw[h2,h3]at h5;rw[h4];exact h5
 cases e<;>simp only[RQ]at hq3<;>simp only[roundPost]
 ·obtain⟨rfl,hs⟩:=hq3;exact fin none hs rfl rfl
 ·obtain⟨rfl,rfl,hs⟩:=hq3;exact fin _ hs rfl rfl
 ·obtain⟨rfl,rfl,hs⟩:=hq3;exact fin _ hs rfl rfl
 ·obtain⟨rfl,rfl,hs⟩:=hq3;exact fin _ hs rfl rfl
def Cv_ (ok:Nat→Bool):Nat→Option Nat
 | 0=>none
 | n+1=>match Cv_ ok n with
  | some k=>some k
  | none=>if ok n then none else some n
def ISpec (P:Program) (f:FuncId) (us cs:List DVal) (xs:List (List DVal)) (ok:Nat→Bool):Prop :=
 ∀(l:Nat) (A Z:Nat→Abs),(∀k x,xs[k]? =some x→(∀j,j<k→ok j=true)→YAt P l (A k) x (ok k) (if ok k then A (k+1)else Z k)) →
  AM_ P (.func f) (us++ .pk 0 0::cs) [⟨0,0,.abs (yH l)⟩,⟨1,0,.abs (A 0)⟩] (.tup []) [⟨0,0,.abs (yH l)⟩,⟨1,1,.abs (match Cv_ ok xs.length with | none=>A xs.length | some k=>Z k)⟩]
def loopC (P:Program) (c:Code) (idx:List Nat) (nt:Nat) (e0:Exit):Tran:=fun vs w R=>∀a:Act,idx.map (fun i=>a.tmps.getD i Go.undef)=vs.toList→a.tmps.size=nt →
 c.wpIn (wd none) 0 P (fun e a' w'=>e=e0∧(∃D,a'={ a with defers:={ target:= .collected D,args:= #[] }::a.defers }∧w.heap.size≤D∧w'.heap[D]? =some (.deferred (some [])))∧R (.tuple #[]) w') a w
theorem rdV_idx {cur:Cur} {M:List Nat} {h:Array Obj} {f:Nat→Value}:∀{sl:List (Nat×DVal)},rdV cur M h (sl.map (·.2)) (sl.map fun p=>f p.1)→∀p∈sl,rd cur M h p.2 (f p.1)
 | [],_,p,hp=>by cases hp
 | q::sl,hr,p,hp=>by
  simp only[List.map_cons,rdV]at hr;obtain⟨v,r,he,h1,h2⟩:=hr;simp only[bH0]at he;obtain⟨rfl,rfl⟩:=he
  rcases aK0.1 hp with rfl | hp
  ·exact h1
  ·exact rdV_idx h2 p hp
theorem loop_spec {P:Program} {gt nt:Nat} {ps:Array Tmp} {assign body:Code} {f:FuncId} {us cs:List DVal} {xs:List (List DVal)} {ok:Nat→Bool} {sl:List (Nat×DVal)} {S Z:Nat→List Ent} {jc:Nat→Code} {T:List Ent} {e0:Exit}
  (hsl:mxS sl≤1) (hI:ISpec P f us cs xs ok) (hmx:mxL us=0∧mxL cs=0) (hgt:(gt,.fn (.func f) us cs)∈sl) (hps:∀x∈xs,x.length=ps.size∧mxL x=0) (hpn:∀p∈ps.toList,p<nt)
  (round:∀k x,xs[k]? =some x→(∀j,j<k→ok j=true)→∀B:Base,B.nt=nt→DW P B assign (RA P nt body (ok k) (if ok k then S (k+1)else Z k) (jc k)) ⟨putM ps.toList x sl,S k⟩)
  (hT:match Cv_ ok xs.length with | none=>e0= .normal∧T=S xs.length | some k=>(jc k= .ret∧e0= .ret∨(∃id,jc k= .exit id∧e0= .exit id)∨(∃t,jc k= .goto t∧e0= .goto t))∧T=Z k) :
  DSpecG (loopC P (.rangeFunc (.tmp gt) ps assign body) (sl.map (·.1)) nt e0) (sl.map (·.2)) (S 0) (.tup []) T:=by
 intro M w loc vs St0 hr a hvs hnt
 have hslot:∀p∈sl,rd (Ai_ (S 0) loc) (Ab_ (S 0) loc++M) w.heap p.2 (a.tmps.getD p.1 Go.undef):=by
  refine rdV_idx (f:=fun i=>a.tmps.getD i Go.undef) ?_;rw[←hvs,cB0]at hr;exact hr
 have hg:=hslot _ hgt;simp only[rd]at hg;obtain⟨us',cs',hv,hus,hcs⟩:=hg;refine wpIn_rangeFunc ?_;intro fn hfn;obtain⟨rec,hrec⟩:∃rec:Loop,rec={ state:= .ready,pending:=none,fn,tmps:=a.tmps,params:=ps,assign,body,defers:=w.heap.size }:=⟨_,rfl⟩;obtain⟨W1,hW1⟩:∃W1,W1=(w.alloc (.deferred (some []))).alloc (.loop rec):=⟨_,rfl⟩;obtain⟨l,hl⟩:∃l,l=w.heap.size+1:=⟨_,rfl⟩;have hsz1:W1.heap.size=w.heap.size+2:=by rw[hW1];simp
 have hold1:∀b,b<w.heap.size→W1.heap[b]? =w.heap[b]? :=by
  intro b hb;rw[hW1];simp only[World.alloc,bV0,Array.size_push];rw[if_neg (by omega),if_neg (by omega)]
 have hD1:W1.heap[w.heap.size]? =some (.deferred (some [])):=by
  rw[hW1];simp only[World.alloc,bV0,Array.size_push];rw[if_neg (by omega)];simp
 have hl1:W1.heap[l]? =some (.loop rec):=by
  rw[hW1,hl];simp only[World.alloc,bV0,Array.size_push];simp
 have hen:=run_enterLoop_outer (P:=P) (w:=w) fn a.tmps ps assign body;rw[←hrec,←hW1,←hl]at hen
 let A:Nat→Abs:=fun k=>AbsL sl hsl (S k) a.tmps (S 0) loc l rec
 let Zs:Nat→Abs:=fun k=>AbsL sl hsl (Z k) a.tmps (S 0) loc l { rec with state:= .done,pending:=some (jc k) }
 have hy:∀k x,xs[k]? =some x→(∀j,j<k→ok j=true)→YAt P l (A k) x (ok k) (if ok k then A (k+1)else Zs k):=by
  intro k x hx hj;have hxm:=hps x (bL0 hx);have hY:=YAt_of (hsl:=hsl) (own:=S k) (S:=if ok k then S (k+1)else Z k) (own0:=S 0) (loc0:=loc) (l:=l) (L:=rec) (tm:=a.tmps) (nt:=nt) (x:=x) (okk:=ok k) (j:=jc k) (by rw[hrec]) (by rw[hrec]) (by rw[hrec]) hnt (by rw[hrec];exact hxm.1) (by rw[hrec];exact hpn) hxm.2 (by rw[hrec];exact round k x hx hj)
  cases hk:ok k with
  | true =>
   rw[hk]at hY;have e1:({ rec with state:=if true=true then .ready else .done,pending:=if true=true then none else some (jc k) }:Loop)=rec:=by rw[hrec];rfl
   rw[e1]at hY;exact hY
  | false =>
   rw[hk]at hY;exact hY
 have hD:=hI l A Zs hy;have hhotlt:∀b∈Ab_ (S 0) loc,b<w.heap.size:=fun b hb=>St0.lt b (aM0 _ hb)
 let loc1:Nat→Loc:=fun i=>if i=0 then ⟨[],.func (.yield l) #[] #[]⟩else ⟨Ab_ (S 0) loc++[l],.func (.yield l) #[] #[]⟩
 have hhot1:Ab_ [⟨0,0,.abs (yH l)⟩,⟨1,0,.abs (A 0)⟩] loc1=Ab_ (S 0) loc++[l]:=by simp[Ab_,loc1]
 have W1w:∀n,Weak (Ai_ (S 0) loc) (Ai_ (S 0) loc) (Ab_ (S 0) loc++M) (Ab_ (S 0) loc++[l]++M) w.heap W1.heap n:=fun n =>
  ⟨fun _ _ _ _ h=>h,fun b o _ (_:isD o=true) ho=>by rw[hold1 b (aG0.1 ho).1];exact ho,fun b o hb (_:isD o=true) ho hm=>by
   have hlt:=(aG0.1 ho).1;simp only[aI0,aE0]at hm hb
   rcases hm with (hm | hm) | hm
   ·exact hb (.inl hm)
   ·omega
   ·exact hb (.inr hm)⟩
 have St1:St [⟨0,0,.abs (yH l)⟩,⟨1,0,.abs (A 0)⟩] loc1 M W1.heap:=by
  refine⟨by simp,?_,?_,?_,?_⟩
  ·rw[hhot1,cA0];exact⟨St0.bl,by simp,fun b hb b' hb'=>by simp only[aE0]at hb';have:=hhotlt b hb;omega⟩
  ·rw[hhot1];intro b hb hm
   rcases aI0.1 hb with hb | hb
   ·exact St0.ap b hb hm
   ·simp only[aE0]at hb;have:=St0.lt b (aP0 _ hm);omega
  ·rw[hhot1];intro b hb;simp only[aI0,aE0]at hb
   rcases hb with (hb | hb) | hb
   ·have:=hhotlt b hb;omega
   ·omega
   ·have:=St0.lt b (aP0 _ hb);omega
  ·intro e he;simp only[aK0,dX0,or_false]at he
   rcases he with rfl | rfl
   ·exact⟨rfl,rfl⟩
   ·refine⟨rfl,loc,rfl,St0.nd,fun e he=> ?_,fun p hp=> ?_,hl1,fun e he _=>AA_ St0.nd he⟩
    ·rw[hhot1];exact AN_ (W1w _) (Nat.le_refl _) (fun b o hb ho=>by rw[hold1 b (aG0.1 ho).1];exact ho) (St0.ok e he)
    ·rw[hhot1];exact BR_ (W1w _) _ _ (Nat.le_refl _) (hslot p hp)
 have W1z:Weak (Ai_ (S 0) loc) (Ai_ [⟨0,0,.abs (yH l)⟩,⟨1,0,.abs (A 0)⟩] loc1) (Ab_ (S 0) loc++M) (Ab_ [⟨0,0,.abs (yH l)⟩,⟨1,0,.abs (A 0)⟩] loc1++M) w.heap W1.heap 0:=by
  rw[hhot1];exact⟨fun _ _ _ h=>by omega,(W1w 0).b,(W1w 0).m⟩
 have hcall:=hD.2.2 M W1 loc1 (us'++ #[.func (.yield l) #[] #[]]++cs') St1 (by
  have e1:(us'++ #[Value.func (.yield l) #[] #[]]++cs').toList=us'.toList++Value.func (.yield l) #[] #[]::cs'.toList:=by simp
  rw[e1];refine Bz_ _ _ _ _ (AG_ W1z _ _ (dJ0 hmx.1) hus) ?_;simp only[rdV];refine⟨_,_,rfl,?_,AG_ W1z _ _ (dJ0 hmx.2) hcs⟩;simp only[rd];intro lc hlc;have:Ai_ [⟨0,0,.abs (yH l)⟩,⟨1,0,.abs (A 0)⟩] loc1 0 0=some (loc1 0):=rfl;rw[this]at hlc;simp only[aA0]at hlc;rw[←hlc]
  rfl)
 have hev:a.eval (.tmp gt)= .func (.func f) us' cs':=hv;refine⟨l,[{ target:= .collected w.heap.size,args:= #[] }],W1,{ target:= .fn (.func f) cs',args:=us'++ #[.func (.yield l) #[] #[]] },W1,f,us'++ #[.func (.yield l) #[] #[]]++cs',W1,hen,?_,fun _ _=>trivial,?_,fun h=>by simp[wd]at h,?_⟩
 ·simp only[resolve,rangeCall,hev];simp[Deferred.ofValue,Act.eval]
 ·simp only[invoke];exact hcall.1 _ _
 ·refine(Qa_ none _ hcall.2).mono ?_;rintro e w2 ⟨v,rfl,loc2,S2,hu,hnew,hver,_⟩;have hk:=S2.ok _ (aD0 _ aF0);have hk0:=S2.ok _ aF0;have hb0:(loc2 0).blks=[]:=hk0.1
  -- what is known behind, by the loop's state
  have main:∀(L:Loop) (T':List Ent),(AbsL sl hsl T' a.tmps (S 0) loc l L).J (Ab_ [⟨0,0,.abs (yH l)⟩,⟨1,1,.abs (match Cv_ ok xs.length with | none=>A xs.length | some k=>Zs k)⟩] loc2++M) (loc2 1).blks (loc2 1).hdr w2.heap→L.state≠ .busy →
    (Instr.endLoop l).run P w2= .ok L.pending (w2.putObj l (.loop { L with state:= .exhausted }))∧(∃D,({ a with defers:=[{ target:= .collected w.heap.size,args:= #[] }]++a.defers }:Act)={ a with defers:={ target:= .collected D,args:= #[] }::a.defers }∧w.heap.size≤D∧(w2.putObj l (.loop { L with state:= .exhausted })).heap[D]? =some (.deferred (some []))) ∧
    ∃loc',St T' loc' M (w2.putObj l (.loop { L with state:= .exhausted })).heap∧Upd (Ab_ (S 0) loc) w (w2.putObj l (.loop { L with state:= .exhausted }))∧(∀b∈Ab_ T' loc',b∈Ab_ (S 0) loc∨w.heap.size≤b) ∧
     (∀e∈T',e.r<1→Ai_ (S 0) loc e.id e.r=some (loc' e.id))∧rd (Ai_ T' loc') (Ab_ T' loc'++M) (w2.putObj l (.loop { L with state:= .exhausted })).heap (.tup []) (.tuple #[]):=by
   rintro L T' ⟨_,loc3,hbl,hnd3,hob3,hsl3,hl3,hver3⟩ hbusy
   have hhot2:Ab_ [⟨0,0,.abs (yH l)⟩,⟨1,1,.abs (match Cv_ ok xs.length with | none=>A xs.length | some k=>Zs k)⟩] loc2=Ab_ T' loc3++[l]:=by
    simp[Ab_,hb0];simpa[Ab_]using hbl
   obtain⟨w4,hw4⟩:∃w4,w4=w2.putObj l (.loop { L with state:= .exhausted }):=⟨_,rfl⟩;rw[←hw4];have hrun:=run_endLoop (P:=P) hl3 hbusy;rw[←hw4]at hrun;have hsz4:w4.heap.size=w2.heap.size:=by rw[hw4];exact DV_ _ _ _
   have hoth4:∀b,b≠l→w4.heap[b]? =w2.heap[b]? :=fun b hb=>by rw[hw4];exact World.putObj_heap_other hb
   rw[hhot1]at hu
   have hlhot:l∉Ab_ T' loc3:=by
    have:=S2.bl;rw[hhot2,cA0]at this;exact fun hm=>this.2.2 l hm l (by simp) rfl
   refine⟨hrun,⟨w.heap.size,rfl,Nat.le_refl _,?_⟩,loc3,?_,?_,?_,hver3,?_⟩
   ·rw[hoth4 _ (by omega),hu.blk _ (by omega) (fun h=>by
     simp only[aI0,aE0]at h
     rcases h with h | h
     ·have:=hhotlt _ h;omega
     ·omega)]
    exact hD1
   ·have hsub:∀b∈Ab_ T' loc3,b∈Ab_ T' loc3++[l]:=fun b hb=>aM0 _ hb
    have hd4:∀(b:Nat) (o:Obj),isD o=true→w2.heap[b]? =some o→w4.heap[b]? =some o:=by
     intro b o ho hb;rw[hoth4 b (fun he=>by subst he;rw[hl3]at hb;simp only[aA0]at hb;subst hb;simp[isD]at ho)];exact hb
    refine⟨hnd3,?_,fun b hb=>S2.ap b (by rw[hhot2];exact hsub b hb),fun b hb=> ?_,fun e he=> ?_⟩
    ·have:=S2.bl;rw[hhot2,cA0]at this;exact this.1
    ·rw[hsz4];refine S2.lt b ?_;rw[hhot2]
     rcases aI0.1 hb with hb | hb
     ·exact aM0 _ (hsub b hb)
     ·exact aP0 _ hb
    ·have h3:=hob3 e he;rw[hhot2]at h3;refine AN_ (n:=mxO e.obj) ⟨fun _ _ _ _ h=>h,fun b o _ (h1:isD o=true) h2=>hd4 b o h1 h2,fun b o hb (_:isD o=true) _ hm=>hb ?_⟩ (Nat.le_refl _) (fun b o hb ho=>by rw[hoth4 b (fun h=>hlhot (h▸AO_ he hb))];exact ho) h3
     rcases aI0.1 hm with hm | hm
     ·exact aM0 _ (hsub b hm)
     ·exact aP0 _ hm
   ·have U1:Upd (Ab_ (S 0) loc) w W1:=⟨by rw[hW1];rfl,by rw[hW1];rfl,by rw[hW1];rfl,fun _=>by rw[hW1];exact Nat.le_refl _,by omega,fun b hb _=>hold1 b hb⟩
    have U2:Upd (Ab_ (S 0) loc) w w2:=U1.trans hu (fun x hx=>by
     simp only[aI0,aE0]at hx
     rcases hx with hx | hx
     ·exact .inl hx
     ·exact .inr (by omega))
    have U3:Upd [l] w2 w4:=by
     rw[hw4];exact⟨rfl,rfl,rfl,fun _=>Nat.le_refl _,by rw[DV_];exact Nat.le_refl _,fun b _ hb=>World.putObj_heap_other (fun h=>hb (by simp[h]))⟩
    exact U2.trans U3 (fun x hx=> .inr (by simp only[aE0]at hx;omega))
   ·intro b hb;have hbm:b∈Ab_ [⟨0,0,.abs (yH l)⟩,⟨1,1,.abs (match Cv_ ok xs.length with | none=>A xs.length | some k=>Zs k)⟩] loc2:=by rw[hhot2];exact aM0 _ hb
    rcases hnew b hbm with h | h
    ·rw[hhot1]at h;simp only[aI0,aE0]at h
     rcases h with h | h
     ·exact .inl h
     ·exact .inr (by omega)
    ·exact .inr (by omega)
   ·simp only[rd];exact⟨#[],rfl,by simp[rdV]⟩
  clear hnew hver
  cases hst:Cv_ ok xs.length with
  | none =>
   rw[hst]at hT;obtain⟨rfl,rfl⟩:=hT
   have hk':(A xs.length).J (Ab_ [⟨0,0,.abs (yH l)⟩,⟨1,1,.abs (match Cv_ ok xs.length with | none=>A xs.length | some k=>Zs k)⟩] loc2++M) (loc2 1).blks (loc2 1).hdr w2.heap:=by
    have h:=hk;simp only[MO_]at h
    generalize hF:(match Cv_ ok xs.length with | none=>A xs.length | some k=>Zs k)=F at h ⊢
    rw[hst]at hF;simp only at hF;subst hF;exact h
   obtain⟨h1,h2,h3⟩:=main rec _ hk' (by rw[hrec];simp);refine⟨_,_,h1,?_⟩;rw[hrec];simp only;rw[hrec]at h2 h3;exact⟨trivial,h2,h3⟩
  | some k =>
   rw[hst]at hT;obtain⟨hj,rfl⟩:=hT
   have hk':(Zs k).J (Ab_ [⟨0,0,.abs (yH l)⟩,⟨1,1,.abs (match Cv_ ok xs.length with | none=>A xs.length | some k=>Zs k)⟩] loc2++M) (loc2 1).blks (loc2 1).hdr w2.heap:=by
    have h:=hk;simp only[MO_]at h
    generalize hF:(match Cv_ ok xs.length with | none=>A xs.length | some k=>Zs k)=F at h ⊢
    rw[hst]at hF;simp only at hF;subst hF;exact h
   obtain⟨h1,h2,h3⟩:=main _ _ hk' (by simp);refine⟨_,_,h1,?_⟩;simp only
   rcases hj with ⟨hj,rfl⟩ | ⟨id,hj,rfl⟩ | ⟨t,hj,rfl⟩
   ·rw[hj]at h2 h3 ⊢;exact wpIn_ret ⟨rfl,h2,h3⟩
   ·rw[hj]at h2 h3 ⊢;exact wpIn_exit ⟨rfl,h2,h3⟩
   ·rw[hj]at h2 h3 ⊢;exact wpIn_goto ⟨rfl,h2,h3⟩
theorem SR_ {P:Program} {B:Base} {Q:Exit→DS→Prop} {s:DS} {gt nt:Nat} {ps:Array Tmp} {assign body:Code} {f:FuncId} {us cs:List DVal} {xs:List (List DVal)} {ok:Nat→Bool} (ρ ν:List (Nat×Nat)) (sl:List (Nat×DVal)) (S Z:Nat→List Ent) (jc:Nat→Code) (T:List Ent) (e0:Exit)
  (hI:ISpec P f us cs xs ok) (hB:B.nt=nt∧B.ro=none) (hsl:mxS sl≤1) (hmx:mxL us=0∧mxL cs=0) (hgt:(gt,.fn (.func f) us cs)∈sl) (hps:∀x∈xs,x.length=ps.size∧mxL x=0) (hpn:∀p∈ps.toList,p<nt)
  (hpre:outE s.own (BX_ s.own (Ev_ ρ)) (Ev_ ρ)=some (S 0)∧inOK s.own ρ∧(okDs (sl.map fun p=>getS s.slots p.1)∧wkA ((sl.map fun p=>getS s.slots p.1).map (renD (BX_ s.own (Ev_ ρ)))) (sl.map (·.2)))∧(((ρ++ν).map (·.1)).Nodup∧(ρ.map (·.2)).Nodup))
  (round:∀k x,xs[k]? =some x→(∀j,j<k→ok j=true)→∀B:Base,B.nt=nt→DW P B assign (RA P nt body (ok k) (if ok k then S (k+1)else Z k) (jc k)) ⟨putM ps.toList x sl,S k⟩)
  (hT:match Cv_ ok xs.length with | none=>e0= .normal∧T=S xs.length | some k=>(jc k= .ret∧e0= .ret∨(∃id,jc k= .exit id∧e0= .exit id)∨(∃t,jc k= .goto t∧e0= .goto t))∧T=Z k)
  (hTo:okOs T)
  (hk:∀r,match JA_ (Dt_ s.own ρ ν r) T with
   | some l=>((AY_ s.own ((ρ++ν).map (·.1))++l).map (·.id)).Nodup∧Q e0 ⟨s.slots,AY_ s.own ((ρ++ν).map (·.1))++l⟩
   | none=>False):DW P B (.rangeFunc (.tmp gt) ps assign body) Q s:=by
 intro a w loc R;have h:=hk (lim B s)
 split at h
 rotate_left
 ·exact h.elim
 rename_i l hl;obtain⟨hnd,hQ⟩:=h
 have hC:∀vs w (R R':Value→World→Prop),(∀v w',R v w'→R' v w')→loopC P (.rangeFunc (.tmp gt) ps assign body) (sl.map (·.1)) nt e0 vs w R→loopC P (.rangeFunc (.tmp gt) ps assign body) (sl.map (·.1)) nt e0 vs w R' :=
  fun vs w R R' h hc a h1 h2=>wpIn_mono (hc a h1 h2) (fun e a' w' ⟨k1,k2,k3⟩=>⟨k1,k2,h _ _ k3⟩)
 have hS:=Yz_ hC ρ ν (loop_spec hsl hI hmx hgt hps hpn round hT) hpre.1 hpre.2.1 hpre.2.2.1 hpre.2.2.2 hl hTo (by simp[okD,ok3s]) hnd;have hlim:lim B s=max B.N (max (mxS s.slots) (mxE s.own)):=rfl
 have hw:=hS B.M0 w loc ((sl.map fun p=>a.tmps.getD p.1 Go.undef).toArray) (by omega) R.st (by
  have key:∀l:List (Nat×DVal),rdV (Ai_ s.own loc) (Ab_ s.own loc++B.M0) w.heap (l.map fun p=>getS s.slots p.1) (l.map fun p=>a.tmps.getD p.1 Go.undef):=by
   intro l
   induction l with
   | nil=>simp[rdV]
   | cons p l ih=>simp only[List.map_cons,rdV];exact⟨_,_,rfl,R.sl p.1,ih⟩
  simpa using key sl) a (by simp) (by rw[R.nt];exact hB.1)
 rw[hB.2];refine wpIn_mono hw ?_;rintro e a' w' ⟨rfl,⟨D,rfl,hD1,hD2⟩,loc',St',hu,hnew,hver,_⟩;have R':=R.step (dst:=none) (v:=Go.undef) (d:= .any) (n:=lim B s) (by omega) (by omega) (fun i hi=>by simp at hi) St' hu hnew hver (by simp[rd]);refine⟨_,loc',hQ,⟨R'.st,R'.upd,R'.new,R'.ver,R'.sl,R'.nt,?_⟩⟩;obtain⟨rs,h1,h2,h3,h4⟩:=R.df;obtain⟨rs',g1,g2,g3,g4⟩:=R'.df;have hrs:∀r∈rs,r<w.heap.size:=fun r hr=>(aG0.1 (h3 r hr).1).1
 refine⟨D::rs,by simp[h1],?_,?_,fun h=>absurd hB.2 h⟩
 ·rw[cQ0];exact⟨fun hm=>by have:=hrs D hm;omega,h2⟩
 ·intro r hr
  rcases aK0.1 hr with rfl | hr
  ·refine⟨hD2,Nat.le_trans B.hnd (Nat.le_trans R.upd.size hD1),fun hm=> ?_⟩
   rcases aI0.1 hm with hm | hm
   ·obtain⟨e,he,hb⟩:=bR0.1 hm;exact obj_nd (St'.ok e he) _ hb _ hD2
   ·have:=R.st.lt r (aP0 _ hm);omega
  ·obtain⟨k1,k2,k3⟩:=h3 r hr;have hlt:=hrs r hr;refine⟨?_,k2,fun hm=> ?_⟩
   ·rw[hu.blk r hlt (fun hm=>k3 (aM0 _ hm))];exact k1
   ·rcases aI0.1 hm with hm | hm
    ·rcases hnew r hm with h | h
     ·exact k3 (aM0 _ h)
     ·omega
    ·exact k3 (aP0 _ hm)
def yOK (own:List Ent) (id r' l:Nat) (A:Abs):Prop:=match At_ own id,At_ own (id+1)with
 | some e0,some e=>e0.r=r'∧e0.obj= .abs (yH l)∧e.obj= .abs A
 | _,_=>False
theorem KM_ {P:Program} {id r' l:Nat} {args:List DVal} {own:List Ent} {K:ContE} {A A':Abs} {b:Bool} (hY:YAt P l A args b A') (hpre:yOK own id r' l A∧mxL args=0)
  (hk:∀r,K.f (.bool b) (upE own (id+1) r (.abs A'))):callY P id r' args own K:=by
 obtain⟨h,hm⟩:=hpre;unfold yOK at h
 split at h
 ·rename_i e0 e h1 h2;exact⟨e0,l,e,A,A',b,h1,h.1,h.2.1,h2,h.2.2,hm,hY,hk⟩
 ·exact h.elim
theorem HF_ {ok:Nat→Bool}:∀{n k:Nat},k<n→(∀j,j<k→ok j=true)→ok k=false→Cv_ ok n=some k
 | n+1,k,hk,hj,ho=>by
  simp only[Cv_]
  by_cases h:k<n
  ·rw[HF_ h hj ho]
  ·have:k=n:=by omega
   subst this
   have:Cv_ ok k=none:=by
    have key:∀m,m≤k→Cv_ ok m=none:=by
     intro m
     induction m with
     | zero=>intro _;rfl
     | succ m ih=>intro hm;simp only[Cv_,ih (by omega),hj m (by omega),if_true]
    exact key k (Nat.le_refl _)
   rw[this,ho];rfl
theorem HG_ {ok:Nat→Bool}:∀{n:Nat},(∀j,j<n→ok j=true)→Cv_ ok n=none
 | 0,_=>rfl
 | n+1,hj=>by simp only[Cv_,HG_ (n:=n) (fun j h=>hj j (by omega)),hj n (by omega),if_true]
attribute [simp] yOK RA RQ putM
end Go.Dm
end
section
namespace Go.Proofs.YtchgnpnbcjflcaaGreat
open Go Go.Dm
variable [DMode]
attribute [local irreducible] DW Bj_ Bp_ callY RB Dm.Sub
set_option maxRecDepth 100000
def BZ_ (x:Nd):Bool:=decide (x.k=2)||decide (x.k=3)
def occAt (l:List Nd) (j:Nat):Option (Nat×ByteArray):=match l[j]? with
 | some p=>if BZ_ p=true then some (j,p.s)else none
 | none=>none
def CG_ (l:List Nd) (n:Nat):List (Nat×ByteArray):=(List.range n).filterMap (occAt l)
def dOcc (x:Nat×ByteArray):List DVal:=[.int .i64 x.1,.str x.2]
theorem Jt_ {l:List Nd} {n:Nat} {p:Nd} (h:l[n]? =some p):CG_ l (n+1)=CG_ l n++(if BZ_ p=true then [(n,p.s)]else []):=by
 simp only[CG_,eA0,List.filterMap_append,List.filterMap_cons,List.filterMap_nil,occAt,h]
 by_cases hp:BZ_ p=true<;>simp[hp]
theorem TB_ {l:List Nd} {n m:Nat} (h:n≤m):∃r,CG_ l m=CG_ l n++r:=by
 obtain⟨d,rfl⟩:∃d,m=n+d:=⟨m-n,by omega⟩;exact⟨((List.range d).map (n+ ·)).filterMap (occAt l),by simp only[CG_,List.range_add,List.filterMap_append]⟩
theorem Vn_ {l:List Nd} {n m:Nat} {p:Nd} (h:l[n]? =some p) (hp:BZ_ p=true) (hm:n<m):(CG_ l m)[(CG_ l n).length]? =some (n,p.s):=by
 obtain⟨r,hr⟩:=TB_ (l:=l)  (show n+1≤m from hm);rw[hr,Jt_ h,if_pos hp];simp
theorem Vm_ {l:List Nd} {n m:Nat} {p:Nd} (h:l[n]? =some p) (hp:BZ_ p=true) (hm:n<m):(CG_ l n).length<(CG_ l m).length:=(aB0.1 (Vn_ h hp hm)).1
def Xz_ : Ann:=⟨[],[]⟩
def Hd_ : Ann:=⟨[5],[]⟩
theorem My_ (l:List Nd):Ac_ Tryz.prog 112 [dNds l] (dNds l):=by
 match l with
 | [] =>
  refine Qv_ [] ?_ ?_
  ·refine Aa_ [7] Xz_ Tryz.func112 Tryz.call112 Tryz.ntmps112 mxd (aj2 @Xz_.eq_1 Tryz.results112) rfl (by simp) (by simp[mx,mxR]) fun hwf B hnt hgAnn=> ?_
   simp only[argS,List.nil_append,dNds,List.map_cons];exact go0 aj0 aj0 aj0
  ·refine Aa_ [7,5] Hd_ Tryz.func112 Tryz.call112 Tryz.ntmps112 mxd (aj2 @Hd_.eq_1 Tryz.results112) rfl (by simp) (by simp[mx,mxR]) fun hwf B hnt hgAnn=> ?_
   simp only[argS,List.nil_append,dNds,List.map_cons];exact go0 aj0 aj0 aj0
 | s::l =>
  refine Aa_ [7,5] Hd_ Tryz.func112 Tryz.call112 Tryz.ntmps112 mxd (aj2 @Hd_.eq_1 Tryz.results112) rfl (by simp) (by simp[mx,mxR]) fun hwf B hnt hgAnn=> ?_
  have hsz:(s::l).length*32≤150000000000000:=by have:=hwf.1;simp only[wfD,aJ0]at this;exact this.1
  clear hwf;have z2:(s::l).length≤9223372036854775807:=by omega
  simp only[List.length_cons]at hsz z2;simp only[argS,List.nil_append,dNds,List.map_cons];exact go0 aj0 aj0 (aj2 hsz z2)
def Hc_ : Ann:=⟨[25],[⟨2,[4],[],[]⟩]⟩
set_option maxHeartbeats 1000000 in
theorem Rz_ (l:List Nd) (ok:Nat→Bool):ISpec Tryz.prog 264 [] [.ref [dNds l]] ((CG_ l l.length).map dOcc) ok:=by
 intro lb A Z hY;refine AP_ [] [(0,0,0),(1,1,1)] Hc_ Tryz.func264 Tryz.call264 Tryz.ntmps264 mxd (aj2 @Hc_.eq_1 Tryz.results264) rfl (by simp) (by simp) (by simp) fun hwf B hnt hgAnn=> ?_
 have hwl:l.length<9223372036854775807:=Pm_ (by simpa[wfL,wfD]using hwf);clear hwf;simp only[argS,List.nil_append]
 (refine go1 aj0 aj0 aj0 ?_;intros;refine mk_i ?_)
 refine Ae_ (X:={k:Nat//k≤l.length∧∀j,j<(CG_ l k).length→ok j=true}) (fun k=>⟨[(0,.pk 0 0),(5,dNds l),(6,.int .i64 l.length),(7,.int .i64 k.1)],[⟨0,0,.abs (yH lb)⟩,⟨1,1,.abs (A (CG_ l k.1).length)⟩]⟩) (fun k=>l.length-k.1) ⟨0,by simp[CG_]⟩ (Sub.lit (by simp[CG_])) ?_;rintro⟨k,hk,hj⟩
 by_cases hlt:k<l.length
 ·obtain⟨p,hp,hp',hpm⟩:=Ak_ hlt;have hs:=Jt_ hp
  by_cases hh:BZ_ p=true
  ·have hx:=hY (CG_ l k).length (dOcc (k,p.s)) (by rw[bI0,Vn_ hp hh hlt];rfl) hj;rw[if_pos hh]at hs;have hkd:p.k=2∨p.k=3:=by unfold BZ_ at hh;simpa using hh
   have hgo:∀j,j<(CG_ l (k+1)).length→ok (CG_ l k).length=true→ok j=true:=by
    rw[hs];intro j hj' hok;simp at hj'
    by_cases hjk:j=(CG_ l k).length
    ·subst hjk;exact hok
    ·exact hj j (by omega)
   rcases hkd with hkd | hkd
   ·(refine go1 aj0 aj0 (aj5 @dNd.eq_1 hlt hp hp' hkd) ?_;intros;refine mk_i ?_)
    cases hok:ok (CG_ l k).length
    ·rw[hok]at hx;refine KM_ hx (by simp[dOcc]) (fun r=> ?_);have hst:=HF_ (Vm_ hp hh hlt) hj hok;simp[hnt,Tryz.results264,Hc_,hst];exact go0 aj0 aj0 (aj1 hst)
    ·rw[hok]at hx;refine KM_ hx (by simp[dOcc]) (fun r=> ?_);simp[hnt,Tryz.results264,Hc_]
     (refine go1 aj0 aj0 aj0 ?_;intros;refine mk_i ?_)
     refine Aj_.mk ⟨k+1,by omega,fun j hj'=>hgo j hj' hok⟩ (Sub.lit (by simp[hs])) (by simp;omega)
     skip
   ·(refine go1 aj0 aj0 (aj5 @dNd.eq_1 hlt hp hp' hkd) ?_;intros;refine mk_i ?_)
    cases hok:ok (CG_ l k).length
    ·rw[hok]at hx;refine KM_ hx (by simp[dOcc]) (fun r=> ?_);have hst:=HF_ (Vm_ hp hh hlt) hj hok;simp[hnt,Tryz.results264,Hc_,hst];exact go0 aj0 aj0 (aj1 hst)
    ·rw[hok]at hx;refine KM_ hx (by simp[dOcc]) (fun r=> ?_);simp[hnt,Tryz.results264,Hc_]
     (refine go1 aj0 aj0 aj0 ?_;intros;refine mk_i ?_)
     refine Aj_.mk ⟨k+1,by omega,fun j hj'=>hgo j hj' hok⟩ (Sub.lit (by simp[hs])) (by simp;omega)
     skip
  ·rw[if_neg hh,bM0]at hs;have h2:¬p.k=2:=fun e=>hh (by unfold BZ_;simp[e])
   have h3:¬p.k=3:=fun e=>hh (by unfold BZ_;simp[e])
   have h2':(p.k==2)=false:=by simpa using h2
   have h3':(p.k==3)=false:=by simpa using h3
   (refine go1 aj0 aj0 (aj8 @dNd.eq_1 hlt hp hp' h2 h3 h2' h3') ?_;intros;refine mk_i ?_)
   refine Aj_.mk ⟨k+1,by omega,by rw[hs];exact hj⟩ (Sub.lit (by simp[hs])) (by simp;omega)
   skip
 ·have hkk:k=l.length:=by omega
  subst hkk;have hst:=HG_ hj;exact go0 aj0 aj0 (aj1 hst)
def Xy_ : Ann:=⟨[1],[⟨1,[1],[],[]⟩]⟩
theorem RA_ (l:List Nd):Ac_ Tryz.prog 183 [dNds l] (.fn (.func 264) [] [.ref [dNds l]]):=by
 refine Aa_ [] Xy_ Tryz.func183 Tryz.call183 Tryz.ntmps183 mxd (aj2 @Xy_.eq_1 Tryz.results183) rfl (by simp) (by simp[mx,mxL]) fun hwf B hnt hgAnn=> ?_
 clear hwf;simp only[argS];have h1:=My_ l;exact go0 (aj1 h1) aj0 aj0
def occN (l:List Nd):Nat:=(CG_ l l.length).length
def XA_ : Ann:=⟨[],[]⟩
set_option maxHeartbeats 1000000 in
theorem NG_ (l:List Nd):Ac_ Tryz.prog 103 [dNds l] (.int .i64 (occN l)):=by
 refine Aa_ [] XA_ Tryz.func103 Tryz.call103 Tryz.ntmps103 mxd (aj2 @XA_.eq_1 Tryz.results103) rfl (by simp) (by simp[mx]) fun hwf B hnt hgAnn=> ?_
 have hwl:=Pm_ hwf.1;clear hwf;simp only[argS];have h1:=RA_ l
 (refine go1 (aj1 h1) aj0 aj0 ?_;intros;refine mk_i ?_)
 have hI:=Rz_ l (fun _=>true);have hst:Cv_ (fun _:Nat=>true) (CG_ l l.length).length=none:=HG_ fun _ _=>rfl
 have hocc:∀x∈(CG_ l l.length).map dOcc,x.length=2∧mxL x=0:=by
  intro x hx;obtain⟨y,_,rfl⟩:=aV0.1 hx;exact⟨rfl,by simp[dOcc,mx]⟩
 have hlen:(CG_ l l.length).length≤l.length:=by
  simp only[CG_];exact Nat.le_trans (List.length_filterMap_le _ _) (by simp)
 refine SR_ (nt:=11) [(3,3)] [] [(0,dNds l),(3,.bx 3 0 0),(5,.fn (.func 264) [] [.ref [dNds l]])]
  (fun k=>[⟨3,0,.box [.int .i64 (k:Int)]⟩]) (fun k=>[⟨3,0,.box [.int .i64 (k:Int)]⟩]) (fun _=> .ret) [⟨3,0,.box [.int .i64 (occN l:Int)]⟩] .normal
  hI (by simp[hnt]) (by simp[mxS]) (by simp) (bL0 (i:=2) rfl) hocc (by simp) ?_ ?_ ?_ ?_ ?_
 ·simp
 ·intro k x hx hj B1 hnt;rw[bI0,bE0]at hx;obtain⟨⟨j,s⟩,hy,rfl⟩:=hx;have hkl:k<(CG_ l l.length).length:=(aB0.1 hy).1;have hw:IntKind.i64.wrap ((k:Int)+1)=(k:Int)+1:=wq;simp only[Array.toList,putM]
  (refine go1 aj0 aj0 aj0 ?_;intros;refine mk_i ?_)
  refine RB_mk fun B2 hnt=> ?_
  (refine go1 aj0 aj0 (aj2 @dOcc.eq_1 hw) ?_;intros;refine mk_i ?_)
  refine Sub.lit ?_;simp
 ·simp only[aJ0,hst];exact⟨trivial,rfl⟩
 ·simp
 ·intro r;simp;exact go0 aj0 aj0 aj0
end Go.Proofs.YtchgnpnbcjflcaaGreat
end
section
namespace Go.Proofs.YtchgnpnbcjflcaaGreat
open Go Go.Dm
variable [DMode]
attribute [local irreducible] DW Bj_ Bp_
set_option maxRecDepth 100000
def WM_ : Ann:=⟨[],[]⟩
theorem Vk_ (a b c:Int):Ac_ Tryz.prog 188 [.sl 1 8 [[.int .i64 a],[.int .i64 b],[.int .i64 c]]] (.int .i64 (if a=0 then (if b=0 then c else b)else a)):=by
 refine Aa_ [] WM_ Tryz.func188 Tryz.call188 Tryz.ntmps188 mxd (aj2 @WM_.eq_1 Tryz.results188) rfl (by simp) (by simp[mx]) fun hwf B hnt hgAnn=> ?_
 simp only[argS]
 (refine go1 aj0 aj0 aj0 ?_;intros;refine mk_i ?_)
 refine Ae_ (X:={k:Nat//k≤3∧(0<k→a=0)∧(1<k→b=0)∧(2<k→c=0)}) (fun k=>⟨[(3,.int .i64 0),(6,.sl 1 8 [[.int .i64 a],[.int .i64 b],[.int .i64 c]]),(7,.int .i64 3),(8,.int .i64 k.1)],[]⟩) (fun k=>3-k.1) ⟨0,by simp⟩ (Sub.lit (by simp)) ?_;rintro⟨k,hk,ha,hb,hc⟩
 match k,hk,ha,hb,hc with
 | 0,_,_,_,_ =>
  by_cases h:a=0
  ·(refine go1 aj0 aj0 (aj1 h) ?_;intros;refine mk_i ?_)
   refine Aj_.mk ⟨1,by simp[h]⟩ (Sub.lit (by simp)) (by simp)
   skip
  ·have h':(a != 0)=true:=by simpa using h
   exact go0 aj0 aj0 (aj2 h h')
 | 1,_,ha,_,_ =>
  have ha:=ha (by omega)
  by_cases h:b=0
  ·(refine go1 aj0 aj0 (aj1 h) ?_;intros;refine mk_i ?_)
   refine Aj_.mk ⟨2,by simp[h,ha]⟩ (Sub.lit (by simp)) (by simp)
   skip
  ·have h':(b != 0)=true:=by simpa using h
   exact go0 aj0 aj0 (aj3 h h' ha)
 | 2,_,ha,hb,_ =>
  have ha:=ha (by omega);have hb:=hb (by omega)
  by_cases h:c=0
  ·(refine go1 aj0 aj0 (aj1 h) ?_;intros;refine mk_i ?_)
   refine Aj_.mk ⟨3,by simp[h,ha,hb]⟩ (Sub.lit (by simp)) (by simp)
   skip
  ·have h':(c != 0)=true:=by simpa using h
   exact go0 aj0 aj0 (aj4 h h' ha hb)
 | 3,_,ha,hb,hc =>
  have ha:=ha (by omega);have hb:=hb (by omega);have hc:=hc (by omega);exact go0 aj0 aj0 (aj3 ha hb hc)
def BN_ {α:Type} (e:α→α→Bool) (p:α):List α→List α
 | []=>[]
 | y::l=>if e y p then BN_ e y l else y::BN_ e y l
def Bu_ {α:Type} (e:α→α→Bool):List α→List α
 | []=>[]
 | x::l=>x::BN_ e x l
theorem Mv_ {α:Type} {e:α→α→Bool} {y:α}:∀{l:List α} {p:α},BN_ e p (l++[y])=BN_ e p l++(if e y (l.getLast?.getD p)then []else [y])
 | [],p=>by by_cases h:e y p<;>simp[BN_,h]
 | x::l,p=>by
  have h:=Mv_ (e:=e) (y:=y) (l:=l) (p:=x)
  have h2:(x::l).getLast?.getD p=l.getLast?.getD x:=by
   cases l with
   | nil=>rfl
   | cons z l=>simp[List.getLast?_cons_cons,List.getLast?_eq_some_getLast]
  rw[h2];simp only[List.cons_append,BN_]
  split
  ·exact h
  ·rw[h];rfl
theorem GQ_ {α:Type} {e:α→α→Bool} {l:List α} {k:Nat} {x y:α} (h0:0<k) (hx:l[k-1]? =some x) (hy:l[k]? =some y):Bu_ e (l.take (k+1))=Bu_ e (l.take k)++(if e y x then []else [y]):=by
 rw[bF0,hy]
 obtain⟨z,t,hz⟩:∃z t,l.take k=z::t:=by
  cases h:l.take k with
  | nil =>
   have h1:=congrArg List.length h;have:=(aB0.1 hy).1;rw[aY0]at h1;simp only[List.length_nil]at h1;omega
  | cons z t=>exact⟨z,t,rfl⟩
 have hl:(l.take k).getLast?=some x:=by
  rw[List.getLast?_eq_getElem?,eW0];have:=(aB0.1 hy).1;simp only[aY0];rw[show min k l.length-1=k-1 by omega,if_pos (by omega)];exact hx
 rw[hz]at hl ⊢
 have h2:t.getLast?.getD z=x:=by
  cases t with
  | nil=>simpa using hl
  | cons a t=>simpa[List.getLast?_cons_cons,List.getLast?_eq_some_getLast]using hl
 simp only[Option.toList_some,List.cons_append,Bu_,Mv_,h2]
def cmpI (a b:Int):Int:=if a<b then -1 else if b<a then 1 else 0
def cmpL {α:Type} (c:α→α→Int):List α→List α→Int
 | [],[]=>0
 | [],_::_=> -1
 | _::_,[]=>1
 | x::a,y::b=>if c x y=0 then cmpL c a b else c x y
theorem cmpL_at {α:Type} {c:α→α→Int} {a b:List α} {k:Nat} {x y:α} (hx:a[k]? =some x) (hy:b[k]? =some y):cmpL c (a.drop k) (b.drop k)=if c x y=0 then cmpL c (a.drop (k+1)) (b.drop (k+1))else c x y:=by
 obtain⟨h1,rfl⟩:=aB0.1 hx;obtain⟨h2,rfl⟩:=aB0.1 hy;rw[aR0 h1,aR0 h2,cmpL]
theorem cmpL_gt {α:Type} {c:α→α→Int} {a b:List α} {k:Nat} (h1:k<a.length) (h2:b.length≤k):cmpL c (a.drop k) (b.drop k)=1:=by
 rw[aR0 h1,cP0 h2,cmpL]
theorem cmpL_le {α:Type} {c:α→α→Int} {a b:List α} {k:Nat} (h1:a.length≤k):cmpL c (a.drop k) (b.drop k)=if k<b.length then -1 else 0:=by
 rw[cP0 h1]
 split
 ·rename_i h;rw[aR0 h,cmpL]
 ·rename_i h;rw[cP0 (by omega),cmpL]
def WK_ : Ann:=⟨[],[]⟩
theorem DN_ (n:Int):Ac_ Tryz.prog 276 [.int .i64 n] (.bool false):=by
 refine Aa_ [] WK_ Tryz.func276 Tryz.call276 Tryz.ntmps276 mxd (aj2 @WK_.eq_1 Tryz.results276) rfl (by simp) (by simp[mx]) fun hwf B hnt hgAnn=> ?_
 simp only[argS];exact go0 aj0 aj0 aj0
def WL_ : Ann:=⟨[],[]⟩
theorem Cc_ (a b:Int):Ac_ Tryz.prog 189 [.int .i64 a,.int .i64 b] (.int .i64 (cmpI a b)):=by
 refine Aa_ [] WL_ Tryz.func189 Tryz.call189 Tryz.ntmps189 mxd (aj2 @WL_.eq_1 Tryz.results189) rfl (by simp) (by simp[mx]) fun hwf B hnt hgAnn=> ?_
 simp only[argS]
 by_cases h1:a<b
 ·exact go0 (aj2 (DN_ a) (DN_ b)) aj0 (aj2 h1 @cmpI.eq_1)
 ·by_cases h2:b<a
  ·exact go0 (aj2 (DN_ a) (DN_ b)) aj0 (aj3 h1 h2 @cmpI.eq_1)
  ·exact go0 (aj2 (DN_ a) (DN_ b)) aj0 (aj3 h1 h2 @cmpI.eq_1)
def symC (x y:Sym):Int:=if x.label=y.label then cmpI x.n y.n else if x.label then 1 else -1
end Go.Proofs.YtchgnpnbcjflcaaGreat
end
section
namespace Go.Proofs.YtchgnpnbcjflcaaGreat
open Go Go.Dm
variable [DMode]
structure Arc where
 fr:Int
 sy:Sym
 to:Int
 deriving DecidableEq
def dArc (x:Arc):List DVal:=[.int .i64 x.fr,.bool x.sy.label,.int .i64 x.sy.n,.int .i64 x.to]
abbrev Cb_ (l:List Arc):DVal:= .sl 4 32 (l.map dArc)
def dNum (n:Int):List DVal:=[.int .i64 n]
abbrev Bn_ (l:List Int):DVal:= .sl 1 8 (l.map dNum)
def dBl (b:Bool):List DVal:=[.bool b]
structure Auto where
 st:Int
 fin:List Int
 arcs:List Arc
 deriving DecidableEq
def Gq_ (a:Auto):List DVal:=[.int .i64 a.st,Bn_ a.fin,Cb_ a.arcs]
@[simp] theorem mx_dArc (s:Arc):mxL (dArc s)=0:=by simp[dArc,mxL,mx]
@[simp] theorem mx_dArcs (l:List Arc):mxR (l.map dArc)=0:=mxR0 _ mx_dArc l
@[simp] theorem mx_dNum (s:Int):mxL (dNum s)=0:=by simp[dNum,mxL,mx]
@[simp] theorem mx_dNums (l:List Int):mxR (l.map dNum)=0:=mxR0 _ mx_dNum l
@[simp] theorem mx_dBl (s:Bool):mxL (dBl s)=0:=by simp[dBl,mxL,mx]
@[simp] theorem mx_dBls (l:List Bool):mxR (l.map dBl)=0:=mxR0 _ mx_dBl l
@[simp] theorem mx_dAuto (a:Auto):mxL (Gq_ a)=0:=by simp[Gq_,mxL,mx]
theorem len_nums {l:List Int} (h:wfD (Bn_ l)):l.length<9223372036854775807:=by
 simp only[wfD,aJ0]at h;omega
def stB (s q:Int):Bool:=decide (0≤q)&&decide (q<s)
def okF (s:Int) (l:List Int) (k:Nat):Bool:=match l[k]? with
 | none=>true
 | some q=>stB s q&&(decide (k=0)||match l[k-1]? with | none=>true | some p=>decide (p<q))
theorem okF_zero {s:Int} {l:List Int} {q:Int} (h:l[0]? =some q):okF s l 0=stB s q:=by
 unfold okF;rw[h];simp
theorem okF_pos {s:Int} {l:List Int} {k:Nat} {p q:Int} (hk:0<k) (h:l[k]? =some q) (hp:l[k-1]? =some p):okF s l k=(stB s q&&decide (p<q)):=by
 unfold okF;rw[h];simp only[hp,show ¬k=0 by omega,decide_false,eM0]
def arcC (x y:Arc):Int:=if cmpI x.fr y.fr=0 then (if symC x.sy y.sy=0 then cmpI x.to y.to else symC x.sy y.sy)else cmpI x.fr y.fr
def Lk_ (x y:Sym):Bool:=if x.label=y.label then decide (x.n<y.n)else y.label
def JB_ (x y:Arc):Bool:=if x.fr=y.fr then (if x.sy=y.sy then decide (x.to<y.to)else Lk_ x.sy y.sy)else decide (x.fr<y.fr)
theorem Mw_ {a b:Int}:cmpI a b=0↔a=b:=by unfold cmpI;split<;>(try split)<;>omega
theorem PX_ {a b:Int}:cmpI a b<0↔a<b:=by unfold cmpI;split<;>(try split)<;>omega
theorem QL_ {x y:Sym}:symC x y=0↔x=y:=by
 obtain⟨a,n⟩:=x;obtain⟨b,m⟩:=y;unfold symC;cases a<;>cases b<;>simp[Mw_]
theorem YM_ (x y:Sym):Lk_ x y=decide (symC x y<0):=by
 obtain⟨a,n⟩:=x;obtain⟨b,m⟩:=y;unfold symC Lk_;cases a<;>cases b<;>simp[PX_]
theorem Of_ (x y:Arc):JB_ x y=decide (arcC x y<0):=by
 unfold JB_ arcC
 by_cases h1:x.fr=y.fr
 ·rw[if_pos h1,if_pos (Mw_.2 h1)]
  by_cases h2:x.sy=y.sy
  ·rw[if_pos h2,if_pos (QL_.2 h2)];exact decide_eq_decide.2 PX_.symm
  ·rw[if_neg h2,if_neg (fun h=>h2 (QL_.1 h)),YM_]
 ·rw[if_neg h1,if_neg (fun h=>h1 (Mw_.1 h))];exact decide_eq_decide.2 PX_.symm
def ZY_ (s:Int) (x:Arc):Bool:=stB s x.fr&&(stB s x.to&&decide (0≤x.sy.n))
def okA (s:Int) (l:List Arc) (k:Nat):Bool:=match l[k]? with
 | none=>true
 | some q=>ZY_ s q&&(decide (k=0)||match l[k-1]? with | none=>true | some p=>JB_ p q)
theorem okA_zero {s:Int} {l:List Arc} {q:Arc} (h:l[0]? =some q):okA s l 0=ZY_ s q:=by
 unfold okA;rw[h];simp
theorem okA_pos {s:Int} {l:List Arc} {k:Nat} {p q:Arc} (hk:0<k) (h:l[k]? =some q) (hp:l[k-1]? =some p):okA s l k=(ZY_ s q&&JB_ p q):=by
 unfold okA;rw[h];simp only[hp,show ¬k=0 by omega,decide_false,eM0]
def Gu_ (a:Auto):Bool:=decide (1≤a.st)&&decide (a.st≤65)&&((List.range a.fin.length).all (okF a.st a.fin)&&(List.range a.arcs.length).all (okA a.st a.arcs))
theorem LH_ {a:Auto} (h:Gu_ a=true):1≤a.st∧a.st≤65:=by
 unfold Gu_ at h;simp only[aN0,decide_eq_true_eq]at h;exact h.1
theorem ok_fin {a:Auto} (h:Gu_ a=true) {q:Int} (hq:q∈a.fin):0≤q∧q<a.st:=by
 unfold Gu_ at h;simp only[aN0,bA0]at h;obtain⟨k,hk,rfl⟩:=bN0 hq;have:=h.2.1 k (dP0.2 hk);unfold okF stB at this;rw[aH0 hk]at this;simp only[aN0,decide_eq_true_eq]at this;exact this.1
theorem ok_arc {a:Auto} (h:Gu_ a=true) {x:Arc} (hx:x∈a.arcs):0≤x.fr∧x.fr<a.st∧0≤x.to∧x.to<a.st:=by
 unfold Gu_ at h;simp only[aN0,bA0]at h;obtain⟨k,hk,rfl⟩:=bN0 hx;have:=h.2.2 k (dP0.2 hk);unfold okA ZY_ stB at this;rw[aH0 hk]at this;simp only[aN0,decide_eq_true_eq]at this;exact⟨this.1.1.1,this.1.1.2,this.1.2.1.1,this.1.2.1.2⟩
def bAt (l:List Bool) (q:Int):Bool:=l[q.toNat]?.getD false
def stepG (fr:List Bool) (s:Sym) (to:List Bool) (x:Arc):List Bool:=if bAt fr x.fr&&decide (x.sy=s)then to.set x.to.toNat true else to
def bD (l:List Bool):List (List DVal):=l.map dBl
@[simp] theorem mx_bD (l:List Bool):mxR (bD l)=0:=mx_dBls l
end Go.Proofs.YtchgnpnbcjflcaaGreat
end
