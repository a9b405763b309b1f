/- Parts of a proof, laid together: WA, WB2, WB1, WR1, RN, RH. -/
import Derived.Test.YtiojapdolljocaaGreatqBo15
set_option linter.unusedSimpArgs false
set_option maxHeartbeats 8000000
set_option linter.unusedVariables false
set_option linter.unusedSectionVars false
section
namespace Go.Proofs.Wy
open Go Go.Dm Tryz
variable [DMode]
instance : LawfulBEq ByteArray where
 eq_of_beq {a b} h:=by
  rw[<-LC]at h;have h:=eq_of_beq h;cases a;cases b;simp only at h;rw[h]
 rfl {a}:=by rw[<-LC];exact beq_self_eq_true _
structure Edge where
 fr:ByteArray
 lb:ByteArray
 to:ByteArray
 deriving DecidableEq
structure Edges where
 nodes:List ByteArray
 edges:List Edge
 deriving DecidableEq
def AE (s:ByteArray):List DVal:=[.str s]
def iM (e:Edge):List DVal:=[.str e.fr,.str e.lb,.str e.to]
abbrev Bu (l:List ByteArray):DVal:= .sl 1 16 (l.map AE)
abbrev Gx_ (l:List Edge):DVal:= .sl 3 48 (l.map iM)
def dGr (g:Edges):List DVal:=[Bu g.nodes,Gx_ g.edges]
@[simp] theorem CG_ (s:ByteArray):AH (AE s)=0:=by simp[AE,AH,mx]
@[simp] theorem Ag_ (s:Edge):AH (iM s)=0:=by simp[iM,AH,mx]
@[simp] theorem Fm_ (l:List ByteArray):Bo (l.map AE)=0:=Ie _ CG_ l
@[simp] theorem FU_ (l:List Edge):Bo (l.map iM)=0:=Ie _ Ag_ l
@[simp] theorem Gk_ (g:Edges):AH (dGr g)=0:=by simp[dGr,AH,mx]
def CE (a b:ByteArray):Bool:=Op.bytesLess a.data.toList b.data.toList
theorem Bw_ : ∀l:List UInt8,Op.bytesLess l l=false
 | []=>rfl
 | a::l=>by simp[Op.bytesLess,Bw_ l]
theorem Xh : ∀{a b c:List UInt8},Op.bytesLess a b=true->Op.bytesLess b c=true->Op.bytesLess a c=true
 | _,[],_,h,_=>by cases ‹List UInt8› <;>simp[Op.bytesLess]at h
 | _,_::_,[],_,h=>by simp[Op.bytesLess]at h
 | [],_::_,_::_,_,_=>by simp[Op.bytesLess]
 | x::a,y::b,z::c,h1,h2=>by
  simp only[Op.bytesLess,cV0,aN0,decide_eq_true_eq,beq_iff_eq]at h1 h2 |-
  rcases h1 with h1 | ⟨rfl,h1⟩
  ·rcases h2 with h2 | ⟨rfl,h2⟩
   ·exact .inl (UInt8.lt_trans h1 h2)
   ·exact .inl h1
  ·rcases h2 with h2 | ⟨rfl,h2⟩
   ·exact .inl h2
   ·exact .inr ⟨rfl,Xh h1 h2⟩
theorem Bv_ : ∀{a b:List UInt8},Op.bytesLess a b=false->Op.bytesLess b a=false->a=b
 | [],[],_,_=>rfl
 | [],_::_,h,_=>by simp[Op.bytesLess]at h
 | _::_,[],_,h=>by simp[Op.bytesLess]at h
 | x::a,y::b,h1,h2=>by
  simp only[Op.bytesLess,Bool.or_eq_false_iff,Bool.and_eq_false_iff,decide_eq_false_iff_not,beq_eq_false_iff_ne]at h1 h2;have bY:x=y:=UInt8.le_antisymm (UInt8.not_lt.1 h2.1) (UInt8.not_lt.1 h1.1);subst bY;rw[Bv_ (h1.2.resolve_left (by simp)) (h2.2.resolve_left (by simp))]
theorem Ew (a:ByteArray):CE a a=false:=Bw_ _
theorem Iu {a b c:ByteArray} (h1:CE a b=true) (h2:CE b c=true):CE a c=true:=Xh h1 h2
theorem Hk {a b:ByteArray} (h:a.data.toList=b.data.toList):a=b:=by
 obtain⟨⟨x⟩⟩:=a;obtain⟨⟨y⟩⟩:=b;simp only at h;subst h;rfl
theorem Jj {a b:ByteArray} (h1:CE a b=false) (h2:CE b a=false):a=b:=Hk (Bv_ h1 h2)
theorem OS {a b:ByteArray} (h:CE a b=true):CE b a=false:=by
 cases hb:CE b a
 ·rfl
 ·have:=Iu h hb;rw[Ew]at this;simp at this
theorem xB {a b:ByteArray} (h:CE a b=true):a≠b:=fun e=>by subst e;rw[Ew]at h;simp at h
def Mn (a b:ByteArray):Int:=if CE a b then -1 else if CE b a then 1 else 0
theorem pI {a b:ByteArray}:Mn a b=0↔a=b:=by
 unfold Mn
 constructor
 ·intro h
  split at h
  ·simp at h
  ·split at h
   ·simp at h
   ·rename_i h1 h2;exact Jj (by simpa using h1) (by simpa using h2)
 ·rintro rfl;rw[Ew];simp
theorem FA {a b:ByteArray}:Mn a b<0↔CE a b=true:=by
 unfold Mn
 split
 ·simp_all
 ·split<;>simp_all
end Go.Proofs.Wy
end
section
namespace Go.Proofs.Wy
open Go Go.Dm Tryz
variable [DMode]
attribute [local irreducible] DW Bm Bq
set_option maxRecDepth 100000
def HA (l:List ByteArray) (s:ByteArray):Int:=if l.any (fun x=>s==x)then ((l.findIdx fun x=>s==x:Nat):Int)else -1
theorem VF {l:List ByteArray} {s:ByteArray} {k:Nat} (hk:k<l.length) (h:l[k]=s) (vS:∀i x,i<k->l[i]? =some x->(s==x)=false):HA l s=k:=by
 unfold HA;have hb:(s==l[k])=true:=by rw[h];exact beq_self_eq_true _
 rw[if_pos (cL0.2 ⟨l[k],bT0 _,hb⟩)]
 congr 1
 rw[List.findIdx_eq hk];exact⟨hb,fun i hi=>vS i _ hi (aD0 (by omega))⟩
theorem VG {l:List ByteArray} {s:ByteArray} (vS:∀i x,i<l.length->l[i]? =some x->(s==x)=false):HA l s= -1:=by
 unfold HA;rw[if_neg];simp only[Bool.not_eq_true,dX0];intro x hx;obtain⟨i,hi,rfl⟩:=bW0 hx;rw[vS i _ hi (aD0 hi)]
theorem AG_ {l:List ByteArray} {s x:ByteArray} {k:Nat} (hx:l[k]? =some x) (hb:(s==x)=false) (vS:∀i x,i<k->l[i]? =some x->(s==x)=false):∀i x,i<k+1->l[i]? =some x->(s==x)=false:=by
 intro i y hi hy
 by_cases gT:i=k
 ·subst gT;rw[hx]at hy;simp only[aA0]at hy;subst hy;exact hb
 ·exact vS i y (by omega) hy
theorem Wl {l:List ByteArray} (h:EX (Bu l)):l.length<9223372036854775807:=by
 simp only[EX,aO0]at h;omega
def DG : Ann:=⟨[],[]⟩
theorem JZ (l:List ByteArray) (s:ByteArray):Ae prog 152 [Bu l,.str s] (.int .i64 (HA l s)):=by
 refine Ac [] DG func152 call152 ntmps152 mxd (Ar @DG.eq_1 results152) rfl (fun qJ B qX qQ=> ?_);have qU:=Wl qJ.1;clear qJ;simp only[Ak];obtain⟨R,hR⟩:∃R,R=HA l s:=⟨_,rfl⟩;rw[<-hR]
 (repeat (first | refine AI fun K hK=> ?_ | (refine BS DG mxd (by kernel_rfl) ?_;simp[DG,qX];try simp (disch:=omega) only[Ai]) | refine Ao ?_ | (refine Bg ?_ ?_ ?_;(· (simp[qX];done));(try (rotate_left;(· (intro hc;(try simp[qX]at hc);done))))) | (refine AL ?_;simp[results152,qX]) | ((first | refine Az ?_ | refine Ay ?_);simp[qX]) | (intro hc;(try simp[qX]at hc);(try (exfalso;omega))) | (refine⟨?_,?_⟩; · omega) | omega | apply_assumption -exfalso -symm | (exfalso;omega)))
 refine Al (X:={k:Nat//k<=l.length/\∀i x,i<k->l[i]? =some x->(s==x)=false}) (fun x=>⟨[(0,Bu l),(1,.str s),(7,.int .i64 l.length),(8,.int .i64 x.1)],[]⟩) (fun x=>l.length-x.1) ⟨0,by simp⟩ (Sub.lit (by simp)) ?_;rintro⟨k,hk,vS⟩
 by_cases qV:k<l.length
 ·obtain⟨x,hx,qA,vN⟩:=Ax qV;cases hb:s==x
  ·(repeat (first | refine AI fun K hK=> ?_ | (refine BS DG mxd (by kernel_rfl) ?_;simp[DG,qX,AE,qV,qA,hx,hb];try simp (disch:=omega) only[Ai]) | refine Ao ?_ | (refine Bg ?_ ?_ ?_;(· (simp[qX,AE,qV,qA,hx,hb];done));(try (rotate_left;(· (intro hc;(try simp[qX,AE,qV,qA,hx,hb]at hc);done))))) | (refine AL ?_;simp[results152,qX,AE,qV,qA,hx,hb]) | ((first | refine Az ?_ | refine Ay ?_);simp[qX,AE,qV,qA,hx,hb]) | (intro hc;(try simp[qX,AE,qV,qA,hx,hb]at hc);(try (exfalso;omega))) | (refine⟨?_,?_⟩; · omega) | omega | apply_assumption -exfalso -symm | (exfalso;omega)))
   exact An.mk ⟨k+1,by omega,AG_ hx hb vS⟩ (Sub.lit (by simp[])) (by simp;omega)
   skip
  ·have hRk:R=k:=by rw[hR];exact VF qV (by rw[qA];exact(by simpa using hb:s=x).symm) vS
   subst hRk
   (repeat (first | refine AI fun K hK=> ?_ | (refine BS DG mxd (by kernel_rfl) ?_;simp[DG,qX,AE,qV,qA,hx,hb];try simp (disch:=omega) only[Ai]) | refine Ao ?_ | (refine Bg ?_ ?_ ?_;(· (simp[qX,AE,qV,qA,hx,hb];done));(try (rotate_left;(· (intro hc;(try simp[qX,AE,qV,qA,hx,hb]at hc);done))))) | (refine AL ?_;simp[results152,qX,AE,qV,qA,hx,hb]) | ((first | refine Az ?_ | refine Ay ?_);simp[qX,AE,qV,qA,hx,hb]) | (intro hc;(try simp[qX,AE,qV,qA,hx,hb]at hc);(try (exfalso;omega))) | (refine⟨?_,?_⟩; · omega) | omega | apply_assumption -exfalso -symm | (exfalso;omega)))
 ·have qZ:k=l.length:=by omega
  subst qZ;have hRk:R= -1:=by rw[hR];exact VG vS
  subst hRk
  (repeat (first | refine AI fun K hK=> ?_ | (refine BS DG mxd (by kernel_rfl) ?_;simp[DG,qX];try simp (disch:=omega) only[Ai]) | refine Ao ?_ | (refine Bg ?_ ?_ ?_;(· (simp[qX];done));(try (rotate_left;(· (intro hc;(try simp[qX]at hc);done))))) | (refine AL ?_;simp[results152,qX]) | ((first | refine Az ?_ | refine Ay ?_);simp[qX]) | (intro hc;(try simp[qX]at hc);(try (exfalso;omega))) | (refine⟨?_,?_⟩; · omega) | omega | apply_assumption -exfalso -symm | (exfalso;omega)))
def OA : Ann:=⟨[],[]⟩
theorem MN (l:List ByteArray) (s:ByteArray):Ae prog 98 [Bu l,.str s] (.bool (decide (0<=HA l s))):=by
 refine Ac [] OA func98 call98 ntmps98 mxd (Ar @OA.eq_1 results98) rfl (fun qJ B qX qQ=> ?_);simp only[Ak]
 (repeat (first | refine AI fun K hK=> ?_ | (refine BS OA mxd (by kernel_rfl) ?_;simp[OA,qX];try simp (disch:=omega) only[Ai]) | refine Ao ?_ | (refine Bg ?_ ?_ ?_;(· (simp[qX];done));(try (rotate_left;(· (intro hc;(try simp[qX]at hc);done))))) | (refine AL ?_;simp[results98,qX]) | ((first | refine Az ?_ | refine Ay ?_);simp[qX]) | (intro hc;(try simp[qX]at hc);(try (exfalso;omega))) | ((first | refine Ag (JZ l s) ?_ | (refine Af (JZ l s) ?_ ?_;(· (simp;done))));try simp[qX]) | (refine⟨?_,?_⟩; · omega) | omega | apply_assumption -exfalso -symm | (exfalso;omega)))
def Wj (n:Int):Bool:=(decide (97<=n)&&decide (n<=122))||(decide (65<=n)&&decide (n<=90))||(decide (48<=n)&&decide (n<=57))||n==95
def Ar_ (s:ByteArray):Bool:=s.data.toList.all fun b=>Wj (b.toNat:Int)
def BK (s:ByteArray):Bool:=decide (1<=s.size)&&decide (s.size<=16)&&Ar_ s
theorem CD (s:ByteArray):s.data.toList.length=s.size:=rfl
def Yx (n:Int):Bool:=decide (65<=n)&&decide (n<=90)
def Yz (n:Int):Bool:=decide (97<=n)&&decide (n<=122)
def Xs : Ann:=⟨[],[]⟩
theorem Gr (n:Int):Ae prog 200 [.int .u8 n] (.bool (Yx n)):=by
 refine Ac [] Xs func200 call200 ntmps200 mxd (Ar @Xs.eq_1 results200) rfl (fun qJ B qX qQ=> ?_);simp only[Ak]
 by_cases h1:65<=n
 ·by_cases h2:n<=90<;>exact Aw Ab Ab (GE @Yx.eq_1 h1 h2)
 ·exact Aw Ab Ab (Ar @Yx.eq_1 h1)
def Xr : Ann:=⟨[],[]⟩
theorem Gy (n:Int):Ae prog 201 [.int .u8 n] (.bool (Yz n)):=by
 refine Ac [] Xr func201 call201 ntmps201 mxd (Ar @Xr.eq_1 results201) rfl (fun qJ B qX qQ=> ?_);simp only[Ak]
 by_cases h1:97<=n
 ·by_cases h2:n<=122<;>exact Aw Ab Ab (GE @Yz.eq_1 h1 h2)
 ·exact Aw Ab Ab (Ar @Yz.eq_1 h1)
def Xv : Ann:=⟨[],[]⟩
theorem Iv (n:Int):Ae prog 183 [.int .u8 n] (.bool (Yx n)):=by
 refine Ac [] Xv func183 call183 ntmps183 mxd (Ar @Xv.eq_1 results183) rfl (fun qJ B qX qQ=> ?_);simp only[Ak]
 by_cases h1:65<=n
 ·by_cases h2:n<=90<;>exact Aw Ab Ab (GE @Yx.eq_1 h1 h2)
 ·exact Aw Ab Ab (Ar @Yx.eq_1 h1)
def Xu : Ann:=⟨[],[]⟩
theorem Iz (n:Int):Ae prog 184 [.int .u8 n] (.bool (Yz n)):=by
 refine Ac [] Xu func184 call184 ntmps184 mxd (Ar @Xu.eq_1 results184) rfl (fun qJ B qX qQ=> ?_);simp only[Ak]
 by_cases h1:97<=n
 ·by_cases h2:n<=122<;>exact Aw Ab Ab (GE @Yz.eq_1 h1 h2)
 ·exact Aw Ab Ab (Ar @Yz.eq_1 h1)
theorem eV (n:Int):Wj n=(Yx n||Yz n||(decide (48<=n)&&decide (n<=57))||n==95):=by
 unfold Wj Yx Yz;cases decide (65<=n)<;>cases decide (n<=90)<;>cases decide (97<=n)<;>cases decide (n<=122)<;>rfl
def Xw : Ann:=⟨[],[]⟩
theorem Rs (n:Int):Ae prog 182 [.int .u8 n] (.bool (Wj n)):=by
 refine Ac [] Xw func182 call182 ntmps182 mxd (Ar @Xw.eq_1 results182) rfl (fun qJ B qX qQ=> ?_);simp only[Ak];rw[eV];have e1:=Iv n;have e2:=Iz n;cases hU:Yx n
 ·rw[hU]at e1;cases hL:Yz n
  ·rw[hL]at e2
   by_cases h5:48<=n
   ·by_cases h6:n<=57
    ·exact Aw (Ar e1 e2) Ab (Ar h5 h6)
    ·have h7:n=95\/¬n=95:=by omega
     rcases h7 with h7 | h7
     ·subst h7;exact Aw (Ar e1 e2) Ab Ab
     ·exact Aw (Ar e1 e2) Ab (GE h5 h6 h7)
   ·have h7:¬n=95:=by omega
    exact Aw (Ar e1 e2) Ab (Ar h5 h7)
  ·rw[hL]at e2;exact Aw (Ar e1 e2) Ab Ab
 ·rw[hU]at e1;exact Aw (AJ e1) Ab Ab
def HZ (q:Int->Bool) (s:ByteArray):Bool:=match s.data.toList with | []=>false | b::_=>q (b.toNat:Int)
theorem Wx {q:Int->Bool} {s:ByteArray} {b:UInt8} (hb:s.data.toList[0]? =some b):HZ q s=q (b.toNat:Int):=by
 unfold HZ
 cases hd:s.data.toList with
 | nil=>rw[hd]at hb;simp at hb
 | cons x l=>rw[hd]at hb;simp at hb;subst hb;rfl
def Xt : Ann:=⟨[],[]⟩
theorem EH (g:FuncId) (q:Int->Bool) (hq:∀n,Ae prog g [.int .u8 n] (.bool (q n))) (s:ByteArray):Ae prog 199 [.str s,.fn (.func g) [] []] (.bool (BK s&&HZ q s)):=by
 refine Ac [] Xt func199 call199 ntmps199 mxd (Ar @Xt.eq_1 results199) rfl (fun qJ B qX qQ=> ?_);have qF:s.size<=9223372036854775807:=by have:=qJ.1;simp only[EX,maxLen]at this;omega
 clear qJ;simp only[Ak];obtain⟨R,hR⟩:∃R,R=(BK s&&HZ q s):=⟨_,rfl⟩;rw[<-hR]
 by_cases h1:1<=s.size
 ·by_cases h2:s.size<=16
  ·have g1:¬(s.size:Int)<1:=by omega
   have g2:¬(16:Int)<s.size:=by omega
   have g0:0<s.size:=by omega
   obtain⟨b0,qC,jD,_⟩:=Ax (show 0<s.data.toList.length by rw[CD];omega);have e0:=hq (b0.toNat:Int);rw[Wx qC]at hR;cases hQ:q (b0.toNat:Int)
   ·rw[hQ]at e0 hR;have vJ:R=false:=by rw[hR];simp
    subst vJ;exact Aw (AJ e0) Ab (NA g0 g1 g2 h1 h2 qC jD)
   ·rw[hQ]at e0 hR;simp only[eD0]at hR
    (refine AX (AJ e0) Ab (NA g0 g1 g2 h1 h2 qC jD) ?_;intros;refine Am ?_)
    refine Al (X:={k:Nat//k<=s.size/\Ar_ s=((s.data.toList.drop k).all fun b=>Wj (b.toNat:Int))}) (fun k=>⟨[(0,.str s),(23,.int .i64 s.size),(24,.int .i64 k.1)],[]⟩) (fun k=>s.size-k.1) ⟨0,by simp[Ar_]⟩ (Sub.lit (by simp)) ?_;clear e0 qC jD hQ;rintro⟨k,hk,hl⟩
    by_cases qV:k<s.size
    ·obtain⟨b,hb,qG,_⟩:=Ax (show k<s.data.toList.length by rw[CD];exact qV);rw[aW0 (by rw[CD];exact qV),qG,dA0]at hl;have e1:=Gr (b.toNat:Int);have e2:=Gy (b.toNat:Int);obtain⟨L,hLL⟩:∃L,L=Wj (b.toNat:Int):=⟨_,rfl⟩;have hLe:=eV (b.toNat:Int);rw[<-hLL]at hl hLe;cases hU:Yx (b.toNat:Int)
     ·rw[hU]at e1;cases hV:Yz (b.toNat:Int)
      ·rw[hV]at e2
       by_cases h5:(48:Int)<=(b.toNat:Int)
       ·by_cases h6:(b.toNat:Int)<=57
        ·have h7:¬(b.toNat:Int)=95:=by omega
         have bV:L=true:=by rw[hLe];simp[hU,hV,h5,h6]
         rw[bV,dO0]at hl
         (refine AX (Ar e1 e2) Ab (NA qV hb qG hU hV h5 h6) ?_;intros;refine Am ?_)
         refine An.mk ⟨k+1,by omega,hl⟩ (Sub.lit (by simp)) (by simp;omega)
         skip
        ·by_cases h7:(b.toNat:Int)=95
         ·have bV:L=true:=by rw[hLe];simp[hU,hV,h5,h6,h7]
          rw[h7]at e1 e2;rw[bV,dO0]at hl
          (refine AX (Ar e1 e2) Ab (Mi qV hb qG hU hV h5 h6 h7) ?_;intros;refine Am ?_)
          refine An.mk ⟨k+1,by omega,hl⟩ (Sub.lit (by simp)) (by simp;omega)
          skip
         ·have bV:L=false:=by rw[hLe];simp[hU,hV,h5,h6,h7]
          rw[bV,Bool.false_and]at hl;have vJ:R=false:=by rw[hR];unfold BK;rw[hl];simp
          subst vJ;exact Aw (Ar e1 e2) Ab (Mi qV hb qG hU hV h5 h6 h7)
       ·have h7:¬(b.toNat:Int)=95:=by omega
        have bV:L=false:=by rw[hLe];simp[hU,hV,h5,h7]
        rw[bV,Bool.false_and]at hl;have vJ:R=false:=by rw[hR];unfold BK;rw[hl];simp
        subst vJ;exact Aw (Ar e1 e2) Ab (NA qV hb qG hU hV h5 h7)
      ·rw[hV]at e2;have bV:L=true:=by rw[hLe];simp[hU,hV]
       rw[bV,dO0]at hl
       (refine AX (Ar e1 e2) Ab (Mj qV hb qG hU hV) ?_;intros;refine Am ?_)
       refine An.mk ⟨k+1,by omega,hl⟩ (Sub.lit (by simp)) (by simp;omega)
       skip
     ·rw[hU]at e1;have bV:L=true:=by rw[hLe];simp[hU]
      rw[bV,dO0]at hl
      (refine AX (AJ e1) Ab (Ik qV hb qG hU) ?_;intros;refine Am ?_)
      refine An.mk ⟨k+1,by omega,hl⟩ (Sub.lit (by simp)) (by simp;omega)
      skip
    ·have qZ:k=s.size:=by omega
     subst qZ;rw[<-CD,cN0]at hl;have vJ:R=true:=by rw[hR];unfold BK;rw[hl];simp[h1,h2]
     subst vJ;exact Aw Ab Ab Ab
  ·have g1:¬(s.size:Int)<1:=by omega
   have g2:(16:Int)<s.size:=by omega
   have vJ:R=false:=by rw[hR];unfold BK;simp[h2]
   subst vJ;exact Aw Ab Ab (Ik g1 g2 h1 h2)
 ·have g1:(s.size:Int)<1:=by omega
  have vJ:R=false:=by rw[hR];unfold BK;simp[h1]
  subst vJ;exact Aw Ab Ab (Ar g1 h1)
def Dd (k:Int) (s:ByteArray):Bool:=if k=2 then BK s&&HZ Yx s else BK s&&HZ Yz s
abbrev BL (k:Int) (s:ByteArray) (n:Int):List DVal:=[.int .i64 k,.str s,.int .i64 n]
def Xx : Ann:=⟨[],[]⟩
theorem Wd (k:Int) (hk:k=2\/k=3) (s:ByteArray):Ae prog 156 [.agg (BL k s 0)] (.bool (Dd k s)):=by
 refine Ac [] Xx func156 call156 ntmps156 mxd (Ar @Xx.eq_1 results156) rfl (fun qJ B qX qQ=> ?_);simp only[Ak];have e1:=EH 200 Yx Gr s;have e2:=EH 201 Yz Gy s;unfold Dd
 rcases hk with rfl | rfl
 ·exact Aw (Ar e1 e2) Ab (AJ @BL.eq_1)
 ·exact Aw (Ar e1 e2) Ab (AJ @BL.eq_1)
def Xy : Ann:=⟨[],[⟨4,[5],[],[]⟩]⟩
theorem QU (k:Int) (hk:k=2\/k=3) (s:ByteArray):Ae prog 103 [.sl 3 32 [BL k s 0]] (.bool (Dd k s)):=by
 refine Ac [] Xy func103 call103 ntmps103 mxd (Ar @Xy.eq_1 results103) rfl (fun qJ B qX qQ=> ?_);simp only[Ak];have e1:=Wd k hk s;obtain⟨R,hR⟩:∃R,R=Dd k s:=⟨_,rfl⟩;rw[<-hR]at e1 |-
 (refine AX Ab Ab (AJ @BL.eq_1) ?_;intros;refine Am ?_)
 refine Al (X:={k:Nat//k=0\/k=1/\R=true}) (fun x=>⟨[(0,.sl 3 32 [BL k s 0]),(3,.int .i64 (1-x.1)),(6,.sl 3 32 [BL k s 0]),(7,.int .i64 1),(8,.int .i64 x.1)],[]⟩) (fun x=>1-x.1) ⟨0,.inl rfl⟩ (Sub.lit (by simp[BL])) ?_;rintro⟨x,rfl | ⟨rfl,rfl⟩⟩
 ·simp only[BL]at e1;cases R
  ·exact Aw (AJ e1) Ab (AJ @BL.eq_1)
  ·(refine AX (AJ e1) Ab (AJ @BL.eq_1) ?_;intros;refine Am ?_)
   refine An.mk ⟨1,.inr ⟨rfl,rfl⟩⟩ (Sub.lit (by simp[BL])) (by simp)
   skip
 ·exact Aw Ab Ab (AJ @BL.eq_1)
end Go.Proofs.Wy
end
section
namespace Go.Proofs.Wy
open Go Go.Dm Tryz
variable [DMode]
structure Nd where
 k:Int
 s:ByteArray
 n:Int
 deriving DecidableEq
def BM (x:Nd):List DVal:=[.int .i64 x.k,.str x.s,.int .i64 x.n]
abbrev Bl (l:List Nd):DVal:= .sl 3 32 (l.map BM)
structure Rul where
 h:ByteArray
 b:List Nd
 deriving DecidableEq
def BB (r:Rul):List DVal:=[.str r.h,Bl r.b]
abbrev AB (l:List Rul):DVal:= .sl 2 40 (l.map BB)
@[simp] theorem Ee_ (s:Nd):AH (BM s)=0:=by simp[BM,AH,mx]
@[simp] theorem FT_ (l:List Nd):Bo (l.map BM)=0:=Ie _ Ee_ l
@[simp] theorem CH_ (s:Rul):AH (BB s)=0:=by simp[BB,AH,mx]
@[simp] theorem Fn_ (l:List Rul):Bo (l.map BB)=0:=Ie _ CH_ l
theorem Oq {l:List Nd} (h:EX (Bl l)):l.length<9223372036854775807:=by
 simp only[EX,aO0]at h;omega
theorem II {l:List Rul} (h:EX (AB l)):l.length<9223372036854775807:=by
 simp only[EX,aO0]at h;omega
def YD (s:ByteArray):Bool:=decide (s=⟨#[]⟩)
def DA (x:Nd):Bool :=
 if x.k=1 then YD x.s&&decide (x.n=0)
 else if x.k=2 then decide (x.n=0)&&(BK x.s&&HZ Yx x.s)
 else if x.k=3 then decide (x.n=0)&&(BK x.s&&HZ Yz x.s)
 else if x.k=4 then YD x.s&&decide (2<=x.n)
 else if x.k=5 then YD x.s&&decide (2<=x.n)
 else if x.k=6 then YD x.s&&decide (x.n=1)
 else if x.k=7 then YD x.s&&decide (x.n=1)
 else if x.k=8 then YD x.s&&decide (x.n=1)
 else false
theorem GV {x:Nd} (h:DA x=true):0<=x.n:=by
 unfold DA at h
 repeat' split at h
 all_goals simp only[aN0,decide_eq_true_eq,bH0]at h
 all_goals first | omega | (exact absurd h (by simp)) | (obtain⟨h1,h2⟩:=h;omega)
theorem MD {x:Nd} (h:DA x=true):x.k=1\/x.k=2\/x.k=3\/x.k=4\/x.k=5\/x.k=6\/x.k=7\/x.k=8:=by
 unfold DA at h
 repeat' split at h
 all_goals first | omega | (exact absurd h (by simp))
theorem MB {x:Nd} (h:DA x=true):x.s.size<=16:=by
 have hn:∀s,BK s=true->s.size<=16:=fun s hs=>by unfold BK at hs;simp only[aN0,decide_eq_true_eq]at hs;exact hs.1.2
 have he:∀s,YD s=true->s.size<=16:=fun s hs=>by unfold YD at hs;simp only[decide_eq_true_eq]at hs;subst hs;decide
 unfold DA at h
 repeat' split at h
 all_goals simp only[aN0,decide_eq_true_eq,bH0]at h
 all_goals first | exact he _ h.1 | exact hn _ h.2.1 | (exact absurd h (by simp))
inductive RT where
 | mk (x:Nd) (ks:List RT)
def RT.x : RT->Nd
 | .mk x _=>x
def RT.ks : RT->List RT
 | .mk _ ks=>ks
mutual
def flat : RT->List Nd
 | .mk x ks=>x::Ah ks
def Ah : List RT->List Nd
 | []=>[]
 | t::ts=>flat t++Ah ts
end
mutual
def EZ : RT->Bool
 | .mk x ks=>DA x&&(decide (x.n=(ks.length:Int))&&Fs ks)
def Fs : List RT->Bool
 | []=>true
 | t::ts=>EZ t&&Fs ts
end
theorem Cx {x:Nd} {ks:List RT} (h:EZ (.mk x ks)=true):DA x=true/\x.n=(ks.length:Int)/\Fs ks=true:=by
 unfold EZ at h;simp only[aN0,decide_eq_true_eq]at h;exact h
theorem Ck {t:RT} {ts:List RT} (h:Fs (t::ts)=true):EZ t=true/\Fs ts=true:=by
 unfold Fs at h;simp only[aN0]at h;exact h
theorem Oj {ts:List RT} (h:Fs ts=true):∀t∈ts,EZ t=true:=by
 induction ts with
 | nil=>simp
 | cons t ts ih =>
  obtain⟨h1,h2⟩:=Ck h;intro u hu
  rcases aJ0.1 hu with rfl | hu
  ·exact h1
  ·exact ih h2 u hu
theorem Ol : ∀(a b:List RT),Fs (a++b)=(Fs a&&Fs b)
 | [],b=>by simp[Fs]
 | t::a,b=>by simp[Fs,Ol a b,Bool.and_assoc]
theorem EC : ∀(a b:List RT),Ah (a++b)=Ah a++Ah b
 | [],b=>by simp[Ah]
 | t::a,b=>by simp[Ah,EC a b]
theorem FO (t:RT):1<=(flat t).length:=by cases t;simp[flat]
theorem AR (x:Nd) (ks:List RT):flat (.mk x ks)=x::Ah ks:=by rw[flat]
theorem Aq (t:RT) (ts:List RT):Ah (t::ts)=flat t++Ah ts:=by rw[Ah]
def Eo : List Nd->Nat->Option (List Nd)
 | l,0=>some l
 | [],_+1=>none
 | x::l,w+1=>if DA x then Eo l (w+x.n.toNat)else none
theorem Ch (l:List Nd):Eo l 0=some l:=by unfold Eo;cases l<;>rfl
theorem Hg (w:Nat):Eo [] (w+1)=none:=by unfold Eo;rfl
theorem Ds (x:Nd) (l:List Nd) (w:Nat):Eo (x::l) (w+1)=if DA x then Eo l (w+x.n.toNat)else none:=by rw[Eo]
mutual
theorem Fv : ∀(t:RT) (r:List Nd) (w:Nat),EZ t=true->Eo (flat t++r) (w+1)=Eo r w
 | .mk x ks,r,w,h=>by
  obtain⟨h1,h2,h3⟩:=Cx h;rw[AR,List.cons_append,Ds,if_pos h1,h2,dD0];exact Qg ks r w h3
theorem Qg : ∀(ts:List RT) (r:List Nd) (w:Nat),Fs ts=true->Eo (Ah ts++r) (w+ts.length)=Eo r w
 | [],r,w,h=>by simp[Ah]
 | t::ts,r,w,h=>by
  obtain⟨h1,h2⟩:=Ck h;rw[Aq,aT0,List.length_cons,<-cR0,Fv t _ _ h1,Qg ts r w h2]
end
theorem sU : ∀(l:List Nd) (w:Nat) (r:List Nd),Eo l w=some r->∃ts:List RT,ts.length=w/\Fs ts=true/\l=Ah ts++r:=by
 intro l
 induction l with
 | nil =>
  intro w r h
  cases w with
  | zero=>rw[Ch]at h;simp only[aA0]at h;exact⟨[],rfl,rfl,by simp[Ah,h]⟩
  | succ w=>rw[Hg]at h;simp at h
 | cons x l ih =>
  intro w r h
  cases w with
  | zero=>rw[Ch]at h;simp only[aA0]at h;exact⟨[],rfl,rfl,by simp[Ah,h]⟩
  | succ w =>
   rw[Ds]at h
   split at h
   ·rename_i hm;obtain⟨ts,h1,h2,rfl⟩:=ih _ _ h;have hk:=GV hm;refine⟨.mk x (ts.take x.n.toNat)::ts.drop x.n.toNat,by simp;omega,?_,?_⟩
    ·have h3:=Ol (ts.take x.n.toNat) (ts.drop x.n.toNat);rw[List.take_append_drop,h2]at h3;have h4:Fs (ts.take x.n.toNat)=true/\Fs (ts.drop x.n.toNat)=true:=by simpa using h3.symm
     have h5:x.n=((ts.take x.n.toNat).length:Int):=by rw[bD0];omega
     unfold Fs EZ;rw[hm,decide_eq_true h5,h4.1,h4.2];rfl
    ·rw[Aq,AR,List.cons_append,List.cons_append,aT0,<-aT0 (Ah _),<-EC,List.take_append_drop]
   ·simp at h
theorem Qh : ∀(l:List Nd) (w:Nat),l.length<w->Eo l w=none
 | _,0,h=>by omega
 | [],w+1,_=>Hg w
 | x::l,w+1,h=>by
  rw[Ds]
  split
  ·exact Qh l _ (by simp at h;omega)
  ·rfl
def CT (l:List Nd):Bool:=match Eo l 1 with
 | some []=>true
 | _=>false
theorem Kh {l:List Nd} (h:CT l=true):∃t,EZ t=true/\l=flat t:=by
 unfold CT at h
 split at h
 ·rename_i he;obtain⟨ts,h1,h2,h3⟩:=sU _ _ _ he
  match ts,h1,h2,h3 with
  | [t],_,h2,h3 =>
   refine⟨t,(Ck h2).1,?_⟩;rw[h3,Aq];simp[Ah]
 ·simp at h
theorem Ev {t:RT} (h:EZ t=true):CT (flat t)=true:=by
 unfold CT;have:=Fv t [] 0 h;rw[bX0,Ch]at this;rw[this]
theorem eI {t:RT} (h:EZ t=true):∀x∈flat t,DA x=true:=by
 have key:∀(l:List Nd) (w:Nat) (r:List Nd),Eo l w=some r->∀x∈l,x∈r\/DA x=true:=by
  intro l
  induction l with
  | nil=>intro w r _ x hx;simp at hx
  | cons y l ih =>
   intro w r he x hx
   cases w with
   | zero=>rw[Ch]at he;simp only[aA0]at he;subst he;exact .inl hx
   | succ w =>
    rw[Ds]at he
    split at he
    ·rename_i hm
     rcases aJ0.1 hx with rfl | hx
     ·exact .inr hm
     ·exact ih _ _ he x hx
    ·simp at he
 intro x hx;have:=Fv t [] 0 h;rw[bX0,Ch]at this
 rcases key _ _ _ this x hx with h | h
 ·simp at h
 ·exact h
theorem EB : ∀ts:List RT,ts.length<=(Ah ts).length
 | []=>by simp
 | t::ts=>by
  have:=EB ts;have:=FO t;rw[Aq];simp;omega
mutual
theorem PJ : ∀(t:RT),EZ t=true->∀x∈flat t,x.n<=((flat t).length:Int)
 | .mk y ks,h,x,hx=>by
  obtain⟨h1,h2,h3⟩:=Cx h;have:=EB ks;rw[AR]at hx |-;rw[List.length_cons]
  rcases aJ0.1 hx with rfl | hx
  ·omega
  ·have:=Wr ks h3 x hx;omega
theorem Wr : ∀(ts:List RT),Fs ts=true->∀x∈Ah ts,x.n<=((Ah ts).length:Int)
 | [],_,x,hx=>by simp[Ah]at hx
 | t::ts,h,x,hx=>by
  obtain⟨h1,h2⟩:=Ck h;rw[Aq]at hx |-;rw[aB0]
  rcases aI0.1 hx with hx | hx
  ·have:=PJ t h1 x hx;omega
  ·have:=Wr ts h2 x hx;omega
end
mutual
def Ih : RT->Nat
 | .mk _ ks=>Rt ks+1
def Rt : List RT->Nat
 | []=>0
 | t::ts=>max (Ih t) (Rt ts)
end
theorem Ug (x:Nd) (ks:List RT):Ih (.mk x ks)=Rt ks+1:=by rw[Ih]
theorem GZ (t:RT) (ts:List RT):Rt (t::ts)=max (Ih t) (Rt ts):=by rw[Rt]
theorem Lw : Rt []=0:=by rw[Rt]
def fin : List Nat->List Nat
 | []=>[]
 | c::s=>if c=1 then fin s else (c-1)::s
def Gj (p:List Nat×Nat) (x:Nd):List Nat×Nat:=(if x.n.toNat=0 then fin p.1 else x.n.toNat::p.1,max p.2 (p.1.length+1))
mutual
theorem Ky : ∀(t:RT) (s:List Nat) (m:Nat),EZ t=true->(flat t).foldl Gj (s,m)=(fin s,max m (s.length+Ih t))
 | .mk x ks,s,m,h=>by
  obtain⟨h1,h2,h3⟩:=Cx h;rw[AR,cQ0,Ug];unfold Gj;rw[h2,dD0]
  cases ks with
  | nil=>simp[Ah,Lw]
  | cons t ts =>
   have:=Nm (t::ts) s (max m (s.length+1)) h3 (by simp);simp only[List.length_cons]at this |-;rw[if_neg (by omega)];unfold Gj at this;rw[this]
   congr 1
   omega
theorem Nm : ∀(ts:List RT) (s:List Nat) (m:Nat),Fs ts=true->ts≠[]->(Ah ts).foldl Gj (ts.length::s,m)=(fin s,max m (s.length+1+Rt ts))
 | [],s,m,h,qE=>absurd rfl qE
 | [t],s,m,h,qE=>by
  obtain⟨h1,h2⟩:=Ck h;have:=Ky t (1::s) m h1;rw[Aq,dC0];simp only[List.length_cons,List.length_nil,bN0]at this |-;rw[this,GZ,Lw];simp[Ah,fin]
 | t::u::r,s,m,h,qE=>by
  obtain⟨h1,h2⟩:=Ck h;have h3:=Ky t (((u::r).length+1)::s) m h1;have h4:=Nm (u::r) s (max m (s.length+1+Ih t)) h2 (by simp);rw[Aq,dC0,List.length_cons,h3]
  have e:fin (((u::r).length+1)::s)=(u::r).length::s:=by
   simp only[fin];rw[if_neg (by simp)];simp
  rw[e];have e2:max m ((((u::r).length+1)::s).length+Ih t)=max m (s.length+1+Ih t):=by rw[List.length_cons]
  rw[e2,h4,GZ t]
  congr 1
  omega
end
theorem IP {t:RT} (h:EZ t=true):(flat t).foldl Gj ([],0)=([],Ih t):=by
 rw[Ky t [] 0 h];simp[fin]
def xL : List Nat->List Nat
 | []=>[]
 | c::s=>if c=0 then fin s else c::s
def FX (s:List Nat):Prop:=∀c∈s,1<=c/\c<=1572864
theorem pP {c:Nat} {s:List Nat} (h:1<=c):xL ((c-1)::s)=fin (c::s):=by
 rw[show xL ((c-1)::s)=if c-1=0 then fin s else (c-1)::s from rfl,show fin (c::s)=if c=1 then fin s else (c-1)::s from rfl]
 by_cases h1:c=1
 ·rw[if_pos (by omega),if_pos h1]
 ·rw[if_neg (by omega),if_neg h1]
theorem iD : ∀s:List Nat,(fin s).length<=s.length
 | []=>by simp[fin]
 | c::s=>by
  unfold fin
  split
  ·have:=iD s;simp;omega
  ·simp
theorem iC : ∀{s:List Nat},FX s->FX (fin s)
 | [],_=>by intro c hc;simp[fin]at hc
 | c::s,h=>by
  unfold fin
  split
  ·exact iC fun d hd=>h d (aF0 _ hd)
  ·intro d hd;have hc:=h c aH0
   rcases aJ0.1 hd with rfl | hd
   ·omega
   ·exact h d (aF0 _ hd)
theorem sJ (p:List Nat×Nat) (x:Nd):(Gj p x).1.length<=p.1.length+1:=by
 unfold Gj;simp only
 split
 ·have:=iD p.1;omega
 ·simp
theorem sI {p:List Nat×Nat} (x:Nd) (hx:x.n.toNat<=1572864) (h:FX p.1):FX (Gj p x).1:=by
 unfold Gj;simp only
 split
 ·exact iC h
 ·intro d hd
  rcases aJ0.1 hd with rfl | hd
  ·omega
  ·exact h d hd
theorem pQ (c:Nat) (s:List Nat):xL (c::s)=if c=0 then fin s else c::s:=rfl
def HM (s:List Nat):List (List DVal):=(s.map fun c:Nat=>[DVal.int .i64 (c:Int)]).reverse
theorem Eg (s:List Nat):(HM s).length=s.length:=by simp[HM]
theorem Hi (c:Nat) (s:List Nat):HM (c::s)=HM s++[[.int .i64 (c:Int)]]:=by simp[HM]
theorem CP : HM []=[]:=rfl
@[simp] theorem FR_ (s:List Nat):Bo (HM s)=0:=by
 unfold HM
 exact Nat.le_zero.1 (Oo fun d hd=>by
  obtain⟨c,_,rfl⟩:=aR0.1 (List.mem_reverse.1 hd)
  simp[AH,mx])
theorem WV (c:Nat) (s:List Nat):(HM (c::s))[s.length]? =some [.int .i64 (c:Int)]:=by
 rw[Hi,aX0 (by rw[Eg];omega),Eg,eH0];rfl
theorem sY (c:Nat) (s:List Nat):(HM (c::s)).take s.length=HM s:=by
 rw[Hi,eB0 (by rw[Eg];omega),cE0 (by rw[Eg];omega)]
theorem Bb_ (c d:Nat) (s:List Nat):(HM (c::s)).set s.length [.int .i64 (d:Int)]=HM (d::s):=by
 rw[Hi,Hi,List.set_append_right _ _ (by rw[Eg];omega),Eg,eH0];rfl
end Go.Proofs.Wy
end
