/- Parts of a proof, laid together: WA, WB2, WB1, WR1, RN, RH. -/
import Derived.Test.YtiojapdolljocaaGreatqMx15
set_option linter.unusedSimpArgs false
set_option maxHeartbeats 8000000
set_option linter.unusedVariables false
set_option linter.unusedSectionVars false
section
namespace Go.Proofs.Wy
open Go Go.Dm Tryz
variable [DMode]
instance : LawfulBEq ByteArray where
 eq_of_beq {a b} h:=by
  rw[<-ML]at h;have h:=eq_of_beq h;cases a;cases b;simp only at h;rw[h]
 rfl {a}:=by rw[<-ML];exact beq_self_eq_true _
structure Edge where
 fr:ByteArray
 lb:ByteArray
 to:ByteArray
 deriving DecidableEq
structure Edges where
 nodes:List ByteArray
 edges:List Edge
 deriving DecidableEq
def AH (s:ByteArray):List DVal:=[.str s]
def sR (e:Edge):List DVal:=[.str e.fr,.str e.lb,.str e.to]
abbrev Bv (l:List ByteArray):DVal:= .sl 1 16 (l.map AH)
abbrev Jb_ (l:List Edge):DVal:= .sl 3 48 (l.map sR)
def dGr (g:Edges):List DVal:=[Bv g.nodes,Jb_ g.edges]
@[simp] theorem Fp_ (s:ByteArray):AL (AH s)=0:=by simp[AH,AL,mx]
@[simp] theorem CQ_ (s:Edge):AL (sR s)=0:=by simp[sR,AL,mx]
@[simp] theorem HM_ (l:List ByteArray):Bp (l.map AH)=0:=HT _ Fp_ l
@[simp] theorem Ix_ (l:List Edge):Bp (l.map sR)=0:=HT _ CQ_ l
@[simp] theorem IO_ (g:Edges):AL (dGr g)=0:=by simp[dGr,AL,mx]
def CO (a b:ByteArray):Bool:=Op.bytesLess a.data.toList b.data.toList
theorem Ej_ : ∀l:List UInt8,Op.bytesLess l l=false
 | []=>rfl
 | a::l=>by simp[Op.bytesLess,Ej_ l]
theorem YE : ∀{a b c:List UInt8},Op.bytesLess a b=true->Op.bytesLess b c=true->Op.bytesLess a c=true
 | _,[],_,h,_=>by cases ‹List UInt8› <;>simp[Op.bytesLess]at h
 | _,_::_,[],_,h=>by simp[Op.bytesLess]at h
 | [],_::_,_::_,_,_=>by simp[Op.bytesLess]
 | x::a,y::b,z::c,h1,h2=>by
  simp only[Op.bytesLess,cU0,aJ0,decide_eq_true_eq,beq_iff_eq]at h1 h2 |-
  rcases h1 with h1 | ⟨rfl,h1⟩
  ·rcases h2 with h2 | ⟨rfl,h2⟩
   ·exact .inl (UInt8.lt_trans h1 h2)
   ·exact .inl h1
  ·rcases h2 with h2 | ⟨rfl,h2⟩
   ·exact .inl h2
   ·exact .inr ⟨rfl,YE h1 h2⟩
theorem Ei_ : ∀{a b:List UInt8},Op.bytesLess a b=false->Op.bytesLess b a=false->a=b
 | [],[],_,_=>rfl
 | [],_::_,h,_=>by simp[Op.bytesLess]at h
 | _::_,[],_,h=>by simp[Op.bytesLess]at h
 | x::a,y::b,h1,h2=>by
  simp only[Op.bytesLess,Bool.or_eq_false_iff,Bool.and_eq_false_iff,decide_eq_false_iff_not,beq_eq_false_iff_ne]at h1 h2;have bG:x=y:=UInt8.le_antisymm (UInt8.not_lt.1 h2.1) (UInt8.not_lt.1 h1.1);subst bG;rw[Ei_ (h1.2.resolve_left (by simp)) (h2.2.resolve_left (by simp))]
theorem EX (a:ByteArray):CO a a=false:=Ej_ _
theorem Jv {a b c:ByteArray} (h1:CO a b=true) (h2:CO b c=true):CO a c=true:=YE h1 h2
theorem Ik {a b:ByteArray} (h:a.data.toList=b.data.toList):a=b:=by
 obtain⟨⟨x⟩⟩:=a;obtain⟨⟨y⟩⟩:=b;simp only at h;subst h;rfl
theorem Kn {a b:ByteArray} (h1:CO a b=false) (h2:CO b a=false):a=b:=Ik (Ei_ h1 h2)
theorem Qk {a b:ByteArray} (h:CO a b=true):CO b a=false:=by
 cases hb:CO b a
 ·rfl
 ·have:=Jv h hb;rw[EX]at this;simp at this
theorem Cm_ {a b:ByteArray} (h:CO a b=true):a≠b:=fun e=>by subst e;rw[EX]at h;simp at h
def Ny (a b:ByteArray):Int:=if CO a b then -1 else if CO b a then 1 else 0
theorem xP {a b:ByteArray}:Ny a b=0↔a=b:=by
 unfold Ny
 constructor
 ·intro h
  split at h
  ·simp at h
  ·split at h
   ·simp at h
   ·rename_i h1 h2;exact Kn (by simpa using h1) (by simpa using h2)
 ·rintro rfl;rw[EX];simp
theorem Gi {a b:ByteArray}:Ny a b<0↔CO a b=true:=by
 unfold Ny
 split
 ·simp_all
 ·split<;>simp_all
end Go.Proofs.Wy
end
section
namespace Go.Proofs.Wy
open Go Go.Dm Tryz
variable [DMode]
attribute [local irreducible] DW Bs Bt
set_option maxRecDepth 100000
def Ee (l:List ByteArray) (s:ByteArray):Int:=if l.any (fun x=>s==x)then ((l.findIdx fun x=>s==x:Nat):Int)else -1
theorem Ou {l:List ByteArray} {s:ByteArray} {k:Nat} (hk:k<l.length) (h:l[k]=s) (vI:∀i x,i<k->l[i]? =some x->(s==x)=false):Ee l s=k:=by
 unfold Ee;have hb:(s==l[k])=true:=by rw[h];exact beq_self_eq_true _
 rw[if_pos (cH0.2 ⟨l[k],bW0 _,hb⟩)]
 congr 1
 rw[List.findIdx_eq hk];exact⟨hb,fun i hi=>vI i _ hi (aE0 (by omega))⟩
theorem Ov {l:List ByteArray} {s:ByteArray} (vI:∀i x,i<l.length->l[i]? =some x->(s==x)=false):Ee l s= -1:=by
 unfold Ee;rw[if_neg];simp only[dU0,eY0];intro x hx;obtain⟨i,hi,rfl⟩:=bX0 hx;rw[vI i _ hi (aE0 hi)]
theorem XU {l:List ByteArray} {s x:ByteArray} {k:Nat} (hx:l[k]? =some x) (hb:(s==x)=false) (vI:∀i x,i<k->l[i]? =some x->(s==x)=false):∀i x,i<k+1->l[i]? =some x->(s==x)=false:=by
 intro i y hi hy
 by_cases mR:i=k
 ·subst mR;rw[hx]at hy;simp only[aA0]at hy;subst hy;exact hb
 ·exact vI i y (by omega) hy
theorem QX {l:List ByteArray} (h:FC (Bv l)):l.length<9223372036854775807:=by
 simp only[FC,aN0]at h;omega
def DX : Ann:=⟨[],[]⟩
theorem Lc (l:List ByteArray) (s:ByteArray):Ae prog 152 [Bv l,.str s] (.int .i64 (Ee l s)):=by
 refine Ac [] DX func152 call152 ntmps152 mxd (Au @DX.eq_1 results152) rfl (fun qJ B qX qQ=> ?_);have qU:=QX qJ.1;clear qJ;simp only[Am];obtain⟨R,hR⟩:∃R,R=Ee l s:=⟨_,rfl⟩;rw[<-hR]
 (repeat (first | refine AJ fun K hK=> ?_ | (refine BV DX mxd (by kernel_rfl) ?_;simp[DX,qX];try simp (disch:=omega) only[Al]) | refine Aq ?_ | (refine Bi ?_ ?_ ?_;(· (simp[qX];done));(try (rotate_left;(· (intro hc;(try simp[qX]at hc);done))))) | (refine AN ?_;simp[results152,qX]) | ((first | refine AB ?_ | refine AA ?_);simp[qX]) | (intro hc;(try simp[qX]at hc);(try (exfalso;omega))) | (refine⟨?_,?_⟩; · omega) | omega | apply_assumption -exfalso -symm | (exfalso;omega)))
 refine Ai (X:={k:Nat//k<=l.length/\∀i x,i<k->l[i]? =some x->(s==x)=false}) (fun x=>⟨[(0,Bv l),(1,.str s),(7,.int .i64 l.length),(8,.int .i64 x.1)],[]⟩) (fun x=>l.length-x.1) ⟨0,by simp⟩ (Sub.lit (by simp)) ?_;rintro⟨k,hk,vI⟩
 by_cases qV:k<l.length
 ·obtain⟨x,hx,qA,vO⟩:=Ao qV;cases hb:s==x
  ·(repeat (first | refine AJ fun K hK=> ?_ | (refine BV DX mxd (by kernel_rfl) ?_;simp[DX,qX,AH,qV,qA,hx,hb];try simp (disch:=omega) only[Al]) | refine Aq ?_ | (refine Bi ?_ ?_ ?_;(· (simp[qX,AH,qV,qA,hx,hb];done));(try (rotate_left;(· (intro hc;(try simp[qX,AH,qV,qA,hx,hb]at hc);done))))) | (refine AN ?_;simp[results152,qX,AH,qV,qA,hx,hb]) | ((first | refine AB ?_ | refine AA ?_);simp[qX,AH,qV,qA,hx,hb]) | (intro hc;(try simp[qX,AH,qV,qA,hx,hb]at hc);(try (exfalso;omega))) | (refine⟨?_,?_⟩; · omega) | omega | apply_assumption -exfalso -symm | (exfalso;omega)))
   exact Aj.mk ⟨k+1,by omega,XU hx hb vI⟩ (Sub.lit (by simp[])) (by simp;omega)
   skip
  ·have pY:R=k:=by rw[hR];exact Ou qV (by rw[qA];exact(by simpa using hb:s=x).symm) vI
   subst pY
   (repeat (first | refine AJ fun K hK=> ?_ | (refine BV DX mxd (by kernel_rfl) ?_;simp[DX,qX,AH,qV,qA,hx,hb];try simp (disch:=omega) only[Al]) | refine Aq ?_ | (refine Bi ?_ ?_ ?_;(· (simp[qX,AH,qV,qA,hx,hb];done));(try (rotate_left;(· (intro hc;(try simp[qX,AH,qV,qA,hx,hb]at hc);done))))) | (refine AN ?_;simp[results152,qX,AH,qV,qA,hx,hb]) | ((first | refine AB ?_ | refine AA ?_);simp[qX,AH,qV,qA,hx,hb]) | (intro hc;(try simp[qX,AH,qV,qA,hx,hb]at hc);(try (exfalso;omega))) | (refine⟨?_,?_⟩; · omega) | omega | apply_assumption -exfalso -symm | (exfalso;omega)))
 ·have qZ:k=l.length:=by omega
  subst qZ;have pY:R= -1:=by rw[hR];exact Ov vI
  subst pY
  (repeat (first | refine AJ fun K hK=> ?_ | (refine BV DX mxd (by kernel_rfl) ?_;simp[DX,qX];try simp (disch:=omega) only[Al]) | refine Aq ?_ | (refine Bi ?_ ?_ ?_;(· (simp[qX];done));(try (rotate_left;(· (intro hc;(try simp[qX]at hc);done))))) | (refine AN ?_;simp[results152,qX]) | ((first | refine AB ?_ | refine AA ?_);simp[qX]) | (intro hc;(try simp[qX]at hc);(try (exfalso;omega))) | (refine⟨?_,?_⟩; · omega) | omega | apply_assumption -exfalso -symm | (exfalso;omega)))
def PL : Ann:=⟨[],[]⟩
theorem Oa (l:List ByteArray) (s:ByteArray):Ae prog 98 [Bv l,.str s] (.bool (decide (0<=Ee l s))):=by
 refine Ac [] PL func98 call98 ntmps98 mxd (Au @PL.eq_1 results98) rfl (fun qJ B qX qQ=> ?_);simp only[Am]
 (repeat (first | refine AJ fun K hK=> ?_ | (refine BV PL mxd (by kernel_rfl) ?_;simp[PL,qX];try simp (disch:=omega) only[Al]) | refine Aq ?_ | (refine Bi ?_ ?_ ?_;(· (simp[qX];done));(try (rotate_left;(· (intro hc;(try simp[qX]at hc);done))))) | (refine AN ?_;simp[results98,qX]) | ((first | refine AB ?_ | refine AA ?_);simp[qX]) | (intro hc;(try simp[qX]at hc);(try (exfalso;omega))) | ((first | refine Ag (Lc l s) ?_ | (refine Af (Lc l s) ?_ ?_;(· (simp;done))));try simp[qX]) | (refine⟨?_,?_⟩; · omega) | omega | apply_assumption -exfalso -symm | (exfalso;omega)))
def XI (n:Int):Bool:=(decide (97<=n)&&decide (n<=122))||(decide (65<=n)&&decide (n<=90))||(decide (48<=n)&&decide (n<=57))||n==95
def Db_ (s:ByteArray):Bool:=s.data.toList.all fun b=>XI (b.toNat:Int)
def BQ (s:ByteArray):Bool:=decide (1<=s.size)&&decide (s.size<=16)&&Db_ s
theorem CN (s:ByteArray):s.data.toList.length=s.size:=rfl
def aI (n:Int):Bool:=decide (65<=n)&&decide (n<=90)
def aL (n:Int):Bool:=decide (97<=n)&&decide (n<=122)
def YU : Ann:=⟨[],[]⟩
theorem Hn (n:Int):Ae prog 200 [.int .u8 n] (.bool (aI n)):=by
 refine Ac [] YU func200 call200 ntmps200 mxd (Au @YU.eq_1 results200) rfl (fun qJ B qX qQ=> ?_);simp only[Am]
 by_cases h1:65<=n
 ·by_cases h2:n<=90<;>exact Av Ab Ab (CD @aI.eq_1 h1 h2)
 ·exact Av Ab Ab (Au @aI.eq_1 h1)
def YT : Ann:=⟨[],[]⟩
theorem Hx (n:Int):Ae prog 201 [.int .u8 n] (.bool (aL n)):=by
 refine Ac [] YT func201 call201 ntmps201 mxd (Au @YT.eq_1 results201) rfl (fun qJ B qX qQ=> ?_);simp only[Am]
 by_cases h1:97<=n
 ·by_cases h2:n<=122<;>exact Av Ab Ab (CD @aL.eq_1 h1 h2)
 ·exact Av Ab Ab (Au @aL.eq_1 h1)
def YX : Ann:=⟨[],[]⟩
theorem Jw (n:Int):Ae prog 183 [.int .u8 n] (.bool (aI n)):=by
 refine Ac [] YX func183 call183 ntmps183 mxd (Au @YX.eq_1 results183) rfl (fun qJ B qX qQ=> ?_);simp only[Am]
 by_cases h1:65<=n
 ·by_cases h2:n<=90<;>exact Av Ab Ab (CD @aI.eq_1 h1 h2)
 ·exact Av Ab Ab (Au @aI.eq_1 h1)
def YW : Ann:=⟨[],[]⟩
theorem JA (n:Int):Ae prog 184 [.int .u8 n] (.bool (aL n)):=by
 refine Ac [] YW func184 call184 ntmps184 mxd (Au @YW.eq_1 results184) rfl (fun qJ B qX qQ=> ?_);simp only[Am]
 by_cases h1:97<=n
 ·by_cases h2:n<=122<;>exact Av Ab Ab (CD @aL.eq_1 h1 h2)
 ·exact Av Ab Ab (Au @aL.eq_1 h1)
theorem sA (n:Int):XI n=(aI n||aL n||(decide (48<=n)&&decide (n<=57))||n==95):=by
 unfold XI aI aL;cases decide (65<=n)<;>cases decide (n<=90)<;>cases decide (97<=n)<;>cases decide (n<=122)<;>rfl
def YY : Ann:=⟨[],[]⟩
theorem SP (n:Int):Ae prog 182 [.int .u8 n] (.bool (XI n)):=by
 refine Ac [] YY func182 call182 ntmps182 mxd (Au @YY.eq_1 results182) rfl (fun qJ B qX qQ=> ?_);simp only[Am];rw[sA];have e1:=Jw n;have e2:=JA n;cases hU:aI n
 ·rw[hU]at e1;cases hL:aL n
  ·rw[hL]at e2
   by_cases h5:48<=n
   ·by_cases h6:n<=57
    ·exact Av (Au e1 e2) Ab (Au h5 h6)
    ·have h7:n=95\/¬n=95:=by omega
     rcases h7 with h7 | h7
     ·subst h7;exact Av (Au e1 e2) Ab Ab
     ·exact Av (Au e1 e2) Ab (CD h5 h6 h7)
   ·have h7:¬n=95:=by omega
    exact Av (Au e1 e2) Ab (Au h5 h7)
  ·rw[hL]at e2;exact Av (Au e1 e2) Ab Ab
 ·rw[hU]at e1;exact Av (AD e1) Ab Ab
def Jd (q:Int->Bool) (s:ByteArray):Bool:=match s.data.toList with | []=>false | b::_=>q (b.toNat:Int)
theorem XV {q:Int->Bool} {s:ByteArray} {b:UInt8} (hb:s.data.toList[0]? =some b):Jd q s=q (b.toNat:Int):=by
 unfold Jd
 cases hd:s.data.toList with
 | nil=>rw[hd]at hb;simp at hb
 | cons x l=>rw[hd]at hb;simp at hb;subst hb;rfl
def YV : Ann:=⟨[],[]⟩
theorem Fh (g:FuncId) (q:Int->Bool) (hq:∀n,Ae prog g [.int .u8 n] (.bool (q n))) (s:ByteArray):Ae prog 199 [.str s,.fn (.func g) [] []] (.bool (BQ s&&Jd q s)):=by
 refine Ac [] YV func199 call199 ntmps199 mxd (Au @YV.eq_1 results199) rfl (fun qJ B qX qQ=> ?_);have qP:s.size<=9223372036854775807:=by have:=qJ.1;simp only[FC,maxLen]at this;omega
 clear qJ;simp only[Am];obtain⟨R,hR⟩:∃R,R=(BQ s&&Jd q s):=⟨_,rfl⟩;rw[<-hR]
 by_cases h1:1<=s.size
 ·by_cases h2:s.size<=16
  ·have g1:¬(s.size:Int)<1:=by omega
   have g2:¬(16:Int)<s.size:=by omega
   have g0:0<s.size:=by omega
   obtain⟨b0,qR,fM,_⟩:=Ao (show 0<s.data.toList.length by rw[CN];omega);have e0:=hq (b0.toNat:Int);rw[XV qR]at hR;cases hQ:q (b0.toNat:Int)
   ·rw[hQ]at e0 hR;have wX:R=false:=by rw[hR];simp
    subst wX;exact Av (AD e0) Ab (Iw g0 g1 g2 h1 h2 qR fM)
   ·rw[hQ]at e0 hR;simp only[eL0]at hR
    (refine AG (AD e0) Ab (Iw g0 g1 g2 h1 h2 qR fM) ?_;intros;refine Ah ?_)
    refine Ai (X:={k:Nat//k<=s.size/\Db_ s=((s.data.toList.drop k).all fun b=>XI (b.toNat:Int))}) (fun k=>⟨[(0,.str s),(23,.int .i64 s.size),(24,.int .i64 k.1)],[]⟩) (fun k=>s.size-k.1) ⟨0,by simp[Db_]⟩ (Sub.lit (by simp)) ?_;clear e0 qR fM hQ;rintro⟨k,hk,hl⟩
    by_cases qV:k<s.size
    ·obtain⟨b,hb,qM,_⟩:=Ao (show k<s.data.toList.length by rw[CN];exact qV);rw[aS0 (by rw[CN];exact qV),qM,dA0]at hl;have e1:=Hn (b.toNat:Int);have e2:=Hx (b.toNat:Int);obtain⟨L,hLL⟩:∃L,L=XI (b.toNat:Int):=⟨_,rfl⟩;have hLe:=sA (b.toNat:Int);rw[<-hLL]at hl hLe;cases hU:aI (b.toNat:Int)
     ·rw[hU]at e1;cases hV:aL (b.toNat:Int)
      ·rw[hV]at e2
       by_cases h5:(48:Int)<=(b.toNat:Int)
       ·by_cases h6:(b.toNat:Int)<=57
        ·have h7:¬(b.toNat:Int)=95:=by omega
         have cE:L=true:=by rw[hLe];simp[hU,hV,h5,h6]
         rw[cE,cC0]at hl
         (refine AG (Au e1 e2) Ab (Iw qV hb qM hU hV h5 h6) ?_;intros;refine Ah ?_)
         refine Aj.mk ⟨k+1,by omega,hl⟩ (Sub.lit (by simp)) (by simp;omega)
         skip
        ·by_cases h7:(b.toNat:Int)=95
         ·have cE:L=true:=by rw[hLe];simp[hU,hV,h5,h6,h7]
          rw[h7]at e1 e2;rw[cE,cC0]at hl
          (refine AG (Au e1 e2) Ab (KQ qV hb qM hU hV h5 h6 h7) ?_;intros;refine Ah ?_)
          refine Aj.mk ⟨k+1,by omega,hl⟩ (Sub.lit (by simp)) (by simp;omega)
          skip
         ·have cE:L=false:=by rw[hLe];simp[hU,hV,h5,h6,h7]
          rw[cE,cM0]at hl;have wX:R=false:=by rw[hR];unfold BQ;rw[hl];simp
          subst wX;exact Av (Au e1 e2) Ab (KQ qV hb qM hU hV h5 h6 h7)
       ·have h7:¬(b.toNat:Int)=95:=by omega
        have cE:L=false:=by rw[hLe];simp[hU,hV,h5,h7]
        rw[cE,cM0]at hl;have wX:R=false:=by rw[hR];unfold BQ;rw[hl];simp
        subst wX;exact Av (Au e1 e2) Ab (Iw qV hb qM hU hV h5 h7)
      ·rw[hV]at e2;have cE:L=true:=by rw[hLe];simp[hU,hV]
       rw[cE,cC0]at hl
       (refine AG (Au e1 e2) Ab (Jh qV hb qM hU hV) ?_;intros;refine Ah ?_)
       refine Aj.mk ⟨k+1,by omega,hl⟩ (Sub.lit (by simp)) (by simp;omega)
       skip
     ·rw[hU]at e1;have cE:L=true:=by rw[hLe];simp[hU]
      rw[cE,cC0]at hl
      (refine AG (AD e1) Ab (GV qV hb qM hU) ?_;intros;refine Ah ?_)
      refine Aj.mk ⟨k+1,by omega,hl⟩ (Sub.lit (by simp)) (by simp;omega)
      skip
    ·have qZ:k=s.size:=by omega
     subst qZ;rw[<-CN,bT0]at hl;have wX:R=true:=by rw[hR];unfold BQ;rw[hl];simp[h1,h2]
     subst wX;exact Av Ab Ab Ab
  ·have g1:¬(s.size:Int)<1:=by omega
   have g2:(16:Int)<s.size:=by omega
   have wX:R=false:=by rw[hR];unfold BQ;simp[h2]
   subst wX;exact Av Ab Ab (GV g1 g2 h1 h2)
 ·have g1:(s.size:Int)<1:=by omega
  have wX:R=false:=by rw[hR];unfold BQ;simp[h1]
  subst wX;exact Av Ab Ab (Au g1 h1)
def Dn (k:Int) (s:ByteArray):Bool:=if k=2 then BQ s&&Jd aI s else BQ s&&Jd aL s
abbrev BS (k:Int) (s:ByteArray) (n:Int):List DVal:=[.int .i64 k,.str s,.int .i64 n]
def YZ : Ann:=⟨[],[]⟩
theorem XD (k:Int) (hk:k=2\/k=3) (s:ByteArray):Ae prog 156 [.agg (BS k s 0)] (.bool (Dn k s)):=by
 refine Ac [] YZ func156 call156 ntmps156 mxd (Au @YZ.eq_1 results156) rfl (fun qJ B qX qQ=> ?_);simp only[Am];have e1:=Fh 200 aI Hn s;have e2:=Fh 201 aL Hx s;unfold Dn
 rcases hk with rfl | rfl
 ·exact Av (Au e1 e2) Ab (AD @BS.eq_1)
 ·exact Av (Au e1 e2) Ab (AD @BS.eq_1)
def Za : Ann:=⟨[],[⟨4,[5],[],[]⟩]⟩
theorem Su (k:Int) (hk:k=2\/k=3) (s:ByteArray):Ae prog 103 [.sl 3 32 [BS k s 0]] (.bool (Dn k s)):=by
 refine Ac [] Za func103 call103 ntmps103 mxd (Au @Za.eq_1 results103) rfl (fun qJ B qX qQ=> ?_);simp only[Am];have e1:=XD k hk s;obtain⟨R,hR⟩:∃R,R=Dn k s:=⟨_,rfl⟩;rw[<-hR]at e1 |-
 (refine AG Ab Ab (AD @BS.eq_1) ?_;intros;refine Ah ?_)
 refine Ai (X:={k:Nat//k=0\/k=1/\R=true}) (fun x=>⟨[(0,.sl 3 32 [BS k s 0]),(3,.int .i64 (1-x.1)),(6,.sl 3 32 [BS k s 0]),(7,.int .i64 1),(8,.int .i64 x.1)],[]⟩) (fun x=>1-x.1) ⟨0,.inl rfl⟩ (Sub.lit (by simp[BS])) ?_;rintro⟨x,rfl | ⟨rfl,rfl⟩⟩
 ·simp only[BS]at e1;cases R
  ·exact Av (AD e1) Ab (AD @BS.eq_1)
  ·(refine AG (AD e1) Ab (AD @BS.eq_1) ?_;intros;refine Ah ?_)
   refine Aj.mk ⟨1,.inr ⟨rfl,rfl⟩⟩ (Sub.lit (by simp[BS])) (by simp)
   skip
 ·exact Av Ab Ab (AD @BS.eq_1)
end Go.Proofs.Wy
end
section
namespace Go.Proofs.Wy
open Go Go.Dm Tryz
variable [DMode]
structure Nd where
 k:Int
 s:ByteArray
 n:Int
 deriving DecidableEq
def Bq (x:Nd):List DVal:=[.int .i64 x.k,.str x.s,.int .i64 x.n]
abbrev AU (l:List Nd):DVal:= .sl 3 32 (l.map Bq)
structure Rul where
 h:ByteArray
 b:List Nd
 deriving DecidableEq
def BD (r:Rul):List DVal:=[.str r.h,AU r.b]
abbrev Ar (l:List Rul):DVal:= .sl 2 40 (l.map BD)
@[simp] theorem GF_ (s:Nd):AL (Bq s)=0:=by simp[Bq,AL,mx]
@[simp] theorem Iw_ (l:List Nd):Bp (l.map Bq)=0:=HT _ GF_ l
@[simp] theorem Fq_ (s:Rul):AL (BD s)=0:=by simp[BD,AL,mx]
@[simp] theorem HN_ (l:List Rul):Bp (l.map BD)=0:=HT _ Fq_ l
theorem Pz {l:List Nd} (h:FC (AU l)):l.length<9223372036854775807:=by
 simp only[FC,aN0]at h;omega
theorem JJ {l:List Rul} (h:FC (Ar l)):l.length<9223372036854775807:=by
 simp only[FC,aN0]at h;omega
def aN (s:ByteArray):Bool:=decide (s=⟨#[]⟩)
def DO (x:Nd):Bool :=
 if x.k=1 then aN x.s&&decide (x.n=0)
 else if x.k=2 then decide (x.n=0)&&(BQ x.s&&Jd aI x.s)
 else if x.k=3 then decide (x.n=0)&&(BQ x.s&&Jd aL x.s)
 else if x.k=4 then aN x.s&&decide (2<=x.n)
 else if x.k=5 then aN x.s&&decide (2<=x.n)
 else if x.k=6 then aN x.s&&decide (x.n=1)
 else if x.k=7 then aN x.s&&decide (x.n=1)
 else if x.k=8 then aN x.s&&decide (x.n=1)
 else false
theorem HU {x:Nd} (h:DO x=true):0<=x.n:=by
 unfold DO at h
 repeat' split at h
 all_goals simp only[aJ0,decide_eq_true_eq,aR0]at h
 all_goals first | omega | (exact absurd h (by simp)) | (obtain⟨h1,h2⟩:=h;omega)
theorem Kv {x:Nd} (h:DO x=true):x.k=1\/x.k=2\/x.k=3\/x.k=4\/x.k=5\/x.k=6\/x.k=7\/x.k=8:=by
 unfold DO at h
 repeat' split at h
 all_goals first | omega | (exact absurd h (by simp))
theorem NM {x:Nd} (h:DO x=true):x.s.size<=16:=by
 have hn:∀s,BQ s=true->s.size<=16:=fun s hs=>by unfold BQ at hs;simp only[aJ0,decide_eq_true_eq]at hs;exact hs.1.2
 have he:∀s,aN s=true->s.size<=16:=fun s hs=>by unfold aN at hs;simp only[decide_eq_true_eq]at hs;subst hs;decide
 unfold DO at h
 repeat' split at h
 all_goals simp only[aJ0,decide_eq_true_eq,aR0]at h
 all_goals first | exact he _ h.1 | exact hn _ h.2.1 | (exact absurd h (by simp))
inductive RT where
 | mk (x:Nd) (ks:List RT)
def RT.x : RT->Nd
 | .mk x _=>x
def RT.ks : RT->List RT
 | .mk _ ks=>ks
mutual
def flat : RT->List Nd
 | .mk x ks=>x::Ak ks
def Ak : List RT->List Nd
 | []=>[]
 | t::ts=>flat t++Ak ts
end
mutual
def Ew : RT->Bool
 | .mk x ks=>DO x&&(decide (x.n=(ks.length:Int))&&FJ ks)
def FJ : List RT->Bool
 | []=>true
 | t::ts=>Ew t&&FJ ts
end
theorem Cj {x:Nd} {ks:List RT} (h:Ew (.mk x ks)=true):DO x=true/\x.n=(ks.length:Int)/\FJ ks=true:=by
 unfold Ew at h;simp only[aJ0,decide_eq_true_eq]at h;exact h
theorem BM {t:RT} {ts:List RT} (h:FJ (t::ts)=true):Ew t=true/\FJ ts=true:=by
 unfold FJ at h;simp only[aJ0]at h;exact h
theorem Pv {ts:List RT} (h:FJ ts=true):∀t∈ts,Ew t=true:=by
 induction ts with
 | nil=>simp
 | cons t ts ih =>
  obtain⟨h1,h2⟩:=BM h;intro u hu
  rcases aK0.1 hu with rfl | hu
  ·exact h1
  ·exact ih h2 u hu
theorem Pw : ∀(a b:List RT),FJ (a++b)=(FJ a&&FJ b)
 | [],b=>by simp[FJ]
 | t::a,b=>by simp[FJ,Pw a b,Bool.and_assoc]
theorem Fc : ∀(a b:List RT),Ak (a++b)=Ak a++Ak b
 | [],b=>by simp[Ak]
 | t::a,b=>by simp[Ak,Fc a b]
theorem GB (t:RT):1<=(flat t).length:=by cases t;simp[flat]
theorem AO (x:Nd) (ks:List RT):flat (.mk x ks)=x::Ak ks:=by rw[flat]
theorem Ap (t:RT) (ts:List RT):Ak (t::ts)=flat t++Ak ts:=by rw[Ak]
def EN : List Nd->Nat->Option (List Nd)
 | l,0=>some l
 | [],_+1=>none
 | x::l,w+1=>if DO x then EN l (w+x.n.toNat)else none
theorem Cu (l:List Nd):EN l 0=some l:=by unfold EN;cases l<;>rfl
theorem Ih (w:Nat):EN [] (w+1)=none:=by unfold EN;rfl
theorem DB (x:Nd) (l:List Nd) (w:Nat):EN (x::l) (w+1)=if DO x then EN l (w+x.n.toNat)else none:=by rw[EN]
mutual
theorem Gd : ∀(t:RT) (r:List Nd) (w:Nat),Ew t=true->EN (flat t++r) (w+1)=EN r w
 | .mk x ks,r,w,h=>by
  obtain⟨h1,h2,h3⟩:=Cj h;rw[AO,List.cons_append,DB,if_pos h1,h2,dE0];exact Rv ks r w h3
theorem Rv : ∀(ts:List RT) (r:List Nd) (w:Nat),FJ ts=true->EN (Ak ts++r) (w+ts.length)=EN r w
 | [],r,w,h=>by simp[Ak]
 | t::ts,r,w,h=>by
  obtain⟨h1,h2⟩:=BM h;rw[Ap,aV0,List.length_cons,<-cQ0,Gd t _ _ h1,Rv ts r w h2]
end
theorem Bd_ : ∀(l:List Nd) (w:Nat) (r:List Nd),EN l w=some r->∃ts:List RT,ts.length=w/\FJ ts=true/\l=Ak ts++r:=by
 intro l
 induction l with
 | nil =>
  intro w r h
  cases w with
  | zero=>rw[Cu]at h;simp only[aA0]at h;exact⟨[],rfl,rfl,by simp[Ak,h]⟩
  | succ w=>rw[Ih]at h;simp at h
 | cons x l ih =>
  intro w r h
  cases w with
  | zero=>rw[Cu]at h;simp only[aA0]at h;exact⟨[],rfl,rfl,by simp[Ak,h]⟩
  | succ w =>
   rw[DB]at h
   split at h
   ·rename_i hm;obtain⟨ts,h1,h2,rfl⟩:=ih _ _ h;have hk:=HU hm;refine⟨.mk x (ts.take x.n.toNat)::ts.drop x.n.toNat,by simp;omega,?_,?_⟩
    ·have h3:=Pw (ts.take x.n.toNat) (ts.drop x.n.toNat);rw[List.take_append_drop,h2]at h3;have h4:FJ (ts.take x.n.toNat)=true/\FJ (ts.drop x.n.toNat)=true:=by simpa using h3.symm
     have h5:x.n=((ts.take x.n.toNat).length:Int):=by rw[bA0];omega
     unfold FJ Ew;rw[hm,decide_eq_true h5,h4.1,h4.2];rfl
    ·rw[Ap,AO,List.cons_append,List.cons_append,aV0,<-aV0 (Ak _),<-Fc,List.take_append_drop]
   ·simp at h
theorem Rw : ∀(l:List Nd) (w:Nat),l.length<w->EN l w=none
 | _,0,h=>by omega
 | [],w+1,_=>Ih w
 | x::l,w+1,h=>by
  rw[DB]
  split
  ·exact Rw l _ (by simp at h;omega)
  ·rfl
def Dd (l:List Nd):Bool:=match EN l 1 with
 | some []=>true
 | _=>false
theorem Ll {l:List Nd} (h:Dd l=true):∃t,Ew t=true/\l=flat t:=by
 unfold Dd at h
 split at h
 ·rename_i he;obtain⟨ts,h1,h2,h3⟩:=Bd_ _ _ _ he
  match ts,h1,h2,h3 with
  | [t],_,h2,h3 =>
   refine⟨t,(BM h2).1,?_⟩;rw[h3,Ap];simp[Ak]
 ·simp at h
theorem EV {t:RT} (h:Ew t=true):Dd (flat t)=true:=by
 unfold Dd;have:=Gd t [] 0 h;rw[bO0,Cu]at this;rw[this]
theorem rF {t:RT} (h:Ew t=true):∀x∈flat t,DO x=true:=by
 have key:∀(l:List Nd) (w:Nat) (r:List Nd),EN l w=some r->∀x∈l,x∈r\/DO x=true:=by
  intro l
  induction l with
  | nil=>intro w r _ x hx;simp at hx
  | cons y l ih =>
   intro w r he x hx
   cases w with
   | zero=>rw[Cu]at he;simp only[aA0]at he;subst he;exact .inl hx
   | succ w =>
    rw[DB]at he
    split at he
    ·rename_i hm
     rcases aK0.1 hx with rfl | hx
     ·exact .inr hm
     ·exact ih _ _ he x hx
    ·simp at he
 intro x hx;have:=Gd t [] 0 h;rw[bO0,Cu]at this
 rcases key _ _ _ this x hx with h | h
 ·simp at h
 ·exact h
theorem Ct : ∀ts:List RT,ts.length<=(Ak ts).length
 | []=>by simp
 | t::ts=>by
  have:=Ct ts;have:=GB t;rw[Ap];simp;omega
mutual
theorem Rc : ∀(t:RT),Ew t=true->∀x∈flat t,x.n<=((flat t).length:Int)
 | .mk y ks,h,x,hx=>by
  obtain⟨h1,h2,h3⟩:=Cj h;have:=Ct ks;rw[AO]at hx |-;rw[List.length_cons]
  rcases aK0.1 hx with rfl | hx
  ·omega
  ·have:=XP ks h3 x hx;omega
theorem XP : ∀(ts:List RT),FJ ts=true->∀x∈Ak ts,x.n<=((Ak ts).length:Int)
 | [],_,x,hx=>by simp[Ak]at hx
 | t::ts,h,x,hx=>by
  obtain⟨h1,h2⟩:=BM h;rw[Ap]at hx |-;rw[aC0]
  rcases aH0.1 hx with hx | hx
  ·have:=Rc t h1 x hx;omega
  ·have:=XP ts h2 x hx;omega
end
mutual
def Jk : RT->Nat
 | .mk _ ks=>SR ks+1
def SR : List RT->Nat
 | []=>0
 | t::ts=>max (Jk t) (SR ts)
end
theorem Vz (x:Nd) (ks:List RT):Jk (.mk x ks)=SR ks+1:=by rw[Jk]
theorem Ia (t:RT) (ts:List RT):SR (t::ts)=max (Jk t) (SR ts):=by rw[SR]
theorem MB : SR []=0:=by rw[SR]
def fin : List Nat->List Nat
 | []=>[]
 | c::s=>if c=1 then fin s else (c-1)::s
def He (p:List Nat×Nat) (x:Nd):List Nat×Nat:=(if x.n.toNat=0 then fin p.1 else x.n.toNat::p.1,max p.2 (p.1.length+1))
mutual
theorem Lz : ∀(t:RT) (s:List Nat) (m:Nat),Ew t=true->(flat t).foldl He (s,m)=(fin s,max m (s.length+Jk t))
 | .mk x ks,s,m,h=>by
  obtain⟨h1,h2,h3⟩:=Cj h;rw[AO,cT0,Vz];unfold He;rw[h2,dE0]
  cases ks with
  | nil=>simp[Ak,MB]
  | cons t ts =>
   have:=OD (t::ts) s (max m (s.length+1)) h3 (by simp);simp only[List.length_cons]at this |-;rw[if_neg (by omega)];unfold He at this;rw[this]
   congr 1
   omega
theorem OD : ∀(ts:List RT) (s:List Nat) (m:Nat),FJ ts=true->ts≠[]->(Ak ts).foldl He (ts.length::s,m)=(fin s,max m (s.length+1+SR ts))
 | [],s,m,h,qF=>absurd rfl qF
 | [t],s,m,h,qF=>by
  obtain⟨h1,h2⟩:=BM h;have:=Lz t (1::s) m h1;rw[Ap,cY0];simp only[List.length_cons,List.length_nil,bR0]at this |-;rw[this,Ia,MB];simp[Ak,fin]
 | t::u::r,s,m,h,qF=>by
  obtain⟨h1,h2⟩:=BM h;have h3:=Lz t (((u::r).length+1)::s) m h1;have h4:=OD (u::r) s (max m (s.length+1+Jk t)) h2 (by simp);rw[Ap,cY0,List.length_cons,h3]
  have e:fin (((u::r).length+1)::s)=(u::r).length::s:=by
   simp only[fin];rw[if_neg (by simp)];simp
  rw[e];have e2:max m ((((u::r).length+1)::s).length+Jk t)=max m (s.length+1+Jk t):=by rw[List.length_cons]
  rw[e2,h4,Ia t]
  congr 1
  omega
end
theorem JP {t:RT} (h:Ew t=true):(flat t).foldl He ([],0)=([],Jk t):=by
 rw[Lz t [] 0 h];simp[fin]
def Cx_ : List Nat->List Nat
 | []=>[]
 | c::s=>if c=0 then fin s else c::s
def GL (s:List Nat):Prop:=∀c∈s,1<=c/\c<=1572864
theorem xZ {c:Nat} {s:List Nat} (h:1<=c):Cx_ ((c-1)::s)=fin (c::s):=by
 rw[show Cx_ ((c-1)::s)=if c-1=0 then fin s else (c-1)::s from rfl,show fin (c::s)=if c=1 then fin s else (c-1)::s from rfl]
 by_cases h1:c=1
 ·rw[if_pos (by omega),if_pos h1]
 ·rw[if_neg (by omega),if_neg h1]
theorem sI : ∀s:List Nat,(fin s).length<=s.length
 | []=>by simp[fin]
 | c::s=>by
  unfold fin
  split
  ·have:=sI s;simp;omega
  ·simp
theorem sH : ∀{s:List Nat},GL s->GL (fin s)
 | [],_=>by intro c hc;simp[fin]at hc
 | c::s,h=>by
  unfold fin
  split
  ·exact sH fun d hd=>h d (aG0 _ hd)
  ·intro d hd;have hc:=h c aI0
   rcases aK0.1 hd with rfl | hd
   ·omega
   ·exact h d (aG0 _ hd)
theorem AQ_ (p:List Nat×Nat) (x:Nd):(He p x).1.length<=p.1.length+1:=by
 unfold He;simp only
 split
 ·have:=sI p.1;omega
 ·simp
theorem AP_ {p:List Nat×Nat} (x:Nd) (hx:x.n.toNat<=1572864) (h:GL p.1):GL (He p x).1:=by
 unfold He;simp only
 split
 ·exact sH h
 ·intro d hd
  rcases aK0.1 hd with rfl | hd
  ·omega
  ·exact h d hd
theorem Aa_ (c:Nat) (s:List Nat):Cx_ (c::s)=if c=0 then fin s else c::s:=rfl
def IQ (s:List Nat):List (List DVal):=(s.map fun c:Nat=>[DVal.int .i64 (c:Int)]).reverse
theorem ED (s:List Nat):(IQ s).length=s.length:=by simp[IQ]
theorem Ii (c:Nat) (s:List Nat):IQ (c::s)=IQ s++[[.int .i64 (c:Int)]]:=by simp[IQ]
theorem CY : IQ []=[]:=rfl
@[simp] theorem Iu_ (s:List Nat):Bp (IQ s)=0:=by
 unfold IQ
 exact Nat.le_zero.1 (Py fun d hd=>by
  obtain⟨c,_,rfl⟩:=aT0.1 (List.mem_reverse.1 hd)
  simp[AL,mx])
theorem Yt (c:Nat) (s:List Nat):(IQ (c::s))[s.length]? =some [.int .i64 (c:Int)]:=by
 rw[Ii,bB0 (by rw[ED];omega),ED,eG0];rfl
theorem Bh_ (c:Nat) (s:List Nat):(IQ (c::s)).take s.length=IQ s:=by
 rw[Ii,List.take_append_of_le_length (by rw[ED];omega),cD0 (by rw[ED];omega)]
theorem DO_ (c d:Nat) (s:List Nat):(IQ (c::s)).set s.length [.int .i64 (d:Int)]=IQ (d::s):=by
 rw[Ii,Ii,List.set_append_right _ _ (by rw[ED];omega),ED,eG0];rfl
end Go.Proofs.Wy
end
