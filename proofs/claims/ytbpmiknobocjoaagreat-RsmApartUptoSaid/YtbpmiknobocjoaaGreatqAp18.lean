/- Parts of a proof, laid together: WR1, RN, EnBo, EnLe. -/
import Derived.Test.YtbpmiknobocjoaaGreatqAp17
set_option linter.unusedSimpArgs false
set_option maxHeartbeats 8000000
set_option linter.unusedVariables false
set_option linter.unusedSectionVars false
section
namespace Go.Proofs.Wy
open Go Go.Dm Tryz
variable [DMode]
attribute [local irreducible] DW BN BS
set_option maxRecDepth 100000
def aL (n:Int):Bool:=decide (65<=n)&&decide (n<=90)
def aO (n:Int):Bool:=decide (97<=n)&&decide (n<=122)
def Zy : Ann:=⟨[],[]⟩
theorem Hv (n:Int):Af prog 158 [.int .u8 n] (.bool (aL n)):=by
 refine Ae [] Zy func158 call158 ntmps158 mxd (AB @Zy.eq_1 results158) rfl (fun qJ B qX qQ=> ?_);simp only[Aq]
 by_cases h1:65<=n
 ·by_cases h2:n<=90<;>exact Az Ab Ab (CL @aL.eq_1 h1 h2)
 ·exact Az Ab Ab (AB @aL.eq_1 h1)
def Zx : Ann:=⟨[],[]⟩
theorem HE (n:Int):Af prog 159 [.int .u8 n] (.bool (aO n)):=by
 refine Ae [] Zx func159 call159 ntmps159 mxd (AB @Zx.eq_1 results159) rfl (fun qJ B qX qQ=> ?_);simp only[Aq]
 by_cases h1:97<=n
 ·by_cases h2:n<=122<;>exact Az Ab Ab (CL @aO.eq_1 h1 h2)
 ·exact Az Ab Ab (AB @aO.eq_1 h1)
def tE : Ann:=⟨[],[]⟩
theorem JQ (n:Int):Af prog 87 [.int .u8 n] (.bool (aL n)):=by
 refine Ae [] tE func87 call87 ntmps87 mxd (AB @tE.eq_1 results87) rfl (fun qJ B qX qQ=> ?_);simp only[Aq]
 by_cases h1:65<=n
 ·by_cases h2:n<=90<;>exact Az Ab Ab (CL @aL.eq_1 h1 h2)
 ·exact Az Ab Ab (AB @aL.eq_1 h1)
def tD : Ann:=⟨[],[]⟩
theorem JV (n:Int):Af prog 88 [.int .u8 n] (.bool (aO n)):=by
 refine Ae [] tD func88 call88 ntmps88 mxd (AB @tD.eq_1 results88) rfl (fun qJ B qX qQ=> ?_);simp only[Aq]
 by_cases h1:97<=n
 ·by_cases h2:n<=122<;>exact Az Ab Ab (CL @aO.eq_1 h1 h2)
 ·exact Az Ab Ab (AB @aO.eq_1 h1)
theorem sD (n:Int):Yo n=(aL n||aO n||(decide (48<=n)&&decide (n<=57))||n==95):=by
 unfold Yo aL aO;cases decide (65<=n)<;>cases decide (n<=90)<;>cases decide (97<=n)<;>cases decide (n<=122)<;>rfl
def tF : Ann:=⟨[],[]⟩
theorem Tg (n:Int):Af prog 86 [.int .u8 n] (.bool (Yo n)):=by
 refine Ae [] tF func86 call86 ntmps86 mxd (AB @tF.eq_1 results86) rfl (fun qJ B qX qQ=> ?_);simp only[Aq];rw[sD];have e1:=JQ n;have e2:=JV n;cases hU:aL n
 ·rw[hU]at e1;cases hL:aO n
  ·rw[hL]at e2
   by_cases h5:48<=n
   ·by_cases h6:n<=57
    ·exact Az (AB e1 e2) Ab (AB h5 h6)
    ·have h7:n=95\/¬n=95:=by omega
     rcases h7 with h7 | h7
     ·subst h7;exact Az (AB e1 e2) Ab Ab
     ·exact Az (AB e1 e2) Ab (CL h5 h6 h7)
   ·have h7:¬n=95:=by omega
    exact Az (AB e1 e2) Ab (AB h5 h7)
  ·rw[hL]at e2;exact Az (AB e1 e2) Ab Ab
 ·rw[hU]at e1;exact Az (AH e1) Ab Ab
def Jv (q:Int->Bool) (s:ByteArray):Bool:=match s.data.toList with | []=>false | b::_=>q (b.toNat:Int)
theorem YA {q:Int->Bool} {s:ByteArray} {b:UInt8} (hb:s.data.toList[0]? =some b):Jv q s=q (b.toNat:Int):=by
 unfold Jv
 cases hd:s.data.toList with
 | nil=>rw[hd]at hb;simp at hb
 | cons x l=>rw[hd]at hb;simp at hb;subst hb;rfl
def Zz : Ann:=⟨[],[]⟩
theorem Fs (g:FuncId) (q:Int->Bool) (hq:∀n,Af prog g [.int .u8 n] (.bool (q n))) (s:ByteArray):Af prog 157 [.str s,.fn (.func g) [] []] (.bool (BU s&&Jv q s)):=by
 refine Ae [] Zz func157 call157 ntmps157 mxd (AB @Zz.eq_1 results157) rfl (fun qJ B qX qQ=> ?_);have qI:s.size<=9223372036854775807:=by have:=qJ.1;simp only[Ev,maxLen]at this;omega
 clear qJ;simp only[Aq];obtain⟨R,hR⟩:∃R,R=(BU s&&Jv q s):=⟨_,rfl⟩;rw[<-hR]
 by_cases h1:1<=s.size
 ·by_cases h2:s.size<=16
  ·have g1:¬(s.size:Int)<1:=by omega
   have g2:¬(16:Int)<s.size:=by omega
   have g0:0<s.size:=by omega
   obtain⟨b0,qR,fL,_⟩:=Ap (show 0<s.data.toList.length by rw[CN];omega);have e0:=hq (b0.toNat:Int);rw[YA qR]at hR;cases hQ:q (b0.toNat:Int)
   ·rw[hQ]at e0 hR;have wY:R=false:=by rw[hR];simp
    subst wY;exact Az (AH e0) Ab (IH g0 g1 g2 h1 h2 qR fL)
   ·rw[hQ]at e0 hR;simp only[eB0]at hR
    (refine AL (AH e0) Ab (IH g0 g1 g2 h1 h2 qR fL) ?_;intros;refine Am ?_)
    refine Ai (X:={k:Nat//k<=s.size/\Dt_ s=((s.data.toList.drop k).all fun b=>Yo (b.toNat:Int))}) (fun k=>⟨[(0,.str s),(23,.int .i64 s.size),(24,.int .i64 k.1)],[]⟩) (fun k=>s.size-k.1) ⟨0,by simp[Dt_]⟩ (Sub.lit (by simp)) ?_;clear e0 qR fL hQ;rintro⟨k,hk,hl⟩
    by_cases qV:k<s.size
    ·obtain⟨b,hb,qM,_⟩:=Ap (show k<s.data.toList.length by rw[CN];exact qV);rw[aR0 (by rw[CN];exact qV),qM,cT0]at hl;have e1:=Hv (b.toNat:Int);have e2:=HE (b.toNat:Int);obtain⟨L,hLL⟩:∃L,L=Yo (b.toNat:Int):=⟨_,rfl⟩;have hLe:=sD (b.toNat:Int);rw[<-hLL]at hl hLe;cases hU:aL (b.toNat:Int)
     ·rw[hU]at e1;cases hV:aO (b.toNat:Int)
      ·rw[hV]at e2
       by_cases h5:(48:Int)<=(b.toNat:Int)
       ·by_cases h6:(b.toNat:Int)<=57
        ·have h7:¬(b.toNat:Int)=95:=by omega
         have cZ:L=true:=by rw[hLe];simp[hU,hV,h5,h6]
         rw[cZ,cA0]at hl
         (refine AL (AB e1 e2) Ab (IH qV hb qM hU hV h5 h6) ?_;intros;refine Am ?_)
         refine Al.mk ⟨k+1,by omega,hl⟩ (Sub.lit (by simp)) (by simp;omega)
         skip
        ·by_cases h7:(b.toNat:Int)=95
         ·have cZ:L=true:=by rw[hLe];simp[hU,hV,h5,h6,h7]
          rw[h7]at e1 e2;rw[cZ,cA0]at hl
          (refine AL (AB e1 e2) Ab (KG qV hb qM hU hV h5 h6 h7) ?_;intros;refine Am ?_)
          refine Al.mk ⟨k+1,by omega,hl⟩ (Sub.lit (by simp)) (by simp;omega)
          skip
         ·have cZ:L=false:=by rw[hLe];simp[hU,hV,h5,h6,h7]
          rw[cZ,cL0]at hl;have wY:R=false:=by rw[hR];unfold BU;rw[hl];simp
          subst wY;exact Az (AB e1 e2) Ab (KG qV hb qM hU hV h5 h6 h7)
       ·have h7:¬(b.toNat:Int)=95:=by omega
        have cZ:L=false:=by rw[hLe];simp[hU,hV,h5,h7]
        rw[cZ,cL0]at hl;have wY:R=false:=by rw[hR];unfold BU;rw[hl];simp
        subst wY;exact Az (AB e1 e2) Ab (IH qV hb qM hU hV h5 h7)
      ·rw[hV]at e2;have cZ:L=true:=by rw[hLe];simp[hU,hV]
       rw[cZ,cA0]at hl
       (refine AL (AB e1 e2) Ab (Lj qV hb qM hU hV) ?_;intros;refine Am ?_)
       refine Al.mk ⟨k+1,by omega,hl⟩ (Sub.lit (by simp)) (by simp;omega)
       skip
     ·rw[hU]at e1;have cZ:L=true:=by rw[hLe];simp[hU]
      rw[cZ,cA0]at hl
      (refine AL (AH e1) Ab (IF qV hb qM hU) ?_;intros;refine Am ?_)
      refine Al.mk ⟨k+1,by omega,hl⟩ (Sub.lit (by simp)) (by simp;omega)
      skip
    ·have qZ:k=s.size:=by omega
     subst qZ;rw[<-CN,bU0]at hl;have wY:R=true:=by rw[hR];unfold BU;rw[hl];simp[h1,h2]
     subst wY;exact Az Ab Ab Ab
  ·have g1:¬(s.size:Int)<1:=by omega
   have g2:(16:Int)<s.size:=by omega
   have wY:R=false:=by rw[hR];unfold BU;simp[h2]
   subst wY;exact Az Ab Ab (IF g1 g2 h1 h2)
 ·have g1:(s.size:Int)<1:=by omega
  have wY:R=false:=by rw[hR];unfold BU;simp[h1]
  subst wY;exact Az Ab Ab (AB g1 h1)
def Du (k:Int) (s:ByteArray):Bool:=if k=2 then BU s&&Jv aL s else BU s&&Jv aO s
abbrev BW (k:Int) (s:ByteArray) (n:Int):List DVal:=[.int .i64 k,.str s,.int .i64 n]
def ZA : Ann:=⟨[],[]⟩
theorem Yj (k:Int) (hk:k=2\/k=3) (s:ByteArray):Af prog 119 [.agg (BW k s 0)] (.bool (Du k s)):=by
 refine Ae [] ZA func119 call119 ntmps119 mxd (AB @ZA.eq_1 results119) rfl (fun qJ B qX qQ=> ?_);simp only[Aq];have e1:=Fs 158 aL Hv s;have e2:=Fs 159 aO HE s;unfold Du
 rcases hk with rfl | rfl
 ·exact Az (AB e1 e2) Ab (AH @BW.eq_1)
 ·exact Az (AB e1 e2) Ab (AH @BW.eq_1)
def tG : Ann:=⟨[],[⟨4,[5],[],[]⟩]⟩
theorem SM (k:Int) (hk:k=2\/k=3) (s:ByteArray):Af prog 73 [.sl 3 32 [BW k s 0]] (.bool (Du k s)):=by
 refine Ae [] tG func73 call73 ntmps73 mxd (AB @tG.eq_1 results73) rfl (fun qJ B qX qQ=> ?_);simp only[Aq];have e1:=Yj k hk s;obtain⟨R,hR⟩:∃R,R=Du k s:=⟨_,rfl⟩;rw[<-hR]at e1 |-
 (refine AL Ab Ab (AH @BW.eq_1) ?_;intros;refine Am ?_)
 refine Ai (X:={k:Nat//k=0\/k=1/\R=true}) (fun x=>⟨[(0,.sl 3 32 [BW k s 0]),(3,.int .i64 (1-x.1)),(6,.sl 3 32 [BW k s 0]),(7,.int .i64 1),(8,.int .i64 x.1)],[]⟩) (fun x=>1-x.1) ⟨0,.inl rfl⟩ (Sub.lit (by simp[BW])) ?_;rintro⟨x,rfl | ⟨rfl,rfl⟩⟩
 ·simp only[BW]at e1;cases R
  ·exact Az (AH e1) Ab (AH @BW.eq_1)
  ·(refine AL (AH e1) Ab (AH @BW.eq_1) ?_;intros;refine Am ?_)
   refine Al.mk ⟨1,.inr ⟨rfl,rfl⟩⟩ (Sub.lit (by simp[BW])) (by simp)
   skip
 ·exact Az Ab Ab (AH @BW.eq_1)
end Go.Proofs.Wy
end
section
namespace Go.Proofs.Wy
open Go Go.Dm Tryz
variable [DMode]
structure Nd where
 k:Int
 s:ByteArray
 n:Int
 deriving DecidableEq
def Bo (x:Nd):List DVal:=[.int .i64 x.k,.str x.s,.int .i64 x.n]
abbrev AM (l:List Nd):DVal:= .sl 3 32 (l.map Bo)
structure Rul where
 h:ByteArray
 b:List Nd
 deriving DecidableEq
def Ba (r:Rul):List DVal:=[.str r.h,AM r.b]
abbrev Au (l:List Rul):DVal:= .sl 2 40 (l.map Ba)
@[simp] theorem GW_ (s:Nd):AJ (Bo s)=0:=by simp[Bo,AJ,mx]
@[simp] theorem ID_ (l:List Nd):Br (l.map Bo)=0:=Ie _ GW_ l
@[simp] theorem FE_ (s:Rul):AJ (Ba s)=0:=by simp[Ba,AJ,mx]
@[simp] theorem HZ_ (l:List Rul):Br (l.map Ba)=0:=Ie _ FE_ l
theorem PY {l:List Nd} (h:Ev (AM l)):l.length<9223372036854775807:=by
 simp only[Ev,aJ0]at h;omega
theorem Ke {l:List Rul} (h:Ev (Au l)):l.length<9223372036854775807:=by
 simp only[Ev,aJ0]at h;omega
def aQ (s:ByteArray):Bool:=decide (s=⟨#[]⟩)
def DZ (x:Nd):Bool :=
 if x.k=1 then aQ x.s&&decide (x.n=0)
 else if x.k=2 then decide (x.n=0)&&(BU x.s&&Jv aL x.s)
 else if x.k=3 then decide (x.n=0)&&(BU x.s&&Jv aO x.s)
 else if x.k=4 then aQ x.s&&decide (2<=x.n)
 else if x.k=5 then aQ x.s&&decide (2<=x.n)
 else if x.k=6 then aQ x.s&&decide (x.n=1)
 else if x.k=7 then aQ x.s&&decide (x.n=1)
 else if x.k=8 then aQ x.s&&decide (x.n=1)
 else false
theorem Ig {x:Nd} (h:DZ x=true):0<=x.n:=by
 unfold DZ at h
 repeat' split at h
 all_goals simp only[aL0,decide_eq_true_eq,aQ0]at h
 all_goals first | omega | (exact absurd h (by simp)) | (obtain⟨h1,h2⟩:=h;omega)
theorem KT {x:Nd} (h:DZ x=true):x.k=1\/x.k=2\/x.k=3\/x.k=4\/x.k=5\/x.k=6\/x.k=7\/x.k=8:=by
 unfold DZ at h
 repeat' split at h
 all_goals first | omega | (exact absurd h (by simp))
theorem Ol {x:Nd} (h:DZ x=true):x.s.size<=16:=by
 have hn:∀s,BU s=true->s.size<=16:=fun s hs=>by unfold BU at hs;simp only[aL0,decide_eq_true_eq]at hs;exact hs.1.2
 have he:∀s,aQ s=true->s.size<=16:=fun s hs=>by unfold aQ at hs;simp only[decide_eq_true_eq]at hs;subst hs;decide
 unfold DZ at h
 repeat' split at h
 all_goals simp only[aL0,decide_eq_true_eq,aQ0]at h
 all_goals first | exact he _ h.1 | exact hn _ h.2.1 | (exact absurd h (by simp))
inductive RT where
 | mk (x:Nd) (ks:List RT)
def RT.x : RT->Nd
 | .mk x _=>x
def RT.ks : RT->List RT
 | .mk _ ks=>ks
mutual
def Ad : RT->List Nd
 | .mk x ks=>x::An ks
def An : List RT->List Nd
 | []=>[]
 | t::ts=>Ad t++An ts
end
mutual
def ED : RT->Bool
 | .mk x ks=>DZ x&&(decide (x.n=(ks.length:Int))&&FQ ks)
def FQ : List RT->Bool
 | []=>true
 | t::ts=>ED t&&FQ ts
end
theorem Cg {x:Nd} {ks:List RT} (h:ED (.mk x ks)=true):DZ x=true/\x.n=(ks.length:Int)/\FQ ks=true:=by
 unfold ED at h;simp only[aL0,decide_eq_true_eq]at h;exact h
theorem BQ {t:RT} {ts:List RT} (h:FQ (t::ts)=true):ED t=true/\FQ ts=true:=by
 unfold FQ at h;simp only[aL0]at h;exact h
theorem PQ {ts:List RT} (h:FQ ts=true):∀t∈ts,ED t=true:=by
 induction ts with
 | nil=>simp
 | cons t ts ih =>
  obtain⟨h1,h2⟩:=BQ h;intro u hu
  rcases aK0.1 hu with rfl | hu
  ·exact h1
  ·exact ih h2 u hu
theorem PR : ∀(a b:List RT),FQ (a++b)=(FQ a&&FQ b)
 | [],b=>by simp[FQ]
 | t::a,b=>by simp[FQ,PR a b,Bool.and_assoc]
theorem Fk : ∀(a b:List RT),An (a++b)=An a++An b
 | [],b=>by simp[An]
 | t::a,b=>by simp[An,Fk a b]
theorem GK (t:RT):1<=(Ad t).length:=by cases t;simp[Ad]
theorem AQ (x:Nd) (ks:List RT):Ad (.mk x ks)=x::An ks:=by rw[Ad]
theorem Ax (t:RT) (ts:List RT):An (t::ts)=Ad t++An ts:=by rw[An]
def EU : List Nd->Nat->Option (List Nd)
 | l,0=>some l
 | [],_+1=>none
 | x::l,w+1=>if DZ x then EU l (w+x.n.toNat)else none
theorem Cs (l:List Nd):EU l 0=some l:=by unfold EU;cases l<;>rfl
theorem Iu (w:Nat):EU [] (w+1)=none:=by unfold EU;rfl
theorem DI (x:Nd) (l:List Nd) (w:Nat):EU (x::l) (w+1)=if DZ x then EU l (w+x.n.toNat)else none:=by rw[EU]
mutual
theorem Gm : ∀(t:RT) (r:List Nd) (w:Nat),ED t=true->EU (Ad t++r) (w+1)=EU r w
 | .mk x ks,r,w,h=>by
  obtain⟨h1,h2,h3⟩:=Cg h;rw[AQ,List.cons_append,DI,if_pos h1,h2,eC0];exact RP ks r w h3
theorem RP : ∀(ts:List RT) (r:List Nd) (w:Nat),FQ ts=true->EU (An ts++r) (w+ts.length)=EU r w
 | [],r,w,h=>by simp[An]
 | t::ts,r,w,h=>by
  obtain⟨h1,h2⟩:=BQ h;rw[Ax,aS0,List.length_cons,<-cS0,Gm t _ _ h1,RP ts r w h2]
end
theorem Bx_ : ∀(l:List Nd) (w:Nat) (r:List Nd),EU l w=some r->∃ts:List RT,ts.length=w/\FQ ts=true/\l=An ts++r:=by
 intro l
 induction l with
 | nil =>
  intro w r h
  cases w with
  | zero=>rw[Cs]at h;simp only[aA0]at h;exact⟨[],rfl,rfl,by simp[An,h]⟩
  | succ w=>rw[Iu]at h;simp at h
 | cons x l ih =>
  intro w r h
  cases w with
  | zero=>rw[Cs]at h;simp only[aA0]at h;exact⟨[],rfl,rfl,by simp[An,h]⟩
  | succ w =>
   rw[DI]at h
   split at h
   ·rename_i hm;obtain⟨ts,h1,h2,rfl⟩:=ih _ _ h;have hk:=Ig hm;refine⟨.mk x (ts.take x.n.toNat)::ts.drop x.n.toNat,by simp;omega,?_,?_⟩
    ·have h3:=PR (ts.take x.n.toNat) (ts.drop x.n.toNat);rw[List.take_append_drop,h2]at h3;have h4:FQ (ts.take x.n.toNat)=true/\FQ (ts.drop x.n.toNat)=true:=by simpa using h3.symm
     have h5:x.n=((ts.take x.n.toNat).length:Int):=by rw[aY0];omega
     unfold FQ ED;rw[hm,decide_eq_true h5,h4.1,h4.2];rfl
    ·rw[Ax,AQ,List.cons_append,List.cons_append,aS0,<-aS0 (An _),<-Fk,List.take_append_drop]
   ·simp at h
theorem RS : ∀(l:List Nd) (w:Nat),l.length<w->EU l w=none
 | _,0,h=>by omega
 | [],w+1,_=>Iu w
 | x::l,w+1,h=>by
  rw[DI]
  split
  ·exact RS l _ (by simp at h;omega)
  ·rfl
def Dg (l:List Nd):Bool:=match EU l 1 with
 | some []=>true
 | _=>false
theorem LQ {l:List Nd} (h:Dg l=true):∃t,ED t=true/\l=Ad t:=by
 unfold Dg at h
 split at h
 ·rename_i he;obtain⟨ts,h1,h2,h3⟩:=Bx_ _ _ _ he
  match ts,h1,h2,h3 with
  | [t],_,h2,h3 =>
   refine⟨t,(BQ h2).1,?_⟩;rw[h3,Ax];simp[An]
 ·simp at h
theorem Fb {t:RT} (h:ED t=true):Dg (Ad t)=true:=by
 unfold Dg;have:=Gm t [] 0 h;rw[bR0,Cs]at this;rw[this]
theorem rR {t:RT} (h:ED t=true):∀x∈Ad t,DZ x=true:=by
 have key:∀(l:List Nd) (w:Nat) (r:List Nd),EU l w=some r->∀x∈l,x∈r\/DZ x=true:=by
  intro l
  induction l with
  | nil=>intro w r _ x hx;simp at hx
  | cons y l ih =>
   intro w r he x hx
   cases w with
   | zero=>rw[Cs]at he;simp only[aA0]at he;subst he;exact .inl hx
   | succ w =>
    rw[DI]at he
    split at he
    ·rename_i hm
     rcases aK0.1 hx with rfl | hx
     ·exact .inr hm
     ·exact ih _ _ he x hx
    ·simp at he
 intro x hx;have:=Gm t [] 0 h;rw[bR0,Cs]at this
 rcases key _ _ _ this x hx with h | h
 ·simp at h
 ·exact h
theorem Cr : ∀ts:List RT,ts.length<=(An ts).length
 | []=>by simp
 | t::ts=>by
  have:=Cr ts;have:=GK t;rw[Ax];simp;omega
mutual
theorem Rs : ∀(t:RT),ED t=true->∀x∈Ad t,x.n<=((Ad t).length:Int)
 | .mk y ks,h,x,hx=>by
  obtain⟨h1,h2,h3⟩:=Cg h;have:=Cr ks;rw[AQ]at hx |-;rw[List.length_cons]
  rcases aK0.1 hx with rfl | hx
  ·omega
  ·have:=Yu ks h3 x hx;omega
theorem Yu : ∀(ts:List RT),FQ ts=true->∀x∈An ts,x.n<=((An ts).length:Int)
 | [],_,x,hx=>by simp[An]at hx
 | t::ts,h,x,hx=>by
  obtain⟨h1,h2⟩:=BQ h;rw[Ax]at hx |-;rw[aD0]
  rcases aG0.1 hx with hx | hx
  ·have:=Rs t h1 x hx;omega
  ·have:=Yu ts h2 x hx;omega
end
end Go.Proofs.Wy
end
section
namespace Go.Dm
variable [DMode]
def TF : DVal->Bool
 | .bool _=>true
 | .int _ _=>true
 | .str _=>true
 | .nilp=>true
 | .nilsl=>true
 | .any=>true
 | _=>false
theorem rA {d:DVal} (hd:TF d=true) {cur cur':ES} {M M':List Nat} {h h':Array Obj} {v:Value} (hr:rd cur M h d v):rd cur' M' h' d v:=by
 cases d<;>simp only[TF,aQ0]at hd<;>simp only[rd]at hr |- <;>exact hr
theorem QK : ∀{ds:List DVal} (hd:ds.all TF=true) {cur cur':ES} {M M':List Nat} {h h':Array Obj} {vs:List Value} (_:rdV cur M h ds vs),rdV cur' M' h' ds vs
 | [],_,_,_,_,_,_,_,vs,hr=>by simpa only[rdV]using hr
 | d::ds,hd,_,_,_,_,_,_,vs,hr=>by
  rw[cT0,aL0]at hd;simp only[rdV]at hr |-;obtain⟨v,r,rfl,h1,h2⟩:=hr;exact⟨v,r,rfl,rA hd.1 h1,QK hd.2 h2⟩
def EX : DVal->Bool
 | .tup ds=>ds.all TF
 | .agg ds=>ds.all TF
 | d=>TF d
theorem HZ {d:DVal} (hd:EX d=true) {cur cur':ES} {M M':List Nat} {h h':Array Obj} {v:Value} (hr:rd cur M h d v):rd cur' M' h' d v:=by
 cases d
 case tup ds =>
  simp only[EX]at hd;simp only[rd]at hr |-;obtain⟨us,rfl,h1⟩:=hr;exact⟨us,rfl,QK hd h1⟩
 case agg ds =>
  simp only[EX]at hd;simp only[rd]at hr |-;obtain⟨us,rfl,h1⟩:=hr;exact⟨us,rfl,QK hd h1⟩
 all_goals exact rA (by simpa only[EX]using hd) hr
theorem SJ {P:Program} {f:FuncId} {k bs:Nat} {et:TypeId} {es:List (List DVal)} {rest:List DVal} {d:DVal} (hd:EX d=true) (hp:Af P f (.sl k bs es::rest) d) :
  Bj P (.func f) (.osl 0 0::rest) [⟨0,0,.row et k bs es⟩] d [⟨0,0,.row et k bs es⟩]:=by
 obtain⟨vJ,_,hc⟩:=hp;refine⟨by simp,vJ,fun M w loc vs S hr=>⟨vJ,?_⟩⟩;simp only[rdV]at hr;obtain⟨v0,r0,wS,h0,hrest⟩:=hr;simp only[rd]at h0;have kN:=h0 (loc 0) rfl;have hk:=S.ok ⟨0,0,.row et k bs es⟩ (by simp);have hap:=S.ap
 have W:Weak (Ac [(⟨0,0,.row et k bs es⟩:Ent)] loc) (Ac [(⟨0,0,.row et k bs es⟩:Ent)] loc) (Aa [(⟨0,0,.row et k bs es⟩:Ent)] loc++M) M w.heap w.heap (max (Br es) (AJ rest)) :=
  ⟨fun _ _ _ _ h=>h,fun _ _ _ _ h=>h,fun b _ hb _ _ hm=>hb (aN0 _ hm)⟩
 refine(hc (Ac [(⟨0,0,.row et k bs es⟩:Ent)] loc) M w vs (fun b hb=>S.lt b (aN0 _ hb)) ?_).mono ?_
 ·rw[wS];simp only[rdV];refine⟨v0,r0,rfl,?_,AP W _ _ (by omega) hrest⟩;simp only[rd];obtain⟨hz,h⟩:=hk
  rcases h with ⟨he,_,h2⟩ | ⟨b,arr,cap,h1,h2,h3,h4,h5,h6,h7⟩
  ·subst he;rw[kN,h2];exact⟨none,0,by simp,by simp,by simp,hz,.inl ⟨rfl,fun _=>rfl⟩⟩
  ·rw[kN,h2];refine⟨some ⟨b,0,none⟩,cap,rfl,h4,h5,hz,.inr ⟨b,0,arr,et,(0,0),rfl,hap b ?_,h3,Cu W k es arr 0 (by omega) h7⟩⟩;simp[Aa,h1]
 ·rintro e w' ⟨v,rfl,hu,vX⟩;exact⟨v,rfl,loc,S.keep hu,hu.nil,fun b hb=> .inl hb,fun e he _=>Ay S.nd he,HZ hd vX⟩
theorem Gp_ {P:Program} {B:Base} {Q:Exit->DS->Prop} {s:DS} {x:Code} (i k bs:Nat) (h:getS s.slots i= .nilsl) (hw:DW P B x Q ⟨(i,.sl k bs [])::s.slots,s.own⟩):DW P B x Q s:=by
 refine ER (s':=⟨(i,.sl k bs [])::s.slots,s.own⟩) (fun a w loc R=>⟨loc,R.st,R.upd,R.new,R.ver,fun j=> ?_,R.nt,R.df⟩) hw;simp only[getS]
 split
 ·rename_i hj;subst hj;have:=R.sl j;rw[h]at this;simp only[rd]at this |-;rw[this];exact⟨none,0,by simp,by simp,by simp,by simp,.inl ⟨by simp,fun _=>rfl⟩⟩
 ·exact R.sl j
def Vb (es:List (List DVal)):Bool:=es.all fun cs=>cs.all EX
theorem rH {cur cur':ES} {M M':List Nat} {h h':Array Obj}:∀{ds:List DVal} {arr:Array Value} {o:Nat},ds.all EX=true->rdC cur M h ds arr o->rdC cur' M' h' ds arr o
 | [],_,_,_,_=>by simp[rdC]
 | d::ds,arr,o,hs,hr=>by
  rw[cT0,aL0]at hs;simp only[rdC]at hr |-;obtain⟨⟨v,h1,h2,h3⟩,h4⟩:=hr;exact⟨⟨v,h1,h2,HZ hs.1 h3⟩,rH hs.2 h4⟩
theorem MG {cur cur':ES} {M M':List Nat} {h h':Array Obj} {k:Nat}:∀{es:List (List DVal)} {arr:Array Value} {o:Nat},Vb es=true->Dt cur M h k es arr o->Dt cur' M' h' k es arr o
 | [],_,_,_,_=>by simp[Dt]
 | cs::es,arr,o,hs,hr=>by
  unfold Vb at hs;rw[cT0,aL0]at hs;simp only[Dt]at hr |-;exact⟨hr.1,rH hs.1 hr.2.1,MG hs.2 hr.2.2⟩
end Go.Dm
end
