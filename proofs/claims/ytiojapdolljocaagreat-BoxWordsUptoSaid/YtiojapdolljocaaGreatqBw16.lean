/- Parts of a proof, laid together: WR1, RN, RH, RG. -/
import Derived.Test.YtiojapdolljocaaGreatqBw15
set_option linter.unusedSimpArgs false
set_option maxHeartbeats 8000000
set_option linter.unusedVariables false
set_option linter.unusedSectionVars false
section
namespace Go.Proofs.Wy
open Go Go.Dm Tryz
variable [DMode]
attribute [local irreducible] DW Bh Bk
set_option maxRecDepth 100000
def Sp (n:Int):Bool:=decide (65<=n)&&decide (n<=90)
def SQ (n:Int):Bool:=decide (97<=n)&&decide (n<=122)
def XY : Ann:=⟨[],[]⟩
theorem Gz (n:Int):Ag prog 200 [.int .u8 n] (.bool (Sp n)):=by
 refine Ad [] XY func200 call200 ntmps200 mxd (Az @XY.eq_1 results200) rfl (fun qJ B qX qQ=> ?_);simp only[Ap]
 by_cases h1:65<=n
 ·by_cases h2:n<=90<;>exact AA Ac Ac (HB @Sp.eq_1 h1 h2)
 ·exact AA Ac Ac (Az @Sp.eq_1 h1)
def XX : Ann:=⟨[],[]⟩
theorem GH (n:Int):Ag prog 201 [.int .u8 n] (.bool (SQ n)):=by
 refine Ad [] XX func201 call201 ntmps201 mxd (Az @XX.eq_1 results201) rfl (fun qJ B qX qQ=> ?_);simp only[Ap]
 by_cases h1:97<=n
 ·by_cases h2:n<=122<;>exact AA Ac Ac (HB @SQ.eq_1 h1 h2)
 ·exact AA Ac Ac (Az @SQ.eq_1 h1)
def Yb : Ann:=⟨[],[]⟩
theorem IG (n:Int):Ag prog 183 [.int .u8 n] (.bool (Sp n)):=by
 refine Ad [] Yb func183 call183 ntmps183 mxd (Az @Yb.eq_1 results183) rfl (fun qJ B qX qQ=> ?_);simp only[Ap]
 by_cases h1:65<=n
 ·by_cases h2:n<=90<;>exact AA Ac Ac (HB @Sp.eq_1 h1 h2)
 ·exact AA Ac Ac (Az @Sp.eq_1 h1)
def Ya : Ann:=⟨[],[]⟩
theorem IK (n:Int):Ag prog 184 [.int .u8 n] (.bool (SQ n)):=by
 refine Ad [] Ya func184 call184 ntmps184 mxd (Az @Ya.eq_1 results184) rfl (fun qJ B qX qQ=> ?_);simp only[Ap]
 by_cases h1:97<=n
 ·by_cases h2:n<=122<;>exact AA Ac Ac (HB @SQ.eq_1 h1 h2)
 ·exact AA Ac Ac (Az @SQ.eq_1 h1)
theorem lI (n:Int):WT n=(Sp n||SQ n||(decide (48<=n)&&decide (n<=57))||n==95):=by
 unfold WT Sp SQ;cases decide (65<=n)<;>cases decide (n<=90)<;>cases decide (97<=n)<;>cases decide (n<=122)<;>rfl
def Yc : Ann:=⟨[],[]⟩
theorem Sc (n:Int):Ag prog 182 [.int .u8 n] (.bool (WT n)):=by
 refine Ad [] Yc func182 call182 ntmps182 mxd (Az @Yc.eq_1 results182) rfl (fun qJ B qX qQ=> ?_);simp only[Ap];rw[lI];have e1:=IG n;have e2:=IK n;cases hU:Sp n
 ·rw[hU]at e1;cases hL:SQ n
  ·rw[hL]at e2
   by_cases h5:48<=n
   ·by_cases h6:n<=57
    ·exact AA (Az e1 e2) Ac (Az h5 h6)
    ·have h7:n=95\/¬n=95:=by omega
     rcases h7 with h7 | h7
     ·subst h7;exact AA (Az e1 e2) Ac Ac
     ·exact AA (Az e1 e2) Ac (HB h5 h6 h7)
   ·have h7:¬n=95:=by omega
    exact AA (Az e1 e2) Ac (Az h5 h7)
  ·rw[hL]at e2;exact AA (Az e1 e2) Ac Ac
 ·rw[hU]at e1;exact AA (AQ e1) Ac Ac
def Et (q:Int->Bool) (s:ByteArray):Bool:=match s.data.toList with | []=>false | b::_=>q (b.toNat:Int)
theorem Xj {q:Int->Bool} {s:ByteArray} {b:UInt8} (hb:s.data.toList[0]? =some b):Et q s=q (b.toNat:Int):=by
 unfold Et
 cases hd:s.data.toList with
 | nil=>rw[hd]at hb;simp at hb
 | cons x l=>rw[hd]at hb;simp at hb;subst hb;rfl
def XZ : Ann:=⟨[],[]⟩
theorem EV (g:FuncId) (q:Int->Bool) (hq:∀n,Ag prog g [.int .u8 n] (.bool (q n))) (s:ByteArray):Ag prog 199 [.str s,.fn (.func g) [] []] (.bool (BN s&&Et q s)):=by
 refine Ad [] XZ func199 call199 ntmps199 mxd (Az @XZ.eq_1 results199) rfl (fun qJ B qX qQ=> ?_);have qD:s.size<=9223372036854775807:=by have:=qJ.1;simp only[Ef,maxLen]at this;omega
 clear qJ;simp only[Ap];obtain⟨R,hR⟩:∃R,R=(BN s&&Et q s):=⟨_,rfl⟩;rw[<-hR]
 by_cases h1:1<=s.size
 ·by_cases h2:s.size<=16
  ·have g1:¬(s.size:Int)<1:=by omega
   have g2:¬(16:Int)<s.size:=by omega
   have g0:0<s.size:=by omega
   obtain⟨b0,qH,jH,_⟩:=Ar (show 0<s.data.toList.length by rw[CF];omega);have e0:=hq (b0.toNat:Int);rw[Xj qH]at hR;cases hQ:q (b0.toNat:Int)
   ·rw[hQ]at e0 hR;have vQ:R=false:=by rw[hR];simp
    subst vQ;exact AA (AQ e0) Ac (OB g0 g1 g2 h1 h2 qH jH)
   ·rw[hQ]at e0 hR;simp only[dT0]at hR
    (refine Ba (AQ e0) Ac (OB g0 g1 g2 h1 h2 qH jH) ?_;intros;refine Al ?_)
    refine An (X:={k:Nat//k<=s.size/\AL_ s=((s.data.toList.drop k).all fun b=>WT (b.toNat:Int))}) (fun k=>⟨[(0,.str s),(23,.int .i64 s.size),(24,.int .i64 k.1)],[]⟩) (fun k=>s.size-k.1) ⟨0,by simp[AL_]⟩ (Sub.lit (by simp)) ?_;clear e0 qH jH hQ;rintro⟨k,hk,hl⟩
    by_cases qV:k<s.size
    ·obtain⟨b,hb,qL,_⟩:=Ar (show k<s.data.toList.length by rw[CF];exact qV);rw[aU0 (by rw[CF];exact qV),qL,cP0]at hl;have e1:=Gz (b.toNat:Int);have e2:=GH (b.toNat:Int);obtain⟨L,hLL⟩:∃L,L=WT (b.toNat:Int):=⟨_,rfl⟩;have hLe:=lI (b.toNat:Int);rw[<-hLL]at hl hLe;cases hU:Sp (b.toNat:Int)
     ·rw[hU]at e1;cases hV:SQ (b.toNat:Int)
      ·rw[hV]at e2
       by_cases h5:(48:Int)<=(b.toNat:Int)
       ·by_cases h6:(b.toNat:Int)<=57
        ·have h7:¬(b.toNat:Int)=95:=by omega
         have bZ:L=true:=by rw[hLe];simp[hU,hV,h5,h6]
         rw[bZ,cT0]at hl
         (refine Ba (Az e1 e2) Ac (OB qV hb qL hU hV h5 h6) ?_;intros;refine Al ?_)
         refine Ak.mk ⟨k+1,by omega,hl⟩ (Sub.lit (by simp)) (by simp;omega)
         skip
        ·by_cases h7:(b.toNat:Int)=95
         ·have bZ:L=true:=by rw[hLe];simp[hU,hV,h5,h6,h7]
          rw[h7]at e1 e2;rw[bZ,cT0]at hl
          (refine Ba (Az e1 e2) Ac (Np qV hb qL hU hV h5 h6 h7) ?_;intros;refine Al ?_)
          refine Ak.mk ⟨k+1,by omega,hl⟩ (Sub.lit (by simp)) (by simp;omega)
          skip
         ·have bZ:L=false:=by rw[hLe];simp[hU,hV,h5,h6,h7]
          rw[bZ,eA0]at hl;have vQ:R=false:=by rw[hR];unfold BN;rw[hl];simp
          subst vQ;exact AA (Az e1 e2) Ac (Np qV hb qL hU hV h5 h6 h7)
       ·have h7:¬(b.toNat:Int)=95:=by omega
        have bZ:L=false:=by rw[hLe];simp[hU,hV,h5,h7]
        rw[bZ,eA0]at hl;have vQ:R=false:=by rw[hR];unfold BN;rw[hl];simp
        subst vQ;exact AA (Az e1 e2) Ac (OB qV hb qL hU hV h5 h7)
      ·rw[hV]at e2;have bZ:L=true:=by rw[hLe];simp[hU,hV]
       rw[bZ,cT0]at hl
       (refine Ba (Az e1 e2) Ac (Lj qV hb qL hU hV) ?_;intros;refine Al ?_)
       refine Ak.mk ⟨k+1,by omega,hl⟩ (Sub.lit (by simp)) (by simp;omega)
       skip
     ·rw[hU]at e1;have bZ:L=true:=by rw[hLe];simp[hU]
      rw[bZ,cT0]at hl
      (refine Ba (AQ e1) Ac (JV qV hb qL hU) ?_;intros;refine Al ?_)
      refine Ak.mk ⟨k+1,by omega,hl⟩ (Sub.lit (by simp)) (by simp;omega)
      skip
    ·have qN:k=s.size:=by omega
     subst qN;rw[<-CF,cL0]at hl;have vQ:R=true:=by rw[hR];unfold BN;rw[hl];simp[h1,h2]
     subst vQ;exact AA Ac Ac Ac
  ·have g1:¬(s.size:Int)<1:=by omega
   have g2:(16:Int)<s.size:=by omega
   have vQ:R=false:=by rw[hR];unfold BN;simp[h2]
   subst vQ;exact AA Ac Ac (JV g1 g2 h1 h2)
 ·have g1:(s.size:Int)<1:=by omega
  have vQ:R=false:=by rw[hR];unfold BN;simp[h1]
  subst vQ;exact AA Ac Ac (Az g1 h1)
def Da (k:Int) (s:ByteArray):Bool:=if k=2 then BN s&&Et Sp s else BN s&&Et SQ s
abbrev BP (k:Int) (s:ByteArray) (n:Int):List DVal:=[.int .i64 k,.str s,.int .i64 n]
def Yd : Ann:=⟨[],[]⟩
theorem WM (k:Int) (hk:k=2\/k=3) (s:ByteArray):Ag prog 156 [.agg (BP k s 0)] (.bool (Da k s)):=by
 refine Ad [] Yd func156 call156 ntmps156 mxd (Az @Yd.eq_1 results156) rfl (fun qJ B qX qQ=> ?_);simp only[Ap];have e1:=EV 200 Sp Gz s;have e2:=EV 201 SQ GH s;unfold Da
 rcases hk with rfl | rfl
 ·exact AA (Az e1 e2) Ac (AQ @BP.eq_1)
 ·exact AA (Az e1 e2) Ac (AQ @BP.eq_1)
def Ye : Ann:=⟨[],[⟨4,[5],[],[]⟩]⟩
theorem RK (k:Int) (hk:k=2\/k=3) (s:ByteArray):Ag prog 103 [.sl 3 32 [BP k s 0]] (.bool (Da k s)):=by
 refine Ad [] Ye func103 call103 ntmps103 mxd (Az @Ye.eq_1 results103) rfl (fun qJ B qX qQ=> ?_);simp only[Ap];have e1:=WM k hk s;obtain⟨R,hR⟩:∃R,R=Da k s:=⟨_,rfl⟩;rw[<-hR]at e1 |-
 (refine Ba Ac Ac (AQ @BP.eq_1) ?_;intros;refine Al ?_)
 refine An (X:={k:Nat//k=0\/k=1/\R=true}) (fun x=>⟨[(0,.sl 3 32 [BP k s 0]),(3,.int .i64 (1-x.1)),(6,.sl 3 32 [BP k s 0]),(7,.int .i64 1),(8,.int .i64 x.1)],[]⟩) (fun x=>1-x.1) ⟨0,.inl rfl⟩ (Sub.lit (by simp[BP])) ?_;rintro⟨x,rfl | ⟨rfl,rfl⟩⟩
 ·simp only[BP]at e1;cases R
  ·exact AA (AQ e1) Ac (AQ @BP.eq_1)
  ·(refine Ba (AQ e1) Ac (AQ @BP.eq_1) ?_;intros;refine Al ?_)
   refine Ak.mk ⟨1,.inr ⟨rfl,rfl⟩⟩ (Sub.lit (by simp[BP])) (by simp)
   skip
 ·exact AA Ac Ac (AQ @BP.eq_1)
end Go.Proofs.Wy
end
section
namespace Go.Proofs.Wy
open Go Go.Dm Tryz
variable [DMode]
structure Nd where
 k:Int
 s:ByteArray
 n:Int
 deriving DecidableEq
def Bu (x:Nd):List DVal:=[.int .i64 x.k,.str x.s,.int .i64 x.n]
abbrev Bi (l:List Nd):DVal:= .sl 3 32 (l.map Bu)
structure Rul where
 h:ByteArray
 b:List Nd
 deriving DecidableEq
def BO (r:Rul):List DVal:=[.str r.h,Bi r.b]
abbrev AM (l:List Rul):DVal:= .sl 2 40 (l.map BO)
@[simp] theorem En_ (s:Nd):AJ (Bu s)=0:=by simp[Bu,AJ,mx]
@[simp] theorem FX_ (l:List Nd):Bq (l.map Bu)=0:=HM _ En_ l
@[simp] theorem CS_ (s:Rul):AJ (BO s)=0:=by simp[BO,AJ,mx]
@[simp] theorem Fr_ (l:List Rul):Bq (l.map BO)=0:=HM _ CS_ l
theorem OX {l:List Nd} (h:Ef (Bi l)):l.length<9223372036854775807:=by
 simp only[Ef,aO0]at h;omega
theorem IX {l:List Rul} (h:Ef (AM l)):l.length<9223372036854775807:=by
 simp only[Ef,aO0]at h;omega
def Zi (s:ByteArray):Bool:=decide (s=⟨#[]⟩)
def CL (x:Nd):Bool :=
 if x.k=1 then Zi x.s&&decide (x.n=0)
 else if x.k=2 then decide (x.n=0)&&(BN x.s&&Et Sp x.s)
 else if x.k=3 then decide (x.n=0)&&(BN x.s&&Et SQ x.s)
 else if x.k=4 then Zi x.s&&decide (2<=x.n)
 else if x.k=5 then Zi x.s&&decide (2<=x.n)
 else if x.k=6 then Zi x.s&&decide (x.n=1)
 else if x.k=7 then Zi x.s&&decide (x.n=1)
 else if x.k=8 then Zi x.s&&decide (x.n=1)
 else false
theorem GZ {x:Nd} (h:CL x=true):0<=x.n:=by
 unfold CL at h
 repeat' split at h
 all_goals simp only[aM0,decide_eq_true_eq,bE0]at h
 all_goals first | omega | (exact absurd h (by simp)) | (obtain⟨h1,h2⟩:=h;omega)
theorem MS {x:Nd} (h:CL x=true):x.k=1\/x.k=2\/x.k=3\/x.k=4\/x.k=5\/x.k=6\/x.k=7\/x.k=8:=by
 unfold CL at h
 repeat' split at h
 all_goals first | omega | (exact absurd h (by simp))
theorem MQ {x:Nd} (h:CL x=true):x.s.size<=16:=by
 have hn:∀s,BN s=true->s.size<=16:=fun s hs=>by unfold BN at hs;simp only[aM0,decide_eq_true_eq]at hs;exact hs.1.2
 have he:∀s,Zi s=true->s.size<=16:=fun s hs=>by unfold Zi at hs;simp only[decide_eq_true_eq]at hs;subst hs;decide
 unfold CL at h
 repeat' split at h
 all_goals simp only[aM0,decide_eq_true_eq,bE0]at h
 all_goals first | exact he _ h.1 | exact hn _ h.2.1 | (exact absurd h (by simp))
inductive RT where
 | mk (x:Nd) (ks:List RT)
def RT.x : RT->Nd
 | .mk x _=>x
def RT.ks : RT->List RT
 | .mk _ ks=>ks
mutual
def flat : RT->List Nd
 | .mk x ks=>x::Ah ks
def Ah : List RT->List Nd
 | []=>[]
 | t::ts=>flat t++Ah ts
end
mutual
def DR : RT->Bool
 | .mk x ks=>CL x&&(decide (x.n=(ks.length:Int))&&Fs ks)
def Fs : List RT->Bool
 | []=>true
 | t::ts=>DR t&&Fs ts
end
theorem BJ {x:Nd} {ks:List RT} (h:DR (.mk x ks)=true):CL x=true/\x.n=(ks.length:Int)/\Fs ks=true:=by
 unfold DR at h;simp only[aM0,decide_eq_true_eq]at h;exact h
theorem BG {t:RT} {ts:List RT} (h:Fs (t::ts)=true):DR t=true/\Fs ts=true:=by
 unfold Fs at h;simp only[aM0]at h;exact h
theorem OS {ts:List RT} (h:Fs ts=true):∀t∈ts,DR t=true:=by
 induction ts with
 | nil=>simp
 | cons t ts ih =>
  obtain⟨h1,h2⟩:=BG h;intro u hu
  rcases aL0.1 hu with rfl | hu
  ·exact h1
  ·exact ih h2 u hu
theorem OT : ∀(a b:List RT),Fs (a++b)=(Fs a&&Fs b)
 | [],b=>by simp[Fs]
 | t::a,b=>by simp[Fs,OT a b,eM0]
theorem Dy : ∀(a b:List RT),Ah (a++b)=Ah a++Ah b
 | [],b=>by simp[Ah]
 | t::a,b=>by simp[Ah,Dy a b]
theorem FY (t:RT):1<=(flat t).length:=by cases t;simp[flat]
theorem Ax (x:Nd) (ks:List RT):flat (.mk x ks)=x::Ah ks:=by rw[flat]
theorem Ao (t:RT) (ts:List RT):Ah (t::ts)=flat t++Ah ts:=by rw[Ah]
def EG : List Nd->Nat->Option (List Nd)
 | l,0=>some l
 | [],_+1=>none
 | x::l,w+1=>if CL x then EG l (w+x.n.toNat)else none
theorem Cn (l:List Nd):EG l 0=some l:=by unfold EG;cases l<;>rfl
theorem Hn (w:Nat):EG [] (w+1)=none:=by unfold EG;rfl
theorem Dz (x:Nd) (l:List Nd) (w:Nat):EG (x::l) (w+1)=if CL x then EG l (w+x.n.toNat)else none:=by rw[EG]
mutual
theorem FG : ∀(t:RT) (r:List Nd) (w:Nat),DR t=true->EG (flat t++r) (w+1)=EG r w
 | .mk x ks,r,w,h=>by
  obtain⟨h1,h2,h3⟩:=BJ h;rw[Ax,List.cons_append,Dz,if_pos h1,h2,cB0];exact QH ks r w h3
theorem QH : ∀(ts:List RT) (r:List Nd) (w:Nat),Fs ts=true->EG (Ah ts++r) (w+ts.length)=EG r w
 | [],r,w,h=>by simp[Ah]
 | t::ts,r,w,h=>by
  obtain⟨h1,h2⟩:=BG h;rw[Ao,aS0,List.length_cons,<-cE0,FG t _ _ h1,QH ts r w h2]
end
theorem tW : ∀(l:List Nd) (w:Nat) (r:List Nd),EG l w=some r->∃ts:List RT,ts.length=w/\Fs ts=true/\l=Ah ts++r:=by
 intro l
 induction l with
 | nil =>
  intro w r h
  cases w with
  | zero=>rw[Cn]at h;simp only[aA0]at h;exact⟨[],rfl,rfl,by simp[Ah,h]⟩
  | succ w=>rw[Hn]at h;simp at h
 | cons x l ih =>
  intro w r h
  cases w with
  | zero=>rw[Cn]at h;simp only[aA0]at h;exact⟨[],rfl,rfl,by simp[Ah,h]⟩
  | succ w =>
   rw[Dz]at h
   split at h
   ·rename_i hm;obtain⟨ts,h1,h2,rfl⟩:=ih _ _ h;have hk:=GZ hm;refine⟨.mk x (ts.take x.n.toNat)::ts.drop x.n.toNat,by simp;omega,?_,?_⟩
    ·have h3:=OT (ts.take x.n.toNat) (ts.drop x.n.toNat);rw[List.take_append_drop,h2]at h3;have h4:Fs (ts.take x.n.toNat)=true/\Fs (ts.drop x.n.toNat)=true:=by simpa using h3.symm
     have h5:x.n=((ts.take x.n.toNat).length:Int):=by rw[aW0];omega
     unfold Fs DR;rw[hm,decide_eq_true h5,h4.1,h4.2];rfl
    ·rw[Ao,Ax,List.cons_append,List.cons_append,aS0,<-aS0 (Ah _),<-Dy,List.take_append_drop]
   ·simp at h
theorem QI : ∀(l:List Nd) (w:Nat),l.length<w->EG l w=none
 | _,0,h=>by omega
 | [],w+1,_=>Hn w
 | x::l,w+1,h=>by
  rw[Dz]
  split
  ·exact QI l _ (by simp at h;omega)
  ·rfl
def CY (l:List Nd):Bool:=match EG l 1 with
 | some []=>true
 | _=>false
theorem KG {l:List Nd} (h:CY l=true):∃t,DR t=true/\l=flat t:=by
 unfold CY at h
 split at h
 ·rename_i he;obtain⟨ts,h1,h2,h3⟩:=tW _ _ _ he
  match ts,h1,h2,h3 with
  | [t],_,h2,h3 =>
   refine⟨t,(BG h2).1,?_⟩;rw[h3,Ao];simp[Ah]
 ·simp at h
theorem EM {t:RT} (h:DR t=true):CY (flat t)=true:=by
 unfold CY;have:=FG t [] 0 h;rw[bO0,Cn]at this;rw[this]
theorem OQ {t:RT} (h:DR t=true):∀x∈flat t,CL x=true:=by
 have key:∀(l:List Nd) (w:Nat) (r:List Nd),EG l w=some r->∀x∈l,x∈r\/CL x=true:=by
  intro l
  induction l with
  | nil=>intro w r _ x hx;simp at hx
  | cons y l ih =>
   intro w r he x hx
   cases w with
   | zero=>rw[Cn]at he;simp only[aA0]at he;subst he;exact .inl hx
   | succ w =>
    rw[Dz]at he
    split at he
    ·rename_i hm
     rcases aL0.1 hx with rfl | hx
     ·exact .inr hm
     ·exact ih _ _ he x hx
    ·simp at he
 intro x hx;have:=FG t [] 0 h;rw[bO0,Cn]at this
 rcases key _ _ _ this x hx with h | h
 ·simp at h
 ·exact h
theorem Dx : ∀ts:List RT,ts.length<=(Ah ts).length
 | []=>by simp
 | t::ts=>by
  have:=Dx ts;have:=FY t;rw[Ao];simp;omega
mutual
theorem Qq : ∀(t:RT),DR t=true->∀x∈flat t,x.n<=((flat t).length:Int)
 | .mk y ks,h,x,hx=>by
  obtain⟨h1,h2,h3⟩:=BJ h;have:=Dx ks;rw[Ax]at hx |-;rw[List.length_cons]
  rcases aL0.1 hx with rfl | hx
  ·omega
  ·have:=Xc ks h3 x hx;omega
theorem Xc : ∀(ts:List RT),Fs ts=true->∀x∈Ah ts,x.n<=((Ah ts).length:Int)
 | [],_,x,hx=>by simp[Ah]at hx
 | t::ts,h,x,hx=>by
  obtain⟨h1,h2⟩:=BG h;rw[Ao]at hx |-;rw[aE0]
  rcases aC0.1 hx with hx | hx
  ·have:=Qq t h1 x hx;omega
  ·have:=Xc ts h2 x hx;omega
end
mutual
def Iv : RT->Nat
 | .mk _ ks=>Sd ks+1
def Sd : List RT->Nat
 | []=>0
 | t::ts=>max (Iv t) (Sd ts)
end
theorem UL (x:Nd) (ks:List RT):Iv (.mk x ks)=Sd ks+1:=by rw[Iv]
theorem Hf (t:RT) (ts:List RT):Sd (t::ts)=max (Iv t) (Sd ts):=by rw[Sd]
theorem LR : Sd []=0:=by rw[Sd]
def fin : List Nat->List Nat
 | []=>[]
 | c::s=>if c=1 then fin s else (c-1)::s
def Es (p:List Nat×Nat) (x:Nd):List Nat×Nat:=(if x.n.toNat=0 then fin p.1 else x.n.toNat::p.1,max p.2 (p.1.length+1))
mutual
theorem KX : ∀(t:RT) (s:List Nat) (m:Nat),DR t=true->(flat t).foldl Es (s,m)=(fin s,max m (s.length+Iv t))
 | .mk x ks,s,m,h=>by
  obtain⟨h1,h2,h3⟩:=BJ h;rw[Ax,cH0,UL];unfold Es;rw[h2,cB0]
  cases ks with
  | nil=>simp[Ah,LR]
  | cons t ts =>
   have:=NI (t::ts) s (max m (s.length+1)) h3 (by simp);simp only[List.length_cons]at this |-;rw[if_neg (by omega)];unfold Es at this;rw[this]
   congr 1
   omega
theorem NI : ∀(ts:List RT) (s:List Nat) (m:Nat),Fs ts=true->ts≠[]->(Ah ts).foldl Es (ts.length::s,m)=(fin s,max m (s.length+1+Sd ts))
 | [],s,m,h,qB=>absurd rfl qB
 | [t],s,m,h,qB=>by
  obtain⟨h1,h2⟩:=BG h;have:=KX t (1::s) m h1;rw[Ao,cV0];simp only[List.length_cons,List.length_nil,bN0]at this |-;rw[this,Hf,LR];simp[Ah,fin]
 | t::u::r,s,m,h,qB=>by
  obtain⟨h1,h2⟩:=BG h;have h3:=KX t (((u::r).length+1)::s) m h1;have h4:=NI (u::r) s (max m (s.length+1+Iv t)) h2 (by simp);rw[Ao,cV0,List.length_cons,h3]
  have e:fin (((u::r).length+1)::s)=(u::r).length::s:=by
   simp only[fin];rw[if_neg (by simp)];simp
  rw[e];have e2:max m ((((u::r).length+1)::s).length+Iv t)=max m (s.length+1+Iv t):=by rw[List.length_cons]
  rw[e2,h4,Hf t]
  congr 1
  omega
end
theorem Jf {t:RT} (h:DR t=true):(flat t).foldl Es ([],0)=([],Iv t):=by
 rw[KX t [] 0 h];simp[fin]
def Ae_ : List Nat->List Nat
 | []=>[]
 | c::s=>if c=0 then fin s else c::s
def Gg (s:List Nat):Prop:=∀c∈s,1<=c/\c<=1572864
theorem rQ {c:Nat} {s:List Nat} (h:1<=c):Ae_ ((c-1)::s)=fin (c::s):=by
 rw[show Ae_ ((c-1)::s)=if c-1=0 then fin s else (c-1)::s from rfl,show fin (c::s)=if c=1 then fin s else (c-1)::s from rfl]
 by_cases h1:c=1
 ·rw[if_pos (by omega),if_pos h1]
 ·rw[if_neg (by omega),if_neg h1]
theorem lQ : ∀s:List Nat,(fin s).length<=s.length
 | []=>by simp[fin]
 | c::s=>by
  unfold fin
  split
  ·have:=lQ s;simp;omega
  ·simp
theorem lP : ∀{s:List Nat},Gg s->Gg (fin s)
 | [],_=>by intro c hc;simp[fin]at hc
 | c::s,h=>by
  unfold fin
  split
  ·exact lP fun d hd=>h d (aI0 _ hd)
  ·intro d hd;have hc:=h c aK0
   rcases aL0.1 hd with rfl | hd
   ·omega
   ·exact h d (aI0 _ hd)
theorem tI (p:List Nat×Nat) (x:Nd):(Es p x).1.length<=p.1.length+1:=by
 unfold Es;simp only
 split
 ·have:=lQ p.1;omega
 ·simp
theorem tH {p:List Nat×Nat} (x:Nd) (hx:x.n.toNat<=1572864) (h:Gg p.1):Gg (Es p x).1:=by
 unfold Es;simp only
 split
 ·exact lP h
 ·intro d hd
  rcases aL0.1 hd with rfl | hd
  ·omega
  ·exact h d hd
theorem rR (c:Nat) (s:List Nat):Ae_ (c::s)=if c=0 then fin s else c::s:=rfl
def HW (s:List Nat):List (List DVal):=(s.map fun c:Nat=>[DVal.int .i64 (c:Int)]).reverse
theorem Ew (s:List Nat):(HW s).length=s.length:=by simp[HW]
theorem Ho (c:Nat) (s:List Nat):HW (c::s)=HW s++[[.int .i64 (c:Int)]]:=by simp[HW]
theorem CS : HW []=[]:=rfl
@[simp] theorem FV_ (s:List Nat):Bq (HW s)=0:=by
 unfold HW
 exact Nat.le_zero.1 (OV fun d hd=>by
  obtain⟨c,_,rfl⟩:=aQ0.1 (List.mem_reverse.1 hd)
  simp[AJ,mx])
theorem XG (c:Nat) (s:List Nat):(HW (c::s))[s.length]? =some [.int .i64 (c:Int)]:=by
 rw[Ho,bD0 (by rw[Ew];omega),Ew,eB0];rfl
theorem tZ (c:Nat) (s:List Nat):(HW (c::s)).take s.length=HW s:=by
 rw[Ho,List.take_append_of_le_length (by rw[Ew];omega),cR0 (by rw[Ew];omega)]
theorem BB_ (c d:Nat) (s:List Nat):(HW (c::s)).set s.length [.int .i64 (d:Int)]=HW (d::s):=by
 rw[Ho,Ho,List.set_append_right _ _ (by rw[Ew];omega),Ew,eB0];rfl
mutual
def DD : RT->Bool
 | .mk x ks=>if x.k=2\/x.k=3 then false else if x.k=5 then Fi ks else if x.k=4\/x.k=7 then Fp ks else true
def Fi : List RT->Bool
 | []=>false
 | t::ts=>DD t||Fi ts
def Fp : List RT->Bool
 | []=>true
 | t::ts=>DD t&&Fp ts
end
theorem UT (x:Nd) (ks:List RT):DD (.mk x ks)=if x.k=2\/x.k=3 then false else if x.k=5 then Fi ks else if x.k=4\/x.k=7 then Fp ks else true:=by rw[DD]
theorem Rk : ∀ts:List RT,Fi ts=ts.any DD
 | []=>by rw[Fi];rfl
 | t::ts=>by rw[Fi,Rk ts];rfl
theorem Ro : ∀ts:List RT,Fp ts=ts.all DD
 | []=>by rw[Fp];rfl
 | t::ts=>by rw[Fp,Ro ts];rfl
theorem No (t:RT) (ts:List RT):Fp (t::ts)=(DD t&&Fp ts):=by rw[Fp]
theorem Jz : Fp []=true:=by rw[Fp]
theorem TC (ts:List RT) (t:RT):Fp (ts++[t])=(Fp ts&&DD t):=by rw[Ro,Ro,List.all_append];simp
def BH (l f:List Nat):List (Nat×Nat):=l.flatMap fun p=>f.map fun q=>(p,q)
theorem Cl {l f:List Nat} {p q:Nat}:(p,q)∈BH l f↔p∈l/\q∈f:=by
 unfold BH;simp only[bW0,aQ0,_root_.Prod.mk.injEq]
 constructor
 ·rintro⟨a,ha,b,hb,rfl,rfl⟩;exact⟨ha,hb⟩
 ·rintro⟨ha,hb⟩;exact⟨p,ha,q,hb,rfl,rfl⟩
theorem sZ (f:List Nat):BH [] f=[]:=rfl
mutual
def VA : RT->Nat->List Nat
 | .mk x ks,a=>if x.k=2\/x.k=3 then [a]else Sf x.k ks (a+1)
def Sf (k:Int):List RT->Nat->List Nat
 | [],_=>[]
 | u::us,a=>VA u a++(if k=4/\DD u=false then []else Sf k us (a+(flat u).length))
end
mutual
def MX : RT->Nat->List Nat
 | .mk x ks,a=>if x.k=2\/x.k=3 then [a]else MB x.k ks (a+1)
def MB (k:Int):List RT->Nat->List Nat
 | [],_=>[]
 | u::us,a=>if k=4 then MB k us (a+(flat u).length)++(if Fp us=true then MX u a else [])else MX u a++MB k us (a+(flat u).length)
end
mutual
def VB : RT->Nat->List (Nat×Nat)
 | .mk x ks,a=>if x.k=2\/x.k=3 then []else VC x.k ks (a+1) []++(if x.k=6\/x.k=7 then BH (MB x.k ks (a+1)) (Sf x.k ks (a+1))else [])
def VC (k:Int):List RT->Nat->List Nat->List (Nat×Nat)
 | [],_,_=>[]
 | u::us,a,acc=>VB u a++((if k=4 then BH acc (VA u a)else [])++VC k us (a+(flat u).length) (if k=4 then MX u a++(if DD u=true then acc else [])else []))
end
theorem La (x:Nd) (ks:List RT) (a:Nat):VA (.mk x ks) a=if x.k=2\/x.k=3 then [a]else Sf x.k ks (a+1):=by rw[VA]
theorem HV (k:Int) (a:Nat):Sf k [] a=[]:=by rw[Sf]
theorem Hm (k:Int) (u:RT) (us:List RT) (a:Nat):Sf k (u::us) a=VA u a++(if k=4/\DD u=false then []else Sf k us (a+(flat u).length)):=by rw[Sf]
theorem HQ (x:Nd) (ks:List RT) (a:Nat):MX (.mk x ks) a=if x.k=2\/x.k=3 then [a]else MB x.k ks (a+1):=by rw[MX]
theorem EW (k:Int) (a:Nat):MB k [] a=[]:=by rw[MB]
theorem Ep (k:Int) (u:RT) (us:List RT) (a:Nat):MB k (u::us) a=if k=4 then MB k us (a+(flat u).length)++(if Fp us=true then MX u a else [])else MX u a++MB k us (a+(flat u).length):=by rw[MB]
theorem Jx (x:Nd) (ks:List RT) (a:Nat):VB (.mk x ks) a=if x.k=2\/x.k=3 then []else VC x.k ks (a+1) []++(if x.k=6\/x.k=7 then BH (MB x.k ks (a+1)) (Sf x.k ks (a+1))else []):=by rw[VB]
theorem Ia (k:Int) (a:Nat) (acc:List Nat):VC k [] a acc=[]:=by rw[VC]
theorem EA (k:Int) (u:RT) (us:List RT) (a:Nat) (acc:List Nat):VC k (u::us) a acc=VB u a++((if k=4 then BH acc (VA u a)else [])++VC k us (a+(flat u).length) (if k=4 then MX u a++(if DD u=true then acc else [])else [])):=by rw[VC]
theorem BR : Ah []=[]:=by rw[Ah]
theorem Jn (k:Int) (u:RT):∀(us:List RT) (a:Nat),Sf k (us++[u]) a=Sf k us a++(if k=4/\Fp us=false then []else VA u (a+(Ah us).length))
 | [],a=>by simp[HV,Hm,Jz,BR]
 | v::us,a=>by
  rw[List.cons_append,Hm,Hm,Jn k u us,No,Ao,aE0,<-cE0,aS0]
  by_cases h4:k=4<;>cases hv:DD v<;>simp[h4]
theorem Ja (k:Int) (u:RT):∀(us:List RT) (a:Nat),MB k (us++[u]) a=if k=4 then MX u (a+(Ah us).length)++(if DD u=true then MB k us a else [])else MB k us a++MX u (a+(Ah us).length)
 | [],a=>by simp[EW,Ep,Jz,BR]
 | v::us,a=>by
  rw[List.cons_append,Ep,Ep,Ja k u us,TC,Ao,aE0,<-cE0]
  by_cases h4:k=4
  ·cases hu:DD u<;>cases hs:Fp us<;>simp[h4]
  ·simp[h4]
theorem Nn (u:RT):∀(us:List RT) (a:Nat) (acc:List Nat),VC 4 (us++[u]) a acc=VC 4 us a acc++(VB u (a+(Ah us).length)++BH (MB 4 us a++(if Fp us=true then acc else [])) (VA u (a+(Ah us).length)))
 | [],a,acc=>by simp[Ia,EA,EW,Jz,BR]
 | v::us,a,acc=>by
  rw[List.cons_append,EA,EA,Nn u us,No,Ao,aE0,<-cE0,Ep];cases hv:DD v<;>cases hs:Fp us<;>simp[aS0]
theorem Rj (k:Int) (h4:¬k=4) (u:RT):∀(us:List RT) (a:Nat),VC k (us++[u]) a []=VC k us a []++VB u (a+(Ah us).length)
 | [],a=>by simp[Ia,EA,BR,h4]
 | v::us,a=>by
  rw[List.cons_append,EA,EA,Ao,aE0,<-cE0];simp only[h4,if_false,List.nil_append];rw[Rj k h4 u us,aS0]
-- where these lie
mutual
theorem QE : ∀(t:RT) (a q:Nat),q∈VA t a->a<=q/\q<a+(flat t).length
 | .mk x ks,a,q,h=>by
  rw[La]at h;rw[Ax,List.length_cons]
  split at h
  ·simp at h;omega
  ·have:=Lb x.k ks (a+1) q h;omega
theorem Lb (k:Int):∀(us:List RT) (a q:Nat),q∈Sf k us a->a<=q/\q<a+(Ah us).length
 | [],a,q,h=>by simp[HV]at h
 | u::us,a,q,h=>by
  rw[Hm,aC0]at h;rw[Ao,aE0]
  rcases h with h | h
  ·have:=QE u a q h;omega
  ·split at h
   ·simp at h
   ·have:=Lb k us _ q h;omega
end
mutual
theorem KS : ∀(t:RT) (a q:Nat),q∈MX t a->a<=q/\q<a+(flat t).length
 | .mk x ks,a,q,h=>by
  rw[HQ]at h;rw[Ax,List.length_cons]
  split at h
  ·simp at h;omega
  ·have:=Jb x.k ks (a+1) q h;omega
theorem Jb (k:Int):∀(us:List RT) (a q:Nat),q∈MB k us a->a<=q/\q<a+(Ah us).length
 | [],a,q,h=>by simp[EW]at h
 | u::us,a,q,h=>by
  rw[Ep]at h;rw[Ao,aE0]
  have key:q∈MX u a\/q∈MB k us (a+(flat u).length):=by
   split at h
   ·rcases aC0.1 h with h | h
    ·exact .inr h
    ·split at h
     ·exact .inl h
     ·simp at h
   ·exact aC0.1 h
  rcases key with h | h
  ·have:=KS u a q h;omega
  ·have:=Jb k us _ q h;omega
end
mutual
theorem BU_ : ∀(t:RT) (a p q:Nat),(p,q)∈VB t a->(a<=p/\p<a+(flat t).length)/\(a<=q/\q<a+(flat t).length)
 | .mk x ks,a,p,q,h=>by
  rw[Jx]at h;rw[Ax,List.length_cons]
  split at h
  ·simp at h
  ·rcases aC0.1 h with h | h
   ·rcases Vg x.k ks (a+1) [] p q h with ⟨h1 | h1,h2⟩
    ·omega
    ·simp at h1
   ·split at h
    ·obtain⟨h1,h2⟩:=Cl.1 h;have:=Jb x.k ks _ p h1;have:=Lb x.k ks _ q h2;omega
    ·simp at h
theorem Vg (k:Int):∀(us:List RT) (a:Nat) (acc:List Nat) (p q:Nat),(p,q)∈VC k us a acc->((a<=p/\p<a+(Ah us).length)\/p∈acc)/\(a<=q/\q<a+(Ah us).length)
 | [],a,acc,p,q,h=>by simp[Ia]at h
 | u::us,a,acc,p,q,h=>by
  rw[EA]at h;rw[Ao,aE0];simp only[aC0]at h
  rcases h with h | h | h
  ·have:=BU_ u a p q h;omega
  ·split at h
   ·obtain⟨h1,h2⟩:=Cl.1 h;have:=QE u a q h2;exact⟨.inr h1,by omega⟩
   ·simp at h
  ·obtain⟨h1,h2⟩:=Vg k us _ _ p q h;refine⟨?_,by omega⟩
   rcases h1 with h1 | h1
   ·left;omega
   ·split at h1
    ·rcases aC0.1 h1 with h1 | h1
     ·have:=KS u a p h1;left;omega
     ·split at h1
      ·exact .inr h1
      ·simp at h1
    ·simp at h1
end
def inB (u:RT) (a p:Nat):Bool:=decide (a<=p)&&decide (p<a+(flat u).length)
theorem Dc_ {u:RT} {a p:Nat}:inB u a p=true↔a<=p/\p<a+(flat u).length:=by unfold inB;simp
mutual
def enT : RT->Nat->Nat->Bool
 | .mk x ks,a,p=>decide (a=p)||enL x.k ks (a+1) p
def enL (k:Int):List RT->Nat->Nat->Bool
 | [],_,_=>false
 | u::us,a,p=>enL k us (a+(flat u).length) p||((!decide (k=4)||Fp us)&&(inB u a p&&enT u a p))
end
theorem Ex_ (x:Nd) (ks:List RT) (a p:Nat):enT (.mk x ks) a p=(decide (a=p)||enL x.k ks (a+1) p):=by rw[enT]
theorem lT (k:Int) (a p:Nat):enL k [] a p=false:=by rw[enL]
theorem Bz_ (k:Int) (u:RT) (us:List RT) (a p:Nat):enL k (u::us) a p=(enL k us (a+(flat u).length) p||((!decide (k=4)||Fp us)&&(inB u a p&&enT u a p))):=by rw[enL]
def Lf (l:List Nd) (a p:Nat):Prop:=∀x,a<=p->l[p-a]? =some x->x.k=2\/x.k=3
theorem Lf.left {l m:List Nd} {a p:Nat} (h:Lf (l++m) a p):Lf l a p:=fun x h1 h2=>h x h1 (by
 rw[bC0 (aF0.1 h2).1];exact h2)
theorem Lf.right {l m:List Nd} {a p:Nat} (h:Lf (l++m) a p):Lf m (a+l.length) p:=fun x h1 h2=>h x (by omega) (by
 rw[bD0 (by omega),Nat.sub_sub];exact h2)
theorem Lf.kids {x:Nd} {ks:List RT} {a p:Nat} (h:Lf (flat (.mk x ks)) a p):Lf (Ah ks) (a+1) p:=fun y h1 h2=>h y (by omega) (by
 rw[Ax,show p-a=(p-(a+1))+1 by omega,bL0];exact h2)
theorem Lf.head {x:Nd} {ks:List RT} {a p:Nat} (h:Lf (flat (.mk x ks)) a p) (hx:¬(x.k=2\/x.k=3)):a≠p:=fun e=>hx (h x (by omega) (by rw[Ax,show p-a=0 by omega];rfl))
theorem IY {x:Nd} {ks:List RT} (h:DR (.mk x ks)=true) (hx:x.k=2\/x.k=3):ks=[]:=by
 obtain⟨h1,h2,_⟩:=BJ h;unfold CL at h1
 have h0:x.n=0:=by
  rcases hx with hx | hx
  ·rw[if_neg (by omega),if_pos hx]at h1;simp only[aM0,decide_eq_true_eq]at h1;exact h1.1
  ·rw[if_neg (by omega),if_neg (by omega),if_pos hx]at h1;simp only[aM0,decide_eq_true_eq]at h1;exact h1.1
 exact bM0 (by omega)
theorem OP {x:Nd} {ks:List RT} (h:DR (.mk x ks)=true) (hx:x.k=6\/x.k=7\/x.k=8):∃u,ks=[u]:=by
 obtain⟨h1,h2,_⟩:=BJ h;unfold CL at h1
 have h0:x.n=1:=by
  rcases hx with hx | hx | hx<;>simp[hx]at h1<;>exact h1.2
 exact List.length_eq_one_iff.1 (by omega)
mutual
theorem aT : ∀(t:RT) (a p:Nat),DR t=true->Lf (flat t) a p->(p∈MX t a↔enT t a p=true)
 | .mk x ks,a,p,ok,hl=>by
  rw[HQ,Ex_]
  by_cases hx:x.k=2\/x.k=3
  ·rw[if_pos hx,IY ok hx,lT];simp only[aG0,Bool.or_false,decide_eq_true_eq];exact eq_comm
  ·have qB:=hl.head hx;rw[if_neg hx,decide_eq_false qB,Bool.false_or];exact lU x.k ks (a+1) p (BJ ok).2.2 hl.kids
theorem lU (k:Int):∀(us:List RT) (a p:Nat),Fs us=true->Lf (Ah us) a p->(p∈MB k us a↔enL k us a p=true)
 | [],a,p,_,_=>by simp[EW,lT]
 | u::us,a,p,ok,hl=>by
  obtain⟨ok1,ok2⟩:=BG ok;rw[Ao]at hl;have i1:=aT u a p ok1 hl.left;have i2:=lU k us _ p ok2 hl.right;rw[Ep,Bz_,cO0,aM0,aM0,<-i2]
  have e1:p∈MX u a↔(inB u a p=true/\enT u a p=true):=by
   rw[<-i1];exact⟨fun h=>⟨Dc_.2 (KS u a p h),h⟩,fun h=>h.2⟩
  rw[<-e1]
  by_cases h4:k=4
  ·rw[if_pos h4,aC0];cases hs:Fp us<;>simp[h4]
  ·rw[if_neg h4,aC0];simp only[h4,decide_false,Bool.not_false,Bool.true_or,true_and];exact or_comm
end
mutual
theorem WZ : ∀(t:RT) (a:Nat),(MX t a).Nodup
 | .mk x ks,a=>by
  rw[HQ]
  split
  ·simp
  ·exact SU x.k ks (a+1)
theorem SU (k:Int):∀(us:List RT) (a:Nat),(MB k us a).Nodup
 | [],a=>by rw[EW];simp
 | u::us,a=>by
  have h1:=WZ u a;have h2:=SU k us (a+(flat u).length);rw[Ep]
  split
  ·refine bS0.2 ⟨h2,?_,?_⟩
   ·split
    ·exact h1
    ·simp
   ·rintro x hx y hy rfl
    split at hy
    ·have:=Jb k us _ x hx;have:=KS u a x hy;omega
    ·simp at hy
  ·refine bS0.2 ⟨h1,h2,?_⟩;rintro x hx y hy rfl;have:=Jb k us _ x hy;have:=KS u a x hx;omega
end
-- what begins and ends are occurrences
mutual
theorem Hl : ∀(t:RT) (a q:Nat),q∈VA t a->∃x,(flat t)[q-a]? =some x/\(x.k=2\/x.k=3)
 | .mk x ks,a,q,h=>by
  rw[La]at h
  split at h
  ·rename_i hx;simp at h;subst h;exact⟨x,by rw[Ax,eB0];rfl,hx⟩
  ·have h1:=Lb x.k ks _ q h;obtain⟨y,hy,hk⟩:=LX x.k ks _ q h;refine⟨y,?_,hk⟩;rw[Ax,show q-a=(q-(a+1))+1 by omega,bL0];exact hy
theorem LX (k:Int):∀(us:List RT) (a q:Nat),q∈Sf k us a->∃x,(Ah us)[q-a]? =some x/\(x.k=2\/x.k=3)
 | [],a,q,h=>by simp[HV]at h
 | u::us,a,q,h=>by
  rw[Hm,aC0]at h;rw[Ao]
  rcases h with h | h
  ·have h1:=QE u a q h;obtain⟨y,hy,hk⟩:=Hl u a q h;exact⟨y,by rw[bC0 (by omega)];exact hy,hk⟩
  ·split at h
   ·simp at h
   ·have h1:=Lb k us _ q h;obtain⟨y,hy,hk⟩:=LX k us _ q h;exact⟨y,by rw[bD0 (by omega),Nat.sub_sub];exact hy,hk⟩
end
mutual
theorem IZ : ∀(t:RT) (a q:Nat),q∈MX t a->∃x,(flat t)[q-a]? =some x/\(x.k=2\/x.k=3)
 | .mk x ks,a,q,h=>by
  rw[HQ]at h
  split at h
  ·rename_i hx;simp at h;subst h;exact⟨x,by rw[Ax,eB0];rfl,hx⟩
  ·have h1:=Jb x.k ks _ q h;obtain⟨y,hy,hk⟩:=Qp x.k ks _ q h;refine⟨y,?_,hk⟩;rw[Ax,show q-a=(q-(a+1))+1 by omega,bL0];exact hy
theorem Qp (k:Int):∀(us:List RT) (a q:Nat),q∈MB k us a->∃x,(Ah us)[q-a]? =some x/\(x.k=2\/x.k=3)
 | [],a,q,h=>by simp[EW]at h
 | u::us,a,q,h=>by
  rw[Ep]at h;rw[Ao]
  have key:q∈MX u a\/q∈MB k us (a+(flat u).length):=by
   split at h
   ·rcases aC0.1 h with h | h
    ·exact .inr h
    ·split at h
     ·exact .inl h
     ·simp at h
   ·exact aC0.1 h
  rcases key with h | h
  ·have h1:=KS u a q h;obtain⟨y,hy,hk⟩:=IZ u a q h;exact⟨y,by rw[bC0 (by omega)];exact hy,hk⟩
  ·have h1:=Jb k us _ q h;obtain⟨y,hy,hk⟩:=Qp k us _ q h;exact⟨y,by rw[bD0 (by omega),Nat.sub_sub];exact hy,hk⟩
end
mutual
theorem Jy : ∀(t:RT) (a p q:Nat),(p,q)∈VB t a->(∃x,(flat t)[p-a]? =some x/\(x.k=2\/x.k=3))/\(∃x,(flat t)[q-a]? =some x/\(x.k=2\/x.k=3))
 | .mk x ks,a,p,q,h=>by
  rw[Jx]at h
  have lift:∀r,a+1<=r->(∃x,(Ah ks)[r-(a+1)]? =some x/\(x.k=2\/x.k=3))->∃y,(flat (.mk x ks))[r-a]? =some y/\(y.k=2\/y.k=3):=by
   rintro r hr ⟨y,hy,hk⟩;refine⟨y,?_,hk⟩;rw[Ax,show r-a=(r-(a+1))+1 by omega,bL0];exact hy
  split at h
  ·simp at h
  ·rcases aC0.1 h with h | h
   ·have h1:=Vg x.k ks _ [] p q h;obtain⟨h2,h3⟩:=XT x.k ks _ [] p q h;simp only[List.not_mem_nil,or_false]at h1 h2;exact⟨lift p h1.1.1 h2,lift q h1.2.1 h3⟩
   ·split at h
    ·obtain⟨h1,h2⟩:=Cl.1 h;exact⟨lift p (Jb x.k ks _ p h1).1 (Qp x.k ks _ p h1),lift q (Lb x.k ks _ q h2).1 (LX x.k ks _ q h2)⟩
    ·simp at h
theorem XT (k:Int):∀(us:List RT) (a:Nat) (acc:List Nat) (p q:Nat),(p,q)∈VC k us a acc->((∃x,(Ah us)[p-a]? =some x/\(x.k=2\/x.k=3))\/p∈acc)/\(∃x,(Ah us)[q-a]? =some x/\(x.k=2\/x.k=3))
 | [],a,acc,p,q,h=>by simp[Ia]at h
 | u::us,a,acc,p,q,h=>by
  rw[EA]at h;rw[Ao]
  have l1:∀r,a<=r/\r<a+(flat u).length->(∃x,(flat u)[r-a]? =some x/\(x.k=2\/x.k=3))->∃y,(flat u++Ah us)[r-a]? =some y/\(y.k=2\/y.k=3):=by
   rintro r hr ⟨y,hy,hk⟩;exact⟨y,by rw[bC0 (by omega)];exact hy,hk⟩
  have l2:∀r,a+(flat u).length<=r->(∃x,(Ah us)[r-(a+(flat u).length)]? =some x/\(x.k=2\/x.k=3))->∃y,(flat u++Ah us)[r-a]? =some y/\(y.k=2\/y.k=3):=by
   rintro r hr ⟨y,hy,hk⟩;exact⟨y,by rw[bD0 (by omega),Nat.sub_sub];exact hy,hk⟩
  simp only[aC0]at h
  rcases h with h | h | h
  ·have h1:=BU_ u a p q h;obtain⟨h2,h3⟩:=Jy u a p q h;exact⟨.inl (l1 p h1.1 h2),l1 q h1.2 h3⟩
  ·split at h
   ·obtain⟨h1,h2⟩:=Cl.1 h;exact⟨.inr h1,l1 q (QE u a q h2) (Hl u a q h2)⟩
   ·simp at h
  ·obtain⟨h1,h2⟩:=Vg k us _ _ p q h;obtain⟨h3,h4⟩:=XT k us _ _ p q h;refine⟨?_,l2 q h2.1 h4⟩
   by_cases hacc:p∈acc
   ·exact .inr hacc
   left
   have h5:∀{c:List Nat},p∈(if k=4 then MX u a++(if DD u=true then acc else [])else [])->p∈MX u a:=by
    intro _ h
    split at h
    ·rcases aC0.1 h with h | h
     ·exact h
     ·split at h
      ·exact absurd h hacc
      ·simp at h
    ·simp at h
   by_cases bX:p∈MX u a
   ·exact l1 p (KS u a p bX) (IZ u a p bX)
   ·rcases h1 with h1 | h1
    ·rcases h3 with h3 | h3
     ·exact l2 p h1.1 h3
     ·exact absurd (h5 (c:=[]) h3) bX
    ·exact absurd (h5 (c:=[]) h1) bX
end
end Go.Proofs.Wy
end
