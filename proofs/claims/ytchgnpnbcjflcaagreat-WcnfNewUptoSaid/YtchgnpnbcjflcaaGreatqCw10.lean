/- Parts of a proof, laid together: RB6, BP1, RB7, RB8, BX4, BX6, RB9, BX2, RB10, RS0, RS1, RS2, RS3, RS4, RS5, RS6, RS7, RS8, W97, WO, W98, W44, W47, W96. -/
import Derived.Test.YtchgnpnbcjflcaaGreatqCw4
import Derived.Test.YtchgnpnbcjflcaaGreatqCw5
import Derived.Test.YtchgnpnbcjflcaaGreatqCw6
import Derived.Test.YtchgnpnbcjflcaaGreatqCw7
import Derived.Test.YtchgnpnbcjflcaaGreatqCw8
import Derived.Test.YtchgnpnbcjflcaaGreatqCw9
set_option linter.unusedSimpArgs false
set_option linter.unusedVariables false
set_option linter.unusedSectionVars false
section
namespace Go.Proofs.YtchgnpnbcjflcaaGreat
open Go Go.Dm
variable [DMode]
attribute [local irreducible] DW Br_ Bu_
set_option maxRecDepth 100000
theorem Pj_ {α:Type} (c:α→α→Int):∀(l:List α) (p:α),(insC c l p).length≤l.length+1
 | [],p=>by simp[insC]
 | x::l,p=>by
  have:=Pj_ c l p
  unfold insC
  split
  ·simp;omega
  ·split
   ·simp
   ·simp
def insA (Z E:List Arc):List Arc:=E.foldl (insC arcC) Z
theorem Pk_ (Z:List Arc):insA Z []=Z:=rfl
theorem GG_ (Z E F:List Arc):insA Z (E++F)=insA (insA Z E) F:=by unfold insA;rw[cQ0]
theorem KA_ (Z:List Arc):∀E:List Arc,(insA Z E).length≤Z.length+E.length:=by
 intro E
 induction E generalizing Z with
 | nil=>simp[insA]
 | cons x E ih =>
  have h1:=ih (insC arcC Z x)
  have h2:=Pj_ arcC Z x
  have h3:insA Z (x::E)=insA (insC arcC Z x) E:=rfl
  rw[h3,List.length_cons]
  omega
def oneA (b:Bool) (x:Arc):List Arc:=if b=true then [x]else []
theorem UG_ (b:Bool) (x:Arc):(oneA b x).length≤1:=by unfold oneA;split<;>simp
def rowA (sy:Nd→Sym) (ah:Nat) (t:RT) (q:Nat) (ps:List Nat):List Arc:=ps.flatMap fun p=>oneA (foT t 0 p q) ⟨(num (flat t) ah p:Int),sy (nd (flat t) q),(num (flat t) ah q:Int)⟩
theorem rowA_snoc (sy:Nd→Sym) (ah:Nat) (t:RT) (q:Nat) (ps:List Nat) (p:Nat):rowA sy ah t q (ps++[p])=rowA sy ah t q ps++oneA (foT t 0 p q) ⟨(num (flat t) ah p:Int),sy (nd (flat t) q),(num (flat t) ah q:Int)⟩:=by simp[rowA]
theorem Uo_ (sy:Nd→Sym) (ah:Nat) (t:RT) (q:Nat):rowA sy ah t q []=[]:=rfl
theorem On_ (sy:Nd→Sym) (ah:Nat) (t:RT) (q:Nat):∀ps:List Nat,(rowA sy ah t q ps).length≤ps.length
 | []=>by simp[rowA]
 | p::ps=>by
  have h1:rowA sy ah t q (p::ps)=oneA (foT t 0 p q) ⟨(num (flat t) ah p:Int),sy (nd (flat t) q),(num (flat t) ah q:Int)⟩++rowA sy ah t q ps:=rfl
  have h2:=UG_ (foT t 0 p q) ⟨(num (flat t) ah p:Int),sy (nd (flat t) q),(num (flat t) ah q:Int)⟩
  have h3:=On_ sy ah t q ps
  rw[h1,aD0,List.length_cons]
  omega
theorem VN_ (sy:Nd→Sym) (ah:Nat) (t:RT) (q:Nat):Nc_ sy ah t q=oneA (bgT t 0 q) ⟨0,sy (nd (flat t) q),(num (flat t) ah q:Int)⟩++rowA sy ah t q (plN (flat t) (flat t).length):=rfl
def FA_ (sy:Nd→Sym) (ah:Nat) (t:RT) (ps:List Nat):List Arc:=ps.flatMap (Nc_ sy ah t)
theorem YC_ (sy:Nd→Sym) (ah:Nat) (t:RT) (ps:List Nat) (q:Nat):FA_ sy ah t (ps++[q])=FA_ sy ah t ps++Nc_ sy ah t q:=by simp[FA_]
theorem bodyA_nil (sy:Nd→Sym) (ah:Nat) (t:RT):FA_ sy ah t []=[]:=rfl
theorem Mt_ (sy:Nd→Sym) (ah:Nat) (t:RT) (h:(plN (flat t) (flat t).length).length≤64):∀ps:List Nat,(FA_ sy ah t ps).length≤65*ps.length
 | []=>by simp[FA_]
 | q::ps=>by
  have h1:FA_ sy ah t (q::ps)=Nc_ sy ah t q++FA_ sy ah t ps:=rfl
  have h3:=Mt_ sy ah t h ps
  have h4:=UG_ (bgT t 0 q) ⟨0,sy (nd (flat t) q),(num (flat t) ah q:Int)⟩
  have h5:=On_ sy ah t q (plN (flat t) (flat t).length)
  rw[h1,VN_,aD0,aD0,List.length_cons]
  omega
def syG (g:List Rul):Nd→Sym:=symS (AB_ g) (AA_ g)
def WQ_ : Ann:=⟨[],[⟨5,[11],[],[]⟩]⟩
set_option maxHeartbeats 8000000 in
theorem YN_ (g:List Rul) (t:RT) (ah:Nat) (Z:List Arc) (ht:okT t=true) (hs:(flat t).length≤2048) (h64:ah+(lvs (flat t)).length≤64) (hn:((AJ_ 3 g).length+1)*16≤150000000000000) (hZ:(Z.length+5000)*32≤150000000000000) :
  Aj_ Tryz.prog 139 [AC_ g,dNds (flat t),.int .i64 ah,Ch_ Z] (Ch_ (insA Z (FA_ (syG g) ah t (plN (flat t) (flat t).length)))):=by
 obtain⟨l,hl⟩:∃l,l=flat t:=⟨_,rfl⟩
 have ep:=EU_ l
 have hpl:(plN l l.length).length≤64:=by
  rw[Jj_ (Nat.le_refl _),FM_,hl]
  omega
 have hprk:∀j p,(plN l l.length)[j]? =some p→rkN l p=j:=fun j p h=>OA_ (Nat.le_refl _) h
 have hpin:∀p∈plN l l.length,∃x,l[p]? =some x:=fun p h=>by
  obtain⟨x,hx,_⟩:=HL_.1 h
  exact⟨x,hx⟩
 have eS:=fun x=>JG_ g x hn
 have hat:At (flat t) 0 t:=At.top ht
 have eB:∀q:Nat,Aj_ Tryz.prog 209 [dNds l,.int .i64 0,.int .i64 q] (.bool (bgT t 0 q)):=fun q=>by rw[hl];exact Ev_ q _ t (flat t) 0 rfl hat (by omega)
 have eF:∀p q:Nat,Aj_ Tryz.prog 211 [dNds l,.int .i64 0,.int .i64 p,.int .i64 q] (.bool (foT t 0 p q)):=fun p q=>by rw[hl];exact LW_ p q _ t (flat t) 0 rfl hat (by omega)
 have hbl:=Mt_ (syG g) ah t (by rw[←hl];exact hpl)
 have hrl:=On_ (syG g) ah t
 have hrs:=rowA_snoc (syG g) ah t
 have hbs:=YC_ (syG g) ah t
 have hq:=VN_ (syG g) ah t
 rw[←hl]at hq
 simp only[←hl]at hrs
 rw[←hl]
 obtain⟨ps,hps⟩:∃ps,ps=plN l l.length:=⟨_,rfl⟩
 rw[←hps]at ep hpl hprk hpin hq ⊢
 clear hps hat
 obtain⟨R,hR⟩:∃R,R=insA Z (FA_ (syG g) ah t ps):=⟨_,rfl⟩
 rw[←hR]
 refine Ab_ [] (fn:=Tryz.f139) Tryz.func139 rfl Tryz.call139 (by simp[Tryz.ntmps139]) (by simp[mx]) ?_
 intro hwf B hnt
 simp only[Tryz.ntmps139]at hnt
 have hgAnn:=Ao_ WQ_ Tryz.mixed (aj2 @WQ_.eq_1 Tryz.results139)
 clear hwf
 simp only[argS]
 (refine go1 (aj1 ep) aj0 aj0 ?_;intros;refine mk_i ?_)
 refine Am_ (X:={j:Nat//j≤ps.length}) (fun j=>⟨[(0,AC_ g),(1,dNds l),(2,.int .i64 ah),(3,Ch_ (insA Z (FA_ (syG g) ah t (ps.take j.1)))),(9,BQ_ ps),(10,.int .i64 j.1)],[]⟩) (fun j=>ps.length-j.1) ⟨0,by omega⟩ (Sub.lit (by simp[bodyA_nil,Pk_])) ?_
 rintro⟨j,hj⟩
 simp only
 by_cases hlt:j<ps.length
 ·obtain⟨q,hq0,hq0',hqm⟩:=Aq_ hlt
  obtain⟨x,hx⟩:=hpin q hqm
  have hx':=(aC0.1 hx).2
  have hxl:=(aC0.1 hx).1
  have hrk:=hprk j q hq0
  have hnum:(num l ah q:Int)=(ah:Int)+(j:Int)+1:=by unfold num;omega
  have hnd:=nd_at hx
  have e1:=eS x
  have e2:=eB q
  have hb1:=hbs (ps.take j) q
  rw[←AQ_ hq0,hq q]at hb1
  rw[hl]at hnd hnum
  have hlen:=KA_ Z (FA_ (syG g) ah t (ps.take j))
  have hbl1:=hbl (ps.take j)
  rw[aX0]at hbl1
  obtain⟨y,hy⟩:∃y,y=symS (AB_ g) (AA_ g) x:=⟨_,rfl⟩
  have hyx:syG g x=y:=hy.symm
  rw[←hy]at e1
  simp only[dNd,dSym]at e1
  obtain⟨N,hN⟩:∃N:Int,N=(ah:Int)+(j:Int)+1:=⟨_,rfl⟩
  have hwj1:IntKind.i64.wrap ((ah:Int)+(j:Int))=(ah:Int)+(j:Int):=Aa_ (by omega) (by omega)
  have hwj2:IntKind.i64.wrap ((ah:Int)+(j:Int)+1)=N:=by rw[hN];exact Aa_ (by omega) (by omega)
  rw[←hl]at hnd hnum
  have hin0:=GG_ Z (FA_ (syG g) ah t (ps.take j))
  obtain⟨Z0,hZ0⟩:∃Z0,Z0=insA Z (FA_ (syG g) ah t (ps.take j)):=⟨_,rfl⟩
  rw[←hZ0]at hlen hin0 ⊢
  have e3:=Gc_ Z0 ⟨0,y,(ah:Int)+(j:Int)+1⟩ (by omega)
  simp only[dArc]at e3
  rw[←hN]at e3
  rw[hnd,hyx,hnum,←hN]at hb1
  cases hd0:bgT t 0 q
  ·rw[hd0]at e2 hb1
   obtain⟨Z1,hZc⟩:∃Z1,Z1=Z0:=⟨_,rfl⟩
   have hl1:Z1.length≤Z0.length+1:=by rw[hZc];omega
   have hZ1:insA Z1 (rowA (syG g) ah t q ps)=insA Z (FA_ (syG g) ah t (ps.take (j+1))):=by rw[hb1,hin0,GG_,hZc];rfl
   (refine go1 (aj2 e1 e2) aj0 (aj10 @dNd.eq_1 hlt hq0 hq0' hx hx' hxl @natD.eq_1 hwj1 hwj2) ?_;intros;refine mk_i ?_)
   refine Am_ (X:={i:Nat//i≤ps.length}) (fun i=>⟨[(0,AC_ g),(1,dNds l),(2,.int .i64 ah),(3,Ch_ (insA Z1 (rowA (syG g) ah t q (ps.take i.1)))),(9,BQ_ ps),(10,.int .i64 j),(11,.ref (dSym y)),(13,.int .i64 N),(14,.int .i64 i.1)],[]⟩) (fun i=>ps.length-i.1) ⟨0,by omega⟩ (Sub.lit (by simp[Uo_,Pk_,dSym,←hZc])) ?_
   rintro⟨i,hi⟩
   simp only
   by_cases hlt2:i<ps.length
   ·obtain⟨p,hp0,hp0',hpm⟩:=Aq_ hlt2
    have hrk2:=hprk i p hp0
    have hnum2:(num l ah p:Int)=(ah:Int)+(i:Int)+1:=by unfold num;omega
    have e4:=eF p q
    have hb2:=hrs q (ps.take i) p
    rw[←AQ_ hp0,hnd,hyx,hnum,hnum2]at hb2
    have hl2:=KA_ Z1 (rowA (syG g) ah t q (ps.take i))
    have hrl1:=hrl q (ps.take i)
    rw[aX0]at hrl1
    have hin:=GG_ Z1 (rowA (syG g) ah t q (ps.take i))
    obtain⟨Z2,hZ2⟩:∃Z2,Z2=insA Z1 (rowA (syG g) ah t q (ps.take i)):=⟨_,rfl⟩
    rw[←hZ2]at hl2 hin ⊢
    have e5:=Gc_ Z2 ⟨(ah:Int)+(i:Int)+1,y,(ah:Int)+(j:Int)+1⟩ (by omega)
    have hwi1:IntKind.i64.wrap ((ah:Int)+(i:Int))=(ah:Int)+(i:Int):=Aa_ (by omega) (by omega)
    have hwi2:IntKind.i64.wrap ((ah:Int)+(i:Int)+1)=(ah:Int)+(i:Int)+1:=Aa_ (by omega) (by omega)
    simp only[dArc]at e5
    rw[←hN]at e5 hb2
    cases hd:foT t 0 p q
    ·rw[hd]at e4 hb2
     have h9:insA Z1 (rowA (syG g) ah t q (ps.take (i+1)))=Z2:=by rw[hb2,hin];rfl
     (refine go1 (aj2 e4 e5) aj0 (aj7 hlt2 hp0 hp0' hq0 hq0' hlt @natD.eq_1) ?_;intros;refine mk_i ?_)
     refine Ap_.mk ⟨i+1,by omega⟩ (Sub.lit (by simp[h9])) (by simp;omega)
     skip
    ·rw[hd]at e4 hb2
     have h9:insA Z1 (rowA (syG g) ah t q (ps.take (i+1)))=insC arcC Z2 ⟨(ah:Int)+(i:Int)+1,y,N⟩:=by rw[hb2,hin];rfl
     (refine go1 (aj2 e4 e5) aj0 (aj10 hlt2 hp0 hp0' hq0 hq0' hlt @natD.eq_1 hwi1 hwi2 @dSym.eq_1) ?_;intros;refine mk_i ?_)
     refine Ap_.mk ⟨i+1,by omega⟩ (Sub.lit (by simp[h9])) (by simp;omega)
     skip
   ·have hkk:i=ps.length:=by omega
    subst hkk
    rw[aT0,hZ1]
    (refine go1 aj0 aj0 aj0 ?_;intros;refine mk_i ?_)
    refine Ap_.mk ⟨j+1,by omega⟩ (Sub.lit (by simp)) (by simp;omega)
    skip
  ·rw[hd0]at e2 hb1
   obtain⟨Z1,hZc⟩:∃Z1,Z1=insC arcC Z0 ⟨0,y,N⟩:=⟨_,rfl⟩
   have hl1:Z1.length≤Z0.length+1:=by rw[hZc];exact Pj_ _ _ _
   have hZ1:insA Z1 (rowA (syG g) ah t q ps)=insA Z (FA_ (syG g) ah t (ps.take (j+1))):=by rw[hb1,hin0,GG_,hZc];rfl
   (refine go1 (aj3 e1 e2 e3) aj0 (aj11 @dNd.eq_1 @dSym.eq_1 hlt hq0 hq0' hx hx' hxl @natD.eq_1 hwj1 hwj2) ?_;intros;refine mk_i ?_)
   refine Am_ (X:={i:Nat//i≤ps.length}) (fun i=>⟨[(0,AC_ g),(1,dNds l),(2,.int .i64 ah),(3,Ch_ (insA Z1 (rowA (syG g) ah t q (ps.take i.1)))),(9,BQ_ ps),(10,.int .i64 j),(11,.ref (dSym y)),(13,.int .i64 N),(14,.int .i64 i.1)],[]⟩) (fun i=>ps.length-i.1) ⟨0,by omega⟩ (Sub.lit (by simp[Uo_,Pk_,dSym,←hZc])) ?_
   rintro⟨i,hi⟩
   simp only
   by_cases hlt2:i<ps.length
   ·obtain⟨p,hp0,hp0',hpm⟩:=Aq_ hlt2
    have hrk2:=hprk i p hp0
    have hnum2:(num l ah p:Int)=(ah:Int)+(i:Int)+1:=by unfold num;omega
    have e4:=eF p q
    have hb2:=hrs q (ps.take i) p
    rw[←AQ_ hp0,hnd,hyx,hnum,hnum2]at hb2
    have hl2:=KA_ Z1 (rowA (syG g) ah t q (ps.take i))
    have hrl1:=hrl q (ps.take i)
    rw[aX0]at hrl1
    have hin:=GG_ Z1 (rowA (syG g) ah t q (ps.take i))
    obtain⟨Z2,hZ2⟩:∃Z2,Z2=insA Z1 (rowA (syG g) ah t q (ps.take i)):=⟨_,rfl⟩
    rw[←hZ2]at hl2 hin ⊢
    have e5:=Gc_ Z2 ⟨(ah:Int)+(i:Int)+1,y,(ah:Int)+(j:Int)+1⟩ (by omega)
    have hwi1:IntKind.i64.wrap ((ah:Int)+(i:Int))=(ah:Int)+(i:Int):=Aa_ (by omega) (by omega)
    have hwi2:IntKind.i64.wrap ((ah:Int)+(i:Int)+1)=(ah:Int)+(i:Int)+1:=Aa_ (by omega) (by omega)
    simp only[dArc]at e5
    rw[←hN]at e5 hb2
    cases hd:foT t 0 p q
    ·rw[hd]at e4 hb2
     have h9:insA Z1 (rowA (syG g) ah t q (ps.take (i+1)))=Z2:=by rw[hb2,hin];rfl
     (refine go1 (aj2 e4 e5) aj0 (aj7 hlt2 hp0 hp0' hq0 hq0' hlt @natD.eq_1) ?_;intros;refine mk_i ?_)
     refine Ap_.mk ⟨i+1,by omega⟩ (Sub.lit (by simp[h9])) (by simp;omega)
     skip
    ·rw[hd]at e4 hb2
     have h9:insA Z1 (rowA (syG g) ah t q (ps.take (i+1)))=insC arcC Z2 ⟨(ah:Int)+(i:Int)+1,y,N⟩:=by rw[hb2,hin];rfl
     (refine go1 (aj2 e4 e5) aj0 (aj10 hlt2 hp0 hp0' hq0 hq0' hlt @natD.eq_1 hwi1 hwi2 @dSym.eq_1) ?_;intros;refine mk_i ?_)
     refine Ap_.mk ⟨i+1,by omega⟩ (Sub.lit (by simp[h9])) (by simp;omega)
     skip
   ·have hkk:i=ps.length:=by omega
    subst hkk
    rw[aT0,hZ1]
    (refine go1 aj0 aj0 aj0 ?_;intros;refine mk_i ?_)
    refine Ap_.mk ⟨j+1,by omega⟩ (Sub.lit (by simp)) (by simp;omega)
    skip
 ·have hkk:j=ps.length:=by omega
  subst hkk
  rw[aT0,←hR]
  exact go0 aj0 aj0 aj0
end Go.Proofs.YtchgnpnbcjflcaaGreat
end
section
namespace Go.Proofs.YtchgnpnbcjflcaaGreat
open Go Go.Dm Go.Shelf
variable [DMode]
attribute [local irreducible] DW Br_ Bu_
set_option maxRecDepth 100000
abbrev autoZ : DVal:= .agg [.int .i64 0,.nilsl,.nilsl]
abbrev BN_ (ls:List (List Nd)):DVal:= .sl 1 24 (ls.map rowB)
theorem TA_ (l:List Arc):AU_ Tryz.prog (.func 111) [.osl 0 0] [⟨0,0,.row 97 4 32 (l.map dArc)⟩] (Ch_ (BF_ (fun x y=>arcC x y==0) l)) []:=PE_ l
theorem Nk_ (l:List Nat):AU_ Tryz.prog (.func 110) [.osl 0 0] [⟨0,0,.row 3 1 8 (l.map natD)⟩] (.tup []) [⟨0,0,.row 3 1 8 ((Kb_ (l.map toI)).map dNum)⟩]:=by
 have h:=Oj_ (l.map toI)
 rw[cB0]at h
 exact h
structure BoxR (H L:List ByteArray) (ls:List (List Nd)) (R:DVal):Prop where
 a:errF ls≠0→R= .tup [autoZ,.int .i64 (errF ls)]
 b:errF ls=0→ls.any (bad4 H L)=true→R= .tup [autoZ,.int .i64 4]
 c:errF ls=0→ls.any (bad4 H L)=false→64<occS ls→R= .tup [autoZ,.int .i64 183]
 d:errF ls=0→∀ts,ls=ts.map flat→(∀t∈ts,okT t=true∧(flat t).length≤2048)→ls.any (bad4 H L)=false→occS ls≤64→R= .tup [boxF H L ts,.int .i64 0]
def Gp_ : Ann:=⟨[77,89,94,100,105,114,126],[⟨16,[13],[],[]⟩,⟨17,[14],[],[]⟩,⟨30,[20],[],[]⟩,⟨38,[201,77],[],[]⟩,⟨39,[],[],[0,1,2,3,4,5,6]⟩]⟩
set_option maxHeartbeats 8000000 in
theorem of15_pure (H L:List ByteArray) (ls:List (List Nd)) (R:DVal) (hH:H.length≠0) (hR:BoxR H L ls R) (hm:mx R=0):Aj_ Tryz.prog 34 [dTab H L,BN_ ls] R:=by
 refine Ab_ [94,4] (fn:=Tryz.f34) Tryz.func34 rfl Tryz.call34 (by simp[Tryz.ntmps34]) (by simpa using hm) ?_
 intro hwf B hnt
 simp only[Tryz.ntmps34]at hnt
 have hgAnn:=Ao_ Gp_ Tryz.mixed (aj2 @Gp_.eq_1 Tryz.results34)
 have hwl:ls.length*24≤150000000000000:=by
  have h1:=hwf.2.1
  simp only[wfD,aL0]at h1
  exact h1.1
 clear hwf
 simp only[argS]
 have e1:=FQ_ H L
 (refine go1 (aj1 e1) aj0 (aj1 hH) ?_;intros;refine mk_i ?_)
 clear hH
 refine Am_ (X:={k:Nat//k≤ls.length∧errF ls=errF (ls.drop k)}) (fun k=>⟨[(1,BN_ ls),(2,.ref [dTab H L]),(4,.bx 4 1 0),(5,.int .i64 0),(32,BN_ ls),(33,.int .i64 ls.length),(34,.int .i64 k.1)],[⟨4,1,.box [.int .i64 0,.nilsl,.nilsl]⟩]⟩) (fun k=>ls.length-k.1) ⟨0,by simp⟩ (Sub.lit (by simp)) ?_
 rintro⟨k,hk,hek⟩
 simp only
 by_cases hlt:k<ls.length
 ·obtain⟨l,hl,hl',hlm⟩:=Aq_ hlt
  rw[aR0 hlt,hl',errF]at hek
  have e2:=bodyC_p l
  by_cases hc:Kk_ l=0
  ·rw[if_pos hc]at hek
   rw[hc]at e2
   (refine go1 (aj1 e2) aj0 (aj4 hlt hl hl' @rowB.eq_1) ?_;intros;refine mk_i ?_)
   exact Ap_.mk ⟨k+1,by omega,hek⟩ (Sub.lit (by simp)) (by simp;omega)
   skip
  ·rw[if_neg hc]at hek
   have hRR:=hR.a (by rw[hek];exact hc)
   rw[hek]at hRR
   rw[hRR]
   have hcb:(Kk_ l==0)=false:=by simpa using hc
   exact go0 (aj1 e2) aj0 (aj6 hlt hl hl' @rowB.eq_1 hc hcb)
 have hkk:k=ls.length:=by omega
 subst hkk
 rw[bP0]at hek
 have he0:errF ls=0:=hek
 obtain⟨ts,hts,htp⟩:=GJ_ he0
 clear hek hk
 have htl:ls.length=ts.length:=by rw[hts,aL0]
 have hocl:=Ta_ ts fun t ht=>(htp t ht).2
 rw[←hts]at hocl
 (refine go1 aj0 aj0 aj0 ?_;intros;refine mk_i ?_)
 refine Am_ (X:={k:Nat//k≤ls.length∧(ls.take k).any (bad4 H L)=false}) (fun k=>⟨[(1,BN_ ls),(2,.ref [dTab H L]),(4,.bx 4 1 0),(5,.int .i64 0),(9,.int .i64 (occS (ls.take k.1))),(45,BN_ ls),(46,.int .i64 ls.length),(47,.int .i64 k.1)],[⟨4,1,.box [.int .i64 0,.nilsl,.nilsl]⟩]⟩) (fun k=>ls.length-k.1) ⟨0,by simp⟩ (Sub.lit (by simp[UJ_])) ?_
 rintro⟨k,hk,hno⟩
 simp only
 by_cases hlt:k<ls.length
 ·obtain⟨l,hl,hl',hlm⟩:=Aq_ hlt
  have hll:l.length≤2048:=by
   rw[hts]at hlm
   obtain⟨t,ht,rfl⟩:=aW0.1 hlm
   exact(htp t ht).2
  have hos:=Rc_ (ls.take k) l
  rw[←AQ_ hl]at hos
  have hot:=Rb_ (ls:=ls) (k:=k+1)
  obtain⟨m,hm2⟩:∃m,m=occS (ls.take k):=⟨_,rfl⟩
  rw[←hm2]at hos ⊢
  have e5:=Nu_ l
  have hw5:IntKind.i64.wrap ((m:Int)+(occN l:Int))=(occS (ls.take (k+1)):Int):=by rw[Aa_ (by omega) (by omega),hos];omega
  (refine go1 aj0 aj0 (aj4 hlt hl hl' @rowB.eq_1) ?_;intros;refine mk_i ?_)
  refine Am_ (X:={j:Nat//j≤l.length∧bad4 H L (l.take j)=false}) (fun j=>⟨[(1,BN_ ls),(2,.ref [dTab H L]),(4,.bx 4 1 0),(5,.int .i64 0),(9,.int .i64 m),(11,dNds l),(45,BN_ ls),(46,.int .i64 ls.length),(47,.int .i64 k),(51,dNds l),(52,.int .i64 l.length),(53,.int .i64 j.1)],[⟨4,1,.box [.int .i64 0,.nilsl,.nilsl]⟩]⟩) (fun j=>l.length-j.1) ⟨0,by simp[bad4]⟩ (Sub.lit (by simp)) ?_
  rintro⟨j,hj,hnj⟩
  simp only
  by_cases hlt2:j<l.length
  ·obtain⟨x,hx,hx',hxm⟩:=Aq_ hlt2
   have e3:=Ni_ H L x
   have hbs:bad4 H L (l.take (j+1))=decide (symE H L x=4):=by
    unfold bad4 at hnj ⊢
    rw[AQ_ hx,eJ0,hnj]
    simp
   obtain⟨E,hE⟩:∃E,E=symE H L x:=⟨_,rfl⟩
   rw[←hE]at e3 hbs
   simp only[dNd,dSym]at e3
   by_cases h4:E=4
   ·have hany:ls.any (bad4 H L)=true:=by
     rw[bY0]
     refine⟨l,hlm,?_⟩
     unfold bad4
     rw[bY0]
     exact⟨x,hxm,by rw[←hE];simp[h4]⟩
    rw[hR.b he0 hany]
    exact go0 (aj1 e3) aj0 (aj5 @dNd.eq_1 hlt2 hx hx' h4)
   ·have h4b:(E==4)=false:=by simpa using h4
    rw[decide_eq_false h4]at hbs
    (refine go1 (aj1 e3) aj0 (aj6 @dNd.eq_1 hlt2 hx hx' h4 h4b) ?_;intros;refine mk_i ?_)
    refine Ap_.mk ⟨j+1,by omega,hbs⟩ (Sub.lit (by simp)) (by simp;omega)
    skip
  ·have hkk:j=l.length:=by omega
   subst hkk
   rw[aT0]at hnj
   have hno2:(ls.take (k+1)).any (bad4 H L)=false:=by rw[AQ_ hl,eJ0,hno];simp[hnj]
   (refine go1 (aj1 e5) aj0 (aj1 hw5) ?_;intros;refine mk_i ?_)
   refine Ap_.mk ⟨k+1,by omega,hno2⟩ (Sub.lit (by simp)) (by simp;omega)
   skip
 have hkk:k=ls.length:=by omega
 subst hkk
 rw[aT0]at hno
 clear hk hlt
 by_cases h64:64<occS ls
 ·have hRc:=hR.c he0 hno h64
  have d1:(64:Int)<(occS ls:Int):=by omega
  exact go0 aj0 aj0 (aj3 d1 h64 hRc)
 have hRd:=hR.d he0 ts hts htp hno (by omega)
 have hoc:=GB_ ts
 rw[←hts]at hoc
 have d1:¬(64:Int)<(occS ls:Int):=by omega
 (refine go1 aj0 aj0 (aj2 d1 h64) ?_;intros;refine mk_i ?_)
 have hlv64:(lvL ts).length≤64:=by omega
 obtain⟨SF,hSF⟩:∃SF,SF=syL (symS H L) ts:=⟨_,rfl⟩
 have hpre:∀k,(lvL (ts.take k)).length≤64∧syL (symS H L) (ts.take k) <+: SF:=fun k=>by
  have h1:=lvL_pre (us:=ts.take k) (vs:=ts.drop k)
  have h2:=syL_pre (symS H L) (ts.take k) (ts.drop k)
  rw[List.take_append_drop]at h1 h2
  rw[hSF]
  exact⟨by omega,h2⟩
 have hpl:∀k,(Mw_ SF (ts.take k)).length≤1073741824:=fun k=>by
  have h1:=SY_ (ts.take k) 0 (fun t ht=>(htp t (dB0 ht)).2) (hpre k).1
  unfold Mw_
  rw[IV_]
  have:=(hpre k).1
  omega
 have hfl:∀k,(firN (ts.take k)).length≤64∧(lasN (ts.take k)).length≤64:=fun k=>by
  have h1:=Tx_ (ts.take k) 0
  have h2:=laN_len (ts.take k) 0
  have:=(hpre k).1
  exact⟨by unfold firN;omega,by unfold lasN;omega⟩
 have z0:Mw_ SF []=[]:=rfl
 have z1:syL (symS H L) []=[]:=rfl
 have z2:firN []=[]:=rfl
 have z3:lasN []=[]:=rfl
 have z4:anyE []=false:=by rw[anyE]
 refine Bx_ 77 0 201 95 2 16 (by simp) (fun n1=> ?_)
 refine Bx_ 77 1 202 97 4 32 (by simp) (fun n2=> ?_)
 refine Bx_ 17 2 94 3 1 8 (by simp) (fun n3=> ?_)
 refine Qe_ 17 1 1 8 rfl rfl ?_
 refine Am_ (X:={k:Nat//k≤ts.length}) (fun k=>⟨[(2,.ref [dTab H L]),(4,.bx 4 1 0),(16,.bx 77 1 0),(17,.bx 17 1 0),(79,BN_ ls),(80,.int .i64 ls.length),(81,.int .i64 k.1)],
  [⟨4,1,.box [.int .i64 0,.nilsl,.nilsl]⟩,⟨77,1,.box [.osl 201 1,.osl 202 1]⟩,⟨201,1,.row 95 2 16 ((syL (symS H L) (ts.take k.1)).map dSym)⟩,⟨202,1,.row 97 4 32 ((Mw_ SF (ts.take k.1)).map dArc)⟩,⟨17,1,.box [.bool (anyE (ts.take k.1)),BQ_ (firN (ts.take k.1)),.osl 94 1]⟩,⟨94,1,.row 3 1 8 ((lasN (ts.take k.1)).map natD)⟩]⟩) (fun k=>ts.length-k.1) ⟨0,by simp⟩ (Sub.lit (by simp[z0,z1,z2,z3,z4])) ?_
 rintro⟨k,hk⟩
 simp only
 by_cases hlt:k<ts.length
 ·obtain⟨t,ht,ht',htm⟩:=Aq_ hlt
  obtain⟨hok,h2048⟩:=htp t htm
  have hlk:ls[k]? =some (flat t):=by rw[hts,bI0,ht];rfl
  have hltl:k<ls.length:=by omega
  have hlk':ls[k]'hltl=flat t:=(aC0.1 hlk).2
  have hp1:=hpre (k+1)
  have y1:=syN_step H L (ts.take k) t
  have y2:=firN_step (ts.take k) t
  have y3:=lasN_step (ts.take k) t
  have y4:=YF_ SF (ts.take k) t
  have y5:=NT_ (ts.take k) t
  have y6:=OU_ (ts.take k) t
  rw[←AQ_ ht]at y1 y2 y3 y4 y5 y6
  have y7:=congrArg List.length y6
  rw[aD0]at y7
  have hA:=hpl k
  have hF:=hfl k
  have hF1:=hfl (k+1)
  have e6:=Nh_ H L (flat t) (lvL (ts.take k)).length SF (by rw[←y7];exact hp1.1) _ t (Nat.le_refl _) hok 0 [] (syL (symS H L) (ts.take k)) (Mw_ SF (ts.take k)) (by simp) (by rw[Oe_,Oo_];rfl) (by rw[y1];exact hp1.2) (by omega)
  rw[y1,y4,bK0]at e6
  have g1:=congrArg List.length y2
  have g2:=congrArg List.length y3
  rw[aD0]at g1 g2
  have e7:=YL_ (anyE (ts.take k)) (empT t) (firN (ts.take k)) (firT (flat t) (lvL (ts.take k)).length t 0) (lasN (ts.take k)) (lasT (flat t) (lvL (ts.take k)).length t 0) (by omega) (by omega)
  rw[y5,y2,y3]at e7
  refine EL_ (Sub.freezeL [94] _) ?_
  simp
  (repeat (first | refine Ak_ fun K hK=> ?_ | (refine DW_r Gp_ Tryz.mixed (by kernel_rfl) ?_;simp[Gp_,hnt,dBx,hltl,hlk,hlk',rowB];try simp (disch:=omega) only[Aa_]) | refine Ac_ ?_ | (refine As_ ?_ ?_ ?_;(· (simp[hnt,dBx,hltl,hlk,hlk',rowB];done));(try (rotate_left;(· (intro hc;(try simp[hnt,dBx,hltl,hlk,hlk',rowB]at hc);done))))) | (refine Al_ ?_;simp[Tryz.results34,hnt,dBx,hltl,hlk,hlk',rowB]) | ((first | refine Ah_ ?_ | refine Ag_ ?_);simp[hnt,dBx,hltl,hlk,hlk',rowB]) | (intro hc;(try simp[hnt,dBx,hltl,hlk,hlk',rowB]at hc);(try (exfalso;omega))) | (refine Ar_ [(77,0),(201,1),(202,2)] [] (e6) ?_ ?_;(· (simp[hnt,dBx,hltl,hlk,hlk',rowB];done));(intro _;try simp[hnt,dBx,hltl,hlk,hlk',rowB])) | (refine Ar_ [] [(94,0)] (e7) ?_ ?_;(· (simp[hnt,dBx,hltl,hlk,hlk',rowB];done));(intro _;try simp[hnt,dBx,hltl,hlk,hlk',rowB])) | (refine⟨?_,?_⟩; · omega) | omega | apply_assumption -exfalso -symm | (exfalso;omega)))
  refine Ap_.mk ⟨k+1,by omega⟩ (Sub.lit (by simp)) (by simp;omega)
  skip
 ·have hkk:k=ts.length:=by omega
  subst hkk
  rw[aT0]
  have hA:=hpl ts.length
  have hF:=hfl ts.length
  have hP:=hpre ts.length
  rw[aT0]at hA hF hP
  have e8:=HN_ SF SF (Mw_ SF ts) [0] (firN ts) (List.prefix_refl _) (fun q hq=>by have:=Tw_ ts 0 q hq;rw[hSF,Oe_];omega) (by rw[hSF,Oe_];omega) (by simp;omega)
  have y8:=arcsN_all (symS H L) ts
  rw[←hSF]at y8
  rw[y8]at e8
  have e9:=SP_ (Hl_ (symS H L) ts)
  have e11:=TA_ (HF_ arcC (Hl_ (symS H L) ts))
  rw[←hSF]
  have hnlt:¬(ts.length:Int)<(ls.length:Int):=by omega
  have hSl:SF.length=(lvL ts).length:=by rw[hSF,Oe_]
  have hw1:IntKind.i64.wrap ((SF.length:Int)+1)=((lvL ts).length:Int)+1:=by rw[hSl];exact Aa_ (by omega) (by omega)
  have hfin:=fins_law ts fun t ht=>(htp t ht).1
  unfold boxF YE_ at hRd
  obtain⟨CZ,hCZ⟩:∃CZ,CZ=BF_ (fun x y=>arcC x y==0) (HF_ arcC (Hl_ (symS H L) ts)):=⟨_,rfl⟩
  rw[←hCZ]at hRd e11
  obtain⟨FR,hFR⟩:∃FR,FR=IJ_ ts:=⟨_,rfl⟩
  rw[←hFR]at hRd hfin
  cases hE:anyE ts
  ·have e10:=Nk_ (lasN ts)
   have h12:Kb_ ((lasN ts).map toI)=FR:=by
    rw[hE]at hfin
    simp only[aQ0,if_false,bK0]at hfin
    exact hfin
   rw[h12]at e10
   (repeat (first | refine Ak_ fun K hK=> ?_ | (refine DW_r Gp_ Tryz.mixed (by kernel_rfl) ?_;simp[Gp_,hnt,dBx,hnlt,natD,hw1,hRd];try simp (disch:=omega) only[Aa_]) | refine Ac_ ?_ | (refine As_ ?_ ?_ ?_;(· (simp[hnt,dBx,hnlt,natD,hw1,hRd];done));(try (rotate_left;(· (intro hc;(try simp[hnt,dBx,hnlt,natD,hw1,hRd]at hc);done))))) | (refine Al_ ?_;simp[Tryz.results34,hnt,dBx,hnlt,natD,hw1,hRd]) | ((first | refine Ah_ ?_ | refine Ag_ ?_);simp[hnt,dBx,hnlt,natD,hw1,hRd]) | (intro hc;(try simp[hnt,dBx,hnlt,natD,hw1,hRd]at hc);(try (exfalso;omega))) | (refine Ar_ [(77,0),(201,1),(202,2)] [] (e8) ?_ ?_;(· (simp[hnt,dBx,hnlt,natD,hw1,hRd];done));(intro _;try simp[hnt,dBx,hnlt,natD,hw1,hRd])) | (refine Ar_ [(202,0)] [] (e9) ?_ ?_;(· (simp[hnt,dBx,hnlt,natD,hw1,hRd];done));(intro _;try simp[hnt,dBx,hnlt,natD,hw1,hRd])) | (refine Ar_ [(94,0)] [] (e10) ?_ ?_;(· (simp[hnt,dBx,hnlt,natD,hw1,hRd];done));(intro _;try simp[hnt,dBx,hnlt,natD,hw1,hRd])) | (refine Ar_ [(202,0)] [] (e11) ?_ ?_;(· (simp[hnt,dBx,hnlt,natD,hw1,hRd];done));(intro _;try simp[hnt,dBx,hnlt,natD,hw1,hRd])) | (refine⟨?_,?_⟩; · omega) | omega | apply_assumption -exfalso -symm | (exfalso;omega)))
  ·have e10:=Nk_ (lasN ts++[0])
   have h12:Kb_ ((lasN ts++[0]).map toI)=FR:=by
    rw[hE]at hfin
    simp only[if_true]at hfin
    rw[aY0]
    exact hfin
   rw[h12]at e10
   have hb:((lasN ts).length+1)*8≤150000000000000:=by omega
   (repeat (first | refine Ak_ fun K hK=> ?_ | (refine DW_r Gp_ Tryz.mixed (by kernel_rfl) ?_;simp[Gp_,hnt,dBx,hnlt,natD,hw1,hRd,hb];try simp (disch:=omega) only[Aa_]) | refine Ac_ ?_ | (refine As_ ?_ ?_ ?_;(· (simp[hnt,dBx,hnlt,natD,hw1,hRd,hb];done));(try (rotate_left;(· (intro hc;(try simp[hnt,dBx,hnlt,natD,hw1,hRd,hb]at hc);done))))) | (refine Al_ ?_;simp[Tryz.results34,hnt,dBx,hnlt,natD,hw1,hRd,hb]) | ((first | refine Ah_ ?_ | refine Ag_ ?_);simp[hnt,dBx,hnlt,natD,hw1,hRd,hb]) | (intro hc;(try simp[hnt,dBx,hnlt,natD,hw1,hRd,hb]at hc);(try (exfalso;omega))) | (refine Ar_ [(77,0),(201,1),(202,2)] [] (e8) ?_ ?_;(· (simp[hnt,dBx,hnlt,natD,hw1,hRd,hb];done));(intro _;try simp[hnt,dBx,hnlt,natD,hw1,hRd,hb])) | (refine Ar_ [(202,0)] [] (e9) ?_ ?_;(· (simp[hnt,dBx,hnlt,natD,hw1,hRd,hb];done));(intro _;try simp[hnt,dBx,hnlt,natD,hw1,hRd,hb])) | (refine Ar_ [(94,0)] [] (e10) ?_ ?_;(· (simp[hnt,dBx,hnlt,natD,hw1,hRd,hb];done));(intro _;try simp[hnt,dBx,hnlt,natD,hw1,hRd,hb])) | (refine Ar_ [(202,0)] [] (e11) ?_ ?_;(· (simp[hnt,dBx,hnlt,natD,hw1,hRd,hb];done));(intro _;try simp[hnt,dBx,hnlt,natD,hw1,hRd,hb])) | (refine⟨?_,?_⟩; · omega) | omega | apply_assumption -exfalso -symm | (exfalso;omega)))
end Go.Proofs.YtchgnpnbcjflcaaGreat
end
section
namespace Go.Proofs.YtchgnpnbcjflcaaGreat
open Go Go.Dm
variable [DMode]
attribute [local irreducible] DW Br_ Bu_
set_option maxRecDepth 100000
noncomputable def Hn_ (H L:List ByteArray) (ls:List (List Nd)):Int:=if errF ls=0 then (if ls.any (bad4 H L)=true then 4 else if 64<occS ls then 183 else 0)else errF ls
def WP_ : Ann:=⟨[],[⟨15,[10],[],[]⟩]⟩
set_option maxHeartbeats 8000000 in
theorem Qi_ (g:List Rul) (ls:List (List Nd)) (hn:((AJ_ 3 g).length+1)*16≤150000000000000):Aj_ Tryz.prog 138 [AC_ g,BN_ ls] (.int .i64 (Hn_ (AB_ g) (AA_ g) ls)):=by
 refine Ab_ [] (fn:=Tryz.f138) Tryz.func138 rfl Tryz.call138 (by simp[Tryz.ntmps138]) (by simp[mx]) ?_
 intro hwf B hnt
 simp only[Tryz.ntmps138]at hnt
 have hgAnn:=Ao_ WP_ Tryz.mixed (aj2 @WP_.eq_1 Tryz.results138)
 have hwl:ls.length*24≤150000000000000:=by
  have h1:=hwf.2.1
  simp only[wfD,aL0]at h1
  exact h1.1
 clear hwf
 simp only[argS]
 have eS:=fun x=>JG_ g x hn
 obtain⟨H,hH⟩:∃H,H=AB_ g:=⟨_,rfl⟩
 obtain⟨L,hL⟩:∃L,L=AA_ g:=⟨_,rfl⟩
 simp only[←hH,←hL]at eS ⊢
 clear hH hL
 obtain⟨W,hW⟩:∃W,W=Hn_ H L ls:=⟨_,rfl⟩
 rw[←hW]
 unfold Hn_ at hW
 (refine go1 aj0 aj0 aj0 ?_;intros;refine mk_i ?_)
 refine Am_ (X:={k:Nat//k≤ls.length∧errF ls=errF (ls.drop k)}) (fun k=>⟨[(0,AC_ g),(1,BN_ ls),(5,.int .i64 k.1)],[]⟩) (fun k=>ls.length-k.1) ⟨0,by simp⟩ (Sub.lit (by simp)) ?_
 rintro⟨k,hk,hek⟩
 simp only
 by_cases hlt:k<ls.length
 ·obtain⟨l,hl,hl',hlm⟩:=Aq_ hlt
  rw[aR0 hlt,hl',errF]at hek
  have e2:=bodyC_r l
  have hwk:IntKind.i64.wrap ((k:Int)+1)=(k:Int)+1:=Aa_ (by omega) (by omega)
  by_cases hc:Kk_ l=0
  ·rw[if_pos hc]at hek
   rw[hc]at e2
   (refine go1 (aj1 e2) aj0 (aj5 hlt hl hl' @rowB.eq_1 hwk) ?_;intros;refine mk_i ?_)
   exact Ap_.mk ⟨k+1,by omega,hek⟩ (Sub.lit (by simp)) (by simp;omega)
   skip
  ·rw[if_neg hc]at hek
   rw[if_neg (by rw[hek];exact hc),hek]at hW
   have hcb:(Kk_ l==0)=false:=by simpa using hc
   exact go0 (aj1 e2) aj0 (aj7 hlt hl hl' @rowB.eq_1 hc hcb hW)
 have hkk:k=ls.length:=by omega
 subst hkk
 rw[bP0]at hek
 have he0:errF ls=0:=hek
 rw[if_pos he0]at hW
 obtain⟨ts,hts,htp⟩:=GJ_ he0
 clear hek hk
 have htl:ls.length=ts.length:=by rw[hts,aL0]
 have hocl:=Ta_ ts fun t ht=>(htp t ht).2
 rw[←hts]at hocl
 (refine go1 aj0 aj0 aj0 ?_;intros;refine mk_i ?_)
 refine Am_ (X:={k:Nat//k≤ls.length∧(ls.take k).any (bad4 H L)=false}) (fun k=>⟨[(0,AC_ g),(1,BN_ ls),(7,.int .i64 (occS (ls.take k.1))),(8,.int .i64 k.1)],[]⟩) (fun k=>ls.length-k.1) ⟨0,by simp⟩ (Sub.lit (by simp[UJ_])) ?_
 rintro⟨k,hk,hno⟩
 simp only
 by_cases hlt:k<ls.length
 ·obtain⟨l,hl,hl',hlm⟩:=Aq_ hlt
  have hll:l.length≤2048:=by
   rw[hts]at hlm
   obtain⟨t,ht,rfl⟩:=aW0.1 hlm
   exact(htp t ht).2
  have hos:=Rc_ (ls.take k) l
  rw[←AQ_ hl]at hos
  have hot:=Rb_ (ls:=ls) (k:=k+1)
  obtain⟨m,hm2⟩:∃m,m=occS (ls.take k):=⟨_,rfl⟩
  rw[←hm2]at hos ⊢
  have e5:=JH_ l
  have hw5:IntKind.i64.wrap ((m:Int)+(occN l:Int))=(occS (ls.take (k+1)):Int):=by rw[Aa_ (by omega) (by omega),hos];omega
  have hwk:IntKind.i64.wrap ((k:Int)+1)=(k:Int)+1:=Aa_ (by omega) (by omega)
  (refine go1 (aj1 e5) aj0 (aj5 hlt hl hl' @rowB.eq_1 hw5) ?_;intros;refine mk_i ?_)
  refine Am_ (X:={j:Nat//j≤l.length∧bad4 H L (l.take j)=false}) (fun j=>⟨[(0,AC_ g),(1,BN_ ls),(7,.int .i64 (occS (ls.take (k+1)))),(8,.int .i64 k),(9,.int .i64 j.1)],[]⟩) (fun j=>l.length-j.1) ⟨0,by simp[bad4]⟩ (Sub.lit (by simp)) ?_
  rintro⟨j,hj,hnj⟩
  simp only
  by_cases hlt2:j<l.length
  ·obtain⟨x,hx,hx',hxm⟩:=Aq_ hlt2
   have e3:=eS x
   have hwj:IntKind.i64.wrap ((j:Int)+1)=(j:Int)+1:=Aa_ (by omega) (by omega)
   have hbs:bad4 H L (l.take (j+1))=decide (symE H L x=4):=by
    unfold bad4 at hnj ⊢
    rw[AQ_ hx,eJ0,hnj]
    simp
   obtain⟨E,hE⟩:∃E,E=symE H L x:=⟨_,rfl⟩
   rw[←hE]at e3 hbs
   simp only[dNd,dSym]at e3
   by_cases h4:E=4
   ·have hany:ls.any (bad4 H L)=true:=by
     rw[bY0]
     refine⟨l,hlm,?_⟩
     unfold bad4
     rw[bY0]
     exact⟨x,hxm,by rw[←hE];simp[h4]⟩
    rw[if_pos hany]at hW
    exact go0 (aj1 e3) aj0 (aj10 @dNd.eq_1 @rowB.eq_1 hlt hl hl' hlt2 hx hx' h4 hW)
   ·have h4b:(E==4)=false:=by simpa using h4
    rw[decide_eq_false h4]at hbs
    (refine go1 (aj1 e3) aj0 (aj11 @dNd.eq_1 @rowB.eq_1 hlt hl hl' hlt2 hx hx' h4 h4b hwj) ?_;intros;refine mk_i ?_)
    refine Ap_.mk ⟨j+1,by omega,hbs⟩ (Sub.lit (by simp)) (by simp;omega)
    skip
  ·have hkk:j=l.length:=by omega
   subst hkk
   rw[aT0]at hnj
   have hno2:(ls.take (k+1)).any (bad4 H L)=false:=by rw[AQ_ hl,eJ0,hno];simp[hnj]
   (refine go1 aj0 aj0 (aj5 @rowB.eq_1 hlt hl hl' hwk) ?_;intros;refine mk_i ?_)
   refine Ap_.mk ⟨k+1,by omega,hno2⟩ (Sub.lit (by simp)) (by simp;omega)
   skip
 have hkk:k=ls.length:=by omega
 subst hkk
 rw[aT0]at hno
 clear hk hlt
 rw[if_neg (by rw[hno];simp)]at hW
 by_cases h64:64<occS ls
 ·rw[if_pos h64]at hW
  have d1:(64:Int)<(occS ls:Int):=by omega
  exact go0 aj0 aj0 (aj3 d1 h64 hW)
 ·rw[if_neg h64]at hW
  have d1:¬(64:Int)<(occS ls:Int):=by omega
  exact go0 aj0 aj0 (aj3 d1 h64 hW)
theorem pl_lvs (l:List Nd):(plN l l.length).length=(lvs l).length:=by rw[Jj_ (Nat.le_refl _),FM_]
theorem Sn_ (sy:Nd→Sym):∀(ts:List RT) (ah:Nat),(lvL ts).length≤64→(Gn_ sy ah ts).length≤65*(lvL ts).length
 | [],ah,_=>by simp[Gn_]
 | t::ts,ah,h=>by
  have h1:lvL (t::ts)=lvs (flat t)++lvL ts:=by simp[lvL]
  rw[h1,aD0]at h ⊢
  have ih:=Sn_ sy ts (ah+(lvs (flat t)).length) (by omega)
  have h2:=pl_lvs (flat t)
  have h3:=Mt_ sy ah t (by omega) (plN (flat t) (flat t).length)
  have h4:Gn_ sy ah (t::ts)=FA_ sy ah t (plN (flat t) (flat t).length)++Gn_ sy (ah+(lvs (flat t)).length) ts:=rfl
  rw[h4,aD0]
  omega
def Mx_ (sy:Nd→Sym) (us:List RT):List Arc:=insA [] (Gn_ sy 0 us)
theorem YG_ (sy:Nd→Sym) (us:List RT) (t:RT):insA (Mx_ sy us) (FA_ sy (lvL us).length t (plN (flat t) (flat t).length))=Mx_ sy (us++[t]):=by
 unfold Mx_
 rw[NQ_,GG_,bS0]
 rfl
theorem arcsI_len (sy:Nd→Sym) (us:List RT) (h:(lvL us).length≤64):(Mx_ sy us).length≤4160:=by
 have h1:=KA_ [] (Gn_ sy 0 us)
 have h2:=Sn_ sy us 0 h
 unfold Mx_
 simp only[List.length_nil]at h1
 omega
def finI (us:List RT):List Nat:=finR 0 us
def finP (t:RT) (ah:Nat) (ps:List Nat):List Nat:=(ps.filter (enT t 0)).map (num (flat t) ah)
theorem finP_snoc (t:RT) (ah:Nat) (ps:List Nat) (p:Nat):finP t ah (ps++[p])=finP t ah ps++(if enT t 0 p=true then [num (flat t) ah p]else []):=by
 unfold finP
 rw[cY0,aY0]
 cases h:enT t 0 p<;>simp[h]
theorem finP_nil (t:RT) (ah:Nat):finP t ah []=[]:=rfl
theorem finP_len (t:RT) (ah:Nat) (ps:List Nat):(finP t ah ps).length≤ps.length:=by unfold finP;rw[aL0];exact cH0 _ _
theorem finI_snoc (us:List RT) (t:RT):finI us++finP t (lvL us).length (plN (flat t) (flat t).length)=finI (us++[t]):=by unfold finI finP;rw[RN_,bS0]
theorem Pw_ : ∀(ts:List RT) (ah:Nat),(finR ah ts).length≤(lvL ts).length
 | [],ah=>by simp[finR]
 | t::ts,ah=>by
  have h1:lvL (t::ts)=lvs (flat t)++lvL ts:=by simp[lvL]
  have ih:=Pw_ ts (ah+(lvs (flat t)).length)
  have h2:=pl_lvs (flat t)
  have h3:((plN (flat t) (flat t).length).filter (enT t 0)).length≤(plN (flat t) (flat t).length).length:=cH0 _ _
  rw[finR,h1,aD0,aD0,aL0]
  omega
def refF (g:List Rul) (ts:List RT):DVal:=YE_ ((lvL ts).length+1) (IJ_ ts) (Mx_ (syG g) ts)
theorem finsR_eq (ts:List RT):CG_ (IJ_ ts)= .sl 1 8 ((if anyE ts=true then [natD 0]else [])++(finI ts).map natD):=by
 unfold IJ_ finI
 rw[show CG_ ((if anyE ts then [0]else [])++(finR 0 ts).map toI)= .sl 1 8 (((if anyE ts then [0]else [])++(finR 0 ts).map toI).map dNum) from rfl,aY0,cB0]
 cases anyE ts<;>rfl
def TP_ : Ann:=⟨[63,79,84],[]⟩
set_option maxHeartbeats 8000000 in
theorem XV_ (g:List Rul) (ls:List (List Nd)) (R:DVal) (hn:((AJ_ 3 g).length+1)*16≤150000000000000) (hm:mx R=0)
  (hRa:Hn_ (AB_ g) (AA_ g) ls≠0→R= .tup [autoZ,.int .i64 (Hn_ (AB_ g) (AA_ g) ls)])
  (hRd:∀ts,ls=ts.map flat→(∀t∈ts,okT t=true∧(flat t).length≤2048)→occS ls≤64→Hn_ (AB_ g) (AA_ g) ls=0→R= .tup [refF g ts,.int .i64 0]):Aj_ Tryz.prog 54 [AC_ g,BN_ ls] R:=by
 refine Ab_ [51,4] (fn:=Tryz.f54) Tryz.func54 rfl Tryz.call54 (by simp[Tryz.ntmps54]) (by simpa using hm) ?_
 intro hwf B hnt
 simp only[Tryz.ntmps54]at hnt
 have hgAnn:=Ao_ TP_ Tryz.mixed (aj2 @TP_.eq_1 Tryz.results54)
 have hwl:ls.length*24≤150000000000000:=by
  have h1:=hwf.2.1
  simp only[wfD,aL0]at h1
  exact h1.1
 clear hwf
 simp only[argS]
 have e1:=Qi_ g ls hn
 obtain⟨W,hW⟩:∃W,W=Hn_ (AB_ g) (AA_ g) ls:=⟨_,rfl⟩
 simp only[←hW]at e1 hRa hRd
 by_cases h0:W=0
 ·have hts:∃ts:List RT,ls=ts.map flat∧(∀t∈ts,okT t=true∧(flat t).length≤2048)∧occS ls≤64:=by
   rw[h0]at hW
   unfold Hn_ at hW
   split at hW
   ·rename_i he
    obtain⟨ts,h1,h2⟩:=GJ_ he
    refine⟨ts,h1,h2,?_⟩
    split at hW
    ·omega
    ·split at hW
     ·omega
     ·omega
   ·rename_i he;exact absurd hW.symm he
  obtain⟨ts,hts,htp,hoc⟩:=hts
  have hRR:=hRd ts hts htp hoc h0
  have hoc2:=GB_ ts
  rw[←hts]at hoc2
  have hlv:(lvL ts).length≤64:=by omega
  have htl:ls.length=ts.length:=by rw[hts,aL0]
  rw[h0]at e1
  clear hW hRa hRd
  (refine go1 (aj1 e1) aj0 aj0 ?_;intros;refine mk_i ?_)
  have hpre:∀k,(lvL (ts.take k)).length≤64:=fun k=>by
   have h1:=lvL_pre (us:=ts.take k) (vs:=ts.drop k)
   rw[List.take_append_drop]at h1
   omega
  have z1:lvL []=[]:=rfl
  have z2:Mx_ (syG g) []=[]:=rfl
  have z3:finI []=[]:=rfl
  have z4:anyE []=false:=by rw[anyE]
  refine Bn_ 8 50 3 1 8 (by simp[hnt,Tryz.results54,TP_]) (fun n1=> ?_)
  refine Qe_ 7 2 4 32 rfl rfl ?_
  refine Am_ (X:={k:Nat//k≤ts.length}) (fun k=>⟨[(0,AC_ g),(1,BN_ ls),(4,.bx 4 1 0),(7,.bx 7 1 0),(8,.osl 50 1),(9,.bool (anyE (ts.take k.1))),(10,.int .i64 k.1)],
   [⟨4,1,.box [.int .i64 0,.nilsl,.nilsl]⟩,⟨7,1,.box [.int .i64 ((lvL (ts.take k.1)).length+1),.nilsl,Ch_ (Mx_ (syG g) (ts.take k.1))]⟩,⟨50,1,.row 3 1 8 ((finI (ts.take k.1)).map natD)⟩]⟩) (fun k=>ts.length-k.1) ⟨0,by simp⟩ (Sub.lit (by simp[z1,z2,z3,z4])) ?_
  rintro⟨k,hk⟩
  simp only
  by_cases hlt:k<ts.length
  ·obtain⟨t,ht,ht',htm⟩:=Aq_ hlt
   obtain⟨hok,h2048⟩:=htp t htm
   have hlk:ls[k]? =some (flat t):=by rw[hts,bI0,ht];rfl
   have hltl:k<ls.length:=by omega
   have hlk':ls[k]'hltl=flat t:=(aC0.1 hlk).2
   have y1:=YG_ (syG g) (ts.take k) t
   have y2:=finI_snoc (ts.take k) t
   have y3:=NT_ (ts.take k) t
   have y4:=congrArg List.length (OU_ (ts.take k) t)
   rw[←AQ_ ht]at y1 y2 y3 y4
   rw[aD0]at y4
   have hp1:=hpre (k+1)
   have hal:=arcsI_len (syG g) (ts.take k) (hpre k)
   have hfl:(finI (ts.take k)).length≤64:=by have:=Pw_ (ts.take k) 0;have:=hpre k;unfold finI;omega
   obtain⟨ah,hah⟩:∃ah,ah=(lvL (ts.take k)).length:=⟨_,rfl⟩
   rw[←hah]at y1 y2 y4 ⊢
   have e2:=YN_ g t ah (Mx_ (syG g) (ts.take k)) hok h2048 (by omega) hn (by omega)
   rw[y1]at e2
   have e3:=EU_ (flat t)
   have hpl:=pl_lvs (flat t)
   have hprk:∀j p,(plN (flat t) (flat t).length)[j]? =some p→rkN (flat t) p=j:=fun j p h=>OA_ (Nat.le_refl _) h
   have hat:At (flat t) 0 t:=At.top hok
   have eE:∀q:Nat,Aj_ Tryz.prog 141 [dNds (flat t),.int .i64 0,.int .i64 q] (.bool (enT t 0 q)):=fun q=>HS_ q _ t (flat t) 0 rfl hat (by omega)
   have eM:Aj_ Tryz.prog 142 [dNds (flat t),.int .i64 0] (.bool (empT t)):=Ej_ _ t (flat t) 0 rfl hat (by omega)
   have hfs:=finP_snoc t ah
   have hfpl:=finP_len t ah
   obtain⟨ps,hps⟩:∃ps,ps=plN (flat t) (flat t).length:=⟨_,rfl⟩
   rw[←hps]at e3 hpl hprk y2
   clear hat hps
   obtain⟨F0,hF0⟩:∃F0,F0=finI (ts.take k):=⟨_,rfl⟩
   rw[←hF0]at y2 hfl ⊢
   have hw1:IntKind.i64.wrap ((ah:Int)+1-1)=(ah:Int):=by rw[Aa_ (by omega) (by omega)];omega
   have hwk:IntKind.i64.wrap ((k:Int)+1)=(k:Int)+1:=Aa_ (by omega) (by omega)
   have hw2:IntKind.i64.wrap ((ah:Int)+1+(ps.length:Int))=((lvL (ts.take (k+1))).length:Int)+1:=by rw[Aa_ (by omega) (by omega)];omega
   (refine go1 (aj2 e2 e3) aj0 (aj5 hltl hlk hlk' @rowB.eq_1 hw1) ?_;intros;refine mk_i ?_)
   refine Am_ (X:={j:Nat//j≤ps.length}) (fun j=>⟨[(0,AC_ g),(1,BN_ ls),(4,.bx 4 1 0),(7,.bx 7 1 0),(8,.osl 50 1),(9,.bool (anyE (ts.take k))),(10,.int .i64 k),(11,dNds (flat t)),(12,.int .i64 ah),(13,BQ_ ps),(14,.int .i64 j.1)],
    [⟨4,1,.box [.int .i64 0,.nilsl,.nilsl]⟩,⟨7,1,.box [.int .i64 ((ah:Int)+1),.nilsl,Ch_ (Mx_ (syG g) (ts.take (k+1)))]⟩,⟨50,1,.row 3 1 8 ((F0++finP t ah (ps.take j.1)).map natD)⟩]⟩) (fun j=>ps.length-j.1) ⟨0,by omega⟩ (Sub.lit (by simp[finP_nil])) ?_
   rintro⟨j,hj⟩
   simp only
   by_cases hlt2:j<ps.length
   ·obtain⟨q,hq,hq',_⟩:=Aq_ hlt2
    have e4:=eE q
    have hrk:=hprk j q hq
    have hf1:=hfs (ps.take j) q
    rw[←AQ_ hq]at hf1
    have hf2:=hfpl (ps.take j)
    rw[aX0]at hf2
    have hnum:num (flat t) ah q=ah+j+1:=by unfold num;omega
    rw[hnum]at hf1
    obtain⟨F1,hF1⟩:∃F1,F1=finP t ah (ps.take j):=⟨_,rfl⟩
    rw[←hF1]at hf1 hf2 ⊢
    have hb:(F0.length+F1.length+1)*8≤150000000000000:=by omega
    have hwj:IntKind.i64.wrap ((ah:Int)+(j:Int))=(ah:Int)+(j:Int):=Aa_ (by omega) (by omega)
    have hwj2:IntKind.i64.wrap ((ah:Int)+(j:Int)+1)=(ah:Int)+(j:Int)+1:=Aa_ (by omega) (by omega)
    have hwj3:IntKind.i64.wrap ((j:Int)+1)=(j:Int)+1:=Aa_ (by omega) (by omega)
    cases hd:enT t 0 q
    ·rw[hd]at e4 hf1
     simp only[aQ0,if_false,bK0]at hf1
     (refine go1 (aj1 e4) aj0 (aj5 hlt2 hq hq' @natD.eq_1 hwj3) ?_;intros;refine mk_i ?_)
     refine Ap_.mk ⟨j+1,by omega⟩ (Sub.lit (by simp[hf1])) (by simp;omega)
     skip
    ·rw[hd]at e4 hf1
     simp only[if_true]at hf1
     (refine go1 (aj1 e4) aj0 (aj8 hlt2 hq hq' @natD.eq_1 hwj hwj2 hwj3 hb) ?_;intros;refine mk_i ?_)
     refine Ap_.mk ⟨j+1,by omega⟩ (Sub.lit (by simp[hf1,natD])) (by simp;omega)
     skip
   ·have hkk:j=ps.length:=by omega
    subst hkk
    rw[aT0,y2]
    cases hE:anyE (ts.take k)
    ·rw[hE,eK0]at y3
     rw[y3]at eM
     (refine go1 (aj1 eM) aj0 (aj2 hw2 hwk) ?_;intros;refine mk_i ?_)
     refine Ap_.mk ⟨k+1,by omega⟩ (Sub.lit (by simp)) (by simp;omega)
     skip
    ·rw[hE,Bool.true_or]at y3
     (refine go1 (aj1 eM) aj0 (aj2 hw2 hwk) ?_;intros;refine mk_i ?_)
     refine Ap_.mk ⟨k+1,by omega⟩ (Sub.lit (by simp[←y3])) (by simp;omega)
     skip
  ·have hkk:k=ts.length:=by omega
   subst hkk
   rw[aT0]
   have hfl:(finI ts).length≤64:=by have:=Pw_ ts 0;unfold finI;omega
   have hb1:((finI ts).length)*8≤150000000000000:=by omega
   have hb2:(1+(finI ts).length)*8≤150000000000000:=by omega
   have hnlt:¬ts.length<ls.length:=by omega
   have hfe:=finsR_eq ts
   unfold refF YE_ at hRR
   rw[hfe]at hRR
   refine EL_ (Sub.freezeL [50] _) ?_
   simp
   refine Bx_ 7 1 51 3 1 8 (by simp) (fun n2=> ?_)
   cases hE:anyE ts
   ·rw[hE]at hRR
    simp only[aQ0,if_false,List.nil_append]at hRR
    exact go0 aj0 aj0 (aj4 hnlt htl hRR hb1)
   ·rw[hE]at hRR
    simp only[if_true]at hRR
    exact go0 aj0 aj0 (aj5 hnlt htl hRR hb2 @natD.eq_1)
 ·have hRR:=hRa h0
  have h0b:(W==0)=false:=by simpa using h0
  exact go0 (aj1 e1) aj0 (aj3 h0 h0b hRR)
@[simp] theorem bD_tail (l:List Bool) (v:Nat) (h:v<(bD l).length):((bD l)[v]'h).tail=[]:=by simp[bD,dBl]
def numD (l:List Int):List (List DVal):=l.map dNum
@[simp] theorem mx_numD (l:List Int):mxR (numD l)=0:=mx_dNums l


end Go.Proofs.YtchgnpnbcjflcaaGreat
end
section
namespace Go.Proofs.YtchgnpnbcjflcaaGreat
open Go Go.Dm
attribute [local irreducible] DW Br_ Bu_
set_option maxRecDepth 100000
mutual
theorem Pu_ : ∀(t t':RT) (r r':List Nd),okT t=true→okT t'=true→flat t++r=flat t'++r'→t=t'∧r=r'
 | .mk x ks,.mk x' ks',r,r',h,h',he=>by
  rw[AF_,AF_,List.cons_append,List.cons_append]at he
  injection he with h1 h2
  subst h1
  have h3:=(BD_ h).2.1
  have h4:=(BD_ h').2.1
  obtain⟨h5,h6⟩:=RL_ ks ks' r r' (BD_ h).2.2 (BD_ h').2.2 (by omega) h2
  exact⟨by rw[h5],h6⟩
theorem RL_ : ∀(ks ks':List RT) (r r':List Nd),okL ks=true→okL ks'=true→ks.length=ks'.length→At_ ks++r=At_ ks'++r'→ks=ks'∧r=r'
 | [],[],r,r',_,_,_,he=>by rw[Bm_]at he;exact⟨rfl,by simpa using he⟩
 | [],_::_,_,_,_,_,hl,_=>by simp at hl
 | _::_,[],_,_,_,_,hl,_=>by simp at hl
 | u::us,u'::us',r,r',h,h',hl,he=>by
  rw[Au_,Au_,aU0,aU0]at he
  obtain⟨h1,h2⟩:=Pu_ u u' _ _ (Bd_ h).1 (Bd_ h').1 he
  obtain⟨h3,h4⟩:=RL_ us us' r r' (Bd_ h).2 (Bd_ h').2 (by simpa using hl) h2
  exact⟨by rw[h1,h3],h4⟩
end
theorem Qp_ : ∀(ts ts':List RT),(∀t∈ts,okT t=true)→(∀t∈ts',okT t=true)→ts.map flat=ts'.map flat→ts=ts'
 | [],[],_,_,_=>rfl
 | [],_::_,_,_,h=>by simp at h
 | _::_,[],_,_,h=>by simp at h
 | t::ts,t'::ts',h,h',he=>by
  rw[List.map_cons,List.map_cons]at he
  injection he with h1 h2
  have h3:=(Pu_ t t' [] [] (h t aI0) (h' t' aI0) (by rw[h1])).1
  have h4:=Qp_ ts ts' (fun u hu=>h u (aF0 _ hu)) (fun u hu=>h' u (aF0 _ hu)) h2
  rw[h3,h4]
theorem box_eq (g:List Rul) (ts:List RT) (hok:∀t∈ts,okT t=true):boxF (AB_ g) (AA_ g) ts=refF g ts:=by
 unfold boxF refF Mx_ insA syG
 rw[arcs_law _ ts hok]
end Go.Proofs.YtchgnpnbcjflcaaGreat
end
section
namespace Go.Proofs.YtchgnpnbcjflcaaGreat
open Go Go.Dm
variable [DMode]
def bsL (g:List Rul) (h:ByteArray):List (List Nd):=(g.filter fun r=>decide (r.h=h)).map (·.b)
def tsL (gt:GT) (h:ByteArray):List RT:=(gt.filter fun p=>decide (p.1=h)).map (·.2)
theorem VH_ (g:List Rul) (r:Rul) (h:ByteArray):bsL (g++[r]) h=bsL g h++(if r.h=h then [r.b]else []):=by
 unfold bsL
 rw[cY0,aY0]
 congr 1
 by_cases hr:r.h=h<;>simp[hr]
theorem TK_ (g:List Rul) (h:ByteArray):(bsL g h).length≤g.length:=by unfold bsL;rw[aL0];exact cH0 _ _
theorem VI_ (gt:GT) (h:ByteArray):bsL (mkG gt) h=(tsL gt h).map flat:=by
 unfold bsL tsL mkG
 rw[List.filter_map,cB0,cB0]
 rfl
theorem SF_ {gt:GT} {h:ByteArray} {t:RT} (ht:t∈tsL gt h):∃p∈gt,p.2=t:=by
 unfold tsL at ht
 obtain⟨p,hp,rfl⟩:=aW0.1 ht
 exact⟨p,(cL0.1 hp).1,rfl⟩
theorem Lz_ : ∀(g:List Rul) (h:ByteArray),occS (bsL g h)≤occG g
 | [],h=>by simp[bsL,occS,occG]
 | r::g,h=>by
  have ih:=Lz_ g h
  have h2:occG (r::g)=occN r.b+occG g:=by simp[occG]
  by_cases hr:r.h=h
  ·have h1:bsL (r::g) h=r.b::bsL g h:=by simp[bsL,hr]
   have h3:occS (r.b::bsL g h)=occN r.b+occS (bsL g h):=by simp[occS]
   rw[h1,h3,h2];omega
  ·have h1:bsL (r::g) h=bsL g h:=by simp[bsL,hr]
   rw[h1,h2];omega
structure OkgT (gt:GT):Prop where
 ok:OkG gt
 one:1≤gt.length
 le:gt.length≤64
 hd:(AB_ (mkG gt)).length≤16
 lb:(AA_ (mkG gt)).length≤16
 oc:occG (mkG gt)≤64
 dp:Hj_ gt=false
 ms:(Dp_ (mkG gt)).length=0
 tx:(Cm_ gt).size≤2048
theorem okgT_of {gt:GT} (hk:OkG gt) (h1:1≤gt.length) (h2:gt.length≤64) (h:PF_ gt=0):OkgT gt:=by
 unfold PF_ at h
 repeat' split at h
 all_goals first
  | omega
  | skip
 rename_i a1 a2 a3 a4 a5 a6
 exact⟨hk,h1,h2,by omega,by omega,by omega,by simpa using a4,by omega,by omega⟩
theorem tree_ok {gt:GT} (h:OkgT gt) {p:ByteArray×RT} (hp:p∈gt):okT p.2=true∧(flat p.2).length≤2048∧CV_ p.2=0:=by
 have h1:=(h.ok p hp).2
 have h2:=Ul_ hp
 have h3:=h.tx
 have h4:=SE_ p.2 h1
 refine⟨h1,by omega,?_⟩
 have h5:¬16<htT p.2:=fun hh=>by
  have:Hj_ gt=true:=by unfold Hj_;rw[bY0];exact⟨p,hp,by simpa using hh⟩
  rw[h.dp]at this
  simp at this
 unfold CV_
 rw[if_neg h5,if_neg (by omega)]
theorem sym_known {gt:GT} (h:OkgT gt) {p:ByteArray×RT} (hp:p∈gt) {x:Nd} (hx:x∈flat p.2):symE (AB_ (mkG gt)) (AA_ (mkG gt)) x≠4:=by
 have hr:(⟨p.1,flat p.2⟩:Rul)∈mkG gt:=aW0.2 ⟨p,hp,rfl⟩
 unfold symE
 split
 ·rename_i h3
  have hm:x.s∈AA_ (mkG gt):=by
   unfold AA_
   rw[(Gs_ _).2]
   unfold AJ_ Cl_
   exact bR0.2 ⟨_,hr,aW0.2 ⟨x,cL0.2 ⟨hx,by simpa using h3⟩,rfl⟩⟩
  unfold numE
  rw[if_pos hm]
  omega
 ·split
  ·rename_i h2
   have hm:x.s∈AB_ (mkG gt):=by
    rcases Classical.em (x.s∈AB_ (mkG gt))with hh | hh
    ·exact hh
    ·exfalso
     have:x.s∈Dp_ (mkG gt):=by
      unfold Dp_
      rw[cL0,(Gs_ _).2]
      refine⟨?_,by simpa using hh⟩
      unfold AJ_ Cl_
      exact bR0.2 ⟨_,hr,aW0.2 ⟨x,cL0.2 ⟨hx,by simpa using h2⟩,rfl⟩⟩
     have h3:=List.length_pos_of_mem this
     have:=h.ms
     omega
   unfold numE
   rw[if_pos hm]
   omega
  ·omega
theorem VL_ {gt:GT} (h:OkgT gt) (s:ByteArray):(bsL (mkG gt) s).any (bad4 (AB_ (mkG gt)) (AA_ (mkG gt)))=false:=by
 rw[eO0]
 intro hh
 rw[bY0]at hh
 obtain⟨l,hl,hb⟩:=hh
 rw[VI_]at hl
 obtain⟨t,ht,rfl⟩:=aW0.1 hl
 obtain⟨p,hp,rfl⟩:=SF_ ht
 unfold bad4 at hb
 rw[bY0]at hb
 obtain⟨x,hx,hxe⟩:=hb
 exact sym_known h hp hx (by simpa using hxe)
theorem tsL_ok {gt:GT} (h:OkgT gt) (s:ByteArray):∀t∈tsL gt s,okT t=true∧(flat t).length≤2048:=fun t ht=>by
 obtain⟨p,hp,rfl⟩:=SF_ ht
 have:=tree_ok h hp
 exact⟨this.1,this.2.1⟩
theorem lvL_le {gt:GT} (h:OkgT gt) (s:ByteArray):(lvL (tsL gt s)).length≤64:=by
 rw[←GB_,←VI_]
 have:=Lz_ (mkG gt) s
 have:=h.oc
 omega
def autL (gt:GT):List Auto:=(AB_ (mkG gt)).map fun s=>boxA (syG (mkG gt)) (tsL gt s)
theorem IU_ (gt:GT):(autL gt).length=(AB_ (mkG gt)).length:=by simp[autL]
theorem autL_at {gt:GT} {i:Nat} {s:ByteArray} (h:(AB_ (mkG gt))[i]? =some s):(autL gt)[i]? =some (boxA (syG (mkG gt)) (tsL gt s)):=by unfold autL;rw[bI0,h];rfl
def sumS (l:List Auto):Nat:=(l.map fun a=>a.st.toNat).sum
theorem Qx_ (l:List Auto) (a:Auto):sumS (l++[a])=sumS l+a.st.toNat:=by simp[sumS]
theorem autL_ok {gt:GT} (h:OkgT gt):∀a∈autL gt,Gl_ a=true:=fun a ha=>by
 obtain⟨s,_,rfl⟩:=aW0.1 ha
 exact boxA_ok _ _ _ (lvL_le h s)
theorem FH_ : ∀{l:List Auto},(∀a∈l,Gl_ a=true)→sumS l≤65*l.length
 | [],_=>by simp[sumS]
 | a::l,h=>by
  have h1:=MR_ (h a aI0)
  have h2:=FH_ (l:=l) fun x hx=>h x (aF0 _ hx)
  have h3:sumS (a::l)=a.st.toNat+sumS l:=by simp[sumS]
  rw[h3,List.length_cons]
  omega
def parA : Nat→List Auto→List (Auto×Nat)
 | _,[]=>[]
 | f,a::l=>(a,f)::parA (f+a.st.toNat) l
theorem FP_ (a:Auto):∀(l:List Auto) (f:Nat),parA f (l++[a])=parA f l++[(a,f+sumS l)]
 | [],f=>by simp[parA,sumS]
 | b::l,f=>by
  have h3:sumS (b::l)=b.st.toNat+sumS l:=by simp[sumS]
  rw[List.cons_append,parA,parA,FP_ a l,h3,cR0]
  rfl
theorem EV_ : ∀(l:List Auto) (f:Nat),(parA f l).length=l.length
 | [],_=>rfl
 | a::l,f=>by rw[parA,List.length_cons,List.length_cons,EV_ l]
def dPt (p:Auto×Nat):List DVal:=[.int .i64 p.1.st,CG_ p.1.fin,Ch_ p.1.arcs,.int .i64 (p.2:Int)]
abbrev dPts (l:List (Auto×Nat)):DVal:= .sl 4 64 (l.map dPt)
@[simp] theorem mx_dPt (p:Auto×Nat):mxL (dPt p)=0:=by simp[dPt,mxL,mx]
@[simp] theorem mx_dPts (l:List (Auto×Nat)):mxR (l.map dPt)=0:=mxR0 _ mx_dPt l
def Dt_ (H L:List ByteArray) (xs:List Auto):DVal:= .ref [dTab H L,dPts (parA 0 xs),.int .i64 (sumS xs)]
end Go.Proofs.YtchgnpnbcjflcaaGreat
end
section
namespace Go.Proofs.YtchgnpnbcjflcaaGreat
open Go Go.Dm
variable [DMode]
attribute [local irreducible] DW Br_ Bu_
set_option maxRecDepth 100000
def Mz_ : Ann:=⟨[],[⟨4,[7],[],[]⟩]⟩
set_option maxHeartbeats 2000000 in
theorem PL_ (g:List Rul) (h:ByteArray) (hl:g.length≤64):Aj_ Tryz.prog 35 [AC_ g,.str h] (BN_ (bsL g h)):=by
 refine Ab_ [50] (fn:=Tryz.f35) Tryz.func35 rfl Tryz.call35 (by simp[Tryz.ntmps35]) (by simp[mx]) ?_
 intro hwf B hnt
 simp only[Tryz.ntmps35]at hnt
 have hgAnn:=Ao_ Mz_ Tryz.mixed (aj2 @Mz_.eq_1 Tryz.results35)
 clear hwf
 simp only[argS]
 iterate 6 ((first | refine Ak_ fun K hK=> ?_ | (refine DW_r Mz_ Tryz.mixed (by kernel_rfl) ?_;simp[Mz_,hnt];try simp (disch:=omega) only[Aa_]) | refine Ac_ ?_ | (refine As_ ?_ ?_ ?_;(· (simp[hnt];done));(try (rotate_left;(· (intro hc;(try simp[hnt]at hc);done))))) | (refine Al_ ?_;simp[Tryz.results35,hnt]) | ((first | refine Ah_ ?_ | refine Ag_ ?_);simp[hnt]) | (intro hc;(try simp[hnt]at hc);(try (exfalso;omega))) | (refine⟨?_,?_⟩; · omega) | omega | apply_assumption -exfalso -symm | (exfalso;omega)))
 refine Bn_ 5 50 153 1 24 (by simp[hnt,Tryz.results35,Mz_]) (fun n=> ?_)
 (refine go1 aj0 aj0 aj0 ?_;intros;refine mk_i ?_)
 refine Am_ (X:={k:Nat//k≤g.length}) (fun k=>⟨[(1,.str h),(5,.osl 50 1),(8,AC_ g),(9,.int .i64 g.length),(10,.int .i64 k.1)],[⟨50,1,.row 153 1 24 ((bsL (g.take k.1) h).map rowB)⟩]⟩) (fun k=>g.length-k.1) ⟨0,by omega⟩ (Sub.lit (by simp[bsL])) ?_
 rintro⟨k,hk⟩
 simp only
 by_cases hlt:k<g.length
 ·obtain⟨r,hr,hr',hrm⟩:=Aq_ hlt
  have e1:=Mn_ r.b
  have hsn:=VH_ (g.take k) r h
  rw[←AQ_ hr]at hsn
  have htl:=TK_ (g.take k) h
  rw[aX0]at htl
  obtain⟨T,hT⟩:∃T,T=bsL (g.take k) h:=⟨_,rfl⟩
  rw[←hT]at hsn htl ⊢
  have hb:(T.length+1)*24≤150000000000000:=by omega
  have hwk:IntKind.i64.wrap ((k:Int)+1)=(k:Int)+1:=Aa_ (by omega) (by omega)
  by_cases hh:r.h=h
  ·rw[if_pos hh]at hsn
   have hs2:(bsL (g.take (k+1)) h).map rowB=T.map rowB++[[dNds r.b]]:=by rw[hsn,aY0];rfl
   (refine go1 (aj1 e1) aj0 (aj7 @dRul.eq_1 hlt hr hr' hh hb hwk) ?_;intros;refine mk_i ?_)
   refine Ap_.mk ⟨k+1,by omega⟩ (Sub.lit (by simp[hs2])) (by simp;omega)
   skip
  ·rw[if_neg hh,bK0]at hsn
   have hh2:(r.h==h)=false:=by simpa using hh
   (refine go1 aj0 aj0 (aj7 @dRul.eq_1 hlt hr hr' hh hh2 hwk) ?_;intros;refine mk_i ?_)
   refine Ap_.mk ⟨k+1,by omega⟩ (Sub.lit (by simp[hsn])) (by simp;omega)
   skip
 ·have hkk:k=g.length:=by omega
  subst hkk
  rw[aT0]
  exact go0 aj0 aj0 aj0
def My_ : Ann:=⟨[],[]⟩
set_option maxHeartbeats 2000000 in
theorem MQ_ (g:List Rul) (h:ByteArray) (hl:g.length≤64):Aj_ Tryz.prog 55 [AC_ g,.str h] (BN_ (bsL g h)):=by
 refine Ab_ [50] (fn:=Tryz.f55) Tryz.func55 rfl Tryz.call55 (by simp[Tryz.ntmps55]) (by simp[mx]) ?_
 intro hwf B hnt
 simp only[Tryz.ntmps55]at hnt
 have hgAnn:=Ao_ My_ Tryz.mixed (aj2 @My_.eq_1 Tryz.results55)
 clear hwf
 simp only[argS]
 iterate 6 ((first | refine Ak_ fun K hK=> ?_ | (refine DW_r My_ Tryz.mixed (by kernel_rfl) ?_;simp[My_,hnt];try simp (disch:=omega) only[Aa_]) | refine Ac_ ?_ | (refine As_ ?_ ?_ ?_;(· (simp[hnt];done));(try (rotate_left;(· (intro hc;(try simp[hnt]at hc);done))))) | (refine Al_ ?_;simp[Tryz.results55,hnt]) | ((first | refine Ah_ ?_ | refine Ag_ ?_);simp[hnt]) | (intro hc;(try simp[hnt]at hc);(try (exfalso;omega))) | (refine⟨?_,?_⟩; · omega) | omega | apply_assumption -exfalso -symm | (exfalso;omega)))
 refine Bn_ 5 50 153 1 24 (by simp[hnt,Tryz.results55,My_]) (fun n=> ?_)
 (refine go1 aj0 aj0 aj0 ?_;intros;refine mk_i ?_)
 refine Am_ (X:={k:Nat//k≤g.length}) (fun k=>⟨[(0,AC_ g),(1,.str h),(5,.osl 50 1),(6,.int .i64 k.1)],[⟨50,1,.row 153 1 24 ((bsL (g.take k.1) h).map rowB)⟩]⟩) (fun k=>g.length-k.1) ⟨0,by omega⟩ (Sub.lit (by simp[bsL])) ?_
 rintro⟨k,hk⟩
 simp only
 by_cases hlt:k<g.length
 ·obtain⟨r,hr,hr',hrm⟩:=Aq_ hlt
  have hsn:=VH_ (g.take k) r h
  rw[←AQ_ hr]at hsn
  have htl:=TK_ (g.take k) h
  rw[aX0]at htl
  obtain⟨T,hT⟩:∃T,T=bsL (g.take k) h:=⟨_,rfl⟩
  rw[←hT]at hsn htl ⊢
  have hb:(T.length+1)*24≤150000000000000:=by omega
  have hwk:IntKind.i64.wrap ((k:Int)+1)=(k:Int)+1:=Aa_ (by omega) (by omega)
  by_cases hh:r.h=h
  ·rw[if_pos hh]at hsn
   have hs2:(bsL (g.take (k+1)) h).map rowB=T.map rowB++[[dNds r.b]]:=by rw[hsn,aY0];rfl
   (refine go1 aj0 aj0 (aj7 @dRul.eq_1 hlt hr hr' hh hb hwk) ?_;intros;refine mk_i ?_)
   refine Ap_.mk ⟨k+1,by omega⟩ (Sub.lit (by simp[hs2])) (by simp;omega)
   skip
  ·rw[if_neg hh,bK0]at hsn
   have hh2:(r.h==h)=false:=by simpa using hh
   (refine go1 aj0 aj0 (aj7 @dRul.eq_1 hlt hr hr' hh hh2 hwk) ?_;intros;refine mk_i ?_)
   refine Ap_.mk ⟨k+1,by omega⟩ (Sub.lit (by simp[hsn])) (by simp;omega)
   skip
 ·have hkk:k=g.length:=by omega
  subst hkk
  rw[aT0]
  exact go0 aj0 aj0 aj0
end Go.Proofs.YtchgnpnbcjflcaaGreat
end
section
namespace Go.Proofs.YtchgnpnbcjflcaaGreat
open Go Go.Dm
attribute [local irreducible] DW Br_ Bu_
set_option maxRecDepth 100000
theorem RQ_ : ∀{ls:List (List Nd)},(∀l∈ls,Kk_ l=0)→errF ls=0
 | [],_=>rfl
 | l::ls,h=>by
  unfold errF
  rw[if_pos (h l aI0)]
  exact RQ_ fun x hx=>h x (aF0 _ hx)
theorem bodyC_ok {gt:GT} (h:OkgT gt) {p:ByteArray×RT} (hp:p∈gt):Kk_ (flat p.2)=0:=by
 obtain⟨h1,h2,h3⟩:=tree_ok h hp
 obtain⟨t,ht,he,hc⟩:=bodyC_t h2 (DL_ h1)
 have:=(Pu_ p.2 t [] [] h1 ht (by rw[he])).1
 rw[hc,←this]
 exact h3
theorem errF_ok {gt:GT} (h:OkgT gt) (s:ByteArray):errF (bsL (mkG gt) s)=0:=RQ_ fun l hl=>by
 rw[VI_]at hl
 obtain⟨t,ht,rfl⟩:=aW0.1 hl
 obtain⟨p,hp,rfl⟩:=SF_ ht
 exact bodyC_ok h hp
theorem occS_ok {gt:GT} (h:OkgT gt) (s:ByteArray):occS (bsL (mkG gt) s)≤64:=by
 have:=Lz_ (mkG gt) s
 have:=h.oc
 omega
theorem wrong_ok {gt:GT} (h:OkgT gt) (s:ByteArray):Hn_ (AB_ (mkG gt)) (AA_ (mkG gt)) (bsL (mkG gt) s)=0:=by
 unfold Hn_
 have:=occS_ok h s
 rw[if_pos (errF_ok h s),if_neg (by rw[VL_ h s];simp),if_neg (by omega)]
theorem Pp_ {gt:GT} (h:OkgT gt):(AB_ (mkG gt)).length≠0:=by
 intro h0
 cases gt with
 | nil=>have:=h.one;simp at this
 | cons p gt =>
  have h1:p.1∈AB_ (mkG (p::gt)):=NA_.2 ⟨⟨p.1,flat p.2⟩,aI0,rfl⟩
  rw[fB0.1 h0]at h1
  simp at h1
theorem tsL_uq {gt:GT} (h:OkgT gt) (s:ByteArray):∀ts',bsL (mkG gt) s=ts'.map flat→(∀t∈ts',okT t=true∧(flat t).length≤2048)→ts'=tsL gt s:=fun ts' h1 h2=>Qp_ ts' (tsL gt s) (fun t ht=>(h2 t ht).1) (fun t ht=>(tsL_ok h s t ht).1) (by rw[←h1,VI_])
theorem box15_ok {gt:GT} (h:OkgT gt) (s:ByteArray):Aj_ Tryz.prog 34 [dTab (AB_ (mkG gt)) (AA_ (mkG gt)),BN_ (bsL (mkG gt) s)] (.tup [.agg (Gh_ (boxA (syG (mkG gt)) (tsL gt s))),.int .i64 0]):=by
 have h1:=errF_ok h s
 have h2:=VL_ h s
 have h3:=occS_ok h s
 have e5:=of15_pure (AB_ (mkG gt)) (AA_ (mkG gt)) (bsL (mkG gt) s) (.tup [boxF (AB_ (mkG gt)) (AA_ (mkG gt)) (tsL gt s),.int .i64 0]) (Pp_ h) ⟨fun hh=>absurd h1 hh,fun _ hh=>by rw[h2]at hh;simp at hh,fun _ _ hh=>by omega,fun _ ts' h4 h5 _ _=>by rw[tsL_uq h s ts' h4 h5]⟩ (by simp[boxF,YE_,mx,mxL])
 rw[boxA_eq]at e5
 exact e5
theorem rof19_ok {gt:GT} (h:OkgT gt) (hs:SmlG (mkG gt)) (s:ByteArray):Aj_ Tryz.prog 54 [AC_ (mkG gt),BN_ (bsL (mkG gt) s)] (.tup [.agg (Gh_ (boxA (syG (mkG gt)) (tsL gt s))),.int .i64 0]):=by
 have hbl:=TK_ (mkG gt) s
 have hgl:=Fb_ gt
 have hle:=h.le
 have hnl:=Ef_ (k:=3) hs
 have e6:=XV_ (mkG gt) (bsL (mkG gt) s) (.tup [refF (mkG gt) (tsL gt s),.int .i64 0]) (by omega) (by simp[refF,YE_,mx,mxL]) (fun hh=>absurd (wrong_ok h s) hh) (fun ts' h4 h5 _ _=>by rw[tsL_uq h s ts' h4 h5])
 rw[←box_eq (mkG gt) (tsL gt s) fun t ht=>(tsL_ok h s t ht).1,boxA_eq]at e6
 exact e6
def Qa_ : Ann:=⟨[21],[⟨8,[9],[],[]⟩,⟨11,[],[0],[]⟩]⟩
theorem Rg_ (g:List Rul) (c:Int) (hc:c≠0) (h:Aj_ Tryz.prog 76 [AC_ g] (.int .i64 c)):Aj_ Tryz.prog 10 [AC_ g] (.tup [.nilp,.int .i64 c]):=by
 have e1:=of14_err g c hc h
 have hcb:(c==0)=false:=by simpa using hc
 refine Ab_ [] (fn:=Tryz.f10) Tryz.func10 rfl Tryz.call10 (by simp[Tryz.ntmps10]) (by simp[mx]) ?_
 intro hwf B hnt
 simp only[Tryz.ntmps10]at hnt
 have hgAnn:=Ao_ Qa_ Tryz.mixed (aj2 @Qa_.eq_1 Tryz.results10)
 clear hwf
 simp only[argS]
 exact go0 (aj1 e1) aj0 (aj2 hc hcb)
set_option maxHeartbeats 4000000 in
theorem Nv_ (gt:GT) (h:OkgT gt) (hs:SmlG (mkG gt)) (hck:Aj_ Tryz.prog 76 [AC_ (mkG gt)] (.int .i64 0)):Aj_ Tryz.prog 10 [AC_ (mkG gt)] (.tup [Dt_ (AB_ (mkG gt)) (AA_ (mkG gt)) (autL gt),.int .i64 0]):=by
 refine Ab_ [52,21] (fn:=Tryz.f10) Tryz.func10 rfl Tryz.call10 (by simp[Tryz.ntmps10]) (by simp[mx,Dt_,mxL,dTab]) ?_
 intro hwf B hnt
 simp only[Tryz.ntmps10]at hnt
 have hgAnn:=Ao_ Qa_ Tryz.mixed (aj2 @Qa_.eq_1 Tryz.results10)
 clear hwf
 simp only[argS]
 have hgl:=Fb_ gt
 have hle:=h.le
 have hnl:=Ef_ (k:=3) hs
 have hhd:=h.hd
 have hlb:=h.lb
 have e1:=of14_ok (mkG gt) (by omega) (by omega) (by omega) hck
 have e2:=FQ_ (AB_ (mkG gt)) (AA_ (mkG gt))
 have hal:=IU_ gt
 have haok:=autL_ok h
 obtain⟨R,hR⟩:∃R,R=Dt_ (AB_ (mkG gt)) (AA_ (mkG gt)) (autL gt):=⟨_,rfl⟩
 rw[←hR]
 have hbx:∀i s,(AB_ (mkG gt))[i]? =some s→_:=fun i s hi=>autL_at (gt:=gt) hi
 have hb1:∀s,_:=fun s=>PL_ (mkG gt) s (by omega)
 have hb2:∀s,_:=fun s=>box15_ok h s
 obtain⟨A,hA⟩:∃A,A=autL gt:=⟨_,rfl⟩
 rw[←hA]at hR hal haok hbx
 obtain⟨H,hH⟩:∃H,H=AB_ (mkG gt):=⟨_,rfl⟩
 rw[←hH]at e1 e2 hR hal hhd hbx hb2
 obtain⟨L,hL⟩:∃L,L=AA_ (mkG gt):=⟨_,rfl⟩
 rw[←hL]at e1 e2 hR hb2
 obtain⟨g,hg⟩:∃g,g=mkG gt:=⟨_,rfl⟩
 rw[←hg]at e1 hb1 hb2 hbx ⊢
 clear hH hL hck hnl hlb hs hA
 (refine go1 (aj2 e1 e2) aj0 aj0 ?_;intros;refine mk_i ?_)
 refine Bx_ 21 1 52 86 4 64 (by simp) (fun n1=> ?_)
 refine Am_ (X:={i:Nat//i≤H.length}) (fun i=>⟨[(0,AC_ g),(4,dTab H L),(6,.bx 21 1 0),(23,BC_ H),(24,.int .i64 H.length),(25,.int .i64 i.1)],[⟨21,1,.box [dTab H L,.osl 52 1,.int .i64 (sumS (A.take i.1))]⟩,⟨52,1,.row 86 4 64 ((parA 0 (A.take i.1)).map dPt)⟩]⟩) (fun i=>H.length-i.1) ⟨0,by simp⟩ (Sub.lit (by simp[sumS,parA,dTab])) ?_
 rintro⟨i,hi⟩
 simp only
 by_cases hlt:i<H.length
 ·obtain⟨s,hx,hx',hxm⟩:=Aq_ hlt
  have hai:=hbx i s hx
  obtain⟨a,ha⟩:∃a,a=boxA (syG g) (tsL gt s):=⟨_,rfl⟩
  have e3:=hb1 s
  have e4:=hb2 s
  rw[←ha]at hai e4
  have hst:=MR_ (haok a (bM0 hai))
  have hsn:=FP_ a (A.take i) 0
  have hss:=Qx_ (A.take i) a
  rw[←AQ_ hai]at hsn hss
  have hpl:=EV_ (A.take i) 0
  have hsl:=FH_ (l:=A.take i) fun x hx=>haok x (dB0 hx)
  rw[aX0]at hpl hsl
  rw[bS0]at hsn
  obtain⟨T,hT⟩:∃T,T=parA 0 (A.take i):=⟨_,rfl⟩
  obtain⟨S,hS⟩:∃S,S=sumS (A.take i):=⟨_,rfl⟩
  rw[←hT]at hsn hpl ⊢
  rw[←hS]at hsn hss hsl ⊢
  have hts:(parA 0 (A.take (i+1))).map dPt=T.map dPt++[[.int .i64 a.st,CG_ a.fin,Ch_ a.arcs,.int .i64 (S:Int)]]:=by rw[hsn,aY0];rfl
  have hb:(T.length+1)*64≤150000000000000:=by omega
  have hwk:IntKind.i64.wrap ((i:Int)+1)=(i:Int)+1:=Aa_ (by omega) (by omega)
  have hws:IntKind.i64.wrap ((S:Int)+a.st)=(sumS (A.take (i+1)):Int):=by rw[Aa_ (by omega) (by omega),hss];omega
  simp only[Gh_]at e4
  (refine go1 (aj2 e3 e4) aj0 (aj8 @dStr.eq_1 @Gh_.eq_1 hlt hx hx' hb hwk hws) ?_;intros;refine mk_i ?_)
  refine Ap_.mk ⟨i+1,by omega⟩ (Sub.lit (by simp[hts,dTab])) (by simp;omega)
  skip
 ·have hkk:i=H.length:=by omega
  subst hkk
  have hAt:A.take H.length=A:=bX0 (by omega)
  rw[hAt]
  unfold Dt_ at hR
  (refine go1 aj0 aj0 aj0 ?_;intros;refine mk_i ?_)
  exact hR.symm
def stL (l:List Auto):List Nat:=(parA 0 l).map (·.2)
def ntL (l:List Auto):List Nat:=l.zipIdx.flatMap fun p=>List.replicate p.1.st.toNat p.2
def mvA (f:Nat) (x:Arc):Arc:=⟨(f:Int)+x.fr,x.sy,(f:Int)+x.to⟩
def mvF (f:Nat) (q:Int):Int:=(f:Int)+q
def finA (l:List Auto):List Int:=(parA 0 l).flatMap fun p=>p.1.fin.map (mvF p.2)
def arcA (l:List Auto):List Arc:=(parA 0 l).flatMap fun p=>p.1.arcs.map (mvA p.2)
theorem stL_snoc (l:List Auto) (a:Auto):stL (l++[a])=stL l++[sumS l]:=by unfold stL;rw[FP_,aY0];simp
theorem ntL_snoc (l:List Auto) (a:Auto):ntL (l++[a])=ntL l++List.replicate a.st.toNat l.length:=by unfold ntL;rw[List.zipIdx_append,dT0];simp
theorem finA_snoc (l:List Auto) (a:Auto):finA (l++[a])=finA l++a.fin.map (mvF (sumS l)):=by unfold finA;rw[FP_,dT0];simp
theorem arcA_snoc (l:List Auto) (a:Auto):arcA (l++[a])=arcA l++a.arcs.map (mvA (sumS l)):=by unfold arcA;rw[FP_,dT0];simp
theorem Oh_ (l:List Auto):(stL l).length=l.length:=by unfold stL;rw[aL0,EV_]
theorem OJ_ (l:List Auto):(ntL l).length=sumS l:=by
 unfold ntL sumS
 rw[List.length_flatMap]
 simp only[cX0]
 congr 1
 refine List.ext_getElem (by simp) fun i h1 h2=> ?_
 simp
theorem Vv_ : ∀(ts:List RT) (ah:Nat),(finR ah ts).length≤(lvL ts).length
 | [],_=>by simp[finR]
 | t::ts,ah=>by
  have h1:(lvL (t::ts)).length=(lvs (flat t)).length+(lvL ts).length:=by simp[lvL]
  have h2:=Vv_ ts (ah+(lvs (flat t)).length)
  have h3:((plN (flat t) (flat t).length).filter (enT t 0)).length≤(plN (flat t) (flat t).length).length:=cH0 _ _
  rw[Jj_ (Nat.le_refl _),FM_]at h3
  rw[finR,aD0,aL0]
  omega
theorem finsR_len (ts:List RT):(IJ_ ts).length≤(lvL ts).length+1:=by
 have:=Vv_ ts 0
 unfold IJ_
 rw[aD0,aL0]
 split
 ·simp;omega
 ·simp;omega
structure SmA (a:Auto):Prop where
 ok:Gl_ a=true
 fi:a.fin.length≤65
 ar:a.arcs.length≤1073741888
theorem PP_ {gt:GT} (h:OkgT gt):∀a∈autL gt,SmA a:=fun a ha=>by
 have hok:=autL_ok h a ha
 obtain⟨s,_,rfl⟩:=aW0.1 ha
 refine⟨hok,?_,arcsB_len _ _ (fun t ht=>(tsL_ok h s t ht).2) (lvL_le h s)⟩
 have h1:=finsR_len (tsL gt s)
 have h2:=lvL_le h s
 show (IJ_ (tsL gt s)).length≤65
 omega
theorem IK_ : ∀{l:List Auto},(∀a∈l,SmA a)→∀f,((parA f l).flatMap fun p=>p.1.fin.map (mvF p.2)).length≤65*l.length
 | [],_,_=>by simp[parA]
 | a::l,h,f=>by
  have h1:=(h a aI0).fi
  have h2:=IK_ (l:=l) (fun x hx=>h x (aF0 _ hx)) (f+a.st.toNat)
  rw[parA,cK0,aD0,aL0,List.length_cons]
  simp only
  omega
theorem IW_ : ∀{l:List Auto},(∀a∈l,SmA a)→∀f,((parA f l).flatMap fun p=>p.1.arcs.map (mvA p.2)).length≤1073741888*l.length
 | [],_,_=>by simp[parA]
 | a::l,h,f=>by
  have h1:=(h a aI0).ar
  have h2:=IW_ (l:=l) (fun x hx=>h x (aF0 _ hx)) (f+a.st.toNat)
  rw[parA,cK0,aD0,aL0,List.length_cons]
  simp only
  omega
abbrev Sa_ (l:List Auto):DVal:= .sl 3 56 (l.map Gh_)
def refM (l:List Auto):DVal:= .agg [.int .i64 (sumS l),BQ_ (stL l),BQ_ (ntL l),CG_ (finA l),Ch_ (arcA l),Sa_ l]
@[simp] theorem mx_dAutos (l:List Auto):mxR (l.map Gh_)=0:=mxR0 _ mx_dAuto l
theorem mx_repN (j i:Nat):mxR (List.replicate j (natD i))=0:=by
 have:=mxR0 natD (by intro x;simp[natD,mxL,mx]) (List.replicate j i)
 rwa[List.map_replicate]at this
theorem bnd_a {a b n:Nat} (h1:a≤17179870208) (h2:b<n) (h3:n≤1073741888):(a+b+1)*32≤150000000000000:=by omega
theorem wrap_j {j n:Nat} (h1:j<n) (h2:n≤1073741888):IntKind.i64.wrap ((j:Int)+1)=(j:Int)+1:=Aa_ (by omega) (by omega)
theorem wrap_s {S:Nat} {y st:Int} (h1:S≤1040) (h2:0≤y) (h3:y<st) (h4:st≤65):IntKind.i64.wrap ((S:Int)+y)=(S:Int)+y:=Aa_ (by omega) (by omega)
theorem Fc_ {α β:Type} {l:List α} {i:Nat} {x:α} (f:α→β) (h:l[i]? =some x):(l.take (i+1)).map f=(l.take i).map f++[f x]:=by rw[bF0,h,aY0];rfl
def anRS416 : Ann:=⟨[],[⟨6,[6],[],[]⟩,⟨21,[12],[],[]⟩]⟩
set_option maxHeartbeats 8000000 in
theorem Ln_ (gt:GT) (h:OkgT gt) (hs:SmlG (mkG gt)):Aj_ Tryz.prog 16 [AC_ (mkG gt)] (refM (autL gt)):=by
 refine Ab_ [201,202,203,204,205,3,2] (fn:=Tryz.f16) Tryz.func16 rfl Tryz.call16 (by simp[Tryz.ntmps16]) (by simp[mx,refM,mxL]) ?_
 intro hwf B hnt
 simp only[Tryz.ntmps16]at hnt
 have hgAnn:=Ao_ anRS416 Tryz.mixed (aj2 @anRS416.eq_1 Tryz.results16)
 clear hwf
 simp only[argS]
 have hgl:=Fb_ gt
 have hle:=h.le
 have hhd:=h.hd
 have e1:=DD_ (mkG gt)
 have hal:=IU_ gt
 have hsm:=PP_ h
 obtain⟨R,hR⟩:∃R,R=refM (autL gt):=⟨_,rfl⟩
 rw[←hR]
 have hbx:∀i s,(AB_ (mkG gt))[i]? =some s→_:=fun i s hi=>autL_at (gt:=gt) hi
 have hb1:∀s,_:=fun s=>MQ_ (mkG gt) s (by omega)
 have hb2:∀s,_:=fun s=>rof19_ok h hs s
 obtain⟨A,hA⟩:∃A,A=autL gt:=⟨_,rfl⟩
 rw[←hA]at hR hal hsm hbx
 obtain⟨H,hH⟩:∃H,H=AB_ (mkG gt):=⟨_,rfl⟩
 rw[←hH]at e1 hal hhd hbx
 obtain⟨g,hg⟩:∃g,g=mkG gt:=⟨_,rfl⟩
 rw[←hg]at e1 hb1 hb2 hbx ⊢
 clear hH hs hA
 (refine go1 (aj1 e1) aj0 aj0 ?_;intros;refine mk_i ?_)
 refine Bx_ 3 1 201 3 1 8 (by simp) (fun n1=> ?_)
 refine Bx_ 3 2 202 3 1 8 (by simp) (fun n2=> ?_)
 refine Bx_ 3 3 203 3 1 8 (by simp) (fun n3=> ?_)
 refine Bx_ 3 4 204 97 4 32 (by simp) (fun n4=> ?_)
 refine Bx_ 3 5 205 80 3 56 (by simp) (fun n5=> ?_)
 refine Am_ (X:={i:Nat//i≤H.length}) (fun i=>⟨[(0,AC_ g),(2,.bx 2 1 0),(3,.bx 3 1 0),(4,BC_ H),(5,.int .i64 i.1)],
  [⟨2,1,.box [.int .i64 0,.nilsl,.nilsl,.nilsl,.nilsl,.nilsl]⟩,⟨3,1,.box [.int .i64 (sumS (A.take i.1)),.osl 201 1,.osl 202 1,.osl 203 1,.osl 204 1,.osl 205 1]⟩,
   ⟨201,1,.row 3 1 8 ((stL (A.take i.1)).map natD)⟩,⟨202,1,.row 3 1 8 ((ntL (A.take i.1)).map natD)⟩,⟨203,1,.row 3 1 8 ((finA (A.take i.1)).map dNum)⟩,⟨204,1,.row 97 4 32 ((arcA (A.take i.1)).map dArc)⟩,⟨205,1,.row 80 3 56 ((A.take i.1).map Gh_)⟩]⟩) (fun i=>H.length-i.1) ⟨0,by simp⟩ (Sub.lit (by simp[sumS,stL,ntL,finA,arcA,parA])) ?_
 rintro⟨i,hi⟩
 simp only
 by_cases hlt:i<H.length
 ·obtain⟨s,hx,hx',hxm⟩:=Aq_ hlt
  have hai:=hbx i s hx
  obtain⟨a,ha⟩:∃a,a=boxA (syG g) (tsL gt s):=⟨_,rfl⟩
  have e3:=hb1 s
  have e4:=hb2 s
  rw[←ha]at hai e4
  have hsa:=hsm a (bM0 hai)
  have hst:=MR_ hsa.ok
  have hss:=Qx_ (A.take i) a
  have hs1:=stL_snoc (A.take i) a
  have hs2:=ntL_snoc (A.take i) a
  have hs3:=finA_snoc (A.take i) a
  have hs4:=arcA_snoc (A.take i) a
  rw[←AQ_ hai]at hss hs1 hs2 hs3 hs4
  have hs5:List.take (i+1) (List.map Gh_ A)=(A.take i).map Gh_++[[.int .i64 a.st,CG_ a.fin,Ch_ a.arcs]]:=by rw[←eR0,Fc_ Gh_ hai];rfl
  have hmt:∀x∈A.take i,SmA x:=fun x hx=>hsm x (dB0 hx)
  have hsl:=FH_ (l:=A.take i) fun x hx=>(hmt x hx).ok
  have hl1:=Oh_ (A.take i)
  have hl2:=OJ_ (A.take i)
  have hl3:=IK_ hmt 0
  have hl4:=IW_ hmt 0
  have hl5:(A.take i).length=i:=by rw[aX0];omega
  rw[hl5]at hsl hl1 hl3 hl4 hs2
  have hi16:i≤16:=by omega
  have hl3':(finA (A.take i)).length≤1040:=Nat.le_trans (show _≤65*i from hl3) (bT0 65 hi16)
  have hl4':(arcA (A.take i)).length≤17179870208:=Nat.le_trans (show _≤1073741888*i from hl4) (bT0 1073741888 hi16)
  have hsl':sumS (A.take i)≤1040:=Nat.le_trans hsl (bT0 65 hi16)
  clear hl3 hl4 hsl
  obtain⟨S,hS⟩:∃S,S=sumS (A.take i):=⟨_,rfl⟩
  rw[←hS]at hss hsl' hs1 hs3 hs4 hl2 ⊢
  obtain⟨T1,hT1⟩:∃T,T=stL (A.take i):=⟨_,rfl⟩
  obtain⟨T2,hT2⟩:∃T,T=ntL (A.take i):=⟨_,rfl⟩
  obtain⟨T3,hT3⟩:∃T,T=finA (A.take i):=⟨_,rfl⟩
  obtain⟨T4,hT4⟩:∃T,T=arcA (A.take i):=⟨_,rfl⟩
  obtain⟨T5,hT5⟩:∃T,T=A.take i:=⟨_,rfl⟩
  rw[←hT1]at hs1 hl1 ⊢
  rw[←hT2]at hs2 hl2 ⊢
  rw[←hT3]at hs3 hl3' ⊢
  rw[←hT4]at hs4 hl4' ⊢
  rw[←hT5]at hs5 hl5 ⊢
  clear hT1 hT2 hT3 hT4 hT5 hmt hS
  have hq1:=congrArg (List.map natD) hs1
  have hq2:=congrArg (List.map natD) hs2
  have hq3:=congrArg (List.map dNum) hs3
  have hq4:=congrArg (List.map dArc) hs4
  rw[aY0]at hq1 hq2 hq3 hq4
  have hb1':(T1.length+1)*8≤150000000000000:=by omega
  have hb5':(T5.length+1)*56≤150000000000000:=by omega
  have hwk:IntKind.i64.wrap ((i:Int)+1)=(i:Int)+1:=Aa_ (by omega) (by omega)
  simp only[Gh_]at e4
  (refine go1 (aj2 e3 e4) aj0 (aj7 @dStr.eq_1 @Gh_.eq_1 hlt hx hx' hb1' hb5') ?_;intros;refine mk_i ?_)
  refine Am_ (X:={j:Nat//j≤a.st.toNat}) (fun j=>⟨[(0,AC_ g),(2,.bx 2 1 0),(3,.bx 3 1 0),(4,BC_ H),(5,.int .i64 i),(6,.ref [.int .i64 a.st,CG_ a.fin,Ch_ a.arcs]),(8,.int .i64 (S:Int)),(9,.int .i64 j.1)],
    [⟨2,1,.box [.int .i64 0,.nilsl,.nilsl,.nilsl,.nilsl,.nilsl]⟩,⟨3,1,.box [.int .i64 (S:Int),.osl 201 1,.osl 202 1,.osl 203 1,.osl 204 1,.osl 205 1]⟩,
     ⟨201,1,.row 3 1 8 (T1.map natD++[[.int .i64 (S:Int)]])⟩,⟨202,1,.row 3 1 8 (T2.map natD++List.replicate j.1 (natD i))⟩,⟨203,1,.row 3 1 8 (T3.map dNum)⟩,⟨204,1,.row 97 4 32 (T4.map dArc)⟩,⟨205,1,.row 80 3 56 (T5.map Gh_++[[.int .i64 a.st,CG_ a.fin,Ch_ a.arcs]])⟩]⟩) (fun j=>a.st.toNat-j.1) ⟨0,by simp⟩ (Sub.lit (by simp)) ?_
  rintro⟨j,hj⟩
  simp only
  by_cases hlt2:j<a.st.toNat
  · have hrp:List.replicate (j+1) (natD i)=List.replicate j (natD i)++[[.int .i64 (i:Int)]]:=by rw[List.replicate_succ'];rfl
    have hZm:=mx_repN j i
    have hji:(j:Int)<a.st:=by omega
    have hrl:(List.replicate j (natD i)).length=j:=by simp
    obtain⟨Z,hZ⟩:∃Z,Z=List.replicate j (natD i):=⟨_,rfl⟩
    rw[←hZ]at hrp hrl hZm ⊢
    have hb2':(T2.length+Z.length+1)*8≤150000000000000:=by omega
    have hwj:IntKind.i64.wrap ((j:Int)+1)=(j:Int)+1:=Aa_ (by omega) (by omega)
    (refine go1 aj0 aj0 (aj3 hji hb2' hwj) ?_;intros;refine mk_i ?_)
    refine Ap_.mk ⟨j+1,by omega⟩ (Sub.lit (by simp[hrp,hZm])) (by simp;omega)
    skip
  · have hkk:j=a.st.toNat:=by omega
    subst hkk
    have hji:¬((a.st.toNat:Nat):Int)<a.st:=by omega
    (refine go1 aj0 aj0 (aj1 hji) ?_;intros;refine mk_i ?_)
    rw[List.map_replicate]at hq2
    obtain⟨FA,hFA⟩:∃FA,FA=a.fin.map (mvF S):=⟨_,rfl⟩
    obtain⟨AR,hAR⟩:∃AR,AR=a.arcs.map (mvA S):=⟨_,rfl⟩
    have hFl:FA.length=a.fin.length:=by rw[hFA,aL0]
    have hAl:AR.length=a.arcs.length:=by rw[hAR,aL0]
    rw[←hFA]at hq3
    rw[←hAR]at hq4
    obtain⟨U1,hU1⟩:∃U,U=T1.map natD++[[.int .i64 (S:Int)]]:=⟨_,rfl⟩
    have hm1:mxR U1=0:=by rw[hU1];simp[mxR,mxL,mx]
    obtain⟨U2,hU2⟩:∃U,U=T2.map natD++List.replicate a.st.toNat (natD i):=⟨_,rfl⟩
    have hm2:mxR U2=0:=by rw[hU2,←List.map_replicate,←aY0];exact mxR0 natD (by intro x;simp[natD,mxL,mx]) _
    obtain⟨U5,hU5⟩:∃U,U=T5.map Gh_++[[.int .i64 a.st,CG_ a.fin,Ch_ a.arcs]]:=⟨_,rfl⟩
    have hm5:mxR U5=0:=by rw[hU5,←hs5];rw[←eR0];simp
    have hq1':List.map natD (stL (List.take (i+1) A))=U1:=by rw[hU1,hq1];rfl
    rw[←hU2]at hq2
    rw[←hU5]at hs5
    rw[←hU1,←hU2,←hU5]
    refine Am_ (X:={j:Nat//j≤a.fin.length}) (fun j=>⟨[(0,AC_ g),(2,.bx 2 1 0),(3,.bx 3 1 0),(4,BC_ H),(5,.int .i64 i),(6,.ref [.int .i64 a.st,CG_ a.fin,Ch_ a.arcs]),(8,.int .i64 (S:Int)),(10,.int .i64 j.1)],
      [⟨2,1,.box [.int .i64 0,.nilsl,.nilsl,.nilsl,.nilsl,.nilsl]⟩,⟨3,1,.box [.int .i64 (S:Int),.osl 201 1,.osl 202 1,.osl 203 1,.osl 204 1,.osl 205 1]⟩,
       ⟨201,1,.row 3 1 8 U1⟩,⟨202,1,.row 3 1 8 U2⟩,⟨203,1,.row 3 1 8 (T3.map dNum++(FA.take j.1).map dNum)⟩,⟨204,1,.row 97 4 32 (T4.map dArc)⟩,⟨205,1,.row 80 3 56 U5⟩]⟩) (fun j=>a.fin.length-j.1) ⟨0,by simp⟩ (Sub.lit (by simp[hm1,hm2,hm5])) ?_
    rintro⟨j,hj⟩
    simp only
    by_cases hlt3:j<a.fin.length
    · obtain⟨q,hq,hq',hqm⟩:=Aq_ hlt3
      have hqk:=ok_fin hsa.ok hqm
      have hFj:FA[j]? =some ((S:Int)+q):=by rw[hFA,bI0,hq];rfl
      have hrp:List.take (j+1) (List.map dNum FA)=(FA.take j).map dNum++[[.int .i64 ((S:Int)+q)]]:=by rw[←eR0,Fc_ dNum hFj];rfl
      have hrl:(FA.take j).length=j:=by rw[aX0];omega
      obtain⟨Z,hZ⟩:∃Z,Z=FA.take j:=⟨_,rfl⟩
      rw[←hZ]at hrp hrl ⊢
      have hfi:=hsa.fi
      have hb2':(T3.length+Z.length+1)*8≤150000000000000:=by omega
      have hwj:IntKind.i64.wrap ((j:Int)+1)=(j:Int)+1:=Aa_ (by omega) (by omega)
      have hwq:IntKind.i64.wrap ((S:Int)+q)=(S:Int)+q:=Aa_ (by omega) (by omega)
      (refine go1 aj0 aj0 (aj7 @dNum.eq_1 hlt3 hq hq' hb2' hwj hwq) ?_;intros;refine mk_i ?_)
      refine Ap_.mk ⟨j+1,by omega⟩ (Sub.lit (by simp[hrp,hm1,hm2,hm5])) (by simp;omega)
      skip
    · have hkk:j=a.fin.length:=by omega
      subst hkk
      rw[show List.take a.fin.length FA=FA from bX0 (by omega),←hq3]
      (refine go1 aj0 aj0 aj0 ?_;intros;refine mk_i ?_)
      refine Am_ (X:={j:Nat//j≤a.arcs.length}) (fun j=>⟨[(0,AC_ g),(2,.bx 2 1 0),(3,.bx 3 1 0),(4,BC_ H),(5,.int .i64 i),(6,.ref [.int .i64 a.st,CG_ a.fin,Ch_ a.arcs]),(8,.int .i64 (S:Int)),(11,.int .i64 j.1)],
        [⟨2,1,.box [.int .i64 0,.nilsl,.nilsl,.nilsl,.nilsl,.nilsl]⟩,⟨3,1,.box [.int .i64 (S:Int),.osl 201 1,.osl 202 1,.osl 203 1,.osl 204 1,.osl 205 1]⟩,
         ⟨201,1,.row 3 1 8 U1⟩,⟨202,1,.row 3 1 8 U2⟩,⟨203,1,.row 3 1 8 ((finA (A.take (i+1))).map dNum)⟩,⟨204,1,.row 97 4 32 (T4.map dArc++(AR.take j.1).map dArc)⟩,⟨205,1,.row 80 3 56 U5⟩]⟩) (fun j=>a.arcs.length-j.1) ⟨0,by simp⟩ (Sub.lit (by simp[hm1,hm2,hm5])) ?_
      rintro⟨j,hj⟩
      simp only
      by_cases hlt4:j<a.arcs.length
      · obtain⟨x,hx,hx',hxm⟩:=Aq_ hlt4
        have hxk:=ok_arc hsa.ok hxm
        have hAj:AR[j]? =some (mvA S x):=by rw[hAR,bI0,hx];rfl
        have hrp:List.take (j+1) (List.map dArc AR)=(AR.take j).map dArc++[[.int .i64 ((S:Int)+x.fr),.bool x.sy.label,.int .i64 x.sy.n,.int .i64 ((S:Int)+x.to)]]:=by rw[←eR0,Fc_ dArc hAj];rfl
        have hrl:(AR.take j).length=j:=by rw[aX0];omega
        obtain⟨Z,hZ⟩:∃Z,Z=AR.take j:=⟨_,rfl⟩
        rw[←hZ]at hrp hrl ⊢
        have har:=hsa.ar
        have hb2':(T4.length+Z.length+1)*32≤150000000000000:=bnd_a hl4' (by rw[hrl];exact hlt4) har
        have hwj:IntKind.i64.wrap ((j:Int)+1)=(j:Int)+1:=wrap_j hlt4 har
        have hwq:IntKind.i64.wrap ((S:Int)+x.fr)=(S:Int)+x.fr:=wrap_s hsl' hxk.1 hxk.2.1 hst.2
        have hwr:IntKind.i64.wrap ((S:Int)+x.to)=(S:Int)+x.to:=wrap_s hsl' hxk.2.2.1 hxk.2.2.2 hst.2
        (refine go1 aj0 aj0 (aj8 @dArc.eq_1 hlt4 hx hx' hb2' hwj hwq hwr) ?_;intros;refine mk_i ?_)
        refine Ap_.mk ⟨j+1,by omega⟩ (Sub.lit (by simp[hrp,hm1,hm2,hm5])) (by simp;omega)
        skip
      · have hkk:j=a.arcs.length:=by omega
        subst hkk
        rw[show List.take a.arcs.length AR=AR from bX0 (by omega),←hq4]
        have hws:IntKind.i64.wrap ((S:Int)+a.st)=(sumS (A.take (i+1)):Int):=by rw[Aa_ (by omega) (by omega),hss];omega
        (refine go1 aj0 aj0 (aj2 hws hwk) ?_;intros;refine mk_i ?_)
        refine Ap_.mk ⟨i+1,by omega⟩ (Sub.lit (by simp[hq1',hq2,hs5,hm1,hm2,hm5])) (by simp;omega)
        skip
 ·have hkk:i=H.length:=by omega
  subst hkk
  have hAt:A.take H.length=A:=bX0 (by omega)
  rw[hAt]
  unfold refM at hR
  (refine go1 aj0 aj0 aj0 ?_;intros;refine mk_i ?_)
  rw[hR]
  exact SA_ (.agg [.int .i64 (sumS A),BQ_ (stL A),BQ_ (ntL A),CG_ (finA A),Ch_ (arcA A),Sa_ A])
def He_ : Ann:=⟨[5],[]⟩
set_option maxHeartbeats 1000000 in
theorem TE_ (l:List Int) (hl:l.length*8≤140737488355328):AU_ Tryz.prog (.func 192) [CG_ l] [] (.osl 0 1) [⟨0,1,.row 3 1 8 (l.map dNum)⟩]:=by
 match l,hl with
 | [],_ =>
  refine Qf_ ?_ ?_
  ·refine Gq_ ?_
   refine Ab_ [] (fn:=Tryz.f192) Tryz.func192 rfl Tryz.call192 (by simp[Tryz.ntmps192]) (by simp[mx]) ?_
   intro hwf B hnt
   simp only[Tryz.ntmps192]at hnt
   have hgAnn:=Ao_ He_ Tryz.mixed (aj2 @He_.eq_1 Tryz.results192)
   simp only[argS]
   exact go0 aj0 aj0 aj0
  ·refine Av_ [] [(5,0,1)] (fn:=Tryz.f192) Tryz.func192 rfl Tryz.call192 (by simp[Tryz.ntmps192]) (by simp) (by simp) ?_
   intro hwf B hnt
   simp only[Tryz.ntmps192]at hnt
   have hgAnn:=Ao_ He_ Tryz.mixed (aj2 @He_.eq_1 Tryz.results192)
   simp only[argS,List.nil_append]
   exact go0 aj0 aj0 aj0
 | x::l,hl =>
  refine Av_ [] [(5,0,1)] (fn:=Tryz.f192) Tryz.func192 rfl Tryz.call192 (by simp[Tryz.ntmps192]) (by simp) (by simp) ?_
  intro hwf B hnt
  simp only[Tryz.ntmps192]at hnt
  have hgAnn:=Ao_ He_ Tryz.mixed (aj2 @He_.eq_1 Tryz.results192)
  simp only[List.length_cons]at hl
  have hl2:(l.length+1)*8≤150000000000000:=by omega
  have hl3:l.length<9223372036854775807:=by omega
  simp only[argS,List.nil_append,List.map_cons,CG_,dNum]
  exact go0 aj0 aj0 aj0
def Hd_ : Ann:=⟨[5],[]⟩
set_option maxHeartbeats 1000000 in
theorem TF_ (l:List Arc) (hl:l.length*32≤140737488355328):AU_ Tryz.prog (.func 193) [Ch_ l] [] (.osl 0 1) [⟨0,1,.row 97 4 32 (l.map dArc)⟩]:=by
 match l,hl with
 | [],_ =>
  refine Qf_ ?_ ?_
  ·refine Gq_ ?_
   refine Ab_ [] (fn:=Tryz.f193) Tryz.func193 rfl Tryz.call193 (by simp[Tryz.ntmps193]) (by simp[mx]) ?_
   intro hwf B hnt
   simp only[Tryz.ntmps193]at hnt
   have hgAnn:=Ao_ Hd_ Tryz.mixed (aj2 @Hd_.eq_1 Tryz.results193)
   simp only[argS]
   exact go0 aj0 aj0 aj0
  ·refine Av_ [] [(5,0,1)] (fn:=Tryz.f193) Tryz.func193 rfl Tryz.call193 (by simp[Tryz.ntmps193]) (by simp) (by simp) ?_
   intro hwf B hnt
   simp only[Tryz.ntmps193]at hnt
   have hgAnn:=Ao_ Hd_ Tryz.mixed (aj2 @Hd_.eq_1 Tryz.results193)
   simp only[argS,List.nil_append]
   exact go0 aj0 aj0 aj0
 | x::l,hl =>
  refine Av_ [] [(5,0,1)] (fn:=Tryz.f193) Tryz.func193 rfl Tryz.call193 (by simp[Tryz.ntmps193]) (by simp) (by simp) ?_
  intro hwf B hnt
  simp only[Tryz.ntmps193]at hnt
  have hgAnn:=Ao_ Hd_ Tryz.mixed (aj2 @Hd_.eq_1 Tryz.results193)
  simp only[List.length_cons]at hl
  have hl2:(l.length+1)*32≤150000000000000:=by omega
  have hl3:l.length<9223372036854775807:=by omega
  simp only[argS,List.nil_append,List.map_cons,Ch_,dArc]
  exact go0 aj0 aj0 aj0
theorem Ui_ {α β:Type} {l:List α} {i:Nat} {x:α} (f:α→β) (g:α→α) (h:l[i]? =some x):(((l.take i).map g++l.drop i).map f).set i (f (g x))=((l.take (i+1)).map g++l.drop (i+1)).map f:=by
 obtain⟨hi,rfl⟩:=aC0.1 h
 have h2:((l.take i).map g).length=i:=by rw[aL0,aX0];omega
 have h3:((l.take i).map g++l.drop i).set i (g l[i])=(l.take (i+1)).map g++l.drop (i+1):=by
  rw[List.set_append,if_neg (by omega),h2,dS0,aR0 hi,eH0,bF0,aH0 hi,aY0,aU0]
  rfl
 rw[←eF0,h3]
theorem mid_at {α:Type} {l:List α} {i:Nat} {x:α} (g:α→α) (h:l[i]? =some x):((l.take i).map g++l.drop i)[i]? =some x:=by
 obtain⟨hi,rfl⟩:=aC0.1 h
 have h2:((l.take i).map g).length=i:=by rw[aL0,aX0];omega
 rw[bB0 (by omega),h2,dS0,cS0]
 simp[hi]
theorem mid_len {α:Type} (l:List α) (i:Nat) (g:α→α) (h:i≤l.length):((l.take i).map g++l.drop i).length=l.length:=by
 rw[aD0,aL0,aX0,cD0];omega
def midF (f:Nat) (l:List Int) (i:Nat):List Int:=(l.take i).map (mvF f)++l.drop i
def midA (g:Arc→Arc) (l:List Arc) (i:Nat):List Arc:=(l.take i).map g++l.drop i
def movF (f:Nat) (l:List Int):List Int:=l.map (mvF f)
def movA (f:Nat) (l:List Arc):List Arc:=l.map (mvA f)
theorem midF_zero (f:Nat) (l:List Int):midF f l 0=l:=by simp[midF]
theorem midF_all (f:Nat) (l:List Int):midF f l l.length=movF f l:=by simp[midF,movF]
theorem midA_zero (g:Arc→Arc) (l:List Arc):midA g l 0=l:=by simp[midA]
theorem midA_all (f:Nat) (l:List Arc):midA (mvA f) l l.length=movA f l:=by simp[midA,movA]
def WO_ : Ann:=⟨[8],[]⟩
set_option maxHeartbeats 2000000 in
theorem RS_ (a:Auto) (f:Nat) (h:SmA a) (hf:f≤1040):Aj_ Tryz.prog 117 [.agg (dPt (a,f))] (CG_ (movF f a.fin)):=by
 refine Ab_ [8] (fn:=Tryz.f117) Tryz.func117 rfl Tryz.call117 (by simp[Tryz.ntmps117]) (by simp[mx]) ?_
 intro hwf B hnt
 simp only[Tryz.ntmps117]at hnt
 have hgAnn:=Ao_ WO_ Tryz.mixed (aj2 @WO_.eq_1 Tryz.results117)
 clear hwf
 simp only[argS]
 have hfi:=h.fi
 have hst:=MR_ h.ok
 have e1:=TE_ a.fin (by omega)
 have z0:=midF_zero f a.fin
 (refine go1 aj0 (aj1 (spc [] [(8,0)] e1)) (aj1 @dPt.eq_1) ?_;intros;refine mk_i ?_)
 refine Am_ (X:={i:Nat//i≤a.fin.length}) (fun i=>⟨[(1,.ref [.int .i64 a.st,CG_ a.fin,Ch_ a.arcs,.int .i64 (f:Int)]),(3,.osl 8 1),(10,.int .i64 a.fin.length),(11,.int .i64 i.1)],[⟨8,1,.row 3 1 8 ((midF f a.fin i.1).map dNum)⟩]⟩) (fun i=>a.fin.length-i.1) ⟨0,by simp⟩ (Sub.lit (by simp[z0])) ?_
 rintro⟨i,hi⟩
 simp only
 by_cases hlt:i<a.fin.length
 ·obtain⟨q,hq,hq',hqm⟩:=Aq_ hlt
  have hqk:=ok_fin h.ok hqm
  have s1:((midF f a.fin i).map dNum).set i [.int .i64 ((f:Int)+q)]=(midF f a.fin (i+1)).map dNum:=Ui_ dNum (mvF f) hq
  have m1:(midF f a.fin i)[i]? =some q:=mid_at (mvF f) hq
  have m2:(midF f a.fin i).length=a.fin.length:=mid_len a.fin i (mvF f) hi
  obtain⟨Z,hZ⟩:∃Z,Z=midF f a.fin i:=⟨_,rfl⟩
  rw[←hZ]at s1 m1 m2 ⊢
  have hzl:i<Z.length:=by omega
  have m1':Z[i]'hzl=q:=(aC0.1 m1).2
  have hwi:IntKind.i64.wrap ((i:Int)+1)=(i:Int)+1:=Aa_ (by omega) (by omega)
  have hwq:IntKind.i64.wrap (q+(f:Int))=(f:Int)+q:=by rw[Aa_ (by omega) (by omega)];omega
  (refine go1 aj0 aj0 (aj8 @dNum.eq_1 hlt m1 m1' hzl hwi hwq s1) ?_;intros;refine mk_i ?_)
  refine Ap_.mk ⟨i+1,by omega⟩ (Sub.lit (by simp)) (by simp;omega)
  skip
 ·have hkk:i=a.fin.length:=by omega
  subst hkk
  rw[midF_all]
  exact go0 aj0 aj0 aj0
def WN_ : Ann:=⟨[8],[]⟩
set_option maxHeartbeats 2000000 in
theorem OP_ (a:Auto) (f:Nat) (h:SmA a) (hf:f≤1040):Aj_ Tryz.prog 119 [.agg (dPt (a,f))] (Ch_ (movA f a.arcs)):=by
 refine Ab_ [8] (fn:=Tryz.f119) Tryz.func119 rfl Tryz.call119 (by simp[Tryz.ntmps119]) (by simp[mx]) ?_
 intro hwf B hnt
 simp only[Tryz.ntmps119]at hnt
 have hgAnn:=Ao_ WN_ Tryz.mixed (aj2 @WN_.eq_1 Tryz.results119)
 clear hwf
 simp only[argS]
 have har:=h.ar
 have hst:=MR_ h.ok
 have e1:=TF_ a.arcs (by omega)
 have z0:=midA_zero (mvA f) a.arcs
 (refine go1 aj0 (aj1 (spc [] [(8,0)] e1)) (aj1 @dPt.eq_1) ?_;intros;refine mk_i ?_)
 refine Am_ (X:={i:Nat//i≤a.arcs.length}) (fun i=>⟨[(1,.ref [.int .i64 a.st,CG_ a.fin,Ch_ a.arcs,.int .i64 (f:Int)]),(3,.osl 8 1),(10,.int .i64 a.arcs.length),(11,.int .i64 i.1)],[⟨8,1,.row 97 4 32 ((midA (mvA f) a.arcs i.1).map dArc)⟩]⟩) (fun i=>a.arcs.length-i.1) ⟨0,by simp⟩ (Sub.lit (by simp[z0])) ?_
 rintro⟨i,hi⟩
 simp only
 by_cases hlt:i<a.arcs.length
 ·obtain⟨x,hx,hx',hxm⟩:=Aq_ hlt
  have hxk:=ok_arc h.ok hxm
  have s1:((midA (mvA f) a.arcs i).map dArc).set i [.int .i64 ((f:Int)+x.fr),.bool x.sy.label,.int .i64 x.sy.n,.int .i64 ((f:Int)+x.to)]=(midA (mvA f) a.arcs (i+1)).map dArc:=Ui_ dArc (mvA f) hx
  have m1:(midA (mvA f) a.arcs i)[i]? =some x:=mid_at (mvA f) hx
  have m2:(midA (mvA f) a.arcs i).length=a.arcs.length:=mid_len a.arcs i (mvA f) hi
  obtain⟨Z,hZ⟩:∃Z,Z=midA (mvA f) a.arcs i:=⟨_,rfl⟩
  rw[←hZ]at s1 m1 m2 ⊢
  have hzl:i<Z.length:=by omega
  have m1':Z[i]'hzl=x:=(aC0.1 m1).2
  have hwi:IntKind.i64.wrap ((i:Int)+1)=(i:Int)+1:=wrap_j hlt har
  have hwq:IntKind.i64.wrap (x.fr+(f:Int))=(f:Int)+x.fr:=by rw[Aa_ (by omega) (by omega)];omega
  have hwr:IntKind.i64.wrap (x.to+(f:Int))=(f:Int)+x.to:=by rw[Aa_ (by omega) (by omega)];omega
  clear hst har hxk hf
  (refine go1 aj0 aj0 (aj9 @dArc.eq_1 hlt m1 m1' hzl hwi hwq hwr s1) ?_;intros;refine mk_i ?_)
  refine Ap_.mk ⟨i+1,by omega⟩ (Sub.lit (by simp)) (by simp;omega)
  skip
 ·have hkk:i=a.arcs.length:=by omega
  subst hkk
  rw[midA_all]
  exact go0 aj0 aj0 aj0
def WM_ : Ann:=⟨[],[]⟩
theorem Ck_ (H L:List ByteArray) (xs:List Auto):Aj_ Tryz.prog 113 [Dt_ H L xs] (.bool true):=by
 refine Ab_ [] (fn:=Tryz.f113) Tryz.func113 rfl Tryz.call113 (by simp[Tryz.ntmps113]) (by simp[mx]) ?_
 intro hwf B hnt
 simp only[Tryz.ntmps113]at hnt
 have hgAnn:=Ao_ WM_ Tryz.mixed (aj2 @WM_.eq_1 Tryz.results113)
 clear hwf
 simp only[argS,Dt_]
 exact go0 aj0 aj0 aj0
def anRS636 : Ann:=⟨[],[]⟩
theorem Og_ (H L:List ByteArray) (xs:List Auto):Aj_ Tryz.prog 36 [Dt_ H L xs] (.int .i64 (sumS xs)):=by
 refine Ab_ [] (fn:=Tryz.f36) Tryz.func36 rfl Tryz.call36 (by simp[Tryz.ntmps36]) (by simp[mx]) ?_
 intro hwf B hnt
 simp only[Tryz.ntmps36]at hnt
 have hgAnn:=Ao_ anRS636 Tryz.mixed (aj2 @anRS636.eq_1 Tryz.results36)
 clear hwf
 have e1:=Ck_ H L xs
 simp only[argS,Dt_]at e1 ⊢
 exact go0 (aj1 e1) aj0 aj0
def anRS637 : Ann:=⟨[],[]⟩
theorem OQ_ (H L:List ByteArray) (xs:List Auto):Aj_ Tryz.prog 37 [Dt_ H L xs] (BC_ H):=by
 refine Ab_ [] (fn:=Tryz.f37) Tryz.func37 rfl Tryz.call37 (by simp[Tryz.ntmps37]) (by simp[mx]) ?_
 intro hwf B hnt
 simp only[Tryz.ntmps37]at hnt
 have hgAnn:=Ao_ anRS637 Tryz.mixed (aj2 @anRS637.eq_1 Tryz.results37)
 clear hwf
 have e1:=Ck_ H L xs
 have e2:=FQ_ H L
 simp only[argS,Dt_]at e1 ⊢
 exact go0 (aj2 e1 e2) aj0 aj0
def finM (P:List (Auto×Nat)):List Int:=P.flatMap fun p=>movF p.2 p.1.fin
def arcM (P:List (Auto×Nat)):List Arc:=P.flatMap fun p=>movA p.2 p.1.arcs
theorem finM_next {P:List (Auto×Nat)} {i:Nat} {p:Auto×Nat} (h:P[i]? =some p):finM (P.take (i+1))=finM (P.take i)++movF p.2 p.1.fin:=by
 unfold finM
 rw[bF0,h,dT0]
 simp
theorem arcM_next {P:List (Auto×Nat)} {i:Nat} {p:Auto×Nat} (h:P[i]? =some p):arcM (P.take (i+1))=arcM (P.take i)++movA p.2 p.1.arcs:=by
 unfold arcM
 rw[bF0,h,dT0]
 simp
theorem Vw_ : ∀{P:List (Auto×Nat)},(∀p∈P,SmA p.1)→(finM P).length≤65*P.length
 | [],_=>by simp[finM]
 | p::P,h=>by
  have h1:=(h p aI0).fi
  have h2:=Vw_ (P:=P) fun x hx=>h x (aF0 _ hx)
  have h3:finM (p::P)=movF p.2 p.1.fin++finM P:=by simp[finM]
  rw[h3,aD0,List.length_cons]
  unfold movF
  rw[aL0]
  omega
theorem VO_ : ∀{P:List (Auto×Nat)},(∀p∈P,SmA p.1)→(arcM P).length≤1073741888*P.length
 | [],_=>by simp[arcM]
 | p::P,h=>by
  have h1:=(h p aI0).ar
  have h2:=VO_ (P:=P) fun x hx=>h x (aF0 _ hx)
  have h3:arcM (p::P)=movA p.2 p.1.arcs++arcM P:=by simp[arcM]
  rw[h3,aD0,List.length_cons]
  unfold movA
  rw[aL0]
  omega
theorem finM_all (xs:List Auto):finM (parA 0 xs)=finA xs:=rfl
theorem arcM_all (xs:List Auto):arcM (parA 0 xs)=arcA xs:=rfl
theorem GA_ : ∀{xs:List Auto} {f:Nat} {p:Auto×Nat},p∈parA f xs→p.1∈xs∧p.2≤f+sumS xs
 | [],_,_,h=>by simp[parA]at h
 | a::xs,f,p,h=>by
  have h3:sumS (a::xs)=a.st.toNat+sumS xs:=by simp[sumS]
  rw[parA]at h
  rcases aK0.1 h with rfl | h
  ·exact⟨aI0,by simp only;omega⟩
  ·have:=GA_ h
   exact⟨aF0 _ this.1,by omega⟩
theorem bnd_c {a b:Nat} (h1:a≤17179870208) (h2:b≤1073741888):(a+b)*32≤150000000000000:=by omega
def IZ_ : Ann:=⟨[],[⟨5,[7],[],[]⟩]⟩
set_option maxHeartbeats 2000000 in
theorem Yt_ (H L:List ByteArray) (xs:List Auto) (h:∀a∈xs,SmA a) (hl:xs.length≤16):Aj_ Tryz.prog 118 [Dt_ H L xs,.fn (.func 119) [] []] (Ch_ (arcA xs)):=by
 refine Ab_ [50] (fn:=Tryz.f118) Tryz.func118 rfl Tryz.call118 (by simp[Tryz.ntmps118]) (by simp[mx]) ?_
 intro hwf B hnt
 simp only[Tryz.ntmps118]at hnt
 have hgAnn:=Ao_ IZ_ Tryz.mixed (aj2 @IZ_.eq_1 Tryz.results118)
 clear hwf
 have e1:=Ck_ H L xs
 have hsl:=FH_ (l:=xs) fun a ha=>(h a ha).ok
 have hs10:sumS xs≤1040:=Nat.le_trans hsl (bT0 65 hl)
 have hpl:=EV_ xs 0
 have hP:∀p∈parA 0 xs,SmA p.1∧p.2≤1040:=fun p hp=>by
  have:=GA_ hp
  exact⟨h _ this.1,by omega⟩
 rw[←arcM_all]
 simp only[argS,Dt_]at e1 ⊢
 obtain⟨P,hPP⟩:∃P,P=parA 0 xs:=⟨_,rfl⟩
 rw[←hPP]at e1 hP hpl ⊢
 clear hPP hsl h
 iterate 6 ((first | refine Ak_ fun K hK=> ?_ | (refine DW_r IZ_ Tryz.mixed (by kernel_rfl) ?_;simp[IZ_,hnt];try simp (disch:=omega) only[Aa_]) | refine Ac_ ?_ | (refine As_ ?_ ?_ ?_;(· (simp[hnt];done));(try (rotate_left;(· (intro hc;(try simp[hnt]at hc);done))))) | (refine Al_ ?_;simp[Tryz.results118,hnt]) | ((first | refine Ah_ ?_ | refine Ag_ ?_);simp[hnt]) | (intro hc;(try simp[hnt]at hc);(try (exfalso;omega))) | (refine⟨?_,?_⟩; · omega) | omega | apply_assumption -exfalso -symm | (exfalso;omega)))
 refine Bn_ 5 50 97 4 32 (by simp[hnt,Tryz.results118,IZ_]) (fun n=> ?_)
 (refine go1 (aj1 e1) aj0 aj0 ?_;intros;refine mk_i ?_)
 refine Am_ (X:={i:Nat//i≤P.length}) (fun i=>⟨[(1,.fn (.func 119) [] []),(5,.osl 50 1),(13,dPts P),(14,.int .i64 P.length),(15,.int .i64 i.1)],[⟨50,1,.row 97 4 32 ((arcM (P.take i.1)).map dArc)⟩]⟩) (fun i=>P.length-i.1) ⟨0,by simp⟩ (Sub.lit (by simp[arcM])) ?_
 rintro⟨i,hi⟩
 simp only
 by_cases hlt:i<P.length
 ·obtain⟨p,hp,hp',hpm⟩:=Aq_ hlt
  obtain⟨k1,k2⟩:=hP p hpm
  obtain⟨a,f⟩:=p
  have e2:=OP_ a f k1 k2
  have hnx:=congrArg (List.map dArc) (arcM_next hp)
  rw[aY0]at hnx
  have har:a.arcs.length≤1073741888:=k1.ar
  have hml:(movA f a.arcs).length=a.arcs.length:=by unfold movA;rw[aL0]
  have htl:=VO_ (P:=P.take i) fun x hx=>(hP x (dB0 hx)).1
  have h16:(P.take i).length≤16:=by rw[aX0];omega
  have htl':(arcM (P.take i)).length≤17179870208:=Nat.le_trans htl (bT0 1073741888 h16)
  clear htl
  obtain⟨T,hT⟩:∃T,T=arcM (P.take i):=⟨_,rfl⟩
  rw[←hT]at hnx htl' ⊢
  obtain⟨V,hV⟩:∃V,V=movA f a.arcs:=⟨_,rfl⟩
  simp only at hnx
  rw[←hV]at e2 hnx hml
  have hb:(T.length+V.length)*32≤150000000000000:=bnd_c htl' (by omega)
  have hwi:IntKind.i64.wrap ((i:Int)+1)=(i:Int)+1:=Aa_ (by omega) (by omega)
  simp only[dPt]at e2
  clear hP k1 k2 hpl hT hV
  (refine go1 (aj1 e2) aj0 (aj6 @dPt.eq_1 hlt hp hp' hb hwi) ?_;intros;refine mk_i ?_)
  refine Ap_.mk ⟨i+1,by omega⟩ (Sub.lit (by simp[hnx])) (by simp;omega)
  skip
 ·have hkk:i=P.length:=by omega
  subst hkk
  rw[aT0]
  exact go0 aj0 aj0 aj0
def Ja_ : Ann:=⟨[],[⟨5,[7],[],[]⟩]⟩
set_option maxHeartbeats 2000000 in
theorem Ys_ (H L:List ByteArray) (xs:List Auto) (h:∀a∈xs,SmA a) (hl:xs.length≤16):Aj_ Tryz.prog 116 [Dt_ H L xs,.fn (.func 117) [] []] (CG_ (finA xs)):=by
 refine Ab_ [50] (fn:=Tryz.f116) Tryz.func116 rfl Tryz.call116 (by simp[Tryz.ntmps116]) (by simp[mx]) ?_
 intro hwf B hnt
 simp only[Tryz.ntmps116]at hnt
 have hgAnn:=Ao_ Ja_ Tryz.mixed (aj2 @Ja_.eq_1 Tryz.results116)
 clear hwf
 have e1:=Ck_ H L xs
 have hsl:=FH_ (l:=xs) fun a ha=>(h a ha).ok
 have hs10:sumS xs≤1040:=Nat.le_trans hsl (bT0 65 hl)
 have hpl:=EV_ xs 0
 have hP:∀p∈parA 0 xs,SmA p.1∧p.2≤1040:=fun p hp=>by
  have:=GA_ hp
  exact⟨h _ this.1,by omega⟩
 rw[←finM_all]
 simp only[argS,Dt_]at e1 ⊢
 obtain⟨P,hPP⟩:∃P,P=parA 0 xs:=⟨_,rfl⟩
 rw[←hPP]at e1 hP hpl ⊢
 clear hPP hsl h
 iterate 6 ((first | refine Ak_ fun K hK=> ?_ | (refine DW_r Ja_ Tryz.mixed (by kernel_rfl) ?_;simp[Ja_,hnt];try simp (disch:=omega) only[Aa_]) | refine Ac_ ?_ | (refine As_ ?_ ?_ ?_;(· (simp[hnt];done));(try (rotate_left;(· (intro hc;(try simp[hnt]at hc);done))))) | (refine Al_ ?_;simp[Tryz.results116,hnt]) | ((first | refine Ah_ ?_ | refine Ag_ ?_);simp[hnt]) | (intro hc;(try simp[hnt]at hc);(try (exfalso;omega))) | (refine⟨?_,?_⟩; · omega) | omega | apply_assumption -exfalso -symm | (exfalso;omega)))
 refine Bn_ 5 50 3 1 8 (by simp[hnt,Tryz.results116,Ja_]) (fun n=> ?_)
 (refine go1 (aj1 e1) aj0 aj0 ?_;intros;refine mk_i ?_)
 refine Am_ (X:={i:Nat//i≤P.length}) (fun i=>⟨[(1,.fn (.func 117) [] []),(5,.osl 50 1),(13,dPts P),(14,.int .i64 P.length),(15,.int .i64 i.1)],[⟨50,1,.row 3 1 8 ((finM (P.take i.1)).map dNum)⟩]⟩) (fun i=>P.length-i.1) ⟨0,by simp⟩ (Sub.lit (by simp[finM])) ?_
 rintro⟨i,hi⟩
 simp only
 by_cases hlt:i<P.length
 ·obtain⟨p,hp,hp',hpm⟩:=Aq_ hlt
  obtain⟨k1,k2⟩:=hP p hpm
  obtain⟨a,f⟩:=p
  have e2:=RS_ a f k1 k2
  have hnx:=congrArg (List.map dNum) (finM_next hp)
  rw[aY0]at hnx
  have har:a.fin.length≤65:=k1.fi
  have hml:(movF f a.fin).length=a.fin.length:=by unfold movF;rw[aL0]
  have htl:=Vw_ (P:=P.take i) fun x hx=>(hP x (dB0 hx)).1
  have h16:(P.take i).length≤16:=by rw[aX0];omega
  have htl':(finM (P.take i)).length≤1040:=Nat.le_trans htl (bT0 65 h16)
  clear htl
  obtain⟨T,hT⟩:∃T,T=finM (P.take i):=⟨_,rfl⟩
  rw[←hT]at hnx htl' ⊢
  obtain⟨V,hV⟩:∃V,V=movF f a.fin:=⟨_,rfl⟩
  simp only at hnx
  rw[←hV]at e2 hnx hml
  have hb:(T.length+V.length)*8≤150000000000000:=by omega
  have hwi:IntKind.i64.wrap ((i:Int)+1)=(i:Int)+1:=Aa_ (by omega) (by omega)
  simp only[dPt]at e2
  clear hP k1 k2 hpl hT hV
  (refine go1 (aj1 e2) aj0 (aj6 @dPt.eq_1 hlt hp hp' hb hwi) ?_;intros;refine mk_i ?_)
  refine Ap_.mk ⟨i+1,by omega⟩ (Sub.lit (by simp[hnx])) (by simp;omega)
  skip
 ·have hkk:i=P.length:=by omega
  subst hkk
  rw[aT0]
  exact go0 aj0 aj0 aj0
def anRS640 : Ann:=⟨[],[]⟩
theorem MS_ (H L:List ByteArray) (xs:List Auto) (h:∀a∈xs,SmA a) (hl:xs.length≤16):Aj_ Tryz.prog 40 [Dt_ H L xs] (CG_ (finA xs)):=by
 refine Ab_ [] (fn:=Tryz.f40) Tryz.func40 rfl Tryz.call40 (by simp[Tryz.ntmps40]) (by simp[mx]) ?_
 intro hwf B hnt
 simp only[Tryz.ntmps40]at hnt
 have hgAnn:=Ao_ anRS640 Tryz.mixed (aj2 @anRS640.eq_1 Tryz.results40)
 clear hwf
 have e1:=Ys_ H L xs h hl
 simp only[argS,Dt_]at e1 ⊢
 exact go0 (aj1 e1) aj0 aj0
def anRS641 : Ann:=⟨[],[]⟩
theorem Ro_ (H L:List ByteArray) (xs:List Auto) (h:∀a∈xs,SmA a) (hl:xs.length≤16):Aj_ Tryz.prog 41 [Dt_ H L xs] (Ch_ (arcA xs)):=by
 refine Ab_ [] (fn:=Tryz.f41) Tryz.func41 rfl Tryz.call41 (by simp[Tryz.ntmps41]) (by simp[mx]) ?_
 intro hwf B hnt
 simp only[Tryz.ntmps41]at hnt
 have hgAnn:=Ao_ anRS641 Tryz.mixed (aj2 @anRS641.eq_1 Tryz.results41)
 clear hwf
 have e1:=Yt_ H L xs h hl
 simp only[argS,Dt_]at e1 ⊢
 exact go0 (aj1 e1) aj0 aj0
theorem g_may (g:List Rul) (hs:SmlG g):∃c:Int,Aj_ Tryz.prog 76 [AC_ g] (.int .i64 c)∧Aj_ Tryz.prog 13 [AC_ g] (.int .i64 c)∧(c=0→∃gt,g=mkG gt∧OkgT gt):=by
 by_cases h:g.length<1∨64<g.length
 ·exact⟨180,PH_ g h,MN_ g h,by omega⟩
 ·cases ht:Ey_ g with
  | false=>exact⟨170,TG_ g (by omega) (by omega) hs ht,QS_ g (by omega) (by omega) hs ht,by omega⟩
  | true =>
   obtain⟨gt,rfl,hk⟩:=Ub_ ht
   have hl:=Fb_ gt
   exact⟨PF_ gt,Yw_ gt (by omega) (by omega) hk hs,SW_ gt (by omega) (by omega) hk hs,fun h0=>⟨gt,rfl,okgT_of hk (by omega) (by omega) h0⟩⟩
theorem hno_nextI {l:List Int} {s x:Int} {k:Nat} (hx:l[k]? =some x) (hb:(s==x)=false) (hno:∀i x,i<k→l[i]? =some x→(s==x)=false):∀i x,i<k+1→l[i]? =some x→(s==x)=false:=by
 intro i y hi hy
 by_cases hik:i=k
 ·subst hik;rw[hx]at hy;simp only[aA0]at hy;subst hy;exact hb
 ·exact hno i y (by omega) hy
def WK_ : Ann:=⟨[],[]⟩
theorem XW_ (l:List Int) (s:Int):Aj_ Tryz.prog 137 [CG_ l,.int .i64 s] (.bool (decide (s∈l))):=by
 refine Ab_ [] (fn:=Tryz.f137) Tryz.func137 rfl Tryz.call137 (by simp[Tryz.ntmps137]) (by simp[mx]) ?_
 intro hwf B hnt
 simp only[Tryz.ntmps137]at hnt
 have hgAnn:=Ao_ WK_ Tryz.mixed (aj2 @WK_.eq_1 Tryz.results137)
 have hlen:=len_nums hwf.1
 clear hwf
 simp only[argS]
 (refine go1 aj0 aj0 aj0 ?_;intros;refine mk_i ?_)
 refine Am_ (X:={k:Nat//k≤l.length∧∀i x,i<k→l[i]? =some x→(s==x)=false}) (fun x=>⟨[(0,CG_ l),(1,.int .i64 s),(5,.int .i64 x.1)],[]⟩) (fun x=>l.length-x.1) ⟨0,by simp⟩ (Sub.lit (by simp)) ?_
 rintro⟨k,hk,hno⟩
 by_cases hlt:k<l.length
 ·obtain⟨x,hx,hx',hxm⟩:=Aq_ hlt
  cases hb:s==x
  ·have hb2:(x==s)=false:=by
    have hh:¬s=x:=by simpa using hb
    simpa using fun e:x=s=>hh e.symm
   have hb3:¬x=s:=by simpa using hb2
   have hwk:IntKind.i64.wrap ((k:Int)+1)=(k:Int)+1:=Aa_ (by omega) (by omega)
   (refine go1 aj0 aj0 (aj7 @dNum.eq_1 hlt hx' hx hb2 hb3 hwk) ?_;intros;refine mk_i ?_)
   refine Ap_.mk ⟨k+1,by omega,hno_nextI hx hb hno⟩ (Sub.lit (by simp[])) (by simp;omega)
   skip
  ·have he:s=x:=by simpa using hb
   subst he
   have hm:decide (s∈l)=true:=by simpa using hxm
   exact go0 aj0 aj0 (aj5 @dNum.eq_1 hlt hx' hx hm)
 ·have hkk:k=l.length:=by omega
  subst hkk
  have hm:decide (s∈l)=false:=by
   simp only[decide_eq_false_iff_not]
   intro hh
   obtain⟨i,hi,rfl⟩:=bN0 hh
   have:=hno i _ hi (aH0 hi)
   simp at this
  exact go0 aj0 aj0 (aj1 hm)
def atI (l:List Nat) (n:Int):Int:=if 0≤n∧n<l.length then (l.getD n.toNat 0:Int)else -1
theorem Sm_ {l:List Nat} {k x:Nat} (h:l[k]? =some x):atI l k=x:=by
 have hk:=(aC0.1 h).1
 unfold atI
 rw[if_pos ⟨by omega,by omega⟩,cW0,bG0,h]
 rfl
theorem Mv_ {l:List Nat} {n:Int} (h:¬(0≤n∧n<l.length)):atI l n= -1:=by unfold atI;rw[if_neg h]
def anRS839 : Ann:=⟨[],[]⟩
theorem QB_ (H L:List ByteArray) (xs:List Auto) (n:Int):Aj_ Tryz.prog 39 [Dt_ H L xs,.int .i64 n] (.int .i64 (atI (stL xs) n)):=by
 refine Ab_ [] (fn:=Tryz.f39) Tryz.func39 rfl Tryz.call39 (by simp[Tryz.ntmps39]) (by simp[mx]) ?_
 intro hwf B hnt
 simp only[Tryz.ntmps39]at hnt
 have hgAnn:=Ao_ anRS839 Tryz.mixed (aj2 @anRS839.eq_1 Tryz.results39)
 clear hwf
 have e1:=Ck_ H L xs
 simp only[argS,Dt_]at e1 ⊢
 have hl:(stL xs).length=(parA 0 xs).length:=by rw[Oh_,EV_]
 have hst:∀(k:Nat) (p:Auto×Nat),(parA 0 xs)[k]? =some p→(stL xs)[k]? =some p.2:=fun k p h=>by unfold stL;rw[bI0,h];rfl
 obtain⟨S,hS⟩:∃S,S=stL xs:=⟨_,rfl⟩
 rw[←hS]at hl hst ⊢
 obtain⟨P,hP⟩:∃P,P=parA 0 xs:=⟨_,rfl⟩
 rw[←hP]at e1 hl hst ⊢
 clear hS hP
 by_cases h0:n<0
 ·rw[Mv_ (by omega)]
  exact go0 (aj1 e1) aj0 (aj1 h0)
 ·by_cases h1:n<P.length
  ·obtain⟨k,rfl⟩:∃k:Nat,n=(k:Int):=⟨n.toNat,by omega⟩
   have hlt:k<P.length:=by omega
   obtain⟨p,hx,hx',hxm⟩:=Aq_ hlt
   rw[Sm_ (hst k p hx)]
   have h2:¬(P.length:Int)≤(k:Int):=by omega
   exact go0 (aj1 e1) aj0 (aj7 @dPt.eq_1 h0 h1 h2 hlt hx hx')
  ·rw[Mv_ (by omega)]
   have h2:(P.length:Int)≤n:=by omega
   exact go0 (aj1 e1) aj0 (aj3 h0 h1 h2)
def WL_ : Ann:=⟨[],[]⟩
theorem Yi_ (n:Int) (p:Auto×Nat) (h:SmA p.1) (hf:p.2≤1040):Aj_ Tryz.prog 115 [.agg (dPt p),.ref [.int .i64 n]] (.bool (decide (n<(p.2:Int)+p.1.st))):=by
 refine Ab_ [] (fn:=Tryz.f115) Tryz.func115 rfl Tryz.call115 (by simp[Tryz.ntmps115]) (by simp[mx]) ?_
 intro hwf B hnt
 simp only[Tryz.ntmps115]at hnt
 have hgAnn:=Ao_ WL_ Tryz.mixed (aj2 @WL_.eq_1 Tryz.results115)
 clear hwf
 have hst:=MR_ h.ok
 have hw:IntKind.i64.wrap ((p.2:Int)+p.1.st)=(p.2:Int)+p.1.st:=Aa_ (by omega) (by omega)
 simp only[argS]
 exact go0 aj0 aj0 (aj2 @dPt.eq_1 hw)
def ntQ (n:Int) (p:Auto×Nat):Bool:=decide (n<(p.2:Int)+p.1.st)
def KS_ : Ann:=⟨[],[]⟩
theorem Yh_ (n:Int) (P:List (Auto×Nat)) (hP:∀p∈P,SmA p.1∧p.2≤1040) (hl:P.length≤16):Aj_ Tryz.prog 114 [dPts P,.fn (.func 115) [] [.ref [.int .i64 n]]] (.int .i64 (if P.any (ntQ n)then ((P.findIdx (ntQ n):Nat):Int)else -1)):=by
 refine Ab_ [] (fn:=Tryz.f114) Tryz.func114 rfl Tryz.call114 (by simp[Tryz.ntmps114]) (by simp[mx]) ?_
 intro hwf B hnt
 simp only[Tryz.ntmps114]at hnt
 have hgAnn:=Ao_ KS_ Tryz.mixed (aj2 @KS_.eq_1 Tryz.results114)
 clear hwf
 simp only[argS]
 (refine go1 aj0 aj0 aj0 ?_;intros;refine mk_i ?_)
 refine Am_ (X:={k:Nat//k≤P.length∧∀i x,i<k→P[i]? =some x→ntQ n x=false}) (fun x=>⟨[(0,dPts P),(1,.fn (.func 115) [] [.ref [.int .i64 n]]),(7,.int .i64 P.length),(8,.int .i64 x.1)],[]⟩) (fun x=>P.length-x.1) ⟨0,by simp⟩ (Sub.lit (by simp)) ?_
 rintro⟨k,hk,hno⟩
 by_cases hlt:k<P.length
 ·obtain⟨x,hx,hx',hxm⟩:=Aq_ hlt
  have hqx:Aj_ Tryz.prog 115 [.agg (dPt x),.ref [.int .i64 n]] (.bool (ntQ n x)):=Yi_ n x (hP x hxm).1 (hP x hxm).2
  simp only[dPt]at hqx
  clear hP
  cases hb:ntQ n x
  ·rw[hb]at hqx
   have hno':∀i y,i<k+1→P[i]? =some y→ntQ n y=false:=by
    intro i y hi hy
    by_cases hik:i=k
    ·subst hik;rw[hx]at hy;simp only[aA0]at hy;subst hy;exact hb
    ·exact hno i y (by omega) hy
   (refine go1 (aj1 hqx) aj0 (aj3 @dPt.eq_1 hlt hx') ?_;intros;refine mk_i ?_)
   exact Ap_.mk ⟨k+1,by omega,hno'⟩ (Sub.lit (by simp[])) (by simp;omega)
   skip
  ·rw[hb]at hqx
   have hany:P.any (ntQ n)=true:=bY0.2 ⟨x,hxm,hb⟩
   have hidx:P.findIdx (ntQ n)=k:=by
    rw[List.findIdx_eq hlt]
    refine⟨by rw[hx'];exact hb,fun i hi=> ?_⟩
    exact hno i _ hi (aH0 (by omega))
   exact go0 (aj1 hqx) aj0 (aj5 @dPt.eq_1 hlt hx' hany hidx)
 ·have hkk:k=P.length:=by omega
  have hany:P.any (ntQ n)=false:=by
   rw[dE0]
   intro x hx
   obtain⟨i,hi,rfl⟩:=bN0 hx
   rw[hno i _ (by omega) (aH0 hi)]
   simp
  (repeat (first | refine Ak_ fun K hK=> ?_ | (refine DW_r KS_ Tryz.mixed (by kernel_rfl) ?_;simp[KS_,hnt,hkk,hany];try simp (disch:=omega) only[Aa_]) | refine Ac_ ?_ | (refine As_ ?_ ?_ ?_;(· (simp[hnt,hkk,hany];done));(try (rotate_left;(· (intro hc;(try simp[hnt,hkk,hany]at hc);done))))) | (refine Al_ ?_;simp[Tryz.results114,hnt,hkk,hany]) | ((first | refine Ah_ ?_ | refine Ag_ ?_);simp[hnt,hkk,hany]) | (intro hc;(try simp[hnt,hkk,hany]at hc);(try (exfalso;omega))) | ((first | refine Ae_ (hqx) ?_ | (refine Ad_ (hqx) ?_ ?_;(· (simp;done))));try simp[hnt,hkk,hany]) | (refine⟨?_,?_⟩; · omega) | omega | apply_assumption -exfalso -symm | (exfalso;omega)))
theorem nt_law : ∀(xs:List Auto) (f b n:Nat),(∀a∈xs,1≤a.st)→f≤n→n<f+sumS xs→∃k,((xs.zipIdx b).flatMap fun p=>List.replicate p.1.st.toNat p.2)[n-f]? =some (b+k)∧(parA f xs).findIdx (ntQ n)=k∧(parA f xs).any (ntQ n)=true
 | [],f,b,n,_,h1,h2=>by simp[sumS]at h2;omega
 | a::xs,f,b,n,hst,h1,h2=>by
  have h3:sumS (a::xs)=a.st.toNat+sumS xs:=by simp[sumS]
  have h4:=hst a aI0
  rw[parA,fE0,cK0]
  simp only
  by_cases hn:n<f+a.st.toNat
  ·have hq:ntQ n (a,f)=true:=by unfold ntQ;simp only[decide_eq_true_eq];omega
   refine⟨0,?_,by rw[List.findIdx_cons,hq];rfl,by rw[List.any_cons,hq];rfl⟩
   rw[bA0 (by rw[cX0];omega),eI0,if_pos (by omega)]
   rfl
  ·have hq:ntQ n (a,f)=false:=by unfold ntQ;simp only[decide_eq_false_iff_not];omega
   obtain⟨k,k1,k2,k3⟩:=nt_law xs (f+a.st.toNat) (b+1) n (fun x hx=>hst x (aF0 _ hx)) (by omega) (by omega)
   refine⟨k+1,?_,by rw[List.findIdx_cons,hq,k2];rfl,by rw[List.any_cons,hq,k3];rfl⟩
   rw[bB0 (by rw[cX0];omega),cX0,fA0,k1]
   congr 1
   omega
def anRS838 : Ann:=⟨[],[]⟩
theorem nt33_pure (H L:List ByteArray) (xs:List Auto) (h:∀a∈xs,SmA a) (hl:xs.length≤16) (n:Int):Aj_ Tryz.prog 38 [Dt_ H L xs,.int .i64 n] (.int .i64 (atI (ntL xs) n)):=by
 refine Ab_ [] (fn:=Tryz.f38) Tryz.func38 rfl Tryz.call38 (by simp[Tryz.ntmps38]) (by simp[mx]) ?_
 intro hwf B hnt
 simp only[Tryz.ntmps38]at hnt
 have hgAnn:=Ao_ anRS838 Tryz.mixed (aj2 @anRS838.eq_1 Tryz.results38)
 clear hwf
 have e1:=Ck_ H L xs
 have hsl:=FH_ (l:=xs) fun a ha=>(h a ha).ok
 have hs10:sumS xs≤1040:=Nat.le_trans hsl (bT0 65 hl)
 have hpl:=EV_ xs 0
 have e2:=Yh_ n (parA 0 xs) (fun p hp=>by have:=GA_ hp;exact⟨h _ this.1,by omega⟩) (by omega)
 have hnl:=OJ_ xs
 have hlaw:∀k:Nat,k<sumS xs→(parA 0 xs).any (ntQ k)=true∧(ntL xs)[k]? =some ((parA 0 xs).findIdx (ntQ k)):=fun k hk=>by
  obtain⟨j,j1,j2,j3⟩:=nt_law xs 0 0 k (fun a ha=>(MR_ (h a ha).ok).1) (by omega) (by omega)
  refine⟨j3,?_⟩
  unfold ntL
  rw[j2]
  simpa using j1
 simp only[argS,Dt_]at e1 ⊢
 obtain⟨N,hN⟩:∃N,N=ntL xs:=⟨_,rfl⟩
 rw[←hN]at hnl hlaw ⊢
 obtain⟨S,hS⟩:∃S,S=sumS xs:=⟨_,rfl⟩
 rw[←hS]at e1 hnl hlaw hs10 ⊢
 obtain⟨P,hP⟩:∃P,P=parA 0 xs:=⟨_,rfl⟩
 rw[←hP]at e1 e2 hlaw ⊢
 clear hN hS hP hsl h
 by_cases h0:n<0
 ·rw[Mv_ (by omega)]
  exact go0 (aj1 e1) aj0 (aj1 h0)
 ·by_cases h1:n<S
  ·obtain⟨k,rfl⟩:∃k:Nat,n=(k:Int):=⟨n.toNat,by omega⟩
   obtain⟨l1,l2⟩:=hlaw k (by omega)
   rw[Sm_ l2]
   rw[if_pos l1]at e2
   have h2:¬(S:Int)≤(k:Int):=by omega
   exact go0 (aj2 e1 e2) aj0 (aj3 h0 h1 h2)
  ·rw[Mv_ (by omega)]
   have h2:(S:Int)≤n:=by omega
   exact go0 (aj1 e1) aj0 (aj3 h0 h1 h2)
end Go.Proofs.YtchgnpnbcjflcaaGreat
end
section
namespace Go.Proofs.YtchgnpnbcjflcaaGreat
open Go Go.Dm
variable [DMode]
attribute [local irreducible] DW Br_ Bu_
set_option maxRecDepth 100000
def Wj_ : Ann:=⟨[],[]⟩
theorem YB_ (x y:Sym):Aj_ Tryz.prog 197 [.agg (dSym x),.agg (dSym y)] (.int .i64 (symC x y)):=by
 refine Ab_ [] (fn:=Tryz.f197) Tryz.func197 rfl Tryz.call197 (by simp[Tryz.ntmps197]) (by simp[mx]) ?_
 intro hwf B hnt
 simp only[Tryz.ntmps197]at hnt
 have hgAnn:=Ao_ Wj_ Tryz.mixed (aj2 @Wj_.eq_1 Tryz.results197)
 simp only[argS]
 cases h1:x.label<;>cases h2:y.label<;>exact go0 (aj1 (Ci_ x.n y.n)) aj0 (aj4 @dSym.eq_1 h1 h2 @symC.eq_1)
def Wk_ : Ann:=⟨[],[⟨3,[8],[],[]⟩,⟨6,[9],[],[]⟩]⟩
set_option maxHeartbeats 1000000 in
theorem HW_ (g:FuncId) (c:Sym→Sym→Int) (a b:List Sym) (hg:∀x∈a,∀y∈b,Aj_ Tryz.prog g [.agg (dSym x),.agg (dSym y)] (.int .i64 (c x y))) :
  Aj_ Tryz.prog 196 [AM_ a,AM_ b,.fn (.func g) [] []] (.int .i64 (cmpL c a b)):=by
 refine Ab_ [] (fn:=Tryz.f196) Tryz.func196 rfl Tryz.call196 (by simp[Tryz.ntmps196]) (by simp[mx]) ?_
 intro hwf B hnt
 simp only[Tryz.ntmps196]at hnt
 have hgAnn:=Ao_ Wk_ Tryz.mixed (aj2 @Wk_.eq_1 Tryz.results196)
 have hw:XG_ a:=Ql_ hwf.1
 have hw':XG_ b:=Ql_ hwf.2.1
 obtain⟨hw1,hw2,hw3⟩:=hw
 obtain⟨hv1,hv2,hv3⟩:=hw'
 clear hwf
 simp only[argS]
 obtain⟨r,hr⟩:∃r,r=cmpL c a b:=⟨_,rfl⟩
 rw[←hr]
 (refine go1 aj0 aj0 aj0 ?_;intros;refine mk_i ?_)
 refine Am_ (X:={k:Nat//k≤a.length∧k≤b.length∧r=cmpL c (a.drop k) (b.drop k)}) (fun k=>⟨[(0,AM_ a),(1,AM_ b),(2,.fn (.func g) [] []),(11,AM_ a),(12,.int .i64 a.length),(13,.int .i64 k.1)],[]⟩) (fun k=>a.length-k.1) ⟨0,by simp[hr]⟩ (Sub.lit (by simp)) ?_
 rintro⟨k,hk,hk',hcc⟩
 clear hr
 by_cases hlt:k<a.length
 ·obtain⟨x,hx,hx',hxm⟩:=Aq_ hlt
  by_cases hlt':k<b.length
  ·obtain⟨y,hy,hy',hym⟩:=Aq_ hlt'
   have hxy:=hg x hxm y hym
   simp only[dSym]at hxy
   have hat:=cmpL_at (c:=c) hx hy
   have hle:¬b.length≤k:=by omega
   by_cases h0:c x y=0
   ·rw[if_pos h0]at hat
    have hd:=hcc.trans hat
    (refine go1 (aj1 hxy) aj0 (aj7 @dSym.eq_1 hlt hlt' hle hx' hy' h0) ?_;intros;refine mk_i ?_)
    refine Ap_.mk ⟨k+1,by omega,by omega,hd⟩ (Sub.lit (by simp)) (by simp;omega)
    skip
   ·rw[if_neg h0]at hat
    have hd:=hcc.trans hat
    have h0':(c x y != 0)=true:=by simpa using h0
    exact go0 (aj1 hxy) aj0 (aj9 @dSym.eq_1 hlt hlt' hle hx' hy' h0 h0' hd)
  ·have hge:b.length≤k:=by omega
   have hd:=hcc.trans (cmpL_gt (c:=c) hlt hge)
   exact go0 aj0 aj0 (aj5 @dSym.eq_1 hlt hge hx' hd)
 ·have hge:a.length≤k:=by omega
  have hka:k=a.length:=by omega
  subst hka
  have hat:=cmpL_le (c:=c) (b:=b) hge
  by_cases h:a.length<b.length
  ·rw[if_pos h]at hat
   have hd:=hcc.trans hat
   exact go0 aj0 aj0 (aj2 h hd)
  ·rw[if_neg h]at hat
   have hd:=hcc.trans hat
   exact go0 aj0 aj0 (aj2 h hd)
def ML_ (a b:List Sym):Int:=cmpL symC a b
def Ba_ (p q:Prod):Int:=if cmpI p.head q.head=0 then (if cmpI p.body.length q.body.length=0 then ML_ p.body q.body else cmpI p.body.length q.body.length)else cmpI p.head q.head
def KJ_ : Ann:=⟨[],[]⟩
theorem Nr_ (p q:Prod):Aj_ Tryz.prog 123 [.agg (Af_ p),.agg (Af_ q)] (.int .i64 (Ba_ p q)):=by
 refine Ab_ [] (fn:=Tryz.f123) Tryz.func123 rfl Tryz.call123 (by simp[Tryz.ntmps123]) (by simp[mx]) ?_
 intro hwf B hnt
 simp only[Tryz.ntmps123]at hnt
 have hgAnn:=Ao_ KJ_ Tryz.mixed (aj2 @KJ_.eq_1 Tryz.results123)
 simp only[argS]
 have h1:=HW_ 197 symC p.body q.body (fun x _ y _=>YB_ x y)
 have h2:=UF_ (cmpI p.head q.head) (cmpI p.body.length q.body.length) (ML_ p.body q.body)
 simp only[ML_]at h2
 (repeat (first | refine Ak_ fun K hK=> ?_ | (refine DW_r KJ_ Tryz.mixed (by kernel_rfl) ?_;simp[KJ_,hnt,Af_,Ba_,ML_];try simp (disch:=omega) only[Aa_]) | refine Ac_ ?_ | (refine As_ ?_ ?_ ?_;(· (simp[hnt,Af_,Ba_,ML_];done));(try (rotate_left;(· (intro hc;(try simp[hnt,Af_,Ba_,ML_]at hc);done))))) | (refine Al_ ?_;simp[Tryz.results123,hnt,Af_,Ba_,ML_]) | ((first | refine Ah_ ?_ | refine Ag_ ?_);simp[hnt,Af_,Ba_,ML_]) | (intro hc;(try simp[hnt,Af_,Ba_,ML_]at hc);(try (exfalso;omega))) | ((first | refine Ae_ (Ci_ p.head q.head) ?_ | refine Ae_ (Ci_ p.body.length q.body.length) ?_ | refine Ae_ (h1) ?_ | refine Ae_ (h2) ?_ | (refine Ad_ (Ci_ p.head q.head) ?_ ?_;(· (simp;done))) | (refine Ad_ (Ci_ p.body.length q.body.length) ?_ ?_;(· (simp;done))) | (refine Ad_ (h1) ?_ ?_;(· (simp;done))) | (refine Ad_ (h2) ?_ ?_;(· (simp;done))));try simp[hnt,Af_,Ba_,ML_]) | (refine⟨?_,?_⟩; · omega) | omega | apply_assumption -exfalso -symm | (exfalso;omega)))
def Wl_ : Ann:=⟨[],[]⟩
theorem same_pure (p q:Prod):Aj_ Tryz.prog 125 [.agg (Af_ p),.agg (Af_ q)] (.bool (Ba_ p q==0)):=by
 refine Ab_ [] (fn:=Tryz.f125) Tryz.func125 rfl Tryz.call125 (by simp[Tryz.ntmps125]) (by simp[mx]) ?_
 intro hwf B hnt
 simp only[Tryz.ntmps125]at hnt
 have hgAnn:=Ao_ Wl_ Tryz.mixed (aj2 @Wl_.eq_1 Tryz.results125)
 simp only[argS]
 have h1:=Nr_ p q
 exact go0 (aj1 h1) aj0 (aj1 @Af_.eq_1)
end Go.Proofs.YtchgnpnbcjflcaaGreat
end
section
namespace Go.Proofs.YtchgnpnbcjflcaaGreat
open Go Go.Dm
variable [DMode]
theorem Jl_ : OrdC Ba_:=by
 have h:=ordKey (QW_ ordI (QW_ ordI (ordL ordSym))) (fun p:Prod=>(p.head,((p.body.length:Int),p.body))) (by
  rintro⟨l,n⟩ ⟨l',n'⟩ hh
  simp only[_root_.Prod.mk.injEq]at hh
  obtain⟨rfl,_,rfl⟩:=hh
  rfl)
 exact h
def unSym : List DVal→Sym
 | [.bool b,.int _ n]=>⟨b,n⟩
 | _=>⟨false,0⟩
def Ua_ : List DVal→Prod
 | [.int _ h,.sl _ _ es]=>⟨h,es.map unSym⟩
 | _=>⟨0,[]⟩
theorem unSym_d (s:Sym):unSym (dSym s)=s:=rfl
theorem TZ_ (p:Prod):Ua_ (Af_ p)=p:=by
 obtain⟨h,b⟩:=p
 simp only[Ua_,Af_,cB0,aV0,true_and]
 rw[show unSym∘dSym=id from funext unSym_d,List.map_id]
end Go.Proofs.YtchgnpnbcjflcaaGreat
end
section
namespace Go.Proofs.YtchgnpnbcjflcaaGreat
open Go Go.Dm
variable [DMode]
attribute [local irreducible] DW Br_ Bu_
set_option maxRecDepth 100000
def GR_ : Ann:=⟨[],[]⟩
set_option maxHeartbeats 4000000 in
theorem MY_ (g:FuncId) (e:Prod→Prod→Bool) (l:List Prod) (he:∀x∈l,∀y∈l,Aj_ Tryz.prog g [.agg (Af_ x),.agg (Af_ y)] (.bool (e x y))) :
  AU_ Tryz.prog (.func 124) [.osl 0 0,.fn (.func g) [] []] [⟨0,0,.row 92 2 32 (l.map Af_)⟩] (Bh_ (BF_ e l)) []:=by
 refine Gr_ [0] [] (fn:=Tryz.f124) Tryz.func124 rfl Tryz.call124 (by simp[Tryz.ntmps124]) (by simp) (by simp) ?_
 intro hwf hwo B hnt
 have hgAnn:=Ao_ GR_ Tryz.mixed (aj2 @GR_.eq_1 Tryz.results124)
 simp only[argS]
 have hl:l.length≤9223372036854775807:=by
  simp only[XF_,maxLen,aL0]at hwo
  omega
 clear hwo
 by_cases hl2:l.length<2
 ·have hcl:BF_ e l=l:=by
   match l,hl2 with
   | [],_=>rfl
   | [x],_=>rfl
  exact go0 aj0 aj0 (aj2 hl2 hcl)
 have hl2':¬(l.length:Int)<2:=by omega
 obtain⟨R0,hR0⟩:∃R0,R0=BF_ e l:=⟨_,rfl⟩
 rw[←hR0]
 (refine go1 aj0 aj0 (aj2 hl2 hl2') ?_;intros;refine mk_i ?_)
 refine Am_ (X:={k:Nat//1≤k∧k≤l.length∧BF_ e (l.take k)=l.take k}) (fun k=>⟨[(0,.osl 0 0),(1,.fn (.func g) [] []),(5,.int .i64 k.1)],[⟨0,0,.row 92 2 32 (l.map Af_)⟩]⟩) (fun k=>l.length-k.1) ⟨1,by
  obtain⟨x,t,rfl⟩:∃x t,l=x::t:=by
   cases l with
   | nil=>simp at hl2
   | cons x t=>exact⟨x,t,rfl⟩
  simp[BF_,BR_]⟩ (Sub.lit (by simp)) ?_
 rintro⟨k,hk1,hk,hck⟩
 by_cases hlt:k<l.length
 ·obtain⟨q,hq,hq',hqm⟩:=Aq_ hlt
  obtain⟨p,hp,hp',hpm⟩:=Aq_ (show k-1<l.length by omega)
  have hpq:=he q hqm p hpm
  simp only[Af_]at hpq
  have hwr:IntKind.i64.wrap ((k:Int)-1)=(k:Int)-1:=Aa_ (by omega) (by omega)
  have hk0:((k:Int)-1).toNat=k-1:=by omega
  have hs:=GL_ (e:=e) (by omega) hp hq
  have hb1:(0:Int)≤(k:Int)-1:=by omega
  have hb2:(k:Int)-1<l.length:=by omega
  cases hepq:e q p
  ·rw[hepq]at hpq hs
   simp only[aQ0,if_false]at hs
   (refine go1 (aj1 hpq) aj0 (aj10 @Af_.eq_1 hlt hq' hp' hp hq hk0 hwr hb1 hb2) ?_;intros;refine mk_i ?_)
   refine Ap_.mk ⟨k+1,by omega,by omega,by rw[hs,hck,bF0,hq];rfl⟩ (Sub.lit (by simp)) (by simp;omega)
   skip
  ·rw[hepq]at hpq hs
   simp only[if_true,bK0]at hs
   (refine go1 (aj1 hpq) aj0 (aj10 @Af_.eq_1 hlt hq' hp' hp hq hk0 hwr hb1 hb2) ?_;intros;refine mk_i ?_)
   clear hwr hk0 hb1 hb2
   refine Am_ (X:={x:Nat×Nat×List Prod//1≤x.1∧k+x.1≤l.length∧x.2.1<k+x.1∧k≤x.2.1∧x.2.2.length=l.length∧x.2.2.take x.2.1=BF_ e (l.take (k+x.1))∧∀j,k+x.1≤j+1→x.2.2[j]? =l[j]?}) (fun x=>⟨[(0,.osl 0 0),(1,.fn (.func g) [] []),(5,.int .i64 x.1.2.1),(6,.vw 0 0 2 32 k (l.length-k)),(7,.int .i64 x.1.1)],[⟨0,0,.row 92 2 32 (x.1.2.2.map Af_)⟩]⟩) (fun x=>l.length-x.1.1)
    ⟨(1,k,l),show 1≤1∧k+1≤l.length∧k<k+1∧k≤k∧l.length=l.length∧l.take k=BF_ e (l.take (k+1))∧(∀j,k+1≤j+1→l[j]? =l[j]?) from ⟨by omega,by omega,by omega,by omega,rfl,by rw[hs,hck],fun _ _=>rfl⟩⟩ (Sub.lit (by simp)) ?_
   rintro⟨⟨m,kk,R⟩,x1,x2,x3,x4,x5,x6,x7⟩
   simp only at x1 x2 x3 x4 x5 x6 x7 ⊢
   have hv:k+(l.length-k)≤l.length:=by omega
   by_cases hm:m<l.length-k
   ·obtain⟨y,hy,hy',hym⟩:=Aq_ (show k+m<l.length by omega)
    obtain⟨z,hz,hz',hzm⟩:=Aq_ (show k+m-1<l.length by omega)
    obtain⟨c0,hc0,_,_⟩:=Aq_ (show kk<R.length by omega)
    have hRy:R[k+m]? =some y:=by rw[x7 _ (by omega)];exact hy
    have hRz:R[k+(m-1)]? =some z:=by rw[x7 _ (by omega),show k+(m-1)=k+m-1 by omega];exact hz
    have hRy':R[k+m]'(by omega)=y:=(aC0.1 hRy).2
    have hRz':R[k+(m-1)]'(by omega)=z:=(aC0.1 hRz).2
    have hyz:=he y hym z hzm
    simp only[Af_]at hyz
    have hwr:IntKind.i64.wrap ((m:Int)-1)=(m:Int)-1:=Aa_ (by omega) (by omega)
    have hk0:((m:Int)-1).toNat=m-1:=by omega
    have hb1:(0:Int)≤(m:Int)-1:=by omega
    have hb2:(m:Int)-1<((l.length-k:Nat):Int):=by omega
    have hs2:=GL_ (e:=e) (by omega) hz hy
    rw[←x6]at hs2
    have hkk:kk<l.length:=by omega
    cases heyz:e y z
    ·rw[heyz]at hyz hs2
     simp only[aQ0,if_false]at hs2
     (refine go1 (aj1 hyz) aj0 (aj14 @Af_.eq_1 hm hRy hRz hRy' hRz' hk0 hwr hb1 hb2 x5 hv hc0 hkk) ?_;intros;refine mk_i ?_)
     refine Ap_.mk ⟨(m+1,kk+1,R.set kk y),show 1≤m+1∧k+(m+1)≤l.length∧kk+1<k+(m+1)∧k≤kk+1∧(R.set kk y).length=l.length∧(R.set kk y).take (kk+1)=BF_ e (l.take (k+(m+1)))∧(∀j,k+(m+1)≤j+1→(R.set kk y)[j]? =l[j]?) from ⟨by omega,by omega,by omega,by omega,by simp[x5],?_,fun j hj=> ?_⟩⟩ (Sub.lit ?_) (by simp;omega)
     ·rw[show k+(m+1)=k+m+1 by omega,hs2,bF0,fG0 (by omega),List.take_set_of_le (by omega)]
      rfl
     ·rw[List.getElem?_set_ne (by omega)]
      exact x7 j (by omega)
     ·have hm0:mxR ((R.map Af_).set kk [.int .i64 y.head,AM_ y.body])=0:=by
       rw[show (R.map Af_).set kk [.int .i64 y.head,AM_ y.body]=(R.set kk y).map Af_ by simp[eF0,Af_]]
       exact mx_dProds _
      simp[eF0,Af_,hm0]
     skip
    ·rw[heyz]at hyz hs2
     simp only[if_true,bK0]at hs2
     (refine go1 (aj1 hyz) aj0 (aj14 @Af_.eq_1 hm hRy hRz hRy' hRz' hk0 hwr hb1 hb2 x5 hv hc0 hkk) ?_;intros;refine mk_i ?_)
     refine Ap_.mk ⟨(m+1,kk,R),show 1≤m+1∧k+(m+1)≤l.length∧kk<k+(m+1)∧k≤kk∧R.length=l.length∧R.take kk=BF_ e (l.take (k+(m+1)))∧(∀j,k+(m+1)≤j+1→R[j]? =l[j]?) from ⟨by omega,by omega,by omega,by omega,x5,by rw[show k+(m+1)=k+m+1 by omega,hs2],fun j hj=>x7 j (by omega)⟩⟩ (Sub.lit (by simp)) (by simp;omega)
     skip
   ·have hkm:k+m=l.length:=by omega
    have hcl1:(CQ_ (R.map Af_) kk (l.length-kk) [.int .i64 0,.nilsl]).length=l.length:=by simp[CQ_];omega
    have hcl2:(CQ_ (R.map Af_) kk (l.length-kk) [.int .i64 0,.nilsl]).take kk=R0.map Af_:=by
     have e1:l.take (k+m)=l:=by rw[hkm,aT0]
     rw[e1]at x6
     rw[hR0,←x6]
     simp only[CQ_]
     rw[aU0,eP0 (by simp;omega),List.take_take,Nat.min_self,eR0]
    have hkl:kk≤l.length:=by omega
    (repeat (first | refine Ak_ fun K hK=> ?_ | (refine DW_r GR_ Tryz.mixed (by kernel_rfl) ?_;simp[GR_,hnt,hm,x5,hv,hcl1,hcl2,hkl];try simp (disch:=omega) only[Aa_]) | refine Ac_ ?_ | (refine As_ ?_ ?_ ?_;(· (simp[hnt,hm,x5,hv,hcl1,hcl2,hkl];done));(try (rotate_left;(· (intro hc;(try simp[hnt,hm,x5,hv,hcl1,hcl2,hkl]at hc);done))))) | (refine Al_ ?_;simp[Tryz.results124,hnt,hm,x5,hv,hcl1,hcl2,hkl]) | ((first | refine Ah_ ?_ | refine Ag_ ?_);simp[hnt,hm,x5,hv,hcl1,hcl2,hkl]) | (intro hc;(try simp[hnt,hm,x5,hv,hcl1,hcl2,hkl]at hc);(try (exfalso;omega))) | ((first | refine Ae_ (hyz) ?_ | (refine Ad_ (hyz) ?_ ?_;(· (simp;done))));try simp[hnt,hm,x5,hv,hcl1,hcl2,hkl]) | (refine⟨?_,?_⟩; · omega) | omega | apply_assumption -exfalso -symm | (exfalso;omega)))
 ·have hkk:k=l.length:=by omega
  subst hkk
  rw[aT0]at hck
  rw[hck]at hR0
  (repeat (first | refine Ak_ fun K hK=> ?_ | (refine DW_r GR_ Tryz.mixed (by kernel_rfl) ?_;simp[GR_,hnt,hR0];try simp (disch:=omega) only[Aa_]) | refine Ac_ ?_ | (refine As_ ?_ ?_ ?_;(· (simp[hnt,hR0];done));(try (rotate_left;(· (intro hc;(try simp[hnt,hR0]at hc);done))))) | (refine Al_ ?_;simp[Tryz.results124,hnt,hR0]) | ((first | refine Ah_ ?_ | refine Ag_ ?_);simp[hnt,hR0]) | (intro hc;(try simp[hnt,hR0]at hc);(try (exfalso;omega))) | ((first | refine Ae_ (hyz) ?_ | (refine Ad_ (hyz) ?_ ?_;(· (simp;done))));try simp[hnt,hR0]) | (refine⟨?_,?_⟩; · omega) | omega | apply_assumption -exfalso -symm | (exfalso;omega)))
end Go.Proofs.YtchgnpnbcjflcaaGreat
end
section
namespace Go.Proofs.YtchgnpnbcjflcaaGreat
open Go Go.Dm
variable [DMode]
attribute [local irreducible] DW Br_ Bu_
def Wp_ : Ann:=⟨[],[]⟩
def GX_ : Ann:=⟨[5],[]⟩
set_option maxRecDepth 100000 in
theorem NL_ (l:List Sym):Aj_ Tryz.prog 194 [AM_ l] (AM_ l):=by
 match l with
 | [] =>
  refine Qg_ [] ?_ ?_
  ·refine Ab_ [7] (fn:=Tryz.f194) Tryz.func194 rfl Tryz.call194 (by simp[Tryz.ntmps194]) (by simp[mx,mxR]) ?_
   intro hwf B hnt
   simp only[Tryz.ntmps194]at hnt
   have hgAnn:=Ao_ Wp_ Tryz.mixed (aj2 @Wp_.eq_1 Tryz.results194)
   simp only[argS,List.nil_append,AM_,List.map_cons]
   exact go0 aj0 aj0 aj0
  ·refine Ab_ [7,5] (fn:=Tryz.f194) Tryz.func194 rfl Tryz.call194 (by simp[Tryz.ntmps194]) (by simp[mx,mxR]) ?_
   intro hwf B hnt
   simp only[Tryz.ntmps194]at hnt
   have hgAnn:=Ao_ GX_ Tryz.mixed (aj2 @GX_.eq_1 Tryz.results194)
   simp only[argS,List.nil_append,AM_,List.map_cons]
   exact go0 aj0 aj0 aj0
 | s::l =>
  refine Ab_ [7,5] (fn:=Tryz.f194) Tryz.func194 rfl Tryz.call194 (by simp[Tryz.ntmps194]) (by simp[mx,mxR]) ?_
  intro hwf B hnt
  simp only[Tryz.ntmps194]at hnt
  have hgAnn:=Ao_ GX_ Tryz.mixed (aj2 @GX_.eq_1 Tryz.results194)
  have hw:XG_ (s::l):=Ql_ hwf.1
  obtain⟨hw1,hw2,hw3⟩:=hw
  clear hwf
  simp at hw1 hw2
  clear hw3
  simp only[argS,List.nil_append,AM_,List.map_cons]
  exact go0 aj0 aj0 aj0

end Go.Proofs.YtchgnpnbcjflcaaGreat
end
section
namespace Go.Proofs.YtchgnpnbcjflcaaGreat
open Go Go.Dm
variable [DMode]
attribute [local irreducible] DW Br_ Bu_
set_option maxRecDepth 100000
theorem Oi_ (l:List Prod):AU_ Tryz.prog (.func 122) [.osl 0 0,.fn (.func 123) [] []] [⟨0,0,.row 92 2 32 (l.map Af_)⟩] (.tup []) [⟨0,0,.row 92 2 32 ((HF_ Ba_ l).map Af_)⟩]:=by
 have hmem:∀x∈l.map Af_,∃p∈l,x=Af_ p:=fun x hx=>by
  obtain⟨p,hp,rfl⟩:=aW0.1 hx
  exact⟨p,hp,rfl⟩
 refine QF_ (cf:=fun x y=>Ba_ (Ua_ x) (Ua_ y)) Tryz.sortProd (by rfl) Tryz.call122 (by kernel_rfl) (by kernel_rfl) (by decide) rfl ?_ Tryz.call123 ?_ ?_ ?_ ?_ ?_
 ·intro x hx
  obtain⟨p,_,rfl⟩:=hmem x hx
  simp
 ·intro x hx y hy
  obtain⟨p,_,rfl⟩:=hmem x hx
  obtain⟨q,_,rfl⟩:=hmem y hy
  simp only[TZ_]
  exact @Nr_ Ii_ p q
 ·intro x _
  rw[Jl_.refl];omega
 ·intro x _ y _ z _;exact Jl_.trans _ _ _
 ·intro x _ y _ z _;exact Jl_.ntrans _ _ _
 ·intro L hp hs
  exact Qn_ Jl_ TZ_ hp hs
def Wn_ : Ann:=⟨[],[⟨4,[7],[],[]⟩]⟩
set_option maxHeartbeats 1000000 in
theorem with_own (g:FuncId) (hdo:∀l:List Sym,Aj_ Tryz.prog g [AM_ l] (.tup [])) (c:Cnf):AU_ Tryz.prog (.func 120) [.agg (dCnf c),.fn (.func g) [] []] [] (.agg [.int .i64 c.nts,.osl 0 1]) [⟨0,1,.row 92 2 32 (c.prods.map Af_)⟩]:=by
 refine Av_ [4,5] [(32,0,1)] (fn:=Tryz.f120) Tryz.func120 rfl Tryz.call120 (by simp[Tryz.ntmps120]) (by simp) (by simp) ?_
 intro hwf B hnt
 simp only[Tryz.ntmps120]at hnt
 have hgAnn:=Ao_ Wn_ Tryz.mixed (aj2 @Wn_.eq_1 Tryz.results120)
 have hw:wCnf c:=SD_ (by simpa[wfL,wfD]using hwf.1)
 obtain⟨hw1,hw2,hw3,hw4⟩:=hw
 clear hwf
 simp only[argS]
 (refine go1 aj0 aj0 (aj1 @dCnf.eq_1) ?_;intros;refine mk_i ?_)
 refine Bx_ 5 1 32 92 2 32 (by simp) (fun n=> ?_)
 refine Am_ (X:={k:Nat//k≤c.prods.length}) (fun k=>⟨[(1,.fn (.func g) [] []),(4,.bx 4 1 0),(5,.bx 5 1 0),(13,Bh_ c.prods),(14,.int .i64 c.prods.length),(15,.int .i64 k.1)],[⟨4,1,.box [.int .i64 0,.nilsl]⟩,⟨5,1,.box [.int .i64 c.nts,.osl 32 1]⟩,⟨32,1,.row 92 2 32 ((c.prods.take k.1).map Af_)⟩]⟩) (fun k=>c.prods.length-k.1) ⟨0,by simp⟩ (Sub.lit (by simp)) ?_
 rintro⟨k,hk⟩
 by_cases hlt:k<c.prods.length
 ·obtain⟨p,hp,hp',hpm⟩:=Aq_ hlt
  obtain⟨hw5,hw6,hw7,hw8⟩:=hw4 p hpm
  have htk:(c.prods.map Af_).take (k+1)=(c.prods.map Af_).take k++[Af_ p]:=by rw[bF0,bI0,hp];rfl
  have h1:=NL_ p.body
  have h2:=hdo p.body
  (refine go1 (aj2 h1 h2) aj0 (aj4 @dCnf.eq_1 @Af_.eq_1 hlt hp') ?_;intros;refine mk_i ?_)
  refine Ap_.mk ⟨k+1,by omega⟩ (Sub.lit ?_) (by simp;omega)
  ·simp[htk,Af_]
  skip
 ·have hkk:k=c.prods.length:=by omega
  subst hkk
  exact go0 aj0 aj0 (aj1 @dCnf.eq_1)
def Wm_ : Ann:=⟨[],[]⟩
theorem QE_ (l:List Sym):Aj_ Tryz.prog 121 [AM_ l] (.tup []):=by
 refine Ab_ [] (fn:=Tryz.f121) Tryz.func121 rfl Tryz.call121 (by simp[Tryz.ntmps121]) (by simp[mx]) ?_
 intro hwf B hnt
 simp only[Tryz.ntmps121]at hnt
 have hgAnn:=Ao_ Wm_ Tryz.mixed (aj2 @Wm_.eq_1 Tryz.results121)
 simp only[argS]
 exact go0 aj0 aj0 aj0
def Cd_ (c:Cnf):Cnf:=⟨c.nts,BF_ (fun p q=>Ba_ p q==0) (HF_ Ba_ c.prods)⟩
def PV_ : Ann:=⟨[5,8,11],[]⟩
set_option maxHeartbeats 1000000 in
theorem Lh_ (c:Cnf):Aj_ Tryz.prog 42 [.agg (dCnf c)] (.agg (dCnf (Cd_ c))):=by
 refine Ab_ [] (fn:=Tryz.f42) Tryz.func42 rfl Tryz.call42 (by simp[Tryz.ntmps42]) (by simp[mx]) ?_
 intro hwf B hnt
 simp only[Tryz.ntmps42]at hnt
 have hgAnn:=Ao_ PV_ Tryz.mixed (aj2 @PV_.eq_1 Tryz.results42)
 simp only[argS]
 have h1:=with_own _ QE_ c
 have h2:=Oi_ c.prods
 have h3:=MY_ 125 (fun p q=>Ba_ p q==0) (HF_ Ba_ c.prods) (fun x _ y _=>same_pure x y)
 (repeat (first | refine Ak_ fun K hK=> ?_ | (refine DW_r PV_ Tryz.mixed (by kernel_rfl) ?_;simp[PV_,hnt,dCnf,Cd_];try simp (disch:=omega) only[Aa_]) | refine Ac_ ?_ | (refine As_ ?_ ?_ ?_;(· (simp[hnt,dCnf,Cd_];done));(try (rotate_left;(· (intro hc;(try simp[hnt,dCnf,Cd_]at hc);done))))) | (refine Al_ ?_;simp[Tryz.results42,hnt,dCnf,Cd_]) | ((first | refine Ah_ ?_ | refine Ag_ ?_);simp[hnt,dCnf,Cd_]) | (intro hc;(try simp[hnt,dCnf,Cd_]at hc);(try (exfalso;omega))) | (refine Ar_ [] [(50,0)] (h1) ?_ ?_;(· (simp[hnt,dCnf,Cd_];done));(intro _;try simp[hnt,dCnf,Cd_])) | (refine Ar_ [(50,0)] [] (h2) ?_ ?_;(· (simp[hnt,dCnf,Cd_];done));(intro _;try simp[hnt,dCnf,Cd_])) | (refine Ar_ [(50,0)] [] (h3) ?_ ?_;(· (simp[hnt,dCnf,Cd_];done));(intro _;try simp[hnt,dCnf,Cd_])) | (refine⟨?_,?_⟩; · omega) | omega | apply_assumption -exfalso -symm | (exfalso;omega)))
end Go.Proofs.YtchgnpnbcjflcaaGreat
end
