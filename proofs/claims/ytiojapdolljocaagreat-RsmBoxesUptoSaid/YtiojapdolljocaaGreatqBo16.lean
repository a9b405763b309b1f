/- Parts of a proof, laid together: QB1, QB2, QB3, EnY, EnSt. -/
import Derived.Shelf.SlSortCmp.NoneTotal
import Derived.Shelf.SortM.Plain
import Derived.Shelf.SortM.SortNone
import Derived.Shelf.Small.Strs
import Derived.Lib.Builder
import Derived.Test.YtiojapdolljocaaGreatqBo8
import Derived.Test.YtiojapdolljocaaGreatqBo15
set_option linter.unusedSimpArgs false
set_option maxHeartbeats 8000000
set_option linter.unusedVariables false
set_option linter.unusedSectionVars false
section
namespace Go.Proofs.Wy
open Go Go.Dm Tryz
attribute [local irreducible] DW Bm Bq
set_option maxRecDepth 100000
theorem SJ : dB HV=[.int .u64 0,.int .u64 0,.int .u64 0,.int .u64 0,.int .u64 0,.int .u64 0,.int .u64 0,.int .u64 0,.int .u64 0,.int .u64 0,.int .u64 0,.int .u64 0,.int .u64 0,.int .u64 0,.int .u64 0,.int .u64 0,.int .u64 0,.int .u64 0,.int .u64 0,.int .u64 0,.int .u64 0,.int .u64 0,.int .u64 0,.int .u64 0,.int .u64 0,.int .u64 0,.int .u64 0,.int .u64 0,.int .u64 0,.int .u64 0,.int .u64 0,.int .u64 0,.int .u64 0,.int .u64 0,.int .u64 0,.int .u64 0,.int .u64 0,.int .u64 0,.int .u64 0,.int .u64 0,.int .u64 0,.int .u64 0,.int .u64 0,.int .u64 0,.int .u64 0,.int .u64 0,.int .u64 0,.int .u64 0,.int .u64 0,.int .u64 0,.int .u64 0,.int .u64 0,.int .u64 0,.int .u64 0,.int .u64 0,.int .u64 0,.int .u64 0,.int .u64 0,.int .u64 0,.int .u64 0,.int .u64 0,.int .u64 0,.int .u64 0,.int .u64 0]:=rfl
theorem Dt {b:HR} (h:b.length=64):(dB b).take 64=dB b:=cE0 (by simp[dB,h])
@[simp] theorem Us (b:HR):(dB b).length=b.length:=by simp[dB]
@[simp] theorem Gn_ {d:DVal} {b:HR}:d∈dB b↔∃y,y∈b/\DVal.int .u64 (y:Int)=d:=by
 simp only[dB,aR0];rfl
@[simp] theorem Fp_ (b:HR):AH (dB b)=0:=by
 unfold dB
 induction b with
 | nil=>rfl
 | cons x b ih=>rw[List.map_cons,AH,ih];rfl
@[simp] theorem FL_ (f:Nat->Nat->Option (Nat×Nat)) (b:HR):(dB b).map (Lb f)=dB b:=by
 simp only[dB,bY0];exact bV0 fun x _=>rfl
@[simp] theorem FW_ (i r:Nat) (o:DObj) (b:HR):(dB b).map (WE i r o)=dB b:=by
 simp only[dB,bY0];exact bV0 fun x _=>rfl
@[simp] theorem FM_ (b:HR):NK (dB b):=by
 unfold dB
 induction b with
 | nil=>trivial
 | cons x b ih=>exact⟨rfl,ih⟩
@[simp] theorem Ga_ (b:HR):wkL (dB b) (dB b):=by
 generalize dB b=l
 induction l with
 | nil=>trivial
 | cons d l ih=>exact⟨.inl rfl,ih⟩
theorem KH {b:HR} {k x:Nat} (h:b[k]? =some x):(dB b).drop k= .int .u64 (x:Int)::(dB b).drop (k+1):=by
 obtain⟨hk,he⟩:=aG0.1 h;unfold dB;rw[aW0 (by simpa using hk)];simp[he,w64]
theorem uY {b:HR} {k:Nat} (x:Nat) (h:k<b.length):(dB b).take k++ .int .u64 (x:Int)::(dB b).drop (k+1)=dB (b.set k x):=by
 unfold dB;rw[eJ0,List.set_eq_take_append_cons_drop,if_pos (by simpa using h)];rfl
def lS : Ann:=⟨[],[]⟩
theorem LP (n:Nat) (h:n<64):Ae prog 96 [.int .i64 n] (.bool true):=by
 refine Ac [] lS func96 call96 ntmps96 mxd (Ar @lS.eq_1 results96) rfl (fun qJ B qX qQ=> ?_);clear qJ;simp only[Ak];have h1:(n:Int)<64:=by omega
 exact Aw Ab Ab (AJ h1)
def lT : Ann:=⟨[],[]⟩
theorem tG (b:HR) (hb:Sd b) (r c:Nat) (hr:r<64) (hc:c<64):Ae prog 48 [.agg (dB b),.int .i64 r,.int .i64 c] (.tup [.bool (Ij b r c),.int .i64 0]):=by
 refine Ac [] lT func48 call48 ntmps48 mxd (Ar @lT.eq_1 results48) rfl (fun qJ B qX qQ=> ?_) (hd:=(by simp[mx,AH]));clear qJ;simp only[Ak];have e1:=LP r hr;have e2:=LP c hc;have hl:=hb.1;have dL:r<b.length:=by omega
 have hx:=aD0 dL;obtain⟨x,kO⟩:∃x,x=b[r]:=⟨_,rfl⟩;have kR:b[r]=x:=kO.symm;rw[kR]at hx;have dU:x<2 ^ 64:=by rw[kO];exact hb.2 _ (bT0 _)
 have hg:=Fx_ dU hc;have hbit:Ij b r c=x.testBit c:=by unfold Ij;rw[HL dL,kR]
 rw[hbit,<-hg];have h1:(r:Int)<64:=by omega
 have yQ:¬(c:Int)<0:=by omega
 have hd:=KH hx;exact Aw (Ar e1 e2) Ab (Mj h1 hl hd hx yQ)
theorem Lm : HV.length=64:=rfl
theorem Pq : (dB HV).drop 64=[]:=rfl
theorem DC_ {f:Nat->Nat->Nat} {a b:HR} (h:a.length=b.length) {k:Nat} (hk:k<a.length):(QX f a b k)[k]? =some a[k]:=by
 rcases DN_ (f:=f) (b:=b) hk with h1 | h1
 ·rw[h1,aD0 hk]
 ·omega
def XU : Ann:=⟨[2],[]⟩
theorem Bs_ (a b:HR) (ha:Sd a) (hb:Sd b):Ae prog 135 [.agg (dB a),.agg (dB b)] (.agg (dB (xP a b))):=by
 refine Ac [] XU func135 call135 ntmps135 mxd (Ar @XU.eq_1 results135) rfl (fun qJ B qX qQ=> ?_);clear qJ;simp only[Ak];have la:=ha.1;have lb:=hb.1;have kL:a.length=b.length:=by omega
 have t1:=Dt la;have t2:=Dt lb;have z:=SJ
 (refine AX Ab Ab (Ar la lb) ?_;intros;refine Am ?_)
 refine Al (X:={k:Nat//k<=64}) (fun k=>⟨[(2,.bx 2 1 0),(3,.ref (dB b)),(4,.bx 4 1 0),(6,.int .i64 k.1)],[⟨2,1,.box (dB (QX (· ||| ·) a b k.1))⟩,⟨4,1,.box (dB HV)⟩]⟩) (fun k=>64-k.1) ⟨0,by omega⟩ (Sub.lit (by simp[UZ,z])) ?_;rintro⟨k,hk⟩;simp only
 by_cases qV:k<64
 ·have hka:k<a.length:=by omega
  have hkb:k<b.length:=by omega
  have hs:=Va (f:=(· ||| ·)) kL hka;have hx:=DC_ (f:=(· ||| ·)) kL hka;have qU:=Tf (f:=(· ||| ·)) kL (k:=k) (by omega);obtain⟨T,hT⟩:∃T,T=QX (· ||| ·) a b k:=⟨_,rfl⟩;rw[<-hT]at hs hx qU |-;clear hT;obtain⟨x,kO⟩:∃x,x=a[k]:=⟨_,rfl⟩;obtain⟨y,hye⟩:∃y,y=b[k]:=⟨_,rfl⟩;have dU:x<2 ^ 64:=by rw[kO];exact ha.2 _ (bT0 _)
  have hyl:y<2 ^ 64:=by rw[hye];exact hb.2 _ (bT0 _)
  have hy:b[k]? =some y:=by rw[aD0 hkb,hye]
  rw[<-kO]at hx hs;rw[<-hye]at hs;have d1:=KH hx;have d2:=KH hy;have o1:=(Ff_ dU hyl).1;have s1:=uY (x ||| y) (show k<T.length by omega);rw[<-hs]at s1;obtain⟨U,hU⟩:∃U,U=QX (· ||| ·) a b (k+1):=⟨_,rfl⟩;rw[<-hU]at s1;have l1:(k:Int)<64:=by omega
  have wk:IntKind.i64.wrap ((k:Int)+1)=(k:Int)+1:=wq;have wC:T.length=64:=by omega
  (refine AX Ab Ab (Mi l1 d1 d2 o1 s1 lb wC wk) ?_;intros;refine Am ?_)
  refine An.mk ⟨k+1,by omega⟩ (Sub.lit (by simp[<-hU,wk])) (by simp;omega)
  skip
 ·have qZ:k=64:=by omega
  subst qZ;have he:QX (· ||| ·) a b a.length=xP a b:=aL kL;rw[la]at he;rw[he];have lo:(xP a b).length=64:=(TL ha hb).1;have t3:=Dt lo;have n1:=Lm;have n2:=Pq;exact Aw Ab Ab (Ik t3 lo n1 n2)
theorem rV {a b:HR} (ha:Sd a) (hb:Sd b):(Nj a b).length=64:=by simp[Nj,ha.1,hb.1]
def XV : Ann:=⟨[2],[]⟩
theorem ZV (a b:HR) (ha:Sd a) (hb:Sd b):Ae prog 134 [.agg (dB a),.agg (dB b)] (.agg (dB (Nj a b))):=by
 refine Ac [] XV func134 call134 ntmps134 mxd (Ar @XV.eq_1 results134) rfl (fun qJ B qX qQ=> ?_);clear qJ;simp only[Ak];have la:=ha.1;have lb:=hb.1;have kL:a.length=b.length:=by omega
 have t1:=Dt la;have t2:=Dt lb;have z:=SJ
 (refine AX Ab Ab (Ar la lb) ?_;intros;refine Am ?_)
 refine Al (X:={k:Nat//k<=64}) (fun k=>⟨[(2,.bx 2 1 0),(3,.ref (dB b)),(4,.bx 4 1 0),(6,.int .i64 k.1)],[⟨2,1,.box (dB (QX LU a b k.1))⟩,⟨4,1,.box (dB HV)⟩]⟩) (fun k=>64-k.1) ⟨0,by omega⟩ (Sub.lit (by simp[UZ,z])) ?_;rintro⟨k,hk⟩;simp only
 by_cases qV:k<64
 ·have hka:k<a.length:=by omega
  have hkb:k<b.length:=by omega
  have hs:=Va (f:=LU) kL hka;have hx:=DC_ (f:=LU) kL hka;have qU:=Tf (f:=LU) kL (k:=k) (by omega);obtain⟨T,hT⟩:∃T,T=QX LU a b k:=⟨_,rfl⟩;rw[<-hT]at hs hx qU |-;clear hT;obtain⟨x,kO⟩:∃x,x=a[k]:=⟨_,rfl⟩;obtain⟨y,hye⟩:∃y,y=b[k]:=⟨_,rfl⟩;have dU:x<2 ^ 64:=by rw[kO];exact ha.2 _ (bT0 _)
  have hyl:y<2 ^ 64:=by rw[hye];exact hb.2 _ (bT0 _)
  have hy:b[k]? =some y:=by rw[aD0 hkb,hye]
  rw[<-kO]at hx hs;rw[<-hye]at hs;have d1:=KH hx;have d2:=KH hy;have o1:Lv .u64 (x:Int) (y:Int)=((LU x y:Nat):Int):=BI_ dU hyl;have s1:=uY (LU x y) (show k<T.length by omega);rw[<-hs]at s1;obtain⟨U,hU⟩:∃U,U=QX LU a b (k+1):=⟨_,rfl⟩;rw[<-hU]at s1;have l1:(k:Int)<64:=by omega
  have wk:IntKind.i64.wrap ((k:Int)+1)=(k:Int)+1:=wq;have wC:T.length=64:=by omega
  (refine AX Ab Ab (Mi l1 d1 d2 o1 s1 lb wC wk) ?_;intros;refine Am ?_)
  refine An.mk ⟨k+1,by omega⟩ (Sub.lit (by simp[<-hU,wk])) (by simp;omega)
  skip
 ·have qZ:k=64:=by omega
  subst qZ;have he:QX LU a b a.length=Nj a b:=aL kL;rw[la]at he;rw[he];have lo:(Nj a b).length=64:=rV ha hb;have t3:=Dt lo;have n1:=Lm;have n2:=Pq;exact Aw Ab Ab (Ik t3 lo n1 n2)
def Fe_ (x:Int):Int:=IntKind.u64.wrap (IM .u64 (Ig .u64 x 1) 6148914691236517205+IM .u64 x 6148914691236517205)
def Fd_ (x:Int):Int:=IntKind.u64.wrap (IM .u64 (Ig .u64 x 2) 3689348814741910323+IM .u64 x 3689348814741910323)
def Fc_ (x:Int):Int:=IM .u64 (IntKind.u64.wrap (Ig .u64 x 4+x)) 1085102592571150095
def Fb_ (x:Int):Int:=IntKind.u64.wrap (x+Ig .u64 x 8)
def Fa_ (x:Int):Int:=IntKind.u64.wrap (x+Ig .u64 x 16)
def EZ_ (x:Int):Int:=IntKind.u64.wrap (x+Ig .u64 x 32)
def Cj_ (x:Int):Int:=IM .i64 (IntKind.i64.wrap (EZ_ (Fa_ (Fb_ (Fc_ (Fd_ (Fe_ x))))))) 127
theorem xK : Cj_ 0=0:=by decide +kernel
theorem Ci_ : ∀c:Nat,c<64->Cj_ ((2 ^ c:Nat):Int)=1:=by decide +kernel
def XS : Ann:=⟨[],[]⟩
theorem pY (x:Int):Ae prog 191 [.int .u64 x] (.int .i64 (Cj_ x)):=by
 refine Ac [] XS func191 call191 ntmps191 mxd (Ar @XS.eq_1 results191) rfl (fun qJ B qX qQ=> ?_);clear qJ;simp only[Ak];unfold Cj_;obtain⟨x1,h1⟩:∃y,y=Fe_ x:=⟨_,rfl⟩;obtain⟨x2,h2⟩:∃y,y=Fd_ x1:=⟨_,rfl⟩;obtain⟨x3,h3⟩:∃y,y=Fc_ x2:=⟨_,rfl⟩;obtain⟨x4,h4⟩:∃y,y=Fb_ x3:=⟨_,rfl⟩;obtain⟨x5,h5⟩:∃y,y=Fa_ x4:=⟨_,rfl⟩;obtain⟨x6,h6⟩:∃y,y=EZ_ x5:=⟨_,rfl⟩;rw[<-h1,<-h2,<-h3,<-h4,<-h5,<-h6];have g1:IntKind.u64.wrap (IM .u64 (Ig .u64 x 1) 6148914691236517205+IM .u64 x 6148914691236517205)=x1:=h1.symm
 have g2:IntKind.u64.wrap (IM .u64 (Ig .u64 x1 2) 3689348814741910323+IM .u64 x1 3689348814741910323)=x2:=h2.symm;have g3:IM .u64 (IntKind.u64.wrap (Ig .u64 x2 4+x2)) 1085102592571150095=x3:=h3.symm;have g4:IntKind.u64.wrap (x3+Ig .u64 x3 8)=x4:=h4.symm;have g5:IntKind.u64.wrap (x4+Ig .u64 x4 16)=x5:=h5.symm;have g6:IntKind.u64.wrap (x5+Ig .u64 x5 32)=x6:=h6.symm;clear h1 h2 h3 h4 h5 h6;exact Aw Ab Ab (MY g1 g2 g3 g4 g5 g6)
theorem Co_ {r c k:Nat} (hr:r<64) (hk:k<64):(Ea r c)[k]? =some (if r=k then 2 ^ c else 0):=by
 unfold Ea;rw[List.getElem?_set]
 by_cases h:r=k
 ·subst h;rw[if_pos rfl,if_pos rfl,if_pos (by rw[Lm];exact hr)]
 ·rw[if_neg h,if_neg h];unfold HV;rw[cZ0,if_pos hk]
def XT : Ann:=⟨[],[]⟩
theorem Bu_ (r c:Nat) (hr:r<64) (hc:c<64):Ae prog 133 [.agg (dB (Ea r c))] (.int .i64 1):=by
 refine Ac [] XT func133 call133 ntmps133 mxd (Ar @XT.eq_1 results133) rfl (fun qJ B qX qQ=> ?_);clear qJ;simp only[Ak];have lo:=(Li (r:=r) hc).1;have t1:=Dt lo;obtain⟨W,hW⟩:∃W,W=Ea r c:=⟨_,rfl⟩;rw[<-hW]at lo t1 |-
 (refine AX Ab Ab (Ar lo t1) ?_;intros;refine Am ?_)
 refine Al (X:={k:Nat//k<=64}) (fun k=>⟨[(3,.int .i64 (if r<k.1 then 1 else 0)),(6,.agg (dB W)),(7,.int .i64 k.1)],[]⟩) (fun k=>64-k.1) ⟨0,by omega⟩ (Sub.lit (by simp)) ?_;rintro⟨k,hk⟩;simp only
 by_cases qV:k<64
 ·have hx:=Co_ (c:=c) hr qV;rw[<-hW]at hx;have d1:=KH hx;have e1:=pY ((if r=k then 2 ^ c else 0:Nat):Int);have l1:(k:Int)<64:=by omega
  have wk:IntKind.i64.wrap ((k:Int)+1)=(k:Int)+1:=wq;have wH:k<W.length:=by omega
  by_cases hrk:r=k
  ·subst hrk;simp only[if_true]at d1 e1;rw[Ci_ c hc]at e1;obtain⟨x,kR⟩:∃x:Nat,x=2 ^ c:=⟨_,rfl⟩;rw[<-kR]at d1 e1;have n1:¬r<r:=by omega
   have n2:r<r+1:=by omega
   (refine AX (AJ e1) Ab (MY l1 d1 lo wH wk n1) ?_;intros;refine Am ?_)
   refine An.mk ⟨r+1,by omega⟩ (Sub.lit (by simp[n2,wk])) (by simp;omega)
   skip
  ·rw[if_neg hrk]at d1 e1
   have e1':Ae prog 191 [.int .u64 0] (.int .i64 0):=by
    have:=e1;simp only[Int.natCast_zero,Int.cast_ofNat_Int,xK]at this;exact this
   by_cases mO:r<k
   ·have n2:r<k+1:=by omega
    (refine AX (AJ e1') Ab (MY l1 d1 lo wH wk mO) ?_;intros;refine Am ?_)
    refine An.mk ⟨k+1,by omega⟩ (Sub.lit (by simp[n2,wk])) (by simp;omega)
    skip
   ·have n2:¬r<k+1:=by omega
    (refine AX (AJ e1') Ab (MY l1 d1 lo wH wk mO) ?_;intros;refine Am ?_)
    refine An.mk ⟨k+1,by omega⟩ (Sub.lit (by simp[n2,wk])) (by simp;omega)
    skip
 ·have qZ:k=64:=by omega
  subst qZ;exact Aw Ab Ab (AJ hr)
def lR : Ann:=⟨[],[⟨4,[6],[],[]⟩]⟩
theorem Dp_ (r c:Nat) (hr:r<64) (wI:c<64):Ae prog 92 [.sl 2 16 [[.int .i64 r,.int .i64 c]]] (.tup [.agg (dB (Ea r c)),.int .i64 0]):=by
 refine Ac [] lR func92 call92 ntmps92 mxd (Ar @lR.eq_1 results92) rfl (fun qJ B qX qQ=> ?_) (hd:=(by simp[mx,AH]));clear qJ;simp only[Ak];have z:=SJ;have n1:=Lm;have n2:=Pq;have lo:=(Li (r:=r) wI).1;have t1:=Dt lo
 (refine AX Ab Ab Ab ?_;intros;refine Am ?_)
 refine Al (X:={k:Nat//k<=1}) (fun k=>⟨[(2,.bx 2 1 0),(4,.bx 4 1 0),(7,.sl 2 16 [[.int .i64 r,.int .i64 c]]),(8,.int .i64 1),(9,.int .i64 k.1)],[⟨2,1,.box (dB HV)⟩,⟨4,1,.box (dB (if k.1=0 then HV else Ea r c))⟩]⟩) (fun k=>1-k.1) ⟨0,by omega⟩ (Sub.lit (by simp[z])) ?_;rintro⟨k,hk⟩;simp only
 match k,hk with
 | 0,_ =>
  have e1:=LP r hr;have e2:=LP c wI;have hx:HV[r]? =some 0:=by unfold HV;rw[cZ0,if_pos hr]
  have d1:=KH hx;have o1:=(Ff_ (x:=0) (y:=2 ^ c) (by decide) (Nat.pow_lt_pow_right (by omega) wI)).1;have s1:=uY (b:=HV) (2 ^ c) (show r<HV.length by rw[n1];exact hr);have s2:HV.set r (2 ^ c)=Ea r c:=rfl;rw[s2]at s1;have h1:=Cf_ wI;rw[Nat.zero_or]at o1;obtain⟨x,kR⟩:∃x:Nat,x=2 ^ c:=⟨_,rfl⟩;rw[<-kR]at h1 o1 s1;simp only[Int.natCast_zero,Int.cast_ofNat_Int]at o1 d1
  have hgx:(dB HV)[r]'(by rw[Us,n1];exact hr)= .int .u64 0:=by
   have h5:=aW0 (l:=dB HV) (i:=r) (by rw[Us,n1];exact hr);rw[d1]at h5;exact(List.cons.inj h5).1.symm
  have l1:(r:Int)<64:=by omega
  have yQ:¬(c:Int)<0:=by omega
  (refine AX (Ar e1 e2) Ab (YF l1 d1 o1 s1 h1 n1 yQ hr hgx) ?_;intros;refine Am ?_)
  refine An.mk ⟨1,by omega⟩ (Sub.lit (by simp)) (by simp)
  skip
 | 1,_ =>
  have i1:(if 1=0 then HV else Ea r c)=Ea r c:=rfl;rw[i1];exact Aw Ab Ab (Ik t1 lo n1 n2)
end Go.Proofs.Wy
end
section
namespace Go.Dm
variable [DMode]
open Go.Shelf Go.Sort Go.Proofs
theorem uI {w w':World} (h: @Upd KP [] w w'):∃q os,w'=grow (w.drewN q) os:=by
 refine⟨w'.drawn-w.drawn,w'.heap.extract w.heap.size w'.heap.size,?_⟩;obtain⟨heap,tape,drawn,os,output⟩:=w';obtain⟨h1,h2,h3,h4,h5,h6⟩:=h;simp only at h1 h2 h3 h4 h5 h6 |-
 replace h4:=h4 rfl
 subst h1;subst h2;subst h3
 have e1:w.heap++heap.extract w.heap.size heap.size=heap:=by
  apply Array.ext_getElem?
  intro i
  by_cases hi:i<w.heap.size
  ·rw[dL0 hi,<-h6 i hi (by simp)]
  ·rw[Array.getElem?_append_right (by omega),Array.getElem?_extract]
   by_cases hi2:i<heap.size
   ·rw[if_pos (by omega)]
    congr 1
    omega
   ·rw[if_neg (by omega),Array.getElem?_eq_none (by omega)]
 have e2:w.drawn+(drawn-w.drawn)=drawn:=by omega
 simp[grow,World.drewN,e1,e2]
section
variable {P : Program} {ρ : Ren} {g : FuncId} {et k cap b : Nat} {cs : List DVal} {cs' : Array Value} {cf : List DVal -> List DVal -> Int} {es es' : List (List DVal)} {cu0 : Er} {M1 : List Nat} {w : World} {arr : Array Value}
theorem Hy {α:Type} [Inhabited α] (enc:α->List Value) (p3:w.heap[b]? =some (.cells arr et (0,0))) (m:Nat) (os:Array Obj) (dk:Array α) :
  (sortWorldK enc k w b 0 m dk os).heap[b]? =some (.cells (putCells id 0 (flatK enc k dk) arr) et (0,0))/\(∀q,q<w.heap.size->q≠b->(sortWorldK enc k w b 0 m dk os).heap[q]? =w.heap[q]?)/\w.heap.size<=(sortWorldK enc k w b 0 m dk os).heap.size /\
   (sortWorldK enc k w b 0 m dk os).os=w.os/\(sortWorldK enc k w b 0 m dk os).tape=w.tape/\(sortWorldK enc k w b 0 m dk os).output=w.output/\w.drawn<=(sortWorldK enc k w b 0 m dk os).drawn:=by
 have hblk:b<w.heap.size:=(aC0.1 p3).1;refine⟨?_,fun q hq hqb=> ?_,?_,rfl,rfl,rfl,Nat.le_add_right _ _⟩
 ·simp only[sortWorldK,grow,putRowK,putRow,mapBlock,ahead];rw[dL0 (by simpa using hblk),cD0];simp[p3,onCells]
 ·simp only[sortWorldK,grow,putRowK,putRow,mapBlock,ahead];rw[dL0 (by simpa using hq),cD0];rw[if_neg (fun h=>hqb h.symm)];rfl
 ·simp[sortWorldK,grow,putRowK,putRow,mapBlock,ahead]
theorem VD {α:Type} [Inhabited α] {enc:α->List Value} (qU:∀x,(enc x).length=k) {dk:Array α} {i p:Nat} (hi:i<dk.size) (hp:p<k) (qF:dk.size*k<=arr.size) :
  (putCells id 0 (flatK enc k dk) arr)[i*k+p]? =(enc dk[i]!)[p]? :=by
 have wN:=Dh (k:=k) hi;have qV:i*k+p<arr.size:=by omega
 have hdiv:(i*k+p)/k=i:=by
  rw[Nat.mul_comm,Nat.mul_add_div (by omega),Nat.div_eq_of_lt hp];omega
 have hmod:(i*k+p)%k=p:=by rw[Nat.mul_comm,Nat.mul_add_mod];exact eA0 hp
 have hlf:i*k+p<dk.size*k:=by omega
 have jF:p<(enc dk[i]!).length:=by rw[qU];exact hp
 simp only[putCells,bN0,Array.getElem?_mapIdx,cA0 qV,dK0,dB0,true_and,size_flatK,hlf,if_true,eG0,id];rw[get_flatK _ _ _ _ hlf,hdiv,hmod,getElem!_pos (enc dk[i]!) p jF,aD0 jF]
theorem pH {α:Type} [Inhabited α] (L:SlLaysF0.n6 P ρ) (dt:α->List DVal) (enc:α->List Value) (d:Array α) (dH:tAgg P (ρ.t 24)=some true) (jA:tCells P (ρ.t 24)=some k) (kY:AH cs=0) (wB:∀x∈es,AH x=0)
  (kJ:∀x,dt x∈es) (hdk:∀x,(dt x).length=k) (wT:∀x,Au cu0 M1 w.heap (dt x) (enc x)) (qD:∀x,∀u∈enc x,u.oneCell'=true) (gE:d.size=es.length)
  (hd:∀i (hi:i<es.length),dt d[i]! =es[i]/\∀(q:Nat) (v:Value),(enc d[i]!)[q]? =some v->arr[i*k+q]? =some v)
  (p3:w.heap[b]? =some (.cells arr et (0,0))) (yZ:es.length*k<=arr.size) (hbM:b∈M1) (gH:∀q∈M1,q<w.heap.size) (mH:Au cu0 M1 w.heap cs cs'.toList) (qV:es.length<4611686018427387904)
  (hg:Enters P g) (hcmp:∀x∈es,∀y∈es,@Ae KP P g (.agg x:: .agg y::cs) (.int .i64 (cf x y)))
  (hirr:∀x∈es,¬cf x x<0) (htr:∀x∈es,∀y∈es,∀z∈es,cf x y<0->cf y z<0->cf x z<0) (qX:∀x∈es,∀y∈es,∀z∈es,¬cf x y<0->¬cf y z<0->¬cf x z<0)
  (fE:∀l:List (List DVal),l.Perm es->l.Pairwise (fun x y=>¬cf y x<0)->l=es') :
  Calls P (ρ.f 6) #[.slice (some ⟨b,0,none⟩) es.length cap,.func (.func g) #[] cs'] w fun e w'=>e= .returned (.tuple #[])/\es'.length=es.length/\Upd [b] w w' /\
   ∃arr',w'.heap[b]? =some (.cells arr' et (0,0))/\arr'.size=arr.size/\∀cur M2,(∀q∈M2,q∈M1)->Em cur M2 w'.heap k es' arr' 0:=by
 have qU:∀x:α,(enc x).length=k:=fun x=>by
  have:=Ap _ _ (wT x);have:=hdk x;omega
 have hO:SWO (ltOf fun x y:α=>cf (dt x) (dt y)):=by
  refine⟨fun x=> ?_,fun x y z h1 h2=> ?_,fun x y z h1 h2=> ?_⟩
  ·simp only[ltOf,decide_eq_false_iff_not];exact hirr _ (kJ x)
  ·simp only[ltOf,decide_eq_true_eq]at *;exact htr _ (kJ x) _ (kJ y) _ (kJ z) h1 h2
  ·simp only[ltOf,decide_eq_false_iff_not]at *;exact qX _ (kJ x) _ (kJ y) _ (kJ z) h1 h2
 have hH:HoldsK enc k w b 0 d:=by
  intro j hj;rw[size_flatK,gE]at hj
  have zU:0<k:=by
   rcases Nat.eq_zero_or_pos k with h | h
   ·subst h;simp at hj
   ·exact h
  have hi:j/k<es.length:=by rw[Nat.div_lt_iff_lt_mul zU];exact hj
  have hq:j%k<k:=dW0 _ zU;rw[get_flatK _ _ _ _ (by rw[gE];exact hj)];have zE:j%k<(enc d[j/k]!).length:=by rw[qU];exact hq
  have vZ:=(hd _ hi).2 (j%k) _ (aD0 zE);rw[Nat.mul_comm,Nat.div_add_mod]at vZ;rw[getElem!_pos (enc d[j/k]!) _ zE];exact⟨by simp only[World.cell?,p3,bN0,id];exact vZ,by simp[World.frozen?,p3]⟩
 have hblk:b<w.heap.size:=(aC0.1 p3).1
 have Wk:∀m os (dk:Array α) (cur:Er) (M2:List Nat),(∀q∈M2,q∈M1)->Weak cu0 cur M1 M2 w.heap (sortWorldK enc k w b 0 m dk os).heap 0:=by
  intro m os dk cur M2 hM2;have hW:=Hy (et:=et) (arr:=arr) (k:=k) enc p3 m os dk;exact⟨fun _ _ _ h=>by omega,fun q o hq (_:FY o=true) ho=>by rw[hW.2.1 q (aC0.1 ho).1 (fun h=>hq (h▸hbM))];exact ho,fun q o hq (_:FY o=true) _ hm=>hq (hM2 q hm)⟩
 have hC:CmpLays P g cs' enc k (fun x y:α=>cf (dt x) (dt y)) b 0 d.size w:=by
  intro m os dk _ x y;have hD:=hcmp _ (kJ x) _ (kJ y);have hW:=Hy (et:=et) (arr:=arr) (k:=k) enc p3 m os dk;have hx:=AQ (Wk m os dk (fun _ _=>none) M1 (fun _ h=>h)) _ _ (dF0 (wB _ (kJ x))) (wT x);have hy:=AQ (Wk m os dk (fun _ _=>none) M1 (fun _ h=>h)) _ _ (dF0 (wB _ (kJ y))) (wT y);have hc:=AQ (Wk m os dk (fun _ _=>none) M1 (fun _ h=>h)) _ _ (dF0 kY) mH;obtain⟨X,hX⟩:∃X,X=(enc x).toArray:=⟨_,rfl⟩;obtain⟨Y,hY⟩:∃Y,Y=(enc y).toArray:=⟨_,rfl⟩
  simp only[<-hX,<-hY]
  generalize sortWorldK enc k w b 0 m dk os=V at hW hx hy hc |-
  have key:=hD.2.2 (fun _ _=>none) M1 V (#[.agg X,.agg Y]++cs') (fun q hq=>cG0 (gH q hq) hW.2.2.1);refine(key ?_).mono ?_
  ·have e1:(#[Value.agg X,Value.agg Y]++cs').toList=Value.agg X::Value.agg Y::cs'.toList:=by simp
   rw[e1];simp only[Au];refine⟨_,_,rfl,?_,_,_,rfl,?_,hc⟩
   ·simp only[rd];exact⟨_,rfl,by rw[hX];exact hx⟩
   ·simp only[rd];exact⟨_,rfl,by rw[hY];exact hy⟩
  ·rintro e w' ⟨v,rfl,hu,hv⟩;simp only[rd]at hv;exact⟨by rw[hv.1],uI hu⟩
 have qM:=AnyQ.slices_SortFunc L k (Jk dH) (BE jA) enc qU qD (fun x y:α=>cf (dt x) (dt y)) hO g cs' b 0 cap d w hg hC hH hblk (by omega);rw[gE]at qM;refine qM.mono ?_;rintro e w' ⟨rfl,d',n,os,hP,hS,rfl⟩;obtain⟨jS,_,yP⟩:=hP;rw[gE]at jS;have e1:d'.extract 0 es.length=d':=by rw[<-jS];exact Array.extract_size
 have e2:d.extract 0 es.length=d:=by rw[<-gE];exact Array.extract_size
 rw[e1,e2]at yP
 have hdes:d.toList.map dt=es:=by
  apply List.ext_getElem
  ·simp[gE]
  ·intro i h1 h2;have:=(hd i h2).1;rw[getElem!_pos d i (by omega)]at this;simpa using this
 have nC:d'.toList.map dt=es':=by
  refine fE _ ?_ ?_
  ·have:=yP.map dt
   rwa[hdes]at this
  ·rw[cX0,List.pairwise_iff_getElem];intro i j hi hj yU;have zO:i<d'.size:=by simpa using hi
   have kE:j<d'.size:=by simpa using hj
   have:=hS i j (dB0 _) yU (by omega);rw[getElem!_pos d' j kE,getElem!_pos d' i zO]at this;simpa[ltOf]using this
 have fI:es'.length=es.length:=by rw[<-nC];simp[jS]
 obtain⟨q1,q2,q3,q4,q5,q6,q7⟩:=Hy (et:=et) (arr:=arr) (k:=k) enc p3 n os d';refine⟨rfl,fI,⟨q4,q5,q6,fun _=>q7,q3,fun q hq hn=>q2 q hq (fun h=>hn (by simp[h]))⟩,_,q1,by simp[putCells],fun cur M2 hM2=> ?_⟩;refine FD _ _ _ _ fun i cs0 hi=> ?_
 have fN:i<es'.length:=(aG0.1 hi).1;have hid:i<d'.size:=by omega
 have hcs0:cs0=dt d'[i]! :=by
  rw[<-nC,bM0]at hi;rw[getElem!_pos d' i hid];simp[hid]at hi;exact hi.symm
 subst hcs0;refine⟨hdk _,?_⟩;have hv:=AQ (Wk n os d' cur M2 hM2) _ _ (dF0 (wB _ (kJ _))) (wT d'[i]!);have h0:=Gv _ _ [] [] hv (qD _);refine CJ _ _ _ _ _ (fun p hp=> ?_) h0;have zS:p<k:=by rw[hdk]at hp;exact hp
 rw[bN0,VD qU hid zS (by rw[jS];exact yZ)];simp
end
theorem pG {P:Program} {ρ:Ren} (L:SlLaysF0.n6 P ρ) {f g:FuncId} {et k bs:Nat} {cs:List DVal} {cf:List DVal->List DVal->Int} {es es':List (List DVal)} (hf:ρ.f 6=f) (vH:Enters P f) (dH:tAgg P (ρ.t 24)=some true) (jA:tCells P (ρ.t 24)=some k)
  (hbs0:0<bs) (kY:AH cs=0) (wB:∀x∈es,AH x=0) (hg:Enters P g) (hcmp:∀x∈es,∀y∈es,@Ae KP P g (.agg x:: .agg y::cs) (.int .i64 (cf x y)))
  (hirr:∀x∈es,¬cf x x<0) (htr:∀x∈es,∀y∈es,∀z∈es,cf x y<0->cf y z<0->cf x z<0) (qX:∀x∈es,∀y∈es,∀z∈es,¬cf x y<0->¬cf y z<0->¬cf x z<0)
  (fE:∀l:List (List DVal),l.Perm es->l.Pairwise (fun x y=>¬cf y x<0)->l=es') :
  Bh P (.func f) [.osl 0 0,.fn (.func g) [] cs] [⟨0,0,.row et k bs es⟩] (.tup []) [⟨0,0,.row et k bs es'⟩]:=by
 refine⟨by simp,vH,fun M w loc vs S hr=> ?_⟩;refine⟨vH,?_⟩;simp only[Au]at hr;obtain⟨v0,r0,wF,h0,v1,r1,rfl,h1,rfl⟩:=hr;simp only[rd]at h0 h1;obtain⟨us',cs',rfl,vO,mH⟩:=h1;simp only[Au]at vO;have hus':us'= #[]:=by cases us';simpa using vO
 subst hus';have gQ:Ad [(⟨0,0,.row et k bs es⟩:Ent)] loc 0 0=some (loc 0):=rfl;have kI:=h0 _ gQ;have vB:vs= #[v0,.func (.func g) #[] cs']:=by cases vs;simpa using wF
 subst vB;subst hf;have wQ:Aa [(⟨0,0,.row et k bs es⟩:Ent)] loc=(loc 0).blks:=by simp[Aa]
 have fR:Aa [(⟨0,0,.row et k bs es'⟩:Ent)] loc=(loc 0).blks:=by simp[Aa]
 have jX:∀cur M h,rd cur M h (.tup []) (.tuple #[]):=fun _ _ _=>by simp only[rd];exact⟨#[],rfl,by simp[Au]⟩
 have hk:=S.ok ⟨0,0,.row et k bs es⟩ (by simp)
 by_cases qE:es=[]
 ·subst qE;have hes':es'=[]:=(fE [] (List.Perm.refl _) List.Pairwise.nil).symm;subst hes'
  obtain⟨a,cap,hh⟩:∃a cap,(loc 0).hdr= .slice a 0 cap:=by
   obtain⟨_,⟨_,_,h2⟩ | ⟨b,arr,cap,_,h2,_⟩⟩:=hk
   ·exact⟨_,_,h2⟩
   ·exact⟨_,_,h2⟩
  rw[hh]at kI;subst kI;refine(AnyF.slices_SortFunc_none { L with } a cap (.func (.func g) #[] cs') w).mono ?_;rintro e w' ⟨rfl,rfl⟩;exact⟨_,rfl,loc,S,Upd.refl _ _,fun b hb=> .inl hb,fun e he _=>AG S.nd he,jX _ _ _⟩
 ·obtain⟨b,arr,cap,p1,p2,p3,p4,p5,p6,p7⟩:∃b arr cap,(loc 0).blks=[b]/\(loc 0).hdr= .slice (some ⟨b,0,none⟩) es.length cap/\w.heap[b]? =some (.cells arr et (0,0))/\es.length<=cap/\cap<=maxLen/\cap*k=arr.size/\Em (Ad [(⟨0,0,.row et k bs es⟩:Ent)] loc) (Aa [(⟨0,0,.row et k bs es⟩:Ent)] loc++M) w.heap k es arr 0:=by
   obtain⟨_,⟨h,_⟩ | h⟩:=hk
   ·exact absurd h qE
   ·exact h
  have vX:=hk.1;rw[p2]at kI;subst kI;obtain⟨cu0,hcu0⟩:∃c,c=Ad [(⟨0,0,.row et k bs es⟩:Ent)] loc:=⟨_,rfl⟩;obtain⟨M1,hM1⟩:∃m,m=Aa [(⟨0,0,.row et k bs es⟩:Ent)] loc++M:=⟨_,rfl⟩;rw[<-hcu0,<-hM1]at p7 mH;have hbM:b∈M1:=by rw[hM1,wQ,p1];simp
  have gH:∀q∈M1,q<w.heap.size:=by rw[hM1];exact S.lt
  have yZ:es.length*k<=arr.size:=by rw[<-p6];exact aY0 _ p4
  have zG:0<es.length:=List.length_pos_iff.2 qE
  have hel:∀i:Fin es.length,∃us:List Value,Au cu0 M1 w.heap es[i.1] us/\(∀u∈us,u.oneCell'=true)/\∀(q:Nat) (v:Value),us[q]? =some v->arr[i.1*k+q]? =some v:=by
   intro i;obtain⟨q1,q2⟩:=DZ k es arr 0 i.1 es[i.1] p7 (aD0 i.2);obtain⟨us,g1,g2,g3⟩:=GR _ _ _ q2;refine⟨us,g2,fun u hu=> ?_,fun q v hq=> ?_⟩
   ·obtain⟨j,hj,rfl⟩:=bW0 hu;exact(g3 j _ (aD0 hj)).2
   ·have:=(g3 q v hq).1;simpa using this
  haveI:Inhabited (Fin es.length):=⟨⟨0,zG⟩⟩
  have qV:es.length<4611686018427387904:=by
   have h1:es.length*1<=es.length*bs:=dT0 _ hbs0;have h2:es.length*bs<=150000000000000:=vX;omega
  have hd:∀i (hi:i<es.length),(Array.ofFn (fun i:Fin es.length=>i))[i]! =⟨i,hi⟩:=by
   intro i hi;rw[getElem!_pos _ i (by simpa using hi)];simp
  refine(pH (et:=et) (α:=Fin es.length) L (fun i=>es[i.1]) (fun i=>(hel i).choose) (Array.ofFn fun i=>i) dH jA kY wB (fun i=>bT0 _) (fun i=>(DZ k es arr 0 i.1 es[i.1] p7 (aD0 i.2)).1) (fun i=>(hel i).choose_spec.1) (fun i=>(hel i).choose_spec.2.1) (by simp)
   (fun i hi=>by rw[hd i hi];exact⟨rfl,(hel ⟨i,hi⟩).choose_spec.2.2⟩) p3 yZ hbM gH mH qV hg hcmp hirr htr qX fE).mono ?_
  rintro e w' ⟨rfl,fI,hu,arr',r1,r2,r3⟩;have hM2:Aa [(⟨0,0,.row et k bs es'⟩:Ent)] loc++M=M1:=by rw[hM1,wQ,fR]
  refine⟨_,rfl,loc,⟨by simp,by rw[fR,p1];simp,fun q hq=>S.ap q (by rw[wQ];rwa[fR]at hq),fun q hq=> ?_,?_⟩,by rw[wQ,p1];exact hu,fun q hq=> .inl (by rw[wQ];rwa[fR]at hq),?_,jX _ _ _⟩
  ·rw[hM2]at hq;exact cG0 (gH q hq) hu.size
  ·intro e he;simp only[aE0]at he;subst he;rw[hM2];exact⟨by rw[fI];exact vX,.inr ⟨b,arr',cap,p1,by rw[fI];exact p2,r1,by omega,p5,by omega,r3 _ _ fun _ h=>h⟩⟩
  ·intro e he _;simp only[aE0]at he;subst he;exact gQ
end Go.Dm
end
section
namespace Go.Dm
variable [DMode]
open Go.Shelf Go.Sort Go.Proofs Go.RowKit
def Ge (l:List ByteArray):List ByteArray:=((l.map fun s=>s.data.toList).mergeSort fun x y=>decide (x<=y)).map fun x=>⟨x.toArray⟩
theorem pD (l:List ByteArray):(Ge l).length=l.length:=by simp[Ge]
theorem pO {α:Type} [Inhabited α] (enc:α->Value) {w:World} {b et:Nat} {arr:Array Value} (p3:w.heap[b]? =some (.cells arr et (0,0))) (m:Nat) (os:Array Obj) (dk:Array α) :
  (grow (putRow enc (Sort.ahead w m) b 0 dk) os).heap[b]? =some (.cells (putCells enc 0 dk arr) et (0,0))/\(∀q,q<w.heap.size->q≠b->(grow (putRow enc (Sort.ahead w m) b 0 dk) os).heap[q]? =w.heap[q]?)/\w.heap.size<=(grow (putRow enc (Sort.ahead w m) b 0 dk) os).heap.size /\
   (grow (putRow enc (Sort.ahead w m) b 0 dk) os).os=w.os/\(grow (putRow enc (Sort.ahead w m) b 0 dk) os).tape=w.tape/\(grow (putRow enc (Sort.ahead w m) b 0 dk) os).output=w.output/\w.drawn<=(grow (putRow enc (Sort.ahead w m) b 0 dk) os).drawn:=by
 have hblk:b<w.heap.size:=(aC0.1 p3).1;refine⟨?_,fun q hq hqb=> ?_,?_,rfl,rfl,rfl,Nat.le_add_right _ _⟩
 ·simp only[grow,putRow,mapBlock,Sort.ahead];rw[dL0 (by simpa using hblk),cD0];simp[p3,onCells]
 ·simp only[grow,putRow,mapBlock,Sort.ahead];rw[dL0 (by simpa using hq),cD0];rw[if_neg (fun h=>hqb h.symm)]
 ·simp[grow,putRow,mapBlock,Sort.ahead]
end Go.Dm
end
