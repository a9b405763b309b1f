/- Parts of a proof, laid together: QB1, QB2, QB3, EnY, EnSt. -/
import Derived.Shelf.SlSortCmp.NoneTotal
import Derived.Shelf.SortM.Plain
import Derived.Shelf.SortM.SortNone
import Derived.Shelf.Small.Strs
import Derived.Lib.Builder
import Derived.Test.YtiojapdolljocaaGreatqMx8
import Derived.Test.YtiojapdolljocaaGreatqMx15
set_option linter.unusedSimpArgs false
set_option maxHeartbeats 8000000
set_option linter.unusedVariables false
set_option linter.unusedSectionVars false
section
namespace Go.Proofs.Wy
open Go Go.Dm Tryz
attribute [local irreducible] DW Bs Bt
set_option maxRecDepth 100000
theorem Uc : dB IZ=[.int .u64 0,.int .u64 0,.int .u64 0,.int .u64 0,.int .u64 0,.int .u64 0,.int .u64 0,.int .u64 0,.int .u64 0,.int .u64 0,.int .u64 0,.int .u64 0,.int .u64 0,.int .u64 0,.int .u64 0,.int .u64 0,.int .u64 0,.int .u64 0,.int .u64 0,.int .u64 0,.int .u64 0,.int .u64 0,.int .u64 0,.int .u64 0,.int .u64 0,.int .u64 0,.int .u64 0,.int .u64 0,.int .u64 0,.int .u64 0,.int .u64 0,.int .u64 0,.int .u64 0,.int .u64 0,.int .u64 0,.int .u64 0,.int .u64 0,.int .u64 0,.int .u64 0,.int .u64 0,.int .u64 0,.int .u64 0,.int .u64 0,.int .u64 0,.int .u64 0,.int .u64 0,.int .u64 0,.int .u64 0,.int .u64 0,.int .u64 0,.int .u64 0,.int .u64 0,.int .u64 0,.int .u64 0,.int .u64 0,.int .u64 0,.int .u64 0,.int .u64 0,.int .u64 0,.int .u64 0,.int .u64 0,.int .u64 0,.int .u64 0,.int .u64 0]:=rfl
theorem DC {b:IU} (h:b.length=64):(dB b).take 64=dB b:=cD0 (by simp[dB,h])
@[simp] theorem VP (b:IU):(dB b).length=b.length:=by simp[dB]
@[simp] theorem IR_ {d:DVal} {b:IU}:d∈dB b↔∃y,y∈b/\DVal.int .u64 (y:Int)=d:=by
 simp only[dB,aT0];rfl
@[simp] theorem HP_ (b:IU):AL (dB b)=0:=by
 unfold dB
 induction b with
 | nil=>rfl
 | cons x b ih=>rw[List.map_cons,AL,ih];rfl
@[simp] theorem Io_ (f:Nat->Nat->Option (Nat×Nat)) (b:IU):(dB b).map (Mf f)=dB b:=by
 simp only[dB,bY0];exact cA0 fun x _=>rfl
@[simp] theorem IA_ (i r:Nat) (o:DObj) (b:IU):(dB b).map (Yb i r o)=dB b:=by
 simp only[dB,bY0];exact cA0 fun x _=>rfl
@[simp] theorem Ip_ (b:IU):OW (dB b):=by
 unfold dB
 induction b with
 | nil=>trivial
 | cons x b ih=>exact⟨rfl,ih⟩
@[simp] theorem IE_ (b:IU):wkL (dB b) (dB b):=by
 generalize dB b=l
 induction l with
 | nil=>trivial
 | cons d l ih=>exact⟨.inl rfl,ih⟩
theorem LH {b:IU} {k x:Nat} (h:b[k]? =some x):(dB b).drop k= .int .u64 (x:Int)::(dB b).drop (k+1):=by
 obtain⟨hk,he⟩:=aB0.1 h;unfold dB;rw[aS0 (by simpa using hk)];simp[he,w64]
theorem Cj_ {b:IU} {k:Nat} (x:Nat) (h:k<b.length):(dB b).take k++ .int .u64 (x:Int)::(dB b).drop (k+1)=dB (b.set k x):=by
 unfold dB;rw[eS0,List.set_eq_take_append_cons_drop,if_pos (by simpa using h)];rfl
def tW : Ann:=⟨[],[]⟩
theorem MV (n:Nat) (h:n<64):Ae prog 96 [.int .i64 n] (.bool true):=by
 refine Ac [] tW func96 call96 ntmps96 mxd (Au @tW.eq_1 results96) rfl (fun qJ B qX qQ=> ?_);clear qJ;simp only[Am];have h1:(n:Int)<64:=by omega
 exact Av Ab Ab (AD h1)
def tX : Ann:=⟨[],[]⟩
theorem Bn_ (b:IU) (hb:Tv b) (r c:Nat) (hr:r<64) (hc:c<64):Ae prog 48 [.agg (dB b),.int .i64 r,.int .i64 c] (.tup [.bool (Jm b r c),.int .i64 0]):=by
 refine Ac [] tX func48 call48 ntmps48 mxd (Au @tX.eq_1 results48) rfl (fun qJ B qX qQ=> ?_) (hd:=(by simp[mx,AL]));clear qJ;simp only[Am];have e1:=MV r hr;have e2:=MV c hc;have hl:=hb.1;have kB:r<b.length:=by omega
 have hx:=aE0 kB;obtain⟨x,jJ⟩:∃x,x=b[r]:=⟨_,rfl⟩;have jP:b[r]=x:=jJ.symm;rw[jP]at hx;have bM:x<2 ^ 64:=by rw[jJ];exact hb.2 _ (bW0 _)
 have hg:=HY_ bM hc;have hbit:Jm b r c=x.testBit c:=by unfold Jm;rw[IM kB,jP]
 rw[hbit,<-hg];have h1:(r:Int)<64:=by omega
 have yB:¬(c:Int)<0:=by omega
 have hd:=LH hx;exact Av (Au e1 e2) Ab (Jh h1 hl hd hx yB)
theorem Mr : IZ.length=64:=rfl
theorem QL : (dB IZ).drop 64=[]:=rfl
theorem Gf_ {f:Nat->Nat->Nat} {a b:IU} (h:a.length=b.length) {k:Nat} (hk:k<a.length):(Sx f a b k)[k]? =some a[k]:=by
 rcases Gn_ (f:=f) (b:=b) hk with h1 | h1
 ·rw[h1,aE0 hk]
 ·omega
def ZD : Ann:=⟨[2],[]⟩
theorem Ef_ (a b:IU) (ha:Tv a) (hb:Tv b):Ae prog 135 [.agg (dB a),.agg (dB b)] (.agg (dB (orB a b))):=by
 refine Ac [] ZD func135 call135 ntmps135 mxd (Au @ZD.eq_1 results135) rfl (fun qJ B qX qQ=> ?_);clear qJ;simp only[Am];have la:=ha.1;have lb:=hb.1;have jW:a.length=b.length:=by omega
 have t1:=DC la;have t2:=DC lb;have z:=Uc
 (refine AG Ab Ab (Au la lb) ?_;intros;refine Ah ?_)
 refine Ai (X:={k:Nat//k<=64}) (fun k=>⟨[(2,.bx 2 1 0),(3,.ref (dB b)),(4,.bx 4 1 0),(6,.int .i64 k.1)],[⟨2,1,.box (dB (Sx (· ||| ·) a b k.1))⟩,⟨4,1,.box (dB IZ)⟩]⟩) (fun k=>64-k.1) ⟨0,by omega⟩ (Sub.lit (by simp[Wz,z])) ?_;rintro⟨k,hk⟩;simp only
 by_cases qV:k<64
 ·have hka:k<a.length:=by omega
  have hkb:k<b.length:=by omega
  have hs:=WB (f:=(· ||| ·)) jW hka;have hx:=Gf_ (f:=(· ||| ·)) jW hka;have qU:=UA (f:=(· ||| ·)) jW (k:=k) (by omega);obtain⟨T,hT⟩:∃T,T=Sx (· ||| ·) a b k:=⟨_,rfl⟩;rw[<-hT]at hs hx qU |-;clear hT;obtain⟨x,jJ⟩:∃x,x=a[k]:=⟨_,rfl⟩;obtain⟨y,hye⟩:∃y,y=b[k]:=⟨_,rfl⟩;have bM:x<2 ^ 64:=by rw[jJ];exact ha.2 _ (bW0 _)
  have hyl:y<2 ^ 64:=by rw[hye];exact hb.2 _ (bW0 _)
  have hy:b[k]? =some y:=by rw[aE0 hkb,hye]
  rw[<-jJ]at hx hs;rw[<-hye]at hs;have d1:=LH hx;have d2:=LH hy;have o1:=(HF_ bM hyl).1;have s1:=Cj_ (x ||| y) (show k<T.length by omega);rw[<-hs]at s1;obtain⟨U,hU⟩:∃U,U=Sx (· ||| ·) a b (k+1):=⟨_,rfl⟩;rw[<-hU]at s1;have l1:(k:Int)<64:=by omega
  have wk:IntKind.i64.wrap ((k:Int)+1)=(k:Int)+1:=wq;have wS:T.length=64:=by omega
  (refine AG Ab Ab (KQ l1 d1 d2 o1 s1 lb wS wk) ?_;intros;refine Ah ?_)
  refine Aj.mk ⟨k+1,by omega⟩ (Sub.lit (by simp[<-hU,wk])) (by simp;omega)
  skip
 ·have qZ:k=64:=by omega
  subst qZ;have he:Sx (· ||| ·) a b a.length=orB a b:=oK jW;rw[la]at he;rw[he];have lo:(orB a b).length=64:=(Vc ha hb).1;have t3:=DC lo;have n1:=Mr;have n2:=QL;exact Av Ab Ab (GV t3 lo n1 n2)
theorem AD_ {a b:IU} (ha:Tv a) (hb:Tv b):(OB a b).length=64:=by simp[OB,ha.1,hb.1]
def ZE : Ann:=⟨[2],[]⟩
theorem lQ (a b:IU) (ha:Tv a) (hb:Tv b):Ae prog 134 [.agg (dB a),.agg (dB b)] (.agg (dB (OB a b))):=by
 refine Ac [] ZE func134 call134 ntmps134 mxd (Au @ZE.eq_1 results134) rfl (fun qJ B qX qQ=> ?_);clear qJ;simp only[Am];have la:=ha.1;have lb:=hb.1;have jW:a.length=b.length:=by omega
 have t1:=DC la;have t2:=DC lb;have z:=Uc
 (refine AG Ab Ab (Au la lb) ?_;intros;refine Ah ?_)
 refine Ai (X:={k:Nat//k<=64}) (fun k=>⟨[(2,.bx 2 1 0),(3,.ref (dB b)),(4,.bx 4 1 0),(6,.int .i64 k.1)],[⟨2,1,.box (dB (Sx Nb a b k.1))⟩,⟨4,1,.box (dB IZ)⟩]⟩) (fun k=>64-k.1) ⟨0,by omega⟩ (Sub.lit (by simp[Wz,z])) ?_;rintro⟨k,hk⟩;simp only
 by_cases qV:k<64
 ·have hka:k<a.length:=by omega
  have hkb:k<b.length:=by omega
  have hs:=WB (f:=Nb) jW hka;have hx:=Gf_ (f:=Nb) jW hka;have qU:=UA (f:=Nb) jW (k:=k) (by omega);obtain⟨T,hT⟩:∃T,T=Sx Nb a b k:=⟨_,rfl⟩;rw[<-hT]at hs hx qU |-;clear hT;obtain⟨x,jJ⟩:∃x,x=a[k]:=⟨_,rfl⟩;obtain⟨y,hye⟩:∃y,y=b[k]:=⟨_,rfl⟩;have bM:x<2 ^ 64:=by rw[jJ];exact ha.2 _ (bW0 _)
  have hyl:y<2 ^ 64:=by rw[hye];exact hb.2 _ (bW0 _)
  have hy:b[k]? =some y:=by rw[aE0 hkb,hye]
  rw[<-jJ]at hx hs;rw[<-hye]at hs;have d1:=LH hx;have d2:=LH hy;have o1:MA .u64 (x:Int) (y:Int)=((Nb x y:Nat):Int):=Er_ bM hyl;have s1:=Cj_ (Nb x y) (show k<T.length by omega);rw[<-hs]at s1;obtain⟨U,hU⟩:∃U,U=Sx Nb a b (k+1):=⟨_,rfl⟩;rw[<-hU]at s1;have l1:(k:Int)<64:=by omega
  have wk:IntKind.i64.wrap ((k:Int)+1)=(k:Int)+1:=wq;have wS:T.length=64:=by omega
  (refine AG Ab Ab (KQ l1 d1 d2 o1 s1 lb wS wk) ?_;intros;refine Ah ?_)
  refine Aj.mk ⟨k+1,by omega⟩ (Sub.lit (by simp[<-hU,wk])) (by simp;omega)
  skip
 ·have qZ:k=64:=by omega
  subst qZ;have he:Sx Nb a b a.length=OB a b:=oK jW;rw[la]at he;rw[he];have lo:(OB a b).length=64:=AD_ ha hb;have t3:=DC lo;have n1:=Mr;have n2:=QL;exact Av Ab Ab (GV t3 lo n1 n2)
def HE_ (x:Int):Int:=IntKind.u64.wrap (JO .u64 (Jj .u64 x 1) 6148914691236517205+JO .u64 x 6148914691236517205)
def HD_ (x:Int):Int:=IntKind.u64.wrap (JO .u64 (Jj .u64 x 2) 3689348814741910323+JO .u64 x 3689348814741910323)
def HC_ (x:Int):Int:=JO .u64 (IntKind.u64.wrap (Jj .u64 x 4+x)) 1085102592571150095
def HB_ (x:Int):Int:=IntKind.u64.wrap (x+Jj .u64 x 8)
def HA_ (x:Int):Int:=IntKind.u64.wrap (x+Jj .u64 x 16)
def Hz_ (x:Int):Int:=IntKind.u64.wrap (x+Jj .u64 x 32)
def ET_ (x:Int):Int:=JO .i64 (IntKind.i64.wrap (Hz_ (HA_ (HB_ (HC_ (HD_ (HE_ x))))))) 127
theorem Cw_ : ET_ 0=0:=by decide +kernel
theorem ES_ : ∀c:Nat,c<64->ET_ ((2 ^ c:Nat):Int)=1:=by decide +kernel
def ZB : Ann:=⟨[],[]⟩
theorem Ak_ (x:Int):Ae prog 191 [.int .u64 x] (.int .i64 (ET_ x)):=by
 refine Ac [] ZB func191 call191 ntmps191 mxd (Au @ZB.eq_1 results191) rfl (fun qJ B qX qQ=> ?_);clear qJ;simp only[Am];unfold ET_;obtain⟨x1,h1⟩:∃y,y=HE_ x:=⟨_,rfl⟩;obtain⟨x2,h2⟩:∃y,y=HD_ x1:=⟨_,rfl⟩;obtain⟨x3,h3⟩:∃y,y=HC_ x2:=⟨_,rfl⟩;obtain⟨x4,h4⟩:∃y,y=HB_ x3:=⟨_,rfl⟩;obtain⟨x5,h5⟩:∃y,y=HA_ x4:=⟨_,rfl⟩;obtain⟨x6,h6⟩:∃y,y=Hz_ x5:=⟨_,rfl⟩;rw[<-h1,<-h2,<-h3,<-h4,<-h5,<-h6];have g1:IntKind.u64.wrap (JO .u64 (Jj .u64 x 1) 6148914691236517205+JO .u64 x 6148914691236517205)=x1:=h1.symm
 have g2:IntKind.u64.wrap (JO .u64 (Jj .u64 x1 2) 3689348814741910323+JO .u64 x1 3689348814741910323)=x2:=h2.symm;have g3:JO .u64 (IntKind.u64.wrap (Jj .u64 x2 4+x2)) 1085102592571150095=x3:=h3.symm;have g4:IntKind.u64.wrap (x3+Jj .u64 x3 8)=x4:=h4.symm;have g5:IntKind.u64.wrap (x4+Jj .u64 x4 16)=x5:=h5.symm;have g6:IntKind.u64.wrap (x5+Jj .u64 x5 32)=x6:=h6.symm;clear h1 h2 h3 h4 h5 h6;exact Av Ab Ab (GN g1 g2 g3 g4 g5 g6)
theorem EY_ {r c k:Nat} (hr:r<64) (hk:k<64):(Ev r c)[k]? =some (if r=k then 2 ^ c else 0):=by
 unfold Ev;rw[List.getElem?_set]
 by_cases h:r=k
 ·subst h;rw[if_pos rfl,if_pos rfl,if_pos (by rw[Mr];exact hr)]
 ·rw[if_neg h,if_neg h];unfold IZ;rw[dR0,if_pos hk]
def ZC : Ann:=⟨[],[]⟩
theorem Eh_ (r c:Nat) (hr:r<64) (hc:c<64):Ae prog 133 [.agg (dB (Ev r c))] (.int .i64 1):=by
 refine Ac [] ZC func133 call133 ntmps133 mxd (Au @ZC.eq_1 results133) rfl (fun qJ B qX qQ=> ?_);clear qJ;simp only[Am];have lo:=(Mn (r:=r) hc).1;have t1:=DC lo;obtain⟨W,hW⟩:∃W,W=Ev r c:=⟨_,rfl⟩;rw[<-hW]at lo t1 |-
 (refine AG Ab Ab (Au lo t1) ?_;intros;refine Ah ?_)
 refine Ai (X:={k:Nat//k<=64}) (fun k=>⟨[(3,.int .i64 (if r<k.1 then 1 else 0)),(6,.agg (dB W)),(7,.int .i64 k.1)],[]⟩) (fun k=>64-k.1) ⟨0,by omega⟩ (Sub.lit (by simp)) ?_;rintro⟨k,hk⟩;simp only
 by_cases qV:k<64
 ·have hx:=EY_ (c:=c) hr qV;rw[<-hW]at hx;have d1:=LH hx;have e1:=Ak_ ((if r=k then 2 ^ c else 0:Nat):Int);have l1:(k:Int)<64:=by omega
  have wk:IntKind.i64.wrap ((k:Int)+1)=(k:Int)+1:=wq;have wR:k<W.length:=by omega
  by_cases hrk:r=k
  ·subst hrk;simp only[if_true]at d1 e1;rw[ES_ c hc]at e1;obtain⟨x,jP⟩:∃x:Nat,x=2 ^ c:=⟨_,rfl⟩;rw[<-jP]at d1 e1;have n1:¬r<r:=by omega
   have n2:r<r+1:=by omega
   (refine AG (AD e1) Ab (GN l1 d1 lo wR wk n1) ?_;intros;refine Ah ?_)
   refine Aj.mk ⟨r+1,by omega⟩ (Sub.lit (by simp[n2,wk])) (by simp;omega)
   skip
  ·rw[if_neg hrk]at d1 e1
   have e1':Ae prog 191 [.int .u64 0] (.int .i64 0):=by
    have:=e1;simp only[Int.natCast_zero,Int.cast_ofNat_Int,Cw_]at this;exact this
   by_cases bE:r<k
   ·have n2:r<k+1:=by omega
    (refine AG (AD e1') Ab (GN l1 d1 lo wR wk bE) ?_;intros;refine Ah ?_)
    refine Aj.mk ⟨k+1,by omega⟩ (Sub.lit (by simp[n2,wk])) (by simp;omega)
    skip
   ·have n2:¬r<k+1:=by omega
    (refine AG (AD e1') Ab (GN l1 d1 lo wR wk bE) ?_;intros;refine Ah ?_)
    refine Aj.mk ⟨k+1,by omega⟩ (Sub.lit (by simp[n2,wk])) (by simp;omega)
    skip
 ·have qZ:k=64:=by omega
  subst qZ;exact Av Ab Ab (AD hr)
def tV : Ann:=⟨[],[⟨4,[6],[],[]⟩]⟩
theorem FP_ (r c:Nat) (hr:r<64) (wU:c<64):Ae prog 92 [.sl 2 16 [[.int .i64 r,.int .i64 c]]] (.tup [.agg (dB (Ev r c)),.int .i64 0]):=by
 refine Ac [] tV func92 call92 ntmps92 mxd (Au @tV.eq_1 results92) rfl (fun qJ B qX qQ=> ?_) (hd:=(by simp[mx,AL]));clear qJ;simp only[Am];have z:=Uc;have n1:=Mr;have n2:=QL;have lo:=(Mn (r:=r) wU).1;have t1:=DC lo
 (refine AG Ab Ab Ab ?_;intros;refine Ah ?_)
 refine Ai (X:={k:Nat//k<=1}) (fun k=>⟨[(2,.bx 2 1 0),(4,.bx 4 1 0),(7,.sl 2 16 [[.int .i64 r,.int .i64 c]]),(8,.int .i64 1),(9,.int .i64 k.1)],[⟨2,1,.box (dB IZ)⟩,⟨4,1,.box (dB (if k.1=0 then IZ else Ev r c))⟩]⟩) (fun k=>1-k.1) ⟨0,by omega⟩ (Sub.lit (by simp[z])) ?_;rintro⟨k,hk⟩;simp only
 match k,hk with
 | 0,_ =>
  have e1:=MV r hr;have e2:=MV c wU;have hx:IZ[r]? =some 0:=by unfold IZ;rw[dR0,if_pos hr]
  have d1:=LH hx;have o1:=(HF_ (x:=0) (y:=2 ^ c) (by decide) (Nat.pow_lt_pow_right (by omega) wU)).1;have s1:=Cj_ (b:=IZ) (2 ^ c) (show r<IZ.length by rw[n1];exact hr);have s2:IZ.set r (2 ^ c)=Ev r c:=rfl;rw[s2]at s1;have h1:=EP_ wU;rw[Nat.zero_or]at o1;obtain⟨x,jP⟩:∃x:Nat,x=2 ^ c:=⟨_,rfl⟩;rw[<-jP]at h1 o1 s1;simp only[Int.natCast_zero,Int.cast_ofNat_Int]at o1 d1
  have hgx:(dB IZ)[r]'(by rw[VP,n1];exact hr)= .int .u64 0:=by
   have h5:=aS0 (l:=dB IZ) (i:=r) (by rw[VP,n1];exact hr);rw[d1]at h5;exact(List.cons.inj h5).1.symm
  have l1:(r:Int)<64:=by omega
  have yB:¬(c:Int)<0:=by omega
  (refine AG (Au e1 e2) Ab (Ut l1 d1 o1 s1 h1 n1 yB hr hgx) ?_;intros;refine Ah ?_)
  refine Aj.mk ⟨1,by omega⟩ (Sub.lit (by simp)) (by simp)
  skip
 | 1,_ =>
  have i1:(if 1=0 then IZ else Ev r c)=Ev r c:=rfl;rw[i1];exact Av Ab Ab (GV t1 lo n1 n2)
end Go.Proofs.Wy
end
section
namespace Go.Dm
variable [DMode]
open Go.Shelf Go.Sort Go.Proofs
theorem BT_ {w w':World} (h: @Upd LR [] w w'):∃q os,w'=grow (w.drewN q) os:=by
 refine⟨w'.drawn-w.drawn,w'.heap.extract w.heap.size w'.heap.size,?_⟩;obtain⟨heap,tape,drawn,os,output⟩:=w';obtain⟨h1,h2,h3,h4,h5,h6⟩:=h;simp only at h1 h2 h3 h4 h5 h6 |-
 replace h4:=h4 rfl
 subst h1;subst h2;subst h3
 have e1:w.heap++heap.extract w.heap.size heap.size=heap:=by
  apply Array.ext_getElem?
  intro i
  by_cases hi:i<w.heap.size
  ·rw[dN0 hi,<-h6 i hi (by simp)]
  ·rw[Array.getElem?_append_right (by omega),Array.getElem?_extract]
   by_cases hi2:i<heap.size
   ·rw[if_pos (by omega)]
    congr 1
    omega
   ·rw[if_neg (by omega),Array.getElem?_eq_none (by omega)]
 have e2:w.drawn+(drawn-w.drawn)=drawn:=by omega
 simp[grow,World.drewN,e1,e2]
section
variable {P : Program} {ρ : Ren} {g : FuncId} {et k cap b : Nat} {cs : List DVal} {cs' : Array Value} {cf : List DVal -> List DVal -> Int} {es es' : List (List DVal)} {cu0 : ER} {M1 : List Nat} {w : World} {arr : Array Value}
theorem Iz {α:Type} [Inhabited α] (enc:α->List Value) (p3:w.heap[b]? =some (.cells arr et (0,0))) (m:Nat) (os:Array Obj) (dk:Array α) :
  (sortWorldK enc k w b 0 m dk os).heap[b]? =some (.cells (putCells id 0 (flatK enc k dk) arr) et (0,0))/\(∀q,q<w.heap.size->q≠b->(sortWorldK enc k w b 0 m dk os).heap[q]? =w.heap[q]?)/\w.heap.size<=(sortWorldK enc k w b 0 m dk os).heap.size /\
   (sortWorldK enc k w b 0 m dk os).os=w.os/\(sortWorldK enc k w b 0 m dk os).tape=w.tape/\(sortWorldK enc k w b 0 m dk os).output=w.output/\w.drawn<=(sortWorldK enc k w b 0 m dk os).drawn:=by
 have hblk:b<w.heap.size:=(aD0.1 p3).1;refine⟨?_,fun q hq hqb=> ?_,?_,rfl,rfl,rfl,Nat.le_add_right _ _⟩
 ·simp only[sortWorldK,grow,putRowK,putRow,mapBlock,ahead];rw[dN0 (by simpa using hblk),cG0];simp[p3,onCells]
 ·simp only[sortWorldK,grow,putRowK,putRow,mapBlock,ahead];rw[dN0 (by simpa using hq),cG0];rw[if_neg (fun h=>hqb h.symm)];rfl
 ·simp[sortWorldK,grow,putRowK,putRow,mapBlock,ahead]
theorem Xf {α:Type} [Inhabited α] {enc:α->List Value} (qU:∀x,(enc x).length=k) {dk:Array α} {i p:Nat} (hi:i<dk.size) (hp:p<k) (qP:dk.size*k<=arr.size) :
  (putCells id 0 (flatK enc k dk) arr)[i*k+p]? =(enc dk[i]!)[p]? :=by
 have qK:=Ds (k:=k) hi;have qV:i*k+p<arr.size:=by omega
 have hdiv:(i*k+p)/k=i:=by
  rw[Nat.mul_comm,Nat.mul_add_div (by omega),Nat.div_eq_of_lt hp];omega
 have hmod:(i*k+p)%k=p:=by rw[Nat.mul_comm,Nat.mul_add_mod];exact eJ0 hp
 have hlf:i*k+p<dk.size*k:=by omega
 have fB:p<(enc dk[i]!).length:=by rw[qU];exact hp
 simp only[putCells,bR0,Array.getElem?_mapIdx,cB0 qV,dL0,dC0,true_and,size_flatK,hlf,if_true,eC0,id];rw[get_flatK _ _ _ _ hlf,hdiv,hmod,getElem!_pos (enc dk[i]!) p fB,aE0 fB]
theorem xN {α:Type} [Inhabited α] (L:SlLaysF0.n6 P ρ) (dt:α->List DVal) (enc:α->List Value) (d:Array α) (nQ:tAgg P (ρ.t 24)=some true) (bT:tCells P (ρ.t 24)=some k) (jQ:AL cs=0) (wP:∀x∈es,AL x=0)
  (kT:∀x,dt x∈es) (hdk:∀x,(dt x).length=k) (vV:∀x,Az cu0 M1 w.heap (dt x) (enc x)) (qC:∀x,∀u∈enc x,u.oneCell'=true) (bR:d.size=es.length)
  (hd:∀i (hi:i<es.length),dt d[i]! =es[i]/\∀(q:Nat) (v:Value),(enc d[i]!)[q]? =some v->arr[i*k+q]? =some v)
  (p3:w.heap[b]? =some (.cells arr et (0,0))) (yS:es.length*k<=arr.size) (hbM:b∈M1) (cV:∀q∈M1,q<w.heap.size) (nS:Az cu0 M1 w.heap cs cs'.toList) (qV:es.length<4611686018427387904)
  (hg:Enters P g) (hcmp:∀x∈es,∀y∈es,@Ae LR P g (.agg x:: .agg y::cs) (.int .i64 (cf x y)))
  (hirr:∀x∈es,¬cf x x<0) (kM:∀x∈es,∀y∈es,∀z∈es,cf x y<0->cf y z<0->cf x z<0) (qX:∀x∈es,∀y∈es,∀z∈es,¬cf x y<0->¬cf y z<0->¬cf x z<0)
  (gF:∀l:List (List DVal),l.Perm es->l.Pairwise (fun x y=>¬cf y x<0)->l=es') :
  Calls P (ρ.f 6) #[.slice (some ⟨b,0,none⟩) es.length cap,.func (.func g) #[] cs'] w fun e w'=>e= .returned (.tuple #[])/\es'.length=es.length/\Upd [b] w w' /\
   ∃arr',w'.heap[b]? =some (.cells arr' et (0,0))/\arr'.size=arr.size/\∀cur M2,(∀q∈M2,q∈M1)->EL cur M2 w'.heap k es' arr' 0:=by
 have qU:∀x:α,(enc x).length=k:=fun x=>by
  have:=Aw _ _ (vV x);have:=hdk x;omega
 have hO:SWO (ltOf fun x y:α=>cf (dt x) (dt y)):=by
  refine⟨fun x=> ?_,fun x y z h1 h2=> ?_,fun x y z h1 h2=> ?_⟩
  ·simp only[ltOf,decide_eq_false_iff_not];exact hirr _ (kT x)
  ·simp only[ltOf,decide_eq_true_eq]at *;exact kM _ (kT x) _ (kT y) _ (kT z) h1 h2
  ·simp only[ltOf,decide_eq_false_iff_not]at *;exact qX _ (kT x) _ (kT y) _ (kT z) h1 h2
 have hH:HoldsK enc k w b 0 d:=by
  intro j hj;rw[size_flatK,bR]at hj
  have zB:0<k:=by
   rcases eP0 k with h | h
   ·subst h;simp at hj
   ·exact h
  have hi:j/k<es.length:=by rw[Nat.div_lt_iff_lt_mul zB];exact hj
  have hq:j%k<k:=eF0 _ zB;rw[get_flatK _ _ _ _ (by rw[bR];exact hj)];have vY:j%k<(enc d[j/k]!).length:=by rw[qU];exact hq
  have vB:=(hd _ hi).2 (j%k) _ (aE0 vY);rw[Nat.mul_comm,Nat.div_add_mod]at vB;rw[getElem!_pos (enc d[j/k]!) _ vY];exact⟨by simp only[World.cell?,p3,bR0,id];exact vB,by simp[World.frozen?,p3]⟩
 have hblk:b<w.heap.size:=(aD0.1 p3).1
 have Wk:∀m os (dk:Array α) (cur:ER) (M2:List Nat),(∀q∈M2,q∈M1)->Weak cu0 cur M1 M2 w.heap (sortWorldK enc k w b 0 m dk os).heap 0:=by
  intro m os dk cur M2 hM2;have hW:=Iz (et:=et) (arr:=arr) (k:=k) enc p3 m os dk;exact⟨fun _ _ _ h=>by omega,fun q o hq (_:GM o=true) ho=>by rw[hW.2.1 q (aD0.1 ho).1 (fun h=>hq (h▸hbM))];exact ho,fun q o hq (_:GM o=true) _ hm=>hq (hM2 q hm)⟩
 have hC:CmpLays P g cs' enc k (fun x y:α=>cf (dt x) (dt y)) b 0 d.size w:=by
  intro m os dk _ x y;have hD:=hcmp _ (kT x) _ (kT y);have hW:=Iz (et:=et) (arr:=arr) (k:=k) enc p3 m os dk;have hx:=AY (Wk m os dk (fun _ _=>none) M1 (fun _ h=>h)) _ _ (dH0 (wP _ (kT x))) (vV x);have hy:=AY (Wk m os dk (fun _ _=>none) M1 (fun _ h=>h)) _ _ (dH0 (wP _ (kT y))) (vV y);have hc:=AY (Wk m os dk (fun _ _=>none) M1 (fun _ h=>h)) _ _ (dH0 jQ) nS;obtain⟨X,hX⟩:∃X,X=(enc x).toArray:=⟨_,rfl⟩;obtain⟨Y,hY⟩:∃Y,Y=(enc y).toArray:=⟨_,rfl⟩
  simp only[<-hX,<-hY]
  generalize sortWorldK enc k w b 0 m dk os=V at hW hx hy hc |-
  have key:=hD.2.2 (fun _ _=>none) M1 V (#[.agg X,.agg Y]++cs') (fun q hq=>cJ0 (cV q hq) hW.2.2.1);refine(key ?_).mono ?_
  ·have e1:(#[Value.agg X,Value.agg Y]++cs').toList=Value.agg X::Value.agg Y::cs'.toList:=by simp
   rw[e1];simp only[Az];refine⟨_,_,rfl,?_,_,_,rfl,?_,hc⟩
   ·simp only[rd];exact⟨_,rfl,by rw[hX];exact hx⟩
   ·simp only[rd];exact⟨_,rfl,by rw[hY];exact hy⟩
  ·rintro e w' ⟨v,rfl,hu,hv⟩;simp only[rd]at hv;exact⟨by rw[hv.1],BT_ hu⟩
 have qB:=AnyQ.slices_SortFunc L k (Ko nQ) (BK bT) enc qU qC (fun x y:α=>cf (dt x) (dt y)) hO g cs' b 0 cap d w hg hC hH hblk (by omega);rw[bR]at qB;refine qB.mono ?_;rintro e w' ⟨rfl,d',n,os,hP,hS,rfl⟩;obtain⟨fS,_,kI⟩:=hP;rw[bR]at fS;have e1:d'.extract 0 es.length=d':=by rw[<-fS];exact Array.extract_size
 have e2:d.extract 0 es.length=d:=by rw[<-bR];exact Array.extract_size
 rw[e1,e2]at kI
 have hdes:d.toList.map dt=es:=by
  apply List.ext_getElem
  ·simp[bR]
  ·intro i h1 h2;have:=(hd i h2).1;rw[getElem!_pos d i (by omega)]at this;simpa using this
 have rX:d'.toList.map dt=es':=by
  refine gF _ ?_ ?_
  ·have:=kI.map dt
   rwa[hdes]at this
  ·rw[cX0,List.pairwise_iff_getElem];intro i j hi hj yP;have zC:i<d'.size:=by simpa using hi
   have jG:j<d'.size:=by simpa using hj
   have:=hS i j (dC0 _) yP (by omega);rw[getElem!_pos d' j jG,getElem!_pos d' i zC]at this;simpa[ltOf]using this
 have bJ:es'.length=es.length:=by rw[<-rX];simp[fS]
 obtain⟨q1,q2,q3,q4,q5,q6,q7⟩:=Iz (et:=et) (arr:=arr) (k:=k) enc p3 n os d';refine⟨rfl,bJ,⟨q4,q5,q6,fun _=>q7,q3,fun q hq hn=>q2 q hq (fun h=>hn (by simp[h]))⟩,_,q1,by simp[putCells],fun cur M2 hM2=> ?_⟩;refine Gn _ _ _ _ fun i cs0 hi=> ?_
 have gG:i<es'.length:=(aB0.1 hi).1;have hid:i<d'.size:=by omega
 have hcs0:cs0=dt d'[i]! :=by
  rw[<-rX,bK0]at hi;rw[getElem!_pos d' i hid];simp[hid]at hi;exact hi.symm
 subst hcs0;refine⟨hdk _,?_⟩;have hv:=AY (Wk n os d' cur M2 hM2) _ _ (dH0 (wP _ (kT _))) (vV d'[i]!);have h0:=Hs _ _ [] [] hv (qC _);refine CU _ _ _ _ _ (fun p hp=> ?_) h0;have yE:p<k:=by rw[hdk]at hp;exact hp
 rw[bR0,Xf qU hid yE (by rw[fS];exact yS)];simp
end
theorem xM {P:Program} {ρ:Ren} (L:SlLaysF0.n6 P ρ) {f g:FuncId} {et k bs:Nat} {cs:List DVal} {cf:List DVal->List DVal->Int} {es es':List (List DVal)} (hf:ρ.f 6=f) (vG:Enters P f) (nQ:tAgg P (ρ.t 24)=some true) (bT:tCells P (ρ.t 24)=some k)
  (hbs0:0<bs) (jQ:AL cs=0) (wP:∀x∈es,AL x=0) (hg:Enters P g) (hcmp:∀x∈es,∀y∈es,@Ae LR P g (.agg x:: .agg y::cs) (.int .i64 (cf x y)))
  (hirr:∀x∈es,¬cf x x<0) (kM:∀x∈es,∀y∈es,∀z∈es,cf x y<0->cf y z<0->cf x z<0) (qX:∀x∈es,∀y∈es,∀z∈es,¬cf x y<0->¬cf y z<0->¬cf x z<0)
  (gF:∀l:List (List DVal),l.Perm es->l.Pairwise (fun x y=>¬cf y x<0)->l=es') :
  Bn P (.func f) [.osl 0 0,.fn (.func g) [] cs] [⟨0,0,.row et k bs es⟩] (.tup []) [⟨0,0,.row et k bs es'⟩]:=by
 refine⟨by simp,vG,fun M w loc vs S hr=> ?_⟩;refine⟨vG,?_⟩;simp only[Az]at hr;obtain⟨v0,r0,vX,h0,v1,r1,rfl,h1,rfl⟩:=hr;simp only[rd]at h0 h1;obtain⟨us',cs',rfl,vE,nS⟩:=h1;simp only[Az]at vE;have hus':us'= #[]:=by cases us';simpa using vE
 subst hus';have bZ:Ad [(⟨0,0,.row et k bs es⟩:Ent)] loc 0 0=some (loc 0):=rfl;have jF:=h0 _ bZ;have vT:vs= #[v0,.func (.func g) #[] cs']:=by cases vs;simpa using vX
 subst vT;subst hf;have wN:Aa [(⟨0,0,.row et k bs es⟩:Ent)] loc=(loc 0).blks:=by simp[Aa]
 have bU:Aa [(⟨0,0,.row et k bs es'⟩:Ent)] loc=(loc 0).blks:=by simp[Aa]
 have jS:∀cur M h,rd cur M h (.tup []) (.tuple #[]):=fun _ _ _=>by simp only[rd];exact⟨#[],rfl,by simp[Az]⟩
 have hk:=S.ok ⟨0,0,.row et k bs es⟩ (by simp)
 by_cases qF:es=[]
 ·subst qF;have hes':es'=[]:=(gF [] (List.Perm.refl _) List.Pairwise.nil).symm;subst hes'
  obtain⟨a,cap,hh⟩:∃a cap,(loc 0).hdr= .slice a 0 cap:=by
   obtain⟨_,⟨_,_,h2⟩ | ⟨b,arr,cap,_,h2,_⟩⟩:=hk
   ·exact⟨_,_,h2⟩
   ·exact⟨_,_,h2⟩
  rw[hh]at jF;subst jF;refine(AnyF.slices_SortFunc_none { L with } a cap (.func (.func g) #[] cs') w).mono ?_;rintro e w' ⟨rfl,rfl⟩;exact⟨_,rfl,loc,S,Upd.refl _ _,fun b hb=> .inl hb,fun e he _=>AK S.nd he,jS _ _ _⟩
 ·obtain⟨b,arr,cap,p1,p2,p3,p4,p5,p6,p7⟩:∃b arr cap,(loc 0).blks=[b]/\(loc 0).hdr= .slice (some ⟨b,0,none⟩) es.length cap/\w.heap[b]? =some (.cells arr et (0,0))/\es.length<=cap/\cap<=maxLen/\cap*k=arr.size/\EL (Ad [(⟨0,0,.row et k bs es⟩:Ent)] loc) (Aa [(⟨0,0,.row et k bs es⟩:Ent)] loc++M) w.heap k es arr 0:=by
   obtain⟨_,⟨h,_⟩ | h⟩:=hk
   ·exact absurd h qF
   ·exact h
  have wT:=hk.1;rw[p2]at jF;subst jF;obtain⟨cu0,hcu0⟩:∃c,c=Ad [(⟨0,0,.row et k bs es⟩:Ent)] loc:=⟨_,rfl⟩;obtain⟨M1,hM1⟩:∃m,m=Aa [(⟨0,0,.row et k bs es⟩:Ent)] loc++M:=⟨_,rfl⟩;rw[<-hcu0,<-hM1]at p7 nS;have hbM:b∈M1:=by rw[hM1,wN,p1];simp
  have cV:∀q∈M1,q<w.heap.size:=by rw[hM1];exact S.lt
  have yS:es.length*k<=arr.size:=by rw[<-p6];exact aX0 _ p4
  have zR:0<es.length:=List.length_pos_iff.2 qF
  have hel:∀i:Fin es.length,∃us:List Value,Az cu0 M1 w.heap es[i.1] us/\(∀u∈us,u.oneCell'=true)/\∀(q:Nat) (v:Value),us[q]? =some v->arr[i.1*k+q]? =some v:=by
   intro i;obtain⟨q1,q2⟩:=Eu k es arr 0 i.1 es[i.1] p7 (aE0 i.2);obtain⟨us,g1,g2,g3⟩:=HQ _ _ _ q2;refine⟨us,g2,fun u hu=> ?_,fun q v hq=> ?_⟩
   ·obtain⟨j,hj,rfl⟩:=bX0 hu;exact(g3 j _ (aE0 hj)).2
   ·have:=(g3 q v hq).1;simpa using this
  haveI:Inhabited (Fin es.length):=⟨⟨0,zR⟩⟩
  have qV:es.length<4611686018427387904:=by
   have h1:es.length*1<=es.length*bs:=dM0 _ hbs0;have h2:es.length*bs<=150000000000000:=wT;omega
  have hd:∀i (hi:i<es.length),(Array.ofFn (fun i:Fin es.length=>i))[i]! =⟨i,hi⟩:=by
   intro i hi;rw[getElem!_pos _ i (by simpa using hi)];simp
  refine(xN (et:=et) (α:=Fin es.length) L (fun i=>es[i.1]) (fun i=>(hel i).choose) (Array.ofFn fun i=>i) nQ bT jQ wP (fun i=>bW0 _) (fun i=>(Eu k es arr 0 i.1 es[i.1] p7 (aE0 i.2)).1) (fun i=>(hel i).choose_spec.1) (fun i=>(hel i).choose_spec.2.1) (by simp)
   (fun i hi=>by rw[hd i hi];exact⟨rfl,(hel ⟨i,hi⟩).choose_spec.2.2⟩) p3 yS hbM cV nS qV hg hcmp hirr kM qX gF).mono ?_
  rintro e w' ⟨rfl,bJ,hu,arr',r1,r2,r3⟩;have hM2:Aa [(⟨0,0,.row et k bs es'⟩:Ent)] loc++M=M1:=by rw[hM1,wN,bU]
  refine⟨_,rfl,loc,⟨by simp,by rw[bU,p1];simp,fun q hq=>S.ap q (by rw[wN];rwa[bU]at hq),fun q hq=> ?_,?_⟩,by rw[wN,p1];exact hu,fun q hq=> .inl (by rw[wN];rwa[bU]at hq),?_,jS _ _ _⟩
  ·rw[hM2]at hq;exact cJ0 (cV q hq) hu.size
  ·intro e he;simp only[aF0]at he;subst he;rw[hM2];exact⟨by rw[bJ];exact wT,.inr ⟨b,arr',cap,p1,by rw[bJ];exact p2,r1,by omega,p5,by omega,r3 _ _ fun _ h=>h⟩⟩
  ·intro e he _;simp only[aF0]at he;subst he;exact bZ
end Go.Dm
end
section
namespace Go.Dm
variable [DMode]
open Go.Shelf Go.Sort Go.Proofs Go.RowKit
def GW (l:List ByteArray):List ByteArray:=((l.map fun s=>s.data.toList).mergeSort fun x y=>decide (x<=y)).map fun x=>⟨x.toArray⟩
theorem xK (l:List ByteArray):(GW l).length=l.length:=by simp[GW]
theorem xY {α:Type} [Inhabited α] (enc:α->Value) {w:World} {b et:Nat} {arr:Array Value} (p3:w.heap[b]? =some (.cells arr et (0,0))) (m:Nat) (os:Array Obj) (dk:Array α) :
  (grow (putRow enc (Sort.ahead w m) b 0 dk) os).heap[b]? =some (.cells (putCells enc 0 dk arr) et (0,0))/\(∀q,q<w.heap.size->q≠b->(grow (putRow enc (Sort.ahead w m) b 0 dk) os).heap[q]? =w.heap[q]?)/\w.heap.size<=(grow (putRow enc (Sort.ahead w m) b 0 dk) os).heap.size /\
   (grow (putRow enc (Sort.ahead w m) b 0 dk) os).os=w.os/\(grow (putRow enc (Sort.ahead w m) b 0 dk) os).tape=w.tape/\(grow (putRow enc (Sort.ahead w m) b 0 dk) os).output=w.output/\w.drawn<=(grow (putRow enc (Sort.ahead w m) b 0 dk) os).drawn:=by
 have hblk:b<w.heap.size:=(aD0.1 p3).1;refine⟨?_,fun q hq hqb=> ?_,?_,rfl,rfl,rfl,Nat.le_add_right _ _⟩
 ·simp only[grow,putRow,mapBlock,Sort.ahead];rw[dN0 (by simpa using hblk),cG0];simp[p3,onCells]
 ·simp only[grow,putRow,mapBlock,Sort.ahead];rw[dN0 (by simpa using hq),cG0];rw[if_neg (fun h=>hqb h.symm)]
 ·simp[grow,putRow,mapBlock,Sort.ahead]
end Go.Dm
end
