/- Parts of a proof, laid together: CF1, W18, W100, WS, W58, W29, CF2, W88, W90, W43, W94, W25, WF, W57, W26, W19, W14, W81, W13, W45, W7, W23, W9, W89, W91, W50, W21, W93, W52. -/
import Derived.Test.YtchgnpnbcjflcaaGreatqCt4
import Derived.Test.YtchgnpnbcjflcaaGreatqCt5
import Derived.Test.YtchgnpnbcjflcaaGreatqCt6
import Derived.Test.YtchgnpnbcjflcaaGreatqCt10
set_option linter.unusedSimpArgs false
set_option linter.unusedVariables false
set_option linter.unusedSectionVars false
section
namespace Go.Proofs.YtchgnpnbcjflcaaGreat
open Go Go.Dm
attribute [local irreducible] DW Bj_ Bp_
set_option maxRecDepth 100000
theorem Nn_ {α:Type} (f g:α→List DVal) (h:∀x,wkA (f x) (g x)):∀l:List α,Ez_ (l.map f) (l.map g)
 | []=>by simp[Ez_]
 | x::l=>by
  rw[List.map_cons,List.map_cons];exact⟨h x,Nn_ f g h l⟩
def dF (xs:List Auto) (q:Int):List DVal:=[.int .i64 (ownQ xs q.toNat:Int),.nilsl]
theorem dF_wk (xs:List Auto) (q:Int):wkA (dF xs q) (Ad_ (pF xs q)):=by simp[dF,Ad_,pF,AR_,wkA,wk,wk1,isE]
@[simp] theorem mx_dF (xs:List Auto) (q:Int):mxL (dF xs q)=0:=by simp[dF,mxL,mx]
@[simp] theorem mx_dFs (xs:List Auto) (l:List Int):mxR (l.map (dF xs))=0:=mxR0 _ (mx_dF xs) l
theorem bnd_p {a b:Nat} (h1:a≤1040) (h2:b≤17179870208):(a+b+1)*32≤150000000000000:=by omega
theorem Vs_ (l:List Nat) (k v:Nat):(l.map natD).set k [.int .i64 (v:Int)]=(l.set k v).map natD:=by rw[eI0];rfl
def Mk_ (xs:List Auto) (l:List Int):List (List DVal):=l.map (dF xs)
def prF (xs:List Auto) (l:List Int):List Prod:=l.map (pF xs)
def prA (xs:List Auto) (l:List Arc):List Prod:=l.map (pA xs)
theorem prA_next {xs:List Auto} {z:List Arc} {k:Nat} {x:Arc} (h:z[k]? =some x):prA xs (z.take (k+1))=prA xs (z.take k)++[pA xs x]:=by unfold prA;rw[bF0,h,aX0];rfl
theorem finP_next {xs:List Auto} {l:List Int} {k:Nat} {q:Int} (h:l[k]? =some q):Mk_ xs (l.take (k+1))=Mk_ xs (l.take k)++[[.int .i64 (ownQ xs q.toNat:Int),.nilsl]]:=by unfold Mk_;rw[bF0,h,aX0];rfl
theorem finP_mx (xs:List Auto) (l:List Int):mxR (Mk_ xs l)=0:=mx_dFs xs l
theorem Ua_ {xs:List Auto} (h:∀a∈xs,SmA a) {q:Int} (hq:q∈finA xs):0≤q∧q.toNat<sumS xs:=by
 unfold finA at hq;obtain⟨p,hp,hq⟩:=bR0.1 hq;obtain⟨r,hr,rfl⟩:=aV0.1 hq;have h1:=OQ_ hp;have h2:=ok_fin (h _ (EY_ hp).1).ok hr;unfold mvF;omega
theorem Ut_ {xs:List Auto} (h:∀a∈xs,SmA a) {x:Arc} (hx:x∈arcA xs):0≤x.fr∧x.fr.toNat<sumS xs∧0≤x.to∧x.to.toNat<sumS xs:=by
 unfold arcA at hx;obtain⟨p,hp,hx⟩:=bR0.1 hx;obtain⟨y,hy,rfl⟩:=aV0.1 hx;have h1:=OQ_ hp;have h2:=ok_arc (h _ (EY_ hp).1).ok hy;unfold mvA;simp only;omega
def anCF111 : Ann:=⟨[],[⟨22,[12],[],[]⟩]⟩
set_option maxHeartbeats 8000000 in
theorem Sy_ (H L:List ByteArray) (xs:List Auto) (hsm:∀a∈xs,SmA a) (hl:xs.length≤16) (hH:H.length=xs.length) (hne:1≤sumS xs):Ac_ Tryz.prog 11 [Dy_ H L xs] (.tup [.agg (dCnf (Br_ (cnfM xs))),.int .i64 0]):=by
 refine Aa_ [2] anCF111 Tryz.func11 Tryz.call11 Tryz.ntmps11 mxd (aj2 @anCF111.eq_1 Tryz.results11) rfl (by simp) (by simp[mx,mxL,dCnf]) fun hwf B hnt hgAnn=> ?_
 clear hwf;simp only[argS];have hst1:∀a∈xs,1≤a.st:=fun a ha=>(LH_ (hsm a ha).ok).1
 have hsl:=FQ_ (l:=xs) fun a ha=>(hsm a ha).ok
 have hs10:sumS xs≤1040:=Nat.le_trans hsl (bU0 65 hl);have e1:=Ox_ H L xs;have e2:=Pg_ H L xs;have e3:∀n,_:=fun n=>nt33_pure H L xs hsm hl n
 have e4:∀n,_:=fun n=>QQ_ H L xs n
 have e5:=Na_ H L xs hsm hl;have e6:=RG_ H L xs hsm hl;have e7:=Ln_ (cnfM xs);obtain⟨PR,hPR⟩:∃PR,PR=(Br_ (cnfM xs)).prods:=⟨_,rfl⟩;obtain⟨NN,hNN⟩:∃NN,NN=(Br_ (cnfM xs)).nts:=⟨_,rfl⟩;have hR:dCnf (Br_ (cnfM xs))=[.int .i64 NN,Bh_ PR]:=by rw[hPR,hNN];rfl
 rw[hR]at e7 ⊢;clear hR hPR hNN;have hfin:∀q∈finA xs,0≤q∧q.toNat<sumS xs:=fun q hq=>Ua_ hsm hq
 have harc:∀x∈arcA xs,0≤x.fr∧x.fr.toNat<sumS xs∧0≤x.to∧x.to.toNat<sumS xs:=fun x hx=>Ut_ hsm hx
 have hfl:(finA xs).length≤1040:=Nat.le_trans (IQ_ hsm 0) (bU0 65 hl);have hal:(arcA xs).length≤17179870208:=Nat.le_trans (Jc_ hsm 0) (bU0 1073741888 hl);simp only[Dy_]at e1 e2 e3 e4 e5 e6 ⊢;clear hsl;have hS0:¬((sumS xs:Nat):Int)=0:=by omega
 have hSb:(((sumS xs:Nat):Int)==0)=false:=by simpa using hS0
 have hS1:sumS xs*8≤150000000000000:=by omega
 (refine go1 (aj2 e1 e2) aj0 (aj2 hS0 hSb) ?_;intros;refine mk_i ?_)
 have hz0:(ownR xs 0).map natD=List.replicate (sumS xs) [.int .i64 0]:=by unfold ownR;simp[natD]
 have hzm:mxR (List.replicate (sumS xs) [DVal.int .i64 0])=0:=by rw[←hz0];simp
 refine Ae_ (X:={q:Nat//q≤sumS xs}) (fun q=>⟨[(0,.ref [dTab H L,dPts (parA 0 xs),.int .i64 (sumS xs)]),(2,.bx 2 1 0),(5,.osl 22 1),(6,.int .i64 ((xs.length+cntN xs q.1:Nat):Int)),(25,.int .i64 (sumS xs)),(26,.int .i64 q.1)],[⟨2,1,.box [.int .i64 0,.nilsl]⟩,⟨22,1,.row 3 1 8 ((ownR xs q.1).map natD)⟩]⟩) (fun q=>sumS xs-q.1) ⟨0,by simp⟩ (Sub.lit (by simp[hz0,hzm,hH,Sv_])) ?_;rintro⟨q,hq⟩;simp only
 by_cases hlt:q<sumS xs
 ·have hnl:=LJ_ xs;obtain⟨k,hk⟩:∃k,(ntL xs)[q]? =some k:=⟨_,aH0 (by omega)⟩;have hsi:=start_iff hst1 hk;have hkl:=nt_lt hk;have f1:=e3 q;have f2:=e4 k;rw[SG_ hk]at f1;have hrl:=Vj_ xs hq;have hrs:=ownR_set xs hlt;have hcs:=IW_ xs q;have hcl:=Ui_ xs q;have g1:=Vs_ (ownR xs q) q k;have g2:=Vs_ ((ownR xs q).set q k) q (xs.length+cntN xs q);have hss:((ownR xs q).set q k).set q (xs.length+cntN xs q)=(ownR xs q).set q (xs.length+cntN xs q):=List.set_set _
  have hql:q<(ownR xs q).length:=by omega
  have g3:((ownR xs q).set q k)[q]? =some k:=by rw[fH0 hql]
  have hql2:q<((ownR xs q).set q k).length:=by rw[List.length_set];exact hql
  obtain⟨Y,hY⟩:∃Y,Y=(ownR xs q).set q k:=⟨_,rfl⟩;rw[←hY]at g1 g2 g3 hql2 hss;have g3':Y[q]'hql2=k:=(aB0.1 g3).2;have hwq:IntKind.i64.wrap ((q:Int)+1)=(q:Int)+1:=wq;have hqi:(q:Int)<(sumS xs:Int):=by omega
  obtain⟨S,hS⟩:∃S,S=atI (stL xs) k:=⟨_,rfl⟩;rw[←hS]at hsi f2
  by_cases hin:q∈stL xs
  ·have hSq:=hsi.2 hin;have how:=TA_ hin hk;rw[how,←hY]at hrs;rw[if_pos hin,cV0]at hcs;rw[hrs]at g1 g3 hql2;have g3':(ownR xs (q+1))[q]'hql2=k:=(aB0.1 g3).2;clear hY hss g2;rw[hSq]at f2
   (refine go1 (aj2 f1 f2) aj0 (aj7 hqi hql hql2 @natD.eq_1 g1 g3 g3') ?_;intros;refine mk_i ?_)
   refine Aj_.mk ⟨q+1,by omega⟩ (Sub.lit (by simp[hcs])) (by simp;omega)
   skip
  ·have hSq:¬S=(q:Int):=fun hh=>hin (hsi.1 hh)
   have hSb2:(S==(q:Int))=false:=by simpa using hSq
   have how:=OR_ hin;rw[how]at hrs;rw[if_neg hin]at hcs;rw[hss,hrs]at g2;clear hY hss hrs;have hwn:IntKind.i64.wrap (((xs.length+cntN xs q:Nat):Int)+1)=((xs.length+cntN xs (q+1):Nat):Int):=by rw[wq,hcs];omega
   obtain⟨N,hN⟩:∃N,N=xs.length+cntN xs q:=⟨_,rfl⟩;rw[←hN]at hwn g2 ⊢
   (refine go1 (aj2 f1 f2) aj0 (aj11 hqi hql hql2 @natD.eq_1 g1 g2 g3 g3' hSq hSb2 hwn) ?_;intros;refine mk_i ?_)
   refine Aj_.mk ⟨q+1,by omega⟩ (Sub.lit (by simp)) (by simp;omega)
   skip
 ·have hkk:q=sumS xs:=by omega
  subst hkk;have hqi:¬((sumS xs:Nat):Int)<(sumS xs:Int):=by omega
  clear e3 e4 hst1;have how:∀q:Nat,q<sumS xs→(ownR xs (sumS xs))[q]? =some (ownQ xs q):=fun q hq=>ownR_at xs hq
  have hol:=Vj_ xs (Nat.le_refl (sumS xs));have hcs:=Ui_ xs (sumS xs);unfold cnfM at e7;obtain⟨N,hN⟩:∃N,N=xs.length+cntN xs (sumS xs):=⟨_,rfl⟩;rw[←hN]at e7 ⊢;obtain⟨W,hW⟩:∃W,W=ownR xs (sumS xs):=⟨_,rfl⟩;rw[←hW]at how hol ⊢;obtain⟨F,hF⟩:∃F,F=finA xs:=⟨_,rfl⟩;rw[←hF]at e5 e7 hfin hfl;obtain⟨Z,hZ⟩:∃Z,Z=arcA xs:=⟨_,rfl⟩;rw[←hZ]at e6 e7 harc hal;clear hW hF hZ hcs hsm;refine EP_ (Sub.freezeL [22] _) ?_
  simp
  (refine go1 (aj1 e5) aj0 (aj1 hqi) ?_;intros;refine mk_i ?_)
  refine Bq_ 8 1 60 92 2 32 (by simp) (fun n1=> ?_);have f0:Mk_ xs []=[]:=rfl;refine Ae_ (X:={k:Nat//k≤F.length}) (fun k=>⟨[(0,.ref [dTab H L,dPts (parA 0 xs),.int .i64 (sumS xs)]),(2,.bx 2 1 0),(5,BM_ W),(8,.bx 8 1 0),(53,Bn_ F),(54,.int .i64 F.length),(55,.int .i64 k.1)],[⟨2,1,.box [.int .i64 0,.nilsl]⟩,⟨8,1,.box [.int .i64 (N:Int),.osl 60 1]⟩,⟨60,1,.row 92 2 32 (Mk_ xs (F.take k.1))⟩]⟩) (fun k=>F.length-k.1) ⟨0,by simp⟩ (Sub.lit (by simp[f0])) ?_
  rintro⟨k,hk⟩;simp only
  by_cases hlt2:k<F.length
  ·obtain⟨q,hq1,hq1',hqm⟩:=Ak_ hlt2;obtain⟨q0,q1⟩:=hfin q hqm;obtain⟨u,rfl⟩:∃u:Nat,q=(u:Int):=⟨q.toNat,by omega⟩;rw[cX0]at q1;have hW1:=how u q1;have hul:u<W.length:=by omega
   have hW1':W[u]'hul=ownQ xs u:=(aB0.1 hW1).2;have hnx:=finP_next (xs:=xs) hq1;rw[cX0]at hnx;have hpl:(Mk_ xs (F.take k)).length≤1040:=by unfold Mk_;rw[aJ0,aY0];omega
   have hpm:=finP_mx xs (F.take k);obtain⟨T,hT⟩:∃T,T=Mk_ xs (F.take k):=⟨_,rfl⟩;rw[←hT]at hnx hpl hpm ⊢;have hb:(T.length+1)*32≤150000000000000:=by omega
   have hwk:IntKind.i64.wrap ((k:Int)+1)=(k:Int)+1:=wq;clear hal hfl harc hfin hT hpl
   (refine go1 aj0 aj0 (aj10 @dNum.eq_1 @natD.eq_1 hlt2 hq1 hq1' hul hW1 hW1' hb hwk) ?_;intros;refine mk_i ?_)
   refine Aj_.mk ⟨k+1,by omega⟩ (Sub.lit (by simp[hnx,hpm])) (by simp;omega)
   skip
  ·have hkk:k=F.length:=by omega
   subst hkk;rw[aQ0];refine DW_rowWk 60 (es':=(prF xs F).map Ad_) (e:=⟨60,1,.row 92 2 32 (Mk_ xs F)⟩) rfl rfl (by unfold Mk_ prF;rw[cB0];exact Nn_ _ _ (dF_wk xs) F) ?_;simp only[rowE,putR];simp
   (refine go1 (aj1 e6) aj0 aj0 ?_;intros;refine mk_i ?_)
   have p0:prA xs []=[]:=rfl;refine Ae_ (X:={k:Nat//k≤Z.length}) (fun k=>⟨[(2,.bx 2 1 0),(5,BM_ W),(8,.bx 8 1 0),(71,Cb_ Z),(72,.int .i64 Z.length),(73,.int .i64 k.1)],[⟨2,1,.box [.int .i64 0,.nilsl]⟩,⟨8,1,.box [.int .i64 (N:Int),.osl 60 1]⟩,⟨60,1,.row 92 2 32 ((prF xs F).map Ad_++(prA xs (Z.take k.1)).map Ad_)⟩]⟩) (fun k=>Z.length-k.1) ⟨0,by simp⟩ (Sub.lit (by simp[p0])) ?_;rintro⟨k,hk⟩;simp only
   by_cases hlt3:k<Z.length
   ·obtain⟨x,hx,hx',hxm⟩:=Ak_ hlt3;obtain⟨x0,x1,x2,x3⟩:=harc x hxm;obtain⟨fr,sy,to⟩:=x;simp only at x0 x1 x2 x3;obtain⟨u,rfl⟩:∃u:Nat,fr=(u:Int):=⟨fr.toNat,by omega⟩;obtain⟨v,rfl⟩:∃v:Nat,to=(v:Int):=⟨to.toNat,by omega⟩;rw[cX0]at x1 x3;have hW1:=how u x1;have hW2:=how v x3;have hul:u<W.length:=by omega
    have hvl:v<W.length:=by omega
    have hW1':W[u]'hul=ownQ xs u:=(aB0.1 hW1).2;have hW2':W[v]'hvl=ownQ xs v:=(aB0.1 hW2).2;have hnx:=congrArg (List.map Ad_) (prA_next (xs:=xs) hx);rw[aX0]at hnx;have hn2:List.map Ad_ (prA xs (Z.take (k+1)))=List.map Ad_ (prA xs (Z.take k))++[[.int .i64 (ownQ xs u:Int),.sl 2 16 [[.bool sy.label,.int .i64 sy.n],[.bool false,.int .i64 (ownQ xs v:Int)]]]]:=by rw[hnx];simp[Ad_,pA,AR_,dSym]
    have hpl:(prF xs F).length≤1040:=by unfold prF;rw[aJ0];exact hfl
    have hpk:(prA xs (Z.take k)).length≤17179870208:=by unfold prA;rw[aJ0,aY0];omega
    have hwk:IntKind.i64.wrap ((k:Int)+1)=(k:Int)+1:=wq;obtain⟨T,hT⟩:∃T,T=prA xs (Z.take k):=⟨_,rfl⟩;rw[←hT]at hn2 hpk ⊢;obtain⟨PF,hPF⟩:∃PF,PF=prF xs F:=⟨_,rfl⟩;rw[←hPF]at hpl ⊢;have hb:(PF.length+T.length+1)*32≤150000000000000:=bnd_p hpl hpk;have hb3:PF.length+T.length≤9223372036854775806:=by omega
    have hr2:List.range 2=[0,1]:=rfl;clear hal hfl harc hfin hT hpl hpk hnx hPF
    (refine go1 aj0 aj0 (aj15 @dArc.eq_1 @natD.eq_1 hlt3 hx hx' hul hvl hW1 hW1' hW2 hW2' hb hb3 hr2 hwk) ?_;intros;refine mk_i ?_)
    refine Aj_.mk ⟨k+1,by omega⟩ (Sub.lit (by simp[hn2])) (by simp;omega)
    skip
   ·have hkk:k=Z.length:=by omega
    subst hkk;rw[aQ0];have hPP:List.map Ad_ (prF xs F)++List.map Ad_ (prA xs Z)=(List.map (pF xs) F++List.map (pA xs) Z).map Ad_:=by unfold prF prA;rw[←aX0]
    rw[hPP];obtain⟨PP,hPq⟩:∃PP,PP=List.map (pF xs) F++List.map (pA xs) Z:=⟨_,rfl⟩;rw[←hPq]at e7 ⊢;simp only[dCnf]at e7;refine EP_ (Sub.freezeL [60] _) ?_;simp;exact go0 (aj1 e7) aj0 aj0
end Go.Proofs.YtchgnpnbcjflcaaGreat
end
section
namespace Go.Proofs.YtchgnpnbcjflcaaGreat
open Go Go.Dm
variable [DMode]
attribute [local irreducible] DW Bj_ Bp_

end Go.Proofs.YtchgnpnbcjflcaaGreat
end
section
namespace Go.Proofs.YtchgnpnbcjflcaaGreat
open Go Go.Dm
variable [DMode]
attribute [local irreducible] DW Bj_ Bp_
set_option maxRecDepth 100000
theorem BS_ {a b:Int}:cmpI a b<0↔a<b:=by unfold cmpI;split<;>(try split)<;>constructor<;>intro h<;>omega
theorem NW_ {a b:Int}:cmpI a b=0↔a=b:=by unfold cmpI;split<;>(try split)<;>constructor<;>intro h<;>omega
def Je_ : Ann:=⟨[],[]⟩
theorem QK_ (x y:Sym):Ac_ Tryz.prog 206 [.agg (dSym x),.agg (dSym y)] (.bool (decide (symC x y<0))):=by
 refine Aa_ [] Je_ Tryz.func206 Tryz.call206 Tryz.ntmps206 mxd (aj2 @Je_.eq_1 Tryz.results206) rfl (by simp) (by simp[mx]) fun hwf B hnt hgAnn=> ?_
 simp only[argS];cases h1:x.label<;>cases h2:y.label<;>(repeat (first | refine Aw_ fun K hK=> ?_ | (refine DW_r Je_ mxd (by kernel_rfl) ?_;simp[Je_,hnt,dSym,h1,h2,symC,BS_];try simp (disch:=omega) only[Ah_]) | refine Al_ ?_ | (refine AJ_ ?_ ?_ ?_;(· (simp[hnt,dSym,h1,h2,symC,BS_];done));(try (rotate_left;(· (intro hc;(try simp[hnt,dSym,h1,h2,symC,BS_]at hc);done))))) | (refine Ay_ ?_;simp[Tryz.results206,hnt,dSym,h1,h2,symC,BS_]) | ((first | refine Aq_ ?_ | refine Ap_ ?_);simp[hnt,dSym,h1,h2,symC,BS_]) | (intro hc;(try simp[hnt,dSym,h1,h2,symC,BS_]at hc);(try (exfalso;omega))) | (refine⟨?_,?_⟩; · omega) | omega | apply_assumption -exfalso -symm | (exfalso;omega)))
theorem symC_0 {x y:Sym}:symC x y=0↔x=y:=by
 obtain⟨l,n⟩:=x;obtain⟨l',n'⟩:=y;cases l<;>cases l'<;>simp[symC,NW_]
def EO_ : Ann:=⟨[],[]⟩
set_option maxHeartbeats 4000000 in
theorem RK_ (p q:Prod):Ac_ Tryz.prog 136 [.agg (Ad_ p),.agg (Ad_ q)] (.bool (decide (AX_ p q<0))):=by
 refine Aa_ [] EO_ Tryz.func136 Tryz.call136 Tryz.ntmps136 mxd (aj2 @EO_.eq_1 Tryz.results136) rfl (by simp) (by simp[mx]) fun hwf B hnt hgAnn=> ?_
 have hw:wProd p:=w_prod (by simpa[wfL,wfD]using hwf.1);obtain⟨hw1,hw2,hw3,hw4⟩:=hw;clear hwf;simp only[argS]
 by_cases h0:p.head=q.head
 rotate_left
 ·have hb:(p.head != q.head)=true:=by simp[h0]
  have hpc:AX_ p q=cmpI p.head q.head:=by unfold AX_;rw[if_neg (fun hh=>h0 (NW_.1 hh))]
  (repeat (first | refine Aw_ fun K hK=> ?_ | (refine DW_r EO_ mxd (by kernel_rfl) ?_;simp[EO_,hnt,Ad_,h0,hb,hpc,BS_];try simp (disch:=omega) only[Ah_]) | refine Al_ ?_ | (refine AJ_ ?_ ?_ ?_;(· (simp[hnt,Ad_,h0,hb,hpc,BS_];done));(try (rotate_left;(· (intro hc;(try simp[hnt,Ad_,h0,hb,hpc,BS_]at hc);done))))) | (refine Ay_ ?_;simp[Tryz.results136,hnt,Ad_,h0,hb,hpc,BS_]) | ((first | refine Aq_ ?_ | refine Ap_ ?_);simp[hnt,Ad_,h0,hb,hpc,BS_]) | (intro hc;(try simp[hnt,Ad_,h0,hb,hpc,BS_]at hc);(try (exfalso;omega))) | (refine⟨?_,?_⟩; · omega) | omega | apply_assumption -exfalso -symm | (exfalso;omega)))
 by_cases hl:p.body.length=q.body.length
 rotate_left
 ·have hb:(p.head != q.head)=false:=by simp[h0]
  have hl':((p.body.length:Int) != q.body.length)=true:=by simp;omega
  have hl2:¬(p.body.length:Int)=q.body.length:=by omega
  have hpc:AX_ p q=cmpI p.body.length q.body.length:=by
   unfold AX_;rw[if_pos (NW_.2 h0),if_neg (fun hh=>hl2 (NW_.1 hh))]
  (repeat (first | refine Aw_ fun K hK=> ?_ | (refine DW_r EO_ mxd (by kernel_rfl) ?_;simp[EO_,hnt,Ad_,h0,hb,hl,hl',hl2,hpc,BS_];try simp (disch:=omega) only[Ah_]) | refine Al_ ?_ | (refine AJ_ ?_ ?_ ?_;(· (simp[hnt,Ad_,h0,hb,hl,hl',hl2,hpc,BS_];done));(try (rotate_left;(· (intro hc;(try simp[hnt,Ad_,h0,hb,hl,hl',hl2,hpc,BS_]at hc);done))))) | (refine Ay_ ?_;simp[Tryz.results136,hnt,Ad_,h0,hb,hl,hl',hl2,hpc,BS_]) | ((first | refine Aq_ ?_ | refine Ap_ ?_);simp[hnt,Ad_,h0,hb,hl,hl',hl2,hpc,BS_]) | (intro hc;(try simp[hnt,Ad_,h0,hb,hl,hl',hl2,hpc,BS_]at hc);(try (exfalso;omega))) | (refine⟨?_,?_⟩; · omega) | omega | apply_assumption -exfalso -symm | (exfalso;omega)))
 have hb:(p.head != q.head)=false:=by simp[h0]
 obtain⟨r,hr⟩:∃r,r=decide (AX_ p q<0):=⟨_,rfl⟩;rw[←hr]
 have hpc:AX_ p q=cmpL symC p.body q.body:=by
  unfold AX_;rw[if_pos (NW_.2 h0),if_pos (NW_.2 (by omega))];rfl
 rw[hpc]at hr;clear hpc
 (refine go1 aj0 aj0 (aj4 @Ad_.eq_1 h0 hb hl) ?_;intros;refine mk_i ?_)
 refine Ae_ (X:={k:Nat//k≤q.body.length∧r=decide (cmpL symC (p.body.drop k) (q.body.drop k)<0)}) (fun k=>⟨[(2,.ref (Ad_ p)),(3,.ref (Ad_ q)),(5,.int .i64 k.1)],[]⟩) (fun k=>q.body.length-k.1) ⟨0,by simp[hr]⟩ (Sub.lit (by simp[Ad_,h0])) ?_;rintro⟨k,hk,hcc⟩;clear hr
 by_cases hlt:k<q.body.length
 ·obtain⟨x,hx,hx',hxm⟩:=Ak_ (show k<p.body.length by omega);obtain⟨y,hy,hy',hym⟩:=Ak_ hlt;rw[cmpL_at hx hy]at hcc
  by_cases hxy:x=y
  ·subst hxy;rw[if_pos (symC_0.2 rfl)]at hcc;clear hx hy
   (refine go1 aj0 aj0 (aj6 @Ad_.eq_1 @dSym.eq_1 hl hlt hx' hy') ?_;intros;refine mk_i ?_)
   refine Aj_.mk ⟨k+1,by omega,hcc⟩ (Sub.lit (by simp[Ad_])) (by simp;omega)
   skip
  ·rw[if_neg (fun hh=>hxy (symC_0.1 hh))]at hcc;have hs:=QK_ x y;simp only[dSym]at hs;rw[←hcc]at hs;have hne:¬(x.label=y.label∧x.n=y.n):=fun hh=>hxy (by cases x;cases y;simp_all)
   have hne':x.label=y.label→¬x.n=y.n:=fun h1 h2=>hne ⟨h1,h2⟩
   clear hx hy hcc;exact go0 (aj1 hs) aj0 (aj8 @Ad_.eq_1 @dSym.eq_1 hl hlt hx' hy' hne hne')
 ·have hk':k=q.body.length:=by omega
  subst hk'
  have hrf:r=false:=by
   rw[hcc,cP0 (by omega),cP0 (by omega)];simp[cmpL]
  exact go0 aj0 aj0 (aj3 @Ad_.eq_1 hl hrf)
end Go.Proofs.YtchgnpnbcjflcaaGreat
end
section
namespace Go.Proofs.YtchgnpnbcjflcaaGreat

end Go.Proofs.YtchgnpnbcjflcaaGreat
end
section
namespace Go.Proofs.YtchgnpnbcjflcaaGreat
open Go Go.Dm
variable [DMode]
attribute [local irreducible] DW Bj_ Bp_
set_option maxRecDepth 100000
def anW5852 : Ann:=⟨[],[]⟩
set_option maxHeartbeats 4000000 in
theorem TT_ (l:List Prod) (p:Prod) (hsz:(l.length+1)*32≤150000000000000):Ac_ Tryz.prog 52 [Bh_ l,.agg (Ad_ p)] (Bh_ (insC AX_ l p)):=by
 refine Aa_ [50] anW5852 Tryz.func52 Tryz.call52 Tryz.ntmps52 mxd (aj2 @anW5852.eq_1 Tryz.results52) rfl (by simp) (by simp[mx]) fun hwf B hnt hgAnn=> ?_
 have hw:UH_ l:=SX_ hwf.1;obtain⟨_,hw2,hw3⟩:=hw;clear hwf;simp only[argS];obtain⟨r,hr⟩:∃r,r=insC AX_ l p:=⟨_,rfl⟩;rw[←hr]
 (refine go1 aj0 aj0 (aj1 @Ad_.eq_1) ?_;intros;refine mk_i ?_)
 refine AV_ 5 50 92 2 32 (by simp[hnt,Tryz.ntmps52]) (fun n=> ?_);refine Ae_ (X:={x:Nat×Bool×List Prod//x.1≤l.length∧x.2.2.length≤x.1+(if x.2.1 then 1 else 0)∧x.2.2++(if x.2.1 then l.drop x.1 else insC AX_ (l.drop x.1) p)=r}) (fun x=>⟨[(0,Bh_ l),(3,.ref (Ad_ p)),(5,.osl 50 1),(6,.bool x.1.2.1),(7,.int .i64 x.1.1)],[⟨50,1,.row 92 2 32 (x.1.2.2.map Ad_)⟩]⟩) (fun x=>l.length-x.1.1) ⟨(0,false,[]),by simp[hr]⟩ (Sub.lit (by simp[Ad_])) ?_
 rintro⟨⟨k,b,R⟩,hk,hR,hcc⟩;simp only at hk hR hcc ⊢;clear hr
 by_cases hlt:k<l.length
 ·obtain⟨q,hq,hq',hqm⟩:=Ak_ hlt;rw[aR0 hlt,hq']at hcc;have h1:=RK_ q p;have h2:=RK_ p q;simp only[Ad_]at h1 h2;cases b
  ·simp only[aL0,if_false,insC,cV0]at hR hcc;have hz1:(R.length+1)*32≤150000000000000:=Nat.le_trans (aO0 32 (by omega)) hsz;have hz2:R.length≤9223372036854775806:=by omega
   have hz3:(R.length+1+1)*32≤150000000000000:=Nat.le_trans (aO0 32 (by omega)) hsz;have hz4:R.length+1≤9223372036854775806:=by omega
   by_cases c1:AX_ q p<0
   ·rw[if_pos c1]at hcc;simp only[c1,decide_true]at h1
    (refine go1 (aj2 h1 h2) aj0 (aj7 @Ad_.eq_1 hlt hq' hz1 hz2 hz3 hz4) ?_;intros;refine mk_i ?_)
    refine Aj_.mk ⟨(k+1,false,R++[q]),show k+1≤l.length∧(R++[q]).length≤k+1+_∧_ from ⟨by omega,by simp;omega,by simpa using hcc⟩⟩ (Sub.lit (by simp[Ad_])) (by simp;omega)
    skip
   ·rw[if_neg c1]at hcc;simp only[c1,decide_false]at h1
    by_cases c2:AX_ p q<0
    ·rw[if_pos c2]at hcc;simp only[c2,decide_true]at h2
     (refine go1 (aj2 h1 h2) aj0 (aj7 @Ad_.eq_1 hlt hq' hz1 hz2 hz3 hz4) ?_;intros;refine mk_i ?_)
     refine Aj_.mk ⟨(k+1,true,R++[p,q]),show k+1≤l.length∧(R++[p,q]).length≤k+1+_∧_ from ⟨by omega,by simp;omega,by simpa using hcc⟩⟩ (Sub.lit (by simp[Ad_])) (by simp;omega)
     skip
    ·rw[if_neg c2]at hcc;simp only[c2,decide_false]at h2
     (refine go1 (aj2 h1 h2) aj0 (aj7 @Ad_.eq_1 hlt hq' hz1 hz2 hz3 hz4) ?_;intros;refine mk_i ?_)
     refine Aj_.mk ⟨(k+1,true,R++[q]),show k+1≤l.length∧(R++[q]).length≤k+1+_∧_ from ⟨by omega,by simp;omega,by simpa using hcc⟩⟩ (Sub.lit (by simp[Ad_])) (by simp;omega)
     skip
  ·simp only[if_true]at hR hcc;have hz1:(R.length+1)*32≤150000000000000:=Nat.le_trans (aO0 32 (by omega)) hsz;have hz2:R.length≤9223372036854775806:=by omega
   (refine go1 (aj2 h1 h2) aj0 (aj5 @Ad_.eq_1 hlt hq' hz1 hz2) ?_;intros;refine mk_i ?_)
   refine Aj_.mk ⟨(k+1,true,R++[q]),show k+1≤l.length∧(R++[q]).length≤k+1+_∧_ from ⟨by omega,by simp;omega,by simpa using hcc⟩⟩ (Sub.lit (by simp[Ad_])) (by simp;omega)
   skip
 ·have hk':k=l.length:=by omega
  subst hk';rw[bQ0]at hcc;cases b
  ·simp only[aL0,if_false,insC,cV0]at hR hcc;subst hcc;have hz1:(R.length+1)*32≤150000000000000:=Nat.le_trans (aO0 32 (by omega)) hsz;have hz2:R.length≤9223372036854775806:=by omega
   exact go0 aj0 aj0 (aj3 @Ad_.eq_1 hz1 hz2)
  ·simp only[if_true,bM0]at hR hcc;subst hcc;exact go0 aj0 aj0 (aj1 @Ad_.eq_1)
def CU_ (l:List Prod):DVal:=if l=[]then .nilsl else Bh_ l
@[local simp] theorem mx_rowPd (l:List Prod):mx (CU_ l)=0:=by unfold CU_;split<;>simp[mx]
theorem LX_ {l:List Prod} {p:Prod}:(insC AX_ l p).length≤l.length+1:=by
 induction l with
 | nil=>simp[insC]
 | cons x l ih=>simp only[insC];split<;>(try split)<;>simp<;>omega
theorem foldP_len (l:List Prod) (a:List Prod):(l.foldl (insC AX_) a).length≤a.length+l.length:=by
 induction l generalizing a with
 | nil=>simp
 | cons x l ih=>have h1:=ih (insC AX_ a x);have h2:=LX_ (l:=a) (p:=x);simp only[cO0,List.length_cons];omega
theorem Gj_ (l:List Prod) (p:Prod) (hsz:(l.length+1)*32≤150000000000000):Ac_ Tryz.prog 52 [CU_ l,.agg (Ad_ p)] (CU_ (insC AX_ l p)):=by
 have h:=TT_ l p hsz;unfold CU_;rw[if_neg (Pw_ l p)]
 split
 ·rename_i h0;subst h0;refine⟨h.1,h.2.1,fun cur M w vs hM hr=>h.2.2 cur M w vs hM (Rf_ ?_ hr)⟩;simp only[wkA];exact⟨by simp[Bh_],SV_ _,trivial⟩
 ·exact h
theorem CT_ (l:List Prod):CU_ l= .nilsl∨∃m,CU_ l=Bh_ m:=by
 unfold CU_
 split
 ·exact .inl rfl
 ·exact .inr ⟨_,rfl⟩
def KW_ : Ann:=⟨[],[]⟩
set_option maxHeartbeats 4000000 in
theorem Ra_ (c:Cnf):Ac_ Tryz.prog 148 [.agg (dCnf c)] (.agg (dCnf ⟨c.nts,c.prods.foldl (insC AX_) []⟩)):=by
 have key:Ac_ Tryz.prog 148 [.agg (dCnf c)] (.agg [.int .i64 c.nts,CU_ (c.prods.foldl (insC AX_) [])]):=by
  refine Aa_ [] KW_ Tryz.func148 Tryz.call148 Tryz.ntmps148 mxd (aj2 @KW_.eq_1 Tryz.results148) rfl (by simp) (by simp[mx]) fun hwf B hnt hgAnn=> ?_
  have hw:wCnf c:=SY_ (by simpa[wfL,wfD]using hwf.1);obtain⟨hw1,hw2,hw3,hw4⟩:=hw;clear hwf;simp only[argS]
  (refine go1 aj0 aj0 (aj1 @dCnf.eq_1) ?_;intros;refine mk_i ?_)
  refine Ae_ (X:={k:Nat//k≤c.prods.length}) (fun k=>⟨[(1,.ref (dCnf c)),(2,.bx 2 1 0),(3,.bx 3 1 0),(4,.int .i64 k.1)],[⟨2,1,.box [.int .i64 0,.nilsl]⟩,⟨3,1,.box [.int .i64 c.nts,CU_ ((c.prods.take k.1).foldl (insC AX_) [])]⟩]⟩) (fun k=>c.prods.length-k.1) ⟨0,by simp⟩ (Sub.lit (by simp[dCnf,CU_])) ?_;rintro⟨k,hk⟩
  by_cases hlt:k<c.prods.length
  ·obtain⟨p,hp,hp',hpm⟩:=Ak_ hlt;have hfl:=foldP_len (c.prods.take k) [];rw[aY0,List.length_nil]at hfl;have h1:=Gj_ ((c.prods.take k).foldl (insC AX_) []) p (Nat.le_trans (aO0 32 (by omega)) hw2)
   have htk:(c.prods.take (k+1)).foldl (insC AX_) []=insC AX_ ((c.prods.take k).foldl (insC AX_) []) p:=by
    rw[bF0,hp];simp[cR0]
   simp only[Ad_]at h1;have hA':CU_ (insC AX_ ((c.prods.take k).foldl (insC AX_) []) p)=Bh_ (insC AX_ ((c.prods.take k).foldl (insC AX_) []) p):=by unfold CU_;rw[if_neg (Pw_ _ _)]
   rw[hA']at h1;obtain⟨Y,hY⟩:∃Y,Y=insC AX_ ((c.prods.take k).foldl (insC AX_) []) p:=⟨_,rfl⟩;rw[←hY]at h1 hA'
   rcases CT_ ((c.prods.take k).foldl (insC AX_) [])with hA | ⟨Z,hA⟩
   ·rw[hA]at h1;rw[hA]
    (repeat (first | refine Aw_ fun K hK=> ?_ | (refine DW_r KW_ mxd (by kernel_rfl) ?_;simp[KW_,hnt,dCnf,Ad_,hlt,hp'];try simp (disch:=omega) only[Ah_]) | refine Al_ ?_ | (refine AJ_ ?_ ?_ ?_;(· (simp[hnt,dCnf,Ad_,hlt,hp'];done));(try (rotate_left;(· (intro hc;(try simp[hnt,dCnf,Ad_,hlt,hp']at hc);done))))) | (refine Ay_ ?_;simp[Tryz.results148,hnt,dCnf,Ad_,hlt,hp']) | ((first | refine Aq_ ?_ | refine Ap_ ?_);simp[hnt,dCnf,Ad_,hlt,hp']) | (intro hc;(try simp[hnt,dCnf,Ad_,hlt,hp']at hc);(try (exfalso;omega))) | ((first | refine Ag_ (h1) ?_ | (refine Af_ (h1) ?_ ?_;(· (simp;done))));try simp[hnt,dCnf,Ad_,hlt,hp']) | (refine⟨?_,?_⟩; · omega) | omega | apply_assumption -exfalso -symm | (exfalso;omega)))
    refine Aj_.mk ⟨k+1,by omega⟩ (Sub.lit (by simp[htk,←hY,hA'])) (by simp;omega)
    skip
   ·rw[hA]at h1;rw[hA]
    (refine go1 (aj1 h1) aj0 (aj4 @dCnf.eq_1 @Ad_.eq_1 hlt hp') ?_;intros;refine mk_i ?_)
    refine Aj_.mk ⟨k+1,by omega⟩ (Sub.lit (by simp[htk,←hY,hA'])) (by simp;omega)
    skip
  ·have hkk:k=c.prods.length:=by omega
   subst hkk;rw[aQ0]
   rcases CT_ (c.prods.foldl (insC AX_) [])with hA | ⟨Z,hA⟩
   ·rw[hA];exact go0 aj0 aj0 (aj2 @dCnf.eq_1 hA)
   ·rw[hA];exact go0 aj0 aj0 (aj2 @dCnf.eq_1 hA)
 refine key.wk ?_ (by simp[mx,dCnf]);simp only[dCnf,CU_]
 split
 ·rename_i h0;rw[h0];simp[Bh_]
 ·simp
end Go.Proofs.YtchgnpnbcjflcaaGreat
end
section
namespace Go.Proofs.YtchgnpnbcjflcaaGreat
open Go Go.Dm
attribute [local irreducible] DW Bj_ Bp_
set_option maxRecDepth 100000
theorem stL_pw : ∀(xs:List Auto) (f:Nat),(∀a∈xs,1≤a.st)→((parA f xs).map (·.2)).Pairwise (· < ·)∧∀q∈(parA f xs).map (·.2),f≤q∧q<f+sumS xs
 | [],f,_=>by simp[parA]
 | a::xs,f,h=>by
  have h3:sumS (a::xs)=a.st.toNat+sumS xs:=by simp[sumS]
  have h4:=h a aF0;obtain⟨h1,h2⟩:=stL_pw xs (f+a.st.toNat) fun x hx=>h x (aD0 _ hx)
  rw[parA,List.map_cons];refine⟨cH0.2 ⟨fun q hq=> ?_,h1⟩,fun q hq=> ?_⟩
  ·have:=h2 q hq;simp only;omega
  ·rcases aK0.1 hq with rfl | hq
   ·first | omega | (simp only;omega)
   ·have:=h2 q hq;omega
theorem nts_eq {xs:List Auto} (h:∀a∈xs,1≤a.st):xs.length+cntN xs (sumS xs)=sumS xs:=by
 obtain⟨h1,h2⟩:=stL_pw xs 0 h;have h1':(stL xs).Pairwise (· < ·):=h1;have h2':∀q∈stL xs,q<sumS xs:=fun q hq=>by have:=h2 q hq;omega
 have hp:((List.range (sumS xs)).filter fun p=>decide (p∈stL xs)).Perm (stL xs):=by
  refine(List.perm_ext_iff_of_nodup (List.nodup_range.filter _) (h1'.imp fun h=>Nat.ne_of_lt h)).2 fun q=> ?_
  rw[cN0,dP0];simp only[decide_eq_true_eq];exact⟨fun h=>h.2,fun h=>⟨h2' q h,h⟩⟩
 have hl:=hp.length_eq;rw[Oy_]at hl
 have hs:∀l:List Nat,(l.filter fun p=>decide (p∈stL xs)).length+(l.filter fun p=>decide (¬p∈stL xs)).length=l.length:=by
  intro l
  induction l with
  | nil=>rfl
  | cons x l ih=>by_cases hx:x∈stL xs<;>simp[hx]at ih ⊢ <;>omega
 have:=hs (List.range (sumS xs));rw[eN0]at this;unfold cntN;omega
theorem nats_nums (l:List Nat):l.map natD=(l.map toI).map dNum:=by rw[cB0];rfl
theorem rinN_pure (l:List Nat) (q:Nat):Ac_ Tryz.prog 137 [BM_ l,.int .i64 (q:Int)] (.bool (decide (q∈l))):=by
 have h:=Za_ (l.map toI) q;rw[show Bn_ (l.map toI)=BM_ l by unfold Bn_ BM_;rw[nats_nums]]at h
 have he:decide ((q:Int)∈l.map toI)=decide (q∈l):=by
  refine decide_eq_decide.2 ?_;rw[aV0]
  constructor
  ·rintro⟨x,hx,he⟩;have:x=q:=by unfold toI at he;omega
   rw[←this];exact hx
  ·exact fun h=>⟨q,h,rfl⟩
 rw[he]at h;exact h
def anCF253 : Ann:=⟨[],[]⟩
set_option maxHeartbeats 2000000 in
theorem Rc_ (xs:List Auto) (q:Nat) (hl:xs.length≤16) (hs:sumS xs≤1040) (hq:q<sumS xs):Ac_ Tryz.prog 53 [refM xs,.int .i64 (q:Int)] (.int .i64 (ownQ xs q:Int)):=by
 refine Aa_ [] anCF253 Tryz.func53 Tryz.call53 Tryz.ntmps53 mxd (aj2 @anCF253.eq_1 Tryz.results53) rfl (by simp) (by simp[mx]) fun hwf B hnt hgAnn=> ?_
 clear hwf;simp only[argS,refM];have hsl:=Oy_ xs;have hnl:=LJ_ xs;have e1:∀p:Nat,_:=fun p=>rinN_pure (stL xs) p
 (refine go1 aj0 aj0 aj0 ?_;intros;refine mk_i ?_)
 refine Ae_ (X:={k:Nat//k≤q}) (fun k=>⟨[(1,.int .i64 (q:Int)),(2,.ref [.int .i64 (sumS xs),BM_ (stL xs),BM_ (ntL xs),Bn_ (finA xs),Cb_ (arcA xs),St_ xs]),(5,.int .i64 ((xs.length+cntN xs k.1:Nat):Int)),(6,.int .i64 k.1)],[]⟩) (fun k=>q-k.1) ⟨0,by simp⟩ (Sub.lit (by simp[Sv_,hsl])) ?_;rintro⟨k,hk⟩;simp only
 by_cases hlt:k<q
 ·have e2:=e1 k;have hcs:=IW_ xs k;have hcl:=Ui_ xs k;have hki:(k:Int)<(q:Int):=by omega
  have hwk:IntKind.i64.wrap ((k:Int)+1)=(k:Int)+1:=wq
  by_cases hin:k∈stL xs
  ·rw[if_pos hin,cV0]at hcs;rw[decide_eq_true hin]at e2
   (refine go1 (aj1 e2) aj0 (aj2 hki hwk) ?_;intros;refine mk_i ?_)
   refine Aj_.mk ⟨k+1,by omega⟩ (Sub.lit (by simp[hcs])) (by simp;omega)
   skip
  ·rw[if_neg hin]at hcs;rw[decide_eq_false hin]at e2;have hwn:IntKind.i64.wrap (((xs.length+cntN xs k:Nat):Int)+1)=((xs.length+cntN xs (k+1):Nat):Int):=by rw[wq,hcs];omega
   obtain⟨N,hN⟩:∃N,N=xs.length+cntN xs k:=⟨_,rfl⟩;obtain⟨N2,hN2⟩:∃N,N=xs.length+cntN xs (k+1):=⟨_,rfl⟩;rw[←hN,←hN2]at hwn;rw[←hN];have hN3:(xs.length:Int)+(cntN xs (k+1):Int)=(N2:Int):=by omega
   (refine go1 (aj1 e2) aj0 (aj3 hki hwk hwn) ?_;intros;refine mk_i ?_)
   refine Aj_.mk ⟨k+1,by omega⟩ (Sub.lit (by simp[hN3])) (by simp;omega)
   skip
 ·have hkk:k=q:=by omega
  subst hkk;have e2:=e1 k;have hki:¬(k:Int)<(k:Int):=by omega
  by_cases hin:k∈stL xs
  ·rw[decide_eq_true hin]at e2;obtain⟨j,hj⟩:∃j,(ntL xs)[k]? =some j:=⟨_,aH0 (by omega)⟩;have how:=TA_ hin hj;have hlt2:k<(ntL xs).length:=by omega
   have hj':(ntL xs)[k]'hlt2=j:=(aB0.1 hj).2;rw[how];exact go0 (aj1 e2) aj0 (aj5 @natD.eq_1 hki hlt2 hj hj')
  ·rw[decide_eq_false hin]at e2;have how:=OR_ hin;rw[how];exact go0 (aj1 e2) aj0 (aj1 hki)
theorem VU_ {α β:Type} (f:β→α→β) (b:β) {l:List α} {k:Nat} {x:α} (h:l[k]? =some x):(l.take (k+1)).foldl f b=f ((l.take k).foldl f b) x:=by
 rw[bF0,h,cR0];rfl
def fin1 (xs:List Auto) (l:List Int):List Prod:=l.foldl (fun P q=>insC AX_ P (pF xs q)) []
def arc1 (xs:List Auto) (P0:List Prod) (l:List Arc):List Prod:=l.foldl (fun P x=>insC AX_ P (pA xs x)) P0
theorem PM_ (xs:List Auto):∀(l:List Int) (P:List Prod),(l.foldl (fun P q=>insC AX_ P (pF xs q)) P).length≤P.length+l.length
 | [],P=>by simp
 | q::l,P=>by
  have h1:=PM_ xs l (insC AX_ P (pF xs q));have h2:=LX_ (l:=P) (p:=pF xs q);rw[cO0,List.length_cons];omega
theorem Wt_ (xs:List Auto):∀(l:List Arc) (P:List Prod),(arc1 xs P l).length≤P.length+l.length
 | [],P=>by simp[arc1]
 | x::l,P=>by
  have h1:=Wt_ xs l (insC AX_ P (pA xs x));have h2:=LX_ (l:=P) (p:=pA xs x);unfold arc1 at h1 ⊢;rw[cO0,List.length_cons];omega
theorem arc1_fold (xs:List Auto):arc1 xs (fin1 xs (finA xs)) (arcA xs)=(cnfM xs).prods.foldl (insC AX_) []:=by
 unfold arc1 fin1 cnfM;rw[cR0,List.foldl_map,List.foldl_map]
theorem bnd_q {a b:Nat} (h1:a≤1040+b) (h2:b≤17179870208):(a+1)*32≤150000000000000:=by omega
def anCF215 : Ann:=⟨[],[⟨9,[6],[],[]⟩]⟩
set_option maxHeartbeats 8000000 in
theorem YW_ (xs:List Auto) (hsm:∀a∈xs,SmA a) (hl:xs.length≤16):Ac_ Tryz.prog 15 [refM xs] (.agg [.int .i64 (sumS xs:Int),CU_ ((cnfM xs).prods.foldl (insC AX_) [])]):=by
 refine Aa_ [] anCF215 Tryz.func15 Tryz.call15 Tryz.ntmps15 mxd (aj2 @anCF215.eq_1 Tryz.results15) rfl (by simp) (by simp[mx,mxL,mx_rowPd]) fun hwf B hnt hgAnn=> ?_
 clear hwf;have hsl:=FQ_ (l:=xs) fun a ha=>(hsm a ha).ok
 have hs10:sumS xs≤1040:=Nat.le_trans hsl (bU0 65 hl);have e1:∀q,q<sumS xs→_:=fun q hq=>Rc_ xs q hl hs10 hq
 have hfin:∀q∈finA xs,0≤q∧q.toNat<sumS xs:=fun q hq=>Ua_ hsm hq
 have harc:∀x∈arcA xs,0≤x.fr∧x.fr.toNat<sumS xs∧0≤x.to∧x.to.toNat<sumS xs:=fun x hx=>Ut_ hsm hx
 have hfl:(finA xs).length≤1040:=Nat.le_trans (IQ_ hsm 0) (bU0 65 hl);have hal:(arcA xs).length≤17179870208:=Nat.le_trans (Jc_ hsm 0) (bU0 1073741888 hl);rw[←arc1_fold];simp only[argS,refM]at e1 ⊢;obtain⟨F,hF⟩:∃F,F=finA xs:=⟨_,rfl⟩;rw[←hF]at e1 hfin hfl ⊢;obtain⟨Z,hZ⟩:∃Z,Z=arcA xs:=⟨_,rfl⟩;rw[←hZ]at e1 harc hal ⊢;clear hF hZ hsl hsm;have f0:CU_ (fin1 xs [])= .nilsl:=rfl
 (refine go1 aj0 aj0 aj0 ?_;intros;refine mk_i ?_)
 refine Ae_ (X:={k:Nat//k≤F.length}) (fun k=>⟨[(1,.ref [.int .i64 (sumS xs),BM_ (stL xs),BM_ (ntL xs),Bn_ F,Cb_ Z,St_ xs]),(2,.bx 2 1 0),(3,.bx 3 1 0),(4,.int .i64 k.1)],[⟨2,1,.box [.int .i64 0,.nilsl]⟩,⟨3,1,.box [.int .i64 (sumS xs),CU_ (fin1 xs (F.take k.1))]⟩]⟩) (fun k=>F.length-k.1) ⟨0,by simp⟩ (Sub.lit (by simp[f0])) ?_;rintro⟨k,hk⟩;simp only
 by_cases hlt:k<F.length
 ·obtain⟨q,hq1,hq1',hqm⟩:=Ak_ hlt;obtain⟨q0,q1⟩:=hfin q hqm;obtain⟨u,rfl⟩:∃u:Nat,q=(u:Int):=⟨q.toNat,by omega⟩;rw[cX0]at q1;have e2:=e1 u q1;have hfk:fin1 xs (F.take (k+1))=insC AX_ (fin1 xs (F.take k)) (pF xs u):=VU_ _ _ hq1;have hlk:(fin1 xs (F.take k)).length≤0+(F.take k).length:=PM_ xs (F.take k) [];rw[aY0]at hlk;obtain⟨P,hP⟩:∃P,P=fin1 xs (F.take k):=⟨_,rfl⟩;rw[←hP]at hfk hlk ⊢;have h1:=Gj_ P (pF xs u) (by omega)
  rw[←hfk]at h1;have hp:Ad_ (pF xs u)=[.int .i64 (ownQ xs u:Int),.sl 2 16 []]:=rfl;rw[hp]at h1;have hwk:IntKind.i64.wrap ((k:Int)+1)=(k:Int)+1:=wq;have hA':CU_ (fin1 xs (F.take (k+1)))=Bh_ (fin1 xs (F.take (k+1))):=by rw[hfk];unfold CU_;rw[if_neg (Pw_ _ _)]
  rw[hA']at h1;obtain⟨Y,hY⟩:∃Y,Y=fin1 xs (F.take (k+1)):=⟨_,rfl⟩;rw[←hY]at h1;have hA2:CU_ (fin1 xs (F.take (k+1)))=Bh_ Y:=by rw[hA',hY]
  clear hal hfl harc hfin hlk hP hfk hs10 hA'
  rcases CT_ P with hA | ⟨Z2,hA⟩
  ·rw[hA]at h1;rw[hA]
   (refine go1 (aj2 e2 h1) aj0 (aj5 @dNum.eq_1 hlt hq1 hq1' hwk) ?_;intros;refine mk_i ?_)
   refine Aj_.mk ⟨k+1,by omega⟩ (Sub.lit (by simp[hA2])) (by simp;omega)
   skip
  ·rw[hA]at h1;rw[hA]
   (refine go1 (aj2 e2 h1) aj0 (aj5 @dNum.eq_1 hlt hq1 hq1' hwk) ?_;intros;refine mk_i ?_)
   refine Aj_.mk ⟨k+1,by omega⟩ (Sub.lit (by simp[hA2])) (by simp;omega)
   skip
 ·have hkk:k=F.length:=by omega
  subst hkk;rw[aQ0];have hl0:(fin1 xs F).length≤0+F.length:=PM_ xs F [];obtain⟨P0,hP0⟩:∃P0,P0=fin1 xs F:=⟨_,rfl⟩;rw[←hP0]at hl0 ⊢
  (refine go1 aj0 aj0 aj0 ?_;intros;refine mk_i ?_)
  refine Ae_ (X:={k:Nat//k≤Z.length}) (fun k=>⟨[(1,.ref [.int .i64 (sumS xs),BM_ (stL xs),BM_ (ntL xs),Bn_ F,Cb_ Z,St_ xs]),(2,.bx 2 1 0),(3,.bx 3 1 0),(5,.int .i64 k.1)],[⟨2,1,.box [.int .i64 0,.nilsl]⟩,⟨3,1,.box [.int .i64 (sumS xs),CU_ (arc1 xs P0 (Z.take k.1))]⟩]⟩) (fun k=>Z.length-k.1) ⟨0,by simp⟩ (Sub.lit (by rcases CT_ P0 with hh | ⟨_,hh⟩<;>simp[arc1,hh])) ?_;rintro⟨k,hk⟩;simp only
  by_cases hlt3:k<Z.length
  ·obtain⟨x,hx,hx',hxm⟩:=Ak_ hlt3;obtain⟨x0,x1,x2,x3⟩:=harc x hxm;obtain⟨fr,sy,to⟩:=x;simp only at x0 x1 x2 x3;obtain⟨u,rfl⟩:∃u:Nat,fr=(u:Int):=⟨fr.toNat,by omega⟩;obtain⟨v,rfl⟩:∃v:Nat,to=(v:Int):=⟨to.toNat,by omega⟩;rw[cX0]at x1 x3;have e2:=e1 u x1;have e3:=e1 v x3;have hfk:arc1 xs P0 (Z.take (k+1))=insC AX_ (arc1 xs P0 (Z.take k)) (pA xs ⟨(u:Int),sy,(v:Int)⟩):=VU_ _ _ hx;have hlk:=Wt_ xs (Z.take k) P0
   rw[aY0]at hlk;have hwk:IntKind.i64.wrap ((k:Int)+1)=(k:Int)+1:=wq;obtain⟨P,hP⟩:∃P,P=arc1 xs P0 (Z.take k):=⟨_,rfl⟩;rw[←hP]at hfk hlk ⊢;have hbq:(P.length+1)*32≤150000000000000:=bnd_q (b:=k) (by omega) (by omega);have h1:=Gj_ P (pA xs ⟨(u:Int),sy,(v:Int)⟩) hbq;rw[←hfk]at h1;have hp:Ad_ (pA xs ⟨(u:Int),sy,(v:Int)⟩)=[.int .i64 (ownQ xs u:Int),.sl 2 16 [[.bool sy.label,.int .i64 sy.n],[.bool false,.int .i64 (ownQ xs v:Int)]]]:=rfl
   rw[hp]at h1;have hA':CU_ (arc1 xs P0 (Z.take (k+1)))=Bh_ (arc1 xs P0 (Z.take (k+1))):=by rw[hfk];unfold CU_;rw[if_neg (Pw_ _ _)]
   rw[hA']at h1;obtain⟨Y,hY⟩:∃Y,Y=arc1 xs P0 (Z.take (k+1)):=⟨_,rfl⟩;rw[←hY]at h1;have hA2:CU_ (arc1 xs P0 (Z.take (k+1)))=Bh_ Y:=by rw[hA',hY]
   have hr2:List.range 2=[0,1]:=rfl;clear hal hfl harc hfin hlk hP hfk hs10 hA' hbq hl0
   rcases CT_ P with hA | ⟨Z2,hA⟩
   ·rw[hA]at h1;rw[hA]
    (refine go1 (aj3 e2 e3 h1) aj0 (aj6 @dArc.eq_1 hlt3 hx hx' hwk hr2) ?_;intros;refine mk_i ?_)
    refine Aj_.mk ⟨k+1,by omega⟩ (Sub.lit (by simp[hA2])) (by simp;omega)
    skip
   ·rw[hA]at h1;rw[hA]
    (refine go1 (aj3 e2 e3 h1) aj0 (aj6 @dArc.eq_1 hlt3 hx hx' hwk hr2) ?_;intros;refine mk_i ?_)
    refine Aj_.mk ⟨k+1,by omega⟩ (Sub.lit (by simp[hA2])) (by simp;omega)
    skip
  ·have hkk:k=Z.length:=by omega
   subst hkk;rw[aQ0]
   rcases CT_ (arc1 xs P0 Z)with hA | ⟨Z2,hA⟩
   ·have hA3:CU_ (arc1 xs (fin1 xs F) Z)= .nilsl:=by rw[←hP0];exact hA
    rw[hA];exact go0 aj0 aj0 (aj1 hA3)
   ·have hA3:CU_ (arc1 xs (fin1 xs F) Z)=Bh_ Z2:=by rw[←hP0];exact hA
    rw[hA];exact go0 aj0 aj0 (aj1 hA3)
end Go.Proofs.YtchgnpnbcjflcaaGreat
end
section
namespace Go.Proofs.YtchgnpnbcjflcaaGreat
open Go Go.Dm
variable [DMode]
attribute [local irreducible] DW Bj_ Bp_
set_option maxRecDepth 100000
structure Mk where
 nts:Int
 prods:List Prod
 hs:List (Int×Int)
 no:Int
def dKey (p:Int×Int):DVal:= .int .i64 p.1
def Gp_ (p:Int×Int):DVal:= .int .i64 p.2
def dMk (v:Nat) (m:Mk):List Ent:=[⟨0,0,.box [.int .i64 m.nts,.osl 1 v,.omp 2 0,.int .i64 m.no]⟩,⟨1,v,.row 92 2 32 (m.prods.map Ad_)⟩,⟨2,0,.map (m.hs.map dKey) (m.hs.map Gp_)⟩]
@[simp] theorem mxL_keys (l:List (Int×Int)):mxL (l.map dKey)=0:=by induction l<;>simp_all [mxL,mx,dKey]
@[simp] theorem mxL_helps (l:List (Int×Int)):mxL (l.map Gp_)=0:=by induction l<;>simp_all [mxL,mx,Gp_]
def WY_ : Ann:=⟨[],[]⟩
theorem Fp_ (m:Mk) (h1: -9223372036854775808≤m.nts) (h2:m.nts+1≤9223372036854775807):AM_ Tryz.prog (.func 299) [.bx 0 0 0] (dMk 0 m) (.int .i64 m.nts) (dMk 1 { m with nts:=m.nts+1 }):=by
 refine AP_ [] [(0,0,0),(1,1,1),(2,2,0)] WY_ Tryz.func299 Tryz.call299 Tryz.ntmps299 mxd (aj2 @WY_.eq_1 Tryz.results299) rfl (by simp) (by simp) (by simp[dMk]) fun hwf B hnt hgAnn=> ?_
 simp only[argS];exact go0 aj0 aj0 (aj1 @dMk.eq_1)
def WZ_ : Ann:=⟨[],[]⟩
theorem GF_ (m:Mk) (h:Int) (b:List Sym) (hb:(m.prods.length+1)*32≤150000000000000):AM_ Tryz.prog (.func 213) [.bx 0 0 0,.int .i64 h,AR_ b] (dMk 0 m) (.tup []) (dMk 1 { m with prods:=m.prods++[⟨h,b⟩] }):=by
 refine AP_ [] [(0,0,0),(1,1,1),(2,2,0)] WZ_ Tryz.func213 Tryz.call213 Tryz.ntmps213 mxd (aj2 @WZ_.eq_1 Tryz.results213) rfl (by simp) (by simp) (by simp[dMk]) fun hwf B hnt hgAnn=> ?_
 simp only[argS];exact go0 aj0 aj0 (aj2 @dMk.eq_1 @Ad_.eq_1)
def Mk.put (m:Mk) (h:Int) (b:List Sym):Mk:={ m with prods:=m.prods++[⟨h,b⟩] }
def Mk.nothing (m:Mk):Mk:=if m.no=0 then { m with nts:=m.nts+1,no:=m.nts,prods:=m.prods++[⟨m.nts,[]⟩] }else m
def GY_ : Ann:=⟨[10,18],[]⟩
theorem Rx_ (m:Mk) (h1: -9223372036854775808≤m.nts) (h2:m.nts+1≤9223372036854775807) (h3:(m.prods.length+1)*32≤150000000000000) :
  AM_ Tryz.prog (.func 215) [.bx 0 0 0] (dMk 0 m) (.int .i64 m.nothing.no) (dMk 1 m.nothing):=by
 refine AP_ [] [(0,0,0),(1,1,1),(2,2,0)] GY_ Tryz.func215 Tryz.call215 Tryz.ntmps215 mxd (aj2 @GY_.eq_1 Tryz.results215) rfl (by simp) (by simp) (by simp[dMk]) fun hwf B hnt hgAnn=> ?_
 simp only[argS]
 by_cases h:m.no=0
 ·(repeat (first | refine Aw_ fun K hK=> ?_ | (refine DW_r GY_ mxd (by kernel_rfl) ?_;simp[GY_,hnt,dMk,h,Mk.nothing,AR_];try simp (disch:=omega) only[Ah_]) | refine Al_ ?_ | (refine AJ_ ?_ ?_ ?_;(· (simp[hnt,dMk,h,Mk.nothing,AR_];done));(try (rotate_left;(· (intro hc;(try simp[hnt,dMk,h,Mk.nothing,AR_]at hc);done))))) | (refine Ay_ ?_;simp[Tryz.results215,hnt,dMk,h,Mk.nothing,AR_]) | ((first | refine Aq_ ?_ | refine Ap_ ?_);simp[hnt,dMk,h,Mk.nothing,AR_]) | (intro hc;(try simp[hnt,dMk,h,Mk.nothing,AR_]at hc);(try (exfalso;omega))) | (refine Az_ [(0,0),(1,1),(2,2)] [] (Fp_ m h1 h2) ?_ ?_;(· (simp[hnt,dMk,h,Mk.nothing,AR_];done));(intro _;try simp[hnt,dMk,h,Mk.nothing,AR_])) | (refine Az_ [(0,0),(1,1),(2,2)] [] (GF_ { m with nts:=m.nts+1,no:=m.nts } m.nts [] h3) ?_ ?_;(· (simp[hnt,dMk,h,Mk.nothing,AR_];done));(intro _;try simp[hnt,dMk,h,Mk.nothing,AR_])) | (refine⟨?_,?_⟩; · omega) | omega | apply_assumption -exfalso -symm | (exfalso;omega)))
 ·(repeat (first | refine Aw_ fun K hK=> ?_ | (refine DW_r GY_ mxd (by kernel_rfl) ?_;simp[GY_,hnt,dMk,h,Mk.nothing,AR_];try simp (disch:=omega) only[Ah_]) | refine Al_ ?_ | (refine AJ_ ?_ ?_ ?_;(· (simp[hnt,dMk,h,Mk.nothing,AR_];done));(try (rotate_left;(· (intro hc;(try simp[hnt,dMk,h,Mk.nothing,AR_]at hc);done))))) | (refine Ay_ ?_;simp[Tryz.results215,hnt,dMk,h,Mk.nothing,AR_]) | ((first | refine Aq_ ?_ | refine Ap_ ?_);simp[hnt,dMk,h,Mk.nothing,AR_]) | (intro hc;(try simp[hnt,dMk,h,Mk.nothing,AR_]at hc);(try (exfalso;omega))) | (refine Az_ [(0,0),(1,1),(2,2)] [] (Fp_ m h1 h2) ?_ ?_;(· (simp[hnt,dMk,h,Mk.nothing,AR_];done));(intro _;try simp[hnt,dMk,h,Mk.nothing,AR_])) | (refine Az_ [(0,0),(1,1),(2,2)] [] (GF_ { m with nts:=m.nts+1,no:=m.nts } m.nts [] h3) ?_ ?_;(· (simp[hnt,dMk,h,Mk.nothing,AR_];done));(intro _;try simp[hnt,dMk,h,Mk.nothing,AR_])) | (refine⟨?_,?_⟩; · omega) | omega | apply_assumption -exfalso -symm | (exfalso;omega)))
def Mk.look (m:Mk) (a:Int):Option Nat:=AQ_ (m.hs.map dKey) (.int .i64 a)
end Go.Proofs.YtchgnpnbcjflcaaGreat
end
section
namespace Go.Proofs.YtchgnpnbcjflcaaGreat
open Go Go.Dm
variable [DMode]
attribute [local irreducible] DW Bj_ Bp_
def As_ : List Sym→Int
 | []=>1
 | [s]=>if s.label then 2 else 0
 | [s,t]=>if !s.label&& !t.label then 3 else 0
 | _=>0
def Xf_ : Ann:=⟨[],[]⟩
set_option maxRecDepth 100000 in
theorem OZ_ (l:List Sym):Ac_ Tryz.prog 151 [AR_ l] (.int .i64 (As_ l)):=by
 refine Aa_ [] Xf_ Tryz.func151 Tryz.call151 Tryz.ntmps151 mxd (aj2 @Xf_.eq_1 Tryz.results151) rfl (by simp) (by simp[mx]) fun hwf B hnt hgAnn=> ?_
 simp only[argS]
 match l with
 | []=>exact go0 aj0 aj0 (aj5 @dSym.eq_1 @As_.eq_1 @As_.eq_2 @As_.eq_3 @As_.eq_4)
 | [s] =>
  cases hl:s.label<;>exact go0 aj0 aj0 (aj6 @dSym.eq_1 @As_.eq_1 @As_.eq_2 @As_.eq_3 @As_.eq_4 hl)
 | [s,t] =>
  exact go0 aj0 aj0 (aj5 @dSym.eq_1 @As_.eq_1 @As_.eq_2 @As_.eq_3 @As_.eq_4)
 | s::t::u::r =>
  exact go0 aj0 aj0 (aj5 @dSym.eq_1 @As_.eq_1 @As_.eq_2 @As_.eq_3 @As_.eq_4)
end Go.Proofs.YtchgnpnbcjflcaaGreat
end
section
namespace Go.Proofs.YtchgnpnbcjflcaaGreat
open Go Go.Dm
variable [DMode]
attribute [local irreducible] DW Bj_ Bp_
set_option maxRecDepth 100000
def KS_ : Ann:=⟨[],[]⟩
theorem Ki_ (g:FuncId) (us cs:List DVal) (l:List Sym) (q:Sym→Bool) (hq:∀x∈l,Ac_ Tryz.prog g (us++[.agg (dSym x)]++cs) (.bool (q x))) :
  Ac_ Tryz.prog 198 [AR_ l,.fn (.func g) us cs] (.int .i64 (if l.any q then ((l.findIdx q:Nat):Int)else -1)):=by
 refine Aa_ [] KS_ Tryz.func198 Tryz.call198 Tryz.ntmps198 mxd (aj2 @KS_.eq_1 Tryz.results198) rfl (by simp) (by simp[mx]) fun hwf B hnt hgAnn=> ?_
 have hw:YG_ l:=QA_ hwf.1;obtain⟨hw1,hw2,hw3⟩:=hw;clear hwf hw3;simp only[argS]
 (refine go1 aj0 aj0 aj0 ?_;intros;refine mk_i ?_)
 refine Ae_ (X:={k:Nat//k≤l.length∧∀i x,i<k→l[i]? =some x→q x=false}) (fun x=>⟨[(0,AR_ l),(1,.fn (.func g) us cs),(7,.int .i64 l.length),(8,.int .i64 x.1)],[]⟩) (fun x=>l.length-x.1) ⟨0,by simp⟩ (Sub.lit (by simp)) ?_;rintro⟨k,hk,hno⟩
 by_cases hlt:k<l.length
 ·obtain⟨x,hx,hx',hxm⟩:=Ak_ hlt;have hqx:=hq x hxm;simp only[dSym,aU0,List.cons_append,List.nil_append]at hqx;cases hb:q x
  ·rw[hb]at hqx
   have hno':∀i y,i<k+1→l[i]? =some y→q y=false:=by
    intro i y hi hy
    by_cases hik:i=k
    ·subst hik;rw[hx]at hy;simp only[aA0]at hy;subst hy;exact hb
    ·exact hno i y (by omega) hy
   (refine go1 (aj1 hqx) aj0 (aj3 @dSym.eq_1 hlt hx') ?_;intros;refine mk_i ?_)
   exact Aj_.mk ⟨k+1,by omega,hno'⟩ (Sub.lit (by simp[])) (by simp;omega)
   skip
  ·rw[hb]at hqx;have hany:l.any q=true:=bZ0.2 ⟨x,hxm,hb⟩
   have hidx:l.findIdx q=k:=by
    rw[List.findIdx_eq hlt];refine⟨by rw[hx'];exact hb,fun i hi=> ?_⟩;exact hno i _ hi (aH0 (by omega))
   exact go0 (aj1 hqx) aj0 (aj5 @dSym.eq_1 hlt hx' hany hidx)
 ·have hkk:k=l.length:=by omega
  have hany:l.any q=false:=by
   rw[dA0];intro x hx;obtain⟨i,hi,rfl⟩:=bN0 hx;rw[hno i _ (by omega) (aH0 hi)];simp
  (repeat (first | refine Aw_ fun K hK=> ?_ | (refine DW_r KS_ mxd (by kernel_rfl) ?_;simp[KS_,hnt,dSym,hkk,hany];try simp (disch:=omega) only[Ah_]) | refine Al_ ?_ | (refine AJ_ ?_ ?_ ?_;(· (simp[hnt,dSym,hkk,hany];done));(try (rotate_left;(· (intro hc;(try simp[hnt,dSym,hkk,hany]at hc);done))))) | (refine Ay_ ?_;simp[Tryz.results198,hnt,dSym,hkk,hany]) | ((first | refine Aq_ ?_ | refine Ap_ ?_);simp[hnt,dSym,hkk,hany]) | (intro hc;(try simp[hnt,dSym,hkk,hany]at hc);(try (exfalso;omega))) | ((first | refine Ag_ (hqx) ?_ | (refine Af_ (hqx) ?_ ?_;(· (simp;done))));try simp[hnt,dSym,hkk,hany]) | (refine⟨?_,?_⟩; · omega) | omega | apply_assumption -exfalso -symm | (exfalso;omega)))
def WV_ : Ann:=⟨[],[]⟩
theorem HX_ (g:FuncId) (us cs:List DVal) (l:List Sym) (q:Sym→Bool) (hq:∀x∈l,Ac_ Tryz.prog g (us++[.agg (dSym x)]++cs) (.bool (q x))) :
  Ac_ Tryz.prog 127 [AR_ l,.fn (.func g) us cs] (.bool (l.any q)):=by
 refine Aa_ [] WV_ Tryz.func127 Tryz.call127 Tryz.ntmps127 mxd (aj2 @WV_.eq_1 Tryz.results127) rfl (by simp) (by simp[mx]) fun hwf B hnt hgAnn=> ?_
 simp only[argS];have hi:=Ki_ g us cs l q hq;have hge:(0:Int)≤(l.findIdx q:Nat):=by omega
 cases hb:l.any q
 ·rw[hb]at hi;exact go0 (aj1 hi) aj0 (aj1 hb)
 ·rw[hb]at hi;exact go0 (aj1 hi) aj0 (aj1 hb)
def ntOK (c:Cnf) (n:Int):Bool:=decide (0≤n)&&decide (n<c.nts)
def CE_ (c:Cnf) (s:Sym):Bool:=s.label&&(decide (s.n<0)||decide (16≤s.n))|| !s.label&& !ntOK c s.n
def BA_ (c:Cnf) (p:Prod):Bool:=ntOK c p.head&& !p.body.any (CE_ c)
def Bi_ (c:Cnf):Bool:=decide (1≤c.nts)&&decide (c.nts≤1024)&&c.prods.all (BA_ c)
def Xi_ : Ann:=⟨[],[]⟩
theorem Da_ (c:Cnf) (n:Int):Ac_ Tryz.prog 126 [.int .i64 n,.ref [.int .i64 c.nts,Bh_ c.prods]] (.bool (ntOK c n)):=by
 refine Aa_ [] Xi_ Tryz.func126 Tryz.call126 Tryz.ntmps126 mxd (aj2 @Xi_.eq_1 Tryz.results126) rfl (by simp) (by simp[mx]) fun hwf B hnt hgAnn=> ?_
 simp only[argS]
 by_cases h1:0≤n<;>by_cases h2:n<c.nts<;>exact go0 aj0 aj0 (aj3 h1 h2 @ntOK.eq_1)
abbrev dNt (c:Cnf):DVal:= .fn (.func 126) [] [.ref [.int .i64 c.nts,Bh_ c.prods]]
def Xh_ : Ann:=⟨[],[]⟩
theorem Um_ (c:Cnf) (s:Sym):Ac_ Tryz.prog 128 [.agg [.bool s.label,.int .i64 s.n],.ref [dNt c]] (.bool (CE_ c s)):=by
 refine Aa_ [] Xh_ Tryz.func128 Tryz.call128 Tryz.ntmps128 mxd (aj2 @Xh_.eq_1 Tryz.results128) rfl (by simp) (by simp[mx]) fun hwf B hnt hgAnn=> ?_
 simp only[argS];cases hl:s.label
 ·cases hb:ntOK c s.n<;>exact go0 (aj1 (Da_ c s.n)) aj0 (aj3 hl hb @CE_.eq_1)
 ·by_cases h1:s.n<0<;>by_cases h2:16≤s.n<;>exact go0 (aj1 (Da_ c s.n)) aj0 (aj4 hl h1 h2 @CE_.eq_1)
def JD_ : Ann:=⟨[],[⟨1,[3],[],[]⟩,⟨5,[6],[],[]⟩]⟩
set_option maxHeartbeats 4000000 in
theorem GR_ (c:Cnf):Ac_ Tryz.prog 43 [.agg (dCnf c)] (.int .i64 (if Bi_ c then 0 else 220)):=by
 refine Aa_ [] JD_ Tryz.func43 Tryz.call43 Tryz.ntmps43 mxd (aj2 @JD_.eq_1 Tryz.results43) rfl (by simp) (by simp[mx]) fun hwf B hnt hgAnn=> ?_
 have hw:wCnf c:=SY_ (by simpa[wfL,wfD]using hwf.1);obtain⟨hw1,hw2,hw3,hw4⟩:=hw;clear hwf hw1;simp only[argS]
 have FI_:∀k,(hk:k<c.prods.length)→(c.prods.take (k+1)).all (BA_ c)=((c.prods.take k).all (BA_ c)&&BA_ c c.prods[k]):=by
  intro k hk;rw[dR0 hk,eU0];simp
 obtain⟨b0,hb0⟩:∃b0:Bool,b0=(decide (1≤c.nts)&&decide (c.nts≤1024)):=⟨_,rfl⟩;have hfin:Bi_ c=(b0&&c.prods.all (BA_ c)):=by rw[hb0];rfl
 by_cases h1:1≤c.nts<;>by_cases h2:c.nts≤1024<;>simp only[h1,h2,decide_true,decide_false,fE0,dQ0]at hb0<;>(repeat (first | refine Aw_ fun K hK=> ?_ | (refine DW_r JD_ mxd (by kernel_rfl) ?_;simp[JD_,hnt,dCnf,h1,h2];try simp (disch:=omega) only[Ah_]) | refine Al_ ?_ | (refine AJ_ ?_ ?_ ?_;(· (simp[hnt,dCnf,h1,h2];done));(try (rotate_left;(· (intro hc;(try simp[hnt,dCnf,h1,h2]at hc);done))))) | (refine Ay_ ?_;simp[Tryz.results43,hnt,dCnf,h1,h2]) | ((first | refine Aq_ ?_ | refine Ap_ ?_);simp[hnt,dCnf,h1,h2]) | (intro hc;(try simp[hnt,dCnf,h1,h2]at hc);(try (exfalso;omega))) | (refine⟨?_,?_⟩; · omega) | omega | apply_assumption -exfalso -symm | (exfalso;omega)))
 all_goals
  refine Ae_ (X:={k:Nat//k≤c.prods.length}) (fun k=>⟨[(1,.ref [.int .i64 c.nts,Bh_ c.prods]),(3,.ref [dNt c]),(4,.bool (b0&&(c.prods.take k.1).all (BA_ c))),(17,Bh_ c.prods),(18,.int .i64 c.prods.length),(19,.int .i64 k.1)],[]⟩) (fun k=>c.prods.length-k.1) ⟨0,by simp⟩ (Sub.lit (by simp[hb0])) ?_;rintro⟨k,hk⟩
  by_cases hlt:k<c.prods.length
  ·obtain⟨p,hp,hp',hpm⟩:=Ak_ hlt;have hst:=FI_ k hlt;rw[hp']at hst;obtain⟨b,hb⟩:∃b:Bool,b=(b0&&(c.prods.take k).all (BA_ c)):=⟨_,rfl⟩;have hb1:(b0&&(c.prods.take (k+1)).all (BA_ c))=(b&&BA_ c p):=by rw[hst,hb,Bool.and_assoc]
   have hq:=HX_ 128 [] [.ref [dNt c]] p.body (CE_ c) (fun x _=>Um_ c x);simp only[←hb];cases b
   ·(refine go1 (aj2 (Da_ c p.head) hq) aj0 (aj5 @dCnf.eq_1 @Ad_.eq_1 hlt hp' hb1) ?_;intros;refine mk_i ?_)
    refine Aj_.mk ⟨k+1,by omega⟩ (Sub.lit (by simp[hb1])) (by simp;omega)
    skip
   ·cases hn:ntOK c p.head
    ·(refine go1 (aj2 (Da_ c p.head) hq) aj0 (aj6 @dCnf.eq_1 @Ad_.eq_1 hlt hp' hb1 hn) ?_;intros;refine mk_i ?_)
     refine Aj_.mk ⟨k+1,by omega⟩ (Sub.lit (by simp[hb1,BA_,hn])) (by simp;omega)
     skip
    ·cases ha:p.body.any (CE_ c)
     ·rw[ha]at hq
      (refine go1 (aj2 (Da_ c p.head) hq) aj0 (aj7 @dCnf.eq_1 @Ad_.eq_1 hlt hp' hb1 hn ha) ?_;intros;refine mk_i ?_)
      refine Aj_.mk ⟨k+1,by omega⟩ (Sub.lit (by simp[hb1,BA_,hn,ha])) (by simp;omega)
      skip
     ·rw[ha]at hq
      (refine go1 (aj2 (Da_ c p.head) hq) aj0 (aj7 @dCnf.eq_1 @Ad_.eq_1 hlt hp' hb1 hn ha) ?_;intros;refine mk_i ?_)
      refine Aj_.mk ⟨k+1,by omega⟩ (Sub.lit (by simp[hb1,BA_,hn,ha])) (by simp;omega)
      skip
  ·have hkk:k=c.prods.length:=by omega
   subst hkk;rw[aQ0]at *;cases hcn:Bi_ c<;>rw[hcn]at hfin<;>(repeat (first | refine Aw_ fun K hK=> ?_ | (refine DW_r JD_ mxd (by kernel_rfl) ?_;simp[JD_,hnt,dCnf,hcn,←hfin];try simp (disch:=omega) only[Ah_]) | refine Al_ ?_ | (refine AJ_ ?_ ?_ ?_;(· (simp[hnt,dCnf,hcn,←hfin];done));(try (rotate_left;(· (intro hc;(try simp[hnt,dCnf,hcn,←hfin]at hc);done))))) | (refine Ay_ ?_;simp[Tryz.results43,hnt,dCnf,hcn,←hfin]) | ((first | refine Aq_ ?_ | refine Ap_ ?_);simp[hnt,dCnf,hcn,←hfin]) | (intro hc;(try simp[hnt,dCnf,hcn,←hfin]at hc);(try (exfalso;omega))) | (refine⟨?_,?_⟩; · omega) | omega | apply_assumption -exfalso -symm | (exfalso;omega)))
end Go.Proofs.YtchgnpnbcjflcaaGreat
end
section
namespace Go.Proofs.YtchgnpnbcjflcaaGreat
open Go Go.Dm
variable [DMode]
def nS (n:Int):Sym:=⟨false,n⟩
def DE_ : List (Int×Int)→Int→Option Int
 | [],_=>none
 | (k,h)::l,a=>if a=k then some h else DE_ l a
def Mk.sym (m:Mk) (s:Sym):Mk×Int :=
 if s.label then match DE_ m.hs s.n with
  | some h=>(m,h)
  | none=>({ m with nts:=m.nts+1,hs:=m.hs++[(s.n,m.nts)],prods:=m.prods++[⟨m.nts,[s]⟩] },m.nts)
 else (m,s.n)
def Mk.syms (m:Mk):List Sym→Mk×List Int
 | []=>(m,[])
 | s::l=>(((m.sym s).1.syms l).1,(m.sym s).2::((m.sym s).1.syms l).2)
def CQ_ (nts head:Int):List Int→List Prod
 | []=>[]
 | [_]=>[]
 | [a,b]=>[⟨head,[nS a,nS b]⟩]
 | a::b::c::r=>⟨head,[nS a,nS nts]⟩::CQ_ (nts+1) nts (b::c::r)
def Mk.chain (m:Mk) (h:Int) (ns:List Int):Mk:={ m with nts:=m.nts+(ns.length-2:Nat),prods:=m.prods++CQ_ m.nts h ns }
def Mk.add (m:Mk) (p:Prod):Mk :=
 if As_ p.body=1∨As_ p.body=2 then m.put p.head p.body
 else if p.body.length=1 then (m.syms p.body).1.nothing.chain p.head ((m.syms p.body).2++[(m.syms p.body).1.nothing.no])
 else (m.syms p.body).1.chain p.head (m.syms p.body).2
def Mk.adds : Mk→List Prod→Option Mk
 | m,[]=>some m
 | m,p::l=>if 1024<(m.add p).nts then none else (m.add p).adds l
theorem Ks_ (m:Mk) (l:List Sym):(m.syms l).2.length=l.length:=by
 induction l generalizing m with
 | nil=>rfl
 | cons s l ih=>simp[Mk.syms,ih]
theorem Oa_ : ∀(l:List Int) (nts head:Int),(CQ_ nts head l).length=l.length-1
 | [],_,_=>rfl
 | [_],_,_=>rfl
 | [_,_],_,_=>rfl
 | _::b::c::r,_,_=>by simp[CQ_,Oa_ (b::c::r)]
def Mk.gap (m:Mk):Int:=(m.prods.length:Int)-m.nts
theorem Ti_ (m:Mk) (s:Sym):(m.sym s).1.gap=m.gap∧m.nts≤(m.sym s).1.nts∧(m.sym s).1.nts≤m.nts+1:=by
 unfold Mk.sym
 split
 ·split
  ·exact⟨rfl,Int.le_refl _,Int.le_add_of_nonneg_right (by decide)⟩
  ·simp only[Mk.gap,aC0,List.length_cons,List.length_nil];exact⟨by omega,by omega,by omega⟩
 ·exact⟨rfl,Int.le_refl _,Int.le_add_of_nonneg_right (by decide)⟩
theorem Il_ (l:List Sym):∀(m:Mk),(m.syms l).1.gap=m.gap∧m.nts≤(m.syms l).1.nts∧(m.syms l).1.nts≤m.nts+l.length:=by
 induction l with
 | nil=>intro m;simp[Mk.syms]
 | cons s l ih =>
  intro m;obtain⟨h1,h2,h3⟩:=Ti_ m s;obtain⟨h4,h5,h6⟩:=ih (m.sym s).1;simp only[Mk.syms,List.length_cons];exact⟨by omega,by omega,by omega⟩
theorem HM_ (m:Mk):m.nothing.gap=m.gap∧m.nts≤m.nothing.nts∧m.nothing.nts≤m.nts+1:=by
 unfold Mk.nothing
 split
 ·simp only[Mk.gap,aC0,List.length_cons,List.length_nil];exact⟨by omega,by omega,by omega⟩
 ·exact⟨rfl,Int.le_refl _,Int.le_add_of_nonneg_right (by decide)⟩
theorem Sx_ (m:Mk) (h:Int) (ns:List Int) (hl:2≤ns.length):(m.chain h ns).gap=m.gap+1∧(m.chain h ns).nts=m.nts+ns.length-2:=by
 simp only[Mk.chain,Mk.gap,aC0,Oa_];exact⟨by omega,by omega⟩
theorem PG_ {l:List Sym} (h1:¬As_ l=1) (h2:¬As_ l=2):1≤l.length:=by
 cases l with
 | nil=>exact absurd rfl h1
 | cons s l=>simp
theorem Qs_ (m:Mk) (p:Prod):(m.add p).gap=m.gap+1∧m.nts≤(m.add p).nts∧(m.nts+p.body.length-2≤(m.add p).nts)∧(m.add p).nts≤m.nts+2*p.body.length+1:=by
 obtain⟨h1,h2,h3⟩:=Il_ p.body m;have h0:=Ks_ m p.body;unfold Mk.add
 split
 ·rename_i hf
  have hl:p.body.length≤1:=by
   match hb:p.body with
   | []=>simp
   | [s]=>simp
   | [s,t]=>rw[hb]at hf;simp only[As_]at hf;split at hf<;>simp at hf
   | s::t::u::r=>rw[hb]at hf;simp[As_]at hf
  simp only[Mk.put,Mk.gap,aC0,List.length_cons,List.length_nil];exact⟨by omega,by omega,by omega,by omega⟩
 ·rename_i hf;have hl:=PG_ (fun h=>hf (.inl h)) (fun h=>hf (.inr h))
  split
  ·rename_i h4;obtain⟨g1,g2,g3⟩:=HM_ (m.syms p.body).1;obtain⟨c1,c2⟩:=Sx_ (m.syms p.body).1.nothing p.head ((m.syms p.body).2++[(m.syms p.body).1.nothing.no]) (by simp;omega);simp only[aC0,List.length_cons,List.length_nil]at c2;exact⟨by omega,by omega,by omega,by omega⟩
  ·obtain⟨c1,c2⟩:=Sx_ (m.syms p.body).1 p.head (m.syms p.body).2 (by omega);exact⟨by omega,by omega,by omega,by omega⟩
end Go.Proofs.YtchgnpnbcjflcaaGreat
end
section
namespace Go.Proofs.YtchgnpnbcjflcaaGreat
open Go Go.Dm
variable [DMode]
attribute [local irreducible] DW Bj_ Bp_
set_option maxRecDepth 100000

@[local simp] theorem mx_rev (l:List Sym):mxR (l.map dSym).reverse=0:=by rw[←List.map_reverse];exact mx_dSyms _
def Xg_ : Ann:=⟨[],[]⟩
theorem ZD_ (c:Cnf):Ac_ Tryz.prog 144 [.agg (dCnf c)] (if Bi_ c then .tup [.agg (dCnf (Br_ c)),.int .i64 0]else .tup [.agg [.int .i64 0,.nilsl],.int .i64 220]):=by
 refine Aa_ [] Xg_ Tryz.func144 Tryz.call144 Tryz.ntmps144 mxd (aj2 @Xg_.eq_1 Tryz.results144) rfl (by simp) (by cases Bi_ c<;>simp[mx,dCnf]) fun hwf B hnt hgAnn=> ?_
 simp only[argS];have h1:=GR_ c;have h2:=Ln_ c;cases hb:Bi_ c
 ·rw[hb]at h1;exact go0 (aj2 h1 h2) aj0 (aj1 @dCnf.eq_1)
 ·rw[hb]at h1;exact go0 (aj2 h1 h2) aj0 (aj1 @dCnf.eq_1)

end Go.Proofs.YtchgnpnbcjflcaaGreat
end
section
namespace Go.Proofs.YtchgnpnbcjflcaaGreat
open Go Go.Dm
variable [DMode]
attribute [local irreducible] DW Bj_ Bp_

end Go.Proofs.YtchgnpnbcjflcaaGreat
end
section
namespace Go.Proofs.YtchgnpnbcjflcaaGreat
open Go Go.Dm
variable [DMode]
attribute [local irreducible] DW Bj_ Bp_
set_option maxRecDepth 100000
def KV_ : Ann:=⟨[],[]⟩
theorem Kj_ (g:FuncId) (us cs:List DVal) (l:List Prod) (q:Prod→Bool) (hq:∀x∈l,Ac_ Tryz.prog g (us++[.agg (Ad_ x)]++cs) (.bool (q x))) :
  Ac_ Tryz.prog 219 [Bh_ l,.fn (.func g) us cs] (.int .i64 (if l.any q then ((l.findIdx q:Nat):Int)else -1)):=by
 refine Aa_ [] KV_ Tryz.func219 Tryz.call219 Tryz.ntmps219 mxd (aj2 @KV_.eq_1 Tryz.results219) rfl (by simp) (by simp[mx]) fun hwf B hnt hgAnn=> ?_
 have hw:UH_ l:=SX_ hwf.1;obtain⟨hw1,hw2,hw3⟩:=hw;clear hwf hw3;simp only[argS]
 (refine go1 aj0 aj0 aj0 ?_;intros;refine mk_i ?_)
 refine Ae_ (X:={k:Nat//k≤l.length∧∀i x,i<k→l[i]? =some x→q x=false}) (fun x=>⟨[(0,Bh_ l),(1,.fn (.func g) us cs),(7,.int .i64 l.length),(8,.int .i64 x.1)],[]⟩) (fun x=>l.length-x.1) ⟨0,by simp⟩ (Sub.lit (by simp)) ?_;rintro⟨k,hk,hno⟩
 by_cases hlt:k<l.length
 ·obtain⟨x,hx,hx',hxm⟩:=Ak_ hlt;have hqx:=hq x hxm;simp only[Ad_,aU0,List.cons_append,List.nil_append]at hqx;cases hb:q x
  ·rw[hb]at hqx
   have hno':∀i y,i<k+1→l[i]? =some y→q y=false:=by
    intro i y hi hy
    by_cases hik:i=k
    ·subst hik;rw[hx]at hy;simp only[aA0]at hy;subst hy;exact hb
    ·exact hno i y (by omega) hy
   (refine go1 (aj1 hqx) aj0 (aj3 @Ad_.eq_1 hlt hx') ?_;intros;refine mk_i ?_)
   exact Aj_.mk ⟨k+1,by omega,hno'⟩ (Sub.lit (by simp[])) (by simp;omega)
   skip
  ·rw[hb]at hqx;have hany:l.any q=true:=bZ0.2 ⟨x,hxm,hb⟩
   have hidx:l.findIdx q=k:=by
    rw[List.findIdx_eq hlt];refine⟨by rw[hx'];exact hb,fun i hi=> ?_⟩;exact hno i _ hi (aH0 (by omega))
   exact go0 (aj1 hqx) aj0 (aj5 @Ad_.eq_1 hlt hx' hany hidx)
 ·have hkk:k=l.length:=by omega
  have hany:l.any q=false:=by
   rw[dA0];intro x hx;obtain⟨i,hi,rfl⟩:=bN0 hx;rw[hno i _ (by omega) (aH0 hi)];simp
  (repeat (first | refine Aw_ fun K hK=> ?_ | (refine DW_r KV_ mxd (by kernel_rfl) ?_;simp[KV_,hnt,Ad_,hkk,hany];try simp (disch:=omega) only[Ah_]) | refine Al_ ?_ | (refine AJ_ ?_ ?_ ?_;(· (simp[hnt,Ad_,hkk,hany];done));(try (rotate_left;(· (intro hc;(try simp[hnt,Ad_,hkk,hany]at hc);done))))) | (refine Ay_ ?_;simp[Tryz.results219,hnt,Ad_,hkk,hany]) | ((first | refine Aq_ ?_ | refine Ap_ ?_);simp[hnt,Ad_,hkk,hany]) | (intro hc;(try simp[hnt,Ad_,hkk,hany]at hc);(try (exfalso;omega))) | ((first | refine Ag_ (hqx) ?_ | (refine Af_ (hqx) ?_ ?_;(· (simp;done))));try simp[hnt,Ad_,hkk,hany]) | (refine⟨?_,?_⟩; · omega) | omega | apply_assumption -exfalso -symm | (exfalso;omega)))
def Xa_ : Ann:=⟨[],[]⟩
theorem HY_ (g:FuncId) (us cs:List DVal) (l:List Prod) (q:Prod→Bool) (hq:∀x∈l,Ac_ Tryz.prog g (us++[.agg (Ad_ x)]++cs) (.bool (q x))) :
  Ac_ Tryz.prog 149 [Bh_ l,.fn (.func g) us cs] (.bool (l.any q)):=by
 refine Aa_ [] Xa_ Tryz.func149 Tryz.call149 Tryz.ntmps149 mxd (aj2 @Xa_.eq_1 Tryz.results149) rfl (by simp) (by simp[mx]) fun hwf B hnt hgAnn=> ?_
 simp only[argS];have hi:=Kj_ g us cs l q hq;have hge:(0:Int)≤(l.findIdx q:Nat):=by omega
 cases hb:l.any q
 ·rw[hb]at hi;exact go0 (aj1 hi) aj0 (aj1 hb)
 ·rw[hb]at hi;exact go0 (aj1 hi) aj0 (aj1 hb)
def CX_ (p:Prod):Bool:=As_ p.body==0
def CZ_ (c:Cnf):Bool:=Bi_ c&& !c.prods.any CX_
def Xl_ : Ann:=⟨[],[]⟩
theorem is1_pure (p:Prod):Ac_ Tryz.prog 150 [.agg (Ad_ p)] (.bool (CX_ p)):=by
 refine Aa_ [] Xl_ Tryz.func150 Tryz.call150 Tryz.ntmps150 mxd (aj2 @Xl_.eq_1 Tryz.results150) rfl (by simp) (by simp[mx]) fun hwf B hnt hgAnn=> ?_
 simp only[argS];exact go0 (aj1 (OZ_ p.body)) aj0 (aj2 @Ad_.eq_1 @CX_.eq_1)
def anW1358 : Ann:=⟨[],[]⟩
theorem is_pure (c:Cnf):Ac_ Tryz.prog 58 [.agg (dCnf c)] (.bool (CZ_ c)):=by
 refine Aa_ [] anW1358 Tryz.func58 Tryz.call58 Tryz.ntmps58 mxd (aj2 @anW1358.eq_1 Tryz.results58) rfl (by simp) (by simp[mx]) fun hwf B hnt hgAnn=> ?_
 simp only[argS];have hq:=HY_ 150 [] [] c.prods CX_ (fun x _=>is1_pure x);have hc:=GR_ c;simp only[dCnf]at hc;cases h1:Bi_ c
 ·rw[h1]at hc;exact go0 (aj2 hc hq) aj0 (aj3 @dCnf.eq_1 @CZ_.eq_1 h1)
 ·rw[h1]at hc;cases h2:c.prods.any CX_
  ·rw[h2]at hq;exact go0 (aj2 hc hq) aj0 (aj4 @dCnf.eq_1 @CZ_.eq_1 h1 h2)
  ·rw[h2]at hq;exact go0 (aj2 hc hq) aj0 (aj4 @dCnf.eq_1 @CZ_.eq_1 h1 h2)
def Xc_ : Ann:=⟨[],[]⟩
theorem weak_pure (l:List Sym):Ac_ Tryz.prog 300 [AR_ l] (.bool (!(As_ l==0))):=by
 refine Aa_ [] Xc_ Tryz.func300 Tryz.call300 Tryz.ntmps300 mxd (aj2 @Xc_.eq_1 Tryz.results300) rfl (by simp) (by simp[mx]) fun hwf B hnt hgAnn=> ?_
 simp only[argS]
 match l with
 | []=>exact go0 aj0 aj0 (aj5 @dSym.eq_1 @As_.eq_1 @As_.eq_2 @As_.eq_3 @As_.eq_4)
 | [s]=>cases hl:s.label<;>exact go0 aj0 aj0 (aj6 @dSym.eq_1 @As_.eq_1 @As_.eq_2 @As_.eq_3 @As_.eq_4 hl)
 | [s,t]=>cases hl:s.label<;>cases ht:t.label<;>exact go0 aj0 aj0 (aj7 @dSym.eq_1 @As_.eq_1 @As_.eq_2 @As_.eq_3 @As_.eq_4 hl ht)
 | s::t::u::r =>
  have hlen:¬((r.length:Int)+1+1+1=0)∧¬((r.length:Int)+1+1+1=1)∧¬((r.length:Int)+1+1+1=2):=by omega
  obtain⟨g1,g2,g3⟩:=hlen;exact go0 aj0 aj0 (aj8 @dSym.eq_1 @As_.eq_1 @As_.eq_2 @As_.eq_3 @As_.eq_4 g1 g2 g3)
def Xd_ : Ann:=⟨[],[⟨6,[4],[],[]⟩,⟨12,[6],[],[]⟩]⟩
set_option maxHeartbeats 4000000 in
theorem HJ_ (c:Cnf):Ac_ Tryz.prog 145 [.agg (dCnf c)] (.int .i64 (if Bi_ c then 0 else 220)):=by
 refine Aa_ [] Xd_ Tryz.func145 Tryz.call145 Tryz.ntmps145 mxd (aj2 @Xd_.eq_1 Tryz.results145) rfl (by simp) (by simp[mx]) fun hwf B hnt hgAnn=> ?_
 have hw:wCnf c:=SY_ (by simpa[wfL,wfD]using hwf.1);obtain⟨hw1,hw2,hw3,hw4⟩:=hw;clear hwf hw1;simp only[argS]
 by_cases h1:1≤c.nts
 rotate_left
 ·have h1':c.nts<1:=by omega
  have hno:Bi_ c=false:=by simp[Bi_,h1]
  exact go0 aj0 aj0 (aj3 @dCnf.eq_1 h1' hno)
 by_cases h2:c.nts≤1024
 rotate_left
 ·have h2':1024<c.nts:=by omega
  have h1':¬c.nts<1:=by omega
  have hno:Bi_ c=false:=by simp[Bi_,h2]
  exact go0 aj0 aj0 (aj4 @dCnf.eq_1 h1' h2' hno)
 have h1':¬c.nts<1:=by omega
 have h2':¬1024<c.nts:=by omega
 have hok:Bi_ c=c.prods.all (BA_ c):=by simp[Bi_,h1,h2]
 (refine go1 aj0 aj0 (aj3 @dCnf.eq_1 h1' h2') ?_;intros;refine mk_i ?_)
 refine Ae_ (X:={k:Nat//k≤c.prods.length∧(c.prods.take k).all (BA_ c)=true}) (fun k=>⟨[(1,.ref [.int .i64 c.nts,Bh_ c.prods]),(3,.int .i64 k.1)],[]⟩) (fun k=>c.prods.length-k.1) ⟨0,by simp⟩ (Sub.lit (by simp)) ?_;rintro⟨k,hk,hkk⟩
 by_cases hlt:k<c.prods.length
 rotate_left
 ·have hke:k=c.prods.length:=by omega
  subst hke;rw[aQ0]at hkk;rw[hkk]at hok;exact go0 aj0 aj0 (aj2 @dCnf.eq_1 hok)
 obtain⟨p,hp,hp',hpm⟩:=Ak_ hlt;obtain⟨hw5,hw6,hw7,hw8⟩:=hw4 p hpm
 have hbad:BA_ c p=false→Bi_ c=false:=by
  intro hb;rw[hok,List.all_eq_false];exact⟨p,hpm,by simp[hb]⟩
 have FI_:BA_ c p=true→(c.prods.take (k+1)).all (BA_ c)=true:=by
  intro hb;rw[dR0 hlt,eU0,hkk,hp'];simp[hb]
 by_cases hh1:p.head<0
 ·have:=hbad (by simp[BA_,ntOK,show ¬(0≤p.head) by omega]);exact go0 aj0 aj0 (aj6 @dCnf.eq_1 @Ad_.eq_1 hlt hp' hh1 this)
 by_cases hh2:c.nts≤p.head
 ·have:=hbad (by simp[BA_,ntOK,show ¬(p.head<c.nts) by omega]);exact go0 aj0 aj0 (aj7 @dCnf.eq_1 @Ad_.eq_1 hlt hp' hh1 hh2 this)
 have hnt':ntOK c p.head=true:=by simp[ntOK,show 0≤p.head by omega,show p.head<c.nts by omega]
 (refine go1 aj0 aj0 (aj6 @dCnf.eq_1 @Ad_.eq_1 hlt hp' hh1 hh2) ?_;intros;refine mk_i ?_)
 refine Ae_ (X:={j:Nat//j≤p.body.length∧(p.body.take j).any (CE_ c)=false}) (fun j=>⟨[(1,.ref [.int .i64 c.nts,Bh_ c.prods]),(3,.int .i64 k),(4,.ref [.int .i64 p.head,AR_ p.body]),(5,.int .i64 j.1)],[]⟩) (fun j=>p.body.length-j.1) ⟨0,by simp⟩ (Sub.lit (by simp)) ?_;rintro⟨j,hj,hjj⟩
 by_cases hlj:j<p.body.length
 rotate_left
 ·have hje:j=p.body.length:=by omega
  subst hje;rw[aQ0]at hjj;have hgood:=FI_ (by simp[BA_,hnt',hjj])
  (refine go1 aj0 aj0 aj0 ?_;intros;refine mk_i ?_)
  refine Aj_.mk ⟨k+1,by omega,hgood⟩ (Sub.lit (by simp)) (by simp;omega)
  skip
 obtain⟨s,hs,hs',hsm⟩:=Ak_ hlj;have hsn:=hw8 s hsm
 have hb2:CE_ c s=true→Bi_ c=false:=by
  intro hb;refine hbad ?_;simp only[BA_,hnt',cE0,Bool.not_eq_false',bZ0];exact⟨s,hsm,hb⟩
 have hst2:CE_ c s=false→(p.body.take (j+1)).any (CE_ c)=false:=by
  intro hb;rw[dR0 hlj,eB0,hjj,hs'];simp[hb]
 by_cases hs1:s.n<0
 ·have:=hb2 (by cases hl:s.label<;>simp[CE_,hl,hs1,ntOK,show ¬(0≤s.n) by omega]);exact go0 aj0 aj0 (aj5 @dSym.eq_1 hlj hs' hs1 this)
 cases hl:s.label
 ·by_cases hs2:c.nts≤s.n
  ·have:=hb2 (by simp[CE_,hl,ntOK,show ¬(s.n<c.nts) by omega]);exact go0 aj0 aj0 (aj7 @dSym.eq_1 hlj hs' hs1 hs2 hl this)
  ·have hgd:=hst2 (by simp[CE_,hl,ntOK,show 0≤s.n by omega,show s.n<c.nts by omega])
   (refine go1 aj0 aj0 (aj6 @dSym.eq_1 hlj hs' hs1 hs2 hl) ?_;intros;refine mk_i ?_)
   refine Aj_.mk ⟨j+1,by omega,hgd⟩ (Sub.lit (by simp)) (by simp;omega)
   skip
 ·by_cases hs2:16≤s.n
  ·have:=hb2 (by simp[CE_,hl,hs2]);exact go0 aj0 aj0 (aj7 @dSym.eq_1 hlj hs' hs1 hs2 hl this)
  ·have hgd:=hst2 (by simp[CE_,hl,hs1,hs2])
   (refine go1 aj0 aj0 (aj6 @dSym.eq_1 hlj hs' hs1 hs2 hl) ?_;intros;refine mk_i ?_)
   refine Aj_.mk ⟨j+1,by omega,hgd⟩ (Sub.lit (by simp)) (by simp;omega)
   skip
theorem Ac_.wkT {P:Program} {f:FuncId} {args ds es:List DVal} (h:Ac_ P f args (.tup ds)) (hw:wkA ds es) (hd:mx (.tup es)=0):Ac_ P f args (.tup es):=by
 refine⟨h.1,hd,fun cur M w vs hM hr=>(h.2.2 cur M w vs hM hr).mono fun e w' ⟨v,h1,h2,h3⟩=>⟨v,h1,h2,?_⟩⟩;simp only[rd]at h3 ⊢;obtain⟨us,rfl,h4⟩:=h3;exact⟨us,rfl,Rf_ hw h4⟩
def cnf0 : Cnf:=⟨0,[]⟩
theorem TW_ (c:Cnf):Ac_ Tryz.prog 144 [.agg (dCnf c)] (.tup [.agg (dCnf (if Bi_ c then Br_ c else cnf0)),.int .i64 (if Bi_ c then 0 else 220)]):=by
 have h:=ZD_ c;cases hb:Bi_ c<;>rw[hb]at h
 ·exact Ac_.wkT h (by simp[cnf0,dCnf,Bh_]) (by simp[mx])
 ·exact h

theorem KA_ (c:Cnf) (p:Prod):p∈(Br_ c).prods↔p∈c.prods:=by
 have h:=(BF_ Fb_ (Bv_ Fb_ c.prods)).2 p;simp only[Br_];rw[h,(Cd_ _ _).mem_iff]
theorem NV_ (c:Cnf):Bi_ (Br_ c)=Bi_ c:=by
 have h:(Br_ c).prods.all (BA_ (Br_ c))=c.prods.all (BA_ c):=by
  rw[Bool.eq_iff_iff,bA0,bA0];have e:BA_ (Br_ c)=BA_ c:=rfl;rw[e];exact⟨fun hh p hp=>hh p ((KA_ c p).2 hp),fun hh p hp=>hh p ((KA_ c p).1 hp)⟩
 simp only[Bi_];rw[h];rfl
theorem norm_norm (c:Cnf):Br_ (Br_ c)=Br_ c:=by
 simp only[Br_,Cnf.mk.injEq,true_and];exact norm_idem Fb_ c.prods
theorem norm_len (c:Cnf):(Br_ c).prods.length≤c.prods.length:=by
 have h:=compL_len (e:=fun p q=>AX_ p q==0) (ER_ AX_ c.prods);rw[(Cd_ _ _).length_eq]at h;exact h
theorem look_some {l:List (Int×Int)} {a h:Int}:DE_ l a=some h→∃j,AQ_ (l.map dKey) (.int .i64 a)=some j∧(l.map Gp_).getD j .any= .int .i64 h:=by
 induction l with
 | nil=>simp[DE_]
 | cons p l ih =>
  obtain⟨k,g⟩:=p;simp only[DE_,List.map_cons,AQ_];intro hh
  by_cases hk:a=k
  ·rw[if_pos hk]at hh;simp only[aA0]at hh;subst hh;subst hk;exact⟨0,by simp[dKey,By_,eqCs],by simp[Gp_]⟩
  ·rw[if_neg hk]at hh;obtain⟨j,h1,h2⟩:=ih hh;exact⟨j+1,by simp[dKey,By_,eqCs,hk,h1],by simpa using h2⟩
theorem look_none {l:List (Int×Int)} {a:Int}:DE_ l a=none→AQ_ (l.map dKey) (.int .i64 a)=none:=by
 induction l with
 | nil=>simp[AQ_]
 | cons p l ih =>
  obtain⟨k,g⟩:=p;simp only[DE_,List.map_cons,AQ_];intro hh
  by_cases hk:a=k
  ·rw[if_pos hk]at hh;simp at hh
  ·rw[if_neg hk]at hh;simp[dKey,By_,eqCs,hk,ih hh]
def Bb_ (n:Int):List DVal:=[.int .i64 n]
@[simp] theorem mx_int1 (n:Int):mxL (Bb_ n)=0:=by simp[Bb_,mxL,mx]
@[simp] theorem mx_ints (l:List Int):mxR (l.map Bb_)=0:=mxR0 _ (fun x=>by simp[Bb_,mxL,mx]) l
def GZ_ : Ann:=⟨[34,46],[⟨4,[7],[],[]⟩]⟩
set_option maxHeartbeats 4000000 in
theorem Vq_ (m:Mk) (l:List Sym) (h1: -9223372036854775808≤m.nts) (h2:m.nts+l.length+1≤9223372036854775807) (h3:(m.prods.length+l.length+1)*32≤150000000000000) :
  AM_ Tryz.prog (.func 214) [.bx 0 0 0,AR_ l] (dMk 0 m) (.osl 3 1) (dMk 1 (m.syms l).1++[⟨3,1,.row 3 1 8 ((m.syms l).2.map Bb_)⟩]):=by
 refine AP_ [] [(0,0,0),(1,1,1),(2,2,0),(50,3,1)] GZ_ Tryz.func214 Tryz.call214 Tryz.ntmps214 mxd (aj2 @GZ_.eq_1 Tryz.results214) rfl (by simp) (by simp) (by simp[dMk]) fun hwf B hnt hgAnn=> ?_
 simp only[argS]
 (refine go1 aj0 aj0 (aj1 @dMk.eq_1) ?_;intros;refine mk_i ?_)
 refine AV_ 5 50 3 1 8 (by simp[hnt,Tryz.ntmps214]) (fun n=> ?_)
 refine Ae_ (X:={x:Nat×Mk×List Int//x.1≤l.length∧((x.2.1.syms (l.drop x.1)).1,x.2.2++(x.2.1.syms (l.drop x.1)).2)=m.syms l∧m.nts≤x.2.1.nts∧x.2.1.nts≤m.nts+x.1∧x.2.1.prods.length≤m.prods.length+x.1∧x.2.2.length=x.1})
  (fun x=>⟨[(0,.bx 0 0 0),(5,.osl 50 1),(11,AR_ l),(12,.int .i64 l.length),(13,.int .i64 x.1.1)],dMk 1 x.1.2.1++[⟨50,1,.row 3 1 8 (x.1.2.2.map Bb_)⟩]⟩) (fun x=>l.length-x.1.1) ⟨(0,m,[]),by simp⟩ (Sub.lit (by simp[dMk])) ?_
 rintro⟨⟨k,m1,acc⟩,hk,hR,b1,b2,b3,b4⟩;simp only at hk hR b1 b2 b3 b4 ⊢
 by_cases hlt:k<l.length
 ·obtain⟨s,hs,hs',hsm⟩:=Ak_ hlt;rw[aR0 hlt,hs']at hR;simp only[Mk.syms]at hR
  have hz:(acc.length+1)*8≤150000000000000:=by
   have h4:(m.prods.length+l.length+1)*8≤(m.prods.length+l.length+1)*32:=bU0 _ (by omega);have h5:(acc.length+1)*8≤(m.prods.length+l.length+1)*8:=aO0 _ (by omega);omega
  have hz2:acc.length≤9223372036854775806:=by omega
  cases hl:s.label
  ·have hsym:m1.sym s=(m1,s.n):=by unfold Mk.sym;simp[hl]
   rw[hsym]at hR
   (refine go1 aj0 aj0 (aj7 @dMk.eq_1 @dSym.eq_1 hlt hs' hl hz hz2) ?_;intros;refine mk_i ?_)
   refine Aj_.mk ⟨(k+1,m1,acc++[s.n]),show k+1≤l.length∧_∧m.nts≤m1.nts∧m1.nts≤m.nts+((k+1:Nat):Int)∧m1.prods.length≤m.prods.length+(k+1)∧(acc++[s.n]).length=k+1 from ⟨by omega,by simpa using hR,b1,by omega,by omega,by simp;omega⟩⟩ (Sub.lit (by simp[dMk,Bb_])) (by simp;omega)
   skip
  ·cases hlk:DE_ m1.hs s.n with
   | some h =>
    have hsym:m1.sym s=(m1,h):=by unfold Mk.sym;simp[hl,hlk]
    rw[hsym]at hR;obtain⟨j,hj1,hj2⟩:=look_some hlk;simp only[bG0,bI0]at hj2
    (repeat (first | refine Aw_ fun K hK=> ?_ | (refine DW_r GZ_ mxd (by kernel_rfl) ?_;simp[GZ_,hnt,dMk,dSym,hlt,hs',hl,hz,hz2,hj1,hj2,dKey,Bo_];try simp (disch:=omega) only[Ah_]) | refine Al_ ?_ | (refine AJ_ ?_ ?_ ?_;(· (simp[hnt,dMk,dSym,hlt,hs',hl,hz,hz2,hj1,hj2,dKey,Bo_];done));(try (rotate_left;(· (intro hc;(try simp[hnt,dMk,dSym,hlt,hs',hl,hz,hz2,hj1,hj2,dKey,Bo_]at hc);done))))) | (refine Ay_ ?_;simp[Tryz.results214,hnt,dMk,dSym,hlt,hs',hl,hz,hz2,hj1,hj2,dKey,Bo_]) | ((first | refine Aq_ ?_ | refine Ap_ ?_);simp[hnt,dMk,dSym,hlt,hs',hl,hz,hz2,hj1,hj2,dKey,Bo_]) | (intro hc;(try simp[hnt,dMk,dSym,hlt,hs',hl,hz,hz2,hj1,hj2,dKey,Bo_]at hc);(try (exfalso;omega))) | (refine⟨?_,?_⟩; · omega) | omega | apply_assumption -exfalso -symm | (exfalso;omega)))
    refine Aj_.mk ⟨(k+1,m1,acc++[h]),show k+1≤l.length∧_∧m.nts≤m1.nts∧m1.nts≤m.nts+((k+1:Nat):Int)∧m1.prods.length≤m.prods.length+(k+1)∧(acc++[h]).length=k+1 from ⟨by omega,by simpa using hR,b1,by omega,by omega,by simp;omega⟩⟩ (Sub.lit (by simp[dMk,Bb_])) (by simp;omega)
    skip
   | none =>
    have hsym:m1.sym s=({ m1 with nts:=m1.nts+1,hs:=m1.hs++[(s.n,m1.nts)],prods:=m1.prods++[⟨m1.nts,[s]⟩] },m1.nts):=by unfold Mk.sym;simp[hl,hlk]
    rw[hsym]at hR;have hj:=look_none hlk;have e1:=Fp_ m1 (by omega) (by omega);have e2:=GF_ { m1 with nts:=m1.nts+1,hs:=m1.hs++[(s.n,m1.nts)] } m1.nts [⟨true,s.n⟩] (Nat.le_trans (aO0 32 (show m1.prods.length+1≤m.prods.length+l.length+1 by omega)) h3)
    (repeat (first | refine Aw_ fun K hK=> ?_ | (refine DW_r GZ_ mxd (by kernel_rfl) ?_;simp[GZ_,hnt,dMk,dSym,hlt,hs',hl,hz,hz2,hj,dKey,Gp_,Bo_];try simp (disch:=omega) only[Ah_]) | refine Al_ ?_ | (refine AJ_ ?_ ?_ ?_;(· (simp[hnt,dMk,dSym,hlt,hs',hl,hz,hz2,hj,dKey,Gp_,Bo_];done));(try (rotate_left;(· (intro hc;(try simp[hnt,dMk,dSym,hlt,hs',hl,hz,hz2,hj,dKey,Gp_,Bo_]at hc);done))))) | (refine Ay_ ?_;simp[Tryz.results214,hnt,dMk,dSym,hlt,hs',hl,hz,hz2,hj,dKey,Gp_,Bo_]) | ((first | refine Aq_ ?_ | refine Ap_ ?_);simp[hnt,dMk,dSym,hlt,hs',hl,hz,hz2,hj,dKey,Gp_,Bo_]) | (intro hc;(try simp[hnt,dMk,dSym,hlt,hs',hl,hz,hz2,hj,dKey,Gp_,Bo_]at hc);(try (exfalso;omega))) | (refine Az_ [(0,0),(1,1),(2,2)] [] (e1) ?_ ?_;(· (simp[hnt,dMk,dSym,hlt,hs',hl,hz,hz2,hj,dKey,Gp_,Bo_];done));(intro _;try simp[hnt,dMk,dSym,hlt,hs',hl,hz,hz2,hj,dKey,Gp_,Bo_])) | (refine Az_ [(0,0),(1,1),(2,2)] [] (e2) ?_ ?_;(· (simp[hnt,dMk,dSym,hlt,hs',hl,hz,hz2,hj,dKey,Gp_,Bo_];done));(intro _;try simp[hnt,dMk,dSym,hlt,hs',hl,hz,hz2,hj,dKey,Gp_,Bo_])) | (refine⟨?_,?_⟩; · omega) | omega | apply_assumption -exfalso -symm | (exfalso;omega)))
    refine Aj_.mk ⟨(k+1,{ m1 with nts:=m1.nts+1,hs:=m1.hs++[(s.n,m1.nts)],prods:=m1.prods++[⟨m1.nts,[s]⟩] },acc++[m1.nts]),show k+1≤l.length∧_∧m.nts≤m1.nts+1∧m1.nts+1≤m.nts+((k+1:Nat):Int)∧(m1.prods++[(⟨m1.nts,[s]⟩:Prod)]).length≤m.prods.length+(k+1)∧(acc++[m1.nts]).length=k+1 from ⟨by omega,by simpa using hR,by omega,by omega,by simp;omega,by simp;omega⟩⟩ (Sub.lit (by simp[dMk,Bb_,Ad_,dSym,hl,dKey,Gp_])) (by simp;omega)
    skip
 ·have hkk:k=l.length:=by omega
  subst hkk;rw[bQ0]at hR;simp only[Mk.syms,bM0]at hR
  (refine go1 aj0 aj0 (aj1 @dMk.eq_1) ?_;intros;refine mk_i ?_)
  rw[←hR];exact⟨⟨rfl,rfl⟩,rfl,⟨rfl,rfl⟩,rfl⟩
def tlC (m:Mk) (h:Int) (k:Nat):List Int:=h::(List.range k).map fun i:Nat=>m.nts+(i:Int)
theorem tlC_len (m:Mk) (h:Int) (k:Nat):(tlC m h k).length=k+1:=by simp[tlC]
theorem tlC_succ (m:Mk) (h:Int) (k:Nat):tlC m h (k+1)=tlC m h k++[m.nts+k]:=by simp[tlC,eA0]
theorem tlC_at (m:Mk) (h:Int) (k i:Nat) (hi:i<k):(tlC m h k)[i+1]? =some (m.nts+i):=by simp[tlC,hi]
theorem drop3 {ns:List Int} {i:Nat} {a b:Int} (hi:i+2<ns.length) (ha:ns[i]? =some a):∀nts head,CQ_ nts head (ns.drop i)=⟨head,[nS a,nS nts]⟩::CQ_ (nts+1) nts (ns.drop (i+1)):=by
 intro nts head;obtain⟨h1,rfl⟩:=aB0.1 ha;rw[aR0 h1,aR0 (show i+1<ns.length by omega),aR0 (show i+1+1<ns.length by omega)];rfl
theorem drop2 {ns:List Int} {i:Nat} {a b:Int} (hi:i+2=ns.length) (ha:ns[i]? =some a) (hb:ns[i+1]? =some b):∀nts head,CQ_ nts head (ns.drop i)=[⟨head,[nS a,nS b]⟩]:=by
 intro nts head;obtain⟨h1,rfl⟩:=aB0.1 ha;obtain⟨h2,rfl⟩:=aB0.1 hb;rw[aR0 h1,aR0 h2,cP0 (by omega)];rfl
def KU_ : Ann:=⟨[12,22,52,71],[]⟩
set_option maxHeartbeats 4000000 in
theorem NZ_ (m:Mk) (h:Int) (ns:List Int) (h0:2≤ns.length) (h1: -9223372036854775808≤m.nts) (h2:m.nts+ns.length≤9223372036854775807) (h3:(m.prods.length+ns.length+1)*32≤150000000000000) :
  AM_ Tryz.prog (.func 216) [.bx 0 0 0,.int .i64 h,.sl 1 8 (ns.map Bb_)] (dMk 0 m) (.tup []) (dMk 1 (m.chain h ns)):=by
 refine AP_ [] [(0,0,0),(1,1,1),(2,2,0)] KU_ Tryz.func216 Tryz.call216 Tryz.ntmps216 mxd (aj2 @KU_.eq_1 Tryz.results216) rfl (by simp) (by simp) (by simp[dMk]) fun hwf B hnt hgAnn=> ?_
 simp only[argS];obtain⟨q,hq⟩:∃q,ns.length=q+2:=⟨ns.length-2,by omega⟩;rw[hq]at h2 h3;have hw:IntKind.i64.wrap (q:Int)=q:=wq;have hq1:((q:Int)+2-2)=q:=by omega
 (refine go1 aj0 aj0 (aj4 @dMk.eq_1 hw hq hq1) ?_;intros;refine mk_i ?_)
 refine Ae_ (X:={k:Nat//k≤q}) (fun k=>⟨[(0,.bx 0 0 0),(1,.int .i64 h),(2,.sl 1 8 (ns.map Bb_)),(6,.osl 12 1),(7,.fn (.func 299) [.bx 0 0 0] []),(17,.int .i64 q),(18,.int .i64 k.1)],dMk 1 { m with nts:=m.nts+k.1 }++[⟨12,1,.row 3 1 8 ((tlC m h k.1).map Bb_)⟩]⟩)
  (fun k=>q-k.1) ⟨0,by omega⟩ (Sub.lit (by simp[dMk,tlC,Bb_])) ?_
 rintro⟨k,hk⟩
 have hz:(k+1+1)*8≤150000000000000:=by
  have h4:(m.prods.length+(q+2)+1)*8≤(m.prods.length+(q+2)+1)*32:=bU0 _ (by omega);have h5:(k+1+1)*8≤(m.prods.length+(q+2)+1)*8:=aO0 _ (by omega);exact Nat.le_trans h5 (Nat.le_trans h4 h3)
 by_cases hlt:k<q
 ·have e1:=Fp_ { m with nts:=m.nts+k } (by simp only;omega) (by simp only;omega);have hz2:k+1≤9223372036854775806:=by omega
  have htl:=tlC_succ m h k
  (refine go1 aj0 (aj1 (spc [(0,0),(1,1),(2,2)] [] e1)) (aj5 @dMk.eq_1 hlt hz hz2 tlC_len) ?_;intros;refine mk_i ?_)
  refine Aj_.mk ⟨k+1,by omega⟩ (Sub.lit (by simp[dMk,Bb_,htl];omega)) (by simp;omega)
  skip
 ·have hkk:k=q:=by omega
  subst hkk;clear hlt;obtain⟨T,hT⟩:∃T,T=tlC m h k:=⟨_,rfl⟩;have hTl:T.length=k+1:=by rw[hT,tlC_len]
  have hT0:T[0]? =some h:=by rw[hT];rfl
  have hTs:∀i,i<k→T[i+1]? =some (m.nts+i):=fun i hi=>by rw[hT];exact tlC_at m h k i hi
  rw[←hT];clear hT;have hk1:((k:Int)+1-1)=k:=by omega
  (refine go1 aj0 aj0 (aj4 @dMk.eq_1 hTl hk1 hw) ?_;intros;refine mk_i ?_)
  refine Ae_ (X:={x:Nat×List Prod//x.1≤k∧x.2.length=m.prods.length+x.1∧∀t,T[x.1]? =some t→x.2++CQ_ (m.nts+x.1) t (ns.drop x.1)=m.prods++CQ_ m.nts h ns})
   (fun x=>⟨[(0,.bx 0 0 0),(1,.int .i64 h),(2,.sl 1 8 (ns.map Bb_)),(6,.osl 12 1),(8,.int .i64 k),(31,.vw 12 1 1 8 0 k),(32,.int .i64 k),(33,.int .i64 x.1.1)],dMk 1 { m with nts:=m.nts+k,prods:=x.1.2 }++[⟨12,1,.row 3 1 8 (T.map Bb_)⟩]⟩)
   (fun x=>k-x.1.1) ⟨(0,m.prods),by simp[hT0]⟩ (Sub.lit (by simp[dMk])) ?_
  rintro⟨⟨i,P⟩,hi,hP,hR⟩;simp only at hi hP hR ⊢;obtain⟨t,ht,ht',_⟩:=Ak_ (show i<T.length by omega);obtain⟨a,ha,ha',_⟩:=Ak_ (show i<ns.length by omega);have hR:=hR t ht
  by_cases hlt:i<k
  ·have hT1:=hTs i hlt;have hT1':T[i+1]'(by omega)=m.nts+i:=(aB0.1 hT1).2;rw[drop3 (b:=0) (by omega) ha]at hR;have e2:=GF_ { m with nts:=m.nts+k,prods:=P } t [nS a,nS (m.nts+i)] (Nat.le_trans (aO0 32 (show P.length+1≤m.prods.length+(k+2)+1 by omega)) h3);simp only[nS]at e2;have hv:k≤T.length:=by omega
   have htn:((i:Int)+1).toNat=i+1:=by omega
   have hb1:(0:Int)≤(i:Int)+1:=by omega
   have hb2:(i:Int)+1<(k:Int)+1:=by omega
   have hin:i<ns.length:=by omega
   have hmp:Option.map ((fun cs=>cs)∘Bb_) T[((i:Int)+1).toNat]? =some [.int .i64 (m.nts+i)]:=by rw[htn,hT1];rfl
   have hr2:(([0,1]:List Nat)=List.range 2)=True:=eq_true rfl
   (refine go1 aj0 (aj1 (spc [(0,0),(1,1),(2,2)] [] e2)) (aj2 (aj16 @dMk.eq_1 @dSym.eq_1 @Bb_.eq_1 hlt ht' ht ha ha' hT1 hT1' hTl hq hv htn hb1 hb2) (aj2 hmp hr2)) ?_;intros;refine mk_i ?_)
   simp only[htn,hT1];simp[hnt,Tryz.results216,KU_,dMk,dSym,Bb_,hlt,ht',ht,ha,ha',hT1,hT1',hTl,hq,hv,htn,hb1,hb2,hmp,hr2]
   (refine go1 aj0 (aj1 (spc [(0,0),(1,1),(2,2)] [] e2)) (aj2 (aj16 @dMk.eq_1 @dSym.eq_1 @Bb_.eq_1 hlt ht' ht ha ha' hT1 hT1' hTl hq hv htn hb1 hb2) (aj2 hmp hr2)) ?_;intros;refine mk_i ?_)
   refine Aj_.mk ⟨(i+1,P++[⟨t,[nS a,nS (m.nts+i)]⟩]),show i+1≤k∧(P++[(⟨t,[nS a,nS (m.nts+i)]⟩:Prod)]).length=m.prods.length+(i+1)∧_ from ⟨by omega,by simp;omega,fun t' h'=> ?_⟩⟩ (Sub.lit (by simp[dMk,nS])) (by simp;omega)
   ·simp only at h' ⊢;rw[hT1]at h';simp only[aA0]at h';subst h';rw[←hR,aU0,show m.nts+((i+1:Nat):Int)=m.nts+i+1 by omega];rfl
   skip
  ·have hik:i=k:=by omega
   subst hik;obtain⟨b,hb,hb',_⟩:=Ak_ (show i+1<ns.length by omega);rw[drop2 (by omega) ha hb]at hR;have e2:=GF_ { m with nts:=m.nts+i,prods:=P } t [nS a,nS b] (Nat.le_trans (aO0 32 (show P.length+1≤m.prods.length+(i+2)+1 by omega)) h3);simp only[nS]at e2;have htn:((i:Int)+1).toNat=i+1:=by omega
   have hmp:Option.map ((fun cs=>cs)∘Bb_) ns[((i:Int)+1).toNat]? =some [.int .i64 b]:=by rw[htn,hb];rfl
   have hr2:(([0,1]:List Nat)=List.range 2)=True:=eq_true rfl
   (refine go1 aj0 (aj1 (spc [(0,0),(1,1),(2,2)] [] e2)) (aj14 @dMk.eq_1 @dSym.eq_1 @Bb_.eq_1 ht' ht ha ha' hb hb' hTl hq htn hmp hr2) ?_;intros;refine mk_i ?_)
   simp only[htn,hb];simp[hnt,Tryz.results216,KU_,dMk,dSym,Bb_,ht',ht,ha,ha',hb,hb',hTl,hq,htn,hmp,hr2]
   (refine go1 aj0 (aj1 (spc [(0,0),(1,1),(2,2)] [] e2)) (aj14 @dMk.eq_1 @dSym.eq_1 @Bb_.eq_1 ht' ht ha ha' hb hb' hTl hq htn hmp hr2) ?_;intros;refine mk_i ?_)
   have e3:m.chain h ns={ m with nts:=m.nts+i,prods:=P++[⟨t,[nS a,nS b]⟩] }:=by
    unfold Mk.chain;rw[hR,hq];rfl
   rw[e3];simp[nS]
theorem put_mk (m:Mk) (h:Int) (b:List Sym):m.put h b={ m with prods:=m.prods++[⟨h,b⟩] }:=rfl
theorem Pe_ {a b:Nat} (h:a≤b) (hb:b*32≤150000000000000):a*32≤150000000000000:=Nat.le_trans (aO0 32 h) hb
def Xb_ : Ann:=⟨[18,22,28,35],[]⟩
set_option maxHeartbeats 4000000 in
theorem add_easy (m:Mk) (p:Prod) (hf:As_ p.body=1∨As_ p.body=2) (h3:(m.prods.length+1)*32≤150000000000000) :
  AM_ Tryz.prog (.func 143) [.bx 0 0 0,.agg (Ad_ p)] (dMk 0 m) (.tup []) (dMk 1 (m.add p)):=by
 refine AP_ [] [(0,0,0),(1,1,1),(2,2,0)] Xb_ Tryz.func143 Tryz.call143 Tryz.ntmps143 mxd (aj2 @Xb_.eq_1 Tryz.results143) rfl (by simp) (by simp) (by simp[dMk]) fun hwf B hnt hgAnn=> ?_
 simp only[argS];have e1:=OZ_ p.body;have e2:=NY_ p.body;have e3:=GF_ m p.head p.body h3;have e4:m.add p=m.put p.head p.body:=by unfold Mk.add;rw[if_pos hf]
 rw[e4,put_mk]
 rcases hf with hf | hf
 ·rw[hf]at e1;exact go0 (aj2 e1 e2) (aj1 (spc [(0,0),(1,1),(2,2)] [] e3)) (aj2 @dMk.eq_1 @Ad_.eq_1)
 ·rw[hf]at e1;exact go0 (aj2 e1 e2) (aj1 (spc [(0,0),(1,1),(2,2)] [] e3)) (aj2 @dMk.eq_1 @Ad_.eq_1)
def Oi_ : Ann:=⟨[18,22,28,35],[⟨7,[50],[],[]⟩]⟩
set_option maxHeartbeats 4000000 in
theorem add_one (m:Mk) (p:Prod) (hf:¬(As_ p.body=1∨As_ p.body=2)) (hl:p.body.length=1) (h1: -9223372036854775808≤m.nts) (h2:m.nts+10≤9223372036854775807) (h3:(m.prods.length+10)*32≤150000000000000) :
  AM_ Tryz.prog (.func 143) [.bx 0 0 0,.agg (Ad_ p)] (dMk 0 m) (.tup []) (dMk 1 (m.add p)):=by
 refine AP_ [] [(0,0,0),(1,1,1),(2,2,0)] Oi_ Tryz.func143 Tryz.call143 Tryz.ntmps143 mxd (aj2 @Oi_.eq_1 Tryz.results143) rfl (by simp) (by simp) (by simp[dMk]) fun hwf B hnt hgAnn=> ?_
 simp only[argS];have e1:=OZ_ p.body;obtain⟨g1,g2,g3⟩:=Il_ p.body m;obtain⟨k1,k2,k3⟩:=HM_ (m.syms p.body).1;have hsl:=Ks_ m p.body;rw[hl]at hsl;simp only[Mk.gap]at g1 k1;have e2:=Vq_ m p.body h1 (by omega) (Pe_ (by omega) h3);have e3:=Rx_ (m.syms p.body).1 (by omega) (by omega) (Pe_ (by omega) h3);have e5:=NZ_ (m.syms p.body).1.nothing p.head ((m.syms p.body).2++[(m.syms p.body).1.nothing.no]) (by simp;omega) (by omega) (by simp;omega) (Pe_ (by simp;omega) h3)
 have e4:m.add p=(m.syms p.body).1.nothing.chain p.head ((m.syms p.body).2++[(m.syms p.body).1.nothing.no]):=by unfold Mk.add;rw[if_neg hf,if_pos hl]
 rw[e4];clear g1 g2 g3 k1 k2 k3 e4
 generalize (m.syms p.body).1.nothing.chain p.head ((m.syms p.body).2++[(m.syms p.body).1.nothing.no])=m3 at e5 ⊢
 generalize hm2:(m.syms p.body).1.nothing=m2 at e3 e5
 generalize (m.syms p.body).1=m1 at e2 e3
 generalize (m.syms p.body).2=ns at e2 e5 hsl
 simp only[aX0,List.map_cons,List.map_nil,Bb_]at e5
 generalize hF:As_ p.body=F at hf e1
 have f1:¬F=1:=fun h=>hf (.inl h)
 have f2:¬F=2:=fun h=>hf (.inr h)
 exact go0 (aj1 e1) (aj3 (spc [(0,0),(1,1),(2,2)] [(50,3)] e2) (spc [(0,0),(1,1),(2,2)] [] e3) (spc [(0,0),(1,1),(2,2)] [] e5)) (aj6 @dMk.eq_1 @Ad_.eq_1 hsl f1 f2 @Bb_.eq_1)
def Oh_ : Ann:=⟨[18,22,28,35],[⟨5,[50],[],[]⟩]⟩
set_option maxHeartbeats 4000000 in
theorem add_more (m:Mk) (p:Prod) (hf:¬(As_ p.body=1∨As_ p.body=2)) (hl:¬p.body.length=1) (h1: -9223372036854775808≤m.nts) (h2:m.nts+2*p.body.length+10≤9223372036854775807) (h3:(m.prods.length+2*p.body.length+10)*32≤150000000000000) :
  AM_ Tryz.prog (.func 143) [.bx 0 0 0,.agg (Ad_ p)] (dMk 0 m) (.tup []) (dMk 1 (m.add p)):=by
 refine AP_ [] [(0,0,0),(1,1,1),(2,2,0)] Oh_ Tryz.func143 Tryz.call143 Tryz.ntmps143 mxd (aj2 @Oh_.eq_1 Tryz.results143) rfl (by simp) (by simp) (by simp[dMk]) fun hwf B hnt hgAnn=> ?_
 simp only[argS];have e1:=OZ_ p.body;obtain⟨g1,g2,g3⟩:=Il_ p.body m;have hsl:=Ks_ m p.body;have hge:=PG_ (fun h=>hf (.inl h)) (fun h=>hf (.inr h));simp only[Mk.gap]at g1;have e2:=Vq_ m p.body h1 (by omega) (Pe_ (by omega) h3);have e5:=NZ_ (m.syms p.body).1 p.head (m.syms p.body).2 (by omega) (by omega) (by omega) (Pe_ (by omega) h3);have e4:m.add p=(m.syms p.body).1.chain p.head (m.syms p.body).2:=by unfold Mk.add;rw[if_neg hf,if_neg hl]
 rw[e4];have hsl2:¬(m.syms p.body).2.length=1:=by omega
 clear g1 g2 g3 e4 hsl
 generalize (m.syms p.body).1.chain p.head (m.syms p.body).2=m3 at e5 ⊢
 generalize (m.syms p.body).1=m1 at e2 e5
 generalize (m.syms p.body).2=ns at e2 e5 hsl2
 generalize hF:As_ p.body=F at hf e1
 have f1:¬F=1:=fun h=>hf (.inl h)
 have f2:¬F=2:=fun h=>hf (.inr h)
 have f3:¬(ns.length:Int)=1:=by omega
 exact go0 (aj1 e1) (aj2 (spc [(0,0),(1,1),(2,2)] [(50,3)] e2) (spc [(0,0),(1,1),(2,2)] [] e5)) (aj6 @dMk.eq_1 @Ad_.eq_1 hsl2 f1 f2 f3)
theorem add_spec (m:Mk) (p:Prod) (h1: -9223372036854775808≤m.nts) (h2:m.nts+2*p.body.length+10≤9223372036854775807) (h3:(m.prods.length+2*p.body.length+10)*32≤150000000000000) :
  AM_ Tryz.prog (.func 143) [.bx 0 0 0,.agg (Ad_ p)] (dMk 0 m) (.tup []) (dMk 1 (m.add p)):=by
 by_cases hf:As_ p.body=1∨As_ p.body=2
 ·exact add_easy m p hf (Pe_ (by omega) h3)
 ·by_cases hl:p.body.length=1
  ·exact add_one m p hf hl h1 (by omega) (Pe_ (by omega) h3)
  ·exact add_more m p hf hl h1 h2 h3
def Mk.start (c:Cnf):Mk:=⟨c.nts,[],[],0⟩
def Mk.cnf (m:Mk):Cnf:=⟨m.nts,m.prods⟩
def finC (m:Option Mk):Cnf×Int:=match m with
 | none=>(cnf0,240)
 | some m=>(if Bi_ m.cnf then Br_ m.cnf else cnf0,if Bi_ m.cnf then 0 else 220)
def ofC (c:Cnf):Cnf×Int:=if Bi_ c then finC ((Mk.start c).adds c.prods)else (cnf0,220)
def Dc_ : Ann:=⟨[19,47],[⟨7,[7],[],[]⟩]⟩
set_option maxHeartbeats 8000000 in
theorem of21_pure (c:Cnf) (hsz:(c.prods.length+8000)*32≤150000000000000):Ac_ Tryz.prog 56 [.agg (dCnf c)] (.tup [.agg (dCnf (ofC c).1),.int .i64 (ofC c).2]):=by
 have key:∀d,d=(if Bi_ c then (match (Mk.start c).adds c.prods with | none=> .tup [.agg [.int .i64 0,.nilsl],.int .i64 240] | some m=> .tup [.agg (dCnf (if Bi_ m.cnf then Br_ m.cnf else cnf0)),.int .i64 (if Bi_ m.cnf then 0 else 220)])else .tup [.agg [.int .i64 0,.nilsl],.int .i64 220])→Ac_ Tryz.prog 56 [.agg (dCnf c)] d:=by
  intro d hd;refine Gz_ [] Tryz.func56 rfl Tryz.call56 (by simp[Tryz.ntmps56]) ?_ ?_
  ·subst hd
   split
   ·split<;>simp[mx,dCnf]
   ·simp[mx]
  intro hwf B hnt;simp only[Tryz.ntmps56]at hnt;have hgAnn:=an_is Dc_ mxd (aj2 @Dc_.eq_1 Tryz.results56);have hw:wCnf c:=SY_ (by simpa[wfL,wfD]using hwf.1);obtain⟨hw1,hw2,hw3,hw4⟩:=hw;clear hwf;simp only[argS];have h1:=GR_ c;cases hb:Bi_ c
  ·rw[hb]at h1 hd;simp only[aL0,if_false]at hd;subst hd;exact go0 (aj1 h1) aj0 (aj1 @dCnf.eq_1)
  rw[hb]at h1 hd;simp only[if_true]at hd
  (refine go1 (aj1 h1) aj0 (aj1 @dCnf.eq_1) ?_;intros;refine mk_i ?_)
  refine Bq_ 19 1 50 92 2 32 (by simp) (fun n=> ?_)
  have hn:1≤c.nts∧c.nts≤1024:=by
   simp only[Bi_,aN0,decide_eq_true_eq]at hb;exact hb.1
  obtain⟨hn1,hn2⟩:=hn;obtain⟨R,hR⟩:∃R,R=(Mk.start c).adds c.prods:=⟨_,rfl⟩;rw[←hR]at hd;clear h1
  refine Ae_ (X:={x:Nat×Mk//x.1≤c.prods.length∧x.2.adds (c.prods.drop x.1)=R∧c.nts≤x.2.nts∧x.2.nts≤1024∧(x.2.prods.length:Int)=x.1+x.2.nts-c.nts})
   (fun x=>⟨[(1,.ref (dCnf c)),(2,.bx 2 1 0),(3,.int .i64 0),(5,.bx 19 1 0),(21,Bh_ c.prods),(22,.int .i64 c.prods.length),(23,.int .i64 x.1.1)],[⟨2,1,.box [.int .i64 0,.nilsl]⟩,⟨19,1,.box [.int .i64 x.1.2.nts,.osl 50 1,.omp 17 1,.int .i64 x.1.2.no]⟩,⟨50,1,.row 92 2 32 (x.1.2.prods.map Ad_)⟩,⟨17,1,.map (x.1.2.hs.map dKey) (x.1.2.hs.map Gp_)⟩]⟩)
   (fun x=>c.prods.length-x.1.1) ⟨(0,Mk.start c),by simp[hR,Mk.start];omega⟩ (Sub.lit (by simp[dCnf,Mk.start])) ?_
  rintro⟨⟨k,m1⟩,hk,hA,b1,b2,b3⟩;simp only at hk hA b1 b2 b3 ⊢;clear hR
  by_cases hlt:k<c.prods.length
  ·obtain⟨p,hp,hp',hpm⟩:=Ak_ hlt;obtain⟨hw5,hw6,hw7,hw8⟩:=hw4 p hpm;rw[aR0 hlt,hp']at hA;simp only[Mk.adds]at hA;obtain⟨g1,g2,g3,g4⟩:=Qs_ m1 p;simp only[Mk.gap]at g1;have hq1:IntKind.i64.wrap (m1.nts+p.body.length)=m1.nts+p.body.length:=wq;have hq2:IntKind.i64.wrap (m1.nts+p.body.length-2)=m1.nts+p.body.length-2:=wq
   by_cases hbig:2<p.body.length∧1024<m1.nts+p.body.length-2
   ·obtain⟨hg1,hg2⟩:=hbig;rw[if_pos (by omega)]at hA;subst hA;simp only at hd;subst hd;have hg3:(2:Int)<p.body.length:=by omega
    (repeat (first | refine Aw_ fun K hK=> ?_ | (refine DW_r Dc_ mxd (by kernel_rfl) ?_;simp[Dc_,hnt,dCnf,Ad_,hlt,hp',hq1,hq2,hg1,hg2,hg3];try simp (disch:=omega) only[Ah_]) | refine Al_ ?_ | (refine AJ_ ?_ ?_ ?_;(· (simp[hnt,dCnf,Ad_,hlt,hp',hq1,hq2,hg1,hg2,hg3];done));(try (rotate_left;(· (intro hc;(try simp[hnt,dCnf,Ad_,hlt,hp',hq1,hq2,hg1,hg2,hg3]at hc);done))))) | (refine Ay_ ?_;simp[Tryz.results56,hnt,dCnf,Ad_,hlt,hp',hq1,hq2,hg1,hg2,hg3]) | ((first | refine Aq_ ?_ | refine Ap_ ?_);simp[hnt,dCnf,Ad_,hlt,hp',hq1,hq2,hg1,hg2,hg3]) | (intro hc;(try simp[hnt,dCnf,Ad_,hlt,hp',hq1,hq2,hg1,hg2,hg3]at hc);(try (exfalso;omega))) | ((first | refine Ag_ (h1) ?_ | (refine Af_ (h1) ?_ ?_;(· (simp;done))));try simp[hnt,dCnf,Ad_,hlt,hp',hq1,hq2,hg1,hg2,hg3]) | (refine⟨?_,?_⟩; · omega) | omega | apply_assumption -exfalso -symm | (exfalso;omega)))
   ·have hN:p.body.length≤1026:=by omega
    have e1:=add_spec m1 p (by omega) (by omega) (Nat.le_trans (aO0 32 (show m1.prods.length+2*p.body.length+10≤c.prods.length+8000 by omega)) hsz);have hgo:¬((2:Int)<p.body.length∧1024<m1.nts+p.body.length-2):=by omega
    generalize hm2:m1.add p=m2 at e1 hA g1 g2 g3 g4
    by_cases hov:1024<m2.nts
    ·rw[if_pos hov]at hA;subst hA;simp only at hd;subst hd
     by_cases hg1:2<p.body.length
     ·have hg3:(2:Int)<p.body.length:=by omega
      have hg2:¬1024<m1.nts+p.body.length-2:=by omega
      (repeat (first | refine Aw_ fun K hK=> ?_ | (refine DW_r Dc_ mxd (by kernel_rfl) ?_;simp[Dc_,hnt,dMk,dCnf,Ad_,hlt,hp',hq1,hq2,hg1,hg2,hg3,hov];try simp (disch:=omega) only[Ah_]) | refine Al_ ?_ | (refine AJ_ ?_ ?_ ?_;(· (simp[hnt,dMk,dCnf,Ad_,hlt,hp',hq1,hq2,hg1,hg2,hg3,hov];done));(try (rotate_left;(· (intro hc;(try simp[hnt,dMk,dCnf,Ad_,hlt,hp',hq1,hq2,hg1,hg2,hg3,hov]at hc);done))))) | (refine Ay_ ?_;simp[Tryz.results56,hnt,dMk,dCnf,Ad_,hlt,hp',hq1,hq2,hg1,hg2,hg3,hov]) | ((first | refine Aq_ ?_ | refine Ap_ ?_);simp[hnt,dMk,dCnf,Ad_,hlt,hp',hq1,hq2,hg1,hg2,hg3,hov]) | (intro hc;(try simp[hnt,dMk,dCnf,Ad_,hlt,hp',hq1,hq2,hg1,hg2,hg3,hov]at hc);(try (exfalso;omega))) | ((first | refine Ag_ (h1) ?_ | (refine Af_ (h1) ?_ ?_;(· (simp;done))));try simp[hnt,dMk,dCnf,Ad_,hlt,hp',hq1,hq2,hg1,hg2,hg3,hov]) | (refine Az_ [(19,0),(50,1),(17,2)] [] (e1) ?_ ?_;(· (simp[hnt,dMk,dCnf,Ad_,hlt,hp',hq1,hq2,hg1,hg2,hg3,hov];done));(intro _;try simp[hnt,dMk,dCnf,Ad_,hlt,hp',hq1,hq2,hg1,hg2,hg3,hov])) | (refine⟨?_,?_⟩; · omega) | omega | apply_assumption -exfalso -symm | (exfalso;omega)))
     ·have hg3:¬(2:Int)<p.body.length:=by omega
      (repeat (first | refine Aw_ fun K hK=> ?_ | (refine DW_r Dc_ mxd (by kernel_rfl) ?_;simp[Dc_,hnt,dMk,dCnf,Ad_,hlt,hp',hq1,hq2,hg1,hg3,hov];try simp (disch:=omega) only[Ah_]) | refine Al_ ?_ | (refine AJ_ ?_ ?_ ?_;(· (simp[hnt,dMk,dCnf,Ad_,hlt,hp',hq1,hq2,hg1,hg3,hov];done));(try (rotate_left;(· (intro hc;(try simp[hnt,dMk,dCnf,Ad_,hlt,hp',hq1,hq2,hg1,hg3,hov]at hc);done))))) | (refine Ay_ ?_;simp[Tryz.results56,hnt,dMk,dCnf,Ad_,hlt,hp',hq1,hq2,hg1,hg3,hov]) | ((first | refine Aq_ ?_ | refine Ap_ ?_);simp[hnt,dMk,dCnf,Ad_,hlt,hp',hq1,hq2,hg1,hg3,hov]) | (intro hc;(try simp[hnt,dMk,dCnf,Ad_,hlt,hp',hq1,hq2,hg1,hg3,hov]at hc);(try (exfalso;omega))) | ((first | refine Ag_ (h1) ?_ | (refine Af_ (h1) ?_ ?_;(· (simp;done))));try simp[hnt,dMk,dCnf,Ad_,hlt,hp',hq1,hq2,hg1,hg3,hov]) | (refine Az_ [(19,0),(50,1),(17,2)] [] (e1) ?_ ?_;(· (simp[hnt,dMk,dCnf,Ad_,hlt,hp',hq1,hq2,hg1,hg3,hov];done));(intro _;try simp[hnt,dMk,dCnf,Ad_,hlt,hp',hq1,hq2,hg1,hg3,hov])) | (refine⟨?_,?_⟩; · omega) | omega | apply_assumption -exfalso -symm | (exfalso;omega)))
    ·rw[if_neg hov]at hA
     by_cases hg1:2<p.body.length
     ·have hg3:(2:Int)<p.body.length:=by omega
      have hg2:¬1024<m1.nts+p.body.length-2:=by omega
      (repeat (first | refine Aw_ fun K hK=> ?_ | (refine DW_r Dc_ mxd (by kernel_rfl) ?_;simp[Dc_,hnt,dMk,dCnf,Ad_,hlt,hp',hq1,hq2,hg1,hg2,hg3,hov];try simp (disch:=omega) only[Ah_]) | refine Al_ ?_ | (refine AJ_ ?_ ?_ ?_;(· (simp[hnt,dMk,dCnf,Ad_,hlt,hp',hq1,hq2,hg1,hg2,hg3,hov];done));(try (rotate_left;(· (intro hc;(try simp[hnt,dMk,dCnf,Ad_,hlt,hp',hq1,hq2,hg1,hg2,hg3,hov]at hc);done))))) | (refine Ay_ ?_;simp[Tryz.results56,hnt,dMk,dCnf,Ad_,hlt,hp',hq1,hq2,hg1,hg2,hg3,hov]) | ((first | refine Aq_ ?_ | refine Ap_ ?_);simp[hnt,dMk,dCnf,Ad_,hlt,hp',hq1,hq2,hg1,hg2,hg3,hov]) | (intro hc;(try simp[hnt,dMk,dCnf,Ad_,hlt,hp',hq1,hq2,hg1,hg2,hg3,hov]at hc);(try (exfalso;omega))) | ((first | refine Ag_ (h1) ?_ | (refine Af_ (h1) ?_ ?_;(· (simp;done))));try simp[hnt,dMk,dCnf,Ad_,hlt,hp',hq1,hq2,hg1,hg2,hg3,hov]) | (refine Az_ [(19,0),(50,1),(17,2)] [] (e1) ?_ ?_;(· (simp[hnt,dMk,dCnf,Ad_,hlt,hp',hq1,hq2,hg1,hg2,hg3,hov];done));(intro _;try simp[hnt,dMk,dCnf,Ad_,hlt,hp',hq1,hq2,hg1,hg2,hg3,hov])) | (refine⟨?_,?_⟩; · omega) | omega | apply_assumption -exfalso -symm | (exfalso;omega)))
      refine Aj_.mk ⟨(k+1,m2),show k+1≤c.prods.length∧_∧c.nts≤m2.nts∧m2.nts≤1024∧(m2.prods.length:Int)=((k+1:Nat):Int)+m2.nts-c.nts from ⟨by omega,hA,by omega,by omega,by omega⟩⟩ (Sub.lit (by simp[dMk,dCnf])) (by simp;omega)
      skip
     ·have hg3:¬(2:Int)<p.body.length:=by omega
      (repeat (first | refine Aw_ fun K hK=> ?_ | (refine DW_r Dc_ mxd (by kernel_rfl) ?_;simp[Dc_,hnt,dMk,dCnf,Ad_,hlt,hp',hq1,hq2,hg1,hg3,hov];try simp (disch:=omega) only[Ah_]) | refine Al_ ?_ | (refine AJ_ ?_ ?_ ?_;(· (simp[hnt,dMk,dCnf,Ad_,hlt,hp',hq1,hq2,hg1,hg3,hov];done));(try (rotate_left;(· (intro hc;(try simp[hnt,dMk,dCnf,Ad_,hlt,hp',hq1,hq2,hg1,hg3,hov]at hc);done))))) | (refine Ay_ ?_;simp[Tryz.results56,hnt,dMk,dCnf,Ad_,hlt,hp',hq1,hq2,hg1,hg3,hov]) | ((first | refine Aq_ ?_ | refine Ap_ ?_);simp[hnt,dMk,dCnf,Ad_,hlt,hp',hq1,hq2,hg1,hg3,hov]) | (intro hc;(try simp[hnt,dMk,dCnf,Ad_,hlt,hp',hq1,hq2,hg1,hg3,hov]at hc);(try (exfalso;omega))) | ((first | refine Ag_ (h1) ?_ | (refine Af_ (h1) ?_ ?_;(· (simp;done))));try simp[hnt,dMk,dCnf,Ad_,hlt,hp',hq1,hq2,hg1,hg3,hov]) | (refine Az_ [(19,0),(50,1),(17,2)] [] (e1) ?_ ?_;(· (simp[hnt,dMk,dCnf,Ad_,hlt,hp',hq1,hq2,hg1,hg3,hov];done));(intro _;try simp[hnt,dMk,dCnf,Ad_,hlt,hp',hq1,hq2,hg1,hg3,hov])) | (refine⟨?_,?_⟩; · omega) | omega | apply_assumption -exfalso -symm | (exfalso;omega)))
      refine Aj_.mk ⟨(k+1,m2),show k+1≤c.prods.length∧_∧c.nts≤m2.nts∧m2.nts≤1024∧(m2.prods.length:Int)=((k+1:Nat):Int)+m2.nts-c.nts from ⟨by omega,hA,by omega,by omega,by omega⟩⟩ (Sub.lit (by simp[dMk,dCnf])) (by simp;omega)
      skip
  ·have hkk:k=c.prods.length:=by omega
   subst hkk;rw[bQ0]at hA;simp only[Mk.adds]at hA;subst hA;simp only at hd;subst hd;refine EP_ (Sub.freezeL [50] _) ?_;simp[hnt,Tryz.results56,Dc_,dCnf];have h2:=TW_ m1.cnf;exact go0 (aj1 h2) aj0 (aj1 @dCnf.eq_1)
 have hk:=key _ rfl;unfold ofC;cases hb:Bi_ c<;>rw[hb]at hk
 ·exact Ac_.wkT hk (by simp[cnf0,dCnf,Bh_]) (by simp[mx])
 ·simp only[if_true]at hk ⊢
  cases hA:(Mk.start c).adds c.prods with
  | none =>
   rw[hA]at hk;exact Ac_.wkT hk (by simp[cnf0,dCnf,Bh_,finC]) (by simp[mx])
  | some m =>
   rw[hA]at hk;exact hk
def hs16 (m:Mk):List Int:=(List.range 16).map fun a:Nat=>(DE_ m.hs a).getD (-1)
def noR (m:Mk):Int:=if m.no=0 then -1 else m.no
def fmD (v w:Nat) (m:Mk):DVal:= .agg [.int .i64 m.nts,.osl 0 v,.osl 1 w,.int .i64 (noR m)]
def dFo (v w:Nat) (m:Mk):List Ent:=[⟨0,v,.row 92 2 32 (m.prods.map Ad_)⟩,⟨1,w,.row 3 1 8 ((hs16 m).map Bb_)⟩]
theorem Fn_ (m:Mk):(hs16 m).length=16:=by simp[hs16]
theorem TU_ (m:Mk) (a:Nat) (h:a<16):(hs16 m)[a]? =some ((DE_ m.hs a).getD (-1)):=by simp[hs16,h]
theorem IG_ (l:List (Int×Int)) (k h a:Int):DE_ (l++[(k,h)]) a=match DE_ l a with | some x=>some x | none=>if a=k then some h else none:=by
 induction l with
 | nil=>simp[DE_]
 | cons p l ih =>
  obtain⟨k',h'⟩:=p;simp only[List.cons_append,DE_]
  split
  ·rfl
  ·exact ih
theorem hs16_set (m:Mk) (a:Nat) (ha:a<16) (h:Int) (hn:DE_ m.hs a=none) (P:List Prod) (N:Int):hs16 ⟨N,P,m.hs++[((a:Int),h)],m.no⟩=(hs16 m).set a h:=by
 apply eZ0
 intro q
 by_cases hq:q<16
 ·rw[TU_ _ _ hq]
  by_cases hqa:q=a
  ·subst hqa;rw[fH0 (by rw[Fn_];exact hq),IG_,hn];simp
  ·rw[List.getElem?_set_ne (by omega),TU_ _ _ hq,IG_];have:¬(q:Int)=a:=by omega
   cases hl:DE_ m.hs q<;>simp[this]
 ·rw[dO0 (by rw[Fn_];omega),dO0 (by simp[Fn_];omega)]
def KT_ : Ann:=⟨[],[]⟩
theorem GB_ (h a b:Int):Ac_ Tryz.prog 217 [.int .i64 h,.int .i64 a,.int .i64 b] (.agg (Ad_ ⟨h,[nS a,nS b]⟩)):=by
 refine Aa_ [] KT_ Tryz.func217 Tryz.call217 Tryz.ntmps217 mxd (aj2 @KT_.eq_1 Tryz.results217) rfl (by simp) (by simp[mx]) fun hwf B hnt hgAnn=> ?_
 simp only[argS];have hr2:(([0,1]:List Nat)=List.range 2)=True:=eq_true rfl
 (repeat (first | refine Aw_ fun K hK=> ?_ | (refine DW_r KT_ mxd (by kernel_rfl) ?_;simp[KT_,hnt,Ad_,nS,dSym,hr2];try simp (disch:=omega) only[Ah_]) | refine Al_ ?_ | (refine AJ_ ?_ ?_ ?_;(· (simp[hnt,Ad_,nS,dSym,hr2];done));(try (rotate_left;(· (intro hc;(try simp[hnt,Ad_,nS,dSym,hr2]at hc);done))))) | (refine Ay_ ?_;simp[Tryz.results217,hnt,Ad_,nS,dSym,hr2]) | ((first | refine Aq_ ?_ | refine Ap_ ?_);simp[hnt,Ad_,nS,dSym,hr2]) | (intro hc;(try simp[hnt,Ad_,nS,dSym,hr2]at hc);(try (exfalso;omega))) | (refine⟨?_,?_⟩; · omega) | omega | apply_assumption -exfalso -symm | (exfalso;omega)))
def WX_ : Ann:=⟨[],[]⟩
set_option maxHeartbeats 1000000 in
theorem ZQ_ (n:Int):AM_ Tryz.prog (.func 146) [.int .i64 n] [] (.agg [.int .i64 n,.nilsl,.osl 0 1,.int .i64 (-1)]) [⟨0,1,.row 3 1 8 ((List.replicate 16 (-1:Int)).map Bb_)⟩]:=by
 refine AP_ [2,3] [(50,0,1)] WX_ Tryz.func146 Tryz.call146 Tryz.ntmps146 mxd (aj2 @WX_.eq_1 Tryz.results146) rfl (by simp) (by simp) (by simp) fun hwf B hnt hgAnn=> ?_
 simp only[argS]
 (refine go1 aj0 aj0 aj0 ?_;intros;refine mk_i ?_)
 refine Bq_ 3 2 50 3 1 8 (by simp) (fun q=> ?_);refine Ae_ (X:={k:Nat//k≤16}) (fun k=>⟨[(2,.bx 2 1 0),(3,.bx 3 1 0),(4,.int .i64 k.1)],[⟨2,1,.box [.int .i64 0,.nilsl,.nilsl,.int .i64 0]⟩,⟨3,1,.box [.int .i64 n,.nilsl,.osl 50 1,.int .i64 (-1)]⟩,⟨50,1,.row 3 1 8 ((List.replicate k.1 (-1:Int)).map Bb_)⟩]⟩) (fun k=>16-k.1) ⟨0,by omega⟩ (Sub.lit (by simp)) ?_;rintro⟨k,hk⟩
 by_cases hlt:k<16
 ·have hz:(k+1)*8≤150000000000000:=by omega
  have hz2:k≤9223372036854775806:=by omega
  have hlt':(k:Int)<16:=by omega
  have hrp:List.replicate (k+1) [DVal.int .i64 (-1)]=List.replicate k [.int .i64 (-1)]++[[.int .i64 (-1)]]:=List.replicate_succ' ..;have hrm:mxR (List.replicate k [DVal.int .i64 (-1)])=0:=by have:=mx_ints (List.replicate k (-1));simpa[Bb_]using this
  (refine go1 aj0 aj0 (aj4 hlt hlt' hz hz2) ?_;intros;refine mk_i ?_)
  refine Aj_.mk ⟨k+1,by omega⟩ (Sub.lit (by simp[hrp,hrm,Bb_])) (by simp;omega)
  skip
 ·have hkk:k=16:=by omega
  subst hkk;exact go0 aj0 aj0 aj0
def WW_ : Ann:=⟨[2],[⟨2,[],[],[5003001,5003002]⟩,⟨7,[],[],[5007001,5007002,5007003,5007004,5007006]⟩]⟩
set_option maxHeartbeats 4000000 in
theorem YN_ (m:Mk) (s:Sym) (h0:s.label=true→0≤s.n∧s.n<16) (h1: -9223372036854775808≤m.nts) (h2:m.nts+1≤9223372036854775807) (h3:(m.prods.length+1)*32≤150000000000000) (h4:∀a h,DE_ m.hs a=some h→0≤h) (h5:0≤m.nts) :
  AM_ Tryz.prog (.func 218) [fmD 0 0 m,.agg (dSym s)] (dFo 0 0 m) (.tup [fmD 1 1 (m.sym s).1,.int .i64 (m.sym s).2]) (dFo 1 1 (m.sym s).1):=by
 refine AP_ [2,4] [(0,0,1),(1,1,1)] WW_ Tryz.func218 Tryz.call218 Tryz.ntmps218 mxd (aj2 @WW_.eq_1 Tryz.results218) rfl (by simp) (by simp) (by simp[dFo]) fun hwf B hnt hgAnn=> ?_
 simp only[argS,fmD];cases hl:s.label
 ·have hsym:m.sym s=(m,s.n):=by unfold Mk.sym;simp[hl]
  rw[hsym];exact go0 aj0 aj0 (aj4 @dFo.eq_1 @fmD.eq_1 @dSym.eq_1 hl)
 ·obtain⟨hn1,hn2⟩:=h0 hl
  obtain⟨a,rfl⟩:∃a:Nat,s=⟨true,a⟩:=by
   obtain⟨lb,sn⟩:=s;simp only at hl hn1 ⊢;subst hl;exact⟨sn.toNat,by rw[Int.toNat_of_nonneg hn1]⟩
  simp only at hn1 hn2;clear h0 hl;have ha16:a<16:=by omega
  have hat:=TU_ m a ha16
  cases hlk:DE_ m.hs a with
  | some h =>
   have hh:=h4 _ _ hlk;rw[hlk]at hat;simp only[cC0]at hat;have hat':(hs16 m)[a]'(by rw[Fn_];exact ha16)=h:=(aB0.1 hat).2;have hng:¬h<0:=by omega
   have hsym:m.sym ⟨true,a⟩=(m,h):=by unfold Mk.sym;simp[hlk]
   rw[hsym];exact go0 aj0 aj0 (aj10 @dFo.eq_1 @fmD.eq_1 @dSym.eq_1 @Bb_.eq_1 hat hat' Fn_ ha16 hng hh)
  | none =>
   rw[hlk]at hat;simp only[Option.getD_none]at hat;have hat':(hs16 m)[a]'(by rw[Fn_];exact ha16)= -1:=(aB0.1 hat).2;have hsym:m.sym ⟨true,a⟩=({ m with nts:=m.nts+1,hs:=m.hs++[((a:Int),m.nts)],prods:=m.prods++[⟨m.nts,[⟨true,a⟩]⟩] },m.nts):=by unfold Mk.sym;simp[hlk]
   rw[hsym];have hset:=hs16_set m a ha16 m.nts hlk (m.prods++[⟨m.nts,[⟨true,a⟩]⟩]) (m.nts+1)
   have hms:mxR ((List.map Bb_ (hs16 m)).set a [DVal.int .i64 m.nts])=0:=by
    have:=mx_ints ((hs16 m).set a m.nts);rw[eI0]at this;exact this
   (refine go1 aj0 aj0 (aj9 @dFo.eq_1 @fmD.eq_1 @dSym.eq_1 @Bb_.eq_1 hat hat' Fn_ ha16 hms) ?_;intros;refine mk_i ?_)
   exact⟨rfl,rfl,by rw[hset,eI0];rfl⟩
theorem BQ_ (m:Mk) (N:Int) (P:List Prod) (k:Int):hs16 ⟨N,P,m.hs,k⟩=hs16 m:=rfl
theorem form_easy {l:List Sym} (h:As_ l=1∨As_ l=2):l=[]∨∃n,l=[⟨true,n⟩]:=by
 match l with
 | []=>exact .inl rfl
 | [⟨b,n⟩] =>
  cases b
  ·simp[As_]at h
  ·exact .inr ⟨n,rfl⟩
 | [s,t]=>simp only[As_]at h;split at h<;>simp at h
 | s::t::u::r=>simp[As_]at h
theorem form_one {l:List Sym} (h:¬(As_ l=1∨As_ l=2)) (hl:l.length=1):∃n,l=[⟨false,n⟩]:=by
 match l with
 | [⟨b,n⟩] =>
  cases b
  ·exact⟨n,rfl⟩
  ·simp[As_]at h
def Dk_ : Ann:=⟨[2],[⟨20,[],[],[9]⟩]⟩
set_option maxHeartbeats 4000000 in
theorem addR_easy (m:Mk) (p:Prod) (hf:As_ p.body=1∨As_ p.body=2) (h3:(m.prods.length+1)*32≤150000000000000) :
  AM_ Tryz.prog (.func 147) [fmD 0 0 m,.agg (Ad_ p)] (dFo 0 0 m) (fmD 1 1 (m.add p)) (dFo 1 1 (m.add p)):=by
 refine AP_ [2,4] [(0,0,1),(1,1,1)] Dk_ Tryz.func147 Tryz.call147 Tryz.ntmps147 mxd (aj2 @Dk_.eq_1 Tryz.results147) rfl (by simp) (by simp) (by simp[dFo]) fun hwf B hnt hgAnn=> ?_
 simp only[argS,fmD];have e4:m.add p={ m with prods:=m.prods++[p] }:=by unfold Mk.add;rw[if_pos hf];rfl
 rw[e4];obtain⟨hd,bd⟩:=p;simp only at hf
 rcases form_easy hf with rfl | ⟨n,rfl⟩
 ·exact go0 aj0 aj0 (aj6 @dFo.eq_1 @fmD.eq_1 @Ad_.eq_1 @AR_.eq_1 @noR.eq_1 BQ_)
 ·exact go0 aj0 aj0 (aj7 @dFo.eq_1 @fmD.eq_1 @Ad_.eq_1 @AR_.eq_1 @dSym.eq_1 @noR.eq_1 BQ_)
set_option maxHeartbeats 4000000 in
theorem addR_one (m:Mk) (p:Prod) (hf:¬(As_ p.body=1∨As_ p.body=2)) (hl:p.body.length=1) (h0:0≤m.no) (h1:1≤m.nts) (h2:m.nts+10≤9223372036854775807) (h3:(m.prods.length+10)*32≤150000000000000) :
  AM_ Tryz.prog (.func 147) [fmD 0 0 m,.agg (Ad_ p)] (dFo 0 0 m) (fmD 1 1 (m.add p)) (dFo 1 1 (m.add p)):=by
 obtain⟨hd,bd⟩:=p;simp only at hf hl;obtain⟨x,rfl⟩:=form_one hf hl
 have e4:m.add ⟨hd,[⟨false,x⟩]⟩={ m.nothing with prods:=m.nothing.prods++[⟨hd,[nS x,nS m.nothing.no]⟩] }:=by
  unfold Mk.add;rw[if_neg hf,if_pos hl];simp[Mk.syms,Mk.sym,Mk.chain,CQ_]
 rw[e4]
 by_cases hno:m.no=0
 ·have e5:m.nothing=⟨m.nts+1,m.prods++[⟨m.nts,[]⟩],m.hs,m.nts⟩:=by unfold Mk.nothing;rw[if_pos hno]
  rw[e5]
  have key:AM_ Tryz.prog (.func 147) [fmD 0 0 m,.agg (Ad_ ⟨hd,[⟨false,x⟩]⟩)] (dFo 0 0 m) (.agg [.int .i64 (m.nts+1),.osl 0 1,.osl 1 1,.int .i64 m.nts]) [⟨0,1,.row 92 2 32 (m.prods.map Ad_++[[.int .i64 m.nts,.nilsl],Ad_ ⟨hd,[nS x,nS m.nts]⟩])⟩,⟨1,1,.row 3 1 8 ((hs16 m).map Bb_)⟩]:=by
   refine AP_ [2,4] [(0,0,1),(1,1,1)] Dk_ Tryz.func147 Tryz.call147 Tryz.ntmps147 mxd (aj2 @Dk_.eq_1 Tryz.results147) rfl (by simp) (by simp) (by simp) fun hwf B hnt hgAnn=> ?_
   simp only[argS,fmD];have htw:=GB_ hd x m.nts;have hn1:noR m= -1:=by unfold noR;rw[if_pos hno]
   (repeat (first | refine Aw_ fun K hK=> ?_ | (refine DW_r Dk_ mxd (by kernel_rfl) ?_;simp[Dk_,hnt,dFo,Ad_,AR_,dSym,hn1,nS];try simp (disch:=omega) only[Ah_]) | refine Al_ ?_ | (refine AJ_ ?_ ?_ ?_;(· (simp[hnt,dFo,Ad_,AR_,dSym,hn1,nS];done));(try (rotate_left;(· (intro hc;(try simp[hnt,dFo,Ad_,AR_,dSym,hn1,nS]at hc);done))))) | (refine Ay_ ?_;simp[Tryz.results147,hnt,dFo,Ad_,AR_,dSym,hn1,nS]) | ((first | refine Aq_ ?_ | refine Ap_ ?_);simp[hnt,dFo,Ad_,AR_,dSym,hn1,nS]) | (intro hc;(try simp[hnt,dFo,Ad_,AR_,dSym,hn1,nS]at hc);(try (exfalso;omega))) | ((first | refine Ag_ (htw) ?_ | (refine Af_ (htw) ?_ ?_;(· (simp;done))));try simp[hnt,dFo,Ad_,AR_,dSym,hn1,nS]) | (refine⟨?_,?_⟩; · omega) | omega | apply_assumption -exfalso -symm | (exfalso;omega)))
  have k2:=key.rowWk 0 (es':=(m.prods++[(⟨m.nts,[]⟩:Prod)]++[(⟨hd,[nS x,nS m.nts]⟩:Prod)]).map Ad_) rfl rfl (by
   rw[aX0,aX0,aU0];refine Np_ (Lh_ _) ⟨?_,Kp_ _,trivial⟩
   simp[Ad_,AR_])
  have hn2:noR ⟨m.nts+1,m.prods++[⟨m.nts,[]⟩]++[⟨hd,[nS x,nS m.nts]⟩],m.hs,m.nts⟩=m.nts:=by
   unfold noR;simp only;rw[if_neg (by omega)]
  simp only[fmD,dFo,hn2,BQ_];exact k2
 ·have e5:m.nothing=m:=by unfold Mk.nothing;rw[if_neg hno]
  rw[e5];refine AP_ [2,4] [(0,0,1),(1,1,1)] Dk_ Tryz.func147 Tryz.call147 Tryz.ntmps147 mxd (aj2 @Dk_.eq_1 Tryz.results147) rfl (by simp) (by simp) (by simp[dFo]) fun hwf B hnt hgAnn=> ?_
  simp only[argS,fmD];have htw:=GB_ hd x m.no;have hn1:noR m=m.no:=by unfold noR;rw[if_neg hno]
  have hn2:¬m.no<0:=by omega
  have hn3:noR ⟨m.nts,m.prods++[⟨hd,[⟨false,x⟩,⟨false,m.no⟩]⟩],m.hs,m.no⟩=m.no:=hn1
  (repeat (first | refine Aw_ fun K hK=> ?_ | (refine DW_r Dk_ mxd (by kernel_rfl) ?_;simp[Dk_,hnt,dFo,Ad_,AR_,dSym,hn1,hn2,hn3,nS,BQ_];try simp (disch:=omega) only[Ah_]) | refine Al_ ?_ | (refine AJ_ ?_ ?_ ?_;(· (simp[hnt,dFo,Ad_,AR_,dSym,hn1,hn2,hn3,nS,BQ_];done));(try (rotate_left;(· (intro hc;(try simp[hnt,dFo,Ad_,AR_,dSym,hn1,hn2,hn3,nS,BQ_]at hc);done))))) | (refine Ay_ ?_;simp[Tryz.results147,hnt,dFo,Ad_,AR_,dSym,hn1,hn2,hn3,nS,BQ_]) | ((first | refine Aq_ ?_ | refine Ap_ ?_);simp[hnt,dFo,Ad_,AR_,dSym,hn1,hn2,hn3,nS,BQ_]) | (intro hc;(try simp[hnt,dFo,Ad_,AR_,dSym,hn1,hn2,hn3,nS,BQ_]at hc);(try (exfalso;omega))) | ((first | refine Ag_ (htw) ?_ | (refine Af_ (htw) ?_ ?_;(· (simp;done))));try simp[hnt,dFo,Ad_,AR_,dSym,hn1,hn2,hn3,nS,BQ_]) | (refine⟨?_,?_⟩; · omega) | omega | apply_assumption -exfalso -symm | (exfalso;omega)))
def Mk.Pos (m:Mk):Prop:=0≤m.nts∧∀a h,DE_ m.hs a=some h→0≤h
theorem pos_sym {m:Mk} (h:m.Pos) (s:Sym):(m.sym s).1.Pos:=by
 obtain⟨h1,h2⟩:=h;unfold Mk.sym
 split
 ·split
  ·exact⟨h1,h2⟩
  ·refine⟨by simp only;omega,fun a x hx=> ?_⟩;simp only[IG_]at hx
   split at hx
   ·rename_i y hy;simp only[aA0]at hx;subst hx;exact h2 _ _ hy
   ·split at hx
    ·simp only[aA0]at hx;omega
    ·simp at hx
 ·exact⟨h1,h2⟩
def DO_ : Ann:=⟨[2,86],[⟨20,[],[],[9]⟩]⟩
set_option maxHeartbeats 8000000 in
theorem addR_more (m:Mk) (p:Prod) (hf:¬(As_ p.body=1∨As_ p.body=2)) (hl:¬p.body.length=1) (hl2:p.body.length≤1026) (hok:∀s∈p.body,s.label=true→0≤s.n∧s.n<16) (hpos:m.Pos)
  (h2:m.nts+4000≤9223372036854775807) (h3:(m.prods.length+4000)*32≤150000000000000) :
  AM_ Tryz.prog (.func 147) [fmD 0 0 m,.agg (Ad_ p)] (dFo 0 0 m) (fmD 1 1 (m.add p)) (dFo 1 1 (m.add p)):=by
 have e4:m.add p=(m.syms p.body).1.chain p.head (m.syms p.body).2:=by unfold Mk.add;rw[if_neg hf,if_neg hl]
 rw[e4];have hge:=PG_ (fun h=>hf (.inl h)) (fun h=>hf (.inr h));obtain⟨hd,l⟩:=p;simp only at hl hl2 hok hge ⊢;clear e4 hf;refine AP_ [2,4] [(0,0,1),(1,1,1)] DO_ Tryz.func147 Tryz.call147 Tryz.ntmps147 mxd (aj2 @DO_.eq_1 Tryz.results147) rfl (by simp) (by simp) (by simp[dFo]) fun hwf B hnt hgAnn=> ?_
 simp only[argS,fmD];have q1:¬l=[]:=fun h=>by rw[h]at hge;simp at hge
 have q2:¬(l.length:Int)=1:=by omega
 have q3:¬(1026:Int)<l.length:=by omega
 have q4:¬(l.length:Int)=0:=by omega
 have q5:((l.length:Int)==0)=false:=by simpa using q4
 have q6:((l.length:Int)==1)=false:=by simpa using q2
 obtain⟨s0,hs0,hs0',_⟩:=Ak_ (show 0<l.length by omega)
 (refine go1 aj0 aj0 (aj12 @dFo.eq_1 @Ad_.eq_1 @dSym.eq_1 q1 q2 q3 q4 q5 q6 hl hs0 hs0') ?_;intros;refine mk_i ?_)
 refine AV_ 6 52 3 1 8 (by simp[hnt,Tryz.ntmps147]) (fun n=> ?_)
 refine Ae_ (X:={x:Nat×Mk×List Int//x.1≤l.length∧((x.2.1.syms (l.drop x.1)).1,x.2.2++(x.2.1.syms (l.drop x.1)).2)=m.syms l∧x.2.1.Pos∧x.2.1.nts≤m.nts+x.1∧x.2.1.prods.length≤m.prods.length+x.1∧x.2.2.length=x.1})
  (fun x=>⟨[(2,.bx 2 1 0),(3,.ref [.int .i64 hd,AR_ l]),(4,.bx 4 1 0),(5,.int .i64 l.length),(6,.osl 52 1),(7,.int .i64 x.1.1)],[⟨4,1,.box [.int .i64 0,.nilsl,.nilsl,.int .i64 0]⟩,⟨2,1,.box [.int .i64 x.1.2.1.nts,.osl 0 1,.osl 1 1,.int .i64 (noR x.1.2.1)]⟩,⟨0,1,.row 92 2 32 (x.1.2.1.prods.map Ad_)⟩,⟨1,1,.row 3 1 8 ((hs16 x.1.2.1).map Bb_)⟩,⟨52,1,.row 3 1 8 (x.1.2.2.map Bb_)⟩]⟩)
  (fun x=>l.length-x.1.1) ⟨(0,m,[]),by simpa using hpos⟩ (Sub.lit (by simp)) ?_
 rintro⟨⟨k,m1,acc⟩,hk,hR,b1,b2,b3,b4⟩;simp only at hk hR b1 b2 b3 b4 ⊢
 by_cases hlt:k<l.length
 ·obtain⟨s,hs,hs',hsm⟩:=Ak_ hlt;rw[aR0 hlt,hs']at hR;simp only[Mk.syms]at hR;have hz:(acc.length+1)*8≤150000000000000:=by omega
  have hz2:acc.length≤9223372036854775806:=by omega
  have e1:=YN_ m1 s (hok s hsm) (by have:=b1.1;omega) (by omega) (Nat.le_trans (aO0 32 (by omega)) h3) b1.2 b1.1;obtain⟨g1,g2,g3⟩:=Ti_ m1 s;have g4:=pos_sym b1 s;simp only[Mk.gap]at g1
  generalize (m1.sym s).1=m2 at e1 hR g1 g2 g3 g4
  generalize (m1.sym s).2=x at e1 hR
  simp only[fmD]at e1
  (refine go1 aj0 (aj1 (spc [(0,0),(1,1)] [] e1)) (aj7 @dFo.eq_1 @Ad_.eq_1 @dSym.eq_1 hlt hs' hz hz2) ?_;intros;refine mk_i ?_)
  refine Aj_.mk ⟨(k+1,m2,acc++[x]),show k+1≤l.length∧_∧m2.Pos∧m2.nts≤m.nts+((k+1:Nat):Int)∧m2.prods.length≤m.prods.length+(k+1)∧(acc++[x]).length=k+1 from ⟨by omega,by simpa using hR,g4,by omega,by omega,by simp;omega⟩⟩ (Sub.lit (by simp[Bb_])) (by simp;omega)
  skip
 ·have hkk:k=l.length:=by omega
  subst hkk;rw[bQ0]at hR;simp only[Mk.syms,bM0]at hR;have hS:=hR;clear hR hlt hk;have hb0:=b1.1;obtain⟨q,hq⟩:∃q,l.length=q+2:=⟨l.length-2,by omega⟩;rw[hq]at b2 b3 b4 hl2;have hw:IntKind.i64.wrap (q:Int)=q:=wq
  (refine go1 aj0 aj0 (aj4 @dFo.eq_1 @Ad_.eq_1 hq hw) ?_;intros;refine mk_i ?_)
  refine Ae_ (X:={x:Nat×List Prod×Int//x.1≤q∧x.2.1.length=m1.prods.length+x.1∧x.2.1++CQ_ (m1.nts+x.1) x.2.2 (acc.drop x.1)=m1.prods++CQ_ m1.nts hd acc})
   (fun x=>⟨[(2,.bx 2 1 0),(4,.bx 4 1 0),(5,.int .i64 (q+2)),(6,.osl 52 1),(9,.int .i64 x.1.2.2),(10,.int .i64 x.1.1)],[⟨4,1,.box [.int .i64 0,.nilsl,.nilsl,.int .i64 0]⟩,⟨2,1,.box [.int .i64 (m1.nts+x.1.1),.osl 0 1,.osl 1 1,.int .i64 (noR m1)]⟩,⟨0,1,.row 92 2 32 (x.1.2.1.map Ad_)⟩,⟨1,1,.row 3 1 8 ((hs16 m1).map Bb_)⟩,⟨52,1,.row 3 1 8 (acc.map Bb_)⟩]⟩)
   (fun x=>q-x.1.1) ⟨(0,m1.prods,hd),by simp⟩ (Sub.lit (by simp)) ?_
  rintro⟨⟨j,P,prev⟩,hj,hP,hR⟩;simp only at hj hP hR ⊢;obtain⟨a,ha,ha',_⟩:=Ak_ (show j<acc.length by omega);have hz1:(P.length+1)*32≤150000000000000:=Nat.le_trans (aO0 32 (by omega)) h3;have hz2:P.length≤9223372036854775806:=by omega
  by_cases hlt:j<q
  ·have hlt':(j:Int)+2<(q:Int)+2:=by omega
   rw[drop3 (b:=0) (by omega) ha]at hR;have e1:=GB_ prev a (m1.nts+j);have hw4:IntKind.i64.wrap (m1.nts+j+1)=m1.nts+j+1:=wq
   (repeat (first | refine Aw_ fun K hK=> ?_ | (refine DW_r DO_ mxd (by kernel_rfl) ?_;simp[DO_,hnt,dFo,Ad_,dSym,Bb_,nS,hlt,hlt',ha,ha',b4,hz1,hz2,hw4];try simp (disch:=omega) only[Ah_]) | refine Al_ ?_ | (refine AJ_ ?_ ?_ ?_;(· (simp[hnt,dFo,Ad_,dSym,Bb_,nS,hlt,hlt',ha,ha',b4,hz1,hz2,hw4];done));(try (rotate_left;(· (intro hc;(try simp[hnt,dFo,Ad_,dSym,Bb_,nS,hlt,hlt',ha,ha',b4,hz1,hz2,hw4]at hc);done))))) | (refine Ay_ ?_;simp[Tryz.results147,hnt,dFo,Ad_,dSym,Bb_,nS,hlt,hlt',ha,ha',b4,hz1,hz2,hw4]) | ((first | refine Aq_ ?_ | refine Ap_ ?_);simp[hnt,dFo,Ad_,dSym,Bb_,nS,hlt,hlt',ha,ha',b4,hz1,hz2,hw4]) | (intro hc;(try simp[hnt,dFo,Ad_,dSym,Bb_,nS,hlt,hlt',ha,ha',b4,hz1,hz2,hw4]at hc);(try (exfalso;omega))) | ((first | refine Ag_ (e1) ?_ | (refine Af_ (e1) ?_ ?_;(· (simp;done))));try simp[hnt,dFo,Ad_,dSym,Bb_,nS,hlt,hlt',ha,ha',b4,hz1,hz2,hw4]) | (refine⟨?_,?_⟩; · omega) | omega | apply_assumption -exfalso -symm | (exfalso;omega)))
   refine Aj_.mk ⟨(j+1,P++[⟨prev,[nS a,nS (m1.nts+j)]⟩],m1.nts+j),show j+1≤q∧(P++[(⟨prev,[nS a,nS (m1.nts+j)]⟩:Prod)]).length=m1.prods.length+(j+1)∧_ from ⟨by omega,by simp;omega,?_⟩⟩ (Sub.lit (by simp[nS,Ad_,dSym];omega)) (by simp;omega)
   ·rw[←hR,aU0,show m1.nts+((j+1:Nat):Int)=m1.nts+j+1 by omega];rfl
   skip
  ·have hjq:j=q:=by omega
   subst hjq;obtain⟨b,hb,hb',_⟩:=Ak_ (show j+1<acc.length by omega);rw[drop2 (by omega) ha hb]at hR;have e1:=GB_ prev a b;have hx1:(j:Int)+2-2=j:=by omega
   have hx2:(j:Int)+2-1=j+1:=by omega
   have htn:((j:Int)+1).toNat=j+1:=by omega
   have hw1:IntKind.i64.wrap ((j:Int)+1)=j+1:=wq
   (repeat (first | refine Aw_ fun K hK=> ?_ | (refine DW_r DO_ mxd (by kernel_rfl) ?_;simp[DO_,hnt,dFo,Ad_,dSym,Bb_,nS,ha,ha',hb,hb',b4,hz1,hz2,hx1,hx2,htn,hw,hw1];try simp (disch:=omega) only[Ah_]) | refine Al_ ?_ | (refine AJ_ ?_ ?_ ?_;(· (simp[hnt,dFo,Ad_,dSym,Bb_,nS,ha,ha',hb,hb',b4,hz1,hz2,hx1,hx2,htn,hw,hw1];done));(try (rotate_left;(· (intro hc;(try simp[hnt,dFo,Ad_,dSym,Bb_,nS,ha,ha',hb,hb',b4,hz1,hz2,hx1,hx2,htn,hw,hw1]at hc);done))))) | (refine Ay_ ?_;simp[Tryz.results147,hnt,dFo,Ad_,dSym,Bb_,nS,ha,ha',hb,hb',b4,hz1,hz2,hx1,hx2,htn,hw,hw1]) | ((first | refine Aq_ ?_ | refine Ap_ ?_);simp[hnt,dFo,Ad_,dSym,Bb_,nS,ha,ha',hb,hb',b4,hz1,hz2,hx1,hx2,htn,hw,hw1]) | (intro hc;(try simp[hnt,dFo,Ad_,dSym,Bb_,nS,ha,ha',hb,hb',b4,hz1,hz2,hx1,hx2,htn,hw,hw1]at hc);(try (exfalso;omega))) | ((first | refine Ag_ (e1) ?_ | (refine Af_ (e1) ?_ ?_;(· (simp;done))));try simp[hnt,dFo,Ad_,dSym,Bb_,nS,ha,ha',hb,hb',b4,hz1,hz2,hx1,hx2,htn,hw,hw1]) | (refine⟨?_,?_⟩; · omega) | omega | apply_assumption -exfalso -symm | (exfalso;omega)))
   rw[←hS]
   have e3:m1.chain hd acc={ m1 with nts:=m1.nts+j,prods:=P++[⟨prev,[nS a,nS b]⟩] }:=by
    unfold Mk.chain;rw[hR,b4];rfl
   simp only;rw[e3];refine⟨⟨rfl,rfl⟩,?_,rfl⟩;simp[Ad_,nS,dSym]
end Go.Proofs.YtchgnpnbcjflcaaGreat
end
