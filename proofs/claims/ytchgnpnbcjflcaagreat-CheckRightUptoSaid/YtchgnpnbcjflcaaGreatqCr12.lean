/- Parts of a proof, laid together: W91, W50, W21, W93, W52, WG, CK0, W17, CK1, CK2, CF3, W30, W8, W22, WN1, CK3, CK4, WB15, WH, CT1, CK5, CW1. -/
import Derived.Test.YtchgnpnbcjflcaaGreatqCr4
import Derived.Test.YtchgnpnbcjflcaaGreatqCr5
import Derived.Test.YtchgnpnbcjflcaaGreatqCr6
import Derived.Test.YtchgnpnbcjflcaaGreatqCr7
import Derived.Test.YtchgnpnbcjflcaaGreatqCr8
import Derived.Test.YtchgnpnbcjflcaaGreatqCr11
set_option linter.unusedSimpArgs false
set_option maxHeartbeats 8000000
set_option linter.unusedVariables false
set_option linter.unusedSectionVars false
section
namespace Go.Proofs.Wy
open Go Go.Dm Tryz
variable [DMode]
attribute [local irreducible] DW Bs Bv
set_option maxRecDepth 100000
def tlC (m:Mk) (h:Int) (k:Nat):List Int:=h::(List.range k).map fun i:Nat=>m.nts+(i:Int)
theorem HJ_ (m:Mk) (h:Int) (k:Nat):(tlC m h k).length=k+1:=by simp[tlC]
theorem Ng_ (m:Mk) (h:Int) (k:Nat):tlC m h (k+1)=tlC m h k++[m.nts+k]:=by simp[tlC,dE0]
theorem Sp_ (m:Mk) (h:Int) (k i:Nat) (hi:i<k):(tlC m h k)[i+1]? =some (m.nts+i):=by simp[tlC,hi]
theorem Sh_ {ns:List Int} {i:Nat} {a b:Int} (hi:i+2<ns.length) (ha:ns[i]? =some a):∀nts head,El nts head (ns.drop i)=⟨head,[nS a,nS nts]⟩::El (nts+1) nts (ns.drop (i+1)):=by
 intro nts head;obtain⟨h1,rfl⟩:=aB0.1 ha;rw[aP0 h1,aP0 (show i+1<ns.length by omega),aP0 (show i+1+1<ns.length by omega)];rfl
theorem Si_ {ns:List Int} {i:Nat} {a b:Int} (hi:i+2=ns.length) (ha:ns[i]? =some a) (hb:ns[i+1]? =some b):∀nts head,El nts head (ns.drop i)=[⟨head,[nS a,nS b]⟩]:=by
 intro nts head;obtain⟨h1,rfl⟩:=aB0.1 ha;obtain⟨h2,rfl⟩:=aB0.1 hb;rw[aP0 h1,aP0 h2,cU0 (by omega)];rfl
def QL : Ann:=⟨[12,22,52,71],[]⟩
theorem WQ (m:Mk) (h:Int) (ns:List Int) (h0:2<=ns.length) (h1: -9223372036854775808<=m.nts) (h2:m.nts+ns.length<=9223372036854775807) (h3:(m.prods.length+ns.length+1)*32<=150000000000000) :
  AS prog (.func 216) [.bx 0 0 0,.int .i64 h,.sl 1 8 (ns.map BA)] (BV 0 m) (.tup []) (BV 1 (m.chain h ns)):=by
 refine Bi [] [(0,0,0),(1,1,1),(2,2,0)] QL func216 call216 ntmps216 mxd (Ap @QL.eq_1 results216) rfl (fun qJ B qX qQ=> ?_) (hv:=(by simp[BV]));simp only[Ak];obtain⟨q,hq⟩:∃q,ns.length=q+2:=⟨ns.length-2,by omega⟩;rw[hq]at h2 h3;have hw:IntKind.i64.wrap (q:Int)=q:=wq;have wG:((q:Int)+2-2)=q:=by omega
 (refine Au Aa Aa (CG @BV.eq_1 hw hq wG) ?_;intros;refine Ae ?_)
 refine Af (X:={k:Nat//k<=q}) (fun k=>⟨[(0,.bx 0 0 0),(1,.int .i64 h),(2,.sl 1 8 (ns.map BA)),(6,.osl 12 1),(7,.fn (.func 299) [.bx 0 0 0] []),(17,.int .i64 q),(18,.int .i64 k.1)],BV 1 { m with nts:=m.nts+k.1 }++[⟨12,1,.row 3 1 8 ((tlC m h k.1).map BA)⟩]⟩)
  (fun k=>q-k.1) ⟨0,by omega⟩ (Sub.lit (by simp[BV,tlC,BA])) ?_
 rintro⟨k,hk⟩
 have hz:(k+1+1)*8<=150000000000000:=by
  have h4:(m.prods.length+(q+2)+1)*8<=(m.prods.length+(q+2)+1)*32:=bY0 _ (by omega);have h5:(k+1+1)*8<=(m.prods.length+(q+2)+1)*8:=aQ0 _ (by omega);exact Nat.le_trans h5 (Nat.le_trans h4 h3)
 by_cases qV:k<q
 ·have e1:=Jv { m with nts:=m.nts+k } (by simp only;omega) (by simp only;omega);have wM:k+1<=9223372036854775806:=by omega
  have kM:=Ng_ m h k
  (refine Au Aa (Aq (DF [(0,0),(1,1),(2,2)] [] e1)) (Dx @BV.eq_1 qV hz wM HJ_) ?_;intros;refine Ae ?_)
  refine Ag.mk ⟨k+1,by omega⟩ (Sub.lit (by simp[BV,BA,kM];omega)) (by simp;omega)
  skip
 ·have qY:k=q:=by omega
  subst qY;clear qV;obtain⟨T,hT⟩:∃T,T=tlC m h k:=⟨_,rfl⟩;have hTl:T.length=k+1:=by rw[hT,HJ_]
  have jR:T[0]? =some h:=by rw[hT];rfl
  have hTs:∀i,i<k->T[i+1]? =some (m.nts+i):=fun i hi=>by rw[hT];exact Sp_ m h k i hi
  rw[<-hT];clear hT;have jE:((k:Int)+1-1)=k:=by omega
  (refine Au Aa Aa (CG @BV.eq_1 hTl jE hw) ?_;intros;refine Ae ?_)
  refine Af (X:={x:Nat×List Prod//x.1<=k/\x.2.length=m.prods.length+x.1/\∀t,T[x.1]? =some t->x.2++El (m.nts+x.1) t (ns.drop x.1)=m.prods++El m.nts h ns})
   (fun x=>⟨[(0,.bx 0 0 0),(1,.int .i64 h),(2,.sl 1 8 (ns.map BA)),(6,.osl 12 1),(8,.int .i64 k),(31,.vw 12 1 1 8 0 k),(32,.int .i64 k),(33,.int .i64 x.1.1)],BV 1 { m with nts:=m.nts+k,prods:=x.1.2 }++[⟨12,1,.row 3 1 8 (T.map BA)⟩]⟩)
   (fun x=>k-x.1.1) ⟨(0,m.prods),by simp[jR]⟩ (Sub.lit (by simp[BV])) ?_
  rintro⟨⟨i,P⟩,hi,hP,hR⟩;simp only at hi hP hR |-;obtain⟨t,ht,bK,_⟩:=Ai (show i<T.length by omega);obtain⟨a,ha,kT,_⟩:=Ai (show i<ns.length by omega);have hR:=hR t ht
  by_cases qV:i<k
  ·have rZ:=hTs i qV;have hT1':T[i+1]'(by omega)=m.nts+i:=(aB0.1 rZ).2;rw[Sh_ (b:=0) (by omega) ha]at hR;have e2:=Kd { m with nts:=m.nts+k,prods:=P } t [nS a,nS (m.nts+i)] (Nat.le_trans (aQ0 32 (show P.length+1<=m.prods.length+(k+2)+1 by omega)) h3);simp only[nS]at e2;have hv:k<=T.length:=by omega
   have gQ:((i:Int)+1).toNat=i+1:=by omega
   have qE:(0:Int)<=(i:Int)+1:=by omega
   have qP:(i:Int)+1<(k:Int)+1:=by omega
   have wR:i<ns.length:=by omega
   have hmp:Option.map ((fun cs=>cs)∘BA) T[((i:Int)+1).toNat]? =some [.int .i64 (m.nts+i)]:=by rw[gQ,rZ];rfl
   have zS:(([0,1]:List Nat)=List.range 2)=True:=eq_true rfl
   (refine Au Aa (Aq (DF [(0,0),(1,1),(2,2)] [] e2)) (Ap (HT @BV.eq_1 @AA.eq_1 @BA.eq_1 qV bK ht ha kT rZ hT1' hTl hq hv gQ qE qP) (Ap hmp zS)) ?_;intros;refine Ae ?_)
   simp only[gQ,rZ];simp[qX,results216,QL,BV,AA,BA,qV,bK,ht,ha,kT,rZ,hT1',hTl,hq,hv,gQ,qE,qP,hmp,zS]
   (refine Au Aa (Aq (DF [(0,0),(1,1),(2,2)] [] e2)) (Ap (HT @BV.eq_1 @AA.eq_1 @BA.eq_1 qV bK ht ha kT rZ hT1' hTl hq hv gQ qE qP) (Ap hmp zS)) ?_;intros;refine Ae ?_)
   refine Ag.mk ⟨(i+1,P++[⟨t,[nS a,nS (m.nts+i)]⟩]),show i+1<=k/\(P++[(⟨t,[nS a,nS (m.nts+i)]⟩:Prod)]).length=m.prods.length+(i+1)/\_ from ⟨by omega,by simp;omega,fun t' h'=> ?_⟩⟩ (Sub.lit (by simp[BV,nS])) (by simp;omega)
   ·simp only at h' |-;rw[rZ]at h';simp only[aA0]at h';subst h';rw[<-hR,aR0,show m.nts+((i+1:Nat):Int)=m.nts+i+1 by omega];rfl
   skip
  ·have fP:i=k:=by omega
   subst fP;obtain⟨b,hb,qG,_⟩:=Ai (show i+1<ns.length by omega);rw[Si_ (by omega) ha hb]at hR;have e2:=Kd { m with nts:=m.nts+i,prods:=P } t [nS a,nS b] (Nat.le_trans (aQ0 32 (show P.length+1<=m.prods.length+(i+2)+1 by omega)) h3);simp only[nS]at e2;have gQ:((i:Int)+1).toNat=i+1:=by omega
   have hmp:Option.map ((fun cs=>cs)∘BA) ns[((i:Int)+1).toNat]? =some [.int .i64 b]:=by rw[gQ,hb];rfl
   have zS:(([0,1]:List Nat)=List.range 2)=True:=eq_true rfl
   (refine Au Aa (Aq (DF [(0,0),(1,1),(2,2)] [] e2)) (Tv @BV.eq_1 @AA.eq_1 @BA.eq_1 bK ht ha kT hb qG hTl hq gQ hmp zS) ?_;intros;refine Ae ?_)
   simp only[gQ,hb];simp[qX,results216,QL,BV,AA,BA,bK,ht,ha,kT,hb,qG,hTl,hq,gQ,hmp,zS]
   (refine Au Aa (Aq (DF [(0,0),(1,1),(2,2)] [] e2)) (Tv @BV.eq_1 @AA.eq_1 @BA.eq_1 bK ht ha kT hb qG hTl hq gQ hmp zS) ?_;intros;refine Ae ?_)
   have e3:m.chain h ns={ m with nts:=m.nts+i,prods:=P++[⟨t,[nS a,nS b]⟩] }:=by
    unfold Mk.chain;rw[hR,hq];rfl
   rw[e3];simp[nS]
theorem Sy_ (m:Mk) (h:Int) (b:List Sym):m.put h b={ m with prods:=m.prods++[⟨h,b⟩] }:=rfl
theorem PQ {a b:Nat} (h:a<=b) (hb:b*32<=150000000000000):a*32<=150000000000000:=Nat.le_trans (aQ0 32 h) hb
def Dh_ : Ann:=⟨[18,22,28,35],[]⟩
theorem Ql_ (m:Mk) (p:Prod) (hf:AB p.body=1\/AB p.body=2) (h3:(m.prods.length+1)*32<=150000000000000) :
  AS prog (.func 143) [.bx 0 0 0,.agg (Ah p)] (BV 0 m) (.tup []) (BV 1 (m.add p)):=by
 refine Bi [] [(0,0,0),(1,1,1),(2,2,0)] Dh_ func143 call143 ntmps143 mxd (Ap @Dh_.eq_1 results143) rfl (fun qJ B qX qQ=> ?_) (hv:=(by simp[BV]));simp only[Ak];have e1:=TP p.body;have e2:=WN p.body;have e3:=Kd m p.head p.body h3;have e4:m.add p=m.put p.head p.body:=by unfold Mk.add;rw[if_pos hf]
 rw[e4,Sy_]
 rcases hf with hf | hf
 ·rw[hf]at e1;exact Al (Ap e1 e2) (Aq (DF [(0,0),(1,1),(2,2)] [] e3)) (Ap @BV.eq_1 @Ah.eq_1)
 ·rw[hf]at e1;exact Al (Ap e1 e2) (Aq (DF [(0,0),(1,1),(2,2)] [] e3)) (Ap @BV.eq_1 @Ah.eq_1)
def Xn : Ann:=⟨[18,22,28,35],[⟨7,[50],[],[]⟩]⟩
theorem RV_ (m:Mk) (p:Prod) (hf:¬(AB p.body=1\/AB p.body=2)) (hl:p.body.length=1) (h1: -9223372036854775808<=m.nts) (h2:m.nts+10<=9223372036854775807) (h3:(m.prods.length+10)*32<=150000000000000) :
  AS prog (.func 143) [.bx 0 0 0,.agg (Ah p)] (BV 0 m) (.tup []) (BV 1 (m.add p)):=by
 refine Bi [] [(0,0,0),(1,1,1),(2,2,0)] Xn func143 call143 ntmps143 mxd (Ap @Xn.eq_1 results143) rfl (fun qJ B qX qQ=> ?_) (hv:=(by simp[BV]));simp only[Ak];have e1:=TP p.body;obtain⟨g1,g2,g3⟩:=LY p.body m;obtain⟨k1,k2,k3⟩:=Mx (m.syms p.body).1;have hsl:=Po m p.body;rw[hl]at hsl;simp only[Mk.gap]at g1 k1;have e2:=Ar_ m p.body h1 (by omega) (PQ (by omega) h3);have e3:=iS (m.syms p.body).1 (by omega) (by omega) (PQ (by omega) h3)
 have e5:=WQ (m.syms p.body).1.nothing p.head ((m.syms p.body).2++[(m.syms p.body).1.nothing.no]) (by simp;omega) (by omega) (by simp;omega) (PQ (by simp;omega) h3);have e4:m.add p=(m.syms p.body).1.nothing.chain p.head ((m.syms p.body).2++[(m.syms p.body).1.nothing.no]):=by unfold Mk.add;rw[if_neg hf,if_pos hl]
 rw[e4];clear g1 g2 g3 k1 k2 k3 e4
 generalize (m.syms p.body).1.nothing.chain p.head ((m.syms p.body).2++[(m.syms p.body).1.nothing.no])=m3 at e5 |-
 generalize bO:(m.syms p.body).1.nothing=m2 at e3 e5
 generalize (m.syms p.body).1=m1 at e2 e3
 generalize (m.syms p.body).2=ns at e2 e5 hsl
 simp only[aX0,List.map_cons,List.map_nil,BA]at e5
 generalize hF:AB p.body=F at hf e1
 have f1:¬F=1:=fun h=>hf (.inl h)
 have f2:¬F=2:=fun h=>hf (.inr h)
 exact Al (Aq e1) (BC (DF [(0,0),(1,1),(2,2)] [(50,3)] e2) (DF [(0,0),(1,1),(2,2)] [] e3) (DF [(0,0),(1,1),(2,2)] [] e5)) (EB @BV.eq_1 @Ah.eq_1 hsl f1 f2 @BA.eq_1)
def Xm : Ann:=⟨[18,22,28,35],[⟨5,[50],[],[]⟩]⟩
theorem Qk_ (m:Mk) (p:Prod) (hf:¬(AB p.body=1\/AB p.body=2)) (hl:¬p.body.length=1) (h1: -9223372036854775808<=m.nts) (h2:m.nts+2*p.body.length+10<=9223372036854775807) (h3:(m.prods.length+2*p.body.length+10)*32<=150000000000000) :
  AS prog (.func 143) [.bx 0 0 0,.agg (Ah p)] (BV 0 m) (.tup []) (BV 1 (m.add p)):=by
 refine Bi [] [(0,0,0),(1,1,1),(2,2,0)] Xm func143 call143 ntmps143 mxd (Ap @Xm.eq_1 results143) rfl (fun qJ B qX qQ=> ?_) (hv:=(by simp[BV]));simp only[Ak];have e1:=TP p.body;obtain⟨g1,g2,g3⟩:=LY p.body m;have hsl:=Po m p.body;have kX:=VZ (fun h=>hf (.inl h)) (fun h=>hf (.inr h));simp only[Mk.gap]at g1;have e2:=Ar_ m p.body h1 (by omega) (PQ (by omega) h3);have e5:=WQ (m.syms p.body).1 p.head (m.syms p.body).2 (by omega) (by omega) (by omega) (PQ (by omega) h3)
 have e4:m.add p=(m.syms p.body).1.chain p.head (m.syms p.body).2:=by unfold Mk.add;rw[if_neg hf,if_neg hl]
 rw[e4];have hsl2:¬(m.syms p.body).2.length=1:=by omega
 clear g1 g2 g3 e4 hsl
 generalize (m.syms p.body).1.chain p.head (m.syms p.body).2=m3 at e5 |-
 generalize (m.syms p.body).1=m1 at e2 e5
 generalize (m.syms p.body).2=ns at e2 e5 hsl2
 generalize hF:AB p.body=F at hf e1
 have f1:¬F=1:=fun h=>hf (.inl h)
 have f2:¬F=2:=fun h=>hf (.inr h)
 have f3:¬(ns.length:Int)=1:=by omega
 exact Al (Aq e1) (Ap (DF [(0,0),(1,1),(2,2)] [(50,3)] e2) (DF [(0,0),(1,1),(2,2)] [] e5)) (EB @BV.eq_1 @Ah.eq_1 hsl2 f1 f2 f3)
theorem Qj_ (m:Mk) (p:Prod) (h1: -9223372036854775808<=m.nts) (h2:m.nts+2*p.body.length+10<=9223372036854775807) (h3:(m.prods.length+2*p.body.length+10)*32<=150000000000000) :
  AS prog (.func 143) [.bx 0 0 0,.agg (Ah p)] (BV 0 m) (.tup []) (BV 1 (m.add p)):=by
 by_cases hf:AB p.body=1\/AB p.body=2
 ·exact Ql_ m p hf (PQ (by omega) h3)
 ·by_cases hl:p.body.length=1
  ·exact RV_ m p hf hl h1 (by omega) (PQ (by omega) h3)
  ·exact Qk_ m p hf hl h1 h2 h3
def Mk.start (c:Cnf):Mk:=⟨c.nts,[],[],0⟩
def Mk.cnf (m:Mk):Cnf:=⟨m.nts,m.prods⟩
def SW_ (m:Option Mk):Cnf×Int:=match m with
 | none=>(RY,240)
 | some m=>(if BB m.cnf then BM m.cnf else RY,if BB m.cnf then 0 else 220)
def iM (c:Cnf):Cnf×Int:=if BB c then SW_ ((Mk.start c).adds c.prods)else (RY,220)
def ER : Ann:=⟨[19,47],[⟨7,[7],[],[]⟩]⟩
theorem Lb_ (c:Cnf) (qM:(c.prods.length+8000)*32<=150000000000000):Ac prog 56 [.agg (Ar c)] (.tup [.agg (Ar (iM c).1),.int .i64 (iM c).2]):=by
 have key:∀d,d=(if BB c then (match (Mk.start c).adds c.prods with | none=> .tup [.agg [.int .i64 0,.nilsl],.int .i64 240] | some m=> .tup [.agg (Ar (if BB m.cnf then BM m.cnf else RY)),.int .i64 (if BB m.cnf then 0 else 220)])else .tup [.agg [.int .i64 0,.nilsl],.int .i64 220])->Ac prog 56 [.agg (Ar c)] d:=by
  intro d hd;refine Ly [] func56 rfl call56 (by simp[ntmps56]) ?_ ?_
  ·subst hd
   split
   ·split<;>simp[mx,Ar]
   ·simp[mx]
  intro qJ B qX;simp only[ntmps56]at qX;have qQ:=ZO ER mxd (Ap @ER.eq_1 results56);have hw:uN c:=Ut (by simpa[Gj,Dq]using qJ.1);obtain⟨wF,yI,cV,yL⟩:=hw;clear qJ;simp only[Ak];have h1:=Lr c;cases hb:BB c
  ·rw[hb]at h1 hd;simp only[aK0,if_false]at hd;subst hd;exact Al (Aq h1) Aa (Aq @Ar.eq_1)
  rw[hb]at h1 hd;simp only[if_true]at hd
  (refine Au (Aq h1) Aa (Aq @Ar.eq_1) ?_;intros;refine Ae ?_)
  refine BT 19 1 50 92 2 32 (by simp) (fun n=> ?_)
  have hn:1<=c.nts/\c.nts<=1024:=by
   simp only[BB,aM0,decide_eq_true_eq]at hb;exact hb.1
  obtain⟨zP,jV⟩:=hn;obtain⟨R,hR⟩:∃R,R=(Mk.start c).adds c.prods:=⟨_,rfl⟩;rw[<-hR]at hd;clear h1
  refine Af (X:={x:Nat×Mk//x.1<=c.prods.length/\x.2.adds (c.prods.drop x.1)=R/\c.nts<=x.2.nts/\x.2.nts<=1024/\(x.2.prods.length:Int)=x.1+x.2.nts-c.nts})
   (fun x=>⟨[(1,.ref (Ar c)),(2,.bx 2 1 0),(3,.int .i64 0),(5,.bx 19 1 0),(21,Bq c.prods),(22,.int .i64 c.prods.length),(23,.int .i64 x.1.1)],[⟨2,1,.box [.int .i64 0,.nilsl]⟩,⟨19,1,.box [.int .i64 x.1.2.nts,.osl 50 1,.omp 17 1,.int .i64 x.1.2.no]⟩,⟨50,1,.row 92 2 32 (x.1.2.prods.map Ah)⟩,⟨17,1,.map (x.1.2.hs.map GJ) (x.1.2.hs.map Hg)⟩]⟩)
   (fun x=>c.prods.length-x.1.1) ⟨(0,Mk.start c),by simp[hR,Mk.start];omega⟩ (Sub.lit (by simp[Ar,Mk.start])) ?_
  rintro⟨⟨k,m1⟩,hk,hA,b1,b2,b3⟩;simp only at hk hA b1 b2 b3 |-;clear hR
  by_cases qV:k<c.prods.length
  ·obtain⟨p,hp,qI,vK⟩:=Ai qV;obtain⟨sB,hw6,hw7,hw8⟩:=yL p vK;rw[aP0 qV,qI]at hA;simp only[Mk.adds]at hA;obtain⟨g1,g2,g3,g4⟩:=QZ m1 p;simp only[Mk.gap]at g1;have wG:IntKind.i64.wrap (m1.nts+p.body.length)=m1.nts+p.body.length:=wq;have wH:IntKind.i64.wrap (m1.nts+p.body.length-2)=m1.nts+p.body.length-2:=wq
   by_cases kS:2<p.body.length/\1024<m1.nts+p.body.length-2
   ·obtain⟨vD,yF⟩:=kS;rw[if_pos (by omega)]at hA;subst hA;simp only at hd;subst hd;have vI:(2:Int)<p.body.length:=by omega
    (repeat (first | refine AI fun K hK=> ?_ | (refine BR ER mxd (by kernel_rfl) ?_;simp[ER,qX,Ar,Ah,qV,qI,wG,wH,vD,yF,vI];try simp (disch:=omega) only[Ao]) | refine Aw ?_ | (refine Bb ?_ ?_ ?_;(· (simp[qX,Ar,Ah,qV,qI,wG,wH,vD,yF,vI];done));(try (rotate_left;(· (intro hc;(try simp[qX,Ar,Ah,qV,qI,wG,wH,vD,yF,vI]at hc);done))))) | (refine AK ?_;simp[results56,qX,Ar,Ah,qV,qI,wG,wH,vD,yF,vI]) | ((first | refine AD ?_ | refine AC ?_);simp[qX,Ar,Ah,qV,qI,wG,wH,vD,yF,vI]) | (intro hc;(try simp[qX,Ar,Ah,qV,qI,wG,wH,vD,yF,vI]at hc);(try (exfalso;omega))) | ((first | refine An (h1) ?_ | (refine Am (h1) ?_ ?_;(· (simp;done))));try simp[qX,Ar,Ah,qV,qI,wG,wH,vD,yF,vI]) | (refine⟨?_,?_⟩; · omega) | omega | apply_assumption -exfalso -symm | (exfalso;omega)))
   ·have hN:p.body.length<=1026:=by omega
    have e1:=Qj_ m1 p (by omega) (by omega) (Nat.le_trans (aQ0 32 (show m1.prods.length+2*p.body.length+10<=c.prods.length+8000 by omega)) qM);have yY:¬((2:Int)<p.body.length/\1024<m1.nts+p.body.length-2):=by omega
    generalize bO:m1.add p=m2 at e1 hA g1 g2 g3 g4
    by_cases vR:1024<m2.nts
    ·rw[if_pos vR]at hA;subst hA;simp only at hd;subst hd
     by_cases vD:2<p.body.length
     ·have vI:(2:Int)<p.body.length:=by omega
      have yF:¬1024<m1.nts+p.body.length-2:=by omega
      (repeat (first | refine AI fun K hK=> ?_ | (refine BR ER mxd (by kernel_rfl) ?_;simp[ER,qX,BV,Ar,Ah,qV,qI,wG,wH,vD,yF,vI,vR];try simp (disch:=omega) only[Ao]) | refine Aw ?_ | (refine Bb ?_ ?_ ?_;(· (simp[qX,BV,Ar,Ah,qV,qI,wG,wH,vD,yF,vI,vR];done));(try (rotate_left;(· (intro hc;(try simp[qX,BV,Ar,Ah,qV,qI,wG,wH,vD,yF,vI,vR]at hc);done))))) | (refine AK ?_;simp[results56,qX,BV,Ar,Ah,qV,qI,wG,wH,vD,yF,vI,vR]) | ((first | refine AD ?_ | refine AC ?_);simp[qX,BV,Ar,Ah,qV,qI,wG,wH,vD,yF,vI,vR]) | (intro hc;(try simp[qX,BV,Ar,Ah,qV,qI,wG,wH,vD,yF,vI,vR]at hc);(try (exfalso;omega))) | ((first | refine An (h1) ?_ | (refine Am (h1) ?_ ?_;(· (simp;done))));try simp[qX,BV,Ar,Ah,qV,qI,wG,wH,vD,yF,vI,vR]) | (refine AP [(19,0),(50,1),(17,2)] [] (e1) ?_ ?_;(· (simp[qX,BV,Ar,Ah,qV,qI,wG,wH,vD,yF,vI,vR];done));(intro _;try simp[qX,BV,Ar,Ah,qV,qI,wG,wH,vD,yF,vI,vR])) | (refine⟨?_,?_⟩; · omega) | omega | apply_assumption -exfalso -symm | (exfalso;omega)))
     ·have vI:¬(2:Int)<p.body.length:=by omega
      (repeat (first | refine AI fun K hK=> ?_ | (refine BR ER mxd (by kernel_rfl) ?_;simp[ER,qX,BV,Ar,Ah,qV,qI,wG,wH,vD,vI,vR];try simp (disch:=omega) only[Ao]) | refine Aw ?_ | (refine Bb ?_ ?_ ?_;(· (simp[qX,BV,Ar,Ah,qV,qI,wG,wH,vD,vI,vR];done));(try (rotate_left;(· (intro hc;(try simp[qX,BV,Ar,Ah,qV,qI,wG,wH,vD,vI,vR]at hc);done))))) | (refine AK ?_;simp[results56,qX,BV,Ar,Ah,qV,qI,wG,wH,vD,vI,vR]) | ((first | refine AD ?_ | refine AC ?_);simp[qX,BV,Ar,Ah,qV,qI,wG,wH,vD,vI,vR]) | (intro hc;(try simp[qX,BV,Ar,Ah,qV,qI,wG,wH,vD,vI,vR]at hc);(try (exfalso;omega))) | ((first | refine An (h1) ?_ | (refine Am (h1) ?_ ?_;(· (simp;done))));try simp[qX,BV,Ar,Ah,qV,qI,wG,wH,vD,vI,vR]) | (refine AP [(19,0),(50,1),(17,2)] [] (e1) ?_ ?_;(· (simp[qX,BV,Ar,Ah,qV,qI,wG,wH,vD,vI,vR];done));(intro _;try simp[qX,BV,Ar,Ah,qV,qI,wG,wH,vD,vI,vR])) | (refine⟨?_,?_⟩; · omega) | omega | apply_assumption -exfalso -symm | (exfalso;omega)))
    ·rw[if_neg vR]at hA
     by_cases vD:2<p.body.length
     ·have vI:(2:Int)<p.body.length:=by omega
      have yF:¬1024<m1.nts+p.body.length-2:=by omega
      (repeat (first | refine AI fun K hK=> ?_ | (refine BR ER mxd (by kernel_rfl) ?_;simp[ER,qX,BV,Ar,Ah,qV,qI,wG,wH,vD,yF,vI,vR];try simp (disch:=omega) only[Ao]) | refine Aw ?_ | (refine Bb ?_ ?_ ?_;(· (simp[qX,BV,Ar,Ah,qV,qI,wG,wH,vD,yF,vI,vR];done));(try (rotate_left;(· (intro hc;(try simp[qX,BV,Ar,Ah,qV,qI,wG,wH,vD,yF,vI,vR]at hc);done))))) | (refine AK ?_;simp[results56,qX,BV,Ar,Ah,qV,qI,wG,wH,vD,yF,vI,vR]) | ((first | refine AD ?_ | refine AC ?_);simp[qX,BV,Ar,Ah,qV,qI,wG,wH,vD,yF,vI,vR]) | (intro hc;(try simp[qX,BV,Ar,Ah,qV,qI,wG,wH,vD,yF,vI,vR]at hc);(try (exfalso;omega))) | ((first | refine An (h1) ?_ | (refine Am (h1) ?_ ?_;(· (simp;done))));try simp[qX,BV,Ar,Ah,qV,qI,wG,wH,vD,yF,vI,vR]) | (refine AP [(19,0),(50,1),(17,2)] [] (e1) ?_ ?_;(· (simp[qX,BV,Ar,Ah,qV,qI,wG,wH,vD,yF,vI,vR];done));(intro _;try simp[qX,BV,Ar,Ah,qV,qI,wG,wH,vD,yF,vI,vR])) | (refine⟨?_,?_⟩; · omega) | omega | apply_assumption -exfalso -symm | (exfalso;omega)))
      refine Ag.mk ⟨(k+1,m2),show k+1<=c.prods.length/\_/\c.nts<=m2.nts/\m2.nts<=1024/\(m2.prods.length:Int)=((k+1:Nat):Int)+m2.nts-c.nts from ⟨by omega,hA,by omega,by omega,by omega⟩⟩ (Sub.lit (by simp[BV,Ar])) (by simp;omega)
      skip
     ·have vI:¬(2:Int)<p.body.length:=by omega
      (repeat (first | refine AI fun K hK=> ?_ | (refine BR ER mxd (by kernel_rfl) ?_;simp[ER,qX,BV,Ar,Ah,qV,qI,wG,wH,vD,vI,vR];try simp (disch:=omega) only[Ao]) | refine Aw ?_ | (refine Bb ?_ ?_ ?_;(· (simp[qX,BV,Ar,Ah,qV,qI,wG,wH,vD,vI,vR];done));(try (rotate_left;(· (intro hc;(try simp[qX,BV,Ar,Ah,qV,qI,wG,wH,vD,vI,vR]at hc);done))))) | (refine AK ?_;simp[results56,qX,BV,Ar,Ah,qV,qI,wG,wH,vD,vI,vR]) | ((first | refine AD ?_ | refine AC ?_);simp[qX,BV,Ar,Ah,qV,qI,wG,wH,vD,vI,vR]) | (intro hc;(try simp[qX,BV,Ar,Ah,qV,qI,wG,wH,vD,vI,vR]at hc);(try (exfalso;omega))) | ((first | refine An (h1) ?_ | (refine Am (h1) ?_ ?_;(· (simp;done))));try simp[qX,BV,Ar,Ah,qV,qI,wG,wH,vD,vI,vR]) | (refine AP [(19,0),(50,1),(17,2)] [] (e1) ?_ ?_;(· (simp[qX,BV,Ar,Ah,qV,qI,wG,wH,vD,vI,vR];done));(intro _;try simp[qX,BV,Ar,Ah,qV,qI,wG,wH,vD,vI,vR])) | (refine⟨?_,?_⟩; · omega) | omega | apply_assumption -exfalso -symm | (exfalso;omega)))
      refine Ag.mk ⟨(k+1,m2),show k+1<=c.prods.length/\_/\c.nts<=m2.nts/\m2.nts<=1024/\(m2.prods.length:Int)=((k+1:Nat):Int)+m2.nts-c.nts from ⟨by omega,hA,by omega,by omega,by omega⟩⟩ (Sub.lit (by simp[BV,Ar])) (by simp;omega)
      skip
  ·have qY:k=c.prods.length:=by omega
   subst qY;rw[bE0]at hA;simp only[Mk.adds]at hA;subst hA;simp only at hd;subst hd;refine Fw (Sub.freezeL [50] _) ?_;simp[qX,results56,ER,Ar];have h2:=Bj_ m1.cnf;exact Al (Aq h2) Aa (Aq @Ar.eq_1)
 have hk:=key _ rfl;unfold iM;cases hb:BB c<;>rw[hb]at hk
 ·exact Ac.wkT hk (by simp[RY,Ar,Bq]) (by simp[mx])
 ·simp only[if_true]at hk |-
  cases hA:(Mk.start c).adds c.prods with
  | none =>
   rw[hA]at hk;exact Ac.wkT hk (by simp[RY,Ar,Bq,SW_]) (by simp[mx])
  | some m =>
   rw[hA]at hk;exact hk
def Ko (m:Mk):List Int:=(List.range 16).map fun a:Nat=>(Er m.hs a).getD (-1)
def noR (m:Mk):Int:=if m.no=0 then -1 else m.no
def Rg (v w:Nat) (m:Mk):DVal:= .agg [.int .i64 m.nts,.osl 0 v,.osl 1 w,.int .i64 (noR m)]
def FM (v w:Nat) (m:Mk):List Ent:=[⟨0,v,.row 92 2 32 (m.prods.map Ah)⟩,⟨1,w,.row 3 1 8 ((Ko m).map BA)⟩]
theorem IG (m:Mk):(Ko m).length=16:=by simp[Ko]
theorem lQ (m:Mk) (a:Nat) (h:a<16):(Ko m)[a]? =some ((Er m.hs a).getD (-1)):=by simp[Ko,h]
theorem Ny (l:List (Int×Int)) (k h a:Int):Er (l++[(k,h)]) a=match Er l a with | some x=>some x | none=>if a=k then some h else none:=by
 induction l with
 | nil=>simp[Er]
 | cons p l ih =>
  obtain⟨k',h'⟩:=p;simp only[List.cons_append,Er]
  split
  ·rfl
  ·exact ih
theorem OV_ (m:Mk) (a:Nat) (ha:a<16) (h:Int) (hn:Er m.hs a=none) (P:List Prod) (N:Int):Ko ⟨N,P,m.hs++[((a:Int),h)],m.no⟩=(Ko m).set a h:=by
 apply eY0
 intro q
 by_cases hq:q<16
 ·rw[lQ _ _ hq]
  by_cases hqa:q=a
  ·subst hqa;rw[eX0 (by rw[IG];exact hq),Ny,hn];simp
  ·rw[List.getElem?_set_ne (by omega),lQ _ _ hq,Ny];have:¬(q:Int)=a:=by omega
   cases hl:Er m.hs q<;>simp[this]
 ·rw[dH0 (by rw[IG];omega),dH0 (by simp[IG];omega)]
def QK : Ann:=⟨[],[]⟩
theorem KV (h a b:Int):Ac prog 217 [.int .i64 h,.int .i64 a,.int .i64 b] (.agg (Ah ⟨h,[nS a,nS b]⟩)):=by
 refine Ab [] QK func217 call217 ntmps217 mxd (Ap @QK.eq_1 results217) rfl (fun qJ B qX qQ=> ?_);simp only[Ak];have zS:(([0,1]:List Nat)=List.range 2)=True:=eq_true rfl
 (repeat (first | refine AI fun K hK=> ?_ | (refine BR QK mxd (by kernel_rfl) ?_;simp[QK,qX,Ah,nS,AA,zS];try simp (disch:=omega) only[Ao]) | refine Aw ?_ | (refine Bb ?_ ?_ ?_;(· (simp[qX,Ah,nS,AA,zS];done));(try (rotate_left;(· (intro hc;(try simp[qX,Ah,nS,AA,zS]at hc);done))))) | (refine AK ?_;simp[results217,qX,Ah,nS,AA,zS]) | ((first | refine AD ?_ | refine AC ?_);simp[qX,Ah,nS,AA,zS]) | (intro hc;(try simp[qX,Ah,nS,AA,zS]at hc);(try (exfalso;omega))) | (refine⟨?_,?_⟩; · omega) | omega | apply_assumption -exfalso -symm | (exfalso;omega)))
def Dd_ : Ann:=⟨[],[]⟩
theorem Hh_ (n:Int):AS prog (.func 146) [.int .i64 n] [] (.agg [.int .i64 n,.nilsl,.osl 0 1,.int .i64 (-1)]) [⟨0,1,.row 3 1 8 ((List.replicate 16 (-1:Int)).map BA)⟩]:=by
 refine Bi [2,3] [(50,0,1)] Dd_ func146 call146 ntmps146 mxd (Ap @Dd_.eq_1 results146) rfl (fun qJ B qX qQ=> ?_);simp only[Ak]
 (refine Au Aa Aa Aa ?_;intros;refine Ae ?_)
 refine BT 3 2 50 3 1 8 (by simp) (fun q=> ?_);refine Af (X:={k:Nat//k<=16}) (fun k=>⟨[(2,.bx 2 1 0),(3,.bx 3 1 0),(4,.int .i64 k.1)],[⟨2,1,.box [.int .i64 0,.nilsl,.nilsl,.int .i64 0]⟩,⟨3,1,.box [.int .i64 n,.nilsl,.osl 50 1,.int .i64 (-1)]⟩,⟨50,1,.row 3 1 8 ((List.replicate k.1 (-1:Int)).map BA)⟩]⟩) (fun k=>16-k.1) ⟨0,by omega⟩ (Sub.lit (by simp)) ?_;rintro⟨k,hk⟩
 by_cases qV:k<16
 ·have hz:(k+1)*8<=150000000000000:=by omega
  have wM:k<=9223372036854775806:=by omega
  have wQ:(k:Int)<16:=by omega
  have mD:List.replicate (k+1) [DVal.int .i64 (-1)]=List.replicate k [.int .i64 (-1)]++[[.int .i64 (-1)]]:=List.replicate_succ' ..;have bP:BK (List.replicate k [DVal.int .i64 (-1)])=0:=by have:=Il_ (List.replicate k (-1));simpa[BA]using this
  (refine Au Aa Aa (CG qV wQ hz wM) ?_;intros;refine Ae ?_)
  refine Ag.mk ⟨k+1,by omega⟩ (Sub.lit (by simp[mD,bP,BA])) (by simp;omega)
  skip
 ·have qY:k=16:=by omega
  subst qY;exact Al Aa Aa Aa
def Dc_ : Ann:=⟨[2],[⟨2,[],[],[5003001,5003002]⟩,⟨7,[],[],[5007001,5007002,5007003,5007004,5007006]⟩]⟩
theorem Fn_ (m:Mk) (s:Sym) (h0:s.label=true->0<=s.n/\s.n<16) (h1: -9223372036854775808<=m.nts) (h2:m.nts+1<=9223372036854775807) (h3:(m.prods.length+1)*32<=150000000000000) (h4:∀a h,Er m.hs a=some h->0<=h) (h5:0<=m.nts) :
  AS prog (.func 218) [Rg 0 0 m,.agg (AA s)] (FM 0 0 m) (.tup [Rg 1 1 (m.sym s).1,.int .i64 (m.sym s).2]) (FM 1 1 (m.sym s).1):=by
 refine Bi [2,4] [(0,0,1),(1,1,1)] Dc_ func218 call218 ntmps218 mxd (Ap @Dc_.eq_1 results218) rfl (fun qJ B qX qQ=> ?_) (hv:=(by simp[FM]));simp only[Ak,Rg];cases hl:s.label
 ·have jZ:m.sym s=(m,s.n):=by unfold Mk.sym;simp[hl]
  rw[jZ];exact Al Aa Aa (CG @FM.eq_1 @Rg.eq_1 @AA.eq_1 hl)
 ·obtain⟨zP,jV⟩:=h0 hl
  obtain⟨a,rfl⟩:∃a:Nat,s=⟨true,a⟩:=by
   obtain⟨lb,sn⟩:=s;simp only at hl zP |-;subst hl;exact⟨sn.toNat,by rw[Int.toNat_of_nonneg zP]⟩
  simp only at zP jV;clear h0 hl;have mW:a<16:=by omega
  have zV:=lQ m a mW
  cases yO:Er m.hs a with
  | some h =>
   have hh:=h4 _ _ yO;rw[yO]at zV;simp only[cC0]at zV;have hat':(Ko m)[a]'(by rw[IG];exact mW)=h:=(aB0.1 zV).2;have hng:¬h<0:=by omega
   have jZ:m.sym ⟨true,a⟩=(m,h):=by unfold Mk.sym;simp[yO]
   rw[jZ];exact Al Aa Aa (Hn @FM.eq_1 @Rg.eq_1 @AA.eq_1 @BA.eq_1 zV hat' IG mW hng hh)
  | none =>
   rw[yO]at zV;simp only[Option.getD_none]at zV;have hat':(Ko m)[a]'(by rw[IG];exact mW)= -1:=(aB0.1 zV).2;have jZ:m.sym ⟨true,a⟩=({ m with nts:=m.nts+1,hs:=m.hs++[((a:Int),m.nts)],prods:=m.prods++[⟨m.nts,[⟨true,a⟩]⟩] },m.nts):=by unfold Mk.sym;simp[yO]
   rw[jZ];have vB:=OV_ m a mW m.nts yO (m.prods++[⟨m.nts,[⟨true,a⟩]⟩]) (m.nts+1)
   have hms:BK ((List.map BA (Ko m)).set a [DVal.int .i64 m.nts])=0:=by
    have:=Il_ ((Ko m).set a m.nts);rw[dR0]at this;exact this
   (refine Au Aa Aa (OD @FM.eq_1 @Rg.eq_1 @AA.eq_1 @BA.eq_1 zV hat' IG mW hms) ?_;intros;refine Ae ?_)
   exact⟨rfl,rfl,by rw[vB,dR0];rfl⟩
theorem Ds (m:Mk) (N:Int) (P:List Prod) (k:Int):Ko ⟨N,P,m.hs,k⟩=Ko m:=rfl
theorem Zn {l:List Sym} (h:AB l=1\/AB l=2):l=[]\/∃n,l=[⟨true,n⟩]:=by
 match l with
 | []=>exact .inl rfl
 | [⟨b,n⟩] =>
  cases b
  ·simp[AB]at h
  ·exact .inr ⟨n,rfl⟩
 | [s,t]=>simp only[AB]at h;split at h<;>simp at h
 | s::t::u::r=>simp[AB]at h
theorem Pg_ {l:List Sym} (h:¬(AB l=1\/AB l=2)) (hl:l.length=1):∃n,l=[⟨false,n⟩]:=by
 match l with
 | [⟨b,n⟩] =>
  cases b
  ·exact⟨n,rfl⟩
  ·simp[AB]at h
def Fk : Ann:=⟨[2],[⟨20,[],[],[9]⟩]⟩
theorem MB_ (m:Mk) (p:Prod) (hf:AB p.body=1\/AB p.body=2) (h3:(m.prods.length+1)*32<=150000000000000) :
  AS prog (.func 147) [Rg 0 0 m,.agg (Ah p)] (FM 0 0 m) (Rg 1 1 (m.add p)) (FM 1 1 (m.add p)):=by
 refine Bi [2,4] [(0,0,1),(1,1,1)] Fk func147 call147 ntmps147 mxd (Ap @Fk.eq_1 results147) rfl (fun qJ B qX qQ=> ?_) (hv:=(by simp[FM]));simp only[Ak,Rg];have e4:m.add p={ m with prods:=m.prods++[p] }:=by unfold Mk.add;rw[if_pos hf];rfl
 rw[e4];obtain⟨hd,bd⟩:=p;simp only at hf
 rcases Zn hf with rfl | ⟨n,rfl⟩
 ·exact Al Aa Aa (EB @FM.eq_1 @Rg.eq_1 @Ah.eq_1 @AY.eq_1 @noR.eq_1 Ds)
 ·exact Al Aa Aa (Ez @FM.eq_1 @Rg.eq_1 @Ah.eq_1 @AY.eq_1 @AA.eq_1 @noR.eq_1 Ds)
theorem Qm_ (m:Mk) (p:Prod) (hf:¬(AB p.body=1\/AB p.body=2)) (hl:p.body.length=1) (h0:0<=m.no) (h1:1<=m.nts) (h2:m.nts+10<=9223372036854775807) (h3:(m.prods.length+10)*32<=150000000000000) :
  AS prog (.func 147) [Rg 0 0 m,.agg (Ah p)] (FM 0 0 m) (Rg 1 1 (m.add p)) (FM 1 1 (m.add p)):=by
 obtain⟨hd,bd⟩:=p;simp only at hf hl;obtain⟨x,rfl⟩:=Pg_ hf hl
 have e4:m.add ⟨hd,[⟨false,x⟩]⟩={ m.nothing with prods:=m.nothing.prods++[⟨hd,[nS x,nS m.nothing.no]⟩] }:=by
  unfold Mk.add;rw[if_neg hf,if_pos hl];simp[Mk.syms,Mk.sym,Mk.chain,El]
 rw[e4]
 by_cases wE:m.no=0
 ·have e5:m.nothing=⟨m.nts+1,m.prods++[⟨m.nts,[]⟩],m.hs,m.nts⟩:=by unfold Mk.nothing;rw[if_pos wE]
  rw[e5]
  have key:AS prog (.func 147) [Rg 0 0 m,.agg (Ah ⟨hd,[⟨false,x⟩]⟩)] (FM 0 0 m) (.agg [.int .i64 (m.nts+1),.osl 0 1,.osl 1 1,.int .i64 m.nts]) [⟨0,1,.row 92 2 32 (m.prods.map Ah++[[.int .i64 m.nts,.nilsl],Ah ⟨hd,[nS x,nS m.nts]⟩])⟩,⟨1,1,.row 3 1 8 ((Ko m).map BA)⟩]:=by
   refine Bi [2,4] [(0,0,1),(1,1,1)] Fk func147 call147 ntmps147 mxd (Ap @Fk.eq_1 results147) rfl (fun qJ B qX qQ=> ?_);simp only[Ak,Rg];have htw:=KV hd x m.nts;have zP:noR m= -1:=by unfold noR;rw[if_pos wE]
   (repeat (first | refine AI fun K hK=> ?_ | (refine BR Fk mxd (by kernel_rfl) ?_;simp[Fk,qX,FM,Ah,AY,AA,zP,nS];try simp (disch:=omega) only[Ao]) | refine Aw ?_ | (refine Bb ?_ ?_ ?_;(· (simp[qX,FM,Ah,AY,AA,zP,nS];done));(try (rotate_left;(· (intro hc;(try simp[qX,FM,Ah,AY,AA,zP,nS]at hc);done))))) | (refine AK ?_;simp[results147,qX,FM,Ah,AY,AA,zP,nS]) | ((first | refine AD ?_ | refine AC ?_);simp[qX,FM,Ah,AY,AA,zP,nS]) | (intro hc;(try simp[qX,FM,Ah,AY,AA,zP,nS]at hc);(try (exfalso;omega))) | ((first | refine An (htw) ?_ | (refine Am (htw) ?_ ?_;(· (simp;done))));try simp[qX,FM,Ah,AY,AA,zP,nS]) | (refine⟨?_,?_⟩; · omega) | omega | apply_assumption -exfalso -symm | (exfalso;omega)))
  have k2:=key.rowWk 0 (es':=(m.prods++[(⟨m.nts,[]⟩:Prod)]++[(⟨hd,[nS x,nS m.nts]⟩:Prod)]).map Ah) rfl rfl (by
   rw[aX0,aX0,aR0];refine Uo (So _) ⟨?_,Pf _,trivial⟩
   simp[Ah,AY])
  have jV:noR ⟨m.nts+1,m.prods++[⟨m.nts,[]⟩]++[⟨hd,[nS x,nS m.nts]⟩],m.hs,m.nts⟩=m.nts:=by
   unfold noR;simp only;rw[if_neg (by omega)]
  simp only[Rg,FM,jV,Ds];exact k2
 ·have e5:m.nothing=m:=by unfold Mk.nothing;rw[if_neg wE]
  rw[e5];refine Bi [2,4] [(0,0,1),(1,1,1)] Fk func147 call147 ntmps147 mxd (Ap @Fk.eq_1 results147) rfl (fun qJ B qX qQ=> ?_) (hv:=(by simp[FM]));simp only[Ak,Rg];have htw:=KV hd x m.no;have zP:noR m=m.no:=by unfold noR;rw[if_neg wE]
  have jV:¬m.no<0:=by omega
  have rV:noR ⟨m.nts,m.prods++[⟨hd,[⟨false,x⟩,⟨false,m.no⟩]⟩],m.hs,m.no⟩=m.no:=zP
  (repeat (first | refine AI fun K hK=> ?_ | (refine BR Fk mxd (by kernel_rfl) ?_;simp[Fk,qX,FM,Ah,AY,AA,zP,jV,rV,nS,Ds];try simp (disch:=omega) only[Ao]) | refine Aw ?_ | (refine Bb ?_ ?_ ?_;(· (simp[qX,FM,Ah,AY,AA,zP,jV,rV,nS,Ds];done));(try (rotate_left;(· (intro hc;(try simp[qX,FM,Ah,AY,AA,zP,jV,rV,nS,Ds]at hc);done))))) | (refine AK ?_;simp[results147,qX,FM,Ah,AY,AA,zP,jV,rV,nS,Ds]) | ((first | refine AD ?_ | refine AC ?_);simp[qX,FM,Ah,AY,AA,zP,jV,rV,nS,Ds]) | (intro hc;(try simp[qX,FM,Ah,AY,AA,zP,jV,rV,nS,Ds]at hc);(try (exfalso;omega))) | ((first | refine An (htw) ?_ | (refine Am (htw) ?_ ?_;(· (simp;done))));try simp[qX,FM,Ah,AY,AA,zP,jV,rV,nS,Ds]) | (refine⟨?_,?_⟩; · omega) | omega | apply_assumption -exfalso -symm | (exfalso;omega)))
def Mk.Pos (m:Mk):Prop:=0<=m.nts/\∀a h,Er m.hs a=some h->0<=h
theorem QR_ {m:Mk} (h:m.Pos) (s:Sym):(m.sym s).1.Pos:=by
 obtain⟨h1,h2⟩:=h;unfold Mk.sym
 split
 ·split
  ·exact⟨h1,h2⟩
  ·refine⟨by simp only;omega,fun a x hx=> ?_⟩;simp only[Ny]at hx
   split at hx
   ·rename_i y hy;simp only[aA0]at hx;subst hx;exact h2 _ _ hy
   ·split at hx
    ·simp only[aA0]at hx;omega
    ·simp at hx
 ·exact⟨h1,h2⟩
def GN : Ann:=⟨[2,86],[⟨20,[],[],[9]⟩]⟩
theorem MA_ (m:Mk) (p:Prod) (hf:¬(AB p.body=1\/AB p.body=2)) (hl:¬p.body.length=1) (wS:p.body.length<=1026) (qL:∀s∈p.body,s.label=true->0<=s.n/\s.n<16) (kU:m.Pos)
  (h2:m.nts+4000<=9223372036854775807) (h3:(m.prods.length+4000)*32<=150000000000000) :
  AS prog (.func 147) [Rg 0 0 m,.agg (Ah p)] (FM 0 0 m) (Rg 1 1 (m.add p)) (FM 1 1 (m.add p)):=by
 have e4:m.add p=(m.syms p.body).1.chain p.head (m.syms p.body).2:=by unfold Mk.add;rw[if_neg hf,if_neg hl]
 rw[e4];have kX:=VZ (fun h=>hf (.inl h)) (fun h=>hf (.inr h));obtain⟨hd,l⟩:=p;simp only at hl wS qL kX |-;clear e4 hf;refine Bi [2,4] [(0,0,1),(1,1,1)] GN func147 call147 ntmps147 mxd (Ap @GN.eq_1 results147) rfl (fun qJ B qX qQ=> ?_) (hv:=(by simp[FM]));simp only[Ak,Rg];have q1:¬l=[]:=fun h=>by rw[h]at kX;simp at kX
 have q2:¬(l.length:Int)=1:=by omega
 have q3:¬(1026:Int)<l.length:=by omega
 have q4:¬(l.length:Int)=0:=by omega
 have q5:((l.length:Int)==0)=false:=by simpa using q4
 have q6:((l.length:Int)==1)=false:=by simpa using q2
 obtain⟨s0,hs0,hs0',_⟩:=Ai (show 0<l.length by omega)
 (refine Au Aa Aa (FJ @FM.eq_1 @Ah.eq_1 @AA.eq_1 q1 q2 q3 q4 q5 q6 hl hs0 hs0') ?_;intros;refine Ae ?_)
 refine Bk 6 52 3 1 8 (by simp[qX,ntmps147]) (fun n=> ?_)
 refine Af (X:={x:Nat×Mk×List Int//x.1<=l.length/\((x.2.1.syms (l.drop x.1)).1,x.2.2++(x.2.1.syms (l.drop x.1)).2)=m.syms l/\x.2.1.Pos/\x.2.1.nts<=m.nts+x.1/\x.2.1.prods.length<=m.prods.length+x.1/\x.2.2.length=x.1})
  (fun x=>⟨[(2,.bx 2 1 0),(3,.ref [.int .i64 hd,AY l]),(4,.bx 4 1 0),(5,.int .i64 l.length),(6,.osl 52 1),(7,.int .i64 x.1.1)],[⟨4,1,.box [.int .i64 0,.nilsl,.nilsl,.int .i64 0]⟩,⟨2,1,.box [.int .i64 x.1.2.1.nts,.osl 0 1,.osl 1 1,.int .i64 (noR x.1.2.1)]⟩,⟨0,1,.row 92 2 32 (x.1.2.1.prods.map Ah)⟩,⟨1,1,.row 3 1 8 ((Ko x.1.2.1).map BA)⟩,⟨52,1,.row 3 1 8 (x.1.2.2.map BA)⟩]⟩)
  (fun x=>l.length-x.1.1) ⟨(0,m,[]),by simpa using kU⟩ (Sub.lit (by simp)) ?_
 rintro⟨⟨k,m1,acc⟩,hk,hR,b1,b2,b3,b4⟩;simp only at hk hR b1 b2 b3 b4 |-
 by_cases qV:k<l.length
 ·obtain⟨s,hs,zM,vW⟩:=Ai qV;rw[aP0 qV,zM]at hR;simp only[Mk.syms]at hR;have hz:(acc.length+1)*8<=150000000000000:=by omega
  have wM:acc.length<=9223372036854775806:=by omega
  have e1:=Fn_ m1 s (qL s vW) (by have:=b1.1;omega) (by omega) (Nat.le_trans (aQ0 32 (by omega)) h3) b1.2 b1.1;obtain⟨g1,g2,g3⟩:=aU m1 s;have g4:=QR_ b1 s;simp only[Mk.gap]at g1
  generalize (m1.sym s).1=m2 at e1 hR g1 g2 g3 g4
  generalize (m1.sym s).2=x at e1 hR
  simp only[Rg]at e1
  (refine Au Aa (Aq (DF [(0,0),(1,1)] [] e1)) (Ez @FM.eq_1 @Ah.eq_1 @AA.eq_1 qV zM hz wM) ?_;intros;refine Ae ?_)
  refine Ag.mk ⟨(k+1,m2,acc++[x]),show k+1<=l.length/\_/\m2.Pos/\m2.nts<=m.nts+((k+1:Nat):Int)/\m2.prods.length<=m.prods.length+(k+1)/\(acc++[x]).length=k+1 from ⟨by omega,by simpa using hR,g4,by omega,by omega,by simp;omega⟩⟩ (Sub.lit (by simp[BA])) (by simp;omega)
  skip
 ·have qY:k=l.length:=by omega
  subst qY;rw[bE0]at hR;simp only[Mk.syms,bM0]at hR;have hS:=hR;clear hR qV hk;have wJ:=b1.1;obtain⟨q,hq⟩:∃q,l.length=q+2:=⟨l.length-2,by omega⟩;rw[hq]at b2 b3 b4 wS;have hw:IntKind.i64.wrap (q:Int)=q:=wq
  (refine Au Aa Aa (CG @FM.eq_1 @Ah.eq_1 hq hw) ?_;intros;refine Ae ?_)
  refine Af (X:={x:Nat×List Prod×Int//x.1<=q/\x.2.1.length=m1.prods.length+x.1/\x.2.1++El (m1.nts+x.1) x.2.2 (acc.drop x.1)=m1.prods++El m1.nts hd acc})
   (fun x=>⟨[(2,.bx 2 1 0),(4,.bx 4 1 0),(5,.int .i64 (q+2)),(6,.osl 52 1),(9,.int .i64 x.1.2.2),(10,.int .i64 x.1.1)],[⟨4,1,.box [.int .i64 0,.nilsl,.nilsl,.int .i64 0]⟩,⟨2,1,.box [.int .i64 (m1.nts+x.1.1),.osl 0 1,.osl 1 1,.int .i64 (noR m1)]⟩,⟨0,1,.row 92 2 32 (x.1.2.1.map Ah)⟩,⟨1,1,.row 3 1 8 ((Ko m1).map BA)⟩,⟨52,1,.row 3 1 8 (acc.map BA)⟩]⟩)
   (fun x=>q-x.1.1) ⟨(0,m1.prods,hd),by simp⟩ (Sub.lit (by simp)) ?_
  rintro⟨⟨j,P,prev⟩,hj,hP,hR⟩;simp only at hj hP hR |-;obtain⟨a,ha,kT,_⟩:=Ai (show j<acc.length by omega);have vA:(P.length+1)*32<=150000000000000:=Nat.le_trans (aQ0 32 (by omega)) h3;have wM:P.length<=9223372036854775806:=by omega
  by_cases qV:j<q
  ·have wQ:(j:Int)+2<(q:Int)+2:=by omega
   rw[Sh_ (b:=0) (by omega) ha]at hR;have e1:=KV prev a (m1.nts+j);have yL:IntKind.i64.wrap (m1.nts+j+1)=m1.nts+j+1:=wq
   (repeat (first | refine AI fun K hK=> ?_ | (refine BR GN mxd (by kernel_rfl) ?_;simp[GN,qX,FM,Ah,AA,BA,nS,qV,wQ,ha,kT,b4,vA,wM,yL];try simp (disch:=omega) only[Ao]) | refine Aw ?_ | (refine Bb ?_ ?_ ?_;(· (simp[qX,FM,Ah,AA,BA,nS,qV,wQ,ha,kT,b4,vA,wM,yL];done));(try (rotate_left;(· (intro hc;(try simp[qX,FM,Ah,AA,BA,nS,qV,wQ,ha,kT,b4,vA,wM,yL]at hc);done))))) | (refine AK ?_;simp[results147,qX,FM,Ah,AA,BA,nS,qV,wQ,ha,kT,b4,vA,wM,yL]) | ((first | refine AD ?_ | refine AC ?_);simp[qX,FM,Ah,AA,BA,nS,qV,wQ,ha,kT,b4,vA,wM,yL]) | (intro hc;(try simp[qX,FM,Ah,AA,BA,nS,qV,wQ,ha,kT,b4,vA,wM,yL]at hc);(try (exfalso;omega))) | ((first | refine An (e1) ?_ | (refine Am (e1) ?_ ?_;(· (simp;done))));try simp[qX,FM,Ah,AA,BA,nS,qV,wQ,ha,kT,b4,vA,wM,yL]) | (refine⟨?_,?_⟩; · omega) | omega | apply_assumption -exfalso -symm | (exfalso;omega)))
   refine Ag.mk ⟨(j+1,P++[⟨prev,[nS a,nS (m1.nts+j)]⟩],m1.nts+j),show j+1<=q/\(P++[(⟨prev,[nS a,nS (m1.nts+j)]⟩:Prod)]).length=m1.prods.length+(j+1)/\_ from ⟨by omega,by simp;omega,?_⟩⟩ (Sub.lit (by simp[nS,Ah,AA];omega)) (by simp;omega)
   ·rw[<-hR,aR0,show m1.nts+((j+1:Nat):Int)=m1.nts+j+1 by omega];rfl
   skip
  ·have hjq:j=q:=by omega
   subst hjq;obtain⟨b,hb,qG,_⟩:=Ai (show j+1<acc.length by omega);rw[Si_ (by omega) ha hb]at hR;have e1:=KV prev a b;have fU:(j:Int)+2-2=j:=by omega
   have gM:(j:Int)+2-1=j+1:=by omega
   have gQ:((j:Int)+1).toNat=j+1:=by omega
   have wF:IntKind.i64.wrap ((j:Int)+1)=j+1:=wq
   (repeat (first | refine AI fun K hK=> ?_ | (refine BR GN mxd (by kernel_rfl) ?_;simp[GN,qX,FM,Ah,AA,BA,nS,ha,kT,hb,qG,b4,vA,wM,fU,gM,gQ,hw,wF];try simp (disch:=omega) only[Ao]) | refine Aw ?_ | (refine Bb ?_ ?_ ?_;(· (simp[qX,FM,Ah,AA,BA,nS,ha,kT,hb,qG,b4,vA,wM,fU,gM,gQ,hw,wF];done));(try (rotate_left;(· (intro hc;(try simp[qX,FM,Ah,AA,BA,nS,ha,kT,hb,qG,b4,vA,wM,fU,gM,gQ,hw,wF]at hc);done))))) | (refine AK ?_;simp[results147,qX,FM,Ah,AA,BA,nS,ha,kT,hb,qG,b4,vA,wM,fU,gM,gQ,hw,wF]) | ((first | refine AD ?_ | refine AC ?_);simp[qX,FM,Ah,AA,BA,nS,ha,kT,hb,qG,b4,vA,wM,fU,gM,gQ,hw,wF]) | (intro hc;(try simp[qX,FM,Ah,AA,BA,nS,ha,kT,hb,qG,b4,vA,wM,fU,gM,gQ,hw,wF]at hc);(try (exfalso;omega))) | ((first | refine An (e1) ?_ | (refine Am (e1) ?_ ?_;(· (simp;done))));try simp[qX,FM,Ah,AA,BA,nS,ha,kT,hb,qG,b4,vA,wM,fU,gM,gQ,hw,wF]) | (refine⟨?_,?_⟩; · omega) | omega | apply_assumption -exfalso -symm | (exfalso;omega)))
   rw[<-hS]
   have e3:m1.chain hd acc={ m1 with nts:=m1.nts+j,prods:=P++[⟨prev,[nS a,nS b]⟩] }:=by
    unfold Mk.chain;rw[hR,b4];rfl
   simp only;rw[e3];refine⟨⟨rfl,rfl⟩,?_,rfl⟩;simp[Ah,nS,AA]
end Go.Proofs.Wy
end
section
namespace Go.Proofs.Wy
open Go Go.Dm Tryz
variable [DMode]
def GV (N:Int) (s:Sym):Prop:=if s.label then 0<=s.n/\s.n<16 else 0<=s.n/\s.n<N
def gP (N:Int) (p:Prod):Prop:=(0<=p.head/\p.head<N)/\AB p.body≠0/\∀s∈p.body,GV N s
structure GoodM (m:Mk):Prop where
 one:1<=m.nts
 ps:∀p∈m.prods,gP m.nts p
 hs:∀a h,Er m.hs a=some h->0<=h/\h<m.nts
 no:0<=m.no/\(m.no=0\/m.no<m.nts)
theorem Nj {N N':Int} (h:N<=N') {s:Sym} (hs:GV N s):GV N' s:=by
 unfold GV at *
 split
 ·rename_i hl;rw[if_pos hl]at hs;exact hs
 ·rename_i hl;rw[if_neg hl]at hs;exact⟨hs.1,by omega⟩
theorem lV {N N':Int} (h:N<=N') {p:Prod} (hp:gP N p):gP N' p:=⟨⟨hp.1.1,by have:=hp.1.2;omega⟩,hp.2.1,fun s hs=>Nj h (hp.2.2 s hs)⟩
theorem GoodM.pos {m:Mk} (h:GoodM m):m.Pos:=⟨by have:=h.one;omega,fun a x hx=>(h.hs a x hx).1⟩
theorem Pa_ {m:Mk} (h:GoodM m) {s:Sym} (hs:GV m.nts s):GoodM (m.sym s).1/\0<=(m.sym s).2/\(m.sym s).2<(m.sym s).1.nts:=by
 have h1:=h.one;unfold Mk.sym;unfold GV at hs
 split
 ·rename_i hl;rw[if_pos hl]at hs
  split
  ·rename_i x hx;exact⟨h,h.hs _ _ hx⟩
  ·rename_i hx;refine⟨⟨by simp only;omega,?_,?_,?_⟩,by simp only;omega,by simp only;omega⟩
   ·intro p hp
    rcases aI0.1 hp with hp | hp
    ·exact lV (by simp only;omega) (h.ps p hp)
    ·simp only[aG0]at hp;subst hp;refine⟨by simp only;omega,by simp[AB,hl],?_⟩;intro t ht;simp only[aG0]at ht;subst ht;unfold GV;rw[if_pos hl];exact hs
   ·intro a x qU;simp only[Ny]at qU
    split at qU
    ·rename_i y hy;simp only[aA0]at qU;subst qU;have:=h.hs _ _ hy;exact⟨this.1,by simp only;omega⟩
    ·split at qU
     ·simp only[aA0]at qU;subst qU;exact⟨by omega,by simp only;omega⟩
     ·simp at qU
   ·have:=h.no;exact⟨this.1,by simp only;omega⟩
 ·rename_i hl;rw[if_neg hl]at hs;exact⟨h,hs⟩
theorem Zj : ∀{l:List Sym} {m:Mk},GoodM m->(∀s∈l,GV m.nts s)->GoodM (m.syms l).1/\∀n∈(m.syms l).2,0<=n/\n<(m.syms l).1.nts
 | [],m,h,_=>⟨h,by simp[Mk.syms]⟩
 | s::l,m,h,hs=>by
  obtain⟨h1,h2,h3⟩:=Pa_ h (hs s aF0);have vS:=(aU m s).2.1;obtain⟨h4,h5⟩:=Zj h1 fun t ht=>Nj vS (hs t (aE0 _ ht))
  have hle2:=(LY l (m.sym s).1).2.1;refine⟨h4,fun n hn=> ?_⟩;simp only[Mk.syms,aL0]at hn
  rcases hn with rfl | hn
  ·exact⟨h2,by simp only[Mk.syms];omega⟩
  ·exact h5 n hn
theorem lU {m:Mk} (h:GoodM m):GoodM m.nothing/\0<=m.nothing.no/\m.nothing.no<m.nothing.nts:=by
 have h1:=h.one;unfold Mk.nothing
 split
 ·refine⟨⟨by simp only;omega,?_,?_,by simp only;omega⟩,by simp only;omega,by simp only;omega⟩
  ·intro p hp
   rcases aI0.1 hp with hp | hp
   ·exact lV (by simp only;omega) (h.ps p hp)
   ·simp only[aG0]at hp;subst hp;exact⟨by simp only;omega,by simp[AB],by simp⟩
  ·intro a x hx;have:=h.hs a x hx;exact⟨this.1,by simp only;omega⟩
 ·rename_i hn;have:=h.no;exact⟨h,this.1,by omega⟩
theorem SJ : ∀(ns:List Int) (N nts head:Int),(0<=head/\head<N)->(0<=nts/\nts+(ns.length-2:Nat)<=N)->(∀n∈ns,0<=n/\n<N)->∀p∈El nts head ns,gP N p
 | [],_,_,_,_,_,_,p,hp=>by simp[El]at hp
 | [_],_,_,_,_,_,_,p,hp=>by simp[El]at hp
 | [a,b],N,nts,head,h1,h2,h3,p,hp=>by
  simp only[El,aG0]at hp;subst hp;refine⟨h1,by simp[AB,nS],fun s hs=> ?_⟩;simp only[aL0,eH0,or_false]at hs
  rcases hs with rfl | rfl
  ·exact h3 a (by simp)
  ·exact h3 b (by simp)
 | a::b::c::r,N,nts,head,h1,h2,h3,p,hp=>by
  simp only[El,aL0]at hp;have hl:(a::b::c::r).length-2=r.length+1:=by simp
  rw[hl]at h2
  rcases hp with rfl | hp
  ·refine⟨h1,by simp[AB,nS],fun s hs=> ?_⟩;simp only[aL0,eH0,or_false]at hs
   rcases hs with rfl | rfl
   ·exact h3 a (by simp)
   ·exact⟨h2.1,by simp only[nS];omega⟩
  ·refine SJ (b::c::r) N (nts+1) nts ⟨h2.1,by omega⟩ ⟨by omega,?_⟩ (fun n hn=>h3 n (aE0 _ hn)) p (by simpa using hp);have wS:(b::c::r).length-2=r.length:=by simp
   rw[wS];omega
theorem VY {m:Mk} (h:GoodM m) {hd:Int} {ns:List Int} (h1:0<=hd/\hd<m.nts) (h2:∀n∈ns,0<=n/\n<m.nts):GoodM (m.chain hd ns):=by
 have h0:=h.one;have vS:m.nts<=m.nts+((ns.length-2:Nat):Int):=by omega
 refine⟨by simp only[Mk.chain];omega,?_,fun a x hx=> ?_,?_⟩
 ·intro p hp
  rcases aI0.1 hp with hp | hp
  ·exact lV vS (h.ps p hp)
  ·exact SJ ns (m.chain hd ns).nts m.nts hd ⟨h1.1,by simp only[Mk.chain];omega⟩ ⟨by omega,Int.le_refl _⟩ (fun n hn=>⟨(h2 n hn).1,by have:=(h2 n hn).2;simp only[Mk.chain];omega⟩) p hp
 ·have:=h.hs a x hx;exact⟨this.1,by simp only[Mk.chain];omega⟩
 ·have:=h.no;exact⟨this.1,by simp only[Mk.chain];omega⟩
theorem Pb_ {m:Mk} (h:GoodM m) {p:Prod} (hp:gP m.nts p):GoodM (m.put p.head p.body):=by
 refine⟨h.one,fun q hq=> ?_,h.hs,h.no⟩
 rcases aI0.1 hq with hq | hq
 ·exact h.ps q hq
 ·simp only[aG0]at hq;subst hq;exact hp
theorem Bh_ {m:Mk} (h:GoodM m) {p:Prod} (h1:0<=p.head/\p.head<m.nts) (h2:∀s∈p.body,GV m.nts s):GoodM (m.add p):=by
 unfold Mk.add
 split
 ·rename_i hf;exact Pb_ h ⟨h1,by rcases hf with hf | hf<;>rw[hf]<;>decide,h2⟩
 ·obtain⟨g1,g2⟩:=Zj h h2;have vS:=(LY p.body m).2.1
  split
  ·obtain⟨k1,k2,k3⟩:=lU g1;have hle2:=(Mx (m.syms p.body).1).2.1;refine VY k1 ⟨h1.1,by omega⟩ fun n hn=> ?_
   rcases aI0.1 hn with hn | hn
   ·have:=g2 n hn;exact⟨this.1,by omega⟩
   ·simp only[aG0]at hn;subst hn;exact⟨k2,k3⟩
  ·exact VY g1 ⟨h1.1,by omega⟩ g2
theorem Np_ {c:Cnf} {s:Sym} (h:DO c s=false):GV c.nts s:=by
 unfold DO at h;unfold GV;cases hl:s.label<;>simp_all [Mw]
theorem Nn_ {c:Cnf} {s:Sym} (h:GV c.nts s):DO c s=false:=by
 unfold GV at h;unfold DO;cases hl:s.label<;>simp_all [Mw]
theorem FL_ {c:Cnf} {p:Prod}:Cs c p=true↔(0<=p.head/\p.head<c.nts)/\∀s∈p.body,GV c.nts s:=by
 unfold Cs;rw[aM0]
 constructor
 ·rintro⟨h1,h2⟩;refine⟨by simpa[Mw]using h1,fun s hs=>Np_ ?_⟩;simp only[eN0,cZ0]at h2;simpa using h2 s hs
 ·rintro⟨h1,h2⟩;refine⟨by simpa[Mw]using h1,?_⟩;simp only[eN0,cZ0];intro s hs;rw[Nn_ (h2 s hs)];simp
theorem DD {c:Cnf}:BB c=true↔(1<=c.nts/\c.nts<=1024)/\∀p∈c.prods,(0<=p.head/\p.head<c.nts)/\∀s∈p.body,GV c.nts s:=by
 unfold BB;simp only[aM0,decide_eq_true_eq,bA0,FL_]
theorem Zk : ∀{l:List Prod} {m r:Mk},GoodM m->m.nts<=1024->(∀p∈l,(0<=p.head/\p.head<m.nts)/\∀s∈p.body,GV m.nts s)->m.adds l=some r->GoodM r/\r.nts<=1024
 | [],m,r,h,hn,_,hr=>by simp only[Mk.adds,aA0]at hr;subst hr;exact⟨h,hn⟩
 | p::l,m,r,h,hn,hl,hr=>by
  simp only[Mk.adds]at hr
  split at hr
  ·simp at hr
  ·rename_i vR;obtain⟨h1,h2⟩:=hl p aF0;have vS:=(QZ m p).2.1
   exact Zk (Bh_ h h1 h2) (by omega) (fun q hq=>by
    obtain⟨g1,g2⟩:=hl q (aE0 _ hq)
    exact⟨⟨g1.1,by omega⟩,fun s hs=>Nj vS (g2 s hs)⟩) hr
theorem VX {c:Cnf} (h:BB c=true):GoodM (Mk.start c):=by
 obtain⟨h1,_⟩:=DD.1 h;exact⟨h1.1,by simp[Mk.start],by simp[Mk.start,Er],by simp[Mk.start]⟩
theorem Sl {c:Cnf} {r:Mk} (h:BB c=true) (hr:(Mk.start c).adds c.prods=some r):GoodM r/\r.nts<=1024:=by
 obtain⟨h1,h2⟩:=DD.1 h;exact Zk (VX h) h1.2 h2 hr
theorem Iy_ {m:Mk} (h:GoodM m) (hn:m.nts<=1024):BB m.cnf=true:=DD.2 ⟨⟨h.one,hn⟩,fun p hp=>⟨(h.ps p hp).1,(h.ps p hp).2.2⟩⟩
theorem Rt (c:Cnf):iM c=if BB c then ((match (Mk.start c).adds c.prods with | none=>(RY,240) | some m=>(BM m.cnf,0)):Cnf×Int)else (RY,220):=by
 unfold iM
 split
 ·rename_i h
  cases hA:(Mk.start c).adds c.prods with
  | none=>rfl
  | some m =>
   obtain⟨g1,g2⟩:=Sl h hA;simp[SW_,Iy_ g1 g2]
 ·rfl
theorem Sf_ {l:List Sym} (h0:AB l≠0) (h:¬(AB l=1\/AB l=2)):∃a b,l=[nS a,nS b]:=by
 match l with
 | []=>simp[AB]at h
 | [s]=>cases hs:s.label<;>simp_all [AB]
 | [⟨x,a⟩,⟨y,b⟩] =>
  cases x<;>cases y<;>simp_all [AB];exact⟨⟨a,rfl⟩,⟨b,rfl⟩⟩
 | s::t::u::r=>simp[AB]at h0
theorem Qi_ {m:Mk} {p:Prod} (h:AB p.body≠0):m.add p={ m with prods:=m.prods++[p] }:=by
 unfold Mk.add
 split
 ·rfl
 ·rename_i hf;obtain⟨a,b,hb⟩:=Sf_ h hf;obtain⟨hd,bd⟩:=p;simp only at hb;subst hb;simp[Mk.syms,Mk.sym,Mk.chain,El,nS]
theorem ZY : ∀{l:List Prod} {m:Mk},m.nts<=1024->(∀p∈l,AB p.body≠0)->m.adds l=some { m with prods:=m.prods++l }
 | [],m,_,_=>by simp[Mk.adds]
 | p::l,m,hn,h=>by
  simp only[Mk.adds];rw[Qi_ (h p aF0),if_neg (by simp only;omega),ZY (m:={ m with prods:=m.prods++[p] }) hn fun q hq=>h q (aE0 _ hq)];simp
theorem Oe_ {c:Cnf} (h:BB c=true) (hw:∀p∈c.prods,AB p.body≠0):iM c=(BM c,0):=by
 rw[Rt,if_pos h];have h1:=(DD.1 h).1;rw[ZY (by simp only[Mk.start];omega) hw];simp[Mk.start,Mk.cnf]
theorem EK_ : ∀{l:List Prod} {m r:Mk},m.adds l=some r->r.gap=m.gap+l.length
 | [],m,r,h=>by simp only[Mk.adds,aA0]at h;subst h;simp
 | p::l,m,r,h=>by
  simp only[Mk.adds]at h
  split at h
  ·simp at h
  ·have h1:=EK_ h;have h2:=(QZ m p).1;simp only[List.length_cons];omega
theorem Rb_ {c x:Cnf} (h:iM c=(x,0)):x.prods.length<=c.prods.length+1024:=by
 rw[Rt]at h
 split at h
 ·rename_i hk
  cases hA:(Mk.start c).adds c.prods with
  | none=>rw[hA]at h;simp at h
  | some m =>
   rw[hA]at h;simp only[_root_.Prod.mk.injEq,and_true]at h;subst h;obtain⟨_,g2⟩:=Sl hk hA;have g3:=EK_ hA;simp only[Mk.gap,Mk.start,List.length_nil]at g3;have h1:=((DD.1 hk).1).1;have h2:=Au_ m.cnf;simp only[Mk.cnf]at h2 |-;omega
 ·simp at h
theorem KZ_ (c:Cnf):(∃x,iM c=(x,0)/\BB x=true/\(∀p∈x.prods,AB p.body≠0)/\iM x=(x,0))\/∃e,e≠0/\iM c=(RY,e):=by
 rw[Rt]
 split
 ·rename_i h
  cases hA:(Mk.start c).adds c.prods with
  | none=>exact .inr ⟨240,by decide,rfl⟩
  | some m =>
   obtain⟨g1,g2⟩:=Sl h hA;have qL:=Iy_ g1 g2;have rS:BB (BM m.cnf)=true:=by rw[WK];exact qL
   have hw:∀p∈(BM m.cnf).prods,AB p.body≠0:=fun p hp=>(g1.ps p ((PM _ p).1 hp)).2.1
   refine .inl ⟨BM m.cnf,rfl,rS,hw,?_⟩;rw[Oe_ rS hw,Le_]
 ·exact .inr ⟨220,by decide,rfl⟩
end Go.Proofs.Wy
end
section
namespace Go.Proofs.Wy
open Go Go.Dm Tryz
theorem Wj : ∀(n:Nat) (l:List Int),l.Nodup->(∀x∈l,0<=x/\x<(n:Int))->l.length<=n
 | 0,l,_,h=>by
  cases l with
  | nil=>simp
  | cons x l=>have:=h x aF0;omega
 | n+1,l,hn,h=>by
  by_cases hm:(n:Int)∈l
  ·have h1:=Wj n (l.erase (n:Int)) (hn.erase _) fun x hx=>by
    have h2:=h x (List.mem_of_mem_erase hx)
    have h3:x≠(n:Int):=fun e=>by
     subst e;exact(List.Nodup.not_mem_erase hn) hx
    omega
   rw[List.length_erase_of_mem hm]at h1;omega
  ·have h1:=Wj n l hn fun x hx=>by
    have h2:=h x hx;have h3:x≠(n:Int):=fun e=>hm (e▸hx)
    omega
   omega
structure HelpI (n0:Int) (m:Mk):Prop where
 nd:(m.hs.map (·.1)).Nodup
 rg:∀a∈m.hs.map (·.1),0<=a/\a<16
 nt:m.nts=n0+(m.hs.length:Int)
theorem VB : ∀{l:List (Int×Int)} {a:Int},Er l a=none->¬a∈l.map (·.1)
 | [],_,_=>by simp
 | (k,h)::l,a,hl=>by
  unfold Er at hl
  split at hl
  ·simp at hl
  ·rename_i qK;have:=VB hl;rw[List.map_cons,aL0];rintro (e | e)
   ·exact qK e
   ·exact this e
theorem OW_ {n0:Int} {m:Mk} (h:HelpI n0 m) {s:Sym} (hs:s.label=true->0<=s.n/\s.n<16):HelpI n0 (m.sym s).1:=by
 unfold Mk.sym
 split
 ·rename_i hl
  cases hk:Er m.hs s.n with
  | some x=>exact h
  | none =>
   have h1:=VB hk;refine⟨?_,?_,?_⟩
   ·show ((m.hs++[(s.n,m.nts)]).map (·.1)).Nodup
    rw[aX0];exact cB0.2 ⟨h.nd,by simp,by rintro a ha b hb rfl;simp at hb;subst hb;exact h1 ha⟩
   ·intro a ha;have mN:a∈(m.hs++[(s.n,m.nts)]).map (·.1):=ha;rw[aX0,aI0]at mN
    rcases mN with mN | mN
    ·exact h.rg a mN
    ·simp at mN;subst mN;exact hs hl
   ·show m.nts+1=n0+((m.hs++[(s.n,m.nts)]).length:Int)
    rw[aC0,h.nt];simp only[List.length_cons,List.length_nil];omega
 ·exact h
theorem Zf {n0:Int}:∀{l:List Sym} {m:Mk},HelpI n0 m->(∀s∈l,s.label=true->0<=s.n/\s.n<16)->HelpI n0 (m.syms l).1
 | [],_,h,_=>h
 | s::l,m,h,hl=>by
  show HelpI n0 (((m.sym s).1.syms l).1)
  exact Zf (OW_ h (hl s aF0)) fun x hx=>hl x (aE0 _ hx)
theorem OX_ {n0:Int} {m:Mk} (h:HelpI n0 m) {p:Prod} (h1:p.body=[]\/p.body.length=2) (h2:∀s∈p.body,s.label=true->0<=s.n/\s.n<16):HelpI n0 (m.add p):=by
 have hx:=Zf h h2;have hy:=Po m p.body;unfold Mk.add
 split
 ·exact⟨h.nd,h.rg,h.nt⟩
 ·rename_i hf
  rcases h1 with h1 | h1
  ·exfalso;rw[h1]at hf;exact hf (.inl rfl)
  ·rw[if_neg (by omega)];refine⟨hx.nd,hx.rg,?_⟩
   show (m.syms p.body).1.nts+(((m.syms p.body).2.length-2:Nat):Int)=n0+((m.syms p.body).1.hs.length:Int)
   rw[hy,h1,hx.nt];omega
theorem Rv_ {n0:Int} {m:Mk} (h:HelpI n0 m):m.nts<=n0+16:=by
 have h1:=Wj 16 _ h.nd h.rg;rw[aJ0]at h1;rw[h.nt];omega
theorem Xu {n0:Int} (hn:n0<=1000):∀{l:List Prod} {m:Mk},HelpI n0 m->(∀p∈l,(p.body=[]\/p.body.length=2)/\∀s∈p.body,s.label=true->0<=s.n/\s.n<16)->∃r,m.adds l=some r/\m.nts<=r.nts
 | [],m,_,_=>⟨m,rfl,Int.le_refl _⟩
 | p::l,m,h,hl=>by
  obtain⟨h1,h2⟩:=hl p aF0;have h3:=OX_ h h1 h2;have h4:=Rv_ h3;have h5:=(QZ m p).2.1;obtain⟨r,h6,h7⟩:=Xu hn h3 fun q hq=>hl q (aE0 _ hq)
  refine⟨r,?_,by omega⟩;unfold Mk.adds;rw[if_neg (by omega)];exact h6
theorem KY_ {c:Cnf} (h:BB c=true) (hn:c.nts<=1000) (hp:∀p∈c.prods,p.body=[]\/p.body.length=2):∃x,iM c=(x,0)/\BB x=true/\(∀p∈x.prods,AB p.body≠0)/\c.nts<=x.nts:=by
 obtain⟨_,h2⟩:=DD.1 h;have hi:HelpI c.nts (Mk.start c):=⟨by simp[Mk.start],by simp[Mk.start],by simp[Mk.start]⟩
 obtain⟨r,hr,vS⟩:=Xu hn (l:=c.prods) hi fun p hq=>⟨hp p hq,fun s hs hl=>by
  have:=(h2 p hq).2 s hs;unfold GV at this;rw[if_pos hl]at this
  exact this⟩
 rcases KZ_ c with ⟨x,e1,e2,e3,_⟩ | ⟨e,he,e1⟩
 ·refine⟨x,e1,e2,e3,?_⟩;rw[Rt,if_pos h,hr]at e1;simp only[_root_.Prod.mk.injEq,and_true]at e1;rw[<-e1];exact vS
 ·exfalso;rw[Rt,if_pos h,hr]at e1;simp only[_root_.Prod.mk.injEq]at e1;exact he e1.2.symm
theorem UE : ∀{l:List Nat},(∀x∈l,x=0)->l.sum=0
 | [],_=>rfl
 | x::l,h=>by rw[dO0,h x aF0,UE fun y hy=>h y (aE0 _ hy)]
theorem Ns_ {α:Type} [DecidableEq α] (k:Nat) (a:α):∀(l:List α),l.Nodup->(l.map fun s=>if a=s then k else 0).sum<=k
 | [],_=>by simp
 | b::l,h=>by
  obtain⟨h1,h2⟩:=cW0.1 h;have ih:=Ns_ k a l h2;rw[List.map_cons,dO0]
  split
  ·rename_i e;subst e
   have hz:(l.map fun s=>if a=s then k else 0).sum=0:=by
    refine UE fun x hx=> ?_
    obtain⟨s,hs,rfl⟩:=aU0.1 hx;have qK:¬a=s:=fun e=>h1 (by rw[e];exact hs)
    rw[if_neg qK]
   omega
  ·omega
theorem aW {α:Type} (f g:α->Nat):∀l:List α,(l.map fun s=>f s+g s).sum=(l.map f).sum+(l.map g).sum
 | []=>rfl
 | a::l=>by
  rw[List.map_cons,List.map_cons,List.map_cons,dO0,dO0,dO0,aW f g l];omega
theorem YO : ∀(g:List Rul) (hs:List ByteArray),hs.Nodup->(hs.map fun s=>CJ (JR g s)).sum<=DG g
 | [],hs,_=>by
  have:(hs.map fun s=>CJ (JR [] s)).sum=0:=by
   refine UE fun x hx=> ?_
   obtain⟨s,_,rfl⟩:=aU0.1 hx;rfl
  omega
 | r::g,hs,h=>by
  have ih:=YO g hs h
  have h1:∀s,CJ (JR (r::g) s)=(if r.h=s then HN r.b else 0)+CJ (JR g s):=by
   intro s
   by_cases hr:r.h=s<;>simp[JR,CJ,hr]
  have h2:DG (r::g)=HN r.b+DG g:=by simp[DG]
  have h3:=Ns_ (HN r.b) r.h hs h;simp only[h1];rw[aW];omega
theorem Nu_ {gt:GT} (h:OkgT gt):AQ (Dg gt)<=80:=by
 have h1:=YO (Bd gt) _ (Qa (Bd gt))
 have h2:AQ (Dg gt)=((Ay (Bd gt)).map fun s=>CJ (JR (Bd gt) s)+1).sum:=by
  unfold AQ Dg;rw[cF0]
  congr 1
  refine cR0 fun s _=> ?_
  show ((CB (Xz gt s)).length+1:Int).toNat=_
  rw[WX,Iw];omega
 have h3:∀l:List ByteArray,(l.map fun _=>1).sum=l.length:=by
  intro l
  induction l with
  | nil=>rfl
  | cons a l ih=>rw[List.map_cons,dO0,ih,List.length_cons];omega
 rw[h2,aW,h3];have:=h.hd;have:=h.oc;omega
theorem ZC (xs:List Auto) {a:Nat}:∀{b:Nat},a<=b->Gc xs a<=Gc xs b
 | 0,h=>by rw[Nat.le_zero.1 h];exact Nat.le_refl _
 | b+1,h=>by
  rcases Nat.lt_or_ge b a with h1 | h1
  ·rw[show a=b+1 by omega];exact Nat.le_refl _
  ·have:=ZC xs (b:=b) h1;rw[NH];omega
theorem iF {xs:List Auto} (qD:∀a∈xs,1<=a.st) {q:Nat} (h:q<AQ xs):Gy xs q<AQ xs:=by
 have hl:=PL xs;have hn:=Ga_ qD;have hk:=aD0 (show q<(Rv xs).length by omega);have h1:=Sd_ hk
 by_cases hq:q∈JE xs
 ·rw[iG hq hk];omega
 ·rw[Vh hq];have h2:=ZC xs (show q+1<=AQ xs by omega);rw[NH,if_neg hq]at h2;omega
theorem St_ {H L:List ByteArray} (hL:L.length<=16) {N:Int} (hN:(H.length:Int)<=N) (h1:1<=N) (x:Nd):GV N (Fq H L x):=by
 unfold Fq GV
 split
 ·split
  ·rename_i h2;have:=ME h2;simp only[if_true];omega
  ·simp only[aK0,if_false];omega
 ·split
  ·split
   ·rename_i h2;have:=ME h2;simp only[aK0,if_false];omega
   ·simp only[aK0,if_false];omega
  ·simp only[aK0,if_false];omega
theorem RS_ {gt:GT} (h:OkgT gt) {N:Int} (hN:((Ay (Bd gt)).length:Int)<=N) (h1:1<=N) {x:Arc} (hx:x∈Gn (Dg gt)):GV N x.sy:=by
 unfold Gn at hx;obtain⟨p,hp,hx⟩:=bV0.1 hx;obtain⟨y,hy,rfl⟩:=aU0.1 hx;have h2:=(It hp).1;unfold Dg at h2;obtain⟨s,_,hs⟩:=aU0.1 h2;rw[<-hs]at hy;obtain⟨p,q,_,_,_,rfl⟩:=IQ_ (show y∈QA (Jl (Bd gt)) (Xz gt s) from hy);unfold lD;simp only;rw[aZ0]
 cases hg:(Pe (Jl (Bd gt)) (Xz gt s))[q-1]? with
 | none=>simp[GV];omega
 | some z =>
  have h3:=bI0 hg;unfold Pe at h3;obtain⟨n,_,rfl⟩:=aU0.1 h3;exact St_ h.lb hN h1 n
theorem Uq {gt:GT} (h:OkgT gt) (qD:∀a∈Dg gt,SmA a):∃x,iM (BM (Hx (Dg gt)))=(x,0)/\BB x=true/\(∀p∈x.prods,AB p.body≠0)/\((Ay (Bd gt)).length:Int)<=x.nts:=by
 have gX:∀a∈Dg gt,1<=a.st:=fun a ha=>(Ms (qD a ha).ok).1
 have h1:=Ga_ gX;have h2:=Nu_ h;have h3:=KC gt;have hn0:(Hx (Dg gt)).nts=(AQ (Dg gt):Int):=by show (((Dg gt).length+Gc (Dg gt) (AQ (Dg gt)):Nat):Int)=_;rw[h1]
 have qK:=VT h;have hN:((Ay (Bd gt)).length:Int)<=(Hx (Dg gt)).nts:=by rw[hn0];omega
 have qL:BB (Hx (Dg gt))=true:=by
  rw[DD];refine⟨⟨by omega,by omega⟩,fun p hp=> ?_⟩
  rcases aI0.1 (show p∈(GH (Dg gt)).map (pF (Dg gt))++(Gn (Dg gt)).map (pA (Dg gt)) from hp)with hp | hp
  ·obtain⟨q,hq,rfl⟩:=aU0.1 hp;have h5:=oA qD hq;have h6:=iF gX h5.2;refine⟨?_,by simp[pF]⟩
   show (0:Int)<=(Gy (Dg gt) q.toNat:Int)/\(Gy (Dg gt) q.toNat:Int)<_
   omega
  ·obtain⟨x,hx,rfl⟩:=aU0.1 hp;have h5:=tH qD hx;have h6:=iF gX h5.2.1;have h7:=iF gX h5.2.2.2;have h8:=RS_ h hN (by omega) hx;refine⟨?_,?_⟩
   ·show (0:Int)<=(Gy (Dg gt) x.fr.toNat:Int)/\(Gy (Dg gt) x.fr.toNat:Int)<_
    omega
   ·intro s hs;simp only[pA,aL0,eH0,or_false]at hs
    rcases hs with rfl | rfl
    ·exact h8
    ·simp only[GV,aK0,if_false];omega
 have rS:BB (BM (Hx (Dg gt)))=true:=by rw[WK];exact qL
 have hnn:(BM (Hx (Dg gt))).nts=(Hx (Dg gt)).nts:=rfl
 obtain⟨x,e1,e2,e3,e4⟩:=KY_ rS (by rw[hnn];omega) fun p hp=>by
  have cT:=(PM _ p).1 hp
  rcases aI0.1 (show p∈(GH (Dg gt)).map (pF (Dg gt))++(Gn (Dg gt)).map (pA (Dg gt)) from cT)with cT | cT
  ·obtain⟨q,_,rfl⟩:=aU0.1 cT;exact .inl rfl
  ·obtain⟨x,_,rfl⟩:=aU0.1 cT;exact .inr rfl
 exact⟨x,e1,e2,e3,by omega⟩
end Go.Proofs.Wy
end
section
namespace Go.Proofs.Wy
open Go Go.Dm Tryz
variable [DMode]
attribute [local irreducible] DW Bs Bv
set_option maxRecDepth 100000
def Dq_ : Ann:=⟨[],[]⟩
theorem NI_ (c:Cnf):Ac prog 221 [.agg (Ar c)] (.bool (Ey c)):=by
 refine Ab [] Dq_ func221 call221 ntmps221 mxd (Ap @Dq_.eq_1 results221) rfl (fun qJ B qX qQ=> ?_);have hw:uN c:=Ut (by simpa[Gj,Dq]using qJ.1);obtain⟨wF,yI,cV,yL⟩:=hw;clear qJ;simp only[Ak];have hc:=Mn c;simp only[Ar]at hc;cases h0:BB c
 ·rw[h0]at hc;have zC:Ey c=false:=by simp[Ey,h0]
  exact Al (Aq hc) Aa (Ap @Ar.eq_1 zC)
 rw[h0]at hc;have zC:Ey c= !c.prods.any Eu:=by simp[Ey,h0]
 (refine Au (Aq hc) Aa (Aq @Ar.eq_1) ?_;intros;refine Ae ?_)
 refine Af (X:={k:Nat//k<=c.prods.length/\(c.prods.take k).any Eu=false}) (fun k=>⟨[(1,.ref [.int .i64 c.nts,Bq c.prods]),(3,.int .i64 k.1)],[]⟩) (fun k=>c.prods.length-k.1) ⟨0,by simp⟩ (Sub.lit (by simp)) ?_;rintro⟨k,hk,qY⟩
 by_cases qV:k<c.prods.length
 rotate_left
 ·have hke:k=c.prods.length:=by omega
  subst hke;rw[aN0]at qY;rw[qY]at zC;exact Al Aa Aa (Ap @Ar.eq_1 zC)
 obtain⟨p,hp,qI,vK⟩:=Ai qV;obtain⟨sB,hw6,hw7,hw8⟩:=yL p vK;have hv:=Kl_ p.body;cases hf:(AB p.body==0)
 ·rw[hf]at hv
  have qD:(c.prods.take (k+1)).any Eu=false:=by
   rw[bR0 qV,dU0,qY,qI];simp[Eu,hf]
  (refine Au (Aq hv) Aa (CG @Ar.eq_1 @Ah.eq_1 qV qI) ?_;intros;refine Ae ?_)
  refine Ag.mk ⟨k+1,by omega,qD⟩ (Sub.lit (by simp)) (by simp;omega)
  skip
 ·rw[hf]at hv;have hot:c.prods.any Eu=true:=bW0.2 ⟨p,vK,by simp[Eu,hf]⟩;rw[hot]at zC;exact Al (Aq hv) Aa (Dx @Ar.eq_1 @Ah.eq_1 qV qI zC)
end Go.Proofs.Wy
end
section
namespace Go.Proofs.Wy
open Go Go.Dm Tryz
attribute [local irreducible] DW Bs Bv
set_option maxRecDepth 100000
structure Stp where
 pr:Int
 fr:Int
 to:Int
def SY_ (x:Stp):List DVal:=[.int .i64 x.pr,.int .i64 x.fr,.int .i64 x.to]
@[simp] theorem Rk_ (s:Stp):AV (SY_ s)=0:=by simp[SY_,AV,mx]
@[simp] theorem TD_ (l:List Stp):BK (l.map SY_)=0:=Jb _ Rk_ l
def Yo (c:Cnf) (nt:Int) (n:Nat):Int:=if BB c then (if Ey c then (if 0<=nt/\nt<c.nts then (if n<=64 then 0 else 3)else 2)else 250)else 220
def JQ_ : Ann:=⟨[],[]⟩
theorem Hl_ (c:Cnf) (nt:Int) (w:List Int):Ac prog 96 [.agg (Ar c),.int .i64 nt,BD w] (.int .i64 (Yo c nt w.length)):=by
 refine Ab [] JQ_ func96 call96 ntmps96 mxd (Ap @JQ_.eq_1 results96) rfl (fun qJ B qX qQ=> ?_);clear qJ;simp only[Ak];have e1:=Lr c;have e2:=Ru_ c;simp only[Ar]at e1 e2;unfold Yo;cases h1:BB c
 ·rw[h1]at e1;exact Al (Aq e1) Aa (Aq @Ar.eq_1)
 rw[h1]at e1;cases h2:Ey c
 ·rw[h2]at e2;exact Al (Ap e1 e2) Aa (Aq @Ar.eq_1)
 rw[h2]at e2
 by_cases h3:nt<0
 ·have mA:¬(0<=nt/\nt<c.nts):=by omega
  exact Al (Ap e1 e2) Aa (BC @Ar.eq_1 h3 mA)
 by_cases h4:c.nts<=nt
 ·have mA:¬(0<=nt/\nt<c.nts):=by omega
  exact Al (Ap e1 e2) Aa (CG @Ar.eq_1 h3 h4 mA)
 have mA:0<=nt/\nt<c.nts:=by omega
 by_cases h5:w.length<=64
 ·have h5b:¬(64:Int)<(w.length:Int):=by omega
  exact Al (Ap e1 e2) Aa (EB @Ar.eq_1 h3 h4 mA h5 h5b)
 ·have h5b:(64:Int)<(w.length:Int):=by omega
  exact Al (Ap e1 e2) Aa (EB @Ar.eq_1 h3 h4 mA h5 h5b)
def Ei_ : Ann:=⟨[],[]⟩
theorem Fb_ (c:Cnf) (nt:Int) (n:Nat) (hn:n<9223372036854775807):Ac prog 159 [.agg (Ar c),.int .i64 nt,.int .i64 (n:Int)] (.int .i64 (Yo c nt n)):=by
 refine Ab [] Ei_ func159 call159 ntmps159 mxd (Ap @Ei_.eq_1 results159) rfl (fun qJ B qX qQ=> ?_);clear qJ;simp only[Ak];have e1:=Mn c;have e2:=NI_ c;simp only[Ar]at e1 e2;unfold Yo;cases h1:BB c
 ·rw[h1]at e1;exact Al (Aq e1) Aa (Aq @Ar.eq_1)
 rw[h1]at e1;cases h2:Ey c
 ·rw[h2]at e2;exact Al (Ap e1 e2) Aa (Aq @Ar.eq_1)
 rw[h2]at e2
 by_cases h3:nt<0
 ·have mA:¬(0<=nt/\nt<c.nts):=by omega
  exact Al (Ap e1 e2) Aa (BC @Ar.eq_1 h3 mA)
 by_cases h4:c.nts<=nt
 ·have mA:¬(0<=nt/\nt<c.nts):=by omega
  exact Al (Ap e1 e2) Aa (CG @Ar.eq_1 h3 h4 mA)
 have mA:0<=nt/\nt<c.nts:=by omega
 by_cases h5:n<=64
 ·have h5b:¬(64:Int)<(n:Int):=by omega
  exact Al (Ap e1 e2) Aa (EB @Ar.eq_1 h3 h4 mA h5 h5b)
 ·have h5b:(64:Int)<(n:Int):=by omega
  exact Al (Ap e1 e2) Aa (EB @Ar.eq_1 h3 h4 mA h5 h5b)
theorem NG_ (xs:List Auto) (vW:∀a∈xs,SmA a) (hl:xs.length<=16):Ac prog 15 [XM xs] (.agg (Ar (BM (Hx xs)))):=by
 have gX:∀a∈xs,1<=a.st:=fun a ha=>(Ms (vW a ha).ok).1
 have he:BM (Hx xs)=⟨(AQ xs:Int),(Hx xs).prods.foldl (BO Bp) []⟩:=by
  unfold BM;rw[Wb HM];have h1:(Hx xs).nts=((xs.length+Gc xs (AQ xs):Nat):Int):=rfl;rw[h1,Ga_ gX]
 rw[he];refine(Fy_ xs vW hl).wk ?_ (by simp[mx,Ar]);simp only[Ar,DA]
 split
 ·rename_i h0;rw[h0];simp[Bq]
 ·simp
theorem Nt_ {xs:List Auto} (h:∀a∈xs,SmA a) (hn:xs.length≠0):1<=AQ xs:=by
 cases xs with
 | nil=>simp at hn
 | cons a xs =>
  have h3:AQ (a::xs)=a.st.toNat+AQ xs:=by simp[AQ]
  have:=(Ms (h a aF0).ok).1;omega
end Go.Proofs.Wy
end
section
namespace Go.Proofs.Wy
open Go Go.Dm Tryz
variable [DMode]
attribute [local irreducible] DW Bs Bv
set_option maxRecDepth 100000

theorem eQ (c:Cnf):Ac prog 148 [.agg (Ar c)] (.agg (Ar (BM c))):=by
 have h:=eP c;rw[Wb HM]at h;exact h
def Dp_ : Ann:=⟨[2],[⟨20,[],[],[9]⟩]⟩
theorem Qn_ (m:Mk) (p:Prod) (hb:1026<p.body.length) :
  AS prog (.func 147) [Rg 0 0 m,.agg (Ah p)] (FM 0 0 m) (Rg 1 1 { m with nts:=1025 }) (FM 1 1 { m with nts:=1025 }):=by
 obtain⟨hd,l⟩:=p;simp only at hb;refine Bi [2,4] [(0,0,1),(1,1,1)] Dp_ func147 call147 ntmps147 mxd (Ap @Dp_.eq_1 results147) rfl (fun qJ B qX qQ=> ?_) (hv:=(by simp[FM]));simp only[Ak,Rg];have q1:¬l=[]:=fun h=>by rw[h]at hb;simp at hb
 have q2:¬(l.length:Int)=1:=by omega
 have q3:(1026:Int)<l.length:=by omega
 have q4:¬(l.length:Int)=0:=by omega
 have q5:((l.length:Int)==0)=false:=by simpa using q4
 have q6:((l.length:Int)==1)=false:=by simpa using q2
 have q7:¬l.length=1:=by omega
 have zP:noR { m with nts:=1025 }=noR m:=rfl;have jV:Ko { m with nts:=1025 }=Ko m:=rfl;obtain⟨s0,hs0,hs0',_⟩:=Ai (show 0<l.length by omega);exact Al Aa Aa (Tv @FM.eq_1 @Ah.eq_1 @AA.eq_1 q1 q2 q3 q4 q5 q6 q7 hs0 hs0' zP jV)
theorem Mz_ (m:Mk) (p:Prod) (hg:GoodM m) (qL:∀s∈p.body,GV m.nts s) (wS:p.body.length<=1026) (h2:m.nts+4000<=9223372036854775807) (h3:(m.prods.length+4000)*32<=150000000000000) :
  AS prog (.func 147) [Rg 0 0 m,.agg (Ah p)] (FM 0 0 m) (Rg 1 1 (m.add p)) (FM 1 1 (m.add p)):=by
 by_cases hf:AB p.body=1\/AB p.body=2
 ·exact MB_ m p hf (PQ (by omega) h3)
 ·by_cases hl:p.body.length=1
  ·exact Qm_ m p hf hl hg.no.1 hg.one (by omega) (PQ (by omega) h3)
  ·refine MA_ m p hf hl wS (fun s hs sT=> ?_) hg.pos h2 h3;have:=qL s hs;unfold GV at this;rw[if_pos sT]at this;exact this
def QO : Ann:=⟨[12,26],[]⟩
theorem NF_ (c:Cnf) (qM:(c.prods.length+8000)*32<=150000000000000):Ac prog 57 [.agg (Ar c)] (.tup [.agg (Ar (iM c).1),.int .i64 (iM c).2]):=by
 have key:∀d,d=(if BB c then (match (Mk.start c).adds c.prods with | none=> .tup [.agg [.int .i64 0,.nilsl],.int .i64 240] | some m=> .tup [.agg (Ar (BM m.cnf)),.int .i64 0])else .tup [.agg [.int .i64 0,.nilsl],.int .i64 220])->Ac prog 57 [.agg (Ar c)] d:=by
  intro d hd;refine Ly [] func57 rfl call57 (by simp[ntmps57]) ?_ ?_
  ·subst hd
   split
   ·split<;>simp[mx,Ar]
   ·simp[mx]
  intro qJ B qX;simp only[ntmps57]at qX;have qQ:=ZO QO mxd (Ap @QO.eq_1 results57);have hw:uN c:=Ut (by simpa[Gj,Dq]using qJ.1);obtain⟨wF,yI,cV,yL⟩:=hw;clear qJ;simp only[Ak];have h1:=Mn c;cases hb:BB c
  ·rw[hb]at h1 hd;simp only[aK0,if_false]at hd;subst hd;exact Al (Aq h1) Aa (Aq @Ar.eq_1)
  rw[hb]at h1 hd;simp only[if_true]at hd;have hh0:Ko (Mk.start c)=List.replicate 16 (-1):=rfl;have h4:=Hh_ c.nts;rw[<-hh0]at h4;clear hh0
  (refine Au (Aq h1) (Aq (DF [] [(51,0)] h4)) (Aq @Ar.eq_1) ?_;intros;refine Ae ?_)
  refine BT 4 1 50 92 2 32 (by simp) (fun n=> ?_);have hgs:=VX hb;obtain⟨hn12,hcp⟩:=DD.1 hb;obtain⟨zP,jV⟩:=hn12;obtain⟨R,hR⟩:∃R,R=(Mk.start c).adds c.prods:=⟨_,rfl⟩;rw[<-hR]at hd;have wE:noR ⟨c.nts,[],[],0⟩= -1:=rfl
  refine Af (X:={x:Nat×Mk//x.1<=c.prods.length/\x.2.adds (c.prods.drop x.1)=R/\c.nts<=x.2.nts/\x.2.nts<=1024/\(x.2.prods.length:Int)=x.1+x.2.nts-c.nts/\GoodM x.2})
   (fun x=>⟨[(1,.ref (Ar c)),(2,.bx 2 1 0),(3,.int .i64 0),(4,.bx 4 1 0),(5,.int .i64 x.1.1)],[⟨2,1,.box [.int .i64 0,.nilsl]⟩,⟨4,1,.box [.int .i64 x.1.2.nts,.osl 50 1,.osl 51 1,.int .i64 (noR x.1.2)]⟩,⟨50,1,.row 92 2 32 (x.1.2.prods.map Ah)⟩,⟨51,1,.row 3 1 8 ((Ko x.1.2).map BA)⟩]⟩)
   (fun x=>c.prods.length-x.1.1) ⟨(0,Mk.start c),by simp[hR,Mk.start];exact⟨by omega,hgs⟩⟩ (Sub.lit (by simp[Ar,Mk.start,wE])) ?_
  rintro⟨⟨k,m1⟩,hk,hA,b1,b2,b3,b4⟩;simp only at hk hA b1 b2 b3 b4 |-;clear hR
  by_cases qV:k<c.prods.length
  ·obtain⟨p,hp,qI,vK⟩:=Ai qV;obtain⟨sB,hw6,hw7,hw8⟩:=yL p vK;obtain⟨dW,tV⟩:=hcp p vK;rw[aP0 qV,qI]at hA;simp only[Mk.adds]at hA;obtain⟨g1,g2,g3,g4⟩:=QZ m1 p;simp only[Mk.gap]at g1;have sF:∀s∈p.body,GV m1.nts s:=fun s hs=>Nj b1 (tV s hs)
   by_cases kS:1026<p.body.length
   ·have e1:=Qn_ m1 p kS;rw[if_pos (by have:=b4.one;omega)]at hA;subst hA;simp only at hd;subst hd;simp only[Rg]at e1;exact Al (Aq h1) (Aq (DF [(50,0),(51,1)] [] e1)) (Dx @FM.eq_1 @Ar.eq_1 @Ah.eq_1 qV qI)
   ·have e1:=Mz_ m1 p b4 sF (by omega) (by omega) (Nat.le_trans (aQ0 32 (show m1.prods.length+4000<=c.prods.length+8000 by omega)) qM);have yF:=Bh_ b4 ⟨dW.1,by have:=dW.2;omega⟩ sF
    generalize bO:m1.add p=m2 at e1 hA g1 g2 g3 g4 yF
    simp only[Rg]at e1
    by_cases vR:1024<m2.nts
    ·rw[if_pos vR]at hA;subst hA;simp only at hd;subst hd;exact Al (Aq h1) (Aq (DF [(50,0),(51,1)] [] e1)) (EB @FM.eq_1 @Ar.eq_1 @Ah.eq_1 qV qI vR)
    ·rw[if_neg vR]at hA
     (refine Au (Aq h1) (Aq (DF [(50,0),(51,1)] [] e1)) (EB @FM.eq_1 @Ar.eq_1 @Ah.eq_1 qV qI vR) ?_;intros;refine Ae ?_)
     refine Ag.mk ⟨(k+1,m2),show k+1<=c.prods.length/\_/\c.nts<=m2.nts/\m2.nts<=1024/\(m2.prods.length:Int)=((k+1:Nat):Int)+m2.nts-c.nts/\GoodM m2 from ⟨by omega,hA,by omega,by omega,by omega,yF⟩⟩ (Sub.lit (by simp[FM,Ar])) (by simp;omega)
     skip
  ·have qY:k=c.prods.length:=by omega
   subst qY;rw[bE0]at hA;simp only[Mk.adds]at hA;subst hA;simp only at hd;subst hd;refine Fw (Sub.freezeL [50] _) ?_;simp[qX,results57,QO,Ar];have h2:=eQ m1.cnf;simp only[Mk.cnf,Ar]at h2
   (repeat (first | refine AI fun K hK=> ?_ | (refine BR QO mxd (by kernel_rfl) ?_;simp[QO,qX,Ar,Mk.cnf];try simp (disch:=omega) only[Ao]) | refine Aw ?_ | (refine Bb ?_ ?_ ?_;(· (simp[qX,Ar,Mk.cnf];done));(try (rotate_left;(· (intro hc;(try simp[qX,Ar,Mk.cnf]at hc);done))))) | (refine AK ?_;simp[results57,qX,Ar,Mk.cnf]) | ((first | refine AD ?_ | refine AC ?_);simp[qX,Ar,Mk.cnf]) | (intro hc;(try simp[qX,Ar,Mk.cnf]at hc);(try (exfalso;omega))) | ((first | refine An (h2) ?_ | (refine Am (h2) ?_ ?_;(· (simp;done))));try simp[qX,Ar,Mk.cnf]) | (refine⟨?_,?_⟩; · omega) | omega | apply_assumption -exfalso -symm | (exfalso;omega)))
 have hk:=key _ rfl;rw[Rt];cases hb:BB c<;>rw[hb]at hk
 ·exact Ac.wkT hk (by simp[RY,Ar,Bq]) (by simp[mx])
 ·simp only[if_true]at hk |-
  cases hA:(Mk.start c).adds c.prods with
  | none =>
   rw[hA]at hk;exact Ac.wkT hk (by simp[RY,Ar,Bq]) (by simp[mx])
  | some m =>
   rw[hA]at hk;exact hk
end Go.Proofs.Wy
end
section
namespace Go.Proofs.Wy
open Go Go.Dm Tryz
attribute [local irreducible] DW Bs Bv
set_option maxRecDepth 100000
theorem Ua_ {a b n:Nat} (h1:a<=1040) (h2:b<=17179870208) (h3:n<=a+b):(n+8000)*32<=150000000000000:=by omega
theorem oQ {xs:List Auto} (vW:∀a∈xs,SmA a) (hl:xs.length<=16):((BM (Hx xs)).prods.length+8000)*32<=150000000000000:=by
 have vC:(GH xs).length<=1040:=Nat.le_trans (MP vW 0) (bY0 65 hl);have jP:(Gn xs).length<=17179870208:=Nat.le_trans (Nb vW 0) (bY0 1073741888 hl);refine Ua_ vC jP (Nat.le_trans (Au_ _) ?_);simp[Hx]
def En (gt:GT):Cnf×Int:=iM (BM (Hx (Dg gt)))
def IS_ : Ann:=⟨[],[⟨4,[6],[],[]⟩]⟩
theorem Kk_ (gt:GT) (h:OkgT gt) (hs:Fl (Bd gt)) (p1:Ac prog 76 [Az (Bd gt)] (.int .i64 0)):Ac prog 17 [Az (Bd gt)] (.tup [.agg (Ar (En gt).1),.int .i64 (En gt).2]):=by
 have e1:=Gd_ gt h hs p1;have vW:=Qy h;have jP:=KC gt;have pX:=h.hd;have qK:=VT h;unfold En;obtain⟨A,hA⟩:∃A,A=Dg gt:=⟨_,rfl⟩;rw[<-hA]at e1 vW jP |-;have pP:A.length<=16:=by omega
 have e3:=oS (Ay (Bd gt)) (AE (Bd gt)) A vW pP (by omega) (Nt_ vW (by omega));have qM:=oQ vW pP;obtain⟨NC,hNC⟩:∃NC,NC=BM (Hx A):=⟨_,rfl⟩;rw[<-hNC]at e3 qM |-;have e7:=Lb_ NC qM;obtain⟨X,hX⟩:∃X,X=(iM NC).1:=⟨_,rfl⟩;obtain⟨E,hE⟩:∃E,E=(iM NC).2:=⟨_,rfl⟩;rw[<-hX,<-hE]at e7 |-;unfold Eb at e1 e3;simp only[Ar]at e3 e7;refine Ab [] IS_ func17 call17 ntmps17 mxd (Ap @IS_.eq_1 results17) rfl (fun qJ B qX qQ=> ?_) (hd:=(by simp[mx,AV,Ar]))
 clear qJ;simp only[Ak];exact Al (BC e1 e3 e7) Aa (Aq @Ar.eq_1)
def IR_ : Ann:=⟨[],[]⟩
theorem Fu_ (gt:GT) (h:OkgT gt) (hs:Fl (Bd gt)) (p2:Ac prog 13 [Az (Bd gt)] (.int .i64 0)):Ac prog 18 [Az (Bd gt)] (.tup [.agg (Ar (En gt).1),.int .i64 (En gt).2]):=by
 have e2:=xP gt h hs;have vW:=Qy h;have jP:=KC gt;have pX:=h.hd;unfold En;obtain⟨A,hA⟩:∃A,A=Dg gt:=⟨_,rfl⟩;rw[<-hA]at e2 vW jP |-;have pP:A.length<=16:=by omega
 have e4:=NG_ A vW pP;have qM:=oQ vW pP;obtain⟨NC,hNC⟩:∃NC,NC=BM (Hx A):=⟨_,rfl⟩;rw[<-hNC]at e4 qM |-;have e8:=NF_ NC qM;obtain⟨X,hX⟩:∃X,X=(iM NC).1:=⟨_,rfl⟩;obtain⟨E,hE⟩:∃E,E=(iM NC).2:=⟨_,rfl⟩;rw[<-hX,<-hE]at e8 |-;unfold XM at e2 e4;simp only[Ar]at e4 e8;refine Ab [] IR_ func18 call18 ntmps18 mxd (Ap @IR_.eq_1 results18) rfl (fun qJ B qX qQ=> ?_) (hd:=(by simp[mx,AV,Ar]));clear qJ;simp only[Ak];exact Al (CG e2 e4 e8 p2) Aa (Aq @Ar.eq_1)
def JP_ : Ann:=⟨[],[]⟩
theorem Br_ (g1 g2:FuncId) (c1 c2:List DVal) (e1 e2:Int) (h1:Ac prog g1 c1 (.int .i64 e1)) (h2:e1=0->Ac prog g2 c2 (.int .i64 e2)) :
  Ac prog 59 [.sl 1 8 [[.fn (.func g1) [] c1],[.fn (.func g2) [] c2]]] (.int .i64 (if e1=0 then e2 else e1)):=by
 refine Ab [] JP_ func59 call59 ntmps59 mxd (Ap @JP_.eq_1 results59) rfl (fun qJ B qX qQ=> ?_);simp only[Ak];clear qJ;obtain⟨R,hR⟩:∃R,R=(if e1=0 then e2 else e1):=⟨_,rfl⟩;rw[<-hR]
 (refine Au Aa Aa Aa ?_;intros;refine Ae ?_)
 refine Af (X:={k:Nat//k<=2/\(1<=k->e1=0)/\(2<=k->e2=0)}) (fun x=>⟨[(6,.sl 1 8 [[.fn (.func g1) [] c1],[.fn (.func g2) [] c2]]),(7,.int .i64 2),(8,.int .i64 x.1)],[]⟩) (fun x=>2-x.1) ⟨0,by simp⟩ (Sub.lit (by simp)) ?_;rintro⟨k,hk,q1,q2⟩
 match k,hk,q1,q2 with
 | 0,_,_,_ =>
  by_cases h:e1=0
  ·subst h
   (refine Au (Aq h1) Aa Aa ?_;intros;refine Ae ?_)
   exact Ag.mk ⟨1,by omega,by simp,by omega⟩ (Sub.lit (by simp)) (by simp)
   skip
  ·have vP:R=e1:=by rw[hR];simp[h]
   subst vP;exact Al (Aq h1) Aa (Aq h)
 | 1,_,q1,_ =>
  have q1:=q1 (by omega);have k2:=h2 q1;clear h2;subst q1
  by_cases h:e2=0
  ·subst h
   (refine Au (Aq k2) Aa Aa ?_;intros;refine Ae ?_)
   exact Ag.mk ⟨2,by omega,by simp,by simp⟩ (Sub.lit (by simp)) (by simp)
   skip
  ·have vP:R=e2:=by rw[hR];simp
   subst vP;exact Al (Aq k2) Aa (Aq h)
 | 2,_,q1,q2 =>
  clear h2;have q1:=q1 (by omega);have q2:=q2 (by omega);subst q1;subst q2;have vP:R=0:=by rw[hR];simp
  subst vP;exact Al Aa Aa Aa
def Hv (c:Int) (g:List Rul) (nt:ByteArray):Int:=if c=0 then (if nt∈Ay g then 0 else 4)else c
def Eh_ : Ann:=⟨[],[]⟩
theorem AV_ (g:List Rul) (c:Int) (h:Ac prog 76 [Az g] (.int .i64 c)):Ac prog 152 [.ref [Az g]] (.int .i64 c):=by
 refine Ab [] Eh_ func152 call152 ntmps152 mxd (Ap @Eh_.eq_1 results152) rfl (fun qJ B qX qQ=> ?_);clear qJ;simp only[Ak];exact Al (Aq h) Aa Aa
def Eg_ : Ann:=⟨[],[]⟩
theorem AU_ (g:List Rul) (nt:ByteArray):Ac prog 153 [.ref [Az g],.ref [.str nt]] (.int .i64 (if nt∈Ay g then 0 else 4)):=by
 refine Ab [] Eg_ func153 call153 ntmps153 mxd (Ap @Eg_.eq_1 results153) rfl (fun qJ B qX qQ=> ?_);clear qJ;simp only[Ak];have e1:=Lo g;have e2:=Kx (Ay g) nt;obtain⟨H,hH⟩:∃H,H=Ay g:=⟨_,rfl⟩;rw[<-hH]at e1 e2 |-
 by_cases h:nt∈H
 ·have e3:=Dt false 4;rw[decide_eq_true h]at e2;simp only[aK0,if_false]at e3;exact Al (BC e1 e2 e3) Aa (Aq h)
 ·have e3:=Dt true 4;rw[decide_eq_false h]at e2;simp only[if_true]at e3;exact Al (BC e1 e2 e3) Aa (Aq h)
def JO_ : Ann:=⟨[],[]⟩
theorem Gq_ (g:List Rul) (nt:ByteArray) (c:Int) (h:Ac prog 76 [Az g] (.int .i64 c)):Ac prog 61 [Az g,.str nt] (.int .i64 (Hv c g nt)):=by
 refine Ab [] JO_ func61 call61 ntmps61 mxd (Ap @JO_.eq_1 results61) rfl (fun qJ B qX qQ=> ?_);clear qJ;simp only[Ak];have e1:=Br_ 152 153 [.ref [Az g]] [.ref [Az g],.ref [.str nt]] _ _ (AV_ g c h) (fun _=>AU_ g nt);have zS:(([0,1]:List Nat)=List.range 2)=True:=eq_true rfl;obtain⟨R,hR⟩:∃R,R=Hv c g nt:=⟨_,rfl⟩;have wX:R=(if c=0 then (if nt∈Ay g then 0 else 4)else c):=hR;rw[<-wX]at e1;rw[<-hR];clear hR wX
 exact Al (Aq e1) Aa (Aq zS)
def JN_ : Ann:=⟨[],[]⟩
theorem Ss (g:List Rul) (nt:ByteArray) (c:Int) (h:Ac prog 13 [Az g] (.int .i64 c)):Ac prog 66 [Az g,.str nt] (.int .i64 (Hv c g nt)):=by
 refine Ab [] JN_ func66 call66 ntmps66 mxd (Ap @JN_.eq_1 results66) rfl (fun qJ B qX qQ=> ?_);clear qJ;simp only[Ak];unfold Hv
 by_cases hc:c=0
 ·subst hc;have e1:=Eg g;have e2:=GQ (Ay g) nt;obtain⟨H,hH⟩:∃H,H=Ay g:=⟨_,rfl⟩;rw[<-hH]at e1 e2 |-
  by_cases hn:nt∈H
  ·rw[Nq hn]at e2;have qV:¬(LR H nt:Int)<0:=by omega
   exact Al (BC e1 e2 h) Aa (Ap hn qV)
  ·rw[Rp hn]at e2;exact Al (BC e1 e2 h) Aa (Aq hn)
 ·have hcb:(c==0)=false:=by simpa using hc
  exact Al (Aq h) Aa (Ap hc hcb)
def Ph (L:List ByteArray) (w:List ByteArray):List Int:=w.map fun s=>(LR L s:Int)
def aI (L:List ByteArray) (w:List ByteArray):Bool:=w.all fun s=>decide (s∈L)
theorem TC (L w:List ByteArray):(Ph L w).length=w.length:=by unfold Ph;rw[aJ0]
theorem uM {L w:List ByteArray} {k:Nat} {x:ByteArray} (h:w[k]? =some x):Ph L (w.take (k+1))=Ph L (w.take k)++[(LR L x:Int)]:=by unfold Ph;rw[bD0,h,aX0];rfl
theorem MW_ {L w:List ByteArray} {x:ByteArray} (h:x∈w) (hx:¬x∈L):aI L w=false:=by
 unfold aI;rw[List.all_eq_false];exact⟨x,h,by simpa using hx⟩
theorem HF_ {L w:List ByteArray} (h:∀x∈w,x∈L):aI L w=true:=by
 unfold aI;rw[bA0];exact fun x hx=>by simpa using h x hx
def wdD (L w:List ByteArray):DVal:= .tup [BD (if aI L w then Ph L w else []),.int .i64 (if aI L w then 0 else 4)]
theorem MV_ {L w:List ByteArray} {D:DVal} (h:D=(if aI L w then .tup [BD (Ph L w),.int .i64 0]else .tup [.nilsl,.int .i64 4])):∀{f:FuncId} {args:List DVal},Ac prog f args D->Ac prog f args (wdD L w):=by
 intro f args hp;subst h;unfold wdD;cases hb:aI L w
 ·rw[hb]at hp;exact Ac.wkT hp (by simp[BD]) (by simp[mx])
 ·rw[hb]at hp;exact hp
def JM_ : Ann:=⟨[],[]⟩
theorem Fg_ (H L w:List ByteArray) (hL:L.length<=16) (hw:w.length<=64):Ac prog 31 [Hf H L,AJ w] (wdD L w):=by
 refine MV_ rfl ?_;obtain⟨D,hD⟩:∃D,D=(if aI L w then DVal.tup [BD (Ph L w),.int .i64 0]else .tup [.nilsl,.int .i64 4]):=⟨_,rfl⟩;rw[<-hD];have e1:=HI H L;have e2:=fun s=>Ou H L s
 refine Ab [6] JM_ func31 call31 ntmps31 mxd (Ap @JM_.eq_1 results31) rfl (fun qJ B qX qQ=> ?_) (hd:=(by rw[hD];split<;>simp[mx]));clear qJ;simp only[Ak]
 (refine Au (Aq e1) Aa Aa ?_;intros;refine Ae ?_)
 refine Bk 6 6 3 1 8 (by simp[qX]) (fun n6=> ?_);refine Af (X:={k:Nat//k<=w.length/\∀x∈w.take k,x∈L}) (fun k=>⟨[(0,Hf H L),(6,.osl 6 1),(14,AJ w),(15,.int .i64 w.length),(16,.int .i64 k.1)],[⟨6,1,.row 3 1 8 ((Ph L (w.take k.1)).map Du)⟩]⟩) (fun k=>w.length-k.1) ⟨0,by simp⟩ (Sub.lit (by simp[Ph])) ?_;rintro⟨k,hk,ha⟩
 by_cases qV:k<w.length
 ·obtain⟨x,hx,qU,wA⟩:=Ai qV;have e3:=e2 x;unfold Ht Gz at e3
  by_cases wR:x∈L
  ·rw[if_pos wR,if_pos wR]at e3;have qH:=uM (L:=L) hx;have zD:(Ph L (w.take k)).length=k:=by rw[TC,aT0];omega
   have mN:∀y∈w.take (k+1),y∈L:=by
    intro y hy;rw[bD0,hx,aI0]at hy
    rcases hy with hy | hy
    ·exact ha y hy
    ·simp at hy;subst hy;exact wR
   obtain⟨T,hT⟩:∃T,T=Ph L (w.take k):=⟨_,rfl⟩;rw[<-hT]at qH zD |-;have z1:(k+1)*8<=150000000000000:=by omega
   have z2:k+1<=9223372036854775807:=by omega
   (refine Au (Aq e3) Aa (Ez @AG.eq_1 qV hx qU zD z1 z2) ?_;intros;refine Ae ?_)
   refine Ag.mk ⟨k+1,by omega,mN⟩ (Sub.lit (by simp[qH,Du])) (by simp;omega)
   skip
  ·rw[if_neg wR,if_neg wR]at e3;have hDf:D= .tup [.nilsl,.int .i64 4]:=by rw[hD,if_neg (by rw[MW_ wA wR];simp)]
   subst hDf;exact Al (Aq e3) Aa (CG @AG.eq_1 qV hx qU)
 ·have qY:k=w.length:=by omega
  subst qY;simp only[aN0]at ha |-;have hDt:D= .tup [BD (Ph L w),.int .i64 0]:=by rw[hD,if_pos (HF_ ha)]
  subst hDt;exact Al Aa Aa Aa
def JK_ : Ann:=⟨[],[]⟩
theorem Ft_ (g:List Rul) (w:List ByteArray) (hn:((AW 3 g).length+1)*16<=150000000000000) (hL:(AE g).length<=16) (hw:w.length<=64):Ac prog 67 [Az g,AJ w] (wdD (AE g) w):=by
 refine MV_ rfl ?_;have e1:=Im g hn;obtain⟨L,hLL⟩:∃L,L=AE g:=⟨_,rfl⟩;rw[<-hLL]at e1 hL |-;obtain⟨D,hD⟩:∃D,D=(if aI L w then DVal.tup [BD (Ph L w),.int .i64 0]else .tup [.nilsl,.int .i64 4]):=⟨_,rfl⟩;rw[<-hD];have e2:=fun s=>Ol L s
 refine Ab [7] JK_ func67 call67 ntmps67 mxd (Ap @JK_.eq_1 results67) rfl (fun qJ B qX qQ=> ?_) (hd:=(by rw[hD];split<;>simp[mx]));clear qJ;simp only[Ak]
 (refine Au (Aq e1) Aa Aa ?_;intros;refine Ae ?_)
 refine Bk 7 7 3 1 8 (by simp[qX]) (fun n7=> ?_);refine Af (X:={k:Nat//k<=w.length/\∀x∈w.take k,x∈L}) (fun k=>⟨[(1,AJ w),(6,AJ L),(7,.osl 7 1),(8,.int .i64 k.1)],[⟨7,1,.row 3 1 8 ((Ph L (w.take k.1)).map Du)⟩]⟩) (fun k=>w.length-k.1) ⟨0,by simp⟩ (Sub.lit (by simp[Ph])) ?_;rintro⟨k,hk,ha⟩
 by_cases qV:k<w.length
 ·obtain⟨x,hx,qU,wA⟩:=Ai qV;have e3:=e2 x;have w2:IntKind.i64.wrap ((k:Int)+1)=(k:Int)+1:=wq
  by_cases wR:x∈L
  ·rw[Nq wR]at e3;have bY:¬(LR L x:Int)<0:=by omega
   have qH:=uM (L:=L) hx;have zD:(Ph L (w.take k)).length=k:=by rw[TC,aT0];omega
   have mN:∀y∈w.take (k+1),y∈L:=by
    intro y hy;rw[bD0,hx,aI0]at hy
    rcases hy with hy | hy
    ·exact ha y hy
    ·simp at hy;subst hy;exact wR
   obtain⟨T,hT⟩:∃T,T=Ph L (w.take k):=⟨_,rfl⟩;rw[<-hT]at qH zD |-;have z1:(k+1)*8<=150000000000000:=by omega
   have z2:k+1<=9223372036854775807:=by omega
   (refine Au (Aq e3) Aa (OD @AG.eq_1 qV hx qU zD z1 z2 bY w2) ?_;intros;refine Ae ?_)
   refine Ag.mk ⟨k+1,by omega,mN⟩ (Sub.lit (by simp[qH,Du])) (by simp;omega)
   skip
  ·rw[Rp wR]at e3;have hDf:D= .tup [.nilsl,.int .i64 4]:=by rw[hD,if_neg (by rw[MW_ wA wR];simp)]
   subst hDf;exact Al (Aq e3) Aa (CG @AG.eq_1 qV hx qU)
 ·have qY:k=w.length:=by omega
  subst qY;simp only[aN0]at ha |-;have hDt:D= .tup [BD (Ph L w),.int .i64 0]:=by rw[hD,if_pos (HF_ ha)]
  subst hDt;exact Al Aa Aa Aa
def Ef_ : Ann:=⟨[],[]⟩
theorem Yi (H L w:List ByteArray) (hL:L.length<=16) (hw:w.length<=64):Ac prog 155 [Hf H L,AJ w] (.tup [BD (if aI L w then Ph L w else []),.bool (aI L w)]):=by
 refine Ab [] Ef_ func155 call155 ntmps155 mxd (Ap @Ef_.eq_1 results155) rfl (fun qJ B qX qQ=> ?_);clear qJ;simp only[Ak];have e1:=Fg_ H L w hL hw;unfold wdD at e1;cases hb:aI L w
 ·rw[hb]at e1;simp only[aK0,if_false]at e1 |-;exact Al (Aq e1) Aa Aa
 ·rw[hb]at e1;simp only[if_true]at e1 |-;exact Al (Aq e1) Aa Aa
def JL_ : Ann:=⟨[],[⟨2,[12],[],[]⟩]⟩
theorem BT_ (gt:GT) (h:OkgT gt) (hs:Fl (Bd gt)) (p1:Ac prog 76 [Az (Bd gt)] (.int .i64 0)) (nt:ByteArray) (w:List ByteArray) (hw:w.length<=64) :
  Ac prog 64 [Az (Bd gt),.str nt,AJ w] (.tup [.agg (Ar (En gt).1),.int .i64 (Ht (Ay (Bd gt)) nt),BD (if aI (AE (Bd gt)) w then Ph (AE (Bd gt)) w else []),.bool (aI (AE (Bd gt)) w)]):=by
 have n1:=Fc (k:=3) hs;have n2:(Bd gt).length=gt.length:=FV gt;have n3:=h.le;have pX:=h.hd;have sT:=h.lb;have e1:=If_ (Bd gt) (by omega) (by omega) (by omega) p1;have e2:=Kk_ gt h hs p1;have e3:=Vr (Ay (Bd gt)) (AE (Bd gt)) nt;have e4:=Yi (Ay (Bd gt)) (AE (Bd gt)) w sT hw;obtain⟨X,hX⟩:∃X,X=(En gt).1:=⟨_,rfl⟩;obtain⟨E,hE⟩:∃E,E=(En gt).2:=⟨_,rfl⟩;rw[<-hX,<-hE]at e2;rw[<-hX];obtain⟨H,hH⟩:∃H,H=Ay (Bd gt):=⟨_,rfl⟩
 obtain⟨L,hL⟩:∃L,L=AE (Bd gt):=⟨_,rfl⟩;rw[<-hH,<-hL]at e1 e3 e4;rw[<-hH,<-hL];obtain⟨N,hN⟩:∃N,N=(if aI L w then Ph L w else []):=⟨_,rfl⟩;rw[<-hN]at e4 |-;simp only[Ar]at e2;refine Ab [] JL_ func64 call64 ntmps64 mxd (Ap @JL_.eq_1 results64) rfl (fun qJ B qX qQ=> ?_) (hd:=(by simp[mx,AV,Ar]));clear qJ;simp only[Ak];exact Al (CG e1 e2 e3 e4) Aa (Aq @Ar.eq_1)
end Go.Proofs.Wy
end
section
namespace Go.Proofs.Wy
open Go Go.Dm Tryz
variable [DMode]
attribute [local irreducible] DW Bs Bv
set_option maxRecDepth 100000
def ZP : Ann:=⟨[],[]⟩
theorem oU (g:Edges) (hn:GB g=true):Ac prog 167 [.agg (BU g)] (.int .i64 (BU_ g)):=by
 refine Ab [] ZP func167 call167 ntmps167 mxd (Ap @ZP.eq_1 results167) rfl (fun qJ B qX qQ=> ?_);clear qJ;simp only[Ak];unfold BU_;have h1:=VE g
 by_cases c1:32<g.nodes.length
 ·have d1:(32:Int)<g.nodes.length:=by omega
  exact Al Aa Aa (BC @BU.eq_1 c1 d1)
 ·have d1:¬(32:Int)<g.nodes.length:=by omega
  obtain⟨U,hU⟩:∃U,U=CD (BP g.edges):=⟨_,rfl⟩;rw[<-hU]at h1 |-;clear hU;simp only[BU]at h1
  by_cases c2:16<U.length
  ·have d2:(16:Int)<U.length:=by omega
   exact Al (Aq h1) Aa (Dx @BU.eq_1 c1 d1 c2 d2)
  ·have d2:¬(16:Int)<U.length:=by omega
   by_cases c3:256<g.edges.length
   ·have d3:(256:Int)<g.edges.length:=by omega
    exact Al (Aq h1) Aa (Ez @BU.eq_1 c1 d1 c2 d2 c3 d3)
   ·have d3:¬(256:Int)<g.edges.length:=by omega
    have h2:=aT g (xC hn (by omega) (by omega));obtain⟨T,hT⟩:∃T,T=Pk g:=⟨_,rfl⟩;rw[<-hT]at h2 |-;clear hT;simp only[BU]at h2
    by_cases c4:2048<T.size
    ·have d4:(2048:Int)<T.size:=by omega
     exact Al (Ap h1 h2) Aa (OD @BU.eq_1 c1 d1 c2 d2 c3 d3 c4 d4)
    ·have d4:¬(2048:Int)<T.size:=by omega
     exact Al (Ap h1 h2) Aa (OD @BU.eq_1 c1 d1 c2 d2 c3 d3 c4 d4)
def CM_ : Ann:=⟨[],[]⟩
theorem oR (g:Edges):Ac prog 78 [.agg (BU g)] (.int .i64 (Gd g)):=by
 refine Ab [] CM_ func78 call78 ntmps78 mxd (Ap @CM_.eq_1 results78) rfl (fun qJ B qX qQ=> ?_);clear qJ;simp only[Ak];unfold Gd;have h1:=lX g;have h2:=XT g;simp only[BU]at h1 h2;cases hf:Qc g
 ·rw[hf]at h1;exact Al (Ap h1 h2) Aa (Aq @BU.eq_1)
 ·rw[hf]at h1;cases hn:GB g
  ·rw[hn]at h2;exact Al (Ap h1 h2) Aa (Aq @BU.eq_1)
  ·rw[hn]at h2;have h3:=oU g hn;simp only[BU]at h3;exact Al (BC h1 h2 h3) Aa (Aq @BU.eq_1)
def CL_ : Ann:=⟨[],[]⟩
theorem Kn_ (g:Edges) (a b:ByteArray):Ac prog 88 [.ref (BU g),.ref [.str a],.ref [.str b]] (.int .i64 (FF g a b)):=by
 refine Ab [] CL_ func88 call88 ntmps88 mxd (Ap @CL_.eq_1 results88) rfl (fun qJ B qX qQ=> ?_);clear qJ;simp only[Ak];have h:=SO g a b;simp only[BU]at h;exact Al (Aq h) Aa (Aq @BU.eq_1)
def CK_ : Ann:=⟨[],[]⟩
theorem Km_ (way:List Edge):Ac prog 89 [.ref [Cq way]] (.int .i64 (if 64<way.length then 3 else 0)):=by
 refine Ab [] CK_ func89 call89 ntmps89 mxd (Ap @CK_.eq_1 results89) rfl (fun qJ B qX qQ=> ?_);clear qJ;simp only[Ak];have h:=Dt (decide ((64:Int)<way.length)) 3
 by_cases c:64<way.length
 ·have d:(64:Int)<way.length:=by omega
  have h:=Dt true 3;simp only[if_true]at h;exact Al (Aq h) Aa (Ap c d)
 ·have d:¬(64:Int)<way.length:=by omega
  have h:=Dt false 3;simp only[aK0,if_false]at h;exact Al (Aq h) Aa (Ap c d)
def CN_ : Ann:=⟨[],[]⟩
theorem FC_ : Ac prog 70 [.nilsl] (.bool true):=by
 refine Ab [] CN_ func70 call70 ntmps70 mxd (Ap @CN_.eq_1 results70) rfl (fun qJ B qX qQ=> ?_);clear qJ;simp only[Ak]
 (refine Au Aa Aa Aa ?_;intros;refine Ae ?_)
 refine Af (X:=Unit) (fun _=>⟨[(0,.nilsl),(3,.int .i64 1)],[]⟩) (fun _=>0) () (Sub.lit (by simp)) ?_;rintro⟨⟩;exact Al Aa Aa Aa
def TV_ : Edges:=⟨[⟨#[110]⟩],[]⟩
def Cx : List DVal:=[.sl 1 16 [[.str ⟨#[110]⟩]],.sl 3 48 []]
def IV_ : Ann:=⟨[],[]⟩
theorem Gm_ : Ac prog 309 [.int .u8 110] (.bool true):=by
 refine Ab [] IV_ func309 call309 ntmps309 mxd (Ap @IV_.eq_1 results309) rfl (fun qJ B qX qQ=> ?_);clear qJ;simp only[Ak];exact Al Aa Aa Aa
def IX_ : Ann:=⟨[],[]⟩
theorem Ol_ : Ac prog 246 [.str ⟨#[110]⟩] (.bool true):=by
 refine Ab [] IX_ func246 call246 ntmps246 mxd (Ap @IX_.eq_1 results246) rfl (fun qJ B qX qQ=> ?_);clear qJ;simp only[Ak];have s1:(⟨#[110]⟩:ByteArray).size=1:=rfl
 (refine Au Aa Aa (Aq s1) ?_;intros;refine Ae ?_)
 refine Af (X:={k:Nat//k<=1}) (fun k=>⟨[(0,.str ⟨#[110]⟩),(3,.int .i64 (k.1:Int))],[]⟩) (fun k=>1-k.1) ⟨0,by omega⟩ (Sub.lit (by simp)) ?_;rintro⟨k,hk⟩
 match k,hk with
 | 0,_ =>
  have e1:=Gm_
  (refine Au (Aq e1) Aa (Aq s1) ?_;intros;refine Ae ?_)
  exact Ag.mk ⟨1,by omega⟩ (Sub.lit (by simp)) (by simp)
  skip
 | 1,_ =>
  exact Al Aa Aa (Aq s1)
def IZ_ : Ann:=⟨[],[]⟩
theorem FB_ : Ac prog 242 [.sl 1 16 [[.str ⟨#[110]⟩]],.fn (.func 243) [] []] (.bool true):=by
 refine Ab [] IZ_ func242 call242 ntmps242 mxd (Ap @IZ_.eq_1 results242) rfl (fun qJ B qX qQ=> ?_);clear qJ;simp only[Ak]
 (refine Au Aa Aa Aa ?_;intros;refine Ae ?_)
 refine Af (X:=Unit) (fun _=>⟨[(0,.sl 1 16 [[.str ⟨#[110]⟩]]),(5,.int .i64 1)],[]⟩) (fun _=>0) () (Sub.lit (by simp)) ?_;rintro⟨⟩;exact Al Aa Aa Aa
def IY_ : Ann:=⟨[],[]⟩
theorem xR : Ac prog 244 [.sl 3 48 [],.fn (.func 245) [] []] (.bool true):=by
 refine Ab [] IY_ func244 call244 ntmps244 mxd (Ap @IY_.eq_1 results244) rfl (fun qJ B qX qQ=> ?_);clear qJ;simp only[Ak]
 (refine Au Aa Aa Aa ?_;intros;refine Ae ?_)
 refine Af (X:=Unit) (fun _=>⟨[(0,.sl 3 48 []),(5,.int .i64 1)],[]⟩) (fun _=>0) () (Sub.lit (by simp)) ?_;rintro⟨⟩;exact Al Aa Aa Aa
def Gi_ (k:Nat):Ent:=⟨18,1,.map (if k=0 then []else [.str ⟨#[110]⟩]) (if k=0 then []else [.int .i64 1])⟩
def Jc_ : Ann:=⟨[],[⟨11,[7],[],[]⟩]⟩
theorem Pf_ : Ac prog 165 [.agg Cx] (.bool true):=by
 refine Ab [] Jc_ func165 call165 ntmps165 mxd (Ap @Jc_.eq_1 results165) rfl (fun qJ B qX qQ=> ?_);clear qJ;simp only[Ak];have e1:=FB_;have e2:=xR
 (refine Au (Ap e1 e2) Aa (Aq @Cx.eq_1) ?_;intros;refine Ae ?_)
 refine Af (X:={k:Nat//k<=1}) (fun k=>⟨[(1,.ref Cx),(3,.omp 18 1),(20,.sl 1 16 [[.str ⟨#[110]⟩]]),(21,.int .i64 1),(22,.int .i64 (k.1:Int))],[Gi_ k.1]⟩) (fun k=>1-k.1) ⟨0,by omega⟩ (Sub.lit (by simp[Gi_,Cx])) ?_;rintro⟨k,hk⟩
 match k,hk with
 | 0,_ =>
  (refine Au Aa Aa (Ap @Gi_.eq_1 @Cx.eq_1) ?_;intros;refine Ae ?_)
  exact Ag.mk ⟨1,by omega⟩ (Sub.lit (by simp[Gi_,Cx])) (by simp)
  skip
 | 1,_ =>
  (refine Au Aa Aa (Ap @Gi_.eq_1 @Cx.eq_1) ?_;intros;refine Ae ?_)
  refine Af (X:=Unit) (fun _=>⟨[(33,.sl 3 48 []),(34,.int .i64 0),(35,.int .i64 0)],[Gi_ 1]⟩) (fun _=>0) () (Sub.lit (by simp[Gi_])) ?_;rintro⟨⟩;exact Al Aa Aa Aa
def Jb_ : Ann:=⟨[],[⟨9,[6],[],[]⟩]⟩
theorem Li_ : Ac prog 166 [.agg Cx] (.bool true):=by
 refine Ab [] Jb_ func166 call166 ntmps166 mxd (Ap @Jb_.eq_1 results166) rfl (fun qJ B qX qQ=> ?_);clear qJ;simp only[Ak]
 (refine Au Aa Aa (Aq @Cx.eq_1) ?_;intros;refine Ae ?_)
 refine Af (X:={k:Nat//k<=1}) (fun k=>⟨[(1,.ref Cx),(8,.sl 1 16 [[.str ⟨#[110]⟩]]),(9,.int .i64 1),(10,.int .i64 (k.1:Int))],[]⟩) (fun k=>1-k.1) ⟨0,by omega⟩ (Sub.lit (by simp[Cx])) ?_;rintro⟨k,hk⟩
 match k,hk with
 | 0,_ =>
  have e1:=Ol_
  (refine Au (Aq e1) Aa (Aq @Cx.eq_1) ?_;intros;refine Ae ?_)
  exact Ag.mk ⟨1,by omega⟩ (Sub.lit (by simp[Cx])) (by simp)
  skip
 | 1,_ =>
  (refine Au Aa Aa (Aq @Cx.eq_1) ?_;intros;refine Ae ?_)
  refine Af (X:=Unit) (fun _=>⟨[(19,.sl 3 48 []),(20,.int .i64 0),(21,.int .i64 0)],[]⟩) (fun _=>0) () (Sub.lit (by simp)) ?_;rintro⟨⟩;exact Al Aa Aa Aa
def IU_ : Ann:=⟨[],[]⟩
theorem oN : AS prog (.func 311) [.osl 0 0] [⟨0,0,.row 9 1 16 []⟩] (.sl 1 16 []) []:=by
 refine Gi [0] [] func311 rfl call311 (by simp[ntmps311]) (by simp) (by simp) ?_;intro qJ rL B qX;have qQ:=ZO IU_ mxd (Ap @IU_.eq_1 results311);simp only[Ak];exact Al Aa Aa Aa
def IW_ : Ann:=⟨[20,22],[⟨5,[6],[],[]⟩]⟩
theorem Go_ : Ac prog 248 [.agg Cx] (.sl 1 16 []):=by
 refine Ab [] IW_ func248 call248 ntmps248 mxd (Ap @IW_.eq_1 results248) rfl (fun qJ B qX qQ=> ?_);clear qJ;simp only[Ak]
 (refine Au Aa Aa (Aq @Cx.eq_1) ?_;intros;refine Ae ?_)
 refine BT 3 0 50 9 1 16 (by simp) (fun n=> ?_);refine Af (X:=Unit) (fun _=>⟨[(3,.bx 3 1 0),(9,.sl 3 48 []),(10,.int .i64 0),(11,.int .i64 0)],[⟨3,1,.box [.osl 50 1]⟩,⟨50,1,.row 9 1 16 []⟩]⟩) (fun _=>0) () (Sub.lit (by simp)) ?_;rintro⟨⟩;have e1:=Mc [];have e2:=oN;have e3:=MW [];have hs0:Ep []=[]:=bP0 (by rw[HV];rfl);simp only[hs0,AJ,List.map_nil]at e1 e3;exact Al (Aq e3) (Ap (DF [(50,0)] [] e1) (DF [(50,0)] [] e2)) Aa
def IT_ : Ann:=⟨[],[⟨4,[5],[],[]⟩]⟩
theorem OG_ : Ac prog 312 [.agg Cx] (.sl 1 16 [[.str ⟨#[110]⟩]]):=by
 refine Ab [6] IT_ func312 call312 ntmps312 mxd (Ap @IT_.eq_1 results312) rfl (fun qJ B qX qQ=> ?_);clear qJ;simp only[Ak]
 (refine Au Aa Aa (Aq @Cx.eq_1) ?_;intros;refine Ae ?_)
 refine Af (X:=Unit) (fun _=>⟨[(1,.ref Cx),(3,.omp 9 1),(11,.sl 3 48 []),(12,.int .i64 0),(13,.int .i64 0)],[⟨9,1,.map [] []⟩]⟩) (fun _=>0) () (Sub.lit (by simp[Cx])) ?_;rintro⟨⟩
 (refine Au Aa Aa (Aq @Cx.eq_1) ?_;intros;refine Ae ?_)
 refine Bk 6 6 9 1 16 (by simp[qX]) (fun n6=> ?_);refine Af (X:={k:Nat//k<=1}) (fun k=>⟨[(3,.omp 9 1),(6,.osl 6 1),(29,.sl 1 16 [[.str ⟨#[110]⟩]]),(30,.int .i64 1),(31,.int .i64 (k.1:Int))],[⟨9,1,.map [] []⟩,⟨6,1,.row 9 1 16 (if k.1=0 then []else [[.str ⟨#[110]⟩]])⟩]⟩) (fun k=>1-k.1) ⟨0,by omega⟩ (Sub.lit (by simp)) ?_;rintro⟨k,hk⟩
 match k,hk with
 | 0,_ =>
  (refine Au Aa Aa Aa ?_;intros;refine Ae ?_)
  exact Ag.mk ⟨1,by omega⟩ (Sub.lit (by simp)) (by simp)
  skip
 | 1,_ =>
  exact Al Aa Aa Aa
def Nm_ : ByteArray:=⟨#[110]⟩++⟨#[32,59,10]⟩
def BW_ (k:Nat):List Ent:=if k=0 then [⟨3,1,.row 338 2 32 [[.nilp,.nilsl]]⟩]else [⟨3,1,.row 338 2 32 [[.rx 3 1 2 0 0,.osl 50 1]]⟩,⟨50,1,.row 5 1 1 (Bh Nm_)⟩]
def Uf : Ann:=⟨[17,37,39],[⟨1,[3],[],[]⟩,⟨9,[7],[],[]⟩]⟩
theorem Nh_ : Ac prog 249 [.agg Cx] (.str Nm_):=by
 refine Ab [] Uf func249 call249 ntmps249 mxd (Ap @Uf.eq_1 results249) rfl (fun qJ B qX qQ=> ?_);clear qJ;simp only[Ak];have h1:=OG_;have e0:(⟨#[]⟩:ByteArray).size<=maxLen:=cV0 _;have m3:3<=maxLen:=by unfold maxLen;omega
 have m1:1<=maxLen:=by unfold maxLen;omega
 have q1:(⟨#[110]⟩:ByteArray).size+3<=maxLen:=by unfold maxLen;decide
 refine AI fun K0 hK0=> ?_
 (first | refine AI fun K hK=> ?_ | (refine BR Uf mxd (by kernel_rfl) ?_;simp[Uf,qX,Cx,e0];try simp (disch:=omega) only[Ao]) | refine Aw ?_ | (refine Bb ?_ ?_ ?_;(· (simp[qX,Cx,e0];done));(try (rotate_left;(· (intro hc;(try simp[qX,Cx,e0]at hc);done))))) | (refine AK ?_;simp[results249,qX,Cx,e0]) | ((first | refine AD ?_ | refine AC ?_);simp[qX,Cx,e0]) | (intro hc;(try simp[qX,Cx,e0]at hc);(try (exfalso;omega))) | (refine⟨?_,?_⟩; · omega) | omega | apply_assumption -exfalso -symm | (exfalso;omega))
 apply hK0
 refine AI fun K1 hK1=> ?_
 refine KT (bs:=32) (k:=2) (z:=[.nilp,.nilsl]) (by simp[qX,ntmps249]) (by simp) (by rfl) rfl (by decide) (fun r hr=> ?_);simp
 apply hK1
 (refine Au (Aq h1) Aa (Ap @Cx.eq_1 e0) ?_;intros;refine Ae ?_)
 refine Af (X:={k:Nat//k<=1}) (fun k=>⟨[(1,.ref Cx),(3,.rx 3 1 2 0 0),(9,.sl 1 16 [[.str ⟨#[110]⟩]]),(10,.int .i64 1),(11,.int .i64 (k.1:Int))],BW_ k.1⟩) (fun k=>1-k.1) ⟨0,by omega⟩ (Sub.lit (by simp[Cx,BW_])) ?_;rintro⟨k,hk⟩
 match k,hk with
 | 0,_ =>
  have e1:=DU (⟨#[110]⟩++⟨#[32,59,10]⟩) (by decide)
  (refine Au Aa (Aq (DF [(3,0)] [(50,1)] e1)) (Ji @BW_.eq_1 @Cx.eq_1 q1 @LA @Pt @aO0 m3 m1) ?_;intros;refine Ae ?_)
  exact Ag.mk ⟨1,by omega⟩ (Sub.lit (by simp[BW_,Cx,Nm_])) (by simp)
  skip
 | 1,_ =>
  (refine Au Aa Aa (Ap @BW_.eq_1 @Cx.eq_1) ?_;intros;refine Ae ?_)
  refine Af (X:=Unit) (fun _=>⟨[(3,.rx 3 1 2 0 0),(20,.sl 3 48 []),(21,.int .i64 0),(22,.int .i64 0)],BW_ 1⟩) (fun _=>0) () (Sub.lit (by simp[BW_])) ?_;rintro⟨⟩;have e1:=DV Nm_ (by decide);exact Al Aa (Aq (DF [(3,0),(50,1)] [] e1)) (Aq @BW_.eq_1)
def Ja_ : Ann:=⟨[],[]⟩
theorem PH_ : Ac prog 167 [.agg Cx] (.int .i64 0):=by
 refine Ab [] Ja_ func167 call167 ntmps167 mxd (Ap @Ja_.eq_1 results167) rfl (fun qJ B qX qQ=> ?_);clear qJ;simp only[Ak];have h1:=Go_;have h2:=Nh_;have hs:Nm_.size=4:=by decide
 exact Al (Ap h1 h2) Aa (Ap @Cx.eq_1 hs)
def Qc_ : Ann:=⟨[],[]⟩
theorem Mj_ : Ac prog 78 [.agg Cx] (.int .i64 0):=by
 refine Ab [] Qc_ func78 call78 ntmps78 mxd (Ap @Qc_.eq_1 results78) rfl (fun qJ B qX qQ=> ?_);clear qJ;simp only[Ak];have h1:=Pf_;have h2:=Li_;have h3:=PH_;exact Al (BC h1 h2 h3) Aa (Aq @Cx.eq_1)
def Qa_ : Ann:=⟨[],[]⟩
theorem MY_ : Ac prog 87 [.ref Cx] (.int .i64 0):=by
 refine Ab [] Qa_ func87 call87 ntmps87 mxd (Ap @Qa_.eq_1 results87) rfl (fun qJ B qX qQ=> ?_);clear qJ;simp only[Ak];have h:=Mj_;exact Al (Aq h) Aa (Aq @Cx.eq_1)
def Qb_ : Ann:=⟨[],[⟨5,[12],[],[]⟩]⟩
theorem Gs_ : Ac prog 83 [.agg Cx,.str ⟨#[110]⟩,.str ⟨#[110]⟩,.sl 3 48 []] (.bool true):=by
 refine Ab [] Qb_ func83 call83 ntmps83 mxd (Ap @Qb_.eq_1 results83) rfl (fun qJ B qX qQ=> ?_);clear qJ;simp only[Ak]
 (refine Au Aa Aa (Aq @Cx.eq_1) ?_;intros;refine Ae ?_)
 refine ES_ ?_
 (refine Au Aa Aa (Aq @Cx.eq_1) ?_;intros;refine Ae ?_)
 refine ET_ ?_;simp
 (refine Au Aa Aa (Aq @Cx.eq_1) ?_;intros;refine Ae ?_)
 refine Af (X:=Unit) (fun _=>⟨[(2,.str ⟨#[110]⟩),(9,.str ⟨#[110]⟩),(10,.bool true),(14,.sl 3 48 []),(15,.int .i64 0),(16,.int .i64 0)],[]⟩) (fun _=>0) () (Sub.lit (by simp[Cx])) ?_;rintro⟨⟩;exact Al Aa Aa (Aq @Cx.eq_1)
def PZ_ : Ann:=⟨[],[]⟩
theorem MX_ : Ac prog 90 [.ref Cx,.ref [.str ⟨#[110]⟩],.ref [.str ⟨#[110]⟩],.ref [.sl 3 48 []]] (.int .i64 0):=by
 refine Ab [] PZ_ func90 call90 ntmps90 mxd (Ap @PZ_.eq_1 results90) rfl (fun qJ B qX qQ=> ?_);clear qJ;simp only[Ak];have h:=Gs_;have h2:=Dt false 370;simp only[aK0,if_false]at h2;exact Al (Ap h h2) Aa (Aq @Cx.eq_1)
def Qd_ : Ann:=⟨[],[]⟩
theorem HG_ (b:ByteArray) (R:Int) (h2:FF TV_ ⟨#[110]⟩ b=R) (h4:R=0->b=⟨#[110]⟩):Ac prog 27 [.agg Cx,.str ⟨#[110]⟩,.str b,.sl 3 48 []] (.int .i64 R):=by
 refine Ab [] Qd_ func27 call27 ntmps27 mxd (Ap @Qd_.eq_1 results27) rfl (fun qJ B qX qQ=> ?_);clear qJ;simp only[Ak];have w2:=Kn_ TV_ ⟨#[110]⟩ b;rw[h2]at w2;have w3:Ac prog 89 [.ref [.sl 3 48 []]] (.int .i64 0):=Km_ [];have h:=Bq_ 87 88 89 90 [.ref Cx] [.ref Cx,.ref [.str ⟨#[110]⟩],.ref [.str b]] [.ref [.sl 3 48 []]] [.ref Cx,.ref [.str ⟨#[110]⟩],.ref [.str b],.ref [.sl 3 48 []]] _ _ _ _ MY_ (fun _=>w2) (fun _ _=>w3) (fun _ hR _=>by rw[h4 hR];exact MX_)
 simp only[if_true]at h;have hI:(if R=0 then (0:Int)else R)=R:=by split<;>simp_all
 rw[hI]at h;have hr4:(([0,1,2,3]:List Nat)=List.range 4)=True:=eq_true rfl;exact Al (Aq h) Aa (Ap @Cx.eq_1 hr4)
def Qe_ : Ann:=⟨[],[⟨1,[1],[],[]⟩]⟩
theorem GA_ : Ac prog 22 [] (.bool true):=by
 refine Ab [] Qe_ func22 call22 ntmps22 mxd (Ap @Qe_.eq_1 results22) rfl (fun qJ B qX qQ=> ?_);clear qJ;simp only[Ak];have k1:Ac prog 27 [.agg [.sl 1 16 [[.str ⟨#[110]⟩]],.sl 3 48 []],.str ⟨#[110]⟩,.str ⟨#[109]⟩,.sl 3 48 []] (.int .i64 4):=HG_ _ 4 rfl (fun h=>absurd h (by decide));have k2:Ac prog 27 [.agg [.sl 1 16 [[.str ⟨#[110]⟩]],.sl 3 48 []],.str ⟨#[110]⟩,.str ⟨#[110]⟩,.sl 3 48 []] (.int .i64 0):=HG_ _ 0 rfl (fun _=>rfl)
 have h3:=FC_;have m1:1<=maxLen:=by unfold maxLen;omega
 have s1:(⟨#[110]⟩:ByteArray).size=1:=rfl;have s2:(⟨#[109]⟩:ByteArray).size=1:=rfl;have dB:(([0]:List Nat)=List.range 1)=True:=eq_true rfl;exact Al (BC k1 k2 h3) Aa (CG m1 s1 s2 dB)
end Go.Proofs.Wy
end
section
namespace Go.Proofs.Wy
open Go Go.Dm Tryz
attribute [local irreducible] DW Bs Bv
set_option maxRecDepth 100000
theorem uL {gt:GT} (h:OkgT gt) {nt:ByteArray} (hn:nt∈Ay (Bd gt)) {w:Nat} (hw:w<=64):Yo (En gt).1 (Ht (Ay (Bd gt)) nt) w=0:=by
 obtain⟨x,e1,e2,e3,e4⟩:=Uq h (Qy h);have e5:En gt=(x,0):=e1;rw[e5];have h1:=ME hn;unfold Yo Ht Ey
 have e6:x.prods.any Eu=false:=by
  rw[cZ0];intro p hp;have:=e3 p hp;simpa[Eu]using this
 simp only[e2,e6,if_true,Bool.not_false,fB0];rw[if_pos hn,if_pos (by omega),if_pos hw]
end Go.Proofs.Wy
end
section
namespace Go.Proofs.Wy
open Go Go.Dm Tryz
variable [DMode]
structure Fct where
 nt:Int
 fr:Int
 to:Int
 deriving DecidableEq
inductive Dv (c:Cnf) (w:List Int):Fct->Prop
 | nil {p:Prod} {i:Nat}:p∈c.prods->p.body=[]->i<=w.length->Dv c w ⟨p.head,i,i⟩
 | one {p:Prod} {a:Sym} {i:Nat}:p∈c.prods->p.body=[a]->w[i]? =some a.n->Dv c w ⟨p.head,i,(i:Int)+1⟩
 | two {p:Prod} {a b:Sym} {i k j:Int}:p∈c.prods->p.body=[a,b]->Dv c w ⟨a.n,i,k⟩->Dv c w ⟨b.n,k,j⟩->Dv c w ⟨p.head,i,j⟩
def inF (c:Cnf) (w:List Int) (f:Fct):Prop:=0<=f.fr/\f.fr<=f.to/\f.to<=w.length/\∃p∈c.prods,p.head=f.nt
theorem Dv.inF {c:Cnf} {w:List Int} {f:Fct} (h:Dv c w f):inF c w f:=by
 induction h with
 | @nil p i hp hb hi=>exact⟨by simp only;omega,by simp only;omega,by simp only;omega,p,hp,rfl⟩
 | @one p a i hp hb hi =>
  have:=(aB0.1 hi).1;exact⟨by simp only;omega,by simp only;omega,by simp only;omega,p,hp,rfl⟩
 | @two p a b i k j hp hb h1 h2 ih1 ih2 =>
  obtain⟨a1,a2,a3,_⟩:=ih1;obtain⟨b1,b2,b3,_⟩:=ih2;simp only at a1 a2 a3 b1 b2 b3;exact⟨by simp only;omega,by simp only;omega,by simp only;omega,p,hp,rfl⟩
def Jj (r:List Fct) (f:Fct):List Fct:=if f∈r then r else r++[f]
theorem KS {r:List Fct} {f g:Fct}:g∈Jj r f↔g∈r\/g=f:=by
 unfold Jj
 split
 ·rename_i h;exact⟨.inl,fun hh=>hh.elim id fun e=>e▸h⟩
 ·rw[aI0,aG0]
theorem EM_ (r:List Fct) (f:Fct):r <+: Jj r f:=by
 unfold Jj
 split
 ·exact List.prefix_refl r
 ·exact List.prefix_append r _
theorem Kb_ {r:List Fct} (h:r.Nodup) (f:Fct):(Jj r f).Nodup:=by
 unfold Jj
 split
 ·exact h
 ·rename_i hf;exact cB0.2 ⟨h,by simp,by rintro a ha b hb rfl;simp at hb;subst hb;exact hf ha⟩
structure Grows (T:Fct->Prop) (F:List Fct->List Fct):Prop where
 pre:∀r,r <+: F r
 nd:∀r,r.Nodup->(F r).Nodup
 ok:∀r,(∀f∈r,T f)->∀f∈F r,T f
theorem Grows.id {T:Fct->Prop}:Grows T fun r=>r:=⟨fun r=>List.prefix_refl r,fun _ h=>h,fun _ h=>h⟩
theorem Grows.comp {T:Fct->Prop} {F G:List Fct->List Fct} (hF:Grows T F) (hG:Grows T G):Grows T fun r=>G (F r) :=
 ⟨fun r=>(hF.pre r).trans (hG.pre _),fun r h=>hG.nd _ (hF.nd r h),fun r h=>hG.ok _ (hF.ok r h)⟩
theorem Grows.fold {T:Fct->Prop} {α:Type} {F:List Fct->α->List Fct}:∀{l:List α},(∀x∈l,Grows T fun r=>F r x)->Grows T fun r=>l.foldl F r
 | [],_=>Grows.id
 | x::l,h=>by
  have h1:=h x aF0;have h2:Grows T fun r=>l.foldl F r:=Grows.fold fun y hy=>h y (aE0 _ hy)
  exact Grows.comp h1 h2
theorem Grows.add {T:Fct->Prop} {f:Fct} (h:T f):Grows T fun r=>Jj r f :=
 ⟨fun r=>EM_ r f,fun r hr=>Kb_ hr f,fun r hr g hg=>(KS.1 hg).elim (hr g) fun e=>e▸h⟩
theorem Kq {T:Fct->Prop} {α:Type} {F:List Fct->α->List Fct} {g f:Fct} {x:α}:∀{l:List α},(∀x∈l,Grows T fun r=>F r x)->x∈l->(∀r,g∈r->f∈F r x)->∀r,g∈r->f∈l.foldl F r
 | y::l,h,hx,hs,r,hg=>by
  have h1:=h y aF0;have h2:Grows T fun r=>l.foldl F r:=Grows.fold fun z hz=>h z (aE0 _ hz)
  rw[cM0]
  rcases aL0.1 hx with rfl | hx
  ·exact(h2.pre _).subset (hs r hg)
  ·exact Kq (fun z hz=>h z (aE0 _ hz)) hx hs _ ((h1.pre r).subset hg)
theorem IJ {T:Fct->Prop} {α:Type} {F:List Fct->α->List Fct} {f:Fct} {x:α}:∀{l:List α},(∀x∈l,Grows T fun r=>F r x)->x∈l->(∀r,f∈F r x)->∀r,f∈l.foldl F r
 | y::l,h,hx,hs,r=>by
  have h2:Grows T fun r=>l.foldl F r:=Grows.fold fun z hz=>h z (aE0 _ hz)
  rw[cM0]
  rcases aL0.1 hx with rfl | hx
  ·exact(h2.pre _).subset (hs r)
  ·exact IJ (fun z hz=>h z (aE0 _ hz)) hx hs _
def Se (w:List Int) (r:List Fct) (p:Prod):List Fct :=
 match p.body with
 | []=>(List.range (w.length+1)).foldl (fun r (i:Nat)=>Jj r ⟨p.head,i,i⟩) r
 | [a]=>(List.range w.length).foldl (fun r (i:Nat)=>if w[i]? =some a.n then Jj r ⟨p.head,i,(i:Int)+1⟩else r) r
 | _=>r
def Hi_ (c:Cnf) (w:List Int):List Fct:=c.prods.foldl (Se w) []
theorem Pa {c:Cnf} {w:List Int} {p:Prod} (hp:p∈c.prods):Grows (Dv c w) fun r=>Se w r p:=by
 unfold Se
 split
 ·rename_i hb;exact Grows.fold fun i hi=>Grows.add (Dv.nil hp hb (by have:=cP0.1 hi;omega))
 ·rename_i a hb;refine Grows.fold fun i _=> ?_
  by_cases hc:w[i]? =some a.n
  ·simp only[hc,if_true];exact Grows.add (Dv.one hp hb hc)
  ·simp only[hc,if_false];exact Grows.id
 ·exact Grows.id
def lM (w:List Int) (p:Prod) (a b:Sym) (f:Fct) (r:List Fct):List Fct :=
 if a.n=f.nt then (List.range (w.length+1-f.to.toNat)).foldl (fun r (k:Nat)=>if (⟨b.n,f.to,f.to+k⟩:Fct)∈r then Jj r ⟨p.head,f.fr,f.to+k⟩else r) r else r
def RI (p:Prod) (a b:Sym) (f:Fct) (r:List Fct):List Fct :=
 if b.n=f.nt then (List.range (f.fr.toNat+1)).foldl (fun r (k:Nat)=>if (⟨a.n,k,f.fr⟩:Fct)∈r then Jj r ⟨p.head,k,f.to⟩else r) r else r
def jnP (w:List Int) (f:Fct) (r:List Fct) (p:Prod):List Fct :=
 match p.body with
 | [a,b]=>RI p a b f (lM w p a b f r)
 | _=>r
def jnF (c:Cnf) (w:List Int) (f:Fct) (r:List Fct):List Fct:=c.prods.foldl (jnP w f) r
theorem Grows.cond {T:Fct->Prop} {g f:Fct} (h:T g->T f):Grows T fun r=>if g∈r then Jj r f else r:=by
 refine⟨fun r=> ?_,fun r hr=> ?_,fun r hr x hx=> ?_⟩
 ·split
  ·exact EM_ r f
  ·exact List.prefix_refl r
 ·split
  ·exact Kb_ hr f
  ·exact hr
 ·split at hx
  ·rename_i hg;exact(KS.1 hx).elim (hr x) fun e=>e▸h (hr g hg)
  ·exact hr x hx
theorem VK {c:Cnf} {w:List Int} {p:Prod} {a b:Sym} (hp:p∈c.prods) (hb:p.body=[a,b]) {f:Fct} (hf:Dv c w f):Grows (Dv c w) fun r=>lM w p a b f r:=by
 unfold lM
 by_cases h:a.n=f.nt
 ·simp only[h,if_true];refine Grows.fold fun k _=>Grows.cond fun hg=> ?_
  exact Dv.two hp hb (by rw[h];exact hf) hg
 ·simp only[h,if_false];exact Grows.id
theorem VJ {c:Cnf} {w:List Int} {p:Prod} {a b:Sym} (hp:p∈c.prods) (hb:p.body=[a,b]) {f:Fct} (hf:Dv c w f):Grows (Dv c w) fun r=>RI p a b f r:=by
 unfold RI
 by_cases h:b.n=f.nt
 ·simp only[h,if_true];refine Grows.fold fun k _=>Grows.cond fun hg=> ?_
  exact Dv.two hp hb hg (by rw[h];exact hf)
 ·simp only[h,if_false];exact Grows.id
theorem Nz {c:Cnf} {w:List Int} {p:Prod} (hp:p∈c.prods) {f:Fct} (hf:Dv c w f):Grows (Dv c w) fun r=>jnP w f r p:=by
 unfold jnP
 split
 ·rename_i a b hb;exact Grows.comp (VK hp hb hf) (VJ hp hb hf)
 ·exact Grows.id
theorem RJ {c:Cnf} {w:List Int} {f:Fct} (hf:Dv c w f):Grows (Dv c w) fun r=>jnF c w f r:=Grows.fold fun _ hp=>Nz hp hf
theorem Nw {T:Fct->Prop} {F:List Fct->List Fct} (h:Grows T F) {r:List Fct} {f:Fct} (hf:f∈r):f∈F r:=(h.pre r).subset hf
theorem LB_ {c:Cnf} {w:List Int} {p:Prod} {a b:Sym} (hp:p∈c.prods) (hb:p.body=[a,b]) {i k j:Int} (hf:Dv c w ⟨a.n,i,k⟩) (hg:Dv c w ⟨b.n,k,j⟩):∀r,(⟨b.n,k,j⟩:Fct)∈r->(⟨p.head,i,j⟩:Fct)∈jnF c w ⟨a.n,i,k⟩ r:=by
 obtain⟨g1,g2,g3,_⟩:=hg.inF;simp only at g1 g2 g3;refine Kq (T:=Dv c w) (x:=p) (fun x hx=>Nz hx hf) hp fun r hr=> ?_
 unfold jnP;rw[hb];simp only;refine Nw (VJ hp hb hf) ?_;unfold lM;simp only[if_true];have hk:(j-k).toNat∈List.range (w.length+1-k.toNat):=cP0.2 (by omega);refine Kq (T:=Dv c w) (g:=⟨b.n,k,j⟩) (x:=(j-k).toNat) (fun m _=>Grows.cond fun hh=>Dv.two hp hb hf hh) hk (fun r hr=> ?_) r hr;have he:k+((j-k).toNat:Int)=j:=by omega
 simp only[he];rw[if_pos hr];exact KS.2 (.inr rfl)
theorem Gt_ {c:Cnf} {w:List Int} {p:Prod} {a b:Sym} (hp:p∈c.prods) (hb:p.body=[a,b]) {i k j:Int} (hf:Dv c w ⟨a.n,i,k⟩) (hg:Dv c w ⟨b.n,k,j⟩):∀r,(⟨a.n,i,k⟩:Fct)∈r->(⟨p.head,i,j⟩:Fct)∈jnF c w ⟨b.n,k,j⟩ r:=by
 obtain⟨g1,g2,g3,_⟩:=hf.inF;simp only at g1 g2 g3;refine Kq (T:=Dv c w) (x:=p) (fun x hx=>Nz hx hg) hp fun r hr=> ?_
 unfold jnP;rw[hb];simp only;have h1:=Nw (VK hp hb hg) hr;unfold RI;simp only[if_true];have hk:i.toNat∈List.range (k.toNat+1):=cP0.2 (by omega);refine Kq (T:=Dv c w) (g:=⟨a.n,i,k⟩) (x:=i.toNat) (fun m _=>Grows.cond fun hh=>Dv.two hp hb hh hg) hk (fun r hr=> ?_) _ h1;have he:((i.toNat:Nat):Int)=i:=by omega
 simp only[he];rw[if_pos hr];exact KS.2 (.inr rfl)
def XH (c:Cnf) (w:List Int):Nat->Nat->List Fct->List Fct
 | 0,_,r=>r
 | n+1,k,r=>match r[k]? with
  | some f=>XH c w n (k+1) (jnF c w f r)
  | none=>r
structure RowI (c:Cnf) (w:List Int) (k:Nat) (r:List Fct):Prop where
 nd:r.Nodup
 ok:∀f∈r,Dv c w f
 bg:∀f∈Hi_ c w,f∈r
 jn:∀(p:Prod) (a b:Sym) (i m j:Int) (x y:Nat),p∈c.prods->p.body=[a,b]->x<k->y<k->r[x]? =some ⟨a.n,i,m⟩->r[y]? =some ⟨b.n,m,j⟩->(⟨p.head,i,j⟩:Fct)∈r
theorem Sz_ {α:Type} {r q:List α} (h:r <+: q) {x:Nat} (hx:x<r.length):q[x]? =r[x]? :=by
 obtain⟨t,rfl⟩:=h;exact bC0 hx
theorem xM {c:Cnf} {w:List Int} {k:Nat} {r:List Fct} (I:RowI c w k r) {f:Fct} (hf:r[k]? =some f):RowI c w (k+1) (jnF c w f r):=by
 have tU:=bI0 hf;have hd:=I.ok f tU;have hG:=RJ hd;have hk:=(aB0.1 hf).1;refine⟨hG.nd r I.nd,hG.ok r I.ok,fun g hg=>Nw hG (I.bg g hg),?_⟩;intro p a b i m j x y hp hb hx hy h1 h2;rw[Sz_ (hG.pre r) (by omega)]at h1 h2;have d1:=I.ok _ (bI0 h1);have d2:=I.ok _ (bI0 h2)
 by_cases gF:x=k
 ·subst gF;rw[hf]at h1;rw[Option.some.inj h1]at hd |-;exact LB_ hp hb d1 d2 r (bI0 h2)
 ·by_cases bF:y=k
  ·subst bF;rw[hf]at h2;rw[Option.some.inj h2]at hd |-;exact Gt_ hp hb d1 d2 r (bI0 h1)
  ·exact Nw hG (I.jn p a b i m j x y hp hb (by omega) (by omega) h1 h2)
theorem YG (c:Cnf) (w:List Int):RowI c w 0 (Hi_ c w):=by
 have hG:Grows (Dv c w) fun r=>c.prods.foldl (Se w) r:=Grows.fold fun _ hp=>Pa hp
 exact⟨hG.nd [] (by simp),hG.ok [] (by simp),fun _ h=>h,fun _ _ _ _ _ _ x _ _ _ hx=>absurd hx (eV0 _)⟩
theorem QO_ {c:Cnf} {w:List Int} {r:List Fct} (I:RowI c w r.length r) (f:Fct):f∈r↔Dv c w f:=by
 refine⟨I.ok f,fun h=> ?_⟩;have hG:∀p∈c.prods,Grows (Dv c w) fun r=>Se w r p:=fun _ hp=>Pa hp
 induction h with
 | @nil p i hp hb hi =>
  refine I.bg _ (IJ (T:=Dv c w) (x:=p) hG hp (fun r=> ?_) []);unfold Se;rw[hb];exact IJ (T:=Dv c w) (x:=i) (fun k hk=>Grows.add (Dv.nil hp hb (by have:=cP0.1 hk;omega))) (cP0.2 (by omega)) (fun r=>KS.2 (.inr rfl)) r
 | @one p a i hp hb hi =>
  refine I.bg _ (IJ (T:=Dv c w) (x:=p) hG hp (fun r=> ?_) []);unfold Se;rw[hb];have jU:=(aB0.1 hi).1;refine IJ (T:=Dv c w) (x:=i) (fun k _=> ?_) (cP0.2 jU) (fun r=> ?_) r
  ·by_cases hc:w[k]? =some a.n
   ·simp only[hc,if_true];exact Grows.add (Dv.one hp hb hc)
   ·simp only[hc,if_false];exact Grows.id
  ·simp only[hi,if_true];exact KS.2 (.inr rfl)
 | @two p a b i k j hp hb h1 h2 ih1 ih2 =>
  obtain⟨x,hx,e1⟩:=bJ0 ih1;obtain⟨y,hy,e2⟩:=bJ0 ih2;exact I.jn p a b i k j x y hp hb hx hy (by rw[aD0 hx,e1]) (by rw[aD0 hy,e2])
end Go.Proofs.Wy
end
section
namespace Go.Proofs.Wy
open Go Go.Dm Tryz
attribute [local irreducible] DW Bs Bv
set_option maxRecDepth 100000
def BN (f:Fct):List DVal:=[.int .i64 f.nt,.int .i64 f.fr,.int .i64 f.to]
def Je (f:Fct):DVal:= .agg (BN f)
@[simp] theorem Rn_ (f:Fct):AV (BN f)=0:=by simp[BN,AV,mx]
@[simp] theorem TF_ (l:List Fct):BK (l.map BN)=0:=Jb _ Rn_ l
@[simp] theorem TL_ (l:List Fct):AV (l.map Je)=0:=by induction l<;>simp_all [AV,mx,Je]
theorem Iv_ (f g:Fct):Ek (BY (Je f)) (BY (Je g))=decide (f=g):=by
 obtain⟨a,b,c⟩:=f;obtain⟨a',b',c'⟩:=g;simp[Je,BN,BY,Ek,eqC];rfl
theorem Lh : ∀{r:List Fct} {f:Fct},¬f∈r->AZ (r.map Je) (Je f)=none
 | [],_,_=>rfl
 | x::r,f,h=>by
  rw[List.map_cons,AZ,Iv_,decide_eq_false (fun e=>h (by rw[e];exact aF0)),Lh (r:=r) fun hm=>h (aE0 _ hm)];simp
theorem OP : ∀{r:List Fct} {f:Fct},f∈r->∃i,i<r.length/\AZ (r.map Je) (Je f)=some i
 | x::r,f,h=>by
  rw[List.map_cons,AZ,Iv_]
  by_cases he:f=x
  ·rw[decide_eq_true he];exact⟨0,by simp,rfl⟩
  ·obtain⟨i,h1,h2⟩:=OP ((aL0.1 h).resolve_left he);rw[decide_eq_false he,h2];exact⟨i+1,by simp;omega,rfl⟩
theorem lK (r:List Fct):(r.map Je).all (CS prog 140)=true:=by
 induction r with
 | nil=>rfl
 | cons p r ih=>rw[List.map_cons,cX0,ih];simp[Je,BN]
def EK (v:Nat) (c:Cnf) (w:List Int) (r:List Fct):List Ent:=[⟨0,0,.box [.int .i64 c.nts,Bq c.prods,BD w,.omp 2 0,.osl 1 v]⟩,⟨1,v,.row 140 3 24 (r.map BN)⟩,⟨2,0,.map (r.map Je) (FN r.length)⟩]
def JB_ : Ann:=⟨[],[]⟩
theorem Qb (c:Cnf) (w:List Int) (r:List Fct) (f:Fct):AS prog (.func 98) [.bx 0 0 0,.agg (BN f)] (EK 0 c w r) (.bool (decide (f∈r))) (EK 0 c w r):=by
 refine Bi [] [(0,0,0),(1,1,0),(2,2,0)] JB_ func98 call98 ntmps98 mxd (Ap @JB_.eq_1 results98) rfl (fun qJ B qX qQ=> ?_) (hv:=(by simp[EK]));simp only[Ak];have qL:=lK r;have hko:CS prog 140 (Je f)=true:=by simp[Je,BN]
 by_cases h:f∈r
 ·obtain⟨i,h1,h2⟩:=OP h;have h3:=TD h1;simp only[Je,BN]at h2 qL;rw[decide_eq_true h];exact Al Aa Aa (Dx @EK.eq_1 @BN.eq_1 qL h2 h3)
 ·have h2:=Lh h;simp only[Je,BN]at h2 qL;rw[decide_eq_false h];exact Al Aa Aa (CG @EK.eq_1 @BN.eq_1 qL h2)
def Ee_ : Ann:=⟨[6,25],[⟨3,[],[0],[]⟩]⟩
theorem KR (c:Cnf) (w:List Int) (r:List Fct) (f:Fct) (hb:(r.length+1)*24<=150000000000000):AS prog (.func 260) [.bx 0 0 0,.agg (BN f)] (EK 0 c w r) (.tup []) (EK 1 c w (Jj r f)):=by
 refine Bi [] [(0,0,0),(1,1,1),(2,2,0)] Ee_ func260 call260 ntmps260 mxd (Ap @Ee_.eq_1 results260) rfl (fun qJ B qX qQ=> ?_) (hv:=(by simp[EK]));simp only[Ak];have e1:=Qb c w r f;have qL:=lK r;unfold Jj
 by_cases h:f∈r
 ·rw[if_pos h];rw[decide_eq_true h]at e1;simp only[BN]at e1;exact Al Aa (Aq (DF [(0,0),(1,1),(2,2)] [] e1)) (Ap @EK.eq_1 @BN.eq_1)
 ·rw[if_neg h];rw[decide_eq_false h]at e1;have h2:=Lh h;have hu:=Ri r.length;simp only[Je,BN]at h2 qL;simp only[BN]at e1;have hz:r.length+1<=9223372036854775807:=by omega
  (refine Au Aa (Aq (DF [(0,0),(1,1),(2,2)] [] e1)) (EB @EK.eq_1 @BN.eq_1 qL h2 hb hz) ?_;intros;refine Ae ?_)
  exact⟨rfl,hu.symm⟩
end Go.Proofs.Wy
end
