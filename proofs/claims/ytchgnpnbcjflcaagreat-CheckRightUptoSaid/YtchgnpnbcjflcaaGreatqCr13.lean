/- Parts of a proof, laid together: CK6, CW2, CW3, CW4, CK7, CW5, CW6, CW7, CT2, CT3, EnU, PB, PU, PZ. -/
import Derived.SizedLaws
import Derived.ProofKit
import Derived.OpenShut
import Derived.Carry
import Derived.Test.YtchgnpnbcjflcaaGreatRows
import Derived.Test.YtchgnpnbcjflcaaGreatqCr4
import Derived.Test.YtchgnpnbcjflcaaGreatqCr5
import Derived.Test.YtchgnpnbcjflcaaGreatqCr6
import Derived.Test.YtchgnpnbcjflcaaGreatqCr7
import Derived.Test.YtchgnpnbcjflcaaGreatqCr12
set_option linter.unusedSimpArgs false
set_option maxHeartbeats 8000000
set_option linter.unusedVariables false
set_option linter.unusedSectionVars false
section
namespace Go.Proofs.Wy
open Go Go.Dm Tryz
variable [DMode]
def Pb (n nt i j:Nat):Nat:=(nt*n+i)*n+j
theorem Xf {n N nt i j:Nat} (h1:nt<N) (h2:i<n) (h3:j<n):Pb n nt i j<N*n*n:=by
 unfold Pb
 have e1:nt*n+i+1<=N*n:=by
  have:(nt+1)*n<=N*n:=aQ0 n h1;rw[Nat.succ_mul]at this;omega
 have e2:(nt*n+i+1)*n<=N*n*n:=aQ0 n e1;rw[Nat.succ_mul]at e2;omega
theorem IP_ {n nt i j nt' i' j':Nat} (h2:i<n) (h3:j<n) (yU:i'<n) (h3':j'<n) (h:Pb n nt i j=Pb n nt' i' j'):nt=nt'/\i=i'/\j=j':=by
 have hn:0<n:=by omega
 unfold Pb at h;have a1:=congrArg (· %n) h;have a2:=congrArg (· /n) h;simp only[eB0 _ n,Nat.mul_add_mod]at a1;rw[eR0 h3,eR0 h3']at a1;subst a1
 have b:nt*n+i=nt'*n+i':=by
  have:(nt*n+i)*n=(nt'*n+i')*n:=by omega
  exact Nat.eq_of_mul_eq_mul_right hn this
 have c1:=congrArg (· %n) b;simp only[eB0 _ n,Nat.mul_add_mod]at c1;rw[eR0 h2,eR0 yU]at c1;subst c1;have d:nt*n=nt'*n:=by omega
 exact⟨Nat.eq_of_mul_eq_mul_right hn d,rfl,rfl⟩
def tT (K:List Bool) (n nt i j:Nat):Bool:=K.getD (Pb n nt i j) false
def Ec (w:List Int) (K:List Bool) (body:List Sym) (i j:Nat):Bool :=
 match body with
 | []=>decide (i=j)
 | [a]=>decide (j=i+1)&&decide (w[i]? =some a.n)
 | a::b::_=>(List.range (j+1-i)).any fun d=>tT K (w.length+1) a.n.toNat i (i+d)&&tT K (w.length+1) b.n.toNat (i+d) j
structure SoK (c:Cnf) (w:List Int) (K:List Bool):Prop where
 len:K.length=c.nts.toNat*(w.length+1)*(w.length+1)
 ok:∀nt i j:Nat,nt<c.nts.toNat->i<w.length+1->j<w.length+1->tT K (w.length+1) nt i j=true->Dv c w ⟨nt,i,j⟩
structure OkC (c:Cnf):Prop where
 hd:∀p∈c.prods,0<=p.head/\p.head<c.nts
 sy:∀p∈c.prods,p.body=[]\/(∃a,p.body=[a])\/∃a b,p.body=[a,b]/\0<=a.n/\a.n<c.nts/\0<=b.n/\b.n<c.nts
def PG_ (c:Cnf) (w:List Int) (K:List Bool):Prop:=∀p∈c.prods,∀i j:Nat,i<=j->j<w.length+1->Ec w K p.body i j=true->tT K (w.length+1) p.head.toNat i j=true
def iU (K:List Bool):Nat:=(K.filter fun b=> !b).length
theorem Sr_ {K:List Bool} {n N nt i j nt' i' j':Nat} (hl:K.length=N*n*n) (h1:nt<N) (h2:i<n) (h3:j<n) (yU:i'<n) (h3':j'<n):tT (K.set (Pb n nt i j) true) n nt' i' j'=(decide (nt=nt'/\i=i'/\j=j')||tT K n nt' i' j'):=by
 have qV:Pb n nt i j<K.length:=by rw[hl];exact Xf h1 h2 h3
 unfold tT;rw[aZ0,aZ0,List.getElem?_set]
 by_cases he:Pb n nt i j=Pb n nt' i' j'
 ·obtain⟨rfl,rfl,rfl⟩:=IP_ h2 h3 yU h3' he;rw[if_pos rfl,if_pos qV];simp
 ·have qK:¬(nt=nt'/\i=i'/\j=j'):=fun⟨a,b,c⟩=>he (by rw[a,b,c])
  rw[if_neg he,decide_eq_false qK];simp
theorem Oj_ {K:List Bool} {x:Nat} (h:K[x]? =some false):iU (K.set x true)+1=iU K:=by
 induction K generalizing x with
 | nil=>simp at h
 | cons b K ih =>
  cases x with
  | zero =>
   simp only[bF0,aA0]at h;subst h;simp[iU]
  | succ x =>
   have:=ih (x:=x) (by simpa using h);unfold iU at this |-;cases b<;>simp_all
theorem GW_ {c:Cnf} {w:List Int} {K:List Bool} (hc:OkC c) (hs:SoK c w K) {p:Prod} (hp:p∈c.prods) {i j:Nat} (zJ:i<=j) (hj:j<w.length+1) (h:Ec w K p.body i j=true):Dv c w ⟨p.head,i,j⟩:=by
 rcases hc.sy p hp with hb | ⟨a,hb⟩ | ⟨a,b,hb,a1,a2,b1,b2⟩
 ·rw[hb]at h;have:i=j:=by simpa[Ec]using h
  subst this;exact Dv.nil hp hb (by omega)
 ·rw[hb]at h;simp only[Ec,aM0,decide_eq_true_eq]at h;obtain⟨h1,h2⟩:=h;subst h1;exact Dv.one hp hb h2
 ·rw[hb]at h;simp only[Ec,bW0,aM0,cP0]at h;obtain⟨d,hd,h1,h2⟩:=h;have g1:=hs.ok a.n.toNat i (i+d) (by omega) (by omega) (by omega) h1;have g2:=hs.ok b.n.toNat (i+d) j (by omega) (by omega) (by omega) h2;rw[show ((a.n.toNat:Nat):Int)=a.n by omega]at g1;rw[show ((b.n.toNat:Nat):Int)=b.n by omega]at g2;exact Dv.two hp hb g1 g2
theorem KD_ {c:Cnf} {w:List Int} {K:List Bool} (hc:OkC c) (hs:SoK c w K) {p:Prod} (hp:p∈c.prods) {i j:Nat} (zJ:i<=j) (hj:j<w.length+1) (h:Ec w K p.body i j=true):SoK c w (K.set (Pb (w.length+1) p.head.toNat i j) true):=by
 have hd:=hc.hd p hp;refine⟨by rw[List.length_set];exact hs.len,?_⟩;intro nt i' j' h1 h2 h3 ht;rw[Sr_ hs.len (by omega) (by omega) hj h2 h3]at ht
 rcases dI0 _ _▸ht with ht | ht
 ·obtain⟨rfl,rfl,rfl⟩:=of_decide_eq_true ht;rw[show ((p.head.toNat:Nat):Int)=p.head by omega];exact GW_ hc hs hp zJ hj h
 ·exact hs.ok nt i' j' h1 h2 h3 ht
theorem QJ_ {c:Cnf} {w:List Int} {K:List Bool} (hc:OkC c) (hs:SoK c w K) (jH:PG_ c w K) {f:Fct} (h:Dv c w f):tT K (w.length+1) f.nt.toNat f.fr.toNat f.to.toNat=true:=by
 induction h with
 | @nil p i hp hb hi =>
  simp only[cI0];exact jH p hp i i (Nat.le_refl _) (by omega) (by rw[hb];simp[Ec])
 | @one p a i hp hb hi =>
  have jU:=(aB0.1 hi).1;have e:((i:Int)+1).toNat=i+1:=by omega
  simp only[cI0,e];exact jH p hp i (i+1) (by omega) (by omega) (by rw[hb];simp[Ec,hi])
 | @two p a b i k j hp hb h1 h2 ih1 ih2 =>
  obtain⟨q1,q2,q3,_⟩:=h1.inF;obtain⟨r1,r2,r3,_⟩:=h2.inF;simp only at q1 q2 q3 r1 r2 r3 ih1 ih2 |-;refine jH p hp i.toNat j.toNat (by omega) (by omega) ?_;rw[hb];simp only[Ec,bW0,aM0,cP0];refine⟨(k-i).toNat,by omega,?_⟩;have e:i.toNat+(k-i).toNat=k.toNat:=by omega
  rw[e];exact⟨ih1,ih2⟩
theorem QI_ {c:Cnf} {w:List Int} {K:List Bool} (hc:OkC c) (hs:SoK c w K) (jH:PG_ c w K) {nt i j:Nat} (h1:nt<c.nts.toNat) (h2:i<w.length+1) (h3:j<w.length+1):tT K (w.length+1) nt i j=true↔Dv c w ⟨nt,i,j⟩ :=
 ⟨hs.ok nt i j h1 h2 h3,fun h=>by have:=QJ_ hc hs jH h;simpa using this⟩
noncomputable def tbK (c:Cnf) (w:List Int):List Bool:=(List.range (c.nts.toNat*(w.length+1)*(w.length+1))).map fun x=> @decide (Dv c w ⟨((x/(w.length+1)/(w.length+1):Nat):Int),((x/(w.length+1)%(w.length+1):Nat):Int),((x%(w.length+1):Nat):Int)⟩) (Classical.propDecidable _)
theorem Sq_ {c:Cnf} {w:List Int} {K:List Bool} (hc:OkC c) (hs:SoK c w K) (jH:PG_ c w K):K=tbK c w:=by
 have hl:=hs.len;have kM:(tbK c w).length=c.nts.toNat*(w.length+1)*(w.length+1):=by unfold tbK;rw[aJ0,dY0]
 refine eY0 fun x=> ?_
 by_cases hx:x<c.nts.toNat*(w.length+1)*(w.length+1)
 ·have h1:x<K.length:=by omega
  have q1:x/(w.length+1)/(w.length+1)<c.nts.toNat:=by
   rw[Nat.div_div_eq_div_mul];exact Nat.div_lt_of_lt_mul (by rw[eB0,<-Nat.mul_assoc];exact hx)
  have q2:x/(w.length+1)%(w.length+1)<w.length+1:=Nat.mod_lt _ (by omega);have q3:x%(w.length+1)<w.length+1:=Nat.mod_lt _ (by omega)
  have e:Pb (w.length+1) (x/(w.length+1)/(w.length+1)) (x/(w.length+1)%(w.length+1)) (x%(w.length+1))=x:=by
   unfold Pb;have a:=Nat.div_add_mod (x/(w.length+1)) (w.length+1);have b:=Nat.div_add_mod x (w.length+1);rw[eB0 (x/(w.length+1)/(w.length+1)) (w.length+1),a,eB0 (x/(w.length+1)) (w.length+1),b]
  have hi:=QI_ hc hs jH q1 q2 q3;unfold tT at hi;rw[e,aZ0,aD0 h1]at hi;simp only[cC0]at hi;rw[aD0 h1];unfold tbK;rw[bK0,eE0 hx];simp only[dJ0]
  congr 1
  rw[fF0,hi];exact(@decide_eq_true_iff _ (Classical.propDecidable _)).symm
 ·rw[dH0 (by omega),dH0 (by omega)]
theorem Nv_ (c:Cnf) (w:List Int):SoK c w (List.replicate (c.nts.toNat*(w.length+1)*(w.length+1)) false):=by
 refine⟨by rw[dG0],?_⟩;intro nt i j h1 h2 h3 h;unfold tT at h;rw[aZ0,eD0]at h
 split at h<;>simp at h
theorem Wi : ∀{N:Nat} {l:List Nat},l.Nodup->(∀x∈l,x<N)->l.length<=N
 | 0,l,_,h=>by
  cases l with
  | nil=>simp
  | cons x l=>exact absurd (h x aF0) (eV0 _)
 | N+1,l,hn,h=>by
  by_cases hm:N∈l
  ·have h1:=Wi (N:=N) (hn.erase N) fun x hx=>by
    have h2:=h x (List.mem_of_mem_erase hx)
    have h3:x≠N:=fun e=>by
     subst e;exact(List.Nodup.not_mem_erase hn) hx
    omega
   rw[List.length_erase_of_mem hm]at h1;omega
  ·have h1:=Wi (N:=N) hn fun x hx=>by
    have h2:=h x hx;have h3:x≠N:=fun e=>hm (e▸hx)
    omega
   omega
theorem QN_ {c:Cnf} {w:List Int} {r:List Fct} (hc:OkC c) (hn:r.Nodup) (hr:∀f∈r,inF c w f):r.length<=c.nts.toNat*(w.length+1)*(w.length+1):=by
 have h0:∀f∈r,0<=f.nt/\f.nt.toNat<c.nts.toNat/\0<=f.fr/\f.fr.toNat<w.length+1/\0<=f.to/\f.to.toNat<w.length+1:=by
  intro f hf;obtain⟨q1,q2,q3,p,hp,q4⟩:=hr f hf;have q5:=hc.hd p hp;omega
 have h1:((r.map fun f=>Pb (w.length+1) f.nt.toNat f.fr.toNat f.to.toNat).length)<=c.nts.toNat*(w.length+1)*(w.length+1):=by
  refine Wi (dN0.2 (hn.imp_of_mem fun {f g} hf hg qK he=>qK ?_)) fun x hx=> ?_
  ·obtain⟨f,hf,rfl⟩:=aU0.1 hx;obtain⟨a1,a2,a3,a4,a5,a6⟩:=h0 f hf;exact Xf a2 a4 a6
  ·obtain⟨a1,a2,a3,a4,a5,a6⟩:=h0 f hf;obtain⟨b1,b2,b3,b4,b5,b6⟩:=h0 g hg;obtain⟨e1,e2,e3⟩:=IP_ a4 a6 b4 b6 he;obtain⟨f1,f2,f3⟩:=f;obtain⟨g1,g2,g3⟩:=g;simp only at a1 a3 a5 b1 b3 b5 e1 e2 e3;rw[Fct.mk.injEq];omega
 rwa[aJ0]at h1
end Go.Proofs.Wy
end
section
namespace Go.Proofs.Wy
open Go Go.Dm Tryz
attribute [local irreducible] DW Bs Bv
set_option maxRecDepth 100000
theorem eU {c:Cnf} {w:List Int} {r:List Fct} (hc:OkC c) (h1:c.nts<=1024) (h2:w.length<=64) (hn:r.Nodup) (hr:∀f∈r,Dv c w f):r.length<=4326400:=by
 have h:=QN_ hc hn fun f hf=>(hr f hf).inF
 have h3:c.nts.toNat*(w.length+1)<=1024*65:=eJ0 (by omega) (by omega);have h4:c.nts.toNat*(w.length+1)*(w.length+1)<=1024*65*65:=eJ0 h3 (by omega);omega
structure RowG (c:Cnf) (w:List Int) (r:List Fct):Prop where
 nd:r.Nodup
 ok:∀f∈r,Dv c w f
theorem RowG.grow {c:Cnf} {w:List Int} {r:List Fct} (h:RowG c w r) {F:List Fct->List Fct} (hF:Grows (Dv c w) F):RowG c w (F r):=⟨hF.nd r h.nd,hF.ok r h.ok⟩
theorem RowG.fit {c:Cnf} {w:List Int} {r:List Fct} (h:RowG c w r) (hc:OkC c) (h1:c.nts<=1024) (h2:w.length<=64):(r.length+1)*24<=150000000000000:=by
 have:=eU hc h1 h2 h.nd h.ok;omega
def Ym (h:Int) (i:Nat) (r:List Fct):List Fct:=(List.range i).foldl (fun r (i:Nat)=>Jj r ⟨h,i,i⟩) r
def Xe (w:List Int) (h x:Int) (i:Nat) (r:List Fct):List Fct:=(List.range i).foldl (fun r (i:Nat)=>if w[i]? =some x then Jj r ⟨h,i,(i:Int)+1⟩else r) r
theorem Mo_ (h:Int) (i:Nat) (r:List Fct):Ym h (i+1) r=Jj (Ym h i r) ⟨h,i,i⟩:=by unfold Ym;rw[dE0,cH0];rfl
theorem Mn_ (w:List Int) (h x:Int) (i:Nat) (r:List Fct):Xe w h x (i+1) r=if w[i]? =some x then Jj (Xe w h x i r) ⟨h,i,(i:Int)+1⟩else Xe w h x i r:=by unfold Xe;rw[dE0,cH0];rfl
theorem Hk_ {c:Cnf} {w:List Int} {p:Prod} (hp:p∈c.prods) (hb:p.body=[]) {i:Nat} (hi:i<=w.length+1):Grows (Dv c w) (Ym p.head i):=by
 unfold Ym;exact Grows.fold fun k hk=>Grows.add (Dv.nil hp hb (by have:=cP0.1 hk;omega))
theorem Hj_ {c:Cnf} {w:List Int} {p:Prod} {a:Sym} (hp:p∈c.prods) (hb:p.body=[a]) {i:Nat}:Grows (Dv c w) (Xe w p.head a.n i):=by
 unfold Xe;refine Grows.fold fun k _=> ?_
 by_cases hc:w[k]? =some a.n
 ·simp only[hc,if_true];exact Grows.add (Dv.one hp hb hc)
 ·simp only[hc,if_false];exact Grows.id
def tC (c:Cnf) (w:List Int) (k:Nat):List Fct:=(c.prods.take k).foldl (Se w) []
theorem RP_ (c:Cnf) (w:List Int) (k:Nat):RowG c w (tC c w k):=by
 have hG:Grows (Dv c w) fun r=>(c.prods.take k).foldl (Se w) r:=Grows.fold fun _ hp=>Pa (cK0 hp)
 exact⟨hG.nd [] (by simp),hG.ok [] (by simp)⟩
theorem Mm_ {c:Cnf} {w:List Int} {k:Nat} {p:Prod} (h:c.prods[k]? =some p):tC c w (k+1)=Se w (tC c w k) p:=by unfold tC;rw[bD0,h,cH0];rfl
def oL (q v:Nat) (c:Cnf) (w:List Int) (r:List Fct):List Ent:=[⟨0,0,.box [.int .i64 c.nts,Bq c.prods,BD w,.omp 2 0,.osl q v]⟩,⟨q,v,.row 140 3 24 (r.map BN)⟩,⟨2,0,.map (r.map Je) (FN r.length)⟩]
def dTn (c:Cnf) (w:List Int):List Ent:=[⟨0,0,.box [.int .i64 c.nts,Bq c.prods,BD w,.omp 2 0,.nilsl]⟩,⟨2,0,.map [] []⟩]
def Ed_ : Ann:=⟨[37,65],[⟨2,[3],[],[]⟩]⟩
theorem BK_ (c:Cnf) (w:List Int) (jQ:OkC c) (hP:c.prods.length*32<=150000000000000) (hN:c.nts<=1024) (hw:w.length<=64):AS prog (.func 177) [.bx 0 0 0] (dTn c w) (.tup []) (EK 1 c w (Hi_ c w)):=by
 refine Bi [] [(0,0,0),(50,1,1),(2,2,0)] Ed_ func177 call177 ntmps177 mxd (Ap @Ed_.eq_1 results177) rfl (fun qJ B qX qQ=> ?_) (hv:=(by simp[EK]));simp only[Ak]
 (refine Au Aa Aa (Aq @dTn.eq_1) ?_;intros;refine Ae ?_)
 refine BT 0 4 50 140 3 24 (by simp) (fun n=> ?_);refine Af (X:={k:Nat//k<=c.prods.length}) (fun k=>⟨[(0,.bx 0 0 0),(11,Bq c.prods),(12,.int .i64 c.prods.length),(13,.int .i64 k.1)],oL 50 1 c w (tC c w k.1)⟩) (fun k=>c.prods.length-k.1) ⟨0,by omega⟩ (Sub.lit (by simp[EK,oL,tC,FN])) ?_;rintro⟨k,hk⟩;simp only
 by_cases qV:k<c.prods.length
 ·obtain⟨p,hp,qI,vK⟩:=Ai qV;have hs:=Mm_ (w:=w) hp;have hg:=RP_ c w k;obtain⟨R,hR⟩:∃R,R=tC c w k:=⟨_,rfl⟩;rw[<-hR]at hs hg |-;have wk:IntKind.i64.wrap ((k:Int)+1)=(k:Int)+1:=wq;obtain⟨hd,body⟩:=p
  match body with
  | [] =>
   have cR:Se w R ⟨hd,[]⟩=Ym hd (w.length+1) R:=rfl;rw[cR]at hs
   (refine Au Aa Aa (Dx @EK.eq_1 @oL.eq_1 @Ah.eq_1 qV qI) ?_;intros;refine Ae ?_)
   refine Af (X:={i:Nat//i<=w.length+1}) (fun i=>⟨[(0,.bx 0 0 0),(3,.ref [.int .i64 hd,AY []]),(11,Bq c.prods),(12,.int .i64 c.prods.length),(13,.int .i64 k),(27,.int .i64 ((w.length:Int)+1)),(28,.int .i64 i.1)],oL 50 1 c w (Ym hd i.1 R)⟩) (fun i=>w.length+1-i.1) ⟨0,by omega⟩ (Sub.lit (by simp[EK,oL,Ym])) ?_;rintro⟨i,hi⟩;simp only
   by_cases wS:i<w.length+1
   ·have gN:=hg.grow (Hk_ (i:=i) vK rfl (by omega));have wC:=Mo_ hd i R;simp only at gN;obtain⟨T,hT⟩:∃T,T=Ym hd i R:=⟨_,rfl⟩;rw[<-hT]at gN wC |-;have e1:=KR c w T ⟨hd,i,i⟩ (gN.fit jQ hN hw);rw[<-wC]at e1;obtain⟨U,hU⟩:∃U,U=Ym hd (i+1) R:=⟨_,rfl⟩;rw[<-hU]at e1;simp only[BN]at e1;have kZ:(i:Int)<(w.length:Int)+1:=by omega
    (refine Au Aa (Aq (DF [(0,0),(50,1),(2,2)] [] e1)) (BC @EK.eq_1 @oL.eq_1 kZ) ?_;intros;refine Ae ?_)
    refine Ag.mk ⟨i+1,by omega⟩ (Sub.lit (by simp[EK,oL,<-hU])) (by simp;omega)
    skip
   ·have qY:i=w.length+1:=by omega
    subst qY;rw[<-hs]
    (refine Au Aa Aa (Aq wk) ?_;intros;refine Ae ?_)
    refine Ag.mk ⟨k+1,by omega⟩ (Sub.lit (by simp[EK,oL,wk])) (by simp;omega)
    skip
  | [a] =>
   have cR:Se w R ⟨hd,[a]⟩=Xe w hd a.n w.length R:=rfl;rw[cR]at hs
   (refine Au Aa Aa (Dx @EK.eq_1 @oL.eq_1 @Ah.eq_1 qV qI) ?_;intros;refine Ae ?_)
   refine Af (X:={i:Nat//i<=w.length}) (fun i=>⟨[(0,.bx 0 0 0),(3,.ref [.int .i64 hd,AY [a]]),(11,Bq c.prods),(12,.int .i64 c.prods.length),(13,.int .i64 k),(44,BD w),(45,.int .i64 w.length),(46,.int .i64 i.1)],oL 50 1 c w (Xe w hd a.n i.1 R)⟩) (fun i=>w.length-i.1) ⟨0,by omega⟩ (Sub.lit (by simp[EK,oL,Xe])) ?_;rintro⟨i,hi⟩;simp only
   by_cases wS:i<w.length
   ·obtain⟨x,hx,qU,_⟩:=Ai wS;have gN:=hg.grow (Hj_ (i:=i) vK rfl);have wC:=Mn_ w hd a.n i R;simp only at gN;rw[hx]at wC;obtain⟨T,hT⟩:∃T,T=Xe w hd a.n i R:=⟨_,rfl⟩;rw[<-hT]at gN wC |-;obtain⟨U,hU⟩:∃U,U=Xe w hd a.n (i+1) R:=⟨_,rfl⟩;rw[<-hU]at wC
    by_cases fE:x=a.n
    ·have e1:=KR c w T ⟨hd,i,(i:Int)+1⟩ (gN.fit jQ hN hw);rw[if_pos (by rw[fE])]at wC;rw[<-wC]at e1;simp only[BN]at e1
     (refine Au Aa (Aq (DF [(0,0),(50,1),(2,2)] [] e1)) (Ji @EK.eq_1 @oL.eq_1 @AA.eq_1 @Du.eq_1 wS hx qU fE) ?_;intros;refine Ae ?_)
     refine Ag.mk ⟨i+1,by omega⟩ (Sub.lit (by simp[EK,oL,<-hU])) (by simp;omega)
     skip
    ·rw[if_neg (fun hh=>fE (Option.some.inj hh))]at wC;have mM:(x==a.n)=false:=by simpa using fE
     (refine Au Aa Aa (OD @EK.eq_1 @oL.eq_1 @AA.eq_1 @Du.eq_1 wS hx qU fE mM) ?_;intros;refine Ae ?_)
     refine Ag.mk ⟨i+1,by omega⟩ (Sub.lit (by simp[EK,oL,<-hU,wC])) (by simp;omega)
     skip
   ·have qY:i=w.length:=by omega
    subst qY;rw[<-hs]
    (refine Au Aa Aa (Aq wk) ?_;intros;refine Ae ?_)
    refine Ag.mk ⟨k+1,by omega⟩ (Sub.lit (by simp[EK,oL,wk])) (by simp;omega)
    skip
  | a::b::l =>
   have cR:Se w R ⟨hd,a::b::l⟩=R:=rfl;rw[cR]at hs;have q0:¬(l.length:Int)+1+1=0:=by omega
   have q0b:((l.length:Int)+1+1==0)=false:=by simpa using q0
   have q1:¬(l.length:Int)+1+1=1:=by omega
   have q1b:((l.length:Int)+1+1==1)=false:=by simpa using q1
   (refine Au Aa Aa (Hn @EK.eq_1 @oL.eq_1 @Ah.eq_1 qV qI q0 q0b q1 q1b wk) ?_;intros;refine Ae ?_)
   refine Ag.mk ⟨k+1,by omega⟩ (Sub.lit (by simp[EK,oL,hs,wk])) (by simp;omega)
   skip
 ·have qY:k=c.prods.length:=by omega
  subst qY;have he:tC c w c.prods.length=Hi_ c w:=by unfold tC;rw[aN0];rfl
  rw[he];exact Al Aa Aa (Ap @EK.eq_1 @oL.eq_1)
def jA (h bn:Int) (f:Fct) (i:Nat) (r:List Fct):List Fct:=(List.range i).foldl (fun r (k:Nat)=>if (⟨bn,f.to,f.to+k⟩:Fct)∈r then Jj r ⟨h,f.fr,f.to+k⟩else r) r
def jB (h an:Int) (f:Fct) (i:Nat) (r:List Fct):List Fct:=(List.range i).foldl (fun r (k:Nat)=>if (⟨an,k,f.fr⟩:Fct)∈r then Jj r ⟨h,k,f.to⟩else r) r
theorem Rt_ (h bn:Int) (f:Fct) (i:Nat) (r:List Fct):jA h bn f (i+1) r=if (⟨bn,f.to,f.to+i⟩:Fct)∈jA h bn f i r then Jj (jA h bn f i r) ⟨h,f.fr,f.to+i⟩else jA h bn f i r:=by unfold jA;rw[dE0,cH0];rfl
theorem Iw_ (h an:Int) (f:Fct) (i:Nat) (r:List Fct):jB h an f (i+1) r=if (⟨an,i,f.fr⟩:Fct)∈jB h an f i r then Jj (jB h an f i r) ⟨h,i,f.to⟩else jB h an f i r:=by unfold jB;rw[dE0,cH0];rfl
theorem Ba_ {c:Cnf} {w:List Int} {p:Prod} {a b:Sym} (hp:p∈c.prods) (hb:p.body=[a,b]) {f:Fct} (hf:Dv c w f) (he:a.n=f.nt) {i:Nat}:Grows (Dv c w) (jA p.head b.n f i):=by
 unfold jA;refine Grows.fold fun k _=>Grows.cond fun hg=> ?_
 exact Dv.two hp hb (by rw[he];exact hf) hg
theorem AZ_ {c:Cnf} {w:List Int} {p:Prod} {a b:Sym} (hp:p∈c.prods) (hb:p.body=[a,b]) {f:Fct} (hf:Dv c w f) (he:b.n=f.nt) {i:Nat}:Grows (Dv c w) (jB p.head a.n f i):=by
 unfold jB;refine Grows.fold fun k _=>Grows.cond fun hg=> ?_
 exact Dv.two hp hb hg (by rw[he];exact hf)
def jnT (c:Cnf) (w:List Int) (f:Fct) (R:List Fct) (k:Nat):List Fct:=(c.prods.take k).foldl (jnP w f) R
theorem SR_ {c:Cnf} {w:List Int} {f:Fct} (hf:Dv c w f) {R:List Fct} (hg:RowG c w R) (k:Nat):RowG c w (jnT c w f R k):=by
 have hG:Grows (Dv c w) fun r=>(c.prods.take k).foldl (jnP w f) r:=Grows.fold fun _ hp=>Nz (cK0 hp) hf
 exact hg.grow hG
theorem OP_ {c:Cnf} {w:List Int} {f:Fct} {R:List Fct} {k:Nat} {p:Prod} (h:c.prods[k]? =some p):jnT c w f R (k+1)=jnP w f (jnT c w f R k) p:=by unfold jnT;rw[bD0,h,cH0];rfl
def LG (c:Cnf) (f:Fct) (k:Nat):List (Nat×DVal):=[(0,.bx 0 0 0),(3,.ref (BN f)),(12,Bq c.prods),(13,.int .i64 c.prods.length),(14,.int .i64 k)]
def Ec_ : Ann:=⟨[51,59,84,92],[⟨3,[5],[],[]⟩]⟩
theorem GR_ (c:Cnf) (w:List Int) (f:Fct) (R0:List Fct) (jQ:OkC c) (hP:c.prods.length*32<=150000000000000) (hN:c.nts<=1024) (hw:w.length<=64) (hf:Dv c w f) (hg0:RowG c w R0):AS prog (.func 178) [.bx 0 0 0,.agg (BN f)] (EK 0 c w R0) (.tup []) (EK 1 c w (jnF c w f R0)):=by
 refine Bi [] [(0,0,0),(1,1,1),(2,2,0)] Ec_ func178 call178 ntmps178 mxd (Ap @Ec_.eq_1 results178) rfl (fun qJ B qX qQ=> ?_) (hv:=(by simp[EK]));simp only[Ak];clear qJ;obtain⟨f1,f2,f3,_⟩:=hf.inF;obtain⟨fn,ff,ft⟩:=f;obtain⟨u,rfl⟩:=Int.eq_ofNat_of_zero_le (show 0<=ff from f1);obtain⟨v,rfl⟩:=Int.eq_ofNat_of_zero_le (show 0<=ft from Int.le_trans f1 f2);simp only at f1 f2 f3
 (refine Au Aa Aa (Ap @EK.eq_1 @BN.eq_1) ?_;intros;refine Ae ?_)
 refine Af (X:={k:Nat//k<=c.prods.length}) (fun k=>⟨LG c ⟨fn,u,v⟩ k.1,EK 1 c w (jnT c w ⟨fn,u,v⟩ R0 k.1)⟩) (fun k=>c.prods.length-k.1) ⟨0,by omega⟩ (Sub.lit (by simp[EK,LG,jnT,BN])) ?_;rintro⟨k,hk⟩;simp only
 by_cases qV:k<c.prods.length
 ·obtain⟨p,hp,qI,vK⟩:=Ai qV;have hs:=OP_ (w:=w) (f:=⟨fn,u,v⟩) (R:=R0) hp;have hg:=SR_ hf hg0 k;have wk:IntKind.i64.wrap ((k:Int)+1)=(k:Int)+1:=wq;obtain⟨R,hR⟩:∃R,R=jnT c w ⟨fn,u,v⟩ R0 k:=⟨_,rfl⟩;rw[<-hR]at hs hg |-;obtain⟨hd,body⟩:=p
  match body with
  | [] =>
   have cR:jnP w ⟨fn,u,v⟩ R ⟨hd,[]⟩=R:=rfl;rw[cR]at hs
   (refine Au Aa Aa (Ez @EK.eq_1 @LG.eq_1 @BN.eq_1 @Ah.eq_1 qV qI wk) ?_;intros;refine Ae ?_)
   refine Ag.mk ⟨k+1,by omega⟩ (Sub.lit (by simp[EK,LG,BN,hs,wk])) (by simp;omega)
   skip
  | [x] =>
   have cR:jnP w ⟨fn,u,v⟩ R ⟨hd,[x]⟩=R:=rfl;rw[cR]at hs
   (refine Au Aa Aa (Ez @EK.eq_1 @LG.eq_1 @BN.eq_1 @Ah.eq_1 qV qI wk) ?_;intros;refine Ae ?_)
   refine Ag.mk ⟨k+1,by omega⟩ (Sub.lit (by simp[EK,LG,BN,hs,wk])) (by simp;omega)
   skip
  | x::y::z::l =>
   have cR:jnP w ⟨fn,u,v⟩ R ⟨hd,x::y::z::l⟩=R:=rfl;rw[cR]at hs;have q0:¬(l.length:Int)+1+1+1=2:=by omega
   have q0b:((l.length:Int)+1+1+1 != 2)=true:=by simpa using q0
   (refine Au Aa Aa (OD @EK.eq_1 @LG.eq_1 @BN.eq_1 @Ah.eq_1 qV qI q0 q0b wk) ?_;intros;refine Ae ?_)
   refine Ag.mk ⟨k+1,by omega⟩ (Sub.lit (by simp[EK,LG,BN,hs,wk])) (by simp;omega)
   skip
  | [a,b] =>
   have cR:jnP w ⟨fn,u,v⟩ R ⟨hd,[a,b]⟩=RI ⟨hd,[a,b]⟩ a b ⟨fn,u,v⟩ (lM w ⟨hd,[a,b]⟩ a b ⟨fn,u,v⟩ R):=rfl;rw[cR]at hs;clear cR
   by_cases ha:a.n=fn
   ·have has:lM w ⟨hd,[a,b]⟩ a b ⟨fn,u,v⟩ R=jA hd b.n ⟨fn,u,v⟩ (w.length+1-v) R:=by unfold lM;simp only;rw[if_pos ha];rfl
    rw[has]at hs;clear has;have pC:(a.n==fn)=true:=by simpa using ha
    have hv:v<=w.length:=by omega
    (refine Au Aa Aa (OD @EK.eq_1 @LG.eq_1 @BN.eq_1 @Ah.eq_1 @AA.eq_1 qV qI ha pC) ?_;intros;refine Ae ?_)
    refine Af (X:={i:Nat//i<=w.length+1-v}) (fun i=>⟨(5,.ref [.int .i64 hd,AY [a,b]])::(6,.int .i64 ((v:Int)+(i.1:Int)))::LG c ⟨fn,u,v⟩ k,EK 1 c w (jA hd b.n ⟨fn,u,v⟩ i.1 R)⟩) (fun i=>w.length+1-v-i.1) ⟨0,by omega⟩ (Sub.lit (by simp[EK,LG,BN,jA])) ?_;rintro⟨i,hi⟩;simp only
    by_cases wS:i<w.length+1-v
    ·have gN:=hg.grow (Ba_ (p:=⟨hd,[a,b]⟩) (i:=i) vK rfl hf ha);have qD:=Rt_ hd b.n ⟨fn,u,v⟩ i R;simp only at gN qD;obtain⟨T,hT⟩:∃T,T=jA hd b.n ⟨fn,u,v⟩ i R:=⟨_,rfl⟩;rw[<-hT]at gN qD |-;obtain⟨U,hU⟩:∃U,U=jA hd b.n ⟨fn,u,v⟩ (i+1) R:=⟨_,rfl⟩;rw[<-hU]at qD;have kZ:(v:Int)+(i:Int)<=(w.length:Int):=by omega
     have wi:IntKind.i64.wrap ((v:Int)+(i:Int)+1)=(v:Int)+((i:Int)+1):=by rw[wq];omega
     have e0:=Qb c w T ⟨b.n,v,(v:Int)+(i:Int)⟩
     by_cases wR:(⟨b.n,(v:Int),(v:Int)+(i:Int)⟩:Fct)∈T
     ·rw[if_pos wR]at qD;rw[decide_eq_true wR]at e0;have e1:=KR c w T ⟨hd,u,(v:Int)+(i:Int)⟩ (gN.fit jQ hN hw);rw[<-qD]at e1;simp only[BN]at e0 e1
      (refine Au Aa (Ap (DF [(0,0),(1,1),(2,2)] [] e0) (DF [(0,0),(1,1),(2,2)] [] e1)) (EB @EK.eq_1 @LG.eq_1 @BN.eq_1 @AA.eq_1 kZ wi) ?_;intros;refine Ae ?_)
      refine Ag.mk ⟨i+1,by omega⟩ (Sub.lit (by simp[EK,LG,BN,<-hU,wi])) (by simp;omega)
      skip
     ·rw[if_neg wR]at qD;rw[decide_eq_false wR]at e0;simp only[BN]at e0
      (refine Au Aa (Aq (DF [(0,0),(1,1),(2,2)] [] e0)) (EB @EK.eq_1 @LG.eq_1 @BN.eq_1 @AA.eq_1 kZ wi) ?_;intros;refine Ae ?_)
      refine Ag.mk ⟨i+1,by omega⟩ (Sub.lit (by simp[EK,LG,BN,<-hU,qD,wi])) (by simp;omega)
      skip
    ·have qY:i=w.length+1-v:=by omega
     subst qY;have vD:=hg.grow (Ba_ (p:=⟨hd,[a,b]⟩) (i:=w.length+1-v) vK rfl hf ha);simp only at vD;obtain⟨R1,hR1⟩:∃R1,R1=jA hd b.n ⟨fn,u,v⟩ (w.length+1-v) R:=⟨_,rfl⟩;rw[<-hR1]at vD hs |-;have vS:¬(v:Int)+((w.length+1-v:Nat):Int)<=(w.length:Int):=by omega
     by_cases hb:b.n=fn
     ·have wC:RI ⟨hd,[a,b]⟩ a b ⟨fn,u,v⟩ R1=jB hd a.n ⟨fn,u,v⟩ (u+1) R1:=by unfold RI;simp only;rw[if_pos hb];rfl
      rw[wC]at hs;clear wC;have fM:(b.n==fn)=true:=by simpa using hb
      (refine Au Aa Aa (Hn @EK.eq_1 @LG.eq_1 @BN.eq_1 @Ah.eq_1 @AA.eq_1 qV qI vS hb fM) ?_;intros;refine Ae ?_)
      refine Af (X:={i:Nat//i<=u+1}) (fun i=>⟨(5,.ref [.int .i64 hd,AY [a,b]])::(70,.int .i64 ((u:Int)+1))::(71,.int .i64 i.1)::LG c ⟨fn,u,v⟩ k,EK 1 c w (jB hd a.n ⟨fn,u,v⟩ i.1 R1)⟩) (fun i=>u+1-i.1) ⟨0,by omega⟩ (Sub.lit (by simp[EK,LG,BN,jB])) ?_;rintro⟨i,hi⟩;simp only
      by_cases wS:i<u+1
      ·have gN:=vD.grow (AZ_ (p:=⟨hd,[a,b]⟩) (i:=i) vK rfl hf hb);have qD:=Iw_ hd a.n ⟨fn,u,v⟩ i R1;simp only at gN qD;obtain⟨T,hT⟩:∃T,T=jB hd a.n ⟨fn,u,v⟩ i R1:=⟨_,rfl⟩;rw[<-hT]at gN qD |-;obtain⟨U,hU⟩:∃U,U=jB hd a.n ⟨fn,u,v⟩ (i+1) R1:=⟨_,rfl⟩;rw[<-hU]at qD;have kZ:(i:Int)<(u:Int)+1:=by omega
       have e0:=Qb c w T ⟨a.n,i,u⟩
       by_cases wR:(⟨a.n,(i:Int),(u:Int)⟩:Fct)∈T
       ·rw[if_pos wR]at qD;rw[decide_eq_true wR]at e0;have e1:=KR c w T ⟨hd,i,v⟩ (gN.fit jQ hN hw);rw[<-qD]at e1;simp only[BN]at e0 e1
        (refine Au Aa (Ap (DF [(0,0),(1,1),(2,2)] [] e0) (DF [(0,0),(1,1),(2,2)] [] e1)) (Dx @EK.eq_1 @LG.eq_1 @BN.eq_1 @AA.eq_1 kZ) ?_;intros;refine Ae ?_)
        refine Ag.mk ⟨i+1,by omega⟩ (Sub.lit (by simp[EK,LG,BN,<-hU])) (by simp;omega)
        skip
       ·rw[if_neg wR]at qD;rw[decide_eq_false wR]at e0;simp only[BN]at e0
        (refine Au Aa (Aq (DF [(0,0),(1,1),(2,2)] [] e0)) (Dx @EK.eq_1 @LG.eq_1 @BN.eq_1 @AA.eq_1 kZ) ?_;intros;refine Ae ?_)
        refine Ag.mk ⟨i+1,by omega⟩ (Sub.lit (by simp[EK,LG,BN,<-hU,qD])) (by simp;omega)
        skip
      ·have qY:i=u+1:=by omega
       subst qY;rw[<-hs]
       (refine Au Aa Aa (BC @LG.eq_1 @BN.eq_1 wk) ?_;intros;refine Ae ?_)
       refine Ag.mk ⟨k+1,by omega⟩ (Sub.lit (by simp[EK,LG,BN,wk])) (by simp;omega)
       skip
     ·have wC:RI ⟨hd,[a,b]⟩ a b ⟨fn,u,v⟩ R1=R1:=by unfold RI;rw[if_neg hb]
      rw[wC]at hs;clear wC;have fM:(b.n==fn)=false:=by simpa using hb
      (refine Au Aa Aa (Hm @EK.eq_1 @LG.eq_1 @BN.eq_1 @Ah.eq_1 @AA.eq_1 qV qI vS hb fM wk) ?_;intros;refine Ae ?_)
      refine Ag.mk ⟨k+1,by omega⟩ (Sub.lit (by simp[EK,LG,BN,hs,wk])) (by simp;omega)
      skip
   ·have has:lM w ⟨hd,[a,b]⟩ a b ⟨fn,u,v⟩ R=R:=by unfold lM;rw[if_neg ha]
    rw[has]at hs;clear has;have pC:(a.n==fn)=false:=by simpa using ha
    have vD:=hg;obtain⟨R1,hR1⟩:∃R1,R1=R:=⟨_,rfl⟩;rw[<-hR1]at vD hs |-
    by_cases hb:b.n=fn
    ·have wC:RI ⟨hd,[a,b]⟩ a b ⟨fn,u,v⟩ R1=jB hd a.n ⟨fn,u,v⟩ (u+1) R1:=by unfold RI;simp only;rw[if_pos hb];rfl
     rw[wC]at hs;clear wC;have fM:(b.n==fn)=true:=by simpa using hb
     (refine Au Aa Aa (Hm @EK.eq_1 @LG.eq_1 @BN.eq_1 @Ah.eq_1 @AA.eq_1 qV qI ha pC hb fM) ?_;intros;refine Ae ?_)
     refine Af (X:={i:Nat//i<=u+1}) (fun i=>⟨(5,.ref [.int .i64 hd,AY [a,b]])::(70,.int .i64 ((u:Int)+1))::(71,.int .i64 i.1)::LG c ⟨fn,u,v⟩ k,EK 1 c w (jB hd a.n ⟨fn,u,v⟩ i.1 R1)⟩) (fun i=>u+1-i.1) ⟨0,by omega⟩ (Sub.lit (by simp[EK,LG,BN,jB])) ?_;rintro⟨i,hi⟩;simp only
     by_cases wS:i<u+1
     ·have gN:=vD.grow (AZ_ (p:=⟨hd,[a,b]⟩) (i:=i) vK rfl hf hb);have qD:=Iw_ hd a.n ⟨fn,u,v⟩ i R1;simp only at gN qD;obtain⟨T,hT⟩:∃T,T=jB hd a.n ⟨fn,u,v⟩ i R1:=⟨_,rfl⟩;rw[<-hT]at gN qD |-;obtain⟨U,hU⟩:∃U,U=jB hd a.n ⟨fn,u,v⟩ (i+1) R1:=⟨_,rfl⟩;rw[<-hU]at qD;have kZ:(i:Int)<(u:Int)+1:=by omega
      have e0:=Qb c w T ⟨a.n,i,u⟩
      by_cases wR:(⟨a.n,(i:Int),(u:Int)⟩:Fct)∈T
      ·rw[if_pos wR]at qD;rw[decide_eq_true wR]at e0;have e1:=KR c w T ⟨hd,i,v⟩ (gN.fit jQ hN hw);rw[<-qD]at e1;simp only[BN]at e0 e1
       (refine Au Aa (Ap (DF [(0,0),(1,1),(2,2)] [] e0) (DF [(0,0),(1,1),(2,2)] [] e1)) (Dx @EK.eq_1 @LG.eq_1 @BN.eq_1 @AA.eq_1 kZ) ?_;intros;refine Ae ?_)
       refine Ag.mk ⟨i+1,by omega⟩ (Sub.lit (by simp[EK,LG,BN,<-hU])) (by simp;omega)
       skip
      ·rw[if_neg wR]at qD;rw[decide_eq_false wR]at e0;simp only[BN]at e0
       (refine Au Aa (Aq (DF [(0,0),(1,1),(2,2)] [] e0)) (Dx @EK.eq_1 @LG.eq_1 @BN.eq_1 @AA.eq_1 kZ) ?_;intros;refine Ae ?_)
       refine Ag.mk ⟨i+1,by omega⟩ (Sub.lit (by simp[EK,LG,BN,<-hU,qD])) (by simp;omega)
       skip
     ·have qY:i=u+1:=by omega
      subst qY;rw[<-hs]
      (refine Au Aa Aa (BC @LG.eq_1 @BN.eq_1 wk) ?_;intros;refine Ae ?_)
      refine Ag.mk ⟨k+1,by omega⟩ (Sub.lit (by simp[EK,LG,BN,wk])) (by simp;omega)
      skip
    ·have wC:RI ⟨hd,[a,b]⟩ a b ⟨fn,u,v⟩ R1=R1:=by unfold RI;rw[if_neg hb]
     rw[wC]at hs;clear wC;have fM:(b.n==fn)=false:=by simpa using hb
     (refine Au Aa Aa (FJ @EK.eq_1 @LG.eq_1 @BN.eq_1 @Ah.eq_1 @AA.eq_1 qV qI ha pC hb fM wk) ?_;intros;refine Ae ?_)
     refine Ag.mk ⟨k+1,by omega⟩ (Sub.lit (by simp[EK,LG,BN,hs,wk])) (by simp;omega)
     skip
 ·have qY:k=c.prods.length:=by omega
  subst qY;have he:jnT c w ⟨fn,u,v⟩ R0 c.prods.length=jnF c w ⟨fn,u,v⟩ R0:=by unfold jnT;rw[aN0];rfl
  rw[he];exact Al Aa Aa (Ap @EK.eq_1 @LG.eq_1)
def GT_ (c:Cnf) (w:List Int) (r:List Fct):DVal:= .ref [.int .i64 c.nts,Bq c.prods,BD w,.mp (r.map Je) (FN r.length),.sl 3 24 (r.map BN)]
def Jz_ : Ann:=⟨[],[]⟩
theorem LJ_ (c:Cnf) (w:List Int) (r:List Fct) (f:Fct):Ac prog 98 [GT_ c w r,.agg (BN f)] (.bool (decide (f∈r))):=by
 refine Ab [] Jz_ func98 call98 ntmps98 mxd (Ap @Jz_.eq_1 results98) rfl (fun qJ B qX qQ=> ?_);clear qJ;simp only[Ak];have qL:=lK r
 by_cases h:f∈r
 ·obtain⟨i,h1,h2⟩:=OP h;have h3:=TD h1;simp only[Je,BN]at h2 qL;rw[decide_eq_true h];exact Al Aa Aa (Dx @GT_.eq_1 @BN.eq_1 qL h2 h3)
 ·have h2:=Lh h;simp only[Je,BN]at h2 qL;rw[decide_eq_false h];exact Al Aa Aa (CG @GT_.eq_1 @BN.eq_1 qL h2)
theorem HM_ {c:Cnf} {w:List Int} {n k:Nat} {r:List Fct} {f:Fct} (h:r[k]? =some f):XH c w (n+1) k r=XH c w n (k+1) (jnF c w f r):=by rw[XH,h]
theorem uV {c:Cnf} {w:List Int} {n k:Nat} {r:List Fct} (h:r.length<=k):XH c w n k r=r:=by
 cases n with
 | zero=>rfl
 | succ n=>rw[XH,dH0 h]
def Hv_ (c:Cnf) (w:List Int):List Fct:=XH c w 4326401 0 (Hi_ c w)
theorem HL_ {c:Cnf} {w:List Int} (jQ:OkC c) (hN:c.nts<=1024) (hw:w.length<=64):∀(n k:Nat) (r:List Fct),RowI c w k r->k<=r.length->4326401<=n+k->RowI c w (XH c w n k r).length (XH c w n k r)
 | 0,k,r,I,hk,hn=>by
  have:=eU jQ hN hw I.nd I.ok;omega
 | n+1,k,r,I,hk,hn=>by
  cases hr:r[k]? with
  | some f =>
   rw[HM_ hr];have hl:=(aB0.1 hr).1;have hp:=((RJ (I.ok f (bI0 hr))).pre r).length_le;exact HL_ jQ hN hw n (k+1) _ (xM I hr) (by omega) (by omega)
  | none =>
   have hl:=List.getElem?_eq_none_iff.1 hr;have:k=r.length:=by omega
   subst this;rw[uV (Nat.le_refl _)];exact I
theorem Qh_ {c:Cnf} {w:List Int} (jQ:OkC c) (hN:c.nts<=1024) (hw:w.length<=64) (f:Fct):f∈Hv_ c w↔Dv c w f :=
 QO_ (HL_ jQ hN hw 4326401 0 _ (YG c w) (cV0 _) (by omega)) f
theorem RowI.g {c:Cnf} {w:List Int} {k:Nat} {r:List Fct} (I:RowI c w k r):RowG c w r:=⟨I.nd,I.ok⟩
def dTw (c:Cnf) (w:List Int) (r:List Fct):List Ent:=[⟨11,1,.box [.int .i64 c.nts,Bq c.prods,BD w,.omp 9 1,.osl 50 1]⟩,⟨50,1,.row 140 3 24 (r.map BN)⟩,⟨9,1,.map (r.map Je) (FN r.length)⟩]
def JA_ : Ann:=⟨[9,11,13,31],[]⟩
theorem uT (c:Cnf) (w:List Int) (jQ:OkC c) (hP:c.prods.length*32<=150000000000000) (hN:c.nts<=1024) (hw:w.length<=64):Ac prog 97 [.agg (Ar c),BD w] (GT_ c w (Hv_ c w)):=by
 refine Ab [50,9,11] JA_ func97 call97 ntmps97 mxd (Ap @JA_.eq_1 results97) rfl (fun qJ B qX qQ=> ?_) (hd:=(by simp[mx,GT_]));clear qJ;simp only[Ak];have e1:=BK_ c w jQ hP hN hw;simp only[dTn]at e1
 (refine Au Aa (Aq (DF [(11,0),(9,2)] [(50,1)] e1)) (Ap @Ar.eq_1 @EK.eq_1) ?_;intros;refine Ae ?_)
 have qD:RowI c w 0 (Hi_ c w):=YG c w;refine Af (X:={x:Nat×List Fct//RowI c w x.1 x.2/\x.1<=x.2.length/\XH c w (4326401-x.1) x.1 x.2=Hv_ c w}) (fun x=>⟨[(5,.bx 11 1 0),(6,.int .i64 x.1.1)],dTw c w x.1.2⟩) (fun x=>4326401-x.1.1) ⟨(0,Hi_ c w),qD,cV0 _,rfl⟩ (Sub.lit (by simp[dTw])) ?_;rintro⟨⟨k,r⟩,I,hk,hA⟩;simp only at I hk hA |-;have zB:=eU jQ hN hw I.nd I.ok
 by_cases qV:k<r.length
 ·obtain⟨f,hf,hf',tU⟩:=Ai qV;have hd:=I.ok f tU;have e2:=GR_ c w f r jQ hP hN hw hd I.g;rw[show 4326401-k=(4326400-k)+1 by omega,HM_ hf]at hA;have hI2:=xM I hf;have hp:=((RJ hd).pre r).length_le;have wk:IntKind.i64.wrap ((k:Int)+1)=(k:Int)+1:=wq;obtain⟨U,hU⟩:∃U,U=jnF c w f r:=⟨_,rfl⟩;rw[<-hU]at e2 hA hI2 hp;simp only[EK,BN]at e2
  (refine Au Aa (Aq (DF [(11,0),(50,1),(9,2)] [] e2)) (Ez @dTw.eq_1 @EK.eq_1 @BN.eq_1 qV hf hf' wk) ?_;intros;refine Ae ?_)
  refine Ag.mk ⟨(k+1,U),hI2,by simp only;omega,by rw[show 4326401-(k+1)=4326400-k by omega];exact hA⟩ (Sub.lit (by simp[dTw,wk])) (by simp;omega)
  skip
 ·have qY:k=r.length:=by omega
  rw[uV (by omega)]at hA;subst hA;subst qY;exact Al Aa Aa (Ap @dTw.eq_1 @GT_.eq_1)
end Go.Proofs.Wy
end
section
namespace Go.Proofs.Wy
open Go Go.Dm Tryz
variable [DMode]
def Uj_ (c:Cnf) (w:List Int) (K:List Bool) (p i j:Nat):Prop:=∀(p' i' j':Nat) (q:Prod),(p'<p\/p'=p/\(i'<i\/i'=i/\j'<j))->c.prods[p']? =some q->i'<=j'->j'<w.length+1->Ec w K q.body i' j'=true->tT K (w.length+1) q.head.toNat i' j'=true
structure PassI (c:Cnf) (w:List Int) (K0 K:List Bool) (m:Bool) (p i j:Nat):Prop where
 so:SoK c w K
 le:iU K<=iU K0
 lt:m=true->iU K<iU K0
 eq:m=false->K=K0/\Uj_ c w K0 p i j
theorem FS_ {c:Cnf} {w:List Int} {K:List Bool} (h:SoK c w K):PassI c w K K false 0 0 0 :=
 ⟨h,Nat.le_refl _,by simp,fun _=>⟨rfl,fun p' i' j' q hq=>by omega⟩⟩
theorem KO_ {c:Cnf} {w:List Int} {K0 K:List Bool} {m:Bool} {p i j:Nat} (I:PassI c w K0 K m p i j) {q:Prod} (hq:c.prods[p]? =some q) (h:tT K (w.length+1) q.head.toNat i j=true\/Ec w K q.body i j=false):PassI c w K0 K m p i (j+1):=by
 refine⟨I.so,I.le,I.lt,fun hm=> ?_⟩;obtain⟨rfl,hc⟩:=I.eq hm;refine⟨rfl,fun p' i' j' q' vV hp zJ hj sW=> ?_⟩
 by_cases h1:p'<p\/p'=p/\(i'<i\/i'=i/\j'<j)
 ·exact hc p' i' j' q' h1 hp zJ hj sW
 ·obtain⟨rfl,rfl,rfl⟩:p'=p/\i'=i/\j'=j:=by omega
  rw[hq]at hp;obtain rfl:=Option.some.inj hp
  rcases h with h | h
  ·exact h
  ·rw[h]at sW;simp at sW
theorem NS_ {c:Cnf} {w:List Int} {K0 K:List Bool} {m:Bool} {p i j:Nat} (hc:OkC c) (I:PassI c w K0 K m p i j) {q:Prod} (hq:c.prods[p]? =some q) (zJ:i<=j) (hj:j<w.length+1) (h1:tT K (w.length+1) q.head.toNat i j=false) (h2:Ec w K q.body i j=true):PassI c w K0 (K.set (Pb (w.length+1) q.head.toNat i j) true) true p i (j+1):=by
 have jJ:=bI0 hq;have hd:=hc.hd q jJ;have qV:Pb (w.length+1) q.head.toNat i j<K.length:=by rw[I.so.len];exact Xf (by omega) (by omega) hj
 have hf:K[Pb (w.length+1) q.head.toNat i j]? =some false:=by
  unfold tT at h1;rw[aZ0,aD0 qV]at h1;rw[aD0 qV];simpa using h1
 have hn:=Oj_ hf;have vS:=I.le;exact⟨KD_ hc I.so jJ zJ hj h2,by omega,fun _=>by omega,by simp⟩
theorem NT_ {c:Cnf} {w:List Int} {K0 K:List Bool} {m:Bool} {p i:Nat} (I:PassI c w K0 K m p i (w.length+1)):PassI c w K0 K m p (i+1) (i+1):=by
 refine⟨I.so,I.le,I.lt,fun hm=>⟨(I.eq hm).1,fun p' i' j' q' vV hp zJ hj sW=>(I.eq hm).2 p' i' j' q' ?_ hp zJ hj sW⟩⟩;omega
theorem KN_ {c:Cnf} {w:List Int} {K0 K:List Bool} {m:Bool} {p j:Nat} (I:PassI c w K0 K m p (w.length+1) j):PassI c w K0 K m (p+1) 0 0:=by
 refine⟨I.so,I.le,I.lt,fun hm=>⟨(I.eq hm).1,fun p' i' j' q' vV hp zJ hj sW=>(I.eq hm).2 p' i' j' q' ?_ hp zJ hj sW⟩⟩;omega
theorem NU_ {c:Cnf} {w:List Int} {K0 K:List Bool} {i j:Nat} (I:PassI c w K0 K false c.prods.length i j):PG_ c w K:=by
 obtain⟨rfl,h⟩:=I.eq rfl;intro q hq i' j' zJ hj sW;obtain⟨p,hp,rfl⟩:=bJ0 hq;exact h p i' j' _ (.inl hp) (aD0 hp) zJ hj sW
end Go.Proofs.Wy
end
section
namespace Go.Proofs.Wy
open Go Go.Dm Tryz
attribute [local irreducible] DW Bs Bv
set_option maxRecDepth 100000
def Eb_ : Ann:=⟨[],[]⟩
theorem Ue (n nt i j:Nat) (hn:n<=65) (h1:nt<=1024) (h2:i<=65) (h3:j<=65):Ac prog 225 [.int .i64 (nt:Int),.int .i64 (i:Int),.int .i64 (j:Int),.int .i64 (n:Int)] (.int .i64 (Pb n nt i j:Int)):=by
 refine Ab [] Eb_ func225 call225 ntmps225 mxd (Ap @Eb_.eq_1 results225) rfl (fun qJ B qX qQ=> ?_);clear qJ;simp only[Ak];have b1:nt*n<=1024*65:=eJ0 h1 hn;have b2:(nt*n+i)*n<=(1024*65+65)*65:=eJ0 (by omega) hn;unfold Pb;obtain⟨a1,e1⟩:∃a1,a1=nt*n:=⟨_,rfl⟩;rw[<-e1]at b1 b2 |-;obtain⟨a2,e2⟩:∃a2,a2=(a1+i)*n:=⟨_,rfl⟩;rw[<-e2]at b2 |-;have w1:IntKind.i64.wrap ((nt:Int)*(n:Int))=(a1:Int):=by rw[e1,<-Int.natCast_mul];exact wq
 have w2:IntKind.i64.wrap ((a1:Int)+(i:Int))=((a1+i:Nat):Int):=by rw[wq];omega
 have w3:IntKind.i64.wrap (((a1+i:Nat):Int)*(n:Int))=(a2:Int):=by rw[<-Int.natCast_mul,<-e2];exact wq
 have w4:IntKind.i64.wrap ((a2:Int)+(j:Int))=((a2+j:Nat):Int):=by rw[wq];omega
 obtain⟨a3,e3⟩:∃a3,a3=a1+i:=⟨_,rfl⟩;rw[<-e3]at w2 w3;obtain⟨a4,e4⟩:∃a4,a4=a2+j:=⟨_,rfl⟩;rw[<-e4]at w4 |-;exact Al Aa Aa (CG w1 w2 w3 w4)
def LO (K:List Bool):Ent:=⟨0,0,.row 4 1 1 (K.map ZA)⟩
theorem HN_ {K:List Bool} {n N nt i j:Nat} (hl:K.length=N*n*n) (h1:nt<N) (h2:i<n) (h3:j<n):∃h:Pb n nt i j<K.length,K[Pb n nt i j]'h=tT K n nt i j:=by
 have h:Pb n nt i j<K.length:=by rw[hl];exact Xf h1 h2 h3
 refine⟨h,?_⟩;unfold tT;rw[aZ0,aD0 h];rfl
def SS (w:List Int) (K:List Bool) (a b:Sym) (i j d:Nat):Bool:=(List.range d).any fun d=>tT K (w.length+1) a.n.toNat i (i+d)&&tT K (w.length+1) b.n.toNat (i+d) j
theorem GX_ (w:List Int) (K:List Bool) (a b:Sym) (i j d:Nat):SS w K a b i j (d+1)=(SS w K a b i j d||(tT K (w.length+1) a.n.toNat i (i+d)&&tT K (w.length+1) b.n.toNat (i+d) j)):=by unfold SS;rw[dE0,dU0];simp
theorem Mh_ {w:List Int} {K:List Bool} {a b:Sym} {i j d:Nat} (hd:i+d<=j) (h1:tT K (w.length+1) a.n.toNat i (i+d)=true) (h2:tT K (w.length+1) b.n.toNat (i+d) j=true):SS w K a b i j (j+1-i)=true:=by
 unfold SS;rw[bW0];exact⟨d,cP0.2 (by omega),by rw[h1,h2];rfl⟩
def Ea_ : Ann:=⟨[],[]⟩
theorem Mg_ (w:List Int) (Q:List Bool) (N:Nat) (body:List Sym) (i j:Nat) (hw:w.length<=64) (hN:N<=1024) (hl:Q.length=N*(w.length+1)*(w.length+1)) (zJ:i<=j) (hj:j<w.length+1) (hb:body=[]\/(∃a,body=[a])\/∃a b,body=[a,b]/\0<=a.n/\a.n<(N:Int)/\0<=b.n/\b.n<(N:Int)):AS prog (.func 302) [AY body,BD w,.osl 0 0,.int .i64 (i:Int),.int .i64 (j:Int)] [LO Q] (.bool (Ec w Q body i j)) [LO Q]:=by
 refine Bi [] [(0,0,0)] Ea_ func302 call302 ntmps302 mxd (Ap @Ea_.eq_1 results302) rfl (fun qJ B qX qQ=> ?_) (hv:=(by simp[LO]));simp only[Ak];clear qJ;have wn:IntKind.i64.wrap ((w.length:Int)+1)=(w.length:Int)+1:=wq
 rcases hb with rfl | ⟨a,rfl⟩ | ⟨a,b,rfl,a1,a2,b1,b2⟩
 ·by_cases h:i=j
  ·have e:Ec w Q [] i j=true:=by simp[Ec,h]
   rw[e];exact Al Aa Aa (BC @LO.eq_1 wn h)
  ·have e:Ec w Q [] i j=false:=by simp[Ec,h]
   rw[e];have hb:((i:Int)==(j:Int))=false:=by simpa using (by omega:¬(i:Int)=(j:Int))
   exact Al Aa Aa (BC @LO.eq_1 wn hb)
 ·have wi:IntKind.i64.wrap ((i:Int)+1)=(i:Int)+1:=wq
  by_cases h:j=i+1
  ·obtain⟨x,hx,qU,_⟩:=Ai (l:=w) (k:=i) (by omega);have qV:i<w.length:=by omega
   have tX:((j:Int)==(i:Int)+1)=true:=by simpa using (by omega:(j:Int)=(i:Int)+1)
   by_cases fE:x=a.n
   ·have e:Ec w Q [a] i j=true:=by simp[Ec,h,hx,fE]
    rw[e];exact Al Aa Aa (Hn @LO.eq_1 wn wi tX qV hx qU fE @Du.eq_1 @AA.eq_1)
   ·have e:Ec w Q [a] i j=false:=by simp[Ec,h,hx,fE]
    rw[e];have mM:(x==a.n)=false:=by simpa using fE
    exact Al Aa Aa (Hm @LO.eq_1 wn wi tX qV hx qU fE mM @Du.eq_1 @AA.eq_1)
  ·have e:Ec w Q [a] i j=false:=by simp[Ec,h]
   rw[e];have tX:((j:Int)==(i:Int)+1)=false:=by simpa using (by omega:¬(j:Int)=(i:Int)+1)
   cases hq:w[i]? <;>exact Al Aa Aa (Ez @LO.eq_1 wn wi tX hq @Du.eq_1 @AA.eq_1)
 ·obtain⟨an,hA⟩:∃an:Nat,a.n=(an:Int):=⟨a.n.toNat,by omega⟩;obtain⟨bn,hB⟩:∃bn:Nat,b.n=(bn:Int):=⟨b.n.toNat,by omega⟩;have hR:Ec w Q [a,b] i j=SS w Q a b i j (j+1-i):=rfl;rw[hR];obtain⟨R,hR⟩:∃R,R=SS w Q a b i j (j+1-i):=⟨_,rfl⟩;rw[<-hR]
  (refine Au Aa Aa (Ap @LO.eq_1 wn) ?_;intros;refine Ae ?_)
  refine Af (X:={d:Nat//i+d<=j+1/\SS w Q a b i j d=false}) (fun d=>⟨[(0,AY [a,b]),(1,BD w),(2,.osl 0 0),(3,.int .i64 (i:Int)),(4,.int .i64 (j:Int)),(11,.int .i64 ((w.length:Int)+1)),(12,.int .i64 ((i:Int)+(d.1:Int)))],[LO Q]⟩) (fun d=>j+1-i-d.1) ⟨0,by omega,rfl⟩ (Sub.lit (by simp[LO])) ?_;rintro⟨d,hd,hc⟩;simp only
  by_cases qV:i+d<=j
  ·have vS:(i:Int)+(d:Int)<=(j:Int):=by omega
   have f1:=Ue (w.length+1) an i (i+d) (by omega) (by omega) (by omega) (by omega);have f2:=Ue (w.length+1) bn (i+d) j (by omega) (by omega) (by omega) (by omega);obtain⟨g1,g1'⟩:=HN_ hl (nt:=an) (i:=i) (j:=i+d) (by omega) (by omega) (by omega);obtain⟨g2,g2'⟩:=HN_ hl (nt:=bn) (i:=i+d) (j:=j) (by omega) (by omega) (by omega);have hs:=GX_ w Q a b i j d;rw[hc,hA,hB,cI0,cI0,eO0]at hs;have hh:=Mh_ (w:=w) (K:=Q) (a:=a) (b:=b) qV
   rw[hA,hB,cI0,cI0,<-hR]at hh;have c1:(((w.length+1:Nat)):Int)=(w.length:Int)+1:=by omega
   have c2:(((i+d:Nat)):Int)=(i:Int)+(d:Int):=by omega
   rw[c1,c2]at f1 f2;obtain⟨x1,fU⟩:∃x1,x1=Pb (w.length+1) an i (i+d):=⟨_,rfl⟩;obtain⟨x2,gM⟩:∃x2,x2=Pb (w.length+1) bn (i+d) j:=⟨_,rfl⟩;obtain⟨y1,pT⟩:∃y1,y1=tT Q (w.length+1) an i (i+d):=⟨_,rfl⟩;obtain⟨y2,hy2⟩:∃y2,y2=tT Q (w.length+1) bn (i+d) j:=⟨_,rfl⟩;rw[<-fU]at f1;rw[<-gM]at f2;simp only[<-fU,<-pT]at g1 g1';simp only[<-gM,<-hy2]at g2 g2';rw[<-pT,<-hy2]at hs hh;have wd:IntKind.i64.wrap ((i:Int)+(d:Int)+1)=(i:Int)+((d:Int)+1):=by rw[wq];omega
   cases y1
   ·(refine Au (Ap f1 f2) Aa (Hn @LO.eq_1 wn vS @AA.eq_1 hA hB g1 g1' @ZA.eq_1 wd) ?_;intros;refine Ae ?_)
    refine Ag.mk ⟨d+1,by omega,by simpa using hs⟩ (Sub.lit (by simp[LO,wd])) (by simp;omega)
    skip
   ·cases y2
    ·(refine Au (Ap f1 f2) Aa (FJ @LO.eq_1 wn vS @AA.eq_1 hA hB g1 g1' g2 g2' @ZA.eq_1 wd) ?_;intros;refine Ae ?_)
     refine Ag.mk ⟨d+1,by omega,by simpa using hs⟩ (Sub.lit (by simp[LO,wd])) (by simp;omega)
     skip
    ·have hRt:R=true:=hh rfl rfl;subst hRt;exact Al (Ap f1 f2) Aa (FJ @LO.eq_1 wn vS @AA.eq_1 hA hB g1 g1' g2 g2' @ZA.eq_1 wd)
  ·have qY:d=j+1-i:=by omega
   subst qY;rw[<-hR]at hc;have vS:¬(i:Int)+((j+1-i:Nat):Int)<=(j:Int):=by omega
   rw[hc];exact Al Aa Aa (Ap @LO.eq_1 vS)
def HL (Q:List Bool):Ent:=⟨21,1,.row 4 1 1 (Q.map ZA)⟩
def HJ (c:Cnf) (w:List Int) (m:Bool):List (Nat×DVal):=[(1,BD w),(2,.ref (Ar c)),(5,.int .i64 ((w.length:Int)+1)),(6,.osl 21 1),(7,.bool m)]
def Tx_ (b:Bool):Nat:=if b then 1 else 0
def DZ_ : Ann:=⟨[67],[]⟩
theorem Fk_ (c:Cnf) (w:List Int) (jQ:OkC c) (hP:c.prods.length*32<=150000000000000) (h0:0<=c.nts) (hN:c.nts<=1024) (hw:w.length<=64):Ac prog 224 [.agg (Ar c),BD w] (.sl 1 1 ((tbK c w).map ZA)):=by
 refine Ab [21] DZ_ func224 call224 ntmps224 mxd (Ap @DZ_.eq_1 results224) rfl (fun qJ B qX qQ=> ?_);clear qJ;simp only[Ak];have wn:IntKind.i64.wrap ((w.length:Int)+1)=(w.length:Int)+1:=wq;have b1:c.nts.toNat*(w.length+1)<=1024*65:=eJ0 (by omega) (by omega);have b2:c.nts.toNat*(w.length+1)*(w.length+1)<=1024*65*65:=eJ0 b1 (by omega);have qD:=Nv_ c w;obtain⟨M1,hM1⟩:∃M1,M1=c.nts.toNat*(w.length+1):=⟨_,rfl⟩
 rw[<-hM1]at b1 b2 qD;obtain⟨M2,sG⟩:∃M2,M2=M1*(w.length+1):=⟨_,rfl⟩;rw[<-sG]at b2 qD;have hnn:c.nts=(c.nts.toNat:Int):=by omega
 have c1:(w.length:Int)+1=((w.length+1:Nat):Int):=by omega
 have w1:IntKind.i64.wrap (c.nts*((w.length:Int)+1))=(M1:Int):=by
  rw[hnn,c1,<-Int.natCast_mul,<-hM1];exact wq
 have w2:IntKind.i64.wrap ((M1:Int)*((w.length:Int)+1))=(M2:Int):=by
  rw[c1,<-Int.natCast_mul,<-sG];exact wq
 clear c1 hnn;have fN:(List.replicate M2 false).map ZA=List.replicate M2 [.bool false]:=by rw[List.map_replicate];rfl
 have bP:BK (List.replicate M2 [DVal.bool false])=0:=by rw[<-fN];exact iY _
 have z1:M2*1<=150000000000000:=by omega
 have z2:M2<=9223372036854775807:=by omega
 (refine Au Aa Aa (CG @Ar.eq_1 wn w1 w2) ?_;intros;refine Ae ?_)
 refine Af (X:={x:List Bool×Bool//SoK c w x.1/\(x.2=false->PG_ c w x.1)}) (fun x=>⟨HJ c w x.1.2,[HL x.1.1]⟩) (fun x=>2*iU x.1.1+Tx_ x.1.2) ⟨(List.replicate M2 false,true),qD,by simp⟩ (Sub.lit (by simp[HJ,HL,Ar,fN,bP])) ?_;rintro⟨⟨Q0,m0⟩,hso0,hcl0⟩;simp only at hso0 hcl0 |-;cases m0
 ·have hQ:=Sq_ jQ hso0 (hcl0 rfl);subst hQ;exact Al Aa Aa (BC @HJ.eq_1 @HL.eq_1 @Ar.eq_1)
 clear hcl0
 (refine Au Aa Aa (BC @HJ.eq_1 @HL.eq_1 @Ar.eq_1) ?_;intros;refine Ae ?_)
 refine Af (X:={x:List Bool×Bool×Nat//x.2.2<=c.prods.length/\PassI c w Q0 x.1 x.2.1 x.2.2 0 0}) (fun x=>⟨(8,.int .i64 (x.1.2.2:Int))::HJ c w x.1.2.1,[HL x.1.1]⟩) (fun x=>c.prods.length-x.1.2.2) ⟨(Q0,false,0),cV0 _,FS_ hso0⟩ (Sub.lit (by simp[HJ,HL,Ar])) ?_;rintro⟨⟨Q1,m1,p⟩,hp,I1⟩;simp only at hp I1 |-
 by_cases mH:p<c.prods.length
 ·obtain⟨q,hq,vV,jJ⟩:=Ai mH;have pX:=jQ.hd q jJ;have sF:=jQ.sy q jJ;obtain⟨N,hNN⟩:∃N:Nat,c.nts=(N:Int):=⟨c.nts.toNat,by omega⟩;obtain⟨hn,hh⟩:∃hn:Nat,q.head=(hn:Int):=⟨q.head.toNat,by omega⟩;have wp:IntKind.i64.wrap ((p:Int)+1)=(p:Int)+1:=wq
  (refine Au Aa Aa (EB @HJ.eq_1 @HL.eq_1 @Ar.eq_1 mH hq vV) ?_;intros;refine Ae ?_)
  refine Af (X:={x:List Bool×Bool×Nat//x.2.2<=w.length+1/\PassI c w Q0 x.1 x.2.1 p x.2.2 x.2.2}) (fun x=>⟨(8,.int .i64 (p:Int))::(9,.int .i64 (x.1.2.2:Int))::HJ c w x.1.2.1,[HL x.1.1]⟩) (fun x=>w.length+1-x.1.2.2) ⟨(Q1,m1,0),cV0 _,I1⟩ (Sub.lit (by simp[HJ,HL,Ar])) ?_;rintro⟨⟨Q2,m2,i⟩,hi,I2⟩;simp only at hi I2 |-
  by_cases hli:i<w.length+1
  ·have hli2:(i:Int)<(w.length:Int)+1:=by omega
   have wi:IntKind.i64.wrap ((i:Int)+1)=(i:Int)+1:=wq
   (refine Au Aa Aa (CG @HJ.eq_1 @HL.eq_1 @Ar.eq_1 hli2) ?_;intros;refine Ae ?_)
   refine Af (X:={x:List Bool×Bool×Nat//i<=x.2.2/\x.2.2<=w.length+1/\PassI c w Q0 x.1 x.2.1 p i x.2.2}) (fun x=>⟨(8,.int .i64 (p:Int))::(9,.int .i64 (i:Int))::(10,.int .i64 (x.1.2.2:Int))::HJ c w x.1.2.1,[HL x.1.1]⟩) (fun x=>w.length+1-x.1.2.2) ⟨(Q2,m2,i),Nat.le_refl _,hi,I2⟩ (Sub.lit (by simp[HJ,HL,Ar])) ?_;rintro⟨⟨Q3,m3,j⟩,zJ,hj,I3⟩;simp only at zJ hj I3 |-
   by_cases rY:j<w.length+1
   ·have hlj2:(j:Int)<(w.length:Int)+1:=by omega
    have wj:IntKind.i64.wrap ((j:Int)+1)=(j:Int)+1:=wq;have f1:=Ue (w.length+1) hn i j (by omega) (by omega) (by omega) (by omega);have rX:Q3.length=N*(w.length+1)*(w.length+1):=by rw[I3.so.len,hNN,cI0]
    obtain⟨g1,g1'⟩:=HN_ rX (nt:=hn) (i:=i) (j:=j) (by omega) (by omega) (by omega);have e2:=Mg_ w Q3 N q.body i j hw (by omega) rX zJ rY (by rw[<-hNN];exact sF);have fI:=KO_ I3 hq;have vB:=NS_ jQ I3 hq zJ rY;rw[hh,cI0]at fI vB;have cc:(((w.length+1:Nat)):Int)=(w.length:Int)+1:=by omega
    rw[cc]at f1;obtain⟨x1,fU⟩:∃x1,x1=Pb (w.length+1) hn i j:=⟨_,rfl⟩;obtain⟨y1,pT⟩:∃y1,y1=tT Q3 (w.length+1) hn i j:=⟨_,rfl⟩;obtain⟨y2,hy2⟩:∃y2,y2=Ec w Q3 q.body i j:=⟨_,rfl⟩;rw[<-fU]at f1 vB;simp only[<-fU,<-pT]at g1 g1';rw[<-pT,<-hy2]at fI vB;rw[<-hy2]at e2;simp only[LO]at e2;cases y1
    ·cases y2
     ·skip
      (refine Au (Aq f1) (Aq (DF [(21,0)] [] e2)) (FJ @HJ.eq_1 @HL.eq_1 @Ar.eq_1 @Ah.eq_1 hlj2 mH hq vV hh g1 g1' @ZA.eq_1) ?_;intros;refine Ae ?_)
      refine Ag.mk ⟨(Q3,m3,j+1),by simp only;omega,by simp only;omega,fI (.inr rfl)⟩ (Sub.lit (by simp[HJ,HL,Ar,wj])) (by simp;omega)
      skip
     ·have hms:(Q3.map ZA).set x1 [.bool true]=(Q3.set x1 true).map ZA:=by rw[dR0];rfl
      have yC:BK ((Q3.map ZA).set x1 (ZA true))=0:=by rw[<-dR0];exact iY _
      (refine Au (Aq f1) (Aq (DF [(21,0)] [] e2)) (FJ @HJ.eq_1 @HL.eq_1 @Ar.eq_1 @Ah.eq_1 hlj2 mH hq vV hh g1 g1' @ZA.eq_1) ?_;intros;refine Ae ?_)
      refine Ag.mk ⟨(Q3.set x1 true,true,j+1),by simp only;omega,by simp only;omega,vB rfl rfl⟩ (Sub.lit (by simp[HJ,HL,Ar,wj,hms,yC])) (by simp;omega)
      skip
    ·skip
     (refine Au (Aq f1) Aa (FJ @HJ.eq_1 @HL.eq_1 @Ar.eq_1 @Ah.eq_1 hlj2 mH hq vV hh g1 g1' @ZA.eq_1) ?_;intros;refine Ae ?_)
     refine Ag.mk ⟨(Q3,m3,j+1),by simp only;omega,by simp only;omega,fI (.inl rfl)⟩ (Sub.lit (by simp[HJ,HL,Ar,wj])) (by simp;omega)
     skip
   ·have qY:j=w.length+1:=by omega
    subst qY;have I4:=NT_ I3
    (refine Au Aa Aa (BC @HJ.eq_1 @HL.eq_1 @Ar.eq_1) ?_;intros;refine Ae ?_)
    refine Ag.mk ⟨(Q3,m3,i+1),by simp only;omega,I4⟩ (Sub.lit (by simp[HJ,HL,Ar,wi])) (by simp;omega)
    skip
  ·have qY:i=w.length+1:=by omega
   subst qY;have I4:=KN_ I2
   (refine Au Aa Aa (BC @HJ.eq_1 @HL.eq_1 @Ar.eq_1) ?_;intros;refine Ae ?_)
   refine Ag.mk ⟨(Q2,m2,p+1),by simp only;omega,I4⟩ (Sub.lit (by simp[HJ,HL,Ar,wp])) (by simp;omega)
   skip
 ·have qY:p=c.prods.length:=by omega
  subst qY;have vS:=I1.le;have qV:=I1.lt
  (refine Au Aa Aa (BC @HJ.eq_1 @HL.eq_1 @Ar.eq_1) ?_;intros;refine Ae ?_)
  refine Ag.mk ⟨(Q1,m1),I1.so,fun hm=>by simp only at hm;subst hm;exact NU_ I1⟩ (Sub.lit (by simp[HJ,HL,Ar])) (by cases m1<;>simp[Tx_]<;>(try have:=qV rfl)<;>omega)
  skip
theorem Oc_ {c:Cnf} (h1:BB c=true) (h2:∀p∈c.prods,AB p.body≠0):OkC c:=by
 obtain⟨_,h3⟩:=DD.1 h1;refine⟨fun p hp=>(h3 p hp).1,fun p hp=> ?_⟩;have hs:=(h3 p hp).2
 by_cases hf:AB p.body=1\/AB p.body=2
 ·rcases Zn hf with e | ⟨n,e⟩
  ·exact .inl e
  ·exact .inr (.inl ⟨_,e⟩)
 ·obtain⟨a,b,e⟩:=Sf_ (h2 p hp) hf;refine .inr (.inr ⟨_,_,e,?_⟩);rw[e]at hs;have ha:=hs (nS a) (by simp);have hb:=hs (nS b) (by simp);simp only[GV,nS,aK0,if_false]at ha hb;exact⟨ha.1,ha.2,hb.1,hb.2⟩
theorem PT_ {c:Cnf} {nt:Int} {n:Nat} (h:Yo c nt n=0):BB c=true/\(∀p∈c.prods,AB p.body≠0)/\0<=nt/\nt<c.nts/\n<=64:=by
 unfold Yo at h
 split at h
 ·rename_i h1
  split at h
  ·rename_i h2
   split at h
   ·rename_i h3
    split at h
    ·rename_i h4;refine⟨h1,fun p hp hf=> ?_,h3.1,h3.2,h4⟩;unfold Ey at h2;simp only[aM0,eN0,cZ0]at h2;exact h2.2 p hp (by simp[Eu,hf])
    ·omega
   ·omega
  ·omega
 ·omega
def lT (c:Cnf) (nt:Int) (w:List Int):Bool:=decide ((⟨nt,0,w.length⟩:Fct)∈Hv_ c w)
def DY_ : Ann:=⟨[],[]⟩
theorem ST_ (c:Cnf) (nt:Int) (w:List Int) (h:Yo c nt w.length=0) (hP:c.prods.length*32<=150000000000000):Ac prog 162 [.agg (Ar c),.int .i64 nt,BD w] (.tup [.bool (lT c nt w),.int .i64 0]):=by
 obtain⟨h1,h2,h3,h4,h5⟩:=PT_ h;have jQ:=Oc_ h1 h2;obtain⟨⟨_,hN⟩,_⟩:=DD.1 h1;have e1:=Hl_ c nt w;rw[h]at e1;have e2:=uT c w jQ hP hN h5;have e3:=LJ_ c w (Hv_ c w) ⟨nt,0,w.length⟩;unfold lT;obtain⟨b,hb⟩:∃b,b=decide ((⟨nt,0,w.length⟩:Fct)∈Hv_ c w):=⟨_,rfl⟩;rw[<-hb]at e3 |-;obtain⟨R,hR⟩:∃R,R=Hv_ c w:=⟨_,rfl⟩;rw[<-hR]at e2 e3;simp only[GT_,BN]at e2 e3;simp only[Ar]at e1 e2;refine Ab [] DY_ func162 call162 ntmps162 mxd (Ap @DY_.eq_1 results162) rfl (fun qJ B qX qQ=> ?_)
 clear qJ;simp only[Ak];exact Al (BC e1 e2 e3) Aa (Aq @Ar.eq_1)
def DX_ : Ann:=⟨[],[]⟩
theorem QP_ (c:Cnf) (nt:Int) (w:List Int) (h:Yo c nt w.length=0) (hP:c.prods.length*32<=150000000000000):Ac prog 163 [.agg (Ar c),.int .i64 nt,BD w] (.tup [.bool (lT c nt w),.int .i64 0]):=by
 obtain⟨h1,h2,h3,h4,h5⟩:=PT_ h;have jQ:=Oc_ h1 h2;obtain⟨⟨_,hN⟩,_⟩:=DD.1 h1;have e1:=Fb_ c nt w.length (by omega);rw[h]at e1;have e2:=Fk_ c w jQ hP (by omega) hN h5;obtain⟨a,rfl⟩:=Int.eq_ofNat_of_zero_le h3;have e3:=Ue (w.length+1) a 0 w.length (by omega) (by omega) (by omega) (by omega);have kM:(tbK c w).length=c.nts.toNat*(w.length+1)*(w.length+1):=by unfold tbK;rw[aJ0,dY0]
 obtain⟨g1,g1'⟩:=HN_ kM (nt:=a) (i:=0) (j:=w.length) (by omega) (by omega) (by omega)
 have hB:tT (tbK c w) (w.length+1) a 0 w.length=lT c a w:=by
  unfold lT;rw[fF0,decide_eq_true_iff,Qh_ jQ hN h5];have hx:Pb (w.length+1) a 0 w.length<c.nts.toNat*(w.length+1)*(w.length+1):=Xf (by omega) (by omega) (by omega);unfold tT;rw[aZ0];unfold tbK;rw[bK0,eE0 hx];simp only[dJ0,cC0];rw[@decide_eq_true_iff _ (Classical.propDecidable _)];have q0:0<w.length+1:=by omega
  have q1:Pb (w.length+1) a 0 w.length/(w.length+1)=a*(w.length+1):=by
   unfold Pb;rw[cT0,eB0,Nat.mul_add_div q0,Nat.div_eq_of_lt (by omega),cT0]
  have q2:Pb (w.length+1) a 0 w.length%(w.length+1)=w.length:=by
   unfold Pb;rw[cT0,eB0,Nat.mul_add_mod,eR0 (by omega)]
  rw[q1,q2,Nat.mul_div_cancel _ q0,Nat.mul_mod_left];rfl
 rw[hB]at g1';obtain⟨b,hb⟩:∃b,b=lT c a w:=⟨_,rfl⟩;rw[<-hb]at g1' |-;obtain⟨Q,hQ⟩:∃Q,Q=tbK c w:=⟨_,rfl⟩;simp only[<-hQ]at e2 g1 g1';obtain⟨x1,fU⟩:∃x1,x1=Pb (w.length+1) a 0 w.length:=⟨_,rfl⟩;rw[<-fU]at e3;simp only[<-fU]at g1 g1';have cc:(((w.length+1:Nat)):Int)=(w.length:Int)+1:=by omega
 rw[cc]at e3;simp only[Ar]at e1 e2;have wn:IntKind.i64.wrap ((w.length:Int)+1)=(w.length:Int)+1:=wq;refine Ab [] DX_ func163 call163 ntmps163 mxd (Ap @DX_.eq_1 results163) rfl (fun qJ B qX qQ=> ?_);clear qJ;simp only[Ak];exact Al (BC e1 e2 e3) Aa (Dx @Ar.eq_1 wn g1 g1' @ZA.eq_1)
theorem TZ_ {a b:Nat} (h:(a+8000)*32<=150000000000000) (h2:b<=a+1024):b*32<=150000000000000:=by omega
theorem HE_ {gt:GT} (h:OkgT gt):(En gt).1.prods.length*32<=150000000000000:=by
 have vW:=Qy h;have jP:=KC gt;have pX:=h.hd;obtain⟨x,e1,_,_,_⟩:=Uq h vW;have e2:En gt=(x,0):=e1;rw[e2];exact TZ_ (oQ vW (by omega)) (Rb_ e1)
def Sn (g:List Rul) (X:Cnf) (nt:ByteArray) (w:List ByteArray):Bool:=aI (AE g) w&&lT X (Ht (Ay g) nt) (Ph (AE g) w)
def JJ_ : Ann:=⟨[],[⟨1,[8],[],[]⟩]⟩
theorem QG_ (gt:GT) (h:OkgT gt) (hs:Fl (Bd gt)) (p1:Ac prog 76 [Az (Bd gt)] (.int .i64 0)) (nt:ByteArray) (hn:nt∈Ay (Bd gt)) (w:List ByteArray) (hw:w.length<=64) :
  Ac prog 73 [Az (Bd gt),.str nt,AJ w] (.tup [.bool (Sn (Bd gt) (En gt).1 nt w),.int .i64 0]):=by
 have e2:=BT_ gt h hs p1 nt w hw;have hq:=uL h hn (w:=(Ph (AE (Bd gt)) w).length) (by rw[TC];exact hw);have e3:=ST_ (En gt).1 (Ht (Ay (Bd gt)) nt) (Ph (AE (Bd gt)) w) hq (HE_ h);unfold Sn;obtain⟨X,hX⟩:∃X,X=(En gt).1:=⟨_,rfl⟩;obtain⟨N,hN⟩:∃N,N=Ht (Ay (Bd gt)) nt:=⟨_,rfl⟩;obtain⟨L,hL⟩:∃L,L=AE (Bd gt):=⟨_,rfl⟩;rw[<-hX,<-hN,<-hL]at e2 e3;rw[<-hX,<-hN,<-hL];clear hq;obtain⟨RB,hRB⟩:∃RB,RB=lT X N (Ph L w):=⟨_,rfl⟩
 rw[<-hRB]at e3 |-;simp only[Ar]at e2 e3;refine Ab [] JJ_ func73 call73 ntmps73 mxd (Ap @JJ_.eq_1 results73) rfl (fun qJ B qX qQ=> ?_);clear qJ;simp only[Ak];cases hb:aI L w
 ·rw[hb]at e2;simp only[aK0,if_false]at e2;exact Al (Aq e2) Aa Aa
 ·rw[hb]at e2;simp only[if_true]at e2;exact Al (Ap e2 e3) Aa Aa
def JI_ : Ann:=⟨[],[⟨1,[7],[],[]⟩]⟩
theorem Sw_ (gt:GT) (h:OkgT gt) (hs:Fl (Bd gt)) (p2:Ac prog 13 [Az (Bd gt)] (.int .i64 0)) (nt:ByteArray) (hn:nt∈Ay (Bd gt)) (w:List ByteArray) (hw:w.length<=64) :
  Ac prog 74 [Az (Bd gt),.str nt,AJ w] (.bool (Sn (Bd gt) (En gt).1 nt w)):=by
 have n1:=Fc (k:=3) hs;have n2:(Bd gt).length=gt.length:=FV gt;have n3:=h.le;have e4:=Ft_ (Bd gt) w (by omega) h.lb hw;have e5:=Fu_ gt h hs p2;have e6:=Eg (Bd gt);have e7:=GQ (Ay (Bd gt)) nt;rw[Nq hn,show (LR (Ay (Bd gt)) nt:Int)=Ht (Ay (Bd gt)) nt by unfold Ht;rw[if_pos hn]]at e7;have hq:=uL h hn (w:=(Ph (AE (Bd gt)) w).length) (by rw[TC];exact hw);have e3:=QP_ (En gt).1 (Ht (Ay (Bd gt)) nt) (Ph (AE (Bd gt)) w) hq (HE_ h)
 unfold Sn;unfold wdD at e4;obtain⟨X,hX⟩:∃X,X=(En gt).1:=⟨_,rfl⟩;obtain⟨XE,hXE⟩:∃XE,XE=(En gt).2:=⟨_,rfl⟩;obtain⟨H,hH⟩:∃H,H=Ay (Bd gt):=⟨_,rfl⟩;rw[<-hH]at e6 e7 e3;rw[<-hH];obtain⟨N,hN⟩:∃N,N=Ht H nt:=⟨_,rfl⟩;obtain⟨L,hL⟩:∃L,L=AE (Bd gt):=⟨_,rfl⟩;rw[<-hX,<-hXE]at e5;rw[<-hN]at e7;rw[<-hL]at e4;rw[<-hX,<-hN,<-hL]at e3;rw[<-hX,<-hN,<-hL];clear hq;obtain⟨RB,hRB⟩:∃RB,RB=lT X N (Ph L w):=⟨_,rfl⟩;rw[<-hRB]at e3 |-;simp only[Ar]at e3 e5
 refine Ab [] JI_ func74 call74 ntmps74 mxd (Ap @JI_.eq_1 results74) rfl (fun qJ B qX qQ=> ?_);clear qJ;simp only[Ak];cases hb:aI L w
 ·rw[hb]at e4;simp only[aK0,if_false]at e4;exact Al (CG e4 e5 e6 e7) Aa Aa
 ·rw[hb]at e4;simp only[if_true]at e4;exact Al (Dx e4 e5 e6 e7 e3) Aa Aa
theorem AT_ {c:Int} {g:List Rul} {nt:ByteArray} (h:Hv c g nt=0):c=0/\nt∈Ay g:=by
 unfold Hv at h
 split at h
 ·rename_i hc;refine⟨hc,?_⟩
  split at h
  ·assumption
  ·omega
 ·exact absurd h (by assumption)
def JH_ : Ann:=⟨[],[]⟩
theorem SK (g1 g2 g3 g4 g5:FuncId) (c1 c2 c3 c4 c5:List DVal) (e1 e2 e3 e4 e5:Int) (h1:Ac prog g1 c1 (.int .i64 e1)) (h2:Ac prog g2 c2 (.int .i64 e2)) (h3:Ac prog g3 c3 (.int .i64 e3)) (h4:Ac prog g4 c4 (.int .i64 e4)) (h5:Ac prog g5 c5 (.int .i64 e5)) :
  Ac prog 59 [.sl 1 8 [[.fn (.func g1) [] c1],[.fn (.func g2) [] c2],[.fn (.func g3) [] c3],[.fn (.func g4) [] c4],[.fn (.func g5) [] c5]]] (.int .i64 (if e1=0 then (if e2=0 then (if e3=0 then (if e4=0 then e5 else e4)else e3)else e2)else e1)):=by
 refine Ab [] JH_ func59 call59 ntmps59 mxd (Ap @JH_.eq_1 results59) rfl (fun qJ B qX qQ=> ?_);simp only[Ak];clear qJ;obtain⟨R,hR⟩:∃R,R=(if e1=0 then (if e2=0 then (if e3=0 then (if e4=0 then e5 else e4)else e3)else e2)else e1):=⟨_,rfl⟩;rw[<-hR]
 (refine Au Aa Aa Aa ?_;intros;refine Ae ?_)
 refine Af (X:={k:Nat//k<=5/\(1<=k->e1=0)/\(2<=k->e2=0)/\(3<=k->e3=0)/\(4<=k->e4=0)/\(5<=k->e5=0)}) (fun x=>⟨[(6,.sl 1 8 [[.fn (.func g1) [] c1],[.fn (.func g2) [] c2],[.fn (.func g3) [] c3],[.fn (.func g4) [] c4],[.fn (.func g5) [] c5]]),(7,.int .i64 5),(8,.int .i64 x.1)],[]⟩) (fun x=>5-x.1) ⟨0,by simp⟩ (Sub.lit (by simp)) ?_;rintro⟨k,hk,q1,q2,q3,q4,q5⟩
 match k,hk,q1,q2,q3,q4,q5 with
 | 0,_,_,_,_,_,_ =>
  by_cases h:e1=0
  ·(refine Au (Aq h1) Aa (Aq h) ?_;intros;refine Ae ?_)
   exact Ag.mk ⟨1,by omega,fun _=>h,by omega,by omega,by omega,by omega⟩ (Sub.lit (by simp)) (by simp)
   skip
  ·have vP:R=e1:=by rw[hR];simp[h]
   subst vP;exact Al (Aq h1) Aa (Aq h)
 | 1,_,q1,_,_,_,_ =>
  have q1:=q1 (by omega)
  by_cases h:e2=0
  ·(refine Au (Aq h2) Aa (Aq h) ?_;intros;refine Ae ?_)
   exact Ag.mk ⟨2,by omega,fun _=>q1,fun _=>h,by omega,by omega,by omega⟩ (Sub.lit (by simp)) (by simp)
   skip
  ·have vP:R=e2:=by rw[hR];simp[h,q1]
   subst vP;exact Al (Aq h2) Aa (Aq h)
 | 2,_,q1,q2,_,_,_ =>
  have q1:=q1 (by omega);have q2:=q2 (by omega)
  by_cases h:e3=0
  ·(refine Au (Aq h3) Aa (Aq h) ?_;intros;refine Ae ?_)
   exact Ag.mk ⟨3,by omega,fun _=>q1,fun _=>q2,fun _=>h,by omega,by omega⟩ (Sub.lit (by simp)) (by simp)
   skip
  ·have vP:R=e3:=by rw[hR];simp[h,q1,q2]
   subst vP;exact Al (Aq h3) Aa (Aq h)
 | 3,_,q1,q2,q3,_,_ =>
  have q1:=q1 (by omega);have q2:=q2 (by omega);have q3:=q3 (by omega)
  by_cases h:e4=0
  ·(refine Au (Aq h4) Aa (Aq h) ?_;intros;refine Ae ?_)
   exact Ag.mk ⟨4,by omega,fun _=>q1,fun _=>q2,fun _=>q3,fun _=>h,by omega⟩ (Sub.lit (by simp)) (by simp)
   skip
  ·have vP:R=e4:=by rw[hR];simp[h,q1,q2,q3]
   subst vP;exact Al (Aq h4) Aa (Aq h)
 | 4,_,q1,q2,q3,q4,_ =>
  have q1:=q1 (by omega);have q2:=q2 (by omega);have q3:=q3 (by omega);have q4:=q4 (by omega)
  by_cases h:e5=0
  ·(refine Au (Aq h5) Aa (Aq h) ?_;intros;refine Ae ?_)
   exact Ag.mk ⟨5,by omega,fun _=>q1,fun _=>q2,fun _=>q3,fun _=>q4,fun _=>h⟩ (Sub.lit (by simp)) (by simp)
   skip
  ·have vP:R=e5:=by rw[hR];simp[q1,q2,q3,q4]
   subst vP;exact Al (Aq h5) Aa (Aq h)
 | 5,_,q1,q2,q3,q4,q5 =>
  have q1:=q1 (by omega);have q2:=q2 (by omega);have q3:=q3 (by omega);have q4:=q4 (by omega);have q5:=q5 (by omega);have vP:R=0:=by rw[hR];simp[q1,q2,q3,q4,q5]
  subst vP;exact Al Aa Aa Aa
def JG_ : Ann:=⟨[],[]⟩
theorem Sy (g:List Rul) (c:Int) (h:Ac prog 76 [Az g] (.int .i64 c)):Ac prog 75 [.ref [Az g]] (.int .i64 c):=by
 refine Ab [] JG_ func75 call75 ntmps75 mxd (Ap @JG_.eq_1 results75) rfl (fun qJ B qX qQ=> ?_);clear qJ;simp only[Ak];exact Al (Aq h) Aa Aa
def JF_ : Ann:=⟨[],[]⟩
theorem Sx (d:Edges):Ac prog 77 [.ref (BU d)] (.int .i64 (Gd d)):=by
 refine Ab [] JF_ func77 call77 ntmps77 mxd (Ap @JF_.eq_1 results77) rfl (fun qJ B qX qQ=> ?_);clear qJ;simp only[Ak];have h:=oR d;simp only[BU]at h;exact Al (Aq h) Aa (Aq @BU.eq_1)
def JE_ : Ann:=⟨[],[]⟩
theorem Sw (g:List Rul) (nt:ByteArray) (c:Int) (h:Ac prog 76 [Az g] (.int .i64 c)):Ac prog 79 [.ref [Az g],.ref [.str nt]] (.int .i64 (Hv c g nt)):=by
 refine Ab [] JE_ func79 call79 ntmps79 mxd (Ap @JE_.eq_1 results79) rfl (fun qJ B qX qQ=> ?_);clear qJ;simp only[Ak];have e1:=Gq_ g nt c h;obtain⟨R,hR⟩:∃R,R=Hv c g nt:=⟨_,rfl⟩;rw[<-hR]at e1 |-;exact Al (Aq e1) Aa Aa
def JD_ : Ann:=⟨[],[]⟩
theorem Sv (d:Edges) (a b:ByteArray):Ac prog 80 [.ref (BU d),.ref [.str a],.ref [.str b]] (.int .i64 (FF d a b)):=by
 refine Ab [] JD_ func80 call80 ntmps80 mxd (Ap @JD_.eq_1 results80) rfl (fun qJ B qX qQ=> ?_);clear qJ;simp only[Ak];have h:=SO d a b;simp only[BU]at h;exact Al (Aq h) Aa (Aq @BU.eq_1)
def JC_ : Ann:=⟨[],[]⟩
theorem Su (way:List Edge):Ac prog 82 [.ref [Cq way]] (.int .i64 (if 64<way.length then 3 else 0)):=by
 refine Ab [] JC_ func82 call82 ntmps82 mxd (Ap @JC_.eq_1 results82) rfl (fun qJ B qX qQ=> ?_);clear qJ;simp only[Ak]
 by_cases c:64<way.length
 ·have d:(64:Int)<way.length:=by omega
  have h:=Dt true 3;simp only[if_true]at h;exact Al (Aq h) Aa (Ap c d)
 ·have d:¬(64:Int)<way.length:=by omega
  have h:=Dt false 3;simp only[aK0,if_false]at h;exact Al (Aq h) Aa (Ap c d)
def FT (c:Int) (g:List Rul) (d:Edges) (nt a b:ByteArray) (way:List Edge):Int:=if c=0 then (if Gd d=0 then (if Hv c g nt=0 then (if FF d a b=0 then (if 64<way.length then 3 else 0)else FF d a b)else Hv c g nt)else Gd d)else c
theorem UH (way:List Edge):(Cm way).length=way.length:=by unfold Cm;rw[aJ0]
theorem Ml {c:Int} {g:List Rul} {d:Edges} {nt a b:ByteArray} {way:List Edge} (h:FT c g d nt a b way=0):c=0/\Gd d=0/\Hv c g nt=0/\FF d a b=0/\way.length<=64:=by
 unfold FT at h
 split at h
 ·rename_i h1
  split at h
  ·rename_i h2
   split at h
   ·rename_i h3
    split at h
    ·rename_i h4
     split at h
     ·omega
     ·exact⟨h1,h2,h3,h4,by omega⟩
    ·exact absurd h (by assumption)
   ·exact absurd h (by assumption)
  ·exact absurd h (by assumption)
 ·exact absurd h (by assumption)
def Ui : Ann:=⟨[],[]⟩
theorem GV_ (g:List Rul) (d:Edges) (nt a b:ByteArray) (way:List Edge) (c:Int) (h:Ac prog 76 [Az g] (.int .i64 c)) (he:FT c g d nt a b way≠0):Ac prog 25 [Az g,.agg (BU d),.str nt,.str a,.str b,Cq way] (.tup [.bool false,.int .i64 (FT c g d nt a b way)]):=by
 have e1:=SK 75 77 79 80 82 [.ref [Az g]] [.ref (BU d)] [.ref [Az g],.ref [.str nt]] [.ref (BU d),.ref [.str a],.ref [.str b]] [.ref [Cq way]] _ _ _ _ _ (Sy g c h) (Sx d) (Sw g nt c h) (Sv d a b) (Su way);have sK:(([0,1,2,3,4]:List Nat)=List.range 5)=True:=eq_true rfl;obtain⟨R,hR⟩:∃R,R=FT c g d nt a b way:=⟨_,rfl⟩;unfold FT at hR;rw[<-hR]at e1;have wX:R=FT c g d nt a b way:=hR;rw[<-wX]at he |-;clear hR wX
 have hRb:(R==0)=false:=by simpa using he
 have hRc:(R != 0)=true:=by simpa using he
 simp only[BU]at e1;refine Ab [] Ui func25 call25 ntmps25 mxd (Ap @Ui.eq_1 results25) rfl (fun qJ B qX qQ=> ?_);clear qJ;simp only[Ak];exact Al (Aq e1) Aa (Dx @BU.eq_1 sK he hRb hRc)
theorem Md_ (gt:GT) (h:OkgT gt) (hs:Fl (Bd gt)) (p1:Ac prog 76 [Az (Bd gt)] (.int .i64 0)) (d:Edges) (nt a b:ByteArray) (way:List Edge) (he:FT 0 (Bd gt) d nt a b way=0) :
  Ac prog 25 [Az (Bd gt),.agg (BU d),.str nt,.str a,.str b,Cq way] (.tup [.bool (Ju d a b way&&Sn (Bd gt) (En gt).1 nt (Cm way)),.int .i64 0]):=by
 obtain⟨_,_,h3,_,h5⟩:=Ml he;have hn:=(AT_ h3).2;have e1:=SK 75 77 79 80 82 [.ref [Az (Bd gt)]] [.ref (BU d)] [.ref [Az (Bd gt)],.ref [.str nt]] [.ref (BU d),.ref [.str a],.ref [.str b]] [.ref [Cq way]] _ _ _ _ _ (Sy (Bd gt) 0 p1) (Sx d) (Sw (Bd gt) nt 0 p1) (Sv d a b) (Su way);have sK:(([0,1,2,3,4]:List Nat)=List.range 5)=True:=eq_true rfl;unfold FT at he;rw[he]at e1;have e2:=AY_ d a b way;have e3:=eA way
 have e4:=QG_ gt h hs p1 nt hn (Cm way) (by rw[UH];exact h5);obtain⟨RB,hRB⟩:∃RB,RB=Sn (Bd gt) (En gt).1 nt (Cm way):=⟨_,rfl⟩;rw[<-hRB]at e4 |-;obtain⟨WB,hWB⟩:∃WB,WB=Ju d a b way:=⟨_,rfl⟩;rw[<-hWB]at e2 |-;obtain⟨SP,hSP⟩:∃SP,SP=Cm way:=⟨_,rfl⟩;rw[<-hSP]at e3 e4;simp only[BU]at e1 e2;refine Ab [] Ui func25 call25 ntmps25 mxd (Ap @Ui.eq_1 results25) rfl (fun qJ B qX qQ=> ?_);clear qJ;simp only[Ak];cases WB
 ·skip
  exact Al (Ap e1 e2) Aa (Ap @BU.eq_1 sK)
 ·skip
  exact Al (CG e1 e2 e3 e4) Aa (Ap @BU.eq_1 sK)
theorem So_ {d:Edges} {a b:ByteArray} {way:List Edge} (h1:Gd d=0) (h2:FF d a b=0) (h3:way.length<=64):Fc_ d a b way=if Ju d a b way then 0 else 370:=by
 unfold Fc_;rw[if_pos h1,if_pos h2,if_neg (by omega)]
theorem BB_ (d:Edges) (a b:ByteArray):FF d a b=0\/FF d a b=4:=by unfold FF;split<;>simp
def Uh : Ann:=⟨[],[]⟩
theorem Ab_ (g:List Rul) (d:Edges) (nt a b:ByteArray) (way:List Edge) (c:Int) (h:Ac prog 13 [Az g] (.int .i64 c)) (he:FT c g d nt a b way≠0):Ac prog 26 [Az g,.agg (BU d),.str nt,.str a,.str b,Cq way] (.tup [.bool false,.int .i64 (FT c g d nt a b way)]):=by
 have e2:=Ls d;have e3:=Ss g nt c h;have e4:=Ur d a b way;have hec:=BB_ d a b;have hwy:Gd d=0->Fc_ d a b way=if FF d a b=0 then (if 64<way.length then 3 else if Ju d a b way then 0 else 370)else FF d a b:=fun hh=>by unfold Fc_;rw[if_pos hh]
 unfold FT at he |-;obtain⟨KI,hKI⟩:∃KI,KI=Hv c g nt:=⟨_,rfl⟩;obtain⟨CI,hCI⟩:∃CI,CI=Gd d:=⟨_,rfl⟩;obtain⟨EI,hEI⟩:∃EI,EI=FF d a b:=⟨_,rfl⟩;obtain⟨WI,hWI⟩:∃WI,WI=Fc_ d a b way:=⟨_,rfl⟩;rw[<-hCI,<-hEI,<-hWI]at hwy;rw[<-hEI]at hec;rw[<-hKI]at e3;rw[<-hCI]at e2;rw[<-hWI]at e4;rw[<-hKI,<-hCI,<-hEI]at he |-;clear hKI hCI hEI hWI;simp only[BU]at e2 e4;refine Ab [] Uh func26 call26 ntmps26 mxd (Ap @Uh.eq_1 results26) rfl (fun qJ B qX qQ=> ?_)
 clear qJ;simp only[Ak]
 by_cases h1:c=0
 rotate_left
 ·have cX:(c==0)=false:=by simpa using h1
  have h1c:(c != 0)=true:=by simpa using h1
  exact Al (Aq h) Aa (CG @BU.eq_1 h1 cX h1c)
 by_cases h2:CI=0
 rotate_left
 ·have cX:(CI==0)=false:=by simpa using h2
  have h1c:(CI != 0)=true:=by simpa using h2
  exact Al (Ap h e2) Aa (Dx @BU.eq_1 h1 h2 cX h1c)
 by_cases h3:KI=0
 rotate_left
 ·have cX:(KI==0)=false:=by simpa using h3
  have h1c:(KI != 0)=true:=by simpa using h3
  exact Al (BC h e2 e3) Aa (EB @BU.eq_1 h1 h2 h3 cX h1c)
 rw[if_pos h1,if_pos h2,if_pos h3]at he |-;have hW:=hwy h2
 by_cases h4:EI=0
 ·rw[if_pos h4]at he hW |-
  by_cases h5:64<way.length
  ·rw[if_pos h5]at hW |-;subst hW;exact Al (CG h e2 e3 e4) Aa (CG @BU.eq_1 h1 h2 h3)
  ·rw[if_neg h5]at he;exact absurd rfl he
 ·rw[if_neg h4]at he hW |-;have h6:EI=4:=hec.resolve_left h4;subst hW;rw[h6]at e4 |-;exact Al (CG h e2 e3 e4) Aa (CG @BU.eq_1 h1 h2 h3)
theorem FK_ (gt:GT) (h:OkgT gt) (hs:Fl (Bd gt)) (p2:Ac prog 13 [Az (Bd gt)] (.int .i64 0)) (d:Edges) (nt a b:ByteArray) (way:List Edge) (he:FT 0 (Bd gt) d nt a b way=0) :
  Ac prog 26 [Az (Bd gt),.agg (BU d),.str nt,.str a,.str b,Cq way] (.tup [.bool (Ju d a b way&&Sn (Bd gt) (En gt).1 nt (Cm way)),.int .i64 0]):=by
 obtain⟨_,h2,h3,h4,h5⟩:=Ml he;have hn:=(AT_ h3).2;have e2:=Ls d;rw[h2]at e2;have e3:=Ss (Bd gt) nt 0 p2;rw[h3]at e3;have e4:=Ur d a b way;rw[So_ h2 h4 h5]at e4;have e5:=aZ way;have e6:=Sw_ gt h hs p2 nt hn (Cm way) (by rw[UH];exact h5);obtain⟨RB,hRB⟩:∃RB,RB=Sn (Bd gt) (En gt).1 nt (Cm way):=⟨_,rfl⟩;rw[<-hRB]at e6 |-;obtain⟨WB,hWB⟩:∃WB,WB=Ju d a b way:=⟨_,rfl⟩;rw[<-hWB]at e4 |-;obtain⟨SP,hSP⟩:∃SP,SP=Cm way:=⟨_,rfl⟩
 rw[<-hSP]at e5 e6;simp only[BU]at e2 e4;refine Ab [] Uh func26 call26 ntmps26 mxd (Ap @Uh.eq_1 results26) rfl (fun qJ B qX qQ=> ?_);clear qJ;simp only[Ak];cases WB
 ·simp only[aK0,if_false]at e4;exact Al (CG p2 e2 e3 e4) Aa (Aq @BU.eq_1)
 ·simp only[if_true]at e4;exact Al (EB p2 e2 e3 e4 e5 e6) Aa (Aq @BU.eq_1)
theorem FE_ (g:List Rul) (d:Edges) (nt a b:ByteArray) (way:List Edge) (hs:Fl g):∃(x:Bool) (e:Int),Ac prog 25 [Az g,.agg (BU d),.str nt,.str a,.str b,Cq way] (.tup [.bool x,.int .i64 e])/\Ac prog 26 [Az g,.agg (BU d),.str nt,.str a,.str b,Cq way] (.tup [.bool x,.int .i64 e]):=by
 obtain⟨c,p1,p2,p3⟩:=TU_ g hs
 by_cases he:FT c g d nt a b way=0
 ·have yG:=(Ml he).1;obtain⟨gt,rfl,h⟩:=p3 yG;subst yG;exact⟨_,_,Md_ gt h hs p1 d nt a b way he,FK_ gt h hs p2 d nt a b way he⟩
 ·exact⟨_,_,GV_ g d nt a b way c p1 he,Ab_ g d nt a b way c p2 he⟩
def Qf_ : Ann:=⟨[],[]⟩
theorem Tr (g:List Rul) (d:Edges) (nt a b:ByteArray) (way:List Edge) (hs:Fl g):Ac prog 7 [.agg [Az g,AJ d.nodes,Cq d.edges,.str nt,.str a,.str b,Cq way]] (.bool true):=by
 obtain⟨x,e,f1,f2⟩:=FE_ g d nt a b way hs;have f3:=GA_;simp only[BU]at f1 f2;refine Ab [] Qf_ func7 call7 ntmps7 mxd (Ap @Qf_.eq_1 results7) rfl (fun qJ B qX qQ=> ?_);clear qJ;simp only[Ak];exact Al (BC f1 f2 f3) Aa (Aq @BU.eq_1)
end Go.Proofs.Wy
end
section
namespace Go.Dm
variable [DMode]
inductive Sh where
 | b
 | i (k:IntKind)
 | s
 | sl (k bs:Nat) (c:List Sh)
mutual
def Rb (L:Nat):Sh->DVal->Prop
 | .b,d=>∃b,d= .bool b
 | .i k,d=>∃n,d= .int k n
 | .s,d=>∃x:ByteArray,d= .str x/\x.size<=L
 | .sl k bs c,d=>∃es,d= .sl k bs es/\es.length*bs<=L/\∀e∈es,FL L c e
def FL (L:Nat):List Sh->List DVal->Prop
 | [],ds=>ds=[]
 | x::r,ds=>∃d t,ds=d::t/\Rb L x d/\FL L r t
end
theorem SY {L:Nat}:∀{a b:List Sh} {x y:List DVal},FL L a x->FL L b y->FL L (a++b) (x++y)
 | [],b,x,y,h,k=>by simp only[FL]at h;subst h;exact k
 | a::r,b,x,y,h,k=>by
  simp only[FL]at h;obtain⟨d,t,rfl,h1,h2⟩:=h;simp only[List.cons_append,FL];exact⟨d,t++y,rfl,h1,SY h2 k⟩
def shF (g:TypeId->Option (List Sh)) (cells:TypeId->Nat):List Field->Nat->Option (List Sh×Nat)
 | [],off=>some ([],off)
 | f::r,off=>if f.offset=off then
  (match g f.type,shF g cells r (off+cells f.type)with
  | some c,some (l,e)=>some (c++l,e)
  | _,_=>none)else none
def Fa (P:Program):Nat->TypeId->Option (List Sh)
 | 0,_=>none
 | n+1,t=>match P.underlying t with
  | some .bool=>some [.b]
  | some (.int k)=>some [.i k]
  | some .string=>some [.s]
  | some (.slice e)=>if 0<P.cellsOf e then (Fa P n e).map fun c=>[.sl (P.cellsOf e) (P.bytesOf e) c]else none
  | some (.struct fs)=>match shF (Fa P n) P.cellsOf fs.toList 0 with
   | some (l,e)=>if e=P.cellsOf t then some l else none
   | none=>none
  | _=>none
theorem Rz {α β:Type} {f:α->Option β}:∀{l:List α} {r:List β},l.mapM f=some r->r.length=l.length/\∀(i:Nat) (x:α),l[i]? =some x->∃y,r[i]? =some y/\f x=some y
 | [],r,h=>by simp at h;subst h;simp
 | a::l,r,h=>by
  rw[List.mapM_cons]at h
  cases hf:f a with
  | none=>rw[hf]at h;simp at h
  | some y =>
   rw[hf]at h
   cases hm:l.mapM f with
   | none=>rw[hm]at h;simp at h
   | some r' =>
    rw[hm]at h;simp at h;subst h;obtain⟨h1,h2⟩:=Rz hm;refine⟨by simp[h1],fun i x hx=> ?_⟩
    cases i with
    | zero=>simp only[bF0,aA0]at hx;subst hx;exact⟨y,rfl,hf⟩
    | succ i=>simp only[bT0]at hx |-;exact h2 i x hx
theorem HV_ {cur:Gp} {M:List Nat} {h:Array Obj}:∀{a:List DVal} {x:List Value},AL cur M h a x->a.length=x.length
 | [],x,h1=>by simp only[AL]at h1;subst h1;rfl
 | d::a,x,h1=>by
  simp only[AL]at h1;obtain⟨v,r,rfl,h3,h4⟩:=h1;simp[HV_ h4]
theorem UZ {cur:Gp} {M:List Nat} {h:Array Obj} {arr:Array Value}:∀{a:List DVal} {x:List Value} {o:Nat},AL cur M h a x->(∀v∈x,v.oneCell'=true)->(∀(j:Nat) v,x[j]? =some v->arr[o+j]? =some v)->ET cur M h a arr o
 | [],x,o,h1,_,_=>by simp[ET]
 | d::a,x,o,h1,h2,h3=>by
  simp only[AL]at h1;obtain⟨v,r,rfl,h4,h5⟩:=h1;simp only[ET];refine⟨⟨v,by simpa using h3 0 v rfl,h2 v (by simp),h4⟩,UZ h5 (fun u hu=>h2 u (by simp[hu])) fun j u hu=> ?_⟩;have:=h3 (j+1) u (by simpa using hu);rw[<-this];congr 1;omega
theorem HO_ {L:Nat} {cur:Gp} {M:List Nat} {h:Array Obj} {arr:Array Value} {k:Nat} {c:List Sh}:∀(len off:Nat),(∀i,i<len->∃ds,ds.length=k/\ET cur M h ds arr (off+i*k)/\FL L c ds) ->
  ∃es,es.length=len/\Fz cur M h k es arr off/\∀e∈es,FL L c e
 | 0,off,_=>⟨[],rfl,by simp[Fz],by simp⟩
 | len+1,off,hh=>by
  obtain⟨ds,h1,h2,h3⟩:=hh 0 (by omega)
  obtain⟨es,h4,h5,h6⟩:=HO_ len (off+k) (fun i hi=>by
   obtain⟨ds,h1,h2,h3⟩:=hh (i+1) (by omega);refine⟨ds,h1,?_,h3⟩;have:off+k+i*k=off+(i+1)*k:=by rw[cA0];omega
   rw[this];exact h2)
  refine⟨ds::es,by simp[h4],?_,?_⟩
  ·simp only[Fz];exact⟨h1,by simpa using h2,h5⟩
  ·intro e he
   rcases aL0.1 he with rfl | he
   ·exact h3
   ·exact h6 e he
theorem LE_ {k:IntKind} {n:Int} (h:(Lit.int k n).wf=true):MF k n:=by
 cases k<;>simpa[Lit.wf,IntKind.min,IntKind.max,IntKind.signed,IntKind.bits,MF]using h
theorem xE {g:TypeId->Option (List Sh)} {cells:TypeId->Nat}:∀{fs:List Field} {off e:Nat} {l:List Sh},shF g cells fs off=some (l,e)->off<=e
 | [],off,e,l,h=>by simp only[shF,aA0,aY0]at h;omega
 | f::r,off,e,l,h=>by
  simp only[shF]at h
  split at h
  ·split at h
   ·rename_i c l' e' h1 h2;simp only[aA0,aY0]at h;have:=xE h2;omega
   ·simp at h
  ·simp at h
section
variable {H : Type} {enc : TypeId × Value -> H} {P : Program} {w : World} {cur : Gp}
def Qp_ (L:Nat) (P:Program) (cur:Gp) (w:World) (cs:List Value) (shs:List Sh):Prop :=
 ∃ds,AL cur [] w.heap ds cs/\(∀v∈cs,v.oneCell'=true)/\FL L shs ds
theorem Zt {L fuel n:Nat} (ih:∀{t:TypeId} {cs:List Value} {d:DataW H} {ps:List MemPlace} {shs:List Sh},DataW.trod enc P w 0 (fun _=>true) true fuel t cs=some (d,ps)->Fa P n t=some shs->(∀x∈d.weights P t,x<=L)->Qp_ L P cur w cs shs)
  (cs:List Value):∀(fs:List Field) (off e:Nat) (l:List Sh) (xs:List (DataW H×List MemPlace)),
   fs.mapM (fun f=>DataW.trod enc P w 0 (fun _=>true) true fuel f.type ((cs.drop f.offset).take (P.cellsOf f.type)))=some xs->shF (Fa P n) P.cellsOf fs off=some (l,e) ->
   (∀x∈DataW.weightsEach P (fs.map (·.type)) (xs.map (·.1)),x<=L)->Qp_ L P cur w ((cs.drop off).take (e-off)) l
 | [],off,e,l,xs,h1,h2,h3=>by
  simp only[shF,aA0,aY0]at h2;obtain⟨rfl,rfl⟩:=h2;exact⟨[],by simp[AL],by simp,by simp[FL]⟩
 | f::fs,off,e,l,xs,h1,h2,h3=>by
  rw[List.mapM_cons]at h1;simp only[shF]at h2
  split at h2
  ·rename_i hoff
   split at h2
   ·rename_i c l' e' h4 h5;simp only[aA0,aY0]at h2;obtain⟨rfl,rfl⟩:=h2;have hm:=xE h5
    cases hf:DataW.trod enc P w 0 (fun _=>true) true fuel f.type ((cs.drop f.offset).take (P.cellsOf f.type))with
    | none=>rw[hf]at h1;simp at h1
    | some x =>
     rw[hf]at h1
     cases hr:fs.mapM (fun f=>DataW.trod enc P w 0 (fun _=>true) true fuel f.type ((cs.drop f.offset).take (P.cellsOf f.type)))with
     | none=>rw[hr]at h1;simp at h1
     | some xr =>
      rw[hr]at h1;simp at h1;subst h1;simp only[List.map_cons,DataW.weightsEach,aI0]at h3;obtain⟨d1,a1,a2,a3⟩:=ih hf h4 (fun y hy=>h3 y (.inl hy));obtain⟨d2,b1,b2,b3⟩:=Zt ih cs fs (off+P.cellsOf f.type) e' l' xr hr h5 (fun y hy=>h3 y (.inr hy))
      have gE:(cs.drop off).take (e'-off)=(cs.drop f.offset).take (P.cellsOf f.type)++(cs.drop (off+P.cellsOf f.type)).take (e'-(off+P.cellsOf f.type)):=by
       rw[hoff,<-fL0,show e'-off=P.cellsOf f.type+(e'-(off+P.cellsOf f.type)) by omega,List.take_add]
      rw[gE];exact⟨d1++d2,CU _ _ _ _ a1 b1,fun v hv=>(aI0.1 hv).elim (a2 v) (b2 v),SY a3 b3⟩
   ·simp at h2
  ·simp at h2
theorem LW {e:TypeId}:∀{l:List (DataW H)} {d:DataW H},d∈l->∀x∈d.weights P e,x∈DataW.weightsAll P e l
 | a::l,d,hd,x,hx=>by
  simp only[DataW.weightsAll,aI0]
  rcases aL0.1 hd with rfl | hd
  ·exact .inl hx
  ·exact .inr (LW hd x hx)
theorem ZE {a:Addr} {n:Nat} {cs:List Value} (h:w.cells? 0 a n=some cs):cs.length=n/\∀(j:Nat) v,cs[j]? =some v->w.cell? (a.add j)=some v:=by
 unfold World.cells? at h;rw[if_pos (cV0 _)]at h;obtain⟨h1,h2⟩:=Rz h;rw[dY0]at h1;refine⟨h1,fun j v hv=> ?_⟩;have hj:j<n:=by rw[<-h1];exact(aB0.1 hv).1
 obtain⟨y,hy,wN⟩:=h2 j j (by rw[eE0 hj]);rw[hv]at hy;rw[wN,hy]
theorem EL_ (b o n:Nat):(⟨b,o,none⟩:Addr).add n=⟨b,o+n,none⟩:=by
 unfold Addr.add
 split
 ·rename_i h;subst h;rfl
 ·rfl
theorem aP {L:Nat} (hL:L<=140737488355328):∀{fuel n:Nat} {t:TypeId} {cs:List Value} {d:DataW H} {ps:List MemPlace} {shs:List Sh},DataW.trod enc P w 0 (fun _=>true) true fuel t cs=some (d,ps)->Fa P n t=some shs ->
  (∀x∈d.weights P t,x<=L)->Qp_ L P cur w cs shs
 | 0,n,t,cs,d,ps,shs,h,hs,hw=>by simp[DataW.trod]at h
 | fuel+1,0,t,cs,d,ps,shs,h,hs,hw=>by simp[Fa]at hs
 | fuel+1,n+1,t,cs,d,ps,shs,h,hs,hw=>by
  unfold DataW.trod at h
  split at h
  ·rename_i b hu;simp only[Fa,hu,aA0]at hs;subst hs;exact⟨[.bool b],by simp[AL,rd],by simp[Value.oneCell'],by simp[FL,Rb]⟩
  ·rename_i k k' n' hu;simp only[Fa,hu,aA0]at hs;subst hs
   split at h
   ·rename_i hk;obtain⟨rfl,hk⟩:=hk;exact⟨[.int k' n'],by simp[AL,rd,LE_ hk],by simp[Value.oneCell'],by simp[FL,Rb]⟩
   ·simp at h
  ·rename_i hu;simp[Fa,hu]at hs
  ·rename_i x hu;simp only[Fa,hu,aA0]at hs;subst hs
   split at h
   ·rename_i hk;simp only[aA0,aY0]at h;obtain⟨rfl,_⟩:=h;have qM:=hw x.data.toList.length (by simp[DataW.weights]);exact⟨[.str x],by simp[AL,rd,hk],by simp[Value.oneCell'],by simp only[FL,Rb];exact⟨_,_,rfl,⟨x,rfl,by rw[bU0]at qM;exact qM⟩,rfl⟩⟩
   ·simp at h
  ·rename_i hu;simp[Fa,hu]at hs
  ·rename_i hu;simp[Fa,hu]at hs
  ·rename_i e hu;simp only[Fa,hu]at hs
   split at hs
   rotate_left
   ·simp at hs
   rename_i vT;rw[bH0]at hs;obtain⟨c,hc,rfl⟩:=hs;exact⟨[.sl (P.cellsOf e) (P.bytesOf e) []],by simp only[AL,rd];exact⟨_,_,rfl,⟨none,0,rfl,Nat.le_refl _,cV0 _,by simp,.inl ⟨trivial,fun _=>rfl⟩⟩,rfl⟩,by simp[Value.oneCell'],by simp[FL,Rb]⟩
  ·rename_i e a len cap hu;simp only[Fa,hu]at hs
   split at hs
   rotate_left
   ·simp at hs
   rename_i vT;rw[bH0]at hs;obtain⟨c,hc,rfl⟩:=hs;simp only at h
   split at h
   ·rename_i hb;obtain⟨_,qE,qP⟩:=hb
    cases hm:(List.range len).mapM (fun i=>(w.cells? 0 (a.add (i*P.cellsOf e)) (P.cellsOf e)).bind (DataW.trod enc P w 0 (fun _=>true) true fuel e))with
    | none=>rw[hm]at h;simp at h
    | some elems =>
     rw[hm]at h;simp only[Option.bind_some,if_true,bH0]at h;obtain⟨rest,hr,h⟩:=h;simp only[aY0]at h;obtain⟨rfl,rfl⟩:=h;simp only[DataW.weights,hu,aL0,aI0,aJ0]at hw;obtain⟨m1,m2⟩:=Rz hm;rw[dY0]at m1;have qM:=hw _ (.inl rfl);have qZ:len*P.bytesOf e<=L:=Nat.le_trans (aQ0 _ (by omega)) qM
     have mR:∀i,i<len->∃cs ds,w.cells? 0 (a.add (i*P.cellsOf e)) (P.cellsOf e)=some cs/\AL cur [] w.heap ds cs/\(∀v∈cs,v.oneCell'=true)/\FL L c ds:=by
      intro i hi;obtain⟨y,hy,wN⟩:=m2 i i (by rw[eE0 hi]);rw[Option.bind_eq_some_iff]at wN;obtain⟨cs,zR,wN⟩:=wN;obtain⟨d',p'⟩:=y;have qO:d'∈elems.map (·.1):=aU0.2 ⟨_,bI0 hy,rfl⟩;obtain⟨ds,b1,b2,b3⟩:=aP hL wN hc (fun x hx=>hw x (.inr (.inl (LW qO x hx))));exact⟨cs,ds,zR,b1,b2,b3⟩
     by_cases h0:len=0
     ·subst h0;exact⟨[.sl (P.cellsOf e) (P.bytesOf e) []],by simp only[AL,rd];exact⟨_,_,rfl,⟨some a,cap,rfl,cV0 _,qP,by simp,.inl ⟨trivial,fun hh=>by simp at hh⟩⟩,rfl⟩,by simp[Value.oneCell'],by simp[FL,Rb]⟩
     ·obtain⟨blk,off,spot⟩:=a;obtain⟨cs0,ds0,hcs0,_,_,_⟩:=mR 0 (by omega);obtain⟨l1,l2⟩:=ZE hcs0;obtain⟨v,hv⟩:∃v,cs0[0]? =some v:=⟨_,aD0 (by omega)⟩;have yG:w.cell? ⟨blk,off,spot⟩=some v:=by simpa[Addr.add]using l2 0 v hv
      obtain⟨arr,ty,fz,hblk,hspot⟩:∃arr ty fz,w.heap[blk]? =some (.cells arr ty fz)/\spot=none:=by
       simp only[World.cell?]at yG
       split at yG
       ·rename_i arr ty fz hb
        split at yG
        ·simp at yG
        ·rename_i gE;exact⟨arr,ty,fz,hb,by simpa using gE⟩
       ·simp at yG
      subst hspot
      obtain⟨es,e1,e2,e3⟩:=HO_ (cur:=cur) (M:=[]) (h:=w.heap) (arr:=arr) (k:=P.cellsOf e) (c:=c) len off (fun i hi=>by
       obtain⟨cs,ds,zR,b1,b2,b3⟩:=mR i hi;obtain⟨l1,l2⟩:=ZE zR;refine⟨ds,by rw[HV_ b1,l1],UZ b1 b2 fun j u hu=> ?_,b3⟩;have:=l2 j u hu;rw[EL_,EL_]at this
       simpa[World.cell?,hblk]using this)
      refine⟨[.sl (P.cellsOf e) (P.bytesOf e) es],?_,by simp[Value.oneCell'],by simp only[FL,Rb];exact⟨_,_,rfl,⟨es,rfl,by rw[e1];exact qZ,e3⟩,rfl⟩⟩;simp only[AL,rd];exact⟨_,_,rfl,⟨_,_,by rw[e1],by omega,qP,by rw[e1];omega,.inr ⟨blk,off,arr,ty,fz,rfl,by simp,hblk,e2⟩⟩,rfl⟩
   ·simp at h
  ·rename_i fs hu;simp only[Fa,hu]at hs
   split at hs
   ·rename_i l e hf
    split at hs
    ·rename_i he;simp only[aA0]at hs;subst hs;subst he
     split at h
     ·rename_i qZ;simp only[bH0]at h;obtain⟨xs,mG,h⟩:=h;simp only[aY0]at h;obtain⟨rfl,rfl⟩:=h;simp only[DataW.weights,hu]at hw;have:=Zt (cur:=cur) (fun h1 h2 h3=>aP hL h1 h2 h3) _ fs.toList 0 (P.cellsOf t) l xs mG hf hw;simpa[<-qZ]using this
     ·simp at h
    ·simp at hs
   ·simp at hs
  all_goals first | (simp at h;done) | (rename_i hu;simp[Fa,hu]at hs;done)
def VL (P:Program) (t:TypeId):Bool:=match P.underlying t with | some (.struct _)=>true | _=>false
theorem Tc_ {L base n:Nat} (hL:L<=140737488355328) {t:TypeId} {v:Value} {d:DataW H} {ps:List MemPlace} {shs:List Sh} (hv:Value.okWide P w .any base t v) (h:DataW.Trod enc P w 0 (fun _=>true) true t v d ps) (hs:Fa P n t=some shs)
  (hw:∀x∈d.weights P t,x<=L):∃ds,FL L shs ds/\if VL P t then rd cur [] w.heap (.agg ds) v else AL cur [] w.heap ds [v]:=by
 obtain⟨fuel,h⟩:=h;obtain⟨ds,h1,h2,h3⟩:=aP (cur:=cur) hL h hs hw;refine⟨ds,h3,?_⟩;unfold VL
 split
 ·rename_i fs hu;simp only[if_true];simp only[Value.okWide,hu]at hv;obtain⟨cs,rfl,_,_⟩:=hv;simp only[rd];exact⟨cs,rfl,h1⟩
 ·rename_i hu
  have tE:v.cells= #[v]:=by
   cases n with
   | zero=>simp[Fa]at hs
   | succ n =>
    cases v<;>first | rfl | skip
    rename_i cs;unfold Fa at hs;unfold Value.okWide at hv
    cases zL:P.underlying t with
    | none=>simp[zL]at hs
    | some ty =>
     rw[zL]at hs hv;cases ty<;>simp[Cell.okWide,Cell.ok,zL]at hs hv;exact absurd zL (hu _)
  rw[tE]at h1;simpa using h1
def NP (L:Nat) (P:Program):List TypeId->List (List Sh)->List DVal->Prop
 | [],[],a=>a=[]
 | t::ts,x::xs,a=>∃ds r,FL L x ds/\a=(if VL P t then .agg ds else ds.headD .any)::r/\NP L P ts xs r
 | _,_,_=>False
theorem Cb_ {L base n:Nat} (hL:L<=140737488355328):∀{ts:List TypeId} {vs:List Value} {ds:List (DataW H)} {ps:List MemPlace} {shs:List (List Sh)},(∀(j:Nat) t v,ts[j]? =some t->vs[j]? =some v->Value.okWide P w .any base t v) ->
  DataW.TrodAll enc P w 0 (fun _=>true) true ts vs ds ps->ts.map (Fa P n)=shs.map some->(∀x∈DataW.weightsEach P ts ds,x<=L)->∃das,AL cur [] w.heap das vs/\NP L P ts shs das
 | [],vs,ds,ps,shs,hv,hA,hs,hw=>by
  obtain⟨rfl,rfl,rfl⟩:=ChangeShapes.trodAll_nil hA
  cases shs with
  | nil=>exact⟨[],by simp[AL],by simp[NP]⟩
  | cons a b=>simp at hs
 | t::ts,vs,ds,ps,shs,hv,hA,hs,hw=>by
  obtain⟨v,vr,d,dr,p,q,rfl,rfl,rfl,h0,hr⟩:=ChangeShapes.trodAll_cons hA
  cases shs with
  | nil=>simp at hs
  | cons x xs =>
   simp only[List.map_cons,bL0]at hs;simp only[DataW.weightsEach,aI0]at hw;obtain⟨das,a1,a2⟩:=Cb_ hL (fun j t v h1 h2=>hv (j+1) t v (by simpa using h1) (by simpa using h2)) hr hs.2 (fun y hy=>hw y (.inr hy));obtain⟨dd,b1,b2⟩:=Tc_ (cur:=cur) hL (hv 0 t v rfl rfl) h0 hs.1 (fun y hy=>hw y (.inl hy));refine⟨(if VL P t then .agg dd else dd.headD .any)::das,?_,by simp only[NP];exact⟨dd,das,b1,rfl,a2⟩⟩;simp only[AL]
   refine⟨v,vr,rfl,?_,a1⟩
   split
   ·rename_i h;rw[if_pos h]at b2;exact b2
   ·rename_i h;rw[if_neg h]at b2
    cases dd with
    | nil=>simp[AL]at b2
    | cons d0 dr =>
     simp only[AL]at b2;obtain⟨u,r,hu,bN,_⟩:=b2;simp only[bL0]at hu;rw[hu.1];simpa using bN
theorem RR_ {L base n:Nat} {ts:List TypeId} {vs:List Value} {ds:List (DataW H)} {ps:List MemPlace} {shs:List (List Sh)} (h1:∀(j:Nat) t v,ts[j]? =some t->vs[j]? =some v->Value.okWide P w .any base t v)
 (h2:DataW.TrodAll enc P w 0 (fun _=>true) true ts vs ds ps) (h3:ts.map (Fa P n)=shs.map some) (h4:∀x∈DataW.weightsEach P ts ds,x<=L) (hL:L<=140737488355328:=by omega):∃das,AL cur [] w.heap das vs/\NP L P ts shs das:=Cb_ hL h1 h2 h3 h4
theorem Upd.below {a b:World} (h:Upd [] a b):RowKit.Below a.heap.size a b:=⟨h.os,h.tape,h.output,h.size,fun k hk=>h.blk k hk (by simp)⟩
theorem Od (hl:laidOutB P=true) {W W':World} {sp:Nat->Bool}:∀{ts:List TypeId} {vs:List Value} {ds:List (DataW H)} {ps:List MemPlace},(∀t∈ts,P.readableRec t=true/\t<P.types.size) ->
  DataW.TrodAll enc P W 0 (fun _=>true) true ts vs ds ps->(∀p∈ps,W.sameAt W' p)->(∀p∈ps,sp p.block=true)->DataW.TrodAll enc P W' 0 sp true ts vs ds ps
 | [],vs,ds,ps,ht,hA,h1,h2=>by
  obtain⟨rfl,rfl,rfl⟩:=ChangeShapes.trodAll_nil hA;rfl
 | t::ts,vs,ds,ps,ht,hA,h1,h2=>by
  obtain⟨v,vr,d,dr,p,q,rfl,rfl,rfl,h0,hr⟩:=ChangeShapes.trodAll_cons hA;obtain⟨k1,k2⟩:=ht t (by simp);exact⟨p,q,WideElems.Trod_stays hl k1 k2 h0 (fun x hx=>h1 x (by simp[hx])) (fun x hx=>h2 x (by simp[hx])),Od hl (fun t h=>ht t (by simp[h])) hr (fun x hx=>h1 x (by simp[hx])) (fun x hx=>h2 x (by simp[hx])),rfl⟩
theorem OJ_ {fn:Func} {s:ChangeSpec} {fresh handsOn:Bool} {tb:TypeId} {W W':World} {args:Array Value} {ds gs:List (DataW H)} {before:List MemPlace} (hl:laidOutB P=true)
  (wT:∀t∈fn.params.toList,P.readableRec t=true/\t<P.types.size) (hr:fn.resultTypes= #[tb]) (hub:P.underlying tb=some .bool) (nV:s.vars=[])
  (hs:s.fn H (ds++gs)={ results:=[.lit (.bool true)],args:=ds }) (hW:DataW.Whole enc P fn.params.toList s.vars false W args.toList ds gs before) (hu:Upd [] W W') :
  s.post enc P fn false fresh handsOn false W args (.bool true) W':=by
 have hW':=hW;obtain⟨p,q,hA,hV,rfl,hfz,hnd⟩:=hW;have qV:∀x∈p,x.block<W.heap.size:=fun x hx=>hW'.lt x (by simp[hx])
 have hb:=hu.below;refine⟨ds,gs,p++q,[],p,[],hW',?_,?_,?_,hb.frame _,fun h=>by cases h⟩
 ·rw[hs,hr];exact ChangeShapes.trodAll_mk1 (RowKit.shut_bool hub true)
 ·rw[hs];exact Od hl wT hA (fun x hx=>hb.same (qV x hx)) (fun x hx=>by simpa using qV x hx)
 ·rw[hs,nV];rfl
theorem lI {f:FuncId} {fn:Func} {s:ChangeSpec} {fresh handsOn:Bool} {tb:TypeId} {W:World} {args:Array Value} {das:List DVal} {ds gs:List (DataW H)} {before:List MemPlace} (hl:laidOutB P=true)
  (wT:∀t∈fn.params.toList,P.readableRec t=true/\t<P.types.size) (hr:fn.resultTypes= #[tb]) (hub:P.underlying tb=some .bool) (nV:s.vars=[])
  (hs:s.fn H (ds++gs)={ results:=[.lit (.bool true)],args:=ds }) (hW:DataW.Whole enc P fn.params.toList s.vars false W args.toList ds gs before)
  (zK:AL (fun _ _=>none) [] W.heap das args.toList) (hd:Ac P f das (.bool true)) :
  Calls P f args W fun e W'=>∃v,e= .returned v/\s.post enc P fn false fresh handsOn false W args v W':=by
 refine(hd.2.2 _ [] W args (by simp) zK).mono fun e W' ⟨v,he,hu,hv⟩=>⟨.bool true,?_,OJ_ hl wT hr hub nV hs hW hu⟩
 simp only[rd]at hv;rw[he,hv]
end
theorem HW {α:Type} {f:α->List DVal}:∀{es:List (List DVal)},(∀e∈es,∃x,e=f x)->∃l:List α,es=l.map f
 | [],_=>⟨[],rfl⟩
 | e::es,h=>by
  obtain⟨x,rfl⟩:=h e (by simp);obtain⟨l,rfl⟩:=HW (es:=es) (f:=f) (fun e he=>h e (by simp[he]));exact⟨x::l,rfl⟩
end Go.Dm
end
section
namespace Go.Proofs.Wy
open Go Go.Dm Tryz
variable [DMode]
open Go.ChangeShapes Go.WideShapes Go.ChangeAt Go.RowKit
theorem own : ownKnob Tryz.prog.godebug=none:=by kernel_rfl
theorem Rq_ : laidOutB prog=true:=by kernel_rfl
end Go.Proofs.Wy
end
section
namespace Go.Proofs.Wy
open Go Go.Dm Tryz YtchgnpnbcjflcaaGreat
variable [DMode]
mutual
def Tt_ (C:Nat):Sh->Bool
 | .b=>true
 | .i _=>true
 | .s=>true
 | .sl _ bs c=>decide (bs<=C)&&JX C c
def JX (C:Nat):List Sh->Bool
 | []=>true
 | x::r=>Tt_ C x&&JX C r
end
theorem Pv {C:Nat}:∀{a b:List Sh},JX C (a++b)=(JX C a&&JX C b)
 | [],b=>by simp[JX]
 | x::a,b=>by simp[JX,Pv (a:=a),Bool.and_assoc]
section
variable {H : Type}
theorem PL_ (d:DataW H):1<=Rows.uptoBulk d:=by
 cases d with
 | lit l=>cases l<;>simp only[Rows.uptoBulk]<;>omega
 | _=>simp only[Rows.uptoBulk]<;>omega
theorem WW : ∀l:List (DataW H),l.length<=Rows.uptoBulkAll l
 | []=>by simp
 | d::r=>by
  have:=PL_ d;have:=WW r;simp only[Rows.uptoBulkAll,List.length_cons];omega
theorem KU {P:Program} {C:Nat} (hC:1<=C):∀(n:Nat) (t:TypeId) (shs:List Sh) (d:DataW H),Fa P n t=some shs->JX C shs=true->∀x∈d.weights P t,x<=Rows.uptoBulk d*C
 | 0,t,shs,d,h,hl=>by simp[Fa]at h
 | n+1,t,shs,d,h,hl=>by
  intro x hx
  have all:∀(e:TypeId) (c:List Sh),Fa P n e=some c->JX C c=true->∀(l:List (DataW H)),∀x∈DataW.weightsAll P e l,x<=Rows.uptoBulkAll l*C:=by
   intro e c he hc l
   induction l with
   | nil=>intro x hx;simp[DataW.weightsAll]at hx
   | cons d r ih =>
    intro x hx;simp only[DataW.weightsAll,aI0]at hx;simp only[Rows.uptoBulkAll,cA0]
    rcases hx with hx | hx
    ·have:=KU hC n e c d he hc x hx;omega
    ·have:=ih x hx;omega
  have each:∀(fs:List Field) (off e:Nat) (l:List Sh),shF (Fa P n) P.cellsOf fs off=some (l,e)->JX C l=true->∀(parts:List (DataW H)),∀x∈DataW.weightsEach P (fs.map (·.type)) parts,x<=Rows.uptoBulkAll parts*C:=by
   intro fs
   induction fs with
   | nil=>intro off e l _ _ parts x hx;simp[DataW.weightsEach]at hx
   | cons f fs ih =>
    intro off e l hf hc parts x hx
    cases parts with
    | nil=>simp[DataW.weightsEach]at hx
    | cons d r =>
     simp only[shF]at hf
     split at hf
     ·split at hf
      ·rename_i c l' e' h4 h5;simp only[aA0,aY0]at hf;obtain⟨rfl,rfl⟩:=hf;rw[Pv,aM0]at hc;simp only[List.map_cons,DataW.weightsEach,aI0]at hx;simp only[Rows.uptoBulkAll,cA0]
       rcases hx with hx | hx
       ·have:=KU hC n f.type c d h4 hc.1 x hx;omega
       ·have:=ih _ _ _ h5 hc.2 r x hx;omega
      ·simp at hf
     ·simp at hf
  cases d with
  | lit l =>
   cases l<;>simp only[DataW.weights,aG0,eH0]at hx;subst hx;simp only[Rows.uptoBulk];exact Nat.le_trans (Nat.le_succ _) (Nat.le_mul_of_pos_right _ hC)
  | nil=>simp[DataW.weights]at hx
  | held a=>simp[DataW.weights]at hx
  | iface a b=>simp[DataW.weights]at hx
  | ptr d =>
   simp only[DataW.weights]at hx
   split at hx
   ·rename_i hu;simp[Fa,hu]at h
   ·simp at hx
  | map es =>
   simp only[DataW.weights]at hx
   split at hx
   ·rename_i hu;simp[Fa,hu]at h
   ·simp at hx
  | slice elems spare =>
   simp only[DataW.weights]at hx
   split at hx
   ·rename_i e hu;simp only[Fa,hu]at h
    split at h
    rotate_left
    ·simp at h
    rw[bH0]at h;obtain⟨c,hc,rfl⟩:=h;simp only[JX,Tt_,fB0,aM0,decide_eq_true_eq]at hl;simp only[Rows.uptoBulk,cA0];simp only[aL0,aI0]at hx
    rcases hx with rfl | hx | hx
    ·have h1:=WW elems;have h2:=WW spare;rw[cA0];have g1:=eJ0 h1 hl.1;have g2:=eJ0 h2 hl.1;omega
    ·have:=all e c hc hl.2 elems x hx;omega
    ·have:=all e c hc hl.2 spare x hx;omega
   ·simp at hx
  | agg parts =>
   simp only[DataW.weights]at hx
   split at hx
   ·rename_i fs hu;simp only[Fa,hu]at h
    split at h
    ·rename_i l e hf
     split at h
     ·simp only[aA0]at h;subst h;simp only[Rows.uptoBulk,cA0];have:=each fs.toList 0 e l hf hl parts x hx;omega
     ·simp at h
    ·simp at h
   ·rename_i hu;simp[Fa,hu]at h
   ·simp at hx
theorem JS {P:Program} {C n:Nat} (hC:1<=C):∀{ts:List TypeId} {shs:List (List Sh)} (ds:List (DataW H)),ts.map (Fa P n)=shs.map some->shs.all (JX C)=true->∀x∈DataW.weightsEach P ts ds,x<=Rows.uptoBulkAll ds*C
 | [],shs,ds,h,hl=>by intro x hx;simp[DataW.weightsEach]at hx
 | t::ts,shs,ds,h,hl=>by
  intro x hx
  cases ds with
  | nil=>simp[DataW.weightsEach]at hx
  | cons d r =>
   cases shs with
   | nil=>simp at h
   | cons s ss =>
    simp only[List.map_cons,bL0]at h;simp only[cX0,aM0]at hl;simp only[DataW.weightsEach,aI0]at hx;simp only[Rows.uptoBulkAll,cA0]
    rcases hx with hx | hx
    ·have:=KU hC n t s d h.1 hl.1 x hx;omega
    ·have:=JS hC r h.2 hl.2 x hx;omega
theorem NA_ {P:Program} {C n:Nat} (hC:1<=C) {ts:List TypeId} {shs:List (List Sh)} {ds:List (DataW H)} (hk:Rows.uptoSmall H ds=true) (h:ts.map (Fa P n)=shs.map some) (hl:shs.all (JX C)=true):∀x∈DataW.weightsEach P ts ds,x<=1048576*C:=by
 intro x hx;have h1:=JS hC ds h hl x hx;simp only[Rows.uptoSmall,decide_eq_true_eq]at hk;exact Nat.le_trans h1 (aQ0 _ hk)
end
end Go.Proofs.Wy
end
section
namespace Go.Proofs.Wy
open Go Go.Dm Tryz
open Go.ChangeShapes Go.WideShapes Go.ChangeAt Go.RowKit
def eK : List Sh:=[.i .i64,.s,.i .i64]
def eJ : List Sh:=[.s,.sl 3 32 eK]
def Fr_ : List Sh:=[.s]
theorem LI_ {L:Nat} {ds:List DVal} (h:FL L eK ds):∃x:Nd,ds=BS x:=by
 simp only[eK,FL,Rb]at h;obtain⟨_,_,rfl,⟨k,rfl⟩,_,_,rfl,⟨s,rfl,_⟩,_,_,rfl,⟨n,rfl⟩,rfl⟩:=h;exact⟨⟨k,s,n⟩,rfl⟩
theorem GB_ {L:Nat} {d:DVal} (h:Rb L (.sl 2 40 eJ) d):∃g:List Rul,d=Az g/\∀r∈g,r.b.length*32<=L:=by
 simp only[Rb]at h;obtain⟨es,rfl,hz,he⟩:=h
 have hq:∀e∈es,∃x:{r:Rul//r.b.length*32<=L},e=Co x.1:=by
  intro e h;have h:=he e h;simp only[eJ,FL,Rb]at h;obtain⟨_,_,rfl,⟨s,rfl,_⟩,_,_,rfl,⟨es,rfl,hz,he⟩,rfl⟩:=h;obtain⟨l,rfl⟩:=HW (fun e h=>LI_ (he e h));exact⟨⟨⟨s,l⟩,by simpa using hz⟩,rfl⟩
 obtain⟨l,rfl⟩:=HW (f:=fun x:{r:Rul//r.b.length*32<=L}=>Co x.1) hq;refine⟨l.map (·.1),by simp[Function.comp_def],fun r hr=> ?_⟩;obtain⟨x,_,rfl⟩:=aU0.1 hr;exact x.2
theorem OY_ {L:Nat} {ds:List DVal} (h:FL L Fr_ ds):∃s:ByteArray,ds=[.str s]:=by
 simp only[Fr_,FL,Rb]at h;obtain⟨_,_,rfl,⟨x,rfl,_⟩,rfl⟩:=h;exact⟨x,rfl⟩
def TI : List Sh:=[.s,.s,.s]
def eN : List Sh:=[.sl 2 40 eJ,.sl 1 16 Fr_,.sl 3 48 TI,.s,.s,.s,.sl 3 48 TI]
theorem Zg {L:Nat} {ds:List DVal} (h:FL L TI ds):∃e:Edge,ds=AO e:=by
 simp only[TI,FL,Rb]at h;obtain⟨_,_,rfl,⟨x,rfl,_⟩,_,_,rfl,⟨y,rfl,_⟩,_,_,rfl,⟨z,rfl,_⟩,rfl⟩:=h;exact⟨⟨x,y,z⟩,rfl⟩
theorem OZ_ {L:Nat} {ds:List DVal} (h:FL L eN ds):∃(r:List Rul) (g:Edges) (nt a b:ByteArray) (way:List Edge),ds=[Az r,AJ g.nodes,Cq g.edges,.str nt,.str a,.str b,Cq way]/\∀x∈r,x.b.length*32<=L:=by
 unfold eN at h;simp only[FL]at h;obtain⟨d1,_,rfl,h1,d2,_,rfl,h2,d3,_,rfl,h3,d4,_,rfl,h4,d5,_,rfl,h5,d6,_,rfl,h6,d7,_,rfl,h7,rfl⟩:=h;obtain⟨r,rfl,hr⟩:=GB_ h1;simp only[Rb]at h2 h3 h4 h5 h6 h7;obtain⟨e2,rfl,_,g2⟩:=h2;obtain⟨e3,rfl,_,g3⟩:=h3;obtain⟨x4,rfl,_⟩:=h4;obtain⟨x5,rfl,_⟩:=h5;obtain⟨x6,rfl,_⟩:=h6;obtain⟨e7,rfl,_,g7⟩:=h7;obtain⟨l2,rfl⟩:=HW (f:=fun s:ByteArray=>AG s) (fun e h=>by obtain⟨s,hs⟩:=OY_ (g2 e h);exact⟨s,hs⟩)
 obtain⟨l3,rfl⟩:=HW (fun e h=>Zg (g3 e h));obtain⟨l7,rfl⟩:=HW (fun e h=>Zg (g7 e h));exact⟨r,⟨l2,l3⟩,x4,x5,x6,l7,rfl,hr⟩
theorem Da {a b:Bool} (h1:a=true) (h2:b=true):(a&&b)=true:=by rw[h1,h2];rfl
end Go.Proofs.Wy
end
