/- Parts of a proof, laid together: CD2, CD3, CD4, EnU, PB, PU, PZ. -/
import Derived.SizedLaws
import Derived.ProofKit
import Derived.OpenShut
import Derived.Carry
import Derived.Test.YtchgnpnbcjflcaaGreatRows
import Derived.Test.YtchgnpnbcjflcaaGreatqDe4
import Derived.Test.YtchgnpnbcjflcaaGreatqDe5
import Derived.Test.YtchgnpnbcjflcaaGreatqDe6
import Derived.Test.YtchgnpnbcjflcaaGreatqDe10
import Derived.Test.YtchgnpnbcjflcaaGreatqDe11
set_option linter.unusedSimpArgs false
set_option maxHeartbeats 8000000
set_option linter.unusedVariables false
set_option linter.unusedSectionVars false
section
namespace Go.Proofs.Wy
open Go Go.Dm Tryz
attribute [local irreducible] DW Bi Bk
set_option maxRecDepth 100000
def dOw (L:List (Fct×Sht)):List Ent:=[⟨3,1,.box [.omp 10 1]⟩,⟨10,1,.map (YN L) (vsM L)⟩]
def dTc (c:Cnf) (w:List Int) (r:List Fct):DVal:=Df c w r
theorem MP_ (c:Cnf) (w:List Int) (r:List Fct):Df c w r=dTc c w r:=rfl
def BU (L:List (Fct×Sht)):DVal:= .mp (YN L) (vsM L)
def Dw_ : Ann:=⟨[3,10,44],[⟨8,[7],[],[]⟩,⟨11,[9],[],[]⟩]⟩
theorem Zf (c:Cnf) (w:List Int) (r:List Fct) (zA:OkC c) (hP:c.prods.length<9223372036854775807) (cI:r.length<9223372036854775807) (hw:w.length<=64) (hr:∀f∈r,0<=f.fr/\f.fr<=f.to/\f.to<=w.length):Ad prog 99 [Df c w r] (BU (Ot c w r)):=by
 refine Ac [10,3] Dw_ func99 call99 ntmps99 mxd (Aq @Dw_.eq_1 results99) rfl (fun qJ B qX qQ=> ?_) (hd:=(by simp[mx,BU]));clear qJ;simp only[Am]
 (refine AM Aa Aa Aa ?_;intros;refine Aj ?_)
 refine Ak (X:={x:Bool×List (Fct×Sht)//tL c w r x}) (fun x=>⟨[(0,Df c w r),(3,.bx 3 1 0),(4,.fn (.func 179) [] [.bx 3 1 0]),(5,.bool x.1.1)],dOw x.1.2⟩) (fun x=>2*Jf x.1.2 r+(if x.1.1 then 1 else 0)) ⟨(true,[]),tL.start hr⟩ (Sub.lit (by simp[dOw,Df,YN,vsM])) ?_;rintro⟨⟨ag,L⟩,hW⟩;simp only;cases ag
 ·have hA:L=Ot c w r:=hW.2;subst hA;exact Au Aa Aa (Aq @dOw.eq_1 @BU.eq_1)
 ·have hI:OA c w L:=hW.1;obtain⟨hS,qV⟩:=tL.step hr hW;have hend:=Hd_ c w r L
  (refine AM Aa Aa (AA @Df.eq_1) ?_;intros;refine Aj ?_)
  refine Ak (X:={k:Nat//k<=r.length}) (fun k=>⟨[(0,Df c w r),(3,.bx 3 1 0),(4,.fn (.func 179) [] [.bx 3 1 0]),(5,.bool (RP c w r L k.1).1),(16,.sl 3 24 (r.map Ap)),(17,.int .i64 r.length),(18,.int .i64 k.1)],dOw (RP c w r L k.1).2⟩) (fun k=>r.length-k.1) ⟨0,by omega⟩ (Sub.lit (by simp[Df,dOw,RP])) ?_;rintro⟨k,hk⟩;simp only
  by_cases fV:k<r.length
  ·obtain⟨f,hf,hf',cR⟩:=Aw fV;obtain⟨f1,f2,f3⟩:=hr f cR;have Ek:=Em_ (c:=c) (w:=w) (L:=L) hf;have hSt:=Kh_ hI hr k;obtain⟨⟨xb,xL⟩,hX⟩:∃X,X=RP c w r L k:=⟨_,rfl⟩;rw[<-hX]at Ek hSt |-;clear hX;have fN:=Hl_ (c:=c) (w:=w) (f:=f) (x:=(xb,xL));rw[<-fN]at Ek;obtain⟨fn,fu,fv⟩:=f;obtain⟨u,rfl⟩:∃u:Nat,fu=u:=⟨fu.toNat,by simp only at f1;omega⟩;obtain⟨v,rfl⟩:∃v:Nat,fv=v:=⟨fv.toNat,by simp only at f1 f2;omega⟩;simp only at f1 f2 f3
   obtain⟨U,hU⟩:∃U,U=RP c w r L (k+1):=⟨_,rfl⟩;rw[<-hU]at Ek;have wk:IntKind.i64.wrap ((k:Int)+1)=(k:Int)+1:=wq
   (refine AM Aa Aa (EU @Df.eq_1 @Ap.eq_1 fV hf') ?_;intros;refine Aj ?_)
   refine Ak (X:={i:Nat//i<=c.prods.length}) (fun i=>⟨[(0,Df c w r),(3,.bx 3 1 0),(4,.fn (.func 179) [] [.bx 3 1 0]),(5,.bool (Sn c w ⟨fn,u,v⟩ (xb,xL) i.1).1),(7,.ref (Ap ⟨fn,u,v⟩)),(16,.sl 3 24 (r.map Ap)),(17,.int .i64 r.length),(18,.int .i64 k),(26,BT c.prods),(27,.int .i64 c.prods.length),(28,.int .i64 i.1)],dOw (Sn c w ⟨fn,u,v⟩ (xb,xL) i.1).2⟩) (fun i=>c.prods.length-i.1) ⟨0,by omega⟩ (Sub.lit (by simp[Df,dOw,Sn,Ap])) ?_
   rintro⟨i,hi⟩;simp only
   by_cases pT:i<c.prods.length
   ·obtain⟨p,hp,qN,zU⟩:=Aw pT;have vS:=Eq_ (w:=w) (f:=⟨fn,u,v⟩) (x:=(xb,xL)) hp;have hSt2:=(Kj_ hSt cR (by simp only;omega) (by simp only;omega) (by simp only;omega) i).inv;obtain⟨⟨yb,yL⟩,hY⟩:∃Y,Y=Sn c w ⟨fn,u,v⟩ (xb,xL) i:=⟨_,rfl⟩;rw[<-hY]at vS hSt2 |-;obtain⟨V,hV⟩:∃V,V=Sn c w ⟨fn,u,v⟩ (xb,xL) (i+1):=⟨_,rfl⟩;rw[<-hV]at vS;clear hY;unfold Er_ at vS;simp only at vS hSt2;have wi:IntKind.i64.wrap ((i:Int)+1)=(i:Int)+1:=wq
    by_cases hh:p.head=fn
    ·rw[if_pos hh]at vS;have e1:=Au_ c w r yL zA hSt2 fn u v cR (by omega) (by omega) hw i p hp hh;obtain⟨⟨Zb,ZL⟩,hZ⟩:∃Z,Z=MF w p.body ⟨fn,u,v⟩ i yL:=⟨_,rfl⟩;rw[<-hZ]at e1 vS;simp only[AU,Ap]at e1;simp only[Df]at e1;cases Zb
     ·(refine AM Aa (AA (Ee [(3,0),(10,1)] [] e1)) (JB @dOw.eq_1 @Ap.eq_1 @Ag.eq_1 pT qN hh @Df.eq_1) ?_;intros;refine Aj ?_)
      refine Al.mk ⟨i+1,by omega⟩ (Sub.lit (by simp[Df,dOw,Ap,<-hV,vS,wi])) (by simp;omega)
      skip
     ·(refine AM Aa (AA (Ee [(3,0),(10,1)] [] e1)) (JB @dOw.eq_1 @Ap.eq_1 @Ag.eq_1 pT qN hh @Df.eq_1) ?_;intros;refine Aj ?_)
      refine Al.mk ⟨i+1,by omega⟩ (Sub.lit (by simp[Df,dOw,Ap,<-hV,vS,wi])) (by simp;omega)
      skip
    ·rw[if_neg hh]at vS;have hhb:(p.head==fn)=false:=by simpa using hh
     (refine AM Aa Aa (ML @dOw.eq_1 @Ap.eq_1 @Ag.eq_1 pT qN hh hhb @Df.eq_1) ?_;intros;refine Aj ?_)
     refine Al.mk ⟨i+1,by omega⟩ (Sub.lit (by simp[Df,dOw,Ap,<-hV,vS,wi])) (by simp;omega)
     skip
   ·have hii:i=c.prods.length:=by omega
    subst hii
    (refine AM Aa Aa (Ez @Df.eq_1 @Ap.eq_1 wk) ?_;intros;refine Aj ?_)
    refine Al.mk ⟨k+1,by omega⟩ (Sub.lit (by simp[Df,dOw,<-hU,Ek,wk])) (by simp;omega)
    skip
  ·have qZ:k=r.length:=by omega
   subst qZ;rw[hend];obtain⟨⟨rb,rL⟩,hR⟩:∃R,R=Qh c w r L:=⟨_,rfl⟩;rw[<-hR]at hS qV |-
   (refine AM Aa Aa Aa ?_;intros;refine Aj ?_)
   refine Al.mk ⟨(rb,rL),hS⟩ (Sub.lit (by simp[Df,dOw])) (by simpa using qV)
   skip
theorem uG {c:Cnf} {w:List Int} {nt:Int} {s:Sht} (h:Vg c nt w.length=0) (hg:Gt (Ot c w (HP c w)) ⟨nt,0,w.length⟩=some s):(HM c (Ot c w (HP c w)) 4096 ⟨nt,0,w.length⟩).length<=4096/\Kk c nt w (HM c (Ot c w (HP c w)) 4096 ⟨nt,0,w.length⟩)=true:=by
 obtain⟨h1,h2,h3,h4,h5⟩:=AT_ h;have zA:=xM h1 h2;obtain⟨⟨_,hN⟩,_⟩:=CP.1 h1;have hI:=DE_ (c:=c) (iD zA hN h5);obtain⟨a,b,d⟩:=Wl hI hg (hI _ _ hg).1;refine⟨a,?_⟩;unfold Kk;rw[b];simp[d]
theorem BP_ {c:Cnf} {w:List Int} {L:List (Fct×Sht)} (hI:OA c w L):∀{P:List Fct},JJ_ L P->P.length<=ON L P
 | [],_=>cH0 _
 | f::P,h=>by
  obtain⟨s,hs⟩:=h f aE0;have h1:=(hI f s hs).2.one;have h2:=BP_ hI (P:=P) fun g hg=>h g (aC0 _ hg)
  unfold ON at h2 |-;rw[List.map_cons,cZ0,hs,List.length_cons];simp only;omega
theorem JJ_.cut {L:List (Fct×Sht)} {P Q:List Fct} (h:JJ_ L (P++Q)):JJ_ L P:=fun f hf=>h f (aN0 _ hf)
def dKn (L:List (Fct×Sht)):DVal:=BU L
theorem MS_ (L:List (Fct×Sht)):BU L=dKn L:=rfl
structure PilS (c:Cnf) (L:List (Fct×Sht)) (f:Fct) (s:Sht) (n:Nat) (p:Prod):Prop where
 g:Gt L f=some s
 e:s.pr=n
 at_:c.prods[n]? =some p
theorem Mq_ {c:Cnf} {w:List Int} {L:List (Fct×Sht)} (hI:OA c w L) {f:Fct} (h:∃s,Gt L f=some s):∃s n p,PilS c L f s n p:=by
 obtain⟨s,hs⟩:=h;have hW:=(hI f s hs).2;obtain⟨p,hp,_⟩:=hW.way;have:=hW.pr;exact⟨s,s.pr.toNat,p,hs,by omega,hp⟩
def FD : Ann:=⟨[48],[⟨5,[10],[],[]⟩,⟨9,[12],[],[]⟩,⟨15,[16],[],[]⟩,⟨17,[17],[],[]⟩]⟩
theorem IR_ (c:Cnf) (nt:Int) (w:List Int) (h:Vg c nt w.length=0) (hP:c.prods.length*32<=150000000000000) (hB:Fu_ c nt w=true) :
  Ad prog 32 [.agg (Av c),.int .i64 nt,Cg w] (match Gt (Ot c w (HP c w)) ⟨nt,0,w.length⟩with
   | none=> .tup [.nilsl,.int .i64 251]
   | some _=> .tup [FN (HM c (Ot c w (HP c w)) 4096 ⟨nt,0,w.length⟩),.int .i64 0]):=by
 obtain⟨h1,h2,h3,h4,h5⟩:=AT_ h;have zA:=xM h1 h2;obtain⟨⟨_,hN⟩,_⟩:=CP.1 h1;have e1:=MK c nt w;rw[h]at e1;have e2:=PC c w zA hP hN h5;have e3:=VX c w (HP c w) ⟨nt,0,w.length⟩;have vV:=iD zA hN h5;have vZ:=(WY zA hN h5 4326401 0 _ (OI c w) (cH0 _) (by omega)).g
 have cI:(HP c w).length<9223372036854775807:=by
  have:=QJ zA hN h5 vZ.nd vZ.ok;unfold HP;omega
 have e4:=Zf c w (HP c w) zA (by omega) cI h5 vV;have hI:=DE_ (c:=c) vV;unfold Fu_ at hB;rw[hB]at e3;obtain⟨M,hK⟩:∃M,M=Ot c w (HP c w):=⟨_,rfl⟩;rw[<-hK]at e4 hI |-;clear hK vZ cI vV hB;obtain⟨R,hR⟩:∃R,R=HP c w:=⟨_,rfl⟩;rw[<-hR]at e2 e3 e4;clear hR h h1 h2 h3 h4;rw[MP_]at e2 e3 e4;simp only[Ap]at e3;rw[MS_]at e4;have qY:=Ac_ M;have hl:c.prods.length<9223372036854775807:=by omega
 obtain⟨N,ps⟩:=c;simp only[Av]at e1 e2
 cases hg:Gt M ⟨nt,0,w.length⟩with
 | none =>
  obtain⟨k1,_⟩:=Fq hg;simp only[CN,Ap]at k1;simp only;refine Ac [] FD func32 call32 ntmps32 mxd (Aq @FD.eq_1 results32) rfl (fun qJ B qX qQ=> ?_);clear qJ;simp only[Am]
  (refine AM (EU e1 e2 e3 e4) Aa (AA @Av.eq_1) ?_;intros;refine Aj ?_)
  refine Uu ?_;exact Au (EU e1 e2 e3 e4) Aa (Ja @Av.eq_1 @dKn.eq_1 @BU.eq_1 qY k1)
 | some s0 =>
  obtain⟨i0,k1,k2,_⟩:=Ev hg;simp only[CN,Ap,OC,CE]at k1 k2;simp only;have hs0:=(hI _ _ hg).1;obtain⟨kI,_⟩:=Wl hI hg hs0;have hpo:=Hq_ ⟨N,ps⟩ M ⟨nt,0,w.length⟩;obtain⟨D,hD⟩:∃D,D=HM ⟨N,ps⟩ M 4096 ⟨nt,0,w.length⟩:=⟨_,rfl⟩;rw[<-hD]at kI hpo |-
  have hn0:ON M [⟨nt,0,w.length⟩]<=4096:=by
   have:=Km M [] hg;rw[List.nil_append]at this;rw[this];simp[ON];omega
  refine Ac [14] FD func32 call32 ntmps32 mxd (Aq @FD.eq_1 results32) rfl (fun qJ B qX qQ=> ?_);clear qJ;simp only[Am]
  (refine AM (EU e1 e2 e3 e4) Aa (AA @Av.eq_1) ?_;intros;refine Aj ?_)
  refine Uu ?_
  (refine AM (EU e1 e2 e3 e4) Aa (JT @Av.eq_1 @dKn.eq_1 @BU.eq_1 qY k1 k2) ?_;intros;refine Aj ?_)
  clear e1 e2 e3 e4;refine tQ ?_
  (refine AM Aa Aa Aa ?_;intros;refine Aj ?_)
  refine BY 14 14 151 3 24 (by simp[qX]) (fun n14=> ?_);refine Ak (X:={x:List Stp×List Fct//x.1++UO ⟨N,ps⟩ M x.2=D/\JJ_ M x.2/\ON M x.2<=4096}) (fun x=>⟨[(3,.ref [.int .i64 N,BT ps]),(11,BU M),(14,.osl 14 1),(15,.osl 48 1)],[⟨14,1,.row 151 3 24 (x.1.1.map Cs)⟩,⟨48,1,.row 140 3 24 (x.1.2.map Ap)⟩]⟩) (fun x=>ON M x.1.2) ⟨([],[⟨nt,0,w.length⟩]),by simpa using hpo,fun f hf=>by rw[aG0.1 hf];exact⟨_,hg⟩,hn0⟩ (Sub.lit (by simp[BU,Ap])) ?_
  rintro⟨⟨out,P⟩,fA,gL,hx3⟩;simp only at fA gL hx3 |-
  have hol:out.length<=4096:=by
   have:=congrArg List.length fA;rw[aD0]at this;omega
  rcases List.eq_nil_or_concat P with rfl | ⟨Q,f,rfl⟩
  ·rw[ZI,bR0]at fA;subst fA;exact Au Aa Aa (AA @BU.eq_1)
  ·rw[List.concat_eq_append]at fA gL hx3 |-;have nX:=BP_ hI gL;rw[aD0]at nX;simp only[List.length_singleton]at nX;obtain⟨s,n,p,vM,nQ,hp⟩:=Mq_ hI (gL f (by simp));obtain⟨i1,k3,k4,_⟩:=Ev vM;obtain⟨yX,qN⟩:=aB0.1 hp;simp only at yX qN;have hfew:=fun hb=>Kl_ hI (P:=Q) vM (p:=p) (by rw[nQ];simpa using hp) hb
   have htwo:=fun a b r hb=>Kk_ hI (P:=Q) vM (p:=p) (a:=a) (b:=b) (r:=r) (by rw[nQ];simpa using hp) hb
   obtain⟨st,pr,mi⟩:=s;simp only at nQ;subst nQ;obtain⟨fn,u,v⟩:=f;simp only[CN,Ap,OC,CE]at k3 k4;have qU:((Q++[(⟨fn,u,v⟩:Fct)]).map Ap).length=Q.length+1:=by simp
   have qK:((Q++[(⟨fn,u,v⟩:Fct)]).map Ap)[Q.length]? =some [.int .i64 fn,.int .i64 u,.int .i64 v]:=by simp[Ap]
   have wJ:((Q++[(⟨fn,u,v⟩:Fct)]).map Ap).take Q.length=Q.map Ap:=by simp
   obtain⟨T,hT⟩:∃T,T=(Q++[(⟨fn,u,v⟩:Fct)]).map Ap:=⟨_,rfl⟩;rw[<-hT]at qU qK wJ |-;have vQ:Q.length<T.length:=by omega
   have qA:T[Q.length]'vQ=[.int .i64 fn,.int .i64 u,.int .i64 v]:=(aB0.1 qK).2;have wq:IntKind.i64.wrap ((Q.length:Int))=(Q.length:Int):=wq;have wV:(0:Int)<(Q.length:Int)+1:=by omega
   have z1:(out.length+1)*24<=150000000000000:=by omega
   have z2:out.length+1<=9223372036854775807:=by omega
   have z3:(Q.length+2)*24<=150000000000000:=by omega
   have z4:Q.length+2<=9223372036854775807:=by omega
   obtain⟨hd,body⟩:=p;have pN:body=[]\/(∃a,body=[a])\/∃a b,body=[a,b]:=iC zA (p:=⟨hd,body⟩) (bH0 hp)
   rcases pN with rfl | ⟨a,rfl⟩ | ⟨a,b,rfl⟩
   ·obtain⟨q1,q2⟩:=hfew (by simp);rw[q1]at fA
    (repeat (first | (refine IY 15 ?_ (fun _=> ?_);(· (simp[qX,BU,Ag,qY,qU,qK,qA,vQ,wV,wq,wJ,k3,k4,yX,qN,z1,z2];done));(try simp[qX,BU,Ag,qY,qU,qK,qA,vQ,wV,wq,wJ,k3,k4,yX,qN,z1,z2])) | refine AE fun K hK=> ?_ | (refine Bv FD mxd (by kernel_rfl) ?_;simp[FD,qX,BU,Ag,qY,qU,qK,qA,vQ,wV,wq,wJ,k3,k4,yX,qN,z1,z2];try simp (disch:=omega) only[Af]) | refine An ?_ | (refine AW ?_ ?_ ?_;(· (simp[qX,BU,Ag,qY,qU,qK,qA,vQ,wV,wq,wJ,k3,k4,yX,qN,z1,z2];done));(try (rotate_left;(· (intro hc;(try simp[qX,BU,Ag,qY,qU,qK,qA,vQ,wV,wq,wJ,k3,k4,yX,qN,z1,z2]at hc);done))))) | (refine AH ?_;simp[results32,qX,BU,Ag,qY,qU,qK,qA,vQ,wV,wq,wJ,k3,k4,yX,qN,z1,z2]) | ((first | refine Ay ?_ | refine Ax ?_);simp[qX,BU,Ag,qY,qU,qK,qA,vQ,wV,wq,wJ,k3,k4,yX,qN,z1,z2]) | (intro hc;(try simp[qX,BU,Ag,qY,qU,qK,qA,vQ,wV,wq,wJ,k3,k4,yX,qN,z1,z2]at hc);(try (exfalso;omega))) | (refine⟨?_,?_⟩; · omega) | omega | apply_assumption -exfalso -symm | (exfalso;omega)))
    refine Al.mk ⟨(out++[⟨n,u,v⟩],Q),by simpa using fA,gL.cut,by simp only;omega⟩ (Sub.lit (by simp[BU,Cs])) q2
    skip
   ·obtain⟨q1,q2⟩:=hfew (by simp);rw[q1]at fA
    (repeat (first | (refine IY 15 ?_ (fun _=> ?_);(· (simp[qX,BU,Ag,qY,qU,qK,qA,vQ,wV,wq,wJ,k3,k4,yX,qN,z1,z2];done));(try simp[qX,BU,Ag,qY,qU,qK,qA,vQ,wV,wq,wJ,k3,k4,yX,qN,z1,z2])) | refine AE fun K hK=> ?_ | (refine Bv FD mxd (by kernel_rfl) ?_;simp[FD,qX,BU,Ag,qY,qU,qK,qA,vQ,wV,wq,wJ,k3,k4,yX,qN,z1,z2];try simp (disch:=omega) only[Af]) | refine An ?_ | (refine AW ?_ ?_ ?_;(· (simp[qX,BU,Ag,qY,qU,qK,qA,vQ,wV,wq,wJ,k3,k4,yX,qN,z1,z2];done));(try (rotate_left;(· (intro hc;(try simp[qX,BU,Ag,qY,qU,qK,qA,vQ,wV,wq,wJ,k3,k4,yX,qN,z1,z2]at hc);done))))) | (refine AH ?_;simp[results32,qX,BU,Ag,qY,qU,qK,qA,vQ,wV,wq,wJ,k3,k4,yX,qN,z1,z2]) | ((first | refine Ay ?_ | refine Ax ?_);simp[qX,BU,Ag,qY,qU,qK,qA,vQ,wV,wq,wJ,k3,k4,yX,qN,z1,z2]) | (intro hc;(try simp[qX,BU,Ag,qY,qU,qK,qA,vQ,wV,wq,wJ,k3,k4,yX,qN,z1,z2]at hc);(try (exfalso;omega))) | (refine⟨?_,?_⟩; · omega) | omega | apply_assumption -exfalso -symm | (exfalso;omega)))
    refine Al.mk ⟨(out++[⟨n,u,v⟩],Q),by simpa using fA,gL.cut,by simp only;omega⟩ (Sub.lit (by simp[BU,Cs])) q2
    skip
   ·obtain⟨q1,q2,q3,q4⟩:=htwo a b [] rfl;rw[q1]at fA;simp only at fA q2 q3 q4;have vB:(([0,1]:List Nat)=List.range 2)=True:=eq_true rfl
    (repeat (first | (refine IY 15 ?_ (fun _=> ?_);(· (simp[qX,BU,Ag,Az,vB,qY,qU,qK,qA,vQ,wV,wq,wJ,k3,k4,yX,qN,z1,z2,z3,z4];done));(try simp[qX,BU,Ag,Az,vB,qY,qU,qK,qA,vQ,wV,wq,wJ,k3,k4,yX,qN,z1,z2,z3,z4])) | refine AE fun K hK=> ?_ | (refine Bv FD mxd (by kernel_rfl) ?_;simp[FD,qX,BU,Ag,Az,vB,qY,qU,qK,qA,vQ,wV,wq,wJ,k3,k4,yX,qN,z1,z2,z3,z4];try simp (disch:=omega) only[Af]) | refine An ?_ | (refine AW ?_ ?_ ?_;(· (simp[qX,BU,Ag,Az,vB,qY,qU,qK,qA,vQ,wV,wq,wJ,k3,k4,yX,qN,z1,z2,z3,z4];done));(try (rotate_left;(· (intro hc;(try simp[qX,BU,Ag,Az,vB,qY,qU,qK,qA,vQ,wV,wq,wJ,k3,k4,yX,qN,z1,z2,z3,z4]at hc);done))))) | (refine AH ?_;simp[results32,qX,BU,Ag,Az,vB,qY,qU,qK,qA,vQ,wV,wq,wJ,k3,k4,yX,qN,z1,z2,z3,z4]) | ((first | refine Ay ?_ | refine Ax ?_);simp[qX,BU,Ag,Az,vB,qY,qU,qK,qA,vQ,wV,wq,wJ,k3,k4,yX,qN,z1,z2,z3,z4]) | (intro hc;(try simp[qX,BU,Ag,Az,vB,qY,qU,qK,qA,vQ,wV,wq,wJ,k3,k4,yX,qN,z1,z2,z3,z4]at hc);(try (exfalso;omega))) | (refine⟨?_,?_⟩; · omega) | omega | apply_assumption -exfalso -symm | (exfalso;omega)))
    refine Al.mk ⟨(out++[⟨n,u,v⟩],Q++[⟨b.n,mi,v⟩,⟨a.n,u,mi⟩]),by simpa using fA,?_,by simp only;omega⟩ (Sub.lit (by simp[BU,Cs,Ap])) q2
    ·intro g hg
     rcases aI0.1 hg with hg | hg
     ·exact gL.cut g hg
     ·simp only[aJ0,eD0,or_false]at hg
      rcases hg with rfl | rfl
      ·exact q4
      ·exact q3
    skip
theorem Bi_ {f:FuncId} {args args':List DVal} {d:DVal} (h:Ad prog f args' d) (hw:WL args args'):Ad prog f args d:=⟨h.1,h.2.1,fun cur M w vs hM hr=>h.2.2 cur M w vs hM (Sc hw hr)⟩
def Ps : Ann:=⟨[],[⟨8,[13],[],[]⟩]⟩
theorem Tz (g:List Rul) (nt:ByteArray) (w:List ByteArray) (b:Bool) (e:Int) (hn:e≠0\/b=false) (p1:Ad prog 23 [AD g,.str nt,Bg w] (.tup [.bool b,.int .i64 e])) (p2:Ad prog 20 [AD g,.str nt,Bg w,FN []] (.tup [.bool false,.int .i64 e])) :
  Ad prog 9 [AD g,.str nt,Bg w] (.bool true):=by
 have f3:=Tc
 replace p2:=Bi_ (args:=[AD g,.str nt,Bg w,.nilsl]) p2 ⟨QD _,QD _,QD _,.inr ⟨.inl rfl,rfl⟩,trivial⟩
 refine Ac [] Ps func9 call9 ntmps9 mxd (Aq @Ps.eq_1 results9) rfl (fun qJ B qX qQ=> ?_);clear qJ;simp only[Am]
 by_cases he:e=0
 ·have hb:=hn.resolve_left (fun h=>h he);subst he hb;exact Au (Ez p1 p2 f3) Aa Aa
 ·have zX:(e==0)=false:=by simpa using he
  have pU:(e != 0)=true:=by simpa using he
  exact Au (Ez p1 p2 f3) Aa (Ez he zX pU)
theorem iL (gt:GT) (h:OkgT gt) (hs:Fa (AZ gt)) (p1:Ad prog 76 [AD (AZ gt)] (.int .i64 0)) (nt:ByteArray) (hn:nt∈AB (AZ gt)) (w:List ByteArray) (hw:w.length<=64) (hR:Rk (AZ gt) (Dx gt).1 nt w=true) :
  Ad prog 9 [AD (AZ gt),.str nt,Bg w] (.bool true):=by
 have f3:=Tc;have n1:=EL (k:=3) hs;have n2:(AZ gt).length=gt.length:=Gh gt;have n3:=h.le;have hhd:=h.hd;have rQ:=h.lb;have e0:=iN gt h hs p1 nt hn w hw;rw[hR]at e0;have e1:=XF (AZ gt) (by omega) (by omega) (by omega) p1;have e2:=Vh gt h hs p1;have e3:=Mq (AB (AZ gt)) (AC (AZ gt)) nt
 have hE:(Dx gt).2=0:=by
  obtain⟨x,e1,_,_,_⟩:=Mg h (Rb h);have e2:Dx gt=(x,0):=e1;rw[e2]
 rw[hE]at e2;have e4:=Ru (AB (AZ gt)) (AC (AZ gt)) w rQ hw;unfold Rk at hR;simp only[aM0]at hR;obtain⟨mR,vY⟩:=hR;unfold wdD at e4;rw[if_pos mR,if_pos mR]at e4;unfold JQ at e3;rw[if_pos hn]at e3;have hq:=Rp h hn (w:=(Ox (AC (AZ gt)) w).length) (by rw[KX];exact hw);have e5:=IR_ (Dx gt).1 (Il (AB (AZ gt)) nt) (Ox (AC (AZ gt)) w) hq (Bn_ h) vY;have qU:(Ox (AC (AZ gt)) w).length<=64:=by rw[KX];exact hw
 have hT:=YT gt h hs p1 nt hn w hw;unfold Bt_ at hT;rw[mR]at hT;obtain⟨X,hX⟩:∃X,X=(Dx gt).1:=⟨_,rfl⟩;obtain⟨H,hH⟩:∃H,H=AB (AZ gt):=⟨_,rfl⟩;obtain⟨L,hL⟩:∃L,L=AC (AZ gt):=⟨_,rfl⟩;rw[<-hH,<-hL]at e1 e3;rw[<-hX]at e2;rw[<-hX,<-hH,<-hL]at e5 hT hq;rw[<-hH,<-hL]at e4;rw[<-hL]at qU;obtain⟨N,hN⟩:∃N,N=Il H nt:=⟨_,rfl⟩;rw[<-hN]at e3 e5 hT hq;obtain⟨W,hW⟩:∃W,W=Ox L w:=⟨_,rfl⟩;rw[<-hW]at e4 e5 hT qU hq;clear hX hH hL hN hW mR vY hE
 simp only[Av]at e2 e5
 cases hg:Gt (Ot X W (HP X W)) ⟨N,0,W.length⟩with
 | none =>
  rw[hg]at e5;simp only at e5;refine Ac [] Ps func9 call9 ntmps9 mxd (Aq @Ps.eq_1 results9) rfl (fun qJ B qX qQ=> ?_);clear qJ;simp only[Am];exact Au (JB e0 f3 e1 e2 e3 e4 e5) Aa Aa
 | some s =>
  rw[hg]at e5;simp only at e5;obtain⟨r1,r2⟩:=uG hq hg;have e6:=hT _ r1;rw[r2]at e6;obtain⟨D,hD⟩:∃D,D=HM X (Ot X W (HP X W)) 4096 ⟨N,0,W.length⟩:=⟨_,rfl⟩;rw[<-hD]at e5 e6;refine Ac [] Ps func9 call9 ntmps9 mxd (Aq @Ps.eq_1 results9) rfl (fun qJ B qX qQ=> ?_);clear qJ;simp only[Am];exact Au (ML e0 f3 e1 e2 e3 e4 e5 e6) Aa Aa
theorem uV (c:Cnf) (nt:Int) (w:List Int):Kk c nt w []=false:=by
 unfold Kk;rw[Xp];rfl
theorem NM (g:List Rul) (nt:ByteArray) (w:List ByteArray) (hs:Fa g):Ad prog 9 [AD g,.str nt,Bg w] (.bool true):=by
 obtain⟨c,p1,p2,p3⟩:=NS_ g hs
 by_cases he:Pz c g nt w=0
 ·have vI:=he;unfold Pz at he
  have hk:BS c g nt=0:=by
   split at he
   ·assumption
   ·exact he
  rw[if_pos hk]at he
  have hw:w.length<=64:=by
   split at he
   ·omega
   ·omega
  obtain⟨yW,hn⟩:=Ij_ hk;obtain⟨gt,rfl,h⟩:=p3 yW;subst yW;have e0:=iN gt h hs p1 nt hn w hw
  cases hR:Rk (AZ gt) (Dx gt).1 nt w with
  | true=>exact iL gt h hs p1 nt hn w hw hR
  | false =>
   rw[hR]at e0;have e1:=YT gt h hs p1 nt hn w hw [] (by simp);unfold Bt_ at e1;rw[uV,Bool.and_false]at e1;exact Tz _ nt w false 0 (.inr rfl) e0 e1
 ·have e0:=FP_ g nt c w p1 he
  have e1:=GG_ g nt c w [] false p1 (by
   unfold Pz at he
   by_cases hk:BS c g nt=0
   ·rw[if_pos hk]at he;refine .inr (.inl ?_)
    split at he
    ·assumption
    ·exact absurd rfl he
   ·exact .inl hk)
  have e2:Vo c g nt w [] false=(false,Pz c g nt w):=by
   unfold Vo Pz
   by_cases hk:BS c g nt=0
   ·rw[if_pos hk,if_pos hk];simp
    split<;>rfl
   ·rw[if_neg hk,if_neg hk]
  rw[e2]at e1;exact Tz g nt w false _ (.inl he) e0 e1
end Go.Proofs.Wy
end
section
namespace Go.Dm
variable [DMode]
inductive Sh where
 | b
 | i (k:IntKind)
 | s
 | sl (k bs:Nat) (c:List Sh)
mutual
def Px (L:Nat):Sh->DVal->Prop
 | .b,d=>∃b,d= .bool b
 | .i k,d=>∃n,d= .int k n
 | .s,d=>∃x:ByteArray,d= .str x/\x.size<=L
 | .sl k bs c,d=>∃es,d= .sl k bs es/\es.length*bs<=L/\∀e∈es,EH L c e
def EH (L:Nat):List Sh->List DVal->Prop
 | [],ds=>ds=[]
 | x::r,ds=>∃d t,ds=d::t/\Px L x d/\EH L r t
end
theorem Qe {L:Nat}:∀{a b:List Sh} {x y:List DVal},EH L a x->EH L b y->EH L (a++b) (x++y)
 | [],b,x,y,h,k=>by simp only[EH]at h;subst h;exact k
 | a::r,b,x,y,h,k=>by
  simp only[EH]at h;obtain⟨d,t,rfl,h1,h2⟩:=h;simp only[List.cons_append,EH];exact⟨d,t++y,rfl,h1,Qe h2 k⟩
def shF (g:TypeId->Option (List Sh)) (cells:TypeId->Nat):List Field->Nat->Option (List Sh×Nat)
 | [],off=>some ([],off)
 | f::r,off=>if f.offset=off then
  (match g f.type,shF g cells r (off+cells f.type)with
  | some c,some (l,e)=>some (c++l,e)
  | _,_=>none)else none
def Eg (P:Program):Nat->TypeId->Option (List Sh)
 | 0,_=>none
 | n+1,t=>match P.underlying t with
  | some .bool=>some [.b]
  | some (.int k)=>some [.i k]
  | some .string=>some [.s]
  | some (.slice e)=>if 0<P.cellsOf e then (Eg P n e).map fun c=>[.sl (P.cellsOf e) (P.bytesOf e) c]else none
  | some (.struct fs)=>match shF (Eg P n) P.cellsOf fs.toList 0 with
   | some (l,e)=>if e=P.cellsOf t then some l else none
   | none=>none
  | _=>none
theorem OW {α β:Type} {f:α->Option β}:∀{l:List α} {r:List β},l.mapM f=some r->r.length=l.length/\∀(i:Nat) (x:α),l[i]? =some x->∃y,r[i]? =some y/\f x=some y
 | [],r,h=>by simp at h;subst h;simp
 | a::l,r,h=>by
  rw[List.mapM_cons]at h
  cases hf:f a with
  | none=>rw[hf]at h;simp at h
  | some y =>
   rw[hf]at h
   cases hm:l.mapM f with
   | none=>rw[hm]at h;simp at h
   | some r' =>
    rw[hm]at h;simp at h;subst h;obtain⟨h1,h2⟩:=OW hm;refine⟨by simp[h1],fun i x hx=> ?_⟩
    cases i with
    | zero=>simp only[bB0,aA0]at hx;subst hx;exact⟨y,rfl,hf⟩
    | succ i=>simp only[bP0]at hx |-;exact h2 i x hx
theorem BJ_ {cur:Fb} {M:List Nat} {h:Array Obj}:∀{a:List DVal} {x:List Value},AI cur M h a x->a.length=x.length
 | [],x,h1=>by simp only[AI]at h1;subst h1;rfl
 | d::a,x,h1=>by
  simp only[AI]at h1;obtain⟨v,r,rfl,h3,h4⟩:=h1;simp[BJ_ h4]
theorem Sj {cur:Fb} {M:List Nat} {h:Array Obj} {arr:Array Value}:∀{a:List DVal} {x:List Value} {o:Nat},AI cur M h a x->(∀v∈x,v.oneCell'=true)->(∀(j:Nat) v,x[j]? =some v->arr[o+j]? =some v)->Ea cur M h a arr o
 | [],x,o,h1,_,_=>by simp[Ea]
 | d::a,x,o,h1,h2,h3=>by
  simp only[AI]at h1;obtain⟨v,r,rfl,h4,h5⟩:=h1;simp only[Ea];refine⟨⟨v,by simpa using h3 0 v rfl,h2 v (by simp),h4⟩,Sj h5 (fun u hu=>h2 u (by simp[hu])) fun j u hu=> ?_⟩;have:=h3 (j+1) u (by simpa using hu);rw[<-this];congr 1;omega
theorem BB_ {L:Nat} {cur:Fb} {M:List Nat} {h:Array Obj} {arr:Array Value} {k:Nat} {c:List Sh}:∀(len off:Nat),(∀i,i<len->∃ds,ds.length=k/\Ea cur M h ds arr (off+i*k)/\EH L c ds) ->
  ∃es,es.length=len/\EB cur M h k es arr off/\∀e∈es,EH L c e
 | 0,off,_=>⟨[],rfl,by simp[EB],by simp⟩
 | len+1,off,hh=>by
  obtain⟨ds,h1,h2,h3⟩:=hh 0 (by omega)
  obtain⟨es,h4,h5,h6⟩:=BB_ len (off+k) (fun i hi=>by
   obtain⟨ds,h1,h2,h3⟩:=hh (i+1) (by omega);refine⟨ds,h1,?_,h3⟩;have:off+k+i*k=off+(i+1)*k:=by rw[bU0];omega
   rw[this];exact h2)
  refine⟨ds::es,by simp[h4],?_,?_⟩
  ·simp only[EB];exact⟨h1,by simpa using h2,h5⟩
  ·intro e he
   rcases aJ0.1 he with rfl | he
   ·exact h3
   ·exact h6 e he
theorem Fp_ {k:IntKind} {n:Int} (h:(Lit.int k n).wf=true):JI k n:=by
 cases k<;>simpa[Lit.wf,IntKind.min,IntKind.max,IntKind.signed,IntKind.bits,JI]using h
theorem Zg {g:TypeId->Option (List Sh)} {cells:TypeId->Nat}:∀{fs:List Field} {off e:Nat} {l:List Sh},shF g cells fs off=some (l,e)->off<=e
 | [],off,e,l,h=>by simp only[shF,aA0,aT0]at h;omega
 | f::r,off,e,l,h=>by
  simp only[shF]at h
  split at h
  ·split at h
   ·rename_i c l' e' h1 h2;simp only[aA0,aT0]at h;have:=Zg h2;omega
   ·simp at h
  ·simp at h
section
variable {H : Type} {enc : TypeId × Value -> H} {P : Program} {w : World} {cur : Fb}
def JI_ (L:Nat) (P:Program) (cur:Fb) (w:World) (cs:List Value) (shs:List Sh):Prop :=
 ∃ds,AI cur [] w.heap ds cs/\(∀v∈cs,v.oneCell'=true)/\EH L shs ds
theorem Wh {L fuel n:Nat} (ih:∀{t:TypeId} {cs:List Value} {d:DataW H} {ps:List MemPlace} {shs:List Sh},DataW.trod enc P w 0 (fun _=>true) true fuel t cs=some (d,ps)->Eg P n t=some shs->(∀x∈d.weights P t,x<=L)->JI_ L P cur w cs shs)
  (cs:List Value):∀(fs:List Field) (off e:Nat) (l:List Sh) (xs:List (DataW H×List MemPlace)),
   fs.mapM (fun f=>DataW.trod enc P w 0 (fun _=>true) true fuel f.type ((cs.drop f.offset).take (P.cellsOf f.type)))=some xs->shF (Eg P n) P.cellsOf fs off=some (l,e) ->
   (∀x∈DataW.weightsEach P (fs.map (·.type)) (xs.map (·.1)),x<=L)->JI_ L P cur w ((cs.drop off).take (e-off)) l
 | [],off,e,l,xs,h1,h2,h3=>by
  simp only[shF,aA0,aT0]at h2;obtain⟨rfl,rfl⟩:=h2;exact⟨[],by simp[AI],by simp,by simp[EH]⟩
 | f::fs,off,e,l,xs,h1,h2,h3=>by
  rw[List.mapM_cons]at h1;simp only[shF]at h2
  split at h2
  ·rename_i hoff
   split at h2
   ·rename_i c l' e' h4 h5;simp only[aA0,aT0]at h2;obtain⟨rfl,rfl⟩:=h2;have hm:=Zg h5
    cases hf:DataW.trod enc P w 0 (fun _=>true) true fuel f.type ((cs.drop f.offset).take (P.cellsOf f.type))with
    | none=>rw[hf]at h1;simp at h1
    | some x =>
     rw[hf]at h1
     cases hr:fs.mapM (fun f=>DataW.trod enc P w 0 (fun _=>true) true fuel f.type ((cs.drop f.offset).take (P.cellsOf f.type)))with
     | none=>rw[hr]at h1;simp at h1
     | some xr =>
      rw[hr]at h1;simp at h1;subst h1;simp only[List.map_cons,DataW.weightsEach,aI0]at h3;obtain⟨d1,a1,a2,a3⟩:=ih hf h4 (fun y hy=>h3 y (.inl hy));obtain⟨d2,b1,b2,b3⟩:=Wh ih cs fs (off+P.cellsOf f.type) e' l' xr hr h5 (fun y hy=>h3 y (.inr hy))
      have jE:(cs.drop off).take (e'-off)=(cs.drop f.offset).take (P.cellsOf f.type)++(cs.drop (off+P.cellsOf f.type)).take (e'-(off+P.cellsOf f.type)):=by
       rw[hoff,<-List.drop_drop,show e'-off=P.cellsOf f.type+(e'-(off+P.cellsOf f.type)) by omega,List.take_add]
      rw[jE];exact⟨d1++d2,Cr _ _ _ _ a1 b1,fun v hv=>(aI0.1 hv).elim (a2 v) (b2 v),Qe a3 b3⟩
   ·simp at h2
  ·simp at h2
theorem JV {e:TypeId}:∀{l:List (DataW H)} {d:DataW H},d∈l->∀x∈d.weights P e,x∈DataW.weightsAll P e l
 | a::l,d,hd,x,hx=>by
  simp only[DataW.weightsAll,aI0]
  rcases aJ0.1 hd with rfl | hd
  ·exact .inl hx
  ·exact .inr (JV hd x hx)
theorem Wr {a:Addr} {n:Nat} {cs:List Value} (h:w.cells? 0 a n=some cs):cs.length=n/\∀(j:Nat) v,cs[j]? =some v->w.cell? (a.add j)=some v:=by
 unfold World.cells? at h;rw[if_pos (cH0 _)]at h;obtain⟨h1,h2⟩:=OW h;rw[eH0]at h1;refine⟨h1,fun j v hv=> ?_⟩;have hj:j<n:=by rw[<-h1];exact(aB0.1 hv).1
 obtain⟨y,hy,zM⟩:=h2 j j (by rw[eQ0 hj]);rw[hv]at hy;rw[zM,hy]
theorem tI (b o n:Nat):(⟨b,o,none⟩:Addr).add n=⟨b,o+n,none⟩:=by
 unfold Addr.add
 split
 ·rename_i h;subst h;rfl
 ·rfl
theorem WV {L:Nat} (hL:L<=140737488355328):∀{fuel n:Nat} {t:TypeId} {cs:List Value} {d:DataW H} {ps:List MemPlace} {shs:List Sh},DataW.trod enc P w 0 (fun _=>true) true fuel t cs=some (d,ps)->Eg P n t=some shs ->
  (∀x∈d.weights P t,x<=L)->JI_ L P cur w cs shs
 | 0,n,t,cs,d,ps,shs,h,hs,hw=>by simp[DataW.trod]at h
 | fuel+1,0,t,cs,d,ps,shs,h,hs,hw=>by simp[Eg]at hs
 | fuel+1,n+1,t,cs,d,ps,shs,h,hs,hw=>by
  unfold DataW.trod at h
  split at h
  ·rename_i b hu;simp only[Eg,hu,aA0]at hs;subst hs;exact⟨[.bool b],by simp[AI,rd],by simp[Value.oneCell'],by simp[EH,Px]⟩
  ·rename_i k k' n' hu;simp only[Eg,hu,aA0]at hs;subst hs
   split at h
   ·rename_i hk;obtain⟨rfl,hk⟩:=hk;exact⟨[.int k' n'],by simp[AI,rd,Fp_ hk],by simp[Value.oneCell'],by simp[EH,Px]⟩
   ·simp at h
  ·rename_i hu;simp[Eg,hu]at hs
  ·rename_i x hu;simp only[Eg,hu,aA0]at hs;subst hs
   split at h
   ·rename_i hk;simp only[aA0,aT0]at h;obtain⟨rfl,_⟩:=h;have qH:=hw x.data.toList.length (by simp[DataW.weights]);exact⟨[.str x],by simp[AI,rd,hk],by simp[Value.oneCell'],by simp only[EH,Px];exact⟨_,_,rfl,⟨x,rfl,by rw[bQ0]at qH;exact qH⟩,rfl⟩⟩
   ·simp at h
  ·rename_i hu;simp[Eg,hu]at hs
  ·rename_i hu;simp[Eg,hu]at hs
  ·rename_i e hu;simp only[Eg,hu]at hs
   split at hs
   rotate_left
   ·simp at hs
   rename_i zQ;rw[bC0]at hs;obtain⟨c,hc,rfl⟩:=hs;exact⟨[.sl (P.cellsOf e) (P.bytesOf e) []],by simp only[AI,rd];exact⟨_,_,rfl,⟨none,0,rfl,Nat.le_refl _,cH0 _,by simp,.inl ⟨trivial,fun _=>rfl⟩⟩,rfl⟩,by simp[Value.oneCell'],by simp[EH,Px]⟩
  ·rename_i e a len cap hu;simp only[Eg,hu]at hs
   split at hs
   rotate_left
   ·simp at hs
   rename_i zQ;rw[bC0]at hs;obtain⟨c,hc,rfl⟩:=hs;simp only at h
   split at h
   ·rename_i hb;obtain⟨_,wQ,wB⟩:=hb
    cases hm:(List.range len).mapM (fun i=>(w.cells? 0 (a.add (i*P.cellsOf e)) (P.cellsOf e)).bind (DataW.trod enc P w 0 (fun _=>true) true fuel e))with
    | none=>rw[hm]at h;simp at h
    | some elems =>
     rw[hm]at h;simp only[Option.bind_some,if_true,bC0]at h;obtain⟨rest,hr,h⟩:=h;simp only[aT0]at h;obtain⟨rfl,rfl⟩:=h;simp only[DataW.weights,hu,aJ0,aI0,aL0]at hw;obtain⟨m1,m2⟩:=OW hm;rw[eH0]at m1;have qH:=hw _ (.inl rfl);have qU:len*P.bytesOf e<=L:=Nat.le_trans (aS0 _ (by omega)) qH
     have hel:∀i,i<len->∃cs ds,w.cells? 0 (a.add (i*P.cellsOf e)) (P.cellsOf e)=some cs/\AI cur [] w.heap ds cs/\(∀v∈cs,v.oneCell'=true)/\EH L c ds:=by
      intro i hi;obtain⟨y,hy,zM⟩:=m2 i i (by rw[eQ0 hi]);rw[Option.bind_eq_some_iff]at zM;obtain⟨cs,zS,zM⟩:=zM;obtain⟨d',p'⟩:=y;have qO:d'∈elems.map (·.1):=aR0.2 ⟨_,bH0 hy,rfl⟩;obtain⟨ds,b1,b2,b3⟩:=WV hL zM hc (fun x hx=>hw x (.inr (.inl (JV qO x hx))));exact⟨cs,ds,zS,b1,b2,b3⟩
     by_cases h0:len=0
     ·subst h0;exact⟨[.sl (P.cellsOf e) (P.bytesOf e) []],by simp only[AI,rd];exact⟨_,_,rfl,⟨some a,cap,rfl,cH0 _,wB,by simp,.inl ⟨trivial,fun hh=>by simp at hh⟩⟩,rfl⟩,by simp[Value.oneCell'],by simp[EH,Px]⟩
     ·obtain⟨blk,off,spot⟩:=a;obtain⟨cs0,ds0,hcs0,_,_,_⟩:=hel 0 (by omega);obtain⟨l1,l2⟩:=Wr hcs0;obtain⟨v,hv⟩:∃v,cs0[0]? =some v:=⟨_,aH0 (by omega)⟩;have yW:w.cell? ⟨blk,off,spot⟩=some v:=by simpa[Addr.add]using l2 0 v hv
      obtain⟨arr,ty,fz,hblk,hspot⟩:∃arr ty fz,w.heap[blk]? =some (.cells arr ty fz)/\spot=none:=by
       simp only[World.cell?]at yW
       split at yW
       ·rename_i arr ty fz hb
        split at yW
        ·simp at yW
        ·rename_i jE;exact⟨arr,ty,fz,hb,by simpa using jE⟩
       ·simp at yW
      subst hspot
      obtain⟨es,e1,e2,e3⟩:=BB_ (cur:=cur) (M:=[]) (h:=w.heap) (arr:=arr) (k:=P.cellsOf e) (c:=c) len off (fun i hi=>by
       obtain⟨cs,ds,zS,b1,b2,b3⟩:=hel i hi;obtain⟨l1,l2⟩:=Wr zS;refine⟨ds,by rw[BJ_ b1,l1],Sj b1 b2 fun j u hu=> ?_,b3⟩;have:=l2 j u hu;rw[tI,tI]at this
       simpa[World.cell?,hblk]using this)
      refine⟨[.sl (P.cellsOf e) (P.bytesOf e) es],?_,by simp[Value.oneCell'],by simp only[EH,Px];exact⟨_,_,rfl,⟨es,rfl,by rw[e1];exact qU,e3⟩,rfl⟩⟩;simp only[AI,rd];exact⟨_,_,rfl,⟨_,_,by rw[e1],by omega,wB,by rw[e1];omega,.inr ⟨blk,off,arr,ty,fz,rfl,by simp,hblk,e2⟩⟩,rfl⟩
   ·simp at h
  ·rename_i fs hu;simp only[Eg,hu]at hs
   split at hs
   ·rename_i l e hf
    split at hs
    ·rename_i he;simp only[aA0]at hs;subst hs;subst he
     split at h
     ·rename_i qU;simp only[bC0]at h;obtain⟨xs,mT,h⟩:=h;simp only[aT0]at h;obtain⟨rfl,rfl⟩:=h;simp only[DataW.weights,hu]at hw;have:=Wh (cur:=cur) (fun h1 h2 h3=>WV hL h1 h2 h3) _ fs.toList 0 (P.cellsOf t) l xs mT hf hw;simpa[<-qU]using this
     ·simp at h
    ·simp at hs
   ·simp at hs
  all_goals first | (simp at h;done) | (rename_i hu;simp[Eg,hu]at hs;done)
def MA (P:Program) (t:TypeId):Bool:=match P.underlying t with | some (.struct _)=>true | _=>false
theorem MW_ {L base n:Nat} (hL:L<=140737488355328) {t:TypeId} {v:Value} {d:DataW H} {ps:List MemPlace} {shs:List Sh} (hv:Value.okWide P w .any base t v) (h:DataW.Trod enc P w 0 (fun _=>true) true t v d ps) (hs:Eg P n t=some shs)
  (hw:∀x∈d.weights P t,x<=L):∃ds,EH L shs ds/\if MA P t then rd cur [] w.heap (.agg ds) v else AI cur [] w.heap ds [v]:=by
 obtain⟨fuel,h⟩:=h;obtain⟨ds,h1,h2,h3⟩:=WV (cur:=cur) hL h hs hw;refine⟨ds,h3,?_⟩;unfold MA
 split
 ·rename_i fs hu;simp only[if_true];simp only[Value.okWide,hu]at hv;obtain⟨cs,rfl,_,_⟩:=hv;simp only[rd];exact⟨cs,rfl,h1⟩
 ·rename_i hu
  have rD:v.cells= #[v]:=by
   cases n with
   | zero=>simp[Eg]at hs
   | succ n =>
    cases v<;>first | rfl | skip
    rename_i cs;unfold Eg at hs;unfold Value.okWide at hv
    cases zH:P.underlying t with
    | none=>simp[zH]at hs
    | some ty =>
     rw[zH]at hs hv;cases ty<;>simp[Cell.okWide,Cell.ok,zH]at hs hv;exact absurd zH (hu _)
  rw[rD]at h1;simpa using h1
def Lx (L:Nat) (P:Program):List TypeId->List (List Sh)->List DVal->Prop
 | [],[],a=>a=[]
 | t::ts,x::xs,a=>∃ds r,EH L x ds/\a=(if MA P t then .agg ds else ds.headD .any)::r/\Lx L P ts xs r
 | _,_,_=>False
theorem lA {L base n:Nat} (hL:L<=140737488355328):∀{ts:List TypeId} {vs:List Value} {ds:List (DataW H)} {ps:List MemPlace} {shs:List (List Sh)},(∀(j:Nat) t v,ts[j]? =some t->vs[j]? =some v->Value.okWide P w .any base t v) ->
  DataW.TrodAll enc P w 0 (fun _=>true) true ts vs ds ps->ts.map (Eg P n)=shs.map some->(∀x∈DataW.weightsEach P ts ds,x<=L)->∃das,AI cur [] w.heap das vs/\Lx L P ts shs das
 | [],vs,ds,ps,shs,hv,hA,hs,hw=>by
  obtain⟨rfl,rfl,rfl⟩:=ChangeShapes.trodAll_nil hA
  cases shs with
  | nil=>exact⟨[],by simp[AI],by simp[Lx]⟩
  | cons a b=>simp at hs
 | t::ts,vs,ds,ps,shs,hv,hA,hs,hw=>by
  obtain⟨v,vr,d,dr,p,q,rfl,rfl,rfl,h0,hr⟩:=ChangeShapes.trodAll_cons hA
  cases shs with
  | nil=>simp at hs
  | cons x xs =>
   simp only[List.map_cons,bG0]at hs;simp only[DataW.weightsEach,aI0]at hw;obtain⟨das,a1,a2⟩:=lA hL (fun j t v h1 h2=>hv (j+1) t v (by simpa using h1) (by simpa using h2)) hr hs.2 (fun y hy=>hw y (.inr hy));obtain⟨dd,b1,b2⟩:=MW_ (cur:=cur) hL (hv 0 t v rfl rfl) h0 hs.1 (fun y hy=>hw y (.inl hy));refine⟨(if MA P t then .agg dd else dd.headD .any)::das,?_,by simp only[Lx];exact⟨dd,das,b1,rfl,a2⟩⟩;simp only[AI]
   refine⟨v,vr,rfl,?_,a1⟩
   split
   ·rename_i h;rw[if_pos h]at b2;exact b2
   ·rename_i h;rw[if_neg h]at b2
    cases dd with
    | nil=>simp[AI]at b2
    | cons d0 dr =>
     simp only[AI]at b2;obtain⟨u,r,hu,bH,_⟩:=b2;simp only[bG0]at hu;rw[hu.1];simpa using bH
theorem LB_ {L base n:Nat} {ts:List TypeId} {vs:List Value} {ds:List (DataW H)} {ps:List MemPlace} {shs:List (List Sh)} (h1:∀(j:Nat) t v,ts[j]? =some t->vs[j]? =some v->Value.okWide P w .any base t v)
 (h2:DataW.TrodAll enc P w 0 (fun _=>true) true ts vs ds ps) (h3:ts.map (Eg P n)=shs.map some) (h4:∀x∈DataW.weightsEach P ts ds,x<=L) (hL:L<=140737488355328:=by omega):∃das,AI cur [] w.heap das vs/\Lx L P ts shs das:=lA hL h1 h2 h3 h4
theorem Upd.below {a b:World} (h:Upd [] a b):RowKit.Below a.heap.size a b:=⟨h.os,h.tape,h.output,h.size,fun k hk=>h.blk k hk (by simp)⟩
theorem LL (hl:laidOutB P=true) {W W':World} {sp:Nat->Bool}:∀{ts:List TypeId} {vs:List Value} {ds:List (DataW H)} {ps:List MemPlace},(∀t∈ts,P.readableRec t=true/\t<P.types.size) ->
  DataW.TrodAll enc P W 0 (fun _=>true) true ts vs ds ps->(∀p∈ps,W.sameAt W' p)->(∀p∈ps,sp p.block=true)->DataW.TrodAll enc P W' 0 sp true ts vs ds ps
 | [],vs,ds,ps,ht,hA,h1,h2=>by
  obtain⟨rfl,rfl,rfl⟩:=ChangeShapes.trodAll_nil hA;rfl
 | t::ts,vs,ds,ps,ht,hA,h1,h2=>by
  obtain⟨v,vr,d,dr,p,q,rfl,rfl,rfl,h0,hr⟩:=ChangeShapes.trodAll_cons hA;obtain⟨k1,k2⟩:=ht t (by simp);exact⟨p,q,WideElems.Trod_stays hl k1 k2 h0 (fun x hx=>h1 x (by simp[hx])) (fun x hx=>h2 x (by simp[hx])),LL hl (fun t h=>ht t (by simp[h])) hr (fun x hx=>h1 x (by simp[hx])) (fun x hx=>h2 x (by simp[hx])),rfl⟩
theorem Ie_ {fn:Func} {s:ChangeSpec} {fresh handsOn:Bool} {tb:TypeId} {W W':World} {args:Array Value} {ds gs:List (DataW H)} {before:List MemPlace} (hl:laidOutB P=true)
  (wX:∀t∈fn.params.toList,P.readableRec t=true/\t<P.types.size) (hr:fn.resultTypes= #[tb]) (hub:P.underlying tb=some .bool) (dY:s.vars=[])
  (hs:s.fn H (ds++gs)={ results:=[.lit (.bool true)],args:=ds }) (hW:DataW.Whole enc P fn.params.toList s.vars false W args.toList ds gs before) (hu:Upd [] W W') :
  s.post enc P fn false fresh handsOn false W args (.bool true) W':=by
 have hW':=hW;obtain⟨p,q,hA,hV,rfl,hfz,hnd⟩:=hW;have qV:∀x∈p,x.block<W.heap.size:=fun x hx=>hW'.lt x (by simp[hx])
 have hb:=hu.below;refine⟨ds,gs,p++q,[],p,[],hW',?_,?_,?_,hb.frame _,fun h=>by cases h⟩
 ·rw[hs,hr];exact ChangeShapes.trodAll_mk1 (RowKit.shut_bool hub true)
 ·rw[hs];exact LL hl wX hA (fun x hx=>hb.same (qV x hx)) (fun x hx=>by simpa using qV x hx)
 ·rw[hs,dY];rfl
theorem XV {f:FuncId} {fn:Func} {s:ChangeSpec} {fresh handsOn:Bool} {tb:TypeId} {W:World} {args:Array Value} {das:List DVal} {ds gs:List (DataW H)} {before:List MemPlace} (hl:laidOutB P=true)
  (wX:∀t∈fn.params.toList,P.readableRec t=true/\t<P.types.size) (hr:fn.resultTypes= #[tb]) (hub:P.underlying tb=some .bool) (dY:s.vars=[])
  (hs:s.fn H (ds++gs)={ results:=[.lit (.bool true)],args:=ds }) (hW:DataW.Whole enc P fn.params.toList s.vars false W args.toList ds gs before)
  (vT:AI (fun _ _=>none) [] W.heap das args.toList) (hd:Ad P f das (.bool true)) :
  Calls P f args W fun e W'=>∃v,e= .returned v/\s.post enc P fn false fresh handsOn false W args v W':=by
 refine(hd.2.2 _ [] W args (by simp) vT).mono fun e W' ⟨v,he,hu,hv⟩=>⟨.bool true,?_,Ie_ hl wX hr hub dY hs hW hu⟩
 simp only[rd]at hv;rw[he,hv]
end
theorem Ld {α:Type} {f:α->List DVal}:∀{es:List (List DVal)},(∀e∈es,∃x,e=f x)->∃l:List α,es=l.map f
 | [],_=>⟨[],rfl⟩
 | e::es,h=>by
  obtain⟨x,rfl⟩:=h e (by simp);obtain⟨l,rfl⟩:=Ld (es:=es) (f:=f) (fun e he=>h e (by simp[he]));exact⟨x::l,rfl⟩
end Go.Dm
end
section
namespace Go.Proofs.Wy
open Go Go.Dm Tryz
variable [DMode]
open Go.ChangeShapes Go.WideShapes Go.ChangeAt Go.RowKit
theorem own : ownKnob Tryz.prog.godebug=none:=by kernel_rfl
theorem KO_ : laidOutB prog=true:=by kernel_rfl
end Go.Proofs.Wy
end
section
namespace Go.Proofs.Wy
open Go Go.Dm Tryz YtchgnpnbcjflcaaGreat
variable [DMode]
mutual
def Ns_ (C:Nat):Sh->Bool
 | .b=>true
 | .i _=>true
 | .s=>true
 | .sl _ bs c=>decide (bs<=C)&&Ia C c
def Ia (C:Nat):List Sh->Bool
 | []=>true
 | x::r=>Ns_ C x&&Ia C r
end
theorem Na {C:Nat}:∀{a b:List Sh},Ia C (a++b)=(Ia C a&&Ia C b)
 | [],b=>by simp[Ia]
 | x::a,b=>by simp[Ia,Na (a:=a),Bool.and_assoc]
section
variable {H : Type}
theorem Je_ (d:DataW H):1<=Rows.uptoBulk d:=by
 cases d with
 | lit l=>cases l<;>simp only[Rows.uptoBulk]<;>omega
 | _=>simp only[Rows.uptoBulk]<;>omega
theorem TW : ∀l:List (DataW H),l.length<=Rows.uptoBulkAll l
 | []=>by simp
 | d::r=>by
  have:=Je_ d;have:=TW r;simp only[Rows.uptoBulkAll,List.length_cons];omega
theorem Jc {P:Program} {C:Nat} (hC:1<=C):∀(n:Nat) (t:TypeId) (shs:List Sh) (d:DataW H),Eg P n t=some shs->Ia C shs=true->∀x∈d.weights P t,x<=Rows.uptoBulk d*C
 | 0,t,shs,d,h,hl=>by simp[Eg]at h
 | n+1,t,shs,d,h,hl=>by
  intro x hx
  have all:∀(e:TypeId) (c:List Sh),Eg P n e=some c->Ia C c=true->∀(l:List (DataW H)),∀x∈DataW.weightsAll P e l,x<=Rows.uptoBulkAll l*C:=by
   intro e c he hc l
   induction l with
   | nil=>intro x hx;simp[DataW.weightsAll]at hx
   | cons d r ih =>
    intro x hx;simp only[DataW.weightsAll,aI0]at hx;simp only[Rows.uptoBulkAll,bU0]
    rcases hx with hx | hx
    ·have:=Jc hC n e c d he hc x hx;omega
    ·have:=ih x hx;omega
  have each:∀(fs:List Field) (off e:Nat) (l:List Sh),shF (Eg P n) P.cellsOf fs off=some (l,e)->Ia C l=true->∀(parts:List (DataW H)),∀x∈DataW.weightsEach P (fs.map (·.type)) parts,x<=Rows.uptoBulkAll parts*C:=by
   intro fs
   induction fs with
   | nil=>intro off e l _ _ parts x hx;simp[DataW.weightsEach]at hx
   | cons f fs ih =>
    intro off e l hf hc parts x hx
    cases parts with
    | nil=>simp[DataW.weightsEach]at hx
    | cons d r =>
     simp only[shF]at hf
     split at hf
     ·split at hf
      ·rename_i c l' e' h4 h5;simp only[aA0,aT0]at hf;obtain⟨rfl,rfl⟩:=hf;rw[Na,aM0]at hc;simp only[List.map_cons,DataW.weightsEach,aI0]at hx;simp only[Rows.uptoBulkAll,bU0]
       rcases hx with hx | hx
       ·have:=Jc hC n f.type c d h4 hc.1 x hx;omega
       ·have:=ih _ _ _ h5 hc.2 r x hx;omega
      ·simp at hf
     ·simp at hf
  cases d with
  | lit l =>
   cases l<;>simp only[DataW.weights,aG0,eD0]at hx;subst hx;simp only[Rows.uptoBulk];exact Nat.le_trans (Nat.le_succ _) (Nat.le_mul_of_pos_right _ hC)
  | nil=>simp[DataW.weights]at hx
  | held a=>simp[DataW.weights]at hx
  | iface a b=>simp[DataW.weights]at hx
  | ptr d =>
   simp only[DataW.weights]at hx
   split at hx
   ·rename_i hu;simp[Eg,hu]at h
   ·simp at hx
  | map es =>
   simp only[DataW.weights]at hx
   split at hx
   ·rename_i hu;simp[Eg,hu]at h
   ·simp at hx
  | slice elems spare =>
   simp only[DataW.weights]at hx
   split at hx
   ·rename_i e hu;simp only[Eg,hu]at h
    split at h
    rotate_left
    ·simp at h
    rw[bC0]at h;obtain⟨c,hc,rfl⟩:=h;simp only[Ia,Ns_,eZ0,aM0,decide_eq_true_eq]at hl;simp only[Rows.uptoBulk,bU0];simp only[aJ0,aI0]at hx
    rcases hx with rfl | hx | hx
    ·have h1:=TW elems;have h2:=TW spare;rw[bU0];have g1:=Nat.mul_le_mul h1 hl.1;have g2:=Nat.mul_le_mul h2 hl.1;omega
    ·have:=all e c hc hl.2 elems x hx;omega
    ·have:=all e c hc hl.2 spare x hx;omega
   ·simp at hx
  | agg parts =>
   simp only[DataW.weights]at hx
   split at hx
   ·rename_i fs hu;simp only[Eg,hu]at h
    split at h
    ·rename_i l e hf
     split at h
     ·simp only[aA0]at h;subst h;simp only[Rows.uptoBulk,bU0];have:=each fs.toList 0 e l hf hl parts x hx;omega
     ·simp at h
    ·simp at h
   ·rename_i hu;simp[Eg,hu]at h
   ·simp at hx
theorem HT {P:Program} {C n:Nat} (hC:1<=C):∀{ts:List TypeId} {shs:List (List Sh)} (ds:List (DataW H)),ts.map (Eg P n)=shs.map some->shs.all (Ia C)=true->∀x∈DataW.weightsEach P ts ds,x<=Rows.uptoBulkAll ds*C
 | [],shs,ds,h,hl=>by intro x hx;simp[DataW.weightsEach]at hx
 | t::ts,shs,ds,h,hl=>by
  intro x hx
  cases ds with
  | nil=>simp[DataW.weightsEach]at hx
  | cons d r =>
   cases shs with
   | nil=>simp at h
   | cons s ss =>
    simp only[List.map_cons,bG0]at h;simp only[dB0,aM0]at hl;simp only[DataW.weightsEach,aI0]at hx;simp only[Rows.uptoBulkAll,bU0]
    rcases hx with hx | hx
    ·have:=Jc hC n t s d h.1 hl.1 x hx;omega
    ·have:=HT hC r h.2 hl.2 x hx;omega
theorem GY_ {P:Program} {C n:Nat} (hC:1<=C) {ts:List TypeId} {shs:List (List Sh)} {ds:List (DataW H)} (hk:Rows.uptoSmall H ds=true) (h:ts.map (Eg P n)=shs.map some) (hl:shs.all (Ia C)=true):∀x∈DataW.weightsEach P ts ds,x<=1048576*C:=by
 intro x hx;have h1:=HT hC ds h hl x hx;simp only[Rows.uptoSmall,decide_eq_true_eq]at hk;exact Nat.le_trans h1 (aS0 _ hk)
end
end Go.Proofs.Wy
end
section
namespace Go.Proofs.Wy
open Go Go.Dm Tryz
open Go.ChangeShapes Go.WideShapes Go.ChangeAt Go.RowKit
def Xi : List Sh:=[.i .i64,.s,.i .i64]
def MZ : List Sh:=[.s,.sl 3 32 Xi]
def Mm : List Sh:=[.s]
theorem Ft_ {L:Nat} {ds:List DVal} (h:EH L Xi ds):∃x:Nd,ds=Cf x:=by
 simp only[Xi,EH,Px]at h;obtain⟨_,_,rfl,⟨k,rfl⟩,_,_,rfl,⟨s,rfl,_⟩,_,_,rfl,⟨n,rfl⟩,rfl⟩:=h;exact⟨⟨k,s,n⟩,rfl⟩
theorem Ak_ {L:Nat} {d:DVal} (h:Px L (.sl 2 40 MZ) d):∃g:List Rul,d=AD g/\∀r∈g,r.b.length*32<=L:=by
 simp only[Px]at h;obtain⟨es,rfl,hz,he⟩:=h
 have hq:∀e∈es,∃x:{r:Rul//r.b.length*32<=L},e=BX x.1:=by
  intro e h;have h:=he e h;simp only[MZ,EH,Px]at h;obtain⟨_,_,rfl,⟨s,rfl,_⟩,_,_,rfl,⟨es,rfl,hz,he⟩,rfl⟩:=h;obtain⟨l,rfl⟩:=Ld (fun e h=>Ft_ (he e h));exact⟨⟨⟨s,l⟩,by simpa using hz⟩,rfl⟩
 obtain⟨l,rfl⟩:=Ld (f:=fun x:{r:Rul//r.b.length*32<=L}=>BX x.1) hq;refine⟨l.map (·.1),by simp[Function.comp_def],fun r hr=> ?_⟩;obtain⟨x,_,rfl⟩:=aR0.1 hr;exact x.2
theorem Al_ {L:Nat} {ds:List DVal} (h:EH L [.sl 2 40 MZ] ds):∃g:List Rul,ds=[AD g]/\∀r∈g,r.b.length*32<=L:=by
 simp only[EH]at h;obtain⟨_,_,rfl,h1,rfl⟩:=h;obtain⟨g,rfl,hg⟩:=Ak_ h1;exact⟨g,rfl,hg⟩
theorem eI {L:Nat} {ds:List DVal} (h:EH L Mm ds):∃s:ByteArray,ds=[.str s]:=by
 simp only[Mm,EH,Px]at h;obtain⟨_,_,rfl,⟨x,rfl,_⟩,rfl⟩:=h;exact⟨x,rfl⟩
theorem Fs_ {L:Nat} {ds:List DVal} (h:EH L [.sl 1 16 Mm] ds):∃l:List ByteArray,ds=[Bg l]:=by
 simp only[EH,Px]at h;obtain⟨_,_,rfl,⟨es,rfl,hz,he⟩,rfl⟩:=h;obtain⟨l,rfl⟩:=Ld (f:=fun s:ByteArray=>Bh s) (fun e h=>eI (he e h));exact⟨l,rfl⟩
theorem Ct {a b:Bool} (h1:a=true) (h2:b=true):(a&&b)=true:=by rw[h1,h2];rfl
end Go.Proofs.Wy
end
