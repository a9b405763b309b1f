/- Parts of a proof, laid together: CW6, CW7, CT2, EnU, PB, PU, PZ. -/
import Derived.SizedLaws
import Derived.ProofKit
import Derived.OpenShut
import Derived.Carry
import Derived.Test.YtchgnpnbcjflcaaGreatRows
import Derived.Test.YtchgnpnbcjflcaaGreatqKw4
import Derived.Test.YtchgnpnbcjflcaaGreatqKw5
import Derived.Test.YtchgnpnbcjflcaaGreatqKw12
set_option linter.unusedSimpArgs false
set_option linter.unusedVariables false
set_option linter.unusedSectionVars false
section
namespace Go.Proofs.YtchgnpnbcjflcaaGreat
open Go Go.Dm
attribute [local irreducible] DW Bb_ Bh_
set_option maxRecDepth 100000
def rowQ (Q:List Bool):Ent:=⟨21,1,.row 4 1 1 (Q.map dBl)⟩
def tabS (c:Cnf) (w:List Int) (m:Bool):List (Nat×DVal):=[(1,Bl_ w),(2,.ref (dCnf c)),(5,.int .i64 ((w.length:Int)+1)),(6,.osl 21 1),(7,.bool m)]
def numB (b:Bool):Nat:=if b then 1 else 0
def Yo_ : Ann:=⟨[67],[]⟩
set_option maxHeartbeats 8000000 in
theorem Zo_ (c:Cnf) (w:List Int) (hOC:OkC c) (hP:c.prods.length*32≤150000000000000) (h0:0≤c.nts) (hN:c.nts≤1024) (hw:w.length≤64):Ac_ Tryz.prog 224 [.agg (dCnf c),Bl_ w] (.sl 1 1 ((tbK c w).map dBl)):=by
 refine Aa_ [21] Yo_ Tryz.func224 Tryz.call224 Tryz.ntmps224 mxd (aj2 @Yo_.eq_1 Tryz.results224) rfl (by simp) (by simp[mx]) fun hwf B hnt hgAnn=> ?_
 clear hwf;simp only[argS];have wn:IntKind.i64.wrap ((w.length:Int)+1)=(w.length:Int)+1:=wq;have b1:c.nts.toNat*(w.length+1)≤1024*65:=eH0 (by omega) (by omega);have b2:c.nts.toNat*(w.length+1)*(w.length+1)≤1024*65*65:=eH0 b1 (by omega);have hst:=start_ok c w;obtain⟨M1,hM1⟩:∃M1,M1=c.nts.toNat*(w.length+1):=⟨_,rfl⟩;rw[←hM1]at b1 b2 hst;obtain⟨M2,hM2⟩:∃M2,M2=M1*(w.length+1):=⟨_,rfl⟩;rw[←hM2]at b2 hst
 have hnn:c.nts=(c.nts.toNat:Int):=by omega
 have c1:(w.length:Int)+1=((w.length+1:Nat):Int):=by omega
 have w1:IntKind.i64.wrap (c.nts*((w.length:Int)+1))=(M1:Int):=by
  rw[hnn,c1,←Int.natCast_mul,←hM1];exact wq
 have w2:IntKind.i64.wrap ((M1:Int)*((w.length:Int)+1))=(M2:Int):=by
  rw[c1,←Int.natCast_mul,←hM2];exact wq
 clear c1 hnn;have hrep:(List.replicate M2 false).map dBl=List.replicate M2 [.bool false]:=by rw[List.map_replicate];rfl
 have hrm:mxR (List.replicate M2 [DVal.bool false])=0:=by rw[←hrep];exact TS_ _
 have z1:M2*1≤150000000000000:=by omega
 have z2:M2≤9223372036854775807:=by omega
 (refine go1 aj0 aj0 (aj4 @dCnf.eq_1 wn w1 w2) ?_;intros;refine mk_i ?_)
 refine Ad_ (X:={x:List Bool×Bool//SoK c w x.1∧(x.2=false→clsK c w x.1)}) (fun x=>⟨tabS c w x.1.2,[rowQ x.1.1]⟩) (fun x=>2*notK x.1.1+numB x.1.2) ⟨(List.replicate M2 false,true),hst,by simp⟩ (Sub.lit (by simp[tabS,rowQ,dCnf,hrep,hrm])) ?_;rintro⟨⟨Q0,m0⟩,hso0,hcl0⟩;simp only at hso0 hcl0 ⊢;cases m0
 ·have hQ:=tab_eq hOC hso0 (hcl0 rfl);subst hQ;exact go0 aj0 aj0 (aj3 @tabS.eq_1 @rowQ.eq_1 @dCnf.eq_1)
 clear hcl0
 (refine go1 aj0 aj0 (aj3 @tabS.eq_1 @rowQ.eq_1 @dCnf.eq_1) ?_;intros;refine mk_i ?_)
 refine Ad_ (X:={x:List Bool×Bool×Nat//x.2.2≤c.prods.length∧PassI c w Q0 x.1 x.2.1 x.2.2 0 0}) (fun x=>⟨(8,.int .i64 (x.1.2.2:Int))::tabS c w x.1.2.1,[rowQ x.1.1]⟩) (fun x=>c.prods.length-x.1.2.2) ⟨(Q0,false,0),cY0 _,ZN_ hso0⟩ (Sub.lit (by simp[tabS,rowQ,dCnf])) ?_;rintro⟨⟨Q1,m1,p⟩,hp,I1⟩;simp only at hp I1 ⊢
 by_cases hlp:p<c.prods.length
 ·obtain⟨q,hq,hq',hqm⟩:=Ak_ hlp;have hhd:=hOC.hd q hqm;have hsy:=hOC.sy q hqm;obtain⟨N,hNN⟩:∃N:Nat,c.nts=(N:Int):=⟨c.nts.toNat,by omega⟩;obtain⟨hn,hh⟩:∃hn:Nat,q.head=(hn:Int):=⟨q.head.toNat,by omega⟩;have wp:IntKind.i64.wrap ((p:Int)+1)=(p:Int)+1:=wq
  (refine go1 aj0 aj0 (aj6 @tabS.eq_1 @rowQ.eq_1 @dCnf.eq_1 hlp hq hq') ?_;intros;refine mk_i ?_)
  refine Ad_ (X:={x:List Bool×Bool×Nat//x.2.2≤w.length+1∧PassI c w Q0 x.1 x.2.1 p x.2.2 x.2.2}) (fun x=>⟨(8,.int .i64 (p:Int))::(9,.int .i64 (x.1.2.2:Int))::tabS c w x.1.2.1,[rowQ x.1.1]⟩) (fun x=>w.length+1-x.1.2.2) ⟨(Q1,m1,0),cY0 _,I1⟩ (Sub.lit (by simp[tabS,rowQ,dCnf])) ?_;rintro⟨⟨Q2,m2,i⟩,hi,I2⟩;simp only at hi I2 ⊢
  by_cases hli:i<w.length+1
  ·have hli2:(i:Int)<(w.length:Int)+1:=by omega
   have wi:IntKind.i64.wrap ((i:Int)+1)=(i:Int)+1:=wq
   (refine go1 aj0 aj0 (aj4 @tabS.eq_1 @rowQ.eq_1 @dCnf.eq_1 hli2) ?_;intros;refine mk_i ?_)
   refine Ad_ (X:={x:List Bool×Bool×Nat//i≤x.2.2∧x.2.2≤w.length+1∧PassI c w Q0 x.1 x.2.1 p i x.2.2}) (fun x=>⟨(8,.int .i64 (p:Int))::(9,.int .i64 (i:Int))::(10,.int .i64 (x.1.2.2:Int))::tabS c w x.1.2.1,[rowQ x.1.1]⟩) (fun x=>w.length+1-x.1.2.2) ⟨(Q2,m2,i),Nat.le_refl _,hi,I2⟩ (Sub.lit (by simp[tabS,rowQ,dCnf])) ?_;rintro⟨⟨Q3,m3,j⟩,hij,hj,I3⟩;simp only at hij hj I3 ⊢
   by_cases hlj:j<w.length+1
   ·have hlj2:(j:Int)<(w.length:Int)+1:=by omega
    have wj:IntKind.i64.wrap ((j:Int)+1)=(j:Int)+1:=wq;have f1:=Qr_ (w.length+1) hn i j (by omega) (by omega) (by omega) (by omega);have hql:Q3.length=N*(w.length+1)*(w.length+1):=by rw[I3.so.len,hNN,cB0]
    obtain⟨g1,g1'⟩:=tT_at hql (nt:=hn) (i:=i) (j:=j) (by omega) (by omega) (by omega);have e2:=come_spec w Q3 N q.body i j hw (by omega) hql hij hlj (by rw[←hNN];exact hsy);have hkeep:=pass_keep I3 hq;have hset:=pass_set hOC I3 hq hij hlj;rw[hh,cB0]at hkeep hset;have cc:(((w.length+1:Nat)):Int)=(w.length:Int)+1:=by omega
    rw[cc]at f1;obtain⟨x1,hx1⟩:∃x1,x1=atN (w.length+1) hn i j:=⟨_,rfl⟩;obtain⟨y1,hy1⟩:∃y1,y1=tT Q3 (w.length+1) hn i j:=⟨_,rfl⟩;obtain⟨y2,hy2⟩:∃y2,y2=Dz_ w Q3 q.body i j:=⟨_,rfl⟩;rw[←hx1]at f1 hset;simp only[←hx1,←hy1]at g1 g1';rw[←hy1,←hy2]at hkeep hset;rw[←hy2]at e2;simp only[rowK]at e2;cases y1
    ·cases y2
     ·skip
      (refine go1 (aj1 f1) (aj1 (spc [(21,0)] [] e2)) (aj12 @tabS.eq_1 @rowQ.eq_1 @dCnf.eq_1 @Ae_.eq_1 hlj2 hlp hq hq' hh g1 g1' @dBl.eq_1) ?_;intros;refine mk_i ?_)
      refine Ai_.mk ⟨(Q3,m3,j+1),by simp only;omega,by simp only;omega,hkeep (.inr rfl)⟩ (Sub.lit (by simp[tabS,rowQ,dCnf,wj])) (by simp;omega)
      skip
     ·have hms:(Q3.map dBl).set x1 [.bool true]=(Q3.set x1 true).map dBl:=by rw[dY0];rfl
      have hml:mxR ((Q3.map dBl).set x1 (dBl true))=0:=by rw[←dY0];exact TS_ _
      (refine go1 (aj1 f1) (aj1 (spc [(21,0)] [] e2)) (aj12 @tabS.eq_1 @rowQ.eq_1 @dCnf.eq_1 @Ae_.eq_1 hlj2 hlp hq hq' hh g1 g1' @dBl.eq_1) ?_;intros;refine mk_i ?_)
      refine Ai_.mk ⟨(Q3.set x1 true,true,j+1),by simp only;omega,by simp only;omega,hset rfl rfl⟩ (Sub.lit (by simp[tabS,rowQ,dCnf,wj,hms,hml])) (by simp;omega)
      skip
    ·skip
     (refine go1 (aj1 f1) aj0 (aj12 @tabS.eq_1 @rowQ.eq_1 @dCnf.eq_1 @Ae_.eq_1 hlj2 hlp hq hq' hh g1 g1' @dBl.eq_1) ?_;intros;refine mk_i ?_)
     refine Ai_.mk ⟨(Q3,m3,j+1),by simp only;omega,by simp only;omega,hkeep (.inl rfl)⟩ (Sub.lit (by simp[tabS,rowQ,dCnf,wj])) (by simp;omega)
     skip
   ·have hkk:j=w.length+1:=by omega
    subst hkk;have I4:=pass_row I3
    (refine go1 aj0 aj0 (aj3 @tabS.eq_1 @rowQ.eq_1 @dCnf.eq_1) ?_;intros;refine mk_i ?_)
    refine Ai_.mk ⟨(Q3,m3,i+1),by simp only;omega,I4⟩ (Sub.lit (by simp[tabS,rowQ,dCnf,wi])) (by simp;omega)
    skip
  ·have hkk:i=w.length+1:=by omega
   subst hkk;have I4:=pass_prod I2
   (refine go1 aj0 aj0 (aj3 @tabS.eq_1 @rowQ.eq_1 @dCnf.eq_1) ?_;intros;refine mk_i ?_)
   refine Ai_.mk ⟨(Q2,m2,p+1),by simp only;omega,I4⟩ (Sub.lit (by simp[tabS,rowQ,dCnf,wp])) (by simp;omega)
   skip
 ·have hkk:p=c.prods.length:=by omega
  subst hkk;have hle:=I1.le;have hlt:=I1.lt
  (refine go1 aj0 aj0 (aj3 @tabS.eq_1 @rowQ.eq_1 @dCnf.eq_1) ?_;intros;refine mk_i ?_)
  refine Ai_.mk ⟨(Q1,m1),I1.so,fun hm=>by simp only at hm;subst hm;exact pass_end I1⟩ (Sub.lit (by simp[tabS,rowQ,dCnf])) (by cases m1<;>simp[numB]<;>(try have:=hlt rfl)<;>omega)
  skip
theorem okC_of {c:Cnf} (h1:Be_ c=true) (h2:∀p∈c.prods,As_ p.body≠0):OkC c:=by
 obtain⟨_,h3⟩:=Cb_.1 h1;refine⟨fun p hp=>(h3 p hp).1,fun p hp=> ?_⟩;have hs:=(h3 p hp).2
 by_cases hf:As_ p.body=1∨As_ p.body=2
 ·rcases Sn_ hf with e | ⟨n,e⟩
  ·exact .inl e
  ·exact .inr (.inl ⟨_,e⟩)
 ·obtain⟨a,b,e⟩:=form3 (h2 p hp) hf;refine .inr (.inr ⟨_,_,e,?_⟩);rw[e]at hs;have ha:=hs (nS a) (by simp);have hb:=hs (nS b) (by simp);simp only[symG,nS,aL0,if_false]at ha hb;exact⟨ha.1,ha.2,hb.1,hb.2⟩
theorem ask_ok {c:Cnf} {nt:Int} {n:Nat} (h:askE c nt n=0):Be_ c=true∧(∀p∈c.prods,As_ p.body≠0)∧0≤nt∧nt<c.nts∧n≤64:=by
 unfold askE at h
 split at h
 ·rename_i h1
  split at h
  ·rename_i h2
   split at h
   ·rename_i h3
    split at h
    ·rename_i h4;refine⟨h1,fun p hp hf=> ?_,h3.1,h3.2,h4⟩;unfold CM_ at h2;simp only[aM0,eK0,dC0]at h2;exact h2.2 p hp (by simp[CH_,hf])
    ·omega
   ·omega
  ·omega
 ·omega
def hasB (c:Cnf) (nt:Int) (w:List Int):Bool:=decide ((⟨nt,0,w.length⟩:Fct)∈allF c w)
def Yn_ : Ann:=⟨[],[]⟩
theorem has_ok (c:Cnf) (nt:Int) (w:List Int) (h:askE c nt w.length=0) (hP:c.prods.length*32≤150000000000000):Ac_ Tryz.prog 162 [.agg (dCnf c),.int .i64 nt,Bl_ w] (.tup [.bool (hasB c nt w),.int .i64 0]):=by
 obtain⟨h1,h2,h3,h4,h5⟩:=ask_ok h;have hOC:=okC_of h1 h2;obtain⟨⟨_,hN⟩,_⟩:=Cb_.1 h1;have e1:=aC_ c nt w;rw[h]at e1;have e2:=Ts_ c w hOC hP hN h5;have e3:=hasD_pure c w (allF c w) ⟨nt,0,w.length⟩;unfold hasB;obtain⟨b,hb⟩:∃b,b=decide ((⟨nt,0,w.length⟩:Fct)∈allF c w):=⟨_,rfl⟩;rw[←hb]at e3 ⊢;obtain⟨R,hR⟩:∃R,R=allF c w:=⟨_,rfl⟩;rw[←hR]at e2 e3;simp only[dTbl,dFct]at e2 e3;simp only[dCnf]at e1 e2;refine Aa_ [] Yn_ Tryz.func162 Tryz.call162 Tryz.ntmps162 mxd (aj2 @Yn_.eq_1 Tryz.results162) rfl (by simp) (by simp[mx]) fun hwf B hnt hgAnn=> ?_
 clear hwf;simp only[argS];exact go0 (aj3 e1 e2 e3) aj0 (aj1 @dCnf.eq_1)
def Ym_ : Ann:=⟨[],[]⟩
theorem rhas_ok (c:Cnf) (nt:Int) (w:List Int) (h:askE c nt w.length=0) (hP:c.prods.length*32≤150000000000000):Ac_ Tryz.prog 163 [.agg (dCnf c),.int .i64 nt,Bl_ w] (.tup [.bool (hasB c nt w),.int .i64 0]):=by
 obtain⟨h1,h2,h3,h4,h5⟩:=ask_ok h;have hOC:=okC_of h1 h2;obtain⟨⟨_,hN⟩,_⟩:=Cb_.1 h1;have e1:=Zh_ c nt w.length (by omega);rw[h]at e1;have e2:=Zo_ c w hOC hP (by omega) hN h5;obtain⟨a,rfl⟩:=Int.eq_ofNat_of_zero_le h3;have e3:=Qr_ (w.length+1) a 0 w.length (by omega) (by omega) (by omega) (by omega);have htl:(tbK c w).length=c.nts.toNat*(w.length+1)*(w.length+1):=by unfold tbK;rw[aJ0,dT0]
 obtain⟨g1,g1'⟩:=tT_at htl (nt:=a) (i:=0) (j:=w.length) (by omega) (by omega) (by omega)
 have hB:tT (tbK c w) (w.length+1) a 0 w.length=hasB c a w:=by
  unfold hasB;rw[fA0,decide_eq_true_iff,allF_iff hOC hN h5];have hx:atN (w.length+1) a 0 w.length<c.nts.toNat*(w.length+1)*(w.length+1):=SS_ (by omega) (by omega) (by omega);unfold tT;rw[aX0];unfold tbK;rw[bI0,eB0 hx];simp only[dD0,bY0];rw[@decide_eq_true_iff _ (Classical.propDecidable _)];have q0:0<w.length+1:=by omega
  have q1:atN (w.length+1) a 0 w.length/(w.length+1)=a*(w.length+1):=by
   unfold atN;rw[cR0,dX0,Nat.mul_add_div q0,Nat.div_eq_of_lt (by omega),cR0]
  have q2:atN (w.length+1) a 0 w.length%(w.length+1)=w.length:=by
   unfold atN;rw[cR0,dX0,Nat.mul_add_mod,eO0 (by omega)]
  rw[q1,q2,Nat.mul_div_cancel _ q0,Nat.mul_mod_left];rfl
 rw[hB]at g1';obtain⟨b,hb⟩:∃b,b=hasB c a w:=⟨_,rfl⟩;rw[←hb]at g1' ⊢;obtain⟨Q,hQ⟩:∃Q,Q=tbK c w:=⟨_,rfl⟩;simp only[←hQ]at e2 g1 g1';obtain⟨x1,hx1⟩:∃x1,x1=atN (w.length+1) a 0 w.length:=⟨_,rfl⟩;rw[←hx1]at e3;simp only[←hx1]at g1 g1';have cc:(((w.length+1:Nat)):Int)=(w.length:Int)+1:=by omega
 rw[cc]at e3;simp only[dCnf]at e1 e2;have wn:IntKind.i64.wrap ((w.length:Int)+1)=(w.length:Int)+1:=wq;refine Aa_ [] Ym_ Tryz.func163 Tryz.call163 Tryz.ntmps163 mxd (aj2 @Ym_.eq_1 Tryz.results163) rfl (by simp) (by simp[mx]) fun hwf B hnt hgAnn=> ?_
 clear hwf;simp only[argS];exact go0 (aj3 e1 e2 e3) aj0 (aj5 @dCnf.eq_1 wn g1 g1' @dBl.eq_1)
theorem bnd_x {a b:Nat} (h:(a+8000)*32≤150000000000000) (h2:b≤a+1024):b*32≤150000000000000:=by omega
theorem weak_sz {gt:GT} (h:OkgT gt):(DC_ gt).1.prods.length*32≤150000000000000:=by
 have hsm:=MH_ h;have hal:=GU_ gt;have hhd:=h.hd;obtain⟨x,e1,_,_,_⟩:=Nx_ h hsm;have e2:DC_ gt=(x,0):=e1;rw[e2];exact bnd_x (Uy_ hsm (by omega)) (ofC_len e1)
def QI_ (g:List Rul) (X:Cnf) (nt:ByteArray) (w:List ByteArray):Bool:=wdB (Ap_ g) w&&hasB X (numK (Ao_ g) nt) (wdL (Ap_ g) w)
def anCT273 : Ann:=⟨[],[⟨1,[8],[],[]⟩]⟩
theorem word_ok (gt:GT) (h:OkgT gt) (hs:SmlG (mkG gt)) (p1:Ac_ Tryz.prog 76 [Au_ (mkG gt)] (.int .i64 0)) (nt:ByteArray) (hn:nt∈Ao_ (mkG gt)) (w:List ByteArray) (hw:w.length≤64) :
  Ac_ Tryz.prog 73 [Au_ (mkG gt),.str nt,AT_ w] (.tup [.bool (QI_ (mkG gt) (DC_ gt).1 nt w),.int .i64 0]):=by
 have e2:=UE_ gt h hs p1 nt w hw;have hq:=UV_ h hn (w:=(wdL (Ap_ (mkG gt)) w).length) (by rw[Oy_];exact hw);have e3:=has_ok (DC_ gt).1 (numK (Ao_ (mkG gt)) nt) (wdL (Ap_ (mkG gt)) w) hq (weak_sz h);unfold QI_;obtain⟨X,hX⟩:∃X,X=(DC_ gt).1:=⟨_,rfl⟩;obtain⟨N,hN⟩:∃N,N=numK (Ao_ (mkG gt)) nt:=⟨_,rfl⟩;obtain⟨L,hL⟩:∃L,L=Ap_ (mkG gt):=⟨_,rfl⟩;rw[←hX,←hN,←hL]at e2 e3;rw[←hX,←hN,←hL];clear hq;obtain⟨RB,hRB⟩:∃RB,RB=hasB X N (wdL L w):=⟨_,rfl⟩
 rw[←hRB]at e3 ⊢;simp only[dCnf]at e2 e3;refine Aa_ [] anCT273 Tryz.func73 Tryz.call73 Tryz.ntmps73 mxd (aj2 @anCT273.eq_1 Tryz.results73) rfl (by simp) (by simp[mx]) fun hwf B hnt hgAnn=> ?_
 clear hwf;simp only[argS];cases hb:wdB L w
 ·rw[hb]at e2;simp only[aL0,if_false]at e2;exact go0 (aj1 e2) aj0 aj0
 ·rw[hb]at e2;simp only[if_true]at e2;exact go0 (aj2 e2 e3) aj0 aj0
def anCT274 : Ann:=⟨[],[⟨1,[7],[],[]⟩]⟩
theorem ris_ok (gt:GT) (h:OkgT gt) (hs:SmlG (mkG gt)) (p2:Ac_ Tryz.prog 13 [Au_ (mkG gt)] (.int .i64 0)) (nt:ByteArray) (hn:nt∈Ao_ (mkG gt)) (w:List ByteArray) (hw:w.length≤64) :
  Ac_ Tryz.prog 74 [Au_ (mkG gt),.str nt,AT_ w] (.bool (QI_ (mkG gt) (DC_ gt).1 nt w)):=by
 have n1:=Df_ (k:=3) hs;have n2:(mkG gt).length=gt.length:=DX_ gt;have n3:=h.le;have e4:=Zv_ (mkG gt) w (by omega) h.lb hw;have e5:=Zw_ gt h hs p2;have e6:=Ce_ (mkG gt);have e7:=IB_ (Ao_ (mkG gt)) nt;rw[Iz_ hn,show (ixS (Ao_ (mkG gt)) nt:Int)=numK (Ao_ (mkG gt)) nt by unfold numK;rw[if_pos hn]]at e7;have hq:=UV_ h hn (w:=(wdL (Ap_ (mkG gt)) w).length) (by rw[Oy_];exact hw);have e3:=rhas_ok (DC_ gt).1 (numK (Ao_ (mkG gt)) nt) (wdL (Ap_ (mkG gt)) w) hq (weak_sz h)
 unfold QI_;unfold wdD at e4;obtain⟨X,hX⟩:∃X,X=(DC_ gt).1:=⟨_,rfl⟩;obtain⟨XE,hXE⟩:∃XE,XE=(DC_ gt).2:=⟨_,rfl⟩;obtain⟨H,hH⟩:∃H,H=Ao_ (mkG gt):=⟨_,rfl⟩;rw[←hH]at e6 e7 e3;rw[←hH];obtain⟨N,hN⟩:∃N,N=numK H nt:=⟨_,rfl⟩;obtain⟨L,hL⟩:∃L,L=Ap_ (mkG gt):=⟨_,rfl⟩;rw[←hX,←hXE]at e5;rw[←hN]at e7;rw[←hL]at e4;rw[←hX,←hN,←hL]at e3;rw[←hX,←hN,←hL];clear hq;obtain⟨RB,hRB⟩:∃RB,RB=hasB X N (wdL L w):=⟨_,rfl⟩;rw[←hRB]at e3 ⊢
 simp only[dCnf]at e3 e5;refine Aa_ [] anCT274 Tryz.func74 Tryz.call74 Tryz.ntmps74 mxd (aj2 @anCT274.eq_1 Tryz.results74) rfl (by simp) (by simp[mx]) fun hwf B hnt hgAnn=> ?_
 clear hwf;simp only[argS];cases hb:wdB L w
 ·rw[hb]at e4;simp only[aL0,if_false]at e4;exact go0 (aj4 e4 e5 e6 e7) aj0 aj0
 ·rw[hb]at e4;simp only[if_true]at e4;exact go0 (aj5 e4 e5 e6 e7 e3) aj0 aj0
def anCT271 : Ann:=⟨[],[]⟩
theorem Nt_ (g:List Rul) (nt:ByteArray) (c:Int) (h:Ac_ Tryz.prog 76 [Au_ g] (.int .i64 c)):Ac_ Tryz.prog 71 [.ref [Au_ g],.ref [.str nt]] (.int .i64 (CR_ c g nt)):=by
 refine Aa_ [] anCT271 Tryz.func71 Tryz.call71 Tryz.ntmps71 mxd (aj2 @anCT271.eq_1 Tryz.results71) rfl (by simp) (by simp[mx]) fun hwf B hnt hgAnn=> ?_
 clear hwf;simp only[argS];have e1:=ZY_ g nt c h;obtain⟨R,hR⟩:∃R,R=CR_ c g nt:=⟨_,rfl⟩;rw[←hR]at e1 ⊢;exact go0 (aj1 e1) aj0 aj0
def anCT272 : Ann:=⟨[],[]⟩
theorem Ns_ (w:List ByteArray):Ac_ Tryz.prog 72 [.ref [AT_ w]] (.int .i64 (if 64<w.length then 3 else 0)):=by
 refine Aa_ [] anCT272 Tryz.func72 Tryz.call72 Tryz.ntmps72 mxd (aj2 @anCT272.eq_1 Tryz.results72) rfl (by simp) (by simp[mx]) fun hwf B hnt hgAnn=> ?_
 clear hwf;simp only[argS]
 by_cases h1:64<w.length
 ·have e1:=BP_ true 3;simp only[if_true]at e1;have d1:(64:Int)<(w.length:Int):=by omega
  exact go0 (aj1 e1) aj0 (aj2 h1 d1)
 ·have e1:=BP_ false 3;simp only[aL0,if_false]at e1;have d1:¬(64:Int)<(w.length:Int):=by omega
  exact go0 (aj1 e1) aj0 (aj2 h1 d1)
def QJ_ (c:Int) (g:List Rul) (nt:ByteArray) (w:List ByteArray):Int:=if CR_ c g nt=0 then (if 64<w.length then 3 else 0)else CR_ c g nt
theorem known_in {c:Int} {g:List Rul} {nt:ByteArray} (h:CR_ c g nt=0):c=0∧nt∈Ao_ g:=by
 unfold CR_ at h
 split at h
 ·rename_i hc;refine⟨hc,?_⟩
  split at h
  ·assumption
  ·omega
 ·exact absurd h (by assumption)
def Qz_ : Ann:=⟨[],[]⟩
theorem cword_err (g:List Rul) (nt:ByteArray) (c:Int) (w:List ByteArray) (h:Ac_ Tryz.prog 76 [Au_ g] (.int .i64 c)) (he:QJ_ c g nt w≠0):Ac_ Tryz.prog 23 [Au_ g,.str nt,AT_ w] (.tup [.bool false,.int .i64 (QJ_ c g nt w)]):=by
 have e1:=HV_ 71 72 [.ref [Au_ g],.ref [.str nt]] [.ref [AT_ w]] _ _ (Nt_ g nt c h) (fun _=>Ns_ w);have hr2:(([0,1]:List Nat)=List.range 2)=True:=eq_true rfl;obtain⟨R,hR⟩:∃R,R=QJ_ c g nt w:=⟨_,rfl⟩;have hR2:R=(if CR_ c g nt=0 then (if 64<w.length then (3:Int)else 0)else CR_ c g nt):=hR;rw[←hR2]at e1;rw[←hR]at he ⊢;clear hR hR2;have hRb:(R==0)=false:=by simpa using he
 have hRc:(R != 0)=true:=by simpa using he
 refine Aa_ [] Qz_ Tryz.func23 Tryz.call23 Tryz.ntmps23 mxd (aj2 @Qz_.eq_1 Tryz.results23) rfl (by simp) (by simp[mx]) fun hwf B hnt hgAnn=> ?_
 clear hwf;simp only[argS];exact go0 (aj1 e1) aj0 (aj4 hr2 he hRb hRc)
theorem cword_ok (gt:GT) (h:OkgT gt) (hs:SmlG (mkG gt)) (p1:Ac_ Tryz.prog 76 [Au_ (mkG gt)] (.int .i64 0)) (nt:ByteArray) (hn:nt∈Ao_ (mkG gt)) (w:List ByteArray) (hw:w.length≤64) :
  Ac_ Tryz.prog 23 [Au_ (mkG gt),.str nt,AT_ w] (.tup [.bool (QI_ (mkG gt) (DC_ gt).1 nt w),.int .i64 0]):=by
 have e1:=HV_ 71 72 [.ref [Au_ (mkG gt)],.ref [.str nt]] [.ref [AT_ w]] _ _ (Nt_ (mkG gt) nt 0 p1) (fun _=>Ns_ w);have hr2:(([0,1]:List Nat)=List.range 2)=True:=eq_true rfl;have hk:CR_ 0 (mkG gt) nt=0:=by unfold CR_;rw[if_pos rfl,if_pos hn]
 rw[if_pos hk,if_neg (by omega)]at e1;have e2:=word_ok gt h hs p1 nt hn w hw;obtain⟨RB,hRB⟩:∃RB,RB=QI_ (mkG gt) (DC_ gt).1 nt w:=⟨_,rfl⟩;rw[←hRB]at e2 ⊢;refine Aa_ [] Qz_ Tryz.func23 Tryz.call23 Tryz.ntmps23 mxd (aj2 @Qz_.eq_1 Tryz.results23) rfl (by simp) (by simp[mx]) fun hwf B hnt hgAnn=> ?_
 clear hwf;simp only[argS];exact go0 (aj2 e1 e2) aj0 (aj1 hr2)
def Qy_ : Ann:=⟨[],[]⟩
theorem ZH_ (g:List Rul) (nt:ByteArray) (c:Int) (w:List ByteArray) (h:Ac_ Tryz.prog 13 [Au_ g] (.int .i64 c)) (he:QJ_ c g nt w≠0):Ac_ Tryz.prog 24 [Au_ g,.str nt,AT_ w] (.tup [.bool false,.int .i64 (QJ_ c g nt w)]):=by
 have e1:=Ly_ g nt c h;unfold QJ_ at he ⊢;obtain⟨R,hR⟩:∃R,R=CR_ c g nt:=⟨_,rfl⟩;rw[←hR]at e1 he ⊢;clear hR;refine Aa_ [] Qy_ Tryz.func24 Tryz.call24 Tryz.ntmps24 mxd (aj2 @Qy_.eq_1 Tryz.results24) rfl (by simp) (by simp[mx]) fun hwf B hnt hgAnn=> ?_
 clear hwf;simp only[argS]
 by_cases h0:R=0
 ·subst h0
  by_cases h1:64<w.length
  ·have d1:(64:Int)<(w.length:Int):=by omega
   exact go0 (aj1 e1) aj0 (aj2 h1 d1)
  ·exact absurd rfl (by rw[if_pos rfl,if_neg h1]at he;exact he)
 ·have h0b:(R==0)=false:=by simpa using h0
  have h0c:(R != 0)=true:=by simpa using h0
  exact go0 (aj1 e1) aj0 (aj3 h0 h0b h0c)
theorem rcword_ok (gt:GT) (h:OkgT gt) (hs:SmlG (mkG gt)) (p2:Ac_ Tryz.prog 13 [Au_ (mkG gt)] (.int .i64 0)) (nt:ByteArray) (hn:nt∈Ao_ (mkG gt)) (w:List ByteArray) (hw:w.length≤64) :
  Ac_ Tryz.prog 24 [Au_ (mkG gt),.str nt,AT_ w] (.tup [.bool (QI_ (mkG gt) (DC_ gt).1 nt w),.int .i64 0]):=by
 have e1:=Ly_ (mkG gt) nt 0 p2;have hk:CR_ 0 (mkG gt) nt=0:=by unfold CR_;rw[if_pos rfl,if_pos hn]
 rw[hk]at e1;have e2:=ris_ok gt h hs p2 nt hn w hw;obtain⟨RB,hRB⟩:∃RB,RB=QI_ (mkG gt) (DC_ gt).1 nt w:=⟨_,rfl⟩;rw[←hRB]at e2 ⊢;have d1:¬(64:Int)<(w.length:Int):=by omega
 refine Aa_ [] Qy_ Tryz.func24 Tryz.call24 Tryz.ntmps24 mxd (aj2 @Qy_.eq_1 Tryz.results24) rfl (by simp) (by simp[mx]) fun hwf B hnt hgAnn=> ?_
 clear hwf;simp only[argS];exact go0 (aj2 e1 e2) aj0 (aj1 d1)
theorem word_both (g:List Rul) (nt:ByteArray) (w:List ByteArray) (hs:SmlG g):∃(b:Bool) (e:Int),Ac_ Tryz.prog 23 [Au_ g,.str nt,AT_ w] (.tup [.bool b,.int .i64 e])∧Ac_ Tryz.prog 24 [Au_ g,.str nt,AT_ w] (.tup [.bool b,.int .i64 e]):=by
 obtain⟨c,p1,p2,p3⟩:=g_may g hs
 by_cases he:QJ_ c g nt w=0
 ·unfold QJ_ at he
  have hk:CR_ c g nt=0:=by
   split at he
   ·assumption
   ·exact he
  rw[if_pos hk]at he
  have hw:w.length≤64:=by
   split at he
   ·omega
   ·omega
  obtain⟨hc0,hn⟩:=known_in hk;obtain⟨gt,rfl,h⟩:=p3 hc0;subst hc0;exact⟨_,_,cword_ok gt h hs p1 nt hn w hw,rcword_ok gt h hs p2 nt hn w hw⟩
 ·exact⟨_,_,cword_err g nt c w p1 he,ZH_ g nt c w p2 he⟩
def anCT26 : Ann:=⟨[],[]⟩
theorem Nm_ (g:List Rul) (nt:ByteArray) (w:List ByteArray) (hs:SmlG g):Ac_ Tryz.prog 6 [Au_ g,.str nt,AT_ w] (.bool true):=by
 obtain⟨b,e,f1,f2⟩:=word_both g nt w hs;have f3:=ac_;refine Aa_ [] anCT26 Tryz.func6 Tryz.call6 Tryz.ntmps6 mxd (aj2 @anCT26.eq_1 Tryz.results6) rfl (by simp) (by simp[mx]) fun hwf B hnt hgAnn=> ?_
 clear hwf;simp only[argS];exact go0 (aj3 f1 f2 f3) aj0 aj0
end Go.Proofs.YtchgnpnbcjflcaaGreat
end
section
namespace Go.Dm
variable [DMode]
inductive Sh where
 | b
 | i (k:IntKind)
 | s
 | sl (k bs:Nat) (c:List Sh)
mutual
def HasS (L:Nat):Sh→DVal→Prop
 | .b,d=>∃b,d= .bool b
 | .i k,d=>∃n,d= .int k n
 | .s,d=>∃x:ByteArray,d= .str x∧x.size≤L
 | .sl k bs c,d=>∃es,d= .sl k bs es∧es.length*bs≤L∧∀e∈es,HasL L c e
def HasL (L:Nat):List Sh→List DVal→Prop
 | [],ds=>ds=[]
 | x::r,ds=>∃d t,ds=d::t∧HasS L x d∧HasL L r t
end
theorem MU_ {L:Nat}:∀{a b:List Sh} {x y:List DVal},HasL L a x→HasL L b y→HasL L (a++b) (x++y)
 | [],b,x,y,h,k=>by simp only[HasL]at h;subst h;exact k
 | a::r,b,x,y,h,k=>by
  simp only[HasL]at h;obtain⟨d,t,rfl,h1,h2⟩:=h;simp only[List.cons_append,HasL];exact⟨d,t++y,rfl,h1,MU_ h2 k⟩
def shF (g:TypeId→Option (List Sh)) (cells:TypeId→Nat):List Field→Nat→Option (List Sh×Nat)
 | [],off=>some ([],off)
 | f::r,off=>if f.offset=off then
  (match g f.type,shF g cells r (off+cells f.type)with
  | some c,some (l,e)=>some (c++l,e)
  | _,_=>none)else none
def shOf (P:Program):Nat→TypeId→Option (List Sh)
 | 0,_=>none
 | n+1,t=>match P.underlying t with
  | some .bool=>some [.b]
  | some (.int k)=>some [.i k]
  | some .string=>some [.s]
  | some (.slice e)=>if 0<P.cellsOf e then (shOf P n e).map fun c=>[.sl (P.cellsOf e) (P.bytesOf e) c]else none
  | some (.struct fs)=>match shF (shOf P n) P.cellsOf fs.toList 0 with
   | some (l,e)=>if e=P.cellsOf t then some l else none
   | none=>none
  | _=>none
theorem LT_ {α β:Type} {f:α→Option β}:∀{l:List α} {r:List β},l.mapM f=some r→r.length=l.length∧∀(i:Nat) (x:α),l[i]? =some x→∃y,r[i]? =some y∧f x=some y
 | [],r,h=>by simp at h;subst h;simp
 | a::l,r,h=>by
  rw[List.mapM_cons]at h
  cases hf:f a with
  | none=>rw[hf]at h;simp at h
  | some y =>
   rw[hf]at h
   cases hm:l.mapM f with
   | none=>rw[hm]at h;simp at h
   | some r' =>
    rw[hm]at h;simp at h;subst h;obtain⟨h1,h2⟩:=LT_ hm;refine⟨by simp[h1],fun i x hx=> ?_⟩
    cases i with
    | zero=>simp only[bE0,aA0]at hx;subst hx;exact⟨y,rfl,hf⟩
    | succ i=>simp only[bL0]at hx ⊢;exact h2 i x hx
theorem rdV_len {cur:Cur} {M:List Nat} {h:Array Obj}:∀{a:List DVal} {x:List Value},rdV cur M h a x→a.length=x.length
 | [],x,h1=>by simp only[rdV]at h1;subst h1;rfl
 | d::a,x,h1=>by
  simp only[rdV]at h1;obtain⟨v,r,rfl,h3,h4⟩:=h1;simp[rdV_len h4]
theorem NH_ {cur:Cur} {M:List Nat} {h:Array Obj} {arr:Array Value}:∀{a:List DVal} {x:List Value} {o:Nat},rdV cur M h a x→(∀v∈x,v.oneCell'=true)→(∀(j:Nat) v,x[j]? =some v→arr[o+j]? =some v)→rdC cur M h a arr o
 | [],x,o,h1,_,_=>by simp[rdC]
 | d::a,x,o,h1,h2,h3=>by
  simp only[rdV]at h1;obtain⟨v,r,rfl,h4,h5⟩:=h1;simp only[rdC];refine⟨⟨v,by simpa using h3 0 v rfl,h2 v (by simp),h4⟩,NH_ h5 (fun u hu=>h2 u (by simp[hu])) fun j u hu=> ?_⟩;have:=h3 (j+1) u (by simpa using hu);rw[←this];congr 1;omega
theorem rows_of {L:Nat} {cur:Cur} {M:List Nat} {h:Array Obj} {arr:Array Value} {k:Nat} {c:List Sh}:∀(len off:Nat),(∀i,i<len→∃ds,ds.length=k∧rdC cur M h ds arr (off+i*k)∧HasL L c ds) →
  ∃es,es.length=len∧rdR cur M h k es arr off∧∀e∈es,HasL L c e
 | 0,off,_=>⟨[],rfl,by simp[rdR],by simp⟩
 | len+1,off,hh=>by
  obtain⟨ds,h1,h2,h3⟩:=hh 0 (by omega)
  obtain⟨es,h4,h5,h6⟩:=rows_of len (off+k) (fun i hi=>by
   obtain⟨ds,h1,h2,h3⟩:=hh (i+1) (by omega);refine⟨ds,h1,?_,h3⟩;have:off+k+i*k=off+(i+1)*k:=by rw[bW0];omega
   rw[this];exact h2)
  refine⟨ds::es,by simp[h4],?_,?_⟩
  ·simp only[rdR];exact⟨h1,by simpa using h2,h5⟩
  ·intro e he
   rcases aK0.1 he with rfl | he
   ·exact h3
   ·exact h6 e he
theorem inR_of_wf {k:IntKind} {n:Int} (h:(Lit.int k n).wf=true):inR k n:=by
 cases k<;>simpa[Lit.wf,IntKind.min,IntKind.max,IntKind.signed,IntKind.bits,inR]using h
theorem Ve_ {g:TypeId→Option (List Sh)} {cells:TypeId→Nat}:∀{fs:List Field} {off e:Nat} {l:List Sh},shF g cells fs off=some (l,e)→off≤e
 | [],off,e,l,h=>by simp only[shF,aA0,aW0]at h;omega
 | f::r,off,e,l,h=>by
  simp only[shF]at h
  split at h
  ·split at h
   ·rename_i c l' e' h1 h2;simp only[aA0,aW0]at h;have:=Ve_ h2;omega
   ·simp at h
  ·simp at h
section
variable {H : Type} {enc : TypeId × Value → H} {P : Program} {w : World} {cur : Cur}
def RdArg (L:Nat) (P:Program) (cur:Cur) (w:World) (cs:List Value) (shs:List Sh):Prop :=
 ∃ds,rdV cur [] w.heap ds cs∧(∀v∈cs,v.oneCell'=true)∧HasL L shs ds
theorem Ss_ {L fuel n:Nat} (ih:∀{t:TypeId} {cs:List Value} {d:DataW H} {ps:List MemPlace} {shs:List Sh},DataW.trod enc P w 0 (fun _=>true) true fuel t cs=some (d,ps)→shOf P n t=some shs→(∀x∈d.weights P t,x≤L)→RdArg L P cur w cs shs)
  (cs:List Value):∀(fs:List Field) (off e:Nat) (l:List Sh) (xs:List (DataW H×List MemPlace)),
   fs.mapM (fun f=>DataW.trod enc P w 0 (fun _=>true) true fuel f.type ((cs.drop f.offset).take (P.cellsOf f.type)))=some xs→shF (shOf P n) P.cellsOf fs off=some (l,e) →
   (∀x∈DataW.weightsEach P (fs.map (·.type)) (xs.map (·.1)),x≤L)→RdArg L P cur w ((cs.drop off).take (e-off)) l
 | [],off,e,l,xs,h1,h2,h3=>by
  simp only[shF,aA0,aW0]at h2;obtain⟨rfl,rfl⟩:=h2;exact⟨[],by simp[rdV],by simp,by simp[HasL]⟩
 | f::fs,off,e,l,xs,h1,h2,h3=>by
  rw[List.mapM_cons]at h1;simp only[shF]at h2
  split at h2
  ·rename_i hoff
   split at h2
   ·rename_i c l' e' h4 h5;simp only[aA0,aW0]at h2;obtain⟨rfl,rfl⟩:=h2;have hm:=Ve_ h5
    cases hf:DataW.trod enc P w 0 (fun _=>true) true fuel f.type ((cs.drop f.offset).take (P.cellsOf f.type))with
    | none=>rw[hf]at h1;simp at h1
    | some x =>
     rw[hf]at h1
     cases hr:fs.mapM (fun f=>DataW.trod enc P w 0 (fun _=>true) true fuel f.type ((cs.drop f.offset).take (P.cellsOf f.type)))with
     | none=>rw[hr]at h1;simp at h1
     | some xr =>
      rw[hr]at h1;simp at h1;subst h1;simp only[List.map_cons,DataW.weightsEach,aI0]at h3;obtain⟨d1,a1,a2,a3⟩:=ih hf h4 (fun y hy=>h3 y (.inl hy));obtain⟨d2,b1,b2,b3⟩:=Ss_ ih cs fs (off+P.cellsOf f.type) e' l' xr hr h5 (fun y hy=>h3 y (.inr hy))
      have hsp:(cs.drop off).take (e'-off)=(cs.drop f.offset).take (P.cellsOf f.type)++(cs.drop (off+P.cellsOf f.type)).take (e'-(off+P.cellsOf f.type)):=by
       rw[hoff,←fD0,show e'-off=P.cellsOf f.type+(e'-(off+P.cellsOf f.type)) by omega,List.take_add]
      rw[hsp];exact⟨d1++d2,Bz_ _ _ _ _ a1 b1,fun v hv=>(aI0.1 hv).elim (a2 v) (b2 v),MU_ a3 b3⟩
   ·simp at h2
  ·simp at h2
theorem Ht_ {e:TypeId}:∀{l:List (DataW H)} {d:DataW H},d∈l→∀x∈d.weights P e,x∈DataW.weightsAll P e l
 | a::l,d,hd,x,hx=>by
  simp only[DataW.weightsAll,aI0]
  rcases aK0.1 hd with rfl | hd
  ·exact .inl hx
  ·exact .inr (Ht_ hd x hx)
theorem SL_ {a:Addr} {n:Nat} {cs:List Value} (h:w.cells? 0 a n=some cs):cs.length=n∧∀(j:Nat) v,cs[j]? =some v→w.cell? (a.add j)=some v:=by
 unfold World.cells? at h;rw[if_pos (cY0 _)]at h;obtain⟨h1,h2⟩:=LT_ h;rw[dT0]at h1;refine⟨h1,fun j v hv=> ?_⟩;have hj:j<n:=by rw[←h1];exact(aB0.1 hv).1
 obtain⟨y,hy,hy'⟩:=h2 j j (by rw[eB0 hj]);rw[hv]at hy;rw[hy',hy]
theorem Za_ (b o n:Nat):(⟨b,o,none⟩:Addr).add n=⟨b,o+n,none⟩:=by
 unfold Addr.add
 split
 ·rename_i h;subst h;rfl
 ·rfl
theorem To_ {L:Nat} (hL:L≤140737488355328):∀{fuel n:Nat} {t:TypeId} {cs:List Value} {d:DataW H} {ps:List MemPlace} {shs:List Sh},DataW.trod enc P w 0 (fun _=>true) true fuel t cs=some (d,ps)→shOf P n t=some shs →
  (∀x∈d.weights P t,x≤L)→RdArg L P cur w cs shs
 | 0,n,t,cs,d,ps,shs,h,hs,hw=>by simp[DataW.trod]at h
 | fuel+1,0,t,cs,d,ps,shs,h,hs,hw=>by simp[shOf]at hs
 | fuel+1,n+1,t,cs,d,ps,shs,h,hs,hw=>by
  unfold DataW.trod at h
  split at h
  ·rename_i b hu;simp only[shOf,hu,aA0]at hs;subst hs;exact⟨[.bool b],by simp[rdV,rd],by simp[Value.oneCell'],by simp[HasL,HasS]⟩
  ·rename_i k k' n' hu;simp only[shOf,hu,aA0]at hs;subst hs
   split at h
   ·rename_i hk;obtain⟨rfl,hk⟩:=hk;exact⟨[.int k' n'],by simp[rdV,rd,inR_of_wf hk],by simp[Value.oneCell'],by simp[HasL,HasS]⟩
   ·simp at h
  ·rename_i hu;simp[shOf,hu]at hs
  ·rename_i x hu;simp only[shOf,hu,aA0]at hs;subst hs
   split at h
   ·rename_i hk;simp only[aA0,aW0]at h;obtain⟨rfl,_⟩:=h;have hsz:=hw x.data.toList.length (by simp[DataW.weights]);exact⟨[.str x],by simp[rdV,rd,hk],by simp[Value.oneCell'],by simp only[HasL,HasS];exact⟨_,_,rfl,⟨x,rfl,by rw[bP0]at hsz;exact hsz⟩,rfl⟩⟩
   ·simp at h
  ·rename_i hu;simp[shOf,hu]at hs
  ·rename_i hu;simp[shOf,hu]at hs
  ·rename_i e hu;simp only[shOf,hu]at hs
   split at hs
   rotate_left
   ·simp at hs
   rename_i hk0;rw[bG0]at hs;obtain⟨c,hc,rfl⟩:=hs;exact⟨[.sl (P.cellsOf e) (P.bytesOf e) []],by simp only[rdV,rd];exact⟨_,_,rfl,⟨none,0,rfl,Nat.le_refl _,cY0 _,by simp,.inl ⟨trivial,fun _=>rfl⟩⟩,rfl⟩,by simp[Value.oneCell'],by simp[HasL,HasS]⟩
  ·rename_i e a len cap hu;simp only[shOf,hu]at hs
   split at hs
   rotate_left
   ·simp at hs
   rename_i hk0;rw[bG0]at hs;obtain⟨c,hc,rfl⟩:=hs;simp only at h
   split at h
   ·rename_i hb;obtain⟨_,hb1,hb2⟩:=hb
    cases hm:(List.range len).mapM (fun i=>(w.cells? 0 (a.add (i*P.cellsOf e)) (P.cellsOf e)).bind (DataW.trod enc P w 0 (fun _=>true) true fuel e))with
    | none=>rw[hm]at h;simp at h
    | some elems =>
     rw[hm]at h;simp only[Option.bind_some,if_true,bG0]at h;obtain⟨rest,hr,h⟩:=h;simp only[aW0]at h;obtain⟨rfl,rfl⟩:=h;simp only[DataW.weights,hu,aK0,aI0,aJ0]at hw;obtain⟨m1,m2⟩:=LT_ hm;rw[dT0]at m1;have hsz:=hw _ (.inl rfl);have hlen:len*P.bytesOf e≤L:=Nat.le_trans (aO0 _ (by omega)) hsz
     have hel:∀i,i<len→∃cs ds,w.cells? 0 (a.add (i*P.cellsOf e)) (P.cellsOf e)=some cs∧rdV cur [] w.heap ds cs∧(∀v∈cs,v.oneCell'=true)∧HasL L c ds:=by
      intro i hi;obtain⟨y,hy,hy'⟩:=m2 i i (by rw[eB0 hi]);rw[Option.bind_eq_some_iff]at hy';obtain⟨cs,hcs,hy'⟩:=hy';obtain⟨d',p'⟩:=y;have hmem:d'∈elems.map (·.1):=aT0.2 ⟨_,bH0 hy,rfl⟩;obtain⟨ds,b1,b2,b3⟩:=To_ hL hy' hc (fun x hx=>hw x (.inr (.inl (Ht_ hmem x hx))));exact⟨cs,ds,hcs,b1,b2,b3⟩
     by_cases h0:len=0
     ·subst h0;exact⟨[.sl (P.cellsOf e) (P.bytesOf e) []],by simp only[rdV,rd];exact⟨_,_,rfl,⟨some a,cap,rfl,cY0 _,hb2,by simp,.inl ⟨trivial,fun hh=>by simp at hh⟩⟩,rfl⟩,by simp[Value.oneCell'],by simp[HasL,HasS]⟩
     ·obtain⟨blk,off,spot⟩:=a;obtain⟨cs0,ds0,hcs0,_,_,_⟩:=hel 0 (by omega);obtain⟨l1,l2⟩:=SL_ hcs0;obtain⟨v,hv⟩:∃v,cs0[0]? =some v:=⟨_,aE0 (by omega)⟩;have hc0:w.cell? ⟨blk,off,spot⟩=some v:=by simpa[Addr.add]using l2 0 v hv
      obtain⟨arr,ty,fz,hblk,hspot⟩:∃arr ty fz,w.heap[blk]? =some (.cells arr ty fz)∧spot=none:=by
       simp only[World.cell?]at hc0
       split at hc0
       ·rename_i arr ty fz hb
        split at hc0
        ·simp at hc0
        ·rename_i hsp;exact⟨arr,ty,fz,hb,by simpa using hsp⟩
       ·simp at hc0
      subst hspot
      obtain⟨es,e1,e2,e3⟩:=rows_of (cur:=cur) (M:=[]) (h:=w.heap) (arr:=arr) (k:=P.cellsOf e) (c:=c) len off (fun i hi=>by
       obtain⟨cs,ds,hcs,b1,b2,b3⟩:=hel i hi;obtain⟨l1,l2⟩:=SL_ hcs;refine⟨ds,by rw[rdV_len b1,l1],NH_ b1 b2 fun j u hu=> ?_,b3⟩;have:=l2 j u hu;rw[Za_,Za_]at this
       simpa[World.cell?,hblk]using this)
      refine⟨[.sl (P.cellsOf e) (P.bytesOf e) es],?_,by simp[Value.oneCell'],by simp only[HasL,HasS];exact⟨_,_,rfl,⟨es,rfl,by rw[e1];exact hlen,e3⟩,rfl⟩⟩;simp only[rdV,rd];exact⟨_,_,rfl,⟨_,_,by rw[e1],by omega,hb2,by rw[e1];omega,.inr ⟨blk,off,arr,ty,fz,rfl,by simp,hblk,e2⟩⟩,rfl⟩
   ·simp at h
  ·rename_i fs hu;simp only[shOf,hu]at hs
   split at hs
   ·rename_i l e hf
    split at hs
    ·rename_i he;simp only[aA0]at hs;subst hs;subst he
     split at h
     ·rename_i hlen;simp only[bG0]at h;obtain⟨xs,hxs,h⟩:=h;simp only[aW0]at h;obtain⟨rfl,rfl⟩:=h;simp only[DataW.weights,hu]at hw;have:=Ss_ (cur:=cur) (fun h1 h2 h3=>To_ hL h1 h2 h3) _ fs.toList 0 (P.cellsOf t) l xs hxs hf hw;simpa[←hlen]using this
     ·simp at h
    ·simp at hs
   ·simp at hs
  all_goals first | (simp at h;done) | (rename_i hu;simp[shOf,hu]at hs;done)
def LZ_ (P:Program) (t:TypeId):Bool:=match P.underlying t with | some (.struct _)=>true | _=>false
theorem arg_rd {L base n:Nat} (hL:L≤140737488355328) {t:TypeId} {v:Value} {d:DataW H} {ps:List MemPlace} {shs:List Sh} (hv:Value.okWide P w .any base t v) (h:DataW.Trod enc P w 0 (fun _=>true) true t v d ps) (hs:shOf P n t=some shs)
  (hw:∀x∈d.weights P t,x≤L):∃ds,HasL L shs ds∧if LZ_ P t then rd cur [] w.heap (.agg ds) v else rdV cur [] w.heap ds [v]:=by
 obtain⟨fuel,h⟩:=h;obtain⟨ds,h1,h2,h3⟩:=To_ (cur:=cur) hL h hs hw;refine⟨ds,h3,?_⟩;unfold LZ_
 split
 ·rename_i fs hu;simp only[if_true];simp only[Value.okWide,hu]at hv;obtain⟨cs,rfl,_,_⟩:=hv;simp only[rd];exact⟨cs,rfl,h1⟩
 ·rename_i hu
  have hag:v.cells= #[v]:=by
   cases n with
   | zero=>simp[shOf]at hs
   | succ n =>
    cases v<;>first | rfl | skip
    rename_i cs;unfold shOf at hs;unfold Value.okWide at hv
    cases hu':P.underlying t with
    | none=>simp[hu']at hs
    | some ty =>
     rw[hu']at hs hv;cases ty<;>simp[Cell.okWide,Cell.ok,hu']at hs hv;exact absurd hu' (hu _)
  rw[hag]at h1;simpa using h1
def JJ_ (L:Nat) (P:Program):List TypeId→List (List Sh)→List DVal→Prop
 | [],[],a=>a=[]
 | t::ts,x::xs,a=>∃ds r,HasL L x ds∧a=(if LZ_ P t then .agg ds else ds.headD .any)::r∧JJ_ L P ts xs r
 | _,_,_=>False
theorem WL_ {L base n:Nat} (hL:L≤140737488355328):∀{ts:List TypeId} {vs:List Value} {ds:List (DataW H)} {ps:List MemPlace} {shs:List (List Sh)},(∀(j:Nat) t v,ts[j]? =some t→vs[j]? =some v→Value.okWide P w .any base t v) →
  DataW.TrodAll enc P w 0 (fun _=>true) true ts vs ds ps→ts.map (shOf P n)=shs.map some→(∀x∈DataW.weightsEach P ts ds,x≤L)→∃das,rdV cur [] w.heap das vs∧JJ_ L P ts shs das
 | [],vs,ds,ps,shs,hv,hA,hs,hw=>by
  obtain⟨rfl,rfl,rfl⟩:=ChangeShapes.trodAll_nil hA
  cases shs with
  | nil=>exact⟨[],by simp[rdV],by simp[JJ_]⟩
  | cons a b=>simp at hs
 | t::ts,vs,ds,ps,shs,hv,hA,hs,hw=>by
  obtain⟨v,vr,d,dr,p,q,rfl,rfl,rfl,h0,hr⟩:=ChangeShapes.trodAll_cons hA
  cases shs with
  | nil=>simp at hs
  | cons x xs =>
   simp only[List.map_cons,bJ0]at hs;simp only[DataW.weightsEach,aI0]at hw;obtain⟨das,a1,a2⟩:=WL_ hL (fun j t v h1 h2=>hv (j+1) t v (by simpa using h1) (by simpa using h2)) hr hs.2 (fun y hy=>hw y (.inr hy));obtain⟨dd,b1,b2⟩:=arg_rd (cur:=cur) hL (hv 0 t v rfl rfl) h0 hs.1 (fun y hy=>hw y (.inl hy));refine⟨(if LZ_ P t then .agg dd else dd.headD .any)::das,?_,by simp only[JJ_];exact⟨dd,das,b1,rfl,a2⟩⟩
   simp only[rdV];refine⟨v,vr,rfl,?_,a1⟩
   split
   ·rename_i h;rw[if_pos h]at b2;exact b2
   ·rename_i h;rw[if_neg h]at b2
    cases dd with
    | nil=>simp[rdV]at b2
    | cons d0 dr =>
     simp only[rdV]at b2;obtain⟨u,r,hu,hd0,_⟩:=b2;simp only[bJ0]at hu;rw[hu.1];simpa using hd0
theorem args_rd {L base n:Nat} {ts:List TypeId} {vs:List Value} {ds:List (DataW H)} {ps:List MemPlace} {shs:List (List Sh)} (h1:∀(j:Nat) t v,ts[j]? =some t→vs[j]? =some v→Value.okWide P w .any base t v)
 (h2:DataW.TrodAll enc P w 0 (fun _=>true) true ts vs ds ps) (h3:ts.map (shOf P n)=shs.map some) (h4:∀x∈DataW.weightsEach P ts ds,x≤L) (hL:L≤140737488355328:=by omega):∃das,rdV cur [] w.heap das vs∧JJ_ L P ts shs das:=WL_ hL h1 h2 h3 h4
theorem Upd.below {a b:World} (h:Upd [] a b):RowKit.Below a.heap.size a b:=⟨h.os,h.tape,h.output,h.size,fun k hk=>h.blk k hk (by simp)⟩
theorem Ii_ (hl:laidOutB P=true) {W W':World} {sp:Nat→Bool}:∀{ts:List TypeId} {vs:List Value} {ds:List (DataW H)} {ps:List MemPlace},(∀t∈ts,P.readableRec t=true∧t<P.types.size) →
  DataW.TrodAll enc P W 0 (fun _=>true) true ts vs ds ps→(∀p∈ps,W.sameAt W' p)→(∀p∈ps,sp p.block=true)→DataW.TrodAll enc P W' 0 sp true ts vs ds ps
 | [],vs,ds,ps,ht,hA,h1,h2=>by
  obtain⟨rfl,rfl,rfl⟩:=ChangeShapes.trodAll_nil hA;rfl
 | t::ts,vs,ds,ps,ht,hA,h1,h2=>by
  obtain⟨v,vr,d,dr,p,q,rfl,rfl,rfl,h0,hr⟩:=ChangeShapes.trodAll_cons hA;obtain⟨k1,k2⟩:=ht t (by simp);exact⟨p,q,WideElems.Trod_stays hl k1 k2 h0 (fun x hx=>h1 x (by simp[hx])) (fun x hx=>h2 x (by simp[hx])),Ii_ hl (fun t h=>ht t (by simp[h])) hr (fun x hx=>h1 x (by simp[hx])) (fun x hx=>h2 x (by simp[hx])),rfl⟩
theorem law_post {fn:Func} {s:ChangeSpec} {fresh handsOn:Bool} {tb:TypeId} {W W':World} {args:Array Value} {ds gs:List (DataW H)} {before:List MemPlace} (hl:laidOutB P=true)
  (hall:∀t∈fn.params.toList,P.readableRec t=true∧t<P.types.size) (hr:fn.resultTypes= #[tb]) (hub:P.underlying tb=some .bool) (hvars:s.vars=[])
  (hs:s.fn H (ds++gs)={ results:=[.lit (.bool true)],args:=ds }) (hW:DataW.Whole enc P fn.params.toList s.vars false W args.toList ds gs before) (hu:Upd [] W W') :
  s.post enc P fn false fresh handsOn false W args (.bool true) W':=by
 have hW':=hW;obtain⟨p,q,hA,hV,rfl,hfz,hnd⟩:=hW;have hlt:∀x∈p,x.block<W.heap.size:=fun x hx=>hW'.lt x (by simp[hx])
 have hb:=hu.below;refine⟨ds,gs,p++q,[],p,[],hW',?_,?_,?_,hb.frame _,fun h=>by cases h⟩
 ·rw[hs,hr];exact ChangeShapes.trodAll_mk1 (RowKit.shut_bool hub true)
 ·rw[hs];exact Ii_ hl hall hA (fun x hx=>hb.same (hlt x hx)) (fun x hx=>by simpa using hlt x hx)
 ·rw[hs,hvars];rfl
theorem RW_ {f:FuncId} {fn:Func} {s:ChangeSpec} {fresh handsOn:Bool} {tb:TypeId} {W:World} {args:Array Value} {das:List DVal} {ds gs:List (DataW H)} {before:List MemPlace} (hl:laidOutB P=true)
  (hall:∀t∈fn.params.toList,P.readableRec t=true∧t<P.types.size) (hr:fn.resultTypes= #[tb]) (hub:P.underlying tb=some .bool) (hvars:s.vars=[])
  (hs:s.fn H (ds++gs)={ results:=[.lit (.bool true)],args:=ds }) (hW:DataW.Whole enc P fn.params.toList s.vars false W args.toList ds gs before)
  (hrd:rdV (fun _ _=>none) [] W.heap das args.toList) (hd:Ac_ P f das (.bool true)) :
  Calls P f args W fun e W'=>∃v,e= .returned v∧s.post enc P fn false fresh handsOn false W args v W':=by
 refine(hd.2.2 _ [] W args (by simp) hrd).mono fun e W' ⟨v,he,hu,hv⟩=>⟨.bool true,?_,law_post hl hall hr hub hvars hs hW hu⟩
 simp only[rd]at hv;rw[he,hv]
end
theorem Iw_ {α:Type} {f:α→List DVal}:∀{es:List (List DVal)},(∀e∈es,∃x,e=f x)→∃l:List α,es=l.map f
 | [],_=>⟨[],rfl⟩
 | e::es,h=>by
  obtain⟨x,rfl⟩:=h e (by simp);obtain⟨l,rfl⟩:=Iw_ (es:=es) (f:=f) (fun e he=>h e (by simp[he]));exact⟨x::l,rfl⟩
end Go.Dm
end
section
namespace Go.Proofs.YtchgnpnbcjflcaaGreat
open Go Go.Dm
variable [DMode]
open Go.ChangeShapes Go.WideShapes Go.ChangeAt Go.RowKit
theorem own : ownKnob Tryz.prog.godebug=none:=by kernel_rfl
theorem laidOut : laidOutB Tryz.prog=true:=by kernel_rfl
end Go.Proofs.YtchgnpnbcjflcaaGreat
end
section
namespace Go.Proofs.YtchgnpnbcjflcaaGreat
open Go Go.Dm
variable [DMode]
mutual
def shLe (C:Nat):Sh→Bool
 | .b=>true
 | .i _=>true
 | .s=>true
 | .sl _ bs c=>decide (bs≤C)&&Js_ C c
def Js_ (C:Nat):List Sh→Bool
 | []=>true
 | x::r=>shLe C x&&Js_ C r
end
theorem JO_ {C:Nat}:∀{a b:List Sh},Js_ C (a++b)=(Js_ C a&&Js_ C b)
 | [],b=>by simp[Js_]
 | x::a,b=>by simp[Js_,JO_ (a:=a),Bool.and_assoc]
section
variable {H : Type}
theorem bulk_pos (d:DataW H):1≤Rows.uptoBulk d:=by
 cases d with
 | lit l=>cases l<;>simp only[Rows.uptoBulk]<;>omega
 | _=>simp only[Rows.uptoBulk]<;>omega
theorem Qm_ : ∀l:List (DataW H),l.length≤Rows.uptoBulkAll l
 | []=>by simp
 | d::r=>by
  have:=bulk_pos d;have:=Qm_ r;simp only[Rows.uptoBulkAll,List.length_cons];omega
theorem FJ_ {P:Program} {C:Nat} (hC:1≤C):∀(n:Nat) (t:TypeId) (shs:List Sh) (d:DataW H),shOf P n t=some shs→Js_ C shs=true→∀x∈d.weights P t,x≤Rows.uptoBulk d*C
 | 0,t,shs,d,h,hl=>by simp[shOf]at h
 | n+1,t,shs,d,h,hl=>by
  intro x hx
  have all:∀(e:TypeId) (c:List Sh),shOf P n e=some c→Js_ C c=true→∀(l:List (DataW H)),∀x∈DataW.weightsAll P e l,x≤Rows.uptoBulkAll l*C:=by
   intro e c he hc l
   induction l with
   | nil=>intro x hx;simp[DataW.weightsAll]at hx
   | cons d r ih =>
    intro x hx;simp only[DataW.weightsAll,aI0]at hx;simp only[Rows.uptoBulkAll,bW0]
    rcases hx with hx | hx
    ·have:=FJ_ hC n e c d he hc x hx;omega
    ·have:=ih x hx;omega
  have each:∀(fs:List Field) (off e:Nat) (l:List Sh),shF (shOf P n) P.cellsOf fs off=some (l,e)→Js_ C l=true→∀(parts:List (DataW H)),∀x∈DataW.weightsEach P (fs.map (·.type)) parts,x≤Rows.uptoBulkAll parts*C:=by
   intro fs
   induction fs with
   | nil=>intro off e l _ _ parts x hx;simp[DataW.weightsEach]at hx
   | cons f fs ih =>
    intro off e l hf hc parts x hx
    cases parts with
    | nil=>simp[DataW.weightsEach]at hx
    | cons d r =>
     simp only[shF]at hf
     split at hf
     ·split at hf
      ·rename_i c l' e' h4 h5;simp only[aA0,aW0]at hf;obtain⟨rfl,rfl⟩:=hf;rw[JO_,aM0]at hc;simp only[List.map_cons,DataW.weightsEach,aI0]at hx;simp only[Rows.uptoBulkAll,bW0]
       rcases hx with hx | hx
       ·have:=FJ_ hC n f.type c d h4 hc.1 x hx;omega
       ·have:=ih _ _ _ h5 hc.2 r x hx;omega
      ·simp at hf
     ·simp at hf
  cases d with
  | lit l =>
   cases l<;>simp only[DataW.weights,aF0,eE0]at hx;subst hx;simp only[Rows.uptoBulk];exact Nat.le_trans (Nat.le_succ _) (Nat.le_mul_of_pos_right _ hC)
  | nil=>simp[DataW.weights]at hx
  | held a=>simp[DataW.weights]at hx
  | iface a b=>simp[DataW.weights]at hx
  | ptr d =>
   simp only[DataW.weights]at hx
   split at hx
   ·rename_i hu;simp[shOf,hu]at h
   ·simp at hx
  | map es =>
   simp only[DataW.weights]at hx
   split at hx
   ·rename_i hu;simp[shOf,hu]at h
   ·simp at hx
  | slice elems spare =>
   simp only[DataW.weights]at hx
   split at hx
   ·rename_i e hu;simp only[shOf,hu]at h
    split at h
    rotate_left
    ·simp at h
    rw[bG0]at h;obtain⟨c,hc,rfl⟩:=h;simp only[Js_,shLe,fJ0,aM0,decide_eq_true_eq]at hl;simp only[Rows.uptoBulk,bW0];simp only[aK0,aI0]at hx
    rcases hx with rfl | hx | hx
    ·have h1:=Qm_ elems;have h2:=Qm_ spare;rw[bW0];have g1:=eH0 h1 hl.1;have g2:=eH0 h2 hl.1;omega
    ·have:=all e c hc hl.2 elems x hx;omega
    ·have:=all e c hc hl.2 spare x hx;omega
   ·simp at hx
  | agg parts =>
   simp only[DataW.weights]at hx
   split at hx
   ·rename_i fs hu;simp only[shOf,hu]at h
    split at h
    ·rename_i l e hf
     split at h
     ·simp only[aA0]at h;subst h;simp only[Rows.uptoBulk,bW0];have:=each fs.toList 0 e l hf hl parts x hx;omega
     ·simp at h
    ·simp at h
   ·rename_i hu;simp[shOf,hu]at h
   ·simp at hx
theorem Fy_ {P:Program} {C n:Nat} (hC:1≤C):∀{ts:List TypeId} {shs:List (List Sh)} (ds:List (DataW H)),ts.map (shOf P n)=shs.map some→shs.all (Js_ C)=true→∀x∈DataW.weightsEach P ts ds,x≤Rows.uptoBulkAll ds*C
 | [],shs,ds,h,hl=>by intro x hx;simp[DataW.weightsEach]at hx
 | t::ts,shs,ds,h,hl=>by
  intro x hx
  cases ds with
  | nil=>simp[DataW.weightsEach]at hx
  | cons d r =>
   cases shs with
   | nil=>simp at h
   | cons s ss =>
    simp only[List.map_cons,bJ0]at h;simp only[dH0,aM0]at hl;simp only[DataW.weightsEach,aI0]at hx;simp only[Rows.uptoBulkAll,bW0]
    rcases hx with hx | hx
    ·have:=FJ_ hC n t s d h.1 hl.1 x hx;omega
    ·have:=Fy_ hC r h.2 hl.2 x hx;omega
theorem small_le {P:Program} {C n:Nat} (hC:1≤C) {ts:List TypeId} {shs:List (List Sh)} {ds:List (DataW H)} (hk:Rows.uptoSmall H ds=true) (h:ts.map (shOf P n)=shs.map some) (hl:shs.all (Js_ C)=true):∀x∈DataW.weightsEach P ts ds,x≤1048576*C:=by
 intro x hx;have h1:=Fy_ hC ds h hl x hx;simp only[Rows.uptoSmall,decide_eq_true_eq]at hk;exact Nat.le_trans h1 (aO0 _ hk)
end
end Go.Proofs.YtchgnpnbcjflcaaGreat
end
section
namespace Go.Proofs.YtchgnpnbcjflcaaGreat
open Go Go.Dm
open Go.ChangeShapes Go.WideShapes Go.ChangeAt Go.RowKit
def Tz_ : List Sh:=[.i .i64,.s,.i .i64]
def Lu_ : List Sh:=[.s,.sl 3 32 Tz_]
def Lt_ : List Sh:=[.s]
theorem has_nodeB {L:Nat} {ds:List DVal} (h:HasL L Tz_ ds):∃x:Nd,ds=dNd x:=by
 simp only[Tz_,HasL,HasS]at h;obtain⟨_,_,rfl,⟨k,rfl⟩,_,_,rfl,⟨s,rfl,_⟩,_,_,rfl,⟨n,rfl⟩,rfl⟩:=h;exact⟨⟨k,s,n⟩,rfl⟩
theorem ad_ {L:Nat} {d:DVal} (h:HasS L (.sl 2 40 Lu_) d):∃g:List Rul,d=Au_ g∧∀r∈g,r.b.length*32≤L:=by
 simp only[HasS]at h;obtain⟨es,rfl,hz,he⟩:=h
 have hq:∀e∈es,∃x:{r:Rul//r.b.length*32≤L},e=dRul x.1:=by
  intro e h;have h:=he e h;simp only[Lu_,HasL,HasS]at h;obtain⟨_,_,rfl,⟨s,rfl,_⟩,_,_,rfl,⟨es,rfl,hz,he⟩,rfl⟩:=h;obtain⟨l,rfl⟩:=Iw_ (fun e h=>has_nodeB (he e h));exact⟨⟨⟨s,l⟩,by simpa using hz⟩,rfl⟩
 obtain⟨l,rfl⟩:=Iw_ (f:=fun x:{r:Rul//r.b.length*32≤L}=>dRul x.1) hq;refine⟨l.map (·.1),by simp[Function.comp_def],fun r hr=> ?_⟩;obtain⟨x,_,rfl⟩:=aT0.1 hr;exact x.2
theorem ae_ {L:Nat} {ds:List DVal} (h:HasL L [.sl 2 40 Lu_] ds):∃g:List Rul,ds=[Au_ g]∧∀r∈g,r.b.length*32≤L:=by
 simp only[HasL]at h;obtain⟨_,_,rfl,h1,rfl⟩:=h;obtain⟨g,rfl,hg⟩:=ad_ h1;exact⟨g,rfl,hg⟩
theorem Wl_ {L:Nat} {ds:List DVal} (h:HasL L Lt_ ds):∃s:ByteArray,ds=[.str s]:=by
 simp only[Lt_,HasL,HasS]at h;obtain⟨_,_,rfl,⟨x,rfl,_⟩,rfl⟩:=h;exact⟨x,rfl⟩
theorem has_strsB {L:Nat} {ds:List DVal} (h:HasL L [.sl 1 16 Lt_] ds):∃l:List ByteArray,ds=[AT_ l]:=by
 simp only[HasL,HasS]at h;obtain⟨_,_,rfl,⟨es,rfl,hz,he⟩,rfl⟩:=h;obtain⟨l,rfl⟩:=Iw_ (f:=fun s:ByteArray=>dStr s) (fun e h=>Wl_ (he e h));exact⟨l,rfl⟩
theorem Cu_ {a b:Bool} (h1:a=true) (h2:b=true):(a&&b)=true:=by rw[h1,h2];rfl
end Go.Proofs.YtchgnpnbcjflcaaGreat
end
