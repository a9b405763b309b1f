/- Parts of a proof, laid together: BN4, SY0, WB14. -/
import Derived.Test.YtiojapdolljocaaGreatqBw15
import Derived.Test.YtiojapdolljocaaGreatqBw22
import Derived.Test.YtiojapdolljocaaGreatqBw24
set_option linter.unusedSimpArgs false
set_option maxHeartbeats 8000000
set_option linter.unusedVariables false
set_option linter.unusedSectionVars false
section
namespace Go.Proofs.Wy
open Go Go.Dm Tryz
variable [DMode]
attribute [local irreducible] DW Bh Bk
set_option maxRecDepth 100000
def Gn (g:List Rul):Prop:=∀r∈g,r.b.length<=1572864
theorem Ff {k:Int}:∀{g:List Rul},Gn g->(AK k g).length<=g.length*1572864
 | [],_=>by simp[AK]
 | r::g,h=>by
  have h1:=h r aK0;have h2:=Ff (k:=k) (g:=g) fun x hx=>h x (aI0 _ hx)
  have h3:=ZW k r.b;have h4:AK k (r::g)=Ct k r.b++AK k g:=by simp[AK]
  rw[h4,aE0,List.length_cons];omega
theorem Ut (l:List Nd):Ir l<=l.length:=by rw[LJ];exact dD0 _ _
theorem Uu : ∀{g:List Rul},Gn g->DX g<=g.length*1572864
 | [],_=>by simp[DX]
 | r::g,h=>by
  have h1:=h r aK0;have h2:=Uu (g:=g) fun x hx=>h x (aI0 _ hx)
  have h3:=Ut r.b;have h4:DX (r::g)=Ir r.b+DX g:=by simp[DX]
  rw[h4,List.length_cons];omega
theorem SK {g:List Rul} {i:Nat} {r:Rul} (h:g[i]? =some r):DX (g.take (i+1))=DX (g.take i)+Ir r.b:=by
 unfold DX;rw[bR0,h];simp
theorem LK (g:List Rul) (i:Nat):DX (g.take i)<=DX g:=by
 have h:DX g=DX (g.take i)+DX (g.drop i):=by
  unfold DX;rw[<-List.sum_append,<-bI0,List.take_append_drop]
 omega
theorem Uy (s:ByteArray):Ag prog 116 [.str s,.int .u8 85] (.bool (Da 2 s)):=GB 2 85 (.inl ⟨rfl,rfl⟩) s
def oS : Ann:=⟨[],[]⟩
theorem Kk (g:List Rul) (hs:Gn g):Ag prog 73 [AM g] (.bool (EL g)):=by
 refine Ad [] oS func73 call73 ntmps73 mxd (Az @oS.eq_1 results73) rfl (fun qJ B qX qQ=> ?_);have dH:=IX qJ.1;clear qJ;simp only[Ap];obtain⟨R,hR⟩:∃R,R=EL g:=⟨_,rfl⟩;rw[<-hR]
 (refine Ba Ac Ac Ac ?_;intros;refine Al ?_)
 refine An (X:={i:Nat//i<=g.length/\R=EL (g.drop i)}) (fun i=>⟨[(0,AM g),(3,.int .i64 i.1)],[]⟩) (fun i=>g.length-i.1) ⟨0,by simp[hR]⟩ (Sub.lit (by simp)) ?_;clear hR;rintro⟨i,hi,hR⟩;simp only
 by_cases qV:i<g.length
 ·obtain⟨r,hr,wG,dU⟩:=Ar qV;rw[aU0 qV,wG]at hR;unfold EL at hR;rw[cP0]at hR;have e1:=Uy r.h;have e2:=Er r.b (hs r dU);have w2:IntKind.i64.wrap ((i:Int)+1)=(i:Int)+1:=wq;cases h1:Da 2 r.h
  ·rw[h1]at e1 hR;simp only[eA0]at hR;subst hR;exact AA (AQ e1) Ac (JV @BO.eq_1 qV hr wG)
  ·cases h2:CY r.b
   ·rw[h2]at e2 hR;rw[h1]at e1 hR;simp only[eA0,Bool.and_false]at hR;subst hR;exact AA (Az e1 e2) Ac (JV @BO.eq_1 qV hr wG)
   ·rw[h2]at e2 hR;rw[h1]at e1 hR;simp only[cT0]at hR
    (refine Ba (Az e1 e2) Ac (Lj @BO.eq_1 qV hr wG w2) ?_;intros;refine Al ?_)
    refine Ak.mk ⟨i+1,by omega,hR⟩ (Sub.lit (by simp)) (by simp;omega)
    skip
 ·have qN:i=g.length:=by omega
  subst qN;rw[cL0]at hR;have vQ:R=true:=hR;subst vQ;exact AA Ac Ac Ac
def oR : Ann:=⟨[],[]⟩
theorem TZ (g:List Rul) (hs:Gn g) (hl:g.length<=64):Ag prog 75 [AM g] (.int .i64 (DX g)):=by
 refine Ad [] oR func75 call75 ntmps75 mxd (Az @oR.eq_1 results75) rfl (fun qJ B qX qQ=> ?_);clear qJ;simp only[Ap];have ho:=Uu hs
 (refine Ba Ac Ac Ac ?_;intros;refine Al ?_)
 refine An (X:={i:Nat//i<=g.length}) (fun i=>⟨[(0,AM g),(3,.int .i64 (DX (g.take i.1))),(4,.int .i64 i.1)],[]⟩) (fun i=>g.length-i.1) ⟨0,by omega⟩ (Sub.lit (by simp[DX])) ?_;rintro⟨i,hi⟩;simp only
 by_cases qV:i<g.length
 ·obtain⟨r,hr,wG,dU⟩:=Ar qV;have e1:=TY r.b;have h1:=SK hr;have h2:=LK g (i+1);have h3:=Ut r.b;have w1:IntKind.i64.wrap ((DX (g.take i):Int)+(Ir r.b:Int))=(DX (g.take (i+1)):Int):=by rw[wq];omega
  have w2:IntKind.i64.wrap ((i:Int)+1)=(i:Int)+1:=wq
  (refine Ba (AQ e1) Ac (Rp @BO.eq_1 qV hr wG w1 w2) ?_;intros;refine Al ?_)
  refine Ak.mk ⟨i+1,by omega⟩ (Sub.lit (by simp)) (by simp;omega)
  skip
 ·have qN:i=g.length:=by omega
  subst qN;rw[aT0];exact AA Ac Ac Ac
theorem ZY {gt:GT} {i:Nat} {p:ByteArray×RT} (h:gt[i]? =some p):(Bz gt)[i]? =some ⟨p.1,flat p.2⟩:=by unfold Bz;rw[bH0,h];rfl
theorem Gs (gt:GT):(Bz gt).length=gt.length:=by unfold Bz;rw[aO0]
theorem IE {gt:GT} (h:Gn (Bz gt)) {p:ByteArray×RT} (hp:p∈gt):(flat p.2).length<=1572864:=h ⟨p.1,flat p.2⟩ (aQ0.2 ⟨p,hp,rfl⟩)
def oQ : Ann:=⟨[],[]⟩
theorem RS (gt:GT) (hk:uU gt) (hs:Gn (Bz gt)) (hl:gt.length<=64):Ag prog 76 [AM (Bz gt)] (.bool (Gu gt)):=by
 refine Ad [] oQ func76 call76 ntmps76 mxd (Az @oQ.eq_1 results76) rfl (fun qJ B qX qQ=> ?_);clear qJ;simp only[Ap];have jJ:=Gs gt;have jT:=fun i p=>ZY (gt:=gt) (i:=i) (p:=p)
 have hsm:=fun p=>IE hs (p:=p)
 obtain⟨g,hg⟩:∃g,g=Bz gt:=⟨_,rfl⟩;rw[<-hg]at jJ jT |-;obtain⟨R,hR⟩:∃R,R=Gu gt:=⟨_,rfl⟩;rw[<-hR];clear hs hg
 (refine Ba Ac Ac Ac ?_;intros;refine Al ?_)
 refine An (X:={i:Nat//i<=gt.length/\R=Gu (gt.drop i)}) (fun i=>⟨[(0,AM g),(3,.int .i64 i.1)],[]⟩) (fun i=>gt.length-i.1) ⟨0,by simp[hR]⟩ (Sub.lit (by simp)) ?_;clear hR;rintro⟨i,hi,hR⟩;simp only
 by_cases qV:i<gt.length
 ·obtain⟨p,hp,zD,bM⟩:=Ar qV;rw[aU0 qV,zD]at hR;unfold Gu at hR;rw[List.any_cons]at hR;have hr:=jT i p hp;have qK:i<g.length:=by omega
  have wG:g[i]'qK=⟨p.1,flat p.2⟩:=(aF0.1 hr).2;have e1:=Oh p.2 (hk p bM).2 (hsm p bM);have w2:IntKind.i64.wrap ((i:Int)+1)=(i:Int)+1:=wq;obtain⟨b,hb⟩:∃b,b=flat p.2:=⟨_,rfl⟩;rw[<-hb]at hr wG e1
  by_cases hd:16<Iv p.2
  ·have gP:(16:Int)<(Iv p.2:Int):=by omega
   rw[decide_eq_true hd,Bool.true_or]at hR;subst hR;exact AA (AQ e1) Ac (OB @BO.eq_1 qV qK hr wG hd gP)
  ·have gP:¬(16:Int)<(Iv p.2:Int):=by omega
   rw[decide_eq_false hd,Bool.false_or]at hR
   (refine Ba (AQ e1) Ac (Np @BO.eq_1 qV qK hr wG hd gP w2) ?_;intros;refine Al ?_)
   refine Ak.mk ⟨i+1,by omega,hR⟩ (Sub.lit (by simp)) (by simp;omega)
   skip
 ·have qN:i=gt.length:=by omega
  subst qN;rw[cL0]at hR;have vQ:R=false:=hR;subst vQ;exact AA Ac Ac (AQ jJ)
theorem Zl {k:Int} {s:ByteArray} (h:Da k s=true):s.size<=16:=by
 unfold Da BN at h
 split at h<;>simp only[aM0,decide_eq_true_eq]at h<;>exact h.1.1.2
theorem PC {gt:GT} {p:ByteArray×RT} (hk:uU gt) (hs:Gn (Bz gt)) (hp:p∈gt):(Ik p).size<=37748766:=by
 have h1:=Zl (hk p hp).1;have h2:=(GP p.2 (hk p hp).2).2;have h3:=IE hs hp;unfold Ik;simp only[aP0];have z3:(⟨#[32,61,32]⟩:ByteArray).size=3:=rfl;have z4:(⟨#[32,59,10]⟩:ByteArray).size=3:=rfl;omega
theorem KH {gt:GT} (hk:uU gt) (hs:Gn (Bz gt)):∀i,i<=gt.length->(BY (gt.take i)).size<=i*37748766
 | 0,_=>by simp[BY];decide
 | i+1,h=>by
  have hx:gt[i]? =some (gt[i]'(by omega)):=aB0 (by omega);have ih:=KH hk hs i (by omega);have h1:=PC hk hs (cY0 (show i<gt.length by omega));rw[FJ hx,aP0];omega
def oP : Ann:=⟨[],[]⟩
theorem RP (gt:GT) (hk:uU gt) (hs:Gn (Bz gt)) (hl:gt.length<=64):Ag prog 77 [AM (Bz gt)] (.str (BY gt)):=by
 refine Ad [] oP func77 call77 ntmps77 mxd (Az @oP.eq_1 results77) rfl (fun qJ B qX qQ=> ?_);clear qJ;simp only[Ap];have jJ:=Gs gt;have jT:=fun i p=>ZY (gt:=gt) (i:=i) (p:=p)
 have hsm:=fun p=>IE hs (p:=p)
 have zL:=KH hk hs;obtain⟨g,hg⟩:∃g,g=Bz gt:=⟨_,rfl⟩;rw[<-hg]at jJ jT |-;clear hs hg;have z0:(⟨#[]⟩:ByteArray).size=0:=rfl;have z3:(⟨#[32,61,32]⟩:ByteArray).size=3:=rfl;have z4:(⟨#[32,59,10]⟩:ByteArray).size=3:=rfl;have m3:3<=maxLen:=by decide
 have mbig:3000000000<=maxLen:=by decide
 (refine Ba Ac Ac (AQ z0) ?_;intros;refine Al ?_)
 refine An (X:={i:Nat//i<=gt.length}) (fun i=>⟨[(0,AM g),(3,.str (BY (gt.take i.1))),(4,.int .i64 i.1)],[]⟩) (fun i=>gt.length-i.1) ⟨0,by omega⟩ (Sub.lit (by simp[BY])) ?_;rintro⟨i,hi⟩;simp only
 by_cases qV:i<gt.length
 ·obtain⟨p,hp,zD,bM⟩:=Ar qV;have hr:=jT i p hp;have qK:i<g.length:=by omega
  have wG:g[i]'qK=⟨p.1,flat p.2⟩:=(aF0.1 hr).2;have e1:=Ny _ p.2 (flat p.2) 0 rfl (At.top (hk p bM).2) (hsm p bM);have w2:IntKind.i64.wrap ((i:Int)+1)=(i:Int)+1:=wq;have h1:=zL (i+1) (by omega);have wM:=FJ hp;rw[wM]at h1;unfold Ik at h1 wM;simp only[aP0,z3,z4]at h1;obtain⟨b,hb⟩:∃b,b=flat p.2:=⟨_,rfl⟩;rw[<-hb]at hr wG e1;obtain⟨s,hs⟩:∃s,s=CI p.2:=⟨_,rfl⟩;rw[<-hs]at e1 h1 wM;obtain⟨a,ha⟩:∃a,a=BY (gt.take i):=⟨_,rfl⟩
  rw[<-ha]at wM h1 |-;have y1:a.size+p.1.size<=maxLen:=by omega
  have y2:a.size+p.1.size+3<=maxLen:=by omega
  have y3:a.size+p.1.size+3+s.size<=maxLen:=by omega
  have y4:a.size+p.1.size+3+s.size+3<=maxLen:=by omega
  have hq:a++p.1++⟨#[32,61,32]⟩++s++⟨#[32,59,10]⟩=BY (gt.take (i+1)):=by rw[wM];simp only[ByteArray.append_assoc]
  (refine Ba (AQ e1) Ac (uO @BO.eq_1 qV qK hr wG z3 z4 m3 y1 y2 y3 y4 @aP0 w2) ?_;intros;refine Al ?_)
  refine Ak.mk ⟨i+1,by omega⟩ (Sub.lit (by simp[hq])) (by simp;omega)
  skip
 ·have qN:i=gt.length:=by omega
  subst qN;rw[aT0];exact AA Ac Ac (AQ jJ)
def BS : Ann:=⟨[],[]⟩
theorem PP (g:List Rul) (h:g.length<1\/64<g.length):Ag prog 28 [AM g] (.int .i64 180):=by
 refine Ad [] BS func28 call28 ntmps28 mxd (Az @BS.eq_1 results28) rfl (fun qJ B qX qQ=> ?_);clear qJ;simp only[Ap]
 rcases h with h | h
 ·have d1:(g.length:Int)<1:=by omega
  have h0:g=[]:=bM0 (by omega);subst h0;exact AA Ac Ac Ac
 ·have d1:¬(g.length:Int)<1:=by omega
  have d2:(64:Int)<(g.length:Int):=by omega
  have d3:¬g.length<1:=by omega
  exact AA Ac Ac (JV d1 d2 h d3)
theorem Uh (g:List Rul) (h1:1<=g.length) (h2:g.length<=64) (hs:Gn g) (ht:EL g=false):Ag prog 28 [AM g] (.int .i64 170):=by
 refine Ad [] BS func28 call28 ntmps28 mxd (Az @BS.eq_1 results28) rfl (fun qJ B qX qQ=> ?_);clear qJ;simp only[Ap];have d1:¬(g.length:Int)<1:=by omega
 have d2:¬(64:Int)<(g.length:Int):=by omega
 have d3:¬g.length<1:=by omega
 have d4:¬64<g.length:=by omega
 have e1:=Kk g hs;rw[ht]at e1;exact AA (AQ e1) Ac (JV d1 d2 d3 d4)
theorem Wh (gt:GT) (h1:1<=gt.length) (h2:gt.length<=64) (hk:uU gt) (hs:Gn (Bz gt)):Ag prog 28 [AM (Bz gt)] (.int .i64 (Me gt)):=by
 refine Ad [] BS func28 call28 ntmps28 mxd (Az @BS.eq_1 results28) rfl (fun qJ B qX qQ=> ?_);clear qJ;simp only[Ap];have jJ:=Gs gt;have e1:=Kk (Bz gt) hs;rw[Xm hk]at e1;have n2:=Ff (k:=2) hs;have n3:=Ff (k:=3) hs;have e2:=Kq (Bz gt);have e3:=MG (Bz gt) (by omega);have e4:=PD (Bz gt) (by omega);have e5:=TZ (Bz gt) hs (by omega);have e6:=RS gt hk hs h2;have e7:=RP gt hk hs h2;have b1:=HU (Bz gt)
 have b2:(Dc (Bz gt)).length<=110000000:=by
  have:=GO (AK 2 (Bz gt));have:=dD0 (fun s=> !decide (s∈AE (Bz gt))) (EH (AK 2 (Bz gt)));unfold Dc;omega
 obtain⟨g,hg⟩:∃g,g=Bz gt:=⟨_,rfl⟩;obtain⟨C,hC⟩:∃C,C=Me gt:=⟨_,rfl⟩;rw[<-hC];unfold Me at hC;rw[<-hg]at jJ e1 e2 e3 e4 e5 e6 e7 b1 b2 hC |-;obtain⟨H,hH⟩:∃H,H=AE g:=⟨_,rfl⟩;obtain⟨m,hm⟩:∃m,m=(Dc g).length:=⟨_,rfl⟩;obtain⟨L,hL⟩:∃L,L=AH g:=⟨_,rfl⟩;obtain⟨o,ho⟩:∃o,o=DX g:=⟨_,rfl⟩;obtain⟨T,hT⟩:∃T,T=BY gt:=⟨_,rfl⟩;rw[<-hH]at e2 b1 hC;rw[<-hm]at e3 b2 hC;rw[<-hL]at e4 hC;rw[<-ho]at e5 hC;rw[<-hT]at e7 hC;clear hH hm hL ho hT n2 n3 hg
 have d1:¬(g.length:Int)<1:=by omega
 have d2:¬(64:Int)<(g.length:Int):=by omega
 have d3:¬g.length<1:=by omega
 have d4:¬64<g.length:=by omega
 have w1:IntKind.i64.wrap ((H.length:Int)+(m:Int))=((H.length+m:Nat):Int):=by rw[wq];omega
 by_cases c1:16<H.length+m
 ·have q1:(16:Int)<((H.length+m:Nat):Int):=by omega
  rw[if_pos c1]at hC;subst hC
  (repeat (first | refine AC fun K hK=> ?_ | (refine BL BS mxd (by kernel_rfl) ?_;simp[BS,qX,d1,d2,d3,d4,w1,c1,q1, -Int.natCast_add];try simp (disch:=omega) only[Ai]) | refine Am ?_ | (refine AX ?_ ?_ ?_;(· (simp[qX,d1,d2,d3,d4,w1,c1,q1, -Int.natCast_add];done));(try (rotate_left;(· (intro hc;(try simp[qX,d1,d2,d3,d4,w1,c1,q1, -Int.natCast_add]at hc);done))))) | (refine AI ?_;simp[results28,qX,d1,d2,d3,d4,w1,c1,q1, -Int.natCast_add]) | ((first | refine Av ?_ | refine Au ?_);simp[qX,d1,d2,d3,d4,w1,c1,q1, -Int.natCast_add]) | (intro hc;(try simp[qX,d1,d2,d3,d4,w1,c1,q1, -Int.natCast_add]at hc);(try (exfalso;omega))) | ((first | refine Af (e1) ?_ | refine Af (e2) ?_ | refine Af (e3) ?_ | refine Af (e4) ?_ | refine Af (e5) ?_ | refine Af (e6) ?_ | refine Af (e7) ?_ | (refine Ae (e1) ?_ ?_;(· (simp;done))) | (refine Ae (e2) ?_ ?_;(· (simp;done))) | (refine Ae (e3) ?_ ?_;(· (simp;done))) | (refine Ae (e4) ?_ ?_;(· (simp;done))) | (refine Ae (e5) ?_ ?_;(· (simp;done))) | (refine Ae (e6) ?_ ?_;(· (simp;done))) | (refine Ae (e7) ?_ ?_;(· (simp;done))));try simp[qX,d1,d2,d3,d4,w1,c1,q1, -Int.natCast_add]) | (refine⟨?_,?_⟩; · omega) | omega | apply_assumption -exfalso -symm | (exfalso;omega)))
 rw[if_neg c1]at hC;have q1:¬(16:Int)<((H.length+m:Nat):Int):=by omega
 by_cases c2:16<L.length
 ·have q2:(16:Int)<(L.length:Int):=by omega
  rw[if_pos c2]at hC;subst hC
  (repeat (first | refine AC fun K hK=> ?_ | (refine BL BS mxd (by kernel_rfl) ?_;simp[BS,qX,d1,d2,d3,d4,w1,c1,q1,c2,q2, -Int.natCast_add];try simp (disch:=omega) only[Ai]) | refine Am ?_ | (refine AX ?_ ?_ ?_;(· (simp[qX,d1,d2,d3,d4,w1,c1,q1,c2,q2, -Int.natCast_add];done));(try (rotate_left;(· (intro hc;(try simp[qX,d1,d2,d3,d4,w1,c1,q1,c2,q2, -Int.natCast_add]at hc);done))))) | (refine AI ?_;simp[results28,qX,d1,d2,d3,d4,w1,c1,q1,c2,q2, -Int.natCast_add]) | ((first | refine Av ?_ | refine Au ?_);simp[qX,d1,d2,d3,d4,w1,c1,q1,c2,q2, -Int.natCast_add]) | (intro hc;(try simp[qX,d1,d2,d3,d4,w1,c1,q1,c2,q2, -Int.natCast_add]at hc);(try (exfalso;omega))) | ((first | refine Af (e1) ?_ | refine Af (e2) ?_ | refine Af (e3) ?_ | refine Af (e4) ?_ | refine Af (e5) ?_ | refine Af (e6) ?_ | refine Af (e7) ?_ | (refine Ae (e1) ?_ ?_;(· (simp;done))) | (refine Ae (e2) ?_ ?_;(· (simp;done))) | (refine Ae (e3) ?_ ?_;(· (simp;done))) | (refine Ae (e4) ?_ ?_;(· (simp;done))) | (refine Ae (e5) ?_ ?_;(· (simp;done))) | (refine Ae (e6) ?_ ?_;(· (simp;done))) | (refine Ae (e7) ?_ ?_;(· (simp;done))));try simp[qX,d1,d2,d3,d4,w1,c1,q1,c2,q2, -Int.natCast_add]) | (refine⟨?_,?_⟩; · omega) | omega | apply_assumption -exfalso -symm | (exfalso;omega)))
 rw[if_neg c2]at hC;have q2:¬(16:Int)<(L.length:Int):=by omega
 by_cases c3:64<o
 ·have q3:(64:Int)<(o:Int):=by omega
  rw[if_pos c3]at hC;subst hC
  (repeat (first | refine AC fun K hK=> ?_ | (refine BL BS mxd (by kernel_rfl) ?_;simp[BS,qX,d1,d2,d3,d4,w1,c1,q1,c2,q2,c3,q3, -Int.natCast_add];try simp (disch:=omega) only[Ai]) | refine Am ?_ | (refine AX ?_ ?_ ?_;(· (simp[qX,d1,d2,d3,d4,w1,c1,q1,c2,q2,c3,q3, -Int.natCast_add];done));(try (rotate_left;(· (intro hc;(try simp[qX,d1,d2,d3,d4,w1,c1,q1,c2,q2,c3,q3, -Int.natCast_add]at hc);done))))) | (refine AI ?_;simp[results28,qX,d1,d2,d3,d4,w1,c1,q1,c2,q2,c3,q3, -Int.natCast_add]) | ((first | refine Av ?_ | refine Au ?_);simp[qX,d1,d2,d3,d4,w1,c1,q1,c2,q2,c3,q3, -Int.natCast_add]) | (intro hc;(try simp[qX,d1,d2,d3,d4,w1,c1,q1,c2,q2,c3,q3, -Int.natCast_add]at hc);(try (exfalso;omega))) | ((first | refine Af (e1) ?_ | refine Af (e2) ?_ | refine Af (e3) ?_ | refine Af (e4) ?_ | refine Af (e5) ?_ | refine Af (e6) ?_ | refine Af (e7) ?_ | (refine Ae (e1) ?_ ?_;(· (simp;done))) | (refine Ae (e2) ?_ ?_;(· (simp;done))) | (refine Ae (e3) ?_ ?_;(· (simp;done))) | (refine Ae (e4) ?_ ?_;(· (simp;done))) | (refine Ae (e5) ?_ ?_;(· (simp;done))) | (refine Ae (e6) ?_ ?_;(· (simp;done))) | (refine Ae (e7) ?_ ?_;(· (simp;done))));try simp[qX,d1,d2,d3,d4,w1,c1,q1,c2,q2,c3,q3, -Int.natCast_add]) | (refine⟨?_,?_⟩; · omega) | omega | apply_assumption -exfalso -symm | (exfalso;omega)))
 rw[if_neg c3]at hC;have q3:¬(64:Int)<(o:Int):=by omega
 cases c4:Gu gt
 rotate_left
 ·rw[if_pos c4]at hC;rw[c4]at e6;subst hC
  (repeat (first | refine AC fun K hK=> ?_ | (refine BL BS mxd (by kernel_rfl) ?_;simp[BS,qX,d1,d2,d3,d4,w1,c1,q1,c2,q2,c3,q3, -Int.natCast_add];try simp (disch:=omega) only[Ai]) | refine Am ?_ | (refine AX ?_ ?_ ?_;(· (simp[qX,d1,d2,d3,d4,w1,c1,q1,c2,q2,c3,q3, -Int.natCast_add];done));(try (rotate_left;(· (intro hc;(try simp[qX,d1,d2,d3,d4,w1,c1,q1,c2,q2,c3,q3, -Int.natCast_add]at hc);done))))) | (refine AI ?_;simp[results28,qX,d1,d2,d3,d4,w1,c1,q1,c2,q2,c3,q3, -Int.natCast_add]) | ((first | refine Av ?_ | refine Au ?_);simp[qX,d1,d2,d3,d4,w1,c1,q1,c2,q2,c3,q3, -Int.natCast_add]) | (intro hc;(try simp[qX,d1,d2,d3,d4,w1,c1,q1,c2,q2,c3,q3, -Int.natCast_add]at hc);(try (exfalso;omega))) | ((first | refine Af (e1) ?_ | refine Af (e2) ?_ | refine Af (e3) ?_ | refine Af (e4) ?_ | refine Af (e5) ?_ | refine Af (e6) ?_ | refine Af (e7) ?_ | (refine Ae (e1) ?_ ?_;(· (simp;done))) | (refine Ae (e2) ?_ ?_;(· (simp;done))) | (refine Ae (e3) ?_ ?_;(· (simp;done))) | (refine Ae (e4) ?_ ?_;(· (simp;done))) | (refine Ae (e5) ?_ ?_;(· (simp;done))) | (refine Ae (e6) ?_ ?_;(· (simp;done))) | (refine Ae (e7) ?_ ?_;(· (simp;done))));try simp[qX,d1,d2,d3,d4,w1,c1,q1,c2,q2,c3,q3, -Int.natCast_add]) | (refine⟨?_,?_⟩; · omega) | omega | apply_assumption -exfalso -symm | (exfalso;omega)))
 rw[if_neg (by rw[c4];simp)]at hC;rw[c4]at e6
 by_cases c5:0<m
 ·have q5:(0:Int)<(m:Int):=by omega
  rw[if_pos c5]at hC;subst hC
  (repeat (first | refine AC fun K hK=> ?_ | (refine BL BS mxd (by kernel_rfl) ?_;simp[BS,qX,d1,d2,d3,d4,w1,c1,q1,c2,q2,c3,q3,c5,q5, -Int.natCast_add];try simp (disch:=omega) only[Ai]) | refine Am ?_ | (refine AX ?_ ?_ ?_;(· (simp[qX,d1,d2,d3,d4,w1,c1,q1,c2,q2,c3,q3,c5,q5, -Int.natCast_add];done));(try (rotate_left;(· (intro hc;(try simp[qX,d1,d2,d3,d4,w1,c1,q1,c2,q2,c3,q3,c5,q5, -Int.natCast_add]at hc);done))))) | (refine AI ?_;simp[results28,qX,d1,d2,d3,d4,w1,c1,q1,c2,q2,c3,q3,c5,q5, -Int.natCast_add]) | ((first | refine Av ?_ | refine Au ?_);simp[qX,d1,d2,d3,d4,w1,c1,q1,c2,q2,c3,q3,c5,q5, -Int.natCast_add]) | (intro hc;(try simp[qX,d1,d2,d3,d4,w1,c1,q1,c2,q2,c3,q3,c5,q5, -Int.natCast_add]at hc);(try (exfalso;omega))) | ((first | refine Af (e1) ?_ | refine Af (e2) ?_ | refine Af (e3) ?_ | refine Af (e4) ?_ | refine Af (e5) ?_ | refine Af (e6) ?_ | refine Af (e7) ?_ | (refine Ae (e1) ?_ ?_;(· (simp;done))) | (refine Ae (e2) ?_ ?_;(· (simp;done))) | (refine Ae (e3) ?_ ?_;(· (simp;done))) | (refine Ae (e4) ?_ ?_;(· (simp;done))) | (refine Ae (e5) ?_ ?_;(· (simp;done))) | (refine Ae (e6) ?_ ?_;(· (simp;done))) | (refine Ae (e7) ?_ ?_;(· (simp;done))));try simp[qX,d1,d2,d3,d4,w1,c1,q1,c2,q2,c3,q3,c5,q5, -Int.natCast_add]) | (refine⟨?_,?_⟩; · omega) | omega | apply_assumption -exfalso -symm | (exfalso;omega)))
 rw[if_neg c5]at hC;have q5:¬(0:Int)<(m:Int):=by omega
 by_cases c6:2048<T.size
 ·have q6:(2048:Int)<(T.size:Int):=by omega
  rw[if_pos c6]at hC;subst hC
  (repeat (first | refine AC fun K hK=> ?_ | (refine BL BS mxd (by kernel_rfl) ?_;simp[BS,qX,d1,d2,d3,d4,w1,c1,q1,c2,q2,c3,q3,c5,q5,c6,q6, -Int.natCast_add];try simp (disch:=omega) only[Ai]) | refine Am ?_ | (refine AX ?_ ?_ ?_;(· (simp[qX,d1,d2,d3,d4,w1,c1,q1,c2,q2,c3,q3,c5,q5,c6,q6, -Int.natCast_add];done));(try (rotate_left;(· (intro hc;(try simp[qX,d1,d2,d3,d4,w1,c1,q1,c2,q2,c3,q3,c5,q5,c6,q6, -Int.natCast_add]at hc);done))))) | (refine AI ?_;simp[results28,qX,d1,d2,d3,d4,w1,c1,q1,c2,q2,c3,q3,c5,q5,c6,q6, -Int.natCast_add]) | ((first | refine Av ?_ | refine Au ?_);simp[qX,d1,d2,d3,d4,w1,c1,q1,c2,q2,c3,q3,c5,q5,c6,q6, -Int.natCast_add]) | (intro hc;(try simp[qX,d1,d2,d3,d4,w1,c1,q1,c2,q2,c3,q3,c5,q5,c6,q6, -Int.natCast_add]at hc);(try (exfalso;omega))) | ((first | refine Af (e1) ?_ | refine Af (e2) ?_ | refine Af (e3) ?_ | refine Af (e4) ?_ | refine Af (e5) ?_ | refine Af (e6) ?_ | refine Af (e7) ?_ | (refine Ae (e1) ?_ ?_;(· (simp;done))) | (refine Ae (e2) ?_ ?_;(· (simp;done))) | (refine Ae (e3) ?_ ?_;(· (simp;done))) | (refine Ae (e4) ?_ ?_;(· (simp;done))) | (refine Ae (e5) ?_ ?_;(· (simp;done))) | (refine Ae (e6) ?_ ?_;(· (simp;done))) | (refine Ae (e7) ?_ ?_;(· (simp;done))));try simp[qX,d1,d2,d3,d4,w1,c1,q1,c2,q2,c3,q3,c5,q5,c6,q6, -Int.natCast_add]) | (refine⟨?_,?_⟩; · omega) | omega | apply_assumption -exfalso -symm | (exfalso;omega)))
 rw[if_neg c6]at hC;have q6:¬(2048:Int)<(T.size:Int):=by omega
 subst hC
 (repeat (first | refine AC fun K hK=> ?_ | (refine BL BS mxd (by kernel_rfl) ?_;simp[BS,qX,d1,d2,d3,d4,w1,c1,q1,c2,q2,c3,q3,c5,q5,c6,q6, -Int.natCast_add];try simp (disch:=omega) only[Ai]) | refine Am ?_ | (refine AX ?_ ?_ ?_;(· (simp[qX,d1,d2,d3,d4,w1,c1,q1,c2,q2,c3,q3,c5,q5,c6,q6, -Int.natCast_add];done));(try (rotate_left;(· (intro hc;(try simp[qX,d1,d2,d3,d4,w1,c1,q1,c2,q2,c3,q3,c5,q5,c6,q6, -Int.natCast_add]at hc);done))))) | (refine AI ?_;simp[results28,qX,d1,d2,d3,d4,w1,c1,q1,c2,q2,c3,q3,c5,q5,c6,q6, -Int.natCast_add]) | ((first | refine Av ?_ | refine Au ?_);simp[qX,d1,d2,d3,d4,w1,c1,q1,c2,q2,c3,q3,c5,q5,c6,q6, -Int.natCast_add]) | (intro hc;(try simp[qX,d1,d2,d3,d4,w1,c1,q1,c2,q2,c3,q3,c5,q5,c6,q6, -Int.natCast_add]at hc);(try (exfalso;omega))) | ((first | refine Af (e1) ?_ | refine Af (e2) ?_ | refine Af (e3) ?_ | refine Af (e4) ?_ | refine Af (e5) ?_ | refine Af (e6) ?_ | refine Af (e7) ?_ | (refine Ae (e1) ?_ ?_;(· (simp;done))) | (refine Ae (e2) ?_ ?_;(· (simp;done))) | (refine Ae (e3) ?_ ?_;(· (simp;done))) | (refine Ae (e4) ?_ ?_;(· (simp;done))) | (refine Ae (e5) ?_ ?_;(· (simp;done))) | (refine Ae (e6) ?_ ?_;(· (simp;done))) | (refine Ae (e7) ?_ ?_;(· (simp;done))));try simp[qX,d1,d2,d3,d4,w1,c1,q1,c2,q2,c3,q3,c5,q5,c6,q6, -Int.natCast_add]) | (refine⟨?_,?_⟩; · omega) | omega | apply_assumption -exfalso -symm | (exfalso;omega)))
def FU (b:Bool) (l:List ByteArray):List DVal:=l.map fun s=> .agg [.bool b,.str s]
def Fw (n:Nat):List DVal:=(List.range n).map fun i:Nat=>DVal.int .i64 (i:Int)
theorem Hc (b:Bool) (s:ByteArray) (l:List ByteArray):FU b (s::l)= .agg [.bool b,.str s]::FU b l:=rfl
theorem AW_ (b:Bool) (l:List ByteArray):(FU b l).length=l.length:=by simp[FU]
theorem SV (b:Bool) (l:List ByteArray) (s:ByteArray):FU b (l++[s])=FU b l++[.agg [.bool b,.str s]]:=by simp[FU]
theorem So (n:Nat):Fw (n+1)=Fw n++[.int .i64 (n:Int)]:=by simp[Fw,eH0]
theorem Pn (n:Nat):(Fw n).length=n:=by simp[Fw]
@[simp] theorem Fw_ (b:Bool) (l:List ByteArray):AJ (FU b l)=0:=by
 induction l with
 | nil=>rfl
 | cons a l ih=>rw[Hc];simp[AJ,mx,ih]
@[simp] theorem Fu_ (n:Nat):AJ (Fw n)=0:=by
 unfold Fw
 induction List.range n with
 | nil=>rfl
 | cons a l ih=>simp[AJ,mx,ih]
theorem aB (a b:Bool) (s x:ByteArray):Cu (BX (.agg [.bool a,.str s])) (BX (.agg [.bool b,.str x]))=((a==b)&&(s==x)):=by
 simp[BX,Cu,US]
theorem HP {b:Bool}:∀{l:List ByteArray} {s:ByteArray},¬s∈l->AU (FU b l) (.agg [.bool b,.str s])=none
 | [],_,_=>rfl
 | x::l,s,h=>by
  have h1:(s==x)=false:=by simp;intro e;exact h (by simp[e])
  rw[Hc,AU,aB,h1,HP (l:=l) (s:=s) fun hm=>h (aI0 _ hm)];simp
theorem Gt {b:Bool}:∀{l:List ByteArray} {s:ByteArray},AU (FU (!b) l) (.agg [.bool b,.str s])=none
 | [],_=>rfl
 | x::l,s=>by
  rw[Hc,AU,aB,Gt (l:=l) (s:=s)];cases b<;>simp
theorem KR {b:Bool}:∀{l:List ByteArray} {s:ByteArray},s∈l->AU (FU b l) (.agg [.bool b,.str s])=some (JL l s)
 | [],_,h=>by simp at h
 | x::l,s,h=>by
  unfold JL;rw[List.findIdx_cons,Hc,AU,aB]
  by_cases h1:s=x
  ·subst h1;simp
  ·have h2:=KR (b:=b) (l:=l) (s:=s) (by simpa[h1]using h);have h1b:(s==x)=false:=by simpa using h1
   rw[h2];simp[h1b,JL]
theorem MU : ∀(a b:List DVal) (x:DVal),AU (a++b) x=match AU a x with | some j=>some j | none=>(AU b x).map (· +a.length)
 | [],b,x=>by simp[AU]
 | k::a,b,x=>by
  rw[List.cons_append,AU,AU,MU a b x]
  split
  ·rfl
  ·cases AU a x with
   | some j=>rfl
   | none=>cases AU b x<;>simp;omega
theorem UH (b:Bool) (l:List ByteArray):(FU b l).all (Ck prog 104)=true:=by
 induction l with
 | nil=>rfl
 | cons p l ih=>rw[Hc,cP0,ih];simp
def Lq (H L:List ByteArray):List DVal:=FU false H++FU true L
def xN (H L:List ByteArray):List DVal:=Fw H.length++Fw L.length
abbrev Iu (H L:List ByteArray):DVal:= .ref [Bo H,Bo L,.mp (Lq H L) (xN H L)]
@[simp] theorem FS_ (H L:List ByteArray):AJ (Lq H L)=0:=by simp[Lq]
@[simp] theorem FR_ (H L:List ByteArray):AJ (xN H L)=0:=by simp[xN]
theorem xL (H L:List ByteArray):(Lq H L).all (Ck prog 104)=true:=by
 unfold Lq;rw[List.all_append,UH,UH];rfl
def NC (H L:List ByteArray) (b:Bool):List ByteArray:=if b then L else H
def Wz (l:List ByteArray) (s:ByteArray):Int:=if s∈l then (JL l s:Int)else 0
def Kc (l:List ByteArray) (s:ByteArray):Int:=if s∈l then 0 else 4
theorem eU {n i:Nat} (h:i<n):(Fw n)[i]? =some (.int .i64 (i:Int)):=by
 unfold Fw;rw[bH0,dX0 h];rfl
theorem xM {H L:List ByteArray} {b:Bool} {s:ByteArray} (h:s∈NC H L b):∃j,AU (Lq H L) (.agg [.bool b,.str s])=some j/\(xN H L)[j]? =some (.int .i64 (JL (NC H L b) s)):=by
 unfold Lq xN;rw[MU]
 cases b with
 | false =>
  have h':s∈H:=h;rw[KR h'];have hi:=HT h';exact⟨_,rfl,by rw[bC0 (by rw[Pn];exact hi)];exact eU hi⟩
 | true =>
  have h':s∈L:=h;have hi:=HT h';have h0:AU (FU false H) (.agg [.bool true,.str s])=none:=Gt (b:=true);rw[h0,KR h'];refine⟨_,rfl,?_⟩
  show (Fw H.length++Fw L.length)[JL L s+(FU false H).length]? =_
  rw[AW_,bD0 (by rw[Pn];omega),Pn,eI0];exact eU hi
theorem VJ {H L:List ByteArray} {b:Bool} {s:ByteArray} (h:¬s∈NC H L b):AU (Lq H L) (.agg [.bool b,.str s])=none:=by
 unfold Lq;rw[MU]
 cases b with
 | false =>
  have h':¬s∈H:=h;rw[HP h',show AU (FU true L) (.agg [.bool false,.str s])=none from Gt (b:=false)];rfl
 | true =>
  have h':¬s∈L:=h;rw[show AU (FU false H) (.agg [.bool true,.str s])=none from Gt (b:=true),HP h'];rfl
def oA : Ann:=⟨[],[]⟩
theorem Fx (H L:List ByteArray):Ag prog 81 [Iu H L] (.bool true):=by
 refine Ad [] oA func81 call81 ntmps81 mxd (Az @oA.eq_1 results81) rfl (fun qJ B qX qQ=> ?_);clear qJ;simp only[Ap];exact AA Ac Ac Ac
def Yi : Ann:=⟨[],[]⟩
theorem IV (H L:List ByteArray) (b:Bool) (s:ByteArray):Ag prog 159 [Iu H L,.agg [.bool b,.str s]] (.tup [.int .i64 (Wz (NC H L b) s),.int .i64 (Kc (NC H L b) s)]):=by
 refine Ad [] Yi func159 call159 ntmps159 mxd (Az @Yi.eq_1 results159) rfl (fun qJ B qX qQ=> ?_);clear qJ;simp only[Ap];have e1:=Fx H L;have qO:=xL H L;unfold Wz Kc
 by_cases h:s∈NC H L b
 ·obtain⟨j,h1,h2⟩:=xM h;rw[if_pos h,if_pos h];exact AA (AQ e1) Ac (HB qO h1 h2)
 ·have h1:=VJ h;rw[if_neg h,if_neg h];exact AA (AQ e1) Ac (Az qO h1)
def Yk : Ann:=⟨[],[]⟩
theorem ZU (H L:List ByteArray) (s:ByteArray):Ag prog 105 [Iu H L,.str s] (.tup [.int .i64 (Wz H s),.int .i64 (Kc H s)]):=by
 refine Ad [] Yk func105 call105 ntmps105 mxd (Az @Yk.eq_1 results105) rfl (fun qJ B qX qQ=> ?_);clear qJ;simp only[Ap];have e1:=IV H L false s;rw[show NC H L false=H from rfl]at e1;exact AA (AQ e1) Ac Ac
def Yj : Ann:=⟨[],[]⟩
theorem Sa (H L:List ByteArray) (s:ByteArray):Ag prog 106 [Iu H L,.str s] (.tup [.int .i64 (Wz L s),.int .i64 (Kc L s)]):=by
 refine Ad [] Yj func106 call106 ntmps106 mxd (Az @Yj.eq_1 results106) rfl (fun qJ B qX qQ=> ?_);clear qJ;simp only[Ap];have e1:=IV H L true s;rw[show NC H L true=L from rfl]at e1;exact AA (AQ e1) Ac Ac
def Co (H L:List ByteArray) (x:Nd):Sym:=if x.k=3 then (if x.s∈L then ⟨true,JL L x.s⟩else ⟨false,0⟩)else if x.k=2 then (if x.s∈H then ⟨false,JL H x.s⟩else ⟨false,0⟩)else ⟨false,0⟩
def Ps (H L:List ByteArray) (x:Nd):Int:=if x.k=3 then Kc L x.s else if x.k=2 then Kc H x.s else 2
def oB : Ann:=⟨[],[]⟩
theorem Pt (H L:List ByteArray) (x:Nd):Ag prog 56 [Iu H L,.agg (Bu x)] (.tup [.agg (AR (Co H L x)),.int .i64 (Ps H L x)]):=by
 refine Ad [] oB func56 call56 ntmps56 mxd (Az @oB.eq_1 results56) rfl (fun qJ B qX qQ=> ?_);clear qJ;simp only[Ap];have e1:=Fx H L;have e2:=ZU H L x.s;have e3:=Sa H L x.s;unfold Co Ps
 by_cases k3:x.k=3
 ·by_cases h:x.s∈L
  ·simp only[Wz,Kc,h,if_true]at e3;exact AA (HB e1 e2 e3) Ac (Lj @Bu.eq_1 @AR.eq_1 k3 h @Kc.eq_1)
  ·simp only[Wz,Kc,h,if_false]at e3;exact AA (HB e1 e2 e3) Ac (Lj @Bu.eq_1 @AR.eq_1 k3 h @Kc.eq_1)
 ·have k3':(x.k==3)=false:=by simpa using k3
  by_cases k2:x.k=2
  ·by_cases h:x.s∈H
   ·simp only[Wz,Kc,h,if_true]at e2;exact AA (HB e1 e2 e3) Ac (OB @Bu.eq_1 @AR.eq_1 k3 k3' k2 h @Kc.eq_1)
   ·simp only[Wz,Kc,h,if_false]at e2;exact AA (HB e1 e2 e3) Ac (OB @Bu.eq_1 @AR.eq_1 k3 k3' k2 h @Kc.eq_1)
  ·have k2':(x.k==2)=false:=by simpa using k2
   exact AA (HB e1 e2 e3) Ac (Rp @Bu.eq_1 @AR.eq_1 k3 k3' k2 k2')
def oC : Ann:=⟨[],[]⟩
theorem Uw (H L:List ByteArray):Ag prog 52 [Iu H L] (Bo H):=by
 refine Ad [] oC func52 call52 ntmps52 mxd (Az @oC.eq_1 results52) rfl (fun qJ B qX qQ=> ?_);clear qJ;simp only[Ap];have e1:=Fx H L;have e2:=XJ H;exact AA (Az e1 e2) Ac Ac
def EC_ (i j:Nat) (T:ByteArray):List Ent:=if T.size=0 then [⟨i,1,.row 232 2 32 [[.nilp,.nilsl]]⟩]else [⟨i,1,.row 232 2 32 [[.rx i 1 2 0 0,.osl j 1]]⟩,⟨j,1,.row 5 1 1 (AP T)⟩]
theorem Nl {i j:Nat} {T:ByteArray} (h:T.size=0):EC_ i j T=[⟨i,1,.row 232 2 32 [[.nilp,.nilsl]]⟩]:=if_pos h
theorem JP {i j:Nat} {T:ByteArray} (h:T.size≠0):EC_ i j T=[⟨i,1,.row 232 2 32 [[.rx i 1 2 0 0,.osl j 1]]⟩,⟨j,1,.row 5 1 1 (AP T)⟩]:=if_neg h
theorem Fa_ {T:ByteArray} (h:T.size=0):T=⟨#[]⟩:=by
 obtain⟨a⟩:=T;have:a= #[]:=Array.eq_empty_of_size_eq_zero h;rw[this]
theorem tX (x:ByteArray):(⟨#[]⟩:ByteArray)++x=x:=by
 apply Hq
 simp[ByteArray.data_append]
end Go.Proofs.Wy
end
