/- Parts of a proof, laid together: BN4, SY0, WB14. -/
import Derived.Test.YtbpmiknobocjoaaGreatqAp17
import Derived.Test.YtbpmiknobocjoaaGreatqAp28
import Derived.Test.YtbpmiknobocjoaaGreatqAp30
set_option linter.unusedSimpArgs false
set_option maxHeartbeats 8000000
set_option linter.unusedVariables false
set_option linter.unusedSectionVars false
section
namespace Go.Proofs.Wy
open Go Go.Dm Tryz
variable [DMode]
attribute [local irreducible] DW BN BS
set_option maxRecDepth 100000
def Ge (g:List Rul):Prop:=∀r∈g,r.b.length<=1572864
theorem EE {k:Int}:∀{g:List Rul},Ge g->(AK k g).length<=g.length*1572864
 | [],_=>by simp[AK]
 | r::g,h=>by
  have h1:=h r aH0;have h2:=EE (k:=k) (g:=g) fun x hx=>h x (aF0 _ hx)
  have h3:=iN k r.b;have h4:AK k (r::g)=Cp k r.b++AK k g:=by simp[AK]
  rw[h4,aD0,List.length_cons];omega
theorem Vy (l:List Nd):HC l<=l.length:=by rw[MM];exact cM0 _ _
theorem Vz : ∀{g:List Rul},Ge g->Ds g<=g.length*1572864
 | [],_=>by simp[Ds]
 | r::g,h=>by
  have h1:=h r aH0;have h2:=Vz (g:=g) fun x hx=>h x (aF0 _ hx)
  have h3:=Vy r.b;have h4:Ds (r::g)=HC r.b+Ds g:=by simp[Ds]
  rw[h4,List.length_cons];omega
theorem TR {g:List Rul} {i:Nat} {r:Rul} (h:g[i]? =some r):Ds (g.take (i+1))=Ds (g.take i)+HC r.b:=by
 unfold Ds;rw[bM0,h];simp
theorem MN (g:List Rul) (i:Nat):Ds (g.take i)<=Ds g:=by
 have h:Ds g=Ds (g.take i)+Ds (g.drop i):=by
  unfold Ds;rw[<-List.sum_append,<-bD0,List.take_append_drop]
 omega
theorem VF (s:ByteArray):Af prog 56 [.str s,.int .u8 85] (.bool (Du 2 s)):=Hx 2 85 (.inl ⟨rfl,rfl⟩) s
def xE : Ann:=⟨[],[]⟩
theorem Lw (g:List Rul) (hs:Ge g):Af prog 21 [Au g] (.bool (Fa g)):=by
 refine Ae [] xE func21 call21 ntmps21 mxd (AB @xE.eq_1 results21) rfl (fun qJ B qX qQ=> ?_);have bW:=Ke qJ.1;clear qJ;simp only[Aq];obtain⟨R,hR⟩:∃R,R=Fa g:=⟨_,rfl⟩;rw[<-hR]
 (refine AL Ab Ab Ab ?_;intros;refine Am ?_)
 refine Ai (X:={i:Nat//i<=g.length/\R=Fa (g.drop i)}) (fun i=>⟨[(0,Au g),(3,.int .i64 i.1)],[]⟩) (fun i=>g.length-i.1) ⟨0,by simp[hR]⟩ (Sub.lit (by simp)) ?_;clear hR;rintro⟨i,hi,hR⟩;simp only
 by_cases qV:i<g.length
 ·obtain⟨r,hr,qW,bL⟩:=Ap qV;rw[aR0 qV,qW]at hR;unfold Fa at hR;rw[cT0]at hR;have e1:=VF r.h;have e2:=EH r.b (hs r bL);have w2:IntKind.i64.wrap ((i:Int)+1)=(i:Int)+1:=wq;cases h1:Du 2 r.h
  ·rw[h1]at e1 hR;simp only[cL0]at hR;subst hR;exact Az (AH e1) Ab (IF @Ba.eq_1 qV hr qW)
  ·cases h2:Dg r.b
   ·rw[h2]at e2 hR;rw[h1]at e1 hR;simp only[cL0,dU0]at hR;subst hR;exact Az (AB e1 e2) Ab (IF @Ba.eq_1 qV hr qW)
   ·rw[h2]at e2 hR;rw[h1]at e1 hR;simp only[cA0]at hR
    (refine AL (AB e1 e2) Ab (Lj @Ba.eq_1 qV hr qW w2) ?_;intros;refine Am ?_)
    refine Al.mk ⟨i+1,by omega,hR⟩ (Sub.lit (by simp)) (by simp;omega)
    skip
 ·have qZ:i=g.length:=by omega
  subst qZ;rw[bU0]at hR;have wY:R=true:=hR;subst wY;exact Az Ab Ab Ab
def xD : Ann:=⟨[],[]⟩
theorem Vh (g:List Rul) (hs:Ge g) (hl:g.length<=64):Af prog 25 [Au g] (.int .i64 (Ds g)):=by
 refine Ae [] xD func25 call25 ntmps25 mxd (AB @xD.eq_1 results25) rfl (fun qJ B qX qQ=> ?_);clear qJ;simp only[Aq];have ho:=Vz hs
 (refine AL Ab Ab Ab ?_;intros;refine Am ?_)
 refine Ai (X:={i:Nat//i<=g.length}) (fun i=>⟨[(0,Au g),(3,.int .i64 (Ds (g.take i.1))),(4,.int .i64 i.1)],[]⟩) (fun i=>g.length-i.1) ⟨0,by omega⟩ (Sub.lit (by simp[Ds])) ?_;rintro⟨i,hi⟩;simp only
 by_cases qV:i<g.length
 ·obtain⟨r,hr,qW,bL⟩:=Ap qV;have e1:=ME r.b;have h1:=TR hr;have h2:=MN g (i+1);have h3:=Vy r.b;have w1:IntKind.i64.wrap ((Ds (g.take i):Int)+(HC r.b:Int))=(Ds (g.take (i+1)):Int):=by rw[wq];omega
  have w2:IntKind.i64.wrap ((i:Int)+1)=(i:Int)+1:=wq
  (refine AL (AH e1) Ab (Jm @Ba.eq_1 qV hr qW w1 w2) ?_;intros;refine Am ?_)
  refine Al.mk ⟨i+1,by omega⟩ (Sub.lit (by simp)) (by simp;omega)
  skip
 ·have qZ:i=g.length:=by omega
  subst qZ;rw[aU0];exact Az Ab Ab Ab
theorem iP {gt:GT} {i:Nat} {p:ByteArray×RT} (h:gt[i]? =some p):(Bu gt)[i]? =some ⟨p.1,Ad p.2⟩:=by unfold Bu;rw[bH0,h];rfl
theorem Ft (gt:GT):(Bu gt).length=gt.length:=by unfold Bu;rw[aJ0]
theorem JM {gt:GT} (h:Ge (Bu gt)) {p:ByteArray×RT} (hp:p∈gt):(Ad p.2).length<=1572864:=h ⟨p.1,Ad p.2⟩ (aT0.2 ⟨p,hp,rfl⟩)
def xC : Ann:=⟨[],[]⟩
theorem SV (gt:GT) (hk:OkG gt) (hs:Ge (Bu gt)) (hl:gt.length<=64):Af prog 26 [Au (Bu gt)] (.bool (FU gt)):=by
 refine Ae [] xC func26 call26 ntmps26 mxd (AB @xC.eq_1 results26) rfl (fun qJ B qX qQ=> ?_);clear qJ;simp only[Aq];have zS:=Ft gt;have yI:=fun i p=>iP (gt:=gt) (i:=i) (p:=p)
 have kT:=fun p=>JM hs (p:=p)
 obtain⟨g,hg⟩:∃g,g=Bu gt:=⟨_,rfl⟩;rw[<-hg]at zS yI |-;obtain⟨R,hR⟩:∃R,R=FU gt:=⟨_,rfl⟩;rw[<-hR];clear hs hg
 (refine AL Ab Ab Ab ?_;intros;refine Am ?_)
 refine Ai (X:={i:Nat//i<=gt.length/\R=FU (gt.drop i)}) (fun i=>⟨[(0,Au g),(3,.int .i64 i.1)],[]⟩) (fun i=>gt.length-i.1) ⟨0,by simp[hR]⟩ (Sub.lit (by simp)) ?_;clear hR;rintro⟨i,hi,hR⟩;simp only
 by_cases qV:i<gt.length
 ·obtain⟨p,hp,zM,jW⟩:=Ap qV;rw[aR0 qV,zM]at hR;unfold FU at hR;rw[List.any_cons]at hR;have hr:=yI i p hp;have qL:i<g.length:=by omega
  have qW:g[i]'qL=⟨p.1,Ad p.2⟩:=(aB0.1 hr).2;have e1:=Pp p.2 (hk p jW).2 (kT p jW);have w2:IntKind.i64.wrap ((i:Int)+1)=(i:Int)+1:=wq;obtain⟨b,hb⟩:∃b,b=Ad p.2:=⟨_,rfl⟩;rw[<-hb]at hr qW e1
  by_cases hd:16<JC p.2
  ·have gE:(16:Int)<(JC p.2:Int):=by omega
   rw[decide_eq_true hd,Bool.true_or]at hR;subst hR;exact Az (AH e1) Ab (IH @Ba.eq_1 qV qL hr qW hd gE)
  ·have gE:¬(16:Int)<(JC p.2:Int):=by omega
   rw[decide_eq_false hd,eA0]at hR
   (refine AL (AH e1) Ab (KG @Ba.eq_1 qV qL hr qW hd gE w2) ?_;intros;refine Am ?_)
   refine Al.mk ⟨i+1,by omega,hR⟩ (Sub.lit (by simp)) (by simp;omega)
   skip
 ·have qZ:i=gt.length:=by omega
  subst qZ;rw[bU0]at hR;have wY:R=false:=hR;subst wY;exact Az Ab Ab (AH zS)
theorem aT {k:Int} {s:ByteArray} (h:Du k s=true):s.size<=16:=by
 unfold Du BU at h
 split at h<;>simp only[aL0,decide_eq_true_eq]at h<;>exact h.1.1.2
theorem QC {gt:GT} {p:ByteArray×RT} (hk:OkG gt) (hs:Ge (Bu gt)) (hp:p∈gt):(Jq p).size<=37748766:=by
 have h1:=aT (hk p hp).1;have h2:=(HS p.2 (hk p hp).2).2;have h3:=JM hs hp;unfold Jq;simp only[aP0];have z3:(⟨#[32,61,32]⟩:ByteArray).size=3:=rfl;have z4:(⟨#[32,59,10]⟩:ByteArray).size=3:=rfl;omega
theorem LR {gt:GT} (hk:OkG gt) (hs:Ge (Bu gt)):∀i,i<=gt.length->(Ca (gt.take i)).size<=i*37748766
 | 0,_=>by simp[Ca];decide
 | i+1,h=>by
  have hx:gt[i]? =some (gt[i]'(by omega)):=aI0 (by omega);have ih:=LR hk hs i (by omega);have h1:=QC hk hs (dE0 (show i<gt.length by omega));rw[Gq hx,aP0];omega
def xB : Ann:=⟨[],[]⟩
theorem SS (gt:GT) (hk:OkG gt) (hs:Ge (Bu gt)) (hl:gt.length<=64):Af prog 27 [Au (Bu gt)] (.str (Ca gt)):=by
 refine Ae [] xB func27 call27 ntmps27 mxd (AB @xB.eq_1 results27) rfl (fun qJ B qX qQ=> ?_);clear qJ;simp only[Aq];have zS:=Ft gt;have yI:=fun i p=>iP (gt:=gt) (i:=i) (p:=p)
 have kT:=fun p=>JM hs (p:=p)
 have vC:=LR hk hs;obtain⟨g,hg⟩:∃g,g=Bu gt:=⟨_,rfl⟩;rw[<-hg]at zS yI |-;clear hs hg;have z0:(⟨#[]⟩:ByteArray).size=0:=rfl;have z3:(⟨#[32,61,32]⟩:ByteArray).size=3:=rfl;have z4:(⟨#[32,59,10]⟩:ByteArray).size=3:=rfl;have m3:3<=maxLen:=by decide
 have mbig:3000000000<=maxLen:=by decide
 (refine AL Ab Ab (AH z0) ?_;intros;refine Am ?_)
 refine Ai (X:={i:Nat//i<=gt.length}) (fun i=>⟨[(0,Au g),(3,.str (Ca (gt.take i.1))),(4,.int .i64 i.1)],[]⟩) (fun i=>gt.length-i.1) ⟨0,by omega⟩ (Sub.lit (by simp[Ca])) ?_;rintro⟨i,hi⟩;simp only
 by_cases qV:i<gt.length
 ·obtain⟨p,hp,zM,jW⟩:=Ap qV;have hr:=yI i p hp;have qL:i<g.length:=by omega
  have qW:g[i]'qL=⟨p.1,Ad p.2⟩:=(aB0.1 hr).2;have e1:=OM _ p.2 (Ad p.2) 0 rfl (At.top (hk p jW).2) (kT p jW);have w2:IntKind.i64.wrap ((i:Int)+1)=(i:Int)+1:=wq;have h1:=vC (i+1) (by omega);have wT:=Gq hp;rw[wT]at h1;unfold Jq at h1 wT;simp only[aP0,z3,z4]at h1;obtain⟨b,hb⟩:∃b,b=Ad p.2:=⟨_,rfl⟩;rw[<-hb]at hr qW e1;obtain⟨s,hs⟩:∃s,s=CT p.2:=⟨_,rfl⟩;rw[<-hs]at e1 h1 wT;obtain⟨a,ha⟩:∃a,a=Ca (gt.take i):=⟨_,rfl⟩
  rw[<-ha]at wT h1 |-;have y1:a.size+p.1.size<=maxLen:=by omega
  have y2:a.size+p.1.size+3<=maxLen:=by omega
  have y3:a.size+p.1.size+3+s.size<=maxLen:=by omega
  have y4:a.size+p.1.size+3+s.size+3<=maxLen:=by omega
  have hq:a++p.1++⟨#[32,61,32]⟩++s++⟨#[32,59,10]⟩=Ca (gt.take (i+1)):=by rw[wT];simp only[ByteArray.append_assoc]
  (refine AL (AH e1) Ab (Hs_ @Ba.eq_1 qV qL hr qW z3 z4 m3 y1 y2 y3 y4 @aP0 w2) ?_;intros;refine Am ?_)
  refine Al.mk ⟨i+1,by omega⟩ (Sub.lit (by simp[hq])) (by simp;omega)
  skip
 ·have qZ:i=gt.length:=by omega
  subst qZ;rw[aU0];exact Az Ab Ab (AH zS)
def CJ : Ann:=⟨[],[]⟩
theorem QP (g:List Rul) (h:g.length<1\/64<g.length):Af prog 6 [Au g] (.int .i64 180):=by
 refine Ae [] CJ func6 call6 ntmps6 mxd (AB @CJ.eq_1 results6) rfl (fun qJ B qX qQ=> ?_);clear qJ;simp only[Aq]
 rcases h with h | h
 ·have d1:(g.length:Int)<1:=by omega
  have h0:g=[]:=bN0 (by omega);subst h0;exact Az Ab Ab Ab
 ·have d1:¬(g.length:Int)<1:=by omega
  have d2:(64:Int)<(g.length:Int):=by omega
  have d3:¬g.length<1:=by omega
  exact Az Ab Ab (IF d1 d2 h d3)
theorem Vn (g:List Rul) (h1:1<=g.length) (h2:g.length<=64) (hs:Ge g) (ht:Fa g=false):Af prog 6 [Au g] (.int .i64 170):=by
 refine Ae [] CJ func6 call6 ntmps6 mxd (AB @CJ.eq_1 results6) rfl (fun qJ B qX qQ=> ?_);clear qJ;simp only[Aq];have d1:¬(g.length:Int)<1:=by omega
 have d2:¬(64:Int)<(g.length:Int):=by omega
 have d3:¬g.length<1:=by omega
 have d4:¬64<g.length:=by omega
 have e1:=Lw g hs;rw[ht]at e1;exact Az (AH e1) Ab (IF d1 d2 d3 d4)
theorem XF (gt:GT) (h1:1<=gt.length) (h2:gt.length<=64) (hk:OkG gt) (hs:Ge (Bu gt)):Af prog 6 [Au (Bu gt)] (.int .i64 (Nk gt)):=by
 refine Ae [] CJ func6 call6 ntmps6 mxd (AB @CJ.eq_1 results6) rfl (fun qJ B qX qQ=> ?_);clear qJ;simp only[Aq];have zS:=Ft gt;have e1:=Lw (Bu gt) hs;rw[YB hk]at e1;have n2:=EE (k:=2) hs;have n3:=EE (k:=3) hs;have e2:=Fp (Bu gt);have e3:=NW (Bu gt) (by omega);have e4:=JW (Bu gt) (by omega);have e5:=Vh (Bu gt) hs (by omega);have e6:=SV gt hk hs h2;have e7:=SS gt hk hs h2;have b1:=Je (Bu gt)
 have b2:(CP (Bu gt)).length<=110000000:=by
  have:=HR (AK 2 (Bu gt));have:=cM0 (fun s=> !decide (s∈AD (Bu gt))) (EW (AK 2 (Bu gt)));unfold CP;omega
 obtain⟨g,hg⟩:∃g,g=Bu gt:=⟨_,rfl⟩;obtain⟨C,hC⟩:∃C,C=Nk gt:=⟨_,rfl⟩;rw[<-hC];unfold Nk at hC;rw[<-hg]at zS e1 e2 e3 e4 e5 e6 e7 b1 b2 hC |-;obtain⟨H,hH⟩:∃H,H=AD g:=⟨_,rfl⟩;obtain⟨m,hm⟩:∃m,m=(CP g).length:=⟨_,rfl⟩;obtain⟨L,hL⟩:∃L,L=AG g:=⟨_,rfl⟩;obtain⟨o,ho⟩:∃o,o=Ds g:=⟨_,rfl⟩;obtain⟨T,hT⟩:∃T,T=Ca gt:=⟨_,rfl⟩;rw[<-hH]at e2 b1 hC;rw[<-hm]at e3 b2 hC;rw[<-hL]at e4 hC;rw[<-ho]at e5 hC;rw[<-hT]at e7 hC;clear hH hm hL ho hT n2 n3 hg
 have d1:¬(g.length:Int)<1:=by omega
 have d2:¬(64:Int)<(g.length:Int):=by omega
 have d3:¬g.length<1:=by omega
 have d4:¬64<g.length:=by omega
 have w1:IntKind.i64.wrap ((H.length:Int)+(m:Int))=((H.length+m:Nat):Int):=by rw[wq];omega
 by_cases c1:16<H.length+m
 ·have q1:(16:Int)<((H.length+m:Nat):Int):=by omega
  rw[if_pos c1]at hC;subst hC
  (repeat (first | refine AC fun K hK=> ?_ | (refine BA CJ mxd (by kernel_rfl) ?_;simp[CJ,qX,d1,d2,d3,d4,w1,c1,q1, -Int.natCast_add];try simp (disch:=omega) only[Ag]) | refine Ao ?_ | (refine AX ?_ ?_ ?_;(· (simp[qX,d1,d2,d3,d4,w1,c1,q1, -Int.natCast_add];done));(try (rotate_left;(· (intro hc;(try simp[qX,d1,d2,d3,d4,w1,c1,q1, -Int.natCast_add]at hc);done))))) | (refine AE ?_;simp[results6,qX,d1,d2,d3,d4,w1,c1,q1, -Int.natCast_add]) | ((first | refine Aw ?_ | refine Av ?_);simp[qX,d1,d2,d3,d4,w1,c1,q1, -Int.natCast_add]) | (intro hc;(try simp[qX,d1,d2,d3,d4,w1,c1,q1, -Int.natCast_add]at hc);(try (exfalso;omega))) | ((first | refine Ak (e1) ?_ | refine Ak (e2) ?_ | refine Ak (e3) ?_ | refine Ak (e4) ?_ | refine Ak (e5) ?_ | refine Ak (e6) ?_ | refine Ak (e7) ?_ | (refine Aj (e1) ?_ ?_;(· (simp;done))) | (refine Aj (e2) ?_ ?_;(· (simp;done))) | (refine Aj (e3) ?_ ?_;(· (simp;done))) | (refine Aj (e4) ?_ ?_;(· (simp;done))) | (refine Aj (e5) ?_ ?_;(· (simp;done))) | (refine Aj (e6) ?_ ?_;(· (simp;done))) | (refine Aj (e7) ?_ ?_;(· (simp;done))));try simp[qX,d1,d2,d3,d4,w1,c1,q1, -Int.natCast_add]) | (refine⟨?_,?_⟩; · omega) | omega | apply_assumption -exfalso -symm | (exfalso;omega)))
 rw[if_neg c1]at hC;have q1:¬(16:Int)<((H.length+m:Nat):Int):=by omega
 by_cases c2:16<L.length
 ·have q2:(16:Int)<(L.length:Int):=by omega
  rw[if_pos c2]at hC;subst hC
  (repeat (first | refine AC fun K hK=> ?_ | (refine BA CJ mxd (by kernel_rfl) ?_;simp[CJ,qX,d1,d2,d3,d4,w1,c1,q1,c2,q2, -Int.natCast_add];try simp (disch:=omega) only[Ag]) | refine Ao ?_ | (refine AX ?_ ?_ ?_;(· (simp[qX,d1,d2,d3,d4,w1,c1,q1,c2,q2, -Int.natCast_add];done));(try (rotate_left;(· (intro hc;(try simp[qX,d1,d2,d3,d4,w1,c1,q1,c2,q2, -Int.natCast_add]at hc);done))))) | (refine AE ?_;simp[results6,qX,d1,d2,d3,d4,w1,c1,q1,c2,q2, -Int.natCast_add]) | ((first | refine Aw ?_ | refine Av ?_);simp[qX,d1,d2,d3,d4,w1,c1,q1,c2,q2, -Int.natCast_add]) | (intro hc;(try simp[qX,d1,d2,d3,d4,w1,c1,q1,c2,q2, -Int.natCast_add]at hc);(try (exfalso;omega))) | ((first | refine Ak (e1) ?_ | refine Ak (e2) ?_ | refine Ak (e3) ?_ | refine Ak (e4) ?_ | refine Ak (e5) ?_ | refine Ak (e6) ?_ | refine Ak (e7) ?_ | (refine Aj (e1) ?_ ?_;(· (simp;done))) | (refine Aj (e2) ?_ ?_;(· (simp;done))) | (refine Aj (e3) ?_ ?_;(· (simp;done))) | (refine Aj (e4) ?_ ?_;(· (simp;done))) | (refine Aj (e5) ?_ ?_;(· (simp;done))) | (refine Aj (e6) ?_ ?_;(· (simp;done))) | (refine Aj (e7) ?_ ?_;(· (simp;done))));try simp[qX,d1,d2,d3,d4,w1,c1,q1,c2,q2, -Int.natCast_add]) | (refine⟨?_,?_⟩; · omega) | omega | apply_assumption -exfalso -symm | (exfalso;omega)))
 rw[if_neg c2]at hC;have q2:¬(16:Int)<(L.length:Int):=by omega
 by_cases c3:64<o
 ·have q3:(64:Int)<(o:Int):=by omega
  rw[if_pos c3]at hC;subst hC
  (repeat (first | refine AC fun K hK=> ?_ | (refine BA CJ mxd (by kernel_rfl) ?_;simp[CJ,qX,d1,d2,d3,d4,w1,c1,q1,c2,q2,c3,q3, -Int.natCast_add];try simp (disch:=omega) only[Ag]) | refine Ao ?_ | (refine AX ?_ ?_ ?_;(· (simp[qX,d1,d2,d3,d4,w1,c1,q1,c2,q2,c3,q3, -Int.natCast_add];done));(try (rotate_left;(· (intro hc;(try simp[qX,d1,d2,d3,d4,w1,c1,q1,c2,q2,c3,q3, -Int.natCast_add]at hc);done))))) | (refine AE ?_;simp[results6,qX,d1,d2,d3,d4,w1,c1,q1,c2,q2,c3,q3, -Int.natCast_add]) | ((first | refine Aw ?_ | refine Av ?_);simp[qX,d1,d2,d3,d4,w1,c1,q1,c2,q2,c3,q3, -Int.natCast_add]) | (intro hc;(try simp[qX,d1,d2,d3,d4,w1,c1,q1,c2,q2,c3,q3, -Int.natCast_add]at hc);(try (exfalso;omega))) | ((first | refine Ak (e1) ?_ | refine Ak (e2) ?_ | refine Ak (e3) ?_ | refine Ak (e4) ?_ | refine Ak (e5) ?_ | refine Ak (e6) ?_ | refine Ak (e7) ?_ | (refine Aj (e1) ?_ ?_;(· (simp;done))) | (refine Aj (e2) ?_ ?_;(· (simp;done))) | (refine Aj (e3) ?_ ?_;(· (simp;done))) | (refine Aj (e4) ?_ ?_;(· (simp;done))) | (refine Aj (e5) ?_ ?_;(· (simp;done))) | (refine Aj (e6) ?_ ?_;(· (simp;done))) | (refine Aj (e7) ?_ ?_;(· (simp;done))));try simp[qX,d1,d2,d3,d4,w1,c1,q1,c2,q2,c3,q3, -Int.natCast_add]) | (refine⟨?_,?_⟩; · omega) | omega | apply_assumption -exfalso -symm | (exfalso;omega)))
 rw[if_neg c3]at hC;have q3:¬(64:Int)<(o:Int):=by omega
 cases c4:FU gt
 rotate_left
 ·rw[if_pos c4]at hC;rw[c4]at e6;subst hC
  (repeat (first | refine AC fun K hK=> ?_ | (refine BA CJ mxd (by kernel_rfl) ?_;simp[CJ,qX,d1,d2,d3,d4,w1,c1,q1,c2,q2,c3,q3, -Int.natCast_add];try simp (disch:=omega) only[Ag]) | refine Ao ?_ | (refine AX ?_ ?_ ?_;(· (simp[qX,d1,d2,d3,d4,w1,c1,q1,c2,q2,c3,q3, -Int.natCast_add];done));(try (rotate_left;(· (intro hc;(try simp[qX,d1,d2,d3,d4,w1,c1,q1,c2,q2,c3,q3, -Int.natCast_add]at hc);done))))) | (refine AE ?_;simp[results6,qX,d1,d2,d3,d4,w1,c1,q1,c2,q2,c3,q3, -Int.natCast_add]) | ((first | refine Aw ?_ | refine Av ?_);simp[qX,d1,d2,d3,d4,w1,c1,q1,c2,q2,c3,q3, -Int.natCast_add]) | (intro hc;(try simp[qX,d1,d2,d3,d4,w1,c1,q1,c2,q2,c3,q3, -Int.natCast_add]at hc);(try (exfalso;omega))) | ((first | refine Ak (e1) ?_ | refine Ak (e2) ?_ | refine Ak (e3) ?_ | refine Ak (e4) ?_ | refine Ak (e5) ?_ | refine Ak (e6) ?_ | refine Ak (e7) ?_ | (refine Aj (e1) ?_ ?_;(· (simp;done))) | (refine Aj (e2) ?_ ?_;(· (simp;done))) | (refine Aj (e3) ?_ ?_;(· (simp;done))) | (refine Aj (e4) ?_ ?_;(· (simp;done))) | (refine Aj (e5) ?_ ?_;(· (simp;done))) | (refine Aj (e6) ?_ ?_;(· (simp;done))) | (refine Aj (e7) ?_ ?_;(· (simp;done))));try simp[qX,d1,d2,d3,d4,w1,c1,q1,c2,q2,c3,q3, -Int.natCast_add]) | (refine⟨?_,?_⟩; · omega) | omega | apply_assumption -exfalso -symm | (exfalso;omega)))
 rw[if_neg (by rw[c4];simp)]at hC;rw[c4]at e6
 by_cases c5:0<m
 ·have q5:(0:Int)<(m:Int):=by omega
  rw[if_pos c5]at hC;subst hC
  (repeat (first | refine AC fun K hK=> ?_ | (refine BA CJ mxd (by kernel_rfl) ?_;simp[CJ,qX,d1,d2,d3,d4,w1,c1,q1,c2,q2,c3,q3,c5,q5, -Int.natCast_add];try simp (disch:=omega) only[Ag]) | refine Ao ?_ | (refine AX ?_ ?_ ?_;(· (simp[qX,d1,d2,d3,d4,w1,c1,q1,c2,q2,c3,q3,c5,q5, -Int.natCast_add];done));(try (rotate_left;(· (intro hc;(try simp[qX,d1,d2,d3,d4,w1,c1,q1,c2,q2,c3,q3,c5,q5, -Int.natCast_add]at hc);done))))) | (refine AE ?_;simp[results6,qX,d1,d2,d3,d4,w1,c1,q1,c2,q2,c3,q3,c5,q5, -Int.natCast_add]) | ((first | refine Aw ?_ | refine Av ?_);simp[qX,d1,d2,d3,d4,w1,c1,q1,c2,q2,c3,q3,c5,q5, -Int.natCast_add]) | (intro hc;(try simp[qX,d1,d2,d3,d4,w1,c1,q1,c2,q2,c3,q3,c5,q5, -Int.natCast_add]at hc);(try (exfalso;omega))) | ((first | refine Ak (e1) ?_ | refine Ak (e2) ?_ | refine Ak (e3) ?_ | refine Ak (e4) ?_ | refine Ak (e5) ?_ | refine Ak (e6) ?_ | refine Ak (e7) ?_ | (refine Aj (e1) ?_ ?_;(· (simp;done))) | (refine Aj (e2) ?_ ?_;(· (simp;done))) | (refine Aj (e3) ?_ ?_;(· (simp;done))) | (refine Aj (e4) ?_ ?_;(· (simp;done))) | (refine Aj (e5) ?_ ?_;(· (simp;done))) | (refine Aj (e6) ?_ ?_;(· (simp;done))) | (refine Aj (e7) ?_ ?_;(· (simp;done))));try simp[qX,d1,d2,d3,d4,w1,c1,q1,c2,q2,c3,q3,c5,q5, -Int.natCast_add]) | (refine⟨?_,?_⟩; · omega) | omega | apply_assumption -exfalso -symm | (exfalso;omega)))
 rw[if_neg c5]at hC;have q5:¬(0:Int)<(m:Int):=by omega
 by_cases c6:2048<T.size
 ·have q6:(2048:Int)<(T.size:Int):=by omega
  rw[if_pos c6]at hC;subst hC
  (repeat (first | refine AC fun K hK=> ?_ | (refine BA CJ mxd (by kernel_rfl) ?_;simp[CJ,qX,d1,d2,d3,d4,w1,c1,q1,c2,q2,c3,q3,c5,q5,c6,q6, -Int.natCast_add];try simp (disch:=omega) only[Ag]) | refine Ao ?_ | (refine AX ?_ ?_ ?_;(· (simp[qX,d1,d2,d3,d4,w1,c1,q1,c2,q2,c3,q3,c5,q5,c6,q6, -Int.natCast_add];done));(try (rotate_left;(· (intro hc;(try simp[qX,d1,d2,d3,d4,w1,c1,q1,c2,q2,c3,q3,c5,q5,c6,q6, -Int.natCast_add]at hc);done))))) | (refine AE ?_;simp[results6,qX,d1,d2,d3,d4,w1,c1,q1,c2,q2,c3,q3,c5,q5,c6,q6, -Int.natCast_add]) | ((first | refine Aw ?_ | refine Av ?_);simp[qX,d1,d2,d3,d4,w1,c1,q1,c2,q2,c3,q3,c5,q5,c6,q6, -Int.natCast_add]) | (intro hc;(try simp[qX,d1,d2,d3,d4,w1,c1,q1,c2,q2,c3,q3,c5,q5,c6,q6, -Int.natCast_add]at hc);(try (exfalso;omega))) | ((first | refine Ak (e1) ?_ | refine Ak (e2) ?_ | refine Ak (e3) ?_ | refine Ak (e4) ?_ | refine Ak (e5) ?_ | refine Ak (e6) ?_ | refine Ak (e7) ?_ | (refine Aj (e1) ?_ ?_;(· (simp;done))) | (refine Aj (e2) ?_ ?_;(· (simp;done))) | (refine Aj (e3) ?_ ?_;(· (simp;done))) | (refine Aj (e4) ?_ ?_;(· (simp;done))) | (refine Aj (e5) ?_ ?_;(· (simp;done))) | (refine Aj (e6) ?_ ?_;(· (simp;done))) | (refine Aj (e7) ?_ ?_;(· (simp;done))));try simp[qX,d1,d2,d3,d4,w1,c1,q1,c2,q2,c3,q3,c5,q5,c6,q6, -Int.natCast_add]) | (refine⟨?_,?_⟩; · omega) | omega | apply_assumption -exfalso -symm | (exfalso;omega)))
 rw[if_neg c6]at hC;have q6:¬(2048:Int)<(T.size:Int):=by omega
 subst hC
 (repeat (first | refine AC fun K hK=> ?_ | (refine BA CJ mxd (by kernel_rfl) ?_;simp[CJ,qX,d1,d2,d3,d4,w1,c1,q1,c2,q2,c3,q3,c5,q5,c6,q6, -Int.natCast_add];try simp (disch:=omega) only[Ag]) | refine Ao ?_ | (refine AX ?_ ?_ ?_;(· (simp[qX,d1,d2,d3,d4,w1,c1,q1,c2,q2,c3,q3,c5,q5,c6,q6, -Int.natCast_add];done));(try (rotate_left;(· (intro hc;(try simp[qX,d1,d2,d3,d4,w1,c1,q1,c2,q2,c3,q3,c5,q5,c6,q6, -Int.natCast_add]at hc);done))))) | (refine AE ?_;simp[results6,qX,d1,d2,d3,d4,w1,c1,q1,c2,q2,c3,q3,c5,q5,c6,q6, -Int.natCast_add]) | ((first | refine Aw ?_ | refine Av ?_);simp[qX,d1,d2,d3,d4,w1,c1,q1,c2,q2,c3,q3,c5,q5,c6,q6, -Int.natCast_add]) | (intro hc;(try simp[qX,d1,d2,d3,d4,w1,c1,q1,c2,q2,c3,q3,c5,q5,c6,q6, -Int.natCast_add]at hc);(try (exfalso;omega))) | ((first | refine Ak (e1) ?_ | refine Ak (e2) ?_ | refine Ak (e3) ?_ | refine Ak (e4) ?_ | refine Ak (e5) ?_ | refine Ak (e6) ?_ | refine Ak (e7) ?_ | (refine Aj (e1) ?_ ?_;(· (simp;done))) | (refine Aj (e2) ?_ ?_;(· (simp;done))) | (refine Aj (e3) ?_ ?_;(· (simp;done))) | (refine Aj (e4) ?_ ?_;(· (simp;done))) | (refine Aj (e5) ?_ ?_;(· (simp;done))) | (refine Aj (e6) ?_ ?_;(· (simp;done))) | (refine Aj (e7) ?_ ?_;(· (simp;done))));try simp[qX,d1,d2,d3,d4,w1,c1,q1,c2,q2,c3,q3,c5,q5,c6,q6, -Int.natCast_add]) | (refine⟨?_,?_⟩; · omega) | omega | apply_assumption -exfalso -symm | (exfalso;omega)))
def GD (b:Bool) (l:List ByteArray):List DVal:=l.map fun s=> .agg [.bool b,.str s]
def FX (n:Nat):List DVal:=(List.range n).map fun i:Nat=>DVal.int .i64 (i:Int)
theorem Ik (b:Bool) (s:ByteArray) (l:List ByteArray):GD b (s::l)= .agg [.bool b,.str s]::GD b l:=rfl
theorem DG_ (b:Bool) (l:List ByteArray):(GD b l).length=l.length:=by simp[GD]
theorem Ud (b:Bool) (l:List ByteArray) (s:ByteArray):GD b (l++[s])=GD b l++[.agg [.bool b,.str s]]:=by simp[GD]
theorem Tt (n:Nat):FX (n+1)=FX n++[.int .i64 (n:Int)]:=by simp[FX,List.range_succ]
theorem Qo (n:Nat):(FX n).length=n:=by simp[FX]
@[simp] theorem Ic_ (b:Bool) (l:List ByteArray):AJ (GD b l)=0:=by
 induction l with
 | nil=>rfl
 | cons a l ih=>rw[Ik];simp[AJ,mx,ih]
@[simp] theorem Ia_ (n:Nat):AJ (FX n)=0:=by
 unfold FX
 induction List.range n with
 | nil=>rfl
 | cons a l ih=>simp[AJ,mx,ih]
theorem iU (a b:Bool) (s x:ByteArray):CA (BX (.agg [.bool a,.str s])) (BX (.agg [.bool b,.str x]))=((a==b)&&(s==x)):=by
 simp[BX,CA,Wg]
theorem IZ {b:Bool}:∀{l:List ByteArray} {s:ByteArray},¬s∈l->Bc (GD b l) (.agg [.bool b,.str s])=none
 | [],_,_=>rfl
 | x::l,s,h=>by
  have h1:(s==x)=false:=by simp;intro e;exact h (by simp[e])
  rw[Ik,Bc,iU,h1,IZ (l:=l) (s:=s) fun hm=>h (aF0 _ hm)];simp
theorem Hl {b:Bool}:∀{l:List ByteArray} {s:ByteArray},Bc (GD (!b) l) (.agg [.bool b,.str s])=none
 | [],_=>rfl
 | x::l,s=>by
  rw[Ik,Bc,iU,Hl (l:=l) (s:=s)];cases b<;>simp
theorem LZ {b:Bool}:∀{l:List ByteArray} {s:ByteArray},s∈l->Bc (GD b l) (.agg [.bool b,.str s])=some (LF l s)
 | [],_,h=>by simp at h
 | x::l,s,h=>by
  unfold LF;rw[List.findIdx_cons,Ik,Bc,iU]
  by_cases h1:s=x
  ·subst h1;simp
  ·have h2:=LZ (b:=b) (l:=l) (s:=s) (by simpa[h1]using h);have mF:(s==x)=false:=by simpa using h1
   rw[h2];simp[mF,LF]
theorem Oq : ∀(a b:List DVal) (x:DVal),Bc (a++b) x=match Bc a x with | some j=>some j | none=>(Bc b x).map (· +a.length)
 | [],b,x=>by simp[Bc]
 | k::a,b,x=>by
  rw[List.cons_append,Bc,Bc,Oq a b x]
  split
  ·rfl
  ·cases Bc a x with
   | some j=>rfl
   | none=>cases Bc b x<;>simp;omega
theorem VO (b:Bool) (l:List ByteArray):(GD b l).all (Cm prog 89)=true:=by
 induction l with
 | nil=>rfl
 | cons p l ih=>rw[Ik,cT0,ih];simp
def Mt (H L:List ByteArray):List DVal:=GD false H++GD true L
def Co_ (H L:List ByteArray):List DVal:=FX H.length++FX L.length
abbrev CB (H L:List ByteArray):DVal:= .ref [Bz H,Bz L,.mp (Mt H L) (Co_ H L)]
@[simp] theorem Iy_ (H L:List ByteArray):AJ (Mt H L)=0:=by simp[Mt]
@[simp] theorem Ix_ (H L:List ByteArray):AJ (Co_ H L)=0:=by simp[Co_]
theorem Cm_ (H L:List ByteArray):(Mt H L).all (Cm prog 89)=true:=by
 unfold Mt;rw[List.all_append,VO,VO];rfl
def OQ (H L:List ByteArray) (b:Bool):List ByteArray:=if b then L else H
def MO (l:List ByteArray) (s:ByteArray):Int:=if s∈l then (LF l s:Int)else 0
def Fz (l:List ByteArray) (s:ByteArray):Int:=if s∈l then 0 else 4
theorem oS {n i:Nat} (h:i<n):(FX n)[i]? =some (.int .i64 (i:Int)):=by
 unfold FX;rw[bH0,List.getElem?_range h];rfl
theorem Cn_ {H L:List ByteArray} {b:Bool} {s:ByteArray} (h:s∈OQ H L b):∃j,Bc (Mt H L) (.agg [.bool b,.str s])=some j/\(Co_ H L)[j]? =some (.int .i64 (LF (OQ H L b) s)):=by
 unfold Mt Co_;rw[Oq]
 cases b with
 | false =>
  have h':s∈H:=h;rw[LZ h'];have hi:=Rt h';exact⟨_,rfl,by rw[bC0 (by rw[Qo];exact hi)];exact oS hi⟩
 | true =>
  have h':s∈L:=h;have hi:=Rt h';have h0:Bc (GD false H) (.agg [.bool true,.str s])=none:=Hl (b:=true);rw[h0,LZ h'];refine⟨_,rfl,?_⟩
  show (FX H.length++FX L.length)[LF L s+(GD false H).length]? =_
  rw[DG_,bE0 (by rw[Qo];omega),Qo,Nat.add_sub_cancel];exact oS hi
theorem Xc {H L:List ByteArray} {b:Bool} {s:ByteArray} (h:¬s∈OQ H L b):Bc (Mt H L) (.agg [.bool b,.str s])=none:=by
 unfold Mt;rw[Oq]
 cases b with
 | false =>
  have h':¬s∈H:=h;rw[IZ h',show Bc (GD true L) (.agg [.bool false,.str s])=none from Hl (b:=false)];rfl
 | true =>
  have h':¬s∈L:=h;rw[show Bc (GD false H) (.agg [.bool true,.str s])=none from Hl (b:=true),IZ h'];rfl
def tO : Ann:=⟨[],[]⟩
theorem IL (H L:List ByteArray):Af prog 42 [CB H L] (.bool true):=by
 refine Ae [] tO func42 call42 ntmps42 mxd (AB @tO.eq_1 results42) rfl (fun qJ B qX qQ=> ?_);clear qJ;simp only[Aq];exact Az Ab Ab Ab
def ZE : Ann:=⟨[],[]⟩
theorem Kc (H L:List ByteArray) (b:Bool) (s:ByteArray):Af prog 122 [CB H L,.agg [.bool b,.str s]] (.tup [.int .i64 (MO (OQ H L b) s),.int .i64 (Fz (OQ H L b) s)]):=by
 refine Ae [] ZE func122 call122 ntmps122 mxd (AB @ZE.eq_1 results122) rfl (fun qJ B qX qQ=> ?_);clear qJ;simp only[Aq];have e1:=IL H L;have qG:=Cm_ H L;unfold MO Fz
 by_cases h:s∈OQ H L b
 ·obtain⟨j,h1,h2⟩:=Cn_ h;rw[if_pos h,if_pos h];exact Az (AH e1) Ab (CL qG h1 h2)
 ·have h1:=Xc h;rw[if_neg h,if_neg h];exact Az (AH e1) Ab (AB qG h1)
def tM : Ann:=⟨[],[]⟩
theorem iK (H L:List ByteArray) (s:ByteArray):Af prog 75 [CB H L,.str s] (.tup [.int .i64 (MO H s),.int .i64 (Fz H s)]):=by
 refine Ae [] tM func75 call75 ntmps75 mxd (AB @tM.eq_1 results75) rfl (fun qJ B qX qQ=> ?_);clear qJ;simp only[Aq];have e1:=Kc H L false s;rw[show OQ H L false=H from rfl]at e1;exact Az (AH e1) Ab Ab
def tL : Ann:=⟨[],[]⟩
theorem Tf (H L:List ByteArray) (s:ByteArray):Af prog 76 [CB H L,.str s] (.tup [.int .i64 (MO L s),.int .i64 (Fz L s)]):=by
 refine Ae [] tL func76 call76 ntmps76 mxd (AB @tL.eq_1 results76) rfl (fun qJ B qX qQ=> ?_);clear qJ;simp only[Aq];have e1:=Kc H L true s;rw[show OQ H L true=L from rfl]at e1;exact Az (AH e1) Ab Ab
def Ew (H L:List ByteArray) (x:Nd):Sym:=if x.k=3 then (if x.s∈L then ⟨true,LF L x.s⟩else ⟨false,0⟩)else if x.k=2 then (if x.s∈H then ⟨false,LF H x.s⟩else ⟨false,0⟩)else ⟨false,0⟩
def Qu (H L:List ByteArray) (x:Nd):Int:=if x.k=3 then Fz L x.s else if x.k=2 then Fz H x.s else 2
def tN : Ann:=⟨[],[]⟩
theorem Qv (H L:List ByteArray) (x:Nd):Af prog 45 [CB H L,.agg (Bo x)] (.tup [.agg (Ch (Ew H L x)),.int .i64 (Qu H L x)]):=by
 refine Ae [] tN func45 call45 ntmps45 mxd (AB @tN.eq_1 results45) rfl (fun qJ B qX qQ=> ?_);clear qJ;simp only[Aq];have e1:=IL H L;have e2:=iK H L x.s;have e3:=Tf H L x.s;unfold Ew Qu
 by_cases k3:x.k=3
 ·by_cases h:x.s∈L
  ·simp only[MO,Fz,h,if_true]at e3;exact Az (CL e1 e2 e3) Ab (Lj @Bo.eq_1 @Ch.eq_1 k3 h @Fz.eq_1)
  ·simp only[MO,Fz,h,if_false]at e3;exact Az (CL e1 e2 e3) Ab (Lj @Bo.eq_1 @Ch.eq_1 k3 h @Fz.eq_1)
 ·have k3':(x.k==3)=false:=by simpa using k3
  by_cases k2:x.k=2
  ·by_cases h:x.s∈H
   ·simp only[MO,Fz,h,if_true]at e2;exact Az (CL e1 e2 e3) Ab (IH @Bo.eq_1 @Ch.eq_1 k3 k3' k2 h @Fz.eq_1)
   ·simp only[MO,Fz,h,if_false]at e2;exact Az (CL e1 e2 e3) Ab (IH @Bo.eq_1 @Ch.eq_1 k3 k3' k2 h @Fz.eq_1)
  ·have k2':(x.k==2)=false:=by simpa using k2
   exact Az (CL e1 e2 e3) Ab (Jm @Bo.eq_1 @Ch.eq_1 k3 k3' k2 k2')
def tP : Ann:=⟨[],[]⟩
theorem MP (H L:List ByteArray):Af prog 18 [CB H L] (Bz H):=by
 refine Ae [] tP func18 call18 ntmps18 mxd (AB @tP.eq_1 results18) rfl (fun qJ B qX qQ=> ?_);clear qJ;simp only[Aq];have e1:=IL H L;have e2:=Za H;exact Az (AB e1 e2) Ab Ab
theorem AB_ {l:List ByteArray} {s:ByteArray} (h:s∈l):El l s=(LF l s:Int):=by
 unfold El LF;rw[if_pos (cF0.2 ⟨s,h,by simp⟩)]
theorem AA_ {l:List ByteArray} {s:ByteArray} (h:¬s∈l):El l s= -1:=by
 unfold El;rw[if_neg (fun hh=>h (by obtain⟨x,hx,hs⟩:=cF0.1 hh;simp at hs;subst hs;exact hx))]
def ZD : Ann:=⟨[],[]⟩
theorem Jr (l:List ByteArray) (s:ByteArray):Af prog 147 [Bz l,.str s] (.tup [.int .i64 (MO l s),.int .i64 (Fz l s)]):=by
 refine Ae [] ZD func147 call147 ntmps147 mxd (AB @ZD.eq_1 results147) rfl (fun qJ B qX qQ=> ?_);clear qJ;simp only[Aq];have e1:=Ta l s;unfold MO Fz
 by_cases h:s∈l
 ·rw[AB_ h]at e1;rw[if_pos h,if_pos h];have qV:¬(LF l s:Int)<0:=by omega
  exact Az (AH e1) Ab (AH qV)
 ·rw[AA_ h]at e1;rw[if_neg h,if_neg h];exact Az (AH e1) Ab Ab
def tK : Ann:=⟨[],[]⟩
theorem MC (g:List Rul) (x:Nd) (hn:((AK 3 g).length+1)*16<=150000000000000):Af prog 94 [Au g,.agg (Bo x)] (.tup [.agg (Ch (Ew (AD g) (AG g) x)),.int .i64 (Qu (AD g) (AG g) x)]):=by
 refine Ae [] tK func94 call94 ntmps94 mxd (AB @tK.eq_1 results94) rfl (fun qJ B qX qQ=> ?_);clear qJ;simp only[Aq];have e1:=Fp g;have e2:=JW g hn;obtain⟨H,hH⟩:∃H,H=AD g:=⟨_,rfl⟩;obtain⟨L,hL⟩:∃L,L=AG g:=⟨_,rfl⟩;rw[<-hH]at e1;rw[<-hL]at e2;rw[<-hH,<-hL];have e3:=Jr H x.s;have e4:=Jr L x.s;unfold Ew Qu
 by_cases k3:x.k=3
 ·by_cases h:x.s∈L
  ·simp only[MO,Fz,h,if_true]at e4;exact Az (CL e1 e2 e4) Ab (Lj @Bo.eq_1 @Ch.eq_1 k3 h @Fz.eq_1)
  ·simp only[MO,Fz,h,if_false]at e4;exact Az (CL e1 e2 e4) Ab (Lj @Bo.eq_1 @Ch.eq_1 k3 h @Fz.eq_1)
 ·have k3':(x.k==3)=false:=by simpa using k3
  by_cases k2:x.k=2
  ·by_cases h:x.s∈H
   ·simp only[MO,Fz,h,if_true]at e3;exact Az (CL e1 e2 e3) Ab (IH @Bo.eq_1 @Ch.eq_1 k3 k3' k2 h @Fz.eq_1)
   ·simp only[MO,Fz,h,if_false]at e3;exact Az (CL e1 e2 e3) Ab (IH @Bo.eq_1 @Ch.eq_1 k3 k3' k2 h @Fz.eq_1)
  ·have k2':(x.k==2)=false:=by simpa using k2
   exact Az Ab Ab (Jm @Bo.eq_1 @Ch.eq_1 k3 k3' k2 k2')
def Hp_ (i j:Nat) (T:ByteArray):List Ent:=if T.size=0 then [⟨i,1,.row 191 2 32 [[.nilp,.nilsl]]⟩]else [⟨i,1,.row 191 2 32 [[.rx i 1 2 0 0,.osl j 1]]⟩,⟨j,1,.row 5 1 1 (AZ T)⟩]
theorem OF {i j:Nat} {T:ByteArray} (h:T.size=0):Hp_ i j T=[⟨i,1,.row 191 2 32 [[.nilp,.nilsl]]⟩]:=if_pos h
theorem KY {i j:Nat} {T:ByteArray} (h:T.size≠0):Hp_ i j T=[⟨i,1,.row 191 2 32 [[.rx i 1 2 0 0,.osl j 1]]⟩,⟨j,1,.row 5 1 1 (AZ T)⟩]:=if_neg h
theorem HN_ {T:ByteArray} (h:T.size=0):T=⟨#[]⟩:=by
 obtain⟨a⟩:=T;have:a= #[]:=Array.eq_empty_of_size_eq_zero h;rw[this]
theorem By_ (x:ByteArray):(⟨#[]⟩:ByteArray)++x=x:=by
 apply Iw
 simp[ByteArray.data_append]
end Go.Proofs.Wy
end
