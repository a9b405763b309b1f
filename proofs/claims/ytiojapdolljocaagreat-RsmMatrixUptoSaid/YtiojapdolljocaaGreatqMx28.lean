/- Parts of a proof, laid together: BN4, SY0, WB14. -/
import Derived.Test.YtiojapdolljocaaGreatqMx15
import Derived.Test.YtiojapdolljocaaGreatqMx25
import Derived.Test.YtiojapdolljocaaGreatqMx27
set_option linter.unusedSimpArgs false
set_option maxHeartbeats 8000000
set_option linter.unusedVariables false
set_option linter.unusedSectionVars false
section
namespace Go.Proofs.Wy
open Go Go.Dm Tryz
variable [DMode]
attribute [local irreducible] DW Bs Bt
set_option maxRecDepth 100000
def EJ (g:List Rul):Prop:=∀r∈g,r.b.length<=1572864
theorem DN {k:Int}:∀{g:List Rul},EJ g->(AI k g).length<=g.length*1572864
 | [],_=>by simp[AI]
 | r::g,h=>by
  have h1:=h r aI0;have h2:=DN (k:=k) (g:=g) fun x hx=>h x (aG0 _ hx)
  have h3:=iG k r.b;have h4:AI k (r::g)=Cr k r.b++AI k g:=by simp[AI]
  rw[h4,aC0,List.length_cons];omega
theorem Vh (l:List Nd):FS l<=l.length:=by rw[Mo];exact cI0 _ _
theorem Vi : ∀{g:List Rul},EJ g->CJ g<=g.length*1572864
 | [],_=>by simp[CJ]
 | r::g,h=>by
  have h1:=h r aI0;have h2:=Vi (g:=g) fun x hx=>h x (aG0 _ hx)
  have h3:=Vh r.b;have h4:CJ (r::g)=FS r.b+CJ g:=by simp[CJ]
  rw[h4,List.length_cons];omega
theorem TB {g:List Rul} {i:Nat} {r:Rul} (h:g[i]? =some r):CJ (g.take (i+1))=CJ (g.take i)+FS r.b:=by
 unfold CJ;rw[bJ0,h];simp
theorem Mp (g:List Rul) (i:Nat):CJ (g.take i)<=CJ g:=by
 have h:CJ g=CJ (g.take i)+CJ (g.drop i):=by
  unfold CJ;rw[<-List.sum_append,<-bD0,List.take_append_drop]
 omega
theorem Vn (s:ByteArray):Ae prog 116 [.str s,.int .u8 85] (.bool (Dn 2 s)):=Hq 2 85 (.inl ⟨rfl,rfl⟩) s
def uI : Ann:=⟨[],[]⟩
theorem KT (g:List Rul) (hs:EJ g):Ae prog 73 [Ar g] (.bool (EU g)):=by
 refine Ac [] uI func73 call73 ntmps73 mxd (Au @uI.eq_1 results73) rfl (fun qJ B qX qQ=> ?_);have fD:=JJ qJ.1;clear qJ;simp only[Am];obtain⟨R,hR⟩:∃R,R=EU g:=⟨_,rfl⟩;rw[<-hR]
 (refine AG Ab Ab Ab ?_;intros;refine Ah ?_)
 refine Ai (X:={i:Nat//i<=g.length/\R=EU (g.drop i)}) (fun i=>⟨[(0,Ar g),(3,.int .i64 i.1)],[]⟩) (fun i=>g.length-i.1) ⟨0,by simp[hR]⟩ (Sub.lit (by simp)) ?_;clear hR;rintro⟨i,hi,hR⟩;simp only
 by_cases qV:i<g.length
 ·obtain⟨r,hr,qG,gR⟩:=Ao qV;rw[aS0 qV,qG]at hR;unfold EU at hR;rw[dA0]at hR;have e1:=Vn r.h;have e2:=EA r.b (hs r gR);have w2:IntKind.i64.wrap ((i:Int)+1)=(i:Int)+1:=wq;cases h1:Dn 2 r.h
  ·rw[h1]at e1 hR;simp only[cM0]at hR;subst hR;exact Av (AD e1) Ab (GV @BD.eq_1 qV hr qG)
  ·cases h2:Dd r.b
   ·rw[h2]at e2 hR;rw[h1]at e1 hR;simp only[cM0,dX0]at hR;subst hR;exact Av (Au e1 e2) Ab (GV @BD.eq_1 qV hr qG)
   ·rw[h2]at e2 hR;rw[h1]at e1 hR;simp only[cC0]at hR
    (refine AG (Au e1 e2) Ab (Jh @BD.eq_1 qV hr qG w2) ?_;intros;refine Ah ?_)
    refine Aj.mk ⟨i+1,by omega,hR⟩ (Sub.lit (by simp)) (by simp;omega)
    skip
 ·have qZ:i=g.length:=by omega
  subst qZ;rw[bT0]at hR;have wX:R=true:=hR;subst wX;exact Av Ab Ab Ab
def uH : Ann:=⟨[],[]⟩
theorem UR (g:List Rul) (hs:EJ g) (hl:g.length<=64):Ae prog 75 [Ar g] (.int .i64 (CJ g)):=by
 refine Ac [] uH func75 call75 ntmps75 mxd (Au @uH.eq_1 results75) rfl (fun qJ B qX qQ=> ?_);clear qJ;simp only[Am];have ho:=Vi hs
 (refine AG Ab Ab Ab ?_;intros;refine Ah ?_)
 refine Ai (X:={i:Nat//i<=g.length}) (fun i=>⟨[(0,Ar g),(3,.int .i64 (CJ (g.take i.1))),(4,.int .i64 i.1)],[]⟩) (fun i=>g.length-i.1) ⟨0,by omega⟩ (Sub.lit (by simp[CJ])) ?_;rintro⟨i,hi⟩;simp only
 by_cases qV:i<g.length
 ·obtain⟨r,hr,qG,gR⟩:=Ao qV;have e1:=Me r.b;have h1:=TB hr;have h2:=Mp g (i+1);have h3:=Vh r.b;have w1:IntKind.i64.wrap ((CJ (g.take i):Int)+(FS r.b:Int))=(CJ (g.take (i+1)):Int):=by rw[wq];omega
  have w2:IntKind.i64.wrap ((i:Int)+1)=(i:Int)+1:=wq
  (refine AG (AD e1) Ab (GN @BD.eq_1 qV hr qG w1 w2) ?_;intros;refine Ah ?_)
  refine Aj.mk ⟨i+1,by omega⟩ (Sub.lit (by simp)) (by simp;omega)
  skip
 ·have qZ:i=g.length:=by omega
  subst qZ;rw[aW0];exact Av Ab Ab Ab
theorem iI {gt:GT} {i:Nat} {p:ByteArray×RT} (h:gt[i]? =some p):(Be gt)[i]? =some ⟨p.1,flat p.2⟩:=by unfold Be;rw[bK0,h];rfl
theorem Ea (gt:GT):(Be gt).length=gt.length:=by unfold Be;rw[aN0]
theorem Ju {gt:GT} (h:EJ (Be gt)) {p:ByteArray×RT} (hp:p∈gt):(flat p.2).length<=1572864:=h ⟨p.1,flat p.2⟩ (aT0.2 ⟨p,hp,rfl⟩)
def uG : Ann:=⟨[],[]⟩
theorem SC (gt:GT) (hk:OkG gt) (hs:EJ (Be gt)) (hl:gt.length<=64):Ae prog 76 [Ar (Be gt)] (.bool (FL gt)):=by
 refine Ac [] uG func76 call76 ntmps76 mxd (Au @uG.eq_1 results76) rfl (fun qJ B qX qQ=> ?_);clear qJ;simp only[Am];have zO:=Ea gt;have yC:=fun i p=>iI (gt:=gt) (i:=i) (p:=p)
 have kZ:=fun p=>Ju hs (p:=p)
 obtain⟨g,hg⟩:∃g,g=Be gt:=⟨_,rfl⟩;rw[<-hg]at zO yC |-;obtain⟨R,hR⟩:∃R,R=FL gt:=⟨_,rfl⟩;rw[<-hR];clear hs hg
 (refine AG Ab Ab Ab ?_;intros;refine Ah ?_)
 refine Ai (X:={i:Nat//i<=gt.length/\R=FL (gt.drop i)}) (fun i=>⟨[(0,Ar g),(3,.int .i64 i.1)],[]⟩) (fun i=>gt.length-i.1) ⟨0,by simp[hR]⟩ (Sub.lit (by simp)) ?_;clear hR;rintro⟨i,hi,hR⟩;simp only
 by_cases qV:i<gt.length
 ·obtain⟨p,hp,yE,gN⟩:=Ao qV;rw[aS0 qV,yE]at hR;unfold FL at hR;rw[List.any_cons]at hR;have hr:=yC i p hp;have qL:i<g.length:=by omega
  have qG:g[i]'qL=⟨p.1,flat p.2⟩:=(aB0.1 hr).2;have e1:=OU p.2 (hk p gN).2 (kZ p gN);have w2:IntKind.i64.wrap ((i:Int)+1)=(i:Int)+1:=wq;obtain⟨b,hb⟩:∃b,b=flat p.2:=⟨_,rfl⟩;rw[<-hb]at hr qG e1
  by_cases hd:16<Jk p.2
  ·have bS:(16:Int)<(Jk p.2:Int):=by omega
   rw[decide_eq_true hd,Bool.true_or]at hR;subst hR;exact Av (AD e1) Ab (Iw @BD.eq_1 qV qL hr qG hd bS)
  ·have bS:¬(16:Int)<(Jk p.2:Int):=by omega
   rw[decide_eq_false hd,eE0]at hR
   (refine AG (AD e1) Ab (KQ @BD.eq_1 qV qL hr qG hd bS w2) ?_;intros;refine Ah ?_)
   refine Aj.mk ⟨i+1,by omega,hR⟩ (Sub.lit (by simp)) (by simp;omega)
   skip
 ·have qZ:i=gt.length:=by omega
  subst qZ;rw[bT0]at hR;have wX:R=false:=hR;subst wX;exact Av Ab Ab (AD zO)
theorem aQ {k:Int} {s:ByteArray} (h:Dn k s=true):s.size<=16:=by
 unfold Dn BQ at h
 split at h<;>simp only[aJ0,decide_eq_true_eq]at h<;>exact h.1.1.2
theorem Ql {gt:GT} {p:ByteArray×RT} (hk:OkG gt) (hs:EJ (Be gt)) (hp:p∈gt):(IX p).size<=37748766:=by
 have h1:=aQ (hk p hp).1;have h2:=(HI p.2 (hk p hp).2).2;have h3:=Ju hs hp;unfold IX;simp only[aQ0];have z3:(⟨#[32,61,32]⟩:ByteArray).size=3:=rfl;have z4:(⟨#[32,59,10]⟩:ByteArray).size=3:=rfl;omega
theorem Ln {gt:GT} (hk:OkG gt) (hs:EJ (Be gt)):∀i,i<=gt.length->(BY (gt.take i)).size<=i*37748766
 | 0,_=>by simp[BY];decide
 | i+1,h=>by
  have hx:gt[i]? =some (gt[i]'(by omega)):=aE0 (by omega);have ih:=Ln hk hs i (by omega);have h1:=Ql hk hs (bW0 (show i<gt.length by omega));rw[Gg hx,aQ0];omega
def uF : Ann:=⟨[],[]⟩
theorem SA (gt:GT) (hk:OkG gt) (hs:EJ (Be gt)) (hl:gt.length<=64):Ae prog 77 [Ar (Be gt)] (.str (BY gt)):=by
 refine Ac [] uF func77 call77 ntmps77 mxd (Au @uF.eq_1 results77) rfl (fun qJ B qX qQ=> ?_);clear qJ;simp only[Am];have zO:=Ea gt;have yC:=fun i p=>iI (gt:=gt) (i:=i) (p:=p)
 have kZ:=fun p=>Ju hs (p:=p)
 have vD:=Ln hk hs;obtain⟨g,hg⟩:∃g,g=Be gt:=⟨_,rfl⟩;rw[<-hg]at zO yC |-;clear hs hg;have z0:(⟨#[]⟩:ByteArray).size=0:=rfl;have z3:(⟨#[32,61,32]⟩:ByteArray).size=3:=rfl;have z4:(⟨#[32,59,10]⟩:ByteArray).size=3:=rfl;have m3:3<=maxLen:=by decide
 have mbig:3000000000<=maxLen:=by decide
 (refine AG Ab Ab (AD z0) ?_;intros;refine Ah ?_)
 refine Ai (X:={i:Nat//i<=gt.length}) (fun i=>⟨[(0,Ar g),(3,.str (BY (gt.take i.1))),(4,.int .i64 i.1)],[]⟩) (fun i=>gt.length-i.1) ⟨0,by omega⟩ (Sub.lit (by simp[BY])) ?_;rintro⟨i,hi⟩;simp only
 by_cases qV:i<gt.length
 ·obtain⟨p,hp,yE,gN⟩:=Ao qV;have hr:=yC i p hp;have qL:i<g.length:=by omega
  have qG:g[i]'qL=⟨p.1,flat p.2⟩:=(aB0.1 hr).2;have e1:=Oo _ p.2 (flat p.2) 0 rfl (At.top (hk p gN).2) (kZ p gN);have w2:IntKind.i64.wrap ((i:Int)+1)=(i:Int)+1:=wq;have h1:=vD (i+1) (by omega);have wK:=Gg hp;rw[wK]at h1;unfold IX at h1 wK;simp only[aQ0,z3,z4]at h1;obtain⟨b,hb⟩:∃b,b=flat p.2:=⟨_,rfl⟩;rw[<-hb]at hr qG e1;obtain⟨s,hs⟩:∃s,s=CR p.2:=⟨_,rfl⟩;rw[<-hs]at e1 h1 wK;obtain⟨a,ha⟩:∃a,a=BY (gt.take i):=⟨_,rfl⟩
  rw[<-ha]at wK h1 |-;have y1:a.size+p.1.size<=maxLen:=by omega
  have y2:a.size+p.1.size+3<=maxLen:=by omega
  have y3:a.size+p.1.size+3+s.size<=maxLen:=by omega
  have y4:a.size+p.1.size+3+s.size+3<=maxLen:=by omega
  have hq:a++p.1++⟨#[32,61,32]⟩++s++⟨#[32,59,10]⟩=BY (gt.take (i+1)):=by rw[wK];simp only[ByteArray.append_assoc]
  (refine AG (AD e1) Ab (GZ_ @BD.eq_1 qV qL hr qG z3 z4 m3 y1 y2 y3 y4 @aQ0 w2) ?_;intros;refine Ah ?_)
  refine Aj.mk ⟨i+1,by omega⟩ (Sub.lit (by simp[hq])) (by simp;omega)
  skip
 ·have qZ:i=gt.length:=by omega
  subst qZ;rw[aW0];exact Av Ab Ab (AD zO)
def BW : Ann:=⟨[],[]⟩
theorem Qy (g:List Rul) (h:g.length<1\/64<g.length):Ae prog 28 [Ar g] (.int .i64 180):=by
 refine Ac [] BW func28 call28 ntmps28 mxd (Au @BW.eq_1 results28) rfl (fun qJ B qX qQ=> ?_);clear qJ;simp only[Am]
 rcases h with h | h
 ·have d1:(g.length:Int)<1:=by omega
  have h0:g=[]:=bM0 (by omega);subst h0;exact Av Ab Ab Ab
 ·have d1:¬(g.length:Int)<1:=by omega
  have d2:(64:Int)<(g.length:Int):=by omega
  have d3:¬g.length<1:=by omega
  exact Av Ab Ab (GV d1 d2 h d3)
theorem UY (g:List Rul) (h1:1<=g.length) (h2:g.length<=64) (hs:EJ g) (ht:EU g=false):Ae prog 28 [Ar g] (.int .i64 170):=by
 refine Ac [] BW func28 call28 ntmps28 mxd (Au @BW.eq_1 results28) rfl (fun qJ B qX qQ=> ?_);clear qJ;simp only[Am];have d1:¬(g.length:Int)<1:=by omega
 have d2:¬(64:Int)<(g.length:Int):=by omega
 have d3:¬g.length<1:=by omega
 have d4:¬64<g.length:=by omega
 have e1:=KT g hs;rw[ht]at e1;exact Av (AD e1) Ab (GV d1 d2 d3 d4)
theorem Xd (gt:GT) (h1:1<=gt.length) (h2:gt.length<=64) (hk:OkG gt) (hs:EJ (Be gt)):Ae prog 28 [Ar (Be gt)] (.int .i64 (MN gt)):=by
 refine Ac [] BW func28 call28 ntmps28 mxd (Au @BW.eq_1 results28) rfl (fun qJ B qX qQ=> ?_);clear qJ;simp only[Am];have zO:=Ea gt;have e1:=KT (Be gt) hs;rw[XW hk]at e1;have n2:=DN (k:=2) hs;have n3:=DN (k:=3) hs;have e2:=DK (Be gt);have e3:=NB (Be gt) (by omega);have e4:=Gk (Be gt) (by omega);have e5:=UR (Be gt) hs (by omega);have e6:=SC gt hk hs h2;have e7:=SA gt hk hs h2;have b1:=IL (Be gt)
 have b2:(CP (Be gt)).length<=110000000:=by
  have:=HH (AI 2 (Be gt));have:=cI0 (fun s=> !decide (s∈Ax (Be gt))) (EP (AI 2 (Be gt)));unfold CP;omega
 obtain⟨g,hg⟩:∃g,g=Be gt:=⟨_,rfl⟩;obtain⟨C,hC⟩:∃C,C=MN gt:=⟨_,rfl⟩;rw[<-hC];unfold MN at hC;rw[<-hg]at zO e1 e2 e3 e4 e5 e6 e7 b1 b2 hC |-;obtain⟨H,hH⟩:∃H,H=Ax g:=⟨_,rfl⟩;obtain⟨m,hm⟩:∃m,m=(CP g).length:=⟨_,rfl⟩;obtain⟨L,hL⟩:∃L,L=Ay g:=⟨_,rfl⟩;obtain⟨o,ho⟩:∃o,o=CJ g:=⟨_,rfl⟩;obtain⟨T,hT⟩:∃T,T=BY gt:=⟨_,rfl⟩;rw[<-hH]at e2 b1 hC;rw[<-hm]at e3 b2 hC;rw[<-hL]at e4 hC;rw[<-ho]at e5 hC;rw[<-hT]at e7 hC;clear hH hm hL ho hT n2 n3 hg
 have d1:¬(g.length:Int)<1:=by omega
 have d2:¬(64:Int)<(g.length:Int):=by omega
 have d3:¬g.length<1:=by omega
 have d4:¬64<g.length:=by omega
 have w1:IntKind.i64.wrap ((H.length:Int)+(m:Int))=((H.length+m:Nat):Int):=by rw[wq];omega
 by_cases c1:16<H.length+m
 ·have q1:(16:Int)<((H.length+m:Nat):Int):=by omega
  rw[if_pos c1]at hC;subst hC
  (repeat (first | refine AJ fun K hK=> ?_ | (refine BV BW mxd (by kernel_rfl) ?_;simp[BW,qX,d1,d2,d3,d4,w1,c1,q1, -Int.natCast_add];try simp (disch:=omega) only[Al]) | refine Aq ?_ | (refine Bi ?_ ?_ ?_;(· (simp[qX,d1,d2,d3,d4,w1,c1,q1, -Int.natCast_add];done));(try (rotate_left;(· (intro hc;(try simp[qX,d1,d2,d3,d4,w1,c1,q1, -Int.natCast_add]at hc);done))))) | (refine AN ?_;simp[results28,qX,d1,d2,d3,d4,w1,c1,q1, -Int.natCast_add]) | ((first | refine AB ?_ | refine AA ?_);simp[qX,d1,d2,d3,d4,w1,c1,q1, -Int.natCast_add]) | (intro hc;(try simp[qX,d1,d2,d3,d4,w1,c1,q1, -Int.natCast_add]at hc);(try (exfalso;omega))) | ((first | refine Ag (e1) ?_ | refine Ag (e2) ?_ | refine Ag (e3) ?_ | refine Ag (e4) ?_ | refine Ag (e5) ?_ | refine Ag (e6) ?_ | refine Ag (e7) ?_ | (refine Af (e1) ?_ ?_;(· (simp;done))) | (refine Af (e2) ?_ ?_;(· (simp;done))) | (refine Af (e3) ?_ ?_;(· (simp;done))) | (refine Af (e4) ?_ ?_;(· (simp;done))) | (refine Af (e5) ?_ ?_;(· (simp;done))) | (refine Af (e6) ?_ ?_;(· (simp;done))) | (refine Af (e7) ?_ ?_;(· (simp;done))));try simp[qX,d1,d2,d3,d4,w1,c1,q1, -Int.natCast_add]) | (refine⟨?_,?_⟩; · omega) | omega | apply_assumption -exfalso -symm | (exfalso;omega)))
 rw[if_neg c1]at hC;have q1:¬(16:Int)<((H.length+m:Nat):Int):=by omega
 by_cases c2:16<L.length
 ·have q2:(16:Int)<(L.length:Int):=by omega
  rw[if_pos c2]at hC;subst hC
  (repeat (first | refine AJ fun K hK=> ?_ | (refine BV BW mxd (by kernel_rfl) ?_;simp[BW,qX,d1,d2,d3,d4,w1,c1,q1,c2,q2, -Int.natCast_add];try simp (disch:=omega) only[Al]) | refine Aq ?_ | (refine Bi ?_ ?_ ?_;(· (simp[qX,d1,d2,d3,d4,w1,c1,q1,c2,q2, -Int.natCast_add];done));(try (rotate_left;(· (intro hc;(try simp[qX,d1,d2,d3,d4,w1,c1,q1,c2,q2, -Int.natCast_add]at hc);done))))) | (refine AN ?_;simp[results28,qX,d1,d2,d3,d4,w1,c1,q1,c2,q2, -Int.natCast_add]) | ((first | refine AB ?_ | refine AA ?_);simp[qX,d1,d2,d3,d4,w1,c1,q1,c2,q2, -Int.natCast_add]) | (intro hc;(try simp[qX,d1,d2,d3,d4,w1,c1,q1,c2,q2, -Int.natCast_add]at hc);(try (exfalso;omega))) | ((first | refine Ag (e1) ?_ | refine Ag (e2) ?_ | refine Ag (e3) ?_ | refine Ag (e4) ?_ | refine Ag (e5) ?_ | refine Ag (e6) ?_ | refine Ag (e7) ?_ | (refine Af (e1) ?_ ?_;(· (simp;done))) | (refine Af (e2) ?_ ?_;(· (simp;done))) | (refine Af (e3) ?_ ?_;(· (simp;done))) | (refine Af (e4) ?_ ?_;(· (simp;done))) | (refine Af (e5) ?_ ?_;(· (simp;done))) | (refine Af (e6) ?_ ?_;(· (simp;done))) | (refine Af (e7) ?_ ?_;(· (simp;done))));try simp[qX,d1,d2,d3,d4,w1,c1,q1,c2,q2, -Int.natCast_add]) | (refine⟨?_,?_⟩; · omega) | omega | apply_assumption -exfalso -symm | (exfalso;omega)))
 rw[if_neg c2]at hC;have q2:¬(16:Int)<(L.length:Int):=by omega
 by_cases c3:64<o
 ·have q3:(64:Int)<(o:Int):=by omega
  rw[if_pos c3]at hC;subst hC
  (repeat (first | refine AJ fun K hK=> ?_ | (refine BV BW mxd (by kernel_rfl) ?_;simp[BW,qX,d1,d2,d3,d4,w1,c1,q1,c2,q2,c3,q3, -Int.natCast_add];try simp (disch:=omega) only[Al]) | refine Aq ?_ | (refine Bi ?_ ?_ ?_;(· (simp[qX,d1,d2,d3,d4,w1,c1,q1,c2,q2,c3,q3, -Int.natCast_add];done));(try (rotate_left;(· (intro hc;(try simp[qX,d1,d2,d3,d4,w1,c1,q1,c2,q2,c3,q3, -Int.natCast_add]at hc);done))))) | (refine AN ?_;simp[results28,qX,d1,d2,d3,d4,w1,c1,q1,c2,q2,c3,q3, -Int.natCast_add]) | ((first | refine AB ?_ | refine AA ?_);simp[qX,d1,d2,d3,d4,w1,c1,q1,c2,q2,c3,q3, -Int.natCast_add]) | (intro hc;(try simp[qX,d1,d2,d3,d4,w1,c1,q1,c2,q2,c3,q3, -Int.natCast_add]at hc);(try (exfalso;omega))) | ((first | refine Ag (e1) ?_ | refine Ag (e2) ?_ | refine Ag (e3) ?_ | refine Ag (e4) ?_ | refine Ag (e5) ?_ | refine Ag (e6) ?_ | refine Ag (e7) ?_ | (refine Af (e1) ?_ ?_;(· (simp;done))) | (refine Af (e2) ?_ ?_;(· (simp;done))) | (refine Af (e3) ?_ ?_;(· (simp;done))) | (refine Af (e4) ?_ ?_;(· (simp;done))) | (refine Af (e5) ?_ ?_;(· (simp;done))) | (refine Af (e6) ?_ ?_;(· (simp;done))) | (refine Af (e7) ?_ ?_;(· (simp;done))));try simp[qX,d1,d2,d3,d4,w1,c1,q1,c2,q2,c3,q3, -Int.natCast_add]) | (refine⟨?_,?_⟩; · omega) | omega | apply_assumption -exfalso -symm | (exfalso;omega)))
 rw[if_neg c3]at hC;have q3:¬(64:Int)<(o:Int):=by omega
 cases c4:FL gt
 rotate_left
 ·rw[if_pos c4]at hC;rw[c4]at e6;subst hC
  (repeat (first | refine AJ fun K hK=> ?_ | (refine BV BW mxd (by kernel_rfl) ?_;simp[BW,qX,d1,d2,d3,d4,w1,c1,q1,c2,q2,c3,q3, -Int.natCast_add];try simp (disch:=omega) only[Al]) | refine Aq ?_ | (refine Bi ?_ ?_ ?_;(· (simp[qX,d1,d2,d3,d4,w1,c1,q1,c2,q2,c3,q3, -Int.natCast_add];done));(try (rotate_left;(· (intro hc;(try simp[qX,d1,d2,d3,d4,w1,c1,q1,c2,q2,c3,q3, -Int.natCast_add]at hc);done))))) | (refine AN ?_;simp[results28,qX,d1,d2,d3,d4,w1,c1,q1,c2,q2,c3,q3, -Int.natCast_add]) | ((first | refine AB ?_ | refine AA ?_);simp[qX,d1,d2,d3,d4,w1,c1,q1,c2,q2,c3,q3, -Int.natCast_add]) | (intro hc;(try simp[qX,d1,d2,d3,d4,w1,c1,q1,c2,q2,c3,q3, -Int.natCast_add]at hc);(try (exfalso;omega))) | ((first | refine Ag (e1) ?_ | refine Ag (e2) ?_ | refine Ag (e3) ?_ | refine Ag (e4) ?_ | refine Ag (e5) ?_ | refine Ag (e6) ?_ | refine Ag (e7) ?_ | (refine Af (e1) ?_ ?_;(· (simp;done))) | (refine Af (e2) ?_ ?_;(· (simp;done))) | (refine Af (e3) ?_ ?_;(· (simp;done))) | (refine Af (e4) ?_ ?_;(· (simp;done))) | (refine Af (e5) ?_ ?_;(· (simp;done))) | (refine Af (e6) ?_ ?_;(· (simp;done))) | (refine Af (e7) ?_ ?_;(· (simp;done))));try simp[qX,d1,d2,d3,d4,w1,c1,q1,c2,q2,c3,q3, -Int.natCast_add]) | (refine⟨?_,?_⟩; · omega) | omega | apply_assumption -exfalso -symm | (exfalso;omega)))
 rw[if_neg (by rw[c4];simp)]at hC;rw[c4]at e6
 by_cases c5:0<m
 ·have q5:(0:Int)<(m:Int):=by omega
  rw[if_pos c5]at hC;subst hC
  (repeat (first | refine AJ fun K hK=> ?_ | (refine BV BW mxd (by kernel_rfl) ?_;simp[BW,qX,d1,d2,d3,d4,w1,c1,q1,c2,q2,c3,q3,c5,q5, -Int.natCast_add];try simp (disch:=omega) only[Al]) | refine Aq ?_ | (refine Bi ?_ ?_ ?_;(· (simp[qX,d1,d2,d3,d4,w1,c1,q1,c2,q2,c3,q3,c5,q5, -Int.natCast_add];done));(try (rotate_left;(· (intro hc;(try simp[qX,d1,d2,d3,d4,w1,c1,q1,c2,q2,c3,q3,c5,q5, -Int.natCast_add]at hc);done))))) | (refine AN ?_;simp[results28,qX,d1,d2,d3,d4,w1,c1,q1,c2,q2,c3,q3,c5,q5, -Int.natCast_add]) | ((first | refine AB ?_ | refine AA ?_);simp[qX,d1,d2,d3,d4,w1,c1,q1,c2,q2,c3,q3,c5,q5, -Int.natCast_add]) | (intro hc;(try simp[qX,d1,d2,d3,d4,w1,c1,q1,c2,q2,c3,q3,c5,q5, -Int.natCast_add]at hc);(try (exfalso;omega))) | ((first | refine Ag (e1) ?_ | refine Ag (e2) ?_ | refine Ag (e3) ?_ | refine Ag (e4) ?_ | refine Ag (e5) ?_ | refine Ag (e6) ?_ | refine Ag (e7) ?_ | (refine Af (e1) ?_ ?_;(· (simp;done))) | (refine Af (e2) ?_ ?_;(· (simp;done))) | (refine Af (e3) ?_ ?_;(· (simp;done))) | (refine Af (e4) ?_ ?_;(· (simp;done))) | (refine Af (e5) ?_ ?_;(· (simp;done))) | (refine Af (e6) ?_ ?_;(· (simp;done))) | (refine Af (e7) ?_ ?_;(· (simp;done))));try simp[qX,d1,d2,d3,d4,w1,c1,q1,c2,q2,c3,q3,c5,q5, -Int.natCast_add]) | (refine⟨?_,?_⟩; · omega) | omega | apply_assumption -exfalso -symm | (exfalso;omega)))
 rw[if_neg c5]at hC;have q5:¬(0:Int)<(m:Int):=by omega
 by_cases c6:2048<T.size
 ·have q6:(2048:Int)<(T.size:Int):=by omega
  rw[if_pos c6]at hC;subst hC
  (repeat (first | refine AJ fun K hK=> ?_ | (refine BV BW mxd (by kernel_rfl) ?_;simp[BW,qX,d1,d2,d3,d4,w1,c1,q1,c2,q2,c3,q3,c5,q5,c6,q6, -Int.natCast_add];try simp (disch:=omega) only[Al]) | refine Aq ?_ | (refine Bi ?_ ?_ ?_;(· (simp[qX,d1,d2,d3,d4,w1,c1,q1,c2,q2,c3,q3,c5,q5,c6,q6, -Int.natCast_add];done));(try (rotate_left;(· (intro hc;(try simp[qX,d1,d2,d3,d4,w1,c1,q1,c2,q2,c3,q3,c5,q5,c6,q6, -Int.natCast_add]at hc);done))))) | (refine AN ?_;simp[results28,qX,d1,d2,d3,d4,w1,c1,q1,c2,q2,c3,q3,c5,q5,c6,q6, -Int.natCast_add]) | ((first | refine AB ?_ | refine AA ?_);simp[qX,d1,d2,d3,d4,w1,c1,q1,c2,q2,c3,q3,c5,q5,c6,q6, -Int.natCast_add]) | (intro hc;(try simp[qX,d1,d2,d3,d4,w1,c1,q1,c2,q2,c3,q3,c5,q5,c6,q6, -Int.natCast_add]at hc);(try (exfalso;omega))) | ((first | refine Ag (e1) ?_ | refine Ag (e2) ?_ | refine Ag (e3) ?_ | refine Ag (e4) ?_ | refine Ag (e5) ?_ | refine Ag (e6) ?_ | refine Ag (e7) ?_ | (refine Af (e1) ?_ ?_;(· (simp;done))) | (refine Af (e2) ?_ ?_;(· (simp;done))) | (refine Af (e3) ?_ ?_;(· (simp;done))) | (refine Af (e4) ?_ ?_;(· (simp;done))) | (refine Af (e5) ?_ ?_;(· (simp;done))) | (refine Af (e6) ?_ ?_;(· (simp;done))) | (refine Af (e7) ?_ ?_;(· (simp;done))));try simp[qX,d1,d2,d3,d4,w1,c1,q1,c2,q2,c3,q3,c5,q5,c6,q6, -Int.natCast_add]) | (refine⟨?_,?_⟩; · omega) | omega | apply_assumption -exfalso -symm | (exfalso;omega)))
 rw[if_neg c6]at hC;have q6:¬(2048:Int)<(T.size:Int):=by omega
 subst hC
 (repeat (first | refine AJ fun K hK=> ?_ | (refine BV BW mxd (by kernel_rfl) ?_;simp[BW,qX,d1,d2,d3,d4,w1,c1,q1,c2,q2,c3,q3,c5,q5,c6,q6, -Int.natCast_add];try simp (disch:=omega) only[Al]) | refine Aq ?_ | (refine Bi ?_ ?_ ?_;(· (simp[qX,d1,d2,d3,d4,w1,c1,q1,c2,q2,c3,q3,c5,q5,c6,q6, -Int.natCast_add];done));(try (rotate_left;(· (intro hc;(try simp[qX,d1,d2,d3,d4,w1,c1,q1,c2,q2,c3,q3,c5,q5,c6,q6, -Int.natCast_add]at hc);done))))) | (refine AN ?_;simp[results28,qX,d1,d2,d3,d4,w1,c1,q1,c2,q2,c3,q3,c5,q5,c6,q6, -Int.natCast_add]) | ((first | refine AB ?_ | refine AA ?_);simp[qX,d1,d2,d3,d4,w1,c1,q1,c2,q2,c3,q3,c5,q5,c6,q6, -Int.natCast_add]) | (intro hc;(try simp[qX,d1,d2,d3,d4,w1,c1,q1,c2,q2,c3,q3,c5,q5,c6,q6, -Int.natCast_add]at hc);(try (exfalso;omega))) | ((first | refine Ag (e1) ?_ | refine Ag (e2) ?_ | refine Ag (e3) ?_ | refine Ag (e4) ?_ | refine Ag (e5) ?_ | refine Ag (e6) ?_ | refine Ag (e7) ?_ | (refine Af (e1) ?_ ?_;(· (simp;done))) | (refine Af (e2) ?_ ?_;(· (simp;done))) | (refine Af (e3) ?_ ?_;(· (simp;done))) | (refine Af (e4) ?_ ?_;(· (simp;done))) | (refine Af (e5) ?_ ?_;(· (simp;done))) | (refine Af (e6) ?_ ?_;(· (simp;done))) | (refine Af (e7) ?_ ?_;(· (simp;done))));try simp[qX,d1,d2,d3,d4,w1,c1,q1,c2,q2,c3,q3,c5,q5,c6,q6, -Int.natCast_add]) | (refine⟨?_,?_⟩; · omega) | omega | apply_assumption -exfalso -symm | (exfalso;omega)))
def Gw (b:Bool) (l:List ByteArray):List DVal:=l.map fun s=> .agg [.bool b,.str s]
def FP (n:Nat):List DVal:=(List.range n).map fun i:Nat=>DVal.int .i64 (i:Int)
theorem HY (b:Bool) (s:ByteArray) (l:List ByteArray):Gw b (s::l)= .agg [.bool b,.str s]::Gw b l:=rfl
theorem Dk_ (b:Bool) (l:List ByteArray):(Gw b l).length=l.length:=by simp[Gw]
theorem TK (b:Bool) (l:List ByteArray) (s:ByteArray):Gw b (l++[s])=Gw b l++[.agg [.bool b,.str s]]:=by simp[Gw]
theorem Tb (n:Nat):FP (n+1)=FP n++[.int .i64 (n:Int)]:=by simp[FP,List.range_succ]
theorem PV (n:Nat):(FP n).length=n:=by simp[FP]
@[simp] theorem HS_ (b:Bool) (l:List ByteArray):AL (Gw b l)=0:=by
 induction l with
 | nil=>rfl
 | cons a l ih=>rw[HY];simp[AL,mx,ih]
@[simp] theorem HQ_ (n:Nat):AL (FP n)=0:=by
 unfold FP
 induction List.range n with
 | nil=>rfl
 | cons a l ih=>simp[AL,mx,ih]
theorem iM (a b:Bool) (s x:ByteArray):Ck (BX (.agg [.bool a,.str s])) (BX (.agg [.bool b,.str x]))=((a==b)&&(s==x)):=by
 simp[BX,Ck,TY]
theorem IH {b:Bool}:∀{l:List ByteArray} {s:ByteArray},¬s∈l->Ba (Gw b l) (.agg [.bool b,.str s])=none
 | [],_,_=>rfl
 | x::l,s,h=>by
  have h1:(s==x)=false:=by simp;intro e;exact h (by simp[e])
  rw[HY,Ba,iM,h1,IH (l:=l) (s:=s) fun hm=>h (aG0 _ hm)];simp
theorem Hb {b:Bool}:∀{l:List ByteArray} {s:ByteArray},Ba (Gw (!b) l) (.agg [.bool b,.str s])=none
 | [],_=>rfl
 | x::l,s=>by
  rw[HY,Ba,iM,Hb (l:=l) (s:=s)];cases b<;>simp
theorem Lu {b:Bool}:∀{l:List ByteArray} {s:ByteArray},s∈l->Ba (Gw b l) (.agg [.bool b,.str s])=some (Lb l s)
 | [],_,h=>by simp at h
 | x::l,s,h=>by
  unfold Lb;rw[List.findIdx_cons,HY,Ba,iM]
  by_cases h1:s=x
  ·subst h1;simp
  ·have h2:=Lu (b:=b) (l:=l) (s:=s) (by simpa[h1]using h);have nJ:(s==x)=false:=by simpa using h1
   rw[h2];simp[nJ,Lb]
theorem NP : ∀(a b:List DVal) (x:DVal),Ba (a++b) x=match Ba a x with | some j=>some j | none=>(Ba b x).map (· +a.length)
 | [],b,x=>by simp[Ba]
 | k::a,b,x=>by
  rw[List.cons_append,Ba,Ba,NP a b x]
  split
  ·rfl
  ·cases Ba a x with
   | some j=>rfl
   | none=>cases Ba b x<;>simp;omega
theorem Vu (b:Bool) (l:List ByteArray):(Gw b l).all (Cp prog 104)=true:=by
 induction l with
 | nil=>rfl
 | cons p l ih=>rw[HY,dA0,ih];simp
def LS (H L:List ByteArray):List DVal:=Gw false H++Gw true L
def BZ_ (H L:List ByteArray):List DVal:=FP H.length++FP L.length
abbrev GR (H L:List ByteArray):DVal:= .ref [Bv H,Bv L,.mp (LS H L) (BZ_ H L)]
@[simp] theorem Ir_ (H L:List ByteArray):AL (LS H L)=0:=by simp[LS]
@[simp] theorem Iq_ (H L:List ByteArray):AL (BZ_ H L)=0:=by simp[BZ_]
theorem BX_ (H L:List ByteArray):(LS H L).all (Cp prog 104)=true:=by
 unfold LS;rw[List.all_append,Vu,Vu];rfl
def Ow (H L:List ByteArray) (b:Bool):List ByteArray:=if b then L else H
def Mq (l:List ByteArray) (s:ByteArray):Int:=if s∈l then (Lb l s:Int)else 0
def Fp (l:List ByteArray) (s:ByteArray):Int:=if s∈l then 0 else 4
theorem oJ {n i:Nat} (h:i<n):(FP n)[i]? =some (.int .i64 (i:Int)):=by
 unfold FP;rw[bK0,List.getElem?_range h];rfl
theorem BY_ {H L:List ByteArray} {b:Bool} {s:ByteArray} (h:s∈Ow H L b):∃j,Ba (LS H L) (.agg [.bool b,.str s])=some j/\(BZ_ H L)[j]? =some (.int .i64 (Lb (Ow H L b) s)):=by
 unfold LS BZ_;rw[NP]
 cases b with
 | false =>
  have h':s∈H:=h;rw[Lu h'];have hi:=Re h';exact⟨_,rfl,by rw[aZ0 (by rw[PV];exact hi)];exact oJ hi⟩
 | true =>
  have h':s∈L:=h;have hi:=Re h';have h0:Ba (Gw false H) (.agg [.bool true,.str s])=none:=Hb (b:=true);rw[h0,Lu h'];refine⟨_,rfl,?_⟩
  show (FP H.length++FP L.length)[Lb L s+(Gw false H).length]? =_
  rw[Dk_,bB0 (by rw[PV];omega),PV,eQ0];exact oJ hi
theorem WF {H L:List ByteArray} {b:Bool} {s:ByteArray} (h:¬s∈Ow H L b):Ba (LS H L) (.agg [.bool b,.str s])=none:=by
 unfold LS;rw[NP]
 cases b with
 | false =>
  have h':¬s∈H:=h;rw[IH h',show Ba (Gw true L) (.agg [.bool false,.str s])=none from Hb (b:=false)];rfl
 | true =>
  have h':¬s∈L:=h;rw[show Ba (Gw false H) (.agg [.bool true,.str s])=none from Hb (b:=true),IH h'];rfl
def tB : Ann:=⟨[],[]⟩
theorem FQ (H L:List ByteArray):Ae prog 81 [GR H L] (.bool true):=by
 refine Ac [] tB func81 call81 ntmps81 mxd (Au @tB.eq_1 results81) rfl (fun qJ B qX qQ=> ?_);clear qJ;simp only[Am];exact Av Ab Ab Ab
def Zf : Ann:=⟨[],[]⟩
theorem JG (H L:List ByteArray) (b:Bool) (s:ByteArray):Ae prog 159 [GR H L,.agg [.bool b,.str s]] (.tup [.int .i64 (Mq (Ow H L b) s),.int .i64 (Fp (Ow H L b) s)]):=by
 refine Ac [] Zf func159 call159 ntmps159 mxd (Au @Zf.eq_1 results159) rfl (fun qJ B qX qQ=> ?_);clear qJ;simp only[Am];have e1:=FQ H L;have qW:=BX_ H L;unfold Mq Fp
 by_cases h:s∈Ow H L b
 ·obtain⟨j,h1,h2⟩:=BY_ h;rw[if_pos h,if_pos h];exact Av (AD e1) Ab (CD qW h1 h2)
 ·have h1:=WF h;rw[if_neg h,if_neg h];exact Av (AD e1) Ab (Au qW h1)
def Zi : Ann:=⟨[],[]⟩
theorem iD (H L:List ByteArray) (s:ByteArray):Ae prog 105 [GR H L,.str s] (.tup [.int .i64 (Mq H s),.int .i64 (Fp H s)]):=by
 refine Ac [] Zi func105 call105 ntmps105 mxd (Au @Zi.eq_1 results105) rfl (fun qJ B qX qQ=> ?_);clear qJ;simp only[Am];have e1:=JG H L false s;rw[show Ow H L false=H from rfl]at e1;exact Av (AD e1) Ab Ab
def Zh : Ann:=⟨[],[]⟩
theorem SO (H L:List ByteArray) (s:ByteArray):Ae prog 106 [GR H L,.str s] (.tup [.int .i64 (Mq L s),.int .i64 (Fp L s)]):=by
 refine Ac [] Zh func106 call106 ntmps106 mxd (Au @Zh.eq_1 results106) rfl (fun qJ B qX qQ=> ?_);clear qJ;simp only[Am];have e1:=JG H L true s;rw[show Ow H L true=L from rfl]at e1;exact Av (AD e1) Ab Ab
def Eo (H L:List ByteArray) (x:Nd):Sym:=if x.k=3 then (if x.s∈L then ⟨true,Lb L x.s⟩else ⟨false,0⟩)else if x.k=2 then (if x.s∈H then ⟨false,Lb H x.s⟩else ⟨false,0⟩)else ⟨false,0⟩
def Qb (H L:List ByteArray) (x:Nd):Int:=if x.k=3 then Fp L x.s else if x.k=2 then Fp H x.s else 2
def tC : Ann:=⟨[],[]⟩
theorem Qc (H L:List ByteArray) (x:Nd):Ae prog 56 [GR H L,.agg (Bq x)] (.tup [.agg (AM (Eo H L x)),.int .i64 (Qb H L x)]):=by
 refine Ac [] tC func56 call56 ntmps56 mxd (Au @tC.eq_1 results56) rfl (fun qJ B qX qQ=> ?_);clear qJ;simp only[Am];have e1:=FQ H L;have e2:=iD H L x.s;have e3:=SO H L x.s;unfold Eo Qb
 by_cases k3:x.k=3
 ·by_cases h:x.s∈L
  ·simp only[Mq,Fp,h,if_true]at e3;exact Av (CD e1 e2 e3) Ab (Jh @Bq.eq_1 @AM.eq_1 k3 h @Fp.eq_1)
  ·simp only[Mq,Fp,h,if_false]at e3;exact Av (CD e1 e2 e3) Ab (Jh @Bq.eq_1 @AM.eq_1 k3 h @Fp.eq_1)
 ·have k3':(x.k==3)=false:=by simpa using k3
  by_cases k2:x.k=2
  ·by_cases h:x.s∈H
   ·simp only[Mq,Fp,h,if_true]at e2;exact Av (CD e1 e2 e3) Ab (Iw @Bq.eq_1 @AM.eq_1 k3 k3' k2 h @Fp.eq_1)
   ·simp only[Mq,Fp,h,if_false]at e2;exact Av (CD e1 e2 e3) Ab (Iw @Bq.eq_1 @AM.eq_1 k3 k3' k2 h @Fp.eq_1)
  ·have k2':(x.k==2)=false:=by simpa using k2
   exact Av (CD e1 e2 e3) Ab (GN @Bq.eq_1 @AM.eq_1 k3 k3' k2 k2')
def tD : Ann:=⟨[],[]⟩
theorem Ms (H L:List ByteArray):Ae prog 52 [GR H L] (Bv H):=by
 refine Ac [] tD func52 call52 ntmps52 mxd (Au @tD.eq_1 results52) rfl (fun qJ B qX qQ=> ?_);clear qJ;simp only[Am];have e1:=FQ H L;have e2:=Yw H;exact Av (Au e1 e2) Ab Ab
theorem Ac_ {l:List ByteArray} {s:ByteArray} (h:s∈l):Ee l s=(Lb l s:Int):=by
 unfold Ee Lb;rw[if_pos (cH0.2 ⟨s,h,by simp⟩)]
theorem Ab_ {l:List ByteArray} {s:ByteArray} (h:¬s∈l):Ee l s= -1:=by
 unfold Ee;rw[if_neg (fun hh=>h (by obtain⟨x,hx,hs⟩:=cH0.1 hh;simp at hs;subst hs;exact hx))]
def Ze : Ann:=⟨[],[]⟩
theorem IY (l:List ByteArray) (s:ByteArray):Ae prog 188 [Bv l,.str s] (.tup [.int .i64 (Mq l s),.int .i64 (Fp l s)]):=by
 refine Ac [] Ze func188 call188 ntmps188 mxd (Au @Ze.eq_1 results188) rfl (fun qJ B qX qQ=> ?_);clear qJ;simp only[Am];have e1:=SH l s;unfold Mq Fp
 by_cases h:s∈l
 ·rw[Ac_ h]at e1;rw[if_pos h,if_pos h];have qV:¬(Lb l s:Int)<0:=by omega
  exact Av (AD e1) Ab (AD qV)
 ·rw[Ab_ h]at e1;rw[if_neg h,if_neg h];exact Av (AD e1) Ab Ab
def Zg : Ann:=⟨[],[]⟩
theorem Mc (g:List Rul) (x:Nd) (hn:((AI 3 g).length+1)*16<=150000000000000):Ae prog 126 [Ar g,.agg (Bq x)] (.tup [.agg (AM (Eo (Ax g) (Ay g) x)),.int .i64 (Qb (Ax g) (Ay g) x)]):=by
 refine Ac [] Zg func126 call126 ntmps126 mxd (Au @Zg.eq_1 results126) rfl (fun qJ B qX qQ=> ?_);clear qJ;simp only[Am];have e1:=DK g;have e2:=Gk g hn;obtain⟨H,hH⟩:∃H,H=Ax g:=⟨_,rfl⟩;obtain⟨L,hL⟩:∃L,L=Ay g:=⟨_,rfl⟩;rw[<-hH]at e1;rw[<-hL]at e2;rw[<-hH,<-hL];have e3:=IY H x.s;have e4:=IY L x.s;unfold Eo Qb
 by_cases k3:x.k=3
 ·by_cases h:x.s∈L
  ·simp only[Mq,Fp,h,if_true]at e4;exact Av (CD e1 e2 e4) Ab (Jh @Bq.eq_1 @AM.eq_1 k3 h @Fp.eq_1)
  ·simp only[Mq,Fp,h,if_false]at e4;exact Av (CD e1 e2 e4) Ab (Jh @Bq.eq_1 @AM.eq_1 k3 h @Fp.eq_1)
 ·have k3':(x.k==3)=false:=by simpa using k3
  by_cases k2:x.k=2
  ·by_cases h:x.s∈H
   ·simp only[Mq,Fp,h,if_true]at e3;exact Av (CD e1 e2 e3) Ab (Iw @Bq.eq_1 @AM.eq_1 k3 k3' k2 h @Fp.eq_1)
   ·simp only[Mq,Fp,h,if_false]at e3;exact Av (CD e1 e2 e3) Ab (Iw @Bq.eq_1 @AM.eq_1 k3 k3' k2 h @Fp.eq_1)
  ·have k2':(x.k==2)=false:=by simpa using k2
   exact Av Ab Ab (GN @Bq.eq_1 @AM.eq_1 k3 k3' k2 k2')
def GW_ (i j:Nat) (T:ByteArray):List Ent:=if T.size=0 then [⟨i,1,.row 232 2 32 [[.nilp,.nilsl]]⟩]else [⟨i,1,.row 232 2 32 [[.rx i 1 2 0 0,.osl j 1]]⟩,⟨j,1,.row 5 1 1 (AX T)⟩]
theorem Og {i j:Nat} {T:ByteArray} (h:T.size=0):GW_ i j T=[⟨i,1,.row 232 2 32 [[.nilp,.nilsl]]⟩]:=if_pos h
theorem KA {i j:Nat} {T:ByteArray} (h:T.size≠0):GW_ i j T=[⟨i,1,.row 232 2 32 [[.rx i 1 2 0 0,.osl j 1]]⟩,⟨j,1,.row 5 1 1 (AX T)⟩]:=if_neg h
theorem Hr_ {T:ByteArray} (h:T.size=0):T=⟨#[]⟩:=by
 obtain⟨a⟩:=T;have:a= #[]:=Array.eq_empty_of_size_eq_zero h;rw[this]
theorem Be_ (x:ByteArray):(⟨#[]⟩:ByteArray)++x=x:=by
 apply Ik
 simp[ByteArray.data_append]
end Go.Proofs.Wy
end
