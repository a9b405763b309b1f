/- Parts of a proof, laid together: BN4, SY0, WB14, BN2, BN5, BN6, BN7, SY1, EnSi, BO1, BO2, BO5, BO3. -/
import Derived.Shelf.SlIter.Nil
import Derived.Shelf.SlIter.Sorted
import Derived.Shelf.SortM.Plain
import Derived.Shelf.SortM.SortNone
import Derived.Shelf.Sort.Plain
import Derived.Shelf.Slices.In.SortNone
import Derived.Shelf.Spec.SlicesGrow
import Derived.Test.YtchgnpnbcjflcaaGreatqCt5
import Derived.Test.YtchgnpnbcjflcaaGreatqCt6
import Derived.Test.YtchgnpnbcjflcaaGreatqCt7
set_option linter.unusedSimpArgs false
set_option linter.unusedVariables false
set_option linter.unusedSectionVars false
section
namespace Go.Proofs.YtchgnpnbcjflcaaGreat
open Go Go.Dm
variable [DMode]
attribute [local irreducible] DW Bj_ Bp_
set_option maxRecDepth 100000
def SmlG (g:List Rul):Prop:=∀r∈g,r.b.length≤1572864
theorem Df_ {k:Int}:∀{g:List Rul},SmlG g→(AE_ k g).length≤g.length*1572864
 | [],_=>by simp[AE_]
 | r::g,h=>by
  have h1:=h r aF0;have h2:=Df_ (k:=k) (g:=g) fun x hx=>h x (aD0 _ hx)
  have h3:=Zp_ k r.b;have h4:AE_ k (r::g)=Ch_ k r.b++AE_ k g:=by simp[AE_]
  rw[h4,aC0,List.length_cons];omega
theorem TD_ (l:List Nd):occN l≤l.length:=by rw[Kz_];exact cI0 _ _
theorem TE_ : ∀{g:List Rul},SmlG g→occG g≤g.length*1572864
 | [],_=>by simp[occG]
 | r::g,h=>by
  have h1:=h r aF0;have h2:=TE_ (g:=g) fun x hx=>h x (aD0 _ hx)
  have h3:=TD_ r.b;have h4:occG (r::g)=occN r.b+occG g:=by simp[occG]
  rw[h4,List.length_cons];omega
theorem Rw_ {g:List Rul} {i:Nat} {r:Rul} (h:g[i]? =some r):occG (g.take (i+1))=occG (g.take i)+occN r.b:=by
 unfold occG;rw[bF0,h];simp
theorem JQ_ (g:List Rul) (i:Nat):occG (g.take i)≤occG g:=by
 have h:occG g=occG (g.take i)+occG (g.drop i):=by
  unfold occG;rw[←List.sum_append,←aX0,List.take_append_drop]
 omega
theorem RB_ (s:ByteArray):Ac_ Tryz.prog 129 [.str s,.int .u8 85] (.bool (DQ_ 2 s)):=EU_ 2 85 (.inl ⟨rfl,rfl⟩) s
def anBN444 : Ann:=⟨[],[]⟩
set_option maxHeartbeats 1000000 in
theorem Ih_ (g:List Rul) (hs:SmlG g):Ac_ Tryz.prog 44 [Av_ g] (.bool (EB_ g)):=by
 refine Aa_ [] anBN444 Tryz.func44 Tryz.call44 Tryz.ntmps44 mxd (aj2 @anBN444.eq_1 Tryz.results44) rfl (by simp) (by simp[mx]) fun hwf B hnt hgAnn=> ?_
 have hwl:=IH_ hwf.1;clear hwf;simp only[argS];obtain⟨R,hR⟩:∃R,R=EB_ g:=⟨_,rfl⟩;rw[←hR]
 (refine go1 aj0 aj0 aj0 ?_;intros;refine mk_i ?_)
 refine Ae_ (X:={i:Nat//i≤g.length∧R=EB_ (g.drop i)}) (fun i=>⟨[(0,Av_ g),(3,.int .i64 i.1)],[]⟩) (fun i=>g.length-i.1) ⟨0,by simp[hR]⟩ (Sub.lit (by simp)) ?_;clear hR;rintro⟨i,hi,hR⟩;simp only
 by_cases hlt:i<g.length
 ·obtain⟨r,hr,hr',hrm⟩:=Ak_ hlt;rw[aR0 hlt,hr']at hR;unfold EB_ at hR;rw[dC0]at hR;have e1:=RB_ r.h;have e2:=Dg_ r.b (hs r hrm);have w2:IntKind.i64.wrap ((i:Int)+1)=(i:Int)+1:=wq;cases h1:DQ_ 2 r.h
  ·rw[h1]at e1 hR;simp only[cK0]at hR;subst hR;exact go0 (aj1 e1) aj0 (aj4 @dRul.eq_1 hlt hr hr')
  ·cases h2:CO_ r.b
   ·rw[h2]at e2 hR;rw[h1]at e1 hR;simp only[cK0,dQ0]at hR;subst hR;exact go0 (aj2 e1 e2) aj0 (aj4 @dRul.eq_1 hlt hr hr')
   ·rw[h2]at e2 hR;rw[h1]at e1 hR;simp only[cE0]at hR
    (refine go1 (aj2 e1 e2) aj0 (aj5 @dRul.eq_1 hlt hr hr' w2) ?_;intros;refine mk_i ?_)
    refine Aj_.mk ⟨i+1,by omega,hR⟩ (Sub.lit (by simp)) (by simp;omega)
    skip
 ·have hkk:i=g.length:=by omega
  subst hkk;rw[bQ0]at hR;have hR2:R=true:=hR;subst hR2;exact go0 aj0 aj0 aj0
def anBN448 : Ann:=⟨[],[]⟩
theorem Rd_ (g:List Rul) (hs:SmlG g) (hl:g.length≤64):Ac_ Tryz.prog 48 [Av_ g] (.int .i64 (occG g)):=by
 refine Aa_ [] anBN448 Tryz.func48 Tryz.call48 Tryz.ntmps48 mxd (aj2 @anBN448.eq_1 Tryz.results48) rfl (by simp) (by simp[mx]) fun hwf B hnt hgAnn=> ?_
 clear hwf;simp only[argS];have ho:=TE_ hs
 (refine go1 aj0 aj0 aj0 ?_;intros;refine mk_i ?_)
 refine Ae_ (X:={i:Nat//i≤g.length}) (fun i=>⟨[(0,Av_ g),(3,.int .i64 (occG (g.take i.1))),(4,.int .i64 i.1)],[]⟩) (fun i=>g.length-i.1) ⟨0,by omega⟩ (Sub.lit (by simp[occG])) ?_;rintro⟨i,hi⟩;simp only
 by_cases hlt:i<g.length
 ·obtain⟨r,hr,hr',hrm⟩:=Ak_ hlt;have e1:=JN_ r.b;have h1:=Rw_ hr;have h2:=JQ_ g (i+1);have h3:=TD_ r.b;have w1:IntKind.i64.wrap ((occG (g.take i):Int)+(occN r.b:Int))=(occG (g.take (i+1)):Int):=by rw[wq];omega
  have w2:IntKind.i64.wrap ((i:Int)+1)=(i:Int)+1:=wq
  (refine go1 (aj1 e1) aj0 (aj6 @dRul.eq_1 hlt hr hr' w1 w2) ?_;intros;refine mk_i ?_)
  refine Aj_.mk ⟨i+1,by omega⟩ (Sub.lit (by simp)) (by simp;omega)
  skip
 ·have hkk:i=g.length:=by omega
  subst hkk;rw[aQ0];exact go0 aj0 aj0 aj0
theorem mkG_at {gt:GT} {i:Nat} {p:ByteArray×RT} (h:gt[i]? =some p):(mkG gt)[i]? =some ⟨p.1,flat p.2⟩:=by unfold mkG;rw[bI0,h];rfl
theorem DW_ (gt:GT):(mkG gt).length=gt.length:=by unfold mkG;rw[aJ0]
theorem Ip_ {gt:GT} (h:SmlG (mkG gt)) {p:ByteArray×RT} (hp:p∈gt):(flat p.2).length≤1572864:=h ⟨p.1,flat p.2⟩ (aV0.2 ⟨p,hp,rfl⟩)
def anBN449 : Ann:=⟨[],[]⟩
theorem OH_ (gt:GT) (hk:OkG gt) (hs:SmlG (mkG gt)) (hl:gt.length≤64):Ac_ Tryz.prog 49 [Av_ (mkG gt)] (.bool (Hl_ gt)):=by
 refine Aa_ [] anBN449 Tryz.func49 Tryz.call49 Tryz.ntmps49 mxd (aj2 @anBN449.eq_1 Tryz.results49) rfl (by simp) (by simp[mx]) fun hwf B hnt hgAnn=> ?_
 clear hwf;simp only[argS];have hml:=DW_ gt;have hat:=fun i p=>mkG_at (gt:=gt) (i:=i) (p:=p)
 have hsm:=fun p=>Ip_ hs (p:=p)
 obtain⟨g,hg⟩:∃g,g=mkG gt:=⟨_,rfl⟩;rw[←hg]at hml hat ⊢;obtain⟨R,hR⟩:∃R,R=Hl_ gt:=⟨_,rfl⟩;rw[←hR];clear hs hg
 (refine go1 aj0 aj0 aj0 ?_;intros;refine mk_i ?_)
 refine Ae_ (X:={i:Nat//i≤gt.length∧R=Hl_ (gt.drop i)}) (fun i=>⟨[(0,Av_ g),(3,.int .i64 i.1)],[]⟩) (fun i=>gt.length-i.1) ⟨0,by simp[hR]⟩ (Sub.lit (by simp)) ?_;clear hR;rintro⟨i,hi,hR⟩;simp only
 by_cases hlt:i<gt.length
 ·obtain⟨p,hp,hp',hpm⟩:=Ak_ hlt;rw[aR0 hlt,hp']at hR;unfold Hl_ at hR;rw[List.any_cons]at hR;have hr:=hat i p hp;have hlt2:i<g.length:=by omega
  have hr':g[i]'hlt2=⟨p.1,flat p.2⟩:=(aB0.1 hr).2;have e1:=Ly_ p.2 (hk p hpm).2 (hsm p hpm);have w2:IntKind.i64.wrap ((i:Int)+1)=(i:Int)+1:=wq;obtain⟨b,hb⟩:∃b,b=flat p.2:=⟨_,rfl⟩;rw[←hb]at hr hr' e1
  by_cases hd:16<htT p.2
  ·have hd':(16:Int)<(htT p.2:Int):=by omega
   rw[decide_eq_true hd,Bool.true_or]at hR;subst hR;exact go0 (aj1 e1) aj0 (aj7 @dRul.eq_1 hlt hlt2 hr hr' hd hd')
  ·have hd':¬(16:Int)<(htT p.2:Int):=by omega
   rw[decide_eq_false hd,eM0]at hR
   (refine go1 (aj1 e1) aj0 (aj8 @dRul.eq_1 hlt hlt2 hr hr' hd hd' w2) ?_;intros;refine mk_i ?_)
   refine Aj_.mk ⟨i+1,by omega,hR⟩ (Sub.lit (by simp)) (by simp;omega)
   skip
 ·have hkk:i=gt.length:=by omega
  subst hkk;rw[bQ0]at hR;have hR2:R=false:=hR;subst hR2;exact go0 aj0 aj0 (aj1 hml)
theorem YI_ {k:Int} {s:ByteArray} (h:DQ_ k s=true):s.size≤16:=by
 unfold DQ_ BD_ at h
 split at h<;>simp only[aN0,decide_eq_true_eq]at h<;>exact h.1.1.2
theorem Nx_ {gt:GT} {p:ByteArray×RT} (hk:OkG gt) (hs:SmlG (mkG gt)) (hp:p∈gt):(Kf_ p).size≤37748766:=by
 have h1:=YI_ (hk p hp).1;have h2:=(FN_ p.2 (hk p hp).2).2;have h3:=Ip_ hs hp;unfold Kf_;simp only[aS0];have z3:(⟨#[32,61,32]⟩:ByteArray).size=3:=rfl;have z4:(⟨#[32,59,10]⟩:ByteArray).size=3:=rfl;omega
theorem Jl_ {gt:GT} (hk:OkG gt) (hs:SmlG (mkG gt)):∀i,i≤gt.length→(Cj_ (gt.take i)).size≤i*37748766
 | 0,_=>by simp[Cj_];decide
 | i+1,h=>by
  have hx:gt[i]? =some (gt[i]'(by omega)):=aH0 (by omega);have ih:=Jl_ hk hs i (by omega);have h1:=Nx_ hk hs (cY0 (show i<gt.length by omega));rw[EC_ hx,aS0];omega
def anBN450 : Ann:=⟨[],[]⟩
set_option maxHeartbeats 1000000 in
theorem OB_ (gt:GT) (hk:OkG gt) (hs:SmlG (mkG gt)) (hl:gt.length≤64):Ac_ Tryz.prog 50 [Av_ (mkG gt)] (.str (Cj_ gt)):=by
 refine Aa_ [] anBN450 Tryz.func50 Tryz.call50 Tryz.ntmps50 mxd (aj2 @anBN450.eq_1 Tryz.results50) rfl (by simp) (by simp[mx]) fun hwf B hnt hgAnn=> ?_
 clear hwf;simp only[argS];have hml:=DW_ gt;have hat:=fun i p=>mkG_at (gt:=gt) (i:=i) (p:=p)
 have hsm:=fun p=>Ip_ hs (p:=p)
 have hts:=Jl_ hk hs;obtain⟨g,hg⟩:∃g,g=mkG gt:=⟨_,rfl⟩;rw[←hg]at hml hat ⊢;clear hs hg;have z0:(⟨#[]⟩:ByteArray).size=0:=rfl;have z3:(⟨#[32,61,32]⟩:ByteArray).size=3:=rfl;have z4:(⟨#[32,59,10]⟩:ByteArray).size=3:=rfl;have m3:3≤maxLen:=by decide
 have mbig:3000000000≤maxLen:=by decide
 (refine go1 aj0 aj0 (aj1 z0) ?_;intros;refine mk_i ?_)
 refine Ae_ (X:={i:Nat//i≤gt.length}) (fun i=>⟨[(0,Av_ g),(3,.str (Cj_ (gt.take i.1))),(4,.int .i64 i.1)],[]⟩) (fun i=>gt.length-i.1) ⟨0,by omega⟩ (Sub.lit (by simp[Cj_])) ?_;rintro⟨i,hi⟩;simp only
 by_cases hlt:i<gt.length
 ·obtain⟨p,hp,hp',hpm⟩:=Ak_ hlt;have hr:=hat i p hp;have hlt2:i<g.length:=by omega
  have hr':g[i]'hlt2=⟨p.1,flat p.2⟩:=(aB0.1 hr).2;have e1:=Li_ _ p.2 (flat p.2) 0 rfl (At.top (hk p hpm).2) (hsm p hpm);have w2:IntKind.i64.wrap ((i:Int)+1)=(i:Int)+1:=wq;have h1:=hts (i+1) (by omega);have hnx:=EC_ hp;rw[hnx]at h1;unfold Kf_ at h1 hnx;simp only[aS0,z3,z4]at h1;obtain⟨b,hb⟩:∃b,b=flat p.2:=⟨_,rfl⟩;rw[←hb]at hr hr' e1;obtain⟨s,hs⟩:∃s,s=txtT p.2:=⟨_,rfl⟩;rw[←hs]at e1 h1 hnx;obtain⟨a,ha⟩:∃a,a=Cj_ (gt.take i):=⟨_,rfl⟩
  rw[←ha]at hnx h1 ⊢;have y1:a.size+p.1.size≤maxLen:=by omega
  have y2:a.size+p.1.size+3≤maxLen:=by omega
  have y3:a.size+p.1.size+3+s.size≤maxLen:=by omega
  have y4:a.size+p.1.size+3+s.size+3≤maxLen:=by omega
  have hq:a++p.1++⟨#[32,61,32]⟩++s++⟨#[32,59,10]⟩=Cj_ (gt.take (i+1)):=by rw[hnx];simp only[ByteArray.append_assoc]
  (refine go1 (aj1 e1) aj0 (aj14 @dRul.eq_1 hlt hlt2 hr hr' z3 z4 m3 y1 y2 y3 y4 @aS0 w2) ?_;intros;refine mk_i ?_)
  refine Aj_.mk ⟨i+1,by omega⟩ (Sub.lit (by simp[hq])) (by simp;omega)
  skip
 ·have hkk:i=gt.length:=by omega
  subst hkk;rw[aQ0];exact go0 aj0 aj0 (aj1 hml)
def BC_ : Ann:=⟨[],[]⟩
theorem MW_ (g:List Rul) (h:g.length<1∨64<g.length):Ac_ Tryz.prog 13 [Av_ g] (.int .i64 180):=by
 refine Aa_ [] BC_ Tryz.func13 Tryz.call13 Tryz.ntmps13 mxd (aj2 @BC_.eq_1 Tryz.results13) rfl (by simp) (by simp[mx]) fun hwf B hnt hgAnn=> ?_
 clear hwf;simp only[argS]
 rcases h with h | h
 ·have d1:(g.length:Int)<1:=by omega
  have h0:g=[]:=bO0 (by omega);subst h0;exact go0 aj0 aj0 aj0
 ·have d1:¬(g.length:Int)<1:=by omega
  have d2:(64:Int)<(g.length:Int):=by omega
  have d3:¬g.length<1:=by omega
  exact go0 aj0 aj0 (aj4 d1 d2 h d3)
theorem Ri_ (g:List Rul) (h1:1≤g.length) (h2:g.length≤64) (hs:SmlG g) (ht:EB_ g=false):Ac_ Tryz.prog 13 [Av_ g] (.int .i64 170):=by
 refine Aa_ [] BC_ Tryz.func13 Tryz.call13 Tryz.ntmps13 mxd (aj2 @BC_.eq_1 Tryz.results13) rfl (by simp) (by simp[mx]) fun hwf B hnt hgAnn=> ?_
 clear hwf;simp only[argS];have d1:¬(g.length:Int)<1:=by omega
 have d2:¬(64:Int)<(g.length:Int):=by omega
 have d3:¬g.length<1:=by omega
 have d4:¬64<g.length:=by omega
 have e1:=Ih_ g hs;rw[ht]at e1;exact go0 (aj1 e1) aj0 (aj4 d1 d2 d3 d4)
set_option maxHeartbeats 2000000 in
theorem Tw_ (gt:GT) (h1:1≤gt.length) (h2:gt.length≤64) (hk:OkG gt) (hs:SmlG (mkG gt)):Ac_ Tryz.prog 13 [Av_ (mkG gt)] (.int .i64 (PV_ gt)):=by
 refine Aa_ [] BC_ Tryz.func13 Tryz.call13 Tryz.ntmps13 mxd (aj2 @BC_.eq_1 Tryz.results13) rfl (by simp) (by simp[mx]) fun hwf B hnt hgAnn=> ?_
 clear hwf;simp only[argS];have hml:=DW_ gt;have e1:=Ih_ (mkG gt) hs;rw[VR_ hk]at e1;have n2:=Df_ (k:=2) hs;have n3:=Df_ (k:=3) hs;have e2:=Ce_ (mkG gt);have e3:=Kg_ (mkG gt) (by omega);have e4:=Et_ (mkG gt) (by omega);have e5:=Rd_ (mkG gt) hs (by omega);have e6:=OH_ gt hk hs h2;have e7:=OB_ gt hk hs h2;have b1:=GN_ (mkG gt)
 have b2:(Do_ (mkG gt)).length≤110000000:=by
  have:=FM_ (AE_ 2 (mkG gt));have:=cI0 (fun s=> !decide (s∈Ar_ (mkG gt))) (FH_ (AE_ 2 (mkG gt)));unfold Do_;omega
 obtain⟨g,hg⟩:∃g,g=mkG gt:=⟨_,rfl⟩;obtain⟨C,hC⟩:∃C,C=PV_ gt:=⟨_,rfl⟩;rw[←hC];unfold PV_ at hC;rw[←hg]at hml e1 e2 e3 e4 e5 e6 e7 b1 b2 hC ⊢;obtain⟨H,hH⟩:∃H,H=Ar_ g:=⟨_,rfl⟩;obtain⟨m,hm⟩:∃m,m=(Do_ g).length:=⟨_,rfl⟩;obtain⟨L,hL⟩:∃L,L=Ao_ g:=⟨_,rfl⟩;obtain⟨o,ho⟩:∃o,o=occG g:=⟨_,rfl⟩;obtain⟨T,hT⟩:∃T,T=Cj_ gt:=⟨_,rfl⟩;rw[←hH]at e2 b1 hC;rw[←hm]at e3 b2 hC;rw[←hL]at e4 hC;rw[←ho]at e5 hC;rw[←hT]at e7 hC
 clear hH hm hL ho hT n2 n3 hg;have d1:¬(g.length:Int)<1:=by omega
 have d2:¬(64:Int)<(g.length:Int):=by omega
 have d3:¬g.length<1:=by omega
 have d4:¬64<g.length:=by omega
 have w1:IntKind.i64.wrap ((H.length:Int)+(m:Int))=((H.length+m:Nat):Int):=by rw[wq];omega
 by_cases c1:16<H.length+m
 ·have q1:(16:Int)<((H.length+m:Nat):Int):=by omega
  rw[if_pos c1]at hC;subst hC
  (repeat (first | refine Aw_ fun K hK=> ?_ | (refine DW_r BC_ mxd (by kernel_rfl) ?_;simp[BC_,hnt,d1,d2,d3,d4,w1,c1,q1, -Int.natCast_add];try simp (disch:=omega) only[Ah_]) | refine Al_ ?_ | (refine AJ_ ?_ ?_ ?_;(· (simp[hnt,d1,d2,d3,d4,w1,c1,q1, -Int.natCast_add];done));(try (rotate_left;(· (intro hc;(try simp[hnt,d1,d2,d3,d4,w1,c1,q1, -Int.natCast_add]at hc);done))))) | (refine Ay_ ?_;simp[Tryz.results13,hnt,d1,d2,d3,d4,w1,c1,q1, -Int.natCast_add]) | ((first | refine Aq_ ?_ | refine Ap_ ?_);simp[hnt,d1,d2,d3,d4,w1,c1,q1, -Int.natCast_add]) | (intro hc;(try simp[hnt,d1,d2,d3,d4,w1,c1,q1, -Int.natCast_add]at hc);(try (exfalso;omega))) | ((first | refine Ag_ (e1) ?_ | refine Ag_ (e2) ?_ | refine Ag_ (e3) ?_ | refine Ag_ (e4) ?_ | refine Ag_ (e5) ?_ | refine Ag_ (e6) ?_ | refine Ag_ (e7) ?_ | (refine Af_ (e1) ?_ ?_;(· (simp;done))) | (refine Af_ (e2) ?_ ?_;(· (simp;done))) | (refine Af_ (e3) ?_ ?_;(· (simp;done))) | (refine Af_ (e4) ?_ ?_;(· (simp;done))) | (refine Af_ (e5) ?_ ?_;(· (simp;done))) | (refine Af_ (e6) ?_ ?_;(· (simp;done))) | (refine Af_ (e7) ?_ ?_;(· (simp;done))));try simp[hnt,d1,d2,d3,d4,w1,c1,q1, -Int.natCast_add]) | (refine⟨?_,?_⟩; · omega) | omega | apply_assumption -exfalso -symm | (exfalso;omega)))
 rw[if_neg c1]at hC;have q1:¬(16:Int)<((H.length+m:Nat):Int):=by omega
 by_cases c2:16<L.length
 ·have q2:(16:Int)<(L.length:Int):=by omega
  rw[if_pos c2]at hC;subst hC
  (repeat (first | refine Aw_ fun K hK=> ?_ | (refine DW_r BC_ mxd (by kernel_rfl) ?_;simp[BC_,hnt,d1,d2,d3,d4,w1,c1,q1,c2,q2, -Int.natCast_add];try simp (disch:=omega) only[Ah_]) | refine Al_ ?_ | (refine AJ_ ?_ ?_ ?_;(· (simp[hnt,d1,d2,d3,d4,w1,c1,q1,c2,q2, -Int.natCast_add];done));(try (rotate_left;(· (intro hc;(try simp[hnt,d1,d2,d3,d4,w1,c1,q1,c2,q2, -Int.natCast_add]at hc);done))))) | (refine Ay_ ?_;simp[Tryz.results13,hnt,d1,d2,d3,d4,w1,c1,q1,c2,q2, -Int.natCast_add]) | ((first | refine Aq_ ?_ | refine Ap_ ?_);simp[hnt,d1,d2,d3,d4,w1,c1,q1,c2,q2, -Int.natCast_add]) | (intro hc;(try simp[hnt,d1,d2,d3,d4,w1,c1,q1,c2,q2, -Int.natCast_add]at hc);(try (exfalso;omega))) | ((first | refine Ag_ (e1) ?_ | refine Ag_ (e2) ?_ | refine Ag_ (e3) ?_ | refine Ag_ (e4) ?_ | refine Ag_ (e5) ?_ | refine Ag_ (e6) ?_ | refine Ag_ (e7) ?_ | (refine Af_ (e1) ?_ ?_;(· (simp;done))) | (refine Af_ (e2) ?_ ?_;(· (simp;done))) | (refine Af_ (e3) ?_ ?_;(· (simp;done))) | (refine Af_ (e4) ?_ ?_;(· (simp;done))) | (refine Af_ (e5) ?_ ?_;(· (simp;done))) | (refine Af_ (e6) ?_ ?_;(· (simp;done))) | (refine Af_ (e7) ?_ ?_;(· (simp;done))));try simp[hnt,d1,d2,d3,d4,w1,c1,q1,c2,q2, -Int.natCast_add]) | (refine⟨?_,?_⟩; · omega) | omega | apply_assumption -exfalso -symm | (exfalso;omega)))
 rw[if_neg c2]at hC;have q2:¬(16:Int)<(L.length:Int):=by omega
 by_cases c3:64<o
 ·have q3:(64:Int)<(o:Int):=by omega
  rw[if_pos c3]at hC;subst hC
  (repeat (first | refine Aw_ fun K hK=> ?_ | (refine DW_r BC_ mxd (by kernel_rfl) ?_;simp[BC_,hnt,d1,d2,d3,d4,w1,c1,q1,c2,q2,c3,q3, -Int.natCast_add];try simp (disch:=omega) only[Ah_]) | refine Al_ ?_ | (refine AJ_ ?_ ?_ ?_;(· (simp[hnt,d1,d2,d3,d4,w1,c1,q1,c2,q2,c3,q3, -Int.natCast_add];done));(try (rotate_left;(· (intro hc;(try simp[hnt,d1,d2,d3,d4,w1,c1,q1,c2,q2,c3,q3, -Int.natCast_add]at hc);done))))) | (refine Ay_ ?_;simp[Tryz.results13,hnt,d1,d2,d3,d4,w1,c1,q1,c2,q2,c3,q3, -Int.natCast_add]) | ((first | refine Aq_ ?_ | refine Ap_ ?_);simp[hnt,d1,d2,d3,d4,w1,c1,q1,c2,q2,c3,q3, -Int.natCast_add]) | (intro hc;(try simp[hnt,d1,d2,d3,d4,w1,c1,q1,c2,q2,c3,q3, -Int.natCast_add]at hc);(try (exfalso;omega))) | ((first | refine Ag_ (e1) ?_ | refine Ag_ (e2) ?_ | refine Ag_ (e3) ?_ | refine Ag_ (e4) ?_ | refine Ag_ (e5) ?_ | refine Ag_ (e6) ?_ | refine Ag_ (e7) ?_ | (refine Af_ (e1) ?_ ?_;(· (simp;done))) | (refine Af_ (e2) ?_ ?_;(· (simp;done))) | (refine Af_ (e3) ?_ ?_;(· (simp;done))) | (refine Af_ (e4) ?_ ?_;(· (simp;done))) | (refine Af_ (e5) ?_ ?_;(· (simp;done))) | (refine Af_ (e6) ?_ ?_;(· (simp;done))) | (refine Af_ (e7) ?_ ?_;(· (simp;done))));try simp[hnt,d1,d2,d3,d4,w1,c1,q1,c2,q2,c3,q3, -Int.natCast_add]) | (refine⟨?_,?_⟩; · omega) | omega | apply_assumption -exfalso -symm | (exfalso;omega)))
 rw[if_neg c3]at hC;have q3:¬(64:Int)<(o:Int):=by omega
 cases c4:Hl_ gt
 rotate_left
 ·rw[if_pos c4]at hC;rw[c4]at e6;subst hC
  (repeat (first | refine Aw_ fun K hK=> ?_ | (refine DW_r BC_ mxd (by kernel_rfl) ?_;simp[BC_,hnt,d1,d2,d3,d4,w1,c1,q1,c2,q2,c3,q3, -Int.natCast_add];try simp (disch:=omega) only[Ah_]) | refine Al_ ?_ | (refine AJ_ ?_ ?_ ?_;(· (simp[hnt,d1,d2,d3,d4,w1,c1,q1,c2,q2,c3,q3, -Int.natCast_add];done));(try (rotate_left;(· (intro hc;(try simp[hnt,d1,d2,d3,d4,w1,c1,q1,c2,q2,c3,q3, -Int.natCast_add]at hc);done))))) | (refine Ay_ ?_;simp[Tryz.results13,hnt,d1,d2,d3,d4,w1,c1,q1,c2,q2,c3,q3, -Int.natCast_add]) | ((first | refine Aq_ ?_ | refine Ap_ ?_);simp[hnt,d1,d2,d3,d4,w1,c1,q1,c2,q2,c3,q3, -Int.natCast_add]) | (intro hc;(try simp[hnt,d1,d2,d3,d4,w1,c1,q1,c2,q2,c3,q3, -Int.natCast_add]at hc);(try (exfalso;omega))) | ((first | refine Ag_ (e1) ?_ | refine Ag_ (e2) ?_ | refine Ag_ (e3) ?_ | refine Ag_ (e4) ?_ | refine Ag_ (e5) ?_ | refine Ag_ (e6) ?_ | refine Ag_ (e7) ?_ | (refine Af_ (e1) ?_ ?_;(· (simp;done))) | (refine Af_ (e2) ?_ ?_;(· (simp;done))) | (refine Af_ (e3) ?_ ?_;(· (simp;done))) | (refine Af_ (e4) ?_ ?_;(· (simp;done))) | (refine Af_ (e5) ?_ ?_;(· (simp;done))) | (refine Af_ (e6) ?_ ?_;(· (simp;done))) | (refine Af_ (e7) ?_ ?_;(· (simp;done))));try simp[hnt,d1,d2,d3,d4,w1,c1,q1,c2,q2,c3,q3, -Int.natCast_add]) | (refine⟨?_,?_⟩; · omega) | omega | apply_assumption -exfalso -symm | (exfalso;omega)))
 rw[if_neg (by rw[c4];simp)]at hC;rw[c4]at e6
 by_cases c5:0<m
 ·have q5:(0:Int)<(m:Int):=by omega
  rw[if_pos c5]at hC;subst hC
  (repeat (first | refine Aw_ fun K hK=> ?_ | (refine DW_r BC_ mxd (by kernel_rfl) ?_;simp[BC_,hnt,d1,d2,d3,d4,w1,c1,q1,c2,q2,c3,q3,c5,q5, -Int.natCast_add];try simp (disch:=omega) only[Ah_]) | refine Al_ ?_ | (refine AJ_ ?_ ?_ ?_;(· (simp[hnt,d1,d2,d3,d4,w1,c1,q1,c2,q2,c3,q3,c5,q5, -Int.natCast_add];done));(try (rotate_left;(· (intro hc;(try simp[hnt,d1,d2,d3,d4,w1,c1,q1,c2,q2,c3,q3,c5,q5, -Int.natCast_add]at hc);done))))) | (refine Ay_ ?_;simp[Tryz.results13,hnt,d1,d2,d3,d4,w1,c1,q1,c2,q2,c3,q3,c5,q5, -Int.natCast_add]) | ((first | refine Aq_ ?_ | refine Ap_ ?_);simp[hnt,d1,d2,d3,d4,w1,c1,q1,c2,q2,c3,q3,c5,q5, -Int.natCast_add]) | (intro hc;(try simp[hnt,d1,d2,d3,d4,w1,c1,q1,c2,q2,c3,q3,c5,q5, -Int.natCast_add]at hc);(try (exfalso;omega))) | ((first | refine Ag_ (e1) ?_ | refine Ag_ (e2) ?_ | refine Ag_ (e3) ?_ | refine Ag_ (e4) ?_ | refine Ag_ (e5) ?_ | refine Ag_ (e6) ?_ | refine Ag_ (e7) ?_ | (refine Af_ (e1) ?_ ?_;(· (simp;done))) | (refine Af_ (e2) ?_ ?_;(· (simp;done))) | (refine Af_ (e3) ?_ ?_;(· (simp;done))) | (refine Af_ (e4) ?_ ?_;(· (simp;done))) | (refine Af_ (e5) ?_ ?_;(· (simp;done))) | (refine Af_ (e6) ?_ ?_;(· (simp;done))) | (refine Af_ (e7) ?_ ?_;(· (simp;done))));try simp[hnt,d1,d2,d3,d4,w1,c1,q1,c2,q2,c3,q3,c5,q5, -Int.natCast_add]) | (refine⟨?_,?_⟩; · omega) | omega | apply_assumption -exfalso -symm | (exfalso;omega)))
 rw[if_neg c5]at hC;have q5:¬(0:Int)<(m:Int):=by omega
 by_cases c6:2048<T.size
 ·have q6:(2048:Int)<(T.size:Int):=by omega
  rw[if_pos c6]at hC;subst hC
  (repeat (first | refine Aw_ fun K hK=> ?_ | (refine DW_r BC_ mxd (by kernel_rfl) ?_;simp[BC_,hnt,d1,d2,d3,d4,w1,c1,q1,c2,q2,c3,q3,c5,q5,c6,q6, -Int.natCast_add];try simp (disch:=omega) only[Ah_]) | refine Al_ ?_ | (refine AJ_ ?_ ?_ ?_;(· (simp[hnt,d1,d2,d3,d4,w1,c1,q1,c2,q2,c3,q3,c5,q5,c6,q6, -Int.natCast_add];done));(try (rotate_left;(· (intro hc;(try simp[hnt,d1,d2,d3,d4,w1,c1,q1,c2,q2,c3,q3,c5,q5,c6,q6, -Int.natCast_add]at hc);done))))) | (refine Ay_ ?_;simp[Tryz.results13,hnt,d1,d2,d3,d4,w1,c1,q1,c2,q2,c3,q3,c5,q5,c6,q6, -Int.natCast_add]) | ((first | refine Aq_ ?_ | refine Ap_ ?_);simp[hnt,d1,d2,d3,d4,w1,c1,q1,c2,q2,c3,q3,c5,q5,c6,q6, -Int.natCast_add]) | (intro hc;(try simp[hnt,d1,d2,d3,d4,w1,c1,q1,c2,q2,c3,q3,c5,q5,c6,q6, -Int.natCast_add]at hc);(try (exfalso;omega))) | ((first | refine Ag_ (e1) ?_ | refine Ag_ (e2) ?_ | refine Ag_ (e3) ?_ | refine Ag_ (e4) ?_ | refine Ag_ (e5) ?_ | refine Ag_ (e6) ?_ | refine Ag_ (e7) ?_ | (refine Af_ (e1) ?_ ?_;(· (simp;done))) | (refine Af_ (e2) ?_ ?_;(· (simp;done))) | (refine Af_ (e3) ?_ ?_;(· (simp;done))) | (refine Af_ (e4) ?_ ?_;(· (simp;done))) | (refine Af_ (e5) ?_ ?_;(· (simp;done))) | (refine Af_ (e6) ?_ ?_;(· (simp;done))) | (refine Af_ (e7) ?_ ?_;(· (simp;done))));try simp[hnt,d1,d2,d3,d4,w1,c1,q1,c2,q2,c3,q3,c5,q5,c6,q6, -Int.natCast_add]) | (refine⟨?_,?_⟩; · omega) | omega | apply_assumption -exfalso -symm | (exfalso;omega)))
 rw[if_neg c6]at hC;have q6:¬(2048:Int)<(T.size:Int):=by omega
 subst hC
 (repeat (first | refine Aw_ fun K hK=> ?_ | (refine DW_r BC_ mxd (by kernel_rfl) ?_;simp[BC_,hnt,d1,d2,d3,d4,w1,c1,q1,c2,q2,c3,q3,c5,q5,c6,q6, -Int.natCast_add];try simp (disch:=omega) only[Ah_]) | refine Al_ ?_ | (refine AJ_ ?_ ?_ ?_;(· (simp[hnt,d1,d2,d3,d4,w1,c1,q1,c2,q2,c3,q3,c5,q5,c6,q6, -Int.natCast_add];done));(try (rotate_left;(· (intro hc;(try simp[hnt,d1,d2,d3,d4,w1,c1,q1,c2,q2,c3,q3,c5,q5,c6,q6, -Int.natCast_add]at hc);done))))) | (refine Ay_ ?_;simp[Tryz.results13,hnt,d1,d2,d3,d4,w1,c1,q1,c2,q2,c3,q3,c5,q5,c6,q6, -Int.natCast_add]) | ((first | refine Aq_ ?_ | refine Ap_ ?_);simp[hnt,d1,d2,d3,d4,w1,c1,q1,c2,q2,c3,q3,c5,q5,c6,q6, -Int.natCast_add]) | (intro hc;(try simp[hnt,d1,d2,d3,d4,w1,c1,q1,c2,q2,c3,q3,c5,q5,c6,q6, -Int.natCast_add]at hc);(try (exfalso;omega))) | ((first | refine Ag_ (e1) ?_ | refine Ag_ (e2) ?_ | refine Ag_ (e3) ?_ | refine Ag_ (e4) ?_ | refine Ag_ (e5) ?_ | refine Ag_ (e6) ?_ | refine Ag_ (e7) ?_ | (refine Af_ (e1) ?_ ?_;(· (simp;done))) | (refine Af_ (e2) ?_ ?_;(· (simp;done))) | (refine Af_ (e3) ?_ ?_;(· (simp;done))) | (refine Af_ (e4) ?_ ?_;(· (simp;done))) | (refine Af_ (e5) ?_ ?_;(· (simp;done))) | (refine Af_ (e6) ?_ ?_;(· (simp;done))) | (refine Af_ (e7) ?_ ?_;(· (simp;done))));try simp[hnt,d1,d2,d3,d4,w1,c1,q1,c2,q2,c3,q3,c5,q5,c6,q6, -Int.natCast_add]) | (refine⟨?_,?_⟩; · omega) | omega | apply_assumption -exfalso -symm | (exfalso;omega)))
def keyL (b:Bool) (l:List ByteArray):List DVal:=l.map fun s=> .agg [.bool b,.str s]
def upTo (n:Nat):List DVal:=(List.range n).map fun i:Nat=>DVal.int .i64 (i:Int)
theorem Gh_ (b:Bool) (s:ByteArray) (l:List ByteArray):keyL b (s::l)= .agg [.bool b,.str s]::keyL b l:=rfl
theorem keyL_len (b:Bool) (l:List ByteArray):(keyL b l).length=l.length:=by simp[keyL]
theorem RO_ (b:Bool) (l:List ByteArray) (s:ByteArray):keyL b (l++[s])=keyL b l++[.agg [.bool b,.str s]]:=by simp[keyL]
theorem QB_ (n:Nat):upTo (n+1)=upTo n++[.int .i64 (n:Int)]:=by simp[upTo,eA0]
theorem Oq_ (n:Nat):(upTo n).length=n:=by simp[upTo]
@[simp] theorem mxL_keyL (b:Bool) (l:List ByteArray):mxL (keyL b l)=0:=by
 induction l with
 | nil=>rfl
 | cons a l ih=>rw[Gh_];simp[mxL,mx,ih]
@[simp] theorem mxL_upTo (n:Nat):mxL (upTo n)=0:=by
 unfold upTo
 induction List.range n with
 | nil=>rfl
 | cons a l ih=>simp[mxL,mx,ih]
theorem key_eq (a b:Bool) (s x:ByteArray):eqCs (By_ (.agg [.bool a,.str s])) (By_ (.agg [.bool b,.str x]))=((a==b)&&(s==x)):=by
 simp[By_,eqCs,eqC]
theorem GJ_ {b:Bool}:∀{l:List ByteArray} {s:ByteArray},¬s∈l→AQ_ (keyL b l) (.agg [.bool b,.str s])=none
 | [],_,_=>rfl
 | x::l,s,h=>by
  have h1:(s==x)=false:=by simp;intro e;exact h (by simp[e])
  rw[Gh_,AQ_,key_eq,h1,GJ_ (l:=l) (s:=s) fun hm=>h (aD0 _ hm)];simp
theorem Fj_ {b:Bool}:∀{l:List ByteArray} {s:ByteArray},AQ_ (keyL (!b) l) (.agg [.bool b,.str s])=none
 | [],_=>rfl
 | x::l,s=>by
  rw[Gh_,AQ_,key_eq,Fj_ (l:=l) (s:=s)];cases b<;>simp
theorem Ju_ {b:Bool}:∀{l:List ByteArray} {s:ByteArray},s∈l→AQ_ (keyL b l) (.agg [.bool b,.str s])=some (ixS l s)
 | [],_,h=>by simp at h
 | x::l,s,h=>by
  unfold ixS;rw[List.findIdx_cons,Gh_,AQ_,key_eq]
  by_cases h1:s=x
  ·subst h1;simp
  ·have h2:=Ju_ (b:=b) (l:=l) (s:=s) (by simpa[h1]using h);have h1b:(s==x)=false:=by simpa using h1
   rw[h2];simp[h1b,ixS]
theorem LT_ : ∀(a b:List DVal) (x:DVal),AQ_ (a++b) x=match AQ_ a x with | some j=>some j | none=>(AQ_ b x).map (· +a.length)
 | [],b,x=>by simp[AQ_]
 | k::a,b,x=>by
  rw[List.cons_append,AQ_,AQ_,LT_ a b x]
  split
  ·rfl
  ·cases AQ_ a x with
   | some j=>rfl
   | none=>cases AQ_ b x<;>simp;omega
theorem TQ_ (b:Bool) (l:List ByteArray):(keyL b l).all (CA_ Tryz.prog 134)=true:=by
 induction l with
 | nil=>rfl
 | cons p l ih=>rw[Gh_,dC0,ih];simp
def tabK (H L:List ByteArray):List DVal:=keyL false H++keyL true L
def tabV (H L:List ByteArray):List DVal:=upTo H.length++upTo L.length
abbrev dTab (H L:List ByteArray):DVal:= .ref [AS_ H,AS_ L,.mp (tabK H L) (tabV H L)]
@[simp] theorem mx_tabK (H L:List ByteArray):mxL (tabK H L)=0:=by simp[tabK]
@[simp] theorem mx_tabV (H L:List ByteArray):mxL (tabV H L)=0:=by simp[tabV]
theorem tab_ok (H L:List ByteArray):(tabK H L).all (CA_ Tryz.prog 134)=true:=by
 unfold tabK;rw[eU0,TQ_,TQ_];rfl
def Rk_ (H L:List ByteArray) (b:Bool):List ByteArray:=if b then L else H
def numK (l:List ByteArray) (s:ByteArray):Int:=if s∈l then (ixS l s:Int)else 0
def numE (l:List ByteArray) (s:ByteArray):Int:=if s∈l then 0 else 4
theorem upTo_at {n i:Nat} (h:i<n):(upTo n)[i]? =some (.int .i64 (i:Int)):=by
 unfold upTo;rw[bI0,eT0 h];rfl
theorem tab_look {H L:List ByteArray} {b:Bool} {s:ByteArray} (h:s∈Rk_ H L b):∃j,AQ_ (tabK H L) (.agg [.bool b,.str s])=some j∧(tabV H L)[j]? =some (.int .i64 (ixS (Rk_ H L b) s)):=by
 unfold tabK tabV;rw[LT_]
 cases b with
 | false =>
  have h':s∈H:=h;rw[Ju_ h'];have hi:=JT_ h';exact⟨_,rfl,by rw[bB0 (by rw[Oq_];exact hi)];exact upTo_at hi⟩
 | true =>
  have h':s∈L:=h;have hi:=JT_ h';have h0:AQ_ (keyL false H) (.agg [.bool true,.str s])=none:=Fj_ (b:=true);rw[h0,Ju_ h'];refine⟨_,rfl,?_⟩
  show (upTo H.length++upTo L.length)[ixS L s+(keyL false H).length]? =_
  rw[keyL_len,bC0 (by rw[Oq_];omega),Oq_,Nat.add_sub_cancel];exact upTo_at hi
theorem UL_ {H L:List ByteArray} {b:Bool} {s:ByteArray} (h:¬s∈Rk_ H L b):AQ_ (tabK H L) (.agg [.bool b,.str s])=none:=by
 unfold tabK;rw[LT_]
 cases b with
 | false =>
  have h':¬s∈H:=h;rw[GJ_ h',show AQ_ (keyL true L) (.agg [.bool false,.str s])=none from Fj_ (b:=false)];rfl
 | true =>
  have h':¬s∈L:=h;rw[show AQ_ (keyL false H) (.agg [.bool true,.str s])=none from Fj_ (b:=true),GJ_ h'];rfl
def anSY094 : Ann:=⟨[],[]⟩
theorem Ee_ (H L:List ByteArray):Ac_ Tryz.prog 94 [dTab H L] (.bool true):=by
 refine Aa_ [] anSY094 Tryz.func94 Tryz.call94 Tryz.ntmps94 mxd (aj2 @anSY094.eq_1 Tryz.results94) rfl (by simp) (by simp[mx]) fun hwf B hnt hgAnn=> ?_
 clear hwf;simp only[argS];exact go0 aj0 aj0 aj0
def anSY093 : Ann:=⟨[],[]⟩
theorem Hw_ (H L:List ByteArray) (b:Bool) (s:ByteArray):Ac_ Tryz.prog 93 [dTab H L,.agg [.bool b,.str s]] (.tup [.int .i64 (numK (Rk_ H L b) s),.int .i64 (numE (Rk_ H L b) s)]):=by
 refine Aa_ [] anSY093 Tryz.func93 Tryz.call93 Tryz.ntmps93 mxd (aj2 @anSY093.eq_1 Tryz.results93) rfl (by simp) (by simp[mx]) fun hwf B hnt hgAnn=> ?_
 clear hwf;simp only[argS];have e1:=Ee_ H L;have hok:=tab_ok H L;unfold numK numE
 by_cases h:s∈Rk_ H L b
 ·obtain⟨j,h1,h2⟩:=tab_look h;rw[if_pos h,if_pos h];exact go0 (aj1 e1) aj0 (aj3 hok h1 h2)
 ·have h1:=UL_ h;rw[if_neg h,if_neg h];exact go0 (aj1 e1) aj0 (aj2 hok h1)
def anSY030 : Ann:=⟨[],[]⟩
theorem NH_ (H L:List ByteArray) (s:ByteArray):Ac_ Tryz.prog 30 [dTab H L,.str s] (.tup [.int .i64 (numK H s),.int .i64 (numE H s)]):=by
 refine Aa_ [] anSY030 Tryz.func30 Tryz.call30 Tryz.ntmps30 mxd (aj2 @anSY030.eq_1 Tryz.results30) rfl (by simp) (by simp[mx]) fun hwf B hnt hgAnn=> ?_
 clear hwf;simp only[argS];have e1:=Hw_ H L false s;rw[show Rk_ H L false=H from rfl]at e1;exact go0 (aj1 e1) aj0 aj0
def anSY095 : Ann:=⟨[],[]⟩
theorem IJ_ (H L:List ByteArray) (s:ByteArray):Ac_ Tryz.prog 95 [dTab H L,.str s] (.tup [.int .i64 (numK L s),.int .i64 (numE L s)]):=by
 refine Aa_ [] anSY095 Tryz.func95 Tryz.call95 Tryz.ntmps95 mxd (aj2 @anSY095.eq_1 Tryz.results95) rfl (by simp) (by simp[mx]) fun hwf B hnt hgAnn=> ?_
 clear hwf;simp only[argS];have e1:=Hw_ H L true s;rw[show Rk_ H L true=L from rfl]at e1;exact go0 (aj1 e1) aj0 aj0
def symS (H L:List ByteArray) (x:Nd):Sym:=if x.k=3 then (if x.s∈L then ⟨true,ixS L x.s⟩else ⟨false,0⟩)else if x.k=2 then (if x.s∈H then ⟨false,ixS H x.s⟩else ⟨false,0⟩)else ⟨false,0⟩
def symE (H L:List ByteArray) (x:Nd):Int:=if x.k=3 then numE L x.s else if x.k=2 then numE H x.s else 2
def Xo_ : Ann:=⟨[],[]⟩
set_option maxHeartbeats 1000000 in
theorem Nt_ (H L:List ByteArray) (x:Nd):Ac_ Tryz.prog 102 [dTab H L,.agg (dNd x)] (.tup [.agg (dSym (symS H L x)),.int .i64 (symE H L x)]):=by
 refine Aa_ [] Xo_ Tryz.func102 Tryz.call102 Tryz.ntmps102 mxd (aj2 @Xo_.eq_1 Tryz.results102) rfl (by simp) (by simp[mx]) fun hwf B hnt hgAnn=> ?_
 clear hwf;simp only[argS];have e1:=Ee_ H L;have e2:=NH_ H L x.s;have e3:=IJ_ H L x.s;unfold symS symE
 by_cases k3:x.k=3
 ·by_cases h:x.s∈L
  ·simp only[numK,numE,h,if_true]at e3;exact go0 (aj3 e1 e2 e3) aj0 (aj5 @dNd.eq_1 @dSym.eq_1 k3 h @numE.eq_1)
  ·simp only[numK,numE,h,if_false]at e3;exact go0 (aj3 e1 e2 e3) aj0 (aj5 @dNd.eq_1 @dSym.eq_1 k3 h @numE.eq_1)
 ·have k3':(x.k==3)=false:=by simpa using k3
  by_cases k2:x.k=2
  ·by_cases h:x.s∈H
   ·simp only[numK,numE,h,if_true]at e2;exact go0 (aj3 e1 e2 e3) aj0 (aj7 @dNd.eq_1 @dSym.eq_1 k3 k3' k2 h @numE.eq_1)
   ·simp only[numK,numE,h,if_false]at e2;exact go0 (aj3 e1 e2 e3) aj0 (aj7 @dNd.eq_1 @dSym.eq_1 k3 k3' k2 h @numE.eq_1)
  ·have k2':(x.k==2)=false:=by simpa using k2
   exact go0 (aj3 e1 e2 e3) aj0 (aj6 @dNd.eq_1 @dSym.eq_1 k3 k3' k2 k2')
def anSY033 : Ann:=⟨[],[]⟩
theorem FY_ (H L:List ByteArray):Ac_ Tryz.prog 33 [dTab H L] (AS_ H):=by
 refine Aa_ [] anSY033 Tryz.func33 Tryz.call33 Tryz.ntmps33 mxd (aj2 @anSY033.eq_1 Tryz.results33) rfl (by simp) (by simp[mx]) fun hwf B hnt hgAnn=> ?_
 clear hwf;simp only[argS];have e1:=Ee_ H L;have e2:=Mx_ H;exact go0 (aj2 e1 e2) aj0 aj0
theorem Iw_ {l:List ByteArray} {s:ByteArray} (h:s∈l):Cl_ l s=(ixS l s:Int):=by
 unfold Cl_ ixS;rw[if_pos (bZ0.2 ⟨s,h,by simp⟩)]
theorem LD_ {l:List ByteArray} {s:ByteArray} (h:¬s∈l):Cl_ l s= -1:=by
 unfold Cl_;rw[if_neg (fun hh=>h (by obtain⟨x,hx,hs⟩:=bZ0.1 hh;simp at hs;subst hs;exact hx))]
def Xm_ : Ann:=⟨[],[]⟩
theorem FT_ (l:List ByteArray) (s:ByteArray):Ac_ Tryz.prog 296 [AS_ l,.str s] (.tup [.int .i64 (numK l s),.int .i64 (numE l s)]):=by
 refine Aa_ [] Xm_ Tryz.func296 Tryz.call296 Tryz.ntmps296 mxd (aj2 @Xm_.eq_1 Tryz.results296) rfl (by simp) (by simp[mx]) fun hwf B hnt hgAnn=> ?_
 clear hwf;simp only[argS];have e1:=Ix_ l s;unfold numK numE
 by_cases h:s∈l
 ·rw[Iw_ h]at e1;rw[if_pos h,if_pos h];have hlt:¬(ixS l s:Int)<0:=by omega
  exact go0 (aj1 e1) aj0 (aj1 hlt)
 ·rw[LD_ h]at e1;rw[if_neg h,if_neg h];exact go0 (aj1 e1) aj0 aj0
def Xn_ : Ann:=⟨[],[]⟩
set_option maxHeartbeats 1000000 in
theorem JM_ (g:List Rul) (x:Nd) (hn:((AE_ 3 g).length+1)*16≤150000000000000):Ac_ Tryz.prog 208 [Av_ g,.agg (dNd x)] (.tup [.agg (dSym (symS (Ar_ g) (Ao_ g) x)),.int .i64 (symE (Ar_ g) (Ao_ g) x)]):=by
 refine Aa_ [] Xn_ Tryz.func208 Tryz.call208 Tryz.ntmps208 mxd (aj2 @Xn_.eq_1 Tryz.results208) rfl (by simp) (by simp[mx]) fun hwf B hnt hgAnn=> ?_
 clear hwf;simp only[argS];have e1:=Ce_ g;have e2:=Et_ g hn;obtain⟨H,hH⟩:∃H,H=Ar_ g:=⟨_,rfl⟩;obtain⟨L,hL⟩:∃L,L=Ao_ g:=⟨_,rfl⟩;rw[←hH]at e1;rw[←hL]at e2;rw[←hH,←hL];have e3:=FT_ H x.s;have e4:=FT_ L x.s;unfold symS symE
 by_cases k3:x.k=3
 ·by_cases h:x.s∈L
  ·simp only[numK,numE,h,if_true]at e4;exact go0 (aj3 e1 e2 e4) aj0 (aj5 @dNd.eq_1 @dSym.eq_1 k3 h @numE.eq_1)
  ·simp only[numK,numE,h,if_false]at e4;exact go0 (aj3 e1 e2 e4) aj0 (aj5 @dNd.eq_1 @dSym.eq_1 k3 h @numE.eq_1)
 ·have k3':(x.k==3)=false:=by simpa using k3
  by_cases k2:x.k=2
  ·by_cases h:x.s∈H
   ·simp only[numK,numE,h,if_true]at e3;exact go0 (aj3 e1 e2 e3) aj0 (aj7 @dNd.eq_1 @dSym.eq_1 k3 k3' k2 h @numE.eq_1)
   ·simp only[numK,numE,h,if_false]at e3;exact go0 (aj3 e1 e2 e3) aj0 (aj7 @dNd.eq_1 @dSym.eq_1 k3 k3' k2 h @numE.eq_1)
  ·have k2':(x.k==2)=false:=by simpa using k2
   exact go0 aj0 aj0 (aj6 @dNd.eq_1 @dSym.eq_1 k3 k3' k2 k2')
def bldO (i j:Nat) (T:ByteArray):List Ent:=if T.size=0 then [⟨i,1,.row 338 2 32 [[.nilp,.nilsl]]⟩]else [⟨i,1,.row 338 2 32 [[.rx i 1 2 0 0,.osl j 1]]⟩,⟨j,1,.row 5 1 1 (AH_ T)⟩]
theorem ME_ {i j:Nat} {T:ByteArray} (h:T.size=0):bldO i j T=[⟨i,1,.row 338 2 32 [[.nilp,.nilsl]]⟩]:=if_pos h
theorem IX_ {i j:Nat} {T:ByteArray} (h:T.size≠0):bldO i j T=[⟨i,1,.row 338 2 32 [[.rx i 1 2 0 0,.osl j 1]]⟩,⟨j,1,.row 5 1 1 (AH_ T)⟩]:=if_neg h
theorem size0 {T:ByteArray} (h:T.size=0):T=⟨#[]⟩:=by
 obtain⟨a⟩:=T;have:a= #[]:=Array.eq_empty_of_size_eq_zero h;rw[this]
theorem empty_app (x:ByteArray):(⟨#[]⟩:ByteArray)++x=x:=by
 apply Gs_
 simp[ByteArray.data_append]
def Yq_ : Ann:=⟨[],[]⟩
theorem Nc_ (s:ByteArray):Ac_ Tryz.prog 231 [.str s] (.bool (DQ_ 2 s)):=by
 refine Aa_ [] Yq_ Tryz.func231 Tryz.call231 Tryz.ntmps231 mxd (aj2 @Yq_.eq_1 Tryz.results231) rfl (by simp) (by simp[mx]) fun hwf B hnt hgAnn=> ?_
 clear hwf;simp only[argS];have e1:=PZ_ 2 (.inl rfl) s;simp only[Ca_]at e1;cases h:DQ_ 2 s
 ·rw[h]at e1;exact go0 (aj1 e1) aj0 aj0
 ·rw[h]at e1;exact go0 (aj1 e1) aj0 aj0
def Ld_ : Ann:=⟨[],[]⟩
theorem LZ_ (g:FuncId) (us cs:List DVal) (l:List Rul) (q:Rul→Bool) (hq:∀x∈l,Ac_ Tryz.prog g (us++[.agg (dRul x)]++cs) (.bool (q x))) :
  Ac_ Tryz.prog 303 [Av_ l,.fn (.func g) us cs] (.int .i64 (if l.any q then ((l.findIdx q:Nat):Int)else -1)):=by
 refine Aa_ [] Ld_ Tryz.func303 Tryz.call303 Tryz.ntmps303 mxd (aj2 @Ld_.eq_1 Tryz.results303) rfl (by simp) (by simp[mx]) fun hwf B hnt hgAnn=> ?_
 have hw1:=IH_ hwf.1;clear hwf;simp only[argS]
 (refine go1 aj0 aj0 aj0 ?_;intros;refine mk_i ?_)
 refine Ae_ (X:={k:Nat//k≤l.length∧∀i x,i<k→l[i]? =some x→q x=false}) (fun x=>⟨[(0,Av_ l),(1,.fn (.func g) us cs),(7,.int .i64 l.length),(8,.int .i64 x.1)],[]⟩) (fun x=>l.length-x.1) ⟨0,by simp⟩ (Sub.lit (by simp)) ?_;rintro⟨k,hk,hno⟩
 by_cases hlt:k<l.length
 ·obtain⟨x,hx,hx',hxm⟩:=Ak_ hlt;have hqx:=hq x hxm;simp only[dRul,aU0,List.cons_append,List.nil_append]at hqx;cases hb:q x
  ·rw[hb]at hqx
   have hno':∀i y,i<k+1→l[i]? =some y→q y=false:=by
    intro i y hi hy
    by_cases hik:i=k
    ·subst hik;rw[hx]at hy;simp only[aA0]at hy;subst hy;exact hb
    ·exact hno i y (by omega) hy
   (refine go1 (aj1 hqx) aj0 (aj3 @dRul.eq_1 hlt hx') ?_;intros;refine mk_i ?_)
   exact Aj_.mk ⟨k+1,by omega,hno'⟩ (Sub.lit (by simp[])) (by simp;omega)
   skip
  ·rw[hb]at hqx;have hany:l.any q=true:=bZ0.2 ⟨x,hxm,hb⟩
   have hidx:l.findIdx q=k:=by
    rw[List.findIdx_eq hlt];refine⟨by rw[hx'];exact hb,fun i hi=> ?_⟩;exact hno i _ hi (aH0 (by omega))
   exact go0 (aj1 hqx) aj0 (aj5 @dRul.eq_1 hlt hx' hany hidx)
 ·have hkk:k=l.length:=by omega
  have hany:l.any q=false:=by
   rw[dA0];intro x hx;obtain⟨i,hi,rfl⟩:=bN0 hx;rw[hno i _ (by omega) (aH0 hi)];simp
  (repeat (first | refine Aw_ fun K hK=> ?_ | (refine DW_r Ld_ mxd (by kernel_rfl) ?_;simp[Ld_,hnt,dRul,hkk,hany];try simp (disch:=omega) only[Ah_]) | refine Al_ ?_ | (refine AJ_ ?_ ?_ ?_;(· (simp[hnt,dRul,hkk,hany];done));(try (rotate_left;(· (intro hc;(try simp[hnt,dRul,hkk,hany]at hc);done))))) | (refine Ay_ ?_;simp[Tryz.results303,hnt,dRul,hkk,hany]) | ((first | refine Aq_ ?_ | refine Ap_ ?_);simp[hnt,dRul,hkk,hany]) | (intro hc;(try simp[hnt,dRul,hkk,hany]at hc);(try (exfalso;omega))) | ((first | refine Ag_ (hqx) ?_ | (refine Af_ (hqx) ?_ ?_;(· (simp;done))));try simp[hnt,dRul,hkk,hany]) | (refine⟨?_,?_⟩; · omega) | omega | apply_assumption -exfalso -symm | (exfalso;omega)))
def Yt_ : Ann:=⟨[],[]⟩
theorem IU_ (g:FuncId) (us cs:List DVal) (l:List Rul) (q:Rul→Bool) (hq:∀x∈l,Ac_ Tryz.prog g (us++[.agg (dRul x)]++cs) (.bool (q x))) :
  Ac_ Tryz.prog 228 [Av_ l,.fn (.func g) us cs] (.bool (l.any q)):=by
 refine Aa_ [] Yt_ Tryz.func228 Tryz.call228 Tryz.ntmps228 mxd (aj2 @Yt_.eq_1 Tryz.results228) rfl (by simp) (by simp[mx]) fun hwf B hnt hgAnn=> ?_
 simp only[argS];have hi:=LZ_ g us cs l q hq;have hge:(0:Int)≤(l.findIdx q:Nat):=by omega
 cases hb:l.any q
 ·rw[hb]at hi;exact go0 (aj1 hi) aj0 (aj1 hb)
 ·rw[hb]at hi;exact go0 (aj1 hi) aj0 (aj1 hb)
def badR (r:Rul):Bool:= !(DQ_ 2 r.h&&CO_ r.b)
def Yr_ : Ann:=⟨[],[]⟩
theorem Rp_ (r:Rul) (hs:r.b.length≤1572864):Ac_ Tryz.prog 230 [.agg (dRul r)] (.bool (badR r)):=by
 refine Aa_ [] Yr_ Tryz.func230 Tryz.call230 Tryz.ntmps230 mxd (aj2 @Yr_.eq_1 Tryz.results230) rfl (by simp) (by simp[mx]) fun hwf B hnt hgAnn=> ?_
 clear hwf;simp only[argS];have e1:=Nc_ r.h;unfold badR;cases h1:DQ_ 2 r.h
 ·rw[h1]at e1;exact go0 (aj1 e1) aj0 (aj1 @dRul.eq_1)
 ·rw[h1]at e1;cases h2:CO_ r.b
  ·have e2:=RV_ r.b hs h2;exact go0 (aj2 e1 e2) aj0 (aj1 @dRul.eq_1)
  ·obtain⟨t,ht,hb⟩:=Jj_ h2;have e2:=IO_ t ht (by rw[←hb];exact hs);rw[←hb]at e2;have hp:1≤htT t:=by cases t;rw[VN_];omega
   have hne:((htT t:Int)==0)=false:=by simp;omega
   exact go0 (aj2 e1 e2) aj0 (aj2 @dRul.eq_1 hne)
def Ym_ : Ann:=⟨[],[]⟩
theorem ord7_pure (h:ByteArray) (t:RT) (ht:okT t=true) (hs:(flat t).length≤1572864):Ac_ Tryz.prog 238 [.agg (dRul ⟨h,flat t⟩)] (.bool (decide (16<htT t))):=by
 refine Aa_ [] Ym_ Tryz.func238 Tryz.call238 Tryz.ntmps238 mxd (aj2 @Ym_.eq_1 Tryz.results238) rfl (by simp) (by simp[mx]) fun hwf B hnt hgAnn=> ?_
 clear hwf;simp only[argS];have e2:=IO_ t ht hs;have hd:decide (16<htT t)=decide ((16:Int)<(htT t:Int)):=decide_eq_decide.2 (by omega);rw[hd];exact go0 (aj1 e2) aj0 (aj1 @dRul.eq_1)
def Yu_ : Ann:=⟨[],[]⟩
theorem LG_ (f:FuncId) (g:List Rul) (q:Rul→Bool) (hq:∀x∈g,Ac_ Tryz.prog f [.agg (dRul x)] (.bool (q x))):Ac_ Tryz.prog 227 [Av_ g,.ref [.fn (.func f) [] []]] (.bool (g.any q)):=by
 refine Aa_ [] Yu_ Tryz.func227 Tryz.call227 Tryz.ntmps227 mxd (aj2 @Yu_.eq_1 Tryz.results227) rfl (by simp) (by simp[mx]) fun hwf B hnt hgAnn=> ?_
 clear hwf;simp only[argS];have e1:=IU_ f [] [] g q fun x hx=>by simpa using hq x hx
 exact go0 (aj1 e1) aj0 aj0
def Ys_ : Ann:=⟨[],[]⟩
theorem LF_ (g:List Rul):Ac_ Tryz.prog 229 [Av_ g] (.bool (decide (g.length<1)||decide (64<g.length))):=by
 refine Aa_ [] Ys_ Tryz.func229 Tryz.call229 Tryz.ntmps229 mxd (aj2 @Ys_.eq_1 Tryz.results229) rfl (by simp) (by simp[mx]) fun hwf B hnt hgAnn=> ?_
 clear hwf;simp only[argS];have h1:decide (g.length<1)=decide ((g.length:Int)<1):=decide_eq_decide.2 (by omega);have h2:decide (64<g.length)=decide ((64:Int)<(g.length:Int)):=decide_eq_decide.2 (by omega);rw[h1,h2]
 by_cases c:(g.length:Int)<1
 ·exact go0 aj0 aj0 (aj1 c)
 ·exact go0 aj0 aj0 (aj1 c)
def Yl_ : Ann:=⟨[],[]⟩
theorem ord8_pure (g:List Rul) (hn:(AE_ 2 g).length≤9223372036854775807):Ac_ Tryz.prog 239 [Av_ g] (.bool (decide (0<(Do_ g).length))):=by
 refine Aa_ [] Yl_ Tryz.func239 Tryz.call239 Tryz.ntmps239 mxd (aj2 @Yl_.eq_1 Tryz.results239) rfl (by simp) (by simp[mx]) fun hwf B hnt hgAnn=> ?_
 clear hwf;simp only[argS];have e1:=Ga_ g hn;have h2:decide (0<(Do_ g).length)=decide ((0:Int)<((Do_ g).length:Int)):=decide_eq_decide.2 (by omega);rw[h2];exact go0 (aj1 e1) aj0 aj0
def Yp_ : Ann:=⟨[],[]⟩
theorem ord4_pure (g:List Rul) (hl:g.length≤64) (hs:SmlG g):Ac_ Tryz.prog 233 [Av_ g] (.bool (decide (16<(Ar_ g).length+(Do_ g).length))):=by
 refine Aa_ [] Yp_ Tryz.func233 Tryz.call233 Tryz.ntmps233 mxd (aj2 @Yp_.eq_1 Tryz.results233) rfl (by simp) (by simp[mx]) fun hwf B hnt hgAnn=> ?_
 clear hwf;simp only[argS];have n2:=Df_ (k:=2) hs;have e1:=Ga_ g (by omega);have e2:=Gm_ g;have b1:=GN_ g
 have b2:(Do_ g).length≤110000000:=by
  have:=FM_ (AE_ 2 g);have:=cI0 (fun s=> !decide (s∈Ar_ g)) (FH_ (AE_ 2 g));unfold Do_;omega
 obtain⟨H,hH⟩:∃H,H=Ar_ g:=⟨_,rfl⟩;obtain⟨m,hm⟩:∃m,m=(Do_ g).length:=⟨_,rfl⟩;rw[←hH]at e2 b1;rw[←hm]at e1 b2;rw[←hH,←hm];have h2:decide (16<H.length+m)=decide ((16:Int)<(H.length:Int)+(m:Int)):=decide_eq_decide.2 (by omega);rw[h2];have w1:IntKind.i64.wrap ((H.length:Int)+(m:Int))=(H.length:Int)+(m:Int):=wq;exact go0 (aj2 e1 e2) aj0 (aj1 w1)
def Yn_ : Ann:=⟨[],[⟨4,[5],[],[]⟩]⟩
theorem Zl_ (g:List Rul) (hs:SmlG g) (hl:g.length≤64):Ac_ Tryz.prog 237 [Av_ g] (.int .i64 (occG g)):=by
 refine Aa_ [] Yn_ Tryz.func237 Tryz.call237 Tryz.ntmps237 mxd (aj2 @Yn_.eq_1 Tryz.results237) rfl (by simp) (by simp[mx]) fun hwf B hnt hgAnn=> ?_
 clear hwf;simp only[argS];have ho:=TE_ hs
 (refine go1 aj0 aj0 aj0 ?_;intros;refine mk_i ?_)
 refine Ae_ (X:={i:Nat//i≤g.length}) (fun i=>⟨[(0,Av_ g),(3,.int .i64 (occG (g.take i.1))),(6,Av_ g),(7,.int .i64 g.length),(8,.int .i64 i.1)],[]⟩) (fun i=>g.length-i.1) ⟨0,by omega⟩ (Sub.lit (by simp[occG])) ?_;rintro⟨i,hi⟩;simp only
 by_cases hlt:i<g.length
 ·obtain⟨r,hr,hr',hrm⟩:=Ak_ hlt;have e1:=NG_ r.b;have h1:=Rw_ hr;have h2:=JQ_ g (i+1);have h3:=TD_ r.b;have w1:IntKind.i64.wrap ((occG (g.take i):Int)+(occN r.b:Int))=(occG (g.take (i+1)):Int):=by rw[wq];omega
  have w2:IntKind.i64.wrap ((i:Int)+1)=(i:Int)+1:=wq
  (refine go1 (aj1 e1) aj0 (aj6 @dRul.eq_1 hlt hr hr' w1 w2) ?_;intros;refine mk_i ?_)
  refine Aj_.mk ⟨i+1,by omega⟩ (Sub.lit (by simp)) (by simp;omega)
  skip
 ·have hkk:i=g.length:=by omega
  subst hkk;rw[aQ0];exact go0 aj0 aj0 aj0
def Yo_ : Ann:=⟨[],[]⟩
theorem ord6_pure (g:List Rul) (hs:SmlG g) (hl:g.length≤64):Ac_ Tryz.prog 236 [Av_ g] (.bool (decide (64<occG g))):=by
 refine Aa_ [] Yo_ Tryz.func236 Tryz.call236 Tryz.ntmps236 mxd (aj2 @Yo_.eq_1 Tryz.results236) rfl (by simp) (by simp[mx]) fun hwf B hnt hgAnn=> ?_
 clear hwf;simp only[argS];have e1:=Zl_ g hs hl;have h2:decide (64<occG g)=decide ((64:Int)<(occG g:Int)):=decide_eq_decide.2 (by omega);rw[h2];exact go0 (aj1 e1) aj0 aj0
def Eu_ (t:RT):Bool:=decide ((flat t).length≤2048)&&decide (CR_ t=0)
def printD (t:RT):DVal:=if (flat t).length≤2048 then (if CR_ t=0 then .tup [.str (txtT t),.int .i64 0]else .tup [.str ⟨#[]⟩,.int .i64 (CR_ t)])else .tup [.str ⟨#[]⟩,.int .i64 3]
def Hi_ : Ann:=⟨[],[]⟩
theorem ON_ (t:RT) (ht:okT t=true):Ac_ Tryz.prog 304 [dNds (flat t)] (printD t):=by
 unfold printD
 by_cases hl:(flat t).length≤2048
 ·rw[if_pos hl];have e1:=Kb_ t ht hl;have e2:=JH_ _ t rfl ht (by omega);obtain⟨b,hb⟩:∃b,b=flat t:=⟨_,rfl⟩;rw[←hb]at e1 e2 ⊢
  by_cases h0:CR_ t=0
  ·rw[if_pos h0];rw[h0]at e1;refine Aa_ [] Hi_ Tryz.func304 Tryz.call304 Tryz.ntmps304 mxd (aj2 @Hi_.eq_1 Tryz.results304) rfl (by simp) (by simp[mx]) fun hwf B hnt hgAnn=> ?_
   clear hwf;simp only[argS];exact go0 (aj2 e1 e2) aj0 aj0
  ·rw[if_neg h0];have h0':(CR_ t != 0)=true:=by simpa using h0
   refine Aa_ [] Hi_ Tryz.func304 Tryz.call304 Tryz.ntmps304 mxd (aj2 @Hi_.eq_1 Tryz.results304) rfl (by simp) (by simp[mx]) fun hwf B hnt hgAnn=> ?_
   clear hwf;simp only[argS];have z0:(⟨#[]⟩:ByteArray).size≤maxLen:=cL0 _;exact go0 (aj1 e1) aj0 (aj3 h0 h0' z0)
 ·rw[if_neg hl];have e1:=Kc_ (flat t) (by omega);obtain⟨b,hb⟩:∃b,b=flat t:=⟨_,rfl⟩;rw[←hb]at e1 ⊢;refine Aa_ [] Hi_ Tryz.func304 Tryz.call304 Tryz.ntmps304 mxd (aj2 @Hi_.eq_1 Tryz.results304) rfl (by simp) (by simp[mx]) fun hwf B hnt hgAnn=> ?_
  clear hwf;simp only[argS];have z0:(⟨#[]⟩:ByteArray).size≤maxLen:=cL0 _;exact go0 (aj1 e1) aj0 (aj1 z0)
theorem Lm_ (x:ByteArray) (hx:x.size≠0):AM_ Tryz.prog (.func 306) [.rx 0 0 2 0 0] [⟨0,0,.row 338 2 32 [[.rx 0 0 2 0 0,.osl 1 0]]⟩,⟨1,0,.row 5 1 1 (AH_ x)⟩] (.str x) [⟨0,0,.row 338 2 32 [[.rx 0 0 2 0 0,.sl 1 1 (AH_ x)]]⟩] :=
 Hn_ Tryz.bldString Wn_ Tryz.call306 32 x hx
def Yj_ : Ann:=⟨[],[]⟩
theorem TM_ (x:ByteArray):AM_ Tryz.prog (.func 307) [.rx 0 0 2 0 0] [⟨0,0,.row 338 2 32 [[.rx 0 0 2 0 0,.sl 1 1 (AH_ x)]]⟩] (.int .i64 x.size) [⟨0,0,.row 338 2 32 [[.rx 0 0 2 0 0,.sl 1 1 (AH_ x)]]⟩]:=by
 refine AP_ [] [(0,0,0)] Yj_ Tryz.func307 Tryz.call307 Tryz.ntmps307 mxd (aj2 @Yj_.eq_1 Tryz.results307) rfl (by simp) (by simp) (by simp[EG_]) fun hwf B hnt hgAnn=> ?_
 clear hwf;simp only[argS];have h1:=AF_ x;have h2:=EG_ x;obtain⟨D,hD⟩:∃D,D=AH_ x:=⟨_,rfl⟩;rw[←hD]at h1 h2 ⊢;exact go0 aj0 aj0 (aj1 h1)
theorem QZ_ (p:ByteArray×RT):(Kf_ p).size≠0:=by
 unfold Kf_;simp only[aS0];have z3:(⟨#[32,61,32]⟩:ByteArray).size=3:=rfl;omega
def JP_ (gt:GT):Bool:=gt.all (fun p=>Eu_ p.2)&&decide ((Cj_ gt).size≤2048)
def textR (gt:GT):ByteArray:=if gt.all (fun p=>Eu_ p.2)then Cj_ gt else ⟨#[]⟩
theorem textG_pos {gt:GT} (h:1≤gt.length):(Cj_ gt).size≠0:=by
 have h1:=EC_ (aH0 (show 0<gt.length by omega));have h2:=Ij_ gt 1;rw[h1,aS0]at h2;have:=QZ_ (gt[0]'(by omega));omega
def Lc_ : Ann:=⟨[29,31,32],[⟨1,[4],[],[]⟩,⟨4,[6],[],[]⟩]⟩
set_option maxHeartbeats 4000000 in
theorem QH_ (gt:GT) (hk:OkG gt) (hs:SmlG (mkG gt)) (h1:1≤gt.length) (hl:gt.length≤64):Ac_ Tryz.prog 241 [Av_ (mkG gt)] (.tup [.str (textR gt),.bool (JP_ gt)]):=by
 refine Aa_ [] Lc_ Tryz.func241 Tryz.call241 Tryz.ntmps241 mxd (aj2 @Lc_.eq_1 Tryz.results241) rfl (by simp) (by simp[mx]) fun hwf B hnt hgAnn=> ?_
 clear hwf;simp only[argS];have hml:=DW_ gt;have hat:=fun i p=>mkG_at (gt:=gt) (i:=i) (p:=p)
 have hsm:=fun p=>Ip_ hs (p:=p)
 have hts:=Jl_ hk hs;have hrs:=fun p=>Nx_ hk hs (p:=p)
 obtain⟨g,hg⟩:∃g,g=mkG gt:=⟨_,rfl⟩;rw[←hg]at hml hat ⊢;clear hs hg;obtain⟨R,hR⟩:∃R,R=textR gt:=⟨_,rfl⟩;obtain⟨O,hO⟩:∃O,O=JP_ gt:=⟨_,rfl⟩;rw[←hR,←hO];have z3:(⟨#[32,61,32]⟩:ByteArray).size=3:=rfl;have z4:(⟨#[32,59,10]⟩:ByteArray).size=3:=rfl;have m3:3≤maxLen:=by decide
 have m1:1≤maxLen:=by decide
 have mbig:3000000000≤maxLen:=by decide
 have z0:(⟨#[]⟩:ByteArray).size≤maxLen:=cL0 _;refine Aw_ fun K0 hK0=> ?_
 (first | refine Aw_ fun K hK=> ?_ | (refine DW_r Lc_ mxd (by kernel_rfl) ?_;simp[Lc_,hnt,z0];try simp (disch:=omega) only[Ah_]) | refine Al_ ?_ | (refine AJ_ ?_ ?_ ?_;(· (simp[hnt,z0];done));(try (rotate_left;(· (intro hc;(try simp[hnt,z0]at hc);done))))) | (refine Ay_ ?_;simp[Tryz.results241,hnt,z0]) | ((first | refine Aq_ ?_ | refine Ap_ ?_);simp[hnt,z0]) | (intro hc;(try simp[hnt,z0]at hc);(try (exfalso;omega))) | (refine⟨?_,?_⟩; · omega) | omega | apply_assumption -exfalso -symm | (exfalso;omega))
 apply hK0
 refine Aw_ fun K1 hK1=> ?_
 refine Ji_ (bs:=32) (k:=2) (z:=[.nilp,.nilsl]) (by simp[hnt]) (by simp) (by rfl) rfl (by decide) (fun r hr=> ?_);simp
 apply hK1
 (refine go1 aj0 aj0 aj0 ?_;intros;refine mk_i ?_)
 refine Ae_ (X:={i:Nat//i≤gt.length∧(gt.take i).all (fun p=>Eu_ p.2)=true}) (fun i=>⟨[(0,Av_ g),(4,.rx 4 1 2 0 0),(9,Av_ g),(10,.int .i64 gt.length),(11,.int .i64 i.1)],bldO 4 50 (Cj_ (gt.take i.1))⟩) (fun i=>gt.length-i.1) ⟨0,by simp⟩ (Sub.lit (by simp only[List.take_zero,show Cj_ []=⟨#[]⟩ from rfl,ME_ (T:=⟨#[]⟩) rfl];simp[hml])) ?_;rintro⟨i,hi,hall⟩;simp only
 by_cases hlt:i<gt.length
 ·obtain⟨p,hp,hp',hpm⟩:=Ak_ hlt;have hr:=hat i p hp;have hlt2:i<g.length:=by omega
  have hr':g[i]'hlt2=⟨p.1,flat p.2⟩:=(aB0.1 hr).2;have e1:=ON_ p.2 (hk p hpm).2;have w2:IntKind.i64.wrap ((i:Int)+1)=(i:Int)+1:=wq;unfold printD at e1;obtain⟨b,hb⟩:∃b,b=flat p.2:=⟨_,rfl⟩;have hall1:(gt.take (i+1)).all (fun p=>Eu_ p.2)=Eu_ p.2:=by rw[bF0,hp,eU0,hall];simp
  by_cases hpr:Eu_ p.2=true
  ·have hpr2:=hpr;unfold Eu_ at hpr2;rw[aN0,decide_eq_true_eq,decide_eq_true_eq]at hpr2;rw[if_pos hpr2.1,if_pos hpr2.2]at e1;rw[←hb]at hr hr' e1;rw[hpr]at hall1;have hnx:=EC_ hp;have hrs1:=hrs p hpm;have hts1:=hts i hi;have hrp:=QZ_ p;have hrd:Kf_ p=p.1++⟨#[32,61,32]⟩++txtT p.2++⟨#[32,59,10]⟩:=rfl;obtain⟨s,hs⟩:∃s,s=txtT p.2:=⟨_,rfl⟩;rw[←hs]at e1 hrd;obtain⟨T,hT⟩:∃T,T=Cj_ (gt.take i):=⟨_,rfl⟩;rw[←hT]at hnx hts1 ⊢
   obtain⟨U,hU⟩:∃U,U=Kf_ p:=⟨_,rfl⟩;rw[←hU]at hrs1 hrp hrd hnx;have hUs:U.size=p.1.size+3+s.size+3:=by rw[hrd];simp only[aS0,z3,z4]
   have y2:p.1.size+3≤maxLen:=by omega
   have y3:p.1.size+3+s.size≤maxLen:=by omega
   have y4:p.1.size+3+s.size+3≤maxLen:=by omega
   have hNs:(Cj_ (gt.take (i+1))).size≠0:=by rw[hnx,aS0];omega
   have hnew:=IX_ (i:=4) (j:=50) hNs
   by_cases hT0:T.size=0
   ·rw[ME_ hT0];have e2:=FK_ U (by omega);rw[size0 hT0,empty_app]at hnx;rw[hrd]at e2
    (refine go1 (aj1 e1) (aj1 (spc [(4,0)] [(50,1)] e2)) (aj14 @dRul.eq_1 hlt hlt2 hr hr' z3 z4 m3 m1 y2 y3 y4 @aS0 w2) ?_;intros;refine mk_i ?_)
    refine Aj_.mk ⟨i+1,by omega,hall1⟩ (Sub.lit (by rw[hnew,hnx,hrd];simp)) (by simp;omega)
    skip
   ·rw[IX_ hT0];have e2:=BO_ T U (by omega);rw[←hnx]at e2;rw[hrd]at e2
    (refine go1 (aj1 e1) (aj1 (spc [(4,0),(50,1)] [] e2)) (aj14 @dRul.eq_1 hlt hlt2 hr hr' z3 z4 m3 m1 y2 y3 y4 @aS0 w2) ?_;intros;refine mk_i ?_)
    refine Aj_.mk ⟨i+1,by omega,hall1⟩ (Sub.lit (by rw[hnew];simp)) (by simp;omega)
    skip
  ·have hall2:gt.all (fun p=>Eu_ p.2)=false:=by
    rw[eE0];intro hh;rw[bA0]at hh;exact hpr (hh p hpm)
   have hR2:R=⟨#[]⟩:=by rw[hR];unfold textR;rw[hall2];rfl
   have hO2:O=false:=by rw[hO];unfold JP_;rw[hall2];rfl
   subst hR2;subst hO2
   obtain⟨c,hc0,e2⟩:∃c:Int,(c != 0)=true∧Ac_ Tryz.prog 304 [dNds (flat p.2)] (.tup [.str ⟨#[]⟩,.int .i64 c]):=by
    by_cases hl2:(flat p.2).length≤2048
    ·rw[if_pos hl2]at e1
     by_cases h0:CR_ p.2=0
     ·exact absurd (by unfold Eu_;simp[hl2,h0]) hpr
     ·rw[if_neg h0]at e1;exact⟨_,by simpa using h0,e1⟩
    ·rw[if_neg hl2]at e1;exact⟨3,rfl,e1⟩
   have hc1:¬c=0:=by simpa using hc0
   rw[←hb]at hr hr' e2;obtain⟨T,hT⟩:∃T,T=Cj_ (gt.take i):=⟨_,rfl⟩;rw[←hT];clear e1
   by_cases hT0:T.size=0
   ·rw[ME_ hT0];exact go0 (aj1 e2) aj0 (aj8 @dRul.eq_1 hlt hlt2 hr hr' hc0 hc1 z0)
   ·rw[IX_ hT0];exact go0 (aj1 e2) aj0 (aj8 @dRul.eq_1 hlt hlt2 hr hr' hc0 hc1 z0)
 ·have hkk:i=gt.length:=by omega
  subst hkk;rw[aQ0]at hall ⊢;have hne:=textG_pos h1;have hts1:=hts gt.length (Nat.le_refl _);rw[aQ0]at hts1;have hR2:R=Cj_ gt:=by rw[hR];unfold textR;rw[hall];rfl
  have hO2:O=decide ((Cj_ gt).size≤2048):=by rw[hO];unfold JP_;rw[hall];rfl
  obtain⟨T,hT⟩:∃T,T=Cj_ gt:=⟨_,rfl⟩;rw[←hT]at hne hR2 hO2 hts1 ⊢;have hO3:decide (T.size≤2048)=decide ((T.size:Int)≤2048):=decide_eq_decide.2 (by omega);rw[hO3]at hO2;clear hR hO hO3;subst hR2;subst hO2;rw[IX_ hne];have e1:=Lm_ R hne;have e2:=TM_ R;have h2:=EG_ R;exact go0 aj0 (aj2 (spc [(4,0),(50,1)] [] e1) (spc [(4,0)] [] e2)) (aj1 hml)
end Go.Proofs.YtchgnpnbcjflcaaGreat
end
section
namespace Go.Proofs.YtchgnpnbcjflcaaGreat
open Go Go.Dm Go.RowKit Go.Maps Go.Sort Go.Shelf Go.Proofs
set_option maxRecDepth 100000
theorem sortsS (m:Nat):AnyZ.SortsIn Tryz.prog Tryz.sortedM_ren Fence.wide m :=
 ⟨fun blk off cap ss W hH hblk hsz=>callsIn_wide.2 (AnyM.slices_Sort_string Tryz.sortStr blk off cap ss W hH hblk hsz),
  fun p cap W=>callsIn_wide.2 (AnyM.slices_Sort_string_none Tryz.sortStr p cap W)⟩
theorem QN_ {cur:Cur} {M:List Nat} {h:Array Obj}:∀{K:List ByteArray} {vs:List Value},rdV cur M h (Er_ K) vs→vs=K.map Value.string∧∀s∈K,s.size≤maxLen
 | [],vs,hr=>by
  simp only[Er_,List.map_nil,rdV]at hr;subst hr;simp
 | s::K,vs,hr=>by
  rw[Cu_]at hr;simp only[rdV,Dm.rd]at hr;obtain⟨v,r,rfl,⟨rfl,hs⟩,h2⟩:=hr;obtain⟨h3,h4⟩:=QN_ h2;subst h3;refine⟨rfl,fun x hx=> ?_⟩
  rcases aK0.1 hx with rfl | hx
  ·exact hs
  ·exact h4 x hx
def anyR : Value→Option (DataW Unit×List MemPlace):=fun _=>some (.nil,[])
theorem owns_of {w:World} {b:Nat} {es:Array MapEntry} {clk:Nat} {K:List ByteArray} (hb:w.heap[b]? =some (.map es clk)) (hB:Oc_ es clk) (hk:es.toList.map (·.key)=K.map Value.string) (hsz:∀s∈K,s.size≤maxLen) (hn:K.Nodup) (hl:K.length≤maxLen) :
  ∃D0:DataW Unit,w.ownsMap Tryz.prog 9 anyR b K.length D0∧(strKeys D0).Perm (K.map fun s=>s.data.toList)∧Maps.size D0=K.length:=by
 have hes:es.size=K.length:=by
  have:=congrArg List.length hk;simpa using this
 have hread:∀x∈es.toList,∃s∈K,x.key= .string s∧WideElems.rd Tryz.prog 9 anyR x=some (.string s.data.toList,.nil):=by
  intro x hx;have:x.key∈K.map Value.string:=by rw[←hk];exact cW0 hx
  obtain⟨s,hs,he⟩:=aV0.1 this;refine⟨s,hs,he.symm,?_⟩;obtain⟨k,v,bn⟩:=x;simp only at he;subst he;exact WideElems.rd_mk (WideMaps.keyOf_string_mk Tryz.underlying9 (hsz s hs)) (show anyR v=some (.nil,[]) from rfl)
 have hE:es.toList.map (WideElems.rg Tryz.prog 9 anyR)=K.map fun s=>(Lit.string s.data.toList,DataW.nil):=by
  have h1:es.toList.map (WideElems.rg Tryz.prog 9 anyR)=(es.toList.map (·.key)).map fun v=>match v with | .string s=>(Lit.string s.data.toList,DataW.nil) | _=>(.bool false,.nil):=by
   rw[cB0];refine cJ0 fun x hx=> ?_
   obtain⟨s,_,he,hr⟩:=hread x hx;rw[WideElems.rg_of hr];simp[he]
  rw[h1,hk,cB0];rfl
 refine⟨_,⟨es,clk,hb,⟨by omega,⟨hB.2,hB.1,?_⟩,fun x hx=> ?_⟩,by omega,rfl⟩,?_,?_⟩
 ·rw[hk];exact dL0.2 (hn.imp fun h e=>h (by cases e;rfl))
 ·obtain⟨s,_,_,hr⟩:=hread x hx;exact⟨_,hr⟩
 ·show ((_:List (Lit×DataW Unit)).map fun p=>strOf p.1).Perm _
  refine((WideShapes.sorted_perm _).map _).trans ?_;rw[hE,cB0];exact List.Perm.refl _
 ·show (_:List (Lit×DataW Unit)).length=_
  rw[(WideShapes.sorted_perm _).length_eq,hE,aJ0]
theorem upd_below {w w':World} (h:Below w.heap.size w w'):Upd [] w w':=⟨h.os,h.tape,h.output,fun hd=>Bool.noConfusion hd,h.size,fun b hb _=>h.block b hb⟩
theorem QR_ {K:List ByteArray} (hn:K.Nodup):Str (Eb_ K):=by
 have h1:=JI_ K
 have h2:(Eb_ K).Nodup:=by
  unfold Eb_;refine dL0.2 (List.Pairwise.imp (R:=(· ≠ ·)) (fun {a b:List UInt8} h (e:(⟨a.toArray⟩:ByteArray)=⟨b.toArray⟩)=>h (by have:=congrArg (fun x:ByteArray=>x.data.toList) e;simpa using this)) ?_);exact(dU0 _ _).nodup_iff.2 (dL0.2 (hn.imp fun h e=>h (Gs_ e)))
 refine(h1.and h2).imp ?_;rintro a b ⟨h3,h4⟩;cases h5:Dn_ a b
 ·exact absurd (Ir_ h5 h3) h4
 ·rfl
theorem YP_ {K es:List ByteArray} (hn:K.Nodup) (hm:∀s,s∈K↔s∈es):Eb_ K=FH_ es:=uniq_of (QR_ hn) fun x=>by rw[QS_,hm x]
set_option maxHeartbeats 2000000 in
theorem II_ (g:List Rul) (hsm:(AE_ 3 g).length*16≤140737488355328):Ac_ Tryz.prog 92 [Av_ g] (AS_ (Ao_ g)):=by
 refine⟨Tryz.call92,by simp[mx],fun cur M w vs hM hr=> ?_⟩;simp only[rdV]at hr;obtain⟨v0,r0,hvs,h0,rfl⟩:=hr;have hvs':vs= #[v0]:=by cases vs;simpa using hvs
 subst hvs';have hok:=cnt_ok (AE_ 3 g);have hN:=IC_ g 3;obtain⟨m,hm⟩:∃m,m=cntL (AE_ 3 g):=⟨_,rfl⟩;rw[←hm]at hN hok;obtain⟨_,_,hN⟩:=hN
 have hN:=(hN M w (fun _=>⟨[],Go.undef⟩) #[v0,.int .i64 3] ⟨by simp,by simp[Ab_],by simp[Ab_],fun b hb=>hM b (by simpa[Ab_]using hb),by simp⟩ (by
  simp only[rdV];refine⟨v0,_,rfl,?_,_,_,rfl,by simp[Dm.rd],rfl⟩
  exact BR_ (n:=0) ⟨fun _ _ _ h _=>absurd h (Nat.not_lt_zero _),fun _ _ _ _ h=>h,fun b _ hb _ _ hm=>hb (by simpa[Ab_]using hm)⟩ _ _ (by simp[mx]) h0)).2
 have cK:∀mb W,CallsIn Fence.wide 5 Tryz.prog 175 #[.map mb] W fun e w'=>e= .returned (.func (.func 259) #[] #[.pointer (some ⟨W.heap.size,0,none⟩)])∧w'=W.alloc (.cells #[.map mb] 241):=fun mb W=>AnyZ.keys_in Tryz.keysM Fence.wide 5 trivial rfl mb W
 have hf1:Fence.wide.fn 176:=trivial;have hf2:Fence.wide.fn 175:=trivial;have hf3:Fence.wide.fn 174:=trivial;refine(callsIn_wide (n:=6)).1 ?_;refine callsIn_of_wp Tryz.func92 rfl trivial ?_ rfl;simp only[Tryz.ntmps92,dG0,List.length_cons,List.length_nil,Nat.reduceAdd,Nat.reduceSub,Array.replicate_succ,Array.replicate_zero,List.push_toArray,List.append_toArray,List.nil_append,List.cons_append]
 gi_wp2_with (gi_at_call 176;refine(callsIn_wide.2 hN).mono ?_;rintro e w1 ⟨v1,rfl,loc1,S1,U1,hnew1,hver1,hrd1⟩)
 simp only[Dm.rd]at hrd1;obtain⟨b,hb1,rfl⟩:=hrd1 (loc1 0) rfl;have hO:=S1.ok _ (aE0.2 rfl);obtain⟨b',es,clk,hb2,hheap,hborn,hkeys,_⟩:=hO;simp only at hb2;rw[hb1]at hb2;simp only[bH0,and_true]at hb2;subst hb2;obtain⟨hke,hks⟩:=QN_ hkeys;have hlen:m.K.length≤(AE_ 3 g).length:=hok.le;have hmax:m.K.length≤maxLen:=by unfold maxLen;omega
 have hblt:b<w1.heap.size:=(aG0.1 hheap).1;obtain⟨D0,hown,hperm,hsize⟩:=owns_of (w:=w1.alloc (.cells #[.map (some b)] 241)) (b:=b) (by rw[←hheap];simp only[World.alloc,bV0];rw[if_neg (by omega)]) hborn hke hks hok.nd hmax
 gi_wp2_with (gi_at_call 175;refine(cK _ _).mono ?_;rintro e w2 ⟨rfl,rfl⟩)
 have hseq:SeqGives Fence.wide 2 Tryz.prog 259 #[.pointer (some ⟨w1.heap.size,0,none⟩)] encStr (fun ss=>ss.Perm (strKeys D0)) (Maps.size D0) (w1.alloc (.cells #[.map (some b)] 241)) :=
  AnyZ.keys_gives (ρ:=Tryz.keysM_ren) { Tryz.keysM with } Fence.wide _ trivial rfl (by omega) w1.heap.size b m.K.length D0 _ (by simp) (by simp) hown
 have cS:=AnyZ.sorted_in Tryz.sortedM Fence.wide 5 trivial trivial trivial trivial rfl (by omega) (sortsS _) (enters_of Tryz.func258 (by kernel_rfl) rfl) 259 #[.pointer (some ⟨w1.heap.size,0,none⟩)] trivial (enters_of Tryz.func259 (by kernel_rfl) rfl) _ _ (by omega) (by omega) _ hseq
 change CallsIn _ _ Tryz.prog 174 _ _ _ at cS
 gi_wp2_with (gi_at_call 174;refine cS.mono ?_;rintro e w3 ⟨v,ss,rfl,hS,hrow,hnil,hb3⟩)
 go_ret
 have hU:Upd [] w w3:=(show Upd [] w w1 from U1).trans ((Upd.alloc [] w1 _).trans (upd_below hb3) (by simp)) (by simp)
 have hss:(ss.mergeSort fun x y=>decide (x≤y)).map (fun x=>(⟨x.toArray⟩:ByteArray))=Ao_ g:=by
  have h1:ss.mergeSort leB=(m.K.map fun s=>s.data.toList).mergeSort leB:=mergeSort_of_perm (hS.trans hperm);have h2:=YP_ hok.nd hok.mem;unfold Eb_ at h2;unfold Ao_;rw[←h2,←h1]
 have hssl:ss.length=m.K.length:=by rw[hS.length_eq,hperm.length_eq,aJ0]
 refine⟨v,rfl,hU,?_⟩;simp only[Dm.rd];rw[←hss];obtain⟨_,hrow⟩:=hrow
 rcases hrow with ⟨rfl,hz⟩ | ⟨gb,cap,cur2,rfl,hbase,hgb,r1,r2,r3,r4⟩
 ·have h0:ss=[]:=bO0 hz;subst h0;exact⟨none,0,by simp,by simp,by simp,by simp,.inl ⟨by simp,fun _=>rfl⟩⟩
 ·have hml:(ss.mergeSort fun x y=>decide (x≤y)).length=ss.length:=List.length_mergeSort _;refine⟨some ⟨gb,0,none⟩,cap,by simp,by simpa using r1,r2,?_,.inr ⟨gb,0,cur2,_,(0,0),rfl,fun hm=> ?_,hgb,?_⟩⟩
  ·simp only[aJ0,hml];omega
  ·have h1:=hM gb hm;have h2:=U1.size;simp at hbase;omega
  ·refine FC_ _ _ _ _ fun i cs hi=> ?_
   rw[bI0,bI0,Option.map_map,bE0]at hi;obtain⟨x,hx,rfl⟩:=hi;refine⟨rfl,?_⟩;have hil:i<ss.length:=by have:=(aB0.1 hx).1;omega
   have hcell:cur2[i]? =some (encStr x):=by
    have h1:(cur2.toList.take (ss.length*1))[i]? =some (encStr x):=by rw[r4,bI0,hx];rfl
    rw[bY0 (by omega)]at h1;simpa using h1
   have hxs:x.length≤maxLen:=by
    have h1:x∈m.K.map fun s=>s.data.toList:=(hS.trans hperm).mem_iff.1 ((dU0 ss _).mem_iff.1 (bL0 hx))
    obtain⟨s,hs,rfl⟩:=aV0.1 h1;exact hks s hs
   simp only[Function.comp_apply,dStr,rdC,and_true];exact⟨encStr x,by simpa using hcell,rfl,by simp only[Dm.rd];exact⟨trivial,hxs⟩⟩
end Go.Proofs.YtchgnpnbcjflcaaGreat
end
section
namespace Go.Proofs.YtchgnpnbcjflcaaGreat
open Go Go.Dm
attribute [local irreducible] DW Bj_ Bp_
set_option maxRecDepth 100000
def Yg_ : Ann:=⟨[],[]⟩
theorem ord5_pure (g:List Rul) (hl:g.length≤64) (hs:SmlG g):Ac_ Tryz.prog 235 [Av_ g] (.bool (decide (16<(Ao_ g).length))):=by
 refine Aa_ [] Yg_ Tryz.func235 Tryz.call235 Tryz.ntmps235 mxd (aj2 @Yg_.eq_1 Tryz.results235) rfl (by simp) (by simp[mx]) fun hwf B hnt hgAnn=> ?_
 clear hwf;simp only[argS];have n3:=Df_ (k:=3) hs;have e1:=II_ g (by omega);obtain⟨H,hH⟩:∃H,H=Ao_ g:=⟨_,rfl⟩;rw[←hH]at e1;rw[←hH];have h2:decide (16<H.length)=decide ((16:Int)<(H.length:Int)):=decide_eq_decide.2 (by omega);rw[h2];exact go0 (aj1 e1) aj0 aj0
def Yf_ : Ann:=⟨[],[]⟩
theorem ord9_pure (gt:GT) (hk:OkG gt) (hs:SmlG (mkG gt)) (h1:1≤gt.length) (hl:gt.length≤64):Ac_ Tryz.prog 240 [Av_ (mkG gt)] (.bool (!JP_ gt)):=by
 refine Aa_ [] Yf_ Tryz.func240 Tryz.call240 Tryz.ntmps240 mxd (aj2 @Yf_.eq_1 Tryz.results240) rfl (by simp) (by simp[mx]) fun hwf B hnt hgAnn=> ?_
 clear hwf;simp only[argS];have e1:=QH_ gt hk hs h1 hl;obtain⟨g,hg⟩:∃g,g=mkG gt:=⟨_,rfl⟩;rw[←hg]at e1 ⊢;exact go0 (aj1 e1) aj0 aj0
def Yh_ : Ann:=⟨[],[]⟩
theorem Ro_ (f:FuncId):Ac_ Tryz.prog 226 [.fn (.func f) [] []] (.fn (.func 227) [] [.ref [.fn (.func f) [] []]]):=by
 refine Aa_ [] Yh_ Tryz.func226 Tryz.call226 Tryz.ntmps226 mxd (aj2 @Yh_.eq_1 Tryz.results226) rfl (by simp) (by simp[mx,mxL]) fun hwf B hnt hgAnn=> ?_
 clear hwf;simp only[argS];exact go0 aj0 aj0 aj0
structure Ask where
 f:FuncId
 cs:List DVal
 b:Bool
 e:Int
def dAsk (x:Ask):List DVal:=[.fn (.func x.f) [] x.cs,.int .i64 x.e]
def asks (b1 b2 b3 b4 b5 b6 b7 b8:Bool):List Ask :=
 [⟨229,[],b1,180⟩,⟨227,[.ref [.fn (.func 230) [] []]],b2,170⟩,⟨233,[],b3,181⟩,⟨235,[],b4,182⟩,⟨236,[],b5,183⟩,⟨227,[.ref [.fn (.func 238) [] []]],b6,171⟩,⟨239,[],b7,184⟩,⟨240,[],b8,174⟩]
def Yi_ : Ann:=⟨[],[]⟩
theorem Fa_ (b1 b2 b3 b4 b5 b6 b7 b8:Bool):Ac_ Tryz.prog 164 [] (.sl 2 16 ((asks b1 b2 b3 b4 b5 b6 b7 b8).map dAsk)):=by
 refine Aa_ [] Yi_ Tryz.func164 Tryz.call164 Tryz.ntmps164 mxd (aj2 @Yi_.eq_1 Tryz.results164) rfl (by simp) (by simp[mx,mxR,mxL,asks,dAsk]) fun hwf B hnt hgAnn=> ?_
 clear hwf;simp only[argS,asks,dAsk,List.map_cons,List.map_nil];have e1:=Ro_ 230;have e2:=Ro_ 238;have r8:List.range 8=[0,1,2,3,4,5,6,7]:=rfl;exact go0 (aj2 e1 e2) aj0 (aj1 r8)
def Mj_ : List Ask→Int
 | []=>0
 | x::l=>if x.b then x.e else Mj_ l
def anBN776 : Ann:=⟨[],[⟨3,[4],[],[]⟩]⟩
set_option maxHeartbeats 1000000 in
theorem Ia_ (g:List Rul) (l:List Ask) (hl8:l.length=8) (hmx:mxR (l.map dAsk)=0) (ho:Ac_ Tryz.prog 164 [] (.sl 2 16 (l.map dAsk)))
  (hq:∀(k:Nat) (x:Ask),l[k]? =some x→(∀(j:Nat) (y:Ask),j<k→l[j]? =some y→y.b=false)→Ac_ Tryz.prog x.f (Av_ g::x.cs) (.bool x.b)):Ac_ Tryz.prog 76 [Av_ g] (.int .i64 (Mj_ l)):=by
 refine Aa_ [] anBN776 Tryz.func76 Tryz.call76 Tryz.ntmps76 mxd (aj2 @anBN776.eq_1 Tryz.results76) rfl (by simp) (by simp[mx]) fun hwf B hnt hgAnn=> ?_
 clear hwf;simp only[argS];obtain⟨R,hR⟩:∃R,R=Mj_ l:=⟨_,rfl⟩;rw[←hR]
 (refine go1 (aj1 ho) aj0 aj0 ?_;intros;refine mk_i ?_)
 refine Ae_ (X:={k:Nat//k≤l.length∧R=Mj_ (l.drop k)∧∀(j:Nat) (y:Ask),j<k→l[j]? =some y→y.b=false}) (fun x=>⟨[(0,Av_ g),(5,.sl 2 16 (l.map dAsk)),(6,.int .i64 l.length),(7,.int .i64 x.1)],[]⟩) (fun x=>l.length-x.1) ⟨0,by simp[hR]⟩ (Sub.lit (by simp[hmx])) ?_;clear hR;rintro⟨k,hk,hR,hno⟩
 by_cases hlt:k<l.length
 ·obtain⟨x,hx,hx',hxm⟩:=Ak_ hlt;rw[aR0 hlt,hx',Mj_]at hR;have e1:=hq k x hx hno;cases hb:x.b
  ·rw[hb]at e1 hR;simp only[aL0,if_false]at hR
   have hno':∀(j:Nat) (y:Ask),j<k+1→l[j]? =some y→y.b=false:=by
    intro i y hi hy
    by_cases hik:i=k
    ·subst hik;rw[hx]at hy;simp only[aA0]at hy;subst hy;exact hb
    ·exact hno i y (by omega) hy
   (refine go1 (aj1 e1) aj0 (aj4 @dAsk.eq_1 hlt hx hx') ?_;intros;refine mk_i ?_)
   exact Aj_.mk ⟨k+1,by omega,hR,hno'⟩ (Sub.lit (by simp[hmx])) (by simp;omega)
   skip
  ·rw[hb]at e1 hR;simp only[if_true]at hR;subst hR;exact go0 (aj1 e1) aj0 (aj4 @dAsk.eq_1 hlt hx hx')
 ·have hkk:k=l.length:=by omega
  subst hkk;rw[bQ0]at hR;have hR2:R=0:=hR;subst hR2;exact go0 aj0 aj0 aj0
theorem PY_ (g:List Rul) (h:g.length<1∨64<g.length):Ac_ Tryz.prog 76 [Av_ g] (.int .i64 180):=by
 have hq:=LF_ g;have hb:(decide (g.length<1)||decide (64<g.length))=true:=by simpa using h
 rw[hb]at hq;refine Ia_ g (asks true true true true true true true true) rfl (by simp[asks,dAsk,mxR,mxL,mx]) (Fa_ _ _ _ _ _ _ _ _) fun k x hx hno=> ?_
 cases k with
 | zero =>
  simp only[asks,bD0,aA0]at hx;subst hx;exact hq
 | succ k=>have:=hno 0 _ (by omega) rfl;simp at this
theorem Ul_ (g:List Rul) (h1:1≤g.length) (h2:g.length≤64) (hs:SmlG g) (ht:EB_ g=false):Ac_ Tryz.prog 76 [Av_ g] (.int .i64 170):=by
 have q1:=LF_ g;have hb:(decide (g.length<1)||decide (64<g.length))=false:=by rw[decide_eq_false (by omega),decide_eq_false (by omega)];rfl
 rw[hb]at q1;have q2:=LG_ 230 g badR fun x hx=>Rp_ x (hs x hx)
 have hb2:g.any badR=true:=by
  unfold EB_ at ht;rw[List.all_eq_false]at ht;obtain⟨r,hr,hn⟩:=ht;refine bZ0.2 ⟨r,hr,?_⟩;unfold badR;rw[dZ0]at hn;rw[hn];rfl
 rw[hb2]at q2;refine Ia_ g (asks false true true true true true true true) rfl (by simp[asks,dAsk,mxR,mxL,mx]) (Fa_ _ _ _ _ _ _ _ _) fun k x hx hno=> ?_
 match k,hx,hno with
 | 0,hx,_ =>
  simp only[asks,bD0,aA0]at hx;subst hx;exact q1
 | 1,hx,_ =>
  simp only[asks,bD0,bJ0,aA0]at hx;subst hx;exact q2
 | k+2,_,hno=>have:=hno 1 _ (by omega) rfl;simp at this
theorem Zk_ {gt:GT} (hk:OkG gt) (hd:Hl_ gt=false):JP_ gt=decide ((Cj_ gt).size≤2048):=by
 unfold JP_
 by_cases h:(Cj_ gt).size≤2048
 ·rw[decide_eq_true h,fE0,bA0];intro p hp;have h1:=US_ hp;have h2:=SZ_ p.2 (hk p hp).2;unfold Hl_ at hd;rw[dA0]at hd;have h3:=hd p hp;simp only[decide_eq_true_eq]at h3;unfold Eu_ CR_;rw[if_neg h3,if_neg (by omega)];simp;omega
 ·rw[decide_eq_false h,dQ0]
set_option maxHeartbeats 1000000 in
theorem ZJ_ (gt:GT) (h1:1≤gt.length) (h2:gt.length≤64) (hk:OkG gt) (hs:SmlG (mkG gt)):Ac_ Tryz.prog 76 [Av_ (mkG gt)] (.int .i64 (PV_ gt)):=by
 have hml:=DW_ gt;have q1:=LF_ (mkG gt);have hb:(decide ((mkG gt).length<1)||decide (64<(mkG gt).length))=false:=by rw[decide_eq_false (by omega),decide_eq_false (by omega)];rfl
 rw[hb]at q1;have q2:=LG_ 230 (mkG gt) badR fun x hx=>Rp_ x (hs x hx)
 have hb2:(mkG gt).any badR=false:=by
  have ht:=VR_ hk;unfold EB_ at ht;rw[bA0]at ht;rw[dA0];intro r hr;unfold badR;rw[ht r hr];simp
 rw[hb2]at q2;have n2:=Df_ (k:=2) hs;have q3:=ord4_pure (mkG gt) (by omega) hs;have q4:=ord5_pure (mkG gt) (by omega) hs;have q5:=ord6_pure (mkG gt) hs (by omega)
 have q6:Ac_ Tryz.prog 227 [Av_ (mkG gt),.ref [.fn (.func 238) [] []]] (.bool (Hl_ gt)):=by
  have hq:∃q:Rul→Bool,(∀p∈gt,q ⟨p.1,flat p.2⟩=decide (16<htT p.2))∧∀x∈mkG gt,Ac_ Tryz.prog 238 [.agg (dRul x)] (.bool (q x)):=by
   refine⟨fun r=>decide (16<(r.b.foldl FI_ ([],0)).2),fun p hp=> ?_,fun x hx=> ?_⟩
   ·simp only[HQ_ (hk p hp).2]
   ·obtain⟨p,hp,rfl⟩:=aV0.1 hx;simp only[HQ_ (hk p hp).2];exact ord7_pure p.1 p.2 (hk p hp).2 (Ip_ hs hp)
  obtain⟨q,hq1,hq2⟩:=hq;have e1:=LG_ 238 (mkG gt) q hq2
  have:(mkG gt).any q=Hl_ gt:=by
   unfold mkG Hl_;rw[List.any_map];rw[Bool.eq_iff_iff,bZ0,bZ0]
   constructor
   ·rintro⟨p,hp,h⟩;exact⟨p,hp,by rw[←hq1 p hp];exact h⟩
   ·rintro⟨p,hp,h⟩;exact⟨p,hp,by rw[←hq1 p hp]at h;exact h⟩
  rw[this]at e1;exact e1
 have q7:=ord8_pure (mkG gt) (by omega);have q8:=ord9_pure gt hk hs h1 h2
 have hf:PV_ gt=Mj_ (asks false false (decide (16<(Ar_ (mkG gt)).length+(Do_ (mkG gt)).length)) (decide (16<(Ao_ (mkG gt)).length)) (decide (64<occG (mkG gt))) (Hl_ gt) (decide (0<(Do_ (mkG gt)).length)) (!JP_ gt)):=by
  unfold PV_;simp only[asks,Mj_,aL0,if_false,decide_eq_true_eq];cases hd:Hl_ gt
  ·rw[Zk_ hk hd]
   by_cases h8:2048<(Cj_ gt).size
   ·have h8':¬(Cj_ gt).size≤2048:=by omega
    simp[h8,h8']
   ·have h8':(Cj_ gt).size≤2048:=by omega
    simp[h8,h8']
  ·simp
 rw[hf];refine Ia_ (mkG gt) _ rfl (by simp[asks,dAsk,mxR,mxL,mx]) (Fa_ _ _ _ _ _ _ _ _) fun k x hx hno=> ?_
 match k,hx with
 | 0,hx=>simp only[asks,bD0,bJ0,aA0]at hx;subst hx;exact q1
 | 1,hx=>simp only[asks,bD0,bJ0,aA0]at hx;subst hx;exact q2
 | 2,hx=>simp only[asks,bD0,bJ0,aA0]at hx;subst hx;exact q3
 | 3,hx=>simp only[asks,bD0,bJ0,aA0]at hx;subst hx;exact q4
 | 4,hx=>simp only[asks,bD0,bJ0,aA0]at hx;subst hx;exact q5
 | 5,hx=>simp only[asks,bD0,bJ0,aA0]at hx;subst hx;exact q6
 | 6,hx=>simp only[asks,bD0,bJ0,aA0]at hx;subst hx;exact q7
 | 7,hx=>simp only[asks,bD0,bJ0,aA0]at hx;subst hx;exact q8
 | k+8,hx=>simp[asks]at hx
theorem str_nodup {l:List ByteArray} (h:Str l):l.Nodup:=h.imp fun h1=>sLess_ne h1
theorem Vr_ {l:List ByteArray} (hn:l.Nodup) {i:Nat} {x:ByteArray} (h:l[i]? =some x):¬x∈l.take i:=by
 intro hm;obtain⟨j,hj,e⟩:=bN0 hm;rw[aY0]at hj;rw[List.getElem_take]at e;obtain⟨hi,e2⟩:=aB0.1 h;have:=(List.getElem_inj (h₀:=by omega) (h₁:=hi) hn).1 (e.trans e2.symm);omega
theorem AK_ {α:Type} {l:List α} {i:Nat} {x:α} (h:l[i]? =some x):l.take (i+1)=l.take i++[x]:=by rw[bF0,h];rfl
def SN_ : Ann:=⟨[19,21],[]⟩
set_option maxHeartbeats 2000000 in
theorem of14_ok (g:List Rul) (hn:(AE_ 3 g).length*16≤140737488355328) (hl:(Ar_ g).length<9223372036854775807) (hll:(Ao_ g).length<9223372036854775807) (h:Ac_ Tryz.prog 76 [Av_ g] (.int .i64 0)):Ac_ Tryz.prog 29 [Av_ g] (.tup [dTab (Ar_ g) (Ao_ g),.int .i64 0]):=by
 refine Aa_ [19,21] SN_ Tryz.func29 Tryz.call29 Tryz.ntmps29 mxd (aj2 @SN_.eq_1 Tryz.results29) rfl (by simp) (by simp[mx]) fun hwf B hnt hgAnn=> ?_
 clear hwf;simp only[argS];have e1:=Gm_ g;have e2:=II_ g hn;have hH:=JV_ g;have hL:=str_nodup (GA_ (AE_ 3 g)).1;rw[show FH_ (AE_ 3 g)=Ao_ g from rfl]at hL;obtain⟨H,eH⟩:∃H,H=Ar_ g:=⟨_,rfl⟩;obtain⟨L,eL⟩:∃L,L=Ao_ g:=⟨_,rfl⟩;rw[←eH]at e1 hH hl ⊢;rw[←eL]at e2 hL hll ⊢;clear eH eL
 (refine go1 (aj3 h e1 e2) aj0 aj0 ?_;intros;refine mk_i ?_)
 refine Ae_ (X:={k:Nat//k≤H.length}) (fun k=>⟨[(5,.bx 21 1 0),(25,AS_ H),(26,.int .i64 H.length),(27,.int .i64 k.1)],[⟨21,1,.box [AS_ H,AS_ L,.omp 19 1]⟩,⟨19,1,.map (keyL false (H.take k.1)) (upTo k.1)⟩]⟩) (fun k=>H.length-k.1) ⟨0,by omega⟩ (Sub.lit (by simp[keyL,upTo])) ?_;rintro⟨k,hk⟩;simp only
 by_cases hlt:k<H.length
 ·obtain⟨x,hx,hx',hxm⟩:=Ak_ hlt;have h1:=GJ_ (b:=false) (Vr_ hH hx);have hok:=TQ_ false (H.take k);have hu:upTo k++[.int .i64 (k:Int)]=upTo (k+1):=(QB_ k).symm;have hKs:keyL false (H.take k)++[.agg [.bool false,.str x]]=keyL false (H.take (k+1)):=by rw[AK_ hx,RO_]
  (refine go1 aj0 aj0 (aj8 hlt hx hx' @dStr.eq_1 h1 hok hu hKs) ?_;intros;refine mk_i ?_)
  refine Aj_.mk ⟨k+1,by omega⟩ (Sub.lit (by simp[hKs])) (by simp;omega)
  skip
 ·have hkk:k=H.length:=by omega
  subst hkk;rw[aQ0];have k0:keyL true []=[]:=rfl;have u0:upTo 0=[]:=rfl
  (refine go1 aj0 aj0 aj0 ?_;intros;refine mk_i ?_)
  refine Ae_ (X:={k:Nat//k≤L.length}) (fun k=>⟨[(5,.bx 21 1 0),(43,AS_ L),(44,.int .i64 L.length),(45,.int .i64 k.1)],[⟨21,1,.box [AS_ H,AS_ L,.omp 19 1]⟩,⟨19,1,.map (tabK H (L.take k.1)) (upTo H.length++upTo k.1)⟩]⟩) (fun k=>L.length-k.1) ⟨0,by omega⟩ (Sub.lit (by simp[tabK,k0,u0])) ?_;rintro⟨k,hk⟩;simp only
  by_cases hlt:k<L.length
  ·obtain⟨x,hx,hx',hxm⟩:=Ak_ hlt;have h1:=UL_ (H:=H) (L:=L.take k) (b:=true) (Vr_ hL hx);have hok:=tab_ok H (L.take k);have hu:upTo H.length++upTo k++[.int .i64 (k:Int)]=upTo H.length++upTo (k+1):=by rw[QB_,aU0]
   have hKs:tabK H (L.take k)++[.agg [.bool true,.str x]]=tabK H (L.take (k+1)):=by unfold tabK;rw[AK_ hx,RO_,aU0]
   (refine go1 aj0 aj0 (aj8 hlt hx hx' @dStr.eq_1 h1 hok hu hKs) ?_;intros;refine mk_i ?_)
   refine Aj_.mk ⟨k+1,by omega⟩ (Sub.lit (by simp[hKs])) (by simp;omega)
   skip
  ·have hkk:k=L.length:=by omega
   subst hkk;rw[aQ0];exact go0 aj0 aj0 aj0
end Go.Proofs.YtchgnpnbcjflcaaGreat
end
section
namespace Go.Dm
variable [DMode]
open Go.Shelf Go.Sort Go.Proofs Go.RowKit
def Kh_ (l:List Int):List Int:=l.mergeSort fun x y=>decide (x≤y)
theorem IL_ (l:List Int):(Kh_ l).length=l.length:=by simp[Kh_]
def dZ (z:Int):List DVal:=[.int .i64 z]
theorem QW_ {P:Program} {ρ:Ren} (L:Lays.n189 P ρ) {f:FuncId} {et bs:Nat} (hf:ρ.f 189=f) (hen:Ci_ P f) (hbs0:0<bs) (l:List Int) :
  AM_ P (.func f) [.osl 0 0] [⟨0,0,.row et 1 bs (l.map dZ)⟩] (.tup []) [⟨0,0,.row et 1 bs ((Kh_ l).map dZ)⟩]:=by
 refine⟨by simp,hen,fun M w loc vs S hr=> ?_⟩;refine⟨hen,?_⟩;simp only[rdV]at hr;obtain⟨v0,r0,hvs,h0,rfl⟩:=hr;simp only[rd]at h0;have hcur0:∀l:List Int,Ai_ [(⟨0,0,.row et 1 bs (l.map dZ)⟩:Ent)] loc 0 0=some (loc 0):=fun _=>rfl
 have hv0:=h0 _ (hcur0 l);have hvs':vs= #[v0]:=by cases vs;simpa using hvs
 subst hvs';subst hf;have hhot:∀l:List Int,Ab_ [(⟨0,0,.row et 1 bs (l.map dZ)⟩:Ent)] loc=(loc 0).blks:=fun _=>by simp[Ab_]
 have htup:∀cur M h,rd cur M h (.tup []) (.tuple #[]):=fun _ _ _=>by simp only[rd];exact⟨#[],rfl,by simp[rdV]⟩
 have hk:=S.ok ⟨0,0,.row et 1 bs (l.map dZ)⟩ (by simp)
 by_cases hne:l=[]
 ·subst hne
  obtain⟨a,cap,hh⟩:∃a cap,(loc 0).hdr= .slice a 0 cap:=by
   obtain⟨_,⟨_,_,h2⟩ | ⟨b,arr,cap,_,h2,_⟩⟩:=hk
   ·exact⟨_,_,h2⟩
   ·exact⟨_,_,h2⟩
  rw[hh]at hv0;subst hv0;refine(Any.slices_Sort_int_none L a cap w).mono ?_;rintro e w' ⟨rfl,rfl⟩;have e0:Kh_ []=[]:=by simp[Kh_]
  rw[e0];exact⟨_,rfl,loc,S,Upd.refl _ _,fun b hb=> .inl hb,fun e he _=>AA_ S.nd he,htup _ _ _⟩
 ·obtain⟨b,arr,cap,p1,p2,p3,p4,p5,p6,p7⟩:∃b arr cap,(loc 0).blks=[b]∧(loc 0).hdr= .slice (some ⟨b,0,none⟩) (l.map dZ).length cap∧w.heap[b]? =some (.cells arr et (0,0))∧(l.map dZ).length≤cap∧cap≤maxLen∧cap*1=arr.size∧rdR (Ai_ [(⟨0,0,.row et 1 bs (l.map dZ)⟩:Ent)] loc) (Ab_ [(⟨0,0,.row et 1 bs (l.map dZ)⟩:Ent)] loc++M) w.heap 1 (l.map dZ) arr 0:=by
   obtain⟨_,⟨h,_⟩ | h⟩:=hk
   ·exact absurd (List.map_eq_nil_iff.1 h) hne
   ·exact h
  have hbs:(l.map dZ).length*bs≤150000000000000:=hk.1;rw[p2]at hv0;subst hv0;rw[aJ0]at p2 p4 hbs
  have hmax:∀s∈l,inR .i64 s∧True:=by
   intro s hs;obtain⟨i,hi,rfl⟩:=bN0 hs;obtain⟨q1,q2⟩:=DB_ 1 _ arr 0 i [.int .i64 l[i]] p7 (by simp[dZ,hi]);obtain⟨us,g1,g2,g3⟩:=Ei_ _ _ _ q2;simp only[rdV,rd]at g2;obtain⟨v,_,_,⟨_,h⟩,_⟩:=g2;exact⟨h,trivial⟩
  have hcell:∀i (hi:i<l.length),arr[i]? =some (.int .i64 l[i]):=by
   intro i hi;obtain⟨q1,q2⟩:=DB_ 1 _ arr 0 i [.int .i64 l[i]] p7 (by simp[dZ,hi]);obtain⟨us,g1,g2,g3⟩:=Ei_ _ _ _ q2;simp only[rdV,rd]at g2;obtain⟨v,r,rfl,⟨rfl,_⟩,_⟩:=g2;have:=(g3 0 _ rfl).1;simpa using this
  obtain⟨ss,hss⟩:∃ss,ss=l:=⟨_,rfl⟩;have hssl:ss.length=l.length:=by rw[hss]
  have hH:Holds (Value.int .i64) w b 0 ss.toArray:=by
   intro j hj;simp only[dG0,hssl]at hj;refine⟨?_,Lib.frozen_of_heap p3 _⟩;rw[bT0,Lib.cell_of_heap p3,hcell j hj];rw[getElem!_pos _ j (by simpa[hssl]using hj)];simp[hss]
  have hlt:ss.length<4611686018427387904:=by
   rw[hssl];have h1:l.length*1≤l.length*bs:=bU0 _ hbs0;omega
  have hbl:b<w.heap.size:=(aG0.1 p3).1;have key:=Any.slices_Sort_int L b 0 cap ss w hH hbl hlt;rw[hssl]at key;simp only[aJ0];refine key.mono ?_;rintro e w' ⟨rfl,n,os,rfl⟩;obtain⟨q1,q2,q3,q4,q5,q6,q7⟩:=Rj_ (Value.int .i64) (et:=et) (arr:=arr) p3 n os (ss.mergeSort fun x y=>decide (x≤y)).toArray;have hse:Kh_ l=(ss.mergeSort fun x y=>decide (x≤y)):=by rw[hss];rfl
  have hml:(ss.mergeSort fun x y=>decide (x≤y)).length=l.length:=by simp[hssl]
  refine⟨_,rfl,loc,⟨by simp,by rw[hhot,p1];simp,fun q hq=>S.ap q (by rw[hhot];rwa[hhot]at hq),fun q hq=> ?_,?_⟩,?_,fun q hq=> .inl (by rw[hhot];rwa[hhot]at hq),?_,htup _ _ _⟩
  ·refine cG0 (S.lt q ?_) q3;rw[hhot]at hq ⊢;exact hq
  ·intro e he;simp only[aE0]at he;subst he;refine⟨by simpa[IL_]using hbs,.inr ⟨b,_,cap,p1,by simpa[IL_]using p2,q1,by simpa[IL_]using p4,p5,by simpa[putCells]using p6,?_⟩⟩;refine FC_ _ _ _ _ fun i cs0 hi=> ?_
   have hil:i<l.length:=by
    have:=(aB0.1 hi).1;simpa[IL_]using this
   rw[hse]at hi;have him:i<(ss.mergeSort fun x y=>decide (x≤y)).length:=by omega
   simp only[cB0,bI0,aH0 him,dI0,Function.comp_apply,aA0]at hi;subst hi;refine⟨rfl,?_⟩;have hmem:(ss.mergeSort fun x y=>decide (x≤y))[i]∈ss:=(dU0 ss _).mem_iff.1 (cY0 him)
   have hsz:inR .i64 ((ss.mergeSort fun x y=>decide (x≤y))[i]):=by
    generalize (ss.mergeSort fun x y=>decide (x≤y))[i]=y at hmem ⊢
    rw[hss]at hmem;exact(hmax y hmem).1
   have h0:=FW_ (cur:=Ai_ [(⟨0,0,.row et 1 bs ((Kh_ l).map dZ)⟩:Ent)] loc) (M:=Ab_ [(⟨0,0,.row et 1 bs ((Kh_ l).map dZ)⟩:Ent)] loc++M) (H:=(grow (putRow (Value.int .i64) (Sort.ahead w n) b 0 (ss.mergeSort fun x y=>decide (x≤y)).toArray) os).heap) [.int .i64 ((ss.mergeSort fun x y=>decide (x≤y))[i])] [.int .i64 ((ss.mergeSort fun x y=>decide (x≤y))[i])] [] [] (by simp only[rdV,rd];exact⟨_,_,rfl,⟨rfl,hsz⟩,rfl⟩) (by simp[Value.oneCell'])
   refine Cf_ _ _ _ _ _ (fun p hp=> ?_) h0;have hp0:p=0:=by simp[dZ]at hp;omega
   subst hp0;have hia:i<arr.size:=by omega
   simp only[putCells,Array.getElem?_mapIdx];rw[show 0+i*1+0=i by omega,cD0 hia];simp[him,hml,hil,hssl]
  ·rw[hhot,p1];exact⟨q4,q5,q6,fun _=>q7,q3,fun q hq hn=>q2 q hq (fun h=>hn (by simp[h]))⟩
  ·intro e he _;simp only[aE0]at he;subst he;rfl
theorem ZC_ {P:Program} {ρ:Ren} (L:Lays8.n4 P ρ) {f:FuncId} {et bs:Nat} (hf:ρ.f 4=f) (hen:Ci_ P f) (het:ρ.t 25=et) {i0:TypeInfo} {z:Value} (hi0:P.info? et=some i0) (hz0:i0.zero=some z) (hzc:z.cells.size=1) (hs0:i0.size=1) (hb0:i0.bytes=bs) (hbs:1≤bs)
  (n:Nat) (hn:n*bs≤140737488355328):AM_ P (.func f) [.nilsl,.int .i64 n] [] (.osl 0 1) [⟨0,1,.row et 1 bs []⟩]:=by
 refine⟨by simp,hen,fun M w loc vs S hr=> ?_⟩;refine⟨hen,?_⟩;simp only[rdV,rd]at hr;obtain⟨v0,r0,hvs,rfl,v1,r1,rfl,⟨rfl,_⟩,rfl⟩:=hr;have hvs':vs= #[.slice none 0 0,.int .i64 n]:=by cases vs;simpa using hvs
 subst hvs' hf het;have hnn:n≤n*bs:=Nat.le_mul_of_pos_right _ hbs;have hM:∀b∈M,b<w.heap.size:=fun b hb=>S.lt b (by simpa[Ab_]using hb)
 by_cases h0:n=0
 ·subst h0;refine(Any8.slices_Grow_room L none 0 0 0 w (by omega) (by omega) (by omega) (by omega)).mono ?_;rintro e w' ⟨rfl,rfl⟩;refine⟨_,rfl,fun _=>⟨[],.slice none 0 0⟩,⟨by simp,by simp[Ab_],by simp[Ab_],fun b hb=>hM b (by simpa[Ab_]using hb),fun e he=> ?_⟩,Upd.refl _ _,fun b hb=>by simp[Ab_]at hb,fun e he h=> ?_,?_⟩
  ·simp only[aE0]at he;subst he;exact⟨by simp,.inl ⟨rfl,rfl,rfl⟩⟩
  ·simp only[aE0]at he;subst he;simp at h
  ·simp only[rd];intro l hl;simp[Ai_,At_]at hl;rw[←hl]
 ·refine(Any8.slices_Grow_grow L i0 z hi0 hz0 (by omega) none 0 0 n [] w (by omega) (by omega) (by rw[hb0];simpa using hn) (by omega) (by simp) (fun _=>rfl) (by simp)).mono ?_;rintro e w' ⟨rfl,rfl⟩;obtain⟨G,hG⟩:∃G,G=grownCap w (0+n) 0 (ρ.t 25):=⟨_,rfl⟩;have hge:0+n≤G:=by rw[hG];exact grownCap_ge w _ _ _
  have hGm:G≤maxLen:=by rw[hG];exact grownCap_le_maxLen w _ _ _ (by unfold maxLen;omega)
  rw[←hG];have hU:Upd [] w (w.drew.alloc (.cells ((#[]:Array Value)++Builtin.zeroCells z.cells (0+n-0)++Builtin.zeroCells z.cells (G-(0+n))) (ρ.t 25))):=(Upd.drew _ w).trans (Upd.alloc _ w.drew _) (fun x hx=> .inl hx);refine⟨_,rfl,fun _=>⟨[w.heap.size],.slice (some ⟨w.heap.size,0,none⟩) 0 G⟩,⟨by simp,by simp[Ab_],fun b hb hm=> ?_,fun b hb=> ?_,fun e he=> ?_⟩,hU,fun b hb=> ?_,fun e he h=> ?_,?_⟩
  ·simp[Ab_]at hb;subst hb;exact absurd (hM _ hm) (by omega)
  ·have h1:w.heap.size<(w.drew.alloc (.cells ((#[]:Array Value)++Builtin.zeroCells z.cells (0+n-0)++Builtin.zeroCells z.cells (G-(0+n))) (ρ.t 25))).heap.size:=by
    show w.heap.size<(w.heap.push _).size
    simp
   rcases aI0.1 hb with hb | hb
   ·simp[Ab_]at hb;subst hb;exact h1
   ·exact Nat.lt_trans (hM b hb) h1
  ·simp only[aE0]at he;subst he;refine⟨by simp,.inr ⟨w.heap.size,_,G,rfl,rfl,heap_alloc_new w.drew _,by simp,hGm,?_,by simp[rdR]⟩⟩;simp only[Array.size_append,size_zeroCells,hzc];simp;omega
  ·simp[Ab_]at hb
   right
   omega
  ·simp only[aE0]at he;subst he;simp at h
  ·simp only[rd];intro l hl;simp[Ai_,At_]at hl;rw[←hl]
theorem Gy_ {P:Program} {f:FuncId} {args:List DVal} {et k bs:Nat} (h:Ac_ P f args .nilsl):AM_ P (.func f) args [] (.osl 0 1) [⟨0,1,.row et k bs []⟩]:=by
 refine⟨by simp,h.1,fun M w loc vs S hr=>⟨h.1,(h.2.2 _ _ _ _ S.lt hr).mono ?_⟩⟩;rintro e w' ⟨v,rfl,hu,hv⟩;have hM:∀b∈M,b<w'.heap.size:=fun b hb=>cG0 (S.lt b (aP0 _ hb)) hu.size
 simp only[rd]at hv;refine⟨_,rfl,fun _=>⟨[],.slice none 0 0⟩,⟨by simp,by simp[Ab_],by simp[Ab_],fun b hb=>hM b (by simpa[Ab_]using hb),fun e he=> ?_⟩,by simpa[Ab_]using hu,fun b hb=>by simp[Ab_]at hb,fun e he h=> ?_,?_⟩
 ·simp only[aE0]at he;subst he;exact⟨by simp,.inl ⟨rfl,rfl,rfl⟩⟩
 ·simp only[aE0]at he;subst he;simp at h
 ·simp only[rd];intro l hl;simp[Ai_,At_]at hl;rw[←hl];exact hv
theorem Qu_ {P:Program} {f:FuncId} {k bs:Nat} {d:DVal} {own':List Ent} (h1:AM_ P (.func f) [.nilsl] [] d own') (h2:AM_ P (.func f) [.esl] [] d own'):AM_ P (.func f) [.sl k bs []] [] d own':=by
 refine⟨h1.1,h1.2.1,fun M w loc vs S hr=> ?_⟩;simp only[rdV]at hr;obtain⟨v,r,hvs,h5,rfl⟩:=hr;simp only[rd]at h5;obtain⟨a,cap,rfl,_,hc,_,h7⟩:=h5
 cases a with
 | none =>
  have:cap=0:=by
   rcases h7 with h7 | ⟨b,off,arr,ty,fz,h8,_⟩
   ·exact h7.2 rfl
   ·simp at h8
  subst this;refine h1.2.2 M w loc vs S ?_;rw[hvs];simp only[rdV];exact⟨_,_,rfl,by simp[rd],rfl⟩
 | some ad =>
  refine h2.2.2 M w loc vs S ?_;rw[hvs];simp only[rdV];exact⟨_,_,rfl,by simp only[rd];exact⟨ad,cap,rfl,hc⟩,rfl⟩
end Go.Dm
end
section
namespace Go.Proofs.YtchgnpnbcjflcaaGreat
open Go Go.Dm Go.Shelf
variable [DMode]
attribute [local irreducible] DW Bj_ Bp_
set_option maxRecDepth 100000
def catL (ls:List (List Nat)):List Nat:=ls.flatten
def totL (ls:List (List Nat)):Nat:=(catL ls).length
theorem SA_ (ls:List (List Nat)) (l:List Nat):catL (ls++[l])=catL ls++l:=by simp[catL]
theorem Wl_ : catL []=[]:=rfl
theorem QG_ (ls:List (List Nat)) (l:List Nat):totL (ls++[l])=totL ls+l.length:=by unfold totL;rw[SA_,aC0]
def rowN (l:List Nat):List DVal:=[BM_ l]
@[simp] theorem mx_rowN (l:List Nat):mxL (rowN l)=0:=by simp[rowN,mxL,mx]
@[simp] theorem mx_rowNs (l:List (List Nat)):mxR (l.map rowN)=0:=mxR0 _ mx_rowN l
def Hh_ : Ann:=⟨[5],[]⟩
set_option maxHeartbeats 1000000 in
theorem Ka_ (l:List Nat) (hl:l.length*8≤140737488355328):AM_ Tryz.prog (.func 192) [BM_ l] [] (.osl 0 1) [⟨0,1,.row 3 1 8 (l.map natD)⟩]:=by
 match l,hl with
 | [],_ =>
  refine Qu_ ?_ ?_
  ·refine Gy_ ?_;refine Aa_ [] Hh_ Tryz.func192 Tryz.call192 Tryz.ntmps192 mxd (aj2 @Hh_.eq_1 Tryz.results192) rfl (by simp) (by simp[mx]) fun hwf B hnt hgAnn=> ?_
   simp only[argS];exact go0 aj0 aj0 aj0
  ·refine AP_ [] [(5,0,1)] Hh_ Tryz.func192 Tryz.call192 Tryz.ntmps192 mxd (aj2 @Hh_.eq_1 Tryz.results192) rfl (by simp) (by simp) (by simp) fun hwf B hnt hgAnn=> ?_
   simp only[argS,List.nil_append];exact go0 aj0 aj0 aj0
 | x::l,hl =>
  refine AP_ [] [(5,0,1)] Hh_ Tryz.func192 Tryz.call192 Tryz.ntmps192 mxd (aj2 @Hh_.eq_1 Tryz.results192) rfl (by simp) (by simp) (by simp) fun hwf B hnt hgAnn=> ?_
  simp only[List.length_cons]at hl;have hl2:(l.length+1)*8≤150000000000000:=by omega
  have hl3:l.length<9223372036854775807:=by omega
  simp only[argS,List.nil_append,List.map_cons,BM_,natD];exact go0 aj0 aj0 aj0
theorem ZB_ (n:Nat) (hn:n*8≤140737488355328):AM_ Tryz.prog (.func 265) [.nilsl,.int .i64 n] [] (.osl 0 1) [⟨0,1,.row 3 1 8 []⟩] :=
 ZC_ Tryz.growI rfl Tryz.call265 rfl (hi0:=(rfl:Tryz.prog.info? 3=some _)) (z:= .int .i64 0) rfl rfl rfl rfl (by decide) n hn
theorem OA_ (l:List Int):AM_ Tryz.prog (.func 110) [.osl 0 0] [⟨0,0,.row 3 1 8 (l.map dNum)⟩] (.tup []) [⟨0,0,.row 3 1 8 ((Kh_ l).map dNum)⟩] :=
 QW_ Tryz.sortInt rfl Tryz.call110 (by decide) l
def Ye_ : Ann:=⟨[24],[]⟩
set_option maxHeartbeats 1000000 in
theorem Nf_ (ls:List (List Nat)) (hb:totL ls*8≤140737488355328):AM_ Tryz.prog (.func 185) [.sl 1 24 (ls.map rowN)] [] (.osl 0 1) [⟨0,1,.row 3 1 8 ((catL ls).map natD)⟩]:=by
 refine AP_ [] [(24,0,1)] Ye_ Tryz.func185 Tryz.call185 Tryz.ntmps185 mxd (aj2 @Ye_.eq_1 Tryz.results185) rfl (by simp) (by simp) (by simp) fun hwf B hnt hgAnn=> ?_
 simp only[argS,List.nil_append]
 have hsum:∀k,k≤ls.length→totL (ls.take k)*8≤140737488355328:=fun k hk=>by
  unfold totL catL at hb ⊢;have h1:ls.flatten.length=(ls.take k).flatten.length+(ls.drop k).flatten.length:=by rw[←aC0,←List.flatten_append,List.take_append_drop]
  omega
 have hwl:ls.length<9223372036854775807:=by
  have h1:=hwf.1;simp only[wfD,aJ0]at h1;have h2:=h1.1;unfold maxLen at h2;omega
 clear hwf
 (refine go1 aj0 aj0 aj0 ?_;intros;refine mk_i ?_)
 refine Ae_ (X:={k:Nat//k≤ls.length}) (fun k=>⟨[(0,.sl 1 24 (ls.map rowN)),(3,.int .i64 (totL (ls.take k.1))),(9,.sl 1 24 (ls.map rowN)),(10,.int .i64 ls.length),(11,.int .i64 k.1)],[]⟩) (fun k=>ls.length-k.1) ⟨0,by omega⟩ (Sub.lit (by simp[totL,Wl_])) ?_;rintro⟨k,hk⟩;simp only
 by_cases hlt:k<ls.length
 ·obtain⟨x,hx,hx',hxm⟩:=Ak_ hlt;have hs1:totL (ls.take (k+1))=totL (ls.take k)+x.length:=by rw[AK_ hx,QG_]
  have hs2:=hsum (k+1) hlt;obtain⟨m,hm⟩:∃m,m=totL (ls.take k):=⟨_,rfl⟩;rw[hs1,←hm]at hs2;rw[←hm]at hs1 ⊢
  (refine go1 aj0 aj0 (aj4 hlt hx hx' @rowN.eq_1) ?_;intros;refine mk_i ?_)
  refine Aj_.mk ⟨k+1,by omega⟩ (Sub.lit (by simp[hs1])) (by simp;omega)
  skip
 ·have hkk:k=ls.length:=by omega
  subst hkk;rw[aQ0];have e1:=ZB_ _ hb
  (refine go1 aj0 (aj1 (spc [] [(24,0)] e1)) aj0 ?_;intros;refine mk_i ?_)
  refine Ae_ (X:={k:Nat//k≤ls.length}) (fun k=>⟨[(6,.osl 24 1),(25,.sl 1 24 (ls.map rowN)),(26,.int .i64 ls.length),(27,.int .i64 k.1)],[⟨24,1,.row 3 1 8 ((catL (ls.take k.1)).map natD)⟩]⟩) (fun k=>ls.length-k.1) ⟨0,by omega⟩ (Sub.lit (by simp[Wl_])) ?_;rintro⟨k,hk⟩;simp only
  by_cases hlt:k<ls.length
  ·obtain⟨x,hx,hx',hxm⟩:=Ak_ hlt;have hs1:(catL (ls.take (k+1))).map natD=(catL (ls.take k)).map natD++x.map natD:=by rw[AK_ hx,SA_,aX0]
   have hs2:=hsum (k+1) hlt;have hs3:totL (ls.take (k+1))=totL (ls.take k)+x.length:=by rw[AK_ hx,QG_]
   obtain⟨F,hF⟩:∃F,F=catL (ls.take k):=⟨_,rfl⟩;have hFl:F.length=totL (ls.take k):=by rw[hF];rfl
   rw[hs3,←hFl]at hs2;rw[←hF]at hs1 ⊢;have hs4:(F.length+x.length)*8≤150000000000000:=by omega
   (refine go1 aj0 aj0 (aj5 hlt hx hx' @rowN.eq_1 hs4) ?_;intros;refine mk_i ?_)
   refine Aj_.mk ⟨k+1,by omega⟩ (Sub.lit (by simp[hs1])) (by simp;omega)
   skip
  ·have hkk:k=ls.length:=by omega
   subst hkk;rw[aQ0];exact go0 aj0 aj0 aj0
def DA_ (SF:List Sym) (P:List (Nat×Nat)):List Arc:=P.map (arcJ SF)
theorem arcsJ_nil (SF:List Sym):DA_ SF []=[]:=rfl
theorem EN_ (SF:List Sym) (P Q:List (Nat×Nat)):DA_ SF (P++Q)=DA_ SF P++DA_ SF Q:=by simp[DA_]
theorem Jb_ (SF:List Sym) (P:List (Nat×Nat)):(DA_ SF P).length=P.length:=by simp[DA_]
def Js_ (x:Nat) (f:List Nat):List (Nat×Nat):=f.map fun q=>(x,q)
theorem Zj_ (x:Nat) (f:List Nat) (q:Nat):Js_ x (f++[q])=Js_ x f++[(x,q)]:=by simp[Js_]
theorem pairs_nil (x:Nat):Js_ x []=[]:=rfl
theorem Rl_ (x:Nat) (f:List Nat):(Js_ x f).length=f.length:=by simp[Js_]
def dBx (u v:Nat) (S:List Sym) (A:List Arc):List Ent:=[⟨0,0,.box [.osl 1 u,.osl 2 v]⟩,⟨1,u,.row 95 2 16 (S.map dSym)⟩,⟨2,v,.row 97 4 32 (A.map dArc)⟩]
theorem Zv_ (l f:List Nat) (x:Nat):CB_ (l++[x]) f=CB_ l f++Js_ x f:=by simp[CB_,Js_]
theorem LW_ (l f:List Nat):(CB_ l f).length=l.length*f.length:=by
 induction l with
 | nil=>simp[CB_]
 | cons x l ih =>
  have:CB_ (x::l) f=(f.map fun q=>(x,q))++CB_ l f:=rfl;rw[this,aC0,ih,aJ0,List.length_cons,bX0];omega
theorem sy_at {S SF:List Sym} (hp:S <+: SF) {q:Nat} (h1:1≤q) (h2:q≤S.length):S[q-1]? =some (SF.getD (q-1) ⟨false,0⟩):=by
 obtain⟨R,rfl⟩:=hp;have h:q-1<S.length:=by omega
 rw[bG0,bB0 h,aH0 h];rfl
def Lb_ : Ann:=⟨[],[⟨6,[],[0],[]⟩]⟩
set_option maxHeartbeats 2000000 in
theorem HP_ (S SF:List Sym) (A:List Arc) (l f:List Nat) (hp:S <+: SF) (hf:∀q∈f,1≤q∧q≤S.length) (hS:S.length<9223372036854775807) (hb:(A.length+l.length*f.length)*32≤150000000000000) :
  AM_ Tryz.prog (.func 107) [.bx 0 0 0,BM_ l,BM_ f] (dBx 0 0 S A) (.tup []) (dBx 0 1 S (A++DA_ SF (CB_ l f))):=by
 refine AP_ [] [(0,0,0),(1,1,0),(2,2,1)] Lb_ Tryz.func107 Tryz.call107 Tryz.ntmps107 mxd (aj2 @Lb_.eq_1 Tryz.results107) rfl (by simp) (by simp) (by simp[dBx]) fun hwf B hnt hgAnn=> ?_
 have hwl:l.length<9223372036854775807∧f.length<9223372036854775807:=by
  have h1:=hwf;simp only[wfL,wfD,aJ0,maxLen]at h1;omega
 clear hwf;simp only[argS]
 (refine go1 aj0 aj0 (aj1 @dBx.eq_1) ?_;intros;refine mk_i ?_)
 refine Ae_ (X:={i:Nat//i≤l.length}) (fun i=>⟨[(0,.bx 0 0 0),(2,BM_ f),(10,BM_ l),(11,.int .i64 l.length),(12,.int .i64 i.1)],dBx 0 1 S (A++DA_ SF (CB_ (l.take i.1) f))⟩) (fun i=>l.length-i.1) ⟨0,by omega⟩ (Sub.lit (by simp[dBx,joinP_nil,arcsJ_nil])) ?_;rintro⟨i,hi⟩;simp only
 by_cases hlt:i<l.length
 ·obtain⟨x,hx,hx',hxm⟩:=Ak_ hlt;have hjs:=Zv_ (l.take i) f x;rw[←AK_ hx]at hjs
  have hjl:(CB_ (l.take (i+1)) f).length≤l.length*f.length:=by
   rw[LW_];exact aO0 _ (by rw[aY0];omega)
  rw[hjs,aC0,Rl_]at hjl;obtain⟨P,hP⟩:∃P,P=CB_ (l.take i) f:=⟨_,rfl⟩;rw[←hP]at hjl hjs ⊢
  (refine go1 aj0 aj0 (aj5 @dBx.eq_1 hlt hx hx' @natD.eq_1) ?_;intros;refine mk_i ?_)
  refine Ae_ (X:={j:Nat//j≤f.length}) (fun j=>⟨[(0,.bx 0 0 0),(2,BM_ f),(7,.int .i64 x),(10,BM_ l),(11,.int .i64 l.length),(12,.int .i64 i),(16,BM_ f),(17,.int .i64 f.length),(18,.int .i64 j.1)],dBx 0 1 S (A++DA_ SF (P++Js_ x (f.take j.1)))⟩) (fun j=>f.length-j.1) ⟨0,by omega⟩ (Sub.lit (by simp[dBx,pairs_nil])) ?_;rintro⟨j,hj⟩;simp only
  by_cases hlt2:j<f.length
  ·obtain⟨q,hq,hq',hqm⟩:=Ak_ hlt2;obtain⟨hq1,hq2⟩:=hf q hqm;have hlt3:q-1<S.length:=by omega
   obtain⟨y,hy,hy',hym⟩:=Ak_ hlt3
   have hA:arcJ SF (x,q)=⟨x,y,q⟩:=by
    have hsy:=sy_at hp hq1 hq2;rw[hy]at hsy;simp only[aA0]at hsy;unfold arcJ;rw[←hsy]
   have hts:DA_ SF (P++Js_ x (f.take (j+1)))=DA_ SF (P++Js_ x (f.take j))++[⟨x,y,q⟩]:=by rw[AK_ hq,Zj_,←aU0,EN_,←hA];rfl
   have hln:(DA_ SF (P++Js_ x (f.take j))).length+1≤l.length*f.length:=by rw[Jb_,aC0,Rl_,aY0];omega
   obtain⟨Z,hZ⟩:∃Z,Z=DA_ SF (P++Js_ x (f.take j)):=⟨_,rfl⟩;rw[←hZ]at hts hln ⊢;have hb2:(A.length+Z.length+1)*32≤150000000000000:=by omega
   have hw1:IntKind.i64.wrap ((q:Int)-1)=((q-1:Nat):Int):=by rw[wq];omega
   (repeat (first | refine Aw_ fun K hK=> ?_ | (refine DW_r Lb_ mxd (by kernel_rfl) ?_;simp[Lb_,hnt,dBx,hlt2,hq,hq',natD,hw1,hlt3,hy,hy',dSym];try simp (disch:=omega) only[Ah_]) | refine Al_ ?_ | (refine AJ_ ?_ ?_ ?_;(· (simp[hnt,dBx,hlt2,hq,hq',natD,hw1,hlt3,hy,hy',dSym];done));(try (rotate_left;(· (intro hc;(try simp[hnt,dBx,hlt2,hq,hq',natD,hw1,hlt3,hy,hy',dSym]at hc);done))))) | (refine Ay_ ?_;simp[Tryz.results107,hnt,dBx,hlt2,hq,hq',natD,hw1,hlt3,hy,hy',dSym]) | ((first | refine Aq_ ?_ | refine Ap_ ?_);simp[hnt,dBx,hlt2,hq,hq',natD,hw1,hlt3,hy,hy',dSym]) | (intro hc;(try simp[hnt,dBx,hlt2,hq,hq',natD,hw1,hlt3,hy,hy',dSym]at hc);(try (exfalso;omega))) | (refine⟨?_,?_⟩; · omega) | omega | apply_assumption -exfalso -symm | (exfalso;omega)))
   refine Aj_.mk ⟨j+1,by omega⟩ (Sub.lit (by simp[dBx,hts,dArc])) (by simp;omega)
   skip
  ·have hkk:j=f.length:=by omega
   subst hkk;rw[aQ0,←hjs]
   (refine go1 aj0 aj0 (aj1 @dBx.eq_1) ?_;intros;refine mk_i ?_)
   refine Aj_.mk ⟨i+1,by omega⟩ (Sub.lit (by simp[dBx])) (by simp;omega)
   skip
 ·have hkk:i=l.length:=by omega
  subst hkk;rw[aQ0];exact go0 aj0 aj0 (aj1 @dBx.eq_1)
end Go.Proofs.YtchgnpnbcjflcaaGreat
end
section
namespace Go.Proofs.YtchgnpnbcjflcaaGreat
open Go Go.Dm
variable [DMode]
theorem Fh_ (l m:List Nd):lvs (l++m)=lvs l++lvs m:=by simp[lvs]
theorem VF_ (x:Nd) (l:List Nd):lvs (x::l)=(if BZ_ x=true then [x]else [])++lvs l:=by unfold lvs;rw[List.filter_cons];cases BZ_ x<;>rfl
theorem flatL_one (u:RT):Am_ [u]=flat u:=by rw[An_,Bg_,bM0]
theorem Pj_ {x:Nd} (h:x.k=2∨x.k=3) (l:List Nd):lvs (x::l)=x::lvs l:=by rw[VF_,if_pos (Bf_.2 h)];rfl
theorem IF_ {x:Nd} (h:¬(x.k=2∨x.k=3)) (l:List Nd):lvs (x::l)=lvs l:=by rw[VF_,if_neg (fun hh=>h (Bf_.1 hh))];rfl
mutual
theorem PN_ : ∀(t:RT) (a:Nat),(fiT t a).length≤(lvs (flat t)).length
 | .mk x ks,a=>by
  rw[JX_,AB_]
  split
  ·rename_i h;rw[Pj_ h];simp
  ·rename_i h;rw[IF_ h];exact PQ_ x.k ks (a+1)
theorem PQ_ (k:Int):∀(us:List RT) (a:Nat),(fiL k us a).length≤(lvs (Am_ us)).length
 | [],a=>by rw[HU_];simp
 | u::us,a=>by
  have h1:=PN_ u a;have h2:=PQ_ k us (a+(flat u).length);rw[Cn_,An_,Fh_,aC0,aC0]
  split
  ·simp;omega
  ·omega
end
mutual
theorem Po_ : ∀(t:RT) (a:Nat),(laT t a).length≤(lvs (flat t)).length
 | .mk x ks,a=>by
  rw[IK_,AB_]
  split
  ·rename_i h;rw[Pj_ h];simp
  ·rename_i h;rw[IF_ h];exact Pr_ x.k ks (a+1)
theorem Pr_ (k:Int):∀(us:List RT) (a:Nat),(laL k us a).length≤(lvs (Am_ us)).length
 | [],a=>by rw[Gg_];simp
 | u::us,a=>by
  have h1:=Po_ u a;have h2:=Pr_ k us (a+(flat u).length);rw[BU_,An_,Fh_,aC0]
  split
  ·rw[aC0]
   split
   ·omega
   ·simp;omega
  ·rw[aC0];omega
end
theorem Pu_ {l f:List Nat} (h1:l.length≤64) (h2:f.length≤64):l.length*f.length≤4096:=Nat.mul_le_mul h1 h2
mutual
theorem Uu_ : ∀(t:RT) (a:Nat),(lvs (flat t)).length≤64→(arT t a).length+4096≤8192*(flat t).length
 | .mk x ks,a,hM=>by
  rw[Jd_,AB_,List.length_cons]
  split
  ·simp;omega
  ·rename_i h;rw[AB_,IF_ h]at hM;have h1:=Uv_ x.k ks (a+1) [] (by simpa using hM);have h2:=Pr_ x.k ks (a+1);have h3:=PQ_ x.k ks (a+1);rw[aC0]
   split
   ·rw[LW_];have:=Pu_ (l:=laL x.k ks (a+1)) (f:=fiL x.k ks (a+1)) (by omega) (by omega);omega
   ·simp;omega
theorem Uv_ (k:Int):∀(us:List RT) (a:Nat) (acc:List Nat),acc.length+(lvs (Am_ us)).length≤64→(arL k us a acc).length≤8192*(Am_ us).length
 | [],a,acc,_=>by rw[Ic_];simp
 | u::us,a,acc,hM=>by
  rw[An_,Fh_,aC0]at hM;have h1:=Uu_ u a (by omega);have h2:=PN_ u a;have h3:=Po_ u a
  have h4:=Uv_ k us (a+(flat u).length) (if k=4 then laT u a++(if empT u=true then acc else [])else []) (by
   split
   ·rw[aC0]
    split
    ·omega
    ·simp;omega
   ·simp;omega)
  rw[Cq_,An_,aC0,aC0,aC0]
  split
  ·rename_i h5;rw[if_pos h5]at h4;rw[LW_];have:=Pu_ (l:=acc) (f:=fiT u a) (by omega) (by omega);omega
  ·rename_i h5;rw[if_neg h5]at h4;simp only[List.length_nil];omega
end
theorem RP_ (l f:List Nat) (L:List Nd) (ah:Nat):CB_ (l.map (num L ah)) (f.map (num L ah))=(CB_ l f).map (num2 L ah):=by
 induction l with
 | nil=>rfl
 | cons p l ih =>
  have h1:∀(p:Nat) (l f:List Nat),CB_ (p::l) f=f.map (fun q=>(p,q))++CB_ l f:=fun _ _ _=>rfl
  rw[List.map_cons,h1,h1,ih,aX0,cB0,cB0];rfl
theorem EV_ {l:List Nd} {a:Nat} {m r:List Nd} (h:l.drop a=m++r):rkN l (a+m.length)=rkN l a+(lvs m).length:=by
 unfold rkN lvs
 have h1:l.take (a+m.length)=l.take a++m:=by
  rw[List.take_add,h,List.take_left'];rfl
 rw[h1,dB0,aC0]
theorem Sp_ {l:List Nd} {a:Nat} {m r:List Nd} (h:l.drop a=m++r):l.drop (a+m.length)=r:=by
 rw[←eX0,h,List.drop_left'];rfl
theorem drop_in {l:List Nd} {a p:Nat} {m r:List Nd} {x:Nd} (h:l.drop a=m++r) (hp:a≤p) (hx:m[p-a]? =some x):l[p]? =some x:=by
 have h1:(l.drop a)[p-a]? =some x:=by
  rw[h,bB0 (aB0.1 hx).1];exact hx
 rw[cT0]at h1
 rwa[show a+(p-a)=p by omega]at h1
theorem lvs_sub {l:List Nd} {a:Nat} {m r:List Nd} (h:l.drop a=m++r):(lvs m).length≤(lvs l).length:=by
 have h1:lvs l=lvs (l.take a)++(lvs m++lvs r):=by rw[←Fh_,←h,←Fh_,List.take_append_drop]
 rw[h1,aC0,aC0];omega
theorem Vp_ {l m r:List Nd} {a ah q:Nat} (h:l.drop a=m++r) (hq:a≤q) (hx:∃x,m[q-a]? =some x∧(x.k=2∨x.k=3)):1≤num l ah q∧num l ah q≤ah+rkN l (a+m.length):=by
 obtain⟨x,hx,hk⟩:=hx;have h1:=drop_in h hq hx;have h2:=rkN_lt h1 (Bf_.2 hk) (show q<a+m.length by have:=(aB0.1 hx).1;omega);unfold num;omega
theorem fi_num {l r:List Nd} {t:RT} {a ah:Nat} (h:l.drop a=flat t++r):∀q∈(fiT t a).map (num l ah),1≤q∧q≤ah+rkN l (a+(flat t).length):=by
 intro q hq;obtain⟨p,hp,rfl⟩:=aV0.1 hq;exact Vp_ h (JY_ t a p hp).1 (KK_ t a p hp)
theorem fiL_num {l r:List Nd} {k:Int} {us:List RT} {a ah:Nat} (h:l.drop a=Am_ us++r):∀q∈(fiL k us a).map (num l ah),1≤q∧q≤ah+rkN l (a+(Am_ us).length):=by
 intro q hq;obtain⟨p,hp,rfl⟩:=aV0.1 hq;exact Vp_ h (JZ_ k us a p hp).1 (IR_ k us a p hp)
def pE (k:Int) (us:List RT):Bool:=if k=4 then allE us else if k=1 then true else anyE us
theorem SL_ (ts:List RT) (t:RT):anyE (ts++[t])=(anyE ts||empT t):=by rw[KO_,KO_,eB0];simp
theorem pE_nil (k:Int):pE k []=(decide (k=1)||decide (k=4)):=by
 unfold pE;rw[DK_,show anyE []=false by rw[anyE]]
 by_cases h4:k=4
 ·simp[h4]
 ·by_cases h1:k=1<;>simp[h1,h4]
theorem pE_snoc (k:Int) (us:List RT) (u:RT):pE k (us++[u])=if k=4 then (pE k us&&empT u)else (pE k us||empT u):=by
 unfold pE
 by_cases h4:k=4
 ·rw[if_pos h4,if_pos h4,if_pos h4,ML_]
 ·rw[if_neg h4,if_neg h4,if_neg h4]
  by_cases h1:k=1
  ·rw[if_pos h1,if_pos h1];rfl
  ·rw[if_neg h1,if_neg h1,SL_]
theorem pE_all {x:Nd} {ks:List RT} (h:okT (.mk x ks)=true) (hn:¬(x.k=2∨x.k=3)):empT (.mk x ks)=(pE x.k ks||decide (x.k=6)||decide (x.k=8)):=by
 have hm:=(Bx_ h).1;rw[Mo_,if_neg hn];unfold pE
 by_cases h5:x.k=5
 ·simp[h5]
 by_cases h4:x.k=4
 ·simp[h4]
 by_cases h7:x.k=7
 ·obtain⟨u,rfl⟩:=OT_ h (by omega);rw[h7];simp[Du_,DK_,anyE]
 by_cases h1:x.k=1
 ·simp[h1]
 by_cases h6:x.k=6
 ·simp[h6]
 by_cases h8:x.k=8
 ·simp[h8]
 exfalso;unfold mayN at hm;rw[if_neg h1,if_neg (fun e=>hn (.inl e)),if_neg (fun e=>hn (.inr e)),if_neg h4,if_neg h5,if_neg h6,if_neg h7,if_neg h8]at hm;simp at hm
end Go.Proofs.YtchgnpnbcjflcaaGreat
end
section
namespace Go.Proofs.YtchgnpnbcjflcaaGreat
open Go Go.Dm Go.Shelf
variable [DMode]
attribute [local irreducible] DW Bj_ Bp_
set_option maxRecDepth 100000
abbrev PT_ (e:Bool) (f l:List Nat):DVal:= .agg [.bool e,BM_ f,BM_ l]
theorem catL2 (a b:List Nat):catL [a,b]=a++b:=by simp[catL]
theorem totL2 (a b:List Nat):totL [a,b]=a.length+b.length:=by simp[totL,catL]
theorem En_ (a b:List Nat) (hb:(a.length+b.length)*8≤140737488355328):AM_ Tryz.prog (.func 185) [.sl 1 24 [[BM_ a],[BM_ b]]] [] (.osl 0 1) [⟨0,1,.row 3 1 8 ((a++b).map natD)⟩]:=by
 have h:=Nf_ [a,b] (by rw[totL2];exact hb);rw[catL2]at h;exact h
def Yc_ : Ann:=⟨[16,22],[⟨1,[],[],[3,4,5,12,13,14,15,16]⟩]⟩
set_option maxHeartbeats 1000000 in
theorem aa_ (e e':Bool) (f f' l l':List Nat) (hf:(f.length+f'.length)*8≤140737488355328) (hl:(l.length+l'.length)*8≤140737488355328) :
  Ac_ Tryz.prog 106 [PT_ e f l,PT_ e' f' l'] (PT_ (e||e') (f++f') (l++l')):=by
 refine Aa_ [16,22,4] Yc_ Tryz.func106 Tryz.call106 Tryz.ntmps106 mxd (aj2 @Yc_.eq_1 Tryz.results106) rfl (by simp) (by simp[mx]) fun hwf B hnt hgAnn=> ?_
 clear hwf;simp only[argS];have e1:=En_ f f' hf;have e2:=En_ l l' hl;obtain⟨F,hF⟩:∃F,F=f++f':=⟨_,rfl⟩;obtain⟨L,hL⟩:∃L,L=l++l':=⟨_,rfl⟩;rw[←hF]at e1 ⊢;rw[←hL]at e2 ⊢;have hr2:List.range 2=[0,1]:=rfl;cases e
 ·exact go0 aj0 (aj2 (spc [] [(16,0)] e1) (spc [] [(22,0)] e2)) (aj1 hr2)
 ·exact go0 aj0 (aj2 (spc [] [(16,0)] e1) (spc [] [(22,0)] e2)) (aj1 hr2)
def Ok_ : Ann:=⟨[16,22],[⟨1,[],[],[3,4,5,12,13,14,15,16]⟩]⟩
set_option maxHeartbeats 1000000 in
theorem ZZ_ (e e':Bool) (f f' l l':List Nat) (hf:(f.length+f'.length)*8≤140737488355328) (hl:(l.length+l'.length)*8≤140737488355328) :
  AM_ Tryz.prog (.func 106) [PT_ e f l,PT_ e' f' l'] [] (.agg [.bool (e||e'),BM_ (f++f'),.osl 0 1]) [⟨0,1,.row 3 1 8 ((l++l').map natD)⟩]:=by
 refine AP_ [16,4] [(22,0,1)] Ok_ Tryz.func106 Tryz.call106 Tryz.ntmps106 mxd (aj2 @Ok_.eq_1 Tryz.results106) rfl (by simp) (by simp) (by simp) fun hwf B hnt hgAnn=> ?_
 clear hwf;simp only[argS,List.nil_append];have e1:=En_ f f' hf;have e2:=En_ l l' hl;obtain⟨F,hF⟩:∃F,F=f++f':=⟨_,rfl⟩;obtain⟨L,hL⟩:∃L,L=l++l':=⟨_,rfl⟩;rw[←hF]at e1 ⊢;rw[←hL]at e2 ⊢;have hr2:List.range 2=[0,1]:=rfl;cases e
 ·exact go0 aj0 (aj2 (spc [] [(16,0)] e1) (spc [] [(22,0)] e2)) (aj1 hr2)
 ·exact go0 aj0 (aj2 (spc [] [(16,0)] e1) (spc [] [(22,0)] e2)) (aj1 hr2)
def Yd_ : Ann:=⟨[],[⟨1,[4],[],[]⟩]⟩
theorem of70_pure (H L:List ByteArray) (x:Nd):Ac_ Tryz.prog 105 [.agg (dNd x),.ref [dTab H L]] (.agg (dSym (symS H L x))):=by
 refine Aa_ [] Yd_ Tryz.func105 Tryz.call105 Tryz.ntmps105 mxd (aj2 @Yd_.eq_1 Tryz.results105) rfl (by simp) (by simp[mx,dSym]) fun hwf B hnt hgAnn=> ?_
 clear hwf;simp only[argS];have e1:=Nt_ H L x;exact go0 (aj1 e1) aj0 (aj2 @dNd.eq_1 @dSym.eq_1)
end Go.Proofs.YtchgnpnbcjflcaaGreat
end
