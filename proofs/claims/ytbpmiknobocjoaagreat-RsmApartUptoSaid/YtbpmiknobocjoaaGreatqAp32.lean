/- Parts of a proof, laid together: BN2, BN5, BN6, BN7, SY1. -/
import Derived.Shelf.SlIter.Nil
import Derived.Shelf.SlIter.Sorted
import Derived.Shelf.SortM.Plain
import Derived.Shelf.SortM.SortNone
import Derived.Test.YtbpmiknobocjoaaGreatqAp17
import Derived.Test.YtbpmiknobocjoaaGreatqAp26
import Derived.Test.YtbpmiknobocjoaaGreatqAp30
import Derived.Test.YtbpmiknobocjoaaGreatqAp31
set_option linter.unusedSimpArgs false
set_option maxHeartbeats 8000000
set_option linter.unusedVariables false
set_option linter.unusedSectionVars false
section
namespace Go.Proofs.Wy
open Go Go.Dm Tryz
variable [DMode]
attribute [local irreducible] DW BN BS
set_option maxRecDepth 100000
def ZU : Ann:=⟨[],[]⟩
theorem RD (s:ByteArray):Af prog 104 [.str s] (.bool (Du 2 s)):=by
 refine Ae [] ZU func104 call104 ntmps104 mxd (AB @ZU.eq_1 results104) rfl (fun qJ B qX qQ=> ?_);clear qJ;simp only[Aq];have e1:=Tn 2 (.inl rfl) s;simp only[BW]at e1;cases h:Du 2 s
 ·rw[h]at e1;exact Az (AH e1) Ab Ab
 ·rw[h]at e1;exact Az (AH e1) Ab Ab
def ND : Ann:=⟨[],[]⟩
theorem Pu (g:FuncId) (us cs:List DVal) (l:List Rul) (q:Rul->Bool) (hq:∀x∈l,Af prog g (us++[.agg (Ba x)]++cs) (.bool (q x))) :
  Af prog 150 [Au l,.fn (.func g) us cs] (.int .i64 (if l.any q then ((l.findIdx q:Nat):Int)else -1)):=by
 refine Ae [] ND func150 call150 ntmps150 mxd (AB @ND.eq_1 results150) rfl (fun qJ B qX qQ=> ?_);have vU:=Ke qJ.1;clear qJ;simp only[Aq]
 (refine AL Ab Ab Ab ?_;intros;refine Am ?_)
 refine Ai (X:={k:Nat//k<=l.length/\∀i x,i<k->l[i]? =some x->q x=false}) (fun x=>⟨[(0,Au l),(1,.fn (.func g) us cs),(7,.int .i64 l.length),(8,.int .i64 x.1)],[]⟩) (fun x=>l.length-x.1) ⟨0,by simp⟩ (Sub.lit (by simp)) ?_;rintro⟨k,hk,zX⟩
 by_cases qV:k<l.length
 ·obtain⟨x,hx,qB,vD⟩:=Ap qV;have hqx:=hq x vD;simp only[Ba,aS0,List.cons_append,List.nil_append]at hqx;cases hb:q x
  ·rw[hb]at hqx
   have hno':∀i y,i<k+1->l[i]? =some y->q y=false:=by
    intro i y hi hy
    by_cases pG:i=k
    ·subst pG;rw[hx]at hy;simp only[aA0]at hy;subst hy;exact hb
    ·exact zX i y (by omega) hy
   (refine AL (AH hqx) Ab (CL @Ba.eq_1 qV qB) ?_;intros;refine Am ?_)
   exact Al.mk ⟨k+1,by omega,hno'⟩ (Sub.lit (by simp[])) (by simp;omega)
   skip
  ·rw[hb]at hqx;have yQ:l.any q=true:=cF0.2 ⟨x,vD,hb⟩
   have hidx:l.findIdx q=k:=by
    rw[List.findIdx_eq qV];refine⟨by rw[qB];exact hb,fun i hi=> ?_⟩;exact zX i _ hi (aI0 (by omega))
   exact Az (AH hqx) Ab (Lj @Ba.eq_1 qV qB yQ hidx)
 ·have qZ:k=l.length:=by omega
  have yQ:l.any q=false:=by
   rw[eS0];intro x hx;obtain⟨i,hi,rfl⟩:=bW0 hx;rw[zX i _ (by omega) (aI0 hi)];simp
  (repeat (first | refine AC fun K hK=> ?_ | (refine BA ND mxd (by kernel_rfl) ?_;simp[ND,qX,Ba,qZ,yQ];try simp (disch:=omega) only[Ag]) | refine Ao ?_ | (refine AX ?_ ?_ ?_;(· (simp[qX,Ba,qZ,yQ];done));(try (rotate_left;(· (intro hc;(try simp[qX,Ba,qZ,yQ]at hc);done))))) | (refine AE ?_;simp[results150,qX,Ba,qZ,yQ]) | ((first | refine Aw ?_ | refine Av ?_);simp[qX,Ba,qZ,yQ]) | (intro hc;(try simp[qX,Ba,qZ,yQ]at hc);(try (exfalso;omega))) | ((first | refine Ak (hqx) ?_ | (refine Aj (hqx) ?_ ?_;(· (simp;done))));try simp[qX,Ba,qZ,yQ]) | (refine⟨?_,?_⟩; · omega) | omega | apply_assumption -exfalso -symm | (exfalso;omega)))
def ZX : Ann:=⟨[],[]⟩
theorem Mi (g:FuncId) (us cs:List DVal) (l:List Rul) (q:Rul->Bool) (hq:∀x∈l,Af prog g (us++[.agg (Ba x)]++cs) (.bool (q x))) :
  Af prog 101 [Au l,.fn (.func g) us cs] (.bool (l.any q)):=by
 refine Ae [] ZX func101 call101 ntmps101 mxd (AB @ZX.eq_1 results101) rfl (fun qJ B qX qQ=> ?_);simp only[Aq];have hi:=Pu g us cs l q hq;have fI:(0:Int)<=(l.findIdx q:Nat):=by omega
 cases hb:l.any q
 ·rw[hb]at hi;exact Az (AH hi) Ab (AH hb)
 ·rw[hb]at hi;exact Az (AH hi) Ab (AH hb)
def Zk (r:Rul):Bool:= !(Du 2 r.h&&Dg r.b)
def ZV : Ann:=⟨[],[]⟩
theorem TM (r:Rul) (hs:r.b.length<=1572864):Af prog 103 [.agg (Ba r)] (.bool (Zk r)):=by
 refine Ae [] ZV func103 call103 ntmps103 mxd (AB @ZV.eq_1 results103) rfl (fun qJ B qX qQ=> ?_);clear qJ;simp only[Aq];have e1:=RD r.h;unfold Zk;cases h1:Du 2 r.h
 ·rw[h1]at e1;exact Az (AH e1) Ab (AH @Ba.eq_1)
 ·rw[h1]at e1;cases h2:Dg r.b
  ·have e2:=VU r.b hs h2;exact Az (AB e1 e2) Ab (AH @Ba.eq_1)
  ·obtain⟨t,ht,hb⟩:=LQ h2;have e2:=LI t ht (by rw[<-hb];exact hs);rw[<-hb]at e2;have hp:1<=JC t:=by cases t;rw[VS];omega
   have qF:((JC t:Int)==0)=false:=by simp;omega
   exact Az (AB e1 e2) Ab (AB @Ba.eq_1 qF)
def ZQ : Ann:=⟨[],[]⟩
theorem AF_ (h:ByteArray) (t:RT) (ht:ED t=true) (hs:(Ad t).length<=1572864):Af prog 111 [.agg (Ba ⟨h,Ad t⟩)] (.bool (decide (16<JC t))):=by
 refine Ae [] ZQ func111 call111 ntmps111 mxd (AB @ZQ.eq_1 results111) rfl (fun qJ B qX qQ=> ?_);clear qJ;simp only[Aq];have e2:=LI t ht hs;have hd:decide (16<JC t)=decide ((16:Int)<(JC t:Int)):=decide_eq_decide.2 (by omega);rw[hd];exact Az (AH e2) Ab (AH @Ba.eq_1)
def ZY : Ann:=⟨[],[]⟩
theorem Od (f:FuncId) (g:List Rul) (q:Rul->Bool) (hq:∀x∈g,Af prog f [.agg (Ba x)] (.bool (q x))):Af prog 100 [Au g,.ref [.fn (.func f) [] []]] (.bool (g.any q)):=by
 refine Ae [] ZY func100 call100 ntmps100 mxd (AB @ZY.eq_1 results100) rfl (fun qJ B qX qQ=> ?_);clear qJ;simp only[Aq];have e1:=Mi f [] [] g q fun x hx=>by simpa using hq x hx
 exact Az (AH e1) Ab Ab
def ZW : Ann:=⟨[],[]⟩
theorem Oc (g:List Rul):Af prog 102 [Au g] (.bool (decide (g.length<1)||decide (64<g.length))):=by
 refine Ae [] ZW func102 call102 ntmps102 mxd (AB @ZW.eq_1 results102) rfl (fun qJ B qX qQ=> ?_);clear qJ;simp only[Aq];have h1:decide (g.length<1)=decide ((g.length:Int)<1):=decide_eq_decide.2 (by omega);have h2:decide (64<g.length)=decide ((64:Int)<(g.length:Int)):=decide_eq_decide.2 (by omega);rw[h1,h2]
 by_cases c:(g.length:Int)<1
 ·exact Az Ab Ab (AH c)
 ·exact Az Ab Ab (AH c)
def ZP : Ann:=⟨[],[]⟩
theorem AE_ (g:List Rul) (hn:(AK 2 g).length<=9223372036854775807):Af prog 112 [Au g] (.bool (decide (0<(CP g).length))):=by
 refine Ae [] ZP func112 call112 ntmps112 mxd (AB @ZP.eq_1 results112) rfl (fun qJ B qX qQ=> ?_);clear qJ;simp only[Aq];have e1:=Js g hn;have h2:decide (0<(CP g).length)=decide ((0:Int)<((CP g).length:Int)):=decide_eq_decide.2 (by omega);rw[h2];exact Az (AH e1) Ab Ab
def ZT : Ann:=⟨[],[]⟩
theorem AI_ (g:List Rul) (hl:g.length<=64) (hs:Ge g):Af prog 106 [Au g] (.bool (decide (16<(AD g).length+(CP g).length))):=by
 refine Ae [] ZT func106 call106 ntmps106 mxd (AB @ZT.eq_1 results106) rfl (fun qJ B qX qQ=> ?_);clear qJ;simp only[Aq];have n2:=EE (k:=2) hs;have e1:=Js g (by omega);have e2:=VW g;have b1:=Je g
 have b2:(CP g).length<=110000000:=by
  have:=HR (AK 2 g);have:=cM0 (fun s=> !decide (s∈AD g)) (EW (AK 2 g));unfold CP;omega
 obtain⟨H,hH⟩:∃H,H=AD g:=⟨_,rfl⟩;obtain⟨m,hm⟩:∃m,m=(CP g).length:=⟨_,rfl⟩;rw[<-hH]at e2 b1;rw[<-hm]at e1 b2;rw[<-hH,<-hm];have h2:decide (16<H.length+m)=decide ((16:Int)<(H.length:Int)+(m:Int)):=decide_eq_decide.2 (by omega);rw[h2];have w1:IntKind.i64.wrap ((H.length:Int)+(m:Int))=(H.length:Int)+(m:Int):=wq;exact Az (AB e1 e2) Ab (AH w1)
def ZR : Ann:=⟨[],[⟨4,[5],[],[]⟩]⟩
theorem iJ (g:List Rul) (hs:Ge g) (hl:g.length<=64):Af prog 110 [Au g] (.int .i64 (Ds g)):=by
 refine Ae [] ZR func110 call110 ntmps110 mxd (AB @ZR.eq_1 results110) rfl (fun qJ B qX qQ=> ?_);clear qJ;simp only[Aq];have ho:=Vz hs
 (refine AL Ab Ab Ab ?_;intros;refine Am ?_)
 refine Ai (X:={i:Nat//i<=g.length}) (fun i=>⟨[(0,Au g),(3,.int .i64 (Ds (g.take i.1))),(6,Au g),(7,.int .i64 g.length),(8,.int .i64 i.1)],[]⟩) (fun i=>g.length-i.1) ⟨0,by omega⟩ (Sub.lit (by simp[Ds])) ?_;rintro⟨i,hi⟩;simp only
 by_cases qV:i<g.length
 ·obtain⟨r,hr,qW,bL⟩:=Ap qV;have e1:=QZ r.b;have h1:=TR hr;have h2:=MN g (i+1);have h3:=Vy r.b;have w1:IntKind.i64.wrap ((Ds (g.take i):Int)+(HC r.b:Int))=(Ds (g.take (i+1)):Int):=by rw[wq];omega
  have w2:IntKind.i64.wrap ((i:Int)+1)=(i:Int)+1:=wq
  (refine AL (AH e1) Ab (Jm @Ba.eq_1 qV hr qW w1 w2) ?_;intros;refine Am ?_)
  refine Al.mk ⟨i+1,by omega⟩ (Sub.lit (by simp)) (by simp;omega)
  skip
 ·have qZ:i=g.length:=by omega
  subst qZ;rw[aU0];exact Az Ab Ab Ab
def ZS : Ann:=⟨[],[]⟩
theorem AG_ (g:List Rul) (hs:Ge g) (hl:g.length<=64):Af prog 109 [Au g] (.bool (decide (64<Ds g))):=by
 refine Ae [] ZS func109 call109 ntmps109 mxd (AB @ZS.eq_1 results109) rfl (fun qJ B qX qQ=> ?_);clear qJ;simp only[Aq];have e1:=iJ g hs hl;have h2:decide (64<Ds g)=decide ((64:Int)<(Ds g:Int)):=decide_eq_decide.2 (by omega);rw[h2];exact Az (AH e1) Ab Ab
def Fq (t:RT):Bool:=decide ((Ad t).length<=2048)&&decide (Dk t=0)
def eX (t:RT):DVal:=if (Ad t).length<=2048 then (if Dk t=0 then .tup [.str (CT t),.int .i64 0]else .tup [.str ⟨#[]⟩,.int .i64 (Dk t)])else .tup [.str ⟨#[]⟩,.int .i64 3]
def IE : Ann:=⟨[],[]⟩
theorem SZ (t:RT) (ht:ED t=true):Af prog 151 [AM (Ad t)] (eX t):=by
 unfold eX
 by_cases hl:(Ad t).length<=2048
 ·rw[if_pos hl];have e1:=Nn t ht hl;have e2:=Mr _ t rfl ht (by omega);obtain⟨b,hb⟩:∃b,b=Ad t:=⟨_,rfl⟩;rw[<-hb]at e1 e2 |-
  by_cases h0:Dk t=0
  ·rw[if_pos h0];rw[h0]at e1;refine Ae [] IE func151 call151 ntmps151 mxd (AB @IE.eq_1 results151) rfl (fun qJ B qX qQ=> ?_);clear qJ;simp only[Aq];exact Az (AB e1 e2) Ab Ab
  ·rw[if_neg h0];have zJ:(Dk t != 0)=true:=by simpa using h0
   refine Ae [] IE func151 call151 ntmps151 mxd (AB @IE.eq_1 results151) rfl (fun qJ B qX qQ=> ?_);clear qJ;simp only[Aq];have z0:(⟨#[]⟩:ByteArray).size<=maxLen:=dC0 _;exact Az (AH e1) Ab (CL h0 zJ z0)
 ·rw[if_neg hl];have e1:=No (Ad t) (by omega);obtain⟨b,hb⟩:∃b,b=Ad t:=⟨_,rfl⟩;rw[<-hb]at e1 |-;refine Ae [] IE func151 call151 ntmps151 mxd (AB @IE.eq_1 results151) rfl (fun qJ B qX qQ=> ?_);clear qJ;simp only[Aq];have z0:(⟨#[]⟩:ByteArray).size<=maxLen:=dC0 _;exact Az (AH e1) Ab (AH z0)
theorem Pl (x:ByteArray) (hx:x.size≠0):Bj prog (.func 153) [.rx 0 0 2 0 0] [⟨0,0,.row 191 2 32 [[.rx 0 0 2 0 0,.osl 1 0]]⟩,⟨1,0,.row 5 1 1 (AZ x)⟩] (.str x) [⟨0,0,.row 191 2 32 [[.rx 0 0 2 0 0,.sl 1 1 (AZ x)]]⟩] :=
 KB Tryz.bldString Zh call153 32 x hx
def ZO : Ann:=⟨[],[]⟩
theorem Yq (x:ByteArray):Bj prog (.func 154) [.rx 0 0 2 0 0] [⟨0,0,.row 191 2 32 [[.rx 0 0 2 0 0,.sl 1 1 (AZ x)]]⟩] (.int .i64 x.size) [⟨0,0,.row 191 2 32 [[.rx 0 0 2 0 0,.sl 1 1 (AZ x)]]⟩]:=by
 refine BL [] [(0,0,0)] ZO func154 call154 ntmps154 mxd (AB @ZO.eq_1 results154) rfl (fun qJ B qX qQ=> ?_) (hv:=(by simp[Gj]));clear qJ;simp only[Aq];have h1:=Bb x;have h2:=Gj x;obtain⟨D,hD⟩:∃D,D=AZ x:=⟨_,rfl⟩;rw[<-hD]at h1 h2 |-;exact Az Ab Ab (AH h1)
theorem TG (p:ByteArray×RT):(Jq p).size≠0:=by
 unfold Jq;simp only[aP0];have z3:(⟨#[32,61,32]⟩:ByteArray).size=3:=rfl;omega
def Ka (gt:GT):Bool:=gt.all (fun p=>Fq p.2)&&decide ((Ca gt).size<=2048)
def oW (gt:GT):ByteArray:=if gt.all (fun p=>Fq p.2)then Ca gt else ⟨#[]⟩
theorem xZ {gt:GT} (h:1<=gt.length):(Ca gt).size≠0:=by
 have h1:=Gq (aI0 (show 0<gt.length by omega));have h2:=Lx gt 1;rw[h1,aP0]at h2;have:=TG (gt[0]'(by omega));omega
def NC : Ann:=⟨[29,31,32],[⟨1,[4],[],[]⟩,⟨4,[6],[],[]⟩]⟩
theorem UX (gt:GT) (hk:OkG gt) (hs:Ge (Bu gt)) (h1:1<=gt.length) (hl:gt.length<=64):Af prog 114 [Au (Bu gt)] (.tup [.str (oW gt),.bool (Ka gt)]):=by
 refine Ae [] NC func114 call114 ntmps114 mxd (AB @NC.eq_1 results114) rfl (fun qJ B qX qQ=> ?_);clear qJ;simp only[Aq];have zS:=Ft gt;have yI:=fun i p=>iP (gt:=gt) (i:=i) (p:=p)
 have kT:=fun p=>JM hs (p:=p)
 have vC:=LR hk hs;have cE:=fun p=>QC hk hs (p:=p)
 obtain⟨g,hg⟩:∃g,g=Bu gt:=⟨_,rfl⟩;rw[<-hg]at zS yI |-;clear hs hg;obtain⟨R,hR⟩:∃R,R=oW gt:=⟨_,rfl⟩;obtain⟨O,hO⟩:∃O,O=Ka gt:=⟨_,rfl⟩;rw[<-hR,<-hO];have z3:(⟨#[32,61,32]⟩:ByteArray).size=3:=rfl;have z4:(⟨#[32,59,10]⟩:ByteArray).size=3:=rfl;have m3:3<=maxLen:=by decide
 have m1:1<=maxLen:=by decide
 have mbig:3000000000<=maxLen:=by decide
 have z0:(⟨#[]⟩:ByteArray).size<=maxLen:=dC0 _;refine AC fun K0 hK0=> ?_
 (first | refine AC fun K hK=> ?_ | (refine BA NC mxd (by kernel_rfl) ?_;simp[NC,qX,z0];try simp (disch:=omega) only[Ag]) | refine Ao ?_ | (refine AX ?_ ?_ ?_;(· (simp[qX,z0];done));(try (rotate_left;(· (intro hc;(try simp[qX,z0]at hc);done))))) | (refine AE ?_;simp[results114,qX,z0]) | ((first | refine Aw ?_ | refine Av ?_);simp[qX,z0]) | (intro hc;(try simp[qX,z0]at hc);(try (exfalso;omega))) | (refine⟨?_,?_⟩; · omega) | omega | apply_assumption -exfalso -symm | (exfalso;omega))
 apply hK0
 refine AC fun K1 hK1=> ?_
 refine OL (bs:=32) (k:=2) (z:=[.nilp,.nilsl]) (by simp[qX]) (by simp) (by rfl) rfl (by decide) (fun r hr=> ?_);simp
 apply hK1
 (refine AL Ab Ab Ab ?_;intros;refine Am ?_)
 refine Ai (X:={i:Nat//i<=gt.length/\(gt.take i).all (fun p=>Fq p.2)=true}) (fun i=>⟨[(0,Au g),(4,.rx 4 1 2 0 0),(9,Au g),(10,.int .i64 gt.length),(11,.int .i64 i.1)],Hp_ 4 50 (Ca (gt.take i.1))⟩) (fun i=>gt.length-i.1) ⟨0,by simp⟩ (Sub.lit (by simp only[dN0,show Ca []=⟨#[]⟩ from rfl,OF (T:=⟨#[]⟩) rfl];simp[zS])) ?_;rintro⟨i,hi,wZ⟩;simp only
 by_cases qV:i<gt.length
 ·obtain⟨p,hp,zM,jW⟩:=Ap qV;have hr:=yI i p hp;have qL:i<g.length:=by omega
  have qW:g[i]'qL=⟨p.1,Ad p.2⟩:=(aB0.1 hr).2;have e1:=SZ p.2 (hk p jW).2;have w2:IntKind.i64.wrap ((i:Int)+1)=(i:Int)+1:=wq;unfold eX at e1;obtain⟨b,hb⟩:∃b,b=Ad p.2:=⟨_,rfl⟩;have mX:(gt.take (i+1)).all (fun p=>Fq p.2)=Fq p.2:=by rw[bM0,hp,List.all_append,wZ];simp
  by_cases hpr:Fq p.2=true
  ·have nY:=hpr;unfold Fq at nY;rw[aL0,decide_eq_true_eq,decide_eq_true_eq]at nY;rw[if_pos nY.1,if_pos nY.2]at e1;rw[<-hb]at hr qW e1;rw[hpr]at mX;have wT:=Gq hp;have hrs1:=cE p jW;have mS:=vC i hi;have mO:=TG p;have vX:Jq p=p.1++⟨#[32,61,32]⟩++CT p.2++⟨#[32,59,10]⟩:=rfl;obtain⟨s,hs⟩:∃s,s=CT p.2:=⟨_,rfl⟩;rw[<-hs]at e1 vX;obtain⟨T,hT⟩:∃T,T=Ca (gt.take i):=⟨_,rfl⟩;rw[<-hT]at wT mS |-;obtain⟨U,hU⟩:∃U,U=Jq p:=⟨_,rfl⟩
   rw[<-hU]at hrs1 mO vX wT;have hUs:U.size=p.1.size+3+s.size+3:=by rw[vX];simp only[aP0,z3,z4]
   have y2:p.1.size+3<=maxLen:=by omega
   have y3:p.1.size+3+s.size<=maxLen:=by omega
   have y4:p.1.size+3+s.size+3<=maxLen:=by omega
   have hNs:(Ca (gt.take (i+1))).size≠0:=by rw[wT,aP0];omega
   have wG:=KY (i:=4) (j:=50) hNs
   by_cases hT0:T.size=0
   ·rw[OF hT0];have e2:=Pk U (by omega);rw[HN_ hT0,By_]at wT;rw[vX]at e2
    (refine AL (AH e1) (AH (JA [(4,0)] [(50,1)] e2)) (Hs_ @Ba.eq_1 qV qL hr qW z3 z4 m3 m1 y2 y3 y4 @aP0 w2) ?_;intros;refine Am ?_)
    refine Al.mk ⟨i+1,by omega,mX⟩ (Sub.lit (by rw[wG,wT,vX];simp)) (by simp;omega)
    skip
   ·rw[KY hT0];have e2:=CE T U (by omega);rw[<-wT]at e2;rw[vX]at e2
    (refine AL (AH e1) (AH (JA [(4,0),(50,1)] [] e2)) (Hs_ @Ba.eq_1 qV qL hr qW z3 z4 m3 m1 y2 y3 y4 @aP0 w2) ?_;intros;refine Am ?_)
    refine Al.mk ⟨i+1,by omega,mX⟩ (Sub.lit (by rw[wG];simp)) (by simp;omega)
    skip
  ·have bZ:gt.all (fun p=>Fq p.2)=false:=by
    rw[eD0];intro hh;rw[aZ0]at hh;exact hpr (hh p jW)
   have wY:R=⟨#[]⟩:=by rw[hR];unfold oW;rw[bZ];rfl
   have hO2:O=false:=by rw[hO];unfold Ka;rw[bZ];rfl
   subst wY;subst hO2
   obtain⟨c,yA,e2⟩:∃c:Int,(c != 0)=true/\Af prog 151 [AM (Ad p.2)] (.tup [.str ⟨#[]⟩,.int .i64 c]):=by
    by_cases vR:(Ad p.2).length<=2048
    ·rw[if_pos vR]at e1
     by_cases h0:Dk p.2=0
     ·exact absurd (by unfold Fq;simp[vR,h0]) hpr
     ·rw[if_neg h0]at e1;exact⟨_,by simpa using h0,e1⟩
    ·rw[if_neg vR]at e1;exact⟨3,rfl,e1⟩
   have hc1:¬c=0:=by simpa using yA
   rw[<-hb]at hr qW e2;obtain⟨T,hT⟩:∃T,T=Ca (gt.take i):=⟨_,rfl⟩;rw[<-hT];clear e1
   by_cases hT0:T.size=0
   ·rw[OF hT0];exact Az (AH e2) Ab (KG @Ba.eq_1 qV qL hr qW yA hc1 z0)
   ·rw[KY hT0];exact Az (AH e2) Ab (KG @Ba.eq_1 qV qL hr qW yA hc1 z0)
 ·have qZ:i=gt.length:=by omega
  subst qZ;rw[aU0]at wZ |-;have qF:=xZ h1;have mS:=vC gt.length (Nat.le_refl _);rw[aU0]at mS;have wY:R=Ca gt:=by rw[hR];unfold oW;rw[wZ];rfl
  have hO2:O=decide ((Ca gt).size<=2048):=by rw[hO];unfold Ka;rw[wZ];rfl
  obtain⟨T,hT⟩:∃T,T=Ca gt:=⟨_,rfl⟩;rw[<-hT]at qF wY hO2 mS |-;have hO3:decide (T.size<=2048)=decide ((T.size:Int)<=2048):=decide_eq_decide.2 (by omega);rw[hO3]at hO2;clear hR hO hO3;subst wY;subst hO2;rw[KY qF];have e1:=Pl R qF;have e2:=Yq R;have h2:=Gj R;exact Az Ab (AB (JA [(4,0),(50,1)] [] e1) (JA [(4,0)] [] e2)) (AH zS)
end Go.Proofs.Wy
end
section
namespace Go.Proofs.Wy
open Go Go.Dm Go.RowKit Go.Maps Go.Sort Go.Shelf Go.Proofs
set_option maxRecDepth 100000
theorem GC_ (m:Nat):AnyZ.SortsIn Tryz.prog Tryz.sortedM_ren Fence.wide m :=
 ⟨fun blk off cap ss W hH hblk qI=>callsIn_wide.2 (AnyM.slices_Sort_string Tryz.sortStr blk off cap ss W hH hblk qI),
  fun p cap W=>callsIn_wide.2 (AnyM.slices_Sort_string_none Tryz.sortStr p cap W)⟩
theorem TB {cur:ES} {M:List Nat} {h:Array Obj}:∀{K:List ByteArray} {vs:List Value},rdV cur M h (DP K) vs->vs=K.map Value.string/\∀s∈K,s.size<=maxLen
 | [],vs,hr=>by
  simp only[DP,List.map_nil,rdV]at hr;subst hr;simp
 | s::K,vs,hr=>by
  rw[Dw]at hr;simp only[rdV,Dm.rd]at hr;obtain⟨v,r,rfl,⟨rfl,hs⟩,h2⟩:=hr;obtain⟨h3,h4⟩:=TB h2;subst h3;refine⟨rfl,fun x hx=> ?_⟩
  rcases aK0.1 hx with rfl | hx
  ·exact hs
  ·exact h4 x hx
def EI_ : Value->Option (DataW Unit×List MemPlace):=fun _=>some (.nil,[])
theorem Fk_ {w:World} {b:Nat} {es:Array MapEntry} {clk:Nat} {K:List ByteArray} (hb:w.heap[b]? =some (.map es clk)) (hB:GP es clk) (hk:es.toList.map (·.key)=K.map Value.string) (qI:∀s∈K,s.size<=maxLen) (hn:K.Nodup) (hl:K.length<=maxLen) :
  ∃D0:DataW Unit,w.ownsMap Tryz.prog 9 EI_ b K.length D0/\(strKeys D0).Perm (K.map fun s=>s.data.toList)/\Maps.size D0=K.length:=by
 have bJ:es.size=K.length:=by
  have:=congrArg List.length hk;simpa using this
 have pY:∀x∈es.toList,∃s∈K,x.key= .string s/\WideElems.rd Tryz.prog 9 EI_ x=some (.string s.data.toList,.nil):=by
  intro x hx;have:x.key∈K.map Value.string:=by rw[<-hk];exact cX0 hx
  obtain⟨s,hs,he⟩:=aT0.1 this;refine⟨s,hs,he.symm,?_⟩;obtain⟨k,v,bn⟩:=x;simp only at he;subst he;exact WideElems.rd_mk (WideMaps.keyOf_string_mk Tryz.underlying9 (qI s hs)) (show EI_ v=some (.nil,[]) from rfl)
 have hE:es.toList.map (WideElems.rg Tryz.prog 9 EI_)=K.map fun s=>(Lit.string s.data.toList,DataW.nil):=by
  have h1:es.toList.map (WideElems.rg Tryz.prog 9 EI_)=(es.toList.map (·.key)).map fun v=>match v with | .string s=>(Lit.string s.data.toList,DataW.nil) | _=>(.bool false,.nil):=by
   rw[cC0];refine cJ0 fun x hx=> ?_
   obtain⟨s,_,he,hr⟩:=pY x hx;rw[WideElems.rg_of hr];simp[he]
  rw[h1,hk,cC0];rfl
 refine⟨_,⟨es,clk,hb,⟨by omega,⟨hB.2,hB.1,?_⟩,fun x hx=> ?_⟩,by omega,rfl⟩,?_,?_⟩
 ·rw[hk];exact dK0.2 (hn.imp fun h e=>h (by cases e;rfl))
 ·obtain⟨s,_,_,hr⟩:=pY x hx;exact⟨_,hr⟩
 ·show ((_:List (Lit×DataW Unit)).map fun p=>strOf p.1).Perm _
  refine((WideShapes.sorted_perm _).map _).trans ?_;rw[hE,cC0];exact List.Perm.refl _
 ·show (_:List (Lit×DataW Unit)).length=_
  rw[(WideShapes.sorted_perm _).length_eq,hE,aJ0]
theorem xX {w w':World} (h:Below w.heap.size w w'):Upd [] w w':=⟨h.os,h.tape,h.output,fun hd=>Bool.noConfusion hd,h.size,fun b hb _=>h.block b hb⟩
theorem UZ {K:List ByteArray} (hn:K.Nodup):Str (He K):=by
 have h1:=Mx K
 have h2:(He K).Nodup:=by
  unfold He;refine dK0.2 (List.Pairwise.imp (R:=(· ≠ ·)) (fun {a b:List UInt8} h (e:(⟨a.toArray⟩:ByteArray)=⟨b.toArray⟩)=>h (by have:=congrArg (fun x:ByteArray=>x.data.toList) e;simpa using this)) ?_);exact(dW0 _ _).nodup_iff.2 (dK0.2 (hn.imp fun h e=>h (Iw e)))
 refine(h1.and h2).imp ?_;rintro a b ⟨h3,h4⟩;cases h5:CO a b
 ·exact absurd (KM h5 h3) h4
 ·rfl
theorem eC {K es:List ByteArray} (hn:K.Nodup) (hm:∀s,s∈K↔s∈es):He K=EW es:=oT (UZ hn) fun x=>by rw[TE,hm x]
theorem Kg (g:List Rul) (kT:(AK 3 g).length*16<=140737488355328):DO Tryz.prog 41 [Au g] (Bz (AG g)):=by
 refine⟨Tryz.call41,by simp[mx],fun w vs hr=> ?_⟩;simp only[rdV]at hr;obtain⟨v0,r0,wS,h0,rfl⟩:=hr;have zV:vs= #[v0]:=by cases vs;simpa using wS
 subst zV;have qG:=lS (AK 3 g);have hN:=LB g 3;obtain⟨m,hm⟩:∃m,m=Pz (AK 3 g):=⟨_,rfl⟩;rw[<-hm]at hN qG;obtain⟨_,_,hN⟩:=hN
 have hN:=(hN [] w (fun _=>⟨[],Go.undef⟩) #[v0,.int .i64 3] ⟨by simp,by simp[Aa],by simp[Aa],fun b hb=>by simp[Aa]at hb,by simp⟩ (by
  simp only[rdV];refine⟨v0,_,rfl,?_,_,_,rfl,by simp[Dm.rd],rfl⟩
  exact Bk (n:=0) ⟨fun _ _ _ h _=>absurd h (Nat.not_lt_zero _),fun _ _ _ _ h=>h,fun b _ hb _ _ hm=>by simp[Aa]at hm⟩ _ _ (by simp[mx]) h0)).2
 have cK:∀mb W,CallsIn Fence.wide 5 Tryz.prog 71 #[.map mb] W fun e w'=>e= .returned (.func (.func 118) #[] #[.pointer (some ⟨W.heap.size,0,none⟩)])/\w'=W.alloc (.cells #[.map mb] 127):=fun mb W=>AnyZ.keys_in Tryz.keysM Fence.wide 5 trivial rfl mb W
 have mG:Fence.wide.fn 72:=trivial;have hf2:Fence.wide.fn 71:=trivial;have hf3:Fence.wide.fn 70:=trivial;refine(callsIn_wide (n:=6)).1 ?_;refine callsIn_of_wp Tryz.func41 rfl trivial ?_ rfl;simp only[Tryz.ntmps41,dJ0,List.length_cons,List.length_nil,Nat.reduceAdd,Nat.reduceSub,Array.replicate_succ,Array.replicate_zero,List.push_toArray,List.append_toArray,List.nil_append,List.cons_append]
 gi_wp2_with (gi_at_call 72;refine(callsIn_wide.2 hN).mono ?_;rintro e w1 ⟨v1,rfl,loc1,S1,U1,hnew1,hver1,hrd1⟩)
 simp only[Dm.rd]at hrd1;obtain⟨b,qC,rfl⟩:=hrd1 (loc1 0) rfl;have hO:=S1.ok _ (aE0.2 rfl);obtain⟨b',es,clk,wX,pM,bO,dD,_⟩:=hO;simp only at wX;rw[qC]at wX;simp only[bG0,and_true]at wX;subst wX;obtain⟨hke,zE⟩:=TB dD;have qU:m.K.length<=(AK 3 g).length:=qG.le;have dY:m.K.length<=maxLen:=by unfold maxLen;omega
 have fN:b<w1.heap.size:=(aC0.1 pM).1;obtain⟨D0,bE,jX,hsize⟩:=Fk_ (w:=w1.alloc (.cells #[.map (some b)] 127)) (b:=b) (by rw[<-pM];simp only[World.alloc,bS0];rw[if_neg (by omega)]) bO hke zE qG.nd dY
 gi_wp2_with (gi_at_call 71;refine(cK _ _).mono ?_;rintro e w2 ⟨rfl,rfl⟩)
 have hseq:SeqGives Fence.wide 2 Tryz.prog 118 #[.pointer (some ⟨w1.heap.size,0,none⟩)] encStr (fun ss=>ss.Perm (strKeys D0)) (Maps.size D0) (w1.alloc (.cells #[.map (some b)] 127)) :=
  AnyZ.keys_gives (ρ:=Tryz.keysM_ren) { Tryz.keysM with } Fence.wide _ trivial rfl (by omega) w1.heap.size b m.K.length D0 _ (by simp) (by simp) bE
 have cS:=AnyZ.sorted_in Tryz.sortedM Fence.wide 5 trivial trivial trivial trivial rfl (by omega) (GC_ _) (enters_of Tryz.func117 (by kernel_rfl) rfl) 118 #[.pointer (some ⟨w1.heap.size,0,none⟩)] trivial (enters_of Tryz.func118 (by kernel_rfl) rfl) _ _ (by omega) (by omega) _ hseq
 change CallsIn _ _ Tryz.prog 70 _ _ _ at cS
 gi_wp2_with (gi_at_call 70;refine cS.mono ?_;rintro e w3 ⟨v,ss,rfl,hS,qH,hnil,cU⟩)
 go_ret
 have hU:Upd [] w w3:=(show Upd [] w w1 from U1).trans ((Upd.alloc [] w1 _).trans (xX cU) (by simp)) (by simp)
 have gF:(ss.mergeSort fun x y=>decide (x<=y)).map (fun x=>(⟨x.toArray⟩:ByteArray))=AG g:=by
  have h1:ss.mergeSort leB=(m.K.map fun s=>s.data.toList).mergeSort leB:=mergeSort_of_perm (hS.trans jX);have h2:=eC qG.nd qG.mem;unfold He at h2;unfold AG;rw[<-h2,<-h1]
 have gV:ss.length=m.K.length:=by rw[hS.length_eq,jX.length_eq,aJ0]
 refine⟨v,rfl,hU,?_⟩;simp only[Dm.rd];rw[<-gF];obtain⟨_,qH⟩:=qH
 rcases qH with ⟨rfl,hz⟩ | ⟨gb,cap,cur2,rfl,hbase,hgb,r1,r2,r3,r4⟩
 ·have h0:ss=[]:=bN0 hz;subst h0;exact⟨none,0,by simp,by simp,by simp,by simp,.inl ⟨by simp,fun _=>rfl⟩⟩
 ·have zS:(ss.mergeSort fun x y=>decide (x<=y)).length=ss.length:=List.length_mergeSort _;refine⟨some ⟨gb,0,none⟩,cap,by simp,by simpa using r1,r2,?_,.inr ⟨gb,0,cur2,_,(0,0),rfl,fun hm=> ?_,hgb,?_⟩⟩
  ·simp only[aJ0,zS];omega
  ·have h1:=bZ0.1 hm;have h2:=U1.size;simp at hbase;omega
  ·refine EA _ _ _ _ fun i cs hi=> ?_
   rw[bH0,bH0,Option.map_map,bB0]at hi;obtain⟨x,hx,rfl⟩:=hi;refine⟨rfl,?_⟩;have kI:i<ss.length:=by have:=(aB0.1 hx).1;omega
   have vK:cur2[i]? =some (encStr x):=by
    have h1:(cur2.toList.take (ss.length*1))[i]? =some (encStr x):=by rw[r4,bH0,hx];rfl
    rw[bT0 (by omega)]at h1;simpa using h1
   have mY:x.length<=maxLen:=by
    have h1:x∈m.K.map fun s=>s.data.toList:=(hS.trans jX).mem_iff.1 ((dW0 ss _).mem_iff.1 (bJ0 hx))
    obtain⟨s,hs,rfl⟩:=aT0.1 h1;exact zE s hs
   simp only[Function.comp_apply,Be,rdC,and_true];exact⟨encStr x,by simpa using vK,rfl,by simp only[Dm.rd];exact⟨trivial,mY⟩⟩
theorem Te (g:List Rul) (kT:(AK 3 g).length*16<=140737488355328):Af Tryz.prog 41 [Au g] (Bz (AG g)):=(Kg g kT).pure (by simp[AJ,mx])
end Go.Proofs.Wy
end
section
namespace Go.Proofs.Wy
open Go Go.Dm Tryz
attribute [local irreducible] DW BN BS
set_option maxRecDepth 100000
def ZN : Ann:=⟨[],[]⟩
theorem AH_ (g:List Rul) (hl:g.length<=64) (hs:Ge g):Af prog 108 [Au g] (.bool (decide (16<(AG g).length))):=by
 refine Ae [] ZN func108 call108 ntmps108 mxd (AB @ZN.eq_1 results108) rfl (fun qJ B qX qQ=> ?_);clear qJ;simp only[Aq];have n3:=EE (k:=3) hs;have e1:=Te g (by omega);obtain⟨H,hH⟩:∃H,H=AG g:=⟨_,rfl⟩;rw[<-hH]at e1;rw[<-hH];have h2:decide (16<H.length)=decide ((16:Int)<(H.length:Int)):=decide_eq_decide.2 (by omega);rw[h2];exact Az (AH e1) Ab Ab
def ZM : Ann:=⟨[],[]⟩
theorem AD_ (gt:GT) (hk:OkG gt) (hs:Ge (Bu gt)) (h1:1<=gt.length) (hl:gt.length<=64):Af prog 113 [Au (Bu gt)] (.bool (!Ka gt)):=by
 refine Ae [] ZM func113 call113 ntmps113 mxd (AB @ZM.eq_1 results113) rfl (fun qJ B qX qQ=> ?_);clear qJ;simp only[Aq];have e1:=UX gt hk hs h1 hl;obtain⟨g,hg⟩:∃g,g=Bu gt:=⟨_,rfl⟩;rw[<-hg]at e1 |-;exact Az (AH e1) Ab Ab
def uY : Ann:=⟨[],[]⟩
theorem TL (f:FuncId):Af prog 99 [.fn (.func f) [] []] (.fn (.func 100) [] [.ref [.fn (.func f) [] []]]):=by
 refine Ae [] uY func99 call99 ntmps99 mxd (AB @uY.eq_1 results99) rfl (fun qJ B qX qQ=> ?_) (hd:=(by simp[mx,AJ]));clear qJ;simp only[Aq];exact Az Ab Ab Ab
structure Ask where
 f:FuncId
 cs:List DVal
 b:Bool
 e:Int
def Sb (x:Ask):List DVal:=[.fn (.func x.f) [] x.cs,.int .i64 x.e]
def Hc (b1 b2 b3 b4 b5 b6 b7 b8:Bool):List Ask :=
 [⟨102,[],b1,180⟩,⟨100,[.ref [.fn (.func 103) [] []]],b2,170⟩,⟨106,[],b3,181⟩,⟨108,[],b4,182⟩,⟨109,[],b5,183⟩,⟨100,[.ref [.fn (.func 111) [] []]],b6,171⟩,⟨112,[],b7,184⟩,⟨113,[],b8,174⟩]
def uZ : Ann:=⟨[],[]⟩
theorem HB (b1 b2 b3 b4 b5 b6 b7 b8:Bool):Af prog 68 [] (.sl 2 16 ((Hc b1 b2 b3 b4 b5 b6 b7 b8).map Sb)):=by
 refine Ae [] uZ func68 call68 ntmps68 mxd (AB @uZ.eq_1 results68) rfl (fun qJ B qX qQ=> ?_) (hd:=(by simp[mx,Br,AJ,Hc,Sb]));clear qJ;simp only[Aq,Hc,Sb,List.map_cons,List.map_nil];have e1:=TL 103;have e2:=TL 111;have r8:List.range 8=[0,1,2,3,4,5,6,7]:=rfl;exact Az (AB e1 e2) Ab (AH r8)
def Mf : List Ask->Int
 | []=>0
 | x::l=>if x.b then x.e else Mf l
def xA : Ann:=⟨[],[⟨3,[4],[],[]⟩]⟩
theorem Ky (g:List Rul) (l:List Ask) (hl8:l.length=8) (vG:Br (l.map Sb)=0) (ho:Af prog 68 [] (.sl 2 16 (l.map Sb)))
  (hq:∀(k:Nat) (x:Ask),l[k]? =some x->(∀(j:Nat) (y:Ask),j<k->l[j]? =some y->y.b=false)->Af prog x.f (Au g::x.cs) (.bool x.b)):Af prog 39 [Au g] (.int .i64 (Mf l)):=by
 refine Ae [] xA func39 call39 ntmps39 mxd (AB @xA.eq_1 results39) rfl (fun qJ B qX qQ=> ?_);clear qJ;simp only[Aq];obtain⟨R,hR⟩:∃R,R=Mf l:=⟨_,rfl⟩;rw[<-hR]
 (refine AL (AH ho) Ab Ab ?_;intros;refine Am ?_)
 refine Ai (X:={k:Nat//k<=l.length/\R=Mf (l.drop k)/\∀(j:Nat) (y:Ask),j<k->l[j]? =some y->y.b=false}) (fun x=>⟨[(0,Au g),(5,.sl 2 16 (l.map Sb)),(6,.int .i64 l.length),(7,.int .i64 x.1)],[]⟩) (fun x=>l.length-x.1) ⟨0,by simp[hR]⟩ (Sub.lit (by simp[vG])) ?_;clear hR;rintro⟨k,hk,hR,zX⟩
 by_cases qV:k<l.length
 ·obtain⟨x,hx,qB,vD⟩:=Ap qV;rw[aR0 qV,qB,Mf]at hR;have e1:=hq k x hx zX;cases hb:x.b
  ·rw[hb]at e1 hR;simp only[aQ0,if_false]at hR
   have hno':∀(j:Nat) (y:Ask),j<k+1->l[j]? =some y->y.b=false:=by
    intro i y hi hy
    by_cases pG:i=k
    ·subst pG;rw[hx]at hy;simp only[aA0]at hy;subst hy;exact hb
    ·exact zX i y (by omega) hy
   (refine AL (AH e1) Ab (IF @Sb.eq_1 qV hx qB) ?_;intros;refine Am ?_)
   exact Al.mk ⟨k+1,by omega,hR,hno'⟩ (Sub.lit (by simp[vG])) (by simp;omega)
   skip
  ·rw[hb]at e1 hR;simp only[if_true]at hR;subst hR;exact Az (AH e1) Ab (IF @Sb.eq_1 qV hx qB)
 ·have qZ:k=l.length:=by omega
  subst qZ;rw[bU0]at hR;have wY:R=0:=hR;subst wY;exact Az Ab Ab Ab
theorem Tm (g:List Rul) (h:g.length<1\/64<g.length):Af prog 39 [Au g] (.int .i64 180):=by
 have hq:=Oc g;have hb:(decide (g.length<1)||decide (64<g.length))=true:=by simpa using h
 rw[hb]at hq;refine Ky g (Hc true true true true true true true true) rfl (by simp[Hc,Sb,Br,AJ,mx]) (HB _ _ _ _ _ _ _ _) fun k x hx zX=> ?_
 cases k with
 | zero =>
  simp only[Hc,bA0,aA0]at hx;subst hx;exact hq
 | succ k=>have:=zX 0 _ (by omega) rfl;simp at this
theorem Zd (g:List Rul) (h1:1<=g.length) (h2:g.length<=64) (hs:Ge g) (ht:Fa g=false):Af prog 39 [Au g] (.int .i64 170):=by
 have q1:=Oc g;have hb:(decide (g.length<1)||decide (64<g.length))=false:=by rw[decide_eq_false (by omega),decide_eq_false (by omega)];rfl
 rw[hb]at q1;have q2:=Od 103 g Zk fun x hx=>TM x (hs x hx)
 have wX:g.any Zk=true:=by
  unfold Fa at ht;rw[List.all_eq_false]at ht;obtain⟨r,hr,hn⟩:=ht;refine cF0.2 ⟨r,hr,?_⟩;unfold Zk;rw[dR0]at hn;rw[hn];rfl
 rw[wX]at q2;refine Ky g (Hc false true true true true true true true) rfl (by simp[Hc,Sb,Br,AJ,mx]) (HB _ _ _ _ _ _ _ _) fun k x hx zX=> ?_
 match k,hx,zX with
 | 0,hx,_ =>
  simp only[Hc,bA0,aA0]at hx;subst hx;exact q1
 | 1,hx,_ =>
  simp only[Hc,bA0,bL0,aA0]at hx;subst hx;exact q2
 | k+2,_,zX=>have:=zX 1 _ (by omega) rfl;simp at this
theorem iG {gt:GT} (hk:OkG gt) (hd:FU gt=false):Ka gt=decide ((Ca gt).size<=2048):=by
 unfold Ka
 by_cases h:(Ca gt).size<=2048
 ·rw[decide_eq_true h,eB0,aZ0];intro p hp;have h1:=Xq hp;have h2:=US p.2 (hk p hp).2;unfold FU at hd;rw[eS0]at hd;have h3:=hd p hp;simp only[decide_eq_true_eq]at h3;unfold Fq Dk;rw[if_neg h3,if_neg (by omega)];simp;omega
 ·rw[decide_eq_false h,dU0]
theorem lT (gt:GT) (h1:1<=gt.length) (h2:gt.length<=64) (hk:OkG gt) (hs:Ge (Bu gt)):Af prog 39 [Au (Bu gt)] (.int .i64 (Nk gt)):=by
 have zS:=Ft gt;have q1:=Oc (Bu gt);have hb:(decide ((Bu gt).length<1)||decide (64<(Bu gt).length))=false:=by rw[decide_eq_false (by omega),decide_eq_false (by omega)];rfl
 rw[hb]at q1;have q2:=Od 103 (Bu gt) Zk fun x hx=>TM x (hs x hx)
 have wX:(Bu gt).any Zk=false:=by
  have ht:=YB hk;unfold Fa at ht;rw[aZ0]at ht;rw[eS0];intro r hr;unfold Zk;rw[ht r hr];simp
 rw[wX]at q2;have n2:=EE (k:=2) hs;have q3:=AI_ (Bu gt) (by omega) hs;have q4:=AH_ (Bu gt) (by omega) hs;have q5:=AG_ (Bu gt) hs (by omega)
 have q6:Af prog 100 [Au (Bu gt),.ref [.fn (.func 111) [] []]] (.bool (FU gt)):=by
  have hq:∃q:Rul->Bool,(∀p∈gt,q ⟨p.1,Ad p.2⟩=decide (16<JC p.2))/\∀x∈Bu gt,Af prog 111 [.agg (Ba x)] (.bool (q x)):=by
   refine⟨fun r=>decide (16<(r.b.foldl Hn ([],0)).2),fun p hp=> ?_,fun x hx=> ?_⟩
   ·simp only[Kk (hk p hp).2]
   ·obtain⟨p,hp,rfl⟩:=aT0.1 hx;simp only[Kk (hk p hp).2];exact AF_ p.1 p.2 (hk p hp).2 (JM hs hp)
  obtain⟨q,jT,yE⟩:=hq;have e1:=Od 111 (Bu gt) q yE
  have:(Bu gt).any q=FU gt:=by
   unfold Bu FU;rw[List.any_map];rw[Bool.eq_iff_iff,cF0,cF0]
   constructor
   ·rintro⟨p,hp,h⟩;exact⟨p,hp,by rw[<-jT p hp];exact h⟩
   ·rintro⟨p,hp,h⟩;exact⟨p,hp,by rw[<-jT p hp]at h;exact h⟩
  rw[this]at e1;exact e1
 have q7:=AE_ (Bu gt) (by omega);have q8:=AD_ gt hk hs h1 h2
 have hf:Nk gt=Mf (Hc false false (decide (16<(AD (Bu gt)).length+(CP (Bu gt)).length)) (decide (16<(AG (Bu gt)).length)) (decide (64<Ds (Bu gt))) (FU gt) (decide (0<(CP (Bu gt)).length)) (!Ka gt)):=by
  unfold Nk;simp only[Hc,Mf,aQ0,if_false,decide_eq_true_eq];cases hd:FU gt
  ·rw[iG hk hd]
   by_cases h8:2048<(Ca gt).size
   ·have h8':¬(Ca gt).size<=2048:=by omega
    simp[h8,h8']
   ·have h8':(Ca gt).size<=2048:=by omega
    simp[h8,h8']
  ·simp
 rw[hf];refine Ky (Bu gt) _ rfl (by simp[Hc,Sb,Br,AJ,mx]) (HB _ _ _ _ _ _ _ _) fun k x hx zX=> ?_
 match k,hx with
 | 0,hx=>simp only[Hc,bA0,bL0,aA0]at hx;subst hx;exact q1
 | 1,hx=>simp only[Hc,bA0,bL0,aA0]at hx;subst hx;exact q2
 | 2,hx=>simp only[Hc,bA0,bL0,aA0]at hx;subst hx;exact q3
 | 3,hx=>simp only[Hc,bA0,bL0,aA0]at hx;subst hx;exact q4
 | 4,hx=>simp only[Hc,bA0,bL0,aA0]at hx;subst hx;exact q5
 | 5,hx=>simp only[Hc,bA0,bL0,aA0]at hx;subst hx;exact q6
 | 6,hx=>simp only[Hc,bA0,bL0,aA0]at hx;subst hx;exact q7
 | 7,hx=>simp only[Hc,bA0,bL0,aA0]at hx;subst hx;exact q8
 | k+8,hx=>simp[Hc]at hx
theorem Aj_ {l:List ByteArray} (h:Str l):l.Nodup:=h.imp fun h1=>CA_ h1
theorem XW {l:List ByteArray} (hn:l.Nodup) {i:Nat} {x:ByteArray} (h:l[i]? =some x):¬x∈l.take i:=by
 intro hm;obtain⟨j,hj,e⟩:=bW0 hm;rw[aY0]at hj;rw[List.getElem_take]at e;obtain⟨hi,e2⟩:=aB0.1 h;have:=(List.getElem_inj (h₀:=by omega) (h₁:=hi) hn).1 (e.trans e2.symm);omega
theorem Bh {α:Type} {l:List α} {i:Nat} {x:α} (h:l[i]? =some x):l.take (i+1)=l.take i++[x]:=by rw[bM0,h];rfl
def tJ : Ann:=⟨[],[]⟩
theorem CX_ (g:List Rul) (c:Int) (hc:c≠0) (h:Af prog 39 [Au g] (.int .i64 c)):Af prog 17 [Au g] (.tup [.nilp,.int .i64 c]):=by
 refine Ae [] tJ func17 call17 ntmps17 mxd (AB @tJ.eq_1 results17) rfl (fun qJ B qX qQ=> ?_);clear qJ;simp only[Aq];exact Az (AH h) Ab (AH hc)
end Go.Proofs.Wy
end
