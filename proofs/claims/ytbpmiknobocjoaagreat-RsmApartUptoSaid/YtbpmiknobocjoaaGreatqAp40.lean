/- Parts of a proof, laid together: RS4, RS5, RS6, RS7, RS8, RS9, AP5. -/
import Derived.Test.YtbpmiknobocjoaaGreatqAp17
import Derived.Test.YtbpmiknobocjoaaGreatqAp39
set_option linter.unusedSimpArgs false
set_option maxHeartbeats 8000000
set_option linter.unusedVariables false
set_option linter.unusedSectionVars false
section
namespace Go.Proofs.Wy
open Go Go.Dm Tryz
attribute [local irreducible] DW BN BS
set_option maxRecDepth 100000
@[simp] theorem HB_ (l:List Auto):Br (l.map EY)=0:=Ie _ Dg_ l
theorem Fy_ (j i:Nat):Br (List.replicate j (Bd i))=0:=by
 have:=Ie Bd (by intro x;simp[Bd,AJ,mx]) (List.replicate j i)
 rwa[List.map_replicate]at this
theorem Ip_ {a b n:Nat} (h1:a<=17179870208) (h2:b<n) (h3:n<=1073741888):(a+b+1)*32<=150000000000000:=by omega
theorem Cf_ {j n:Nat} (h1:j<n) (h2:n<=1073741888):IntKind.i64.wrap ((j:Int)+1)=(j:Int)+1:=wq
theorem Ce_ {S:Nat} {y st:Int} (h1:S<=1040) (h2:0<=y) (h3:y<st) (h4:st<=65):IntKind.i64.wrap ((S:Int)+y)=(S:Int)+y:=wq
theorem HD {α β:Type} {l:List α} {i:Nat} {x:α} (f:α->β) (h:l[i]? =some x):(l.take (i+1)).map f=(l.take i).map f++[f x]:=by rw[bM0,h,bD0];rfl
def uJ : Ann:=⟨[],[⟨6,[6],[],[]⟩,⟨21,[12],[],[]⟩]⟩
theorem Xu (gt:GT) (h:OkgT gt) (hs:Ge (Bu gt)):Af prog 12 [Au (Bu gt)] (CH_ (OG gt)):=by
 refine Ae [201,202,203,204,205,3,2] uJ func12 call12 ntmps12 mxd (AB @uJ.eq_1 results12) rfl (fun qJ B qX qQ=> ?_) (hd:=(by simp[mx,CH_,AJ]));clear qJ;simp only[Aq];have hgl:=Ft gt;have yD:=h.le;have pD:=h.hd;have e1:=Fp (Bu gt);have mD:=Sx gt;have kT:=sX h;obtain⟨R,hR⟩:∃R,R=CH_ (OG gt):=⟨_,rfl⟩;rw[<-hR];have nB:∀i s,(AD (Bu gt))[i]? =some s->_:=fun i s hi=>sZ (gt:=gt) hi
 have qC:∀s,_:=fun s=>QT (Bu gt) s (by omega)
 have wX:∀s,_:=fun s=>CG_ h hs s
 obtain⟨A,hA⟩:∃A,A=OG gt:=⟨_,rfl⟩;rw[<-hA]at hR mD kT nB;obtain⟨H,hH⟩:∃H,H=AD (Bu gt):=⟨_,rfl⟩;rw[<-hH]at e1 mD pD nB;obtain⟨g,hg⟩:∃g,g=Bu gt:=⟨_,rfl⟩;rw[<-hg]at e1 qC wX nB |-;clear hH hs hA
 (refine AL (AH e1) Ab Ab ?_;intros;refine Am ?_)
 refine Ct 3 1 201 3 1 8 (by simp) (fun n1=> ?_);refine Ct 3 2 202 3 1 8 (by simp) (fun n2=> ?_);refine Ct 3 3 203 3 1 8 (by simp) (fun n3=> ?_);refine Ct 3 4 204 42 4 32 (by simp) (fun n4=> ?_);refine Ct 3 5 205 45 3 56 (by simp) (fun n5=> ?_)
 refine Ai (X:={i:Nat//i<=H.length}) (fun i=>⟨[(0,Au g),(2,.bx 2 1 0),(3,.bx 3 1 0),(4,Bz H),(5,.int .i64 i.1)],
  [⟨2,1,.box [.int .i64 0,.nilsl,.nilsl,.nilsl,.nilsl,.nilsl]⟩,⟨3,1,.box [.int .i64 (Co (A.take i.1)),.osl 201 1,.osl 202 1,.osl 203 1,.osl 204 1,.osl 205 1]⟩,
   ⟨201,1,.row 3 1 8 ((stL (A.take i.1)).map Bd)⟩,⟨202,1,.row 3 1 8 ((ntL (A.take i.1)).map Bd)⟩,⟨203,1,.row 3 1 8 ((MZ (A.take i.1)).map Dj)⟩,⟨204,1,.row 42 4 32 ((KF (A.take i.1)).map AN)⟩,⟨205,1,.row 45 3 56 ((A.take i.1).map EY)⟩]⟩) (fun i=>H.length-i.1) ⟨0,by simp⟩ (Sub.lit (by simp[Co,stL,ntL,MZ,KF,Cl])) ?_
 rintro⟨i,hi⟩;simp only
 by_cases qV:i<H.length
 ·obtain⟨s,hx,qB,vD⟩:=Ap qV;have pR:=nB i s hx;obtain⟨a,ha⟩:∃a,a=Wu (HO g) (UU gt s):=⟨_,rfl⟩;have e3:=qC s;have e4:=wX s;rw[<-ha]at pR e4;have hsa:=kT a (bJ0 pR);have wO:=XL hsa.ok;have gF:=TA (A.take i) a;have gO:=Cu_ (A.take i) a;have zK:=Da_ (A.take i) a;have hs3:=Bu_ (A.take i) a;have hs4:=BN_ (A.take i) a;rw[<-Bh pR]at gF gO zK hs3 hs4;have hs5:List.take (i+1) (List.map EY A)=(A.take i).map EY++[[.int .i64 a.st,CQ a.fin,BR a.arcs]]:=by rw[<-eU0,HD EY pR];rfl
  have hmt:∀x∈A.take i,SmA x:=fun x hx=>kT x (cZ0 hx)
  have hsl:=KK (l:=A.take i) fun x hx=>(hmt x hx).ok
  have kX:=Fg_ (A.take i);have vR:=Ft_ (A.take i);have fU:=YN hmt 0;have hl4:=SC hmt 0;have hl5:(A.take i).length=i:=by rw[aY0];omega
  rw[hl5]at hsl kX fU hl4 zK;have hi16:i<=16:=by omega
  have hl3':(MZ (A.take i)).length<=1040:=Nat.le_trans (show _<=65*i from fU) (cO0 65 hi16);have hl4':(KF (A.take i)).length<=17179870208:=Nat.le_trans (show _<=1073741888*i from hl4) (cO0 1073741888 hi16);have hsl':Co (A.take i)<=1040:=Nat.le_trans hsl (cO0 65 hi16);clear fU hl4 hsl;obtain⟨S,hS⟩:∃S,S=Co (A.take i):=⟨_,rfl⟩;rw[<-hS]at gF hsl' gO hs3 hs4 vR |-;obtain⟨T1,hT1⟩:∃T,T=stL (A.take i):=⟨_,rfl⟩;obtain⟨T2,hT2⟩:∃T,T=ntL (A.take i):=⟨_,rfl⟩
  obtain⟨T3,hT3⟩:∃T,T=MZ (A.take i):=⟨_,rfl⟩;obtain⟨T4,hT4⟩:∃T,T=KF (A.take i):=⟨_,rfl⟩;obtain⟨T5,hT5⟩:∃T,T=A.take i:=⟨_,rfl⟩;rw[<-hT1]at gO kX |-;rw[<-hT2]at zK vR |-;rw[<-hT3]at hs3 hl3' |-;rw[<-hT4]at hs4 hl4' |-;rw[<-hT5]at hs5 hl5 |-;clear hT1 hT2 hT3 hT4 hT5 hmt hS;have jT:=congrArg (List.map Bd) gO;have yE:=congrArg (List.map Bd) zK;have gW:=congrArg (List.map Dj) hs3;have hq4:=congrArg (List.map AN) hs4
  rw[bD0]at jT yE gW hq4;have hb1':(T1.length+1)*8<=150000000000000:=by omega
  have hb5':(T5.length+1)*56<=150000000000000:=by omega
  have vQ:IntKind.i64.wrap ((i:Int)+1)=(i:Int)+1:=wq;simp only[EY]at e4
  (refine AL (AB e3 e4) Ab (IH @Be.eq_1 @EY.eq_1 qV hx qB hb1' hb5') ?_;intros;refine Am ?_)
  refine Ai (X:={j:Nat//j<=a.st.toNat}) (fun j=>⟨[(0,Au g),(2,.bx 2 1 0),(3,.bx 3 1 0),(4,Bz H),(5,.int .i64 i),(6,.ref [.int .i64 a.st,CQ a.fin,BR a.arcs]),(8,.int .i64 (S:Int)),(9,.int .i64 j.1)],
    [⟨2,1,.box [.int .i64 0,.nilsl,.nilsl,.nilsl,.nilsl,.nilsl]⟩,⟨3,1,.box [.int .i64 (S:Int),.osl 201 1,.osl 202 1,.osl 203 1,.osl 204 1,.osl 205 1]⟩,
     ⟨201,1,.row 3 1 8 (T1.map Bd++[[.int .i64 (S:Int)]])⟩,⟨202,1,.row 3 1 8 (T2.map Bd++List.replicate j.1 (Bd i))⟩,⟨203,1,.row 3 1 8 (T3.map Dj)⟩,⟨204,1,.row 42 4 32 (T4.map AN)⟩,⟨205,1,.row 45 3 56 (T5.map EY++[[.int .i64 a.st,CQ a.fin,BR a.arcs]])⟩]⟩) (fun j=>a.st.toNat-j.1) ⟨0,by simp⟩ (Sub.lit (by simp)) ?_
  rintro⟨j,hj⟩;simp only
  by_cases qL:j<a.st.toNat
  · have mO:List.replicate (j+1) (Bd i)=List.replicate j (Bd i)++[[.int .i64 (i:Int)]]:=by rw[List.replicate_succ'];rfl
    have hZm:=Fy_ j i;have hji:(j:Int)<a.st:=by omega
    have jS:(List.replicate j (Bd i)).length=j:=by simp
    obtain⟨Z,hZ⟩:∃Z,Z=List.replicate j (Bd i):=⟨_,rfl⟩;rw[<-hZ]at mO jS hZm |-;have mQ:(T2.length+Z.length+1)*8<=150000000000000:=by omega
    have fE:IntKind.i64.wrap ((j:Int)+1)=(j:Int)+1:=wq
    (refine AL Ab Ab (CL hji mQ fE) ?_;intros;refine Am ?_)
    refine Al.mk ⟨j+1,by omega⟩ (Sub.lit (by simp[mO,hZm])) (by simp;omega)
    skip
  · have qZ:j=a.st.toNat:=by omega
    subst qZ;have hji:¬((a.st.toNat:Nat):Int)<a.st:=by omega
    (refine AL Ab Ab (AH hji) ?_;intros;refine Am ?_)
    rw[List.map_replicate]at yE;obtain⟨FA,hFA⟩:∃FA,FA=a.fin.map (mvF S):=⟨_,rfl⟩;obtain⟨AR,hAR⟩:∃AR,AR=a.arcs.map (Yg S):=⟨_,rfl⟩;have hFl:FA.length=a.fin.length:=by rw[hFA,aJ0]
    have hAl:AR.length=a.arcs.length:=by rw[hAR,aJ0]
    rw[<-hFA]at gW;rw[<-hAR]at hq4;obtain⟨U1,hU1⟩:∃U,U=T1.map Bd++[[.int .i64 (S:Int)]]:=⟨_,rfl⟩;have jG:Br U1=0:=by rw[hU1];simp[Br,AJ,mx]
    obtain⟨U2,hU2⟩:∃U,U=T2.map Bd++List.replicate a.st.toNat (Bd i):=⟨_,rfl⟩;have jF:Br U2=0:=by rw[hU2,<-List.map_replicate,<-bD0];exact Ie Bd (by intro x;simp[Bd,AJ,mx]) _
    obtain⟨U5,hU5⟩:∃U,U=T5.map EY++[[.int .i64 a.st,CQ a.fin,BR a.arcs]]:=⟨_,rfl⟩;have hm5:Br U5=0:=by rw[hU5,<-hs5];rw[<-eU0];simp
    have hq1':List.map Bd (stL (List.take (i+1) A))=U1:=by rw[hU1,jT];rfl
    rw[<-hU2]at yE;rw[<-hU5]at hs5;rw[<-hU1,<-hU2,<-hU5]
    refine Ai (X:={j:Nat//j<=a.fin.length}) (fun j=>⟨[(0,Au g),(2,.bx 2 1 0),(3,.bx 3 1 0),(4,Bz H),(5,.int .i64 i),(6,.ref [.int .i64 a.st,CQ a.fin,BR a.arcs]),(8,.int .i64 (S:Int)),(10,.int .i64 j.1)],
      [⟨2,1,.box [.int .i64 0,.nilsl,.nilsl,.nilsl,.nilsl,.nilsl]⟩,⟨3,1,.box [.int .i64 (S:Int),.osl 201 1,.osl 202 1,.osl 203 1,.osl 204 1,.osl 205 1]⟩,
       ⟨201,1,.row 3 1 8 U1⟩,⟨202,1,.row 3 1 8 U2⟩,⟨203,1,.row 3 1 8 (T3.map Dj++(FA.take j.1).map Dj)⟩,⟨204,1,.row 42 4 32 (T4.map AN)⟩,⟨205,1,.row 45 3 56 U5⟩]⟩) (fun j=>a.fin.length-j.1) ⟨0,by simp⟩ (Sub.lit (by simp[jG,jF,hm5])) ?_
    rintro⟨j,hj⟩;simp only
    by_cases zF:j<a.fin.length
    · obtain⟨q,hq,wB,mN⟩:=Ap zF
      have hqk:=CS_ hsa.ok mN;have hFj:FA[j]? =some ((S:Int)+q):=by rw[hFA,bH0,hq];rfl
      have mO:List.take (j+1) (List.map Dj FA)=(FA.take j).map Dj++[[.int .i64 ((S:Int)+q)]]:=by rw[<-eU0,HD Dj hFj];rfl
      have jS:(FA.take j).length=j:=by rw[aY0];omega
      obtain⟨Z,hZ⟩:∃Z,Z=FA.take j:=⟨_,rfl⟩;rw[<-hZ]at mO jS |-;have nW:=hsa.fi;have mQ:(T3.length+Z.length+1)*8<=150000000000000:=by omega
      have fE:IntKind.i64.wrap ((j:Int)+1)=(j:Int)+1:=wq;have fR:IntKind.i64.wrap ((S:Int)+q)=(S:Int)+q:=wq
      (refine AL Ab Ab (IH @Dj.eq_1 zF hq wB mQ fE fR) ?_;intros;refine Am ?_)
      refine Al.mk ⟨j+1,by omega⟩ (Sub.lit (by simp[mO,jG,jF,hm5])) (by simp;omega)
      skip
    · have qZ:j=a.fin.length:=by omega
      subst qZ;rw[show List.take a.fin.length FA=FA from cK0 (by omega),<-gW]
      (refine AL Ab Ab Ab ?_;intros;refine Am ?_)
      refine Ai (X:={j:Nat//j<=a.arcs.length}) (fun j=>⟨[(0,Au g),(2,.bx 2 1 0),(3,.bx 3 1 0),(4,Bz H),(5,.int .i64 i),(6,.ref [.int .i64 a.st,CQ a.fin,BR a.arcs]),(8,.int .i64 (S:Int)),(11,.int .i64 j.1)],
        [⟨2,1,.box [.int .i64 0,.nilsl,.nilsl,.nilsl,.nilsl,.nilsl]⟩,⟨3,1,.box [.int .i64 (S:Int),.osl 201 1,.osl 202 1,.osl 203 1,.osl 204 1,.osl 205 1]⟩,
         ⟨201,1,.row 3 1 8 U1⟩,⟨202,1,.row 3 1 8 U2⟩,⟨203,1,.row 3 1 8 ((MZ (A.take (i+1))).map Dj)⟩,⟨204,1,.row 42 4 32 (T4.map AN++(AR.take j.1).map AN)⟩,⟨205,1,.row 45 3 56 U5⟩]⟩) (fun j=>a.arcs.length-j.1) ⟨0,by simp⟩ (Sub.lit (by simp[jG,jF,hm5])) ?_
      rintro⟨j,hj⟩;simp only
      by_cases nN:j<a.arcs.length
      · obtain⟨x,hx,qB,vD⟩:=Ap nN
        have fP:=CT_ hsa.ok vD;have hAj:AR[j]? =some (Yg S x):=by rw[hAR,bH0,hx];rfl
        have mO:List.take (j+1) (List.map AN AR)=(AR.take j).map AN++[[.int .i64 ((S:Int)+x.fr),.bool x.sy.label,.int .i64 x.sy.n,.int .i64 ((S:Int)+x.to)]]:=by rw[<-eU0,HD AN hAj];rfl
        have jS:(AR.take j).length=j:=by rw[aY0];omega
        obtain⟨Z,hZ⟩:∃Z,Z=AR.take j:=⟨_,rfl⟩;rw[<-hZ]at mO jS |-;have mE:=hsa.ar;have mQ:(T4.length+Z.length+1)*32<=150000000000000:=Ip_ hl4' (by rw[jS];exact nN) mE;have fE:IntKind.i64.wrap ((j:Int)+1)=(j:Int)+1:=Cf_ nN mE;have fR:IntKind.i64.wrap ((S:Int)+x.fr)=(S:Int)+x.fr:=Ce_ hsl' fP.1 fP.2.1 wO.2;have gD:IntKind.i64.wrap ((S:Int)+x.to)=(S:Int)+x.to:=Ce_ hsl' fP.2.2.1 fP.2.2.2 wO.2
        (refine AL Ab Ab (KG @AN.eq_1 nN hx qB mQ fE fR gD) ?_;intros;refine Am ?_)
        refine Al.mk ⟨j+1,by omega⟩ (Sub.lit (by simp[mO,jG,jF,hm5])) (by simp;omega)
        skip
      · have qZ:j=a.arcs.length:=by omega
        subst qZ;rw[show List.take a.arcs.length AR=AR from cK0 (by omega),<-hq4];have hws:IntKind.i64.wrap ((S:Int)+a.st)=(Co (A.take (i+1)):Int):=by rw[wq,gF];omega
        (refine AL Ab Ab (AB hws vQ) ?_;intros;refine Am ?_)
        refine Al.mk ⟨i+1,by omega⟩ (Sub.lit (by simp[hq1',yE,hs5,jG,jF,hm5])) (by simp;omega)
        skip
 ·have qZ:i=H.length:=by omega
  subst qZ;have hAt:A.take H.length=A:=cK0 (by omega);rw[hAt];unfold CH_ at hR
  (refine AL Ab Ab Ab ?_;intros;refine Am ?_)
  rw[hR];exact oR (.agg [.int .i64 (Co A),CI (stL A),CI (ntL A),CQ (MZ A),BR (KF A),En_ A])
def Lg : Ann:=⟨[5],[]⟩
theorem Pf (l:List Int) (hl:l.length*8<=140737488355328):Bj prog (.func 33) [CQ l] [] (.osl 0 1) [⟨0,1,.row 3 1 8 (l.map Dj)⟩]:=by
 match l,hl with
 | [],_ =>
  refine NK ?_ ?_
  ·refine Gf ?_;refine Ae [] Lg func33 call33 ntmps33 mxd (AB @Lg.eq_1 results33) rfl (fun qJ B qX qQ=> ?_);simp only[Aq];exact Az Ab Ab Ab
  ·refine BL [] [(5,0,1)] Lg func33 call33 ntmps33 mxd (AB @Lg.eq_1 results33) rfl (fun qJ B qX qQ=> ?_);simp only[Aq,List.nil_append];exact Az Ab Ab Ab
 | x::l,hl =>
  refine BL [] [(5,0,1)] Lg func33 call33 ntmps33 mxd (AB @Lg.eq_1 results33) rfl (fun qJ B qX qQ=> ?_);simp only[List.length_cons]at hl;have vR:(l.length+1)*8<=150000000000000:=by omega
  have fU:l.length<9223372036854775807:=by omega
  simp only[Aq,List.nil_append,List.map_cons,CQ,Dj];exact Az Ab Ab Ab
def Le : Ann:=⟨[5],[]⟩
theorem Pg (l:List Arc) (hl:l.length*32<=140737488355328):Bj prog (.func 34) [BR l] [] (.osl 0 1) [⟨0,1,.row 42 4 32 (l.map AN)⟩]:=by
 match l,hl with
 | [],_ =>
  refine NK ?_ ?_
  ·refine Gf ?_;refine Ae [] Le func34 call34 ntmps34 mxd (AB @Le.eq_1 results34) rfl (fun qJ B qX qQ=> ?_);simp only[Aq];exact Az Ab Ab Ab
  ·refine BL [] [(5,0,1)] Le func34 call34 ntmps34 mxd (AB @Le.eq_1 results34) rfl (fun qJ B qX qQ=> ?_);simp only[Aq,List.nil_append];exact Az Ab Ab Ab
 | x::l,hl =>
  refine BL [] [(5,0,1)] Le func34 call34 ntmps34 mxd (AB @Le.eq_1 results34) rfl (fun qJ B qX qQ=> ?_);simp only[List.length_cons]at hl;have vR:(l.length+1)*32<=150000000000000:=by omega
  have fU:l.length<9223372036854775807:=by omega
  simp only[Aq,List.nil_append,List.map_cons,BR,AN];exact Az Ab Ab Ab
theorem JO {α β:Type} {l:List α} {i:Nat} {x:α} (f:α->β) (g:α->α) (h:l[i]? =some x):(((l.take i).map g++l.drop i).map f).set i (f (g x))=((l.take (i+1)).map g++l.drop (i+1)).map f:=by
 obtain⟨hi,rfl⟩:=aB0.1 h;have h2:((l.take i).map g).length=i:=by rw[aJ0,aY0];omega
 have h3:((l.take i).map g++l.drop i).set i (g l[i])=(l.take (i+1)).map g++l.drop (i+1):=by
  rw[List.set_append,if_neg (by omega),h2,eF0,aR0 hi,eN0,bM0,aI0 hi,bD0,aS0];rfl
 rw[<-List.map_set,h3]
theorem Dn_ {α:Type} {l:List α} {i:Nat} {x:α} (g:α->α) (h:l[i]? =some x):((l.take i).map g++l.drop i)[i]? =some x:=by
 obtain⟨hi,rfl⟩:=aB0.1 h;have h2:((l.take i).map g).length=i:=by rw[aJ0,aY0];omega
 rw[bE0 (by omega),h2,eF0,cQ0];simp[hi]
theorem KS {α:Type} (l:List α) (i:Nat) (g:α->α) (h:i<=l.length):((l.take i).map g++l.drop i).length=l.length:=by
 rw[aD0,aJ0,aY0,cD0];omega
def Td (f:Nat) (l:List Int) (i:Nat):List Int:=(l.take i).map (mvF f)++l.drop i
def GZ (g:Arc->Arc) (l:List Arc) (i:Nat):List Arc:=(l.take i).map g++l.drop i
def Tc (f:Nat) (l:List Int):List Int:=l.map (mvF f)
def Oi (f:Nat) (l:List Arc):List Arc:=l.map (Yg f)
theorem AR_ (f:Nat) (l:List Int):Td f l 0=l:=by simp[Td]
theorem Do_ (f:Nat) (l:List Int):Td f l l.length=Tc f l:=by simp[Td,Tc]
theorem Oj (g:Arc->Arc) (l:List Arc):GZ g l 0=l:=by simp[GZ]
theorem Dp_ (f:Nat) (l:List Arc):GZ (Yg f) l l.length=Oi f l:=by simp[GZ,Oi]
def uH : Ann:=⟨[8],[]⟩
theorem Wh (a:Auto) (f:Nat) (h:SmA a) (hf:f<=1040):Af prog 38 [.agg (WV (a,f))] (CQ (Tc f a.fin)):=by
 refine Ae [8] uH func38 call38 ntmps38 mxd (AB @uH.eq_1 results38) rfl (fun qJ B qX qQ=> ?_);clear qJ;simp only[Aq];have nW:=h.fi;have wO:=XL h.ok;have e1:=Pf a.fin (by omega);have z0:=AR_ f a.fin
 (refine AL Ab (AH (JA [] [(8,0)] e1)) (AH @WV.eq_1) ?_;intros;refine Am ?_)
 refine Ai (X:={i:Nat//i<=a.fin.length}) (fun i=>⟨[(1,.ref [.int .i64 a.st,CQ a.fin,BR a.arcs,.int .i64 (f:Int)]),(3,.osl 8 1),(10,.int .i64 a.fin.length),(11,.int .i64 i.1)],[⟨8,1,.row 3 1 8 ((Td f a.fin i.1).map Dj)⟩]⟩) (fun i=>a.fin.length-i.1) ⟨0,by simp⟩ (Sub.lit (by simp[z0])) ?_;rintro⟨i,hi⟩;simp only
 by_cases qV:i<a.fin.length
 ·obtain⟨q,hq,wB,mN⟩:=Ap qV;have hqk:=CS_ h.ok mN;have s1:((Td f a.fin i).map Dj).set i [.int .i64 ((f:Int)+q)]=(Td f a.fin (i+1)).map Dj:=JO Dj (mvF f) hq;have m1:(Td f a.fin i)[i]? =some q:=Dn_ (mvF f) hq;have m2:(Td f a.fin i).length=a.fin.length:=KS a.fin i (mvF f) hi;obtain⟨Z,hZ⟩:∃Z,Z=Td f a.fin i:=⟨_,rfl⟩;rw[<-hZ]at s1 m1 m2 |-;have vA:i<Z.length:=by omega
  have m1':Z[i]'vA=q:=(aB0.1 m1).2;have wU:IntKind.i64.wrap ((i:Int)+1)=(i:Int)+1:=wq;have fR:IntKind.i64.wrap (q+(f:Int))=(f:Int)+q:=by rw[wq];omega
  (refine AL Ab Ab (KG @Dj.eq_1 qV m1 m1' vA wU fR s1) ?_;intros;refine Am ?_)
  refine Al.mk ⟨i+1,by omega⟩ (Sub.lit (by simp)) (by simp;omega)
  skip
 ·have qZ:i=a.fin.length:=by omega
  subst qZ;rw[Do_];exact Az Ab Ab Ab
def uI : Ann:=⟨[8],[]⟩
theorem LC (a:Auto) (f:Nat) (h:SmA a) (hf:f<=1040):Af prog 32 [.agg (WV (a,f))] (BR (Oi f a.arcs)):=by
 refine Ae [8] uI func32 call32 ntmps32 mxd (AB @uI.eq_1 results32) rfl (fun qJ B qX qQ=> ?_);clear qJ;simp only[Aq];have mE:=h.ar;have wO:=XL h.ok;have e1:=Pg a.arcs (by omega);have z0:=Oj (Yg f) a.arcs
 (refine AL Ab (AH (JA [] [(8,0)] e1)) (AH @WV.eq_1) ?_;intros;refine Am ?_)
 refine Ai (X:={i:Nat//i<=a.arcs.length}) (fun i=>⟨[(1,.ref [.int .i64 a.st,CQ a.fin,BR a.arcs,.int .i64 (f:Int)]),(3,.osl 8 1),(10,.int .i64 a.arcs.length),(11,.int .i64 i.1)],[⟨8,1,.row 42 4 32 ((GZ (Yg f) a.arcs i.1).map AN)⟩]⟩) (fun i=>a.arcs.length-i.1) ⟨0,by simp⟩ (Sub.lit (by simp[z0])) ?_;rintro⟨i,hi⟩;simp only
 by_cases qV:i<a.arcs.length
 ·obtain⟨x,hx,qB,vD⟩:=Ap qV;have fP:=CT_ h.ok vD;have s1:((GZ (Yg f) a.arcs i).map AN).set i [.int .i64 ((f:Int)+x.fr),.bool x.sy.label,.int .i64 x.sy.n,.int .i64 ((f:Int)+x.to)]=(GZ (Yg f) a.arcs (i+1)).map AN:=JO AN (Yg f) hx;have m1:(GZ (Yg f) a.arcs i)[i]? =some x:=Dn_ (Yg f) hx;have m2:(GZ (Yg f) a.arcs i).length=a.arcs.length:=KS a.arcs i (Yg f) hi;obtain⟨Z,hZ⟩:∃Z,Z=GZ (Yg f) a.arcs i:=⟨_,rfl⟩
  rw[<-hZ]at s1 m1 m2 |-;have vA:i<Z.length:=by omega
  have m1':Z[i]'vA=x:=(aB0.1 m1).2;have wU:IntKind.i64.wrap ((i:Int)+1)=(i:Int)+1:=Cf_ qV mE;have fR:IntKind.i64.wrap (x.fr+(f:Int))=(f:Int)+x.fr:=by rw[wq];omega
  have gD:IntKind.i64.wrap (x.to+(f:Int))=(f:Int)+x.to:=by rw[wq];omega
  clear wO mE fP hf
  (refine AL Ab Ab (WJ @AN.eq_1 qV m1 m1' vA wU fR gD s1) ?_;intros;refine Am ?_)
  refine Al.mk ⟨i+1,by omega⟩ (Sub.lit (by simp)) (by simp;omega)
  skip
 ·have qZ:i=a.arcs.length:=by omega
  subst qZ;rw[Dp_];exact Az Ab Ab Ab
def uD : Ann:=⟨[],[]⟩
theorem DY (H L:List ByteArray) (xs:List Auto):Af prog 28 [CR H L xs] (.bool true):=by
 refine Ae [] uD func28 call28 ntmps28 mxd (AB @uD.eq_1 results28) rfl (fun qJ B qX qQ=> ?_);clear qJ;simp only[Aq,CR];exact Az Ab Ab Ab
def Oz (P:List (Auto×Nat)):List Int:=P.flatMap fun p=>Tc p.2 p.1.fin
def KE (P:List (Auto×Nat)):List Arc:=P.flatMap fun p=>Oi p.2 p.1.arcs
theorem Bs_ {P:List (Auto×Nat)} {i:Nat} {p:Auto×Nat} (h:P[i]? =some p):Oz (P.take (i+1))=Oz (P.take i)++Tc p.2 p.1.fin:=by
 unfold Oz;rw[bM0,h,dO0];simp
theorem UG {P:List (Auto×Nat)} {i:Nat} {p:Auto×Nat} (h:P[i]? =some p):KE (P.take (i+1))=KE (P.take i)++Oi p.2 p.1.arcs:=by
 unfold KE;rw[bM0,h,dO0];simp
theorem YM : ∀{P:List (Auto×Nat)},(∀p∈P,SmA p.1)->(Oz P).length<=65*P.length
 | [],_=>by simp[Oz]
 | p::P,h=>by
  have h1:=(h p aH0).fi;have h2:=YM (P:=P) fun x hx=>h x (aF0 _ hx)
  have h3:Oz (p::P)=Tc p.2 p.1.fin++Oz P:=by simp[Oz]
  rw[h3,aD0,List.length_cons];unfold Tc;rw[aJ0];omega
theorem SA : ∀{P:List (Auto×Nat)},(∀p∈P,SmA p.1)->(KE P).length<=1073741888*P.length
 | [],_=>by simp[KE]
 | p::P,h=>by
  have h1:=(h p aH0).ar;have h2:=SA (P:=P) fun x hx=>h x (aF0 _ hx)
  have h3:KE (p::P)=Oi p.2 p.1.arcs++KE P:=by simp[KE]
  rw[h3,aD0,List.length_cons];unfold Oi;rw[aJ0];omega
theorem DZ_ (xs:List Auto):Oz (Cl 0 xs)=MZ xs:=rfl
theorem Zp (xs:List Auto):KE (Cl 0 xs)=KF xs:=rfl
theorem MJ : ∀{xs:List Auto} {f:Nat} {p:Auto×Nat},p∈Cl f xs->p.1∈xs/\p.2<=f+Co xs
 | [],_,_,h=>by simp[Cl]at h
 | a::xs,f,p,h=>by
  have h3:Co (a::xs)=a.st.toNat+Co xs:=by simp[Co]
  rw[Cl]at h
  rcases aK0.1 h with rfl | h
  ·exact⟨aH0,by simp only;omega⟩
  ·have:=MJ h;exact⟨aF0 _ this.1,by omega⟩
theorem Gv_ {a b:Nat} (h1:a<=17179870208) (h2:b<=1073741888):(a+b)*32<=150000000000000:=by omega
def NA : Ann:=⟨[],[⟨5,[7],[],[]⟩]⟩
theorem lN (H L:List ByteArray) (xs:List Auto) (h:∀a∈xs,SmA a) (hl:xs.length<=16):Af prog 31 [CR H L xs,.fn (.func 32) [] []] (BR (KF xs)):=by
 refine Ae [50] NA func31 call31 ntmps31 mxd (AB @NA.eq_1 results31) rfl (fun qJ B qX qQ=> ?_);clear qJ;have e1:=DY H L xs;have hsl:=KK (l:=xs) fun a ha=>(h a ha).ok
 have hs10:Co xs<=1040:=Nat.le_trans hsl (cO0 65 hl);have zA:=Gw xs 0
 have hP:∀p∈Cl 0 xs,SmA p.1/\p.2<=1040:=fun p hp=>by
  have:=MJ hp;exact⟨h _ this.1,by omega⟩
 rw[<-Zp];simp only[Aq,CR]at e1 |-;obtain⟨P,pS⟩:∃P,P=Cl 0 xs:=⟨_,rfl⟩;rw[<-pS]at e1 hP zA |-;clear pS hsl h
 iterate 6 ((first | refine AC fun K hK=> ?_ | (refine BA NA mxd (by kernel_rfl) ?_;simp[NA,qX];try simp (disch:=omega) only[Ag]) | refine Ao ?_ | (refine AX ?_ ?_ ?_;(· (simp[qX];done));(try (rotate_left;(· (intro hc;(try simp[qX]at hc);done))))) | (refine AE ?_;simp[results31,qX]) | ((first | refine Aw ?_ | refine Av ?_);simp[qX]) | (intro hc;(try simp[qX]at hc);(try (exfalso;omega))) | (refine⟨?_,?_⟩; · omega) | omega | apply_assumption -exfalso -symm | (exfalso;omega)))
 refine BM 5 50 42 4 32 (by simp[qX,results31,NA]) (fun n=> ?_)
 (refine AL (AH e1) Ab Ab ?_;intros;refine Am ?_)
 refine Ai (X:={i:Nat//i<=P.length}) (fun i=>⟨[(1,.fn (.func 32) [] []),(5,.osl 50 1),(13,Pw P),(14,.int .i64 P.length),(15,.int .i64 i.1)],[⟨50,1,.row 42 4 32 ((KE (P.take i.1)).map AN)⟩]⟩) (fun i=>P.length-i.1) ⟨0,by simp⟩ (Sub.lit (by simp[KE])) ?_;rintro⟨i,hi⟩;simp only
 by_cases qV:i<P.length
 ·obtain⟨p,hp,zM,jW⟩:=Ap qV;obtain⟨k1,k2⟩:=hP p jW;obtain⟨a,f⟩:=p;have e2:=LC a f k1 k2;have wT:=congrArg (List.map AN) (UG hp);rw[bD0]at wT;have mE:a.arcs.length<=1073741888:=k1.ar;have zS:(Oi f a.arcs).length=a.arcs.length:=by unfold Oi;rw[aJ0]
  have yK:=SA (P:=P.take i) fun x hx=>(hP x (cZ0 hx)).1
  have h16:(P.take i).length<=16:=by rw[aY0];omega
  have gQ:(KE (P.take i)).length<=17179870208:=Nat.le_trans yK (cO0 1073741888 h16);clear yK;obtain⟨T,hT⟩:∃T,T=KE (P.take i):=⟨_,rfl⟩;rw[<-hT]at wT gQ |-;obtain⟨V,hV⟩:∃V,V=Oi f a.arcs:=⟨_,rfl⟩;simp only at wT;rw[<-hV]at e2 wT zS;have hb:(T.length+V.length)*32<=150000000000000:=Gv_ gQ (by omega);have wU:IntKind.i64.wrap ((i:Int)+1)=(i:Int)+1:=wq;simp only[WV]at e2;clear hP k1 k2 zA hT hV
  (refine AL (AH e2) Ab (Jm @WV.eq_1 qV hp zM hb wU) ?_;intros;refine Am ?_)
  refine Al.mk ⟨i+1,by omega⟩ (Sub.lit (by simp[wT])) (by simp;omega)
  skip
 ·have qZ:i=P.length:=by omega
  subst qZ;rw[aU0];exact Az Ab Ab Ab
def Nz : Ann:=⟨[],[⟨5,[7],[],[]⟩]⟩
theorem lL (H L:List ByteArray) (xs:List Auto) (h:∀a∈xs,SmA a) (hl:xs.length<=16):Af prog 37 [CR H L xs,.fn (.func 38) [] []] (CQ (MZ xs)):=by
 refine Ae [50] Nz func37 call37 ntmps37 mxd (AB @Nz.eq_1 results37) rfl (fun qJ B qX qQ=> ?_);clear qJ;have e1:=DY H L xs;have hsl:=KK (l:=xs) fun a ha=>(h a ha).ok
 have hs10:Co xs<=1040:=Nat.le_trans hsl (cO0 65 hl);have zA:=Gw xs 0
 have hP:∀p∈Cl 0 xs,SmA p.1/\p.2<=1040:=fun p hp=>by
  have:=MJ hp;exact⟨h _ this.1,by omega⟩
 rw[<-DZ_];simp only[Aq,CR]at e1 |-;obtain⟨P,pS⟩:∃P,P=Cl 0 xs:=⟨_,rfl⟩;rw[<-pS]at e1 hP zA |-;clear pS hsl h
 iterate 6 ((first | refine AC fun K hK=> ?_ | (refine BA Nz mxd (by kernel_rfl) ?_;simp[Nz,qX];try simp (disch:=omega) only[Ag]) | refine Ao ?_ | (refine AX ?_ ?_ ?_;(· (simp[qX];done));(try (rotate_left;(· (intro hc;(try simp[qX]at hc);done))))) | (refine AE ?_;simp[results37,qX]) | ((first | refine Aw ?_ | refine Av ?_);simp[qX]) | (intro hc;(try simp[qX]at hc);(try (exfalso;omega))) | (refine⟨?_,?_⟩; · omega) | omega | apply_assumption -exfalso -symm | (exfalso;omega)))
 refine BM 5 50 3 1 8 (by simp[qX,results37,Nz]) (fun n=> ?_)
 (refine AL (AH e1) Ab Ab ?_;intros;refine Am ?_)
 refine Ai (X:={i:Nat//i<=P.length}) (fun i=>⟨[(1,.fn (.func 38) [] []),(5,.osl 50 1),(13,Pw P),(14,.int .i64 P.length),(15,.int .i64 i.1)],[⟨50,1,.row 3 1 8 ((Oz (P.take i.1)).map Dj)⟩]⟩) (fun i=>P.length-i.1) ⟨0,by simp⟩ (Sub.lit (by simp[Oz])) ?_;rintro⟨i,hi⟩;simp only
 by_cases qV:i<P.length
 ·obtain⟨p,hp,zM,jW⟩:=Ap qV;obtain⟨k1,k2⟩:=hP p jW;obtain⟨a,f⟩:=p;have e2:=Wh a f k1 k2;have wT:=congrArg (List.map Dj) (Bs_ hp);rw[bD0]at wT;have mE:a.fin.length<=65:=k1.fi;have zS:(Tc f a.fin).length=a.fin.length:=by unfold Tc;rw[aJ0]
  have yK:=YM (P:=P.take i) fun x hx=>(hP x (cZ0 hx)).1
  have h16:(P.take i).length<=16:=by rw[aY0];omega
  have gQ:(Oz (P.take i)).length<=1040:=Nat.le_trans yK (cO0 65 h16);clear yK;obtain⟨T,hT⟩:∃T,T=Oz (P.take i):=⟨_,rfl⟩;rw[<-hT]at wT gQ |-;obtain⟨V,hV⟩:∃V,V=Tc f a.fin:=⟨_,rfl⟩;simp only at wT;rw[<-hV]at e2 wT zS;have hb:(T.length+V.length)*8<=150000000000000:=by omega
  have wU:IntKind.i64.wrap ((i:Int)+1)=(i:Int)+1:=wq;simp only[WV]at e2;clear hP k1 k2 zA hT hV
  (refine AL (AH e2) Ab (Jm @WV.eq_1 qV hp zM hb wU) ?_;intros;refine Am ?_)
  refine Al.mk ⟨i+1,by omega⟩ (Sub.lit (by simp[wT])) (by simp;omega)
  skip
 ·have qZ:i=P.length:=by omega
  subst qZ;rw[aU0];exact Az Ab Ab Ab
def uE : Ann:=⟨[],[]⟩
theorem Re (H L:List ByteArray) (xs:List Auto) (h:∀a∈xs,SmA a) (hl:xs.length<=16):Af prog 15 [CR H L xs] (CQ (MZ xs)):=by
 refine Ae [] uE func15 call15 ntmps15 mxd (AB @uE.eq_1 results15) rfl (fun qJ B qX qQ=> ?_);clear qJ;have e1:=lL H L xs h hl;simp only[Aq,CR]at e1 |-;exact Az (AH e1) Ab Ab
def uG : Ann:=⟨[],[]⟩
theorem VL (H L:List ByteArray) (xs:List Auto) (h:∀a∈xs,SmA a) (hl:xs.length<=16):Af prog 10 [CR H L xs] (BR (KF xs)):=by
 refine Ae [] uG func10 call10 ntmps10 mxd (AB @uG.eq_1 results10) rfl (fun qJ B qX qQ=> ?_);clear qJ;have e1:=lN H L xs h hl;simp only[Aq,CR]at e1 |-;exact Az (AH e1) Ab Ab
def uF : Ann:=⟨[],[]⟩
theorem Pm (z:List Arc):Af prog 13 [BR z,BR z] (.bool true):=by
 refine Ae [] uF func13 call13 ntmps13 mxd (AB @uF.eq_1 results13) rfl (fun qJ B qX qQ=> ?_);have hz:z.length<9223372036854775807:=Dw_ qJ.1;clear qJ;simp only[Aq]
 (refine AL Ab Ab Ab ?_;intros;refine Am ?_)
 refine Ai (X:={i:Nat//i<=z.length}) (fun i=>⟨[(0,BR z),(1,BR z),(5,.int .i64 i.1)],[]⟩) (fun i=>z.length-i.1) ⟨0,by omega⟩ (Sub.lit (by simp)) ?_;rintro⟨i,hi⟩;simp only
 by_cases qV:i<z.length
 ·obtain⟨x,hx,qB,_⟩:=Ap qV;have hw:IntKind.i64.wrap ((i:Int)+1)=(i:Int)+1:=wq
  (refine AL Ab Ab (Lj @AN.eq_1 qV hx qB hw) ?_;intros;refine Am ?_)
  refine Al.mk ⟨i+1,by omega⟩ (Sub.lit (by simp)) (by simp;omega)
  skip
 ·have qZ:i=z.length:=by omega
  subst qZ;exact Az Ab Ab Ab
theorem Ik_ (g:List Rul) (hs:Ge g):∃c:Int,Af prog 39 [Au g] (.int .i64 c)/\Af prog 6 [Au g] (.int .i64 c)/\(c=0->∃gt,g=Bu gt/\OkgT gt):=by
 by_cases h:g.length<1\/64<g.length
 ·exact⟨180,Tm g h,QP g h,by omega⟩
 ·cases ht:Fa g with
  | false=>exact⟨170,Zd g (by omega) (by omega) hs ht,Vn g (by omega) (by omega) hs ht,by omega⟩
  | true =>
   obtain⟨gt,rfl,hk⟩:=WZ ht;have hl:=Ft gt;exact⟨Nk gt,lT gt (by omega) (by omega) hk hs,XF gt (by omega) (by omega) hk hs,fun h0=>⟨gt,rfl,Fm_ hk (by omega) (by omega) h0⟩⟩

def uC : Ann:=⟨[],[⟨5,[6],[],[]⟩]⟩
theorem BG_ (H L:List ByteArray) (xs:List Auto) (n:Int) (hn:n<0\/(xs.length:Int)<=n):Af prog 11 [CR H L xs,.int .i64 n] (.tup [Zl,.int .i64 4]):=by
 refine Ae [4] uC func11 call11 ntmps11 mxd (AB @uC.eq_1 results11) rfl (fun qJ B qX qQ=> ?_) (hd:=(by simp[mx,AJ]));clear qJ;have e1:=DY H L xs;have zA:=Gw xs 0;simp only[Aq,CR]at e1 |-;obtain⟨P,hP⟩:∃P,P=Cl 0 xs:=⟨_,rfl⟩;rw[<-hP]at e1 zA |-;clear hP
 by_cases h0:n<0
 ·exact Az (AH e1) Ab (AH h0)
 ·have h2:(P.length:Int)<=n:=by omega
  exact Az (AH e1) Ab (AB h0 h2)
theorem rO : ∀{xs:List Auto} {f k:Nat} {a:Auto},xs[k]? =some a->∃g,(Cl f xs)[k]? =some (a,g)
 | [],_,_,_,h=>by simp at h
 | b::xs,f,0,a,h=>by simp at h;subst h;exact⟨f,rfl⟩
 | b::xs,f,k+1,a,h=>rO (xs:=xs) (f:=f+b.st.toNat) (k:=k) (by simpa using h)
def NE : Ann:=⟨[],[⟨5,[7],[],[]⟩]⟩
theorem lM (H L:List ByteArray) (xs:List Auto) (h:∀a∈xs,SmA a) (hl:xs.length<=16):Bj prog (.func 31) [CR H L xs,.fn (.func 32) [] []] [] (.osl 0 1) [⟨0,1,.row 42 4 32 ((KF xs).map AN)⟩]:=by
 refine BL [] [(50,0,1)] NE func31 call31 ntmps31 mxd (AB @NE.eq_1 results31) rfl (fun qJ B qX qQ=> ?_);clear qJ;have e1:=DY H L xs;have hsl:=KK (l:=xs) fun a ha=>(h a ha).ok
 have hs10:Co xs<=1040:=Nat.le_trans hsl (cO0 65 hl);have zA:=Gw xs 0
 have hP:∀p∈Cl 0 xs,SmA p.1/\p.2<=1040:=fun p hp=>by
  have:=MJ hp;exact⟨h _ this.1,by omega⟩
 rw[<-Zp];simp only[Aq,CR,List.nil_append]at e1 |-;obtain⟨P,pS⟩:∃P,P=Cl 0 xs:=⟨_,rfl⟩;rw[<-pS]at e1 hP zA |-;clear pS hsl h
 iterate 6 ((first | refine AC fun K hK=> ?_ | (refine BA NE mxd (by kernel_rfl) ?_;simp[NE,qX];try simp (disch:=omega) only[Ag]) | refine Ao ?_ | (refine AX ?_ ?_ ?_;(· (simp[qX];done));(try (rotate_left;(· (intro hc;(try simp[qX]at hc);done))))) | (refine AE ?_;simp[results31,qX]) | ((first | refine Aw ?_ | refine Av ?_);simp[qX]) | (intro hc;(try simp[qX]at hc);(try (exfalso;omega))) | (refine⟨?_,?_⟩; · omega) | omega | apply_assumption -exfalso -symm | (exfalso;omega)))
 refine BM 5 50 42 4 32 (by simp[qX,results31,NE]) (fun n=> ?_)
 (refine AL (AH e1) Ab Ab ?_;intros;refine Am ?_)
 refine Ai (X:={i:Nat//i<=P.length}) (fun i=>⟨[(1,.fn (.func 32) [] []),(5,.osl 50 1),(13,Pw P),(14,.int .i64 P.length),(15,.int .i64 i.1)],[⟨50,1,.row 42 4 32 ((KE (P.take i.1)).map AN)⟩]⟩) (fun i=>P.length-i.1) ⟨0,by simp⟩ (Sub.lit (by simp[KE])) ?_;rintro⟨i,hi⟩;simp only
 by_cases qV:i<P.length
 ·obtain⟨p,hp,zM,jW⟩:=Ap qV;obtain⟨k1,k2⟩:=hP p jW;obtain⟨a,f⟩:=p;have e2:=LC a f k1 k2;have wT:=congrArg (List.map AN) (UG hp);rw[bD0]at wT;have mE:a.arcs.length<=1073741888:=k1.ar;have zS:(Oi f a.arcs).length=a.arcs.length:=by unfold Oi;rw[aJ0]
  have yK:=SA (P:=P.take i) fun x hx=>(hP x (cZ0 hx)).1
  have h16:(P.take i).length<=16:=by rw[aY0];omega
  have gQ:(KE (P.take i)).length<=17179870208:=Nat.le_trans yK (cO0 1073741888 h16);clear yK;obtain⟨T,hT⟩:∃T,T=KE (P.take i):=⟨_,rfl⟩;rw[<-hT]at wT gQ |-;obtain⟨V,hV⟩:∃V,V=Oi f a.arcs:=⟨_,rfl⟩;simp only at wT;rw[<-hV]at e2 wT zS;have hb:(T.length+V.length)*32<=150000000000000:=Gv_ gQ (by omega);have wU:IntKind.i64.wrap ((i:Int)+1)=(i:Int)+1:=wq;simp only[WV]at e2;clear hP k1 k2 zA hT hV
  (refine AL (AH e2) Ab (Jm @WV.eq_1 qV hp zM hb wU) ?_;intros;refine Am ?_)
  refine Al.mk ⟨i+1,by omega⟩ (Sub.lit (by simp[wT])) (by simp;omega)
  skip
 ·have qZ:i=P.length:=by omega
  subst qZ;rw[aU0];exact Az Ab Ab Ab
def xL : Ann:=⟨[4],[]⟩
theorem VM (H L:List ByteArray) (xs:List Auto) (h:∀a∈xs,SmA a) (hl:xs.length<=16):Bj prog (.func 10) [CR H L xs] [] (.osl 0 1) [⟨0,1,.row 42 4 32 ((KF xs).map AN)⟩]:=by
 refine BL [] [(4,0,1)] xL func10 call10 ntmps10 mxd (AB @xL.eq_1 results10) rfl (fun qJ B qX qQ=> ?_);clear qJ;have e1:=lM H L xs h hl;simp only[Aq,CR,List.nil_append]at e1 |-;exact Az Ab (AH (JA [] [(4,0)] e1)) Ab
def xK : Ann:=⟨[37,40],[⟨5,[6],[],[]⟩,⟨6,[],[],[0,1,5,6]⟩]⟩
theorem Zm (H L:List ByteArray) (xs:List Auto) (k:Nat) (a:Auto) (f:Nat) (hs:SmA a) (hk:(Cl 0 xs)[k]? =some (a,f)):Bj prog (.func 11) [CR H L xs,.int .i64 k] [] (.tup [.agg [.int .i64 a.st,.osl 0 1,.osl 1 1],.int .i64 0]) [⟨0,1,.row 3 1 8 (a.fin.map Dj)⟩,⟨1,1,.row 42 4 32 (a.arcs.map AN)⟩]:=by
 refine BL [4] [(37,0,1),(40,1,1)] xK func11 call11 ntmps11 mxd (AB @xK.eq_1 results11) rfl (fun qJ B qX qQ=> ?_);clear qJ;have e1:=DY H L xs;simp only[Aq,CR,List.nil_append]at e1 |-;obtain⟨P,hP⟩:∃P,P=Cl 0 xs:=⟨_,rfl⟩;rw[<-hP]at e1 hk |-;clear hP;have qV:=(aB0.1 hk).1;have vH:P[k]'qV=(a,f):=(aB0.1 hk).2;have h0:¬(k:Int)<0:=by omega
 have h2:¬(P.length:Int)<=(k:Int):=by omega
 have nW:=hs.fi;have mE:=hs.ar;have e2:=Pf a.fin (by omega);have e3:=Pg a.arcs (by omega);exact Az (AH e1) (AB (JA [] [(37,0)] e2) (JA [] [(40,0)] e3)) (IH @WV.eq_1 @EY.eq_1 h0 h2 qV hk vH)
def xJ : Ann:=⟨[],[]⟩
theorem JH : Af prog 28 [.nilp] (.bool false):=by
 refine Ae [] xJ func28 call28 ntmps28 mxd (AB @xJ.eq_1 results28) rfl (fun qJ B qX qQ=> ?_);clear qJ;simp only[Aq];exact Az Ab Ab Ab
def EN_ : Ann:=⟨[],[]⟩
theorem Xi : Af prog 7 [.nilp] (.int .i64 0):=by
 refine Ae [] EN_ func7 call7 ntmps7 mxd (AB @EN_.eq_1 results7) rfl (fun qJ B qX qQ=> ?_);clear qJ;have e1:=JH;simp only[Aq];exact Az (AH e1) Ab Ab
def EM_ : Ann:=⟨[],[]⟩
theorem eA (n:Int):Af prog 8 [.nilp,.int .i64 n] (.int .i64 (-1)):=by
 refine Ae [] EM_ func8 call8 ntmps8 mxd (AB @EM_.eq_1 results8) rfl (fun qJ B qX qQ=> ?_);clear qJ;have e1:=JH;simp only[Aq];exact Az (AH e1) Ab Ab
def EL_ : Ann:=⟨[],[]⟩
theorem Fu_ (n:Int):Af prog 9 [.nilp,.int .i64 n] (.int .i64 (-1)):=by
 refine Ae [] EL_ func9 call9 ntmps9 mxd (AB @EL_.eq_1 results9) rfl (fun qJ B qX qQ=> ?_);clear qJ;have e1:=JH;simp only[Aq];exact Az (AH e1) Ab Ab
end Go.Proofs.Wy
end
