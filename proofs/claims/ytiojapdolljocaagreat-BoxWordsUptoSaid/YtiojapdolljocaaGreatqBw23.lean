/- Parts of a proof, laid together: RX2, RX3, RX4, RY2, RY3. -/
import Derived.Test.YtiojapdolljocaaGreatqBw15
import Derived.Test.YtiojapdolljocaaGreatqBw16
import Derived.Test.YtiojapdolljocaaGreatqBw17
import Derived.Test.YtiojapdolljocaaGreatqBw18
import Derived.Test.YtiojapdolljocaaGreatqBw21
import Derived.Test.YtiojapdolljocaaGreatqBw22
set_option linter.unusedSimpArgs false
set_option maxHeartbeats 8000000
set_option linter.unusedVariables false
set_option linter.unusedSectionVars false
section
namespace Go.Proofs.Wy
open Go Go.Dm Tryz
variable [DMode]
attribute [local irreducible] DW Bh Bk
set_option maxRecDepth 100000
def Ge : Ann:=⟨[],[⟨5,[6],[],[]⟩]⟩
theorem Jh (t:RT) (ht:DR t=true) (hs:(flat t).length<=1572864):Ag prog 157 [Bi (flat t)] (.int .i64 (Iv t)):=by
 refine Ad [] Ge func157 call157 ntmps157 mxd (Az @Ge.eq_1 results157) rfl (fun qJ B qX qQ=> ?_);clear qJ;simp only[Ap];have hR:=Jf ht;have gE:=OQ ht;have cL:∀x∈flat t,x.n<=1572864:=fun x hx=>by have:=Qq t ht x hx;omega
 obtain⟨l,hl⟩:∃l,l=flat t:=⟨_,rfl⟩;rw[<-hl]at hR gE cL hs |-;clear hl;obtain⟨R,hRR⟩:∃R,R=Iv t:=⟨_,rfl⟩;rw[<-hRR]at hR |-;clear hRR ht
 (refine Ba Ac Ac Ac ?_;intros;refine Al ?_)
 refine CD 4 50 3 1 8 (by simp[qX,results157,Ge]) (fun n=> ?_);refine An (X:={p:Nat×List Nat×Nat//p.1<=l.length/\(l.drop p.1).foldl Es (p.2.1,p.2.2)=([],R)/\p.2.1.length<=p.1/\p.2.2<=p.1/\Gg p.2.1}) (fun p=>⟨[(3,.int .i64 p.1.2.2),(4,.osl 50 1),(7,Bi l),(8,.int .i64 l.length),(9,.int .i64 p.1.1)],[⟨50,1,.row 3 1 8 (HW p.1.2.1)⟩]⟩) (fun p=>l.length-p.1.1) ⟨(0,[],0),by simp[hR,Gg]⟩ (Sub.lit (by simp[CS])) ?_
 rintro⟨⟨k,s,m⟩,hk,hw,hsl,hmb,yO⟩;simp only at hk hw hsl hmb yO |-;clear hR
 by_cases qV:k<l.length
 ·obtain⟨x,hx,qG,zJ⟩:=Ar qV;rw[aU0 qV,qG,cH0]at hw;have zA:=GZ (gE x zJ);obtain⟨c,yC⟩:∃c:Nat,x.n=(c:Int):=⟨x.n.toNat,by omega⟩;have jQ:=tH (p:=(s,m)) x (by have:=cL x zJ;omega) yO;have fI:=tI (s,m) x;unfold Es at hw jQ fI;rw[yC,cB0]at hw jQ fI;simp only at hw jQ fI;obtain⟨P,hP⟩:∃P,P=(if c=0 then fin s else c::s):=⟨_,rfl⟩;rw[<-hP]at hw jQ fI;have vY:(if (m:Int)<(s.length:Int)+1 then (s.length:Int)+1 else (m:Int))=((max m (s.length+1):Nat):Int):=by split<;>omega
  obtain⟨m2,gD⟩:∃m2,m2=max m (s.length+1):=⟨_,rfl⟩;rw[<-gD]at hw vY;have hm2b:m2<=k+1:=by omega
  have z1:(s.length+1)*8<=150000000000000:=by omega
  have z2:s.length+1<=9223372036854775807:=by omega
  have q1:IntKind.i64.wrap ((s.length:Int)+1)=(s.length:Int)+1:=wq
  (refine Ba Ac Ac (Rq @Bu.eq_1 qV hx qG yC @Ew vY z1 z2 q1) ?_;intros;refine Al ?_)
  refine An (X:={q:List Nat//Ae_ q=P/\q.length<=k+1/\Gg q.tail}) (fun q=>⟨[(3,.int .i64 m2),(4,.osl 50 1),(7,Bi l),(8,.int .i64 l.length),(9,.int .i64 k)],[⟨50,1,.row 3 1 8 (HW q.1)⟩]⟩) (fun q=>q.1.length) ⟨c::s,by rw[hP,rR],by simp;omega,yO⟩ (Sub.lit (by simp[vY,Ho,Bt])) ?_;rintro⟨q,fK,jK,bG⟩;simp only
  match q,fK,jK,bG with
  | [],fK,jK,bG =>
   have hP2:P=[]:=by rw[<-fK];rfl
   (refine Ba Ac Ac (AQ @CS) ?_;intros;refine Al ?_)
   refine Ak.mk ⟨(k+1,P,m2),show k+1<=l.length/\(l.drop (k+1)).foldl Es (P,m2)=([],R)/\P.length<=k+1/\m2<=k+1/\Gg P from ⟨by omega,hw,by omega,hm2b,jQ⟩⟩ (Sub.lit (by simp[hP2,CS])) (by simp;omega)
   skip
  | d::q,fK,jK,bG =>
   have hql:q.length<=k:=by simpa using jK
   have qY:(HW (d::q)).length=q.length+1:=by rw[Ew];rfl
   have wP:=XG d q;have wA:=tZ d q;have q2:IntKind.i64.wrap ((q.length:Int))=(q.length:Int):=wq;obtain⟨D,hD⟩:∃D,D=HW (d::q):=⟨_,rfl⟩;rw[<-hD]at qY wP wA |-;have wQ:q.length<D.length:=by omega
   have wE:D[q.length]'wQ=[.int .i64 (d:Int)]:=(aF0.1 wP).2;have wC:(0:Int)<(q.length:Int)+1:=by omega
   cases d with
   | zero =>
    cases q with
    | nil =>
     have hP2:P=[]:=by rw[<-fK];rfl
     have q0:IntKind.i64.wrap 0=0:=by decide
     simp only[List.length_nil,bN0]at qY wP wE wA wQ
     (repeat (first | (refine TF 4 ?_ (fun _=> ?_);(· (simp[qX,qY,wP,wE,wQ,wC,wA,CS,q0];done));(try simp[qX,qY,wP,wE,wQ,wC,wA,CS,q0])) | refine AC fun K hK=> ?_ | (refine BL Ge mxd (by kernel_rfl) ?_;simp[Ge,qX,qY,wP,wE,wQ,wC,wA,CS,q0];try simp (disch:=omega) only[Ai]) | refine Am ?_ | (refine AX ?_ ?_ ?_;(· (simp[qX,qY,wP,wE,wQ,wC,wA,CS,q0];done));(try (rotate_left;(· (intro hc;(try simp[qX,qY,wP,wE,wQ,wC,wA,CS,q0]at hc);done))))) | (refine AI ?_;simp[results157,qX,qY,wP,wE,wQ,wC,wA,CS,q0]) | ((first | refine Av ?_ | refine Au ?_);simp[qX,qY,wP,wE,wQ,wC,wA,CS,q0]) | (intro hc;(try simp[qX,qY,wP,wE,wQ,wC,wA,CS,q0]at hc);(try (exfalso;omega))) | (refine⟨?_,?_⟩; · omega) | omega | apply_assumption -exfalso -symm | (exfalso;omega)))
     refine Ak.mk ⟨[],hP2.symm,by simp,by simp[Gg]⟩ (Sub.lit (by simp[CS])) (by simp)
     skip
    | cons e q =>
     obtain⟨bY,he9⟩:=bG e (by simp);have q5:IntKind.i64.wrap ((e-1:Nat):Int)=((e-1:Nat):Int):=wq;have hP2:Ae_ ((e-1)::q)=P:=by rw[rQ bY,<-fK];rfl
     have hpq:Gg q:=fun c hc=>bG c (by simp[hc])
     simp only[List.length_cons]at qY wP wE wA wQ q2 wC hql;have vF:(HW (e::q)).length=q.length+1:=by rw[Ew];rfl
     have vT:=XG e q;have vN:=BB_ e (e-1) q;obtain⟨E,hE⟩:∃E,E=HW (e::q):=⟨_,rfl⟩;rw[<-hE]at vF vT vN wA;have kH:q.length<E.length:=by omega
     have vC:E[q.length]'kH=[.int .i64 (e:Int)]:=(aF0.1 vT).2;have q3:IntKind.i64.wrap ((q.length:Int)+1)=(q.length:Int)+1:=wq;have q4:IntKind.i64.wrap ((q.length:Int))=(q.length:Int):=wq;have vU:(e:Int)-1=((e-1:Nat):Int):=by omega
     have bC:(0:Int)<(q.length:Int)+1:=by omega
     have nY:(0:Int)<(q.length:Int)+1+1:=by omega
     (repeat (first | (refine TF 4 ?_ (fun _=> ?_);(· (simp[qX,qY,wP,wE,wQ,wC,bC,nY,wA,q3,q4,vF,vT,vC,kH,vU,vN,q5];done));(try simp[qX,qY,wP,wE,wQ,wC,bC,nY,wA,q3,q4,vF,vT,vC,kH,vU,vN,q5])) | refine AC fun K hK=> ?_ | (refine BL Ge mxd (by kernel_rfl) ?_;simp[Ge,qX,qY,wP,wE,wQ,wC,bC,nY,wA,q3,q4,vF,vT,vC,kH,vU,vN,q5];try simp (disch:=omega) only[Ai]) | refine Am ?_ | (refine AX ?_ ?_ ?_;(· (simp[qX,qY,wP,wE,wQ,wC,bC,nY,wA,q3,q4,vF,vT,vC,kH,vU,vN,q5];done));(try (rotate_left;(· (intro hc;(try simp[qX,qY,wP,wE,wQ,wC,bC,nY,wA,q3,q4,vF,vT,vC,kH,vU,vN,q5]at hc);done))))) | (refine AI ?_;simp[results157,qX,qY,wP,wE,wQ,wC,bC,nY,wA,q3,q4,vF,vT,vC,kH,vU,vN,q5]) | ((first | refine Av ?_ | refine Au ?_);simp[qX,qY,wP,wE,wQ,wC,bC,nY,wA,q3,q4,vF,vT,vC,kH,vU,vN,q5]) | (intro hc;(try simp[qX,qY,wP,wE,wQ,wC,bC,nY,wA,q3,q4,vF,vT,vC,kH,vU,vN,q5]at hc);(try (exfalso;omega))) | (refine⟨?_,?_⟩; · omega) | omega | apply_assumption -exfalso -symm | (exfalso;omega)))
     refine Ak.mk ⟨(e-1)::q,hP2,by simp;omega,hpq⟩ (Sub.lit (by simp)) (by simp)
     skip
   | succ d =>
    have hP2:P=(d+1)::q:=by rw[<-fK];rfl
    have gJ:¬(d:Int)+1=0:=by omega
    have hd0':(((d:Int)+1)==0)=false:=by simpa using gJ
    (refine Ba Ac Ac (Np qY wP wE wQ q2 wC gJ hd0') ?_;intros;refine Al ?_)
    refine Ak.mk ⟨(k+1,P,m2),show k+1<=l.length/\(l.drop (k+1)).foldl Es (P,m2)=([],R)/\P.length<=k+1/\m2<=k+1/\Gg P from ⟨by omega,hw,by omega,hm2b,jQ⟩⟩ (Sub.lit (by simp[hP2,hD])) (by simp;omega)
    skip
 ·have qN:k=l.length:=by omega
  subst qN;rw[cL0]at hw;simp only[List.foldl_nil,_root_.Prod.mk.injEq]at hw;obtain⟨rfl,rfl⟩:=hw;exact AA Ac Ac Ac
def dT (t:RT):List DVal:=[Bi (flat t)]
abbrev dTs (ts:List RT):DVal:= .sl 1 24 (ts.map dT)
@[simp] theorem Fo_ (t:RT):AJ (dT t)=0:=by simp[dT,AJ,mx]
@[simp] theorem Gp_ (l:List RT):Bq (l.map dT)=0:=HM _ Fo_ l
theorem QA {ks:List RT} {i:Nat} {t:RT} (h:ks[i]? =some t):(Ah (ks.take (i+1))).length=(Ah (ks.take i)).length+(flat t).length:=by
 rw[bR0,h,Dy,aE0];simp[Ah]
theorem Jl (ks:List RT) (i:Nat):Ah ks=Ah (ks.take i)++Ah (ks.drop i):=by rw[<-Dy,List.take_append_drop]
def EB : Ann:=⟨[],[]⟩
theorem Jc (x:Nd) (ks:List RT) (ht:DR (.mk x ks)=true) (hs:(flat (.mk x ks)).length<=1572864):Ag prog 123 [Bi (flat (.mk x ks))] (dTs ks):=by
 refine Ad [60] EB func123 call123 ntmps123 mxd (Az @EB.eq_1 results123) rfl (fun qJ B qX qQ=> ?_);clear qJ;simp only[Ap];obtain⟨hm,hn,qO⟩:=BJ ht;have gE:=OQ ht;have cL:=Qq _ ht;obtain⟨l,hl⟩:∃l,l=flat (.mk x ks):=⟨_,rfl⟩;have vR:l=x::Ah ks:=by rw[hl,Ax]
 rw[<-hl]at gE cL hs |-;have h0:l[0]? =some x:=by rw[vR];rfl
 have qY:l.length=(Ah ks).length+1:=by rw[vR];simp
 have wX:0<l.length:=by omega
 have vM:l[0]'wX=x:=(aF0.1 h0).2;have wR:ks.length<=1572864:=by have:=Dx ks;omega
 (refine Ba Ac Ac (Lj @Bu.eq_1 h0 vM wX hn) ?_;intros;refine Al ?_)
 refine CD 3 60 63 1 24 (by simp[qX,results123,EB]) (fun n=> ?_);refine An (X:={i:Nat//i<=ks.length}) (fun i=>⟨[(0,Bi l),(3,.osl 60 1),(4,.int .i64 (1+(Ah (ks.take i.1)).length:Nat)),(10,.int .i64 ks.length),(11,.int .i64 i.1)],[⟨60,1,.row 63 1 24 ((ks.take i.1).map dT)⟩]⟩) (fun i=>ks.length-i.1) ⟨0,by omega⟩ (Sub.lit (by simp[Ah])) ?_;rintro⟨i,hi⟩;simp only
 by_cases qV:i<ks.length
 ·obtain⟨t,wA,mT,_⟩:=Ar qV;have jQ:=Jl ks i;have hdr:=aU0 qV;rw[mT]at hdr
  have jA:Fs (ks.drop i)=true:=by
   have:=OT (ks.take i) (ks.drop i);rw[List.take_append_drop,qO]at this;simpa using (by simpa using this.symm:Fs (ks.take i)=true/\Fs (ks.drop i)=true).2
  rw[hdr]at jA;obtain⟨mO,hokr⟩:=BG jA;obtain⟨A,hA⟩:∃A,A=1+(Ah (ks.take i)).length:=⟨_,rfl⟩;obtain⟨r,hr⟩:∃r,r=Ah (ks.drop (i+1)):=⟨_,rfl⟩
  have yN:l.drop A=flat t++r:=by
   rw[vR,hA,Nat.add_comm,dQ0,jQ,eE0 (Nat.le_refl _),cL0,List.nil_append,hdr,Ao,hr]
  have hend:EG (l.drop A) 1=some r:=by rw[yN,FG t r 0 mO,Cn]
  have hA2:A+(flat t).length+r.length=l.length:=by
   have:=congrArg List.length yN;rw[bZ0,aE0]at this;have:=FY t;omega
  have hnext:=QA wA;rw[<-hA];clear jQ hdr jA hokr
  (repeat (first | refine AC fun K hK=> ?_ | (refine BL EB mxd (by kernel_rfl) ?_;simp[EB,qX,qV];try simp (disch:=omega) only[Ai]) | refine Am ?_ | (refine AX ?_ ?_ ?_;(· (simp[qX,qV];done));(try (rotate_left;(· (intro hc;(try simp[qX,qV]at hc);done))))) | (refine AI ?_;simp[results123,qX,qV]) | ((first | refine Av ?_ | refine Au ?_);simp[qX,qV]) | (intro hc;(try simp[qX,qV]at hc);(try (exfalso;omega))) | (refine⟨?_,?_⟩; · omega) | omega | apply_assumption -exfalso -symm | (exfalso;omega)))
  refine An (X:={p:Nat×Nat//p.1<=l.length/\EG (l.drop p.1) p.2=some r/\p.2<=1+p.1*1572864/\A<=p.1}) (fun p=>⟨[(0,Bi l),(3,.osl 60 1),(4,.int .i64 p.1.1),(5,.int .i64 A),(6,.int .i64 p.1.2),(10,.int .i64 ks.length),(11,.int .i64 i)],[⟨60,1,.row 63 1 24 ((ks.take i).map dT)⟩]⟩) (fun p=>l.length-p.1.1) ⟨(A,1),show A<=l.length/\EG (l.drop A) 1=some r/\1<=1+A*1572864/\A<=A from ⟨by omega,hend,by omega,Nat.le_refl _⟩⟩ (Sub.lit (by simp)) ?_
  rintro⟨⟨k,w⟩,hk,hw,dI,hAk⟩;simp only at hk hw dI hAk |-
  cases w with
  | zero =>
   rw[Cn]at hw;simp only[aA0]at hw
   have vJ:k=A+(flat t).length:=by
    have:=congrArg List.length hw;rw[bZ0]at this;omega
   have z1:((ks.take i).length+1)*24<=150000000000000:=by rw[aW0];omega
   have z2:(ks.take i).length+1<=9223372036854775807:=by rw[aW0];omega
   have hpiece:(l.drop A).take (k-A)=flat t:=by rw[vJ,eN0,yN];simp
   have qN:A<=l.length:=by omega
   (repeat (first | refine AC fun K hK=> ?_ | (refine BL EB mxd (by kernel_rfl) ?_;simp[EB,qX,qV,hk,hAk,qN];try simp (disch:=omega) only[Ai]) | refine Am ?_ | (refine AX ?_ ?_ ?_;(· (simp[qX,qV,hk,hAk,qN];done));(try (rotate_left;(· (intro hc;(try simp[qX,qV,hk,hAk,qN]at hc);done))))) | (refine AI ?_;simp[results123,qX,qV,hk,hAk,qN]) | ((first | refine Av ?_ | refine Au ?_);simp[qX,qV,hk,hAk,qN]) | (intro hc;(try simp[qX,qV,hk,hAk,qN]at hc);(try (exfalso;omega))) | (refine⟨?_,?_⟩; · omega) | omega | apply_assumption -exfalso -symm | (exfalso;omega)))
   have hpD:List.take (k-A) (List.drop A (List.map Bu l))=(flat t).map Bu:=by rw[<-List.map_drop,<-List.map_take,hpiece]
   have htm:List.take (i+1) (List.map dT ks)=List.take i (List.map dT ks)++[dT t]:=by rw[bR0,bH0,wA];rfl
   have jT:(1:Int)+((Ah (List.take (i+1) ks)).length:Int)=(k:Int):=by omega
   refine Ak.mk ⟨i+1,by omega⟩ (Sub.lit (by simp[hpD,htm,jT,dT,Bt])) (by simp;omega)
   skip
  | succ v =>
   have qK:k<l.length:=by
    rcases Nat.lt_or_ge k l.length with h | h
    ·exact h
    ·rw[dK0 h,Hn]at hw;simp at hw
   obtain⟨y,hy,zW,dC⟩:=Ar qK;rw[aU0 qK,zW,Dz,if_pos (gE y dC)]at hw;have zA:=GZ (gE y dC);have hk9:=cL y dC;obtain⟨c,yC⟩:∃c:Nat,y.n=(c:Int):=⟨y.n.toNat,by omega⟩;rw[yC,cB0]at hw;have q1:IntKind.i64.wrap ((c:Int)-1)=(c:Int)-1:=wq;have q2:IntKind.i64.wrap ((v:Int)+1+((c:Int)-1))=(v:Int)+(c:Int):=by rw[wq];omega
   have q3:(0:Int)<(v:Int)+1:=by omega
   (repeat (first | refine AC fun K hK=> ?_ | (refine BL EB mxd (by kernel_rfl) ?_;simp[EB,qX,Bu,qK,hy,zW,yC,q1,q2,q3];try simp (disch:=omega) only[Ai]) | refine Am ?_ | (refine AX ?_ ?_ ?_;(· (simp[qX,Bu,qK,hy,zW,yC,q1,q2,q3];done));(try (rotate_left;(· (intro hc;(try simp[qX,Bu,qK,hy,zW,yC,q1,q2,q3]at hc);done))))) | (refine AI ?_;simp[results123,qX,Bu,qK,hy,zW,yC,q1,q2,q3]) | ((first | refine Av ?_ | refine Au ?_);simp[qX,Bu,qK,hy,zW,yC,q1,q2,q3]) | (intro hc;(try simp[qX,Bu,qK,hy,zW,yC,q1,q2,q3]at hc);(try (exfalso;omega))) | (refine⟨?_,?_⟩; · omega) | omega | apply_assumption -exfalso -symm | (exfalso;omega)))
   refine Ak.mk ⟨(k+1,v+c),show k+1<=l.length/\EG (l.drop (k+1)) (v+c)=some r/\v+c<=1+(k+1)*1572864/\A<=k+1 from ⟨by omega,hw,by omega,by omega⟩⟩ (Sub.lit (by simp)) (by simp;omega)
   skip
 ·have qN:i=ks.length:=by omega
  subst qN;exact AA Ac Ac (AQ (@aT0.{0}))
def Yu : Ann:=⟨[],[]⟩
theorem TU (k:Int):Ag prog 203 [.int .i64 k] (.str (Zw k)):=by
 refine Ad [] Yu func203 call203 ntmps203 mxd (Az @Yu.eq_1 results203) rfl (fun qJ B qX qQ=> ?_);simp only[Ap];have z0:(⟨#[]⟩:ByteArray).size=0:=rfl;have z1:(⟨#[42]⟩:ByteArray).size=1:=rfl;have z2:(⟨#[43]⟩:ByteArray).size=1:=rfl;have z3:(⟨#[63]⟩:ByteArray).size=1:=rfl;have m1:1<=maxLen:=by decide
 unfold Zw
 by_cases k6:k=6
 ·exact AA Ac Ac (Rp z0 z1 z2 z3 m1 k6)
 by_cases k7:k=7
 ·exact AA Ac Ac (OB z0 z1 z2 z3 m1 k6 k7)
 by_cases k8:k=8
 ·exact AA Ac Ac (Np z0 z1 z2 z3 m1 k6 k7 k8)
 exact AA Ac Ac (Np z0 z1 z2 z3 m1 k6 k7 k8)
theorem Es_ {l:List Nat} {a:Nat} (h:a∈l):a<=l.sum:=by
 induction l with
 | nil=>simp at h
 | cons b l ih =>
  rw[eG0]
  rcases aL0.1 h with rfl | h
  ·omega
  ·have:=ih h;omega
theorem Sq {pk:Int} {ks:List RT} {i:Nat} {t:RT} (h:ks[i]? =some t):Di pk (ks.take (i+1))=Di pk (ks.take i)++[IR pk t.x.k (CI t)]:=by
 rw[Dj,Dj,bR0,h,bI0];rfl
theorem Po (pk:Int) (ks:List RT):(Di pk ks).length=ks.length:=by rw[Dj,aO0]
theorem Nc (t:RT):(flat t)[0]? =some t.x:=by cases t;rfl
theorem JN {ks:List RT} {t:RT} (h:t∈ks):(flat t).length<=(Ah ks).length:=by
 induction ks with
 | nil=>simp at h
 | cons u ks ih =>
  rw[Ao,aE0]
  rcases aL0.1 h with rfl | h
  ·omega
  ·have:=ih h;omega
def Mq : Ann:=⟨[],[⟨1,[3],[],[]⟩]⟩
theorem Lo : ∀(n:Nat) (t:RT),(flat t).length=n->DR t=true->(flat t).length<=1572864->Ag prog 158 [Bi (flat t)] (.str (CI t)):=by
 intro n
 induction n using Nat.strongRecOn with
 | ind n ih =>
 intro t hn ht hs;obtain⟨x,ks⟩:=t;have kk:=Jc x ks ht hs;obtain⟨hm,cW,qO⟩:=BJ ht;have qD:=(GP _ ht);have h0:=Nc (.mk x ks);have wX:0<(flat (.mk x ks)).length:=FY _;have zG:(flat (.mk x ks)).length=(Ah ks).length+1:=by rw[Ax,List.length_cons]
 have vJ:=Dx ks
 have dL:∀u∈ks,Ag prog 158 [Bi (flat u)] (.str (CI u)):=fun u hu=>by
  have:=JN hu;exact ih (flat u).length (by omega) u rfl (OS qO u hu) (by omega)
 have hsj:=JB x.k ks qO
 have hparts:∀y∈Di x.k ks,1<=y.size/\y.size<=67108864:=fun y hy=>by
  refine⟨hsj.2 y hy,?_⟩;have:y.size+3<=((Di x.k ks).map fun y=>y.size+3).sum:=Es_ (aQ0.2 ⟨y,hy,rfl⟩);omega
 have kj:=sY (Di x.k ks) (Ml x.k) (Hr _) (by rw[Po];omega) hparts;have kg:=TU x.k;have nL:=HS (Di x.k ks) (Ml x.k) (Hr _);have hgs:=VT x.k;rw[OI];have jF:((Di x.k ks).map fun y=>y.size+3).sum<=37748736:=by omega
 clear ih hn qD;obtain⟨l,hl⟩:∃l,l=flat (.mk x ks):=⟨_,rfl⟩;rw[<-hl]at kk h0 wX |-;have vM:l[0]'wX=x:=(aF0.1 h0).2;have z0:(⟨#[]⟩:ByteArray).size=0:=rfl;have z1:(⟨#[37]⟩:ByteArray).size=1:=rfl;have z2:(⟨#[32]⟩:ByteArray).size=1:=rfl;have z3:(⟨#[32,124,32]⟩:ByteArray).size=3:=rfl;have z4:(⟨#[40]⟩:ByteArray).size=1:=rfl;have z5:(⟨#[41]⟩:ByteArray).size=1:=rfl;have m1:1<=maxLen:=by decide
 have m3:3<=maxLen:=by decide
 refine Ad [] Mq func158 call158 ntmps158 mxd (Az @Mq.eq_1 results158) rfl (fun qJ B qX qQ=> ?_);clear qJ;simp only[Ap];obtain⟨b,hb⟩:∃b,b=Ml x.k:=⟨_,rfl⟩;have hbz:b=Ml x.k:=hb;rw[<-hb]at kj |-;unfold Ml at hb
 rcases MS hm with k | k | k | k | k | k | k | k
 ·exact AA (AQ kk) Ac (Np @Bu.eq_1 h0 vM wX z0 z1 m1 k)
 ·exact AA (AQ kk) Ac (Np @Bu.eq_1 h0 vM wX z0 z1 m1 k)
 ·exact AA (AQ kk) Ac (Np @Bu.eq_1 h0 vM wX z0 z1 m1 k)
 all_goals
  have k1:¬x.k=1:=by omega
  have k2:¬(x.k=2\/x.k=3):=by omega
  rw[if_neg k1,if_neg k2];have wV:=hb;simp only[k]at wV
  try simp at wV
  (refine Ba (AQ kk) Ac (Sm @Bu.eq_1 h0 vM wX z0 z1 z2 z3 m1 m3 k) ?_;intros;refine Al ?_)
  refine CD 5 50 9 1 16 (by simp[qX,results158,Mq]) (fun n=> ?_);refine An (X:={i:Nat//i<=ks.length}) (fun i=>⟨[(3,.ref [.int .i64 x.k,.str x.s,.int .i64 x.n]),(4,.str b),(5,.osl 50 1),(26,dTs ks),(27,.int .i64 ks.length),(28,.int .i64 i.1)],[⟨50,1,.row 9 1 16 ((Di x.k (ks.take i.1)).map AD)⟩]⟩) (fun i=>ks.length-i.1) ⟨0,by omega⟩ (Sub.lit (by simp[k,wV,Ln])) ?_;clear hb wV k kk;rintro⟨i,hi⟩;simp only
  by_cases qV:i<ks.length
  ·obtain⟨u,hu,vB,hum⟩:=Ar qV;have ku:=dL u hum;have g0:=Nc u;have gl:0<(flat u).length:=FY u;have vO:=GP u (OS qO u hum);have gW:=JN hum;have wA:=Sq (pk:=x.k) hu;have vP:IR x.k u.x.k (CI u)=if Ai_ x.k u.x.k then ⟨#[40]⟩++CI u++⟨#[41]⟩else CI u:=rfl
   unfold Ai_ at vP;obtain⟨m,gD⟩:∃m,m=flat u:=⟨_,rfl⟩;have hfm:flat u=m:=gD.symm;rw[<-gD]at ku g0 gl vO gW;obtain⟨s,jX⟩:∃s,s=CI u:=⟨_,rfl⟩;rw[<-jX]at ku vO vP wA;have g0':m[0]'gl=u.x:=(aF0.1 g0).2;obtain⟨P,hP⟩:∃P,P=IR x.k u.x.k s:=⟨_,rfl⟩;rw[<-hP]at vP wA;have jV:(Di x.k (ks.take i)).length=i:=by rw[Po,aW0];omega
   obtain⟨T,hT⟩:∃T,T=Di x.k (ks.take i):=⟨_,rfl⟩;rw[<-hT]at wA jV |-;have y1:(i+1)*16<=150000000000000:=by omega
   have y2:i+1<=9223372036854775807:=by omega
   have y3:1+s.size<=maxLen:=by unfold maxLen;omega
   have y4:1+s.size+1<=maxLen:=by unfold maxLen;omega
   by_cases p5:u.x.k=5
   ·simp[p5]at vP
    (refine Ba (AQ ku) Ac (Az (Mv @dT.eq_1 @Bu.eq_1 hfm qV hu vB g0 g0' gl p5 y1 y2 y3 y4 z4 z5) (HB m1 jV @aP0)) ?_;intros;refine Al ?_)
    refine Ak.mk ⟨i+1,by omega⟩ (Sub.lit (by simp[wA,vP,AD])) (by simp;omega)
    skip
   ·have p5':(u.x.k==5)=false:=by simpa using p5
    by_cases p4:u.x.k=4
    ·by_cases q5:x.k=5
     ·simp[p4,q5]at vP
      (refine Ba (AQ ku) Ac (Az (Mv @dT.eq_1 @Bu.eq_1 hfm qV hu vB g0 g0' gl p4 p5 p5' q5 y1 y2 y3) (Rp y4 z4 z5 m1 jV @aP0)) ?_;intros;refine Al ?_)
      have htk5:=wA;rw[q5]at htk5;refine Ak.mk ⟨i+1,by omega⟩ (Sub.lit (by simp[htk5,vP,AD,q5])) (by simp;omega)
      skip
     ·have q5':(x.k==5)=false:=by simpa using q5
      simp[p4,q5]at vP
      (refine Ba (AQ ku) Ac (Az (Mv @dT.eq_1 @Bu.eq_1 hfm qV hu vB g0 g0' gl p4 p5 p5' q5 q5' y1 y2) (OB y3 y4 z4 z5 m1 jV @aP0)) ?_;intros;refine Al ?_)
      refine Ak.mk ⟨i+1,by omega⟩ (Sub.lit (by simp[wA,vP,AD])) (by simp;omega)
      skip
    ·have p4':(u.x.k==4)=false:=by simpa using p4
     simp[p4,p5]at vP
     (refine Ba (AQ ku) Ac (Az (Mv @dT.eq_1 @Bu.eq_1 hfm qV hu vB g0 g0' gl p4 p4' p5 p5' y1 y2 y3) (Rp y4 z4 z5 m1 jV @aP0)) ?_;intros;refine Al ?_)
     refine Ak.mk ⟨i+1,by omega⟩ (Sub.lit (by simp[wA,vP,AD])) (by simp;omega)
     skip
  ·have qN:i=ks.length:=by omega
   subst qN;rw[aT0];obtain⟨J,hJ⟩:∃J,J=Ft (Di x.k ks) b:=⟨_,rfl⟩;have hJs:J.size<=37748736:=by rw[hJ];exact Nat.le_trans (HS _ _ (by rw[hbz];exact Hr _)) jF
   rw[<-hJ]at kj |-;have y5:J.size+(Zw x.k).size<=maxLen:=by unfold maxLen;omega
   refine GL (Sub.freezeL [50] _) ?_;simp[qX,results158,Mq];exact AA (Az kj kg) Ac (AQ y5)
def CN (t:RT):Int:=if 16<Iv t then 171 else if 2048<(CI t).size then 174 else 0
def Yv : Ann:=⟨[],[]⟩
theorem Re (t:RT) (ht:DR t=true) (hs:(flat t).length<=1572864):Ag prog 104 [Bi (flat t)] (.int .i64 (CN t)):=by
 refine Ad [] Yv func104 call104 ntmps104 mxd (Az @Yv.eq_1 results104) rfl (fun qJ B qX qQ=> ?_);clear qJ;simp only[Ap];have k1:=Jh t ht hs;have k2:=Lo _ t rfl ht hs;unfold CN;obtain⟨T,hT⟩:∃T,T=CI t:=⟨_,rfl⟩;rw[<-hT]at k2 |-
 by_cases c1:16<Iv t
 ·have d1:(16:Int)<(Iv t:Int):=by omega
  exact AA (Az k1 k2) Ac (Az c1 d1)
 ·have d1:¬(16:Int)<(Iv t:Int):=by omega
  by_cases c2:2048<T.size
  ·have d2:(2048:Int)<(T.size:Int):=by omega
   exact AA (Az k1 k2) Ac (JV c1 d1 c2 d2)
  ·have d2:¬(2048:Int)<(T.size:Int):=by omega
   exact AA (Az k1 k2) Ac (JV c1 d1 c2 d2)
def JS : Ann:=⟨[],[]⟩
theorem HX (t:RT) (ht:DR t=true) (h:(flat t).length<=2048):Ag prog 55 [Bi (flat t)] (.int .i64 (CN t)):=by
 refine Ad [] JS func55 call55 ntmps55 mxd (Az @JS.eq_1 results55) rfl (fun qJ B qX qQ=> ?_);clear qJ;simp only[Ap];have k1:=Fv (flat t) (by omega);rw[EM ht]at k1;have k2:=Re t ht (by omega);have d1:¬(2048:Int)<((flat t).length:Int):=by omega
 have d2:¬2048<(flat t).length:=by omega
 exact AA (Az k1 k2) Ac (Az d1 d2)
theorem Mg (l:List Nd) (h:2048<l.length):Ag prog 55 [Bi l] (.int .i64 3):=by
 refine Ad [] JS func55 call55 ntmps55 mxd (Az @JS.eq_1 results55) rfl (fun qJ B qX qQ=> ?_);clear qJ;simp only[Ap];have d1:(2048:Int)<(l.length:Int):=by omega
 exact AA Ac Ac (Az d1 h)
theorem XM (l:List Nd) (h:l.length<=2048) (hw:CY l=false):Ag prog 55 [Bi l] (.int .i64 170):=by
 refine Ad [] JS func55 call55 ntmps55 mxd (Az @JS.eq_1 results55) rfl (fun qJ B qX qQ=> ?_);clear qJ;simp only[Ap];have k1:=Fv l (by omega);rw[hw]at k1;have d1:¬(2048:Int)<(l.length:Int):=by omega
 have d2:¬2048<l.length:=by omega
 exact AA (AQ k1) Ac (Az d1 d2)
def Mr : Ann:=⟨[],[]⟩
theorem KA (t:RT) (ht:DR t=true) (hs:(flat t).length<=1572864):Ag prog 143 [Bi (flat t)] (.int .i64 (Iv t)):=by
 refine Ad [] Mr func143 call143 ntmps143 mxd (Az @Mr.eq_1 results143) rfl (fun qJ B qX qQ=> ?_);clear qJ;simp only[Ap];have k1:=Fv (flat t) hs;rw[EM ht]at k1;have k2:=Jh t ht hs;exact AA (Az k1 k2) Ac Ac
theorem UN (l:List Nd) (hs:l.length<=1572864) (hw:CY l=false):Ag prog 143 [Bi l] (.int .i64 0):=by
 refine Ad [] Mr func143 call143 ntmps143 mxd (Az @Mr.eq_1 results143) rfl (fun qJ B qX qQ=> ?_);clear qJ;simp only[Ap];have k1:=Fv l hs;rw[hw]at k1;exact AA (AQ k1) Ac Ac
structure At (l:List Nd) (p:Nat) (t:RT):Prop where
 ok:DR t=true
 le:p<=l.length
 eq:∃r,l.drop p=flat t++r
def CA (p:Nat) (ks:List RT) (i:Nat):Nat:=p+1+(Ah (ks.take i)).length
def KT (n:Nat):List DVal:=[.int .i64 (n:Int)]
def Xd (p:Nat) (ks:List RT):DVal:= .sl 1 8 ((List.range ks.length).map fun i=>KT (CA p ks i))
@[simp] theorem CP_ (n:Nat):AJ (KT n)=0:=by simp[KT,AJ,mx]
@[simp] theorem Uz (p:Nat) (ks:List RT) (n:Nat):Bq ((List.range n).map fun i=>KT (CA p ks i))=0:=HM (fun i=>KT (CA p ks i)) (fun i=>CP_ _) _
theorem At.top {t:RT} (h:DR t=true):At (flat t) 0 t:=⟨h,by omega,[],by simp⟩
theorem At.kid {l:List Nd} {p:Nat} {x:Nd} {ks:List RT} (h:At l p (.mk x ks)) {i:Nat} {u:RT} (hu:ks[i]? =some u):At l (CA p ks i) u/\EG (l.drop (CA p ks i)) 1=some (l.drop (CA p ks (i+1)))/\CA p ks (i+1)<=l.length:=by
 obtain⟨qO,zU,r,hr⟩:=h;obtain⟨_,_,h3⟩:=BJ qO;obtain⟨hi,rfl⟩:=aF0.1 hu;have qY:(l.drop p).length=1+(Ah ks).length+r.length:=by rw[hr,Ax,aE0,List.length_cons];omega
 rw[bZ0]at qY;have jQ:=Jl ks i;have hdr:=aU0 hi;have wM:=QA (ks:=ks) hu;have zG:(Ah ks).length=(Ah (ks.take i)).length+((flat ks[i]).length+(Ah (ks.drop (i+1))).length):=by rw[jQ,aE0,hdr,Ao,aE0]
 have yN:l.drop (CA p ks i)=flat ks[i]++(Ah (ks.drop (i+1))++r):=by
  unfold CA;rw[cE0,<-eL0,hr,Ax,Nat.add_comm 1,List.cons_append,dQ0,jQ,aS0,eE0 (Nat.le_refl _),cL0,List.nil_append,hdr,Ao,aS0]
 have hoku:DR ks[i]=true:=OS h3 _ (cY0 hi);refine⟨⟨hoku,by unfold CA;omega,_,yN⟩,?_,by unfold CA;omega⟩;rw[yN,FG _ _ 0 hoku,Cn]
 congr 1
 have h5:CA p ks (i+1)=CA p ks i+(flat ks[i]).length:=by unfold CA;omega
 have h6:l.drop (CA p ks i+(flat ks[i]).length)=(l.drop (CA p ks i)).drop (flat ks[i]).length:=by rw[eL0]
 rw[h5,h6,yN,eE0 (Nat.le_refl _),cL0,List.nil_append]
theorem At.head {l:List Nd} {p:Nat} {t:RT} (h:At l p t):l[p]? =some t.x/\p<l.length/\p+(flat t).length<=l.length:=by
 obtain⟨qO,zU,r,hr⟩:=h;have h1:=FY t;have h2:=congrArg List.length hr;rw[bZ0,aE0]at h2;refine⟨?_,by omega,by omega⟩;have h3:(l.drop p)[0]? =some t.x:=by rw[hr,bC0 (by omega)];exact Nc t
 rw[cQ0]at h3;simpa using h3
def Rm : Ann:=⟨[],[]⟩
theorem NG (l:List Nd) (p:Nat) (x:Nd) (ks:List RT) (h:At l p (.mk x ks)) (hs:l.length<=1572864):Ag prog 130 [Bi l,.int .i64 p] (Xd p ks):=by
 refine Ad [50] Rm func130 call130 ntmps130 mxd (Az @Rm.eq_1 results130) rfl (fun qJ B qX qQ=> ?_) (hd:=(by simp[mx,Xd]));clear qJ;simp only[Ap];obtain⟨hm,hn,qO⟩:=BJ h.ok;obtain⟨g0,gl,ge⟩:=h.head;have g0':l[p]'gl=x:=(aF0.1 g0).2;have vJ:ks.length<=1572864:=by have:=Dx ks;rw[Ax,List.length_cons]at ge;omega
 simp only[RT.x]at g0;unfold Xd
 (refine Ba Ac Ac Ac ?_;intros;refine Al ?_)
 refine CD 5 50 3 1 8 (by simp[qX,results130,Rm]) (fun n=> ?_);refine An (X:={i:Nat//i<=ks.length}) (fun i=>⟨[(0,Bi l),(1,.int .i64 p),(5,.osl 50 1),(6,.int .i64 (CA p ks i.1)),(7,.int .i64 i.1)],[⟨50,1,.row 3 1 8 ((List.range i.1).map fun i=>KT (CA p ks i))⟩]⟩) (fun i=>ks.length-i.1) ⟨0,by omega⟩ (Sub.lit (by simp[CA,Ah])) ?_;rintro⟨i,hi⟩;simp only
 by_cases qV:i<ks.length
 ·obtain⟨u,hu,vB,_⟩:=Ar qV;obtain⟨a1,a2,a3⟩:=h.kid hu;have e1:=NR l (CA p ks i) hs a1.le;unfold aS at e1;rw[a2]at e1;simp only[bZ0]at e1;have hq:(l.length:Int)-((l.length-CA p ks (i+1):Nat):Int)=(CA p ks (i+1):Int):=by omega
  rw[hq]at e1;have hr:(List.range (i+1)).map (fun i=>KT (CA p ks i))=(List.range i).map (fun i=>KT (CA p ks i))++[KT (CA p ks i)]:=by rw[eH0,bI0];rfl
  have z1:(i+1)*8<=150000000000000:=by omega
  have z2:i+1<=9223372036854775807:=by omega
  obtain⟨q,hqq⟩:∃q,q=CA p ks i:=⟨_,rfl⟩;obtain⟨q',hqq'⟩:∃q',q'=CA p ks (i+1):=⟨_,rfl⟩;rw[<-hqq,<-hqq']at e1;rw[<-hqq]at hr |-;have jY:=Uz p ks i;have yT:((List.range i).map fun i=>KT (CA p ks i)).length=i:=by simp
  obtain⟨D,hD⟩:∃D,D=(List.range i).map fun i=>KT (CA p ks i):=⟨_,rfl⟩
  rw[<-hD]at hr jY yT |-;have gL:(List.range (i+1)).map (fun i=>KT (CA p ks i))=D++[[.int .i64 (q:Int)]]:=hr;clear hD hr
  (refine Ba (AQ e1) Ac (uN @Bu.eq_1 g0 g0' gl hn qV z1 z2 yT) ?_;intros;refine Al ?_)
  refine Ak.mk ⟨i+1,by omega⟩ (Sub.lit (by simp only[<-hqq',gL];simp[jY,Bt])) (by simp;omega)
  skip
 ·have qN:i=ks.length:=by omega
  subst qN;exact AA Ac Ac (Lj @Bu.eq_1 g0 g0' gl hn)
theorem Xg : ∀(a:List RT) (u:RT),Sd (a++[u])=max (Sd a) (Iv u)
 | [],u=>by rw[List.nil_append,Hf,LR];omega
 | t::a,u=>by rw[List.cons_append,Hf,Xg a u,Hf];omega
theorem Bd_ {ks:List RT} {i:Nat} {u:RT} (h:ks[i]? =some u):Sd (ks.take (i+1))=max (Sd (ks.take i)) (Iv u):=by
 rw[bR0,h];exact Xg _ _
mutual
theorem Et_ : ∀t:RT,Iv t<=(flat t).length
 | .mk x ks=>by rw[UL,Ax,List.length_cons];have:=aG ks;omega
theorem aG : ∀ts:List RT,Sd ts<=(Ah ts).length
 | []=>by rw[LR];omega
 | t::ts=>by rw[Hf,Ao,aE0];have:=Et_ t;have:=aG ts;omega
end
theorem Se (ks:List RT) (i:Nat):(Ah (ks.take i)).length<=(Ah ks).length:=by
 have:=congrArg List.length (Jl ks i);rw[aE0]at this;omega
theorem Xb {p:Nat} {ks:List RT} {i:Nat} (h:i<ks.length):((List.range ks.length).map fun i=>KT (CA p ks i))[i]? =some [.int .i64 (CA p ks i:Int)]:=by
 rw[bH0,dX0 h];rfl
def Yp : Ann:=⟨[],[]⟩
theorem Jg : ∀(n:Nat) (t:RT) (l:List Nd) (p:Nat),(flat t).length=n->At l p t->l.length<=1572864->Ag prog 186 [Bi l,.int .i64 p] (.int .i64 (Iv t)):=by
 intro n
 induction n using Nat.strongRecOn with
 | ind n ih =>
 intro t l p hn ht hs;obtain⟨x,ks⟩:=t;have kk:=NG l p x ks ht hs;obtain⟨g0,gl,ge⟩:=ht.head;have zG:(flat (.mk x ks)).length=(Ah ks).length+1:=by rw[Ax,List.length_cons]
 have vJ:=Dx ks;have hk9:ks.length<=1572864:=by omega
 have dL:∀i u,ks[i]? =some u->Ag prog 186 [Bi l,.int .i64 (CA p ks i)] (.int .i64 (Iv u)):=fun i u hu=>by
  have hm:=JN (bJ0 hu);exact ih (flat u).length (by omega) u l _ rfl (ht.kid hu).1 hs
 have wW:∀i,i<ks.length->_:=fun i h=>Xb (p:=p) (ks:=ks) (i:=i) h
 have hht:Sd ks<=1572864:=by have:=aG ks;omega
 rw[UL];unfold Xd at kk;obtain⟨D,hD⟩:∃D,D=(List.range ks.length).map fun i=>KT (CA p ks i):=⟨_,rfl⟩
 have yT:D.length=ks.length:=by rw[hD];simp
 have jY:Bq D=0:=by rw[hD];exact Uz p ks _
 rw[<-hD]at kk wW;clear hD ih ht g0 gl ge hn;refine Ad [] Yp func186 call186 ntmps186 mxd (Az @Yp.eq_1 results186) rfl (fun qJ B qX qQ=> ?_);clear qJ;simp only[Ap]
 (refine Ba (AQ kk) Ac Ac ?_;intros;refine Al ?_)
 refine An (X:={i:Nat//i<=ks.length}) (fun i=>⟨[(0,Bi l),(5,.int .i64 (Sd (ks.take i.1))),(6,.sl 1 8 D),(7,.int .i64 i.1)],[]⟩) (fun i=>ks.length-i.1) ⟨0,by omega⟩ (Sub.lit (by simp[LR,jY])) ?_;rintro⟨i,hi⟩;simp only
 by_cases qV:i<ks.length
 ·obtain⟨u,hu,vB,_⟩:=Ar qV;have e1:=dL i u hu;have hr:=wW i qV;have wQ:i<D.length:=by omega
  have gN:IntKind.i64.wrap ((i:Int)+1)=(i:Int)+1:=wq;have wG:D[i]'wQ=[.int .i64 (CA p ks i:Int)]:=(aF0.1 hr).2;have wA:=Bd_ hu;obtain⟨a,ha⟩:∃a,a=Sd (ks.take i):=⟨_,rfl⟩;obtain⟨c,zX⟩:∃c,c=Iv u:=⟨_,rfl⟩;rw[<-ha,<-zX]at wA;rw[<-zX]at e1;rw[<-ha];obtain⟨q,hq⟩:∃q,q=CA p ks i:=⟨_,rfl⟩;rw[<-hq]at e1 hr wG
  by_cases hgt:a<c
  ·have hgt':(a:Int)<(c:Int):=by omega
   have vY:((Sd (ks.take (i+1)):Nat):Int)=(c:Int):=by omega
   (refine Ba (AQ e1) Ac (Np yT wQ gN hr wG hgt hgt' qV) ?_;intros;refine Al ?_)
   refine Ak.mk ⟨i+1,by omega⟩ (Sub.lit (by simp only[vY];simp[jY])) (by simp;omega)
   skip
  ·have hgt':¬(a:Int)<(c:Int):=by omega
   have vY:((Sd (ks.take (i+1)):Nat):Int)=(a:Int):=by omega
   (refine Ba (AQ e1) Ac (Np yT wQ gN hr wG hgt hgt' qV) ?_;intros;refine Al ?_)
   refine Ak.mk ⟨i+1,by omega⟩ (Sub.lit (by simp only[vY];simp[jY])) (by simp;omega)
   skip
 ·have qN:i=ks.length:=by omega
  subst qN;rw[aT0];have q1:IntKind.i64.wrap ((Sd ks:Int)+1)=(Sd ks:Int)+1:=wq;exact AA Ac Ac (Az yT q1)
end Go.Proofs.Wy
end
