/- Parts of a proof, laid together: RX2, RX3, RX4, RY2, RY3, RY4, WE0, WR2, WR3, BN3, BN4, SY0, WB14, BN2. -/
import Derived.Test.YtchgnpnbcjflcaaGreatqCr4
import Derived.Test.YtchgnpnbcjflcaaGreatqCr5
import Derived.Test.YtchgnpnbcjflcaaGreatqCr6
import Derived.Test.YtchgnpnbcjflcaaGreatqCr7
set_option linter.unusedSimpArgs false
set_option maxHeartbeats 8000000
set_option linter.unusedVariables false
set_option linter.unusedSectionVars false
section
namespace Go.Proofs.Wy
open Go Go.Dm Tryz
variable [DMode]
attribute [local irreducible] DW Bs Bv
set_option maxRecDepth 100000
def IV : Ann:=⟨[],[⟨5,[6],[],[]⟩]⟩
theorem MI (t:RT) (ht:FU t=true) (hs:(flat t).length<=1572864):Ac prog 262 [Bl (flat t)] (.int .i64 (LS t)):=by
 refine Ab [] IV func262 call262 ntmps262 mxd (Ap @IV.eq_1 results262) rfl (fun qJ B qX qQ=> ?_);clear qJ;simp only[Ak];have hR:=MG ht;have mQ:=Id_ ht;have nR:∀x∈flat t,x.n<=1572864:=fun x hx=>by have:=VI t ht x hx;omega
 obtain⟨l,hl⟩:∃l,l=flat t:=⟨_,rfl⟩;rw[<-hl]at hR mQ nR hs |-;clear hl;obtain⟨R,yB⟩:∃R,R=LS t:=⟨_,rfl⟩;rw[<-yB]at hR |-;clear yB ht
 (refine Au Aa Aa Aa ?_;intros;refine Ae ?_)
 refine Bk 4 50 3 1 8 (by simp[qX,results262,IV]) (fun n=> ?_);refine Af (X:={p:Nat×List Nat×Nat//p.1<=l.length/\(l.drop p.1).foldl Gq (p.2.1,p.2.2)=([],R)/\p.2.1.length<=p.1/\p.2.2<=p.1/\pos p.2.1}) (fun p=>⟨[(3,.int .i64 p.1.2.2),(4,.osl 50 1),(7,Bl l),(8,.int .i64 l.length),(9,.int .i64 p.1.1)],[⟨50,1,.row 3 1 8 (Lq p.1.2.1)⟩]⟩) (fun p=>l.length-p.1.1) ⟨(0,[],0),by simp[hR,pos]⟩ (Sub.lit (by simp[Ea])) ?_
 rintro⟨⟨k,s,m⟩,hk,hw,hsl,hmb,kU⟩;simp only at hk hw hsl hmb kU |-;clear hR
 by_cases qV:k<l.length
 ·obtain⟨x,hx,qU,wA⟩:=Ai qV;rw[aP0 qV,qU,cM0]at hw;have vT:=Kg (mQ x wA);obtain⟨c,kJ⟩:∃c:Nat,x.n=(c:Int):=⟨x.n.toNat,by omega⟩;have gE:=LF_ (p:=(s,m)) x (by have:=nR x wA;omega) kU;have cI:=LG_ (s,m) x;unfold Gq at hw gE cI;rw[kJ,cI0]at hw gE cI;simp only at hw gE cI;obtain⟨P,hP⟩:∃P,P=(if c=0 then fin s else c::s):=⟨_,rfl⟩;rw[<-hP]at hw gE cI;have zE:(if (m:Int)<(s.length:Int)+1 then (s.length:Int)+1 else (m:Int))=((max m (s.length+1):Nat):Int):=by split<;>omega
  obtain⟨m2,bO⟩:∃m2,m2=max m (s.length+1):=⟨_,rfl⟩;rw[<-bO]at hw zE;have hm2b:m2<=k+1:=by omega
  have z1:(s.length+1)*8<=150000000000000:=by omega
  have z2:s.length+1<=9223372036854775807:=by omega
  have q1:IntKind.i64.wrap ((s.length:Int)+1)=(s.length:Int)+1:=wq
  (refine Au Aa Aa (Hn @BS.eq_1 qV hx qU kJ @Gb zE z1 z2 q1) ?_;intros;refine Ae ?_)
  refine Af (X:={q:List Nat//NP_ q=P/\q.length<=k+1/\pos q.tail}) (fun q=>⟨[(3,.int .i64 m2),(4,.osl 50 1),(7,Bl l),(8,.int .i64 l.length),(9,.int .i64 k)],[⟨50,1,.row 3 1 8 (Lq q.1)⟩]⟩) (fun q=>q.1.length) ⟨c::s,by rw[hP,KM_],by simp;omega,kU⟩ (Sub.lit (by simp[zE,Kv,BX])) ?_;rintro⟨q,wG,wH,kE⟩;simp only
  match q,wG,wH,kE with
  | [],wG,wH,kE =>
   have hP2:P=[]:=by rw[<-wG];rfl
   (refine Au Aa Aa (Aq @Ea) ?_;intros;refine Ae ?_)
   refine Ag.mk ⟨(k+1,P,m2),show k+1<=l.length/\(l.drop (k+1)).foldl Gq (P,m2)=([],R)/\P.length<=k+1/\m2<=k+1/\pos P from ⟨by omega,hw,by omega,hm2b,gE⟩⟩ (Sub.lit (by simp[hP2,Ea])) (by simp;omega)
   skip
  | d::q,wG,wH,kE =>
   have rX:q.length<=k:=by simpa using wH
   have qZ:(Lq (d::q)).length=q.length+1:=by rw[Gb];rfl
   have zX:=BJ_ d q;have qH:=Ma_ d q;have q2:IntKind.i64.wrap ((q.length:Int))=(q.length:Int):=wq;obtain⟨D,hD⟩:∃D,D=Lq (d::q):=⟨_,rfl⟩;rw[<-hD]at qZ zX qH |-;have qN:q.length<D.length:=by omega
   have vU:D[q.length]'qN=[.int .i64 (d:Int)]:=(aB0.1 zX).2;have vQ:(0:Int)<(q.length:Int)+1:=by omega
   cases d with
   | zero =>
    cases q with
    | nil =>
     have hP2:P=[]:=by rw[<-wG];rfl
     have q0:IntKind.i64.wrap 0=0:=by decide
     simp only[List.length_nil,bX0]at qZ zX vU qH qN
     (repeat (first | (refine ZZ 4 ?_ (fun _=> ?_);(· (simp[qX,qZ,zX,vU,qN,vQ,qH,Ea,q0];done));(try simp[qX,qZ,zX,vU,qN,vQ,qH,Ea,q0])) | refine AI fun K hK=> ?_ | (refine BR IV mxd (by kernel_rfl) ?_;simp[IV,qX,qZ,zX,vU,qN,vQ,qH,Ea,q0];try simp (disch:=omega) only[Ao]) | refine Aw ?_ | (refine Bb ?_ ?_ ?_;(· (simp[qX,qZ,zX,vU,qN,vQ,qH,Ea,q0];done));(try (rotate_left;(· (intro hc;(try simp[qX,qZ,zX,vU,qN,vQ,qH,Ea,q0]at hc);done))))) | (refine AK ?_;simp[results262,qX,qZ,zX,vU,qN,vQ,qH,Ea,q0]) | ((first | refine AD ?_ | refine AC ?_);simp[qX,qZ,zX,vU,qN,vQ,qH,Ea,q0]) | (intro hc;(try simp[qX,qZ,zX,vU,qN,vQ,qH,Ea,q0]at hc);(try (exfalso;omega))) | (refine⟨?_,?_⟩; · omega) | omega | apply_assumption -exfalso -symm | (exfalso;omega)))
     refine Ag.mk ⟨[],hP2.symm,by simp,by simp[pos]⟩ (Sub.lit (by simp[Ea])) (by simp)
     skip
    | cons e q =>
     obtain⟨mS,he9⟩:=kE e (by simp);have q5:IntKind.i64.wrap ((e-1:Nat):Int)=((e-1:Nat):Int):=wq;have hP2:NP_ ((e-1)::q)=P:=by rw[KL_ mS,<-wG];rfl
     have gD:pos q:=fun c hc=>kE c (by simp[hc])
     simp only[List.length_cons]at qZ zX vU qH qN q2 vQ rX;have zU:(Lq (e::q)).length=q.length+1:=by rw[Gb];rfl
     have yA:=BJ_ e q;have vB:=Pz_ e (e-1) q;obtain⟨E,hE⟩:∃E,E=Lq (e::q):=⟨_,rfl⟩;rw[<-hE]at zU yA vB qH;have gO:q.length<E.length:=by omega
     have yX:E[q.length]'gO=[.int .i64 (e:Int)]:=(aB0.1 yA).2;have q3:IntKind.i64.wrap ((q.length:Int)+1)=(q.length:Int)+1:=wq;have q4:IntKind.i64.wrap ((q.length:Int))=(q.length:Int):=wq;have zN:(e:Int)-1=((e-1:Nat):Int):=by omega
     have mC:(0:Int)<(q.length:Int)+1:=by omega
     have cT:(0:Int)<(q.length:Int)+1+1:=by omega
     (repeat (first | (refine ZZ 4 ?_ (fun _=> ?_);(· (simp[qX,qZ,zX,vU,qN,vQ,mC,cT,qH,q3,q4,zU,yA,yX,gO,zN,vB,q5];done));(try simp[qX,qZ,zX,vU,qN,vQ,mC,cT,qH,q3,q4,zU,yA,yX,gO,zN,vB,q5])) | refine AI fun K hK=> ?_ | (refine BR IV mxd (by kernel_rfl) ?_;simp[IV,qX,qZ,zX,vU,qN,vQ,mC,cT,qH,q3,q4,zU,yA,yX,gO,zN,vB,q5];try simp (disch:=omega) only[Ao]) | refine Aw ?_ | (refine Bb ?_ ?_ ?_;(· (simp[qX,qZ,zX,vU,qN,vQ,mC,cT,qH,q3,q4,zU,yA,yX,gO,zN,vB,q5];done));(try (rotate_left;(· (intro hc;(try simp[qX,qZ,zX,vU,qN,vQ,mC,cT,qH,q3,q4,zU,yA,yX,gO,zN,vB,q5]at hc);done))))) | (refine AK ?_;simp[results262,qX,qZ,zX,vU,qN,vQ,mC,cT,qH,q3,q4,zU,yA,yX,gO,zN,vB,q5]) | ((first | refine AD ?_ | refine AC ?_);simp[qX,qZ,zX,vU,qN,vQ,mC,cT,qH,q3,q4,zU,yA,yX,gO,zN,vB,q5]) | (intro hc;(try simp[qX,qZ,zX,vU,qN,vQ,mC,cT,qH,q3,q4,zU,yA,yX,gO,zN,vB,q5]at hc);(try (exfalso;omega))) | (refine⟨?_,?_⟩; · omega) | omega | apply_assumption -exfalso -symm | (exfalso;omega)))
     refine Ag.mk ⟨(e-1)::q,hP2,by simp;omega,gD⟩ (Sub.lit (by simp)) (by simp)
     skip
   | succ d =>
    have hP2:P=(d+1)::q:=by rw[<-wG];rfl
    have bN:¬(d:Int)+1=0:=by omega
    have hd0':(((d:Int)+1)==0)=false:=by simpa using bN
    (refine Au Aa Aa (Ji qZ zX vU qN q2 vQ bN hd0') ?_;intros;refine Ae ?_)
    refine Ag.mk ⟨(k+1,P,m2),show k+1<=l.length/\(l.drop (k+1)).foldl Gq (P,m2)=([],R)/\P.length<=k+1/\m2<=k+1/\pos P from ⟨by omega,hw,by omega,hm2b,gE⟩⟩ (Sub.lit (by simp[hP2,hD])) (by simp;omega)
    skip
 ·have qY:k=l.length:=by omega
  subst qY;rw[bE0]at hw;simp only[List.foldl_nil,_root_.Prod.mk.injEq]at hw;obtain⟨rfl,rfl⟩:=hw;exact Al Aa Aa Aa
def dT (t:RT):List DVal:=[Bl (flat t)]
abbrev dTs (ts:List RT):DVal:= .sl 1 24 (ts.map dT)
@[simp] theorem TC_ (t:RT):AV (dT t)=0:=by simp[dT,AV,mx]
@[simp] theorem UH_ (l:List RT):BK (l.map dT)=0:=Jb _ TC_ l
theorem OU {ks:List RT} {i:Nat} {t:RT} (h:ks[i]? =some t):(Av (ks.take (i+1))).length=(Av (ks.take i)).length+(flat t).length:=by
 rw[bD0,h,GG,aC0];simp[Av]
theorem MM (ks:List RT) (i:Nat):Av ks=Av (ks.take i)++Av (ks.drop i):=by rw[<-GG,List.take_append_drop]
def Gf : Ann:=⟨[],[]⟩
theorem AX_ (x:Nd) (ks:List RT) (ht:FU (.mk x ks)=true) (hs:(flat (.mk x ks)).length<=1572864):Ac prog 321 [Bl (flat (.mk x ks))] (dTs ks):=by
 refine Ab [60] Gf func321 call321 ntmps321 mxd (Ap @Gf.eq_1 results321) rfl (fun qJ B qX qQ=> ?_);clear qJ;simp only[Ak];obtain⟨hm,hn,qL⟩:=CV ht;have mQ:=Id_ ht;have nR:=VI _ ht;obtain⟨l,hl⟩:∃l,l=flat (.mk x ks):=⟨_,rfl⟩;have wS:l=x::Av ks:=by rw[hl,Bc]
 rw[<-hl]at mQ nR hs |-;have h0:l[0]? =some x:=by rw[wS];rfl
 have qZ:l.length=(Av ks).length+1:=by rw[wS];simp
 have wI:0<l.length:=by omega
 have zI:l[0]'wI=x:=(aB0.1 h0).2;have vH:ks.length<=1572864:=by have:=Di ks;omega
 (refine Au Aa Aa (Dx @BS.eq_1 h0 zI wI hn) ?_;intros;refine Ae ?_)
 refine Bk 3 60 153 1 24 (by simp[qX,results321,Gf]) (fun n=> ?_);refine Af (X:={i:Nat//i<=ks.length}) (fun i=>⟨[(0,Bl l),(3,.osl 60 1),(4,.int .i64 (1+(Av (ks.take i.1)).length:Nat)),(10,.int .i64 ks.length),(11,.int .i64 i.1)],[⟨60,1,.row 153 1 24 ((ks.take i.1).map dT)⟩]⟩) (fun i=>ks.length-i.1) ⟨0,by omega⟩ (Sub.lit (by simp[Av])) ?_;rintro⟨i,hi⟩;simp only
 by_cases qV:i<ks.length
 ·obtain⟨t,qH,bK,_⟩:=Ai qV;have gE:=MM ks i;have hdr:=aP0 qV;rw[bK]at hdr
  have bX:HA (ks.drop i)=true:=by
   have:=TO (ks.take i) (ks.drop i);rw[List.take_append_drop,qL]at this;simpa using (by simpa using this.symm:HA (ks.take i)=true/\HA (ks.drop i)=true).2
  rw[hdr]at bX;obtain⟨gV,hokr⟩:=Cp bX;obtain⟨A,hA⟩:∃A,A=1+(Av (ks.take i)).length:=⟨_,rfl⟩;obtain⟨r,hr⟩:∃r,r=Av (ks.drop (i+1)):=⟨_,rfl⟩
  have jD:l.drop A=flat t++r:=by
   rw[wS,hA,Nat.add_comm,eF0,gE,eI0 (Nat.le_refl _),bE0,List.nil_append,hdr,AH,hr]
  have hend:Gm (l.drop A) 1=some r:=by rw[jD,Ib t r 0 gV,Dj]
  have hA2:A+(flat t).length+r.length=l.length:=by
   have:=congrArg List.length jD;rw[cD0,aC0]at this;have:=IL t;omega
  have hnext:=OU qH;rw[<-hA];clear gE hdr bX hokr
  (repeat (first | refine AI fun K hK=> ?_ | (refine BR Gf mxd (by kernel_rfl) ?_;simp[Gf,qX,qV];try simp (disch:=omega) only[Ao]) | refine Aw ?_ | (refine Bb ?_ ?_ ?_;(· (simp[qX,qV];done));(try (rotate_left;(· (intro hc;(try simp[qX,qV]at hc);done))))) | (refine AK ?_;simp[results321,qX,qV]) | ((first | refine AD ?_ | refine AC ?_);simp[qX,qV]) | (intro hc;(try simp[qX,qV]at hc);(try (exfalso;omega))) | (refine⟨?_,?_⟩; · omega) | omega | apply_assumption -exfalso -symm | (exfalso;omega)))
  refine Af (X:={p:Nat×Nat//p.1<=l.length/\Gm (l.drop p.1) p.2=some r/\p.2<=1+p.1*1572864/\A<=p.1}) (fun p=>⟨[(0,Bl l),(3,.osl 60 1),(4,.int .i64 p.1.1),(5,.int .i64 A),(6,.int .i64 p.1.2),(10,.int .i64 ks.length),(11,.int .i64 i)],[⟨60,1,.row 153 1 24 ((ks.take i).map dT)⟩]⟩) (fun p=>l.length-p.1.1) ⟨(A,1),show A<=l.length/\Gm (l.drop A) 1=some r/\1<=1+A*1572864/\A<=A from ⟨by omega,hend,by omega,Nat.le_refl _⟩⟩ (Sub.lit (by simp)) ?_
  rintro⟨⟨k,w⟩,hk,hw,rM,hAk⟩;simp only at hk hw rM hAk |-
  cases w with
  | zero =>
   rw[Dj]at hw;simp only[aA0]at hw
   have jY:k=A+(flat t).length:=by
    have:=congrArg List.length hw;rw[cD0]at this;omega
   have z1:((ks.take i).length+1)*24<=150000000000000:=by rw[aT0];omega
   have z2:(ks.take i).length+1<=9223372036854775807:=by rw[aT0];omega
   have hpiece:(l.drop A).take (k-A)=flat t:=by rw[jY,Nat.add_sub_cancel_left,jD];simp
   have qY:A<=l.length:=by omega
   (repeat (first | refine AI fun K hK=> ?_ | (refine BR Gf mxd (by kernel_rfl) ?_;simp[Gf,qX,qV,hk,hAk,qY];try simp (disch:=omega) only[Ao]) | refine Aw ?_ | (refine Bb ?_ ?_ ?_;(· (simp[qX,qV,hk,hAk,qY];done));(try (rotate_left;(· (intro hc;(try simp[qX,qV,hk,hAk,qY]at hc);done))))) | (refine AK ?_;simp[results321,qX,qV,hk,hAk,qY]) | ((first | refine AD ?_ | refine AC ?_);simp[qX,qV,hk,hAk,qY]) | (intro hc;(try simp[qX,qV,hk,hAk,qY]at hc);(try (exfalso;omega))) | (refine⟨?_,?_⟩; · omega) | omega | apply_assumption -exfalso -symm | (exfalso;omega)))
   have hpD:List.take (k-A) (List.drop A (List.map BS l))=(flat t).map BS:=by rw[<-List.map_drop,<-eM0,hpiece]
   have htm:List.take (i+1) (List.map dT ks)=List.take i (List.map dT ks)++[dT t]:=by rw[bD0,bK0,qH];rfl
   have zV:(1:Int)+((Av (List.take (i+1) ks)).length:Int)=(k:Int):=by omega
   refine Ag.mk ⟨i+1,by omega⟩ (Sub.lit (by simp[hpD,htm,zV,dT,BX])) (by simp;omega)
   skip
  | succ v =>
   have qW:k<l.length:=by
    rcases Nat.lt_or_ge k l.length with h | h
    ·exact h
    ·rw[cU0 h,Ku]at hw;simp at hw
   obtain⟨y,hy,wN,gG⟩:=Ai qW;rw[aP0 qW,wN,EO,if_pos (mQ y gG)]at hw;have vT:=Kg (mQ y gG);have hk9:=nR y gG;obtain⟨c,kJ⟩:∃c:Nat,y.n=(c:Int):=⟨y.n.toNat,by omega⟩;rw[kJ,cI0]at hw;have q1:IntKind.i64.wrap ((c:Int)-1)=(c:Int)-1:=wq;have q2:IntKind.i64.wrap ((v:Int)+1+((c:Int)-1))=(v:Int)+(c:Int):=by rw[wq];omega
   have q3:(0:Int)<(v:Int)+1:=by omega
   (repeat (first | refine AI fun K hK=> ?_ | (refine BR Gf mxd (by kernel_rfl) ?_;simp[Gf,qX,BS,qW,hy,wN,kJ,q1,q2,q3];try simp (disch:=omega) only[Ao]) | refine Aw ?_ | (refine Bb ?_ ?_ ?_;(· (simp[qX,BS,qW,hy,wN,kJ,q1,q2,q3];done));(try (rotate_left;(· (intro hc;(try simp[qX,BS,qW,hy,wN,kJ,q1,q2,q3]at hc);done))))) | (refine AK ?_;simp[results321,qX,BS,qW,hy,wN,kJ,q1,q2,q3]) | ((first | refine AD ?_ | refine AC ?_);simp[qX,BS,qW,hy,wN,kJ,q1,q2,q3]) | (intro hc;(try simp[qX,BS,qW,hy,wN,kJ,q1,q2,q3]at hc);(try (exfalso;omega))) | (refine⟨?_,?_⟩; · omega) | omega | apply_assumption -exfalso -symm | (exfalso;omega)))
   refine Ag.mk ⟨(k+1,v+c),show k+1<=l.length/\Gm (l.drop (k+1)) (v+c)=some r/\v+c<=1+(k+1)*1572864/\A<=k+1 from ⟨by omega,hw,by omega,by omega⟩⟩ (Sub.lit (by simp)) (by simp;omega)
   skip
 ·have qY:i=ks.length:=by omega
  subst qY;exact Al Aa Aa (Aq (@aN0.{0}))
def DH_ : Ann:=⟨[],[]⟩
theorem eI (k:Int):Ac prog 323 [.int .i64 k] (.str (sgn k)):=by
 refine Ab [] DH_ func323 call323 ntmps323 mxd (Ap @DH_.eq_1 results323) rfl (fun qJ B qX qQ=> ?_);simp only[Ak];have z0:(⟨#[]⟩:ByteArray).size=0:=rfl;have z1:(⟨#[42]⟩:ByteArray).size=1:=rfl;have z2:(⟨#[43]⟩:ByteArray).size=1:=rfl;have z3:(⟨#[63]⟩:ByteArray).size=1:=rfl;have m1:1<=maxLen:=by decide
 unfold sgn
 by_cases k6:k=6
 ·exact Al Aa Aa (EB z0 z1 z2 z3 m1 k6)
 by_cases k7:k=7
 ·exact Al Aa Aa (Ez z0 z1 z2 z3 m1 k6 k7)
 by_cases k8:k=8
 ·exact Al Aa Aa (Ji z0 z1 z2 z3 m1 k6 k7 k8)
 exact Al Aa Aa (Ji z0 z1 z2 z3 m1 k6 k7 k8)
theorem SQ_ {l:List Nat} {a:Nat} (h:a∈l):a<=l.sum:=by
 induction l with
 | nil=>simp at h
 | cons b l ih =>
  rw[dO0]
  rcases aL0.1 h with rfl | h
  ·omega
  ·have:=ih h;omega
theorem Yr {pk:Int} {ks:List RT} {i:Nat} {t:RT} (h:ks[i]? =some t):EA pk (ks.take (i+1))=EA pk (ks.take i)++[Mr pk t.x.k (DN t)]:=by
 rw[ED,ED,bD0,h,aX0];rfl
theorem Uv (pk:Int) (ks:List RT):(EA pk ks).length=ks.length:=by rw[ED,aJ0]
theorem RP (t:RT):(flat t)[0]? =some t.x:=by cases t;rfl
theorem FE {ks:List RT} {t:RT} (h:t∈ks):(flat t).length<=(Av ks).length:=by
 induction ks with
 | nil=>simp at h
 | cons u ks ih =>
  rw[AH,aC0]
  rcases aL0.1 h with rfl | h
  ·omega
  ·have:=ih h;omega
def QP : Ann:=⟨[],[⟨1,[3],[],[]⟩]⟩
theorem Pl : ∀(n:Nat) (t:RT),(flat t).length=n->FU t=true->(flat t).length<=1572864->Ac prog 263 [Bl (flat t)] (.str (DN t)):=by
 intro n
 induction n using Nat.strongRecOn with
 | ind n ih =>
 intro t hn ht hs;obtain⟨x,ks⟩:=t;have kk:=AX_ x ks ht hs;obtain⟨hm,hkn,qL⟩:=CV ht;have qM:=(JT _ ht);have h0:=RP (.mk x ks);have wI:0<(flat (.mk x ks)).length:=IL _;have vC:(flat (.mk x ks)).length=(Av ks).length+1:=by rw[Bc,List.length_cons]
 have jY:=Di ks
 have fJ:∀u∈ks,Ac prog 263 [Bl (flat u)] (.str (DN u)):=fun u hu=>by
  have:=FE hu;exact ih (flat u).length (by omega) u rfl (TN qL u hu) (by omega)
 have hsj:=Ni x.k ks qL
 have hparts:∀y∈EA x.k ks,1<=y.size/\y.size<=67108864:=fun y hy=>by
  refine⟨hsj.2 y hy,?_⟩;have:y.size+3<=((EA x.k ks).map fun y=>y.size+3).sum:=SQ_ (aU0.2 ⟨y,hy,rfl⟩);omega
 have kj:=LA_ (EA x.k ks) (Qv x.k) (KA _) (by rw[Uv];omega) hparts;have kg:=eI x.k;have mK:=Lj (EA x.k ks) (Qv x.k) (KA _);have hgs:=xF x.k;rw[TF];have kS:((EA x.k ks).map fun y=>y.size+3).sum<=37748736:=by omega
 clear ih hn qM;obtain⟨l,hl⟩:∃l,l=flat (.mk x ks):=⟨_,rfl⟩;rw[<-hl]at kk h0 wI |-;have zI:l[0]'wI=x:=(aB0.1 h0).2;have z0:(⟨#[]⟩:ByteArray).size=0:=rfl;have z1:(⟨#[37]⟩:ByteArray).size=1:=rfl;have z2:(⟨#[32]⟩:ByteArray).size=1:=rfl;have z3:(⟨#[32,124,32]⟩:ByteArray).size=3:=rfl;have z4:(⟨#[40]⟩:ByteArray).size=1:=rfl;have z5:(⟨#[41]⟩:ByteArray).size=1:=rfl;have m1:1<=maxLen:=by decide
 have m3:3<=maxLen:=by decide
 refine Ab [] QP func263 call263 ntmps263 mxd (Ap @QP.eq_1 results263) rfl (fun qJ B qX qQ=> ?_);clear qJ;simp only[Ak];obtain⟨b,hb⟩:∃b,b=Qv x.k:=⟨_,rfl⟩;have hbz:b=Qv x.k:=hb;rw[<-hb]at kj |-;unfold Qv at hb
 rcases Nx hm with k | k | k | k | k | k | k | k
 ·exact Al (Aq kk) Aa (Ji @BS.eq_1 h0 zI wI z0 z1 m1 k)
 ·exact Al (Aq kk) Aa (Ji @BS.eq_1 h0 zI wI z0 z1 m1 k)
 ·exact Al (Aq kk) Aa (Ji @BS.eq_1 h0 zI wI z0 z1 m1 k)
 all_goals
  have k1:¬x.k=1:=by omega
  have k2:¬(x.k=2\/x.k=3):=by omega
  rw[if_neg k1,if_neg k2];have qP:=hb;simp only[k]at qP
  try simp at qP
  (refine Au (Aq kk) Aa (Hm @BS.eq_1 h0 zI wI z0 z1 z2 z3 m1 m3 k) ?_;intros;refine Ae ?_)
  refine Bk 5 50 9 1 16 (by simp[qX,results263,QP]) (fun n=> ?_);refine Af (X:={i:Nat//i<=ks.length}) (fun i=>⟨[(3,.ref [.int .i64 x.k,.str x.s,.int .i64 x.n]),(4,.str b),(5,.osl 50 1),(26,dTs ks),(27,.int .i64 ks.length),(28,.int .i64 i.1)],[⟨50,1,.row 9 1 16 ((EA x.k (ks.take i.1)).map AG)⟩]⟩) (fun i=>ks.length-i.1) ⟨0,by omega⟩ (Sub.lit (by simp[k,qP,Pj])) ?_;clear hb qP k kk;rintro⟨i,hi⟩;simp only
  by_cases qV:i<ks.length
  ·obtain⟨u,hu,zL,hum⟩:=Ai qV;have ku:=fJ u hum;have g0:=RP u;have gl:0<(flat u).length:=IL u;have zF:=JT u (TN qL u hum);have cH:=FE hum;have qH:=Yr (pk:=x.k) hu;have yN:Mr x.k u.x.k (DN u)=if NV_ x.k u.x.k then ⟨#[40]⟩++DN u++⟨#[41]⟩else DN u:=rfl
   unfold NV_ at yN;obtain⟨m,bO⟩:∃m,m=flat u:=⟨_,rfl⟩;have tU:flat u=m:=bO.symm;rw[<-bO]at ku g0 gl zF cH;obtain⟨s,vM⟩:∃s,s=DN u:=⟨_,rfl⟩;rw[<-vM]at ku zF yN qH;have g0':m[0]'gl=u.x:=(aB0.1 g0).2;obtain⟨P,hP⟩:∃P,P=Mr x.k u.x.k s:=⟨_,rfl⟩;rw[<-hP]at yN qH;have zD:(EA x.k (ks.take i)).length=i:=by rw[Uv,aT0];omega
   obtain⟨T,hT⟩:∃T,T=EA x.k (ks.take i):=⟨_,rfl⟩;rw[<-hT]at qH zD |-;have y1:(i+1)*16<=150000000000000:=by omega
   have y2:i+1<=9223372036854775807:=by omega
   have y3:1+s.size<=maxLen:=by unfold maxLen;omega
   have y4:1+s.size+1<=maxLen:=by unfold maxLen;omega
   by_cases p5:u.x.k=5
   ·simp[p5]at yN
    (refine Au (Aq ku) Aa (Ap (HT @dT.eq_1 @BS.eq_1 tU qV hu zL g0 g0' gl p5 y1 y2 y3 y4 z4 z5) (BC m1 zD @aO0)) ?_;intros;refine Ae ?_)
    refine Ag.mk ⟨i+1,by omega⟩ (Sub.lit (by simp[qH,yN,AG])) (by simp;omega)
    skip
   ·have p5':(u.x.k==5)=false:=by simpa using p5
    by_cases p4:u.x.k=4
    ·by_cases q5:x.k=5
     ·simp[p4,q5]at yN
      (refine Au (Aq ku) Aa (Ap (HT @dT.eq_1 @BS.eq_1 tU qV hu zL g0 g0' gl p4 p5 p5' q5 y1 y2 y3) (EB y4 z4 z5 m1 zD @aO0)) ?_;intros;refine Ae ?_)
      have htk5:=qH;rw[q5]at htk5;refine Ag.mk ⟨i+1,by omega⟩ (Sub.lit (by simp[htk5,yN,AG,q5])) (by simp;omega)
      skip
     ·have q5':(x.k==5)=false:=by simpa using q5
      simp[p4,q5]at yN
      (refine Au (Aq ku) Aa (Ap (HT @dT.eq_1 @BS.eq_1 tU qV hu zL g0 g0' gl p4 p5 p5' q5 q5' y1 y2) (Ez y3 y4 z4 z5 m1 zD @aO0)) ?_;intros;refine Ae ?_)
      refine Ag.mk ⟨i+1,by omega⟩ (Sub.lit (by simp[qH,yN,AG])) (by simp;omega)
      skip
    ·have p4':(u.x.k==4)=false:=by simpa using p4
     simp[p4,p5]at yN
     (refine Au (Aq ku) Aa (Ap (HT @dT.eq_1 @BS.eq_1 tU qV hu zL g0 g0' gl p4 p4' p5 p5' y1 y2 y3) (EB y4 z4 z5 m1 zD @aO0)) ?_;intros;refine Ae ?_)
     refine Ag.mk ⟨i+1,by omega⟩ (Sub.lit (by simp[qH,yN,AG])) (by simp;omega)
     skip
  ·have qY:i=ks.length:=by omega
   subst qY;rw[aN0];obtain⟨J,hJ⟩:∃J,J=HB (EA x.k ks) b:=⟨_,rfl⟩;have hJs:J.size<=37748736:=by rw[hJ];exact Nat.le_trans (Lj _ _ (by rw[hbz];exact KA _)) kS
   rw[<-hJ]at kj |-;have y5:J.size+(sgn x.k).size<=maxLen:=by unfold maxLen;omega
   refine Fw (Sub.freezeL [50] _) ?_;simp[qX,results263,QP];exact Al (Ap kj kg) Aa (Aq y5)
def Em (t:RT):Int:=if 16<LS t then 171 else if 2048<(DN t).size then 174 else 0
def DI_ : Ann:=⟨[],[]⟩
theorem WZ (t:RT) (ht:FU t=true) (hs:(flat t).length<=1572864):Ac prog 182 [Bl (flat t)] (.int .i64 (Em t)):=by
 refine Ab [] DI_ func182 call182 ntmps182 mxd (Ap @DI_.eq_1 results182) rfl (fun qJ B qX qQ=> ?_);clear qJ;simp only[Ak];have k1:=MI t ht hs;have k2:=Pl _ t rfl ht hs;unfold Em;obtain⟨T,hT⟩:∃T,T=DN t:=⟨_,rfl⟩;rw[<-hT]at k2 |-
 by_cases c1:16<LS t
 ·have d1:(16:Int)<(LS t:Int):=by omega
  exact Al (Ap k1 k2) Aa (Ap c1 d1)
 ·have d1:¬(16:Int)<(LS t:Int):=by omega
  by_cases c2:2048<T.size
  ·have d2:(2048:Int)<(T.size:Int):=by omega
   exact Al (Ap k1 k2) Aa (CG c1 d1 c2 d2)
  ·have d2:¬(2048:Int)<(T.size:Int):=by omega
   exact Al (Ap k1 k2) Aa (CG c1 d1 c2 d2)
def KM : Ann:=⟨[],[]⟩
theorem Qq (t:RT) (ht:FU t=true) (h:(flat t).length<=2048):Ac prog 101 [Bl (flat t)] (.int .i64 (Em t)):=by
 refine Ab [] KM func101 call101 ntmps101 mxd (Ap @KM.eq_1 results101) rfl (fun qJ B qX qQ=> ?_);clear qJ;simp only[Ak];have k1:=HH (flat t) (by omega);rw[Gw ht]at k1;have k2:=WZ t ht (by omega);have d1:¬(2048:Int)<((flat t).length:Int):=by omega
 have d2:¬2048<(flat t).length:=by omega
 exact Al (Ap k1 k2) Aa (Ap d1 d2)
theorem Qr (l:List Nd) (h:2048<l.length):Ac prog 101 [Bl l] (.int .i64 3):=by
 refine Ab [] KM func101 call101 ntmps101 mxd (Ap @KM.eq_1 results101) rfl (fun qJ B qX qQ=> ?_);clear qJ;simp only[Ak];have d1:(2048:Int)<(l.length:Int):=by omega
 exact Al Aa Aa (Ap d1 h)
theorem BR_ (l:List Nd) (h:l.length<=2048) (hw:Ei l=false):Ac prog 101 [Bl l] (.int .i64 170):=by
 refine Ab [] KM func101 call101 ntmps101 mxd (Ap @KM.eq_1 results101) rfl (fun qJ B qX qQ=> ?_);clear qJ;simp only[Ak];have k1:=HH l (by omega);rw[hw]at k1;have d1:¬(2048:Int)<(l.length:Int):=by omega
 have d2:¬2048<l.length:=by omega
 exact Al (Aq k1) Aa (Ap d1 d2)
def QR : Ann:=⟨[],[]⟩
theorem Ox (t:RT) (ht:FU t=true) (hs:(flat t).length<=1572864):Ac prog 232 [Bl (flat t)] (.int .i64 (LS t)):=by
 refine Ab [] QR func232 call232 ntmps232 mxd (Ap @QR.eq_1 results232) rfl (fun qJ B qX qQ=> ?_);clear qJ;simp only[Ak];have k1:=HH (flat t) hs;rw[Gw ht]at k1;have k2:=MI t ht hs;exact Al (Ap k1 k2) Aa Aa
theorem lS (l:List Nd) (hs:l.length<=1572864) (hw:Ei l=false):Ac prog 232 [Bl l] (.int .i64 0):=by
 refine Ab [] QR func232 call232 ntmps232 mxd (Ap @QR.eq_1 results232) rfl (fun qJ B qX qQ=> ?_);clear qJ;simp only[Ak];have k1:=HH l hs;rw[hw]at k1;exact Al (Aq k1) Aa Aa
structure At (l:List Nd) (p:Nat) (t:RT):Prop where
 ok:FU t=true
 le:p<=l.length
 eq:∃r,l.drop p=flat t++r
def Be (p:Nat) (ks:List RT) (i:Nat):Nat:=p+1+(Av (ks.take i)).length
def Kk (n:Nat):List DVal:=[.int .i64 (n:Int)]
def MC (p:Nat) (ks:List RT):DVal:= .sl 1 8 ((List.range ks.length).map fun i=>Kk (Be p ks i))
@[simp] theorem Rh_ (n:Nat):AV (Kk n)=0:=by simp[Kk,AV,mx]
@[simp] theorem Jq (p:Nat) (ks:List RT) (n:Nat):BK ((List.range n).map fun i=>Kk (Be p ks i))=0:=Jb (fun i=>Kk (Be p ks i)) (fun i=>Rh_ _) _
theorem At.top {t:RT} (h:FU t=true):At (flat t) 0 t:=⟨h,by omega,[],by simp⟩
theorem At.kid {l:List Nd} {p:Nat} {x:Nd} {ks:List RT} (h:At l p (.mk x ks)) {i:Nat} {u:RT} (hu:ks[i]? =some u):At l (Be p ks i) u/\Gm (l.drop (Be p ks i)) 1=some (l.drop (Be p ks (i+1)))/\Be p ks (i+1)<=l.length:=by
 obtain⟨qL,vS,r,hr⟩:=h;obtain⟨_,_,h3⟩:=CV qL;obtain⟨hi,rfl⟩:=aB0.1 hu;have qZ:(l.drop p).length=1+(Av ks).length+r.length:=by rw[hr,Bc,aC0,List.length_cons];omega
 rw[cD0]at qZ;have gE:=MM ks i;have hdr:=aP0 hi;have vE:=OU (ks:=ks) hu;have vC:(Av ks).length=(Av (ks.take i)).length+((flat ks[i]).length+(Av (ks.drop (i+1))).length):=by rw[gE,aC0,hdr,AH,aC0]
 have jD:l.drop (Be p ks i)=flat ks[i]++(Av (ks.drop (i+1))++r):=by
  unfold Be;rw[dA0,<-fL0,hr,Bc,Nat.add_comm 1,List.cons_append,eF0,gE,aR0,eI0 (Nat.le_refl _),bE0,List.nil_append,hdr,AH,aR0]
 have hoku:FU ks[i]=true:=TN h3 _ (cY0 hi);refine⟨⟨hoku,by unfold Be;omega,_,jD⟩,?_,by unfold Be;omega⟩;rw[jD,Ib _ _ 0 hoku,Dj]
 congr 1
 have h5:Be p ks (i+1)=Be p ks i+(flat ks[i]).length:=by unfold Be;omega
 have h6:l.drop (Be p ks i+(flat ks[i]).length)=(l.drop (Be p ks i)).drop (flat ks[i]).length:=by rw[fL0]
 rw[h5,h6,jD,eI0 (Nat.le_refl _),bE0,List.nil_append]
theorem At.head {l:List Nd} {p:Nat} {t:RT} (h:At l p t):l[p]? =some t.x/\p<l.length/\p+(flat t).length<=l.length:=by
 obtain⟨qL,vS,r,hr⟩:=h;have h1:=IL t;have h2:=congrArg List.length hr;rw[cD0,aC0]at h2;refine⟨?_,by omega,by omega⟩;have h3:(l.drop p)[0]? =some t.x:=by rw[hr,bC0 (by omega)];exact RP t
 rw[dB0]at h3;simpa using h3
def Xp : Ann:=⟨[],[]⟩
theorem FB (l:List Nd) (p:Nat) (x:Nd) (ks:List RT) (h:At l p (.mk x ks)) (hs:l.length<=1572864):Ac prog 205 [Bl l,.int .i64 p] (MC p ks):=by
 refine Ab [50] Xp func205 call205 ntmps205 mxd (Ap @Xp.eq_1 results205) rfl (fun qJ B qX qQ=> ?_) (hd:=(by simp[mx,MC]));clear qJ;simp only[Ak];obtain⟨hm,hn,qL⟩:=CV h.ok;obtain⟨g0,gl,ge⟩:=h.head;have g0':l[p]'gl=x:=(aB0.1 g0).2;have jY:ks.length<=1572864:=by have:=Di ks;rw[Bc,List.length_cons]at ge;omega
 simp only[RT.x]at g0;unfold MC
 (refine Au Aa Aa Aa ?_;intros;refine Ae ?_)
 refine Bk 5 50 3 1 8 (by simp[qX,results205,Xp]) (fun n=> ?_);refine Af (X:={i:Nat//i<=ks.length}) (fun i=>⟨[(0,Bl l),(1,.int .i64 p),(5,.osl 50 1),(6,.int .i64 (Be p ks i.1)),(7,.int .i64 i.1)],[⟨50,1,.row 3 1 8 ((List.range i.1).map fun i=>Kk (Be p ks i))⟩]⟩) (fun i=>ks.length-i.1) ⟨0,by omega⟩ (Sub.lit (by simp[Be,Av])) ?_;rintro⟨i,hi⟩;simp only
 by_cases qV:i<ks.length
 ·obtain⟨u,hu,zL,_⟩:=Ai qV;obtain⟨a1,a2,a3⟩:=h.kid hu;have e1:=MS l (Be p ks i) hs a1.le;unfold GM_ at e1;rw[a2]at e1;simp only[cD0]at e1;have hq:(l.length:Int)-((l.length-Be p ks (i+1):Nat):Int)=(Be p ks (i+1):Int):=by omega
  rw[hq]at e1;have hr:(List.range (i+1)).map (fun i=>Kk (Be p ks i))=(List.range i).map (fun i=>Kk (Be p ks i))++[Kk (Be p ks i)]:=by rw[dE0,aX0];rfl
  have z1:(i+1)*8<=150000000000000:=by omega
  have z2:i+1<=9223372036854775807:=by omega
  obtain⟨q,hqq⟩:∃q,q=Be p ks i:=⟨_,rfl⟩;obtain⟨q',hqq'⟩:∃q',q'=Be p ks (i+1):=⟨_,rfl⟩;rw[<-hqq,<-hqq']at e1;rw[<-hqq]at hr |-;have vL:=Jq p ks i;have wL:((List.range i).map fun i=>Kk (Be p ks i)).length=i:=by simp
  obtain⟨D,hD⟩:∃D,D=(List.range i).map fun i=>Kk (Be p ks i):=⟨_,rfl⟩
  rw[<-hD]at hr vL wL |-;have zS:(List.range (i+1)).map (fun i=>Kk (Be p ks i))=D++[[.int .i64 (q:Int)]]:=hr;clear hD hr
  (refine Au (Aq e1) Aa (OD @BS.eq_1 g0 g0' gl hn qV z1 z2 wL) ?_;intros;refine Ae ?_)
  refine Ag.mk ⟨i+1,by omega⟩ (Sub.lit (by simp only[<-hqq',zS];simp[vL,BX])) (by simp;omega)
  skip
 ·have qY:i=ks.length:=by omega
  subst qY;exact Al Aa Aa (Dx @BS.eq_1 g0 g0' gl hn)
theorem Be_ : ∀(a:List RT) (u:RT),Ye (a++[u])=max (Ye a) (LS u)
 | [],u=>by rw[List.nil_append,Kn,PY];omega
 | t::a,u=>by rw[List.cons_append,Kn,Be_ a u,Kn];omega
theorem OU_ {ks:List RT} {i:Nat} {u:RT} (h:ks[i]? =some u):Ye (ks.take (i+1))=max (Ye (ks.take i)) (LS u):=by
 rw[bD0,h];exact Be_ _ _
mutual
theorem SS_ : ∀t:RT,LS t<=(flat t).length
 | .mk x ks=>by rw[lP,Bc,List.length_cons];have:=Gy_ ks;omega
theorem Gy_ : ∀ts:List RT,Ye ts<=(Av ts).length
 | []=>by rw[PY];omega
 | t::ts=>by rw[Kn,AH,aC0];have:=SS_ t;have:=Gy_ ts;omega
end
theorem Yf (ks:List RT) (i:Nat):(Av (ks.take i)).length<=(Av ks).length:=by
 have:=congrArg List.length (MM ks i);rw[aC0]at this;omega
theorem IC {p:Nat} {ks:List RT} {i:Nat} (h:i<ks.length):((List.range ks.length).map fun i=>Kk (Be p ks i))[i]? =some [.int .i64 (Be p ks i:Int)]:=by
 rw[bK0,eE0 h];rfl
def Dz_ : Ann:=⟨[],[]⟩
theorem MH : ∀(n:Nat) (t:RT) (l:List Nd) (p:Nat),(flat t).length=n->At l p t->l.length<=1572864->Ac prog 204 [Bl l,.int .i64 p] (.int .i64 (LS t)):=by
 intro n
 induction n using Nat.strongRecOn with
 | ind n ih =>
 intro t l p hn ht hs;obtain⟨x,ks⟩:=t;have kk:=FB l p x ks ht hs;obtain⟨g0,gl,ge⟩:=ht.head;have vC:(flat (.mk x ks)).length=(Av ks).length+1:=by rw[Bc,List.length_cons]
 have jY:=Di ks;have hk9:ks.length<=1572864:=by omega
 have fJ:∀i u,ks[i]? =some u->Ac prog 204 [Bl l,.int .i64 (Be p ks i)] (.int .i64 (LS u)):=fun i u hu=>by
  have hm:=FE (bI0 hu);exact ih (flat u).length (by omega) u l _ rfl (ht.kid hu).1 hs
 have qT:∀i,i<ks.length->_:=fun i h=>IC (p:=p) (ks:=ks) (i:=i) h
 have hht:Ye ks<=1572864:=by have:=Gy_ ks;omega
 rw[lP];unfold MC at kk;obtain⟨D,hD⟩:∃D,D=(List.range ks.length).map fun i=>Kk (Be p ks i):=⟨_,rfl⟩
 have wL:D.length=ks.length:=by rw[hD];simp
 have vL:BK D=0:=by rw[hD];exact Jq p ks _
 rw[<-hD]at kk qT;clear hD ih ht g0 gl ge hn;refine Ab [] Dz_ func204 call204 ntmps204 mxd (Ap @Dz_.eq_1 results204) rfl (fun qJ B qX qQ=> ?_);clear qJ;simp only[Ak]
 (refine Au (Aq kk) Aa Aa ?_;intros;refine Ae ?_)
 refine Af (X:={i:Nat//i<=ks.length}) (fun i=>⟨[(0,Bl l),(5,.int .i64 (Ye (ks.take i.1))),(6,.sl 1 8 D),(7,.int .i64 i.1)],[]⟩) (fun i=>ks.length-i.1) ⟨0,by omega⟩ (Sub.lit (by simp[PY,vL])) ?_;rintro⟨i,hi⟩;simp only
 by_cases qV:i<ks.length
 ·obtain⟨u,hu,zL,_⟩:=Ai qV;have e1:=fJ i u hu;have hr:=qT i qV;have qN:i<D.length:=by omega
  have vJ:IntKind.i64.wrap ((i:Int)+1)=(i:Int)+1:=wq;have qC:D[i]'qN=[.int .i64 (Be p ks i:Int)]:=(aB0.1 hr).2;have qH:=OU_ hu;obtain⟨a,ha⟩:∃a,a=Ye (ks.take i):=⟨_,rfl⟩;obtain⟨c,wU⟩:∃c,c=LS u:=⟨_,rfl⟩;rw[<-ha,<-wU]at qH;rw[<-wU]at e1;rw[<-ha];obtain⟨q,hq⟩:∃q,q=Be p ks i:=⟨_,rfl⟩;rw[<-hq]at e1 hr qC
  by_cases hgt:a<c
  ·have hgt':(a:Int)<(c:Int):=by omega
   have zE:((Ye (ks.take (i+1)):Nat):Int)=(c:Int):=by omega
   (refine Au (Aq e1) Aa (Ji wL qN vJ hr qC hgt hgt' qV) ?_;intros;refine Ae ?_)
   refine Ag.mk ⟨i+1,by omega⟩ (Sub.lit (by simp only[zE];simp[vL])) (by simp;omega)
   skip
  ·have hgt':¬(a:Int)<(c:Int):=by omega
   have zE:((Ye (ks.take (i+1)):Nat):Int)=(a:Int):=by omega
   (refine Au (Aq e1) Aa (Ji wL qN vJ hr qC hgt hgt' qV) ?_;intros;refine Ae ?_)
   refine Ag.mk ⟨i+1,by omega⟩ (Sub.lit (by simp only[zE];simp[vL])) (by simp;omega)
   skip
 ·have qY:i=ks.length:=by omega
  subst qY;rw[aN0];have q1:IntKind.i64.wrap ((Ye ks:Int)+1)=(Ye ks:Int)+1:=wq;exact Al Aa Aa (Ap wL q1)
theorem PX_ {α:Type} {f:α->Bool} {l:List α} {i:Nat} {u:α} (h:l[i]? =some u):(l.take (i+1)).any f=((l.take i).any f||f u):=by
 rw[bD0,h,dU0];simp
theorem Qg_ {α:Type} {f:α->Bool} {l:List α} {i:Nat} {u:α} (h:l[i]? =some u):(l.take (i+1)).all f=((l.take i).all f&&f u):=by
 rw[bD0,h,fE0];simp
def DA_ : Ann:=⟨[],[]⟩
theorem HQ : ∀(n:Nat) (t:RT) (l:List Nd) (p:Nat),(flat t).length=n->At l p t->l.length<=1572864->Ac prog 142 [Bl l,.int .i64 p] (.bool (CC t)):=by
 intro n
 induction n using Nat.strongRecOn with
 | ind n ih =>
 intro t l p hn ht hs;obtain⟨x,ks⟩:=t;have kk:=FB l p x ks ht hs;have hm:=(CV ht.ok).1;obtain⟨g0,gl,ge⟩:=ht.head;simp only[RT.x]at g0;have g0':l[p]'gl=x:=(aB0.1 g0).2;have vC:(flat (.mk x ks)).length=(Av ks).length+1:=by rw[Bc,List.length_cons]
 have jY:=Di ks;have hk9:ks.length<=1572864:=by omega
 have fJ:∀i u,ks[i]? =some u->Ac prog 142 [Bl l,.int .i64 (Be p ks i)] (.bool (CC u)):=fun i u hu=>by
  have hm:=FE (bI0 hu);exact ih (flat u).length (by omega) u l _ rfl (ht.kid hu).1 hs
 have qT:∀i,i<ks.length->_:=fun i h=>IC (p:=p) (ks:=ks) (i:=i) h
 rw[oH,QC,QY];unfold MC at kk;obtain⟨D,hD⟩:∃D,D=(List.range ks.length).map fun i=>Kk (Be p ks i):=⟨_,rfl⟩
 have wL:D.length=ks.length:=by rw[hD];simp
 have vL:BK D=0:=by rw[hD];exact Jq p ks _
 rw[<-hD]at kk qT;clear hD ih ht ge hn;refine Ab [] DA_ func142 call142 ntmps142 mxd (Ap @DA_.eq_1 results142) rfl (fun qJ B qX qQ=> ?_);clear qJ;simp only[Ak]
 (refine Au (Aq kk) Aa (CG @BS.eq_1 g0 g0' gl) ?_;intros;refine Ae ?_)
 refine Af (X:={i:Nat//i<=ks.length}) (fun i=>⟨[(0,Bl l),(5,.int .i64 x.k),(6,.sl 1 8 D),(7,.bool ((ks.take i.1).any CC)),(8,.bool ((ks.take i.1).all CC)),(9,.int .i64 i.1)],[]⟩) (fun i=>ks.length-i.1) ⟨0,by omega⟩ (Sub.lit (by simp[vL])) ?_;rintro⟨i,hi⟩;simp only
 by_cases qV:i<ks.length
 ·obtain⟨u,hu,zL,_⟩:=Ai qV;have e1:=fJ i u hu;have hr:=qT i qV;have qN:i<D.length:=by omega
  have vJ:IntKind.i64.wrap ((i:Int)+1)=(i:Int)+1:=wq;have qC:D[i]'qN=[.int .i64 (Be p ks i:Int)]:=(aB0.1 hr).2;have h1:=PX_ (f:=CC) hu;have h2:=Qg_ (f:=CC) hu;obtain⟨a,ha⟩:∃a,a=(ks.take i).any CC:=⟨_,rfl⟩;obtain⟨b,hb⟩:∃b,b=(ks.take i).all CC:=⟨_,rfl⟩;rw[<-ha]at h1;rw[<-hb]at h2;rw[<-ha,<-hb];obtain⟨q,hq⟩:∃q,q=Be p ks i:=⟨_,rfl⟩;rw[<-hq]at e1 hr qC
  (refine Au (Aq e1) Aa (EB wL qN vJ hr qC qV) ?_;intros;refine Ae ?_)
  refine Ag.mk ⟨i+1,by omega⟩ (Sub.lit (by simp only[h1,h2];simp[vL])) (by simp;omega)
  skip
 ·have qY:i=ks.length:=by omega
  subst qY;rw[aN0]
  rcases Nx hm with k | k | k | k | k | k | k | k<;>exact Al Aa Aa (Ap wL k)
theorem Oa_ {ks:List RT} (h:HA ks=true) (i:Nat):HA (ks.take i)=true:=by
 have:=TO (ks.take i) (ks.drop i);rw[List.take_append_drop,h]at this;simpa using (by simpa using this.symm:HA (ks.take i)=true/\HA (ks.drop i)=true).1
def Oc (x:Nd) (ks:List RT) (i:Nat):ByteArray:=if i=0 then x.s else HB (EA x.k (ks.take i)) (Qv x.k)
theorem Sm (x:Nd) (ks:List RT):Oc x ks 0=x.s:=rfl
theorem Qo_ {x:Nd} {ks:List RT} {u:RT} (h:ks[0]? =some u):Oc x ks 1=Mr x.k u.x.k (DN u):=by
 unfold Oc;rw[if_neg (by omega),show ks.take 1=[u] by rw[bD0,h];simp,HU,Pj];rfl
theorem MC_ {x:Nd} {ks:List RT} {i:Nat} {u:RT} (hi:0<i) (h:ks[i]? =some u):Oc x ks (i+1)=Oc x ks i++Qv x.k++Mr x.k u.x.k (DN u):=by
 unfold Oc;rw[if_neg (by omega),if_neg (by omega),Yr h];obtain⟨hl,_⟩:=aB0.1 h
 have qK:EA x.k (ks.take i)≠[]:=fun e=>by
  have:=congrArg List.length e;rw[Uv,aT0]at this;simp only[List.length_nil]at this;omega
 cases hx:EA x.k (ks.take i)with
 | nil=>exact absurd hx qK
 | cons y r =>
  show (r++[_]).foldl (Es (Qv x.k)) y=_
  rw[cH0];rfl
theorem MD_ {x:Nd} {ks:List RT} (qL:HA ks=true) (hs:x.s.size<=16) (i:Nat):(Oc x ks i).size<=16+24*(Av ks).length:=by
 unfold Oc
 split
 ·omega
 ·have h1:=Lj (EA x.k (ks.take i)) (Qv x.k) (KA _);have h2:=(Ni x.k (ks.take i) (Oa_ qL i)).1;have h3:=Yf ks i;omega
theorem RA_ {x:Nd} (h:Fe x=true) (h2:¬(x.k=2\/x.k=3)):x.s=⟨#[]⟩:=by
 unfold Fe emp at h;rw[if_neg (fun e=>h2 (.inl e)),if_neg (fun e=>h2 (.inr e))]at h
 repeat' split at h
 all_goals simp only[aM0,decide_eq_true_eq,aK0]at h
 all_goals first | exact h.1 | (exact absurd h (by simp))
theorem Yz (x:ByteArray):x++(⟨#[]⟩:ByteArray)=x:=by
 apply Ic
 simp[eZ0]
def Dw_ : Ann:=⟨[],[]⟩
theorem Sp : ∀(n:Nat) (t:RT) (l:List Nd) (p:Nat),(flat t).length=n->At l p t->l.length<=1572864->Ac prog 135 [Bl l,.int .i64 p] (.str (DN t)):=by
 intro n
 induction n using Nat.strongRecOn with
 | ind n ih =>
 intro t l p hn ht hs;obtain⟨x,ks⟩:=t;have kk:=FB l p x ks ht hs;obtain⟨hm,hkn,qL⟩:=CV ht.ok;obtain⟨g0,gl,ge⟩:=ht.head;simp only[RT.x]at g0;have g0':l[p]'gl=x:=(aB0.1 g0).2;have vC:(flat (.mk x ks)).length=(Av ks).length+1:=by rw[Bc,List.length_cons]
 have jY:=Di ks;have hk9:ks.length<=1572864:=by omega
 have fJ:∀i u,ks[i]? =some u->Ac prog 135 [Bl l,.int .i64 (Be p ks i)] (.str (DN u))/\l[Be p ks i]? =some u.x/\(DN u).size<=37748736:=fun i u hu=>by
  have hm:=FE (bI0 hu);have hu2:=(ht.kid hu).1;have h3:=(JT u hu2.ok).2;exact⟨ih (flat u).length (by omega) u l _ rfl hu2 hs,hu2.head.1,by omega⟩
 have qT:∀i,i<ks.length->_:=fun i h=>IC (p:=p) (ks:=ks) (i:=i) h
 have hacs:=MD_ (x:=x) qL (Rx hm);have mG:=Rx hm;have kS:16+24*(Av ks).length<=37748756:=by omega
 rw[TF];unfold MC at kk;obtain⟨D,hD⟩:∃D,D=(List.range ks.length).map fun i=>Kk (Be p ks i):=⟨_,rfl⟩
 have wL:D.length=ks.length:=by rw[hD];simp
 have vL:BK D=0:=by rw[hD];exact Jq p ks _
 rw[<-hD]at kk qT;have h6:x.k=6\/x.k=7\/x.k=8->ks.length=1:=fun h=>by obtain⟨u,rfl⟩:=TL ht.ok h;rfl
 have h8:¬x.k=1->¬(x.k=2\/x.k=3)->¬x.k=5->x.k=4\/x.k=6\/x.k=7\/x.k=8:=fun a b c=>by have:=Nx hm;omega
 have hlf:x.k=2\/x.k=3->ks.length=0:=fun h=>by rw[MA ht.ok h];rfl
 have kU:¬x.k=1->¬(x.k=2\/x.k=3)->1<=ks.length:=fun a b=>by have:=Ry hm a b;omega
 have hemp:¬(x.k=2\/x.k=3)->x.s=⟨#[]⟩:=RA_ hm;clear hD ih ht ge hn qL hm;have z0:(⟨#[]⟩:ByteArray).size=0:=rfl;have z1:(⟨#[37]⟩:ByteArray).size=1:=rfl;have z2:(⟨#[32]⟩:ByteArray).size=1:=rfl;have z3:(⟨#[32,124,32]⟩:ByteArray).size=3:=rfl;have z4:(⟨#[40]⟩:ByteArray).size=1:=rfl;have z5:(⟨#[41]⟩:ByteArray).size=1:=rfl;have z6:(⟨#[42]⟩:ByteArray).size=1:=rfl;have z7:(⟨#[43]⟩:ByteArray).size=1:=rfl;have z8:(⟨#[63]⟩:ByteArray).size=1:=rfl
 have m1:1<=maxLen:=by decide
 have m3:3<=maxLen:=by decide
 have mbig:100000000<=maxLen:=by decide
 refine Ab [] Dw_ func135 call135 ntmps135 mxd (Ap @Dw_.eq_1 results135) rfl (fun qJ B qX qQ=> ?_);clear qJ;simp only[Ak]
 by_cases k1:x.k=1
 ·rw[if_pos k1];exact Al Aa Aa (Ez @BS.eq_1 g0 g0' gl z1 m1 k1)
 rw[if_neg k1];obtain⟨R,hR⟩:∃R,R=(if x.k=2\/x.k=3 then x.s else HB (EA x.k ks) (Qv x.k)++sgn x.k):=⟨_,rfl⟩;rw[<-hR];have k1':(x.k==1)=false:=by simpa using k1
 (refine Au (Aq kk) Aa (EB @BS.eq_1 g0 g0' gl k1 k1') ?_;intros;refine Ae ?_)
 refine Af (X:={i:Nat//i<=ks.length}) (fun i=>⟨[(0,Bl l),(5,.int .i64 x.k),(6,.str (Oc x ks i.1)),(7,.sl 1 8 D),(8,.int .i64 i.1)],[]⟩) (fun i=>ks.length-i.1) ⟨0,by omega⟩ (Sub.lit (by simp[Sm,vL])) ?_;rintro⟨i,hi⟩;simp only
 by_cases qV:i<ks.length
 ·have k2:¬(x.k=2\/x.k=3):=fun h=>by have:=hlf h;omega
  have hx0:=hemp k2;obtain⟨u,hu,zL,_⟩:=Ai qV;obtain⟨e1,gu,zF⟩:=fJ i u hu;have hr:=qT i qV;have qN:i<D.length:=by omega
  have vJ:IntKind.i64.wrap ((i:Int)+1)=(i:Int)+1:=wq;have qC:D[i]'qN=[.int .i64 (Be p ks i:Int)]:=(aB0.1 hr).2;have hac:=hacs i;obtain⟨q,hq⟩:∃q,q=Be p ks i:=⟨_,rfl⟩;rw[<-hq]at e1 hr qC gu;have gq:q<l.length:=(aB0.1 gu).1;have gu':l[q]'gq=u.x:=(aB0.1 gu).2;have yN:Mr x.k u.x.k (DN u)=if NV_ x.k u.x.k then ⟨#[40]⟩++DN u++⟨#[41]⟩else DN u:=rfl
  have vE:Oc x ks (i+1)=(if i=0 then ⟨#[]⟩else Oc x ks i++Qv x.k)++Mr x.k u.x.k (DN u):=by
   by_cases h0:i=0
   ·subst h0;rw[if_pos rfl,Pq];exact Qo_ hu
   ·rw[if_neg h0];exact MC_ (by omega) hu
  have hz:i=0->Oc x ks i=⟨#[]⟩:=fun h=>by rw[h,Sm,hx0]
  obtain⟨s,vM⟩:∃s,s=DN u:=⟨_,rfl⟩;rw[<-vM]at e1 zF yN vE;obtain⟨P,hP⟩:∃P,P=Mr x.k u.x.k s:=⟨_,rfl⟩;rw[<-hP]at yN vE;obtain⟨a,ha⟩:∃a,a=Oc x ks i:=⟨_,rfl⟩;rw[<-ha]at hac vE hz |-;have y3:1+s.size<=maxLen:=by omega
  have y4:1+s.size+1<=maxLen:=by omega
  have y5:a.size+3<=maxLen:=by omega
  have y6:a.size+1<=maxLen:=by omega
  have y7:a.size+P.size<=maxLen:=by
   have:=(Ns x.k u.x.k s).2;rw[<-hP]at this;omega
  have y8:a.size+3+P.size<=maxLen:=by
   have:=(Ns x.k u.x.k s).2;rw[<-hP]at this;omega
  have y9:a.size+1+P.size<=maxLen:=by omega
  unfold NV_ at yN;clear vM ha hP;unfold Qv at vE
  by_cases h0:i=0
  ·have vQ:¬(0:Int)<(i:Int):=by omega
   rw[if_pos h0,Pq]at vE;have ha0:=hz h0;subst ha0;have w1:⟨#[]⟩++P=P:=Pq P;have y7':P.size<=maxLen:=by omega
   by_cases p5:u.x.k=5
   ·simp[p5]at yN;subst yN;simp only[aO0,z4,z5]at y7'
    (refine Au (Aq e1) Aa (Ap (HT @BS.eq_1 gu gu' gq qN wL vJ hr qC qV vQ p5 z0 z4 z5 m1) (Dx y3 y4 y7' w1 @aO0)) ?_;intros;refine Ae ?_)
    refine Ag.mk ⟨i+1,by omega⟩ (Sub.lit (by simp[vE,vL])) (by simp;omega)
    skip
   ·have p5':(u.x.k==5)=false:=by simpa using p5
    by_cases p4:u.x.k=4
    ·by_cases q5:x.k=5
     ·simp[p4,q5]at yN;subst yN
      (refine Au (Aq e1) Aa (Ap (HT @BS.eq_1 gu gu' gq qN wL vJ hr qC qV vQ p4 p5 p5' q5 z0) (Ji z4 z5 m1 y3 y4 y7' w1 @aO0)) ?_;intros;refine Ae ?_)
      refine Ag.mk ⟨i+1,by omega⟩ (Sub.lit (by simp[vE,vL,q5])) (by simp;omega)
      skip
     ·have q5':(x.k==5)=false:=by simpa using q5
      simp[p4,q5]at yN;subst yN;simp only[aO0,z4,z5]at y7'
      (refine Au (Aq e1) Aa (Ap (HT @BS.eq_1 gu gu' gq qN wL vJ hr qC qV vQ p4 p5 p5' q5 q5') (OD z0 z4 z5 m1 y3 y4 y7' w1 @aO0)) ?_;intros;refine Ae ?_)
      refine Ag.mk ⟨i+1,by omega⟩ (Sub.lit (by simp[vE,vL])) (by simp;omega)
      skip
    ·have p4':(u.x.k==4)=false:=by simpa using p4
     simp[p4,p5]at yN;subst yN
     (refine Au (Aq e1) Aa (Ap (HT @BS.eq_1 gu gu' gq qN wL vJ hr qC qV vQ p4 p4' p5 p5' z0) (Ji z4 z5 m1 y3 y4 y7' w1 @aO0)) ?_;intros;refine Ae ?_)
     refine Ag.mk ⟨i+1,by omega⟩ (Sub.lit (by simp[vE,vL])) (by simp;omega)
     skip
  ·have vQ:(0:Int)<(i:Int):=by omega
   rw[if_neg h0]at vE;clear hz
   by_cases q5:x.k=5
   ·rw[if_pos q5]at vE;have q4':(x.k==4)=false:=by simp[q5]
    by_cases p5:u.x.k=5
    ·simp[p5]at yN;subst yN;simp only[aO0,z4,z5]at y8
     (refine go2 (Aq e1) Aa (Ap (HT @BS.eq_1 gu gu' gq qN wL vJ hr qC qV vQ p5 q5 q4' z0 z3) (OD z4 z5 m1 m3 y3 y4 y5 y8 @aO0)) ?_ ?_<;>(intros;refine Ae ?_))
     refine Ag.mk ⟨i+1,by omega⟩ (Sub.lit (by simp[vE,vL,q5])) (by simp;omega);exact Al (Aq e1) Aa Aa
    ·have p5':(u.x.k==5)=false:=by simpa using p5
     simp[p5,q5]at yN;subst yN
     by_cases p4:u.x.k=4
     ·(refine go2 (Aq e1) Aa (Ap (HT @BS.eq_1 gu gu' gq qN wL vJ hr qC qV vQ p5 p5' p4 q5 q4') (Hm z0 z3 z4 z5 m1 m3 y3 y4 y5 y8 @aO0)) ?_ ?_<;>(intros;refine Ae ?_))
      refine Ag.mk ⟨i+1,by omega⟩ (Sub.lit (by simp[vE,vL,q5])) (by simp;omega);exact Al (Aq e1) Aa Aa
     ·have p4':(u.x.k==4)=false:=by simpa using p4
      (refine go2 (Aq e1) Aa (Ap (HT @BS.eq_1 gu gu' gq qN wL vJ hr qC qV vQ p5 p5' p4 p4' q5) (FJ q4' z0 z3 z4 z5 m1 m3 y3 y4 y5 y8 @aO0)) ?_ ?_<;>(intros;refine Ae ?_))
      refine Ag.mk ⟨i+1,by omega⟩ (Sub.lit (by simp[vE,vL,q5])) (by simp;omega);exact Al (Aq e1) Aa Aa
   ·have q5':(x.k==5)=false:=by simpa using q5
    have q4:x.k=4:=by
     rcases (show x.k=4\/x.k=6\/x.k=7\/x.k=8 from h8 k1 k2 q5)with h | h
     ·exact h
     ·have:=h6 h;omega
    rw[if_neg q5,if_pos q4]at vE
    by_cases p5:u.x.k=5
    ·simp[p5]at yN;subst yN;simp only[aO0,z4,z5]at y9
     (refine go2 (Aq e1) Aa (Ap (HT @BS.eq_1 gu gu' gq qN wL vJ hr qC qV vQ p5 q5 q5' q4 z0) (OD z2 z4 z5 m1 y3 y4 y6 y9 @aO0)) ?_ ?_<;>(intros;refine Ae ?_))
     refine Ag.mk ⟨i+1,by omega⟩ (Sub.lit (by simp[vE,vL,q4])) (by simp;omega);exact Al (Aq e1) Aa Aa
    ·have p5':(u.x.k==5)=false:=by simpa using p5
     by_cases p4:u.x.k=4
     ·simp[p4,q5]at yN;subst yN;simp only[aO0,z4,z5]at y9
      (refine go2 (Aq e1) Aa (Ap (HT @BS.eq_1 gu gu' gq qN wL vJ hr qC qV vQ p4 p5 p5' q5 q5') (Hm q4 z0 z2 z4 z5 m1 y3 y4 y6 y9 @aO0)) ?_ ?_<;>(intros;refine Ae ?_))
      refine Ag.mk ⟨i+1,by omega⟩ (Sub.lit (by simp[vE,vL,q4])) (by simp;omega);exact Al (Aq e1) Aa Aa
     ·have p4':(u.x.k==4)=false:=by simpa using p4
      simp[p4,p5]at yN;subst yN
      (refine go2 (Aq e1) Aa (Ap (HT @BS.eq_1 gu gu' gq qN wL vJ hr qC qV vQ p4 p4' p5 p5' q5) (FJ q5' q4 z0 z2 z4 z5 m1 y3 y4 y6 y9 @aO0)) ?_ ?_<;>(intros;refine Ae ?_))
      refine Ag.mk ⟨i+1,by omega⟩ (Sub.lit (by simp[vE,vL,q4])) (by simp;omega);exact Al (Aq e1) Aa Aa
 ·have qY:i=ks.length:=by omega
  subst qY;have hac:=hacs ks.length
  have vY:(if x.k=2\/x.k=3 then x.s else HB (EA x.k ks) (Qv x.k)++sgn x.k)=Oc x ks ks.length++sgn x.k:=by
   by_cases k2:x.k=2\/x.k=3
   ·rw[if_pos k2,hlf k2,Sm];have:sgn x.k=⟨#[]⟩:=by unfold sgn;rw[if_neg (by omega),if_neg (by omega),if_neg (by omega)]
    rw[this,Yz]
   ·rw[if_neg k2];unfold Oc;rw[if_neg (by have:=kU k1 k2;omega),aN0]
  rw[vY]at hR;clear vY;obtain⟨a,ha⟩:∃a,a=Oc x ks ks.length:=⟨_,rfl⟩;rw[<-ha]at hac hR |-;have y6:a.size+1<=maxLen:=by omega
  have y0:a.size<=maxLen:=by omega
  unfold sgn at hR
  by_cases j6:x.k=6
  ·rw[if_pos j6]at hR;subst hR;exact Al Aa Aa (Ez wL j6 z6 y6 y0 m1 @aO0)
  ·have j6':(x.k==6)=false:=by simpa using j6
   by_cases j7:x.k=7
   ·rw[if_neg j6,if_pos j7]at hR;subst hR;exact Al Aa Aa (OD wL j6 j6' j7 z7 y6 y0 m1 @aO0)
   ·have j7':(x.k==7)=false:=by simpa using j7
    by_cases j8:x.k=8
    ·rw[if_neg j6,if_neg j7,if_pos j8]at hR;subst hR;exact Al Aa Aa (Hm wL j6 j6' j7 j7' j8 z8 y6 y0 m1 @aO0)
    ·have j8':(x.k==8)=false:=by simpa using j8
     rw[if_neg j6,if_neg j7,if_neg j8,Yz]at hR;subst hR;exact Al Aa Aa (Hn wL j6 j6' j7 j7' j8 j8' y6 y0 m1)
def Dv_ : Ann:=⟨[],[]⟩
theorem WY (t:RT) (ht:FU t=true) (hs:(flat t).length<=1572864):Ac prog 295 [Bl (flat t)] (.int .i64 (Em t)):=by
 refine Ab [] Dv_ func295 call295 ntmps295 mxd (Ap @Dv_.eq_1 results295) rfl (fun qJ B qX qQ=> ?_);clear qJ;simp only[Ak];have k1:=MH _ t (flat t) 0 rfl (At.top ht) hs;have k2:=Sp _ t (flat t) 0 rfl (At.top ht) hs;unfold Em;obtain⟨T,hT⟩:∃T,T=DN t:=⟨_,rfl⟩;rw[<-hT]at k2 |-
 by_cases c1:16<LS t
 ·have d1:(16:Int)<(LS t:Int):=by omega
  exact Al (Ap k1 k2) Aa (Ap c1 d1)
 ·have d1:¬(16:Int)<(LS t:Int):=by omega
  by_cases c2:2048<T.size
  ·have d2:(2048:Int)<(T.size:Int):=by omega
   exact Al (Ap k1 k2) Aa (CG c1 d1 c2 d2)
  ·have d2:¬(2048:Int)<(T.size:Int):=by omega
   exact Al (Ap k1 k2) Aa (CG c1 d1 c2 d2)
def KK : Ann:=⟨[],[]⟩
theorem Vb (t:RT) (ht:FU t=true) (h:(flat t).length<=2048):Ac prog 207 [Bl (flat t)] (.int .i64 (Em t)):=by
 refine Ab [] KK func207 call207 ntmps207 mxd (Ap @KK.eq_1 results207) rfl (fun qJ B qX qQ=> ?_);clear qJ;simp only[Ak];have k1:=FZ (flat t) (by omega);rw[Gw ht]at k1;have k2:=WY t ht (by omega);have d1:¬(2048:Int)<((flat t).length:Int):=by omega
 have d2:¬2048<(flat t).length:=by omega
 exact Al (Ap k1 k2) Aa (Ap d1 d2)
theorem Vc (l:List Nd) (h:2048<l.length):Ac prog 207 [Bl l] (.int .i64 3):=by
 refine Ab [] KK func207 call207 ntmps207 mxd (Ap @KK.eq_1 results207) rfl (fun qJ B qX qQ=> ?_);clear qJ;simp only[Ak];have d1:(2048:Int)<(l.length:Int):=by omega
 exact Al Aa Aa (Ap d1 h)
theorem XO (l:List Nd) (h:l.length<=2048) (hw:Ei l=false):Ac prog 207 [Bl l] (.int .i64 170):=by
 refine Ab [] KK func207 call207 ntmps207 mxd (Ap @KK.eq_1 results207) rfl (fun qJ B qX qQ=> ?_);clear qJ;simp only[Ak];have k1:=FZ l (by omega);rw[hw]at k1;have d1:¬(2048:Int)<(l.length:Int):=by omega
 have d2:¬2048<l.length:=by omega
 exact Al (Aq k1) Aa (Ap d1 d2)
def Dx_ : Ann:=⟨[],[]⟩
theorem Tc (t:RT) (ht:FU t=true) (hs:(flat t).length<=1572864):Ac prog 134 [Bl (flat t)] (.int .i64 (LS t)):=by
 refine Ab [] Dx_ func134 call134 ntmps134 mxd (Ap @Dx_.eq_1 results134) rfl (fun qJ B qX qQ=> ?_);clear qJ;simp only[Ak];have k1:=FZ (flat t) hs;rw[Gw ht]at k1;have k2:=MH _ t (flat t) 0 rfl (At.top ht) hs;exact Al (Ap k1 k2) Aa Aa
def Bg (n:Nat):List DVal:=[.int .i64 (n:Int)]
@[simp] theorem Rg_ (n:Nat):AV (Bg n)=0:=by simp[Bg,AV,mx]
abbrev Cl (l:List Nat):DVal:= .sl 1 8 (l.map Bg)
@[simp] theorem Uo_ (l:List Nat):BK (l.map Bg)=0:=Jb _ Rg_ l
theorem SA_ (l:List Nd) (n:Nat):(HX l n).length<=n:=by unfold HX;exact Nat.le_trans (cG0 _ _) (by simp)
def Xo : Ann:=⟨[],[]⟩
theorem JH (l:List Nd):Ac prog 140 [Bl l] (Cl (HX l l.length)):=by
 refine Ab [50] Xo func140 call140 ntmps140 mxd (Ap @Xo.eq_1 results140) rfl (fun qJ B qX qQ=> ?_);have hs:l.length*32<=150000000000000:=by have:=qJ.1;simp only[Dq,aJ0]at this;exact this.1
 clear qJ;simp only[Ak]
 (refine Au Aa Aa Aa ?_;intros;refine Ae ?_)
 refine Bk 3 50 3 1 8 (by simp[qX,results140,Xo]) (fun n=> ?_);refine Af (X:={i:Nat//i<=l.length}) (fun i=>⟨[(0,Bl l),(3,.osl 50 1),(4,.int .i64 i.1)],[⟨50,1,.row 3 1 8 ((HX l i.1).map Bg)⟩]⟩) (fun i=>l.length-i.1) ⟨0,by omega⟩ (Sub.lit (by simp[NQ_])) ?_;rintro⟨i,hi⟩;simp only
 by_cases qV:i<l.length
 ·obtain⟨x,hx,qU,_⟩:=Ai qV;have hsc:=Ve hx;have vS:=SA_ l i;obtain⟨T,hT⟩:∃T,T=HX l i:=⟨_,rfl⟩;rw[<-hT]at hsc vS |-;have z1:(T.length+1)*8<=150000000000000:=by omega
  have z2:T.length+1<=9223372036854775807:=by omega
  by_cases ho:Cw x=true
  ·rw[if_pos ho]at hsc;have hd:(T.map Bg)++[[.int .i64 (i:Int)]]=(HX l (i+1)).map Bg:=by rw[hsc,aX0];rfl
   rcases Ca.1 ho with k | k
   ·(refine Au Aa Aa (Ez @BS.eq_1 qV hx qU k z1 z2) ?_;intros;refine Ae ?_)
    refine Ag.mk ⟨i+1,by omega⟩ (Sub.lit (by simp[hd])) (by simp;omega)
    skip
   ·(refine Au Aa Aa (Ez @BS.eq_1 qV hx qU k z1 z2) ?_;intros;refine Ae ?_)
    refine Ag.mk ⟨i+1,by omega⟩ (Sub.lit (by simp[hd])) (by simp;omega)
    skip
  ·rw[if_neg ho,bM0]at hsc;have k2:¬x.k=2:=fun e=>ho (Ca.2 (.inl e))
   have k3:¬x.k=3:=fun e=>ho (Ca.2 (.inr e))
   have k2':(x.k==2)=false:=by simpa using k2
   have k3':(x.k==3)=false:=by simpa using k3
   (refine Au Aa Aa (Ji @BS.eq_1 qV hx qU k2 k2' k3 k3') ?_;intros;refine Ae ?_)
   refine Ag.mk ⟨i+1,by omega⟩ (Sub.lit (by simp[hsc])) (by simp;omega)
   skip
 ·have qY:i=l.length:=by omega
  subst qY;exact Al Aa Aa Aa
def Dy_ : Ann:=⟨[],[]⟩
theorem PC (l:List Nd):Ac prog 133 [Bl l] (.int .i64 (HN l)):=by
 refine Ab [] Dy_ func133 call133 ntmps133 mxd (Ap @Dy_.eq_1 results133) rfl (fun qJ B qX qQ=> ?_);clear qJ;simp only[Ak];have k1:=JH l;have h1:(HX l l.length).length=HN l:=by rw[Nr (Nat.le_refl _),PJ,Jp]
 exact Al (Aq k1) Aa (Aq h1)
end Go.Proofs.Wy
end
section
namespace Go.Proofs.Wy
open Go Go.Dm Tryz
variable [DMode]
theorem UD_ : OrdC HK:=by
 refine⟨fun _ _=>YE,fun x y=> ?_,fun x y z h1 h2=> ?_⟩
 ·rw[DX];unfold HK;cases h1:Br x y
  ·cases h2:Br y x<;>simp
  ·rw[UK h1];simp
 ·rw[DX]at *;exact DI h1 h2
end Go.Proofs.Wy
end
section
namespace Go.Proofs.Wy
open Go Go.Dm Tryz
variable [DMode]
attribute [local irreducible] DW Bs Bv
set_option maxRecDepth 100000
def Xl : Ann:=⟨[],[⟨5,[6],[],[]⟩,⟨7,[22],[],[]⟩]⟩
theorem VS (k:Int) (s:ByteArray):Ac prog 262 [.sl 3 32 [Cy k s 0]] (.int .i64 1):=by
 refine Ab [] Xl func262 call262 ntmps262 mxd (Ap @Xl.eq_1 results262) rfl (fun qJ B qX qQ=> ?_);clear qJ;simp only[Ak]
 (refine Au Aa Aa (Aq @Cy.eq_1) ?_;intros;refine Ae ?_)
 refine Af (X:=Bool) (fun x=>⟨[(0,.sl 3 32 [Cy k s 0]),(3,.int .i64 (if x then 1 else 0)),(4,if x then .sl 1 8 []else .nilsl),(7,.sl 3 32 [Cy k s 0]),(8,.int .i64 1),(9,.int .i64 (if x then 1 else 0))],[]⟩) (fun x=>if x then 0 else 1) false (Sub.lit (by simp[Cy])) ?_;rintro (_ | _)
 ·(refine Au Aa Aa (Aq @Cy.eq_1) ?_;intros;refine Ae ?_)
  refine Af (X:=Bool) (fun x=>⟨[(0,.sl 3 32 [Cy k s 0]),(3,.int .i64 1),(4,if x then .sl 1 8 []else .sl 1 8 [[.int .i64 0]]),(7,.sl 3 32 [Cy k s 0]),(8,.int .i64 1),(9,.int .i64 0)],[]⟩) (fun x=>if x then 0 else 1) false (Sub.lit (by simp[Cy])) ?_;rintro (_ | _)
  ·(refine Au Aa Aa (Aq @Cy.eq_1) ?_;intros;refine Ae ?_)
   simp[qX,results262,Xl,Cy]
   (refine Au Aa Aa (Aq @Cy.eq_1) ?_;intros;refine Ae ?_)
   refine Ag.mk true (Sub.lit (by simp[Cy])) (by simp)
   skip
  ·(refine Au Aa Aa (Aq @Cy.eq_1) ?_;intros;refine Ae ?_)
   refine Ag.mk true (Sub.lit (by simp[Cy])) (by simp)
   skip
 ·exact Al Aa Aa (Aq @Cy.eq_1)
def Cl_ : Ann:=⟨[],[⟨1,[3],[],[]⟩]⟩
theorem aR (k:Int) (hk:k=2\/k=3) (s:ByteArray):Ac prog 263 [.sl 3 32 [Cy k s 0]] (.str s):=by
 refine Ab [] Cl_ func263 call263 ntmps263 mxd (Ap @Cl_.eq_1 results263) rfl (fun qJ B qX qQ=> ?_);clear qJ;simp only[Ak]
 rcases hk with rfl | rfl
 ·exact Al Aa Aa (Aq @Cy.eq_1)
 ·exact Al Aa Aa (Aq @Cy.eq_1)
def Cm_ : Ann:=⟨[],[]⟩
theorem Tt (k:Int) (hk:k=2\/k=3) (s:ByteArray) (hs:s.size<=16):Ac prog 182 [.sl 3 32 [Cy k s 0]] (.int .i64 0):=by
 refine Ab [] Cm_ func182 call182 ntmps182 mxd (Ap @Cm_.eq_1 results182) rfl (fun qJ B qX qQ=> ?_);clear qJ;simp only[Ak];have e1:=VS k s;have e2:=aR k hk s;have g1:¬(2048:Int)<s.size:=by omega
 exact Al (Ap e1 e2) Aa (Aq g1)
theorem Nd_ {k:Int} {s:ByteArray} (h:EC k s=true):s.size<=16:=by
 unfold EC at h
 split at h<;>(simp only[AX,aM0,decide_eq_true_eq]at h;exact h.1.1.2)
def Cn_ : Ann:=⟨[],[]⟩
theorem Yk (k:Int) (hk:k=2\/k=3) (s:ByteArray):Ac prog 101 [.sl 3 32 [Cy k s 0]] (.int .i64 (if EC k s then 0 else 170)):=by
 refine Ab [] Cn_ func101 call101 ntmps101 mxd (Ap @Cn_.eq_1 results101) rfl (fun qJ B qX qQ=> ?_);clear qJ;simp only[Ak];have e1:=XC k hk s;cases hT:EC k s
 ·rw[hT]at e1;exact Al (Aq e1) Aa Aa
 ·rw[hT]at e1;have e2:=Tt k hk s (Nd_ hT);exact Al (Ap e1 e2) Aa Aa
def Ck_ : Ann:=⟨[],[]⟩
theorem Ol (l:List ByteArray) (s:ByteArray):Ac prog 158 [AJ l,.str s] (.int .i64 (Ct l s)):=by
 refine Ab [] Ck_ func158 call158 ntmps158 mxd (Ap @Ck_.eq_1 results158) rfl (fun qJ B qX qQ=> ?_);have qZ:=FW qJ.1;clear qJ;simp only[Ak];obtain⟨R,hR⟩:∃R,R=Ct l s:=⟨_,rfl⟩;rw[<-hR]
 (refine Au Aa Aa Aa ?_;intros;refine Ae ?_)
 refine Af (X:={k:Nat//k<=l.length/\∀i x,i<k->l[i]? =some x->(s==x)=false}) (fun x=>⟨[(0,AJ l),(1,.str s),(5,.int .i64 x.1)],[]⟩) (fun x=>l.length-x.1) ⟨0,by simp⟩ (Sub.lit (by simp)) ?_;rintro⟨k,hk,wE⟩
 by_cases qV:k<l.length
 ·obtain⟨x,hx,qU,wA⟩:=Ai qV;cases hb:s==x
  ·have qG:(x==s)=false:=by rw[dS0]at hb |-;simp at hb |-;exact fun h=>hb h.symm
   (refine Au Aa Aa (Dx @AG.eq_1 qV qU hx qG) ?_;intros;refine Ae ?_)
   exact Ag.mk ⟨k+1,by omega,VR hx hb wE⟩ (Sub.lit (by simp[])) (by simp;omega)
   skip
  ·have qG:(x==s)=true:=by simp at hb |-;exact hb.symm
   have vP:R=k:=by rw[hR];exact Mo qV (by rw[qU];exact(by simpa using hb:s=x).symm) wE
   subst vP;exact Al Aa Aa (Dx @AG.eq_1 qV qU hx qG)
 ·have qY:k=l.length:=by omega
  subst qY;have vP:R= -1:=by rw[hR];exact Mp wE
  subst vP;exact Al Aa Aa Aa
def Ex_ : Ann:=⟨[],[]⟩
theorem VP (l:List ByteArray) (s:ByteArray):Ac prog 131 [AJ l,.str s] (.bool (decide (s∈l))):=by
 refine Ab [] Ex_ func131 call131 ntmps131 mxd (Ap @Ex_.eq_1 results131) rfl (fun qJ B qX qQ=> ?_);have qZ:=FW qJ.1;clear qJ;simp only[Ak];obtain⟨R,hR⟩:∃R,R=decide (s∈l):=⟨_,rfl⟩;rw[<-hR]
 (refine Au Aa Aa Aa ?_;intros;refine Ae ?_)
 refine Af (X:={k:Nat//k<=l.length/\R=decide (s∈l.drop k)}) (fun x=>⟨[(0,AJ l),(1,.str s),(5,.int .i64 x.1)],[]⟩) (fun x=>l.length-x.1) ⟨0,by simp[hR]⟩ (Sub.lit (by simp)) ?_;clear hR;rintro⟨k,hk,hR⟩
 by_cases qV:k<l.length
 ·obtain⟨x,hx,qU,wA⟩:=Ai qV;rw[aP0 qV,qU]at hR;cases hb:x==s
  ·have qK:¬s=x:=fun e=>by subst e;simp at hb
   have wX:R=decide (s∈l.drop (k+1)):=by rw[hR];simp[qK]
   (refine Au Aa Aa (Dx @AG.eq_1 qV qU hx hb) ?_;intros;refine Ae ?_)
   exact Ag.mk ⟨k+1,by omega,wX⟩ (Sub.lit (by simp[])) (by simp;omega)
   skip
  ·have he:s=x:=by simp at hb;exact hb.symm
   have wX:R=true:=by rw[hR,he];simp
   subst wX;exact Al Aa Aa (Dx @AG.eq_1 qV qU hx hb)
 ·have qY:k=l.length:=by omega
  subst qY;rw[bE0]at hR;have wX:R=false:=by rw[hR];simp
  subst wX;exact Al Aa Aa Aa
theorem OT_ (l:List ByteArray) (s:ByteArray):AS prog (.func 131) [.osl 0 0,.str s] [⟨0,0,.row 9 1 16 (l.map AG)⟩] (.bool (decide (s∈l))) [⟨0,0,.row 9 1 16 (l.map AG)⟩] :=
 Xx rfl (VP l s)
def tS : Ann:=⟨[17],[]⟩
theorem Eg (g:List Rul):Ac prog 45 [Az g] (AJ (Ay g)):=by
 refine Ab [3] tS func45 call45 ntmps45 mxd (Ap @tS.eq_1 results45) rfl (fun qJ B qX qQ=> ?_);have hs:g.length*40<=150000000000000:=by have:=qJ.1;simp only[Dq,aJ0]at this;exact this.1
 clear qJ;simp only[Ak]
 (refine Au Aa Aa Aa ?_;intros;refine Ae ?_)
 refine Bk 3 3 9 1 16 (by simp[qX,results45,tS]) (fun n=> ?_);refine Af (X:={i:Nat//i<=g.length}) (fun i=>⟨[(0,Az g),(3,.osl 3 1),(4,.int .i64 i.1)],[⟨3,1,.row 9 1 16 ((Ay (g.take i.1)).map AG)⟩]⟩) (fun i=>g.length-i.1) ⟨0,by omega⟩ (Sub.lit (by simp[Ay])) ?_;rintro⟨i,hi⟩;simp only
 by_cases qV:i<g.length
 ·obtain⟨r,hr,qC,bP⟩:=Ai qV;have qH:=SH hr;have hl:=Ln (g.take i);rw[aT0]at hl;obtain⟨T,hT⟩:∃T,T=Ay (g.take i):=⟨_,rfl⟩;rw[<-hT]at qH hl |-;have e1:=OT_ T r.h;have z1:(T.length+1)*16<=150000000000000:=by omega
  have z2:T.length+1<=9223372036854775807:=by omega
  unfold Kp at qH
  by_cases hm:r.h∈T
  ·rw[if_pos hm]at qH;rw[decide_eq_true hm]at e1
   (refine Au Aa (Aq (DF [(3,0)] [] e1)) (CG @Co.eq_1 qV hr qC) ?_;intros;refine Ae ?_)
   refine Ag.mk ⟨i+1,by omega⟩ (Sub.lit (by simp[qH])) (by simp;omega)
   skip
  ·rw[if_neg hm]at qH;rw[decide_eq_false hm]at e1
   (refine Au Aa (Aq (DF [(3,0)] [] e1)) (EB @Co.eq_1 qV hr qC z1 z2) ?_;intros;refine Ae ?_)
   refine Ag.mk ⟨i+1,by omega⟩ (Sub.lit (by simp[qH,AG])) (by simp;omega)
   skip
 ·have qY:i=g.length:=by omega
  subst qY;rw[aN0];exact Al Aa Aa Aa
def Xs : Ann:=⟨[],[]⟩
theorem lN (l:List ByteArray) (p:ByteArray) (qM:(l.length+1)*16<=150000000000000):Ac prog 203 [AJ l,.str p] (AJ (BO HK l p)):=by
 refine Ab [50] Xs func203 call203 ntmps203 mxd (Ap @Xs.eq_1 results203) rfl (fun qJ B qX qQ=> ?_);clear qJ;simp only[Ak];obtain⟨r,hr⟩:∃r,r=BO HK l p:=⟨_,rfl⟩;rw[<-hr]
 (refine Au Aa Aa Aa ?_;intros;refine Ae ?_)
 refine Bk 5 50 9 1 16 (by simp[qX,results203,Xs]) (fun n=> ?_);refine Af (X:={x:Nat×Bool×List ByteArray//x.1<=l.length/\x.2.2.length<=x.1+(if x.2.1 then 1 else 0)/\x.2.2++(if x.2.1 then l.drop x.1 else BO HK (l.drop x.1) p)=r}) (fun x=>⟨[(0,AJ l),(1,.str p),(5,.osl 50 1),(6,.bool x.1.2.1),(7,.int .i64 x.1.1)],[⟨50,1,.row 9 1 16 (x.1.2.2.map AG)⟩]⟩) (fun x=>l.length-x.1.1) ⟨(0,false,[]),by simp[hr]⟩ (Sub.lit (by simp)) ?_
 rintro⟨⟨k,b,R⟩,hk,hR,wU⟩;simp only at hk hR wU |-;clear hr
 by_cases qV:k<l.length
 ·obtain⟨q,hq,vV,jJ⟩:=Ai qV;rw[aP0 qV,vV]at wU;cases b
  ·simp only[aK0,if_false,BO,cT0]at hR wU;have vA:(R.length+1)*16<=150000000000000:=Nat.le_trans (aQ0 16 (by omega)) qM;have wM:R.length<=9223372036854775806:=by omega
   have cB:(R.length+1+1)*16<=150000000000000:=Nat.le_trans (aQ0 16 (by omega)) qM;have cD:R.length+1<=9223372036854775806:=by omega
   cases hc:Br q p
   ·have kN:Op.bytesLess q.data.toList p.data.toList=false:=hc;rw[if_neg (show ¬HK q p<0 by rw[DX,hc];simp)]at wU
    by_cases he:q=p
    ·subst he;rw[if_neg (show ¬HK q q<0 by rw[DX,Ef];simp)]at wU
     (refine Au Aa Aa (Ji @AG.eq_1 qV vV kN vA wM cB cD) ?_;intros;refine Ae ?_)
     refine Ag.mk ⟨(k+1,true,R++[q]),show k+1<=l.length/\(R++[q]).length<=k+1+_/\_ from ⟨by omega,by simp;omega,by simpa using wU⟩⟩ (Sub.lit (by simp[AG])) (by simp;omega)
     skip
    ·have zN:(q==p)=false:=by simpa using he
     have mH:Br p q=true:=by
      cases h2:Br p q
      ·exact absurd (JY hc h2) he
      ·rfl
     rw[if_pos (DX.2 mH)]at wU
     (refine Au Aa Aa (OD @AG.eq_1 qV vV kN zN vA wM cB cD) ?_;intros;refine Ae ?_)
     refine Ag.mk ⟨(k+1,true,R++[p,q]),show k+1<=l.length/\(R++[p,q]).length<=k+1+_/\_ from ⟨by omega,by simp;omega,by simpa using wU⟩⟩ (Sub.lit (by simp[AG])) (by simp;omega)
     skip
   ·have kN:Op.bytesLess q.data.toList p.data.toList=true:=hc;rw[if_pos (DX.2 hc)]at wU
    (refine Au Aa Aa (Ji @AG.eq_1 qV vV kN vA wM cB cD) ?_;intros;refine Ae ?_)
    refine Ag.mk ⟨(k+1,false,R++[q]),show k+1<=l.length/\(R++[q]).length<=k+1+_/\_ from ⟨by omega,by simp;omega,by simpa using wU⟩⟩ (Sub.lit (by simp[AG])) (by simp;omega)
    skip
  ·simp only[if_true]at hR wU;have vA:(R.length+1)*16<=150000000000000:=Nat.le_trans (aQ0 16 (by omega)) qM;have wM:R.length<=9223372036854775806:=by omega
   (refine Au Aa Aa (Dx @AG.eq_1 qV vV vA wM) ?_;intros;refine Ae ?_)
   refine Ag.mk ⟨(k+1,true,R++[q]),show k+1<=l.length/\(R++[q]).length<=k+1+_/\_ from ⟨by omega,by simp;omega,by simpa using wU⟩⟩ (Sub.lit (by simp[AG])) (by simp;omega)
   skip
 ·have zO:k=l.length:=by omega
  subst zO;rw[bE0]at wU;cases b
  ·simp only[aK0,if_false,BO,cT0]at hR wU;subst wU;have vA:(R.length+1)*16<=150000000000000:=Nat.le_trans (aQ0 16 (by omega)) qM;have wM:R.length<=9223372036854775806:=by omega
   exact Al Aa Aa (BC @AG.eq_1 vA wM)
  ·simp only[if_true,bM0]at hR wU;subst wU;exact Al Aa Aa (Aq @AG.eq_1)
def Ti (es:List ByteArray):List ByteArray:=es.foldl (BO HK) []
theorem Zd (es:List ByteArray):Ti es=CD es:=by
 obtain⟨h1,h2⟩:=ML UD_ es [] List.Pairwise.nil;refine TE (h1.imp fun {a b} h=>DX.1 h) fun x=> ?_
 unfold Ti;rw[h2];simp
theorem LD_ (es:List ByteArray) (s:ByteArray):Ti (es++[s])=BO HK (Ti es) s:=by unfold Ti;rw[cH0];rfl
theorem Tg (k:Int) (g:List Rul) (i:Nat):(AW k (g.take i)).length<=(AW k g).length:=by
 have h:AW k g=AW k (g.take i)++AW k (g.drop i):=by
  unfold AW;rw[<-dT0,List.take_append_drop]
 rw[h,aC0];omega
def Xt : Ann:=⟨[],[]⟩
theorem Pi (g:List Rul) (k:Int) (hn:((AW k g).length+1)*16<=150000000000000):Ac prog 132 [Az g,.int .i64 k] (AJ (CD (AW k g))):=by
 rw[<-Zd];refine Ab [] Xt func132 call132 ntmps132 mxd (Ap @Xt.eq_1 results132) rfl (fun qJ B qX qQ=> ?_);have rQ:=Mz qJ.1
 have rM:∀r∈g,r.b.length<9223372036854775807:=fun r hr=>by
  have h1:=qJ.1;obtain⟨i,hi,rfl⟩:=bJ0 hr;have h2:wfR (g.map Co):=by simp only[Dq]at h1;exact h1.2.2
  have h3:=aH h2 (aD0 hi);simp only[Co,Gj]at h3;exact TS h3.2.1
 clear qJ;simp only[Ak]
 (refine Au Aa Aa Aa ?_;intros;refine Ae ?_)
 refine RY_ 5 1 16 (by simp[qX,results132,Xt]) ?_;refine Af (X:={i:Nat//i<=g.length}) (fun i=>⟨[(0,Az g),(1,.int .i64 k),(5,AJ (Ti (AW k (g.take i.1)))),(6,.int .i64 i.1)],[]⟩) (fun i=>g.length-i.1) ⟨0,by omega⟩ (Sub.lit (by simp[AW,Ti])) ?_;rintro⟨i,hi⟩;simp only
 by_cases qV:i<g.length
 ·obtain⟨r,hr,qC,bP⟩:=Ai qV;have qH:=SB (k:=k) hr;have bR:=rM r bP;have bY:=Tg k g (i+1);rw[qH,aC0]at bY;obtain⟨N,hN⟩:∃N,N=AW k (g.take i):=⟨_,rfl⟩;rw[<-hN]at qH bY |-
  (refine Au Aa Aa (CG @Co.eq_1 qV hr qC) ?_;intros;refine Ae ?_)
  refine Af (X:={j:Nat//j<=r.b.length}) (fun j=>⟨[(0,Az g),(1,.int .i64 k),(5,AJ (Ti (N++De k (r.b.take j.1)))),(6,.int .i64 i),(7,.int .i64 j.1)],[]⟩) (fun j=>r.b.length-j.1) ⟨0,by omega⟩ (Sub.lit (by simp[De])) ?_;rintro⟨j,hj⟩;simp only
  by_cases qW:j<r.b.length
  ·obtain⟨x,hx,qU,wA⟩:=Ai qW;have htj:=SA (k:=k) hx
   have sV:(De k (r.b.take j)).length<=(De k r.b).length:=by
    unfold De;rw[aJ0,aJ0];exact((List.take_sublist j r.b).filter _).length_le
   obtain⟨E,hE⟩:∃E,E=N++De k (r.b.take j):=⟨_,rfl⟩;have rN:N++De k (r.b.take (j+1))=E++(if x.k=k then [x.s]else []):=by rw[htj,hE,aR0]
   have hEl:(Ti E).length<=(AW k g).length:=by
    rw[Zd];have:=Gu E;rw[hE,aC0]at this;rw[<-hE]at this;omega
   rw[<-hE]
   by_cases hk:x.k=k
   ·rw[if_pos hk]at rN;have qD:=LD_ E x.s;rw[<-rN]at qD;have e1:=lN (Ti E) x.s (Nat.le_trans (aQ0 16 (by omega)) hn);rw[<-qD]at e1;obtain⟨W,hW⟩:∃W,W=Ti E:=⟨_,rfl⟩;obtain⟨W2,hW2⟩:∃W2,W2=Ti (N++De k (r.b.take (j+1))):=⟨_,rfl⟩;rw[<-hW,<-hW2]at e1;rw[<-hW]
    (refine Au (Aq e1) Aa (OD @Co.eq_1 @BS.eq_1 qV hr qC qW hx qU hk) ?_;intros;refine Ae ?_)
    refine Ag.mk ⟨j+1,by omega⟩ (Sub.lit (by simp only[<-hW2];simp)) (by simp;omega)
    skip
   ·have zO:(x.k==k)=false:=by simpa using hk
    rw[if_neg hk,bM0]at rN
    (refine Au Aa Aa (Hn @Co.eq_1 @BS.eq_1 qV hr qC qW hx qU hk zO) ?_;intros;refine Ae ?_)
    refine Ag.mk ⟨j+1,by omega⟩ (Sub.lit (by simp only[rN];simp)) (by simp;omega)
    skip
  ·have qY:j=r.b.length:=by omega
   subst qY;rw[aN0]
   (refine Au Aa Aa (CG @Co.eq_1 qV hr qC) ?_;intros;refine Ae ?_)
   refine Ag.mk ⟨i+1,by omega⟩ (Sub.lit (by simp only[qH];simp)) (by simp;omega)
   skip
 ·have qY:i=g.length:=by omega
  subst qY;rw[aN0];exact Al Aa Aa Aa
def JZ_ : Ann:=⟨[],[]⟩
theorem Im (g:List Rul) (hn:((AW 3 g).length+1)*16<=150000000000000):Ac prog 47 [Az g] (AJ (AE g)):=by
 refine Ab [] JZ_ func47 call47 ntmps47 mxd (Ap @JZ_.eq_1 results47) rfl (fun qJ B qX qQ=> ?_);clear qJ;simp only[Ak];have e1:=Pi g 3 hn;unfold AE;exact Al (Aq e1) Aa Aa
def IA (g:List Rul) (j:Nat):Nat:=(((CD (AW 2 g)).take j).filter fun s=> !decide (s∈Ay g)).length
theorem Gh_ (g:List Rul):IA g (CD (AW 2 g)).length=(DK g).length:=by unfold IA DK;rw[aN0]
theorem Lm_ (g:List Rul) (j:Nat):IA g j<=j:=by
 unfold IA;exact Nat.le_trans (cG0 _ _) (List.length_take_le _ _)
theorem AG_ {g:List Rul} {j:Nat} {s:ByteArray} (h:(CD (AW 2 g))[j]? =some s):IA g (j+1)=IA g j+(if s∈Ay g then 0 else 1):=by
 unfold IA;rw[bD0,h,dC0,aC0]
 by_cases hs:s∈Ay g<;>simp[hs]
def Ka_ : Ann:=⟨[],[]⟩
theorem Rk (g:List Rul) (hn:((AW 2 g).length+1)*16<=150000000000000):Ac prog 46 [Az g] (.int .i64 (DK g).length):=by
 refine Ab [] Ka_ func46 call46 ntmps46 mxd (Ap @Ka_.eq_1 results46) rfl (fun qJ B qX qQ=> ?_);clear qJ;simp only[Ak];have e1:=Eg g;have e2:=Pi g 2 hn;have wT:=Gh_ g;have cH:=Gu (AW 2 g);have nY:=fun j s=>AG_ (g:=g) (j:=j) (s:=s)
 have vS:=Lm_ g;obtain⟨U,hU⟩:∃U,U=CD (AW 2 g):=⟨_,rfl⟩;obtain⟨Hh,hH⟩:∃Hh,Hh=Ay g:=⟨_,rfl⟩;rw[<-hU]at e2 wT cH nY;rw[<-hH]at e1 nY;rw[<-wT]
 (refine Au (Ap e1 e2) Aa Aa ?_;intros;refine Ae ?_)
 refine Af (X:={j:Nat//j<=U.length}) (fun j=>⟨[(3,AJ Hh),(4,AJ U),(5,.int .i64 (IA g j.1)),(6,.int .i64 j.1)],[]⟩) (fun j=>U.length-j.1) ⟨0,by omega⟩ (Sub.lit (by simp[IA])) ?_;rintro⟨j,hj⟩;simp only
 by_cases qV:j<U.length
 ·obtain⟨s,hs,zM,_⟩:=Ai qV;have h1:=nY j s hs;have h2:=vS j;have e3:=VP Hh s;have w1:IntKind.i64.wrap ((IA g j:Int)+1)=(IA g j:Int)+1:=wq;have w2:IntKind.i64.wrap ((j:Int)+1)=(j:Int)+1:=wq
  by_cases hm:s∈Hh
  ·rw[if_pos hm,cT0]at h1;rw[decide_eq_true hm]at e3
   (refine Au (Aq e3) Aa (Dx @AG.eq_1 qV hs zM w2) ?_;intros;refine Ae ?_)
   refine Ag.mk ⟨j+1,by omega⟩ (Sub.lit (by simp[h1])) (by simp;omega)
   skip
  ·rw[if_neg hm]at h1;rw[decide_eq_false hm]at e3
   (refine Au (Aq e3) Aa (EB @AG.eq_1 qV hs zM w1 w2) ?_;intros;refine Ae ?_)
   refine Ag.mk ⟨j+1,by omega⟩ (Sub.lit (by simp[h1])) (by simp;omega)
   skip
 ·have qY:j=U.length:=by omega
  subst qY;exact Al Aa Aa Aa
def Fl (g:List Rul):Prop:=∀r∈g,r.b.length<=1572864
theorem Fc {k:Int}:∀{g:List Rul},Fl g->(AW k g).length<=g.length*1572864
 | [],_=>by simp[AW]
 | r::g,h=>by
  have h1:=h r aF0;have h2:=Fc (k:=k) (g:=g) fun x hx=>h x (aE0 _ hx)
  have h3:=Ge_ k r.b;have h4:AW k (r::g)=De k r.b++AW k g:=by simp[AW]
  rw[h4,aC0,List.length_cons];omega
theorem iO (l:List Nd):HN l<=l.length:=by rw[PJ];exact cG0 _ _
theorem iP : ∀{g:List Rul},Fl g->DG g<=g.length*1572864
 | [],_=>by simp[DG]
 | r::g,h=>by
  have h1:=h r aF0;have h2:=iP (g:=g) fun x hx=>h x (aE0 _ hx)
  have h3:=iO r.b;have h4:DG (r::g)=HN r.b+DG g:=by simp[DG]
  rw[h4,List.length_cons];omega
theorem YS {g:List Rul} {i:Nat} {r:Rul} (h:g[i]? =some r):DG (g.take (i+1))=DG (g.take i)+HN r.b:=by
 unfold DG;rw[bD0,h];simp
theorem PK (g:List Rul) (i:Nat):DG (g.take i)<=DG g:=by
 have h:DG g=DG (g.take i)+DG (g.drop i):=by
  unfold DG;rw[<-List.sum_append,<-aX0,List.take_append_drop]
 omega
theorem iX (s:ByteArray):Ac prog 129 [.str s,.int .u8 85] (.bool (EC 2 s)):=JF 2 85 (.inl ⟨rfl,rfl⟩) s
def JY_ : Ann:=⟨[],[]⟩
theorem Oe (g:List Rul) (hs:Fl g):Ac prog 44 [Az g] (.bool (Gv g)):=by
 refine Ab [] JY_ func44 call44 ntmps44 mxd (Ap @JY_.eq_1 results44) rfl (fun qJ B qX qQ=> ?_);have rQ:=Mz qJ.1;clear qJ;simp only[Ak];obtain⟨R,hR⟩:∃R,R=Gv g:=⟨_,rfl⟩;rw[<-hR]
 (refine Au Aa Aa Aa ?_;intros;refine Ae ?_)
 refine Af (X:={i:Nat//i<=g.length/\R=Gv (g.drop i)}) (fun i=>⟨[(0,Az g),(3,.int .i64 i.1)],[]⟩) (fun i=>g.length-i.1) ⟨0,by simp[hR]⟩ (Sub.lit (by simp)) ?_;clear hR;rintro⟨i,hi,hR⟩;simp only
 by_cases qV:i<g.length
 ·obtain⟨r,hr,qC,bP⟩:=Ai qV;rw[aP0 qV,qC]at hR;unfold Gv at hR;rw[cX0]at hR;have e1:=iX r.h;have e2:=FZ r.b (hs r bP);have w2:IntKind.i64.wrap ((i:Int)+1)=(i:Int)+1:=wq;cases h1:EC 2 r.h
  ·rw[h1]at e1 hR;simp only[bN0]at hR;subst hR;exact Al (Aq e1) Aa (CG @Co.eq_1 qV hr qC)
  ·cases h2:Ei r.b
   ·rw[h2]at e2 hR;rw[h1]at e1 hR;simp only[bN0,dK0]at hR;subst hR;exact Al (Ap e1 e2) Aa (CG @Co.eq_1 qV hr qC)
   ·rw[h2]at e2 hR;rw[h1]at e1 hR;simp only[bO0]at hR
    (refine Au (Ap e1 e2) Aa (Dx @Co.eq_1 qV hr qC w2) ?_;intros;refine Ae ?_)
    refine Ag.mk ⟨i+1,by omega,hR⟩ (Sub.lit (by simp)) (by simp;omega)
    skip
 ·have qY:i=g.length:=by omega
  subst qY;rw[bE0]at hR;have wX:R=true:=hR;subst wX;exact Al Aa Aa Aa
def JX_ : Ann:=⟨[],[]⟩
theorem eW (g:List Rul) (hs:Fl g) (hl:g.length<=64):Ac prog 48 [Az g] (.int .i64 (DG g)):=by
 refine Ab [] JX_ func48 call48 ntmps48 mxd (Ap @JX_.eq_1 results48) rfl (fun qJ B qX qQ=> ?_);clear qJ;simp only[Ak];have ho:=iP hs
 (refine Au Aa Aa Aa ?_;intros;refine Ae ?_)
 refine Af (X:={i:Nat//i<=g.length}) (fun i=>⟨[(0,Az g),(3,.int .i64 (DG (g.take i.1))),(4,.int .i64 i.1)],[]⟩) (fun i=>g.length-i.1) ⟨0,by omega⟩ (Sub.lit (by simp[DG])) ?_;rintro⟨i,hi⟩;simp only
 by_cases qV:i<g.length
 ·obtain⟨r,hr,qC,bP⟩:=Ai qV;have e1:=PC r.b;have h1:=YS hr;have h2:=PK g (i+1);have h3:=iO r.b;have w1:IntKind.i64.wrap ((DG (g.take i):Int)+(HN r.b:Int))=(DG (g.take (i+1)):Int):=by rw[wq];omega
  have w2:IntKind.i64.wrap ((i:Int)+1)=(i:Int)+1:=wq
  (refine Au (Aq e1) Aa (EB @Co.eq_1 qV hr qC w1 w2) ?_;intros;refine Ae ?_)
  refine Ag.mk ⟨i+1,by omega⟩ (Sub.lit (by simp)) (by simp;omega)
  skip
 ·have qY:i=g.length:=by omega
  subst qY;rw[aN0];exact Al Aa Aa Aa
theorem Gg_ {gt:GT} {i:Nat} {p:ByteArray×RT} (h:gt[i]? =some p):(Bd gt)[i]? =some ⟨p.1,flat p.2⟩:=by unfold Bd;rw[bK0,h];rfl
theorem FV (gt:GT):(Bd gt).length=gt.length:=by unfold Bd;rw[aJ0]
theorem Md {gt:GT} (h:Fl (Bd gt)) {p:ByteArray×RT} (hp:p∈gt):(flat p.2).length<=1572864:=h ⟨p.1,flat p.2⟩ (aU0.2 ⟨p,hp,rfl⟩)
def JW_ : Ann:=⟨[],[]⟩
theorem XN (gt:GT) (hk:OkG gt) (hs:Fl (Bd gt)) (hl:gt.length<=64):Ac prog 49 [Az (Bd gt)] (.bool (HD gt)):=by
 refine Ab [] JW_ func49 call49 ntmps49 mxd (Ap @JW_.eq_1 results49) rfl (fun qJ B qX qQ=> ?_);clear qJ;simp only[Ak];have yC:=FV gt;have zV:=fun i p=>Gg_ (gt:=gt) (i:=i) (p:=p)
 have vW:=fun p=>Md hs (p:=p)
 obtain⟨g,hg⟩:∃g,g=Bd gt:=⟨_,rfl⟩;rw[<-hg]at yC zV |-;obtain⟨R,hR⟩:∃R,R=HD gt:=⟨_,rfl⟩;rw[<-hR];clear hs hg
 (refine Au Aa Aa Aa ?_;intros;refine Ae ?_)
 refine Af (X:={i:Nat//i<=gt.length/\R=HD (gt.drop i)}) (fun i=>⟨[(0,Az g),(3,.int .i64 i.1)],[]⟩) (fun i=>gt.length-i.1) ⟨0,by simp[hR]⟩ (Sub.lit (by simp)) ?_;clear hR;rintro⟨i,hi,hR⟩;simp only
 by_cases qV:i<gt.length
 ·obtain⟨p,hp,qI,vK⟩:=Ai qV;rw[aP0 qV,qI]at hR;unfold HD at hR;rw[List.any_cons]at hR;have hr:=zV i p hp;have qW:i<g.length:=by omega
  have qC:g[i]'qW=⟨p.1,flat p.2⟩:=(aB0.1 hr).2;have e1:=Tc p.2 (hk p vK).2 (vW p vK);have w2:IntKind.i64.wrap ((i:Int)+1)=(i:Int)+1:=wq;obtain⟨b,hb⟩:∃b,b=flat p.2:=⟨_,rfl⟩;rw[<-hb]at hr qC e1
  by_cases hd:16<LS p.2
  ·have mU:(16:Int)<(LS p.2:Int):=by omega
   rw[decide_eq_true hd,Bool.true_or]at hR;subst hR;exact Al (Aq e1) Aa (Ez @Co.eq_1 qV qW hr qC hd mU)
  ·have mU:¬(16:Int)<(LS p.2:Int):=by omega
   rw[decide_eq_false hd,eO0]at hR
   (refine Au (Aq e1) Aa (Ji @Co.eq_1 qV qW hr qC hd mU w2) ?_;intros;refine Ae ?_)
   refine Ag.mk ⟨i+1,by omega,hR⟩ (Sub.lit (by simp)) (by simp;omega)
   skip
 ·have qY:i=gt.length:=by omega
  subst qY;rw[bE0]at hR;have wX:R=false:=hR;subst wX;exact Al Aa Aa (Aq yC)
theorem Ff_ {k:Int} {s:ByteArray} (h:EC k s=true):s.size<=16:=by
 unfold EC AX at h
 split at h<;>simp only[aM0,decide_eq_true_eq]at h<;>exact h.1.1.2
theorem UL {gt:GT} {p:ByteArray×RT} (hk:OkG gt) (hs:Fl (Bd gt)) (hp:p∈gt):(LB p).size<=37748766:=by
 have h1:=Ff_ (hk p hp).1;have h2:=(JT p.2 (hk p hp).2).2;have h3:=Md hs hp;unfold LB;simp only[aO0];have z3:(⟨#[32,61,32]⟩:ByteArray).size=3:=rfl;have z4:(⟨#[32,59,10]⟩:ByteArray).size=3:=rfl;omega
theorem OF {gt:GT} (hk:OkG gt) (hs:Fl (Bd gt)):∀i,i<=gt.length->(CH (gt.take i)).size<=i*37748766
 | 0,_=>by simp[CH];decide
 | i+1,h=>by
  have hx:gt[i]? =some (gt[i]'(by omega)):=aD0 (by omega);have ih:=OF hk hs i (by omega);have h1:=UL hk hs (cY0 (show i<gt.length by omega));rw[Ij hx,aO0];omega
def JV_ : Ann:=⟨[],[]⟩
theorem XL (gt:GT) (hk:OkG gt) (hs:Fl (Bd gt)) (hl:gt.length<=64):Ac prog 50 [Az (Bd gt)] (.str (CH gt)):=by
 refine Ab [] JV_ func50 call50 ntmps50 mxd (Ap @JV_.eq_1 results50) rfl (fun qJ B qX qQ=> ?_);clear qJ;simp only[Ak];have yC:=FV gt;have zV:=fun i p=>Gg_ (gt:=gt) (i:=i) (p:=p)
 have vW:=fun p=>Md hs (p:=p)
 have zH:=OF hk hs;obtain⟨g,hg⟩:∃g,g=Bd gt:=⟨_,rfl⟩;rw[<-hg]at yC zV |-;clear hs hg;have z0:(⟨#[]⟩:ByteArray).size=0:=rfl;have z3:(⟨#[32,61,32]⟩:ByteArray).size=3:=rfl;have z4:(⟨#[32,59,10]⟩:ByteArray).size=3:=rfl;have m3:3<=maxLen:=by decide
 have mbig:3000000000<=maxLen:=by decide
 (refine Au Aa Aa (Aq z0) ?_;intros;refine Ae ?_)
 refine Af (X:={i:Nat//i<=gt.length}) (fun i=>⟨[(0,Az g),(3,.str (CH (gt.take i.1))),(4,.int .i64 i.1)],[]⟩) (fun i=>gt.length-i.1) ⟨0,by omega⟩ (Sub.lit (by simp[CH])) ?_;rintro⟨i,hi⟩;simp only
 by_cases qV:i<gt.length
 ·obtain⟨p,hp,qI,vK⟩:=Ai qV;have hr:=zV i p hp;have qW:i<g.length:=by omega
  have qC:g[i]'qW=⟨p.1,flat p.2⟩:=(aB0.1 hr).2;have e1:=Sp _ p.2 (flat p.2) 0 rfl (At.top (hk p vK).2) (vW p vK);have w2:IntKind.i64.wrap ((i:Int)+1)=(i:Int)+1:=wq;have h1:=zH (i+1) (by omega);have vE:=Ij hp;rw[vE]at h1;unfold LB at h1 vE;simp only[aO0,z3,z4]at h1;obtain⟨b,hb⟩:∃b,b=flat p.2:=⟨_,rfl⟩;rw[<-hb]at hr qC e1;obtain⟨s,hs⟩:∃s,s=DN p.2:=⟨_,rfl⟩;rw[<-hs]at e1 h1 vE;obtain⟨a,ha⟩:∃a,a=CH (gt.take i):=⟨_,rfl⟩
  rw[<-ha]at vE h1 |-;have y1:a.size+p.1.size<=maxLen:=by omega
  have y2:a.size+p.1.size+3<=maxLen:=by omega
  have y3:a.size+p.1.size+3+s.size<=maxLen:=by omega
  have y4:a.size+p.1.size+3+s.size+3<=maxLen:=by omega
  have hq:a++p.1++⟨#[32,61,32]⟩++s++⟨#[32,59,10]⟩=CH (gt.take (i+1)):=by rw[vE];simp only[ByteArray.append_assoc]
  (refine Au (Aq e1) Aa (Tv @Co.eq_1 qV qW hr qC z3 z4 m3 y1 y2 y3 y4 @aO0 w2) ?_;intros;refine Ae ?_)
  refine Ag.mk ⟨i+1,by omega⟩ (Sub.lit (by simp[hq])) (by simp;omega)
  skip
 ·have qY:i=gt.length:=by omega
  subst qY;rw[aN0];exact Al Aa Aa (Aq yC)
def CF : Ann:=⟨[],[]⟩
theorem Va (g:List Rul) (h:g.length<1\/64<g.length):Ac prog 13 [Az g] (.int .i64 180):=by
 refine Ab [] CF func13 call13 ntmps13 mxd (Ap @CF.eq_1 results13) rfl (fun qJ B qX qQ=> ?_);clear qJ;simp only[Ak]
 rcases h with h | h
 ·have d1:(g.length:Int)<1:=by omega
  have h0:g=[]:=bP0 (by omega);subst h0;exact Al Aa Aa Aa
 ·have d1:¬(g.length:Int)<1:=by omega
  have d2:(64:Int)<(g.length:Int):=by omega
  have d3:¬g.length<1:=by omega
  exact Al Aa Aa (CG d1 d2 h d3)
theorem iC (g:List Rul) (h1:1<=g.length) (h2:g.length<=64) (hs:Fl g) (ht:Gv g=false):Ac prog 13 [Az g] (.int .i64 170):=by
 refine Ab [] CF func13 call13 ntmps13 mxd (Ap @CF.eq_1 results13) rfl (fun qJ B qX qQ=> ?_);clear qJ;simp only[Ak];have d1:¬(g.length:Int)<1:=by omega
 have d2:¬(64:Int)<(g.length:Int):=by omega
 have d3:¬g.length<1:=by omega
 have d4:¬64<g.length:=by omega
 have e1:=Oe g hs;rw[ht]at e1;exact Al (Aq e1) Aa (CG d1 d2 d3 d4)
theorem Ac_ (gt:GT) (h1:1<=gt.length) (h2:gt.length<=64) (hk:OkG gt) (hs:Fl (Bd gt)):Ac prog 13 [Az (Bd gt)] (.int .i64 (Qo gt)):=by
 refine Ab [] CF func13 call13 ntmps13 mxd (Ap @CF.eq_1 results13) rfl (fun qJ B qX qQ=> ?_);clear qJ;simp only[Ak];have yC:=FV gt;have e1:=Oe (Bd gt) hs;rw[Bg_ hk]at e1;have n2:=Fc (k:=2) hs;have n3:=Fc (k:=3) hs;have e2:=Eg (Bd gt);have e3:=Rk (Bd gt) (by omega);have e4:=Im (Bd gt) (by omega);have e5:=eW (Bd gt) hs (by omega);have e6:=XN gt hk hs h2;have e7:=XL gt hk hs h2;have b1:=Ln (Bd gt)
 have b2:(DK (Bd gt)).length<=110000000:=by
  have:=Gu (AW 2 (Bd gt));have:=cG0 (fun s=> !decide (s∈Ay (Bd gt))) (CD (AW 2 (Bd gt)));unfold DK;omega
 obtain⟨g,hg⟩:∃g,g=Bd gt:=⟨_,rfl⟩;obtain⟨C,hC⟩:∃C,C=Qo gt:=⟨_,rfl⟩;rw[<-hC];unfold Qo at hC;rw[<-hg]at yC e1 e2 e3 e4 e5 e6 e7 b1 b2 hC |-;obtain⟨H,hH⟩:∃H,H=Ay g:=⟨_,rfl⟩;obtain⟨m,hm⟩:∃m,m=(DK g).length:=⟨_,rfl⟩;obtain⟨L,hL⟩:∃L,L=AE g:=⟨_,rfl⟩;obtain⟨o,ho⟩:∃o,o=DG g:=⟨_,rfl⟩;obtain⟨T,hT⟩:∃T,T=CH gt:=⟨_,rfl⟩;rw[<-hH]at e2 b1 hC;rw[<-hm]at e3 b2 hC;rw[<-hL]at e4 hC;rw[<-ho]at e5 hC;rw[<-hT]at e7 hC;clear hH hm hL ho hT n2 n3 hg
 have d1:¬(g.length:Int)<1:=by omega
 have d2:¬(64:Int)<(g.length:Int):=by omega
 have d3:¬g.length<1:=by omega
 have d4:¬64<g.length:=by omega
 have w1:IntKind.i64.wrap ((H.length:Int)+(m:Int))=((H.length+m:Nat):Int):=by rw[wq];omega
 by_cases c1:16<H.length+m
 ·have q1:(16:Int)<((H.length+m:Nat):Int):=by omega
  rw[if_pos c1]at hC;subst hC
  (repeat (first | refine AI fun K hK=> ?_ | (refine BR CF mxd (by kernel_rfl) ?_;simp[CF,qX,d1,d2,d3,d4,w1,c1,q1, -Int.natCast_add];try simp (disch:=omega) only[Ao]) | refine Aw ?_ | (refine Bb ?_ ?_ ?_;(· (simp[qX,d1,d2,d3,d4,w1,c1,q1, -Int.natCast_add];done));(try (rotate_left;(· (intro hc;(try simp[qX,d1,d2,d3,d4,w1,c1,q1, -Int.natCast_add]at hc);done))))) | (refine AK ?_;simp[results13,qX,d1,d2,d3,d4,w1,c1,q1, -Int.natCast_add]) | ((first | refine AD ?_ | refine AC ?_);simp[qX,d1,d2,d3,d4,w1,c1,q1, -Int.natCast_add]) | (intro hc;(try simp[qX,d1,d2,d3,d4,w1,c1,q1, -Int.natCast_add]at hc);(try (exfalso;omega))) | ((first | refine An (e1) ?_ | refine An (e2) ?_ | refine An (e3) ?_ | refine An (e4) ?_ | refine An (e5) ?_ | refine An (e6) ?_ | refine An (e7) ?_ | (refine Am (e1) ?_ ?_;(· (simp;done))) | (refine Am (e2) ?_ ?_;(· (simp;done))) | (refine Am (e3) ?_ ?_;(· (simp;done))) | (refine Am (e4) ?_ ?_;(· (simp;done))) | (refine Am (e5) ?_ ?_;(· (simp;done))) | (refine Am (e6) ?_ ?_;(· (simp;done))) | (refine Am (e7) ?_ ?_;(· (simp;done))));try simp[qX,d1,d2,d3,d4,w1,c1,q1, -Int.natCast_add]) | (refine⟨?_,?_⟩; · omega) | omega | apply_assumption -exfalso -symm | (exfalso;omega)))
 rw[if_neg c1]at hC;have q1:¬(16:Int)<((H.length+m:Nat):Int):=by omega
 by_cases c2:16<L.length
 ·have q2:(16:Int)<(L.length:Int):=by omega
  rw[if_pos c2]at hC;subst hC
  (repeat (first | refine AI fun K hK=> ?_ | (refine BR CF mxd (by kernel_rfl) ?_;simp[CF,qX,d1,d2,d3,d4,w1,c1,q1,c2,q2, -Int.natCast_add];try simp (disch:=omega) only[Ao]) | refine Aw ?_ | (refine Bb ?_ ?_ ?_;(· (simp[qX,d1,d2,d3,d4,w1,c1,q1,c2,q2, -Int.natCast_add];done));(try (rotate_left;(· (intro hc;(try simp[qX,d1,d2,d3,d4,w1,c1,q1,c2,q2, -Int.natCast_add]at hc);done))))) | (refine AK ?_;simp[results13,qX,d1,d2,d3,d4,w1,c1,q1,c2,q2, -Int.natCast_add]) | ((first | refine AD ?_ | refine AC ?_);simp[qX,d1,d2,d3,d4,w1,c1,q1,c2,q2, -Int.natCast_add]) | (intro hc;(try simp[qX,d1,d2,d3,d4,w1,c1,q1,c2,q2, -Int.natCast_add]at hc);(try (exfalso;omega))) | ((first | refine An (e1) ?_ | refine An (e2) ?_ | refine An (e3) ?_ | refine An (e4) ?_ | refine An (e5) ?_ | refine An (e6) ?_ | refine An (e7) ?_ | (refine Am (e1) ?_ ?_;(· (simp;done))) | (refine Am (e2) ?_ ?_;(· (simp;done))) | (refine Am (e3) ?_ ?_;(· (simp;done))) | (refine Am (e4) ?_ ?_;(· (simp;done))) | (refine Am (e5) ?_ ?_;(· (simp;done))) | (refine Am (e6) ?_ ?_;(· (simp;done))) | (refine Am (e7) ?_ ?_;(· (simp;done))));try simp[qX,d1,d2,d3,d4,w1,c1,q1,c2,q2, -Int.natCast_add]) | (refine⟨?_,?_⟩; · omega) | omega | apply_assumption -exfalso -symm | (exfalso;omega)))
 rw[if_neg c2]at hC;have q2:¬(16:Int)<(L.length:Int):=by omega
 by_cases c3:64<o
 ·have q3:(64:Int)<(o:Int):=by omega
  rw[if_pos c3]at hC;subst hC
  (repeat (first | refine AI fun K hK=> ?_ | (refine BR CF mxd (by kernel_rfl) ?_;simp[CF,qX,d1,d2,d3,d4,w1,c1,q1,c2,q2,c3,q3, -Int.natCast_add];try simp (disch:=omega) only[Ao]) | refine Aw ?_ | (refine Bb ?_ ?_ ?_;(· (simp[qX,d1,d2,d3,d4,w1,c1,q1,c2,q2,c3,q3, -Int.natCast_add];done));(try (rotate_left;(· (intro hc;(try simp[qX,d1,d2,d3,d4,w1,c1,q1,c2,q2,c3,q3, -Int.natCast_add]at hc);done))))) | (refine AK ?_;simp[results13,qX,d1,d2,d3,d4,w1,c1,q1,c2,q2,c3,q3, -Int.natCast_add]) | ((first | refine AD ?_ | refine AC ?_);simp[qX,d1,d2,d3,d4,w1,c1,q1,c2,q2,c3,q3, -Int.natCast_add]) | (intro hc;(try simp[qX,d1,d2,d3,d4,w1,c1,q1,c2,q2,c3,q3, -Int.natCast_add]at hc);(try (exfalso;omega))) | ((first | refine An (e1) ?_ | refine An (e2) ?_ | refine An (e3) ?_ | refine An (e4) ?_ | refine An (e5) ?_ | refine An (e6) ?_ | refine An (e7) ?_ | (refine Am (e1) ?_ ?_;(· (simp;done))) | (refine Am (e2) ?_ ?_;(· (simp;done))) | (refine Am (e3) ?_ ?_;(· (simp;done))) | (refine Am (e4) ?_ ?_;(· (simp;done))) | (refine Am (e5) ?_ ?_;(· (simp;done))) | (refine Am (e6) ?_ ?_;(· (simp;done))) | (refine Am (e7) ?_ ?_;(· (simp;done))));try simp[qX,d1,d2,d3,d4,w1,c1,q1,c2,q2,c3,q3, -Int.natCast_add]) | (refine⟨?_,?_⟩; · omega) | omega | apply_assumption -exfalso -symm | (exfalso;omega)))
 rw[if_neg c3]at hC;have q3:¬(64:Int)<(o:Int):=by omega
 cases c4:HD gt
 rotate_left
 ·rw[if_pos c4]at hC;rw[c4]at e6;subst hC
  (repeat (first | refine AI fun K hK=> ?_ | (refine BR CF mxd (by kernel_rfl) ?_;simp[CF,qX,d1,d2,d3,d4,w1,c1,q1,c2,q2,c3,q3, -Int.natCast_add];try simp (disch:=omega) only[Ao]) | refine Aw ?_ | (refine Bb ?_ ?_ ?_;(· (simp[qX,d1,d2,d3,d4,w1,c1,q1,c2,q2,c3,q3, -Int.natCast_add];done));(try (rotate_left;(· (intro hc;(try simp[qX,d1,d2,d3,d4,w1,c1,q1,c2,q2,c3,q3, -Int.natCast_add]at hc);done))))) | (refine AK ?_;simp[results13,qX,d1,d2,d3,d4,w1,c1,q1,c2,q2,c3,q3, -Int.natCast_add]) | ((first | refine AD ?_ | refine AC ?_);simp[qX,d1,d2,d3,d4,w1,c1,q1,c2,q2,c3,q3, -Int.natCast_add]) | (intro hc;(try simp[qX,d1,d2,d3,d4,w1,c1,q1,c2,q2,c3,q3, -Int.natCast_add]at hc);(try (exfalso;omega))) | ((first | refine An (e1) ?_ | refine An (e2) ?_ | refine An (e3) ?_ | refine An (e4) ?_ | refine An (e5) ?_ | refine An (e6) ?_ | refine An (e7) ?_ | (refine Am (e1) ?_ ?_;(· (simp;done))) | (refine Am (e2) ?_ ?_;(· (simp;done))) | (refine Am (e3) ?_ ?_;(· (simp;done))) | (refine Am (e4) ?_ ?_;(· (simp;done))) | (refine Am (e5) ?_ ?_;(· (simp;done))) | (refine Am (e6) ?_ ?_;(· (simp;done))) | (refine Am (e7) ?_ ?_;(· (simp;done))));try simp[qX,d1,d2,d3,d4,w1,c1,q1,c2,q2,c3,q3, -Int.natCast_add]) | (refine⟨?_,?_⟩; · omega) | omega | apply_assumption -exfalso -symm | (exfalso;omega)))
 rw[if_neg (by rw[c4];simp)]at hC;rw[c4]at e6
 by_cases c5:0<m
 ·have q5:(0:Int)<(m:Int):=by omega
  rw[if_pos c5]at hC;subst hC
  (repeat (first | refine AI fun K hK=> ?_ | (refine BR CF mxd (by kernel_rfl) ?_;simp[CF,qX,d1,d2,d3,d4,w1,c1,q1,c2,q2,c3,q3,c5,q5, -Int.natCast_add];try simp (disch:=omega) only[Ao]) | refine Aw ?_ | (refine Bb ?_ ?_ ?_;(· (simp[qX,d1,d2,d3,d4,w1,c1,q1,c2,q2,c3,q3,c5,q5, -Int.natCast_add];done));(try (rotate_left;(· (intro hc;(try simp[qX,d1,d2,d3,d4,w1,c1,q1,c2,q2,c3,q3,c5,q5, -Int.natCast_add]at hc);done))))) | (refine AK ?_;simp[results13,qX,d1,d2,d3,d4,w1,c1,q1,c2,q2,c3,q3,c5,q5, -Int.natCast_add]) | ((first | refine AD ?_ | refine AC ?_);simp[qX,d1,d2,d3,d4,w1,c1,q1,c2,q2,c3,q3,c5,q5, -Int.natCast_add]) | (intro hc;(try simp[qX,d1,d2,d3,d4,w1,c1,q1,c2,q2,c3,q3,c5,q5, -Int.natCast_add]at hc);(try (exfalso;omega))) | ((first | refine An (e1) ?_ | refine An (e2) ?_ | refine An (e3) ?_ | refine An (e4) ?_ | refine An (e5) ?_ | refine An (e6) ?_ | refine An (e7) ?_ | (refine Am (e1) ?_ ?_;(· (simp;done))) | (refine Am (e2) ?_ ?_;(· (simp;done))) | (refine Am (e3) ?_ ?_;(· (simp;done))) | (refine Am (e4) ?_ ?_;(· (simp;done))) | (refine Am (e5) ?_ ?_;(· (simp;done))) | (refine Am (e6) ?_ ?_;(· (simp;done))) | (refine Am (e7) ?_ ?_;(· (simp;done))));try simp[qX,d1,d2,d3,d4,w1,c1,q1,c2,q2,c3,q3,c5,q5, -Int.natCast_add]) | (refine⟨?_,?_⟩; · omega) | omega | apply_assumption -exfalso -symm | (exfalso;omega)))
 rw[if_neg c5]at hC;have q5:¬(0:Int)<(m:Int):=by omega
 by_cases c6:2048<T.size
 ·have q6:(2048:Int)<(T.size:Int):=by omega
  rw[if_pos c6]at hC;subst hC
  (repeat (first | refine AI fun K hK=> ?_ | (refine BR CF mxd (by kernel_rfl) ?_;simp[CF,qX,d1,d2,d3,d4,w1,c1,q1,c2,q2,c3,q3,c5,q5,c6,q6, -Int.natCast_add];try simp (disch:=omega) only[Ao]) | refine Aw ?_ | (refine Bb ?_ ?_ ?_;(· (simp[qX,d1,d2,d3,d4,w1,c1,q1,c2,q2,c3,q3,c5,q5,c6,q6, -Int.natCast_add];done));(try (rotate_left;(· (intro hc;(try simp[qX,d1,d2,d3,d4,w1,c1,q1,c2,q2,c3,q3,c5,q5,c6,q6, -Int.natCast_add]at hc);done))))) | (refine AK ?_;simp[results13,qX,d1,d2,d3,d4,w1,c1,q1,c2,q2,c3,q3,c5,q5,c6,q6, -Int.natCast_add]) | ((first | refine AD ?_ | refine AC ?_);simp[qX,d1,d2,d3,d4,w1,c1,q1,c2,q2,c3,q3,c5,q5,c6,q6, -Int.natCast_add]) | (intro hc;(try simp[qX,d1,d2,d3,d4,w1,c1,q1,c2,q2,c3,q3,c5,q5,c6,q6, -Int.natCast_add]at hc);(try (exfalso;omega))) | ((first | refine An (e1) ?_ | refine An (e2) ?_ | refine An (e3) ?_ | refine An (e4) ?_ | refine An (e5) ?_ | refine An (e6) ?_ | refine An (e7) ?_ | (refine Am (e1) ?_ ?_;(· (simp;done))) | (refine Am (e2) ?_ ?_;(· (simp;done))) | (refine Am (e3) ?_ ?_;(· (simp;done))) | (refine Am (e4) ?_ ?_;(· (simp;done))) | (refine Am (e5) ?_ ?_;(· (simp;done))) | (refine Am (e6) ?_ ?_;(· (simp;done))) | (refine Am (e7) ?_ ?_;(· (simp;done))));try simp[qX,d1,d2,d3,d4,w1,c1,q1,c2,q2,c3,q3,c5,q5,c6,q6, -Int.natCast_add]) | (refine⟨?_,?_⟩; · omega) | omega | apply_assumption -exfalso -symm | (exfalso;omega)))
 rw[if_neg c6]at hC;have q6:¬(2048:Int)<(T.size:Int):=by omega
 subst hC
 (repeat (first | refine AI fun K hK=> ?_ | (refine BR CF mxd (by kernel_rfl) ?_;simp[CF,qX,d1,d2,d3,d4,w1,c1,q1,c2,q2,c3,q3,c5,q5,c6,q6, -Int.natCast_add];try simp (disch:=omega) only[Ao]) | refine Aw ?_ | (refine Bb ?_ ?_ ?_;(· (simp[qX,d1,d2,d3,d4,w1,c1,q1,c2,q2,c3,q3,c5,q5,c6,q6, -Int.natCast_add];done));(try (rotate_left;(· (intro hc;(try simp[qX,d1,d2,d3,d4,w1,c1,q1,c2,q2,c3,q3,c5,q5,c6,q6, -Int.natCast_add]at hc);done))))) | (refine AK ?_;simp[results13,qX,d1,d2,d3,d4,w1,c1,q1,c2,q2,c3,q3,c5,q5,c6,q6, -Int.natCast_add]) | ((first | refine AD ?_ | refine AC ?_);simp[qX,d1,d2,d3,d4,w1,c1,q1,c2,q2,c3,q3,c5,q5,c6,q6, -Int.natCast_add]) | (intro hc;(try simp[qX,d1,d2,d3,d4,w1,c1,q1,c2,q2,c3,q3,c5,q5,c6,q6, -Int.natCast_add]at hc);(try (exfalso;omega))) | ((first | refine An (e1) ?_ | refine An (e2) ?_ | refine An (e3) ?_ | refine An (e4) ?_ | refine An (e5) ?_ | refine An (e6) ?_ | refine An (e7) ?_ | (refine Am (e1) ?_ ?_;(· (simp;done))) | (refine Am (e2) ?_ ?_;(· (simp;done))) | (refine Am (e3) ?_ ?_;(· (simp;done))) | (refine Am (e4) ?_ ?_;(· (simp;done))) | (refine Am (e5) ?_ ?_;(· (simp;done))) | (refine Am (e6) ?_ ?_;(· (simp;done))) | (refine Am (e7) ?_ ?_;(· (simp;done))));try simp[qX,d1,d2,d3,d4,w1,c1,q1,c2,q2,c3,q3,c5,q5,c6,q6, -Int.natCast_add]) | (refine⟨?_,?_⟩; · omega) | omega | apply_assumption -exfalso -symm | (exfalso;omega)))
def ID (b:Bool) (l:List ByteArray):List DVal:=l.map fun s=> .agg [.bool b,.str s]
def FN (n:Nat):List DVal:=(List.range n).map fun i:Nat=>DVal.int .i64 (i:Int)
theorem Kl (b:Bool) (s:ByteArray) (l:List ByteArray):ID b (s::l)= .agg [.bool b,.str s]::ID b l:=rfl
theorem OO_ (b:Bool) (l:List ByteArray):(ID b l).length=l.length:=by simp[ID]
theorem Zb (b:Bool) (l:List ByteArray) (s:ByteArray):ID b (l++[s])=ID b l++[.agg [.bool b,.str s]]:=by simp[ID]
theorem Ri (n:Nat):FN (n+1)=FN n++[.int .i64 (n:Int)]:=by simp[FN,dE0]
theorem Uu (n:Nat):(FN n).length=n:=by simp[FN]
@[simp] theorem TK_ (b:Bool) (l:List ByteArray):AV (ID b l)=0:=by
 induction l with
 | nil=>rfl
 | cons a l ih=>rw[Kl];simp[AV,mx,ih]
@[simp] theorem TH_ (n:Nat):AV (FN n)=0:=by
 unfold FN
 induction List.range n with
 | nil=>rfl
 | cons a l ih=>simp[AV,mx,ih]
theorem Gr_ (a b:Bool) (s x:ByteArray):Ek (BY (.agg [.bool a,.str s])) (BY (.agg [.bool b,.str x]))=((a==b)&&(s==x)):=by
 simp[BY,Ek,eqC]
theorem Lg {b:Bool}:∀{l:List ByteArray} {s:ByteArray},¬s∈l->AZ (ID b l) (.agg [.bool b,.str s])=none
 | [],_,_=>rfl
 | x::l,s,h=>by
  have h1:(s==x)=false:=by simp;intro e;exact h (by simp[e])
  rw[Kl,AZ,Gr_,h1,Lg (l:=l) (s:=s) fun hm=>h (aE0 _ hm)];simp
theorem Jr {b:Bool}:∀{l:List ByteArray} {s:ByteArray},AZ (ID (!b) l) (.agg [.bool b,.str s])=none
 | [],_=>rfl
 | x::l,s=>by
  rw[Kl,AZ,Gr_,Jr (l:=l) (s:=s)];cases b<;>simp
theorem OO {b:Bool}:∀{l:List ByteArray} {s:ByteArray},s∈l->AZ (ID b l) (.agg [.bool b,.str s])=some (LR l s)
 | [],_,h=>by simp at h
 | x::l,s,h=>by
  unfold LR;rw[List.findIdx_cons,Kl,AZ,Gr_]
  by_cases h1:s=x
  ·subst h1;simp
  ·have h2:=OO (b:=b) (l:=l) (s:=s) (by simpa[h1]using h);have cX:(s==x)=false:=by simpa using h1
   rw[h2];simp[cX,LR]
theorem RC : ∀(a b:List DVal) (x:DVal),AZ (a++b) x=match AZ a x with | some j=>some j | none=>(AZ b x).map (· +a.length)
 | [],b,x=>by simp[AZ]
 | k::a,b,x=>by
  rw[List.cons_append,AZ,AZ,RC a b x]
  split
  ·rfl
  ·cases AZ a x with
   | some j=>rfl
   | none=>cases AZ b x<;>simp;omega
theorem lJ (b:Bool) (l:List ByteArray):(ID b l).all (CS prog 134)=true:=by
 induction l with
 | nil=>rfl
 | cons p l ih=>rw[Kl,cX0,ih];simp
def Pm (H L:List ByteArray):List DVal:=ID false H++ID true L
def Nl_ (H L:List ByteArray):List DVal:=FN H.length++FN L.length
abbrev Hf (H L:List ByteArray):DVal:= .ref [AJ H,AJ L,.mp (Pm H L) (Nl_ H L)]
@[simp] theorem Um_ (H L:List ByteArray):AV (Pm H L)=0:=by simp[Pm]
@[simp] theorem Ul_ (H L:List ByteArray):AV (Nl_ H L)=0:=by simp[Nl_]
theorem Nj_ (H L:List ByteArray):(Pm H L).all (CS prog 134)=true:=by
 unfold Pm;rw[fE0,lJ,lJ];rfl
def Sz (H L:List ByteArray) (b:Bool):List ByteArray:=if b then L else H
def Ht (l:List ByteArray) (s:ByteArray):Int:=if s∈l then (LR l s:Int)else 0
def Gz (l:List ByteArray) (s:ByteArray):Int:=if s∈l then 0 else 4
theorem TD {n i:Nat} (h:i<n):(FN n)[i]? =some (.int .i64 (i:Int)):=by
 unfold FN;rw[bK0,eE0 h];rfl
theorem Nk_ {H L:List ByteArray} {b:Bool} {s:ByteArray} (h:s∈Sz H L b):∃j,AZ (Pm H L) (.agg [.bool b,.str s])=some j/\(Nl_ H L)[j]? =some (.int .i64 (LR (Sz H L b) s)):=by
 unfold Pm Nl_;rw[RC]
 cases b with
 | false =>
  have h':s∈H:=h;rw[OO h'];have hi:=ME h';exact⟨_,rfl,by rw[bC0 (by rw[Uu];exact hi)];exact TD hi⟩
 | true =>
  have h':s∈L:=h;have hi:=ME h';have h0:AZ (ID false H) (.agg [.bool true,.str s])=none:=Jr (b:=true);rw[h0,OO h'];refine⟨_,rfl,?_⟩
  show (FN H.length++FN L.length)[LR L s+(ID false H).length]? =_
  rw[OO_,bG0 (by rw[Uu];omega),Uu,Nat.add_sub_cancel];exact TD hi
theorem uU {H L:List ByteArray} {b:Bool} {s:ByteArray} (h:¬s∈Sz H L b):AZ (Pm H L) (.agg [.bool b,.str s])=none:=by
 unfold Pm;rw[RC]
 cases b with
 | false =>
  have h':¬s∈H:=h;rw[Lg h',show AZ (ID true L) (.agg [.bool false,.str s])=none from Jr (b:=false)];rfl
 | true =>
  have h':¬s∈L:=h;rw[show AZ (ID false H) (.agg [.bool true,.str s])=none from Jr (b:=true),Lg h'];rfl
def Jn_ : Ann:=⟨[],[]⟩
theorem HI (H L:List ByteArray):Ac prog 94 [Hf H L] (.bool true):=by
 refine Ab [] Jn_ func94 call94 ntmps94 mxd (Ap @Jn_.eq_1 results94) rfl (fun qJ B qX qQ=> ?_);clear qJ;simp only[Ak];exact Al Aa Aa Aa
def Jo_ : Ann:=⟨[],[]⟩
theorem Mv (H L:List ByteArray) (b:Bool) (s:ByteArray):Ac prog 93 [Hf H L,.agg [.bool b,.str s]] (.tup [.int .i64 (Ht (Sz H L b) s),.int .i64 (Gz (Sz H L b) s)]):=by
 refine Ab [] Jo_ func93 call93 ntmps93 mxd (Ap @Jo_.eq_1 results93) rfl (fun qJ B qX qQ=> ?_);clear qJ;simp only[Ak];have e1:=HI H L;have qL:=Nj_ H L;unfold Ht Gz
 by_cases h:s∈Sz H L b
 ·obtain⟨j,h1,h2⟩:=Nk_ h;rw[if_pos h,if_pos h];exact Al (Aq e1) Aa (BC qL h1 h2)
 ·have h1:=uU h;rw[if_neg h,if_neg h];exact Al (Aq e1) Aa (Ap qL h1)
def Jq_ : Ann:=⟨[],[]⟩
theorem Vr (H L:List ByteArray) (s:ByteArray):Ac prog 30 [Hf H L,.str s] (.tup [.int .i64 (Ht H s),.int .i64 (Gz H s)]):=by
 refine Ab [] Jq_ func30 call30 ntmps30 mxd (Ap @Jq_.eq_1 results30) rfl (fun qJ B qX qQ=> ?_);clear qJ;simp only[Ak];have e1:=Mv H L false s;rw[show Sz H L false=H from rfl]at e1;exact Al (Aq e1) Aa Aa
def Jm_ : Ann:=⟨[],[]⟩
theorem Ou (H L:List ByteArray) (s:ByteArray):Ac prog 95 [Hf H L,.str s] (.tup [.int .i64 (Ht L s),.int .i64 (Gz L s)]):=by
 refine Ab [] Jm_ func95 call95 ntmps95 mxd (Ap @Jm_.eq_1 results95) rfl (fun qJ B qX qQ=> ?_);clear qJ;simp only[Ak];have e1:=Mv H L true s;rw[show Sz H L true=L from rfl]at e1;exact Al (Aq e1) Aa Aa
def Fq (H L:List ByteArray) (x:Nd):Sym:=if x.k=3 then (if x.s∈L then ⟨true,LR L x.s⟩else ⟨false,0⟩)else if x.k=2 then (if x.s∈H then ⟨false,LR H x.s⟩else ⟨false,0⟩)else ⟨false,0⟩
def UC (H L:List ByteArray) (x:Nd):Int:=if x.k=3 then Gz L x.s else if x.k=2 then Gz H x.s else 2
def Du_ : Ann:=⟨[],[]⟩
theorem UD (H L:List ByteArray) (x:Nd):Ac prog 102 [Hf H L,.agg (BS x)] (.tup [.agg (AA (Fq H L x)),.int .i64 (UC H L x)]):=by
 refine Ab [] Du_ func102 call102 ntmps102 mxd (Ap @Du_.eq_1 results102) rfl (fun qJ B qX qQ=> ?_);clear qJ;simp only[Ak];have e1:=HI H L;have e2:=Vr H L x.s;have e3:=Ou H L x.s;unfold Fq UC
 by_cases k3:x.k=3
 ·by_cases h:x.s∈L
  ·simp only[Ht,Gz,h,if_true]at e3;exact Al (BC e1 e2 e3) Aa (Dx @BS.eq_1 @AA.eq_1 k3 h @Gz.eq_1)
  ·simp only[Ht,Gz,h,if_false]at e3;exact Al (BC e1 e2 e3) Aa (Dx @BS.eq_1 @AA.eq_1 k3 h @Gz.eq_1)
 ·have k3':(x.k==3)=false:=by simpa using k3
  by_cases k2:x.k=2
  ·by_cases h:x.s∈H
   ·simp only[Ht,Gz,h,if_true]at e2;exact Al (BC e1 e2 e3) Aa (Ez @BS.eq_1 @AA.eq_1 k3 k3' k2 h @Gz.eq_1)
   ·simp only[Ht,Gz,h,if_false]at e2;exact Al (BC e1 e2 e3) Aa (Ez @BS.eq_1 @AA.eq_1 k3 k3' k2 h @Gz.eq_1)
  ·have k2':(x.k==2)=false:=by simpa using k2
   exact Al (BC e1 e2 e3) Aa (EB @BS.eq_1 @AA.eq_1 k3 k3' k2 k2')
def Jp_ : Ann:=⟨[],[]⟩
theorem Lc (H L:List ByteArray):Ac prog 33 [Hf H L] (AJ H):=by
 refine Ab [] Jp_ func33 call33 ntmps33 mxd (Ap @Jp_.eq_1 results33) rfl (fun qJ B qX qQ=> ?_);clear qJ;simp only[Ak];have e1:=HI H L;have e2:=MW H;exact Al (Ap e1 e2) Aa Aa
theorem Nq {l:List ByteArray} {s:ByteArray} (h:s∈l):Ct l s=(LR l s:Int):=by
 unfold Ct LR;rw[if_pos (bW0.2 ⟨s,h,by simp⟩)]
theorem Rp {l:List ByteArray} {s:ByteArray} (h:¬s∈l):Ct l s= -1:=by
 unfold Ct;rw[if_neg (fun hh=>h (by obtain⟨x,hx,hs⟩:=bW0.1 hh;simp at hs;subst hs;exact hx))]
def Ds_ : Ann:=⟨[],[]⟩
theorem LC (l:List ByteArray) (s:ByteArray):Ac prog 296 [AJ l,.str s] (.tup [.int .i64 (Ht l s),.int .i64 (Gz l s)]):=by
 refine Ab [] Ds_ func296 call296 ntmps296 mxd (Ap @Ds_.eq_1 results296) rfl (fun qJ B qX qQ=> ?_);clear qJ;simp only[Ak];have e1:=Ol l s;unfold Ht Gz
 by_cases h:s∈l
 ·rw[Nq h]at e1;rw[if_pos h,if_pos h];have qV:¬(LR l s:Int)<0:=by omega
  exact Al (Aq e1) Aa (Aq qV)
 ·rw[Rp h]at e1;rw[if_neg h,if_neg h];exact Al (Aq e1) Aa Aa
def Dt_ : Ann:=⟨[],[]⟩
theorem Pz (g:List Rul) (x:Nd) (hn:((AW 3 g).length+1)*16<=150000000000000):Ac prog 208 [Az g,.agg (BS x)] (.tup [.agg (AA (Fq (Ay g) (AE g) x)),.int .i64 (UC (Ay g) (AE g) x)]):=by
 refine Ab [] Dt_ func208 call208 ntmps208 mxd (Ap @Dt_.eq_1 results208) rfl (fun qJ B qX qQ=> ?_);clear qJ;simp only[Ak];have e1:=Eg g;have e2:=Im g hn;obtain⟨H,hH⟩:∃H,H=Ay g:=⟨_,rfl⟩;obtain⟨L,hL⟩:∃L,L=AE g:=⟨_,rfl⟩;rw[<-hH]at e1;rw[<-hL]at e2;rw[<-hH,<-hL];have e3:=LC H x.s;have e4:=LC L x.s;unfold Fq UC
 by_cases k3:x.k=3
 ·by_cases h:x.s∈L
  ·simp only[Ht,Gz,h,if_true]at e4;exact Al (BC e1 e2 e4) Aa (Dx @BS.eq_1 @AA.eq_1 k3 h @Gz.eq_1)
  ·simp only[Ht,Gz,h,if_false]at e4;exact Al (BC e1 e2 e4) Aa (Dx @BS.eq_1 @AA.eq_1 k3 h @Gz.eq_1)
 ·have k3':(x.k==3)=false:=by simpa using k3
  by_cases k2:x.k=2
  ·by_cases h:x.s∈H
   ·simp only[Ht,Gz,h,if_true]at e3;exact Al (BC e1 e2 e3) Aa (Ez @BS.eq_1 @AA.eq_1 k3 k3' k2 h @Gz.eq_1)
   ·simp only[Ht,Gz,h,if_false]at e3;exact Al (BC e1 e2 e3) Aa (Ez @BS.eq_1 @AA.eq_1 k3 k3' k2 h @Gz.eq_1)
  ·have k2':(x.k==2)=false:=by simpa using k2
   exact Al Aa Aa (EB @BS.eq_1 @AA.eq_1 k3 k3' k2 k2')
def Ml_ (i j:Nat) (T:ByteArray):List Ent:=if T.size=0 then [⟨i,1,.row 338 2 32 [[.nilp,.nilsl]]⟩]else [⟨i,1,.row 338 2 32 [[.rx i 1 2 0 0,.osl j 1]]⟩,⟨j,1,.row 5 1 1 (Bh T)⟩]
theorem DE {i j:Nat} {T:ByteArray} (h:T.size=0):Ml_ i j T=[⟨i,1,.row 338 2 32 [[.nilp,.nilsl]]⟩]:=if_pos h
theorem CE {i j:Nat} {T:ByteArray} (h:T.size≠0):Ml_ i j T=[⟨i,1,.row 338 2 32 [[.rx i 1 2 0 0,.osl j 1]]⟩,⟨j,1,.row 5 1 1 (Bh T)⟩]:=if_neg h
theorem Pu {T:ByteArray} (h:T.size=0):T=⟨#[]⟩:=by
 obtain⟨a⟩:=T;have:a= #[]:=Array.eq_empty_of_size_eq_zero h;rw[this]
theorem NF (x:ByteArray):(⟨#[]⟩:ByteArray)++x=x:=by
 apply Ic
 simp[eZ0]
theorem Yy (a b c:ByteArray):a++b++c=a++(b++c):=by
 apply Ic
 simp[eZ0]
theorem Ni_ (T n:ByteArray):T++(n++⟨#[32,59,10]⟩)=FP T n:=by unfold FP;rw[Yy]
theorem uS (T:ByteArray) (x:Edge):T++(x.fr++⟨#[32]⟩++x.lb++⟨#[32]⟩++x.to++⟨#[32,59,10]⟩)=EZ T x:=by unfold EZ;simp only[Yy]
def NK : Ann:=⟨[17,37,39],[⟨1,[3],[],[]⟩,⟨9,[7],[],[]⟩]⟩
theorem aT (g:Edges) (hg:SmallG g):Ac prog 249 [.agg (BU g)] (.str (Pk g)):=by
 refine Ab [] NK func249 call249 ntmps249 mxd (Ap @NK.eq_1 results249) rfl (fun qJ B qX qQ=> ?_);clear qJ;simp only[Ak];obtain⟨R,yB⟩:∃R,R=Pk g:=⟨_,rfl⟩;rw[<-yB];have h1:=lG g;obtain⟨s1,s2⟩:=VC hg;obtain⟨L,hL⟩:∃L,L=LF g:=⟨_,rfl⟩;have hR:Pk g=g.edges.foldl EZ (L.foldl FP ⟨#[]⟩):=by rw[hL];rfl
 rw[hR]at yB;clear hR;rw[<-hL]at h1 s1 s2;clear hL;obtain⟨n1,n2,n3,n4⟩:=hg;obtain⟨ns,es⟩:=g;simp only[BU]at h1 n3 n4 yB;clear n1 n2;have hsL:=Kj L ⟨#[]⟩ s2;rw[show (⟨#[]⟩:ByteArray).size=0 from rfl]at hsL;have e0:(⟨#[]⟩:ByteArray).size<=maxLen:=cV0 _;have m3:3<=maxLen:=by unfold maxLen;omega
 have m1:1<=maxLen:=by unfold maxLen;omega
 refine AI fun K0 hK0=> ?_
 (first | refine AI fun K hK=> ?_ | (refine BR NK mxd (by kernel_rfl) ?_;simp[NK,qX,BU,e0];try simp (disch:=omega) only[Ao]) | refine Aw ?_ | (refine Bb ?_ ?_ ?_;(· (simp[qX,BU,e0];done));(try (rotate_left;(· (intro hc;(try simp[qX,BU,e0]at hc);done))))) | (refine AK ?_;simp[results249,qX,BU,e0]) | ((first | refine AD ?_ | refine AC ?_);simp[qX,BU,e0]) | (intro hc;(try simp[qX,BU,e0]at hc);(try (exfalso;omega))) | (refine⟨?_,?_⟩; · omega) | omega | apply_assumption -exfalso -symm | (exfalso;omega))
 apply hK0
 refine AI fun K1 hK1=> ?_
 refine KT (bs:=32) (k:=2) (z:=[.nilp,.nilsl]) (by simp[qX,ntmps249]) (by simp) (by rfl) rfl (by decide) (fun r hr=> ?_);simp
 apply hK1
 (refine Au (Aq h1) Aa (Ap @BU.eq_1 e0) ?_;intros;refine Ae ?_)
 refine Af (X:={k:Nat//k<=L.length}) (fun k=>⟨[(1,.ref [AJ ns,Cq es]),(3,.rx 3 1 2 0 0),(9,AJ L),(10,.int .i64 L.length),(11,.int .i64 k.1)],Ml_ 3 50 ((L.take k.1).foldl FP ⟨#[]⟩)⟩) (fun k=>L.length-k.1) ⟨0,by omega⟩ (Sub.lit (by simp only[eP0,List.foldl_nil,DE (T:=⟨#[]⟩) rfl];simp)) ?_;rintro⟨k,hk⟩
 by_cases qV:k<L.length
 ·obtain⟨x,hx,qU,wA⟩:=Ai qV;have qH:=II (f:=FP) (b:=⟨#[]⟩) hx;have qM:=Kj (L.take k) ⟨#[]⟩ fun n hn=>s2 n (cK0 hn)
  rw[show (⟨#[]⟩:ByteArray).size=0 from rfl,aT0]at qM;obtain⟨T,hT⟩:∃T,T=(L.take k).foldl FP ⟨#[]⟩:=⟨_,rfl⟩;rw[<-hT]at qH qM |-;have mG:=s2 x wA;have q1:x.size+3<=maxLen:=by unfold maxLen;omega
  have hsx:(x++⟨#[32,59,10]⟩:ByteArray).size=x.size+3:=by rw[aO0];rfl
  have hN:=Ni_ T x;have hNs:(FP T x).size≠0:=by rw[Uz];omega
  have wV:=CE (i:=3) (j:=50) hNs;rw[<-qH]at wV
  by_cases jR:T.size=0
  ·rw[DE jR];have e1:=DU (x++⟨#[32,59,10]⟩) (by omega);rw[Pu jR,NF]at hN
   (refine Au Aa (Aq (DF [(3,0)] [(50,1)] e1)) (OD @AG.eq_1 qV hx qU q1 @LA @aO0 m3 m1) ?_;intros;refine Ae ?_)
   refine Ag.mk ⟨k+1,by omega⟩ (Sub.lit (by rw[wV,qH,Pu jR,<-hN];simp)) (by simp;omega)
   skip
  ·rw[CE jR];have e1:=Cb T (x++⟨#[32,59,10]⟩) (by omega);rw[hN,<-qH]at e1
   (refine Au Aa (Aq (DF [(3,0),(50,1)] [] e1)) (OD @AG.eq_1 qV hx qU q1 @LA @aO0 m3 m1) ?_;intros;refine Ae ?_)
   refine Ag.mk ⟨k+1,by omega⟩ (Sub.lit (by rw[wV];simp)) (by simp;omega)
   skip
 ·have qY:k=L.length:=by omega
  subst qY;rw[aN0];obtain⟨S,hS⟩:∃S,S=L.foldl FP ⟨#[]⟩:=⟨_,rfl⟩;rw[<-hS]at hsL yB |-;clear hS
  by_cases hS0:S.size=0
  ·rw[DE hS0]
   (refine Au Aa Aa Aa ?_;intros;refine Ae ?_)
   refine Af (X:={k:Nat//k<=es.length}) (fun k=>⟨[(3,.rx 3 1 2 0 0),(20,Cq es),(21,.int .i64 es.length),(22,.int .i64 k.1)],Ml_ 3 50 ((es.take k.1).foldl EZ S)⟩) (fun k=>es.length-k.1) ⟨0,by omega⟩ (Sub.lit (by simp only[eP0,List.foldl_nil,DE hS0];simp)) ?_;rintro⟨k,hk⟩
   by_cases qV:k<es.length
   ·obtain⟨x,hx,qU,wA⟩:=Ai qV;have qH:=II (f:=EZ) (b:=S) hx;have qM:=NG (es.take k) S fun n hn=>n4 n (cK0 hn)
    rw[aT0]at qM;obtain⟨T,hT⟩:∃T,T=(es.take k).foldl EZ S:=⟨_,rfl⟩;rw[<-hT]at qH qM |-;obtain⟨x1,x2,x3⟩:=n4 x wA;have q1:x.fr.size+1<=maxLen:=by unfold maxLen;omega
    have q3:x.fr.size+1+x.lb.size<=maxLen:=by unfold maxLen;omega
    have q4:x.fr.size+1+x.lb.size+1<=maxLen:=by unfold maxLen;omega
    have q5:x.fr.size+1+x.lb.size+1+x.to.size<=maxLen:=by unfold maxLen;omega
    have q6:x.fr.size+1+x.lb.size+1+x.to.size+3<=maxLen:=by unfold maxLen;omega
    have hsx:(x.fr++⟨#[32]⟩++x.lb++⟨#[32]⟩++x.to++⟨#[32,59,10]⟩:ByteArray).size=x.fr.size+1+x.lb.size+1+x.to.size+3:=by simp only[aO0,LA,Pt]
    have hN:=uS T x;have hNs:(EZ T x).size≠0:=by rw[OG];omega
    have wV:=CE (i:=3) (j:=50) hNs;rw[<-qH]at wV
    by_cases jR:T.size=0
    ·rw[DE jR];have e1:=DU (x.fr++⟨#[32]⟩++x.lb++⟨#[32]⟩++x.to++⟨#[32,59,10]⟩) (by omega);rw[Pu jR,NF]at hN
     (refine Au Aa (Aq (DF [(3,0)] [(50,1)] e1)) (Tv @AO.eq_1 qV hx qU q1 q3 q4 q5 q6 @LA @Pt @aO0 m3 m1) ?_;intros;refine Ae ?_)
     refine Ag.mk ⟨k+1,by omega⟩ (Sub.lit (by rw[wV,qH,Pu jR,<-hN];simp)) (by simp;omega)
     skip
    ·rw[CE jR];have e1:=Cb T (x.fr++⟨#[32]⟩++x.lb++⟨#[32]⟩++x.to++⟨#[32,59,10]⟩) (by omega);rw[hN,<-qH]at e1
     (refine Au Aa (Aq (DF [(3,0),(50,1)] [] e1)) (Tv @AO.eq_1 qV hx qU q1 q3 q4 q5 q6 @LA @Pt @aO0 m3 m1) ?_;intros;refine Ae ?_)
     refine Ag.mk ⟨k+1,by omega⟩ (Sub.lit (by rw[wV];simp)) (by simp;omega)
     skip
   ·have qY:k=es.length:=by omega
    subst qY;rw[aN0,<-yB]
    by_cases yM:R.size=0
    ·rw[DE yM];have e1:=Lz;rw[<-Pu yM]at e1;exact Al Aa (Aq (DF [(3,0)] [] e1)) Aa
    ·rw[CE yM];have e1:=DV R yM;exact Al Aa (Aq (DF [(3,0),(50,1)] [] e1)) Aa
  ·rw[CE hS0]
   (refine Au Aa Aa Aa ?_;intros;refine Ae ?_)
   refine Af (X:={k:Nat//k<=es.length}) (fun k=>⟨[(3,.rx 3 1 2 0 0),(20,Cq es),(21,.int .i64 es.length),(22,.int .i64 k.1)],Ml_ 3 50 ((es.take k.1).foldl EZ S)⟩) (fun k=>es.length-k.1) ⟨0,by omega⟩ (Sub.lit (by simp only[eP0,List.foldl_nil,CE hS0];simp)) ?_;rintro⟨k,hk⟩
   by_cases qV:k<es.length
   ·obtain⟨x,hx,qU,wA⟩:=Ai qV;have qH:=II (f:=EZ) (b:=S) hx;have qM:=NG (es.take k) S fun n hn=>n4 n (cK0 hn)
    rw[aT0]at qM;obtain⟨T,hT⟩:∃T,T=(es.take k).foldl EZ S:=⟨_,rfl⟩;rw[<-hT]at qH qM |-;obtain⟨x1,x2,x3⟩:=n4 x wA;have q1:x.fr.size+1<=maxLen:=by unfold maxLen;omega
    have q3:x.fr.size+1+x.lb.size<=maxLen:=by unfold maxLen;omega
    have q4:x.fr.size+1+x.lb.size+1<=maxLen:=by unfold maxLen;omega
    have q5:x.fr.size+1+x.lb.size+1+x.to.size<=maxLen:=by unfold maxLen;omega
    have q6:x.fr.size+1+x.lb.size+1+x.to.size+3<=maxLen:=by unfold maxLen;omega
    have hsx:(x.fr++⟨#[32]⟩++x.lb++⟨#[32]⟩++x.to++⟨#[32,59,10]⟩:ByteArray).size=x.fr.size+1+x.lb.size+1+x.to.size+3:=by simp only[aO0,LA,Pt]
    have hN:=uS T x;have hNs:(EZ T x).size≠0:=by rw[OG];omega
    have wV:=CE (i:=3) (j:=50) hNs;rw[<-qH]at wV
    by_cases jR:T.size=0
    ·rw[DE jR];have e1:=DU (x.fr++⟨#[32]⟩++x.lb++⟨#[32]⟩++x.to++⟨#[32,59,10]⟩) (by omega);rw[Pu jR,NF]at hN
     (refine Au Aa (Aq (DF [(3,0)] [(50,1)] e1)) (Tv @AO.eq_1 qV hx qU q1 q3 q4 q5 q6 @LA @Pt @aO0 m3 m1) ?_;intros;refine Ae ?_)
     refine Ag.mk ⟨k+1,by omega⟩ (Sub.lit (by rw[wV,qH,Pu jR,<-hN];simp)) (by simp;omega)
     skip
    ·rw[CE jR];have e1:=Cb T (x.fr++⟨#[32]⟩++x.lb++⟨#[32]⟩++x.to++⟨#[32,59,10]⟩) (by omega);rw[hN,<-qH]at e1
     (refine Au Aa (Aq (DF [(3,0),(50,1)] [] e1)) (Tv @AO.eq_1 qV hx qU q1 q3 q4 q5 q6 @LA @Pt @aO0 m3 m1) ?_;intros;refine Ae ?_)
     refine Ag.mk ⟨k+1,by omega⟩ (Sub.lit (by rw[wV];simp)) (by simp;omega)
     skip
   ·have qY:k=es.length:=by omega
    subst qY;rw[aN0,<-yB]
    by_cases yM:R.size=0
    ·rw[DE yM];have e1:=Lz;rw[<-Pu yM]at e1;exact Al Aa (Aq (DF [(3,0)] [] e1)) Aa
    ·rw[CE yM];have e1:=DV R yM;exact Al Aa (Aq (DF [(3,0),(50,1)] [] e1)) Aa
def ED_ : Ann:=⟨[],[]⟩
theorem VV (s:ByteArray):Ac prog 231 [.str s] (.bool (EC 2 s)):=by
 refine Ab [] ED_ func231 call231 ntmps231 mxd (Ap @ED_.eq_1 results231) rfl (fun qJ B qX qQ=> ?_);clear qJ;simp only[Ak];have e1:=Yk 2 (.inl rfl) s;simp only[Cy]at e1;cases h:EC 2 s
 ·rw[h]at e1;exact Al (Aq e1) Aa Aa
 ·rw[h]at e1;exact Al (Aq e1) Aa Aa
def QX : Ann:=⟨[],[]⟩
theorem Tj (g:FuncId) (us cs:List DVal) (l:List Rul) (q:Rul->Bool) (hq:∀x∈l,Ac prog g (us++[.agg (Co x)]++cs) (.bool (q x))) :
  Ac prog 303 [Az l,.fn (.func g) us cs] (.int .i64 (if l.any q then ((l.findIdx q:Nat):Int)else -1)):=by
 refine Ab [] QX func303 call303 ntmps303 mxd (Ap @QX.eq_1 results303) rfl (fun qJ B qX qQ=> ?_);have wF:=Mz qJ.1;clear qJ;simp only[Ak]
 (refine Au Aa Aa Aa ?_;intros;refine Ae ?_)
 refine Af (X:={k:Nat//k<=l.length/\∀i x,i<k->l[i]? =some x->q x=false}) (fun x=>⟨[(0,Az l),(1,.fn (.func g) us cs),(7,.int .i64 l.length),(8,.int .i64 x.1)],[]⟩) (fun x=>l.length-x.1) ⟨0,by simp⟩ (Sub.lit (by simp)) ?_;rintro⟨k,hk,wE⟩
 by_cases qV:k<l.length
 ·obtain⟨x,hx,qU,wA⟩:=Ai qV;have yD:=hq x wA;simp only[Co,aR0,List.cons_append,List.nil_append]at yD;cases hb:q x
  ·rw[hb]at yD
   have jL:∀i y,i<k+1->l[i]? =some y->q y=false:=by
    intro i y hi hy
    by_cases fP:i=k
    ·subst fP;rw[hx]at hy;simp only[aA0]at hy;subst hy;exact hb
    ·exact wE i y (by omega) hy
   (refine Au (Aq yD) Aa (BC @Co.eq_1 qV qU) ?_;intros;refine Ae ?_)
   exact Ag.mk ⟨k+1,by omega,jL⟩ (Sub.lit (by simp[])) (by simp;omega)
   skip
  ·rw[hb]at yD;have wZ:l.any q=true:=bW0.2 ⟨x,wA,hb⟩
   have cG:l.findIdx q=k:=by
    rw[fD0 qV];refine⟨by rw[qU];exact hb,fun i hi=> ?_⟩;exact wE i _ hi (aD0 (by omega))
   exact Al (Aq yD) Aa (Dx @Co.eq_1 qV qU wZ cG)
 ·have qY:k=l.length:=by omega
  have wZ:l.any q=false:=by
   rw[cZ0];intro x hx;obtain⟨i,hi,rfl⟩:=bJ0 hx;rw[wE i _ (by omega) (aD0 hi)];simp
  (repeat (first | refine AI fun K hK=> ?_ | (refine BR QX mxd (by kernel_rfl) ?_;simp[QX,qX,Co,qY,wZ];try simp (disch:=omega) only[Ao]) | refine Aw ?_ | (refine Bb ?_ ?_ ?_;(· (simp[qX,Co,qY,wZ];done));(try (rotate_left;(· (intro hc;(try simp[qX,Co,qY,wZ]at hc);done))))) | (refine AK ?_;simp[results303,qX,Co,qY,wZ]) | ((first | refine AD ?_ | refine AC ?_);simp[qX,Co,qY,wZ]) | (intro hc;(try simp[qX,Co,qY,wZ]at hc);(try (exfalso;omega))) | ((first | refine An (yD) ?_ | (refine Am (yD) ?_ ?_;(· (simp;done))));try simp[qX,Co,qY,wZ]) | (refine⟨?_,?_⟩; · omega) | omega | apply_assumption -exfalso -symm | (exfalso;omega)))
def EG_ : Ann:=⟨[],[]⟩
theorem OY (g:FuncId) (us cs:List DVal) (l:List Rul) (q:Rul->Bool) (hq:∀x∈l,Ac prog g (us++[.agg (Co x)]++cs) (.bool (q x))) :
  Ac prog 228 [Az l,.fn (.func g) us cs] (.bool (l.any q)):=by
 refine Ab [] EG_ func228 call228 ntmps228 mxd (Ap @EG_.eq_1 results228) rfl (fun qJ B qX qQ=> ?_);simp only[Ak];have hi:=Tj g us cs l q hq;have kX:(0:Int)<=(l.findIdx q:Nat):=by omega
 cases hb:l.any q
 ·rw[hb]at hi;exact Al (Aq hi) Aa (Aq hb)
 ·rw[hb]at hi;exact Al (Aq hi) Aa (Aq hb)
def Ca_ (r:Rul):Bool:= !(EC 2 r.h&&Ei r.b)
def EE_ : Ann:=⟨[],[]⟩
theorem YM (r:Rul) (hs:r.b.length<=1572864):Ac prog 230 [.agg (Co r)] (.bool (Ca_ r)):=by
 refine Ab [] EE_ func230 call230 ntmps230 mxd (Ap @EE_.eq_1 results230) rfl (fun qJ B qX qQ=> ?_);clear qJ;simp only[Ak];have e1:=VV r.h;unfold Ca_;cases h1:EC 2 r.h
 ·rw[h1]at e1;exact Al (Aq e1) Aa (Aq @Co.eq_1)
 ·rw[h1]at e1;cases h2:Ei r.b
  ·have e2:=lS r.b hs h2;exact Al (Ap e1 e2) Aa (Aq @Co.eq_1)
  ·obtain⟨t,ht,hb⟩:=OE h2;have e2:=Ox t ht (by rw[<-hb];exact hs);rw[<-hb]at e2;have hp:1<=LS t:=by cases t;rw[lP];omega
   have qK:((LS t:Int)==0)=false:=by simp;omega
   exact Al (Ap e1 e2) Aa (Ap @Co.eq_1 qK)
def Ez_ : Ann:=⟨[],[]⟩
theorem KT_ (h:ByteArray) (t:RT) (ht:FU t=true) (hs:(flat t).length<=1572864):Ac prog 238 [.agg (Co ⟨h,flat t⟩)] (.bool (decide (16<LS t))):=by
 refine Ab [] Ez_ func238 call238 ntmps238 mxd (Ap @Ez_.eq_1 results238) rfl (fun qJ B qX qQ=> ?_);clear qJ;simp only[Ak];have e2:=Ox t ht hs;have hd:decide (16<LS t)=decide ((16:Int)<(LS t:Int)):=decide_eq_decide.2 (by omega);rw[hd];exact Al (Aq e2) Aa (Aq @Co.eq_1)
def EH_ : Ann:=⟨[],[]⟩
theorem Rr (f:FuncId) (g:List Rul) (q:Rul->Bool) (hq:∀x∈g,Ac prog f [.agg (Co x)] (.bool (q x))):Ac prog 227 [Az g,.ref [.fn (.func f) [] []]] (.bool (g.any q)):=by
 refine Ab [] EH_ func227 call227 ntmps227 mxd (Ap @EH_.eq_1 results227) rfl (fun qJ B qX qQ=> ?_);clear qJ;simp only[Ak];have e1:=OY f [] [] g q fun x hx=>by simpa using hq x hx
 exact Al (Aq e1) Aa Aa
def EF_ : Ann:=⟨[],[]⟩
theorem Rq (g:List Rul):Ac prog 229 [Az g] (.bool (decide (g.length<1)||decide (64<g.length))):=by
 refine Ab [] EF_ func229 call229 ntmps229 mxd (Ap @EF_.eq_1 results229) rfl (fun qJ B qX qQ=> ?_);clear qJ;simp only[Ak];have h1:decide (g.length<1)=decide ((g.length:Int)<1):=decide_eq_decide.2 (by omega);have h2:decide (64<g.length)=decide ((64:Int)<(g.length:Int)):=decide_eq_decide.2 (by omega);rw[h1,h2]
 by_cases c:(g.length:Int)<1
 ·exact Al Aa Aa (Aq c)
 ·exact Al Aa Aa (Aq c)
def Ey_ : Ann:=⟨[],[]⟩
theorem KS_ (g:List Rul) (hn:(AW 2 g).length<=9223372036854775807):Ac prog 239 [Az g] (.bool (decide (0<(DK g).length))):=by
 refine Ab [] Ey_ func239 call239 ntmps239 mxd (Ap @Ey_.eq_1 results239) rfl (fun qJ B qX qQ=> ?_);clear qJ;simp only[Ak];have e1:=LD g hn;have h2:decide (0<(DK g).length)=decide ((0:Int)<((DK g).length:Int)):=decide_eq_decide.2 (by omega);rw[h2];exact Al (Aq e1) Aa Aa
def EC_ : Ann:=⟨[],[]⟩
theorem KW_ (g:List Rul) (hl:g.length<=64) (hs:Fl g):Ac prog 233 [Az g] (.bool (decide (16<(Ay g).length+(DK g).length))):=by
 refine Ab [] EC_ func233 call233 ntmps233 mxd (Ap @EC_.eq_1 results233) rfl (fun qJ B qX qQ=> ?_);clear qJ;simp only[Ak];have n2:=Fc (k:=2) hs;have e1:=LD g (by omega);have e2:=Lo g;have b1:=Ln g
 have b2:(DK g).length<=110000000:=by
  have:=Gu (AW 2 g);have:=cG0 (fun s=> !decide (s∈Ay g)) (CD (AW 2 g));unfold DK;omega
 obtain⟨H,hH⟩:∃H,H=Ay g:=⟨_,rfl⟩;obtain⟨m,hm⟩:∃m,m=(DK g).length:=⟨_,rfl⟩;rw[<-hH]at e2 b1;rw[<-hm]at e1 b2;rw[<-hH,<-hm];have h2:decide (16<H.length+m)=decide ((16:Int)<(H.length:Int)+(m:Int)):=decide_eq_decide.2 (by omega);rw[h2];have w1:IntKind.i64.wrap ((H.length:Int)+(m:Int))=(H.length:Int)+(m:Int):=wq;exact Al (Ap e1 e2) Aa (Aq w1)
def EA_ : Ann:=⟨[],[⟨4,[5],[],[]⟩]⟩
theorem FZ_ (g:List Rul) (hs:Fl g) (hl:g.length<=64):Ac prog 237 [Az g] (.int .i64 (DG g)):=by
 refine Ab [] EA_ func237 call237 ntmps237 mxd (Ap @EA_.eq_1 results237) rfl (fun qJ B qX qQ=> ?_);clear qJ;simp only[Ak];have ho:=iP hs
 (refine Au Aa Aa Aa ?_;intros;refine Ae ?_)
 refine Af (X:={i:Nat//i<=g.length}) (fun i=>⟨[(0,Az g),(3,.int .i64 (DG (g.take i.1))),(6,Az g),(7,.int .i64 g.length),(8,.int .i64 i.1)],[]⟩) (fun i=>g.length-i.1) ⟨0,by omega⟩ (Sub.lit (by simp[DG])) ?_;rintro⟨i,hi⟩;simp only
 by_cases qV:i<g.length
 ·obtain⟨r,hr,qC,bP⟩:=Ai qV;have e1:=Vq r.b;have h1:=YS hr;have h2:=PK g (i+1);have h3:=iO r.b;have w1:IntKind.i64.wrap ((DG (g.take i):Int)+(HN r.b:Int))=(DG (g.take (i+1)):Int):=by rw[wq];omega
  have w2:IntKind.i64.wrap ((i:Int)+1)=(i:Int)+1:=wq
  (refine Au (Aq e1) Aa (EB @Co.eq_1 qV hr qC w1 w2) ?_;intros;refine Ae ?_)
  refine Ag.mk ⟨i+1,by omega⟩ (Sub.lit (by simp)) (by simp;omega)
  skip
 ·have qY:i=g.length:=by omega
  subst qY;rw[aN0];exact Al Aa Aa Aa
def EB_ : Ann:=⟨[],[]⟩
theorem KU_ (g:List Rul) (hs:Fl g) (hl:g.length<=64):Ac prog 236 [Az g] (.bool (decide (64<DG g))):=by
 refine Ab [] EB_ func236 call236 ntmps236 mxd (Ap @EB_.eq_1 results236) rfl (fun qJ B qX qQ=> ?_);clear qJ;simp only[Ak];have e1:=FZ_ g hs hl;have h2:decide (64<DG g)=decide ((64:Int)<(DG g:Int)):=decide_eq_decide.2 (by omega);rw[h2];exact Al (Aq e1) Aa Aa
def GP (t:RT):Bool:=decide ((flat t).length<=2048)&&decide (Em t=0)
def FM_ (t:RT):DVal:=if (flat t).length<=2048 then (if Em t=0 then .tup [.str (DN t),.int .i64 0]else .tup [.str ⟨#[]⟩,.int .i64 (Em t)])else .tup [.str ⟨#[]⟩,.int .i64 3]
def KQ : Ann:=⟨[],[]⟩
theorem XQ (t:RT) (ht:FU t=true):Ac prog 304 [Bl (flat t)] (FM_ t):=by
 unfold FM_
 by_cases hl:(flat t).length<=2048
 ·rw[if_pos hl];have e1:=Qq t ht hl;have e2:=Pl _ t rfl ht (by omega);obtain⟨b,hb⟩:∃b,b=flat t:=⟨_,rfl⟩;rw[<-hb]at e1 e2 |-
  by_cases h0:Em t=0
  ·rw[if_pos h0];rw[h0]at e1;refine Ab [] KQ func304 call304 ntmps304 mxd (Ap @KQ.eq_1 results304) rfl (fun qJ B qX qQ=> ?_);clear qJ;simp only[Ak];exact Al (Ap e1 e2) Aa Aa
  ·rw[if_neg h0];have zI:(Em t != 0)=true:=by simpa using h0
   refine Ab [] KQ func304 call304 ntmps304 mxd (Ap @KQ.eq_1 results304) rfl (fun qJ B qX qQ=> ?_);clear qJ;simp only[Ak];have z0:(⟨#[]⟩:ByteArray).size<=maxLen:=cV0 _;exact Al (Aq e1) Aa (BC h0 zI z0)
 ·rw[if_neg hl];have e1:=Qr (flat t) (by omega);obtain⟨b,hb⟩:∃b,b=flat t:=⟨_,rfl⟩;rw[<-hb]at e1 |-;refine Ab [] KQ func304 call304 ntmps304 mxd (Ap @KQ.eq_1 results304) rfl (fun qJ B qX qQ=> ?_);clear qJ;simp only[Ak];have z0:(⟨#[]⟩:ByteArray).size<=maxLen:=cV0 _;exact Al (Aq e1) Aa (Aq z0)
end Go.Proofs.Wy
end
