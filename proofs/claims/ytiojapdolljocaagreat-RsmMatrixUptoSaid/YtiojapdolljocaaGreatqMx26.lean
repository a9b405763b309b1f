/- Parts of a proof, laid together: RX4, RY2, RY3. -/
import Derived.Test.YtiojapdolljocaaGreatqMx15
import Derived.Test.YtiojapdolljocaaGreatqMx19
import Derived.Test.YtiojapdolljocaaGreatqMx21
import Derived.Test.YtiojapdolljocaaGreatqMx24
import Derived.Test.YtiojapdolljocaaGreatqMx25
set_option linter.unusedSimpArgs false
set_option maxHeartbeats 8000000
set_option linter.unusedVariables false
set_option linter.unusedSectionVars false
section
namespace Go.Proofs.Wy
open Go Go.Dm Tryz
variable [DMode]
attribute [local irreducible] DW Bs Bt
set_option maxRecDepth 100000
def Zt : Ann:=⟨[],[]⟩
theorem UK (k:Int):Ae prog 203 [.int .i64 k] (.str (aZ k)):=by
 refine Ac [] Zt func203 call203 ntmps203 mxd (Au @Zt.eq_1 results203) rfl (fun qJ B qX qQ=> ?_);simp only[Am];have z0:(⟨#[]⟩:ByteArray).size=0:=rfl;have z1:(⟨#[42]⟩:ByteArray).size=1:=rfl;have z2:(⟨#[43]⟩:ByteArray).size=1:=rfl;have z3:(⟨#[63]⟩:ByteArray).size=1:=rfl;have m1:1<=maxLen:=by decide
 unfold aZ
 by_cases k6:k=6
 ·exact Av Ab Ab (GN z0 z1 z2 z3 m1 k6)
 by_cases k7:k=7
 ·exact Av Ab Ab (Iw z0 z1 z2 z3 m1 k6 k7)
 by_cases k8:k=8
 ·exact Av Ab Ab (KQ z0 z1 z2 z3 m1 k6 k7 k8)
 exact Av Ab Ab (KQ z0 z1 z2 z3 m1 k6 k7 k8)
theorem GM_ {l:List Nat} {a:Nat} (h:a∈l):a<=l.sum:=by
 induction l with
 | nil=>simp at h
 | cons b l ih =>
  rw[dG0]
  rcases aK0.1 h with rfl | h
  ·omega
  ·have:=ih h;omega
theorem Tc {pk:Int} {ks:List RT} {i:Nat} {t:RT} (h:ks[i]? =some t):Dl pk (ks.take (i+1))=Dl pk (ks.take i)++[JD pk t.x.k (CR t)]:=by
 rw[Dp,Dp,bJ0,h,bD0];rfl
theorem PW (pk:Int) (ks:List RT):(Dl pk ks).length=ks.length:=by rw[Dp,aN0]
theorem NW (t:RT):(flat t)[0]? =some t.x:=by cases t;rfl
theorem Em {ks:List RT} {t:RT} (h:t∈ks):(flat t).length<=(Ak ks).length:=by
 induction ks with
 | nil=>simp at h
 | cons u ks ih =>
  rw[Ap,aC0]
  rcases aK0.1 h with rfl | h
  ·omega
  ·have:=ih h;omega
def Nf : Ann:=⟨[],[⟨1,[3],[],[]⟩]⟩
theorem LQ : ∀(n:Nat) (t:RT),(flat t).length=n->Ew t=true->(flat t).length<=1572864->Ae prog 158 [AU (flat t)] (.str (CR t)):=by
 intro n
 induction n using Nat.strongRecOn with
 | ind n ih =>
 intro t hn ht hs;obtain⟨x,ks⟩:=t;have kk:=XQ x ks ht hs;obtain⟨hm,hkn,qW⟩:=Cj ht;have qP:=(HI _ ht);have h0:=NW (.mk x ks);have wO:0<(flat (.mk x ks)).length:=GB _;have vP:(flat (.mk x ks)).length=(Ak ks).length+1:=by rw[AO,List.length_cons]
 have wR:=Ct ks
 have kY:∀u∈ks,Ae prog 158 [AU (flat u)] (.str (CR u)):=fun u hu=>by
  have:=Em hu;exact ih (flat u).length (by omega) u rfl (Pv qW u hu) (by omega)
 have hsj:=Kl x.k ks qW
 have hparts:∀y∈Dl x.k ks,1<=y.size/\y.size<=67108864:=fun y hy=>by
  refine⟨hsj.2 y hy,?_⟩;have:y.size+3<=((Dl x.k ks).map fun y=>y.size+3).sum:=GM_ (aT0.2 ⟨y,hy,rfl⟩);omega
 have kj:=AI_ (Dl x.k ks) (MU x.k) (Il _) (by rw[PW];omega) hparts;have kg:=UK x.k;have pK:=II (Dl x.k ks) (MU x.k) (Il _);have hgs:=WM x.k;rw[Pn];have fG:((Dl x.k ks).map fun y=>y.size+3).sum<=37748736:=by omega
 clear ih hn qP;obtain⟨l,hl⟩:∃l,l=flat (.mk x ks):=⟨_,rfl⟩;rw[<-hl]at kk h0 wO |-;have vS:l[0]'wO=x:=(aB0.1 h0).2;have z0:(⟨#[]⟩:ByteArray).size=0:=rfl;have z1:(⟨#[37]⟩:ByteArray).size=1:=rfl;have z2:(⟨#[32]⟩:ByteArray).size=1:=rfl;have z3:(⟨#[32,124,32]⟩:ByteArray).size=3:=rfl;have z4:(⟨#[40]⟩:ByteArray).size=1:=rfl;have z5:(⟨#[41]⟩:ByteArray).size=1:=rfl;have m1:1<=maxLen:=by decide
 have m3:3<=maxLen:=by decide
 refine Ac [] Nf func158 call158 ntmps158 mxd (Au @Nf.eq_1 results158) rfl (fun qJ B qX qQ=> ?_);clear qJ;simp only[Am];obtain⟨b,hb⟩:∃b,b=MU x.k:=⟨_,rfl⟩;have hbz:b=MU x.k:=hb;rw[<-hb]at kj |-;unfold MU at hb
 rcases Kv hm with k | k | k | k | k | k | k | k
 ·exact Av (AD kk) Ab (KQ @Bq.eq_1 h0 vS wO z0 z1 m1 k)
 ·exact Av (AD kk) Ab (KQ @Bq.eq_1 h0 vS wO z0 z1 m1 k)
 ·exact Av (AD kk) Ab (KQ @Bq.eq_1 h0 vS wO z0 z1 m1 k)
 all_goals
  have k1:¬x.k=1:=by omega
  have k2:¬(x.k=2\/x.k=3):=by omega
  rw[if_neg k1,if_neg k2];have qT:=hb;simp only[k]at qT
  try simp at qT
  (refine AG (AD kk) Ab (Jn @Bq.eq_1 h0 vS wO z0 z1 z2 z3 m1 m3 k) ?_;intros;refine Ah ?_)
  refine BO 5 50 9 1 16 (by simp[qX,results158,Nf]) (fun n=> ?_);refine Ai (X:={i:Nat//i<=ks.length}) (fun i=>⟨[(3,.ref [.int .i64 x.k,.str x.s,.int .i64 x.n]),(4,.str b),(5,.osl 50 1),(26,dTs ks),(27,.int .i64 ks.length),(28,.int .i64 i.1)],[⟨50,1,.row 9 1 16 ((Dl x.k (ks.take i.1)).map AH)⟩]⟩) (fun i=>ks.length-i.1) ⟨0,by omega⟩ (Sub.lit (by simp[k,qT,LP])) ?_;clear hb qT k kk;rintro⟨i,hi⟩;simp only
  by_cases qV:i<ks.length
  ·obtain⟨u,hu,vZ,hum⟩:=Ao qV;have ku:=kY u hum;have g0:=NW u;have gl:0<(flat u).length:=GB u;have vE:=HI u (Pv qW u hum);have pW:=Em hum;have wH:=Tc (pk:=x.k) hu;have zY:JD x.k u.x.k (CR u)=if CA_ x.k u.x.k then ⟨#[40]⟩++CR u++⟨#[41]⟩else CR u:=rfl
   unfold CA_ at zY;obtain⟨m,gS⟩:∃m,m=flat u:=⟨_,rfl⟩;have hfm:flat u=m:=gS.symm;rw[<-gS]at ku g0 gl vE pW;obtain⟨s,yO⟩:∃s,s=CR u:=⟨_,rfl⟩;rw[<-yO]at ku vE zY wH;have g0':m[0]'gl=u.x:=(aB0.1 g0).2;obtain⟨P,hP⟩:∃P,P=JD x.k u.x.k s:=⟨_,rfl⟩;rw[<-hP]at zY wH;have yK:(Dl x.k (ks.take i)).length=i:=by rw[PW,bA0];omega
   obtain⟨T,hT⟩:∃T,T=Dl x.k (ks.take i):=⟨_,rfl⟩;rw[<-hT]at wH yK |-;have y1:(i+1)*16<=150000000000000:=by omega
   have y2:i+1<=9223372036854775807:=by omega
   have y3:1+s.size<=maxLen:=by unfold maxLen;omega
   have y4:1+s.size+1<=maxLen:=by unfold maxLen;omega
   by_cases p5:u.x.k=5
   ·simp[p5]at zY
    (refine AG (AD ku) Ab (Au (No @dT.eq_1 @Bq.eq_1 hfm qV hu vZ g0 g0' gl p5 y1 y2 y3 y4 z4 z5) (CD m1 yK @aQ0)) ?_;intros;refine Ah ?_)
    refine Aj.mk ⟨i+1,by omega⟩ (Sub.lit (by simp[wH,zY,AH])) (by simp;omega)
    skip
   ·have p5':(u.x.k==5)=false:=by simpa using p5
    by_cases p4:u.x.k=4
    ·by_cases q5:x.k=5
     ·simp[p4,q5]at zY
      (refine AG (AD ku) Ab (Au (No @dT.eq_1 @Bq.eq_1 hfm qV hu vZ g0 g0' gl p4 p5 p5' q5 y1 y2 y3) (GN y4 z4 z5 m1 yK @aQ0)) ?_;intros;refine Ah ?_)
      have htk5:=wH;rw[q5]at htk5;refine Aj.mk ⟨i+1,by omega⟩ (Sub.lit (by simp[htk5,zY,AH,q5])) (by simp;omega)
      skip
     ·have q5':(x.k==5)=false:=by simpa using q5
      simp[p4,q5]at zY
      (refine AG (AD ku) Ab (Au (No @dT.eq_1 @Bq.eq_1 hfm qV hu vZ g0 g0' gl p4 p5 p5' q5 q5' y1 y2) (Iw y3 y4 z4 z5 m1 yK @aQ0)) ?_;intros;refine Ah ?_)
      refine Aj.mk ⟨i+1,by omega⟩ (Sub.lit (by simp[wH,zY,AH])) (by simp;omega)
      skip
    ·have p4':(u.x.k==4)=false:=by simpa using p4
     simp[p4,p5]at zY
     (refine AG (AD ku) Ab (Au (No @dT.eq_1 @Bq.eq_1 hfm qV hu vZ g0 g0' gl p4 p4' p5 p5' y1 y2 y3) (GN y4 z4 z5 m1 yK @aQ0)) ?_;intros;refine Ah ?_)
     refine Aj.mk ⟨i+1,by omega⟩ (Sub.lit (by simp[wH,zY,AH])) (by simp;omega)
     skip
  ·have qZ:i=ks.length:=by omega
   subst qZ;rw[aW0];obtain⟨J,hJ⟩:∃J,J=FK (Dl x.k ks) b:=⟨_,rfl⟩;have hJs:J.size<=37748736:=by rw[hJ];exact Nat.le_trans (II _ _ (by rw[hbz];exact Il _)) fG
   rw[<-hJ]at kj |-;have y5:J.size+(aZ x.k).size<=maxLen:=by unfold maxLen;omega
   refine Kj (Sub.freezeL [50] _) ?_;simp[qX,results158,Nf];exact Av (Au kj kg) Ab (AD y5)
def Df (t:RT):Int:=if 16<Jk t then 171 else if 2048<(CR t).size then 174 else 0
def Zu : Ann:=⟨[],[]⟩
theorem Sd (t:RT) (ht:Ew t=true) (hs:(flat t).length<=1572864):Ae prog 104 [AU (flat t)] (.int .i64 (Df t)):=by
 refine Ac [] Zu func104 call104 ntmps104 mxd (Au @Zu.eq_1 results104) rfl (fun qJ B qX qQ=> ?_);clear qJ;simp only[Am];have k1:=JR t ht hs;have k2:=LQ _ t rfl ht hs;unfold Df;obtain⟨T,hT⟩:∃T,T=CR t:=⟨_,rfl⟩;rw[<-hT]at k2 |-
 by_cases c1:16<Jk t
 ·have d1:(16:Int)<(Jk t:Int):=by omega
  exact Av (Au k1 k2) Ab (Au c1 d1)
 ·have d1:¬(16:Int)<(Jk t:Int):=by omega
  by_cases c2:2048<T.size
  ·have d2:(2048:Int)<(T.size:Int):=by omega
   exact Av (Au k1 k2) Ab (GV c1 d1 c2 d2)
  ·have d2:¬(2048:Int)<(T.size:Int):=by omega
   exact Av (Au k1 k2) Ab (GV c1 d1 c2 d2)
def KD : Ann:=⟨[],[]⟩
theorem MP (t:RT) (ht:Ew t=true) (h:(flat t).length<=2048):Ae prog 55 [AU (flat t)] (.int .i64 (Df t)):=by
 refine Ac [] KD func55 call55 ntmps55 mxd (Au @KD.eq_1 results55) rfl (fun qJ B qX qQ=> ?_);clear qJ;simp only[Am];have k1:=FO (flat t) (by omega);rw[EV ht]at k1;have k2:=Sd t ht (by omega);have d1:¬(2048:Int)<((flat t).length:Int):=by omega
 have d2:¬2048<(flat t).length:=by omega
 exact Av (Au k1 k2) Ab (Au d1 d2)
theorem MQ (l:List Nd) (h:2048<l.length):Ae prog 55 [AU l] (.int .i64 3):=by
 refine Ac [] KD func55 call55 ntmps55 mxd (Au @KD.eq_1 results55) rfl (fun qJ B qX qQ=> ?_);clear qJ;simp only[Am];have d1:(2048:Int)<(l.length:Int):=by omega
 exact Av Ab Ab (Au d1 h)
theorem Yz (l:List Nd) (h:l.length<=2048) (hw:Dd l=false):Ae prog 55 [AU l] (.int .i64 170):=by
 refine Ac [] KD func55 call55 ntmps55 mxd (Au @KD.eq_1 results55) rfl (fun qJ B qX qQ=> ?_);clear qJ;simp only[Am];have k1:=FO l (by omega);rw[hw]at k1;have d1:¬(2048:Int)<(l.length:Int):=by omega
 have d2:¬2048<l.length:=by omega
 exact Av (AD k1) Ab (Au d1 d2)
def Ng : Ann:=⟨[],[]⟩
theorem Le (t:RT) (ht:Ew t=true) (hs:(flat t).length<=1572864):Ae prog 143 [AU (flat t)] (.int .i64 (Jk t)):=by
 refine Ac [] Ng func143 call143 ntmps143 mxd (Au @Ng.eq_1 results143) rfl (fun qJ B qX qQ=> ?_);clear qJ;simp only[Am];have k1:=FO (flat t) hs;rw[EV ht]at k1;have k2:=JR t ht hs;exact Av (Au k1 k2) Ab Ab
theorem VB (l:List Nd) (hs:l.length<=1572864) (hw:Dd l=false):Ae prog 143 [AU l] (.int .i64 0):=by
 refine Ac [] Ng func143 call143 ntmps143 mxd (Au @Ng.eq_1 results143) rfl (fun qJ B qX qQ=> ?_);clear qJ;simp only[Am];have k1:=FO l hs;rw[hw]at k1;exact Av (AD k1) Ab Ab
structure At (l:List Nd) (p:Nat) (t:RT):Prop where
 ok:Ew t=true
 le:p<=l.length
 eq:∃r,l.drop p=flat t++r
def AP (p:Nat) (ks:List RT) (i:Nat):Nat:=p+1+(Ak (ks.take i)).length
def HX (n:Nat):List DVal:=[.int .i64 (n:Int)]
def JM (p:Nat) (ks:List RT):DVal:= .sl 1 8 ((List.range ks.length).map fun i=>HX (AP p ks i))
@[simp] theorem Fn_ (n:Nat):AL (HX n)=0:=by simp[HX,AL,mx]
@[simp] theorem Ha (p:Nat) (ks:List RT) (n:Nat):Bp ((List.range n).map fun i=>HX (AP p ks i))=0:=HT (fun i=>HX (AP p ks i)) (fun i=>Fn_ _) _
theorem At.top {t:RT} (h:Ew t=true):At (flat t) 0 t:=⟨h,by omega,[],by simp⟩
theorem At.kid {l:List Nd} {p:Nat} {x:Nd} {ks:List RT} (h:At l p (.mk x ks)) {i:Nat} {u:RT} (hu:ks[i]? =some u):At l (AP p ks i) u/\EN (l.drop (AP p ks i)) 1=some (l.drop (AP p ks (i+1)))/\AP p ks (i+1)<=l.length:=by
 obtain⟨qW,yW,r,hr⟩:=h;obtain⟨_,_,h3⟩:=Cj qW;obtain⟨hi,rfl⟩:=aB0.1 hu;have qU:(l.drop p).length=1+(Ak ks).length+r.length:=by rw[hr,AO,aC0,List.length_cons];omega
 rw[cF0]at qU;have jI:=JW ks i;have hdr:=aS0 hi;have wK:=LB (ks:=ks) hu;have vP:(Ak ks).length=(Ak (ks.take i)).length+((flat ks[i]).length+(Ak (ks.drop (i+1))).length):=by rw[jI,aC0,hdr,Ap,aC0]
 have yR:l.drop (AP p ks i)=flat ks[i]++(Ak (ks.drop (i+1))++r):=by
  unfold AP;rw[cQ0,<-eV0,hr,AO,Nat.add_comm 1,List.cons_append,dS0,jI,aV0,dT0 (Nat.le_refl _),bT0,List.nil_append,hdr,Ap,aV0]
 have hoku:Ew ks[i]=true:=Pv h3 _ (bW0 hi);refine⟨⟨hoku,by unfold AP;omega,_,yR⟩,?_,by unfold AP;omega⟩;rw[yR,Gd _ _ 0 hoku,Cu]
 congr 1
 have h5:AP p ks (i+1)=AP p ks i+(flat ks[i]).length:=by unfold AP;omega
 have h6:l.drop (AP p ks i+(flat ks[i]).length)=(l.drop (AP p ks i)).drop (flat ks[i]).length:=by rw[eV0]
 rw[h5,h6,yR,dT0 (Nat.le_refl _),bT0,List.nil_append]
theorem At.head {l:List Nd} {p:Nat} {t:RT} (h:At l p t):l[p]? =some t.x/\p<l.length/\p+(flat t).length<=l.length:=by
 obtain⟨qW,yW,r,hr⟩:=h;have h1:=GB t;have h2:=congrArg List.length hr;rw[cF0,aC0]at h2;refine⟨?_,by omega,by omega⟩;have h3:(l.drop p)[0]? =some t.x:=by rw[hr,aZ0 (by omega)];exact NW t
 rw[cL0]at h3;simpa using h3
def Sn : Ann:=⟨[],[]⟩
theorem El (l:List Nd) (p:Nat) (x:Nd) (ks:List RT) (h:At l p (.mk x ks)) (hs:l.length<=1572864):Ae prog 130 [AU l,.int .i64 p] (JM p ks):=by
 refine Ac [50] Sn func130 call130 ntmps130 mxd (Au @Sn.eq_1 results130) rfl (fun qJ B qX qQ=> ?_) (hd:=(by simp[mx,JM]));clear qJ;simp only[Am];obtain⟨hm,hn,qW⟩:=Cj h.ok;obtain⟨g0,gl,ge⟩:=h.head;have g0':l[p]'gl=x:=(aB0.1 g0).2;have wR:ks.length<=1572864:=by have:=Ct ks;rw[AO,List.length_cons]at ge;omega
 simp only[RT.x]at g0;unfold JM
 (refine AG Ab Ab Ab ?_;intros;refine Ah ?_)
 refine BO 5 50 3 1 8 (by simp[qX,results130,Sn]) (fun n=> ?_);refine Ai (X:={i:Nat//i<=ks.length}) (fun i=>⟨[(0,AU l),(1,.int .i64 p),(5,.osl 50 1),(6,.int .i64 (AP p ks i.1)),(7,.int .i64 i.1)],[⟨50,1,.row 3 1 8 ((List.range i.1).map fun i=>HX (AP p ks i))⟩]⟩) (fun i=>ks.length-i.1) ⟨0,by omega⟩ (Sub.lit (by simp[AP,Ak])) ?_;rintro⟨i,hi⟩;simp only
 by_cases qV:i<ks.length
 ·obtain⟨u,hu,vZ,_⟩:=Ao qV;obtain⟨a1,a2,a3⟩:=h.kid hu;have e1:=JZ l (AP p ks i) hs a1.le;unfold lB at e1;rw[a2]at e1;simp only[cF0]at e1;have hq:(l.length:Int)-((l.length-AP p ks (i+1):Nat):Int)=(AP p ks (i+1):Int):=by omega
  rw[hq]at e1;have hr:(List.range (i+1)).map (fun i=>HX (AP p ks i))=(List.range i).map (fun i=>HX (AP p ks i))++[HX (AP p ks i)]:=by rw[List.range_succ,bD0];rfl
  have z1:(i+1)*8<=150000000000000:=by omega
  have z2:i+1<=9223372036854775807:=by omega
  obtain⟨q,hqq⟩:∃q,q=AP p ks i:=⟨_,rfl⟩;obtain⟨q',hqq'⟩:∃q',q'=AP p ks (i+1):=⟨_,rfl⟩;rw[<-hqq,<-hqq']at e1;rw[<-hqq]at hr |-;have wI:=Ha p ks i;have wQ:((List.range i).map fun i=>HX (AP p ks i)).length=i:=by simp
  obtain⟨D,hD⟩:∃D,D=(List.range i).map fun i=>HX (AP p ks i):=⟨_,rfl⟩
  rw[<-hD]at hr wI wQ |-;have bB:(List.range (i+1)).map (fun i=>HX (AP p ks i))=D++[[.int .i64 (q:Int)]]:=hr;clear hD hr
  (refine AG (AD e1) Ab (Ut @Bq.eq_1 g0 g0' gl hn qV z1 z2 wQ) ?_;intros;refine Ah ?_)
  refine Aj.mk ⟨i+1,by omega⟩ (Sub.lit (by simp only[<-hqq',bB];simp[wI,Bx])) (by simp;omega)
  skip
 ·have qZ:i=ks.length:=by omega
  subst qZ;exact Av Ab Ab (Jh @Bq.eq_1 g0 g0' gl hn)
theorem XT : ∀(a:List RT) (u:RT),SR (a++[u])=max (SR a) (Jk u)
 | [],u=>by rw[List.nil_append,Ia,MB];omega
 | t::a,u=>by rw[List.cons_append,Ia,XT a u,Ia];omega
theorem Do_ {ks:List RT} {i:Nat} {u:RT} (h:ks[i]? =some u):SR (ks.take (i+1))=max (SR (ks.take i)) (Jk u):=by
 rw[bJ0,h];exact XT _ _
mutual
theorem GN_ : ∀t:RT,Jk t<=(flat t).length
 | .mk x ks=>by rw[Vz,AO,List.length_cons];have:=iP ks;omega
theorem iP : ∀ts:List RT,SR ts<=(Ak ts).length
 | []=>by rw[MB];omega
 | t::ts=>by rw[Ia,Ap,aC0];have:=GN_ t;have:=iP ts;omega
end
theorem SS (ks:List RT) (i:Nat):(Ak (ks.take i)).length<=(Ak ks).length:=by
 have:=congrArg List.length (JW ks i);rw[aC0]at this;omega
theorem Gv {p:Nat} {ks:List RT} {i:Nat} (h:i<ks.length):((List.range ks.length).map fun i=>HX (AP p ks i))[i]? =some [.int .i64 (AP p ks i:Int)]:=by
 rw[bK0,List.getElem?_range h];rfl
def Zn : Ann:=⟨[],[]⟩
theorem JQ : ∀(n:Nat) (t:RT) (l:List Nd) (p:Nat),(flat t).length=n->At l p t->l.length<=1572864->Ae prog 186 [AU l,.int .i64 p] (.int .i64 (Jk t)):=by
 intro n
 induction n using Nat.strongRecOn with
 | ind n ih =>
 intro t l p hn ht hs;obtain⟨x,ks⟩:=t;have kk:=El l p x ks ht hs;obtain⟨g0,gl,ge⟩:=ht.head;have vP:(flat (.mk x ks)).length=(Ak ks).length+1:=by rw[AO,List.length_cons]
 have wR:=Ct ks;have hk9:ks.length<=1572864:=by omega
 have kY:∀i u,ks[i]? =some u->Ae prog 186 [AU l,.int .i64 (AP p ks i)] (.int .i64 (Jk u)):=fun i u hu=>by
  have hm:=Em (bP0 hu);exact ih (flat u).length (by omega) u l _ rfl (ht.kid hu).1 hs
 have qK:∀i,i<ks.length->_:=fun i h=>Gv (p:=p) (ks:=ks) (i:=i) h
 have hht:SR ks<=1572864:=by have:=iP ks;omega
 rw[Vz];unfold JM at kk;obtain⟨D,hD⟩:∃D,D=(List.range ks.length).map fun i=>HX (AP p ks i):=⟨_,rfl⟩
 have wQ:D.length=ks.length:=by rw[hD];simp
 have wI:Bp D=0:=by rw[hD];exact Ha p ks _
 rw[<-hD]at kk qK;clear hD ih ht g0 gl ge hn;refine Ac [] Zn func186 call186 ntmps186 mxd (Au @Zn.eq_1 results186) rfl (fun qJ B qX qQ=> ?_);clear qJ;simp only[Am]
 (refine AG (AD kk) Ab Ab ?_;intros;refine Ah ?_)
 refine Ai (X:={i:Nat//i<=ks.length}) (fun i=>⟨[(0,AU l),(5,.int .i64 (SR (ks.take i.1))),(6,.sl 1 8 D),(7,.int .i64 i.1)],[]⟩) (fun i=>ks.length-i.1) ⟨0,by omega⟩ (Sub.lit (by simp[MB,wI])) ?_;rintro⟨i,hi⟩;simp only
 by_cases qV:i<ks.length
 ·obtain⟨u,hu,vZ,_⟩:=Ao qV;have e1:=kY i u hu;have hr:=qK i qV;have qO:i<D.length:=by omega
  have wC:IntKind.i64.wrap ((i:Int)+1)=(i:Int)+1:=wq;have qG:D[i]'qO=[.int .i64 (AP p ks i:Int)]:=(aB0.1 hr).2;have wH:=Do_ hu;obtain⟨a,ha⟩:∃a,a=SR (ks.take i):=⟨_,rfl⟩;obtain⟨c,wU⟩:∃c,c=Jk u:=⟨_,rfl⟩;rw[<-ha,<-wU]at wH;rw[<-wU]at e1;rw[<-ha];obtain⟨q,hq⟩:∃q,q=AP p ks i:=⟨_,rfl⟩;rw[<-hq]at e1 hr qG
  by_cases hgt:a<c
  ·have hgt':(a:Int)<(c:Int):=by omega
   have vA:((SR (ks.take (i+1)):Nat):Int)=(c:Int):=by omega
   (refine AG (AD e1) Ab (KQ wQ qO wC hr qG hgt hgt' qV) ?_;intros;refine Ah ?_)
   refine Aj.mk ⟨i+1,by omega⟩ (Sub.lit (by simp only[vA];simp[wI])) (by simp;omega)
   skip
  ·have hgt':¬(a:Int)<(c:Int):=by omega
   have vA:((SR (ks.take (i+1)):Nat):Int)=(a:Int):=by omega
   (refine AG (AD e1) Ab (KQ wQ qO wC hr qG hgt hgt' qV) ?_;intros;refine Ah ?_)
   refine Aj.mk ⟨i+1,by omega⟩ (Sub.lit (by simp only[vA];simp[wI])) (by simp;omega)
   skip
 ·have qZ:i=ks.length:=by omega
  subst qZ;rw[aW0];have q1:IntKind.i64.wrap ((SR ks:Int)+1)=(SR ks:Int)+1:=wq;exact Av Ab Ab (Au wQ q1)
theorem Ep_ {α:Type} {f:α->Bool} {l:List α} {i:Nat} {u:α} (h:l[i]? =some u):(l.take (i+1)).any f=((l.take i).any f||f u):=by
 rw[bJ0,h,eN0];simp
theorem Ew_ {α:Type} {f:α->Bool} {l:List α} {i:Nat} {u:α} (h:l[i]? =some u):(l.take (i+1)).all f=((l.take i).all f&&f u):=by
 rw[bJ0,h,List.all_append];simp
def tE : Ann:=⟨[],[]⟩
theorem FW : ∀(n:Nat) (t:RT) (l:List Nd) (p:Nat),(flat t).length=n->At l p t->l.length<=1572864->Ae prog 91 [AU l,.int .i64 p] (.bool (BU t)):=by
 intro n
 induction n using Nat.strongRecOn with
 | ind n ih =>
 intro t l p hn ht hs;obtain⟨x,ks⟩:=t;have kk:=El l p x ks ht hs;have hm:=(Cj ht.ok).1;obtain⟨g0,gl,ge⟩:=ht.head;simp only[RT.x]at g0;have g0':l[p]'gl=x:=(aB0.1 g0).2;have vP:(flat (.mk x ks)).length=(Ak ks).length+1:=by rw[AO,List.length_cons]
 have wR:=Ct ks;have hk9:ks.length<=1572864:=by omega
 have kY:∀i u,ks[i]? =some u->Ae prog 91 [AU l,.int .i64 (AP p ks i)] (.bool (BU u)):=fun i u hu=>by
  have hm:=Em (bP0 hu);exact ih (flat u).length (by omega) u l _ rfl (ht.kid hu).1 hs
 have qK:∀i,i<ks.length->_:=fun i h=>Gv (p:=p) (ks:=ks) (i:=i) h
 rw[VK,Na,Nn];unfold JM at kk;obtain⟨D,hD⟩:∃D,D=(List.range ks.length).map fun i=>HX (AP p ks i):=⟨_,rfl⟩
 have wQ:D.length=ks.length:=by rw[hD];simp
 have wI:Bp D=0:=by rw[hD];exact Ha p ks _
 rw[<-hD]at kk qK;clear hD ih ht ge hn;refine Ac [] tE func91 call91 ntmps91 mxd (Au @tE.eq_1 results91) rfl (fun qJ B qX qQ=> ?_);clear qJ;simp only[Am]
 (refine AG (AD kk) Ab (GV @Bq.eq_1 g0 g0' gl) ?_;intros;refine Ah ?_)
 refine Ai (X:={i:Nat//i<=ks.length}) (fun i=>⟨[(0,AU l),(5,.int .i64 x.k),(6,.sl 1 8 D),(7,.bool ((ks.take i.1).any BU)),(8,.bool ((ks.take i.1).all BU)),(9,.int .i64 i.1)],[]⟩) (fun i=>ks.length-i.1) ⟨0,by omega⟩ (Sub.lit (by simp[wI])) ?_;rintro⟨i,hi⟩;simp only
 by_cases qV:i<ks.length
 ·obtain⟨u,hu,vZ,_⟩:=Ao qV;have e1:=kY i u hu;have hr:=qK i qV;have qO:i<D.length:=by omega
  have wC:IntKind.i64.wrap ((i:Int)+1)=(i:Int)+1:=wq;have qG:D[i]'qO=[.int .i64 (AP p ks i:Int)]:=(aB0.1 hr).2;have h1:=Ep_ (f:=BU) hu;have h2:=Ew_ (f:=BU) hu;obtain⟨a,ha⟩:∃a,a=(ks.take i).any BU:=⟨_,rfl⟩;obtain⟨b,hb⟩:∃b,b=(ks.take i).all BU:=⟨_,rfl⟩;rw[<-ha]at h1;rw[<-hb]at h2;rw[<-ha,<-hb];obtain⟨q,hq⟩:∃q,q=AP p ks i:=⟨_,rfl⟩;rw[<-hq]at e1 hr qG
  (refine AG (AD e1) Ab (GN wQ qO wC hr qG qV) ?_;intros;refine Ah ?_)
  refine Aj.mk ⟨i+1,by omega⟩ (Sub.lit (by simp only[h1,h2];simp[wI])) (by simp;omega)
  skip
 ·have qZ:i=ks.length:=by omega
  subst qZ;rw[aW0]
  rcases Kv hm with k | k | k | k | k | k | k | k<;>exact Av Ab Ab (Au wQ k)
end Go.Proofs.Wy
end
