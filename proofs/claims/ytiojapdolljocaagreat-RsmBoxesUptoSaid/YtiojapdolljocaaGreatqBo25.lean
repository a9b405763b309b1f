/- Parts of a proof, laid together: RX4, RY2, RY3, RY4, WE0. -/
import Derived.Test.YtiojapdolljocaaGreatqBo15
import Derived.Test.YtiojapdolljocaaGreatqBo18
import Derived.Test.YtiojapdolljocaaGreatqBo19
import Derived.Test.YtiojapdolljocaaGreatqBo20
import Derived.Test.YtiojapdolljocaaGreatqBo21
import Derived.Test.YtiojapdolljocaaGreatqBo23
import Derived.Test.YtiojapdolljocaaGreatqBo24
set_option linter.unusedSimpArgs false
set_option maxHeartbeats 8000000
set_option linter.unusedVariables false
set_option linter.unusedSectionVars false
section
namespace Go.Proofs.Wy
open Go Go.Dm Tryz
variable [DMode]
attribute [local irreducible] DW Bm Bq
set_option maxRecDepth 100000
def XO : Ann:=⟨[],[]⟩
theorem Tr (k:Int):Ae prog 203 [.int .i64 k] (.str (YQ k)):=by
 refine Ac [] XO func203 call203 ntmps203 mxd (Ar @XO.eq_1 results203) rfl (fun qJ B qX qQ=> ?_);simp only[Ak];have z0:(⟨#[]⟩:ByteArray).size=0:=rfl;have z1:(⟨#[42]⟩:ByteArray).size=1:=rfl;have z2:(⟨#[43]⟩:ByteArray).size=1:=rfl;have z3:(⟨#[63]⟩:ByteArray).size=1:=rfl;have m1:1<=maxLen:=by decide
 unfold YQ
 by_cases k6:k=6
 ·exact Aw Ab Ab (MY z0 z1 z2 z3 m1 k6)
 by_cases k7:k=7
 ·exact Aw Ab Ab (NA z0 z1 z2 z3 m1 k6 k7)
 by_cases k8:k=8
 ·exact Aw Ab Ab (Mi z0 z1 z2 z3 m1 k6 k7 k8)
 exact Aw Ab Ab (Mi z0 z1 z2 z3 m1 k6 k7 k8)
theorem Ek_ {l:List Nat} {a:Nat} (h:a∈l):a<=l.sum:=by
 induction l with
 | nil=>simp at h
 | cons b l ih =>
  rw[cW0]
  rcases aJ0.1 h with rfl | h
  ·omega
  ·have:=ih h;omega
theorem RD {pk:Int} {ks:List RT} {i:Nat} {t:RT} (h:ks[i]? =some t):Db pk (ks.take (i+1))=Db pk (ks.take i)++[IC pk t.x.k (CH t)]:=by
 rw[De,De,bP0,h,bF0];rfl
theorem OI (pk:Int) (ks:List RT):(Db pk ks).length=ks.length:=by rw[De,aO0]
theorem ML (t:RT):(flat t)[0]? =some t.x:=by cases t;rfl
theorem Js {ks:List RT} {t:RT} (h:t∈ks):(flat t).length<=(Ah ks).length:=by
 induction ks with
 | nil=>simp at h
 | cons u ks ih =>
  rw[Aq,aB0]
  rcases aJ0.1 h with rfl | h
  ·omega
  ·have:=ih h;omega
def LW : Ann:=⟨[],[⟨1,[3],[],[]⟩]⟩
theorem KO : ∀(n:Nat) (t:RT),(flat t).length=n->EZ t=true->(flat t).length<=1572864->Ae prog 158 [Bl (flat t)] (.str (CH t)):=by
 intro n
 induction n using Nat.strongRecOn with
 | ind n ih =>
 intro t hn ht hs;obtain⟨x,ks⟩:=t;have kk:=Wt x ks ht hs;obtain⟨hm,hkn,qW⟩:=Cx ht;have qF:=(GI _ ht);have h0:=ML (.mk x ks);have wX:0<(flat (.mk x ks)).length:=FO _;have zL:(flat (.mk x ks)).length=(Ah ks).length+1:=by rw[AR,List.length_cons]
 have wH:=EB ks
 have dM:∀u∈ks,Ae prog 158 [Bl (flat u)] (.str (CH u)):=fun u hu=>by
  have:=Js hu;exact ih (flat u).length (by omega) u rfl (Oj qW u hu) (by omega)
 have hsj:=Jg x.k ks qW
 have hparts:∀y∈Db x.k ks,1<=y.size/\y.size<=67108864:=fun y hy=>by
  refine⟨hsj.2 y hy,?_⟩;have:y.size+3<=((Db x.k ks).map fun y=>y.size+3).sum:=Ek_ (aR0.2 ⟨y,hy,rfl⟩);omega
 have kj:=sB (Db x.k ks) (LN x.k) (Hl _) (by rw[OI];omega) hparts;have kg:=Tr x.k;have nA:=HI (Db x.k ks) (LN x.k) (Hl _);have hgs:=Vm x.k;rw[Oa];have jE:((Db x.k ks).map fun y=>y.size+3).sum<=37748736:=by omega
 clear ih hn qF;obtain⟨l,hl⟩:∃l,l=flat (.mk x ks):=⟨_,rfl⟩;rw[<-hl]at kk h0 wX |-;have vD:l[0]'wX=x:=(aG0.1 h0).2;have z0:(⟨#[]⟩:ByteArray).size=0:=rfl;have z1:(⟨#[37]⟩:ByteArray).size=1:=rfl;have z2:(⟨#[32]⟩:ByteArray).size=1:=rfl;have z3:(⟨#[32,124,32]⟩:ByteArray).size=3:=rfl;have z4:(⟨#[40]⟩:ByteArray).size=1:=rfl;have z5:(⟨#[41]⟩:ByteArray).size=1:=rfl;have m1:1<=maxLen:=by decide
 have m3:3<=maxLen:=by decide
 refine Ac [] LW func158 call158 ntmps158 mxd (Ar @LW.eq_1 results158) rfl (fun qJ B qX qQ=> ?_);clear qJ;simp only[Ak];obtain⟨b,hb⟩:∃b,b=LN x.k:=⟨_,rfl⟩;have hbz:b=LN x.k:=hb;rw[<-hb]at kj |-;unfold LN at hb
 rcases MD hm with k | k | k | k | k | k | k | k
 ·exact Aw (AJ kk) Ab (Mi @BM.eq_1 h0 vD wX z0 z1 m1 k)
 ·exact Aw (AJ kk) Ab (Mi @BM.eq_1 h0 vD wX z0 z1 m1 k)
 ·exact Aw (AJ kk) Ab (Mi @BM.eq_1 h0 vD wX z0 z1 m1 k)
 all_goals
  have k1:¬x.k=1:=by omega
  have k2:¬(x.k=2\/x.k=3):=by omega
  rw[if_neg k1,if_neg k2];have wM:=hb;simp only[k]at wM
  try simp at wM
  (refine AX (AJ kk) Ab (Yn @BM.eq_1 h0 vD wX z0 z1 z2 z3 m1 m3 k) ?_;intros;refine Am ?_)
  refine Ci 5 50 9 1 16 (by simp[qX,results158,LW]) (fun n=> ?_);refine Al (X:={i:Nat//i<=ks.length}) (fun i=>⟨[(3,.ref [.int .i64 x.k,.str x.s,.int .i64 x.n]),(4,.str b),(5,.osl 50 1),(26,dTs ks),(27,.int .i64 ks.length),(28,.int .i64 i.1)],[⟨50,1,.row 9 1 16 ((Db x.k (ks.take i.1)).map AE)⟩]⟩) (fun i=>ks.length-i.1) ⟨0,by omega⟩ (Sub.lit (by simp[k,wM,KN])) ?_;clear hb wM k kk;rintro⟨i,hi⟩;simp only
  by_cases qV:i<ks.length
  ·obtain⟨u,hu,zX,hum⟩:=Ax qV;have ku:=dM u hum;have g0:=ML u;have gl:0<(flat u).length:=FO u;have vO:=GI u (Oj qW u hum);have nX:=Js hum;have wD:=RD (pk:=x.k) hu;have vP:IC x.k u.x.k (CH u)=if xO x.k u.x.k then ⟨#[40]⟩++CH u++⟨#[41]⟩else CH u:=rfl
   unfold xO at vP;obtain⟨m,hm2⟩:∃m,m=flat u:=⟨_,rfl⟩;have hfm:flat u=m:=hm2.symm;rw[<-hm2]at ku g0 gl vO nX;obtain⟨s,kZ⟩:∃s,s=CH u:=⟨_,rfl⟩;rw[<-kZ]at ku vO vP wD;have g0':m[0]'gl=u.x:=(aG0.1 g0).2;obtain⟨P,hP⟩:∃P,P=IC x.k u.x.k s:=⟨_,rfl⟩;rw[<-hP]at vP wD;have jI:(Db x.k (ks.take i)).length=i:=by rw[OI,bD0];omega
   obtain⟨T,hT⟩:∃T,T=Db x.k (ks.take i):=⟨_,rfl⟩;rw[<-hT]at wD jI |-;have y1:(i+1)*16<=150000000000000:=by omega
   have y2:i+1<=9223372036854775807:=by omega
   have y3:1+s.size<=maxLen:=by unfold maxLen;omega
   have y4:1+s.size+1<=maxLen:=by unfold maxLen;omega
   by_cases p5:u.x.k=5
   ·simp[p5]at vP
    (refine AX (AJ ku) Ab (Ar (Md @dT.eq_1 @BM.eq_1 hfm qV hu zX g0 g0' gl p5 y1 y2 y3 y4 z4 z5) (GE m1 jI @aQ0)) ?_;intros;refine Am ?_)
    refine An.mk ⟨i+1,by omega⟩ (Sub.lit (by simp[wD,vP,AE])) (by simp;omega)
    skip
   ·have p5':(u.x.k==5)=false:=by simpa using p5
    by_cases p4:u.x.k=4
    ·by_cases q5:x.k=5
     ·simp[p4,q5]at vP
      (refine AX (AJ ku) Ab (Ar (Md @dT.eq_1 @BM.eq_1 hfm qV hu zX g0 g0' gl p4 p5 p5' q5 y1 y2 y3) (MY y4 z4 z5 m1 jI @aQ0)) ?_;intros;refine Am ?_)
      have htk5:=wD;rw[q5]at htk5;refine An.mk ⟨i+1,by omega⟩ (Sub.lit (by simp[htk5,vP,AE,q5])) (by simp;omega)
      skip
     ·have q5':(x.k==5)=false:=by simpa using q5
      simp[p4,q5]at vP
      (refine AX (AJ ku) Ab (Ar (Md @dT.eq_1 @BM.eq_1 hfm qV hu zX g0 g0' gl p4 p5 p5' q5 q5' y1 y2) (NA y3 y4 z4 z5 m1 jI @aQ0)) ?_;intros;refine Am ?_)
      refine An.mk ⟨i+1,by omega⟩ (Sub.lit (by simp[wD,vP,AE])) (by simp;omega)
      skip
    ·have p4':(u.x.k==4)=false:=by simpa using p4
     simp[p4,p5]at vP
     (refine AX (AJ ku) Ab (Ar (Md @dT.eq_1 @BM.eq_1 hfm qV hu zX g0 g0' gl p4 p4' p5 p5' y1 y2 y3) (MY y4 z4 z5 m1 jI @aQ0)) ?_;intros;refine Am ?_)
     refine An.mk ⟨i+1,by omega⟩ (Sub.lit (by simp[wD,vP,AE])) (by simp;omega)
     skip
  ·have qZ:i=ks.length:=by omega
   subst qZ;rw[bC0];obtain⟨J,hJ⟩:∃J,J=Fe (Db x.k ks) b:=⟨_,rfl⟩;have hJs:J.size<=37748736:=by rw[hJ];exact Nat.le_trans (HI _ _ (by rw[hbz];exact Hl _)) jE
   rw[<-hJ]at kj |-;have y5:J.size+(YQ x.k).size<=maxLen:=by unfold maxLen;omega
   refine KK (Sub.freezeL [50] _) ?_;simp[qX,results158,LW];exact Aw (Ar kj kg) Ab (AJ y5)
def CV (t:RT):Int:=if 16<Ih t then 171 else if 2048<(CH t).size then 174 else 0
def XP : Ann:=⟨[],[]⟩
theorem QF (t:RT) (ht:EZ t=true) (hs:(flat t).length<=1572864):Ae prog 104 [Bl (flat t)] (.int .i64 (CV t)):=by
 refine Ac [] XP func104 call104 ntmps104 mxd (Ar @XP.eq_1 results104) rfl (fun qJ B qX qQ=> ?_);clear qJ;simp only[Ak];have k1:=IR t ht hs;have k2:=KO _ t rfl ht hs;unfold CV;obtain⟨T,hT⟩:∃T,T=CH t:=⟨_,rfl⟩;rw[<-hT]at k2 |-
 by_cases c1:16<Ih t
 ·have d1:(16:Int)<(Ih t:Int):=by omega
  exact Aw (Ar k1 k2) Ab (Ar c1 d1)
 ·have d1:¬(16:Int)<(Ih t:Int):=by omega
  by_cases c2:2048<T.size
  ·have d2:(2048:Int)<(T.size:Int):=by omega
   exact Aw (Ar k1 k2) Ab (Ik c1 d1 c2 d2)
  ·have d2:¬(2048:Int)<(T.size:Int):=by omega
   exact Aw (Ar k1 k2) Ab (Ik c1 d1 c2 d2)
def Jz : Ann:=⟨[],[]⟩
theorem LI (t:RT) (ht:EZ t=true) (h:(flat t).length<=2048):Ae prog 55 [Bl (flat t)] (.int .i64 (CV t)):=by
 refine Ac [] Jz func55 call55 ntmps55 mxd (Ar @Jz.eq_1 results55) rfl (fun qJ B qX qQ=> ?_);clear qJ;simp only[Ak];have k1:=Fg (flat t) (by omega);rw[Ev ht]at k1;have k2:=QF t ht (by omega);have d1:¬(2048:Int)<((flat t).length:Int):=by omega
 have d2:¬2048<(flat t).length:=by omega
 exact Aw (Ar k1 k2) Ab (Ar d1 d2)
theorem LJ (l:List Nd) (h:2048<l.length):Ae prog 55 [Bl l] (.int .i64 3):=by
 refine Ac [] Jz func55 call55 ntmps55 mxd (Ar @Jz.eq_1 results55) rfl (fun qJ B qX qQ=> ?_);clear qJ;simp only[Ak];have d1:(2048:Int)<(l.length:Int):=by omega
 exact Aw Ab Ab (Ar d1 h)
theorem Xb (l:List Nd) (h:l.length<=2048) (hw:CT l=false):Ae prog 55 [Bl l] (.int .i64 170):=by
 refine Ac [] Jz func55 call55 ntmps55 mxd (Ar @Jz.eq_1 results55) rfl (fun qJ B qX qQ=> ?_);clear qJ;simp only[Ak];have k1:=Fg l (by omega);rw[hw]at k1;have d1:¬(2048:Int)<(l.length:Int):=by omega
 have d2:¬2048<l.length:=by omega
 exact Aw (AJ k1) Ab (Ar d1 d2)
def LX : Ann:=⟨[],[]⟩
theorem Kb (t:RT) (ht:EZ t=true) (hs:(flat t).length<=1572864):Ae prog 143 [Bl (flat t)] (.int .i64 (Ih t)):=by
 refine Ac [] LX func143 call143 ntmps143 mxd (Ar @LX.eq_1 results143) rfl (fun qJ B qX qQ=> ?_);clear qJ;simp only[Ak];have k1:=Fg (flat t) hs;rw[Ev ht]at k1;have k2:=IR t ht hs;exact Aw (Ar k1 k2) Ab Ab
theorem Ui (l:List Nd) (hs:l.length<=1572864) (hw:CT l=false):Ae prog 143 [Bl l] (.int .i64 0):=by
 refine Ac [] LX func143 call143 ntmps143 mxd (Ar @LX.eq_1 results143) rfl (fun qJ B qX qQ=> ?_);clear qJ;simp only[Ak];have k1:=Fg l hs;rw[hw]at k1;exact Aw (AJ k1) Ab Ab
structure At (l:List Nd) (p:Nat) (t:RT):Prop where
 ok:EZ t=true
 le:p<=l.length
 eq:∃r,l.drop p=flat t++r
def Cz (p:Nat) (ks:List RT) (i:Nat):Nat:=p+1+(Ah (ks.take i)).length
def Kt (n:Nat):List DVal:=[.int .i64 (n:Int)]
def Ws (p:Nat) (ks:List RT):DVal:= .sl 1 8 ((List.range ks.length).map fun i=>Kt (Cz p ks i))
@[simp] theorem CE_ (n:Nat):AH (Kt n)=0:=by simp[Kt,AH,mx]
@[simp] theorem TV (p:Nat) (ks:List RT) (n:Nat):Bo ((List.range n).map fun i=>Kt (Cz p ks i))=0:=Ie (fun i=>Kt (Cz p ks i)) (fun i=>CE_ _) _
theorem At.top {t:RT} (h:EZ t=true):At (flat t) 0 t:=⟨h,by omega,[],by simp⟩
theorem At.kid {l:List Nd} {p:Nat} {x:Nd} {ks:List RT} (h:At l p (.mk x ks)) {i:Nat} {u:RT} (hu:ks[i]? =some u):At l (Cz p ks i) u/\Eo (l.drop (Cz p ks i)) 1=some (l.drop (Cz p ks (i+1)))/\Cz p ks (i+1)<=l.length:=by
 obtain⟨qW,yL,r,hr⟩:=h;obtain⟨_,_,h3⟩:=Cx qW;obtain⟨hi,rfl⟩:=aG0.1 hu;have qU:(l.drop p).length=1+(Ah ks).length+r.length:=by rw[hr,AR,aB0,List.length_cons];omega
 rw[cB0]at qU;have kK:=IV ks i;have hdr:=aW0 hi;have wP:=PX (ks:=ks) hu;have zL:(Ah ks).length=(Ah (ks.take i)).length+((flat ks[i]).length+(Ah (ks.drop (i+1))).length):=by rw[kK,aB0,hdr,Aq,aB0]
 have yO:l.drop (Cz p ks i)=flat ks[i]++(Ah (ks.drop (i+1))++r):=by
  unfold Cz;rw[cR0,<-List.drop_drop,hr,AR,Nat.add_comm 1,List.cons_append,dP0,kK,aT0,eC0 (Nat.le_refl _),cN0,List.nil_append,hdr,Aq,aT0]
 have hoku:EZ ks[i]=true:=Oj h3 _ (bT0 hi);refine⟨⟨hoku,by unfold Cz;omega,_,yO⟩,?_,by unfold Cz;omega⟩;rw[yO,Fv _ _ 0 hoku,Ch]
 congr 1
 have h5:Cz p ks (i+1)=Cz p ks i+(flat ks[i]).length:=by unfold Cz;omega
 have h6:l.drop (Cz p ks i+(flat ks[i]).length)=(l.drop (Cz p ks i)).drop (flat ks[i]).length:=by rw[List.drop_drop]
 rw[h5,h6,yO,eC0 (Nat.le_refl _),cN0,List.nil_append]
theorem At.head {l:List Nd} {p:Nat} {t:RT} (h:At l p t):l[p]? =some t.x/\p<l.length/\p+(flat t).length<=l.length:=by
 obtain⟨qW,yL,r,hr⟩:=h;have h1:=FO t;have h2:=congrArg List.length hr;rw[cB0,aB0]at h2;refine⟨?_,by omega,by omega⟩;have h3:(l.drop p)[0]? =some t.x:=by rw[hr,aV0 (by omega)];exact ML t
 rw[cJ0]at h3;simpa using h3
def QN : Ann:=⟨[],[]⟩
theorem Nk (l:List Nd) (p:Nat) (x:Nd) (ks:List RT) (h:At l p (.mk x ks)) (hs:l.length<=1572864):Ae prog 130 [Bl l,.int .i64 p] (Ws p ks):=by
 refine Ac [50] QN func130 call130 ntmps130 mxd (Ar @QN.eq_1 results130) rfl (fun qJ B qX qQ=> ?_) (hd:=(by simp[mx,Ws]));clear qJ;simp only[Ak];obtain⟨hm,hn,qW⟩:=Cx h.ok;obtain⟨g0,gl,ge⟩:=h.head;have g0':l[p]'gl=x:=(aG0.1 g0).2;have wH:ks.length<=1572864:=by have:=EB ks;rw[AR,List.length_cons]at ge;omega
 simp only[RT.x]at g0;unfold Ws
 (refine AX Ab Ab Ab ?_;intros;refine Am ?_)
 refine Ci 5 50 3 1 8 (by simp[qX,results130,QN]) (fun n=> ?_);refine Al (X:={i:Nat//i<=ks.length}) (fun i=>⟨[(0,Bl l),(1,.int .i64 p),(5,.osl 50 1),(6,.int .i64 (Cz p ks i.1)),(7,.int .i64 i.1)],[⟨50,1,.row 3 1 8 ((List.range i.1).map fun i=>Kt (Cz p ks i))⟩]⟩) (fun i=>ks.length-i.1) ⟨0,by omega⟩ (Sub.lit (by simp[Cz,Ah])) ?_;rintro⟨i,hi⟩;simp only
 by_cases qV:i<ks.length
 ·obtain⟨u,hu,zX,_⟩:=Ax qV;obtain⟨a1,a2,a3⟩:=h.kid hu;have e1:=Nt l (Cz p ks i) hs a1.le;unfold ZI at e1;rw[a2]at e1;simp only[cB0]at e1;have hq:(l.length:Int)-((l.length-Cz p ks (i+1):Nat):Int)=(Cz p ks (i+1):Int):=by omega
  rw[hq]at e1;have hr:(List.range (i+1)).map (fun i=>Kt (Cz p ks i))=(List.range i).map (fun i=>Kt (Cz p ks i))++[Kt (Cz p ks i)]:=by rw[List.range_succ,bF0];rfl
  have z1:(i+1)*8<=150000000000000:=by omega
  have z2:i+1<=9223372036854775807:=by omega
  obtain⟨q,hqq⟩:∃q,q=Cz p ks i:=⟨_,rfl⟩;obtain⟨q',hqq'⟩:∃q',q'=Cz p ks (i+1):=⟨_,rfl⟩;rw[<-hqq,<-hqq']at e1;rw[<-hqq]at hr |-;have kP:=TV p ks i;have yI:((List.range i).map fun i=>Kt (Cz p ks i)).length=i:=by simp
  obtain⟨D,hD⟩:∃D,D=(List.range i).map fun i=>Kt (Cz p ks i):=⟨_,rfl⟩
  rw[<-hD]at hr kP yI |-;have gU:(List.range (i+1)).map (fun i=>Kt (Cz p ks i))=D++[[.int .i64 (q:Int)]]:=hr;clear hD hr
  (refine AX (AJ e1) Ab (YF @BM.eq_1 g0 g0' gl hn qV z1 z2 yI) ?_;intros;refine Am ?_)
  refine An.mk ⟨i+1,by omega⟩ (Sub.lit (by simp only[<-hqq',gU];simp[kP,Br])) (by simp;omega)
  skip
 ·have qZ:i=ks.length:=by omega
  subst qZ;exact Aw Ab Ab (Mj @BM.eq_1 g0 g0' gl hn)
theorem Ww : ∀(a:List RT) (u:RT),Rt (a++[u])=max (Rt a) (Ih u)
 | [],u=>by rw[List.nil_append,GZ,Lw];omega
 | t::a,u=>by rw[List.cons_append,GZ,Ww a u,GZ];omega
theorem AF_ {ks:List RT} {i:Nat} {u:RT} (h:ks[i]? =some u):Rt (ks.take (i+1))=max (Rt (ks.take i)) (Ih u):=by
 rw[bP0,h];exact Ww _ _
mutual
theorem El_ : ∀t:RT,Ih t<=(flat t).length
 | .mk x ks=>by rw[Ug,AR,List.length_cons];have:=Zz ks;omega
theorem Zz : ∀ts:List RT,Rt ts<=(Ah ts).length
 | []=>by rw[Lw];omega
 | t::ts=>by rw[GZ,Aq,aB0];have:=El_ t;have:=Zz ts;omega
end
theorem Ru (ks:List RT) (i:Nat):(Ah (ks.take i)).length<=(Ah ks).length:=by
 have:=congrArg List.length (IV ks i);rw[aB0]at this;omega
theorem Wq {p:Nat} {ks:List RT} {i:Nat} (h:i<ks.length):((List.range ks.length).map fun i=>Kt (Cz p ks i))[i]? =some [.int .i64 (Cz p ks i:Int)]:=by
 rw[bM0,List.getElem?_range h];rfl
def XJ : Ann:=⟨[],[]⟩
theorem IQ : ∀(n:Nat) (t:RT) (l:List Nd) (p:Nat),(flat t).length=n->At l p t->l.length<=1572864->Ae prog 186 [Bl l,.int .i64 p] (.int .i64 (Ih t)):=by
 intro n
 induction n using Nat.strongRecOn with
 | ind n ih =>
 intro t l p hn ht hs;obtain⟨x,ks⟩:=t;have kk:=Nk l p x ks ht hs;obtain⟨g0,gl,ge⟩:=ht.head;have zL:(flat (.mk x ks)).length=(Ah ks).length+1:=by rw[AR,List.length_cons]
 have wH:=EB ks;have hk9:ks.length<=1572864:=by omega
 have dM:∀i u,ks[i]? =some u->Ae prog 186 [Bl l,.int .i64 (Cz p ks i)] (.int .i64 (Ih u)):=fun i u hu=>by
  have hm:=Js (bU0 hu);exact ih (flat u).length (by omega) u l _ rfl (ht.kid hu).1 hs
 have wN:∀i,i<ks.length->_:=fun i h=>Wq (p:=p) (ks:=ks) (i:=i) h
 have hht:Rt ks<=1572864:=by have:=Zz ks;omega
 rw[Ug];unfold Ws at kk;obtain⟨D,hD⟩:∃D,D=(List.range ks.length).map fun i=>Kt (Cz p ks i):=⟨_,rfl⟩
 have yI:D.length=ks.length:=by rw[hD];simp
 have kP:Bo D=0:=by rw[hD];exact TV p ks _
 rw[<-hD]at kk wN;clear hD ih ht g0 gl ge hn;refine Ac [] XJ func186 call186 ntmps186 mxd (Ar @XJ.eq_1 results186) rfl (fun qJ B qX qQ=> ?_);clear qJ;simp only[Ak]
 (refine AX (AJ kk) Ab Ab ?_;intros;refine Am ?_)
 refine Al (X:={i:Nat//i<=ks.length}) (fun i=>⟨[(0,Bl l),(5,.int .i64 (Rt (ks.take i.1))),(6,.sl 1 8 D),(7,.int .i64 i.1)],[]⟩) (fun i=>ks.length-i.1) ⟨0,by omega⟩ (Sub.lit (by simp[Lw,kP])) ?_;rintro⟨i,hi⟩;simp only
 by_cases qV:i<ks.length
 ·obtain⟨u,hu,zX,_⟩:=Ax qV;have e1:=dM i u hu;have hr:=wN i qV;have qT:i<D.length:=by omega
  have kS:IntKind.i64.wrap ((i:Int)+1)=(i:Int)+1:=wq;have wJ:D[i]'qT=[.int .i64 (Cz p ks i:Int)]:=(aG0.1 hr).2;have wD:=AF_ hu;obtain⟨a,ha⟩:∃a,a=Rt (ks.take i):=⟨_,rfl⟩;obtain⟨c,wI⟩:∃c,c=Ih u:=⟨_,rfl⟩;rw[<-ha,<-wI]at wD;rw[<-wI]at e1;rw[<-ha];obtain⟨q,hq⟩:∃q,q=Cz p ks i:=⟨_,rfl⟩;rw[<-hq]at e1 hr wJ
  by_cases hgt:a<c
  ·have hgt':(a:Int)<(c:Int):=by omega
   have vU:((Rt (ks.take (i+1)):Nat):Int)=(c:Int):=by omega
   (refine AX (AJ e1) Ab (Mi yI qT kS hr wJ hgt hgt' qV) ?_;intros;refine Am ?_)
   refine An.mk ⟨i+1,by omega⟩ (Sub.lit (by simp only[vU];simp[kP])) (by simp;omega)
   skip
  ·have hgt':¬(a:Int)<(c:Int):=by omega
   have vU:((Rt (ks.take (i+1)):Nat):Int)=(a:Int):=by omega
   (refine AX (AJ e1) Ab (Mi yI qT kS hr wJ hgt hgt' qV) ?_;intros;refine Am ?_)
   refine An.mk ⟨i+1,by omega⟩ (Sub.lit (by simp only[vU];simp[kP])) (by simp;omega)
   skip
 ·have qZ:i=ks.length:=by omega
  subst qZ;rw[bC0];have q1:IntKind.i64.wrap ((Rt ks:Int)+1)=(Rt ks:Int)+1:=wq;exact Aw Ab Ab (Ar yI q1)
theorem xS {ks:List RT} (h:Fs ks=true) (i:Nat):Fs (ks.take i)=true:=by
 have:=Ol (ks.take i) (ks.drop i);rw[List.take_append_drop,h]at this;simpa using (by simpa using this.symm:Fs (ks.take i)=true/\Fs (ks.drop i)=true).1
def JO (x:Nd) (ks:List RT) (i:Nat):ByteArray:=if i=0 then x.s else Fe (Db x.k (ks.take i)) (LN x.k)
theorem MZ (x:Nd) (ks:List RT):JO x ks 0=x.s:=rfl
theorem BL_ {x:Nd} {ks:List RT} {u:RT} (h:ks[0]? =some u):JO x ks 1=IC x.k u.x.k (CH u):=by
 unfold JO;rw[if_neg (by omega),show ks.take 1=[u] by rw[bP0,h];simp,Fq,KN];rfl
theorem tS {x:Nd} {ks:List RT} {i:Nat} {u:RT} (hi:0<i) (h:ks[i]? =some u):JO x ks (i+1)=JO x ks i++LN x.k++IC x.k u.x.k (CH u):=by
 unfold JO;rw[if_neg (by omega),if_neg (by omega),RD h];obtain⟨hl,_⟩:=aG0.1 h
 have qE:Db x.k (ks.take i)≠[]:=fun e=>by
  have:=congrArg List.length e;rw[OI,bD0]at this;simp only[List.length_nil]at this;omega
 cases hx:Db x.k (ks.take i)with
 | nil=>exact absurd hx qE
 | cons y r =>
  show (r++[_]).foldl (CX (LN x.k)) y=_
  rw[dC0];rfl
theorem tT {x:Nd} {ks:List RT} (qW:Fs ks=true) (hs:x.s.size<=16) (i:Nat):(JO x ks i).size<=16+24*(Ah ks).length:=by
 unfold JO
 split
 ·omega
 ·have h1:=HI (Db x.k (ks.take i)) (LN x.k) (Hl _);have h2:=(Jg x.k (ks.take i) (xS qW i)).1;have h3:=Ru ks i;omega
theorem Db_ {x:Nd} (h:DA x=true) (h2:¬(x.k=2\/x.k=3)):x.s=⟨#[]⟩:=by
 unfold DA YD at h;rw[if_neg (fun e=>h2 (.inl e)),if_neg (fun e=>h2 (.inr e))]at h
 repeat' split at h
 all_goals simp only[aN0,decide_eq_true_eq,bH0]at h
 all_goals first | exact h.1 | (exact absurd h (by simp))
theorem RO (x:ByteArray):x++(⟨#[]⟩:ByteArray)=x:=by
 apply Hk
 simp[ByteArray.data_append]
def XG : Ann:=⟨[],[]⟩
theorem Nb : ∀(n:Nat) (t:RT) (l:List Nd) (p:Nat),(flat t).length=n->At l p t->l.length<=1572864->Ae prog 120 [Bl l,.int .i64 p] (.str (CH t)):=by
 intro n
 induction n using Nat.strongRecOn with
 | ind n ih =>
 intro t l p hn ht hs;obtain⟨x,ks⟩:=t;have kk:=Nk l p x ks ht hs;obtain⟨hm,hkn,qW⟩:=Cx ht.ok;obtain⟨g0,gl,ge⟩:=ht.head;simp only[RT.x]at g0;have g0':l[p]'gl=x:=(aG0.1 g0).2;have zL:(flat (.mk x ks)).length=(Ah ks).length+1:=by rw[AR,List.length_cons]
 have wH:=EB ks;have hk9:ks.length<=1572864:=by omega
 have dM:∀i u,ks[i]? =some u->Ae prog 120 [Bl l,.int .i64 (Cz p ks i)] (.str (CH u))/\l[Cz p ks i]? =some u.x/\(CH u).size<=37748736:=fun i u hu=>by
  have hm:=Js (bU0 hu);have hu2:=(ht.kid hu).1;have h3:=(GI u hu2.ok).2;exact⟨ih (flat u).length (by omega) u l _ rfl hu2 hs,hu2.head.1,by omega⟩
 have wN:∀i,i<ks.length->_:=fun i h=>Wq (p:=p) (ks:=ks) (i:=i) h
 have hacs:=tT (x:=x) qW (MB hm);have dY:=MB hm;have jE:16+24*(Ah ks).length<=37748756:=by omega
 rw[Oa];unfold Ws at kk;obtain⟨D,hD⟩:∃D,D=(List.range ks.length).map fun i=>Kt (Cz p ks i):=⟨_,rfl⟩
 have yI:D.length=ks.length:=by rw[hD];simp
 have kP:Bo D=0:=by rw[hD];exact TV p ks _
 rw[<-hD]at kk wN;have h6:x.k=6\/x.k=7\/x.k=8->ks.length=1:=fun h=>by obtain⟨u,rfl⟩:=eF ht.ok h;rfl
 have h8:¬x.k=1->¬(x.k=2\/x.k=3)->¬x.k=5->x.k=4\/x.k=6\/x.k=7\/x.k=8:=fun a b c=>by have:=MD hm;omega
 have hlf:x.k=2\/x.k=3->ks.length=0:=fun h=>by rw[PD ht.ok h];rfl
 have zG:¬x.k=1->¬(x.k=2\/x.k=3)->1<=ks.length:=fun a b=>by have:=MC hm a b;omega
 have hemp:¬(x.k=2\/x.k=3)->x.s=⟨#[]⟩:=Db_ hm;clear hD ih ht ge hn qW hm;have z0:(⟨#[]⟩:ByteArray).size=0:=rfl;have z1:(⟨#[37]⟩:ByteArray).size=1:=rfl;have z2:(⟨#[32]⟩:ByteArray).size=1:=rfl;have z3:(⟨#[32,124,32]⟩:ByteArray).size=3:=rfl;have z4:(⟨#[40]⟩:ByteArray).size=1:=rfl;have z5:(⟨#[41]⟩:ByteArray).size=1:=rfl;have z6:(⟨#[42]⟩:ByteArray).size=1:=rfl;have z7:(⟨#[43]⟩:ByteArray).size=1:=rfl;have z8:(⟨#[63]⟩:ByteArray).size=1:=rfl
 have m1:1<=maxLen:=by decide
 have m3:3<=maxLen:=by decide
 have mbig:100000000<=maxLen:=by decide
 refine Ac [] XG func120 call120 ntmps120 mxd (Ar @XG.eq_1 results120) rfl (fun qJ B qX qQ=> ?_);clear qJ;simp only[Ak]
 by_cases k1:x.k=1
 ·rw[if_pos k1];exact Aw Ab Ab (NA @BM.eq_1 g0 g0' gl z1 m1 k1)
 rw[if_neg k1];obtain⟨R,hR⟩:∃R,R=(if x.k=2\/x.k=3 then x.s else Fe (Db x.k ks) (LN x.k)++YQ x.k):=⟨_,rfl⟩;rw[<-hR];have k1':(x.k==1)=false:=by simpa using k1
 (refine AX (AJ kk) Ab (MY @BM.eq_1 g0 g0' gl k1 k1') ?_;intros;refine Am ?_)
 refine Al (X:={i:Nat//i<=ks.length}) (fun i=>⟨[(0,Bl l),(5,.int .i64 x.k),(6,.str (JO x ks i.1)),(7,.sl 1 8 D),(8,.int .i64 i.1)],[]⟩) (fun i=>ks.length-i.1) ⟨0,by omega⟩ (Sub.lit (by simp[MZ,kP])) ?_;rintro⟨i,hi⟩;simp only
 by_cases qV:i<ks.length
 ·have k2:¬(x.k=2\/x.k=3):=fun h=>by have:=hlf h;omega
  have hx0:=hemp k2;obtain⟨u,hu,zX,_⟩:=Ax qV;obtain⟨e1,gu,vO⟩:=dM i u hu;have hr:=wN i qV;have qT:i<D.length:=by omega
  have kS:IntKind.i64.wrap ((i:Int)+1)=(i:Int)+1:=wq;have wJ:D[i]'qT=[.int .i64 (Cz p ks i:Int)]:=(aG0.1 hr).2;have hac:=hacs i;obtain⟨q,hq⟩:∃q,q=Cz p ks i:=⟨_,rfl⟩;rw[<-hq]at e1 hr wJ gu;have gq:q<l.length:=(aG0.1 gu).1;have gu':l[q]'gq=u.x:=(aG0.1 gu).2;have vP:IC x.k u.x.k (CH u)=if xO x.k u.x.k then ⟨#[40]⟩++CH u++⟨#[41]⟩else CH u:=rfl
  have wP:JO x ks (i+1)=(if i=0 then ⟨#[]⟩else JO x ks i++LN x.k)++IC x.k u.x.k (CH u):=by
   by_cases h0:i=0
   ·subst h0;rw[if_pos rfl,KT];exact BL_ hu
   ·rw[if_neg h0];exact tS (by omega) hu
  have hz:i=0->JO x ks i=⟨#[]⟩:=fun h=>by rw[h,MZ,hx0]
  obtain⟨s,kZ⟩:∃s,s=CH u:=⟨_,rfl⟩;rw[<-kZ]at e1 vO vP wP;obtain⟨P,hP⟩:∃P,P=IC x.k u.x.k s:=⟨_,rfl⟩;rw[<-hP]at vP wP;obtain⟨a,ha⟩:∃a,a=JO x ks i:=⟨_,rfl⟩;rw[<-ha]at hac wP hz |-;have y3:1+s.size<=maxLen:=by omega
  have y4:1+s.size+1<=maxLen:=by omega
  have y5:a.size+3<=maxLen:=by omega
  have y6:a.size+1<=maxLen:=by omega
  have y7:a.size+P.size<=maxLen:=by
   have:=(Jn x.k u.x.k s).2;rw[<-hP]at this;omega
  have y8:a.size+3+P.size<=maxLen:=by
   have:=(Jn x.k u.x.k s).2;rw[<-hP]at this;omega
  have y9:a.size+1+P.size<=maxLen:=by omega
  unfold xO at vP;clear kZ ha hP;unfold LN at wP
  by_cases h0:i=0
  ·have wE:¬(0:Int)<(i:Int):=by omega
   rw[if_pos h0,KT]at wP;have ha0:=hz h0;subst ha0;have w1:⟨#[]⟩++P=P:=KT P;have y7':P.size<=maxLen:=by omega
   by_cases p5:u.x.k=5
   ·simp[p5]at vP;subst vP;simp only[aQ0,z4,z5]at y7'
    (refine AX (AJ e1) Ab (Ar (Md @BM.eq_1 gu gu' gq qT yI kS hr wJ qV wE p5 z0 z4 z5 m1) (Mj y3 y4 y7' w1 @aQ0)) ?_;intros;refine Am ?_)
    refine An.mk ⟨i+1,by omega⟩ (Sub.lit (by simp[wP,kP])) (by simp;omega)
    skip
   ·have p5':(u.x.k==5)=false:=by simpa using p5
    by_cases p4:u.x.k=4
    ·by_cases q5:x.k=5
     ·simp[p4,q5]at vP;subst vP
      (refine AX (AJ e1) Ab (Ar (Md @BM.eq_1 gu gu' gq qT yI kS hr wJ qV wE p4 p5 p5' q5 z0) (Mi z4 z5 m1 y3 y4 y7' w1 @aQ0)) ?_;intros;refine Am ?_)
      refine An.mk ⟨i+1,by omega⟩ (Sub.lit (by simp[wP,kP,q5])) (by simp;omega)
      skip
     ·have q5':(x.k==5)=false:=by simpa using q5
      simp[p4,q5]at vP;subst vP;simp only[aQ0,z4,z5]at y7'
      (refine AX (AJ e1) Ab (Ar (Md @BM.eq_1 gu gu' gq qT yI kS hr wJ qV wE p4 p5 p5' q5 q5') (YF z0 z4 z5 m1 y3 y4 y7' w1 @aQ0)) ?_;intros;refine Am ?_)
      refine An.mk ⟨i+1,by omega⟩ (Sub.lit (by simp[wP,kP])) (by simp;omega)
      skip
    ·have p4':(u.x.k==4)=false:=by simpa using p4
     simp[p4,p5]at vP;subst vP
     (refine AX (AJ e1) Ab (Ar (Md @BM.eq_1 gu gu' gq qT yI kS hr wJ qV wE p4 p4' p5 p5' z0) (Mi z4 z5 m1 y3 y4 y7' w1 @aQ0)) ?_;intros;refine Am ?_)
     refine An.mk ⟨i+1,by omega⟩ (Sub.lit (by simp[wP,kP])) (by simp;omega)
     skip
  ·have wE:(0:Int)<(i:Int):=by omega
   rw[if_neg h0]at wP;clear hz
   by_cases q5:x.k=5
   ·rw[if_pos q5]at wP;have q4':(x.k==4)=false:=by simp[q5]
    by_cases p5:u.x.k=5
    ·simp[p5]at vP;subst vP;simp only[aQ0,z4,z5]at y8
     (refine go2 (AJ e1) Ab (Ar (Md @BM.eq_1 gu gu' gq qT yI kS hr wJ qV wE p5 q5 q4' z0 z3) (YF z4 z5 m1 m3 y3 y4 y5 y8 @aQ0)) ?_ ?_<;>(intros;refine Am ?_))
     refine An.mk ⟨i+1,by omega⟩ (Sub.lit (by simp[wP,kP,q5])) (by simp;omega);exact Aw (AJ e1) Ab Ab
    ·have p5':(u.x.k==5)=false:=by simpa using p5
     simp[p5,q5]at vP;subst vP
     by_cases p4:u.x.k=4
     ·(refine go2 (AJ e1) Ab (Ar (Md @BM.eq_1 gu gu' gq qT yI kS hr wJ qV wE p5 p5' p4 q5 q4') (Yn z0 z3 z4 z5 m1 m3 y3 y4 y5 y8 @aQ0)) ?_ ?_<;>(intros;refine Am ?_))
      refine An.mk ⟨i+1,by omega⟩ (Sub.lit (by simp[wP,kP,q5])) (by simp;omega);exact Aw (AJ e1) Ab Ab
     ·have p4':(u.x.k==4)=false:=by simpa using p4
      (refine go2 (AJ e1) Ab (Ar (Md @BM.eq_1 gu gu' gq qT yI kS hr wJ qV wE p5 p5' p4 p4' q5) (Ey_ q4' z0 z3 z4 z5 m1 m3 y3 y4 y5 y8 @aQ0)) ?_ ?_<;>(intros;refine Am ?_))
      refine An.mk ⟨i+1,by omega⟩ (Sub.lit (by simp[wP,kP,q5])) (by simp;omega);exact Aw (AJ e1) Ab Ab
   ·have q5':(x.k==5)=false:=by simpa using q5
    have q4:x.k=4:=by
     rcases (show x.k=4\/x.k=6\/x.k=7\/x.k=8 from h8 k1 k2 q5)with h | h
     ·exact h
     ·have:=h6 h;omega
    rw[if_neg q5,if_pos q4]at wP
    by_cases p5:u.x.k=5
    ·simp[p5]at vP;subst vP;simp only[aQ0,z4,z5]at y9
     (refine go2 (AJ e1) Ab (Ar (Md @BM.eq_1 gu gu' gq qT yI kS hr wJ qV wE p5 q5 q5' q4 z0) (YF z2 z4 z5 m1 y3 y4 y6 y9 @aQ0)) ?_ ?_<;>(intros;refine Am ?_))
     refine An.mk ⟨i+1,by omega⟩ (Sub.lit (by simp[wP,kP,q4])) (by simp;omega);exact Aw (AJ e1) Ab Ab
    ·have p5':(u.x.k==5)=false:=by simpa using p5
     by_cases p4:u.x.k=4
     ·simp[p4,q5]at vP;subst vP;simp only[aQ0,z4,z5]at y9
      (refine go2 (AJ e1) Ab (Ar (Md @BM.eq_1 gu gu' gq qT yI kS hr wJ qV wE p4 p5 p5' q5 q5') (Yn q4 z0 z2 z4 z5 m1 y3 y4 y6 y9 @aQ0)) ?_ ?_<;>(intros;refine Am ?_))
      refine An.mk ⟨i+1,by omega⟩ (Sub.lit (by simp[wP,kP,q4])) (by simp;omega);exact Aw (AJ e1) Ab Ab
     ·have p4':(u.x.k==4)=false:=by simpa using p4
      simp[p4,p5]at vP;subst vP
      (refine go2 (AJ e1) Ab (Ar (Md @BM.eq_1 gu gu' gq qT yI kS hr wJ qV wE p4 p4' p5 p5' q5) (Ey_ q5' q4 z0 z2 z4 z5 m1 y3 y4 y6 y9 @aQ0)) ?_ ?_<;>(intros;refine Am ?_))
      refine An.mk ⟨i+1,by omega⟩ (Sub.lit (by simp[wP,kP,q4])) (by simp;omega);exact Aw (AJ e1) Ab Ab
 ·have qZ:i=ks.length:=by omega
  subst qZ;have hac:=hacs ks.length
  have zK:(if x.k=2\/x.k=3 then x.s else Fe (Db x.k ks) (LN x.k)++YQ x.k)=JO x ks ks.length++YQ x.k:=by
   by_cases k2:x.k=2\/x.k=3
   ·rw[if_pos k2,hlf k2,MZ];have:YQ x.k=⟨#[]⟩:=by unfold YQ;rw[if_neg (by omega),if_neg (by omega),if_neg (by omega)]
    rw[this,RO]
   ·rw[if_neg k2];unfold JO;rw[if_neg (by have:=zG k1 k2;omega),bC0]
  rw[zK]at hR;clear zK;obtain⟨a,ha⟩:∃a,a=JO x ks ks.length:=⟨_,rfl⟩;rw[<-ha]at hac hR |-;have y6:a.size+1<=maxLen:=by omega
  have y0:a.size<=maxLen:=by omega
  unfold YQ at hR
  by_cases j6:x.k=6
  ·rw[if_pos j6]at hR;subst hR;exact Aw Ab Ab (NA yI j6 z6 y6 y0 m1 @aQ0)
  ·have j6':(x.k==6)=false:=by simpa using j6
   by_cases j7:x.k=7
   ·rw[if_neg j6,if_pos j7]at hR;subst hR;exact Aw Ab Ab (YF yI j6 j6' j7 z7 y6 y0 m1 @aQ0)
   ·have j7':(x.k==7)=false:=by simpa using j7
    by_cases j8:x.k=8
    ·rw[if_neg j6,if_neg j7,if_pos j8]at hR;subst hR;exact Aw Ab Ab (Yn yI j6 j6' j7 j7' j8 z8 y6 y0 m1 @aQ0)
    ·have j8':(x.k==8)=false:=by simpa using j8
     rw[if_neg j6,if_neg j7,if_neg j8,RO]at hR;subst hR;exact Aw Ab Ab (UK yI j6 j6' j7 j7' j8 j8' y6 y0 m1)
def XF : Ann:=⟨[],[]⟩
theorem QE (t:RT) (ht:EZ t=true) (hs:(flat t).length<=1572864):Ae prog 187 [Bl (flat t)] (.int .i64 (CV t)):=by
 refine Ac [] XF func187 call187 ntmps187 mxd (Ar @XF.eq_1 results187) rfl (fun qJ B qX qQ=> ?_);clear qJ;simp only[Ak];have k1:=IQ _ t (flat t) 0 rfl (At.top ht) hs;have k2:=Nb _ t (flat t) 0 rfl (At.top ht) hs;unfold CV;obtain⟨T,hT⟩:∃T,T=CH t:=⟨_,rfl⟩;rw[<-hT]at k2 |-
 by_cases c1:16<Ih t
 ·have d1:(16:Int)<(Ih t:Int):=by omega
  exact Aw (Ar k1 k2) Ab (Ar c1 d1)
 ·have d1:¬(16:Int)<(Ih t:Int):=by omega
  by_cases c2:2048<T.size
  ·have d2:(2048:Int)<(T.size:Int):=by omega
   exact Aw (Ar k1 k2) Ab (Ik c1 d1 c2 d2)
  ·have d2:¬(2048:Int)<(T.size:Int):=by omega
   exact Aw (Ar k1 k2) Ab (Ik c1 d1 c2 d2)
def Hr : Ann:=⟨[],[]⟩
theorem Pf (t:RT) (ht:EZ t=true) (h:(flat t).length<=2048):Ae prog 125 [Bl (flat t)] (.int .i64 (CV t)):=by
 refine Ac [] Hr func125 call125 ntmps125 mxd (Ar @Hr.eq_1 results125) rfl (fun qJ B qX qQ=> ?_);clear qJ;simp only[Ak];have k1:=Ed (flat t) (by omega);rw[Ev ht]at k1;have k2:=QE t ht (by omega);have d1:¬(2048:Int)<((flat t).length:Int):=by omega
 have d2:¬2048<(flat t).length:=by omega
 exact Aw (Ar k1 k2) Ab (Ar d1 d2)
theorem Pg (l:List Nd) (h:2048<l.length):Ae prog 125 [Bl l] (.int .i64 3):=by
 refine Ac [] Hr func125 call125 ntmps125 mxd (Ar @Hr.eq_1 results125) rfl (fun qJ B qX qQ=> ?_);clear qJ;simp only[Ak];have d1:(2048:Int)<(l.length:Int):=by omega
 exact Aw Ab Ab (Ar d1 h)
theorem Rg (l:List Nd) (h:l.length<=2048) (hw:CT l=false):Ae prog 125 [Bl l] (.int .i64 170):=by
 refine Ac [] Hr func125 call125 ntmps125 mxd (Ar @Hr.eq_1 results125) rfl (fun qJ B qX qQ=> ?_);clear qJ;simp only[Ak];have k1:=Ed l (by omega);rw[hw]at k1;have d1:¬(2048:Int)<(l.length:Int):=by omega
 have d2:¬2048<l.length:=by omega
 exact Aw (AJ k1) Ab (Ar d1 d2)
def XH : Ann:=⟨[],[]⟩
theorem NI (t:RT) (ht:EZ t=true) (hs:(flat t).length<=1572864):Ae prog 119 [Bl (flat t)] (.int .i64 (Ih t)):=by
 refine Ac [] XH func119 call119 ntmps119 mxd (Ar @XH.eq_1 results119) rfl (fun qJ B qX qQ=> ?_);clear qJ;simp only[Ak];have k1:=Ed (flat t) hs;rw[Ev ht]at k1;have k2:=IQ _ t (flat t) 0 rfl (At.top ht) hs;exact Aw (Ar k1 k2) Ab Ab
def BH (n:Nat):List DVal:=[.int .i64 (n:Int)]
@[simp] theorem CD_ (n:Nat):AH (BH n)=0:=by simp[BH,AH,mx]
abbrev Eh (l:List Nat):DVal:= .sl 1 8 (l.map BH)
@[simp] theorem FQ_ (l:List Nat):Bo (l.map BH)=0:=Ie _ CD_ l
theorem DS_ (l:List Nd) (n:Nat):(Rk l n).length<=n:=by unfold Rk;exact Nat.le_trans (cI0 _ _) (by simp)
def UD : Ann:=⟨[],[]⟩
theorem Rj (l:List Nd):Ae prog 89 [Bl l] (Eh (Rk l l.length)):=by
 refine Ac [50] UD func89 call89 ntmps89 mxd (Ar @UD.eq_1 results89) rfl (fun qJ B qX qQ=> ?_);have hs:l.length*32<=150000000000000:=by have:=qJ.1;simp only[EX,aO0]at this;exact this.1
 clear qJ;simp only[Ak]
 (refine AX Ab Ab Ab ?_;intros;refine Am ?_)
 refine Ci 3 50 3 1 8 (by simp[qX,results89,UD]) (fun n=> ?_);refine Al (X:={i:Nat//i<=l.length}) (fun i=>⟨[(0,Bl l),(3,.osl 50 1),(4,.int .i64 i.1)],[⟨50,1,.row 3 1 8 ((Rk l i.1).map BH)⟩]⟩) (fun i=>l.length-i.1) ⟨0,by omega⟩ (Sub.lit (by simp[xM])) ?_;rintro⟨i,hi⟩;simp only
 by_cases qV:i<l.length
 ·obtain⟨x,hx,qA,_⟩:=Ax qV;have hsc:=VH hx;have yL:=DS_ l i;obtain⟨T,hT⟩:∃T,T=Rk l i:=⟨_,rfl⟩;rw[<-hT]at hsc yL |-;have z1:(T.length+1)*8<=150000000000000:=by omega
  have z2:T.length+1<=9223372036854775807:=by omega
  by_cases ho:Co x=true
  ·rw[if_pos ho]at hsc;have hd:(T.map BH)++[[.int .i64 (i:Int)]]=(Rk l (i+1)).map BH:=by rw[hsc,bF0];rfl
   rcases Dp.1 ho with k | k
   ·(refine AX Ab Ab (NA @BM.eq_1 qV hx qA k z1 z2) ?_;intros;refine Am ?_)
    refine An.mk ⟨i+1,by omega⟩ (Sub.lit (by simp[hd])) (by simp;omega)
    skip
   ·(refine AX Ab Ab (NA @BM.eq_1 qV hx qA k z1 z2) ?_;intros;refine Am ?_)
    refine An.mk ⟨i+1,by omega⟩ (Sub.lit (by simp[hd])) (by simp;omega)
    skip
  ·rw[if_neg ho,bX0]at hsc;have k2:¬x.k=2:=fun e=>ho (Dp.2 (.inl e))
   have k3:¬x.k=3:=fun e=>ho (Dp.2 (.inr e))
   have k2':(x.k==2)=false:=by simpa using k2
   have k3':(x.k==3)=false:=by simpa using k3
   (refine AX Ab Ab (Mi @BM.eq_1 qV hx qA k2 k2' k3 k3') ?_;intros;refine Am ?_)
   refine An.mk ⟨i+1,by omega⟩ (Sub.lit (by simp[hsc])) (by simp;omega)
   skip
 ·have qZ:i=l.length:=by omega
  subst qZ;exact Aw Ab Ab Ab
def XI : Ann:=⟨[],[]⟩
theorem Tx (l:List Nd):Ae prog 118 [Bl l] (.int .i64 (EP l)):=by
 refine Ac [] XI func118 call118 ntmps118 mxd (Ar @XI.eq_1 results118) rfl (fun qJ B qX qQ=> ?_);clear qJ;simp only[Ak];have k1:=Rj l;have h1:(Rk l l.length).length=EP l:=by rw[TI (Nat.le_refl _),Lk,Jm]
 exact Aw (AJ k1) Ab (AJ h1)
end Go.Proofs.Wy
end
section
namespace Go.Proofs.Wy
open Go Go.Dm Tryz
variable [DMode]
theorem Gh_ : OrdC Mn:=by
 refine⟨fun _ _=>pI,fun x y=> ?_,fun x y z h1 h2=> ?_⟩
 ·rw[FA];unfold Mn;cases h1:CE x y
  ·cases h2:CE y x<;>simp
  ·rw[OS h1];simp
 ·rw[FA]at *;exact Iu h1 h2
end Go.Proofs.Wy
end
