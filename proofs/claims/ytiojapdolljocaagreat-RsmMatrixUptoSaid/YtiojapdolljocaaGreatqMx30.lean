/- Parts of a proof, laid together: SY1, BO1, BO2, BO5, BO3. -/
import Derived.Test.YtiojapdolljocaaGreatqMx15
import Derived.Test.YtiojapdolljocaaGreatqMx17
import Derived.Test.YtiojapdolljocaaGreatqMx22
import Derived.Test.YtiojapdolljocaaGreatqMx23
import Derived.Test.YtiojapdolljocaaGreatqMx27
import Derived.Test.YtiojapdolljocaaGreatqMx28
import Derived.Test.YtiojapdolljocaaGreatqMx29
set_option linter.unusedSimpArgs false
set_option maxHeartbeats 8000000
set_option linter.unusedVariables false
set_option linter.unusedSectionVars false
section
namespace Go.Proofs.Wy
open Go Go.Dm Tryz
attribute [local irreducible] DW Bs Bt
set_option maxRecDepth 100000
theorem xI {l:List ByteArray} (h:Str l):l.Nodup:=h.imp fun h1=>Cm_ h1
theorem Xr {l:List ByteArray} (hn:l.Nodup) {i:Nat} {x:ByteArray} (h:l[i]? =some x):¬x∈l.take i:=by
 intro hm;obtain⟨j,hj,e⟩:=bX0 hm;rw[bA0]at hj;rw[List.getElem_take]at e;obtain⟨hi,e2⟩:=aB0.1 h;have:=(List.getElem_inj (h₀:=by omega) (h₁:=hi) hn).1 (e.trans e2.symm);omega
theorem Bc {α:Type} {l:List α} {i:Nat} {x:α} (h:l[i]? =some x):l.take (i+1)=l.take i++[x]:=by rw[bJ0,h];rfl
def tA : Ann:=⟨[],[]⟩
theorem CI_ (g:List Rul) (c:Int) (hc:c≠0) (h:Ae prog 49 [Ar g] (.int .i64 c)):Ae prog 14 [Ar g] (.tup [.nilp,.int .i64 c]):=by
 refine Ac [] tA func14 call14 ntmps14 mxd (Au @tA.eq_1 results14) rfl (fun qJ B qX qQ=> ?_);clear qJ;simp only[Am];exact Av (AD h) Ab (AD hc)
def Uq : Ann:=⟨[19,21],[]⟩
theorem Fg_ (g:List Rul) (hn:(AI 3 g).length*16<=140737488355328) (hl:(Ax g).length<9223372036854775807) (hll:(Ay g).length<9223372036854775807) (h:Ae prog 49 [Ar g] (.int .i64 0)):Ae prog 14 [Ar g] (.tup [GR (Ax g) (Ay g),.int .i64 0]):=by
 refine Ac [19,21] Uq func14 call14 ntmps14 mxd (Au @Uq.eq_1 results14) rfl (fun qJ B qX qQ=> ?_);clear qJ;simp only[Am];have e1:=MD g;have e2:=La g hn;have hH:=MC g;have hL:=xI (HG (AI 3 g)).1;rw[show EP (AI 3 g)=Ay g from rfl]at hL;obtain⟨H,eH⟩:∃H,H=Ax g:=⟨_,rfl⟩;obtain⟨L,eL⟩:∃L,L=Ay g:=⟨_,rfl⟩;rw[<-eH]at e1 hH hl |-;rw[<-eL]at e2 hL hll |-;clear eH eL
 (refine AG (CD h e1 e2) Ab Ab ?_;intros;refine Ah ?_)
 refine Ai (X:={k:Nat//k<=H.length}) (fun k=>⟨[(5,.bx 21 1 0),(25,Bv H),(26,.int .i64 H.length),(27,.int .i64 k.1)],[⟨21,1,.box [Bv H,Bv L,.omp 19 1]⟩,⟨19,1,.map (Gw false (H.take k.1)) (FP k.1)⟩]⟩) (fun k=>H.length-k.1) ⟨0,by omega⟩ (Sub.lit (by simp[Gw,FP])) ?_;rintro⟨k,hk⟩;simp only
 by_cases qV:k<H.length
 ·obtain⟨x,hx,qA,vO⟩:=Ao qV;have h1:=IH (b:=false) (Xr hH hx);have qW:=Vu false (H.take k);have hu:FP k++[.int .i64 (k:Int)]=FP (k+1):=(Tb k).symm;have hKs:Gw false (H.take k)++[.agg [.bool false,.str x]]=Gw false (H.take (k+1)):=by rw[Bc hx,TK]
  (refine AG Ab Ab (KQ qV hx qA @AH.eq_1 h1 qW hu hKs) ?_;intros;refine Ah ?_)
  refine Aj.mk ⟨k+1,by omega⟩ (Sub.lit (by simp[hKs])) (by simp;omega)
  skip
 ·have qZ:k=H.length:=by omega
  subst qZ;rw[aW0];have k0:Gw true []=[]:=rfl;have u0:FP 0=[]:=rfl
  (refine AG Ab Ab Ab ?_;intros;refine Ah ?_)
  refine Ai (X:={k:Nat//k<=L.length}) (fun k=>⟨[(5,.bx 21 1 0),(43,Bv L),(44,.int .i64 L.length),(45,.int .i64 k.1)],[⟨21,1,.box [Bv H,Bv L,.omp 19 1]⟩,⟨19,1,.map (LS H (L.take k.1)) (FP H.length++FP k.1)⟩]⟩) (fun k=>L.length-k.1) ⟨0,by omega⟩ (Sub.lit (by simp[LS,k0,u0])) ?_;rintro⟨k,hk⟩;simp only
  by_cases qV:k<L.length
  ·obtain⟨x,hx,qA,vO⟩:=Ao qV;have h1:=WF (H:=H) (L:=L.take k) (b:=true) (Xr hL hx);have qW:=BX_ H (L.take k);have hu:FP H.length++FP k++[.int .i64 (k:Int)]=FP H.length++FP (k+1):=by rw[Tb,aV0]
   have hKs:LS H (L.take k)++[.agg [.bool true,.str x]]=LS H (L.take (k+1)):=by unfold LS;rw[Bc hx,TK,aV0]
   (refine AG Ab Ab (KQ qV hx qA @AH.eq_1 h1 qW hu hKs) ?_;intros;refine Ah ?_)
   refine Aj.mk ⟨k+1,by omega⟩ (Sub.lit (by simp[hKs])) (by simp;omega)
   skip
  ·have qZ:k=L.length:=by omega
   subst qZ;rw[aW0];exact Av Ab Ab Ab
end Go.Proofs.Wy
end
section
namespace Go.Proofs.Wy
open Go Go.Dm Go.Shelf Tryz
variable [DMode]
attribute [local irreducible] DW Bs Bt
set_option maxRecDepth 100000
def MR (ls:List (List Nat)):List Nat:=ls.flatten
def KK (ls:List (List Nat)):Nat:=(MR ls).length
theorem Uf (ls:List (List Nat)) (l:List Nat):MR (ls++[l])=MR ls++l:=by simp[MR]
theorem YB : MR []=[]:=rfl
theorem Te (ls:List (List Nat)) (l:List Nat):KK (ls++[l])=KK ls+l.length:=by unfold KK;rw[Uf,aC0]
def UQ (l:List Nat):List DVal:=[Cz l]
@[simp] theorem Fi_ (l:List Nat):AL (UQ l)=0:=by simp[UQ,AL,mx]
@[simp] theorem HI_ (l:List (List Nat)):Bp (l.map UQ)=0:=HT _ Fi_ l
def KH : Ann:=⟨[5],[]⟩
theorem MO (l:List Nat) (hl:l.length*8<=140737488355328):Bn prog (.func 53) [Cz l] [] (.osl 0 1) [⟨0,1,.row 3 1 8 (l.map Bb)⟩]:=by
 match l,hl with
 | [],_ =>
  refine aE ?_ ?_
  ·refine Nr ?_;refine Ac [] KH func53 call53 ntmps53 mxd (Au @KH.eq_1 results53) rfl (fun qJ B qX qQ=> ?_);simp only[Am];exact Av Ab Ab Ab
  ·refine Cd [] [(5,0,1)] KH func53 call53 ntmps53 mxd (Au @KH.eq_1 results53) rfl (fun qJ B qX qQ=> ?_);simp only[Am,List.nil_append];exact Av Ab Ab Ab
 | x::l,hl =>
  refine Cd [] [(5,0,1)] KH func53 call53 ntmps53 mxd (Au @KH.eq_1 results53) rfl (fun qJ B qX qQ=> ?_);simp only[List.length_cons]at hl;have zL:(l.length+1)*8<=150000000000000:=by omega
  have gA:l.length<9223372036854775807:=by omega
  simp only[Am,List.nil_append,List.map_cons,Cz,Bb];exact Av Ab Ab Ab
theorem iU (n:Nat) (hn:n*8<=140737488355328):Bn prog (.func 161) [.nilsl,.int .i64 n] [] (.osl 0 1) [⟨0,1,.row 3 1 8 []⟩] :=
 iV Tryz.growI rfl call161 rfl (hi0:=(rfl:Tryz.prog.info? 3=some _)) (z:= .int .i64 0) rfl rfl rfl rfl (by decide) n hn
theorem Sz (l:List Int):Bn prog (.func 64) [.osl 0 0] [⟨0,0,.row 3 1 8 (l.map IR)⟩] (.tup []) [⟨0,0,.row 3 1 8 ((Jb l).map IR)⟩] :=
 UJ Tryz.sortInt rfl call64 (by decide) l
def ZI : Ann:=⟨[24],[]⟩
theorem RK (ls:List (List Nat)) (hb:KK ls*8<=140737488355328):Bn prog (.func 109) [.sl 1 24 (ls.map UQ)] [] (.osl 0 1) [⟨0,1,.row 3 1 8 ((MR ls).map Bb)⟩]:=by
 refine Cd [] [(24,0,1)] ZI func109 call109 ntmps109 mxd (Au @ZI.eq_1 results109) rfl (fun qJ B qX qQ=> ?_);simp only[Am,List.nil_append]
 have hsum:∀k,k<=ls.length->KK (ls.take k)*8<=140737488355328:=fun k hk=>by
  unfold KK MR at hb |-;have h1:ls.flatten.length=(ls.take k).flatten.length+(ls.drop k).flatten.length:=by rw[<-aC0,<-List.flatten_append,List.take_append_drop]
  omega
 have fD:ls.length<9223372036854775807:=by
  have h1:=qJ.1;simp only[FC,aN0]at h1;have h2:=h1.1;unfold maxLen at h2;omega
 clear qJ
 (refine AG Ab Ab Ab ?_;intros;refine Ah ?_)
 refine Ai (X:={k:Nat//k<=ls.length}) (fun k=>⟨[(0,.sl 1 24 (ls.map UQ)),(3,.int .i64 (KK (ls.take k.1))),(9,.sl 1 24 (ls.map UQ)),(10,.int .i64 ls.length),(11,.int .i64 k.1)],[]⟩) (fun k=>ls.length-k.1) ⟨0,by omega⟩ (Sub.lit (by simp[KK,YB])) ?_;rintro⟨k,hk⟩;simp only
 by_cases qV:k<ls.length
 ·obtain⟨x,hx,qA,vO⟩:=Ao qV;have cP:KK (ls.take (k+1))=KK (ls.take k)+x.length:=by rw[Bc hx,Te]
  have yO:=hsum (k+1) qV;obtain⟨m,hm⟩:∃m,m=KK (ls.take k):=⟨_,rfl⟩;rw[cP,<-hm]at yO;rw[<-hm]at cP |-
  (refine AG Ab Ab (GV qV hx qA @UQ.eq_1) ?_;intros;refine Ah ?_)
  refine Aj.mk ⟨k+1,by omega⟩ (Sub.lit (by simp[cP])) (by simp;omega)
  skip
 ·have qZ:k=ls.length:=by omega
  subst qZ;rw[aW0];have e1:=iU _ hb
  (refine AG Ab (AD (KV [] [(24,0)] e1)) Ab ?_;intros;refine Ah ?_)
  refine Ai (X:={k:Nat//k<=ls.length}) (fun k=>⟨[(6,.osl 24 1),(25,.sl 1 24 (ls.map UQ)),(26,.int .i64 ls.length),(27,.int .i64 k.1)],[⟨24,1,.row 3 1 8 ((MR (ls.take k.1)).map Bb)⟩]⟩) (fun k=>ls.length-k.1) ⟨0,by omega⟩ (Sub.lit (by simp[YB])) ?_;rintro⟨k,hk⟩;simp only
  by_cases qV:k<ls.length
  ·obtain⟨x,hx,qA,vO⟩:=Ao qV;have cP:(MR (ls.take (k+1))).map Bb=(MR (ls.take k)).map Bb++x.map Bb:=by rw[Bc hx,Uf,bD0]
   have yO:=hsum (k+1) qV;have hs3:KK (ls.take (k+1))=KK (ls.take k)+x.length:=by rw[Bc hx,Te]
   obtain⟨F,hF⟩:∃F,F=MR (ls.take k):=⟨_,rfl⟩;have hFl:F.length=KK (ls.take k):=by rw[hF];rfl
   rw[hs3,<-hFl]at yO;rw[<-hF]at cP |-;have hs4:(F.length+x.length)*8<=150000000000000:=by omega
   (refine AG Ab Ab (Jh qV hx qA @UQ.eq_1 hs4) ?_;intros;refine Ah ?_)
   refine Aj.mk ⟨k+1,by omega⟩ (Sub.lit (by simp[cP])) (by simp;omega)
   skip
  ·have qZ:k=ls.length:=by omega
   subst qZ;rw[aW0];exact Av Ab Ab Ab
def Db (SF:List Sym) (P:List (Nat×Nat)):List Arc:=P.map (Ph SF)
theorem Br_ (SF:List Sym):Db SF []=[]:=rfl
theorem Gf (SF:List Sym) (P Q:List (Nat×Nat)):Db SF (P++Q)=Db SF P++Db SF Q:=by simp[Db]
theorem KB (SF:List Sym) (P:List (Nat×Nat)):(Db SF P).length=P.length:=by simp[Db]
def HS (x:Nat) (f:List Nat):List (Nat×Nat):=f.map fun q=>(x,q)
theorem eY (x:Nat) (f:List Nat) (q:Nat):HS x (f++[q])=HS x f++[(x,q)]:=by simp[HS]
theorem Ad_ (x:Nat):HS x []=[]:=rfl
theorem Tr (x:Nat) (f:List Nat):(HS x f).length=f.length:=by simp[HS]
def Bw (u v:Nat) (S:List Sym) (A:List Arc):List Ent:=[⟨0,0,.box [.osl 1 u,.osl 2 v]⟩,⟨1,u,.row 24 2 16 (S.map AM)⟩,⟨2,v,.row 39 4 32 (A.map AW)⟩]
theorem iN (l f:List Nat) (x:Nat):Cq (l++[x]) f=Cq l f++HS x f:=by simp[Cq,HS]
theorem NS (l f:List Nat):(Cq l f).length=l.length*f.length:=by
 induction l with
 | nil=>simp[Cq]
 | cons x l ih =>
  have:Cq (x::l) f=(f.map fun q=>(x,q))++Cq l f:=rfl;rw[this,aC0,ih,aN0,List.length_cons,bU0];omega
theorem Hq_ {S SF:List Sym} (hp:S <+: SF) {q:Nat} (h1:1<=q) (h2:q<=S.length):S[q-1]? =some (SF.getD (q-1) ⟨false,0⟩):=by
 obtain⟨R,rfl⟩:=hp;have h:q-1<S.length:=by omega
 rw[aO0,aZ0 h,aE0 h];rfl
def PP : Ann:=⟨[],[⟨6,[],[0],[]⟩]⟩
theorem JN (S SF:List Sym) (A:List Arc) (l f:List Nat) (hp:S <+: SF) (hf:∀q∈f,1<=q/\q<=S.length) (hS:S.length<9223372036854775807) (hb:(A.length+l.length*f.length)*32<=150000000000000) :
  Bn prog (.func 61) [.bx 0 0 0,Cz l,Cz f] (Bw 0 0 S A) (.tup []) (Bw 0 1 S (A++Db SF (Cq l f))):=by
 refine Cd [] [(0,0,0),(1,1,0),(2,2,1)] PP func61 call61 ntmps61 mxd (Au @PP.eq_1 results61) rfl (fun qJ B qX qQ=> ?_) (hv:=(by simp[Bw]))
 have fD:l.length<9223372036854775807/\f.length<9223372036854775807:=by
  have h1:=qJ;simp only[Lm,FC,aN0,maxLen]at h1;omega
 clear qJ;simp only[Am]
 (refine AG Ab Ab (AD @Bw.eq_1) ?_;intros;refine Ah ?_)
 refine Ai (X:={i:Nat//i<=l.length}) (fun i=>⟨[(0,.bx 0 0 0),(2,Cz f),(10,Cz l),(11,.int .i64 l.length),(12,.int .i64 i.1)],Bw 0 1 S (A++Db SF (Cq (l.take i.1) f))⟩) (fun i=>l.length-i.1) ⟨0,by omega⟩ (Sub.lit (by simp[Bw,AJ_,Br_])) ?_;rintro⟨i,hi⟩;simp only
 by_cases qV:i<l.length
 ·obtain⟨x,hx,qA,vO⟩:=Ao qV;have pK:=iN (l.take i) f x;rw[<-Bc hx]at pK
  have hjl:(Cq (l.take (i+1)) f).length<=l.length*f.length:=by
   rw[NS];exact aX0 _ (by rw[bA0];omega)
  rw[pK,aC0,Tr]at hjl;obtain⟨P,hP⟩:∃P,P=Cq (l.take i) f:=⟨_,rfl⟩;rw[<-hP]at hjl pK |-
  (refine AG Ab Ab (Jh @Bw.eq_1 qV hx qA @Bb.eq_1) ?_;intros;refine Ah ?_)
  refine Ai (X:={j:Nat//j<=f.length}) (fun j=>⟨[(0,.bx 0 0 0),(2,Cz f),(7,.int .i64 x),(10,Cz l),(11,.int .i64 l.length),(12,.int .i64 i),(16,Cz f),(17,.int .i64 f.length),(18,.int .i64 j.1)],Bw 0 1 S (A++Db SF (P++HS x (f.take j.1)))⟩) (fun j=>f.length-j.1) ⟨0,by omega⟩ (Sub.lit (by simp[Bw,Ad_])) ?_;rintro⟨j,hj⟩;simp only
  by_cases qL:j<f.length
  ·obtain⟨q,hq,vY,pD⟩:=Ao qL;obtain⟨fQ,kW⟩:=hf q pD;have yQ:q-1<S.length:=by omega
   obtain⟨y,hy,yV,nV⟩:=Ao yQ
   have hA:Ph SF (x,q)=⟨x,y,q⟩:=by
    have hsy:=Hq_ hp fQ kW;rw[hy]at hsy;simp only[aA0]at hsy;unfold Ph;rw[<-hsy]
   have vD:Db SF (P++HS x (f.take (j+1)))=Db SF (P++HS x (f.take j))++[⟨x,y,q⟩]:=by rw[Bc hq,eY,<-aV0,Gf,<-hA];rfl
   have mP:(Db SF (P++HS x (f.take j))).length+1<=l.length*f.length:=by rw[KB,aC0,Tr,bA0];omega
   obtain⟨Z,hZ⟩:∃Z,Z=Db SF (P++HS x (f.take j)):=⟨_,rfl⟩;rw[<-hZ]at vD mP |-;have qT:(A.length+Z.length+1)*32<=150000000000000:=by omega
   have vQ:IntKind.i64.wrap ((q:Int)-1)=((q-1:Nat):Int):=by rw[wq];omega
   (repeat (first | refine AJ fun K hK=> ?_ | (refine BV PP mxd (by kernel_rfl) ?_;simp[PP,qX,Bw,qL,hq,vY,Bb,vQ,yQ,hy,yV,AM];try simp (disch:=omega) only[Al]) | refine Aq ?_ | (refine Bi ?_ ?_ ?_;(· (simp[qX,Bw,qL,hq,vY,Bb,vQ,yQ,hy,yV,AM];done));(try (rotate_left;(· (intro hc;(try simp[qX,Bw,qL,hq,vY,Bb,vQ,yQ,hy,yV,AM]at hc);done))))) | (refine AN ?_;simp[results61,qX,Bw,qL,hq,vY,Bb,vQ,yQ,hy,yV,AM]) | ((first | refine AB ?_ | refine AA ?_);simp[qX,Bw,qL,hq,vY,Bb,vQ,yQ,hy,yV,AM]) | (intro hc;(try simp[qX,Bw,qL,hq,vY,Bb,vQ,yQ,hy,yV,AM]at hc);(try (exfalso;omega))) | (refine⟨?_,?_⟩; · omega) | omega | apply_assumption -exfalso -symm | (exfalso;omega)))
   refine Aj.mk ⟨j+1,by omega⟩ (Sub.lit (by simp[Bw,vD,AW])) (by simp;omega)
   skip
  ·have qZ:j=f.length:=by omega
   subst qZ;rw[aW0,<-pK]
   (refine AG Ab Ab (AD @Bw.eq_1) ?_;intros;refine Ah ?_)
   refine Aj.mk ⟨i+1,by omega⟩ (Sub.lit (by simp[Bw])) (by simp;omega)
   skip
 ·have qZ:i=l.length:=by omega
  subst qZ;rw[aW0];exact Av Ab Ab (AD @Bw.eq_1)
end Go.Proofs.Wy
end
section
namespace Go.Proofs.Wy
open Go Go.Dm Tryz
variable [DMode]
theorem FT (l m:List Nd):Cs (l++m)=Cs l++Cs m:=by simp[Cs]
theorem XF (x:Nd) (l:List Nd):Cs (x::l)=(if BR x=true then [x]else [])++Cs l:=by unfold Cs;rw[List.filter_cons];cases BR x<;>rfl
theorem AT_ (u:RT):Ak [u]=flat u:=by rw[Ap,Ch,bO0]
theorem QT {x:Nd} (h:x.k=2\/x.k=3) (l:List Nd):Cs (x::l)=x::Cs l:=by rw[XF,if_pos (BB.2 h)];rfl
theorem JI {x:Nd} (h:¬(x.k=2\/x.k=3)) (l:List Nd):Cs (x::l)=Cs l:=by rw[XF,if_neg (fun hh=>h (BB.1 hh))];rfl
mutual
theorem PI : ∀(t:RT) (a:Nat),(Ss t a).length<=(Cs (flat t)).length
 | .mk x ks,a=>by
  rw[NX,AO]
  split
  ·rename_i h;rw[QT h];simp
  ·rename_i h;rw[JI h];exact PJ x.k ks (a+1)
theorem PJ (k:Int):∀(us:List RT) (a:Nat),(VI k us a).length<=(Cs (Ak us)).length
 | [],a=>by rw[Kx];simp
 | u::us,a=>by
  have h1:=PI u a;have h2:=PJ k us (a+(flat u).length);rw[GD,Ap,FT,aC0,aC0]
  split
  ·simp;omega
  ·omega
end
mutual
theorem PA : ∀(t:RT) (a:Nat),(Nu t a).length<=(Cs (flat t)).length
 | .mk x ks,a=>by
  rw[Lv,AO]
  split
  ·rename_i h;rw[QT h];simp
  ·rename_i h;rw[JI h];exact PC x.k ks (a+1)
theorem PC (k:Int):∀(us:List RT) (a:Nat),(OY k us a).length<=(Cs (Ak us)).length
 | [],a=>by rw[Hc];simp
 | u::us,a=>by
  have h1:=PA u a;have h2:=PC k us (a+(flat u).length);rw[Ez,Ap,FT,aC0]
  split
  ·rw[aC0]
   split
   ·omega
   ·simp;omega
  ·rw[aC0];omega
end
theorem PD {l f:List Nat} (h1:l.length<=64) (h2:f.length<=64):l.length*f.length<=4096:=Nat.mul_le_mul h1 h2
mutual
theorem VZ : ∀(t:RT) (a:Nat),(Cs (flat t)).length<=64->(YL t a).length+4096<=8192*(flat t).length
 | .mk x ks,a,hM=>by
  rw[LK,AO,List.length_cons]
  split
  ·simp;omega
  ·rename_i h;rw[AO,JI h]at hM;have h1:=Wa x.k ks (a+1) [] (by simpa using hM);have h2:=PC x.k ks (a+1);have h3:=PJ x.k ks (a+1);rw[aC0]
   split
   ·rw[NS];have:=PD (l:=OY x.k ks (a+1)) (f:=VI x.k ks (a+1)) (by omega) (by omega);omega
   ·simp;omega
theorem Wa (k:Int):∀(us:List RT) (a:Nat) (acc:List Nat),acc.length+(Cs (Ak us)).length<=64->(YO k us a acc).length<=8192*(Ak us).length
 | [],a,acc,_=>by rw[IS];simp
 | u::us,a,acc,hM=>by
  rw[Ap,FT,aC0]at hM;have h1:=VZ u a (by omega);have h2:=PI u a;have h3:=PA u a
  have h4:=Wa k us (a+(flat u).length) (if k=4 then Nu u a++(if BU u=true then acc else [])else []) (by
   split
   ·rw[aC0]
    split
    ·omega
    ·simp;omega
   ·simp;omega)
  rw[DV,Ap,aC0,aC0,aC0]
  split
  ·rename_i h5;rw[if_pos h5]at h4;rw[NS];have:=PD (l:=acc) (f:=Ss u a) (by omega) (by omega);omega
  ·rename_i h5;rw[if_neg h5]at h4;simp only[List.length_nil];omega
end
theorem TL (l f:List Nat) (L:List Nd) (ah:Nat):Cq (l.map (EZ L ah)) (f.map (EZ L ah))=(Cq l f).map (Vk L ah):=by
 induction l with
 | nil=>rfl
 | cons p l ih =>
  have h1:∀(p:Nat) (l f:List Nat),Cq (p::l) f=f.map (fun q=>(p,q))++Cq l f:=fun _ _ _=>rfl
  rw[List.map_cons,h1,h1,ih,bD0,bY0,bY0];rfl
theorem Gl {l:List Nd} {a:Nat} {m r:List Nd} (h:l.drop a=m++r):IA l (a+m.length)=IA l a+(Cs m).length:=by
 unfold IA Cs
 have h1:l.take (a+m.length)=l.take a++m:=by
  rw[List.take_add,h,List.take_left'];rfl
 rw[h1,cV0,aC0]
theorem TZ {l:List Nd} {a:Nat} {m r:List Nd} (h:l.drop a=m++r):l.drop (a+m.length)=r:=by
 rw[<-eV0,h,List.drop_left'];rfl
theorem FH_ {l:List Nd} {a p:Nat} {m r:List Nd} {x:Nd} (h:l.drop a=m++r) (hp:a<=p) (hx:m[p-a]? =some x):l[p]? =some x:=by
 have h1:(l.drop a)[p-a]? =some x:=by
  rw[h,aZ0 (aB0.1 hx).1];exact hx
 rw[cL0]at h1
 rwa[show a+(p-a)=p by omega]at h1
theorem rW {l:List Nd} {a:Nat} {m r:List Nd} (h:l.drop a=m++r):(Cs m).length<=(Cs l).length:=by
 have h1:Cs l=Cs (l.take a)++(Cs m++Cs r):=by rw[<-FT,<-h,<-FT,List.take_append_drop]
 rw[h1,aC0,aC0];omega
theorem Vj {l m r:List Nd} {a ah q:Nat} (h:l.drop a=m++r) (hq:a<=q) (hx:∃x,m[q-a]? =some x/\(x.k=2\/x.k=3)):1<=EZ l ah q/\EZ l ah q<=ah+IA l (a+m.length):=by
 obtain⟨x,hx,hk⟩:=hx;have h1:=FH_ h hq hx;have h2:=eI h1 (BB.2 hk) (show q<a+m.length by have:=(aB0.1 hx).1;omega);unfold EZ;omega
theorem DF_ {l r:List Nd} {t:RT} {a ah:Nat} (h:l.drop a=flat t++r):∀q∈(Ss t a).map (EZ l ah),1<=q/\q<=ah+IA l (a+(flat t).length):=by
 intro q hq;obtain⟨p,hp,rfl⟩:=aT0.1 hq;exact Vj h (JX t a p hp).1 (MF t a p hp)
theorem FC_ {l r:List Nd} {k:Int} {us:List RT} {a ah:Nat} (h:l.drop a=Ak us++r):∀q∈(VI k us a).map (EZ l ah),1<=q/\q<=ah+IA l (a+(Ak us).length):=by
 intro q hq;obtain⟨p,hp,rfl⟩:=aT0.1 hq;exact Vj h (LD k us a p hp).1 (MG k us a p hp)
def pE (k:Int) (us:List RT):Bool:=if k=4 then FH us else if k=1 then true else Ej us
theorem Uo (ts:List RT) (t:RT):Ej (ts++[t])=(Ej ts||BU t):=by rw[Na,Na,eN0];simp
theorem Gs_ (k:Int):pE k []=(decide (k=1)||decide (k=4)):=by
 unfold pE;rw[GJ,show Ej []=false by rw[Ej]]
 by_cases h4:k=4
 ·simp[h4]
 ·by_cases h1:k=1<;>simp[h1,h4]
theorem EU_ (k:Int) (us:List RT) (u:RT):pE k (us++[u])=if k=4 then (pE k us&&BU u)else (pE k us||BU u):=by
 unfold pE
 by_cases h4:k=4
 ·rw[if_pos h4,if_pos h4,if_pos h4,Oi]
 ·rw[if_neg h4,if_neg h4,if_neg h4]
  by_cases h1:k=1
  ·rw[if_pos h1,if_pos h1];rfl
  ·rw[if_neg h1,if_neg h1,Uo]
theorem Gt_ {x:Nd} {ks:List RT} (h:Ew (.mk x ks)=true) (hn:¬(x.k=2\/x.k=3)):BU (.mk x ks)=(pE x.k ks||decide (x.k=6)||decide (x.k=8)):=by
 have hm:=(Cj h).1;rw[VK,if_neg hn];unfold pE
 by_cases h5:x.k=5
 ·simp[h5]
 by_cases h4:x.k=4
 ·simp[h4]
 by_cases h7:x.k=7
 ·obtain⟨u,rfl⟩:=Pt h (by omega);rw[h7];simp[Oj,GJ,Ej]
 by_cases h1:x.k=1
 ·simp[h1]
 by_cases h6:x.k=6
 ·simp[h6]
 by_cases h8:x.k=8
 ·simp[h8]
 exfalso;unfold DO at hm;rw[if_neg h1,if_neg (fun e=>hn (.inl e)),if_neg (fun e=>hn (.inr e)),if_neg h4,if_neg h5,if_neg h6,if_neg h7,if_neg h8]at hm;simp at hm
end Go.Proofs.Wy
end
section
namespace Go.Proofs.Wy
open Go Go.Dm Go.Shelf Tryz
variable [DMode]
attribute [local irreducible] DW Bs Bt
set_option maxRecDepth 100000
abbrev MM (e:Bool) (f l:List Nat):DVal:= .agg [.bool e,Cz f,Cz l]
theorem Ie_ (a b:List Nat):MR [a,b]=a++b:=by simp[MR]
theorem Hp_ (a b:List Nat):KK [a,b]=a.length+b.length:=by simp[KK,MR]
theorem FX (a b:List Nat) (hb:(a.length+b.length)*8<=140737488355328):Bn prog (.func 109) [.sl 1 24 [[Cz a],[Cz b]]] [] (.osl 0 1) [⟨0,1,.row 3 1 8 ((a++b).map Bb)⟩]:=by
 have h:=RK [a,b] (by rw[Hp_];exact hb);rw[Ie_]at h;exact h
def uB : Ann:=⟨[16,22],[⟨1,[],[],[3,4,5,12,13,14,15,16]⟩]⟩
theorem oB (e e':Bool) (f f' l l':List Nat) (hf:(f.length+f'.length)*8<=140737488355328) (hl:(l.length+l'.length)*8<=140737488355328) :
  Ae prog 60 [MM e f l,MM e' f' l'] (MM (e||e') (f++f') (l++l')):=by
 refine Ac [16,22,4] uB func60 call60 ntmps60 mxd (Au @uB.eq_1 results60) rfl (fun qJ B qX qQ=> ?_);clear qJ;simp only[Am];have e1:=FX f f' hf;have e2:=FX l l' hl;obtain⟨F,hF⟩:∃F,F=f++f':=⟨_,rfl⟩;obtain⟨L,hL⟩:∃L,L=l++l':=⟨_,rfl⟩;rw[<-hF]at e1 |-;rw[<-hL]at e2 |-;have bB:List.range 2=[0,1]:=rfl;cases e
 ·exact Av Ab (Au (KV [] [(16,0)] e1) (KV [] [(22,0)] e2)) (AD bB)
 ·exact Av Ab (Au (KV [] [(16,0)] e1) (KV [] [(22,0)] e2)) (AD bB)
def Us : Ann:=⟨[16,22],[⟨1,[],[],[3,4,5,12,13,14,15,16]⟩]⟩
theorem oA (e e':Bool) (f f' l l':List Nat) (hf:(f.length+f'.length)*8<=140737488355328) (hl:(l.length+l'.length)*8<=140737488355328) :
  Bn prog (.func 60) [MM e f l,MM e' f' l'] [] (.agg [.bool (e||e'),Cz (f++f'),.osl 0 1]) [⟨0,1,.row 3 1 8 ((l++l').map Bb)⟩]:=by
 refine Cd [16,4] [(22,0,1)] Us func60 call60 ntmps60 mxd (Au @Us.eq_1 results60) rfl (fun qJ B qX qQ=> ?_);clear qJ;simp only[Am,List.nil_append];have e1:=FX f f' hf;have e2:=FX l l' hl;obtain⟨F,hF⟩:∃F,F=f++f':=⟨_,rfl⟩;obtain⟨L,hL⟩:∃L,L=l++l':=⟨_,rfl⟩;rw[<-hF]at e1 |-;rw[<-hL]at e2 |-;have bB:List.range 2=[0,1]:=rfl;cases e
 ·exact Av Ab (Au (KV [] [(16,0)] e1) (KV [] [(22,0)] e2)) (AD bB)
 ·exact Av Ab (Au (KV [] [(16,0)] e1) (KV [] [(22,0)] e2)) (AD bB)
def uC : Ann:=⟨[],[⟨1,[4],[],[]⟩]⟩
theorem Am_ (H L:List ByteArray) (x:Nd):Ae prog 59 [.agg (Bq x),.ref [GR H L]] (.agg (AM (Eo H L x))):=by
 refine Ac [] uC func59 call59 ntmps59 mxd (Au @uC.eq_1 results59) rfl (fun qJ B qX qQ=> ?_) (hd:=(by simp[mx,AM]));clear qJ;simp only[Am];have e1:=Qc H L x;exact Av (AD e1) Ab (Au @Bq.eq_1 @AM.eq_1)
end Go.Proofs.Wy
end
