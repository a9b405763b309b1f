/- Parts of a proof, laid together: SY1, BO1, BO2, BO5, BO3. -/
import Derived.Test.YtiojapdolljocaaGreatqBo15
import Derived.Test.YtiojapdolljocaaGreatqBo17
import Derived.Test.YtiojapdolljocaaGreatqBo21
import Derived.Test.YtiojapdolljocaaGreatqBo22
import Derived.Test.YtiojapdolljocaaGreatqBo25
import Derived.Test.YtiojapdolljocaaGreatqBo27
import Derived.Test.YtiojapdolljocaaGreatqBo28
set_option linter.unusedSimpArgs false
set_option maxHeartbeats 8000000
set_option linter.unusedVariables false
set_option linter.unusedSectionVars false
section
namespace Go.Proofs.Wy
open Go Go.Dm Tryz
attribute [local irreducible] DW Bm Bq
set_option maxRecDepth 100000
theorem pB {l:List ByteArray} (h:Str l):l.Nodup:=h.imp fun h1=>xB h1
theorem VS {l:List ByteArray} (hn:l.Nodup) {i:Nat} {x:ByteArray} (h:l[i]? =some x):¬x∈l.take i:=by
 intro hm;obtain⟨j,hj,e⟩:=bW0 hm;rw[bD0]at hj;rw[List.getElem_take]at e;obtain⟨hi,e2⟩:=aG0.1 h;have:=(List.getElem_inj (h₀:=by omega) (h₁:=hi) hn).1 (e.trans e2.symm);omega
theorem BD {α:Type} {l:List α} {i:Nat} {x:α} (h:l[i]? =some x):l.take (i+1)=l.take i++[x]:=by rw[bP0,h];rfl
def iU : Ann:=⟨[],[]⟩
theorem xX (g:List Rul) (c:Int) (hc:c≠0) (h:Ae prog 49 [AB g] (.int .i64 c)):Ae prog 14 [AB g] (.tup [.nilp,.int .i64 c]):=by
 refine Ac [] iU func14 call14 ntmps14 mxd (Ar @iU.eq_1 results14) rfl (fun qJ B qX qQ=> ?_);clear qJ;simp only[Ak];exact Aw (AJ h) Ab (AJ hc)
def SU : Ann:=⟨[19,21],[]⟩
theorem eM (g:List Rul) (hn:(AK 3 g).length*16<=140737488355328) (hl:(Av g).length<9223372036854775807) (hll:(AC g).length<9223372036854775807) (h:Ae prog 49 [AB g] (.int .i64 0)):Ae prog 14 [AB g] (.tup [ES (Av g) (AC g),.int .i64 0]):=by
 refine Ac [19,21] SU func14 call14 ntmps14 mxd (Ar @SU.eq_1 results14) rfl (fun qJ B qX qQ=> ?_);clear qJ;simp only[Ak];have e1:=Lx g;have e2:=JY g hn;have hH:=HJ g;have hL:=pB (GG (AK 3 g)).1;rw[show Ep (AK 3 g)=AC g from rfl]at hL;obtain⟨H,eH⟩:∃H,H=Av g:=⟨_,rfl⟩;obtain⟨L,eL⟩:∃L,L=AC g:=⟨_,rfl⟩;rw[<-eH]at e1 hH hl |-;rw[<-eL]at e2 hL hll |-;clear eH eL
 (refine AX (GE h e1 e2) Ab Ab ?_;intros;refine Am ?_)
 refine Al (X:={k:Nat//k<=H.length}) (fun k=>⟨[(5,.bx 21 1 0),(25,Bu H),(26,.int .i64 H.length),(27,.int .i64 k.1)],[⟨21,1,.box [Bu H,Bu L,.omp 19 1]⟩,⟨19,1,.map (FK false (H.take k.1)) (Fh k.1)⟩]⟩) (fun k=>H.length-k.1) ⟨0,by omega⟩ (Sub.lit (by simp[FK,Fh])) ?_;rintro⟨k,hk⟩;simp only
 by_cases qV:k<H.length
 ·obtain⟨x,hx,qA,vN⟩:=Ax qV;have h1:=HH (b:=false) (VS hH hx);have qW:=Uc false (H.take k);have hu:Fh k++[.int .i64 (k:Int)]=Fh (k+1):=(RC k).symm;have hKs:FK false (H.take k)++[.agg [.bool false,.str x]]=FK false (H.take (k+1)):=by rw[BD hx,Sq]
  (refine AX Ab Ab (Mi qV hx qA @AE.eq_1 h1 qW hu hKs) ?_;intros;refine Am ?_)
  refine An.mk ⟨k+1,by omega⟩ (Sub.lit (by simp[hKs])) (by simp;omega)
  skip
 ·have qZ:k=H.length:=by omega
  subst qZ;rw[bC0];have k0:FK true []=[]:=rfl;have u0:Fh 0=[]:=rfl
  (refine AX Ab Ab Ab ?_;intros;refine Am ?_)
  refine Al (X:={k:Nat//k<=L.length}) (fun k=>⟨[(5,.bx 21 1 0),(43,Bu L),(44,.int .i64 L.length),(45,.int .i64 k.1)],[⟨21,1,.box [Bu H,Bu L,.omp 19 1]⟩,⟨19,1,.map (KQ H (L.take k.1)) (Fh H.length++Fh k.1)⟩]⟩) (fun k=>L.length-k.1) ⟨0,by omega⟩ (Sub.lit (by simp[KQ,k0,u0])) ?_;rintro⟨k,hk⟩;simp only
  by_cases qV:k<L.length
  ·obtain⟨x,hx,qA,vN⟩:=Ax qV;have h1:=Ve (H:=H) (L:=L.take k) (b:=true) (VS hL hx);have qW:=uM H (L.take k);have hu:Fh H.length++Fh k++[.int .i64 (k:Int)]=Fh H.length++Fh (k+1):=by rw[RC,aT0]
   have hKs:KQ H (L.take k)++[.agg [.bool true,.str x]]=KQ H (L.take (k+1)):=by unfold KQ;rw[BD hx,Sq,aT0]
   (refine AX Ab Ab (Mi qV hx qA @AE.eq_1 h1 qW hu hKs) ?_;intros;refine Am ?_)
   refine An.mk ⟨k+1,by omega⟩ (Sub.lit (by simp[hKs])) (by simp;omega)
   skip
  ·have qZ:k=L.length:=by omega
   subst qZ;rw[bC0];exact Aw Ab Ab Ab
end Go.Proofs.Wy
end
section
namespace Go.Proofs.Wy
open Go Go.Dm Go.Shelf Tryz
variable [DMode]
attribute [local irreducible] DW Bm Bq
set_option maxRecDepth 100000
def LK (ls:List (List Nat)):List Nat:=ls.flatten
def JG (ls:List (List Nat)):Nat:=(LK ls).length
theorem SL (ls:List (List Nat)) (l:List Nat):LK (ls++[l])=LK ls++l:=by simp[LK]
theorem Xd : LK []=[]:=rfl
theorem RF (ls:List (List Nat)) (l:List Nat):JG (ls++[l])=JG ls+l.length:=by unfold JG;rw[SL,aB0]
def Tw (l:List Nat):List DVal:=[Eh l]
@[simp] theorem CA_ (l:List Nat):AH (Tw l)=0:=by simp[Tw,AH,mx]
@[simp] theorem Fi_ (l:List (List Nat)):Bo (l.map Tw)=0:=Ie _ CA_ l
def JD : Ann:=⟨[5],[]⟩
theorem LH (l:List Nat) (hl:l.length*8<=140737488355328):Bh prog (.func 53) [Eh l] [] (.osl 0 1) [⟨0,1,.row 3 1 8 (l.map BH)⟩]:=by
 match l,hl with
 | [],_ =>
  refine QS ?_ ?_
  ·refine HQ ?_;refine Ac [] JD func53 call53 ntmps53 mxd (Ar @JD.eq_1 results53) rfl (fun qJ B qX qQ=> ?_);simp only[Ak];exact Aw Ab Ab Ab
  ·refine BI [] [(5,0,1)] JD func53 call53 ntmps53 mxd (Ar @JD.eq_1 results53) rfl (fun qJ B qX qQ=> ?_);simp only[Ak,List.nil_append];exact Aw Ab Ab Ab
 | x::l,hl =>
  refine BI [] [(5,0,1)] JD func53 call53 ntmps53 mxd (Ar @JD.eq_1 results53) rfl (fun qJ B qX qQ=> ?_);simp only[List.length_cons]at hl;have zH:(l.length+1)*8<=150000000000000:=by omega
  have gS:l.length<9223372036854775807:=by omega
  simp only[Ak,List.nil_append,List.map_cons,Eh,BH];exact Aw Ab Ab Ab
theorem ZD (n:Nat) (hn:n*8<=140737488355328):Bh prog (.func 161) [.nilsl,.int .i64 n] [] (.osl 0 1) [⟨0,1,.row 3 1 8 []⟩] :=
 ZE Tryz.growI rfl call161 rfl (hi0:=(rfl:Tryz.prog.info? 3=some _)) (z:= .int .i64 0) rfl rfl rfl rfl (by decide) n hn
theorem Ra (l:List Int):Bh prog (.func 64) [.osl 0 0] [⟨0,0,.row 3 1 8 (l.map Qn)⟩] (.tup []) [⟨0,0,.row 3 1 8 ((HX l).map Qn)⟩] :=
 Tq Tryz.sortInt rfl call64 (by decide) l
def XX : Ann:=⟨[24],[]⟩
theorem Qs (ls:List (List Nat)) (hb:JG ls*8<=140737488355328):Bh prog (.func 109) [.sl 1 24 (ls.map Tw)] [] (.osl 0 1) [⟨0,1,.row 3 1 8 ((LK ls).map BH)⟩]:=by
 refine BI [] [(24,0,1)] XX func109 call109 ntmps109 mxd (Ar @XX.eq_1 results109) rfl (fun qJ B qX qQ=> ?_);simp only[Ak,List.nil_append]
 have hsum:∀k,k<=ls.length->JG (ls.take k)*8<=140737488355328:=fun k hk=>by
  unfold JG LK at hb |-;have h1:ls.flatten.length=(ls.take k).flatten.length+(ls.drop k).flatten.length:=by rw[<-aB0,<-List.flatten_append,List.take_append_drop]
  omega
 have fG:ls.length<9223372036854775807:=by
  have h1:=qJ.1;simp only[EX,aO0]at h1;have h2:=h1.1;unfold maxLen at h2;omega
 clear qJ
 (refine AX Ab Ab Ab ?_;intros;refine Am ?_)
 refine Al (X:={k:Nat//k<=ls.length}) (fun k=>⟨[(0,.sl 1 24 (ls.map Tw)),(3,.int .i64 (JG (ls.take k.1))),(9,.sl 1 24 (ls.map Tw)),(10,.int .i64 ls.length),(11,.int .i64 k.1)],[]⟩) (fun k=>ls.length-k.1) ⟨0,by omega⟩ (Sub.lit (by simp[JG,Xd])) ?_;rintro⟨k,hk⟩;simp only
 by_cases qV:k<ls.length
 ·obtain⟨x,hx,qA,vN⟩:=Ax qV;have mY:JG (ls.take (k+1))=JG (ls.take k)+x.length:=by rw[BD hx,RF]
  have kZ:=hsum (k+1) qV;obtain⟨m,hm⟩:∃m,m=JG (ls.take k):=⟨_,rfl⟩;rw[mY,<-hm]at kZ;rw[<-hm]at mY |-
  (refine AX Ab Ab (Ik qV hx qA @Tw.eq_1) ?_;intros;refine Am ?_)
  refine An.mk ⟨k+1,by omega⟩ (Sub.lit (by simp[mY])) (by simp;omega)
  skip
 ·have qZ:k=ls.length:=by omega
  subst qZ;rw[bC0];have e1:=ZD _ hb
  (refine AX Ab (AJ (Ji [] [(24,0)] e1)) Ab ?_;intros;refine Am ?_)
  refine Al (X:={k:Nat//k<=ls.length}) (fun k=>⟨[(6,.osl 24 1),(25,.sl 1 24 (ls.map Tw)),(26,.int .i64 ls.length),(27,.int .i64 k.1)],[⟨24,1,.row 3 1 8 ((LK (ls.take k.1)).map BH)⟩]⟩) (fun k=>ls.length-k.1) ⟨0,by omega⟩ (Sub.lit (by simp[Xd])) ?_;rintro⟨k,hk⟩;simp only
  by_cases qV:k<ls.length
  ·obtain⟨x,hx,qA,vN⟩:=Ax qV;have mY:(LK (ls.take (k+1))).map BH=(LK (ls.take k)).map BH++x.map BH:=by rw[BD hx,SL,bF0]
   have kZ:=hsum (k+1) qV;have hs3:JG (ls.take (k+1))=JG (ls.take k)+x.length:=by rw[BD hx,RF]
   obtain⟨F,hF⟩:∃F,F=LK (ls.take k):=⟨_,rfl⟩;have hFl:F.length=JG (ls.take k):=by rw[hF];rfl
   rw[hs3,<-hFl]at kZ;rw[<-hF]at mY |-;have hs4:(F.length+x.length)*8<=150000000000000:=by omega
   (refine AX Ab Ab (Mj qV hx qA @Tw.eq_1 hs4) ?_;intros;refine Am ?_)
   refine An.mk ⟨k+1,by omega⟩ (Sub.lit (by simp[mY])) (by simp;omega)
   skip
  ·have qZ:k=ls.length:=by omega
   subst qZ;rw[bC0];exact Aw Ab Ab Ab
def CR (SF:List Sym) (P:List (Nat×Nat)):List Arc:=P.map (BE_ SF)
theorem tL (SF:List Sym):CR SF []=[]:=rfl
theorem Fx (SF:List Sym) (P Q:List (Nat×Nat)):CR SF (P++Q)=CR SF P++CR SF Q:=by simp[CR]
theorem Jv (SF:List Sym) (P:List (Nat×Nat)):(CR SF P).length=P.length:=by simp[CR]
def GU (x:Nat) (f:List Nat):List (Nat×Nat):=f.map fun q=>(x,q)
theorem Zh (x:Nat) (f:List Nat) (q:Nat):GU x (f++[q])=GU x f++[(x,q)]:=by simp[GU]
theorem pR (x:Nat):GU x []=[]:=rfl
theorem RZ (x:Nat) (f:List Nat):(GU x f).length=f.length:=by simp[GU]
def Bp (u v:Nat) (S:List Sym) (A:List Arc):List Ent:=[⟨0,0,.box [.osl 1 u,.osl 2 v]⟩,⟨1,u,.row 24 2 16 (S.map Bf)⟩,⟨2,v,.row 39 4 32 (A.map Cs)⟩]
theorem Zx (l f:List Nat) (x:Nat):Cn (l++[x]) f=Cn l f++GU x f:=by simp[Cn,GU]
theorem MI (l f:List Nat):(Cn l f).length=l.length*f.length:=by
 induction l with
 | nil=>simp[Cn]
 | cons x l ih =>
  have:Cn (x::l) f=(f.map fun q=>(x,q))++Cn l f:=rfl;rw[this,aB0,ih,aO0,List.length_cons,bR0];omega
theorem EQ_ {S SF:List Sym} (hp:S <+: SF) {q:Nat} (h1:1<=q) (h2:q<=S.length):S[q-1]? =some (SF.getD (q-1) ⟨false,0⟩):=by
 obtain⟨R,rfl⟩:=hp;have h:q-1<S.length:=by omega
 rw[aM0,aV0 h,aD0 h];rfl
def OF : Ann:=⟨[],[⟨6,[],[0],[]⟩]⟩
theorem IK (S SF:List Sym) (A:List Arc) (l f:List Nat) (hp:S <+: SF) (hf:∀q∈f,1<=q/\q<=S.length) (hS:S.length<9223372036854775807) (hb:(A.length+l.length*f.length)*32<=150000000000000) :
  Bh prog (.func 61) [.bx 0 0 0,Eh l,Eh f] (Bp 0 0 S A) (.tup []) (Bp 0 1 S (A++CR SF (Cn l f))):=by
 refine BI [] [(0,0,0),(1,1,0),(2,2,1)] OF func61 call61 ntmps61 mxd (Ar @OF.eq_1 results61) rfl (fun qJ B qX qQ=> ?_) (hv:=(by simp[Bp]))
 have fG:l.length<9223372036854775807/\f.length<9223372036854775807:=by
  have h1:=qJ;simp only[JP,EX,aO0,maxLen]at h1;omega
 clear qJ;simp only[Ak]
 (refine AX Ab Ab (AJ @Bp.eq_1) ?_;intros;refine Am ?_)
 refine Al (X:={i:Nat//i<=l.length}) (fun i=>⟨[(0,.bx 0 0 0),(2,Eh f),(10,Eh l),(11,.int .i64 l.length),(12,.int .i64 i.1)],Bp 0 1 S (A++CR SF (Cn (l.take i.1) f))⟩) (fun i=>l.length-i.1) ⟨0,by omega⟩ (Sub.lit (by simp[Bp,sC,tL])) ?_;rintro⟨i,hi⟩;simp only
 by_cases qV:i<l.length
 ·obtain⟨x,hx,qA,vN⟩:=Ax qV;have nA:=Zx (l.take i) f x;rw[<-BD hx]at nA
  have hjl:(Cn (l.take (i+1)) f).length<=l.length*f.length:=by
   rw[MI];exact aY0 _ (by rw[bD0];omega)
  rw[nA,aB0,RZ]at hjl;obtain⟨P,hP⟩:∃P,P=Cn (l.take i) f:=⟨_,rfl⟩;rw[<-hP]at hjl nA |-
  (refine AX Ab Ab (Mj @Bp.eq_1 qV hx qA @BH.eq_1) ?_;intros;refine Am ?_)
  refine Al (X:={j:Nat//j<=f.length}) (fun j=>⟨[(0,.bx 0 0 0),(2,Eh f),(7,.int .i64 x),(10,Eh l),(11,.int .i64 l.length),(12,.int .i64 i),(16,Eh f),(17,.int .i64 f.length),(18,.int .i64 j.1)],Bp 0 1 S (A++CR SF (P++GU x (f.take j.1)))⟩) (fun j=>f.length-j.1) ⟨0,by omega⟩ (Sub.lit (by simp[Bp,pR])) ?_;rintro⟨j,hj⟩;simp only
  by_cases qP:j<f.length
  ·obtain⟨q,hq,zE,hqm⟩:=Ax qP;obtain⟨fF,jC⟩:=hf q hqm;have yD:q-1<S.length:=by omega
   obtain⟨y,hy,zM,dK⟩:=Ax yD
   have hA:BE_ SF (x,q)=⟨x,y,q⟩:=by
    have hsy:=EQ_ hp fF jC;rw[hy]at hsy;simp only[aA0]at hsy;unfold BE_;rw[<-hsy]
   have zA:CR SF (P++GU x (f.take (j+1)))=CR SF (P++GU x (f.take j))++[⟨x,y,q⟩]:=by rw[BD hq,Zh,<-aT0,Fx,<-hA];rfl
   have dG:(CR SF (P++GU x (f.take j))).length+1<=l.length*f.length:=by rw[Jv,aB0,RZ,bD0];omega
   obtain⟨Z,hZ⟩:∃Z,Z=CR SF (P++GU x (f.take j)):=⟨_,rfl⟩;rw[<-hZ]at zA dG |-;have wM:(A.length+Z.length+1)*32<=150000000000000:=by omega
   have wK:IntKind.i64.wrap ((q:Int)-1)=((q-1:Nat):Int):=by rw[wq];omega
   (repeat (first | refine AI fun K hK=> ?_ | (refine BS OF mxd (by kernel_rfl) ?_;simp[OF,qX,Bp,qP,hq,zE,BH,wK,yD,hy,zM,Bf];try simp (disch:=omega) only[Ai]) | refine Ao ?_ | (refine Bg ?_ ?_ ?_;(· (simp[qX,Bp,qP,hq,zE,BH,wK,yD,hy,zM,Bf];done));(try (rotate_left;(· (intro hc;(try simp[qX,Bp,qP,hq,zE,BH,wK,yD,hy,zM,Bf]at hc);done))))) | (refine AL ?_;simp[results61,qX,Bp,qP,hq,zE,BH,wK,yD,hy,zM,Bf]) | ((first | refine Az ?_ | refine Ay ?_);simp[qX,Bp,qP,hq,zE,BH,wK,yD,hy,zM,Bf]) | (intro hc;(try simp[qX,Bp,qP,hq,zE,BH,wK,yD,hy,zM,Bf]at hc);(try (exfalso;omega))) | (refine⟨?_,?_⟩; · omega) | omega | apply_assumption -exfalso -symm | (exfalso;omega)))
   refine An.mk ⟨j+1,by omega⟩ (Sub.lit (by simp[Bp,zA,Cs])) (by simp;omega)
   skip
  ·have qZ:j=f.length:=by omega
   subst qZ;rw[bC0,<-nA]
   (refine AX Ab Ab (AJ @Bp.eq_1) ?_;intros;refine Am ?_)
   refine An.mk ⟨i+1,by omega⟩ (Sub.lit (by simp[Bp])) (by simp;omega)
   skip
 ·have qZ:i=l.length:=by omega
  subst qZ;rw[bC0];exact Aw Ab Ab (AJ @Bp.eq_1)
end Go.Proofs.Wy
end
section
namespace Go.Proofs.Wy
open Go Go.Dm Tryz
variable [DMode]
theorem Fj (l m:List Nd):CU (l++m)=CU l++CU m:=by simp[CU]
theorem Wf (x:Nd) (l:List Nd):CU (x::l)=(if Co x=true then [x]else [])++CU l:=by unfold CU;rw[List.filter_cons];cases Co x<;>rfl
theorem sM (u:RT):Ah [u]=flat u:=by rw[Aq,Dr,bX0]
theorem Pz {x:Nd} (h:x.k=2\/x.k=3) (l:List Nd):CU (x::l)=x::CU l:=by rw[Wf,if_pos (Dp.2 h)];rfl
theorem IH {x:Nd} (h:¬(x.k=2\/x.k=3)) (l:List Nd):CU (x::l)=CU l:=by rw[Wf,if_neg (fun hh=>h (Dp.1 hh))];rfl
mutual
theorem Ox : ∀(t:RT) (a:Nat),(YA t a).length<=(CU (flat t)).length
 | .mk x ks,a=>by
  rw[Qa,AR]
  split
  ·rename_i h;rw[Pz h];simp
  ·rename_i h;rw[IH h];exact Oy x.k ks (a+1)
theorem Oy (k:Int):∀(us:List RT) (a:Nat),(UU k us a).length<=(CU (Ah us)).length
 | [],a=>by rw[Ly];simp
 | u::us,a=>by
  have h1:=Ox u a;have h2:=Oy k us (a+(flat u).length);rw[Hf,Aq,Fj,aB0,aB0]
  split
  ·simp;omega
  ·omega
end
mutual
theorem Ot : ∀(t:RT) (a:Nat),(NM t a).length<=(CU (flat t)).length
 | .mk x ks,a=>by
  rw[Kq,AR]
  split
  ·rename_i h;rw[Pz h];simp
  ·rename_i h;rw[IH h];exact Ou x.k ks (a+1)
theorem Ou (k:Int):∀(us:List RT) (a:Nat),(NN k us a).length<=(CU (Ah us)).length
 | [],a=>by rw[Gi];simp
 | u::us,a=>by
  have h1:=Ot u a;have h2:=Ou k us (a+(flat u).length);rw[Ec,Aq,Fj,aB0]
  split
  ·rw[aB0]
   split
   ·omega
   ·simp;omega
  ·rw[aB0];omega
end
theorem Ov {l f:List Nat} (h1:l.length<=64) (h2:f.length<=64):l.length*f.length<=4096:=Nat.mul_le_mul h1 h2
mutual
theorem UA : ∀(t:RT) (a:Nat),(CU (flat t)).length<=64->(aC t a).length+4096<=8192*(flat t).length
 | .mk x ks,a,hM=>by
  rw[MW,AR,List.length_cons]
  split
  ·simp;omega
  ·rename_i h;rw[AR,IH h]at hM;have h1:=UB x.k ks (a+1) [] (by simpa using hM);have h2:=Ou x.k ks (a+1);have h3:=Oy x.k ks (a+1);rw[aB0]
   split
   ·rw[MI];have:=Ov (l:=NN x.k ks (a+1)) (f:=UU x.k ks (a+1)) (by omega) (by omega);omega
   ·simp;omega
theorem UB (k:Int):∀(us:List RT) (a:Nat) (acc:List Nat),acc.length+(CU (Ah us)).length<=64->(YE k us a acc).length<=8192*(Ah us).length
 | [],a,acc,_=>by rw[Jx];simp
 | u::us,a,acc,hM=>by
  rw[Aq,Fj,aB0]at hM;have h1:=UA u a (by omega);have h2:=Ox u a;have h3:=Ot u a
  have h4:=UB k us (a+(flat u).length) (if k=4 then NM u a++(if DQ u=true then acc else [])else []) (by
   split
   ·rw[aB0]
    split
    ·omega
    ·simp;omega
   ·simp;omega)
  rw[Ej,Aq,aB0,aB0,aB0]
  split
  ·rename_i h5;rw[if_pos h5]at h4;rw[MI];have:=Ov (l:=acc) (f:=YA u a) (by omega) (by omega);omega
  ·rename_i h5;rw[if_neg h5]at h4;simp only[List.length_nil];omega
end
theorem Sr (l f:List Nat) (L:List Nd) (ah:Nat):Cn (l.map (Mh L ah)) (f.map (Mh L ah))=(Cn l f).map (rD L ah):=by
 induction l with
 | nil=>rfl
 | cons p l ih =>
  have h1:∀(p:Nat) (l f:List Nat),Cn (p::l) f=f.map (fun q=>(p,q))++Cn l f:=fun _ _ _=>rfl
  rw[List.map_cons,h1,h1,ih,bF0,bY0,bY0];rfl
theorem FB {l:List Nd} {a:Nat} {m r:List Nd} (h:l.drop a=m++r):JI l (a+m.length)=JI l a+(CU m).length:=by
 unfold JI CU
 have h1:l.take (a+m.length)=l.take a++m:=by
  rw[List.take_add,h,List.take_left'];rfl
 rw[h1,dH0,aB0]
theorem SG {l:List Nd} {a:Nat} {m r:List Nd} (h:l.drop a=m++r):l.drop (a+m.length)=r:=by
 rw[<-List.drop_drop,h,List.drop_left'];rfl
theorem De_ {l:List Nd} {a p:Nat} {m r:List Nd} {x:Nd} (h:l.drop a=m++r) (hp:a<=p) (hx:m[p-a]? =some x):l[p]? =some x:=by
 have h1:(l.drop a)[p-a]? =some x:=by
  rw[h,aV0 (aG0.1 hx).1];exact hx
 rw[cJ0]at h1
 rwa[show a+(p-a)=p by omega]at h1
theorem eU {l:List Nd} {a:Nat} {m r:List Nd} (h:l.drop a=m++r):(CU m).length<=(CU l).length:=by
 have h1:CU l=CU (l.take a)++(CU m++CU r):=by rw[<-Fj,<-h,<-Fj,List.take_append_drop]
 rw[h1,aB0,aB0];omega
theorem TR {l m r:List Nd} {a ah q:Nat} (h:l.drop a=m++r) (hq:a<=q) (hx:∃x,m[q-a]? =some x/\(x.k=2\/x.k=3)):1<=Mh l ah q/\Mh l ah q<=ah+JI l (a+m.length):=by
 obtain⟨x,hx,hk⟩:=hx;have h1:=De_ h hq hx;have h2:=YU h1 (Dp.2 hk) (show q<a+m.length by have:=(aG0.1 hx).1;omega);unfold Mh;omega
theorem AS_ {l r:List Nd} {t:RT} {a ah:Nat} (h:l.drop a=flat t++r):∀q∈(YA t a).map (Mh l ah),1<=q/\q<=ah+JI l (a+(flat t).length):=by
 intro q hq;obtain⟨p,hp,rfl⟩:=aR0.1 hq;exact TR h (Qc t a p hp).1 (Qb t a p hp)
theorem CW_ {l r:List Nd} {k:Int} {us:List RT} {a ah:Nat} (h:l.drop a=Ah us++r):∀q∈(UU k us a).map (Mh l ah),1<=q/\q<=ah+JI l (a+(Ah us).length):=by
 intro q hq;obtain⟨p,hp,rfl⟩:=aR0.1 hq;exact TR h (KD k us a p hp).1 (Lz k us a p hp)
def pE (k:Int) (us:List RT):Bool:=if k=4 then Fp us else if k=1 then true else GD us
theorem SR (ts:List RT) (t:RT):GD (ts++[t])=(GD ts||DQ t):=by rw[QL,QL,List.any_append];simp
theorem DT_ (k:Int):pE k []=(decide (k=1)||decide (k=4)):=by
 unfold pE;rw[Jc,show GD []=false by rw[GD]]
 by_cases h4:k=4
 ·simp[h4]
 ·by_cases h1:k=1<;>simp[h1,h4]
theorem Ck_ (k:Int) (us:List RT) (u:RT):pE k (us++[u])=if k=4 then (pE k us&&DQ u)else (pE k us||DQ u):=by
 unfold pE
 by_cases h4:k=4
 ·rw[if_pos h4,if_pos h4,if_pos h4,SZ]
 ·rw[if_neg h4,if_neg h4,if_neg h4]
  by_cases h1:k=1
  ·rw[if_pos h1,if_pos h1];rfl
  ·rw[if_neg h1,if_neg h1,SR]
theorem DU_ {x:Nd} {ks:List RT} (h:EZ (.mk x ks)=true) (hn:¬(x.k=2\/x.k=3)):DQ (.mk x ks)=(pE x.k ks||decide (x.k=6)||decide (x.k=8)):=by
 have hm:=(Cx h).1;rw[iH,if_neg hn];unfold pE
 by_cases h5:x.k=5
 ·simp[h5]
 by_cases h4:x.k=4
 ·simp[h4]
 by_cases h7:x.k=7
 ·obtain⟨u,rfl⟩:=eF h (by omega);rw[h7];simp[MX,Jc,GD]
 by_cases h1:x.k=1
 ·simp[h1]
 by_cases h6:x.k=6
 ·simp[h6]
 by_cases h8:x.k=8
 ·simp[h8]
 exfalso;unfold DA at hm;rw[if_neg h1,if_neg (fun e=>hn (.inl e)),if_neg (fun e=>hn (.inr e)),if_neg h4,if_neg h5,if_neg h6,if_neg h7,if_neg h8]at hm;simp at hm
end Go.Proofs.Wy
end
section
namespace Go.Proofs.Wy
open Go Go.Dm Go.Shelf Tryz
variable [DMode]
attribute [local irreducible] DW Bm Bq
set_option maxRecDepth 100000
abbrev LD (e:Bool) (f l:List Nat):DVal:= .agg [.bool e,Eh f,Eh l]
theorem FC_ (a b:List Nat):LK [a,b]=a++b:=by simp[LK]
theorem EP_ (a b:List Nat):JG [a,b]=a.length+b.length:=by simp[JG,LK]
theorem Fm (a b:List Nat) (hb:(a.length+b.length)*8<=140737488355328):Bh prog (.func 109) [.sl 1 24 [[Eh a],[Eh b]]] [] (.osl 0 1) [⟨0,1,.row 3 1 8 ((a++b).map BH)⟩]:=by
 have h:=Qs [a,b] (by rw[EP_];exact hb);rw[FC_]at h;exact h
def lY : Ann:=⟨[16,22],[⟨1,[],[],[3,4,5,12,13,14,15,16]⟩]⟩
theorem aF (e e':Bool) (f f' l l':List Nat) (hf:(f.length+f'.length)*8<=140737488355328) (hl:(l.length+l'.length)*8<=140737488355328) :
  Ae prog 60 [LD e f l,LD e' f' l'] (LD (e||e') (f++f') (l++l')):=by
 refine Ac [16,22,4] lY func60 call60 ntmps60 mxd (Ar @lY.eq_1 results60) rfl (fun qJ B qX qQ=> ?_);clear qJ;simp only[Ak];have e1:=Fm f f' hf;have e2:=Fm l l' hl;obtain⟨F,hF⟩:∃F,F=f++f':=⟨_,rfl⟩;obtain⟨L,hL⟩:∃L,L=l++l':=⟨_,rfl⟩;rw[<-hF]at e1 |-;rw[<-hL]at e2 |-;have gU:List.range 2=[0,1]:=rfl;cases e
 ·exact Aw Ab (Ar (Ji [] [(16,0)] e1) (Ji [] [(22,0)] e2)) (AJ gU)
 ·exact Aw Ab (Ar (Ji [] [(16,0)] e1) (Ji [] [(22,0)] e2)) (AJ gU)
def SY : Ann:=⟨[16,22],[⟨1,[],[],[3,4,5,12,13,14,15,16]⟩]⟩
theorem aE (e e':Bool) (f f' l l':List Nat) (hf:(f.length+f'.length)*8<=140737488355328) (hl:(l.length+l'.length)*8<=140737488355328) :
  Bh prog (.func 60) [LD e f l,LD e' f' l'] [] (.agg [.bool (e||e'),Eh (f++f'),.osl 0 1]) [⟨0,1,.row 3 1 8 ((l++l').map BH)⟩]:=by
 refine BI [16,4] [(22,0,1)] SY func60 call60 ntmps60 mxd (Ar @SY.eq_1 results60) rfl (fun qJ B qX qQ=> ?_);clear qJ;simp only[Ak,List.nil_append];have e1:=Fm f f' hf;have e2:=Fm l l' hl;obtain⟨F,hF⟩:∃F,F=f++f':=⟨_,rfl⟩;obtain⟨L,hL⟩:∃L,L=l++l':=⟨_,rfl⟩;rw[<-hF]at e1 |-;rw[<-hL]at e2 |-;have gU:List.range 2=[0,1]:=rfl;cases e
 ·exact Aw Ab (Ar (Ji [] [(16,0)] e1) (Ji [] [(22,0)] e2)) (AJ gU)
 ·exact Aw Ab (Ar (Ji [] [(16,0)] e1) (Ji [] [(22,0)] e2)) (AJ gU)
def lZ : Ann:=⟨[],[⟨1,[4],[],[]⟩]⟩
theorem pZ (H L:List ByteArray) (x:Nd):Ae prog 59 [.agg (BM x),.ref [ES H L]] (.agg (Bf (En H L x))):=by
 refine Ac [] lZ func59 call59 ntmps59 mxd (Ar @lZ.eq_1 results59) rfl (fun qJ B qX qQ=> ?_) (hd:=(by simp[mx,Bf]));clear qJ;simp only[Ak];have e1:=OM H L x;exact Aw (AJ e1) Ab (Ar @BM.eq_1 @Bf.eq_1)
end Go.Proofs.Wy
end
