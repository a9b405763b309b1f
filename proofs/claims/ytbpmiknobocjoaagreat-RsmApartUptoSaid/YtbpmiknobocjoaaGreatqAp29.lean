/- Parts of a proof, laid together: RX2, RX3, RX4, RY2, RY3. -/
import Derived.Test.YtbpmiknobocjoaaGreatqAp17
import Derived.Test.YtbpmiknobocjoaaGreatqAp21
import Derived.Test.YtbpmiknobocjoaaGreatqAp22
import Derived.Test.YtbpmiknobocjoaaGreatqAp24
import Derived.Test.YtbpmiknobocjoaaGreatqAp27
import Derived.Test.YtbpmiknobocjoaaGreatqAp28
set_option linter.unusedSimpArgs false
set_option maxHeartbeats 8000000
set_option linter.unusedVariables false
set_option linter.unusedSectionVars false
section
namespace Go.Proofs.Wy
open Go Go.Dm Tryz
variable [DMode]
attribute [local irreducible] DW BN BS
set_option maxRecDepth 100000
def GU : Ann:=⟨[],[⟨5,[6],[],[]⟩]⟩
theorem Km (t:RT) (ht:ED t=true) (hs:(Ad t).length<=1572864):Af prog 120 [AM (Ad t)] (.int .i64 (JC t)):=by
 refine Ae [] GU func120 call120 ntmps120 mxd (AB @GU.eq_1 results120) rfl (fun qJ B qX qQ=> ?_);clear qJ;simp only[Aq];have hR:=Kk ht;have bF:=rR ht;have dE:∀x∈Ad t,x.n<=1572864:=fun x hx=>by have:=Rs t ht x hx;omega
 obtain⟨l,hl⟩:∃l,l=Ad t:=⟨_,rfl⟩;rw[<-hl]at hR bF dE hs |-;clear hl;obtain⟨R,fK⟩:∃R,R=JC t:=⟨_,rfl⟩;rw[<-fK]at hR |-;clear fK ht
 (refine AL Ab Ab Ab ?_;intros;refine Am ?_)
 refine BM 4 50 3 1 8 (by simp[qX,results120,GU]) (fun n=> ?_);refine Ai (X:={p:Nat×List Nat×Nat//p.1<=l.length/\(l.drop p.1).foldl Hn (p.2.1,p.2.2)=([],R)/\p.2.1.length<=p.1/\p.2.2<=p.1/\Fx p.2.1}) (fun p=>⟨[(3,.int .i64 p.1.2.2),(4,.osl 50 1),(7,AM l),(8,.int .i64 l.length),(9,.int .i64 p.1.1)],[⟨50,1,.row 3 1 8 (Jg p.1.2.1)⟩]⟩) (fun p=>l.length-p.1.1) ⟨(0,[],0),by simp[hR,Fx]⟩ (Sub.lit (by simp[Db])) ?_
 rintro⟨⟨k,s,m⟩,hk,hw,hsl,dV,yR⟩;simp only at hk hw hsl dV yR |-;clear hR
 by_cases qV:k<l.length
 ·obtain⟨x,hx,qB,vD⟩:=Ap qV;rw[aR0 qV,qB,cY0]at hw;have zD:=Ig (bF x vD);obtain⟨c,jZ⟩:∃c:Nat,x.n=(c:Int):=⟨x.n.toNat,by omega⟩;have jC:=Bi_ (p:=(s,m)) x (by have:=dE x vD;omega) yR;have gH:=Bj_ (s,m) x;unfold Hn at hw jC gH;rw[jZ,eC0]at hw jC gH;simp only at hw jC gH;obtain⟨P,hP⟩:∃P,P=(if c=0 then fin s else c::s):=⟨_,rfl⟩;rw[<-hP]at hw jC gH;have vG:(if (m:Int)<(s.length:Int)+1 then (s.length:Int)+1 else (m:Int))=((max m (s.length+1):Nat):Int):=by split<;>omega
  obtain⟨m2,jF⟩:∃m2,m2=max m (s.length+1):=⟨_,rfl⟩;rw[<-jF]at hw vG;have hm2b:m2<=k+1:=by omega
  have z1:(s.length+1)*8<=150000000000000:=by omega
  have z2:s.length+1<=9223372036854775807:=by omega
  have q1:IntKind.i64.wrap ((s.length:Int)+1)=(s.length:Int)+1:=wq
  (refine AL Ab Ab (Ml @Bo.eq_1 qV hx qB jZ @EL vG z1 z2 q1) ?_;intros;refine Am ?_)
  refine Ai (X:={q:List Nat//CL_ q=P/\q.length<=k+1/\Fx q.tail}) (fun q=>⟨[(3,.int .i64 m2),(4,.osl 50 1),(7,AM l),(8,.int .i64 l.length),(9,.int .i64 k)],[⟨50,1,.row 3 1 8 (Jg q.1)⟩]⟩) (fun q=>q.1.length) ⟨c::s,by rw[hP,Az_],by simp;omega,yR⟩ (Sub.lit (by simp[vG,Iv,BD])) ?_;rintro⟨q,jT,yE,gW⟩;simp only
  match q,jT,yE,gW with
  | [],jT,yE,gW =>
   have hP2:P=[]:=by rw[<-jT];rfl
   (refine AL Ab Ab (AH @Db) ?_;intros;refine Am ?_)
   refine Al.mk ⟨(k+1,P,m2),show k+1<=l.length/\(l.drop (k+1)).foldl Hn (P,m2)=([],R)/\P.length<=k+1/\m2<=k+1/\Fx P from ⟨by omega,hw,by omega,hm2b,jC⟩⟩ (Sub.lit (by simp[hP2,Db])) (by simp;omega)
   skip
  | d::q,jT,yE,gW =>
   have hql:q.length<=k:=by simpa using yE
   have qU:(Jg (d::q)).length=q.length+1:=by rw[EL];rfl
   have vZ:=YX d q;have wK:=BA_ d q;have q2:IntKind.i64.wrap ((q.length:Int))=(q.length:Int):=wq;obtain⟨D,hD⟩:∃D,D=Jg (d::q):=⟨_,rfl⟩;rw[<-hD]at qU vZ wK |-;have qO:q.length<D.length:=by omega
   have wC:D[q.length]'qO=[.int .i64 (d:Int)]:=(aB0.1 vZ).2;have wM:(0:Int)<(q.length:Int)+1:=by omega
   cases d with
   | zero =>
    cases q with
    | nil =>
     have hP2:P=[]:=by rw[<-jT];rfl
     have q0:IntKind.i64.wrap 0=0:=by decide
     simp only[List.length_nil,bQ0]at qU vZ wC wK qO
     (repeat (first | (refine UL 4 ?_ (fun _=> ?_);(· (simp[qX,qU,vZ,wC,qO,wM,wK,Db,q0];done));(try simp[qX,qU,vZ,wC,qO,wM,wK,Db,q0])) | refine AC fun K hK=> ?_ | (refine BA GU mxd (by kernel_rfl) ?_;simp[GU,qX,qU,vZ,wC,qO,wM,wK,Db,q0];try simp (disch:=omega) only[Ag]) | refine Ao ?_ | (refine AX ?_ ?_ ?_;(· (simp[qX,qU,vZ,wC,qO,wM,wK,Db,q0];done));(try (rotate_left;(· (intro hc;(try simp[qX,qU,vZ,wC,qO,wM,wK,Db,q0]at hc);done))))) | (refine AE ?_;simp[results120,qX,qU,vZ,wC,qO,wM,wK,Db,q0]) | ((first | refine Aw ?_ | refine Av ?_);simp[qX,qU,vZ,wC,qO,wM,wK,Db,q0]) | (intro hc;(try simp[qX,qU,vZ,wC,qO,wM,wK,Db,q0]at hc);(try (exfalso;omega))) | (refine⟨?_,?_⟩; · omega) | omega | apply_assumption -exfalso -symm | (exfalso;omega)))
     refine Al.mk ⟨[],hP2.symm,by simp,by simp[Fx]⟩ (Sub.lit (by simp[Db])) (by simp)
     skip
    | cons e q =>
     obtain⟨cY,he9⟩:=gW e (by simp);have q5:IntKind.i64.wrap ((e-1:Nat):Int)=((e-1:Nat):Int):=wq;have hP2:CL_ ((e-1)::q)=P:=by rw[Ay_ cY,<-jT];rfl
     have cQ:Fx q:=fun c hc=>gW c (by simp[hc])
     simp only[List.length_cons]at qU vZ wC wK qO q2 wM hql;have zU:(Jg (e::q)).length=q.length+1:=by rw[EL];rfl
     have zL:=YX e q;have vP:=Ei_ e (e-1) q;obtain⟨E,hE⟩:∃E,E=Jg (e::q):=⟨_,rfl⟩;rw[<-hE]at zU zL vP wK;have jM:q.length<E.length:=by omega
     have zY:E[q.length]'jM=[.int .i64 (e:Int)]:=(aB0.1 zL).2;have q3:IntKind.i64.wrap ((q.length:Int)+1)=(q.length:Int)+1:=wq;have q4:IntKind.i64.wrap ((q.length:Int))=(q.length:Int):=wq;have vS:(e:Int)-1=((e-1:Nat):Int):=by omega
     have cX:(0:Int)<(q.length:Int)+1:=by omega
     have pO:(0:Int)<(q.length:Int)+1+1:=by omega
     (repeat (first | (refine UL 4 ?_ (fun _=> ?_);(· (simp[qX,qU,vZ,wC,qO,wM,cX,pO,wK,q3,q4,zU,zL,zY,jM,vS,vP,q5];done));(try simp[qX,qU,vZ,wC,qO,wM,cX,pO,wK,q3,q4,zU,zL,zY,jM,vS,vP,q5])) | refine AC fun K hK=> ?_ | (refine BA GU mxd (by kernel_rfl) ?_;simp[GU,qX,qU,vZ,wC,qO,wM,cX,pO,wK,q3,q4,zU,zL,zY,jM,vS,vP,q5];try simp (disch:=omega) only[Ag]) | refine Ao ?_ | (refine AX ?_ ?_ ?_;(· (simp[qX,qU,vZ,wC,qO,wM,cX,pO,wK,q3,q4,zU,zL,zY,jM,vS,vP,q5];done));(try (rotate_left;(· (intro hc;(try simp[qX,qU,vZ,wC,qO,wM,cX,pO,wK,q3,q4,zU,zL,zY,jM,vS,vP,q5]at hc);done))))) | (refine AE ?_;simp[results120,qX,qU,vZ,wC,qO,wM,cX,pO,wK,q3,q4,zU,zL,zY,jM,vS,vP,q5]) | ((first | refine Aw ?_ | refine Av ?_);simp[qX,qU,vZ,wC,qO,wM,cX,pO,wK,q3,q4,zU,zL,zY,jM,vS,vP,q5]) | (intro hc;(try simp[qX,qU,vZ,wC,qO,wM,cX,pO,wK,q3,q4,zU,zL,zY,jM,vS,vP,q5]at hc);(try (exfalso;omega))) | (refine⟨?_,?_⟩; · omega) | omega | apply_assumption -exfalso -symm | (exfalso;omega)))
     refine Al.mk ⟨(e-1)::q,hP2,by simp;omega,cQ⟩ (Sub.lit (by simp)) (by simp)
     skip
   | succ d =>
    have hP2:P=(d+1)::q:=by rw[<-jT];rfl
    have kK:¬(d:Int)+1=0:=by omega
    have hd0':(((d:Int)+1)==0)=false:=by simpa using kK
    (refine AL Ab Ab (KG qU vZ wC qO q2 wM kK hd0') ?_;intros;refine Am ?_)
    refine Al.mk ⟨(k+1,P,m2),show k+1<=l.length/\(l.drop (k+1)).foldl Hn (P,m2)=([],R)/\P.length<=k+1/\m2<=k+1/\Fx P from ⟨by omega,hw,by omega,hm2b,jC⟩⟩ (Sub.lit (by simp[hP2,hD])) (by simp;omega)
    skip
 ·have qZ:k=l.length:=by omega
  subst qZ;rw[bU0]at hw;simp only[List.foldl_nil,_root_.Prod.mk.injEq]at hw;obtain⟨rfl,rfl⟩:=hw;exact Az Ab Ab Ab
def dT (t:RT):List DVal:=[AM (Ad t)]
abbrev dTs (ts:List RT):DVal:= .sl 1 24 (ts.map dT)
@[simp] theorem HW_ (t:RT):AJ (dT t)=0:=by simp[dT,AJ,mx]
@[simp] theorem IR_ (l:List RT):Br (l.map dT)=0:=Ie _ HW_ l
theorem Me {ks:List RT} {i:Nat} {t:RT} (h:ks[i]? =some t):(An (ks.take (i+1))).length=(An (ks.take i)).length+(Ad t).length:=by
 rw[bM0,h,Fk,aD0];simp[An]
theorem Kq (ks:List RT) (i:Nat):An ks=An (ks.take i)++An (ks.drop i):=by rw[<-Fk,List.take_append_drop]
def EO : Ann:=⟨[],[]⟩
theorem Yv (x:Nd) (ks:List RT) (ht:ED (.mk x ks)=true) (hs:(Ad (.mk x ks)).length<=1572864):Af prog 160 [AM (Ad (.mk x ks))] (dTs ks):=by
 refine Ae [60] EO func160 call160 ntmps160 mxd (AB @EO.eq_1 results160) rfl (fun qJ B qX qQ=> ?_);clear qJ;simp only[Aq];obtain⟨hm,hn,qG⟩:=Cg ht;have bF:=rR ht;have dE:=Rs _ ht;obtain⟨l,hl⟩:∃l,l=Ad (.mk x ks):=⟨_,rfl⟩;have vR:l=x::An ks:=by rw[hl,AQ]
 rw[<-hl]at bF dE hs |-;have h0:l[0]? =some x:=by rw[vR];rfl
 have qU:l.length=(An ks).length+1:=by rw[vR];simp
 have wN:0<l.length:=by omega
 have zJ:l[0]'wN=x:=(aB0.1 h0).2;have zE:ks.length<=1572864:=by have:=Cr ks;omega
 (refine AL Ab Ab (Lj @Bo.eq_1 h0 zJ wN hn) ?_;intros;refine Am ?_)
 refine BM 3 60 31 1 24 (by simp[qX,results160,EO]) (fun n=> ?_);refine Ai (X:={i:Nat//i<=ks.length}) (fun i=>⟨[(0,AM l),(3,.osl 60 1),(4,.int .i64 (1+(An (ks.take i.1)).length:Nat)),(10,.int .i64 ks.length),(11,.int .i64 i.1)],[⟨60,1,.row 31 1 24 ((ks.take i.1).map dT)⟩]⟩) (fun i=>ks.length-i.1) ⟨0,by omega⟩ (Sub.lit (by simp[An])) ?_;rintro⟨i,hi⟩;simp only
 by_cases qV:i<ks.length
 ·obtain⟨t,wK,nQ,_⟩:=Ap qV;have jC:=Kq ks i;have hdr:=aR0 qV;rw[nQ]at hdr
  have fX:FQ (ks.drop i)=true:=by
   have:=PR (ks.take i) (ks.drop i);rw[List.take_append_drop,qG]at this;simpa using (by simpa using this.symm:FQ (ks.take i)=true/\FQ (ks.drop i)=true).2
  rw[hdr]at fX;obtain⟨jL,hokr⟩:=BQ fX;obtain⟨A,hA⟩:∃A,A=1+(An (ks.take i)).length:=⟨_,rfl⟩;obtain⟨r,hr⟩:∃r,r=An (ks.drop (i+1)):=⟨_,rfl⟩
  have kJ:l.drop A=Ad t++r:=by
   rw[vR,hA,Nat.add_comm,dP0,jC,dQ0 (Nat.le_refl _),bU0,List.nil_append,hdr,Ax,hr]
  have hend:EU (l.drop A) 1=some r:=by rw[kJ,Gm t r 0 jL,Cs]
  have hA2:A+(Ad t).length+r.length=l.length:=by
   have:=congrArg List.length kJ;rw[cD0,aD0]at this;have:=GK t;omega
  have hnext:=Me wK;rw[<-hA];clear jC hdr fX hokr
  (repeat (first | refine AC fun K hK=> ?_ | (refine BA EO mxd (by kernel_rfl) ?_;simp[EO,qX,qV];try simp (disch:=omega) only[Ag]) | refine Ao ?_ | (refine AX ?_ ?_ ?_;(· (simp[qX,qV];done));(try (rotate_left;(· (intro hc;(try simp[qX,qV]at hc);done))))) | (refine AE ?_;simp[results160,qX,qV]) | ((first | refine Aw ?_ | refine Av ?_);simp[qX,qV]) | (intro hc;(try simp[qX,qV]at hc);(try (exfalso;omega))) | (refine⟨?_,?_⟩; · omega) | omega | apply_assumption -exfalso -symm | (exfalso;omega)))
  refine Ai (X:={p:Nat×Nat//p.1<=l.length/\EU (l.drop p.1) p.2=some r/\p.2<=1+p.1*1572864/\A<=p.1}) (fun p=>⟨[(0,AM l),(3,.osl 60 1),(4,.int .i64 p.1.1),(5,.int .i64 A),(6,.int .i64 p.1.2),(10,.int .i64 ks.length),(11,.int .i64 i)],[⟨60,1,.row 31 1 24 ((ks.take i).map dT)⟩]⟩) (fun p=>l.length-p.1.1) ⟨(A,1),show A<=l.length/\EU (l.drop A) 1=some r/\1<=1+A*1572864/\A<=A from ⟨by omega,hend,by omega,Nat.le_refl _⟩⟩ (Sub.lit (by simp)) ?_
  rintro⟨⟨k,w⟩,hk,hw,mP,hAk⟩;simp only at hk hw mP hAk |-
  cases w with
  | zero =>
   rw[Cs]at hw;simp only[aA0]at hw
   have yJ:k=A+(Ad t).length:=by
    have:=congrArg List.length hw;rw[cD0]at this;omega
   have z1:((ks.take i).length+1)*24<=150000000000000:=by rw[aY0];omega
   have z2:(ks.take i).length+1<=9223372036854775807:=by rw[aY0];omega
   have hpiece:(l.drop A).take (k-A)=Ad t:=by rw[yJ,Nat.add_sub_cancel_left,kJ];simp
   have qZ:A<=l.length:=by omega
   (repeat (first | refine AC fun K hK=> ?_ | (refine BA EO mxd (by kernel_rfl) ?_;simp[EO,qX,qV,hk,hAk,qZ];try simp (disch:=omega) only[Ag]) | refine Ao ?_ | (refine AX ?_ ?_ ?_;(· (simp[qX,qV,hk,hAk,qZ];done));(try (rotate_left;(· (intro hc;(try simp[qX,qV,hk,hAk,qZ]at hc);done))))) | (refine AE ?_;simp[results160,qX,qV,hk,hAk,qZ]) | ((first | refine Aw ?_ | refine Av ?_);simp[qX,qV,hk,hAk,qZ]) | (intro hc;(try simp[qX,qV,hk,hAk,qZ]at hc);(try (exfalso;omega))) | (refine⟨?_,?_⟩; · omega) | omega | apply_assumption -exfalso -symm | (exfalso;omega)))
   have hpD:List.take (k-A) (List.drop A (List.map Bo l))=(Ad t).map Bo:=by rw[<-List.map_drop,<-eU0,hpiece]
   have htm:List.take (i+1) (List.map dT ks)=List.take i (List.map dT ks)++[dT t]:=by rw[bM0,bH0,wK];rfl
   have yI:(1:Int)+((An (List.take (i+1) ks)).length:Int)=(k:Int):=by omega
   refine Al.mk ⟨i+1,by omega⟩ (Sub.lit (by simp[hpD,htm,yI,dT,BD])) (by simp;omega)
   skip
  | succ v =>
   have qL:k<l.length:=by
    rcases Nat.lt_or_ge k l.length with h | h
    ·exact h
    ·rw[dA0 h,Iu]at hw;simp at hw
   obtain⟨y,hy,yX,mH⟩:=Ap qL;rw[aR0 qL,yX,DI,if_pos (bF y mH)]at hw;have zD:=Ig (bF y mH);have hk9:=dE y mH;obtain⟨c,jZ⟩:∃c:Nat,y.n=(c:Int):=⟨y.n.toNat,by omega⟩;rw[jZ,eC0]at hw;have q1:IntKind.i64.wrap ((c:Int)-1)=(c:Int)-1:=wq;have q2:IntKind.i64.wrap ((v:Int)+1+((c:Int)-1))=(v:Int)+(c:Int):=by rw[wq];omega
   have q3:(0:Int)<(v:Int)+1:=by omega
   (repeat (first | refine AC fun K hK=> ?_ | (refine BA EO mxd (by kernel_rfl) ?_;simp[EO,qX,Bo,qL,hy,yX,jZ,q1,q2,q3];try simp (disch:=omega) only[Ag]) | refine Ao ?_ | (refine AX ?_ ?_ ?_;(· (simp[qX,Bo,qL,hy,yX,jZ,q1,q2,q3];done));(try (rotate_left;(· (intro hc;(try simp[qX,Bo,qL,hy,yX,jZ,q1,q2,q3]at hc);done))))) | (refine AE ?_;simp[results160,qX,Bo,qL,hy,yX,jZ,q1,q2,q3]) | ((first | refine Aw ?_ | refine Av ?_);simp[qX,Bo,qL,hy,yX,jZ,q1,q2,q3]) | (intro hc;(try simp[qX,Bo,qL,hy,yX,jZ,q1,q2,q3]at hc);(try (exfalso;omega))) | (refine⟨?_,?_⟩; · omega) | omega | apply_assumption -exfalso -symm | (exfalso;omega)))
   refine Al.mk ⟨(k+1,v+c),show k+1<=l.length/\EU (l.drop (k+1)) (v+c)=some r/\v+c<=1+(k+1)*1572864/\A<=k+1 from ⟨by omega,hw,by omega,by omega⟩⟩ (Sub.lit (by simp)) (by simp;omega)
   skip
 ·have qZ:i=ks.length:=by omega
  subst qZ;exact Az Ab Ab (AH (@aU0.{0}))
def ZH : Ann:=⟨[],[]⟩
theorem Vc (k:Int):Af prog 162 [.int .i64 k] (.str (eG k)):=by
 refine Ae [] ZH func162 call162 ntmps162 mxd (AB @ZH.eq_1 results162) rfl (fun qJ B qX qQ=> ?_);simp only[Aq];have z0:(⟨#[]⟩:ByteArray).size=0:=rfl;have z1:(⟨#[42]⟩:ByteArray).size=1:=rfl;have z2:(⟨#[43]⟩:ByteArray).size=1:=rfl;have z3:(⟨#[63]⟩:ByteArray).size=1:=rfl;have m1:1<=maxLen:=by decide
 unfold eG
 by_cases k6:k=6
 ·exact Az Ab Ab (Jm z0 z1 z2 z3 m1 k6)
 by_cases k7:k=7
 ·exact Az Ab Ab (IH z0 z1 z2 z3 m1 k6 k7)
 by_cases k8:k=8
 ·exact Az Ab Ab (KG z0 z1 z2 z3 m1 k6 k7 k8)
 exact Az Ab Ab (KG z0 z1 z2 z3 m1 k6 k7 k8)
theorem Hd_ {l:List Nat} {a:Nat} (h:a∈l):a<=l.sum:=by
 induction l with
 | nil=>simp at h
 | cons b l ih =>
  rw[eK0]
  rcases aK0.1 h with rfl | h
  ·omega
  ·have:=ih h;omega
theorem Tu {pk:Int} {ks:List RT} {i:Nat} {t:RT} (h:ks[i]? =some t):Dr pk (ks.take (i+1))=Dr pk (ks.take i)++[JZ pk t.x.k (CT t)]:=by
 rw[Dv,Dv,bM0,h,bD0];rfl
theorem Qp (pk:Int) (ks:List RT):(Dr pk ks).length=ks.length:=by rw[Dv,aJ0]
theorem Oy (t:RT):(Ad t)[0]? =some t.x:=by cases t;rfl
theorem Eu {ks:List RT} {t:RT} (h:t∈ks):(Ad t).length<=(An ks).length:=by
 induction ks with
 | nil=>simp at h
 | cons u ks ih =>
  rw[Ax,aD0]
  rcases aK0.1 h with rfl | h
  ·omega
  ·have:=ih h;omega
def Nx : Ann:=⟨[],[⟨1,[3],[],[]⟩]⟩
theorem Mr : ∀(n:Nat) (t:RT),(Ad t).length=n->ED t=true->(Ad t).length<=1572864->Af prog 121 [AM (Ad t)] (.str (CT t)):=by
 intro n
 induction n using Nat.strongRecOn with
 | ind n ih =>
 intro t hn ht hs;obtain⟨x,ks⟩:=t;have kk:=Yv x ks ht hs;obtain⟨hm,hkn,qG⟩:=Cg ht;have qI:=(HS _ ht);have h0:=Oy (.mk x ks);have wN:0<(Ad (.mk x ks)).length:=GK _;have vI:(Ad (.mk x ks)).length=(An ks).length+1:=by rw[AQ,List.length_cons]
 have yJ:=Cr ks
 have kL:∀u∈ks,Af prog 121 [AM (Ad u)] (.str (CT u)):=fun u hu=>by
  have:=Eu hu;exact ih (Ad u).length (by omega) u rfl (PQ qG u hu) (by omega)
 have hsj:=KJ x.k ks qG
 have hparts:∀y∈Dr x.k ks,1<=y.size/\y.size<=67108864:=fun y hy=>by
  refine⟨hsj.2 y hy,?_⟩;have:y.size+3<=((Dr x.k ks).map fun y=>y.size+3).sum:=Hd_ (aT0.2 ⟨y,hy,rfl⟩);omega
 have kj:=Bc_ (Dr x.k ks) (Ns x.k) (Ix _) (by rw[Qp];omega) hparts;have kg:=Vc x.k;have pA:=Jb (Dr x.k ks) (Ns x.k) (Ix _);have hgs:=Xl x.k;rw[PK];have fW:((Dr x.k ks).map fun y=>y.size+3).sum<=37748736:=by omega
 clear ih hn qI;obtain⟨l,hl⟩:∃l,l=Ad (.mk x ks):=⟨_,rfl⟩;rw[<-hl]at kk h0 wN |-;have zJ:l[0]'wN=x:=(aB0.1 h0).2;have z0:(⟨#[]⟩:ByteArray).size=0:=rfl;have z1:(⟨#[37]⟩:ByteArray).size=1:=rfl;have z2:(⟨#[32]⟩:ByteArray).size=1:=rfl;have z3:(⟨#[32,124,32]⟩:ByteArray).size=3:=rfl;have z4:(⟨#[40]⟩:ByteArray).size=1:=rfl;have z5:(⟨#[41]⟩:ByteArray).size=1:=rfl;have m1:1<=maxLen:=by decide
 have m3:3<=maxLen:=by decide
 refine Ae [] Nx func121 call121 ntmps121 mxd (AB @Nx.eq_1 results121) rfl (fun qJ B qX qQ=> ?_);clear qJ;simp only[Aq];obtain⟨b,hb⟩:∃b,b=Ns x.k:=⟨_,rfl⟩;have hbz:b=Ns x.k:=hb;rw[<-hb]at kj |-;unfold Ns at hb
 rcases KT hm with k | k | k | k | k | k | k | k
 ·exact Az (AH kk) Ab (KG @Bo.eq_1 h0 zJ wN z0 z1 m1 k)
 ·exact Az (AH kk) Ab (KG @Bo.eq_1 h0 zJ wN z0 z1 m1 k)
 ·exact Az (AH kk) Ab (KG @Bo.eq_1 h0 zJ wN z0 z1 m1 k)
 all_goals
  have k1:¬x.k=1:=by omega
  have k2:¬(x.k=2\/x.k=3):=by omega
  rw[if_neg k1,if_neg k2];have wX:=hb;simp only[k]at wX
  try simp at wX
  (refine AL (AH kk) Ab (JE @Bo.eq_1 h0 zJ wN z0 z1 z2 z3 m1 m3 k) ?_;intros;refine Am ?_)
  refine BM 5 50 9 1 16 (by simp[qX,results121,Nx]) (fun n=> ?_);refine Ai (X:={i:Nat//i<=ks.length}) (fun i=>⟨[(3,.ref [.int .i64 x.k,.str x.s,.int .i64 x.n]),(4,.str b),(5,.osl 50 1),(26,dTs ks),(27,.int .i64 ks.length),(28,.int .i64 i.1)],[⟨50,1,.row 9 1 16 ((Dr x.k (ks.take i.1)).map Be)⟩]⟩) (fun i=>ks.length-i.1) ⟨0,by omega⟩ (Sub.lit (by simp[k,wX,Mq])) ?_;clear hb wX k kk;rintro⟨i,hi⟩;simp only
  by_cases qV:i<ks.length
  ·obtain⟨u,hu,vO,hum⟩:=Ap qV;have ku:=kL u hum;have g0:=Oy u;have gl:0<(Ad u).length:=GK u;have vV:=HS u (PQ qG u hum);have pX:=Eu hum;have wK:=Tu (pk:=x.k) hu;have zN:JZ x.k u.x.k (CT u)=if CP_ x.k u.x.k then ⟨#[40]⟩++CT u++⟨#[41]⟩else CT u:=rfl
   unfold CP_ at zN;obtain⟨m,jF⟩:∃m,m=Ad u:=⟨_,rfl⟩;have hfm:Ad u=m:=jF.symm;rw[<-jF]at ku g0 gl vV pX;obtain⟨s,zK⟩:∃s,s=CT u:=⟨_,rfl⟩;rw[<-zK]at ku vV zN wK;have g0':m[0]'gl=u.x:=(aB0.1 g0).2;obtain⟨P,hP⟩:∃P,P=JZ x.k u.x.k s:=⟨_,rfl⟩;rw[<-hP]at zN wK;have kX:(Dr x.k (ks.take i)).length=i:=by rw[Qp,aY0];omega
   obtain⟨T,hT⟩:∃T,T=Dr x.k (ks.take i):=⟨_,rfl⟩;rw[<-hT]at wK kX |-;have y1:(i+1)*16<=150000000000000:=by omega
   have y2:i+1<=9223372036854775807:=by omega
   have y3:1+s.size<=maxLen:=by unfold maxLen;omega
   have y4:1+s.size+1<=maxLen:=by unfold maxLen;omega
   by_cases p5:u.x.k=5
   ·simp[p5]at zN
    (refine AL (AH ku) Ab (AB (NG @dT.eq_1 @Bo.eq_1 hfm qV hu vO g0 g0' gl p5 y1 y2 y3 y4 z4 z5) (CL m1 kX @aP0)) ?_;intros;refine Am ?_)
    refine Al.mk ⟨i+1,by omega⟩ (Sub.lit (by simp[wK,zN,Be])) (by simp;omega)
    skip
   ·have p5':(u.x.k==5)=false:=by simpa using p5
    by_cases p4:u.x.k=4
    ·by_cases q5:x.k=5
     ·simp[p4,q5]at zN
      (refine AL (AH ku) Ab (AB (NG @dT.eq_1 @Bo.eq_1 hfm qV hu vO g0 g0' gl p4 p5 p5' q5 y1 y2 y3) (Jm y4 z4 z5 m1 kX @aP0)) ?_;intros;refine Am ?_)
      have htk5:=wK;rw[q5]at htk5;refine Al.mk ⟨i+1,by omega⟩ (Sub.lit (by simp[htk5,zN,Be,q5])) (by simp;omega)
      skip
     ·have q5':(x.k==5)=false:=by simpa using q5
      simp[p4,q5]at zN
      (refine AL (AH ku) Ab (AB (NG @dT.eq_1 @Bo.eq_1 hfm qV hu vO g0 g0' gl p4 p5 p5' q5 q5' y1 y2) (IH y3 y4 z4 z5 m1 kX @aP0)) ?_;intros;refine Am ?_)
      refine Al.mk ⟨i+1,by omega⟩ (Sub.lit (by simp[wK,zN,Be])) (by simp;omega)
      skip
    ·have p4':(u.x.k==4)=false:=by simpa using p4
     simp[p4,p5]at zN
     (refine AL (AH ku) Ab (AB (NG @dT.eq_1 @Bo.eq_1 hfm qV hu vO g0 g0' gl p4 p4' p5 p5' y1 y2 y3) (Jm y4 z4 z5 m1 kX @aP0)) ?_;intros;refine Am ?_)
     refine Al.mk ⟨i+1,by omega⟩ (Sub.lit (by simp[wK,zN,Be])) (by simp;omega)
     skip
  ·have qZ:i=ks.length:=by omega
   subst qZ;rw[aU0];obtain⟨J,hJ⟩:∃J,J=FS (Dr x.k ks) b:=⟨_,rfl⟩;have hJs:J.size<=37748736:=by rw[hJ];exact Nat.le_trans (Jb _ _ (by rw[hbz];exact Ix _)) fW
   rw[<-hJ]at kj |-;have y5:J.size+(eG x.k).size<=maxLen:=by unfold maxLen;omega
   refine ER (Sub.freezeL [50] _) ?_;simp[qX,results121,Nx];exact Az (AB kj kg) Ab (AH y5)
def Dk (t:RT):Int:=if 16<JC t then 171 else if 2048<(CT t).size then 174 else 0
def uA : Ann:=⟨[],[]⟩
theorem Sr (t:RT) (ht:ED t=true) (hs:(Ad t).length<=1572864):Af prog 74 [AM (Ad t)] (.int .i64 (Dk t)):=by
 refine Ae [] uA func74 call74 ntmps74 mxd (AB @uA.eq_1 results74) rfl (fun qJ B qX qQ=> ?_);clear qJ;simp only[Aq];have k1:=Km t ht hs;have k2:=Mr _ t rfl ht hs;unfold Dk;obtain⟨T,hT⟩:∃T,T=CT t:=⟨_,rfl⟩;rw[<-hT]at k2 |-
 by_cases c1:16<JC t
 ·have d1:(16:Int)<(JC t:Int):=by omega
  exact Az (AB k1 k2) Ab (AB c1 d1)
 ·have d1:¬(16:Int)<(JC t:Int):=by omega
  by_cases c2:2048<T.size
  ·have d2:(2048:Int)<(T.size:Int):=by omega
   exact Az (AB k1 k2) Ab (IF c1 d1 c2 d2)
  ·have d2:¬(2048:Int)<(T.size:Int):=by omega
   exact Az (AB k1 k2) Ab (IF c1 d1 c2 d2)
def Ld : Ann:=⟨[],[]⟩
theorem Nn (t:RT) (ht:ED t=true) (h:(Ad t).length<=2048):Af prog 44 [AM (Ad t)] (.int .i64 (Dk t)):=by
 refine Ae [] Ld func44 call44 ntmps44 mxd (AB @Ld.eq_1 results44) rfl (fun qJ B qX qQ=> ?_);clear qJ;simp only[Aq];have k1:=FW (Ad t) (by omega);rw[Fb ht]at k1;have k2:=Sr t ht (by omega);have d1:¬(2048:Int)<((Ad t).length:Int):=by omega
 have d2:¬2048<(Ad t).length:=by omega
 exact Az (AB k1 k2) Ab (AB d1 d2)
theorem No (l:List Nd) (h:2048<l.length):Af prog 44 [AM l] (.int .i64 3):=by
 refine Ae [] Ld func44 call44 ntmps44 mxd (AB @Ld.eq_1 results44) rfl (fun qJ B qX qQ=> ?_);clear qJ;simp only[Aq];have d1:(2048:Int)<(l.length:Int):=by omega
 exact Az Ab Ab (AB d1 h)
theorem Ze (l:List Nd) (h:l.length<=2048) (hw:Dg l=false):Af prog 44 [AM l] (.int .i64 170):=by
 refine Ae [] Ld func44 call44 ntmps44 mxd (AB @Ld.eq_1 results44) rfl (fun qJ B qX qQ=> ?_);clear qJ;simp only[Aq];have k1:=FW l (by omega);rw[hw]at k1;have d1:¬(2048:Int)<(l.length:Int):=by omega
 have d2:¬2048<l.length:=by omega
 exact Az (AH k1) Ab (AB d1 d2)
def Ny : Ann:=⟨[],[]⟩
theorem LI (t:RT) (ht:ED t=true) (hs:(Ad t).length<=1572864):Af prog 105 [AM (Ad t)] (.int .i64 (JC t)):=by
 refine Ae [] Ny func105 call105 ntmps105 mxd (AB @Ny.eq_1 results105) rfl (fun qJ B qX qQ=> ?_);clear qJ;simp only[Aq];have k1:=FW (Ad t) hs;rw[Fb ht]at k1;have k2:=Km t ht hs;exact Az (AB k1 k2) Ab Ab
theorem VU (l:List Nd) (hs:l.length<=1572864) (hw:Dg l=false):Af prog 105 [AM l] (.int .i64 0):=by
 refine Ae [] Ny func105 call105 ntmps105 mxd (AB @Ny.eq_1 results105) rfl (fun qJ B qX qQ=> ?_);clear qJ;simp only[Aq];have k1:=FW l hs;rw[hw]at k1;exact Az (AH k1) Ab Ab
structure At (l:List Nd) (p:Nat) (t:RT):Prop where
 ok:ED t=true
 le:p<=l.length
 eq:∃r,l.drop p=Ad t++r
def AS (p:Nat) (ks:List RT) (i:Nat):Nat:=p+1+(An (ks.take i)).length
def Ij (n:Nat):List DVal:=[.int .i64 (n:Int)]
def Ki (p:Nat) (ks:List RT):DVal:= .sl 1 8 ((List.range ks.length).map fun i=>Ij (AS p ks i))
@[simp] theorem FB_ (n:Nat):AJ (Ij n)=0:=by simp[Ij,AJ,mx]
@[simp] theorem Hj (p:Nat) (ks:List RT) (n:Nat):Br ((List.range n).map fun i=>Ij (AS p ks i))=0:=Ie (fun i=>Ij (AS p ks i)) (fun i=>FB_ _) _
theorem At.top {t:RT} (h:ED t=true):At (Ad t) 0 t:=⟨h,by omega,[],by simp⟩
theorem At.kid {l:List Nd} {p:Nat} {x:Nd} {ks:List RT} (h:At l p (.mk x ks)) {i:Nat} {u:RT} (hu:ks[i]? =some u):At l (AS p ks i) u/\EU (l.drop (AS p ks i)) 1=some (l.drop (AS p ks (i+1)))/\AS p ks (i+1)<=l.length:=by
 obtain⟨qG,yD,r,hr⟩:=h;obtain⟨_,_,h3⟩:=Cg qG;obtain⟨hi,rfl⟩:=aB0.1 hu;have qU:(l.drop p).length=1+(An ks).length+r.length:=by rw[hr,AQ,aD0,List.length_cons];omega
 rw[cD0]at qU;have jC:=Kq ks i;have hdr:=aR0 hi;have wT:=Me (ks:=ks) hu;have vI:(An ks).length=(An (ks.take i)).length+((Ad ks[i]).length+(An (ks.drop (i+1))).length):=by rw[jC,aD0,hdr,Ax,aD0]
 have kJ:l.drop (AS p ks i)=Ad ks[i]++(An (ks.drop (i+1))++r):=by
  unfold AS;rw[cS0,<-eQ0,hr,AQ,Nat.add_comm 1,List.cons_append,dP0,jC,aS0,dQ0 (Nat.le_refl _),bU0,List.nil_append,hdr,Ax,aS0]
 have hoku:ED ks[i]=true:=PQ h3 _ (dE0 hi);refine⟨⟨hoku,by unfold AS;omega,_,kJ⟩,?_,by unfold AS;omega⟩;rw[kJ,Gm _ _ 0 hoku,Cs]
 congr 1
 have h5:AS p ks (i+1)=AS p ks i+(Ad ks[i]).length:=by unfold AS;omega
 have h6:l.drop (AS p ks i+(Ad ks[i]).length)=(l.drop (AS p ks i)).drop (Ad ks[i]).length:=by rw[eQ0]
 rw[h5,h6,kJ,dQ0 (Nat.le_refl _),bU0,List.nil_append]
theorem At.head {l:List Nd} {p:Nat} {t:RT} (h:At l p t):l[p]? =some t.x/\p<l.length/\p+(Ad t).length<=l.length:=by
 obtain⟨qG,yD,r,hr⟩:=h;have h1:=GK t;have h2:=congrArg List.length hr;rw[cD0,aD0]at h2;refine⟨?_,by omega,by omega⟩;have h3:(l.drop p)[0]? =some t.x:=by rw[hr,bC0 (by omega)];exact Oy t
 rw[cQ0]at h3;simpa using h3
def WE : Ann:=⟨[],[]⟩
theorem Et (l:List Nd) (p:Nat) (x:Nd) (ks:List RT) (h:At l p (.mk x ks)) (hs:l.length<=1572864):Af prog 92 [AM l,.int .i64 p] (Ki p ks):=by
 refine Ae [50] WE func92 call92 ntmps92 mxd (AB @WE.eq_1 results92) rfl (fun qJ B qX qQ=> ?_) (hd:=(by simp[mx,Ki]));clear qJ;simp only[Aq];obtain⟨hm,hn,qG⟩:=Cg h.ok;obtain⟨g0,gl,ge⟩:=h.head;have g0':l[p]'gl=x:=(aB0.1 g0).2;have yJ:ks.length<=1572864:=by have:=Cr ks;rw[AQ,List.length_cons]at ge;omega
 simp only[RT.x]at g0;unfold Ki
 (refine AL Ab Ab Ab ?_;intros;refine Am ?_)
 refine BM 5 50 3 1 8 (by simp[qX,results92,WE]) (fun n=> ?_);refine Ai (X:={i:Nat//i<=ks.length}) (fun i=>⟨[(0,AM l),(1,.int .i64 p),(5,.osl 50 1),(6,.int .i64 (AS p ks i.1)),(7,.int .i64 i.1)],[⟨50,1,.row 3 1 8 ((List.range i.1).map fun i=>Ij (AS p ks i))⟩]⟩) (fun i=>ks.length-i.1) ⟨0,by omega⟩ (Sub.lit (by simp[AS,An])) ?_;rintro⟨i,hi⟩;simp only
 by_cases qV:i<ks.length
 ·obtain⟨u,hu,vO,_⟩:=Ap qV;obtain⟨a1,a2,a3⟩:=h.kid hu;have e1:=Ku l (AS p ks i) hs a1.le;unfold lK at e1;rw[a2]at e1;simp only[cD0]at e1;have hq:(l.length:Int)-((l.length-AS p ks (i+1):Nat):Int)=(AS p ks (i+1):Int):=by omega
  rw[hq]at e1;have hr:(List.range (i+1)).map (fun i=>Ij (AS p ks i))=(List.range i).map (fun i=>Ij (AS p ks i))++[Ij (AS p ks i)]:=by rw[List.range_succ,bD0];rfl
  have z1:(i+1)*8<=150000000000000:=by omega
  have z2:i+1<=9223372036854775807:=by omega
  obtain⟨q,hqq⟩:∃q,q=AS p ks i:=⟨_,rfl⟩;obtain⟨q',hqq'⟩:∃q',q'=AS p ks (i+1):=⟨_,rfl⟩;rw[<-hqq,<-hqq']at e1;rw[<-hqq]at hr |-;have wP:=Hj p ks i;have wJ:((List.range i).map fun i=>Ij (AS p ks i)).length=i:=by simp
  obtain⟨D,hD⟩:∃D,D=(List.range i).map fun i=>Ij (AS p ks i):=⟨_,rfl⟩
  rw[<-hD]at hr wP wJ |-;have bA:(List.range (i+1)).map (fun i=>Ij (AS p ks i))=D++[[.int .i64 (q:Int)]]:=hr;clear hD hr
  (refine AL (AH e1) Ab (WJ @Bo.eq_1 g0 g0' gl hn qV z1 z2 wJ) ?_;intros;refine Am ?_)
  refine Al.mk ⟨i+1,by omega⟩ (Sub.lit (by simp only[<-hqq',bA];simp[wP,BD])) (by simp;omega)
  skip
 ·have qZ:i=ks.length:=by omega
  subst qZ;exact Az Ab Ab (Lj @Bo.eq_1 g0 g0' gl hn)
theorem Yy : ∀(a:List RT) (u:RT),Ti (a++[u])=max (Ti a) (JC u)
 | [],u=>by rw[List.nil_append,Im,MW];omega
 | t::a,u=>by rw[List.cons_append,Im,Yy a u,Im];omega
theorem DK_ {ks:List RT} {i:Nat} {u:RT} (h:ks[i]? =some u):Ti (ks.take (i+1))=max (Ti (ks.take i)) (JC u):=by
 rw[bM0,h];exact Yy _ _
mutual
theorem He_ : ∀t:RT,JC t<=(Ad t).length
 | .mk x ks=>by rw[VS,AQ,List.length_cons];have:=iX ks;omega
theorem iX : ∀ts:List RT,Ti ts<=(An ts).length
 | []=>by rw[MW];omega
 | t::ts=>by rw[Im,Ax,aD0];have:=He_ t;have:=iX ts;omega
end
theorem Tj (ks:List RT) (i:Nat):(An (ks.take i)).length<=(An ks).length:=by
 have:=congrArg List.length (Kq ks i);rw[aD0]at this;omega
theorem GC {p:Nat} {ks:List RT} {i:Nat} (h:i<ks.length):((List.range ks.length).map fun i=>Ij (AS p ks i))[i]? =some [.int .i64 (AS p ks i:Int)]:=by
 rw[bH0,List.getElem?_range h];rfl
def tT : Ann:=⟨[],[]⟩
theorem Kl : ∀(n:Nat) (t:RT) (l:List Nd) (p:Nat),(Ad t).length=n->At l p t->l.length<=1572864->Af prog 91 [AM l,.int .i64 p] (.int .i64 (JC t)):=by
 intro n
 induction n using Nat.strongRecOn with
 | ind n ih =>
 intro t l p hn ht hs;obtain⟨x,ks⟩:=t;have kk:=Et l p x ks ht hs;obtain⟨g0,gl,ge⟩:=ht.head;have vI:(Ad (.mk x ks)).length=(An ks).length+1:=by rw[AQ,List.length_cons]
 have yJ:=Cr ks;have hk9:ks.length<=1572864:=by omega
 have kL:∀i u,ks[i]? =some u->Af prog 91 [AM l,.int .i64 (AS p ks i)] (.int .i64 (JC u)):=fun i u hu=>by
  have hm:=Eu (bJ0 hu);exact ih (Ad u).length (by omega) u l _ rfl (ht.kid hu).1 hs
 have qH:∀i,i<ks.length->_:=fun i h=>GC (p:=p) (ks:=ks) (i:=i) h
 have hht:Ti ks<=1572864:=by have:=iX ks;omega
 rw[VS];unfold Ki at kk;obtain⟨D,hD⟩:∃D,D=(List.range ks.length).map fun i=>Ij (AS p ks i):=⟨_,rfl⟩
 have wJ:D.length=ks.length:=by rw[hD];simp
 have wP:Br D=0:=by rw[hD];exact Hj p ks _
 rw[<-hD]at kk qH;clear hD ih ht g0 gl ge hn;refine Ae [] tT func91 call91 ntmps91 mxd (AB @tT.eq_1 results91) rfl (fun qJ B qX qQ=> ?_);clear qJ;simp only[Aq]
 (refine AL (AH kk) Ab Ab ?_;intros;refine Am ?_)
 refine Ai (X:={i:Nat//i<=ks.length}) (fun i=>⟨[(0,AM l),(5,.int .i64 (Ti (ks.take i.1))),(6,.sl 1 8 D),(7,.int .i64 i.1)],[]⟩) (fun i=>ks.length-i.1) ⟨0,by omega⟩ (Sub.lit (by simp[MW,wP])) ?_;rintro⟨i,hi⟩;simp only
 by_cases qV:i<ks.length
 ·obtain⟨u,hu,vO,_⟩:=Ap qV;have e1:=kL i u hu;have hr:=qH i qV;have qO:i<D.length:=by omega
  have wU:IntKind.i64.wrap ((i:Int)+1)=(i:Int)+1:=wq;have qW:D[i]'qO=[.int .i64 (AS p ks i:Int)]:=(aB0.1 hr).2;have wK:=DK_ hu;obtain⟨a,ha⟩:∃a,a=Ti (ks.take i):=⟨_,rfl⟩;obtain⟨c,wE⟩:∃c,c=JC u:=⟨_,rfl⟩;rw[<-ha,<-wE]at wK;rw[<-wE]at e1;rw[<-ha];obtain⟨q,hq⟩:∃q,q=AS p ks i:=⟨_,rfl⟩;rw[<-hq]at e1 hr qW
  by_cases hgt:a<c
  ·have hgt':(a:Int)<(c:Int):=by omega
   have vG:((Ti (ks.take (i+1)):Nat):Int)=(c:Int):=by omega
   (refine AL (AH e1) Ab (KG wJ qO wU hr qW hgt hgt' qV) ?_;intros;refine Am ?_)
   refine Al.mk ⟨i+1,by omega⟩ (Sub.lit (by simp only[vG];simp[wP])) (by simp;omega)
   skip
  ·have hgt':¬(a:Int)<(c:Int):=by omega
   have vG:((Ti (ks.take (i+1)):Nat):Int)=(a:Int):=by omega
   (refine AL (AH e1) Ab (KG wJ qO wU hr qW hgt hgt' qV) ?_;intros;refine Am ?_)
   refine Al.mk ⟨i+1,by omega⟩ (Sub.lit (by simp only[vG];simp[wP])) (by simp;omega)
   skip
 ·have qZ:i=ks.length:=by omega
  subst qZ;rw[aU0];have q1:IntKind.i64.wrap ((Ti ks:Int)+1)=(Ti ks:Int)+1:=wq;exact Az Ab Ab (AB wJ q1)
theorem EH_ {α:Type} {f:α->Bool} {l:List α} {i:Nat} {u:α} (h:l[i]? =some u):(l.take (i+1)).any f=((l.take i).any f||f u):=by
 rw[bM0,h,eL0];simp
theorem EP_ {α:Type} {f:α->Bool} {l:List α} {i:Nat} {u:α} (h:l[i]? =some u):(l.take (i+1)).all f=((l.take i).all f&&f u):=by
 rw[bM0,h,List.all_append];simp
def tU : Ann:=⟨[],[]⟩
theorem Ga : ∀(n:Nat) (t:RT) (l:List Nd) (p:Nat),(Ad t).length=n->At l p t->l.length<=1572864->Af prog 67 [AM l,.int .i64 p] (.bool (BZ t)):=by
 intro n
 induction n using Nat.strongRecOn with
 | ind n ih =>
 intro t l p hn ht hs;obtain⟨x,ks⟩:=t;have kk:=Et l p x ks ht hs;have hm:=(Cg ht.ok).1;obtain⟨g0,gl,ge⟩:=ht.head;simp only[RT.x]at g0;have g0':l[p]'gl=x:=(aB0.1 g0).2;have vI:(Ad (.mk x ks)).length=(An ks).length+1:=by rw[AQ,List.length_cons]
 have yJ:=Cr ks;have hk9:ks.length<=1572864:=by omega
 have kL:∀i u,ks[i]? =some u->Af prog 67 [AM l,.int .i64 (AS p ks i)] (.bool (BZ u)):=fun i u hu=>by
  have hm:=Eu (bJ0 hu);exact ih (Ad u).length (by omega) u l _ rfl (ht.kid hu).1 hs
 have qH:∀i,i<ks.length->_:=fun i h=>GC (p:=p) (ks:=ks) (i:=i) h
 rw[Wj,Nv,NF];unfold Ki at kk;obtain⟨D,hD⟩:∃D,D=(List.range ks.length).map fun i=>Ij (AS p ks i):=⟨_,rfl⟩
 have wJ:D.length=ks.length:=by rw[hD];simp
 have wP:Br D=0:=by rw[hD];exact Hj p ks _
 rw[<-hD]at kk qH;clear hD ih ht ge hn;refine Ae [] tU func67 call67 ntmps67 mxd (AB @tU.eq_1 results67) rfl (fun qJ B qX qQ=> ?_);clear qJ;simp only[Aq]
 (refine AL (AH kk) Ab (IF @Bo.eq_1 g0 g0' gl) ?_;intros;refine Am ?_)
 refine Ai (X:={i:Nat//i<=ks.length}) (fun i=>⟨[(0,AM l),(5,.int .i64 x.k),(6,.sl 1 8 D),(7,.bool ((ks.take i.1).any BZ)),(8,.bool ((ks.take i.1).all BZ)),(9,.int .i64 i.1)],[]⟩) (fun i=>ks.length-i.1) ⟨0,by omega⟩ (Sub.lit (by simp[wP])) ?_;rintro⟨i,hi⟩;simp only
 by_cases qV:i<ks.length
 ·obtain⟨u,hu,vO,_⟩:=Ap qV;have e1:=kL i u hu;have hr:=qH i qV;have qO:i<D.length:=by omega
  have wU:IntKind.i64.wrap ((i:Int)+1)=(i:Int)+1:=wq;have qW:D[i]'qO=[.int .i64 (AS p ks i:Int)]:=(aB0.1 hr).2;have h1:=EH_ (f:=BZ) hu;have h2:=EP_ (f:=BZ) hu;obtain⟨a,ha⟩:∃a,a=(ks.take i).any BZ:=⟨_,rfl⟩;obtain⟨b,hb⟩:∃b,b=(ks.take i).all BZ:=⟨_,rfl⟩;rw[<-ha]at h1;rw[<-hb]at h2;rw[<-ha,<-hb];obtain⟨q,hq⟩:∃q,q=AS p ks i:=⟨_,rfl⟩;rw[<-hq]at e1 hr qW
  (refine AL (AH e1) Ab (Jm wJ qO wU hr qW qV) ?_;intros;refine Am ?_)
  refine Al.mk ⟨i+1,by omega⟩ (Sub.lit (by simp only[h1,h2];simp[wP])) (by simp;omega)
  skip
 ·have qZ:i=ks.length:=by omega
  subst qZ;rw[aU0]
  rcases KT hm with k | k | k | k | k | k | k | k<;>exact Az Ab Ab (AB wJ k)
end Go.Proofs.Wy
end
