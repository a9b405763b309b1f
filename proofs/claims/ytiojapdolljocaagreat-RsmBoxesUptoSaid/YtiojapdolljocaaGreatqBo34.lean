/- Parts of a proof, laid together: RS8, W97, WO, W98, W44, W47, W96, CF0, EnZ, CF1, QB7, QB8, QS0, QB9, RS9, QE0. -/
import Derived.Test.YtiojapdolljocaaGreatqBo14
import Derived.Test.YtiojapdolljocaaGreatqBo15
import Derived.Test.YtiojapdolljocaaGreatqBo16
import Derived.Test.YtiojapdolljocaaGreatqBo17
import Derived.Test.YtiojapdolljocaaGreatqBo20
import Derived.Test.YtiojapdolljocaaGreatqBo21
import Derived.Test.YtiojapdolljocaaGreatqBo22
import Derived.Test.YtiojapdolljocaaGreatqBo33
set_option linter.unusedSimpArgs false
set_option maxHeartbeats 8000000
set_option linter.unusedVariables false
set_option linter.unusedSectionVars false
section
namespace Go.Proofs.Wy
open Go Go.Dm Tryz
attribute [local irreducible] DW Bm Bq
set_option maxRecDepth 100000
def atI (l:List Nat) (n:Int):Int:=if 0<=n/\n<l.length then (l.getD n.toNat 0:Int)else -1
theorem Uy {l:List Nat} {k x:Nat} (h:l[k]? =some x):atI l k=x:=by
 have hk:=(aG0.1 h).1;unfold atI;rw[if_pos ⟨by omega,by omega⟩,dD0,aM0,h];rfl
theorem Oz {l:List Nat} {n:Int} (h:¬(0<=n/\n<l.length)):atI l n= -1:=by unfold atI;rw[if_neg h]
def lC : Ann:=⟨[],[]⟩
theorem Tn (H L:List ByteArray) (xs:List Auto) (n:Int):Ae prog 20 [Ca H L xs,.int .i64 n] (.int .i64 (atI (uU xs) n)):=by
 refine Ac [] lC func20 call20 ntmps20 mxd (Ar @lC.eq_1 results20) rfl (fun qJ B qX qQ=> ?_);clear qJ;have e1:=BT H L xs;simp only[Ak,Ca]at e1 |-;have hl:(uU xs).length=(Cr 0 xs).length:=by rw[Cc_,GS]
 have qK:∀(k:Nat) (p:Auto×Nat),(Cr 0 xs)[k]? =some p->(uU xs)[k]? =some p.2:=fun k p h=>by unfold uU;rw[bM0,h];rfl
 obtain⟨S,hS⟩:∃S,S=uU xs:=⟨_,rfl⟩;rw[<-hS]at hl qK |-;obtain⟨P,hP⟩:∃P,P=Cr 0 xs:=⟨_,rfl⟩;rw[<-hP]at e1 hl qK |-;clear hS hP
 by_cases h0:n<0
 ·rw[Oz (by omega)];exact Aw (AJ e1) Ab (AJ h0)
 ·by_cases h1:n<P.length
  ·obtain⟨k,rfl⟩:∃k:Nat,n=(k:Int):=⟨n.toNat,by omega⟩;have qV:k<P.length:=by omega
   obtain⟨p,hx,qA,vN⟩:=Ax qV;rw[Uy (qK k p hx)];have h2:¬(P.length:Int)<=(k:Int):=by omega
   exact Aw (AJ e1) Ab (NA @Uq.eq_1 h0 h1 h2 qV hx qA)
  ·rw[Oz (by omega)];have h2:(P.length:Int)<=n:=by omega
   exact Aw (AJ e1) Ab (GE h0 h1 h2)
def lA : Ann:=⟨[],[]⟩
theorem Zm (n:Int) (p:Auto×Nat) (h:SmA p.1) (hf:p.2<=1040):Ae prog 68 [.agg (Uq p),.ref [.int .i64 n]] (.bool (decide (n<(p.2:Int)+p.1.st))):=by
 refine Ac [] lA func68 call68 ntmps68 mxd (Ar @lA.eq_1 results68) rfl (fun qJ B qX qQ=> ?_);clear qJ;have qK:=Pj h.ok;have hw:IntKind.i64.wrap ((p.2:Int)+p.1.st)=(p.2:Int)+p.1.st:=wq;simp only[Ak];exact Aw Ab Ab (Ar @Uq.eq_1 hw)
def VQ (n:Int) (p:Auto×Nat):Bool:=decide (n<(p.2:Int)+p.1.st)
def OB : Ann:=⟨[],[]⟩
theorem Zl (n:Int) (P:List (Auto×Nat)) (hP:∀p∈P,SmA p.1/\p.2<=1040) (hl:P.length<=16):Ae prog 67 [tA P,.fn (.func 68) [] [.ref [.int .i64 n]]] (.int .i64 (if P.any (VQ n)then ((P.findIdx (VQ n):Nat):Int)else -1)):=by
 refine Ac [] OB func67 call67 ntmps67 mxd (Ar @OB.eq_1 results67) rfl (fun qJ B qX qQ=> ?_);clear qJ;simp only[Ak]
 (refine AX Ab Ab Ab ?_;intros;refine Am ?_)
 refine Al (X:={k:Nat//k<=P.length/\∀i x,i<k->P[i]? =some x->VQ n x=false}) (fun x=>⟨[(0,tA P),(1,.fn (.func 68) [] [.ref [.int .i64 n]]),(7,.int .i64 P.length),(8,.int .i64 x.1)],[]⟩) (fun x=>P.length-x.1) ⟨0,by simp⟩ (Sub.lit (by simp)) ?_;rintro⟨k,hk,vS⟩
 by_cases qV:k<P.length
 ·obtain⟨x,hx,qA,vN⟩:=Ax qV;have fY:Ae prog 68 [.agg (Uq x),.ref [.int .i64 n]] (.bool (VQ n x)):=Zm n x (hP x vN).1 (hP x vN).2;simp only[Uq]at fY;clear hP;cases hb:VQ n x
  ·rw[hb]at fY
   have bR:∀i y,i<k+1->P[i]? =some y->VQ n y=false:=by
    intro i y hi hy
    by_cases gT:i=k
    ·subst gT;rw[hx]at hy;simp only[aA0]at hy;subst hy;exact hb
    ·exact vS i y (by omega) hy
   (refine AX (AJ fY) Ab (GE @Uq.eq_1 qV qA) ?_;intros;refine Am ?_)
   exact An.mk ⟨k+1,by omega,bR⟩ (Sub.lit (by simp[])) (by simp;omega)
   skip
  ·rw[hb]at fY;have wS:P.any (VQ n)=true:=cL0.2 ⟨x,vN,hb⟩
   have hidx:P.findIdx (VQ n)=k:=by
    rw[List.findIdx_eq qV];refine⟨by rw[qA];exact hb,fun i hi=> ?_⟩;exact vS i _ hi (aD0 (by omega))
   exact Aw (AJ fY) Ab (Mj @Uq.eq_1 qV qA wS hidx)
 ·have qZ:k=P.length:=by omega
  have wS:P.any (VQ n)=false:=by
   rw[dX0];intro x hx;obtain⟨i,hi,rfl⟩:=bW0 hx;rw[vS i _ (by omega) (aD0 hi)];simp
  (repeat (first | refine AI fun K hK=> ?_ | (refine BS OB mxd (by kernel_rfl) ?_;simp[OB,qX,qZ,wS];try simp (disch:=omega) only[Ai]) | refine Ao ?_ | (refine Bg ?_ ?_ ?_;(· (simp[qX,qZ,wS];done));(try (rotate_left;(· (intro hc;(try simp[qX,qZ,wS]at hc);done))))) | (refine AL ?_;simp[results67,qX,qZ,wS]) | ((first | refine Az ?_ | refine Ay ?_);simp[qX,qZ,wS]) | (intro hc;(try simp[qX,qZ,wS]at hc);(try (exfalso;omega))) | ((first | refine Ag (fY) ?_ | (refine Af (fY) ?_ ?_;(· (simp;done))));try simp[qX,qZ,wS]) | (refine⟨?_,?_⟩; · omega) | omega | apply_assumption -exfalso -symm | (exfalso;omega)))
theorem Ab_ : ∀(xs:List Auto) (f b n:Nat),(∀a∈xs,1<=a.st)->f<=n->n<f+AV xs->∃k,((xs.zipIdx b).flatMap fun p=>List.replicate p.1.st.toNat p.2)[n-f]? =some (b+k)/\(Cr f xs).findIdx (VQ n)=k/\(Cr f xs).any (VQ n)=true
 | [],f,b,n,_,h1,h2=>by simp[AV]at h2;omega
 | a::xs,f,b,n,qK,h1,h2=>by
  have h3:AV (a::xs)=a.st.toNat+AV xs:=by simp[AV]
  have h4:=qK a aH0;rw[Cr,List.zipIdx_cons,cT0];simp only
  by_cases hn:n<f+a.st.toNat
  ·have hq:VQ n (a,f)=true:=by unfold VQ;simp only[decide_eq_true_eq];omega
   refine⟨0,?_,by rw[List.findIdx_cons,hq];rfl,by rw[List.any_cons,hq];rfl⟩;rw[aV0 (by rw[cY0];omega),cZ0,if_pos (by omega)];rfl
  ·have hq:VQ n (a,f)=false:=by unfold VQ;simp only[decide_eq_false_iff_not];omega
   obtain⟨k,k1,k2,k3⟩:=Ab_ xs (f+a.st.toNat) (b+1) n (fun x hx=>qK x (aF0 _ hx)) (by omega) (by omega);refine⟨k+1,?_,by rw[List.findIdx_cons,hq,k2];rfl,by rw[List.any_cons,hq,k3];rfl⟩;rw[aX0 (by rw[cY0];omega),cY0,Nat.sub_sub,k1]
   congr 1
   omega
def lB : Ann:=⟨[],[]⟩
theorem rE (H L:List ByteArray) (xs:List Auto) (h:∀a∈xs,SmA a) (hl:xs.length<=16) (n:Int):Ae prog 21 [Ca H L xs,.int .i64 n] (.int .i64 (atI (ntL xs) n)):=by
 refine Ac [] lB func21 call21 ntmps21 mxd (Ar @lB.eq_1 results21) rfl (fun qJ B qX qQ=> ?_);clear qJ;have e1:=BT H L xs;have hsl:=Od (l:=xs) fun a ha=>(h a ha).ok
 have hs10:AV xs<=1040:=Nat.le_trans hsl (dT0 65 hl);have yV:=GS xs 0;have e2:=Zl n (Cr 0 xs) (fun p hp=>by have:=ID hp;exact⟨h _ this.1,by omega⟩) (by omega);have gP:=Cy_ xs
 have mM:∀k:Nat,k<AV xs->(Cr 0 xs).any (VQ k)=true/\(ntL xs)[k]? =some ((Cr 0 xs).findIdx (VQ k)):=fun k hk=>by
  obtain⟨j,j1,j2,j3⟩:=Ab_ xs 0 0 k (fun a ha=>(Pj (h a ha).ok).1) (by omega) (by omega);refine⟨j3,?_⟩;unfold ntL;rw[j2];simpa using j1
 simp only[Ak,Ca]at e1 |-;obtain⟨N,hN⟩:∃N,N=ntL xs:=⟨_,rfl⟩;rw[<-hN]at gP mM |-;obtain⟨S,hS⟩:∃S,S=AV xs:=⟨_,rfl⟩;rw[<-hS]at e1 gP mM hs10 |-;obtain⟨P,hP⟩:∃P,P=Cr 0 xs:=⟨_,rfl⟩;rw[<-hP]at e1 e2 mM |-;clear hN hS hP hsl h
 by_cases h0:n<0
 ·rw[Oz (by omega)];exact Aw (AJ e1) Ab (AJ h0)
 ·by_cases h1:n<S
  ·obtain⟨k,rfl⟩:∃k:Nat,n=(k:Int):=⟨n.toNat,by omega⟩;obtain⟨l1,l2⟩:=mM k (by omega);rw[Uy l2];rw[if_pos l1]at e2;have h2:¬(S:Int)<=(k:Int):=by omega
   exact Aw (Ar e1 e2) Ab (GE h0 h1 h2)
  ·rw[Oz (by omega)];have h2:(S:Int)<=n:=by omega
   exact Aw (AJ e1) Ab (GE h0 h1 h2)
end Go.Proofs.Wy
end
section
namespace Go.Proofs.Wy
open Go Go.Dm Tryz
variable [DMode]
attribute [local irreducible] DW Bm Bq
set_option maxRecDepth 100000

end Go.Proofs.Wy
end
section
namespace Go.Proofs.Wy
open Go Go.Dm Tryz
variable [DMode]

end Go.Proofs.Wy
end
section
namespace Go.Proofs.Wy
open Go Go.Dm Tryz
variable [DMode]
attribute [local irreducible] DW Bm Bq
set_option maxRecDepth 100000

end Go.Proofs.Wy
end
section
namespace Go.Proofs.Wy
open Go Go.Dm Tryz
variable [DMode]
attribute [local irreducible] DW Bm Bq


end Go.Proofs.Wy
end
section
namespace Go.Proofs.Wy
open Go Go.Dm Tryz
variable [DMode]
attribute [local irreducible] DW Bm Bq
set_option maxRecDepth 100000

end Go.Proofs.Wy
end
section
namespace Go.Proofs.Wy
open Go Go.Dm Tryz
variable [DMode]
def Gy_ (xs:List Auto) (q:Nat):Nat:=((List.range q).filter fun p=>decide (¬p∈uU xs)).length
def Gg_ (xs:List Auto) (q:Nat):Nat:=if q∈uU xs then (ntL xs).getD q 0 else xs.length+Gy_ xs q
theorem VJ : ∀{xs:List Auto} {f:Nat} {p:Auto×Nat},p∈Cr f xs->p.2+p.1.st.toNat<=f+AV xs
 | [],_,_,h=>by simp[Cr]at h
 | a::xs,f,p,h=>by
  have h3:AV (a::xs)=a.st.toNat+AV xs:=by simp[AV]
  rw[Cr]at h
  rcases aJ0.1 h with rfl | h
  ·simp only;omega
  ·have:=VJ h;omega
end Go.Proofs.Wy
end
section
namespace Go.Dm
variable [DMode]
def EY_ (es':List (List DVal)):DObj->DObj
 | .row et k bs _=> .row et k bs es'
 | o=>o
def EV_ (id:Nat) (es':List (List DVal)):List Ent->List Ent
 | []=>[]
 | e::t=>(if e.id=id then ⟨e.id,e.r,EY_ es' e.obj⟩else e)::EV_ id es' t
attribute [simp] EY_ EV_
end Go.Dm
end
section
namespace Go.Proofs.Wy
open Go Go.Dm Tryz
attribute [local irreducible] DW Bm Bq
set_option maxRecDepth 100000
def dF (xs:List Auto) (q:Int):List DVal:=[.int .i64 (Gg_ xs q.toNat:Int),.nilsl]
@[simp] theorem Fo_ (xs:List Auto) (q:Int):AH (dF xs q)=0:=by simp[dF,AH,mx]
@[simp] theorem Gl_ (xs:List Auto) (l:List Int):Bo (l.map (dF xs))=0:=Ie _ (Fo_ xs) l
theorem Uz {xs:List Auto} (h:∀a∈xs,SmA a) {x:Arc} (hx:x∈Dc xs):0<=x.fr/\x.fr.toNat<AV xs/\0<=x.to/\x.to.toNat<AV xs:=by
 unfold Dc at hx;obtain⟨p,hp,hx⟩:=bQ0.1 hx;obtain⟨y,hy,rfl⟩:=aR0.1 hx;have h1:=VJ hp;have h2:=Pk (h _ (ID hp).1).ok hy;unfold Sl;simp only;omega
def sA (H L:List ByteArray) (s:Sym):Bool:=decide (0<=s.n)&&decide (s.n<((if s.label then L.length else H.length:Nat):Int))
def Cd : Ann:=⟨[],[]⟩
theorem rH (H L:List ByteArray) (s:Sym):∃t:ByteArray,Ae prog 35 [ES H L,.agg (Bf s)] (.tup [.str t,.int .i64 (if sA H L s then 0 else 4)]):=by
 have e1:=DR H L;obtain⟨lb,n⟩:=s;unfold sA;simp only;have wB:(⟨#[]⟩:ByteArray).size<=maxLen:=by decide
 obtain⟨T,hT⟩:∃T,T=(if lb=true then L else H):=⟨_,rfl⟩;have hTl:(if lb=true then L.length else H.length)=T.length:=by rw[hT];cases lb<;>rfl
 rw[hTl]
 by_cases h0:n<0
 ·refine⟨⟨#[]⟩,?_⟩;have hk:(decide (0<=n)&&decide (n<(T.length:Int)))=false:=by simp;omega
  rw[hk];refine Ac [] Cd func35 call35 ntmps35 mxd (Ar @Cd.eq_1 results35) rfl (fun qJ B qX qQ=> ?_) (hd:=(by simp[mx,AH]));clear qJ;simp only[Ak];cases lb
  ·
   (repeat (first | refine AI fun K hK=> ?_ | (refine BS Cd mxd (by kernel_rfl) ?_;simp[Cd,qX,Bf,h0,wB];try simp (disch:=omega) only[Ai]) | refine Ao ?_ | (refine Bg ?_ ?_ ?_;(· (simp[qX,Bf,h0,wB];done));(try (rotate_left;(· (intro hc;(try simp[qX,Bf,h0,wB]at hc);done))))) | (refine AL ?_;simp[results35,qX,Bf,h0,wB]) | ((first | refine Az ?_ | refine Ay ?_);simp[qX,Bf,h0,wB]) | (intro hc;(try simp[qX,Bf,h0,wB]at hc);(try (exfalso;omega))) | ((first | refine Ag (e1) ?_ | (refine Af (e1) ?_ ?_;(· (simp;done))));try simp[qX,Bf,h0,wB]) | (refine⟨?_,?_⟩; · omega) | omega | apply_assumption -exfalso -symm | (exfalso;omega)))
  ·
   (repeat (first | refine AI fun K hK=> ?_ | (refine BS Cd mxd (by kernel_rfl) ?_;simp[Cd,qX,Bf,h0,wB];try simp (disch:=omega) only[Ai]) | refine Ao ?_ | (refine Bg ?_ ?_ ?_;(· (simp[qX,Bf,h0,wB];done));(try (rotate_left;(· (intro hc;(try simp[qX,Bf,h0,wB]at hc);done))))) | (refine AL ?_;simp[results35,qX,Bf,h0,wB]) | ((first | refine Az ?_ | refine Ay ?_);simp[qX,Bf,h0,wB]) | (intro hc;(try simp[qX,Bf,h0,wB]at hc);(try (exfalso;omega))) | ((first | refine Ag (e1) ?_ | (refine Af (e1) ?_ ?_;(· (simp;done))));try simp[qX,Bf,h0,wB]) | (refine⟨?_,?_⟩; · omega) | omega | apply_assumption -exfalso -symm | (exfalso;omega)))
 ·by_cases h1:n<(T.length:Int)
  ·obtain⟨k,rfl⟩:∃k:Nat,n=k:=⟨n.toNat,by omega⟩;have hk:(decide (0<=(k:Int))&&decide ((k:Int)<(T.length:Int)))=true:=by simp;omega
   have wH:k<T.length:=by omega
   have hx:=aD0 wH;obtain⟨x,kO⟩:∃x,x=T[k]:=⟨_,rfl⟩;rw[<-kO]at hx;have zZ:T[k]=x:=kO.symm;rw[hk];have h2:¬(T.length:Int)<=k:=by omega
   have h3:¬T.length<=k:=by omega
   refine⟨x,?_⟩;refine Ac [] Cd func35 call35 ntmps35 mxd (Ar @Cd.eq_1 results35) rfl (fun qJ B qX qQ=> ?_) (hd:=(by simp[mx,AH]));clear qJ;simp only[Ak];cases lb
   ·simp only[bH0,if_false]at hT;subst hT
    (repeat (first | refine AI fun K hK=> ?_ | (refine BS Cd mxd (by kernel_rfl) ?_;simp[Cd,qX,Bf,AE,h0,h1,h2,h3,wH,hx,zZ,wB];try simp (disch:=omega) only[Ai]) | refine Ao ?_ | (refine Bg ?_ ?_ ?_;(· (simp[qX,Bf,AE,h0,h1,h2,h3,wH,hx,zZ,wB];done));(try (rotate_left;(· (intro hc;(try simp[qX,Bf,AE,h0,h1,h2,h3,wH,hx,zZ,wB]at hc);done))))) | (refine AL ?_;simp[results35,qX,Bf,AE,h0,h1,h2,h3,wH,hx,zZ,wB]) | ((first | refine Az ?_ | refine Ay ?_);simp[qX,Bf,AE,h0,h1,h2,h3,wH,hx,zZ,wB]) | (intro hc;(try simp[qX,Bf,AE,h0,h1,h2,h3,wH,hx,zZ,wB]at hc);(try (exfalso;omega))) | ((first | refine Ag (e1) ?_ | (refine Af (e1) ?_ ?_;(· (simp;done))));try simp[qX,Bf,AE,h0,h1,h2,h3,wH,hx,zZ,wB]) | (refine⟨?_,?_⟩; · omega) | omega | apply_assumption -exfalso -symm | (exfalso;omega)))
   ·simp only[if_true]at hT;subst hT
    (repeat (first | refine AI fun K hK=> ?_ | (refine BS Cd mxd (by kernel_rfl) ?_;simp[Cd,qX,Bf,AE,h0,h1,h2,h3,wH,hx,zZ,wB];try simp (disch:=omega) only[Ai]) | refine Ao ?_ | (refine Bg ?_ ?_ ?_;(· (simp[qX,Bf,AE,h0,h1,h2,h3,wH,hx,zZ,wB];done));(try (rotate_left;(· (intro hc;(try simp[qX,Bf,AE,h0,h1,h2,h3,wH,hx,zZ,wB]at hc);done))))) | (refine AL ?_;simp[results35,qX,Bf,AE,h0,h1,h2,h3,wH,hx,zZ,wB]) | ((first | refine Az ?_ | refine Ay ?_);simp[qX,Bf,AE,h0,h1,h2,h3,wH,hx,zZ,wB]) | (intro hc;(try simp[qX,Bf,AE,h0,h1,h2,h3,wH,hx,zZ,wB]at hc);(try (exfalso;omega))) | ((first | refine Ag (e1) ?_ | (refine Af (e1) ?_ ?_;(· (simp;done))));try simp[qX,Bf,AE,h0,h1,h2,h3,wH,hx,zZ,wB]) | (refine⟨?_,?_⟩; · omega) | omega | apply_assumption -exfalso -symm | (exfalso;omega)))
  ·refine⟨⟨#[]⟩,?_⟩;have hk:(decide (0<=n)&&decide (n<(T.length:Int)))=false:=by simp;omega
   rw[hk];have h2:(T.length:Int)<=n:=by omega
   refine Ac [] Cd func35 call35 ntmps35 mxd (Ar @Cd.eq_1 results35) rfl (fun qJ B qX qQ=> ?_) (hd:=(by simp[mx,AH]));clear qJ;simp only[Ak];cases lb
   ·simp only[bH0,if_false]at hT;subst hT
    (repeat (first | refine AI fun K hK=> ?_ | (refine BS Cd mxd (by kernel_rfl) ?_;simp[Cd,qX,Bf,AE,h0,h1,h2,wB];try simp (disch:=omega) only[Ai]) | refine Ao ?_ | (refine Bg ?_ ?_ ?_;(· (simp[qX,Bf,AE,h0,h1,h2,wB];done));(try (rotate_left;(· (intro hc;(try simp[qX,Bf,AE,h0,h1,h2,wB]at hc);done))))) | (refine AL ?_;simp[results35,qX,Bf,AE,h0,h1,h2,wB]) | ((first | refine Az ?_ | refine Ay ?_);simp[qX,Bf,AE,h0,h1,h2,wB]) | (intro hc;(try simp[qX,Bf,AE,h0,h1,h2,wB]at hc);(try (exfalso;omega))) | ((first | refine Ag (e1) ?_ | (refine Af (e1) ?_ ?_;(· (simp;done))));try simp[qX,Bf,AE,h0,h1,h2,wB]) | (refine⟨?_,?_⟩; · omega) | omega | apply_assumption -exfalso -symm | (exfalso;omega)))
   ·simp only[if_true]at hT;subst hT
    (repeat (first | refine AI fun K hK=> ?_ | (refine BS Cd mxd (by kernel_rfl) ?_;simp[Cd,qX,Bf,AE,h0,h1,h2,wB];try simp (disch:=omega) only[Ai]) | refine Ao ?_ | (refine Bg ?_ ?_ ?_;(· (simp[qX,Bf,AE,h0,h1,h2,wB];done));(try (rotate_left;(· (intro hc;(try simp[qX,Bf,AE,h0,h1,h2,wB]at hc);done))))) | (refine AL ?_;simp[results35,qX,Bf,AE,h0,h1,h2,wB]) | ((first | refine Az ?_ | refine Ay ?_);simp[qX,Bf,AE,h0,h1,h2,wB]) | (intro hc;(try simp[qX,Bf,AE,h0,h1,h2,wB]at hc);(try (exfalso;omega))) | ((first | refine Ag (e1) ?_ | (refine Af (e1) ?_ ?_;(· (simp;done))));try simp[qX,Bf,AE,h0,h1,h2,wB]) | (refine⟨?_,?_⟩; · omega) | omega | apply_assumption -exfalso -symm | (exfalso;omega)))
def DF (s:Sym) (A:List Arc):List (Nat×Nat):=(A.filter fun x=>decide (x.sy=s)).map fun x=>(x.fr.toNat,x.to.toNat)
theorem tF {s:Sym} {A:List Arc} {k:Nat} {x:Arc} (h:A[k]? =some x):DF s (A.take (k+1))=DF s (A.take k)++(if x.sy=s then [(x.fr.toNat,x.to.toNat)]else []):=by
 unfold DF;rw[bP0,h,dH0,bF0]
 congr 1
 by_cases hs:x.sy=s<;>simp[hs]
theorem QA {s:Sym} {A:List Arc} {n:Nat} (hA:∀x∈A,0<=x.fr/\x.fr.toNat<n/\0<=x.to/\x.to.toNat<n):∀c∈DF s A,c.1<n/\c.2<n:=by
 intro c hc;obtain⟨x,hx,rfl⟩:=aR0.1 hc;have:=hA x (cC0.1 hx).1;exact⟨this.2.1,this.2.2.2⟩
theorem Bk_ (s:Sym) (A:List Arc):(DF s A).length<=A.length:=by
 unfold DF;rw[aO0];exact cI0 _ _
theorem xA (q:Qd) (i j:Nat):(OR q i j).lv.length<=q.lv.length+1/\(OR q i j).cnt<=q.cnt+1:=by
 unfold OR CO
 split
 ·omega
 ·unfold orQ;simp only[List.length_set]
  split<;>simp
theorem eK : ∀(n:Nat) (l:List (Nat×Nat)),l.length=n->(Rl l).lv.length<=n/\(Rl l).cnt<=n
 | 0,l,h=>by
  have:=cS0.1 h;subst this;exact⟨Nat.le_refl _,Nat.le_refl _⟩
 | n+1,l,h=>by
  rcases List.eq_nil_or_concat l with rfl | ⟨l',x,rfl⟩
  ·simp at h
  rw[List.concat_eq_append]at h |-;obtain⟨a1,a2⟩:=eK n l' (by simpa using h);rw[Pn];have:=xA (Rl l') x.1 x.2;omega
def BK_ : Ann:=⟨[30,51],[⟨11,[10],[],[]⟩]⟩
theorem rQ (H L:List ByteArray) (xs:List Auto) (h:∀a∈xs,SmA a) (hl:xs.length<=16) (h1:1<=AV xs) (h2:AV xs<=128) (s:Sym) (hk:sA H L s=true) :
  Ae prog 9 [Ca H L xs,.agg (Bf s)] (Qm (AV xs) (Rl (DF s (Dc xs)))):=by
 refine Ac [60,61,7] BK_ func9 call9 ntmps9 mxd (Ar @BK_.eq_1 results9) rfl (fun qJ B qX qQ=> ?_) (hd:=(by simp[mx,Qm,AH]));clear qJ;simp only[Ak];obtain⟨t,e1⟩:=rH H L s;rw[if_pos hk]at e1;have e2:=BT H L xs;have e3:=pN (AV xs) h1 h2;have e4:=Lp H L xs h hl;have yC:=fun x (hx:x∈Dc xs)=>Uz h hx
 have dC:(Dc xs).length<=1073741888*16:=by
  have:=QJ h 0;unfold Dc;omega
 obtain⟨A,hA⟩:∃A,A=Dc xs:=⟨_,rfl⟩;rw[<-hA]at e4 dC |-;simp only[<-hA]at yC;obtain⟨lb,sn⟩:=s;simp only[Ca]at e2 e4;simp only[Bf]at e1;simp only[dQn]at e3
 (refine AX (GE e1 e2 e4) (AJ (Ji [] [(7,0),(60,1)] e3)) (Ar @Ca.eq_1 @Bf.eq_1) ?_;intros;refine Am ?_)
 clear e1 e2 e3 e4;refine Hu 7 4 61 98 64 512 (by simp) (fun n61=> ?_);refine Al (X:={k:Nat//k<=A.length}) (fun k=>⟨[(3,.ref [.bool lb,.int .i64 sn]),(7,.bx 7 1 0),(36,FS A),(37,.int .i64 A.length),(38,.int .i64 k.1)],[⟨7,1,.box [.int .i64 (AV xs),.int .i64 1,.int .i64 (Rl (DF ⟨lb,sn⟩ (A.take k.1))).cnt,.osl 60 1,.osl 61 1]⟩,⟨60,1,.row 151 4 32 [dP (Rl (DF ⟨lb,sn⟩ (A.take k.1))).ps]⟩,⟨61,1,.row 98 64 512 ((Rl (DF ⟨lb,sn⟩ (A.take k.1))).lv.map dB)⟩]⟩) (fun k=>A.length-k.1) ⟨0,by omega⟩ (Sub.lit (by simp[DF,Rl,KF])) ?_
 rintro⟨k,hk⟩;simp only
 by_cases qV:k<A.length
 ·obtain⟨x,hx,qA,vN⟩:=Ax qV;have wP:=tF (s:=⟨lb,sn⟩) hx;have mI:=QA (s:=⟨lb,sn⟩) (A:=A.take k) (n:=AV xs) fun y hy=>yC y (dI0 hy)
  have hq:=(xW fun c hc=>by have:=mI c hc;omega).1;have hfw:=eK _ (DF ⟨lb,sn⟩ (A.take k)) rfl;have jA:=Bk_ ⟨lb,sn⟩ (A.take k);rw[bD0]at jA;obtain⟨x1,x2,x3,x4⟩:=yC x vN;have wk:IntKind.i64.wrap ((k:Int)+1)=(k:Int)+1:=wq;obtain⟨fr,⟨xl,xn⟩,to⟩:=x;simp only at x1 x2 x3 x4 wP
  by_cases hs:(⟨xl,xn⟩:Sym)=⟨lb,sn⟩
  ·rw[if_pos hs]at wP;have yG:=Pn (DF ⟨lb,sn⟩ (A.take k)) (fr.toNat,to.toNat);rw[<-wP]at yG;simp only at yG;obtain⟨i,rfl⟩:∃i:Nat,fr=i:=⟨fr.toNat,by omega⟩;obtain⟨j,rfl⟩:∃j:Nat,to=j:=⟨to.toNat,by omega⟩;simp only[dD0]at x2 x4 yG;obtain⟨Q,hQ⟩:∃Q,Q=Rl (DF ⟨lb,sn⟩ (A.take k)):=⟨_,rfl⟩;rw[<-hQ]at hq hfw yG |-;have e5:=pM (AV xs) Q hq i j h2 x2 x4 (by omega) (by omega);rw[<-yG]at e5;obtain⟨R,hR⟩:∃R,R=Rl (DF ⟨lb,sn⟩ (A.take (k+1))):=⟨_,rfl⟩
   rw[<-hR]at e5;simp only[dQ]at e5;simp only[Sym.mk.injEq]at hs;obtain⟨rfl,rfl⟩:=hs
   (refine AX Ab (AJ (Ji [(7,0),(60,1),(61,2)] [] e5)) (Mj @Cs.eq_1 qV hx qA wk) ?_;intros;refine Am ?_)
   refine An.mk ⟨k+1,by omega⟩ (Sub.lit (by simp[<-hR,wk])) (by simp;omega)
   skip
  ·rw[if_neg hs,bX0]at wP
   have hsb:(xl==lb&&xn==sn)=false:=by
    rw[Bool.eq_false_iff];intro hh;simp only[aN0,beq_iff_eq]at hh;exact hs (by rw[hh.1,hh.2])
   (refine AX Ab Ab (MY @Cs.eq_1 qV hx qA wk hsb) ?_;intros;refine Am ?_)
   refine An.mk ⟨k+1,by omega⟩ (Sub.lit (by simp[wP,wk])) (by simp;omega)
   skip
 ·have qZ:k=A.length:=by omega
  subst qZ;simp only[bC0];exact Aw Ab Ab (AJ @Qm.eq_1)
end Go.Proofs.Wy
end
section
namespace Go.Proofs.Wy
open Go Go.Dm Tryz
variable [DMode]
theorem Io : ∀{l:List Nat},(∀x∈l,x=0)->l.sum=0
 | [],_=>rfl
 | x::l,h=>by rw[cW0,h x aH0,Io fun y hy=>h y (aF0 _ hy)]
theorem uR {α:Type} [DecidableEq α] (k:Nat) (a:α):∀(l:List α),l.Nodup->(l.map fun s=>if a=s then k else 0).sum<=k
 | [],_=>by simp
 | b::l,h=>by
  obtain⟨h1,h2⟩:=cH0.1 h;have ih:=uR k a l h2;rw[List.map_cons,cW0]
  split
  ·rename_i e;subst e
   have hz:(l.map fun s=>if a=s then k else 0).sum=0:=by
    refine Io fun x hx=> ?_
    obtain⟨s,hs,rfl⟩:=aR0.1 hx;have qE:¬a=s:=fun e=>h1 (by rw[e];exact hs)
    rw[if_neg qE]
   omega
  ·omega
theorem KS {α:Type} (f g:α->Nat):∀l:List α,(l.map fun s=>f s+g s).sum=(l.map f).sum+(l.map g).sum
 | []=>rfl
 | a::l=>by
  rw[List.map_cons,List.map_cons,List.map_cons,cW0,cW0,cW0,KS f g l];omega
theorem Se : ∀(g:List Rul) (hs:List ByteArray),hs.Nodup->(hs.map fun s=>Ce (Hv g s)).sum<=BX g
 | [],hs,_=>by
  have:(hs.map fun s=>Ce (Hv [] s)).sum=0:=by
   refine Io fun x hx=> ?_
   obtain⟨s,_,rfl⟩:=aR0.1 hx;rfl
  omega
 | r::g,hs,h=>by
  have ih:=Se g hs h
  have h1:∀s,Ce (Hv (r::g) s)=(if r.h=s then EP r.b else 0)+Ce (Hv g s):=by
   intro s
   by_cases hr:r.h=s<;>simp[Hv,Ce,hr]
  have h2:BX (r::g)=EP r.b+BX g:=by simp[BX]
  have h3:=uR (EP r.b) r.h hs h;simp only[h1];rw[KS];omega
theorem Vh {gt:GT} (h:OkgT gt):AV (Cu gt)<=80:=by
 have h1:=Se (AY gt) _ (HJ (AY gt))
 have h2:AV (Cu gt)=((Av (AY gt)).map fun s=>Ce (Hv (AY gt) s)+1).sum:=by
  unfold AV Cu;rw[bY0]
  congr 1
  refine bV0 fun s _=> ?_
  show ((CB (QY gt s)).length+1:Int).toNat=_
  rw[MR,FF];omega
 have h3:∀l:List ByteArray,(l.map fun _=>1).sum=l.length:=by
  intro l
  induction l with
  | nil=>rfl
  | cons a l ih=>rw[List.map_cons,cW0,ih,List.length_cons];omega
 rw[h2,KS,h3];have:=h.hd;have:=h.oc;omega
end Go.Proofs.Wy
end
section
namespace Go.Proofs.Wy
open Go Go.Dm Tryz
attribute [local irreducible] DW Bm Bq
set_option maxRecDepth 100000
theorem ZX {a:Auto} (h:GC a=true) (s:Sym) (hr:a.arcs.Pairwise fun x y=>Fo x y=true):(DF s a.arcs).Nodup:=by
 unfold DF;rw[List.nodup_iff_pairwise_ne,cX0];have h1:(a.arcs.filter fun x=>decide (x.sy=s)).Pairwise fun x y=>Fo x y=true:=hr.filter _
 refine List.Pairwise.imp_of_mem ?_ h1;intro x y hx hy bY he;obtain⟨hx1,kR⟩:=cC0.1 hx;obtain⟨hy1,hy2⟩:=cC0.1 hy;have k1:=Pk h hx1;have k2:=Pk h hy1;simp only[decide_eq_true_eq]at kR hy2;simp only[_root_.Prod.mk.injEq]at he;have e1:x.fr=y.fr:=by omega
 have e2:x.to=y.to:=by omega
 have e3:x.sy=y.sy:=by rw[kR,hy2]
 unfold Fo at bY;rw[if_pos e1,if_pos e3]at bY;simp[e2]at bY
theorem Xc (s:Sym) (A B:List Arc):DF s (A++B)=DF s A++DF s B:=by unfold DF;rw[dH0,bF0]
theorem Dl_ (s:Sym) (f:Nat) (A:List Arc) (hA:∀x∈A,0<=x.fr/\0<=x.to):DF s (A.map (Sl f))=(DF s A).map fun c=>(f+c.1,f+c.2):=by
 unfold DF;rw[List.filter_map,bY0,bY0];have:((fun x:Arc=>decide (x.sy=s))∘Sl f)=fun x=>decide (x.sy=s):=rfl
 rw[this];refine bV0 fun x hx=> ?_
 have:=hA x (cC0.1 hx).1;simp only[Function.comp,Sl,_root_.Prod.mk.injEq];omega
theorem iN (s:Sym):∀(n:Nat) (xs:List Auto),xs.length=n->(∀a∈xs,SmA a)->(∀a∈xs,a.arcs.Pairwise fun x y=>Fo x y=true)->(DF s (Dc xs)).Nodup
 | 0,xs,h,_,_=>by
  have:=cS0.1 h;subst this;exact List.nodup_nil
 | n+1,xs,h,yM,hr=>by
  rcases List.eq_nil_or_concat xs with rfl | ⟨l,a,rfl⟩
  ·simp at h
  rw[List.concat_eq_append]at h yM hr |-;have ih:=iN s n l (by simpa using h) (fun b hb=>yM b (aL0 _ hb)) fun b hb=>hr b (aL0 _ hb)
  have qW:=(yM a (by simp)).ok;have yC:=fun x (hx:x∈Dc l)=>Uz (fun b hb=>yM b (aL0 _ hb)) hx
  rw[Jw,Xc,Dl_ s _ _ fun x hx=>by have:=Pk qW hx;omega];refine bS0.2 ⟨ih,?_,?_⟩
  ·have h5:=ZX qW s (hr a (by simp));rw[List.nodup_iff_pairwise_ne]at h5 |-;rw[cX0];refine h5.imp ?_;rintro⟨c1,c2⟩ ⟨d1,d2⟩ qE he;simp only[_root_.Prod.mk.injEq]at he
   apply qE
   simp only[_root_.Prod.mk.injEq];omega
  ·intro c hc d hd he;subst he;obtain⟨e,_,rfl⟩:=aR0.1 hd;have:=(QA yC _ hc).1;simp only at this;omega
theorem tI (gt:GT):∀a∈Cu gt,a.arcs.Pairwise fun x y=>Fo x y=true:=fun a ha=>by
 unfold Cu at ha;obtain⟨s,_,rfl⟩:=aR0.1 ha;have h1:=LR (syG (AY gt)) (QY gt s);unfold DT at h1;exact h1.imp fun h=>by rw[QI];simpa using h
theorem uS {xs:List Auto} (h:∀a∈xs,SmA a) (hn:xs.length≠0):1<=AV xs:=by
 cases xs with
 | nil=>simp at hn
 | cons a xs =>
  have h3:AV (a::xs)=a.st.toNat+AV xs:=by simp[AV]
  have:=(Pj (h a aH0).ok).1;omega
def SV : Ann:=⟨[37,40],[⟨5,[6],[],[]⟩,⟨6,[],[],[0,1,5,6]⟩]⟩
theorem tH (H L:List ByteArray) (xs:List Auto) (k:Nat) (a:Auto) (f:Nat) (hs:SmA a) (hk:(Cr 0 xs)[k]? =some (a,f)):Ae prog 16 [Ca H L xs,.int .i64 k] (.tup [.agg (FQ a),.int .i64 0]):=by
 refine Ac [37,40,4] SV func16 call16 ntmps16 mxd (Ar @SV.eq_1 results16) rfl (fun qJ B qX qQ=> ?_) (hd:=(by simp[mx,AH]));clear qJ;have e1:=BT H L xs;simp only[Ak,Ca]at e1 |-;obtain⟨P,hP⟩:∃P,P=Cr 0 xs:=⟨_,rfl⟩;rw[<-hP]at e1 hk |-;clear hP;have qV:=(aG0.1 hk).1;have vM:P[k]'qV=(a,f):=(aG0.1 hk).2;have h0:¬(k:Int)<0:=by omega
 have h2:¬(P.length:Int)<=(k:Int):=by omega
 have hfi:=hs.fi;have har:=hs.ar;have e2:=WZ a.fin (by omega);have e3:=Ny a.arcs (by omega);exact Aw (AJ e1) (Ar (Ji [] [(37,0)] e2) (Ji [] [(40,0)] e3)) (NA @Uq.eq_1 @FQ.eq_1 h0 h2 qV hk vM)
end Go.Proofs.Wy
end
section
namespace Go.Proofs.Wy
open Go Go.Dm Tryz
theorem RK {α:Type} [DecidableEq α] (k:Nat) (a:α):∀(l:List α),l.Nodup->a∈l->(l.map fun s=>if a=s then k else 0).sum=k
 | [],_,h=>by cases h
 | b::l,h,hm=>by
  obtain⟨h1,h2⟩:=cH0.1 h;rw[List.map_cons,cW0]
  by_cases he:a=b
  ·subst he
   have hz:(l.map fun s=>if a=s then k else 0).sum=0:=by
    refine Io fun x hx=> ?_
    obtain⟨s,hs,rfl⟩:=aR0.1 hx;have qE:¬a=s:=fun e=>h1 (by rw[e];exact hs)
    rw[if_neg qE]
   rw[if_pos rfl,hz];omega
  ·rw[if_neg he,RK k a l h2 (by rcases aJ0.1 hm with h | h;exact absurd h he;exact h)];omega
theorem Lj : ∀(g:List Rul) (hs:List ByteArray),hs.Nodup->(∀r∈g,r.h∈hs)->(hs.map fun s=>Ce (Hv g s)).sum=BX g
 | [],hs,_,_=>by
  have:(hs.map fun s=>Ce (Hv [] s)).sum=0:=by
   refine Io fun x hx=> ?_
   obtain⟨s,_,rfl⟩:=aR0.1 hx;rfl
  rw[this];rfl
 | r::g,hs,h,hm=>by
  have ih:=Lj g hs h fun x hx=>hm x (aF0 _ hx)
  have h1:∀s,Ce (Hv (r::g) s)=(if r.h=s then EP r.b else 0)+Ce (Hv g s):=by
   intro s
   by_cases hr:r.h=s<;>simp[Hv,Ce,hr]
  have h2:BX (r::g)=EP r.b+BX g:=by simp[BX]
  have h3:=RK (EP r.b) r.h hs h (hm r aH0);simp only[h1];rw[KS];omega
theorem uT (gt:GT):AV (Cu gt)=(Av (AY gt)).length+BX (AY gt):=by
 have h1:=Lj (AY gt) _ (HJ (AY gt)) fun r hr=>KA.2 ⟨r,hr,rfl⟩
 have h2:AV (Cu gt)=((Av (AY gt)).map fun s=>Ce (Hv (AY gt) s)+1).sum:=by
  unfold AV Cu;rw[bY0]
  congr 1
  refine bV0 fun s _=> ?_
  show ((CB (QY gt s)).length+1:Int).toNat=_
  rw[MR,FF];omega
 have h3:∀l:List ByteArray,(l.map fun _=>1).sum=l.length:=by
  intro l
  induction l with
  | nil=>rfl
  | cons a l ih=>rw[List.map_cons,cW0,ih,List.length_cons];omega
 rw[h2,KS,h3];omega
def HN (b:Bool) (k:Nat) (A:List Arc):Nat:=(A.filter fun x=>x.sy.label==b&&decide (x.sy.n<(k:Int))).length
theorem Dk_ (b:Bool) (k:Nat) (A:List Arc):HN b k A<=A.length:=cI0 _ _
theorem tD (b:Bool) {A:List Arc} (h:∀x∈A,0<=x.sy.n):HN b 0 A=0:=by
 unfold HN;rw[cS0,List.filter_eq_nil_iff];intro x hx;have:=h x hx;simp;omega
theorem MO (b:Bool) (k:Nat):∀A:List Arc,HN b (k+1) A=HN b k A+(DF ⟨b,k⟩ A).length
 | []=>rfl
 | x::A=>by
  have ih:=MO b k A;unfold HN DF at ih |-;rw[aO0]at ih |-;obtain⟨fr,⟨lb,n⟩,to⟩:=x;simp only[List.filter_cons]
  by_cases hb:lb=b
  ·subst hb
   by_cases hk:n=(k:Int)
   ·subst hk;have h1:(k:Int)<(k:Int)+1:=by omega
    simp[h1];simp at ih;omega
   ·by_cases hl:n<(k:Int)
    ·have:n<(k:Int)+1:=by omega
     simp[hl,hk,this];simp at ih;omega
    ·have:¬n<(k:Int)+1:=by omega
     simp[hl,hk,this];simp at ih;omega
  ·have h2:(lb==b)=false:=by simpa using hb
   simp[hb];simp at ih;omega
theorem WY {H L:List ByteArray}:∀{A:List Arc},(∀x∈A,sA H L x.sy=true)->HN false H.length A+HN true L.length A=A.length
 | [],_=>rfl
 | x::A,h=>by
  have ih:=WY fun y hy=>h y (aF0 _ hy)
  have hx:=h x aH0;unfold HN at ih |-;unfold sA at hx;obtain⟨fr,⟨lb,n⟩,to⟩:=x;simp only[List.filter_cons];cases lb
  ·simp at hx;simp[hx];simp at ih;omega
  ·simp at hx;simp[hx];simp at ih;omega
theorem BZ_ {H L:List ByteArray} (h1:1<=H.length) (x:Nd):sA H L (En H L x)=true:=by
 unfold En sA
 split
 ·split
  ·rename_i h2;have:=Kw h2;simp;omega
  ·simp;omega
 ·split
  ·split
   ·rename_i h2;have:=Kw h2;simp;omega
   ·simp;omega
  ·simp;omega
theorem Ew_ {gt:GT} (h:OkgT gt) {x:Arc} (hx:x∈Dc (Cu gt)):sA (Av (AY gt)) (AC (AY gt)) x.sy=true:=by
 have h1:1<=(Av (AY gt)).length:=by have:=PP h;omega
 unfold Dc at hx;obtain⟨p,hp,hx⟩:=bQ0.1 hx;obtain⟨y,hy,rfl⟩:=aR0.1 hx;have h2:=(ID hp).1;unfold Cu at h2;obtain⟨s,_,hs⟩:=aR0.1 h2;rw[<-hs]at hy;obtain⟨p,q,_,_,_,rfl⟩:=iS (show y∈LS (syG (AY gt)) (QY gt s) from hy);unfold Sl;simp only;rw[aM0]
 cases hg:(Oc (syG (AY gt)) (QY gt s))[q-1]? with
 | none=>simp[sA];omega
 | some z =>
  have h3:=bU0 hg;unfold Oc at h3;obtain⟨n,_,rfl⟩:=aR0.1 h3;exact BZ_ h1 n
theorem Ph : ∀{xs:List Auto} {f k:Nat} {a:Auto},xs[k]? =some a->(Cr f xs)[k]? =some (a,f+AV (xs.take k))
 | [],_,_,_,h=>by simp at h
 | b::xs,f,0,a,h=>by simp at h;subst h;rfl
 | b::xs,f,k+1,a,h=>by
  have h1:=Ph (xs:=xs) (f:=f+b.st.toNat) (k:=k) (by simpa using h);have h3:AV (b::xs.take k)=b.st.toNat+AV (xs.take k):=by simp[AV]
  rw[Cr,bJ0,h1,cF0,h3,cR0]
theorem Cb_ {xs:List Auto} {k:Nat} {a:Auto} (h:xs[k]? =some a):(uU xs)[k]? =some (AV (xs.take k)):=by
 unfold uU;rw[bM0,Ph h,bN0];rfl
theorem VR : ∀{xs:List Auto} {b k:Nat} {a:Auto},xs[k]? =some a->1<=a.st->((xs.zipIdx b).flatMap fun p=>List.replicate p.1.st.toNat p.2)[AV (xs.take k)]? =some (b+k)
 | [],_,_,_,h,_=>by simp at h
 | c::xs,b,0,a,h,h1=>by
  simp at h;subst h;rw[List.zipIdx_cons,cT0,aV0 (by rw[cY0];simp[AV];omega),cZ0,if_pos (by simp[AV];omega)];rfl
 | c::xs,b,k+1,a,h,h1=>by
  have ih:=VR (xs:=xs) (b:=b+1) (k:=k) (by simpa using h) h1;have h3:AV (c::xs.take k)=c.st.toNat+AV (xs.take k):=by simp[AV]
  rw[List.zipIdx_cons,cT0,cF0,h3,aX0 (by rw[cY0];simp),cY0];simp only;rw[Nat.add_sub_cancel_left,ih]
  congr 1
  omega
theorem Cx_ {xs:List Auto} {k:Nat} {a:Auto} (h:xs[k]? =some a) (h1:1<=a.st):(ntL xs)[AV (xs.take k)]? =some k:=by
 have:=VR (b:=0) h h1;unfold ntL;rw[this,bN0]
theorem oX (l:List Auto) (k:Nat):AV (l.take k)<=AV l:=by
 have h1:AV l=AV (l.take k)+AV (l.drop k):=by
  unfold AV;rw[<-List.sum_append,<-bF0,List.take_append_drop]
 omega
theorem tP (l:List Auto):∀k,(Dc (l.take k)).length<=(Dc l).length:=by
 induction hn:l.length generalizing l with
 | zero=>intro k;have:=cS0.1 hn;subst this;simp
 | succ n ih =>
  intro k
  rcases List.eq_nil_or_concat l with rfl | ⟨l',a,rfl⟩
  ·simp at hn
  rw[List.concat_eq_append]at hn |-;have:=ih l' (by simpa using hn) k;rw[Jw,aB0,aO0]
  by_cases hk:k<=l'.length
  ·rw[eB0 hk];omega
  ·rw[cE0 (by simp;omega),Jw,aB0,aO0];omega
end Go.Proofs.Wy
end
