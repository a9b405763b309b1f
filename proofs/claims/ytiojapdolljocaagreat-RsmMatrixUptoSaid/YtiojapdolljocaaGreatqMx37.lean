/- Parts of a proof, laid together: RS6, RS7, RS8, W97, WO, W98, W44, W47, W96, CF0, EnZ, CF1, QB7, QB8, QS0, QB9, QB10. -/
import Derived.Test.YtiojapdolljocaaGreatqMx14
import Derived.Test.YtiojapdolljocaaGreatqMx15
import Derived.Test.YtiojapdolljocaaGreatqMx16
import Derived.Test.YtiojapdolljocaaGreatqMx17
import Derived.Test.YtiojapdolljocaaGreatqMx21
import Derived.Test.YtiojapdolljocaaGreatqMx23
import Derived.Test.YtiojapdolljocaaGreatqMx36
set_option linter.unusedSimpArgs false
set_option maxHeartbeats 8000000
set_option linter.unusedVariables false
set_option linter.unusedSectionVars false
section
namespace Go.Proofs.Wy
open Go Go.Dm Tryz
attribute [local irreducible] DW Bs Bt
set_option maxRecDepth 100000
def tH : Ann:=⟨[],[]⟩
theorem Hv (H L:List ByteArray) (xs:List Auto):Ae prog 41 [DU H L xs] (.bool true):=by
 refine Ac [] tH func41 call41 ntmps41 mxd (Au @tH.eq_1 results41) rfl (fun qJ B qX qQ=> ?_);clear qJ;simp only[Am,DU];exact Av Ab Ab Ab
def Oh (P:List (Auto×Nat)):List Arc:=P.flatMap fun p=>SL p.2 p.1.arcs
theorem Bv_ {P:List (Auto×Nat)} {i:Nat} {p:Auto×Nat} (h:P[i]? =some p):Oh (P.take (i+1))=Oh (P.take i)++SL p.2 p.1.arcs:=by
 unfold Oh;rw[bJ0,h,eB0];simp
theorem YK : ∀{P:List (Auto×Nat)},(∀p∈P,SmA p.1)->(Oh P).length<=1073741888*P.length
 | [],_=>by simp[Oh]
 | p::P,h=>by
  have h1:=(h p aI0).ar;have h2:=YK (P:=P) fun x hx=>h x (aG0 _ hx)
  have h3:Oh (p::P)=SL p.2 p.1.arcs++Oh P:=by simp[Oh]
  rw[h3,aC0,List.length_cons];unfold SL;rw[aN0];omega
theorem Eo_ (xs:List Auto):Oh (DM 0 xs)=Ei xs:=rfl
theorem QE : ∀{xs:List Auto} {f:Nat} {p:Auto×Nat},p∈DM f xs->p.1∈xs/\p.2<=f+BE xs
 | [],_,_,h=>by simp[DM]at h
 | a::xs,f,p,h=>by
  have h3:BE (a::xs)=a.st.toNat+BE xs:=by simp[BE]
  rw[DM]at h
  rcases aK0.1 h with rfl | h
  ·exact⟨aI0,by simp only;omega⟩
  ·have:=QE h;exact⟨aG0 _ this.1,by omega⟩
theorem If_ {a b:Nat} (h1:a<=17179870208) (h2:b<=1073741888):(a+b)*32<=150000000000000:=by omega
def Nh : Ann:=⟨[],[⟨5,[7],[],[]⟩]⟩
theorem lC (H L:List ByteArray) (xs:List Auto) (h:∀a∈xs,SmA a) (hl:xs.length<=16):Ae prog 70 [DU H L xs,.fn (.func 71) [] []] (Cg (Ei xs)):=by
 refine Ac [50] Nh func70 call70 ntmps70 mxd (Au @Nh.eq_1 results70) rfl (fun qJ B qX qQ=> ?_);clear qJ;have e1:=Hv H L xs;have hsl:=Pp (l:=xs) fun a ha=>(h a ha).ok
 have hs10:BE xs<=1040:=Nat.le_trans hsl (dM0 65 hl);have zS:=Mj xs 0
 have hP:∀p∈DM 0 xs,SmA p.1/\p.2<=1040:=fun p hp=>by
  have:=QE hp;exact⟨h _ this.1,by omega⟩
 rw[<-Eo_];simp only[Am,DU]at e1 |-;obtain⟨P,hPP⟩:∃P,P=DM 0 xs:=⟨_,rfl⟩;rw[<-hPP]at e1 hP zS |-;clear hPP hsl h
 iterate 6 ((first | refine AJ fun K hK=> ?_ | (refine BV Nh mxd (by kernel_rfl) ?_;simp[Nh,qX];try simp (disch:=omega) only[Al]) | refine Aq ?_ | (refine Bi ?_ ?_ ?_;(· (simp[qX];done));(try (rotate_left;(· (intro hc;(try simp[qX]at hc);done))))) | (refine AN ?_;simp[results70,qX]) | ((first | refine AB ?_ | refine AA ?_);simp[qX]) | (intro hc;(try simp[qX]at hc);(try (exfalso;omega))) | (refine⟨?_,?_⟩; · omega) | omega | apply_assumption -exfalso -symm | (exfalso;omega)))
 refine BO 5 50 39 4 32 (by simp[qX,results70,Nh]) (fun n=> ?_)
 (refine AG (AD e1) Ab Ab ?_;intros;refine Ah ?_)
 refine Ai (X:={i:Nat//i<=P.length}) (fun i=>⟨[(1,.fn (.func 71) [] []),(5,.osl 50 1),(13,Ib_ P),(14,.int .i64 P.length),(15,.int .i64 i.1)],[⟨50,1,.row 39 4 32 ((Oh (P.take i.1)).map AW)⟩]⟩) (fun i=>P.length-i.1) ⟨0,by simp⟩ (Sub.lit (by simp[Oh])) ?_;rintro⟨i,hi⟩;simp only
 by_cases qV:i<P.length
 ·obtain⟨p,hp,yE,gN⟩:=Ao qV;obtain⟨k1,k2⟩:=hP p gN;obtain⟨a,f⟩:=p;have e2:=SK a f k1 k2;have wK:=congrArg (List.map AW) (Bv_ hp);rw[bD0]at wK;have har:a.arcs.length<=1073741888:=k1.ar;have zO:(SL f a.arcs).length=a.arcs.length:=by unfold SL;rw[aN0]
  have jY:=YK (P:=P.take i) fun x hx=>(hP x (dB0 hx)).1
  have h16:(P.take i).length<=16:=by rw[bA0];omega
  have htl':(Oh (P.take i)).length<=17179870208:=Nat.le_trans jY (dM0 1073741888 h16);clear jY;obtain⟨T,hT⟩:∃T,T=Oh (P.take i):=⟨_,rfl⟩;rw[<-hT]at wK htl' |-;obtain⟨V,hV⟩:∃V,V=SL f a.arcs:=⟨_,rfl⟩;simp only at wK;rw[<-hV]at e2 wK zO;have hb:(T.length+V.length)*32<=150000000000000:=If_ htl' (by omega);have wC:IntKind.i64.wrap ((i:Int)+1)=(i:Int)+1:=wq;simp only[dPt]at e2;clear hP k1 k2 zS hT hV
  (refine AG (AD e2) Ab (GN @dPt.eq_1 qV hp yE hb wC) ?_;intros;refine Ah ?_)
  refine Aj.mk ⟨i+1,by omega⟩ (Sub.lit (by simp[wK])) (by simp;omega)
  skip
 ·have qZ:i=P.length:=by omega
  subst qZ;rw[aW0];exact Av Ab Ab Ab
def tI : Ann:=⟨[],[]⟩
theorem Vs (H L:List ByteArray) (xs:List Auto) (h:∀a∈xs,SmA a) (hl:xs.length<=16):Ae prog 25 [DU H L xs] (Cg (Ei xs)):=by
 refine Ac [] tI func25 call25 ntmps25 mxd (Au @tI.eq_1 results25) rfl (fun qJ B qX qQ=> ?_);clear qJ;have e1:=lC H L xs h hl;simp only[Am,DU]at e1 |-;exact Av (AD e1) Ab Ab
theorem HZ_ (g:List Rul) (hs:EJ g):∃c:Int,Ae prog 49 [Ar g] (.int .i64 c)/\Ae prog 28 [Ar g] (.int .i64 c)/\(c=0->∃gt,g=Be gt/\OkgT gt):=by
 by_cases h:g.length<1\/64<g.length
 ·exact⟨180,SX g h,Qy g h,by omega⟩
 ·cases ht:EU g with
  | false=>exact⟨170,Yy g (by omega) (by omega) hs ht,UY g (by omega) (by omega) hs ht,by omega⟩
  | true =>
   obtain⟨gt,rfl,hk⟩:=WC ht;have hl:=Ea gt;exact⟨MN gt,lJ gt (by omega) (by omega) hk hs,Xd gt (by omega) (by omega) hk hs,fun h0=>⟨gt,rfl,EZ_ hk (by omega) (by omega) h0⟩⟩
def Wd : Ann:=⟨[],[]⟩
theorem SN (g:List Rul) (c:Int) (hs:EJ g) (hl:g.length*40<=140737488355328) (hc:c≠0) (h1:Ae prog 49 [Ar g] (.int .i64 c)) (h2:Ae prog 28 [Ar g] (.int .i64 c)):Ae prog 7 [Ar g] (.tup [.nilp,.bool true]):=by
 refine Ac [] Wd func7 call7 ntmps7 mxd (Au @Wd.eq_1 results7) rfl (fun qJ B qX qQ=> ?_);clear qJ;simp only[Am];have e1:=Mi g hs hl;have e2:=Ao_ g c hc h1;have hcb:(c==0)=false:=by simpa using hc
 exact Av (CD e1 e2 h2) Ab (Au hc hcb)
theorem JH (gt:GT) (h:OkgT gt) (hs:EJ (Be gt)) (h1:Ae prog 49 [Ar (Be gt)] (.int .i64 0)) (h2:Ae prog 28 [Ar (Be gt)] (.int .i64 0)):Ae prog 7 [Ar (Be gt)] (.tup [DU (Ax (Be gt)) (Ay (Be gt)) (HD gt),.bool true]):=by
 refine Ac [] Wd func7 call7 ntmps7 mxd (Au @Wd.eq_1 results7) rfl (fun qJ B qX qQ=> ?_) (hd:=(by simp[mx,DU,AL]));clear qJ;simp only[Am];have nI:=Ea gt;have yW:=h.le;have e1:=Mi (Be gt) hs (by omega);have e2:=iE gt h hs h1;unfold DU at e2 |-;exact Av (CD e1 e2 h2) Ab Ab

end Go.Proofs.Wy
end
section
namespace Go.Proofs.Wy
open Go Go.Dm Tryz
variable [DMode]
attribute [local irreducible] DW Bs Bt
set_option maxRecDepth 100000

end Go.Proofs.Wy
end
section
namespace Go.Proofs.Wy
open Go Go.Dm Tryz
variable [DMode]

end Go.Proofs.Wy
end
section
namespace Go.Proofs.Wy
open Go Go.Dm Tryz
variable [DMode]
attribute [local irreducible] DW Bs Bt
set_option maxRecDepth 100000

end Go.Proofs.Wy
end
section
namespace Go.Proofs.Wy
open Go Go.Dm Tryz
variable [DMode]
attribute [local irreducible] DW Bs Bt


end Go.Proofs.Wy
end
section
namespace Go.Proofs.Wy
open Go Go.Dm Tryz
variable [DMode]
attribute [local irreducible] DW Bs Bt
set_option maxRecDepth 100000

end Go.Proofs.Wy
end
section
namespace Go.Proofs.Wy
open Go Go.Dm Tryz
variable [DMode]
def Jc_ (xs:List Auto) (q:Nat):Nat:=((List.range q).filter fun p=>decide (¬p∈oP xs)).length
def IK_ (xs:List Auto) (q:Nat):Nat:=if q∈oP xs then (ntL xs).getD q 0 else xs.length+Jc_ xs q
theorem Xi : ∀{xs:List Auto} {f:Nat} {p:Auto×Nat},p∈DM f xs->p.2+p.1.st.toNat<=f+BE xs
 | [],_,_,h=>by simp[DM]at h
 | a::xs,f,p,h=>by
  have h3:BE (a::xs)=a.st.toNat+BE xs:=by simp[BE]
  rw[DM]at h
  rcases aK0.1 h with rfl | h
  ·simp only;omega
  ·have:=Xi h;omega
end Go.Proofs.Wy
end
section
namespace Go.Dm
variable [DMode]
def Hy_ (es':List (List DVal)):DObj->DObj
 | .row et k bs _=> .row et k bs es'
 | o=>o
def Hv_ (id:Nat) (es':List (List DVal)):List Ent->List Ent
 | []=>[]
 | e::t=>(if e.id=id then ⟨e.id,e.r,Hy_ es' e.obj⟩else e)::Hv_ id es' t
attribute [simp] Hy_ Hv_
end Go.Dm
end
section
namespace Go.Proofs.Wy
open Go Go.Dm Tryz
attribute [local irreducible] DW Bs Bt
set_option maxRecDepth 100000
def dF (xs:List Auto) (q:Int):List DVal:=[.int .i64 (IK_ xs q.toNat:Int),.nilsl]
@[simp] theorem HO_ (xs:List Auto) (q:Int):AL (dF xs q)=0:=by simp[dF,AL,mx]
@[simp] theorem IP_ (xs:List Auto) (l:List Int):Bp (l.map (dF xs))=0:=HT _ (HO_ xs) l
theorem VY {xs:List Auto} (h:∀a∈xs,SmA a) {x:Arc} (hx:x∈Ei xs):0<=x.fr/\x.fr.toNat<BE xs/\0<=x.to/\x.to.toNat<BE xs:=by
 unfold Ei at hx;obtain⟨p,hp,hx⟩:=bQ0.1 hx;obtain⟨y,hy,rfl⟩:=aT0.1 hx;have h1:=Xi hp;have h2:=NI (h _ (QE hp).1).ok hy;unfold SJ;simp only;omega
def knS (H L:List ByteArray) (s:Sym):Bool:=decide (0<=s.n)&&decide (s.n<((if s.label then L.length else H.length:Nat):Int))
def Co : Ann:=⟨[],[]⟩
theorem TD (H L:List ByteArray) (s:Sym):∃t:ByteArray,Ae prog 35 [GR H L,.agg (AM s)] (.tup [.str t,.int .i64 (if knS H L s then 0 else 4)]):=by
 have e1:=FQ H L;obtain⟨lb,n⟩:=s;unfold knS;simp only;have wP:(⟨#[]⟩:ByteArray).size<=maxLen:=by decide
 obtain⟨T,hT⟩:∃T,T=(if lb=true then L else H):=⟨_,rfl⟩;have hTl:(if lb=true then L.length else H.length)=T.length:=by rw[hT];cases lb<;>rfl
 rw[hTl]
 by_cases h0:n<0
 ·refine⟨⟨#[]⟩,?_⟩;have hk:(decide (0<=n)&&decide (n<(T.length:Int)))=false:=by simp;omega
  rw[hk];refine Ac [] Co func35 call35 ntmps35 mxd (Au @Co.eq_1 results35) rfl (fun qJ B qX qQ=> ?_) (hd:=(by simp[mx,AL]));clear qJ;simp only[Am];cases lb
  ·
   (repeat (first | refine AJ fun K hK=> ?_ | (refine BV Co mxd (by kernel_rfl) ?_;simp[Co,qX,AM,h0,wP];try simp (disch:=omega) only[Al]) | refine Aq ?_ | (refine Bi ?_ ?_ ?_;(· (simp[qX,AM,h0,wP];done));(try (rotate_left;(· (intro hc;(try simp[qX,AM,h0,wP]at hc);done))))) | (refine AN ?_;simp[results35,qX,AM,h0,wP]) | ((first | refine AB ?_ | refine AA ?_);simp[qX,AM,h0,wP]) | (intro hc;(try simp[qX,AM,h0,wP]at hc);(try (exfalso;omega))) | ((first | refine Ag (e1) ?_ | (refine Af (e1) ?_ ?_;(· (simp;done))));try simp[qX,AM,h0,wP]) | (refine⟨?_,?_⟩; · omega) | omega | apply_assumption -exfalso -symm | (exfalso;omega)))
  ·
   (repeat (first | refine AJ fun K hK=> ?_ | (refine BV Co mxd (by kernel_rfl) ?_;simp[Co,qX,AM,h0,wP];try simp (disch:=omega) only[Al]) | refine Aq ?_ | (refine Bi ?_ ?_ ?_;(· (simp[qX,AM,h0,wP];done));(try (rotate_left;(· (intro hc;(try simp[qX,AM,h0,wP]at hc);done))))) | (refine AN ?_;simp[results35,qX,AM,h0,wP]) | ((first | refine AB ?_ | refine AA ?_);simp[qX,AM,h0,wP]) | (intro hc;(try simp[qX,AM,h0,wP]at hc);(try (exfalso;omega))) | ((first | refine Ag (e1) ?_ | (refine Af (e1) ?_ ?_;(· (simp;done))));try simp[qX,AM,h0,wP]) | (refine⟨?_,?_⟩; · omega) | omega | apply_assumption -exfalso -symm | (exfalso;omega)))
 ·by_cases h1:n<(T.length:Int)
  ·obtain⟨k,rfl⟩:∃k:Nat,n=k:=⟨n.toNat,by omega⟩;have hk:(decide (0<=(k:Int))&&decide ((k:Int)<(T.length:Int)))=true:=by simp;omega
   have wR:k<T.length:=by omega
   have hx:=aE0 wR;obtain⟨x,jJ⟩:∃x,x=T[k]:=⟨_,rfl⟩;rw[<-jJ]at hx;have zF:T[k]=x:=jJ.symm;rw[hk];have h2:¬(T.length:Int)<=k:=by omega
   have h3:¬T.length<=k:=by omega
   refine⟨x,?_⟩;refine Ac [] Co func35 call35 ntmps35 mxd (Au @Co.eq_1 results35) rfl (fun qJ B qX qQ=> ?_) (hd:=(by simp[mx,AL]));clear qJ;simp only[Am];cases lb
   ·simp only[aR0,if_false]at hT;subst hT
    (repeat (first | refine AJ fun K hK=> ?_ | (refine BV Co mxd (by kernel_rfl) ?_;simp[Co,qX,AM,AH,h0,h1,h2,h3,wR,hx,zF,wP];try simp (disch:=omega) only[Al]) | refine Aq ?_ | (refine Bi ?_ ?_ ?_;(· (simp[qX,AM,AH,h0,h1,h2,h3,wR,hx,zF,wP];done));(try (rotate_left;(· (intro hc;(try simp[qX,AM,AH,h0,h1,h2,h3,wR,hx,zF,wP]at hc);done))))) | (refine AN ?_;simp[results35,qX,AM,AH,h0,h1,h2,h3,wR,hx,zF,wP]) | ((first | refine AB ?_ | refine AA ?_);simp[qX,AM,AH,h0,h1,h2,h3,wR,hx,zF,wP]) | (intro hc;(try simp[qX,AM,AH,h0,h1,h2,h3,wR,hx,zF,wP]at hc);(try (exfalso;omega))) | ((first | refine Ag (e1) ?_ | (refine Af (e1) ?_ ?_;(· (simp;done))));try simp[qX,AM,AH,h0,h1,h2,h3,wR,hx,zF,wP]) | (refine⟨?_,?_⟩; · omega) | omega | apply_assumption -exfalso -symm | (exfalso;omega)))
   ·simp only[if_true]at hT;subst hT
    (repeat (first | refine AJ fun K hK=> ?_ | (refine BV Co mxd (by kernel_rfl) ?_;simp[Co,qX,AM,AH,h0,h1,h2,h3,wR,hx,zF,wP];try simp (disch:=omega) only[Al]) | refine Aq ?_ | (refine Bi ?_ ?_ ?_;(· (simp[qX,AM,AH,h0,h1,h2,h3,wR,hx,zF,wP];done));(try (rotate_left;(· (intro hc;(try simp[qX,AM,AH,h0,h1,h2,h3,wR,hx,zF,wP]at hc);done))))) | (refine AN ?_;simp[results35,qX,AM,AH,h0,h1,h2,h3,wR,hx,zF,wP]) | ((first | refine AB ?_ | refine AA ?_);simp[qX,AM,AH,h0,h1,h2,h3,wR,hx,zF,wP]) | (intro hc;(try simp[qX,AM,AH,h0,h1,h2,h3,wR,hx,zF,wP]at hc);(try (exfalso;omega))) | ((first | refine Ag (e1) ?_ | (refine Af (e1) ?_ ?_;(· (simp;done))));try simp[qX,AM,AH,h0,h1,h2,h3,wR,hx,zF,wP]) | (refine⟨?_,?_⟩; · omega) | omega | apply_assumption -exfalso -symm | (exfalso;omega)))
  ·refine⟨⟨#[]⟩,?_⟩;have hk:(decide (0<=n)&&decide (n<(T.length:Int)))=false:=by simp;omega
   rw[hk];have h2:(T.length:Int)<=n:=by omega
   refine Ac [] Co func35 call35 ntmps35 mxd (Au @Co.eq_1 results35) rfl (fun qJ B qX qQ=> ?_) (hd:=(by simp[mx,AL]));clear qJ;simp only[Am];cases lb
   ·simp only[aR0,if_false]at hT;subst hT
    (repeat (first | refine AJ fun K hK=> ?_ | (refine BV Co mxd (by kernel_rfl) ?_;simp[Co,qX,AM,AH,h0,h1,h2,wP];try simp (disch:=omega) only[Al]) | refine Aq ?_ | (refine Bi ?_ ?_ ?_;(· (simp[qX,AM,AH,h0,h1,h2,wP];done));(try (rotate_left;(· (intro hc;(try simp[qX,AM,AH,h0,h1,h2,wP]at hc);done))))) | (refine AN ?_;simp[results35,qX,AM,AH,h0,h1,h2,wP]) | ((first | refine AB ?_ | refine AA ?_);simp[qX,AM,AH,h0,h1,h2,wP]) | (intro hc;(try simp[qX,AM,AH,h0,h1,h2,wP]at hc);(try (exfalso;omega))) | ((first | refine Ag (e1) ?_ | (refine Af (e1) ?_ ?_;(· (simp;done))));try simp[qX,AM,AH,h0,h1,h2,wP]) | (refine⟨?_,?_⟩; · omega) | omega | apply_assumption -exfalso -symm | (exfalso;omega)))
   ·simp only[if_true]at hT;subst hT
    (repeat (first | refine AJ fun K hK=> ?_ | (refine BV Co mxd (by kernel_rfl) ?_;simp[Co,qX,AM,AH,h0,h1,h2,wP];try simp (disch:=omega) only[Al]) | refine Aq ?_ | (refine Bi ?_ ?_ ?_;(· (simp[qX,AM,AH,h0,h1,h2,wP];done));(try (rotate_left;(· (intro hc;(try simp[qX,AM,AH,h0,h1,h2,wP]at hc);done))))) | (refine AN ?_;simp[results35,qX,AM,AH,h0,h1,h2,wP]) | ((first | refine AB ?_ | refine AA ?_);simp[qX,AM,AH,h0,h1,h2,wP]) | (intro hc;(try simp[qX,AM,AH,h0,h1,h2,wP]at hc);(try (exfalso;omega))) | ((first | refine Ag (e1) ?_ | (refine Af (e1) ?_ ?_;(· (simp;done))));try simp[qX,AM,AH,h0,h1,h2,wP]) | (refine⟨?_,?_⟩; · omega) | omega | apply_assumption -exfalso -symm | (exfalso;omega)))
def DE (s:Sym) (A:List Arc):List (Nat×Nat):=(A.filter fun x=>decide (x.sy=s)).map fun x=>(x.fr.toNat,x.to.toNat)
theorem Ue {s:Sym} {A:List Arc} {k:Nat} {x:Arc} (h:A[k]? =some x):DE s (A.take (k+1))=DE s (A.take k)++(if x.sy=s then [(x.fr.toNat,x.to.toNat)]else []):=by
 unfold DE;rw[bJ0,h,cV0,bD0]
 congr 1
 by_cases hs:x.sy=s<;>simp[hs]
theorem RV {s:Sym} {A:List Arc} {n:Nat} (hA:∀x∈A,0<=x.fr/\x.fr.toNat<n/\0<=x.to/\x.to.toNat<n):∀c∈DE s A,c.1<n/\c.2<n:=by
 intro c hc;obtain⟨x,hx,rfl⟩:=aT0.1 hc;have:=hA x (cE0.1 hx).1;exact⟨this.2.1,this.2.2.2⟩
theorem RW (s:Sym) (A:List Arc):(DE s A).length<=A.length:=by
 unfold DE;rw[aN0];exact cI0 _ _
theorem Cl_ (q:Qd) (i j:Nat):(Qj q i j).lv.length<=q.lv.length+1/\(Qj q i j).cnt<=q.cnt+1:=by
 unfold Qj CX
 split
 ·omega
 ·unfold orQ;simp only[List.length_set]
  split<;>simp
theorem rH : ∀(n:Nat) (l:List (Nat×Nat)),l.length=n->(QJ l).lv.length<=n/\(QJ l).cnt<=n
 | 0,l,h=>by
  have:=cZ0.1 h;subst this;exact⟨Nat.le_refl _,Nat.le_refl _⟩
 | n+1,l,h=>by
  rcases List.eq_nil_or_concat l with rfl | ⟨l',x,rfl⟩
  ·simp at h
  rw[List.concat_eq_append]at h |-;obtain⟨a1,a2⟩:=rH n l' (by simpa using h);rw[QI];have:=Cl_ (QJ l') x.1 x.2;omega
def Ev_ : Ann:=⟨[30,51],[⟨11,[10],[],[]⟩]⟩
theorem Ax_ (H L:List ByteArray) (xs:List Auto) (h:∀a∈xs,SmA a) (hl:xs.length<=16) (h1:1<=BE xs) (h2:BE xs<=128) (s:Sym) (hk:knS H L s=true) :
  Ae prog 9 [DU H L xs,.agg (AM s)] (NY (BE xs) (QJ (DE s (Ei xs)))):=by
 refine Ac [60,61,7] Ev_ func9 call9 ntmps9 mxd (Au @Ev_.eq_1 results9) rfl (fun qJ B qX qQ=> ?_) (hd:=(by simp[mx,NY,AL]));clear qJ;simp only[Am];obtain⟨t,e1⟩:=TD H L s;rw[if_pos hk]at e1;have e2:=Hv H L xs;have e3:=xX (BE xs) h1 h2;have e4:=Vs H L xs h hl;have zG:=fun x (hx:x∈Ei xs)=>VY h hx
 have cG:(Ei xs).length<=1073741888*16:=by
  have:=MY h 0;unfold Ei;omega
 obtain⟨A,hA⟩:∃A,A=Ei xs:=⟨_,rfl⟩;rw[<-hA]at e4 cG |-;simp only[<-hA]at zG;obtain⟨lb,sn⟩:=s;simp only[DU]at e2 e4;simp only[AM]at e1;simp only[dQn]at e3
 (refine AG (CD e1 e2 e4) (AD (KV [] [(7,0),(60,1)] e3)) (Au @DU.eq_1 @AM.eq_1) ?_;intros;refine Ah ?_)
 clear e1 e2 e3 e4;refine CI 7 4 61 98 64 512 (by simp) (fun n61=> ?_);refine Ai (X:={k:Nat//k<=A.length}) (fun k=>⟨[(3,.ref [.bool lb,.int .i64 sn]),(7,.bx 7 1 0),(36,Cg A),(37,.int .i64 A.length),(38,.int .i64 k.1)],[⟨7,1,.box [.int .i64 (BE xs),.int .i64 1,.int .i64 (QJ (DE ⟨lb,sn⟩ (A.take k.1))).cnt,.osl 60 1,.osl 61 1]⟩,⟨60,1,.row 151 4 32 [dP (QJ (DE ⟨lb,sn⟩ (A.take k.1))).ps]⟩,⟨61,1,.row 98 64 512 ((QJ (DE ⟨lb,sn⟩ (A.take k.1))).lv.map dB)⟩]⟩) (fun k=>A.length-k.1) ⟨0,by omega⟩ (Sub.lit (by simp[DE,QJ,LF])) ?_
 rintro⟨k,hk⟩;simp only
 by_cases qV:k<A.length
 ·obtain⟨x,hx,qA,vO⟩:=Ao qV;have wK:=Ue (s:=⟨lb,sn⟩) hx;have nT:=RV (s:=⟨lb,sn⟩) (A:=A.take k) (n:=BE xs) fun y hy=>zG y (dB0 hy)
  have hq:=(CH_ fun c hc=>by have:=nT c hc;omega).1;have hfw:=rH _ (DE ⟨lb,sn⟩ (A.take k)) rfl;have bT:=RW ⟨lb,sn⟩ (A.take k);rw[bA0]at bT;obtain⟨x1,x2,x3,x4⟩:=zG x vO;have wk:IntKind.i64.wrap ((k:Int)+1)=(k:Int)+1:=wq;obtain⟨fr,⟨xl,xn⟩,to⟩:=x;simp only at x1 x2 x3 x4 wK
  by_cases hs:(⟨xl,xn⟩:Sym)=⟨lb,sn⟩
  ·rw[if_pos hs]at wK;have zP:=QI (DE ⟨lb,sn⟩ (A.take k)) (fr.toNat,to.toNat);rw[<-wK]at zP;simp only at zP;obtain⟨i,rfl⟩:∃i:Nat,fr=i:=⟨fr.toNat,by omega⟩;obtain⟨j,rfl⟩:∃j:Nat,to=j:=⟨to.toNat,by omega⟩;simp only[dE0]at x2 x4 zP;obtain⟨Q,hQ⟩:∃Q,Q=QJ (DE ⟨lb,sn⟩ (A.take k)):=⟨_,rfl⟩;rw[<-hQ]at hq hfw zP |-;have e5:=xW (BE xs) Q hq i j h2 x2 x4 (by omega) (by omega);rw[<-zP]at e5;obtain⟨R,hR⟩:∃R,R=QJ (DE ⟨lb,sn⟩ (A.take (k+1))):=⟨_,rfl⟩
   rw[<-hR]at e5;simp only[dQ]at e5;simp only[Sym.mk.injEq]at hs;obtain⟨rfl,rfl⟩:=hs
   (refine AG Ab (AD (KV [(7,0),(60,1),(61,2)] [] e5)) (Jh @AW.eq_1 qV hx qA wk) ?_;intros;refine Ah ?_)
   refine Aj.mk ⟨k+1,by omega⟩ (Sub.lit (by simp[<-hR,wk])) (by simp;omega)
   skip
  ·rw[if_neg hs,bO0]at wK
   have hsb:(xl==lb&&xn==sn)=false:=by
    rw[dQ0];intro hh;simp only[aJ0,beq_iff_eq]at hh;exact hs (by rw[hh.1,hh.2])
   (refine AG Ab Ab (GN @AW.eq_1 qV hx qA wk hsb) ?_;intros;refine Ah ?_)
   refine Aj.mk ⟨k+1,by omega⟩ (Sub.lit (by simp[wK,wk])) (by simp;omega)
   skip
 ·have qZ:k=A.length:=by omega
  subst qZ;simp only[aW0];exact Av Ab Ab (AD @NY.eq_1)
end Go.Proofs.Wy
end
section
namespace Go.Proofs.Wy
open Go Go.Dm Tryz
variable [DMode]
theorem Qe : ∀{l:List Nat},(∀x∈l,x=0)->l.sum=0
 | [],_=>rfl
 | x::l,h=>by rw[dG0,h x aI0,Qe fun y hy=>h y (aG0 _ hy)]
theorem Cc_ {α:Type} [DecidableEq α] (k:Nat) (a:α):∀(l:List α),l.Nodup->(l.map fun s=>if a=s then k else 0).sum<=k
 | [],_=>by simp
 | b::l,h=>by
  obtain⟨h1,h2⟩:=cP0.1 h;have ih:=Cc_ k a l h2;rw[List.map_cons,dG0]
  split
  ·rename_i e;subst e
   have hz:(l.map fun s=>if a=s then k else 0).sum=0:=by
    refine Qe fun x hx=> ?_
    obtain⟨s,hs,rfl⟩:=aT0.1 hx;have qF:¬a=s:=fun e=>h1 (by rw[e];exact hs)
    rw[if_neg qF]
   omega
  ·omega
theorem UH {α:Type} (f g:α->Nat):∀l:List α,(l.map fun s=>f s+g s).sum=(l.map f).sum+(l.map g).sum
 | []=>rfl
 | a::l=>by
  rw[List.map_cons,List.map_cons,List.map_cons,dG0,dG0,dG0,UH f g l];omega
theorem Tw : ∀(g:List Rul) (hs:List ByteArray),hs.Nodup->(hs.map fun s=>BZ (HE g s)).sum<=CJ g
 | [],hs,_=>by
  have:(hs.map fun s=>BZ (HE [] s)).sum=0:=by
   refine Qe fun x hx=> ?_
   obtain⟨s,_,rfl⟩:=aT0.1 hx;rfl
  omega
 | r::g,hs,h=>by
  have ih:=Tw g hs h
  have h1:∀s,BZ (HE (r::g) s)=(if r.h=s then FS r.b else 0)+BZ (HE g s):=by
   intro s
   by_cases hr:r.h=s<;>simp[HE,BZ,hr]
  have h2:CJ (r::g)=FS r.b+CJ g:=by simp[CJ]
  have h3:=Cc_ (FS r.b) r.h hs h;simp only[h1];rw[UH];omega
theorem Ce_ {gt:GT} (h:OkgT gt):BE (HD gt)<=80:=by
 have h1:=Tw (Be gt) _ (MC (Be gt))
 have h2:BE (HD gt)=((Ax (Be gt)).map fun s=>BZ (HE (Be gt) s)+1).sum:=by
  unfold BE HD;rw[bY0]
  congr 1
  refine cA0 fun s _=> ?_
  show ((BT (Sy gt s)).length+1:Int).toNat=_
  rw[Sb,Gq];omega
 have h3:∀l:List ByteArray,(l.map fun _=>1).sum=l.length:=by
  intro l
  induction l with
  | nil=>rfl
  | cons a l ih=>rw[List.map_cons,dG0,ih,List.length_cons];omega
 rw[h2,UH,h3];have:=h.hd;have:=h.oc;omega
end Go.Proofs.Wy
end
section
namespace Go.Proofs.Wy
open Go Go.Dm Tryz
attribute [local irreducible] DW Bs Bt
set_option maxRecDepth 100000
theorem lS {a:Auto} (h:FG a=true) (s:Sym) (hr:a.arcs.Pairwise fun x y=>EG x y=true):(DE s a.arcs).Nodup:=by
 unfold DE;rw[List.nodup_iff_pairwise_ne,cX0];have h1:(a.arcs.filter fun x=>decide (x.sy=s)).Pairwise fun x y=>EG x y=true:=hr.filter _
 refine List.Pairwise.imp_of_mem ?_ h1;intro x y hx hy bG he;obtain⟨hx1,jP⟩:=cE0.1 hx;obtain⟨hy1,hy2⟩:=cE0.1 hy;have k1:=NI h hx1;have k2:=NI h hy1;simp only[decide_eq_true_eq]at jP hy2;simp only[_root_.Prod.mk.injEq]at he;have e1:x.fr=y.fr:=by omega
 have e2:x.to=y.to:=by omega
 have e3:x.sy=y.sy:=by rw[jP,hy2]
 unfold EG at bG;rw[if_pos e1,if_pos e3]at bG;simp[e2]at bG
theorem YA (s:Sym) (A B:List Arc):DE s (A++B)=DE s A++DE s B:=by unfold DE;rw[cV0,bD0]
theorem FN_ (s:Sym) (f:Nat) (A:List Arc) (hA:∀x∈A,0<=x.fr/\0<=x.to):DE s (A.map (SJ f))=(DE s A).map fun c=>(f+c.1,f+c.2):=by
 unfold DE;rw[List.filter_map,bY0,bY0];have:((fun x:Arc=>decide (x.sy=s))∘SJ f)=fun x=>decide (x.sy=s):=rfl
 rw[this];refine cA0 fun x hx=> ?_
 have:=hA x (cE0.1 hx).1;simp only[Function.comp,SJ,_root_.Prod.mk.injEq];omega
theorem sS (s:Sym):∀(n:Nat) (xs:List Auto),xs.length=n->(∀a∈xs,SmA a)->(∀a∈xs,a.arcs.Pairwise fun x y=>EG x y=true)->(DE s (Ei xs)).Nodup
 | 0,xs,h,_,_=>by
  have:=cZ0.1 h;subst this;exact List.nodup_nil
 | n+1,xs,h,kZ,hr=>by
  rcases List.eq_nil_or_concat xs with rfl | ⟨l,a,rfl⟩
  ·simp at h
  rw[List.concat_eq_append]at h kZ hr |-;have ih:=sS s n l (by simpa using h) (fun b hb=>kZ b (aM0 _ hb)) fun b hb=>hr b (aM0 _ hb)
  have qW:=(kZ a (by simp)).ok;have zG:=fun x (hx:x∈Ei l)=>VY (fun b hb=>kZ b (aM0 _ hb)) hx
  rw[Um,YA,FN_ s _ _ fun x hx=>by have:=NI qW hx;omega];refine bV0.2 ⟨ih,?_,?_⟩
  ·have h5:=lS qW s (hr a (by simp));rw[List.nodup_iff_pairwise_ne]at h5 |-;rw[cX0];refine h5.imp ?_;rintro⟨c1,c2⟩ ⟨d1,d2⟩ qF he;simp only[_root_.Prod.mk.injEq]at he
   apply qF
   simp only[_root_.Prod.mk.injEq];omega
  ·intro c hc d hd he;subst he;obtain⟨e,_,rfl⟩:=aT0.1 hd;have:=(RV zG _ hc).1;simp only at this;omega
theorem Bo_ (gt:GT):∀a∈HD gt,a.arcs.Pairwise fun x y=>EG x y=true:=fun a ha=>by
 unfold HD at ha;obtain⟨s,_,rfl⟩:=aT0.1 ha;have h1:=MX (Hp (Be gt)) (Sy gt s);unfold Dy at h1;exact h1.imp fun h=>by rw[LJ];simpa using h
theorem Cd_ {xs:List Auto} (h:∀a∈xs,SmA a) (hn:xs.length≠0):1<=BE xs:=by
 cases xs with
 | nil=>simp at hn
 | cons a xs =>
  have h3:BE (a::xs)=a.st.toNat+BE xs:=by simp[BE]
  have:=(Xk (h a aI0).ok).1;omega
def Eu_ : Ann:=⟨[],[⟨11,[10],[],[]⟩]⟩
theorem Ay_ (H L:List ByteArray) (xs:List Auto) (s:Sym) (hk:knS H L s=false):Ae prog 9 [DU H L xs,.agg (AM s)] .nilp:=by
 refine Ac [] Eu_ func9 call9 ntmps9 mxd (Au @Eu_.eq_1 results9) rfl (fun qJ B qX qQ=> ?_);clear qJ;simp only[Am];obtain⟨t,e1⟩:=TD H L s;rw[hk,if_neg (by simp)]at e1;have e2:=Hv H L xs;obtain⟨lb,sn⟩:=s;simp only[DU]at e2;simp only[AM]at e1;exact Av (Au e1 e2) Ab (Au @DU.eq_1 @AM.eq_1)
def tN : Ann:=⟨[],[]⟩
theorem XO (g:List Rul) (s:Sym) (hn:((AI 3 g).length+1)*16<=150000000000000):Ae prog 10 [Ar g,.agg (AM s)] (.bool (knS (Ax g) (Ay g) s)):=by
 have e1:=DK g;have e2:=Gk g hn;obtain⟨H,hH⟩:∃H,H=Ax g:=⟨_,rfl⟩;obtain⟨L,hL⟩:∃L,L=Ay g:=⟨_,rfl⟩;rw[<-hH]at e1 |-;rw[<-hL]at e2 |-;clear hH hL;obtain⟨lb,n⟩:=s;unfold knS;refine Ac [] tN func10 call10 ntmps10 mxd (Au @tN.eq_1 results10) rfl (fun qJ B qX qQ=> ?_);clear qJ;simp only[Am]
 by_cases h0:0<=n
 ·cases lb
  ·
   exact Av (Au e1 e2) Ab (Au @AM.eq_1 h0)
  ·
   exact Av (Au e1 e2) Ab (Au @AM.eq_1 h0)
 ·cases lb
  ·
   exact Av (Au e1 e2) Ab (Au @AM.eq_1 h0)
  ·
   exact Av (Au e1 e2) Ab (Au @AM.eq_1 h0)
theorem DY_ {s:Sym} {A:List Arc} {x:Arc} (hx:x∈A) (hs:x.sy=s):(x.fr.toNat,x.to.toNat)∈DE s A:=by
 unfold DE;exact aT0.2 ⟨x,cE0.2 ⟨hx,by simpa using hs⟩,rfl⟩
def KG : Ann:=⟨[],[⟨4,[7],[],[]⟩]⟩
theorem SB (gt:GT) (h:OkgT gt) (hs:EJ (Be gt)) (p1:Ae prog 49 [Ar (Be gt)] (.int .i64 0)) (p2:Ae prog 28 [Ar (Be gt)] (.int .i64 0)) (s:Sym) (hk:knS (Ax (Be gt)) (Ay (Be gt)) s=true) :
  Ae prog 3 [Ar (Be gt),.agg (AM s)] (.bool true):=by
 have nI:=Ea gt;have yW:=h.le;have cZ:=DN (k:=3) hs;have e1:=JH gt h hs p1 p2;have e2:=Ot gt h hs;have kZ:=sW h;have cG:=Si gt;have hhd:=h.hd;have h80:=Ce_ h;have gP:=Bo_ gt
 have qC:(Ax (Be gt)).length≠0:=by
  intro h0;have h1:=cZ0.1 h0;unfold knS at hk
  obtain⟨p,hp⟩:∃p,p∈Be gt:=by
   have:(Be gt).length≠0:=by rw[nI];have:=h.one;omega
   cases hm:Be gt with
   | nil=>rw[hm]at this;simp at this
   | cons p r=>exact⟨p,by simp⟩
  have:=LA.2 ⟨p,hp,rfl⟩;rw[h1]at this;cases this
 have e8:=XO (Be gt) s (by omega);rw[hk]at e8;obtain⟨A,hA⟩:∃A,A=HD gt:=⟨_,rfl⟩;rw[<-hA]at e1 e2 kZ cG h80;simp only[<-hA]at gP;have zR:=Cd_ kZ (by omega);have e3:=Ax_ (Ax (Be gt)) (Ay (Be gt)) A kZ (by omega) zR (by omega) s hk;have zG:=fun x (hx:x∈Ei A)=>VY kZ hx
 have hnd:=sS s _ A rfl kZ gP;have nT:=RV (s:=s) zG;obtain⟨q1,q2,q3⟩:=CH_ (l:=DE s (Ei A)) fun c hc=>by have:=nT c hc;omega
 have bT:=RW s (Ei A)
 have hal2:(Ei A).length<=1073741888*16:=by
  have:=MY kZ 0;unfold Ei;omega
 replace q3:=q3 hnd
 have e4:=xO (BE A) (QJ (DE s (Ei A))) (by omega);have e5:=Dd_ (BE A) (QJ (DE s (Ei A))) (by omega);have e6:=fun i j hi hj=>XX (BE A) _ q1 i j (by omega) hi hj
 rw[q3]at e5;have hhas:=fun x (hx:x∈Ei A) (hs:x.sy=s)=>DY_ hx hs
 unfold DU at e1 e3;unfold xT at e2;unfold NY at e3 e4 e5 e6;obtain⟨Q,hQ⟩:∃Q,Q=QJ (DE s (Ei A)):=⟨_,rfl⟩;rw[<-hQ]at e3 e4 e5 q2 q3;simp only[<-hQ]at e6;obtain⟨Z,hZ⟩:∃Z,Z=Ei A:=⟨_,rfl⟩;rw[<-hZ]at e2 e5 q2 q3 bT hal2;simp only[<-hZ]at zG hhas;obtain⟨lb,sn⟩:=s;simp only[AM]at e3 e8;refine Ac [] KG func3 call3 ntmps3 mxd (Au @KG.eq_1 results3) rfl (fun qJ B qX qQ=> ?_);clear qJ;simp only[Am]
 (refine AG (Jh e1 e2 e3 e8 e4) Ab (AD @AM.eq_1) ?_;intros;refine Ah ?_)
 refine Ai (X:={k:Nat//k<=Z.length}) (fun k=>⟨[(3,.ref [.bool lb,.int .i64 sn]),(7,.ref [.int .i64 (BE A),Cz (oP A),Cz (ntL A),FM (Rt A),Cg Z,lH A]),(8,.ref [.int .i64 (BE A),.int .i64 1,.int .i64 Q.cnt,.sl 4 32 [dP Q.ps],.sl 64 512 (Q.lv.map dB)]),(9,.int .i64 (DE ⟨lb,sn⟩ (Z.take k.1)).length),(10,.int .i64 k.1)],[]⟩) (fun k=>Z.length-k.1) ⟨0,by omega⟩ (Sub.lit (by simp[DE])) ?_;rintro⟨k,wR⟩;simp only
 by_cases qV:k<Z.length
 ·obtain⟨x,hx,qA,vO⟩:=Ao qV;have wK:=Ue (s:=⟨lb,sn⟩) hx;have pQ:=RW ⟨lb,sn⟩ (Z.take k);rw[bA0]at pQ;obtain⟨x1,x2,x3,x4⟩:=zG x vO;have hh:=hhas x vO;have wk:IntKind.i64.wrap ((k:Int)+1)=(k:Int)+1:=wq;obtain⟨fr,⟨xl,xn⟩,to⟩:=x;simp only at x1 x2 x3 x4 wK hh;obtain⟨C,hC⟩:∃C,C=DE ⟨lb,sn⟩ (Z.take k):=⟨_,rfl⟩;rw[<-hC]at wK pQ |-;have wc:IntKind.i64.wrap ((C.length:Int)+1)=(C.length:Int)+1:=wq
  by_cases kO:(⟨xl,xn⟩:Sym)=⟨lb,sn⟩
  ·rw[if_pos kO]at wK;have hh:=hh kO;obtain⟨i,rfl⟩:∃i:Nat,fr=i:=⟨fr.toNat,by omega⟩;obtain⟨j,rfl⟩:∃j:Nat,to=j:=⟨to.toNat,by omega⟩;simp only[dE0]at x2 x4 hh wK;have e7:=e6 i j x2 x4;rw[q2 i j (by omega) (by omega),hZ,decide_eq_true (by rw[<-hZ];exact hh)]at e7;simp only[Sym.mk.injEq]at kO;obtain⟨rfl,rfl⟩:=kO
   (refine AG (AD e7) Ab (GN @AW.eq_1 qV hx qA wk wc) ?_;intros;refine Ah ?_)
   refine Aj.mk ⟨k+1,by omega⟩ (Sub.lit (by simp[wK,wk,wc])) (by simp;omega)
   skip
  ·rw[if_neg kO,bO0]at wK
   have hsb:(xl==lb&&xn==sn)=false:=by
    rw[dQ0];intro hh;simp only[aJ0,beq_iff_eq]at hh;exact kO (by rw[hh.1,hh.2])
   (refine AG Ab Ab (GN @AW.eq_1 qV hx qA wk hsb) ?_;intros;refine Ah ?_)
   refine Aj.mk ⟨k+1,by omega⟩ (Sub.lit (by simp[wK,wk])) (by simp;omega)
   skip
 ·have qZ:k=Z.length:=by omega
  subst qZ;simp only[aW0];exact Av (AD e5) Ab Ab
theorem UO (gt:GT) (h:OkgT gt) (hs:EJ (Be gt)) (p1:Ae prog 49 [Ar (Be gt)] (.int .i64 0)) (p2:Ae prog 28 [Ar (Be gt)] (.int .i64 0)) (s:Sym) (hk:knS (Ax (Be gt)) (Ay (Be gt)) s=false) :
  Ae prog 3 [Ar (Be gt),.agg (AM s)] (.bool true):=by
 have nI:=Ea gt;have yW:=h.le;have cZ:=DN (k:=3) hs;have e1:=JH gt h hs p1 p2;have e2:=Ot gt h hs;have e8:=XO (Be gt) s (by omega);rw[hk]at e8;have e3:=Ay_ (Ax (Be gt)) (Ay (Be gt)) (HD gt) s hk;obtain⟨A,hA⟩:∃A,A=HD gt:=⟨_,rfl⟩;rw[<-hA]at e1 e2 e3;unfold DU at e1 e3;unfold xT at e2;obtain⟨lb,sn⟩:=s;simp only[AM]at e3 e8;refine Ac [] KG func3 call3 ntmps3 mxd (Au @KG.eq_1 results3) rfl (fun qJ B qX qQ=> ?_)
 clear qJ;simp only[Am];exact Av (GV e1 e2 e3 e8) Ab (AD @AM.eq_1)
theorem Qm (g:List Rul) (s:Sym) (hs:EJ g) (hl:g.length*40<=140737488355328):Ae prog 3 [Ar g,.agg (AM s)] (.bool true):=by
 obtain⟨c,p1,p2,p3⟩:=HZ_ g hs
 by_cases hc:c=0
 ·obtain⟨gt,rfl,h⟩:=p3 hc;subst hc
  cases hk:knS (Ax (Be gt)) (Ay (Be gt)) s with
  | true=>exact SB gt h hs p1 p2 s hk
  | false=>exact UO gt h hs p1 p2 s hk
 ·have e1:=SN g c hs hl hc p1 p2;refine Ac [] KG func3 call3 ntmps3 mxd (Au @KG.eq_1 results3) rfl (fun qJ B qX qQ=> ?_);clear qJ;simp only[Am];exact Av (AD e1) Ab (AD @AM.eq_1)
end Go.Proofs.Wy
end
