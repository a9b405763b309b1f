/- Parts of a proof, laid together: RS6, RS7, RS8, W97, WO, W98, W44, W47, W96, CF0, EnZ, CF1, W18, W100, WS, W58, W29, CF2, W88, W90, W43, W94, W25, WF, W57, W26, W19, W14, W81, W13, W45, W7, W23, W9, W89. -/
import Derived.Test.YtchgnpnbcjflcaaGreatqCr4
import Derived.Test.YtchgnpnbcjflcaaGreatqCr5
import Derived.Test.YtchgnpnbcjflcaaGreatqCr6
import Derived.Test.YtchgnpnbcjflcaaGreatqCr10
set_option linter.unusedSimpArgs false
set_option maxHeartbeats 8000000
set_option linter.unusedVariables false
set_option linter.unusedSectionVars false
section
namespace Go.Proofs.Wy
open Go Go.Dm Tryz
attribute [local irreducible] DW Bs Bv
set_option maxRecDepth 100000
def DN_ : Ann:=⟨[],[]⟩
theorem Eh (H L:List ByteArray) (xs:List Auto):Ac prog 113 [Eb H L xs] (.bool true):=by
 refine Ab [] DN_ func113 call113 ntmps113 mxd (Ap @DN_.eq_1 results113) rfl (fun qJ B qX qQ=> ?_);clear qJ;simp only[Ak,Eb];exact Al Aa Aa Aa
def Jw_ : Ann:=⟨[],[]⟩
theorem XI (H L:List ByteArray) (xs:List Auto):Ac prog 36 [Eb H L xs] (.int .i64 (AQ xs)):=by
 refine Ab [] Jw_ func36 call36 ntmps36 mxd (Ap @Jw_.eq_1 results36) rfl (fun qJ B qX qQ=> ?_);clear qJ;have e1:=Eh H L xs;simp only[Ak,Eb]at e1 |-;exact Al (Aq e1) Aa Aa
def Jv_ : Ann:=⟨[],[]⟩
theorem XX (H L:List ByteArray) (xs:List Auto):Ac prog 37 [Eb H L xs] (AJ H):=by
 refine Ab [] Jv_ func37 call37 ntmps37 mxd (Ap @Jv_.eq_1 results37) rfl (fun qJ B qX qQ=> ?_);clear qJ;have e1:=Eh H L xs;have e2:=Lc H L;simp only[Ak,Eb]at e1 |-;exact Al (Ap e1 e2) Aa Aa
def RS (P:List (Auto×Nat)):List Int:=P.flatMap fun p=>XV p.2 p.1.fin
def Sf (P:List (Auto×Nat)):List Arc:=P.flatMap fun p=>XW p.2 p.1.arcs
theorem LT_ {P:List (Auto×Nat)} {i:Nat} {p:Auto×Nat} (h:P[i]? =some p):RS (P.take (i+1))=RS (P.take i)++XV p.2 p.1.fin:=by
 unfold RS;rw[bD0,h,dT0];simp
theorem Mv_ {P:List (Auto×Nat)} {i:Nat} {p:Auto×Nat} (h:P[i]? =some p):Sf (P.take (i+1))=Sf (P.take i)++XW p.2 p.1.arcs:=by
 unfold Sf;rw[bD0,h,dT0];simp
theorem Bv_ : ∀{P:List (Auto×Nat)},(∀p∈P,SmA p.1)->(RS P).length<=65*P.length
 | [],_=>by simp[RS]
 | p::P,h=>by
  have h1:=(h p aF0).fi;have h2:=Bv_ (P:=P) fun x hx=>h x (aE0 _ hx)
  have h3:RS (p::P)=XV p.2 p.1.fin++RS P:=by simp[RS]
  rw[h3,aC0,List.length_cons];unfold XV;rw[aJ0];omega
theorem Cd_ : ∀{P:List (Auto×Nat)},(∀p∈P,SmA p.1)->(Sf P).length<=1073741888*P.length
 | [],_=>by simp[Sf]
 | p::P,h=>by
  have h1:=(h p aF0).ar;have h2:=Cd_ (P:=P) fun x hx=>h x (aE0 _ hx)
  have h3:Sf (p::P)=XW p.2 p.1.arcs++Sf P:=by simp[Sf]
  rw[h3,aC0,List.length_cons];unfold XW;rw[aJ0];omega
theorem Pq_ (xs:List Auto):RS (Cu 0 xs)=GH xs:=rfl
theorem PW_ (xs:List Auto):Sf (Cu 0 xs)=Gn xs:=rfl
theorem It : ∀{xs:List Auto} {f:Nat} {p:Auto×Nat},p∈Cu f xs->p.1∈xs/\p.2<=f+AQ xs
 | [],_,_,h=>by simp[Cu]at h
 | a::xs,f,p,h=>by
  have h3:AQ (a::xs)=a.st.toNat+AQ xs:=by simp[AQ]
  rw[Cu]at h
  rcases aL0.1 h with rfl | h
  ·exact⟨aF0,by simp only;omega⟩
  ·have:=It h;exact⟨aE0 _ this.1,by omega⟩
theorem Ud_ {a b:Nat} (h1:a<=17179870208) (h2:b<=1073741888):(a+b)*32<=150000000000000:=by omega
def Nf : Ann:=⟨[],[⟨5,[7],[],[]⟩]⟩
theorem GO_ (H L:List ByteArray) (xs:List Auto) (h:∀a∈xs,SmA a) (hl:xs.length<=16):Ac prog 118 [Eb H L xs,.fn (.func 119) [] []] (Cz (Gn xs)):=by
 refine Ab [50] Nf func118 call118 ntmps118 mxd (Ap @Nf.eq_1 results118) rfl (fun qJ B qX qQ=> ?_);clear qJ;have e1:=Eh H L xs;have hsl:=Jm (l:=xs) fun a ha=>(h a ha).ok
 have gR:AQ xs<=1040:=Nat.le_trans hsl (bY0 65 hl);have yJ:=Iu xs 0
 have hP:∀p∈Cu 0 xs,SmA p.1/\p.2<=1040:=fun p hp=>by
  have:=It hp;exact⟨h _ this.1,by omega⟩
 rw[<-PW_];simp only[Ak,Eb]at e1 |-;obtain⟨P,hPP⟩:∃P,P=Cu 0 xs:=⟨_,rfl⟩;rw[<-hPP]at e1 hP yJ |-;clear hPP hsl h
 iterate 6 ((first | refine AI fun K hK=> ?_ | (refine BR Nf mxd (by kernel_rfl) ?_;simp[Nf,qX];try simp (disch:=omega) only[Ao]) | refine Aw ?_ | (refine Bb ?_ ?_ ?_;(· (simp[qX];done));(try (rotate_left;(· (intro hc;(try simp[qX]at hc);done))))) | (refine AK ?_;simp[results118,qX]) | ((first | refine AD ?_ | refine AC ?_);simp[qX]) | (intro hc;(try simp[qX]at hc);(try (exfalso;omega))) | (refine⟨?_,?_⟩; · omega) | omega | apply_assumption -exfalso -symm | (exfalso;omega)))
 refine Bk 5 50 97 4 32 (by simp[qX,results118,Nf]) (fun n=> ?_)
 (refine Au (Aq e1) Aa Aa ?_;intros;refine Ae ?_)
 refine Af (X:={i:Nat//i<=P.length}) (fun i=>⟨[(1,.fn (.func 119) [] []),(5,.osl 50 1),(13,GU_ P),(14,.int .i64 P.length),(15,.int .i64 i.1)],[⟨50,1,.row 97 4 32 ((Sf (P.take i.1)).map Bm)⟩]⟩) (fun i=>P.length-i.1) ⟨0,by simp⟩ (Sub.lit (by simp[Sf])) ?_;rintro⟨i,hi⟩;simp only
 by_cases qV:i<P.length
 ·obtain⟨p,hp,qI,vK⟩:=Ai qV;obtain⟨k1,k2⟩:=hP p vK;obtain⟨a,f⟩:=p;have e2:=XU a f k1 k2;have vE:=congrArg (List.map Bm) (Mv_ hp);rw[aX0]at vE;have har:a.arcs.length<=1073741888:=k1.ar;have yC:(XW f a.arcs).length=a.arcs.length:=by unfold XW;rw[aJ0]
  have kM:=Cd_ (P:=P.take i) fun x hx=>(hP x (cK0 hx)).1
  have h16:(P.take i).length<=16:=by rw[aT0];omega
  have rB:(Sf (P.take i)).length<=17179870208:=Nat.le_trans kM (bY0 1073741888 h16);clear kM;obtain⟨T,hT⟩:∃T,T=Sf (P.take i):=⟨_,rfl⟩;rw[<-hT]at vE rB |-;obtain⟨V,hV⟩:∃V,V=XW f a.arcs:=⟨_,rfl⟩;simp only at vE;rw[<-hV]at e2 vE yC;have hb:(T.length+V.length)*32<=150000000000000:=Ud_ rB (by omega);have vJ:IntKind.i64.wrap ((i:Int)+1)=(i:Int)+1:=wq;simp only[XB]at e2;clear hP k1 k2 yJ hT hV
  (refine Au (Aq e2) Aa (EB @XB.eq_1 qV hp qI hb vJ) ?_;intros;refine Ae ?_)
  refine Ag.mk ⟨i+1,by omega⟩ (Sub.lit (by simp[vE])) (by simp;omega)
  skip
 ·have qY:i=P.length:=by omega
  subst qY;rw[aN0];exact Al Aa Aa Aa
def Ng : Ann:=⟨[],[⟨5,[7],[],[]⟩]⟩
theorem GN_ (H L:List ByteArray) (xs:List Auto) (h:∀a∈xs,SmA a) (hl:xs.length<=16):Ac prog 116 [Eb H L xs,.fn (.func 117) [] []] (BD (GH xs)):=by
 refine Ab [50] Ng func116 call116 ntmps116 mxd (Ap @Ng.eq_1 results116) rfl (fun qJ B qX qQ=> ?_);clear qJ;have e1:=Eh H L xs;have hsl:=Jm (l:=xs) fun a ha=>(h a ha).ok
 have gR:AQ xs<=1040:=Nat.le_trans hsl (bY0 65 hl);have yJ:=Iu xs 0
 have hP:∀p∈Cu 0 xs,SmA p.1/\p.2<=1040:=fun p hp=>by
  have:=It hp;exact⟨h _ this.1,by omega⟩
 rw[<-Pq_];simp only[Ak,Eb]at e1 |-;obtain⟨P,hPP⟩:∃P,P=Cu 0 xs:=⟨_,rfl⟩;rw[<-hPP]at e1 hP yJ |-;clear hPP hsl h
 iterate 6 ((first | refine AI fun K hK=> ?_ | (refine BR Ng mxd (by kernel_rfl) ?_;simp[Ng,qX];try simp (disch:=omega) only[Ao]) | refine Aw ?_ | (refine Bb ?_ ?_ ?_;(· (simp[qX];done));(try (rotate_left;(· (intro hc;(try simp[qX]at hc);done))))) | (refine AK ?_;simp[results116,qX]) | ((first | refine AD ?_ | refine AC ?_);simp[qX]) | (intro hc;(try simp[qX]at hc);(try (exfalso;omega))) | (refine⟨?_,?_⟩; · omega) | omega | apply_assumption -exfalso -symm | (exfalso;omega)))
 refine Bk 5 50 3 1 8 (by simp[qX,results116,Ng]) (fun n=> ?_)
 (refine Au (Aq e1) Aa Aa ?_;intros;refine Ae ?_)
 refine Af (X:={i:Nat//i<=P.length}) (fun i=>⟨[(1,.fn (.func 117) [] []),(5,.osl 50 1),(13,GU_ P),(14,.int .i64 P.length),(15,.int .i64 i.1)],[⟨50,1,.row 3 1 8 ((RS (P.take i.1)).map Du)⟩]⟩) (fun i=>P.length-i.1) ⟨0,by simp⟩ (Sub.lit (by simp[RS])) ?_;rintro⟨i,hi⟩;simp only
 by_cases qV:i<P.length
 ·obtain⟨p,hp,qI,vK⟩:=Ai qV;obtain⟨k1,k2⟩:=hP p vK;obtain⟨a,f⟩:=p;have e2:=oF a f k1 k2;have vE:=congrArg (List.map Du) (LT_ hp);rw[aX0]at vE;have har:a.fin.length<=65:=k1.fi;have yC:(XV f a.fin).length=a.fin.length:=by unfold XV;rw[aJ0]
  have kM:=Bv_ (P:=P.take i) fun x hx=>(hP x (cK0 hx)).1
  have h16:(P.take i).length<=16:=by rw[aT0];omega
  have rB:(RS (P.take i)).length<=1040:=Nat.le_trans kM (bY0 65 h16);clear kM;obtain⟨T,hT⟩:∃T,T=RS (P.take i):=⟨_,rfl⟩;rw[<-hT]at vE rB |-;obtain⟨V,hV⟩:∃V,V=XV f a.fin:=⟨_,rfl⟩;simp only at vE;rw[<-hV]at e2 vE yC;have hb:(T.length+V.length)*8<=150000000000000:=by omega
  have vJ:IntKind.i64.wrap ((i:Int)+1)=(i:Int)+1:=wq;simp only[XB]at e2;clear hP k1 k2 yJ hT hV
  (refine Au (Aq e2) Aa (EB @XB.eq_1 qV hp qI hb vJ) ?_;intros;refine Ae ?_)
  refine Ag.mk ⟨i+1,by omega⟩ (Sub.lit (by simp[vE])) (by simp;omega)
  skip
 ·have qY:i=P.length:=by omega
  subst qY;rw[aN0];exact Al Aa Aa Aa
def Ju_ : Ann:=⟨[],[]⟩
theorem Vu (H L:List ByteArray) (xs:List Auto) (h:∀a∈xs,SmA a) (hl:xs.length<=16):Ac prog 40 [Eb H L xs] (BD (GH xs)):=by
 refine Ab [] Ju_ func40 call40 ntmps40 mxd (Ap @Ju_.eq_1 results40) rfl (fun qJ B qX qQ=> ?_);clear qJ;have e1:=GN_ H L xs h hl;simp only[Ak,Eb]at e1 |-;exact Al (Aq e1) Aa Aa
def Jt_ : Ann:=⟨[],[]⟩
theorem lE (H L:List ByteArray) (xs:List Auto) (h:∀a∈xs,SmA a) (hl:xs.length<=16):Ac prog 41 [Eb H L xs] (Cz (Gn xs)):=by
 refine Ab [] Jt_ func41 call41 ntmps41 mxd (Ap @Jt_.eq_1 results41) rfl (fun qJ B qX qQ=> ?_);clear qJ;have e1:=GO_ H L xs h hl;simp only[Ak,Eb]at e1 |-;exact Al (Aq e1) Aa Aa
theorem TU_ (g:List Rul) (hs:Fl g):∃c:Int,Ac prog 76 [Az g] (.int .i64 c)/\Ac prog 13 [Az g] (.int .i64 c)/\(c=0->∃gt,g=Bd gt/\OkgT gt):=by
 by_cases h:g.length<1\/64<g.length
 ·exact⟨180,Yj g h,Va g h,by omega⟩
 ·cases ht:Gv g with
  | false=>exact⟨170,BP_ g (by omega) (by omega) hs ht,iC g (by omega) (by omega) hs ht,by omega⟩
  | true =>
   obtain⟨gt,rfl,hk⟩:=uP ht;have hl:=FV gt;exact⟨Qo gt,GZ_ gt (by omega) (by omega) hk hs,Ac_ gt (by omega) (by omega) hk hs,fun h0=>⟨gt,rfl,QV_ hk (by omega) (by omega) h0⟩⟩
theorem LH_ {l:List Int} {s x:Int} {k:Nat} (hx:l[k]? =some x) (hb:(s==x)=false) (wE:∀i x,i<k->l[i]? =some x->(s==x)=false):∀i x,i<k+1->l[i]? =some x->(s==x)=false:=by
 intro i y hi hy
 by_cases fP:i=k
 ·subst fP;rw[hx]at hy;simp only[aA0]at hy;subst hy;exact hb
 ·exact wE i y (by omega) hy
def DL_ : Ann:=⟨[],[]⟩
theorem FD_ (l:List Int) (s:Int):Ac prog 137 [BD l,.int .i64 s] (.bool (decide (s∈l))):=by
 refine Ab [] DL_ func137 call137 ntmps137 mxd (Ap @DL_.eq_1 results137) rfl (fun qJ B qX qQ=> ?_);have qZ:=OI_ qJ.1;clear qJ;simp only[Ak]
 (refine Au Aa Aa Aa ?_;intros;refine Ae ?_)
 refine Af (X:={k:Nat//k<=l.length/\∀i x,i<k->l[i]? =some x->(s==x)=false}) (fun x=>⟨[(0,BD l),(1,.int .i64 s),(5,.int .i64 x.1)],[]⟩) (fun x=>l.length-x.1) ⟨0,by simp⟩ (Sub.lit (by simp)) ?_;rintro⟨k,hk,wE⟩
 by_cases qV:k<l.length
 ·obtain⟨x,hx,qU,wA⟩:=Ai qV;cases hb:s==x
  ·have qP:(x==s)=false:=by
    have hh:¬s=x:=by simpa using hb
    simpa using fun e:x=s=>hh e.symm
   have cQ:¬x=s:=by simpa using qP
   have zC:IntKind.i64.wrap ((k:Int)+1)=(k:Int)+1:=wq
   (refine Au Aa Aa (Ez @Du.eq_1 qV qU hx qP cQ zC) ?_;intros;refine Ae ?_)
   refine Ag.mk ⟨k+1,by omega,LH_ hx hb wE⟩ (Sub.lit (by simp[])) (by simp;omega)
   skip
  ·have he:s=x:=by simpa using hb
   subst he;have hm:decide (s∈l)=true:=by simpa using wA
   exact Al Aa Aa (Dx @Du.eq_1 qV qU hx hm)
 ·have qY:k=l.length:=by omega
  subst qY
  have hm:decide (s∈l)=false:=by
   simp only[decide_eq_false_iff_not];intro hh;obtain⟨i,hi,rfl⟩:=bJ0 hh;have:=wE i _ hi (aD0 hi);simp at this
  exact Al Aa Aa (Aq hm)
def atI (l:List Nat) (n:Int):Int:=if 0<=n/\n<l.length then (l.getD n.toNat 0:Int)else -1
theorem Xg {l:List Nat} {k x:Nat} (h:l[k]? =some x):atI l k=x:=by
 have hk:=(aB0.1 h).1;unfold atI;rw[if_pos ⟨by omega,by omega⟩,cI0,aZ0,h];rfl
theorem Qz {l:List Nat} {n:Int} (h:¬(0<=n/\n<l.length)):atI l n= -1:=by unfold atI;rw[if_neg h]
def Jr_ : Ann:=⟨[],[]⟩
theorem aX (H L:List ByteArray) (xs:List Auto) (n:Int):Ac prog 39 [Eb H L xs,.int .i64 n] (.int .i64 (atI (JE xs) n)):=by
 refine Ab [] Jr_ func39 call39 ntmps39 mxd (Ap @Jr_.eq_1 results39) rfl (fun qJ B qX qQ=> ?_);clear qJ;have e1:=Eh H L xs;simp only[Ak,Eb]at e1 |-;have hl:(JE xs).length=(Cu 0 xs).length:=by rw[TH,Iu]
 have qD:∀(k:Nat) (p:Auto×Nat),(Cu 0 xs)[k]? =some p->(JE xs)[k]? =some p.2:=fun k p h=>by unfold JE;rw[bK0,h];rfl
 obtain⟨S,hS⟩:∃S,S=JE xs:=⟨_,rfl⟩;rw[<-hS]at hl qD |-;obtain⟨P,hP⟩:∃P,P=Cu 0 xs:=⟨_,rfl⟩;rw[<-hP]at e1 hl qD |-;clear hS hP
 by_cases h0:n<0
 ·rw[Qz (by omega)];exact Al (Aq e1) Aa (Aq h0)
 ·by_cases h1:n<P.length
  ·obtain⟨k,rfl⟩:∃k:Nat,n=(k:Int):=⟨n.toNat,by omega⟩;have qV:k<P.length:=by omega
   obtain⟨p,hx,qU,wA⟩:=Ai qV;rw[Xg (qD k p hx)];have h2:¬(P.length:Int)<=(k:Int):=by omega
   exact Al (Aq e1) Aa (Ez @XB.eq_1 h0 h1 h2 qV hx qU)
  ·rw[Qz (by omega)];have h2:(P.length:Int)<=n:=by omega
   exact Al (Aq e1) Aa (BC h0 h1 h2)
def DM_ : Ann:=⟨[],[]⟩
theorem Gc_ (n:Int) (p:Auto×Nat) (h:SmA p.1) (hf:p.2<=1040):Ac prog 115 [.agg (XB p),.ref [.int .i64 n]] (.bool (decide (n<(p.2:Int)+p.1.st))):=by
 refine Ab [] DM_ func115 call115 ntmps115 mxd (Ap @DM_.eq_1 results115) rfl (fun qJ B qX qQ=> ?_);clear qJ;have qD:=Ms h.ok;have hw:IntKind.i64.wrap ((p.2:Int)+p.1.st)=(p.2:Int)+p.1.st:=wq;simp only[Ak];exact Al Aa Aa (Ap @XB.eq_1 hw)
def ntQ (n:Int) (p:Auto×Nat):Bool:=decide (n<(p.2:Int)+p.1.st)
def QS : Ann:=⟨[],[]⟩
theorem Gb_ (n:Int) (P:List (Auto×Nat)) (hP:∀p∈P,SmA p.1/\p.2<=1040) (hl:P.length<=16):Ac prog 114 [GU_ P,.fn (.func 115) [] [.ref [.int .i64 n]]] (.int .i64 (if P.any (ntQ n)then ((P.findIdx (ntQ n):Nat):Int)else -1)):=by
 refine Ab [] QS func114 call114 ntmps114 mxd (Ap @QS.eq_1 results114) rfl (fun qJ B qX qQ=> ?_);clear qJ;simp only[Ak]
 (refine Au Aa Aa Aa ?_;intros;refine Ae ?_)
 refine Af (X:={k:Nat//k<=P.length/\∀i x,i<k->P[i]? =some x->ntQ n x=false}) (fun x=>⟨[(0,GU_ P),(1,.fn (.func 115) [] [.ref [.int .i64 n]]),(7,.int .i64 P.length),(8,.int .i64 x.1)],[]⟩) (fun x=>P.length-x.1) ⟨0,by simp⟩ (Sub.lit (by simp)) ?_;rintro⟨k,hk,wE⟩
 by_cases qV:k<P.length
 ·obtain⟨x,hx,qU,wA⟩:=Ai qV;have yD:Ac prog 115 [.agg (XB x),.ref [.int .i64 n]] (.bool (ntQ n x)):=Gc_ n x (hP x wA).1 (hP x wA).2;simp only[XB]at yD;clear hP;cases hb:ntQ n x
  ·rw[hb]at yD
   have jL:∀i y,i<k+1->P[i]? =some y->ntQ n y=false:=by
    intro i y hi hy
    by_cases fP:i=k
    ·subst fP;rw[hx]at hy;simp only[aA0]at hy;subst hy;exact hb
    ·exact wE i y (by omega) hy
   (refine Au (Aq yD) Aa (BC @XB.eq_1 qV qU) ?_;intros;refine Ae ?_)
   exact Ag.mk ⟨k+1,by omega,jL⟩ (Sub.lit (by simp[])) (by simp;omega)
   skip
  ·rw[hb]at yD;have wZ:P.any (ntQ n)=true:=bW0.2 ⟨x,wA,hb⟩
   have cG:P.findIdx (ntQ n)=k:=by
    rw[fD0 qV];refine⟨by rw[qU];exact hb,fun i hi=> ?_⟩;exact wE i _ hi (aD0 (by omega))
   exact Al (Aq yD) Aa (Dx @XB.eq_1 qV qU wZ cG)
 ·have qY:k=P.length:=by omega
  have wZ:P.any (ntQ n)=false:=by
   rw[cZ0];intro x hx;obtain⟨i,hi,rfl⟩:=bJ0 hx;rw[wE i _ (by omega) (aD0 hi)];simp
  (repeat (first | refine AI fun K hK=> ?_ | (refine BR QS mxd (by kernel_rfl) ?_;simp[QS,qX,qY,wZ];try simp (disch:=omega) only[Ao]) | refine Aw ?_ | (refine Bb ?_ ?_ ?_;(· (simp[qX,qY,wZ];done));(try (rotate_left;(· (intro hc;(try simp[qX,qY,wZ]at hc);done))))) | (refine AK ?_;simp[results114,qX,qY,wZ]) | ((first | refine AD ?_ | refine AC ?_);simp[qX,qY,wZ]) | (intro hc;(try simp[qX,qY,wZ]at hc);(try (exfalso;omega))) | ((first | refine An (yD) ?_ | (refine Am (yD) ?_ ?_;(· (simp;done))));try simp[qX,qY,wZ]) | (refine⟨?_,?_⟩; · omega) | omega | apply_assumption -exfalso -symm | (exfalso;omega)))
theorem Oh_ : ∀(xs:List Auto) (f b n:Nat),(∀a∈xs,1<=a.st)->f<=n->n<f+AQ xs->∃k,((xs.zipIdx b).flatMap fun p=>List.replicate p.1.st.toNat p.2)[n-f]? =some (b+k)/\(Cu f xs).findIdx (ntQ n)=k/\(Cu f xs).any (ntQ n)=true
 | [],f,b,n,_,h1,h2=>by simp[AQ]at h2;omega
 | a::xs,f,b,n,qD,h1,h2=>by
  have h3:AQ (a::xs)=a.st.toNat+AQ xs:=by simp[AQ]
  have h4:=qD a aF0;rw[Cu,fQ0,cS0];simp only
  by_cases hn:n<f+a.st.toNat
  ·have hq:ntQ n (a,f)=true:=by unfold ntQ;simp only[decide_eq_true_eq];omega
   refine⟨0,?_,by rw[List.findIdx_cons,hq];rfl,by rw[List.any_cons,hq];rfl⟩;rw[bC0 (by rw[dG0];omega),eD0,if_pos (by omega)];rfl
  ·have hq:ntQ n (a,f)=false:=by unfold ntQ;simp only[decide_eq_false_iff_not];omega
   obtain⟨k,k1,k2,k3⟩:=Oh_ xs (f+a.st.toNat) (b+1) n (fun x hx=>qD x (aE0 _ hx)) (by omega) (by omega);refine⟨k+1,?_,by rw[List.findIdx_cons,hq,k2];rfl,by rw[List.any_cons,hq,k3];rfl⟩;rw[bG0 (by rw[dG0];omega),dG0,Nat.sub_sub,k1]
   congr 1
   omega
def Js_ : Ann:=⟨[],[]⟩
theorem Ld_ (H L:List ByteArray) (xs:List Auto) (h:∀a∈xs,SmA a) (hl:xs.length<=16) (n:Int):Ac prog 38 [Eb H L xs,.int .i64 n] (.int .i64 (atI (Rv xs) n)):=by
 refine Ab [] Js_ func38 call38 ntmps38 mxd (Ap @Js_.eq_1 results38) rfl (fun qJ B qX qQ=> ?_);clear qJ;have e1:=Eh H L xs;have hsl:=Jm (l:=xs) fun a ha=>(h a ha).ok
 have gR:AQ xs<=1040:=Nat.le_trans hsl (bY0 65 hl);have yJ:=Iu xs 0;have e2:=Gb_ n (Cu 0 xs) (fun p hp=>by have:=It hp;exact⟨h _ this.1,by omega⟩) (by omega);have bY:=PL xs
 have sJ:∀k:Nat,k<AQ xs->(Cu 0 xs).any (ntQ k)=true/\(Rv xs)[k]? =some ((Cu 0 xs).findIdx (ntQ k)):=fun k hk=>by
  obtain⟨j,j1,j2,j3⟩:=Oh_ xs 0 0 k (fun a ha=>(Ms (h a ha).ok).1) (by omega) (by omega);refine⟨j3,?_⟩;unfold Rv;rw[j2];simpa using j1
 simp only[Ak,Eb]at e1 |-;obtain⟨N,hN⟩:∃N,N=Rv xs:=⟨_,rfl⟩;rw[<-hN]at bY sJ |-;obtain⟨S,hS⟩:∃S,S=AQ xs:=⟨_,rfl⟩;rw[<-hS]at e1 bY sJ gR |-;obtain⟨P,hP⟩:∃P,P=Cu 0 xs:=⟨_,rfl⟩;rw[<-hP]at e1 e2 sJ |-;clear hN hS hP hsl h
 by_cases h0:n<0
 ·rw[Qz (by omega)];exact Al (Aq e1) Aa (Aq h0)
 ·by_cases h1:n<S
  ·obtain⟨k,rfl⟩:∃k:Nat,n=(k:Int):=⟨n.toNat,by omega⟩;obtain⟨l1,l2⟩:=sJ k (by omega);rw[Xg l2];rw[if_pos l1]at e2;have h2:¬(S:Int)<=(k:Int):=by omega
   exact Al (Ap e1 e2) Aa (BC h0 h1 h2)
  ·rw[Qz (by omega)];have h2:(S:Int)<=n:=by omega
   exact Al (Aq e1) Aa (BC h0 h1 h2)
end Go.Proofs.Wy
end
section
namespace Go.Proofs.Wy
open Go Go.Dm Tryz
variable [DMode]
attribute [local irreducible] DW Bs Bv
set_option maxRecDepth 100000
def CW_ : Ann:=⟨[],[]⟩
theorem He_ (x y:Sym):Ac prog 197 [.agg (AA x),.agg (AA y)] (.int .i64 (Gk x y)):=by
 refine Ab [] CW_ func197 call197 ntmps197 mxd (Ap @CW_.eq_1 results197) rfl (fun qJ B qX qQ=> ?_);simp only[Ak];cases h1:x.label<;>cases h2:y.label<;>exact Al (Aq (DL x.n y.n)) Aa (CG @AA.eq_1 h1 h2 @Gk.eq_1)
def CX_ : Ann:=⟨[],[⟨3,[8],[],[]⟩,⟨6,[9],[],[]⟩]⟩
theorem NZ (g:FuncId) (c:Sym->Sym->Int) (a b:List Sym) (hg:∀x∈a,∀y∈b,Ac prog g [.agg (AA x),.agg (AA y)] (.int .i64 (c x y))) :
  Ac prog 196 [AY a,AY b,.fn (.func g) [] []] (.int .i64 (GM c a b)):=by
 refine Ab [] CX_ func196 call196 ntmps196 mxd (Ap @CX_.eq_1 results196) rfl (fun qJ B qX qQ=> ?_);have hw:Yp a:=Us qJ.1;have hw':Yp b:=Us qJ.2.1;obtain⟨wF,yI,cV⟩:=hw;obtain⟨dD,hv2,hv3⟩:=hw';clear qJ;simp only[Ak];obtain⟨r,hr⟩:∃r,r=GM c a b:=⟨_,rfl⟩;rw[<-hr]
 (refine Au Aa Aa Aa ?_;intros;refine Ae ?_)
 refine Af (X:={k:Nat//k<=a.length/\k<=b.length/\r=GM c (a.drop k) (b.drop k)}) (fun k=>⟨[(0,AY a),(1,AY b),(2,.fn (.func g) [] []),(11,AY a),(12,.int .i64 a.length),(13,.int .i64 k.1)],[]⟩) (fun k=>a.length-k.1) ⟨0,by simp[hr]⟩ (Sub.lit (by simp)) ?_;rintro⟨k,hk,zO,wU⟩;clear hr
 by_cases qV:k<a.length
 ·obtain⟨x,hx,qU,wA⟩:=Ai qV
  by_cases wQ:k<b.length
  ·obtain⟨y,hy,wN,gG⟩:=Ai wQ;have fY:=hg x wA y gG;simp only[AA]at fY;have zV:=II_ (c:=c) hx hy;have vS:¬b.length<=k:=by omega
   by_cases h0:c x y=0
   ·rw[if_pos h0]at zV;have hd:=wU.trans zV
    (refine Au (Aq fY) Aa (Ez @AA.eq_1 qV wQ vS qU wN h0) ?_;intros;refine Ae ?_)
    refine Ag.mk ⟨k+1,by omega,by omega,hd⟩ (Sub.lit (by simp)) (by simp;omega)
    skip
   ·rw[if_neg h0]at zV;have hd:=wU.trans zV;have zI:(c x y != 0)=true:=by simpa using h0
    exact Al (Aq fY) Aa (OD @AA.eq_1 qV wQ vS qU wN h0 zI hd)
  ·have kX:b.length<=k:=by omega
   have hd:=wU.trans (RJ_ (c:=c) qV kX);exact Al Aa Aa (Dx @AA.eq_1 qV kX qU hd)
 ·have kX:a.length<=k:=by omega
  have hka:k=a.length:=by omega
  subst hka;have zV:=RI_ (c:=c) (b:=b) kX
  by_cases h:a.length<b.length
  ·rw[if_pos h]at zV;have hd:=wU.trans zV;exact Al Aa Aa (Ap h hd)
  ·rw[if_neg h]at zV;have hd:=wU.trans zV;exact Al Aa Aa (Ap h hd)
def Oh (a b:List Sym):Int:=GM Gk a b
def Bp (p q:Prod):Int:=if EY p.head q.head=0 then (if EY p.body.length q.body.length=0 then Oh p.body q.body else EY p.body.length q.body.length)else EY p.head q.head
def QI : Ann:=⟨[],[]⟩
theorem Vi (p q:Prod):Ac prog 123 [.agg (Ah p),.agg (Ah q)] (.int .i64 (Bp p q)):=by
 refine Ab [] QI func123 call123 ntmps123 mxd (Ap @QI.eq_1 results123) rfl (fun qJ B qX qQ=> ?_);simp only[Ak];have h1:=NZ 197 Gk p.body q.body (fun x _ y _=>He_ x y);have h2:=Vk (EY p.head q.head) (EY p.body.length q.body.length) (Oh p.body q.body);simp only[Oh]at h2
 (repeat (first | refine AI fun K hK=> ?_ | (refine BR QI mxd (by kernel_rfl) ?_;simp[QI,qX,Ah,Bp,Oh];try simp (disch:=omega) only[Ao]) | refine Aw ?_ | (refine Bb ?_ ?_ ?_;(· (simp[qX,Ah,Bp,Oh];done));(try (rotate_left;(· (intro hc;(try simp[qX,Ah,Bp,Oh]at hc);done))))) | (refine AK ?_;simp[results123,qX,Ah,Bp,Oh]) | ((first | refine AD ?_ | refine AC ?_);simp[qX,Ah,Bp,Oh]) | (intro hc;(try simp[qX,Ah,Bp,Oh]at hc);(try (exfalso;omega))) | ((first | refine An (DL p.head q.head) ?_ | refine An (DL p.body.length q.body.length) ?_ | refine An (h1) ?_ | refine An (h2) ?_ | (refine Am (DL p.head q.head) ?_ ?_;(· (simp;done))) | (refine Am (DL p.body.length q.body.length) ?_ ?_;(· (simp;done))) | (refine Am (h1) ?_ ?_;(· (simp;done))) | (refine Am (h2) ?_ ?_;(· (simp;done))));try simp[qX,Ah,Bp,Oh]) | (refine⟨?_,?_⟩; · omega) | omega | apply_assumption -exfalso -symm | (exfalso;omega)))
def CY_ : Ann:=⟨[],[]⟩
theorem KE_ (p q:Prod):Ac prog 125 [.agg (Ah p),.agg (Ah q)] (.bool (Bp p q==0)):=by
 refine Ab [] CY_ func125 call125 ntmps125 mxd (Ap @CY_.eq_1 results125) rfl (fun qJ B qX qQ=> ?_);simp only[Ak];have h1:=Vi p q;exact Al (Aq h1) Aa (Aq @Ah.eq_1)
end Go.Proofs.Wy
end
section
namespace Go.Proofs.Wy
open Go Go.Dm Tryz
variable [DMode]
theorem HM : OrdC Bp:=by
 have h:=NY_ (Vj KQ_ (Vj KQ_ (UE_ NX_))) (fun p:Prod=>(p.head,((p.body.length:Int),p.body))) (by
  rintro⟨l,n⟩ ⟨l',n'⟩ hh;simp only[_root_.Prod.mk.injEq]at hh;obtain⟨rfl,_,rfl⟩:=hh
  rfl)
 exact h
def Nc_ : List DVal->Sym
 | [.bool b,.int _ n]=>⟨b,n⟩
 | _=>⟨false,0⟩
def aL : List DVal->Prod
 | [.int _ h,.sl _ _ es]=>⟨h,es.map Nc_⟩
 | _=>⟨0,[]⟩
theorem QH_ (s:Sym):Nc_ (AA s)=s:=rfl
theorem uO (p:Prod):aL (Ah p)=p:=by
 obtain⟨h,b⟩:=p;simp only[aL,Ah,cF0,aY0,true_and];rw[show Nc_∘AA=id from funext QH_,List.map_id]
end Go.Proofs.Wy
end
section
namespace Go.Proofs.Wy
open Go Go.Dm Tryz
variable [DMode]
attribute [local irreducible] DW Bs Bv
set_option maxRecDepth 100000
def KG : Ann:=⟨[],[]⟩
theorem WD (g:FuncId) (e:Prod->Prod->Bool) (l:List Prod) (he:∀x∈l,∀y∈l,Ac prog g [.agg (Ah x),.agg (Ah y)] (.bool (e x y))) :
  AS prog (.func 124) [.osl 0 0,.fn (.func g) [] []] [⟨0,0,.row 92 2 32 (l.map Ah)⟩] (Bq (Bu e l)) []:=by
 refine Gi [0] [] func124 rfl call124 (by simp[ntmps124]) (by simp) (by simp) ?_;intro qJ rL B qX;have qQ:=ZO KG mxd (Ap @KG.eq_1 results124);simp only[Ak]
 have hl:l.length<=9223372036854775807:=by
  simp only[Up,maxLen,aJ0]at rL;omega
 clear rL
 by_cases wS:l.length<2
 ·have jH:Bu e l=l:=by
   match l,wS with
   | [],_=>rfl
   | [x],_=>rfl
  exact Al Aa Aa (Ap wS jH)
 have nP:¬(l.length:Int)<2:=by omega
 obtain⟨R0,yM⟩:∃R0,R0=Bu e l:=⟨_,rfl⟩;rw[<-yM]
 (refine Au Aa Aa (Ap wS nP) ?_;intros;refine Ae ?_)
 refine Af (X:={k:Nat//1<=k/\k<=l.length/\Bu e (l.take k)=l.take k}) (fun k=>⟨[(0,.osl 0 0),(1,.fn (.func g) [] []),(5,.int .i64 k.1)],[⟨0,0,.row 92 2 32 (l.map Ah)⟩]⟩) (fun k=>l.length-k.1) ⟨1,by
  obtain⟨x,t,rfl⟩:∃x t,l=x::t:=by
   cases l with
   | nil=>simp at wS
   | cons x t=>exact⟨x,t,rfl⟩
  simp[Bu,CA]⟩ (Sub.lit (by simp)) ?_
 rintro⟨k,jE,hk,bW⟩
 by_cases qV:k<l.length
 ·obtain⟨q,hq,vV,jJ⟩:=Ai qV;obtain⟨p,hp,qI,vK⟩:=Ai (show k-1<l.length by omega);have gD:=he q jJ p vK;simp only[Ah]at gD;have yT:IntKind.i64.wrap ((k:Int)-1)=(k:Int)-1:=wq;have vT:((k:Int)-1).toNat=k-1:=by omega
  have hs:=GL (e:=e) (by omega) hp hq;have qE:(0:Int)<=(k:Int)-1:=by omega
  have qP:(k:Int)-1<l.length:=by omega
  cases kR:e q p
  ·rw[kR]at gD hs;simp only[aK0,if_false]at hs
   (refine Au (Aq gD) Aa (Hn @Ah.eq_1 qV vV qI hp hq vT yT qE qP) ?_;intros;refine Ae ?_)
   refine Ag.mk ⟨k+1,by omega,by omega,by rw[hs,bW,bD0,hq];rfl⟩ (Sub.lit (by simp)) (by simp;omega)
   skip
  ·rw[kR]at gD hs;simp only[if_true,bM0]at hs
   (refine Au (Aq gD) Aa (Hn @Ah.eq_1 qV vV qI hp hq vT yT qE qP) ?_;intros;refine Ae ?_)
   clear yT vT qE qP
   refine Af (X:={x:Nat×Nat×List Prod//1<=x.1/\k+x.1<=l.length/\x.2.1<k+x.1/\k<=x.2.1/\x.2.2.length=l.length/\x.2.2.take x.2.1=Bu e (l.take (k+x.1))/\∀j,k+x.1<=j+1->x.2.2[j]? =l[j]?}) (fun x=>⟨[(0,.osl 0 0),(1,.fn (.func g) [] []),(5,.int .i64 x.1.2.1),(6,.vw 0 0 2 32 k (l.length-k)),(7,.int .i64 x.1.1)],[⟨0,0,.row 92 2 32 (x.1.2.2.map Ah)⟩]⟩) (fun x=>l.length-x.1.1)
    ⟨(1,k,l),show 1<=1/\k+1<=l.length/\k<k+1/\k<=k/\l.length=l.length/\l.take k=Bu e (l.take (k+1))/\(∀j,k+1<=j+1->l[j]? =l[j]?) from ⟨by omega,by omega,by omega,by omega,rfl,by rw[hs,bW],fun _ _=>rfl⟩⟩ (Sub.lit (by simp)) ?_
   rintro⟨⟨m,kk,R⟩,x1,x2,x3,x4,x5,x6,x7⟩;simp only at x1 x2 x3 x4 x5 x6 x7 |-;have hv:k+(l.length-k)<=l.length:=by omega
   by_cases hm:m<l.length-k
   ·obtain⟨y,hy,wN,gG⟩:=Ai (show k+m<l.length by omega);obtain⟨z,hz,sD,hzm⟩:=Ai (show k+m-1<l.length by omega);obtain⟨c0,yG,_,_⟩:=Ai (show kk<R.length by omega);have pI:R[k+m]? =some y:=by rw[x7 _ (by omega)];exact hy
    have pH:R[k+(m-1)]? =some z:=by rw[x7 _ (by omega),show k+(m-1)=k+m-1 by omega];exact hz
    have bC:R[k+m]'(by omega)=y:=(aB0.1 pI).2;have bB:R[k+(m-1)]'(by omega)=z:=(aB0.1 pH).2;have rW:=he y gG z hzm;simp only[Ah]at rW;have yT:IntKind.i64.wrap ((m:Int)-1)=(m:Int)-1:=wq;have vT:((m:Int)-1).toNat=m-1:=by omega
    have qE:(0:Int)<=(m:Int)-1:=by omega
    have qP:(m:Int)-1<((l.length-k:Nat):Int):=by omega
    have vM:=GL (e:=e) (by omega) hz hy;rw[<-x6]at vM;have qY:kk<l.length:=by omega
    cases kP:e y z
    ·rw[kP]at rW vM;simp only[aK0,if_false]at vM
     (refine Au (Aq rW) Aa (Tv @Ah.eq_1 hm pI pH bC bB vT yT qE qP x5 hv yG qY) ?_;intros;refine Ae ?_)
     refine Ag.mk ⟨(m+1,kk+1,R.set kk y),show 1<=m+1/\k+(m+1)<=l.length/\kk+1<k+(m+1)/\k<=kk+1/\(R.set kk y).length=l.length/\(R.set kk y).take (kk+1)=Bu e (l.take (k+(m+1)))/\(∀j,k+(m+1)<=j+1->(R.set kk y)[j]? =l[j]?) from ⟨by omega,by omega,by omega,by omega,by simp[x5],?_,fun j hj=> ?_⟩⟩ (Sub.lit ?_) (by simp;omega)
     ·rw[show k+(m+1)=k+m+1 by omega,vM,bD0,eX0 (by omega),List.take_set_of_le (by omega)];rfl
     ·rw[List.getElem?_set_ne (by omega)];exact x7 j (by omega)
     ·have gU:BK ((R.map Ah).set kk [.int .i64 y.head,AY y.body])=0:=by
       rw[show (R.map Ah).set kk [.int .i64 y.head,AY y.body]=(R.set kk y).map Ah by simp[dR0,Ah]];exact Lk_ _
      simp[dR0,Ah,gU]
     skip
    ·rw[kP]at rW vM;simp only[if_true,bM0]at vM
     (refine Au (Aq rW) Aa (Tv @Ah.eq_1 hm pI pH bC bB vT yT qE qP x5 hv yG qY) ?_;intros;refine Ae ?_)
     refine Ag.mk ⟨(m+1,kk,R),show 1<=m+1/\k+(m+1)<=l.length/\kk<k+(m+1)/\k<=kk/\R.length=l.length/\R.take kk=Bu e (l.take (k+(m+1)))/\(∀j,k+(m+1)<=j+1->R[j]? =l[j]?) from ⟨by omega,by omega,by omega,by omega,x5,by rw[show k+(m+1)=k+m+1 by omega,vM],fun j hj=>x7 j (by omega)⟩⟩ (Sub.lit (by simp)) (by simp;omega)
     skip
   ·have hkm:k+m=l.length:=by omega
    have jF:(CY (R.map Ah) kk (l.length-kk) [.int .i64 0,.nilsl]).length=l.length:=by simp[CY];omega
    have jC:(CY (R.map Ah) kk (l.length-kk) [.int .i64 0,.nilsl]).take kk=R0.map Ah:=by
     have e1:l.take (k+m)=l:=by rw[hkm,aN0]
     rw[e1]at x6;rw[yM,<-x6];simp only[CY];rw[aR0,eG0 (by simp;omega),fJ0,Nat.min_self,eM0]
    have jY:kk<=l.length:=by omega
    (repeat (first | refine AI fun K hK=> ?_ | (refine BR KG mxd (by kernel_rfl) ?_;simp[KG,qX,hm,x5,hv,jF,jC,jY];try simp (disch:=omega) only[Ao]) | refine Aw ?_ | (refine Bb ?_ ?_ ?_;(· (simp[qX,hm,x5,hv,jF,jC,jY];done));(try (rotate_left;(· (intro hc;(try simp[qX,hm,x5,hv,jF,jC,jY]at hc);done))))) | (refine AK ?_;simp[results124,qX,hm,x5,hv,jF,jC,jY]) | ((first | refine AD ?_ | refine AC ?_);simp[qX,hm,x5,hv,jF,jC,jY]) | (intro hc;(try simp[qX,hm,x5,hv,jF,jC,jY]at hc);(try (exfalso;omega))) | ((first | refine An (rW) ?_ | (refine Am (rW) ?_ ?_;(· (simp;done))));try simp[qX,hm,x5,hv,jF,jC,jY]) | (refine⟨?_,?_⟩; · omega) | omega | apply_assumption -exfalso -symm | (exfalso;omega)))
 ·have qY:k=l.length:=by omega
  subst qY;rw[aN0]at bW;rw[bW]at yM
  (repeat (first | refine AI fun K hK=> ?_ | (refine BR KG mxd (by kernel_rfl) ?_;simp[KG,qX,yM];try simp (disch:=omega) only[Ao]) | refine Aw ?_ | (refine Bb ?_ ?_ ?_;(· (simp[qX,yM];done));(try (rotate_left;(· (intro hc;(try simp[qX,yM]at hc);done))))) | (refine AK ?_;simp[results124,qX,yM]) | ((first | refine AD ?_ | refine AC ?_);simp[qX,yM]) | (intro hc;(try simp[qX,yM]at hc);(try (exfalso;omega))) | ((first | refine An (rW) ?_ | (refine Am (rW) ?_ ?_;(· (simp;done))));try simp[qX,yM]) | (refine⟨?_,?_⟩; · omega) | omega | apply_assumption -exfalso -symm | (exfalso;omega)))
end Go.Proofs.Wy
end
section
namespace Go.Proofs.Wy
open Go Go.Dm Tryz
variable [DMode]
attribute [local irreducible] DW Bs Bv
def Dk_ : Ann:=⟨[],[]⟩
def Lv : Ann:=⟨[5],[]⟩
set_option maxRecDepth 100000 in
theorem WN (l:List Sym):Ac prog 194 [AY l] (AY l):=by
 match l with
 | [] =>
  refine Xy [] ?_ ?_
  ·refine Ab [7] Dk_ func194 call194 ntmps194 mxd (Ap @Dk_.eq_1 results194) rfl (fun qJ B qX qQ=> ?_) (hd:=(by simp[mx,BK]));simp only[Ak,List.nil_append,AY,List.map_cons];exact Al Aa Aa Aa
  ·refine Ab [7,5] Lv func194 call194 ntmps194 mxd (Ap @Lv.eq_1 results194) rfl (fun qJ B qX qQ=> ?_) (hd:=(by simp[mx,BK]));simp only[Ak,List.nil_append,AY,List.map_cons];exact Al Aa Aa Aa
 | s::l =>
  refine Ab [7,5] Lv func194 call194 ntmps194 mxd (Ap @Lv.eq_1 results194) rfl (fun qJ B qX qQ=> ?_) (hd:=(by simp[mx,BK]));have hw:Yp (s::l):=Us qJ.1;obtain⟨wF,yI,cV⟩:=hw;clear qJ;simp at wF yI;clear cV;simp only[Ak,List.nil_append,AY,List.map_cons];exact Al Aa Aa Aa

end Go.Proofs.Wy
end
section
namespace Go.Proofs.Wy
open Go Go.Dm Tryz
variable [DMode]
attribute [local irreducible] DW Bs Bv
set_option maxRecDepth 100000
theorem XJ (l:List Prod):AS prog (.func 122) [.osl 0 0,.fn (.func 123) [] []] [⟨0,0,.row 92 2 32 (l.map Ah)⟩] (.tup []) [⟨0,0,.row 92 2 32 ((FQ Bp l).map Ah)⟩]:=by
 have qO:∀x∈l.map Ah,∃p∈l,x=Ah p:=fun x hx=>by
  obtain⟨p,hp,rfl⟩:=aU0.1 hx;exact⟨p,hp,rfl⟩
 refine YC (cf:=fun x y=>Bp (aL x) (aL y)) Tryz.sortProd (by rfl) call122 (by kernel_rfl) (by kernel_rfl) (by decide) rfl ?_ call123 ?_ ?_ ?_ ?_ ?_
 ·intro x hx;obtain⟨p,_,rfl⟩:=qO x hx;simp
 ·intro x hx y hy;obtain⟨p,_,rfl⟩:=qO x hx;obtain⟨q,_,rfl⟩:=qO y hy;simp only[uO];exact @Vi LX p q
 ·intro x _;rw[HM.refl];omega
 ·intro x _ y _ z _;exact HM.trans _ _ _
 ·intro x _ y _ z _;exact HM.ntrans _ _ _
 ·intro L hp hs;exact Yq HM uO hp hs
def Da_ : Ann:=⟨[],[⟨4,[7],[],[]⟩]⟩
theorem MU_ (g:FuncId) (hdo:∀l:List Sym,Ac prog g [AY l] (.tup [])) (c:Cnf):AS prog (.func 120) [.agg (Ar c),.fn (.func g) [] []] [] (.agg [.int .i64 c.nts,.osl 0 1]) [⟨0,1,.row 92 2 32 (c.prods.map Ah)⟩]:=by
 refine Bi [4,5] [(32,0,1)] Da_ func120 call120 ntmps120 mxd (Ap @Da_.eq_1 results120) rfl (fun qJ B qX qQ=> ?_);have hw:uN c:=Ut (by simpa[Gj,Dq]using qJ.1);obtain⟨wF,yI,cV,yL⟩:=hw;clear qJ;simp only[Ak]
 (refine Au Aa Aa (Aq @Ar.eq_1) ?_;intros;refine Ae ?_)
 refine BT 5 1 32 92 2 32 (by simp) (fun n=> ?_);refine Af (X:={k:Nat//k<=c.prods.length}) (fun k=>⟨[(1,.fn (.func g) [] []),(4,.bx 4 1 0),(5,.bx 5 1 0),(13,Bq c.prods),(14,.int .i64 c.prods.length),(15,.int .i64 k.1)],[⟨4,1,.box [.int .i64 0,.nilsl]⟩,⟨5,1,.box [.int .i64 c.nts,.osl 32 1]⟩,⟨32,1,.row 92 2 32 ((c.prods.take k.1).map Ah)⟩]⟩) (fun k=>c.prods.length-k.1) ⟨0,by simp⟩ (Sub.lit (by simp)) ?_
 rintro⟨k,hk⟩
 by_cases qV:k<c.prods.length
 ·obtain⟨p,hp,qI,vK⟩:=Ai qV;obtain⟨sB,hw6,hw7,hw8⟩:=yL p vK;have qH:(c.prods.map Ah).take (k+1)=(c.prods.map Ah).take k++[Ah p]:=by rw[bD0,bK0,hp];rfl
  have h1:=WN p.body;have h2:=hdo p.body
  (refine Au (Ap h1 h2) Aa (CG @Ar.eq_1 @Ah.eq_1 qV qI) ?_;intros;refine Ae ?_)
  refine Ag.mk ⟨k+1,by omega⟩ (Sub.lit ?_) (by simp;omega)
  ·simp[qH,Ah]
  skip
 ·have qY:k=c.prods.length:=by omega
  subst qY;exact Al Aa Aa (Aq @Ar.eq_1)
def CZ_ : Ann:=⟨[],[]⟩
theorem eC (l:List Sym):Ac prog 121 [AY l] (.tup []):=by
 refine Ab [] CZ_ func121 call121 ntmps121 mxd (Ap @CZ_.eq_1 results121) rfl (fun qJ B qX qQ=> ?_);simp only[Ak];exact Al Aa Aa Aa
def BM (c:Cnf):Cnf:=⟨c.nts,Bu (fun p q=>Bp p q==0) (FQ Bp c.prods)⟩
def Ug : Ann:=⟨[5,8,11],[]⟩
theorem Sq (c:Cnf):Ac prog 42 [.agg (Ar c)] (.agg (Ar (BM c))):=by
 refine Ab [] Ug func42 call42 ntmps42 mxd (Ap @Ug.eq_1 results42) rfl (fun qJ B qX qQ=> ?_);simp only[Ak];have h1:=MU_ _ eC c;have h2:=XJ c.prods;have h3:=WD 125 (fun p q=>Bp p q==0) (FQ Bp c.prods) (fun x _ y _=>KE_ x y)
 (repeat (first | refine AI fun K hK=> ?_ | (refine BR Ug mxd (by kernel_rfl) ?_;simp[Ug,qX,Ar,BM];try simp (disch:=omega) only[Ao]) | refine Aw ?_ | (refine Bb ?_ ?_ ?_;(· (simp[qX,Ar,BM];done));(try (rotate_left;(· (intro hc;(try simp[qX,Ar,BM]at hc);done))))) | (refine AK ?_;simp[results42,qX,Ar,BM]) | ((first | refine AD ?_ | refine AC ?_);simp[qX,Ar,BM]) | (intro hc;(try simp[qX,Ar,BM]at hc);(try (exfalso;omega))) | (refine AP [] [(50,0)] (h1) ?_ ?_;(· (simp[qX,Ar,BM];done));(intro _;try simp[qX,Ar,BM])) | (refine AP [(50,0)] [] (h2) ?_ ?_;(· (simp[qX,Ar,BM];done));(intro _;try simp[qX,Ar,BM])) | (refine AP [(50,0)] [] (h3) ?_ ?_;(· (simp[qX,Ar,BM];done));(intro _;try simp[qX,Ar,BM])) | (refine⟨?_,?_⟩; · omega) | omega | apply_assumption -exfalso -symm | (exfalso;omega)))
end Go.Proofs.Wy
end
section
namespace Go.Proofs.Wy
open Go Go.Dm Tryz
variable [DMode]
def Gc (xs:List Auto) (q:Nat):Nat:=((List.range q).filter fun p=>decide (¬p∈JE xs)).length
theorem ZB (xs:List Auto):Gc xs 0=0:=rfl
theorem NH (xs:List Auto) (q:Nat):Gc xs (q+1)=Gc xs q+(if q∈JE xs then 0 else 1):=by
 unfold Gc;rw[dE0,dC0,aC0]
 by_cases h:q∈JE xs<;>simp[h]
theorem oP (xs:List Auto) (q:Nat):Gc xs q<=q:=by
 unfold Gc;have:=cG0 (fun p=>decide (¬p∈JE xs)) (List.range q);rw[dY0]at this;exact this
def Gy (xs:List Auto) (q:Nat):Nat:=if q∈JE xs then (Rv xs).getD q 0 else xs.length+Gc xs q
def JI (xs:List Auto) (k:Nat):List Nat:=(List.range k).map (Gy xs)++List.replicate (AQ xs-k) 0
theorem Aj_ (xs:List Auto) {k:Nat} (h:k<=AQ xs):(JI xs k).length=AQ xs:=by
 unfold JI;rw[aC0,aJ0,dY0,dG0];omega
theorem NW_ (xs:List Auto) {k:Nat} (h:k<AQ xs):(JI xs k).set k (Gy xs k)=JI xs (k+1):=by
 unfold JI;rw[List.set_append,if_neg (by simp),aJ0,dY0,eA0,show AQ xs-k=(AQ xs-(k+1))+1 by omega,List.replicate_succ,eW0,dE0,aX0,aR0];rfl
theorem QU_ (xs:List Auto) {q:Nat} (h:q<AQ xs):(JI xs (AQ xs))[q]? =some (Gy xs q):=by
 unfold JI;rw[eA0,List.replicate_zero,bM0,bK0,eE0 h];rfl
theorem Sa_ : ∀(xs:List Auto) (f b j q:Nat),(∀a∈xs,1<=a.st)->((Cu f xs).map (·.2))[j]? =some q->f<=q/\((xs.zipIdx b).flatMap fun p=>List.replicate p.1.st.toNat p.2)[q-f]? =some (b+j)
 | [],f,b,j,q,_,h=>by simp[Cu]at h
 | a::xs,f,b,0,q,qD,h=>by
  have h4:=qD a aF0;rw[Cu]at h;simp at h;subst h;rw[fQ0,cS0,eA0];refine⟨Nat.le_refl _,?_⟩;rw[bC0 (by rw[dG0];simp only;omega),eD0,if_pos (by simp only;omega)];rfl
 | a::xs,f,b,j+1,q,qD,h=>by
  have h4:=qD a aF0;rw[Cu,List.map_cons,bT0]at h;obtain⟨h1,h2⟩:=Sa_ xs (f+a.st.toNat) (b+1) j q (fun x hx=>qD x (aE0 _ hx)) h;rw[fQ0,cS0];refine⟨by omega,?_⟩;rw[bG0 (by rw[dG0];simp only;omega),dG0];simp only;rw[Nat.sub_sub,h2]
  congr 1
  omega
theorem KA_ {xs:List Auto} (qD:∀a∈xs,1<=a.st) {q k:Nat} (hk:(Rv xs)[q]? =some k):atI (JE xs) k=q↔q∈JE xs:=by
 constructor
 ·intro h
  cases hx:(JE xs)[k]? with
  | none =>
   rw[Qz (by have:=List.getElem?_eq_none_iff.1 hx;omega)]at h;omega
  | some x =>
   rw[Xg hx]at h;have:x=q:=by omega
   rw[<-this];exact bI0 hx
 ·intro h;obtain⟨j,hj,he⟩:=bJ0 h;have mJ:(JE xs)[j]? =some q:=by rw[aD0 hj,he]
  have h1:=(Sa_ xs 0 0 j q qD mJ).2;rw[eT0,bX0]at h1;have h2:(Rv xs)[q]? =some j:=h1;rw[hk]at h2;simp only[aA0]at h2;subst h2;exact Xg mJ
theorem Se_ : ∀(xs:List Auto) (b:Nat),∀k∈(xs.zipIdx b).flatMap (fun p=>List.replicate p.1.st.toNat p.2),k<b+xs.length
 | [],b,k,h=>by simp at h
 | a::xs,b,k,h=>by
  rw[fQ0,cS0,aI0]at h;rw[List.length_cons]
  rcases h with h | h
  ·have:=List.eq_of_mem_replicate h;simp only at this;omega
  ·have:=Se_ xs (b+1) k h;omega
theorem Sd_ {xs:List Auto} {q k:Nat} (h:(Rv xs)[q]? =some k):k<xs.length:=by
 have:=Se_ xs 0 k (bI0 h);omega
theorem iG {xs:List Auto} {q k:Nat} (h:q∈JE xs) (hk:(Rv xs)[q]? =some k):Gy xs q=k:=by
 unfold Gy;rw[if_pos h,aZ0,hk];rfl
theorem Vh {xs:List Auto} {q:Nat} (h:¬q∈JE xs):Gy xs q=xs.length+Gc xs q:=by unfold Gy;rw[if_neg h]
theorem Vg : ∀{xs:List Auto} {f:Nat} {p:Auto×Nat},p∈Cu f xs->p.2+p.1.st.toNat<=f+AQ xs
 | [],_,_,h=>by simp[Cu]at h
 | a::xs,f,p,h=>by
  have h3:AQ (a::xs)=a.st.toNat+AQ xs:=by simp[AQ]
  rw[Cu]at h
  rcases aL0.1 h with rfl | h
  ·simp only;omega
  ·have:=Vg h;omega
def pF (xs:List Auto) (q:Int):Prod:=⟨(Gy xs q.toNat:Int),[]⟩
def pA (xs:List Auto) (x:Arc):Prod:=⟨(Gy xs x.fr.toNat:Int),[x.sy,⟨false,(Gy xs x.to.toNat:Int)⟩]⟩
def Hx (xs:List Auto):Cnf:=⟨((xs.length+Gc xs (AQ xs):Nat):Int),(GH xs).map (pF xs)++(Gn xs).map (pA xs)⟩
end Go.Proofs.Wy
end
section
namespace Go.Dm
variable [DMode]
theorem HB_ : ∀{a b:List DVal},aE a b->a.length=b.length
 | [],[],_=>rfl
 | [],_::_,h=>h.elim
 | _::_,[],h=>h.elim
 | _::a,_::b,h=>by simp[HB_ h.2]
def Gs : List (List DVal)->List (List DVal)->Prop
 | [],[]=>True
 | a::r,b::t=>aE a b/\Gs r t
 | _,_=>False
theorem So : ∀(a:List (List DVal)),Gs a a
 | []=>trivial
 | d::a=>⟨Pf d,So a⟩
theorem Uo : ∀{a a' b b':List (List DVal)},Gs a a'->Gs b b'->Gs (a++b) (a'++b')
 | [],[],_,_,_,h=>h
 | [],_::_,_,_,h,_=>h.elim
 | _::_,[],_,_,h,_=>h.elim
 | _::_,_::_,_,_,h,k=>⟨h.1,Uo h.2 k⟩
theorem Un : ∀{a b:List (List DVal)},Gs a b->a.length=b.length
 | [],[],_=>rfl
 | [],_::_,h=>h.elim
 | _::_,[],h=>h.elim
 | _::a,_::b,h=>by simp[Un h.2]
theorem HX_ {cur:Gp} {M:List Nat} {h:Array Obj}:∀{a b:List DVal} {arr:Array Value} {o:Nat},aE a b->ET cur M h a arr o->ET cur M h b arr o
 | [],[],_,_,_,hr=>hr
 | [],_::_,_,_,hw,_=>hw.elim
 | _::_,[],_,_,hw,_=>hw.elim
 | d::a,e::b,arr,o,hw,hr=>by
  simp only[ET]at hr |-;obtain⟨⟨v,h1,h2,h3⟩,h4⟩:=hr;exact⟨⟨v,h1,h2,xS hw.1 h3⟩,HX_ hw.2 h4⟩
theorem UX {cur:Gp} {M:List Nat} {h:Array Obj} {k:Nat}:∀{a b:List (List DVal)} {arr:Array Value} {o:Nat},Gs a b->Fz cur M h k a arr o->Fz cur M h k b arr o
 | [],[],_,_,_,hr=>hr
 | [],_::_,_,_,hw,_=>hw.elim
 | _::_,[],_,_,hw,_=>hw.elim
 | d::a,e::b,arr,o,hw,hr=>by
  simp only[Fz]at hr |-;obtain⟨h1,h2,h3⟩:=hr;exact⟨by rw[<-h1,HB_ hw.1],HX_ hw.1 h2,UX hw.2 h3⟩
def NN_ (es':List (List DVal)):DObj->DObj
 | .row et k bs _=> .row et k bs es'
 | o=>o
def LP (id:Nat) (es':List (List DVal)):List Ent->List Ent
 | []=>[]
 | e::t=>(if e.id=id then ⟨e.id,e.r,NN_ es' e.obj⟩else e)::LP id es' t
attribute [simp] NN_ LP
theorem xN (id:Nat) (es':List (List DVal)):∀own:List Ent,(LP id es' own).map (·.id)=own.map (·.id)
 | []=>rfl
 | e::t=>by simp only[LP,List.map_cons,xN id es' t];split<;>rfl
theorem Fb (id:Nat) (es':List (List DVal)) (loc:Nat->Loc):∀own:List Ent,Ad (LP id es' own) loc=Ad own loc
 | []=>rfl
 | e::t=>by
  have:=Fb id es' loc t;simp only[Ad,LP,cS0]at this |-;rw[this];split<;>rfl
theorem Mi {id:Nat} {es':List (List DVal)}:∀{own:List Ent} {x:Ent},x∈LP id es' own->∃e∈own,e.id=x.id/\e.r=x.r/\((e.id≠id/\x=e)\/(e.id=id/\x.obj=NN_ es' e.obj))
 | [],_,h=>by simp[LP]at h
 | e::t,x,h=>by
  simp only[LP,aL0]at h
  rcases h with h | h
  ·refine⟨e,aF0,?_⟩
   split at h
   ·rename_i he;subst h;exact⟨rfl,rfl,.inr ⟨he,rfl⟩⟩
   ·rename_i he;subst h;exact⟨rfl,rfl,.inl ⟨he,rfl⟩⟩
  ·obtain⟨e',h1,h2⟩:=Mi h;exact⟨e',aE0 _ h1,h2⟩
theorem UM (id:Nat) (es':List (List DVal)) (loc:Nat->Loc) (own:List Ent):Aj (LP id es' own) loc=Aj own loc:=by
 funext i r
 have h:∀own:List Ent,(Ax (LP id es' own) i).map (·.r)=(Ax own i).map (·.r):=by
  intro own
  induction own with
  | nil=>rfl
  | cons e t ih =>
   simp only[LP,Ax]
   by_cases h1:e.id=id
   ·simp only[h1,if_true]
    by_cases h2:id=i
    ·simp[h2]
    ·simp only[h2,if_false];exact ih
   ·simp only[h1,if_false]
    by_cases h2:e.id=i
    ·simp[h2]
    ·simp only[h2,if_false];exact ih
 have h0:=h own;unfold Aj;cases ha:Ax (LP id es' own) i<;>cases hb:Ax own i<;>rw[ha,hb]at h0<;>simp only[fC0,dJ0,aA0,reduceCtorEq]at h0 |-;rw[h0]
theorem St.rowWk {own:List Ent} {loc:Nat->Loc} {M:List Nat} {h:Array Obj} (S:St own loc M h) (id:Nat) {et k bs:Nat} {es es':List (List DVal)} {e:Ent} (he:Ax own id=some e) (qA:e.obj= .row et k bs es) (hw:Gs es es'):St (LP id es' own) loc M h:=by
 refine⟨by rw[xN];exact S.nd,by rw[Fb];exact S.bl,by rw[Fb];exact S.ap,by rw[Fb];exact S.lt,?_⟩;intro x hx;simp only[UM,Fb];obtain⟨e',h1,h2,h3,h4⟩:=Mi hx;have hk:=S.ok e' h1
 rcases h4 with ⟨_,rfl⟩ | ⟨h4,h5⟩
 ·exact hk
 ·have mV:e'=e:=by
   have:=CP S.nd h1;rw[h4,he]at this;simpa using this.symm
  subst mV;rw[<-h2,h5,qA];rw[qA]at hk;simp only[NN_];obtain⟨k1,k2⟩:=hk;have hl:=Un hw;refine⟨by rw[<-hl];exact k1,?_⟩
  rcases k2 with ⟨rfl,q2,q3⟩ | ⟨b,arr,cap,q1,q2,q3,q4,q5,q6,q7⟩
  ·refine .inl ⟨?_,q2,q3⟩
   cases es' with
   | nil=>rfl
   | cons x t=>simp at hl
  ·exact .inr ⟨b,arr,cap,q1,by rw[<-hl];exact q2,q3,by rw[<-hl];exact q4,q5,q6,UX hw q7⟩
theorem Sub.rowWk {B:Base} {s:DS} (id:Nat) {et k bs:Nat} {es es':List (List DVal)} {e:Ent} (he:Ax s.own id=some e) (qA:e.obj= .row et k bs es) (hw:Gs es es'):Sub B s ⟨s.slots,LP id es' s.own⟩:=by
 intro a w loc R;refine⟨loc,⟨R.st.rowWk id he qA hw,R.upd,by rw[Fb];exact R.new,?_,?_,R.nt,by rw[Fb];exact R.df⟩⟩
 ·intro x hx;obtain⟨e',h1,h2,h3,_⟩:=Mi hx;rw[<-h2,<-h3];exact R.ver e' h1
 ·intro i;have:=R.sl i;simp only[UM,Fb];exact this
theorem AS.rowWk {P:Program} {f:Fn} {args:List DVal} {own own':List Ent} {d:DVal} (h:AS P f args own d own') (id:Nat) {et k bs:Nat} {es es':List (List DVal)} {e:Ent} (he:Ax own' id=some e) (qA:e.obj= .row et k bs es) (hw:Gs es es'):AS P f args own d (LP id es' own'):=by
 obtain⟨h1,h2,h3⟩:=h;refine⟨fun x hx=> ?_,h2,fun M w loc vs S hr=> ?_⟩
 ·obtain⟨e',g1,g2,g3,_⟩:=Mi hx;rw[<-g3];exact h1 e' g1
 ·have key:∀(R R':Value->World->Prop),(∀v w',R v w'->R' v w')->JQ P f vs w R->JQ P f vs w R':=fun R R' yB hF=>hF.mono yB
  refine key _ _ ?_ (h3 M w loc vs S hr);rintro v w' ⟨loc',k1,k2,k3,k4,k5⟩;refine⟨loc',k1.rowWk id he qA hw,k2,by rw[Fb];exact k3,?_,by rw[UM,Fb];exact k5⟩;intro x hx dB;obtain⟨e',g1,g2,g3,_⟩:=Mi hx;rw[<-g2,<-g3];exact k4 e' g1 (by omega)
theorem Qv_ {P:Program} {B:Base} {Q:Exit->DS->Prop} {s:DS} {x:Code} (id:Nat) {et k bs:Nat} {es es':List (List DVal)} {e:Ent} (he:Ax s.own id=some e) (qA:e.obj= .row et k bs es) (hw:Gs es es') (h:DW P B x Q ⟨s.slots,LP id es' s.own⟩):DW P B x Q s :=
 Fw (Sub.rowWk id he qA hw) h
end Go.Dm
end
section
namespace Go.Proofs.Wy
open Go Go.Dm Tryz
attribute [local irreducible] DW Bs Bv
set_option maxRecDepth 100000
theorem Um {α:Type} (f g:α->List DVal) (h:∀x,aE (f x) (g x)):∀l:List α,Gs (l.map f) (l.map g)
 | []=>by simp[Gs]
 | x::l=>by
  rw[List.map_cons,List.map_cons];exact⟨h x,Um f g h l⟩
def dF (xs:List Auto) (q:Int):List DVal:=[.int .i64 (Gy xs q.toNat:Int),.nilsl]
theorem TX_ (xs:List Auto) (q:Int):aE (dF xs q) (Ah (pF xs q)):=by simp[dF,Ah,pF,AY,aE,wk,wk1,isE]
@[simp] theorem TG_ (xs:List Auto) (q:Int):AV (dF xs q)=0:=by simp[dF,AV,mx]
@[simp] theorem SL_ (xs:List Auto) (l:List Int):BK (l.map (dF xs))=0:=Jb _ (TG_ xs) l
theorem Uc_ {a b:Nat} (h1:a<=1040) (h2:b<=17179870208):(a+b+1)*32<=150000000000000:=by omega
theorem Av_ (l:List Nat) (k v:Nat):(l.map Bg).set k [.int .i64 (v:Int)]=(l.set k v).map Bg:=by rw[dR0];rfl
def MO (xs:List Auto) (l:List Int):List (List DVal):=l.map (dF xs)
def prF (xs:List Auto) (l:List Int):List Prod:=l.map (pF xs)
def prA (xs:List Auto) (l:List Arc):List Prod:=l.map (pA xs)
theorem NO_ {xs:List Auto} {z:List Arc} {k:Nat} {x:Arc} (h:z[k]? =some x):prA xs (z.take (k+1))=prA xs (z.take k)++[pA xs x]:=by unfold prA;rw[bD0,h,aX0];rfl
theorem LS_ {xs:List Auto} {l:List Int} {k:Nat} {q:Int} (h:l[k]? =some q):MO xs (l.take (k+1))=MO xs (l.take k)++[[.int .i64 (Gy xs q.toNat:Int),.nilsl]]:=by unfold MO;rw[bD0,h,aX0];rfl
theorem Ry_ (xs:List Auto) (l:List Int):BK (MO xs l)=0:=SL_ xs l
theorem oA {xs:List Auto} (h:∀a∈xs,SmA a) {q:Int} (hq:q∈GH xs):0<=q/\q.toNat<AQ xs:=by
 unfold GH at hq;obtain⟨p,hp,hq⟩:=bV0.1 hq;obtain⟨r,hr,rfl⟩:=aU0.1 hq;have h1:=Vg hp;have h2:=FV_ (h _ (It hp).1).ok hr;unfold mvF;omega
theorem tH {xs:List Auto} (h:∀a∈xs,SmA a) {x:Arc} (hx:x∈Gn xs):0<=x.fr/\x.fr.toNat<AQ xs/\0<=x.to/\x.to.toNat<AQ xs:=by
 unfold Gn at hx;obtain⟨p,hp,hx⟩:=bV0.1 hx;obtain⟨y,hy,rfl⟩:=aU0.1 hx;have h1:=Vg hp;have h2:=FW_ (h _ (It hp).1).ok hy;unfold lD;simp only;omega
def JT_ : Ann:=⟨[],[⟨22,[12],[],[]⟩]⟩
theorem oS (H L:List ByteArray) (xs:List Auto) (vW:∀a∈xs,SmA a) (hl:xs.length<=16) (hH:H.length=xs.length) (qK:1<=AQ xs):Ac prog 11 [Eb H L xs] (.tup [.agg (Ar (BM (Hx xs))),.int .i64 0]):=by
 refine Ab [2] JT_ func11 call11 ntmps11 mxd (Ap @JT_.eq_1 results11) rfl (fun qJ B qX qQ=> ?_) (hd:=(by simp[mx,AV,Ar]));clear qJ;simp only[Ak];have gX:∀a∈xs,1<=a.st:=fun a ha=>(Ms (vW a ha).ok).1
 have hsl:=Jm (l:=xs) fun a ha=>(vW a ha).ok
 have gR:AQ xs<=1040:=Nat.le_trans hsl (bY0 65 hl);have e1:=XI H L xs;have e2:=XX H L xs;have e3:∀n,_:=fun n=>Ld_ H L xs vW hl n
 have e4:∀n,_:=fun n=>aX H L xs n
 have e5:=Vu H L xs vW hl;have e6:=lE H L xs vW hl;have e7:=Sq (Hx xs);obtain⟨PR,hPR⟩:∃PR,PR=(BM (Hx xs)).prods:=⟨_,rfl⟩;obtain⟨NN,hNN⟩:∃NN,NN=(BM (Hx xs)).nts:=⟨_,rfl⟩;have hR:Ar (BM (Hx xs))=[.int .i64 NN,Bq PR]:=by rw[hPR,hNN];rfl
 rw[hR]at e7 |-;clear hR hPR hNN;have vY:∀q∈GH xs,0<=q/\q.toNat<AQ xs:=fun q hq=>oA vW hq
 have gA:∀x∈Gn xs,0<=x.fr/\x.fr.toNat<AQ xs/\0<=x.to/\x.to.toNat<AQ xs:=fun x hx=>tH vW hx
 have vC:(GH xs).length<=1040:=Nat.le_trans (MP vW 0) (bY0 65 hl);have jP:(Gn xs).length<=17179870208:=Nat.le_trans (Nb vW 0) (bY0 1073741888 hl);simp only[Eb]at e1 e2 e3 e4 e5 e6 |-;clear hsl;have hS0:¬((AQ xs:Nat):Int)=0:=by omega
 have hSb:(((AQ xs:Nat):Int)==0)=false:=by simpa using hS0
 have hS1:AQ xs*8<=150000000000000:=by omega
 (refine Au (Ap e1 e2) Aa (Ap hS0 hSb) ?_;intros;refine Ae ?_)
 have hz0:(JI xs 0).map Bg=List.replicate (AQ xs) [.int .i64 0]:=by unfold JI;simp[Bg]
 have hzm:BK (List.replicate (AQ xs) [DVal.int .i64 0])=0:=by rw[<-hz0];simp
 refine Af (X:={q:Nat//q<=AQ xs}) (fun q=>⟨[(0,.ref [Hf H L,GU_ (Cu 0 xs),.int .i64 (AQ xs)]),(2,.bx 2 1 0),(5,.osl 22 1),(6,.int .i64 ((xs.length+Gc xs q.1:Nat):Int)),(25,.int .i64 (AQ xs)),(26,.int .i64 q.1)],[⟨2,1,.box [.int .i64 0,.nilsl]⟩,⟨22,1,.row 3 1 8 ((JI xs q.1).map Bg)⟩]⟩) (fun q=>AQ xs-q.1) ⟨0,by simp⟩ (Sub.lit (by simp[hz0,hzm,hH,ZB])) ?_;rintro⟨q,hq⟩;simp only
 by_cases qV:q<AQ xs
 ·have bY:=PL xs;obtain⟨k,hk⟩:∃k,(Rv xs)[q]? =some k:=⟨_,aD0 (by omega)⟩;have hsi:=KA_ gX hk;have jY:=Sd_ hk;have f1:=e3 q;have f2:=e4 k;rw[Xg hk]at f1;have bR:=Aj_ xs hq;have gS:=NW_ xs qV;have zR:=NH xs q;have jH:=oP xs q;have g1:=Av_ (JI xs q) q k;have g2:=Av_ ((JI xs q).set q k) q (xs.length+Gc xs q);have jX:((JI xs q).set q k).set q (xs.length+Gc xs q)=(JI xs q).set q (xs.length+Gc xs q):=List.set_set _
  have rX:q<(JI xs q).length:=by omega
  have g3:((JI xs q).set q k)[q]? =some k:=by rw[eX0 rX]
  have dC:q<((JI xs q).set q k).length:=by rw[List.length_set];exact rX
  obtain⟨Y,hY⟩:∃Y,Y=(JI xs q).set q k:=⟨_,rfl⟩;rw[<-hY]at g1 g2 g3 dC jX;have g3':Y[q]'dC=k:=(aB0.1 g3).2;have bH:IntKind.i64.wrap ((q:Int)+1)=(q:Int)+1:=wq;have hqi:(q:Int)<(AQ xs:Int):=by omega
  obtain⟨S,hS⟩:∃S,S=atI (JE xs) k:=⟨_,rfl⟩;rw[<-hS]at hsi f2
  by_cases wR:q∈JE xs
  ·have hSq:=hsi.2 wR;have mF:=iG wR hk;rw[mF,<-hY]at gS;rw[if_pos wR,cT0]at zR;rw[gS]at g1 g3 dC;have g3':(JI xs (q+1))[q]'dC=k:=(aB0.1 g3).2;clear hY jX g2;rw[hSq]at f2
   (refine Au (Ap f1 f2) Aa (Ez hqi rX dC @Bg.eq_1 g1 g3 g3') ?_;intros;refine Ae ?_)
   refine Ag.mk ⟨q+1,by omega⟩ (Sub.lit (by simp[zR])) (by simp;omega)
   skip
  ·have hSq:¬S=(q:Int):=fun hh=>wR (hsi.1 hh)
   have hSb2:(S==(q:Int))=false:=by simpa using hSq
   have mF:=Vh wR;rw[mF]at gS;rw[if_neg wR]at zR;rw[jX,gS]at g2;clear hY jX gS;have hwn:IntKind.i64.wrap (((xs.length+Gc xs q:Nat):Int)+1)=((xs.length+Gc xs (q+1):Nat):Int):=by rw[wq,zR];omega
   obtain⟨N,hN⟩:∃N,N=xs.length+Gc xs q:=⟨_,rfl⟩;rw[<-hN]at hwn g2 |-
   (refine Au (Ap f1 f2) Aa (Hm hqi rX dC @Bg.eq_1 g1 g2 g3 g3' hSq hSb2 hwn) ?_;intros;refine Ae ?_)
   refine Ag.mk ⟨q+1,by omega⟩ (Sub.lit (by simp)) (by simp;omega)
   skip
 ·have qY:q=AQ xs:=by omega
  subst qY;have hqi:¬((AQ xs:Nat):Int)<(AQ xs:Int):=by omega
  clear e3 e4 gX;have mF:∀q:Nat,q<AQ xs->(JI xs (AQ xs))[q]? =some (Gy xs q):=fun q hq=>QU_ xs hq
  have hol:=Aj_ xs (Nat.le_refl (AQ xs));have zR:=oP xs (AQ xs);unfold Hx at e7;obtain⟨N,hN⟩:∃N,N=xs.length+Gc xs (AQ xs):=⟨_,rfl⟩;rw[<-hN]at e7 |-;obtain⟨W,hW⟩:∃W,W=JI xs (AQ xs):=⟨_,rfl⟩;rw[<-hW]at mF hol |-;obtain⟨F,hF⟩:∃F,F=GH xs:=⟨_,rfl⟩;rw[<-hF]at e5 e7 vY vC;obtain⟨Z,hZ⟩:∃Z,Z=Gn xs:=⟨_,rfl⟩;rw[<-hZ]at e6 e7 gA jP;clear hW hF hZ zR vW;refine Fw (Sub.freezeL [22] _) ?_;simp
  (refine Au (Aq e5) Aa (Aq hqi) ?_;intros;refine Ae ?_)
  refine BT 8 1 60 92 2 32 (by simp) (fun n1=> ?_);have f0:MO xs []=[]:=rfl;refine Af (X:={k:Nat//k<=F.length}) (fun k=>⟨[(0,.ref [Hf H L,GU_ (Cu 0 xs),.int .i64 (AQ xs)]),(2,.bx 2 1 0),(5,Cl W),(8,.bx 8 1 0),(53,BD F),(54,.int .i64 F.length),(55,.int .i64 k.1)],[⟨2,1,.box [.int .i64 0,.nilsl]⟩,⟨8,1,.box [.int .i64 (N:Int),.osl 60 1]⟩,⟨60,1,.row 92 2 32 (MO xs (F.take k.1))⟩]⟩) (fun k=>F.length-k.1) ⟨0,by simp⟩ (Sub.lit (by simp[f0])) ?_
  rintro⟨k,hk⟩;simp only
  by_cases qW:k<F.length
  ·obtain⟨q,wG,dH,jJ⟩:=Ai qW;obtain⟨q0,q1⟩:=vY q jJ;obtain⟨u,rfl⟩:∃u:Nat,q=(u:Int):=⟨q.toNat,by omega⟩;rw[cI0]at q1;have cE:=mF u q1;have cH:u<W.length:=by omega
   have hW1':W[u]'cH=Gy xs u:=(aB0.1 cE).2;have vE:=LS_ (xs:=xs) wG;rw[cI0]at vE;have yJ:(MO xs (F.take k)).length<=1040:=by unfold MO;rw[aJ0,aT0];omega
   have vK:=Ry_ xs (F.take k);obtain⟨T,hT⟩:∃T,T=MO xs (F.take k):=⟨_,rfl⟩;rw[<-hT]at vE yJ vK |-;have hb:(T.length+1)*32<=150000000000000:=by omega
   have zC:IntKind.i64.wrap ((k:Int)+1)=(k:Int)+1:=wq;clear jP vC gA vY hT yJ
   (refine Au Aa Aa (Hn @Du.eq_1 @Bg.eq_1 qW wG dH cH cE hW1' hb zC) ?_;intros;refine Ae ?_)
   refine Ag.mk ⟨k+1,by omega⟩ (Sub.lit (by simp[vE,vK])) (by simp;omega)
   skip
  ·have qY:k=F.length:=by omega
   subst qY;rw[aN0];refine Qv_ 60 (es':=(prF xs F).map Ah) (e:=⟨60,1,.row 92 2 32 (MO xs F)⟩) rfl rfl (by unfold MO prF;rw[cF0];exact Um _ _ (TX_ xs) F) ?_;simp only[LP,NN_];simp
   (refine Au (Aq e6) Aa Aa ?_;intros;refine Ae ?_)
   have p0:prA xs []=[]:=rfl;refine Af (X:={k:Nat//k<=Z.length}) (fun k=>⟨[(2,.bx 2 1 0),(5,Cl W),(8,.bx 8 1 0),(71,Cz Z),(72,.int .i64 Z.length),(73,.int .i64 k.1)],[⟨2,1,.box [.int .i64 0,.nilsl]⟩,⟨8,1,.box [.int .i64 (N:Int),.osl 60 1]⟩,⟨60,1,.row 92 2 32 ((prF xs F).map Ah++(prA xs (Z.take k.1)).map Ah)⟩]⟩) (fun k=>Z.length-k.1) ⟨0,by simp⟩ (Sub.lit (by simp[p0])) ?_;rintro⟨k,hk⟩;simp only
   by_cases yV:k<Z.length
   ·obtain⟨x,hx,qU,wA⟩:=Ai yV;obtain⟨x0,x1,x2,x3⟩:=gA x wA;obtain⟨fr,sy,to⟩:=x;simp only at x0 x1 x2 x3;obtain⟨u,rfl⟩:∃u:Nat,fr=(u:Int):=⟨fr.toNat,by omega⟩;obtain⟨v,rfl⟩:∃v:Nat,to=(v:Int):=⟨to.toNat,by omega⟩;rw[cI0]at x1 x3;have cE:=mF u x1;have hW2:=mF v x3;have cH:u<W.length:=by omega
    have hvl:v<W.length:=by omega
    have hW1':W[u]'cH=Gy xs u:=(aB0.1 cE).2;have hW2':W[v]'hvl=Gy xs v:=(aB0.1 hW2).2;have vE:=congrArg (List.map Ah) (NO_ (xs:=xs) hx);rw[aX0]at vE;have jV:List.map Ah (prA xs (Z.take (k+1)))=List.map Ah (prA xs (Z.take k))++[[.int .i64 (Gy xs u:Int),.sl 2 16 [[.bool sy.label,.int .i64 sy.n],[.bool false,.int .i64 (Gy xs v:Int)]]]]:=by rw[vE];simp[Ah,pA,AY,AA]
    have yJ:(prF xs F).length<=1040:=by unfold prF;rw[aJ0];exact vC
    have rP:(prA xs (Z.take k)).length<=17179870208:=by unfold prA;rw[aJ0,aT0];omega
    have zC:IntKind.i64.wrap ((k:Int)+1)=(k:Int)+1:=wq;obtain⟨T,hT⟩:∃T,T=prA xs (Z.take k):=⟨_,rfl⟩;rw[<-hT]at jV rP |-;obtain⟨PF,hPF⟩:∃PF,PF=prF xs F:=⟨_,rfl⟩;rw[<-hPF]at yJ |-;have hb:(PF.length+T.length+1)*32<=150000000000000:=Uc_ yJ rP;have cQ:PF.length+T.length<=9223372036854775806:=by omega
    have zS:List.range 2=[0,1]:=rfl;clear jP vC gA vY hT yJ rP vE hPF
    (refine Au Aa Aa (My_ @Bm.eq_1 @Bg.eq_1 yV hx qU cH hvl cE hW1' hW2 hW2' hb cQ zS zC) ?_;intros;refine Ae ?_)
    refine Ag.mk ⟨k+1,by omega⟩ (Sub.lit (by simp[jV])) (by simp;omega)
    skip
   ·have qY:k=Z.length:=by omega
    subst qY;rw[aN0];have hPP:List.map Ah (prF xs F)++List.map Ah (prA xs Z)=(List.map (pF xs) F++List.map (pA xs) Z).map Ah:=by unfold prF prA;rw[<-aX0]
    rw[hPP];obtain⟨PP,hPq⟩:∃PP,PP=List.map (pF xs) F++List.map (pA xs) Z:=⟨_,rfl⟩;rw[<-hPq]at e7 |-;simp only[Ar]at e7;refine Fw (Sub.freezeL [60] _) ?_;simp;exact Al (Aq e7) Aa Aa
end Go.Proofs.Wy
end
section
namespace Go.Proofs.Wy
open Go Go.Dm Tryz
variable [DMode]
attribute [local irreducible] DW Bs Bv

end Go.Proofs.Wy
end
section
namespace Go.Proofs.Wy
open Go Go.Dm Tryz
variable [DMode]
attribute [local irreducible] DW Bs Bv
set_option maxRecDepth 100000
theorem Dc {a b:Int}:EY a b<0↔a<b:=by unfold EY;split<;>(try split)<;>constructor<;>intro h<;>omega
theorem Sa {a b:Int}:EY a b=0↔a=b:=by unfold EY;split<;>(try split)<;>constructor<;>intro h<;>omega
def NM : Ann:=⟨[],[]⟩
theorem aV (x y:Sym):Ac prog 206 [.agg (AA x),.agg (AA y)] (.bool (decide (Gk x y<0))):=by
 refine Ab [] NM func206 call206 ntmps206 mxd (Ap @NM.eq_1 results206) rfl (fun qJ B qX qQ=> ?_);simp only[Ak];cases h1:x.label<;>cases h2:y.label<;>(repeat (first | refine AI fun K hK=> ?_ | (refine BR NM mxd (by kernel_rfl) ?_;simp[NM,qX,AA,h1,h2,Gk,Dc];try simp (disch:=omega) only[Ao]) | refine Aw ?_ | (refine Bb ?_ ?_ ?_;(· (simp[qX,AA,h1,h2,Gk,Dc];done));(try (rotate_left;(· (intro hc;(try simp[qX,AA,h1,h2,Gk,Dc]at hc);done))))) | (refine AK ?_;simp[results206,qX,AA,h1,h2,Gk,Dc]) | ((first | refine AD ?_ | refine AC ?_);simp[qX,AA,h1,h2,Gk,Dc]) | (intro hc;(try simp[qX,AA,h1,h2,Gk,Dc]at hc);(try (exfalso;omega))) | (refine⟨?_,?_⟩; · omega) | omega | apply_assumption -exfalso -symm | (exfalso;omega)))
theorem No_ {x y:Sym}:Gk x y=0↔x=y:=by
 obtain⟨l,n⟩:=x;obtain⟨l',n'⟩:=y;cases l<;>cases l'<;>simp[Gk,Sa]
def Ii : Ann:=⟨[],[]⟩
theorem YZ (p q:Prod):Ac prog 136 [.agg (Ah p),.agg (Ah q)] (.bool (decide (Bp p q<0))):=by
 refine Ab [] Ii func136 call136 ntmps136 mxd (Ap @Ii.eq_1 results136) rfl (fun qJ B qX qQ=> ?_);have hw:Na_ p:=MZ_ (by simpa[Gj,Dq]using qJ.1);obtain⟨wF,yI,cV,yL⟩:=hw;clear qJ;simp only[Ak]
 by_cases h0:p.head=q.head
 rotate_left
 ·have hb:(p.head != q.head)=true:=by simp[h0]
  have bS:Bp p q=EY p.head q.head:=by unfold Bp;rw[if_neg (fun hh=>h0 (Sa.1 hh))]
  (repeat (first | refine AI fun K hK=> ?_ | (refine BR Ii mxd (by kernel_rfl) ?_;simp[Ii,qX,Ah,h0,hb,bS,Dc];try simp (disch:=omega) only[Ao]) | refine Aw ?_ | (refine Bb ?_ ?_ ?_;(· (simp[qX,Ah,h0,hb,bS,Dc];done));(try (rotate_left;(· (intro hc;(try simp[qX,Ah,h0,hb,bS,Dc]at hc);done))))) | (refine AK ?_;simp[results136,qX,Ah,h0,hb,bS,Dc]) | ((first | refine AD ?_ | refine AC ?_);simp[qX,Ah,h0,hb,bS,Dc]) | (intro hc;(try simp[qX,Ah,h0,hb,bS,Dc]at hc);(try (exfalso;omega))) | (refine⟨?_,?_⟩; · omega) | omega | apply_assumption -exfalso -symm | (exfalso;omega)))
 by_cases hl:p.body.length=q.body.length
 rotate_left
 ·have hb:(p.head != q.head)=false:=by simp[h0]
  have wD:((p.body.length:Int) != q.body.length)=true:=by simp;omega
  have wS:¬(p.body.length:Int)=q.body.length:=by omega
  have bS:Bp p q=EY p.body.length q.body.length:=by
   unfold Bp;rw[if_pos (Sa.2 h0),if_neg (fun hh=>wS (Sa.1 hh))]
  (repeat (first | refine AI fun K hK=> ?_ | (refine BR Ii mxd (by kernel_rfl) ?_;simp[Ii,qX,Ah,h0,hb,hl,wD,wS,bS,Dc];try simp (disch:=omega) only[Ao]) | refine Aw ?_ | (refine Bb ?_ ?_ ?_;(· (simp[qX,Ah,h0,hb,hl,wD,wS,bS,Dc];done));(try (rotate_left;(· (intro hc;(try simp[qX,Ah,h0,hb,hl,wD,wS,bS,Dc]at hc);done))))) | (refine AK ?_;simp[results136,qX,Ah,h0,hb,hl,wD,wS,bS,Dc]) | ((first | refine AD ?_ | refine AC ?_);simp[qX,Ah,h0,hb,hl,wD,wS,bS,Dc]) | (intro hc;(try simp[qX,Ah,h0,hb,hl,wD,wS,bS,Dc]at hc);(try (exfalso;omega))) | (refine⟨?_,?_⟩; · omega) | omega | apply_assumption -exfalso -symm | (exfalso;omega)))
 have hb:(p.head != q.head)=false:=by simp[h0]
 obtain⟨r,hr⟩:∃r,r=decide (Bp p q<0):=⟨_,rfl⟩;rw[<-hr]
 have bS:Bp p q=GM Gk p.body q.body:=by
  unfold Bp;rw[if_pos (Sa.2 h0),if_pos (Sa.2 (by omega))];rfl
 rw[bS]at hr;clear bS
 (refine Au Aa Aa (CG @Ah.eq_1 h0 hb hl) ?_;intros;refine Ae ?_)
 refine Af (X:={k:Nat//k<=q.body.length/\r=decide (GM Gk (p.body.drop k) (q.body.drop k)<0)}) (fun k=>⟨[(2,.ref (Ah p)),(3,.ref (Ah q)),(5,.int .i64 k.1)],[]⟩) (fun k=>q.body.length-k.1) ⟨0,by simp[hr]⟩ (Sub.lit (by simp[Ah,h0])) ?_;rintro⟨k,hk,wU⟩;clear hr
 by_cases qV:k<q.body.length
 ·obtain⟨x,hx,qU,wA⟩:=Ai (show k<p.body.length by omega);obtain⟨y,hy,wN,gG⟩:=Ai qV;rw[II_ hx hy]at wU
  by_cases fY:x=y
  ·subst fY;rw[if_pos (No_.2 rfl)]at wU;clear hx hy
   (refine Au Aa Aa (EB @Ah.eq_1 @AA.eq_1 hl qV qU wN) ?_;intros;refine Ae ?_)
   refine Ag.mk ⟨k+1,by omega,wU⟩ (Sub.lit (by simp[Ah])) (by simp;omega)
   skip
  ·rw[if_neg (fun hh=>fY (No_.1 hh))]at wU;have hs:=aV x y;simp only[AA]at hs;rw[<-wU]at hs;have qK:¬(x.label=y.label/\x.n=y.n):=fun hh=>fY (by cases x;cases y;simp_all)
   have nD:x.label=y.label->¬x.n=y.n:=fun h1 h2=>qK ⟨h1,h2⟩
   clear hx hy wU;exact Al (Aq hs) Aa (Ji @Ah.eq_1 @AA.eq_1 hl qV qU wN qK nD)
 ·have zO:k=q.body.length:=by omega
  subst zO
  have hrf:r=false:=by
   rw[wU,cU0 (by omega),cU0 (by omega)];simp[GM]
  exact Al Aa Aa (BC @Ah.eq_1 hl hrf)
end Go.Proofs.Wy
end
section
namespace Go.Proofs.Wy

end Go.Proofs.Wy
end
section
namespace Go.Proofs.Wy
open Go Go.Dm Tryz
variable [DMode]
attribute [local irreducible] DW Bs Bv
set_option maxRecDepth 100000
def Jk_ : Ann:=⟨[],[]⟩
theorem Bc_ (l:List Prod) (p:Prod) (qM:(l.length+1)*32<=150000000000000):Ac prog 52 [Bq l,.agg (Ah p)] (Bq (BO Bp l p)):=by
 refine Ab [50] Jk_ func52 call52 ntmps52 mxd (Ap @Jk_.eq_1 results52) rfl (fun qJ B qX qQ=> ?_);have hw:aK l:=aJ qJ.1;obtain⟨_,yI,cV⟩:=hw;clear qJ;simp only[Ak];obtain⟨r,hr⟩:∃r,r=BO Bp l p:=⟨_,rfl⟩;rw[<-hr]
 (refine Au Aa Aa (Aq @Ah.eq_1) ?_;intros;refine Ae ?_)
 refine Bk 5 50 92 2 32 (by simp[qX,ntmps52]) (fun n=> ?_);refine Af (X:={x:Nat×Bool×List Prod//x.1<=l.length/\x.2.2.length<=x.1+(if x.2.1 then 1 else 0)/\x.2.2++(if x.2.1 then l.drop x.1 else BO Bp (l.drop x.1) p)=r}) (fun x=>⟨[(0,Bq l),(3,.ref (Ah p)),(5,.osl 50 1),(6,.bool x.1.2.1),(7,.int .i64 x.1.1)],[⟨50,1,.row 92 2 32 (x.1.2.2.map Ah)⟩]⟩) (fun x=>l.length-x.1.1) ⟨(0,false,[]),by simp[hr]⟩ (Sub.lit (by simp[Ah])) ?_
 rintro⟨⟨k,b,R⟩,hk,hR,wU⟩;simp only at hk hR wU |-;clear hr
 by_cases qV:k<l.length
 ·obtain⟨q,hq,vV,jJ⟩:=Ai qV;rw[aP0 qV,vV]at wU;have h1:=YZ q p;have h2:=YZ p q;simp only[Ah]at h1 h2;cases b
  ·simp only[aK0,if_false,BO,cT0]at hR wU;have vA:(R.length+1)*32<=150000000000000:=Nat.le_trans (aQ0 32 (by omega)) qM;have wM:R.length<=9223372036854775806:=by omega
   have cB:(R.length+1+1)*32<=150000000000000:=Nat.le_trans (aQ0 32 (by omega)) qM;have cD:R.length+1<=9223372036854775806:=by omega
   by_cases c1:Bp q p<0
   ·rw[if_pos c1]at wU;simp only[c1,decide_true]at h1
    (refine Au (Ap h1 h2) Aa (Ez @Ah.eq_1 qV vV vA wM cB cD) ?_;intros;refine Ae ?_)
    refine Ag.mk ⟨(k+1,false,R++[q]),show k+1<=l.length/\(R++[q]).length<=k+1+_/\_ from ⟨by omega,by simp;omega,by simpa using wU⟩⟩ (Sub.lit (by simp[Ah])) (by simp;omega)
    skip
   ·rw[if_neg c1]at wU;simp only[c1,decide_false]at h1
    by_cases c2:Bp p q<0
    ·rw[if_pos c2]at wU;simp only[c2,decide_true]at h2
     (refine Au (Ap h1 h2) Aa (Ez @Ah.eq_1 qV vV vA wM cB cD) ?_;intros;refine Ae ?_)
     refine Ag.mk ⟨(k+1,true,R++[p,q]),show k+1<=l.length/\(R++[p,q]).length<=k+1+_/\_ from ⟨by omega,by simp;omega,by simpa using wU⟩⟩ (Sub.lit (by simp[Ah])) (by simp;omega)
     skip
    ·rw[if_neg c2]at wU;simp only[c2,decide_false]at h2
     (refine Au (Ap h1 h2) Aa (Ez @Ah.eq_1 qV vV vA wM cB cD) ?_;intros;refine Ae ?_)
     refine Ag.mk ⟨(k+1,true,R++[q]),show k+1<=l.length/\(R++[q]).length<=k+1+_/\_ from ⟨by omega,by simp;omega,by simpa using wU⟩⟩ (Sub.lit (by simp[Ah])) (by simp;omega)
     skip
  ·simp only[if_true]at hR wU;have vA:(R.length+1)*32<=150000000000000:=Nat.le_trans (aQ0 32 (by omega)) qM;have wM:R.length<=9223372036854775806:=by omega
   (refine Au (Ap h1 h2) Aa (Dx @Ah.eq_1 qV vV vA wM) ?_;intros;refine Ae ?_)
   refine Ag.mk ⟨(k+1,true,R++[q]),show k+1<=l.length/\(R++[q]).length<=k+1+_/\_ from ⟨by omega,by simp;omega,by simpa using wU⟩⟩ (Sub.lit (by simp[Ah])) (by simp;omega)
   skip
 ·have zO:k=l.length:=by omega
  subst zO;rw[bE0]at wU;cases b
  ·simp only[aK0,if_false,BO,cT0]at hR wU;subst wU;have vA:(R.length+1)*32<=150000000000000:=Nat.le_trans (aQ0 32 (by omega)) qM;have wM:R.length<=9223372036854775806:=by omega
   exact Al Aa Aa (BC @Ah.eq_1 vA wM)
  ·simp only[if_true,bM0]at hR wU;subst wU;exact Al Aa Aa (Aq @Ah.eq_1)
def DA (l:List Prod):DVal:=if l=[]then .nilsl else Bq l
@[local simp] theorem Om_ (l:List Prod):mx (DA l)=0:=by unfold DA;split<;>simp[mx]
theorem RK {l:List Prod} {p:Prod}:(BO Bp l p).length<=l.length+1:=by
 induction l with
 | nil=>simp[BO]
 | cons x l ih=>simp only[BO];split<;>(try split)<;>simp<;>omega
theorem LL_ (l:List Prod) (a:List Prod):(l.foldl (BO Bp) a).length<=a.length+l.length:=by
 induction l generalizing a with
 | nil=>simp
 | cons x l ih=>have h1:=ih (BO Bp a x);have h2:=RK (l:=a) (p:=x);simp only[cM0,List.length_cons];omega
theorem Lk (l:List Prod) (p:Prod) (qM:(l.length+1)*32<=150000000000000):Ac prog 52 [DA l,.agg (Ah p)] (DA (BO Bp l p)):=by
 have h:=Bc_ l p qM;unfold DA;rw[if_neg (TX l p)]
 split
 ·rename_i h0;subst h0;refine⟨h.1,h.2.1,fun cur M w vs hM hr=>h.2.2 cur M w vs hM (UT ?_ hr)⟩;simp only[aE];exact⟨by simp[Bq],aD _,trivial⟩
 ·exact h
theorem Fy (l:List Prod):DA l= .nilsl\/∃m,DA l=Bq m:=by
 unfold DA
 split
 ·exact .inl rfl
 ·exact .inr ⟨_,rfl⟩
def QN : Ann:=⟨[],[]⟩
theorem eP (c:Cnf):Ac prog 148 [.agg (Ar c)] (.agg (Ar ⟨c.nts,c.prods.foldl (BO Bp) []⟩)):=by
 have key:Ac prog 148 [.agg (Ar c)] (.agg [.int .i64 c.nts,DA (c.prods.foldl (BO Bp) [])]):=by
  refine Ab [] QN func148 call148 ntmps148 mxd (Ap @QN.eq_1 results148) rfl (fun qJ B qX qQ=> ?_);have hw:uN c:=Ut (by simpa[Gj,Dq]using qJ.1);obtain⟨wF,yI,cV,yL⟩:=hw;clear qJ;simp only[Ak]
  (refine Au Aa Aa (Aq @Ar.eq_1) ?_;intros;refine Ae ?_)
  refine Af (X:={k:Nat//k<=c.prods.length}) (fun k=>⟨[(1,.ref (Ar c)),(2,.bx 2 1 0),(3,.bx 3 1 0),(4,.int .i64 k.1)],[⟨2,1,.box [.int .i64 0,.nilsl]⟩,⟨3,1,.box [.int .i64 c.nts,DA ((c.prods.take k.1).foldl (BO Bp) [])]⟩]⟩) (fun k=>c.prods.length-k.1) ⟨0,by simp⟩ (Sub.lit (by simp[Ar,DA])) ?_;rintro⟨k,hk⟩
  by_cases qV:k<c.prods.length
  ·obtain⟨p,hp,qI,vK⟩:=Ai qV;have vC:=LL_ (c.prods.take k) [];rw[aT0,List.length_nil]at vC;have h1:=Lk ((c.prods.take k).foldl (BO Bp) []) p (Nat.le_trans (aQ0 32 (by omega)) yI)
   have qH:(c.prods.take (k+1)).foldl (BO Bp) []=BO Bp ((c.prods.take k).foldl (BO Bp) []) p:=by
    rw[bD0,hp];simp[cH0]
   simp only[Ah]at h1;have nJ:DA (BO Bp ((c.prods.take k).foldl (BO Bp) []) p)=Bq (BO Bp ((c.prods.take k).foldl (BO Bp) []) p):=by unfold DA;rw[if_neg (TX _ _)]
   rw[nJ]at h1;obtain⟨Y,hY⟩:∃Y,Y=BO Bp ((c.prods.take k).foldl (BO Bp) []) p:=⟨_,rfl⟩;rw[<-hY]at h1 nJ
   rcases Fy ((c.prods.take k).foldl (BO Bp) [])with hA | ⟨Z,hA⟩
   ·rw[hA]at h1;rw[hA]
    (repeat (first | refine AI fun K hK=> ?_ | (refine BR QN mxd (by kernel_rfl) ?_;simp[QN,qX,Ar,Ah,qV,qI];try simp (disch:=omega) only[Ao]) | refine Aw ?_ | (refine Bb ?_ ?_ ?_;(· (simp[qX,Ar,Ah,qV,qI];done));(try (rotate_left;(· (intro hc;(try simp[qX,Ar,Ah,qV,qI]at hc);done))))) | (refine AK ?_;simp[results148,qX,Ar,Ah,qV,qI]) | ((first | refine AD ?_ | refine AC ?_);simp[qX,Ar,Ah,qV,qI]) | (intro hc;(try simp[qX,Ar,Ah,qV,qI]at hc);(try (exfalso;omega))) | ((first | refine An (h1) ?_ | (refine Am (h1) ?_ ?_;(· (simp;done))));try simp[qX,Ar,Ah,qV,qI]) | (refine⟨?_,?_⟩; · omega) | omega | apply_assumption -exfalso -symm | (exfalso;omega)))
    refine Ag.mk ⟨k+1,by omega⟩ (Sub.lit (by simp[qH,<-hY,nJ])) (by simp;omega)
    skip
   ·rw[hA]at h1;rw[hA]
    (refine Au (Aq h1) Aa (CG @Ar.eq_1 @Ah.eq_1 qV qI) ?_;intros;refine Ae ?_)
    refine Ag.mk ⟨k+1,by omega⟩ (Sub.lit (by simp[qH,<-hY,nJ])) (by simp;omega)
    skip
  ·have qY:k=c.prods.length:=by omega
   subst qY;rw[aN0]
   rcases Fy (c.prods.foldl (BO Bp) [])with hA | ⟨Z,hA⟩
   ·rw[hA];exact Al Aa Aa (Ap @Ar.eq_1 hA)
   ·rw[hA];exact Al Aa Aa (Ap @Ar.eq_1 hA)
 refine key.wk ?_ (by simp[mx,Ar]);simp only[Ar,DA]
 split
 ·rename_i h0;rw[h0];simp[Bq]
 ·simp
end Go.Proofs.Wy
end
section
namespace Go.Proofs.Wy
open Go Go.Dm Tryz
attribute [local irreducible] DW Bs Bv
set_option maxRecDepth 100000
theorem Nx_ : ∀(xs:List Auto) (f:Nat),(∀a∈xs,1<=a.st)->((Cu f xs).map (·.2)).Pairwise (· < ·)/\∀q∈(Cu f xs).map (·.2),f<=q/\q<f+AQ xs
 | [],f,_=>by simp[Cu]
 | a::xs,f,h=>by
  have h3:AQ (a::xs)=a.st.toNat+AQ xs:=by simp[AQ]
  have h4:=h a aF0;obtain⟨h1,h2⟩:=Nx_ xs (f+a.st.toNat) fun x hx=>h x (aE0 _ hx)
  rw[Cu,List.map_cons];refine⟨bS0.2 ⟨fun q hq=> ?_,h1⟩,fun q hq=> ?_⟩
  ·have:=h2 q hq;simp only;omega
  ·rcases aL0.1 hq with rfl | hq
   ·first | omega | (simp only;omega)
   ·have:=h2 q hq;omega
theorem Ga_ {xs:List Auto} (h:∀a∈xs,1<=a.st):xs.length+Gc xs (AQ xs)=AQ xs:=by
 obtain⟨h1,h2⟩:=Nx_ xs 0 h;have kY:(JE xs).Pairwise (· < ·):=h1;have yU:∀q∈JE xs,q<AQ xs:=fun q hq=>by have:=h2 q hq;omega
 have hp:((List.range (AQ xs)).filter fun p=>decide (p∈JE xs)).Perm (JE xs):=by
  refine(List.perm_ext_iff_of_nodup (List.nodup_range.filter _) (kY.imp fun h=>Nat.ne_of_lt h)).2 fun q=> ?_
  rw[cQ0,cP0];simp only[decide_eq_true_eq];exact⟨fun h=>h.2,fun h=>⟨yU q h,h⟩⟩
 have hl:=hp.length_eq;rw[TH]at hl
 have hs:∀l:List Nat,(l.filter fun p=>decide (p∈JE xs)).length+(l.filter fun p=>decide (¬p∈JE xs)).length=l.length:=by
  intro l
  induction l with
  | nil=>rfl
  | cons x l ih=>by_cases hx:x∈JE xs<;>simp[hx]at ih |- <;>omega
 have:=hs (List.range (AQ xs));rw[dY0]at this;unfold Gc;omega
theorem Lh_ (l:List Nat):l.map Bg=(l.map XG).map Du:=by rw[cF0];rfl
theorem KI_ (l:List Nat) (q:Nat):Ac prog 137 [Cl l,.int .i64 (q:Int)] (.bool (decide (q∈l))):=by
 have h:=FD_ (l.map XG) q;rw[show BD (l.map XG)=Cl l by unfold BD Cl;rw[Lh_]]at h
 have he:decide ((q:Int)∈l.map XG)=decide (q∈l):=by
  refine decide_eq_decide.2 ?_;rw[aU0]
  constructor
  ·rintro⟨x,hx,he⟩;have:x=q:=by unfold XG at he;omega
   rw[<-this];exact hx
  ·exact fun h=>⟨q,h,rfl⟩
 rw[he]at h;exact h
def JR_ : Ann:=⟨[],[]⟩
theorem eR (xs:List Auto) (q:Nat) (hl:xs.length<=16) (hs:AQ xs<=1040) (hq:q<AQ xs):Ac prog 53 [XM xs,.int .i64 (q:Int)] (.int .i64 (Gy xs q:Int)):=by
 refine Ab [] JR_ func53 call53 ntmps53 mxd (Ap @JR_.eq_1 results53) rfl (fun qJ B qX qQ=> ?_);clear qJ;simp only[Ak,XM];have hsl:=TH xs;have bY:=PL xs;have e1:∀p:Nat,_:=fun p=>KI_ (JE xs) p
 (refine Au Aa Aa Aa ?_;intros;refine Ae ?_)
 refine Af (X:={k:Nat//k<=q}) (fun k=>⟨[(1,.int .i64 (q:Int)),(2,.ref [.int .i64 (AQ xs),Cl (JE xs),Cl (Rv xs),BD (GH xs),Cz (Gn xs),Wu xs]),(5,.int .i64 ((xs.length+Gc xs k.1:Nat):Int)),(6,.int .i64 k.1)],[]⟩) (fun k=>q-k.1) ⟨0,by simp⟩ (Sub.lit (by simp[ZB,hsl])) ?_;rintro⟨k,hk⟩;simp only
 by_cases qV:k<q
 ·have e2:=e1 k;have zR:=NH xs k;have jH:=oP xs k;have fQ:(k:Int)<(q:Int):=by omega
  have zC:IntKind.i64.wrap ((k:Int)+1)=(k:Int)+1:=wq
  by_cases wR:k∈JE xs
  ·rw[if_pos wR,cT0]at zR;rw[decide_eq_true wR]at e2
   (refine Au (Aq e2) Aa (Ap fQ zC) ?_;intros;refine Ae ?_)
   refine Ag.mk ⟨k+1,by omega⟩ (Sub.lit (by simp[zR])) (by simp;omega)
   skip
  ·rw[if_neg wR]at zR;rw[decide_eq_false wR]at e2;have hwn:IntKind.i64.wrap (((xs.length+Gc xs k:Nat):Int)+1)=((xs.length+Gc xs (k+1):Nat):Int):=by rw[wq,zR];omega
   obtain⟨N,hN⟩:∃N,N=xs.length+Gc xs k:=⟨_,rfl⟩;obtain⟨N2,hN2⟩:∃N,N=xs.length+Gc xs (k+1):=⟨_,rfl⟩;rw[<-hN,<-hN2]at hwn;rw[<-hN];have hN3:(xs.length:Int)+(Gc xs (k+1):Int)=(N2:Int):=by omega
   (refine Au (Aq e2) Aa (BC fQ zC hwn) ?_;intros;refine Ae ?_)
   refine Ag.mk ⟨k+1,by omega⟩ (Sub.lit (by simp[hN3])) (by simp;omega)
   skip
 ·have qY:k=q:=by omega
  subst qY;have e2:=e1 k;have fQ:¬(k:Int)<(k:Int):=by omega
  by_cases wR:k∈JE xs
  ·rw[decide_eq_true wR]at e2;obtain⟨j,hj⟩:∃j,(Rv xs)[k]? =some j:=⟨_,aD0 (by omega)⟩;have mF:=iG wR hj;have qW:k<(Rv xs).length:=by omega
   have fK:(Rv xs)[k]'qW=j:=(aB0.1 hj).2;rw[mF];exact Al (Aq e2) Aa (Dx @Bg.eq_1 fQ qW hj fK)
  ·rw[decide_eq_false wR]at e2;have mF:=Vh wR;rw[mF];exact Al (Aq e2) Aa (Aq fQ)
theorem Bl_ {α β:Type} (f:β->α->β) (b:β) {l:List α} {k:Nat} {x:α} (h:l[k]? =some x):(l.take (k+1)).foldl f b=f ((l.take k).foldl f b) x:=by
 rw[bD0,h,cH0];rfl
def NW (xs:List Auto) (l:List Int):List Prod:=l.foldl (fun P q=>BO Bp P (pF xs q)) []
def Nc (xs:List Auto) (P0:List Prod) (l:List Arc):List Prod:=l.foldl (fun P x=>BO Bp P (pA xs x)) P0
theorem Wg (xs:List Auto):∀(l:List Int) (P:List Prod),(l.foldl (fun P q=>BO Bp P (pF xs q)) P).length<=P.length+l.length
 | [],P=>by simp
 | q::l,P=>by
  have h1:=Wg xs l (BO Bp P (pF xs q));have h2:=RK (l:=P) (p:=pF xs q);rw[cM0,List.length_cons];omega
theorem Ce_ (xs:List Auto):∀(l:List Arc) (P:List Prod),(Nc xs P l).length<=P.length+l.length
 | [],P=>by simp[Nc]
 | x::l,P=>by
  have h1:=Ce_ xs l (BO Bp P (pA xs x));have h2:=RK (l:=P) (p:=pA xs x);unfold Nc at h1 |-;rw[cM0,List.length_cons];omega
theorem Mx_ (xs:List Auto):Nc xs (NW xs (GH xs)) (Gn xs)=(Hx xs).prods.foldl (BO Bp) []:=by
 unfold Nc NW Hx;rw[cH0,List.foldl_map,List.foldl_map]
theorem Ub_ {a b:Nat} (h1:a<=1040+b) (h2:b<=17179870208):(a+1)*32<=150000000000000:=by omega
def JS_ : Ann:=⟨[],[⟨9,[6],[],[]⟩]⟩
theorem Fy_ (xs:List Auto) (vW:∀a∈xs,SmA a) (hl:xs.length<=16):Ac prog 15 [XM xs] (.agg [.int .i64 (AQ xs:Int),DA ((Hx xs).prods.foldl (BO Bp) [])]):=by
 refine Ab [] JS_ func15 call15 ntmps15 mxd (Ap @JS_.eq_1 results15) rfl (fun qJ B qX qQ=> ?_) (hd:=(by simp[mx,AV,Om_]));clear qJ;have hsl:=Jm (l:=xs) fun a ha=>(vW a ha).ok
 have gR:AQ xs<=1040:=Nat.le_trans hsl (bY0 65 hl);have e1:∀q,q<AQ xs->_:=fun q hq=>eR xs q hl gR hq
 have vY:∀q∈GH xs,0<=q/\q.toNat<AQ xs:=fun q hq=>oA vW hq
 have gA:∀x∈Gn xs,0<=x.fr/\x.fr.toNat<AQ xs/\0<=x.to/\x.to.toNat<AQ xs:=fun x hx=>tH vW hx
 have vC:(GH xs).length<=1040:=Nat.le_trans (MP vW 0) (bY0 65 hl);have jP:(Gn xs).length<=17179870208:=Nat.le_trans (Nb vW 0) (bY0 1073741888 hl);rw[<-Mx_];simp only[Ak,XM]at e1 |-;obtain⟨F,hF⟩:∃F,F=GH xs:=⟨_,rfl⟩;rw[<-hF]at e1 vY vC |-;obtain⟨Z,hZ⟩:∃Z,Z=Gn xs:=⟨_,rfl⟩;rw[<-hZ]at e1 gA jP |-;clear hF hZ hsl vW;have f0:DA (NW xs [])= .nilsl:=rfl
 (refine Au Aa Aa Aa ?_;intros;refine Ae ?_)
 refine Af (X:={k:Nat//k<=F.length}) (fun k=>⟨[(1,.ref [.int .i64 (AQ xs),Cl (JE xs),Cl (Rv xs),BD F,Cz Z,Wu xs]),(2,.bx 2 1 0),(3,.bx 3 1 0),(4,.int .i64 k.1)],[⟨2,1,.box [.int .i64 0,.nilsl]⟩,⟨3,1,.box [.int .i64 (AQ xs),DA (NW xs (F.take k.1))]⟩]⟩) (fun k=>F.length-k.1) ⟨0,by simp⟩ (Sub.lit (by simp[f0])) ?_;rintro⟨k,hk⟩;simp only
 by_cases qV:k<F.length
 ·obtain⟨q,wG,dH,jJ⟩:=Ai qV;obtain⟨q0,q1⟩:=vY q jJ;obtain⟨u,rfl⟩:∃u:Nat,q=(u:Int):=⟨q.toNat,by omega⟩;rw[cI0]at q1;have e2:=e1 u q1;have sO:NW xs (F.take (k+1))=BO Bp (NW xs (F.take k)) (pF xs u):=Bl_ _ _ wG;have yO:(NW xs (F.take k)).length<=0+(F.take k).length:=Wg xs (F.take k) [];rw[aT0]at yO;obtain⟨P,hP⟩:∃P,P=NW xs (F.take k):=⟨_,rfl⟩;rw[<-hP]at sO yO |-;have h1:=Lk P (pF xs u) (by omega);rw[<-sO]at h1
  have hp:Ah (pF xs u)=[.int .i64 (Gy xs u:Int),.sl 2 16 []]:=rfl;rw[hp]at h1;have zC:IntKind.i64.wrap ((k:Int)+1)=(k:Int)+1:=wq;have nJ:DA (NW xs (F.take (k+1)))=Bq (NW xs (F.take (k+1))):=by rw[sO];unfold DA;rw[if_neg (TX _ _)]
  rw[nJ]at h1;obtain⟨Y,hY⟩:∃Y,Y=NW xs (F.take (k+1)):=⟨_,rfl⟩;rw[<-hY]at h1;have hA2:DA (NW xs (F.take (k+1)))=Bq Y:=by rw[nJ,hY]
  clear jP vC gA vY yO hP sO gR nJ
  rcases Fy P with hA | ⟨Z2,hA⟩
  ·rw[hA]at h1;rw[hA]
   (refine Au (Ap e2 h1) Aa (Dx @Du.eq_1 qV wG dH zC) ?_;intros;refine Ae ?_)
   refine Ag.mk ⟨k+1,by omega⟩ (Sub.lit (by simp[hA2])) (by simp;omega)
   skip
  ·rw[hA]at h1;rw[hA]
   (refine Au (Ap e2 h1) Aa (Dx @Du.eq_1 qV wG dH zC) ?_;intros;refine Ae ?_)
   refine Ag.mk ⟨k+1,by omega⟩ (Sub.lit (by simp[hA2])) (by simp;omega)
   skip
 ·have qY:k=F.length:=by omega
  subst qY;rw[aN0];have mI:(NW xs F).length<=0+F.length:=Wg xs F [];obtain⟨P0,hP0⟩:∃P0,P0=NW xs F:=⟨_,rfl⟩;rw[<-hP0]at mI |-
  (refine Au Aa Aa Aa ?_;intros;refine Ae ?_)
  refine Af (X:={k:Nat//k<=Z.length}) (fun k=>⟨[(1,.ref [.int .i64 (AQ xs),Cl (JE xs),Cl (Rv xs),BD F,Cz Z,Wu xs]),(2,.bx 2 1 0),(3,.bx 3 1 0),(5,.int .i64 k.1)],[⟨2,1,.box [.int .i64 0,.nilsl]⟩,⟨3,1,.box [.int .i64 (AQ xs),DA (Nc xs P0 (Z.take k.1))]⟩]⟩) (fun k=>Z.length-k.1) ⟨0,by simp⟩ (Sub.lit (by rcases Fy P0 with hh | ⟨_,hh⟩<;>simp[Nc,hh])) ?_;rintro⟨k,hk⟩;simp only
  by_cases yV:k<Z.length
  ·obtain⟨x,hx,qU,wA⟩:=Ai yV;obtain⟨x0,x1,x2,x3⟩:=gA x wA;obtain⟨fr,sy,to⟩:=x;simp only at x0 x1 x2 x3;obtain⟨u,rfl⟩:∃u:Nat,fr=(u:Int):=⟨fr.toNat,by omega⟩;obtain⟨v,rfl⟩:∃v:Nat,to=(v:Int):=⟨to.toNat,by omega⟩;rw[cI0]at x1 x3;have e2:=e1 u x1;have e3:=e1 v x3;have sO:Nc xs P0 (Z.take (k+1))=BO Bp (Nc xs P0 (Z.take k)) (pA xs ⟨(u:Int),sy,(v:Int)⟩):=Bl_ _ _ hx;have yO:=Ce_ xs (Z.take k) P0;rw[aT0]at yO
   have zC:IntKind.i64.wrap ((k:Int)+1)=(k:Int)+1:=wq;obtain⟨P,hP⟩:∃P,P=Nc xs P0 (Z.take k):=⟨_,rfl⟩;rw[<-hP]at sO yO |-;have hbq:(P.length+1)*32<=150000000000000:=Ub_ (b:=k) (by omega) (by omega);have h1:=Lk P (pA xs ⟨(u:Int),sy,(v:Int)⟩) hbq;rw[<-sO]at h1;have hp:Ah (pA xs ⟨(u:Int),sy,(v:Int)⟩)=[.int .i64 (Gy xs u:Int),.sl 2 16 [[.bool sy.label,.int .i64 sy.n],[.bool false,.int .i64 (Gy xs v:Int)]]]:=rfl
   rw[hp]at h1;have nJ:DA (Nc xs P0 (Z.take (k+1)))=Bq (Nc xs P0 (Z.take (k+1))):=by rw[sO];unfold DA;rw[if_neg (TX _ _)]
   rw[nJ]at h1;obtain⟨Y,hY⟩:∃Y,Y=Nc xs P0 (Z.take (k+1)):=⟨_,rfl⟩;rw[<-hY]at h1;have hA2:DA (Nc xs P0 (Z.take (k+1)))=Bq Y:=by rw[nJ,hY]
   have zS:List.range 2=[0,1]:=rfl;clear jP vC gA vY yO hP sO gR nJ hbq mI
   rcases Fy P with hA | ⟨Z2,hA⟩
   ·rw[hA]at h1;rw[hA]
    (refine Au (BC e2 e3 h1) Aa (EB @Bm.eq_1 yV hx qU zC zS) ?_;intros;refine Ae ?_)
    refine Ag.mk ⟨k+1,by omega⟩ (Sub.lit (by simp[hA2])) (by simp;omega)
    skip
   ·rw[hA]at h1;rw[hA]
    (refine Au (BC e2 e3 h1) Aa (EB @Bm.eq_1 yV hx qU zC zS) ?_;intros;refine Ae ?_)
    refine Ag.mk ⟨k+1,by omega⟩ (Sub.lit (by simp[hA2])) (by simp;omega)
    skip
  ·have qY:k=Z.length:=by omega
   subst qY;rw[aN0]
   rcases Fy (Nc xs P0 Z)with hA | ⟨Z2,hA⟩
   ·have hA3:DA (Nc xs (NW xs F) Z)= .nilsl:=by rw[<-hP0];exact hA
    rw[hA];exact Al Aa Aa (Aq hA3)
   ·have hA3:DA (Nc xs (NW xs F) Z)=Bq Z2:=by rw[<-hP0];exact hA
    rw[hA];exact Al Aa Aa (Aq hA3)
end Go.Proofs.Wy
end
section
namespace Go.Proofs.Wy
open Go Go.Dm Tryz
variable [DMode]
attribute [local irreducible] DW Bs Bv
set_option maxRecDepth 100000
structure Mk where
 nts:Int
 prods:List Prod
 hs:List (Int×Int)
 no:Int
def GJ (p:Int×Int):DVal:= .int .i64 p.1
def Hg (p:Int×Int):DVal:= .int .i64 p.2
def BV (v:Nat) (m:Mk):List Ent:=[⟨0,0,.box [.int .i64 m.nts,.osl 1 v,.omp 2 0,.int .i64 m.no]⟩,⟨1,v,.row 92 2 32 (m.prods.map Ah)⟩,⟨2,0,.map (m.hs.map GJ) (m.hs.map Hg)⟩]
@[simp] theorem TJ_ (l:List (Int×Int)):AV (l.map GJ)=0:=by induction l<;>simp_all [AV,mx,GJ]
@[simp] theorem Tm_ (l:List (Int×Int)):AV (l.map Hg)=0:=by induction l<;>simp_all [AV,mx,Hg]
def De_ : Ann:=⟨[],[]⟩
theorem Jv (m:Mk) (h1: -9223372036854775808<=m.nts) (h2:m.nts+1<=9223372036854775807):AS prog (.func 299) [.bx 0 0 0] (BV 0 m) (.int .i64 m.nts) (BV 1 { m with nts:=m.nts+1 }):=by
 refine Bi [] [(0,0,0),(1,1,1),(2,2,0)] De_ func299 call299 ntmps299 mxd (Ap @De_.eq_1 results299) rfl (fun qJ B qX qQ=> ?_) (hv:=(by simp[BV]));simp only[Ak];exact Al Aa Aa (Aq @BV.eq_1)
def Df_ : Ann:=⟨[],[]⟩
theorem Kd (m:Mk) (h:Int) (b:List Sym) (hb:(m.prods.length+1)*32<=150000000000000):AS prog (.func 213) [.bx 0 0 0,.int .i64 h,AY b] (BV 0 m) (.tup []) (BV 1 { m with prods:=m.prods++[⟨h,b⟩] }):=by
 refine Bi [] [(0,0,0),(1,1,1),(2,2,0)] Df_ func213 call213 ntmps213 mxd (Ap @Df_.eq_1 results213) rfl (fun qJ B qX qQ=> ?_) (hv:=(by simp[BV]));simp only[Ak];exact Al Aa Aa (Ap @BV.eq_1 @Ah.eq_1)
def Mk.put (m:Mk) (h:Int) (b:List Sym):Mk:={ m with prods:=m.prods++[⟨h,b⟩] }
def Mk.nothing (m:Mk):Mk:=if m.no=0 then { m with nts:=m.nts+1,no:=m.nts,prods:=m.prods++[⟨m.nts,[]⟩] }else m
def KH : Ann:=⟨[10,18],[]⟩
theorem iS (m:Mk) (h1: -9223372036854775808<=m.nts) (h2:m.nts+1<=9223372036854775807) (h3:(m.prods.length+1)*32<=150000000000000) :
  AS prog (.func 215) [.bx 0 0 0] (BV 0 m) (.int .i64 m.nothing.no) (BV 1 m.nothing):=by
 refine Bi [] [(0,0,0),(1,1,1),(2,2,0)] KH func215 call215 ntmps215 mxd (Ap @KH.eq_1 results215) rfl (fun qJ B qX qQ=> ?_) (hv:=(by simp[BV]));simp only[Ak]
 by_cases h:m.no=0
 ·(repeat (first | refine AI fun K hK=> ?_ | (refine BR KH mxd (by kernel_rfl) ?_;simp[KH,qX,BV,h,Mk.nothing,AY];try simp (disch:=omega) only[Ao]) | refine Aw ?_ | (refine Bb ?_ ?_ ?_;(· (simp[qX,BV,h,Mk.nothing,AY];done));(try (rotate_left;(· (intro hc;(try simp[qX,BV,h,Mk.nothing,AY]at hc);done))))) | (refine AK ?_;simp[results215,qX,BV,h,Mk.nothing,AY]) | ((first | refine AD ?_ | refine AC ?_);simp[qX,BV,h,Mk.nothing,AY]) | (intro hc;(try simp[qX,BV,h,Mk.nothing,AY]at hc);(try (exfalso;omega))) | (refine AP [(0,0),(1,1),(2,2)] [] (Jv m h1 h2) ?_ ?_;(· (simp[qX,BV,h,Mk.nothing,AY];done));(intro _;try simp[qX,BV,h,Mk.nothing,AY])) | (refine AP [(0,0),(1,1),(2,2)] [] (Kd { m with nts:=m.nts+1,no:=m.nts } m.nts [] h3) ?_ ?_;(· (simp[qX,BV,h,Mk.nothing,AY];done));(intro _;try simp[qX,BV,h,Mk.nothing,AY])) | (refine⟨?_,?_⟩; · omega) | omega | apply_assumption -exfalso -symm | (exfalso;omega)))
 ·(repeat (first | refine AI fun K hK=> ?_ | (refine BR KH mxd (by kernel_rfl) ?_;simp[KH,qX,BV,h,Mk.nothing,AY];try simp (disch:=omega) only[Ao]) | refine Aw ?_ | (refine Bb ?_ ?_ ?_;(· (simp[qX,BV,h,Mk.nothing,AY];done));(try (rotate_left;(· (intro hc;(try simp[qX,BV,h,Mk.nothing,AY]at hc);done))))) | (refine AK ?_;simp[results215,qX,BV,h,Mk.nothing,AY]) | ((first | refine AD ?_ | refine AC ?_);simp[qX,BV,h,Mk.nothing,AY]) | (intro hc;(try simp[qX,BV,h,Mk.nothing,AY]at hc);(try (exfalso;omega))) | (refine AP [(0,0),(1,1),(2,2)] [] (Jv m h1 h2) ?_ ?_;(· (simp[qX,BV,h,Mk.nothing,AY];done));(intro _;try simp[qX,BV,h,Mk.nothing,AY])) | (refine AP [(0,0),(1,1),(2,2)] [] (Kd { m with nts:=m.nts+1,no:=m.nts } m.nts [] h3) ?_ ?_;(· (simp[qX,BV,h,Mk.nothing,AY];done));(intro _;try simp[qX,BV,h,Mk.nothing,AY])) | (refine⟨?_,?_⟩; · omega) | omega | apply_assumption -exfalso -symm | (exfalso;omega)))
def Mk.look (m:Mk) (a:Int):Option Nat:=AZ (m.hs.map GJ) (.int .i64 a)
end Go.Proofs.Wy
end
section
namespace Go.Proofs.Wy
open Go Go.Dm Tryz
variable [DMode]
attribute [local irreducible] DW Bs Bv
def AB : List Sym->Int
 | []=>1
 | [s]=>if s.label then 2 else 0
 | [s,t]=>if !s.label&& !t.label then 3 else 0
 | _=>0
def Dl_ : Ann:=⟨[],[]⟩
set_option maxRecDepth 100000 in
theorem TP (l:List Sym):Ac prog 151 [AY l] (.int .i64 (AB l)):=by
 refine Ab [] Dl_ func151 call151 ntmps151 mxd (Ap @Dl_.eq_1 results151) rfl (fun qJ B qX qQ=> ?_);simp only[Ak]
 match l with
 | []=>exact Al Aa Aa (Dx @AA.eq_1 @AB.eq_1 @AB.eq_2 @AB.eq_3 @AB.eq_4)
 | [s] =>
  cases hl:s.label<;>exact Al Aa Aa (EB @AA.eq_1 @AB.eq_1 @AB.eq_2 @AB.eq_3 @AB.eq_4 hl)
 | [s,t] =>
  exact Al Aa Aa (Dx @AA.eq_1 @AB.eq_1 @AB.eq_2 @AB.eq_3 @AB.eq_4)
 | s::t::u::r =>
  exact Al Aa Aa (Dx @AA.eq_1 @AB.eq_1 @AB.eq_2 @AB.eq_3 @AB.eq_4)
end Go.Proofs.Wy
end
section
namespace Go.Proofs.Wy
open Go Go.Dm Tryz
variable [DMode]
attribute [local irreducible] DW Bs Bv
set_option maxRecDepth 100000
def QJ : Ann:=⟨[],[]⟩
theorem RL (g:FuncId) (us cs:List DVal) (l:List Sym) (q:Sym->Bool) (hq:∀x∈l,Ac prog g (us++[.agg (AA x)]++cs) (.bool (q x))) :
  Ac prog 198 [AY l,.fn (.func g) us cs] (.int .i64 (if l.any q then ((l.findIdx q:Nat):Int)else -1)):=by
 refine Ab [] QJ func198 call198 ntmps198 mxd (Ap @QJ.eq_1 results198) rfl (fun qJ B qX qQ=> ?_);have hw:Yp l:=Us qJ.1;obtain⟨wF,yI,cV⟩:=hw;clear qJ cV;simp only[Ak]
 (refine Au Aa Aa Aa ?_;intros;refine Ae ?_)
 refine Af (X:={k:Nat//k<=l.length/\∀i x,i<k->l[i]? =some x->q x=false}) (fun x=>⟨[(0,AY l),(1,.fn (.func g) us cs),(7,.int .i64 l.length),(8,.int .i64 x.1)],[]⟩) (fun x=>l.length-x.1) ⟨0,by simp⟩ (Sub.lit (by simp)) ?_;rintro⟨k,hk,wE⟩
 by_cases qV:k<l.length
 ·obtain⟨x,hx,qU,wA⟩:=Ai qV;have yD:=hq x wA;simp only[AA,aR0,List.cons_append,List.nil_append]at yD;cases hb:q x
  ·rw[hb]at yD
   have jL:∀i y,i<k+1->l[i]? =some y->q y=false:=by
    intro i y hi hy
    by_cases fP:i=k
    ·subst fP;rw[hx]at hy;simp only[aA0]at hy;subst hy;exact hb
    ·exact wE i y (by omega) hy
   (refine Au (Aq yD) Aa (BC @AA.eq_1 qV qU) ?_;intros;refine Ae ?_)
   exact Ag.mk ⟨k+1,by omega,jL⟩ (Sub.lit (by simp[])) (by simp;omega)
   skip
  ·rw[hb]at yD;have wZ:l.any q=true:=bW0.2 ⟨x,wA,hb⟩
   have cG:l.findIdx q=k:=by
    rw[fD0 qV];refine⟨by rw[qU];exact hb,fun i hi=> ?_⟩;exact wE i _ hi (aD0 (by omega))
   exact Al (Aq yD) Aa (Dx @AA.eq_1 qV qU wZ cG)
 ·have qY:k=l.length:=by omega
  have wZ:l.any q=false:=by
   rw[cZ0];intro x hx;obtain⟨i,hi,rfl⟩:=bJ0 hx;rw[wE i _ (by omega) (aD0 hi)];simp
  (repeat (first | refine AI fun K hK=> ?_ | (refine BR QJ mxd (by kernel_rfl) ?_;simp[QJ,qX,AA,qY,wZ];try simp (disch:=omega) only[Ao]) | refine Aw ?_ | (refine Bb ?_ ?_ ?_;(· (simp[qX,AA,qY,wZ];done));(try (rotate_left;(· (intro hc;(try simp[qX,AA,qY,wZ]at hc);done))))) | (refine AK ?_;simp[results198,qX,AA,qY,wZ]) | ((first | refine AD ?_ | refine AC ?_);simp[qX,AA,qY,wZ]) | (intro hc;(try simp[qX,AA,qY,wZ]at hc);(try (exfalso;omega))) | ((first | refine An (yD) ?_ | (refine Am (yD) ?_ ?_;(· (simp;done))));try simp[qX,AA,qY,wZ]) | (refine⟨?_,?_⟩; · omega) | omega | apply_assumption -exfalso -symm | (exfalso;omega)))
def Db_ : Ann:=⟨[],[]⟩
theorem NX (g:FuncId) (us cs:List DVal) (l:List Sym) (q:Sym->Bool) (hq:∀x∈l,Ac prog g (us++[.agg (AA x)]++cs) (.bool (q x))) :
  Ac prog 127 [AY l,.fn (.func g) us cs] (.bool (l.any q)):=by
 refine Ab [] Db_ func127 call127 ntmps127 mxd (Ap @Db_.eq_1 results127) rfl (fun qJ B qX qQ=> ?_);simp only[Ak];have hi:=RL g us cs l q hq;have kX:(0:Int)<=(l.findIdx q:Nat):=by omega
 cases hb:l.any q
 ·rw[hb]at hi;exact Al (Aq hi) Aa (Aq hb)
 ·rw[hb]at hi;exact Al (Aq hi) Aa (Aq hb)
def Mw (c:Cnf) (n:Int):Bool:=decide (0<=n)&&decide (n<c.nts)
def DO (c:Cnf) (s:Sym):Bool:=s.label&&(decide (s.n<0)||decide (16<=s.n))|| !s.label&& !Mw c s.n
def Cs (c:Cnf) (p:Prod):Bool:=Mw c p.head&& !p.body.any (DO c)
def BB (c:Cnf):Bool:=decide (1<=c.nts)&&decide (c.nts<=1024)&&c.prods.all (Cs c)
def Do_ : Ann:=⟨[],[]⟩
theorem FG (c:Cnf) (n:Int):Ac prog 126 [.int .i64 n,.ref [.int .i64 c.nts,Bq c.prods]] (.bool (Mw c n)):=by
 refine Ab [] Do_ func126 call126 ntmps126 mxd (Ap @Do_.eq_1 results126) rfl (fun qJ B qX qQ=> ?_);simp only[Ak]
 by_cases h1:0<=n<;>by_cases h2:n<c.nts<;>exact Al Aa Aa (BC h1 h2 @Mw.eq_1)
abbrev dNt (c:Cnf):DVal:= .fn (.func 126) [] [.ref [.int .i64 c.nts,Bq c.prods]]
def Dn_ : Ann:=⟨[],[]⟩
theorem BQ_ (c:Cnf) (s:Sym):Ac prog 128 [.agg [.bool s.label,.int .i64 s.n],.ref [dNt c]] (.bool (DO c s)):=by
 refine Ab [] Dn_ func128 call128 ntmps128 mxd (Ap @Dn_.eq_1 results128) rfl (fun qJ B qX qQ=> ?_);simp only[Ak];cases hl:s.label
 ·cases hb:Mw c s.n<;>exact Al (Aq (FG c s.n)) Aa (BC hl hb @DO.eq_1)
 ·by_cases h1:s.n<0<;>by_cases h2:16<=s.n<;>exact Al (Aq (FG c s.n)) Aa (CG hl h1 h2 @DO.eq_1)
def NL : Ann:=⟨[],[⟨1,[3],[],[]⟩,⟨5,[6],[],[]⟩]⟩
theorem Lr (c:Cnf):Ac prog 43 [.agg (Ar c)] (.int .i64 (if BB c then 0 else 220)):=by
 refine Ab [] NL func43 call43 ntmps43 mxd (Ap @NL.eq_1 results43) rfl (fun qJ B qX qQ=> ?_);have hw:uN c:=Ut (by simpa[Gj,Dq]using qJ.1);obtain⟨wF,yI,cV,yL⟩:=hw;clear qJ wF;simp only[Ak]
 have Gq:∀k,(hk:k<c.prods.length)->(c.prods.take (k+1)).all (Cs c)=((c.prods.take k).all (Cs c)&&Cs c c.prods[k]):=by
  intro k hk;rw[bR0 hk,fE0];simp
 obtain⟨b0,wJ⟩:∃b0:Bool,b0=(decide (1<=c.nts)&&decide (c.nts<=1024)):=⟨_,rfl⟩;have vY:BB c=(b0&&c.prods.all (Cs c)):=by rw[wJ];rfl
 by_cases h1:1<=c.nts<;>by_cases h2:c.nts<=1024<;>simp only[h1,h2,decide_true,decide_false,fB0,dK0]at wJ<;>(repeat (first | refine AI fun K hK=> ?_ | (refine BR NL mxd (by kernel_rfl) ?_;simp[NL,qX,Ar,h1,h2];try simp (disch:=omega) only[Ao]) | refine Aw ?_ | (refine Bb ?_ ?_ ?_;(· (simp[qX,Ar,h1,h2];done));(try (rotate_left;(· (intro hc;(try simp[qX,Ar,h1,h2]at hc);done))))) | (refine AK ?_;simp[results43,qX,Ar,h1,h2]) | ((first | refine AD ?_ | refine AC ?_);simp[qX,Ar,h1,h2]) | (intro hc;(try simp[qX,Ar,h1,h2]at hc);(try (exfalso;omega))) | (refine⟨?_,?_⟩; · omega) | omega | apply_assumption -exfalso -symm | (exfalso;omega)))
 all_goals
  refine Af (X:={k:Nat//k<=c.prods.length}) (fun k=>⟨[(1,.ref [.int .i64 c.nts,Bq c.prods]),(3,.ref [dNt c]),(4,.bool (b0&&(c.prods.take k.1).all (Cs c))),(17,Bq c.prods),(18,.int .i64 c.prods.length),(19,.int .i64 k.1)],[]⟩) (fun k=>c.prods.length-k.1) ⟨0,by simp⟩ (Sub.lit (by simp[wJ])) ?_;rintro⟨k,hk⟩
  by_cases qV:k<c.prods.length
  ·obtain⟨p,hp,qI,vK⟩:=Ai qV;have qD:=Gq k qV;rw[qI]at qD;obtain⟨b,hb⟩:∃b:Bool,b=(b0&&(c.prods.take k).all (Cs c)):=⟨_,rfl⟩;have qE:(b0&&(c.prods.take (k+1)).all (Cs c))=(b&&Cs c p):=by rw[qD,hb,Bool.and_assoc]
   have hq:=NX 128 [] [.ref [dNt c]] p.body (DO c) (fun x _=>BQ_ c x);simp only[<-hb];cases b
   ·(refine Au (Ap (FG c p.head) hq) Aa (Dx @Ar.eq_1 @Ah.eq_1 qV qI qE) ?_;intros;refine Ae ?_)
    refine Ag.mk ⟨k+1,by omega⟩ (Sub.lit (by simp[qE])) (by simp;omega)
    skip
   ·cases hn:Mw c p.head
    ·(refine Au (Ap (FG c p.head) hq) Aa (EB @Ar.eq_1 @Ah.eq_1 qV qI qE hn) ?_;intros;refine Ae ?_)
     refine Ag.mk ⟨k+1,by omega⟩ (Sub.lit (by simp[qE,Cs,hn])) (by simp;omega)
     skip
    ·cases ha:p.body.any (DO c)
     ·rw[ha]at hq
      (refine Au (Ap (FG c p.head) hq) Aa (Ez @Ar.eq_1 @Ah.eq_1 qV qI qE hn ha) ?_;intros;refine Ae ?_)
      refine Ag.mk ⟨k+1,by omega⟩ (Sub.lit (by simp[qE,Cs,hn,ha])) (by simp;omega)
      skip
     ·rw[ha]at hq
      (refine Au (Ap (FG c p.head) hq) Aa (Ez @Ar.eq_1 @Ah.eq_1 qV qI qE hn ha) ?_;intros;refine Ae ?_)
      refine Ag.mk ⟨k+1,by omega⟩ (Sub.lit (by simp[qE,Cs,hn,ha])) (by simp;omega)
      skip
  ·have qY:k=c.prods.length:=by omega
   subst qY;rw[aN0]at *;cases kJ:BB c<;>rw[kJ]at vY<;>(repeat (first | refine AI fun K hK=> ?_ | (refine BR NL mxd (by kernel_rfl) ?_;simp[NL,qX,Ar,kJ,<-vY];try simp (disch:=omega) only[Ao]) | refine Aw ?_ | (refine Bb ?_ ?_ ?_;(· (simp[qX,Ar,kJ,<-vY];done));(try (rotate_left;(· (intro hc;(try simp[qX,Ar,kJ,<-vY]at hc);done))))) | (refine AK ?_;simp[results43,qX,Ar,kJ,<-vY]) | ((first | refine AD ?_ | refine AC ?_);simp[qX,Ar,kJ,<-vY]) | (intro hc;(try simp[qX,Ar,kJ,<-vY]at hc);(try (exfalso;omega))) | (refine⟨?_,?_⟩; · omega) | omega | apply_assumption -exfalso -symm | (exfalso;omega)))
end Go.Proofs.Wy
end
section
namespace Go.Proofs.Wy
open Go Go.Dm Tryz
variable [DMode]
def nS (n:Int):Sym:=⟨false,n⟩
def Er : List (Int×Int)->Int->Option Int
 | [],_=>none
 | (k,h)::l,a=>if a=k then some h else Er l a
def Mk.sym (m:Mk) (s:Sym):Mk×Int :=
 if s.label then match Er m.hs s.n with
  | some h=>(m,h)
  | none=>({ m with nts:=m.nts+1,hs:=m.hs++[(s.n,m.nts)],prods:=m.prods++[⟨m.nts,[s]⟩] },m.nts)
 else (m,s.n)
def Mk.syms (m:Mk):List Sym->Mk×List Int
 | []=>(m,[])
 | s::l=>(((m.sym s).1.syms l).1,(m.sym s).2::((m.sym s).1.syms l).2)
def El (nts head:Int):List Int->List Prod
 | []=>[]
 | [_]=>[]
 | [a,b]=>[⟨head,[nS a,nS b]⟩]
 | a::b::c::r=>⟨head,[nS a,nS nts]⟩::El (nts+1) nts (b::c::r)
def Mk.chain (m:Mk) (h:Int) (ns:List Int):Mk:={ m with nts:=m.nts+(ns.length-2:Nat),prods:=m.prods++El m.nts h ns }
def Mk.add (m:Mk) (p:Prod):Mk :=
 if AB p.body=1\/AB p.body=2 then m.put p.head p.body
 else if p.body.length=1 then (m.syms p.body).1.nothing.chain p.head ((m.syms p.body).2++[(m.syms p.body).1.nothing.no])
 else (m.syms p.body).1.chain p.head (m.syms p.body).2
def Mk.adds : Mk->List Prod->Option Mk
 | m,[]=>some m
 | m,p::l=>if 1024<(m.add p).nts then none else (m.add p).adds l
theorem Po (m:Mk) (l:List Sym):(m.syms l).2.length=l.length:=by
 induction l generalizing m with
 | nil=>rfl
 | cons s l ih=>simp[Mk.syms,ih]
theorem WR : ∀(l:List Int) (nts head:Int),(El nts head l).length=l.length-1
 | [],_,_=>rfl
 | [_],_,_=>rfl
 | [_,_],_,_=>rfl
 | _::b::c::r,_,_=>by simp[El,WR (b::c::r)]
def Mk.gap (m:Mk):Int:=(m.prods.length:Int)-m.nts
theorem aU (m:Mk) (s:Sym):(m.sym s).1.gap=m.gap/\m.nts<=(m.sym s).1.nts/\(m.sym s).1.nts<=m.nts+1:=by
 unfold Mk.sym
 split
 ·split
  ·exact⟨rfl,Int.le_refl _,Int.le_add_of_nonneg_right (by decide)⟩
  ·simp only[Mk.gap,aC0,List.length_cons,List.length_nil];exact⟨by omega,by omega,by omega⟩
 ·exact⟨rfl,Int.le_refl _,Int.le_add_of_nonneg_right (by decide)⟩
theorem LY (l:List Sym):∀(m:Mk),(m.syms l).1.gap=m.gap/\m.nts<=(m.syms l).1.nts/\(m.syms l).1.nts<=m.nts+l.length:=by
 induction l with
 | nil=>intro m;simp[Mk.syms]
 | cons s l ih =>
  intro m;obtain⟨h1,h2,h3⟩:=aU m s;obtain⟨h4,h5,h6⟩:=ih (m.sym s).1;simp only[Mk.syms,List.length_cons];exact⟨by omega,by omega,by omega⟩
theorem Mx (m:Mk):m.nothing.gap=m.gap/\m.nts<=m.nothing.nts/\m.nothing.nts<=m.nts+1:=by
 unfold Mk.nothing
 split
 ·simp only[Mk.gap,aC0,List.length_cons,List.length_nil];exact⟨by omega,by omega,by omega⟩
 ·exact⟨rfl,Int.le_refl _,Int.le_add_of_nonneg_right (by decide)⟩
theorem ZD (m:Mk) (h:Int) (ns:List Int) (hl:2<=ns.length):(m.chain h ns).gap=m.gap+1/\(m.chain h ns).nts=m.nts+ns.length-2:=by
 simp only[Mk.chain,Mk.gap,aC0,WR];exact⟨by omega,by omega⟩
theorem VZ {l:List Sym} (h1:¬AB l=1) (h2:¬AB l=2):1<=l.length:=by
 cases l with
 | nil=>exact absurd rfl h1
 | cons s l=>simp
theorem QZ (m:Mk) (p:Prod):(m.add p).gap=m.gap+1/\m.nts<=(m.add p).nts/\(m.nts+p.body.length-2<=(m.add p).nts)/\(m.add p).nts<=m.nts+2*p.body.length+1:=by
 obtain⟨h1,h2,h3⟩:=LY p.body m;have h0:=Po m p.body;unfold Mk.add
 split
 ·rename_i hf
  have hl:p.body.length<=1:=by
   match hb:p.body with
   | []=>simp
   | [s]=>simp
   | [s,t]=>rw[hb]at hf;simp only[AB]at hf;split at hf<;>simp at hf
   | s::t::u::r=>rw[hb]at hf;simp[AB]at hf
  simp only[Mk.put,Mk.gap,aC0,List.length_cons,List.length_nil];exact⟨by omega,by omega,by omega,by omega⟩
 ·rename_i hf;have hl:=VZ (fun h=>hf (.inl h)) (fun h=>hf (.inr h))
  split
  ·rename_i h4;obtain⟨g1,g2,g3⟩:=Mx (m.syms p.body).1;obtain⟨c1,c2⟩:=ZD (m.syms p.body).1.nothing p.head ((m.syms p.body).2++[(m.syms p.body).1.nothing.no]) (by simp;omega);simp only[aC0,List.length_cons,List.length_nil]at c2;exact⟨by omega,by omega,by omega,by omega⟩
  ·obtain⟨c1,c2⟩:=ZD (m.syms p.body).1 p.head (m.syms p.body).2 (by omega);exact⟨by omega,by omega,by omega,by omega⟩
end Go.Proofs.Wy
end
section
namespace Go.Proofs.Wy
open Go Go.Dm Tryz
variable [DMode]
attribute [local irreducible] DW Bs Bv
set_option maxRecDepth 100000

@[local simp] theorem UG_ (l:List Sym):BK (l.map AA).reverse=0:=by rw[<-List.map_reverse];exact Oo_ _
def Dm_ : Ann:=⟨[],[]⟩
theorem GF_ (c:Cnf):Ac prog 144 [.agg (Ar c)] (if BB c then .tup [.agg (Ar (BM c)),.int .i64 0]else .tup [.agg [.int .i64 0,.nilsl],.int .i64 220]):=by
 refine Ab [] Dm_ func144 call144 ntmps144 mxd (Ap @Dm_.eq_1 results144) rfl (fun qJ B qX qQ=> ?_) (hd:=(by cases BB c<;>simp[mx,Ar]));simp only[Ak];have h1:=Lr c;have h2:=Sq c;cases hb:BB c
 ·rw[hb]at h1;exact Al (Ap h1 h2) Aa (Aq @Ar.eq_1)
 ·rw[hb]at h1;exact Al (Ap h1 h2) Aa (Aq @Ar.eq_1)

end Go.Proofs.Wy
end
section
namespace Go.Proofs.Wy
open Go Go.Dm Tryz
variable [DMode]
attribute [local irreducible] DW Bs Bv

end Go.Proofs.Wy
end
section
namespace Go.Proofs.Wy
open Go Go.Dm Tryz
variable [DMode]
attribute [local irreducible] DW Bs Bv
set_option maxRecDepth 100000
def QM : Ann:=⟨[],[]⟩
theorem RM (g:FuncId) (us cs:List DVal) (l:List Prod) (q:Prod->Bool) (hq:∀x∈l,Ac prog g (us++[.agg (Ah x)]++cs) (.bool (q x))) :
  Ac prog 219 [Bq l,.fn (.func g) us cs] (.int .i64 (if l.any q then ((l.findIdx q:Nat):Int)else -1)):=by
 refine Ab [] QM func219 call219 ntmps219 mxd (Ap @QM.eq_1 results219) rfl (fun qJ B qX qQ=> ?_);have hw:aK l:=aJ qJ.1;obtain⟨wF,yI,cV⟩:=hw;clear qJ cV;simp only[Ak]
 (refine Au Aa Aa Aa ?_;intros;refine Ae ?_)
 refine Af (X:={k:Nat//k<=l.length/\∀i x,i<k->l[i]? =some x->q x=false}) (fun x=>⟨[(0,Bq l),(1,.fn (.func g) us cs),(7,.int .i64 l.length),(8,.int .i64 x.1)],[]⟩) (fun x=>l.length-x.1) ⟨0,by simp⟩ (Sub.lit (by simp)) ?_;rintro⟨k,hk,wE⟩
 by_cases qV:k<l.length
 ·obtain⟨x,hx,qU,wA⟩:=Ai qV;have yD:=hq x wA;simp only[Ah,aR0,List.cons_append,List.nil_append]at yD;cases hb:q x
  ·rw[hb]at yD
   have jL:∀i y,i<k+1->l[i]? =some y->q y=false:=by
    intro i y hi hy
    by_cases fP:i=k
    ·subst fP;rw[hx]at hy;simp only[aA0]at hy;subst hy;exact hb
    ·exact wE i y (by omega) hy
   (refine Au (Aq yD) Aa (BC @Ah.eq_1 qV qU) ?_;intros;refine Ae ?_)
   exact Ag.mk ⟨k+1,by omega,jL⟩ (Sub.lit (by simp[])) (by simp;omega)
   skip
  ·rw[hb]at yD;have wZ:l.any q=true:=bW0.2 ⟨x,wA,hb⟩
   have cG:l.findIdx q=k:=by
    rw[fD0 qV];refine⟨by rw[qU];exact hb,fun i hi=> ?_⟩;exact wE i _ hi (aD0 (by omega))
   exact Al (Aq yD) Aa (Dx @Ah.eq_1 qV qU wZ cG)
 ·have qY:k=l.length:=by omega
  have wZ:l.any q=false:=by
   rw[cZ0];intro x hx;obtain⟨i,hi,rfl⟩:=bJ0 hx;rw[wE i _ (by omega) (aD0 hi)];simp
  (repeat (first | refine AI fun K hK=> ?_ | (refine BR QM mxd (by kernel_rfl) ?_;simp[QM,qX,Ah,qY,wZ];try simp (disch:=omega) only[Ao]) | refine Aw ?_ | (refine Bb ?_ ?_ ?_;(· (simp[qX,Ah,qY,wZ];done));(try (rotate_left;(· (intro hc;(try simp[qX,Ah,qY,wZ]at hc);done))))) | (refine AK ?_;simp[results219,qX,Ah,qY,wZ]) | ((first | refine AD ?_ | refine AC ?_);simp[qX,Ah,qY,wZ]) | (intro hc;(try simp[qX,Ah,qY,wZ]at hc);(try (exfalso;omega))) | ((first | refine An (yD) ?_ | (refine Am (yD) ?_ ?_;(· (simp;done))));try simp[qX,Ah,qY,wZ]) | (refine⟨?_,?_⟩; · omega) | omega | apply_assumption -exfalso -symm | (exfalso;omega)))
def Dg_ : Ann:=⟨[],[]⟩
theorem NY (g:FuncId) (us cs:List DVal) (l:List Prod) (q:Prod->Bool) (hq:∀x∈l,Ac prog g (us++[.agg (Ah x)]++cs) (.bool (q x))) :
  Ac prog 149 [Bq l,.fn (.func g) us cs] (.bool (l.any q)):=by
 refine Ab [] Dg_ func149 call149 ntmps149 mxd (Ap @Dg_.eq_1 results149) rfl (fun qJ B qX qQ=> ?_);simp only[Ak];have hi:=RM g us cs l q hq;have kX:(0:Int)<=(l.findIdx q:Nat):=by omega
 cases hb:l.any q
 ·rw[hb]at hi;exact Al (Aq hi) Aa (Aq hb)
 ·rw[hb]at hi;exact Al (Aq hi) Aa (Aq hb)
def Eu (p:Prod):Bool:=AB p.body==0
def Ey (c:Cnf):Bool:=BB c&& !c.prods.any Eu
def Dr_ : Ann:=⟨[],[]⟩
theorem OS_ (p:Prod):Ac prog 150 [.agg (Ah p)] (.bool (Eu p)):=by
 refine Ab [] Dr_ func150 call150 ntmps150 mxd (Ap @Dr_.eq_1 results150) rfl (fun qJ B qX qQ=> ?_);simp only[Ak];exact Al (Aq (TP p.body)) Aa (Ap @Ah.eq_1 @Eu.eq_1)
def Jl_ : Ann:=⟨[],[]⟩
theorem Ru_ (c:Cnf):Ac prog 58 [.agg (Ar c)] (.bool (Ey c)):=by
 refine Ab [] Jl_ func58 call58 ntmps58 mxd (Ap @Jl_.eq_1 results58) rfl (fun qJ B qX qQ=> ?_);simp only[Ak];have hq:=NY 150 [] [] c.prods Eu (fun x _=>OS_ x);have hc:=Lr c;simp only[Ar]at hc;cases h1:BB c
 ·rw[h1]at hc;exact Al (Ap hc hq) Aa (BC @Ar.eq_1 @Ey.eq_1 h1)
 ·rw[h1]at hc;cases h2:c.prods.any Eu
  ·rw[h2]at hq;exact Al (Ap hc hq) Aa (CG @Ar.eq_1 @Ey.eq_1 h1 h2)
  ·rw[h2]at hq;exact Al (Ap hc hq) Aa (CG @Ar.eq_1 @Ey.eq_1 h1 h2)
def Di_ : Ann:=⟨[],[]⟩
theorem Kl_ (l:List Sym):Ac prog 300 [AY l] (.bool (!(AB l==0))):=by
 refine Ab [] Di_ func300 call300 ntmps300 mxd (Ap @Di_.eq_1 results300) rfl (fun qJ B qX qQ=> ?_);simp only[Ak]
 match l with
 | []=>exact Al Aa Aa (Dx @AA.eq_1 @AB.eq_1 @AB.eq_2 @AB.eq_3 @AB.eq_4)
 | [s]=>cases hl:s.label<;>exact Al Aa Aa (EB @AA.eq_1 @AB.eq_1 @AB.eq_2 @AB.eq_3 @AB.eq_4 hl)
 | [s,t]=>cases hl:s.label<;>cases ht:t.label<;>exact Al Aa Aa (Ez @AA.eq_1 @AB.eq_1 @AB.eq_2 @AB.eq_3 @AB.eq_4 hl ht)
 | s::t::u::r =>
  have qZ:¬((r.length:Int)+1+1+1=0)/\¬((r.length:Int)+1+1+1=1)/\¬((r.length:Int)+1+1+1=2):=by omega
  obtain⟨g1,g2,g3⟩:=qZ;exact Al Aa Aa (Ji @AA.eq_1 @AB.eq_1 @AB.eq_2 @AB.eq_3 @AB.eq_4 g1 g2 g3)
def Dj_ : Ann:=⟨[],[⟨6,[4],[],[]⟩,⟨12,[6],[],[]⟩]⟩
theorem Mn (c:Cnf):Ac prog 145 [.agg (Ar c)] (.int .i64 (if BB c then 0 else 220)):=by
 refine Ab [] Dj_ func145 call145 ntmps145 mxd (Ap @Dj_.eq_1 results145) rfl (fun qJ B qX qQ=> ?_);have hw:uN c:=Ut (by simpa[Gj,Dq]using qJ.1);obtain⟨wF,yI,cV,yL⟩:=hw;clear qJ wF;simp only[Ak]
 by_cases h1:1<=c.nts
 rotate_left
 ·have kY:c.nts<1:=by omega
  have wE:BB c=false:=by simp[BB,h1]
  exact Al Aa Aa (BC @Ar.eq_1 kY wE)
 by_cases h2:c.nts<=1024
 rotate_left
 ·have yU:1024<c.nts:=by omega
  have kY:¬c.nts<1:=by omega
  have wE:BB c=false:=by simp[BB,h2]
  exact Al Aa Aa (CG @Ar.eq_1 kY yU wE)
 have kY:¬c.nts<1:=by omega
 have yU:¬1024<c.nts:=by omega
 have qL:BB c=c.prods.all (Cs c):=by simp[BB,h1,h2]
 (refine Au Aa Aa (BC @Ar.eq_1 kY yU) ?_;intros;refine Ae ?_)
 refine Af (X:={k:Nat//k<=c.prods.length/\(c.prods.take k).all (Cs c)=true}) (fun k=>⟨[(1,.ref [.int .i64 c.nts,Bq c.prods]),(3,.int .i64 k.1)],[]⟩) (fun k=>c.prods.length-k.1) ⟨0,by simp⟩ (Sub.lit (by simp)) ?_;rintro⟨k,hk,qY⟩
 by_cases qV:k<c.prods.length
 rotate_left
 ·have hke:k=c.prods.length:=by omega
  subst hke;rw[aN0]at qY;rw[qY]at qL;exact Al Aa Aa (Ap @Ar.eq_1 qL)
 obtain⟨p,hp,qI,vK⟩:=Ai qV;obtain⟨sB,hw6,hw7,hw8⟩:=yL p vK
 have hbad:Cs c p=false->BB c=false:=by
  intro hb;rw[qL,List.all_eq_false];exact⟨p,vK,by simp[hb]⟩
 have Gq:Cs c p=true->(c.prods.take (k+1)).all (Cs c)=true:=by
  intro hb;rw[bR0 qV,fE0,qY,qI];simp[hb]
 by_cases dW:p.head<0
 ·have:=hbad (by simp[Cs,Mw,show ¬(0<=p.head) by omega]);exact Al Aa Aa (EB @Ar.eq_1 @Ah.eq_1 qV qI dW this)
 by_cases tV:c.nts<=p.head
 ·have:=hbad (by simp[Cs,Mw,show ¬(p.head<c.nts) by omega]);exact Al Aa Aa (Ez @Ar.eq_1 @Ah.eq_1 qV qI dW tV this)
 have hnt':Mw c p.head=true:=by simp[Mw,show 0<=p.head by omega,show p.head<c.nts by omega]
 (refine Au Aa Aa (EB @Ar.eq_1 @Ah.eq_1 qV qI dW tV) ?_;intros;refine Ae ?_)
 refine Af (X:={j:Nat//j<=p.body.length/\(p.body.take j).any (DO c)=false}) (fun j=>⟨[(1,.ref [.int .i64 c.nts,Bq c.prods]),(3,.int .i64 k),(4,.ref [.int .i64 p.head,AY p.body]),(5,.int .i64 j.1)],[]⟩) (fun j=>p.body.length-j.1) ⟨0,by simp⟩ (Sub.lit (by simp)) ?_;rintro⟨j,hj,sY⟩
 by_cases rY:j<p.body.length
 rotate_left
 ·have hje:j=p.body.length:=by omega
  subst hje;rw[aN0]at sY;have hgood:=Gq (by simp[Cs,hnt',sY])
  (refine Au Aa Aa Aa ?_;intros;refine Ae ?_)
  refine Ag.mk ⟨k+1,by omega,hgood⟩ (Sub.lit (by simp)) (by simp;omega)
  skip
 obtain⟨s,hs,zM,vW⟩:=Ai rY;have jW:=hw8 s vW
 have qP:DO c s=true->BB c=false:=by
  intro hb;refine hbad ?_;simp only[Cs,hnt',bO0,Bool.not_eq_false',bW0];exact⟨s,vW,hb⟩
 have gI:DO c s=false->(p.body.take (j+1)).any (DO c)=false:=by
  intro hb;rw[bR0 rY,dU0,sY,zM];simp[hb]
 by_cases fZ:s.n<0
 ·have:=qP (by cases hl:s.label<;>simp[DO,hl,fZ,Mw,show ¬(0<=s.n) by omega]);exact Al Aa Aa (Dx @AA.eq_1 rY zM fZ this)
 cases hl:s.label
 ·by_cases vM:c.nts<=s.n
  ·have:=qP (by simp[DO,hl,Mw,show ¬(s.n<c.nts) by omega]);exact Al Aa Aa (Ez @AA.eq_1 rY zM fZ vM hl this)
  ·have kL:=gI (by simp[DO,hl,Mw,show 0<=s.n by omega,show s.n<c.nts by omega])
   (refine Au Aa Aa (EB @AA.eq_1 rY zM fZ vM hl) ?_;intros;refine Ae ?_)
   refine Ag.mk ⟨j+1,by omega,kL⟩ (Sub.lit (by simp)) (by simp;omega)
   skip
 ·by_cases vM:16<=s.n
  ·have:=qP (by simp[DO,hl,vM]);exact Al Aa Aa (Ez @AA.eq_1 rY zM fZ vM hl this)
  ·have kL:=gI (by simp[DO,hl,fZ,vM])
   (refine Au Aa Aa (EB @AA.eq_1 rY zM fZ vM hl) ?_;intros;refine Ae ?_)
   refine Ag.mk ⟨j+1,by omega,kL⟩ (Sub.lit (by simp)) (by simp;omega)
   skip
theorem Ac.wkT {P:Program} {f:FuncId} {args ds es:List DVal} (h:Ac P f args (.tup ds)) (hw:aE ds es) (hd:mx (.tup es)=0):Ac P f args (.tup es):=by
 refine⟨h.1,hd,fun cur M w vs hM hr=>(h.2.2 cur M w vs hM hr).mono fun e w' ⟨v,h1,h2,h3⟩=>⟨v,h1,h2,?_⟩⟩;simp only[rd]at h3 |-;obtain⟨us,rfl,h4⟩:=h3;exact⟨us,rfl,UT hw h4⟩
def RY : Cnf:=⟨0,[]⟩
theorem Bj_ (c:Cnf):Ac prog 144 [.agg (Ar c)] (.tup [.agg (Ar (if BB c then BM c else RY)),.int .i64 (if BB c then 0 else 220)]):=by
 have h:=GF_ c;cases hb:BB c<;>rw[hb]at h
 ·exact Ac.wkT h (by simp[RY,Ar,Bq]) (by simp[mx])
 ·exact h

theorem PM (c:Cnf) (p:Prod):p∈(BM c).prods↔p∈c.prods:=by
 have h:=(Dp HM (CN HM c.prods)).2 p;simp only[BM];rw[h,(DP _ _).mem_iff]
theorem WK (c:Cnf):BB (BM c)=BB c:=by
 have h:(BM c).prods.all (Cs (BM c))=c.prods.all (Cs c):=by
  rw[fF0,bA0,bA0];have e:Cs (BM c)=Cs c:=rfl;rw[e];exact⟨fun hh p hp=>hh p ((PM c p).2 hp),fun hh p hp=>hh p ((PM c p).1 hp)⟩
 simp only[BB];rw[h];rfl
theorem Le_ (c:Cnf):BM (BM c)=BM c:=by
 simp only[BM,Cnf.mk.injEq,true_and];exact Lf_ HM c.prods
theorem Au_ (c:Cnf):(BM c).prods.length<=c.prods.length:=by
 have h:=Mf_ (e:=fun p q=>Bp p q==0) (FQ Bp c.prods);rw[(DP _ _).length_eq]at h;exact h
theorem Lu_ {l:List (Int×Int)} {a h:Int}:Er l a=some h->∃j,AZ (l.map GJ) (.int .i64 a)=some j/\(l.map Hg).getD j .any= .int .i64 h:=by
 induction l with
 | nil=>simp[Er]
 | cons p l ih =>
  obtain⟨k,g⟩:=p;simp only[Er,List.map_cons,AZ];intro hh
  by_cases hk:a=k
  ·rw[if_pos hk]at hh;simp only[aA0]at hh;subst hh;subst hk;exact⟨0,by simp[GJ,BY,Ek],by simp[Hg]⟩
  ·rw[if_neg hk]at hh;obtain⟨j,h1,h2⟩:=ih hh;exact⟨j+1,by simp[GJ,BY,Ek,hk,h1],by simpa using h2⟩
theorem Lv_ {l:List (Int×Int)} {a:Int}:Er l a=none->AZ (l.map GJ) (.int .i64 a)=none:=by
 induction l with
 | nil=>simp[AZ]
 | cons p l ih =>
  obtain⟨k,g⟩:=p;simp only[Er,List.map_cons,AZ];intro hh
  by_cases hk:a=k
  ·rw[if_pos hk]at hh;simp at hh
  ·rw[if_neg hk]at hh;simp[GJ,BY,Ek,hk,ih hh]
def BA (n:Int):List DVal:=[.int .i64 n]
@[simp] theorem Up_ (n:Int):AV (BA n)=0:=by simp[BA,AV,mx]
@[simp] theorem Il_ (l:List Int):BK (l.map BA)=0:=Jb _ (fun x=>by simp[BA,AV,mx]) l
def KJ : Ann:=⟨[34,46],[⟨4,[7],[],[]⟩]⟩
theorem Ar_ (m:Mk) (l:List Sym) (h1: -9223372036854775808<=m.nts) (h2:m.nts+l.length+1<=9223372036854775807) (h3:(m.prods.length+l.length+1)*32<=150000000000000) :
  AS prog (.func 214) [.bx 0 0 0,AY l] (BV 0 m) (.osl 3 1) (BV 1 (m.syms l).1++[⟨3,1,.row 3 1 8 ((m.syms l).2.map BA)⟩]):=by
 refine Bi [] [(0,0,0),(1,1,1),(2,2,0),(50,3,1)] KJ func214 call214 ntmps214 mxd (Ap @KJ.eq_1 results214) rfl (fun qJ B qX qQ=> ?_) (hv:=(by simp[BV]));simp only[Ak]
 (refine Au Aa Aa (Aq @BV.eq_1) ?_;intros;refine Ae ?_)
 refine Bk 5 50 3 1 8 (by simp[qX,ntmps214]) (fun n=> ?_)
 refine Af (X:={x:Nat×Mk×List Int//x.1<=l.length/\((x.2.1.syms (l.drop x.1)).1,x.2.2++(x.2.1.syms (l.drop x.1)).2)=m.syms l/\m.nts<=x.2.1.nts/\x.2.1.nts<=m.nts+x.1/\x.2.1.prods.length<=m.prods.length+x.1/\x.2.2.length=x.1})
  (fun x=>⟨[(0,.bx 0 0 0),(5,.osl 50 1),(11,AY l),(12,.int .i64 l.length),(13,.int .i64 x.1.1)],BV 1 x.1.2.1++[⟨50,1,.row 3 1 8 (x.1.2.2.map BA)⟩]⟩) (fun x=>l.length-x.1.1) ⟨(0,m,[]),by simp⟩ (Sub.lit (by simp[BV])) ?_
 rintro⟨⟨k,m1,acc⟩,hk,hR,b1,b2,b3,b4⟩;simp only at hk hR b1 b2 b3 b4 |-
 by_cases qV:k<l.length
 ·obtain⟨s,hs,zM,vW⟩:=Ai qV;rw[aP0 qV,zM]at hR;simp only[Mk.syms]at hR
  have hz:(acc.length+1)*8<=150000000000000:=by
   have h4:(m.prods.length+l.length+1)*8<=(m.prods.length+l.length+1)*32:=bY0 _ (by omega);have h5:(acc.length+1)*8<=(m.prods.length+l.length+1)*8:=aQ0 _ (by omega);omega
  have wM:acc.length<=9223372036854775806:=by omega
  cases hl:s.label
  ·have jZ:m1.sym s=(m1,s.n):=by unfold Mk.sym;simp[hl]
   rw[jZ]at hR
   (refine Au Aa Aa (Ez @BV.eq_1 @AA.eq_1 qV zM hl hz wM) ?_;intros;refine Ae ?_)
   refine Ag.mk ⟨(k+1,m1,acc++[s.n]),show k+1<=l.length/\_/\m.nts<=m1.nts/\m1.nts<=m.nts+((k+1:Nat):Int)/\m1.prods.length<=m.prods.length+(k+1)/\(acc++[s.n]).length=k+1 from ⟨by omega,by simpa using hR,b1,by omega,by omega,by simp;omega⟩⟩ (Sub.lit (by simp[BV,BA])) (by simp;omega)
   skip
  ·cases yO:Er m1.hs s.n with
   | some h =>
    have jZ:m1.sym s=(m1,h):=by unfold Mk.sym;simp[hl,yO]
    rw[jZ]at hR;obtain⟨j,mP,mJ⟩:=Lu_ yO;simp only[aZ0,bK0]at mJ
    (repeat (first | refine AI fun K hK=> ?_ | (refine BR KJ mxd (by kernel_rfl) ?_;simp[KJ,qX,BV,AA,qV,zM,hl,hz,wM,mP,mJ,GJ,BI];try simp (disch:=omega) only[Ao]) | refine Aw ?_ | (refine Bb ?_ ?_ ?_;(· (simp[qX,BV,AA,qV,zM,hl,hz,wM,mP,mJ,GJ,BI];done));(try (rotate_left;(· (intro hc;(try simp[qX,BV,AA,qV,zM,hl,hz,wM,mP,mJ,GJ,BI]at hc);done))))) | (refine AK ?_;simp[results214,qX,BV,AA,qV,zM,hl,hz,wM,mP,mJ,GJ,BI]) | ((first | refine AD ?_ | refine AC ?_);simp[qX,BV,AA,qV,zM,hl,hz,wM,mP,mJ,GJ,BI]) | (intro hc;(try simp[qX,BV,AA,qV,zM,hl,hz,wM,mP,mJ,GJ,BI]at hc);(try (exfalso;omega))) | (refine⟨?_,?_⟩; · omega) | omega | apply_assumption -exfalso -symm | (exfalso;omega)))
    refine Ag.mk ⟨(k+1,m1,acc++[h]),show k+1<=l.length/\_/\m.nts<=m1.nts/\m1.nts<=m.nts+((k+1:Nat):Int)/\m1.prods.length<=m.prods.length+(k+1)/\(acc++[h]).length=k+1 from ⟨by omega,by simpa using hR,b1,by omega,by omega,by simp;omega⟩⟩ (Sub.lit (by simp[BV,BA])) (by simp;omega)
    skip
   | none =>
    have jZ:m1.sym s=({ m1 with nts:=m1.nts+1,hs:=m1.hs++[(s.n,m1.nts)],prods:=m1.prods++[⟨m1.nts,[s]⟩] },m1.nts):=by unfold Mk.sym;simp[hl,yO]
    rw[jZ]at hR;have hj:=Lv_ yO;have e1:=Jv m1 (by omega) (by omega);have e2:=Kd { m1 with nts:=m1.nts+1,hs:=m1.hs++[(s.n,m1.nts)] } m1.nts [⟨true,s.n⟩] (Nat.le_trans (aQ0 32 (show m1.prods.length+1<=m.prods.length+l.length+1 by omega)) h3)
    (repeat (first | refine AI fun K hK=> ?_ | (refine BR KJ mxd (by kernel_rfl) ?_;simp[KJ,qX,BV,AA,qV,zM,hl,hz,wM,hj,GJ,Hg,BI];try simp (disch:=omega) only[Ao]) | refine Aw ?_ | (refine Bb ?_ ?_ ?_;(· (simp[qX,BV,AA,qV,zM,hl,hz,wM,hj,GJ,Hg,BI];done));(try (rotate_left;(· (intro hc;(try simp[qX,BV,AA,qV,zM,hl,hz,wM,hj,GJ,Hg,BI]at hc);done))))) | (refine AK ?_;simp[results214,qX,BV,AA,qV,zM,hl,hz,wM,hj,GJ,Hg,BI]) | ((first | refine AD ?_ | refine AC ?_);simp[qX,BV,AA,qV,zM,hl,hz,wM,hj,GJ,Hg,BI]) | (intro hc;(try simp[qX,BV,AA,qV,zM,hl,hz,wM,hj,GJ,Hg,BI]at hc);(try (exfalso;omega))) | (refine AP [(0,0),(1,1),(2,2)] [] (e1) ?_ ?_;(· (simp[qX,BV,AA,qV,zM,hl,hz,wM,hj,GJ,Hg,BI];done));(intro _;try simp[qX,BV,AA,qV,zM,hl,hz,wM,hj,GJ,Hg,BI])) | (refine AP [(0,0),(1,1),(2,2)] [] (e2) ?_ ?_;(· (simp[qX,BV,AA,qV,zM,hl,hz,wM,hj,GJ,Hg,BI];done));(intro _;try simp[qX,BV,AA,qV,zM,hl,hz,wM,hj,GJ,Hg,BI])) | (refine⟨?_,?_⟩; · omega) | omega | apply_assumption -exfalso -symm | (exfalso;omega)))
    refine Ag.mk ⟨(k+1,{ m1 with nts:=m1.nts+1,hs:=m1.hs++[(s.n,m1.nts)],prods:=m1.prods++[⟨m1.nts,[s]⟩] },acc++[m1.nts]),show k+1<=l.length/\_/\m.nts<=m1.nts+1/\m1.nts+1<=m.nts+((k+1:Nat):Int)/\(m1.prods++[(⟨m1.nts,[s]⟩:Prod)]).length<=m.prods.length+(k+1)/\(acc++[m1.nts]).length=k+1 from ⟨by omega,by simpa using hR,by omega,by omega,by simp;omega,by simp;omega⟩⟩ (Sub.lit (by simp[BV,BA,Ah,AA,hl,GJ,Hg])) (by simp;omega)
    skip
 ·have qY:k=l.length:=by omega
  subst qY;rw[bE0]at hR;simp only[Mk.syms,bM0]at hR
  (refine Au Aa Aa (Aq @BV.eq_1) ?_;intros;refine Ae ?_)
  rw[<-hR];exact⟨⟨rfl,rfl⟩,rfl,⟨rfl,rfl⟩,rfl⟩
end Go.Proofs.Wy
end
