/- Parts of a proof, laid together: BO4, BO6, BO8, EnSu, BO9. -/
import Derived.Test.YtiojapdolljocaaGreatqBw15
import Derived.Test.YtiojapdolljocaaGreatqBw18
import Derived.Test.YtiojapdolljocaaGreatqBw20
import Derived.Test.YtiojapdolljocaaGreatqBw27
import Derived.Test.YtiojapdolljocaaGreatqBw28
import Derived.Test.YtiojapdolljocaaGreatqBw29
import Derived.Test.YtiojapdolljocaaGreatqBw30
set_option linter.unusedSimpArgs false
set_option maxHeartbeats 8000000
set_option linter.unusedVariables false
set_option linter.unusedSectionVars false
section
namespace Go.Proofs.Wy
open Go Go.Dm Go.Shelf Tryz
variable [DMode]
attribute [local irreducible] DW Bh Bk
set_option maxRecDepth 100000
def BI : Ann:=⟨[13,22,25],[⟨2,[],[],[0,1,2,3,4,5,6,7,9,10,12]⟩]⟩
theorem VU (S SF:List Sym) (A:List Arc) (e e':Bool) (f f' l l':List Nat) (hp:S <+: SF) (hf:∀q∈f',1<=q/\q<=S.length) (hS:S.length<9223372036854775807) (hb:(A.length+l.length*f'.length)*32<=150000000000000)
  (h1:(f.length+f'.length)*8<=140737488355328) (h2:(l'.length+l.length)*8<=140737488355328) :
  Bl prog (.func 108) [.bx 0 0 0,Mb e f l,Mb e' f' l'] (Bs 0 0 S A) (Mb (e&&e') (f++if e=true then f' else []) (l'++if e'=true then l else [])) (Bs 0 1 S (A++CV SF (BH l f'))):=by
 refine BU [22,25,6,7] [(0,0,0),(1,1,0),(2,2,1)] BI func108 call108 ntmps108 mxd (Az @BI.eq_1 results108) rfl (fun qJ B qX qQ=> ?_) (hv:=(by simp[Bs]));clear qJ;simp only[Ap];have e1:=Jd S SF A l f' hp hf hS hb;have e2:=Mf f (by omega);have e3:=Mf l' (by omega);have b1:(f.length+f'.length)*8<=150000000000000:=by omega
 have b2:(l'.length+l.length)*8<=150000000000000:=by omega
 obtain⟨Z,hZ⟩:∃Z,Z=A++CV SF (BH l f'):=⟨_,rfl⟩;rw[<-hZ]at e1 |-;cases e
 ·cases e'
  ·(repeat (first | (refine pI (id:=2) (BI).ow [] [0,1,2,3,4,5,6,7,9,10] 7 117 [.bool false,.nilsl,.nilsl] mxd rfl rfl (by kernel_rfl) (by kernel_rfl) (by simp[qX]) (by simp) (by simp) (by rfl) ?_;simp only[List.pop_toArray,eP0,eO0,List.dropLast_nil];simp[BF,BI,qX,Bs,b1,b2,BF];try simp (disch:=omega) only[Ai]) | refine AC fun K hK=> ?_ | (refine BL BI mxd (by kernel_rfl) ?_;simp[BI,qX,Bs,b1,b2,BF];try simp (disch:=omega) only[Ai]) | refine Am ?_ | (refine AX ?_ ?_ ?_;(· (simp[qX,Bs,b1,b2,BF];done));(try (rotate_left;(· (intro hc;(try simp[qX,Bs,b1,b2,BF]at hc);done))))) | (refine AI ?_;simp[results108,qX,Bs,b1,b2,BF]) | ((first | refine Av ?_ | refine Au ?_);simp[qX,Bs,b1,b2,BF]) | (intro hc;(try simp[qX,Bs,b1,b2,BF]at hc);(try (exfalso;omega))) | (refine AV [(0,0),(1,1),(2,2)] [] (e1) ?_ ?_;(· (simp[qX,Bs,b1,b2,BF];done));(intro _;try simp[qX,Bs,b1,b2,BF])) | (refine AV [] [(22,0)] (e2) ?_ ?_;(· (simp[qX,Bs,b1,b2,BF];done));(intro _;try simp[qX,Bs,b1,b2,BF])) | (refine AV [] [(25,0)] (e3) ?_ ?_;(· (simp[qX,Bs,b1,b2,BF];done));(intro _;try simp[qX,Bs,b1,b2,BF])) | (refine⟨?_,?_⟩; · omega) | omega | apply_assumption -exfalso -symm | (exfalso;omega)))
  ·(repeat (first | (refine pI (id:=2) (BI).ow [] [0,1,2,3,4,5,6,7,9,10] 7 117 [.bool false,.nilsl,.nilsl] mxd rfl rfl (by kernel_rfl) (by kernel_rfl) (by simp[qX]) (by simp) (by simp) (by rfl) ?_;simp only[List.pop_toArray,eP0,eO0,List.dropLast_nil];simp[BF,BI,qX,Bs,b1,b2,BF];try simp (disch:=omega) only[Ai]) | refine AC fun K hK=> ?_ | (refine BL BI mxd (by kernel_rfl) ?_;simp[BI,qX,Bs,b1,b2,BF];try simp (disch:=omega) only[Ai]) | refine Am ?_ | (refine AX ?_ ?_ ?_;(· (simp[qX,Bs,b1,b2,BF];done));(try (rotate_left;(· (intro hc;(try simp[qX,Bs,b1,b2,BF]at hc);done))))) | (refine AI ?_;simp[results108,qX,Bs,b1,b2,BF]) | ((first | refine Av ?_ | refine Au ?_);simp[qX,Bs,b1,b2,BF]) | (intro hc;(try simp[qX,Bs,b1,b2,BF]at hc);(try (exfalso;omega))) | (refine AV [(0,0),(1,1),(2,2)] [] (e1) ?_ ?_;(· (simp[qX,Bs,b1,b2,BF];done));(intro _;try simp[qX,Bs,b1,b2,BF])) | (refine AV [] [(22,0)] (e2) ?_ ?_;(· (simp[qX,Bs,b1,b2,BF];done));(intro _;try simp[qX,Bs,b1,b2,BF])) | (refine AV [] [(25,0)] (e3) ?_ ?_;(· (simp[qX,Bs,b1,b2,BF];done));(intro _;try simp[qX,Bs,b1,b2,BF])) | (refine⟨?_,?_⟩; · omega) | omega | apply_assumption -exfalso -symm | (exfalso;omega)))
 ·cases e'
  ·(repeat (first | (refine pI (id:=2) (BI).ow [] [0,1,2,3,4,5,6,7,9,10] 7 117 [.bool false,.nilsl,.nilsl] mxd rfl rfl (by kernel_rfl) (by kernel_rfl) (by simp[qX]) (by simp) (by simp) (by rfl) ?_;simp only[List.pop_toArray,eP0,eO0,List.dropLast_nil];simp[BF,BI,qX,Bs,b1,b2,BF];try simp (disch:=omega) only[Ai]) | refine AC fun K hK=> ?_ | (refine BL BI mxd (by kernel_rfl) ?_;simp[BI,qX,Bs,b1,b2,BF];try simp (disch:=omega) only[Ai]) | refine Am ?_ | (refine AX ?_ ?_ ?_;(· (simp[qX,Bs,b1,b2,BF];done));(try (rotate_left;(· (intro hc;(try simp[qX,Bs,b1,b2,BF]at hc);done))))) | (refine AI ?_;simp[results108,qX,Bs,b1,b2,BF]) | ((first | refine Av ?_ | refine Au ?_);simp[qX,Bs,b1,b2,BF]) | (intro hc;(try simp[qX,Bs,b1,b2,BF]at hc);(try (exfalso;omega))) | (refine AV [(0,0),(1,1),(2,2)] [] (e1) ?_ ?_;(· (simp[qX,Bs,b1,b2,BF];done));(intro _;try simp[qX,Bs,b1,b2,BF])) | (refine AV [] [(22,0)] (e2) ?_ ?_;(· (simp[qX,Bs,b1,b2,BF];done));(intro _;try simp[qX,Bs,b1,b2,BF])) | (refine AV [] [(25,0)] (e3) ?_ ?_;(· (simp[qX,Bs,b1,b2,BF];done));(intro _;try simp[qX,Bs,b1,b2,BF])) | (refine⟨?_,?_⟩; · omega) | omega | apply_assumption -exfalso -symm | (exfalso;omega)))
  ·(repeat (first | (refine pI (id:=2) (BI).ow [] [0,1,2,3,4,5,6,7,9,10] 7 117 [.bool false,.nilsl,.nilsl] mxd rfl rfl (by kernel_rfl) (by kernel_rfl) (by simp[qX]) (by simp) (by simp) (by rfl) ?_;simp only[List.pop_toArray,eP0,eO0,List.dropLast_nil];simp[BF,BI,qX,Bs,b1,b2,BF];try simp (disch:=omega) only[Ai]) | refine AC fun K hK=> ?_ | (refine BL BI mxd (by kernel_rfl) ?_;simp[BI,qX,Bs,b1,b2,BF];try simp (disch:=omega) only[Ai]) | refine Am ?_ | (refine AX ?_ ?_ ?_;(· (simp[qX,Bs,b1,b2,BF];done));(try (rotate_left;(· (intro hc;(try simp[qX,Bs,b1,b2,BF]at hc);done))))) | (refine AI ?_;simp[results108,qX,Bs,b1,b2,BF]) | ((first | refine Av ?_ | refine Au ?_);simp[qX,Bs,b1,b2,BF]) | (intro hc;(try simp[qX,Bs,b1,b2,BF]at hc);(try (exfalso;omega))) | (refine AV [(0,0),(1,1),(2,2)] [] (e1) ?_ ?_;(· (simp[qX,Bs,b1,b2,BF];done));(intro _;try simp[qX,Bs,b1,b2,BF])) | (refine AV [] [(22,0)] (e2) ?_ ?_;(· (simp[qX,Bs,b1,b2,BF];done));(intro _;try simp[qX,Bs,b1,b2,BF])) | (refine AV [] [(25,0)] (e3) ?_ ?_;(· (simp[qX,Bs,b1,b2,BF];done));(intro _;try simp[qX,Bs,b1,b2,BF])) | (refine⟨?_,?_⟩; · omega) | omega | apply_assumption -exfalso -symm | (exfalso;omega)))
end Go.Proofs.Wy
end
section
namespace Go.Proofs.Wy
open Go Go.Dm Tryz
variable [DMode]
def GR (H L:List ByteArray) (S:List Sym) (t:RT):List Sym:=S++(Cz (flat t)).map (Co H L)
def EX (H L:List ByteArray) (S:List Sym) (us:List RT):List Sym:=S++(Cz (Ah us)).map (Co H L)
def Hj (l:List Nd) (ah:Nat) (t:RT) (a:Nat):List Nat:=(VA t a).map (GG l ah)
def Ke (l:List Nd) (ah:Nat) (t:RT) (a:Nat):List Nat:=(MX t a).map (GG l ah)
def Fh (SF:List Sym) (l:List Nd) (ah:Nat) (A:List Arc) (t:RT) (a:Nat):List Arc:=A++CV SF ((VB t a).map (sJ l ah))
def Hk (l:List Nd) (ah:Nat) (k:Int) (us:List RT) (a:Nat):List Nat:=(Sf k us a).map (GG l ah)
def Gk (l:List Nd) (ah:Nat) (k:Int) (us:List RT) (a:Nat):List Nat:=(MB k us a).map (GG l ah)
def Ez (SF:List Sym) (l:List Nd) (ah:Nat) (A:List Arc) (k:Int) (us:List RT) (a:Nat):List Arc:=A++CV SF ((VC k us a []).map (sJ l ah))
theorem pX (H L:List ByteArray) (S:List Sym):EX H L S []=S:=by unfold EX;rw[BR];simp[Cz]
theorem Bn_ (l:List Nd) (ah:Nat) (k:Int) (a:Nat):Hk l ah k [] a=[]:=by unfold Hk;rw[HV];rfl
theorem AS_ (l:List Nd) (ah:Nat) (k:Int) (a:Nat):Gk l ah k [] a=[]:=by unfold Gk;rw[EW];rfl
theorem uL (SF:List Sym) (l:List Nd) (ah:Nat) (A:List Arc) (k:Int) (a:Nat):Ez SF l ah A k [] a=A:=by unfold Ez;rw[Ia];simp[CV]
theorem Zp (H L:List ByteArray) (S:List Sym) (us:List RT) (u:RT):EX H L S (us++[u])=GR H L (EX H L S us) u:=by
 unfold EX GR;rw[Dy,Hi,Fy,bI0,aS0]
theorem pY (H L:List ByteArray) (S:List Sym) {x:Nd} (ks:List RT) (h:¬(x.k=2\/x.k=3)):GR H L S (.mk x ks)=EX H L S ks:=by
 unfold EX GR;rw[Ax,IW h]
theorem tO (l:List Nd) (ah:Nat) (us:List RT) (u:RT) (a:Nat):Hk l ah 4 (us++[u]) a=Hk l ah 4 us a++(if pE 4 us=true then Hj l ah u (a+(Ah us).length)else []):=by
 unfold Hk Hj;rw[Jn,bI0]
 congr 1
 unfold pE;cases h:Fp us<;>simp
theorem tP (l:List Nd) (ah:Nat) {k:Int} (hk:¬k=4) (us:List RT) (u:RT) (a:Nat):Hk l ah k (us++[u]) a=Hk l ah k us a++Hj l ah u (a+(Ah us).length):=by
 unfold Hk Hj;rw[Jn,bI0,if_neg (fun h=>hk h.1)]
theorem sW (l:List Nd) (ah:Nat) (us:List RT) (u:RT) (a:Nat):Gk l ah 4 (us++[u]) a=Ke l ah u (a+(Ah us).length)++(if DD u=true then Gk l ah 4 us a else []):=by
 unfold Gk Ke;rw[Ja,if_pos rfl,bI0];cases h:DD u<;>simp
theorem sX (l:List Nd) (ah:Nat) {k:Int} (hk:¬k=4) (us:List RT) (u:RT) (a:Nat):Gk l ah k (us++[u]) a=Gk l ah k us a++Ke l ah u (a+(Ah us).length):=by
 unfold Gk Ke;rw[Ja,if_neg hk,bI0]
theorem eI (SF:List Sym) (l:List Nd) (ah:Nat) (A:List Arc) (us:List RT) (u:RT) (a:Nat):Ez SF l ah A 4 (us++[u]) a=Fh SF l ah (Ez SF l ah A 4 us a) u (a+(Ah us).length)++CV SF (BH (Gk l ah 4 us a) (Hj l ah u (a+(Ah us).length))):=by
 unfold Ez Fh Gk Hj;rw[Nn,SX,bI0,bI0,FI,FI];simp[aS0]
theorem eJ (SF:List Sym) (l:List Nd) (ah:Nat) (A:List Arc) {k:Int} (hk:¬k=4) (us:List RT) (u:RT) (a:Nat):Ez SF l ah A k (us++[u]) a=Fh SF l ah (Ez SF l ah A k us a) u (a+(Ah us).length):=by
 unfold Ez Fh;rw[Rj k hk,bI0,FI,aS0]
theorem Bo_ (l:List Nd) (ah:Nat) {x:Nd} (ks:List RT) (a:Nat) (h:¬(x.k=2\/x.k=3)):Hj l ah (.mk x ks) a=Hk l ah x.k ks (a+1):=by
 unfold Hj Hk;rw[La,if_neg h]
theorem AT_ (l:List Nd) (ah:Nat) {x:Nd} (ks:List RT) (a:Nat) (h:¬(x.k=2\/x.k=3)):Ke l ah (.mk x ks) a=Gk l ah x.k ks (a+1):=by
 unfold Ke Gk;rw[HQ,if_neg h]
theorem Rg (SF:List Sym) (l:List Nd) (ah:Nat) (A:List Arc) {x:Nd} (ks:List RT) (a:Nat) (h:¬(x.k=2\/x.k=3)) (h6:x.k=6\/x.k=7):Fh SF l ah A (.mk x ks) a=Ez SF l ah A x.k ks (a+1)++CV SF (BH (Gk l ah x.k ks (a+1)) (Hk l ah x.k ks (a+1))):=by
 unfold Fh Ez Gk Hk;rw[Jx,if_neg h,if_pos h6,SX,bI0,FI,aS0]
theorem eG (SF:List Sym) (l:List Nd) (ah:Nat) (A:List Arc) {x:Nd} (ks:List RT) (a:Nat) (h:¬(x.k=2\/x.k=3)) (h6:¬(x.k=6\/x.k=7)):Fh SF l ah A (.mk x ks) a=Ez SF l ah A x.k ks (a+1):=by
 unfold Fh Ez;rw[Jx,if_neg h,if_neg h6,bO0]
theorem Bl_ (l:List Nd) (ah:Nat) (t:RT) (a:Nat):(Hj l ah t a).length<=(Cz (flat t)).length:=by unfold Hj;rw[aO0];exact Pc t a
theorem AR_ (l:List Nd) (ah:Nat) (t:RT) (a:Nat):(Ke l ah t a).length<=(Cz (flat t)).length:=by unfold Ke;rw[aO0];exact OY t a
theorem Xw (l:List Nd) (ah:Nat) (k:Int) (us:List RT) (a:Nat):(Hk l ah k us a).length<=(Cz (Ah us)).length:=by unfold Hk;rw[aO0];exact Pd k us a
theorem WY (l:List Nd) (ah:Nat) (k:Int) (us:List RT) (a:Nat):(Gk l ah k us a).length<=(Cz (Ah us)).length:=by unfold Gk;rw[aO0];exact OZ k us a
theorem Tv (SF:List Sym) (l:List Nd) (ah:Nat) (A:List Arc) (k:Int) (us:List RT) (a:Nat) (h:(Cz (Ah us)).length<=64):(Ez SF l ah A k us a).length<=A.length+8192*(Ah us).length:=by
 unfold Ez;rw[aE0,JQ,aO0];have:=Vf k us a [] (by simpa using h);omega
theorem uI (SF:List Sym) (l:List Nd) (ah:Nat) (A:List Arc) (t:RT) (a:Nat) (h:(Cz (flat t)).length<=64):(Fh SF l ah A t a).length+4096<=A.length+8192*(flat t).length:=by
 unfold Fh;rw[aE0,JQ,aO0];have:=Ve t a h;omega
theorem pW (H L:List ByteArray) (S:List Sym) (t:RT):(GR H L S t).length=S.length+(Cz (flat t)).length:=by simp[GR]
theorem Su (H L:List ByteArray) (S:List Sym) (us:List RT):(EX H L S us).length=S.length+(Cz (Ah us)).length:=by simp[EX]
theorem Bk_ {l r:List Nd} {t:RT} {a ah:Nat} (h:l.drop a=flat t++r):∀q∈Hj l ah t a,1<=q/\q<=ah+HH l (a+(flat t).length):=Bq_ h
theorem Bm_ {l r:List Nd} {k:Int} {us:List RT} {a ah:Nat} (h:l.drop a=Ah us++r):∀q∈Hk l ah k us a,1<=q/\q<=ah+HH l (a+(Ah us).length):=Dh_ h
end Go.Proofs.Wy
end
section
namespace Go.Proofs.Wy
open Go Go.Dm Go.Shelf Tryz
variable [DMode]
attribute [local irreducible] DW Bh Bk
set_option maxRecDepth 100000
abbrev ofF (H L:List ByteArray):DVal:= .fn (.func 59) [] [.ref [Iu H L]]
def Mw (H L:List ByteArray) (l:List Nd) (ah:Nat) (SF:List Sym) (t:RT):Prop :=
 ∀(a:Nat) (r:List Nd) (S:List Sym) (A:List Arc),l.drop a=flat t++r->S.length=ah+HH l a->GR H L S t <+: SF->(A.length+8192*(flat t).length)*32<=150000000000000 ->
  Bl prog (.func 58) [.bx 0 0 0,Bi (flat t++r),ofF H L] (Bs 0 0 S A) (.tup [Mb (DD t) (Hj l ah t a) (Ke l ah t a),Bi r]) (Bs 1 1 (GR H L S t) (Fh SF l ah A t a))
def oK : Ann:=⟨[66,75,90],[⟨1,[8],[],[]⟩,⟨5,[],[0],[]⟩]⟩
theorem VI (H L:List ByteArray) (l:List Nd) (ah:Nat) (SF:List Sym) (x:Nd) (hx:x.k=2\/x.k=3) (jU:ah+(Cz l).length<=64):Mw H L l ah SF (.mk x []):=by
 intro a r S A hdr hS bO hA;have zG:flat (.mk x [])=[x]:=by rw[Ax,BR]
 have hlx:Cz (flat (.mk x []))=[x]:=by rw[zG,Qk hx];rfl
 have h1:GR H L S (.mk x [])=S++[Co H L x]:=by unfold GR;rw[hlx];rfl
 have h2:Hj l ah (.mk x []) a=[GG l ah a]:=by unfold Hj;rw[La,if_pos hx];rfl
 have h3:Ke l ah (.mk x []) a=[GG l ah a]:=by unfold Ke;rw[HQ,if_pos hx];rfl
 have h4:Fh SF l ah A (.mk x []) a=A:=by unfold Fh;rw[Jx,if_pos hx];simp[CV]
 have h5:DD (.mk x [])=false:=by rw[UT,if_pos hx]
 have h6:GG l ah a=S.length+1:=by unfold GG;omega
 have hs:=lG hdr;rw[hlx]at hs
 have nV:HH l a<=(Cz l).length:=by
  rw[<-LB]
  by_cases h:a<=l.length
  ·exact PF l h
  ·unfold HH;rw[cR0 (by omega),aT0];exact Nat.le_refl _
 rw[h1,h2,h3,h4,h5,h6,zG];have e1:=sG H L x;clear bO h1 h2 h3 h4 h5 h6 hdr zG hlx;refine BU [6,10] [(0,0,0),(1,1,1),(2,2,1)] oK func58 call58 ntmps58 mxd (Az @oK.eq_1 results58) rfl (fun qJ B qX qQ=> ?_) (hv:=(by simp[Bs]));clear qJ;have hS1:S.length<=64:=by omega
 have hS2:(S.length+1)*16<=150000000000000:=by omega
 simp only[Ap,List.cons_append,List.nil_append];have hT:List.take r.length (List.map Bu r)=List.map Bu r:=cR0 (by simp)
 rcases hx with hx | hx
 ·simp only[Bu,hx]at e1;exact AA (AQ e1) Ac (OB @Bs.eq_1 @Bu.eq_1 @AR.eq_1 hx hS2 @BK.eq_1 hT)
 ·simp only[Bu,hx]at e1;exact AA (AQ e1) Ac (OB @Bs.eq_1 @Bu.eq_1 @AR.eq_1 hx hS2 @BK.eq_1 hT)
theorem Ea_ (l:List Nd) (p:Nat):HH l p<=(Cz l).length:=by
 rw[<-LB]
 by_cases h:p<=l.length
 ·exact PF l h
 ·unfold HH;rw[cR0 (by omega),aT0];exact Nat.le_refl _
theorem Xv : ∀us:List RT,us.length<=(Ah us).length
 | []=>by simp
 | u::us=>by
  have h1:=FY u;have h2:=Xv us;rw[Ao,aE0,List.length_cons];omega
theorem Xt : ∀{us:List RT} {u:RT},u∈us->(flat u).length<=(Ah us).length
 | v::us,u,h=>by
  rw[Ao,aE0]
  rcases aL0.1 h with rfl | h
  ·omega
  ·have:=Xt h;omega
def TA : Ann:=⟨[66,75,90],[⟨1,[8],[],[]⟩,⟨5,[],[0],[]⟩]⟩
theorem VH (H L:List ByteArray) (l:List Nd) (ah:Nat) (SF:List Sym) (x:Nd) (ks:List RT) (ht:DR (.mk x ks)=true) (hx:¬(x.k=2\/x.k=3)) (jU:ah+(Cz l).length<=64) (ih:∀u∈ks,Mw H L l ah SF u):Mw H L l ah SF (.mk x ks):=by
 intro a r S A hdr hS bO hA;have hn:=(BJ ht).2.1;have nF:=Aj_ ht hx
 have cC:l.drop (a+1)=Ah ks++r:=by
  have:=Tm (m:=[x]) (r:=Ah ks++r) (by rw[hdr,Ax];rfl);simpa using this
 have hrk1:HH l (a+1)=HH l a:=by
  have:=Ei (m:=[x]) (r:=Ah ks++r) (by rw[hdr,Ax];rfl);rw[IW hx]at this;simpa[Cz]using this
 rw[pY H L S ks hx]at bO |-;rw[Bo_ l ah ks a hx,AT_ l ah ks a hx,nF];rw[Ax,List.length_cons]at hA;have gC:=lG cC;have hrl:=Ea_ l;obtain⟨AF,hAF⟩:∃AF,AF=Fh SF l ah A (.mk x ks) a:=⟨_,rfl⟩;rw[<-hAF,Ax];clear nF hdr ht;refine BU [6,10] [(0,0,0),(1,1,1),(2,2,1)] TA func58 call58 ntmps58 mxd (Az @TA.eq_1 results58) rfl (fun qJ B qX qQ=> ?_) (hv:=(by simp[Bs]));clear qJ;have k2:¬x.k=2:=fun h=>hx (.inl h)
 have k3:¬x.k=3:=fun h=>hx (.inr h)
 have hT:List.take (Ah ks++r).length (List.map Bu (Ah ks++r))=List.map Bu (Ah ks++r):=cR0 (by simp);obtain⟨R1,hR1⟩:∃R1,R1=Ah ks++r:=⟨_,rfl⟩;simp only[Ap,List.cons_append];rw[<-hR1]at hT |-;have b2:(x.k==2)=false:=by simpa using k2
 have b3:(x.k==3)=false:=by simpa using k3
 (refine Ba Ac Ac (OB @Bs.eq_1 @Bu.eq_1 k2 k3 b2 b3 hT) ?_;intros;refine Al ?_)
 have wC:(decide (x.k=1)||x.k==4)=pE x.k []:=by rw[PX];rfl
 rw[wC];refine Vu 10 1 1 8 rfl rfl ?_;refine Vu 10 2 1 8 rfl rfl ?_;have hj0:(0:Int)=(([]:List RT).length:Int):=rfl
 refine An (X:={p:List RT×List RT//ks=p.1++p.2}) (fun p=>⟨[(0,.bx 0 0 0),(2,ofF H L),(6,.bx 6 1 0),(7,.nilsl),(8,.ref (Bu x)),(9,Bi (Ah p.1.2++r)),(10,.bx 10 1 0),(59,.int .i64 x.n),(60,.int .i64 p.1.1.length)],
  Bs 1 1 (EX H L S p.1.1) (Ez SF l ah A x.k p.1.1 (a+1))++[⟨6,1,.box [.bool false,.nilsl,.nilsl]⟩,⟨10,1,.box [.bool (pE x.k p.1.1),Ey (Hk l ah x.k p.1.1 (a+1)),Ey (Gk l ah x.k p.1.1 (a+1))]⟩]⟩) (fun p=>p.1.2.length) ⟨([],ks),rfl⟩ (Sub.lit (by simp[Bs,pX,uL,Bn_,AS_,Bu,hR1])) ?_
 rintro⟨⟨us,vs⟩,wR⟩;simp only at wR |-
 cases vs with
 | cons u vs =>
  have qU:u∈ks:=by rw[wR];simp
  have qV:(us.length:Int)<x.n:=by rw[hn,wR];simp;omega
  have hks1:Ah ks=Ah us++(flat u++Ah vs):=by rw[wR,Dy,Ao]
  have hdrA:l.drop (a+1)=Ah us++(flat u++(Ah vs++r)):=by rw[cC,hks1];simp
  have hdrU:=Tm hdrA;have hSU:(EX H L S us).length=ah+HH l (a+1+(Ah us).length):=by rw[Su,Ei hdrA,hS,hrk1];omega
  have wU:EX H L S (us++[u]) <+: SF:=by
   refine List.IsPrefix.trans ?_ bO;rw[wR];unfold EX;rw[show us++u::vs=(us++[u])++vs by simp,Dy (us++[u]),Fy,bI0,<-aS0];exact List.prefix_append _ _
  have hSn:=Zp H L S us u;rw[hSn]at wU
  have hlv1:(Cz (Ah us)).length+(Cz (flat u)).length<=(Cz l).length:=by
   rw[hks1,Fy,Fy,aE0,aE0]at gC;omega
  have hAl:=Tv SF l ah A x.k us (a+1) (by omega);have zG:(Ah ks).length=(Ah us).length+((flat u).length+(Ah vs).length):=by rw[hks1,aE0,aE0]
  have e1:=ih u qU _ _ (EX H L S us) (Ez SF l ah A x.k us (a+1)) hdrU hSU wU (by omega);have hAl1:=uI SF l ah (Ez SF l ah A x.k us (a+1)) u (a+1+(Ah us).length) (by omega);have hSl1:=pW H L (EX H L S us) u;have bS:=Bk_ (ah:=ah) hdrU;have hr5:=hrl (a+1+(Ah us).length+(flat u).length);rw[Ei hdrU]at bS hr5;have hF0:=Xw l ah x.k us (a+1);have hL0:=WY l ah x.k us (a+1);have hF1:=Bl_ l ah u (a+1+(Ah us).length)
  have bZ:=AR_ l ah u (a+1+(Ah us).length);have hEn:=Ul x.k us u;have hFn:=fun h=>tP l ah (k:=x.k) h us u (a+1)
  have hLn:=fun h=>sX l ah (k:=x.k) h us u (a+1)
  have hAn:=fun h=>eJ SF l ah A (k:=x.k) h us u (a+1)
  have hFn4:=tO l ah us u (a+1);have hLn4:=sW l ah us u (a+1);have hAn4:=eI SF l ah A us u (a+1);have hdl:Ah (u::vs)++r=flat u++(Ah vs++r):=by rw[Ao,aS0]
  rw[hdl];obtain⟨R0,hR0⟩:∃R0,R0=flat u++(Ah vs++r):=⟨_,rfl⟩;rw[<-hR0]at e1 |-;obtain⟨R2,vQ⟩:∃R2,R2=Ah vs++r:=⟨_,rfl⟩;rw[<-vQ]at e1;have hjm:=Pa (l:=Gk l ah x.k us (a+1)) (f:=Hj l ah u (a+1+(Ah us).length)) (by omega) (by omega);have gX:=Xv us;have dV:IntKind.i64.wrap ((us.length:Int)+1)=(us.length:Int)+1:=wq
  by_cases k4:x.k=4
  ·have e2:=VU (GR H L (EX H L S us) u) SF (Fh SF l ah (Ez SF l ah A x.k us (a+1)) u (a+1+(Ah us).length)) (pE x.k us) (DD u) (Hk l ah x.k us (a+1)) (Hj l ah u (a+1+(Ah us).length)) (Gk l ah x.k us (a+1)) (Ke l ah u (a+1+(Ah us).length)) wU (fun q hq=>by have:=bS q hq;omega) (by omega) (by omega) (by omega) (by omega);rw[k4]at e1 e2 hEn;rw[if_pos rfl]at hEn;rw[<-hFn4,<-hLn4,<-hAn4,<-hEn]at e2;rw[<-hSn]at e1 e2
   simp only[k4]
   (refine Ba Ac (Az (Ii [(0,0),(1,1),(2,2)] [] e1) (Ii [(0,0),(1,1),(2,2)] [] e2)) (JV @Bs.eq_1 @Bu.eq_1 k4 qV) ?_;intros;refine Al ?_)
   refine Ak.mk ⟨(us++[u],vs),by simp[wR]⟩ (Sub.lit (by simp[Bs,vQ,dV])) (by simp)
   skip
  ·have e2:=eN (pE x.k us) (DD u) (Hk l ah x.k us (a+1)) (Hj l ah u (a+1+(Ah us).length)) (Gk l ah x.k us (a+1)) (Ke l ah u (a+1+(Ah us).length)) (by omega) (by omega);rw[if_neg k4]at hEn;rw[<-hFn k4,<-hLn k4,<-hEn]at e2;rw[<-hAn k4,<-hSn]at e1;have b4:(x.k==4)=false:=by simpa using k4
   (refine Ba (AQ e2) (AQ (Ii [(0,0),(1,1),(2,2)] [] e1)) (Lj @Bs.eq_1 @Bu.eq_1 k4 b4 qV) ?_;intros;refine Al ?_)
   refine Ak.mk ⟨(us++[u],vs),by simp[wR]⟩ (Sub.lit (by simp[Bs,vQ,dV])) (by simp)
   skip
 | nil =>
  rw[bO0]at wR;subst wR;have wJ:¬((ks.length:Int)<x.n):=by rw[hn];omega
  have hSl:=Su H L S ks;have hr5:=hrl (a+1+(Ah ks).length);rw[Ei cC]at hr5;have hF0:=Xw l ah x.k ks (a+1);have hL0:=WY l ah x.k ks (a+1);have hAl:=Tv SF l ah A x.k ks (a+1) (by omega);have bS:=Bm_ (ah:=ah) (k:=x.k) cC;rw[Ei cC]at bS;have hjm:=Pa (l:=Gk l ah x.k ks (a+1)) (f:=Hk l ah x.k ks (a+1)) (by omega) (by omega);have e3:=Jd (EX H L S ks) SF (Ez SF l ah A x.k ks (a+1)) (Gk l ah x.k ks (a+1)) (Hk l ah x.k ks (a+1)) bO (fun q hq=>by have:=bS q hq;omega) (by omega) (by omega)
  have hdl:Ah []++r=r:=by rw[BR];rfl
  rw[hdl];have hbe:∀n:Int,(x.k==n)=decide (x.k=n):=fun n=>rfl
  by_cases h6:x.k=6
  ·rw[Rg SF l ah A ks a hx (.inl h6)]at hAF;rw[<-hAF]at e3;rw[h6]at e3;simp only[h6];exact AA Ac (AQ (Ii [(0,0),(1,1),(2,2)] [] e3)) (JV @Bs.eq_1 @Bu.eq_1 h6 wJ)
  ·by_cases h7:x.k=7
   ·rw[Rg SF l ah A ks a hx (.inr h7)]at hAF;rw[<-hAF]at e3;rw[h7]at e3;simp only[h7];exact AA Ac (AQ (Ii [(0,0),(1,1),(2,2)] [] e3)) (JV @Bs.eq_1 @Bu.eq_1 h7 wJ)
   ·rw[eG SF l ah A ks a hx (by omega)]at hAF;have b6:(x.k==6)=false:=by simpa using h6
    have b7:(x.k==7)=false:=by simpa using h7
    exact AA Ac Ac (uN @Bs.eq_1 @Bu.eq_1 h6 h7 b6 b7 wJ hbe hAF)
theorem Pp (H L:List ByteArray) (l:List Nd) (ah:Nat) (SF:List Sym) (jU:ah+(Cz l).length<=64):∀(n:Nat) (t:RT),(flat t).length<=n->DR t=true->Mw H L l ah SF t
 | 0,t,hn,_=>by have:=FY t;omega
 | n+1,.mk x ks,hn,ht=>by
  by_cases hx:x.k=2\/x.k=3
  ·have:=IY ht hx;subst this;exact VI H L l ah SF x hx jU
  ·refine VH H L l ah SF x ks ht hx jU fun u hu=> ?_
   refine Pp H L l ah SF jU n u ?_ (OS (BJ ht).2.2 u hu);have h1:=Xt hu;rw[Ax,List.length_cons]at hn;omega
end Go.Proofs.Wy
end
section
namespace Go.Dm
variable [DMode]
open Go.Shelf Go.Sort Go.Proofs Go.RowKit
abbrev FK_ := { s:ByteArray//s.size<=maxLen }
instance : Inhabited FK_:=⟨⟨⟨#[]⟩,by decide⟩⟩
end Go.Dm
end
section
namespace Go.Proofs.Wy
open Go Go.Dm Go.Shelf Tryz
variable [DMode]
attribute [local irreducible] DW Bh Bk
set_option maxRecDepth 100000
abbrev Zh (x y:Arc):Bool:=HZ x y==0
theorem Bt_ {x y:Arc} (h:Zh x y=false):¬x=y:=fun e=>by
 have:=(GF.eq0 x y).2 e;simp[Zh,this]at h
theorem Bu_ {x y:Arc} (h:Zh x y=true):x=y:=(GF.eq0 x y).1 (by simpa[Zh]using h)
theorem BT_ {x y:Arc} (h:¬x=y):(x.fr==y.fr&&(x.sy.label==y.sy.label&&(x.sy.n==y.sy.n&&x.to==y.to)))=false:=by
 cases hb:(x.fr==y.fr&&(x.sy.label==y.sy.label&&(x.sy.n==y.sy.n&&x.to==y.to)))with
 | false=>rfl
 | true =>
  exfalso
  apply h
  obtain⟨a,⟨b,c⟩,d⟩:=x;obtain⟨a',⟨b',c'⟩,d'⟩:=y;simp at hb;obtain⟨rfl,rfl,rfl,rfl⟩:=hb;rfl
def oJ : Ann:=⟨[],[]⟩
theorem Sg (l:List Arc) :
  Bl prog (.func 65) [.osl 0 0] [⟨0,0,.row 39 4 32 (l.map CB)⟩] (Ga (Df Zh l)) []:=by
 refine MA [0] [] func65 rfl call65 (by simp[ntmps65]) (by simp) (by simp) ?_;intro qJ hwo B qX;have qQ:=FH_ oJ mxd (Az @oJ.eq_1 results65);simp only[Ap]
 have hl:l.length<=9223372036854775807:=by
  simp only[VF,maxLen,aO0]at hwo;omega
 clear hwo
 by_cases vR:l.length<2
 ·have mB:Df Zh l=l:=by
   match l,vR with
   | [],_=>rfl
   | [x],_=>rfl
  exact AA Ac Ac (Az vR mB)
 have hl2':¬(l.length:Int)<2:=by omega
 obtain⟨R0,hR0⟩:∃R0,R0=Df Zh l:=⟨_,rfl⟩;rw[<-hR0]
 (refine Ba Ac Ac (Az vR hl2') ?_;intros;refine Al ?_)
 refine An (X:={k:Nat//1<=k/\k<=l.length/\Df Zh (l.take k)=l.take k}) (fun k=>⟨[(0,.osl 0 0),(3,.int .i64 k.1)],[⟨0,0,.row 39 4 32 (l.map CB)⟩]⟩) (fun k=>l.length-k.1) ⟨1,by
  obtain⟨x,t,rfl⟩:∃x t,l=x::t:=by
   cases l with
   | nil=>simp at vR
   | cons x t=>exact⟨x,t,rfl⟩
  simp[Df,Cv]⟩ (Sub.lit (by simp)) ?_
 rintro⟨k,yE,hk,hck⟩
 by_cases qV:k<l.length
 ·obtain⟨q,hq,vH,hqm⟩:=Ar qV;obtain⟨p,hp,zD,bM⟩:=Ar (show k-1<l.length by omega);have dV:IntKind.i64.wrap ((k:Int)-1)=(k:Int)-1:=wq;have zA:((k:Int)-1).toNat=k-1:=by omega
  have hs:=QT (e:=Zh) (by omega) hp hq;have qS:(0:Int)<=(k:Int)-1:=by omega
  have wV:(k:Int)-1<l.length:=by omega
  cases mG:Zh q p
  ·rw[mG]at hs;simp only[bE0,if_false]at hs;have vU:(q.fr==p.fr&&(q.sy.label==p.sy.label&&(q.sy.n==p.sy.n&&q.to==p.to)))=false:=BT_ (Bt_ mG)
   (refine Ba Ac Ac (Sm @CB.eq_1 qV vH zD hp hq zA dV qS wV vU) ?_;intros;refine Al ?_)
   refine Ak.mk ⟨k+1,by omega,by omega,by rw[hs,hck,bR0,hq];rfl⟩ (Sub.lit (by simp)) (by simp;omega)
   skip
  ·rw[mG]at hs;simp only[if_true,bO0]at hs;have vU:(q.fr==p.fr&&(q.sy.label==p.sy.label&&(q.sy.n==p.sy.n&&q.to==p.to)))=true:=by rw[Bu_ mG];simp
   (refine Ba Ac Ac (Sm @CB.eq_1 qV vH zD hp hq zA dV qS wV vU) ?_;intros;refine Al ?_)
   clear dV zA qS wV
   refine An (X:={x:Nat×Nat×List Arc//1<=x.1/\k+x.1<=l.length/\x.2.1<k+x.1/\k<=x.2.1/\x.2.2.length=l.length/\x.2.2.take x.2.1=Df Zh (l.take (k+x.1))/\∀j,k+x.1<=j+1->x.2.2[j]? =l[j]?}) (fun x=>⟨[(0,.osl 0 0),(3,.int .i64 x.1.2.1),(4,.vw 0 0 4 32 k (l.length-k)),(5,.int .i64 x.1.1)],[⟨0,0,.row 39 4 32 (x.1.2.2.map CB)⟩]⟩) (fun x=>l.length-x.1.1)
    ⟨(1,k,l),show 1<=1/\k+1<=l.length/\k<k+1/\k<=k/\l.length=l.length/\l.take k=Df Zh (l.take (k+1))/\(∀j,k+1<=j+1->l[j]? =l[j]?) from ⟨by omega,by omega,by omega,by omega,rfl,by rw[hs,hck],fun _ _=>rfl⟩⟩ (Sub.lit (by simp)) ?_
   rintro⟨⟨m,kk,R⟩,x1,x2,x3,x4,x5,x6,x7⟩;simp only at x1 x2 x3 x4 x5 x6 x7 |-;have hv:k+(l.length-k)<=l.length:=by omega
   by_cases hm:m<l.length-k
   ·obtain⟨y,hy,zW,dC⟩:=Ar (show k+m<l.length by omega);obtain⟨z,hz,hz',hzm⟩:=Ar (show k+m-1<l.length by omega);obtain⟨c0,yL,_,_⟩:=Ar (show kk<R.length by omega);have hRy:R[k+m]? =some y:=by rw[x7 _ (by omega)];exact hy
    have hRz:R[k+(m-1)]? =some z:=by rw[x7 _ (by omega),show k+(m-1)=k+m-1 by omega];exact hz
    have hRy':R[k+m]'(by omega)=y:=(aF0.1 hRy).2;have hRz':R[k+(m-1)]'(by omega)=z:=(aF0.1 hRz).2;have dV:IntKind.i64.wrap ((m:Int)-1)=(m:Int)-1:=wq;have zA:((m:Int)-1).toNat=m-1:=by omega
    have qS:(0:Int)<=(m:Int)-1:=by omega
    have wV:(m:Int)-1<((l.length-k:Nat):Int):=by omega
    have jX:=QT (e:=Zh) (by omega) hz hy;rw[<-x6]at jX;have qN:kk<l.length:=by omega
    cases mL:Zh y z
    ·rw[mL]at jX;simp only[bE0,if_false]at jX;have he3:(y.fr==z.fr&&(y.sy.label==z.sy.label&&(y.sy.n==z.sy.n&&y.to==z.to)))=false:=BT_ (Bt_ mL)
     (refine Ba Ac Ac (FI_ @CB.eq_1 hm hRy hRz hRy' hRz' zA dV qS wV x5 hv yL qN he3) ?_;intros;refine Al ?_)
     refine Ak.mk ⟨(m+1,kk+1,R.set kk y),show 1<=m+1/\k+(m+1)<=l.length/\kk+1<k+(m+1)/\k<=kk+1/\(R.set kk y).length=l.length/\(R.set kk y).take (kk+1)=Df Zh (l.take (k+(m+1)))/\(∀j,k+(m+1)<=j+1->(R.set kk y)[j]? =l[j]?) from ⟨by omega,by omega,by omega,by omega,by simp[x5],?_,fun j hj=> ?_⟩⟩ (Sub.lit ?_) (by simp;omega)
     ·rw[show k+(m+1)=k+m+1 by omega,jX,bR0,List.getElem?_set_self (by omega),List.take_set_of_le (by omega)];rfl
     ·rw[List.getElem?_set_ne (by omega)];exact x7 j (by omega)
     ·have fL:Bq ((R.map CB).set kk [.int .i64 y.fr,.bool y.sy.label,.int .i64 y.sy.n,.int .i64 y.to])=0:=by
       rw[show (R.map CB).set kk [.int .i64 y.fr,.bool y.sy.label,.int .i64 y.sy.n,.int .i64 y.to]=(R.set kk y).map CB by simp[List.map_set,CB]];exact AD_ _
      simp[List.map_set,CB,fL]
     skip
    ·rw[mL]at jX;simp only[if_true,bO0]at jX;have he3:(y.fr==z.fr&&(y.sy.label==z.sy.label&&(y.sy.n==z.sy.n&&y.to==z.to)))=true:=by rw[Bu_ mL];simp
     (refine Ba Ac Ac (FI_ @CB.eq_1 hm hRy hRz hRy' hRz' zA dV qS wV x5 hv yL qN he3) ?_;intros;refine Al ?_)
     refine Ak.mk ⟨(m+1,kk,R),show 1<=m+1/\k+(m+1)<=l.length/\kk<k+(m+1)/\k<=kk/\R.length=l.length/\R.take kk=Df Zh (l.take (k+(m+1)))/\(∀j,k+(m+1)<=j+1->R[j]? =l[j]?) from ⟨by omega,by omega,by omega,by omega,x5,by rw[show k+(m+1)=k+m+1 by omega,jX],fun j hj=>x7 j (by omega)⟩⟩ (Sub.lit (by simp)) (by simp;omega)
     skip
   ·have hkm:k+m=l.length:=by omega
    have hcl1:(Ea (R.map CB) kk (l.length-kk) [.int .i64 0,.bool false,.int .i64 0,.int .i64 0]).length=l.length:=by simp[Ea];omega
    have hcl2:(Ea (R.map CB) kk (l.length-kk) [.int .i64 0,.bool false,.int .i64 0,.int .i64 0]).take kk=R0.map CB:=by
     have e1:l.take (k+m)=l:=by rw[hkm,aT0]
     rw[e1]at x6;rw[hR0,<-x6];simp only[Ea];rw[aS0,List.take_append_of_le_length (by simp;omega),List.take_take,Nat.min_self,List.map_take]
    have vJ:kk<=l.length:=by omega
    exact AA Ac Ac (Rp hm x5 hv hcl1 hcl2 vJ)
 ·have qN:k=l.length:=by omega
  subst qN;rw[aT0]at hck;rw[hck]at hR0;exact AA Ac Ac (AQ hR0)
theorem VQ (l:List Arc):Bl prog (.func 62) [.osl 0 0,.fn (.func 63) [] []] [⟨0,0,.row 39 4 32 (l.map CB)⟩] (.tup []) [⟨0,0,.row 39 4 32 ((Nz HZ l).map CB)⟩]:=by
 obtain⟨un,hun⟩:∃un:List DVal->Arc,∀e,un (CB e)=e:=⟨fun d=>match d with | [.int _ a,.bool b,.int _ c,.int _ e]=>⟨a,⟨b,c⟩,e⟩ | _=>⟨0,⟨false,0⟩,0⟩,fun e=>rfl⟩
 have qU:∀x∈l.map CB,∃p∈l,x=CB p:=fun x hx=>by
  obtain⟨p,hp,rfl⟩:=aQ0.1 hx;exact⟨p,hp,rfl⟩
 refine rI (cf:=fun x y=>HZ (un x) (un y)) Tryz.sortFArc (by rfl) call62 (by kernel_rfl) (by kernel_rfl) (by decide) rfl ?_ call63 ?_ ?_ ?_ ?_ ?_
 ·intro x hx;obtain⟨p,_,rfl⟩:=qU x hx;simp
 ·intro x hx y hy;obtain⟨p,_,rfl⟩:=qU x hx;obtain⟨q,_,rfl⟩:=qU y hy;simp only[hun];exact @LI Lp p q
 ·intro x _;rw[GF.refl];omega
 ·intro x _ y _ z _;exact GF.trans _ _ _
 ·intro x _ y _ z _;exact GF.ntrans _ _ _
 ·intro L hp hs;exact pR GF hun hp hs
end Go.Proofs.Wy
end
