/- Parts of a proof, laid together: BO4, BO6, BO8, BX1, EnSu, BO9, BY0. -/
import Derived.Test.YtiojapdolljocaaGreatqBo15
import Derived.Test.YtiojapdolljocaaGreatqBo16
import Derived.Test.YtiojapdolljocaaGreatqBo20
import Derived.Test.YtiojapdolljocaaGreatqBo29
import Derived.Test.YtiojapdolljocaaGreatqBo30
set_option linter.unusedSimpArgs false
set_option maxHeartbeats 8000000
set_option linter.unusedVariables false
set_option linter.unusedSectionVars false
section
namespace Go.Proofs.Wy
open Go Go.Dm Go.Shelf Tryz
variable [DMode]
attribute [local irreducible] DW Bm Bq
set_option maxRecDepth 100000
def BG : Ann:=⟨[13,22,25],[⟨2,[],[],[0,1,2,3,4,5,6,7,9,10,12]⟩]⟩
theorem Vn (S SF:List Sym) (A:List Arc) (e e':Bool) (f f' l l':List Nat) (hp:S <+: SF) (hf:∀q∈f',1<=q/\q<=S.length) (hS:S.length<9223372036854775807) (hb:(A.length+l.length*f'.length)*32<=150000000000000)
  (h1:(f.length+f'.length)*8<=140737488355328) (h2:(l'.length+l.length)*8<=140737488355328) :
  Bh prog (.func 108) [.bx 0 0 0,LD e f l,LD e' f' l'] (Bp 0 0 S A) (LD (e&&e') (f++if e=true then f' else []) (l'++if e'=true then l else [])) (Bp 0 1 S (A++CR SF (Cn l f'))):=by
 refine BI [22,25,6,7] [(0,0,0),(1,1,0),(2,2,1)] BG func108 call108 ntmps108 mxd (Ar @BG.eq_1 results108) rfl (fun qJ B qX qQ=> ?_) (hv:=(by simp[Bp]));clear qJ;simp only[Ak];have e1:=IK S SF A l f' hp hf hS hb;have e2:=LH f (by omega);have e3:=LH l' (by omega);have b1:(f.length+f'.length)*8<=150000000000000:=by omega
 have b2:(l'.length+l.length)*8<=150000000000000:=by omega
 obtain⟨Z,hZ⟩:∃Z,Z=A++CR SF (Cn l f'):=⟨_,rfl⟩;rw[<-hZ]at e1 |-;cases e
 ·cases e'
  ·(repeat (first | (refine oJ (id:=2) (BG).ow [] [0,1,2,3,4,5,6,7,9,10] 7 117 [.bool false,.nilsl,.nilsl] mxd rfl rfl (by kernel_rfl) (by kernel_rfl) (by simp[qX]) (by simp) (by simp) (by rfl) ?_;simp only[List.pop_toArray,eP0,eO0,List.dropLast_nil];simp[BF,BG,qX,Bp,b1,b2,BF];try simp (disch:=omega) only[Ai]) | refine AI fun K hK=> ?_ | (refine BS BG mxd (by kernel_rfl) ?_;simp[BG,qX,Bp,b1,b2,BF];try simp (disch:=omega) only[Ai]) | refine Ao ?_ | (refine Bg ?_ ?_ ?_;(· (simp[qX,Bp,b1,b2,BF];done));(try (rotate_left;(· (intro hc;(try simp[qX,Bp,b1,b2,BF]at hc);done))))) | (refine AL ?_;simp[results108,qX,Bp,b1,b2,BF]) | ((first | refine Az ?_ | refine Ay ?_);simp[qX,Bp,b1,b2,BF]) | (intro hc;(try simp[qX,Bp,b1,b2,BF]at hc);(try (exfalso;omega))) | (refine AM [(0,0),(1,1),(2,2)] [] (e1) ?_ ?_;(· (simp[qX,Bp,b1,b2,BF];done));(intro _;try simp[qX,Bp,b1,b2,BF])) | (refine AM [] [(22,0)] (e2) ?_ ?_;(· (simp[qX,Bp,b1,b2,BF];done));(intro _;try simp[qX,Bp,b1,b2,BF])) | (refine AM [] [(25,0)] (e3) ?_ ?_;(· (simp[qX,Bp,b1,b2,BF];done));(intro _;try simp[qX,Bp,b1,b2,BF])) | (refine⟨?_,?_⟩; · omega) | omega | apply_assumption -exfalso -symm | (exfalso;omega)))
  ·(repeat (first | (refine oJ (id:=2) (BG).ow [] [0,1,2,3,4,5,6,7,9,10] 7 117 [.bool false,.nilsl,.nilsl] mxd rfl rfl (by kernel_rfl) (by kernel_rfl) (by simp[qX]) (by simp) (by simp) (by rfl) ?_;simp only[List.pop_toArray,eP0,eO0,List.dropLast_nil];simp[BF,BG,qX,Bp,b1,b2,BF];try simp (disch:=omega) only[Ai]) | refine AI fun K hK=> ?_ | (refine BS BG mxd (by kernel_rfl) ?_;simp[BG,qX,Bp,b1,b2,BF];try simp (disch:=omega) only[Ai]) | refine Ao ?_ | (refine Bg ?_ ?_ ?_;(· (simp[qX,Bp,b1,b2,BF];done));(try (rotate_left;(· (intro hc;(try simp[qX,Bp,b1,b2,BF]at hc);done))))) | (refine AL ?_;simp[results108,qX,Bp,b1,b2,BF]) | ((first | refine Az ?_ | refine Ay ?_);simp[qX,Bp,b1,b2,BF]) | (intro hc;(try simp[qX,Bp,b1,b2,BF]at hc);(try (exfalso;omega))) | (refine AM [(0,0),(1,1),(2,2)] [] (e1) ?_ ?_;(· (simp[qX,Bp,b1,b2,BF];done));(intro _;try simp[qX,Bp,b1,b2,BF])) | (refine AM [] [(22,0)] (e2) ?_ ?_;(· (simp[qX,Bp,b1,b2,BF];done));(intro _;try simp[qX,Bp,b1,b2,BF])) | (refine AM [] [(25,0)] (e3) ?_ ?_;(· (simp[qX,Bp,b1,b2,BF];done));(intro _;try simp[qX,Bp,b1,b2,BF])) | (refine⟨?_,?_⟩; · omega) | omega | apply_assumption -exfalso -symm | (exfalso;omega)))
 ·cases e'
  ·(repeat (first | (refine oJ (id:=2) (BG).ow [] [0,1,2,3,4,5,6,7,9,10] 7 117 [.bool false,.nilsl,.nilsl] mxd rfl rfl (by kernel_rfl) (by kernel_rfl) (by simp[qX]) (by simp) (by simp) (by rfl) ?_;simp only[List.pop_toArray,eP0,eO0,List.dropLast_nil];simp[BF,BG,qX,Bp,b1,b2,BF];try simp (disch:=omega) only[Ai]) | refine AI fun K hK=> ?_ | (refine BS BG mxd (by kernel_rfl) ?_;simp[BG,qX,Bp,b1,b2,BF];try simp (disch:=omega) only[Ai]) | refine Ao ?_ | (refine Bg ?_ ?_ ?_;(· (simp[qX,Bp,b1,b2,BF];done));(try (rotate_left;(· (intro hc;(try simp[qX,Bp,b1,b2,BF]at hc);done))))) | (refine AL ?_;simp[results108,qX,Bp,b1,b2,BF]) | ((first | refine Az ?_ | refine Ay ?_);simp[qX,Bp,b1,b2,BF]) | (intro hc;(try simp[qX,Bp,b1,b2,BF]at hc);(try (exfalso;omega))) | (refine AM [(0,0),(1,1),(2,2)] [] (e1) ?_ ?_;(· (simp[qX,Bp,b1,b2,BF];done));(intro _;try simp[qX,Bp,b1,b2,BF])) | (refine AM [] [(22,0)] (e2) ?_ ?_;(· (simp[qX,Bp,b1,b2,BF];done));(intro _;try simp[qX,Bp,b1,b2,BF])) | (refine AM [] [(25,0)] (e3) ?_ ?_;(· (simp[qX,Bp,b1,b2,BF];done));(intro _;try simp[qX,Bp,b1,b2,BF])) | (refine⟨?_,?_⟩; · omega) | omega | apply_assumption -exfalso -symm | (exfalso;omega)))
  ·(repeat (first | (refine oJ (id:=2) (BG).ow [] [0,1,2,3,4,5,6,7,9,10] 7 117 [.bool false,.nilsl,.nilsl] mxd rfl rfl (by kernel_rfl) (by kernel_rfl) (by simp[qX]) (by simp) (by simp) (by rfl) ?_;simp only[List.pop_toArray,eP0,eO0,List.dropLast_nil];simp[BF,BG,qX,Bp,b1,b2,BF];try simp (disch:=omega) only[Ai]) | refine AI fun K hK=> ?_ | (refine BS BG mxd (by kernel_rfl) ?_;simp[BG,qX,Bp,b1,b2,BF];try simp (disch:=omega) only[Ai]) | refine Ao ?_ | (refine Bg ?_ ?_ ?_;(· (simp[qX,Bp,b1,b2,BF];done));(try (rotate_left;(· (intro hc;(try simp[qX,Bp,b1,b2,BF]at hc);done))))) | (refine AL ?_;simp[results108,qX,Bp,b1,b2,BF]) | ((first | refine Az ?_ | refine Ay ?_);simp[qX,Bp,b1,b2,BF]) | (intro hc;(try simp[qX,Bp,b1,b2,BF]at hc);(try (exfalso;omega))) | (refine AM [(0,0),(1,1),(2,2)] [] (e1) ?_ ?_;(· (simp[qX,Bp,b1,b2,BF];done));(intro _;try simp[qX,Bp,b1,b2,BF])) | (refine AM [] [(22,0)] (e2) ?_ ?_;(· (simp[qX,Bp,b1,b2,BF];done));(intro _;try simp[qX,Bp,b1,b2,BF])) | (refine AM [] [(25,0)] (e3) ?_ ?_;(· (simp[qX,Bp,b1,b2,BF];done));(intro _;try simp[qX,Bp,b1,b2,BF])) | (refine⟨?_,?_⟩; · omega) | omega | apply_assumption -exfalso -symm | (exfalso;omega)))
end Go.Proofs.Wy
end
section
namespace Go.Proofs.Wy
open Go Go.Dm Tryz
variable [DMode]
def GK (H L:List ByteArray) (S:List Sym) (t:RT):List Sym:=S++(CU (flat t)).map (En H L)
def EJ (H L:List ByteArray) (S:List Sym) (us:List RT):List Sym:=S++(CU (Ah us)).map (En H L)
def Hc (l:List Nd) (ah:Nat) (t:RT) (a:Nat):List Nat:=(YA t a).map (Mh l ah)
def JM (l:List Nd) (ah:Nat) (t:RT) (a:Nat):List Nat:=(NM t a).map (Mh l ah)
def ET (SF:List Sym) (l:List Nd) (ah:Nat) (A:List Arc) (t:RT) (a:Nat):List Arc:=A++CR SF ((aC t a).map (rD l ah))
def He (l:List Nd) (ah:Nat) (k:Int) (us:List RT) (a:Nat):List Nat:=(UU k us a).map (Mh l ah)
def Ga (l:List Nd) (ah:Nat) (k:Int) (us:List RT) (a:Nat):List Nat:=(NN k us a).map (Mh l ah)
def Ei (SF:List Sym) (l:List Nd) (ah:Nat) (A:List Arc) (k:Int) (us:List RT) (a:Nat):List Arc:=A++CR SF ((YE k us a []).map (rD l ah))
theorem oU (H L:List ByteArray) (S:List Sym):EJ H L S []=S:=by unfold EJ;rw[Dr];simp[CU]
theorem AP_ (l:List Nd) (ah:Nat) (k:Int) (a:Nat):He l ah k [] a=[]:=by unfold He;rw[Ly];rfl
theorem Ay_ (l:List Nd) (ah:Nat) (k:Int) (a:Nat):Ga l ah k [] a=[]:=by unfold Ga;rw[Gi];rfl
theorem tN (SF:List Sym) (l:List Nd) (ah:Nat) (A:List Arc) (k:Int) (a:Nat):Ei SF l ah A k [] a=A:=by unfold Ei;rw[Jx];simp[CR]
theorem YK (H L:List ByteArray) (S:List Sym) (us:List RT) (u:RT):EJ H L S (us++[u])=GK H L (EJ H L S us) u:=by
 unfold EJ GK;rw[EC,sM,Fj,bF0,aT0]
theorem oV (H L:List ByteArray) (S:List Sym) {x:Nd} (ks:List RT) (h:¬(x.k=2\/x.k=3)):GK H L S (.mk x ks)=EJ H L S ks:=by
 unfold EJ GK;rw[AR,IH h]
theorem sO (l:List Nd) (ah:Nat) (us:List RT) (u:RT) (a:Nat):He l ah 4 (us++[u]) a=He l ah 4 us a++(if pE 4 us=true then Hc l ah u (a+(Ah us).length)else []):=by
 unfold He Hc;rw[Qe,bF0]
 congr 1
 unfold pE;cases h:Fp us<;>simp
theorem sQ (l:List Nd) (ah:Nat) {k:Int} (hk:¬k=4) (us:List RT) (u:RT) (a:Nat):He l ah k (us++[u]) a=He l ah k us a++Hc l ah u (a+(Ah us).length):=by
 unfold He Hc;rw[Qe,bF0,if_neg (fun h=>hk h.1)]
theorem rY (l:List Nd) (ah:Nat) (us:List RT) (u:RT) (a:Nat):Ga l ah 4 (us++[u]) a=JM l ah u (a+(Ah us).length)++(if DQ u=true then Ga l ah 4 us a else []):=by
 unfold Ga JM;rw[PH,if_pos rfl,bF0];cases h:DQ u<;>simp
theorem rZ (l:List Nd) (ah:Nat) {k:Int} (hk:¬k=4) (us:List RT) (u:RT) (a:Nat):Ga l ah k (us++[u]) a=Ga l ah k us a++JM l ah u (a+(Ah us).length):=by
 unfold Ga JM;rw[PH,if_neg hk,bF0]
theorem aA (SF:List Sym) (l:List Nd) (ah:Nat) (A:List Arc) (us:List RT) (u:RT) (a:Nat):Ei SF l ah A 4 (us++[u]) a=ET SF l ah (Ei SF l ah A 4 us a) u (a+(Ah us).length)++CR SF (Cn (Ga l ah 4 us a) (Hc l ah u (a+(Ah us).length))):=by
 unfold Ei ET Ga Hc;rw[SQ,Sr,bF0,bF0,Fx,Fx];simp[aT0]
theorem aB (SF:List Sym) (l:List Nd) (ah:Nat) (A:List Arc) {k:Int} (hk:¬k=4) (us:List RT) (u:RT) (a:Nat):Ei SF l ah A k (us++[u]) a=ET SF l ah (Ei SF l ah A k us a) u (a+(Ah us).length):=by
 unfold Ei ET;rw[Xm k hk,bF0,Fx,aT0]
theorem AQ_ (l:List Nd) (ah:Nat) {x:Nd} (ks:List RT) (a:Nat) (h:¬(x.k=2\/x.k=3)):Hc l ah (.mk x ks) a=He l ah x.k ks (a+1):=by
 unfold Hc He;rw[Qa,if_neg h]
theorem Az_ (l:List Nd) (ah:Nat) {x:Nd} (ks:List RT) (a:Nat) (h:¬(x.k=2\/x.k=3)):JM l ah (.mk x ks) a=Ga l ah x.k ks (a+1):=by
 unfold JM Ga;rw[Kq,if_neg h]
theorem QH (SF:List Sym) (l:List Nd) (ah:Nat) (A:List Arc) {x:Nd} (ks:List RT) (a:Nat) (h:¬(x.k=2\/x.k=3)) (h6:x.k=6\/x.k=7):ET SF l ah A (.mk x ks) a=Ei SF l ah A x.k ks (a+1)++CR SF (Cn (Ga l ah x.k ks (a+1)) (He l ah x.k ks (a+1))):=by
 unfold ET Ei Ga He;rw[MW,if_neg h,if_pos h6,Sr,bF0,Fx,aT0]
theorem ZZ (SF:List Sym) (l:List Nd) (ah:Nat) (A:List Arc) {x:Nd} (ks:List RT) (a:Nat) (h:¬(x.k=2\/x.k=3)) (h6:¬(x.k=6\/x.k=7)):ET SF l ah A (.mk x ks) a=Ei SF l ah A x.k ks (a+1):=by
 unfold ET Ei;rw[MW,if_neg h,if_neg h6,bX0]
theorem AN_ (l:List Nd) (ah:Nat) (t:RT) (a:Nat):(Hc l ah t a).length<=(CU (flat t)).length:=by unfold Hc;rw[aO0];exact Ox t a
theorem Ax_ (l:List Nd) (ah:Nat) (t:RT) (a:Nat):(JM l ah t a).length<=(CU (flat t)).length:=by unfold JM;rw[aO0];exact Ot t a
theorem WJ (l:List Nd) (ah:Nat) (k:Int) (us:List RT) (a:Nat):(He l ah k us a).length<=(CU (Ah us)).length:=by unfold He;rw[aO0];exact Oy k us a
theorem Wn (l:List Nd) (ah:Nat) (k:Int) (us:List RT) (a:Nat):(Ga l ah k us a).length<=(CU (Ah us)).length:=by unfold Ga;rw[aO0];exact Ou k us a
theorem SO (SF:List Sym) (l:List Nd) (ah:Nat) (A:List Arc) (k:Int) (us:List RT) (a:Nat) (h:(CU (Ah us)).length<=64):(Ei SF l ah A k us a).length<=A.length+8192*(Ah us).length:=by
 unfold Ei;rw[aB0,Jv,aO0];have:=UB k us a [] (by simpa using h);omega
theorem tJ (SF:List Sym) (l:List Nd) (ah:Nat) (A:List Arc) (t:RT) (a:Nat) (h:(CU (flat t)).length<=64):(ET SF l ah A t a).length+4096<=A.length+8192*(flat t).length:=by
 unfold ET;rw[aB0,Jv,aO0];have:=UA t a h;omega
theorem oT (H L:List ByteArray) (S:List Sym) (t:RT):(GK H L S t).length=S.length+(CU (flat t)).length:=by simp[GK]
theorem RI (H L:List ByteArray) (S:List Sym) (us:List RT):(EJ H L S us).length=S.length+(CU (Ah us)).length:=by simp[EJ]
theorem AM_ {l r:List Nd} {t:RT} {a ah:Nat} (h:l.drop a=flat t++r):∀q∈Hc l ah t a,1<=q/\q<=ah+JI l (a+(flat t).length):=AS_ h
theorem AO_ {l r:List Nd} {k:Int} {us:List RT} {a ah:Nat} (h:l.drop a=Ah us++r):∀q∈He l ah k us a,1<=q/\q<=ah+JI l (a+(Ah us).length):=CW_ h
end Go.Proofs.Wy
end
section
namespace Go.Proofs.Wy
open Go Go.Dm Go.Shelf Tryz
variable [DMode]
attribute [local irreducible] DW Bm Bq
set_option maxRecDepth 100000
abbrev ofF (H L:List ByteArray):DVal:= .fn (.func 59) [] [.ref [ES H L]]
def Me (H L:List ByteArray) (l:List Nd) (ah:Nat) (SF:List Sym) (t:RT):Prop :=
 ∀(a:Nat) (r:List Nd) (S:List Sym) (A:List Arc),l.drop a=flat t++r->S.length=ah+JI l a->GK H L S t <+: SF->(A.length+8192*(flat t).length)*32<=150000000000000 ->
  Bh prog (.func 58) [.bx 0 0 0,Bl (flat t++r),ofF H L] (Bp 0 0 S A) (.tup [LD (DQ t) (Hc l ah t a) (JM l ah t a),Bl r]) (Bp 1 1 (GK H L S t) (ET SF l ah A t a))
def lX : Ann:=⟨[66,75,90],[⟨1,[8],[],[]⟩,⟨5,[],[0],[]⟩]⟩
theorem Vd (H L:List ByteArray) (l:List Nd) (ah:Nat) (SF:List Sym) (x:Nd) (hx:x.k=2\/x.k=3) (jR:ah+(CU l).length<=64):Me H L l ah SF (.mk x []):=by
 intro a r S A hdr hS bJ hA;have zL:flat (.mk x [])=[x]:=by rw[AR,Dr]
 have hlx:CU (flat (.mk x []))=[x]:=by rw[zL,Pz hx];rfl
 have h1:GK H L S (.mk x [])=S++[En H L x]:=by unfold GK;rw[hlx];rfl
 have h2:Hc l ah (.mk x []) a=[Mh l ah a]:=by unfold Hc;rw[Qa,if_pos hx];rfl
 have h3:JM l ah (.mk x []) a=[Mh l ah a]:=by unfold JM;rw[Kq,if_pos hx];rfl
 have h4:ET SF l ah A (.mk x []) a=A:=by unfold ET;rw[MW,if_pos hx];simp[CR]
 have h5:DQ (.mk x [])=false:=by rw[iH,if_pos hx]
 have h6:Mh l ah a=S.length+1:=by unfold Mh;omega
 have hs:=eU hdr;rw[hlx]at hs
 have nU:JI l a<=(CU l).length:=by
  rw[<-Jm]
  by_cases h:a<=l.length
  ·exact OX l h
  ·unfold JI;rw[cE0 (by omega),bC0];exact Nat.le_refl _
 rw[h1,h2,h3,h4,h5,h6,zL];have e1:=pZ H L x;clear bJ h1 h2 h3 h4 h5 h6 hdr zL hlx;refine BI [6,10] [(0,0,0),(1,1,1),(2,2,1)] lX func58 call58 ntmps58 mxd (Ar @lX.eq_1 results58) rfl (fun qJ B qX qQ=> ?_) (hv:=(by simp[Bp]));clear qJ;have hS1:S.length<=64:=by omega
 have hS2:(S.length+1)*16<=150000000000000:=by omega
 simp only[Ak,List.cons_append,List.nil_append];have hT:List.take r.length (List.map BM r)=List.map BM r:=cE0 (by simp)
 rcases hx with hx | hx
 ·simp only[BM,hx]at e1;exact Aw (AJ e1) Ab (NA @Bp.eq_1 @BM.eq_1 @Bf.eq_1 hx hS2 @BH.eq_1 hT)
 ·simp only[BM,hx]at e1;exact Aw (AJ e1) Ab (NA @Bp.eq_1 @BM.eq_1 @Bf.eq_1 hx hS2 @BH.eq_1 hT)
theorem DQ_ (l:List Nd) (p:Nat):JI l p<=(CU l).length:=by
 rw[<-Jm]
 by_cases h:p<=l.length
 ·exact OX l h
 ·unfold JI;rw[cE0 (by omega),bC0];exact Nat.le_refl _
theorem WI : ∀us:List RT,us.length<=(Ah us).length
 | []=>by simp
 | u::us=>by
  have h1:=FO u;have h2:=WI us;rw[Aq,aB0,List.length_cons];omega
theorem WG : ∀{us:List RT} {u:RT},u∈us->(flat u).length<=(Ah us).length
 | v::us,u,h=>by
  rw[Aq,aB0]
  rcases aJ0.1 h with rfl | h
  ·omega
  ·have:=WG h;omega
def SX : Ann:=⟨[66,75,90],[⟨1,[8],[],[]⟩,⟨5,[],[0],[]⟩]⟩
theorem Vc (H L:List ByteArray) (l:List Nd) (ah:Nat) (SF:List Sym) (x:Nd) (ks:List RT) (ht:EZ (.mk x ks)=true) (hx:¬(x.k=2\/x.k=3)) (jR:ah+(CU l).length<=64) (ih:∀u∈ks,Me H L l ah SF u):Me H L l ah SF (.mk x ks):=by
 intro a r S A hdr hS bJ hA;have hn:=(Cx ht).2.1;have nH:=DU_ ht hx
 have cG:l.drop (a+1)=Ah ks++r:=by
  have:=SG (m:=[x]) (r:=Ah ks++r) (by rw[hdr,AR];rfl);simpa using this
 have hrk1:JI l (a+1)=JI l a:=by
  have:=FB (m:=[x]) (r:=Ah ks++r) (by rw[hdr,AR];rfl);rw[IH hx]at this;simpa[CU]using this
 rw[oV H L S ks hx]at bJ |-;rw[AQ_ l ah ks a hx,Az_ l ah ks a hx,nH];rw[AR,List.length_cons]at hA;have fO:=eU cG;have dL:=DQ_ l;obtain⟨AF,hAF⟩:∃AF,AF=ET SF l ah A (.mk x ks) a:=⟨_,rfl⟩;rw[<-hAF,AR];clear nH hdr ht;refine BI [6,10] [(0,0,0),(1,1,1),(2,2,1)] SX func58 call58 ntmps58 mxd (Ar @SX.eq_1 results58) rfl (fun qJ B qX qQ=> ?_) (hv:=(by simp[Bp]));clear qJ;have k2:¬x.k=2:=fun h=>hx (.inl h)
 have k3:¬x.k=3:=fun h=>hx (.inr h)
 have hT:List.take (Ah ks++r).length (List.map BM (Ah ks++r))=List.map BM (Ah ks++r):=cE0 (by simp);obtain⟨R1,hR1⟩:∃R1,R1=Ah ks++r:=⟨_,rfl⟩;simp only[Ak,List.cons_append];rw[<-hR1]at hT |-;have b2:(x.k==2)=false:=by simpa using k2
 have b3:(x.k==3)=false:=by simpa using k3
 (refine AX Ab Ab (NA @Bp.eq_1 @BM.eq_1 k2 k3 b2 b3 hT) ?_;intros;refine Am ?_)
 have wE:(decide (x.k=1)||x.k==4)=pE x.k []:=by rw[DT_];rfl
 rw[wE];refine UQ 10 1 1 8 rfl rfl ?_;refine UQ 10 2 1 8 rfl rfl ?_;have hj0:(0:Int)=(([]:List RT).length:Int):=rfl
 refine Al (X:={p:List RT×List RT//ks=p.1++p.2}) (fun p=>⟨[(0,.bx 0 0 0),(2,ofF H L),(6,.bx 6 1 0),(7,.nilsl),(8,.ref (BM x)),(9,Bl (Ah p.1.2++r)),(10,.bx 10 1 0),(59,.int .i64 x.n),(60,.int .i64 p.1.1.length)],
  Bp 1 1 (EJ H L S p.1.1) (Ei SF l ah A x.k p.1.1 (a+1))++[⟨6,1,.box [.bool false,.nilsl,.nilsl]⟩,⟨10,1,.box [.bool (pE x.k p.1.1),Eh (He l ah x.k p.1.1 (a+1)),Eh (Ga l ah x.k p.1.1 (a+1))]⟩]⟩) (fun p=>p.1.2.length) ⟨([],ks),rfl⟩ (Sub.lit (by simp[Bp,oU,tN,AP_,Ay_,BM,hR1])) ?_
 rintro⟨⟨us,vs⟩,zV⟩;simp only at zV |-
 cases vs with
 | cons u vs =>
  have qY:u∈ks:=by rw[zV];simp
  have qV:(us.length:Int)<x.n:=by rw[hn,zV];simp;omega
  have hks1:Ah ks=Ah us++(flat u++Ah vs):=by rw[zV,EC,Aq]
  have hdrA:l.drop (a+1)=Ah us++(flat u++(Ah vs++r)):=by rw[cG,hks1];simp
  have hdrU:=SG hdrA;have hSU:(EJ H L S us).length=ah+JI l (a+1+(Ah us).length):=by rw[RI,FB hdrA,hS,hrk1];omega
  have wU:EJ H L S (us++[u]) <+: SF:=by
   refine List.IsPrefix.trans ?_ bJ;rw[zV];unfold EJ;rw[show us++u::vs=(us++[u])++vs by simp,EC (us++[u]),Fj,bF0,<-aT0];exact List.prefix_append _ _
  have hSn:=YK H L S us u;rw[hSn]at wU
  have hlv1:(CU (Ah us)).length+(CU (flat u)).length<=(CU l).length:=by
   rw[hks1,Fj,Fj,aB0,aB0]at fO;omega
  have hAl:=SO SF l ah A x.k us (a+1) (by omega);have zL:(Ah ks).length=(Ah us).length+((flat u).length+(Ah vs).length):=by rw[hks1,aB0,aB0]
  have e1:=ih u qY _ _ (EJ H L S us) (Ei SF l ah A x.k us (a+1)) hdrU hSU wU (by omega);have hAl1:=tJ SF l ah (Ei SF l ah A x.k us (a+1)) u (a+1+(Ah us).length) (by omega);have hSl1:=oT H L (EJ H L S us) u;have bK:=AM_ (ah:=ah) hdrU;have hr5:=dL (a+1+(Ah us).length+(flat u).length);rw[FB hdrU]at bK hr5;have hF0:=WJ l ah x.k us (a+1);have hL0:=Wn l ah x.k us (a+1);have hF1:=AN_ l ah u (a+1+(Ah us).length)
  have bV:=Ax_ l ah u (a+1+(Ah us).length);have hEn:=Ck_ x.k us u;have hFn:=fun h=>sQ l ah (k:=x.k) h us u (a+1)
  have hLn:=fun h=>rZ l ah (k:=x.k) h us u (a+1)
  have hAn:=fun h=>aB SF l ah A (k:=x.k) h us u (a+1)
  have hFn4:=sO l ah us u (a+1);have hLn4:=rY l ah us u (a+1);have hAn4:=aA SF l ah A us u (a+1);have hdl:Ah (u::vs)++r=flat u++(Ah vs++r):=by rw[Aq,aT0]
  rw[hdl];obtain⟨R0,hR0⟩:∃R0,R0=flat u++(Ah vs++r):=⟨_,rfl⟩;rw[<-hR0]at e1 |-;obtain⟨R2,vJ⟩:∃R2,R2=Ah vs++r:=⟨_,rfl⟩;rw[<-vJ]at e1;have hjm:=Ov (l:=Ga l ah x.k us (a+1)) (f:=Hc l ah u (a+1+(Ah us).length)) (by omega) (by omega);have gG:=WI us;have gI:IntKind.i64.wrap ((us.length:Int)+1)=(us.length:Int)+1:=wq
  by_cases k4:x.k=4
  ·have e2:=Vn (GK H L (EJ H L S us) u) SF (ET SF l ah (Ei SF l ah A x.k us (a+1)) u (a+1+(Ah us).length)) (pE x.k us) (DQ u) (He l ah x.k us (a+1)) (Hc l ah u (a+1+(Ah us).length)) (Ga l ah x.k us (a+1)) (JM l ah u (a+1+(Ah us).length)) wU (fun q hq=>by have:=bK q hq;omega) (by omega) (by omega) (by omega) (by omega);rw[k4]at e1 e2 hEn;rw[if_pos rfl]at hEn;rw[<-hFn4,<-hLn4,<-hAn4,<-hEn]at e2;rw[<-hSn]at e1 e2
   simp only[k4]
   (refine AX Ab (Ar (Ji [(0,0),(1,1),(2,2)] [] e1) (Ji [(0,0),(1,1),(2,2)] [] e2)) (Ik @Bp.eq_1 @BM.eq_1 k4 qV) ?_;intros;refine Am ?_)
   refine An.mk ⟨(us++[u],vs),by simp[zV]⟩ (Sub.lit (by simp[Bp,vJ,gI])) (by simp)
   skip
  ·have e2:=aF (pE x.k us) (DQ u) (He l ah x.k us (a+1)) (Hc l ah u (a+1+(Ah us).length)) (Ga l ah x.k us (a+1)) (JM l ah u (a+1+(Ah us).length)) (by omega) (by omega);rw[if_neg k4]at hEn;rw[<-hFn k4,<-hLn k4,<-hEn]at e2;rw[<-hAn k4,<-hSn]at e1;have b4:(x.k==4)=false:=by simpa using k4
   (refine AX (AJ e2) (AJ (Ji [(0,0),(1,1),(2,2)] [] e1)) (Mj @Bp.eq_1 @BM.eq_1 k4 b4 qV) ?_;intros;refine Am ?_)
   refine An.mk ⟨(us++[u],vs),by simp[zV]⟩ (Sub.lit (by simp[Bp,vJ,gI])) (by simp)
   skip
 | nil =>
  rw[bX0]at zV;subst zV;have wV:¬((ks.length:Int)<x.n):=by rw[hn];omega
  have hSl:=RI H L S ks;have hr5:=dL (a+1+(Ah ks).length);rw[FB cG]at hr5;have hF0:=WJ l ah x.k ks (a+1);have hL0:=Wn l ah x.k ks (a+1);have hAl:=SO SF l ah A x.k ks (a+1) (by omega);have bK:=AO_ (ah:=ah) (k:=x.k) cG;rw[FB cG]at bK;have hjm:=Ov (l:=Ga l ah x.k ks (a+1)) (f:=He l ah x.k ks (a+1)) (by omega) (by omega);have e3:=IK (EJ H L S ks) SF (Ei SF l ah A x.k ks (a+1)) (Ga l ah x.k ks (a+1)) (He l ah x.k ks (a+1)) bJ (fun q hq=>by have:=bK q hq;omega) (by omega) (by omega)
  have hdl:Ah []++r=r:=by rw[Dr];rfl
  rw[hdl];have hbe:∀n:Int,(x.k==n)=decide (x.k=n):=fun n=>rfl
  by_cases h6:x.k=6
  ·rw[QH SF l ah A ks a hx (.inl h6)]at hAF;rw[<-hAF]at e3;rw[h6]at e3;simp only[h6];exact Aw Ab (AJ (Ji [(0,0),(1,1),(2,2)] [] e3)) (Ik @Bp.eq_1 @BM.eq_1 h6 wV)
  ·by_cases h7:x.k=7
   ·rw[QH SF l ah A ks a hx (.inr h7)]at hAF;rw[<-hAF]at e3;rw[h7]at e3;simp only[h7];exact Aw Ab (AJ (Ji [(0,0),(1,1),(2,2)] [] e3)) (Ik @Bp.eq_1 @BM.eq_1 h7 wV)
   ·rw[ZZ SF l ah A ks a hx (by omega)]at hAF;have b6:(x.k==6)=false:=by simpa using h6
    have b7:(x.k==7)=false:=by simpa using h7
    exact Aw Ab Ab (YF @Bp.eq_1 @BM.eq_1 h6 h7 b6 b7 wV hbe hAF)
theorem OJ (H L:List ByteArray) (l:List Nd) (ah:Nat) (SF:List Sym) (jR:ah+(CU l).length<=64):∀(n:Nat) (t:RT),(flat t).length<=n->EZ t=true->Me H L l ah SF t
 | 0,t,hn,_=>by have:=FO t;omega
 | n+1,.mk x ks,hn,ht=>by
  by_cases hx:x.k=2\/x.k=3
  ·have:=PD ht hx;subst this;exact Vd H L l ah SF x hx jR
  ·refine Vc H L l ah SF x ks ht hx jR fun u hu=> ?_
   refine OJ H L l ah SF jR n u ?_ (Oj (Cx ht).2.2 u hu);have h1:=WG hu;rw[AR,List.length_cons]at hn;omega
end Go.Proofs.Wy
end
section
namespace Go.Proofs.Wy
open Go Go.Dm Tryz
variable [DMode]
attribute [local irreducible] DW Bm Bq
set_option maxRecDepth 100000
def XW : Ann:=⟨[],[]⟩
theorem Uv (x y:Sym):Ae prog 114 [.agg (Bf x),.agg (Bf y)] (.int .i64 (Mm x y)):=by
 refine Ac [] XW func114 call114 ntmps114 mxd (Ar @XW.eq_1 results114) rfl (fun qJ B qX qQ=> ?_);simp only[Ak];cases h1:x.label<;>cases h2:y.label<;>exact Aw (AJ (IY x.n y.n)) Ab (Ik @Bf.eq_1 h1 h2 @Mm.eq_1)
def lV : Ann:=⟨[],[]⟩
theorem TK (x y:Arc):Ae prog 63 [.agg (Cs x),.agg (Cs y)] (.int .i64 (Gd x y)):=by
 refine Ac [] lV func63 call63 ntmps63 mxd (Ar @lV.eq_1 results63) rfl (fun qJ B qX qQ=> ?_);simp only[Ak];have h1:=IY x.fr y.fr;have h2:=Uv x.sy y.sy;have h3:=IY x.to y.to;have h4:=xQ (GB x.fr y.fr) (Mm x.sy y.sy) (GB x.to y.to);simp only[Bf]at h2;unfold Gd;exact Aw (Ik h1 h2 h3 h4) Ab (AJ @Cs.eq_1)
end Go.Proofs.Wy
end
section
namespace Go.Dm
variable [DMode]
open Go.Shelf Go.Sort Go.Proofs Go.RowKit
abbrev FG_ := { s:ByteArray//s.size<=maxLen }
instance : Inhabited FG_:=⟨⟨⟨#[]⟩,by decide⟩⟩
end Go.Dm
end
section
namespace Go.Proofs.Wy
open Go Go.Dm Go.Shelf Tryz
variable [DMode]
attribute [local irreducible] DW Bm Bq
set_option maxRecDepth 100000
abbrev YC (x y:Arc):Bool:=Gd x y==0
theorem AX_ {x y:Arc} (h:YC x y=false):¬x=y:=fun e=>by
 have:=(Gx.eq0 x y).2 e;simp[YC,this]at h
theorem AY_ {x y:Arc} (h:YC x y=true):x=y:=(Gx.eq0 x y).1 (by simpa[YC]using h)
theorem BC_ {x y:Arc} (h:¬x=y):(x.fr==y.fr&&(x.sy.label==y.sy.label&&(x.sy.n==y.sy.n&&x.to==y.to)))=false:=by
 cases hb:(x.fr==y.fr&&(x.sy.label==y.sy.label&&(x.sy.n==y.sy.n&&x.to==y.to)))with
 | false=>rfl
 | true =>
  exfalso
  apply h
  obtain⟨a,⟨b,c⟩,d⟩:=x;obtain⟨a',⟨b',c'⟩,d'⟩:=y;simp at hb;obtain⟨rfl,rfl,rfl,rfl⟩:=hb;rfl
def lW : Ann:=⟨[],[]⟩
theorem Rv (l:List Arc) :
  Bh prog (.func 65) [.osl 0 0] [⟨0,0,.row 39 4 32 (l.map Cs)⟩] (FS (CA YC l)) []:=by
 refine Mg [0] [] func65 rfl call65 (by simp[ntmps65]) (by simp) (by simp) ?_;intro qJ hwo B qX;have qQ:=FE_ lW mxd (Ar @lW.eq_1 results65);simp only[Ak]
 have hl:l.length<=9223372036854775807:=by
  simp only[UX,maxLen,aO0]at hwo;omega
 clear hwo
 by_cases zH:l.length<2
 ·have jA:CA YC l=l:=by
   match l,zH with
   | [],_=>rfl
   | [x],_=>rfl
  exact Aw Ab Ab (Ar zH jA)
 have hl2':¬(l.length:Int)<2:=by omega
 obtain⟨R0,hR0⟩:∃R0,R0=CA YC l:=⟨_,rfl⟩;rw[<-hR0]
 (refine AX Ab Ab (Ar zH hl2') ?_;intros;refine Am ?_)
 refine Al (X:={k:Nat//1<=k/\k<=l.length/\CA YC (l.take k)=l.take k}) (fun k=>⟨[(0,.osl 0 0),(3,.int .i64 k.1)],[⟨0,0,.row 39 4 32 (l.map Cs)⟩]⟩) (fun k=>l.length-k.1) ⟨1,by
  obtain⟨x,t,rfl⟩:∃x t,l=x::t:=by
   cases l with
   | nil=>simp at zH
   | cons x t=>exact⟨x,t,rfl⟩
  simp[CA,Ct]⟩ (Sub.lit (by simp)) ?_
 rintro⟨k,kM,hk,hck⟩
 by_cases qV:k<l.length
 ·obtain⟨q,hq,zE,hqm⟩:=Ax qV;obtain⟨p,hp,zS,gO⟩:=Ax (show k-1<l.length by omega);have gI:IntKind.i64.wrap ((k:Int)-1)=(k:Int)-1:=wq;have zU:((k:Int)-1).toNat=k-1:=by omega
  have hs:=Qt (e:=YC) (by omega) hp hq;have qR:(0:Int)<=(k:Int)-1:=by omega
  have wM:(k:Int)-1<l.length:=by omega
  cases mC:YC q p
  ·rw[mC]at hs;simp only[bH0,if_false]at hs;have vA:(q.fr==p.fr&&(q.sy.label==p.sy.label&&(q.sy.n==p.sy.n&&q.to==p.to)))=false:=BC_ (AX_ mC)
   (refine AX Ab Ab (Yn @Cs.eq_1 qV zE zS hp hq zU gI qR wM vA) ?_;intros;refine Am ?_)
   refine An.mk ⟨k+1,by omega,by omega,by rw[hs,hck,bP0,hq];rfl⟩ (Sub.lit (by simp)) (by simp;omega)
   skip
  ·rw[mC]at hs;simp only[if_true,bX0]at hs;have vA:(q.fr==p.fr&&(q.sy.label==p.sy.label&&(q.sy.n==p.sy.n&&q.to==p.to)))=true:=by rw[AY_ mC];simp
   (refine AX Ab Ab (Yn @Cs.eq_1 qV zE zS hp hq zU gI qR wM vA) ?_;intros;refine Am ?_)
   clear gI zU qR wM
   refine Al (X:={x:Nat×Nat×List Arc//1<=x.1/\k+x.1<=l.length/\x.2.1<k+x.1/\k<=x.2.1/\x.2.2.length=l.length/\x.2.2.take x.2.1=CA YC (l.take (k+x.1))/\∀j,k+x.1<=j+1->x.2.2[j]? =l[j]?}) (fun x=>⟨[(0,.osl 0 0),(3,.int .i64 x.1.2.1),(4,.vw 0 0 4 32 k (l.length-k)),(5,.int .i64 x.1.1)],[⟨0,0,.row 39 4 32 (x.1.2.2.map Cs)⟩]⟩) (fun x=>l.length-x.1.1)
    ⟨(1,k,l),show 1<=1/\k+1<=l.length/\k<k+1/\k<=k/\l.length=l.length/\l.take k=CA YC (l.take (k+1))/\(∀j,k+1<=j+1->l[j]? =l[j]?) from ⟨by omega,by omega,by omega,by omega,rfl,by rw[hs,hck],fun _ _=>rfl⟩⟩ (Sub.lit (by simp)) ?_
   rintro⟨⟨m,kk,R⟩,x1,x2,x3,x4,x5,x6,x7⟩;simp only at x1 x2 x3 x4 x5 x6 x7 |-;have hv:k+(l.length-k)<=l.length:=by omega
   by_cases hm:m<l.length-k
   ·obtain⟨y,hy,zM,dK⟩:=Ax (show k+m<l.length by omega);obtain⟨z,hz,hz',hzm⟩:=Ax (show k+m-1<l.length by omega);obtain⟨c0,yN,_,_⟩:=Ax (show kk<R.length by omega);have hRy:R[k+m]? =some y:=by rw[x7 _ (by omega)];exact hy
    have hRz:R[k+(m-1)]? =some z:=by rw[x7 _ (by omega),show k+(m-1)=k+m-1 by omega];exact hz
    have hRy':R[k+m]'(by omega)=y:=(aG0.1 hRy).2;have hRz':R[k+(m-1)]'(by omega)=z:=(aG0.1 hRz).2;have gI:IntKind.i64.wrap ((m:Int)-1)=(m:Int)-1:=wq;have zU:((m:Int)-1).toNat=m-1:=by omega
    have qR:(0:Int)<=(m:Int)-1:=by omega
    have wM:(m:Int)-1<((l.length-k:Nat):Int):=by omega
    have kZ:=Qt (e:=YC) (by omega) hz hy;rw[<-x6]at kZ;have qZ:kk<l.length:=by omega
    cases mD:YC y z
    ·rw[mD]at kZ;simp only[bH0,if_false]at kZ;have he3:(y.fr==z.fr&&(y.sy.label==z.sy.label&&(y.sy.n==z.sy.n&&y.to==z.to)))=false:=BC_ (AX_ mD)
     (refine AX Ab Ab (FF_ @Cs.eq_1 hm hRy hRz hRy' hRz' zU gI qR wM x5 hv yN qZ he3) ?_;intros;refine Am ?_)
     refine An.mk ⟨(m+1,kk+1,R.set kk y),show 1<=m+1/\k+(m+1)<=l.length/\kk+1<k+(m+1)/\k<=kk+1/\(R.set kk y).length=l.length/\(R.set kk y).take (kk+1)=CA YC (l.take (k+(m+1)))/\(∀j,k+(m+1)<=j+1->(R.set kk y)[j]? =l[j]?) from ⟨by omega,by omega,by omega,by omega,by simp[x5],?_,fun j hj=> ?_⟩⟩ (Sub.lit ?_) (by simp;omega)
     ·rw[show k+(m+1)=k+m+1 by omega,kZ,bP0,eR0 (by omega),List.take_set_of_le (by omega)];rfl
     ·rw[List.getElem?_set_ne (by omega)];exact x7 j (by omega)
     ·have fU:Bo ((R.map Cs).set kk [.int .i64 y.fr,.bool y.sy.label,.int .i64 y.sy.n,.int .i64 y.to])=0:=by
       rw[show (R.map Cs).set kk [.int .i64 y.fr,.bool y.sy.label,.int .i64 y.sy.n,.int .i64 y.to]=(R.set kk y).map Cs by simp[eJ0,Cs]];exact Ai_ _
      simp[eJ0,Cs,fU]
     skip
    ·rw[mD]at kZ;simp only[if_true,bX0]at kZ;have he3:(y.fr==z.fr&&(y.sy.label==z.sy.label&&(y.sy.n==z.sy.n&&y.to==z.to)))=true:=by rw[AY_ mD];simp
     (refine AX Ab Ab (FF_ @Cs.eq_1 hm hRy hRz hRy' hRz' zU gI qR wM x5 hv yN qZ he3) ?_;intros;refine Am ?_)
     refine An.mk ⟨(m+1,kk,R),show 1<=m+1/\k+(m+1)<=l.length/\kk<k+(m+1)/\k<=kk/\R.length=l.length/\R.take kk=CA YC (l.take (k+(m+1)))/\(∀j,k+(m+1)<=j+1->R[j]? =l[j]?) from ⟨by omega,by omega,by omega,by omega,x5,by rw[show k+(m+1)=k+m+1 by omega,kZ],fun j hj=>x7 j (by omega)⟩⟩ (Sub.lit (by simp)) (by simp;omega)
     skip
   ·have hkm:k+m=l.length:=by omega
    have hcl1:(DO (R.map Cs) kk (l.length-kk) [.int .i64 0,.bool false,.int .i64 0,.int .i64 0]).length=l.length:=by simp[DO];omega
    have hcl2:(DO (R.map Cs) kk (l.length-kk) [.int .i64 0,.bool false,.int .i64 0,.int .i64 0]).take kk=R0.map Cs:=by
     have e1:l.take (k+m)=l:=by rw[hkm,bC0]
     rw[e1]at x6;rw[hR0,<-x6];simp only[DO];rw[aT0,eB0 (by simp;omega),List.take_take,Nat.min_self,List.map_take]
    have wH:kk<=l.length:=by omega
    exact Aw Ab Ab (MY hm x5 hv hcl1 hcl2 wH)
 ·have qZ:k=l.length:=by omega
  subst qZ;rw[bC0]at hck;rw[hck]at hR0;exact Aw Ab Ab (AJ hR0)
theorem Vk (l:List Arc):Bh prog (.func 62) [.osl 0 0,.fn (.func 63) [] []] [⟨0,0,.row 39 4 32 (l.map Cs)⟩] (.tup []) [⟨0,0,.row 39 4 32 ((KV Gd l).map Cs)⟩]:=by
 obtain⟨un,hun⟩:∃un:List DVal->Arc,∀e,un (Cs e)=e:=⟨fun d=>match d with | [.int _ a,.bool b,.int _ c,.int _ e]=>⟨a,⟨b,c⟩,e⟩ | _=>⟨0,⟨false,0⟩,0⟩,fun e=>rfl⟩
 have qY:∀x∈l.map Cs,∃p∈l,x=Cs p:=fun x hx=>by
  obtain⟨p,hp,rfl⟩:=aR0.1 hx;exact⟨p,hp,rfl⟩
 refine pG (cf:=fun x y=>Gd (un x) (un y)) Tryz.sortFArc (by rfl) call62 (by kernel_rfl) (by kernel_rfl) (by decide) rfl ?_ call63 ?_ ?_ ?_ ?_ ?_
 ·intro x hx;obtain⟨p,_,rfl⟩:=qY x hx;simp
 ·intro x hx y hy;obtain⟨p,_,rfl⟩:=qY x hx;obtain⟨q,_,rfl⟩:=qY y hy;simp only[hun];exact @TK KP p q
 ·intro x _;rw[Gx.refl];omega
 ·intro x _ y _ z _;exact Gx.trans _ _ _
 ·intro x _ y _ z _;exact Gx.ntrans _ _ _
 ·intro L hp hs;exact oO Gx hun hp hs
end Go.Proofs.Wy
end
section
namespace Go.Proofs.Wy
open Go Go.Dm Tryz
variable [DMode]
inductive Rch (E:List (Nat×Nat)):Nat->Nat->Prop where
 | refl (p:Nat):Rch E p p
 | step {p q r:Nat}:(p,q)∈E->Rch E q r->Rch E p r
theorem Rch.one {E:List (Nat×Nat)} {p q:Nat} (h:(p,q)∈E):Rch E p q:= .step h (.refl q)
theorem Rch.trans {E:List (Nat×Nat)} {p q r:Nat} (h:Rch E p q) (h':Rch E q r):Rch E p r:=by
 induction h with
 | refl _=>exact h'
 | step a _ ih=>exact .step a (ih h')
theorem Rch.mono {E E':List (Nat×Nat)} (h:∀x∈E,x∈E') {p q:Nat} (hr:Rch E p q):Rch E' p q:=by
 induction hr with
 | refl _=>exact .refl _
 | step a _ ih=>exact .step (h _ a) ih
theorem Rch.map {E E':List (Nat×Nat)} (f:Nat->Nat) (h:∀x∈E,(f x.1,f x.2)∈E') {p q:Nat} (hr:Rch E p q):Rch E' (f p) (f q):=by
 induction hr with
 | refl _=>exact .refl _
 | step a _ ih=>exact .step (h _ a) ih
end Go.Proofs.Wy
end
