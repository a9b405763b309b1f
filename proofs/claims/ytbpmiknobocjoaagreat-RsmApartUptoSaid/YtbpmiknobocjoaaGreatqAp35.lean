/- Parts of a proof, laid together: BO4, BO6, BO8, BX1, EnSu, BO9, BY0. -/
import Derived.Test.YtbpmiknobocjoaaGreatqAp17
import Derived.Test.YtbpmiknobocjoaaGreatqAp24
import Derived.Test.YtbpmiknobocjoaaGreatqAp26
import Derived.Test.YtbpmiknobocjoaaGreatqAp33
import Derived.Test.YtbpmiknobocjoaaGreatqAp34
set_option linter.unusedSimpArgs false
set_option maxHeartbeats 8000000
set_option linter.unusedVariables false
set_option linter.unusedSectionVars false
section
namespace Go.Proofs.Wy
open Go Go.Dm Go.Shelf Tryz
variable [DMode]
attribute [local irreducible] DW BN BS
set_option maxRecDepth 100000
def Ck : Ann:=⟨[13,22,25],[⟨2,[],[],[0,1,2,3,4,5,6,7,9,10,12]⟩]⟩
theorem Xm (S SF:List Sym) (A:List Arc) (e e':Bool) (f f' l l':List Nat) (hp:S <+: SF) (hf:∀q∈f',1<=q/\q<=S.length) (hS:S.length<9223372036854775807) (hb:(A.length+l.length*f'.length)*32<=150000000000000)
  (h1:(f.length+f'.length)*8<=140737488355328) (h2:(l'.length+l.length)*8<=140737488355328) :
  Bj prog (.func 78) [.bx 0 0 0,Nj e f l,Nj e' f' l'] (BC 0 0 S A) (Nj (e&&e') (f++if e=true then f' else []) (l'++if e'=true then l else [])) (BC 0 1 S (A++Dd SF (Cn l f'))):=by
 refine BL [22,25,6,7] [(0,0,0),(1,1,0),(2,2,1)] Ck func78 call78 ntmps78 mxd (AB @Ck.eq_1 results78) rfl (fun qJ B qX qQ=> ?_) (hv:=(by simp[BC]));clear qJ;simp only[Aq];have e1:=Kj S SF A l f' hp hf hS hb;have e2:=Nl f (by omega);have e3:=Nl l' (by omega);have b1:(f.length+f'.length)*8<=150000000000000:=by omega
 have b2:(l'.length+l.length)*8<=150000000000000:=by omega
 obtain⟨Z,hZ⟩:∃Z,Z=A++Dd SF (Cn l f'):=⟨_,rfl⟩;rw[<-hZ]at e1 |-;cases e
 ·cases e'
  ·(repeat (first | (refine xS (id:=2) (Ck).ow [] [0,1,2,3,4,5,6,7,9,10] 7 100 [.bool false,.nilsl,.nilsl] mxd rfl rfl (by kernel_rfl) (by kernel_rfl) (by simp[qX]) (by simp) (by simp) (by rfl) ?_;simp only[List.pop_toArray,eW0,eV0,List.dropLast_nil];simp[BO,Ck,qX,BC,b1,b2,BO];try simp (disch:=omega) only[Ag]) | refine AC fun K hK=> ?_ | (refine BA Ck mxd (by kernel_rfl) ?_;simp[Ck,qX,BC,b1,b2,BO];try simp (disch:=omega) only[Ag]) | refine Ao ?_ | (refine AX ?_ ?_ ?_;(· (simp[qX,BC,b1,b2,BO];done));(try (rotate_left;(· (intro hc;(try simp[qX,BC,b1,b2,BO]at hc);done))))) | (refine AE ?_;simp[results78,qX,BC,b1,b2,BO]) | ((first | refine Aw ?_ | refine Av ?_);simp[qX,BC,b1,b2,BO]) | (intro hc;(try simp[qX,BC,b1,b2,BO]at hc);(try (exfalso;omega))) | (refine AO [(0,0),(1,1),(2,2)] [] (e1) ?_ ?_;(· (simp[qX,BC,b1,b2,BO];done));(intro _;try simp[qX,BC,b1,b2,BO])) | (refine AO [] [(22,0)] (e2) ?_ ?_;(· (simp[qX,BC,b1,b2,BO];done));(intro _;try simp[qX,BC,b1,b2,BO])) | (refine AO [] [(25,0)] (e3) ?_ ?_;(· (simp[qX,BC,b1,b2,BO];done));(intro _;try simp[qX,BC,b1,b2,BO])) | (refine⟨?_,?_⟩; · omega) | omega | apply_assumption -exfalso -symm | (exfalso;omega)))
  ·(repeat (first | (refine xS (id:=2) (Ck).ow [] [0,1,2,3,4,5,6,7,9,10] 7 100 [.bool false,.nilsl,.nilsl] mxd rfl rfl (by kernel_rfl) (by kernel_rfl) (by simp[qX]) (by simp) (by simp) (by rfl) ?_;simp only[List.pop_toArray,eW0,eV0,List.dropLast_nil];simp[BO,Ck,qX,BC,b1,b2,BO];try simp (disch:=omega) only[Ag]) | refine AC fun K hK=> ?_ | (refine BA Ck mxd (by kernel_rfl) ?_;simp[Ck,qX,BC,b1,b2,BO];try simp (disch:=omega) only[Ag]) | refine Ao ?_ | (refine AX ?_ ?_ ?_;(· (simp[qX,BC,b1,b2,BO];done));(try (rotate_left;(· (intro hc;(try simp[qX,BC,b1,b2,BO]at hc);done))))) | (refine AE ?_;simp[results78,qX,BC,b1,b2,BO]) | ((first | refine Aw ?_ | refine Av ?_);simp[qX,BC,b1,b2,BO]) | (intro hc;(try simp[qX,BC,b1,b2,BO]at hc);(try (exfalso;omega))) | (refine AO [(0,0),(1,1),(2,2)] [] (e1) ?_ ?_;(· (simp[qX,BC,b1,b2,BO];done));(intro _;try simp[qX,BC,b1,b2,BO])) | (refine AO [] [(22,0)] (e2) ?_ ?_;(· (simp[qX,BC,b1,b2,BO];done));(intro _;try simp[qX,BC,b1,b2,BO])) | (refine AO [] [(25,0)] (e3) ?_ ?_;(· (simp[qX,BC,b1,b2,BO];done));(intro _;try simp[qX,BC,b1,b2,BO])) | (refine⟨?_,?_⟩; · omega) | omega | apply_assumption -exfalso -symm | (exfalso;omega)))
 ·cases e'
  ·(repeat (first | (refine xS (id:=2) (Ck).ow [] [0,1,2,3,4,5,6,7,9,10] 7 100 [.bool false,.nilsl,.nilsl] mxd rfl rfl (by kernel_rfl) (by kernel_rfl) (by simp[qX]) (by simp) (by simp) (by rfl) ?_;simp only[List.pop_toArray,eW0,eV0,List.dropLast_nil];simp[BO,Ck,qX,BC,b1,b2,BO];try simp (disch:=omega) only[Ag]) | refine AC fun K hK=> ?_ | (refine BA Ck mxd (by kernel_rfl) ?_;simp[Ck,qX,BC,b1,b2,BO];try simp (disch:=omega) only[Ag]) | refine Ao ?_ | (refine AX ?_ ?_ ?_;(· (simp[qX,BC,b1,b2,BO];done));(try (rotate_left;(· (intro hc;(try simp[qX,BC,b1,b2,BO]at hc);done))))) | (refine AE ?_;simp[results78,qX,BC,b1,b2,BO]) | ((first | refine Aw ?_ | refine Av ?_);simp[qX,BC,b1,b2,BO]) | (intro hc;(try simp[qX,BC,b1,b2,BO]at hc);(try (exfalso;omega))) | (refine AO [(0,0),(1,1),(2,2)] [] (e1) ?_ ?_;(· (simp[qX,BC,b1,b2,BO];done));(intro _;try simp[qX,BC,b1,b2,BO])) | (refine AO [] [(22,0)] (e2) ?_ ?_;(· (simp[qX,BC,b1,b2,BO];done));(intro _;try simp[qX,BC,b1,b2,BO])) | (refine AO [] [(25,0)] (e3) ?_ ?_;(· (simp[qX,BC,b1,b2,BO];done));(intro _;try simp[qX,BC,b1,b2,BO])) | (refine⟨?_,?_⟩; · omega) | omega | apply_assumption -exfalso -symm | (exfalso;omega)))
  ·(repeat (first | (refine xS (id:=2) (Ck).ow [] [0,1,2,3,4,5,6,7,9,10] 7 100 [.bool false,.nilsl,.nilsl] mxd rfl rfl (by kernel_rfl) (by kernel_rfl) (by simp[qX]) (by simp) (by simp) (by rfl) ?_;simp only[List.pop_toArray,eW0,eV0,List.dropLast_nil];simp[BO,Ck,qX,BC,b1,b2,BO];try simp (disch:=omega) only[Ag]) | refine AC fun K hK=> ?_ | (refine BA Ck mxd (by kernel_rfl) ?_;simp[Ck,qX,BC,b1,b2,BO];try simp (disch:=omega) only[Ag]) | refine Ao ?_ | (refine AX ?_ ?_ ?_;(· (simp[qX,BC,b1,b2,BO];done));(try (rotate_left;(· (intro hc;(try simp[qX,BC,b1,b2,BO]at hc);done))))) | (refine AE ?_;simp[results78,qX,BC,b1,b2,BO]) | ((first | refine Aw ?_ | refine Av ?_);simp[qX,BC,b1,b2,BO]) | (intro hc;(try simp[qX,BC,b1,b2,BO]at hc);(try (exfalso;omega))) | (refine AO [(0,0),(1,1),(2,2)] [] (e1) ?_ ?_;(· (simp[qX,BC,b1,b2,BO];done));(intro _;try simp[qX,BC,b1,b2,BO])) | (refine AO [] [(22,0)] (e2) ?_ ?_;(· (simp[qX,BC,b1,b2,BO];done));(intro _;try simp[qX,BC,b1,b2,BO])) | (refine AO [] [(25,0)] (e3) ?_ ?_;(· (simp[qX,BC,b1,b2,BO];done));(intro _;try simp[qX,BC,b1,b2,BO])) | (refine⟨?_,?_⟩; · omega) | omega | apply_assumption -exfalso -symm | (exfalso;omega)))
end Go.Proofs.Wy
end
section
namespace Go.Proofs.Wy
open Go Go.Dm Tryz
variable [DMode]
def HU (H L:List ByteArray) (S:List Sym) (t:RT):List Sym:=S++(Cq (Ad t)).map (Ew H L)
def Fu (H L:List ByteArray) (S:List Sym) (us:List RT):List Sym:=S++(Cq (An us)).map (Ew H L)
def Iq (l:List Nd) (ah:Nat) (t:RT) (a:Nat):List Nat:=(SL t a).map (Fi l ah)
def Lr (l:List Nd) (ah:Nat) (t:RT) (a:Nat):List Nat:=(NO t a).map (Fi l ah)
def FI (SF:List Sym) (l:List Nd) (ah:Nat) (A:List Arc) (t:RT) (a:Nat):List Arc:=A++Dd SF ((Zq t a).map (VB l ah))
def Ir (l:List Nd) (ah:Nat) (k:Int) (us:List RT) (a:Nat):List Nat:=(Wf k us a).map (Fi l ah)
def Ha (l:List Nd) (ah:Nat) (k:Int) (us:List RT) (a:Nat):List Nat:=(Ps k us a).map (Fi l ah)
def EN (SF:List Sym) (l:List Nd) (ah:Nat) (A:List Arc) (k:Int) (us:List RT) (a:Nat):List Arc:=A++Dd SF ((Zu k us a []).map (VB l ah))
theorem Ae_ (H L:List ByteArray) (S:List Sym):Fu H L S []=S:=by unfold Fu;rw[Ce];simp[Cq]
theorem DT_ (l:List Nd) (ah:Nat) (k:Int) (a:Nat):Ir l ah k [] a=[]:=by unfold Ir;rw[KW];rfl
theorem DD_ (l:List Nd) (ah:Nat) (k:Int) (a:Nat):Ha l ah k [] a=[]:=by unfold Ha;rw[Hm];rfl
theorem BM_ (SF:List Sym) (l:List Nd) (ah:Nat) (A:List Arc) (k:Int) (a:Nat):EN SF l ah A k [] a=A:=by unfold EN;rw[Ji];simp[Dd]
theorem aX (H L:List ByteArray) (S:List Sym) (us:List RT) (u:RT):Fu H L S (us++[u])=HU H L (Fu H L S us) u:=by
 unfold Fu HU;rw[Fk,Bm_,FY,bD0,aS0]
theorem Af_ (H L:List ByteArray) (S:List Sym) {x:Nd} (ks:List RT) (h:¬(x.k=2\/x.k=3)):HU H L S (.mk x ks)=Fu H L S ks:=by
 unfold Fu HU;rw[AQ,Kd h]
theorem Bo_ (l:List Nd) (ah:Nat) (us:List RT) (u:RT) (a:Nat):Ir l ah 4 (us++[u]) a=Ir l ah 4 us a++(if pE 4 us=true then Iq l ah u (a+(An us).length)else []):=by
 unfold Ir Iq;rw[RO,bD0]
 congr 1
 unfold pE;cases h:FN us<;>simp
theorem Bp_ (l:List Nd) (ah:Nat) {k:Int} (hk:¬k=4) (us:List RT) (u:RT) (a:Nat):Ir l ah k (us++[u]) a=Ir l ah k us a++Iq l ah u (a+(An us).length):=by
 unfold Ir Iq;rw[RO,bD0,if_neg (fun h=>hk h.1)]
theorem Ba_ (l:List Nd) (ah:Nat) (us:List RT) (u:RT) (a:Nat):Ha l ah 4 (us++[u]) a=Lr l ah u (a+(An us).length)++(if BZ u=true then Ha l ah 4 us a else []):=by
 unfold Ha Lr;rw[Rq,if_pos rfl,bD0];cases h:BZ u<;>simp
theorem Bb_ (l:List Nd) (ah:Nat) {k:Int} (hk:¬k=4) (us:List RT) (u:RT) (a:Nat):Ha l ah k (us++[u]) a=Ha l ah k us a++Lr l ah u (a+(An us).length):=by
 unfold Ha Lr;rw[Rq,if_neg hk,bD0]
theorem oE (SF:List Sym) (l:List Nd) (ah:Nat) (A:List Arc) (us:List RT) (u:RT) (a:Nat):EN SF l ah A 4 (us++[u]) a=FI SF l ah (EN SF l ah A 4 us a) u (a+(An us).length)++Dd SF (Cn (Ha l ah 4 us a) (Iq l ah u (a+(An us).length))):=by
 unfold EN FI Ha Iq;rw[UH,Ue,bD0,bD0,Gp,Gp];simp[aS0]
theorem oF (SF:List Sym) (l:List Nd) (ah:Nat) (A:List Arc) {k:Int} (hk:¬k=4) (us:List RT) (u:RT) (a:Nat):EN SF l ah A k (us++[u]) a=FI SF l ah (EN SF l ah A k us a) u (a+(An us).length):=by
 unfold EN FI;rw[Zr k hk,bD0,Gp,aS0]
theorem DU_ (l:List Nd) (ah:Nat) {x:Nd} (ks:List RT) (a:Nat) (h:¬(x.k=2\/x.k=3)):Iq l ah (.mk x ks) a=Ir l ah x.k ks (a+1):=by
 unfold Iq Ir;rw[OA,if_neg h]
theorem DE_ (l:List Nd) (ah:Nat) {x:Nd} (ks:List RT) (a:Nat) (h:¬(x.k=2\/x.k=3)):Lr l ah (.mk x ks) a=Ha l ah x.k ks (a+1):=by
 unfold Lr Ha;rw[Ma,if_neg h]
theorem Sz (SF:List Sym) (l:List Nd) (ah:Nat) (A:List Arc) {x:Nd} (ks:List RT) (a:Nat) (h:¬(x.k=2\/x.k=3)) (h6:x.k=6\/x.k=7):FI SF l ah A (.mk x ks) a=EN SF l ah A x.k ks (a+1)++Dd SF (Cn (Ha l ah x.k ks (a+1)) (Ir l ah x.k ks (a+1))):=by
 unfold FI EN Ha Ir;rw[Mj,if_neg h,if_pos h6,Ue,bD0,Gp,aS0]
theorem oD (SF:List Sym) (l:List Nd) (ah:Nat) (A:List Arc) {x:Nd} (ks:List RT) (a:Nat) (h:¬(x.k=2\/x.k=3)) (h6:¬(x.k=6\/x.k=7)):FI SF l ah A (.mk x ks) a=EN SF l ah A x.k ks (a+1):=by
 unfold FI EN;rw[Mj,if_neg h,if_neg h6,bR0]
theorem DR_ (l:List Nd) (ah:Nat) (t:RT) (a:Nat):(Iq l ah t a).length<=(Cq (Ad t)).length:=by unfold Iq;rw[aJ0];exact Qf t a
theorem DC_ (l:List Nd) (ah:Nat) (t:RT) (a:Nat):(Lr l ah t a).length<=(Cq (Ad t)).length:=by unfold Lr;rw[aJ0];exact PZ t a
theorem YJ (l:List Nd) (ah:Nat) (k:Int) (us:List RT) (a:Nat):(Ir l ah k us a).length<=(Cq (An us)).length:=by unfold Ir;rw[aJ0];exact Qg k us a
theorem Yr (l:List Nd) (ah:Nat) (k:Int) (us:List RT) (a:Nat):(Ha l ah k us a).length<=(Cq (An us)).length:=by unfold Ha;rw[aJ0];exact Qa k us a
theorem UE (SF:List Sym) (l:List Nd) (ah:Nat) (A:List Arc) (k:Int) (us:List RT) (a:Nat) (h:(Cq (An us)).length<=64):(EN SF l ah A k us a).length<=A.length+8192*(An us).length:=by
 unfold EN;rw[aD0,KZ,aJ0];have:=WB k us a [] (by simpa using h);omega
theorem BH_ (SF:List Sym) (l:List Nd) (ah:Nat) (A:List Arc) (t:RT) (a:Nat) (h:(Cq (Ad t)).length<=64):(FI SF l ah A t a).length+4096<=A.length+8192*(Ad t).length:=by
 unfold FI;rw[aD0,KZ,aJ0];have:=Wz t a h;omega
theorem Ad_ (H L:List ByteArray) (S:List Sym) (t:RT):(HU H L S t).length=S.length+(Cq (Ad t)).length:=by simp[HU]
theorem Tx (H L:List ByteArray) (S:List Sym) (us:List RT):(Fu H L S us).length=S.length+(Cq (An us)).length:=by simp[Fu]
theorem DQ_ {l r:List Nd} {t:RT} {a ah:Nat} (h:l.drop a=Ad t++r):∀q∈Iq l ah t a,1<=q/\q<=ah+IR l (a+(Ad t).length):=Ea_ h
theorem DS_ {l r:List Nd} {k:Int} {us:List RT} {a ah:Nat} (h:l.drop a=An us++r):∀q∈Ir l ah k us a,1<=q/\q<=ah+IR l (a+(An us).length):=FS_ h
end Go.Proofs.Wy
end
section
namespace Go.Proofs.Wy
open Go Go.Dm Go.Shelf Tryz
variable [DMode]
attribute [local irreducible] DW BN BS
set_option maxRecDepth 100000
abbrev ofF (H L:List ByteArray):DVal:= .fn (.func 48) [] [.ref [CB H L]]
def NH (H L:List ByteArray) (l:List Nd) (ah:Nat) (SF:List Sym) (t:RT):Prop :=
 ∀(a:Nat) (r:List Nd) (S:List Sym) (A:List Arc),l.drop a=Ad t++r->S.length=ah+IR l a->HU H L S t <+: SF->(A.length+8192*(Ad t).length)*32<=150000000000000 ->
  Bj prog (.func 47) [.bx 0 0 0,AM (Ad t++r),ofF H L] (BC 0 0 S A) (.tup [Nj (BZ t) (Iq l ah t a) (Lr l ah t a),AM r]) (BC 1 1 (HU H L S t) (FI SF l ah A t a))
def uU : Ann:=⟨[66,75,90],[⟨1,[8],[],[]⟩,⟨5,[],[0],[]⟩]⟩
theorem Xb (H L:List ByteArray) (l:List Nd) (ah:Nat) (SF:List Sym) (x:Nd) (hx:x.k=2\/x.k=3) (kA:ah+(Cq l).length<=64):NH H L l ah SF (.mk x []):=by
 intro a r S A hdr hS cO hA;have vI:Ad (.mk x [])=[x]:=by rw[AQ,Ce]
 have hlx:Cq (Ad (.mk x []))=[x]:=by rw[vI,Rj hx];rfl
 have h1:HU H L S (.mk x [])=S++[Ew H L x]:=by unfold HU;rw[hlx];rfl
 have h2:Iq l ah (.mk x []) a=[Fi l ah a]:=by unfold Iq;rw[OA,if_pos hx];rfl
 have h3:Lr l ah (.mk x []) a=[Fi l ah a]:=by unfold Lr;rw[Ma,if_pos hx];rfl
 have h4:FI SF l ah A (.mk x []) a=A:=by unfold FI;rw[Mj,if_pos hx];simp[Dd]
 have h5:BZ (.mk x [])=false:=by rw[Wj,if_pos hx]
 have h6:Fi l ah a=S.length+1:=by unfold Fi;omega
 have hs:=sB hdr;rw[hlx]at hs
 have hr1:IR l a<=(Cq l).length:=by
  rw[<-Hi]
  by_cases h:a<=l.length
  ·exact QH l h
  ·unfold IR;rw[cK0 (by omega),aU0];exact Nat.le_refl _
 rw[h1,h2,h3,h4,h5,h6,vI];have e1:=AK_ H L x;clear cO h1 h2 h3 h4 h5 h6 hdr vI hlx;refine BL [6,10] [(0,0,0),(1,1,1),(2,2,1)] uU func47 call47 ntmps47 mxd (AB @uU.eq_1 results47) rfl (fun qJ B qX qQ=> ?_) (hv:=(by simp[BC]));clear qJ;have hS1:S.length<=64:=by omega
 have hS2:(S.length+1)*16<=150000000000000:=by omega
 simp only[Aq,List.cons_append,List.nil_append];have hT:List.take r.length (List.map Bo r)=List.map Bo r:=cK0 (by simp)
 rcases hx with hx | hx
 ·simp only[Bo,hx]at e1;exact Az (AH e1) Ab (IH @BC.eq_1 @Bo.eq_1 @Ch.eq_1 hx hS2 @Bd.eq_1 hT)
 ·simp only[Bo,hx]at e1;exact Az (AH e1) Ab (IH @BC.eq_1 @Bo.eq_1 @Ch.eq_1 hx hS2 @Bd.eq_1 hT)
theorem GE_ (l:List Nd) (p:Nat):IR l p<=(Cq l).length:=by
 rw[<-Hi]
 by_cases h:p<=l.length
 ·exact QH l h
 ·unfold IR;rw[cK0 (by omega),aU0];exact Nat.le_refl _
theorem YI : ∀us:List RT,us.length<=(An us).length
 | []=>by simp
 | u::us=>by
  have h1:=GK u;have h2:=YI us;rw[Ax,aD0,List.length_cons];omega
theorem YG : ∀{us:List RT} {u:RT},u∈us->(Ad u).length<=(An us).length
 | v::us,u,h=>by
  rw[Ax,aD0]
  rcases aK0.1 h with rfl | h
  ·omega
  ·have:=YG h;omega
def UJ : Ann:=⟨[66,75,90],[⟨1,[8],[],[]⟩,⟨5,[],[0],[]⟩]⟩
theorem Xa (H L:List ByteArray) (l:List Nd) (ah:Nat) (SF:List Sym) (x:Nd) (ks:List RT) (ht:ED (.mk x ks)=true) (hx:¬(x.k=2\/x.k=3)) (kA:ah+(Cq l).length<=64) (ih:∀u∈ks,NH H L l ah SF u):NH H L l ah SF (.mk x ks):=by
 intro a r S A hdr hS cO hA;have hn:=(Cg ht).2.1;have pT:=GK_ ht hx
 have dI:l.drop (a+1)=An ks++r:=by
  have:=Ut (m:=[x]) (r:=An ks++r) (by rw[hdr,AQ];rfl);simpa using this
 have hrk1:IR l (a+1)=IR l a:=by
  have:=Gv (m:=[x]) (r:=An ks++r) (by rw[hdr,AQ];rfl);rw[Kd hx]at this;simpa[Cq]using this
 rw[Af_ H L S ks hx]at cO |-;rw[DU_ l ah ks a hx,DE_ l ah ks a hx,pT];rw[AQ,List.length_cons]at hA;have gK:=sB dI;have jS:=GE_ l;obtain⟨AF,hAF⟩:∃AF,AF=FI SF l ah A (.mk x ks) a:=⟨_,rfl⟩;rw[<-hAF,AQ];clear pT hdr ht;refine BL [6,10] [(0,0,0),(1,1,1),(2,2,1)] UJ func47 call47 ntmps47 mxd (AB @UJ.eq_1 results47) rfl (fun qJ B qX qQ=> ?_) (hv:=(by simp[BC]));clear qJ;have k2:¬x.k=2:=fun h=>hx (.inl h)
 have k3:¬x.k=3:=fun h=>hx (.inr h)
 have hT:List.take (An ks++r).length (List.map Bo (An ks++r))=List.map Bo (An ks++r):=cK0 (by simp);obtain⟨R1,hR1⟩:∃R1,R1=An ks++r:=⟨_,rfl⟩;simp only[Aq,List.cons_append];rw[<-hR1]at hT |-;have b2:(x.k==2)=false:=by simpa using k2
 have b3:(x.k==3)=false:=by simpa using k3
 (refine AL Ab Ab (IH @BC.eq_1 @Bo.eq_1 k2 k3 b2 b3 hT) ?_;intros;refine Am ?_)
 have wM:(decide (x.k=1)||x.k==4)=pE x.k []:=by rw[GJ_];rfl
 rw[wM];refine Ql 10 1 1 8 rfl rfl ?_;refine Ql 10 2 1 8 rfl rfl ?_;have hj0:(0:Int)=(([]:List RT).length:Int):=rfl
 refine Ai (X:={p:List RT×List RT//ks=p.1++p.2}) (fun p=>⟨[(0,.bx 0 0 0),(2,ofF H L),(6,.bx 6 1 0),(7,.nilsl),(8,.ref (Bo x)),(9,AM (An p.1.2++r)),(10,.bx 10 1 0),(59,.int .i64 x.n),(60,.int .i64 p.1.1.length)],
  BC 1 1 (Fu H L S p.1.1) (EN SF l ah A x.k p.1.1 (a+1))++[⟨6,1,.box [.bool false,.nilsl,.nilsl]⟩,⟨10,1,.box [.bool (pE x.k p.1.1),CI (Ir l ah x.k p.1.1 (a+1)),CI (Ha l ah x.k p.1.1 (a+1))]⟩]⟩) (fun p=>p.1.2.length) ⟨([],ks),rfl⟩ (Sub.lit (by simp[BC,Ae_,BM_,DT_,DD_,Bo,hR1])) ?_
 rintro⟨⟨us,vs⟩,zE⟩;simp only at zE |-
 cases vs with
 | cons u vs =>
  have qY:u∈ks:=by rw[zE];simp
  have qV:(us.length:Int)<x.n:=by rw[hn,zE];simp;omega
  have hks1:An ks=An us++(Ad u++An vs):=by rw[zE,Fk,Ax]
  have hdrA:l.drop (a+1)=An us++(Ad u++(An vs++r)):=by rw[dI,hks1];simp
  have hdrU:=Ut hdrA;have hSU:(Fu H L S us).length=ah+IR l (a+1+(An us).length):=by rw[Tx,Gv hdrA,hS,hrk1];omega
  have wL:Fu H L S (us++[u]) <+: SF:=by
   refine List.IsPrefix.trans ?_ cO;rw[zE];unfold Fu;rw[show us++u::vs=(us++[u])++vs by simp,Fk (us++[u]),FY,bD0,<-aS0];exact List.prefix_append _ _
  have hSn:=aX H L S us u;rw[hSn]at wL
  have hlv1:(Cq (An us)).length+(Cq (Ad u)).length<=(Cq l).length:=by
   rw[hks1,FY,FY,aD0,aD0]at gK;omega
  have hAl:=UE SF l ah A x.k us (a+1) (by omega);have vI:(An ks).length=(An us).length+((Ad u).length+(An vs).length):=by rw[hks1,aD0,aD0]
  have e1:=ih u qY _ _ (Fu H L S us) (EN SF l ah A x.k us (a+1)) hdrU hSU wL (by omega);have hAl1:=BH_ SF l ah (EN SF l ah A x.k us (a+1)) u (a+1+(An us).length) (by omega);have hSl1:=Ad_ H L (Fu H L S us) u;have zR:=DQ_ (ah:=ah) hdrU;have hr5:=jS (a+1+(An us).length+(Ad u).length);rw[Gv hdrU]at zR hr5;have hF0:=YJ l ah x.k us (a+1);have hL0:=Yr l ah x.k us (a+1);have hF1:=DR_ l ah u (a+1+(An us).length)
  have cZ:=DC_ l ah u (a+1+(An us).length);have hEn:=Fj_ x.k us u;have hFn:=fun h=>Bp_ l ah (k:=x.k) h us u (a+1)
  have hLn:=fun h=>Bb_ l ah (k:=x.k) h us u (a+1)
  have hAn:=fun h=>oF SF l ah A (k:=x.k) h us u (a+1)
  have hFn4:=Bo_ l ah us u (a+1);have hLn4:=Ba_ l ah us u (a+1);have hAn4:=oE SF l ah A us u (a+1);have hdl:An (u::vs)++r=Ad u++(An vs++r):=by rw[Ax,aS0]
  rw[hdl];obtain⟨R0,hR0⟩:∃R0,R0=Ad u++(An vs++r):=⟨_,rfl⟩;rw[<-hR0]at e1 |-;obtain⟨R2,wY⟩:∃R2,R2=An vs++r:=⟨_,rfl⟩;rw[<-wY]at e1;have hjm:=Qb (l:=Ha l ah x.k us (a+1)) (f:=Iq l ah u (a+1+(An us).length)) (by omega) (by omega);have fI:=YI us;have gD:IntKind.i64.wrap ((us.length:Int)+1)=(us.length:Int)+1:=wq
  by_cases k4:x.k=4
  ·have e2:=Xm (HU H L (Fu H L S us) u) SF (FI SF l ah (EN SF l ah A x.k us (a+1)) u (a+1+(An us).length)) (pE x.k us) (BZ u) (Ir l ah x.k us (a+1)) (Iq l ah u (a+1+(An us).length)) (Ha l ah x.k us (a+1)) (Lr l ah u (a+1+(An us).length)) wL (fun q hq=>by have:=zR q hq;omega) (by omega) (by omega) (by omega) (by omega);rw[k4]at e1 e2 hEn;rw[if_pos rfl]at hEn;rw[<-hFn4,<-hLn4,<-hAn4,<-hEn]at e2;rw[<-hSn]at e1 e2
   simp only[k4]
   (refine AL Ab (AB (JA [(0,0),(1,1),(2,2)] [] e1) (JA [(0,0),(1,1),(2,2)] [] e2)) (IF @BC.eq_1 @Bo.eq_1 k4 qV) ?_;intros;refine Am ?_)
   refine Al.mk ⟨(us++[u],vs),by simp[zE]⟩ (Sub.lit (by simp[BC,wY,gD])) (by simp)
   skip
  ·have e2:=oJ (pE x.k us) (BZ u) (Ir l ah x.k us (a+1)) (Iq l ah u (a+1+(An us).length)) (Ha l ah x.k us (a+1)) (Lr l ah u (a+1+(An us).length)) (by omega) (by omega);rw[if_neg k4]at hEn;rw[<-hFn k4,<-hLn k4,<-hEn]at e2;rw[<-hAn k4,<-hSn]at e1;have b4:(x.k==4)=false:=by simpa using k4
   (refine AL (AH e2) (AH (JA [(0,0),(1,1),(2,2)] [] e1)) (Lj @BC.eq_1 @Bo.eq_1 k4 b4 qV) ?_;intros;refine Am ?_)
   refine Al.mk ⟨(us++[u],vs),by simp[zE]⟩ (Sub.lit (by simp[BC,wY,gD])) (by simp)
   skip
 | nil =>
  rw[bR0]at zE;subst zE;have wA:¬((ks.length:Int)<x.n):=by rw[hn];omega
  have hSl:=Tx H L S ks;have hr5:=jS (a+1+(An ks).length);rw[Gv dI]at hr5;have hF0:=YJ l ah x.k ks (a+1);have hL0:=Yr l ah x.k ks (a+1);have hAl:=UE SF l ah A x.k ks (a+1) (by omega);have zR:=DS_ (ah:=ah) (k:=x.k) dI;rw[Gv dI]at zR;have hjm:=Qb (l:=Ha l ah x.k ks (a+1)) (f:=Ir l ah x.k ks (a+1)) (by omega) (by omega);have e3:=Kj (Fu H L S ks) SF (EN SF l ah A x.k ks (a+1)) (Ha l ah x.k ks (a+1)) (Ir l ah x.k ks (a+1)) cO (fun q hq=>by have:=zR q hq;omega) (by omega) (by omega)
  have hdl:An []++r=r:=by rw[Ce];rfl
  rw[hdl];have hbe:∀n:Int,(x.k==n)=decide (x.k=n):=fun n=>rfl
  by_cases h6:x.k=6
  ·rw[Sz SF l ah A ks a hx (.inl h6)]at hAF;rw[<-hAF]at e3;rw[h6]at e3;simp only[h6];exact Az Ab (AH (JA [(0,0),(1,1),(2,2)] [] e3)) (IF @BC.eq_1 @Bo.eq_1 h6 wA)
  ·by_cases h7:x.k=7
   ·rw[Sz SF l ah A ks a hx (.inr h7)]at hAF;rw[<-hAF]at e3;rw[h7]at e3;simp only[h7];exact Az Ab (AH (JA [(0,0),(1,1),(2,2)] [] e3)) (IF @BC.eq_1 @Bo.eq_1 h7 wA)
   ·rw[oD SF l ah A ks a hx (by omega)]at hAF;have b6:(x.k==6)=false:=by simpa using h6
    have b7:(x.k==7)=false:=by simpa using h7
    exact Az Ab Ab (WJ @BC.eq_1 @Bo.eq_1 h6 h7 b6 b7 wA hbe hAF)
theorem Qq (H L:List ByteArray) (l:List Nd) (ah:Nat) (SF:List Sym) (kA:ah+(Cq l).length<=64):∀(n:Nat) (t:RT),(Ad t).length<=n->ED t=true->NH H L l ah SF t
 | 0,t,hn,_=>by have:=GK t;omega
 | n+1,.mk x ks,hn,ht=>by
  by_cases hx:x.k=2\/x.k=3
  ·have:=Kf ht hx;subst this;exact Xb H L l ah SF x hx kA
  ·refine Xa H L l ah SF x ks ht hx kA fun u hu=> ?_
   refine Qq H L l ah SF kA n u ?_ (PQ (Cg ht).2.2 u hu);have h1:=YG hu;rw[AQ,List.length_cons]at hn;omega
end Go.Proofs.Wy
end
section
namespace Go.Proofs.Wy
open Go Go.Dm Tryz
variable [DMode]
attribute [local irreducible] DW BN BS
set_option maxRecDepth 100000
def uR : Ann:=⟨[],[]⟩
theorem Wr (x y:Sym):Af prog 84 [.agg (Ch x),.agg (Ch y)] (.int .i64 (NQ x y)):=by
 refine Ae [] uR func84 call84 ntmps84 mxd (AB @uR.eq_1 results84) rfl (fun qJ B qX qQ=> ?_);simp only[Aq];cases h1:x.label<;>cases h2:y.label<;>exact Az (AH (Kx x.n y.n)) Ab (IF @Ch.eq_1 h1 h2 @NQ.eq_1)
def uS : Ann:=⟨[],[]⟩
theorem Vt (x y:Arc):Af prog 52 [.agg (AN x),.agg (AN y)] (.int .i64 (CW x y)):=by
 refine Ae [] uS func52 call52 ntmps52 mxd (AB @uS.eq_1 results52) rfl (fun qJ B qX qQ=> ?_);simp only[Aq];have h1:=Kx x.fr y.fr;have h2:=Wr x.sy y.sy;have h3:=Kx x.to y.to;have h4:=CQ_ (HL x.fr y.fr) (NQ x.sy y.sy) (HL x.to y.to);simp only[Ch]at h2;unfold CW;exact Az (IF h1 h2 h3 h4) Ab (AH @AN.eq_1)
def ZK : Ann:=⟨[],[]⟩
theorem Qt (x y:Sym):Af prog 172 [.agg (Ch x),.agg (Ch y)] (.bool (Mv x y)):=by
 refine Ae [] ZK func172 call172 ntmps172 mxd (AB @ZK.eq_1 results172) rfl (fun qJ B qX qQ=> ?_);simp only[Aq];cases h1:x.label<;>cases h2:y.label<;>exact Az Ab Ab (IF @Ch.eq_1 h1 h2 @Mv.eq_1)
def ZL : Ann:=⟨[],[]⟩
theorem Yp (x y:Arc):Af prog 148 [.agg (AN x),.agg (AN y)] (.bool (La x y)):=by
 refine Ae [] ZL func148 call148 ntmps148 mxd (AB @ZL.eq_1 results148) rfl (fun qJ B qX qQ=> ?_);simp only[Aq];have h2:=Qt x.sy y.sy;simp only[Ch]at h2;unfold La
 by_cases h1:x.fr=y.fr
 ·have mF:(x.fr != y.fr)=false:=by simpa using h1
  by_cases h3:x.sy=y.sy
  ·have e1:x.sy.label=y.sy.label:=by rw[h3]
   have e2:x.sy.n=y.sy.n:=by rw[h3]
   exact Az (AH h2) Ab (Jm @AN.eq_1 h1 mF h3 e1 e2)
  ·have e:(x.sy.label==y.sy.label&&x.sy.n==y.sy.n)=false:=by
    rw[eD0];intro hh;simp only[aL0,beq_iff_eq]at hh
    apply h3
    cases hx:x.sy;cases hy:y.sy;rw[hx,hy]at hh;simp only at hh;rw[hh.1,hh.2]
   exact Az (AH h2) Ab (Lj @AN.eq_1 h1 mF h3 e)
 ·have mF:(x.fr != y.fr)=true:=by simpa using h1
  exact Az (AH h2) Ab (CL @AN.eq_1 h1 mF)
end Go.Proofs.Wy
end
section
namespace Go.Dm
variable [DMode]
open Go.Shelf Go.Sort Go.Proofs Go.RowKit
abbrev Is_ := { s:ByteArray//s.size<=maxLen }
instance : Inhabited Is_:=⟨⟨⟨#[]⟩,by decide⟩⟩
end Go.Dm
end
section
namespace Go.Proofs.Wy
open Go Go.Dm Go.Shelf Tryz
variable [DMode]
attribute [local irreducible] DW BN BS
set_option maxRecDepth 100000
abbrev aP (x y:Arc):Bool:=CW x y==0
theorem Ee_ {x y:Arc} (h:aP x y=false):¬x=y:=fun e=>by
 have:=(Di.eq0 x y).2 e;simp[aP,this]at h
theorem Ef_ {x y:Arc} (h:aP x y=true):x=y:=(Di.eq0 x y).1 (by simpa[aP]using h)
theorem oG {x y:Arc} (h:¬x=y):(x.fr==y.fr&&(x.sy.label==y.sy.label&&(x.sy.n==y.sy.n&&x.to==y.to)))=false:=by
 cases hb:(x.fr==y.fr&&(x.sy.label==y.sy.label&&(x.sy.n==y.sy.n&&x.to==y.to)))with
 | false=>rfl
 | true =>
  exfalso
  apply h
  obtain⟨a,⟨b,c⟩,d⟩:=x;obtain⟨a',⟨b',c'⟩,d'⟩:=y;simp at hb;obtain⟨rfl,rfl,rfl,rfl⟩:=hb;rfl
def uT : Ann:=⟨[],[]⟩
theorem Tl (l:List Arc) :
  Bj prog (.func 54) [.osl 0 0] [⟨0,0,.row 42 4 32 (l.map AN)⟩] (BR (Cy aP l)) []:=by
 refine NL [0] [] func54 rfl call54 (by simp[ntmps54]) (by simp) (by simp) ?_;intro qJ hwo B qX;have qQ:=EJ_ uT mxd (AB @uT.eq_1 results54);simp only[Aq]
 have hl:l.length<=9223372036854775807:=by
  simp only[WY,maxLen,aJ0]at hwo;omega
 clear hwo
 by_cases vR:l.length<2
 ·have nD:Cy aP l=l:=by
   match l,vR with
   | [],_=>rfl
   | [x],_=>rfl
  exact Az Ab Ab (AB vR nD)
 have hl2':¬(l.length:Int)<2:=by omega
 obtain⟨R0,hR0⟩:∃R0,R0=Cy aP l:=⟨_,rfl⟩;rw[<-hR0]
 (refine AL Ab Ab (AB vR hl2') ?_;intros;refine Am ?_)
 refine Ai (X:={k:Nat//1<=k/\k<=l.length/\Cy aP (l.take k)=l.take k}) (fun k=>⟨[(0,.osl 0 0),(3,.int .i64 k.1)],[⟨0,0,.row 42 4 32 (l.map AN)⟩]⟩) (fun k=>l.length-k.1) ⟨1,by
  obtain⟨x,t,rfl⟩:∃x t,l=x::t:=by
   cases l with
   | nil=>simp at vR
   | cons x t=>exact⟨x,t,rfl⟩
  simp[Cy,CC]⟩ (Sub.lit (by simp)) ?_
 rintro⟨k,jE,hk,hck⟩
 by_cases qV:k<l.length
 ·obtain⟨q,hq,wB,mN⟩:=Ap qV;obtain⟨p,hp,zM,jW⟩:=Ap (show k-1<l.length by omega);have gD:IntKind.i64.wrap ((k:Int)-1)=(k:Int)-1:=wq;have zD:((k:Int)-1).toNat=k-1:=by omega
  have hs:=Sg (e:=aP) (by omega) hp hq;have qC:(0:Int)<=(k:Int)-1:=by omega
  have wX:(k:Int)-1<l.length:=by omega
  cases nM:aP q p
  ·rw[nM]at hs;simp only[aQ0,if_false]at hs;have vS:(q.fr==p.fr&&(q.sy.label==p.sy.label&&(q.sy.n==p.sy.n&&q.to==p.to)))=false:=oG (Ee_ nM)
   (refine AL Ab Ab (JE @AN.eq_1 qV wB zM hp hq zD gD qC wX vS) ?_;intros;refine Am ?_)
   refine Al.mk ⟨k+1,by omega,by omega,by rw[hs,hck,bM0,hq];rfl⟩ (Sub.lit (by simp)) (by simp;omega)
   skip
  ·rw[nM]at hs;simp only[if_true,bR0]at hs;have vS:(q.fr==p.fr&&(q.sy.label==p.sy.label&&(q.sy.n==p.sy.n&&q.to==p.to)))=true:=by rw[Ef_ nM];simp
   (refine AL Ab Ab (JE @AN.eq_1 qV wB zM hp hq zD gD qC wX vS) ?_;intros;refine Am ?_)
   clear gD zD qC wX
   refine Ai (X:={x:Nat×Nat×List Arc//1<=x.1/\k+x.1<=l.length/\x.2.1<k+x.1/\k<=x.2.1/\x.2.2.length=l.length/\x.2.2.take x.2.1=Cy aP (l.take (k+x.1))/\∀j,k+x.1<=j+1->x.2.2[j]? =l[j]?}) (fun x=>⟨[(0,.osl 0 0),(3,.int .i64 x.1.2.1),(4,.vw 0 0 4 32 k (l.length-k)),(5,.int .i64 x.1.1)],[⟨0,0,.row 42 4 32 (x.1.2.2.map AN)⟩]⟩) (fun x=>l.length-x.1.1)
    ⟨(1,k,l),show 1<=1/\k+1<=l.length/\k<k+1/\k<=k/\l.length=l.length/\l.take k=Cy aP (l.take (k+1))/\(∀j,k+1<=j+1->l[j]? =l[j]?) from ⟨by omega,by omega,by omega,by omega,rfl,by rw[hs,hck],fun _ _=>rfl⟩⟩ (Sub.lit (by simp)) ?_
   rintro⟨⟨m,kk,R⟩,x1,x2,x3,x4,x5,x6,x7⟩;simp only at x1 x2 x3 x4 x5 x6 x7 |-;have hv:k+(l.length-k)<=l.length:=by omega
   by_cases hm:m<l.length-k
   ·obtain⟨y,hy,yX,mH⟩:=Ap (show k+m<l.length by omega);obtain⟨z,hz,hz',hzm⟩:=Ap (show k+m-1<l.length by omega);obtain⟨c0,yA,_,_⟩:=Ap (show kk<R.length by omega);have hRy:R[k+m]? =some y:=by rw[x7 _ (by omega)];exact hy
    have hRz:R[k+(m-1)]? =some z:=by rw[x7 _ (by omega),show k+(m-1)=k+m-1 by omega];exact hz
    have hRy':R[k+m]'(by omega)=y:=(aB0.1 hRy).2;have hRz':R[k+(m-1)]'(by omega)=z:=(aB0.1 hRz).2;have gD:IntKind.i64.wrap ((m:Int)-1)=(m:Int)-1:=wq;have zD:((m:Int)-1).toNat=m-1:=by omega
    have qC:(0:Int)<=(m:Int)-1:=by omega
    have wX:(m:Int)-1<((l.length-k:Nat):Int):=by omega
    have zK:=Sg (e:=aP) (by omega) hz hy;rw[<-x6]at zK;have qZ:kk<l.length:=by omega
    cases nA:aP y z
    ·rw[nA]at zK;simp only[aQ0,if_false]at zK;have he3:(y.fr==z.fr&&(y.sy.label==z.sy.label&&(y.sy.n==z.sy.n&&y.to==z.to)))=false:=oG (Ee_ nA)
     (refine AL Ab Ab (Ir_ @AN.eq_1 hm hRy hRz hRy' hRz' zD gD qC wX x5 hv yA qZ he3) ?_;intros;refine Am ?_)
     refine Al.mk ⟨(m+1,kk+1,R.set kk y),show 1<=m+1/\k+(m+1)<=l.length/\kk+1<k+(m+1)/\k<=kk+1/\(R.set kk y).length=l.length/\(R.set kk y).take (kk+1)=Cy aP (l.take (k+(m+1)))/\(∀j,k+(m+1)<=j+1->(R.set kk y)[j]? =l[j]?) from ⟨by omega,by omega,by omega,by omega,by simp[x5],?_,fun j hj=> ?_⟩⟩ (Sub.lit ?_) (by simp;omega)
     ·rw[show k+(m+1)=k+m+1 by omega,zK,bM0,List.getElem?_set_self (by omega),List.take_set_of_le (by omega)];rfl
     ·rw[List.getElem?_set_ne (by omega)];exact x7 j (by omega)
     ·have gA:Br ((R.map AN).set kk [.int .i64 y.fr,.bool y.sy.label,.int .i64 y.sy.n,.int .i64 y.to])=0:=by
       rw[show (R.map AN).set kk [.int .i64 y.fr,.bool y.sy.label,.int .i64 y.sy.n,.int .i64 y.to]=(R.set kk y).map AN by simp[List.map_set,AN]];exact Dh_ _
      simp[List.map_set,AN,gA]
     skip
    ·rw[nA]at zK;simp only[if_true,bR0]at zK;have he3:(y.fr==z.fr&&(y.sy.label==z.sy.label&&(y.sy.n==z.sy.n&&y.to==z.to)))=true:=by rw[Ef_ nA];simp
     (refine AL Ab Ab (Ir_ @AN.eq_1 hm hRy hRz hRy' hRz' zD gD qC wX x5 hv yA qZ he3) ?_;intros;refine Am ?_)
     refine Al.mk ⟨(m+1,kk,R),show 1<=m+1/\k+(m+1)<=l.length/\kk<k+(m+1)/\k<=kk/\R.length=l.length/\R.take kk=Cy aP (l.take (k+(m+1)))/\(∀j,k+(m+1)<=j+1->R[j]? =l[j]?) from ⟨by omega,by omega,by omega,by omega,x5,by rw[show k+(m+1)=k+m+1 by omega,zK],fun j hj=>x7 j (by omega)⟩⟩ (Sub.lit (by simp)) (by simp;omega)
     skip
   ·have hkm:k+m=l.length:=by omega
    have hcl1:(Eo (R.map AN) kk (l.length-kk) [.int .i64 0,.bool false,.int .i64 0,.int .i64 0]).length=l.length:=by simp[Eo];omega
    have hcl2:(Eo (R.map AN) kk (l.length-kk) [.int .i64 0,.bool false,.int .i64 0,.int .i64 0]).take kk=R0.map AN:=by
     have e1:l.take (k+m)=l:=by rw[hkm,aU0]
     rw[e1]at x6;rw[hR0,<-x6];simp only[Eo];rw[aS0,List.take_append_of_le_length (by simp;omega),List.take_take,Nat.min_self,eU0]
    have yJ:kk<=l.length:=by omega
    exact Az Ab Ab (Jm hm x5 hv hcl1 hcl2 yJ)
 ·have qZ:k=l.length:=by omega
  subst qZ;rw[aU0]at hck;rw[hck]at hR0;exact Az Ab Ab (AH hR0)
theorem Xj (l:List Arc):Bj prog (.func 51) [.osl 0 0,.fn (.func 52) [] []] [⟨0,0,.row 42 4 32 (l.map AN)⟩] (.tup []) [⟨0,0,.row 42 4 32 ((JL CW l).map AN)⟩]:=by
 obtain⟨un,hun⟩:∃un:List DVal->Arc,∀e,un (AN e)=e:=⟨fun d=>match d with | [.int _ a,.bool b,.int _ c,.int _ e]=>⟨a,⟨b,c⟩,e⟩ | _=>⟨0,⟨false,0⟩,0⟩,fun e=>rfl⟩
 have qY:∀x∈l.map AN,∃p∈l,x=AN p:=fun x hx=>by
  obtain⟨p,hp,rfl⟩:=aT0.1 hx;exact⟨p,hp,rfl⟩
 refine An_ (cf:=fun x y=>CW (un x) (un y)) Tryz.sortFArc (by rfl) call51 (by kernel_rfl) (by kernel_rfl) (by decide) rfl ?_ call52 ?_ ?_ ?_ ?_ ?_
 ·intro x hx;obtain⟨p,_,rfl⟩:=qY x hx;simp
 ·intro x hx y hy;obtain⟨p,_,rfl⟩:=qY x hx;obtain⟨q,_,rfl⟩:=qY y hy;simp only[hun];exact @Vt Ms p q
 ·intro x _;rw[Di.refl];omega
 ·intro x _ y _ z _;exact Di.trans _ _ _
 ·intro x _ y _ z _;exact Di.ntrans _ _ _
 ·intro L hp hs;exact xY Di hun hp hs
end Go.Proofs.Wy
end
section
namespace Go.Proofs.Wy
open Go Go.Dm Tryz
variable [DMode]
inductive Rch (E:List (Nat×Nat)):Nat->Nat->Prop where
 | refl (p:Nat):Rch E p p
 | step {p q r:Nat}:(p,q)∈E->Rch E q r->Rch E p r
theorem Rch.one {E:List (Nat×Nat)} {p q:Nat} (h:(p,q)∈E):Rch E p q:= .step h (.refl q)
theorem Rch.trans {E:List (Nat×Nat)} {p q r:Nat} (h:Rch E p q) (h':Rch E q r):Rch E p r:=by
 induction h with
 | refl _=>exact h'
 | step a _ ih=>exact .step a (ih h')
theorem Rch.mono {E E':List (Nat×Nat)} (h:∀x∈E,x∈E') {p q:Nat} (hr:Rch E p q):Rch E' p q:=by
 induction hr with
 | refl _=>exact .refl _
 | step a _ ih=>exact .step (h _ a) ih
theorem Rch.map {E E':List (Nat×Nat)} (f:Nat->Nat) (h:∀x∈E,(f x.1,f x.2)∈E') {p q:Nat} (hr:Rch E p q):Rch E' (f p) (f q):=by
 induction hr with
 | refl _=>exact .refl _
 | step a _ ih=>exact .step (h _ a) ih
end Go.Proofs.Wy
end
