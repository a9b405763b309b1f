/- Parts of a proof, laid together: BO4, BO6, BO8, BX1, EnSu, BO9, BY0. -/
import Derived.Test.YtiojapdolljocaaGreatqMx15
import Derived.Test.YtiojapdolljocaaGreatqMx16
import Derived.Test.YtiojapdolljocaaGreatqMx21
import Derived.Test.YtiojapdolljocaaGreatqMx30
import Derived.Test.YtiojapdolljocaaGreatqMx31
set_option linter.unusedSimpArgs false
set_option maxHeartbeats 8000000
set_option linter.unusedVariables false
set_option linter.unusedSectionVars false
section
namespace Go.Proofs.Wy
open Go Go.Dm Go.Shelf Tryz
variable [DMode]
attribute [local irreducible] DW Bs Bt
set_option maxRecDepth 100000
def BN : Ann:=⟨[13,22,25],[⟨2,[],[],[0,1,2,3,4,5,6,7,9,10,12]⟩]⟩
theorem WN (S SF:List Sym) (A:List Arc) (e e':Bool) (f f' l l':List Nat) (hp:S <+: SF) (hf:∀q∈f',1<=q/\q<=S.length) (hS:S.length<9223372036854775807) (hb:(A.length+l.length*f'.length)*32<=150000000000000)
  (h1:(f.length+f'.length)*8<=140737488355328) (h2:(l'.length+l.length)*8<=140737488355328) :
  Bn prog (.func 108) [.bx 0 0 0,MM e f l,MM e' f' l'] (Bw 0 0 S A) (MM (e&&e') (f++if e=true then f' else []) (l'++if e'=true then l else [])) (Bw 0 1 S (A++Db SF (Cq l f'))):=by
 refine Cd [22,25,6,7] [(0,0,0),(1,1,0),(2,2,1)] BN func108 call108 ntmps108 mxd (Au @BN.eq_1 results108) rfl (fun qJ B qX qQ=> ?_) (hv:=(by simp[Bw]));clear qJ;simp only[Am];have e1:=JN S SF A l f' hp hf hS hb;have e2:=MO f (by omega);have e3:=MO l' (by omega);have b1:(f.length+f'.length)*8<=150000000000000:=by omega
 have b2:(l'.length+l.length)*8<=150000000000000:=by omega
 obtain⟨Z,hZ⟩:∃Z,Z=A++Db SF (Cq l f'):=⟨_,rfl⟩;rw[<-hZ]at e1 |-;cases e
 ·cases e'
  ·(repeat (first | (refine uS (id:=2) (BN).ow [] [0,1,2,3,4,5,6,7,9,10] 7 117 [.bool false,.nilsl,.nilsl] mxd rfl rfl (by kernel_rfl) (by kernel_rfl) (by simp[qX]) (by simp) (by simp) (by rfl) ?_;simp only[List.pop_toArray,fA0,eZ0,List.dropLast_nil];simp[BL,BN,qX,Bw,b1,b2,BL];try simp (disch:=omega) only[Al]) | refine AJ fun K hK=> ?_ | (refine BV BN mxd (by kernel_rfl) ?_;simp[BN,qX,Bw,b1,b2,BL];try simp (disch:=omega) only[Al]) | refine Aq ?_ | (refine Bi ?_ ?_ ?_;(· (simp[qX,Bw,b1,b2,BL];done));(try (rotate_left;(· (intro hc;(try simp[qX,Bw,b1,b2,BL]at hc);done))))) | (refine AN ?_;simp[results108,qX,Bw,b1,b2,BL]) | ((first | refine AB ?_ | refine AA ?_);simp[qX,Bw,b1,b2,BL]) | (intro hc;(try simp[qX,Bw,b1,b2,BL]at hc);(try (exfalso;omega))) | (refine AQ [(0,0),(1,1),(2,2)] [] (e1) ?_ ?_;(· (simp[qX,Bw,b1,b2,BL];done));(intro _;try simp[qX,Bw,b1,b2,BL])) | (refine AQ [] [(22,0)] (e2) ?_ ?_;(· (simp[qX,Bw,b1,b2,BL];done));(intro _;try simp[qX,Bw,b1,b2,BL])) | (refine AQ [] [(25,0)] (e3) ?_ ?_;(· (simp[qX,Bw,b1,b2,BL];done));(intro _;try simp[qX,Bw,b1,b2,BL])) | (refine⟨?_,?_⟩; · omega) | omega | apply_assumption -exfalso -symm | (exfalso;omega)))
  ·(repeat (first | (refine uS (id:=2) (BN).ow [] [0,1,2,3,4,5,6,7,9,10] 7 117 [.bool false,.nilsl,.nilsl] mxd rfl rfl (by kernel_rfl) (by kernel_rfl) (by simp[qX]) (by simp) (by simp) (by rfl) ?_;simp only[List.pop_toArray,fA0,eZ0,List.dropLast_nil];simp[BL,BN,qX,Bw,b1,b2,BL];try simp (disch:=omega) only[Al]) | refine AJ fun K hK=> ?_ | (refine BV BN mxd (by kernel_rfl) ?_;simp[BN,qX,Bw,b1,b2,BL];try simp (disch:=omega) only[Al]) | refine Aq ?_ | (refine Bi ?_ ?_ ?_;(· (simp[qX,Bw,b1,b2,BL];done));(try (rotate_left;(· (intro hc;(try simp[qX,Bw,b1,b2,BL]at hc);done))))) | (refine AN ?_;simp[results108,qX,Bw,b1,b2,BL]) | ((first | refine AB ?_ | refine AA ?_);simp[qX,Bw,b1,b2,BL]) | (intro hc;(try simp[qX,Bw,b1,b2,BL]at hc);(try (exfalso;omega))) | (refine AQ [(0,0),(1,1),(2,2)] [] (e1) ?_ ?_;(· (simp[qX,Bw,b1,b2,BL];done));(intro _;try simp[qX,Bw,b1,b2,BL])) | (refine AQ [] [(22,0)] (e2) ?_ ?_;(· (simp[qX,Bw,b1,b2,BL];done));(intro _;try simp[qX,Bw,b1,b2,BL])) | (refine AQ [] [(25,0)] (e3) ?_ ?_;(· (simp[qX,Bw,b1,b2,BL];done));(intro _;try simp[qX,Bw,b1,b2,BL])) | (refine⟨?_,?_⟩; · omega) | omega | apply_assumption -exfalso -symm | (exfalso;omega)))
 ·cases e'
  ·(repeat (first | (refine uS (id:=2) (BN).ow [] [0,1,2,3,4,5,6,7,9,10] 7 117 [.bool false,.nilsl,.nilsl] mxd rfl rfl (by kernel_rfl) (by kernel_rfl) (by simp[qX]) (by simp) (by simp) (by rfl) ?_;simp only[List.pop_toArray,fA0,eZ0,List.dropLast_nil];simp[BL,BN,qX,Bw,b1,b2,BL];try simp (disch:=omega) only[Al]) | refine AJ fun K hK=> ?_ | (refine BV BN mxd (by kernel_rfl) ?_;simp[BN,qX,Bw,b1,b2,BL];try simp (disch:=omega) only[Al]) | refine Aq ?_ | (refine Bi ?_ ?_ ?_;(· (simp[qX,Bw,b1,b2,BL];done));(try (rotate_left;(· (intro hc;(try simp[qX,Bw,b1,b2,BL]at hc);done))))) | (refine AN ?_;simp[results108,qX,Bw,b1,b2,BL]) | ((first | refine AB ?_ | refine AA ?_);simp[qX,Bw,b1,b2,BL]) | (intro hc;(try simp[qX,Bw,b1,b2,BL]at hc);(try (exfalso;omega))) | (refine AQ [(0,0),(1,1),(2,2)] [] (e1) ?_ ?_;(· (simp[qX,Bw,b1,b2,BL];done));(intro _;try simp[qX,Bw,b1,b2,BL])) | (refine AQ [] [(22,0)] (e2) ?_ ?_;(· (simp[qX,Bw,b1,b2,BL];done));(intro _;try simp[qX,Bw,b1,b2,BL])) | (refine AQ [] [(25,0)] (e3) ?_ ?_;(· (simp[qX,Bw,b1,b2,BL];done));(intro _;try simp[qX,Bw,b1,b2,BL])) | (refine⟨?_,?_⟩; · omega) | omega | apply_assumption -exfalso -symm | (exfalso;omega)))
  ·(repeat (first | (refine uS (id:=2) (BN).ow [] [0,1,2,3,4,5,6,7,9,10] 7 117 [.bool false,.nilsl,.nilsl] mxd rfl rfl (by kernel_rfl) (by kernel_rfl) (by simp[qX]) (by simp) (by simp) (by rfl) ?_;simp only[List.pop_toArray,fA0,eZ0,List.dropLast_nil];simp[BL,BN,qX,Bw,b1,b2,BL];try simp (disch:=omega) only[Al]) | refine AJ fun K hK=> ?_ | (refine BV BN mxd (by kernel_rfl) ?_;simp[BN,qX,Bw,b1,b2,BL];try simp (disch:=omega) only[Al]) | refine Aq ?_ | (refine Bi ?_ ?_ ?_;(· (simp[qX,Bw,b1,b2,BL];done));(try (rotate_left;(· (intro hc;(try simp[qX,Bw,b1,b2,BL]at hc);done))))) | (refine AN ?_;simp[results108,qX,Bw,b1,b2,BL]) | ((first | refine AB ?_ | refine AA ?_);simp[qX,Bw,b1,b2,BL]) | (intro hc;(try simp[qX,Bw,b1,b2,BL]at hc);(try (exfalso;omega))) | (refine AQ [(0,0),(1,1),(2,2)] [] (e1) ?_ ?_;(· (simp[qX,Bw,b1,b2,BL];done));(intro _;try simp[qX,Bw,b1,b2,BL])) | (refine AQ [] [(22,0)] (e2) ?_ ?_;(· (simp[qX,Bw,b1,b2,BL];done));(intro _;try simp[qX,Bw,b1,b2,BL])) | (refine AQ [] [(25,0)] (e3) ?_ ?_;(· (simp[qX,Bw,b1,b2,BL];done));(intro _;try simp[qX,Bw,b1,b2,BL])) | (refine⟨?_,?_⟩; · omega) | omega | apply_assumption -exfalso -symm | (exfalso;omega)))
end Go.Proofs.Wy
end
section
namespace Go.Proofs.Wy
open Go Go.Dm Tryz
variable [DMode]
def HK (H L:List ByteArray) (S:List Sym) (t:RT):List Sym:=S++(Cs (flat t)).map (Eo H L)
def Fi (H L:List ByteArray) (S:List Sym) (us:List RT):List Sym:=S++(Cs (Ak us)).map (Eo H L)
def Ie (l:List Nd) (ah:Nat) (t:RT) (a:Nat):List Nat:=(Ss t a).map (EZ l ah)
def KO (l:List Nd) (ah:Nat) (t:RT) (a:Nat):List Nat:=(Nu t a).map (EZ l ah)
def Fx (SF:List Sym) (l:List Nd) (ah:Nat) (A:List Arc) (t:RT) (a:Nat):List Arc:=A++Db SF ((YL t a).map (Vk l ah))
def Ig (l:List Nd) (ah:Nat) (k:Int) (us:List RT) (a:Nat):List Nat:=(VI k us a).map (EZ l ah)
def GP (l:List Nd) (ah:Nat) (k:Int) (us:List RT) (a:Nat):List Nat:=(OY k us a).map (EZ l ah)
def EF (SF:List Sym) (l:List Nd) (ah:Nat) (A:List Arc) (k:Int) (us:List RT) (a:Nat):List Arc:=A++Db SF ((YO k us a []).map (Vk l ah))
theorem xD (H L:List ByteArray) (S:List Sym):Fi H L S []=S:=by unfold Fi;rw[Ch];simp[Cs]
theorem Dz_ (l:List Nd) (ah:Nat) (k:Int) (a:Nat):Ig l ah k [] a=[]:=by unfold Ig;rw[Kx];rfl
theorem Dh_ (l:List Nd) (ah:Nat) (k:Int) (a:Nat):GP l ah k [] a=[]:=by unfold GP;rw[Hc];rfl
theorem Bu_ (SF:List Sym) (l:List Nd) (ah:Nat) (A:List Arc) (k:Int) (a:Nat):EF SF l ah A k [] a=A:=by unfold EF;rw[IS];simp[Db]
theorem aU (H L:List ByteArray) (S:List Sym) (us:List RT) (u:RT):Fi H L S (us++[u])=HK H L (Fi H L S us) u:=by
 unfold Fi HK;rw[Fc,AT_,FT,bD0,aV0]
theorem xE (H L:List ByteArray) (S:List Sym) {x:Nd} (ks:List RT) (h:¬(x.k=2\/x.k=3)):HK H L S (.mk x ks)=Fi H L S ks:=by
 unfold Fi HK;rw[AO,JI h]
theorem AV_ (l:List Nd) (ah:Nat) (us:List RT) (u:RT) (a:Nat):Ig l ah 4 (us++[u]) a=Ig l ah 4 us a++(if pE 4 us=true then Ie l ah u (a+(Ak us).length)else []):=by
 unfold Ig Ie;rw[Ru,bD0]
 congr 1
 unfold pE;cases h:FH us<;>simp
theorem AW_ (l:List Nd) (ah:Nat) {k:Int} (hk:¬k=4) (us:List RT) (u:RT) (a:Nat):Ig l ah k (us++[u]) a=Ig l ah k us a++Ie l ah u (a+(Ak us).length):=by
 unfold Ig Ie;rw[Ru,bD0,if_neg (fun h=>hk h.1)]
theorem AG_ (l:List Nd) (ah:Nat) (us:List RT) (u:RT) (a:Nat):GP l ah 4 (us++[u]) a=KO l ah u (a+(Ak us).length)++(if BU u=true then GP l ah 4 us a else []):=by
 unfold GP KO;rw[Ra,if_pos rfl,bD0];cases h:BU u<;>simp
theorem AH_ (l:List Nd) (ah:Nat) {k:Int} (hk:¬k=4) (us:List RT) (u:RT) (a:Nat):GP l ah k (us++[u]) a=GP l ah k us a++KO l ah u (a+(Ak us).length):=by
 unfold GP KO;rw[Ra,if_neg hk,bD0]
theorem lW (SF:List Sym) (l:List Nd) (ah:Nat) (A:List Arc) (us:List RT) (u:RT) (a:Nat):EF SF l ah A 4 (us++[u]) a=Fx SF l ah (EF SF l ah A 4 us a) u (a+(Ak us).length)++Db SF (Cq (GP l ah 4 us a) (Ie l ah u (a+(Ak us).length))):=by
 unfold EF Fx GP Ie;rw[Un,TL,bD0,bD0,Gf,Gf];simp[aV0]
theorem lX (SF:List Sym) (l:List Nd) (ah:Nat) (A:List Arc) {k:Int} (hk:¬k=4) (us:List RT) (u:RT) (a:Nat):EF SF l ah A k (us++[u]) a=Fx SF l ah (EF SF l ah A k us a) u (a+(Ak us).length):=by
 unfold EF Fx;rw[YM k hk,bD0,Gf,aV0]
theorem DA_ (l:List Nd) (ah:Nat) {x:Nd} (ks:List RT) (a:Nat) (h:¬(x.k=2\/x.k=3)):Ie l ah (.mk x ks) a=Ig l ah x.k ks (a+1):=by
 unfold Ie Ig;rw[NX,if_neg h]
theorem Di_ (l:List Nd) (ah:Nat) {x:Nd} (ks:List RT) (a:Nat) (h:¬(x.k=2\/x.k=3)):KO l ah (.mk x ks) a=GP l ah x.k ks (a+1):=by
 unfold KO GP;rw[Lv,if_neg h]
theorem Sk (SF:List Sym) (l:List Nd) (ah:Nat) (A:List Arc) {x:Nd} (ks:List RT) (a:Nat) (h:¬(x.k=2\/x.k=3)) (h6:x.k=6\/x.k=7):Fx SF l ah A (.mk x ks) a=EF SF l ah A x.k ks (a+1)++Db SF (Cq (GP l ah x.k ks (a+1)) (Ig l ah x.k ks (a+1))):=by
 unfold Fx EF GP Ig;rw[LK,if_neg h,if_pos h6,TL,bD0,Gf,aV0]
theorem lV (SF:List Sym) (l:List Nd) (ah:Nat) (A:List Arc) {x:Nd} (ks:List RT) (a:Nat) (h:¬(x.k=2\/x.k=3)) (h6:¬(x.k=6\/x.k=7)):Fx SF l ah A (.mk x ks) a=EF SF l ah A x.k ks (a+1):=by
 unfold Fx EF;rw[LK,if_neg h,if_neg h6,bO0]
theorem Dx_ (l:List Nd) (ah:Nat) (t:RT) (a:Nat):(Ie l ah t a).length<=(Cs (flat t)).length:=by unfold Ie;rw[aN0];exact PI t a
theorem Dg_ (l:List Nd) (ah:Nat) (t:RT) (a:Nat):(KO l ah t a).length<=(Cs (flat t)).length:=by unfold KO;rw[aN0];exact PA t a
theorem Yg (l:List Nd) (ah:Nat) (k:Int) (us:List RT) (a:Nat):(Ig l ah k us a).length<=(Cs (Ak us)).length:=by unfold Ig;rw[aN0];exact PJ k us a
theorem XL (l:List Nd) (ah:Nat) (k:Int) (us:List RT) (a:Nat):(GP l ah k us a).length<=(Cs (Ak us)).length:=by unfold GP;rw[aN0];exact PC k us a
theorem Uk (SF:List Sym) (l:List Nd) (ah:Nat) (A:List Arc) (k:Int) (us:List RT) (a:Nat) (h:(Cs (Ak us)).length<=64):(EF SF l ah A k us a).length<=A.length+8192*(Ak us).length:=by
 unfold EF;rw[aC0,KB,aN0];have:=Wa k us a [] (by simpa using h);omega
theorem Bp_ (SF:List Sym) (l:List Nd) (ah:Nat) (A:List Arc) (t:RT) (a:Nat) (h:(Cs (flat t)).length<=64):(Fx SF l ah A t a).length+4096<=A.length+8192*(flat t).length:=by
 unfold Fx;rw[aC0,KB,aN0];have:=VZ t a h;omega
theorem xC (H L:List ByteArray) (S:List Sym) (t:RT):(HK H L S t).length=S.length+(Cs (flat t)).length:=by simp[HK]
theorem Tf (H L:List ByteArray) (S:List Sym) (us:List RT):(Fi H L S us).length=S.length+(Cs (Ak us)).length:=by simp[Fi]
theorem Dw_ {l r:List Nd} {t:RT} {a ah:Nat} (h:l.drop a=flat t++r):∀q∈Ie l ah t a,1<=q/\q<=ah+IA l (a+(flat t).length):=DF_ h
theorem Dy_ {l r:List Nd} {k:Int} {us:List RT} {a ah:Nat} (h:l.drop a=Ak us++r):∀q∈Ig l ah k us a,1<=q/\q<=ah+IA l (a+(Ak us).length):=FC_ h
end Go.Proofs.Wy
end
section
namespace Go.Proofs.Wy
open Go Go.Dm Go.Shelf Tryz
variable [DMode]
attribute [local irreducible] DW Bs Bt
set_option maxRecDepth 100000
abbrev ofF (H L:List ByteArray):DVal:= .fn (.func 59) [] [.ref [GR H L]]
def Np (H L:List ByteArray) (l:List Nd) (ah:Nat) (SF:List Sym) (t:RT):Prop :=
 ∀(a:Nat) (r:List Nd) (S:List Sym) (A:List Arc),l.drop a=flat t++r->S.length=ah+IA l a->HK H L S t <+: SF->(A.length+8192*(flat t).length)*32<=150000000000000 ->
  Bn prog (.func 58) [.bx 0 0 0,AU (flat t++r),ofF H L] (Bw 0 0 S A) (.tup [MM (BU t) (Ie l ah t a) (KO l ah t a),AU r]) (Bw 1 1 (HK H L S t) (Fx SF l ah A t a))
def uA : Ann:=⟨[66,75,90],[⟨1,[8],[],[]⟩,⟨5,[],[0],[]⟩]⟩
theorem WE (H L:List ByteArray) (l:List Nd) (ah:Nat) (SF:List Sym) (x:Nd) (hx:x.k=2\/x.k=3) (kU:ah+(Cs l).length<=64):Np H L l ah SF (.mk x []):=by
 intro a r S A hdr hS cM hA;have vP:flat (.mk x [])=[x]:=by rw[AO,Ch]
 have hlx:Cs (flat (.mk x []))=[x]:=by rw[vP,QT hx];rfl
 have h1:HK H L S (.mk x [])=S++[Eo H L x]:=by unfold HK;rw[hlx];rfl
 have h2:Ie l ah (.mk x []) a=[EZ l ah a]:=by unfold Ie;rw[NX,if_pos hx];rfl
 have h3:KO l ah (.mk x []) a=[EZ l ah a]:=by unfold KO;rw[Lv,if_pos hx];rfl
 have h4:Fx SF l ah A (.mk x []) a=A:=by unfold Fx;rw[LK,if_pos hx];simp[Db]
 have h5:BU (.mk x [])=false:=by rw[VK,if_pos hx]
 have h6:EZ l ah a=S.length+1:=by unfold EZ;omega
 have hs:=rW hdr;rw[hlx]at hs
 have pM:IA l a<=(Cs l).length:=by
  rw[<-GZ]
  by_cases h:a<=l.length
  ·exact Qq l h
  ·unfold IA;rw[cD0 (by omega),aW0];exact Nat.le_refl _
 rw[h1,h2,h3,h4,h5,h6,vP];have e1:=Am_ H L x;clear cM h1 h2 h3 h4 h5 h6 hdr vP hlx;refine Cd [6,10] [(0,0,0),(1,1,1),(2,2,1)] uA func58 call58 ntmps58 mxd (Au @uA.eq_1 results58) rfl (fun qJ B qX qQ=> ?_) (hv:=(by simp[Bw]));clear qJ;have hS1:S.length<=64:=by omega
 have hS2:(S.length+1)*16<=150000000000000:=by omega
 simp only[Am,List.cons_append,List.nil_append];have hT:List.take r.length (List.map Bq r)=List.map Bq r:=cD0 (by simp)
 rcases hx with hx | hx
 ·simp only[Bq,hx]at e1;exact Av (AD e1) Ab (Iw @Bw.eq_1 @Bq.eq_1 @AM.eq_1 hx hS2 @Bb.eq_1 hT)
 ·simp only[Bq,hx]at e1;exact Av (AD e1) Ab (Iw @Bw.eq_1 @Bq.eq_1 @AM.eq_1 hx hS2 @Bb.eq_1 hT)
theorem Gp_ (l:List Nd) (p:Nat):IA l p<=(Cs l).length:=by
 rw[<-GZ]
 by_cases h:p<=l.length
 ·exact Qq l h
 ·unfold IA;rw[cD0 (by omega),aW0];exact Nat.le_refl _
theorem Yf : ∀us:List RT,us.length<=(Ak us).length
 | []=>by simp
 | u::us=>by
  have h1:=GB u;have h2:=Yf us;rw[Ap,aC0,List.length_cons];omega
theorem Yd : ∀{us:List RT} {u:RT},u∈us->(flat u).length<=(Ak us).length
 | v::us,u,h=>by
  rw[Ap,aC0]
  rcases aK0.1 h with rfl | h
  ·omega
  ·have:=Yd h;omega
def Ur : Ann:=⟨[66,75,90],[⟨1,[8],[],[]⟩,⟨5,[],[0],[]⟩]⟩
theorem WD (H L:List ByteArray) (l:List Nd) (ah:Nat) (SF:List Sym) (x:Nd) (ks:List RT) (ht:Ew (.mk x ks)=true) (hx:¬(x.k=2\/x.k=3)) (kU:ah+(Cs l).length<=64) (ih:∀u∈ks,Np H L l ah SF u):Np H L l ah SF (.mk x ks):=by
 intro a r S A hdr hS cM hA;have hn:=(Cj ht).2.1;have rY:=Gt_ ht hx
 have mJ:l.drop (a+1)=Ak ks++r:=by
  have:=TZ (m:=[x]) (r:=Ak ks++r) (by rw[hdr,AO];rfl);simpa using this
 have hrk1:IA l (a+1)=IA l a:=by
  have:=Gl (m:=[x]) (r:=Ak ks++r) (by rw[hdr,AO];rfl);rw[JI hx]at this;simpa[Cs]using this
 rw[xE H L S ks hx]at cM |-;rw[DA_ l ah ks a hx,Di_ l ah ks a hx,rY];rw[AO,List.length_cons]at hA;have fF:=rW mJ;have kB:=Gp_ l;obtain⟨AF,hAF⟩:∃AF,AF=Fx SF l ah A (.mk x ks) a:=⟨_,rfl⟩;rw[<-hAF,AO];clear rY hdr ht;refine Cd [6,10] [(0,0,0),(1,1,1),(2,2,1)] Ur func58 call58 ntmps58 mxd (Au @Ur.eq_1 results58) rfl (fun qJ B qX qQ=> ?_) (hv:=(by simp[Bw]));clear qJ;have k2:¬x.k=2:=fun h=>hx (.inl h)
 have k3:¬x.k=3:=fun h=>hx (.inr h)
 have hT:List.take (Ak ks++r).length (List.map Bq (Ak ks++r))=List.map Bq (Ak ks++r):=cD0 (by simp);obtain⟨R1,hR1⟩:∃R1,R1=Ak ks++r:=⟨_,rfl⟩;simp only[Am,List.cons_append];rw[<-hR1]at hT |-;have b2:(x.k==2)=false:=by simpa using k2
 have b3:(x.k==3)=false:=by simpa using k3
 (refine AG Ab Ab (Iw @Bw.eq_1 @Bq.eq_1 k2 k3 b2 b3 hT) ?_;intros;refine Ah ?_)
 have wA:(decide (x.k=1)||x.k==4)=pE x.k []:=by rw[Gs_];rfl
 rw[wA];refine PR 10 1 1 8 rfl rfl ?_;refine PR 10 2 1 8 rfl rfl ?_;have hj0:(0:Int)=(([]:List RT).length:Int):=rfl
 refine Ai (X:={p:List RT×List RT//ks=p.1++p.2}) (fun p=>⟨[(0,.bx 0 0 0),(2,ofF H L),(6,.bx 6 1 0),(7,.nilsl),(8,.ref (Bq x)),(9,AU (Ak p.1.2++r)),(10,.bx 10 1 0),(59,.int .i64 x.n),(60,.int .i64 p.1.1.length)],
  Bw 1 1 (Fi H L S p.1.1) (EF SF l ah A x.k p.1.1 (a+1))++[⟨6,1,.box [.bool false,.nilsl,.nilsl]⟩,⟨10,1,.box [.bool (pE x.k p.1.1),Cz (Ig l ah x.k p.1.1 (a+1)),Cz (GP l ah x.k p.1.1 (a+1))]⟩]⟩) (fun p=>p.1.2.length) ⟨([],ks),rfl⟩ (Sub.lit (by simp[Bw,xD,Bu_,Dz_,Dh_,Bq,hR1])) ?_
 rintro⟨⟨us,vs⟩,zA⟩;simp only at zA |-
 cases vs with
 | cons u vs =>
  have qY:u∈ks:=by rw[zA];simp
  have qV:(us.length:Int)<x.n:=by rw[hn,zA];simp;omega
  have hks1:Ak ks=Ak us++(flat u++Ak vs):=by rw[zA,Fc,Ap]
  have hdrA:l.drop (a+1)=Ak us++(flat u++(Ak vs++r)):=by rw[mJ,hks1];simp
  have hdrU:=TZ hdrA;have hSU:(Fi H L S us).length=ah+IA l (a+1+(Ak us).length):=by rw[Tf,Gl hdrA,hS,hrk1];omega
  have wW:Fi H L S (us++[u]) <+: SF:=by
   refine List.IsPrefix.trans ?_ cM;rw[zA];unfold Fi;rw[show us++u::vs=(us++[u])++vs by simp,Fc (us++[u]),FT,bD0,<-aV0];exact List.prefix_append _ _
  have hSn:=aU H L S us u;rw[hSn]at wW
  have hlv1:(Cs (Ak us)).length+(Cs (flat u)).length<=(Cs l).length:=by
   rw[hks1,FT,FT,aC0,aC0]at fF;omega
  have hAl:=Uk SF l ah A x.k us (a+1) (by omega);have vP:(Ak ks).length=(Ak us).length+((flat u).length+(Ak vs).length):=by rw[hks1,aC0,aC0]
  have e1:=ih u qY _ _ (Fi H L S us) (EF SF l ah A x.k us (a+1)) hdrU hSU wW (by omega);have hAl1:=Bp_ SF l ah (EF SF l ah A x.k us (a+1)) u (a+1+(Ak us).length) (by omega);have hSl1:=xC H L (Fi H L S us) u;have zT:=Dw_ (ah:=ah) hdrU;have hr5:=kB (a+1+(Ak us).length+(flat u).length);rw[Gl hdrU]at zT hr5;have hF0:=Yg l ah x.k us (a+1);have hL0:=XL l ah x.k us (a+1);have hF1:=Dx_ l ah u (a+1+(Ak us).length)
  have cE:=Dg_ l ah u (a+1+(Ak us).length);have hEn:=EU_ x.k us u;have hFn:=fun h=>AW_ l ah (k:=x.k) h us u (a+1)
  have hLn:=fun h=>AH_ l ah (k:=x.k) h us u (a+1)
  have hAn:=fun h=>lX SF l ah A (k:=x.k) h us u (a+1)
  have hFn4:=AV_ l ah us u (a+1);have hLn4:=AG_ l ah us u (a+1);have hAn4:=lW SF l ah A us u (a+1);have hdl:Ak (u::vs)++r=flat u++(Ak vs++r):=by rw[Ap,aV0]
  rw[hdl];obtain⟨R0,hR0⟩:∃R0,R0=flat u++(Ak vs++r):=⟨_,rfl⟩;rw[<-hR0]at e1 |-;obtain⟨R2,wX⟩:∃R2,R2=Ak vs++r:=⟨_,rfl⟩;rw[<-wX]at e1;have hjm:=PD (l:=GP l ah x.k us (a+1)) (f:=Ie l ah u (a+1+(Ak us).length)) (by omega) (by omega);have fH:=Yf us;have gC:IntKind.i64.wrap ((us.length:Int)+1)=(us.length:Int)+1:=wq
  by_cases k4:x.k=4
  ·have e2:=WN (HK H L (Fi H L S us) u) SF (Fx SF l ah (EF SF l ah A x.k us (a+1)) u (a+1+(Ak us).length)) (pE x.k us) (BU u) (Ig l ah x.k us (a+1)) (Ie l ah u (a+1+(Ak us).length)) (GP l ah x.k us (a+1)) (KO l ah u (a+1+(Ak us).length)) wW (fun q hq=>by have:=zT q hq;omega) (by omega) (by omega) (by omega) (by omega);rw[k4]at e1 e2 hEn;rw[if_pos rfl]at hEn;rw[<-hFn4,<-hLn4,<-hAn4,<-hEn]at e2;rw[<-hSn]at e1 e2
   simp only[k4]
   (refine AG Ab (Au (KV [(0,0),(1,1),(2,2)] [] e1) (KV [(0,0),(1,1),(2,2)] [] e2)) (GV @Bw.eq_1 @Bq.eq_1 k4 qV) ?_;intros;refine Ah ?_)
   refine Aj.mk ⟨(us++[u],vs),by simp[zA]⟩ (Sub.lit (by simp[Bw,wX,gC])) (by simp)
   skip
  ·have e2:=oB (pE x.k us) (BU u) (Ig l ah x.k us (a+1)) (Ie l ah u (a+1+(Ak us).length)) (GP l ah x.k us (a+1)) (KO l ah u (a+1+(Ak us).length)) (by omega) (by omega);rw[if_neg k4]at hEn;rw[<-hFn k4,<-hLn k4,<-hEn]at e2;rw[<-hAn k4,<-hSn]at e1;have b4:(x.k==4)=false:=by simpa using k4
   (refine AG (AD e2) (AD (KV [(0,0),(1,1),(2,2)] [] e1)) (Jh @Bw.eq_1 @Bq.eq_1 k4 b4 qV) ?_;intros;refine Ah ?_)
   refine Aj.mk ⟨(us++[u],vs),by simp[zA]⟩ (Sub.lit (by simp[Bw,wX,gC])) (by simp)
   skip
 | nil =>
  rw[bO0]at zA;subst zA;have wL:¬((ks.length:Int)<x.n):=by rw[hn];omega
  have hSl:=Tf H L S ks;have hr5:=kB (a+1+(Ak ks).length);rw[Gl mJ]at hr5;have hF0:=Yg l ah x.k ks (a+1);have hL0:=XL l ah x.k ks (a+1);have hAl:=Uk SF l ah A x.k ks (a+1) (by omega);have zT:=Dy_ (ah:=ah) (k:=x.k) mJ;rw[Gl mJ]at zT;have hjm:=PD (l:=GP l ah x.k ks (a+1)) (f:=Ig l ah x.k ks (a+1)) (by omega) (by omega);have e3:=JN (Fi H L S ks) SF (EF SF l ah A x.k ks (a+1)) (GP l ah x.k ks (a+1)) (Ig l ah x.k ks (a+1)) cM (fun q hq=>by have:=zT q hq;omega) (by omega) (by omega)
  have hdl:Ak []++r=r:=by rw[Ch];rfl
  rw[hdl];have mN:∀n:Int,(x.k==n)=decide (x.k=n):=fun n=>rfl
  by_cases h6:x.k=6
  ·rw[Sk SF l ah A ks a hx (.inl h6)]at hAF;rw[<-hAF]at e3;rw[h6]at e3;simp only[h6];exact Av Ab (AD (KV [(0,0),(1,1),(2,2)] [] e3)) (GV @Bw.eq_1 @Bq.eq_1 h6 wL)
  ·by_cases h7:x.k=7
   ·rw[Sk SF l ah A ks a hx (.inr h7)]at hAF;rw[<-hAF]at e3;rw[h7]at e3;simp only[h7];exact Av Ab (AD (KV [(0,0),(1,1),(2,2)] [] e3)) (GV @Bw.eq_1 @Bq.eq_1 h7 wL)
   ·rw[lV SF l ah A ks a hx (by omega)]at hAF;have b6:(x.k==6)=false:=by simpa using h6
    have b7:(x.k==7)=false:=by simpa using h7
    exact Av Ab Ab (Ut @Bw.eq_1 @Bq.eq_1 h6 h7 b6 b7 wL mN hAF)
theorem PX (H L:List ByteArray) (l:List Nd) (ah:Nat) (SF:List Sym) (kU:ah+(Cs l).length<=64):∀(n:Nat) (t:RT),(flat t).length<=n->Ew t=true->Np H L l ah SF t
 | 0,t,hn,_=>by have:=GB t;omega
 | n+1,.mk x ks,hn,ht=>by
  by_cases hx:x.k=2\/x.k=3
  ·have:=JK ht hx;subst this;exact WE H L l ah SF x hx kU
  ·refine WD H L l ah SF x ks ht hx kU fun u hu=> ?_
   refine PX H L l ah SF kU n u ?_ (Pv (Cj ht).2.2 u hu);have h1:=Yd hu;rw[AO,List.length_cons]at hn;omega
end Go.Proofs.Wy
end
section
namespace Go.Proofs.Wy
open Go Go.Dm Tryz
variable [DMode]
attribute [local irreducible] DW Bs Bt
set_option maxRecDepth 100000
def ZH : Ann:=⟨[],[]⟩
theorem VS (x y:Sym):Ae prog 114 [.agg (AM x),.agg (AM y)] (.int .i64 (Nw x y)):=by
 refine Ac [] ZH func114 call114 ntmps114 mxd (Au @ZH.eq_1 results114) rfl (fun qJ B qX qQ=> ?_);simp only[Am];cases h1:x.label<;>cases h2:y.label<;>exact Av (AD (Kc x.n y.n)) Ab (GV @AM.eq_1 h1 h2 @Nw.eq_1)
def tY : Ann:=⟨[],[]⟩
theorem Vb (x y:Arc):Ae prog 63 [.agg (AW x),.agg (AW y)] (.int .i64 (CT x y)):=by
 refine Ac [] tY func63 call63 ntmps63 mxd (Au @tY.eq_1 results63) rfl (fun qJ B qX qQ=> ?_);simp only[Am];have h1:=Kc x.fr y.fr;have h2:=VS x.sy y.sy;have h3:=Kc x.to y.to;have h4:=CC_ (HC x.fr y.fr) (Nw x.sy y.sy) (HC x.to y.to);simp only[AM]at h2;unfold CT;exact Av (GV h1 h2 h3 h4) Ab (AD @AW.eq_1)
def ZF : Ann:=⟨[],[]⟩
theorem Qa (x y:Sym):Ae prog 214 [.agg (AM x),.agg (AM y)] (.bool (LV x y)):=by
 refine Ac [] ZF func214 call214 ntmps214 mxd (Au @ZF.eq_1 results214) rfl (fun qJ B qX qQ=> ?_);simp only[Am];cases h1:x.label<;>cases h2:y.label<;>exact Av Ab Ab (GV @AM.eq_1 h1 h2 @LV.eq_1)
def ZG : Ann:=⟨[],[]⟩
theorem XJ (x y:Arc):Ae prog 189 [.agg (AW x),.agg (AW y)] (.bool (EG x y)):=by
 refine Ac [] ZG func189 call189 ntmps189 mxd (Au @ZG.eq_1 results189) rfl (fun qJ B qX qQ=> ?_);simp only[Am];have h2:=Qa x.sy y.sy;simp only[AM]at h2;unfold EG
 by_cases h1:x.fr=y.fr
 ·have nJ:(x.fr != y.fr)=false:=by simpa using h1
  by_cases h3:x.sy=y.sy
  ·have e1:x.sy.label=y.sy.label:=by rw[h3]
   have e2:x.sy.n=y.sy.n:=by rw[h3]
   exact Av (AD h2) Ab (GN @AW.eq_1 h1 nJ h3 e1 e2)
  ·have e:(x.sy.label==y.sy.label&&x.sy.n==y.sy.n)=false:=by
    rw[dQ0];intro hh;simp only[aJ0,beq_iff_eq]at hh
    apply h3
    cases hx:x.sy;cases hy:y.sy;rw[hx,hy]at hh;simp only at hh;rw[hh.1,hh.2]
   exact Av (AD h2) Ab (Jh @AW.eq_1 h1 nJ h3 e)
 ·have nJ:(x.fr != y.fr)=true:=by simpa using h1
  exact Av (AD h2) Ab (CD @AW.eq_1 h1 nJ)
end Go.Proofs.Wy
end
section
namespace Go.Dm
variable [DMode]
open Go.Shelf Go.Sort Go.Proofs Go.RowKit
abbrev Ij_ := { s:ByteArray//s.size<=maxLen }
instance : Inhabited Ij_:=⟨⟨⟨#[]⟩,by decide⟩⟩
end Go.Dm
end
section
namespace Go.Proofs.Wy
open Go Go.Dm Go.Shelf Tryz
variable [DMode]
attribute [local irreducible] DW Bs Bt
set_option maxRecDepth 100000
abbrev aM (x y:Arc):Bool:=CT x y==0
theorem DK_ {x y:Arc} (h:aM x y=false):¬x=y:=fun e=>by
 have:=(De.eq0 x y).2 e;simp[aM,this]at h
theorem DL_ {x y:Arc} (h:aM x y=true):x=y:=(De.eq0 x y).1 (by simpa[aM]using h)
theorem lY {x y:Arc} (h:¬x=y):(x.fr==y.fr&&(x.sy.label==y.sy.label&&(x.sy.n==y.sy.n&&x.to==y.to)))=false:=by
 cases hb:(x.fr==y.fr&&(x.sy.label==y.sy.label&&(x.sy.n==y.sy.n&&x.to==y.to)))with
 | false=>rfl
 | true =>
  exfalso
  apply h
  obtain⟨a,⟨b,c⟩,d⟩:=x;obtain⟨a',⟨b',c'⟩,d'⟩:=y;simp at hb;obtain⟨rfl,rfl,rfl,rfl⟩:=hb;rfl
def tZ : Ann:=⟨[],[]⟩
theorem SV (l:List Arc) :
  Bn prog (.func 65) [.osl 0 0] [⟨0,0,.row 39 4 32 (l.map AW)⟩] (Cg (CA aM l)) []:=by
 refine Ns [0] [] func65 rfl call65 (by simp[ntmps65]) (by simp) (by simp) ?_;intro qJ hwo B qX;have qQ:=Ih_ tZ mxd (Au @tZ.eq_1 results65);simp only[Am]
 have hl:l.length<=9223372036854775807:=by
  simp only[Ww,maxLen,aN0]at hwo;omega
 clear hwo
 by_cases zL:l.length<2
 ·have bT:CA aM l=l:=by
   match l,zL with
   | [],_=>rfl
   | [x],_=>rfl
  exact Av Ab Ab (Au zL bT)
 have hl2':¬(l.length:Int)<2:=by omega
 obtain⟨R0,hR0⟩:∃R0,R0=CA aM l:=⟨_,rfl⟩;rw[<-hR0]
 (refine AG Ab Ab (Au zL hl2') ?_;intros;refine Ah ?_)
 refine Ai (X:={k:Nat//1<=k/\k<=l.length/\CA aM (l.take k)=l.take k}) (fun k=>⟨[(0,.osl 0 0),(3,.int .i64 k.1)],[⟨0,0,.row 39 4 32 (l.map AW)⟩]⟩) (fun k=>l.length-k.1) ⟨1,by
  obtain⟨x,t,rfl⟩:∃x t,l=x::t:=by
   cases l with
   | nil=>simp at zL
   | cons x t=>exact⟨x,t,rfl⟩
  simp[CA,CC]⟩ (Sub.lit (by simp)) ?_
 rintro⟨k,jA,hk,hck⟩
 by_cases qV:k<l.length
 ·obtain⟨q,hq,vY,pD⟩:=Ao qV;obtain⟨p,hp,yE,gN⟩:=Ao (show k-1<l.length by omega);have gC:IntKind.i64.wrap ((k:Int)-1)=(k:Int)-1:=wq;have zB:((k:Int)-1).toNat=k-1:=by omega
  have hs:=RL (e:=aM) (by omega) hp hq;have qI:(0:Int)<=(k:Int)-1:=by omega
  have qT:(k:Int)-1<l.length:=by omega
  cases nR:aM q p
  ·rw[nR]at hs;simp only[aR0,if_false]at hs;have vM:(q.fr==p.fr&&(q.sy.label==p.sy.label&&(q.sy.n==p.sy.n&&q.to==p.to)))=false:=lY (DK_ nR)
   (refine AG Ab Ab (Jn @AW.eq_1 qV vY yE hp hq zB gC qI qT vM) ?_;intros;refine Ah ?_)
   refine Aj.mk ⟨k+1,by omega,by omega,by rw[hs,hck,bJ0,hq];rfl⟩ (Sub.lit (by simp)) (by simp;omega)
   skip
  ·rw[nR]at hs;simp only[if_true,bO0]at hs;have vM:(q.fr==p.fr&&(q.sy.label==p.sy.label&&(q.sy.n==p.sy.n&&q.to==p.to)))=true:=by rw[DL_ nR];simp
   (refine AG Ab Ab (Jn @AW.eq_1 qV vY yE hp hq zB gC qI qT vM) ?_;intros;refine Ah ?_)
   clear gC zB qI qT
   refine Ai (X:={x:Nat×Nat×List Arc//1<=x.1/\k+x.1<=l.length/\x.2.1<k+x.1/\k<=x.2.1/\x.2.2.length=l.length/\x.2.2.take x.2.1=CA aM (l.take (k+x.1))/\∀j,k+x.1<=j+1->x.2.2[j]? =l[j]?}) (fun x=>⟨[(0,.osl 0 0),(3,.int .i64 x.1.2.1),(4,.vw 0 0 4 32 k (l.length-k)),(5,.int .i64 x.1.1)],[⟨0,0,.row 39 4 32 (x.1.2.2.map AW)⟩]⟩) (fun x=>l.length-x.1.1)
    ⟨(1,k,l),show 1<=1/\k+1<=l.length/\k<k+1/\k<=k/\l.length=l.length/\l.take k=CA aM (l.take (k+1))/\(∀j,k+1<=j+1->l[j]? =l[j]?) from ⟨by omega,by omega,by omega,by omega,rfl,by rw[hs,hck],fun _ _=>rfl⟩⟩ (Sub.lit (by simp)) ?_
   rintro⟨⟨m,kk,R⟩,x1,x2,x3,x4,x5,x6,x7⟩;simp only at x1 x2 x3 x4 x5 x6 x7 |-;have hv:k+(l.length-k)<=l.length:=by omega
   by_cases hm:m<l.length-k
   ·obtain⟨y,hy,yV,nV⟩:=Ao (show k+m<l.length by omega);obtain⟨z,hz,hz',hzm⟩:=Ao (show k+m-1<l.length by omega);obtain⟨c0,yT,_,_⟩:=Ao (show kk<R.length by omega);have hRy:R[k+m]? =some y:=by rw[x7 _ (by omega)];exact hy
    have hRz:R[k+(m-1)]? =some z:=by rw[x7 _ (by omega),show k+(m-1)=k+m-1 by omega];exact hz
    have hRy':R[k+m]'(by omega)=y:=(aB0.1 hRy).2;have hRz':R[k+(m-1)]'(by omega)=z:=(aB0.1 hRz).2;have gC:IntKind.i64.wrap ((m:Int)-1)=(m:Int)-1:=wq;have zB:((m:Int)-1).toNat=m-1:=by omega
    have qI:(0:Int)<=(m:Int)-1:=by omega
    have qT:(m:Int)-1<((l.length-k:Nat):Int):=by omega
    have yO:=RL (e:=aM) (by omega) hz hy;rw[<-x6]at yO;have qZ:kk<l.length:=by omega
    cases nK:aM y z
    ·rw[nK]at yO;simp only[aR0,if_false]at yO;have he3:(y.fr==z.fr&&(y.sy.label==z.sy.label&&(y.sy.n==z.sy.n&&y.to==z.to)))=false:=lY (DK_ nK)
     (refine AG Ab Ab (Ii_ @AW.eq_1 hm hRy hRz hRy' hRz' zB gC qI qT x5 hv yT qZ he3) ?_;intros;refine Ah ?_)
     refine Aj.mk ⟨(m+1,kk+1,R.set kk y),show 1<=m+1/\k+(m+1)<=l.length/\kk+1<k+(m+1)/\k<=kk+1/\(R.set kk y).length=l.length/\(R.set kk y).take (kk+1)=CA aM (l.take (k+(m+1)))/\(∀j,k+(m+1)<=j+1->(R.set kk y)[j]? =l[j]?) from ⟨by omega,by omega,by omega,by omega,by simp[x5],?_,fun j hj=> ?_⟩⟩ (Sub.lit ?_) (by simp;omega)
     ·rw[show k+(m+1)=k+m+1 by omega,yO,bJ0,fD0 (by omega),List.take_set_of_le (by omega)];rfl
     ·rw[List.getElem?_set_ne (by omega)];exact x7 j (by omega)
     ·have gW:Bp ((R.map AW).set kk [.int .i64 y.fr,.bool y.sy.label,.int .i64 y.sy.n,.int .i64 y.to])=0:=by
       rw[show (R.map AW).set kk [.int .i64 y.fr,.bool y.sy.label,.int .i64 y.sy.n,.int .i64 y.to]=(R.set kk y).map AW by simp[eS0,AW]];exact CS_ _
      simp[eS0,AW,gW]
     skip
    ·rw[nK]at yO;simp only[if_true,bO0]at yO;have he3:(y.fr==z.fr&&(y.sy.label==z.sy.label&&(y.sy.n==z.sy.n&&y.to==z.to)))=true:=by rw[DL_ nK];simp
     (refine AG Ab Ab (Ii_ @AW.eq_1 hm hRy hRz hRy' hRz' zB gC qI qT x5 hv yT qZ he3) ?_;intros;refine Ah ?_)
     refine Aj.mk ⟨(m+1,kk,R),show 1<=m+1/\k+(m+1)<=l.length/\kk<k+(m+1)/\k<=kk/\R.length=l.length/\R.take kk=CA aM (l.take (k+(m+1)))/\(∀j,k+(m+1)<=j+1->R[j]? =l[j]?) from ⟨by omega,by omega,by omega,by omega,x5,by rw[show k+(m+1)=k+m+1 by omega,yO],fun j hj=>x7 j (by omega)⟩⟩ (Sub.lit (by simp)) (by simp;omega)
     skip
   ·have hkm:k+m=l.length:=by omega
    have hcl1:(Eh (R.map AW) kk (l.length-kk) [.int .i64 0,.bool false,.int .i64 0,.int .i64 0]).length=l.length:=by simp[Eh];omega
    have pQ:(Eh (R.map AW) kk (l.length-kk) [.int .i64 0,.bool false,.int .i64 0,.int .i64 0]).take kk=R0.map AW:=by
     have e1:l.take (k+m)=l:=by rw[hkm,aW0]
     rw[e1]at x6;rw[hR0,<-x6];simp only[Eh];rw[aV0,List.take_append_of_le_length (by simp;omega),List.take_take,Nat.min_self,eK0]
    have wR:kk<=l.length:=by omega
    exact Av Ab Ab (GN hm x5 hv hcl1 pQ wR)
 ·have qZ:k=l.length:=by omega
  subst qZ;rw[aW0]at hck;rw[hck]at hR0;exact Av Ab Ab (AD hR0)
theorem WK (l:List Arc):Bn prog (.func 62) [.osl 0 0,.fn (.func 63) [] []] [⟨0,0,.row 39 4 32 (l.map AW)⟩] (.tup []) [⟨0,0,.row 39 4 32 ((Jt CT l).map AW)⟩]:=by
 obtain⟨un,hun⟩:∃un:List DVal->Arc,∀e,un (AW e)=e:=⟨fun d=>match d with | [.int _ a,.bool b,.int _ c,.int _ e]=>⟨a,⟨b,c⟩,e⟩ | _=>⟨0,⟨false,0⟩,0⟩,fun e=>rfl⟩
 have qY:∀x∈l.map AW,∃p∈l,x=AW p:=fun x hx=>by
  obtain⟨p,hp,rfl⟩:=aT0.1 hx;exact⟨p,hp,rfl⟩
 refine xM (cf:=fun x y=>CT (un x) (un y)) Tryz.sortFArc (by rfl) call62 (by kernel_rfl) (by kernel_rfl) (by decide) rfl ?_ call63 ?_ ?_ ?_ ?_ ?_
 ·intro x hx;obtain⟨p,_,rfl⟩:=qY x hx;simp
 ·intro x hx y hy;obtain⟨p,_,rfl⟩:=qY x hx;obtain⟨q,_,rfl⟩:=qY y hy;simp only[hun];exact @Vb LR p q
 ·intro x _;rw[De.refl];omega
 ·intro x _ y _ z _;exact De.trans _ _ _
 ·intro x _ y _ z _;exact De.ntrans _ _ _
 ·intro L hp hs;exact uX De hun hp hs
end Go.Proofs.Wy
end
section
namespace Go.Proofs.Wy
open Go Go.Dm Tryz
variable [DMode]
inductive Rch (E:List (Nat×Nat)):Nat->Nat->Prop where
 | refl (p:Nat):Rch E p p
 | step {p q r:Nat}:(p,q)∈E->Rch E q r->Rch E p r
theorem Rch.one {E:List (Nat×Nat)} {p q:Nat} (h:(p,q)∈E):Rch E p q:= .step h (.refl q)
theorem Rch.trans {E:List (Nat×Nat)} {p q r:Nat} (h:Rch E p q) (h':Rch E q r):Rch E p r:=by
 induction h with
 | refl _=>exact h'
 | step a _ ih=>exact .step a (ih h')
theorem Rch.mono {E E':List (Nat×Nat)} (h:∀x∈E,x∈E') {p q:Nat} (hr:Rch E p q):Rch E' p q:=by
 induction hr with
 | refl _=>exact .refl _
 | step a _ ih=>exact .step (h _ a) ih
theorem Rch.map {E E':List (Nat×Nat)} (f:Nat->Nat) (h:∀x∈E,(f x.1,f x.2)∈E') {p q:Nat} (hr:Rch E p q):Rch E' (f p) (f q):=by
 induction hr with
 | refl _=>exact .refl _
 | step a _ ih=>exact .step (h _ a) ih
end Go.Proofs.Wy
end
