/- Parts of a proof, laid together: BY1, BX3, BX5, BX7, BX8, BW3, QD0, QD1, QB1, QB2, QB3, QB4, QB5, QB6, RB1. -/
import Derived.Test.YtiojapdolljocaaGreatqBw8
import Derived.Test.YtiojapdolljocaaGreatqBw15
import Derived.Test.YtiojapdolljocaaGreatqBw22
import Derived.Test.YtiojapdolljocaaGreatqBw23
import Derived.Test.YtiojapdolljocaaGreatqBw27
import Derived.Test.YtiojapdolljocaaGreatqBw28
import Derived.Test.YtiojapdolljocaaGreatqBw29
import Derived.Test.YtiojapdolljocaaGreatqBw32
set_option linter.unusedSimpArgs false
set_option maxHeartbeats 8000000
set_option linter.unusedVariables false
set_option linter.unusedSectionVars false
section
namespace Go.Proofs.Wy
open Go Go.Dm Tryz
variable [DMode]
def Mo (sy:Nd->Sym) (ts:List RT):List Arc:=Df (fun x y=>HZ x y==0) (Nz HZ (Ju sy ts))
theorem sO {sy:Nd->Sym} {ts:List RT} {x:Arc}:x∈Mo sy ts↔x∈Ju sy ts:=by
 unfold Mo;rw[(Md GF (HG GF (Ju sy ts))).2,(Px _ _).mem_iff]
theorem Vd (sy:Nd->Sym) (ts:List RT):ES HZ (Mo sy ts):=(Md GF (HG GF (Ju sy ts))).1
theorem Jw {sy:Nd->Sym} {ts:List RT} {x:Arc}:x∈Mo sy ts↔∃p q,((p,q)∈RF 0 ts\/(p=0/\q∈NN 0 ts))/\x=Ri (OK sy ts) (p,q):=by
 rw[sO];unfold Ju;rw[aQ0]
 constructor
 ·rintro⟨⟨p,q⟩,h,rfl⟩;refine⟨p,q,?_,rfl⟩
  rcases aC0.1 h with h | h
  ·exact .inl h
  ·obtain⟨q',hq,he⟩:=aQ0.1 h;simp only[_root_.Prod.mk.injEq]at he;obtain⟨rfl,rfl⟩:=he;exact .inr ⟨rfl,hq⟩
 ·rintro⟨p,q,h,rfl⟩;refine⟨(p,q),?_,rfl⟩
  rcases h with h | ⟨rfl,h⟩
  ·exact aH0 _ h
  ·exact aJ0 _ (aQ0.2 ⟨q,h,rfl⟩)
theorem JH : ∀(ts:List RT) (ah:Nat) (p q:Nat),(p,q)∈RF ah ts->(ah<p/\p<=ah+(BW ts).length)/\ah<q/\q<=ah+(BW ts).length
 | [],ah,p,q,h=>by simp[RF]at h
 | t::ts,ah,p,q,h=>by
  have hl:(BW (t::ts)).length=(Cz (flat t)).length+(BW ts).length:=by simp[BW]
  rw[RF,aC0]at h
  rcases h with h | h
  ·obtain⟨⟨a,b⟩,cT,he⟩:=aQ0.1 h;simp only[sJ,_root_.Prod.mk.injEq]at he;obtain⟨rfl,rfl⟩:=he;obtain⟨⟨x,hx,hkx⟩,⟨y,hy,hky⟩⟩:=Jy t 0 a b cT;have hd:(flat t).drop 0=flat t++[]:=by simp
   have h1:=MO (ah:=ah) hd (cW0 a) ⟨x,hx,hkx⟩;have h2:=MO (ah:=ah) hd (cW0 b) ⟨y,hy,hky⟩;rw[Ei hd,IL]at h1 h2;unfold GG at h1 h2 |-;omega
  ·have:=JH ts _ p q h;omega
theorem QF (ts:List RT):∀q∈NN 0 ts,1<=q/\q<=(BW ts).length:=fun q h=>by have:=UR ts 0 q h;omega
theorem DB_ {sy:Nd->Sym} {ts:List RT} {x:Arc} (h:x∈Mo sy ts):∃p q:Nat,p<=(BW ts).length/\1<=q/\q<=(BW ts).length/\x=⟨(p:Int),(OK sy ts).getD (q-1) ⟨false,0⟩,(q:Int)⟩:=by
 obtain⟨p,q,hpq,rfl⟩:=Jw.1 h;clear h
 rcases hpq with h | ⟨rfl,h⟩
 ·have:=JH ts 0 p q h;exact⟨p,q,by omega,by omega,by omega,rfl⟩
 ·have:=QF ts q h;exact⟨0,q,by omega,by omega,by omega,rfl⟩
def Oy (sy:Nd->Sym) (ts:List RT):Auto:=⟨(BW ts).length+1,Jm ts,Mo sy ts⟩
theorem Ff_ {l:List Int} {s:Int} (hp:l.Pairwise (· < ·)) (h:∀q∈l,0<=q/\q<s):(List.range l.length).all (iU s l)=true:=by
 rw[aX0];intro k hk;have hk:=dP0.1 hk
 have hs:Zf s l[k]=true:=by
  have:=h _ (cY0 hk);unfold Zf;simp[this]
 rcases Nat.eq_zero_or_pos k with rfl | h0
 ·rw[Ws (aB0 hk)];exact hs
 ·rw[iT h0 (aB0 hk) (aB0 (show k-1<l.length by omega)),hs];have:=List.pairwise_iff_getElem.1 hp (k-1) k (by omega) hk (by omega);simpa using this
theorem Eb_ {l:List Arc} {s:Int} (hp:l.Pairwise (fun x y=>HZ x y<0)) (h:∀x∈l,NX s x=true):(List.range l.length).all (sF s l)=true:=by
 rw[aX0];intro k hk;have hk:=dP0.1 hk;have hs:=h _ (cY0 hk)
 rcases Nat.eq_zero_or_pos k with rfl | h0
 ·rw[Wt (aB0 hk)];exact hs
 ·rw[iV h0 (aB0 hk) (aB0 (show k-1<l.length by omega)),hs,Rh];have:=List.pairwise_iff_getElem.1 hp (k-1) k (by omega) hk (by omega);simpa using this
theorem Cy_ (H L:List ByteArray) (x:Nd):0<=(Co H L x).n:=by
 unfold Co JL
 repeat' split
 all_goals simp
theorem nK (H L:List ByteArray) (ts:List RT) (jU:(BW ts).length<=64):Cf (Oy (Co H L) ts)=true:=by
 unfold Cf Oy;simp only[aM0,decide_eq_true_eq];refine⟨⟨by omega,by omega⟩,?_,?_⟩
 ·obtain⟨h1,h2⟩:=UQ ts 0
  have hm:((Ot 0 ts).map eY).Pairwise (· < ·):=by
   rw[dI0];exact h1.imp fun h=>by unfold eY;omega
  have hb:∀q∈(Ot 0 ts).map eY,0<q/\q<((BW ts).length:Int)+1:=by
   intro q hq;obtain⟨p,hp,rfl⟩:=aQ0.1 hq;have:=h2 p hp;unfold eY;omega
  refine Ff_ ?_ ?_
  ·unfold Jm
   split
   ·exact cK0.2 ⟨fun q hq=>(hb q hq).1,hm⟩
   ·exact hm
  ·intro q hq;unfold Jm at hq
   rcases aC0.1 hq with hq | hq
   ·split at hq
    ·simp at hq;subst hq;omega
    ·simp at hq
   ·have:=hb q hq;omega
 ·refine Eb_ (Vd _ _) ?_;intro x hx;obtain⟨p,q,h1,h2,h3,rfl⟩:=DB_ hx
  have hn:0<=((OK (Co H L) ts).getD (q-1) ⟨false,0⟩).n:=by
   rw[bA0]
   cases h:(OK (Co H L) ts)[q-1]? with
   | none=>exact Int.le_refl 0
   | some s =>
    obtain⟨y,_,rfl⟩:=aQ0.1 (bJ0 h);exact Cy_ H L y
  unfold NX Zf;simp only[aM0,decide_eq_true_eq];exact⟨⟨by omega,by omega⟩,⟨by omega,by omega⟩,hn⟩
theorem Dt_ (H L:List ByteArray) (ts:List RT):BO_ H L ts= .agg (Bj (Oy (Co H L) ts)):=rfl
end Go.Proofs.Wy
end
section
namespace Go.Proofs.Wy
open Go Go.Dm Tryz
variable [DMode]
attribute [local irreducible] DW Bh Bk
set_option maxRecDepth 100000



def CW : Ann:=⟨[],[]⟩
theorem Oq (g:FuncId) (us cs:List DVal) (l:List Int) (q:Int->Bool) (hq:∀x∈l,Ag prog g (us++[.int .i64 x]++cs) (.bool (q x))) :
  Ag prog 122 [Fu l,.fn (.func g) us cs] (.int .i64 (if l.any q then ((l.findIdx q:Nat):Int)else -1)):=by
 refine Ad [] CW func122 call122 ntmps122 mxd (Az @CW.eq_1 results122) rfl (fun qJ B qX qQ=> ?_);have hw:=WV qJ.1;clear qJ;simp only[Ap]
 (repeat (first | refine AC fun K hK=> ?_ | (refine BL CW mxd (by kernel_rfl) ?_;simp[CW,qX];try simp (disch:=omega) only[Ai]) | refine Am ?_ | (refine AX ?_ ?_ ?_;(· (simp[qX];done));(try (rotate_left;(· (intro hc;(try simp[qX]at hc);done))))) | (refine AI ?_;simp[results122,qX]) | ((first | refine Av ?_ | refine Au ?_);simp[qX]) | (intro hc;(try simp[qX]at hc);(try (exfalso;omega))) | (refine⟨?_,?_⟩; · omega) | omega | apply_assumption -exfalso -symm | (exfalso;omega)))
 refine An (X:={k:Nat//k<=l.length/\∀i x,i<k->l[i]? =some x->q x=false}) (fun x=>⟨[(0,Fu l),(1,.fn (.func g) us cs),(7,.int .i64 l.length),(8,.int .i64 x.1)],[]⟩) (fun x=>l.length-x.1) ⟨0,by simp⟩ (Sub.lit (by simp)) ?_;rintro⟨k,hk,zQ⟩
 by_cases qV:k<l.length
 ·obtain⟨x,hx,qG,zJ⟩:=Ar qV;have kM:=hq x zJ;simp only[aS0,List.cons_append,List.nil_append]at kM;cases hb:q x
  ·rw[hb]at kM
   have bT:∀i y,i<k+1->l[i]? =some y->q y=false:=by
    intro i y hi hy
    by_cases dW:i=k
    ·subst dW;rw[hx]at hy;simp only[aA0]at hy;subst hy;exact hb
    ·exact zQ i y (by omega) hy
   (repeat (first | refine AC fun K hK=> ?_ | (refine BL CW mxd (by kernel_rfl) ?_;simp[CW,qX,CT,qV,qG];try simp (disch:=omega) only[Ai]) | refine Am ?_ | (refine AX ?_ ?_ ?_;(· (simp[qX,CT,qV,qG];done));(try (rotate_left;(· (intro hc;(try simp[qX,CT,qV,qG]at hc);done))))) | (refine AI ?_;simp[results122,qX,CT,qV,qG]) | ((first | refine Av ?_ | refine Au ?_);simp[qX,CT,qV,qG]) | (intro hc;(try simp[qX,CT,qV,qG]at hc);(try (exfalso;omega))) | ((first | refine Af (kM) ?_ | (refine Ae (kM) ?_ ?_;(· (simp;done))));try simp[qX,CT,qV,qG]) | (refine⟨?_,?_⟩; · omega) | omega | apply_assumption -exfalso -symm | (exfalso;omega)))
   exact Ak.mk ⟨k+1,by omega,bT⟩ (Sub.lit (by simp[])) (by simp;omega)
   (repeat (first | refine AC fun K hK=> ?_ | (refine BL CW mxd (by kernel_rfl) ?_;simp[CW,qX,CT,qV,qG];try simp (disch:=omega) only[Ai]) | refine Am ?_ | (refine AX ?_ ?_ ?_;(· (simp[qX,CT,qV,qG];done));(try (rotate_left;(· (intro hc;(try simp[qX,CT,qV,qG]at hc);done))))) | (refine AI ?_;simp[results122,qX,CT,qV,qG]) | ((first | refine Av ?_ | refine Au ?_);simp[qX,CT,qV,qG]) | (intro hc;(try simp[qX,CT,qV,qG]at hc);(try (exfalso;omega))) | ((first | refine Af (kM) ?_ | (refine Ae (kM) ?_ ?_;(· (simp;done))));try simp[qX,CT,qV,qG]) | (refine⟨?_,?_⟩; · omega) | omega | apply_assumption -exfalso -symm | (exfalso;omega)))
  ·rw[hb]at kM;have wF:l.any q=true:=cF0.2 ⟨x,zJ,hb⟩
   have kK:l.findIdx q=k:=by
    rw[List.findIdx_eq qV];refine⟨by rw[qG];exact hb,fun i hi=> ?_⟩;exact zQ i _ hi (aB0 (by omega))
   (repeat (first | refine AC fun K hK=> ?_ | (refine BL CW mxd (by kernel_rfl) ?_;simp[CW,qX,CT,qV,qG,wF,kK];try simp (disch:=omega) only[Ai]) | refine Am ?_ | (refine AX ?_ ?_ ?_;(· (simp[qX,CT,qV,qG,wF,kK];done));(try (rotate_left;(· (intro hc;(try simp[qX,CT,qV,qG,wF,kK]at hc);done))))) | (refine AI ?_;simp[results122,qX,CT,qV,qG,wF,kK]) | ((first | refine Av ?_ | refine Au ?_);simp[qX,CT,qV,qG,wF,kK]) | (intro hc;(try simp[qX,CT,qV,qG,wF,kK]at hc);(try (exfalso;omega))) | ((first | refine Af (kM) ?_ | (refine Ae (kM) ?_ ?_;(· (simp;done))));try simp[qX,CT,qV,qG,wF,kK]) | (refine⟨?_,?_⟩; · omega) | omega | apply_assumption -exfalso -symm | (exfalso;omega)))
 ·have qN:k=l.length:=by omega
  have wF:l.any q=false:=by
   rw[dZ0];intro x hx;obtain⟨i,hi,rfl⟩:=bU0 hx;rw[zQ i _ (by omega) (aB0 hi)];simp
  (repeat (first | refine AC fun K hK=> ?_ | (refine BL CW mxd (by kernel_rfl) ?_;simp[CW,qX,CT,qN,wF];try simp (disch:=omega) only[Ai]) | refine Am ?_ | (refine AX ?_ ?_ ?_;(· (simp[qX,CT,qN,wF];done));(try (rotate_left;(· (intro hc;(try simp[qX,CT,qN,wF]at hc);done))))) | (refine AI ?_;simp[results122,qX,CT,qN,wF]) | ((first | refine Av ?_ | refine Au ?_);simp[qX,CT,qN,wF]) | (intro hc;(try simp[qX,CT,qN,wF]at hc);(try (exfalso;omega))) | ((first | refine Af (kM) ?_ | (refine Ae (kM) ?_ ?_;(· (simp;done))));try simp[qX,CT,qN,wF]) | (refine⟨?_,?_⟩; · omega) | omega | apply_assumption -exfalso -symm | (exfalso;omega)))
def JT : Ann:=⟨[],[]⟩
theorem Lg (g:FuncId) (us cs:List DVal) (l:List Int) (q:Int->Bool) (hq:∀x∈l,Ag prog g (us++[.int .i64 x]++cs) (.bool (q x))) :
  Ag prog 83 [Fu l,.fn (.func g) us cs] (.bool (l.any q)):=by
 refine Ad [] JT func83 call83 ntmps83 mxd (Az @JT.eq_1 results83) rfl (fun qJ B qX qQ=> ?_);simp only[Ap];have hi:=Oq g us cs l q hq;have gX:(0:Int)<=(l.findIdx q:Nat):=by omega
 cases hb:l.any q
 ·rw[hb]at hi
  (repeat (first | refine AC fun K hK=> ?_ | (refine BL JT mxd (by kernel_rfl) ?_;simp[JT,qX,hb];try simp (disch:=omega) only[Ai]) | refine Am ?_ | (refine AX ?_ ?_ ?_;(· (simp[qX,hb];done));(try (rotate_left;(· (intro hc;(try simp[qX,hb]at hc);done))))) | (refine AI ?_;simp[results83,qX,hb]) | ((first | refine Av ?_ | refine Au ?_);simp[qX,hb]) | (intro hc;(try simp[qX,hb]at hc);(try (exfalso;omega))) | ((first | refine Af (hi) ?_ | (refine Ae (hi) ?_ ?_;(· (simp;done))));try simp[qX,hb]) | (refine⟨?_,?_⟩; · omega) | omega | apply_assumption -exfalso -symm | (exfalso;omega)))
 ·rw[hb]at hi
  (repeat (first | refine AC fun K hK=> ?_ | (refine BL JT mxd (by kernel_rfl) ?_;simp[JT,qX,hb];try simp (disch:=omega) only[Ai]) | refine Am ?_ | (refine AX ?_ ?_ ?_;(· (simp[qX,hb];done));(try (rotate_left;(· (intro hc;(try simp[qX,hb]at hc);done))))) | (refine AI ?_;simp[results83,qX,hb]) | ((first | refine Av ?_ | refine Au ?_);simp[qX,hb]) | (intro hc;(try simp[qX,hb]at hc);(try (exfalso;omega))) | ((first | refine Af (hi) ?_ | (refine Ae (hi) ?_ ?_;(· (simp;done))));try simp[qX,hb]) | (refine⟨?_,?_⟩; · omega) | omega | apply_assumption -exfalso -symm | (exfalso;omega)))
def Ph : Ann:=⟨[],[]⟩
theorem aJ (S:List Bool) (q:Int) (h0:0<=q) (h1:q.toNat<S.length):Ag prog 84 [.int .i64 q,.ref [Mc S]] (.bool (bAt S q)):=by
 obtain⟨v,rfl⟩:∃v:Nat,q=(v:Int):=⟨q.toNat,by omega⟩;rw[cB0]at h1;obtain⟨b,hb,qL,_⟩:=Ar h1;rw[nR hb];refine Ad [] Ph func84 call84 ntmps84 mxd (Az @Ph.eq_1 results84) rfl (fun qJ B qX qQ=> ?_);simp only[Ap]
 (repeat (first | refine AC fun K hK=> ?_ | (refine BL Ph mxd (by kernel_rfl) ?_;simp[Ph,qX,h1,hb,qL,RJ];try simp (disch:=omega) only[Ai]) | refine Am ?_ | (refine AX ?_ ?_ ?_;(· (simp[qX,h1,hb,qL,RJ];done));(try (rotate_left;(· (intro hc;(try simp[qX,h1,hb,qL,RJ]at hc);done))))) | (refine AI ?_;simp[results84,qX,h1,hb,qL,RJ]) | ((first | refine Av ?_ | refine Au ?_);simp[qX,h1,hb,qL,RJ]) | (intro hc;(try simp[qX,h1,hb,qL,RJ]at hc);(try (exfalso;omega))) | (refine⟨?_,?_⟩; · omega) | omega | apply_assumption -exfalso -symm | (exfalso;omega)))
def uH (a:Auto):List Bool:=(List.replicate a.st.toNat false).set 0 true
def UO (a:Auto) (w:List Sym) (k:Nat):List Bool:=(w.take k).foldl (fun S s=>ID a S s) (uH a)
def MZ (a:Auto) (w:List Sym):List Bool:=UO a w w.length
theorem Tf (a:Auto):∀(w:List Sym) (S:List Bool),S.length=a.st.toNat->(w.foldl (fun S s=>ID a S s) S).length=a.st.toNat
 | [],_,h=>h
 | s::w,S,_=>Tf a w _ (rF a S s)
theorem Xl (a:Auto) (w:List Sym) (k:Nat):(UO a w k).length=a.st.toNat:=Tf a _ _ (by simp[uH])
theorem tL {a:Auto} {w:List Sym} {k:Nat} {s:Sym} (h:w[k]? =some s):UO a w (k+1)=ID a (UO a w k) s:=by
 unfold UO;rw[bR0,h,cV0];rfl
theorem tK (a:Auto) (w:List Sym):UO a w 0=uH a:=rfl
theorem ED_ (a:Auto):(List.replicate a.st.toNat [DVal.bool false]).set 0 [.bool true]=(uH a).map RJ:=by
 have:=Rf (List.replicate a.st.toNat false) 0 true;rw[Lh]at this;exact this
def tC (a:Auto) (w:List Sym):Bool:=a.fin.any (bAt (MZ a w))
def Dd_ (a:Auto) (w:List Sym):Bool:=Cf a&&decide (w.length<=64)&&tC a w
def Eu_ (a:Auto) (w:List Sym):Int:=if Cf a then (if w.length<=64 then 0 else 3)else 200
theorem AM_ {l:List Sym} (h:Ef (NT l)):l.length<9223372036854775807:=by
 simp only[Ef,aO0]at h;omega
def Dg : Ann:=⟨[],[⟨6,[19],[],[]⟩,⟨9,[8],[],[]⟩]⟩
theorem aK (a:Auto) (w:List Sym):Ag prog 36 [.agg (Bj a),NT w] (.tup [.bool (Dd_ a w),.int .i64 (Eu_ a w)]):=by
 refine Ad [] Dg func36 call36 ntmps36 mxd (Az @Dg.eq_1 results36) rfl (fun qJ B qX qQ=> ?_);have dH:=AM_ qJ.2.1;clear qJ;simp only[Ap];have c1:=Jr a;unfold Dd_ Eu_;cases qO:Cf a
 ·rw[qO]at c1;simp only[Bj]at c1
  (repeat (first | refine AC fun K hK=> ?_ | (refine BL Dg mxd (by kernel_rfl) ?_;simp[Dg,qX,Bj];try simp (disch:=omega) only[Ai]) | refine Am ?_ | (refine AX ?_ ?_ ?_;(· (simp[qX,Bj];done));(try (rotate_left;(· (intro hc;(try simp[qX,Bj]at hc);done))))) | (refine AI ?_;simp[results36,qX,Bj]) | ((first | refine Av ?_ | refine Au ?_);simp[qX,Bj]) | (intro hc;(try simp[qX,Bj]at hc);(try (exfalso;omega))) | ((first | refine Af (c1) ?_ | (refine Ae (c1) ?_ ?_;(· (simp;done))));try simp[qX,Bj]) | (refine⟨?_,?_⟩; · omega) | omega | apply_assumption -exfalso -symm | (exfalso;omega)))
 by_cases qY:w.length<=64
 ·obtain⟨nX,jX⟩:=An_ qO;have kA:0<=a.st:=by omega
  have kL:a.st<=150000000000000:=by omega
  have zV:a.st<=9223372036854775807:=by omega
  have fU:0<a.st:=by omega
  have fY:0<a.st.toNat:=by omega
  have wN:¬(64:Int)<(w.length:Int):=by omega
  rw[qO]at c1;simp only[Bj]at c1
  have c2:Ag prog 83 [Fu a.fin,.fn (.func 84) [] [.ref [Mc (MZ a w)]]] (.bool (tC a w)):=Lg _ _ _ a.fin _ fun x hx=>by
   obtain⟨h1,h2⟩:=Eg_ qO hx;exact aJ (MZ a w) x h1 (by unfold MZ;rw[Xl];omega)
  (repeat (first | refine AC fun K hK=> ?_ | (refine BL Dg mxd (by kernel_rfl) ?_;simp[Dg,qX,Bj,kA,kL,zV,fU,fY,qY,wN,Dn];try simp (disch:=omega) only[Ai]) | refine Am ?_ | (refine AX ?_ ?_ ?_;(· (simp[qX,Bj,kA,kL,zV,fU,fY,qY,wN,Dn];done));(try (rotate_left;(· (intro hc;(try simp[qX,Bj,kA,kL,zV,fU,fY,qY,wN,Dn]at hc);done))))) | (refine AI ?_;simp[results36,qX,Bj,kA,kL,zV,fU,fY,qY,wN,Dn]) | ((first | refine Av ?_ | refine Au ?_);simp[qX,Bj,kA,kL,zV,fU,fY,qY,wN,Dn]) | (intro hc;(try simp[qX,Bj,kA,kL,zV,fU,fY,qY,wN,Dn]at hc);(try (exfalso;omega))) | ((first | refine Af (c1) ?_ | (refine Ae (c1) ?_ ?_;(· (simp;done))));try simp[qX,Bj,kA,kL,zV,fU,fY,qY,wN,Dn]) | (refine⟨?_,?_⟩; · omega) | omega | apply_assumption -exfalso -symm | (exfalso;omega)))
  refine An (X:={k:Nat//k<=w.length}) (fun k=>⟨[(2,.ref [.int .i64 a.st,Fu a.fin,Ga a.arcs]),(6,.bx 6 1 0),(22,NT w),(23,.int .i64 w.length),(24,.int .i64 k.1)],[⟨6,1,.box [Mc (UO a w k.1)]⟩]⟩) (fun k=>w.length-k.1) ⟨0,by simp⟩ (Sub.lit (by simp[tK,ED_])) ?_;rintro⟨k,hk⟩;simp only
  by_cases qV:k<w.length
  ·obtain⟨s,hs,yM,_⟩:=Ar qV;have c3:=VP a (UO a w k) s qO (Xl a w k);have wM:=tL (a:=a) hs;rw[<-wM]at c3;simp only[Bj,AR]at c3
   (repeat (first | refine AC fun K hK=> ?_ | (refine BL Dg mxd (by kernel_rfl) ?_;simp[Dg,qX,AR,qV,yM,hs];try simp (disch:=omega) only[Ai]) | refine Am ?_ | (refine AX ?_ ?_ ?_;(· (simp[qX,AR,qV,yM,hs];done));(try (rotate_left;(· (intro hc;(try simp[qX,AR,qV,yM,hs]at hc);done))))) | (refine AI ?_;simp[results36,qX,AR,qV,yM,hs]) | ((first | refine Av ?_ | refine Au ?_);simp[qX,AR,qV,yM,hs]) | (intro hc;(try simp[qX,AR,qV,yM,hs]at hc);(try (exfalso;omega))) | ((first | refine Af (c3) ?_ | (refine Ae (c3) ?_ ?_;(· (simp;done))));try simp[qX,AR,qV,yM,hs]) | (refine⟨?_,?_⟩; · omega) | omega | apply_assumption -exfalso -symm | (exfalso;omega)))
   refine Ak.mk ⟨k+1,by omega⟩ (Sub.lit (by simp)) (by simp;omega)
   (repeat (first | refine AC fun K hK=> ?_ | (refine BL Dg mxd (by kernel_rfl) ?_;simp[Dg,qX];try simp (disch:=omega) only[Ai]) | refine Am ?_ | (refine AX ?_ ?_ ?_;(· (simp[qX];done));(try (rotate_left;(· (intro hc;(try simp[qX]at hc);done))))) | (refine AI ?_;simp[results36,qX]) | ((first | refine Av ?_ | refine Au ?_);simp[qX]) | (intro hc;(try simp[qX]at hc);(try (exfalso;omega))) | ((first | refine Af (c3) ?_ | (refine Ae (c3) ?_ ?_;(· (simp;done))));try simp[qX]) | (refine⟨?_,?_⟩; · omega) | omega | apply_assumption -exfalso -symm | (exfalso;omega)))
  ·have qN:k=w.length:=by omega
   subst qN;refine GL (Sub.freezeL [6] _) ?_;simp
   (repeat (first | refine AC fun K hK=> ?_ | (refine BL Dg mxd (by kernel_rfl) ?_;simp[Dg,qX,qY,MZ];try simp (disch:=omega) only[Ai]) | refine Am ?_ | (refine AX ?_ ?_ ?_;(· (simp[qX,qY,MZ];done));(try (rotate_left;(· (intro hc;(try simp[qX,qY,MZ]at hc);done))))) | (refine AI ?_;simp[results36,qX,qY,MZ]) | ((first | refine Av ?_ | refine Au ?_);simp[qX,qY,MZ]) | (intro hc;(try simp[qX,qY,MZ]at hc);(try (exfalso;omega))) | ((first | refine Af (c2) ?_ | (refine Ae (c2) ?_ ?_;(· (simp;done))));try simp[qX,qY,MZ]) | (refine⟨?_,?_⟩; · omega) | omega | apply_assumption -exfalso -symm | (exfalso;omega)))
 ·rw[qO]at c1;simp only[Bj]at c1;have wN:(64:Int)<(w.length:Int):=by omega
  (repeat (first | refine AC fun K hK=> ?_ | (refine BL Dg mxd (by kernel_rfl) ?_;simp[Dg,qX,Bj,qY,wN];try simp (disch:=omega) only[Ai]) | refine Am ?_ | (refine AX ?_ ?_ ?_;(· (simp[qX,Bj,qY,wN];done));(try (rotate_left;(· (intro hc;(try simp[qX,Bj,qY,wN]at hc);done))))) | (refine AI ?_;simp[results36,qX,Bj,qY,wN]) | ((first | refine Av ?_ | refine Au ?_);simp[qX,Bj,qY,wN]) | (intro hc;(try simp[qX,Bj,qY,wN]at hc);(try (exfalso;omega))) | ((first | refine Af (c1) ?_ | (refine Ae (c1) ?_ ?_;(· (simp;done))));try simp[qX,Bj,qY,wN]) | (refine⟨?_,?_⟩; · omega) | omega | apply_assumption -exfalso -symm | (exfalso;omega)))
end Go.Proofs.Wy
end
section
namespace Go.Proofs.Wy
open Go Go.Dm Tryz
variable [DMode]
def YV (A:List Arc):Nat->List Sym->Nat->Prop
 | p,[],q=>p=q
 | p,s::w,q=>∃x∈A,x.fr.toNat=p/\x.sy=s/\YV A x.to.toNat w q
theorem Up {l:List Bool} {q:Int}:bAt l q=true↔Gi l q.toNat:=by
 unfold bAt Gi
 cases l[q.toNat]? with
 | none=>simp
 | some b=>simp
theorem Uo {l:List Bool} {i j:Nat} (h:i<l.length):Gi (l.set i true) j↔i=j\/Gi l j:=by
 unfold Gi;rw[List.getElem?_set]
 by_cases zO:i=j
 ·subst zO;simp[h]
 ·simp[zO]
theorem Xq (fr:List Bool) (s:Sym) (q:Nat):∀(l:List Arc) (to:List Bool),(∀x∈l,x.to.toNat<to.length)->(Gi (l.foldl (stepG fr s) to) q↔Gi to q\/∃x∈l,Gi fr x.fr.toNat/\x.sy=s/\x.to.toNat=q)
 | [],to,_=>by simp
 | x::l,to,h=>by
  rw[cH0,Xq fr s q l _ fun y hy=>by rw[Sz];exact h y (aI0 _ hy)]
  have h1:Gi (stepG fr s to x) q↔Gi to q\/(Gi fr x.fr.toNat/\x.sy=s/\x.to.toNat=q):=by
   unfold stepG
   by_cases hc:bAt fr x.fr=true/\x.sy=s
   ·rw[if_pos (by simp[hc.1,hc.2]),Uo (h x aK0)];have:=Up.1 hc.1
    constructor
    ·rintro (h | h)
     ·exact .inr ⟨this,hc.2,h⟩
     ·exact .inl h
    ·rintro (h | h)
     ·exact .inr h
     ·exact .inl h.2.2
   ·rw[if_neg (by simpa using hc)]
    constructor
    ·exact .inl
    ·rintro (h | h)
     ·exact h
     ·exact absurd ⟨Up.2 h.1,h.2.1⟩ hc
  rw[h1];simp only[aL0,exists_eq_or_imp,or_assoc]
theorem VO {a:Auto} (qO:Cf a=true) (fr:List Bool) (s:Sym) (q:Nat):Gi (ID a fr s) q↔∃x∈a.arcs,Gi fr x.fr.toNat/\x.sy=s/\x.to.toNat=q:=by
 unfold ID;rw[Xq fr s q a.arcs _ fun x hx=>by have:=Ao_ qO hx;rw[dO0];omega]
 constructor
 ·rintro (h | h)
  ·unfold Gi at h;rw[dG0]at h
   split at h<;>simp at h
  ·exact h
 ·exact .inr
theorem Xr {a:Auto} (qO:Cf a=true) (q:Nat):∀(w:List Sym) (S:List Bool),Gi (w.foldl (fun S s=>ID a S s) S) q↔∃p,Gi S p/\YV a.arcs p w q
 | [],S=>by simp[YV]
 | s::w,S=>by
  rw[cH0,Xr qO q w]
  constructor
  ·rintro⟨p,h1,h2⟩;obtain⟨x,h3,h4,h5,h6⟩:=(VO qO S s p).1 h1;exact⟨_,h4,x,h3,rfl,h5,by rw[h6];exact h2⟩
  ·rintro⟨p,h1,x,h2,h3,h4,h5⟩;exact⟨_,(VO qO S s _).2 ⟨x,h2,by rw[h3];exact h1,h4,rfl⟩,h5⟩
theorem Dx_ {a:Auto} (h:1<=a.st) (p:Nat):Gi (uH a) p↔p=0:=by
 unfold uH;rw[Uo (by rw[dO0];omega)]
 constructor
 ·rintro (h | h)
  ·exact h.symm
  ·unfold Gi at h;rw[dG0]at h
   split at h<;>simp at h
 ·exact fun h=> .inl h.symm
theorem Bb_ {a:Auto} (qO:Cf a=true) (w:List Sym):tC a w=true↔∃f∈a.fin,YV a.arcs 0 w f.toNat:=by
 unfold tC;rw[cF0];have qR:=An_ qO
 have:∀f:Int,bAt (MZ a w) f=true↔YV a.arcs 0 w f.toNat:=by
  intro f;rw[Up];unfold MZ UO;rw[aT0,Xr qO];simp only[Dx_ qR.1]
  constructor
  ·rintro⟨p,rfl,h⟩;exact h
  ·intro h;exact⟨0,rfl,h⟩
 simp only[this]
def Kp (ah:Nat) (ts:List RT):Prt:=⟨Fi ts,NN ah ts,RI ah ts,RF ah ts⟩
theorem ZA (ah:Nat) (t:RT) (ts:List RT):Kp ah (t::ts)=Kr (PW (GG (flat t) ah) (Ed t 0)) (Kp (ah+(Cz (flat t)).length) ts):=by
 unfold Kp Kr PW Ed;simp only[Prt.mk.injEq];exact⟨by rw[Fi],by rw[NN],by rw[RI],by rw[RF];rfl⟩
theorem UG : ∀(ts:List RT) (ah:Nat),∀q∈RI ah ts,ah+1<=q/\q<ah+(BW ts).length+1
 | [],ah,q,h=>by simp[RI]at h
 | t::ts,ah,q,h=>by
  have hl:(BW (t::ts)).length=(Cz (flat t)).length+(BW ts).length:=by simp[BW]
  rw[RI,aC0]at h
  rcases h with h | h
  ·obtain⟨p,hp,rfl⟩:=aQ0.1 h;have hd:(flat t).drop 0=flat t++[]:=by simp
   have h1:=MO (ah:=ah) hd (cW0 p) (IZ t 0 p hp);rw[Ei hd,IL]at h1;unfold GG at h1 |-;omega
  ·have:=UG ts _ q h;omega
theorem LW : ∀(ts:List RT) (ah:Nat),∀q∈NN ah ts,ah+1<=q/\q<ah+(BW ts).length+1
 | [],ah,q,h=>by simp[NN]at h
 | t::ts,ah,q,h=>by
  have hl:(BW (t::ts)).length=(Cz (flat t)).length+(BW ts).length:=by simp[BW]
  rw[NN,aC0]at h
  rcases h with h | h
  ·obtain⟨p,hp,rfl⟩:=aQ0.1 h;have hd:(flat t).drop 0=flat t++[]:=by simp
   have h1:=MO (ah:=ah) hd (cW0 p) (Hl t 0 p hp);rw[Ei hd,IL]at h1;unfold GG at h1 |-;omega
  ·have:=LW ts _ q h;omega
theorem Ru (ts:List RT) (ah:Nat):PrIn (Kp ah ts) (ah+1) (ah+(BW ts).length+1) where
 F:=LW ts ah
 L:=UG ts ah
 E:=fun p hp=>by
  obtain⟨p,q⟩:=p;have:=JH ts ah p q hp;simp only;omega
theorem Cf_ (t:RT) (ah:Nat):PrIn (PW (GG (flat t) ah) (Ed t 0)) (ah+1) (ah+(Cz (flat t)).length+1):=by
 have h:=Ru [t] ah
 have e:Kp ah [t]={ PW (GG (flat t) ah) (Ed t 0)with e:=Fi [t] }:=by
  unfold Kp PW Ed;simp only[Prt.mk.injEq];exact⟨trivial,by rw[NN,NN,bO0],by rw[RI,RI,bO0],by rw[RF,RF,bO0];rfl⟩
 rw[e]at h;have hl:(BW [t]).length=(Cz (flat t)).length:=by simp[BW]
 rw[hl]at h;exact⟨h.F,h.L,h.E⟩
def Sb (t:RT) (p:Nat):Prop:=∃x,(flat t)[p]? =some x/\(x.k=2\/x.k=3)
theorem CJ_ {t:RT} {ah p q:Nat} (hp:Sb t p) (hq:Sb t q) (h:GG (flat t) ah p=GG (flat t) ah q):p=q:=by
 obtain⟨x,hx,hxk⟩:=hp;obtain⟨y,hy,hyk⟩:=hq;unfold GG at h
 rcases Nat.lt_trichotomy p q with h1 | h1 | h1
 ·have:=PG hx (Cm.2 hxk) h1;omega
 ·exact h1
 ·have:=PG hy (Cm.2 hyk) h1;omega
theorem DE_ (t:RT) (ah:Nat) (qs:List Nat):Nx (PW (GG (flat t) ah) (Ed t 0)) qs↔∃ps,qs=ps.map (GG (flat t) ah)/\Nx (Ed t 0) ps:=by
 refine DF_ (S:=Sb t) (fun a b ha hb h=>CJ_ ha hb h) ?_ ?_ ?_ qs
 ·rintro⟨p,q⟩ h;have:=Jy t 0 p q h;simpa[Sb]using this
 ·intro p h;have:=Hl t 0 p h;simpa[Sb]using this
 ·intro p h;have:=IZ t 0 p h;simpa[Sb]using this
theorem Vn : ∀(ts:List RT) (ah:Nat) (qs:List Nat),Nx (Kp ah ts) qs↔∃k t,ts[k]? =some t/\∃ps,qs=ps.map (GG (flat t) (ah+(BW (ts.take k)).length))/\Nx (Ed t 0) ps
 | [],ah,qs=>by
  constructor
  ·rintro (⟨_,h⟩ | ⟨p,r,rfl,h,_⟩)
   ·simp[Kp,Fi]at h
   ·simp[Kp,NN]at h
  ·rintro⟨k,t,h,_⟩;simp at h
 | t::ts,ah,qs=>by
  have h1:=Cf_ t ah;have h2:=Ru ts (ah+(Cz (flat t)).length);rw[ZA,oY h1 h2,DE_,Vn ts]
  constructor
  ·rintro (⟨ps,h3,h4⟩ | ⟨k,u,h3,ps,h4,h5⟩)
   ·exact⟨0,t,rfl,ps,by simpa[BW]using h3,h4⟩
   ·exact⟨k+1,u,by simpa using h3,ps,by rw[h4];simp[BW,cE0],h5⟩
  ·rintro⟨k,u,h3,ps,h4,h5⟩
   cases k with
   | zero=>simp at h3;subst h3;exact .inl ⟨ps,by simpa[BW]using h4,h5⟩
   | succ k=>exact .inr ⟨k,u,by simpa using h3,ps,by rw[h4];simp[BW,cE0],h5⟩
def syN (sy:Nd->Sym) (ts:List RT) (q:Nat):Sym:=(OK sy ts).getD (q-1) ⟨false,0⟩
theorem Pe {sy:Nd->Sym} {ts:List RT}:∀(w:List Sym) (p q:Nat),1<=p->(YV (Mo sy ts) p w q↔∃r,OH (RF 0 ts) p r/\w=r.map (syN sy ts)/\q=RZ p r)
 | [],p,q,hp=>by
  constructor
  ·rintro rfl;exact⟨[],trivial,rfl,rfl⟩
  ·rintro⟨r,h1,h2,h3⟩
   cases r with
   | nil=>exact h3.symm
   | cons a r=>simp at h2
 | s::w,p,q,hp=>by
  constructor
  ·rintro⟨x,h1,h2,h3,h4⟩;obtain⟨p',q',h5,rfl⟩:=Jw.1 h1;simp only[Ri,cB0]at h2 h3 h4;subst h2
   have h6:(p',q')∈RF 0 ts:=by
    rcases h5 with h5 | ⟨h5,_⟩
    ·exact h5
    ·omega
   obtain⟨r,h7,h8,h9⟩:=(Pe w q' q (by have:=JH ts 0 _ _ h6;omega)).1 h4;exact⟨q'::r,⟨h6,h7⟩,by rw[List.map_cons,<-h8,<-h3];rfl,h9⟩
  ·rintro⟨r,h1,h2,h3⟩
   cases r with
   | nil=>simp at h2
   | cons q' r =>
    rw[List.map_cons,bF0]at h2;have h6:=h1.1
    exact⟨_,Jw.2 ⟨p,q',.inl h6,rfl⟩,by simp[Ri],by rw[h2.1];rfl,by
     simp only[Ri,cB0]
     exact(Pe w q' q (by have:=JH ts 0 _ _ h6;omega)).2 ⟨r,h1.2,h2.2,h3⟩⟩
theorem XO {sy:Nd->Sym} {ts:List RT} (w:List Sym) (q:Nat):YV (Mo sy ts) 0 w q↔(w=[]/\q=0)\/∃p r,p∈NN 0 ts/\OH (RF 0 ts) p r/\w=(p::r).map (syN sy ts)/\q=RZ p r:=by
 cases w with
 | nil =>
  constructor
  ·rintro rfl;exact .inl ⟨rfl,rfl⟩
  ·rintro (⟨_,rfl⟩ | ⟨p,r,_,_,h,_⟩)
   ·rfl
   ·simp at h
 | cons s w =>
  constructor
  ·rintro⟨x,h1,h2,h3,h4⟩;obtain⟨p',q',h5,rfl⟩:=Jw.1 h1;simp only[Ri,cB0]at h2 h3 h4;subst h2
   have h6:q'∈NN 0 ts:=by
    rcases h5 with h5 | ⟨_,h5⟩
    ·have:=JH ts 0 _ _ h5;omega
    ·exact h5
   obtain⟨r,h7,h8,h9⟩:=(Pe w q' q (QF ts q' h6).1).1 h4;exact .inr ⟨q',r,h6,h7,by rw[List.map_cons,<-h8,<-h3];rfl,h9⟩
  ·rintro (⟨h,_⟩ | ⟨p,r,h1,h2,h3,h4⟩)
   ·simp at h
   ·rw[List.map_cons,bF0]at h3
    exact⟨_,Jw.2 ⟨0,p,.inr ⟨rfl,h1⟩,rfl⟩,by simp[Ri],by rw[h3.1];rfl,by
     simp only[Ri,cB0]
     exact(Pe w p q (QF ts p h1).1).2 ⟨r,h2,h3.2,h4⟩⟩
theorem LV {ts:List RT} (qO:∀t∈ts,DR t=true) (f:Int):f∈Jm ts↔(f=0/\Fi ts=true)\/∃l∈RI 0 ts,f=(l:Int):=by
 unfold Jm;rw[aC0,aQ0];have hp:=QD ts 0 qO
 constructor
 ·rintro (h | ⟨l,h,rfl⟩)
  ·split at h
   ·rename_i he;simp at h;exact .inl ⟨h,he⟩
   ·cases h
  ·exact .inr ⟨l,hp.mem_iff.2 h,rfl⟩
 ·rintro (⟨rfl,h⟩ | ⟨l,h,rfl⟩)
  ·left;rw[if_pos h];simp
  ·exact .inr ⟨l,hp.mem_iff.1 h,rfl⟩
theorem Ds_ {sy:Nd->Sym} {ts:List RT} (qO:∀t∈ts,DR t=true) (ha:Cf (Oy sy ts)=true) (w:List Sym):tC (Oy sy ts) w=true↔∃qs,Nx (Kp 0 ts) qs/\w=qs.map (syN sy ts):=by
 rw[Bb_ ha]
 show (∃f∈Jm ts,YV (Mo sy ts) 0 w f.toNat)↔_
 constructor
 ·rintro⟨f,hf,hp⟩
  rcases (XO w _).1 hp with ⟨rfl,h1⟩ | ⟨p,r,h1,h2,rfl,h4⟩
  ·refine⟨[],?_,rfl⟩
   rcases (LV qO f).1 hf with ⟨_,h⟩ | ⟨l,h,rfl⟩
   ·exact .inl ⟨rfl,h⟩
   ·have:=UG ts 0 l h;omega
  ·refine⟨p::r,.inr ⟨p,r,rfl,h1,h2,?_⟩,rfl⟩;have fS:=Nw (Ru ts 0) (p:=p) (r:=r) h2 (by have:=LW ts 0 p h1;omega) (LW ts 0 p h1).2
   rcases (LV qO f).1 hf with ⟨rfl,h⟩ | ⟨l,h,rfl⟩
   ·simp at h4;omega
   ·rw[cB0]at h4;rw[<-h4];exact h
 ·rintro⟨qs,(⟨rfl,h⟩ | ⟨p,r,rfl,h1,h2,h3⟩),rfl⟩
  ·exact⟨0,(LV qO 0).2 (.inl ⟨rfl,h⟩),rfl⟩
  ·exact⟨(RZ p r:Nat),(LV qO _).2 (.inr ⟨_,h3,rfl⟩),(XO _ _).2 (.inr ⟨p,r,h1,h2,rfl,cB0 _⟩)⟩
theorem DY_ {sy:Nd->Sym} {ts:List RT} {k:Nat} {t:RT} (hk:ts[k]? =some t) {p:Nat} {x:Nd} (hx:(flat t)[p]? =some x) (ho:x.k=2\/x.k=3):syN sy ts (GG (flat t) (0+(BW (ts.take k)).length) p)=sy x:=by
 have h1:(Cz (flat t))[HH (flat t) p]? =some x:=Er_ hx (Cm.2 ho)
 have h2:(BW ts)[(BW (ts.take k)).length+HH (flat t) p]? =some x:=by
  obtain⟨qV,zH⟩:=aF0.1 hk;have h3:ts=ts.take k++t::ts.drop (k+1):=by rw[<-zH,<-aU0 qV,List.take_append_drop]
  have h4:BW ts=BW (ts.take k)++(Cz (flat t)++BW (ts.drop (k+1))):=by
   have:=congrArg BW h3;rw[this];unfold BW;rw[List.flatMap_append,dJ0]
  rw[h4,bD0 (by omega),eN0,bC0 (aF0.1 h1).1];exact h1
 unfold syN GG;rw[show 0+(BW (ts.take k)).length+HH (flat t) p+1-1=(BW (ts.take k)).length+HH (flat t) p by omega,bA0];unfold OK;rw[bH0,h2];rfl
theorem uG {sy:Nd->Sym} {ts:List RT} (qO:∀t∈ts,DR t=true) (ha:Cf (Oy sy ts)=true) (w:List Sym):tC (Oy sy ts) w=true↔∃t∈ts,EC (fun _ x=>sy x) t 0 w:=by
 rw[Ds_ qO ha]
 have nN:∀k t,ts[k]? =some t->∀w,EC (fun _ x=>sy x) t 0 w↔∃ps,EC lfP t 0 ps/\w=ps.map (fun p=>syN sy ts (GG (flat t) (0+(BW (ts.take k)).length) p)):=by
  intro k t hk w;refine Ie t 0 0 ?_ w;intro i x hi hx;simp only[bN0];have:=DY_ (sy:=sy) hk hi hx;rw[bN0]at this;exact this.symm
 constructor
 ·rintro⟨qs,h1,rfl⟩;obtain⟨k,t,h2,ps,rfl,h3⟩:=(Vn ts 0 qs).1 h1;have hm:=bJ0 h2;refine⟨t,hm,(nN k t h2 _).2 ⟨ps,((oZ t (qO t hm) 0).2 ps).1 h3,by rw[cA0];rfl⟩⟩
 ·rintro⟨t,hm,h1⟩;obtain⟨k,h2⟩:=List.mem_iff_getElem?.1 hm;obtain⟨ps,h3,rfl⟩:=(nN k t h2 w).1 h1;refine⟨ps.map (GG (flat t) (0+(BW (ts.take k)).length)),(Vn ts 0 _).2 ⟨k,t,h2,ps,rfl,((oZ t (qO t hm) 0).2 ps).2 h3⟩,by rw[cA0];rfl⟩
abbrev Blk := List Nat
def okB (b:Blk):Prop:=b.length=64/\∀x∈b,x<2 ^ 64
structure Qd where
 ps:List Nat
 lv:List Blk
 cnt:Nat
structure QdI (q:Qd):Prop where
 p4:q.ps.length=4
 lo:∀p∈q.ps,p<=q.lv.length
 inj:∀i j:Nat,i<4->j<4->q.ps.getD i 0=q.ps.getD j 0->q.ps.getD i 0≠0->i=j
 ok:∀b∈q.lv,okB b
def w64 (x:Nat):DVal:= .int .u64 (x:Int)
def dB (b:Blk):List DVal:=b.map w64
end Go.Proofs.Wy
end
section
namespace Go.Proofs.Wy
open Go Go.Dm Tryz
attribute [local irreducible] DW Bh Bk
set_option maxRecDepth 100000
@[simp] theorem GG_ (b:Blk):(dB b).length=b.length:=by simp[dB]
@[simp] theorem Gu_ {d:DVal} {b:Blk}:d∈dB b↔∃y,y∈b/\DVal.int .u64 (y:Int)=d:=by
 simp only[dB,aQ0];rfl
@[simp] theorem Ft_ (b:Blk):AJ (dB b)=0:=by
 unfold dB
 induction b with
 | nil=>rfl
 | cons x b ih=>rw[List.map_cons,AJ,ih];rfl
@[simp] theorem FP_ (f:Nat->Nat->Option (Nat×Nat)) (b:Blk):(dB b).map (LC f)=dB b:=by
 simp only[dB,cA0];exact bY0 fun x _=>rfl
@[simp] theorem Ga_ (i r:Nat) (o:DObj) (b:Blk):(dB b).map (Xp i r o)=dB b:=by
 simp only[dB,cA0];exact bY0 fun x _=>rfl
@[simp] theorem FQ_ (b:Blk):Oj (dB b):=by
 unfold dB
 induction b with
 | nil=>trivial
 | cons x b ih=>exact⟨rfl,ih⟩
@[simp] theorem Gg_ (b:Blk):wkL (dB b) (dB b):=by
 generalize dB b=l
 induction l with
 | nil=>trivial
 | cons d l ih=>exact⟨.inl rfl,ih⟩


def dP (l:List Nat):List DVal:=l.map fun(x:Nat)=> .int .i64 (x:Int)
@[simp] theorem GE_ (b:List Nat):(dP b).length=b.length:=by simp[dP]
@[simp] theorem Gt_ {d:DVal} {b:List Nat}:d∈dP b↔∃y,y∈b/\DVal.int .i64 (y:Int)=d:=by simp[dP]
@[simp] theorem GN_ (b:List Nat):AJ (dP b)=0:=by
 unfold dP
 induction b with
 | nil=>rfl
 | cons x b ih=>rw[List.map_cons,AJ,ih];rfl
@[simp] theorem FO_ (f:Nat->Nat->Option (Nat×Nat)) (b:List Nat):(dP b).map (LC f)=dP b:=by
 simp only[dP,cA0];exact bY0 fun x _=>rfl
@[simp] theorem Gs_ (l:List Blk):Bq (l.map dB)=0:=HM _ Ft_ l


end Go.Proofs.Wy
end
section
namespace Go.Proofs.Wy
open Go Go.Dm Tryz
variable [DMode]
attribute [local irreducible] DW Bh Bk
set_option maxRecDepth 100000
theorem At.end {l:List Nd} {p:Nat} {t:RT} (h:At l p t):aS l p=(p:Int)+(flat t).length:=by
 obtain⟨qO,zU,r,hr⟩:=h;unfold aS;rw[hr,FG _ _ 0 qO,Cn];have h2:=congrArg List.length hr;rw[bZ0,aE0]at h2;simp only;omega
end Go.Proofs.Wy
end
