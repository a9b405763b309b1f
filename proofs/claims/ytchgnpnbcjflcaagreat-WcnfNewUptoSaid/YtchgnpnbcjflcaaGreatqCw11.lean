/- Parts of a proof, laid together: CF0, EnZ, CF1, W18, W100, WS, W58, W29, CF2, W23, W94, W25, CF3, EnU, PB, PU, W88, W90, W43, WF, W57, W26, W19, W14, W81, W13. -/
import Derived.SizedLaws
import Derived.ProofKit
import Derived.OpenShut
import Derived.Carry
import Derived.Test.YtchgnpnbcjflcaaGreatRows
import Derived.Test.YtchgnpnbcjflcaaGreatqCw4
import Derived.Test.YtchgnpnbcjflcaaGreatqCw5
import Derived.Test.YtchgnpnbcjflcaaGreatqCw6
import Derived.Test.YtchgnpnbcjflcaaGreatqCw10
set_option linter.unusedSimpArgs false
set_option linter.unusedVariables false
set_option linter.unusedSectionVars false
section
namespace Go.Proofs.YtchgnpnbcjflcaaGreat
open Go Go.Dm
variable [DMode]
def cntN (xs:List Auto) (q:Nat):Nat:=((List.range q).filter fun p=>decide (¬p∈stL xs)).length
theorem Sb_ (xs:List Auto):cntN xs 0=0:=rfl
theorem Sc_ (xs:List Auto) (q:Nat):cntN xs (q+1)=cntN xs q+(if q∈stL xs then 0 else 1):=by
 unfold cntN
 rw[dX0,cY0,aD0]
 by_cases h:q∈stL xs<;>simp[h]
theorem TC_ (xs:List Auto) (q:Nat):cntN xs q≤q:=by
 unfold cntN
 have:=cH0 (fun p=>decide (¬p∈stL xs)) (List.range q)
 rw[eM0]at this
 exact this
def ownQ (xs:List Auto) (q:Nat):Nat:=if q∈stL xs then (ntL xs).getD q 0 else xs.length+cntN xs q
def ownR (xs:List Auto) (k:Nat):List Nat:=(List.range k).map (ownQ xs)++List.replicate (sumS xs-k) 0
theorem UD_ (xs:List Auto) {k:Nat} (h:k≤sumS xs):(ownR xs k).length=sumS xs:=by
 unfold ownR
 rw[aD0,aL0,eM0,cX0]
 omega
theorem ownR_set (xs:List Auto) {k:Nat} (h:k<sumS xs):(ownR xs k).set k (ownQ xs k)=ownR xs (k+1):=by
 unfold ownR
 rw[List.set_append,if_neg (by simp),aL0,eM0,dS0,show sumS xs-k=(sumS xs-(k+1))+1 by omega,List.replicate_succ,eH0,dX0,aY0,aU0]
 rfl
theorem ownR_at (xs:List Auto) {q:Nat} (h:q<sumS xs):(ownR xs (sumS xs))[q]? =some (ownQ xs q):=by
 unfold ownR
 rw[dS0,List.replicate_zero,bK0,bI0,eT0 h]
 rfl
theorem st_nt : ∀(xs:List Auto) (f b j q:Nat),(∀a∈xs,1≤a.st)→((parA f xs).map (·.2))[j]? =some q→f≤q∧((xs.zipIdx b).flatMap fun p=>List.replicate p.1.st.toNat p.2)[q-f]? =some (b+j)
 | [],f,b,j,q,_,h=>by simp[parA]at h
 | a::xs,f,b,0,q,hst,h=>by
  have h4:=hst a aI0
  rw[parA]at h
  simp at h
  subst h
  rw[fE0,cK0,dS0]
  refine⟨Nat.le_refl _,?_⟩
  rw[bA0 (by rw[cX0];simp only;omega),eI0,if_pos (by simp only;omega)]
  rfl
 | a::xs,f,b,j+1,q,hst,h=>by
  have h4:=hst a aI0
  rw[parA,List.map_cons,bJ0]at h
  obtain⟨h1,h2⟩:=st_nt xs (f+a.st.toNat) (b+1) j q (fun x hx=>hst x (aF0 _ hx)) h
  rw[fE0,cK0]
  refine⟨by omega,?_⟩
  rw[bB0 (by rw[cX0];simp only;omega),cX0]
  simp only
  rw[fA0,h2]
  congr 1
  omega
theorem start_iff {xs:List Auto} (hst:∀a∈xs,1≤a.st) {q k:Nat} (hk:(ntL xs)[q]? =some k):atI (stL xs) k=q↔q∈stL xs:=by
 constructor
 ·intro h
  cases hx:(stL xs)[k]? with
  | none =>
   rw[Mv_ (by have:=List.getElem?_eq_none_iff.1 hx;omega)]at h
   omega
  | some x =>
   rw[Sm_ hx]at h
   have:x=q:=by omega
   rw[←this]
   exact bM0 hx
 ·intro h
  obtain⟨j,hj,he⟩:=bN0 h
  have hj2:(stL xs)[j]? =some q:=by rw[aH0 hj,he]
  have h1:=(st_nt xs 0 0 j q hst hj2).2
  rw[eE0,bS0]at h1
  have h2:(ntL xs)[q]? =some j:=h1
  rw[hk]at h2
  simp only[aA0]at h2
  subst h2
  exact Sm_ hj2
theorem nt_le : ∀(xs:List Auto) (b:Nat),∀k∈(xs.zipIdx b).flatMap (fun p=>List.replicate p.1.st.toNat p.2),k<b+xs.length
 | [],b,k,h=>by simp at h
 | a::xs,b,k,h=>by
  rw[fE0,cK0,aJ0]at h
  rw[List.length_cons]
  rcases h with h | h
  ·have:=List.eq_of_mem_replicate h;simp only at this;omega
  ·have:=nt_le xs (b+1) k h;omega
theorem nt_lt {xs:List Auto} {q k:Nat} (h:(ntL xs)[q]? =some k):k<xs.length:=by
 have:=nt_le xs 0 k (bM0 h)
 omega
theorem ownQ_in {xs:List Auto} {q k:Nat} (h:q∈stL xs) (hk:(ntL xs)[q]? =some k):ownQ xs q=k:=by
 unfold ownQ
 rw[if_pos h,bG0,hk]
 rfl
theorem UE_ {xs:List Auto} {q:Nat} (h:¬q∈stL xs):ownQ xs q=xs.length+cntN xs q:=by unfold ownQ;rw[if_neg h]
theorem OB_ : ∀{xs:List Auto} {f:Nat} {p:Auto×Nat},p∈parA f xs→p.2+p.1.st.toNat≤f+sumS xs
 | [],_,_,h=>by simp[parA]at h
 | a::xs,f,p,h=>by
  have h3:sumS (a::xs)=a.st.toNat+sumS xs:=by simp[sumS]
  rw[parA]at h
  rcases aK0.1 h with rfl | h
  ·simp only;omega
  ·have:=OB_ h;omega
def pF (xs:List Auto) (q:Int):Prod:=⟨(ownQ xs q.toNat:Int),[]⟩
def pA (xs:List Auto) (x:Arc):Prod:=⟨(ownQ xs x.fr.toNat:Int),[x.sy,⟨false,(ownQ xs x.to.toNat:Int)⟩]⟩
def cnfM (xs:List Auto):Cnf:=⟨((xs.length+cntN xs (sumS xs):Nat):Int),(finA xs).map (pF xs)++(arcA xs).map (pA xs)⟩
end Go.Proofs.YtchgnpnbcjflcaaGreat
end
section
namespace Go.Dm
variable [DMode]
theorem wkA_len : ∀{a b:List DVal},wkA a b→a.length=b.length
 | [],[],_=>rfl
 | [],_::_,h=>h.elim
 | _::_,[],h=>h.elim
 | _::a,_::b,h=>by simp[wkA_len h.2]
def Ew_ : List (List DVal)→List (List DVal)→Prop
 | [],[]=>True
 | a::r,b::t=>wkA a b∧Ew_ r t
 | _,_=>False
theorem La_ : ∀(a:List (List DVal)),Ew_ a a
 | []=>trivial
 | d::a=>⟨Kl_ d,La_ a⟩
theorem Ng_ : ∀{a a' b b':List (List DVal)},Ew_ a a'→Ew_ b b'→Ew_ (a++b) (a'++b')
 | [],[],_,_,_,h=>h
 | [],_::_,_,_,h,_=>h.elim
 | _::_,[],_,_,h,_=>h.elim
 | _::_,_::_,_,_,h,k=>⟨h.1,Ng_ h.2 k⟩
theorem Nf_ : ∀{a b:List (List DVal)},Ew_ a b→a.length=b.length
 | [],[],_=>rfl
 | [],_::_,h=>h.elim
 | _::_,[],h=>h.elim
 | _::a,_::b,h=>by simp[Nf_ h.2]
theorem rdC_wkA {cur:Cur} {M:List Nat} {h:Array Obj}:∀{a b:List DVal} {arr:Array Value} {o:Nat},wkA a b→rdC cur M h a arr o→rdC cur M h b arr o
 | [],[],_,_,_,hr=>hr
 | [],_::_,_,_,hw,_=>hw.elim
 | _::_,[],_,_,hw,_=>hw.elim
 | d::a,e::b,arr,o,hw,hr=>by
  simp only[rdC]at hr ⊢
  obtain⟨⟨v,h1,h2,h3⟩,h4⟩:=hr
  exact⟨⟨v,h1,h2,rd_wk hw.1 h3⟩,rdC_wkA hw.2 h4⟩
theorem Np_ {cur:Cur} {M:List Nat} {h:Array Obj} {k:Nat}:∀{a b:List (List DVal)} {arr:Array Value} {o:Nat},Ew_ a b→rdR cur M h k a arr o→rdR cur M h k b arr o
 | [],[],_,_,_,hr=>hr
 | [],_::_,_,_,hw,_=>hw.elim
 | _::_,[],_,_,hw,_=>hw.elim
 | d::a,e::b,arr,o,hw,hr=>by
  simp only[rdR]at hr ⊢
  obtain⟨h1,h2,h3⟩:=hr
  exact⟨by rw[←h1,wkA_len hw.1],rdC_wkA hw.1 h2,Np_ hw.2 h3⟩
def putR (es':List (List DVal)):DObj→DObj
 | .row et k bs _=> .row et k bs es'
 | o=>o
def rowE (id:Nat) (es':List (List DVal)):List Ent→List Ent
 | []=>[]
 | e::t=>(if e.id=id then ⟨e.id,e.r,putR es' e.obj⟩else e)::rowE id es' t
attribute [simp] putR rowE
theorem Un_ (id:Nat) (es':List (List DVal)):∀own:List Ent,(rowE id es' own).map (·.id)=own.map (·.id)
 | []=>rfl
 | e::t=>by simp only[rowE,List.map_cons,Un_ id es' t];split<;>rfl
theorem Df_ (id:Nat) (es':List (List DVal)) (loc:Nat→Loc):∀own:List Ent,Ai_ (rowE id es' own) loc=Ai_ own loc
 | []=>rfl
 | e::t=>by
  have:=Df_ id es' loc t
  simp only[Ai_,rowE,cK0]at this ⊢
  rw[this];split<;>rfl
theorem It_ {id:Nat} {es':List (List DVal)}:∀{own:List Ent} {x:Ent},x∈rowE id es' own→∃e∈own,e.id=x.id∧e.r=x.r∧((e.id≠id∧x=e)∨(e.id=id∧x.obj=putR es' e.obj))
 | [],_,h=>by simp[rowE]at h
 | e::t,x,h=>by
  simp only[rowE,aK0]at h
  rcases h with h | h
  ·refine⟨e,aI0,?_⟩
   split at h
   ·rename_i he;subst h;exact⟨rfl,rfl,.inr ⟨he,rfl⟩⟩
   ·rename_i he;subst h;exact⟨rfl,rfl,.inl ⟨he,rfl⟩⟩
  ·obtain⟨e',h1,h2⟩:=It_ h
   exact⟨e',aF0 _ h1,h2⟩
theorem Om_ (id:Nat) (es':List (List DVal)) (loc:Nat→Loc) (own:List Ent):An_ (rowE id es' own) loc=An_ own loc:=by
 funext i r
 have h:∀own:List Ent,(Aw_ (rowE id es' own) i).map (·.r)=(Aw_ own i).map (·.r):=by
  intro own
  induction own with
  | nil=>rfl
  | cons e t ih =>
   simp only[rowE,Aw_]
   by_cases h1:e.id=id
   ·simp only[h1,if_true]
    by_cases h2:id=i
    ·simp[h2]
    ·simp only[h2,if_false];exact ih
   ·simp only[h1,if_false]
    by_cases h2:e.id=i
    ·simp[h2]
    ·simp only[h2,if_false];exact ih
 have h0:=h own
 unfold An_
 cases ha:Aw_ (rowE id es' own) i<;>cases hb:Aw_ own i<;>rw[ha,hb]at h0<;>simp only[eS0,dK0,aA0,reduceCtorEq]at h0 ⊢
 rw[h0]
theorem St.rowWk {own:List Ent} {loc:Nat→Loc} {M:List Nat} {h:Array Obj} (S:St own loc M h) (id:Nat) {et k bs:Nat} {es es':List (List DVal)} {e:Ent} (he:Aw_ own id=some e) (hob:e.obj= .row et k bs es) (hw:Ew_ es es'):St (rowE id es' own) loc M h:=by
 refine⟨by rw[Un_];exact S.nd,by rw[Df_];exact S.bl,by rw[Df_];exact S.ap,by rw[Df_];exact S.lt,?_⟩
 intro x hx
 simp only[Om_,Df_]
 obtain⟨e',h1,h2,h3,h4⟩:=It_ hx
 have hk:=S.ok e' h1
 rcases h4 with ⟨_,rfl⟩ | ⟨h4,h5⟩
 ·exact hk
 ·have hee:e'=e:=by
   have:=BB_ S.nd h1
   rw[h4,he]at this
   simpa using this.symm
  subst hee
  rw[←h2,h5,hob]
  rw[hob]at hk
  simp only[putR]
  obtain⟨k1,k2⟩:=hk
  have hl:=Nf_ hw
  refine⟨by rw[←hl];exact k1,?_⟩
  rcases k2 with ⟨rfl,q2,q3⟩ | ⟨b,arr,cap,q1,q2,q3,q4,q5,q6,q7⟩
  ·refine .inl ⟨?_,q2,q3⟩
   cases es' with
   | nil=>rfl
   | cons x t=>simp at hl
  ·exact .inr ⟨b,arr,cap,q1,by rw[←hl];exact q2,q3,by rw[←hl];exact q4,q5,q6,Np_ hw q7⟩
theorem Sub.rowWk {B:Base} {s:DS} (id:Nat) {et k bs:Nat} {es es':List (List DVal)} {e:Ent} (he:Aw_ s.own id=some e) (hob:e.obj= .row et k bs es) (hw:Ew_ es es'):Sub B s ⟨s.slots,rowE id es' s.own⟩:=by
 intro a w loc R
 refine⟨loc,⟨R.st.rowWk id he hob hw,R.upd,by rw[Df_];exact R.new,?_,?_,R.nt,by rw[Df_];exact R.df⟩⟩
 ·intro x hx
  obtain⟨e',h1,h2,h3,_⟩:=It_ hx
  rw[←h2,←h3]
  exact R.ver e' h1
 ·intro i
  have:=R.sl i
  simp only[Om_,Df_]
  exact this
theorem AU_.rowWk {P:Program} {f:Fn} {args:List DVal} {own own':List Ent} {d:DVal} (h:AU_ P f args own d own') (id:Nat) {et k bs:Nat} {es es':List (List DVal)} {e:Ent} (he:Aw_ own' id=some e) (hob:e.obj= .row et k bs es) (hw:Ew_ es es'):AU_ P f args own d (rowE id es' own'):=by
 obtain⟨h1,h2,h3⟩:=h
 refine⟨fun x hx=> ?_,h2,fun M w loc vs S hr=> ?_⟩
 ·obtain⟨e',g1,g2,g3,_⟩:=It_ hx
  rw[←g3];exact h1 e' g1
 ·have key:∀(R R':Value→World→Prop),(∀v w',R v w'→R' v w')→HC_ P f vs w R→HC_ P f vs w R':=fun R R' hRR hF=>hF.mono hRR
  refine key _ _ ?_ (h3 M w loc vs S hr)
  rintro v w' ⟨loc',k1,k2,k3,k4,k5⟩
  refine⟨loc',k1.rowWk id he hob hw,k2,by rw[Df_];exact k3,?_,by rw[Om_,Df_];exact k5⟩
  intro x hx hr1
  obtain⟨e',g1,g2,g3,_⟩:=It_ hx
  rw[←g2,←g3]
  exact k4 e' g1 (by omega)
theorem DW_rowWk {P:Program} {B:Base} {Q:Exit→DS→Prop} {s:DS} {x:Code} (id:Nat) {et k bs:Nat} {es es':List (List DVal)} {e:Ent} (he:Aw_ s.own id=some e) (hob:e.obj= .row et k bs es) (hw:Ew_ es es') (h:DW P B x Q ⟨s.slots,rowE id es' s.own⟩):DW P B x Q s :=
 EL_ (Sub.rowWk id he hob hw) h
end Go.Dm
end
section
namespace Go.Proofs.YtchgnpnbcjflcaaGreat
open Go Go.Dm
attribute [local irreducible] DW Br_ Bu_
set_option maxRecDepth 100000
theorem Ne_ {α:Type} (f g:α→List DVal) (h:∀x,wkA (f x) (g x)):∀l:List α,Ew_ (l.map f) (l.map g)
 | []=>by simp[Ew_]
 | x::l=>by
  rw[List.map_cons,List.map_cons]
  exact⟨h x,Ne_ f g h l⟩
def dF (xs:List Auto) (q:Int):List DVal:=[.int .i64 (ownQ xs q.toNat:Int),.nilsl]
theorem dF_wk (xs:List Auto) (q:Int):wkA (dF xs q) (Af_ (pF xs q)):=by simp[dF,Af_,pF,AM_,wkA,wk,wk1,isE]
@[simp] theorem mx_dF (xs:List Auto) (q:Int):mxL (dF xs q)=0:=by simp[dF,mxL,mx]
@[simp] theorem mx_dFs (xs:List Auto) (l:List Int):mxR (l.map (dF xs))=0:=mxR0 _ (mx_dF xs) l
theorem bnd_p {a b:Nat} (h1:a≤1040) (h2:b≤17179870208):(a+b+1)*32≤150000000000000:=by omega
theorem UN_ (l:List Nat) (k v:Nat):(l.map natD).set k [.int .i64 (v:Int)]=(l.set k v).map natD:=by rw[eF0];rfl
def Ma_ (xs:List Auto) (l:List Int):List (List DVal):=l.map (dF xs)
def prF (xs:List Auto) (l:List Int):List Prod:=l.map (pF xs)
def prA (xs:List Auto) (l:List Arc):List Prod:=l.map (pA xs)
theorem prA_next {xs:List Auto} {z:List Arc} {k:Nat} {x:Arc} (h:z[k]? =some x):prA xs (z.take (k+1))=prA xs (z.take k)++[pA xs x]:=by unfold prA;rw[bF0,h,aY0];rfl
theorem finP_next {xs:List Auto} {l:List Int} {k:Nat} {q:Int} (h:l[k]? =some q):Ma_ xs (l.take (k+1))=Ma_ xs (l.take k)++[[.int .i64 (ownQ xs q.toNat:Int),.nilsl]]:=by unfold Ma_;rw[bF0,h,aY0];rfl
theorem finP_mx (xs:List Auto) (l:List Int):mxR (Ma_ xs l)=0:=mx_dFs xs l
theorem finA_in {xs:List Auto} (h:∀a∈xs,SmA a) {q:Int} (hq:q∈finA xs):0≤q∧q.toNat<sumS xs:=by
 unfold finA at hq
 obtain⟨p,hp,hq⟩:=bR0.1 hq
 obtain⟨r,hr,rfl⟩:=aW0.1 hq
 have h1:=OB_ hp
 have h2:=ok_fin (h _ (GA_ hp).1).ok hr
 unfold mvF
 omega
theorem arcA_in {xs:List Auto} (h:∀a∈xs,SmA a) {x:Arc} (hx:x∈arcA xs):0≤x.fr∧x.fr.toNat<sumS xs∧0≤x.to∧x.to.toNat<sumS xs:=by
 unfold arcA at hx
 obtain⟨p,hp,hx⟩:=bR0.1 hx
 obtain⟨y,hy,rfl⟩:=aW0.1 hx
 have h1:=OB_ hp
 have h2:=ok_arc (h _ (GA_ hp).1).ok hy
 unfold mvA
 simp only
 omega
def anCF111 : Ann:=⟨[],[⟨22,[12],[],[]⟩]⟩
set_option maxHeartbeats 8000000 in
theorem JV_ (H L:List ByteArray) (xs:List Auto) (hsm:∀a∈xs,SmA a) (hl:xs.length≤16) (hH:H.length=xs.length) (hne:1≤sumS xs):Aj_ Tryz.prog 11 [Dt_ H L xs] (.tup [.agg (dCnf (Cd_ (cnfM xs))),.int .i64 0]):=by
 refine Ab_ [2] (fn:=Tryz.f11) Tryz.func11 rfl Tryz.call11 (by simp[Tryz.ntmps11]) (by simp[mx,mxL,dCnf]) ?_
 intro hwf B hnt
 simp only[Tryz.ntmps11]at hnt
 have hgAnn:=Ao_ anCF111 Tryz.mixed (aj2 @anCF111.eq_1 Tryz.results11)
 clear hwf
 simp only[argS]
 have hst1:∀a∈xs,1≤a.st:=fun a ha=>(MR_ (hsm a ha).ok).1
 have hsl:=FH_ (l:=xs) fun a ha=>(hsm a ha).ok
 have hs10:sumS xs≤1040:=Nat.le_trans hsl (bT0 65 hl)
 have e1:=Og_ H L xs
 have e2:=OQ_ H L xs
 have e3:∀n,_:=fun n=>nt33_pure H L xs hsm hl n
 have e4:∀n,_:=fun n=>QB_ H L xs n
 have e5:=MS_ H L xs hsm hl
 have e6:=Ro_ H L xs hsm hl
 have e7:=Lh_ (cnfM xs)
 obtain⟨PR,hPR⟩:∃PR,PR=(Cd_ (cnfM xs)).prods:=⟨_,rfl⟩
 obtain⟨NN,hNN⟩:∃NN,NN=(Cd_ (cnfM xs)).nts:=⟨_,rfl⟩
 have hR:dCnf (Cd_ (cnfM xs))=[.int .i64 NN,Bh_ PR]:=by rw[hPR,hNN];rfl
 rw[hR]at e7 ⊢
 clear hR hPR hNN
 have hfin:∀q∈finA xs,0≤q∧q.toNat<sumS xs:=fun q hq=>finA_in hsm hq
 have harc:∀x∈arcA xs,0≤x.fr∧x.fr.toNat<sumS xs∧0≤x.to∧x.to.toNat<sumS xs:=fun x hx=>arcA_in hsm hx
 have hfl:(finA xs).length≤1040:=Nat.le_trans (IK_ hsm 0) (bT0 65 hl)
 have hal:(arcA xs).length≤17179870208:=Nat.le_trans (IW_ hsm 0) (bT0 1073741888 hl)
 simp only[Dt_]at e1 e2 e3 e4 e5 e6 ⊢
 clear hsl
 have hS0:¬((sumS xs:Nat):Int)=0:=by omega
 have hSb:(((sumS xs:Nat):Int)==0)=false:=by simpa using hS0
 have hS1:sumS xs*8≤150000000000000:=by omega
 (refine go1 (aj2 e1 e2) aj0 (aj2 hS0 hSb) ?_;intros;refine mk_i ?_)
 have hz0:(ownR xs 0).map natD=List.replicate (sumS xs) [.int .i64 0]:=by unfold ownR;simp[natD]
 have hzm:mxR (List.replicate (sumS xs) [DVal.int .i64 0])=0:=by rw[←hz0];simp
 refine Am_ (X:={q:Nat//q≤sumS xs}) (fun q=>⟨[(0,.ref [dTab H L,dPts (parA 0 xs),.int .i64 (sumS xs)]),(2,.bx 2 1 0),(5,.osl 22 1),(6,.int .i64 ((xs.length+cntN xs q.1:Nat):Int)),(25,.int .i64 (sumS xs)),(26,.int .i64 q.1)],[⟨2,1,.box [.int .i64 0,.nilsl]⟩,⟨22,1,.row 3 1 8 ((ownR xs q.1).map natD)⟩]⟩) (fun q=>sumS xs-q.1) ⟨0,by simp⟩ (Sub.lit (by simp[hz0,hzm,hH,Sb_])) ?_
 rintro⟨q,hq⟩
 simp only
 by_cases hlt:q<sumS xs
 ·have hnl:=OJ_ xs
  obtain⟨k,hk⟩:∃k,(ntL xs)[q]? =some k:=⟨_,aH0 (by omega)⟩
  have hsi:=start_iff hst1 hk
  have hkl:=nt_lt hk
  have f1:=e3 q
  have f2:=e4 k
  rw[Sm_ hk]at f1
  have hrl:=UD_ xs hq
  have hrs:=ownR_set xs hlt
  have hcs:=Sc_ xs q
  have hcl:=TC_ xs q
  have g1:=UN_ (ownR xs q) q k
  have g2:=UN_ ((ownR xs q).set q k) q (xs.length+cntN xs q)
  have hss:((ownR xs q).set q k).set q (xs.length+cntN xs q)=(ownR xs q).set q (xs.length+cntN xs q):=List.set_set _
  have hql:q<(ownR xs q).length:=by omega
  have g3:((ownR xs q).set q k)[q]? =some k:=by rw[fG0 hql]
  have hql2:q<((ownR xs q).set q k).length:=by rw[List.length_set];exact hql
  obtain⟨Y,hY⟩:∃Y,Y=(ownR xs q).set q k:=⟨_,rfl⟩
  rw[←hY]at g1 g2 g3 hql2 hss
  have g3':Y[q]'hql2=k:=(aC0.1 g3).2
  have hwq:IntKind.i64.wrap ((q:Int)+1)=(q:Int)+1:=Aa_ (by omega) (by omega)
  have hqi:(q:Int)<(sumS xs:Int):=by omega
  obtain⟨S,hS⟩:∃S,S=atI (stL xs) k:=⟨_,rfl⟩
  rw[←hS]at hsi f2
  by_cases hin:q∈stL xs
  ·have hSq:=hsi.2 hin
   have how:=ownQ_in hin hk
   rw[how,←hY]at hrs
   rw[if_pos hin,cU0]at hcs
   rw[hrs]at g1 g3 hql2
   have g3':(ownR xs (q+1))[q]'hql2=k:=(aC0.1 g3).2
   clear hY hss g2
   rw[hSq]at f2
   (refine go1 (aj2 f1 f2) aj0 (aj7 hqi hql hql2 @natD.eq_1 g1 g3 g3') ?_;intros;refine mk_i ?_)
   refine Ap_.mk ⟨q+1,by omega⟩ (Sub.lit (by simp[hcs])) (by simp;omega)
   skip
  ·have hSq:¬S=(q:Int):=fun hh=>hin (hsi.1 hh)
   have hSb2:(S==(q:Int))=false:=by simpa using hSq
   have how:=UE_ hin
   rw[how]at hrs
   rw[if_neg hin]at hcs
   rw[hss,hrs]at g2
   clear hY hss hrs
   have hwn:IntKind.i64.wrap (((xs.length+cntN xs q:Nat):Int)+1)=((xs.length+cntN xs (q+1):Nat):Int):=by rw[Aa_ (by omega) (by omega),hcs];omega
   obtain⟨N,hN⟩:∃N,N=xs.length+cntN xs q:=⟨_,rfl⟩
   rw[←hN]at hwn g2 ⊢
   (refine go1 (aj2 f1 f2) aj0 (aj11 hqi hql hql2 @natD.eq_1 g1 g2 g3 g3' hSq hSb2 hwn) ?_;intros;refine mk_i ?_)
   refine Ap_.mk ⟨q+1,by omega⟩ (Sub.lit (by simp)) (by simp;omega)
   skip
 ·have hkk:q=sumS xs:=by omega
  subst hkk
  have hqi:¬((sumS xs:Nat):Int)<(sumS xs:Int):=by omega
  clear e3 e4 hst1
  have how:∀q:Nat,q<sumS xs→(ownR xs (sumS xs))[q]? =some (ownQ xs q):=fun q hq=>ownR_at xs hq
  have hol:=UD_ xs (Nat.le_refl (sumS xs))
  have hcs:=TC_ xs (sumS xs)
  unfold cnfM at e7
  obtain⟨N,hN⟩:∃N,N=xs.length+cntN xs (sumS xs):=⟨_,rfl⟩
  rw[←hN]at e7 ⊢
  obtain⟨W,hW⟩:∃W,W=ownR xs (sumS xs):=⟨_,rfl⟩
  rw[←hW]at how hol ⊢
  obtain⟨F,hF⟩:∃F,F=finA xs:=⟨_,rfl⟩
  rw[←hF]at e5 e7 hfin hfl
  obtain⟨Z,hZ⟩:∃Z,Z=arcA xs:=⟨_,rfl⟩
  rw[←hZ]at e6 e7 harc hal
  clear hW hF hZ hcs hsm
  refine EL_ (Sub.freezeL [22] _) ?_
  simp
  (refine go1 (aj1 e5) aj0 (aj1 hqi) ?_;intros;refine mk_i ?_)
  refine Bx_ 8 1 60 92 2 32 (by simp) (fun n1=> ?_)
  have f0:Ma_ xs []=[]:=rfl
  refine Am_ (X:={k:Nat//k≤F.length}) (fun k=>⟨[(0,.ref [dTab H L,dPts (parA 0 xs),.int .i64 (sumS xs)]),(2,.bx 2 1 0),(5,BQ_ W),(8,.bx 8 1 0),(53,CG_ F),(54,.int .i64 F.length),(55,.int .i64 k.1)],[⟨2,1,.box [.int .i64 0,.nilsl]⟩,⟨8,1,.box [.int .i64 (N:Int),.osl 60 1]⟩,⟨60,1,.row 92 2 32 (Ma_ xs (F.take k.1))⟩]⟩) (fun k=>F.length-k.1) ⟨0,by simp⟩ (Sub.lit (by simp[f0])) ?_
  rintro⟨k,hk⟩
  simp only
  by_cases hlt2:k<F.length
  ·obtain⟨q,hq1,hq1',hqm⟩:=Aq_ hlt2
   obtain⟨q0,q1⟩:=hfin q hqm
   obtain⟨u,rfl⟩:∃u:Nat,q=(u:Int):=⟨q.toNat,by omega⟩
   rw[cW0]at q1
   have hW1:=how u q1
   have hul:u<W.length:=by omega
   have hW1':W[u]'hul=ownQ xs u:=(aC0.1 hW1).2
   have hnx:=finP_next (xs:=xs) hq1
   rw[cW0]at hnx
   have hpl:(Ma_ xs (F.take k)).length≤1040:=by unfold Ma_;rw[aL0,aX0];omega
   have hpm:=finP_mx xs (F.take k)
   obtain⟨T,hT⟩:∃T,T=Ma_ xs (F.take k):=⟨_,rfl⟩
   rw[←hT]at hnx hpl hpm ⊢
   have hb:(T.length+1)*32≤150000000000000:=by omega
   have hwk:IntKind.i64.wrap ((k:Int)+1)=(k:Int)+1:=Aa_ (by omega) (by omega)
   clear hal hfl harc hfin hT hpl
   (refine go1 aj0 aj0 (aj10 @dNum.eq_1 @natD.eq_1 hlt2 hq1 hq1' hul hW1 hW1' hb hwk) ?_;intros;refine mk_i ?_)
   refine Ap_.mk ⟨k+1,by omega⟩ (Sub.lit (by simp[hnx,hpm])) (by simp;omega)
   skip
  ·have hkk:k=F.length:=by omega
   subst hkk
   rw[aT0]
   refine DW_rowWk 60 (es':=(prF xs F).map Af_) (e:=⟨60,1,.row 92 2 32 (Ma_ xs F)⟩) rfl rfl (by unfold Ma_ prF;rw[cB0];exact Ne_ _ _ (dF_wk xs) F) ?_
   simp only[rowE,putR]
   simp
   (refine go1 (aj1 e6) aj0 aj0 ?_;intros;refine mk_i ?_)
   have p0:prA xs []=[]:=rfl
   refine Am_ (X:={k:Nat//k≤Z.length}) (fun k=>⟨[(2,.bx 2 1 0),(5,BQ_ W),(8,.bx 8 1 0),(71,Ch_ Z),(72,.int .i64 Z.length),(73,.int .i64 k.1)],[⟨2,1,.box [.int .i64 0,.nilsl]⟩,⟨8,1,.box [.int .i64 (N:Int),.osl 60 1]⟩,⟨60,1,.row 92 2 32 ((prF xs F).map Af_++(prA xs (Z.take k.1)).map Af_)⟩]⟩) (fun k=>Z.length-k.1) ⟨0,by simp⟩ (Sub.lit (by simp[p0])) ?_
   rintro⟨k,hk⟩
   simp only
   by_cases hlt3:k<Z.length
   ·obtain⟨x,hx,hx',hxm⟩:=Aq_ hlt3
    obtain⟨x0,x1,x2,x3⟩:=harc x hxm
    obtain⟨fr,sy,to⟩:=x
    simp only at x0 x1 x2 x3
    obtain⟨u,rfl⟩:∃u:Nat,fr=(u:Int):=⟨fr.toNat,by omega⟩
    obtain⟨v,rfl⟩:∃v:Nat,to=(v:Int):=⟨to.toNat,by omega⟩
    rw[cW0]at x1 x3
    have hW1:=how u x1
    have hW2:=how v x3
    have hul:u<W.length:=by omega
    have hvl:v<W.length:=by omega
    have hW1':W[u]'hul=ownQ xs u:=(aC0.1 hW1).2
    have hW2':W[v]'hvl=ownQ xs v:=(aC0.1 hW2).2
    have hnx:=congrArg (List.map Af_) (prA_next (xs:=xs) hx)
    rw[aY0]at hnx
    have hn2:List.map Af_ (prA xs (Z.take (k+1)))=List.map Af_ (prA xs (Z.take k))++[[.int .i64 (ownQ xs u:Int),.sl 2 16 [[.bool sy.label,.int .i64 sy.n],[.bool false,.int .i64 (ownQ xs v:Int)]]]]:=by rw[hnx];simp[Af_,pA,AM_,dSym]
    have hpl:(prF xs F).length≤1040:=by unfold prF;rw[aL0];exact hfl
    have hpk:(prA xs (Z.take k)).length≤17179870208:=by unfold prA;rw[aL0,aX0];omega
    have hwk:IntKind.i64.wrap ((k:Int)+1)=(k:Int)+1:=Aa_ (by omega) (by omega)
    obtain⟨T,hT⟩:∃T,T=prA xs (Z.take k):=⟨_,rfl⟩
    rw[←hT]at hn2 hpk ⊢
    obtain⟨PF,hPF⟩:∃PF,PF=prF xs F:=⟨_,rfl⟩
    rw[←hPF]at hpl ⊢
    have hb:(PF.length+T.length+1)*32≤150000000000000:=bnd_p hpl hpk
    have hb3:PF.length+T.length≤9223372036854775806:=by omega
    have hr2:List.range 2=[0,1]:=rfl
    clear hal hfl harc hfin hT hpl hpk hnx hPF
    (refine go1 aj0 aj0 (aj15 @dArc.eq_1 @natD.eq_1 hlt3 hx hx' hul hvl hW1 hW1' hW2 hW2' hb hb3 hr2 hwk) ?_;intros;refine mk_i ?_)
    refine Ap_.mk ⟨k+1,by omega⟩ (Sub.lit (by simp[hn2])) (by simp;omega)
    skip
   ·have hkk:k=Z.length:=by omega
    subst hkk
    rw[aT0]
    have hPP:List.map Af_ (prF xs F)++List.map Af_ (prA xs Z)=(List.map (pF xs) F++List.map (pA xs) Z).map Af_:=by unfold prF prA;rw[←aY0]
    rw[hPP]
    obtain⟨PP,hPq⟩:∃PP,PP=List.map (pF xs) F++List.map (pA xs) Z:=⟨_,rfl⟩
    rw[←hPq]at e7 ⊢
    simp only[dCnf]at e7
    refine EL_ (Sub.freezeL [60] _) ?_
    simp
    exact go0 (aj1 e7) aj0 aj0
end Go.Proofs.YtchgnpnbcjflcaaGreat
end
section
namespace Go.Proofs.YtchgnpnbcjflcaaGreat
open Go Go.Dm
variable [DMode]
attribute [local irreducible] DW Br_ Bu_
theorem JB_ {α:Type} {a b:List α} {k:Nat} {x:α} (h:a.take k=b.take k) (ha:a[k]? =some x) (hb:b[k]? =some x):a.take (k+1)=b.take (k+1):=by
 rw[bF0,bF0,h,ha,hb]
def anW1851 : Ann:=⟨[],[]⟩
set_option maxRecDepth 100000 in
theorem Ok_ (a b:List Sym):Aj_ Tryz.prog 51 [AM_ a,AM_ b] (.bool (decide (a=b))):=by
 refine Ab_ [] (fn:=Tryz.f51) Tryz.func51 rfl Tryz.call51 (by simp[Tryz.ntmps51]) (by simp[mx]) ?_
 intro hwf B hnt
 simp only[Tryz.ntmps51]at hnt
 have hgAnn:=Ao_ anW1851 Tryz.mixed (aj2 @anW1851.eq_1 Tryz.results51)
 simp only[argS]
 simp at hwf
 by_cases hl:a.length=b.length
 ·(refine go1 aj0 aj0 (aj2 @dSym.eq_1 hl) ?_;intros;refine mk_i ?_)
  refine Am_ (X:={k:Nat//k≤b.length∧a.take k=b.take k}) (fun x=>⟨[(0,AM_ a),(1,AM_ b),(5,.int .i64 x.1)],[]⟩) (fun x=>b.length-x.1) ⟨0,by simp⟩ (Sub.lit (by simp)) ?_
  rintro⟨k,hk,he⟩
  have hw:=hwf.2.2.1
  unfold maxLen at hw
  clear hwf
  by_cases hlt:k<b.length
  ·obtain⟨y,hy,hy'⟩:=at_lt hlt
   obtain⟨x,hx,hx'⟩:=at_lt (l:=a) (k:=k) (by omega)
   by_cases h1:x.label=y.label
   ·by_cases h2:x.n=y.n
    ·have hnx:=JB_ he hx (by rw[hy];cases x;cases y;simp_all)
     clear hx hy
     (refine go1 aj0 aj0 (aj7 @dSym.eq_1 hl hx' hy' hlt h1 h2) ?_;intros;refine mk_i ?_)
     refine Ap_.mk ⟨k+1,by omega,hnx⟩ (Sub.lit (by simp[])) (by simp;omega)
     skip
    ·have hne:a≠b:=fun h=>by subst h;rw[hx]at hy;simp_all
     clear hx hy
     exact go0 aj0 aj0 (aj8 @dSym.eq_1 hl hx' hy' hlt hne h1 h2)
   ·have hne:a≠b:=fun h=>by subst h;rw[hx]at hy;simp_all
    clear hx hy
    exact go0 aj0 aj0 (aj7 @dSym.eq_1 hl hx' hy' hlt hne h1)
  ·have:k=b.length:=by omega
   subst this
   have hab:a=b:=by rw[bX0 (by omega),bX0 (by omega)]at he;exact he
   exact go0 aj0 aj0 (aj2 @dSym.eq_1 hab)
 ·have hne:a≠b:=fun h=>hl (by rw[h])
  have hl':¬(b.length:Int)=a.length:=by omega
  exact go0 aj0 aj0 (aj4 @dSym.eq_1 hl hl' hne)
end Go.Proofs.YtchgnpnbcjflcaaGreat
end
section
namespace Go.Proofs.YtchgnpnbcjflcaaGreat
open Go Go.Dm
variable [DMode]
attribute [local irreducible] DW Br_ Bu_
set_option maxRecDepth 100000
theorem BV_ {a b:Int}:cmpI a b<0↔a<b:=by unfold cmpI;split<;>(try split)<;>constructor<;>intro h<;>omega
theorem NJ_ {a b:Int}:cmpI a b=0↔a=b:=by unfold cmpI;split<;>(try split)<;>constructor<;>intro h<;>omega
def IY_ : Ann:=⟨[],[]⟩
theorem Qv_ (x y:Sym):Aj_ Tryz.prog 206 [.agg (dSym x),.agg (dSym y)] (.bool (decide (symC x y<0))):=by
 refine Ab_ [] (fn:=Tryz.f206) Tryz.func206 rfl Tryz.call206 (by simp[Tryz.ntmps206]) (by simp[mx]) ?_
 intro hwf B hnt
 simp only[Tryz.ntmps206]at hnt
 have hgAnn:=Ao_ IY_ Tryz.mixed (aj2 @IY_.eq_1 Tryz.results206)
 simp only[argS]
 cases h1:x.label<;>cases h2:y.label<;>(repeat (first | refine Ak_ fun K hK=> ?_ | (refine DW_r IY_ Tryz.mixed (by kernel_rfl) ?_;simp[IY_,hnt,dSym,h1,h2,symC,BV_];try simp (disch:=omega) only[Aa_]) | refine Ac_ ?_ | (refine As_ ?_ ?_ ?_;(· (simp[hnt,dSym,h1,h2,symC,BV_];done));(try (rotate_left;(· (intro hc;(try simp[hnt,dSym,h1,h2,symC,BV_]at hc);done))))) | (refine Al_ ?_;simp[Tryz.results206,hnt,dSym,h1,h2,symC,BV_]) | ((first | refine Ah_ ?_ | refine Ag_ ?_);simp[hnt,dSym,h1,h2,symC,BV_]) | (intro hc;(try simp[hnt,dSym,h1,h2,symC,BV_]at hc);(try (exfalso;omega))) | (refine⟨?_,?_⟩; · omega) | omega | apply_assumption -exfalso -symm | (exfalso;omega)))
theorem symC_0 {x y:Sym}:symC x y=0↔x=y:=by
 obtain⟨l,n⟩:=x
 obtain⟨l',n'⟩:=y
 cases l<;>cases l'<;>simp[symC,NJ_]
def EK_ : Ann:=⟨[],[]⟩
set_option maxHeartbeats 4000000 in
theorem Rs_ (p q:Prod):Aj_ Tryz.prog 136 [.agg (Af_ p),.agg (Af_ q)] (.bool (decide (Ba_ p q<0))):=by
 refine Ab_ [] (fn:=Tryz.f136) Tryz.func136 rfl Tryz.call136 (by simp[Tryz.ntmps136]) (by simp[mx]) ?_
 intro hwf B hnt
 simp only[Tryz.ntmps136]at hnt
 have hgAnn:=Ao_ EK_ Tryz.mixed (aj2 @EK_.eq_1 Tryz.results136)
 have hw:wProd p:=w_prod (by simpa[wfL,wfD]using hwf.1)
 obtain⟨hw1,hw2,hw3,hw4⟩:=hw
 clear hwf
 simp only[argS]
 by_cases h0:p.head=q.head
 rotate_left
 ·have hb:(p.head != q.head)=true:=by simp[h0]
  have hpc:Ba_ p q=cmpI p.head q.head:=by unfold Ba_;rw[if_neg (fun hh=>h0 (NJ_.1 hh))]
  (repeat (first | refine Ak_ fun K hK=> ?_ | (refine DW_r EK_ Tryz.mixed (by kernel_rfl) ?_;simp[EK_,hnt,Af_,h0,hb,hpc,BV_];try simp (disch:=omega) only[Aa_]) | refine Ac_ ?_ | (refine As_ ?_ ?_ ?_;(· (simp[hnt,Af_,h0,hb,hpc,BV_];done));(try (rotate_left;(· (intro hc;(try simp[hnt,Af_,h0,hb,hpc,BV_]at hc);done))))) | (refine Al_ ?_;simp[Tryz.results136,hnt,Af_,h0,hb,hpc,BV_]) | ((first | refine Ah_ ?_ | refine Ag_ ?_);simp[hnt,Af_,h0,hb,hpc,BV_]) | (intro hc;(try simp[hnt,Af_,h0,hb,hpc,BV_]at hc);(try (exfalso;omega))) | (refine⟨?_,?_⟩; · omega) | omega | apply_assumption -exfalso -symm | (exfalso;omega)))
 by_cases hl:p.body.length=q.body.length
 rotate_left
 ·have hb:(p.head != q.head)=false:=by simp[h0]
  have hl':((p.body.length:Int) != q.body.length)=true:=by simp;omega
  have hl2:¬(p.body.length:Int)=q.body.length:=by omega
  have hpc:Ba_ p q=cmpI p.body.length q.body.length:=by
   unfold Ba_;rw[if_pos (NJ_.2 h0),if_neg (fun hh=>hl2 (NJ_.1 hh))]
  (repeat (first | refine Ak_ fun K hK=> ?_ | (refine DW_r EK_ Tryz.mixed (by kernel_rfl) ?_;simp[EK_,hnt,Af_,h0,hb,hl,hl',hl2,hpc,BV_];try simp (disch:=omega) only[Aa_]) | refine Ac_ ?_ | (refine As_ ?_ ?_ ?_;(· (simp[hnt,Af_,h0,hb,hl,hl',hl2,hpc,BV_];done));(try (rotate_left;(· (intro hc;(try simp[hnt,Af_,h0,hb,hl,hl',hl2,hpc,BV_]at hc);done))))) | (refine Al_ ?_;simp[Tryz.results136,hnt,Af_,h0,hb,hl,hl',hl2,hpc,BV_]) | ((first | refine Ah_ ?_ | refine Ag_ ?_);simp[hnt,Af_,h0,hb,hl,hl',hl2,hpc,BV_]) | (intro hc;(try simp[hnt,Af_,h0,hb,hl,hl',hl2,hpc,BV_]at hc);(try (exfalso;omega))) | (refine⟨?_,?_⟩; · omega) | omega | apply_assumption -exfalso -symm | (exfalso;omega)))
 have hb:(p.head != q.head)=false:=by simp[h0]
 obtain⟨r,hr⟩:∃r,r=decide (Ba_ p q<0):=⟨_,rfl⟩
 rw[←hr]
 have hpc:Ba_ p q=cmpL symC p.body q.body:=by
  unfold Ba_;rw[if_pos (NJ_.2 h0),if_pos (NJ_.2 (by omega))];rfl
 rw[hpc]at hr
 clear hpc
 (refine go1 aj0 aj0 (aj4 @Af_.eq_1 h0 hb hl) ?_;intros;refine mk_i ?_)
 refine Am_ (X:={k:Nat//k≤q.body.length∧r=decide (cmpL symC (p.body.drop k) (q.body.drop k)<0)}) (fun k=>⟨[(2,.ref (Af_ p)),(3,.ref (Af_ q)),(5,.int .i64 k.1)],[]⟩) (fun k=>q.body.length-k.1) ⟨0,by simp[hr]⟩ (Sub.lit (by simp[Af_,h0])) ?_
 rintro⟨k,hk,hcc⟩
 clear hr
 by_cases hlt:k<q.body.length
 ·obtain⟨x,hx,hx',hxm⟩:=Aq_ (show k<p.body.length by omega)
  obtain⟨y,hy,hy',hym⟩:=Aq_ hlt
  rw[cmpL_at hx hy]at hcc
  by_cases hxy:x=y
  ·subst hxy
   rw[if_pos (symC_0.2 rfl)]at hcc
   clear hx hy
   (refine go1 aj0 aj0 (aj6 @Af_.eq_1 @dSym.eq_1 hl hlt hx' hy') ?_;intros;refine mk_i ?_)
   refine Ap_.mk ⟨k+1,by omega,hcc⟩ (Sub.lit (by simp[Af_])) (by simp;omega)
   skip
  ·rw[if_neg (fun hh=>hxy (symC_0.1 hh))]at hcc
   have hs:=Qv_ x y
   simp only[dSym]at hs
   rw[←hcc]at hs
   have hne:¬(x.label=y.label∧x.n=y.n):=fun hh=>hxy (by cases x;cases y;simp_all)
   have hne':x.label=y.label→¬x.n=y.n:=fun h1 h2=>hne ⟨h1,h2⟩
   clear hx hy hcc
   exact go0 (aj1 hs) aj0 (aj8 @Af_.eq_1 @dSym.eq_1 hl hlt hx' hy' hne hne')
 ·have hk':k=q.body.length:=by omega
  subst hk'
  have hrf:r=false:=by
   rw[hcc,cO0 (by omega),cO0 (by omega)]
   simp[cmpL]
  exact go0 aj0 aj0 (aj3 @Af_.eq_1 hl hrf)
end Go.Proofs.YtchgnpnbcjflcaaGreat
end
section
namespace Go.Proofs.YtchgnpnbcjflcaaGreat

end Go.Proofs.YtchgnpnbcjflcaaGreat
end
section
namespace Go.Proofs.YtchgnpnbcjflcaaGreat
open Go Go.Dm
variable [DMode]
attribute [local irreducible] DW Br_ Bu_
set_option maxRecDepth 100000
def anW5852 : Ann:=⟨[],[]⟩
set_option maxHeartbeats 4000000 in
theorem Tp_ (l:List Prod) (p:Prod) (hsz:(l.length+1)*32≤150000000000000):Aj_ Tryz.prog 52 [Bh_ l,.agg (Af_ p)] (Bh_ (insC Ba_ l p)):=by
 refine Ab_ [50] (fn:=Tryz.f52) Tryz.func52 rfl Tryz.call52 (by simp[Tryz.ntmps52]) (by simp[mx]) ?_
 intro hwf B hnt
 simp only[Tryz.ntmps52]at hnt
 have hgAnn:=Ao_ anW5852 Tryz.mixed (aj2 @anW5852.eq_1 Tryz.results52)
 have hw:TY_ l:=SC_ hwf.1
 obtain⟨_,hw2,hw3⟩:=hw
 clear hwf
 simp only[argS]
 obtain⟨r,hr⟩:∃r,r=insC Ba_ l p:=⟨_,rfl⟩
 rw[←hr]
 (refine go1 aj0 aj0 (aj1 @Af_.eq_1) ?_;intros;refine mk_i ?_)
 refine Bn_ 5 50 92 2 32 (by simp[hnt,Tryz.ntmps52]) (fun n=> ?_)
 refine Am_ (X:={x:Nat×Bool×List Prod//x.1≤l.length∧x.2.2.length≤x.1+(if x.2.1 then 1 else 0)∧x.2.2++(if x.2.1 then l.drop x.1 else insC Ba_ (l.drop x.1) p)=r}) (fun x=>⟨[(0,Bh_ l),(3,.ref (Af_ p)),(5,.osl 50 1),(6,.bool x.1.2.1),(7,.int .i64 x.1.1)],[⟨50,1,.row 92 2 32 (x.1.2.2.map Af_)⟩]⟩) (fun x=>l.length-x.1.1) ⟨(0,false,[]),by simp[hr]⟩ (Sub.lit (by simp[Af_])) ?_
 rintro⟨⟨k,b,R⟩,hk,hR,hcc⟩
 simp only at hk hR hcc ⊢
 clear hr
 by_cases hlt:k<l.length
 ·obtain⟨q,hq,hq',hqm⟩:=Aq_ hlt
  rw[aR0 hlt,hq']at hcc
  have h1:=Rs_ q p
  have h2:=Rs_ p q
  simp only[Af_]at h1 h2
  cases b
  ·simp only[aQ0,if_false,insC,cU0]at hR hcc
   have hz1:(R.length+1)*32≤150000000000000:=Nat.le_trans (aO0 32 (by omega)) hsz
   have hz2:R.length≤9223372036854775806:=by omega
   have hz3:(R.length+1+1)*32≤150000000000000:=Nat.le_trans (aO0 32 (by omega)) hsz
   have hz4:R.length+1≤9223372036854775806:=by omega
   by_cases c1:Ba_ q p<0
   ·rw[if_pos c1]at hcc
    simp only[c1,decide_true]at h1
    (refine go1 (aj2 h1 h2) aj0 (aj7 @Af_.eq_1 hlt hq' hz1 hz2 hz3 hz4) ?_;intros;refine mk_i ?_)
    refine Ap_.mk ⟨(k+1,false,R++[q]),show k+1≤l.length∧(R++[q]).length≤k+1+_∧_ from ⟨by omega,by simp;omega,by simpa using hcc⟩⟩ (Sub.lit (by simp[Af_])) (by simp;omega)
    skip
   ·rw[if_neg c1]at hcc
    simp only[c1,decide_false]at h1
    by_cases c2:Ba_ p q<0
    ·rw[if_pos c2]at hcc
     simp only[c2,decide_true]at h2
     (refine go1 (aj2 h1 h2) aj0 (aj7 @Af_.eq_1 hlt hq' hz1 hz2 hz3 hz4) ?_;intros;refine mk_i ?_)
     refine Ap_.mk ⟨(k+1,true,R++[p,q]),show k+1≤l.length∧(R++[p,q]).length≤k+1+_∧_ from ⟨by omega,by simp;omega,by simpa using hcc⟩⟩ (Sub.lit (by simp[Af_])) (by simp;omega)
     skip
    ·rw[if_neg c2]at hcc
     simp only[c2,decide_false]at h2
     (refine go1 (aj2 h1 h2) aj0 (aj7 @Af_.eq_1 hlt hq' hz1 hz2 hz3 hz4) ?_;intros;refine mk_i ?_)
     refine Ap_.mk ⟨(k+1,true,R++[q]),show k+1≤l.length∧(R++[q]).length≤k+1+_∧_ from ⟨by omega,by simp;omega,by simpa using hcc⟩⟩ (Sub.lit (by simp[Af_])) (by simp;omega)
     skip
  ·simp only[if_true]at hR hcc
   have hz1:(R.length+1)*32≤150000000000000:=Nat.le_trans (aO0 32 (by omega)) hsz
   have hz2:R.length≤9223372036854775806:=by omega
   (refine go1 (aj2 h1 h2) aj0 (aj5 @Af_.eq_1 hlt hq' hz1 hz2) ?_;intros;refine mk_i ?_)
   refine Ap_.mk ⟨(k+1,true,R++[q]),show k+1≤l.length∧(R++[q]).length≤k+1+_∧_ from ⟨by omega,by simp;omega,by simpa using hcc⟩⟩ (Sub.lit (by simp[Af_])) (by simp;omega)
   skip
 ·have hk':k=l.length:=by omega
  subst hk'
  rw[bP0]at hcc
  cases b
  ·simp only[aQ0,if_false,insC,cU0]at hR hcc
   subst hcc
   have hz1:(R.length+1)*32≤150000000000000:=Nat.le_trans (aO0 32 (by omega)) hsz
   have hz2:R.length≤9223372036854775806:=by omega
   exact go0 aj0 aj0 (aj3 @Af_.eq_1 hz1 hz2)
  ·simp only[if_true,bK0]at hR hcc
   subst hcc
   exact go0 aj0 aj0 (aj1 @Af_.eq_1)
def CY_ (l:List Prod):DVal:=if l=[]then .nilsl else Bh_ l
@[local simp] theorem mx_rowPd (l:List Prod):mx (CY_ l)=0:=by unfold CY_;split<;>simp[mx]
theorem LN_ {l:List Prod} {p:Prod}:(insC Ba_ l p).length≤l.length+1:=by
 induction l with
 | nil=>simp[insC]
 | cons x l ih=>simp only[insC];split<;>(try split)<;>simp<;>omega
theorem foldP_len (l:List Prod) (a:List Prod):(l.foldl (insC Ba_) a).length≤a.length+l.length:=by
 induction l generalizing a with
 | nil=>simp
 | cons x l ih=>have h1:=ih (insC Ba_ a x);have h2:=LN_ (l:=a) (p:=x);simp only[cM0,List.length_cons];omega
theorem Gb_ (l:List Prod) (p:Prod) (hsz:(l.length+1)*32≤150000000000000):Aj_ Tryz.prog 52 [CY_ l,.agg (Af_ p)] (CY_ (insC Ba_ l p)):=by
 have h:=Tp_ l p hsz
 unfold CY_
 rw[if_neg (Pi_ l p)]
 split
 ·rename_i h0
  subst h0
  refine⟨h.1,h.2.1,fun cur M w vs hM hr=>h.2.2 cur M w vs hM (QP_ ?_ hr)⟩
  simp only[wkA]
  exact⟨by simp[Bh_],SA_ _,trivial⟩
 ·exact h
theorem CX_ (l:List Prod):CY_ l= .nilsl∨∃m,CY_ l=Bh_ m:=by
 unfold CY_
 split
 ·exact .inl rfl
 ·exact .inr ⟨_,rfl⟩
def KO_ : Ann:=⟨[],[]⟩
set_option maxHeartbeats 4000000 in
theorem QK_ (c:Cnf):Aj_ Tryz.prog 148 [.agg (dCnf c)] (.agg (dCnf ⟨c.nts,c.prods.foldl (insC Ba_) []⟩)):=by
 have key:Aj_ Tryz.prog 148 [.agg (dCnf c)] (.agg [.int .i64 c.nts,CY_ (c.prods.foldl (insC Ba_) [])]):=by
  refine Ab_ [] (fn:=Tryz.f148) Tryz.func148 rfl Tryz.call148 (by simp[Tryz.ntmps148]) (by simp[mx]) ?_
  intro hwf B hnt
  simp only[Tryz.ntmps148]at hnt
  have hgAnn:=Ao_ KO_ Tryz.mixed (aj2 @KO_.eq_1 Tryz.results148)
  have hw:wCnf c:=SD_ (by simpa[wfL,wfD]using hwf.1)
  obtain⟨hw1,hw2,hw3,hw4⟩:=hw
  clear hwf
  simp only[argS]
  (refine go1 aj0 aj0 (aj1 @dCnf.eq_1) ?_;intros;refine mk_i ?_)
  refine Am_ (X:={k:Nat//k≤c.prods.length}) (fun k=>⟨[(1,.ref (dCnf c)),(2,.bx 2 1 0),(3,.bx 3 1 0),(4,.int .i64 k.1)],[⟨2,1,.box [.int .i64 0,.nilsl]⟩,⟨3,1,.box [.int .i64 c.nts,CY_ ((c.prods.take k.1).foldl (insC Ba_) [])]⟩]⟩) (fun k=>c.prods.length-k.1) ⟨0,by simp⟩ (Sub.lit (by simp[dCnf,CY_])) ?_
  rintro⟨k,hk⟩
  by_cases hlt:k<c.prods.length
  ·obtain⟨p,hp,hp',hpm⟩:=Aq_ hlt
   have hfl:=foldP_len (c.prods.take k) []
   rw[aX0,List.length_nil]at hfl
   have h1:=Gb_ ((c.prods.take k).foldl (insC Ba_) []) p (Nat.le_trans (aO0 32 (by omega)) hw2)
   have htk:(c.prods.take (k+1)).foldl (insC Ba_) []=insC Ba_ ((c.prods.take k).foldl (insC Ba_) []) p:=by
    rw[bF0,hp];simp[cQ0]
   simp only[Af_]at h1
   have hA':CY_ (insC Ba_ ((c.prods.take k).foldl (insC Ba_) []) p)=Bh_ (insC Ba_ ((c.prods.take k).foldl (insC Ba_) []) p):=by unfold CY_;rw[if_neg (Pi_ _ _)]
   rw[hA']at h1
   obtain⟨Y,hY⟩:∃Y,Y=insC Ba_ ((c.prods.take k).foldl (insC Ba_) []) p:=⟨_,rfl⟩
   rw[←hY]at h1 hA'
   rcases CX_ ((c.prods.take k).foldl (insC Ba_) [])with hA | ⟨Z,hA⟩
   ·rw[hA]at h1
    rw[hA]
    (repeat (first | refine Ak_ fun K hK=> ?_ | (refine DW_r KO_ Tryz.mixed (by kernel_rfl) ?_;simp[KO_,hnt,dCnf,Af_,hlt,hp'];try simp (disch:=omega) only[Aa_]) | refine Ac_ ?_ | (refine As_ ?_ ?_ ?_;(· (simp[hnt,dCnf,Af_,hlt,hp'];done));(try (rotate_left;(· (intro hc;(try simp[hnt,dCnf,Af_,hlt,hp']at hc);done))))) | (refine Al_ ?_;simp[Tryz.results148,hnt,dCnf,Af_,hlt,hp']) | ((first | refine Ah_ ?_ | refine Ag_ ?_);simp[hnt,dCnf,Af_,hlt,hp']) | (intro hc;(try simp[hnt,dCnf,Af_,hlt,hp']at hc);(try (exfalso;omega))) | ((first | refine Ae_ (h1) ?_ | (refine Ad_ (h1) ?_ ?_;(· (simp;done))));try simp[hnt,dCnf,Af_,hlt,hp']) | (refine⟨?_,?_⟩; · omega) | omega | apply_assumption -exfalso -symm | (exfalso;omega)))
    refine Ap_.mk ⟨k+1,by omega⟩ (Sub.lit (by simp[htk,←hY,hA'])) (by simp;omega)
    skip
   ·rw[hA]at h1
    rw[hA]
    (refine go1 (aj1 h1) aj0 (aj4 @dCnf.eq_1 @Af_.eq_1 hlt hp') ?_;intros;refine mk_i ?_)
    refine Ap_.mk ⟨k+1,by omega⟩ (Sub.lit (by simp[htk,←hY,hA'])) (by simp;omega)
    skip
  ·have hkk:k=c.prods.length:=by omega
   subst hkk
   rw[aT0]
   rcases CX_ (c.prods.foldl (insC Ba_) [])with hA | ⟨Z,hA⟩
   ·rw[hA]
    exact go0 aj0 aj0 (aj2 @dCnf.eq_1 hA)
   ·rw[hA]
    exact go0 aj0 aj0 (aj2 @dCnf.eq_1 hA)
 refine key.wk ?_ (by simp[mx,dCnf])
 simp only[dCnf,CY_]
 split
 ·rename_i h0
  rw[h0];simp[Bh_]
 ·simp
end Go.Proofs.YtchgnpnbcjflcaaGreat
end
section
namespace Go.Proofs.YtchgnpnbcjflcaaGreat
open Go Go.Dm
attribute [local irreducible] DW Br_ Bu_
set_option maxRecDepth 100000
theorem stL_pw : ∀(xs:List Auto) (f:Nat),(∀a∈xs,1≤a.st)→((parA f xs).map (·.2)).Pairwise (· < ·)∧∀q∈(parA f xs).map (·.2),f≤q∧q<f+sumS xs
 | [],f,_=>by simp[parA]
 | a::xs,f,h=>by
  have h3:sumS (a::xs)=a.st.toNat+sumS xs:=by simp[sumS]
  have h4:=h a aI0
  obtain⟨h1,h2⟩:=stL_pw xs (f+a.st.toNat) fun x hx=>h x (aF0 _ hx)
  rw[parA,List.map_cons]
  refine⟨cG0.2 ⟨fun q hq=> ?_,h1⟩,fun q hq=> ?_⟩
  ·have:=h2 q hq;simp only;omega
  ·rcases aK0.1 hq with rfl | hq
   ·first | omega | (simp only;omega)
   ·have:=h2 q hq;omega
theorem nts_eq {xs:List Auto} (h:∀a∈xs,1≤a.st):xs.length+cntN xs (sumS xs)=sumS xs:=by
 obtain⟨h1,h2⟩:=stL_pw xs 0 h
 have h1':(stL xs).Pairwise (· < ·):=h1
 have h2':∀q∈stL xs,q<sumS xs:=fun q hq=>by have:=h2 q hq;omega
 have hp:((List.range (sumS xs)).filter fun p=>decide (p∈stL xs)).Perm (stL xs):=by
  refine(List.perm_ext_iff_of_nodup (List.nodup_range.filter _) (h1'.imp fun h=>Nat.ne_of_lt h)).2 fun q=> ?_
  rw[cL0,dP0]
  simp only[decide_eq_true_eq]
  exact⟨fun h=>h.2,fun h=>⟨h2' q h,h⟩⟩
 have hl:=hp.length_eq
 rw[Oh_]at hl
 have hs:∀l:List Nat,(l.filter fun p=>decide (p∈stL xs)).length+(l.filter fun p=>decide (¬p∈stL xs)).length=l.length:=by
  intro l
  induction l with
  | nil=>rfl
  | cons x l ih=>by_cases hx:x∈stL xs<;>simp[hx]at ih ⊢ <;>omega
 have:=hs (List.range (sumS xs))
 rw[eM0]at this
 unfold cntN
 omega
theorem nats_nums (l:List Nat):l.map natD=(l.map toI).map dNum:=by rw[cB0];rfl
theorem rinN_pure (l:List Nat) (q:Nat):Aj_ Tryz.prog 137 [BQ_ l,.int .i64 (q:Int)] (.bool (decide (q∈l))):=by
 have h:=XW_ (l.map toI) q
 rw[show CG_ (l.map toI)=BQ_ l by unfold CG_ BQ_;rw[nats_nums]]at h
 have he:decide ((q:Int)∈l.map toI)=decide (q∈l):=by
  refine decide_eq_decide.2 ?_
  rw[aW0]
  constructor
  ·rintro⟨x,hx,he⟩
   have:x=q:=by unfold toI at he;omega
   rw[←this];exact hx
  ·exact fun h=>⟨q,h,rfl⟩
 rw[he]at h
 exact h
def anCF253 : Ann:=⟨[],[]⟩
set_option maxHeartbeats 2000000 in
theorem QM_ (xs:List Auto) (q:Nat) (hl:xs.length≤16) (hs:sumS xs≤1040) (hq:q<sumS xs):Aj_ Tryz.prog 53 [refM xs,.int .i64 (q:Int)] (.int .i64 (ownQ xs q:Int)):=by
 refine Ab_ [] (fn:=Tryz.f53) Tryz.func53 rfl Tryz.call53 (by simp[Tryz.ntmps53]) (by simp[mx]) ?_
 intro hwf B hnt
 simp only[Tryz.ntmps53]at hnt
 have hgAnn:=Ao_ anCF253 Tryz.mixed (aj2 @anCF253.eq_1 Tryz.results53)
 clear hwf
 simp only[argS,refM]
 have hsl:=Oh_ xs
 have hnl:=OJ_ xs
 have e1:∀p:Nat,_:=fun p=>rinN_pure (stL xs) p
 (refine go1 aj0 aj0 aj0 ?_;intros;refine mk_i ?_)
 refine Am_ (X:={k:Nat//k≤q}) (fun k=>⟨[(1,.int .i64 (q:Int)),(2,.ref [.int .i64 (sumS xs),BQ_ (stL xs),BQ_ (ntL xs),CG_ (finA xs),Ch_ (arcA xs),Sa_ xs]),(5,.int .i64 ((xs.length+cntN xs k.1:Nat):Int)),(6,.int .i64 k.1)],[]⟩) (fun k=>q-k.1) ⟨0,by simp⟩ (Sub.lit (by simp[Sb_,hsl])) ?_
 rintro⟨k,hk⟩
 simp only
 by_cases hlt:k<q
 ·have e2:=e1 k
  have hcs:=Sc_ xs k
  have hcl:=TC_ xs k
  have hki:(k:Int)<(q:Int):=by omega
  have hwk:IntKind.i64.wrap ((k:Int)+1)=(k:Int)+1:=Aa_ (by omega) (by omega)
  by_cases hin:k∈stL xs
  ·rw[if_pos hin,cU0]at hcs
   rw[decide_eq_true hin]at e2
   (refine go1 (aj1 e2) aj0 (aj2 hki hwk) ?_;intros;refine mk_i ?_)
   refine Ap_.mk ⟨k+1,by omega⟩ (Sub.lit (by simp[hcs])) (by simp;omega)
   skip
  ·rw[if_neg hin]at hcs
   rw[decide_eq_false hin]at e2
   have hwn:IntKind.i64.wrap (((xs.length+cntN xs k:Nat):Int)+1)=((xs.length+cntN xs (k+1):Nat):Int):=by rw[Aa_ (by omega) (by omega),hcs];omega
   obtain⟨N,hN⟩:∃N,N=xs.length+cntN xs k:=⟨_,rfl⟩
   obtain⟨N2,hN2⟩:∃N,N=xs.length+cntN xs (k+1):=⟨_,rfl⟩
   rw[←hN,←hN2]at hwn
   rw[←hN]
   have hN3:(xs.length:Int)+(cntN xs (k+1):Int)=(N2:Int):=by omega
   (refine go1 (aj1 e2) aj0 (aj3 hki hwk hwn) ?_;intros;refine mk_i ?_)
   refine Ap_.mk ⟨k+1,by omega⟩ (Sub.lit (by simp[hN3])) (by simp;omega)
   skip
 ·have hkk:k=q:=by omega
  subst hkk
  have e2:=e1 k
  have hki:¬(k:Int)<(k:Int):=by omega
  by_cases hin:k∈stL xs
  ·rw[decide_eq_true hin]at e2
   obtain⟨j,hj⟩:∃j,(ntL xs)[k]? =some j:=⟨_,aH0 (by omega)⟩
   have how:=ownQ_in hin hj
   have hlt2:k<(ntL xs).length:=by omega
   have hj':(ntL xs)[k]'hlt2=j:=(aC0.1 hj).2
   rw[how]
   exact go0 (aj1 e2) aj0 (aj5 @natD.eq_1 hki hlt2 hj hj')
  ·rw[decide_eq_false hin]at e2
   have how:=UE_ hin
   rw[how]
   exact go0 (aj1 e2) aj0 (aj1 hki)
theorem Vp_ {α β:Type} (f:β→α→β) (b:β) {l:List α} {k:Nat} {x:α} (h:l[k]? =some x):(l.take (k+1)).foldl f b=f ((l.take k).foldl f b) x:=by
 rw[bF0,h,cQ0]
 rfl
def fin1 (xs:List Auto) (l:List Int):List Prod:=l.foldl (fun P q=>insC Ba_ P (pF xs q)) []
def arc1 (xs:List Auto) (P0:List Prod) (l:List Arc):List Prod:=l.foldl (fun P x=>insC Ba_ P (pA xs x)) P0
theorem Px_ (xs:List Auto):∀(l:List Int) (P:List Prod),(l.foldl (fun P q=>insC Ba_ P (pF xs q)) P).length≤P.length+l.length
 | [],P=>by simp
 | q::l,P=>by
  have h1:=Px_ xs l (insC Ba_ P (pF xs q))
  have h2:=LN_ (l:=P) (p:=pF xs q)
  rw[cM0,List.length_cons]
  omega
theorem VP_ (xs:List Auto):∀(l:List Arc) (P:List Prod),(arc1 xs P l).length≤P.length+l.length
 | [],P=>by simp[arc1]
 | x::l,P=>by
  have h1:=VP_ xs l (insC Ba_ P (pA xs x))
  have h2:=LN_ (l:=P) (p:=pA xs x)
  unfold arc1 at h1 ⊢
  rw[cM0,List.length_cons]
  omega
theorem arc1_fold (xs:List Auto):arc1 xs (fin1 xs (finA xs)) (arcA xs)=(cnfM xs).prods.foldl (insC Ba_) []:=by
 unfold arc1 fin1 cnfM
 rw[cQ0,List.foldl_map,List.foldl_map]
theorem bnd_q {a b:Nat} (h1:a≤1040+b) (h2:b≤17179870208):(a+1)*32≤150000000000000:=by omega
def anCF215 : Ann:=⟨[],[⟨9,[6],[],[]⟩]⟩
set_option maxHeartbeats 8000000 in
theorem XU_ (xs:List Auto) (hsm:∀a∈xs,SmA a) (hl:xs.length≤16):Aj_ Tryz.prog 15 [refM xs] (.agg [.int .i64 (sumS xs:Int),CY_ ((cnfM xs).prods.foldl (insC Ba_) [])]):=by
 refine Ab_ [] (fn:=Tryz.f15) Tryz.func15 rfl Tryz.call15 (by simp[Tryz.ntmps15]) (by simp[mx,mxL,mx_rowPd]) ?_
 intro hwf B hnt
 simp only[Tryz.ntmps15]at hnt
 have hgAnn:=Ao_ anCF215 Tryz.mixed (aj2 @anCF215.eq_1 Tryz.results15)
 clear hwf
 have hsl:=FH_ (l:=xs) fun a ha=>(hsm a ha).ok
 have hs10:sumS xs≤1040:=Nat.le_trans hsl (bT0 65 hl)
 have e1:∀q,q<sumS xs→_:=fun q hq=>QM_ xs q hl hs10 hq
 have hfin:∀q∈finA xs,0≤q∧q.toNat<sumS xs:=fun q hq=>finA_in hsm hq
 have harc:∀x∈arcA xs,0≤x.fr∧x.fr.toNat<sumS xs∧0≤x.to∧x.to.toNat<sumS xs:=fun x hx=>arcA_in hsm hx
 have hfl:(finA xs).length≤1040:=Nat.le_trans (IK_ hsm 0) (bT0 65 hl)
 have hal:(arcA xs).length≤17179870208:=Nat.le_trans (IW_ hsm 0) (bT0 1073741888 hl)
 rw[←arc1_fold]
 simp only[argS,refM]at e1 ⊢
 obtain⟨F,hF⟩:∃F,F=finA xs:=⟨_,rfl⟩
 rw[←hF]at e1 hfin hfl ⊢
 obtain⟨Z,hZ⟩:∃Z,Z=arcA xs:=⟨_,rfl⟩
 rw[←hZ]at e1 harc hal ⊢
 clear hF hZ hsl hsm
 have f0:CY_ (fin1 xs [])= .nilsl:=rfl
 (refine go1 aj0 aj0 aj0 ?_;intros;refine mk_i ?_)
 refine Am_ (X:={k:Nat//k≤F.length}) (fun k=>⟨[(1,.ref [.int .i64 (sumS xs),BQ_ (stL xs),BQ_ (ntL xs),CG_ F,Ch_ Z,Sa_ xs]),(2,.bx 2 1 0),(3,.bx 3 1 0),(4,.int .i64 k.1)],[⟨2,1,.box [.int .i64 0,.nilsl]⟩,⟨3,1,.box [.int .i64 (sumS xs),CY_ (fin1 xs (F.take k.1))]⟩]⟩) (fun k=>F.length-k.1) ⟨0,by simp⟩ (Sub.lit (by simp[f0])) ?_
 rintro⟨k,hk⟩
 simp only
 by_cases hlt:k<F.length
 ·obtain⟨q,hq1,hq1',hqm⟩:=Aq_ hlt
  obtain⟨q0,q1⟩:=hfin q hqm
  obtain⟨u,rfl⟩:∃u:Nat,q=(u:Int):=⟨q.toNat,by omega⟩
  rw[cW0]at q1
  have e2:=e1 u q1
  have hfk:fin1 xs (F.take (k+1))=insC Ba_ (fin1 xs (F.take k)) (pF xs u):=Vp_ _ _ hq1
  have hlk:(fin1 xs (F.take k)).length≤0+(F.take k).length:=Px_ xs (F.take k) []
  rw[aX0]at hlk
  obtain⟨P,hP⟩:∃P,P=fin1 xs (F.take k):=⟨_,rfl⟩
  rw[←hP]at hfk hlk ⊢
  have h1:=Gb_ P (pF xs u) (by omega)
  rw[←hfk]at h1
  have hp:Af_ (pF xs u)=[.int .i64 (ownQ xs u:Int),.sl 2 16 []]:=rfl
  rw[hp]at h1
  have hwk:IntKind.i64.wrap ((k:Int)+1)=(k:Int)+1:=Aa_ (by omega) (by omega)
  have hA':CY_ (fin1 xs (F.take (k+1)))=Bh_ (fin1 xs (F.take (k+1))):=by rw[hfk];unfold CY_;rw[if_neg (Pi_ _ _)]
  rw[hA']at h1
  obtain⟨Y,hY⟩:∃Y,Y=fin1 xs (F.take (k+1)):=⟨_,rfl⟩
  rw[←hY]at h1
  have hA2:CY_ (fin1 xs (F.take (k+1)))=Bh_ Y:=by rw[hA',hY]
  clear hal hfl harc hfin hlk hP hfk hs10 hA'
  rcases CX_ P with hA | ⟨Z2,hA⟩
  ·rw[hA]at h1
   rw[hA]
   (refine go1 (aj2 e2 h1) aj0 (aj5 @dNum.eq_1 hlt hq1 hq1' hwk) ?_;intros;refine mk_i ?_)
   refine Ap_.mk ⟨k+1,by omega⟩ (Sub.lit (by simp[hA2])) (by simp;omega)
   skip
  ·rw[hA]at h1
   rw[hA]
   (refine go1 (aj2 e2 h1) aj0 (aj5 @dNum.eq_1 hlt hq1 hq1' hwk) ?_;intros;refine mk_i ?_)
   refine Ap_.mk ⟨k+1,by omega⟩ (Sub.lit (by simp[hA2])) (by simp;omega)
   skip
 ·have hkk:k=F.length:=by omega
  subst hkk
  rw[aT0]
  have hl0:(fin1 xs F).length≤0+F.length:=Px_ xs F []
  obtain⟨P0,hP0⟩:∃P0,P0=fin1 xs F:=⟨_,rfl⟩
  rw[←hP0]at hl0 ⊢
  (refine go1 aj0 aj0 aj0 ?_;intros;refine mk_i ?_)
  refine Am_ (X:={k:Nat//k≤Z.length}) (fun k=>⟨[(1,.ref [.int .i64 (sumS xs),BQ_ (stL xs),BQ_ (ntL xs),CG_ F,Ch_ Z,Sa_ xs]),(2,.bx 2 1 0),(3,.bx 3 1 0),(5,.int .i64 k.1)],[⟨2,1,.box [.int .i64 0,.nilsl]⟩,⟨3,1,.box [.int .i64 (sumS xs),CY_ (arc1 xs P0 (Z.take k.1))]⟩]⟩) (fun k=>Z.length-k.1) ⟨0,by simp⟩ (Sub.lit (by rcases CX_ P0 with hh | ⟨_,hh⟩<;>simp[arc1,hh])) ?_
  rintro⟨k,hk⟩
  simp only
  by_cases hlt3:k<Z.length
  ·obtain⟨x,hx,hx',hxm⟩:=Aq_ hlt3
   obtain⟨x0,x1,x2,x3⟩:=harc x hxm
   obtain⟨fr,sy,to⟩:=x
   simp only at x0 x1 x2 x3
   obtain⟨u,rfl⟩:∃u:Nat,fr=(u:Int):=⟨fr.toNat,by omega⟩
   obtain⟨v,rfl⟩:∃v:Nat,to=(v:Int):=⟨to.toNat,by omega⟩
   rw[cW0]at x1 x3
   have e2:=e1 u x1
   have e3:=e1 v x3
   have hfk:arc1 xs P0 (Z.take (k+1))=insC Ba_ (arc1 xs P0 (Z.take k)) (pA xs ⟨(u:Int),sy,(v:Int)⟩):=Vp_ _ _ hx
   have hlk:=VP_ xs (Z.take k) P0
   rw[aX0]at hlk
   have hwk:IntKind.i64.wrap ((k:Int)+1)=(k:Int)+1:=Aa_ (by omega) (by omega)
   obtain⟨P,hP⟩:∃P,P=arc1 xs P0 (Z.take k):=⟨_,rfl⟩
   rw[←hP]at hfk hlk ⊢
   have hbq:(P.length+1)*32≤150000000000000:=bnd_q (b:=k) (by omega) (by omega)
   have h1:=Gb_ P (pA xs ⟨(u:Int),sy,(v:Int)⟩) hbq
   rw[←hfk]at h1
   have hp:Af_ (pA xs ⟨(u:Int),sy,(v:Int)⟩)=[.int .i64 (ownQ xs u:Int),.sl 2 16 [[.bool sy.label,.int .i64 sy.n],[.bool false,.int .i64 (ownQ xs v:Int)]]]:=rfl
   rw[hp]at h1
   have hA':CY_ (arc1 xs P0 (Z.take (k+1)))=Bh_ (arc1 xs P0 (Z.take (k+1))):=by rw[hfk];unfold CY_;rw[if_neg (Pi_ _ _)]
   rw[hA']at h1
   obtain⟨Y,hY⟩:∃Y,Y=arc1 xs P0 (Z.take (k+1)):=⟨_,rfl⟩
   rw[←hY]at h1
   have hA2:CY_ (arc1 xs P0 (Z.take (k+1)))=Bh_ Y:=by rw[hA',hY]
   have hr2:List.range 2=[0,1]:=rfl
   clear hal hfl harc hfin hlk hP hfk hs10 hA' hbq hl0
   rcases CX_ P with hA | ⟨Z2,hA⟩
   ·rw[hA]at h1
    rw[hA]
    (refine go1 (aj3 e2 e3 h1) aj0 (aj6 @dArc.eq_1 hlt3 hx hx' hwk hr2) ?_;intros;refine mk_i ?_)
    refine Ap_.mk ⟨k+1,by omega⟩ (Sub.lit (by simp[hA2])) (by simp;omega)
    skip
   ·rw[hA]at h1
    rw[hA]
    (refine go1 (aj3 e2 e3 h1) aj0 (aj6 @dArc.eq_1 hlt3 hx hx' hwk hr2) ?_;intros;refine mk_i ?_)
    refine Ap_.mk ⟨k+1,by omega⟩ (Sub.lit (by simp[hA2])) (by simp;omega)
    skip
  ·have hkk:k=Z.length:=by omega
   subst hkk
   rw[aT0]
   rcases CX_ (arc1 xs P0 Z)with hA | ⟨Z2,hA⟩
   ·have hA3:CY_ (arc1 xs (fin1 xs F) Z)= .nilsl:=by rw[←hP0];exact hA
    rw[hA]
    exact go0 aj0 aj0 (aj1 hA3)
   ·have hA3:CY_ (arc1 xs (fin1 xs F) Z)=Bh_ Z2:=by rw[←hP0];exact hA
    rw[hA]
    exact go0 aj0 aj0 (aj1 hA3)
end Go.Proofs.YtchgnpnbcjflcaaGreat
end
section
namespace Go.Proofs.YtchgnpnbcjflcaaGreat
open Go Go.Dm
variable [DMode]
attribute [local irreducible] DW Br_ Bu_
set_option maxRecDepth 100000
def PW_ : Ann:=⟨[],[]⟩
set_option maxHeartbeats 4000000 in
theorem HH_ (a b:Cnf):Aj_ Tryz.prog 14 [.agg (dCnf a),.agg (dCnf b)] (.bool (decide (a=b))):=by
 refine Ab_ [] (fn:=Tryz.f14) Tryz.func14 rfl Tryz.call14 (by simp[Tryz.ntmps14]) (by simp[mx]) ?_
 intro hwf B hnt
 simp only[Tryz.ntmps14]at hnt
 have hgAnn:=Ao_ PW_ Tryz.mixed (aj2 @PW_.eq_1 Tryz.results14)
 have hw:wCnf b:=SD_ (by simpa[wfL,wfD]using hwf.2.1)
 obtain⟨hw1,hw2,hw3,hw4⟩:=hw
 clear hwf
 simp only[argS]
 by_cases h0:a.nts=b.nts
 rotate_left
 ·have hne:a≠b:=fun h=>h0 (by rw[h])
  exact go0 aj0 aj0 (aj3 @dCnf.eq_1 h0 hne)
 by_cases hl:a.prods.length=b.prods.length
 rotate_left
 ·have hne:a≠b:=fun h=>hl (by rw[h])
  have hl':¬(b.prods.length:Int)=a.prods.length:=by omega
  exact go0 aj0 aj0 (aj5 @dCnf.eq_1 h0 hl hl' hne)
 (refine go1 aj0 aj0 (aj3 @dCnf.eq_1 h0 hl) ?_;intros;refine mk_i ?_)
 refine Am_ (X:={k:Nat//k≤b.prods.length∧a.prods.take k=b.prods.take k}) (fun x=>⟨[(2,.ref (dCnf a)),(3,.ref (dCnf b)),(5,.int .i64 x.1)],[]⟩) (fun x=>b.prods.length-x.1) ⟨0,by simp⟩ (Sub.lit (by simp[dCnf,h0])) ?_
 rintro⟨k,hk,he⟩
 by_cases hlt:k<b.prods.length
 ·obtain⟨q,hq,hq',hqm⟩:=Aq_ hlt
  obtain⟨p,hp,hp',hpm⟩:=Aq_ (l:=a.prods) (k:=k) (by omega)
  have hv:=Ok_ p.body q.body
  by_cases h1:p.head=q.head
  ·have hb:(p.head != q.head)=false:=by simp[h1]
   by_cases h2:p.body=q.body
   ·rw[h2]at hv
    have hnx:=JB_ he hp (by rw[hq];cases p;cases q;simp_all)
    clear hp hq
    (refine go1 (aj1 hv) aj0 (aj9 @dCnf.eq_1 @Af_.eq_1 hl hp' hq' hlt h1 h2 hb) ?_;intros;refine mk_i ?_)
    refine Ap_.mk ⟨k+1,by omega,hnx⟩ (Sub.lit (by simp[])) (by simp;omega)
    skip
   ·have hne:a≠b:=fun h=>by subst h;rw[hp]at hq;simp_all
    clear hp hq
    exact go0 (aj1 hv) aj0 (aj10 @dCnf.eq_1 @Af_.eq_1 hl hp' hq' hlt h1 h2 hb hne)
  ·have hb:(p.head != q.head)=true:=by simp[h1]
   have hne:a≠b:=fun h=>by subst h;rw[hp]at hq;simp_all
   clear hp hq
   exact go0 (aj1 hv) aj0 (aj9 @dCnf.eq_1 @Af_.eq_1 hl hp' hq' hlt h1 hb hne)
 ·have:k=b.prods.length:=by omega
  subst this
  have hab:a=b:=by
   rw[bX0 (by omega),bX0 (by omega)]at he
   cases a;cases b;simp_all
  (repeat (first | refine Ak_ fun K hK=> ?_ | (refine DW_r PW_ Tryz.mixed (by kernel_rfl) ?_;simp[PW_,hnt,dCnf,hab];try simp (disch:=omega) only[Aa_]) | refine Ac_ ?_ | (refine As_ ?_ ?_ ?_;(· (simp[hnt,dCnf,hab];done));(try (rotate_left;(· (intro hc;(try simp[hnt,dCnf,hab]at hc);done))))) | (refine Al_ ?_;simp[Tryz.results14,hnt,dCnf,hab]) | ((first | refine Ah_ ?_ | refine Ag_ ?_);simp[hnt,dCnf,hab]) | (intro hc;(try simp[hnt,dCnf,hab]at hc);(try (exfalso;omega))) | ((first | refine Ae_ (hv) ?_ | (refine Ad_ (hv) ?_ ?_;(· (simp;done))));try simp[hnt,dCnf,hab]) | (refine⟨?_,?_⟩; · omega) | omega | apply_assumption -exfalso -symm | (exfalso;omega)))
def KK_ : Ann:=⟨[],[]⟩
theorem Kc_ (g:FuncId) (us cs:List DVal) (l:List Sym) (q:Sym→Bool) (hq:∀x∈l,Aj_ Tryz.prog g (us++[.agg (dSym x)]++cs) (.bool (q x))) :
  Aj_ Tryz.prog 198 [AM_ l,.fn (.func g) us cs] (.int .i64 (if l.any q then ((l.findIdx q:Nat):Int)else -1)):=by
 refine Ab_ [] (fn:=Tryz.f198) Tryz.func198 rfl Tryz.call198 (by simp[Tryz.ntmps198]) (by simp[mx]) ?_
 intro hwf B hnt
 simp only[Tryz.ntmps198]at hnt
 have hgAnn:=Ao_ KK_ Tryz.mixed (aj2 @KK_.eq_1 Tryz.results198)
 have hw:XG_ l:=Ql_ hwf.1
 obtain⟨hw1,hw2,hw3⟩:=hw
 clear hwf hw3
 simp only[argS]
 (refine go1 aj0 aj0 aj0 ?_;intros;refine mk_i ?_)
 refine Am_ (X:={k:Nat//k≤l.length∧∀i x,i<k→l[i]? =some x→q x=false}) (fun x=>⟨[(0,AM_ l),(1,.fn (.func g) us cs),(7,.int .i64 l.length),(8,.int .i64 x.1)],[]⟩) (fun x=>l.length-x.1) ⟨0,by simp⟩ (Sub.lit (by simp)) ?_
 rintro⟨k,hk,hno⟩
 by_cases hlt:k<l.length
 ·obtain⟨x,hx,hx',hxm⟩:=Aq_ hlt
  have hqx:=hq x hxm
  simp only[dSym,aU0,List.cons_append,List.nil_append]at hqx
  cases hb:q x
  ·rw[hb]at hqx
   have hno':∀i y,i<k+1→l[i]? =some y→q y=false:=by
    intro i y hi hy
    by_cases hik:i=k
    ·subst hik;rw[hx]at hy;simp only[aA0]at hy;subst hy;exact hb
    ·exact hno i y (by omega) hy
   (refine go1 (aj1 hqx) aj0 (aj3 @dSym.eq_1 hlt hx') ?_;intros;refine mk_i ?_)
   exact Ap_.mk ⟨k+1,by omega,hno'⟩ (Sub.lit (by simp[])) (by simp;omega)
   skip
  ·rw[hb]at hqx
   have hany:l.any q=true:=bY0.2 ⟨x,hxm,hb⟩
   have hidx:l.findIdx q=k:=by
    rw[List.findIdx_eq hlt]
    refine⟨by rw[hx'];exact hb,fun i hi=> ?_⟩
    exact hno i _ hi (aH0 (by omega))
   exact go0 (aj1 hqx) aj0 (aj5 @dSym.eq_1 hlt hx' hany hidx)
 ·have hkk:k=l.length:=by omega
  have hany:l.any q=false:=by
   rw[dE0]
   intro x hx
   obtain⟨i,hi,rfl⟩:=bN0 hx
   rw[hno i _ (by omega) (aH0 hi)]
   simp
  (repeat (first | refine Ak_ fun K hK=> ?_ | (refine DW_r KK_ Tryz.mixed (by kernel_rfl) ?_;simp[KK_,hnt,dSym,hkk,hany];try simp (disch:=omega) only[Aa_]) | refine Ac_ ?_ | (refine As_ ?_ ?_ ?_;(· (simp[hnt,dSym,hkk,hany];done));(try (rotate_left;(· (intro hc;(try simp[hnt,dSym,hkk,hany]at hc);done))))) | (refine Al_ ?_;simp[Tryz.results198,hnt,dSym,hkk,hany]) | ((first | refine Ah_ ?_ | refine Ag_ ?_);simp[hnt,dSym,hkk,hany]) | (intro hc;(try simp[hnt,dSym,hkk,hany]at hc);(try (exfalso;omega))) | ((first | refine Ae_ (hqx) ?_ | (refine Ad_ (hqx) ?_ ?_;(· (simp;done))));try simp[hnt,dSym,hkk,hany]) | (refine⟨?_,?_⟩; · omega) | omega | apply_assumption -exfalso -symm | (exfalso;omega)))
def Wo_ : Ann:=⟨[],[]⟩
theorem HU_ (g:FuncId) (us cs:List DVal) (l:List Sym) (q:Sym→Bool) (hq:∀x∈l,Aj_ Tryz.prog g (us++[.agg (dSym x)]++cs) (.bool (q x))) :
  Aj_ Tryz.prog 127 [AM_ l,.fn (.func g) us cs] (.bool (l.any q)):=by
 refine Ab_ [] (fn:=Tryz.f127) Tryz.func127 rfl Tryz.call127 (by simp[Tryz.ntmps127]) (by simp[mx]) ?_
 intro hwf B hnt
 simp only[Tryz.ntmps127]at hnt
 have hgAnn:=Ao_ Wo_ Tryz.mixed (aj2 @Wo_.eq_1 Tryz.results127)
 simp only[argS]
 have hi:=Kc_ g us cs l q hq
 have hge:(0:Int)≤(l.findIdx q:Nat):=by omega
 cases hb:l.any q
 ·rw[hb]at hi
  exact go0 (aj1 hi) aj0 (aj1 hb)
 ·rw[hb]at hi
  exact go0 (aj1 hi) aj0 (aj1 hb)
def ntOK (c:Cnf) (n:Int):Bool:=decide (0≤n)&&decide (n<c.nts)
def CJ_ (c:Cnf) (s:Sym):Bool:=s.label&&(decide (s.n<0)||decide (16≤s.n))|| !s.label&& !ntOK c s.n
def Cb_ (c:Cnf) (p:Prod):Bool:=ntOK c p.head&& !p.body.any (CJ_ c)
def BI_ (c:Cnf):Bool:=decide (1≤c.nts)&&decide (c.nts≤1024)&&c.prods.all (Cb_ c)
def Wr_ : Ann:=⟨[],[]⟩
theorem Dc_ (c:Cnf) (n:Int):Aj_ Tryz.prog 126 [.int .i64 n,.ref [.int .i64 c.nts,Bh_ c.prods]] (.bool (ntOK c n)):=by
 refine Ab_ [] (fn:=Tryz.f126) Tryz.func126 rfl Tryz.call126 (by simp[Tryz.ntmps126]) (by simp[mx]) ?_
 intro hwf B hnt
 simp only[Tryz.ntmps126]at hnt
 have hgAnn:=Ao_ Wr_ Tryz.mixed (aj2 @Wr_.eq_1 Tryz.results126)
 simp only[argS]
 by_cases h1:0≤n<;>by_cases h2:n<c.nts<;>exact go0 aj0 aj0 (aj3 h1 h2 @ntOK.eq_1)
abbrev dNt (c:Cnf):DVal:= .fn (.func 126) [] [.ref [.int .i64 c.nts,Bh_ c.prods]]
def Wq_ : Ann:=⟨[],[]⟩
theorem TH_ (c:Cnf) (s:Sym):Aj_ Tryz.prog 128 [.agg [.bool s.label,.int .i64 s.n],.ref [dNt c]] (.bool (CJ_ c s)):=by
 refine Ab_ [] (fn:=Tryz.f128) Tryz.func128 rfl Tryz.call128 (by simp[Tryz.ntmps128]) (by simp[mx]) ?_
 intro hwf B hnt
 simp only[Tryz.ntmps128]at hnt
 have hgAnn:=Ao_ Wq_ Tryz.mixed (aj2 @Wq_.eq_1 Tryz.results128)
 simp only[argS]
 cases hl:s.label
 ·cases hb:ntOK c s.n<;>exact go0 (aj1 (Dc_ c s.n)) aj0 (aj3 hl hb @CJ_.eq_1)
 ·by_cases h1:s.n<0<;>by_cases h2:16≤s.n<;>exact go0 (aj1 (Dc_ c s.n)) aj0 (aj4 hl h1 h2 @CJ_.eq_1)
def Jx_ : Ann:=⟨[],[⟨1,[3],[],[]⟩,⟨5,[6],[],[]⟩]⟩
set_option maxHeartbeats 4000000 in
theorem EF_ (c:Cnf):Aj_ Tryz.prog 43 [.agg (dCnf c)] (.int .i64 (if BI_ c then 0 else 220)):=by
 refine Ab_ [] (fn:=Tryz.f43) Tryz.func43 rfl Tryz.call43 (by simp[Tryz.ntmps43]) (by simp[mx]) ?_
 intro hwf B hnt
 simp only[Tryz.ntmps43]at hnt
 have hgAnn:=Ao_ Jx_ Tryz.mixed (aj2 @Jx_.eq_1 Tryz.results43)
 have hw:wCnf c:=SD_ (by simpa[wfL,wfD]using hwf.1)
 obtain⟨hw1,hw2,hw3,hw4⟩:=hw
 clear hwf hw1
 simp only[argS]
 have Fz_:∀k,(hk:k<c.prods.length)→(c.prods.take (k+1)).all (Cb_ c)=((c.prods.take k).all (Cb_ c)&&Cb_ c c.prods[k]):=by
  intro k hk
  rw[eL0 hk,eU0];simp
 obtain⟨b0,hb0⟩:∃b0:Bool,b0=(decide (1≤c.nts)&&decide (c.nts≤1024)):=⟨_,rfl⟩
 have hfin:BI_ c=(b0&&c.prods.all (Cb_ c)):=by rw[hb0];rfl
 by_cases h1:1≤c.nts<;>by_cases h2:c.nts≤1024<;>simp only[h1,h2,decide_true,decide_false,Bool.and_true,dQ0]at hb0<;>(repeat (first | refine Ak_ fun K hK=> ?_ | (refine DW_r Jx_ Tryz.mixed (by kernel_rfl) ?_;simp[Jx_,hnt,dCnf,h1,h2];try simp (disch:=omega) only[Aa_]) | refine Ac_ ?_ | (refine As_ ?_ ?_ ?_;(· (simp[hnt,dCnf,h1,h2];done));(try (rotate_left;(· (intro hc;(try simp[hnt,dCnf,h1,h2]at hc);done))))) | (refine Al_ ?_;simp[Tryz.results43,hnt,dCnf,h1,h2]) | ((first | refine Ah_ ?_ | refine Ag_ ?_);simp[hnt,dCnf,h1,h2]) | (intro hc;(try simp[hnt,dCnf,h1,h2]at hc);(try (exfalso;omega))) | (refine⟨?_,?_⟩; · omega) | omega | apply_assumption -exfalso -symm | (exfalso;omega)))
 all_goals
  refine Am_ (X:={k:Nat//k≤c.prods.length}) (fun k=>⟨[(1,.ref [.int .i64 c.nts,Bh_ c.prods]),(3,.ref [dNt c]),(4,.bool (b0&&(c.prods.take k.1).all (Cb_ c))),(17,Bh_ c.prods),(18,.int .i64 c.prods.length),(19,.int .i64 k.1)],[]⟩) (fun k=>c.prods.length-k.1) ⟨0,by simp⟩ (Sub.lit (by simp[hb0])) ?_
  rintro⟨k,hk⟩
  by_cases hlt:k<c.prods.length
  ·obtain⟨p,hp,hp',hpm⟩:=Aq_ hlt
   have hst:=Fz_ k hlt
   rw[hp']at hst
   obtain⟨b,hb⟩:∃b:Bool,b=(b0&&(c.prods.take k).all (Cb_ c)):=⟨_,rfl⟩
   have hb1:(b0&&(c.prods.take (k+1)).all (Cb_ c))=(b&&Cb_ c p):=by rw[hst,hb,Bool.and_assoc]
   have hq:=HU_ 128 [] [.ref [dNt c]] p.body (CJ_ c) (fun x _=>TH_ c x)
   simp only[←hb]
   cases b
   ·(refine go1 (aj2 (Dc_ c p.head) hq) aj0 (aj5 @dCnf.eq_1 @Af_.eq_1 hlt hp' hb1) ?_;intros;refine mk_i ?_)
    refine Ap_.mk ⟨k+1,by omega⟩ (Sub.lit (by simp[hb1])) (by simp;omega)
    skip
   ·cases hn:ntOK c p.head
    ·(refine go1 (aj2 (Dc_ c p.head) hq) aj0 (aj6 @dCnf.eq_1 @Af_.eq_1 hlt hp' hb1 hn) ?_;intros;refine mk_i ?_)
     refine Ap_.mk ⟨k+1,by omega⟩ (Sub.lit (by simp[hb1,Cb_,hn])) (by simp;omega)
     skip
    ·cases ha:p.body.any (CJ_ c)
     ·rw[ha]at hq
      (refine go1 (aj2 (Dc_ c p.head) hq) aj0 (aj7 @dCnf.eq_1 @Af_.eq_1 hlt hp' hb1 hn ha) ?_;intros;refine mk_i ?_)
      refine Ap_.mk ⟨k+1,by omega⟩ (Sub.lit (by simp[hb1,Cb_,hn,ha])) (by simp;omega)
      skip
     ·rw[ha]at hq
      (refine go1 (aj2 (Dc_ c p.head) hq) aj0 (aj7 @dCnf.eq_1 @Af_.eq_1 hlt hp' hb1 hn ha) ?_;intros;refine mk_i ?_)
      refine Ap_.mk ⟨k+1,by omega⟩ (Sub.lit (by simp[hb1,Cb_,hn,ha])) (by simp;omega)
      skip
  ·have hkk:k=c.prods.length:=by omega
   subst hkk
   rw[aT0]at *
   cases hcn:BI_ c<;>rw[hcn]at hfin<;>(repeat (first | refine Ak_ fun K hK=> ?_ | (refine DW_r Jx_ Tryz.mixed (by kernel_rfl) ?_;simp[Jx_,hnt,dCnf,hcn,←hfin];try simp (disch:=omega) only[Aa_]) | refine Ac_ ?_ | (refine As_ ?_ ?_ ?_;(· (simp[hnt,dCnf,hcn,←hfin];done));(try (rotate_left;(· (intro hc;(try simp[hnt,dCnf,hcn,←hfin]at hc);done))))) | (refine Al_ ?_;simp[Tryz.results43,hnt,dCnf,hcn,←hfin]) | ((first | refine Ah_ ?_ | refine Ag_ ?_);simp[hnt,dCnf,hcn,←hfin]) | (intro hc;(try simp[hnt,dCnf,hcn,←hfin]at hc);(try (exfalso;omega))) | (refine⟨?_,?_⟩; · omega) | omega | apply_assumption -exfalso -symm | (exfalso;omega)))
end Go.Proofs.YtchgnpnbcjflcaaGreat
end
section
namespace Go.Proofs.YtchgnpnbcjflcaaGreat
open Go Go.Dm
attribute [local irreducible] DW Br_ Bu_
set_option maxRecDepth 100000
theorem Up_ (xs:List Auto) (hsm:∀a∈xs,SmA a) (hl:xs.length≤16):Aj_ Tryz.prog 15 [refM xs] (.agg (dCnf (Cd_ (cnfM xs)))):=by
 have hst1:∀a∈xs,1≤a.st:=fun a ha=>(MR_ (hsm a ha).ok).1
 have he:Cd_ (cnfM xs)=⟨(sumS xs:Int),(cnfM xs).prods.foldl (insC Ba_) []⟩:=by
  unfold Cd_
  rw[Ps_ Jl_]
  have h1:(cnfM xs).nts=((xs.length+cntN xs (sumS xs):Nat):Int):=rfl
  rw[h1,nts_eq hst1]
 rw[he]
 refine(XU_ xs hsm hl).wk ?_ (by simp[mx,dCnf])
 simp only[dCnf,CY_]
 split
 ·rename_i h0
  rw[h0];simp[Bh_]
 ·simp
def WX_ : Ann:=⟨[],[]⟩
def anCF336 : Ann:=⟨[],[]⟩
def anCF311 : Ann:=⟨[],[⟨22,[12],[],[]⟩]⟩
theorem Mp_ : Aj_ Tryz.prog 11 [.nilp] (.tup [.agg [.int .i64 0,.nilsl],.int .i64 1]):=by
 have e1:Aj_ Tryz.prog 36 [.nilp] (.int .i64 0):=by
  have e0:Aj_ Tryz.prog 113 [.nilp] (.bool false):=by
   refine Ab_ [] (fn:=Tryz.f113) Tryz.func113 rfl Tryz.call113 (by simp[Tryz.ntmps113]) (by simp[mx]) ?_
   intro hwf B hnt
   simp only[Tryz.ntmps113]at hnt
   have hgAnn:=Ao_ WX_ Tryz.mixed (aj2 @WX_.eq_1 Tryz.results113)
   clear hwf
   simp only[argS]
   exact go0 aj0 aj0 aj0
  refine Ab_ [] (fn:=Tryz.f36) Tryz.func36 rfl Tryz.call36 (by simp[Tryz.ntmps36]) (by simp[mx]) ?_
  intro hwf B hnt
  simp only[Tryz.ntmps36]at hnt
  have hgAnn:=Ao_ anCF336 Tryz.mixed (aj2 @anCF336.eq_1 Tryz.results36)
  clear hwf
  simp only[argS]
  exact go0 (aj1 e0) aj0 aj0
 refine Ab_ [2] (fn:=Tryz.f11) Tryz.func11 rfl Tryz.call11 (by simp[Tryz.ntmps11]) (by simp[mx,mxL]) ?_
 intro hwf B hnt
 simp only[Tryz.ntmps11]at hnt
 have hgAnn:=Ao_ anCF311 Tryz.mixed (aj2 @anCF311.eq_1 Tryz.results11)
 clear hwf
 simp only[argS]
 exact go0 (aj1 e1) aj0 aj0
def anCF312 : Ann:=⟨[],[⟨1,[1],[],[]⟩]⟩
theorem Sd_ : Aj_ Tryz.prog 12 [] (.bool true):=by
 refine Ab_ [] (fn:=Tryz.f12) Tryz.func12 rfl Tryz.call12 (by simp[Tryz.ntmps12]) (by simp[mx]) ?_
 intro hwf B hnt
 simp only[Tryz.ntmps12]at hnt
 have hgAnn:=Ao_ anCF312 Tryz.mixed (aj2 @anCF312.eq_1 Tryz.results12)
 clear hwf
 simp only[argS]
 have e1:=Mp_
 have e2:Aj_ Tryz.prog 43 [.agg [.int .i64 0,.sl 2 32 []]] (.int .i64 220):=by
  have h:=EF_ ⟨0,[]⟩
  rw[show BI_ ⟨0,[]⟩=false by decide]at h
  exact h
 have e3:Aj_ Tryz.prog 43 [.agg [.int .i64 1,.sl 2 32 []]] (.int .i64 0):=by
  have h:=EF_ ⟨1,[]⟩
  rw[show BI_ ⟨1,[]⟩=true by decide]at h
  exact h
 exact go0 (aj3 e1 e2 e3) aj0 aj0
theorem Ue_ {xs:List Auto} (h:∀a∈xs,SmA a) (hn:xs.length≠0):1≤sumS xs:=by
 cases xs with
 | nil=>simp at hn
 | cons a xs =>
  have h3:sumS (a::xs)=a.st.toNat+sumS xs:=by simp[sumS]
  have:=(MR_ (h a aI0).ok).1
  omega
def WW_ : Ann:=⟨[],[⟨2,[5],[],[]⟩]⟩
set_option maxHeartbeats 4000000 in
theorem Sf_ (g:List Rul) (hs:SmlG g) (hl:g.length*40≤140737488355328):Aj_ Tryz.prog 3 [AC_ g] (.bool true):=by
 obtain⟨c,p1,p2,p3⟩:=g_may g hs
 have e5:=Sd_
 by_cases hcz:c=0
 ·obtain⟨gt,rfl,h⟩:=p3 hcz
  subst hcz
  have e1:=Nv_ gt h hs p1
  have e2:=Ln_ gt h hs
  have hsm:=PP_ h
  have hal:=IU_ gt
  have hhd:=h.hd
  have hne:=Pp_ h
  obtain⟨A,hA⟩:∃A,A=autL gt:=⟨_,rfl⟩
  rw[←hA]at e1 e2 hsm hal
  have hA16:A.length≤16:=by omega
  have e3:=JV_ (AB_ (mkG gt)) (AA_ (mkG gt)) A hsm hA16 (by omega) (Ue_ hsm (by omega))
  have e4:=Up_ A hsm hA16
  have e6:=HH_ (Cd_ (cnfM A)) (Cd_ (cnfM A))
  simp only[decide_true]at e6
  unfold Dt_ at e1 e3
  unfold refM at e2 e4
  obtain⟨NC,hNC⟩:∃NC,NC=Cd_ (cnfM A):=⟨_,rfl⟩
  rw[←hNC]at e3 e4 e6
  simp only[dCnf]at e3 e4 e6
  refine Ab_ [] (fn:=Tryz.f3) Tryz.func3 rfl Tryz.call3 (by simp[Tryz.ntmps3]) (by simp[mx]) ?_
  intro hwf B hnt
  simp only[Tryz.ntmps3]at hnt
  have hgAnn:=Ao_ WW_ Tryz.mixed (aj2 @WW_.eq_1 Tryz.results3)
  clear hwf
  simp only[argS]
  exact go0 (aj7 e1 e2 e3 e4 e5 e6 p2) aj0 aj0
 ·have e1:=Rg_ g c hcz p1
  have e2:=Mp_
  have hcb:(c==0)=false:=by simpa using hcz
  refine Ab_ [] (fn:=Tryz.f3) Tryz.func3 rfl Tryz.call3 (by simp[Tryz.ntmps3]) (by simp[mx]) ?_
  intro hwf B hnt
  simp only[Tryz.ntmps3]at hnt
  have hgAnn:=Ao_ WW_ Tryz.mixed (aj2 @WW_.eq_1 Tryz.results3)
  clear hwf
  simp only[argS]
  exact go0 (aj4 e1 e2 e5 p2) aj0 (aj2 hcz hcb)
end Go.Proofs.YtchgnpnbcjflcaaGreat
end
section
namespace Go.Dm
variable [DMode]
inductive Sh where
 | b
 | i (k:IntKind)
 | s
 | sl (k bs:Nat) (c:List Sh)
mutual
def HasS (L:Nat):Sh→DVal→Prop
 | .b,d=>∃b,d= .bool b
 | .i k,d=>∃n,d= .int k n
 | .s,d=>∃x:ByteArray,d= .str x∧x.size≤L
 | .sl k bs c,d=>∃es,d= .sl k bs es∧es.length*bs≤L∧∀e∈es,HasL L c e
def HasL (L:Nat):List Sh→List DVal→Prop
 | [],ds=>ds=[]
 | x::r,ds=>∃d t,ds=d::t∧HasS L x d∧HasL L r t
end
theorem ME_ {L:Nat}:∀{a b:List Sh} {x y:List DVal},HasL L a x→HasL L b y→HasL L (a++b) (x++y)
 | [],b,x,y,h,k=>by simp only[HasL]at h;subst h;exact k
 | a::r,b,x,y,h,k=>by
  simp only[HasL]at h
  obtain⟨d,t,rfl,h1,h2⟩:=h
  simp only[List.cons_append,HasL]
  exact⟨d,t++y,rfl,h1,ME_ h2 k⟩
def shF (g:TypeId→Option (List Sh)) (cells:TypeId→Nat):List Field→Nat→Option (List Sh×Nat)
 | [],off=>some ([],off)
 | f::r,off=>if f.offset=off then
  (match g f.type,shF g cells r (off+cells f.type)with
  | some c,some (l,e)=>some (c++l,e)
  | _,_=>none)else none
def shOf (P:Program):Nat→TypeId→Option (List Sh)
 | 0,_=>none
 | n+1,t=>match P.underlying t with
  | some .bool=>some [.b]
  | some (.int k)=>some [.i k]
  | some .string=>some [.s]
  | some (.slice e)=>if 0<P.cellsOf e then (shOf P n e).map fun c=>[.sl (P.cellsOf e) (P.bytesOf e) c]else none
  | some (.struct fs)=>match shF (shOf P n) P.cellsOf fs.toList 0 with
   | some (l,e)=>if e=P.cellsOf t then some l else none
   | none=>none
  | _=>none
theorem LI_ {α β:Type} {f:α→Option β}:∀{l:List α} {r:List β},l.mapM f=some r→r.length=l.length∧∀(i:Nat) (x:α),l[i]? =some x→∃y,r[i]? =some y∧f x=some y
 | [],r,h=>by simp at h;subst h;simp
 | a::l,r,h=>by
  rw[List.mapM_cons]at h
  cases hf:f a with
  | none=>rw[hf]at h;simp at h
  | some y =>
   rw[hf]at h
   cases hm:l.mapM f with
   | none=>rw[hm]at h;simp at h
   | some r' =>
    rw[hm]at h
    simp at h
    subst h
    obtain⟨h1,h2⟩:=LI_ hm
    refine⟨by simp[h1],fun i x hx=> ?_⟩
    cases i with
    | zero=>simp only[bD0,aA0]at hx;subst hx;exact⟨y,rfl,hf⟩
    | succ i=>simp only[bJ0]at hx ⊢;exact h2 i x hx
theorem rdV_len {cur:Cur} {M:List Nat} {h:Array Obj}:∀{a:List DVal} {x:List Value},rdV cur M h a x→a.length=x.length
 | [],x,h1=>by simp only[rdV]at h1;subst h1;rfl
 | d::a,x,h1=>by
  simp only[rdV]at h1
  obtain⟨v,r,rfl,h3,h4⟩:=h1
  simp[rdV_len h4]
theorem Nq_ {cur:Cur} {M:List Nat} {h:Array Obj} {arr:Array Value}:∀{a:List DVal} {x:List Value} {o:Nat},rdV cur M h a x→(∀v∈x,v.oneCell'=true)→(∀(j:Nat) v,x[j]? =some v→arr[o+j]? =some v)→rdC cur M h a arr o
 | [],x,o,h1,_,_=>by simp[rdC]
 | d::a,x,o,h1,h2,h3=>by
  simp only[rdV]at h1
  obtain⟨v,r,rfl,h4,h5⟩:=h1
  simp only[rdC]
  refine⟨⟨v,by simpa using h3 0 v rfl,h2 v (by simp),h4⟩,Nq_ h5 (fun u hu=>h2 u (by simp[hu])) fun j u hu=> ?_⟩
  have:=h3 (j+1) u (by simpa using hu)
  rw[←this];congr 1;omega
theorem rows_of {L:Nat} {cur:Cur} {M:List Nat} {h:Array Obj} {arr:Array Value} {k:Nat} {c:List Sh}:∀(len off:Nat),(∀i,i<len→∃ds,ds.length=k∧rdC cur M h ds arr (off+i*k)∧HasL L c ds) →
  ∃es,es.length=len∧rdR cur M h k es arr off∧∀e∈es,HasL L c e
 | 0,off,_=>⟨[],rfl,by simp[rdR],by simp⟩
 | len+1,off,hh=>by
  obtain⟨ds,h1,h2,h3⟩:=hh 0 (by omega)
  obtain⟨es,h4,h5,h6⟩:=rows_of len (off+k) (fun i hi=>by
   obtain⟨ds,h1,h2,h3⟩:=hh (i+1) (by omega)
   refine⟨ds,h1,?_,h3⟩
   have:off+k+i*k=off+(i+1)*k:=by rw[bV0];omega
   rw[this];exact h2)
  refine⟨ds::es,by simp[h4],?_,?_⟩
  ·simp only[rdR];exact⟨h1,by simpa using h2,h5⟩
  ·intro e he
   rcases aK0.1 he with rfl | he
   ·exact h3
   ·exact h6 e he
theorem inR_of_wf {k:IntKind} {n:Int} (h:(Lit.int k n).wf=true):inR k n:=by
 cases k<;>simpa[Lit.wf,IntKind.min,IntKind.max,IntKind.signed,IntKind.bits,inR]using h
theorem Ug_ {g:TypeId→Option (List Sh)} {cells:TypeId→Nat}:∀{fs:List Field} {off e:Nat} {l:List Sh},shF g cells fs off=some (l,e)→off≤e
 | [],off,e,l,h=>by simp only[shF,aA0,aV0]at h;omega
 | f::r,off,e,l,h=>by
  simp only[shF]at h
  split at h
  ·split at h
   ·rename_i c l' e' h1 h2
    simp only[aA0,aV0]at h
    have:=Ug_ h2
    omega
   ·simp at h
  ·simp at h
section
variable {H : Type} {enc : TypeId × Value → H} {P : Program} {w : World} {cur : Cur}
def RdArg (L:Nat) (P:Program) (cur:Cur) (w:World) (cs:List Value) (shs:List Sh):Prop :=
 ∃ds,rdV cur [] w.heap ds cs∧(∀v∈cs,v.oneCell'=true)∧HasL L shs ds
theorem RO_ {L fuel n:Nat} (ih:∀{t:TypeId} {cs:List Value} {d:DataW H} {ps:List MemPlace} {shs:List Sh},DataW.trod enc P w 0 (fun _=>true) true fuel t cs=some (d,ps)→shOf P n t=some shs→(∀x∈d.weights P t,x≤L)→RdArg L P cur w cs shs)
  (cs:List Value):∀(fs:List Field) (off e:Nat) (l:List Sh) (xs:List (DataW H×List MemPlace)),
   fs.mapM (fun f=>DataW.trod enc P w 0 (fun _=>true) true fuel f.type ((cs.drop f.offset).take (P.cellsOf f.type)))=some xs→shF (shOf P n) P.cellsOf fs off=some (l,e) →
   (∀x∈DataW.weightsEach P (fs.map (·.type)) (xs.map (·.1)),x≤L)→RdArg L P cur w ((cs.drop off).take (e-off)) l
 | [],off,e,l,xs,h1,h2,h3=>by
  simp only[shF,aA0,aV0]at h2
  obtain⟨rfl,rfl⟩:=h2
  exact⟨[],by simp[rdV],by simp,by simp[HasL]⟩
 | f::fs,off,e,l,xs,h1,h2,h3=>by
  rw[List.mapM_cons]at h1
  simp only[shF]at h2
  split at h2
  ·rename_i hoff
   split at h2
   ·rename_i c l' e' h4 h5
    simp only[aA0,aV0]at h2
    obtain⟨rfl,rfl⟩:=h2
    have hm:=Ug_ h5
    cases hf:DataW.trod enc P w 0 (fun _=>true) true fuel f.type ((cs.drop f.offset).take (P.cellsOf f.type))with
    | none=>rw[hf]at h1;simp at h1
    | some x =>
     rw[hf]at h1
     cases hr:fs.mapM (fun f=>DataW.trod enc P w 0 (fun _=>true) true fuel f.type ((cs.drop f.offset).take (P.cellsOf f.type)))with
     | none=>rw[hr]at h1;simp at h1
     | some xr =>
      rw[hr]at h1
      simp at h1
      subst h1
      simp only[List.map_cons,DataW.weightsEach,aJ0]at h3
      obtain⟨d1,a1,a2,a3⟩:=ih hf h4 (fun y hy=>h3 y (.inl hy))
      obtain⟨d2,b1,b2,b3⟩:=RO_ ih cs fs (off+P.cellsOf f.type) e' l' xr hr h5 (fun y hy=>h3 y (.inr hy))
      have hsp:(cs.drop off).take (e'-off)=(cs.drop f.offset).take (P.cellsOf f.type)++(cs.drop (off+P.cellsOf f.type)).take (e'-(off+P.cellsOf f.type)):=by
       rw[hoff,←eX0,show e'-off=P.cellsOf f.type+(e'-(off+P.cellsOf f.type)) by omega,List.take_add]
      rw[hsp]
      exact⟨d1++d2,BG_ _ _ _ _ a1 b1,fun v hv=>(aJ0.1 hv).elim (a2 v) (b2 v),ME_ a3 b3⟩
   ·simp at h2
  ·simp at h2
theorem Ho_ {e:TypeId}:∀{l:List (DataW H)} {d:DataW H},d∈l→∀x∈d.weights P e,x∈DataW.weightsAll P e l
 | a::l,d,hd,x,hx=>by
  simp only[DataW.weightsAll,aJ0]
  rcases aK0.1 hd with rfl | hd
  ·exact .inl hx
  ·exact .inr (Ho_ hd x hx)
theorem Sg_ {a:Addr} {n:Nat} {cs:List Value} (h:w.cells? 0 a n=some cs):cs.length=n∧∀(j:Nat) v,cs[j]? =some v→w.cell? (a.add j)=some v:=by
 unfold World.cells? at h
 rw[if_pos (dH0 _)]at h
 obtain⟨h1,h2⟩:=LI_ h
 rw[eM0]at h1
 refine⟨h1,fun j v hv=> ?_⟩
 have hj:j<n:=by rw[←h1];exact(aC0.1 hv).1
 obtain⟨y,hy,hy'⟩:=h2 j j (by rw[eT0 hj])
 rw[hv]at hy
 rw[hy',hy]
theorem Xz_ (b o n:Nat):(⟨b,o,none⟩:Addr).add n=⟨b,o+n,none⟩:=by
 unfold Addr.add
 split
 ·rename_i h;subst h;rfl
 ·rfl
theorem SH_ {L:Nat} (hL:L≤140737488355328):∀{fuel n:Nat} {t:TypeId} {cs:List Value} {d:DataW H} {ps:List MemPlace} {shs:List Sh},DataW.trod enc P w 0 (fun _=>true) true fuel t cs=some (d,ps)→shOf P n t=some shs →
  (∀x∈d.weights P t,x≤L)→RdArg L P cur w cs shs
 | 0,n,t,cs,d,ps,shs,h,hs,hw=>by simp[DataW.trod]at h
 | fuel+1,0,t,cs,d,ps,shs,h,hs,hw=>by simp[shOf]at hs
 | fuel+1,n+1,t,cs,d,ps,shs,h,hs,hw=>by
  unfold DataW.trod at h
  split at h
  ·rename_i b hu
   simp only[shOf,hu,aA0]at hs
   subst hs
   exact⟨[.bool b],by simp[rdV,rd],by simp[Value.oneCell'],by simp[HasL,HasS]⟩
  ·rename_i k k' n' hu
   simp only[shOf,hu,aA0]at hs
   subst hs
   split at h
   ·rename_i hk
    obtain⟨rfl,hk⟩:=hk
    exact⟨[.int k' n'],by simp[rdV,rd,inR_of_wf hk],by simp[Value.oneCell'],by simp[HasL,HasS]⟩
   ·simp at h
  ·rename_i hu;simp[shOf,hu]at hs
  ·rename_i x hu
   simp only[shOf,hu,aA0]at hs
   subst hs
   split at h
   ·rename_i hk
    simp only[aA0,aV0]at h
    obtain⟨rfl,_⟩:=h
    have hsz:=hw x.data.toList.length (by simp[DataW.weights])
    exact⟨[.str x],by simp[rdV,rd,hk],by simp[Value.oneCell'],by simp only[HasL,HasS];exact⟨_,_,rfl,⟨x,rfl,by rw[bO0]at hsz;exact hsz⟩,rfl⟩⟩
   ·simp at h
  ·rename_i hu;simp[shOf,hu]at hs
  ·rename_i hu;simp[shOf,hu]at hs
  ·rename_i e hu
   simp only[shOf,hu]at hs
   split at hs
   rotate_left
   ·simp at hs
   rename_i hk0
   rw[bE0]at hs
   obtain⟨c,hc,rfl⟩:=hs
   exact⟨[.sl (P.cellsOf e) (P.bytesOf e) []],by simp only[rdV,rd];exact⟨_,_,rfl,⟨none,0,rfl,Nat.le_refl _,dH0 _,by simp,.inl ⟨trivial,fun _=>rfl⟩⟩,rfl⟩,by simp[Value.oneCell'],by simp[HasL,HasS]⟩
  ·rename_i e a len cap hu
   simp only[shOf,hu]at hs
   split at hs
   rotate_left
   ·simp at hs
   rename_i hk0
   rw[bE0]at hs
   obtain⟨c,hc,rfl⟩:=hs
   simp only at h
   split at h
   ·rename_i hb
    obtain⟨_,hb1,hb2⟩:=hb
    cases hm:(List.range len).mapM (fun i=>(w.cells? 0 (a.add (i*P.cellsOf e)) (P.cellsOf e)).bind (DataW.trod enc P w 0 (fun _=>true) true fuel e))with
    | none=>rw[hm]at h;simp at h
    | some elems =>
     rw[hm]at h
     simp only[Option.bind_some,if_true,bE0]at h
     obtain⟨rest,hr,h⟩:=h
     simp only[aV0]at h
     obtain⟨rfl,rfl⟩:=h
     simp only[DataW.weights,hu,aK0,aJ0,aL0]at hw
     obtain⟨m1,m2⟩:=LI_ hm
     rw[eM0]at m1
     have hsz:=hw _ (.inl rfl)
     have hlen:len*P.bytesOf e≤L:=Nat.le_trans (aO0 _ (by omega)) hsz
     have hel:∀i,i<len→∃cs ds,w.cells? 0 (a.add (i*P.cellsOf e)) (P.cellsOf e)=some cs∧rdV cur [] w.heap ds cs∧(∀v∈cs,v.oneCell'=true)∧HasL L c ds:=by
      intro i hi
      obtain⟨y,hy,hy'⟩:=m2 i i (by rw[eT0 hi])
      rw[Option.bind_eq_some_iff]at hy'
      obtain⟨cs,hcs,hy'⟩:=hy'
      obtain⟨d',p'⟩:=y
      have hmem:d'∈elems.map (·.1):=aW0.2 ⟨_,bM0 hy,rfl⟩
      obtain⟨ds,b1,b2,b3⟩:=SH_ hL hy' hc (fun x hx=>hw x (.inr (.inl (Ho_ hmem x hx))))
      exact⟨cs,ds,hcs,b1,b2,b3⟩
     by_cases h0:len=0
     ·subst h0
      exact⟨[.sl (P.cellsOf e) (P.bytesOf e) []],by simp only[rdV,rd];exact⟨_,_,rfl,⟨some a,cap,rfl,dH0 _,hb2,by simp,.inl ⟨trivial,fun hh=>by simp at hh⟩⟩,rfl⟩,by simp[Value.oneCell'],by simp[HasL,HasS]⟩
     ·obtain⟨blk,off,spot⟩:=a
      obtain⟨cs0,ds0,hcs0,_,_,_⟩:=hel 0 (by omega)
      obtain⟨l1,l2⟩:=Sg_ hcs0
      obtain⟨v,hv⟩:∃v,cs0[0]? =some v:=⟨_,aH0 (by omega)⟩
      have hc0:w.cell? ⟨blk,off,spot⟩=some v:=by simpa[Addr.add]using l2 0 v hv
      obtain⟨arr,ty,fz,hblk,hspot⟩:∃arr ty fz,w.heap[blk]? =some (.cells arr ty fz)∧spot=none:=by
       simp only[World.cell?]at hc0
       split at hc0
       ·rename_i arr ty fz hb
        split at hc0
        ·simp at hc0
        ·rename_i hsp
         exact⟨arr,ty,fz,hb,by simpa using hsp⟩
       ·simp at hc0
      subst hspot
      obtain⟨es,e1,e2,e3⟩:=rows_of (cur:=cur) (M:=[]) (h:=w.heap) (arr:=arr) (k:=P.cellsOf e) (c:=c) len off (fun i hi=>by
       obtain⟨cs,ds,hcs,b1,b2,b3⟩:=hel i hi
       obtain⟨l1,l2⟩:=Sg_ hcs
       refine⟨ds,by rw[rdV_len b1,l1],Nq_ b1 b2 fun j u hu=> ?_,b3⟩
       have:=l2 j u hu
       rw[Xz_,Xz_]at this
       simpa[World.cell?,hblk]using this)
      refine⟨[.sl (P.cellsOf e) (P.bytesOf e) es],?_,by simp[Value.oneCell'],by simp only[HasL,HasS];exact⟨_,_,rfl,⟨es,rfl,by rw[e1];exact hlen,e3⟩,rfl⟩⟩
      simp only[rdV,rd]
      exact⟨_,_,rfl,⟨_,_,by rw[e1],by omega,hb2,by rw[e1];omega,.inr ⟨blk,off,arr,ty,fz,rfl,by simp,hblk,e2⟩⟩,rfl⟩
   ·simp at h
  ·rename_i fs hu
   simp only[shOf,hu]at hs
   split at hs
   ·rename_i l e hf
    split at hs
    ·rename_i he
     simp only[aA0]at hs
     subst hs
     subst he
     split at h
     ·rename_i hlen
      simp only[bE0]at h
      obtain⟨xs,hxs,h⟩:=h
      simp only[aV0]at h
      obtain⟨rfl,rfl⟩:=h
      simp only[DataW.weights,hu]at hw
      have:=RO_ (cur:=cur) (fun h1 h2 h3=>SH_ hL h1 h2 h3) _ fs.toList 0 (P.cellsOf t) l xs hxs hf hw
      simpa[←hlen]using this
     ·simp at h
    ·simp at hs
   ·simp at hs
  all_goals first | (simp at h;done) | (rename_i hu;simp[shOf,hu]at hs;done)
def Ny_ (P:Program) (t:TypeId):Bool:=match P.underlying t with | some (.struct _)=>true | _=>false
theorem arg_rd {L base n:Nat} (hL:L≤140737488355328) {t:TypeId} {v:Value} {d:DataW H} {ps:List MemPlace} {shs:List Sh} (hv:Value.okWide P w .any base t v) (h:DataW.Trod enc P w 0 (fun _=>true) true t v d ps) (hs:shOf P n t=some shs)
  (hw:∀x∈d.weights P t,x≤L):∃ds,HasL L shs ds∧if Ny_ P t then rd cur [] w.heap (.agg ds) v else rdV cur [] w.heap ds [v]:=by
 obtain⟨fuel,h⟩:=h
 obtain⟨ds,h1,h2,h3⟩:=SH_ (cur:=cur) hL h hs hw
 refine⟨ds,h3,?_⟩
 unfold Ny_
 split
 ·rename_i fs hu
  simp only[if_true]
  simp only[Value.okWide,hu]at hv
  obtain⟨cs,rfl,_,_⟩:=hv
  simp only[rd]
  exact⟨cs,rfl,h1⟩
 ·rename_i hu
  have hag:v.cells= #[v]:=by
   cases n with
   | zero=>simp[shOf]at hs
   | succ n =>
    cases v<;>first | rfl | skip
    rename_i cs
    unfold shOf at hs
    unfold Value.okWide at hv
    cases hu':P.underlying t with
    | none=>simp[hu']at hs
    | some ty =>
     rw[hu']at hs hv
     cases ty<;>simp[Cell.okWide,Cell.ok,hu']at hs hv
     exact absurd hu' (hu _)
  rw[hag]at h1
  simpa using h1
def Ib_ (L:Nat) (P:Program):List TypeId→List (List Sh)→List DVal→Prop
 | [],[],a=>a=[]
 | t::ts,x::xs,a=>∃ds r,HasL L x ds∧a=(if Ny_ P t then .agg ds else ds.headD .any)::r∧Ib_ L P ts xs r
 | _,_,_=>False
theorem VM_ {L base n:Nat} (hL:L≤140737488355328):∀{ts:List TypeId} {vs:List Value} {ds:List (DataW H)} {ps:List MemPlace} {shs:List (List Sh)},(∀(j:Nat) t v,ts[j]? =some t→vs[j]? =some v→Value.okWide P w .any base t v) →
  DataW.TrodAll enc P w 0 (fun _=>true) true ts vs ds ps→ts.map (shOf P n)=shs.map some→(∀x∈DataW.weightsEach P ts ds,x≤L)→∃das,rdV cur [] w.heap das vs∧Ib_ L P ts shs das
 | [],vs,ds,ps,shs,hv,hA,hs,hw=>by
  obtain⟨rfl,rfl,rfl⟩:=ChangeShapes.trodAll_nil hA
  cases shs with
  | nil=>exact⟨[],by simp[rdV],by simp[Ib_]⟩
  | cons a b=>simp at hs
 | t::ts,vs,ds,ps,shs,hv,hA,hs,hw=>by
  obtain⟨v,vr,d,dr,p,q,rfl,rfl,rfl,h0,hr⟩:=ChangeShapes.trodAll_cons hA
  cases shs with
  | nil=>simp at hs
  | cons x xs =>
   simp only[List.map_cons,bH0]at hs
   simp only[DataW.weightsEach,aJ0]at hw
   obtain⟨das,a1,a2⟩:=VM_ hL (fun j t v h1 h2=>hv (j+1) t v (by simpa using h1) (by simpa using h2)) hr hs.2 (fun y hy=>hw y (.inr hy))
   obtain⟨dd,b1,b2⟩:=arg_rd (cur:=cur) hL (hv 0 t v rfl rfl) h0 hs.1 (fun y hy=>hw y (.inl hy))
   refine⟨(if Ny_ P t then .agg dd else dd.headD .any)::das,?_,by simp only[Ib_];exact⟨dd,das,b1,rfl,a2⟩⟩
   simp only[rdV]
   refine⟨v,vr,rfl,?_,a1⟩
   split
   ·rename_i h;rw[if_pos h]at b2;exact b2
   ·rename_i h
    rw[if_neg h]at b2
    cases dd with
    | nil=>simp[rdV]at b2
    | cons d0 dr =>
     simp only[rdV]at b2
     obtain⟨u,r,hu,hd0,_⟩:=b2
     simp only[bH0]at hu
     rw[hu.1]
     simpa using hd0
theorem args_rd {L base n:Nat} {ts:List TypeId} {vs:List Value} {ds:List (DataW H)} {ps:List MemPlace} {shs:List (List Sh)} (h1:∀(j:Nat) t v,ts[j]? =some t→vs[j]? =some v→Value.okWide P w .any base t v)
 (h2:DataW.TrodAll enc P w 0 (fun _=>true) true ts vs ds ps) (h3:ts.map (shOf P n)=shs.map some) (h4:∀x∈DataW.weightsEach P ts ds,x≤L) (hL:L≤140737488355328:=by omega):∃das,rdV cur [] w.heap das vs∧Ib_ L P ts shs das:=VM_ hL h1 h2 h3 h4
theorem Upd.below {a b:World} (h:Upd [] a b):RowKit.Below a.heap.size a b:=⟨h.os,h.tape,h.output,h.size,fun k hk=>h.blk k hk (by simp)⟩
theorem Ie_ (hl:laidOutB P=true) {W W':World} {sp:Nat→Bool}:∀{ts:List TypeId} {vs:List Value} {ds:List (DataW H)} {ps:List MemPlace},(∀t∈ts,P.readableRec t=true∧t<P.types.size) →
  DataW.TrodAll enc P W 0 (fun _=>true) true ts vs ds ps→(∀p∈ps,W.sameAt W' p)→(∀p∈ps,sp p.block=true)→DataW.TrodAll enc P W' 0 sp true ts vs ds ps
 | [],vs,ds,ps,ht,hA,h1,h2=>by
  obtain⟨rfl,rfl,rfl⟩:=ChangeShapes.trodAll_nil hA
  rfl
 | t::ts,vs,ds,ps,ht,hA,h1,h2=>by
  obtain⟨v,vr,d,dr,p,q,rfl,rfl,rfl,h0,hr⟩:=ChangeShapes.trodAll_cons hA
  obtain⟨k1,k2⟩:=ht t (by simp)
  exact⟨p,q,WideElems.Trod_stays hl k1 k2 h0 (fun x hx=>h1 x (by simp[hx])) (fun x hx=>h2 x (by simp[hx])),Ie_ hl (fun t h=>ht t (by simp[h])) hr (fun x hx=>h1 x (by simp[hx])) (fun x hx=>h2 x (by simp[hx])),rfl⟩
theorem law_post {fn:Func} {s:ChangeSpec} {fresh handsOn:Bool} {tb:TypeId} {W W':World} {args:Array Value} {ds gs:List (DataW H)} {before:List MemPlace} (hl:laidOutB P=true)
  (hall:∀t∈fn.params.toList,P.readableRec t=true∧t<P.types.size) (hr:fn.resultTypes= #[tb]) (hub:P.underlying tb=some .bool) (hvars:s.vars=[])
  (hs:s.fn H (ds++gs)={ results:=[.lit (.bool true)],args:=ds }) (hW:DataW.Whole enc P fn.params.toList s.vars false W args.toList ds gs before) (hu:Upd [] W W') :
  s.post enc P fn false fresh handsOn false W args (.bool true) W':=by
 have hW':=hW
 obtain⟨p,q,hA,hV,rfl,hfz,hnd⟩:=hW
 have hlt:∀x∈p,x.block<W.heap.size:=fun x hx=>hW'.lt x (by simp[hx])
 have hb:=hu.below
 refine⟨ds,gs,p++q,[],p,[],hW',?_,?_,?_,hb.frame _,fun h=>by cases h⟩
 ·rw[hs,hr]
  exact ChangeShapes.trodAll_mk1 (RowKit.shut_bool hub true)
 ·rw[hs]
  exact Ie_ hl hall hA (fun x hx=>hb.same (hlt x hx)) (fun x hx=>by simpa using hlt x hx)
 ·rw[hs,hvars]
  rfl
theorem JL_ {f:FuncId} {fn:Func} {s:ChangeSpec} {fresh handsOn:Bool} {tb:TypeId} {W:World} {args:Array Value} {das:List DVal} {ds gs:List (DataW H)} {before:List MemPlace} (hl:laidOutB P=true)
  (hall:∀t∈fn.params.toList,P.readableRec t=true∧t<P.types.size) (hr:fn.resultTypes= #[tb]) (hub:P.underlying tb=some .bool) (hvars:s.vars=[])
  (hs:s.fn H (ds++gs)={ results:=[.lit (.bool true)],args:=ds }) (hW:DataW.Whole enc P fn.params.toList s.vars false W args.toList ds gs before)
  (hrd:rdV (fun _ _=>none) [] W.heap das args.toList) (hd:Aj_ P f das (.bool true)) :
  Calls P f args W fun e W'=>∃v,e= .returned v∧s.post enc P fn false fresh handsOn false W args v W':=by
 refine(hd.2.2 _ [] W args (by simp) hrd).mono fun e W' ⟨v,he,hu,hv⟩=>⟨.bool true,?_,law_post hl hall hr hub hvars hs hW hu⟩
 simp only[rd]at hv
 rw[he,hv]
end
theorem FK_ {α:Type} {f:α→List DVal}:∀{es:List (List DVal)},(∀e∈es,∃x,e=f x)→∃l:List α,es=l.map f
 | [],_=>⟨[],rfl⟩
 | e::es,h=>by
  obtain⟨x,rfl⟩:=h e (by simp)
  obtain⟨l,rfl⟩:=FK_ (es:=es) (f:=f) (fun e he=>h e (by simp[he]))
  exact⟨x::l,rfl⟩
end Go.Dm
end
section
namespace Go.Proofs.YtchgnpnbcjflcaaGreat
open Go Go.Dm
variable [DMode]
open Go.ChangeShapes Go.WideShapes Go.ChangeAt Go.RowKit
theorem own : ownKnob Tryz.prog.godebug=none:=by kernel_rfl
theorem laidOut : laidOutB Tryz.prog=true:=by kernel_rfl
end Go.Proofs.YtchgnpnbcjflcaaGreat
end
section
namespace Go.Proofs.YtchgnpnbcjflcaaGreat
open Go Go.Dm
variable [DMode]
mutual
def shLe (C:Nat):Sh→Bool
 | .b=>true
 | .i _=>true
 | .s=>true
 | .sl _ bs c=>decide (bs≤C)&&Jh_ C c
def Jh_ (C:Nat):List Sh→Bool
 | []=>true
 | x::r=>shLe C x&&Jh_ C r
end
theorem JD_ {C:Nat}:∀{a b:List Sh},Jh_ C (a++b)=(Jh_ C a&&Jh_ C b)
 | [],b=>by simp[Jh_]
 | x::a,b=>by simp[Jh_,JD_ (a:=a),Bool.and_assoc]
section
variable {H : Type}
theorem bulk_pos (d:DataW H):1≤Rows.uptoBulk d:=by
 cases d with
 | lit l=>cases l<;>simp only[Rows.uptoBulk]<;>omega
 | _=>simp only[Rows.uptoBulk]<;>omega
theorem PK_ : ∀l:List (DataW H),l.length≤Rows.uptoBulkAll l
 | []=>by simp
 | d::r=>by
  have:=bulk_pos d
  have:=PK_ r
  simp only[Rows.uptoBulkAll,List.length_cons]
  omega
theorem FB_ {P:Program} {C:Nat} (hC:1≤C):∀(n:Nat) (t:TypeId) (shs:List Sh) (d:DataW H),shOf P n t=some shs→Jh_ C shs=true→∀x∈d.weights P t,x≤Rows.uptoBulk d*C
 | 0,t,shs,d,h,hl=>by simp[shOf]at h
 | n+1,t,shs,d,h,hl=>by
  intro x hx
  have all:∀(e:TypeId) (c:List Sh),shOf P n e=some c→Jh_ C c=true→∀(l:List (DataW H)),∀x∈DataW.weightsAll P e l,x≤Rows.uptoBulkAll l*C:=by
   intro e c he hc l
   induction l with
   | nil=>intro x hx;simp[DataW.weightsAll]at hx
   | cons d r ih =>
    intro x hx
    simp only[DataW.weightsAll,aJ0]at hx
    simp only[Rows.uptoBulkAll,bV0]
    rcases hx with hx | hx
    ·have:=FB_ hC n e c d he hc x hx;omega
    ·have:=ih x hx;omega
  have each:∀(fs:List Field) (off e:Nat) (l:List Sh),shF (shOf P n) P.cellsOf fs off=some (l,e)→Jh_ C l=true→∀(parts:List (DataW H)),∀x∈DataW.weightsEach P (fs.map (·.type)) parts,x≤Rows.uptoBulkAll parts*C:=by
   intro fs
   induction fs with
   | nil=>intro off e l _ _ parts x hx;simp[DataW.weightsEach]at hx
   | cons f fs ih =>
    intro off e l hf hc parts x hx
    cases parts with
    | nil=>simp[DataW.weightsEach]at hx
    | cons d r =>
     simp only[shF]at hf
     split at hf
     ·split at hf
      ·rename_i c l' e' h4 h5
       simp only[aA0,aV0]at hf
       obtain⟨rfl,rfl⟩:=hf
       rw[JD_,aN0]at hc
       simp only[List.map_cons,DataW.weightsEach,aJ0]at hx
       simp only[Rows.uptoBulkAll,bV0]
       rcases hx with hx | hx
       ·have:=FB_ hC n f.type c d h4 hc.1 x hx;omega
       ·have:=ih _ _ _ h5 hc.2 r x hx;omega
      ·simp at hf
     ·simp at hf
  cases d with
  | lit l =>
   cases l<;>simp only[DataW.weights,aE0,eB0]at hx
   subst hx
   simp only[Rows.uptoBulk]
   exact Nat.le_trans (Nat.le_succ _) (Nat.le_mul_of_pos_right _ hC)
  | nil=>simp[DataW.weights]at hx
  | held a=>simp[DataW.weights]at hx
  | iface a b=>simp[DataW.weights]at hx
  | ptr d =>
   simp only[DataW.weights]at hx
   split at hx
   ·rename_i hu;simp[shOf,hu]at h
   ·simp at hx
  | map es =>
   simp only[DataW.weights]at hx
   split at hx
   ·rename_i hu;simp[shOf,hu]at h
   ·simp at hx
  | slice elems spare =>
   simp only[DataW.weights]at hx
   split at hx
   ·rename_i e hu
    simp only[shOf,hu]at h
    split at h
    rotate_left
    ·simp at h
    rw[bE0]at h
    obtain⟨c,hc,rfl⟩:=h
    simp only[Jh_,shLe,Bool.and_true,aN0,decide_eq_true_eq]at hl
    simp only[Rows.uptoBulk,bV0]
    simp only[aK0,aJ0]at hx
    rcases hx with rfl | hx | hx
    ·have h1:=PK_ elems
     have h2:=PK_ spare
     rw[bV0]
     have g1:=Nat.mul_le_mul h1 hl.1
     have g2:=Nat.mul_le_mul h2 hl.1
     omega
    ·have:=all e c hc hl.2 elems x hx;omega
    ·have:=all e c hc hl.2 spare x hx;omega
   ·simp at hx
  | agg parts =>
   simp only[DataW.weights]at hx
   split at hx
   ·rename_i fs hu
    simp only[shOf,hu]at h
    split at h
    ·rename_i l e hf
     split at h
     ·simp only[aA0]at h
      subst h
      simp only[Rows.uptoBulk,bV0]
      have:=each fs.toList 0 e l hf hl parts x hx
      omega
     ·simp at h
    ·simp at h
   ·rename_i hu;simp[shOf,hu]at h
   ·simp at hx
theorem Ft_ {P:Program} {C n:Nat} (hC:1≤C):∀{ts:List TypeId} {shs:List (List Sh)} (ds:List (DataW H)),ts.map (shOf P n)=shs.map some→shs.all (Jh_ C)=true→∀x∈DataW.weightsEach P ts ds,x≤Rows.uptoBulkAll ds*C
 | [],shs,ds,h,hl=>by intro x hx;simp[DataW.weightsEach]at hx
 | t::ts,shs,ds,h,hl=>by
  intro x hx
  cases ds with
  | nil=>simp[DataW.weightsEach]at hx
  | cons d r =>
   cases shs with
   | nil=>simp at h
   | cons s ss =>
    simp only[List.map_cons,bH0]at h
    simp only[cZ0,aN0]at hl
    simp only[DataW.weightsEach,aJ0]at hx
    simp only[Rows.uptoBulkAll,bV0]
    rcases hx with hx | hx
    ·have:=FB_ hC n t s d h.1 hl.1 x hx;omega
    ·have:=Ft_ hC r h.2 hl.2 x hx;omega
theorem Uf_ {P:Program} {C n:Nat} (hC:1≤C) {ts:List TypeId} {shs:List (List Sh)} {ds:List (DataW H)} (hk:Rows.uptoSmall H ds=true) (h:ts.map (shOf P n)=shs.map some) (hl:shs.all (Jh_ C)=true):∀x∈DataW.weightsEach P ts ds,x≤1048576*C:=by
 intro x hx
 have h1:=Ft_ hC ds h hl x hx
 simp only[Rows.uptoSmall,decide_eq_true_eq]at hk
 exact Nat.le_trans h1 (aO0 _ hk)
end
end Go.Proofs.YtchgnpnbcjflcaaGreat
end
section
namespace Go.Proofs.YtchgnpnbcjflcaaGreat
open Go Go.Dm
variable [DMode]
attribute [local irreducible] DW Br_ Bu_
set_option maxRecDepth 100000
structure Mk where
 nts:Int
 prods:List Prod
 hs:List (Int×Int)
 no:Int
def dKey (p:Int×Int):DVal:= .int .i64 p.1
def Gg_ (p:Int×Int):DVal:= .int .i64 p.2
def dMk (v:Nat) (m:Mk):List Ent:=[⟨0,0,.box [.int .i64 m.nts,.osl 1 v,.omp 2 0,.int .i64 m.no]⟩,⟨1,v,.row 92 2 32 (m.prods.map Af_)⟩,⟨2,0,.map (m.hs.map dKey) (m.hs.map Gg_)⟩]
@[simp] theorem mxL_keys (l:List (Int×Int)):mxL (l.map dKey)=0:=by induction l<;>simp_all [mxL,mx,dKey]
@[simp] theorem mxL_helps (l:List (Int×Int)):mxL (l.map Gg_)=0:=by induction l<;>simp_all [mxL,mx,Gg_]
def KM_ : Ann:=⟨[],[]⟩
theorem Fj_ (m:Mk) (h1: -9223372036854775808≤m.nts) (h2:m.nts+1≤9223372036854775807):AU_ Tryz.prog (.func 299) [.bx 0 0 0] (dMk 0 m) (.int .i64 m.nts) (dMk 1 { m with nts:=m.nts+1 }):=by
 refine Av_ [] [(0,0,0),(1,1,1),(2,2,0)] (fn:=Tryz.f299) Tryz.func299 rfl Tryz.call299 (by simp[Tryz.ntmps299]) (by simp) (by simp[dMk]) ?_
 intro hwf B hnt
 simp only[Tryz.ntmps299]at hnt
 have hgAnn:=Ao_ KM_ Tryz.mixed (aj2 @KM_.eq_1 Tryz.results299)
 simp only[argS]
 (repeat (first | refine Ak_ fun K hK=> ?_ | (refine DW_r KM_ Tryz.mixed (by kernel_rfl) ?_;simp[KM_,hnt,dMk];try simp (disch:=omega) only[Aa_]) | refine Ac_ ?_ | (refine As_ ?_ ?_ ?_;(· (simp[hnt,dMk];done));(try (rotate_left;(· (intro hc;(try simp[hnt,dMk]at hc);done))))) | (refine Al_ ?_;simp[Tryz.results299,hnt,dMk]) | ((first | refine Ah_ ?_ | refine Ag_ ?_);simp[hnt,dMk]) | (intro hc;(try simp[hnt,dMk]at hc);(try (exfalso;omega))) | (refine⟨?_,?_⟩; · omega) | omega | apply_assumption -exfalso -symm | (exfalso;omega)))
def KN_ : Ann:=⟨[],[]⟩
theorem Gy_ (m:Mk) (h:Int) (b:List Sym) (hb:(m.prods.length+1)*32≤150000000000000):AU_ Tryz.prog (.func 213) [.bx 0 0 0,.int .i64 h,AM_ b] (dMk 0 m) (.tup []) (dMk 1 { m with prods:=m.prods++[⟨h,b⟩] }):=by
 refine Av_ [] [(0,0,0),(1,1,1),(2,2,0)] (fn:=Tryz.f213) Tryz.func213 rfl Tryz.call213 (by simp[Tryz.ntmps213]) (by simp) (by simp[dMk]) ?_
 intro hwf B hnt
 simp only[Tryz.ntmps213]at hnt
 have hgAnn:=Ao_ KN_ Tryz.mixed (aj2 @KN_.eq_1 Tryz.results213)
 simp only[argS]
 (repeat (first | refine Ak_ fun K hK=> ?_ | (refine DW_r KN_ Tryz.mixed (by kernel_rfl) ?_;simp[KN_,hnt,dMk,Af_];try simp (disch:=omega) only[Aa_]) | refine Ac_ ?_ | (refine As_ ?_ ?_ ?_;(· (simp[hnt,dMk,Af_];done));(try (rotate_left;(· (intro hc;(try simp[hnt,dMk,Af_]at hc);done))))) | (refine Al_ ?_;simp[Tryz.results213,hnt,dMk,Af_]) | ((first | refine Ah_ ?_ | refine Ag_ ?_);simp[hnt,dMk,Af_]) | (intro hc;(try simp[hnt,dMk,Af_]at hc);(try (exfalso;omega))) | (refine⟨?_,?_⟩; · omega) | omega | apply_assumption -exfalso -symm | (exfalso;omega)))
def Mk.put (m:Mk) (h:Int) (b:List Sym):Mk:={ m with prods:=m.prods++[⟨h,b⟩] }
def Mk.nothing (m:Mk):Mk:=if m.no=0 then { m with nts:=m.nts+1,no:=m.nts,prods:=m.prods++[⟨m.nts,[]⟩] }else m
def GS_ : Ann:=⟨[10,18],[]⟩
theorem Re_ (m:Mk) (h1: -9223372036854775808≤m.nts) (h2:m.nts+1≤9223372036854775807) (h3:(m.prods.length+1)*32≤150000000000000) :
  AU_ Tryz.prog (.func 215) [.bx 0 0 0] (dMk 0 m) (.int .i64 m.nothing.no) (dMk 1 m.nothing):=by
 refine Av_ [] [(0,0,0),(1,1,1),(2,2,0)] (fn:=Tryz.f215) Tryz.func215 rfl Tryz.call215 (by simp[Tryz.ntmps215]) (by simp) (by simp[dMk]) ?_
 intro hwf B hnt
 simp only[Tryz.ntmps215]at hnt
 have hgAnn:=Ao_ GS_ Tryz.mixed (aj2 @GS_.eq_1 Tryz.results215)
 simp only[argS]
 by_cases h:m.no=0
 ·(repeat (first | refine Ak_ fun K hK=> ?_ | (refine DW_r GS_ Tryz.mixed (by kernel_rfl) ?_;simp[GS_,hnt,dMk,h,Mk.nothing,AM_];try simp (disch:=omega) only[Aa_]) | refine Ac_ ?_ | (refine As_ ?_ ?_ ?_;(· (simp[hnt,dMk,h,Mk.nothing,AM_];done));(try (rotate_left;(· (intro hc;(try simp[hnt,dMk,h,Mk.nothing,AM_]at hc);done))))) | (refine Al_ ?_;simp[Tryz.results215,hnt,dMk,h,Mk.nothing,AM_]) | ((first | refine Ah_ ?_ | refine Ag_ ?_);simp[hnt,dMk,h,Mk.nothing,AM_]) | (intro hc;(try simp[hnt,dMk,h,Mk.nothing,AM_]at hc);(try (exfalso;omega))) | (refine Ar_ [(0,0),(1,1),(2,2)] [] (Fj_ m h1 h2) ?_ ?_;(· (simp[hnt,dMk,h,Mk.nothing,AM_];done));(intro _;try simp[hnt,dMk,h,Mk.nothing,AM_])) | (refine Ar_ [(0,0),(1,1),(2,2)] [] (Gy_ { m with nts:=m.nts+1,no:=m.nts } m.nts [] h3) ?_ ?_;(· (simp[hnt,dMk,h,Mk.nothing,AM_];done));(intro _;try simp[hnt,dMk,h,Mk.nothing,AM_])) | (refine⟨?_,?_⟩; · omega) | omega | apply_assumption -exfalso -symm | (exfalso;omega)))
 ·(repeat (first | refine Ak_ fun K hK=> ?_ | (refine DW_r GS_ Tryz.mixed (by kernel_rfl) ?_;simp[GS_,hnt,dMk,h,Mk.nothing,AM_];try simp (disch:=omega) only[Aa_]) | refine Ac_ ?_ | (refine As_ ?_ ?_ ?_;(· (simp[hnt,dMk,h,Mk.nothing,AM_];done));(try (rotate_left;(· (intro hc;(try simp[hnt,dMk,h,Mk.nothing,AM_]at hc);done))))) | (refine Al_ ?_;simp[Tryz.results215,hnt,dMk,h,Mk.nothing,AM_]) | ((first | refine Ah_ ?_ | refine Ag_ ?_);simp[hnt,dMk,h,Mk.nothing,AM_]) | (intro hc;(try simp[hnt,dMk,h,Mk.nothing,AM_]at hc);(try (exfalso;omega))) | (refine Ar_ [(0,0),(1,1),(2,2)] [] (Fj_ m h1 h2) ?_ ?_;(· (simp[hnt,dMk,h,Mk.nothing,AM_];done));(intro _;try simp[hnt,dMk,h,Mk.nothing,AM_])) | (refine Ar_ [(0,0),(1,1),(2,2)] [] (Gy_ { m with nts:=m.nts+1,no:=m.nts } m.nts [] h3) ?_ ?_;(· (simp[hnt,dMk,h,Mk.nothing,AM_];done));(intro _;try simp[hnt,dMk,h,Mk.nothing,AM_])) | (refine⟨?_,?_⟩; · omega) | omega | apply_assumption -exfalso -symm | (exfalso;omega)))
def Mk.look (m:Mk) (a:Int):Option Nat:=AV_ (m.hs.map dKey) (.int .i64 a)
end Go.Proofs.YtchgnpnbcjflcaaGreat
end
section
namespace Go.Proofs.YtchgnpnbcjflcaaGreat
open Go Go.Dm
variable [DMode]
attribute [local irreducible] DW Br_ Bu_
def AD_ : List Sym→Int
 | []=>1
 | [s]=>if s.label then 2 else 0
 | [s,t]=>if !s.label&& !t.label then 3 else 0
 | _=>0
def Dl_ : Ann:=⟨[],[]⟩
set_option maxRecDepth 100000 in
theorem Ly_ (l:List Sym):Aj_ Tryz.prog 151 [AM_ l] (.int .i64 (AD_ l)):=by
 refine Ab_ [] (fn:=Tryz.f151) Tryz.func151 rfl Tryz.call151 (by simp[Tryz.ntmps151]) (by simp[mx]) ?_
 intro hwf B hnt
 simp only[Tryz.ntmps151]at hnt
 have hgAnn:=Ao_ Dl_ Tryz.mixed (aj2 @Dl_.eq_1 Tryz.results151)
 simp only[argS]
 match l with
 | []=>(repeat (first | refine Ak_ fun K hK=> ?_ | (refine DW_r Dl_ Tryz.mixed (by kernel_rfl) ?_;simp[Dl_,hnt,dSym,AD_];try simp (disch:=omega) only[Aa_]) | refine Ac_ ?_ | (refine As_ ?_ ?_ ?_;(· (simp[hnt,dSym,AD_];done));(try (rotate_left;(· (intro hc;(try simp[hnt,dSym,AD_]at hc);done))))) | (refine Al_ ?_;simp[Tryz.results151,hnt,dSym,AD_]) | ((first | refine Ah_ ?_ | refine Ag_ ?_);simp[hnt,dSym,AD_]) | (intro hc;(try simp[hnt,dSym,AD_]at hc);(try (exfalso;omega))) | (refine⟨?_,?_⟩; · omega) | omega | apply_assumption -exfalso -symm | (exfalso;omega)))
 | [s] =>
  cases hl:s.label<;>(repeat (first | refine Ak_ fun K hK=> ?_ | (refine DW_r Dl_ Tryz.mixed (by kernel_rfl) ?_;simp[Dl_,hnt,dSym,AD_,hl];try simp (disch:=omega) only[Aa_]) | refine Ac_ ?_ | (refine As_ ?_ ?_ ?_;(· (simp[hnt,dSym,AD_,hl];done));(try (rotate_left;(· (intro hc;(try simp[hnt,dSym,AD_,hl]at hc);done))))) | (refine Al_ ?_;simp[Tryz.results151,hnt,dSym,AD_,hl]) | ((first | refine Ah_ ?_ | refine Ag_ ?_);simp[hnt,dSym,AD_,hl]) | (intro hc;(try simp[hnt,dSym,AD_,hl]at hc);(try (exfalso;omega))) | (refine⟨?_,?_⟩; · omega) | omega | apply_assumption -exfalso -symm | (exfalso;omega)))
 | [s,t] =>
  (repeat (first | refine Ak_ fun K hK=> ?_ | (refine DW_r Dl_ Tryz.mixed (by kernel_rfl) ?_;simp[Dl_,hnt,dSym,AD_];try simp (disch:=omega) only[Aa_]) | refine Ac_ ?_ | (refine As_ ?_ ?_ ?_;(· (simp[hnt,dSym,AD_];done));(try (rotate_left;(· (intro hc;(try simp[hnt,dSym,AD_]at hc);done))))) | (refine Al_ ?_;simp[Tryz.results151,hnt,dSym,AD_]) | ((first | refine Ah_ ?_ | refine Ag_ ?_);simp[hnt,dSym,AD_]) | (intro hc;(try simp[hnt,dSym,AD_]at hc);(try (exfalso;omega))) | (refine⟨?_,?_⟩; · omega) | omega | apply_assumption -exfalso -symm | (exfalso;omega)))
 | s::t::u::r =>
  (repeat (first | refine Ak_ fun K hK=> ?_ | (refine DW_r Dl_ Tryz.mixed (by kernel_rfl) ?_;simp[Dl_,hnt,dSym,AD_];try simp (disch:=omega) only[Aa_]) | refine Ac_ ?_ | (refine As_ ?_ ?_ ?_;(· (simp[hnt,dSym,AD_];done));(try (rotate_left;(· (intro hc;(try simp[hnt,dSym,AD_]at hc);done))))) | (refine Al_ ?_;simp[Tryz.results151,hnt,dSym,AD_]) | ((first | refine Ah_ ?_ | refine Ag_ ?_);simp[hnt,dSym,AD_]) | (intro hc;(try simp[hnt,dSym,AD_]at hc);(try (exfalso;omega))) | (refine⟨?_,?_⟩; · omega) | omega | apply_assumption -exfalso -symm | (exfalso;omega)))
end Go.Proofs.YtchgnpnbcjflcaaGreat
end
section
namespace Go.Proofs.YtchgnpnbcjflcaaGreat
open Go Go.Dm
variable [DMode]
def nS (n:Int):Sym:=⟨false,n⟩
def Er_ : List (Int×Int)→Int→Option Int
 | [],_=>none
 | (k,h)::l,a=>if a=k then some h else Er_ l a
def Mk.sym (m:Mk) (s:Sym):Mk×Int :=
 if s.label then match Er_ m.hs s.n with
  | some h=>(m,h)
  | none=>({ m with nts:=m.nts+1,hs:=m.hs++[(s.n,m.nts)],prods:=m.prods++[⟨m.nts,[s]⟩] },m.nts)
 else (m,s.n)
def Mk.syms (m:Mk):List Sym→Mk×List Int
 | []=>(m,[])
 | s::l=>(((m.sym s).1.syms l).1,(m.sym s).2::((m.sym s).1.syms l).2)
def Dv_ (nts head:Int):List Int→List Prod
 | []=>[]
 | [_]=>[]
 | [a,b]=>[⟨head,[nS a,nS b]⟩]
 | a::b::c::r=>⟨head,[nS a,nS nts]⟩::Dv_ (nts+1) nts (b::c::r)
def Mk.chain (m:Mk) (h:Int) (ns:List Int):Mk:={ m with nts:=m.nts+(ns.length-2:Nat),prods:=m.prods++Dv_ m.nts h ns }
def Mk.add (m:Mk) (p:Prod):Mk :=
 if AD_ p.body=1∨AD_ p.body=2 then m.put p.head p.body
 else if p.body.length=1 then (m.syms p.body).1.nothing.chain p.head ((m.syms p.body).2++[(m.syms p.body).1.nothing.no])
 else (m.syms p.body).1.chain p.head (m.syms p.body).2
def Mk.adds : Mk→List Prod→Option Mk
 | m,[]=>some m
 | m,p::l=>if 1024<(m.add p).nts then none else (m.add p).adds l
theorem Od_ (m:Mk) (l:List Sym):(m.syms l).2.length=l.length:=by
 induction l generalizing m with
 | nil=>rfl
 | cons s l ih=>simp[Mk.syms,ih]
theorem NN_ : ∀(l:List Int) (nts head:Int),(Dv_ nts head l).length=l.length-1
 | [],_,_=>rfl
 | [_],_,_=>rfl
 | [_,_],_,_=>rfl
 | _::b::c::r,_,_=>by simp[Dv_,NN_ (b::c::r)]
def Mk.gap (m:Mk):Int:=(m.prods.length:Int)-m.nts
theorem SM_ (m:Mk) (s:Sym):(m.sym s).1.gap=m.gap∧m.nts≤(m.sym s).1.nts∧(m.sym s).1.nts≤m.nts+1:=by
 unfold Mk.sym
 split
 ·split
  ·exact⟨rfl,Int.le_refl _,Int.le_add_of_nonneg_right (by decide)⟩
  ·simp only[Mk.gap,aD0,List.length_cons,List.length_nil]
   exact⟨by omega,by omega,by omega⟩
 ·exact⟨rfl,Int.le_refl _,Int.le_add_of_nonneg_right (by decide)⟩
theorem Ij_ (l:List Sym):∀(m:Mk),(m.syms l).1.gap=m.gap∧m.nts≤(m.syms l).1.nts∧(m.syms l).1.nts≤m.nts+l.length:=by
 induction l with
 | nil=>intro m;simp[Mk.syms]
 | cons s l ih =>
  intro m
  obtain⟨h1,h2,h3⟩:=SM_ m s
  obtain⟨h4,h5,h6⟩:=ih (m.sym s).1
  simp only[Mk.syms,List.length_cons]
  exact⟨by omega,by omega,by omega⟩
theorem HK_ (m:Mk):m.nothing.gap=m.gap∧m.nts≤m.nothing.nts∧m.nothing.nts≤m.nts+1:=by
 unfold Mk.nothing
 split
 ·simp only[Mk.gap,aD0,List.length_cons,List.length_nil]
  exact⟨by omega,by omega,by omega⟩
 ·exact⟨rfl,Int.le_refl _,Int.le_add_of_nonneg_right (by decide)⟩
theorem Se_ (m:Mk) (h:Int) (ns:List Int) (hl:2≤ns.length):(m.chain h ns).gap=m.gap+1∧(m.chain h ns).nts=m.nts+ns.length-2:=by
 simp only[Mk.chain,Mk.gap,aD0,NN_]
 exact⟨by omega,by omega⟩
theorem Pr_ {l:List Sym} (h1:¬AD_ l=1) (h2:¬AD_ l=2):1≤l.length:=by
 cases l with
 | nil=>exact absurd rfl h1
 | cons s l=>simp
theorem TT_ (m:Mk) (p:Prod):(m.add p).gap=m.gap+1∧m.nts≤(m.add p).nts∧(m.nts+p.body.length-2≤(m.add p).nts)∧(m.add p).nts≤m.nts+2*p.body.length+1:=by
 obtain⟨h1,h2,h3⟩:=Ij_ p.body m
 have h0:=Od_ m p.body
 unfold Mk.add
 split
 ·rename_i hf
  have hl:p.body.length≤1:=by
   match hb:p.body with
   | []=>simp
   | [s]=>simp
   | [s,t]=>rw[hb]at hf;simp only[AD_]at hf;split at hf<;>simp at hf
   | s::t::u::r=>rw[hb]at hf;simp[AD_]at hf
  simp only[Mk.put,Mk.gap,aD0,List.length_cons,List.length_nil]
  exact⟨by omega,by omega,by omega,by omega⟩
 ·rename_i hf
  have hl:=Pr_ (fun h=>hf (.inl h)) (fun h=>hf (.inr h))
  split
  ·rename_i h4
   obtain⟨g1,g2,g3⟩:=HK_ (m.syms p.body).1
   obtain⟨c1,c2⟩:=Se_ (m.syms p.body).1.nothing p.head ((m.syms p.body).2++[(m.syms p.body).1.nothing.no]) (by simp;omega)
   simp only[aD0,List.length_cons,List.length_nil]at c2
   exact⟨by omega,by omega,by omega,by omega⟩
  ·obtain⟨c1,c2⟩:=Se_ (m.syms p.body).1 p.head (m.syms p.body).2 (by omega)
   exact⟨by omega,by omega,by omega,by omega⟩
end Go.Proofs.YtchgnpnbcjflcaaGreat
end
section
namespace Go.Proofs.YtchgnpnbcjflcaaGreat
open Go Go.Dm
variable [DMode]
attribute [local irreducible] DW Br_ Bu_
set_option maxRecDepth 100000

@[local simp] theorem mx_rev (l:List Sym):mxR (l.map dSym).reverse=0:=by rw[←List.map_reverse];exact mx_dSyms _
def GY_ : Ann:=⟨[],[]⟩
theorem Yq_ (c:Cnf):Aj_ Tryz.prog 144 [.agg (dCnf c)] (if BI_ c then .tup [.agg (dCnf (Cd_ c)),.int .i64 0]else .tup [.agg [.int .i64 0,.nilsl],.int .i64 220]):=by
 refine Ab_ [] (fn:=Tryz.f144) Tryz.func144 rfl Tryz.call144 (by simp[Tryz.ntmps144]) (by cases BI_ c<;>simp[mx,dCnf]) ?_
 intro hwf B hnt
 simp only[Tryz.ntmps144]at hnt
 have hgAnn:=Ao_ GY_ Tryz.mixed (aj2 @GY_.eq_1 Tryz.results144)
 simp only[argS]
 have h1:=EF_ c
 have h2:=Lh_ c
 cases hb:BI_ c
 ·rw[hb]at h1
  (repeat (first | refine Ak_ fun K hK=> ?_ | (refine DW_r GY_ Tryz.mixed (by kernel_rfl) ?_;simp[GY_,hnt,dCnf];try simp (disch:=omega) only[Aa_]) | refine Ac_ ?_ | (refine As_ ?_ ?_ ?_;(· (simp[hnt,dCnf];done));(try (rotate_left;(· (intro hc;(try simp[hnt,dCnf]at hc);done))))) | (refine Al_ ?_;simp[Tryz.results144,hnt,dCnf]) | ((first | refine Ah_ ?_ | refine Ag_ ?_);simp[hnt,dCnf]) | (intro hc;(try simp[hnt,dCnf]at hc);(try (exfalso;omega))) | ((first | refine Ae_ (h1) ?_ | refine Ae_ (h2) ?_ | (refine Ad_ (h1) ?_ ?_;(· (simp;done))) | (refine Ad_ (h2) ?_ ?_;(· (simp;done))));try simp[hnt,dCnf]) | (refine⟨?_,?_⟩; · omega) | omega | apply_assumption -exfalso -symm | (exfalso;omega)))
 ·rw[hb]at h1
  (repeat (first | refine Ak_ fun K hK=> ?_ | (refine DW_r GY_ Tryz.mixed (by kernel_rfl) ?_;simp[GY_,hnt,dCnf];try simp (disch:=omega) only[Aa_]) | refine Ac_ ?_ | (refine As_ ?_ ?_ ?_;(· (simp[hnt,dCnf];done));(try (rotate_left;(· (intro hc;(try simp[hnt,dCnf]at hc);done))))) | (refine Al_ ?_;simp[Tryz.results144,hnt,dCnf]) | ((first | refine Ah_ ?_ | refine Ag_ ?_);simp[hnt,dCnf]) | (intro hc;(try simp[hnt,dCnf]at hc);(try (exfalso;omega))) | ((first | refine Ae_ (h1) ?_ | refine Ae_ (h2) ?_ | (refine Ad_ (h1) ?_ ?_;(· (simp;done))) | (refine Ad_ (h2) ?_ ?_;(· (simp;done))));try simp[hnt,dCnf]) | (refine⟨?_,?_⟩; · omega) | omega | apply_assumption -exfalso -symm | (exfalso;omega)))

end Go.Proofs.YtchgnpnbcjflcaaGreat
end
section
namespace Go.Proofs.YtchgnpnbcjflcaaGreat
open Go Go.Dm
variable [DMode]
attribute [local irreducible] DW Br_ Bu_

end Go.Proofs.YtchgnpnbcjflcaaGreat
end
section
namespace Go.Proofs.YtchgnpnbcjflcaaGreat
open Go Go.Dm
variable [DMode]
attribute [local irreducible] DW Br_ Bu_
set_option maxRecDepth 100000
def Ct_ : Ann:=⟨[],[]⟩
theorem Kd_ (g:FuncId) (us cs:List DVal) (l:List Prod) (q:Prod→Bool) (hq:∀x∈l,Aj_ Tryz.prog g (us++[.agg (Af_ x)]++cs) (.bool (q x))) :
  Aj_ Tryz.prog 219 [Bh_ l,.fn (.func g) us cs] (.int .i64 (if l.any q then ((l.findIdx q:Nat):Int)else -1)):=by
 refine Ab_ [] (fn:=Tryz.f219) Tryz.func219 rfl Tryz.call219 (by simp[Tryz.ntmps219]) (by simp[mx]) ?_
 intro hwf B hnt
 simp only[Tryz.ntmps219]at hnt
 have hgAnn:=Ao_ Ct_ Tryz.mixed (aj2 @Ct_.eq_1 Tryz.results219)
 have hw:TY_ l:=SC_ hwf.1
 obtain⟨hw1,hw2,hw3⟩:=hw
 clear hwf hw3
 simp only[argS]
 (repeat (first | refine Ak_ fun K hK=> ?_ | (refine DW_r Ct_ Tryz.mixed (by kernel_rfl) ?_;simp[Ct_,hnt];try simp (disch:=omega) only[Aa_]) | refine Ac_ ?_ | (refine As_ ?_ ?_ ?_;(· (simp[hnt];done));(try (rotate_left;(· (intro hc;(try simp[hnt]at hc);done))))) | (refine Al_ ?_;simp[Tryz.results219,hnt]) | ((first | refine Ah_ ?_ | refine Ag_ ?_);simp[hnt]) | (intro hc;(try simp[hnt]at hc);(try (exfalso;omega))) | (refine⟨?_,?_⟩; · omega) | omega | apply_assumption -exfalso -symm | (exfalso;omega)))
 refine Am_ (X:={k:Nat//k≤l.length∧∀i x,i<k→l[i]? =some x→q x=false}) (fun x=>⟨[(0,Bh_ l),(1,.fn (.func g) us cs),(7,.int .i64 l.length),(8,.int .i64 x.1)],[]⟩) (fun x=>l.length-x.1) ⟨0,by simp⟩ (Sub.lit (by simp)) ?_
 rintro⟨k,hk,hno⟩
 by_cases hlt:k<l.length
 ·obtain⟨x,hx,hx',hxm⟩:=Aq_ hlt
  have hqx:=hq x hxm
  simp only[Af_,aU0,List.cons_append,List.nil_append]at hqx
  cases hb:q x
  ·rw[hb]at hqx
   have hno':∀i y,i<k+1→l[i]? =some y→q y=false:=by
    intro i y hi hy
    by_cases hik:i=k
    ·subst hik;rw[hx]at hy;simp only[aA0]at hy;subst hy;exact hb
    ·exact hno i y (by omega) hy
   (repeat (first | refine Ak_ fun K hK=> ?_ | (refine DW_r Ct_ Tryz.mixed (by kernel_rfl) ?_;simp[Ct_,hnt,Af_,hlt,hx'];try simp (disch:=omega) only[Aa_]) | refine Ac_ ?_ | (refine As_ ?_ ?_ ?_;(· (simp[hnt,Af_,hlt,hx'];done));(try (rotate_left;(· (intro hc;(try simp[hnt,Af_,hlt,hx']at hc);done))))) | (refine Al_ ?_;simp[Tryz.results219,hnt,Af_,hlt,hx']) | ((first | refine Ah_ ?_ | refine Ag_ ?_);simp[hnt,Af_,hlt,hx']) | (intro hc;(try simp[hnt,Af_,hlt,hx']at hc);(try (exfalso;omega))) | ((first | refine Ae_ (hqx) ?_ | (refine Ad_ (hqx) ?_ ?_;(· (simp;done))));try simp[hnt,Af_,hlt,hx']) | (refine⟨?_,?_⟩; · omega) | omega | apply_assumption -exfalso -symm | (exfalso;omega)))
   exact Ap_.mk ⟨k+1,by omega,hno'⟩ (Sub.lit (by simp[])) (by simp;omega)
   (repeat (first | refine Ak_ fun K hK=> ?_ | (refine DW_r Ct_ Tryz.mixed (by kernel_rfl) ?_;simp[Ct_,hnt,Af_,hlt,hx'];try simp (disch:=omega) only[Aa_]) | refine Ac_ ?_ | (refine As_ ?_ ?_ ?_;(· (simp[hnt,Af_,hlt,hx'];done));(try (rotate_left;(· (intro hc;(try simp[hnt,Af_,hlt,hx']at hc);done))))) | (refine Al_ ?_;simp[Tryz.results219,hnt,Af_,hlt,hx']) | ((first | refine Ah_ ?_ | refine Ag_ ?_);simp[hnt,Af_,hlt,hx']) | (intro hc;(try simp[hnt,Af_,hlt,hx']at hc);(try (exfalso;omega))) | ((first | refine Ae_ (hqx) ?_ | (refine Ad_ (hqx) ?_ ?_;(· (simp;done))));try simp[hnt,Af_,hlt,hx']) | (refine⟨?_,?_⟩; · omega) | omega | apply_assumption -exfalso -symm | (exfalso;omega)))
  ·rw[hb]at hqx
   have hany:l.any q=true:=bY0.2 ⟨x,hxm,hb⟩
   have hidx:l.findIdx q=k:=by
    rw[List.findIdx_eq hlt]
    refine⟨by rw[hx'];exact hb,fun i hi=> ?_⟩
    exact hno i _ hi (aH0 (by omega))
   (repeat (first | refine Ak_ fun K hK=> ?_ | (refine DW_r Ct_ Tryz.mixed (by kernel_rfl) ?_;simp[Ct_,hnt,Af_,hlt,hx',hany,hidx];try simp (disch:=omega) only[Aa_]) | refine Ac_ ?_ | (refine As_ ?_ ?_ ?_;(· (simp[hnt,Af_,hlt,hx',hany,hidx];done));(try (rotate_left;(· (intro hc;(try simp[hnt,Af_,hlt,hx',hany,hidx]at hc);done))))) | (refine Al_ ?_;simp[Tryz.results219,hnt,Af_,hlt,hx',hany,hidx]) | ((first | refine Ah_ ?_ | refine Ag_ ?_);simp[hnt,Af_,hlt,hx',hany,hidx]) | (intro hc;(try simp[hnt,Af_,hlt,hx',hany,hidx]at hc);(try (exfalso;omega))) | ((first | refine Ae_ (hqx) ?_ | (refine Ad_ (hqx) ?_ ?_;(· (simp;done))));try simp[hnt,Af_,hlt,hx',hany,hidx]) | (refine⟨?_,?_⟩; · omega) | omega | apply_assumption -exfalso -symm | (exfalso;omega)))
 ·have hkk:k=l.length:=by omega
  have hany:l.any q=false:=by
   rw[dE0]
   intro x hx
   obtain⟨i,hi,rfl⟩:=bN0 hx
   rw[hno i _ (by omega) (aH0 hi)]
   simp
  (repeat (first | refine Ak_ fun K hK=> ?_ | (refine DW_r Ct_ Tryz.mixed (by kernel_rfl) ?_;simp[Ct_,hnt,Af_,hkk,hany];try simp (disch:=omega) only[Aa_]) | refine Ac_ ?_ | (refine As_ ?_ ?_ ?_;(· (simp[hnt,Af_,hkk,hany];done));(try (rotate_left;(· (intro hc;(try simp[hnt,Af_,hkk,hany]at hc);done))))) | (refine Al_ ?_;simp[Tryz.results219,hnt,Af_,hkk,hany]) | ((first | refine Ah_ ?_ | refine Ag_ ?_);simp[hnt,Af_,hkk,hany]) | (intro hc;(try simp[hnt,Af_,hkk,hany]at hc);(try (exfalso;omega))) | ((first | refine Ae_ (hqx) ?_ | (refine Ad_ (hqx) ?_ ?_;(· (simp;done))));try simp[hnt,Af_,hkk,hany]) | (refine⟨?_,?_⟩; · omega) | omega | apply_assumption -exfalso -symm | (exfalso;omega)))
def GT_ : Ann:=⟨[],[]⟩
theorem HV_ (g:FuncId) (us cs:List DVal) (l:List Prod) (q:Prod→Bool) (hq:∀x∈l,Aj_ Tryz.prog g (us++[.agg (Af_ x)]++cs) (.bool (q x))) :
  Aj_ Tryz.prog 149 [Bh_ l,.fn (.func g) us cs] (.bool (l.any q)):=by
 refine Ab_ [] (fn:=Tryz.f149) Tryz.func149 rfl Tryz.call149 (by simp[Tryz.ntmps149]) (by simp[mx]) ?_
 intro hwf B hnt
 simp only[Tryz.ntmps149]at hnt
 have hgAnn:=Ao_ GT_ Tryz.mixed (aj2 @GT_.eq_1 Tryz.results149)
 simp only[argS]
 have hi:=Kd_ g us cs l q hq
 have hge:(0:Int)≤(l.findIdx q:Nat):=by omega
 cases hb:l.any q
 ·rw[hb]at hi
  (repeat (first | refine Ak_ fun K hK=> ?_ | (refine DW_r GT_ Tryz.mixed (by kernel_rfl) ?_;simp[GT_,hnt,hb];try simp (disch:=omega) only[Aa_]) | refine Ac_ ?_ | (refine As_ ?_ ?_ ?_;(· (simp[hnt,hb];done));(try (rotate_left;(· (intro hc;(try simp[hnt,hb]at hc);done))))) | (refine Al_ ?_;simp[Tryz.results149,hnt,hb]) | ((first | refine Ah_ ?_ | refine Ag_ ?_);simp[hnt,hb]) | (intro hc;(try simp[hnt,hb]at hc);(try (exfalso;omega))) | ((first | refine Ae_ (hi) ?_ | (refine Ad_ (hi) ?_ ?_;(· (simp;done))));try simp[hnt,hb]) | (refine⟨?_,?_⟩; · omega) | omega | apply_assumption -exfalso -symm | (exfalso;omega)))
 ·rw[hb]at hi
  (repeat (first | refine Ak_ fun K hK=> ?_ | (refine DW_r GT_ Tryz.mixed (by kernel_rfl) ?_;simp[GT_,hnt,hb];try simp (disch:=omega) only[Aa_]) | refine Ac_ ?_ | (refine As_ ?_ ?_ ?_;(· (simp[hnt,hb];done));(try (rotate_left;(· (intro hc;(try simp[hnt,hb]at hc);done))))) | (refine Al_ ?_;simp[Tryz.results149,hnt,hb]) | ((first | refine Ah_ ?_ | refine Ag_ ?_);simp[hnt,hb]) | (intro hc;(try simp[hnt,hb]at hc);(try (exfalso;omega))) | ((first | refine Ae_ (hi) ?_ | (refine Ad_ (hi) ?_ ?_;(· (simp;done))));try simp[hnt,hb]) | (refine⟨?_,?_⟩; · omega) | omega | apply_assumption -exfalso -symm | (exfalso;omega)))
def DW_ (p:Prod):Bool:=AD_ p.body==0
def Bt_ (c:Cnf):Bool:=BI_ c&& !c.prods.any DW_
def KQ_ : Ann:=⟨[],[]⟩
theorem is1_pure (p:Prod):Aj_ Tryz.prog 150 [.agg (Af_ p)] (.bool (DW_ p)):=by
 refine Ab_ [] (fn:=Tryz.f150) Tryz.func150 rfl Tryz.call150 (by simp[Tryz.ntmps150]) (by simp[mx]) ?_
 intro hwf B hnt
 simp only[Tryz.ntmps150]at hnt
 have hgAnn:=Ao_ KQ_ Tryz.mixed (aj2 @KQ_.eq_1 Tryz.results150)
 simp only[argS]
 (repeat (first | refine Ak_ fun K hK=> ?_ | (refine DW_r KQ_ Tryz.mixed (by kernel_rfl) ?_;simp[KQ_,hnt,Af_,DW_];try simp (disch:=omega) only[Aa_]) | refine Ac_ ?_ | (refine As_ ?_ ?_ ?_;(· (simp[hnt,Af_,DW_];done));(try (rotate_left;(· (intro hc;(try simp[hnt,Af_,DW_]at hc);done))))) | (refine Al_ ?_;simp[Tryz.results150,hnt,Af_,DW_]) | ((first | refine Ah_ ?_ | refine Ag_ ?_);simp[hnt,Af_,DW_]) | (intro hc;(try simp[hnt,Af_,DW_]at hc);(try (exfalso;omega))) | ((first | refine Ae_ (Ly_ p.body) ?_ | (refine Ad_ (Ly_ p.body) ?_ ?_;(· (simp;done))));try simp[hnt,Af_,DW_]) | (refine⟨?_,?_⟩; · omega) | omega | apply_assumption -exfalso -symm | (exfalso;omega)))
def Go_ : Ann:=⟨[],[]⟩
theorem is_pure (c:Cnf):Aj_ Tryz.prog 58 [.agg (dCnf c)] (.bool (Bt_ c)):=by
 refine Ab_ [] (fn:=Tryz.f58) Tryz.func58 rfl Tryz.call58 (by simp[Tryz.ntmps58]) (by simp[mx]) ?_
 intro hwf B hnt
 simp only[Tryz.ntmps58]at hnt
 have hgAnn:=Ao_ Go_ Tryz.mixed (aj2 @Go_.eq_1 Tryz.results58)
 simp only[argS]
 have hq:=HV_ 150 [] [] c.prods DW_ (fun x _=>is1_pure x)
 have hc:=EF_ c
 simp only[dCnf]at hc
 cases h1:BI_ c
 ·rw[h1]at hc
  (repeat (first | refine Ak_ fun K hK=> ?_ | (refine DW_r Go_ Tryz.mixed (by kernel_rfl) ?_;simp[Go_,hnt,dCnf,Bt_,h1];try simp (disch:=omega) only[Aa_]) | refine Ac_ ?_ | (refine As_ ?_ ?_ ?_;(· (simp[hnt,dCnf,Bt_,h1];done));(try (rotate_left;(· (intro hc;(try simp[hnt,dCnf,Bt_,h1]at hc);done))))) | (refine Al_ ?_;simp[Tryz.results58,hnt,dCnf,Bt_,h1]) | ((first | refine Ah_ ?_ | refine Ag_ ?_);simp[hnt,dCnf,Bt_,h1]) | (intro hc;(try simp[hnt,dCnf,Bt_,h1]at hc);(try (exfalso;omega))) | ((first | refine Ae_ (hc) ?_ | refine Ae_ (hq) ?_ | (refine Ad_ (hc) ?_ ?_;(· (simp;done))) | (refine Ad_ (hq) ?_ ?_;(· (simp;done))));try simp[hnt,dCnf,Bt_,h1]) | (refine⟨?_,?_⟩; · omega) | omega | apply_assumption -exfalso -symm | (exfalso;omega)))
 ·rw[h1]at hc
  cases h2:c.prods.any DW_
  ·rw[h2]at hq
   (repeat (first | refine Ak_ fun K hK=> ?_ | (refine DW_r Go_ Tryz.mixed (by kernel_rfl) ?_;simp[Go_,hnt,dCnf,Bt_,h1,h2];try simp (disch:=omega) only[Aa_]) | refine Ac_ ?_ | (refine As_ ?_ ?_ ?_;(· (simp[hnt,dCnf,Bt_,h1,h2];done));(try (rotate_left;(· (intro hc;(try simp[hnt,dCnf,Bt_,h1,h2]at hc);done))))) | (refine Al_ ?_;simp[Tryz.results58,hnt,dCnf,Bt_,h1,h2]) | ((first | refine Ah_ ?_ | refine Ag_ ?_);simp[hnt,dCnf,Bt_,h1,h2]) | (intro hc;(try simp[hnt,dCnf,Bt_,h1,h2]at hc);(try (exfalso;omega))) | ((first | refine Ae_ (hc) ?_ | refine Ae_ (hq) ?_ | (refine Ad_ (hc) ?_ ?_;(· (simp;done))) | (refine Ad_ (hq) ?_ ?_;(· (simp;done))));try simp[hnt,dCnf,Bt_,h1,h2]) | (refine⟨?_,?_⟩; · omega) | omega | apply_assumption -exfalso -symm | (exfalso;omega)))
  ·rw[h2]at hq
   (repeat (first | refine Ak_ fun K hK=> ?_ | (refine DW_r Go_ Tryz.mixed (by kernel_rfl) ?_;simp[Go_,hnt,dCnf,Bt_,h1,h2];try simp (disch:=omega) only[Aa_]) | refine Ac_ ?_ | (refine As_ ?_ ?_ ?_;(· (simp[hnt,dCnf,Bt_,h1,h2];done));(try (rotate_left;(· (intro hc;(try simp[hnt,dCnf,Bt_,h1,h2]at hc);done))))) | (refine Al_ ?_;simp[Tryz.results58,hnt,dCnf,Bt_,h1,h2]) | ((first | refine Ah_ ?_ | refine Ag_ ?_);simp[hnt,dCnf,Bt_,h1,h2]) | (intro hc;(try simp[hnt,dCnf,Bt_,h1,h2]at hc);(try (exfalso;omega))) | ((first | refine Ae_ (hc) ?_ | refine Ae_ (hq) ?_ | (refine Ad_ (hc) ?_ ?_;(· (simp;done))) | (refine Ad_ (hq) ?_ ?_;(· (simp;done))));try simp[hnt,dCnf,Bt_,h1,h2]) | (refine⟨?_,?_⟩; · omega) | omega | apply_assumption -exfalso -symm | (exfalso;omega)))
def PX_ : Ann:=⟨[],[]⟩
theorem Tr_ : Aj_ Tryz.prog 19 [] (.bool true):=by
 refine Ab_ [] (fn:=Tryz.f19) Tryz.func19 rfl Tryz.call19 (by simp[Tryz.ntmps19]) (by simp[mx]) ?_
 intro hwf B hnt
 simp only[Tryz.ntmps19]at hnt
 have hgAnn:=Ao_ PX_ Tryz.mixed (aj2 @PX_.eq_1 Tryz.results19)
 simp only[argS]
 have h1:=is_pure ⟨1,[]⟩
 have h2:=is_pure ⟨0,[]⟩
 have e1:Bt_ ⟨1,[]⟩=true:=by decide
 have e2:Bt_ ⟨0,[]⟩=false:=by decide
 rw[e1]at h1
 rw[e2]at h2
 simp only[dCnf,Bh_,List.map_nil]at h1 h2
 (repeat (first | refine Ak_ fun K hK=> ?_ | (refine DW_r PX_ Tryz.mixed (by kernel_rfl) ?_;simp[PX_,hnt];try simp (disch:=omega) only[Aa_]) | refine Ac_ ?_ | (refine As_ ?_ ?_ ?_;(· (simp[hnt];done));(try (rotate_left;(· (intro hc;(try simp[hnt]at hc);done))))) | (refine Al_ ?_;simp[Tryz.results19,hnt]) | ((first | refine Ah_ ?_ | refine Ag_ ?_);simp[hnt]) | (intro hc;(try simp[hnt]at hc);(try (exfalso;omega))) | ((first | refine Ae_ (h1) ?_ | refine Ae_ (h2) ?_ | (refine Ad_ (h1) ?_ ?_;(· (simp;done))) | (refine Ad_ (h2) ?_ ?_;(· (simp;done))));try simp[hnt]) | (refine⟨?_,?_⟩; · omega) | omega | apply_assumption -exfalso -symm | (exfalso;omega)))
end Go.Proofs.YtchgnpnbcjflcaaGreat
end
