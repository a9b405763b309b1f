/- Parts of a proof, laid together: WBp, WB3, EnSc, WB4, WB5, WB6, WB7, BN0, WB8, WB9, WB10, WB11, WB12, WB13, EnBo, BN1, WRn, RY1. -/
import Derived.Scope
import Derived.Test.YtchgnpnbcjflcaaGreatqCr4
import Derived.Test.YtchgnpnbcjflcaaGreatqCr5
import Derived.Test.YtchgnpnbcjflcaaGreatqCr6
set_option linter.unusedSimpArgs false
set_option maxHeartbeats 8000000
set_option linter.unusedVariables false
set_option linter.unusedSectionVars false
section
namespace Go.Proofs.Wy
open Go Go.Dm Tryz
variable [DMode]
abbrev Str (l:List ByteArray):Prop:=l.Pairwise fun a b=>Br a b=true
theorem UG : ∀{a b:List ByteArray},Str a->Str b->(∀x,x∈a↔x∈b)->a=b
 | [],[],_,_,_=>rfl
 | [],y::b,_,_,h=>by have:=(h y).2 aF0;simp at this
 | x::a,[],_,_,h=>by have:=(h x).1 aF0;simp at this
 | x::a,y::b,ha,hb,h=>by
  obtain⟨ha1,mN⟩:=bS0.1 ha;obtain⟨qE,qP⟩:=bS0.1 hb
  have fY:x=y:=by
   rcases aL0.1 ((h x).1 aF0)with h1 | h1
   ·exact h1
   ·rcases aL0.1 ((h y).2 aF0)with h2 | h2
    ·exact h2.symm
    ·have:=UK (qE x h1);rw[ha1 y h2]at this;simp at this
  subst fY;rw[UG mN qP fun z=> ?_]
  constructor
  ·intro hz
   rcases aL0.1 ((h z).1 (aE0 _ hz))with h1 | h1
   ·subst h1;have:=ha1 z hz;rw[Ef]at this;simp at this
   ·exact h1
  ·intro hz
   rcases aL0.1 ((h z).2 (aE0 _ hz))with h1 | h1
   ·subst h1;have:=qE z hz;rw[Ef]at this;simp at this
   ·exact h1
theorem Sj_ : ∀a b:List UInt8,Op.bytesLess a b=true↔a<b
 | [],[]=>by simp[Op.bytesLess]
 | [],_::_=>by simp[Op.bytesLess]
 | _::_,[]=>by simp[Op.bytesLess]
 | x::a,y::b=>by
  rw[List.cons_lt_cons_iff];simp only[Op.bytesLess,dI0,aM0,decide_eq_true_eq,beq_iff_eq,Sj_ a b]
theorem YB (l:List ByteArray) (x:ByteArray):x∈Ep l↔x∈l:=by
 unfold Ep;simp only[aU0,(eC0 _ _).mem_iff]
 constructor
 ·rintro⟨y,⟨z,hz,rfl⟩,rfl⟩;exact hz
 ·intro h;exact⟨_,⟨x,h,rfl⟩,rfl⟩
theorem Pr (l:List ByteArray):(Ep l).Pairwise fun a b=>Br b a=false:=by
 unfold Ep;rw[dN0]
 have h:=List.pairwise_mergeSort (le:=fun x y:List UInt8=>decide (x<=y)) (by
  intro a b c h1 h2;simp only[decide_eq_true_eq]at *
  exact List.le_trans h1 h2) (by
  intro a b;simp only[dI0,decide_eq_true_eq]
  exact List.le_total a b) (l.map fun s=>s.data.toList)
 refine h.imp ?_;intro a b pC;simp only[decide_eq_true_eq]at pC
 have:¬Op.bytesLess b a=true:=fun h=>by
  rw[Sj_]at h;exact(List.not_lt.2 pC) h
 simpa[Br]using this
def Zv (a b:ByteArray):Bool:=a==b
theorem WJ : ∀{l:List ByteArray} {p:ByteArray},(p::l).Pairwise (fun a b=>Br b a=false)->Str (CA Zv p l)/\(∀x∈CA Zv p l,Br p x=true)/\∀x,(x=p\/x∈CA Zv p l)↔(x=p\/x∈l)
 | [],p,_=>⟨.nil,by simp[CA],by simp[CA]⟩
 | y::l,p,h=>by
  obtain⟨h1,h2⟩:=bS0.1 h;obtain⟨g1,g2,g3⟩:=WJ h2;unfold CA
  by_cases hyp:y=p
  ·subst hyp;rw[if_pos (by simp[Zv])];refine⟨g1,g2,fun x=> ?_⟩;rw[g3 x];simp only[aL0]
   constructor
   ·rintro (h | h)
    ·exact .inl h
    ·exact .inr (.inr h)
   ·rintro (h | h | h)
    ·exact .inl h
    ·exact .inl h
    ·exact .inr h
  ·rw[if_neg (by simp[Zv,hyp])]
   have hpy:Br p y=true:=by
    cases hc:Br p y
    ·exact absurd (JY hc (h1 y aF0)).symm hyp
    ·rfl
   refine⟨bS0.2 ⟨g2,g1⟩,fun x hx=> ?_,fun x=> ?_⟩
   ·rcases aL0.1 hx with rfl | hx
    ·exact hpy
    ·exact DI hpy (g2 x hx)
   ·simp only[aL0];rw[g3 x]
def CD (l:List ByteArray):List ByteArray:=Bu Zv (Ep l)
theorem FO (l:List ByteArray):Str (CD l)/\∀x,x∈CD l↔x∈l:=by
 unfold CD;have h:=Pr l;have hm:=YB l
 cases hs:Ep l with
 | nil =>
  rw[hs]at hm;exact⟨.nil,by simpa[Bu]using hm⟩
 | cons p t =>
  rw[hs]at h hm;obtain⟨g1,g2,g3⟩:=WJ h;refine⟨bS0.2 ⟨g2,g1⟩,fun x=> ?_⟩;simp only[Bu,aL0];rw[g3 x,<-hm x];simp
theorem Jy {α:Type} (e:α->α->Bool):∀(l:List α) (p:α),(CA e p l).length<=l.length
 | [],_=>by simp[CA]
 | y::l,p=>by
  unfold CA
  split
  ·have:=Jy e l y;simp;omega
  ·have:=Jy e l y;simp;omega
theorem Gu (l:List ByteArray):(CD l).length<=l.length:=by
 unfold CD;have h:=HV l
 cases hs:Ep l with
 | nil=>simp[Bu]
 | cons p t =>
  rw[hs]at h;have:=Jy Zv t p;simp only[Bu,List.length_cons]at h |-;omega
theorem TE {l a:List ByteArray} (ha:Str a) (h:∀x,x∈a↔x∈l):a=CD l:=by
 obtain⟨g1,g2⟩:=FO l;exact UG ha g1 fun x=>by rw[h x,g2 x]
def Cf : List ByteArray->List ByteArray->List ByteArray
 | [],[]=>[]
 | [],y::b=>y::Cf [] b
 | x::a,[]=>x::Cf a []
 | x::a,y::b=>if Br x y then x::Cf a (y::b)else if x==y then y::Cf a b else y::Cf (x::a) b
termination_by a b => a.length + b.length
theorem CW : ∀(a b:List ByteArray) (z:ByteArray),z∈Cf a b↔z∈a\/z∈b
 | [],[],z=>by simp[Cf]
 | [],y::b,z=>by simp[Cf,CW [] b z]
 | x::a,[],z=>by simp[Cf,CW a [] z]
 | x::a,y::b,z=>by
  unfold Cf
  split
  ·simp only[aL0,CW a (y::b) z]
   constructor
   ·rintro (h | h | h | h)<;>simp[h]
   ·rintro ((h | h) | h | h)<;>simp[h]
  ·split
   ·rename_i h1 h2;have h2:x=y:=by simpa using h2
    subst h2;simp only[aL0,CW a b z]
    constructor
    ·rintro (h | h | h)<;>simp[h]
    ·rintro ((h | h) | h | h)<;>simp[h]
   ·simp only[aL0,CW (x::a) b z]
    constructor
    ·rintro (h | (h | h) | h)<;>simp[h]
    ·rintro ((h | h) | h | h)<;>simp[h]
termination_by a b => a.length + b.length
theorem GD : ∀(a b:List ByteArray),Str a->Str b->Str (Cf a b)
 | [],[],_,_=>by simp[Cf]
 | [],y::b,ha,hb=>by
  obtain⟨h1,h2⟩:=bS0.1 hb;unfold Cf;refine bS0.2 ⟨fun z hz=> ?_,GD [] b ha h2⟩;rw[CW]at hz;exact h1 z (by simpa using hz)
 | x::a,[],ha,hb=>by
  obtain⟨h1,h2⟩:=bS0.1 ha;unfold Cf;refine bS0.2 ⟨fun z hz=> ?_,GD a [] h2 hb⟩;rw[CW]at hz;exact h1 z (by simpa using hz)
 | x::a,y::b,ha,hb=>by
  obtain⟨h1,h2⟩:=bS0.1 ha;obtain⟨h3,h4⟩:=bS0.1 hb;unfold Cf
  split
  ·rename_i qV;refine bS0.2 ⟨fun z hz=> ?_,GD a (y::b) h2 hb⟩;rw[CW]at hz
   rcases hz with hz | hz
   ·exact h1 z hz
   ·rcases aL0.1 hz with rfl | hz
    ·exact qV
    ·exact DI qV (h3 z hz)
  ·rename_i qV
   split
   ·rename_i he;have he:x=y:=by simpa using he
    subst he;refine bS0.2 ⟨fun z hz=> ?_,GD a b h2 h4⟩;rw[CW]at hz
    rcases hz with hz | hz
    ·exact h1 z hz
    ·exact h3 z hz
   ·rename_i he
    have cC:Br y x=true:=by
     cases hc:Br y x
     ·exact absurd (by simpa using JY (by simpa using qV) hc) he
     ·rfl
    refine bS0.2 ⟨fun z hz=> ?_,GD (x::a) b ha h4⟩;rw[CW]at hz
    rcases hz with hz | hz
    ·rcases aL0.1 hz with rfl | hz
     ·exact cC
     ·exact DI cC (h1 z hz)
    ·exact h3 z hz
termination_by a b => a.length + b.length
theorem Gj_ (a b:List ByteArray):Cf (CD a) (CD b)=CD (a++b):=by
 obtain⟨a1,a2⟩:=FO a;obtain⟨b1,b2⟩:=FO b;exact TE (GD _ _ a1 b1) fun x=>by rw[CW,a2,b2,aI0]
theorem Fe_ {l:List ByteArray} (h:l.length<2):CD l=l:=by
 refine(TE ?_ fun x=>Iff.rfl).symm
 match l,h with
 | [],_=>exact .nil
 | [a],_=>exact List.pairwise_singleton _ _
end Go.Proofs.Wy
end
section
namespace Go.Proofs.Wy
open Go Go.Dm Tryz
variable [DMode]
attribute [local irreducible] DW Bs Bv
set_option maxRecDepth 100000
def CI_ : Ann:=⟨[],[]⟩
theorem Tf (a b:Edge):Ac prog 245 [.agg (AO a),.agg (AO b)] (.int .i64 (LZ_ a b)):=by
 refine Ab [] CI_ func245 call245 ntmps245 mxd (Ap @CI_.eq_1 results245) rfl (fun qJ B qX qQ=> ?_);simp only[Ak];have h1:=HS a.fr b.fr;have h2:=HS a.lb b.lb;have h3:=HS a.to b.to;have h4:=Vk (HK a.fr b.fr) (HK a.lb b.lb) (HK a.to b.to);unfold LZ_;exact Al (CG h1 h2 h3 h4) Aa (Aq @AO.eq_1)
def CG_ : Ann:=⟨[],[]⟩
theorem BY_ (a b:Edge):Ac prog 251 [.agg (AO a),.agg (AO b)] (.bool (IP a b)):=by
 refine Ab [] CG_ func251 call251 ntmps251 mxd (Ap @CG_.eq_1 results251) rfl (fun qJ B qX qQ=> ?_);simp only[Ak];unfold IP
 by_cases h1:a.fr=b.fr
 ·by_cases h2:a.lb=b.lb
  ·exact Al Aa Aa (CG @AO.eq_1 h1 h2 @Br.eq_1)
  ·exact Al Aa Aa (CG @AO.eq_1 h1 h2 @Br.eq_1)
 ·exact Al Aa Aa (BC @AO.eq_1 h1 @Br.eq_1)
def eqE (a b:Edge):Bool:=decide (a=b)
def Hr (l:List Edge) (s:Edge):Int:=if l.any (fun x=>eqE s x)then ((l.findIdx fun x=>eqE s x:Nat):Int)else -1
theorem Ag_ {l:List Edge} {s:Edge} {k:Nat} (hk:k<l.length) (h:l[k]=s) (wE:∀i x,i<k->l[i]? =some x->s≠x):Hr l s=k:=by
 unfold Hr;have hb:eqE s l[k]=true:=by rw[h];simp[eqE]
 rw[if_pos (bW0.2 ⟨l[k],cY0 _,hb⟩)]
 congr 1
 rw[fD0 hk];refine⟨hb,fun i hi=> ?_⟩;have:=wE i _ hi (aD0 (by omega));simpa[eqE]using this
theorem Ah_ {l:List Edge} {s:Edge} (wE:∀i x,i<l.length->l[i]? =some x->s≠x):Hr l s= -1:=by
 unfold Hr;rw[if_neg];simp only[dX0,cZ0];intro x hx;obtain⟨i,hi,rfl⟩:=bJ0 hx;have:=wE i _ hi (aD0 hi);simpa[eqE]using this
def CH_ : Ann:=⟨[],[]⟩
theorem Yb (l:List Edge) (s:Edge):Ac prog 250 [Cq l,.agg (AO s)] (.int .i64 (Hr l s)):=by
 refine Ab [] CH_ func250 call250 ntmps250 mxd (Ap @CH_.eq_1 results250) rfl (fun qJ B qX qQ=> ?_);have qZ:=FX qJ.1;clear qJ;simp only[Ak];obtain⟨R,hR⟩:∃R,R=Hr l s:=⟨_,rfl⟩;rw[<-hR]
 (refine Au Aa Aa (Aq @AO.eq_1) ?_;intros;refine Ae ?_)
 refine Af (X:={k:Nat//k<=l.length/\∀i x,i<k->l[i]? =some x->s≠x}) (fun x=>⟨[(0,Cq l),(3,.ref (AO s)),(7,.int .i64 l.length),(8,.int .i64 x.1)],[]⟩) (fun x=>l.length-x.1) ⟨0,by simp⟩ (Sub.lit (by simp[AO])) ?_;rintro⟨k,hk,wE⟩
 by_cases qV:k<l.length
 ·obtain⟨x,hx,qU,wA⟩:=Ai qV
  by_cases hb:s=x
  ·subst hb;have vP:R=k:=by rw[hR];exact Ag_ qV qU wE
   subst vP;exact Al Aa Aa (CG @AO.eq_1 qV qU hx)
  ·have jL:∀i y,i<k+1->l[i]? =some y->s≠y:=by
    intro i y hi hy
    by_cases fP:i=k
    ·subst fP;rw[hx]at hy;simp only[aA0]at hy;subst hy;exact hb
    ·exact wE i y (by omega) hy
   have qK:(s.fr==x.fr&&(s.lb==x.lb&&s.to==x.to))=false:=by
    rw[dS0];intro hh;simp only[aM0,beq_iff_eq]at hh
    apply hb
    cases s;cases x;simp only at hh;rw[hh.1,hh.2.1,hh.2.2]
   (refine Au Aa Aa (Dx @AO.eq_1 qV qU hx qK) ?_;intros;refine Ae ?_)
   exact Ag.mk ⟨k+1,by omega,jL⟩ (Sub.lit (by simp[AO])) (by simp;omega)
   skip
 ·have qY:k=l.length:=by omega
  subst qY;have vP:R= -1:=by rw[hR];exact Ah_ wE
  subst vP;exact Al Aa Aa Aa
end Go.Proofs.Wy
end
section
namespace Go
section
variable {F : Fence} {n : Nat} {P : Program} {Q : Exit -> Act -> World -> Prop} {a : Act} {w : World}
theorem stepR_scope {b:Frame} {k:List Item} {cs:List Frame} {c:Code}:step P (lone (b.atR a (.code (.scope c)::k)) cs w)= .next (lone (b.atR a (.code c:: .inScope c::k)) cs w) :=
 step_lone_go (by simp[stepG,stepG.exec,Frame.atR])
theorem stepR_inScope {b:Frame} {k:List Item} {cs:List Frame} {c:Code}:step P (lone (b.atR a (.inScope c::k)) cs w)= .next (lone (b.atR a k) cs w) :=
 step_lone_go (by simp[stepG,stepG.exec,Frame.atR])
theorem wpIn_scope_straight {c:Code} (h:c.wpIn F n P (Exit.noGoto Q) a w):(Code.scope c).wpIn F n P Q a w:=by
 intro b k cs mB hb hr;have h0:(lone (b.atR a (.code (.scope c)::k)) cs w).fenced P F:=fenced_calm hb hr rfl;obtain⟨e,a₁,w₁,hq,bM⟩:=h b (.inScope c::k) cs mB hb hr
 cases e with
 | normal=>exact⟨.normal,a₁,w₁,hq,.head h0 stepR_scope (StepsIn.trans bM (.one (fenced_calm hb hr rfl) stepR_inScope))⟩
 | exit id =>
  have hx:exitTo id (.inScope c::k)=exitTo id k:=by simp[exitTo]
  exact⟨_,a₁,w₁,hq,fun k' hk=> .head h0 stepR_scope (bM.1 k' (by rw[hx];exact hk)),
   fun qC hk=>let ⟨k₁,h1,h2⟩:=bM.2 qC (by rw[hx];exact hk);⟨k₁,h1,.head h0 stepR_scope h2⟩⟩
 | goto l=>exact hq.elim
 | ret=>exact⟨_,a₁,w₁,hq,.of_steps (.one h0 stepR_scope) bM⟩
 | panic ch=>exact⟨_,a₁,w₁,hq,.of_steps (.one h0 stepR_scope) bM⟩
 | outgrown=>exact⟨_,a₁,w₁,hq,.of_steps (.one h0 stepR_scope) bM⟩
end
end Go
namespace Go.Dm
variable [DMode]
def Qu_ (Q:Exit->DS->Prop):Exit->DS->Prop
 | .goto _,_=>False
 | e,s=>Q e s
theorem ES_ {P:Program} {B:Base} {Q:Exit->DS->Prop} {s:DS} {c:Code} (h:DW P B c (Qu_ Q) s):DW P B (.scope c) Q s:=by
 intro a w loc R;refine wpIn_scope_straight (wpIn_mono (h a w loc R) ?_);rintro e a' w' ⟨s',loc',hq,R'⟩
 cases e<;>first
  | exact hq.elim
  | exact⟨s',loc',hq,R'⟩
attribute [simp] Qu_
end Go.Dm
end
section
namespace Go.Proofs.Wy
open Go Go.Dm Tryz
variable [DMode]
attribute [local irreducible] DW Bs Bv
set_option maxRecDepth 100000
def CF_ : Ann:=⟨[],[]⟩
theorem RW (l:List Edge) (s:Edge):Ac prog 168 [Cq l,.agg (AO s)] (.bool (decide (0<=Hr l s))):=by
 refine Ab [] CF_ func168 call168 ntmps168 mxd (Ap @CF_.eq_1 results168) rfl (fun qJ B qX qQ=> ?_);simp only[Ak];have h:=Yb l s;simp only[AO]at h;exact Al (Aq h) Aa (Aq @AO.eq_1)
def Jf_ : Ann:=⟨[],[]⟩
theorem Bq_ (g1 g2 g3 g4:FuncId) (c1 c2 c3 c4:List DVal) (e1 e2 e3 e4:Int) (h1:Ac prog g1 c1 (.int .i64 e1)) (h2:e1=0->Ac prog g2 c2 (.int .i64 e2)) (h3:e1=0->e2=0->Ac prog g3 c3 (.int .i64 e3)) (h4:e1=0->e2=0->e3=0->Ac prog g4 c4 (.int .i64 e4)) :
  Ac prog 59 [.sl 1 8 [[.fn (.func g1) [] c1],[.fn (.func g2) [] c2],[.fn (.func g3) [] c3],[.fn (.func g4) [] c4]]] (.int .i64 (if e1=0 then (if e2=0 then (if e3=0 then e4 else e3)else e2)else e1)):=by
 refine Ab [] Jf_ func59 call59 ntmps59 mxd (Ap @Jf_.eq_1 results59) rfl (fun qJ B qX qQ=> ?_);simp only[Ak];clear qJ;obtain⟨R,hR⟩:∃R,R=(if e1=0 then (if e2=0 then (if e3=0 then e4 else e3)else e2)else e1):=⟨_,rfl⟩;rw[<-hR]
 (refine Au Aa Aa Aa ?_;intros;refine Ae ?_)
 refine Af (X:={k:Nat//k<=4/\(1<=k->e1=0)/\(2<=k->e2=0)/\(3<=k->e3=0)/\(4<=k->e4=0)}) (fun x=>⟨[(6,.sl 1 8 [[.fn (.func g1) [] c1],[.fn (.func g2) [] c2],[.fn (.func g3) [] c3],[.fn (.func g4) [] c4]]),(7,.int .i64 4),(8,.int .i64 x.1)],[]⟩) (fun x=>4-x.1) ⟨0,by simp⟩ (Sub.lit (by simp)) ?_;rintro⟨k,hk,q1,q2,q3,q4⟩
 match k,hk,q1,q2,q3,q4 with
 | 0,_,_,_,_,_ =>
  by_cases h:e1=0
  ·subst h
   (refine Au (Aq h1) Aa Aa ?_;intros;refine Ae ?_)
   exact Ag.mk ⟨1,by omega,by simp,by omega,by omega,by omega⟩ (Sub.lit (by simp)) (by simp)
   skip
  ·have vP:R=e1:=by rw[hR];simp[h]
   subst vP;exact Al (Aq h1) Aa (Aq h)
 | 1,_,q1,_,_,_ =>
  have q1:=q1 (by omega);have k2:=h2 q1;clear h2 h3 h4;subst q1
  by_cases h:e2=0
  ·subst h
   (refine Au (Aq k2) Aa Aa ?_;intros;refine Ae ?_)
   exact Ag.mk ⟨2,by omega,by simp,by simp,by omega,by omega⟩ (Sub.lit (by simp)) (by simp)
   skip
  ·have vP:R=e2:=by rw[hR];simp[h]
   subst vP;exact Al (Aq k2) Aa (Aq h)
 | 2,_,q1,q2,_,_ =>
  have q1:=q1 (by omega);have q2:=q2 (by omega);have k3:=h3 q1 q2;clear h2 h3 h4;subst q1;subst q2
  by_cases h:e3=0
  ·subst h
   (refine Au (Aq k3) Aa Aa ?_;intros;refine Ae ?_)
   exact Ag.mk ⟨3,by omega,by simp,by simp,by simp,by omega⟩ (Sub.lit (by simp)) (by simp)
   skip
  ·have vP:R=e3:=by rw[hR];simp[h]
   subst vP;exact Al (Aq k3) Aa (Aq h)
 | 3,_,q1,q2,q3,_ =>
  have q1:=q1 (by omega);have q2:=q2 (by omega);have q3:=q3 (by omega);have k4:=h4 q1 q2 q3;clear h2 h3 h4;subst q1;subst q2;subst q3
  by_cases h:e4=0
  ·subst h
   (refine Au (Aq k4) Aa Aa ?_;intros;refine Ae ?_)
   exact Ag.mk ⟨4,by omega,by simp,by simp,by simp,by simp⟩ (Sub.lit (by simp)) (by simp)
   skip
  ·have vP:R=e4:=by rw[hR];simp
   subst vP;exact Al (Aq k4) Aa (Aq h)
 | 4,_,q1,q2,q3,q4 =>
  clear h2 h3 h4;have q1:=q1 (by omega);have q2:=q2 (by omega);have q3:=q3 (by omega);have q4:=q4 (by omega);subst q1;subst q2;subst q3;subst q4;have vP:R=0:=by rw[hR];simp
  subst vP;exact Al Aa Aa Aa
def Jk (es:List Edge):ByteArray->List Edge->Option ByteArray
 | p,[]=>some p
 | p,x::l=>if x.fr=p/\0<=Hr es x then Jk es x.to l else none
def Ju (g:Edges) (a b:ByteArray) (way:List Edge):Bool:=match Jk g.edges a way with
 | some z=>z==b
 | none=>false
def Je_ : Ann:=⟨[],[⟨5,[12],[],[]⟩]⟩
theorem AY_ (g:Edges) (a b:ByteArray) (way:List Edge):Ac prog 83 [.agg (BU g),.str a,.str b,Cq way] (.bool (Ju g a b way)):=by
 refine Ab [] Je_ func83 call83 ntmps83 mxd (Ap @Je_.eq_1 results83) rfl (fun qJ B qX qQ=> ?_);have qZ:way.length<9223372036854775807:=FX qJ.2.2.2.1;clear qJ;simp only[Ak];obtain⟨R,hR⟩:∃R,R=Ju g a b way:=⟨_,rfl⟩;rw[<-hR];unfold Ju at hR
 (refine Au Aa Aa (Aq @BU.eq_1) ?_;intros;refine Ae ?_)
 refine ES_ ?_
 (refine Au Aa Aa (Aq @BU.eq_1) ?_;intros;refine Ae ?_)
 refine ET_ ?_;simp
 (refine Au Aa Aa (Aq @BU.eq_1) ?_;intros;refine Ae ?_)
 refine Af (X:={x:Nat×ByteArray//x.1<=way.length/\Jk g.edges x.2 (way.drop x.1)=Jk g.edges a way})
  (fun x=>⟨[(2,.str b),(4,.ref (BU g)),(9,.str x.1.2),(10,.bool true),(14,Cq way),(15,.int .i64 way.length),(16,.int .i64 x.1.1)],[]⟩) (fun x=>way.length-x.1.1) ⟨(0,a),by simp⟩ (Sub.lit (by simp[BU])) ?_
 rintro⟨⟨k,p⟩,hk,hw⟩;simp only at hk hw |-
 by_cases qV:k<way.length
 ·obtain⟨x,hx,qU,wA⟩:=Ai qV;rw[aP0 qV,qU]at hw;simp only[Jk]at hw;have h1:=RW g.edges x;simp only[AO]at h1
  by_cases c1:x.fr=p
  ·subst c1
   by_cases c2:0<=Hr g.edges x
   ·rw[if_pos ⟨rfl,c2⟩]at hw;simp only[c2,decide_true]at h1
    (refine Au (Aq h1) Aa (Dx @BU.eq_1 @AO.eq_1 qV hx qU) ?_;intros;refine Ae ?_)
    exact Ag.mk ⟨(k+1,x.to),show k+1<=way.length/\Jk g.edges x.to (way.drop (k+1))=Jk g.edges a way from ⟨by omega,hw⟩⟩ (Sub.lit (by simp[BU])) (by simp;omega)
    skip
   ·rw[if_neg (fun h=>c2 h.2)]at hw;simp only[c2,decide_false]at h1;rw[<-hw]at hR;simp only at hR;subst hR;exact Al (Aq h1) Aa (Dx @BU.eq_1 @AO.eq_1 qV hx qU)
  ·rw[if_neg (fun h=>c1 h.1)]at hw;rw[<-hw]at hR;simp only at hR;subst hR;have c1b:(x.fr==p)=false:=by simpa using c1
   exact Al (Aq h1) Aa (EB @BU.eq_1 @AO.eq_1 qV hx qU c1b)
 ·have qY:k=way.length:=by omega
  subst qY;rw[bE0]at hw;simp only[Jk]at hw;rw[<-hw]at hR;simp only at hR;subst hR;exact Al Aa Aa (Aq @BU.eq_1)
def Cm (way:List Edge):List ByteArray:=way.map (·.lb)
def Jg_ : Ann:=⟨[],[⟨4,[5],[],[]⟩]⟩
theorem eA (way:List Edge):Ac prog 28 [Cq way] (AJ (Cm way)):=by
 refine Ab [3] Jg_ func28 call28 ntmps28 mxd (Ap @Jg_.eq_1 results28) rfl (fun qJ B qX qQ=> ?_);have qZ:=FX qJ.1;have qM:way.length*48<=150000000000000:=by have:=qJ.1;simp only[Dq,aJ0]at this;exact this.1
 clear qJ;simp only[Ak]
 (refine Au Aa Aa Aa ?_;intros;refine Ae ?_)
 refine Bk 3 3 9 1 16 (by simp[qX,ntmps28]) (fun n3=> ?_);refine Af (X:={k:Nat//k<=way.length}) (fun k=>⟨[(3,.osl 3 1),(6,Cq way),(7,.int .i64 way.length),(8,.int .i64 k.1)],[⟨3,1,.row 9 1 16 ((Cm (way.take k.1)).map AG)⟩]⟩) (fun k=>way.length-k.1) ⟨0,by omega⟩ (Sub.lit (by simp[Cm])) ?_;rintro⟨k,hk⟩
 by_cases qV:k<way.length
 ·obtain⟨x,hx,qU,wA⟩:=Ai qV;have qH:Cm (way.take (k+1))=Cm (way.take k)++[x.lb]:=by unfold Cm;rw[bR0 qV,qU,aX0];rfl
  have zD:(Cm (way.take k)).length=k:=by simp[Cm];omega
  obtain⟨T,hT⟩:∃T,T=Cm (way.take k):=⟨_,rfl⟩;rw[<-hT]at qH zD |-;have z1:(k+1)*16<=150000000000000:=by omega
  have z2:k+1<=9223372036854775807:=by omega
  (refine Au Aa Aa (Ez @AO.eq_1 qV hx qU zD z1 z2) ?_;intros;refine Ae ?_)
  refine Ag.mk ⟨k+1,by omega⟩ (Sub.lit (by simp[qH,AG])) (by simp;omega)
  skip
 ·have qY:k=way.length:=by omega
  subst qY;rw[aN0];exact Al Aa Aa Aa
def Jd_ : Ann:=⟨[],[]⟩
theorem aZ (way:List Edge):Ac prog 86 [Cq way] (AJ (Cm way)):=by
 refine Ab [3] Jd_ func86 call86 ntmps86 mxd (Ap @Jd_.eq_1 results86) rfl (fun qJ B qX qQ=> ?_);have qZ:=FX qJ.1;have qM:way.length*48<=150000000000000:=by have:=qJ.1;simp only[Dq,aJ0]at this;exact this.1
 clear qJ;simp only[Ak]
 (refine Au Aa Aa Aa ?_;intros;refine Ae ?_)
 refine Bk 3 3 9 1 16 (by simp[qX,ntmps86]) (fun n3=> ?_);refine Af (X:={k:Nat//k<=way.length}) (fun k=>⟨[(0,Cq way),(3,.osl 3 1),(4,.int .i64 k.1)],[⟨3,1,.row 9 1 16 ((Cm (way.take k.1)).map AG)⟩]⟩) (fun k=>way.length-k.1) ⟨0,by omega⟩ (Sub.lit (by simp[Cm])) ?_;rintro⟨k,hk⟩
 by_cases qV:k<way.length
 ·obtain⟨x,hx,qU,wA⟩:=Ai qV;have qH:Cm (way.take (k+1))=Cm (way.take k)++[x.lb]:=by unfold Cm;rw[bR0 qV,qU,aX0];rfl
  have zD:(Cm (way.take k)).length=k:=by simp[Cm];omega
  obtain⟨T,hT⟩:∃T,T=Cm (way.take k):=⟨_,rfl⟩;rw[<-hT]at qH zD |-;have z1:(k+1)*16<=150000000000000:=by omega
  have z2:k+1<=9223372036854775807:=by omega
  (refine Au Aa Aa (Ez @AO.eq_1 qV hx qU zD z1 z2) ?_;intros;refine Ae ?_)
  refine Ag.mk ⟨k+1,by omega⟩ (Sub.lit (by simp[qH,AG])) (by simp;omega)
  skip
 ·have qY:k=way.length:=by omega
  subst qY;rw[aN0];exact Al Aa Aa Aa
def CE_ : Ann:=⟨[],[]⟩
theorem Gv_ (g:Edges) (a b:ByteArray) (way:List Edge):Ac prog 173 [.agg (BU g),Cq way,.str a,.str b] (.bool (Ju g a b way)):=by
 refine Ab [] CE_ func173 call173 ntmps173 mxd (Ap @CE_.eq_1 results173) rfl (fun qJ B qX qQ=> ?_);have qZ:way.length<9223372036854775807:=FX qJ.2.1;have zU:g.edges.length<9223372036854775807:=FX (by have:=qJ.1;simp only[Dq,BU,Gj]at this;exact this.2.1);clear qJ;simp only[Ak];obtain⟨R,hR⟩:∃R,R=Ju g a b way:=⟨_,rfl⟩;rw[<-hR];unfold Ju at hR;obtain⟨ns,es⟩:=g;simp only at hR zU
 (refine Au Aa Aa (Aq @BU.eq_1) ?_;intros;refine Ae ?_)
 refine Af (X:={x:Nat×ByteArray//x.1<=way.length/\Jk es x.2 (way.drop x.1)=Jk es a way})
  (fun x=>⟨[(1,Cq way),(3,.str b),(4,.ref [AJ ns,Cq es]),(9,.str x.1.2),(10,.int .i64 x.1.1)],[]⟩) (fun x=>way.length-x.1.1) ⟨(0,a),by simp⟩ (Sub.lit (by simp)) ?_
 rintro⟨⟨k,p⟩,hk,hw⟩;simp only at hk hw |-
 by_cases qV:k<way.length
 ·obtain⟨x,hx,qU,wA⟩:=Ai qV;rw[aP0 qV,qU]at hw;simp only[Jk]at hw
  (refine Au Aa Aa (Aq qV) ?_;intros;refine Ae ?_)
  refine Af (X:={j:Nat//j<=es.length}) (fun j=>⟨[(1,Cq way),(3,.str b),(4,.ref [AJ ns,Cq es]),(9,.str p),(10,.int .i64 k),(11,.bool ((es.take j.1).any fun y=>eqE x y)),(12,.int .i64 j.1)],[]⟩) (fun j=>es.length-j.1) ⟨0,by omega⟩ (Sub.lit (by simp)) ?_;rintro⟨j,hj⟩
  by_cases sV:j<es.length
  ·obtain⟨y,hy,wN,gG⟩:=Ai sV
   have qH:(es.take (j+1)).any (fun y=>eqE x y)=((es.take j).any (fun y=>eqE x y)||eqE x y):=by
    rw[bR0 sV,wN,dU0];simp
   obtain⟨T,hT⟩:∃T,T=(es.take j).any (fun y=>eqE x y):=⟨_,rfl⟩;rw[<-hT]at qH |-;cases T
   ·by_cases fY:x=y
    ·subst fY;have mV:eqE x x=true:=by simp[eqE]
     (refine Au Aa Aa (Ez @AO.eq_1 qV hx qU sV hy wN) ?_;intros;refine Ae ?_)
     exact Ag.mk ⟨j+1,by omega⟩ (Sub.lit (by simp[qH,mV])) (by simp;omega)
     skip
    ·have mV:eqE x y=false:=by simp[eqE,fY]
     have qK:(y.fr==x.fr&&(y.lb==x.lb&&y.to==x.to))=false:=by
      rw[dS0];intro hh;simp only[aM0,beq_iff_eq]at hh
      apply fY
      cases x;cases y;simp only at hh;rw[hh.1,hh.2.1,hh.2.2]
     (refine Au Aa Aa (Ji @AO.eq_1 qV hx qU sV hy wN qK) ?_;intros;refine Ae ?_)
     exact Ag.mk ⟨j+1,by omega⟩ (Sub.lit (by simp[qH,mV])) (by simp;omega)
     skip
   ·(refine Au Aa Aa (Ez @AO.eq_1 qV hx qU sV hy wN) ?_;intros;refine Ae ?_)
    exact Ag.mk ⟨j+1,by omega⟩ (Sub.lit (by simp[qH])) (by simp;omega)
    skip
  ·have sY:j=es.length:=by omega
   subst sY;rw[aN0]
   have yJ:es.any (fun y=>eqE x y)=decide (0<=Hr es x):=by
    unfold Hr;cases wZ:es.any (fun y=>eqE x y)
    ·simp
    ·rw[if_pos rfl];exact(decide_eq_true (by omega)).symm
   rw[yJ]
   by_cases c2:0<=Hr es x
   ·by_cases c1:x.fr=p
    ·subst c1;rw[if_pos ⟨rfl,c2⟩]at hw
     (refine Au Aa Aa (Dx @AO.eq_1 qV hx qU c2) ?_;intros;refine Ae ?_)
     exact Ag.mk ⟨(k+1,x.to),show k+1<=way.length/\Jk es x.to (way.drop (k+1))=Jk es a way from ⟨by omega,hw⟩⟩ (Sub.lit (by simp)) (by simp;omega)
     skip
    ·have c1b:(x.fr==p)=false:=by simpa using c1
     rw[if_neg (fun h=>c1 h.1)]at hw;rw[<-hw]at hR;simp only at hR;subst hR;exact Al Aa Aa (EB @AO.eq_1 qV hx qU c2 c1b)
   ·rw[if_neg (fun h=>c2 h.2)]at hw;rw[<-hw]at hR;simp only at hR;subst hR;exact Al Aa Aa (Dx @AO.eq_1 qV hx qU c2)
 ·have qY:k=way.length:=by omega
  subst qY;rw[bE0]at hw;simp only[Jk]at hw;rw[<-hw]at hR;simp only at hR;subst hR;exact Al Aa Aa Aa
def Ja {α:Type} (lt:α->α->Bool):List α->Bool
 | a::b::l=>lt a b&&Ja lt (b::l)
 | _=>true
theorem Np {α:Type} {lt:α->α->Bool} {l:List α} {k:Nat} {x y:α} (hx:l[k]? =some x) (hy:l[k+1]? =some y):Ja lt (l.drop k)=(lt x y&&Ja lt (l.drop (k+1))):=by
 obtain⟨h1,rfl⟩:=aB0.1 hx;obtain⟨h2,rfl⟩:=aB0.1 hy;rw[aP0 h1,aP0 h2];rfl
theorem PD {α:Type} {lt:α->α->Bool} {l:List α} {k:Nat} (h:l.length<=k+1):Ja lt (l.drop k)=true:=by
 have:(l.drop k).length<=1:=by rw[cD0];omega
 match hd:l.drop k,this with
 | [],_=>rfl
 | [a],_=>rfl
 | a::b::r,h=>simp at h
def QF : Ann:=⟨[],[]⟩
theorem Tb (l:List ByteArray):Ac prog 242 [AJ l,.fn (.func 243) [] []] (.bool (Ja Br l)):=by
 refine Ab [] QF func242 call242 ntmps242 mxd (Ap @QF.eq_1 results242) rfl (fun qJ B qX qQ=> ?_);have qZ:=FW qJ.1;clear qJ;simp only[Ak];obtain⟨R,hR⟩:∃R,R=Ja Br l:=⟨_,rfl⟩;rw[<-hR]
 (refine Au Aa Aa Aa ?_;intros;refine Ae ?_)
 refine Af (X:={k:Nat//k<=l.length/\R=Ja Br (l.drop k)}) (fun k=>⟨[(0,AJ l),(1,.fn (.func 243) [] []),(5,.int .i64 (k.1+1))],[]⟩) (fun k=>l.length-k.1) ⟨0,by simp[hR]⟩ (Sub.lit (by simp)) ?_;rintro⟨k,hk,hw⟩;clear hR
 by_cases qV:k+1<l.length
 ·obtain⟨x,hx,qU,_⟩:=Ai (show k<l.length by omega);obtain⟨y,hy,wN,_⟩:=Ai qV;rw[Np hx hy]at hw;have h1:=HS x y;have wQ:(k:Int)+1<l.length:=by omega
  have q0:(k:Int)+1-1=k:=by omega
  have q1:((k:Int)+1).toNat=k+1:=by omega
  have q2:k<l.length:=by omega
  have q3:(0:Int)<=(k:Int)+1:=by omega
  cases hl:Br x y
  ·rw[hl]at hw;simp only[bN0]at hw;subst hw
   have hc:(0:Int)<=HK x y:=by
    have:=(DX (a:=x) (b:=y)).1;rw[hl]at this;simp only[aK0,imp_false]at this;omega
   (refine Au (Aq h1) Aa (FJ @AG.eq_1 wQ hx qU hy wN q0 q1 q2 q3 qV hc) ?_;intros;refine Ae ?_)
   simp[qX,results242,QF,AG,wQ,hx,qU,hy,wN,q0,q1,q2,q3,qV,hc];exact Al (Aq h1) Aa (FJ @AG.eq_1 wQ hx qU hy wN q0 q1 q2 q3 qV hc)
  ·rw[hl]at hw;simp only[bO0]at hw;have hc:¬(0:Int)<=HK x y:=by have:=DX.2 hl;omega
   (refine Au (Aq h1) Aa (FJ @AG.eq_1 wQ hx qU hy wN q0 q1 q2 q3 qV hc) ?_;intros;refine Ae ?_)
   simp[qX,results242,QF,AG,wQ,hx,qU,hy,wN,q0,q1,q2,q3,qV,hc]
   (refine Au (Aq h1) Aa (FJ @AG.eq_1 wQ hx qU hy wN q0 q1 q2 q3 qV hc) ?_;intros;refine Ae ?_)
   exact Ag.mk ⟨k+1,by omega,hw⟩ (Sub.lit (by simp)) (by simp;omega)
   skip
 ·have wQ:¬(k:Int)+1<l.length:=by omega
  rw[PD (by omega)]at hw;subst hw;exact Al Aa Aa (Aq wQ)
def QE : Ann:=⟨[],[]⟩
theorem Rl (l:List Edge):Ac prog 244 [Cq l,.fn (.func 245) [] []] (.bool (Ja IP l)):=by
 refine Ab [] QE func244 call244 ntmps244 mxd (Ap @QE.eq_1 results244) rfl (fun qJ B qX qQ=> ?_);have qZ:=FX qJ.1;clear qJ;simp only[Ak];obtain⟨R,hR⟩:∃R,R=Ja IP l:=⟨_,rfl⟩;rw[<-hR]
 (refine Au Aa Aa Aa ?_;intros;refine Ae ?_)
 refine Af (X:={k:Nat//k<=l.length/\R=Ja IP (l.drop k)}) (fun k=>⟨[(0,Cq l),(1,.fn (.func 245) [] []),(5,.int .i64 (k.1+1))],[]⟩) (fun k=>l.length-k.1) ⟨0,by simp[hR]⟩ (Sub.lit (by simp)) ?_;rintro⟨k,hk,hw⟩;clear hR
 by_cases qV:k+1<l.length
 ·obtain⟨x,hx,qU,_⟩:=Ai (show k<l.length by omega);obtain⟨y,hy,wN,_⟩:=Ai qV;rw[Np hx hy]at hw;have h1:=Tf x y;simp only[AO]at h1;have wQ:(k:Int)+1<l.length:=by omega
  have q0:(k:Int)+1-1=k:=by omega
  have q1:((k:Int)+1).toNat=k+1:=by omega
  have q2:k<l.length:=by omega
  have q3:(0:Int)<=(k:Int)+1:=by omega
  cases hl:IP x y
  ·rw[hl]at hw;simp only[bN0]at hw;subst hw
   have hc:(0:Int)<=LZ_ x y:=by
    have:=(BI_ (a:=x) (b:=y)).1;rw[hl]at this;simp only[aK0,imp_false]at this;omega
   (refine Au (Aq h1) Aa (FJ @AO.eq_1 wQ hx qU hy wN q0 q1 q2 q3 qV hc) ?_;intros;refine Ae ?_)
   simp[qX,results244,QE,AO,wQ,hx,qU,hy,wN,q0,q1,q2,q3,qV,hc];exact Al (Aq h1) Aa (FJ @AO.eq_1 wQ hx qU hy wN q0 q1 q2 q3 qV hc)
  ·rw[hl]at hw;simp only[bO0]at hw;have hc:¬(0:Int)<=LZ_ x y:=by have:=BI_.2 hl;omega
   (refine Au (Aq h1) Aa (FJ @AO.eq_1 wQ hx qU hy wN q0 q1 q2 q3 qV hc) ?_;intros;refine Ae ?_)
   simp[qX,results244,QE,AO,wQ,hx,qU,hy,wN,q0,q1,q2,q3,qV,hc]
   (refine Au (Aq h1) Aa (FJ @AO.eq_1 wQ hx qU hy wN q0 q1 q2 q3 qV hc) ?_;intros;refine Ae ?_)
   exact Ag.mk ⟨k+1,by omega,hw⟩ (Sub.lit (by simp)) (by simp;omega)
   skip
 ·have wQ:¬(k:Int)+1<l.length:=by omega
  rw[PD (by omega)]at hw;subst hw;exact Al Aa Aa (Aq wQ)
def Df (e:Edge):Bool:=AX e.fr&&(Js e.lb&&AX e.to)
def GB (g:Edges):Bool:=g.nodes.all AX&&g.edges.all Df
theorem IW {α:Type} {q:α->Bool} {l:List α} {k:Nat} {x:α} (hx:l[k]? =some x):(l.drop k).all q=(q x&&(l.drop (k+1)).all q):=by
 obtain⟨h1,rfl⟩:=aB0.1 hx;rw[aP0 h1,cX0]
def CD_ : Ann:=⟨[],[⟨9,[6],[],[]⟩]⟩
theorem XT (g:Edges):Ac prog 166 [.agg (BU g)] (.bool (GB g)):=by
 refine Ab [] CD_ func166 call166 ntmps166 mxd (Ap @CD_.eq_1 results166) rfl (fun qJ B qX qQ=> ?_);obtain⟨ns,es⟩:=g;have wF:ns.length<9223372036854775807:=FW (by have:=qJ.1;simp only[Dq,BU,Gj]at this;exact this.1);have yI:es.length<9223372036854775807:=FX (by have:=qJ.1;simp only[Dq,BU,Gj]at this;exact this.2.1);clear qJ;simp only[Ak];obtain⟨R,hR⟩:∃R,R=GB ⟨ns,es⟩:=⟨_,rfl⟩;rw[<-hR];unfold GB at hR;simp only at hR
 (refine Au Aa Aa (Aq @BU.eq_1) ?_;intros;refine Ae ?_)
 refine Af (X:={k:Nat//k<=ns.length/\R=((ns.drop k).all AX&&es.all Df)}) (fun k=>⟨[(1,.ref [AJ ns,Cq es]),(8,AJ ns),(9,.int .i64 ns.length),(10,.int .i64 k.1)],[]⟩) (fun k=>ns.length-k.1) ⟨0,by simp[hR]⟩ (Sub.lit (by simp)) ?_;rintro⟨k,hk,hw⟩;clear hR
 by_cases qV:k<ns.length
 ·obtain⟨x,hx,qU,_⟩:=Ai qV;rw[IW hx]at hw;have h1:=Nu x;cases hq:AX x
  ·rw[hq]at hw h1;simp only[bN0]at hw;subst hw;exact Al (Aq h1) Aa (CG @AG.eq_1 qV hx qU)
  ·rw[hq]at hw h1;simp only[bO0]at hw
   (refine Au (Aq h1) Aa (CG @AG.eq_1 qV hx qU) ?_;intros;refine Ae ?_)
   exact Ag.mk ⟨k+1,by omega,hw⟩ (Sub.lit (by simp)) (by simp;omega)
   skip
 ·have qY:k=ns.length:=by omega
  subst qY;rw[bE0]at hw;simp only[fI0,bO0]at hw
  (refine Au Aa Aa Aa ?_;intros;refine Ae ?_)
  refine Af (X:={k:Nat//k<=es.length/\R=(es.drop k).all Df}) (fun k=>⟨[(19,Cq es),(20,.int .i64 es.length),(21,.int .i64 k.1)],[]⟩) (fun k=>es.length-k.1) ⟨0,by simp[hw]⟩ (Sub.lit (by simp)) ?_;rintro⟨k,hk,hw⟩
  by_cases qV:k<es.length
  ·obtain⟨x,hx,qU,_⟩:=Ai qV;rw[IW hx]at hw;have h1:=Nu x.fr;have h2:=Gp_ x.lb;have h3:=Nu x.to;cases wG:AX x.fr
   ·rw[wG]at h1;have:Df x=false:=by unfold Df;rw[wG];rfl
    rw[this]at hw;simp only[bN0]at hw;subst hw;exact Al (BC h1 h2 h3) Aa (CG @AO.eq_1 qV hx qU)
   ·rw[wG]at h1;cases wH:Js x.lb
    ·rw[wH]at h2;have:Df x=false:=by unfold Df;rw[wH];simp
     rw[this]at hw;simp only[bN0]at hw;subst hw;exact Al (BC h1 h2 h3) Aa (CG @AO.eq_1 qV hx qU)
    ·rw[wH]at h2;cases kE:AX x.to
     ·rw[kE]at h3;have:Df x=false:=by unfold Df;rw[kE];simp
      rw[this]at hw;simp only[bN0]at hw;subst hw;exact Al (BC h1 h2 h3) Aa (CG @AO.eq_1 qV hx qU)
     ·rw[kE]at h3;have:Df x=true:=by unfold Df;rw[wG,wH,kE];rfl
      rw[this]at hw;simp only[bO0]at hw
      (refine Au (BC h1 h2 h3) Aa (CG @AO.eq_1 qV hx qU) ?_;intros;refine Ae ?_)
      exact Ag.mk ⟨k+1,by omega,hw⟩ (Sub.lit (by simp)) (by simp;omega)
      skip
  ·have qY:k=es.length:=by omega
   subst qY;rw[bE0]at hw;simp only[fI0]at hw;subst hw;exact Al Aa Aa Aa
def CC_ : Ann:=⟨[],[⟨10,[8],[],[]⟩]⟩
theorem XS (ns:List ByteArray) (es:List Edge):Ac prog 170 [AJ ns,Cq es] (.bool (GB ⟨ns,es⟩)):=by
 refine Ab [] CC_ func170 call170 ntmps170 mxd (Ap @CC_.eq_1 results170) rfl (fun qJ B qX qQ=> ?_);have wF:ns.length<9223372036854775807:=FW qJ.1;have yI:es.length<9223372036854775807:=FX qJ.2.1;clear qJ;simp only[Ak];obtain⟨R,hR⟩:∃R,R=GB ⟨ns,es⟩:=⟨_,rfl⟩;rw[<-hR];unfold GB at hR;simp only at hR
 (refine Au Aa Aa Aa ?_;intros;refine Ae ?_)
 refine Af (X:={k:Nat//k<=ns.length/\R=((ns.drop k).all AX&&es.all Df)}) (fun k=>⟨[(0,AJ ns),(1,Cq es),(5,.int .i64 k.1)],[]⟩) (fun k=>ns.length-k.1) ⟨0,by simp[hR]⟩ (Sub.lit (by simp)) ?_;rintro⟨k,hk,hw⟩;clear hR
 by_cases qV:k<ns.length
 ·obtain⟨x,hx,qU,_⟩:=Ai qV;rw[IW hx]at hw;have h1:=KY x;cases hq:AX x
  ·rw[hq]at hw h1;simp only[bN0]at hw;subst hw;exact Al (Aq h1) Aa (CG @AG.eq_1 qV hx qU)
  ·rw[hq]at hw h1;simp only[bO0]at hw
   (refine Au (Aq h1) Aa (CG @AG.eq_1 qV hx qU) ?_;intros;refine Ae ?_)
   exact Ag.mk ⟨k+1,by omega,hw⟩ (Sub.lit (by simp)) (by simp;omega)
   skip
 ·have qY:k=ns.length:=by omega
  subst qY;rw[bE0]at hw;simp only[fI0,bO0]at hw
  (refine Au Aa Aa Aa ?_;intros;refine Ae ?_)
  refine Af (X:={k:Nat//k<=es.length/\R=(es.drop k).all Df}) (fun k=>⟨[(1,Cq es),(7,.int .i64 k.1)],[]⟩) (fun k=>es.length-k.1) ⟨0,by simp[hw]⟩ (Sub.lit (by simp)) ?_;rintro⟨k,hk,hw⟩
  by_cases qV:k<es.length
  ·obtain⟨x,hx,qU,_⟩:=Ai qV;rw[IW hx]at hw;have h1:=KY x.fr;have h2:=xQ x.lb;have h3:=KY x.to;cases wG:AX x.fr
   ·rw[wG]at h1;have:Df x=false:=by unfold Df;rw[wG];rfl
    rw[this]at hw;simp only[bN0]at hw;subst hw;exact Al (BC h1 h2 h3) Aa (CG @AO.eq_1 qV hx qU)
   ·rw[wG]at h1;cases wH:Js x.lb
    ·rw[wH]at h2;have:Df x=false:=by unfold Df;rw[wH];simp
     rw[this]at hw;simp only[bN0]at hw;subst hw;exact Al (BC h1 h2 h3) Aa (CG @AO.eq_1 qV hx qU)
    ·rw[wH]at h2;cases kE:AX x.to
     ·rw[kE]at h3;have:Df x=false:=by unfold Df;rw[kE];simp
      rw[this]at hw;simp only[bN0]at hw;subst hw;exact Al (BC h1 h2 h3) Aa (CG @AO.eq_1 qV hx qU)
     ·rw[kE]at h3;have:Df x=true:=by unfold Df;rw[wG,wH,kE];rfl
      rw[this]at hw;simp only[bO0]at hw
      (refine Au (BC h1 h2 h3) Aa (CG @AO.eq_1 qV hx qU) ?_;intros;refine Ae ?_)
      exact Ag.mk ⟨k+1,by omega,hw⟩ (Sub.lit (by simp)) (by simp;omega)
      skip
  ·have qY:k=es.length:=by omega
   subst qY;rw[bE0]at hw;simp only[fI0]at hw;subst hw;exact Al Aa Aa Aa
theorem YH {l:List ByteArray} (h:Ja Br l=true):l.Pairwise fun a b=>Br a b=true:=by
 induction l with
 | nil=>exact .nil
 | cons a l ih =>
  cases l with
  | nil=>exact List.pairwise_singleton _ _
  | cons b l =>
   simp only[Ja,aM0]at h;have ih:=ih h.2;refine bS0.2 ⟨fun x hx=> ?_,ih⟩
   rcases aL0.1 hx with rfl | hx
   ·exact h.1
   ·exact DI h.1 ((bS0.1 ih).1 x hx)
theorem TK {l:List ByteArray} (h:l.Pairwise fun a b=>Br a b=true) {i j:Nat} {x y:ByteArray} (zJ:i<j) (hx:l[i]? =some x) (hy:l[j]? =some y):Br x y=true:=by
 obtain⟨h1,rfl⟩:=aB0.1 hx;obtain⟨h2,rfl⟩:=aB0.1 hy;exact(fK0.1 h) i j h1 h2 zJ
def CA_ : Ann:=⟨[],[]⟩
theorem Pd (l:List ByteArray) (s:ByteArray) (hs:l.Pairwise fun a b=>Br a b=true):Ac prog 252 [AJ l,.str s] (.bool (decide (s∈l))):=by
 refine Ab [] CA_ func252 call252 ntmps252 mxd (Ap @CA_.eq_1 results252) rfl (fun qJ B qX qQ=> ?_);have qZ:l.length*16<=150000000000000:=by have:=qJ.1;simp only[Dq,aJ0]at this;exact this.1
 clear qJ;simp only[Ak];obtain⟨R,hR⟩:∃R,R=decide (s∈l):=⟨_,rfl⟩;rw[<-hR]
 (refine Au Aa Aa Aa ?_;intros;refine Ae ?_)
 refine Af (X:={x:Nat×Nat//x.1<=x.2/\x.2<=l.length/\(∀i y,i<x.1->l[i]? =some y->Br y s=true)/\(∀i y,x.2<=i->l[i]? =some y->Br y s=false)})
  (fun x=>⟨[(0,AJ l),(1,.str s),(5,.int .i64 x.1.1),(6,.int .i64 x.1.2)],[]⟩) (fun x=>x.1.2-x.1.1) ⟨(0,l.length),by simp,by simp,by simp,fun i y hi hy=>by
   have:=(aB0.1 hy).1
   simp only at hi;omega⟩ (Sub.lit (by simp)) ?_
 rintro⟨⟨lo,hi⟩,h1,h2,h3,h4⟩;simp only at h1 h2 h3 h4 |-
 by_cases qV:lo<hi
 ·obtain⟨m,hm⟩:∃m,m=(lo+hi)/2:=⟨_,rfl⟩;have yC:m<l.length:=by omega
  obtain⟨y,hy,wN,_⟩:=Ai yC;have w1:IntKind.i64.wrap ((lo:Int)+hi)=(lo:Int)+hi:=wq
  have w2:((lo:Int)+hi).tdiv 2=(m:Int):=by
   rw[show (lo:Int)+hi=((lo+hi:Nat):Int) by omega,Int.tdiv_eq_ediv_of_nonneg (by omega),hm];omega
  have w3:IntKind.i64.wrap (m:Int)=m:=wq;have wQ:(lo:Int)<hi:=by omega
  cases zR:Br y s
  ·have kN:Op.bytesLess y.data.toList s.data.toList=false:=zR
   (refine Au Aa Aa (Hn @AG.eq_1 qV wQ w1 w2 w3 yC hy wN kN) ?_;intros;refine Ae ?_)
   refine Ag.mk ⟨(lo,m),show lo<=m/\m<=l.length/\(∀i y,i<lo->l[i]? =some y->Br y s=true)/\(∀i y,m<=i->l[i]? =some y->Br y s=false) from ⟨by omega,by omega,h3,fun i z kI hz=> ?_⟩⟩ (Sub.lit (by simp)) (by simp;omega)
   ·rcases Nat.lt_or_eq_of_le kI with h | h
    ·have:=TK hs h hy hz;cases hzs:Br z s
     ·rfl
     ·have:=DI this hzs;rw[zR]at this;simp at this
    ·subst h;rw[hy]at hz;simp only[aA0]at hz;subst hz;exact zR
   skip
  ·have kN:Op.bytesLess y.data.toList s.data.toList=true:=zR
   (refine Au Aa Aa (Hn @AG.eq_1 qV wQ w1 w2 w3 yC hy wN kN) ?_;intros;refine Ae ?_)
   refine Ag.mk ⟨(m+1,hi),show m+1<=hi/\hi<=l.length/\(∀i y,i<m+1->l[i]? =some y->Br y s=true)/\(∀i y,hi<=i->l[i]? =some y->Br y s=false) from ⟨by omega,h2,fun i z kI hz=> ?_,h4⟩⟩ (Sub.lit (by simp)) (by simp;omega)
   ·rcases Nat.lt_or_eq_of_le (Nat.le_of_lt_succ kI)with h | h
    ·exact DI (TK hs h hz hy) zR
    ·subst h;rw[hy]at hz;simp only[aA0]at hz;subst hz;exact zR
   skip
 ·have hhi:hi=lo:=by omega
  subst hhi;have bY:¬(hi:Int)<hi:=by omega
  by_cases wR:hi<l.length
  ·obtain⟨y,hy,wN,gG⟩:=Ai wR
   have hd:decide (s∈l)=(y==s):=by
    by_cases hys:y=s
    ·subst hys;simp[gG]
    ·have:¬s∈l:=by
      intro vW;obtain⟨j,hj,mK⟩:=bJ0 vW;have fK:l[j]? =some s:=by rw[aD0 hj,mK]
      rcases Nat.lt_trichotomy j hi with h | h | h
      ·have:=h3 j s h fK;rw[Ef]at this;simp at this
      ·subst h;rw[hy]at fK;simp at fK;exact hys fK
      ·have:=TK hs h hy fK;have:=h4 hi y (Nat.le_refl _) hy
       simp_all
     simp[this,hys]
   rw[hd]at hR;subst hR;have jU:(hi:Int)<l.length:=by omega
   exact Al Aa Aa (EB @AG.eq_1 bY wR jU hy wN)
  ·have hnot:decide (s∈l)=false:=by
    simp only[decide_eq_false_iff_not];intro vW;obtain⟨j,hj,mK⟩:=bJ0 vW;have:=h3 j s (by omega) (by rw[aD0 hj,mK]);rw[Ef]at this;simp at this
   rw[hnot]at hR;subst hR;have jU:¬(hi:Int)<l.length:=by omega
   exact Al Aa Aa (CG @AG.eq_1 bY wR jU)
def Yd (ns:List ByteArray) (e:Edge):Bool:=decide (e.fr∈ns)&&decide (e.to∈ns)
def Qc (g:Edges):Bool:=Ja Br g.nodes&&(Ja IP g.edges&&g.edges.all (Yd g.nodes))
def CR (l:List ByteArray):List DVal:=l.map DVal.str
theorem EE (x:ByteArray) (l:List ByteArray):CR (x::l)= .str x::CR l:=rfl
theorem Ky_ (l:List ByteArray):(CR l).length=l.length:=by simp[CR]
theorem DR : ∀{l:List ByteArray} {s:ByteArray},¬s∈l->AZ (CR l) (.str s)=none
 | [],_,_=>rfl
 | x::l,s,h=>by
  have h1:(s==x)=false:=by simp;intro e;exact h (by simp[e])
  have h2:=DR (l:=l) (s:=s) fun hm=>h (aE0 _ hm)
  simp[EE,AZ,BY,Ek,eqC,h1,h2]
theorem GE : ∀{l:List ByteArray} {s:ByteArray},s∈l->∃j,AZ (CR l) (.str s)=some j/\j<l.length
 | [],_,h=>by simp at h
 | x::l,s,h=>by
  by_cases h1:s=x
  ·subst h1;exact⟨0,by simp[EE,AZ,BY,Ek,eqC],by simp⟩
  ·obtain⟨j,h2,h3⟩:=GE (l:=l) (s:=s) (by simpa[h1]using h);have cX:(s==x)=false:=by simpa using h1
   exact⟨j+1,by simp[EE,AZ,BY,Ek,eqC,cX,h2],by simp;omega⟩
theorem Li (l:List ByteArray):(CR l).all (CS prog 9)=true:=by
 induction l with
 | nil=>rfl
 | cons p l ih=>rw[EE,cX0,ih];simp
@[simp] theorem TI_ (l:List ByteArray):AV (CR l)=0:=by
 induction l with
 | nil=>rfl
 | cons a l ih=>rw[EE];simp[AV,mx,ih]
def Om (n:Nat):List DVal:=(List.range n).map fun i:Nat=>DVal.int .i64 ((i:Int)+1)
@[simp] theorem Tl_ (n:Nat):AV (Om n)=0:=by
 unfold Om
 induction List.range n with
 | nil=>rfl
 | cons a l ih=>simp[AV,mx,ih]
theorem FU_ (n:Nat):Om (n+1)=Om n++[.int .i64 ((n:Int)+1)]:=by simp[Om,dE0]
theorem Vl {n j:Nat} (h:j<n):(Om n)[j]? =some (.int .i64 ((j:Int)+1)):=by simp[Om,h]
def CB_ : Ann:=⟨[],[⟨11,[7],[],[]⟩]⟩
theorem lX (g:Edges):Ac prog 165 [.agg (BU g)] (.bool (Qc g)):=by
 refine Ab [] CB_ func165 call165 ntmps165 mxd (Ap @CB_.eq_1 results165) rfl (fun qJ B qX qQ=> ?_);obtain⟨ns,es⟩:=g;have wF:ns.length<9223372036854775807:=FW (by have:=qJ.1;simp only[Dq,BU,Gj]at this;exact this.1);have yI:es.length<9223372036854775807:=FX (by have:=qJ.1;simp only[Dq,BU,Gj]at this;exact this.2.1);clear qJ;simp only[Ak];obtain⟨R,hR⟩:∃R,R=Qc ⟨ns,es⟩:=⟨_,rfl⟩;rw[<-hR];unfold Qc at hR;simp only at hR
 have h1:=Tb ns;have h2:=Rl es;cases dB:Ja Br ns
 ·rw[dB]at h1 hR;simp only[bN0]at hR;subst hR;exact Al (Ap h1 h2) Aa (Aq @BU.eq_1)
 rw[dB]at h1 hR;simp only[bO0]at hR;cases zS:Ja IP es
 ·rw[zS]at h2 hR;simp only[bN0]at hR;subst hR;exact Al (Ap h1 h2) Aa (Aq @BU.eq_1)
 rw[zS]at h2 hR;simp only[bO0]at hR;have hp:=YH dB
 (refine Au (Ap h1 h2) Aa (Aq @BU.eq_1) ?_;intros;refine Ae ?_)
 refine Af (X:={k:Nat//k<=ns.length}) (fun k=>⟨[(1,.ref [AJ ns,Cq es]),(3,.omp 18 1),(20,AJ ns),(21,.int .i64 ns.length),(22,.int .i64 k.1)],[⟨18,1,.map (CR (ns.take k.1)) (Om k.1)⟩]⟩) (fun k=>ns.length-k.1) ⟨0,by omega⟩ (Sub.lit (by simp[Om,CR])) ?_;rintro⟨k,hk⟩
 by_cases qV:k<ns.length
 ·obtain⟨x,hx,qU,_⟩:=Ai qV
  have wV:AZ (CR (ns.take k)) (.str x)=none:=by
   apply DR
   intro hm;obtain⟨i,hi,hix⟩:=bJ0 hm;rw[aT0]at hi
   have h3:ns[i]? =some x:=by
    rw[<-hix,List.getElem_take,aD0]
   have:=TK hp (by omega) h3 hx;rw[Ef]at this;simp at this
  have qH:CR (ns.take (k+1))=CR (ns.take k)++[.str x]:=by
   unfold CR;rw[bR0 qV,qU,aX0];rfl
  have hup:=FU_ k;have vH:=Li (ns.take k);obtain⟨T,hT⟩:∃T,T=CR (ns.take k):=⟨_,rfl⟩;have hTm:AV T=0:=by rw[hT];simp
  rw[<-hT]at wV qH vH |-
  (refine Au Aa Aa (Ez @AG.eq_1 qV hx qU wV vH hTm) ?_;intros;refine Ae ?_)
  exact Ag.mk ⟨k+1,by omega⟩ (Sub.lit (by simp only[qH,hup];simp[hTm])) (by simp;omega)
  skip
 ·have qY:k=ns.length:=by omega
  subst qY;rw[aN0];have vH:=Li ns
  (refine Au Aa Aa Aa ?_;intros;refine Ae ?_)
  refine Af (X:={k:Nat//k<=es.length/\R=(es.drop k).all (Yd ns)}) (fun k=>⟨[(3,.omp 18 1),(33,Cq es),(34,.int .i64 es.length),(35,.int .i64 k.1)],[⟨18,1,.map (CR ns) (Om ns.length)⟩]⟩) (fun k=>es.length-k.1) ⟨0,by simp[hR]⟩ (Sub.lit (by simp)) ?_;rintro⟨k,hk,hw⟩;clear hR
  by_cases qV:k<es.length
  ·obtain⟨x,hx,qU,_⟩:=Ai qV;rw[IW hx]at hw
   by_cases c1:x.fr∈ns
   ·obtain⟨j1,l1,l2⟩:=GE c1;have v1:=Vl l2;have z1:((j1:Int)+1==0)=false:=by simp;omega
    by_cases c2:x.to∈ns
    ·obtain⟨j2,l3,l4⟩:=GE c2;have v2:=Vl l4;have z2:((j2:Int)+1==0)=false:=by simp;omega
     have hi:Yd ns x=true:=by simp[Yd,c1,c2]
     rw[hi]at hw;simp only[bO0]at hw
     (refine Au Aa Aa (Hm @AO.eq_1 qV hx qU vH l1 v1 z1 l3 v2 z2) ?_;intros;refine Ae ?_)
     exact Ag.mk ⟨k+1,by omega,hw⟩ (Sub.lit (by simp)) (by simp;omega)
     skip
    ·have l3:=DR c2;have hi:Yd ns x=false:=by simp[Yd,c2]
     rw[hi]at hw;simp only[bN0]at hw;subst hw;exact Al Aa Aa (OD @AO.eq_1 qV hx qU vH l1 v1 z1 l3)
   ·have l1:=DR c1;have hi:Yd ns x=false:=by simp[Yd,c1]
    rw[hi]at hw;simp only[bN0]at hw;subst hw
    by_cases c2:x.to∈ns
    ·obtain⟨j2,l3,l4⟩:=GE c2;have v2:=Vl l4;exact Al Aa Aa (Ji @AO.eq_1 qV hx qU vH l1 l3 v2)
    ·have l3:=DR c2;exact Al Aa Aa (Ez @AO.eq_1 qV hx qU vH l1 l3)
  ·have qY:k=es.length:=by omega
   subst qY;rw[bE0]at hw;simp only[fI0]at hw;subst hw;exact Al Aa Aa Aa
end Go.Proofs.Wy
end
section
namespace Go.Proofs.Wy
open Go Go.Dm Tryz
variable [DMode]
def Kp (out:List ByteArray) (s:ByteArray):List ByteArray:=if s∈out then out else out++[s]
def Ay (g:List Rul):List ByteArray:=(g.map (·.h)).foldl Kp []
theorem LK_ {out:List ByteArray} {s x:ByteArray}:x∈Kp out s↔x∈out\/x=s:=by
 unfold Kp
 split
 ·rename_i h;exact⟨.inl,fun hh=>by rcases hh with hh | rfl;exact hh;exact h⟩
 ·simp
theorem Zh : ∀(l out:List ByteArray) (x:ByteArray),x∈l.foldl Kp out↔x∈out\/x∈l
 | [],out,x=>by simp
 | s::l,out,x=>by rw[cM0,Zh l,LK_];simp[or_assoc]
theorem SI : ∀(l out:List ByteArray),out.Nodup->(l.foldl Kp out).Nodup
 | [],out,h=>h
 | s::l,out,h=>by
  rw[cM0];refine SI l _ ?_;unfold Kp
  split
  ·exact h
  ·rename_i hs;exact cB0.2 ⟨h,by simp,by rintro a ha b hb rfl;simp at hb;subst hb;exact hs ha⟩
theorem Zi : ∀(l out:List ByteArray),(l.foldl Kp out).length<=out.length+l.length
 | [],out=>by simp
 | s::l,out=>by
  rw[cM0];have:=Zi l (Kp out s);have:(Kp out s).length<=out.length+1:=by unfold Kp;split<;>simp
  simp;omega
theorem VU {g:List Rul} {x:ByteArray}:x∈Ay g↔∃r∈g,r.h=x:=by
 unfold Ay;rw[Zh];simp
theorem Qa (g:List Rul):(Ay g).Nodup:=SI _ _ (by simp)
theorem Ln (g:List Rul):(Ay g).length<=g.length:=by have:=Zi (g.map (·.h)) [];unfold Ay;simpa using this
theorem SH {g:List Rul} {i:Nat} {r:Rul} (h:g[i]? =some r):Ay (g.take (i+1))=Kp (Ay (g.take i)) r.h:=by
 unfold Ay;rw[bD0,h,aX0,cH0];rfl
def De (k:Int) (l:List Nd):List ByteArray:=(l.filter fun x=>decide (x.k=k)).map (·.s)
def AW (k:Int) (g:List Rul):List ByteArray:=g.flatMap fun r=>De k r.b
theorem SA {k:Int} {l:List Nd} {i:Nat} {x:Nd} (h:l[i]? =some x):De k (l.take (i+1))=De k (l.take i)++(if x.k=k then [x.s]else []):=by
 unfold De;rw[bD0,h,dC0,aX0]
 by_cases hx:x.k=k<;>simp[hx]
theorem SB {k:Int} {g:List Rul} {i:Nat} {r:Rul} (h:g[i]? =some r):AW k (g.take (i+1))=AW k (g.take i)++De k r.b:=by
 unfold AW;rw[bD0,h,dT0];simp
theorem Ge_ (k:Int) (l:List Nd):(De k l).length<=l.length:=by
 unfold De;rw[aJ0];exact cG0 _ _
def LR (l:List ByteArray) (s:ByteArray):Nat:=l.findIdx fun x=>s==x
theorem ME {l:List ByteArray} {s:ByteArray} (h:s∈l):LR l s<l.length:=List.findIdx_lt_length_of_exists ⟨s,h,by simp⟩
theorem VA : ∀{l:List ByteArray} {s:ByteArray},s∈l->AZ (CR l) (.str s)=some (LR l s)
 | [],_,h=>by simp at h
 | x::l,s,h=>by
  unfold LR;rw[List.findIdx_cons]
  by_cases h1:s=x
  ·subst h1;simp[EE,AZ,BY,Ek,eqC]
  ·have h2:=VA (l:=l) (s:=s) (by simpa[h1]using h);have cX:(s==x)=false:=by simpa using h1
   simp[EE,AZ,BY,Ek,eqC,cX,h2,LR]
structure CM where
 K:List ByteArray
 V:List Int
def WV (m:CM) (s:ByteArray):CM:=if s∈m.K then ⟨m.K,m.V.set (LR m.K s) (IntKind.i64.wrap (m.V.getD (LR m.K s) 0+1))⟩else ⟨m.K++[s],m.V++[1]⟩
def Tp (es:List ByteArray):CM:=es.foldl WV ⟨[],[]⟩
theorem Mi_ (es:List ByteArray) (s:ByteArray):Tp (es++[s])=WV (Tp es) s:=by unfold Tp;rw[cH0];rfl
structure CMok (m:CM) (es:List ByteArray):Prop where
 len:m.K.length=m.V.length
 mem:∀s,s∈m.K↔s∈es
 nd:m.K.Nodup
 le:m.K.length<=es.length
theorem CMok.step {m:CM} {es:List ByteArray} (h:CMok m es) (s:ByteArray):CMok (WV m s) (es++[s]):=by
 unfold WV
 split
 ·rename_i hs;refine⟨by simp[h.len],fun x=> ?_,h.nd,by have:=h.le;simp;omega⟩;rw[h.mem x,aI0];exact⟨.inl,fun hh=>by rcases hh with hh | hh;exact hh;simp at hh;subst hh;exact(h.mem x).1 hs⟩
 ·rename_i hs;refine⟨by simp[h.len],fun x=>by simp[h.mem x],?_,by have:=h.le;simp;omega⟩;exact cB0.2 ⟨h.nd,by simp,by rintro a ha b hb rfl;simp at hb;subst hb;exact hs ha⟩
theorem GY_ (es:List ByteArray):CMok (Tp es) es:=by
 have key:∀(l:List ByteArray) (m:CM) (es:List ByteArray),CMok m es->CMok (l.foldl WV m) (es++l):=by
  intro l
  induction l with
  | nil=>intro m es h;simpa using h
  | cons s l ih =>
   intro m es h;have:=ih (WV m s) (es++[s]) (h.step s);simpa using this
 have:=key es ⟨[],[]⟩ [] ⟨rfl,by simp,by simp,by simp⟩;simpa[Tp]using this
def AE (g:List Rul):List ByteArray:=CD (AW 3 g)
def DK (g:List Rul):List ByteArray:=(CD (AW 2 g)).filter fun s=> !decide (s∈Ay g)
theorem Oz_ {g:List Rul} {K:List ByteArray} (hn:K.Nodup) (hm:∀s,s∈K↔s∈AW 2 g/\¬s∈Ay g):K.length=(DK g).length:=by
 refine List.Perm.length_eq ((List.perm_ext_iff_of_nodup hn ?_).2 fun s=> ?_)
 ·unfold DK;exact List.Pairwise.filter _ ((FO _).1.imp fun {a b} h e=>by subst e;rw[Ef]at h;simp at h)
 ·unfold DK;rw[hm s,cQ0,(FO _).2];simp
abbrev GT := List (ByteArray×RT)
def Bd (gt:GT):List Rul:=gt.map fun p=>⟨p.1,flat p.2⟩
def OkG (gt:GT):Prop:=∀p∈gt,EC 2 p.1=true/\FU p.2=true
def Gv (g:List Rul):Bool:=g.all fun r=>EC 2 r.h&&Ei r.b
theorem uP : ∀{g:List Rul},Gv g=true->∃gt,g=Bd gt/\OkG gt
 | [],_=>⟨[],rfl,by intro p hp;simp at hp⟩
 | r::g,h=>by
  unfold Gv at h;rw[cX0,aM0,aM0]at h;obtain⟨gt,rfl,hg⟩:=uP (g:=g) h.2;obtain⟨t,ht,hb⟩:=OE h.1.2;refine⟨(r.h,t)::gt,by cases r;simp only at hb;subst hb;rfl,fun p hp=> ?_⟩
  rcases aL0.1 hp with rfl | hp
  ·exact⟨h.1.1,ht⟩
  ·exact hg p hp
theorem Bg_ {gt:GT} (h:OkG gt):Gv (Bd gt)=true:=by
 unfold Gv Bd;rw[List.all_map,bA0];intro p hp;obtain⟨h1,h2⟩:=h p hp;simp[h1,Gw h2]
def DG (g:List Rul):Nat:=(g.map fun r=>HN r.b).sum
def HD (gt:GT):Bool:=gt.any fun p=>decide (16<LS p.2)
def LB (p:ByteArray×RT):ByteArray:=p.1++⟨#[32,61,32]⟩++DN p.2++⟨#[32,59,10]⟩
def CH (gt:GT):ByteArray:=gt.foldl (fun s p=>s++LB p) ⟨#[]⟩
theorem Ij {gt:GT} {i:Nat} {p:ByteArray×RT} (h:gt[i]? =some p):CH (gt.take (i+1))=CH (gt.take i)++LB p:=by
 unfold CH;rw[bD0,h,cH0];rfl
theorem Og (gt:GT) (i:Nat):(CH (gt.take i)).size<=(CH gt).size:=by
 have key:∀(l:GT) (s:ByteArray),s.size<=(l.foldl (fun s p=>s++LB p) s).size:=by
  intro l
  induction l with
  | nil=>intro s;simp
  | cons p l ih=>intro s;rw[cM0];have:=ih (s++LB p);rw[aO0]at this;omega
 unfold CH
 conv=>rhs;rw[<-List.take_append_drop i gt,cH0]
 exact key _ _
def Qo (gt:GT):Int :=
 if 16<(Ay (Bd gt)).length+(DK (Bd gt)).length then 181
 else if 16<(AE (Bd gt)).length then 182
 else if 64<DG (Bd gt)then 183
 else if HD gt then 171
 else if 0<(DK (Bd gt)).length then 184
 else if 2048<(CH gt).size then 174
 else 0
mutual
theorem aM : ∀(t:RT),FU t=true->(flat t).length<=(DN t).size
 | .mk x ks,h=>by
  obtain⟨h1,h2,h3⟩:=CV h;rw[TF,Bc,List.length_cons]
  by_cases k1:x.k=1
  ·rw[if_pos k1]
   have:x.n=0:=by
    unfold Fe at h1;rw[if_pos k1]at h1;simp only[aM0,decide_eq_true_eq]at h1;exact h1.2
   have vH:ks=[]:=bP0 (by omega);subst vH;rw[Av];decide
  ·rw[if_neg k1]
   by_cases k2:x.k=2\/x.k=3
   ·rw[if_pos k2];have:=YW h1 k2
    have hn:x.n=0:=by
     unfold Fe at h1
     rcases k2 with k2 | k2
     ·rw[if_neg (by omega),if_pos k2]at h1;simp only[aM0,decide_eq_true_eq]at h1;exact h1.1
     ·rw[if_neg (by omega),if_neg (by omega),if_pos k2]at h1;simp only[aM0,decide_eq_true_eq]at h1;exact h1.1
    have vH:ks=[]:=bP0 (by omega);subst vH;rw[Av];simp;omega
   ·rw[if_neg k2,aO0];have hj:=HH_ x.k ks h3;have hn:=Ry h1 k1 k2
    rcases Nx h1 with k | k | k | k | k | k | k | k
    ·exact absurd k k1
    ·exact absurd (.inl k) k2
    ·exact absurd (.inr k) k2
    ·have hb:1<=(Qv x.k).size:=by unfold Qv;rw[k];decide
     have h5:2<=x.n:=by unfold Fe at h1;simp[k]at h1;exact h1.2
     have:=lL (Qv x.k) (EA x.k ks) (by rw[ED,aJ0];omega);rw[ED,aJ0,<-ED]at this;have h6:1*(ks.length-1)<=(Qv x.k).size*(ks.length-1):=aQ0 _ hb;omega
    ·have hb:1<=(Qv x.k).size:=by unfold Qv;rw[k];decide
     have h5:2<=x.n:=by unfold Fe at h1;simp[k]at h1;exact h1.2
     have:=lL (Qv x.k) (EA x.k ks) (by rw[ED,aJ0];omega);rw[ED,aJ0,<-ED]at this;have h6:1*(ks.length-1)<=(Qv x.k).size*(ks.length-1):=aQ0 _ hb;omega
    all_goals
     have hs:(sgn x.k).size=1:=by unfold sgn;rw[k];decide
     have:=lL (Qv x.k) (EA x.k ks) (by rw[ED,aJ0];omega);omega
theorem HH_ : ∀(pk:Int) (ts:List RT),HA ts=true->(Av ts).length<=((EA pk ts).map (·.size)).sum
 | pk,[],_=>by simp[Av]
 | pk,t::ts,h=>by
  obtain⟨h1,h2⟩:=Cp h;have a:=aM t h1;have b:=HH_ pk ts h2;have c:=(Ns pk t.x.k (DN t)).1;rw[HU,AH,List.map_cons,dO0,aC0];omega
theorem lL (sep:ByteArray):∀(xs:List ByteArray),1<=xs.length->(xs.map (·.size)).sum+sep.size*(xs.length-1)<=(HB xs sep).size
 | [],h=>by simp at h
 | x::r,_=>by
  have key:∀(r:List ByteArray) (x:ByteArray),x.size+(r.map (·.size)).sum+sep.size*r.length<=(r.foldl (Es sep) x).size:=by
   intro r
   induction r with
   | nil=>intro x;simp
   | cons y r ih =>
    intro x;have:=ih (Es sep x y);rw[OS]at this;rw[cM0,List.map_cons,dO0,List.length_cons,Nat.mul_add];omega
  have:=key r x
  show _<=(r.foldl (Es sep) x).size
  simp only[List.map_cons,dO0,List.length_cons,Nat.add_sub_cancel];omega
end
theorem xK {gt:GT} {p:ByteArray×RT} (h:p∈gt):(DN p.2).size<=(CH gt).size:=by
 obtain⟨i,hi,rfl⟩:=bJ0 h;have h1:=Ij (aD0 hi);have h2:=Og gt (i+1);rw[h1,aO0]at h2;unfold LB at h2;simp only[aO0]at h2;omega
end Go.Proofs.Wy
end
section
namespace Go.Proofs.Wy
open Go Go.Dm Tryz
variable [DMode]
attribute [local irreducible] DW Bs Bv
set_option maxRecDepth 100000
def Hl : Ann:=⟨[],[]⟩
theorem lW (g:Edges):Ac prog 169 [.agg (BU g)] (.bool (Qc g)):=by
 refine Ab [] Hl func169 call169 ntmps169 mxd (Ap @Hl.eq_1 results169) rfl (fun qJ B qX qQ=> ?_);obtain⟨ns,es⟩:=g;have wF:ns.length<9223372036854775807:=FW (by have:=qJ.1;simp only[Dq,BU,Gj]at this;exact this.1);have yI:es.length<9223372036854775807:=FX (by have:=qJ.1;simp only[Dq,BU,Gj]at this;exact this.2.1);clear qJ;simp only[Ak];obtain⟨R,hR⟩:∃R,R=Qc ⟨ns,es⟩:=⟨_,rfl⟩;rw[<-hR];unfold Qc at hR;simp only at hR
 (refine Au Aa Aa (Aq @BU.eq_1) ?_;intros;refine Ae ?_)
 refine Af (X:={k:Nat//k<=ns.length/\Ja Br ns=Ja Br (ns.drop k)}) (fun k=>⟨[(1,.ref [AJ ns,Cq es]),(3,.int .i64 (k.1+1))],[]⟩) (fun k=>ns.length-k.1) ⟨0,by simp⟩ (Sub.lit (by simp)) ?_;rintro⟨k,hk,hw⟩
 by_cases qV:k+1<ns.length
 ·obtain⟨x,hx,qU,_⟩:=Ai (show k<ns.length by omega);obtain⟨y,hy,wN,_⟩:=Ai qV;rw[Np hx hy]at hw;have wQ:(k:Int)+1<ns.length:=by omega
  have q0:(k:Int)+1-1=k:=by omega
  have q1:((k:Int)+1).toNat=k+1:=by omega
  have q2:k<ns.length:=by omega
  have q3:(0:Int)<=(k:Int)+1:=by omega
  cases hl:Br x y
  ·have wS:Op.bytesLess x.data.toList y.data.toList=false:=hl;rw[hl]at hw;simp only[bN0]at hw;rw[hw]at hR;simp only[bN0]at hR;subst hR
   (refine Au Aa Aa (FJ @AG.eq_1 wQ hx qU hy wN q0 q1 q2 q3 qV wS) ?_;intros;refine Ae ?_)
   simp[qX,results169,Hl,AG,wQ,hx,qU,hy,wN,q0,q1,q2,q3,qV,wS];exact Al Aa Aa (FJ @AG.eq_1 wQ hx qU hy wN q0 q1 q2 q3 qV wS)
  ·have wS:Op.bytesLess x.data.toList y.data.toList=true:=hl;rw[hl]at hw;simp only[bO0]at hw
   (refine Au Aa Aa (FJ @AG.eq_1 wQ hx qU hy wN q0 q1 q2 q3 qV wS) ?_;intros;refine Ae ?_)
   simp[qX,results169,Hl,AG,wQ,hx,qU,hy,wN,q0,q1,q2,q3,qV,wS]
   (refine Au Aa Aa (FJ @AG.eq_1 wQ hx qU hy wN q0 q1 q2 q3 qV wS) ?_;intros;refine Ae ?_)
   exact Ag.mk ⟨k+1,by omega,hw⟩ (Sub.lit (by simp)) (by simp;omega)
   skip
 ·have wQ:¬(k:Int)+1<ns.length:=by omega
  rw[PD (by omega)]at hw;rw[hw]at hR;simp only[bO0]at hR;have hp:=YH hw
  (refine Au Aa Aa (Aq wQ) ?_;intros;refine Ae ?_)
  -- edges: up to k all are rising and among
  refine Af (X:={k:Nat//k<=es.length/\R=((match k with | 0=>Ja IP es | j+1=>Ja IP (es.drop j))&&(es.drop k).all (Yd ns))}) (fun k=>⟨[(1,.ref [AJ ns,Cq es]),(4,.int .i64 k.1)],[]⟩) (fun k=>es.length-k.1) ⟨0,by simp[hR]⟩ (Sub.lit (by simp)) ?_;rintro⟨k,hk,hw⟩;clear hR
  by_cases qV:k<es.length
  ·obtain⟨x,hx,qU,_⟩:=Ai qV;have a1:=Pd ns x.fr hp;have a2:=Pd ns x.to hp
   -- the members' part, once the order is told
   have qW:(k:Int)<es.length:=by omega
   match k,hk,hw,qV,hx,qU,qW with
   | 0,hk,hw,qV,hx,qU,qW =>
    simp only at hw;rw[IW hx]at hw
    by_cases c1:x.fr∈ns
    ·simp only[c1,decide_true]at a1
     by_cases c2:x.to∈ns
     ·simp only[c2,decide_true]at a2;have hi:Yd ns x=true:=by simp[Yd,c1,c2]
      rw[hi,bO0]at hw
      (refine Au (Ap a1 a2) Aa (Dx @AO.eq_1 qV hx qU qW) ?_;intros;refine Ae ?_)
      exact Ag.mk ⟨1,by omega,by simpa using hw⟩ (Sub.lit (by simp)) (by simp;omega)
      skip
     ·simp only[c2,decide_false]at a2;have hi:Yd ns x=false:=by simp[Yd,c2]
      rw[hi,bN0,dK0]at hw;subst hw;exact Al (Ap a1 a2) Aa (Dx @AO.eq_1 qV hx qU qW)
    ·simp only[c1,decide_false]at a1;have hi:Yd ns x=false:=by simp[Yd,c1]
     rw[hi,bN0,dK0]at hw;subst hw;exact Al (Ap a1 a2) Aa (Dx @AO.eq_1 qV hx qU qW)
   | j+1,hk,hw,qV,hx,qU,qW =>
    simp only at hw;obtain⟨y,hy,wN,_⟩:=Ai (show j<es.length by omega);rw[IW hx,Np hy hx]at hw;have b1:=BY_ y x;simp only[AO]at b1;have q0:((j+1:Nat):Int)-1=j:=by omega
    have q1:(((j+1:Nat):Int)).toNat=j+1:=by omega
    have q2:j<es.length:=by omega
    have q4:(0:Int)<((j+1:Nat):Int):=by omega
    have q5:(0:Int)<(j:Int)+1:=by omega
    have q6:(j:Int)+1-1=j:=by omega
    have q7:((j:Int)+1).toNat=j+1:=by omega
    have q8:(0:Int)<=(j:Int)+1:=by omega
    have q9:(j:Int)+1<es.length:=by omega
    cases hb:IP y x
    ·rw[hb]at b1 hw;simp only[bN0]at hw;subst hw
     (refine Au (BC b1 a1 a2) Aa (HT @AO.eq_1 qV hx qU qW hy wN q0 q1 q2 q4 q5 q6 q7 q8 q9) ?_;intros;refine Ae ?_)
     simp[qX,results169,Hl,AO,qV,hx,qU,qW,hy,wN,q0,q1,q2,q4,q5,q6,q7,q8,q9];exact Al (BC b1 a1 a2) Aa (HT @AO.eq_1 qV hx qU qW hy wN q0 q1 q2 q4 q5 q6 q7 q8 q9)
    ·rw[hb]at b1 hw;simp only[bO0]at hw
     by_cases c1:x.fr∈ns
     ·simp only[c1,decide_true]at a1
      by_cases c2:x.to∈ns
      ·simp only[c2,decide_true]at a2;have hi:Yd ns x=true:=by simp[Yd,c1,c2]
       rw[hi,bO0]at hw
       (refine Au (BC b1 a1 a2) Aa (HT @AO.eq_1 qV hx qU qW hy wN q0 q1 q2 q4 q5 q6 q7 q8 q9) ?_;intros;refine Ae ?_)
       simp[qX,results169,Hl,AO,qV,hx,qU,qW,hy,wN,q0,q1,q2,q4,q5,q6,q7,q8,q9]
       (refine Au (BC b1 a1 a2) Aa (HT @AO.eq_1 qV hx qU qW hy wN q0 q1 q2 q4 q5 q6 q7 q8 q9) ?_;intros;refine Ae ?_)
       exact Ag.mk ⟨j+2,by omega,hw⟩ (Sub.lit (by simp;omega)) (by simp;omega)
       skip
      ·simp only[c2,decide_false]at a2;have hi:Yd ns x=false:=by simp[Yd,c2]
       rw[hi,bN0,dK0]at hw;subst hw
       (refine Au (BC b1 a1 a2) Aa (HT @AO.eq_1 qV hx qU qW hy wN q0 q1 q2 q4 q5 q6 q7 q8 q9) ?_;intros;refine Ae ?_)
       simp[qX,results169,Hl,AO,qV,hx,qU,qW,hy,wN,q0,q1,q2,q4,q5,q6,q7,q8,q9];exact Al (BC b1 a1 a2) Aa (HT @AO.eq_1 qV hx qU qW hy wN q0 q1 q2 q4 q5 q6 q7 q8 q9)
     ·simp only[c1,decide_false]at a1;have hi:Yd ns x=false:=by simp[Yd,c1]
      rw[hi,bN0,dK0]at hw;subst hw
      (refine Au (BC b1 a1 a2) Aa (HT @AO.eq_1 qV hx qU qW hy wN q0 q1 q2 q4 q5 q6 q7 q8 q9) ?_;intros;refine Ae ?_)
      simp[qX,results169,Hl,AO,qV,hx,qU,qW,hy,wN,q0,q1,q2,q4,q5,q6,q7,q8,q9];exact Al (BC b1 a1 a2) Aa (HT @AO.eq_1 qV hx qU qW hy wN q0 q1 q2 q4 q5 q6 q7 q8 q9)
  ·have qY:k=es.length:=by omega
   subst qY;rw[bE0]at hw
   have hr:(match es.length with | 0=>Ja IP es | j+1=>Ja IP (es.drop j))=true:=by
    cases he:es.length with
    | zero=>rw[bP0 he];rfl
    | succ j=>exact PD (by omega)
   rw[hr]at hw;simp only[fI0,fB0]at hw;subst hw;exact Al Aa Aa Aa
theorem Kw {α:Type} {l:List α} {k:Nat} {x:α} (hx:l[k]? =some x):l.drop k=x::l.drop (k+1):=by
 obtain⟨h1,rfl⟩:=aB0.1 hx;exact aP0 h1
def Cz_ : Ann:=⟨[],[]⟩
theorem Gk_ (a b:List ByteArray) (qM:(a.length+b.length)*16<=150000000000000):Ac prog 338 [AJ a,AJ b] (AJ (Cf a b)):=by
 refine Ab [5] Cz_ func338 call338 ntmps338 mxd (Ap @Cz_.eq_1 results338) rfl (fun qJ B qX qQ=> ?_);clear qJ;simp only[Ak];obtain⟨R,hR⟩:∃R,R=Cf a b:=⟨_,rfl⟩;rw[<-hR]
 (refine Au Aa Aa Aa ?_;intros;refine Ae ?_)
 refine Bk 5 5 9 1 16 (by simp[qX,ntmps338]) (fun n5=> ?_)
 refine Af (X:={x:Nat×Nat×List ByteArray//x.1<=a.length/\x.2.1<=b.length/\x.2.2++Cf (a.drop x.1) (b.drop x.2.1)=R/\x.2.2.length<=x.1+x.2.1})
  (fun x=>⟨[(0,AJ a),(1,AJ b),(5,.osl 5 1),(6,.int .i64 x.1.1),(7,.int .i64 x.1.2.1)],[⟨5,1,.row 9 1 16 (x.1.2.2.map AG)⟩]⟩) (fun x=>(a.length-x.1.1)+(b.length-x.1.2.1)) ⟨(0,0,[]),by simp[hR]⟩ (Sub.lit (by simp)) ?_
 rintro⟨⟨i,j,out⟩,hi,hj,hw,hl⟩;simp only at hi hj hw hl |-;clear hR;have z1:(i<a.length\/j<b.length)->(out.length+1)*16<=150000000000000:=fun h=>Nat.le_trans (aQ0 16 (by omega)) qM
 have z2:(i<a.length\/j<b.length)->out.length+1<=9223372036854775807:=fun h=>by have:=z1 h;omega
 by_cases h1:i<a.length
 ·have z1:=z1 (.inl h1);have z2:=z2 (.inl h1);obtain⟨x,hx,qU,_⟩:=Ai h1;rw[Kw hx]at hw
  by_cases h2:j<b.length
  ·obtain⟨y,hy,wN,_⟩:=Ai h2;rw[Kw hy]at hw;have e1:((j:Int)==b.length)=false:=by simp;omega
   unfold Cf at hw;cases hc:Br x y
   ·have kN:Op.bytesLess x.data.toList y.data.toList=false:=hc;rw[hc]at hw;simp only[aK0,if_false]at hw;cases he:x==y
    ·rw[he]at hw;simp only[aK0,if_false]at hw
     (refine Au Aa Aa (FJ @AG.eq_1 h1 h2 hx qU hy wN e1 kN he z1 z2) ?_;intros;refine Ae ?_)
     refine Ag.mk ⟨(i,j+1,out++[y]),show i<=a.length/\j+1<=b.length/\(out++[y])++Cf (a.drop i) (b.drop (j+1))=R/\(out++[y]).length<=i+(j+1) from ⟨by omega,by omega,by rw[Kw hx,aR0];exact hw,by simp;omega⟩⟩ (Sub.lit (by simp[AG])) (by simp;omega)
     skip
    ·rw[he]at hw;simp only[if_true]at hw
     (refine Au Aa Aa (FJ @AG.eq_1 h1 h2 hx qU hy wN e1 kN he z1 z2) ?_;intros;refine Ae ?_)
     refine Ag.mk ⟨(i+1,j+1,out++[y]),show i+1<=a.length/\j+1<=b.length/\(out++[y])++Cf (a.drop (i+1)) (b.drop (j+1))=R/\(out++[y]).length<=(i+1)+(j+1) from ⟨by omega,by omega,by rw[aR0];exact hw,by simp;omega⟩⟩ (Sub.lit (by simp[AG])) (by simp;omega)
     skip
   ·have kN:Op.bytesLess x.data.toList y.data.toList=true:=hc;rw[hc]at hw;simp only[if_true]at hw
    (refine Au Aa Aa (Hm @AG.eq_1 h1 h2 hx qU hy wN e1 kN z1 z2) ?_;intros;refine Ae ?_)
    refine Ag.mk ⟨(i+1,j,out++[x]),show i+1<=a.length/\j<=b.length/\(out++[x])++Cf (a.drop (i+1)) (b.drop j)=R/\(out++[x]).length<=(i+1)+j from ⟨by omega,by omega,by rw[Kw hy,aR0];exact hw,by simp;omega⟩⟩ (Sub.lit (by simp[AG])) (by simp;omega)
    skip
  ·have sY:j=b.length:=by omega
   subst sY;rw[bE0]at hw;unfold Cf at hw
   (refine Au Aa Aa (Ez @AG.eq_1 h1 h2 hx qU z1 z2) ?_;intros;refine Ae ?_)
   refine Ag.mk ⟨(i+1,b.length,out++[x]),show i+1<=a.length/\b.length<=b.length/\(out++[x])++Cf (a.drop (i+1)) (b.drop b.length)=R/\(out++[x]).length<=(i+1)+b.length from ⟨by omega,by omega,by rw[bE0,aR0];exact hw,by simp;omega⟩⟩ (Sub.lit (by simp[AG])) (by simp;omega)
   skip
 ·have hii:i=a.length:=by omega
  subst hii;rw[bE0]at hw
  by_cases h2:j<b.length
  ·have z1:=z1 (.inr h2);have z2:=z2 (.inr h2);obtain⟨y,hy,wN,_⟩:=Ai h2;rw[Kw hy]at hw;unfold Cf at hw;have e1:((j:Int)==b.length)=false:=by simp;omega
   (refine Au Aa Aa (Ji @AG.eq_1 h1 h2 hy wN e1 z1 z2) ?_;intros;refine Ae ?_)
   refine Ag.mk ⟨(a.length,j+1,out++[y]),show a.length<=a.length/\j+1<=b.length/\(out++[y])++Cf (a.drop a.length) (b.drop (j+1))=R/\(out++[y]).length<=a.length+(j+1) from ⟨by omega,by omega,by rw[bE0,aR0];exact hw,by simp;omega⟩⟩ (Sub.lit (by simp[AG])) (by simp;omega)
   skip
  ·have sY:j=b.length:=by omega
   subst sY;rw[bE0]at hw;have hm:Cf [] []=[]:=by unfold Cf;rfl
   rw[hm,bM0]at hw;subst hw;exact Al Aa Aa (Ap h1 h2)
def QD : Ann:=⟨[6],[]⟩
theorem Uy : ∀(n:Nat) (l:List ByteArray),l.length=n->l.length*16<=150000000000000->Ac prog 314 [AJ l] (AJ (CD l)):=by
 intro n
 induction n using Nat.strongRecOn with
 | ind n ih =>
 intro l hn qM
 by_cases h2:l.length<2
 ·refine Ab [6] QD func314 call314 ntmps314 mxd (Ap @QD.eq_1 results314) rfl (fun qJ B qX qQ=> ?_);clear qJ;simp only[Ak];rw[Fe_ h2];have yU:(l.length:Int)<2:=by omega
  have hl9:l.length<=9223372036854775807:=by omega
  exact Al Aa Aa (CG h2 yU qM hl9)
 ·refine Ab [] QD func314 call314 ntmps314 mxd (Ap @QD.eq_1 results314) rfl (fun qJ B qX qQ=> ?_);clear qJ;simp only[Ak];obtain⟨h,hh⟩:∃h,h=l.length/2:=⟨_,rfl⟩;have i1:=ih (l.take h).length (by rw[aT0];omega) (l.take h) rfl (by rw[aT0];omega);have i2:=ih (l.drop h).length (by rw[cD0];omega) (l.drop h) rfl (by rw[cD0];omega);have u1:=Gu (l.take h);have u2:=Gu (l.drop h);rw[aT0]at u1;rw[cD0]at u2;have i3:=Gk_ (CD (l.take h)) (CD (l.drop h)) (Nat.le_trans (aQ0 16 (by omega)) qM)
  rw[Gj_,List.take_append_drop]at i3;have yU:¬(l.length:Int)<2:=by omega
  have w1:((l.length:Int)).tdiv 2=h:=by rw[Int.tdiv_eq_ediv_of_nonneg (by omega),hh];omega
  have w2:IntKind.i64.wrap (h:Int)=h:=wq;have w3:(h:Int)<=l.length:=by omega
  have w4:h<=l.length:=by omega
  rw[AJ,eM0]at i1;have t1:(l.map AG).take (l.length-h+h)=l.map AG:=cL0 (by simp;omega);have t2:List.take (l.length-h) (List.drop h (l.map AG))=List.drop h (l.map AG):=cL0 (by simp);rw[AJ,List.map_drop]at i2;exact Al (BC i1 i2 i3) Aa (Ji h2 yU w1 w2 w3 w4 t1 t2)
def BP (es:List Edge):List ByteArray:=es.map (·.lb)
def Ew (es:List Edge):List ByteArray:=es.flatMap fun e=>[e.fr,e.to]
def LF (g:Edges):List ByteArray:=g.nodes.filter fun n=> !decide (n∈Ew g.edges)
theorem Wl {es:List Edge} {k:Nat} {x:Edge} (hx:es[k]? =some x):Ew (es.take (k+1))=Ew (es.take k)++[x.fr,x.to]:=by
 obtain⟨h,rfl⟩:=aB0.1 hx;unfold Ew;rw[bR0 h,dT0];simp
theorem RV (es:List Edge):(Ew es).length=2*es.length:=by
 induction es with
 | nil=>rfl
 | cons x l ih =>
  have:Ew (x::l)=x.fr::x.to::Ew l:=rfl;rw[this];simp;omega
def Si : Ann:=⟨[],[]⟩
theorem VD (es:List Edge):Ac prog 255 [Cq es] (AJ (CD (BP es))):=by
 refine Ab [] Si func255 call255 ntmps255 mxd (Ap @Si.eq_1 results255) rfl (fun qJ B qX qQ=> ?_);have qM:es.length*48<=150000000000000:=by have:=qJ.1;simp only[Dq,aJ0]at this;exact this.1
 clear qJ;simp only[Ak];obtain⟨R,hR⟩:∃R,R=CD (BP es):=⟨_,rfl⟩;rw[<-hR]
 (refine Au Aa Aa Aa ?_;intros;refine Ae ?_)
 refine Bk 3 3 9 1 16 (by simp[qX,ntmps255]) (fun n3=> ?_);refine Af (X:={k:Nat//k<=es.length}) (fun k=>⟨[(0,Cq es),(3,.osl 3 1),(4,.int .i64 k.1)],[⟨3,1,.row 9 1 16 ((BP (es.take k.1)).map AG)⟩]⟩) (fun k=>es.length-k.1) ⟨0,by omega⟩ (Sub.lit (by simp[BP])) ?_;rintro⟨k,hk⟩
 by_cases qV:k<es.length
 ·obtain⟨x,hx,qU,wA⟩:=Ai qV;have qH:BP (es.take (k+1))=BP (es.take k)++[x.lb]:=by unfold BP;rw[bR0 qV,qU,aX0];rfl
  have zD:(BP (es.take k)).length=k:=by simp[BP];omega
  obtain⟨T,hT⟩:∃T,T=BP (es.take k):=⟨_,rfl⟩;rw[<-hT]at qH zD |-;have z1:(k+1)*16<=150000000000000:=by omega
  have z2:k+1<=9223372036854775807:=by omega
  (refine Au Aa Aa (Ez @AO.eq_1 qV hx qU zD z1 z2) ?_;intros;refine Ae ?_)
  refine Ag.mk ⟨k+1,by omega⟩ (Sub.lit (by simp[qH,AG])) (by simp;omega)
  skip
 ·have qY:k=es.length:=by omega
  subst qY;rw[aN0];have h1:=Uy _ (BP es) rfl (by simp[BP];omega);rw[<-hR]at h1;clear hR;obtain⟨T,hT⟩:∃T,T=BP es:=⟨_,rfl⟩;rw[<-hT]at h1 |-;refine Fw (Sub.freezeL [3] _) ?_;simp[qX,results255,Si];exact Al (Aq h1) Aa Aa
def Sg : Ann:=⟨[],[]⟩
theorem lF (g:Edges):Ac prog 315 [.agg (BU g)] (AJ (LF g)):=by
 refine Ab [5] Sg func315 call315 ntmps315 mxd (Ap @Sg.eq_1 results315) rfl (fun qJ B qX qQ=> ?_);obtain⟨ns,es⟩:=g;have fZ:ns.length*16<=150000000000000:=by have:=qJ.1;simp only[Dq,BU,Gj,aJ0]at this;exact this.1.1
 have vM:es.length*48<=150000000000000:=by have:=qJ.1;simp only[Dq,BU,Gj,aJ0]at this;exact this.2.1.1
 clear qJ;simp only[Ak];obtain⟨R,hR⟩:∃R,R=LF ⟨ns,es⟩:=⟨_,rfl⟩;rw[<-hR]
 (refine Au Aa Aa (Aq @BU.eq_1) ?_;intros;refine Ae ?_)
 refine Bk 3 3 9 1 16 (by simp[qX,ntmps315]) (fun n3=> ?_);refine Af (X:={k:Nat//k<=es.length}) (fun k=>⟨[(1,.ref [AJ ns,Cq es]),(3,.osl 3 1),(4,.int .i64 k.1)],[⟨3,1,.row 9 1 16 ((Ew (es.take k.1)).map AG)⟩]⟩) (fun k=>es.length-k.1) ⟨0,by omega⟩ (Sub.lit (by simp[Ew])) ?_;rintro⟨k,hk⟩
 by_cases qV:k<es.length
 ·obtain⟨x,hx,qU,wA⟩:=Ai qV;have qH:=Wl hx;have zD:(Ew (es.take k)).length=2*k:=by rw[RV,aT0];omega
  obtain⟨T,hT⟩:∃T,T=Ew (es.take k):=⟨_,rfl⟩;rw[<-hT]at qH zD |-;have z1:(2*k+2)*16<=150000000000000:=by omega
  have z2:2*k+2<=9223372036854775807:=by omega
  have zS:(([0,1]:List Nat)=List.range 2)=True:=eq_true rfl
  (refine Au Aa Aa (Ji @AO.eq_1 qV hx qU zD z1 z2 zS) ?_;intros;refine Ae ?_)
  refine Ag.mk ⟨k+1,by omega⟩ (Sub.lit (by simp[qH,AG])) (by simp;omega)
  skip
 ·have qY:k=es.length:=by omega
  subst qY;rw[aN0];have mR:=RV es;have h1:=Uy _ (Ew es) rfl (by omega);have qO:=FO (Ew es)
  have zW:R=ns.filter fun n=> !decide (n∈CD (Ew es)):=by
   rw[hR];unfold LF
   congr 1
   funext n
   simp only[qO.2 n]
  obtain⟨T,hT⟩:∃T,T=Ew es:=⟨_,rfl⟩;rw[<-hT]at h1 qO zW |-;obtain⟨U,hU⟩:∃U,U=CD T:=⟨_,rfl⟩;rw[<-hU]at h1 qO zW;refine Fw (Sub.freezeL [3] _) ?_;simp[qX,results315,Sg]
  (refine Au (Aq h1) Aa Aa ?_;intros;refine Ae ?_)
  refine Bk 5 5 9 1 16 (by simp[qX,ntmps315]) (fun n5=> ?_);refine Af (X:={k:Nat//k<=ns.length}) (fun k=>⟨[(1,.ref [AJ ns,Cq es]),(3,AJ U),(5,.osl 5 1),(6,.int .i64 k.1)],[⟨5,1,.row 9 1 16 (((ns.take k.1).filter fun n=> !decide (n∈U)).map AG)⟩]⟩) (fun k=>ns.length-k.1) ⟨0,by omega⟩ (Sub.lit (by simp)) ?_;rintro⟨k,hk⟩
  by_cases qV:k<ns.length
  ·obtain⟨x,hx,qU,wA⟩:=Ai qV
   have qH:(ns.take (k+1)).filter (fun n=> !decide (n∈U))=(ns.take k).filter (fun n=> !decide (n∈U))++(if x∈U then []else [x]):=by
    rw[bR0 qV,qU,dC0]
    by_cases dE:x∈U<;>simp[dE]
   have zD:((ns.take k).filter fun n=> !decide (n∈U)).length<=k:=Nat.le_trans (cG0 ..) (List.length_take_le k ns);obtain⟨V,hV⟩:∃V,V=(ns.take k).filter fun n=> !decide (n∈U):=⟨_,rfl⟩
   rw[<-hV]at qH zD |-;have z1:(V.length+1)*16<=150000000000000:=by omega
   have z2:V.length+1<=9223372036854775807:=by omega
   have a1:=Pd U x qO.1
   by_cases dE:x∈U
   ·simp only[dE,decide_true]at a1;rw[if_pos dE,bM0]at qH
    (refine Au (Aq a1) Aa (EB @AG.eq_1 qV hx qU z1 z2) ?_;intros;refine Ae ?_)
    refine Ag.mk ⟨k+1,by omega⟩ (Sub.lit (by simp only[qH];simp)) (by simp;omega)
    skip
   ·simp only[dE,decide_false]at a1;rw[if_neg dE]at qH
    (refine Au (Aq a1) Aa (EB @AG.eq_1 qV hx qU z1 z2) ?_;intros;refine Ae ?_)
    refine Ag.mk ⟨k+1,by omega⟩ (Sub.lit (by simp only[qH];simp[AG])) (by simp;omega)
    skip
  ·have qY:k=ns.length:=by omega
   subst qY;rw[aN0,<-zW];exact Al Aa Aa Aa
def FP (s n:ByteArray):ByteArray:=s++n++⟨#[32,59,10]⟩
def EZ (s:ByteArray) (x:Edge):ByteArray:=s++x.fr++⟨#[32]⟩++x.lb++⟨#[32]⟩++x.to++⟨#[32,59,10]⟩
def Pk (g:Edges):ByteArray:=g.edges.foldl EZ ((LF g).foldl FP ⟨#[]⟩)
theorem LA : (⟨#[32,59,10]⟩:ByteArray).size=3:=rfl
theorem Pt : (⟨#[32]⟩:ByteArray).size=1:=rfl
structure SmallG (g:Edges):Prop where
 n1:g.nodes.length<=32
 n2:∀n∈g.nodes,n.size<=16
 e1:g.edges.length<=256
 e2:∀e∈g.edges,e.fr.size<=16/\e.lb.size<=16/\e.to.size<=16
theorem VC {g:Edges} (h:SmallG g):(LF g).length<=32/\∀n∈LF g,n.size<=16:=by
 unfold LF;exact⟨Nat.le_trans (cG0 ..) h.n1,fun n hn=>h.n2 n (cQ0.1 hn).1⟩
theorem II {α β:Type} {f:β->α->β} {b:β} {l:List α} {k:Nat} {x:α} (hx:l[k]? =some x):(l.take (k+1)).foldl f b=f ((l.take k).foldl f b) x:=by
 obtain⟨h,rfl⟩:=aB0.1 hx;rw[bR0 h,cH0];rfl
theorem Uz (s n:ByteArray):(FP s n).size=s.size+n.size+3:=by simp[FP,aO0];rfl
theorem OG (s:ByteArray) (x:Edge):(EZ s x).size=s.size+x.fr.size+x.lb.size+x.to.size+5:=by
 simp only[EZ,aO0,LA,Pt];omega
theorem Kj : ∀(l:List ByteArray) (s:ByteArray),(∀n∈l,n.size<=16)->(l.foldl FP s).size<=s.size+19*l.length
 | [],s,_=>by simp
 | n::l,s,h=>by
  have h1:=Kj l (FP s n) fun m hm=>h m (aE0 _ hm)
  have h2:=h n aF0;rw[Uz]at h1;simp only[cM0,List.length_cons];omega
theorem NG : ∀(l:List Edge) (s:ByteArray),(∀e∈l,e.fr.size<=16/\e.lb.size<=16/\e.to.size<=16)->(l.foldl EZ s).size<=s.size+53*l.length
 | [],s,_=>by simp
 | n::l,s,h=>by
  have h1:=NG l (EZ s n) fun m hm=>h m (aE0 _ hm)
  have h2:=h n aF0;rw[OG]at h1;simp only[cM0,List.length_cons];omega
def ZW : Ann:=⟨[],[⟨10,[7],[],[]⟩]⟩
theorem aS (g:Edges) (hg:SmallG g):Ac prog 256 [.agg (BU g)] (.str (Pk g)):=by
 refine Ab [] ZW func256 call256 ntmps256 mxd (Ap @ZW.eq_1 results256) rfl (fun qJ B qX qQ=> ?_);clear qJ;simp only[Ak];obtain⟨R,yB⟩:∃R,R=Pk g:=⟨_,rfl⟩;rw[<-yB];have h1:=lF g;obtain⟨s1,s2⟩:=VC hg;obtain⟨L,hL⟩:∃L,L=LF g:=⟨_,rfl⟩;have hR:Pk g=g.edges.foldl EZ (L.foldl FP ⟨#[]⟩):=by rw[hL];rfl
 rw[hR]at yB;clear hR;rw[<-hL]at h1 s1 s2;obtain⟨n1,n2,n3,n4⟩:=hg;obtain⟨ns,es⟩:=g;simp only[BU]at h1 n3 n4 yB;have hsL:=Kj L ⟨#[]⟩ s2;rw[show (⟨#[]⟩:ByteArray).size=0 from rfl]at hsL;have e0:(⟨#[]⟩:ByteArray).size<=maxLen:=cV0 _;have m3:3<=maxLen:=by unfold maxLen;omega
 have m1:1<=maxLen:=by unfold maxLen;omega
 (refine Au (Aq h1) Aa (Ap @BU.eq_1 e0) ?_;intros;refine Ae ?_)
 refine Af (X:={k:Nat//k<=L.length}) (fun k=>⟨[(1,.ref [AJ ns,Cq es]),(3,.str ((L.take k.1).foldl FP ⟨#[]⟩)),(4,AJ L),(5,.int .i64 k.1)],[]⟩) (fun k=>L.length-k.1) ⟨0,by omega⟩ (Sub.lit (by simp)) ?_;rintro⟨k,hk⟩
 by_cases qV:k<L.length
 ·obtain⟨x,hx,qU,wA⟩:=Ai qV;have qH:=II (f:=FP) (b:=⟨#[]⟩) hx;have qM:=Kj (L.take k) ⟨#[]⟩ fun n hn=>s2 n (cK0 hn)
  rw[show (⟨#[]⟩:ByteArray).size=0 from rfl,aT0]at qM;obtain⟨T,hT⟩:∃T,T=(L.take k).foldl FP ⟨#[]⟩:=⟨_,rfl⟩;rw[<-hT]at qH qM |-;have mG:=s2 x wA;have q1:T.size+x.size<=maxLen:=by unfold maxLen;omega
  have q2:T.size+x.size+3<=maxLen:=by unfold maxLen;omega
  (refine Au Aa Aa (Hn @AG.eq_1 qV hx qU q1 q2 @LA @aO0 m3 m1) ?_;intros;refine Ae ?_)
  refine Ag.mk ⟨k+1,by omega⟩ (Sub.lit (by simp[qH,FP])) (by simp;omega)
  skip
 ·have qY:k=L.length:=by omega
  subst qY;rw[aN0];obtain⟨S,hS⟩:∃S,S=L.foldl FP ⟨#[]⟩:=⟨_,rfl⟩;rw[<-hS]at hsL yB |-;clear hS
  (refine Au Aa Aa Aa ?_;intros;refine Ae ?_)
  refine Af (X:={k:Nat//k<=es.length}) (fun k=>⟨[(1,.ref [AJ ns,Cq es]),(3,.str ((es.take k.1).foldl EZ S)),(6,.int .i64 k.1)],[]⟩) (fun k=>es.length-k.1) ⟨0,by omega⟩ (Sub.lit (by simp)) ?_;rintro⟨k,hk⟩
  by_cases qV:k<es.length
  ·obtain⟨x,hx,qU,wA⟩:=Ai qV;have qH:=II (f:=EZ) (b:=S) hx;have qM:=NG (es.take k) S fun n hn=>n4 n (cK0 hn)
   rw[aT0]at qM;obtain⟨T,hT⟩:∃T,T=(es.take k).foldl EZ S:=⟨_,rfl⟩;rw[<-hT]at qH qM |-;obtain⟨x1,x2,x3⟩:=n4 x wA;have q1:T.size+x.fr.size<=maxLen:=by unfold maxLen;omega
   have q2:T.size+x.fr.size+1<=maxLen:=by unfold maxLen;omega
   have q3:T.size+x.fr.size+1+x.lb.size<=maxLen:=by unfold maxLen;omega
   have q4:T.size+x.fr.size+1+x.lb.size+1<=maxLen:=by unfold maxLen;omega
   have q5:T.size+x.fr.size+1+x.lb.size+1+x.to.size<=maxLen:=by unfold maxLen;omega
   have q6:T.size+x.fr.size+1+x.lb.size+1+x.to.size+3<=maxLen:=by unfold maxLen;omega
   (refine Au Aa Aa (My_ @AO.eq_1 qV hx qU q1 q2 q3 q4 q5 q6 @LA @Pt @aO0 m3 m1) ?_;intros;refine Ae ?_)
   refine Ag.mk ⟨k+1,by omega⟩ (Sub.lit (by simp[qH,EZ])) (by simp;omega)
   skip
  ·have qY:k=es.length:=by omega
   subst qY;rw[aN0,<-yB];exact Al Aa Aa Aa
def BU_ (g:Edges):Int:=if 32<g.nodes.length then 260 else if 16<(CD (BP g.edges)).length then 261 else if 256<g.edges.length then 262 else if 2048<(Pk g).size then 174 else 0
def Gd (g:Edges):Int:=if Qc g then (if GB g then BU_ g else 173)else 2
theorem xC {g:Edges} (h:GB g=true) (h1:g.nodes.length<=32) (h2:g.edges.length<=256):SmallG g:=by
 unfold GB at h;simp only[aM0,bA0]at h;have hn:∀s,AX s=true->s.size<=16:=fun s hs=>by unfold AX at hs;simp only[aM0,decide_eq_true_eq]at hs;exact hs.1.2
 refine⟨h1,fun n hm=>hn n (h.1 n hm),h2,fun e he=> ?_⟩;have:=h.2 e he;unfold Df Js at this;simp only[aM0]at this;exact⟨hn _ this.1,hn _ this.2.1.1,hn _ this.2.2⟩
def ZV : Ann:=⟨[],[]⟩
theorem oT (g:Edges) (hn:GB g=true):Ac prog 171 [.agg (BU g)] (.int .i64 (BU_ g)):=by
 refine Ab [] ZV func171 call171 ntmps171 mxd (Ap @ZV.eq_1 results171) rfl (fun qJ B qX qQ=> ?_);clear qJ;simp only[Ak];unfold BU_;have h1:=VD g.edges
 by_cases c1:32<g.nodes.length
 ·have d1:(32:Int)<g.nodes.length:=by omega
  exact Al Aa Aa (BC @BU.eq_1 c1 d1)
 ·have d1:¬(32:Int)<g.nodes.length:=by omega
  obtain⟨U,hU⟩:∃U,U=CD (BP g.edges):=⟨_,rfl⟩;rw[<-hU]at h1 |-;clear hU
  by_cases c2:16<U.length
  ·have d2:(16:Int)<U.length:=by omega
   exact Al (Aq h1) Aa (Dx @BU.eq_1 c1 d1 c2 d2)
  ·have d2:¬(16:Int)<U.length:=by omega
   by_cases c3:256<g.edges.length
   ·have d3:(256:Int)<g.edges.length:=by omega
    exact Al (Aq h1) Aa (Ez @BU.eq_1 c1 d1 c2 d2 c3 d3)
   ·have d3:¬(256:Int)<g.edges.length:=by omega
    have h2:=aS g (xC hn (by omega) (by omega));obtain⟨T,hT⟩:∃T,T=Pk g:=⟨_,rfl⟩;rw[<-hT]at h2 |-;clear hT;simp only[BU]at h2
    by_cases c4:2048<T.size
    ·have d4:(2048:Int)<T.size:=by omega
     exact Al (Ap h1 h2) Aa (OD @BU.eq_1 c1 d1 c2 d2 c3 d3 c4 d4)
    ·have d4:¬(2048:Int)<T.size:=by omega
     exact Al (Ap h1 h2) Aa (OD @BU.eq_1 c1 d1 c2 d2 c3 d3 c4 d4)
def CV_ : Ann:=⟨[],[]⟩
theorem Ls (g:Edges):Ac prog 84 [.agg (BU g)] (.int .i64 (Gd g)):=by
 refine Ab [] CV_ func84 call84 ntmps84 mxd (Ap @CV_.eq_1 results84) rfl (fun qJ B qX qQ=> ?_);clear qJ;simp only[Ak];unfold Gd;have h1:=lW g;have h2:=XS g.nodes g.edges;simp only[BU]at h1;cases hf:Qc g
 ·rw[hf]at h1;exact Al (Ap h1 h2) Aa (Aq @BU.eq_1)
 ·rw[hf]at h1;cases hn:GB g
  ·have yU:Ac prog 170 [AJ g.nodes,Cq g.edges] (.bool false):=by rw[<-hn];exact h2
   exact Al (Ap h1 yU) Aa (Aq @BU.eq_1)
  ·have yU:Ac prog 170 [AJ g.nodes,Cq g.edges] (.bool true):=by rw[<-hn];exact h2
   have h3:=oT g hn;simp only[BU]at h3;exact Al (BC h1 yU h3) Aa (Aq @BU.eq_1)
def Fc_ (g:Edges) (a b:ByteArray) (way:List Edge):Int:=if Gd g=0 then (if FF g a b=0 then (if 64<way.length then 3 else if Ju g a b way then 0 else 370)else FF g a b)else Gd g
def CU_ : Ann:=⟨[],[]⟩
theorem Ur (g:Edges) (a b:ByteArray) (way:List Edge):Ac prog 85 [.agg (BU g),.str a,.str b,Cq way] (.int .i64 (Fc_ g a b way)):=by
 refine Ab [] CU_ func85 call85 ntmps85 mxd (Ap @CU_.eq_1 results85) rfl (fun qJ B qX qQ=> ?_);clear qJ;simp only[Ak];unfold Fc_;have h1:=Ls g;have h2:=BC_ g a b;have h3:=Gv_ g a b way;obtain⟨x,hx⟩:∃x,x=Gd g:=⟨_,rfl⟩;obtain⟨y,hy⟩:∃y,y=FF g a b:=⟨_,rfl⟩;obtain⟨z,hz⟩:∃z,z=Ju g a b way:=⟨_,rfl⟩;rw[<-hx]at h1 |-;rw[<-hy]at h2 |-;rw[<-hz]at h3 |-;clear hx hy hz;simp only[BU]at h1 h2 h3
 by_cases c1:x=0
 ·subst c1
  by_cases c2:y=0
  ·subst c2
   by_cases c3:64<way.length
   ·have d3:(64:Int)<way.length:=by omega
    exact Al (BC h1 h2 h3) Aa (BC @BU.eq_1 c3 d3)
   ·have d3:¬(64:Int)<way.length:=by omega
    cases z
    ·exact Al (BC h1 h2 h3) Aa (BC @BU.eq_1 c3 d3)
    ·exact Al (BC h1 h2 h3) Aa (BC @BU.eq_1 c3 d3)
  ·have e2:(y != 0)=true:=by simpa using c2
   exact Al (BC h1 h2 h3) Aa (BC @BU.eq_1 c2 e2)
 ·have e1:(x != 0)=true:=by simpa using c1
  exact Al (BC h1 h2 h3) Aa (BC @BU.eq_1 c1 e1)
def ZS : Ann:=⟨[],[]⟩
theorem Tn (l:List ByteArray) :
  AS prog (.func 311) [.osl 0 0] [⟨0,0,.row 9 1 16 (l.map AG)⟩] (AJ (Bu Zv l)) []:=by
 refine Gi [0] [] func311 rfl call311 (by simp[ntmps311]) (by simp) (by simp) ?_;intro qJ rL B qX;have qQ:=ZO ZS mxd (Ap @ZS.eq_1 results311);simp only[Ak]
 have hl:l.length<=9223372036854775807:=by
  simp only[Up,maxLen,aJ0]at rL;omega
 clear rL
 by_cases wS:l.length<2
 ·have jH:Bu Zv l=l:=by
   match l,wS with
   | [],_=>rfl
   | [x],_=>rfl
  exact Al Aa Aa (Ap wS jH)
 have nP:¬(l.length:Int)<2:=by omega
 obtain⟨R0,yM⟩:∃R0,R0=Bu Zv l:=⟨_,rfl⟩;rw[<-yM]
 (refine Au Aa Aa (Ap wS nP) ?_;intros;refine Ae ?_)
 refine Af (X:={k:Nat//1<=k/\k<=l.length/\Bu Zv (l.take k)=l.take k}) (fun k=>⟨[(0,.osl 0 0),(3,.int .i64 k.1)],[⟨0,0,.row 9 1 16 (l.map AG)⟩]⟩) (fun k=>l.length-k.1) ⟨1,by
  obtain⟨x,t,rfl⟩:∃x t,l=x::t:=by
   cases l with
   | nil=>simp at wS
   | cons x t=>exact⟨x,t,rfl⟩
  simp[Bu,CA]⟩ (Sub.lit (by simp)) ?_
 rintro⟨k,jE,hk,bW⟩
 by_cases qV:k<l.length
 ·obtain⟨q,hq,vV,jJ⟩:=Ai qV;obtain⟨p,hp,qI,vK⟩:=Ai (show k-1<l.length by omega);have yT:IntKind.i64.wrap ((k:Int)-1)=(k:Int)-1:=wq;have vT:((k:Int)-1).toNat=k-1:=by omega
  have hs:=GL (e:=Zv) (by omega) hp hq;have qE:(0:Int)<=(k:Int)-1:=by omega
  have qP:(k:Int)-1<l.length:=by omega
  cases kR:Zv q p
  ·rw[kR]at hs;simp only[aK0,if_false]at hs;have zN:(q==p)=false:=kR
   (refine Au Aa Aa (Hm @AG.eq_1 qV vV qI hp hq vT yT qE qP zN) ?_;intros;refine Ae ?_)
   refine Ag.mk ⟨k+1,by omega,by omega,by rw[hs,bW,bD0,hq];rfl⟩ (Sub.lit (by simp)) (by simp;omega)
   skip
  ·rw[kR]at hs;simp only[if_true,bM0]at hs;have zN:(q==p)=true:=kR
   (refine Au Aa Aa (Hm @AG.eq_1 qV vV qI hp hq vT yT qE qP zN) ?_;intros;refine Ae ?_)
   clear yT vT qE qP
   refine Af (X:={x:Nat×Nat×List ByteArray//1<=x.1/\k+x.1<=l.length/\x.2.1<k+x.1/\k<=x.2.1/\x.2.2.length=l.length/\x.2.2.take x.2.1=Bu Zv (l.take (k+x.1))/\∀j,k+x.1<=j+1->x.2.2[j]? =l[j]?}) (fun x=>⟨[(0,.osl 0 0),(3,.int .i64 x.1.2.1),(4,.vw 0 0 1 16 k (l.length-k)),(5,.int .i64 x.1.1)],[⟨0,0,.row 9 1 16 (x.1.2.2.map AG)⟩]⟩) (fun x=>l.length-x.1.1)
    ⟨(1,k,l),show 1<=1/\k+1<=l.length/\k<k+1/\k<=k/\l.length=l.length/\l.take k=Bu Zv (l.take (k+1))/\(∀j,k+1<=j+1->l[j]? =l[j]?) from ⟨by omega,by omega,by omega,by omega,rfl,by rw[hs,bW],fun _ _=>rfl⟩⟩ (Sub.lit (by simp)) ?_
   rintro⟨⟨m,kk,R⟩,x1,x2,x3,x4,x5,x6,x7⟩;simp only at x1 x2 x3 x4 x5 x6 x7 |-;have hv:k+(l.length-k)<=l.length:=by omega
   by_cases hm:m<l.length-k
   ·obtain⟨y,hy,wN,gG⟩:=Ai (show k+m<l.length by omega);obtain⟨z,hz,sD,hzm⟩:=Ai (show k+m-1<l.length by omega);obtain⟨c0,yG,_,_⟩:=Ai (show kk<R.length by omega);have pI:R[k+m]? =some y:=by rw[x7 _ (by omega)];exact hy
    have pH:R[k+(m-1)]? =some z:=by rw[x7 _ (by omega),show k+(m-1)=k+m-1 by omega];exact hz
    have bC:R[k+m]'(by omega)=y:=(aB0.1 pI).2;have bB:R[k+(m-1)]'(by omega)=z:=(aB0.1 pH).2;have yT:IntKind.i64.wrap ((m:Int)-1)=(m:Int)-1:=wq;have vT:((m:Int)-1).toNat=m-1:=by omega
    have qE:(0:Int)<=(m:Int)-1:=by omega
    have qP:(m:Int)-1<((l.length-k:Nat):Int):=by omega
    have vM:=GL (e:=Zv) (by omega) hz hy;rw[<-x6]at vM;have qY:kk<l.length:=by omega
    cases kP:Zv y z
    ·rw[kP]at vM;simp only[aK0,if_false]at vM;have pY:(y==z)=false:=kP
     (refine Au Aa Aa (My_ @AG.eq_1 hm pI pH bC bB vT yT qE qP x5 hv yG qY pY) ?_;intros;refine Ae ?_)
     refine Ag.mk ⟨(m+1,kk+1,R.set kk y),show 1<=m+1/\k+(m+1)<=l.length/\kk+1<k+(m+1)/\k<=kk+1/\(R.set kk y).length=l.length/\(R.set kk y).take (kk+1)=Bu Zv (l.take (k+(m+1)))/\(∀j,k+(m+1)<=j+1->(R.set kk y)[j]? =l[j]?) from ⟨by omega,by omega,by omega,by omega,by simp[x5],?_,fun j hj=> ?_⟩⟩ (Sub.lit ?_) (by simp;omega)
     ·rw[show k+(m+1)=k+m+1 by omega,vM,bD0,eX0 (by omega),List.take_set_of_le (by omega)];rfl
     ·rw[List.getElem?_set_ne (by omega)];exact x7 j (by omega)
     ·have gU:BK ((R.map AG).set kk [.str y])=0:=by
       rw[show (R.map AG).set kk [.str y]=(R.set kk y).map AG by simp[dR0,AG]];exact Op_ _
      simp[dR0,AG,gU]
     skip
    ·rw[kP]at vM;simp only[if_true,bM0]at vM;have pY:(y==z)=true:=kP
     (refine Au Aa Aa (My_ @AG.eq_1 hm pI pH bC bB vT yT qE qP x5 hv yG qY pY) ?_;intros;refine Ae ?_)
     refine Ag.mk ⟨(m+1,kk,R),show 1<=m+1/\k+(m+1)<=l.length/\kk<k+(m+1)/\k<=kk/\R.length=l.length/\R.take kk=Bu Zv (l.take (k+(m+1)))/\(∀j,k+(m+1)<=j+1->R[j]? =l[j]?) from ⟨by omega,by omega,by omega,by omega,x5,by rw[show k+(m+1)=k+m+1 by omega,vM],fun j hj=>x7 j (by omega)⟩⟩ (Sub.lit (by simp)) (by simp;omega)
     skip
   ·have hkm:k+m=l.length:=by omega
    have jF:(CY (R.map AG) kk (l.length-kk) [.str ⟨#[]⟩]).length=l.length:=by simp[CY];omega
    have jC:(CY (R.map AG) kk (l.length-kk) [.str ⟨#[]⟩]).take kk=R0.map AG:=by
     have e1:l.take (k+m)=l:=by rw[hkm,aN0]
     rw[e1]at x6;rw[yM,<-x6];simp only[CY];rw[aR0,eG0 (by simp;omega),fJ0,Nat.min_self,eM0]
    have jY:kk<=l.length:=by omega
    exact Al Aa Aa (EB hm x5 hv jF jC jY)
 ·have qY:k=l.length:=by omega
  subst qY;rw[aN0]at bW;rw[bW]at yM;exact Al Aa Aa (Aq yM)
def ZU : Ann:=⟨[],[]⟩
def JA : Ann:=⟨[5],[]⟩
theorem MW (l:List ByteArray):Ac prog 100 [AJ l] (AJ l):=by
 match l with
 | [] =>
  refine Xy [] ?_ ?_
  ·refine Ab [7] ZU func100 call100 ntmps100 mxd (Ap @ZU.eq_1 results100) rfl (fun qJ B qX qQ=> ?_) (hd:=(by simp[mx,BK]));simp only[Ak,List.nil_append,AJ,List.map_cons];exact Al Aa Aa Aa
  ·refine Ab [7,5] JA func100 call100 ntmps100 mxd (Ap @JA.eq_1 results100) rfl (fun qJ B qX qQ=> ?_) (hd:=(by simp[mx,BK]));simp only[Ak,List.nil_append,AJ,List.map_cons];exact Al Aa Aa Aa
 | s::l =>
  refine Ab [7,5] JA func100 call100 ntmps100 mxd (Ap @JA.eq_1 results100) rfl (fun qJ B qX qQ=> ?_) (hd:=(by simp[mx,BK]));have qM:(s::l).length*16<=150000000000000:=by have:=qJ.1;simp only[Dq,aJ0]at this;exact this.1
  clear qJ;have z2:(s::l).length<=9223372036854775807:=by omega
  simp only[List.length_cons]at qM z2;simp only[Ak,List.nil_append,AJ,List.map_cons];exact Al Aa Aa (Ap qM z2)
def ZT : Ann:=⟨[7],[]⟩
theorem Kq_ (x:Edge) (l:List ByteArray) (hz:(l.length+1)*16<=150000000000000) :
  AS prog (.func 310) [.agg (AO x),.bx 0 0 0] [⟨0,0,.box [.osl 1 0]⟩,⟨1,0,.row 9 1 16 (l.map AG)⟩] (.tup []) [⟨0,0,.box [.osl 1 1]⟩,⟨1,1,.row 9 1 16 ((l++[x.lb]).map AG)⟩]:=by
 refine Bi [] [(0,0,0),(1,1,1)] ZT func310 call310 ntmps310 mxd (Ap @ZT.eq_1 results310) rfl (fun qJ B qX qQ=> ?_);simp only[Ak];have z2:l.length+1<=9223372036854775807:=by omega
 exact Al Aa Aa (CG @AO.eq_1 @AG.eq_1 hz z2)
def ZR : Ann:=⟨[17,20,22],[⟨5,[6],[],[]⟩]⟩
theorem VE (g:Edges):Ac prog 248 [.agg (BU g)] (AJ (CD (BP g.edges))):=by
 refine Ab [] ZR func248 call248 ntmps248 mxd (Ap @ZR.eq_1 results248) rfl (fun qJ B qX qQ=> ?_);obtain⟨ns,es⟩:=g;have vM:es.length*48<=150000000000000:=by have:=qJ.1;simp only[Dq,BU,Gj,aJ0]at this;exact this.2.1.1
 clear qJ;simp only[Ak];obtain⟨R,hR⟩:∃R,R=CD (BP es):=⟨_,rfl⟩;rw[<-hR]
 (refine Au Aa Aa (Aq @BU.eq_1) ?_;intros;refine Ae ?_)
 refine BT 3 0 50 9 1 16 (by simp) (fun n=> ?_);refine Af (X:={k:Nat//k<=es.length}) (fun k=>⟨[(3,.bx 3 1 0),(4,.fn (.func 310) [] [.bx 3 1 0]),(9,Cq es),(10,.int .i64 es.length),(11,.int .i64 k.1)],[⟨3,1,.box [.osl 50 1]⟩,⟨50,1,.row 9 1 16 ((BP (es.take k.1)).map AG)⟩]⟩) (fun k=>es.length-k.1) ⟨0,by omega⟩ (Sub.lit (by simp[BP])) ?_;rintro⟨k,hk⟩
 by_cases qV:k<es.length
 ·obtain⟨x,hx,qU,wA⟩:=Ai qV;have qH:BP (es.take (k+1))=BP (es.take k)++[x.lb]:=by unfold BP;rw[bR0 qV,qU,aX0];rfl
  have zD:(BP (es.take k)).length=k:=by simp[BP];omega
  obtain⟨T,hT⟩:∃T,T=BP (es.take k):=⟨_,rfl⟩;rw[<-hT]at qH zD |-;have e1:=Kq_ x T (by omega);simp only[AO]at e1
  (refine Au Aa (Aq (DF [(3,0),(50,1)] [] e1)) (CG @AO.eq_1 qV hx qU) ?_;intros;refine Ae ?_)
  refine Ag.mk ⟨k+1,by omega⟩ (Sub.lit (by simp[qH,AG])) (by simp;omega)
  skip
 ·have qY:k=es.length:=by omega
  subst qY;rw[aN0];have wX:R=Bu Zv (Ep (BP es)):=hR;clear hR;obtain⟨T,hT⟩:∃T,T=BP es:=⟨_,rfl⟩;rw[<-hT]at wX |-;have e1:=Mc T;have e2:=Tn (Ep T);rw[<-wX]at e2;have e3:=MW R;exact Al (Aq e3) (Ap (DF [(50,0)] [] e1) (DF [(50,0)] [] e2)) Aa
def EV (l:List Int):List DVal:=l.map fun n=> .int .i64 n
theorem NB (l:List Int) (j:Nat) (n:Int):(EV l).set j (.int .i64 n)=EV (l.set j n):=by simp[EV,dR0]
theorem ND (l:List Int) (n:Int):EV l++[.int .i64 n]=EV (l++[n]):=by simp[EV]
@[simp] theorem TM_ (l:List Int):AV (EV l)=0:=by
 unfold EV
 induction l with
 | nil=>rfl
 | cons a l ih=>simp[AV,mx,ih]
structure Cnt (K:List ByteArray) (V:List Int) (es:List ByteArray):Prop where
 len:K.length=V.length
 mem:∀s,s∈K↔s∈es
 val:∀v∈V,1<=v/\v<=es.length
theorem Nk (l:List ByteArray) (s:ByteArray):CR l++[.str s]=CR (l++[s]):=by simp[CR]
theorem Cnt.step {K:List ByteArray} {V:List Int} {es:List ByteArray} (h:Cnt K V es) (s:ByteArray) :
  (∃j d,AZ (CR K) (.str s)=some j/\(EV V)[j]? =some (.int .i64 d)/\1<=d/\d<=es.length/\Cnt K (V.set j (d+1)) (es++[s])) \/
  (AZ (CR K) (.str s)=none/\Cnt (K++[s]) (V++[1]) (es++[s])):=by
 by_cases hs:s∈K
 ·obtain⟨j,h1,h2⟩:=GE hs;have h3:j<V.length:=by rw[<-h.len];exact h2
  have hv:=h.val V[j] (cY0 h3);refine .inl ⟨j,V[j],h1,by simp[EV,h3],hv.1,hv.2,by simp[h.len],fun x=> ?_,fun v bI=> ?_⟩
  ·rw[h.mem x,aI0]
   constructor
   ·exact .inl
   ·rintro (hx | hx)
    ·exact hx
    ·simp only[aG0]at hx;subst hx;exact(h.mem x).1 hs
  ·rcases List.mem_or_eq_of_mem_set bI with h4 | rfl
   ·have:=h.val v h4;simp;omega
   ·simp;omega
 ·refine .inr ⟨DR hs,by simp[h.len],fun x=>by simp[h.mem x],fun v hv=> ?_⟩
  rcases aI0.1 hv with h4 | h4
  ·have:=h.val v h4;simp;omega
  ·simp only[aG0]at h4;subst h4;simp;omega
def ZQ : Ann:=⟨[],[⟨4,[5],[],[]⟩]⟩
theorem lG (g:Edges):Ac prog 312 [.agg (BU g)] (AJ (LF g)):=by
 refine Ab [6] ZQ func312 call312 ntmps312 mxd (Ap @ZQ.eq_1 results312) rfl (fun qJ B qX qQ=> ?_);obtain⟨ns,es⟩:=g;have fZ:ns.length*16<=150000000000000:=by have:=qJ.1;simp only[Dq,BU,Gj,aJ0]at this;exact this.1.1
 have vM:es.length*48<=150000000000000:=by have:=qJ.1;simp only[Dq,BU,Gj,aJ0]at this;exact this.2.1.1
 clear qJ;simp only[Ak];obtain⟨R,hR⟩:∃R,R=LF ⟨ns,es⟩:=⟨_,rfl⟩;rw[<-hR]
 (refine Au Aa Aa (Aq @BU.eq_1) ?_;intros;refine Ae ?_)
 refine Af (X:={x:Nat×List ByteArray×List Int//x.1<=es.length/\Cnt x.2.1 x.2.2 (Ew (es.take x.1))}) (fun x=>⟨[(1,.ref [AJ ns,Cq es]),(3,.omp 9 1),(11,Cq es),(12,.int .i64 es.length),(13,.int .i64 x.1.1)],[⟨9,1,.map (CR x.1.2.1) (EV x.1.2.2)⟩]⟩) (fun x=>es.length-x.1.1)
  ⟨(0,[],[]),by simp,by simp,by simp[Ew],by simp⟩ (Sub.lit (by simp[CR,EV])) ?_
 rintro⟨⟨k,Ks,V⟩,hk,hC⟩;simp only at hk hC |-
 by_cases qV:k<es.length
 ·obtain⟨x,hx,qU,wA⟩:=Ai qV;have qH:=Wl hx;have mR:(Ew (es.take k)).length=2*k:=by rw[RV,aT0];omega
  have vH:=Li Ks;have pD:∀C:List ByteArray,Ew (es.take k)++[x.fr]++[x.to]=Ew (es.take (k+1)):=fun _=>by rw[qH];simp
  rcases hC.step x.fr with ⟨j,d,l1,v1,d1,d2,hC1⟩ | ⟨l1,hC1⟩
  ·rw[mR]at d2;have w1:IntKind.i64.wrap (d+1)=d+1:=wq;have st1:=NB V j (d+1)
   rcases hC1.step x.to with ⟨j2,e,l2,v2,e1,e2,pK⟩ | ⟨l2,pK⟩
   ·simp only[aC0,List.length_cons,List.length_nil,mR]at e2;have w2:IntKind.i64.wrap (e+1)=e+1:=wq;have st2:=NB (V.set j (d+1)) j2 (e+1);rw[pD Ks]at pK
    (refine Au Aa Aa (Uf_ @AO.eq_1 qV hx qU vH l1 v1 w1 st1 l2 v2 w2 st2) ?_;intros;refine Ae ?_)
    refine Ag.mk ⟨(k+1,Ks,(V.set j (d+1)).set j2 (e+1)),show k+1<=es.length/\Cnt Ks ((V.set j (d+1)).set j2 (e+1)) (Ew (es.take (k+1))) from ⟨by omega,pK⟩⟩ (Sub.lit (by simp)) (by simp;omega)
    skip
   ·rw[pD Ks]at pK;have st2:=ND (V.set j (d+1)) 1;have sk2:=Nk Ks x.to
    (refine Au Aa Aa (FJ @AO.eq_1 qV hx qU vH l1 v1 w1 st1 l2 st2 sk2) ?_;intros;refine Ae ?_)
    refine Ag.mk ⟨(k+1,Ks++[x.to],V.set j (d+1)++[1]),show k+1<=es.length/\Cnt (Ks++[x.to]) (V.set j (d+1)++[1]) (Ew (es.take (k+1))) from ⟨by omega,pK⟩⟩ (Sub.lit (by simp)) (by simp;omega)
    skip
  ·have st1:=ND V 1;have sk1:=Nk Ks x.fr;have mX:=Li (Ks++[x.fr])
   rcases hC1.step x.to with ⟨j2,e,l2,v2,e1,e2,pK⟩ | ⟨l2,pK⟩
   ·simp only[aC0,List.length_cons,List.length_nil,mR]at e2;have w2:IntKind.i64.wrap (e+1)=e+1:=wq;have st2:=NB (V++[1]) j2 (e+1);rw[pD Ks]at pK
    (refine Au Aa Aa (Uf_ @AO.eq_1 qV hx qU vH l1 st1 sk1 mX l2 v2 w2 st2) ?_;intros;refine Ae ?_)
    refine Ag.mk ⟨(k+1,Ks++[x.fr],(V++[1]).set j2 (e+1)),show k+1<=es.length/\Cnt (Ks++[x.fr]) ((V++[1]).set j2 (e+1)) (Ew (es.take (k+1))) from ⟨by omega,pK⟩⟩ (Sub.lit (by simp)) (by simp;omega)
    skip
   ·rw[pD Ks]at pK;have st2:=ND (V++[1]) 1;have sk2:=Nk (Ks++[x.fr]) x.to
    (refine Au Aa Aa (FJ @AO.eq_1 qV hx qU vH l1 st1 sk1 mX l2 st2 sk2) ?_;intros;refine Ae ?_)
    refine Ag.mk ⟨(k+1,Ks++[x.fr]++[x.to],V++[1]++[1]),show k+1<=es.length/\Cnt (Ks++[x.fr]++[x.to]) (V++[1]++[1]) (Ew (es.take (k+1))) from ⟨by omega,pK⟩⟩ (Sub.lit (by simp)) (by simp;omega)
    skip
 ·have qY:k=es.length:=by omega
  subst qY;rw[aN0]at hC;have vH:=Li Ks
  have zW:R=ns.filter fun n=> !decide (n∈Ks):=by
   rw[hR];unfold LF
   congr 1
   funext n
   simp only[hC.mem n]
  clear hR
  (refine Au Aa Aa Aa ?_;intros;refine Ae ?_)
  refine Bk 6 6 9 1 16 (by simp[qX,ntmps312]) (fun n6=> ?_);refine Af (X:={k:Nat//k<=ns.length}) (fun k=>⟨[(3,.omp 9 1),(6,.osl 6 1),(29,AJ ns),(30,.int .i64 ns.length),(31,.int .i64 k.1)],[⟨9,1,.map (CR Ks) (EV V)⟩,⟨6,1,.row 9 1 16 (((ns.take k.1).filter fun n=> !decide (n∈Ks)).map AG)⟩]⟩) (fun k=>ns.length-k.1) ⟨0,by omega⟩ (Sub.lit (by simp)) ?_;rintro⟨k,hk⟩
  by_cases qV:k<ns.length
  ·obtain⟨x,hx,qU,wA⟩:=Ai qV
   have qH:(ns.take (k+1)).filter (fun n=> !decide (n∈Ks))=(ns.take k).filter (fun n=> !decide (n∈Ks))++(if x∈Ks then []else [x]):=by
    rw[bR0 qV,qU,dC0]
    by_cases dE:x∈Ks<;>simp[dE]
   have zD:((ns.take k).filter fun n=> !decide (n∈Ks)).length<=k:=Nat.le_trans (cG0 ..) (List.length_take_le k ns);obtain⟨W,hW⟩:∃W,W=(ns.take k).filter fun n=> !decide (n∈Ks):=⟨_,rfl⟩
   rw[<-hW]at qH zD |-;have z1:(W.length+1)*16<=150000000000000:=by omega
   have z2:W.length+1<=9223372036854775807:=by omega
   by_cases dE:x∈Ks
   ·obtain⟨j,l1,l2⟩:=GE dE;have l3:j<V.length:=by rw[<-hC.len];exact l2
    have hv:=(hC.val V[j] (cY0 l3)).1;have v1:(EV V)[j]? =some (.int .i64 V[j]):=by simp[EV,l3]
    have kA:(V[j]==0)=false:=by simp;omega
    rw[if_pos dE,bM0]at qH
    (refine Au Aa Aa (Ji @AG.eq_1 qV hx qU vH l1 v1 kA) ?_;intros;refine Ae ?_)
    refine Ag.mk ⟨k+1,by omega⟩ (Sub.lit (by simp only[qH];simp)) (by simp;omega)
    skip
   ·have l1:=DR dE;rw[if_neg dE]at qH
    (refine Au Aa Aa (Ji @AG.eq_1 qV hx qU vH l1 z1 z2) ?_;intros;refine Ae ?_)
    refine Ag.mk ⟨k+1,by omega⟩ (Sub.lit (by simp only[qH];simp[AG])) (by simp;omega)
    skip
  ·have qY:k=ns.length:=by omega
   subst qY;rw[aN0,<-zW];exact Al Aa Aa Aa
end Go.Proofs.Wy
end
section
namespace Go.Dm
variable [DMode]
def YD : DVal->Bool
 | .bool _=>true
 | .int _ _=>true
 | .str _=>true
 | .nilp=>true
 | .nilsl=>true
 | .any=>true
 | _=>false
theorem HQ_ {d:DVal} (hd:YD d=true) {cur cur':Gp} {M M':List Nat} {h h':Array Obj} {v:Value} (hr:rd cur M h d v):rd cur' M' h' d v:=by
 cases d<;>simp only[YD,aK0]at hd<;>simp only[rd]at hr |- <;>exact hr
theorem UU : ∀{ds:List DVal} (hd:ds.all YD=true) {cur cur':Gp} {M M':List Nat} {h h':Array Obj} {vs:List Value} (_:AL cur M h ds vs),AL cur' M' h' ds vs
 | [],_,_,_,_,_,_,_,vs,hr=>by simpa only[AL]using hr
 | d::ds,hd,_,_,_,_,_,_,vs,hr=>by
  rw[cX0,aM0]at hd;simp only[AL]at hr |-;obtain⟨v,r,rfl,h1,h2⟩:=hr;exact⟨v,r,rfl,HQ_ hd.1 h1,UU hd.2 h2⟩
def xD : DVal->Bool
 | .tup ds=>ds.all YD
 | .agg ds=>ds.all YD
 | d=>YD d
theorem NL_ {d:DVal} (hd:xD d=true) {cur cur':Gp} {M M':List Nat} {h h':Array Obj} {v:Value} (hr:rd cur M h d v):rd cur' M' h' d v:=by
 cases d
 case tup ds =>
  simp only[xD]at hd;simp only[rd]at hr |-;obtain⟨us,rfl,h1⟩:=hr;exact⟨us,rfl,UU hd h1⟩
 case agg ds =>
  simp only[xD]at hd;simp only[rd]at hr |-;obtain⟨us,rfl,h1⟩:=hr;exact⟨us,rfl,UU hd h1⟩
 all_goals exact HQ_ (by simpa only[xD]using hd) hr
theorem Xx {P:Program} {f:FuncId} {k bs:Nat} {et:TypeId} {es:List (List DVal)} {rest:List DVal} {d:DVal} (hd:xD d=true) (hp:Ac P f (.sl k bs es::rest) d) :
  AS P (.func f) (.osl 0 0::rest) [⟨0,0,.row et k bs es⟩] d [⟨0,0,.row et k bs es⟩]:=by
 obtain⟨zZ,_,hc⟩:=hp;refine⟨by simp,zZ,fun M w loc vs S hr=>⟨zZ,?_⟩⟩;simp only[AL]at hr;obtain⟨v0,r0,vN,h0,hrest⟩:=hr;simp only[rd]at h0;have kA:=h0 (loc 0) rfl;have hk:=S.ok ⟨0,0,.row et k bs es⟩ (by simp);have hap:=S.ap
 have W:Weak (Aj [(⟨0,0,.row et k bs es⟩:Ent)] loc) (Aj [(⟨0,0,.row et k bs es⟩:Ent)] loc) (Ad [(⟨0,0,.row et k bs es⟩:Ent)] loc++M) M w.heap w.heap (max (BK es) (AV rest)) :=
  ⟨fun _ _ _ _ h=>h,fun _ _ _ _ h=>h,fun b _ hb _ _ hm=>hb (aV0 _ hm)⟩
 refine(hc (Aj [(⟨0,0,.row et k bs es⟩:Ent)] loc) M w vs (fun b hb=>S.lt b (aV0 _ hb)) ?_).mono ?_
 ·rw[vN];simp only[AL];refine⟨v0,r0,rfl,?_,Bn W _ _ (by omega) hrest⟩;simp only[rd];obtain⟨hz,h⟩:=hk
  rcases h with ⟨he,_,h2⟩ | ⟨b,arr,cap,h1,h2,h3,h4,h5,h6,h7⟩
  ·subst he;rw[kA,h2];exact⟨none,0,by simp,by simp,by simp,hz,.inl ⟨rfl,fun _=>rfl⟩⟩
  ·rw[kA,h2];refine⟨some ⟨b,0,none⟩,cap,rfl,h4,h5,hz,.inr ⟨b,0,arr,et,(0,0),rfl,hap b ?_,h3,Dk W k es arr 0 (by omega) h7⟩⟩;simp[Ad,h1]
 ·rintro e w' ⟨v,rfl,hu,zK⟩;exact⟨v,rfl,loc,S.keep hu,hu.nil,fun b hb=> .inl hb,fun e he _=>Ba S.nd he,NL_ hd zK⟩
theorem RY_ {P:Program} {B:Base} {Q:Exit->DS->Prop} {s:DS} {x:Code} (i k bs:Nat) (h:BL s.slots i= .nilsl) (hw:DW P B x Q ⟨(i,.sl k bs [])::s.slots,s.own⟩):DW P B x Q s:=by
 refine Fw (s':=⟨(i,.sl k bs [])::s.slots,s.own⟩) (fun a w loc R=>⟨loc,R.st,R.upd,R.new,R.ver,fun j=> ?_,R.nt,R.df⟩) hw;simp only[BL]
 split
 ·rename_i hj;subst hj;have:=R.sl j;rw[h]at this;simp only[rd]at this |-;rw[this];exact⟨none,0,by simp,by simp,by simp,by simp,.inl ⟨by simp,fun _=>rfl⟩⟩
 ·exact R.sl j
end Go.Dm
end
section
namespace Go.Proofs.Wy
open Go Go.Dm Tryz
variable [DMode]
attribute [local irreducible] DW Bs Bv
set_option maxRecDepth 100000
theorem FN_ {l:List ByteArray} {s:ByteArray}:decide (0<=Ct l s)=decide (s∈l):=by
 refine decide_eq_decide.2 ?_;unfold Ct
 by_cases h:s∈l
 ·rw[if_pos (bW0.2 ⟨s,h,by simp⟩)];simp only[h,iff_true];omega
 ·rw[if_neg (fun hh=>h (by obtain⟨x,hx,hs⟩:=bW0.1 hh;simp at hs;subst hs;exact hx))];simp[h]
theorem Kx (l:List ByteArray) (s:ByteArray):Ac prog 154 [AJ l,.str s] (.bool (decide (s∈l))):=by
 rw[<-FN_];exact GK l s
theorem Wz (l:List ByteArray) (s:ByteArray):AS prog (.func 154) [.osl 0 0,.str s] [⟨0,0,.row 9 1 16 (l.map AG)⟩] (.bool (decide (s∈l))) [⟨0,0,.row 9 1 16 (l.map AG)⟩] :=
 Xx rfl (Kx l s)
def uA : Ann:=⟨[15],[⟨4,[5],[],[]⟩]⟩
theorem Lo (g:List Rul):Ac prog 91 [Az g] (AJ (Ay g)):=by
 refine Ab [3] uA func91 call91 ntmps91 mxd (Ap @uA.eq_1 results91) rfl (fun qJ B qX qQ=> ?_);have hs:g.length*40<=150000000000000:=by have:=qJ.1;simp only[Dq,aJ0]at this;exact this.1
 clear qJ;simp only[Ak]
 (refine Au Aa Aa Aa ?_;intros;refine Ae ?_)
 refine Bk 3 3 9 1 16 (by simp[qX,results91,uA]) (fun n=> ?_);refine Af (X:={i:Nat//i<=g.length}) (fun i=>⟨[(0,Az g),(3,.osl 3 1),(6,Az g),(7,.int .i64 g.length),(8,.int .i64 i.1)],[⟨3,1,.row 9 1 16 ((Ay (g.take i.1)).map AG)⟩]⟩) (fun i=>g.length-i.1) ⟨0,by omega⟩ (Sub.lit (by simp[Ay])) ?_;rintro⟨i,hi⟩;simp only
 by_cases qV:i<g.length
 ·obtain⟨r,hr,qC,bP⟩:=Ai qV;have qH:=SH hr;have hl:=Ln (g.take i);rw[aT0]at hl;obtain⟨T,hT⟩:∃T,T=Ay (g.take i):=⟨_,rfl⟩;rw[<-hT]at qH hl |-;have e1:=Wz T r.h;have z1:(T.length+1)*16<=150000000000000:=by omega
  have z2:T.length+1<=9223372036854775807:=by omega
  unfold Kp at qH
  by_cases hm:r.h∈T
  ·rw[if_pos hm]at qH;rw[decide_eq_true hm]at e1
   (refine Au Aa (Aq (DF [(3,0)] [] e1)) (CG @Co.eq_1 qV hr qC) ?_;intros;refine Ae ?_)
   refine Ag.mk ⟨i+1,by omega⟩ (Sub.lit (by simp[qH])) (by simp;omega)
   skip
  ·rw[if_neg hm]at qH;rw[decide_eq_false hm]at e1
   (refine Au Aa (Aq (DF [(3,0)] [] e1)) (EB @Co.eq_1 qV hr qC z1 z2) ?_;intros;refine Ae ?_)
   refine Ag.mk ⟨i+1,by omega⟩ (Sub.lit (by simp[qH,AG])) (by simp;omega)
   skip
 ·have qY:i=g.length:=by omega
  subst qY;rw[aN0];exact Al Aa Aa Aa
abbrev dCM (m:CM):DObj:= .map (CR m.K) (EV m.V)
def EJ_ : Ann:=⟨[],[⟨4,[7],[],[]⟩,⟨7,[9],[],[]⟩]⟩
theorem Oo (g:List Rul) (k:Int):AS prog (.func 176) [Az g,.int .i64 k] [] (.omp 0 1) [⟨0,1,dCM (Tp (AW k g))⟩]:=by
 refine Bi [] [(10,0,1)] EJ_ func176 call176 ntmps176 mxd (Ap @EJ_.eq_1 results176) rfl (fun qJ B qX qQ=> ?_);have rQ:=Mz qJ.1
 have rM:∀r∈g,r.b.length<9223372036854775807:=fun r hr=>by
  have h1:=qJ.1;obtain⟨i,hi,rfl⟩:=bJ0 hr;have h2:wfR (g.map Co):=by simp only[Dq]at h1;exact h1.2.2
  have h3:=aH h2 (aD0 hi);simp only[Co,Gj]at h3;exact TS h3.2.1
 clear qJ;simp only[Ak,List.nil_append]
 (refine Au Aa Aa Aa ?_;intros;refine Ae ?_)
 refine Af (X:={i:Nat//i<=g.length}) (fun i=>⟨[(0,Az g),(1,.int .i64 k),(5,.omp 10 1),(11,Az g),(12,.int .i64 g.length),(13,.int .i64 i.1)],[⟨10,1,dCM (Tp (AW k (g.take i.1)))⟩]⟩) (fun i=>g.length-i.1) ⟨0,by omega⟩ (Sub.lit (by simp[AW,Tp,CR,EV])) ?_;rintro⟨i,hi⟩;simp only
 by_cases qV:i<g.length
 ·obtain⟨r,hr,qC,bP⟩:=Ai qV;have qH:=SB (k:=k) hr;have bR:=rM r bP;obtain⟨N,hN⟩:∃N,N=AW k (g.take i):=⟨_,rfl⟩;rw[<-hN]at qH |-
  (refine Au Aa Aa (CG @Co.eq_1 qV hr qC) ?_;intros;refine Ae ?_)
  refine Af (X:={j:Nat//j<=r.b.length}) (fun j=>⟨[(0,Az g),(1,.int .i64 k),(5,.omp 10 1),(11,Az g),(12,.int .i64 g.length),(13,.int .i64 i),(18,Bl r.b),(19,.int .i64 r.b.length),(20,.int .i64 j.1)],[⟨10,1,dCM (Tp (N++De k (r.b.take j.1)))⟩]⟩) (fun j=>r.b.length-j.1) ⟨0,by omega⟩ (Sub.lit (by simp[De])) ?_;rintro⟨j,hj⟩;simp only
  by_cases qW:j<r.b.length
  ·obtain⟨x,hx,qU,wA⟩:=Ai qW;have htj:=SA (k:=k) hx;obtain⟨E,hE⟩:∃E,E=N++De k (r.b.take j):=⟨_,rfl⟩;have rN:N++De k (r.b.take (j+1))=E++(if x.k=k then [x.s]else []):=by rw[htj,hE,aR0]
   rw[<-hE]
   by_cases hk:x.k=k
   ·rw[if_pos hk]at rN;have qD:=Mi_ E x.s;have qL:=GY_ E;obtain⟨⟨Ks,V⟩,hm⟩:∃m,m=Tp E:=⟨_,rfl⟩;rw[<-hm]at qD qL |-;have vH:=Li Ks;unfold WV at qD;simp only at qD
    by_cases hs:x.s∈Ks
    ·rw[if_pos hs]at qD;have l1:=VA hs;have l3:LR Ks x.s<V.length:=by have:=ME hs;have:=qL.len;simp only at this;omega
     have v1:(EV V)[LR Ks x.s]? =some (.int .i64 (V.getD (LR Ks x.s) 0)):=by simp[EV,l3]
     obtain⟨q,hq⟩:∃q,q=IntKind.i64.wrap (V.getD (LR Ks x.s) 0+1):=⟨_,rfl⟩;have wH:IntKind.i64.wrap (V.getD (LR Ks x.s) 0+1)=q:=hq.symm;rw[wH]at qD;obtain⟨c,wU⟩:∃c,c=V.getD (LR Ks x.s) 0:=⟨_,rfl⟩;rw[<-wU]at v1 wH;have st1:=NB V (LR Ks x.s) q;obtain⟨ix,hix⟩:∃ix,ix=LR Ks x.s:=⟨_,rfl⟩;rw[<-hix]at l1 v1 st1 qD
     (refine Au Aa Aa (Hn @BS.eq_1 qW hx qU hk vH l1 v1 wH st1) ?_;intros;refine Ae ?_)
     refine Ag.mk ⟨j+1,by omega⟩ (Sub.lit (by simp only[rN,qD];simp)) (by simp;omega)
     skip
    ·rw[if_neg hs]at qD;have l1:=DR hs;have st1:=ND V 1;have sk1:=Nk Ks x.s
     (refine Au Aa Aa (OD @BS.eq_1 qW hx qU hk vH l1 st1 sk1) ?_;intros;refine Ae ?_)
     refine Ag.mk ⟨j+1,by omega⟩ (Sub.lit (by simp only[rN,qD];simp)) (by simp;omega)
     skip
   ·have zO:(x.k==k)=false:=by simpa using hk
    rw[if_neg hk,bM0]at rN
    (refine Au Aa Aa (EB @BS.eq_1 qW hx qU hk zO) ?_;intros;refine Ae ?_)
    refine Ag.mk ⟨j+1,by omega⟩ (Sub.lit (by simp only[rN];simp)) (by simp;omega)
    skip
  ·have qY:j=r.b.length:=by omega
   subst qY;rw[aN0]
   (refine Au Aa Aa Aa ?_;intros;refine Ae ?_)
   refine Ag.mk ⟨i+1,by omega⟩ (Sub.lit (by simp only[qH];simp)) (by simp;omega)
   skip
 ·have qY:i=g.length:=by omega
  subst qY;rw[aN0];exact Al Aa Aa Aa
def IG_ (m:CM) (s:ByteArray):CM:=if s∈m.K then ⟨m.K.eraseIdx (LR m.K s),m.V.eraseIdx (LR m.K s)⟩else m
structure DelOk (m0 m:CM) (hs:List ByteArray):Prop where
 len:m.K.length=m.V.length
 mem:∀s,s∈m.K↔s∈m0.K/\¬s∈hs
 nd:m.K.Nodup
theorem LW_ {l:List ByteArray} (hn:l.Nodup) {s x:ByteArray} (hs:s∈l):x∈l.eraseIdx (LR l s)↔x∈l/\x≠s:=by
 have hi:=ME hs
 have hv:l[LR l s]=s:=by
  have:=List.findIdx_getElem (xs:=l) (p:=fun x=>s==x) (w:=hi);simp at this;exact this.symm
 rw[List.mem_eraseIdx_iff_getElem]
 constructor
 ·rintro⟨i,jU,qK,rfl⟩;refine⟨cY0 jU,fun e=>qK ?_⟩;exact(List.getElem_inj hn).1 (e.trans hv.symm)
 ·rintro⟨hx,qK⟩;obtain⟨i,jU,rfl⟩:=bJ0 hx;refine⟨i,jU,fun e=>qK ?_,rfl⟩;subst e;exact hv
theorem DelOk.step {m0 m:CM} {hs:List ByteArray} (h:DelOk m0 m hs) (s:ByteArray):DelOk m0 (IG_ m s) (hs++[s]):=by
 unfold IG_
 split
 ·rename_i hm;refine⟨?_,fun x=> ?_,h.nd.sublist (List.eraseIdx_sublist _ _)⟩
  ·have:=ME hm;rw[List.length_eraseIdx_of_lt this,List.length_eraseIdx_of_lt (by have:=h.len;omega),h.len]
  ·simp only;rw[LW_ h.nd hm,h.mem x,aI0,aG0]
   constructor
   ·rintro⟨⟨a,b⟩,c⟩;exact⟨a,fun hh=>by rcases hh with hh | hh;exact b hh;exact c hh⟩
   ·rintro⟨a,b⟩;exact⟨⟨a,fun hh=>b (.inl hh)⟩,fun hh=>b (.inr hh)⟩
 ·rename_i hm;refine⟨h.len,fun x=> ?_,h.nd⟩;rw[h.mem x,aI0,aG0]
  constructor
  ·rintro⟨a,b⟩;exact⟨a,fun hh=>by rcases hh with hh | hh;exact b hh;subst hh;exact hm ((h.mem x).2 ⟨a,b⟩)⟩
  ·rintro⟨a,b⟩;exact⟨a,fun hh=>b (.inl hh)⟩
theorem Bb_ (V:List Int) (j:Nat):(EV V).eraseIdx j=EV (V.eraseIdx j):=by unfold EV;rw[Kh]
theorem uY (V:List ByteArray) (j:Nat):(CR V).eraseIdx j=CR (V.eraseIdx j):=by unfold CR;rw[Kh]
def EI_ : Ann:=⟨[7],[⟨4,[5],[],[]⟩]⟩
theorem LD (g:List Rul) (hn:(AW 2 g).length<=9223372036854775807):Ac prog 234 [Az g] (.int .i64 (DK g).length):=by
 refine Ab [] EI_ func234 call234 ntmps234 mxd (Ap @EI_.eq_1 results234) rfl (fun qJ B qX qQ=> ?_);have rQ:=Mz qJ.1;clear qJ;simp only[Ak];have e1:=Oo g 2;have qL:=GY_ (AW 2 g);obtain⟨m0,gU⟩:∃m,m=Tp (AW 2 g):=⟨_,rfl⟩;rw[<-gU]at e1 qL
 (refine Au Aa (Aq (DF [] [(7,0)] e1)) Aa ?_;intros;refine Ae ?_)
 refine Af (X:={x:Nat×CM//x.1<=g.length/\DelOk m0 x.2 ((g.take x.1).map (·.h))}) (fun x=>⟨[(0,Az g),(3,.omp 7 1),(8,Az g),(9,.int .i64 g.length),(10,.int .i64 x.1.1)],[⟨7,1,dCM x.1.2⟩]⟩) (fun x=>g.length-x.1.1) ⟨(0,m0),by simp,by simpa using qL.len,by simp,qL.nd⟩ (Sub.lit (by simp)) ?_;rintro⟨⟨i,m⟩,hi,hD⟩;simp only at hi hD |-
 by_cases qV:i<g.length
 ·obtain⟨r,hr,qC,bP⟩:=Ai qV
  have sM:DelOk m0 (IG_ m r.h) ((g.take (i+1)).map (·.h)):=by
   have:=hD.step r.h;rw[bD0,hr,aX0];exact this
  obtain⟨Ks,V⟩:=m;have vH:=Li Ks;unfold IG_ at sM;simp only at sM
  by_cases hs:r.h∈Ks
  ·rw[if_pos hs]at sM;have l1:=VA hs;have s1:=uY Ks (LR Ks r.h);have s2:=Bb_ V (LR Ks r.h)
   (refine Au Aa Aa (Hn @Co.eq_1 qV hr qC vH l1 @Ws.eq_1 @Wr.eq_1 s1 s2) ?_;intros;refine Ae ?_)
   refine Ag.mk ⟨(i+1,_),show i+1<=g.length/\_ from ⟨by omega,sM⟩⟩ (Sub.lit (by simp)) (by simp;omega)
   skip
  ·rw[if_neg hs]at sM;have l1:=DR hs
   (refine Au Aa Aa (Ji @Co.eq_1 qV hr qC vH l1 @Ws.eq_1 @Wr.eq_1) ?_;intros;refine Ae ?_)
   refine Ag.mk ⟨(i+1,_),show i+1<=g.length/\_ from ⟨by omega,sM⟩⟩ (Sub.lit (by simp)) (by simp;omega)
   skip
 ·have qY:i=g.length:=by omega
  subst qY;rw[aN0]at hD
  have yC:m.K.length=(DK g).length:=Oz_ hD.nd fun s=>by
   rw[hD.mem s,qL.mem s,VU];simp
  have hsl:=Ky_ m.K;rw[yC]at hsl;have vS:(DK g).length<=9223372036854775807:=Nat.le_trans (Nat.le_trans (cG0 _ _) (Gu _)) hn;obtain⟨Ks,V⟩:=m;exact Al Aa Aa (Ap hsl vS)
def Cj_ : Ann:=⟨[],[]⟩
theorem JF (k c:Int) (hk:k=2/\c=85\/k=3/\c=76) (s:ByteArray):Ac prog 129 [.str s,.int .u8 c] (.bool (EC k s)):=by
 refine Ab [] Cj_ func129 call129 ntmps129 mxd (Ap @Cj_.eq_1 results129) rfl (fun qJ B qX qQ=> ?_);have qM:s.size<=9223372036854775807:=by have:=qJ.1;simp only[Dq,maxLen]at this;omega
 clear qJ;simp only[Ak];obtain⟨R,hR⟩:∃R,R=EC k s:=⟨_,rfl⟩;rw[<-hR];unfold EC at hR
 by_cases h1:1<=s.size
 ·by_cases h2:s.size<=16
  ·have g1:¬(s.size:Int)<1:=by omega
   have g2:¬(16:Int)<s.size:=by omega
   have g0:0<s.size:=by omega
   obtain⟨b0,wJ,bG,_⟩:=Ai (show 0<s.data.toList.length by rw[BH];omega)
   (refine Au Aa Aa (Dx g0 g1 g2 h1 h2) ?_;intros;refine Ae ?_)
   refine Af (X:={k:Nat//k<=s.size/\lH s=((s.data.toList.drop k).all fun b=>FI (b.toNat:Int))}) (fun k=>⟨[(0,.str s),(1,.int .u8 c),(5,.int .i64 k.1)],[]⟩) (fun k=>s.size-k.1) ⟨0,by simp[lH]⟩ (Sub.lit (by simp)) ?_;rintro⟨j,hj,hl⟩
   by_cases qV:j<s.size
   ·obtain⟨b,hb,qG,_⟩:=Ai (show j<s.data.toList.length by rw[BH];exact qV);rw[aP0 (by rw[BH];exact qV),qG,cX0]at hl;have e1:=Ya (b.toNat:Int);cases hL:FI (b.toNat:Int)
    ·rw[hL]at e1 hl;have wX:R=false:=by rw[hR];unfold AX;rw[hl];simp
     subst wX;exact Al (Aq e1) Aa (BC qV hb qG)
    ·rw[hL]at e1 hl;simp only[bO0]at hl
     (refine Au (Aq e1) Aa (BC qV hb qG) ?_;intros;refine Ae ?_)
     refine Ag.mk ⟨j+1,by omega,hl⟩ (Sub.lit (by simp)) (by simp;omega)
     skip
   ·have qY:j=s.size:=by omega
    subst qY;rw[<-BH,bE0]at hl;have hN:AX s=true:=by unfold AX;rw[hl];simp[h1,h2]
    rw[hN]at hR;simp only[Bf_ wJ,bO0]at hR;have e1:=Me (b0.toNat:Int);have e2:=Mj (b0.toNat:Int)
    rcases hk with ⟨rfl,rfl⟩ | ⟨rfl,rfl⟩
    ·simp only[if_true]at hR;rw[<-hR]at e1;cases R
     ·exact Al (Ap e1 e2) Aa (BC g0 wJ bG)
     ·exact Al (Ap e1 e2) Aa (BC g0 wJ bG)
    ·simp only[show ¬(3:Int)=2 by omega,if_false]at hR;rw[<-hR]at e2;cases R
     ·exact Al (Ap e1 e2) Aa (BC g0 wJ bG)
     ·exact Al (Ap e1 e2) Aa (BC g0 wJ bG)
  ·have g1:¬(s.size:Int)<1:=by omega
   have g2:(16:Int)<s.size:=by omega
   have wX:R=false:=by rw[hR];unfold AX;simp[h2]
   subst wX;exact Al Aa Aa (CG g1 g2 h1 h2)
 ·have g1:(s.size:Int)<1:=by omega
  have wX:R=false:=by rw[hR];unfold AX;simp[h1]
  subst wX;exact Al Aa Aa (Ap g1 h1)
def DB_ : Ann:=⟨[],[]⟩
theorem Lq_ (x:Nd):Ac prog 294 [.agg (BS x)] (.bool (Fe x)):=by
 refine Ab [] DB_ func294 call294 ntmps294 mxd (Ap @DB_.eq_1 results294) rfl (fun qJ B qX qQ=> ?_);simp only[Ak];have e1:=JF 2 85 (.inl ⟨rfl,rfl⟩) x.s;have e2:=JF 3 76 (.inr ⟨rfl,rfl⟩) x.s;rw[show EC 2 x.s=(AX x.s&&LJ upI x.s) from rfl]at e1;rw[show EC 3 x.s=(AX x.s&&LJ loI x.s) from rfl]at e2;unfold Fe emp
 by_cases k1:x.k=1
 ·exact Al Aa Aa (BC @BS.eq_1 @Bj k1)
 by_cases k2:x.k=2
 ·obtain⟨b,hb⟩:∃b,b=(AX x.s&&LJ upI x.s):=⟨_,rfl⟩;rw[<-hb]at e1 |-;clear hb;cases b<;>exact Al (Aq e1) Aa (CG @BS.eq_1 @Bj k1 k2)
 by_cases k3:x.k=3
 ·obtain⟨b,hb⟩:∃b,b=(AX x.s&&LJ loI x.s):=⟨_,rfl⟩;rw[<-hb]at e2 |-;clear hb;cases b<;>exact Al (Aq e2) Aa (Dx @BS.eq_1 @Bj k1 k2 k3)
 by_cases k4:x.k=4
 ·exact Al Aa Aa (EB @BS.eq_1 @Bj k1 k2 k3 k4)
 by_cases k5:x.k=5
 ·exact Al Aa Aa (Ez @BS.eq_1 @Bj k1 k2 k3 k4 k5)
 by_cases k6:x.k=6
 ·exact Al Aa Aa (Ji @BS.eq_1 @Bj k1 k2 k3 k4 k5 k6)
 by_cases k7:x.k=7
 ·exact Al Aa Aa (OD @BS.eq_1 @Bj k1 k2 k3 k4 k5 k6 k7)
 by_cases k8:x.k=8
 ·exact Al Aa Aa (Hn @BS.eq_1 @Bj k1 k2 k3 k4 k5 k6 k7 k8)
 exact Al Aa Aa (Hn @BS.eq_1 @Bj k1 k2 k3 k4 k5 k6 k7 k8)
def GM_ (l:List Nd) (p:Nat):Int:=match Gm (l.drop p) 1 with
 | some r=>(l.length:Int)-r.length
 | none=> -1
def DC_ : Ann:=⟨[],[]⟩
theorem MS (l:List Nd) (p:Nat) (hs:l.length<=1572864) (hp:p<=l.length):Ac prog 202 [Bl l,.int .i64 p] (.int .i64 (GM_ l p)):=by
 refine Ab [] DC_ func202 call202 ntmps202 mxd (Ap @DC_.eq_1 results202) rfl (fun qJ B qX qQ=> ?_);clear qJ;simp only[Ak];obtain⟨R,hR⟩:∃R,R=GM_ l p:=⟨_,rfl⟩;rw[<-hR];unfold GM_ at hR;obtain⟨E,hE⟩:∃E,E=Gm (l.drop p) 1:=⟨_,rfl⟩;rw[<-hE]at hR
 (refine Au Aa Aa Aa ?_;intros;refine Ae ?_)
 refine Af (X:={q:Nat×Nat//q.1<=l.length/\Gm (l.drop q.1) q.2=E/\q.2<=1+q.1*1572864}) (fun q=>⟨[(0,Bl l),(1,.int .i64 q.1.1),(5,.int .i64 q.1.2)],[]⟩) (fun q=>l.length+1-q.1.1) ⟨(p,1),hp,hE.symm,by simp only;omega⟩ (Sub.lit (by simp)) ?_;clear hE;rintro⟨⟨k,w⟩,hk,hw,rM⟩;simp only at hk hw rM |-
 cases w with
 | zero =>
  rw[Dj]at hw;rw[<-hw]at hR;simp only[cD0]at hR;have vP:R=k:=by omega
  subst vP;exact Al Aa Aa Aa
 | succ v =>
  have hv:(0:Int)<(v:Int)+1:=by omega
  by_cases qV:k<l.length
  ·obtain⟨x,hx,qU,_⟩:=Ai qV;rw[aP0 qV,qU]at hw;have e1:=Lq_ x;simp only[BS]at e1;have kX:¬l.length<=k:=by omega
   cases hm:Fe x
   ·rw[hm]at e1;rw[EO,hm]at hw;simp only[aK0,if_false]at hw;rw[<-hw]at hR;simp only at hR;subst hR;exact Al (Aq e1) Aa (EB @BS.eq_1 qV kX hx qU hv)
   ·rw[hm]at e1;have vT:=Kg hm;obtain⟨c,kJ⟩:∃c:Nat,x.n=(c:Int):=⟨x.n.toNat,by omega⟩;rw[kJ]at e1;rw[EO,if_pos hm,kJ,cI0]at hw
    by_cases kS:l.length<c
    ·have jK:(l.length:Int)<(c:Int):=by omega
     rw[Wn _ _ (by rw[cD0];omega)]at hw;rw[<-hw]at hR;simp only at hR;subst hR;exact Al (Aq e1) Aa (OD @BS.eq_1 qV kX hx qU hv kJ kS jK)
    ·have jK:¬(l.length:Int)<(c:Int):=by omega
     have q1:IntKind.i64.wrap ((v:Int))=(v:Int):=wq;have q2:IntKind.i64.wrap ((v:Int)+(c:Int))=(v:Int)+(c:Int):=wq
     (refine Au (Aq e1) Aa (Hm @BS.eq_1 qV kX hx qU hv kJ kS jK q1 q2) ?_;intros;refine Ae ?_)
     refine Ag.mk ⟨(k+1,v+c),show k+1<=l.length/\Gm (l.drop (k+1)) (v+c)=E/\v+c<=1+(k+1)*1572864 from ⟨by omega,hw,by omega⟩⟩ (Sub.lit (by simp)) (by simp;omega)
     skip
  ·have kX:l.length<=k:=by omega
   rw[cU0 kX,Ku]at hw;rw[<-hw]at hR;simp only at hR;subst hR;exact Al Aa Aa (Ap hv kX)
def DD_ : Ann:=⟨[],[]⟩
theorem FZ (l:List Nd) (hs:l.length<=1572864):Ac prog 130 [Bl l] (.bool (Ei l)):=by
 refine Ab [] DD_ func130 call130 ntmps130 mxd (Ap @DD_.eq_1 results130) rfl (fun qJ B qX qQ=> ?_);clear qJ;simp only[Ak];have e1:=MS l 0 hs (by omega);unfold GM_ at e1;unfold Ei;rw[eQ0]at e1
 by_cases h0:0<l.length
 ·cases hE:Gm l 1 with
  | none =>
   rw[hE]at e1;have qK:((-1:Int)==(l.length:Int))=false:=by simp
   exact Al (Aq e1) Aa (Ap h0 qK)
  | some r =>
   rw[hE]at e1
   cases r with
   | nil =>
    simp only[List.length_nil,Int.natCast_zero,Int.sub_zero]at e1;exact Al (Aq e1) Aa (Aq h0)
   | cons y r =>
    have qK:(((l.length:Int)-((y::r).length:Int))==(l.length:Int))=false:=by simp;omega
    obtain⟨e,he⟩:∃e:Int,e=(l.length:Int)-((y::r).length:Int):=⟨_,rfl⟩;rw[<-he]at qK;have e3:Ac prog 202 [Bl l,.int .i64 0] (.int .i64 e):=by rw[he];exact e1
    exact Al (Aq e3) Aa (Ap h0 qK)
 ·have hl:l=[]:=bP0 (by omega);subst hl;rw[Ku];exact Al Aa Aa Aa
end Go.Proofs.Wy
end
