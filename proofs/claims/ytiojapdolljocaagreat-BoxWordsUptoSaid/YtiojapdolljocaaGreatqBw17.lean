/- Parts of a proof, laid together: BW0, RX1, EnW. -/
import Derived.Test.YtiojapdolljocaaGreatqBw15
import Derived.Test.YtiojapdolljocaaGreatqBw16
set_option linter.unusedSimpArgs false
set_option maxHeartbeats 8000000
set_option linter.unusedVariables false
set_option linter.unusedSectionVars false
section
namespace Go.Proofs.Wy
open Go Go.Dm Tryz
variable [DMode]
structure Prt where
 e:Bool
 F:List Nat
 L:List Nat
 E:List (Nat×Nat)
def OH (E:List (Nat×Nat)):Nat->List Nat->Prop
 | _,[]=>True
 | p,q::w=>(p,q)∈E/\OH E q w
def RZ : Nat->List Nat->Nat
 | p,[]=>p
 | _,q::w=>RZ q w
def Cr_ (x:Prt) (w:List Nat):Prop:=∃p r,w=p::r/\p∈x.F/\OH x.E p r/\RZ p r∈x.L
def Nx (x:Prt) (w:List Nat):Prop:=(w=[]/\x.e=true)\/Cr_ x w
theorem OW (p:Nat):∀(a:List Nat) (q:Nat) (b:List Nat),RZ p (a++q::b)=RZ q b
 | [],_,_=>rfl
 | x::a,q,b=>OW x a q b
theorem Vz {E:List (Nat×Nat)}:∀{a:List Nat} {p q:Nat} {b:List Nat},OH E p a->(RZ p a,q)∈E->OH E q b->OH E p (a++q::b)
 | [],p,q,b,_,h2,h3=>⟨h2,h3⟩
 | x::a,p,q,b,h1,h2,h3=>⟨h1.1,Vz (a:=a) h1.2 h2 h3⟩
theorem EE {E E':List (Nat×Nat)} (h:∀x∈E,x∈E'):∀{a:List Nat} {p:Nat},OH E p a->OH E' p a
 | [],_,_=>trivial
 | x::a,p,hc=>⟨h _ hc.1,EE h (a:=a) hc.2⟩
structure PrIn (x:Prt) (lo hi:Nat):Prop where
 F:∀p∈x.F,lo<=p/\p<hi
 L:∀p∈x.L,lo<=p/\p<hi
 E:∀p∈x.E,(lo<=p.1/\p.1<hi)/\lo<=p.2/\p.2<hi
def Kr (a b:Prt):Prt:=⟨a.e||b.e,a.F++b.F,a.L++b.L,a.E++b.E⟩
def PV (a b:Prt):Prt:=⟨a.e&&b.e,a.F++(if a.e=true then b.F else []),b.L++(if b.e=true then a.L else []),a.E++(b.E++BH a.L b.F)⟩
def KJ (a:Prt):Prt:=⟨a.e,a.F,a.L,a.E++BH a.L a.F⟩
theorem Nw {x:Prt} {lo hi:Nat} (h:PrIn x lo hi):∀{r:List Nat} {p:Nat},OH x.E p r->lo<=p->p<hi->lo<=RZ p r/\RZ p r<hi
 | [],p,_,h1,h2=>⟨h1,h2⟩
 | q::r,p,hc,_,_=>Nw h (r:=r) hc.2 (h.E _ hc.1).2.1 (h.E _ hc.1).2.2
theorem Ze {A B:Prt} {lo m hi:Nat} (hA:PrIn A lo m) (hB:PrIn B m hi):∀{r:List Nat} {p:Nat},OH (A.E++B.E) p r->p<m->OH A.E p r
 | [],_,_,_=>trivial
 | q::r,p,hc,hp=>by
  have h1:(p,q)∈A.E:=by
   rcases aC0.1 hc.1 with h | h
   ·exact h
   ·have:=(hB.E _ h).1.1;simp only at this;omega
  exact⟨h1,Ze hA hB (r:=r) hc.2 (hA.E _ h1).2.2⟩
theorem JY {A B:Prt} {lo m hi:Nat} (hA:PrIn A lo m) (hB:PrIn B m hi) {J:List (Nat×Nat)} (hJ:∀x∈J,x.1<m):∀{r:List Nat} {p:Nat},OH (A.E++(B.E++J)) p r->m<=p->OH B.E p r
 | [],_,_,_=>trivial
 | q::r,p,hc,hp=>by
  have h1:(p,q)∈B.E:=by
   rcases aC0.1 hc.1 with h | h
   ·have:=(hA.E _ h).1.2;simp only at this;omega
   ·rcases aC0.1 h with h | h
    ·exact h
    ·have:=hJ _ h;simp only at this;omega
  exact⟨h1,JY hA hB hJ (r:=r) hc.2 (hB.E _ h1).2.1⟩
theorem oY {A B:Prt} {lo m hi:Nat} (hA:PrIn A lo m) (hB:PrIn B m hi) (w:List Nat):Nx (Kr A B) w↔Nx A w\/Nx B w:=by
 have hmA:∀x∈A.E,x∈A.E++B.E:=fun _ h=>aH0 _ h
 have hmB:∀x∈B.E,x∈A.E++B.E:=fun _ h=>aJ0 _ h
 constructor
 ·rintro (⟨rfl,h⟩ | ⟨p,r,rfl,h1,h2,h3⟩)
  ·simp only[Kr,cO0]at h;exact h.imp (fun h=> .inl ⟨rfl,h⟩) fun h=> .inl ⟨rfl,h⟩
  ·simp only[Kr]at h1 h2 h3
   rcases aC0.1 h1 with h1 | h1
   ·have hp:=hA.F p h1;have h4:=Ze hA hB h2 hp.2;have h5:=Nw hA h4 hp.1 hp.2
    rcases aC0.1 h3 with h3 | h3
    ·exact .inl (.inr ⟨p,r,rfl,h1,h4,h3⟩)
    ·have:=(hB.L _ h3).1;omega
   ·have hp:=hB.F p h1;have h4:=JY (J:=[]) hA hB (by simp) (by simpa using h2) hp.1;have h5:=Nw hB h4 hp.1 hp.2
    rcases aC0.1 h3 with h3 | h3
    ·have:=(hA.L _ h3).2;omega
    ·exact .inr (.inr ⟨p,r,rfl,h1,h4,h3⟩)
 ·rintro ((⟨rfl,h⟩ | ⟨p,r,rfl,h1,h2,h3⟩) | (⟨rfl,h⟩ | ⟨p,r,rfl,h1,h2,h3⟩))
  ·exact .inl ⟨rfl,by simp[Kr,h]⟩
  ·exact .inr ⟨p,r,rfl,aH0 _ h1,EE hmA h2,aH0 _ h3⟩
  ·exact .inl ⟨rfl,by simp[Kr,h]⟩
  ·exact .inr ⟨p,r,rfl,aJ0 _ h1,EE hmB h2,aJ0 _ h3⟩
theorem pJ {A B:Prt} {lo m hi:Nat} (hA:PrIn A lo m) (hB:PrIn B m hi):∀{r:List Nat} {p:Nat},OH (A.E++(B.E++BH A.L B.F)) p r->lo<=p->p<m ->
  (OH A.E p r/\RZ p r<m)\/∃r1 q r2,r=r1++q::r2/\OH A.E p r1/\RZ p r1∈A.L/\q∈B.F/\OH B.E q r2/\m<=RZ q r2
 | [],p,_,_,hp=> .inl ⟨trivial,hp⟩
 | q::r,p,hc,hlo,hp=>by
  rcases aC0.1 hc.1 with h | h
  ·have h1:=hA.E _ h
   rcases pJ hA hB (r:=r) hc.2 h1.2.1 h1.2.2 with ⟨h2,h3⟩ | ⟨r1,q',r2,rfl,h2,h3,h4,h5,h6⟩
   ·exact .inl ⟨⟨h,h2⟩,h3⟩
   ·exact .inr ⟨q::r1,q',r2,rfl,⟨h,h2⟩,h3,h4,h5,h6⟩
  ·rcases aC0.1 h with h | h
   ·have:=(hB.E _ h).1.1;simp only at this;omega
   ·obtain⟨h1,h2⟩:=Cl.1 h;have h3:=hB.F q h2;have h4:=JY hA hB (fun x hx=>by obtain⟨a,b⟩:=x;have:=hA.L _ (Cl.1 hx).1;simp only;omega) hc.2 h3.1;exact .inr ⟨[],q,r,rfl,trivial,h1,h2,h4,(Nw hB h4 h3.1 h3.2).1⟩
theorem DD_ {A B:Prt} {lo m hi:Nat} (hA:PrIn A lo m) (hB:PrIn B m hi) (w:List Nat):Nx (PV A B) w↔∃w1 w2,w=w1++w2/\Nx A w1/\Nx B w2:=by
 have hmA:∀x∈A.E,x∈A.E++(B.E++BH A.L B.F):=fun _ h=>aH0 _ h
 have hmB:∀x∈B.E,x∈A.E++(B.E++BH A.L B.F):=fun _ h=>aJ0 _ (aH0 _ h)
 constructor
 ·rintro (⟨rfl,h⟩ | ⟨p,r,rfl,h1,h2,h3⟩)
  ·simp only[PV,aM0]at h;exact⟨[],[],rfl,.inl ⟨rfl,h.1⟩,.inl ⟨rfl,h.2⟩⟩
  ·simp only[PV]at h1 h2 h3
   rcases aC0.1 h1 with h1 | h1
   ·have hp:=hA.F p h1
    rcases pJ hA hB h2 hp.1 hp.2 with ⟨h4,h5⟩ | ⟨r1,q,r2,rfl,h4,h5,h6,h7,h8⟩
    ·rcases aC0.1 h3 with h3 | h3
     ·have:=(hB.L _ h3).1;omega
     ·split at h3
      ·rename_i he;exact⟨p::r,[],by simp,.inr ⟨p,r,rfl,h1,h4,h3⟩,.inl ⟨rfl,he⟩⟩
      ·cases h3
    ·rw[OW]at h3
     rcases aC0.1 h3 with h3 | h3
     ·exact⟨p::r1,q::r2,rfl,.inr ⟨p,r1,rfl,h1,h4,h5⟩,.inr ⟨q,r2,rfl,h6,h7,h3⟩⟩
     ·split at h3
      ·have:=(hA.L _ h3).2;omega
      ·cases h3
   ·split at h1
    ·rename_i he;have hp:=hB.F p h1;have h4:=JY hA hB (fun x hx=>by obtain⟨a,b⟩:=x;have:=hA.L _ (Cl.1 hx).1;simp only;omega) h2 hp.1;have h5:=Nw hB h4 hp.1 hp.2;refine⟨[],p::r,rfl,.inl ⟨rfl,he⟩,.inr ⟨p,r,rfl,h1,h4,?_⟩⟩
     rcases aC0.1 h3 with h3 | h3
     ·exact h3
     ·split at h3
      ·have:=(hA.L _ h3).2;omega
      ·cases h3
    ·cases h1
 ·rintro⟨w1,w2,rfl,(⟨rfl,h⟩ | ⟨p,r,rfl,h1,h2,h3⟩),(⟨rfl,h'⟩ | ⟨q,s,rfl,yG,kW,h3'⟩)⟩
  ·exact .inl ⟨rfl,by simp[PV,h,h']⟩
  ·exact .inr ⟨q,s,rfl,aJ0 _ (by rw[if_pos h];exact yG),EE hmB kW,aH0 _ h3'⟩
  ·exact .inr ⟨p,r,by simp,aH0 _ h1,EE hmA h2,aJ0 _ (by rw[if_pos h'];exact h3)⟩
  ·refine .inr ⟨p,r++q::s,rfl,aH0 _ h1,Vz (EE hmA h2) ?_ (EE hmB kW),aH0 _ (by rw[OW];exact h3')⟩;exact aJ0 _ (aJ0 _ (Cl.2 ⟨h3,yG⟩))
def Rt {α:Type} (T:List α->Prop) (w:List α):Prop:=∃ws:List (List α),(∀u∈ws,T u)/\w=ws.flatten
theorem RE {A:Prt}:∀{r:List Nat} {p:Nat},OH (A.E++BH A.L A.F) p r->RZ p r∈A.L->∃(r1:List Nat) (ws:List (List Nat)),r=r1++ws.flatten/\OH A.E p r1/\RZ p r1∈A.L/\∀u∈ws,Cr_ A u
 | [],p,_,hl=>⟨[],[],rfl,trivial,hl,by simp⟩
 | q::r,p,hc,hl=>by
  obtain⟨r1,ws,rfl,h2,h3,h4⟩:=RE (r:=r) hc.2 hl
  rcases aC0.1 hc.1 with h | h
  ·exact⟨q::r1,ws,rfl,⟨h,h2⟩,h3,h4⟩
  ·obtain⟨h5,h6⟩:=Cl.1 h;refine⟨[],(q::r1)::ws,rfl,trivial,h5,fun u hu=> ?_⟩
   rcases aL0.1 hu with rfl | hu
   ·exact⟨q,r1,rfl,h6,h2,h3⟩
   ·exact h4 u hu
theorem Ui {A:Prt}:∀(ws:List (List Nat)) (w:List Nat),(∀u∈ws,Nx A u)->w=ws.flatten->w=[]\/Cr_ (KJ A) w
 | [],w,_,h=> .inl h
 | u::ws,w,h,hw=>by
  have hm:∀x∈A.E,x∈A.E++BH A.L A.F:=fun _ h=>aH0 _ h
  have ih:=Ui ws ws.flatten (fun v hv=>h v (aI0 _ hv)) rfl;rw[cZ0]at hw
  rcases h u aK0 with ⟨rfl,_⟩ | ⟨p,r,rfl,h1,h2,h3⟩
  ·rw[List.nil_append]at hw;rw[hw];exact ih
  ·rcases ih with ih | ⟨q,s,ih,h4,h5,h6⟩
   ·rw[ih,bO0]at hw;exact .inr ⟨p,r,hw,h1,EE hm h2,h3⟩
   ·rw[ih]at hw;refine .inr ⟨p,r++q::s,hw,h1,Vz (EE hm h2) ?_ h5,by rw[OW];exact h6⟩;exact aJ0 _ (Cl.2 ⟨h3,h4⟩)
theorem uP {A:Prt} {w:List Nat}:Cr_ (KJ A) w->Rt (Nx A) w:=by
 rintro⟨p,r,rfl,h1,h2,h3⟩;obtain⟨r1,ws,rfl,h4,h5,h6⟩:=RE h2 h3;refine⟨(p::r1)::ws,fun u hu=> ?_,rfl⟩
 rcases aL0.1 hu with rfl | hu
 ·exact .inr ⟨p,r1,rfl,h1,h4,h5⟩
 ·exact .inr (h6 u hu)
theorem BZ_ (A:Prt) (w:List Nat):Nx (KJ A) w↔∃u v,w=u++v/\Nx A u/\Rt (Nx A) v:=by
 constructor
 ·rintro (⟨rfl,h⟩ | ⟨p,r,rfl,h1,h2,h3⟩)
  ·exact⟨[],[],rfl,.inl ⟨rfl,h⟩,[],by simp,rfl⟩
  ·obtain⟨r1,ws,rfl,h4,h5,h6⟩:=RE h2 h3;exact⟨p::r1,ws.flatten,rfl,.inr ⟨p,r1,rfl,h1,h4,h5⟩,ws,fun u hu=> .inr (h6 u hu),rfl⟩
 ·rintro⟨u,v,rfl,h1,ws,h2,rfl⟩
  rcases Ui (u::ws) _ (by intro x hx;rcases aL0.1 hx with rfl | hx;exact h1;exact h2 x hx) rfl with h | h
  ·rw[cZ0]at h;rw[h];have hu:u=[]:=(List.append_eq_nil_iff.1 h).1
   rcases h1 with ⟨_,h1⟩ | ⟨p,r,h3,_⟩
   ·exact .inl ⟨rfl,h1⟩
   ·rw[hu]at h3;simp at h3
  ·exact .inr h
theorem BY_ (A:Prt) (w:List Nat):Nx { KJ A with e:=true } w↔Rt (Nx A) w:=by
 constructor
 ·rintro (⟨rfl,_⟩ | h)
  ·exact⟨[],by simp,rfl⟩
  ·exact uP h
 ·rintro⟨ws,h1,rfl⟩
  rcases Ui ws _ h1 rfl with h | h
  ·exact .inl ⟨h,rfl⟩
  ·exact .inr h
def PW (f:Nat->Nat) (x:Prt):Prt:=⟨x.e,x.F.map f,x.L.map f,x.E.map fun p=>(f p.1,f p.2)⟩
theorem Zd {f:Nat->Nat} {S:Nat->Prop} (hf:∀a b,S a->S b->f a=f b->a=b) {E:List (Nat×Nat)} (hE:∀p∈E,S p.1/\S p.2) :
  ∀{r:List Nat} {p:Nat},S p->OH (E.map fun p=>(f p.1,f p.2)) (f p) r->∃s,r=s.map f/\OH E p s/\S (RZ p s)/\RZ (f p) r=f (RZ p s)
 | [],p,hp,_=>⟨[],rfl,trivial,hp,rfl⟩
 | q::r,p,hp,hc=>by
  obtain⟨⟨a,b⟩,cT,he⟩:=aQ0.1 hc.1;simp only[_root_.Prod.mk.injEq]at he;obtain⟨h1,rfl⟩:=he;have hs:=hE _ cT;have:=hf a p hs.1 hp h1;subst this;obtain⟨s,rfl,h2,h3,h4⟩:=Zd hf hE (r:=r) hs.2 hc.2;exact⟨b::s,rfl,⟨cT,h2⟩,h3,h4⟩
theorem pL {f:Nat->Nat} {E:List (Nat×Nat)}:∀{r:List Nat} {p:Nat},OH E p r->OH (E.map fun p=>(f p.1,f p.2)) (f p) (r.map f)
 | [],_,_=>trivial
 | q::r,p,hc=>⟨aQ0.2 ⟨_,hc.1,rfl⟩,pL (r:=r) hc.2⟩
theorem lH (f:Nat->Nat):∀(r:List Nat) (p:Nat),RZ (f p) (r.map f)=f (RZ p r)
 | [],_=>rfl
 | q::r,_=>lH f r q
theorem DF_ {f:Nat->Nat} {S:Nat->Prop} (hf:∀a b,S a->S b->f a=f b->a=b) {x:Prt} (hE:∀p∈x.E,S p.1/\S p.2) (hF:∀p∈x.F,S p) (hL:∀p∈x.L,S p) (w:List Nat) :
  Nx (PW f x) w↔∃s,w=s.map f/\Nx x s:=by
 constructor
 ·rintro (⟨rfl,h⟩ | ⟨p,r,rfl,h1,h2,h3⟩)
  ·exact⟨[],rfl,.inl ⟨rfl,h⟩⟩
  ·obtain⟨a,ha,rfl⟩:=aQ0.1 h1;obtain⟨s,rfl,h4,h5,h6⟩:=Zd hf hE (hF a ha) h2;obtain⟨b,hb,hbe⟩:=aQ0.1 h3;rw[h6]at hbe;have:=hf b _ (hL b hb) h5 hbe;subst this;exact⟨a::s,rfl,.inr ⟨a,s,rfl,ha,h4,hb⟩⟩
 ·rintro⟨s,rfl,(⟨rfl,h⟩ | ⟨p,r,rfl,h1,h2,h3⟩)⟩
  ·exact .inl ⟨rfl,h⟩
  ·exact .inr ⟨f p,r.map f,rfl,aQ0.2 ⟨p,h1,rfl⟩,pL h2,by rw[lH];exact aQ0.2 ⟨_,h3,rfl⟩⟩
end Go.Proofs.Wy
end
section
namespace Go.Proofs.Wy
open Go Go.Dm Tryz
variable [DMode]
attribute [local irreducible] DW Bh Bk
set_option maxRecDepth 100000
theorem AO : (⟨#[]⟩:ByteArray).size=0:=rfl
def Yw : Ann:=⟨[],[]⟩
theorem sQ (x:Nd):Ag prog 156 [.agg (Bu x)] (.bool (CL x)):=by
 refine Ad [] Yw func156 call156 ntmps156 mxd (Az @Yw.eq_1 results156) rfl (fun qJ B qX qQ=> ?_);simp only[Ap];have e1:=EV 200 Sp Gz x.s;have e2:=EV 201 SQ GH x.s;unfold CL Zi
 by_cases k1:x.k=1
 ·exact AA Ac Ac (HB @Bu.eq_1 @AO k1)
 by_cases k2:x.k=2
 ·by_cases h0:x.n=0
  ·exact AA (AQ e1) Ac (Lj @Bu.eq_1 @AO k1 k2 h0)
  ·have vM:(x.n==0)=false:=by simpa using h0
   exact AA Ac Ac (Rp @Bu.eq_1 @AO k1 k2 h0 vM)
 by_cases k3:x.k=3
 ·by_cases h0:x.n=0
  ·exact AA (AQ e2) Ac (Rp @Bu.eq_1 @AO k1 k2 k3 h0)
  ·have vM:(x.n==0)=false:=by simpa using h0
   exact AA Ac Ac (OB @Bu.eq_1 @AO k1 k2 k3 h0 vM)
 by_cases k4:x.k=4
 ·exact AA Ac Ac (Rp @Bu.eq_1 @AO k1 k2 k3 k4)
 by_cases k5:x.k=5
 ·exact AA Ac Ac (OB @Bu.eq_1 @AO k1 k2 k3 k4 k5)
 by_cases k6:x.k=6
 ·exact AA Ac Ac (Np @Bu.eq_1 @AO k1 k2 k3 k4 k5 k6)
 by_cases k7:x.k=7
 ·exact AA Ac Ac (uN @Bu.eq_1 @AO k1 k2 k3 k4 k5 k6 k7)
 by_cases k8:x.k=8
 ·exact AA Ac Ac (Rq @Bu.eq_1 @AO k1 k2 k3 k4 k5 k6 k7 k8)
 exact AA Ac Ac (Rq @Bu.eq_1 @AO k1 k2 k3 k4 k5 k6 k7 k8)
def DP (r:List Nd) (w:Nat):Bool:=match EG r w with
 | some []=>true
 | _=>false
theorem TI (x:Nd) (r:List Nd):DP (x::r) 0=false:=by unfold DP;rw[Cn]
theorem Ll {r:List Nd} {w:Nat} (h:EG r w=none):DP r w=false:=by unfold DP;rw[h]
theorem TJ {x:Nd} {r:List Nd} {w:Nat} (h:CL x=true):DP (x::r) (w+1)=DP r (w+x.n.toNat):=by unfold DP;rw[Dz,if_pos h]
theorem VE (w:Nat):DP [] w=decide (w=0):=by
 unfold DP
 cases w with
 | zero=>rw[Cn];rfl
 | succ w=>rw[Hn];rfl
def Yx : Ann:=⟨[],[⟨4,[5],[],[]⟩]⟩
theorem Fv (l:List Nd) (hs:l.length<=1572864):Ag prog 103 [Bi l] (.bool (CY l)):=by
 refine Ad [] Yx func103 call103 ntmps103 mxd (Az @Yx.eq_1 results103) rfl (fun qJ B qX qQ=> ?_);clear qJ;simp only[Ap];obtain⟨R,hR⟩:∃R,R=CY l:=⟨_,rfl⟩;rw[<-hR];have vQ:DP l 1=R:=by rw[hR];rfl
 clear hR
 (refine Ba Ac Ac Ac ?_;intros;refine Al ?_)
 refine An (X:={p:Nat×Nat//p.1<=l.length/\DP (l.drop p.1) p.2=R/\p.2<=1+p.1*1572864/\(p.1=0->p.2=1)}) (fun p=>⟨[(0,Bi l),(3,.int .i64 p.1.2),(6,Bi l),(7,.int .i64 l.length),(8,.int .i64 p.1.1)],[]⟩) (fun p=>l.length-p.1.1) ⟨(0,1),by simp[vQ]⟩ (Sub.lit (by simp)) ?_;clear vQ;rintro⟨⟨k,w⟩,hk,hw,dI,hw0⟩;simp only at hk hw dI hw0 |-
 by_cases qV:k<l.length
 ·obtain⟨x,hx,qG,_⟩:=Ar qV;rw[aU0 qV,qG]at hw;have e1:=sQ x;simp only[Bu]at e1
  cases w with
  | zero =>
   rw[TI]at hw;subst hw;exact AA Ac Ac (JV @Bu.eq_1 qV hx qG)
  | succ v =>
   have hv:¬(v:Int)+1=0:=by omega
   have fX:(((v:Int)+1)==0)=false:=by simpa using hv
   cases hm:CL x
   ·rw[hm]at e1;rw[Ll (by rw[Dz,hm];rfl)]at hw;subst hw;exact AA (AQ e1) Ac (Rp @Bu.eq_1 qV hx qG hv fX)
   ·rw[hm]at e1;have zA:=GZ hm;obtain⟨c,yC⟩:∃c:Nat,x.n=(c:Int):=⟨x.n.toNat,by omega⟩;rw[yC]at e1;rw[TJ hm,yC,cB0]at hw
    by_cases jF:l.length<c
    ·have yA:(l.length:Int)<(c:Int):=by omega
     rw[Ll (QI _ _ (by rw[bZ0];omega))]at hw;subst hw;exact AA (AQ e1) Ac (uN @Bu.eq_1 qV hx qG hv fX yC jF yA)
    ·have yA:¬(l.length:Int)<(c:Int):=by omega
     have q1:IntKind.i64.wrap ((c:Int)-1)=(c:Int)-1:=wq;have q2:IntKind.i64.wrap ((v:Int)+1+((c:Int)-1))=(v:Int)+(c:Int):=by rw[wq];omega
     (refine Ba (AQ e1) Ac (Sm @Bu.eq_1 qV hx qG hv fX yC jF yA q1 q2) ?_;intros;refine Al ?_)
     refine Ak.mk ⟨(k+1,v+c),show k+1<=l.length/\DP (l.drop (k+1)) (v+c)=R/\v+c<=1+(k+1)*1572864/\(k+1=0->v+c=1) from ⟨by omega,hw,by omega,by omega⟩⟩ (Sub.lit (by simp)) (by simp;omega)
     skip
 ·have qN:k=l.length:=by omega
  subst qN;rw[cL0,VE]at hw
  cases w with
  | zero =>
   have yO:0<l.length:=by
    rcases Nat.eq_zero_or_pos l.length with h | h
    ·have:=hw0 h;omega
    ·exact h
   simp only[decide_true]at hw;subst hw;exact AA Ac Ac (AQ yO)
  | succ v =>
   have dK:R=false:=by rw[<-hw];simp
   subst dK;have hv:¬(v:Int)+1=0:=by omega
   have fX:(((v:Int)+1)==0)=false:=by simpa using hv
   exact AA Ac Ac (Az hv fX)
end Go.Proofs.Wy
end
section
namespace Go.Dm
variable [DMode]
theorem Au_ {cur:EF} {M:List Nat} {h:Array Obj} {l:Loc} {obj:DObj} (hk:Gy cur M h l obj):∀b∈l.blks,∀c,h[b]? ≠some (.deferred c):=by
 intro b hb c hc
 cases obj with
 | box cs =>
  obtain⟨b',arr,ty,h1,h2,_⟩:=hk;rw[h1]at hb;simp only[aG0]at hb;subst hb;rw[h2]at hc;simp at hc
 | row et k bs es =>
  obtain⟨_,⟨_,h1,_⟩ | ⟨b',arr,cap,h1,h2,h3,_⟩⟩:=hk
  ·rw[h1]at hb;cases hb
  ·rw[h1]at hb;simp only[aG0]at hb;subst hb;rw[h3]at hc;simp at hc
 | map ks vs =>
  obtain⟨b',es,clk,h1,h2,_⟩:=hk;rw[h1]at hb;simp only[aG0]at hb;subst hb;rw[h2]at hc;simp at hc
 | abs A=>exact A.nd _ _ _ _ hk b hb c hc
def uZ (sl:List (Nat×DVal)) (hsl:JK sl<=1) (own:List Ent) (tm:Array Value) (own0:List Ent) (loc0:Nat->Loc) (l:Nat) (L:Loop):Abs where
 J:=fun M bl hd h=>hd= .func (.yield l) #[] #[]/\∃loc,bl=Aa own loc++[l]/\(own.map (·.id)).Nodup/\(∀e∈own,Gy (Ab own loc) M h (loc e.id) e.obj) /\
  (∀p∈sl,rd (Ab own loc) M h p.2 (tm.getD p.1 Go.undef))/\h[l]? =some (.loop L)/\(∀e∈own,e.r<1->Ab own0 loc0 e.id e.r=some (loc e.id))
 weak:=by
  rintro M M' bl hd h h' hb hm hk ⟨h1,loc,h2,h3,h4,h5,h6,h7⟩;have W:∀n,Weak (Ab own loc) (Ab own loc) M M' h h' n:=fun n=>⟨fun _ _ _ _ h=>h,hb,hm⟩
  refine⟨h1,loc,h2,h3,fun e he=>Bd (W _) (Nat.le_refl _) (fun b o qL ho=>hk b o ?_ ho) (h4 e he),fun p hp=>Ch (W _) _ _ (Nat.le_refl _) (h5 p hp),hk l _ ?_ h6,h7⟩
  ·rw[h2];exact aH0 _ (AY he qL)
  ·rw[h2];simp
 one:=by rintro _ _ _ _ ⟨rfl,_⟩;exact⟨rfl,rfl⟩
 nd:=by
  rintro M bl hd h ⟨_,loc,rfl,_,h4,_,h6,_⟩ b hb c hc
  rcases aC0.1 hb with hb | hb
  ·obtain⟨e,he,hb⟩:=bW0.1 hb;exact Au_ (h4 e he) b hb c hc
  ·simp only[aG0]at hb;subst hb;rw[h6]at hc;simp at hc
def RV : List Nat->List DVal->List (Nat×DVal)->List (Nat×DVal)
 | p::ps,d::ds,l=>RV ps ds ((p,d)::l)
 | _,_,l=>l
theorem NA : ∀(z:List (Nat×Value)) (t:Array Value),(z.foldl (fun t p=>t.setIfInBounds p.1 p.2) t).size=t.size
 | [],t=>rfl
 | p::z,t=>by rw[cH0,NA z];simp
theorem iM {cur:EF} {M:List Nat} {h:Array Obj}:∀(ps:List Nat) (ds:List DVal) (vs:List Value) (l:List (Nat×DVal)) (t:Array Value),ds.length=ps.length->(∀p∈ps,p<t.size)->Aw cur M h ds vs ->
  (∀i,rd cur M h (Bg l i) (t.getD i Go.undef))->∀i,rd cur M h (Bg (RV ps ds l) i) (((ps.zip vs).foldl (fun t p=>t.setIfInBounds p.1 p.2) t).getD i Go.undef)
 | [],ds,vs,l,t,hl,hp,hr,hs=>by
  cases ds with
  | nil=>simpa[RV]using hs
  | cons d ds=>simp at hl
 | p::ps,[],vs,l,t,hl,hp,hr,hs=>by simp at hl
 | p::ps,d::ds,vs,l,t,hl,hp,hr,hs=>by
  simp only[Aw]at hr;obtain⟨v,r,rfl,h1,h2⟩:=hr;simp only[RV,List.zip_cons_cons,cH0];refine iM ps ds r _ _ (by simpa using hl) (fun q hq=>by simpa using hp q (aI0 _ hq)) h2 ?_;intro i;have qV:=hp p aK0;simp only[Bg,aN0,cM0]
  by_cases hi:i=p
  ·subst hi;simpa[qV]using h1
  ·rw[if_neg hi,if_neg (fun h=>hi h.symm)];have:=hs i;simpa[aN0]using this
theorem Xn : ∀(l:List (Nat×DVal)) (i:Nat),Bg l i= .any\/(i,Bg l i)∈l
 | [],i=> .inl rfl
 | (j,d)::l,i=>by
  simp only[Bg]
  split
  ·rename_i h;subst h;exact .inr (by simp)
  ·exact(Xn l i).imp id (fun h=>aI0 _ h)
def RQ (B:Base) (okk:Bool) (S:List Ent) (j:Code):Exit->DS->Prop
 | .normal,s=>okk=true/\Sub B ⟨[],s.own⟩ ⟨[],S⟩
 | .ret,s=>okk=false/\j= .ret/\Sub B ⟨[],s.own⟩ ⟨[],S⟩
 | .exit id,s=>okk=false/\j= .exit id/\Sub B ⟨[],s.own⟩ ⟨[],S⟩
 | .goto t,s=>okk=false/\j= .goto t/\Sub B ⟨[],s.own⟩ ⟨[],S⟩
 | _,_=>False
def RB (P:Program) (nt:Nat) (body:Code) (okk:Bool) (S:List Ent) (j:Code) (s:DS):Prop:=∀B:Base,B.nt=nt->DW P B body (RQ B okk S j) s
theorem FM_ {P:Program} {nt:Nat} {body:Code} {okk:Bool} {S:List Ent} {j:Code} {s:DS} (h:∀B:Base,B.nt=nt->DW P B body (RQ B okk S j) s):RB P nt body okk S j s:=h
def RA (P:Program) (nt:Nat) (body:Code) (okk:Bool) (S:List Ent) (j:Code):Exit->DS->Prop
 | .normal,s=>RB P nt body okk S j s
 | _,_=>False
theorem eA {own own':List Ent} {loc loc':Nat->Loc} {M M':List Nat} {h h':Array Obj} {n:Nat} (hc:∀e∈own',e.r<n->Ab own loc e.id e.r=some (loc' e.id)) (hb:∀(b:Nat) (o:Obj),b∉M->Gh o=true->h[b]? =some o->h'[b]? =some o)
  (hm:∀b∈M',b∈M\/h.size<=b):Weak (Ab own loc) (Ab own' loc') M M' h h' n where
 c:=by
  intro id r l hr hl;obtain⟨e,he,rfl,rfl,rfl⟩:=Bn hl;exact hc e he hr
 b:=hb
 m:=by
  intro b o qL _ ho vX
  rcases hm b vX with h1 | h1
  ·exact qL h1
  ·have:=(aD0.1 ho).1;omega
theorem Fc (w:World) (l:Nat) (o:Obj):(w.putObj l o).heap.size=w.heap.size:=by simp[World.putObj]
theorem EI_ {P:Program} {sl:List (Nat×DVal)} {hsl:JK sl<=1} {own S:List Ent} {tm:Array Value} {own0:List Ent} {loc0:Nat->Loc} {l nt:Nat} {L:Loop} {x:List DVal} {okk:Bool} {j:Code}
  (hL:L.state= .ready) (hLp:L.pending=none) (hLt:L.tmps=tm) (qX:tm.size=nt) (hx:x.length=L.params.size) (mY:∀p∈L.params.toList,p<nt) (gZ:AJ x=0)
  (h:∀B:Base,B.nt=nt->DW P B L.assign (RA P nt L.body okk S j) ⟨RV L.params.toList x sl,own⟩) :
  YAt P l (uZ sl hsl own tm own0 loc0 l L) x okk (uZ sl hsl S tm own0 loc0 l { L with state:=if okk then .ready else .done,pending:=if okk then none else some j }):=by
 rintro M bl hd w vs hnd mF gT ⟨rfl,loc,rfl,hidn,wO,jN,zY,hver0⟩ wI;have hlM:l∈M:=mF l (by simp)
 have fP:l∉Aa own loc:=by
  intro hm;rw[bS0]at hnd;exact hnd.2.2 l hm l (by simp) rfl
 have hhotM:∀b∈Aa own loc,b∈M:=fun b hb=>mF b (aH0 _ hb)
 have qY:=Aq _ _ wI;simp only[bK0]at qY;have hy:=run_yield (P:=P) (args:=vs) zY (by omega)
 -- the base of the assignment
 let M0:List Nat:=M.filter (fun b=> !(Aa own loc).contains b)
 have hM0:∀b,b∈M0↔b∈M/\b∉Aa own loc:=by
  intro b;simp only[M0,cS0,List.contains_eq_mem,Bool.not_eq_true',decide_eq_false_iff_not]
 have hMM:∀b,b∈Aa own loc++M0↔b∈M:=by
  intro b;rw[aC0,hM0]
  constructor
  ·rintro (h | h)
   ·exact hhotM b h
   ·exact h.1
  ·intro h
   by_cases hb:b∈Aa own loc
   ·exact .inl hb
   ·exact .inr ⟨h,hb⟩
 have W0:∀n,Weak (Ab own loc) (Ab own loc) M (Aa own loc++M0) w.heap w.heap n:=fun n =>
  ⟨fun _ _ _ _ h=>h,fun b o _ (_:Gh o=true) ho=>ho,fun b o hb (_:Gh o=true) _ hm=>hb ((hMM b).1 hm)⟩
 let B1:Base:=⟨own,loc,M0,1,w,nt,some l,by decide,w.heap.size,Nat.le_refl _⟩
 let a1:Act:={ tmps:=(L.params.zip vs).foldl (fun tmps (t,a)=>tmps.setIfInBounds t a) L.tmps,defers:=[] }
 have nG:a1.tmps=(L.params.toList.zip vs.toList).foldl (fun t p=>t.setIfInBounds p.1 p.2) tm:=by
  show (L.params.zip vs).foldl _ _=_
  rw[<-Array.foldl_toList,Array.toList_zip,hLt]
 have R1:Rel B1 ⟨RV L.params.toList x sl,own⟩ a1 w loc:=by
  refine⟨⟨hidn,?_,fun b hb hm=>((hM0 b).1 hm).2 hb,fun b hb=>gT b ((hMM b).1 hb),fun e he=>Bd (W0 _) (Nat.le_refl _) (fun _ _ _ h=>h) (wO e he)⟩,Upd.refl _ _,fun b hb=> .inl hb,fun e he _=>AG hidn he,?_,?_,⟨[],rfl,List.nodup_nil,by simp⟩⟩
  ·rw[bS0]at hnd;exact hnd.1
  ·intro i;rw[nG];refine iM _ _ _ _ _ (by simpa using hx) (fun p hp=>by rw[qX];exact mY p hp) ?_ ?_ i
   ·exact AL (n:=0) ⟨fun _ _ _ h=>by omega,fun b o _ (_:Gh o=true) ho=>ho,fun b o hb (_:Gh o=true) _ hm=>hb ((hMM b).1 hm)⟩ _ _ (cU0 gZ) wI
   ·intro q
    rcases Xn sl q with h1 | h1
    ·rw[h1];simp[rd]
    ·exact Ch (W0 _) _ _ (Nat.le_refl _) (jN _ h1)
  ·rw[nG,NA];exact qX
 refine⟨L.fn,_,L.assign,L.body,hy,roundIn_of_wpIn (F:=wd none) trivial ?_⟩;refine wpIn_mono (h B1 rfl a1 w loc R1) ?_;rintro e a' w' ⟨s',loc',hq,R'⟩
 cases e<;>simp only[RA]at hq<;>first
  | exact hq.elim
  | skip
 -- the record lies as it lay
 have kI:w'.heap[l]? =some (.loop L):=by
  rw[R'.upd.blk l (aD0.1 zY).1 fP];exact zY
 have hllt:l<w'.heap.size:=(aD0.1 kI).1;refine⟨w'.putObj l (.loop { L with state:= .busy }),run_beginRound kI hL,?_⟩;obtain⟨w2,dK⟩:∃w2,w2=w'.putObj l (.loop { L with state:= .busy }):=⟨_,rfl⟩;rw[<-dK];have hsz2:w2.heap.size=w'.heap.size:=by rw[dK];exact Fc _ _ _
 have hoth:∀b,b≠l->w2.heap[b]? =w'.heap[b]? :=fun b hb=>by rw[dK];exact World.putObj_heap_other hb
 have hlb:w2.heap[l]? =some (.loop { L with state:= .busy }):=by rw[dK];exact World.putObj_heap_same hllt
 have hlM0:l∈M0:=(hM0 l).2 ⟨hlM,fP⟩;have cU:l∉Aa s'.own loc':=fun hm=>R'.st.ap l hm hlM0
 have hd2:∀(b:Nat) (o:Obj),Gh o=true->w'.heap[b]? =some o->w2.heap[b]? =some o:=by
  intro b o ho hb;rw[hoth b (fun he=>by subst he;rw[kI]at hb;simp only[aA0]at hb;subst hb;simp[Gh]at ho)];exact hb
 have St2:St s'.own loc' M0 w2.heap:=R'.st.same (cU0 hsz2.symm) hd2 (fun b o hm hb=>by rw[hoth b (fun he=>cU (he▸hm))];exact hb)
 have W2:∀n,Weak (Ab s'.own loc') (Ab s'.own loc') (Aa s'.own loc'++M0) (Aa s'.own loc'++M0) w'.heap w2.heap n:=fun n =>
  ⟨fun _ _ _ _ h=>h,fun b o _ (h1:Gh o=true) h2=>hd2 b o h1 h2,fun b o hb (_:Gh o=true) _=>hb⟩
 let B2:Base:=⟨s'.own,loc',M0,1,w2,nt,some l,by decide,w2.heap.size,Nat.le_refl _⟩
 obtain⟨rs,hrs,_,_,hrs2⟩:=R'.df;have hz:rs=[]:=hrs2 (by simp[B1])
 let B2:Base:=⟨s'.own,loc',M0,1,w2,nt,some l,by decide,w2.heap.size,Nat.le_refl _⟩
 have R2:Rel B2 s' a' w2 loc' :=
  ⟨St2,Upd.refl _ _,fun b hb=> .inl hb,fun e he _=>AG St2.nd he,fun i=>Ch (W2 _) _ _ (Nat.le_refl _) (R'.sl i),R'.nt,⟨[],by rw[hz]at hrs;simpa using hrs,List.nodup_nil,by simp⟩⟩
 refine wpIn_mono (hq B2 rfl a' w2 loc' R2) ?_;rintro e a2 w3 ⟨s3,loc3,bG,R3⟩
 have dN:w3.heap[l]? =some (.loop { L with state:= .busy }):=by
  rw[R3.upd.blk l (aD0.1 hlb).1 cU];exact hlb
 have fin:∀(jump:Option Code),Sub B2 ⟨[],s3.own⟩ ⟨[],S⟩->jump.isNone=okk->jump=(if okk then none else some j)->∃v w4,(Instr.endRound l jump).run P w3= .ok v w4/\∃v0,Ending.returned v= .returned v0/\v0= .bool okk/\∃bl',Upd (Aa own loc++[l]) w w4/\bl'.Nodup/\(∀q∈bl',q<w4.heap.size/\(q∈Aa own loc++[l]\/w.heap.size<=q)) /\
   ∀M',(∀q∈M',q∈bl'\/(q∈M/\q∉Aa own loc++[l]))->(uZ sl hsl S tm own0 loc0 l { L with state:=if okk then .ready else .done,pending:=if okk then none else some j }).J M' bl' (.func (.yield l) #[] #[]) w4.heap:=by
  intro jump yY hj1 hj2;have qM:=run_endRound (P:=P) jump dN
  have hrec':({ ({ L with state:= .busy }:Loop)with state:=if jump.isNone then .ready else .done,pending:=jump }:Loop)={ L with state:=if okk then .ready else .done,pending:=if okk then none else some j }:=by
   rw[hj1,hj2]
  rw[hrec',hj1]at qM;obtain⟨w4,bN⟩:∃w4,w4=w3.putObj l (.loop { L with state:=if okk then .ready else .done,pending:=if okk then none else some j }):=⟨_,rfl⟩;rw[<-bN]at qM;have nW:=(aD0.1 dN).1;have mX:w4.heap.size=w3.heap.size:=by rw[bN];exact Fc _ _ _
  have kY:∀b,b≠l->w4.heap[b]? =w3.heap[b]? :=fun b hb=>by rw[bN];exact World.putObj_heap_other hb
  have hl4:w4.heap[l]? =some (.loop { L with state:=if okk then .ready else .done,pending:=if okk then none else some j }):=by rw[bN];exact World.putObj_heap_same nW
  have R3':Rel B2 ⟨[],s3.own⟩ a2 w3 loc3:=⟨R3.st,R3.upd,R3.new,R3.ver,fun i=>by simp[Bg,rd],R3.nt,R3.df⟩;obtain⟨loc4,R4⟩:=yY a2 w3 loc3 R3';have cN:l∉Aa S loc4:=fun hm=>R4.st.ap l hm hlM0
  have uput:∀(v:World) (o:Obj),Upd [l] v (v.putObj l o):=fun v o=>⟨rfl,rfl,rfl,fun _=>Nat.le_refl _,by rw[Fc];exact Nat.le_refl _,fun b _ hb=>World.putObj_heap_other (fun h=>hb (by simp[h]))⟩
  have U1:Upd (Aa own loc++[l]) w w':=(Upd.refl _ w).trans R'.upd (fun x hx=> .inl (aH0 _ hx));have U2:Upd (Aa own loc++[l]) w w2:=by rw[dK];exact U1.trans (uput _ _) (fun x hx=> .inl (aJ0 _ hx))
  have U3:Upd (Aa own loc++[l]) w w3:=U2.trans R4.upd (fun x hx=>(R'.new x hx).imp (fun h=>aH0 _ h) id);have U4:Upd (Aa own loc++[l]) w w4:=by rw[bN];exact U3.trans (uput _ _) (fun x hx=> .inl (aJ0 _ hx))
  have yS:∀q∈Aa S loc4,q<w4.heap.size/\(q∈Aa own loc++[l]\/w.heap.size<=q):=by
   intro q hq;refine⟨by rw[mX];exact R4.st.lt q (aH0 _ hq),?_⟩
   rcases R4.new q hq with h | h
   ·exact(R'.new q h).imp (fun h=>aH0 _ h) id
   ·exact .inr (Nat.le_trans U2.size h)
  refine⟨_,w4,qM,_,rfl,rfl,Aa S loc4++[l],U4,?_,?_,?_⟩
  ·rw[bS0];exact⟨R4.st.bl,by simp,fun b hb b' qL gS=>cN (by simp only[aG0]at qL;rw[<-qL,<-gS];exact hb)⟩
  ·intro q hq
   rcases aC0.1 hq with hq | hq
   ·exact yS q hq
   ·simp only[aG0]at hq;subst hq;exact⟨by rw[mX];exact nW,.inl (by simp)⟩
  ·intro M' hM'
   have cP:∀e∈S,e.r<1->Ab own loc e.id e.r=some (loc4 e.id):=by
    intro e he qV;obtain⟨e1,h1,h2,h3,h4⟩:=Bn (R4.ver e he qV);have h5:=R'.ver e1 h1 (by show e1.r<1;omega);rw[h2,h3]at h5;rw[h4];exact h5
   have hinM:∀b∈M',b∈Aa S loc4++M0:=by
    intro b hb
    rcases hM' b hb with h | ⟨h1,h2⟩
    ·rcases aC0.1 h with h | h
     ·exact aH0 _ h
     ·simp only[aG0]at h;subst h;exact aJ0 _ hlM0
    ·exact aJ0 _ ((hM0 b).2 ⟨h1,fun h=>h2 (aH0 _ h)⟩)
   have hd4:∀(b:Nat) (o:Obj),Gh o=true->w3.heap[b]? =some o->w4.heap[b]? =some o:=by
    intro b o ho hb;rw[kY b (fun he=>by subst he;rw[dN]at hb;simp only[aA0]at hb;subst hb;simp[Gh]at ho)];exact hb
   have W4:∀n,Weak (Ab S loc4) (Ab S loc4) (Aa S loc4++M0) M' w3.heap w4.heap n:=fun n =>
    ⟨fun _ _ _ _ h=>h,fun b o _ (h1:Gh o=true) h2=>hd4 b o h1 h2,fun b o hb (_:Gh o=true) _ hm=>hb (hinM b hm)⟩
   have W5:Weak (Ab own loc) (Ab S loc4) M M' w.heap w4.heap 1:=by
    refine eA cP (fun b o hb _ ho=> ?_) (fun b hb=> ?_)
    ·rw[U4.blk b (aD0.1 ho).1 (fun h=>hb (mF b h))];exact ho
    ·rcases hM' b hb with h | ⟨h1,_⟩
     ·rcases aC0.1 h with h | h
      ·exact(yS b h).2.imp (mF b) id
      ·simp only[aG0]at h;subst h;exact .inl hlM
     ·exact .inl h1
   refine⟨rfl,loc4,rfl,R4.st.nd,fun e he=> ?_,fun p hp=> ?_,hl4,fun e he qV=> ?_⟩
   ·exact Bd (W4 _) (Nat.le_refl _) (fun b o hb ho=>by rw[kY b (fun h=>cN (h▸AY he hb))];exact ho) (R4.st.ok e he)
   ·refine Ch W5 _ _ (Nat.le_trans ?_ hsl) (jN p hp)
    have:∀(l:List (Nat×DVal)),p∈l->mx p.2<=JK l:=by
     intro l
     induction l with
     | nil=>intro h;cases h
     | cons q l ih =>
      intro h;simp only[JK]
      rcases aL0.1 h with rfl | h
      ·omega
      ·have:=ih h;omega
    exact this sl hp
   ·obtain⟨e1,h1,h2,h3,h4⟩:=Bn (cP e he qV);have h5:=hver0 e1 h1 (by omega);rw[h2,h3]at h5;rw[h4];exact h5
 cases e<;>simp only[RQ]at bG<;>simp only[roundPost]
 ·obtain⟨rfl,hs⟩:=bG;exact fin none hs rfl rfl
 ·obtain⟨rfl,rfl,hs⟩:=bG;exact fin _ hs rfl rfl
 ·obtain⟨rfl,rfl,hs⟩:=bG;exact fin _ hs rfl rfl
 ·obtain⟨rfl,rfl,hs⟩:=bG;exact fin _ hs rfl rfl
end Go.Dm
end
