/- Parts of a proof, laid together: WOg, WSg, BO0, EnBl. -/
import Derived.Shelf.Strings.BuilderF
import Derived.Test.YtiojapdolljocaaGreatqBw15
import Derived.Test.YtiojapdolljocaaGreatqBw16
import Derived.Test.YtiojapdolljocaaGreatqBw18
set_option linter.unusedSimpArgs false
set_option maxHeartbeats 8000000
set_option linter.unusedVariables false
set_option linter.unusedSectionVars false
section
namespace Go.Proofs.Wy
open Go Go.Dm Tryz
variable [DMode]
structure OrdC {α:Type} (c:α->α->Int):Prop where
 eq0:∀x y,c x y=0↔x=y
 anti:∀x y,c x y<0↔0<c y x
 trans:∀x y z,c x y<0->c y z<0->c x z<0
theorem OrdC.refl {α:Type} {c:α->α->Int} (h:OrdC c) (x:α):c x x=0:=(h.eq0 x x).2 rfl
theorem OrdC.nle {α:Type} {c:α->α->Int} (h:OrdC c) {x y:α}:¬c x y<0↔c y x<0\/x=y:=by
 have h1:=h.anti x y;have h2:=h.anti y x;have h3:=h.eq0 x y
 constructor
 ·intro hn
  by_cases h0:c x y=0
  ·exact .inr (h3.1 h0)
  ·exact .inl (h2.2 (by omega))
 ·rintro (h4 | rfl)
  ·have:=h2.1 h4;omega
  ·rw[h.refl];omega
theorem OrdC.ntrans {α:Type} {c:α->α->Int} (h:OrdC c) (x y z:α) (h1:¬c x y<0) (h2:¬c y z<0):¬c x z<0:=by
 rw[h.nle]at *
 rcases h1 with h1 | rfl
 ·rcases h2 with h2 | rfl
  ·exact .inl (h.trans _ _ _ h2 h1)
  ·exact .inl h1
 ·exact h2
theorem OrdC.le_anti {α:Type} {c:α->α->Int} (h:OrdC c) {x y:α} (h1:¬c x y<0) (h2:¬c y x<0):x=y:=by
 rcases h.nle.1 h1 with h1 | h1
 ·exact absurd h1 h2
 ·exact h1
theorem OrdC.total {α:Type} {c:α->α->Int} (h:OrdC c) (x y:α):¬c x y<0\/¬c y x<0:=by
 by_cases h1:c x y<0
 ·right;have:=(h.anti x y).1 h1;omega
 ·exact .inl h1
theorem CE_ : OrdC GK:=by
 refine⟨fun x y=> ?_,fun x y=> ?_,fun x y z=> ?_⟩<;>unfold GK
 ·split
  ·constructor<;>intro h<;>omega
  ·split
   ·constructor<;>intro h<;>omega
   ·constructor<;>intro h<;>omega
 ·by_cases h1:x<y<;>by_cases h2:y<x<;>simp[h1,h2]<;>omega
 ·by_cases h1:x<y<;>by_cases h2:y<z<;>by_cases h3:x<z<;>simp[h1,h2,h3]<;>(try split)<;>(try split)<;>omega
def sT {α β:Type} (c:α->α->Int) (d:β->β->Int) (x y:α×β):Int:=if c x.1 y.1=0 then d x.2 y.2 else c x.1 y.1
theorem ZP {α β:Type} {c:α->α->Int} {d:β->β->Int} (h:OrdC c) (k:OrdC d):OrdC (sT c d):=by
 refine⟨fun x y=> ?_,fun x y=> ?_,fun x y z=> ?_⟩<;>unfold sT
 ·obtain⟨x1,x2⟩:=x;obtain⟨y1,y2⟩:=y;simp only[_root_.Prod.mk.injEq]
  split
  ·rename_i h0;rw[k.eq0];exact⟨fun hh=>⟨(h.eq0 _ _).1 h0,hh⟩,fun hh=>hh.2⟩
  ·rename_i h0;exact⟨fun hh=>absurd hh h0,fun hh=>absurd ((h.eq0 _ _).2 hh.1) h0⟩
 ·by_cases h0:c x.1 y.1=0
  ·have h1:c y.1 x.1=0:=(h.eq0 _ _).2 ((h.eq0 _ _).1 h0).symm;rw[if_pos h0,if_pos h1];exact k.anti _ _
  ·have h1:¬c y.1 x.1=0:=fun hh=>h0 ((h.eq0 _ _).2 ((h.eq0 _ _).1 hh).symm)
   rw[if_neg h0,if_neg h1];exact h.anti _ _
 ·by_cases h0:c x.1 y.1=0
  ·have e0:=(h.eq0 _ _).1 h0;rw[if_pos h0]
   by_cases h1:c y.1 z.1=0
   ·have e1:=(h.eq0 _ _).1 h1;have h2:c x.1 z.1=0:=(h.eq0 _ _).2 (e0.trans e1);rw[if_pos h1,if_pos h2];exact k.trans _ _ _
   ·have h2:¬c x.1 z.1=0:=by rw[e0];exact h1
    rw[if_neg h1,if_neg h2,e0];exact fun _ hh=>hh
  ·rw[if_neg h0]
   by_cases h1:c y.1 z.1=0
   ·have e1:=(h.eq0 _ _).1 h1;have h2:¬c x.1 z.1=0:=by rw[<-e1];exact h0
    rw[if_pos h1,if_neg h2,<-e1];exact fun hh _=>hh
   ·rw[if_neg h1];intro h3 h4;have h5:=h.trans _ _ _ h3 h4;have h2:¬c x.1 z.1=0:=by omega
    rw[if_neg h2];exact h5
theorem Ee_ {α β:Type} {c:α->α->Int} (h:OrdC c) (f:β->α) (hf:∀x y,f x=f y->x=y):OrdC (fun x y=>c (f x) (f y)) :=
 ⟨fun x y=>by rw[h.eq0];exact⟨hf _ _,fun hh=>by rw[hh]⟩,fun x y=>h.anti _ _,fun x y z=>h.trans _ _ _⟩
theorem Ed_ : OrdC MD:=by
 have h:=Ee_ (ZP CE_ CE_) (fun s:Sym=>((if s.label then 1 else 0:Int),s.n)) (by
  rintro⟨l,n⟩ ⟨l',n'⟩ hh;simp only[_root_.Prod.mk.injEq]at hh;obtain⟨h1,rfl⟩:=hh
  cases l<;>cases l'<;>simp_all)
 have e:MD=fun x y:Sym=>sT GK GK ((if x.label then 1 else 0:Int),x.n) ((if y.label then 1 else 0:Int),y.n):=by
  funext x y
  obtain⟨l,n⟩:=x;obtain⟨l',n'⟩:=y;cases l<;>cases l'<;>simp[MD,sT,GK]
 rw[e];exact h
def Nz {α:Type} (c:α->α->Int) (l:List α):List α:=l.mergeSort (fun x y=> !decide (c y x<0))
theorem Px {α:Type} (c:α->α->Int) (l:List α):(Nz c l).Perm l:=dW0 _ _
theorem HG {α:Type} {c:α->α->Int} (h:OrdC c) (l:List α):(Nz c l).Pairwise (fun x y=>¬c y x<0):=by
 have:=List.pairwise_mergeSort (le:=fun x y=> !decide (c y x<0)) (by
  intro a b d h1 h2;simp only[Bool.not_eq_true',decide_eq_false_iff_not]at *
  exact h.ntrans _ _ _ h2 h1) (by
  intro a b;simp only[cO0,Bool.not_eq_true',decide_eq_false_iff_not]
  exact h.total b a) l
 exact this.imp fun h=>by simpa using h
theorem rH {α:Type} {c:α->α->Int} (h:OrdC c) {a b:List α} (hp:a.Perm b) (ha:a.Pairwise (fun x y=>¬c y x<0)) (hb:b.Pairwise (fun x y=>¬c y x<0)):a=b :=
 List.Perm.eq_of_pairwise (le:=fun x y=>¬c y x<0) (fun x y _ _ h1 h2=>h.le_anti h2 h1) ha hb hp
theorem pR {α:Type} {c:α->α->Int} (h:OrdC c) {d:α->List DVal} {u:List DVal->α} (hu:∀x,u (d x)=x) {l:List α} {L:List (List DVal)} (hp:L.Perm (l.map d)) (hs:L.Pairwise (fun x y=>¬c (u y) (u x)<0)):L=(Nz c l).map d:=by
 have h1:(L.map u).Perm l:=by
  have:=hp.map u
  rwa[cA0,show u∘d=id from funext hu,List.map_id]at this
 have h2:(L.map u).Pairwise (fun x y=>¬c y x<0):=by rw[dI0];exact hs
 have h3:=rH h (h1.trans (Px c l).symm) h2 (HG h l)
 have h4:L=(L.map u).map d:=by
  rw[cA0]
  have h5:∀x∈L,(d∘u) x=id x:=by
   intro x hx;obtain⟨y,_,rfl⟩:=aQ0.1 (hp.mem_iff.1 hx);simp[hu]
  rw[bY0 h5,List.map_id]
 rw[h4,h3]
def Je {α:Type} (c:α->α->Int):List α->α->List α
 | [],p=>[p]
 | x::l,p=>if c x p<0 then x::Je c l p else if c p x<0 then p::x::l else x::l
theorem Qg {α:Type} {c:α->α->Int} (h:OrdC c) {p z:α}:∀{l:List α},z∈Je c l p↔z=p\/z∈l
 | []=>by simp[Je]
 | x::l=>by
  have ih:=Qg h (p:=p) (z:=z) (l:=l);simp only[Je]
  split
  ·rw[aL0,ih,aL0];exact⟨fun hh=>by rcases hh with a | a | a<;>simp[a],fun hh=>by rcases hh with a | a | a<;>simp[a]⟩
  ·rename_i h1
   split
   ·simp only[aL0]
   ·rename_i h2;have:=h.le_anti h1 h2;subst this;simp only[aL0]
    exact⟨.inr,fun hh=>by
     rcases hh with a | a
     ·exact .inl a
     ·exact a⟩
def ES {α:Type} (c:α->α->Int) (l:List α):Prop:=l.Pairwise (fun x y=>c x y<0)
theorem NH {α:Type} {c:α->α->Int} (h:OrdC c) {p:α}:∀{l:List α},ES c l->ES c (Je c l p)
 | [],_=>by simp[Je,ES]
 | x::l,hs=>by
  obtain⟨h1,h2⟩:=cK0.1 hs;simp only[Je]
  split
  ·rename_i hx;refine cK0.2 ⟨fun z hz=> ?_,NH h h2⟩
   rcases (Qg h).1 hz with rfl | hz
   ·exact hx
   ·exact h1 z hz
  ·split
   ·rename_i hx;refine cK0.2 ⟨fun z hz=> ?_,hs⟩
    rcases aL0.1 hz with rfl | hz
    ·exact hx
    ·exact h.trans _ _ _ hx (h1 z hz)
   ·exact hs
theorem NM {α:Type} {c:α->α->Int} (h:OrdC c):∀(l a:List α),ES c a->ES c (l.foldl (Je c) a)/\∀z,z∈l.foldl (Je c) a↔z∈l\/z∈a
 | [],a,ha=>⟨ha,by simp⟩
 | x::l,a,ha=>by
  obtain⟨h1,h2⟩:=NM h l (Je c a x) (NH h ha);refine⟨h1,fun z=> ?_⟩;rw[cH0,h2,Qg h,aL0];exact⟨fun hh=>by rcases hh with q | q | q<;>simp[q],fun hh=>by rcases hh with (q | q) | q<;>simp[q]⟩
theorem KC {α:Type} {c:α->α->Int} (h:OrdC c):∀{l:List α} {p:α},(p::l).Pairwise (fun x y=>¬c y x<0)->ES c (p::Cv (fun x y=>c x y==0) p l)/\∀z,z∈p::Cv (fun x y=>c x y==0) p l↔z∈p::l
 | [],p,_=>by simp[Cv,ES]
 | y::l,p,hs=>by
  obtain⟨h1,h2⟩:=cK0.1 hs;obtain⟨i1,i2⟩:=KC h h2;simp only[Cv]
  split
  ·rename_i he;have:y=p:=(h.eq0 _ _).1 (by simpa using he);subst this;exact⟨i1,fun z=>by rw[i2];simp⟩
  ·rename_i he;have qB:y≠p:=fun hh=>he (by subst hh;simp[h.refl])
   have qV:c p y<0:=by
    rcases h.nle.1 (h1 y aK0)with h3 | h3
    ·exact h3
    ·exact absurd h3 qB
   refine⟨cK0.2 ⟨fun z hz=> ?_,i1⟩,fun z=> ?_⟩
   ·obtain⟨j1,_⟩:=cK0.1 i1
    rcases aL0.1 hz with rfl | hz
    ·exact qV
    ·exact h.trans _ _ _ qV (j1 z hz)
   ·have:=i2 z;rw[aL0,this];simp[aL0]
theorem Md {α:Type} {c:α->α->Int} (h:OrdC c) {l:List α} (hs:l.Pairwise (fun x y=>¬c y x<0)):ES c (Df (fun x y=>c x y==0) l)/\∀z,z∈Df (fun x y=>c x y==0) l↔z∈l:=by
 cases l with
 | nil=>simp[Df,ES]
 | cons x l=>exact KC h hs
theorem Cm {x:Nd}:BQ x=true↔x.k=2\/x.k=3:=by unfold BQ;simp
def HH (l:List Nd) (p:Nat):Nat:=((l.take p).filter BQ).length
def Cz (l:List Nd):List Nd:=l.filter BQ
theorem IL (l:List Nd):HH l 0=0:=by simp[HH]
theorem LB (l:List Nd):HH l l.length=(Cz l).length:=by simp[HH,Cz]
theorem PE {l:List Nd} {p:Nat} {x:Nd} (h:l[p]? =some x):HH l (p+1)=HH l p+(if BQ x=true then 1 else 0):=by
 unfold HH;rw[bR0,h,dR0];cases hx:BQ x<;>simp[hx]
theorem PF (l:List Nd) {p q:Nat} (h:p<=q):HH l p<=HH l q:=by
 unfold HH;obtain⟨d,rfl⟩:∃d,q=p+d:=⟨q-p,by omega⟩;rw[List.take_add,dR0,aE0];omega
theorem PG {l:List Nd} {p q:Nat} {x:Nd} (h:l[p]? =some x) (hx:BQ x=true) (hq:p<q):HH l p<HH l q:=by
 have h1:=PE h;rw[if_pos hx]at h1;have:=PF l (show p+1<=q from hq);omega
theorem Er_ {l:List Nd} {p:Nat} {x:Nd} (h:l[p]? =some x) (hx:BQ x=true):(Cz l)[HH l p]? =some x:=by
 obtain⟨hp,rfl⟩:=aF0.1 h;unfold Cz HH
 have h1:l.filter BQ=(l.take p).filter BQ++(l[p]::(l.drop (p+1)).filter BQ):=by
  have h2:l=l.take p++l[p]::l.drop (p+1):=by rw[<-aU0 hp,List.take_append_drop]
  have h3:=congrArg (List.filter BQ) h2;rw[dR0,List.filter_cons,if_pos hx]at h3;exact h3
 rw[h1,bD0 (Nat.le_refl _),eB0];rfl
theorem SJ {l:List Nd}:∀{n:Nat},n<=l.length->(Cp l n).length=HH l n
 | 0,_=>by simp[Cp,HH]
 | n+1,h=>by
  have hn:l[n]? =some (l[n]'(by omega)):=aB0 (by omega);rw[KN hn,PE hn,aE0,SJ (by omega)];cases BQ l[n]<;>simp
theorem LJ (l:List Nd):Ir l=(Cz l).length:=by unfold Ir;rw[SJ (Nat.le_refl _),LB]
def Ba_ (l:List Nd) (i:Nat):Bool:=match l[i]? with | some x=>BQ x | none=>false
def Uj (l:List Nd) (n:Nat):List Nat:=(List.range n).filter (Ba_ l)
theorem Ag_ (l:List Nd):Uj l 0=[]:=rfl
theorem Wo {l:List Nd} {n:Nat} {x:Nd} (h:l[n]? =some x):Uj l (n+1)=Uj l n++(if BQ x=true then [n]else []):=by
 unfold Uj;rw[eH0,dR0];have:Ba_ l n=BQ x:=by unfold Ba_;rw[h]
 cases hx:BQ x<;>simp[this,hx]
theorem AZ_ {l:List Nd} {i:Nat}:Ba_ l i=true↔∃x,l[i]? =some x/\BQ x=true:=by
 unfold Ba_;cases l[i]? <;>simp
theorem UE {l:List Nd} {i:Nat}:i∈Uj l l.length↔∃x,l[i]? =some x/\BQ x=true:=by
 unfold Uj;rw[cS0,dP0,AZ_];exact⟨fun h=>h.2,fun h=>⟨(aF0.1 h.choose_spec.1).1,h⟩⟩
theorem iO {l:List Nd}:∀{n:Nat},n<=l.length->(Uj l n).length=HH l n
 | 0,_=>by simp[Uj,HH]
 | n+1,h=>by
  have hn:l[n]? =some (l[n]'(by omega)):=aB0 (by omega);rw[Wo hn,PE hn,aE0,iO (by omega)];cases BQ l[n]<;>simp
theorem Ah_ (l:List Nd) (n:Nat):(Uj l n).Pairwise (· < ·):=(List.pairwise_lt_range).filter _
def GG (l:List Nd) (ah p:Nat):Nat:=ah+HH l p+1
def sJ (l:List Nd) (ah:Nat) (p:Nat×Nat):Nat×Nat:=(GG l ah p.1,GG l ah p.2)
def nd (l:List Nd) (p:Nat):Nd:=l.getD p ⟨0,⟨#[]⟩,0⟩
theorem iZ {l:List Nd} {p:Nat} {x:Nd} (h:l[p]? =some x):nd l p=x:=by unfold nd;rw[bA0,h];rfl
def RF : Nat->List RT->List (Nat×Nat)
 | _,[]=>[]
 | ah,t::ts=>(VB t 0).map (sJ (flat t) ah)++RF (ah+(Cz (flat t)).length) ts
def NN : Nat->List RT->List Nat
 | _,[]=>[]
 | ah,t::ts=>(VA t 0).map (GG (flat t) ah)++NN (ah+(Cz (flat t)).length) ts
def RI : Nat->List RT->List Nat
 | _,[]=>[]
 | ah,t::ts=>(MX t 0).map (GG (flat t) ah)++RI (ah+(Cz (flat t)).length) ts
def BW (ts:List RT):List Nd:=ts.flatMap fun t=>Cz (flat t)
def OK (sy:Nd->Sym) (ts:List RT):List Sym:=(BW ts).map sy
theorem WQ (ts:List RT) (t:RT):BW (ts++[t])=BW ts++Cz (flat t):=by simp[BW]
theorem Wl (t:RT):∀(ts:List RT) (ah:Nat),RF ah (ts++[t])=RF ah ts++(VB t 0).map (sJ (flat t) (ah+(BW ts).length))
 | [],ah=>by simp[RF,BW]
 | u::ts,ah=>by
  rw[List.cons_append,RF,RF,Wl t ts,aS0,cE0];simp[BW]
theorem Xz (t:RT):∀(ts:List RT) (ah:Nat),NN ah (ts++[t])=NN ah ts++(VA t 0).map (GG (flat t) (ah+(BW ts).length))
 | [],ah=>by simp[NN,BW]
 | u::ts,ah=>by
  rw[List.cons_append,NN,NN,Xz t ts,aS0,cE0];simp[BW]
theorem Xa (t:RT):∀(ts:List RT) (ah:Nat),RI ah (ts++[t])=RI ah ts++(MX t 0).map (GG (flat t) (ah+(BW ts).length))
 | [],ah=>by simp[RI,BW]
 | u::ts,ah=>by
  rw[List.cons_append,RI,RI,Xa t ts,aS0,cE0];simp[BW]
def Ri (S:List Sym) (p:Nat×Nat):Arc:=⟨(p.1:Int),S.getD (p.2-1) ⟨false,0⟩,(p.2:Int)⟩
def Ju (sy:Nd->Sym) (ts:List RT):List Arc:=(RF 0 ts++(NN 0 ts).map fun q=>(0,q)).map (Ri (OK sy ts))
theorem DP_ {l:List Nd} {q:Nat} (h:∃x,l[q]? =some x/\BQ x=true):Lf l 0 q:=fun y _ hy=>by
 obtain⟨x,hx,hk⟩:=h;rw[Nat.sub_zero,hx]at hy;simp only[aA0]at hy;subst hy;exact Cm.1 hk
theorem Hu (x y:Arc):HZ x y=sT GK (sT MD GK) (x.fr,x.sy,x.to) (y.fr,y.sy,y.to):=rfl
theorem GF : OrdC HZ:=by
 have h:=ZP CE_ (ZP Ed_ CE_);refine⟨fun x y=> ?_,fun x y=> ?_,fun x y z=> ?_⟩
 ·rw[Hu,h.eq0];cases x;cases y;simp only[_root_.Prod.mk.injEq,Arc.mk.injEq]
 ·rw[Hu,Hu];exact h.anti _ _
 ·rw[Hu,Hu,Hu];exact h.trans _ _ _
def Ot : Nat->List RT->List Nat
 | _,[]=>[]
 | ah,t::ts=>((Uj (flat t) (flat t).length).filter (enT t 0)).map (GG (flat t) ah)++Ot (ah+(Cz (flat t)).length) ts
theorem QD : ∀(ts:List RT) (ah:Nat),(∀t∈ts,DR t=true)->(RI ah ts).Perm (Ot ah ts)
 | [],ah,_=>by simp[RI,Ot]
 | t::ts,ah,qO=>by
  rw[RI,Ot];refine List.Perm.append (List.Perm.map _ ?_) (QD ts _ fun u hu=>qO u (aI0 _ hu));refine(List.perm_ext_iff_of_nodup (WZ t 0) (((Ah_ _ _).imp fun h=>Nat.ne_of_lt h).filter _)).2 fun q=> ?_
  have mO:=qO t aK0;rw[cS0,UE]
  constructor
  ·intro h;obtain⟨y,hy,hyk⟩:=IZ t 0 q h;rw[Nat.sub_zero]at hy;have hq:=(⟨y,hy,Cm.2 hyk⟩:∃x,(flat t)[q]? =some x/\BQ x=true);exact⟨hq,(aT t 0 q mO (DP_ hq)).1 h⟩
  ·rintro⟨hq,h⟩;exact(aT t 0 q mO (DP_ hq)).2 h
theorem Ej_ {l:List Nd} {ah p q:Nat} (hp:p∈Uj l l.length) (h:p<q):GG l ah p<GG l ah q:=by
 obtain⟨x,hx,hk⟩:=UE.1 hp;have:=PG hx hk h;unfold GG;omega
theorem UQ : ∀(ts:List RT) (ah:Nat),(Ot ah ts).Pairwise (· < ·)/\∀q∈Ot ah ts,ah<q/\q<=ah+(BW ts).length
 | [],ah=>by simp[Ot]
 | t::ts,ah=>by
  obtain⟨h1,h2⟩:=UQ ts (ah+(Cz (flat t)).length)
  have hb:∀q∈((Uj (flat t) (flat t).length).filter (enT t 0)).map (GG (flat t) ah),ah<q/\q<=ah+(Cz (flat t)).length:=by
   intro q hq;obtain⟨p,hp,rfl⟩:=aQ0.1 hq;obtain⟨x,hx,hk⟩:=UE.1 (cS0.1 hp).1;have h3:=PG hx hk (aF0.1 hx).1;rw[LB]at h3;unfold GG;omega
  have hl:(BW (t::ts)).length=(Cz (flat t)).length+(BW ts).length:=by simp[BW]
  rw[Ot];refine⟨List.pairwise_append.2 ⟨?_,h1,?_⟩,?_⟩
  ·rw[dI0];refine List.Pairwise.imp_of_mem ?_ ((Ah_ _ _).filter _);intro a b ha _ cT;exact Ej_ (cS0.1 ha).1 cT
  ·intro a ha b qL;have:=hb a ha;have:=h2 b qL;omega
  ·intro q hq
   rcases aC0.1 hq with hq | hq
   ·have:=hb q hq;omega
   ·have:=h2 q hq;omega
theorem xS {l l':List Int} (hp:l.Perm l') (hs:l'.Pairwise (· < ·)):l.mergeSort (fun x y=>decide (x<=y))=l':=by
 have tr:∀a b c:Int,decide (a<=b)=true->decide (b<=c)=true->decide (a<=c)=true:=fun a b c h1 h2=>by simp only[decide_eq_true_eq]at *;omega
 have to:∀a b:Int,(decide (a<=b)||decide (b<=a))=true:=fun a b=>by simp only[cO0,decide_eq_true_eq];omega
 refine List.Perm.eq_of_pairwise (le:=fun a b=>decide (a<=b)=true) (fun a b _ _ h1 h2=> ?_) (List.pairwise_mergeSort tr to l) (hs.imp fun h=>by simp only[decide_eq_true_eq];omega) ((dW0 l _).trans hp);simp only[decide_eq_true_eq]at h1 h2;omega
def eY (n:Nat):Int:=(n:Int)
def Jm (ts:List RT):List Int:=(if Fi ts then [0]else [])++(Ot 0 ts).map eY
theorem Bp_ (ts:List RT) (qO:∀t∈ts,DR t=true):((RI 0 ts).map eY++(if Fi ts then [0]else [])).mergeSort (fun x y=>decide (x<=y))=Jm ts:=by
 refine xS ?_ ?_
 ·unfold Jm;exact List.perm_append_comm.trans (List.Perm.append_left _ ((QD ts 0 qO).map eY))
 ·obtain⟨h1,h2⟩:=UQ ts 0
  have hm:((Ot 0 ts).map eY).Pairwise (· < ·):=by
   rw[dI0];exact h1.imp fun h=>by unfold eY;omega
  unfold Jm
  split
  ·refine cK0.2 ⟨fun q hq=> ?_,hm⟩;obtain⟨p,hp,rfl⟩:=aQ0.1 hq;have:=h2 p hp;unfold eY;omega
  ·exact hm
end Go.Proofs.Wy
end
section
namespace Go.Dm
variable [DMode]
open Go.Shelf Go.Proofs Go.RowKit
section
variable {P : Program} {B : Base} {s : DS} {a : Act} {w : World} {loc : Nat -> Loc}
theorem Rel.newTyped {id n k bs:Nat} {cs:List DVal} {us:List Value} {ty:TypeId} {dst:Option Nat} (R:Rel B s a w loc) (qE:Cb B s<=n) (vY:AJ cs<=n) (qC:∀i,dst=some i->i<B.nt)
  (vO:Aw (cu s loc) (hm s loc B.M0) w.heap cs us) (qI:∀u∈us,u.oneCell'=true) (hk:cs.length=k) (wT:bs<=150000000000000) :
  Rel B ⟨Bv s.slots dst (.rx id n k 0 0),upE s.own id n (.row ty k bs [cs])⟩ (a.put dst (.pointer (some ⟨w.heap.size,0,none⟩))) (w.alloc (.cells us.toArray ty)) (CH loc id ⟨[w.heap.size],.slice (some ⟨w.heap.size,0,none⟩) 1 1⟩):=by
 have hw:=Upd.alloc' (Aa s.own loc) w (.cells us.toArray ty)
 have hL:∀b,b∈(⟨[w.heap.size],.slice (some ⟨w.heap.size,0,none⟩) 1 1⟩:Loc).blks->b<(w.alloc (.cells us.toArray ty)).heap.size/\((∃e∈s.own,e.id=id/\b∈(loc id).blks)\/w.heap.size<=b):=by
  intro b hb;simp only[aG0]at hb;subst hb;exact⟨by simp,.inr (Nat.le_refl _)⟩
 have W:=R.weakUp (obj:= .row ty k bs [cs]) qE hw hL (.inl (Nat.le_refl _));have gW:=Aq _ _ vO;refine R.up qE qC hw (fun b hb _=>by simp only[World.alloc,bP0];rw[if_neg (by omega)]) hL (.inl (Nat.le_refl _)) ?_ ?_
 ·refine⟨by simpa using wT,.inr ⟨w.heap.size,us.toArray,1,rfl,rfl,heap_alloc_new w _,by simp,by unfold maxLen;omega,by simp;omega,?_⟩⟩
  have:=Ud (cur:=Ab (upE s.own id n (.row ty k bs [cs])) (CH loc id ⟨[w.heap.size],.slice (some ⟨w.heap.size,0,none⟩) 1 1⟩)) (M:=Aa (upE s.own id n (.row ty k bs [cs])) (CH loc id ⟨[w.heap.size],.slice (some ⟨w.heap.size,0,none⟩) 1 1⟩)++B.M0) (H:=(w.alloc (.cells us.toArray ty)).heap) k [cs] [us] [] rfl (by
   intro i c u hc hu
   cases i with
   | zero =>
    simp only[bB0,aA0]at hc hu;subst hc;subst hu;exact⟨hk,AL W cs us vY vO,qI⟩
   | succ i=>simp at hc)
  simpa using this
 ·simp only[rd];intro l hl;rw[Ds]at hl;simp only[aA0]at hl;subst hl;exact⟨_,rfl,by simp⟩
theorem Nu {id i k bs:Nat} {t ty:TypeId} {Gg:String} {z:List DVal} {Q:Exit->DS->Prop} (hi:i<B.nt) (hz:tZero P t=some z) (hp:z.all (Fe [])=true) (hk:z.length=k) (wT:bs<=150000000000000)
  (h:∀r,Cb B s<=r->Q .normal ⟨Bv s.slots (some i) (.rx i r k 0 0),upE s.own i r (.row t k bs [z])⟩):DW P B (.region id #[⟨some i,.alloc t,ty,Gg, #[],none⟩] false) Q s:=by
 intro a w loc R;refine wpIn_region ?_;rw[List.range_eq_range']
 show wpOpsIn _ _ _ _ _ [0] _ _
 simp only[wpOpsIn];have hw:Region.wanted (⟨some i,.alloc t,ty,Gg, #[],none⟩:Oper) (yielded #[⟨some i,.alloc t,ty,Gg, #[],none⟩] a.tmps)=true:=by simp[Region.wanted]
 simp only[dE0,bB0];rw[if_pos hw];obtain⟨zv,yX,rfl⟩:=FK (w:=w) hz;have vO:Aw (cu s loc) (hm s loc B.M0) w.heap (zv.cells.toList.map BZ) zv.cells.toList:=Br _
 have vY:AJ (zv.cells.toList.map BZ)=0:=by
  have h1:∀v,mx (BZ v)=0:=by
   intro v;unfold BZ
   split<;>(try split)<;>simp[mx]
  generalize zv.cells.toList=l
  induction l with
  | nil=>simp[AJ]
  | cons v l ih=>simp only[List.map_cons,AJ,h1,ih];rfl
 have qI:=FO R.st (zv.cells.toList.map BZ) zv.cells.toList (aX0.2 fun d hd=>PY (aX0.1 hp d hd)) vO;have R':=R.newTyped (id:=i) (n:=Cb B s) (k:=k) (bs:=bs) (ty:=t) (dst:=some i) (Nat.le_refl _) (by omega) (fun j hj=>by simp only[aA0]at hj;omega) vO qI hk wT
 have qM:(execOp a.eval ⟨some i,.alloc t,ty,Gg, #[],none⟩).run P w= .ok (.value (.pointer (some ⟨w.heap.size,0,none⟩))) (w.alloc (.cells zv.cells.toList.toArray t)):=by
  simp[execOp,Instr.alloc,yX,newVar,newRow]
 exact EJ (fun c hc=>by cases hc) qM ⟨_,_,h _ (Nat.le_refl _),R'⟩
end
section
variable {P : Program} {ρ : Ren}
theorem SR {T n:Nat} (hd:P.depth≠0) (hs:P.cellsOf T≠0) (hn:1<=n):liesAt P P.depth T n 0 T 1=true:=by
 obtain⟨d,hd⟩:∃d,P.depth=d+1:=⟨P.depth-1,by omega⟩;have h1:sameLayout P (d+1) T T=true:=by simp[sameLayout]
 rw[hd];unfold liesAt;rw[hd];unfold rowAt;simp[hs,hn,h1]
theorem Zk (w:World) (g n:Nat):Upd [g] w (w.drew.freeze ⟨g,0,none⟩ n):=by
 unfold World.freeze
 split
 ·exact Upd.drew _ w
 ·refine⟨rfl,rfl,rfl,fun _=>Nat.le_succ _,by simp,fun b hb qB=> ?_⟩;simp only[aG0]at qB;simp only[cC0];rw[if_neg (fun h=>qB h.symm)];rfl
set_option maxRecDepth 100000 in
theorem Gd (L:Lays.n169 P ρ) (X:Builder.Extra P ρ) (b g cap:Nat) (p:Value) (cs cur:Array Value) (l:List UInt8) (w:World) (h0:l≠[]) (hb:w.heap[b]? =some (.cells cs (ρ.t 72) (0,0))) (qS:cs[1]? =some (.slice (some ⟨g,0,none⟩) l.length cap))
  (hg:w.heap[g]? =some (.cells cur (ρ.t 5) (0,0))) (hnc:l.length<=cap) (hcm:cap<=maxLen) (kN:cur.size=cap) (htake:cur.toList.take l.length=Lib.byteCells l) :
  Calls P (ρ.f 169) #[.pointer (some ⟨b,0,none⟩)] w fun e w'=>e= .returned (.string ⟨l.toArray⟩)/\Upd [g] w w'/\w'=w.drew.freeze ⟨g,0,none⟩ l.length:=by
 have kI:l.length≠0:=by simpa using h0
 have c1:w.drew.cell? ⟨b,1,none⟩=some (.slice (some ⟨g,0,none⟩) l.length cap):=by
  have:w.drew.heap[b]? =some (.cells cs (ρ.t 72) (0,0)):=hb;rw[Lib.cell_of_heap this];exact qS
 have hSD:(Builtin.unsafeSliceData_ #[(ρ.t 37)] (ρ.t 127) #[.slice (some ⟨g,0,none⟩) l.length cap]).run P w.drew= .ok (.pointer (some ⟨g,0,none⟩)) w.drew :=
  Lib.run_unsafeSliceData_row _ _ _ _ _ _ (by omega)
 have hUS:(Builtin.unsafeString_ #[(ρ.t 127),(ρ.t 3)] (ρ.t 9) #[.pointer (some ⟨g,0,none⟩),.int .i64 l.length]).run P w.drew= .ok (.string ⟨l.toArray⟩) (w.drew.freeze ⟨g,0,none⟩ l.length):=by
  refine Lib.run_unsafeString_row w.drew (ρ.t 127) (ρ.t 3) (ρ.t 9) (ρ.t 5) L.t127 X.cellsByte g cur.size (by have hg':w.drew.heap[g]? =some (.cells cur (ρ.t 5) (0,0)):=hg;simp[World.shape?,hg']) l h0 (by omega) (by unfold maxLen at hcm;omega) ?_;intro j x hx;have hg':w.drew.heap[g]? =some (.cells cur (ρ.t 5) (0,0)):=hg;have hadd:(⟨g,0,none⟩:Addr).add j=⟨g,j,none⟩:=by unfold Addr.add;split<;>simp_all
  rw[hadd,Lib.cell_of_heap hg'];have hj:j<l.length:=(aF0.1 hx).1;have h2:(Lib.byteCells l)[j]? =some (.int .u8 x.toNat):=by simp[Lib.byteCells,hx]
  rw[<-htake,bT0 hj]at h2;simpa using h2
 have mixed:=L.mixed;have t72:=L.t72;have a72:=L.a72;have z72:=L.z72;have v72:=L.v72;have u72:=run_underlying L.t72;have t70:=L.t70;have a70:=L.a70;have z70:=L.z70;have v70:=L.v70;have u70:=run_underlying L.t70;have t37:=L.t37;have a37:=L.a37;have z37:=L.z37;have v37:=L.v37;have u37:=run_underlying L.t37;have t127:=L.t127;have a127:=L.a127;have z127:=L.z127;have v127:=L.v127;have u127:=run_underlying L.t127
 have t3:=L.t3;have a3:=L.a3;have z3:=L.z3;have v3:=L.v3;have u3:=run_underlying L.t3;have t9:=L.t9;have a9:=L.a9;have z9:=L.z9;have v9:=L.v9;have u9:=run_underlying L.t9;have t5:=X.t5;have a5:=X.a5;have z5:=X.z5;have v5:=X.v5;have u5:=run_underlying X.t5
 go_enter L.f169,Body.n169_ntmps ρ
 go_wp2
 go_region_o
 all_goals (go_wp2;go_ret;exact⟨rfl,Zk w g l.length,rfl⟩)
theorem Hs {cur:EF} {M:List Nat} {H:Array Obj} {d0 d1:DVal} {arr:Array Value} (h:Ec cur M H 2 [[d0,d1]] arr 0):∃v0 v1 rest,arr=(v0::v1::rest).toArray/\rd cur M H d0 v0/\rd cur M H d1 v1:=by
 obtain⟨rows,r1,r2,r3,r4⟩:=EZ 2 _ arr 0 h
 match rows,r1 with
 | [us],_ =>
  obtain⟨g1,g2,g3⟩:=r3 0 _ _ rfl rfl;simp only[Aw]at g2;obtain⟨v0,r,rfl,h0,v1,r',rfl,h1,rfl⟩:=g2;have e0:=(r4 0 v0 (by simp)).1;have e1:=(r4 1 v1 (by simp)).1;obtain⟨l⟩:=arr
  match l,e0,e1 with
  | x::y::rest,e0,e1 =>
   simp at e0 e1;subst e0;subst e1;exact⟨x,y,rest,rfl,h0,h1⟩
theorem Vc {cur:EF} {M:List Nat} {H:Array Obj} {d0 d1:DVal} {v0 v1:Value} {rest:List Value} (h0:rd cur M H d0 v0) (h1:rd cur M H d1 v1) (o0:v0.oneCell'=true) (o1:v1.oneCell'=true):Ec cur M H 2 [[d0,d1]] (v0::v1::rest).toArray 0:=by
 have:=Ud (cur:=cur) (M:=M) (H:=H) 2 [[d0,d1]] [[v0,v1]] rest rfl (by
  intro i c u hc hu
  cases i with
  | zero =>
   simp only[bB0,aA0]at hc hu;subst hc;subst hu;exact⟨rfl,⟨v0,_,rfl,h0,v1,_,rfl,h1,rfl⟩,by simp[o0,o1]⟩
  | succ i=>simp at hc)
 simpa using this
theorem Ov {g T:Nat} (hd:P.depth≠0) (hs:P.cellsOf T=2) (hE:Enters P g) (bs:Nat)
  (zX:∀(b n:Nat) (w:World),w.cell? ⟨b,0,none⟩=some (.pointer none)->w.shape? b=some (T,n)->0<n->liesAt P P.depth T (n/P.cellsOf T) 0 T 1=true->w.frozen? ⟨b,0,none⟩=false ->
   Calls P g #[.pointer (some ⟨b,0,none⟩)] w fun e w'=>e= .returned (.tuple #[])/\w'=w.setCell ⟨b,0,none⟩ (.pointer (some ⟨b,0,none⟩))) :
  Bl P (.func g) [.rx 0 0 2 0 0] [⟨0,0,.row T 2 bs [[.nilp,.nilsl]]⟩] (.tup []) [⟨0,0,.row T 2 bs [[.rx 0 0 2 0 0,.nilsl]]⟩]:=by
 refine⟨by simp,hE,fun M w loc vs S wI=> ?_⟩;have hk:=S.ok _ (aG0.2 rfl);obtain⟨wT,hk⟩:=hk
 rcases hk with ⟨h,_⟩ | ⟨b,arr,cap,h1,h2,h3,h4,h5,h6,h7⟩
 ·simp at h
 ·obtain⟨v0,v1,rest,rfl,g0,g1⟩:=Hs h7;simp only[rd]at g0 g1;subst g0;subst g1;have qA:Ab [(⟨0,0,.row T 2 bs [[.nilp,.nilsl]]⟩:Ent)] loc 0 0=some (loc 0):=by simp[Ab,Aj]
  simp only[Aw,rd]at wI;obtain⟨pv,r,wI,hp,rfl⟩:=wI;obtain⟨b',qL,rfl⟩:=hp _ qA;simp only at h1 h2;rw[h1]at qL;simp only[bF0,and_true]at qL;subst qL;have vE:vs= #[.pointer (some ⟨b,0,none⟩)]:=by apply Array.ext';simpa using wI
  subst vE;have qD:2<=(Array.size (Value.pointer none::Value.slice none 0 0::rest).toArray):=by simp
  refine⟨hE,(zX b (rest.length+2) w (by rw[Lib.cell_of_heap h3];rfl) (by simp[World.shape?,h3]) (by omega) (SR hd (by omega) (by rw[hs];omega)) (Lib.frozen_of_heap h3 0)).mono ?_⟩;rintro e w' ⟨rfl,rfl⟩;refine⟨_,rfl,loc,?_,?_,?_,?_,?_⟩
  ·have vN:=setCell_eq_setRow w b 0 _ _ _ (.pointer (some ⟨b,0,none⟩)) h3;rw[vN];refine⟨S.nd,S.bl,S.ap,fun q hq=>by have:=S.lt q hq;simpa using this,fun e he=> ?_⟩;simp only[aG0]at he;subst he;refine⟨wT,.inr ⟨b,_,cap,h1,h2,setRow_heap w b _ _ _ (0,0) h3,h4,h5,by simpa using h6,?_⟩⟩
   have:=Vc (cur:=Ab [(⟨0,0,.row T 2 bs [[.rx 0 0 2 0 0,.nilsl]]⟩:Ent)] loc) (M:=Aa [(⟨0,0,.row T 2 bs [[.rx 0 0 2 0 0,.nilsl]]⟩:Ent)] loc++M) (H:=(w.setRow b ((Value.pointer none::Value.slice none 0 0::rest).toArray.setIfInBounds 0 (.pointer (some ⟨b,0,none⟩)))).heap)
    (d0:= .rx 0 0 2 0 0) (d1:= .nilsl) (v0:= .pointer (some ⟨b,0,none⟩)) (v1:= .slice none 0 0) (rest:=rest) (by
     simp only[rd];intro l hl;have mC:Ab [(⟨0,0,.row T 2 bs [[.rx 0 0 2 0 0,.nilsl]]⟩:Ent)] loc 0 0=some (loc 0):=by simp[Ab,Aj]
     rw[mC]at hl;simp only[aA0]at hl;subst hl
     exact⟨b,h1,by simp⟩) (by simp[rd]) rfl rfl
   simpa using this
  ·refine⟨rfl,rfl,rfl,fun _=>Nat.le_refl _,by simp[World.setCell],fun q hq qB=> ?_⟩
   have hqb:b≠q:=by
    intro h;subst h;exact qB (by simp[Aa,h1])
   simp[World.setCell,cC0,hqb]
  ·intro q hq;exact .inl hq
  ·intro e he _;simp only[aG0]at he;subst he;exact qA
  ·simp[rd,Aw]
theorem Ou {g T:Nat} (hE:Enters P g) (bs:Nat) (q:DVal) (rest:List Ent) (hr:∀e∈rest,e.r=0)
  (zX:∀(b:Nat) (w:World),w.cell? ⟨b,0,none⟩=some (.pointer (some ⟨b,0,none⟩))->Calls P g #[.pointer (some ⟨b,0,none⟩)] w fun e w'=>e= .returned (.tuple #[])/\w'=w) :
  Bl P (.func g) [.rx 0 0 2 0 0] (⟨0,0,.row T 2 bs [[.rx 0 0 2 0 0,q]]⟩::rest) (.tup []) (⟨0,0,.row T 2 bs [[.rx 0 0 2 0 0,q]]⟩::rest):=by
 refine⟨fun e he=>by rcases aL0.1 he with rfl | he<;>simp_all,hE,fun M w loc vs S wI=> ?_⟩;have hk:=S.ok _ aK0;obtain⟨wT,hk⟩:=hk
 rcases hk with ⟨h,_⟩ | ⟨b,arr,cap,h1,h2,h3,h4,h5,h6,h7⟩
 ·simp at h
 ·obtain⟨v0,v1,rs,rfl,g0,g1⟩:=Hs h7;simp only[rd]at g0;have qA:Ab ((⟨0,0,.row T 2 bs [[.rx 0 0 2 0 0,q]]⟩:Ent)::rest) loc 0 0=some (loc 0):=by simp[Ab,Aj]
  obtain⟨b0,qH,rfl⟩:=g0 _ qA;simp only[Aw,rd]at wI;obtain⟨pv,r,wI,hp,rfl⟩:=wI;obtain⟨b',qL,rfl⟩:=hp _ qA;simp only at h1 h2;rw[h1]at qL qH;simp only[bF0,and_true]at qL qH;subst qL;subst qH;have vE:vs= #[.pointer (some ⟨b,0,none⟩)]:=by apply Array.ext';simpa using wI
  subst vE;refine⟨hE,(zX b w (by rw[Lib.cell_of_heap h3];rfl)).mono ?_⟩;rintro e w' ⟨rfl,rfl⟩;refine⟨_,rfl,loc,S,Upd.refl _ _,fun q hq=> .inl hq,fun e he _=>AG S.nd he,by simp[rd,Aw]⟩
theorem Kh (L:Lays.n169 P ρ) (X:Builder.Extra P ρ) (hE:Enters P (ρ.f 169)) (bs:Nat) (x:ByteArray) (hx:x.size≠0) :
  Bl P (.func (ρ.f 169)) [.rx 0 0 2 0 0] [⟨0,0,.row (ρ.t 72) 2 bs [[.rx 0 0 2 0 0,.osl 1 0]]⟩,⟨1,0,.row (ρ.t 5) 1 1 (AP x)⟩] (.str x) []:=by
 refine⟨by simp,hE,fun M w loc vs S wI=> ?_⟩;have hk:=S.ok _ aK0;have zI:=S.ok _ (aI0 _ aK0);obtain⟨wT,hk⟩:=hk;obtain⟨hbs2,zI⟩:=zI
 rcases hk with ⟨h,_⟩ | ⟨b,arr,cap,h1,h2,h3,h4,h5,h6,h7⟩
 ·simp at h
 rcases zI with ⟨h,_⟩ | ⟨g,cur,cap2,k1,k2,k3,k4,k5,k6,k7⟩
 ·have:=congrArg List.length h;rw[AS]at this;exact absurd this hx
 ·obtain⟨v0,v1,rest,rfl,g0,g1⟩:=Hs h7;simp only[rd]at g0 g1;have qA:Ab [(⟨0,0,.row (ρ.t 72) 2 bs [[.rx 0 0 2 0 0,.osl 1 0]]⟩:Ent),⟨1,0,.row (ρ.t 5) 1 1 (AP x)⟩] loc 0 0=some (loc 0):=by simp[Ab,Aj]
  have cF:Ab [(⟨0,0,.row (ρ.t 72) 2 bs [[.rx 0 0 2 0 0,.osl 1 0]]⟩:Ent),⟨1,0,.row (ρ.t 5) 1 1 (AP x)⟩] loc 1 0=some (loc 1):=by simp[Ab,Aj]
  have fQ:=g1 _ cF;simp only at k1 k2;rw[k2,AS]at fQ;subst fQ;simp only[Aw,rd]at wI;obtain⟨pv,r,wI,hp,rfl⟩:=wI;obtain⟨b',qL,rfl⟩:=hp _ qA;simp only at h1 h2;rw[h1]at qL;simp only[bF0,and_true]at qL;subst qL;have vE:vs= #[.pointer (some ⟨b,0,none⟩)]:=by apply Array.ext';simpa using wI
  subst vE;have hxl:x.data.toList.length=x.size:=rfl;obtain⟨rows,r1,r2,r3,r4⟩:=EZ 1 _ cur 0 k7
  have zG:rows.flatten=Lib.byteCells x.data.toList:=by
   have:∀(bl:List UInt8) (rows:List (List Value)),rows.length=bl.length->(∀(i:Nat) (cs:List DVal) (us:List Value),(bl.map fun b=>[DVal.int .u8 (b.toNat:Int)])[i]? =some cs->rows[i]? =some us->cs.length=1/\Aw (Ab [(⟨0,0,.row (ρ.t 72) 2 bs [[.rx 0 0 2 0 0,.osl 1 0]]⟩:Ent),⟨1,0,.row (ρ.t 5) 1 1 (AP x)⟩] loc) (Aa [(⟨0,0,.row (ρ.t 72) 2 bs [[.rx 0 0 2 0 0,.osl 1 0]]⟩:Ent),⟨1,0,.row (ρ.t 5) 1 1 (AP x)⟩] loc++M) w.heap cs us/\∀u∈us,u.oneCell'=true)->rows.flatten=Lib.byteCells bl:=by
    intro bl
    induction bl with
    | nil=>intro rows hl _;rw[bM0 hl];rfl
    | cons y bl ih =>
     intro rows hl h
     match rows,hl with
     | us::rows,hl =>
      obtain⟨_,h1,_⟩:=h 0 _ _ rfl rfl;simp only[Aw,rd]at h1;obtain⟨v,r,rfl,⟨rfl,_⟩,rfl⟩:=h1;have:=ih rows (by simpa using hl) fun i cs us hc hu=>h (i+1) cs us (by simpa using hc) (by simpa using hu)
      simp[this,Lib.byteCells]
   exact this x.data.toList rows (by rw[r1,AS];rfl) r3
  rw[AS]at k4 r2;have hcsz:cur.size=cap2:=by omega
  have ht:=GQ r2 r4 (by omega);rw[zG,Nat.mul_one]at ht;refine⟨hE,(Gd L X b g cap2 v0 _ cur x.data.toList w (fun h=>hx (by rw[<-hxl,h];rfl)) h3 rfl k3 k4 k5 hcsz ht).mono ?_⟩;rintro e w' ⟨rfl,hu,_⟩;refine⟨_,rfl,loc,⟨by simp,by simp[Aa],by simp[Aa],fun q hq=> ?_,by simp⟩,?_,by simp[Aa],by simp,?_⟩
  ·have:=S.lt q (aJ0 _ (by simpa[Aa]using hq));exact cD0 this hu.size
  ·refine⟨hu.os,hu.tape,hu.output,hu.drawn,hu.size,fun q hq qB=>hu.blk q hq fun hm=>qB ?_⟩;simp only[aG0]at hm;subst hm;simp[Aa,k1]
  ·simp only[rd];exact⟨trivial,by omega⟩
theorem Jt (L:Lays.n169 P ρ) (X:Builder.Extra P ρ) (hE:Enters P (ρ.f 169)) (bs:Nat) (x:ByteArray) (hx:x.size≠0) :
  Bl P (.func (ρ.f 169)) [.rx 0 0 2 0 0] [⟨0,0,.row (ρ.t 72) 2 bs [[.rx 0 0 2 0 0,.osl 1 0]]⟩,⟨1,0,.row (ρ.t 5) 1 1 (AP x)⟩] (.str x) [⟨0,0,.row (ρ.t 72) 2 bs [[.rx 0 0 2 0 0,.sl 1 1 (AP x)]]⟩]:=by
 refine⟨by simp,hE,fun M w loc vs S wI=> ?_⟩;have hk:=S.ok _ aK0;have zI:=S.ok _ (aI0 _ aK0);obtain⟨wT,hk⟩:=hk;obtain⟨hbs2,zI⟩:=zI
 rcases hk with ⟨h,_⟩ | ⟨b,arr,cap,h1,h2,h3,h4,h5,h6,h7⟩
 ·simp at h
 rcases zI with ⟨h,_⟩ | ⟨g,cur,cap2,k1,k2,k3,k4,k5,k6,k7⟩
 ·have:=congrArg List.length h;rw[AS]at this;exact absurd this hx
 ·obtain⟨v0,v1,rest,rfl,g0,g1⟩:=Hs h7;simp only[rd]at g0 g1;have qA:Ab [(⟨0,0,.row (ρ.t 72) 2 bs [[.rx 0 0 2 0 0,.osl 1 0]]⟩:Ent),⟨1,0,.row (ρ.t 5) 1 1 (AP x)⟩] loc 0 0=some (loc 0):=by simp[Ab,Aj]
  have cF:Ab [(⟨0,0,.row (ρ.t 72) 2 bs [[.rx 0 0 2 0 0,.osl 1 0]]⟩:Ent),⟨1,0,.row (ρ.t 5) 1 1 (AP x)⟩] loc 1 0=some (loc 1):=by simp[Ab,Aj]
  have fQ:=g1 _ cF;simp only at k1 k2;rw[k2,AS]at fQ;subst fQ;simp only[Aw,rd]at wI;obtain⟨pv,r,wI,hp,rfl⟩:=wI;obtain⟨b',qL,rfl⟩:=hp _ qA;simp only at h1 h2;rw[h1]at qL;simp only[bF0,and_true]at qL;subst qL;have vE:vs= #[.pointer (some ⟨b,0,none⟩)]:=by apply Array.ext';simpa using wI
  subst vE;have hxl:x.data.toList.length=x.size:=rfl;obtain⟨rows,r1,r2,r3,r4⟩:=EZ 1 _ cur 0 k7
  have zG:rows.flatten=Lib.byteCells x.data.toList:=by
   have:∀(bl:List UInt8) (rows:List (List Value)),rows.length=bl.length->(∀(i:Nat) (cs:List DVal) (us:List Value),(bl.map fun b=>[DVal.int .u8 (b.toNat:Int)])[i]? =some cs->rows[i]? =some us->cs.length=1/\Aw (Ab [(⟨0,0,.row (ρ.t 72) 2 bs [[.rx 0 0 2 0 0,.osl 1 0]]⟩:Ent),⟨1,0,.row (ρ.t 5) 1 1 (AP x)⟩] loc) (Aa [(⟨0,0,.row (ρ.t 72) 2 bs [[.rx 0 0 2 0 0,.osl 1 0]]⟩:Ent),⟨1,0,.row (ρ.t 5) 1 1 (AP x)⟩] loc++M) w.heap cs us/\∀u∈us,u.oneCell'=true)->rows.flatten=Lib.byteCells bl:=by
    intro bl
    induction bl with
    | nil=>intro rows hl _;rw[bM0 hl];rfl
    | cons y bl ih =>
     intro rows hl h
     match rows,hl with
     | us::rows,hl =>
      obtain⟨_,h1,_⟩:=h 0 _ _ rfl rfl;simp only[Aw,rd]at h1;obtain⟨v,r,rfl,⟨rfl,_⟩,rfl⟩:=h1;have:=ih rows (by simpa using hl) fun i cs us hc hu=>h (i+1) cs us (by simpa using hc) (by simpa using hu)
      simp[this,Lib.byteCells]
   exact this x.data.toList rows (by rw[r1,AS];rfl) r3
  rw[AS]at k4 r2;have hcsz:cur.size=cap2:=by omega
  have ht:=GQ r2 r4 (by omega);rw[zG,Nat.mul_one]at ht;refine⟨hE,(Gd L X b g cap2 v0 _ cur x.data.toList w (fun h=>hx (by rw[<-hxl,h];rfl)) h3 rfl k3 k4 k5 hcsz ht).mono ?_⟩;rintro e w' ⟨rfl,hu,hw⟩;have yJ:=g0 _ qA;obtain⟨b2,wV,rfl⟩:=yJ;rw[h1]at wV;simp only[bF0,and_true]at wV;subst wV;have yS:=S.bl;have hap:=S.ap;simp only[Aa,dJ0,List.flatMap_nil,h1,k1,bO0,List.cons_append,List.nil_append,cG0,aG0]at yS
  have hbg:b≠g:=yS.1;have hbM:b∉M:=hap b (by simp[Aa,h1]);have hgM:g∉M:=hap g (by simp[Aa,k1]);have jC:=(aD0.1 h3).1;have hglt:=(aD0.1 k3).1;have hH:Aa [(⟨0,0,.row (ρ.t 72) 2 bs [[.rx 0 0 2 0 0,.sl 1 1 (AP x)]]⟩:Ent)] loc=[b]:=by simp[Aa,h1]
  have hhb:w'.heap[b]? =some (.cells (Value.pointer (some ⟨b,0*2+0,none⟩):: .slice (some ⟨g,0,none⟩) x.size cap2::rest).toArray (ρ.t 72) (0,0)):=by rw[hu.blk b jC (by simpa using hbg)];exact h3
  have hhg:∃fz,w'.heap[g]? =some (.cells cur (ρ.t 5) fz):=by
   rw[hw];unfold World.freeze;rw[if_neg (by rw[hxl];exact hx)];have:w.drew.heap[g]? =some (.cells cur (ρ.t 5) (0,0)):=k3;simp only[cC0,if_true,this];exact⟨_,rfl⟩
  have W:Weak (Ab [(⟨0,0,.row (ρ.t 72) 2 bs [[.rx 0 0 2 0 0,.osl 1 0]]⟩:Ent),⟨1,0,.row (ρ.t 5) 1 1 (AP x)⟩] loc) (Ab [(⟨0,0,.row (ρ.t 72) 2 bs [[.rx 0 0 2 0 0,.sl 1 1 (AP x)]]⟩:Ent)] loc) (Aa [(⟨0,0,.row (ρ.t 72) 2 bs [[.rx 0 0 2 0 0,.osl 1 0]]⟩:Ent),⟨1,0,.row (ρ.t 5) 1 1 (AP x)⟩] loc++M) ([b]++M) w.heap w'.heap 0:=by
   refine⟨fun id r l hr _=>absurd hr (Nat.not_lt_zero _),fun q o hq _ ho=> ?_,fun q o hq _ _ hm=>hq ?_⟩
   ·rw[hu.blk q (aD0.1 ho).1 (fun hm=>hq ?_)]
    ·exact ho
    ·simp only[aG0]at hm;subst hm;simp[Aa,k1]
   ·rcases aC0.1 hm with hm | hm
    ·simp only[aG0]at hm;subst hm;simp[Aa,h1]
    ·exact aJ0 _ hm
  refine⟨_,rfl,loc,⟨by simp,by rw[hH];simp,fun q hq=> ?_,fun q hq=> ?_,?_⟩,?_,fun q hq=> ?_,?_,?_⟩
  ·rw[hH]at hq;simp only[aG0]at hq;subst hq;exact hbM
  ·rw[hH]at hq;refine cD0 (S.lt q ?_) hu.size
   rcases aC0.1 hq with hq | hq
   ·simp only[aG0]at hq;subst hq;simp[Aa,h1]
   ·exact aJ0 _ hq
  ·intro e he;simp only[aG0]at he;subst he;rw[hH];refine⟨by simpa using wT,.inr ⟨b,_,cap,h1,by simpa using h2,hhb,by simpa using h4,h5,h6,Vc ?_ ?_ rfl rfl⟩⟩
   ·simp only[rd];intro l hl;have:Ab [(⟨0,0,.row (ρ.t 72) 2 bs [[.rx 0 0 2 0 0,.sl 1 1 (AP x)]]⟩:Ent)] loc 0 0=some (loc 0):=by simp[Ab,Aj]
    rw[this]at hl;simp only[aA0]at hl;subst hl;exact⟨b,h1,rfl⟩
   ·simp only[rd];obtain⟨fz,hfz⟩:=hhg;rw[AS]
    exact⟨_,_,rfl,by simpa[AS]using k4,k5,by simpa[AS]using hbs2,.inr ⟨g,0,cur,_,fz,rfl,fun hm=>by
     rcases aC0.1 hm with hm | hm
     ·simp only[aG0]at hm;exact hbg hm.symm
     ·exact hgM hm,hfz,Cd W 1 _ cur 0 (by rw[FE];exact Nat.le_refl _) k7⟩⟩
  ·refine⟨hu.os,hu.tape,hu.output,hu.drawn,hu.size,fun q hq qB=>hu.blk q hq fun hm=>qB ?_⟩;simp only[aG0]at hm;subst hm;simp[Aa,k1]
  ·rw[hH]at hq;simp only[aG0]at hq;subst hq;exact .inl (by simp[Aa,h1])
  ·intro e he _;simp only[aG0]at he;subst he;exact qA
  ·simp only[rd];exact⟨trivial,by omega⟩
end
end Go.Dm
end
