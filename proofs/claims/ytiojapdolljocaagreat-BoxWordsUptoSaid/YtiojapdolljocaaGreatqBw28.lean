/- Parts of a proof, laid together: BW1, BW2, BX1, BX4, BY2, BX6. -/
import Derived.Test.YtiojapdolljocaaGreatqBw15
import Derived.Test.YtiojapdolljocaaGreatqBw17
import Derived.Test.YtiojapdolljocaaGreatqBw18
import Derived.Test.YtiojapdolljocaaGreatqBw27
set_option linter.unusedSimpArgs false
set_option maxHeartbeats 8000000
set_option linter.unusedVariables false
set_option linter.unusedSectionVars false
section
namespace Go.Proofs.Wy
open Go Go.Dm Tryz
variable [DMode]
def DC {α:Type} (T:List α->Prop) (w:List α):Prop:=∃u v,w=u++v/\T u/\Rt T v
mutual
def EC {α:Type} (lf:Nat->Nd->α):RT->Nat->List α->Prop
 | .mk x ks,a,w=>if x.k=2\/x.k=3 then w=[lf a x]else if x.k=4 then Sn lf ks (a+1) w else if x.k=6 then Rt (fun u=>Nt lf ks (a+1) u) w
  else if x.k=7 then DC (fun u=>Nt lf ks (a+1) u) w else if x.k=8\/x.k=1 then w=[]\/Nt lf ks (a+1) w else Nt lf ks (a+1) w
def Sn {α:Type} (lf:Nat->Nd->α):List RT->Nat->List α->Prop
 | [],_,w=>w=[]
 | u::us,a,w=>∃w1 w2,w=w1++w2/\EC lf u a w1/\Sn lf us (a+(flat u).length) w2
def Nt {α:Type} (lf:Nat->Nd->α):List RT->Nat->List α->Prop
 | [],_,_=>False
 | u::us,a,w=>EC lf u a w\/Nt lf us (a+(flat u).length) w
end
section
variable {α : Type} (lf : Nat -> Nd -> α)
theorem DF (x:Nd) (ks:List RT) (a:Nat) (w:List α):EC lf (.mk x ks) a w↔if x.k=2\/x.k=3 then w=[lf a x]else if x.k=4 then Sn lf ks (a+1) w else if x.k=6 then Rt (Nt lf ks (a+1)) w
 else if x.k=7 then DC (Nt lf ks (a+1)) w else if x.k=8\/x.k=1 then w=[]\/Nt lf ks (a+1) w else Nt lf ks (a+1) w:=by rw[EC]
theorem Pk (a:Nat) (w:List α):Sn lf [] a w↔w=[]:=by rw[Sn]
theorem Rx (u:RT) (us:List RT) (a:Nat) (w:List α):Sn lf (u::us) a w↔∃w1 w2,w=w1++w2/\EC lf u a w1/\Sn lf us (a+(flat u).length) w2:=by rw[Sn]
theorem Ig (a:Nat) (w:List α):Nt lf [] a w↔False:=by rw[Nt]
theorem Mx (u:RT) (us:List RT) (a:Nat) (w:List α):Nt lf (u::us) a w↔EC lf u a w\/Nt lf us (a+(flat u).length) w:=by rw[Nt]
theorem Rw (u:RT):∀(us:List RT) (a:Nat) (w:List α),Sn lf (us++[u]) a w↔∃w1 w2,w=w1++w2/\Sn lf us a w1/\EC lf u (a+(Ah us).length) w2
 | [],a,w=>by
  simp only[List.nil_append,Rx,Pk,BR,List.length_nil,dC0]
  constructor
  ·rintro⟨w1,w2,rfl,h,rfl⟩;exact⟨[],w1,by simp,rfl,h⟩
  ·rintro⟨w1,w2,rfl,rfl,h⟩;exact⟨w2,[],by simp,h,rfl⟩
 | v::us,a,w=>by
  simp only[List.cons_append,Rx,Rw u us,Ao,aE0,<-cE0]
  constructor
  ·rintro⟨w1,w2,rfl,h1,w3,w4,rfl,h2,h3⟩;exact⟨w1++w3,w4,by simp,⟨w1,w3,rfl,h1,h2⟩,h3⟩
  ·rintro⟨w1,w4,rfl,⟨w2,w3,rfl,h1,h2⟩,h3⟩;exact⟨w2,w3++w4,by simp,h1,w3,w4,rfl,h2,h3⟩
theorem Ry (u:RT):∀(us:List RT) (a:Nat) (w:List α),Nt lf (us++[u]) a w↔Nt lf us a w\/EC lf u (a+(Ah us).length) w
 | [],a,w=>by simp[Mx,Ig,BR]
 | v::us,a,w=>by
  simp only[List.cons_append,Mx,Ry u us,Ao,aE0,<-cE0,or_assoc]
end
theorem Rs {α:Type} {T U:List α->Prop} (h:∀w,T w↔U w) (w:List α):Rt T w↔Rt U w:=by
 have:T=U:=funext fun w=>propext (h w)
 rw[this]
theorem NY {α:Type} {T U:List α->Prop} (h:∀w,T w↔U w) (w:List α):DC T w↔DC U w:=by
 have:T=U:=funext fun w=>propext (h w)
 rw[this]
def Ed (t:RT) (a:Nat):Prt:=⟨DD t,VA t a,MX t a,VB t a⟩
def Em (k:Int) (us:List RT) (a:Nat):Prt:=⟨pE k us,Sf k us a,MB k us a,VC k us a []⟩
theorem ZM (us:List RT) (u:RT) (a:Nat):Em 4 (us++[u]) a=PV (Em 4 us a) (Ed u (a+(Ah us).length)):=by
 unfold Em PV Ed;simp only[Prt.mk.injEq];refine⟨by rw[Ul,if_pos rfl],?_,by rw[Ja,if_pos rfl],?_⟩
 ·rw[Jn]
  congr 1
  unfold pE;cases h:Fp us<;>simp
 ·rw[Nn];simp
theorem ZN {k:Int} (hk:¬k=4) (us:List RT) (u:RT) (a:Nat):Em k (us++[u]) a=Kr (Em k us a) (Ed u (a+(Ah us).length)):=by
 unfold Em Kr Ed;simp only[Prt.mk.injEq];refine⟨by rw[Ul,if_neg hk],?_,by rw[Ja,if_neg hk],by rw[Rj k hk]⟩;rw[Jn,if_neg (fun h=>hk h.1)]
theorem Cg_ {A B:Prt} {lo m hi:Nat} (hA:PrIn A lo m) (hB:PrIn B m hi) (h1:lo<=m) (h2:m<=hi):PrIn (Kr A B) lo hi where
 F:=fun p hp=>by
  rcases aC0.1 hp with h | h
  ·have:=hA.F p h;omega
  ·have:=hB.F p h;omega
 L:=fun p hp=>by
  rcases aC0.1 hp with h | h
  ·have:=hA.L p h;omega
  ·have:=hB.L p h;omega
 E:=fun p hp=>by
  rcases aC0.1 hp with h | h
  ·have:=hA.E p h;omega
  ·have:=hB.E p h;omega
theorem Ce_ {A B:Prt} {lo m hi:Nat} (hA:PrIn A lo m) (hB:PrIn B m hi) (h1:lo<=m) (h2:m<=hi):PrIn (PV A B) lo hi where
 F:=fun p hp=>by
  rcases aC0.1 hp with h | h
  ·have:=hA.F p h;omega
  ·split at h
   ·have:=hB.F p h;omega
   ·cases h
 L:=fun p hp=>by
  rcases aC0.1 hp with h | h
  ·have:=hB.L p h;omega
  ·split at h
   ·have:=hA.L p h;omega
   ·cases h
 E:=fun p hp=>by
  rcases aC0.1 hp with h | h
  ·have:=hA.E p h;omega
  ·rcases aC0.1 h with h | h
   ·have:=hB.E p h;omega
   ·obtain⟨a,b⟩:=p;obtain⟨h3,h4⟩:=Cl.1 h;have:=hA.L a h3;have:=hB.F b h4;simp only;omega
theorem TE {A:Prt} {lo hi:Nat} (hA:PrIn A lo hi):PrIn (KJ A) lo hi where
 F:=hA.F
 L:=hA.L
 E:=fun p hp=>by
  rcases aC0.1 hp with h | h
  ·exact hA.E p h
  ·obtain⟨a,b⟩:=p;obtain⟨h3,h4⟩:=Cl.1 h;exact⟨hA.L a h3,hA.F b h4⟩
abbrev lfP (p:Nat) (_:Nd):Nat:=p
def uY (t:RT):Prop:=∀a,PrIn (Ed t a) a (a+(flat t).length)/\∀w,Nx (Ed t a) w↔EC lfP t a w
theorem Vo {k:Int} (a:Nat) (w:List Nat):Nx (Em k [] a) w↔w=[]/\pE k []=true:=by
 unfold Em Nx Cr_;simp[HV,EW]
theorem Rv (k:Int) (a b:Nat):PrIn (Em k [] a) a b:=by
 refine⟨?_,?_,?_⟩<;>simp[Em,HV,EW,Ia]
theorem TD : ∀(n:Nat) (us:List RT),us.length=n->(∀u∈us,uY u)->∀a,PrIn (Em 4 us a) a (a+(Ah us).length)/\∀w,Nx (Em 4 us a) w↔Sn lfP us a w
 | 0,us,hn,_,a=>by
  have:=cX0.1 hn;subst this;refine⟨Rv _ _ _,fun w=> ?_⟩;rw[Vo,Pk,PX];simp
 | n+1,us,hn,h,a=>by
  rcases List.eq_nil_or_concat us with rfl | ⟨l,u,rfl⟩
  ·simp at hn
  rw[List.concat_eq_append]at hn h |-;obtain⟨h1,h2⟩:=TD n l (by simpa using hn) (fun v hv=>h v (aH0 _ hv)) a;obtain⟨h3,h4⟩:=h u (by simp) (a+(Ah l).length);have hl:(Ah (l++[u])).length=(Ah l).length+(flat u).length:=by rw[Dy,aE0,Hi]
  rw[ZM,hl,<-cE0];refine⟨Ce_ h1 h3 (by omega) (by omega),fun w=> ?_⟩;rw[DD_ h1 h3,Rw];simp only[h2,h4]
theorem HA {k:Int} (hk:¬k=4) (yE:¬k=1):∀(n:Nat) (us:List RT),us.length=n->(∀u∈us,uY u)->∀a,PrIn (Em k us a) a (a+(Ah us).length)/\∀w,Nx (Em k us a) w↔Nt lfP us a w
 | 0,us,hn,_,a=>by
  have:=cX0.1 hn;subst this;refine⟨Rv _ _ _,fun w=> ?_⟩;rw[Vo,Ig,PX];simp[hk,yE]
 | n+1,us,hn,h,a=>by
  rcases List.eq_nil_or_concat us with rfl | ⟨l,u,rfl⟩
  ·simp at hn
  rw[List.concat_eq_append]at hn h |-;obtain⟨h1,h2⟩:=HA hk yE n l (by simpa using hn) (fun v hv=>h v (aH0 _ hv)) a;obtain⟨h3,h4⟩:=h u (by simp) (a+(Ah l).length);have hl:(Ah (l++[u])).length=(Ah l).length+(flat u).length:=by rw[Dy,aE0,Hi]
  rw[ZN hk,hl,<-cE0];refine⟨Cg_ h1 h3 (by omega) (by omega),fun w=> ?_⟩;rw[oY h1 h3,Ry,h2,h4]
theorem Nr {A:Prt} {lo hi lo':Nat} (h:PrIn A lo hi) (h':lo'<=lo) (e:Bool):PrIn { A with e:=e } lo' hi :=
 ⟨fun p hp=>by have:=h.F p hp;omega,fun p hp=>by have:=h.L p hp;omega,fun p hp=>by have:=h.E p hp;omega⟩
theorem oX (A:Prt) (w:List Nat):Nx { A with e:=true } w↔w=[]\/Nx A w:=by
 constructor
 ·rintro (⟨rfl,_⟩ | h)
  ·exact .inl rfl
  ·exact .inr (.inr h)
 ·rintro (rfl | ⟨rfl,_⟩ | h)
  ·exact .inl ⟨rfl,rfl⟩
  ·exact .inl ⟨rfl,rfl⟩
  ·exact .inr h
theorem uR {x:Nd} {ks:List RT} (qO:DR (.mk x ks)=true) (h:∀u∈ks,uY u):uY (.mk x ks):=by
 intro a;have zG:(flat (.mk x ks)).length=(Ah ks).length+1:=by rw[Ax,List.length_cons]
 rw[zG]
 by_cases zM:x.k=2\/x.k=3
 ·have wR:=IY qO zM;subst wR
  have hp:Ed (.mk x []) a=⟨false,[a],[a],[]⟩:=by
   unfold Ed;rw[UT,if_pos zM,La,if_pos zM,HQ,if_pos zM,Jx,if_pos zM]
  rw[hp,BR];refine⟨⟨by simp,by simp,by simp⟩,fun w=> ?_⟩;rw[DF,if_pos zM]
  constructor
  ·rintro (⟨_,h⟩ | ⟨p,r,rfl,h1,h2,_⟩)
   ·cases h
   ·simp at h1;subst h1
    cases r with
    | nil=>rfl
    | cons q r=>have:=h2.1;simp at this
  ·rintro rfl;exact .inr ⟨a,[],rfl,by simp,trivial,by simp[RZ]⟩
 have he:=Aj_ qO zM;have hF:VA (.mk x ks) a=Sf x.k ks (a+1):=by rw[La,if_neg zM]
 have hL:MX (.mk x ks) a=MB x.k ks (a+1):=by rw[HQ,if_neg zM]
 have hE:VB (.mk x ks) a=VC x.k ks (a+1) []++(if x.k=6\/x.k=7 then BH (MB x.k ks (a+1)) (Sf x.k ks (a+1))else []):=by rw[Jx,if_neg zM]
 have qD:a+((Ah ks).length+1)=a+1+(Ah ks).length:=by omega
 rw[qD]
 have Es:∀e:Bool,¬(x.k=6\/x.k=7)->DD (.mk x ks)=e->Ed (.mk x ks) a={ Em x.k ks (a+1)with e:=e }:=by
  intro e h1 h2;unfold Ed Em;rw[hF,hL,hE,if_neg h1,h2,bO0]
 have nO:∀e:Bool,(x.k=6\/x.k=7)->DD (.mk x ks)=e->Ed (.mk x ks) a={ KJ (Em x.k ks (a+1))with e:=e }:=by
  intro e h1 h2;unfold Ed KJ Em;rw[hF,hL,hE,if_pos h1,h2]
 by_cases h4:x.k=4
 ·rw[h4]at he;obtain⟨h1,h2⟩:=TD _ ks rfl h (a+1);rw[Es (pE 4 ks) (by omega) (by rw[he];simp),h4];refine⟨Nr h1 (by omega) _,fun w=> ?_⟩;rw[DF,if_neg zM,if_pos h4];exact h2 w
 by_cases h6:x.k=6
 ·rw[h6]at he;obtain⟨h1,h2⟩:=HA (k:=6) (by omega) (by omega) _ ks rfl h (a+1);rw[nO true (.inl h6) (by rw[he];simp),h6];refine⟨Nr (TE h1) (by omega) _,fun w=> ?_⟩;rw[DF,if_neg zM,if_neg h4,if_pos h6,BY_];exact Rs h2 w
 by_cases h7:x.k=7
 ·rw[h7]at he;obtain⟨h1,h2⟩:=HA (k:=7) (by omega) (by omega) _ ks rfl h (a+1);rw[nO (pE 7 ks) (.inr h7) (by rw[he];simp),h7];refine⟨Nr (TE h1) (by omega) _,fun w=> ?_⟩;rw[DF,if_neg zM,if_neg h4,if_neg h6,if_pos h7];have h3:=BZ_ (Em 7 ks (a+1)) w;have h5:=NY h2 w;unfold DC at h5 |-;exact h3.trans h5
 by_cases h8:x.k=8
 ·rw[h8]at he;obtain⟨h1,h2⟩:=HA (k:=8) (by omega) (by omega) _ ks rfl h (a+1);rw[Es true (by omega) (by rw[he];simp),h8];refine⟨Nr h1 (by omega) _,fun w=> ?_⟩;rw[DF,if_neg zM,if_neg h4,if_neg h6,if_neg h7,if_pos (.inl h8),oX,h2]
 by_cases h1:x.k=1
 ·have wR:ks=[]:=by
   obtain⟨hm,hn,_⟩:=BJ qO;unfold CL at hm;rw[if_pos h1]at hm;simp only[aM0,decide_eq_true_eq]at hm;exact cX0.1 (by omega)
  subst wR;rw[Es true (by omega) (by rw[he,h1,PX];simp)];refine⟨Nr (Rv _ _ _) (by omega) _,fun w=> ?_⟩;rw[DF,if_neg zM,if_neg h4,if_neg h6,if_neg h7,if_pos (.inr h1),oX,Vo,Ig,PX]
  constructor
  ·rintro (h | h)
   ·exact .inl h
   ·exact .inl h.1
  ·rintro (h | h)
   ·exact .inl h
   ·exact h.elim
 ·obtain⟨h2,h3⟩:=HA h4 h1 _ ks rfl h (a+1);rw[Es (pE x.k ks) (by omega) (by rw[he];simp[h6,h8])];refine⟨Nr h2 (by omega) _,fun w=> ?_⟩;rw[DF,if_neg zM,if_neg h4,if_neg h6,if_neg h7,if_neg (by omega)];exact h3 w
mutual
theorem oZ : ∀t:RT,DR t=true->uY t
 | .mk x ks,h=>uR h (Ca_ ks (BJ h).2.2)
theorem Ca_ : ∀us:List RT,Fs us=true->∀u∈us,uY u
 | [],_,u,hu=>by cases hu
 | v::us,h,u,hu=>by
  rcases aL0.1 hu with hv | hu
  ·rw[hv];exact oZ v (BG h).1
  ·exact Ca_ us (BG h).2 u hu
end
theorem Rr {α β:Type} {T:List β->Prop} {U:List α->Prop} {f:α->β} (h:∀w,T w↔∃ps,U ps/\w=ps.map f) (w:List β):Rt T w↔∃ps,Rt U ps/\w=ps.map f:=by
 constructor
 ·rintro⟨ws,h1,rfl⟩
  have:∃qs:List (List α),(∀q∈qs,U q)/\ws.flatten=qs.flatten.map f:=by
   induction ws with
   | nil=>exact⟨[],by simp,rfl⟩
   | cons u ws ih =>
    obtain⟨qs,h2,h3⟩:=ih fun v hv=>h1 v (aI0 _ hv)
    obtain⟨p,h4,h5⟩:=(h u).1 (h1 u aK0);refine⟨p::qs,fun q hq=> ?_,by rw[cZ0,cZ0,bI0,h3,h5]⟩
    rcases aL0.1 hq with rfl | hq
    ·exact h4
    ·exact h2 q hq
  obtain⟨qs,h2,h3⟩:=this;exact⟨qs.flatten,⟨qs,h2,rfl⟩,h3⟩
 ·rintro⟨ps,⟨qs,h1,rfl⟩,rfl⟩;refine⟨qs.map (List.map f),fun u hu=> ?_,by rw[List.map_flatten]⟩;obtain⟨q,hq,rfl⟩:=aQ0.1 hu;exact(h _).2 ⟨q,h1 q hq,rfl⟩
theorem uT {α β:Type} {T:List β->Prop} {U:List α->Prop} {f:α->β} (h:∀w,T w↔∃ps,U ps/\w=ps.map f) (w:List β):DC T w↔∃ps,DC U ps/\w=ps.map f:=by
 constructor
 ·rintro⟨u,v,rfl,h1,h2⟩;obtain⟨p,h3,rfl⟩:=(h u).1 h1;obtain⟨q,h4,rfl⟩:=(Rr h v).1 h2;exact⟨p++q,⟨p,q,rfl,h3,h4⟩,by rw[bI0]⟩
 ·rintro⟨ps,⟨p,q,rfl,h3,h4⟩,rfl⟩;exact⟨p.map f,q.map f,by rw[bI0],(h _).2 ⟨p,h3,rfl⟩,(Rr h _).2 ⟨q,h4,rfl⟩⟩
def Rz {α β:Type} (lf:Nat->Nd->β) (lg:Nat->Nd->α) (f:α->β) (l:List Nd) (a b:Nat):Prop:=∀i x,l[i]? =some x->(x.k=2\/x.k=3)->lf (a+i) x=f (lg (b+i) x)
theorem Rz.left {α β:Type} {lf:Nat->Nd->β} {lg:Nat->Nd->α} {f:α->β} {l m:List Nd} {a b:Nat} (h:Rz lf lg f (l++m) a b):Rz lf lg f l a b:=fun i x hi hx=>h i x (by rw[bC0 (aF0.1 hi).1];exact hi) hx
theorem Rz.right {α β:Type} {lf:Nat->Nd->β} {lg:Nat->Nd->α} {f:α->β} {l m:List Nd} {a b:Nat} (h:Rz lf lg f (l++m) a b):Rz lf lg f m (a+l.length) (b+l.length):=fun i x hi hx=>by
 have:=h (l.length+i) x (by rw[bD0 (by omega),eN0];exact hi) hx
 rwa[<-cE0,<-cE0]at this
mutual
theorem Ie {α β:Type} {lf:Nat->Nd->β} {lg:Nat->Nd->α} {f:α->β}:∀(t:RT) (a b:Nat),Rz lf lg f (flat t) a b->∀w,EC lf t a w↔∃ps,EC lg t b ps/\w=ps.map f
 | .mk x ks,a,b,h,w=>by
  rw[DF];simp only[DF]
  by_cases zM:x.k=2\/x.k=3
  ·have h0:=h 0 x (by rw[Ax];rfl) zM;simp only[dC0]at h0;simp only[if_pos zM]
   constructor
   ·rintro rfl;exact⟨_,rfl,by rw[h0];rfl⟩
   ·rintro⟨ps,rfl,rfl⟩;rw[h0];rfl
  ·have hk:Rz lf lg f (Ah ks) (a+1) (b+1):=by
    have h':Rz lf lg f ([x]++Ah ks) a b:=by rw[Ax]at h;exact h
    exact h'.right
   have hA:=fun w=>pC ks (a+1) (b+1) hk w
   simp only[if_neg zM]
   by_cases h4:x.k=4
   ·simp only[if_pos h4];exact pB ks (a+1) (b+1) hk w
   simp only[if_neg h4]
   by_cases h6:x.k=6
   ·simp only[if_pos h6];exact Rr hA w
   simp only[if_neg h6]
   by_cases h7:x.k=7
   ·simp only[if_pos h7];exact uT hA w
   simp only[if_neg h7]
   by_cases h8:x.k=8\/x.k=1
   ·simp only[if_pos h8];rw[hA w]
    constructor
    ·rintro (rfl | ⟨ps,h1,rfl⟩)
     ·exact⟨[],.inl rfl,rfl⟩
     ·exact⟨ps,.inr h1,rfl⟩
    ·rintro⟨ps,(rfl | h1),rfl⟩
     ·exact .inl rfl
     ·exact .inr ⟨ps,h1,rfl⟩
   ·simp only[if_neg h8];exact hA w
theorem pB {α β:Type} {lf:Nat->Nd->β} {lg:Nat->Nd->α} {f:α->β}:∀(us:List RT) (a b:Nat),Rz lf lg f (Ah us) a b->∀w,Sn lf us a w↔∃ps,Sn lg us b ps/\w=ps.map f
 | [],a,b,_,w=>by
  simp only[Pk]
  constructor
  ·rintro rfl;exact⟨[],rfl,rfl⟩
  ·rintro⟨ps,rfl,rfl⟩;rfl
 | u::us,a,b,h,w=>by
  rw[Ao]at h;have h1:=fun w=>Ie u a b h.left w
  have h2:=fun w=>pB us (a+(flat u).length) (b+(flat u).length) h.right w
  simp only[Rx,h1,h2]
  constructor
  ·rintro⟨w1,w2,rfl,⟨p,h3,rfl⟩,q,h4,rfl⟩;exact⟨p++q,⟨p,q,rfl,h3,h4⟩,by rw[bI0]⟩
  ·rintro⟨ps,⟨p,q,rfl,h3,h4⟩,rfl⟩;exact⟨p.map f,q.map f,by rw[bI0],⟨p,h3,rfl⟩,q,h4,rfl⟩
theorem pC {α β:Type} {lf:Nat->Nd->β} {lg:Nat->Nd->α} {f:α->β}:∀(us:List RT) (a b:Nat),Rz lf lg f (Ah us) a b->∀w,Nt lf us a w↔∃ps,Nt lg us b ps/\w=ps.map f
 | [],a,b,_,w=>by
  simp only[Ig]
  constructor
  ·exact False.elim
  ·rintro⟨_,h,_⟩;exact h
 | u::us,a,b,h,w=>by
  rw[Ao]at h;have h1:=fun w=>Ie u a b h.left w
  have h2:=fun w=>pC us (a+(flat u).length) (b+(flat u).length) h.right w
  simp only[Mx,h1,h2]
  constructor
  ·rintro (⟨p,h3,rfl⟩ | ⟨q,h4,rfl⟩)
   ·exact⟨p,.inl h3,rfl⟩
   ·exact⟨q,.inr h4,rfl⟩
  ·rintro⟨ps,(h3 | h4),rfl⟩
   ·exact .inl ⟨ps,h3,rfl⟩
   ·exact .inr ⟨ps,h4,rfl⟩
end
abbrev Ee (_:Nat) (x:Nd):ByteArray:=x.s
theorem Vr (t:RT) (a:Nat) (w:List ByteArray):EC Ee t a w↔EC Ee t 0 w:=by
 rw[Ie (lg:=Ee) (f:=id) t a 0 (fun _ _ _ _=>rfl) w];simp
def VR (W:List ByteArray) (i j:Nat):List ByteArray:=(W.drop i).take (j-i)
theorem Lv {W:List ByteArray} {i j:Nat} (h:j<=W.length):(VR W i j).length=j-i:=by unfold VR;rw[aW0,bZ0];omega
theorem xU (W:List ByteArray) (i:Nat):VR W i i=[]:=by unfold VR;simp
theorem TS (W:List ByteArray) {i m j:Nat} (h1:i<=m) (h2:m<=j):VR W i j=VR W i m++VR W m j:=by
 unfold VR;rw[show j-i=(m-i)+(j-m) by omega,List.take_add,eL0,show i+(m-i)=m by omega]
theorem TR {W:List ByteArray} {i j:Nat} {u v:List ByteArray} (zO:i<=j) (hj:j<=W.length) (h:VR W i j=u++v):i+u.length<=j/\u=VR W i (i+u.length)/\v=VR W (i+u.length) j:=by
 have hl:=Lv (i:=i) hj;rw[h,aE0]at hl;have h1:i+u.length<=j:=by omega
 have h2:=TS W (i:=i) (m:=i+u.length) (j:=j) (by omega) h1;rw[h]at h2;have h3:=List.append_inj h2 (by rw[Lv (by omega)];omega);exact⟨h1,h3.1,h3.2⟩
theorem iA {W:List ByteArray} {i:Nat} {x:ByteArray} (h:W[i]? =some x):VR W i (i+1)=[x]:=by
 unfold VR;obtain⟨h1,rfl⟩:=aF0.1 h;rw[aU0 h1,show i+1-i=1 by omega];rfl
def EnP (T:List ByteArray->Prop) (W:List ByteArray) (f:Nat->Prop) (j:Nat):Prop:=∃i,i<=j/\f i/\T (VR W i j)
def Cat (T U:List ByteArray->Prop) (w:List ByteArray):Prop:=∃u v,w=u++v/\T u/\U v
theorem By_ {T U:List ByteArray->Prop} {W:List ByteArray} {f:Nat->Prop} {j:Nat} (hj:j<=W.length):EnP (Cat T U) W f j↔EnP U W (EnP T W f) j:=by
 constructor
 ·rintro⟨i,h1,h2,u,v,h3,h4,h5⟩;obtain⟨h6,h7,h8⟩:=TR h1 hj h3;exact⟨i+u.length,h6,⟨i,by omega,h2,by rw[<-h7];exact h4⟩,by rw[<-h8];exact h5⟩
 ·rintro⟨m,h1,⟨i,h2,h3,h4⟩,h5⟩;exact⟨i,by omega,h3,_,_,TS W h2 h1,h4,h5⟩
abbrev Gi (fr:List Bool) (i:Nat):Prop:=fr[i]? =some true
open Classical in
noncomputable def DH (T:List ByteArray->Prop) (W:List ByteArray) (fr:List Bool):List Bool:=(List.range fr.length).map fun j=>decide (EnP T W (Gi fr) j)
theorem BT (T:List ByteArray->Prop) (W:List ByteArray) (fr:List Bool):(DH T W fr).length=fr.length:=by unfold DH;simp
theorem CO {T:List ByteArray->Prop} {W:List ByteArray} {fr:List Bool} {j:Nat}:Gi (DH T W fr) j↔j<fr.length/\EnP T W (Gi fr) j:=by
 unfold DH Gi;rw[bH0]
 by_cases h:j<fr.length
 ·rw[dX0 h];simp[h]
 ·rw[dF0 (by simpa using h)];simp[h]
theorem Fi_ {fr:List Bool} {i:Nat} (h:Gi fr i):i<fr.length:=(aF0.1 h).1
theorem JG {a b:List Bool} (hl:a.length=b.length) (h:∀j,Gi a j↔Gi b j):a=b:=by
 refine eD0 hl fun j h1 h2=> ?_
 have:=h j;unfold Gi at this;rw[aB0 h1,aB0 h2]at this;simp only[aA0]at this;cases h3:a[j]<;>cases h4:b[j]<;>simp_all
def Fl (a b:List Bool):List Bool:=a.zipWith (· || ·) b
theorem IS {a b:List Bool} (h:a.length=b.length):(Fl a b).length=a.length:=by unfold Fl;rw[List.length_zipWith];omega
theorem Um {a b:List Bool} (h:a.length=b.length) (j:Nat):Gi (Fl a b) j↔Gi a j\/Gi b j:=by
 unfold Fl Gi;rw[List.getElem?_zipWith]
 by_cases hj:j<a.length
 ·rw[aB0 hj,aB0 (show j<b.length by omega)];simp
 ·rw[dF0 (by omega),dF0 (by omega)];simp
theorem CC {T U:List ByteArray->Prop} (h:∀w,T w↔U w) (W:List ByteArray) (fr:List Bool):DH T W fr=DH U W fr:=by
 have:T=U:=funext fun w=>propext (h w)
 rw[this]
theorem Pl {W:List ByteArray} {fr:List Bool} (h:fr.length=W.length+1):DH (fun w=>w=[]) W fr=fr:=by
 refine JG (BT _ _ _) fun j=> ?_
 rw[CO]
 constructor
 ·rintro⟨h1,i,h2,h3,h4⟩;have:=Lv (W:=W) (i:=i) (j:=j) (by omega);rw[h4]at this;have zO:i=j:=by simp at this;omega
  rw[<-zO];exact h3
 ·intro h1;exact⟨Fi_ h1,j,Nat.le_refl _,h1,xU W j⟩
theorem Cj_ (W:List ByteArray) (fr:List Bool):DH (fun _=>False) W fr=List.replicate fr.length false:=by
 refine JG (by rw[BT,dO0]) fun j=> ?_
 rw[CO]
 constructor
 ·rintro⟨_,_,_,_,h⟩;exact h.elim
 ·intro h;unfold Gi at h;rw[dG0]at h
  split at h<;>simp at h
theorem eR {T U:List ByteArray->Prop} (W:List ByteArray) (fr:List Bool):DH (fun w=>T w\/U w) W fr=Fl (DH T W fr) (DH U W fr):=by
 have hl:(DH T W fr).length=(DH U W fr).length:=by rw[BT,BT]
 refine JG (by rw[IS hl,BT,BT]) fun j=> ?_
 rw[Um hl,CO,CO,CO]
 constructor
 ·rintro⟨h1,i,h2,h3,h4 | h4⟩
  ·exact .inl ⟨h1,i,h2,h3,h4⟩
  ·exact .inr ⟨h1,i,h2,h3,h4⟩
 ·rintro (⟨h1,i,h2,h3,h4⟩ | ⟨h1,i,h2,h3,h4⟩)
  ·exact⟨h1,i,h2,h3,.inl h4⟩
  ·exact⟨h1,i,h2,h3,.inr h4⟩
theorem DH_ {T U:List ByteArray->Prop} {W:List ByteArray} {fr:List Bool} (h:fr.length=W.length+1):DH (Cat T U) W fr=DH U W (DH T W fr):=by
 refine JG (by rw[BT,BT,BT]) fun j=> ?_
 rw[CO,CO,BT]
 constructor
 ·rintro⟨h1,h2⟩;obtain⟨i,h3,h4,h5⟩:=(By_ (by omega)).1 h2;exact⟨h1,i,h3,CO.2 ⟨by omega,h4⟩,h5⟩
 ·rintro⟨h1,i,h3,h4,h5⟩;exact⟨h1,(By_ (by omega)).2 ⟨i,h3,(CO.1 h4).2,h5⟩⟩
def KM (W:List ByteArray) (s:ByteArray) (fr:List Bool) (k:Nat):List Bool:=(List.range fr.length).map fun j=>decide (0<j/\j<=k)&&(fr.getD (j-1) false&&decide (W.getD (j-1) ⟨#[]⟩=s))
theorem Wq (W:List ByteArray) (s:ByteArray) (fr:List Bool) (k:Nat):(KM W s fr k).length=fr.length:=by simp[KM]
theorem Un {W:List ByteArray} {s:ByteArray} {fr:List Bool} {k j:Nat} (h:j<(KM W s fr k).length):(KM W s fr k)[j]'h=(decide (0<j/\j<=k)&&(fr.getD (j-1) false&&decide (W.getD (j-1) ⟨#[]⟩=s))):=by simp only[KM,List.getElem_map,List.getElem_range]
theorem sD (W:List ByteArray) (s:ByteArray) (fr:List Bool):KM W s fr 0=List.replicate fr.length false:=by
 refine eD0 (by simp[KM]) fun j h1 h2=> ?_
 rw[Un h1,List.getElem_replicate];have:¬(0<j/\j<=0):=by omega
 rw[decide_eq_false this];rfl
theorem sE {W:List ByteArray} {s:ByteArray} {fr:List Bool} {k:Nat} {b:Bool} {x:ByteArray} (hf:fr[k]? =some b) (hx:W[k]? =some x) (hl:fr.length=W.length+1):(KM W s fr k).set (k+1) (b&&decide (x=s))=KM W s fr (k+1):=by
 refine eD0 (by simp[KM]) fun j h1 h2=> ?_
 rw[List.getElem_set,Un h2,Un (by simpa using h1)]
 by_cases hj:k+1=j
 ·subst hj;have:0<k+1/\k+1<=k+1:=by omega
  rw[if_pos rfl,decide_eq_true this,eI0,bA0,hf,bA0,hx];simp
 ·rw[if_neg hj]
  congr 1
  by_cases h3:0<j/\j<=k
  ·rw[decide_eq_true h3,decide_eq_true (by omega)]
  ·rw[decide_eq_false h3,decide_eq_false (by omega)]
theorem Am_ {W:List ByteArray} {s:ByteArray} {fr:List Bool} (hl:fr.length=W.length+1):KM W s fr W.length=DH (fun w=>w=[s]) W fr:=by
 refine JG (by rw[Wq,BT]) fun j=> ?_
 rw[CO]
 have h0:Gi (KM W s fr W.length) j↔j<fr.length/\(0<j/\j<=W.length)/\fr.getD (j-1) false=true/\W.getD (j-1) ⟨#[]⟩=s:=by
  unfold Gi KM;rw[bH0]
  by_cases h:j<fr.length
  ·rw[dX0 h];simp[h]
  ·rw[dF0 (by simpa using h)];simp[h]
 rw[h0]
 constructor
 ·rintro⟨h1,h2,h3,h4⟩;have hw:j-1<W.length:=by omega
  have hg:=aB0 hw;rw[bA0,hg]at h4;simp only[bV0]at h4;rw[h4]at hg;refine⟨h1,j-1,by omega,?_,?_⟩
  ·unfold Gi;rw[bA0]at h3;rw[aB0 (show j-1<fr.length by omega)]at h3 |-;simpa using h3
  ·have:=iA hg
   rwa[show j-1+1=j by omega]at this
 ·rintro⟨h1,i,h2,h3,h4⟩;have vR:=Lv (W:=W) (i:=i) (j:=j) (by omega);rw[h4]at vR;simp at vR;have zO:j=i+1:=by omega
  subst zO;have hw:i<W.length:=by omega
  have hg:=aB0 hw;have:=iA hg;rw[h4]at this;simp only[bF0,and_true]at this;refine⟨h1,by omega,?_,?_⟩
  ·rw[eI0,bA0,h3];rfl
  ·rw[eI0,bA0,hg];exact this.symm
theorem Cc_ {α:Type} {T:List α->Prop} (w:List α):Rt T w↔w=[]\/DC T w:=by
 constructor
 ·rintro⟨ws,h,rfl⟩
  cases ws with
  | nil=>exact .inl rfl
  | cons u ws=>exact .inr ⟨u,ws.flatten,rfl,h u aK0,ws,fun v hv=>h v (aI0 _ hv),rfl⟩
 ·rintro (rfl | ⟨u,v,rfl,h1,ws,h2,rfl⟩)
  ·exact⟨[],by simp,rfl⟩
  ·exact⟨u::ws,fun x hx=>by rcases aL0.1 hx with rfl | hx;exact h1;exact h2 x hx,rfl⟩
theorem Af_ {T:List ByteArray->Prop} {w:List ByteArray} (h:T w):DC T w:=⟨w,[],by simp,h,[],by simp,rfl⟩
theorem rT {T:List ByteArray->Prop} {u v:List ByteArray} (h1:DC T u) (h2:T v):DC T (u++v):=by
 obtain⟨a,b,rfl,h3,ws,h4,rfl⟩:=h1;refine⟨a,ws.flatten++v,by simp,h3,ws++[v],fun x hx=> ?_,by simp⟩
 rcases aC0.1 hx with hx | hx
 ·exact h4 x hx
 ·simp at hx;rw[hx];exact h2
def Qn (a b:List Bool):Prop:=∀j,Gi a j->Gi b j
theorem rS {T:List ByteArray->Prop} {W:List ByteArray} {fr to:List Bool} (hl:fr.length=W.length+1) (h2:to.length=fr.length) (h:Qn to (DH (DC T) W fr)):Qn (DH T W to) (DH (DC T) W fr):=by
 intro j hj;obtain⟨h3,i,h4,h5,h6⟩:=CO.1 hj;obtain⟨_,k,h7,h8,h9⟩:=CO.1 (h i h5);exact CO.2 ⟨by omega,k,by omega,h8,by rw[TS W h7 h4];exact rT h9 h6⟩
theorem rU {T:List ByteArray->Prop} {W:List ByteArray} {fr to:List Bool} (hl:fr.length=W.length+1) (h2:to.length=fr.length) (h0:Qn (DH T W fr) to) (hc:Qn (DH T W to) to):Qn (DH (DC T) W fr) to:=by
 have key:∀(ws:List (List ByteArray)) (i j:Nat),i<=j->j<=W.length->(∀u∈ws,T u)->VR W i j=ws.flatten->Gi to i->Gi to j:=by
  intro ws
  induction ws with
  | nil =>
   intro i j h1 h3 _ h4 h5;have:=Lv (W:=W) (i:=i) h3;rw[h4]at this;simp at this;rw[show j=i by omega];exact h5
  | cons u ws ih =>
   intro i j h1 h3 h4 h5 h6;rw[cZ0]at h5;obtain⟨h7,h8,h9⟩:=TR h1 h3 h5;refine ih (i+u.length) j h7 h3 (fun v hv=>h4 v (aI0 _ hv)) h9.symm ?_;exact hc _ (CO.2 ⟨by omega,i,by omega,h6,by rw[<-h8];exact h4 u aK0⟩)
 intro j hj;obtain⟨h3,i,h4,h5,u,v,h6,h7,ws,h8,rfl⟩:=CO.1 hj;obtain⟨h9,fB,dX⟩:=TR h4 (by omega) h6;refine key ws (i+u.length) j h9 (by omega) h8 dX.symm ?_;exact h0 _ (CO.2 ⟨by omega,i,by omega,h5,by rw[<-fB];exact h7⟩)
theorem sU {a b:List Bool} (hl:a.length=b.length) (h1:Qn a b) (h2:Qn b a):a=b:=JG hl fun j=>⟨h1 j,h2 j⟩
def ZS (l:List Bool):Nat:=l.countP (! ·)
def Kg (a b:List Bool):Bool:=(a.zip b).any fun p=>p.2&& !p.1
theorem BI_ : ∀{a b:List Bool},a.length=b.length->Kg a b=false->Fl a b=a/\Qn b a
 | [],[],_,_=>⟨rfl,fun _ h=>h⟩
 | x::a,y::b,hl,h=>by
  unfold Kg at h;rw[List.zip_cons_cons,List.any_cons,Bool.or_eq_false_iff]at h;obtain⟨h1,h2⟩:=BI_ (a:=a) (b:=b) (by simpa using hl) h.2;refine⟨?_,fun j hj=> ?_⟩
  ·unfold Fl at h1 |-;rw[List.zipWith_cons_cons,h1];cases x<;>cases y<;>simp_all
  ·cases j with
   | zero=>simp[Gi]at hj |-;subst hj;simpa using h.1
   | succ j=>simpa[Gi]using h2 j (by simpa[Gi]using hj)
 | [],_::_,hl,_=>by simp at hl
 | _::_,[],hl,_=>by simp at hl
theorem iW : ∀{a b:List Bool},a.length=b.length->ZS (Fl a b)<=ZS a
 | [],[],_=>Nat.le_refl _
 | x::a,y::b,hl=>by
  have h:=iW (a:=a) (b:=b) (by simpa using hl);unfold ZS Fl at h |-;rw[List.zipWith_cons_cons,dN0,dN0];cases x<;>cases y<;>simp<;>omega
 | [],_::_,hl=>by simp at hl
 | _::_,[],hl=>by simp at hl
theorem lZ : ∀{a b:List Bool},a.length=b.length->Kg a b=true->ZS (Fl a b)<ZS a
 | [],[],_,h=>by simp[Kg]at h
 | x::a,y::b,hl,h=>by
  unfold Kg at h;rw[List.zip_cons_cons,List.any_cons,cO0]at h;have h2:=iW (a:=a) (b:=b) (by simpa using hl);have h3:Kg a b=true->_:=fun h=>lZ (a:=a) (b:=b) (by simpa using hl) h
  unfold ZS Fl at h2 h3 |-;rw[List.zipWith_cons_cons,dN0,dN0]
  rcases h with h | h
  ·cases x<;>cases y<;>simp_all<;>omega
  ·have:=h3 h;cases x<;>cases y<;>simp<;>omega
 | [],_::_,hl,_=>by simp at hl
 | _::_,[],hl,_=>by simp at hl
end Go.Proofs.Wy
end
section
namespace Go.Proofs.Wy
open Go Go.Dm Tryz
variable [DMode]
attribute [local irreducible] DW Bh Bk
set_option maxRecDepth 100000
def YA : Ann:=⟨[],[]⟩
theorem HE (a:Auto) (q:Int):Ag prog 121 [.int .i64 q,.ref (Bj a)] (.bool (Zf a.st q)):=by
 refine Ad [] YA func121 call121 ntmps121 mxd (Az @YA.eq_1 results121) rfl (fun qJ B qX qQ=> ?_);simp only[Ap]
 by_cases h1:0<=q
 ·by_cases h2:q<a.st<;>exact AA Ac Ac (JV @Bj.eq_1 @Zf.eq_1 h1 h2)
 ·exact AA Ac Ac (HB @Bj.eq_1 @Zf.eq_1 h1)
def YB : Ann:=⟨[],[]⟩
theorem Va (x y:Sym):Ag prog 114 [.agg (AR x),.agg (AR y)] (.int .i64 (MD x y)):=by
 refine Ad [] YB func114 call114 ntmps114 mxd (Az @YB.eq_1 results114) rfl (fun qJ B qX qQ=> ?_);simp only[Ap];cases h1:x.label<;>cases h2:y.label<;>exact AA (AQ (Jq x.n y.n)) Ac (JV @AR.eq_1 h1 h2 @MD.eq_1)
def oH : Ann:=⟨[],[]⟩
theorem LI (x y:Arc):Ag prog 63 [.agg (CB x),.agg (CB y)] (.int .i64 (HZ x y)):=by
 refine Ad [] oH func63 call63 ntmps63 mxd (Az @oH.eq_1 results63) rfl (fun qJ B qX qQ=> ?_);simp only[Ap];have h1:=Jq x.fr y.fr;have h2:=Va x.sy y.sy;have h3:=Jq x.to y.to;have h4:=Ak_ (GK x.fr y.fr) (MD x.sy y.sy) (GK x.to y.to);simp only[AR]at h2;unfold HZ;exact AA (JV h1 h2 h3 h4) Ac (AQ @CB.eq_1)
@[simp] theorem Gd_ (l:List Bool) (v:Nat) (h:v<(bD l).length):((bD l)[v]'h).tail=[]:=by simp[bD,RJ]
theorem Dn (n:Nat) (b:Bool):Bq (List.replicate n [DVal.bool b])=0:=by have:=DO_ (List.replicate n b);rwa[Lh]at this
theorem nR {l:List Bool} {u:Nat} {b:Bool} (h:l[u]? =some b):bAt l (u:Int)=b:=by
 unfold bAt;rw[cB0,h];rfl
theorem DX_ {x y:Sym} (h:¬x=y):(x.label==y.label&&x.n==y.n)=false:=by
 rw[Bool.eq_false_iff];intro hh;simp only[aM0,beq_iff_eq]at hh
 apply h
 cases x;cases y;simp only at hh;rw[hh.1,hh.2]
def oG : Ann:=⟨[],[⟨4,[9],[],[]⟩]⟩
theorem VP (a:Auto) (fr:List Bool) (s:Sym) (qO:Cf a=true) (hf:fr.length=a.st.toNat):Ag prog 82 [.agg (Bj a),Mc fr,.agg (AR s)] (Mc (ID a fr s)):=by
 refine Ad [12] oG func82 call82 ntmps82 mxd (Az @oG.eq_1 results82) rfl (fun qJ B qX qQ=> ?_);have hw3:=WW (l:=a.arcs) (by have:=qJ.1;simp only[Bj,Ef,Iy]at this;exact this.2.2.1);clear qJ;obtain⟨nX,jX⟩:=An_ qO;have qD:a.st.toNat*1<=150000000000000:=by omega
 have hsz2:a.st.toNat<=9223372036854775807:=by omega
 have kA:0<=a.st:=by omega
 have kL:a.st<=150000000000000:=by omega
 have zV:a.st<=9223372036854775807:=by omega
 simp only[Ap]
 (refine Ba Ac Ac (Lj @Bj.eq_1 @AR.eq_1 kA kL zV) ?_;intros;refine Al ?_)
 refine An (X:={k:Nat//k<=a.arcs.length}) (fun k=>⟨[(1,Mc fr),(3,.ref [.int .i64 a.st,Fu a.fin,Ga a.arcs]),(5,.ref (AR s)),(7,.osl 12 1),(14,Ga a.arcs),(15,.int .i64 a.arcs.length),(16,.int .i64 k.1)],[⟨12,1,.row 4 1 1 (bD (Km a fr s k.1))⟩]⟩) (fun k=>a.arcs.length-k.1) ⟨0,by simp⟩ (Sub.lit (by simp[AR,Km,Lh,Dn])) ?_;rintro⟨k,hk⟩;simp only
 by_cases qV:k<a.arcs.length
 ·obtain⟨x,hx,qG,zJ⟩:=Ar qV;obtain⟨b1,b2,b3,b4⟩:=Ao_ qO zJ;obtain⟨u,hu⟩:∃u:Nat,x.fr=(u:Int):=⟨x.fr.toNat,by omega⟩;obtain⟨v,hv⟩:∃v:Nat,x.to=(v:Int):=⟨x.to.toNat,by omega⟩;have gW:u<fr.length:=by omega
  have mR:v<(Km a fr s k).length:=by rw[rD];omega
  obtain⟨b,hb,qL,_⟩:=Ar gW;have wM:=Zt (a:=a) (fr:=fr) (s:=s) hx;unfold stepG at wM;rw[hu,hv,nR hb,cB0]at wM;cases b
  ·simp only[eA0,bE0,if_false]at wM
   (refine Ba Ac Ac (Sm @CB.eq_1 @AR.eq_1 @RJ.eq_1 qV qG hu hv gW mR hb qL) ?_;intros;refine Al ?_)
   refine Ak.mk ⟨k+1,by omega⟩ (Sub.lit (by simp[wM,AR])) (by simp;omega)
   skip
  ·by_cases he:x.sy=s
   ·rw[decide_eq_true he]at wM;simp only[Bool.and_self,if_true]at wM;have e1:x.sy.label=s.label:=by rw[he]
    have e2:x.sy.n=s.n:=by rw[he]
    (refine Ba Ac Ac (uO @CB.eq_1 @AR.eq_1 @RJ.eq_1 qV qG hu hv gW mR hb qL e1 e2 @Li) ?_;intros;refine Al ?_)
    refine Ak.mk ⟨k+1,by omega⟩ (Sub.lit (by simp[wM,AR,Rf])) (by simp;omega)
    skip
   ·rw[decide_eq_false he]at wM;simp only[Bool.and_false,bE0,if_false]at wM;have e3:=DX_ he
    (refine Ba Ac Ac (eO @CB.eq_1 @AR.eq_1 @RJ.eq_1 qV qG hu hv gW mR hb qL e3) ?_;intros;refine Al ?_)
    refine Ak.mk ⟨k+1,by omega⟩ (Sub.lit (by simp[wM,AR])) (by simp;omega)
    skip
 ·have qN:k=a.arcs.length:=by omega
  subst qN;have qP:=rE a fr s;exact AA Ac Ac (Az qP @bD.eq_1)
end Go.Proofs.Wy
end
section
namespace Go.Proofs.Wy
open Go Go.Dm Tryz
variable [DMode]

end Go.Proofs.Wy
end
section
namespace Go.Proofs.Wy
open Go Go.Dm Tryz
variable [DMode]
attribute [local irreducible] DW Bh Bk
set_option maxRecDepth 100000
def Gn_ (l:List Int):List (List DVal):=l.map CT
@[simp] theorem FT_ (l:List Int):Bq (Gn_ l)=0:=AA_ l
end Go.Proofs.Wy
end
