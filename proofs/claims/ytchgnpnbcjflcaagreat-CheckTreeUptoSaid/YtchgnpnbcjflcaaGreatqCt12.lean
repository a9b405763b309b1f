/- Parts of a proof, laid together: WG, CK0, W17, CK1, CK2, CF3, W30, W8, W22, WN1, CK3, CK4, WB15, WH, CT1, EnU, PB, PU, PZ. -/
import Derived.SizedLaws
import Derived.ProofKit
import Derived.OpenShut
import Derived.Carry
import Derived.Test.YtchgnpnbcjflcaaGreatRows
import Derived.Test.YtchgnpnbcjflcaaGreatqCt4
import Derived.Test.YtchgnpnbcjflcaaGreatqCt5
import Derived.Test.YtchgnpnbcjflcaaGreatqCt6
import Derived.Test.YtchgnpnbcjflcaaGreatqCt8
import Derived.Test.YtchgnpnbcjflcaaGreatqCt11
set_option linter.unusedSimpArgs false
set_option linter.unusedVariables false
set_option linter.unusedSectionVars false
section
namespace Go.Proofs.YtchgnpnbcjflcaaGreat
open Go Go.Dm
variable [DMode]
def symG (N:Int) (s:Sym):Prop:=if s.label then 0≤s.n∧s.n<16 else 0≤s.n∧s.n<N
def gP (N:Int) (p:Prod):Prop:=(0≤p.head∧p.head<N)∧As_ p.body≠0∧∀s∈p.body,symG N s
structure GoodM (m:Mk):Prop where
 one:1≤m.nts
 ps:∀p∈m.prods,gP m.nts p
 hs:∀a h,DE_ m.hs a=some h→0≤h∧h<m.nts
 no:0≤m.no∧(m.no=0∨m.no<m.nts)
theorem Im_ {N N':Int} (h:N≤N') {s:Sym} (hs:symG N s):symG N' s:=by
 unfold symG at *
 split
 ·rename_i hl;rw[if_pos hl]at hs;exact hs
 ·rename_i hl;rw[if_neg hl]at hs;exact⟨hs.1,by omega⟩
theorem TV_ {N N':Int} (h:N≤N') {p:Prod} (hp:gP N p):gP N' p:=⟨⟨hp.1.1,by have:=hp.1.2;omega⟩,hp.2.1,fun s hs=>Im_ h (hp.2.2 s hs)⟩
theorem GoodM.pos {m:Mk} (h:GoodM m):m.Pos:=⟨by have:=h.one;omega,fun a x hx=>(h.hs a x hx).1⟩
theorem good_sym {m:Mk} (h:GoodM m) {s:Sym} (hs:symG m.nts s):GoodM (m.sym s).1∧0≤(m.sym s).2∧(m.sym s).2<(m.sym s).1.nts:=by
 have h1:=h.one;unfold Mk.sym;unfold symG at hs
 split
 ·rename_i hl;rw[if_pos hl]at hs
  split
  ·rename_i x hx;exact⟨h,h.hs _ _ hx⟩
  ·rename_i hx;refine⟨⟨by simp only;omega,?_,?_,?_⟩,by simp only;omega,by simp only;omega⟩
   ·intro p hp
    rcases aI0.1 hp with hp | hp
    ·exact TV_ (by simp only;omega) (h.ps p hp)
    ·simp only[aE0]at hp;subst hp;refine⟨by simp only;omega,by simp[As_,hl],?_⟩;intro t ht;simp only[aE0]at ht;subst ht;unfold symG;rw[if_pos hl];exact hs
   ·intro a x hx';simp only[IG_]at hx'
    split at hx'
    ·rename_i y hy;simp only[aA0]at hx';subst hx';have:=h.hs _ _ hy;exact⟨this.1,by simp only;omega⟩
    ·split at hx'
     ·simp only[aA0]at hx';subst hx';exact⟨by omega,by simp only;omega⟩
     ·simp at hx'
   ·have:=h.no;exact⟨this.1,by simp only;omega⟩
 ·rename_i hl;rw[if_neg hl]at hs;exact⟨h,hs⟩
theorem RY_ : ∀{l:List Sym} {m:Mk},GoodM m→(∀s∈l,symG m.nts s)→GoodM (m.syms l).1∧∀n∈(m.syms l).2,0≤n∧n<(m.syms l).1.nts
 | [],m,h,_=>⟨h,by simp[Mk.syms]⟩
 | s::l,m,h,hs=>by
  obtain⟨h1,h2,h3⟩:=good_sym h (hs s aF0);have hle:=(Ti_ m s).2.1;obtain⟨h4,h5⟩:=RY_ h1 fun t ht=>Im_ hle (hs t (aD0 _ ht))
  have hle2:=(Il_ l (m.sym s).1).2.1;refine⟨h4,fun n hn=> ?_⟩;simp only[Mk.syms,aK0]at hn
  rcases hn with rfl | hn
  ·exact⟨h2,by simp only[Mk.syms];omega⟩
  ·exact h5 n hn
theorem RZ_ {m:Mk} (h:GoodM m):GoodM m.nothing∧0≤m.nothing.no∧m.nothing.no<m.nothing.nts:=by
 have h1:=h.one;unfold Mk.nothing
 split
 ·refine⟨⟨by simp only;omega,?_,?_,by simp only;omega⟩,by simp only;omega,by simp only;omega⟩
  ·intro p hp
   rcases aI0.1 hp with hp | hp
   ·exact TV_ (by simp only;omega) (h.ps p hp)
   ·simp only[aE0]at hp;subst hp;exact⟨by simp only;omega,by simp[As_],by simp⟩
  ·intro a x hx;have:=h.hs a x hx;exact⟨this.1,by simp only;omega⟩
 ·rename_i hn;have:=h.no;exact⟨h,this.1,by omega⟩
theorem Mf_ : ∀(ns:List Int) (N nts head:Int),(0≤head∧head<N)→(0≤nts∧nts+(ns.length-2:Nat)≤N)→(∀n∈ns,0≤n∧n<N)→∀p∈CQ_ nts head ns,gP N p
 | [],_,_,_,_,_,_,p,hp=>by simp[CQ_]at hp
 | [_],_,_,_,_,_,_,p,hp=>by simp[CQ_]at hp
 | [a,b],N,nts,head,h1,h2,h3,p,hp=>by
  simp only[CQ_,aE0]at hp;subst hp;refine⟨h1,by simp[As_,nS],fun s hs=> ?_⟩;simp only[aK0,dX0,or_false]at hs
  rcases hs with rfl | rfl
  ·exact h3 a (by simp)
  ·exact h3 b (by simp)
 | a::b::c::r,N,nts,head,h1,h2,h3,p,hp=>by
  simp only[CQ_,aK0]at hp;have hl:(a::b::c::r).length-2=r.length+1:=by simp
  rw[hl]at h2
  rcases hp with rfl | hp
  ·refine⟨h1,by simp[As_,nS],fun s hs=> ?_⟩;simp only[aK0,dX0,or_false]at hs
   rcases hs with rfl | rfl
   ·exact h3 a (by simp)
   ·exact⟨h2.1,by simp only[nS];omega⟩
  ·refine Mf_ (b::c::r) N (nts+1) nts ⟨h2.1,by omega⟩ ⟨by omega,?_⟩ (fun n hn=>h3 n (aD0 _ hn)) p (by simpa using hp);have hl2:(b::c::r).length-2=r.length:=by simp
   rw[hl2];omega
theorem NO_ {m:Mk} (h:GoodM m) {hd:Int} {ns:List Int} (h1:0≤hd∧hd<m.nts) (h2:∀n∈ns,0≤n∧n<m.nts):GoodM (m.chain hd ns):=by
 have h0:=h.one;have hle:m.nts≤m.nts+((ns.length-2:Nat):Int):=by omega
 refine⟨by simp only[Mk.chain];omega,?_,fun a x hx=> ?_,?_⟩
 ·intro p hp
  rcases aI0.1 hp with hp | hp
  ·exact TV_ hle (h.ps p hp)
  ·exact Mf_ ns (m.chain hd ns).nts m.nts hd ⟨h1.1,by simp only[Mk.chain];omega⟩ ⟨by omega,Int.le_refl _⟩ (fun n hn=>⟨(h2 n hn).1,by have:=(h2 n hn).2;simp only[Mk.chain];omega⟩) p hp
 ·have:=h.hs a x hx;exact⟨this.1,by simp only[Mk.chain];omega⟩
 ·have:=h.no;exact⟨this.1,by simp only[Mk.chain];omega⟩
theorem good_put {m:Mk} (h:GoodM m) {p:Prod} (hp:gP m.nts p):GoodM (m.put p.head p.body):=by
 refine⟨h.one,fun q hq=> ?_,h.hs,h.no⟩
 rcases aI0.1 hq with hq | hq
 ·exact h.ps q hq
 ·simp only[aE0]at hq;subst hq;exact hp
theorem VS_ {m:Mk} (h:GoodM m) {p:Prod} (h1:0≤p.head∧p.head<m.nts) (h2:∀s∈p.body,symG m.nts s):GoodM (m.add p):=by
 unfold Mk.add
 split
 ·rename_i hf;exact good_put h ⟨h1,by rcases hf with hf | hf<;>rw[hf]<;>decide,h2⟩
 ·obtain⟨g1,g2⟩:=RY_ h h2;have hle:=(Il_ p.body m).2.1
  split
  ·obtain⟨k1,k2,k3⟩:=RZ_ g1;have hle2:=(HM_ (m.syms p.body).1).2.1;refine NO_ k1 ⟨h1.1,by omega⟩ fun n hn=> ?_
   rcases aI0.1 hn with hn | hn
   ·have:=g2 n hn;exact⟨this.1,by omega⟩
   ·simp only[aE0]at hn;subst hn;exact⟨k2,k3⟩
  ·exact NO_ g1 ⟨h1.1,by omega⟩ g2
theorem symBad_G {c:Cnf} {s:Sym} (h:CE_ c s=false):symG c.nts s:=by
 unfold CE_ at h;unfold symG;cases hl:s.label<;>simp_all [ntOK]
theorem symG_bad {c:Cnf} {s:Sym} (h:symG c.nts s):CE_ c s=false:=by
 unfold symG at h;unfold CE_;cases hl:s.label<;>simp_all [ntOK]
theorem Ze_ {c:Cnf} {p:Prod}:BA_ c p=true↔(0≤p.head∧p.head<c.nts)∧∀s∈p.body,symG c.nts s:=by
 unfold BA_;rw[aN0]
 constructor
 ·rintro⟨h1,h2⟩;refine⟨by simpa[ntOK]using h1,fun s hs=>symBad_G ?_⟩;simp only[eO0,dA0]at h2;simpa using h2 s hs
 ·rintro⟨h1,h2⟩;refine⟨by simpa[ntOK]using h1,?_⟩;simp only[eO0,dA0];intro s hs;rw[symG_bad (h2 s hs)];simp
theorem Ea_ {c:Cnf}:Bi_ c=true↔(1≤c.nts∧c.nts≤1024)∧∀p∈c.prods,(0≤p.head∧p.head<c.nts)∧∀s∈p.body,symG c.nts s:=by
 unfold Bi_;simp only[aN0,decide_eq_true_eq,bA0,Ze_]
theorem Sa_ : ∀{l:List Prod} {m r:Mk},GoodM m→m.nts≤1024→(∀p∈l,(0≤p.head∧p.head<m.nts)∧∀s∈p.body,symG m.nts s)→m.adds l=some r→GoodM r∧r.nts≤1024
 | [],m,r,h,hn,_,hr=>by simp only[Mk.adds,aA0]at hr;subst hr;exact⟨h,hn⟩
 | p::l,m,r,h,hn,hl,hr=>by
  simp only[Mk.adds]at hr
  split at hr
  ·simp at hr
  ·rename_i hov;obtain⟨h1,h2⟩:=hl p aF0;have hle:=(Qs_ m p).2.1
   exact Sa_ (VS_ h h1 h2) (by omega) (fun q hq=>by
    obtain⟨g1,g2⟩:=hl q (aD0 _ hq)
    exact⟨⟨g1.1,by omega⟩,fun s hs=>Im_ hle (g2 s hs)⟩) hr
theorem NN_ {c:Cnf} (h:Bi_ c=true):GoodM (Mk.start c):=by
 obtain⟨h1,_⟩:=Ea_.1 h;exact⟨h1.1,by simp[Mk.start],by simp[Mk.start,DE_],by simp[Mk.start]⟩
theorem SP_ {c:Cnf} {r:Mk} (h:Bi_ c=true) (hr:(Mk.start c).adds c.prods=some r):GoodM r∧r.nts≤1024:=by
 obtain⟨h1,h2⟩:=Ea_.1 h;exact Sa_ (NN_ h) h1.2 h2 hr
theorem good_ok {m:Mk} (h:GoodM m) (hn:m.nts≤1024):Bi_ m.cnf=true:=Ea_.2 ⟨⟨h.one,hn⟩,fun p hp=>⟨(h.ps p hp).1,(h.ps p hp).2.2⟩⟩
theorem Rr_ (c:Cnf):ofC c=if Bi_ c then ((match (Mk.start c).adds c.prods with | none=>(cnf0,240) | some m=>(Br_ m.cnf,0)):Cnf×Int)else (cnf0,220):=by
 unfold ofC
 split
 ·rename_i h
  cases hA:(Mk.start c).adds c.prods with
  | none=>rfl
  | some m =>
   obtain⟨g1,g2⟩:=SP_ h hA;simp[finC,good_ok g1 g2]
 ·rfl
theorem form3 {l:List Sym} (h0:As_ l≠0) (h:¬(As_ l=1∨As_ l=2)):∃a b,l=[nS a,nS b]:=by
 match l with
 | []=>simp[As_]at h
 | [s]=>cases hs:s.label<;>simp_all [As_]
 | [⟨x,a⟩,⟨y,b⟩] =>
  cases x<;>cases y<;>simp_all [As_];exact⟨⟨a,rfl⟩,⟨b,rfl⟩⟩
 | s::t::u::r=>simp[As_]at h0
theorem add_weak {m:Mk} {p:Prod} (h:As_ p.body≠0):m.add p={ m with prods:=m.prods++[p] }:=by
 unfold Mk.add
 split
 ·rfl
 ·rename_i hf;obtain⟨a,b,hb⟩:=form3 h hf;obtain⟨hd,bd⟩:=p;simp only at hb;subst hb;simp[Mk.syms,Mk.sym,Mk.chain,CQ_,nS]
theorem SO_ : ∀{l:List Prod} {m:Mk},m.nts≤1024→(∀p∈l,As_ p.body≠0)→m.adds l=some { m with prods:=m.prods++l }
 | [],m,_,_=>by simp[Mk.adds]
 | p::l,m,hn,h=>by
  simp only[Mk.adds];rw[add_weak (h p aF0),if_neg (by simp only;omega),SO_ (m:={ m with prods:=m.prods++[p] }) hn fun q hq=>h q (aD0 _ hq)];simp
theorem ofC_weak {c:Cnf} (h:Bi_ c=true) (hw:∀p∈c.prods,As_ p.body≠0):ofC c=(Br_ c,0):=by
 rw[Rr_,if_pos h];have h1:=(Ea_.1 h).1;rw[SO_ (by simp only[Mk.start];omega) hw];simp[Mk.start,Mk.cnf]
theorem ofC_again (c:Cnf):(∃x,ofC c=(x,0)∧Bi_ x=true∧(∀p∈x.prods,As_ p.body≠0)∧ofC x=(x,0))∨∃e,e≠0∧ofC c=(cnf0,e):=by
 rw[Rr_]
 split
 ·rename_i h
  cases hA:(Mk.start c).adds c.prods with
  | none=>exact .inr ⟨240,by decide,rfl⟩
  | some m =>
   obtain⟨g1,g2⟩:=SP_ h hA;have hok:=good_ok g1 g2;have hok2:Bi_ (Br_ m.cnf)=true:=by rw[NV_];exact hok
   have hw:∀p∈(Br_ m.cnf).prods,As_ p.body≠0:=fun p hp=>(g1.ps p ((KA_ _ p).1 hp)).2.1
   refine .inl ⟨Br_ m.cnf,rfl,hok2,hw,?_⟩;rw[ofC_weak hok2 hw,norm_norm]
 ·exact .inr ⟨220,by decide,rfl⟩
end Go.Proofs.YtchgnpnbcjflcaaGreat
end
section
namespace Go.Proofs.YtchgnpnbcjflcaaGreat
open Go Go.Dm
theorem PR_ : ∀(n:Nat) (l:List Int),l.Nodup→(∀x∈l,0≤x∧x<(n:Int))→l.length≤n
 | 0,l,_,h=>by
  cases l with
  | nil=>simp
  | cons x l=>have:=h x aF0;omega
 | n+1,l,hn,h=>by
  by_cases hm:(n:Int)∈l
  ·have h1:=PR_ n (l.erase (n:Int)) (hn.erase _) fun x hx=>by
    have h2:=h x (List.mem_of_mem_erase hx)
    have h3:x≠(n:Int):=fun e=>by
     subst e;exact(List.Nodup.not_mem_erase hn) hx
    omega
   rw[List.length_erase_of_mem hm]at h1;omega
  ·have h1:=PR_ n l hn fun x hx=>by
    have h2:=h x hx;have h3:x≠(n:Int):=fun e=>hm (e▸hx)
    omega
   omega
structure HelpI (n0:Int) (m:Mk):Prop where
 nd:(m.hs.map (·.1)).Nodup
 rg:∀a∈m.hs.map (·.1),0≤a∧a<16
 nt:m.nts=n0+(m.hs.length:Int)
theorem NK_ : ∀{l:List (Int×Int)} {a:Int},DE_ l a=none→¬a∈l.map (·.1)
 | [],_,_=>by simp
 | (k,h)::l,a,hl=>by
  unfold DE_ at hl
  split at hl
  ·simp at hl
  ·rename_i hne;have:=NK_ hl;rw[List.map_cons,aK0];rintro (e | e)
   ·exact hne e
   ·exact this e
theorem help_sym {n0:Int} {m:Mk} (h:HelpI n0 m) {s:Sym} (hs:s.label=true→0≤s.n∧s.n<16):HelpI n0 (m.sym s).1:=by
 unfold Mk.sym
 split
 ·rename_i hl
  cases hk:DE_ m.hs s.n with
  | some x=>exact h
  | none =>
   have h1:=NK_ hk;refine⟨?_,?_,?_⟩
   ·show ((m.hs++[(s.n,m.nts)]).map (·.1)).Nodup
    rw[aX0];exact cA0.2 ⟨h.nd,by simp,by rintro a ha b hb rfl;simp at hb;subst hb;exact h1 ha⟩
   ·intro a ha;have ha2:a∈(m.hs++[(s.n,m.nts)]).map (·.1):=ha;rw[aX0,aI0]at ha2
    rcases ha2 with ha2 | ha2
    ·exact h.rg a ha2
    ·simp at ha2;subst ha2;exact hs hl
   ·show m.nts+1=n0+((m.hs++[(s.n,m.nts)]).length:Int)
    rw[aC0,h.nt];simp only[List.length_cons,List.length_nil];omega
 ·exact h
theorem RU_ {n0:Int}:∀{l:List Sym} {m:Mk},HelpI n0 m→(∀s∈l,s.label=true→0≤s.n∧s.n<16)→HelpI n0 (m.syms l).1
 | [],_,h,_=>h
 | s::l,m,h,hl=>by
  show HelpI n0 (((m.sym s).1.syms l).1)
  exact RU_ (help_sym h (hl s aF0)) fun x hx=>hl x (aD0 _ hx)
theorem help_add {n0:Int} {m:Mk} (h:HelpI n0 m) {p:Prod} (h1:p.body=[]∨p.body.length=2) (h2:∀s∈p.body,s.label=true→0≤s.n∧s.n<16):HelpI n0 (m.add p):=by
 have hx:=RU_ h h2;have hy:=Ks_ m p.body;unfold Mk.add
 split
 ·exact⟨h.nd,h.rg,h.nt⟩
 ·rename_i hf
  rcases h1 with h1 | h1
  ·exfalso;rw[h1]at hf;exact hf (.inl rfl)
  ·rw[if_neg (by omega)];refine⟨hx.nd,hx.rg,?_⟩
   show (m.syms p.body).1.nts+(((m.syms p.body).2.length-2:Nat):Int)=n0+((m.syms p.body).1.hs.length:Int)
   rw[hy,h1,hx.nt];omega
theorem help_le {n0:Int} {m:Mk} (h:HelpI n0 m):m.nts≤n0+16:=by
 have h1:=PR_ 16 _ h.nd h.rg;rw[aJ0]at h1;rw[h.nt];omega
theorem Ol_ {n0:Int} (hn:n0≤1000):∀{l:List Prod} {m:Mk},HelpI n0 m→(∀p∈l,(p.body=[]∨p.body.length=2)∧∀s∈p.body,s.label=true→0≤s.n∧s.n<16)→∃r,m.adds l=some r∧m.nts≤r.nts
 | [],m,_,_=>⟨m,rfl,Int.le_refl _⟩
 | p::l,m,h,hl=>by
  obtain⟨h1,h2⟩:=hl p aF0;have h3:=help_add h h1 h2;have h4:=help_le h3;have h5:=(Qs_ m p).2.1;obtain⟨r,h6,h7⟩:=Ol_ hn h3 fun q hq=>hl q (aD0 _ hq)
  refine⟨r,?_,by omega⟩;unfold Mk.adds;rw[if_neg (by omega)];exact h6
theorem ofC_there {c:Cnf} (h:Bi_ c=true) (hn:c.nts≤1000) (hp:∀p∈c.prods,p.body=[]∨p.body.length=2):∃x,ofC c=(x,0)∧Bi_ x=true∧(∀p∈x.prods,As_ p.body≠0)∧c.nts≤x.nts:=by
 obtain⟨_,h2⟩:=Ea_.1 h;have hi:HelpI c.nts (Mk.start c):=⟨by simp[Mk.start],by simp[Mk.start],by simp[Mk.start]⟩
 obtain⟨r,hr,hle⟩:=Ol_ hn (l:=c.prods) hi fun p hq=>⟨hp p hq,fun s hs hl=>by
  have:=(h2 p hq).2 s hs;unfold symG at this;rw[if_pos hl]at this
  exact this⟩
 rcases ofC_again c with ⟨x,e1,e2,e3,_⟩ | ⟨e,he,e1⟩
 ·refine⟨x,e1,e2,e3,?_⟩;rw[Rr_,if_pos h,hr]at e1;simp only[_root_.Prod.mk.injEq,and_true]at e1;rw[←e1];exact hle
 ·exfalso;rw[Rr_,if_pos h,hr]at e1;simp only[_root_.Prod.mk.injEq]at e1;exact he e1.2.symm
theorem Ou_ : ∀{l:List Nat},(∀x∈l,x=0)→l.sum=0
 | [],_=>rfl
 | x::l,h=>by rw[dH0,h x aF0,Ou_ fun y hy=>h y (aD0 _ hy)]
theorem sum_if {α:Type} [DecidableEq α] (k:Nat) (a:α):∀(l:List α),l.Nodup→(l.map fun s=>if a=s then k else 0).sum≤k
 | [],_=>by simp
 | b::l,h=>by
  obtain⟨h1,h2⟩:=cQ0.1 h;have ih:=sum_if k a l h2;rw[List.map_cons,dH0]
  split
  ·rename_i e;subst e
   have hz:(l.map fun s=>if a=s then k else 0).sum=0:=by
    refine Ou_ fun x hx=> ?_
    obtain⟨s,hs,rfl⟩:=aV0.1 hx;have hne:¬a=s:=fun e=>h1 (by rw[e];exact hs)
    rw[if_neg hne]
   omega
  ·omega
theorem Tj_ {α:Type} (f g:α→Nat):∀l:List α,(l.map fun s=>f s+g s).sum=(l.map f).sum+(l.map g).sum
 | []=>rfl
 | a::l=>by
  rw[List.map_cons,List.map_cons,List.map_cons,dH0,dH0,dH0,Tj_ f g l];omega
theorem Rs_ : ∀(g:List Rul) (hs:List ByteArray),hs.Nodup→(hs.map fun s=>occS (bsL g s)).sum≤occG g
 | [],hs,_=>by
  have:(hs.map fun s=>occS (bsL [] s)).sum=0:=by
   refine Ou_ fun x hx=> ?_
   obtain⟨s,_,rfl⟩:=aV0.1 hx;rfl
  omega
 | r::g,hs,h=>by
  have ih:=Rs_ g hs h
  have h1:∀s,occS (bsL (r::g) s)=(if r.h=s then occN r.b else 0)+occS (bsL g s):=by
   intro s
   by_cases hr:r.h=s<;>simp[bsL,occS,hr]
  have h2:occG (r::g)=occN r.b+occG g:=by simp[occG]
  have h3:=sum_if (occN r.b) r.h hs h;simp only[h1];rw[Tj_];omega
theorem sumS_aut {gt:GT} (h:OkgT gt):sumS (autL gt)≤80:=by
 have h1:=Rs_ (mkG gt) _ (JV_ (mkG gt))
 have h2:sumS (autL gt)=((Ar_ (mkG gt)).map fun s=>occS (bsL (mkG gt) s)+1).sum:=by
  unfold sumS autL;rw[cB0]
  congr 1
  refine cJ0 fun s _=> ?_
  show ((lvL (tsL gt s)).length+1:Int).toNat=_
  rw[SD_,EF_];omega
 have h3:∀l:List ByteArray,(l.map fun _=>1).sum=l.length:=by
  intro l
  induction l with
  | nil=>rfl
  | cons a l ih=>rw[List.map_cons,dH0,ih,List.length_cons];omega
 rw[h2,Tj_,h3];have:=h.hd;have:=h.oc;omega
theorem Sw_ (xs:List Auto) {a:Nat}:∀{b:Nat},a≤b→cntN xs a≤cntN xs b
 | 0,h=>by rw[Nat.le_zero.1 h];exact Nat.le_refl _
 | b+1,h=>by
  rcases Nat.lt_or_ge b a with h1 | h1
  ·rw[show a=b+1 by omega];exact Nat.le_refl _
  ·have:=Sw_ xs (b:=b) h1;rw[IW_];omega
theorem Tz_ {xs:List Auto} (hst:∀a∈xs,1≤a.st) {q:Nat} (h:q<sumS xs):ownQ xs q<sumS xs:=by
 have hl:=LJ_ xs;have hn:=nts_eq hst;have hk:=aH0 (show q<(ntL xs).length by omega);have h1:=nt_lt hk
 by_cases hq:q∈stL xs
 ·rw[TA_ hq hk];omega
 ·rw[OR_ hq];have h2:=Sw_ xs (show q+1≤sumS xs by omega);rw[IW_,if_neg hq]at h2;omega
theorem symS_G {H L:List ByteArray} (hL:L.length≤16) {N:Int} (hN:(H.length:Int)≤N) (h1:1≤N) (x:Nd):symG N (symS H L x):=by
 unfold symS symG
 split
 ·split
  ·rename_i h2;have:=JT_ h2;simp only[if_true];omega
  ·simp only[aL0,if_false];omega
 ·split
  ·split
   ·rename_i h2;have:=JT_ h2;simp only[aL0,if_false];omega
   ·simp only[aL0,if_false];omega
  ·simp only[aL0,if_false];omega
theorem arc_sym {gt:GT} (h:OkgT gt) {N:Int} (hN:((Ar_ (mkG gt)).length:Int)≤N) (h1:1≤N) {x:Arc} (hx:x∈arcA (autL gt)):symG N x.sy:=by
 unfold arcA at hx;obtain⟨p,hp,hx⟩:=bR0.1 hx;obtain⟨y,hy,rfl⟩:=aV0.1 hx;have h2:=(EY_ hp).1;unfold autL at h2;obtain⟨s,_,hs⟩:=aV0.1 h2;rw[←hs]at hy;obtain⟨p,q,_,_,_,rfl⟩:=arc_num (show y∈Qh_ (syG (mkG gt)) (tsL gt s) from hy);unfold mvA;simp only;rw[bG0]
 cases hg:(syL (syG (mkG gt)) (tsL gt s))[q-1]? with
 | none=>simp[symG];omega
 | some z =>
  have h3:=bL0 hg;unfold syL at h3;obtain⟨n,_,rfl⟩:=aV0.1 h3;exact symS_G h.lb hN h1 n
theorem YF_ {gt:GT} (h:OkgT gt) (hst:∀a∈autL gt,SmA a):∃x,ofC (Br_ (cnfM (autL gt)))=(x,0)∧Bi_ x=true∧(∀p∈x.prods,As_ p.body≠0)∧((Ar_ (mkG gt)).length:Int)≤x.nts:=by
 have hst1:∀a∈autL gt,1≤a.st:=fun a ha=>(LH_ (hst a ha).ok).1
 have h1:=nts_eq hst1;have h2:=sumS_aut h;have h3:=Ja_ gt;have hn0:(cnfM (autL gt)).nts=(sumS (autL gt):Int):=by show (((autL gt).length+cntN (autL gt) (sumS (autL gt)):Nat):Int)=_;rw[h1]
 have hne:=PE_ h;have hN:((Ar_ (mkG gt)).length:Int)≤(cnfM (autL gt)).nts:=by rw[hn0];omega
 have hok:Bi_ (cnfM (autL gt))=true:=by
  rw[Ea_];refine⟨⟨by omega,by omega⟩,fun p hp=> ?_⟩
  rcases aI0.1 (show p∈(finA (autL gt)).map (pF (autL gt))++(arcA (autL gt)).map (pA (autL gt)) from hp)with hp | hp
  ·obtain⟨q,hq,rfl⟩:=aV0.1 hp;have h5:=Ua_ hst hq;have h6:=Tz_ hst1 h5.2;refine⟨?_,by simp[pF]⟩
   show (0:Int)≤(ownQ (autL gt) q.toNat:Int)∧(ownQ (autL gt) q.toNat:Int)<_
   omega
  ·obtain⟨x,hx,rfl⟩:=aV0.1 hp;have h5:=Ut_ hst hx;have h6:=Tz_ hst1 h5.2.1;have h7:=Tz_ hst1 h5.2.2.2;have h8:=arc_sym h hN (by omega) hx;refine⟨?_,?_⟩
   ·show (0:Int)≤(ownQ (autL gt) x.fr.toNat:Int)∧(ownQ (autL gt) x.fr.toNat:Int)<_
    omega
   ·intro s hs;simp only[pA,aK0,dX0,or_false]at hs
    rcases hs with rfl | rfl
    ·exact h8
    ·simp only[symG,aL0,if_false];omega
 have hok2:Bi_ (Br_ (cnfM (autL gt)))=true:=by rw[NV_];exact hok
 have hnn:(Br_ (cnfM (autL gt))).nts=(cnfM (autL gt)).nts:=rfl
 obtain⟨x,e1,e2,e3,e4⟩:=ofC_there hok2 (by rw[hnn];omega) fun p hp=>by
  have hp2:=(KA_ _ p).1 hp
  rcases aI0.1 (show p∈(finA (autL gt)).map (pF (autL gt))++(arcA (autL gt)).map (pA (autL gt)) from hp2)with hp2 | hp2
  ·obtain⟨q,_,rfl⟩:=aV0.1 hp2;exact .inl rfl
  ·obtain⟨x,_,rfl⟩:=aV0.1 hp2;exact .inr rfl
 exact⟨x,e1,e2,e3,by omega⟩
end Go.Proofs.YtchgnpnbcjflcaaGreat
end
section
namespace Go.Proofs.YtchgnpnbcjflcaaGreat
open Go Go.Dm
variable [DMode]
attribute [local irreducible] DW Bj_ Bp_
set_option maxRecDepth 100000
def Xk_ : Ann:=⟨[],[]⟩
set_option maxHeartbeats 4000000 in
theorem ris_pure (c:Cnf):Ac_ Tryz.prog 221 [.agg (dCnf c)] (.bool (CZ_ c)):=by
 refine Aa_ [] Xk_ Tryz.func221 Tryz.call221 Tryz.ntmps221 mxd (aj2 @Xk_.eq_1 Tryz.results221) rfl (by simp) (by simp[mx]) fun hwf B hnt hgAnn=> ?_
 have hw:wCnf c:=SY_ (by simpa[wfL,wfD]using hwf.1);obtain⟨hw1,hw2,hw3,hw4⟩:=hw;clear hwf;simp only[argS];have hc:=HJ_ c;simp only[dCnf]at hc;cases h0:Bi_ c
 ·rw[h0]at hc;have hwk:CZ_ c=false:=by simp[CZ_,h0]
  exact go0 (aj1 hc) aj0 (aj2 @dCnf.eq_1 hwk)
 rw[h0]at hc;have hwk:CZ_ c= !c.prods.any CX_:=by simp[CZ_,h0]
 (refine go1 (aj1 hc) aj0 (aj1 @dCnf.eq_1) ?_;intros;refine mk_i ?_)
 refine Ae_ (X:={k:Nat//k≤c.prods.length∧(c.prods.take k).any CX_=false}) (fun k=>⟨[(1,.ref [.int .i64 c.nts,Bh_ c.prods]),(3,.int .i64 k.1)],[]⟩) (fun k=>c.prods.length-k.1) ⟨0,by simp⟩ (Sub.lit (by simp)) ?_;rintro⟨k,hk,hkk⟩
 by_cases hlt:k<c.prods.length
 rotate_left
 ·have hke:k=c.prods.length:=by omega
  subst hke;rw[aQ0]at hkk;rw[hkk]at hwk;exact go0 aj0 aj0 (aj2 @dCnf.eq_1 hwk)
 obtain⟨p,hp,hp',hpm⟩:=Ak_ hlt;obtain⟨hw5,hw6,hw7,hw8⟩:=hw4 p hpm;have hv:=weak_pure p.body;cases hf:(As_ p.body==0)
 ·rw[hf]at hv
  have hst:(c.prods.take (k+1)).any CX_=false:=by
   rw[dR0 hlt,eB0,hkk,hp'];simp[CX_,hf]
  (refine go1 (aj1 hv) aj0 (aj4 @dCnf.eq_1 @Ad_.eq_1 hlt hp') ?_;intros;refine mk_i ?_)
  refine Aj_.mk ⟨k+1,by omega,hst⟩ (Sub.lit (by simp)) (by simp;omega)
  skip
 ·rw[hf]at hv;have hot:c.prods.any CX_=true:=bZ0.2 ⟨p,hpm,by simp[CX_,hf]⟩;rw[hot]at hwk;exact go0 (aj1 hv) aj0 (aj5 @dCnf.eq_1 @Ad_.eq_1 hlt hp' hwk)
end Go.Proofs.YtchgnpnbcjflcaaGreat
end
section
namespace Go.Proofs.YtchgnpnbcjflcaaGreat
open Go Go.Dm
attribute [local irreducible] DW Bj_ Bp_
set_option maxRecDepth 100000
structure Stp where
 pr:Int
 fr:Int
 to:Int
def dStp (x:Stp):List DVal:=[.int .i64 x.pr,.int .i64 x.fr,.int .i64 x.to]
abbrev CK_ (l:List Stp):DVal:= .sl 3 24 (l.map dStp)
@[simp] theorem mx_dStp (s:Stp):mxL (dStp s)=0:=by simp[dStp,mxL,mx]
@[simp] theorem mx_dStps (l:List Stp):mxR (l.map dStp)=0:=mxR0 _ mx_dStp l
def twoF (rec:Int→List Stp→Int→Int→Nat) (a b:Sym) (l:List Stp) (i j:Int):Nat :=
 match l with
 | []=>0
 | t::_=>if i≤t.to∧t.to≤j then (if rec a.n l i t.to=0 then 0 else if rec b.n (l.drop (rec a.n l i t.to)) t.to j=0 then 0 else 1+rec a.n l i t.to+rec b.n (l.drop (rec a.n l i t.to)) t.to j)else 0
def Ds_ (rec:Int→List Stp→Int→Int→Nat) (w:List Int) (body:List Sym) (l:List Stp) (i j:Int):Nat :=
 match body with
 | []=>if i=j then 1 else 0
 | [a]=>if j=i+1∧w[i.toNat]? =some a.n then 1 else 0
 | a::b::_=>twoF rec a b l i j
def Md_ (rec:Int→List Stp→Int→Int→Nat) (w:List Int) (nt:Int) (p:Option Prod) (l:List Stp) (i j:Int):Nat :=
 match p with
 | none=>0
 | some p=>if p.head=nt then Ds_ rec w p.body l i j else 0
def rgtF (rec:Int→List Stp→Int→Int→Nat) (c:Cnf) (w:List Int) (nt:Int) (l:List Stp) (i j:Int):Nat :=
 match l with
 | []=>0
 | s::l=>if 0≤s.pr∧s.pr<c.prods.length∧s.fr=i∧s.to=j then Md_ rec w nt c.prods[s.pr.toNat]? l i j else 0
def rgt (c:Cnf) (w:List Int):Nat→Int→List Stp→Int→Int→Nat
 | 0=>fun _ _ _ _=>0
 | n+1=>rgtF (rgt c w n) c w
theorem Tt_ (c:Cnf) (w:List Int) (n:Nat) (nt i j:Int):rgt c w n nt [] i j=0:=by cases n<;>rfl
theorem Kw_ (c:Cnf) (w:List Int) (n:Nat) (nt i j:Int) (s:Stp) (l:List Stp):rgt c w (n+1) nt (s::l) i j=if 0≤s.pr∧s.pr<c.prods.length∧s.fr=i∧s.to=j then Md_ (rgt c w n) w nt c.prods[s.pr.toNat]? l i j else 0:=rfl
theorem JO_ (c:Cnf) (w:List Int):∀(n:Nat) (nt i j:Int) (l:List Stp),rgt c w n nt l i j≤l.length
 | 0,_,_,_,_=>cL0 _
 | n+1,nt,i,j,[]=>by rw[Tt_];exact cL0 _
 | n+1,nt,i,j,s::l=>by
  rw[Kw_]
  split
  ·unfold Md_
   split
   ·exact cL0 _
   ·split
    ·unfold Ds_
     split
     ·split<;>simp
     ·split<;>simp
     ·unfold twoF
      split
      ·exact cL0 _
      ·rename_i t l'
       split
       ·split
        ·exact cL0 _
        ·split
         ·exact cL0 _
         ·rename_i a b _ _ _ _ _ _;have h1:=JO_ c w n a.n i t.to (t::l');have h2:=JO_ c w n b.n t.to j ((t::l').drop (rgt c w n a.n (t::l') i t.to));rw[bS0]at h2;rw[List.length_cons (a:=s)];omega
       ·exact cL0 _
    ·exact cL0 _
  ·exact cL0 _
theorem rgt_fr {c:Cnf} {w:List Int} {n:Nat} {nt i j:Int} {s:Stp} {l:List Stp} (h:rgt c w n nt (s::l) i j≠0):s.fr=i:=by
 cases n with
 | zero=>exact absurd rfl h
 | succ n =>
  rw[Kw_]at h
  split at h
  ·rename_i hh;exact hh.2.2.1
  ·exact absurd rfl h
def Ep_ : Ann:=⟨[],[⟨3,[13],[],[0,1,2,3,4,5,6,7]⟩]⟩
theorem right_nil (c:Cnf) (w:List Int) (n:Nat) (nt i j:Int):Ac_ Tryz.prog 157 [.agg (dCnf c),.int .i64 nt,Bn_ w,CK_ [],.int .i64 i,.int .i64 j] (.int .i64 (rgt c w n nt [] i j:Int)):=by
 rw[Tt_];refine Aa_ [] Ep_ Tryz.func157 Tryz.call157 Tryz.ntmps157 mxd (aj2 @Ep_.eq_1 Tryz.results157) rfl (by simp) (by simp[mx]) fun hwf B hnt hgAnn=> ?_
 clear hwf;simp only[argS];exact go0 aj0 aj0 (aj1 @dCnf.eq_1)
set_option maxHeartbeats 8000000 in
theorem Zb_ (c:Cnf) (w:List Int) (hw:w.length≤64) (n:Nat) (ih:∀(nt i j:Int) (l:List Stp),l.length≤n→l.length≤4096→0≤i→i≤j→j≤w.length→Ac_ Tryz.prog 157 [.agg (dCnf c),.int .i64 nt,Bn_ w,CK_ l,.int .i64 i,.int .i64 j] (.int .i64 (rgt c w n nt l i j:Int))) (nt i j:Int) (s:Stp) (l:List Stp) (hl:(s::l).length≤n+1) (hm:(s::l).length≤4096) (hi:0≤i) (hij:i≤j) (hj:j≤w.length):Ac_ Tryz.prog 157 [.agg (dCnf c),.int .i64 nt,Bn_ w,CK_ (s::l),.int .i64 i,.int .i64 j] (.int .i64 (rgt c w (n+1) nt (s::l) i j:Int)):=by
 rw[Kw_];refine Aa_ [] Ep_ Tryz.func157 Tryz.call157 Tryz.ntmps157 mxd (aj2 @Ep_.eq_1 Tryz.results157) rfl (by simp) (by simp[mx,dStp]) fun hwf B hnt hgAnn=> ?_
 clear hwf;simp only[argS]
 by_cases h1:s.pr<0
 ·rw[if_neg (by omega)];exact go0 aj0 aj0 (aj3 @dStp.eq_1 @dCnf.eq_1 h1)
 by_cases h2:(c.prods.length:Int)≤s.pr
 ·rw[if_neg (by omega)];exact go0 aj0 aj0 (aj4 @dStp.eq_1 @dCnf.eq_1 h1 h2)
 by_cases h3:s.fr=i
 rotate_left
 ·rw[if_neg (by omega)];have h3b:(s.fr != i)=true:=by simpa using h3
  exact go0 aj0 aj0 (aj6 @dStp.eq_1 @dCnf.eq_1 h1 h2 h3 h3b)
 by_cases h4:s.to=j
 rotate_left
 ·rw[if_neg (by omega)];have h4b:(s.to != j)=true:=by simpa using h4
  exact go0 aj0 aj0 (aj7 @dStp.eq_1 @dCnf.eq_1 h1 h2 h3 h4 h4b)
 rw[if_pos (by omega)];obtain⟨p,hp,hp',hpm⟩:=Ak_ (l:=c.prods) (k:=s.pr.toNat) (by omega);rw[hp];have h5:s.pr.toNat<c.prods.length:=by omega
 by_cases h6:p.head=nt
 rotate_left
 ·have e:Md_ (rgt c w n) w nt (some p) l i j=0:=by unfold Md_;simp only;rw[if_neg h6]
  rw[e];have h6b:(p.head != nt)=true:=by simpa using h6
  exact go0 aj0 aj0 (aj11 @dStp.eq_1 @dCnf.eq_1 @Ad_.eq_1 h1 h2 h3 h4 h5 hp' h6 h6b)
 have e0:Md_ (rgt c w n) w nt (some p) l i j=Ds_ (rgt c w n) w p.body l i j:=by unfold Md_;simp only;rw[if_pos h6]
 rw[e0];clear e0;obtain⟨hd,body⟩:=p;simp only at h6 hp' ⊢
 match body with
 | [] =>
  by_cases h7:i=j
  ·have e:Ds_ (rgt c w n) w [] l i j=1:=by unfold Ds_;simp only;rw[if_pos h7]
   rw[e];exact go0 aj0 aj0 (aj11 @dStp.eq_1 @dCnf.eq_1 @Ad_.eq_1 h1 h2 h3 h4 h5 hp' h6 h7)
  ·have e:Ds_ (rgt c w n) w [] l i j=0:=by unfold Ds_;simp only;rw[if_neg h7]
   rw[e];have h7b:(i==j)=false:=by simpa using h7
   cases hq:w[i.toNat]? <;>cases l<;>exact go0 aj0 aj0 (aj14 @dStp.eq_1 @dCnf.eq_1 @Ad_.eq_1 @dNum.eq_1 h1 h2 h3 h4 h5 hp' h6 h7 h7b hq)
 | [a] =>
  have w1:IntKind.i64.wrap (i+1)=i+1:=wq
  by_cases h7:j=i+1
  ·obtain⟨x,hx,hx',_⟩:=Ak_ (l:=w) (k:=i.toNat) (by omega);have h8:i.toNat<w.length:=by omega
   have h9:¬i<0:=by omega
   by_cases h10:x=a.n
   ·have e:Ds_ (rgt c w n) w [a] l i j=1:=by unfold Ds_;simp only;rw[if_pos ⟨h7,by rw[hx,h10]⟩]
    rw[e];exact go0 aj0 aj0 (aj2 (aj16 @dStp.eq_1 @dCnf.eq_1 @Ad_.eq_1 @dSym.eq_1 @dNum.eq_1 h1 h2 h3 h4 h5 hp' h6 h7 w1 hx' h8) (aj2 h9 h10))
   ·have e:Ds_ (rgt c w n) w [a] l i j=0:=by unfold Ds_;simp only;rw[if_neg (by rintro⟨_,hh⟩;rw[hx]at hh;exact h10 (Option.some.inj hh))]
    rw[e];have h10b:(x==a.n)=false:=by simpa using h10
    cases l<;>exact go0 aj0 aj0 (aj2 (aj16 @dStp.eq_1 @dCnf.eq_1 @Ad_.eq_1 @dSym.eq_1 @dNum.eq_1 h1 h2 h3 h4 h5 hp' h6 h7 w1 hx' h8) (aj3 h9 h10 h10b))
  ·have e:Ds_ (rgt c w n) w [a] l i j=0:=by unfold Ds_;simp only;rw[if_neg (fun hh=>h7 hh.1)]
   rw[e];have h7b:(j==i+1)=false:=by simpa using h7
   cases hq:w[i.toNat]? <;>cases l<;>exact go0 aj0 aj0 (aj16 @dStp.eq_1 @dCnf.eq_1 @Ad_.eq_1 @dSym.eq_1 @dNum.eq_1 h1 h2 h3 h4 h5 hp' h6 h7 h7b w1 hq)
 | a::b::r =>
  have h0:Ds_ (rgt c w n) w (a::b::r) l i j=twoF (rgt c w n) a b l i j:=rfl;rw[h0];clear h0;have q1:¬r.length+1+1=1:=by omega
  have q1b:¬((r.length:Int)+1+1)=1:=by omega
  have q1c:((r.length:Int)+1+1==1)=false:=by simpa using q1b
  have q0b:¬((r.length:Int)+1+1)=0:=by omega
  have q0c:((r.length:Int)+1+1==0)=false:=by simpa using q0b
  have q2:¬((r.length:Int)+1+1)<2:=by omega
  have q3:(1:Int)<(r.length:Int)+1+1:=by omega
  match l with
  | [] =>
   have e:twoF (rgt c w n) a b [] i j=0:=rfl;rw[e];cases hq:w[i.toNat]? <;>exact go0 aj0 aj0 (aj2 (aj16 @dStp.eq_1 @dCnf.eq_1 @Ad_.eq_1 @dSym.eq_1 @dNum.eq_1 hq h1 h2 h3 h4 h5 hp' h6 q1 q1b q1c) (aj3 q0b q0c q2))
  | t::l' =>
   have hl2:(t::l').length≤n:=by simp only[List.length_cons]at hl ⊢;omega
   have hm2:(t::l').length≤4096:=by simp only[List.length_cons]at hm ⊢;omega
   have p2:¬((l'.length:Int)+1+1)<2:=by omega
   have k1:((l'.length:Int)+1+1).toNat-1=l'.length+1:=by omega
   have k2:∀x,List.take (l'.length+1) (x::List.map dStp l')=x::List.map dStp l':=fun x=>bW0 (by simp)
   by_cases h7:t.fr=i
   rotate_left
   ·have e:twoF (rgt c w n) a b (t::l') i j=0:=by
     unfold twoF;simp only
     have hz:∀nt j,rgt c w n nt (t::l') i j=0:=fun nt j=>by
      by_cases hh:rgt c w n nt (t::l') i j=0
      ·exact hh
      ·exact absurd (rgt_fr hh) h7
     rw[hz];simp
    rw[e];have h7b:(t.fr != i)=true:=by simpa using h7
    cases hq:w[i.toNat]? <;>exact go0 aj0 aj0 (aj2 (aj16 @dStp.eq_1 @dCnf.eq_1 @Ad_.eq_1 @dSym.eq_1 @dNum.eq_1 hq h1 h2 h3 h4 h5 hp' h6 q1 q1b q1c) (aj6 q0b q0c q2 p2 h7 h7b))
   by_cases h8:t.to<i
   ·have e:twoF (rgt c w n) a b (t::l') i j=0:=by unfold twoF;simp only;rw[if_neg (by omega)]
    rw[e];cases hq:w[i.toNat]? <;>exact go0 aj0 aj0 (aj2 (aj16 @dStp.eq_1 @dCnf.eq_1 @Ad_.eq_1 @dSym.eq_1 @dNum.eq_1 hq h1 h2 h3 h4 h5 hp' h6 q1 q1b q1c) (aj6 q0b q0c q2 p2 h7 h8))
   by_cases h9:j<t.to
   ·have e:twoF (rgt c w n) a b (t::l') i j=0:=by unfold twoF;simp only;rw[if_neg (by omega)]
    rw[e];cases hq:w[i.toNat]? <;>exact go0 aj0 aj0 (aj2 (aj16 @dStp.eq_1 @dCnf.eq_1 @Ad_.eq_1 @dSym.eq_1 @dNum.eq_1 hq h1 h2 h3 h4 h5 hp' h6 q1 q1b q1c) (aj7 q0b q0c q2 p2 h7 h8 h9))
   have e1:=ih a.n i t.to (t::l') hl2 hm2 hi (by omega) (by omega);have hle:=JO_ c w n a.n i t.to (t::l')
   have e3:twoF (rgt c w n) a b (t::l') i j=if rgt c w n a.n (t::l') i t.to=0 then 0 else if rgt c w n b.n ((t::l').drop (rgt c w n a.n (t::l') i t.to)) t.to j=0 then 0 else 1+rgt c w n a.n (t::l') i t.to+rgt c w n b.n ((t::l').drop (rgt c w n a.n (t::l') i t.to)) t.to j:=by
    unfold twoF;simp only;rw[if_pos (by omega)]
   rw[e3];clear e3;have e2:=fun(k:Nat)=>ih b.n t.to j ((t::l').drop k) (by rw[bS0];omega) (by rw[bS0];omega) (by omega) (by omega) hj
   have hl2':=fun k=>JO_ c w n b.n t.to j ((t::l').drop k)
   obtain⟨o,ho⟩:∃o,o=rgt c w n a.n (t::l') i t.to:=⟨_,rfl⟩;rw[←ho]at e1 hle ⊢;simp only[List.length_cons]at hle hm2
   by_cases h10:o=0
   ·subst h10;rw[if_pos rfl];simp only[CK_,List.map_cons,dCnf,dStp,h7]at e1;cases hq:w[i.toNat]? <;>exact go0 (aj1 e1) aj0 (aj2 (aj16 @dStp.eq_1 @dCnf.eq_1 @Ad_.eq_1 @dSym.eq_1 @dNum.eq_1 hq h1 h2 h3 h4 h5 hp' h6 q1 q1b q1c) (aj10 q0b q0c q2 q3 p2 k1 k2 h7 h8 h9))
   ·rw[if_neg h10];have e4:=e2 o;have hl4:=hl2' o;obtain⟨u,hu⟩:∃u,u=rgt c w n b.n ((t::l').drop o) t.to j:=⟨_,rfl⟩;rw[←hu]at e4 hl4 ⊢;rw[bS0,List.length_cons]at hl4;have h10b:¬(o:Int)=0:=by omega
    have h10c:((o:Int)==0)=false:=by simpa using h10b
    have w2:IntKind.i64.wrap (1+(o:Int))=1+(o:Int):=wq;have w3:(1+(o:Int)).toNat=o+1:=by omega
    have k3:((l'.length:Int)+1+1).toNat-(o+1)=l'.length+1-o:=by omega
    have k4:∀x,List.take (l'.length+1-o) (List.drop o (x::List.map dStp l'))=List.drop o (x::List.map dStp l'):=fun x=>bW0 (by simp)
    have g1:¬(1+(o:Int))<0:=by omega
    have g2:1+(o:Int)≤(l'.length:Int)+1+1:=by omega
    have w4:IntKind.i64.wrap (1+(o:Int)+(u:Int))=1+(o:Int)+(u:Int):=wq;have g3:(0:Int)≤1+(o:Int):=by omega
    have g4:o+1≤l'.length+1+1:=by omega
    simp only[dCnf,CK_,dStp,List.map_drop,List.map_cons,h7]at e4;simp only[CK_,List.map_cons,dCnf,dStp,h7]at e1
    by_cases h11:u=0
    ·rw[if_pos h11];rw[h11]at e4;cases hq:w[i.toNat]? <;>(repeat (first | refine Aw_ fun K hK=> ?_ | (refine DW_r Ep_ mxd (by kernel_rfl) ?_;simp[Ep_,hnt,dStp,dCnf,Ad_,dSym,dNum,hq,h1,h2,h3,h4,h5,hp',h6,q1,q1b,q1c,q0b,q0c,q2,q3,p2,k1,k2,h7,h8,h9,h10,h10b,h10c,w2,w3,k3,k4,g1,g2,g3,g4];try simp (disch:=omega) only[Ah_]) | refine Al_ ?_ | (refine AJ_ ?_ ?_ ?_;(· (simp[hnt,dStp,dCnf,Ad_,dSym,dNum,hq,h1,h2,h3,h4,h5,hp',h6,q1,q1b,q1c,q0b,q0c,q2,q3,p2,k1,k2,h7,h8,h9,h10,h10b,h10c,w2,w3,k3,k4,g1,g2,g3,g4];done));(try (rotate_left;(· (intro hc;(try simp[hnt,dStp,dCnf,Ad_,dSym,dNum,hq,h1,h2,h3,h4,h5,hp',h6,q1,q1b,q1c,q0b,q0c,q2,q3,p2,k1,k2,h7,h8,h9,h10,h10b,h10c,w2,w3,k3,k4,g1,g2,g3,g4]at hc);done))))) | (refine Ay_ ?_;simp[Tryz.results157,hnt,dStp,dCnf,Ad_,dSym,dNum,hq,h1,h2,h3,h4,h5,hp',h6,q1,q1b,q1c,q0b,q0c,q2,q3,p2,k1,k2,h7,h8,h9,h10,h10b,h10c,w2,w3,k3,k4,g1,g2,g3,g4]) | ((first | refine Aq_ ?_ | refine Ap_ ?_);simp[hnt,dStp,dCnf,Ad_,dSym,dNum,hq,h1,h2,h3,h4,h5,hp',h6,q1,q1b,q1c,q0b,q0c,q2,q3,p2,k1,k2,h7,h8,h9,h10,h10b,h10c,w2,w3,k3,k4,g1,g2,g3,g4]) | (intro hc;(try simp[hnt,dStp,dCnf,Ad_,dSym,dNum,hq,h1,h2,h3,h4,h5,hp',h6,q1,q1b,q1c,q0b,q0c,q2,q3,p2,k1,k2,h7,h8,h9,h10,h10b,h10c,w2,w3,k3,k4,g1,g2,g3,g4]at hc);(try (exfalso;omega))) | ((first | refine Ag_ (e1) ?_ | refine Ag_ (e4) ?_ | (refine Af_ (e1) ?_ ?_;(· (simp;done))) | (refine Af_ (e4) ?_ ?_;(· (simp;done))));try simp[hnt,dStp,dCnf,Ad_,dSym,dNum,hq,h1,h2,h3,h4,h5,hp',h6,q1,q1b,q1c,q0b,q0c,q2,q3,p2,k1,k2,h7,h8,h9,h10,h10b,h10c,w2,w3,k3,k4,g1,g2,g3,g4]) | (refine⟨?_,?_⟩; · omega) | omega | apply_assumption -exfalso -symm | (exfalso;omega)))
    ·rw[if_neg h11];have h11b:¬(u:Int)=0:=by omega
     have h11c:((u:Int)==0)=false:=by simpa using h11b
     have hR:((1+o+u:Nat):Int)=1+(o:Int)+(u:Int):=by omega
     rw[hR];cases hq:w[i.toNat]? <;>(repeat (first | refine Aw_ fun K hK=> ?_ | (refine DW_r Ep_ mxd (by kernel_rfl) ?_;simp[Ep_,hnt,dStp,dCnf,Ad_,dSym,dNum,hq,h1,h2,h3,h4,h5,hp',h6,q1,q1b,q1c,q0b,q0c,q2,q3,p2,k1,k2,h7,h8,h9,h10,h10b,h10c,w2,w3,k3,k4,g1,g2,g3,g4,h11,h11b,h11c,w4];try simp (disch:=omega) only[Ah_]) | refine Al_ ?_ | (refine AJ_ ?_ ?_ ?_;(· (simp[hnt,dStp,dCnf,Ad_,dSym,dNum,hq,h1,h2,h3,h4,h5,hp',h6,q1,q1b,q1c,q0b,q0c,q2,q3,p2,k1,k2,h7,h8,h9,h10,h10b,h10c,w2,w3,k3,k4,g1,g2,g3,g4,h11,h11b,h11c,w4];done));(try (rotate_left;(· (intro hc;(try simp[hnt,dStp,dCnf,Ad_,dSym,dNum,hq,h1,h2,h3,h4,h5,hp',h6,q1,q1b,q1c,q0b,q0c,q2,q3,p2,k1,k2,h7,h8,h9,h10,h10b,h10c,w2,w3,k3,k4,g1,g2,g3,g4,h11,h11b,h11c,w4]at hc);done))))) | (refine Ay_ ?_;simp[Tryz.results157,hnt,dStp,dCnf,Ad_,dSym,dNum,hq,h1,h2,h3,h4,h5,hp',h6,q1,q1b,q1c,q0b,q0c,q2,q3,p2,k1,k2,h7,h8,h9,h10,h10b,h10c,w2,w3,k3,k4,g1,g2,g3,g4,h11,h11b,h11c,w4]) | ((first | refine Aq_ ?_ | refine Ap_ ?_);simp[hnt,dStp,dCnf,Ad_,dSym,dNum,hq,h1,h2,h3,h4,h5,hp',h6,q1,q1b,q1c,q0b,q0c,q2,q3,p2,k1,k2,h7,h8,h9,h10,h10b,h10c,w2,w3,k3,k4,g1,g2,g3,g4,h11,h11b,h11c,w4]) | (intro hc;(try simp[hnt,dStp,dCnf,Ad_,dSym,dNum,hq,h1,h2,h3,h4,h5,hp',h6,q1,q1b,q1c,q0b,q0c,q2,q3,p2,k1,k2,h7,h8,h9,h10,h10b,h10c,w2,w3,k3,k4,g1,g2,g3,g4,h11,h11b,h11c,w4]at hc);(try (exfalso;omega))) | ((first | refine Ag_ (e1) ?_ | refine Ag_ (e4) ?_ | (refine Af_ (e1) ?_ ?_;(· (simp;done))) | (refine Af_ (e4) ?_ ?_;(· (simp;done))));try simp[hnt,dStp,dCnf,Ad_,dSym,dNum,hq,h1,h2,h3,h4,h5,hp',h6,q1,q1b,q1c,q0b,q0c,q2,q3,p2,k1,k2,h7,h8,h9,h10,h10b,h10c,w2,w3,k3,k4,g1,g2,g3,g4,h11,h11b,h11c,w4]) | (refine⟨?_,?_⟩; · omega) | omega | apply_assumption -exfalso -symm | (exfalso;omega)))
theorem Ny_ (c:Cnf) (w:List Int) (hw:w.length≤64):∀(n:Nat) (nt i j:Int) (l:List Stp),l.length≤n→l.length≤4096→0≤i→i≤j→j≤w.length→Ac_ Tryz.prog 157 [.agg (dCnf c),.int .i64 nt,Bn_ w,CK_ l,.int .i64 i,.int .i64 j] (.int .i64 (rgt c w n nt l i j:Int))
 | n,nt,i,j,[],_,_,_,_,_=>right_nil c w n nt i j
 | 0,nt,i,j,s::l,hl,_,_,_,_=>absurd hl (by simp)
 | n+1,nt,i,j,s::l,hl,hm,hi,hij,hj=>Zb_ c w hw n (Ny_ c w hw n) nt i j s l hl hm hi hij hj
def Fk_ (k n:Nat):Int:=if k=0 then -1 else (n:Int)-(k:Int)
def La_ : Ann:=⟨[],[⟨3,[13],[],[]⟩]⟩
theorem left_nil (c:Cnf) (w:List Int) (n:Nat) (nt i j:Int):Ac_ Tryz.prog 160 [.agg (dCnf c),.int .i64 nt,Bn_ w,CK_ [],.int .i64 i,.int .i64 j] (.int .i64 (Fk_ (rgt c w n nt [] i j) ([]:List Stp).length)):=by
 rw[Tt_];refine Aa_ [] La_ Tryz.func160 Tryz.call160 Tryz.ntmps160 mxd (aj2 @La_.eq_1 Tryz.results160) rfl (by simp) (by simp[mx]) fun hwf B hnt hgAnn=> ?_
 clear hwf;simp only[argS,Fk_,if_true];exact go0 aj0 aj0 (aj1 @dCnf.eq_1)
set_option maxHeartbeats 8000000 in
theorem left_step (c:Cnf) (w:List Int) (hw:w.length≤64) (n:Nat) (ih:∀(nt i j:Int) (l:List Stp),l.length≤n→l.length≤4096→0≤i→i≤j→j≤w.length→Ac_ Tryz.prog 160 [.agg (dCnf c),.int .i64 nt,Bn_ w,CK_ l,.int .i64 i,.int .i64 j] (.int .i64 (Fk_ (rgt c w n nt l i j) l.length))) (nt i j:Int) (s:Stp) (l:List Stp) (hl:(s::l).length≤n+1) (hm:(s::l).length≤4096) (hi:0≤i) (hij:i≤j) (hj:j≤w.length):Ac_ Tryz.prog 160 [.agg (dCnf c),.int .i64 nt,Bn_ w,CK_ (s::l),.int .i64 i,.int .i64 j] (.int .i64 (Fk_ (rgt c w (n+1) nt (s::l) i j) (s::l).length)):=by
 rw[Kw_];refine Aa_ [1] La_ Tryz.func160 Tryz.call160 Tryz.ntmps160 mxd (aj2 @La_.eq_1 Tryz.results160) rfl (by simp) (by simp[mx,dStp]) fun hwf B hnt hgAnn=> ?_
 clear hwf;simp only[argS];have z0:Fk_ 0 (s::l).length= -1:=rfl
 by_cases h1:s.pr<0
 ·rw[if_neg (by omega),z0];cases hz:c.prods[s.pr.toNat]? <;>exact go0 aj0 aj0 (aj5 @dStp.eq_1 @dCnf.eq_1 @Ad_.eq_1 hz h1)
 by_cases h2:(c.prods.length:Int)≤s.pr
 ·rw[if_neg (by omega),z0];cases hz:c.prods[s.pr.toNat]? <;>exact go0 aj0 aj0 (aj6 @dStp.eq_1 @dCnf.eq_1 @Ad_.eq_1 hz h1 h2)
 by_cases h3:s.fr=i
 rotate_left
 ·rw[if_neg (by omega),z0];have h3b:(s.fr != i)=true:=by simpa using h3
  cases hz:c.prods[s.pr.toNat]? <;>exact go0 aj0 aj0 (aj8 @dStp.eq_1 @dCnf.eq_1 @Ad_.eq_1 hz h1 h2 h3 h3b)
 by_cases h4:s.to=j
 rotate_left
 ·rw[if_neg (by omega),z0];have h4b:(s.to != j)=true:=by simpa using h4
  cases hz:c.prods[s.pr.toNat]? <;>exact go0 aj0 aj0 (aj9 @dStp.eq_1 @dCnf.eq_1 @Ad_.eq_1 hz h1 h2 h3 h4 h4b)
 rw[if_pos (by omega)];obtain⟨p,hp,hp',hpm⟩:=Ak_ (l:=c.prods) (k:=s.pr.toNat) (by omega);rw[hp];have h5:s.pr.toNat<c.prods.length:=by omega
 by_cases h6:p.head=nt
 rotate_left
 ·have e:Md_ (rgt c w n) w nt (some p) l i j=0:=by unfold Md_;simp only;rw[if_neg h6]
  rw[e,z0];have h6b:(p.head != nt)=true:=by simpa using h6
  exact go0 aj0 aj0 (aj11 @dStp.eq_1 @dCnf.eq_1 @Ad_.eq_1 h1 h2 h3 h4 h5 hp' h6 h6b)
 have e0:Md_ (rgt c w n) w nt (some p) l i j=Ds_ (rgt c w n) w p.body l i j:=by unfold Md_;simp only;rw[if_pos h6]
 rw[e0];clear e0;obtain⟨hd,body⟩:=p;simp only at h6 hp' ⊢;have w0:IntKind.i64.wrap (l.length:Int)=(l.length:Int):=Ah_ (by omega) (by simp only[List.length_cons]at hm;omega);have z1:Fk_ 1 (s::l).length=(l.length:Int):=by unfold Fk_;rw[if_neg (by omega),List.length_cons];omega
 match body with
 | [] =>
  by_cases h7:i=j
  ·have e:Ds_ (rgt c w n) w [] l i j=1:=by unfold Ds_;simp only;rw[if_pos h7]
   rw[e,z1];cases hq:w[i.toNat]? <;>exact go0 aj0 aj0 (aj14 @dStp.eq_1 @dCnf.eq_1 @Ad_.eq_1 @dNum.eq_1 hq h1 h2 h3 h4 h5 hp' h6 h7 w0)
  ·have e:Ds_ (rgt c w n) w [] l i j=0:=by unfold Ds_;simp only;rw[if_neg h7]
   rw[e,z0];have h7b:(i==j)=false:=by simpa using h7
   cases hq:w[i.toNat]? <;>exact go0 aj0 aj0 (aj14 @dStp.eq_1 @dCnf.eq_1 @Ad_.eq_1 @dNum.eq_1 hq h1 h2 h3 h4 h5 hp' h6 h7 h7b)
 | [a] =>
  have w1:IntKind.i64.wrap (i+1)=i+1:=wq
  by_cases h7:j=i+1
  ·obtain⟨x,hx,hx',_⟩:=Ak_ (l:=w) (k:=i.toNat) (by omega);have h8:i.toNat<w.length:=by omega
   have h8b:i<(w.length:Int):=by omega
   have h9:¬i<0:=by omega
   by_cases h10:x=a.n
   ·have e:Ds_ (rgt c w n) w [a] l i j=1:=by unfold Ds_;simp only;rw[if_pos ⟨h7,by rw[hx,h10]⟩]
    rw[e,z1];exact go0 aj0 aj0 (aj2 (aj16 @dStp.eq_1 @dCnf.eq_1 @Ad_.eq_1 @dSym.eq_1 @dNum.eq_1 h1 h2 h3 h4 h5 hp' h6 h7 w1 hx' h8) (aj4 h8b h9 h10 w0))
   ·have e:Ds_ (rgt c w n) w [a] l i j=0:=by unfold Ds_;simp only;rw[if_neg (by rintro⟨_,hh⟩;rw[hx]at hh;exact h10 (Option.some.inj hh))]
    rw[e,z0];have h10b:(x==a.n)=false:=by simpa using h10
    exact go0 aj0 aj0 (aj2 (aj16 @dStp.eq_1 @dCnf.eq_1 @Ad_.eq_1 @dSym.eq_1 @dNum.eq_1 h1 h2 h3 h4 h5 hp' h6 h7 w1 hx' h8) (aj4 h8b h9 h10 h10b))
  ·have e:Ds_ (rgt c w n) w [a] l i j=0:=by unfold Ds_;simp only;rw[if_neg (fun hh=>h7 hh.1)]
   rw[e,z0];have h7b:(j==i+1)=false:=by simpa using h7
   cases hq:w[i.toNat]? <;>exact go0 aj0 aj0 (aj16 @dStp.eq_1 @dCnf.eq_1 @Ad_.eq_1 @dSym.eq_1 @dNum.eq_1 hq h1 h2 h3 h4 h5 hp' h6 h7 h7b w1)
 | a::b::r =>
  have h0:Ds_ (rgt c w n) w (a::b::r) l i j=twoF (rgt c w n) a b l i j:=rfl;rw[h0];clear h0;have q2:¬((r.length:Int)+1+1)<2:=by omega
  have q3:(1:Int)<(r.length:Int)+1+1:=by omega
  match l with
  | [] =>
   have e:twoF (rgt c w n) a b [] i j=0:=rfl;rw[e];simp only[Fk_,if_true];exact go0 aj0 aj0 (aj12 @dStp.eq_1 @dCnf.eq_1 @Ad_.eq_1 @dSym.eq_1 h1 h2 h3 h4 h5 hp' h6 q2)
  | t::l' =>
   have hl2:(t::l').length≤n:=by simp only[List.length_cons]at hl ⊢;omega
   have hm2:(t::l').length≤4096:=by simp only[List.length_cons]at hm ⊢;omega
   have p2:¬((l'.length:Int)+1+1)<2:=by omega
   have k1:((l'.length:Int)+1+1).toNat-1=l'.length+1:=by omega
   have k2:∀x,List.take (l'.length+1) (x::List.map dStp l')=x::List.map dStp l':=fun x=>bW0 (by simp)
   by_cases h8:t.to<i
   ·have e:twoF (rgt c w n) a b (t::l') i j=0:=by unfold twoF;simp only;rw[if_neg (by omega)]
    rw[e,z0];exact go0 aj0 aj0 (aj14 @dStp.eq_1 @dCnf.eq_1 @Ad_.eq_1 @dSym.eq_1 h1 h2 h3 h4 h5 hp' h6 q2 p2 h8)
   by_cases h9:j<t.to
   ·have e:twoF (rgt c w n) a b (t::l') i j=0:=by unfold twoF;simp only;rw[if_neg (by omega)]
    rw[e,z0];exact go0 aj0 aj0 (aj15 @dStp.eq_1 @dCnf.eq_1 @Ad_.eq_1 @dSym.eq_1 h1 h2 h3 h4 h5 hp' h6 q2 p2 h8 h9)
   have e1:=ih a.n i t.to (t::l') hl2 hm2 hi (by omega) (by omega);have hle:=JO_ c w n a.n i t.to (t::l')
   have e3:twoF (rgt c w n) a b (t::l') i j=if rgt c w n a.n (t::l') i t.to=0 then 0 else if rgt c w n b.n ((t::l').drop (rgt c w n a.n (t::l') i t.to)) t.to j=0 then 0 else 1+rgt c w n a.n (t::l') i t.to+rgt c w n b.n ((t::l').drop (rgt c w n a.n (t::l') i t.to)) t.to j:=by
    unfold twoF;simp only;rw[if_pos (by omega)]
   rw[e3];clear e3;have e2:=fun(k:Nat)=>ih b.n t.to j ((t::l').drop k) (by rw[bS0];omega) (by rw[bS0];omega) (by omega) (by omega) hj
   have hl2':=fun k=>JO_ c w n b.n t.to j ((t::l').drop k)
   obtain⟨o,ho⟩:∃o,o=rgt c w n a.n (t::l') i t.to:=⟨_,rfl⟩;rw[←ho]at e1 hle ⊢;simp only[List.length_cons]at hle hm2
   by_cases h10:o=0
   ·subst h10;rw[if_pos rfl,z0];have z2:Fk_ 0 (t::l').length= -1:=rfl;rw[z2]at e1;simp only[CK_,List.map_cons,dCnf,dStp]at e1;exact go0 (aj1 e1) aj0 (aj2 (aj16 @dStp.eq_1 @dCnf.eq_1 @Ad_.eq_1 @dSym.eq_1 h1 h2 h3 h4 h5 hp' h6 q2 q3 p2 k1 k2) (aj2 h8 h9))
   ·rw[if_neg h10];have e4:=e2 o;have hl4:=hl2' o;obtain⟨u,hu⟩:∃u,u=rgt c w n b.n ((t::l').drop o) t.to j:=⟨_,rfl⟩;rw[←hu]at e4 hl4 ⊢;rw[bS0,List.length_cons]at hl4;have z3:Fk_ o (t::l').length=(l'.length:Int)+1-(o:Int):=by unfold Fk_;rw[if_neg h10,List.length_cons];omega
    rw[z3]at e1;have w2:IntKind.i64.wrap ((l'.length:Int)+1+1-((l'.length:Int)+1-(o:Int)))=1+(o:Int):=by rw[wq];omega
    have w3:(1+(o:Int)).toNat=o+1:=by omega
    have k3:((l'.length:Int)+1+1).toNat-(o+1)=l'.length+1-o:=by omega
    have k4:∀x,List.take (l'.length+1-o) (List.drop o (x::List.map dStp l'))=List.drop o (x::List.map dStp l'):=fun x=>bW0 (by simp)
    have g0:¬(l'.length:Int)+1-(o:Int)<0:=by omega
    have g1:¬(1+(o:Int))<0:=by omega
    have g2:1+(o:Int)≤(l'.length:Int)+1+1:=by omega
    have g3:(0:Int)≤1+(o:Int):=by omega
    have g4:o+1≤l'.length+1+1:=by omega
    simp only[dCnf,CK_,dStp,List.map_drop,List.map_cons,bS0,List.length_cons]at e4;simp only[CK_,List.map_cons,dCnf,dStp]at e1
    have hR:Fk_ (if u=0 then 0 else 1+o+u) (s::t::l').length=Fk_ u (l'.length+1-o):=by
     unfold Fk_
     by_cases h11:u=0
     ·rw[if_pos h11,if_pos h11];rfl
     ·rw[if_neg h11,if_neg h11,if_neg (by omega),List.length_cons,List.length_cons];omega
    rw[hR];obtain⟨RR,hRR⟩:∃RR,RR=Fk_ u (l'.length+1-o):=⟨_,rfl⟩;rw[←hRR]at e4 ⊢;exact go0 (aj2 e1 e4) aj0 (aj2 (aj16 @dStp.eq_1 @dCnf.eq_1 @Ad_.eq_1 @dSym.eq_1 h1 h2 h3 h4 h5 hp' h6 q2 q3 p2 k1 k2) (aj11 h8 h9 w2 w3 k3 k4 g0 g1 g2 g3 g4))
theorem RL_ (c:Cnf) (w:List Int) (hw:w.length≤64):∀(n:Nat) (nt i j:Int) (l:List Stp),l.length≤n→l.length≤4096→0≤i→i≤j→j≤w.length→Ac_ Tryz.prog 160 [.agg (dCnf c),.int .i64 nt,Bn_ w,CK_ l,.int .i64 i,.int .i64 j] (.int .i64 (Fk_ (rgt c w n nt l i j) l.length))
 | n,nt,i,j,[],_,_,_,_,_=>left_nil c w n nt i j
 | 0,nt,i,j,s::l,hl,_,_,_,_=>absurd hl (by simp)
 | n+1,nt,i,j,s::l,hl,hm,hi,hij,hj=>left_step c w hw n (RL_ c w hw n) nt i j s l hl hm hi hij hj
def askE (c:Cnf) (nt:Int) (n:Nat):Int:=if Bi_ c then (if CZ_ c then (if 0≤nt∧nt<c.nts then (if n≤64 then 0 else 3)else 2)else 250)else 220
def anCK296 : Ann:=⟨[],[]⟩
theorem ZS_ (c:Cnf) (nt:Int) (w:List Int):Ac_ Tryz.prog 96 [.agg (dCnf c),.int .i64 nt,Bn_ w] (.int .i64 (askE c nt w.length)):=by
 refine Aa_ [] anCK296 Tryz.func96 Tryz.call96 Tryz.ntmps96 mxd (aj2 @anCK296.eq_1 Tryz.results96) rfl (by simp) (by simp[mx]) fun hwf B hnt hgAnn=> ?_
 clear hwf;simp only[argS];have e1:=GR_ c;have e2:=is_pure c;simp only[dCnf]at e1 e2;unfold askE;cases h1:Bi_ c
 ·rw[h1]at e1;exact go0 (aj1 e1) aj0 (aj1 @dCnf.eq_1)
 rw[h1]at e1;cases h2:CZ_ c
 ·rw[h2]at e2;exact go0 (aj2 e1 e2) aj0 (aj1 @dCnf.eq_1)
 rw[h2]at e2
 by_cases h3:nt<0
 ·have h3b:¬(0≤nt∧nt<c.nts):=by omega
  exact go0 (aj2 e1 e2) aj0 (aj3 @dCnf.eq_1 h3 h3b)
 by_cases h4:c.nts≤nt
 ·have h3b:¬(0≤nt∧nt<c.nts):=by omega
  exact go0 (aj2 e1 e2) aj0 (aj4 @dCnf.eq_1 h3 h4 h3b)
 have h3b:0≤nt∧nt<c.nts:=by omega
 by_cases h5:w.length≤64
 ·have h5b:¬(64:Int)<(w.length:Int):=by omega
  exact go0 (aj2 e1 e2) aj0 (aj6 @dCnf.eq_1 h3 h4 h3b h5 h5b)
 ·have h5b:(64:Int)<(w.length:Int):=by omega
  exact go0 (aj2 e1 e2) aj0 (aj6 @dCnf.eq_1 h3 h4 h3b h5 h5b)
def XU_ : Ann:=⟨[],[]⟩
theorem YD_ (c:Cnf) (nt:Int) (n:Nat) (hn:n<9223372036854775807):Ac_ Tryz.prog 159 [.agg (dCnf c),.int .i64 nt,.int .i64 (n:Int)] (.int .i64 (askE c nt n)):=by
 refine Aa_ [] XU_ Tryz.func159 Tryz.call159 Tryz.ntmps159 mxd (aj2 @XU_.eq_1 Tryz.results159) rfl (by simp) (by simp[mx]) fun hwf B hnt hgAnn=> ?_
 clear hwf;simp only[argS];have e1:=HJ_ c;have e2:=ris_pure c;simp only[dCnf]at e1 e2;unfold askE;cases h1:Bi_ c
 ·rw[h1]at e1;exact go0 (aj1 e1) aj0 (aj1 @dCnf.eq_1)
 rw[h1]at e1;cases h2:CZ_ c
 ·rw[h2]at e2;exact go0 (aj2 e1 e2) aj0 (aj1 @dCnf.eq_1)
 rw[h2]at e2
 by_cases h3:nt<0
 ·have h3b:¬(0≤nt∧nt<c.nts):=by omega
  exact go0 (aj2 e1 e2) aj0 (aj3 @dCnf.eq_1 h3 h3b)
 by_cases h4:c.nts≤nt
 ·have h3b:¬(0≤nt∧nt<c.nts):=by omega
  exact go0 (aj2 e1 e2) aj0 (aj4 @dCnf.eq_1 h3 h4 h3b)
 have h3b:0≤nt∧nt<c.nts:=by omega
 by_cases h5:n≤64
 ·have h5b:¬(64:Int)<(n:Int):=by omega
  exact go0 (aj2 e1 e2) aj0 (aj6 @dCnf.eq_1 h3 h4 h3b h5 h5b)
 ·have h5b:(64:Int)<(n:Int):=by omega
  exact go0 (aj2 e1 e2) aj0 (aj6 @dCnf.eq_1 h3 h4 h3b h5 h5b)
def Lx_ (c:Cnf) (nt:Int) (w:List Int) (l:List Stp):Bool:=decide (rgt c w l.length nt l 0 w.length≠0)&&decide (rgt c w l.length nt l 0 w.length=l.length)
def XV_ : Ann:=⟨[],[]⟩
theorem clip_pure (l:List Stp):Ac_ Tryz.prog 156 [CK_ l] (CK_ l):=by
 refine Aa_ [] XV_ Tryz.func156 Tryz.call156 Tryz.ntmps156 mxd (aj2 @XV_.eq_1 Tryz.results156) rfl (by simp) (by simp[mx]) fun hwf B hnt hgAnn=> ?_
 clear hwf;simp only[argS];have ht:List.take l.length (List.map dStp l)=List.map dStp l:=bW0 (by simp);exact go0 aj0 aj0 (aj1 ht)
def anCK265 : Ann:=⟨[],[]⟩
theorem right_ok (c:Cnf) (nt:Int) (w:List Int) (l:List Stp) (h:askE c nt w.length=0) (hw:w.length≤64) (hl:l.length≤4096):Ac_ Tryz.prog 65 [.agg (dCnf c),.int .i64 nt,Bn_ w,CK_ l] (.tup [.bool (Lx_ c nt w l),.int .i64 0]):=by
 refine Aa_ [] anCK265 Tryz.func65 Tryz.call65 Tryz.ntmps65 mxd (aj2 @anCK265.eq_1 Tryz.results65) rfl (by simp) (by simp[mx]) fun hwf B hnt hgAnn=> ?_
 clear hwf;simp only[argS];have e1:=ZS_ c nt w;rw[h]at e1;have e2:=clip_pure l;have e3:=Ny_ c w hw l.length nt 0 w.length l (Nat.le_refl _) hl (by omega) (by omega) (by omega);unfold Lx_;obtain⟨k,hk⟩:∃k,k=rgt c w l.length nt l 0 w.length:=⟨_,rfl⟩;have hkl:=JO_ c w l.length nt 0 w.length l;rw[←hk]at e3 hkl ⊢;simp only[dCnf]at e1 e3;have g1:¬(4096:Int)<(l.length:Int):=by omega
 by_cases h0:l.length=0
 ·have g2:¬(0:Int)<(l.length:Int):=by omega
  have g3:k=0:=by omega
  have g5:¬0<l.length:=by omega
  exact go0 (aj3 e1 e2 e3) aj0 (aj5 @dCnf.eq_1 g1 g2 g3 g5)
 ·have g2:(0:Int)<(l.length:Int):=by omega
  have g4:(decide (k≠0)&&decide (k=l.length))=((k:Int)==(l.length:Int)):=by
   by_cases hh:k=l.length
   ·rw[hh];simp[h0]
   ·have hh2:((k:Int)==(l.length:Int))=false:=by simpa using (by omega:¬(k:Int)=(l.length:Int))
    rw[hh2];simp[hh]
  rw[g4];have g5:0<l.length:=by omega
  exact go0 (aj3 e1 e2 e3) aj0 (aj4 @dCnf.eq_1 g1 g2 g5)
def anCK268 : Ann:=⟨[],[]⟩
theorem rright_ok (c:Cnf) (nt:Int) (w:List Int) (l:List Stp) (h:askE c nt w.length=0) (hw:w.length≤64) (hl:l.length≤4096):Ac_ Tryz.prog 68 [.agg (dCnf c),.int .i64 nt,Bn_ w,CK_ l] (.tup [.bool (Lx_ c nt w l),.int .i64 0]):=by
 refine Aa_ [] anCK268 Tryz.func68 Tryz.call68 Tryz.ntmps68 mxd (aj2 @anCK268.eq_1 Tryz.results68) rfl (by simp) (by simp[mx]) fun hwf B hnt hgAnn=> ?_
 clear hwf;simp only[argS];have e1:=YD_ c nt w.length (by omega);rw[h]at e1;have e3:=RL_ c w hw l.length nt 0 w.length l (Nat.le_refl _) hl (by omega) (by omega) (by omega);unfold Lx_;have hkl:=JO_ c w l.length nt 0 w.length l;obtain⟨k,hk⟩:∃k,k=rgt c w l.length nt l 0 w.length:=⟨_,rfl⟩;rw[←hk]at e3 hkl ⊢;simp only[dCnf]at e1 e3;have g1:¬(4096:Int)<(l.length:Int):=by omega
 have g4:(decide (k≠0)&&decide (k=l.length))=(Fk_ k l.length==0):=by
  unfold Fk_
  by_cases h0:k=0
  ·rw[h0];rfl
  ·rw[if_neg h0]
   by_cases hh:k=l.length
   ·have hz:l.length≠0:=by omega
    rw[hh];simp[hz]
   ·have hh2:((l.length:Int)-(k:Int)==0)=false:=by simpa using (by omega:¬(l.length:Int)-(k:Int)=0)
    rw[hh2];simp[hh]
 rw[g4];obtain⟨y,hy⟩:∃y,y=Fk_ k l.length:=⟨_,rfl⟩;rw[←hy]at e3 ⊢;exact go0 (aj2 e1 e3) aj0 (aj2 @dCnf.eq_1 g1)
theorem rof52_ok (xs:List Auto) (hsm:∀a∈xs,SmA a) (hl:xs.length≤16):Ac_ Tryz.prog 15 [refM xs] (.agg (dCnf (Br_ (cnfM xs)))):=by
 have hst1:∀a∈xs,1≤a.st:=fun a ha=>(LH_ (hsm a ha).ok).1
 have he:Br_ (cnfM xs)=⟨(sumS xs:Int),(cnfM xs).prods.foldl (insC AX_) []⟩:=by
  unfold Br_;rw[PH_ Fb_];have h1:(cnfM xs).nts=((xs.length+cntN xs (sumS xs):Nat):Int):=rfl;rw[h1,nts_eq hst1]
 rw[he];refine(YW_ xs hsm hl).wk ?_ (by simp[mx,dCnf]);simp only[dCnf,CU_]
 split
 ·rename_i h0;rw[h0];simp[Bh_]
 ·simp
theorem sumS_pos {xs:List Auto} (h:∀a∈xs,SmA a) (hn:xs.length≠0):1≤sumS xs:=by
 cases xs with
 | nil=>simp at hn
 | cons a xs =>
  have h3:sumS (a::xs)=a.st.toNat+sumS xs:=by simp[sumS]
  have:=(LH_ (h a aF0).ok).1;omega
end Go.Proofs.YtchgnpnbcjflcaaGreat
end
section
namespace Go.Proofs.YtchgnpnbcjflcaaGreat
open Go Go.Dm
variable [DMode]
attribute [local irreducible] DW Bj_ Bp_
set_option maxRecDepth 100000

theorem Rb_ (c:Cnf):Ac_ Tryz.prog 148 [.agg (dCnf c)] (.agg (dCnf (Br_ c))):=by
 have h:=Ra_ c;rw[PH_ Fb_]at h;exact h
def Xj_ : Ann:=⟨[2],[⟨20,[],[],[9]⟩]⟩
set_option maxHeartbeats 4000000 in
theorem addR_big (m:Mk) (p:Prod) (hb:1026<p.body.length) :
  AM_ Tryz.prog (.func 147) [fmD 0 0 m,.agg (Ad_ p)] (dFo 0 0 m) (fmD 1 1 { m with nts:=1025 }) (dFo 1 1 { m with nts:=1025 }):=by
 obtain⟨hd,l⟩:=p;simp only at hb;refine AP_ [2,4] [(0,0,1),(1,1,1)] Xj_ Tryz.func147 Tryz.call147 Tryz.ntmps147 mxd (aj2 @Xj_.eq_1 Tryz.results147) rfl (by simp) (by simp) (by simp[dFo]) fun hwf B hnt hgAnn=> ?_
 simp only[argS,fmD];have q1:¬l=[]:=fun h=>by rw[h]at hb;simp at hb
 have q2:¬(l.length:Int)=1:=by omega
 have q3:(1026:Int)<l.length:=by omega
 have q4:¬(l.length:Int)=0:=by omega
 have q5:((l.length:Int)==0)=false:=by simpa using q4
 have q6:((l.length:Int)==1)=false:=by simpa using q2
 have q7:¬l.length=1:=by omega
 have hn1:noR { m with nts:=1025 }=noR m:=rfl;have hn2:hs16 { m with nts:=1025 }=hs16 m:=rfl;obtain⟨s0,hs0,hs0',_⟩:=Ak_ (show 0<l.length by omega);exact go0 aj0 aj0 (aj14 @dFo.eq_1 @Ad_.eq_1 @dSym.eq_1 q1 q2 q3 q4 q5 q6 q7 hs0 hs0' hn1 hn2)
theorem addR_spec (m:Mk) (p:Prod) (hg:GoodM m) (hok:∀s∈p.body,symG m.nts s) (hl2:p.body.length≤1026) (h2:m.nts+4000≤9223372036854775807) (h3:(m.prods.length+4000)*32≤150000000000000) :
  AM_ Tryz.prog (.func 147) [fmD 0 0 m,.agg (Ad_ p)] (dFo 0 0 m) (fmD 1 1 (m.add p)) (dFo 1 1 (m.add p)):=by
 by_cases hf:As_ p.body=1∨As_ p.body=2
 ·exact addR_easy m p hf (Pe_ (by omega) h3)
 ·by_cases hl:p.body.length=1
  ·exact addR_one m p hf hl hg.no.1 hg.one (by omega) (Pe_ (by omega) h3)
  ·refine addR_more m p hf hl hl2 (fun s hs hlb=> ?_) hg.pos h2 h3;have:=hok s hs;unfold symG at this;rw[if_pos hlb]at this;exact this
def MI_ : Ann:=⟨[12,26],[]⟩
set_option maxHeartbeats 8000000 in
theorem rof_pure (c:Cnf) (hsz:(c.prods.length+8000)*32≤150000000000000):Ac_ Tryz.prog 57 [.agg (dCnf c)] (.tup [.agg (dCnf (ofC c).1),.int .i64 (ofC c).2]):=by
 have key:∀d,d=(if Bi_ c then (match (Mk.start c).adds c.prods with | none=> .tup [.agg [.int .i64 0,.nilsl],.int .i64 240] | some m=> .tup [.agg (dCnf (Br_ m.cnf)),.int .i64 0])else .tup [.agg [.int .i64 0,.nilsl],.int .i64 220])→Ac_ Tryz.prog 57 [.agg (dCnf c)] d:=by
  intro d hd;refine Gz_ [] Tryz.func57 rfl Tryz.call57 (by simp[Tryz.ntmps57]) ?_ ?_
  ·subst hd
   split
   ·split<;>simp[mx,dCnf]
   ·simp[mx]
  intro hwf B hnt;simp only[Tryz.ntmps57]at hnt;have hgAnn:=an_is MI_ mxd (aj2 @MI_.eq_1 Tryz.results57);have hw:wCnf c:=SY_ (by simpa[wfL,wfD]using hwf.1);obtain⟨hw1,hw2,hw3,hw4⟩:=hw;clear hwf;simp only[argS];have h1:=HJ_ c;cases hb:Bi_ c
  ·rw[hb]at h1 hd;simp only[aL0,if_false]at hd;subst hd;exact go0 (aj1 h1) aj0 (aj1 @dCnf.eq_1)
  rw[hb]at h1 hd;simp only[if_true]at hd;have hh0:hs16 (Mk.start c)=List.replicate 16 (-1):=rfl;have h4:=ZQ_ c.nts;rw[←hh0]at h4;clear hh0
  (refine go1 (aj1 h1) (aj1 (spc [] [(51,0)] h4)) (aj1 @dCnf.eq_1) ?_;intros;refine mk_i ?_)
  refine Bq_ 4 1 50 92 2 32 (by simp) (fun n=> ?_);have hgs:=NN_ hb;obtain⟨hn12,hcp⟩:=Ea_.1 hb;obtain⟨hn1,hn2⟩:=hn12;obtain⟨R,hR⟩:∃R,R=(Mk.start c).adds c.prods:=⟨_,rfl⟩;rw[←hR]at hd;have hno:noR ⟨c.nts,[],[],0⟩= -1:=rfl
  refine Ae_ (X:={x:Nat×Mk//x.1≤c.prods.length∧x.2.adds (c.prods.drop x.1)=R∧c.nts≤x.2.nts∧x.2.nts≤1024∧(x.2.prods.length:Int)=x.1+x.2.nts-c.nts∧GoodM x.2})
   (fun x=>⟨[(1,.ref (dCnf c)),(2,.bx 2 1 0),(3,.int .i64 0),(4,.bx 4 1 0),(5,.int .i64 x.1.1)],[⟨2,1,.box [.int .i64 0,.nilsl]⟩,⟨4,1,.box [.int .i64 x.1.2.nts,.osl 50 1,.osl 51 1,.int .i64 (noR x.1.2)]⟩,⟨50,1,.row 92 2 32 (x.1.2.prods.map Ad_)⟩,⟨51,1,.row 3 1 8 ((hs16 x.1.2).map Bb_)⟩]⟩)
   (fun x=>c.prods.length-x.1.1) ⟨(0,Mk.start c),by simp[hR,Mk.start];exact⟨by omega,hgs⟩⟩ (Sub.lit (by simp[dCnf,Mk.start,hno])) ?_
  rintro⟨⟨k,m1⟩,hk,hA,b1,b2,b3,b4⟩;simp only at hk hA b1 b2 b3 b4 ⊢;clear hR
  by_cases hlt:k<c.prods.length
  ·obtain⟨p,hp,hp',hpm⟩:=Ak_ hlt;obtain⟨hw5,hw6,hw7,hw8⟩:=hw4 p hpm;obtain⟨hh1,hh2⟩:=hcp p hpm;rw[aR0 hlt,hp']at hA;simp only[Mk.adds]at hA;obtain⟨g1,g2,g3,g4⟩:=Qs_ m1 p;simp only[Mk.gap]at g1;have hsy:∀s∈p.body,symG m1.nts s:=fun s hs=>Im_ b1 (hh2 s hs)
   by_cases hbig:1026<p.body.length
   ·have e1:=addR_big m1 p hbig;rw[if_pos (by have:=b4.one;omega)]at hA;subst hA;simp only at hd;subst hd;simp only[fmD]at e1;exact go0 (aj1 h1) (aj1 (spc [(50,0),(51,1)] [] e1)) (aj5 @dFo.eq_1 @dCnf.eq_1 @Ad_.eq_1 hlt hp')
   ·have e1:=addR_spec m1 p b4 hsy (by omega) (by omega) (Nat.le_trans (aO0 32 (show m1.prods.length+4000≤c.prods.length+8000 by omega)) hsz);have hg2:=VS_ b4 ⟨hh1.1,by have:=hh1.2;omega⟩ hsy
    generalize hm2:m1.add p=m2 at e1 hA g1 g2 g3 g4 hg2
    simp only[fmD]at e1
    by_cases hov:1024<m2.nts
    ·rw[if_pos hov]at hA;subst hA;simp only at hd;subst hd;exact go0 (aj1 h1) (aj1 (spc [(50,0),(51,1)] [] e1)) (aj6 @dFo.eq_1 @dCnf.eq_1 @Ad_.eq_1 hlt hp' hov)
    ·rw[if_neg hov]at hA
     (refine go1 (aj1 h1) (aj1 (spc [(50,0),(51,1)] [] e1)) (aj6 @dFo.eq_1 @dCnf.eq_1 @Ad_.eq_1 hlt hp' hov) ?_;intros;refine mk_i ?_)
     refine Aj_.mk ⟨(k+1,m2),show k+1≤c.prods.length∧_∧c.nts≤m2.nts∧m2.nts≤1024∧(m2.prods.length:Int)=((k+1:Nat):Int)+m2.nts-c.nts∧GoodM m2 from ⟨by omega,hA,by omega,by omega,by omega,hg2⟩⟩ (Sub.lit (by simp[dFo,dCnf])) (by simp;omega)
     skip
  ·have hkk:k=c.prods.length:=by omega
   subst hkk;rw[bQ0]at hA;simp only[Mk.adds]at hA;subst hA;simp only at hd;subst hd;refine EP_ (Sub.freezeL [50] _) ?_;simp[hnt,Tryz.results57,MI_,dCnf];have h2:=Rb_ m1.cnf;simp only[Mk.cnf,dCnf]at h2
   (repeat (first | refine Aw_ fun K hK=> ?_ | (refine DW_r MI_ mxd (by kernel_rfl) ?_;simp[MI_,hnt,dCnf,Mk.cnf];try simp (disch:=omega) only[Ah_]) | refine Al_ ?_ | (refine AJ_ ?_ ?_ ?_;(· (simp[hnt,dCnf,Mk.cnf];done));(try (rotate_left;(· (intro hc;(try simp[hnt,dCnf,Mk.cnf]at hc);done))))) | (refine Ay_ ?_;simp[Tryz.results57,hnt,dCnf,Mk.cnf]) | ((first | refine Aq_ ?_ | refine Ap_ ?_);simp[hnt,dCnf,Mk.cnf]) | (intro hc;(try simp[hnt,dCnf,Mk.cnf]at hc);(try (exfalso;omega))) | ((first | refine Ag_ (h2) ?_ | (refine Af_ (h2) ?_ ?_;(· (simp;done))));try simp[hnt,dCnf,Mk.cnf]) | (refine⟨?_,?_⟩; · omega) | omega | apply_assumption -exfalso -symm | (exfalso;omega)))
 have hk:=key _ rfl;rw[Rr_];cases hb:Bi_ c<;>rw[hb]at hk
 ·exact Ac_.wkT hk (by simp[cnf0,dCnf,Bh_]) (by simp[mx])
 ·simp only[if_true]at hk ⊢
  cases hA:(Mk.start c).adds c.prods with
  | none =>
   rw[hA]at hk;exact Ac_.wkT hk (by simp[cnf0,dCnf,Bh_]) (by simp[mx])
  | some m =>
   rw[hA]at hk;exact hk
end Go.Proofs.YtchgnpnbcjflcaaGreat
end
section
namespace Go.Proofs.YtchgnpnbcjflcaaGreat
open Go Go.Dm
attribute [local irreducible] DW Bj_ Bp_
set_option maxRecDepth 100000
theorem bnd_w {a b n:Nat} (h1:a≤1040) (h2:b≤17179870208) (h3:n≤a+b):(n+8000)*32≤150000000000000:=by omega
theorem cnfM_sz {xs:List Auto} (hsm:∀a∈xs,SmA a) (hl:xs.length≤16):((Br_ (cnfM xs)).prods.length+8000)*32≤150000000000000:=by
 have hfl:(finA xs).length≤1040:=Nat.le_trans (IQ_ hsm 0) (bU0 65 hl);have hal:(arcA xs).length≤17179870208:=Nat.le_trans (Jc_ hsm 0) (bU0 1073741888 hl);refine bnd_w hfl hal (Nat.le_trans (norm_len _) ?_);simp[cnfM]
def FF_ (gt:GT):Cnf×Int:=ofC (Br_ (cnfM (autL gt)))
def anWN117 : Ann:=⟨[],[⟨4,[6],[],[]⟩]⟩
set_option maxHeartbeats 4000000 in
theorem wnew_pure (gt:GT) (h:OkgT gt) (hs:SmlG (mkG gt)) (p1:Ac_ Tryz.prog 76 [Av_ (mkG gt)] (.int .i64 0)):Ac_ Tryz.prog 17 [Av_ (mkG gt)] (.tup [.agg (dCnf (FF_ gt).1),.int .i64 (FF_ gt).2]):=by
 have e1:=Zo_ gt h hs p1;have hsm:=Qg_ h;have hal:=Ja_ gt;have hhd:=h.hd;have hne:=PE_ h;unfold FF_;obtain⟨A,hA⟩:∃A,A=autL gt:=⟨_,rfl⟩;rw[←hA]at e1 hsm hal ⊢;have hA16:A.length≤16:=by omega
 have e3:=Sy_ (Ar_ (mkG gt)) (Ao_ (mkG gt)) A hsm hA16 (by omega) (sumS_pos hsm (by omega));have hsz:=cnfM_sz hsm hA16;obtain⟨NC,hNC⟩:∃NC,NC=Br_ (cnfM A):=⟨_,rfl⟩;rw[←hNC]at e3 hsz ⊢;have e7:=of21_pure NC hsz;obtain⟨X,hX⟩:∃X,X=(ofC NC).1:=⟨_,rfl⟩;obtain⟨E,hE⟩:∃E,E=(ofC NC).2:=⟨_,rfl⟩;rw[←hX,←hE]at e7 ⊢;unfold Dy_ at e1 e3;simp only[dCnf]at e3 e7;refine Aa_ [] anWN117 Tryz.func17 Tryz.call17 Tryz.ntmps17 mxd (aj2 @anWN117.eq_1 Tryz.results17) rfl (by simp) (by simp[mx,mxL,dCnf]) fun hwf B hnt hgAnn=> ?_
 clear hwf;simp only[argS];exact go0 (aj3 e1 e3 e7) aj0 (aj1 @dCnf.eq_1)
def anWN118 : Ann:=⟨[],[]⟩
set_option maxHeartbeats 4000000 in
theorem YS_ (gt:GT) (h:OkgT gt) (hs:SmlG (mkG gt)) (p2:Ac_ Tryz.prog 13 [Av_ (mkG gt)] (.int .i64 0)):Ac_ Tryz.prog 18 [Av_ (mkG gt)] (.tup [.agg (dCnf (FF_ gt).1),.int .i64 (FF_ gt).2]):=by
 have e2:=Tr_ gt h hs;have hsm:=Qg_ h;have hal:=Ja_ gt;have hhd:=h.hd;unfold FF_;obtain⟨A,hA⟩:∃A,A=autL gt:=⟨_,rfl⟩;rw[←hA]at e2 hsm hal ⊢;have hA16:A.length≤16:=by omega
 have e4:=rof52_ok A hsm hA16;have hsz:=cnfM_sz hsm hA16;obtain⟨NC,hNC⟩:∃NC,NC=Br_ (cnfM A):=⟨_,rfl⟩;rw[←hNC]at e4 hsz ⊢;have e8:=rof_pure NC hsz;obtain⟨X,hX⟩:∃X,X=(ofC NC).1:=⟨_,rfl⟩;obtain⟨E,hE⟩:∃E,E=(ofC NC).2:=⟨_,rfl⟩;rw[←hX,←hE]at e8 ⊢;unfold refM at e2 e4;simp only[dCnf]at e4 e8;refine Aa_ [] anWN118 Tryz.func18 Tryz.call18 Tryz.ntmps18 mxd (aj2 @anWN118.eq_1 Tryz.results18) rfl (by simp) (by simp[mx,mxL,dCnf]) fun hwf B hnt hgAnn=> ?_
 clear hwf;simp only[argS];exact go0 (aj4 e2 e4 e8 p2) aj0 (aj1 @dCnf.eq_1)
def anCK359 : Ann:=⟨[],[]⟩
theorem HT_ (g1 g2:FuncId) (c1 c2:List DVal) (e1 e2:Int) (h1:Ac_ Tryz.prog g1 c1 (.int .i64 e1)) (h2:e1=0→Ac_ Tryz.prog g2 c2 (.int .i64 e2)) :
  Ac_ Tryz.prog 59 [.sl 1 8 [[.fn (.func g1) [] c1],[.fn (.func g2) [] c2]]] (.int .i64 (if e1=0 then e2 else e1)):=by
 refine Aa_ [] anCK359 Tryz.func59 Tryz.call59 Tryz.ntmps59 mxd (aj2 @anCK359.eq_1 Tryz.results59) rfl (by simp) (by simp[mx]) fun hwf B hnt hgAnn=> ?_
 simp only[argS];clear hwf;obtain⟨R,hR⟩:∃R,R=(if e1=0 then e2 else e1):=⟨_,rfl⟩;rw[←hR]
 (refine go1 aj0 aj0 aj0 ?_;intros;refine mk_i ?_)
 refine Ae_ (X:={k:Nat//k≤2∧(1≤k→e1=0)∧(2≤k→e2=0)}) (fun x=>⟨[(6,.sl 1 8 [[.fn (.func g1) [] c1],[.fn (.func g2) [] c2]]),(7,.int .i64 2),(8,.int .i64 x.1)],[]⟩) (fun x=>2-x.1) ⟨0,by simp⟩ (Sub.lit (by simp)) ?_;rintro⟨k,hk,q1,q2⟩
 match k,hk,q1,q2 with
 | 0,_,_,_ =>
  by_cases h:e1=0
  ·subst h
   (refine go1 (aj1 h1) aj0 aj0 ?_;intros;refine mk_i ?_)
   exact Aj_.mk ⟨1,by omega,by simp,by omega⟩ (Sub.lit (by simp)) (by simp)
   skip
  ·have hRk:R=e1:=by rw[hR];simp[h]
   subst hRk;exact go0 (aj1 h1) aj0 (aj1 h)
 | 1,_,q1,_ =>
  have q1:=q1 (by omega);have k2:=h2 q1;clear h2;subst q1
  by_cases h:e2=0
  ·subst h
   (refine go1 (aj1 k2) aj0 aj0 ?_;intros;refine mk_i ?_)
   exact Aj_.mk ⟨2,by omega,by simp,by simp⟩ (Sub.lit (by simp)) (by simp)
   skip
  ·have hRk:R=e2:=by rw[hR];simp
   subst hRk;exact go0 (aj1 k2) aj0 (aj1 h)
 | 2,_,q1,q2 =>
  clear h2;have q1:=q1 (by omega);have q2:=q2 (by omega);subst q1;subst q2;have hRk:R=0:=by rw[hR];simp
  subst hRk;exact go0 aj0 aj0 aj0
def BJ_ (c:Int) (g:List Rul) (nt:ByteArray):Int:=if c=0 then (if nt∈Ar_ g then 0 else 4)else c
def XT_ : Ann:=⟨[],[]⟩
theorem TO_ (g:List Rul) (c:Int) (h:Ac_ Tryz.prog 76 [Av_ g] (.int .i64 c)):Ac_ Tryz.prog 152 [.ref [Av_ g]] (.int .i64 c):=by
 refine Aa_ [] XT_ Tryz.func152 Tryz.call152 Tryz.ntmps152 mxd (aj2 @XT_.eq_1 Tryz.results152) rfl (by simp) (by simp[mx]) fun hwf B hnt hgAnn=> ?_
 clear hwf;simp only[argS];exact go0 (aj1 h) aj0 aj0
def XS_ : Ann:=⟨[],[]⟩
theorem TN_ (g:List Rul) (nt:ByteArray):Ac_ Tryz.prog 153 [.ref [Av_ g],.ref [.str nt]] (.int .i64 (if nt∈Ar_ g then 0 else 4)):=by
 refine Aa_ [] XS_ Tryz.func153 Tryz.call153 Tryz.ntmps153 mxd (aj2 @XS_.eq_1 Tryz.results153) rfl (by simp) (by simp[mx]) fun hwf B hnt hgAnn=> ?_
 clear hwf;simp only[argS];have e1:=Gm_ g;have e2:=FE_ (Ar_ g) nt;obtain⟨H,hH⟩:∃H,H=Ar_ g:=⟨_,rfl⟩;rw[←hH]at e1 e2 ⊢
 by_cases h:nt∈H
 ·have e3:=BB_ false 4;rw[decide_eq_true h]at e2;simp only[aL0,if_false]at e3;exact go0 (aj3 e1 e2 e3) aj0 (aj1 h)
 ·have e3:=BB_ true 4;rw[decide_eq_false h]at e2;simp only[if_true]at e3;exact go0 (aj3 e1 e2 e3) aj0 (aj1 h)
def anCK361 : Ann:=⟨[],[]⟩
theorem Zt_ (g:List Rul) (nt:ByteArray) (c:Int) (h:Ac_ Tryz.prog 76 [Av_ g] (.int .i64 c)):Ac_ Tryz.prog 61 [Av_ g,.str nt] (.int .i64 (BJ_ c g nt)):=by
 refine Aa_ [] anCK361 Tryz.func61 Tryz.call61 Tryz.ntmps61 mxd (aj2 @anCK361.eq_1 Tryz.results61) rfl (by simp) (by simp[mx]) fun hwf B hnt hgAnn=> ?_
 clear hwf;simp only[argS];have e1:=HT_ 152 153 [.ref [Av_ g]] [.ref [Av_ g],.ref [.str nt]] _ _ (TO_ g c h) (fun _=>TN_ g nt);have hr2:(([0,1]:List Nat)=List.range 2)=True:=eq_true rfl;obtain⟨R,hR⟩:∃R,R=BJ_ c g nt:=⟨_,rfl⟩;have hR2:R=(if c=0 then (if nt∈Ar_ g then 0 else 4)else c):=hR;rw[←hR2]at e1;rw[←hR];clear hR hR2;exact go0 (aj1 e1) aj0 (aj1 hr2)
def anCK366 : Ann:=⟨[],[]⟩
theorem Lw_ (g:List Rul) (nt:ByteArray) (c:Int) (h:Ac_ Tryz.prog 13 [Av_ g] (.int .i64 c)):Ac_ Tryz.prog 66 [Av_ g,.str nt] (.int .i64 (BJ_ c g nt)):=by
 refine Aa_ [] anCK366 Tryz.func66 Tryz.call66 Tryz.ntmps66 mxd (aj2 @anCK366.eq_1 Tryz.results66) rfl (by simp) (by simp[mx]) fun hwf B hnt hgAnn=> ?_
 clear hwf;simp only[argS];unfold BJ_
 by_cases hc:c=0
 ·subst hc;have e1:=Ce_ g;have e2:=Iy_ (Ar_ g) nt;obtain⟨H,hH⟩:∃H,H=Ar_ g:=⟨_,rfl⟩;rw[←hH]at e1 e2 ⊢
  by_cases hn:nt∈H
  ·rw[Iw_ hn]at e2;have hlt:¬(ixS H nt:Int)<0:=by omega
   exact go0 (aj3 e1 e2 h) aj0 (aj2 hn hlt)
  ·rw[LD_ hn]at e2;exact go0 (aj3 e1 e2 h) aj0 (aj1 hn)
 ·have hcb:(c==0)=false:=by simpa using hc
  exact go0 (aj1 h) aj0 (aj2 hc hcb)
def wdL (L:List ByteArray) (w:List ByteArray):List Int:=w.map fun s=>(ixS L s:Int)
def wdB (L:List ByteArray) (w:List ByteArray):Bool:=w.all fun s=>decide (s∈L)
theorem Jk_ (L w:List ByteArray):(wdL L w).length=w.length:=by unfold wdL;rw[aJ0]
theorem UG_ {L w:List ByteArray} {k:Nat} {x:ByteArray} (h:w[k]? =some x):wdL L (w.take (k+1))=wdL L (w.take k)++[(ixS L x:Int)]:=by unfold wdL;rw[bF0,h,aX0];rfl
theorem wdB_no {L w:List ByteArray} {x:ByteArray} (h:x∈w) (hx:¬x∈L):wdB L w=false:=by
 unfold wdB;rw[List.all_eq_false];exact⟨x,h,by simpa using hx⟩
theorem wdB_all {L w:List ByteArray} (h:∀x∈w,x∈L):wdB L w=true:=by
 unfold wdB;rw[bA0];exact fun x hx=>by simpa using h x hx
def wdD (L w:List ByteArray):DVal:= .tup [Bn_ (if wdB L w then wdL L w else []),.int .i64 (if wdB L w then 0 else 4)]
theorem wd_key {L w:List ByteArray} {D:DVal} (h:D=(if wdB L w then .tup [Bn_ (wdL L w),.int .i64 0]else .tup [.nilsl,.int .i64 4])):∀{f:FuncId} {args:List DVal},Ac_ Tryz.prog f args D→Ac_ Tryz.prog f args (wdD L w):=by
 intro f args hp;subst h;unfold wdD;cases hb:wdB L w
 ·rw[hb]at hp;exact Ac_.wkT hp (by simp[Bn_]) (by simp[mx])
 ·rw[hb]at hp;exact hp
def anCK431 : Ann:=⟨[],[]⟩
theorem YJ_ (H L w:List ByteArray) (hL:L.length≤16) (hw:w.length≤64):Ac_ Tryz.prog 31 [dTab H L,AS_ w] (wdD L w):=by
 refine wd_key rfl ?_;obtain⟨D,hD⟩:∃D,D=(if wdB L w then DVal.tup [Bn_ (wdL L w),.int .i64 0]else .tup [.nilsl,.int .i64 4]):=⟨_,rfl⟩;rw[←hD];have e1:=Ee_ H L;have e2:=fun s=>IJ_ H L s
 refine Aa_ [6] anCK431 Tryz.func31 Tryz.call31 Tryz.ntmps31 mxd (aj2 @anCK431.eq_1 Tryz.results31) rfl (by simp) (by rw[hD];split<;>simp[mx]) fun hwf B hnt hgAnn=> ?_
 clear hwf;simp only[argS]
 (refine go1 (aj1 e1) aj0 aj0 ?_;intros;refine mk_i ?_)
 refine AV_ 6 6 3 1 8 (by simp[hnt]) (fun n6=> ?_);refine Ae_ (X:={k:Nat//k≤w.length∧∀x∈w.take k,x∈L}) (fun k=>⟨[(0,dTab H L),(6,.osl 6 1),(14,AS_ w),(15,.int .i64 w.length),(16,.int .i64 k.1)],[⟨6,1,.row 3 1 8 ((wdL L (w.take k.1)).map dNum)⟩]⟩) (fun k=>w.length-k.1) ⟨0,by simp⟩ (Sub.lit (by simp[wdL])) ?_;rintro⟨k,hk,ha⟩
 by_cases hlt:k<w.length
 ·obtain⟨x,hx,hx',hxm⟩:=Ak_ hlt;have e3:=e2 x;unfold numK numE at e3
  by_cases hin:x∈L
  ·rw[if_pos hin,if_pos hin]at e3;have htk:=UG_ (L:=L) hx;have hl1:(wdL L (w.take k)).length=k:=by rw[Jk_,aY0];omega
   have ha2:∀y∈w.take (k+1),y∈L:=by
    intro y hy;rw[bF0,hx,aI0]at hy
    rcases hy with hy | hy
    ·exact ha y hy
    ·simp at hy;subst hy;exact hin
   obtain⟨T,hT⟩:∃T,T=wdL L (w.take k):=⟨_,rfl⟩;rw[←hT]at htk hl1 ⊢;have z1:(k+1)*8≤150000000000000:=by omega
   have z2:k+1≤9223372036854775807:=by omega
   (refine go1 (aj1 e3) aj0 (aj7 @dStr.eq_1 hlt hx hx' hl1 z1 z2) ?_;intros;refine mk_i ?_)
   refine Aj_.mk ⟨k+1,by omega,ha2⟩ (Sub.lit (by simp[htk,dNum])) (by simp;omega)
   skip
  ·rw[if_neg hin,if_neg hin]at e3;have hDf:D= .tup [.nilsl,.int .i64 4]:=by rw[hD,if_neg (by rw[wdB_no hxm hin];simp)]
   subst hDf;exact go0 (aj1 e3) aj0 (aj4 @dStr.eq_1 hlt hx hx')
 ·have hkk:k=w.length:=by omega
  subst hkk;simp only[aQ0]at ha ⊢;have hDt:D= .tup [Bn_ (wdL L w),.int .i64 0]:=by rw[hD,if_pos (wdB_all ha)]
  subst hDt;exact go0 aj0 aj0 aj0
def anCK467 : Ann:=⟨[],[]⟩
theorem YR_ (g:List Rul) (w:List ByteArray) (hn:((AE_ 3 g).length+1)*16≤150000000000000) (hL:(Ao_ g).length≤16) (hw:w.length≤64):Ac_ Tryz.prog 67 [Av_ g,AS_ w] (wdD (Ao_ g) w):=by
 refine wd_key rfl ?_;have e1:=Et_ g hn;obtain⟨L,hLL⟩:∃L,L=Ao_ g:=⟨_,rfl⟩;rw[←hLL]at e1 hL ⊢;obtain⟨D,hD⟩:∃D,D=(if wdB L w then DVal.tup [Bn_ (wdL L w),.int .i64 0]else .tup [.nilsl,.int .i64 4]):=⟨_,rfl⟩;rw[←hD];have e2:=fun s=>Ix_ L s
 refine Aa_ [7] anCK467 Tryz.func67 Tryz.call67 Tryz.ntmps67 mxd (aj2 @anCK467.eq_1 Tryz.results67) rfl (by simp) (by rw[hD];split<;>simp[mx]) fun hwf B hnt hgAnn=> ?_
 clear hwf;simp only[argS]
 (refine go1 (aj1 e1) aj0 aj0 ?_;intros;refine mk_i ?_)
 refine AV_ 7 7 3 1 8 (by simp[hnt]) (fun n7=> ?_);refine Ae_ (X:={k:Nat//k≤w.length∧∀x∈w.take k,x∈L}) (fun k=>⟨[(1,AS_ w),(6,AS_ L),(7,.osl 7 1),(8,.int .i64 k.1)],[⟨7,1,.row 3 1 8 ((wdL L (w.take k.1)).map dNum)⟩]⟩) (fun k=>w.length-k.1) ⟨0,by simp⟩ (Sub.lit (by simp[wdL])) ?_;rintro⟨k,hk,ha⟩
 by_cases hlt:k<w.length
 ·obtain⟨x,hx,hx',hxm⟩:=Ak_ hlt;have e3:=e2 x;have w2:IntKind.i64.wrap ((k:Int)+1)=(k:Int)+1:=wq
  by_cases hin:x∈L
  ·rw[Iw_ hin]at e3;have hnl:¬(ixS L x:Int)<0:=by omega
   have htk:=UG_ (L:=L) hx;have hl1:(wdL L (w.take k)).length=k:=by rw[Jk_,aY0];omega
   have ha2:∀y∈w.take (k+1),y∈L:=by
    intro y hy;rw[bF0,hx,aI0]at hy
    rcases hy with hy | hy
    ·exact ha y hy
    ·simp at hy;subst hy;exact hin
   obtain⟨T,hT⟩:∃T,T=wdL L (w.take k):=⟨_,rfl⟩;rw[←hT]at htk hl1 ⊢;have z1:(k+1)*8≤150000000000000:=by omega
   have z2:k+1≤9223372036854775807:=by omega
   (refine go1 (aj1 e3) aj0 (aj9 @dStr.eq_1 hlt hx hx' hl1 z1 z2 hnl w2) ?_;intros;refine mk_i ?_)
   refine Aj_.mk ⟨k+1,by omega,ha2⟩ (Sub.lit (by simp[htk,dNum])) (by simp;omega)
   skip
  ·rw[LD_ hin]at e3;have hDf:D= .tup [.nilsl,.int .i64 4]:=by rw[hD,if_neg (by rw[wdB_no hxm hin];simp)]
   subst hDf;exact go0 (aj1 e3) aj0 (aj4 @dStr.eq_1 hlt hx hx')
 ·have hkk:k=w.length:=by omega
  subst hkk;simp only[aQ0]at ha ⊢;have hDt:D= .tup [Bn_ (wdL L w),.int .i64 0]:=by rw[hD,if_pos (wdB_all ha)]
  subst hDt;exact go0 aj0 aj0 aj0
def XR_ : Ann:=⟨[],[]⟩
theorem PW_ (H L w:List ByteArray) (hL:L.length≤16) (hw:w.length≤64):Ac_ Tryz.prog 155 [dTab H L,AS_ w] (.tup [Bn_ (if wdB L w then wdL L w else []),.bool (wdB L w)]):=by
 refine Aa_ [] XR_ Tryz.func155 Tryz.call155 Tryz.ntmps155 mxd (aj2 @XR_.eq_1 Tryz.results155) rfl (by simp) (by simp[mx]) fun hwf B hnt hgAnn=> ?_
 clear hwf;simp only[argS];have e1:=YJ_ H L w hL hw;unfold wdD at e1;cases hb:wdB L w
 ·rw[hb]at e1;simp only[aL0,if_false]at e1 ⊢;exact go0 (aj1 e1) aj0 aj0
 ·rw[hb]at e1;simp only[if_true]at e1 ⊢;exact go0 (aj1 e1) aj0 aj0
def anCK464 : Ann:=⟨[],[⟨2,[12],[],[]⟩]⟩
theorem Uo_ (gt:GT) (h:OkgT gt) (hs:SmlG (mkG gt)) (p1:Ac_ Tryz.prog 76 [Av_ (mkG gt)] (.int .i64 0)) (nt:ByteArray) (w:List ByteArray) (hw:w.length≤64) :
  Ac_ Tryz.prog 64 [Av_ (mkG gt),.str nt,AS_ w] (.tup [.agg (dCnf (FF_ gt).1),.int .i64 (numK (Ar_ (mkG gt)) nt),Bn_ (if wdB (Ao_ (mkG gt)) w then wdL (Ao_ (mkG gt)) w else []),.bool (wdB (Ao_ (mkG gt)) w)]):=by
 have n1:=Df_ (k:=3) hs;have n2:(mkG gt).length=gt.length:=DW_ gt;have n3:=h.le;have hhd:=h.hd;have hlb:=h.lb;have e1:=of14_ok (mkG gt) (by omega) (by omega) (by omega) p1;have e2:=wnew_pure gt h hs p1;have e3:=NH_ (Ar_ (mkG gt)) (Ao_ (mkG gt)) nt;have e4:=PW_ (Ar_ (mkG gt)) (Ao_ (mkG gt)) w hlb hw;obtain⟨X,hX⟩:∃X,X=(FF_ gt).1:=⟨_,rfl⟩;obtain⟨E,hE⟩:∃E,E=(FF_ gt).2:=⟨_,rfl⟩;rw[←hX,←hE]at e2;rw[←hX]
 obtain⟨H,hH⟩:∃H,H=Ar_ (mkG gt):=⟨_,rfl⟩;obtain⟨L,hL⟩:∃L,L=Ao_ (mkG gt):=⟨_,rfl⟩;rw[←hH,←hL]at e1 e3 e4;rw[←hH,←hL];obtain⟨N,hN⟩:∃N,N=(if wdB L w then wdL L w else []):=⟨_,rfl⟩;rw[←hN]at e4 ⊢;simp only[dCnf]at e2;refine Aa_ [] anCK464 Tryz.func64 Tryz.call64 Tryz.ntmps64 mxd (aj2 @anCK464.eq_1 Tryz.results64) rfl (by simp) (by simp[mx,mxL,dCnf]) fun hwf B hnt hgAnn=> ?_
 clear hwf;simp only[argS];exact go0 (aj4 e1 e2 e3 e4) aj0 (aj1 @dCnf.eq_1)
end Go.Proofs.YtchgnpnbcjflcaaGreat
end
section
namespace Go.Proofs.YtchgnpnbcjflcaaGreat
open Go Go.Dm
variable [DMode]
attribute [local irreducible] DW Bj_ Bp_
set_option maxRecDepth 100000
def WO_ : Ann:=⟨[],[]⟩
theorem way2_pure (g:Edges) (a b:ByteArray):Ac_ Tryz.prog 88 [.ref (dGr g),.ref [.str a],.ref [.str b]] (.int .i64 (endsI g a b)):=by
 refine Aa_ [] WO_ Tryz.func88 Tryz.call88 Tryz.ntmps88 mxd (aj2 @WO_.eq_1 Tryz.results88) rfl (by simp) (by simp[mx]) fun hwf B hnt hgAnn=> ?_
 clear hwf;simp only[argS];have h:=Ud_ g a b;simp only[dGr]at h;exact go0 (aj1 h) aj0 (aj1 @dGr.eq_1)
def WN_ : Ann:=⟨[],[]⟩
theorem way3_pure (way:List Edge):Ac_ Tryz.prog 89 [.ref [dEds way]] (.int .i64 (if 64<way.length then 3 else 0)):=by
 refine Aa_ [] WN_ Tryz.func89 Tryz.call89 Tryz.ntmps89 mxd (aj2 @WN_.eq_1 Tryz.results89) rfl (by simp) (by simp[mx]) fun hwf B hnt hgAnn=> ?_
 clear hwf;simp only[argS];have h:=BB_ (decide ((64:Int)<way.length)) 3
 by_cases c:64<way.length
 ·have d:(64:Int)<way.length:=by omega
  have h:=BB_ true 3;simp only[if_true]at h;exact go0 (aj1 h) aj0 (aj2 c d)
 ·have d:¬(64:Int)<way.length:=by omega
  have h:=BB_ false 3;simp only[aL0,if_false]at h;exact go0 (aj1 h) aj0 (aj2 c d)
def WP_ : Ann:=⟨[],[]⟩
theorem YZ_ : Ac_ Tryz.prog 70 [.nilsl] (.bool true):=by
 refine Aa_ [] WP_ Tryz.func70 Tryz.call70 Tryz.ntmps70 mxd (aj2 @WP_.eq_1 Tryz.results70) rfl (by simp) (by simp[mx]) fun hwf B hnt hgAnn=> ?_
 clear hwf;simp only[argS]
 (refine go1 aj0 aj0 aj0 ?_;intros;refine mk_i ?_)
 refine Ae_ (X:=Unit) (fun _=>⟨[(0,.nilsl),(3,.int .i64 1)],[]⟩) (fun _=>0) () (Sub.lit (by simp)) ?_;rintro⟨⟩;exact go0 aj0 aj0 aj0
def gUno : Edges:=⟨[⟨#[110]⟩],[]⟩
def dUno : List DVal:=[.sl 1 16 [[.str ⟨#[110]⟩]],.sl 3 48 []]
def anWH309 : Ann:=⟨[],[]⟩
theorem Zr_ : Ac_ Tryz.prog 309 [.int .u8 110] (.bool true):=by
 refine Aa_ [] anWH309 Tryz.func309 Tryz.call309 Tryz.ntmps309 mxd (aj2 @anWH309.eq_1 Tryz.results309) rfl (by simp) (by simp[mx]) fun hwf B hnt hgAnn=> ?_
 clear hwf;simp only[argS];exact go0 aj0 aj0 aj0
def anWH246 : Ann:=⟨[],[]⟩
theorem name_uno : Ac_ Tryz.prog 246 [.str ⟨#[110]⟩] (.bool true):=by
 refine Aa_ [] anWH246 Tryz.func246 Tryz.call246 Tryz.ntmps246 mxd (aj2 @anWH246.eq_1 Tryz.results246) rfl (by simp) (by simp[mx]) fun hwf B hnt hgAnn=> ?_
 clear hwf;simp only[argS];have s1:(⟨#[110]⟩:ByteArray).size=1:=rfl
 (refine go1 aj0 aj0 (aj1 s1) ?_;intros;refine mk_i ?_)
 refine Ae_ (X:={k:Nat//k≤1}) (fun k=>⟨[(0,.str ⟨#[110]⟩),(3,.int .i64 (k.1:Int))],[]⟩) (fun k=>1-k.1) ⟨0,by omega⟩ (Sub.lit (by simp)) ?_;rintro⟨k,hk⟩
 match k,hk with
 | 0,_ =>
  have e1:=Zr_
  (refine go1 (aj1 e1) aj0 (aj1 s1) ?_;intros;refine mk_i ?_)
  exact Aj_.mk ⟨1,by omega⟩ (Sub.lit (by simp)) (by simp)
  skip
 | 1,_ =>
  exact go0 aj0 aj0 (aj1 s1)
def anWH242 : Ann:=⟨[],[]⟩
theorem YY_ : Ac_ Tryz.prog 242 [.sl 1 16 [[.str ⟨#[110]⟩]],.fn (.func 243) [] []] (.bool true):=by
 refine Aa_ [] anWH242 Tryz.func242 Tryz.call242 Tryz.ntmps242 mxd (aj2 @anWH242.eq_1 Tryz.results242) rfl (by simp) (by simp[mx]) fun hwf B hnt hgAnn=> ?_
 clear hwf;simp only[argS]
 (refine go1 aj0 aj0 aj0 ?_;intros;refine mk_i ?_)
 refine Ae_ (X:=Unit) (fun _=>⟨[(0,.sl 1 16 [[.str ⟨#[110]⟩]]),(5,.int .i64 1)],[]⟩) (fun _=>0) () (Sub.lit (by simp)) ?_;rintro⟨⟩;exact go0 aj0 aj0 aj0
def anWH244 : Ann:=⟨[],[]⟩
theorem Ts_ : Ac_ Tryz.prog 244 [.sl 3 48 [],.fn (.func 245) [] []] (.bool true):=by
 refine Aa_ [] anWH244 Tryz.func244 Tryz.call244 Tryz.ntmps244 mxd (aj2 @anWH244.eq_1 Tryz.results244) rfl (by simp) (by simp[mx]) fun hwf B hnt hgAnn=> ?_
 clear hwf;simp only[argS]
 (refine go1 aj0 aj0 aj0 ?_;intros;refine mk_i ?_)
 refine Ae_ (X:=Unit) (fun _=>⟨[(0,.sl 3 48 []),(5,.int .i64 1)],[]⟩) (fun _=>0) () (Sub.lit (by simp)) ?_;rintro⟨⟩;exact go0 aj0 aj0 aj0
def metU (k:Nat):Ent:=⟨18,1,.map (if k=0 then []else [.str ⟨#[110]⟩]) (if k=0 then []else [.int .i64 1])⟩
def anWH165 : Ann:=⟨[],[⟨11,[7],[],[]⟩]⟩
theorem form_uno : Ac_ Tryz.prog 165 [.agg dUno] (.bool true):=by
 refine Aa_ [] anWH165 Tryz.func165 Tryz.call165 Tryz.ntmps165 mxd (aj2 @anWH165.eq_1 Tryz.results165) rfl (by simp) (by simp[mx]) fun hwf B hnt hgAnn=> ?_
 clear hwf;simp only[argS];have e1:=YY_;have e2:=Ts_
 (refine go1 (aj2 e1 e2) aj0 (aj1 @dUno.eq_1) ?_;intros;refine mk_i ?_)
 refine Ae_ (X:={k:Nat//k≤1}) (fun k=>⟨[(1,.ref dUno),(3,.omp 18 1),(20,.sl 1 16 [[.str ⟨#[110]⟩]]),(21,.int .i64 1),(22,.int .i64 (k.1:Int))],[metU k.1]⟩) (fun k=>1-k.1) ⟨0,by omega⟩ (Sub.lit (by simp[metU,dUno])) ?_;rintro⟨k,hk⟩
 match k,hk with
 | 0,_ =>
  (refine go1 aj0 aj0 (aj2 @metU.eq_1 @dUno.eq_1) ?_;intros;refine mk_i ?_)
  exact Aj_.mk ⟨1,by omega⟩ (Sub.lit (by simp[metU,dUno])) (by simp)
  skip
 | 1,_ =>
  (refine go1 aj0 aj0 (aj2 @metU.eq_1 @dUno.eq_1) ?_;intros;refine mk_i ?_)
  refine Ae_ (X:=Unit) (fun _=>⟨[(33,.sl 3 48 []),(34,.int .i64 0),(35,.int .i64 0)],[metU 1]⟩) (fun _=>0) () (Sub.lit (by simp[metU])) ?_;rintro⟨⟩;exact go0 aj0 aj0 aj0
def anWH166 : Ann:=⟨[],[⟨9,[6],[],[]⟩]⟩
theorem named_uno : Ac_ Tryz.prog 166 [.agg dUno] (.bool true):=by
 refine Aa_ [] anWH166 Tryz.func166 Tryz.call166 Tryz.ntmps166 mxd (aj2 @anWH166.eq_1 Tryz.results166) rfl (by simp) (by simp[mx]) fun hwf B hnt hgAnn=> ?_
 clear hwf;simp only[argS]
 (refine go1 aj0 aj0 (aj1 @dUno.eq_1) ?_;intros;refine mk_i ?_)
 refine Ae_ (X:={k:Nat//k≤1}) (fun k=>⟨[(1,.ref dUno),(8,.sl 1 16 [[.str ⟨#[110]⟩]]),(9,.int .i64 1),(10,.int .i64 (k.1:Int))],[]⟩) (fun k=>1-k.1) ⟨0,by omega⟩ (Sub.lit (by simp[dUno])) ?_;rintro⟨k,hk⟩
 match k,hk with
 | 0,_ =>
  have e1:=name_uno
  (refine go1 (aj1 e1) aj0 (aj1 @dUno.eq_1) ?_;intros;refine mk_i ?_)
  exact Aj_.mk ⟨1,by omega⟩ (Sub.lit (by simp[dUno])) (by simp)
  skip
 | 1,_ =>
  (refine go1 aj0 aj0 (aj1 @dUno.eq_1) ?_;intros;refine mk_i ?_)
  refine Ae_ (X:=Unit) (fun _=>⟨[(19,.sl 3 48 []),(20,.int .i64 0),(21,.int .i64 0)],[]⟩) (fun _=>0) () (Sub.lit (by simp)) ?_;rintro⟨⟩;exact go0 aj0 aj0 aj0
def anWH311 : Ann:=⟨[],[]⟩
theorem Su_ : AM_ Tryz.prog (.func 311) [.osl 0 0] [⟨0,0,.row 9 1 16 []⟩] (.sl 1 16 []) []:=by
 refine Eq_ [0] [] Tryz.func311 rfl Tryz.call311 (by simp[Tryz.ntmps311]) (by simp) (by simp) ?_;intro hwf hwo B hnt;have hgAnn:=an_is anWH311 mxd (aj2 @anWH311.eq_1 Tryz.results311);simp only[argS];exact go0 aj0 aj0 aj0
def anWH248 : Ann:=⟨[20,22],[⟨5,[6],[],[]⟩]⟩
theorem Zs_ : Ac_ Tryz.prog 248 [.agg dUno] (.sl 1 16 []):=by
 refine Aa_ [] anWH248 Tryz.func248 Tryz.call248 Tryz.ntmps248 mxd (aj2 @anWH248.eq_1 Tryz.results248) rfl (by simp) (by simp[mx]) fun hwf B hnt hgAnn=> ?_
 clear hwf;simp only[argS]
 (refine go1 aj0 aj0 (aj1 @dUno.eq_1) ?_;intros;refine mk_i ?_)
 refine Bq_ 3 0 50 9 1 16 (by simp) (fun n=> ?_);refine Ae_ (X:=Unit) (fun _=>⟨[(3,.bx 3 1 0),(9,.sl 3 48 []),(10,.int .i64 0),(11,.int .i64 0)],[⟨3,1,.box [.osl 50 1]⟩,⟨50,1,.row 9 1 16 []⟩]⟩) (fun _=>0) () (Sub.lit (by simp)) ?_;rintro⟨⟩;have e1:=MV_ [];have e2:=Su_;have e3:=Mx_ [];have hs0:Eb_ []=[]:=bO0 (by rw[ED_];rfl);simp only[hs0,AS_,List.map_nil]at e1 e3;exact go0 (aj1 e3) (aj2 (spc [(50,0)] [] e1) (spc [(50,0)] [] e2)) aj0
def anWH312 : Ann:=⟨[],[⟨4,[5],[],[]⟩]⟩
theorem lone_uno : Ac_ Tryz.prog 312 [.agg dUno] (.sl 1 16 [[.str ⟨#[110]⟩]]):=by
 refine Aa_ [6] anWH312 Tryz.func312 Tryz.call312 Tryz.ntmps312 mxd (aj2 @anWH312.eq_1 Tryz.results312) rfl (by simp) (by simp[mx]) fun hwf B hnt hgAnn=> ?_
 clear hwf;simp only[argS]
 (refine go1 aj0 aj0 (aj1 @dUno.eq_1) ?_;intros;refine mk_i ?_)
 refine Ae_ (X:=Unit) (fun _=>⟨[(1,.ref dUno),(3,.omp 9 1),(11,.sl 3 48 []),(12,.int .i64 0),(13,.int .i64 0)],[⟨9,1,.map [] []⟩]⟩) (fun _=>0) () (Sub.lit (by simp[dUno])) ?_;rintro⟨⟩
 (refine go1 aj0 aj0 (aj1 @dUno.eq_1) ?_;intros;refine mk_i ?_)
 refine AV_ 6 6 9 1 16 (by simp[hnt]) (fun n6=> ?_);refine Ae_ (X:={k:Nat//k≤1}) (fun k=>⟨[(3,.omp 9 1),(6,.osl 6 1),(29,.sl 1 16 [[.str ⟨#[110]⟩]]),(30,.int .i64 1),(31,.int .i64 (k.1:Int))],[⟨9,1,.map [] []⟩,⟨6,1,.row 9 1 16 (if k.1=0 then []else [[.str ⟨#[110]⟩]])⟩]⟩) (fun k=>1-k.1) ⟨0,by omega⟩ (Sub.lit (by simp)) ?_;rintro⟨k,hk⟩
 match k,hk with
 | 0,_ =>
  (refine go1 aj0 aj0 aj0 ?_;intros;refine mk_i ?_)
  exact Aj_.mk ⟨1,by omega⟩ (Sub.lit (by simp)) (by simp)
  skip
 | 1,_ =>
  exact go0 aj0 aj0 aj0
def tUno : ByteArray:=⟨#[110]⟩++⟨#[32,59,10]⟩
def bldU (k:Nat):List Ent:=if k=0 then [⟨3,1,.row 338 2 32 [[.nilp,.nilsl]]⟩]else [⟨3,1,.row 338 2 32 [[.rx 3 1 2 0 0,.osl 50 1]]⟩,⟨50,1,.row 5 1 1 (AH_ tUno)⟩]
def Qj_ : Ann:=⟨[17,37,39],[⟨1,[3],[],[]⟩,⟨9,[7],[],[]⟩]⟩
theorem text_uno : Ac_ Tryz.prog 249 [.agg dUno] (.str tUno):=by
 refine Aa_ [] Qj_ Tryz.func249 Tryz.call249 Tryz.ntmps249 mxd (aj2 @Qj_.eq_1 Tryz.results249) rfl (by simp) (by simp[mx]) fun hwf B hnt hgAnn=> ?_
 clear hwf;simp only[argS];have h1:=lone_uno;have e0:(⟨#[]⟩:ByteArray).size≤maxLen:=cL0 _;have m3:3≤maxLen:=by unfold maxLen;omega
 have m1:1≤maxLen:=by unfold maxLen;omega
 have q1:(⟨#[110]⟩:ByteArray).size+3≤maxLen:=by unfold maxLen;decide
 refine Aw_ fun K0 hK0=> ?_
 (first | refine Aw_ fun K hK=> ?_ | (refine DW_r Qj_ mxd (by kernel_rfl) ?_;simp[Qj_,hnt,dUno,e0];try simp (disch:=omega) only[Ah_]) | refine Al_ ?_ | (refine AJ_ ?_ ?_ ?_;(· (simp[hnt,dUno,e0];done));(try (rotate_left;(· (intro hc;(try simp[hnt,dUno,e0]at hc);done))))) | (refine Ay_ ?_;simp[Tryz.results249,hnt,dUno,e0]) | ((first | refine Aq_ ?_ | refine Ap_ ?_);simp[hnt,dUno,e0]) | (intro hc;(try simp[hnt,dUno,e0]at hc);(try (exfalso;omega))) | (refine⟨?_,?_⟩; · omega) | omega | apply_assumption -exfalso -symm | (exfalso;omega))
 apply hK0
 refine Aw_ fun K1 hK1=> ?_
 refine Ji_ (bs:=32) (k:=2) (z:=[.nilp,.nilsl]) (by simp[hnt,Tryz.ntmps249]) (by simp) (by rfl) rfl (by decide) (fun r hr=> ?_);simp
 apply hK1
 (refine go1 (aj1 h1) aj0 (aj2 @dUno.eq_1 e0) ?_;intros;refine mk_i ?_)
 refine Ae_ (X:={k:Nat//k≤1}) (fun k=>⟨[(1,.ref dUno),(3,.rx 3 1 2 0 0),(9,.sl 1 16 [[.str ⟨#[110]⟩]]),(10,.int .i64 1),(11,.int .i64 (k.1:Int))],bldU k.1⟩) (fun k=>1-k.1) ⟨0,by omega⟩ (Sub.lit (by simp[dUno,bldU])) ?_;rintro⟨k,hk⟩
 match k,hk with
 | 0,_ =>
  have e1:=FK_ (⟨#[110]⟩++⟨#[32,59,10]⟩) (by decide)
  (refine go1 aj0 (aj1 (spc [(3,0)] [(50,1)] e1)) (aj8 @bldU.eq_1 @dUno.eq_1 q1 @size3 @size1 @aS0 m3 m1) ?_;intros;refine mk_i ?_)
  exact Aj_.mk ⟨1,by omega⟩ (Sub.lit (by simp[bldU,dUno,tUno])) (by simp)
  skip
 | 1,_ =>
  (refine go1 aj0 aj0 (aj2 @bldU.eq_1 @dUno.eq_1) ?_;intros;refine mk_i ?_)
  refine Ae_ (X:=Unit) (fun _=>⟨[(3,.rx 3 1 2 0 0),(20,.sl 3 48 []),(21,.int .i64 0),(22,.int .i64 0)],bldU 1⟩) (fun _=>0) () (Sub.lit (by simp[bldU])) ?_;rintro⟨⟩;have e1:=DR_ tUno (by decide);exact go0 aj0 (aj1 (spc [(3,0),(50,1)] [] e1)) (aj1 @bldU.eq_1)
def anWH167 : Ann:=⟨[],[]⟩
theorem caps_uno : Ac_ Tryz.prog 167 [.agg dUno] (.int .i64 0):=by
 refine Aa_ [] anWH167 Tryz.func167 Tryz.call167 Tryz.ntmps167 mxd (aj2 @anWH167.eq_1 Tryz.results167) rfl (by simp) (by simp[mx]) fun hwf B hnt hgAnn=> ?_
 clear hwf;simp only[argS];have h1:=Zs_;have h2:=text_uno;have hs:tUno.size=4:=by decide
 exact go0 (aj2 h1 h2) aj0 (aj2 @dUno.eq_1 hs)
def anWH78 : Ann:=⟨[],[]⟩
theorem check_uno : Ac_ Tryz.prog 78 [.agg dUno] (.int .i64 0):=by
 refine Aa_ [] anWH78 Tryz.func78 Tryz.call78 Tryz.ntmps78 mxd (aj2 @anWH78.eq_1 Tryz.results78) rfl (by simp) (by simp[mx]) fun hwf B hnt hgAnn=> ?_
 clear hwf;simp only[argS];have h1:=form_uno;have h2:=named_uno;have h3:=caps_uno;exact go0 (aj3 h1 h2 h3) aj0 (aj1 @dUno.eq_1)
def anWH87 : Ann:=⟨[],[]⟩
theorem way1_uno : Ac_ Tryz.prog 87 [.ref dUno] (.int .i64 0):=by
 refine Aa_ [] anWH87 Tryz.func87 Tryz.call87 Tryz.ntmps87 mxd (aj2 @anWH87.eq_1 Tryz.results87) rfl (by simp) (by simp[mx]) fun hwf B hnt hgAnn=> ?_
 clear hwf;simp only[argS];have h:=check_uno;exact go0 (aj1 h) aj0 (aj1 @dUno.eq_1)
def anWH83 : Ann:=⟨[],[⟨5,[12],[],[]⟩]⟩
theorem Zu_ : Ac_ Tryz.prog 83 [.agg dUno,.str ⟨#[110]⟩,.str ⟨#[110]⟩,.sl 3 48 []] (.bool true):=by
 refine Aa_ [] anWH83 Tryz.func83 Tryz.call83 Tryz.ntmps83 mxd (aj2 @anWH83.eq_1 Tryz.results83) rfl (by simp) (by simp[mx]) fun hwf B hnt hgAnn=> ?_
 clear hwf;simp only[argS]
 (refine go1 aj0 aj0 (aj1 @dUno.eq_1) ?_;intros;refine mk_i ?_)
 refine DW_scope ?_
 (refine go1 aj0 aj0 (aj1 @dUno.eq_1) ?_;intros;refine mk_i ?_)
 refine DW_label ?_;simp
 (refine go1 aj0 aj0 (aj1 @dUno.eq_1) ?_;intros;refine mk_i ?_)
 refine Ae_ (X:=Unit) (fun _=>⟨[(2,.str ⟨#[110]⟩),(9,.str ⟨#[110]⟩),(10,.bool true),(14,.sl 3 48 []),(15,.int .i64 0),(16,.int .i64 0)],[]⟩) (fun _=>0) () (Sub.lit (by simp[dUno])) ?_;rintro⟨⟩;exact go0 aj0 aj0 (aj1 @dUno.eq_1)
def anWH90 : Ann:=⟨[],[]⟩
theorem way4_uno : Ac_ Tryz.prog 90 [.ref dUno,.ref [.str ⟨#[110]⟩],.ref [.str ⟨#[110]⟩],.ref [.sl 3 48 []]] (.int .i64 0):=by
 refine Aa_ [] anWH90 Tryz.func90 Tryz.call90 Tryz.ntmps90 mxd (aj2 @anWH90.eq_1 Tryz.results90) rfl (by simp) (by simp[mx]) fun hwf B hnt hgAnn=> ?_
 clear hwf;simp only[argS];have h:=Zu_;have h2:=BB_ false 370;simp only[aL0,if_false]at h2;exact go0 (aj2 h h2) aj0 (aj1 @dUno.eq_1)
def anWH27 : Ann:=⟨[],[]⟩
theorem way_uno (b:ByteArray) (R:Int) (h2:endsI gUno ⟨#[110]⟩ b=R) (h4:R=0→b=⟨#[110]⟩):Ac_ Tryz.prog 27 [.agg dUno,.str ⟨#[110]⟩,.str b,.sl 3 48 []] (.int .i64 R):=by
 refine Aa_ [] anWH27 Tryz.func27 Tryz.call27 Tryz.ntmps27 mxd (aj2 @anWH27.eq_1 Tryz.results27) rfl (by simp) (by simp[mx]) fun hwf B hnt hgAnn=> ?_
 clear hwf;simp only[argS];have w2:=way2_pure gUno ⟨#[110]⟩ b;rw[h2]at w2;have w3:Ac_ Tryz.prog 89 [.ref [.sl 3 48 []]] (.int .i64 0):=way3_pure [];have h:=TY_ 87 88 89 90 [.ref dUno] [.ref dUno,.ref [.str ⟨#[110]⟩],.ref [.str b]] [.ref [.sl 3 48 []]] [.ref dUno,.ref [.str ⟨#[110]⟩],.ref [.str b],.ref [.sl 3 48 []]] _ _ _ _ way1_uno (fun _=>w2) (fun _ _=>w3) (fun _ hR _=>by rw[h4 hR];exact way4_uno)
 simp only[if_true]at h;have hI:(if R=0 then (0:Int)else R)=R:=by split<;>simp_all
 rw[hI]at h;have hr4:(([0,1,2,3]:List Nat)=List.range 4)=True:=eq_true rfl;exact go0 (aj1 h) aj0 (aj2 @dUno.eq_1 hr4)
def anWH22 : Ann:=⟨[],[⟨1,[1],[],[]⟩]⟩
theorem Zw_ : Ac_ Tryz.prog 22 [] (.bool true):=by
 refine Aa_ [] anWH22 Tryz.func22 Tryz.call22 Tryz.ntmps22 mxd (aj2 @anWH22.eq_1 Tryz.results22) rfl (by simp) (by simp[mx]) fun hwf B hnt hgAnn=> ?_
 clear hwf;simp only[argS];have k1:Ac_ Tryz.prog 27 [.agg [.sl 1 16 [[.str ⟨#[110]⟩]],.sl 3 48 []],.str ⟨#[110]⟩,.str ⟨#[109]⟩,.sl 3 48 []] (.int .i64 4):=way_uno _ 4 rfl (fun h=>absurd h (by decide));have k2:Ac_ Tryz.prog 27 [.agg [.sl 1 16 [[.str ⟨#[110]⟩]],.sl 3 48 []],.str ⟨#[110]⟩,.str ⟨#[110]⟩,.sl 3 48 []] (.int .i64 0):=way_uno _ 0 rfl (fun _=>rfl);have h3:=YZ_;have m1:1≤maxLen:=by unfold maxLen;omega
 have s1:(⟨#[110]⟩:ByteArray).size=1:=rfl;have s2:(⟨#[109]⟩:ByteArray).size=1:=rfl;have hr1:(([0]:List Nat)=List.range 1)=True:=eq_true rfl;exact go0 (aj3 k1 k2 h3) aj0 (aj4 m1 s1 s2 hr1)
end Go.Proofs.YtchgnpnbcjflcaaGreat
end
section
namespace Go.Proofs.YtchgnpnbcjflcaaGreat
open Go Go.Dm
attribute [local irreducible] DW Bj_ Bp_
set_option maxRecDepth 100000
def Td_ (c:Int) (g:List Rul) (nt:ByteArray) (w:List ByteArray) (l:List Stp) (r:Bool):Bool×Int :=
 if BJ_ c g nt=0 then (if 64<w.length∨4096<l.length then (false,3)else (wdB (Ao_ g) w&&r,0))else (false,BJ_ c g nt)
def anCT160 : Ann:=⟨[],[]⟩
theorem Ns_ (g:List Rul) (nt:ByteArray) (c:Int) (h:Ac_ Tryz.prog 76 [Av_ g] (.int .i64 c)):Ac_ Tryz.prog 60 [.ref [Av_ g],.ref [.str nt]] (.int .i64 (BJ_ c g nt)):=by
 refine Aa_ [] anCT160 Tryz.func60 Tryz.call60 Tryz.ntmps60 mxd (aj2 @anCT160.eq_1 Tryz.results60) rfl (by simp) (by simp[mx]) fun hwf B hnt hgAnn=> ?_
 clear hwf;simp only[argS];have e1:=Zt_ g nt c h;obtain⟨R,hR⟩:∃R,R=BJ_ c g nt:=⟨_,rfl⟩;rw[←hR]at e1 ⊢;exact go0 (aj1 e1) aj0 aj0
def anCT162 : Ann:=⟨[],[]⟩
theorem Nr_ (w:List ByteArray) (l:List Stp):Ac_ Tryz.prog 62 [.ref [AS_ w],.ref [CK_ l]] (.int .i64 (if 64<w.length∨4096<l.length then 3 else 0)):=by
 refine Aa_ [] anCT162 Tryz.func62 Tryz.call62 Tryz.ntmps62 mxd (aj2 @anCT162.eq_1 Tryz.results62) rfl (by simp) (by simp[mx]) fun hwf B hnt hgAnn=> ?_
 clear hwf;simp only[argS]
 by_cases h1:64<w.length
 ·have e1:=BB_ true 3;simp only[if_true]at e1;have d1:(64:Int)<(w.length:Int):=by omega
  exact go0 (aj1 e1) aj0 (aj2 h1 d1)
 ·have d1:¬(64:Int)<(w.length:Int):=by omega
  by_cases h2:4096<l.length
  ·have e1:=BB_ true 3;simp only[if_true]at e1;have d2:(4096:Int)<(l.length:Int):=by omega
   exact go0 (aj1 e1) aj0 (aj4 h1 d1 h2 d2)
  ·have e1:=BB_ false 3;simp only[aL0,if_false]at e1;have d2:¬(4096:Int)<(l.length:Int):=by omega
   exact go0 (aj1 e1) aj0 (aj4 h1 d1 h2 d2)
theorem UF_ {gt:GT} (h:OkgT gt) {nt:ByteArray} (hn:nt∈Ar_ (mkG gt)) {w:Nat} (hw:w≤64):askE (FF_ gt).1 (numK (Ar_ (mkG gt)) nt) w=0:=by
 obtain⟨x,e1,e2,e3,e4⟩:=YF_ h (Qg_ h);have e5:FF_ gt=(x,0):=e1;rw[e5];have h1:=JT_ hn;unfold askE numK CZ_
 have e6:x.prods.any CX_=false:=by
  rw[dA0];intro p hp;have:=e3 p hp;simpa[CX_]using this
 simp only[e2,e6,if_true,Bool.not_false,fE0];rw[if_pos hn,if_pos (by omega),if_pos hw]
def treeR (g:List Rul) (X:Cnf) (nt:ByteArray) (w:List ByteArray) (l:List Stp):Bool:=Lx_ X (numK (Ar_ g) nt) (wdL (Ao_ g) w) l
def Qo_ : Ann:=⟨[],[⟨4,[11],[],[]⟩]⟩
theorem tree_err (g:List Rul) (nt:ByteArray) (c:Int) (w:List ByteArray) (l:List Stp) (r:Bool) (h:Ac_ Tryz.prog 76 [Av_ g] (.int .i64 c)) (he:BJ_ c g nt≠0∨64<w.length∨4096<l.length):Ac_ Tryz.prog 20 [Av_ g,.str nt,AS_ w,CK_ l] (.tup [.bool (Td_ c g nt w l r).1,.int .i64 (Td_ c g nt w l r).2]):=by
 have e1:=HT_ 60 62 [.ref [Av_ g],.ref [.str nt]] [.ref [AS_ w],.ref [CK_ l]] _ _ (Ns_ g nt c h) (fun _=>Nr_ w l);have hr2:(([0,1]:List Nat)=List.range 2)=True:=eq_true rfl;obtain⟨R,hR⟩:∃R,R=(if BJ_ c g nt=0 then (if 64<w.length∨4096<l.length then (3:Int)else 0)else BJ_ c g nt):=⟨_,rfl⟩;rw[←hR]at e1
 have hR0:R≠0:=by
  rw[hR]
  by_cases hk:BJ_ c g nt=0
  ·rw[if_pos hk,if_pos (he.resolve_left (fun hh=>hh hk))];omega
  ·rw[if_neg hk];exact hk
 have ht:Td_ c g nt w l r=(false,R):=by
  unfold Td_;rw[hR]
  by_cases hk:BJ_ c g nt=0
  ·have hh:=he.resolve_left (fun hh=>hh hk);rw[if_pos hk,if_pos hh,if_pos hk,if_pos hh]
  ·rw[if_neg hk,if_neg hk]
 rw[ht];have hRb:(R==0)=false:=by simpa using hR0
 have hRc:(R != 0)=true:=by simpa using hR0
 clear hR ht;refine Aa_ [] Qo_ Tryz.func20 Tryz.call20 Tryz.ntmps20 mxd (aj2 @Qo_.eq_1 Tryz.results20) rfl (by simp) (by simp[mx]) fun hwf B hnt hgAnn=> ?_
 clear hwf;simp only[argS];exact go0 (aj1 e1) aj0 (aj4 hr2 hR0 hRb hRc)
set_option maxHeartbeats 4000000 in
theorem tree_ok2 (gt:GT) (h:OkgT gt) (hs:SmlG (mkG gt)) (p1:Ac_ Tryz.prog 76 [Av_ (mkG gt)] (.int .i64 0)) (nt:ByteArray) (hn:nt∈Ar_ (mkG gt)) (w:List ByteArray) (hw:w.length≤64) (l:List Stp) (hl:l.length≤4096) :
  Ac_ Tryz.prog 20 [Av_ (mkG gt),.str nt,AS_ w,CK_ l] (.tup [.bool (wdB (Ao_ (mkG gt)) w&&treeR (mkG gt) (FF_ gt).1 nt w l),.int .i64 0]):=by
 have e1:=HT_ 60 62 [.ref [Av_ (mkG gt)],.ref [.str nt]] [.ref [AS_ w],.ref [CK_ l]] _ _ (Ns_ (mkG gt) nt 0 p1) (fun _=>Nr_ w l);have hr2:(([0,1]:List Nat)=List.range 2)=True:=eq_true rfl
 have hR:(if BJ_ 0 (mkG gt) nt=0 then (if 64<w.length∨4096<l.length then (3:Int)else 0)else BJ_ 0 (mkG gt) nt)=0:=by
  have hk:BJ_ 0 (mkG gt) nt=0:=by unfold BJ_;rw[if_pos rfl,if_pos hn]
  rw[if_pos hk,if_neg (by omega)]
 rw[hR]at e1;clear hR;have e2:=Uo_ gt h hs p1 nt w hw;have hq:=UF_ h hn (w:=(wdL (Ao_ (mkG gt)) w).length) (by rw[Jk_];exact hw);have e3:=right_ok (FF_ gt).1 (numK (Ar_ (mkG gt)) nt) (wdL (Ao_ (mkG gt)) w) l hq (by rw[Jk_];exact hw) hl;unfold treeR;obtain⟨X,hX⟩:∃X,X=(FF_ gt).1:=⟨_,rfl⟩;obtain⟨N,hN⟩:∃N,N=numK (Ar_ (mkG gt)) nt:=⟨_,rfl⟩;obtain⟨L,hL⟩:∃L,L=Ao_ (mkG gt):=⟨_,rfl⟩;rw[←hX,←hN,←hL]at e2 e3
 rw[←hX,←hN,←hL];clear hq;obtain⟨RB,hRB⟩:∃RB,RB=Lx_ X N (wdL L w) l:=⟨_,rfl⟩;rw[←hRB]at e3 ⊢;simp only[dCnf]at e2 e3;refine Aa_ [] Qo_ Tryz.func20 Tryz.call20 Tryz.ntmps20 mxd (aj2 @Qo_.eq_1 Tryz.results20) rfl (by simp) (by simp[mx]) fun hwf B hnt hgAnn=> ?_
 clear hwf;simp only[argS];cases hb:wdB L w
 ·rw[hb]at e2;simp only[aL0,if_false]at e2;exact go0 (aj2 e1 e2) aj0 (aj1 hr2)
 ·rw[hb]at e2;simp only[if_true]at e2;exact go0 (aj3 e1 e2 e3) aj0 (aj1 hr2)
def Qn_ : Ann:=⟨[],[⟨9,[13],[],[]⟩]⟩
theorem rtree_err (g:List Rul) (nt:ByteArray) (c:Int) (w:List ByteArray) (l:List Stp) (r:Bool) (h:Ac_ Tryz.prog 13 [Av_ g] (.int .i64 c)) (he:BJ_ c g nt≠0∨64<w.length∨4096<l.length):Ac_ Tryz.prog 21 [Av_ g,.str nt,AS_ w,CK_ l] (.tup [.bool (Td_ c g nt w l r).1,.int .i64 (Td_ c g nt w l r).2]):=by
 have e1:=Lw_ g nt c h;unfold Td_;obtain⟨R,hR⟩:∃R,R=BJ_ c g nt:=⟨_,rfl⟩;rw[←hR]at e1 he ⊢;clear hR;refine Aa_ [] Qn_ Tryz.func21 Tryz.call21 Tryz.ntmps21 mxd (aj2 @Qn_.eq_1 Tryz.results21) rfl (by simp) (by split<;>(try split)<;>simp[mx]) fun hwf B hnt hgAnn=> ?_
 clear hwf;simp only[argS]
 by_cases h0:R=0
 ·subst h0;have he2:=he.resolve_left (fun hh=>hh rfl)
  by_cases h1:64<w.length
  ·have d1:(64:Int)<(w.length:Int):=by omega
   exact go0 (aj1 e1) aj0 (aj2 h1 d1)
  ·have h2:=he2.resolve_left h1;have d1:¬(64:Int)<(w.length:Int):=by omega
   have d2:(4096:Int)<(l.length:Int):=by omega
   exact go0 (aj1 e1) aj0 (aj4 h1 d1 h2 d2)
 ·have h0b:(R==0)=false:=by simpa using h0
  have h0c:(R != 0)=true:=by simpa using h0
  exact go0 (aj1 e1) aj0 (aj3 h0 h0b h0c)
set_option maxHeartbeats 4000000 in
theorem rtree_ok2 (gt:GT) (h:OkgT gt) (hs:SmlG (mkG gt)) (p2:Ac_ Tryz.prog 13 [Av_ (mkG gt)] (.int .i64 0)) (nt:ByteArray) (hn:nt∈Ar_ (mkG gt)) (w:List ByteArray) (hw:w.length≤64) (l:List Stp) (hl:l.length≤4096) :
  Ac_ Tryz.prog 21 [Av_ (mkG gt),.str nt,AS_ w,CK_ l] (.tup [.bool (wdB (Ao_ (mkG gt)) w&&treeR (mkG gt) (FF_ gt).1 nt w l),.int .i64 0]):=by
 have e1:=Lw_ (mkG gt) nt 0 p2;have hk:BJ_ 0 (mkG gt) nt=0:=by unfold BJ_;rw[if_pos rfl,if_pos hn]
 rw[hk]at e1;clear hk;have n1:=Df_ (k:=3) hs;have n2:(mkG gt).length=gt.length:=DW_ gt;have n3:=h.le;have e4:=YR_ (mkG gt) w (by omega) h.lb hw;have e5:=YS_ gt h hs p2;have e6:=Ce_ (mkG gt);have e7:=Iy_ (Ar_ (mkG gt)) nt;rw[Iw_ hn,show (ixS (Ar_ (mkG gt)) nt:Int)=numK (Ar_ (mkG gt)) nt by unfold numK;rw[if_pos hn]]at e7;have hq:=UF_ h hn (w:=(wdL (Ao_ (mkG gt)) w).length) (by rw[Jk_];exact hw);have e3:=rright_ok (FF_ gt).1 (numK (Ar_ (mkG gt)) nt) (wdL (Ao_ (mkG gt)) w) l hq (by rw[Jk_];exact hw) hl
 unfold treeR;unfold wdD at e4;obtain⟨X,hX⟩:∃X,X=(FF_ gt).1:=⟨_,rfl⟩;obtain⟨XE,hXE⟩:∃XE,XE=(FF_ gt).2:=⟨_,rfl⟩;obtain⟨H,hH⟩:∃H,H=Ar_ (mkG gt):=⟨_,rfl⟩;rw[←hH]at e6 e7 e3;rw[←hH];obtain⟨N,hN⟩:∃N,N=numK H nt:=⟨_,rfl⟩;obtain⟨L,hL⟩:∃L,L=Ao_ (mkG gt):=⟨_,rfl⟩;rw[←hX,←hXE]at e5;rw[←hN]at e7;rw[←hL]at e4;rw[←hX,←hN,←hL]at e3;rw[←hX,←hN,←hL];clear hq;obtain⟨RB,hRB⟩:∃RB,RB=Lx_ X N (wdL L w) l:=⟨_,rfl⟩;rw[←hRB]at e3 ⊢
 simp only[dCnf]at e3 e5;have d1:¬(64:Int)<(w.length:Int):=by omega
 have d2:¬(4096:Int)<(l.length:Int):=by omega
 refine Aa_ [] Qn_ Tryz.func21 Tryz.call21 Tryz.ntmps21 mxd (aj2 @Qn_.eq_1 Tryz.results21) rfl (by simp) (by simp[mx]) fun hwf B hnt hgAnn=> ?_
 clear hwf;simp only[argS];cases hb:wdB L w
 ·rw[hb]at e4;simp only[aL0,if_false]at e4;exact go0 (aj2 e1 e4) aj0 (aj2 d1 d2)
 ·rw[hb]at e4;simp only[if_true]at e4;exact go0 (aj6 e1 e4 e5 e6 e7 e3) aj0 (aj2 d1 d2)
def anCT15 : Ann:=⟨[],[]⟩
set_option maxHeartbeats 4000000 in
theorem Ni_ (g:List Rul) (nt:ByteArray) (w:List ByteArray) (l:List Stp) (hs:SmlG g):Ac_ Tryz.prog 5 [Av_ g,.str nt,AS_ w,CK_ l] (.bool true):=by
 obtain⟨c,p1,p2,p3⟩:=g_may g hs
 have key:∃(b:Bool) (e:Int),Ac_ Tryz.prog 20 [Av_ g,.str nt,AS_ w,CK_ l] (.tup [.bool b,.int .i64 e])∧Ac_ Tryz.prog 21 [Av_ g,.str nt,AS_ w,CK_ l] (.tup [.bool b,.int .i64 e]):=by
  by_cases he:BJ_ c g nt≠0∨64<w.length∨4096<l.length
  ·exact⟨_,_,tree_err g nt c w l false p1 he,rtree_err g nt c w l false p2 he⟩
  ·have he1:BJ_ c g nt=0:=Classical.byContradiction fun hh=>he (.inl hh)
   have hw:w.length≤64:=by omega
   have hl:l.length≤4096:=by omega
   have hc0:c=0:=by
    unfold BJ_ at he1
    split at he1
    ·assumption
    ·exact he1
   have hn:nt∈Ar_ g:=by
    unfold BJ_ at he1;rw[if_pos hc0]at he1
    split at he1
    ·assumption
    ·omega
   obtain⟨gt,rfl,h⟩:=p3 hc0;subst hc0;exact⟨_,_,tree_ok2 gt h hs p1 nt hn w hw l hl,rtree_ok2 gt h hs p2 nt hn w hw l hl⟩
 obtain⟨b,e,f1,f2⟩:=key;have f3:=Zw_;refine Aa_ [] anCT15 Tryz.func5 Tryz.call5 Tryz.ntmps5 mxd (aj2 @anCT15.eq_1 Tryz.results5) rfl (by simp) (by simp[mx]) fun hwf B hnt hgAnn=> ?_
 clear hwf;simp only[argS];exact go0 (aj3 f1 f2 f3) aj0 aj0
end Go.Proofs.YtchgnpnbcjflcaaGreat
end
section
namespace Go.Dm
variable [DMode]
inductive Sh where
 | b
 | i (k:IntKind)
 | s
 | sl (k bs:Nat) (c:List Sh)
mutual
def HasS (L:Nat):Sh→DVal→Prop
 | .b,d=>∃b,d= .bool b
 | .i k,d=>∃n,d= .int k n
 | .s,d=>∃x:ByteArray,d= .str x∧x.size≤L
 | .sl k bs c,d=>∃es,d= .sl k bs es∧es.length*bs≤L∧∀e∈es,HasL L c e
def HasL (L:Nat):List Sh→List DVal→Prop
 | [],ds=>ds=[]
 | x::r,ds=>∃d t,ds=d::t∧HasS L x d∧HasL L r t
end
theorem MP_ {L:Nat}:∀{a b:List Sh} {x y:List DVal},HasL L a x→HasL L b y→HasL L (a++b) (x++y)
 | [],b,x,y,h,k=>by simp only[HasL]at h;subst h;exact k
 | a::r,b,x,y,h,k=>by
  simp only[HasL]at h;obtain⟨d,t,rfl,h1,h2⟩:=h;simp only[List.cons_append,HasL];exact⟨d,t++y,rfl,h1,MP_ h2 k⟩
def shF (g:TypeId→Option (List Sh)) (cells:TypeId→Nat):List Field→Nat→Option (List Sh×Nat)
 | [],off=>some ([],off)
 | f::r,off=>if f.offset=off then
  (match g f.type,shF g cells r (off+cells f.type)with
  | some c,some (l,e)=>some (c++l,e)
  | _,_=>none)else none
def shOf (P:Program):Nat→TypeId→Option (List Sh)
 | 0,_=>none
 | n+1,t=>match P.underlying t with
  | some .bool=>some [.b]
  | some (.int k)=>some [.i k]
  | some .string=>some [.s]
  | some (.slice e)=>if 0<P.cellsOf e then (shOf P n e).map fun c=>[.sl (P.cellsOf e) (P.bytesOf e) c]else none
  | some (.struct fs)=>match shF (shOf P n) P.cellsOf fs.toList 0 with
   | some (l,e)=>if e=P.cellsOf t then some l else none
   | none=>none
  | _=>none
theorem LS_ {α β:Type} {f:α→Option β}:∀{l:List α} {r:List β},l.mapM f=some r→r.length=l.length∧∀(i:Nat) (x:α),l[i]? =some x→∃y,r[i]? =some y∧f x=some y
 | [],r,h=>by simp at h;subst h;simp
 | a::l,r,h=>by
  rw[List.mapM_cons]at h
  cases hf:f a with
  | none=>rw[hf]at h;simp at h
  | some y =>
   rw[hf]at h
   cases hm:l.mapM f with
   | none=>rw[hm]at h;simp at h
   | some r' =>
    rw[hm]at h;simp at h;subst h;obtain⟨h1,h2⟩:=LS_ hm;refine⟨by simp[h1],fun i x hx=> ?_⟩
    cases i with
    | zero=>simp only[bD0,aA0]at hx;subst hx;exact⟨y,rfl,hf⟩
    | succ i=>simp only[bJ0]at hx ⊢;exact h2 i x hx
theorem rdV_len {cur:Cur} {M:List Nat} {h:Array Obj}:∀{a:List DVal} {x:List Value},rdV cur M h a x→a.length=x.length
 | [],x,h1=>by simp only[rdV]at h1;subst h1;rfl
 | d::a,x,h1=>by
  simp only[rdV]at h1;obtain⟨v,r,rfl,h3,h4⟩:=h1;simp[rdV_len h4]
theorem NC_ {cur:Cur} {M:List Nat} {h:Array Obj} {arr:Array Value}:∀{a:List DVal} {x:List Value} {o:Nat},rdV cur M h a x→(∀v∈x,v.oneCell'=true)→(∀(j:Nat) v,x[j]? =some v→arr[o+j]? =some v)→rdC cur M h a arr o
 | [],x,o,h1,_,_=>by simp[rdC]
 | d::a,x,o,h1,h2,h3=>by
  simp only[rdV]at h1;obtain⟨v,r,rfl,h4,h5⟩:=h1;simp only[rdC];refine⟨⟨v,by simpa using h3 0 v rfl,h2 v (by simp),h4⟩,NC_ h5 (fun u hu=>h2 u (by simp[hu])) fun j u hu=> ?_⟩;have:=h3 (j+1) u (by simpa using hu);rw[←this];congr 1;omega
theorem rows_of {L:Nat} {cur:Cur} {M:List Nat} {h:Array Obj} {arr:Array Value} {k:Nat} {c:List Sh}:∀(len off:Nat),(∀i,i<len→∃ds,ds.length=k∧rdC cur M h ds arr (off+i*k)∧HasL L c ds) →
  ∃es,es.length=len∧rdR cur M h k es arr off∧∀e∈es,HasL L c e
 | 0,off,_=>⟨[],rfl,by simp[rdR],by simp⟩
 | len+1,off,hh=>by
  obtain⟨ds,h1,h2,h3⟩:=hh 0 (by omega)
  obtain⟨es,h4,h5,h6⟩:=rows_of len (off+k) (fun i hi=>by
   obtain⟨ds,h1,h2,h3⟩:=hh (i+1) (by omega);refine⟨ds,h1,?_,h3⟩;have:off+k+i*k=off+(i+1)*k:=by rw[bX0];omega
   rw[this];exact h2)
  refine⟨ds::es,by simp[h4],?_,?_⟩
  ·simp only[rdR];exact⟨h1,by simpa using h2,h5⟩
  ·intro e he
   rcases aK0.1 he with rfl | he
   ·exact h3
   ·exact h6 e he
theorem inR_of_wf {k:IntKind} {n:Int} (h:(Lit.int k n).wf=true):inR k n:=by
 cases k<;>simpa[Lit.wf,IntKind.min,IntKind.max,IntKind.signed,IntKind.bits,inR]using h
theorem UN_ {g:TypeId→Option (List Sh)} {cells:TypeId→Nat}:∀{fs:List Field} {off e:Nat} {l:List Sh},shF g cells fs off=some (l,e)→off≤e
 | [],off,e,l,h=>by simp only[shF,aA0,aW0]at h;omega
 | f::r,off,e,l,h=>by
  simp only[shF]at h
  split at h
  ·split at h
   ·rename_i c l' e' h1 h2;simp only[aA0,aW0]at h;have:=UN_ h2;omega
   ·simp at h
  ·simp at h
section
variable {H : Type} {enc : TypeId × Value → H} {P : Program} {w : World} {cur : Cur}
def RdArg (L:Nat) (P:Program) (cur:Cur) (w:World) (cs:List Value) (shs:List Sh):Prop :=
 ∃ds,rdV cur [] w.heap ds cs∧(∀v∈cs,v.oneCell'=true)∧HasL L shs ds
theorem Sh_ {L fuel n:Nat} (ih:∀{t:TypeId} {cs:List Value} {d:DataW H} {ps:List MemPlace} {shs:List Sh},DataW.trod enc P w 0 (fun _=>true) true fuel t cs=some (d,ps)→shOf P n t=some shs→(∀x∈d.weights P t,x≤L)→RdArg L P cur w cs shs)
  (cs:List Value):∀(fs:List Field) (off e:Nat) (l:List Sh) (xs:List (DataW H×List MemPlace)),
   fs.mapM (fun f=>DataW.trod enc P w 0 (fun _=>true) true fuel f.type ((cs.drop f.offset).take (P.cellsOf f.type)))=some xs→shF (shOf P n) P.cellsOf fs off=some (l,e) →
   (∀x∈DataW.weightsEach P (fs.map (·.type)) (xs.map (·.1)),x≤L)→RdArg L P cur w ((cs.drop off).take (e-off)) l
 | [],off,e,l,xs,h1,h2,h3=>by
  simp only[shF,aA0,aW0]at h2;obtain⟨rfl,rfl⟩:=h2;exact⟨[],by simp[rdV],by simp,by simp[HasL]⟩
 | f::fs,off,e,l,xs,h1,h2,h3=>by
  rw[List.mapM_cons]at h1;simp only[shF]at h2
  split at h2
  ·rename_i hoff
   split at h2
   ·rename_i c l' e' h4 h5;simp only[aA0,aW0]at h2;obtain⟨rfl,rfl⟩:=h2;have hm:=UN_ h5
    cases hf:DataW.trod enc P w 0 (fun _=>true) true fuel f.type ((cs.drop f.offset).take (P.cellsOf f.type))with
    | none=>rw[hf]at h1;simp at h1
    | some x =>
     rw[hf]at h1
     cases hr:fs.mapM (fun f=>DataW.trod enc P w 0 (fun _=>true) true fuel f.type ((cs.drop f.offset).take (P.cellsOf f.type)))with
     | none=>rw[hr]at h1;simp at h1
     | some xr =>
      rw[hr]at h1;simp at h1;subst h1;simp only[List.map_cons,DataW.weightsEach,aI0]at h3;obtain⟨d1,a1,a2,a3⟩:=ih hf h4 (fun y hy=>h3 y (.inl hy));obtain⟨d2,b1,b2,b3⟩:=Sh_ ih cs fs (off+P.cellsOf f.type) e' l' xr hr h5 (fun y hy=>h3 y (.inr hy))
      have hsp:(cs.drop off).take (e'-off)=(cs.drop f.offset).take (P.cellsOf f.type)++(cs.drop (off+P.cellsOf f.type)).take (e'-(off+P.cellsOf f.type)):=by
       rw[hoff,←eX0,show e'-off=P.cellsOf f.type+(e'-(off+P.cellsOf f.type)) by omega,List.take_add]
      rw[hsp];exact⟨d1++d2,Bz_ _ _ _ _ a1 b1,fun v hv=>(aI0.1 hv).elim (a2 v) (b2 v),MP_ a3 b3⟩
   ·simp at h2
  ·simp at h2
theorem Hr_ {e:TypeId}:∀{l:List (DataW H)} {d:DataW H},d∈l→∀x∈d.weights P e,x∈DataW.weightsAll P e l
 | a::l,d,hd,x,hx=>by
  simp only[DataW.weightsAll,aI0]
  rcases aK0.1 hd with rfl | hd
  ·exact .inl hx
  ·exact .inr (Hr_ hd x hx)
theorem Sz_ {a:Addr} {n:Nat} {cs:List Value} (h:w.cells? 0 a n=some cs):cs.length=n∧∀(j:Nat) v,cs[j]? =some v→w.cell? (a.add j)=some v:=by
 unfold World.cells? at h;rw[if_pos (cL0 _)]at h;obtain⟨h1,h2⟩:=LS_ h;rw[eN0]at h1;refine⟨h1,fun j v hv=> ?_⟩;have hj:j<n:=by rw[←h1];exact(aB0.1 hv).1
 obtain⟨y,hy,hy'⟩:=h2 j j (by rw[eT0 hj]);rw[hv]at hy;rw[hy',hy]
theorem Yx_ (b o n:Nat):(⟨b,o,none⟩:Addr).add n=⟨b,o+n,none⟩:=by
 unfold Addr.add
 split
 ·rename_i h;subst h;rfl
 ·rfl
theorem Tc_ {L:Nat} (hL:L≤140737488355328):∀{fuel n:Nat} {t:TypeId} {cs:List Value} {d:DataW H} {ps:List MemPlace} {shs:List Sh},DataW.trod enc P w 0 (fun _=>true) true fuel t cs=some (d,ps)→shOf P n t=some shs →
  (∀x∈d.weights P t,x≤L)→RdArg L P cur w cs shs
 | 0,n,t,cs,d,ps,shs,h,hs,hw=>by simp[DataW.trod]at h
 | fuel+1,0,t,cs,d,ps,shs,h,hs,hw=>by simp[shOf]at hs
 | fuel+1,n+1,t,cs,d,ps,shs,h,hs,hw=>by
  unfold DataW.trod at h
  split at h
  ·rename_i b hu;simp only[shOf,hu,aA0]at hs;subst hs;exact⟨[.bool b],by simp[rdV,rd],by simp[Value.oneCell'],by simp[HasL,HasS]⟩
  ·rename_i k k' n' hu;simp only[shOf,hu,aA0]at hs;subst hs
   split at h
   ·rename_i hk;obtain⟨rfl,hk⟩:=hk;exact⟨[.int k' n'],by simp[rdV,rd,inR_of_wf hk],by simp[Value.oneCell'],by simp[HasL,HasS]⟩
   ·simp at h
  ·rename_i hu;simp[shOf,hu]at hs
  ·rename_i x hu;simp only[shOf,hu,aA0]at hs;subst hs
   split at h
   ·rename_i hk;simp only[aA0,aW0]at h;obtain⟨rfl,_⟩:=h;have hsz:=hw x.data.toList.length (by simp[DataW.weights]);exact⟨[.str x],by simp[rdV,rd,hk],by simp[Value.oneCell'],by simp only[HasL,HasS];exact⟨_,_,rfl,⟨x,rfl,by rw[bP0]at hsz;exact hsz⟩,rfl⟩⟩
   ·simp at h
  ·rename_i hu;simp[shOf,hu]at hs
  ·rename_i hu;simp[shOf,hu]at hs
  ·rename_i e hu;simp only[shOf,hu]at hs
   split at hs
   rotate_left
   ·simp at hs
   rename_i hk0;rw[bE0]at hs;obtain⟨c,hc,rfl⟩:=hs;exact⟨[.sl (P.cellsOf e) (P.bytesOf e) []],by simp only[rdV,rd];exact⟨_,_,rfl,⟨none,0,rfl,Nat.le_refl _,cL0 _,by simp,.inl ⟨trivial,fun _=>rfl⟩⟩,rfl⟩,by simp[Value.oneCell'],by simp[HasL,HasS]⟩
  ·rename_i e a len cap hu;simp only[shOf,hu]at hs
   split at hs
   rotate_left
   ·simp at hs
   rename_i hk0;rw[bE0]at hs;obtain⟨c,hc,rfl⟩:=hs;simp only at h
   split at h
   ·rename_i hb;obtain⟨_,hb1,hb2⟩:=hb
    cases hm:(List.range len).mapM (fun i=>(w.cells? 0 (a.add (i*P.cellsOf e)) (P.cellsOf e)).bind (DataW.trod enc P w 0 (fun _=>true) true fuel e))with
    | none=>rw[hm]at h;simp at h
    | some elems =>
     rw[hm]at h;simp only[Option.bind_some,if_true,bE0]at h;obtain⟨rest,hr,h⟩:=h;simp only[aW0]at h;obtain⟨rfl,rfl⟩:=h;simp only[DataW.weights,hu,aK0,aI0,aJ0]at hw;obtain⟨m1,m2⟩:=LS_ hm;rw[eN0]at m1;have hsz:=hw _ (.inl rfl);have hlen:len*P.bytesOf e≤L:=Nat.le_trans (aO0 _ (by omega)) hsz
     have hel:∀i,i<len→∃cs ds,w.cells? 0 (a.add (i*P.cellsOf e)) (P.cellsOf e)=some cs∧rdV cur [] w.heap ds cs∧(∀v∈cs,v.oneCell'=true)∧HasL L c ds:=by
      intro i hi;obtain⟨y,hy,hy'⟩:=m2 i i (by rw[eT0 hi]);rw[Option.bind_eq_some_iff]at hy';obtain⟨cs,hcs,hy'⟩:=hy';obtain⟨d',p'⟩:=y;have hmem:d'∈elems.map (·.1):=aV0.2 ⟨_,bL0 hy,rfl⟩;obtain⟨ds,b1,b2,b3⟩:=Tc_ hL hy' hc (fun x hx=>hw x (.inr (.inl (Hr_ hmem x hx))));exact⟨cs,ds,hcs,b1,b2,b3⟩
     by_cases h0:len=0
     ·subst h0;exact⟨[.sl (P.cellsOf e) (P.bytesOf e) []],by simp only[rdV,rd];exact⟨_,_,rfl,⟨some a,cap,rfl,cL0 _,hb2,by simp,.inl ⟨trivial,fun hh=>by simp at hh⟩⟩,rfl⟩,by simp[Value.oneCell'],by simp[HasL,HasS]⟩
     ·obtain⟨blk,off,spot⟩:=a;obtain⟨cs0,ds0,hcs0,_,_,_⟩:=hel 0 (by omega);obtain⟨l1,l2⟩:=Sz_ hcs0;obtain⟨v,hv⟩:∃v,cs0[0]? =some v:=⟨_,aH0 (by omega)⟩;have hc0:w.cell? ⟨blk,off,spot⟩=some v:=by simpa[Addr.add]using l2 0 v hv
      obtain⟨arr,ty,fz,hblk,hspot⟩:∃arr ty fz,w.heap[blk]? =some (.cells arr ty fz)∧spot=none:=by
       simp only[World.cell?]at hc0
       split at hc0
       ·rename_i arr ty fz hb
        split at hc0
        ·simp at hc0
        ·rename_i hsp;exact⟨arr,ty,fz,hb,by simpa using hsp⟩
       ·simp at hc0
      subst hspot
      obtain⟨es,e1,e2,e3⟩:=rows_of (cur:=cur) (M:=[]) (h:=w.heap) (arr:=arr) (k:=P.cellsOf e) (c:=c) len off (fun i hi=>by
       obtain⟨cs,ds,hcs,b1,b2,b3⟩:=hel i hi;obtain⟨l1,l2⟩:=Sz_ hcs;refine⟨ds,by rw[rdV_len b1,l1],NC_ b1 b2 fun j u hu=> ?_,b3⟩;have:=l2 j u hu;rw[Yx_,Yx_]at this
       simpa[World.cell?,hblk]using this)
      refine⟨[.sl (P.cellsOf e) (P.bytesOf e) es],?_,by simp[Value.oneCell'],by simp only[HasL,HasS];exact⟨_,_,rfl,⟨es,rfl,by rw[e1];exact hlen,e3⟩,rfl⟩⟩;simp only[rdV,rd];exact⟨_,_,rfl,⟨_,_,by rw[e1],by omega,hb2,by rw[e1];omega,.inr ⟨blk,off,arr,ty,fz,rfl,by simp,hblk,e2⟩⟩,rfl⟩
   ·simp at h
  ·rename_i fs hu;simp only[shOf,hu]at hs
   split at hs
   ·rename_i l e hf
    split at hs
    ·rename_i he;simp only[aA0]at hs;subst hs;subst he
     split at h
     ·rename_i hlen;simp only[bE0]at h;obtain⟨xs,hxs,h⟩:=h;simp only[aW0]at h;obtain⟨rfl,rfl⟩:=h;simp only[DataW.weights,hu]at hw;have:=Sh_ (cur:=cur) (fun h1 h2 h3=>Tc_ hL h1 h2 h3) _ fs.toList 0 (P.cellsOf t) l xs hxs hf hw;simpa[←hlen]using this
     ·simp at h
    ·simp at hs
   ·simp at hs
  all_goals first | (simp at h;done) | (rename_i hu;simp[shOf,hu]at hs;done)
def JU_ (P:Program) (t:TypeId):Bool:=match P.underlying t with | some (.struct _)=>true | _=>false
theorem arg_rd {L base n:Nat} (hL:L≤140737488355328) {t:TypeId} {v:Value} {d:DataW H} {ps:List MemPlace} {shs:List Sh} (hv:Value.okWide P w .any base t v) (h:DataW.Trod enc P w 0 (fun _=>true) true t v d ps) (hs:shOf P n t=some shs)
  (hw:∀x∈d.weights P t,x≤L):∃ds,HasL L shs ds∧if JU_ P t then rd cur [] w.heap (.agg ds) v else rdV cur [] w.heap ds [v]:=by
 obtain⟨fuel,h⟩:=h;obtain⟨ds,h1,h2,h3⟩:=Tc_ (cur:=cur) hL h hs hw;refine⟨ds,h3,?_⟩;unfold JU_
 split
 ·rename_i fs hu;simp only[if_true];simp only[Value.okWide,hu]at hv;obtain⟨cs,rfl,_,_⟩:=hv;simp only[rd];exact⟨cs,rfl,h1⟩
 ·rename_i hu
  have hag:v.cells= #[v]:=by
   cases n with
   | zero=>simp[shOf]at hs
   | succ n =>
    cases v<;>first | rfl | skip
    rename_i cs;unfold shOf at hs;unfold Value.okWide at hv
    cases hu':P.underlying t with
    | none=>simp[hu']at hs
    | some ty =>
     rw[hu']at hs hv;cases ty<;>simp[Cell.okWide,Cell.ok,hu']at hs hv;exact absurd hu' (hu _)
  rw[hag]at h1;simpa using h1
def JE_ (L:Nat) (P:Program):List TypeId→List (List Sh)→List DVal→Prop
 | [],[],a=>a=[]
 | t::ts,x::xs,a=>∃ds r,HasL L x ds∧a=(if JU_ P t then .agg ds else ds.headD .any)::r∧JE_ L P ts xs r
 | _,_,_=>False
theorem Wq_ {L base n:Nat} (hL:L≤140737488355328):∀{ts:List TypeId} {vs:List Value} {ds:List (DataW H)} {ps:List MemPlace} {shs:List (List Sh)},(∀(j:Nat) t v,ts[j]? =some t→vs[j]? =some v→Value.okWide P w .any base t v) →
  DataW.TrodAll enc P w 0 (fun _=>true) true ts vs ds ps→ts.map (shOf P n)=shs.map some→(∀x∈DataW.weightsEach P ts ds,x≤L)→∃das,rdV cur [] w.heap das vs∧JE_ L P ts shs das
 | [],vs,ds,ps,shs,hv,hA,hs,hw=>by
  obtain⟨rfl,rfl,rfl⟩:=ChangeShapes.trodAll_nil hA
  cases shs with
  | nil=>exact⟨[],by simp[rdV],by simp[JE_]⟩
  | cons a b=>simp at hs
 | t::ts,vs,ds,ps,shs,hv,hA,hs,hw=>by
  obtain⟨v,vr,d,dr,p,q,rfl,rfl,rfl,h0,hr⟩:=ChangeShapes.trodAll_cons hA
  cases shs with
  | nil=>simp at hs
  | cons x xs =>
   simp only[List.map_cons,bH0]at hs;simp only[DataW.weightsEach,aI0]at hw;obtain⟨das,a1,a2⟩:=Wq_ hL (fun j t v h1 h2=>hv (j+1) t v (by simpa using h1) (by simpa using h2)) hr hs.2 (fun y hy=>hw y (.inr hy));obtain⟨dd,b1,b2⟩:=arg_rd (cur:=cur) hL (hv 0 t v rfl rfl) h0 hs.1 (fun y hy=>hw y (.inl hy));refine⟨(if JU_ P t then .agg dd else dd.headD .any)::das,?_,by simp only[JE_];exact⟨dd,das,b1,rfl,a2⟩⟩
   simp only[rdV];refine⟨v,vr,rfl,?_,a1⟩
   split
   ·rename_i h;rw[if_pos h]at b2;exact b2
   ·rename_i h;rw[if_neg h]at b2
    cases dd with
    | nil=>simp[rdV]at b2
    | cons d0 dr =>
     simp only[rdV]at b2;obtain⟨u,r,hu,hd0,_⟩:=b2;simp only[bH0]at hu;rw[hu.1];simpa using hd0
theorem args_rd {L base n:Nat} {ts:List TypeId} {vs:List Value} {ds:List (DataW H)} {ps:List MemPlace} {shs:List (List Sh)} (h1:∀(j:Nat) t v,ts[j]? =some t→vs[j]? =some v→Value.okWide P w .any base t v)
 (h2:DataW.TrodAll enc P w 0 (fun _=>true) true ts vs ds ps) (h3:ts.map (shOf P n)=shs.map some) (h4:∀x∈DataW.weightsEach P ts ds,x≤L) (hL:L≤140737488355328:=by omega):∃das,rdV cur [] w.heap das vs∧JE_ L P ts shs das:=Wq_ hL h1 h2 h3 h4
theorem Upd.below {a b:World} (h:Upd [] a b):RowKit.Below a.heap.size a b:=⟨h.os,h.tape,h.output,h.size,fun k hk=>h.blk k hk (by simp)⟩
theorem Ig_ (hl:laidOutB P=true) {W W':World} {sp:Nat→Bool}:∀{ts:List TypeId} {vs:List Value} {ds:List (DataW H)} {ps:List MemPlace},(∀t∈ts,P.readableRec t=true∧t<P.types.size) →
  DataW.TrodAll enc P W 0 (fun _=>true) true ts vs ds ps→(∀p∈ps,W.sameAt W' p)→(∀p∈ps,sp p.block=true)→DataW.TrodAll enc P W' 0 sp true ts vs ds ps
 | [],vs,ds,ps,ht,hA,h1,h2=>by
  obtain⟨rfl,rfl,rfl⟩:=ChangeShapes.trodAll_nil hA;rfl
 | t::ts,vs,ds,ps,ht,hA,h1,h2=>by
  obtain⟨v,vr,d,dr,p,q,rfl,rfl,rfl,h0,hr⟩:=ChangeShapes.trodAll_cons hA;obtain⟨k1,k2⟩:=ht t (by simp);exact⟨p,q,WideElems.Trod_stays hl k1 k2 h0 (fun x hx=>h1 x (by simp[hx])) (fun x hx=>h2 x (by simp[hx])),Ig_ hl (fun t h=>ht t (by simp[h])) hr (fun x hx=>h1 x (by simp[hx])) (fun x hx=>h2 x (by simp[hx])),rfl⟩
theorem law_post {fn:Func} {s:ChangeSpec} {fresh handsOn:Bool} {tb:TypeId} {W W':World} {args:Array Value} {ds gs:List (DataW H)} {before:List MemPlace} (hl:laidOutB P=true)
  (hall:∀t∈fn.params.toList,P.readableRec t=true∧t<P.types.size) (hr:fn.resultTypes= #[tb]) (hub:P.underlying tb=some .bool) (hvars:s.vars=[])
  (hs:s.fn H (ds++gs)={ results:=[.lit (.bool true)],args:=ds }) (hW:DataW.Whole enc P fn.params.toList s.vars false W args.toList ds gs before) (hu:Upd [] W W') :
  s.post enc P fn false fresh handsOn false W args (.bool true) W':=by
 have hW':=hW;obtain⟨p,q,hA,hV,rfl,hfz,hnd⟩:=hW;have hlt:∀x∈p,x.block<W.heap.size:=fun x hx=>hW'.lt x (by simp[hx])
 have hb:=hu.below;refine⟨ds,gs,p++q,[],p,[],hW',?_,?_,?_,hb.frame _,fun h=>by cases h⟩
 ·rw[hs,hr];exact ChangeShapes.trodAll_mk1 (RowKit.shut_bool hub true)
 ·rw[hs];exact Ig_ hl hall hA (fun x hx=>hb.same (hlt x hx)) (fun x hx=>by simpa using hlt x hx)
 ·rw[hs,hvars];rfl
theorem RM_ {f:FuncId} {fn:Func} {s:ChangeSpec} {fresh handsOn:Bool} {tb:TypeId} {W:World} {args:Array Value} {das:List DVal} {ds gs:List (DataW H)} {before:List MemPlace} (hl:laidOutB P=true)
  (hall:∀t∈fn.params.toList,P.readableRec t=true∧t<P.types.size) (hr:fn.resultTypes= #[tb]) (hub:P.underlying tb=some .bool) (hvars:s.vars=[])
  (hs:s.fn H (ds++gs)={ results:=[.lit (.bool true)],args:=ds }) (hW:DataW.Whole enc P fn.params.toList s.vars false W args.toList ds gs before)
  (hrd:rdV (fun _ _=>none) [] W.heap das args.toList) (hd:Ac_ P f das (.bool true)) :
  Calls P f args W fun e W'=>∃v,e= .returned v∧s.post enc P fn false fresh handsOn false W args v W':=by
 refine(hd.2.2 _ [] W args (by simp) hrd).mono fun e W' ⟨v,he,hu,hv⟩=>⟨.bool true,?_,law_post hl hall hr hub hvars hs hW hu⟩
 simp only[rd]at hv;rw[he,hv]
end
theorem FS_ {α:Type} {f:α→List DVal}:∀{es:List (List DVal)},(∀e∈es,∃x,e=f x)→∃l:List α,es=l.map f
 | [],_=>⟨[],rfl⟩
 | e::es,h=>by
  obtain⟨x,rfl⟩:=h e (by simp);obtain⟨l,rfl⟩:=FS_ (es:=es) (f:=f) (fun e he=>h e (by simp[he]));exact⟨x::l,rfl⟩
end Go.Dm
end
section
namespace Go.Proofs.YtchgnpnbcjflcaaGreat
open Go Go.Dm
variable [DMode]
open Go.ChangeShapes Go.WideShapes Go.ChangeAt Go.RowKit
theorem own : ownKnob Tryz.prog.godebug=none:=by kernel_rfl
theorem laidOut : laidOutB Tryz.prog=true:=by kernel_rfl
end Go.Proofs.YtchgnpnbcjflcaaGreat
end
section
namespace Go.Proofs.YtchgnpnbcjflcaaGreat
open Go Go.Dm
variable [DMode]
mutual
def shLe (C:Nat):Sh→Bool
 | .b=>true
 | .i _=>true
 | .s=>true
 | .sl _ bs c=>decide (bs≤C)&&Jp_ C c
def Jp_ (C:Nat):List Sh→Bool
 | []=>true
 | x::r=>shLe C x&&Jp_ C r
end
theorem JJ_ {C:Nat}:∀{a b:List Sh},Jp_ C (a++b)=(Jp_ C a&&Jp_ C b)
 | [],b=>by simp[Jp_]
 | x::a,b=>by simp[Jp_,JJ_ (a:=a),Bool.and_assoc]
section
variable {H : Type}
theorem bulk_pos (d:DataW H):1≤Rows.uptoBulk d:=by
 cases d with
 | lit l=>cases l<;>simp only[Rows.uptoBulk]<;>omega
 | _=>simp only[Rows.uptoBulk]<;>omega
theorem Qb_ : ∀l:List (DataW H),l.length≤Rows.uptoBulkAll l
 | []=>by simp
 | d::r=>by
  have:=bulk_pos d;have:=Qb_ r;simp only[Rows.uptoBulkAll,List.length_cons];omega
theorem FL_ {P:Program} {C:Nat} (hC:1≤C):∀(n:Nat) (t:TypeId) (shs:List Sh) (d:DataW H),shOf P n t=some shs→Jp_ C shs=true→∀x∈d.weights P t,x≤Rows.uptoBulk d*C
 | 0,t,shs,d,h,hl=>by simp[shOf]at h
 | n+1,t,shs,d,h,hl=>by
  intro x hx
  have all:∀(e:TypeId) (c:List Sh),shOf P n e=some c→Jp_ C c=true→∀(l:List (DataW H)),∀x∈DataW.weightsAll P e l,x≤Rows.uptoBulkAll l*C:=by
   intro e c he hc l
   induction l with
   | nil=>intro x hx;simp[DataW.weightsAll]at hx
   | cons d r ih =>
    intro x hx;simp only[DataW.weightsAll,aI0]at hx;simp only[Rows.uptoBulkAll,bX0]
    rcases hx with hx | hx
    ·have:=FL_ hC n e c d he hc x hx;omega
    ·have:=ih x hx;omega
  have each:∀(fs:List Field) (off e:Nat) (l:List Sh),shF (shOf P n) P.cellsOf fs off=some (l,e)→Jp_ C l=true→∀(parts:List (DataW H)),∀x∈DataW.weightsEach P (fs.map (·.type)) parts,x≤Rows.uptoBulkAll parts*C:=by
   intro fs
   induction fs with
   | nil=>intro off e l _ _ parts x hx;simp[DataW.weightsEach]at hx
   | cons f fs ih =>
    intro off e l hf hc parts x hx
    cases parts with
    | nil=>simp[DataW.weightsEach]at hx
    | cons d r =>
     simp only[shF]at hf
     split at hf
     ·split at hf
      ·rename_i c l' e' h4 h5;simp only[aA0,aW0]at hf;obtain⟨rfl,rfl⟩:=hf;rw[JJ_,aN0]at hc;simp only[List.map_cons,DataW.weightsEach,aI0]at hx;simp only[Rows.uptoBulkAll,bX0]
       rcases hx with hx | hx
       ·have:=FL_ hC n f.type c d h4 hc.1 x hx;omega
       ·have:=ih _ _ _ h5 hc.2 r x hx;omega
      ·simp at hf
     ·simp at hf
  cases d with
  | lit l =>
   cases l<;>simp only[DataW.weights,aE0,dX0]at hx;subst hx;simp only[Rows.uptoBulk];exact Nat.le_trans (Nat.le_succ _) (Nat.le_mul_of_pos_right _ hC)
  | nil=>simp[DataW.weights]at hx
  | held a=>simp[DataW.weights]at hx
  | iface a b=>simp[DataW.weights]at hx
  | ptr d =>
   simp only[DataW.weights]at hx
   split at hx
   ·rename_i hu;simp[shOf,hu]at h
   ·simp at hx
  | map es =>
   simp only[DataW.weights]at hx
   split at hx
   ·rename_i hu;simp[shOf,hu]at h
   ·simp at hx
  | slice elems spare =>
   simp only[DataW.weights]at hx
   split at hx
   ·rename_i e hu;simp only[shOf,hu]at h
    split at h
    rotate_left
    ·simp at h
    rw[bE0]at h;obtain⟨c,hc,rfl⟩:=h;simp only[Jp_,shLe,fE0,aN0,decide_eq_true_eq]at hl;simp only[Rows.uptoBulk,bX0];simp only[aK0,aI0]at hx
    rcases hx with rfl | hx | hx
    ·have h1:=Qb_ elems;have h2:=Qb_ spare;rw[bX0];have g1:=Nat.mul_le_mul h1 hl.1;have g2:=Nat.mul_le_mul h2 hl.1;omega
    ·have:=all e c hc hl.2 elems x hx;omega
    ·have:=all e c hc hl.2 spare x hx;omega
   ·simp at hx
  | agg parts =>
   simp only[DataW.weights]at hx
   split at hx
   ·rename_i fs hu;simp only[shOf,hu]at h
    split at h
    ·rename_i l e hf
     split at h
     ·simp only[aA0]at h;subst h;simp only[Rows.uptoBulk,bX0];have:=each fs.toList 0 e l hf hl parts x hx;omega
     ·simp at h
    ·simp at h
   ·rename_i hu;simp[shOf,hu]at h
   ·simp at hx
theorem Fz_ {P:Program} {C n:Nat} (hC:1≤C):∀{ts:List TypeId} {shs:List (List Sh)} (ds:List (DataW H)),ts.map (shOf P n)=shs.map some→shs.all (Jp_ C)=true→∀x∈DataW.weightsEach P ts ds,x≤Rows.uptoBulkAll ds*C
 | [],shs,ds,h,hl=>by intro x hx;simp[DataW.weightsEach]at hx
 | t::ts,shs,ds,h,hl=>by
  intro x hx
  cases ds with
  | nil=>simp[DataW.weightsEach]at hx
  | cons d r =>
   cases shs with
   | nil=>simp at h
   | cons s ss =>
    simp only[List.map_cons,bH0]at h;simp only[dC0,aN0]at hl;simp only[DataW.weightsEach,aI0]at hx;simp only[Rows.uptoBulkAll,bX0]
    rcases hx with hx | hx
    ·have:=FL_ hC n t s d h.1 hl.1 x hx;omega
    ·have:=Fz_ hC r h.2 hl.2 x hx;omega
theorem small_le {P:Program} {C n:Nat} (hC:1≤C) {ts:List TypeId} {shs:List (List Sh)} {ds:List (DataW H)} (hk:Rows.uptoSmall H ds=true) (h:ts.map (shOf P n)=shs.map some) (hl:shs.all (Jp_ C)=true):∀x∈DataW.weightsEach P ts ds,x≤1048576*C:=by
 intro x hx;have h1:=Fz_ hC ds h hl x hx;simp only[Rows.uptoSmall,decide_eq_true_eq]at hk;exact Nat.le_trans h1 (aO0 _ hk)
end
end Go.Proofs.YtchgnpnbcjflcaaGreat
end
section
namespace Go.Proofs.YtchgnpnbcjflcaaGreat
open Go Go.Dm
open Go.ChangeShapes Go.WideShapes Go.ChangeAt Go.RowKit
def Tn_ : List Sh:=[.i .i64,.s,.i .i64]
def Ls_ : List Sh:=[.s,.sl 3 32 Tn_]
def Lq_ : List Sh:=[.s]
def Lr_ : List Sh:=[.i .i64,.i .i64,.i .i64]
theorem has_nodeB {L:Nat} {ds:List DVal} (h:HasL L Tn_ ds):∃x:Nd,ds=dNd x:=by
 simp only[Tn_,HasL,HasS]at h;obtain⟨_,_,rfl,⟨k,rfl⟩,_,_,rfl,⟨s,rfl,_⟩,_,_,rfl,⟨n,rfl⟩,rfl⟩:=h;exact⟨⟨k,s,n⟩,rfl⟩
theorem Zy_ {L:Nat} {d:DVal} (h:HasS L (.sl 2 40 Ls_) d):∃g:List Rul,d=Av_ g∧∀r∈g,r.b.length*32≤L:=by
 simp only[HasS]at h;obtain⟨es,rfl,hz,he⟩:=h
 have hq:∀e∈es,∃x:{r:Rul//r.b.length*32≤L},e=dRul x.1:=by
  intro e h;have h:=he e h;simp only[Ls_,HasL,HasS]at h;obtain⟨_,_,rfl,⟨s,rfl,_⟩,_,_,rfl,⟨es,rfl,hz,he⟩,rfl⟩:=h;obtain⟨l,rfl⟩:=FS_ (fun e h=>has_nodeB (he e h));exact⟨⟨⟨s,l⟩,by simpa using hz⟩,rfl⟩
 obtain⟨l,rfl⟩:=FS_ (f:=fun x:{r:Rul//r.b.length*32≤L}=>dRul x.1) hq;refine⟨l.map (·.1),by simp[Function.comp_def],fun r hr=> ?_⟩;obtain⟨x,_,rfl⟩:=aV0.1 hr;exact x.2
theorem Zz_ {L:Nat} {ds:List DVal} (h:HasL L [.sl 2 40 Ls_] ds):∃g:List Rul,ds=[Av_ g]∧∀r∈g,r.b.length*32≤L:=by
 simp only[HasL]at h;obtain⟨_,_,rfl,h1,rfl⟩:=h;obtain⟨g,rfl,hg⟩:=Zy_ h1;exact⟨g,rfl,hg⟩
theorem VQ_ {L:Nat} {ds:List DVal} (h:HasL L Lq_ ds):∃s:ByteArray,ds=[.str s]:=by
 simp only[Lq_,HasL,HasS]at h;obtain⟨_,_,rfl,⟨x,rfl,_⟩,rfl⟩:=h;exact⟨x,rfl⟩
theorem has_strsB {L:Nat} {ds:List DVal} (h:HasL L [.sl 1 16 Lq_] ds):∃l:List ByteArray,ds=[AS_ l]:=by
 simp only[HasL,HasS]at h;obtain⟨_,_,rfl,⟨es,rfl,hz,he⟩,rfl⟩:=h;obtain⟨l,rfl⟩:=FS_ (f:=fun s:ByteArray=>dStr s) (fun e h=>VQ_ (he e h));exact⟨l,rfl⟩
theorem has_stepB {L:Nat} {ds:List DVal} (h:HasL L Lr_ ds):∃x:Stp,ds=dStp x:=by
 simp only[Lr_,HasL,HasS]at h;obtain⟨_,_,rfl,⟨a,rfl⟩,_,_,rfl,⟨b,rfl⟩,_,_,rfl,⟨c,rfl⟩,rfl⟩:=h;exact⟨⟨a,b,c⟩,rfl⟩
theorem Zx_ {L:Nat} {ds:List DVal} (h:HasL L [.sl 3 24 Lr_] ds):∃l:List Stp,ds=[CK_ l]:=by
 simp only[HasL,HasS]at h;obtain⟨_,_,rfl,⟨es,rfl,hz,he⟩,rfl⟩:=h;obtain⟨l,rfl⟩:=FS_ (fun e h=>has_stepB (he e h));exact⟨l,rfl⟩
theorem Ct_ {a b:Bool} (h1:a=true) (h2:b=true):(a&&b)=true:=by rw[h1,h2];rfl
end Go.Proofs.YtchgnpnbcjflcaaGreat
end
