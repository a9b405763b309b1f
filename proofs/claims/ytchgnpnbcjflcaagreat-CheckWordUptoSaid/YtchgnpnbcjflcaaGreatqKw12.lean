/- Parts of a proof, laid together: WG, CK0, W17, CK1, CK2, CF3, W30, W8, W22, WN1, CK3, CK4, WB15, WH, CT1, CK5, CW1, CK6, CW2, CW3, CW4, CK7, CW5. -/
import Derived.Test.YtchgnpnbcjflcaaGreatqKw4
import Derived.Test.YtchgnpnbcjflcaaGreatqKw5
import Derived.Test.YtchgnpnbcjflcaaGreatqKw6
import Derived.Test.YtchgnpnbcjflcaaGreatqKw7
import Derived.Test.YtchgnpnbcjflcaaGreatqKw8
import Derived.Test.YtchgnpnbcjflcaaGreatqKw11
set_option linter.unusedSimpArgs false
set_option linter.unusedVariables false
set_option linter.unusedSectionVars false
section
namespace Go.Proofs.YtchgnpnbcjflcaaGreat
open Go Go.Dm
variable [DMode]
def symG (N:Int) (s:Sym):Prop:=if s.label then 0≤s.n∧s.n<16 else 0≤s.n∧s.n<N
def gP (N:Int) (p:Prod):Prop:=(0≤p.head∧p.head<N)∧As_ p.body≠0∧∀s∈p.body,symG N s
structure GoodM (m:Mk):Prop where
 one:1≤m.nts
 ps:∀p∈m.prods,gP m.nts p
 hs:∀a h,DF_ m.hs a=some h→0≤h∧h<m.nts
 no:0≤m.no∧(m.no=0∨m.no<m.nts)
theorem Io_ {N N':Int} (h:N≤N') {s:Sym} (hs:symG N s):symG N' s:=by
 unfold symG at *
 split
 ·rename_i hl;rw[if_pos hl]at hs;exact hs
 ·rename_i hl;rw[if_neg hl]at hs;exact⟨hs.1,by omega⟩
theorem Uj_ {N N':Int} (h:N≤N') {p:Prod} (hp:gP N p):gP N' p:=⟨⟨hp.1.1,by have:=hp.1.2;omega⟩,hp.2.1,fun s hs=>Io_ h (hp.2.2 s hs)⟩
theorem GoodM.pos {m:Mk} (h:GoodM m):m.Pos:=⟨by have:=h.one;omega,fun a x hx=>(h.hs a x hx).1⟩
theorem good_sym {m:Mk} (h:GoodM m) {s:Sym} (hs:symG m.nts s):GoodM (m.sym s).1∧0≤(m.sym s).2∧(m.sym s).2<(m.sym s).1.nts:=by
 have h1:=h.one;unfold Mk.sym;unfold symG at hs
 split
 ·rename_i hl;rw[if_pos hl]at hs
  split
  ·rename_i x hx;exact⟨h,h.hs _ _ hx⟩
  ·rename_i hx;refine⟨⟨by simp only;omega,?_,?_,?_⟩,by simp only;omega,by simp only;omega⟩
   ·intro p hp
    rcases aI0.1 hp with hp | hp
    ·exact Uj_ (by simp only;omega) (h.ps p hp)
    ·simp only[aF0]at hp;subst hp;refine⟨by simp only;omega,by simp[As_,hl],?_⟩;intro t ht;simp only[aF0]at ht;subst ht;unfold symG;rw[if_pos hl];exact hs
   ·intro a x hx';simp only[IK_]at hx'
    split at hx'
    ·rename_i y hy;simp only[aA0]at hx';subst hx';have:=h.hs _ _ hy;exact⟨this.1,by simp only;omega⟩
    ·split at hx'
     ·simp only[aA0]at hx';subst hx';exact⟨by omega,by simp only;omega⟩
     ·simp at hx'
   ·have:=h.no;exact⟨this.1,by simp only;omega⟩
 ·rename_i hl;rw[if_neg hl]at hs;exact⟨h,hs⟩
theorem Si_ : ∀{l:List Sym} {m:Mk},GoodM m→(∀s∈l,symG m.nts s)→GoodM (m.syms l).1∧∀n∈(m.syms l).2,0≤n∧n<(m.syms l).1.nts
 | [],m,h,_=>⟨h,by simp[Mk.syms]⟩
 | s::l,m,h,hs=>by
  obtain⟨h1,h2,h3⟩:=good_sym h (hs s aG0);have hle:=(Tu_ m s).2.1;obtain⟨h4,h5⟩:=Si_ h1 fun t ht=>Io_ hle (hs t (aD0 _ ht))
  have hle2:=(In_ l (m.sym s).1).2.1;refine⟨h4,fun n hn=> ?_⟩;simp only[Mk.syms,aK0]at hn
  rcases hn with rfl | hn
  ·exact⟨h2,by simp only[Mk.syms];omega⟩
  ·exact h5 n hn
theorem Sj_ {m:Mk} (h:GoodM m):GoodM m.nothing∧0≤m.nothing.no∧m.nothing.no<m.nothing.nts:=by
 have h1:=h.one;unfold Mk.nothing
 split
 ·refine⟨⟨by simp only;omega,?_,?_,by simp only;omega⟩,by simp only;omega,by simp only;omega⟩
  ·intro p hp
   rcases aI0.1 hp with hp | hp
   ·exact Uj_ (by simp only;omega) (h.ps p hp)
   ·simp only[aF0]at hp;subst hp;exact⟨by simp only;omega,by simp[As_],by simp⟩
  ·intro a x hx;have:=h.hs a x hx;exact⟨this.1,by simp only;omega⟩
 ·rename_i hn;have:=h.no;exact⟨h,this.1,by omega⟩
theorem Mh_ : ∀(ns:List Int) (N nts head:Int),(0≤head∧head<N)→(0≤nts∧nts+(ns.length-2:Nat)≤N)→(∀n∈ns,0≤n∧n<N)→∀p∈CS_ nts head ns,gP N p
 | [],_,_,_,_,_,_,p,hp=>by simp[CS_]at hp
 | [_],_,_,_,_,_,_,p,hp=>by simp[CS_]at hp
 | [a,b],N,nts,head,h1,h2,h3,p,hp=>by
  simp only[CS_,aF0]at hp;subst hp;refine⟨h1,by simp[As_,nS],fun s hs=> ?_⟩;simp only[aK0,eE0,or_false]at hs
  rcases hs with rfl | rfl
  ·exact h3 a (by simp)
  ·exact h3 b (by simp)
 | a::b::c::r,N,nts,head,h1,h2,h3,p,hp=>by
  simp only[CS_,aK0]at hp;have hl:(a::b::c::r).length-2=r.length+1:=by simp
  rw[hl]at h2
  rcases hp with rfl | hp
  ·refine⟨h1,by simp[As_,nS],fun s hs=> ?_⟩;simp only[aK0,eE0,or_false]at hs
   rcases hs with rfl | rfl
   ·exact h3 a (by simp)
   ·exact⟨h2.1,by simp only[nS];omega⟩
  ·refine Mh_ (b::c::r) N (nts+1) nts ⟨h2.1,by omega⟩ ⟨by omega,?_⟩ (fun n hn=>h3 n (aD0 _ hn)) p (by simpa using hp);have hl2:(b::c::r).length-2=r.length:=by simp
   rw[hl2];omega
theorem NW_ {m:Mk} (h:GoodM m) {hd:Int} {ns:List Int} (h1:0≤hd∧hd<m.nts) (h2:∀n∈ns,0≤n∧n<m.nts):GoodM (m.chain hd ns):=by
 have h0:=h.one;have hle:m.nts≤m.nts+((ns.length-2:Nat):Int):=by omega
 refine⟨by simp only[Mk.chain];omega,?_,fun a x hx=> ?_,?_⟩
 ·intro p hp
  rcases aI0.1 hp with hp | hp
  ·exact Uj_ hle (h.ps p hp)
  ·exact Mh_ ns (m.chain hd ns).nts m.nts hd ⟨h1.1,by simp only[Mk.chain];omega⟩ ⟨by omega,Int.le_refl _⟩ (fun n hn=>⟨(h2 n hn).1,by have:=(h2 n hn).2;simp only[Mk.chain];omega⟩) p hp
 ·have:=h.hs a x hx;exact⟨this.1,by simp only[Mk.chain];omega⟩
 ·have:=h.no;exact⟨this.1,by simp only[Mk.chain];omega⟩
theorem good_put {m:Mk} (h:GoodM m) {p:Prod} (hp:gP m.nts p):GoodM (m.put p.head p.body):=by
 refine⟨h.one,fun q hq=> ?_,h.hs,h.no⟩
 rcases aI0.1 hq with hq | hq
 ·exact h.ps q hq
 ·simp only[aF0]at hq;subst hq;exact hp
theorem Wn_ {m:Mk} (h:GoodM m) {p:Prod} (h1:0≤p.head∧p.head<m.nts) (h2:∀s∈p.body,symG m.nts s):GoodM (m.add p):=by
 unfold Mk.add
 split
 ·rename_i hf;exact good_put h ⟨h1,by rcases hf with hf | hf<;>rw[hf]<;>decide,h2⟩
 ·obtain⟨g1,g2⟩:=Si_ h h2;have hle:=(In_ p.body m).2.1
  split
  ·obtain⟨k1,k2,k3⟩:=Sj_ g1;have hle2:=(HO_ (m.syms p.body).1).2.1;refine NW_ k1 ⟨h1.1,by omega⟩ fun n hn=> ?_
   rcases aI0.1 hn with hn | hn
   ·have:=g2 n hn;exact⟨this.1,by omega⟩
   ·simp only[aF0]at hn;subst hn;exact⟨k2,k3⟩
  ·exact NW_ g1 ⟨h1.1,by omega⟩ g2
theorem symBad_G {c:Cnf} {s:Sym} (h:CE_ c s=false):symG c.nts s:=by
 unfold CE_ at h;unfold symG;cases hl:s.label<;>simp_all [ntOK]
theorem symG_bad {c:Cnf} {s:Sym} (h:symG c.nts s):CE_ c s=false:=by
 unfold symG at h;unfold CE_;cases hl:s.label<;>simp_all [ntOK]
theorem ZI_ {c:Cnf} {p:Prod}:BA_ c p=true↔(0≤p.head∧p.head<c.nts)∧∀s∈p.body,symG c.nts s:=by
 unfold BA_;rw[aM0]
 constructor
 ·rintro⟨h1,h2⟩;refine⟨by simpa[ntOK]using h1,fun s hs=>symBad_G ?_⟩;simp only[eK0,dC0]at h2;simpa using h2 s hs
 ·rintro⟨h1,h2⟩;refine⟨by simpa[ntOK]using h1,?_⟩;simp only[eK0,dC0];intro s hs;rw[symG_bad (h2 s hs)];simp
theorem Cb_ {c:Cnf}:Be_ c=true↔(1≤c.nts∧c.nts≤1024)∧∀p∈c.prods,(0≤p.head∧p.head<c.nts)∧∀s∈p.body,symG c.nts s:=by
 unfold Be_;simp only[aM0,decide_eq_true_eq,bC0,ZI_]
theorem Sk_ : ∀{l:List Prod} {m r:Mk},GoodM m→m.nts≤1024→(∀p∈l,(0≤p.head∧p.head<m.nts)∧∀s∈p.body,symG m.nts s)→m.adds l=some r→GoodM r∧r.nts≤1024
 | [],m,r,h,hn,_,hr=>by simp only[Mk.adds,aA0]at hr;subst hr;exact⟨h,hn⟩
 | p::l,m,r,h,hn,hl,hr=>by
  simp only[Mk.adds]at hr
  split at hr
  ·simp at hr
  ·rename_i hov;obtain⟨h1,h2⟩:=hl p aG0;have hle:=(MQ_ m p).2.1
   exact Sk_ (Wn_ h h1 h2) (by omega) (fun q hq=>by
    obtain⟨g1,g2⟩:=hl q (aD0 _ hq)
    exact⟨⟨g1.1,by omega⟩,fun s hs=>Io_ hle (g2 s hs)⟩) hr
theorem NV_ {c:Cnf} (h:Be_ c=true):GoodM (Mk.start c):=by
 obtain⟨h1,_⟩:=Cb_.1 h;exact⟨h1.1,by simp[Mk.start],by simp[Mk.start,DF_],by simp[Mk.start]⟩
theorem MP_ {c:Cnf} {r:Mk} (h:Be_ c=true) (hr:(Mk.start c).adds c.prods=some r):GoodM r∧r.nts≤1024:=by
 obtain⟨h1,h2⟩:=Cb_.1 h;exact Sk_ (NV_ h) h1.2 h2 hr
theorem good_ok {m:Mk} (h:GoodM m) (hn:m.nts≤1024):Be_ m.cnf=true:=Cb_.2 ⟨⟨h.one,hn⟩,fun p hp=>⟨(h.ps p hp).1,(h.ps p hp).2.2⟩⟩
theorem NL_ (c:Cnf):ofC c=if Be_ c then ((match (Mk.start c).adds c.prods with | none=>(cnf0,240) | some m=>(Br_ m.cnf,0)):Cnf×Int)else (cnf0,220):=by
 unfold ofC
 split
 ·rename_i h
  cases hA:(Mk.start c).adds c.prods with
  | none=>rfl
  | some m =>
   obtain⟨g1,g2⟩:=MP_ h hA;simp[finC,good_ok g1 g2]
 ·rfl
theorem form3 {l:List Sym} (h0:As_ l≠0) (h:¬(As_ l=1∨As_ l=2)):∃a b,l=[nS a,nS b]:=by
 match l with
 | []=>simp[As_]at h
 | [s]=>cases hs:s.label<;>simp_all [As_]
 | [⟨x,a⟩,⟨y,b⟩] =>
  cases x<;>cases y<;>simp_all [As_];exact⟨⟨a,rfl⟩,⟨b,rfl⟩⟩
 | s::t::u::r=>simp[As_]at h0
theorem add_weak {m:Mk} {p:Prod} (h:As_ p.body≠0):m.add p={ m with prods:=m.prods++[p] }:=by
 unfold Mk.add
 split
 ·rfl
 ·rename_i hf;obtain⟨a,b,hb⟩:=form3 h hf;obtain⟨hd,bd⟩:=p;simp only at hb;subst hb;simp[Mk.syms,Mk.sym,Mk.chain,CS_,nS]
theorem Tb_ : ∀{l:List Prod} {m:Mk},m.nts≤1024→(∀p∈l,As_ p.body≠0)→m.adds l=some { m with prods:=m.prods++l }
 | [],m,_,_=>by simp[Mk.adds]
 | p::l,m,hn,h=>by
  simp only[Mk.adds];rw[add_weak (h p aG0),if_neg (by simp only;omega),Tb_ (m:={ m with prods:=m.prods++[p] }) hn fun q hq=>h q (aD0 _ hq)];simp
theorem ofC_weak {c:Cnf} (h:Be_ c=true) (hw:∀p∈c.prods,As_ p.body≠0):ofC c=(Br_ c,0):=by
 rw[NL_,if_pos h];have h1:=(Cb_.1 h).1;rw[Tb_ (by simp only[Mk.start];omega) hw];simp[Mk.start,Mk.cnf]
theorem YZ_ : ∀{l:List Prod} {m r:Mk},m.adds l=some r→r.gap=m.gap+l.length
 | [],m,r,h=>by simp only[Mk.adds,aA0]at h;subst h;simp
 | p::l,m,r,h=>by
  simp only[Mk.adds]at h
  split at h
  ·simp at h
  ·have h1:=YZ_ h;have h2:=(MQ_ m p).1;simp only[List.length_cons];omega
theorem ofC_len {c x:Cnf} (h:ofC c=(x,0)):x.prods.length≤c.prods.length+1024:=by
 rw[NL_]at h
 split at h
 ·rename_i hk
  cases hA:(Mk.start c).adds c.prods with
  | none=>rw[hA]at h;simp at h
  | some m =>
   rw[hA]at h;simp only[_root_.Prod.mk.injEq,and_true]at h;subst h;obtain⟨_,g2⟩:=MP_ hk hA;have g3:=YZ_ hA;simp only[Mk.gap,Mk.start,List.length_nil]at g3;have h1:=((Cb_.1 hk).1).1;have h2:=VK_ m.cnf;simp only[Mk.cnf]at h2 ⊢;omega
 ·simp at h
theorem ofC_again (c:Cnf):(∃x,ofC c=(x,0)∧Be_ x=true∧(∀p∈x.prods,As_ p.body≠0)∧ofC x=(x,0))∨∃e,e≠0∧ofC c=(cnf0,e):=by
 rw[NL_]
 split
 ·rename_i h
  cases hA:(Mk.start c).adds c.prods with
  | none=>exact .inr ⟨240,by decide,rfl⟩
  | some m =>
   obtain⟨g1,g2⟩:=MP_ h hA;have hok:=good_ok g1 g2;have hok2:Be_ (Br_ m.cnf)=true:=by rw[Od_];exact hok
   have hw:∀p∈(Br_ m.cnf).prods,As_ p.body≠0:=fun p hp=>(g1.ps p ((KC_ _ p).1 hp)).2.1
   refine .inl ⟨Br_ m.cnf,rfl,hok2,hw,?_⟩;rw[ofC_weak hok2 hw,norm_norm]
 ·exact .inr ⟨220,by decide,rfl⟩
end Go.Proofs.YtchgnpnbcjflcaaGreat
end
section
namespace Go.Proofs.YtchgnpnbcjflcaaGreat
open Go Go.Dm
theorem Qc_ : ∀(n:Nat) (l:List Int),l.Nodup→(∀x∈l,0≤x∧x<(n:Int))→l.length≤n
 | 0,l,_,h=>by
  cases l with
  | nil=>simp
  | cons x l=>have:=h x aG0;omega
 | n+1,l,hn,h=>by
  by_cases hm:(n:Int)∈l
  ·have h1:=Qc_ n (l.erase (n:Int)) (hn.erase _) fun x hx=>by
    have h2:=h x (List.mem_of_mem_erase hx)
    have h3:x≠(n:Int):=fun e=>by
     subst e;exact(List.Nodup.not_mem_erase hn) hx
    omega
   rw[List.length_erase_of_mem hm]at h1;omega
  ·have h1:=Qc_ n l hn fun x hx=>by
    have h2:=h x hx;have h3:x≠(n:Int):=fun e=>hm (e▸hx)
    omega
   omega
structure HelpI (n0:Int) (m:Mk):Prop where
 nd:(m.hs.map (·.1)).Nodup
 rg:∀a∈m.hs.map (·.1),0≤a∧a<16
 nt:m.nts=n0+(m.hs.length:Int)
theorem NQ_ : ∀{l:List (Int×Int)} {a:Int},DF_ l a=none→¬a∈l.map (·.1)
 | [],_,_=>by simp
 | (k,h)::l,a,hl=>by
  unfold DF_ at hl
  split at hl
  ·simp at hl
  ·rename_i hne;have:=NQ_ hl;rw[List.map_cons,aK0];rintro (e | e)
   ·exact hne e
   ·exact this e
theorem help_sym {n0:Int} {m:Mk} (h:HelpI n0 m) {s:Sym} (hs:s.label=true→0≤s.n∧s.n<16):HelpI n0 (m.sym s).1:=by
 unfold Mk.sym
 split
 ·rename_i hl
  cases hk:DF_ m.hs s.n with
  | some x=>exact h
  | none =>
   have h1:=NQ_ hk;refine⟨?_,?_,?_⟩
   ·show ((m.hs++[(s.n,m.nts)]).map (·.1)).Nodup
    rw[aY0];exact bX0.2 ⟨h.nd,by simp,by rintro a ha b hb rfl;simp at hb;subst hb;exact h1 ha⟩
   ·intro a ha;have ha2:a∈(m.hs++[(s.n,m.nts)]).map (·.1):=ha;rw[aY0,aI0]at ha2
    rcases ha2 with ha2 | ha2
    ·exact h.rg a ha2
    ·simp at ha2;subst ha2;exact hs hl
   ·show m.nts+1=n0+((m.hs++[(s.n,m.nts)]).length:Int)
    rw[aC0,h.nt];simp only[List.length_cons,List.length_nil];omega
 ·exact h
theorem Se_ {n0:Int}:∀{l:List Sym} {m:Mk},HelpI n0 m→(∀s∈l,s.label=true→0≤s.n∧s.n<16)→HelpI n0 (m.syms l).1
 | [],_,h,_=>h
 | s::l,m,h,hl=>by
  show HelpI n0 (((m.sym s).1.syms l).1)
  exact Se_ (help_sym h (hl s aG0)) fun x hx=>hl x (aD0 _ hx)
theorem help_add {n0:Int} {m:Mk} (h:HelpI n0 m) {p:Prod} (h1:p.body=[]∨p.body.length=2) (h2:∀s∈p.body,s.label=true→0≤s.n∧s.n<16):HelpI n0 (m.add p):=by
 have hx:=Se_ h h2;have hy:=Kv_ m p.body;unfold Mk.add
 split
 ·exact⟨h.nd,h.rg,h.nt⟩
 ·rename_i hf
  rcases h1 with h1 | h1
  ·exfalso;rw[h1]at hf;exact hf (.inl rfl)
  ·rw[if_neg (by omega)];refine⟨hx.nd,hx.rg,?_⟩
   show (m.syms p.body).1.nts+(((m.syms p.body).2.length-2:Nat):Int)=n0+((m.syms p.body).1.hs.length:Int)
   rw[hy,h1,hx.nt];omega
theorem help_le {n0:Int} {m:Mk} (h:HelpI n0 m):m.nts≤n0+16:=by
 have h1:=Qc_ 16 _ h.nd h.rg;rw[aJ0]at h1;rw[h.nt];omega
theorem Ot_ {n0:Int} (hn:n0≤1000):∀{l:List Prod} {m:Mk},HelpI n0 m→(∀p∈l,(p.body=[]∨p.body.length=2)∧∀s∈p.body,s.label=true→0≤s.n∧s.n<16)→∃r,m.adds l=some r∧m.nts≤r.nts
 | [],m,_,_=>⟨m,rfl,Int.le_refl _⟩
 | p::l,m,h,hl=>by
  obtain⟨h1,h2⟩:=hl p aG0;have h3:=help_add h h1 h2;have h4:=help_le h3;have h5:=(MQ_ m p).2.1;obtain⟨r,h6,h7⟩:=Ot_ hn h3 fun q hq=>hl q (aD0 _ hq)
  refine⟨r,?_,by omega⟩;unfold Mk.adds;rw[if_neg (by omega)];exact h6
theorem ofC_there {c:Cnf} (h:Be_ c=true) (hn:c.nts≤1000) (hp:∀p∈c.prods,p.body=[]∨p.body.length=2):∃x,ofC c=(x,0)∧Be_ x=true∧(∀p∈x.prods,As_ p.body≠0)∧c.nts≤x.nts:=by
 obtain⟨_,h2⟩:=Cb_.1 h;have hi:HelpI c.nts (Mk.start c):=⟨by simp[Mk.start],by simp[Mk.start],by simp[Mk.start]⟩
 obtain⟨r,hr,hle⟩:=Ot_ hn (l:=c.prods) hi fun p hq=>⟨hp p hq,fun s hs hl=>by
  have:=(h2 p hq).2 s hs;unfold symG at this;rw[if_pos hl]at this
  exact this⟩
 rcases ofC_again c with ⟨x,e1,e2,e3,_⟩ | ⟨e,he,e1⟩
 ·refine⟨x,e1,e2,e3,?_⟩;rw[NL_,if_pos h,hr]at e1;simp only[_root_.Prod.mk.injEq,and_true]at e1;rw[←e1];exact hle
 ·exfalso;rw[NL_,if_pos h,hr]at e1;simp only[_root_.Prod.mk.injEq]at e1;exact he e1.2.symm
theorem OE_ : ∀{l:List Nat},(∀x∈l,x=0)→l.sum=0
 | [],_=>rfl
 | x::l,h=>by rw[dM0,h x aG0,OE_ fun y hy=>h y (aD0 _ hy)]
theorem sum_if {α:Type} [DecidableEq α] (k:Nat) (a:α):∀(l:List α),l.Nodup→(l.map fun s=>if a=s then k else 0).sum≤k
 | [],_=>by simp
 | b::l,h=>by
  obtain⟨h1,h2⟩:=cT0.1 h;have ih:=sum_if k a l h2;rw[List.map_cons,dM0]
  split
  ·rename_i e;subst e
   have hz:(l.map fun s=>if a=s then k else 0).sum=0:=by
    refine OE_ fun x hx=> ?_
    obtain⟨s,hs,rfl⟩:=aT0.1 hx;have hne:¬a=s:=fun e=>h1 (by rw[e];exact hs)
    rw[if_neg hne]
   omega
  ·omega
theorem Tv_ {α:Type} (f g:α→Nat):∀l:List α,(l.map fun s=>f s+g s).sum=(l.map f).sum+(l.map g).sum
 | []=>rfl
 | a::l=>by
  rw[List.map_cons,List.map_cons,List.map_cons,dM0,dM0,dM0,Tv_ f g l];omega
theorem RD_ : ∀(g:List Rul) (hs:List ByteArray),hs.Nodup→(hs.map fun s=>occS (bsL g s)).sum≤occG g
 | [],hs,_=>by
  have:(hs.map fun s=>occS (bsL [] s)).sum=0:=by
   refine OE_ fun x hx=> ?_
   obtain⟨s,_,rfl⟩:=aT0.1 hx;rfl
  omega
 | r::g,hs,h=>by
  have ih:=RD_ g hs h
  have h1:∀s,occS (bsL (r::g) s)=(if r.h=s then occN r.b else 0)+occS (bsL g s):=by
   intro s
   by_cases hr:r.h=s<;>simp[bsL,occS,hr]
  have h2:occG (r::g)=occN r.b+occG g:=by simp[occG]
  have h3:=sum_if (occN r.b) r.h hs h;simp only[h1];rw[Tv_];omega
theorem sumS_aut {gt:GT} (h:OkgT gt):sumS (autL gt)≤80:=by
 have h1:=RD_ (mkG gt) _ (JY_ (mkG gt))
 have h2:sumS (autL gt)=((Ao_ (mkG gt)).map fun s=>occS (bsL (mkG gt) s)+1).sum:=by
  unfold sumS autL;rw[cA0]
  congr 1
  refine cM0 fun s _=> ?_
  show ((lvL (tsL gt s)).length+1:Int).toNat=_
  rw[SP_,EE_];omega
 have h3:∀l:List ByteArray,(l.map fun _=>1).sum=l.length:=by
  intro l
  induction l with
  | nil=>rfl
  | cons a l ih=>rw[List.map_cons,dM0,ih,List.length_cons];omega
 rw[h2,Tv_,h3];have:=h.hd;have:=h.oc;omega
theorem SI_ (xs:List Auto) {a:Nat}:∀{b:Nat},a≤b→cntN xs a≤cntN xs b
 | 0,h=>by rw[Nat.le_zero.1 h];exact Nat.le_refl _
 | b+1,h=>by
  rcases Nat.lt_or_ge b a with h1 | h1
  ·rw[show a=b+1 by omega];exact Nat.le_refl _
  ·have:=SI_ xs (b:=b) h1;rw[Jb_];omega
theorem TL_ {xs:List Auto} (hst:∀a∈xs,1≤a.st) {q:Nat} (h:q<sumS xs):ownQ xs q<sumS xs:=by
 have hl:=LK_ xs;have hn:=nts_eq hst;have hk:=aE0 (show q<(ntL xs).length by omega);have h1:=nt_lt hk
 by_cases hq:q∈stL xs
 ·rw[TM_ hq hk];omega
 ·rw[Pb_ hq];have h2:=SI_ xs (show q+1≤sumS xs by omega);rw[Jb_,if_neg hq]at h2;omega
theorem symS_G {H L:List ByteArray} (hL:L.length≤16) {N:Int} (hN:(H.length:Int)≤N) (h1:1≤N) (x:Nd):symG N (symS H L x):=by
 unfold symS symG
 split
 ·split
  ·rename_i h2;have:=JX_ h2;simp only[if_true];omega
  ·simp only[aL0,if_false];omega
 ·split
  ·split
   ·rename_i h2;have:=JX_ h2;simp only[aL0,if_false];omega
   ·simp only[aL0,if_false];omega
  ·simp only[aL0,if_false];omega
theorem arc_sym {gt:GT} (h:OkgT gt) {N:Int} (hN:((Ao_ (mkG gt)).length:Int)≤N) (h1:1≤N) {x:Arc} (hx:x∈arcA (autL gt)):symG N x.sy:=by
 unfold arcA at hx;obtain⟨p,hp,hx⟩:=bR0.1 hx;obtain⟨y,hy,rfl⟩:=aT0.1 hx;have h2:=(EY_ hp).1;unfold autL at h2;obtain⟨s,_,hs⟩:=aT0.1 h2;rw[←hs]at hy;obtain⟨p,q,_,_,_,rfl⟩:=arc_num (show y∈Qs_ (syG (mkG gt)) (tsL gt s) from hy);unfold mvA;simp only;rw[aX0]
 cases hg:(syL (syG (mkG gt)) (tsL gt s))[q-1]? with
 | none=>simp[symG];omega
 | some z =>
  have h3:=bH0 hg;unfold syL at h3;obtain⟨n,_,rfl⟩:=aT0.1 h3;exact symS_G h.lb hN h1 n
theorem Nx_ {gt:GT} (h:OkgT gt) (hst:∀a∈autL gt,SmA a):∃x,ofC (Br_ (cnfM (autL gt)))=(x,0)∧Be_ x=true∧(∀p∈x.prods,As_ p.body≠0)∧((Ao_ (mkG gt)).length:Int)≤x.nts:=by
 have hst1:∀a∈autL gt,1≤a.st:=fun a ha=>(LI_ (hst a ha).ok).1
 have h1:=nts_eq hst1;have h2:=sumS_aut h;have h3:=GU_ gt;have hn0:(cnfM (autL gt)).nts=(sumS (autL gt):Int):=by show (((autL gt).length+cntN (autL gt) (sumS (autL gt)):Nat):Int)=_;rw[h1]
 have hne:=PO_ h;have hN:((Ao_ (mkG gt)).length:Int)≤(cnfM (autL gt)).nts:=by rw[hn0];omega
 have hok:Be_ (cnfM (autL gt))=true:=by
  rw[Cb_];refine⟨⟨by omega,by omega⟩,fun p hp=> ?_⟩
  rcases aI0.1 (show p∈(finA (autL gt)).map (pF (autL gt))++(arcA (autL gt)).map (pA (autL gt)) from hp)with hp | hp
  ·obtain⟨q,hq,rfl⟩:=aT0.1 hp;have h5:=Uo_ hst hq;have h6:=TL_ hst1 h5.2;refine⟨?_,by simp[pF]⟩
   show (0:Int)≤(ownQ (autL gt) q.toNat:Int)∧(ownQ (autL gt) q.toNat:Int)<_
   omega
  ·obtain⟨x,hx,rfl⟩:=aT0.1 hp;have h5:=UJ_ hst hx;have h6:=TL_ hst1 h5.2.1;have h7:=TL_ hst1 h5.2.2.2;have h8:=arc_sym h hN (by omega) hx;refine⟨?_,?_⟩
   ·show (0:Int)≤(ownQ (autL gt) x.fr.toNat:Int)∧(ownQ (autL gt) x.fr.toNat:Int)<_
    omega
   ·intro s hs;simp only[pA,aK0,eE0,or_false]at hs
    rcases hs with rfl | rfl
    ·exact h8
    ·simp only[symG,aL0,if_false];omega
 have hok2:Be_ (Br_ (cnfM (autL gt)))=true:=by rw[Od_];exact hok
 have hnn:(Br_ (cnfM (autL gt))).nts=(cnfM (autL gt)).nts:=rfl
 obtain⟨x,e1,e2,e3,e4⟩:=ofC_there hok2 (by rw[hnn];omega) fun p hp=>by
  have hp2:=(KC_ _ p).1 hp
  rcases aI0.1 (show p∈(finA (autL gt)).map (pF (autL gt))++(arcA (autL gt)).map (pA (autL gt)) from hp2)with hp2 | hp2
  ·obtain⟨q,_,rfl⟩:=aT0.1 hp2;exact .inl rfl
  ·obtain⟨x,_,rfl⟩:=aT0.1 hp2;exact .inr rfl
 exact⟨x,e1,e2,e3,by omega⟩
end Go.Proofs.YtchgnpnbcjflcaaGreat
end
section
namespace Go.Proofs.YtchgnpnbcjflcaaGreat
open Go Go.Dm
variable [DMode]
attribute [local irreducible] DW Bb_ Bh_
set_option maxRecDepth 100000
def XF_ : Ann:=⟨[],[]⟩
set_option maxHeartbeats 4000000 in
theorem ris_pure (c:Cnf):Ac_ Tryz.prog 221 [.agg (dCnf c)] (.bool (CM_ c)):=by
 refine Aa_ [] XF_ Tryz.func221 Tryz.call221 Tryz.ntmps221 mxd (aj2 @XF_.eq_1 Tryz.results221) rfl (by simp) (by simp[mx]) fun hwf B hnt hgAnn=> ?_
 have hw:wCnf c:=Tk_ (by simpa[wfL,wfD]using hwf.1);obtain⟨hw1,hw2,hw3,hw4⟩:=hw;clear hwf;simp only[argS];have hc:=HL_ c;simp only[dCnf]at hc;cases h0:Be_ c
 ·rw[h0]at hc;have hwk:CM_ c=false:=by simp[CM_,h0]
  exact go0 (aj1 hc) aj0 (aj2 @dCnf.eq_1 hwk)
 rw[h0]at hc;have hwk:CM_ c= !c.prods.any CH_:=by simp[CM_,h0]
 (refine go1 (aj1 hc) aj0 (aj1 @dCnf.eq_1) ?_;intros;refine mk_i ?_)
 refine Ad_ (X:={k:Nat//k≤c.prods.length∧(c.prods.take k).any CH_=false}) (fun k=>⟨[(1,.ref [.int .i64 c.nts,AS_ c.prods]),(3,.int .i64 k.1)],[]⟩) (fun k=>c.prods.length-k.1) ⟨0,by simp⟩ (Sub.lit (by simp)) ?_;rintro⟨k,hk,hkk⟩
 by_cases hlt:k<c.prods.length
 rotate_left
 ·have hke:k=c.prods.length:=by omega
  subst hke;rw[aQ0]at hkk;rw[hkk]at hwk;exact go0 aj0 aj0 (aj2 @dCnf.eq_1 hwk)
 obtain⟨p,hp,hp',hpm⟩:=Ak_ hlt;obtain⟨hw5,hw6,hw7,hw8⟩:=hw4 p hpm;have hv:=weak_pure p.body;cases hf:(As_ p.body==0)
 ·rw[hf]at hv
  have hst:(c.prods.take (k+1)).any CH_=false:=by
   rw[dS0 hlt,dU0,hkk,hp'];simp[CH_,hf]
  (refine go1 (aj1 hv) aj0 (aj4 @dCnf.eq_1 @Ae_.eq_1 hlt hp') ?_;intros;refine mk_i ?_)
  refine Ai_.mk ⟨k+1,by omega,hst⟩ (Sub.lit (by simp)) (by simp;omega)
  skip
 ·rw[hf]at hv;have hot:c.prods.any CH_=true:=bU0.2 ⟨p,hpm,by simp[CH_,hf]⟩;rw[hot]at hwk;exact go0 (aj1 hv) aj0 (aj5 @dCnf.eq_1 @Ae_.eq_1 hlt hp' hwk)
end Go.Proofs.YtchgnpnbcjflcaaGreat
end
section
namespace Go.Proofs.YtchgnpnbcjflcaaGreat
open Go Go.Dm
attribute [local irreducible] DW Bb_ Bh_
set_option maxRecDepth 100000
structure Stp where
 pr:Int
 fr:Int
 to:Int
def dStp (x:Stp):List DVal:=[.int .i64 x.pr,.int .i64 x.fr,.int .i64 x.to]
@[simp] theorem mx_dStp (s:Stp):mxL (dStp s)=0:=by simp[dStp,mxL,mx]
@[simp] theorem mx_dStps (l:List Stp):mxR (l.map dStp)=0:=mxR0 _ mx_dStp l
def askE (c:Cnf) (nt:Int) (n:Nat):Int:=if Be_ c then (if CM_ c then (if 0≤nt∧nt<c.nts then (if n≤64 then 0 else 3)else 2)else 250)else 220
def anCK296 : Ann:=⟨[],[]⟩
theorem aC_ (c:Cnf) (nt:Int) (w:List Int):Ac_ Tryz.prog 96 [.agg (dCnf c),.int .i64 nt,Bl_ w] (.int .i64 (askE c nt w.length)):=by
 refine Aa_ [] anCK296 Tryz.func96 Tryz.call96 Tryz.ntmps96 mxd (aj2 @anCK296.eq_1 Tryz.results96) rfl (by simp) (by simp[mx]) fun hwf B hnt hgAnn=> ?_
 clear hwf;simp only[argS];have e1:=GR_ c;have e2:=is_pure c;simp only[dCnf]at e1 e2;unfold askE;cases h1:Be_ c
 ·rw[h1]at e1;exact go0 (aj1 e1) aj0 (aj1 @dCnf.eq_1)
 rw[h1]at e1;cases h2:CM_ c
 ·rw[h2]at e2;exact go0 (aj2 e1 e2) aj0 (aj1 @dCnf.eq_1)
 rw[h2]at e2
 by_cases h3:nt<0
 ·have h3b:¬(0≤nt∧nt<c.nts):=by omega
  exact go0 (aj2 e1 e2) aj0 (aj3 @dCnf.eq_1 h3 h3b)
 by_cases h4:c.nts≤nt
 ·have h3b:¬(0≤nt∧nt<c.nts):=by omega
  exact go0 (aj2 e1 e2) aj0 (aj4 @dCnf.eq_1 h3 h4 h3b)
 have h3b:0≤nt∧nt<c.nts:=by omega
 by_cases h5:w.length≤64
 ·have h5b:¬(64:Int)<(w.length:Int):=by omega
  exact go0 (aj2 e1 e2) aj0 (aj6 @dCnf.eq_1 h3 h4 h3b h5 h5b)
 ·have h5b:(64:Int)<(w.length:Int):=by omega
  exact go0 (aj2 e1 e2) aj0 (aj6 @dCnf.eq_1 h3 h4 h3b h5 h5b)
def Yx_ : Ann:=⟨[],[]⟩
theorem Zh_ (c:Cnf) (nt:Int) (n:Nat) (hn:n<9223372036854775807):Ac_ Tryz.prog 159 [.agg (dCnf c),.int .i64 nt,.int .i64 (n:Int)] (.int .i64 (askE c nt n)):=by
 refine Aa_ [] Yx_ Tryz.func159 Tryz.call159 Tryz.ntmps159 mxd (aj2 @Yx_.eq_1 Tryz.results159) rfl (by simp) (by simp[mx]) fun hwf B hnt hgAnn=> ?_
 clear hwf;simp only[argS];have e1:=HL_ c;have e2:=ris_pure c;simp only[dCnf]at e1 e2;unfold askE;cases h1:Be_ c
 ·rw[h1]at e1;exact go0 (aj1 e1) aj0 (aj1 @dCnf.eq_1)
 rw[h1]at e1;cases h2:CM_ c
 ·rw[h2]at e2;exact go0 (aj2 e1 e2) aj0 (aj1 @dCnf.eq_1)
 rw[h2]at e2
 by_cases h3:nt<0
 ·have h3b:¬(0≤nt∧nt<c.nts):=by omega
  exact go0 (aj2 e1 e2) aj0 (aj3 @dCnf.eq_1 h3 h3b)
 by_cases h4:c.nts≤nt
 ·have h3b:¬(0≤nt∧nt<c.nts):=by omega
  exact go0 (aj2 e1 e2) aj0 (aj4 @dCnf.eq_1 h3 h4 h3b)
 have h3b:0≤nt∧nt<c.nts:=by omega
 by_cases h5:n≤64
 ·have h5b:¬(64:Int)<(n:Int):=by omega
  exact go0 (aj2 e1 e2) aj0 (aj6 @dCnf.eq_1 h3 h4 h3b h5 h5b)
 ·have h5b:(64:Int)<(n:Int):=by omega
  exact go0 (aj2 e1 e2) aj0 (aj6 @dCnf.eq_1 h3 h4 h3b h5 h5b)
theorem rof52_ok (xs:List Auto) (hsm:∀a∈xs,SmA a) (hl:xs.length≤16):Ac_ Tryz.prog 15 [refM xs] (.agg (dCnf (Br_ (cnfM xs)))):=by
 have hst1:∀a∈xs,1≤a.st:=fun a ha=>(LI_ (hsm a ha).ok).1
 have he:Br_ (cnfM xs)=⟨(sumS xs:Int),(cnfM xs).prods.foldl (insC AY_) []⟩:=by
  unfold Br_;rw[PR_ Fb_];have h1:(cnfM xs).nts=((xs.length+cntN xs (sumS xs):Nat):Int):=rfl;rw[h1,nts_eq hst1]
 rw[he];refine(ZA_ xs hsm hl).wk ?_ (by simp[mx,dCnf]);simp only[dCnf,CW_]
 split
 ·rename_i h0;rw[h0];simp[AS_]
 ·simp
theorem sumS_pos {xs:List Auto} (h:∀a∈xs,SmA a) (hn:xs.length≠0):1≤sumS xs:=by
 cases xs with
 | nil=>simp at hn
 | cons a xs =>
  have h3:sumS (a::xs)=a.st.toNat+sumS xs:=by simp[sumS]
  have:=(LI_ (h a aG0).ok).1;omega
end Go.Proofs.YtchgnpnbcjflcaaGreat
end
section
namespace Go.Proofs.YtchgnpnbcjflcaaGreat
open Go Go.Dm
variable [DMode]
attribute [local irreducible] DW Bb_ Bh_
set_option maxRecDepth 100000

theorem Rm_ (c:Cnf):Ac_ Tryz.prog 148 [.agg (dCnf c)] (.agg (dCnf (Br_ c))):=by
 have h:=Rl_ c;rw[PR_ Fb_]at h;exact h
def XE_ : Ann:=⟨[2],[⟨20,[],[],[9]⟩]⟩
set_option maxHeartbeats 4000000 in
theorem addR_big (m:Mk) (p:Prod) (hb:1026<p.body.length) :
  AI_ Tryz.prog (.func 147) [fmD 0 0 m,.agg (Ae_ p)] (dFo 0 0 m) (fmD 1 1 { m with nts:=1025 }) (dFo 1 1 { m with nts:=1025 }):=by
 obtain⟨hd,l⟩:=p;simp only at hb;refine AH_ [2,4] [(0,0,1),(1,1,1)] XE_ Tryz.func147 Tryz.call147 Tryz.ntmps147 mxd (aj2 @XE_.eq_1 Tryz.results147) rfl (by simp) (by simp) (by simp[dFo]) fun hwf B hnt hgAnn=> ?_
 simp only[argS,fmD];have q1:¬l=[]:=fun h=>by rw[h]at hb;simp at hb
 have q2:¬(l.length:Int)=1:=by omega
 have q3:(1026:Int)<l.length:=by omega
 have q4:¬(l.length:Int)=0:=by omega
 have q5:((l.length:Int)==0)=false:=by simpa using q4
 have q6:((l.length:Int)==1)=false:=by simpa using q2
 have q7:¬l.length=1:=by omega
 have hn1:noR { m with nts:=1025 }=noR m:=rfl;have hn2:hs16 { m with nts:=1025 }=hs16 m:=rfl;obtain⟨s0,hs0,hs0',_⟩:=Ak_ (show 0<l.length by omega);exact go0 aj0 aj0 (aj14 @dFo.eq_1 @Ae_.eq_1 @dSym.eq_1 q1 q2 q3 q4 q5 q6 q7 hs0 hs0' hn1 hn2)
theorem addR_spec (m:Mk) (p:Prod) (hg:GoodM m) (hok:∀s∈p.body,symG m.nts s) (hl2:p.body.length≤1026) (h2:m.nts+4000≤9223372036854775807) (h3:(m.prods.length+4000)*32≤150000000000000) :
  AI_ Tryz.prog (.func 147) [fmD 0 0 m,.agg (Ae_ p)] (dFo 0 0 m) (fmD 1 1 (m.add p)) (dFo 1 1 (m.add p)):=by
 by_cases hf:As_ p.body=1∨As_ p.body=2
 ·exact addR_easy m p hf (Po_ (by omega) h3)
 ·by_cases hl:p.body.length=1
  ·exact addR_one m p hf hl hg.no.1 hg.one (by omega) (Po_ (by omega) h3)
  ·refine addR_more m p hf hl hl2 (fun s hs hlb=> ?_) hg.pos h2 h3;have:=hok s hs;unfold symG at this;rw[if_pos hlb]at this;exact this
def ML_ : Ann:=⟨[12,26],[]⟩
set_option maxHeartbeats 8000000 in
theorem rof_pure (c:Cnf) (hsz:(c.prods.length+8000)*32≤150000000000000):Ac_ Tryz.prog 57 [.agg (dCnf c)] (.tup [.agg (dCnf (ofC c).1),.int .i64 (ofC c).2]):=by
 have key:∀d,d=(if Be_ c then (match (Mk.start c).adds c.prods with | none=> .tup [.agg [.int .i64 0,.nilsl],.int .i64 240] | some m=> .tup [.agg (dCnf (Br_ m.cnf)),.int .i64 0])else .tup [.agg [.int .i64 0,.nilsl],.int .i64 220])→Ac_ Tryz.prog 57 [.agg (dCnf c)] d:=by
  intro d hd;refine Gy_ [] Tryz.func57 rfl Tryz.call57 (by simp[Tryz.ntmps57]) ?_ ?_
  ·subst hd
   split
   ·split<;>simp[mx,dCnf]
   ·simp[mx]
  intro hwf B hnt;simp only[Tryz.ntmps57]at hnt;have hgAnn:=an_is ML_ mxd (aj2 @ML_.eq_1 Tryz.results57);have hw:wCnf c:=Tk_ (by simpa[wfL,wfD]using hwf.1);obtain⟨hw1,hw2,hw3,hw4⟩:=hw;clear hwf;simp only[argS];have h1:=HL_ c;cases hb:Be_ c
  ·rw[hb]at h1 hd;simp only[aL0,if_false]at hd;subst hd;exact go0 (aj1 h1) aj0 (aj1 @dCnf.eq_1)
  rw[hb]at h1 hd;simp only[if_true]at hd;have hh0:hs16 (Mk.start c)=List.replicate 16 (-1):=rfl;have h4:=ay_ c.nts;rw[←hh0]at h4;clear hh0
  (refine go1 (aj1 h1) (aj1 (spc [] [(51,0)] h4)) (aj1 @dCnf.eq_1) ?_;intros;refine mk_i ?_)
  refine Bm_ 4 1 50 92 2 32 (by simp) (fun n=> ?_);have hgs:=NV_ hb;obtain⟨hn12,hcp⟩:=Cb_.1 hb;obtain⟨hn1,hn2⟩:=hn12;obtain⟨R,hR⟩:∃R,R=(Mk.start c).adds c.prods:=⟨_,rfl⟩;rw[←hR]at hd;have hno:noR ⟨c.nts,[],[],0⟩= -1:=rfl
  refine Ad_ (X:={x:Nat×Mk//x.1≤c.prods.length∧x.2.adds (c.prods.drop x.1)=R∧c.nts≤x.2.nts∧x.2.nts≤1024∧(x.2.prods.length:Int)=x.1+x.2.nts-c.nts∧GoodM x.2})
   (fun x=>⟨[(1,.ref (dCnf c)),(2,.bx 2 1 0),(3,.int .i64 0),(4,.bx 4 1 0),(5,.int .i64 x.1.1)],[⟨2,1,.box [.int .i64 0,.nilsl]⟩,⟨4,1,.box [.int .i64 x.1.2.nts,.osl 50 1,.osl 51 1,.int .i64 (noR x.1.2)]⟩,⟨50,1,.row 92 2 32 (x.1.2.prods.map Ae_)⟩,⟨51,1,.row 3 1 8 ((hs16 x.1.2).map Bd_)⟩]⟩)
   (fun x=>c.prods.length-x.1.1) ⟨(0,Mk.start c),by simp[hR,Mk.start];exact⟨by omega,hgs⟩⟩ (Sub.lit (by simp[dCnf,Mk.start,hno])) ?_
  rintro⟨⟨k,m1⟩,hk,hA,b1,b2,b3,b4⟩;simp only at hk hA b1 b2 b3 b4 ⊢;clear hR
  by_cases hlt:k<c.prods.length
  ·obtain⟨p,hp,hp',hpm⟩:=Ak_ hlt;obtain⟨hw5,hw6,hw7,hw8⟩:=hw4 p hpm;obtain⟨hh1,hh2⟩:=hcp p hpm;rw[aR0 hlt,hp']at hA;simp only[Mk.adds]at hA;obtain⟨g1,g2,g3,g4⟩:=MQ_ m1 p;simp only[Mk.gap]at g1;have hsy:∀s∈p.body,symG m1.nts s:=fun s hs=>Io_ b1 (hh2 s hs)
   by_cases hbig:1026<p.body.length
   ·have e1:=addR_big m1 p hbig;rw[if_pos (by have:=b4.one;omega)]at hA;subst hA;simp only at hd;subst hd;simp only[fmD]at e1;exact go0 (aj1 h1) (aj1 (spc [(50,0),(51,1)] [] e1)) (aj5 @dFo.eq_1 @dCnf.eq_1 @Ae_.eq_1 hlt hp')
   ·have e1:=addR_spec m1 p b4 hsy (by omega) (by omega) (Nat.le_trans (aO0 32 (show m1.prods.length+4000≤c.prods.length+8000 by omega)) hsz);have hg2:=Wn_ b4 ⟨hh1.1,by have:=hh1.2;omega⟩ hsy
    generalize hm2:m1.add p=m2 at e1 hA g1 g2 g3 g4 hg2
    simp only[fmD]at e1
    by_cases hov:1024<m2.nts
    ·rw[if_pos hov]at hA;subst hA;simp only at hd;subst hd;exact go0 (aj1 h1) (aj1 (spc [(50,0),(51,1)] [] e1)) (aj6 @dFo.eq_1 @dCnf.eq_1 @Ae_.eq_1 hlt hp' hov)
    ·rw[if_neg hov]at hA
     (refine go1 (aj1 h1) (aj1 (spc [(50,0),(51,1)] [] e1)) (aj6 @dFo.eq_1 @dCnf.eq_1 @Ae_.eq_1 hlt hp' hov) ?_;intros;refine mk_i ?_)
     refine Ai_.mk ⟨(k+1,m2),show k+1≤c.prods.length∧_∧c.nts≤m2.nts∧m2.nts≤1024∧(m2.prods.length:Int)=((k+1:Nat):Int)+m2.nts-c.nts∧GoodM m2 from ⟨by omega,hA,by omega,by omega,by omega,hg2⟩⟩ (Sub.lit (by simp[dFo,dCnf])) (by simp;omega)
     skip
  ·have hkk:k=c.prods.length:=by omega
   subst hkk;rw[bQ0]at hA;simp only[Mk.adds]at hA;subst hA;simp only at hd;subst hd;refine EP_ (Sub.freezeL [50] _) ?_;simp[hnt,Tryz.results57,ML_,dCnf];have h2:=Rm_ m1.cnf;simp only[Mk.cnf,dCnf]at h2
   (repeat (first | refine Aw_ fun K hK=> ?_ | (refine DW_r ML_ mxd (by kernel_rfl) ?_;simp[ML_,hnt,dCnf,Mk.cnf];try simp (disch:=omega) only[Ah_]) | refine Al_ ?_ | (refine AP_ ?_ ?_ ?_;(· (simp[hnt,dCnf,Mk.cnf];done));(try (rotate_left;(· (intro hc;(try simp[hnt,dCnf,Mk.cnf]at hc);done))))) | (refine Az_ ?_;simp[Tryz.results57,hnt,dCnf,Mk.cnf]) | ((first | refine Ar_ ?_ | refine Aq_ ?_);simp[hnt,dCnf,Mk.cnf]) | (intro hc;(try simp[hnt,dCnf,Mk.cnf]at hc);(try (exfalso;omega))) | ((first | refine Ag_ (h2) ?_ | (refine Af_ (h2) ?_ ?_;(· (simp;done))));try simp[hnt,dCnf,Mk.cnf]) | (refine⟨?_,?_⟩; · omega) | omega | apply_assumption -exfalso -symm | (exfalso;omega)))
 have hk:=key _ rfl;rw[NL_];cases hb:Be_ c<;>rw[hb]at hk
 ·exact Ac_.wkT hk (by simp[cnf0,dCnf,AS_]) (by simp[mx])
 ·simp only[if_true]at hk ⊢
  cases hA:(Mk.start c).adds c.prods with
  | none =>
   rw[hA]at hk;exact Ac_.wkT hk (by simp[cnf0,dCnf,AS_]) (by simp[mx])
  | some m =>
   rw[hA]at hk;exact hk
end Go.Proofs.YtchgnpnbcjflcaaGreat
end
section
namespace Go.Proofs.YtchgnpnbcjflcaaGreat
open Go Go.Dm
attribute [local irreducible] DW Bb_ Bh_
set_option maxRecDepth 100000
theorem bnd_w {a b n:Nat} (h1:a≤1040) (h2:b≤17179870208) (h3:n≤a+b):(n+8000)*32≤150000000000000:=by omega
theorem Uy_ {xs:List Auto} (hsm:∀a∈xs,SmA a) (hl:xs.length≤16):((Br_ (cnfM xs)).prods.length+8000)*32≤150000000000000:=by
 have hfl:(finA xs).length≤1040:=Nat.le_trans (IV_ hsm 0) (bT0 65 hl);have hal:(arcA xs).length≤17179870208:=Nat.le_trans (Jg_ hsm 0) (bT0 1073741888 hl);refine bnd_w hfl hal (Nat.le_trans (VK_ _) ?_);simp[cnfM]
def DC_ (gt:GT):Cnf×Int:=ofC (Br_ (cnfM (autL gt)))
def anWN117 : Ann:=⟨[],[⟨4,[6],[],[]⟩]⟩
set_option maxHeartbeats 4000000 in
theorem wnew_pure (gt:GT) (h:OkgT gt) (hs:SmlG (mkG gt)) (p1:Ac_ Tryz.prog 76 [Au_ (mkG gt)] (.int .i64 0)):Ac_ Tryz.prog 17 [Au_ (mkG gt)] (.tup [.agg (dCnf (DC_ gt).1),.int .i64 (DC_ gt).2]):=by
 have e1:=ZT_ gt h hs p1;have hsm:=MH_ h;have hal:=GU_ gt;have hhd:=h.hd;have hne:=PO_ h;unfold DC_;obtain⟨A,hA⟩:∃A,A=autL gt:=⟨_,rfl⟩;rw[←hA]at e1 hsm hal ⊢;have hA16:A.length≤16:=by omega
 have e3:=SK_ (Ao_ (mkG gt)) (Ap_ (mkG gt)) A hsm hA16 (by omega) (sumS_pos hsm (by omega));have hsz:=Uy_ hsm hA16;obtain⟨NC,hNC⟩:∃NC,NC=Br_ (cnfM A):=⟨_,rfl⟩;rw[←hNC]at e3 hsz ⊢;have e7:=of21_pure NC hsz;obtain⟨X,hX⟩:∃X,X=(ofC NC).1:=⟨_,rfl⟩;obtain⟨E,hE⟩:∃E,E=(ofC NC).2:=⟨_,rfl⟩;rw[←hX,←hE]at e7 ⊢;unfold Dx_ at e1 e3;simp only[dCnf]at e3 e7;refine Aa_ [] anWN117 Tryz.func17 Tryz.call17 Tryz.ntmps17 mxd (aj2 @anWN117.eq_1 Tryz.results17) rfl (by simp) (by simp[mx,mxL,dCnf]) fun hwf B hnt hgAnn=> ?_
 clear hwf;simp only[argS];exact go0 (aj3 e1 e3 e7) aj0 (aj1 @dCnf.eq_1)
def anWN118 : Ann:=⟨[],[]⟩
set_option maxHeartbeats 4000000 in
theorem Zw_ (gt:GT) (h:OkgT gt) (hs:SmlG (mkG gt)) (p2:Ac_ Tryz.prog 13 [Au_ (mkG gt)] (.int .i64 0)):Ac_ Tryz.prog 18 [Au_ (mkG gt)] (.tup [.agg (dCnf (DC_ gt).1),.int .i64 (DC_ gt).2]):=by
 have e2:=TE_ gt h hs;have hsm:=MH_ h;have hal:=GU_ gt;have hhd:=h.hd;unfold DC_;obtain⟨A,hA⟩:∃A,A=autL gt:=⟨_,rfl⟩;rw[←hA]at e2 hsm hal ⊢;have hA16:A.length≤16:=by omega
 have e4:=rof52_ok A hsm hA16;have hsz:=Uy_ hsm hA16;obtain⟨NC,hNC⟩:∃NC,NC=Br_ (cnfM A):=⟨_,rfl⟩;rw[←hNC]at e4 hsz ⊢;have e8:=rof_pure NC hsz;obtain⟨X,hX⟩:∃X,X=(ofC NC).1:=⟨_,rfl⟩;obtain⟨E,hE⟩:∃E,E=(ofC NC).2:=⟨_,rfl⟩;rw[←hX,←hE]at e8 ⊢;unfold refM at e2 e4;simp only[dCnf]at e4 e8;refine Aa_ [] anWN118 Tryz.func18 Tryz.call18 Tryz.ntmps18 mxd (aj2 @anWN118.eq_1 Tryz.results18) rfl (by simp) (by simp[mx,mxL,dCnf]) fun hwf B hnt hgAnn=> ?_
 clear hwf;simp only[argS];exact go0 (aj4 e2 e4 e8 p2) aj0 (aj1 @dCnf.eq_1)
def anCK359 : Ann:=⟨[],[]⟩
theorem HV_ (g1 g2:FuncId) (c1 c2:List DVal) (e1 e2:Int) (h1:Ac_ Tryz.prog g1 c1 (.int .i64 e1)) (h2:e1=0→Ac_ Tryz.prog g2 c2 (.int .i64 e2)) :
  Ac_ Tryz.prog 59 [.sl 1 8 [[.fn (.func g1) [] c1],[.fn (.func g2) [] c2]]] (.int .i64 (if e1=0 then e2 else e1)):=by
 refine Aa_ [] anCK359 Tryz.func59 Tryz.call59 Tryz.ntmps59 mxd (aj2 @anCK359.eq_1 Tryz.results59) rfl (by simp) (by simp[mx]) fun hwf B hnt hgAnn=> ?_
 simp only[argS];clear hwf;obtain⟨R,hR⟩:∃R,R=(if e1=0 then e2 else e1):=⟨_,rfl⟩;rw[←hR]
 (refine go1 aj0 aj0 aj0 ?_;intros;refine mk_i ?_)
 refine Ad_ (X:={k:Nat//k≤2∧(1≤k→e1=0)∧(2≤k→e2=0)}) (fun x=>⟨[(6,.sl 1 8 [[.fn (.func g1) [] c1],[.fn (.func g2) [] c2]]),(7,.int .i64 2),(8,.int .i64 x.1)],[]⟩) (fun x=>2-x.1) ⟨0,by simp⟩ (Sub.lit (by simp)) ?_;rintro⟨k,hk,q1,q2⟩
 match k,hk,q1,q2 with
 | 0,_,_,_ =>
  by_cases h:e1=0
  ·subst h
   (refine go1 (aj1 h1) aj0 aj0 ?_;intros;refine mk_i ?_)
   exact Ai_.mk ⟨1,by omega,by simp,by omega⟩ (Sub.lit (by simp)) (by simp)
   skip
  ·have hRk:R=e1:=by rw[hR];simp[h]
   subst hRk;exact go0 (aj1 h1) aj0 (aj1 h)
 | 1,_,q1,_ =>
  have q1:=q1 (by omega);have k2:=h2 q1;clear h2;subst q1
  by_cases h:e2=0
  ·subst h
   (refine go1 (aj1 k2) aj0 aj0 ?_;intros;refine mk_i ?_)
   exact Ai_.mk ⟨2,by omega,by simp,by simp⟩ (Sub.lit (by simp)) (by simp)
   skip
  ·have hRk:R=e2:=by rw[hR];simp
   subst hRk;exact go0 (aj1 k2) aj0 (aj1 h)
 | 2,_,q1,q2 =>
  clear h2;have q1:=q1 (by omega);have q2:=q2 (by omega);subst q1;subst q2;have hRk:R=0:=by rw[hR];simp
  subst hRk;exact go0 aj0 aj0 aj0
def CR_ (c:Int) (g:List Rul) (nt:ByteArray):Int:=if c=0 then (if nt∈Ao_ g then 0 else 4)else c
def Yw_ : Ann:=⟨[],[]⟩
theorem Ub_ (g:List Rul) (c:Int) (h:Ac_ Tryz.prog 76 [Au_ g] (.int .i64 c)):Ac_ Tryz.prog 152 [.ref [Au_ g]] (.int .i64 c):=by
 refine Aa_ [] Yw_ Tryz.func152 Tryz.call152 Tryz.ntmps152 mxd (aj2 @Yw_.eq_1 Tryz.results152) rfl (by simp) (by simp[mx]) fun hwf B hnt hgAnn=> ?_
 clear hwf;simp only[argS];exact go0 (aj1 h) aj0 aj0
def Yv_ : Ann:=⟨[],[]⟩
theorem Ua_ (g:List Rul) (nt:ByteArray):Ac_ Tryz.prog 153 [.ref [Au_ g],.ref [.str nt]] (.int .i64 (if nt∈Ao_ g then 0 else 4)):=by
 refine Aa_ [] Yv_ Tryz.func153 Tryz.call153 Tryz.ntmps153 mxd (aj2 @Yv_.eq_1 Tryz.results153) rfl (by simp) (by simp[mx]) fun hwf B hnt hgAnn=> ?_
 clear hwf;simp only[argS];have e1:=Gj_ g;have e2:=FD_ (Ao_ g) nt;obtain⟨H,hH⟩:∃H,H=Ao_ g:=⟨_,rfl⟩;rw[←hH]at e1 e2 ⊢
 by_cases h:nt∈H
 ·have e3:=BP_ false 4;rw[decide_eq_true h]at e2;simp only[aL0,if_false]at e3;exact go0 (aj3 e1 e2 e3) aj0 (aj1 h)
 ·have e3:=BP_ true 4;rw[decide_eq_false h]at e2;simp only[if_true]at e3;exact go0 (aj3 e1 e2 e3) aj0 (aj1 h)
def anCK361 : Ann:=⟨[],[]⟩
theorem ZY_ (g:List Rul) (nt:ByteArray) (c:Int) (h:Ac_ Tryz.prog 76 [Au_ g] (.int .i64 c)):Ac_ Tryz.prog 61 [Au_ g,.str nt] (.int .i64 (CR_ c g nt)):=by
 refine Aa_ [] anCK361 Tryz.func61 Tryz.call61 Tryz.ntmps61 mxd (aj2 @anCK361.eq_1 Tryz.results61) rfl (by simp) (by simp[mx]) fun hwf B hnt hgAnn=> ?_
 clear hwf;simp only[argS];have e1:=HV_ 152 153 [.ref [Au_ g]] [.ref [Au_ g],.ref [.str nt]] _ _ (Ub_ g c h) (fun _=>Ua_ g nt);have hr2:(([0,1]:List Nat)=List.range 2)=True:=eq_true rfl;obtain⟨R,hR⟩:∃R,R=CR_ c g nt:=⟨_,rfl⟩;have hR2:R=(if c=0 then (if nt∈Ao_ g then 0 else 4)else c):=hR;rw[←hR2]at e1;rw[←hR];clear hR hR2;exact go0 (aj1 e1) aj0 (aj1 hr2)
def anCK366 : Ann:=⟨[],[]⟩
theorem Ly_ (g:List Rul) (nt:ByteArray) (c:Int) (h:Ac_ Tryz.prog 13 [Au_ g] (.int .i64 c)):Ac_ Tryz.prog 66 [Au_ g,.str nt] (.int .i64 (CR_ c g nt)):=by
 refine Aa_ [] anCK366 Tryz.func66 Tryz.call66 Tryz.ntmps66 mxd (aj2 @anCK366.eq_1 Tryz.results66) rfl (by simp) (by simp[mx]) fun hwf B hnt hgAnn=> ?_
 clear hwf;simp only[argS];unfold CR_
 by_cases hc:c=0
 ·subst hc;have e1:=Ce_ g;have e2:=IB_ (Ao_ g) nt;obtain⟨H,hH⟩:∃H,H=Ao_ g:=⟨_,rfl⟩;rw[←hH]at e1 e2 ⊢
  by_cases hn:nt∈H
  ·rw[Iz_ hn]at e2;have hlt:¬(ixS H nt:Int)<0:=by omega
   exact go0 (aj3 e1 e2 h) aj0 (aj2 hn hlt)
  ·rw[LE_ hn]at e2;exact go0 (aj3 e1 e2 h) aj0 (aj1 hn)
 ·have hcb:(c==0)=false:=by simpa using hc
  exact go0 (aj1 h) aj0 (aj2 hc hcb)
def wdL (L:List ByteArray) (w:List ByteArray):List Int:=w.map fun s=>(ixS L s:Int)
def wdB (L:List ByteArray) (w:List ByteArray):Bool:=w.all fun s=>decide (s∈L)
theorem Oy_ (L w:List ByteArray):(wdL L w).length=w.length:=by unfold wdL;rw[aJ0]
theorem UW_ {L w:List ByteArray} {k:Nat} {x:ByteArray} (h:w[k]? =some x):wdL L (w.take (k+1))=wdL L (w.take k)++[(ixS L x:Int)]:=by unfold wdL;rw[bF0,h,aY0];rfl
theorem wdB_no {L w:List ByteArray} {x:ByteArray} (h:x∈w) (hx:¬x∈L):wdB L w=false:=by
 unfold wdB;rw[List.all_eq_false];exact⟨x,h,by simpa using hx⟩
theorem wdB_all {L w:List ByteArray} (h:∀x∈w,x∈L):wdB L w=true:=by
 unfold wdB;rw[bC0];exact fun x hx=>by simpa using h x hx
def wdD (L w:List ByteArray):DVal:= .tup [Bl_ (if wdB L w then wdL L w else []),.int .i64 (if wdB L w then 0 else 4)]
theorem wd_key {L w:List ByteArray} {D:DVal} (h:D=(if wdB L w then .tup [Bl_ (wdL L w),.int .i64 0]else .tup [.nilsl,.int .i64 4])):∀{f:FuncId} {args:List DVal},Ac_ Tryz.prog f args D→Ac_ Tryz.prog f args (wdD L w):=by
 intro f args hp;subst h;unfold wdD;cases hb:wdB L w
 ·rw[hb]at hp;exact Ac_.wkT hp (by simp[Bl_]) (by simp[mx])
 ·rw[hb]at hp;exact hp
def anCK431 : Ann:=⟨[],[]⟩
theorem Zm_ (H L w:List ByteArray) (hL:L.length≤16) (hw:w.length≤64):Ac_ Tryz.prog 31 [dTab H L,AT_ w] (wdD L w):=by
 refine wd_key rfl ?_;obtain⟨D,hD⟩:∃D,D=(if wdB L w then DVal.tup [Bl_ (wdL L w),.int .i64 0]else .tup [.nilsl,.int .i64 4]):=⟨_,rfl⟩;rw[←hD];have e1:=Ee_ H L;have e2:=fun s=>IN_ H L s
 refine Aa_ [6] anCK431 Tryz.func31 Tryz.call31 Tryz.ntmps31 mxd (aj2 @anCK431.eq_1 Tryz.results31) rfl (by simp) (by rw[hD];split<;>simp[mx]) fun hwf B hnt hgAnn=> ?_
 clear hwf;simp only[argS]
 (refine go1 (aj1 e1) aj0 aj0 ?_;intros;refine mk_i ?_)
 refine AW_ 6 6 3 1 8 (by simp[hnt]) (fun n6=> ?_);refine Ad_ (X:={k:Nat//k≤w.length∧∀x∈w.take k,x∈L}) (fun k=>⟨[(0,dTab H L),(6,.osl 6 1),(14,AT_ w),(15,.int .i64 w.length),(16,.int .i64 k.1)],[⟨6,1,.row 3 1 8 ((wdL L (w.take k.1)).map dNum)⟩]⟩) (fun k=>w.length-k.1) ⟨0,by simp⟩ (Sub.lit (by simp[wdL])) ?_;rintro⟨k,hk,ha⟩
 by_cases hlt:k<w.length
 ·obtain⟨x,hx,hx',hxm⟩:=Ak_ hlt;have e3:=e2 x;unfold numK numE at e3
  by_cases hin:x∈L
  ·rw[if_pos hin,if_pos hin]at e3;have htk:=UW_ (L:=L) hx;have hl1:(wdL L (w.take k)).length=k:=by rw[Oy_,aZ0];omega
   have ha2:∀y∈w.take (k+1),y∈L:=by
    intro y hy;rw[bF0,hx,aI0]at hy
    rcases hy with hy | hy
    ·exact ha y hy
    ·simp at hy;subst hy;exact hin
   obtain⟨T,hT⟩:∃T,T=wdL L (w.take k):=⟨_,rfl⟩;rw[←hT]at htk hl1 ⊢;have z1:(k+1)*8≤150000000000000:=by omega
   have z2:k+1≤9223372036854775807:=by omega
   (refine go1 (aj1 e3) aj0 (aj7 @dStr.eq_1 hlt hx hx' hl1 z1 z2) ?_;intros;refine mk_i ?_)
   refine Ai_.mk ⟨k+1,by omega,ha2⟩ (Sub.lit (by simp[htk,dNum])) (by simp;omega)
   skip
  ·rw[if_neg hin,if_neg hin]at e3;have hDf:D= .tup [.nilsl,.int .i64 4]:=by rw[hD,if_neg (by rw[wdB_no hxm hin];simp)]
   subst hDf;exact go0 (aj1 e3) aj0 (aj4 @dStr.eq_1 hlt hx hx')
 ·have hkk:k=w.length:=by omega
  subst hkk;simp only[aQ0]at ha ⊢;have hDt:D= .tup [Bl_ (wdL L w),.int .i64 0]:=by rw[hD,if_pos (wdB_all ha)]
  subst hDt;exact go0 aj0 aj0 aj0
def anCK467 : Ann:=⟨[],[]⟩
theorem Zv_ (g:List Rul) (w:List ByteArray) (hn:((AE_ 3 g).length+1)*16≤150000000000000) (hL:(Ap_ g).length≤16) (hw:w.length≤64):Ac_ Tryz.prog 67 [Au_ g,AT_ w] (wdD (Ap_ g) w):=by
 refine wd_key rfl ?_;have e1:=Es_ g hn;obtain⟨L,hLL⟩:∃L,L=Ap_ g:=⟨_,rfl⟩;rw[←hLL]at e1 hL ⊢;obtain⟨D,hD⟩:∃D,D=(if wdB L w then DVal.tup [Bl_ (wdL L w),.int .i64 0]else .tup [.nilsl,.int .i64 4]):=⟨_,rfl⟩;rw[←hD];have e2:=fun s=>IA_ L s
 refine Aa_ [7] anCK467 Tryz.func67 Tryz.call67 Tryz.ntmps67 mxd (aj2 @anCK467.eq_1 Tryz.results67) rfl (by simp) (by rw[hD];split<;>simp[mx]) fun hwf B hnt hgAnn=> ?_
 clear hwf;simp only[argS]
 (refine go1 (aj1 e1) aj0 aj0 ?_;intros;refine mk_i ?_)
 refine AW_ 7 7 3 1 8 (by simp[hnt]) (fun n7=> ?_);refine Ad_ (X:={k:Nat//k≤w.length∧∀x∈w.take k,x∈L}) (fun k=>⟨[(1,AT_ w),(6,AT_ L),(7,.osl 7 1),(8,.int .i64 k.1)],[⟨7,1,.row 3 1 8 ((wdL L (w.take k.1)).map dNum)⟩]⟩) (fun k=>w.length-k.1) ⟨0,by simp⟩ (Sub.lit (by simp[wdL])) ?_;rintro⟨k,hk,ha⟩
 by_cases hlt:k<w.length
 ·obtain⟨x,hx,hx',hxm⟩:=Ak_ hlt;have e3:=e2 x;have w2:IntKind.i64.wrap ((k:Int)+1)=(k:Int)+1:=wq
  by_cases hin:x∈L
  ·rw[Iz_ hin]at e3;have hnl:¬(ixS L x:Int)<0:=by omega
   have htk:=UW_ (L:=L) hx;have hl1:(wdL L (w.take k)).length=k:=by rw[Oy_,aZ0];omega
   have ha2:∀y∈w.take (k+1),y∈L:=by
    intro y hy;rw[bF0,hx,aI0]at hy
    rcases hy with hy | hy
    ·exact ha y hy
    ·simp at hy;subst hy;exact hin
   obtain⟨T,hT⟩:∃T,T=wdL L (w.take k):=⟨_,rfl⟩;rw[←hT]at htk hl1 ⊢;have z1:(k+1)*8≤150000000000000:=by omega
   have z2:k+1≤9223372036854775807:=by omega
   (refine go1 (aj1 e3) aj0 (aj9 @dStr.eq_1 hlt hx hx' hl1 z1 z2 hnl w2) ?_;intros;refine mk_i ?_)
   refine Ai_.mk ⟨k+1,by omega,ha2⟩ (Sub.lit (by simp[htk,dNum])) (by simp;omega)
   skip
  ·rw[LE_ hin]at e3;have hDf:D= .tup [.nilsl,.int .i64 4]:=by rw[hD,if_neg (by rw[wdB_no hxm hin];simp)]
   subst hDf;exact go0 (aj1 e3) aj0 (aj4 @dStr.eq_1 hlt hx hx')
 ·have hkk:k=w.length:=by omega
  subst hkk;simp only[aQ0]at ha ⊢;have hDt:D= .tup [Bl_ (wdL L w),.int .i64 0]:=by rw[hD,if_pos (wdB_all ha)]
  subst hDt;exact go0 aj0 aj0 aj0
def Yu_ : Ann:=⟨[],[]⟩
theorem Qh_ (H L w:List ByteArray) (hL:L.length≤16) (hw:w.length≤64):Ac_ Tryz.prog 155 [dTab H L,AT_ w] (.tup [Bl_ (if wdB L w then wdL L w else []),.bool (wdB L w)]):=by
 refine Aa_ [] Yu_ Tryz.func155 Tryz.call155 Tryz.ntmps155 mxd (aj2 @Yu_.eq_1 Tryz.results155) rfl (by simp) (by simp[mx]) fun hwf B hnt hgAnn=> ?_
 clear hwf;simp only[argS];have e1:=Zm_ H L w hL hw;unfold wdD at e1;cases hb:wdB L w
 ·rw[hb]at e1;simp only[aL0,if_false]at e1 ⊢;exact go0 (aj1 e1) aj0 aj0
 ·rw[hb]at e1;simp only[if_true]at e1 ⊢;exact go0 (aj1 e1) aj0 aj0
def anCK464 : Ann:=⟨[],[⟨2,[12],[],[]⟩]⟩
theorem UE_ (gt:GT) (h:OkgT gt) (hs:SmlG (mkG gt)) (p1:Ac_ Tryz.prog 76 [Au_ (mkG gt)] (.int .i64 0)) (nt:ByteArray) (w:List ByteArray) (hw:w.length≤64) :
  Ac_ Tryz.prog 64 [Au_ (mkG gt),.str nt,AT_ w] (.tup [.agg (dCnf (DC_ gt).1),.int .i64 (numK (Ao_ (mkG gt)) nt),Bl_ (if wdB (Ap_ (mkG gt)) w then wdL (Ap_ (mkG gt)) w else []),.bool (wdB (Ap_ (mkG gt)) w)]):=by
 have n1:=Df_ (k:=3) hs;have n2:(mkG gt).length=gt.length:=DX_ gt;have n3:=h.le;have hhd:=h.hd;have hlb:=h.lb;have e1:=of14_ok (mkG gt) (by omega) (by omega) (by omega) p1;have e2:=wnew_pure gt h hs p1;have e3:=NN_ (Ao_ (mkG gt)) (Ap_ (mkG gt)) nt;have e4:=Qh_ (Ao_ (mkG gt)) (Ap_ (mkG gt)) w hlb hw;obtain⟨X,hX⟩:∃X,X=(DC_ gt).1:=⟨_,rfl⟩;obtain⟨E,hE⟩:∃E,E=(DC_ gt).2:=⟨_,rfl⟩;rw[←hX,←hE]at e2;rw[←hX]
 obtain⟨H,hH⟩:∃H,H=Ao_ (mkG gt):=⟨_,rfl⟩;obtain⟨L,hL⟩:∃L,L=Ap_ (mkG gt):=⟨_,rfl⟩;rw[←hH,←hL]at e1 e3 e4;rw[←hH,←hL];obtain⟨N,hN⟩:∃N,N=(if wdB L w then wdL L w else []):=⟨_,rfl⟩;rw[←hN]at e4 ⊢;simp only[dCnf]at e2;refine Aa_ [] anCK464 Tryz.func64 Tryz.call64 Tryz.ntmps64 mxd (aj2 @anCK464.eq_1 Tryz.results64) rfl (by simp) (by simp[mx,mxL,dCnf]) fun hwf B hnt hgAnn=> ?_
 clear hwf;simp only[argS];exact go0 (aj4 e1 e2 e3 e4) aj0 (aj1 @dCnf.eq_1)
end Go.Proofs.YtchgnpnbcjflcaaGreat
end
section
namespace Go.Proofs.YtchgnpnbcjflcaaGreat
open Go Go.Dm
variable [DMode]
attribute [local irreducible] DW Bb_ Bh_
set_option maxRecDepth 100000
def Xj_ : Ann:=⟨[],[]⟩
theorem way2_pure (g:Edges) (a b:ByteArray):Ac_ Tryz.prog 88 [.ref (dGr g),.ref [.str a],.ref [.str b]] (.int .i64 (endsI g a b)):=by
 refine Aa_ [] Xj_ Tryz.func88 Tryz.call88 Tryz.ntmps88 mxd (aj2 @Xj_.eq_1 Tryz.results88) rfl (by simp) (by simp[mx]) fun hwf B hnt hgAnn=> ?_
 clear hwf;simp only[argS];have h:=Ur_ g a b;simp only[dGr]at h;exact go0 (aj1 h) aj0 (aj1 @dGr.eq_1)
def Xi_ : Ann:=⟨[],[]⟩
theorem way3_pure (way:List Edge):Ac_ Tryz.prog 89 [.ref [dEds way]] (.int .i64 (if 64<way.length then 3 else 0)):=by
 refine Aa_ [] Xi_ Tryz.func89 Tryz.call89 Tryz.ntmps89 mxd (aj2 @Xi_.eq_1 Tryz.results89) rfl (by simp) (by simp[mx]) fun hwf B hnt hgAnn=> ?_
 clear hwf;simp only[argS];have h:=BP_ (decide ((64:Int)<way.length)) 3
 by_cases c:64<way.length
 ·have d:(64:Int)<way.length:=by omega
  have h:=BP_ true 3;simp only[if_true]at h;exact go0 (aj1 h) aj0 (aj2 c d)
 ·have d:¬(64:Int)<way.length:=by omega
  have h:=BP_ false 3;simp only[aL0,if_false]at h;exact go0 (aj1 h) aj0 (aj2 c d)
def Xk_ : Ann:=⟨[],[]⟩
theorem ZD_ : Ac_ Tryz.prog 70 [.nilsl] (.bool true):=by
 refine Aa_ [] Xk_ Tryz.func70 Tryz.call70 Tryz.ntmps70 mxd (aj2 @Xk_.eq_1 Tryz.results70) rfl (by simp) (by simp[mx]) fun hwf B hnt hgAnn=> ?_
 clear hwf;simp only[argS]
 (refine go1 aj0 aj0 aj0 ?_;intros;refine mk_i ?_)
 refine Ad_ (X:=Unit) (fun _=>⟨[(0,.nilsl),(3,.int .i64 1)],[]⟩) (fun _=>0) () (Sub.lit (by simp)) ?_;rintro⟨⟩;exact go0 aj0 aj0 aj0
def gUno : Edges:=⟨[⟨#[110]⟩],[]⟩
def dUno : List DVal:=[.sl 1 16 [[.str ⟨#[110]⟩]],.sl 3 48 []]
def anWH309 : Ann:=⟨[],[]⟩
theorem ZW_ : Ac_ Tryz.prog 309 [.int .u8 110] (.bool true):=by
 refine Aa_ [] anWH309 Tryz.func309 Tryz.call309 Tryz.ntmps309 mxd (aj2 @anWH309.eq_1 Tryz.results309) rfl (by simp) (by simp[mx]) fun hwf B hnt hgAnn=> ?_
 clear hwf;simp only[argS];exact go0 aj0 aj0 aj0
def anWH246 : Ann:=⟨[],[]⟩
theorem name_uno : Ac_ Tryz.prog 246 [.str ⟨#[110]⟩] (.bool true):=by
 refine Aa_ [] anWH246 Tryz.func246 Tryz.call246 Tryz.ntmps246 mxd (aj2 @anWH246.eq_1 Tryz.results246) rfl (by simp) (by simp[mx]) fun hwf B hnt hgAnn=> ?_
 clear hwf;simp only[argS];have s1:(⟨#[110]⟩:ByteArray).size=1:=rfl
 (refine go1 aj0 aj0 (aj1 s1) ?_;intros;refine mk_i ?_)
 refine Ad_ (X:={k:Nat//k≤1}) (fun k=>⟨[(0,.str ⟨#[110]⟩),(3,.int .i64 (k.1:Int))],[]⟩) (fun k=>1-k.1) ⟨0,by omega⟩ (Sub.lit (by simp)) ?_;rintro⟨k,hk⟩
 match k,hk with
 | 0,_ =>
  have e1:=ZW_
  (refine go1 (aj1 e1) aj0 (aj1 s1) ?_;intros;refine mk_i ?_)
  exact Ai_.mk ⟨1,by omega⟩ (Sub.lit (by simp)) (by simp)
  skip
 | 1,_ =>
  exact go0 aj0 aj0 (aj1 s1)
def anWH242 : Ann:=⟨[],[]⟩
theorem ZC_ : Ac_ Tryz.prog 242 [.sl 1 16 [[.str ⟨#[110]⟩]],.fn (.func 243) [] []] (.bool true):=by
 refine Aa_ [] anWH242 Tryz.func242 Tryz.call242 Tryz.ntmps242 mxd (aj2 @anWH242.eq_1 Tryz.results242) rfl (by simp) (by simp[mx]) fun hwf B hnt hgAnn=> ?_
 clear hwf;simp only[argS]
 (refine go1 aj0 aj0 aj0 ?_;intros;refine mk_i ?_)
 refine Ad_ (X:=Unit) (fun _=>⟨[(0,.sl 1 16 [[.str ⟨#[110]⟩]]),(5,.int .i64 1)],[]⟩) (fun _=>0) () (Sub.lit (by simp)) ?_;rintro⟨⟩;exact go0 aj0 aj0 aj0
def anWH244 : Ann:=⟨[],[]⟩
theorem TF_ : Ac_ Tryz.prog 244 [.sl 3 48 [],.fn (.func 245) [] []] (.bool true):=by
 refine Aa_ [] anWH244 Tryz.func244 Tryz.call244 Tryz.ntmps244 mxd (aj2 @anWH244.eq_1 Tryz.results244) rfl (by simp) (by simp[mx]) fun hwf B hnt hgAnn=> ?_
 clear hwf;simp only[argS]
 (refine go1 aj0 aj0 aj0 ?_;intros;refine mk_i ?_)
 refine Ad_ (X:=Unit) (fun _=>⟨[(0,.sl 3 48 []),(5,.int .i64 1)],[]⟩) (fun _=>0) () (Sub.lit (by simp)) ?_;rintro⟨⟩;exact go0 aj0 aj0 aj0
def metU (k:Nat):Ent:=⟨18,1,.map (if k=0 then []else [.str ⟨#[110]⟩]) (if k=0 then []else [.int .i64 1])⟩
def anWH165 : Ann:=⟨[],[⟨11,[7],[],[]⟩]⟩
theorem form_uno : Ac_ Tryz.prog 165 [.agg dUno] (.bool true):=by
 refine Aa_ [] anWH165 Tryz.func165 Tryz.call165 Tryz.ntmps165 mxd (aj2 @anWH165.eq_1 Tryz.results165) rfl (by simp) (by simp[mx]) fun hwf B hnt hgAnn=> ?_
 clear hwf;simp only[argS];have e1:=ZC_;have e2:=TF_
 (refine go1 (aj2 e1 e2) aj0 (aj1 @dUno.eq_1) ?_;intros;refine mk_i ?_)
 refine Ad_ (X:={k:Nat//k≤1}) (fun k=>⟨[(1,.ref dUno),(3,.omp 18 1),(20,.sl 1 16 [[.str ⟨#[110]⟩]]),(21,.int .i64 1),(22,.int .i64 (k.1:Int))],[metU k.1]⟩) (fun k=>1-k.1) ⟨0,by omega⟩ (Sub.lit (by simp[metU,dUno])) ?_;rintro⟨k,hk⟩
 match k,hk with
 | 0,_ =>
  (refine go1 aj0 aj0 (aj2 @metU.eq_1 @dUno.eq_1) ?_;intros;refine mk_i ?_)
  exact Ai_.mk ⟨1,by omega⟩ (Sub.lit (by simp[metU,dUno])) (by simp)
  skip
 | 1,_ =>
  (refine go1 aj0 aj0 (aj2 @metU.eq_1 @dUno.eq_1) ?_;intros;refine mk_i ?_)
  refine Ad_ (X:=Unit) (fun _=>⟨[(33,.sl 3 48 []),(34,.int .i64 0),(35,.int .i64 0)],[metU 1]⟩) (fun _=>0) () (Sub.lit (by simp[metU])) ?_;rintro⟨⟩;exact go0 aj0 aj0 aj0
def anWH166 : Ann:=⟨[],[⟨9,[6],[],[]⟩]⟩
theorem named_uno : Ac_ Tryz.prog 166 [.agg dUno] (.bool true):=by
 refine Aa_ [] anWH166 Tryz.func166 Tryz.call166 Tryz.ntmps166 mxd (aj2 @anWH166.eq_1 Tryz.results166) rfl (by simp) (by simp[mx]) fun hwf B hnt hgAnn=> ?_
 clear hwf;simp only[argS]
 (refine go1 aj0 aj0 (aj1 @dUno.eq_1) ?_;intros;refine mk_i ?_)
 refine Ad_ (X:={k:Nat//k≤1}) (fun k=>⟨[(1,.ref dUno),(8,.sl 1 16 [[.str ⟨#[110]⟩]]),(9,.int .i64 1),(10,.int .i64 (k.1:Int))],[]⟩) (fun k=>1-k.1) ⟨0,by omega⟩ (Sub.lit (by simp[dUno])) ?_;rintro⟨k,hk⟩
 match k,hk with
 | 0,_ =>
  have e1:=name_uno
  (refine go1 (aj1 e1) aj0 (aj1 @dUno.eq_1) ?_;intros;refine mk_i ?_)
  exact Ai_.mk ⟨1,by omega⟩ (Sub.lit (by simp[dUno])) (by simp)
  skip
 | 1,_ =>
  (refine go1 aj0 aj0 (aj1 @dUno.eq_1) ?_;intros;refine mk_i ?_)
  refine Ad_ (X:=Unit) (fun _=>⟨[(19,.sl 3 48 []),(20,.int .i64 0),(21,.int .i64 0)],[]⟩) (fun _=>0) () (Sub.lit (by simp)) ?_;rintro⟨⟩;exact go0 aj0 aj0 aj0
def anWH311 : Ann:=⟨[],[]⟩
theorem SF_ : AI_ Tryz.prog (.func 311) [.osl 0 0] [⟨0,0,.row 9 1 16 []⟩] (.sl 1 16 []) []:=by
 refine Ep_ [0] [] Tryz.func311 rfl Tryz.call311 (by simp[Tryz.ntmps311]) (by simp) (by simp) ?_;intro hwf hwo B hnt;have hgAnn:=an_is anWH311 mxd (aj2 @anWH311.eq_1 Tryz.results311);simp only[argS];exact go0 aj0 aj0 aj0
def anWH248 : Ann:=⟨[20,22],[⟨5,[6],[],[]⟩]⟩
theorem ZX_ : Ac_ Tryz.prog 248 [.agg dUno] (.sl 1 16 []):=by
 refine Aa_ [] anWH248 Tryz.func248 Tryz.call248 Tryz.ntmps248 mxd (aj2 @anWH248.eq_1 Tryz.results248) rfl (by simp) (by simp[mx]) fun hwf B hnt hgAnn=> ?_
 clear hwf;simp only[argS]
 (refine go1 aj0 aj0 (aj1 @dUno.eq_1) ?_;intros;refine mk_i ?_)
 refine Bm_ 3 0 50 9 1 16 (by simp) (fun n=> ?_);refine Ad_ (X:=Unit) (fun _=>⟨[(3,.bx 3 1 0),(9,.sl 3 48 []),(10,.int .i64 0),(11,.int .i64 0)],[⟨3,1,.box [.osl 50 1]⟩,⟨50,1,.row 9 1 16 []⟩]⟩) (fun _=>0) () (Sub.lit (by simp)) ?_;rintro⟨⟩;have e1:=Na_ [];have e2:=SF_;have e3:=Mz_ [];have hs0:Eb_ []=[]:=bO0 (by rw[EC_];rfl);simp only[hs0,AT_,List.map_nil]at e1 e3;exact go0 (aj1 e3) (aj2 (spc [(50,0)] [] e1) (spc [(50,0)] [] e2)) aj0
def anWH312 : Ann:=⟨[],[⟨4,[5],[],[]⟩]⟩
theorem lone_uno : Ac_ Tryz.prog 312 [.agg dUno] (.sl 1 16 [[.str ⟨#[110]⟩]]):=by
 refine Aa_ [6] anWH312 Tryz.func312 Tryz.call312 Tryz.ntmps312 mxd (aj2 @anWH312.eq_1 Tryz.results312) rfl (by simp) (by simp[mx]) fun hwf B hnt hgAnn=> ?_
 clear hwf;simp only[argS]
 (refine go1 aj0 aj0 (aj1 @dUno.eq_1) ?_;intros;refine mk_i ?_)
 refine Ad_ (X:=Unit) (fun _=>⟨[(1,.ref dUno),(3,.omp 9 1),(11,.sl 3 48 []),(12,.int .i64 0),(13,.int .i64 0)],[⟨9,1,.map [] []⟩]⟩) (fun _=>0) () (Sub.lit (by simp[dUno])) ?_;rintro⟨⟩
 (refine go1 aj0 aj0 (aj1 @dUno.eq_1) ?_;intros;refine mk_i ?_)
 refine AW_ 6 6 9 1 16 (by simp[hnt]) (fun n6=> ?_);refine Ad_ (X:={k:Nat//k≤1}) (fun k=>⟨[(3,.omp 9 1),(6,.osl 6 1),(29,.sl 1 16 [[.str ⟨#[110]⟩]]),(30,.int .i64 1),(31,.int .i64 (k.1:Int))],[⟨9,1,.map [] []⟩,⟨6,1,.row 9 1 16 (if k.1=0 then []else [[.str ⟨#[110]⟩]])⟩]⟩) (fun k=>1-k.1) ⟨0,by omega⟩ (Sub.lit (by simp)) ?_;rintro⟨k,hk⟩
 match k,hk with
 | 0,_ =>
  (refine go1 aj0 aj0 aj0 ?_;intros;refine mk_i ?_)
  exact Ai_.mk ⟨1,by omega⟩ (Sub.lit (by simp)) (by simp)
  skip
 | 1,_ =>
  exact go0 aj0 aj0 aj0
def tUno : ByteArray:=⟨#[110]⟩++⟨#[32,59,10]⟩
def bldU (k:Nat):List Ent:=if k=0 then [⟨3,1,.row 338 2 32 [[.nilp,.nilsl]]⟩]else [⟨3,1,.row 338 2 32 [[.rx 3 1 2 0 0,.osl 50 1]]⟩,⟨50,1,.row 5 1 1 (AJ_ tUno)⟩]
def Qu_ : Ann:=⟨[17,37,39],[⟨1,[3],[],[]⟩,⟨9,[7],[],[]⟩]⟩
theorem text_uno : Ac_ Tryz.prog 249 [.agg dUno] (.str tUno):=by
 refine Aa_ [] Qu_ Tryz.func249 Tryz.call249 Tryz.ntmps249 mxd (aj2 @Qu_.eq_1 Tryz.results249) rfl (by simp) (by simp[mx]) fun hwf B hnt hgAnn=> ?_
 clear hwf;simp only[argS];have h1:=lone_uno;have e0:(⟨#[]⟩:ByteArray).size≤maxLen:=cY0 _;have m3:3≤maxLen:=by unfold maxLen;omega
 have m1:1≤maxLen:=by unfold maxLen;omega
 have q1:(⟨#[110]⟩:ByteArray).size+3≤maxLen:=by unfold maxLen;decide
 refine Aw_ fun K0 hK0=> ?_
 (first | refine Aw_ fun K hK=> ?_ | (refine DW_r Qu_ mxd (by kernel_rfl) ?_;simp[Qu_,hnt,dUno,e0];try simp (disch:=omega) only[Ah_]) | refine Al_ ?_ | (refine AP_ ?_ ?_ ?_;(· (simp[hnt,dUno,e0];done));(try (rotate_left;(· (intro hc;(try simp[hnt,dUno,e0]at hc);done))))) | (refine Az_ ?_;simp[Tryz.results249,hnt,dUno,e0]) | ((first | refine Ar_ ?_ | refine Aq_ ?_);simp[hnt,dUno,e0]) | (intro hc;(try simp[hnt,dUno,e0]at hc);(try (exfalso;omega))) | (refine⟨?_,?_⟩; · omega) | omega | apply_assumption -exfalso -symm | (exfalso;omega))
 apply hK0
 refine Aw_ fun K1 hK1=> ?_
 refine Jm_ (bs:=32) (k:=2) (z:=[.nilp,.nilsl]) (by simp[hnt,Tryz.ntmps249]) (by simp) (by rfl) rfl (by decide) (fun r hr=> ?_);simp
 apply hK1
 (refine go1 (aj1 h1) aj0 (aj2 @dUno.eq_1 e0) ?_;intros;refine mk_i ?_)
 refine Ad_ (X:={k:Nat//k≤1}) (fun k=>⟨[(1,.ref dUno),(3,.rx 3 1 2 0 0),(9,.sl 1 16 [[.str ⟨#[110]⟩]]),(10,.int .i64 1),(11,.int .i64 (k.1:Int))],bldU k.1⟩) (fun k=>1-k.1) ⟨0,by omega⟩ (Sub.lit (by simp[dUno,bldU])) ?_;rintro⟨k,hk⟩
 match k,hk with
 | 0,_ =>
  have e1:=FI_ (⟨#[110]⟩++⟨#[32,59,10]⟩) (by decide)
  (refine go1 aj0 (aj1 (spc [(3,0)] [(50,1)] e1)) (aj8 @bldU.eq_1 @dUno.eq_1 q1 @size3 @size1 @aS0 m3 m1) ?_;intros;refine mk_i ?_)
  exact Ai_.mk ⟨1,by omega⟩ (Sub.lit (by simp[bldU,dUno,tUno])) (by simp)
  skip
 | 1,_ =>
  (refine go1 aj0 aj0 (aj2 @bldU.eq_1 @dUno.eq_1) ?_;intros;refine mk_i ?_)
  refine Ad_ (X:=Unit) (fun _=>⟨[(3,.rx 3 1 2 0 0),(20,.sl 3 48 []),(21,.int .i64 0),(22,.int .i64 0)],bldU 1⟩) (fun _=>0) () (Sub.lit (by simp[bldU])) ?_;rintro⟨⟩;have e1:=DS_ tUno (by decide);exact go0 aj0 (aj1 (spc [(3,0),(50,1)] [] e1)) (aj1 @bldU.eq_1)
def anWH167 : Ann:=⟨[],[]⟩
theorem caps_uno : Ac_ Tryz.prog 167 [.agg dUno] (.int .i64 0):=by
 refine Aa_ [] anWH167 Tryz.func167 Tryz.call167 Tryz.ntmps167 mxd (aj2 @anWH167.eq_1 Tryz.results167) rfl (by simp) (by simp[mx]) fun hwf B hnt hgAnn=> ?_
 clear hwf;simp only[argS];have h1:=ZX_;have h2:=text_uno;have hs:tUno.size=4:=by decide
 exact go0 (aj2 h1 h2) aj0 (aj2 @dUno.eq_1 hs)
def anWH78 : Ann:=⟨[],[]⟩
theorem check_uno : Ac_ Tryz.prog 78 [.agg dUno] (.int .i64 0):=by
 refine Aa_ [] anWH78 Tryz.func78 Tryz.call78 Tryz.ntmps78 mxd (aj2 @anWH78.eq_1 Tryz.results78) rfl (by simp) (by simp[mx]) fun hwf B hnt hgAnn=> ?_
 clear hwf;simp only[argS];have h1:=form_uno;have h2:=named_uno;have h3:=caps_uno;exact go0 (aj3 h1 h2 h3) aj0 (aj1 @dUno.eq_1)
def anWH87 : Ann:=⟨[],[]⟩
theorem way1_uno : Ac_ Tryz.prog 87 [.ref dUno] (.int .i64 0):=by
 refine Aa_ [] anWH87 Tryz.func87 Tryz.call87 Tryz.ntmps87 mxd (aj2 @anWH87.eq_1 Tryz.results87) rfl (by simp) (by simp[mx]) fun hwf B hnt hgAnn=> ?_
 clear hwf;simp only[argS];have h:=check_uno;exact go0 (aj1 h) aj0 (aj1 @dUno.eq_1)
def anWH83 : Ann:=⟨[],[⟨5,[12],[],[]⟩]⟩
theorem ZZ_ : Ac_ Tryz.prog 83 [.agg dUno,.str ⟨#[110]⟩,.str ⟨#[110]⟩,.sl 3 48 []] (.bool true):=by
 refine Aa_ [] anWH83 Tryz.func83 Tryz.call83 Tryz.ntmps83 mxd (aj2 @anWH83.eq_1 Tryz.results83) rfl (by simp) (by simp[mx]) fun hwf B hnt hgAnn=> ?_
 clear hwf;simp only[argS]
 (refine go1 aj0 aj0 (aj1 @dUno.eq_1) ?_;intros;refine mk_i ?_)
 refine DW_scope ?_
 (refine go1 aj0 aj0 (aj1 @dUno.eq_1) ?_;intros;refine mk_i ?_)
 refine DW_label ?_;simp
 (refine go1 aj0 aj0 (aj1 @dUno.eq_1) ?_;intros;refine mk_i ?_)
 refine Ad_ (X:=Unit) (fun _=>⟨[(2,.str ⟨#[110]⟩),(9,.str ⟨#[110]⟩),(10,.bool true),(14,.sl 3 48 []),(15,.int .i64 0),(16,.int .i64 0)],[]⟩) (fun _=>0) () (Sub.lit (by simp[dUno])) ?_;rintro⟨⟩;exact go0 aj0 aj0 (aj1 @dUno.eq_1)
def anWH90 : Ann:=⟨[],[]⟩
theorem way4_uno : Ac_ Tryz.prog 90 [.ref dUno,.ref [.str ⟨#[110]⟩],.ref [.str ⟨#[110]⟩],.ref [.sl 3 48 []]] (.int .i64 0):=by
 refine Aa_ [] anWH90 Tryz.func90 Tryz.call90 Tryz.ntmps90 mxd (aj2 @anWH90.eq_1 Tryz.results90) rfl (by simp) (by simp[mx]) fun hwf B hnt hgAnn=> ?_
 clear hwf;simp only[argS];have h:=ZZ_;have h2:=BP_ false 370;simp only[aL0,if_false]at h2;exact go0 (aj2 h h2) aj0 (aj1 @dUno.eq_1)
def anWH27 : Ann:=⟨[],[]⟩
theorem way_uno (b:ByteArray) (R:Int) (h2:endsI gUno ⟨#[110]⟩ b=R) (h4:R=0→b=⟨#[110]⟩):Ac_ Tryz.prog 27 [.agg dUno,.str ⟨#[110]⟩,.str b,.sl 3 48 []] (.int .i64 R):=by
 refine Aa_ [] anWH27 Tryz.func27 Tryz.call27 Tryz.ntmps27 mxd (aj2 @anWH27.eq_1 Tryz.results27) rfl (by simp) (by simp[mx]) fun hwf B hnt hgAnn=> ?_
 clear hwf;simp only[argS];have w2:=way2_pure gUno ⟨#[110]⟩ b;rw[h2]at w2;have w3:Ac_ Tryz.prog 89 [.ref [.sl 3 48 []]] (.int .i64 0):=way3_pure [];have h:=Um_ 87 88 89 90 [.ref dUno] [.ref dUno,.ref [.str ⟨#[110]⟩],.ref [.str b]] [.ref [.sl 3 48 []]] [.ref dUno,.ref [.str ⟨#[110]⟩],.ref [.str b],.ref [.sl 3 48 []]] _ _ _ _ way1_uno (fun _=>w2) (fun _ _=>w3) (fun _ hR _=>by rw[h4 hR];exact way4_uno)
 simp only[if_true]at h;have hI:(if R=0 then (0:Int)else R)=R:=by split<;>simp_all
 rw[hI]at h;have hr4:(([0,1,2,3]:List Nat)=List.range 4)=True:=eq_true rfl;exact go0 (aj1 h) aj0 (aj2 @dUno.eq_1 hr4)
def anWH22 : Ann:=⟨[],[⟨1,[1],[],[]⟩]⟩
theorem ac_ : Ac_ Tryz.prog 22 [] (.bool true):=by
 refine Aa_ [] anWH22 Tryz.func22 Tryz.call22 Tryz.ntmps22 mxd (aj2 @anWH22.eq_1 Tryz.results22) rfl (by simp) (by simp[mx]) fun hwf B hnt hgAnn=> ?_
 clear hwf;simp only[argS];have k1:Ac_ Tryz.prog 27 [.agg [.sl 1 16 [[.str ⟨#[110]⟩]],.sl 3 48 []],.str ⟨#[110]⟩,.str ⟨#[109]⟩,.sl 3 48 []] (.int .i64 4):=way_uno _ 4 rfl (fun h=>absurd h (by decide));have k2:Ac_ Tryz.prog 27 [.agg [.sl 1 16 [[.str ⟨#[110]⟩]],.sl 3 48 []],.str ⟨#[110]⟩,.str ⟨#[110]⟩,.sl 3 48 []] (.int .i64 0):=way_uno _ 0 rfl (fun _=>rfl);have h3:=ZD_;have m1:1≤maxLen:=by unfold maxLen;omega
 have s1:(⟨#[110]⟩:ByteArray).size=1:=rfl;have s2:(⟨#[109]⟩:ByteArray).size=1:=rfl;have hr1:(([0]:List Nat)=List.range 1)=True:=eq_true rfl;exact go0 (aj3 k1 k2 h3) aj0 (aj4 m1 s1 s2 hr1)
end Go.Proofs.YtchgnpnbcjflcaaGreat
end
section
namespace Go.Proofs.YtchgnpnbcjflcaaGreat
open Go Go.Dm
attribute [local irreducible] DW Bb_ Bh_
set_option maxRecDepth 100000
theorem UV_ {gt:GT} (h:OkgT gt) {nt:ByteArray} (hn:nt∈Ao_ (mkG gt)) {w:Nat} (hw:w≤64):askE (DC_ gt).1 (numK (Ao_ (mkG gt)) nt) w=0:=by
 obtain⟨x,e1,e2,e3,e4⟩:=Nx_ h (MH_ h);have e5:DC_ gt=(x,0):=e1;rw[e5];have h1:=JX_ hn;unfold askE numK CM_
 have e6:x.prods.any CH_=false:=by
  rw[dC0];intro p hp;have:=e3 p hp;simpa[CH_]using this
 simp only[e2,e6,if_true,Bool.not_false,fJ0];rw[if_pos hn,if_pos (by omega),if_pos hw]
end Go.Proofs.YtchgnpnbcjflcaaGreat
end
section
namespace Go.Proofs.YtchgnpnbcjflcaaGreat
open Go Go.Dm
variable [DMode]
structure Fct where
 nt:Int
 fr:Int
 to:Int
 deriving DecidableEq
inductive Dv (c:Cnf) (w:List Int):Fct→Prop
 | nil {p:Prod} {i:Nat}:p∈c.prods→p.body=[]→i≤w.length→Dv c w ⟨p.head,i,i⟩
 | one {p:Prod} {a:Sym} {i:Nat}:p∈c.prods→p.body=[a]→w[i]? =some a.n→Dv c w ⟨p.head,i,(i:Int)+1⟩
 | two {p:Prod} {a b:Sym} {i k j:Int}:p∈c.prods→p.body=[a,b]→Dv c w ⟨a.n,i,k⟩→Dv c w ⟨b.n,k,j⟩→Dv c w ⟨p.head,i,j⟩
def inF (c:Cnf) (w:List Int) (f:Fct):Prop:=0≤f.fr∧f.fr≤f.to∧f.to≤w.length∧∃p∈c.prods,p.head=f.nt
theorem Dv.inF {c:Cnf} {w:List Int} {f:Fct} (h:Dv c w f):inF c w f:=by
 induction h with
 | @nil p i hp hb hi=>exact⟨by simp only;omega,by simp only;omega,by simp only;omega,p,hp,rfl⟩
 | @one p a i hp hb hi =>
  have:=(aB0.1 hi).1;exact⟨by simp only;omega,by simp only;omega,by simp only;omega,p,hp,rfl⟩
 | @two p a b i k j hp hb h1 h2 ih1 ih2 =>
  obtain⟨a1,a2,a3,_⟩:=ih1;obtain⟨b1,b2,b3,_⟩:=ih2;simp only at a1 a2 a3 b1 b2 b3;exact⟨by simp only;omega,by simp only;omega,by simp only;omega,p,hp,rfl⟩
def addF (r:List Fct) (f:Fct):List Fct:=if f∈r then r else r++[f]
theorem Hk_ {r:List Fct} {f g:Fct}:g∈addF r f↔g∈r∨g=f:=by
 unfold addF
 split
 ·rename_i h;exact⟨.inl,fun hh=>hh.elim id fun e=>e▸h⟩
 ·rw[aI0,aF0]
theorem Zb_ (r:List Fct) (f:Fct):r <+: addF r f:=by
 unfold addF
 split
 ·exact List.prefix_refl r
 ·exact List.prefix_append r _
theorem addF_nd {r:List Fct} (h:r.Nodup) (f:Fct):(addF r f).Nodup:=by
 unfold addF
 split
 ·exact h
 ·rename_i hf;exact bX0.2 ⟨h,by simp,by rintro a ha b hb rfl;simp at hb;subst hb;exact hf ha⟩
structure Grows (T:Fct→Prop) (F:List Fct→List Fct):Prop where
 pre:∀r,r <+: F r
 nd:∀r,r.Nodup→(F r).Nodup
 ok:∀r,(∀f∈r,T f)→∀f∈F r,T f
theorem Grows.id {T:Fct→Prop}:Grows T fun r=>r:=⟨fun r=>List.prefix_refl r,fun _ h=>h,fun _ h=>h⟩
theorem Grows.comp {T:Fct→Prop} {F G:List Fct→List Fct} (hF:Grows T F) (hG:Grows T G):Grows T fun r=>G (F r) :=
 ⟨fun r=>(hF.pre r).trans (hG.pre _),fun r h=>hG.nd _ (hF.nd r h),fun r h=>hG.ok _ (hF.ok r h)⟩
theorem Grows.fold {T:Fct→Prop} {α:Type} {F:List Fct→α→List Fct}:∀{l:List α},(∀x∈l,Grows T fun r=>F r x)→Grows T fun r=>l.foldl F r
 | [],_=>Grows.id
 | x::l,h=>by
  have h1:=h x aG0;have h2:Grows T fun r=>l.foldl F r:=Grows.fold fun y hy=>h y (aD0 _ hy)
  exact Grows.comp h1 h2
theorem Grows.add {T:Fct→Prop} {f:Fct} (h:T f):Grows T fun r=>addF r f :=
 ⟨fun r=>Zb_ r f,fun r hr=>addF_nd hr f,fun r hr g hg=>(Hk_.1 hg).elim (hr g) fun e=>e▸h⟩
theorem Gk_ {T:Fct→Prop} {α:Type} {F:List Fct→α→List Fct} {g f:Fct} {x:α}:∀{l:List α},(∀x∈l,Grows T fun r=>F r x)→x∈l→(∀r,g∈r→f∈F r x)→∀r,g∈r→f∈l.foldl F r
 | y::l,h,hx,hs,r,hg=>by
  have h1:=h y aG0;have h2:Grows T fun r=>l.foldl F r:=Grows.fold fun z hz=>h z (aD0 _ hz)
  rw[cJ0]
  rcases aK0.1 hx with rfl | hx
  ·exact(h2.pre _).subset (hs r hg)
  ·exact Gk_ (fun z hz=>h z (aD0 _ hz)) hx hs _ ((h1.pre r).subset hg)
theorem EI_ {T:Fct→Prop} {α:Type} {F:List Fct→α→List Fct} {f:Fct} {x:α}:∀{l:List α},(∀x∈l,Grows T fun r=>F r x)→x∈l→(∀r,f∈F r x)→∀r,f∈l.foldl F r
 | y::l,h,hx,hs,r=>by
  have h2:Grows T fun r=>l.foldl F r:=Grows.fold fun z hz=>h z (aD0 _ hz)
  rw[cJ0]
  rcases aK0.1 hx with rfl | hx
  ·exact(h2.pre _).subset (hs r)
  ·exact EI_ (fun z hz=>h z (aD0 _ hz)) hx hs _
def begP (w:List Int) (r:List Fct) (p:Prod):List Fct :=
 match p.body with
 | []=>(List.range (w.length+1)).foldl (fun r (i:Nat)=>addF r ⟨p.head,i,i⟩) r
 | [a]=>(List.range w.length).foldl (fun r (i:Nat)=>if w[i]? =some a.n then addF r ⟨p.head,i,(i:Int)+1⟩else r) r
 | _=>r
def begF (c:Cnf) (w:List Int):List Fct:=c.prods.foldl (begP w) []
theorem JE_ {c:Cnf} {w:List Int} {p:Prod} (hp:p∈c.prods):Grows (Dv c w) fun r=>begP w r p:=by
 unfold begP
 split
 ·rename_i hb;exact Grows.fold fun i hi=>Grows.add (Dv.nil hp hb (by have:=cK0.1 hi;omega))
 ·rename_i a hb;refine Grows.fold fun i _=> ?_
  by_cases hc:w[i]? =some a.n
  ·simp only[hc,if_true];exact Grows.add (Dv.one hp hb hc)
  ·simp only[hc,if_false];exact Grows.id
 ·exact Grows.id
def joiA (w:List Int) (p:Prod) (a b:Sym) (f:Fct) (r:List Fct):List Fct :=
 if a.n=f.nt then (List.range (w.length+1-f.to.toNat)).foldl (fun r (k:Nat)=>if (⟨b.n,f.to,f.to+k⟩:Fct)∈r then addF r ⟨p.head,f.fr,f.to+k⟩else r) r else r
def joiB (p:Prod) (a b:Sym) (f:Fct) (r:List Fct):List Fct :=
 if b.n=f.nt then (List.range (f.fr.toNat+1)).foldl (fun r (k:Nat)=>if (⟨a.n,k,f.fr⟩:Fct)∈r then addF r ⟨p.head,k,f.to⟩else r) r else r
def jnP (w:List Int) (f:Fct) (r:List Fct) (p:Prod):List Fct :=
 match p.body with
 | [a,b]=>joiB p a b f (joiA w p a b f r)
 | _=>r
def jnF (c:Cnf) (w:List Int) (f:Fct) (r:List Fct):List Fct:=c.prods.foldl (jnP w f) r
theorem Grows.cond {T:Fct→Prop} {g f:Fct} (h:T g→T f):Grows T fun r=>if g∈r then addF r f else r:=by
 refine⟨fun r=> ?_,fun r hr=> ?_,fun r hr x hx=> ?_⟩
 ·split
  ·exact Zb_ r f
  ·exact List.prefix_refl r
 ·split
  ·exact addF_nd hr f
  ·exact hr
 ·split at hx
  ·rename_i hg;exact(Hk_.1 hx).elim (hr x) fun e=>e▸h (hr g hg)
  ·exact hr x hx
theorem NS_ {c:Cnf} {w:List Int} {p:Prod} {a b:Sym} (hp:p∈c.prods) (hb:p.body=[a,b]) {f:Fct} (hf:Dv c w f):Grows (Dv c w) fun r=>joiA w p a b f r:=by
 unfold joiA
 by_cases h:a.n=f.nt
 ·simp only[h,if_true];refine Grows.fold fun k _=>Grows.cond fun hg=> ?_
  exact Dv.two hp hb (by rw[h];exact hf) hg
 ·simp only[h,if_false];exact Grows.id
theorem NR_ {c:Cnf} {w:List Int} {p:Prod} {a b:Sym} (hp:p∈c.prods) (hb:p.body=[a,b]) {f:Fct} (hf:Dv c w f):Grows (Dv c w) fun r=>joiB p a b f r:=by
 unfold joiB
 by_cases h:b.n=f.nt
 ·simp only[h,if_true];refine Grows.fold fun k _=>Grows.cond fun hg=> ?_
  exact Dv.two hp hb hg (by rw[h];exact hf)
 ·simp only[h,if_false];exact Grows.id
theorem IP_ {c:Cnf} {w:List Int} {p:Prod} (hp:p∈c.prods) {f:Fct} (hf:Dv c w f):Grows (Dv c w) fun r=>jnP w f r p:=by
 unfold jnP
 split
 ·rename_i a b hb;exact Grows.comp (NS_ hp hb hf) (NR_ hp hb hf)
 ·exact Grows.id
theorem LY_ {c:Cnf} {w:List Int} {f:Fct} (hf:Dv c w f):Grows (Dv c w) fun r=>jnF c w f r:=Grows.fold fun _ hp=>IP_ hp hf
theorem IG_ {T:Fct→Prop} {F:List Fct→List Fct} (h:Grows T F) {r:List Fct} {f:Fct} (hf:f∈r):f∈F r:=(h.pre r).subset hf
theorem join_left {c:Cnf} {w:List Int} {p:Prod} {a b:Sym} (hp:p∈c.prods) (hb:p.body=[a,b]) {i k j:Int} (hf:Dv c w ⟨a.n,i,k⟩) (hg:Dv c w ⟨b.n,k,j⟩):∀r,(⟨b.n,k,j⟩:Fct)∈r→(⟨p.head,i,j⟩:Fct)∈jnF c w ⟨a.n,i,k⟩ r:=by
 obtain⟨g1,g2,g3,_⟩:=hg.inF;simp only at g1 g2 g3;refine Gk_ (T:=Dv c w) (x:=p) (fun x hx=>IP_ hx hf) hp fun r hr=> ?_
 unfold jnP;rw[hb];simp only;refine IG_ (NR_ hp hb hf) ?_;unfold joiA;simp only[if_true];have hk:(j-k).toNat∈List.range (w.length+1-k.toNat):=cK0.2 (by omega);refine Gk_ (T:=Dv c w) (g:=⟨b.n,k,j⟩) (x:=(j-k).toNat) (fun m _=>Grows.cond fun hh=>Dv.two hp hb hf hh) hk (fun r hr=> ?_) r hr;have he:k+((j-k).toNat:Int)=j:=by omega
 simp only[he];rw[if_pos hr];exact Hk_.2 (.inr rfl)
theorem aa_ {c:Cnf} {w:List Int} {p:Prod} {a b:Sym} (hp:p∈c.prods) (hb:p.body=[a,b]) {i k j:Int} (hf:Dv c w ⟨a.n,i,k⟩) (hg:Dv c w ⟨b.n,k,j⟩):∀r,(⟨a.n,i,k⟩:Fct)∈r→(⟨p.head,i,j⟩:Fct)∈jnF c w ⟨b.n,k,j⟩ r:=by
 obtain⟨g1,g2,g3,_⟩:=hf.inF;simp only at g1 g2 g3;refine Gk_ (T:=Dv c w) (x:=p) (fun x hx=>IP_ hx hg) hp fun r hr=> ?_
 unfold jnP;rw[hb];simp only;have h1:=IG_ (NS_ hp hb hg) hr;unfold joiB;simp only[if_true];have hk:i.toNat∈List.range (k.toNat+1):=cK0.2 (by omega);refine Gk_ (T:=Dv c w) (g:=⟨a.n,i,k⟩) (x:=i.toNat) (fun m _=>Grows.cond fun hh=>Dv.two hp hb hh hg) hk (fun r hr=> ?_) _ h1;have he:((i.toNat:Nat):Int)=i:=by omega
 simp only[he];rw[if_pos hr];exact Hk_.2 (.inr rfl)
def tabF (c:Cnf) (w:List Int):Nat→Nat→List Fct→List Fct
 | 0,_,r=>r
 | n+1,k,r=>match r[k]? with
  | some f=>tabF c w n (k+1) (jnF c w f r)
  | none=>r
structure RowI (c:Cnf) (w:List Int) (k:Nat) (r:List Fct):Prop where
 nd:r.Nodup
 ok:∀f∈r,Dv c w f
 bg:∀f∈begF c w,f∈r
 jn:∀(p:Prod) (a b:Sym) (i m j:Int) (x y:Nat),p∈c.prods→p.body=[a,b]→x<k→y<k→r[x]? =some ⟨a.n,i,m⟩→r[y]? =some ⟨b.n,m,j⟩→(⟨p.head,i,j⟩:Fct)∈r
theorem pre_at {α:Type} {r q:List α} (h:r <+: q) {x:Nat} (hx:x<r.length):q[x]? =r[x]? :=by
 obtain⟨t,rfl⟩:=h;exact bA0 hx
theorem Vl_ {c:Cnf} {w:List Int} {k:Nat} {r:List Fct} (I:RowI c w k r) {f:Fct} (hf:r[k]? =some f):RowI c w (k+1) (jnF c w f r):=by
 have hfm:=bH0 hf;have hd:=I.ok f hfm;have hG:=LY_ hd;have hk:=(aB0.1 hf).1;refine⟨hG.nd r I.nd,hG.ok r I.ok,fun g hg=>IG_ hG (I.bg g hg),?_⟩;intro p a b i m j x y hp hb hx hy h1 h2;rw[pre_at (hG.pre r) (by omega)]at h1 h2;have d1:=I.ok _ (bH0 h1);have d2:=I.ok _ (bH0 h2)
 by_cases hxk:x=k
 ·subst hxk;rw[hf]at h1;rw[Option.some.inj h1]at hd ⊢;exact join_left hp hb d1 d2 r (bH0 h2)
 ·by_cases hyk:y=k
  ·subst hyk;rw[hf]at h2;rw[Option.some.inj h2]at hd ⊢;exact aa_ hp hb d1 d2 r (bH0 h1)
  ·exact IG_ hG (I.jn p a b i m j x y hp hb (by omega) (by omega) h1 h2)
theorem Ro_ (c:Cnf) (w:List Int):RowI c w 0 (begF c w):=by
 have hG:Grows (Dv c w) fun r=>c.prods.foldl (begP w) r:=Grows.fold fun _ hp=>JE_ hp
 exact⟨hG.nd [] (by simp),hG.ok [] (by simp),fun _ h=>h,fun _ _ _ _ _ _ x _ _ _ hx=>absurd hx (eS0 _)⟩
theorem row_end {c:Cnf} {w:List Int} {r:List Fct} (I:RowI c w r.length r) (f:Fct):f∈r↔Dv c w f:=by
 refine⟨I.ok f,fun h=> ?_⟩;have hG:∀p∈c.prods,Grows (Dv c w) fun r=>begP w r p:=fun _ hp=>JE_ hp
 induction h with
 | @nil p i hp hb hi =>
  refine I.bg _ (EI_ (T:=Dv c w) (x:=p) hG hp (fun r=> ?_) []);unfold begP;rw[hb];exact EI_ (T:=Dv c w) (x:=i) (fun k hk=>Grows.add (Dv.nil hp hb (by have:=cK0.1 hk;omega))) (cK0.2 (by omega)) (fun r=>Hk_.2 (.inr rfl)) r
 | @one p a i hp hb hi =>
  refine I.bg _ (EI_ (T:=Dv c w) (x:=p) hG hp (fun r=> ?_) []);unfold begP;rw[hb];have hil:=(aB0.1 hi).1;refine EI_ (T:=Dv c w) (x:=i) (fun k _=> ?_) (cK0.2 hil) (fun r=> ?_) r
  ·by_cases hc:w[k]? =some a.n
   ·simp only[hc,if_true];exact Grows.add (Dv.one hp hb hc)
   ·simp only[hc,if_false];exact Grows.id
  ·simp only[hi,if_true];exact Hk_.2 (.inr rfl)
 | @two p a b i k j hp hb h1 h2 ih1 ih2 =>
  obtain⟨x,hx,e1⟩:=bK0 ih1;obtain⟨y,hy,e2⟩:=bK0 ih2;exact I.jn p a b i k j x y hp hb hx hy (by rw[aE0 hx,e1]) (by rw[aE0 hy,e2])
end Go.Proofs.YtchgnpnbcjflcaaGreat
end
section
namespace Go.Proofs.YtchgnpnbcjflcaaGreat
open Go Go.Dm
attribute [local irreducible] DW Bb_ Bh_
set_option maxRecDepth 100000
def dFct (f:Fct):List DVal:=[.int .i64 f.nt,.int .i64 f.fr,.int .i64 f.to]
def keyF (f:Fct):DVal:= .agg (dFct f)
@[simp] theorem mx_dFct (f:Fct):mxL (dFct f)=0:=by simp[dFct,mxL,mx]
@[simp] theorem mx_dFcts (l:List Fct):mxR (l.map dFct)=0:=mxR0 _ mx_dFct l
@[simp] theorem mxL_keyF (l:List Fct):mxL (l.map keyF)=0:=by induction l<;>simp_all [mxL,mx,keyF]
theorem keyF_eq (f g:Fct):eqCs (Bt_ (keyF f)) (Bt_ (keyF g))=decide (f=g):=by
 obtain⟨a,b,c⟩:=f;obtain⟨a',b',c'⟩:=g;simp[keyF,dFct,Bt_,eqCs,eqC];rfl
theorem GJ_ : ∀{r:List Fct} {f:Fct},¬f∈r→AO_ (r.map keyF) (keyF f)=none
 | [],_,_=>rfl
 | x::r,f,h=>by
  rw[List.map_cons,AO_,keyF_eq,decide_eq_false (fun e=>h (by rw[e];exact aG0)),GJ_ (r:=r) fun hm=>h (aD0 _ hm)];simp
theorem Jy_ : ∀{r:List Fct} {f:Fct},f∈r→∃i,i<r.length∧AO_ (r.map keyF) (keyF f)=some i
 | x::r,f,h=>by
  rw[List.map_cons,AO_,keyF_eq]
  by_cases he:f=x
  ·rw[decide_eq_true he];exact⟨0,by simp,rfl⟩
  ·obtain⟨i,h1,h2⟩:=Jy_ ((aK0.1 h).resolve_left he);rw[decide_eq_false he,h2];exact⟨i+1,by simp;omega,rfl⟩
theorem Ue_ (r:List Fct):(r.map keyF).all (Cm_ Tryz.prog 140)=true:=by
 induction r with
 | nil=>rfl
 | cons p r ih=>rw[List.map_cons,dH0,ih];simp[keyF,dFct]
def dTb (v:Nat) (c:Cnf) (w:List Int) (r:List Fct):List Ent:=[⟨0,0,.box [.int .i64 c.nts,AS_ c.prods,Bl_ w,.omp 2 0,.osl 1 v]⟩,⟨1,v,.row 140 3 24 (r.map dFct)⟩,⟨2,0,.map (r.map keyF) (upTo r.length)⟩]
def anCW198 : Ann:=⟨[],[]⟩
theorem KL_ (c:Cnf) (w:List Int) (r:List Fct) (f:Fct):AI_ Tryz.prog (.func 98) [.bx 0 0 0,.agg (dFct f)] (dTb 0 c w r) (.bool (decide (f∈r))) (dTb 0 c w r):=by
 refine AH_ [] [(0,0,0),(1,1,0),(2,2,0)] anCW198 Tryz.func98 Tryz.call98 Tryz.ntmps98 mxd (aj2 @anCW198.eq_1 Tryz.results98) rfl (by simp) (by simp) (by simp[dTb]) fun hwf B hnt hgAnn=> ?_
 simp only[argS];have hok:=Ue_ r;have hko:Cm_ Tryz.prog 140 (keyF f)=true:=by simp[keyF,dFct]
 by_cases h:f∈r
 ·obtain⟨i,h1,h2⟩:=Jy_ h;have h3:=OA_ h1;simp only[keyF,dFct]at h2 hok;rw[decide_eq_true h];exact go0 aj0 aj0 (aj5 @dTb.eq_1 @dFct.eq_1 hok h2 h3)
 ·have h2:=GJ_ h;simp only[keyF,dFct]at h2 hok;rw[decide_eq_false h];exact go0 aj0 aj0 (aj4 @dTb.eq_1 @dFct.eq_1 hok h2)
def Yt_ : Ann:=⟨[6,25],[⟨3,[],[0],[]⟩]⟩
set_option maxHeartbeats 2000000 in
theorem Gw_ (c:Cnf) (w:List Int) (r:List Fct) (f:Fct) (hb:(r.length+1)*24≤150000000000000):AI_ Tryz.prog (.func 260) [.bx 0 0 0,.agg (dFct f)] (dTb 0 c w r) (.tup []) (dTb 1 c w (addF r f)):=by
 refine AH_ [] [(0,0,0),(1,1,1),(2,2,0)] Yt_ Tryz.func260 Tryz.call260 Tryz.ntmps260 mxd (aj2 @Yt_.eq_1 Tryz.results260) rfl (by simp) (by simp) (by simp[dTb]) fun hwf B hnt hgAnn=> ?_
 simp only[argS];have e1:=KL_ c w r f;have hok:=Ue_ r;unfold addF
 by_cases h:f∈r
 ·rw[if_pos h];rw[decide_eq_true h]at e1;simp only[dFct]at e1;exact go0 aj0 (aj1 (spc [(0,0),(1,1),(2,2)] [] e1)) (aj2 @dTb.eq_1 @dFct.eq_1)
 ·rw[if_neg h];rw[decide_eq_false h]at e1;have h2:=GJ_ h;have hu:=Lk_ r.length;simp only[keyF,dFct]at h2 hok;simp only[dFct]at e1;have hz:r.length+1≤9223372036854775807:=by omega
  (refine go1 aj0 (aj1 (spc [(0,0),(1,1),(2,2)] [] e1)) (aj6 @dTb.eq_1 @dFct.eq_1 hok h2 hb hz) ?_;intros;refine mk_i ?_)
  exact⟨rfl,hu.symm⟩
end Go.Proofs.YtchgnpnbcjflcaaGreat
end
section
namespace Go.Proofs.YtchgnpnbcjflcaaGreat
open Go Go.Dm
variable [DMode]
def atN (n nt i j:Nat):Nat:=(nt*n+i)*n+j
theorem SS_ {n N nt i j:Nat} (h1:nt<N) (h2:i<n) (h3:j<n):atN n nt i j<N*n*n:=by
 unfold atN
 have e1:nt*n+i+1≤N*n:=by
  have:(nt+1)*n≤N*n:=aO0 n h1;rw[Nat.succ_mul]at this;omega
 have e2:(nt*n+i+1)*n≤N*n*n:=aO0 n e1;rw[Nat.succ_mul]at e2;omega
theorem atN_inj {n nt i j nt' i' j':Nat} (h2:i<n) (h3:j<n) (h2':i'<n) (h3':j'<n) (h:atN n nt i j=atN n nt' i' j'):nt=nt'∧i=i'∧j=j':=by
 have hn:0<n:=by omega
 unfold atN at h;have a1:=congrArg (· %n) h;have a2:=congrArg (· /n) h;simp only[dX0 _ n,Nat.mul_add_mod]at a1;rw[eO0 h3,eO0 h3']at a1;subst a1
 have b:nt*n+i=nt'*n+i':=by
  have:(nt*n+i)*n=(nt'*n+i')*n:=by omega
  exact Nat.eq_of_mul_eq_mul_right hn this
 have c1:=congrArg (· %n) b;simp only[dX0 _ n,Nat.mul_add_mod]at c1;rw[eO0 h2,eO0 h2']at c1;subst c1;have d:nt*n=nt'*n:=by omega
 exact⟨Nat.eq_of_mul_eq_mul_right hn d,rfl,rfl⟩
def tT (K:List Bool) (n nt i j:Nat):Bool:=K.getD (atN n nt i j) false
def Dz_ (w:List Int) (K:List Bool) (body:List Sym) (i j:Nat):Bool :=
 match body with
 | []=>decide (i=j)
 | [a]=>decide (j=i+1)&&decide (w[i]? =some a.n)
 | a::b::_=>(List.range (j+1-i)).any fun d=>tT K (w.length+1) a.n.toNat i (i+d)&&tT K (w.length+1) b.n.toNat (i+d) j
structure SoK (c:Cnf) (w:List Int) (K:List Bool):Prop where
 len:K.length=c.nts.toNat*(w.length+1)*(w.length+1)
 ok:∀nt i j:Nat,nt<c.nts.toNat→i<w.length+1→j<w.length+1→tT K (w.length+1) nt i j=true→Dv c w ⟨nt,i,j⟩
structure OkC (c:Cnf):Prop where
 hd:∀p∈c.prods,0≤p.head∧p.head<c.nts
 sy:∀p∈c.prods,p.body=[]∨(∃a,p.body=[a])∨∃a b,p.body=[a,b]∧0≤a.n∧a.n<c.nts∧0≤b.n∧b.n<c.nts
def clsK (c:Cnf) (w:List Int) (K:List Bool):Prop:=∀p∈c.prods,∀i j:Nat,i≤j→j<w.length+1→Dz_ w K p.body i j=true→tT K (w.length+1) p.head.toNat i j=true
def notK (K:List Bool):Nat:=(K.filter fun b=> !b).length
theorem tT_set {K:List Bool} {n N nt i j nt' i' j':Nat} (hl:K.length=N*n*n) (h1:nt<N) (h2:i<n) (h3:j<n) (h2':i'<n) (h3':j'<n):tT (K.set (atN n nt i j) true) n nt' i' j'=(decide (nt=nt'∧i=i'∧j=j')||tT K n nt' i' j'):=by
 have hlt:atN n nt i j<K.length:=by rw[hl];exact SS_ h1 h2 h3
 unfold tT;rw[aX0,aX0,List.getElem?_set]
 by_cases he:atN n nt i j=atN n nt' i' j'
 ·obtain⟨rfl,rfl,rfl⟩:=atN_inj h2 h3 h2' h3' he;rw[if_pos rfl,if_pos hlt];simp
 ·have hne:¬(nt=nt'∧i=i'∧j=j'):=fun⟨a,b,c⟩=>he (by rw[a,b,c])
  rw[if_neg he,decide_eq_false hne];simp
theorem notK_set {K:List Bool} {x:Nat} (h:K[x]? =some false):notK (K.set x true)+1=notK K:=by
 induction K generalizing x with
 | nil=>simp at h
 | cons b K ih =>
  cases x with
  | zero =>
   simp only[bE0,aA0]at h;subst h;simp[notK]
  | succ x =>
   have:=ih (x:=x) (by simpa using h);unfold notK at this ⊢;cases b<;>simp_all
theorem ap_ {c:Cnf} {w:List Int} {K:List Bool} (hc:OkC c) (hs:SoK c w K) {p:Prod} (hp:p∈c.prods) {i j:Nat} (hij:i≤j) (hj:j<w.length+1) (h:Dz_ w K p.body i j=true):Dv c w ⟨p.head,i,j⟩:=by
 rcases hc.sy p hp with hb | ⟨a,hb⟩ | ⟨a,b,hb,a1,a2,b1,b2⟩
 ·rw[hb]at h;have:i=j:=by simpa[Dz_]using h
  subst this;exact Dv.nil hp hb (by omega)
 ·rw[hb]at h;simp only[Dz_,aM0,decide_eq_true_eq]at h;obtain⟨h1,h2⟩:=h;subst h1;exact Dv.one hp hb h2
 ·rw[hb]at h;simp only[Dz_,bU0,aM0,cK0]at h;obtain⟨d,hd,h1,h2⟩:=h;have g1:=hs.ok a.n.toNat i (i+d) (by omega) (by omega) (by omega) h1;have g2:=hs.ok b.n.toNat (i+d) j (by omega) (by omega) (by omega) h2;rw[show ((a.n.toNat:Nat):Int)=a.n by omega]at g1;rw[show ((b.n.toNat:Nat):Int)=b.n by omega]at g2;exact Dv.two hp hb g1 g2
theorem set_sound {c:Cnf} {w:List Int} {K:List Bool} (hc:OkC c) (hs:SoK c w K) {p:Prod} (hp:p∈c.prods) {i j:Nat} (hij:i≤j) (hj:j<w.length+1) (h:Dz_ w K p.body i j=true):SoK c w (K.set (atN (w.length+1) p.head.toNat i j) true):=by
 have hd:=hc.hd p hp;refine⟨by rw[List.length_set];exact hs.len,?_⟩;intro nt i' j' h1 h2 h3 ht;rw[tT_set hs.len (by omega) (by omega) hj h2 h3]at ht
 rcases dF0 _ _▸ht with ht | ht
 ·obtain⟨rfl,rfl,rfl⟩:=of_decide_eq_true ht;rw[show ((p.head.toNat:Nat):Int)=p.head by omega];exact ap_ hc hs hp hij hj h
 ·exact hs.ok nt i' j' h1 h2 h3 ht
theorem tab_end {c:Cnf} {w:List Int} {K:List Bool} (hc:OkC c) (hs:SoK c w K) (hcl:clsK c w K) {f:Fct} (h:Dv c w f):tT K (w.length+1) f.nt.toNat f.fr.toNat f.to.toNat=true:=by
 induction h with
 | @nil p i hp hb hi =>
  simp only[cB0];exact hcl p hp i i (Nat.le_refl _) (by omega) (by rw[hb];simp[Dz_])
 | @one p a i hp hb hi =>
  have hil:=(aB0.1 hi).1;have e:((i:Int)+1).toNat=i+1:=by omega
  simp only[cB0,e];exact hcl p hp i (i+1) (by omega) (by omega) (by rw[hb];simp[Dz_,hi])
 | @two p a b i k j hp hb h1 h2 ih1 ih2 =>
  obtain⟨q1,q2,q3,_⟩:=h1.inF;obtain⟨r1,r2,r3,_⟩:=h2.inF;simp only at q1 q2 q3 r1 r2 r3 ih1 ih2 ⊢;refine hcl p hp i.toNat j.toNat (by omega) (by omega) ?_;rw[hb];simp only[Dz_,bU0,aM0,cK0];refine⟨(k-i).toNat,by omega,?_⟩;have e:i.toNat+(k-i).toNat=k.toNat:=by omega
  rw[e];exact⟨ih1,ih2⟩
theorem tab_iff {c:Cnf} {w:List Int} {K:List Bool} (hc:OkC c) (hs:SoK c w K) (hcl:clsK c w K) {nt i j:Nat} (h1:nt<c.nts.toNat) (h2:i<w.length+1) (h3:j<w.length+1):tT K (w.length+1) nt i j=true↔Dv c w ⟨nt,i,j⟩ :=
 ⟨hs.ok nt i j h1 h2 h3,fun h=>by have:=tab_end hc hs hcl h;simpa using this⟩
noncomputable def tbK (c:Cnf) (w:List Int):List Bool:=(List.range (c.nts.toNat*(w.length+1)*(w.length+1))).map fun x=> @decide (Dv c w ⟨((x/(w.length+1)/(w.length+1):Nat):Int),((x/(w.length+1)%(w.length+1):Nat):Int),((x%(w.length+1):Nat):Int)⟩) (Classical.propDecidable _)
theorem tab_eq {c:Cnf} {w:List Int} {K:List Bool} (hc:OkC c) (hs:SoK c w K) (hcl:clsK c w K):K=tbK c w:=by
 have hl:=hs.len;have htl:(tbK c w).length=c.nts.toNat*(w.length+1)*(w.length+1):=by unfold tbK;rw[aJ0,dT0]
 refine eU0 fun x=> ?_
 by_cases hx:x<c.nts.toNat*(w.length+1)*(w.length+1)
 ·have h1:x<K.length:=by omega
  have q1:x/(w.length+1)/(w.length+1)<c.nts.toNat:=by
   rw[Nat.div_div_eq_div_mul];exact Nat.div_lt_of_lt_mul (by rw[dX0,←Nat.mul_assoc];exact hx)
  have q2:x/(w.length+1)%(w.length+1)<w.length+1:=Nat.mod_lt _ (by omega);have q3:x%(w.length+1)<w.length+1:=Nat.mod_lt _ (by omega)
  have e:atN (w.length+1) (x/(w.length+1)/(w.length+1)) (x/(w.length+1)%(w.length+1)) (x%(w.length+1))=x:=by
   unfold atN;have a:=Nat.div_add_mod (x/(w.length+1)) (w.length+1);have b:=Nat.div_add_mod x (w.length+1);rw[dX0 (x/(w.length+1)/(w.length+1)) (w.length+1),a,dX0 (x/(w.length+1)) (w.length+1),b]
  have hi:=tab_iff hc hs hcl q1 q2 q3;unfold tT at hi;rw[e,aX0,aE0 h1]at hi;simp only[bY0]at hi;rw[aE0 h1];unfold tbK;rw[bI0,eB0 hx];simp only[dD0]
  congr 1
  rw[fA0,hi];exact(@decide_eq_true_iff _ (Classical.propDecidable _)).symm
 ·rw[dB0 (by omega),dB0 (by omega)]
theorem start_ok (c:Cnf) (w:List Int):SoK c w (List.replicate (c.nts.toNat*(w.length+1)*(w.length+1)) false):=by
 refine⟨by rw[dA0],?_⟩;intro nt i j h1 h2 h3 h;unfold tT at h;rw[aX0,eA0]at h
 split at h<;>simp at h
theorem Qb_ : ∀{N:Nat} {l:List Nat},l.Nodup→(∀x∈l,x<N)→l.length≤N
 | 0,l,_,h=>by
  cases l with
  | nil=>simp
  | cons x l=>exact absurd (h x aG0) (eS0 _)
 | N+1,l,hn,h=>by
  by_cases hm:N∈l
  ·have h1:=Qb_ (N:=N) (hn.erase N) fun x hx=>by
    have h2:=h x (List.mem_of_mem_erase hx)
    have h3:x≠N:=fun e=>by
     subst e;exact(List.Nodup.not_mem_erase hn) hx
    omega
   rw[List.length_erase_of_mem hm]at h1;omega
  ·have h1:=Qb_ (N:=N) hn fun x hx=>by
    have h2:=h x hx;have h3:x≠N:=fun e=>hm (e▸hx)
    omega
   omega
theorem row_len {c:Cnf} {w:List Int} {r:List Fct} (hc:OkC c) (hn:r.Nodup) (hr:∀f∈r,inF c w f):r.length≤c.nts.toNat*(w.length+1)*(w.length+1):=by
 have h0:∀f∈r,0≤f.nt∧f.nt.toNat<c.nts.toNat∧0≤f.fr∧f.fr.toNat<w.length+1∧0≤f.to∧f.to.toNat<w.length+1:=by
  intro f hf;obtain⟨q1,q2,q3,p,hp,q4⟩:=hr f hf;have q5:=hc.hd p hp;omega
 have h1:((r.map fun f=>atN (w.length+1) f.nt.toNat f.fr.toNat f.to.toNat).length)≤c.nts.toNat*(w.length+1)*(w.length+1):=by
  refine Qb_ (dL0.2 (hn.imp_of_mem fun {f g} hf hg hne he=>hne ?_)) fun x hx=> ?_
  ·obtain⟨f,hf,rfl⟩:=aT0.1 hx;obtain⟨a1,a2,a3,a4,a5,a6⟩:=h0 f hf;exact SS_ a2 a4 a6
  ·obtain⟨a1,a2,a3,a4,a5,a6⟩:=h0 f hf;obtain⟨b1,b2,b3,b4,b5,b6⟩:=h0 g hg;obtain⟨e1,e2,e3⟩:=atN_inj a4 a6 b4 b6 he;obtain⟨f1,f2,f3⟩:=f;obtain⟨g1,g2,g3⟩:=g;simp only at a1 a3 a5 b1 b3 b5 e1 e2 e3;rw[Fct.mk.injEq];omega
 rwa[aJ0]at h1
end Go.Proofs.YtchgnpnbcjflcaaGreat
end
section
namespace Go.Proofs.YtchgnpnbcjflcaaGreat
open Go Go.Dm
attribute [local irreducible] DW Bb_ Bh_
set_option maxRecDepth 100000
theorem TD_ {c:Cnf} {w:List Int} {r:List Fct} (hc:OkC c) (h1:c.nts≤1024) (h2:w.length≤64) (hn:r.Nodup) (hr:∀f∈r,Dv c w f):r.length≤4326400:=by
 have h:=row_len hc hn fun f hf=>(hr f hf).inF
 have h3:c.nts.toNat*(w.length+1)≤1024*65:=eH0 (by omega) (by omega);have h4:c.nts.toNat*(w.length+1)*(w.length+1)≤1024*65*65:=eH0 h3 (by omega);omega
structure RowG (c:Cnf) (w:List Int) (r:List Fct):Prop where
 nd:r.Nodup
 ok:∀f∈r,Dv c w f
theorem RowG.grow {c:Cnf} {w:List Int} {r:List Fct} (h:RowG c w r) {F:List Fct→List Fct} (hF:Grows (Dv c w) F):RowG c w (F r):=⟨hF.nd r h.nd,hF.ok r h.ok⟩
theorem RowG.fit {c:Cnf} {w:List Int} {r:List Fct} (h:RowG c w r) (hc:OkC c) (h1:c.nts≤1024) (h2:w.length≤64):(r.length+1)*24≤150000000000000:=by
 have:=TD_ hc h1 h2 h.nd h.ok;omega
def beg0 (h:Int) (i:Nat) (r:List Fct):List Fct:=(List.range i).foldl (fun r (i:Nat)=>addF r ⟨h,i,i⟩) r
def beg1 (w:List Int) (h x:Int) (i:Nat) (r:List Fct):List Fct:=(List.range i).foldl (fun r (i:Nat)=>if w[i]? =some x then addF r ⟨h,i,(i:Int)+1⟩else r) r
theorem beg0_succ (h:Int) (i:Nat) (r:List Fct):beg0 h (i+1) r=addF (beg0 h i r) ⟨h,i,i⟩:=by unfold beg0;rw[dE0,cD0];rfl
theorem beg1_succ (w:List Int) (h x:Int) (i:Nat) (r:List Fct):beg1 w h x (i+1) r=if w[i]? =some x then addF (beg1 w h x i r) ⟨h,i,(i:Int)+1⟩else beg1 w h x i r:=by unfold beg1;rw[dE0,cD0];rfl
theorem aA_ {c:Cnf} {w:List Int} {p:Prod} (hp:p∈c.prods) (hb:p.body=[]) {i:Nat} (hi:i≤w.length+1):Grows (Dv c w) (beg0 p.head i):=by
 unfold beg0;exact Grows.fold fun k hk=>Grows.add (Dv.nil hp hb (by have:=cK0.1 hk;omega))
theorem az_ {c:Cnf} {w:List Int} {p:Prod} {a:Sym} (hp:p∈c.prods) (hb:p.body=[a]) {i:Nat}:Grows (Dv c w) (beg1 w p.head a.n i):=by
 unfold beg1;refine Grows.fold fun k _=> ?_
 by_cases hc:w[k]? =some a.n
 ·simp only[hc,if_true];exact Grows.add (Dv.one hp hb hc)
 ·simp only[hc,if_false];exact Grows.id
def begT (c:Cnf) (w:List Int) (k:Nat):List Fct:=(c.prods.take k).foldl (begP w) []
theorem begT_ok (c:Cnf) (w:List Int) (k:Nat):RowG c w (begT c w k):=by
 have hG:Grows (Dv c w) fun r=>(c.prods.take k).foldl (begP w) r:=Grows.fold fun _ hp=>JE_ (cU0 hp)
 exact⟨hG.nd [] (by simp),hG.ok [] (by simp)⟩
theorem begT_succ {c:Cnf} {w:List Int} {k:Nat} {p:Prod} (h:c.prods[k]? =some p):begT c w (k+1)=begP w (begT c w k) p:=by unfold begT;rw[bF0,h,cD0];rfl
def dTq (q v:Nat) (c:Cnf) (w:List Int) (r:List Fct):List Ent:=[⟨0,0,.box [.int .i64 c.nts,AS_ c.prods,Bl_ w,.omp 2 0,.osl q v]⟩,⟨q,v,.row 140 3 24 (r.map dFct)⟩,⟨2,0,.map (r.map keyF) (upTo r.length)⟩]
def dTn (c:Cnf) (w:List Int):List Ent:=[⟨0,0,.box [.int .i64 c.nts,AS_ c.prods,Bl_ w,.omp 2 0,.nilsl]⟩,⟨2,0,.map [] []⟩]
def Ys_ : Ann:=⟨[37,65],[⟨2,[3],[],[]⟩]⟩
set_option maxHeartbeats 4000000 in
theorem Uu_ (c:Cnf) (w:List Int) (hOC:OkC c) (hP:c.prods.length*32≤150000000000000) (hN:c.nts≤1024) (hw:w.length≤64):AI_ Tryz.prog (.func 177) [.bx 0 0 0] (dTn c w) (.tup []) (dTb 1 c w (begF c w)):=by
 refine AH_ [] [(0,0,0),(50,1,1),(2,2,0)] Ys_ Tryz.func177 Tryz.call177 Tryz.ntmps177 mxd (aj2 @Ys_.eq_1 Tryz.results177) rfl (by simp) (by simp) (by simp[dTb]) fun hwf B hnt hgAnn=> ?_
 simp only[argS]
 (refine go1 aj0 aj0 (aj1 @dTn.eq_1) ?_;intros;refine mk_i ?_)
 refine Bm_ 0 4 50 140 3 24 (by simp) (fun n=> ?_);refine Ad_ (X:={k:Nat//k≤c.prods.length}) (fun k=>⟨[(0,.bx 0 0 0),(11,AS_ c.prods),(12,.int .i64 c.prods.length),(13,.int .i64 k.1)],dTq 50 1 c w (begT c w k.1)⟩) (fun k=>c.prods.length-k.1) ⟨0,by omega⟩ (Sub.lit (by simp[dTb,dTq,begT,upTo])) ?_;rintro⟨k,hk⟩;simp only
 by_cases hlt:k<c.prods.length
 ·obtain⟨p,hp,hp',hpm⟩:=Ak_ hlt;have hs:=begT_succ (w:=w) hp;have hg:=begT_ok c w k;obtain⟨R,hR⟩:∃R,R=begT c w k:=⟨_,rfl⟩;rw[←hR]at hs hg ⊢;have wk:IntKind.i64.wrap ((k:Int)+1)=(k:Int)+1:=wq;obtain⟨hd,body⟩:=p
  match body with
  | [] =>
   have hsR:begP w R ⟨hd,[]⟩=beg0 hd (w.length+1) R:=rfl;rw[hsR]at hs
   (refine go1 aj0 aj0 (aj5 @dTb.eq_1 @dTq.eq_1 @Ae_.eq_1 hlt hp') ?_;intros;refine mk_i ?_)
   refine Ad_ (X:={i:Nat//i≤w.length+1}) (fun i=>⟨[(0,.bx 0 0 0),(3,.ref [.int .i64 hd,AL_ []]),(11,AS_ c.prods),(12,.int .i64 c.prods.length),(13,.int .i64 k),(27,.int .i64 ((w.length:Int)+1)),(28,.int .i64 i.1)],dTq 50 1 c w (beg0 hd i.1 R)⟩) (fun i=>w.length+1-i.1) ⟨0,by omega⟩ (Sub.lit (by simp[dTb,dTq,beg0])) ?_;rintro⟨i,hi⟩;simp only
   by_cases hl2:i<w.length+1
   ·have hgi:=hg.grow (aA_ (i:=i) hpm rfl (by omega));have hbs:=beg0_succ hd i R;simp only at hgi;obtain⟨T,hT⟩:∃T,T=beg0 hd i R:=⟨_,rfl⟩;rw[←hT]at hgi hbs ⊢;have e1:=Gw_ c w T ⟨hd,i,i⟩ (hgi.fit hOC hN hw);rw[←hbs]at e1;obtain⟨U,hU⟩:∃U,U=beg0 hd (i+1) R:=⟨_,rfl⟩;rw[←hU]at e1;simp only[dFct]at e1;have hl3:(i:Int)<(w.length:Int)+1:=by omega
    (refine go1 aj0 (aj1 (spc [(0,0),(50,1),(2,2)] [] e1)) (aj3 @dTb.eq_1 @dTq.eq_1 hl3) ?_;intros;refine mk_i ?_)
    refine Ai_.mk ⟨i+1,by omega⟩ (Sub.lit (by simp[dTb,dTq,←hU])) (by simp;omega)
    skip
   ·have hkk:i=w.length+1:=by omega
    subst hkk;rw[←hs]
    (refine go1 aj0 aj0 (aj1 wk) ?_;intros;refine mk_i ?_)
    refine Ai_.mk ⟨k+1,by omega⟩ (Sub.lit (by simp[dTb,dTq,wk])) (by simp;omega)
    skip
  | [a] =>
   have hsR:begP w R ⟨hd,[a]⟩=beg1 w hd a.n w.length R:=rfl;rw[hsR]at hs
   (refine go1 aj0 aj0 (aj5 @dTb.eq_1 @dTq.eq_1 @Ae_.eq_1 hlt hp') ?_;intros;refine mk_i ?_)
   refine Ad_ (X:={i:Nat//i≤w.length}) (fun i=>⟨[(0,.bx 0 0 0),(3,.ref [.int .i64 hd,AL_ [a]]),(11,AS_ c.prods),(12,.int .i64 c.prods.length),(13,.int .i64 k),(44,Bl_ w),(45,.int .i64 w.length),(46,.int .i64 i.1)],dTq 50 1 c w (beg1 w hd a.n i.1 R)⟩) (fun i=>w.length-i.1) ⟨0,by omega⟩ (Sub.lit (by simp[dTb,dTq,beg1])) ?_;rintro⟨i,hi⟩;simp only
   by_cases hl2:i<w.length
   ·obtain⟨x,hx,hx',_⟩:=Ak_ hl2;have hgi:=hg.grow (az_ (i:=i) hpm rfl);have hbs:=beg1_succ w hd a.n i R;simp only at hgi;rw[hx]at hbs;obtain⟨T,hT⟩:∃T,T=beg1 w hd a.n i R:=⟨_,rfl⟩;rw[←hT]at hgi hbs ⊢;obtain⟨U,hU⟩:∃U,U=beg1 w hd a.n (i+1) R:=⟨_,rfl⟩;rw[←hU]at hbs
    by_cases hxa:x=a.n
    ·have e1:=Gw_ c w T ⟨hd,i,(i:Int)+1⟩ (hgi.fit hOC hN hw);rw[if_pos (by rw[hxa])]at hbs;rw[←hbs]at e1;simp only[dFct]at e1
     (refine go1 aj0 (aj1 (spc [(0,0),(50,1),(2,2)] [] e1)) (aj8 @dTb.eq_1 @dTq.eq_1 @dSym.eq_1 @dNum.eq_1 hl2 hx hx' hxa) ?_;intros;refine mk_i ?_)
     refine Ai_.mk ⟨i+1,by omega⟩ (Sub.lit (by simp[dTb,dTq,←hU])) (by simp;omega)
     skip
    ·rw[if_neg (fun hh=>hxa (Option.some.inj hh))]at hbs;have hxb:(x==a.n)=false:=by simpa using hxa
     (refine go1 aj0 aj0 (aj9 @dTb.eq_1 @dTq.eq_1 @dSym.eq_1 @dNum.eq_1 hl2 hx hx' hxa hxb) ?_;intros;refine mk_i ?_)
     refine Ai_.mk ⟨i+1,by omega⟩ (Sub.lit (by simp[dTb,dTq,←hU,hbs])) (by simp;omega)
     skip
   ·have hkk:i=w.length:=by omega
    subst hkk;rw[←hs]
    (refine go1 aj0 aj0 (aj1 wk) ?_;intros;refine mk_i ?_)
    refine Ai_.mk ⟨k+1,by omega⟩ (Sub.lit (by simp[dTb,dTq,wk])) (by simp;omega)
    skip
  | a::b::l =>
   have hsR:begP w R ⟨hd,a::b::l⟩=R:=rfl;rw[hsR]at hs;have q0:¬(l.length:Int)+1+1=0:=by omega
   have q0b:((l.length:Int)+1+1==0)=false:=by simpa using q0
   have q1:¬(l.length:Int)+1+1=1:=by omega
   have q1b:((l.length:Int)+1+1==1)=false:=by simpa using q1
   (refine go1 aj0 aj0 (aj10 @dTb.eq_1 @dTq.eq_1 @Ae_.eq_1 hlt hp' q0 q0b q1 q1b wk) ?_;intros;refine mk_i ?_)
   refine Ai_.mk ⟨k+1,by omega⟩ (Sub.lit (by simp[dTb,dTq,hs,wk])) (by simp;omega)
   skip
 ·have hkk:k=c.prods.length:=by omega
  subst hkk;have he:begT c w c.prods.length=begF c w:=by unfold begT;rw[aQ0];rfl
  rw[he];exact go0 aj0 aj0 (aj2 @dTb.eq_1 @dTq.eq_1)
def jA (h bn:Int) (f:Fct) (i:Nat) (r:List Fct):List Fct:=(List.range i).foldl (fun r (k:Nat)=>if (⟨bn,f.to,f.to+k⟩:Fct)∈r then addF r ⟨h,f.fr,f.to+k⟩else r) r
def jB (h an:Int) (f:Fct) (i:Nat) (r:List Fct):List Fct:=(List.range i).foldl (fun r (k:Nat)=>if (⟨an,k,f.fr⟩:Fct)∈r then addF r ⟨h,k,f.to⟩else r) r
theorem jA_succ (h bn:Int) (f:Fct) (i:Nat) (r:List Fct):jA h bn f (i+1) r=if (⟨bn,f.to,f.to+i⟩:Fct)∈jA h bn f i r then addF (jA h bn f i r) ⟨h,f.fr,f.to+i⟩else jA h bn f i r:=by unfold jA;rw[dE0,cD0];rfl
theorem jB_succ (h an:Int) (f:Fct) (i:Nat) (r:List Fct):jB h an f (i+1) r=if (⟨an,i,f.fr⟩:Fct)∈jB h an f i r then addF (jB h an f i r) ⟨h,i,f.to⟩else jB h an f i r:=by unfold jB;rw[dE0,cD0];rfl
theorem Wg_ {c:Cnf} {w:List Int} {p:Prod} {a b:Sym} (hp:p∈c.prods) (hb:p.body=[a,b]) {f:Fct} (hf:Dv c w f) (he:a.n=f.nt) {i:Nat}:Grows (Dv c w) (jA p.head b.n f i):=by
 unfold jA;refine Grows.fold fun k _=>Grows.cond fun hg=> ?_
 exact Dv.two hp hb (by rw[he];exact hf) hg
theorem Wf_ {c:Cnf} {w:List Int} {p:Prod} {a b:Sym} (hp:p∈c.prods) (hb:p.body=[a,b]) {f:Fct} (hf:Dv c w f) (he:b.n=f.nt) {i:Nat}:Grows (Dv c w) (jB p.head a.n f i):=by
 unfold jB;refine Grows.fold fun k _=>Grows.cond fun hg=> ?_
 exact Dv.two hp hb hg (by rw[he];exact hf)
def jnT (c:Cnf) (w:List Int) (f:Fct) (R:List Fct) (k:Nat):List Fct:=(c.prods.take k).foldl (jnP w f) R
theorem jnT_ok {c:Cnf} {w:List Int} {f:Fct} (hf:Dv c w f) {R:List Fct} (hg:RowG c w R) (k:Nat):RowG c w (jnT c w f R k):=by
 have hG:Grows (Dv c w) fun r=>(c.prods.take k).foldl (jnP w f) r:=Grows.fold fun _ hp=>IP_ (cU0 hp) hf
 exact hg.grow hG
theorem jnT_succ {c:Cnf} {w:List Int} {f:Fct} {R:List Fct} {k:Nat} {p:Prod} (h:c.prods[k]? =some p):jnT c w f R (k+1)=jnP w f (jnT c w f R k) p:=by unfold jnT;rw[bF0,h,cD0];rfl
def jnS (c:Cnf) (f:Fct) (k:Nat):List (Nat×DVal):=[(0,.bx 0 0 0),(3,.ref (dFct f)),(12,AS_ c.prods),(13,.int .i64 c.prods.length),(14,.int .i64 k)]
def Yr_ : Ann:=⟨[51,59,84,92],[⟨3,[5],[],[]⟩]⟩
set_option maxHeartbeats 4000000 in
theorem an_ (c:Cnf) (w:List Int) (f:Fct) (R0:List Fct) (hOC:OkC c) (hP:c.prods.length*32≤150000000000000) (hN:c.nts≤1024) (hw:w.length≤64) (hf:Dv c w f) (hg0:RowG c w R0):AI_ Tryz.prog (.func 178) [.bx 0 0 0,.agg (dFct f)] (dTb 0 c w R0) (.tup []) (dTb 1 c w (jnF c w f R0)):=by
 refine AH_ [] [(0,0,0),(1,1,1),(2,2,0)] Yr_ Tryz.func178 Tryz.call178 Tryz.ntmps178 mxd (aj2 @Yr_.eq_1 Tryz.results178) rfl (by simp) (by simp) (by simp[dTb]) fun hwf B hnt hgAnn=> ?_
 simp only[argS];clear hwf;obtain⟨f1,f2,f3,_⟩:=hf.inF;obtain⟨fn,ff,ft⟩:=f;obtain⟨u,rfl⟩:=Int.eq_ofNat_of_zero_le (show 0≤ff from f1);obtain⟨v,rfl⟩:=Int.eq_ofNat_of_zero_le (show 0≤ft from Int.le_trans f1 f2);simp only at f1 f2 f3
 (refine go1 aj0 aj0 (aj2 @dTb.eq_1 @dFct.eq_1) ?_;intros;refine mk_i ?_)
 refine Ad_ (X:={k:Nat//k≤c.prods.length}) (fun k=>⟨jnS c ⟨fn,u,v⟩ k.1,dTb 1 c w (jnT c w ⟨fn,u,v⟩ R0 k.1)⟩) (fun k=>c.prods.length-k.1) ⟨0,by omega⟩ (Sub.lit (by simp[dTb,jnS,jnT,dFct])) ?_;rintro⟨k,hk⟩;simp only
 by_cases hlt:k<c.prods.length
 ·obtain⟨p,hp,hp',hpm⟩:=Ak_ hlt;have hs:=jnT_succ (w:=w) (f:=⟨fn,u,v⟩) (R:=R0) hp;have hg:=jnT_ok hf hg0 k;have wk:IntKind.i64.wrap ((k:Int)+1)=(k:Int)+1:=wq;obtain⟨R,hR⟩:∃R,R=jnT c w ⟨fn,u,v⟩ R0 k:=⟨_,rfl⟩;rw[←hR]at hs hg ⊢;obtain⟨hd,body⟩:=p
  match body with
  | [] =>
   have hsR:jnP w ⟨fn,u,v⟩ R ⟨hd,[]⟩=R:=rfl;rw[hsR]at hs
   (refine go1 aj0 aj0 (aj7 @dTb.eq_1 @jnS.eq_1 @dFct.eq_1 @Ae_.eq_1 hlt hp' wk) ?_;intros;refine mk_i ?_)
   refine Ai_.mk ⟨k+1,by omega⟩ (Sub.lit (by simp[dTb,jnS,dFct,hs,wk])) (by simp;omega)
   skip
  | [x] =>
   have hsR:jnP w ⟨fn,u,v⟩ R ⟨hd,[x]⟩=R:=rfl;rw[hsR]at hs
   (refine go1 aj0 aj0 (aj7 @dTb.eq_1 @jnS.eq_1 @dFct.eq_1 @Ae_.eq_1 hlt hp' wk) ?_;intros;refine mk_i ?_)
   refine Ai_.mk ⟨k+1,by omega⟩ (Sub.lit (by simp[dTb,jnS,dFct,hs,wk])) (by simp;omega)
   skip
  | x::y::z::l =>
   have hsR:jnP w ⟨fn,u,v⟩ R ⟨hd,x::y::z::l⟩=R:=rfl;rw[hsR]at hs;have q0:¬(l.length:Int)+1+1+1=2:=by omega
   have q0b:((l.length:Int)+1+1+1 != 2)=true:=by simpa using q0
   (refine go1 aj0 aj0 (aj9 @dTb.eq_1 @jnS.eq_1 @dFct.eq_1 @Ae_.eq_1 hlt hp' q0 q0b wk) ?_;intros;refine mk_i ?_)
   refine Ai_.mk ⟨k+1,by omega⟩ (Sub.lit (by simp[dTb,jnS,dFct,hs,wk])) (by simp;omega)
   skip
  | [a,b] =>
   have hsR:jnP w ⟨fn,u,v⟩ R ⟨hd,[a,b]⟩=joiB ⟨hd,[a,b]⟩ a b ⟨fn,u,v⟩ (joiA w ⟨hd,[a,b]⟩ a b ⟨fn,u,v⟩ R):=rfl;rw[hsR]at hs;clear hsR
   by_cases ha:a.n=fn
   ·have has:joiA w ⟨hd,[a,b]⟩ a b ⟨fn,u,v⟩ R=jA hd b.n ⟨fn,u,v⟩ (w.length+1-v) R:=by unfold joiA;simp only;rw[if_pos ha];rfl
    rw[has]at hs;clear has;have hab:(a.n==fn)=true:=by simpa using ha
    have hv:v≤w.length:=by omega
    (refine go1 aj0 aj0 (aj9 @dTb.eq_1 @jnS.eq_1 @dFct.eq_1 @Ae_.eq_1 @dSym.eq_1 hlt hp' ha hab) ?_;intros;refine mk_i ?_)
    refine Ad_ (X:={i:Nat//i≤w.length+1-v}) (fun i=>⟨(5,.ref [.int .i64 hd,AL_ [a,b]])::(6,.int .i64 ((v:Int)+(i.1:Int)))::jnS c ⟨fn,u,v⟩ k,dTb 1 c w (jA hd b.n ⟨fn,u,v⟩ i.1 R)⟩) (fun i=>w.length+1-v-i.1) ⟨0,by omega⟩ (Sub.lit (by simp[dTb,jnS,dFct,jA])) ?_;rintro⟨i,hi⟩;simp only
    by_cases hl2:i<w.length+1-v
    ·have hgi:=hg.grow (Wg_ (p:=⟨hd,[a,b]⟩) (i:=i) hpm rfl hf ha);have hst:=jA_succ hd b.n ⟨fn,u,v⟩ i R;simp only at hgi hst;obtain⟨T,hT⟩:∃T,T=jA hd b.n ⟨fn,u,v⟩ i R:=⟨_,rfl⟩;rw[←hT]at hgi hst ⊢;obtain⟨U,hU⟩:∃U,U=jA hd b.n ⟨fn,u,v⟩ (i+1) R:=⟨_,rfl⟩;rw[←hU]at hst;have hl3:(v:Int)+(i:Int)≤(w.length:Int):=by omega
     have wi:IntKind.i64.wrap ((v:Int)+(i:Int)+1)=(v:Int)+((i:Int)+1):=by rw[wq];omega
     have e0:=KL_ c w T ⟨b.n,v,(v:Int)+(i:Int)⟩
     by_cases hin:(⟨b.n,(v:Int),(v:Int)+(i:Int)⟩:Fct)∈T
     ·rw[if_pos hin]at hst;rw[decide_eq_true hin]at e0;have e1:=Gw_ c w T ⟨hd,u,(v:Int)+(i:Int)⟩ (hgi.fit hOC hN hw);rw[←hst]at e1;simp only[dFct]at e0 e1
      (refine go1 aj0 (aj2 (spc [(0,0),(1,1),(2,2)] [] e0) (spc [(0,0),(1,1),(2,2)] [] e1)) (aj6 @dTb.eq_1 @jnS.eq_1 @dFct.eq_1 @dSym.eq_1 hl3 wi) ?_;intros;refine mk_i ?_)
      refine Ai_.mk ⟨i+1,by omega⟩ (Sub.lit (by simp[dTb,jnS,dFct,←hU,wi])) (by simp;omega)
      skip
     ·rw[if_neg hin]at hst;rw[decide_eq_false hin]at e0;simp only[dFct]at e0
      (refine go1 aj0 (aj1 (spc [(0,0),(1,1),(2,2)] [] e0)) (aj6 @dTb.eq_1 @jnS.eq_1 @dFct.eq_1 @dSym.eq_1 hl3 wi) ?_;intros;refine mk_i ?_)
      refine Ai_.mk ⟨i+1,by omega⟩ (Sub.lit (by simp[dTb,jnS,dFct,←hU,hst,wi])) (by simp;omega)
      skip
    ·have hkk:i=w.length+1-v:=by omega
     subst hkk;have hg1:=hg.grow (Wg_ (p:=⟨hd,[a,b]⟩) (i:=w.length+1-v) hpm rfl hf ha);simp only at hg1;obtain⟨R1,hR1⟩:∃R1,R1=jA hd b.n ⟨fn,u,v⟩ (w.length+1-v) R:=⟨_,rfl⟩;rw[←hR1]at hg1 hs ⊢;have hle:¬(v:Int)+((w.length+1-v:Nat):Int)≤(w.length:Int):=by omega
     by_cases hb:b.n=fn
     ·have hbs:joiB ⟨hd,[a,b]⟩ a b ⟨fn,u,v⟩ R1=jB hd a.n ⟨fn,u,v⟩ (u+1) R1:=by unfold joiB;simp only;rw[if_pos hb];rfl
      rw[hbs]at hs;clear hbs;have hbb:(b.n==fn)=true:=by simpa using hb
      (refine go1 aj0 aj0 (aj10 @dTb.eq_1 @jnS.eq_1 @dFct.eq_1 @Ae_.eq_1 @dSym.eq_1 hlt hp' hle hb hbb) ?_;intros;refine mk_i ?_)
      refine Ad_ (X:={i:Nat//i≤u+1}) (fun i=>⟨(5,.ref [.int .i64 hd,AL_ [a,b]])::(70,.int .i64 ((u:Int)+1))::(71,.int .i64 i.1)::jnS c ⟨fn,u,v⟩ k,dTb 1 c w (jB hd a.n ⟨fn,u,v⟩ i.1 R1)⟩) (fun i=>u+1-i.1) ⟨0,by omega⟩ (Sub.lit (by simp[dTb,jnS,dFct,jB])) ?_;rintro⟨i,hi⟩;simp only
      by_cases hl2:i<u+1
      ·have hgi:=hg1.grow (Wf_ (p:=⟨hd,[a,b]⟩) (i:=i) hpm rfl hf hb);have hst:=jB_succ hd a.n ⟨fn,u,v⟩ i R1;simp only at hgi hst;obtain⟨T,hT⟩:∃T,T=jB hd a.n ⟨fn,u,v⟩ i R1:=⟨_,rfl⟩;rw[←hT]at hgi hst ⊢;obtain⟨U,hU⟩:∃U,U=jB hd a.n ⟨fn,u,v⟩ (i+1) R1:=⟨_,rfl⟩;rw[←hU]at hst;have hl3:(i:Int)<(u:Int)+1:=by omega
       have e0:=KL_ c w T ⟨a.n,i,u⟩
       by_cases hin:(⟨a.n,(i:Int),(u:Int)⟩:Fct)∈T
       ·rw[if_pos hin]at hst;rw[decide_eq_true hin]at e0;have e1:=Gw_ c w T ⟨hd,i,v⟩ (hgi.fit hOC hN hw);rw[←hst]at e1;simp only[dFct]at e0 e1
        (refine go1 aj0 (aj2 (spc [(0,0),(1,1),(2,2)] [] e0) (spc [(0,0),(1,1),(2,2)] [] e1)) (aj5 @dTb.eq_1 @jnS.eq_1 @dFct.eq_1 @dSym.eq_1 hl3) ?_;intros;refine mk_i ?_)
        refine Ai_.mk ⟨i+1,by omega⟩ (Sub.lit (by simp[dTb,jnS,dFct,←hU])) (by simp;omega)
        skip
       ·rw[if_neg hin]at hst;rw[decide_eq_false hin]at e0;simp only[dFct]at e0
        (refine go1 aj0 (aj1 (spc [(0,0),(1,1),(2,2)] [] e0)) (aj5 @dTb.eq_1 @jnS.eq_1 @dFct.eq_1 @dSym.eq_1 hl3) ?_;intros;refine mk_i ?_)
        refine Ai_.mk ⟨i+1,by omega⟩ (Sub.lit (by simp[dTb,jnS,dFct,←hU,hst])) (by simp;omega)
        skip
      ·have hkk:i=u+1:=by omega
       subst hkk;rw[←hs]
       (refine go1 aj0 aj0 (aj3 @jnS.eq_1 @dFct.eq_1 wk) ?_;intros;refine mk_i ?_)
       refine Ai_.mk ⟨k+1,by omega⟩ (Sub.lit (by simp[dTb,jnS,dFct,wk])) (by simp;omega)
       skip
     ·have hbs:joiB ⟨hd,[a,b]⟩ a b ⟨fn,u,v⟩ R1=R1:=by unfold joiB;rw[if_neg hb]
      rw[hbs]at hs;clear hbs;have hbb:(b.n==fn)=false:=by simpa using hb
      (refine go1 aj0 aj0 (aj11 @dTb.eq_1 @jnS.eq_1 @dFct.eq_1 @Ae_.eq_1 @dSym.eq_1 hlt hp' hle hb hbb wk) ?_;intros;refine mk_i ?_)
      refine Ai_.mk ⟨k+1,by omega⟩ (Sub.lit (by simp[dTb,jnS,dFct,hs,wk])) (by simp;omega)
      skip
   ·have has:joiA w ⟨hd,[a,b]⟩ a b ⟨fn,u,v⟩ R=R:=by unfold joiA;rw[if_neg ha]
    rw[has]at hs;clear has;have hab:(a.n==fn)=false:=by simpa using ha
    have hg1:=hg;obtain⟨R1,hR1⟩:∃R1,R1=R:=⟨_,rfl⟩;rw[←hR1]at hg1 hs ⊢
    by_cases hb:b.n=fn
    ·have hbs:joiB ⟨hd,[a,b]⟩ a b ⟨fn,u,v⟩ R1=jB hd a.n ⟨fn,u,v⟩ (u+1) R1:=by unfold joiB;simp only;rw[if_pos hb];rfl
     rw[hbs]at hs;clear hbs;have hbb:(b.n==fn)=true:=by simpa using hb
     (refine go1 aj0 aj0 (aj11 @dTb.eq_1 @jnS.eq_1 @dFct.eq_1 @Ae_.eq_1 @dSym.eq_1 hlt hp' ha hab hb hbb) ?_;intros;refine mk_i ?_)
     refine Ad_ (X:={i:Nat//i≤u+1}) (fun i=>⟨(5,.ref [.int .i64 hd,AL_ [a,b]])::(70,.int .i64 ((u:Int)+1))::(71,.int .i64 i.1)::jnS c ⟨fn,u,v⟩ k,dTb 1 c w (jB hd a.n ⟨fn,u,v⟩ i.1 R1)⟩) (fun i=>u+1-i.1) ⟨0,by omega⟩ (Sub.lit (by simp[dTb,jnS,dFct,jB])) ?_;rintro⟨i,hi⟩;simp only
     by_cases hl2:i<u+1
     ·have hgi:=hg1.grow (Wf_ (p:=⟨hd,[a,b]⟩) (i:=i) hpm rfl hf hb);have hst:=jB_succ hd a.n ⟨fn,u,v⟩ i R1;simp only at hgi hst;obtain⟨T,hT⟩:∃T,T=jB hd a.n ⟨fn,u,v⟩ i R1:=⟨_,rfl⟩;rw[←hT]at hgi hst ⊢;obtain⟨U,hU⟩:∃U,U=jB hd a.n ⟨fn,u,v⟩ (i+1) R1:=⟨_,rfl⟩;rw[←hU]at hst;have hl3:(i:Int)<(u:Int)+1:=by omega
      have e0:=KL_ c w T ⟨a.n,i,u⟩
      by_cases hin:(⟨a.n,(i:Int),(u:Int)⟩:Fct)∈T
      ·rw[if_pos hin]at hst;rw[decide_eq_true hin]at e0;have e1:=Gw_ c w T ⟨hd,i,v⟩ (hgi.fit hOC hN hw);rw[←hst]at e1;simp only[dFct]at e0 e1
       (refine go1 aj0 (aj2 (spc [(0,0),(1,1),(2,2)] [] e0) (spc [(0,0),(1,1),(2,2)] [] e1)) (aj5 @dTb.eq_1 @jnS.eq_1 @dFct.eq_1 @dSym.eq_1 hl3) ?_;intros;refine mk_i ?_)
       refine Ai_.mk ⟨i+1,by omega⟩ (Sub.lit (by simp[dTb,jnS,dFct,←hU])) (by simp;omega)
       skip
      ·rw[if_neg hin]at hst;rw[decide_eq_false hin]at e0;simp only[dFct]at e0
       (refine go1 aj0 (aj1 (spc [(0,0),(1,1),(2,2)] [] e0)) (aj5 @dTb.eq_1 @jnS.eq_1 @dFct.eq_1 @dSym.eq_1 hl3) ?_;intros;refine mk_i ?_)
       refine Ai_.mk ⟨i+1,by omega⟩ (Sub.lit (by simp[dTb,jnS,dFct,←hU,hst])) (by simp;omega)
       skip
     ·have hkk:i=u+1:=by omega
      subst hkk;rw[←hs]
      (refine go1 aj0 aj0 (aj3 @jnS.eq_1 @dFct.eq_1 wk) ?_;intros;refine mk_i ?_)
      refine Ai_.mk ⟨k+1,by omega⟩ (Sub.lit (by simp[dTb,jnS,dFct,wk])) (by simp;omega)
      skip
    ·have hbs:joiB ⟨hd,[a,b]⟩ a b ⟨fn,u,v⟩ R1=R1:=by unfold joiB;rw[if_neg hb]
     rw[hbs]at hs;clear hbs;have hbb:(b.n==fn)=false:=by simpa using hb
     (refine go1 aj0 aj0 (aj12 @dTb.eq_1 @jnS.eq_1 @dFct.eq_1 @Ae_.eq_1 @dSym.eq_1 hlt hp' ha hab hb hbb wk) ?_;intros;refine mk_i ?_)
     refine Ai_.mk ⟨k+1,by omega⟩ (Sub.lit (by simp[dTb,jnS,dFct,hs,wk])) (by simp;omega)
     skip
 ·have hkk:k=c.prods.length:=by omega
  subst hkk;have he:jnT c w ⟨fn,u,v⟩ R0 c.prods.length=jnF c w ⟨fn,u,v⟩ R0:=by unfold jnT;rw[aQ0];rfl
  rw[he];exact go0 aj0 aj0 (aj2 @dTb.eq_1 @jnS.eq_1)
def dTbl (c:Cnf) (w:List Int) (r:List Fct):DVal:= .ref [.int .i64 c.nts,AS_ c.prods,Bl_ w,.mp (r.map keyF) (upTo r.length),.sl 3 24 (r.map dFct)]
def anCW498 : Ann:=⟨[],[]⟩
theorem hasD_pure (c:Cnf) (w:List Int) (r:List Fct) (f:Fct):Ac_ Tryz.prog 98 [dTbl c w r,.agg (dFct f)] (.bool (decide (f∈r))):=by
 refine Aa_ [] anCW498 Tryz.func98 Tryz.call98 Tryz.ntmps98 mxd (aj2 @anCW498.eq_1 Tryz.results98) rfl (by simp) (by simp[mx]) fun hwf B hnt hgAnn=> ?_
 clear hwf;simp only[argS];have hok:=Ue_ r
 by_cases h:f∈r
 ·obtain⟨i,h1,h2⟩:=Jy_ h;have h3:=OA_ h1;simp only[keyF,dFct]at h2 hok;rw[decide_eq_true h];exact go0 aj0 aj0 (aj5 @dTbl.eq_1 @dFct.eq_1 hok h2 h3)
 ·have h2:=GJ_ h;simp only[keyF,dFct]at h2 hok;rw[decide_eq_false h];exact go0 aj0 aj0 (aj4 @dTbl.eq_1 @dFct.eq_1 hok h2)
theorem tabF_at {c:Cnf} {w:List Int} {n k:Nat} {r:List Fct} {f:Fct} (h:r[k]? =some f):tabF c w (n+1) k r=tabF c w n (k+1) (jnF c w f r):=by rw[tabF,h]
theorem Vc_ {c:Cnf} {w:List Int} {n k:Nat} {r:List Fct} (h:r.length≤k):tabF c w n k r=r:=by
 cases n with
 | zero=>rfl
 | succ n=>rw[tabF,dB0 h]
def allF (c:Cnf) (w:List Int):List Fct:=tabF c w 4326401 0 (begF c w)
theorem tabF_ok {c:Cnf} {w:List Int} (hOC:OkC c) (hN:c.nts≤1024) (hw:w.length≤64):∀(n k:Nat) (r:List Fct),RowI c w k r→k≤r.length→4326401≤n+k→RowI c w (tabF c w n k r).length (tabF c w n k r)
 | 0,k,r,I,hk,hn=>by
  have:=TD_ hOC hN hw I.nd I.ok;omega
 | n+1,k,r,I,hk,hn=>by
  cases hr:r[k]? with
  | some f =>
   rw[tabF_at hr];have hl:=(aB0.1 hr).1;have hp:=((LY_ (I.ok f (bH0 hr))).pre r).length_le;exact tabF_ok hOC hN hw n (k+1) _ (Vl_ I hr) (by omega) (by omega)
  | none =>
   have hl:=List.getElem?_eq_none_iff.1 hr;have:k=r.length:=by omega
   subst this;rw[Vc_ (Nat.le_refl _)];exact I
theorem allF_iff {c:Cnf} {w:List Int} (hOC:OkC c) (hN:c.nts≤1024) (hw:w.length≤64) (f:Fct):f∈allF c w↔Dv c w f :=
 row_end (tabF_ok hOC hN hw 4326401 0 _ (Ro_ c w) (cY0 _) (by omega)) f
theorem RowI.g {c:Cnf} {w:List Int} {k:Nat} {r:List Fct} (I:RowI c w k r):RowG c w r:=⟨I.nd,I.ok⟩
def dTw (c:Cnf) (w:List Int) (r:List Fct):List Ent:=[⟨11,1,.box [.int .i64 c.nts,AS_ c.prods,Bl_ w,.omp 9 1,.osl 50 1]⟩,⟨50,1,.row 140 3 24 (r.map dFct)⟩,⟨9,1,.map (r.map keyF) (upTo r.length)⟩]
def anCW497 : Ann:=⟨[9,11,13,31],[]⟩
set_option maxHeartbeats 4000000 in
theorem Ts_ (c:Cnf) (w:List Int) (hOC:OkC c) (hP:c.prods.length*32≤150000000000000) (hN:c.nts≤1024) (hw:w.length≤64):Ac_ Tryz.prog 97 [.agg (dCnf c),Bl_ w] (dTbl c w (allF c w)):=by
 refine Aa_ [50,9,11] anCW497 Tryz.func97 Tryz.call97 Tryz.ntmps97 mxd (aj2 @anCW497.eq_1 Tryz.results97) rfl (by simp) (by simp[mx,dTbl]) fun hwf B hnt hgAnn=> ?_
 clear hwf;simp only[argS];have e1:=Uu_ c w hOC hP hN hw;simp only[dTn]at e1
 (refine go1 aj0 (aj1 (spc [(11,0),(9,2)] [(50,1)] e1)) (aj2 @dCnf.eq_1 @dTb.eq_1) ?_;intros;refine mk_i ?_)
 have hst:RowI c w 0 (begF c w):=Ro_ c w;refine Ad_ (X:={x:Nat×List Fct//RowI c w x.1 x.2∧x.1≤x.2.length∧tabF c w (4326401-x.1) x.1 x.2=allF c w}) (fun x=>⟨[(5,.bx 11 1 0),(6,.int .i64 x.1.1)],dTw c w x.1.2⟩) (fun x=>4326401-x.1.1) ⟨(0,begF c w),hst,cY0 _,rfl⟩ (Sub.lit (by simp[dTw])) ?_;rintro⟨⟨k,r⟩,I,hk,hA⟩;simp only at I hk hA ⊢;have hfit:=TD_ hOC hN hw I.nd I.ok
 by_cases hlt:k<r.length
 ·obtain⟨f,hf,hf',hfm⟩:=Ak_ hlt;have hd:=I.ok f hfm;have e2:=an_ c w f r hOC hP hN hw hd I.g;rw[show 4326401-k=(4326400-k)+1 by omega,tabF_at hf]at hA;have hI2:=Vl_ I hf;have hp:=((LY_ hd).pre r).length_le;have wk:IntKind.i64.wrap ((k:Int)+1)=(k:Int)+1:=wq;obtain⟨U,hU⟩:∃U,U=jnF c w f r:=⟨_,rfl⟩;rw[←hU]at e2 hA hI2 hp;simp only[dTb,dFct]at e2
  (refine go1 aj0 (aj1 (spc [(11,0),(50,1),(9,2)] [] e2)) (aj7 @dTw.eq_1 @dTb.eq_1 @dFct.eq_1 hlt hf hf' wk) ?_;intros;refine mk_i ?_)
  refine Ai_.mk ⟨(k+1,U),hI2,by simp only;omega,by rw[show 4326401-(k+1)=4326400-k by omega];exact hA⟩ (Sub.lit (by simp[dTw,wk])) (by simp;omega)
  skip
 ·have hkk:k=r.length:=by omega
  rw[Vc_ (by omega)]at hA;subst hA;subst hkk;exact go0 aj0 aj0 (aj2 @dTw.eq_1 @dTbl.eq_1)
end Go.Proofs.YtchgnpnbcjflcaaGreat
end
section
namespace Go.Proofs.YtchgnpnbcjflcaaGreat
open Go Go.Dm
variable [DMode]
def PassC (c:Cnf) (w:List Int) (K:List Bool) (p i j:Nat):Prop:=∀(p' i' j':Nat) (q:Prod),(p'<p∨p'=p∧(i'<i∨i'=i∧j'<j))→c.prods[p']? =some q→i'≤j'→j'<w.length+1→Dz_ w K q.body i' j'=true→tT K (w.length+1) q.head.toNat i' j'=true
structure PassI (c:Cnf) (w:List Int) (K0 K:List Bool) (m:Bool) (p i j:Nat):Prop where
 so:SoK c w K
 le:notK K≤notK K0
 lt:m=true→notK K<notK K0
 eq:m=false→K=K0∧PassC c w K0 p i j
theorem ZN_ {c:Cnf} {w:List Int} {K:List Bool} (h:SoK c w K):PassI c w K K false 0 0 0 :=
 ⟨h,Nat.le_refl _,by simp,fun _=>⟨rfl,fun p' i' j' q hq=>by omega⟩⟩
theorem pass_keep {c:Cnf} {w:List Int} {K0 K:List Bool} {m:Bool} {p i j:Nat} (I:PassI c w K0 K m p i j) {q:Prod} (hq:c.prods[p]? =some q) (h:tT K (w.length+1) q.head.toNat i j=true∨Dz_ w K q.body i j=false):PassI c w K0 K m p i (j+1):=by
 refine⟨I.so,I.le,I.lt,fun hm=> ?_⟩;obtain⟨rfl,hc⟩:=I.eq hm;refine⟨rfl,fun p' i' j' q' hq' hp hij hj hco=> ?_⟩
 by_cases h1:p'<p∨p'=p∧(i'<i∨i'=i∧j'<j)
 ·exact hc p' i' j' q' h1 hp hij hj hco
 ·obtain⟨rfl,rfl,rfl⟩:p'=p∧i'=i∧j'=j:=by omega
  rw[hq]at hp;obtain rfl:=Option.some.inj hp
  rcases h with h | h
  ·exact h
  ·rw[h]at hco;simp at hco
theorem pass_set {c:Cnf} {w:List Int} {K0 K:List Bool} {m:Bool} {p i j:Nat} (hc:OkC c) (I:PassI c w K0 K m p i j) {q:Prod} (hq:c.prods[p]? =some q) (hij:i≤j) (hj:j<w.length+1) (h1:tT K (w.length+1) q.head.toNat i j=false) (h2:Dz_ w K q.body i j=true):PassI c w K0 (K.set (atN (w.length+1) q.head.toNat i j) true) true p i (j+1):=by
 have hqm:=bH0 hq;have hd:=hc.hd q hqm;have hlt:atN (w.length+1) q.head.toNat i j<K.length:=by rw[I.so.len];exact SS_ (by omega) (by omega) hj
 have hf:K[atN (w.length+1) q.head.toNat i j]? =some false:=by
  unfold tT at h1;rw[aX0,aE0 hlt]at h1;rw[aE0 hlt];simpa using h1
 have hn:=notK_set hf;have hle:=I.le;exact⟨set_sound hc I.so hqm hij hj h2,by omega,fun _=>by omega,by simp⟩
theorem pass_row {c:Cnf} {w:List Int} {K0 K:List Bool} {m:Bool} {p i:Nat} (I:PassI c w K0 K m p i (w.length+1)):PassI c w K0 K m p (i+1) (i+1):=by
 refine⟨I.so,I.le,I.lt,fun hm=>⟨(I.eq hm).1,fun p' i' j' q' hq' hp hij hj hco=>(I.eq hm).2 p' i' j' q' ?_ hp hij hj hco⟩⟩;omega
theorem pass_prod {c:Cnf} {w:List Int} {K0 K:List Bool} {m:Bool} {p j:Nat} (I:PassI c w K0 K m p (w.length+1) j):PassI c w K0 K m (p+1) 0 0:=by
 refine⟨I.so,I.le,I.lt,fun hm=>⟨(I.eq hm).1,fun p' i' j' q' hq' hp hij hj hco=>(I.eq hm).2 p' i' j' q' ?_ hp hij hj hco⟩⟩;omega
theorem pass_end {c:Cnf} {w:List Int} {K0 K:List Bool} {i j:Nat} (I:PassI c w K0 K false c.prods.length i j):clsK c w K:=by
 obtain⟨rfl,h⟩:=I.eq rfl;intro q hq i' j' hij hj hco;obtain⟨p,hp,rfl⟩:=bK0 hq;exact h p i' j' _ (.inl hp) (aE0 hp) hij hj hco
end Go.Proofs.YtchgnpnbcjflcaaGreat
end
section
namespace Go.Proofs.YtchgnpnbcjflcaaGreat
open Go Go.Dm
attribute [local irreducible] DW Bb_ Bh_
set_option maxRecDepth 100000
def Yq_ : Ann:=⟨[],[]⟩
theorem Qr_ (n nt i j:Nat) (hn:n≤65) (h1:nt≤1024) (h2:i≤65) (h3:j≤65):Ac_ Tryz.prog 225 [.int .i64 (nt:Int),.int .i64 (i:Int),.int .i64 (j:Int),.int .i64 (n:Int)] (.int .i64 (atN n nt i j:Int)):=by
 refine Aa_ [] Yq_ Tryz.func225 Tryz.call225 Tryz.ntmps225 mxd (aj2 @Yq_.eq_1 Tryz.results225) rfl (by simp) (by simp[mx]) fun hwf B hnt hgAnn=> ?_
 clear hwf;simp only[argS];have b1:nt*n≤1024*65:=eH0 h1 hn;have b2:(nt*n+i)*n≤(1024*65+65)*65:=eH0 (by omega) hn;unfold atN;obtain⟨a1,e1⟩:∃a1,a1=nt*n:=⟨_,rfl⟩;rw[←e1]at b1 b2 ⊢;obtain⟨a2,e2⟩:∃a2,a2=(a1+i)*n:=⟨_,rfl⟩;rw[←e2]at b2 ⊢;have w1:IntKind.i64.wrap ((nt:Int)*(n:Int))=(a1:Int):=by rw[e1,←Int.natCast_mul];exact wq
 have w2:IntKind.i64.wrap ((a1:Int)+(i:Int))=((a1+i:Nat):Int):=by rw[wq];omega
 have w3:IntKind.i64.wrap (((a1+i:Nat):Int)*(n:Int))=(a2:Int):=by rw[←Int.natCast_mul,←e2];exact wq
 have w4:IntKind.i64.wrap ((a2:Int)+(j:Int))=((a2+j:Nat):Int):=by rw[wq];omega
 obtain⟨a3,e3⟩:∃a3,a3=a1+i:=⟨_,rfl⟩;rw[←e3]at w2 w3;obtain⟨a4,e4⟩:∃a4,a4=a2+j:=⟨_,rfl⟩;rw[←e4]at w4 ⊢;exact go0 aj0 aj0 (aj4 w1 w2 w3 w4)
def rowK (K:List Bool):Ent:=⟨0,0,.row 4 1 1 (K.map dBl)⟩
theorem tT_at {K:List Bool} {n N nt i j:Nat} (hl:K.length=N*n*n) (h1:nt<N) (h2:i<n) (h3:j<n):∃h:atN n nt i j<K.length,K[atN n nt i j]'h=tT K n nt i j:=by
 have h:atN n nt i j<K.length:=by rw[hl];exact SS_ h1 h2 h3
 refine⟨h,?_⟩;unfold tT;rw[aX0,aE0 h];rfl
def SG_ (w:List Int) (K:List Bool) (a b:Sym) (i j d:Nat):Bool:=(List.range d).any fun d=>tT K (w.length+1) a.n.toNat i (i+d)&&tT K (w.length+1) b.n.toNat (i+d) j
theorem aq_ (w:List Int) (K:List Bool) (a b:Sym) (i j d:Nat):SG_ w K a b i j (d+1)=(SG_ w K a b i j d||(tT K (w.length+1) a.n.toNat i (i+d)&&tT K (w.length+1) b.n.toNat (i+d) j)):=by unfold SG_;rw[dE0,dU0];simp
theorem come2_hit {w:List Int} {K:List Bool} {a b:Sym} {i j d:Nat} (hd:i+d≤j) (h1:tT K (w.length+1) a.n.toNat i (i+d)=true) (h2:tT K (w.length+1) b.n.toNat (i+d) j=true):SG_ w K a b i j (j+1-i)=true:=by
 unfold SG_;rw[bU0];exact⟨d,cK0.2 (by omega),by rw[h1,h2];rfl⟩
def Yp_ : Ann:=⟨[],[]⟩
set_option maxHeartbeats 4000000 in
theorem come_spec (w:List Int) (Q:List Bool) (N:Nat) (body:List Sym) (i j:Nat) (hw:w.length≤64) (hN:N≤1024) (hl:Q.length=N*(w.length+1)*(w.length+1)) (hij:i≤j) (hj:j<w.length+1) (hb:body=[]∨(∃a,body=[a])∨∃a b,body=[a,b]∧0≤a.n∧a.n<(N:Int)∧0≤b.n∧b.n<(N:Int)):AI_ Tryz.prog (.func 302) [AL_ body,Bl_ w,.osl 0 0,.int .i64 (i:Int),.int .i64 (j:Int)] [rowK Q] (.bool (Dz_ w Q body i j)) [rowK Q]:=by
 refine AH_ [] [(0,0,0)] Yp_ Tryz.func302 Tryz.call302 Tryz.ntmps302 mxd (aj2 @Yp_.eq_1 Tryz.results302) rfl (by simp) (by simp) (by simp[rowK]) fun hwf B hnt hgAnn=> ?_
 simp only[argS];clear hwf;have wn:IntKind.i64.wrap ((w.length:Int)+1)=(w.length:Int)+1:=wq
 rcases hb with rfl | ⟨a,rfl⟩ | ⟨a,b,rfl,a1,a2,b1,b2⟩
 ·by_cases h:i=j
  ·have e:Dz_ w Q [] i j=true:=by simp[Dz_,h]
   rw[e];exact go0 aj0 aj0 (aj3 @rowK.eq_1 wn h)
  ·have e:Dz_ w Q [] i j=false:=by simp[Dz_,h]
   rw[e];have hb:((i:Int)==(j:Int))=false:=by simpa using (by omega:¬(i:Int)=(j:Int))
   exact go0 aj0 aj0 (aj3 @rowK.eq_1 wn hb)
 ·have wi:IntKind.i64.wrap ((i:Int)+1)=(i:Int)+1:=wq
  by_cases h:j=i+1
  ·obtain⟨x,hx,hx',_⟩:=Ak_ (l:=w) (k:=i) (by omega);have hlt:i<w.length:=by omega
   have hji:((j:Int)==(i:Int)+1)=true:=by simpa using (by omega:(j:Int)=(i:Int)+1)
   by_cases hxa:x=a.n
   ·have e:Dz_ w Q [a] i j=true:=by simp[Dz_,h,hx,hxa]
    rw[e];exact go0 aj0 aj0 (aj10 @rowK.eq_1 wn wi hji hlt hx hx' hxa @dNum.eq_1 @dSym.eq_1)
   ·have e:Dz_ w Q [a] i j=false:=by simp[Dz_,h,hx,hxa]
    rw[e];have hxb:(x==a.n)=false:=by simpa using hxa
    exact go0 aj0 aj0 (aj11 @rowK.eq_1 wn wi hji hlt hx hx' hxa hxb @dNum.eq_1 @dSym.eq_1)
  ·have e:Dz_ w Q [a] i j=false:=by simp[Dz_,h]
   rw[e];have hji:((j:Int)==(i:Int)+1)=false:=by simpa using (by omega:¬(j:Int)=(i:Int)+1)
   cases hq:w[i]? <;>exact go0 aj0 aj0 (aj7 @rowK.eq_1 wn wi hji hq @dNum.eq_1 @dSym.eq_1)
 ·obtain⟨an,hA⟩:∃an:Nat,a.n=(an:Int):=⟨a.n.toNat,by omega⟩;obtain⟨bn,hB⟩:∃bn:Nat,b.n=(bn:Int):=⟨b.n.toNat,by omega⟩;have hR:Dz_ w Q [a,b] i j=SG_ w Q a b i j (j+1-i):=rfl;rw[hR];obtain⟨R,hR⟩:∃R,R=SG_ w Q a b i j (j+1-i):=⟨_,rfl⟩;rw[←hR]
  (refine go1 aj0 aj0 (aj2 @rowK.eq_1 wn) ?_;intros;refine mk_i ?_)
  refine Ad_ (X:={d:Nat//i+d≤j+1∧SG_ w Q a b i j d=false}) (fun d=>⟨[(0,AL_ [a,b]),(1,Bl_ w),(2,.osl 0 0),(3,.int .i64 (i:Int)),(4,.int .i64 (j:Int)),(11,.int .i64 ((w.length:Int)+1)),(12,.int .i64 ((i:Int)+(d.1:Int)))],[rowK Q]⟩) (fun d=>j+1-i-d.1) ⟨0,by omega,rfl⟩ (Sub.lit (by simp[rowK])) ?_;rintro⟨d,hd,hc⟩;simp only
  by_cases hlt:i+d≤j
  ·have hle:(i:Int)+(d:Int)≤(j:Int):=by omega
   have f1:=Qr_ (w.length+1) an i (i+d) (by omega) (by omega) (by omega) (by omega);have f2:=Qr_ (w.length+1) bn (i+d) j (by omega) (by omega) (by omega) (by omega);obtain⟨g1,g1'⟩:=tT_at hl (nt:=an) (i:=i) (j:=i+d) (by omega) (by omega) (by omega);obtain⟨g2,g2'⟩:=tT_at hl (nt:=bn) (i:=i+d) (j:=j) (by omega) (by omega) (by omega);have hs:=aq_ w Q a b i j d;rw[hc,hA,hB,cB0,cB0,eL0]at hs;have hh:=come2_hit (w:=w) (K:=Q) (a:=a) (b:=b) hlt
   rw[hA,hB,cB0,cB0,←hR]at hh;have c1:(((w.length+1:Nat)):Int)=(w.length:Int)+1:=by omega
   have c2:(((i+d:Nat)):Int)=(i:Int)+(d:Int):=by omega
   rw[c1,c2]at f1 f2;obtain⟨x1,hx1⟩:∃x1,x1=atN (w.length+1) an i (i+d):=⟨_,rfl⟩;obtain⟨x2,hx2⟩:∃x2,x2=atN (w.length+1) bn (i+d) j:=⟨_,rfl⟩;obtain⟨y1,hy1⟩:∃y1,y1=tT Q (w.length+1) an i (i+d):=⟨_,rfl⟩;obtain⟨y2,hy2⟩:∃y2,y2=tT Q (w.length+1) bn (i+d) j:=⟨_,rfl⟩;rw[←hx1]at f1;rw[←hx2]at f2;simp only[←hx1,←hy1]at g1 g1';simp only[←hx2,←hy2]at g2 g2';rw[←hy1,←hy2]at hs hh;have wd:IntKind.i64.wrap ((i:Int)+(d:Int)+1)=(i:Int)+((d:Int)+1):=by rw[wq];omega
   cases y1
   ·(refine go1 (aj2 f1 f2) aj0 (aj10 @rowK.eq_1 wn hle @dSym.eq_1 hA hB g1 g1' @dBl.eq_1 wd) ?_;intros;refine mk_i ?_)
    refine Ai_.mk ⟨d+1,by omega,by simpa using hs⟩ (Sub.lit (by simp[rowK,wd])) (by simp;omega)
    skip
   ·cases y2
    ·(refine go1 (aj2 f1 f2) aj0 (aj12 @rowK.eq_1 wn hle @dSym.eq_1 hA hB g1 g1' g2 g2' @dBl.eq_1 wd) ?_;intros;refine mk_i ?_)
     refine Ai_.mk ⟨d+1,by omega,by simpa using hs⟩ (Sub.lit (by simp[rowK,wd])) (by simp;omega)
     skip
    ·have hRt:R=true:=hh rfl rfl;subst hRt;exact go0 (aj2 f1 f2) aj0 (aj12 @rowK.eq_1 wn hle @dSym.eq_1 hA hB g1 g1' g2 g2' @dBl.eq_1 wd)
  ·have hkk:d=j+1-i:=by omega
   subst hkk;rw[←hR]at hc;have hle:¬(i:Int)+((j+1-i:Nat):Int)≤(j:Int):=by omega
   rw[hc];exact go0 aj0 aj0 (aj2 @rowK.eq_1 hle)
end Go.Proofs.YtchgnpnbcjflcaaGreat
end
