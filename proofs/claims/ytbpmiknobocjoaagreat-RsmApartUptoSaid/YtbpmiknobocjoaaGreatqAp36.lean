/- Parts of a proof, laid together: BP0, BY1, RB1, RB2, RB3. -/
import Derived.Test.YtbpmiknobocjoaaGreatqAp17
import Derived.Test.YtbpmiknobocjoaaGreatqAp29
import Derived.Test.YtbpmiknobocjoaaGreatqAp30
import Derived.Test.YtbpmiknobocjoaaGreatqAp35
set_option linter.unusedSimpArgs false
set_option maxHeartbeats 8000000
set_option linter.unusedVariables false
set_option linter.unusedSectionVars false
section
namespace Go.Proofs.Wy
open Go Go.Dm Tryz
variable [DMode]
theorem GQ (l:List Nd):∃c:Int,Af prog 44 [AM l] (.int .i64 c)/\Af prog 93 [AM l] (.int .i64 c)/\(c=0->l.length<=2048/\∃t,ED t=true/\l=Ad t)/\(l.length<=2048->Dg l=true->∃t,ED t=true/\l=Ad t/\c=Dk t):=by
 by_cases h:2048<l.length
 ·exact⟨3,No l h,QS l h,by omega,fun hh=>by omega⟩
 ·cases hw:Dg l with
  | false=>exact⟨170,Ze l (by omega) hw,SX l (by omega) hw,by omega,fun _ hh=>by simp at hh⟩
  | true =>
   obtain⟨t,ht,rfl⟩:=LQ hw;exact⟨Dk t,Nn t ht (by omega),QR t ht (by omega),fun _=>⟨by omega,t,ht,rfl⟩,fun _ _=>⟨t,ht,rfl,rfl⟩⟩
noncomputable def Jz (l:List Nd):Int:=Classical.choose (GQ l)
theorem Gg_ (l:List Nd):Af prog 44 [AM l] (.int .i64 (Jz l)):=(Classical.choose_spec (GQ l)).1
theorem Gf_ (l:List Nd):Af prog 93 [AM l] (.int .i64 (Jz l)):=(Classical.choose_spec (GQ l)).2.1
theorem Gh_ {l:List Nd} (h:Jz l=0):l.length<=2048/\∃t,ED t=true/\l=Ad t:=(Classical.choose_spec (GQ l)).2.2.1 h
theorem Ge_ {l:List Nd} (h:l.length<=2048) (hw:Dg l=true):∃t,ED t=true/\l=Ad t/\Jz l=Dk t:=(Classical.choose_spec (GQ l)).2.2.2 h hw
noncomputable def HI : List (List Nd)->Int
 | []=>0
 | l::ls=>if Jz l=0 then HI ls else Jz l
theorem Jf : ∀{ls:List (List Nd)},HI ls=0->∃ts:List RT,ls=ts.map Ad/\∀t∈ts,ED t=true/\(Ad t).length<=2048
 | [],_=>⟨[],rfl,by simp⟩
 | l::ls,h=>by
  unfold HI at h
  split at h
  ·rename_i h1;obtain⟨h2,t,h3,h4⟩:=Gh_ h1;obtain⟨ts,h5,h6⟩:=Jf h;refine⟨t::ts,by rw[h5,h4];rfl,fun u hu=> ?_⟩
   rcases aK0.1 hu with rfl | hu
   ·exact⟨h3,by rw[<-h4];exact h2⟩
   ·exact h6 u hu
  ·rename_i h1;exact absurd h h1
def Hb (H L:List ByteArray) (l:List Nd):Bool:=l.any fun x=>decide (Qu H L x=4)
def Fg (l:List Nd):List DVal:=[AM l]
@[simp] theorem Fx_ (l:List Nd):AJ (Fg l)=0:=by simp[Fg,AJ,mx]
@[simp] theorem HV_ (l:List (List Nd)):Br (l.map Fg)=0:=Ie _ Fx_ l
def Cw (ls:List (List Nd)):Nat:=(ls.map HC).sum
theorem TQ (ls:List (List Nd)) (l:List Nd):Cw (ls++[l])=Cw ls+HC l:=by simp[Cw]
theorem XV : Cw []=0:=rfl
theorem IV : ∀ts:List RT,Cw (ts.map Ad)=(BY ts).length
 | []=>by simp[Cw,BY]
 | t::ts=>by
  have ih:=IV ts;have h1:BY (t::ts)=Cq (Ad t)++BY ts:=by simp[BY]
  have h2:Cw (List.map Ad (t::ts))=HC (Ad t)+Cw (ts.map Ad):=by simp[Cw]
  rw[h2,h1,aD0,ih,MM]
theorem Vx : ∀(ts:List RT),(∀t∈ts,(Ad t).length<=2048)->Cw (ts.map Ad)<=2048*ts.length
 | [],_=>by simp[Cw]
 | t::ts,h=>by
  have ih:=Vx ts fun u hu=>h u (aF0 _ hu)
  have h1:=h t aH0;have h2:Cw (List.map Ad (t::ts))=HC (Ad t)+Cw (ts.map Ad):=by simp[Cw]
  have h3:HC (Ad t)<=(Ad t).length:=by rw[MM];exact cM0 _ _
  rw[h2,List.length_cons];omega
theorem TP {ls:List (List Nd)} {k:Nat}:Cw (ls.take k)<=Cw ls:=by
 have h1:Cw ls=Cw (ls.take k)+Cw (ls.drop k):=by
  unfold Cw;rw[<-List.sum_append_nat,<-bD0,List.take_append_drop]
 omega
theorem Gl_ (t:RT) (h:(Ad t).length<=2048) (kA:(Cq (Ad t)).length<=64):(Zq t 0).length<=16777216*(Cq (Ad t)).length:=by
 by_cases h0:(Cq (Ad t)).length=0
 ·have:Zq t 0=[]:=by
   cases ha:Zq t 0 with
   | nil=>rfl
   | cons p r =>
    exfalso;obtain⟨⟨x,hx,hk⟩,_⟩:=Nu t 0 p.1 p.2 (by rw[ha];exact aH0)
    have h1:x∈Cq (Ad t):=by
     unfold Cq;rw[cG0];exact⟨bJ0 hx,BF.2 hk⟩
    have:=List.length_pos_of_mem h1;omega
  rw[this];simp
 ·have:=Wz t 0 kA;omega
theorem Vo : ∀(ts:List RT) (ah:Nat),(∀t∈ts,(Ad t).length<=2048)->(BY ts).length<=64->(WT ah ts).length<=16777216*(BY ts).length
 | [],ah,_,_=>by simp[WT]
 | t::ts,ah,h,kA=>by
  have h1:BY (t::ts)=Cq (Ad t)++BY ts:=by simp[BY]
  rw[h1,aD0]at kA |-;have ih:=Vo ts (ah+(Cq (Ad t)).length) (fun u hu=>h u (aF0 _ hu)) (by omega);have h2:=Gl_ t (h t aH0) (by omega);rw[WT,aD0,aJ0];omega
theorem Wd : ∀(ts:List RT) (ah:Nat),(We ah ts).length<=(BY ts).length
 | [],ah=>by simp[We]
 | t::ts,ah=>by
  have h1:BY (t::ts)=Cq (Ad t)++BY ts:=by simp[BY]
  have ih:=Wd ts (ah+(Cq (Ad t)).length);have h2:=Qf t 0;rw[We,h1,aD0,aD0,aJ0];omega
theorem sH : ∀(ts:List RT) (ah:Nat),(sI ah ts).length<=(BY ts).length
 | [],ah=>by simp[sI]
 | t::ts,ah=>by
  have h1:BY (t::ts)=Cq (Ad t)++BY ts:=by simp[BY]
  have ih:=sH ts (ah+(Cq (Ad t)).length);have h2:=PZ t 0;rw[sI,h1,aD0,aD0,aJ0];omega
theorem Wc : ∀(ts:List RT) (ah:Nat),∀q∈We ah ts,1<=q/\q<=ah+(BY ts).length
 | [],ah,q,h=>by simp[We]at h
 | t::ts,ah,q,h=>by
  have h1:BY (t::ts)=Cq (Ad t)++BY ts:=by simp[BY]
  rw[h1,aD0];rw[We,aG0]at h
  rcases h with h | h
  ·have h2:(Ad t).drop 0=Ad t++[]:=by simp
   have h3:=Ea_ (ah:=ah) h2 q h;rw[Gv h2,QF]at h3;omega
  ·have:=Wc ts _ q h;omega
def RL (us:List RT):List Nat:=We 0 us
def Ou (us:List RT):List Nat:=sI 0 us
def KC (SF:List Sym) (us:List RT):List Arc:=Dd SF (WT 0 us)
theorem Cr_ (sy:Nd->Sym) (us:List RT) (t:RT):NN sy (us++[t])=NN sy us++(Cq (Ad t)).map sy:=by unfold NN;rw[Rk,bD0]
theorem PL (sy:Nd->Sym) (us:List RT):(NN sy us).length=(BY us).length:=by simp[NN]
theorem Cq_ (H L:List ByteArray) (us:List RT) (t:RT):HU H L (NN (Ew H L) us) t=NN (Ew H L) (us++[t]):=by unfold HU;rw[Cr_]
theorem Bn_ (us:List RT) (t:RT):RL us++Iq (Ad t) (BY us).length t 0=RL (us++[t]):=by unfold RL Iq;rw[YQ,bQ0]
theorem AZ_ (us:List RT) (t:RT):Ou us++Lr (Ad t) (BY us).length t 0=Ou (us++[t]):=by unfold Ou Lr;rw[Yt,bQ0]
theorem oB (SF:List Sym) (us:List RT) (t:RT):FI SF (Ad t) (BY us).length (KC SF us) t 0=KC SF (us++[t]):=by unfold KC FI;rw[XI,Gp,bQ0]
theorem BI_ (sy:Nd->Sym) (ts:List RT):KC (NN sy ts) ts++Dd (NN sy ts) (Cn [0] (RL ts))=FV sy ts:=by
 unfold KC FV RL Dd Cn;rw[bD0];simp
theorem sC {us vs:List RT}:(BY us).length<=(BY (us++vs)).length:=by
 have:BY (us++vs)=BY us++BY vs:=by simp[BY]
 rw[this,aD0];omega
theorem Ff_ (sy:Nd->Sym) (us vs:List RT):NN sy us <+: NN sy (us++vs):=by
 unfold NN;have:BY (us++vs)=BY us++BY vs:=by simp[BY]
 rw[this,bD0];exact List.prefix_append _ _
theorem SD (us:List RT) (t:RT):(Ep us||BZ t)=Ep (us++[t]):=(UI us t).symm
def UC (n:Int) (fs:List Int) (zs:List Arc):DVal:= .agg [.int .i64 n,CQ fs,BR zs]
def lY (H L:List ByteArray) (ts:List RT):DVal:=UC ((BY ts).length+1) (Hp ts) (Cy (fun x y=>CW x y==0) (JL CW (FV (Ew H L) ts)))
def Pi (sy:Nd->Sym) (ts:List RT):List Arc:=Cy (fun x y=>CW x y==0) (JL CW (FV sy ts))
theorem AS_ {sy:Nd->Sym} {ts:List RT} {x:Arc}:x∈Pi sy ts↔x∈FV sy ts:=by
 unfold Pi;rw[(EM Di (DG Di (FV sy ts))).2,(Fc _ _).mem_iff]
theorem Wx (sy:Nd->Sym) (ts:List RT):Eg CW (Pi sy ts):=(EM Di (DG Di (FV sy ts))).1
theorem EG_ {sy:Nd->Sym} {ts:List RT} {x:Arc}:x∈Pi sy ts↔∃p q,((p,q)∈WT 0 ts\/(p=0/\q∈We 0 ts))/\x=PD (NN sy ts) (p,q):=by
 rw[AS_];unfold FV;rw[aT0]
 constructor
 ·rintro⟨⟨p,q⟩,h,rfl⟩;refine⟨p,q,?_,rfl⟩
  rcases aG0.1 h with h | h
  ·exact .inl h
  ·obtain⟨q',hq,he⟩:=aT0.1 h;simp only[_root_.Prod.mk.injEq]at he;obtain⟨rfl,rfl⟩:=he;exact .inr ⟨rfl,hq⟩
 ·rintro⟨p,q,h,rfl⟩;refine⟨(p,q),?_,rfl⟩
  rcases h with h | ⟨rfl,h⟩
  ·exact aM0 _ h
  ·exact aN0 _ (aT0.2 ⟨q,h,rfl⟩)
theorem rJ : ∀(ts:List RT) (ah:Nat) (p q:Nat),(p,q)∈WT ah ts->(ah<p/\p<=ah+(BY ts).length)/\ah<q/\q<=ah+(BY ts).length
 | [],ah,p,q,h=>by simp[WT]at h
 | t::ts,ah,p,q,h=>by
  have hl:(BY (t::ts)).length=(Cq (Ad t)).length+(BY ts).length:=by simp[BY]
  rw[WT,aG0]at h
  rcases h with h | h
  ·obtain⟨⟨a,b⟩,hab,he⟩:=aT0.1 h;simp only[VB,_root_.Prod.mk.injEq]at he;obtain⟨rfl,rfl⟩:=he;obtain⟨⟨x,hx,hkx⟩,⟨y,hy,dM⟩⟩:=Nu t 0 a b hab;have hd:(Ad t).drop 0=Ad t++[]:=by simp
   have h1:=VA (ah:=ah) hd (dC0 a) ⟨x,hx,hkx⟩;have h2:=VA (ah:=ah) hd (dC0 b) ⟨y,hy,dM⟩;rw[Gv hd,QF]at h1 h2;unfold Fi at h1 h2 |-;omega
  ·have:=rJ ts _ p q h;omega
theorem Eb_ (ts:List RT):∀q∈We 0 ts,1<=q/\q<=(BY ts).length:=fun q h=>by have:=Wc ts 0 q h;omega
theorem Gk_ {sy:Nd->Sym} {ts:List RT} {x:Arc} (h:x∈Pi sy ts):∃p q:Nat,p<=(BY ts).length/\1<=q/\q<=(BY ts).length/\x=⟨(p:Int),(NN sy ts).getD (q-1) ⟨false,0⟩,(q:Int)⟩:=by
 obtain⟨p,q,cQ,rfl⟩:=EG_.1 h;clear h
 rcases cQ with h | ⟨rfl,h⟩
 ·have:=rJ ts 0 p q h;exact⟨p,q,by omega,by omega,by omega,rfl⟩
 ·have:=Eb_ ts q h;exact⟨0,q,by omega,by omega,by omega,rfl⟩
def Wu (sy:Nd->Sym) (ts:List RT):Auto:=⟨(BY ts).length+1,Hp ts,Pi sy ts⟩
theorem HR_ {l:List Int} {s:Int} (hp:l.Pairwise (· < ·)) (h:∀q∈l,0<=q/\q<s):(List.range l.length).all (okF s l)=true:=by
 rw[aZ0];intro k hk;have hk:=bZ0.1 hk
 have hs:stB s l[k]=true:=by
  have:=h _ (dE0 hk);unfold stB;simp[this]
 rcases eM0 k with rfl | h0
 ·rw[CV_ (aI0 hk)];exact hs
 ·rw[Fo_ h0 (aI0 hk) (aI0 (show k-1<l.length by omega)),hs];have:=eO0.1 hp (k-1) k (by omega) hk (by omega);simpa using this
theorem GF_ {l:List Arc} {s:Int} (hp:l.Pairwise (fun x y=>CW x y<0)) (h:∀x∈l,UF s x=true):(List.range l.length).all (okA s l)=true:=by
 rw[aZ0];intro k hk;have hk:=bZ0.1 hk;have hs:=h _ (dE0 hk)
 rcases eM0 k with rfl | h0
 ·rw[CW_ (aI0 hk)];exact hs
 ·rw[Fp_ h0 (aI0 hk) (aI0 (show k-1<l.length by omega)),hs,SB];have:=eO0.1 hp (k-1) k (by omega) hk (by omega);simpa using this
theorem Fe_ (H L:List ByteArray) (x:Nd):0<=(Ew H L x).n:=by
 unfold Ew LF
 repeat' split
 all_goals simp
theorem Gd_ (H L:List ByteArray) (ts:List RT) (kA:(BY ts).length<=64):GS (Wu (Ew H L) ts)=true:=by
 unfold GS Wu;simp only[aL0,decide_eq_true_eq];refine⟨⟨by omega,by omega⟩,?_,?_⟩
 ·obtain⟨h1,h2⟩:=Wa ts 0
  have hm:((FG 0 ts).map aM).Pairwise (· < ·):=by
   rw[dK0];exact h1.imp fun h=>by unfold aM;omega
  have hb:∀q∈(FG 0 ts).map aM,0<q/\q<((BY ts).length:Int)+1:=by
   intro q hq;obtain⟨p,hp,rfl⟩:=aT0.1 hq;have:=h2 p hp;unfold aM;omega
  refine HR_ ?_ ?_
  ·unfold Hp
   split
   ·exact cH0.2 ⟨fun q hq=>(hb q hq).1,hm⟩
   ·exact hm
  ·intro q hq;unfold Hp at hq
   rcases aG0.1 hq with hq | hq
   ·split at hq
    ·simp at hq;subst hq;omega
    ·simp at hq
   ·have:=hb q hq;omega
 ·refine GF_ (Wx _ _) ?_;intro x hx;obtain⟨p,q,h1,h2,h3,rfl⟩:=Gk_ hx
  have hn:0<=((NN (Ew H L) ts).getD (q-1) ⟨false,0⟩).n:=by
   rw[bK0]
   cases h:(NN (Ew H L) ts)[q-1]? with
   | none=>exact Int.le_refl 0
   | some s =>
    obtain⟨y,_,rfl⟩:=aT0.1 (bJ0 h);exact Fe_ H L y
  unfold UF stB;simp only[aL0,decide_eq_true_eq];exact⟨⟨by omega,by omega⟩,⟨by omega,by omega⟩,hn⟩
theorem sW (H L:List ByteArray) (ts:List RT):lY H L ts= .agg (EY (Wu (Ew H L) ts)):=rfl
theorem Er_ {α:Type} (e:α->α->Bool) (l:List α):(Cy e l).length<=l.length:=by
 cases l with
 | nil=>simp[Cy]
 | cons p t =>
  have:=Hr e t p;simp only[Cy,List.length_cons];omega
theorem BL_ (sy:Nd->Sym) (ts:List RT) (h:∀t∈ts,(Ad t).length<=2048) (kA:(BY ts).length<=64):(Pi sy ts).length<=1073741888:=by
 have h1:=Er_ (fun x y=>CW x y==0) (JL CW (FV sy ts));rw[(Fc CW (FV sy ts)).length_eq]at h1;have h2:=Vo ts 0 h kA;have h3:=Wd ts 0;unfold Pi;unfold FV at h1 |-;rw[aJ0,aD0,aJ0]at h1;omega
end Go.Proofs.Wy
end
section
namespace Go.Proofs.Wy
open Go Go.Dm Tryz
variable [DMode]
attribute [local irreducible] DW BN BS
set_option maxRecDepth 100000
theorem At.end {l:List Nd} {p:Nat} {t:RT} (h:At l p t):lK l p=(p:Int)+(Ad t).length:=by
 obtain⟨qG,yD,r,hr⟩:=h;unfold lK;rw[hr,Gm _ _ 0 qG,Cs];have h2:=congrArg List.length hr;rw[cD0,aD0]at h2;simp only;omega
def uO : Ann:=⟨[],[]⟩
theorem CF (l:List Nd) (p q:Nat) (t:RT) (h:At l p t) (hs:l.length<=1572864):Af prog 98 [AM l,.int .i64 p,.int .i64 q] (.bool (Jd t p q)):=by
 refine Ae [] uO func98 call98 ntmps98 mxd (AB @uO.eq_1 results98) rfl (fun qJ B qX qQ=> ?_);clear qJ;simp only[Aq];have e1:=Ku l p hs h.le;rw[h.end]at e1;obtain⟨n,hn⟩:∃n,n=(Ad t).length:=⟨_,rfl⟩;unfold Jd;rw[<-hn]at e1 |-;have hc:((p:Int)<=(q:Int))=(p<=q):=by simp
 have hd:((q:Int)<(p:Int)+(n:Int))=(q<p+n):=by apply propext;omega
 by_cases h1:p<=q
 ·exact Az (AH e1) Ab (CL hc hd h1)
 ·exact Az (AH e1) Ab (CL hc hd h1)
theorem FC {p:Nat} {ks:List RT} {i:Nat} {u:RT} (h:ks[i]? =some u):AS p ks (i+1)=AS p ks i+(Ad u).length:=by
 unfold AS;rw[Me (ks:=ks) h];omega
theorem FD {ks:List RT} {i:Nat} {u:RT} (h:ks[i]? =some u):ks.drop i=u::ks.drop (i+1):=by
 obtain⟨hi,rfl⟩:=aB0.1 h;exact aR0 hi
theorem FB (p:Nat) (ks:List RT):AS p ks 0=p+1:=by unfold AS;rw[dN0,Ce];rfl
def uP : Ann:=⟨[],[]⟩
theorem GR (q:Nat):∀(n:Nat) (t:RT) (l:List Nd) (p:Nat),(Ad t).length=n->At l p t->l.length<=1572864->Af prog 95 [AM l,.int .i64 p,.int .i64 q] (.bool (Sv t p q)):=by
 intro n
 induction n using Nat.strongRecOn with
 | ind n ih =>
 intro t l p hn ht hs;obtain⟨x,ks⟩:=t;have kk:=Et l p x ks ht hs;obtain⟨g0,gl,ge⟩:=ht.head;simp only[RT.x]at g0;have g0':l[p]'gl=x:=(aB0.1 g0).2;have vI:(Ad (.mk x ks)).length=(An ks).length+1:=by rw[AQ,List.length_cons]
 have yJ:=Cr ks;have hk9:ks.length<=1572864:=by omega
 have kL:∀i u,ks[i]? =some u->Af prog 95 [AM l,.int .i64 (AS p ks i),.int .i64 q] (.bool (Sv u (AS p ks i) q)):=fun i u hu=>by
  have hm:=Eu (bJ0 hu);exact ih (Ad u).length (by omega) u l _ rfl (ht.kid hu).1 hs
 have fS:∀i u,ks[i]? =some u->_:=fun i u hu=>CF l (AS p ks i) q u (ht.kid hu).1 hs
 have hem:∀i u,ks[i]? =some u->_:=fun i u hu=>Ga _ u l (AS p ks i) rfl (ht.kid hu).1 hs
 have qH:∀i,i<ks.length->_:=fun i h=>GC (p:=p) (ks:=ks) (i:=i) h
 rw[ED_];unfold Ki at kk;obtain⟨D,hD⟩:∃D,D=(List.range ks.length).map fun i=>Ij (AS p ks i):=⟨_,rfl⟩
 have wJ:D.length=ks.length:=by rw[hD];simp
 have wP:Br D=0:=by rw[hD];exact Hj p ks _
 rw[<-hD]at kk qH;clear hD ih ht ge hn;obtain⟨R,hR⟩:∃R,R=bgL x.k ks (p+1) q:=⟨_,rfl⟩;rw[<-hR];refine Ae [] uP func95 call95 ntmps95 mxd (AB @uP.eq_1 results95) rfl (fun qJ B qX qQ=> ?_);clear qJ;simp only[Aq]
 by_cases cQ:p=q
 ·have jN:(p:Int)=(q:Int):=by omega
  exact Az (AH kk) Ab (AB cQ jN)
 have jN:¬(p:Int)=(q:Int):=by omega
 have hpqb:((p:Int)==(q:Int))=false:=by simpa using jN
 (refine AL (AH kk) Ab (CL cQ jN hpqb) ?_;intros;refine Am ?_)
 rw[<-FB p ks,<-dT0 (l:=ks)]at hR;refine Ai (X:={i:Nat//i<=ks.length/\R=bgL x.k (ks.drop i) (AS p ks i) q}) (fun i=>⟨[(0,AM l),(1,.int .i64 p),(2,.int .i64 q),(7,.sl 1 8 D),(8,.int .i64 i.1)],[]⟩) (fun i=>ks.length-i.1) ⟨0,by omega,by simpa using hR⟩ (Sub.lit (by simp[wP])) ?_;clear hR;rintro⟨i,hi,hR⟩;simp only
 by_cases qV:i<ks.length
 ·obtain⟨u,hu,vO,_⟩:=Ap qV;have e1:=kL i u hu;have e2:=fS i u hu;have e3:=hem i u hu;have hr:=qH i qV;have qO:i<D.length:=by omega
  have wU:IntKind.i64.wrap ((i:Int)+1)=(i:Int)+1:=wq;have qW:D[i]'qO=[.int .i64 (AS p ks i:Int)]:=(aB0.1 hr).2;rw[FD hu,Sw,<-FC hu]at hR;obtain⟨a,ha⟩:∃a,a=AS p ks i:=⟨_,rfl⟩;rw[<-ha]at e1 e2 e3 hr qW hR;obtain⟨b1,qC⟩:∃b1,b1=Jd u a q:=⟨_,rfl⟩;obtain⟨b2,wX⟩:∃b2,b2=Sv u a q:=⟨_,rfl⟩;obtain⟨b3,cU⟩:∃b3,b3=BZ u:=⟨_,rfl⟩;rw[<-qC]at e2 hR;rw[<-wX]at e1 hR;rw[<-cU]at e3 hR
  by_cases hb:(b1&&b2)=true
  ·rw[hb,Bool.true_or]at hR;simp only[aL0]at hb;rw[hb.1]at e2;rw[hb.2]at e1;exact Az (CL e1 e2 e3) Ab (Jm wJ qO hr qW qV hR)
  ·rw[dR0]at hb;rw[hb,eA0]at hR
   by_cases k4:x.k=4
   ·cases b3
    ·rw[if_pos ⟨k4,rfl⟩]at hR;cases b1
     ·exact Az (CL e1 e2 e3) Ab (JE @Bo.eq_1 g0 g0' gl wJ qO hr qW qV hR k4)
     ·simp only[cA0]at hb;rw[hb]at e1;exact Az (CL e1 e2 e3) Ab (JE @Bo.eq_1 g0 g0' gl wJ qO hr qW qV hR k4)
    ·rw[if_neg (by simp)]at hR;cases b1
     ·(refine AL (CL e1 e2 e3) Ab (JE @Bo.eq_1 g0 g0' gl wJ qO wU hr qW qV k4) ?_;intros;refine Am ?_)
      refine Al.mk ⟨i+1,by omega,hR⟩ (Sub.lit (by simp[wP])) (by simp;omega)
      skip
     ·simp only[cA0]at hb;rw[hb]at e1
      (refine AL (CL e1 e2 e3) Ab (JE @Bo.eq_1 g0 g0' gl wJ qO wU hr qW qV k4) ?_;intros;refine Am ?_)
      refine Al.mk ⟨i+1,by omega,hR⟩ (Sub.lit (by simp[wP])) (by simp;omega)
      skip
   ·rw[if_neg (fun h=>k4 h.1)]at hR;have b4:(x.k==4)=false:=by simpa using k4
    cases b1
    ·(refine AL (CL e1 e2 e3) Ab (oK @Bo.eq_1 g0 g0' gl wJ qO wU hr qW qV k4 b4) ?_;intros;refine Am ?_)
     refine Al.mk ⟨i+1,by omega,hR⟩ (Sub.lit (by simp[wP])) (by simp;omega)
     skip
    ·simp only[cA0]at hb;rw[hb]at e1
     (refine AL (CL e1 e2 e3) Ab (oK @Bo.eq_1 g0 g0' gl wJ qO wU hr qW qV k4 b4) ?_;intros;refine Am ?_)
     refine Al.mk ⟨i+1,by omega,hR⟩ (Sub.lit (by simp[wP])) (by simp;omega)
     skip
 ·have qZ:i=ks.length:=by omega
  subst qZ;rw[bU0,Qh]at hR;exact Az Ab Ab (AB wJ hR)
theorem aW {α:Type} {l:List α} {i:Nat} {x:α} (h:l[i]? =some x):l.take (i+1)=l.take i++[x]:=by rw[bM0,h];rfl
def uN : Ann:=⟨[],[]⟩
theorem Kt (q:Nat):∀(n:Nat) (t:RT) (l:List Nd) (p:Nat),(Ad t).length=n->At l p t->l.length<=1572864->Af prog 66 [AM l,.int .i64 p,.int .i64 q] (.bool (Nc t p q)):=by
 intro n
 induction n using Nat.strongRecOn with
 | ind n ih =>
 intro t l p hn ht hs;obtain⟨x,ks⟩:=t;have kk:=Et l p x ks ht hs;obtain⟨g0,gl,ge⟩:=ht.head;simp only[RT.x]at g0;have g0':l[p]'gl=x:=(aB0.1 g0).2;have vI:(Ad (.mk x ks)).length=(An ks).length+1:=by rw[AQ,List.length_cons]
 have yJ:=Cr ks;have hk9:ks.length<=1572864:=by omega
 have kL:∀i u,ks[i]? =some u->Af prog 66 [AM l,.int .i64 (AS p ks i),.int .i64 q] (.bool (Nc u (AS p ks i) q)):=fun i u hu=>by
  have hm:=Eu (bJ0 hu);exact ih (Ad u).length (by omega) u l _ rfl (ht.kid hu).1 hs
 have fS:∀i u,ks[i]? =some u->_:=fun i u hu=>CF l (AS p ks i) q u (ht.kid hu).1 hs
 have hem:∀i u,ks[i]? =some u->_:=fun i u hu=>Ga _ u l (AS p ks i) rfl (ht.kid hu).1 hs
 have qH:∀i,i<ks.length->_:=fun i h=>GC (p:=p) (ks:=ks) (i:=i) h
 rw[Eg_];unfold Ki at kk;obtain⟨D,hD⟩:∃D,D=(List.range ks.length).map fun i=>Ij (AS p ks i):=⟨_,rfl⟩
 have wJ:D.length=ks.length:=by rw[hD];simp
 have wP:Br D=0:=by rw[hD];exact Hj p ks _
 rw[<-hD]at kk qH;clear hD ih ht ge hn;obtain⟨R,hR⟩:∃R,R=sP x.k ks (p+1) q:=⟨_,rfl⟩;rw[<-hR];refine Ae [] uN func66 call66 ntmps66 mxd (AB @uN.eq_1 results66) rfl (fun qJ B qX qQ=> ?_);clear qJ;simp only[Aq]
 by_cases cQ:p=q
 ·have jN:(p:Int)=(q:Int):=by omega
  exact Az (AH kk) Ab (AB cQ jN)
 have jN:¬(p:Int)=(q:Int):=by omega
 have hpqb:((p:Int)==(q:Int))=false:=by simpa using jN
 (refine AL (AH kk) Ab (CL cQ jN hpqb) ?_;intros;refine Am ?_)
 have hw0:IntKind.i64.wrap ((ks.length:Int)-1)=(ks.length:Int)-1:=wq;refine Ai (X:={m:Nat//m<=ks.length/\R=sP x.k (ks.take m) (p+1) q}) (fun m=>⟨[(0,AM l),(1,.int .i64 p),(2,.int .i64 q),(7,.sl 1 8 D),(8,.int .i64 ((m.1:Int)-1))],[]⟩) (fun m=>m.1) ⟨ks.length,by omega,by rw[aU0];exact hR⟩ (Sub.lit (by simp[wP,wJ,hw0])) ?_;clear hR;rintro⟨m,hi,hR⟩;simp only
 cases m with
 | zero =>
  rw[dN0,Nf]at hR;exact Az Ab Ab (AH hR)
 | succ i =>
  have qV:i<ks.length:=by omega
  obtain⟨u,hu,vO,_⟩:=Ap qV;have e1:=kL i u hu;have e2:=fS i u hu;have e3:=hem i u hu;have hr:=qH i qV;have qO:i<D.length:=by omega
  have hi1:(((i+1:Nat):Int)-1)=(i:Int):=by omega
  have wU:IntKind.i64.wrap ((i:Int)-1)=(i:Int)-1:=wq;have qW:D[i]'qO=[.int .i64 (AS p ks i:Int)]:=(aB0.1 hr).2;rw[aW hu,YS]at hR;rw[show p+1+(An (ks.take i)).length=AS p ks i from rfl]at hR;obtain⟨a,ha⟩:∃a,a=AS p ks i:=⟨_,rfl⟩;rw[<-ha]at e1 e2 e3 hr qW hR;obtain⟨b1,qC⟩:∃b1,b1=Jd u a q:=⟨_,rfl⟩;obtain⟨b2,wX⟩:∃b2,b2=Nc u a q:=⟨_,rfl⟩;obtain⟨b3,cU⟩:∃b3,b3=BZ u:=⟨_,rfl⟩;rw[<-qC]at e2 hR;rw[<-wX]at e1 hR;rw[<-cU]at e3 hR
  rw[hi1]
  by_cases hb:(b1&&b2)=true
  ·rw[hb,Bool.true_or]at hR;simp only[aL0]at hb;rw[hb.1]at e2;rw[hb.2]at e1;exact Az (CL e1 e2 e3) Ab (Jm wJ qO hr qW qV hR)
  ·rw[dR0]at hb;rw[hb,eA0]at hR
   by_cases k4:x.k=4
   ·cases b3
    ·rw[if_pos ⟨k4,rfl⟩]at hR;cases b1
     ·exact Az (CL e1 e2 e3) Ab (JE @Bo.eq_1 g0 g0' gl wJ qO hr qW qV hR k4)
     ·simp only[cA0]at hb;rw[hb]at e1;exact Az (CL e1 e2 e3) Ab (JE @Bo.eq_1 g0 g0' gl wJ qO hr qW qV hR k4)
    ·rw[if_neg (by simp)]at hR;cases b1
     ·(refine AL (CL e1 e2 e3) Ab (JE @Bo.eq_1 g0 g0' gl wJ qO wU hr qW qV k4) ?_;intros;refine Am ?_)
      refine Al.mk ⟨i,by omega,hR⟩ (Sub.lit (by simp[wP])) (by simp)
      skip
     ·simp only[cA0]at hb;rw[hb]at e1
      (refine AL (CL e1 e2 e3) Ab (JE @Bo.eq_1 g0 g0' gl wJ qO wU hr qW qV k4) ?_;intros;refine Am ?_)
      refine Al.mk ⟨i,by omega,hR⟩ (Sub.lit (by simp[wP])) (by simp)
      skip
   ·rw[if_neg (fun h=>k4 h.1)]at hR;have b4:(x.k==4)=false:=by simpa using k4
    cases b1
    ·(refine AL (CL e1 e2 e3) Ab (oK @Bo.eq_1 g0 g0' gl wJ qO wU hr qW qV k4 b4) ?_;intros;refine Am ?_)
     refine Al.mk ⟨i,by omega,hR⟩ (Sub.lit (by simp[wP])) (by simp)
     skip
    ·simp only[cA0]at hb;rw[hb]at e1
     (refine AL (CL e1 e2 e3) Ab (oK @Bo.eq_1 g0 g0' gl wJ qO wU hr qW qV k4 b4) ?_;intros;refine Am ?_)
     refine Al.mk ⟨i,by omega,hR⟩ (Sub.lit (by simp[wP])) (by simp)
     skip
def ZJ : Ann:=⟨[],[]⟩
theorem Th (l:List Nd) (P p q:Nat) (x:Nd) (ks:List RT) (ht:At l P (.mk x ks)) (hs:l.length<=1572864):Af prog 149 [AM l,Ki P ks,.int .i64 p,.int .i64 q] (.bool (WU ks (P+1) p q)):=by
 obtain⟨g0,gl,ge⟩:=ht.head;have vI:(Ad (.mk x ks)).length=(An ks).length+1:=by rw[AQ,List.length_cons]
 have yJ:=Cr ks;have hk9:ks.length<=1572864:=by omega
 have hwp:∀i u,ks[i]? =some u->_:=fun i u hu=>CF l (AS P ks i) p u (ht.kid hu).1 hs
 have fR:∀i u,ks[i]? =some u->_:=fun i u hu=>CF l (AS P ks i) q u (ht.kid hu).1 hs
 have vJ:∀i u,ks[i]? =some u->_:=fun i u hu=>Kt p _ u l (AS P ks i) rfl (ht.kid hu).1 hs
 have hbe:∀i u,ks[i]? =some u->_:=fun i u hu=>GR q _ u l (AS P ks i) rfl (ht.kid hu).1 hs
 have hem:∀i u,ks[i]? =some u->_:=fun i u hu=>Ga _ u l (AS P ks i) rfl (ht.kid hu).1 hs
 have qH:∀i,i<ks.length->_:=fun i h=>GC (p:=P) (ks:=ks) (i:=i) h
 unfold Ki;obtain⟨D,hD⟩:∃D,D=(List.range ks.length).map fun i=>Ij (AS P ks i):=⟨_,rfl⟩
 have wJ:D.length=ks.length:=by rw[hD];simp
 have wP:Br D=0:=by rw[hD];exact Hj P ks _
 rw[<-hD]at qH |-;clear hD ht ge;obtain⟨R,hR⟩:∃R,R=WU ks (P+1) p q:=⟨_,rfl⟩;rw[<-hR];rw[<-FB P ks,<-dT0 (l:=ks)]at hR;refine Ae [] ZJ func149 call149 ntmps149 mxd (AB @ZJ.eq_1 results149) rfl (fun qJ B qX qQ=> ?_);clear qJ;simp only[Aq]
 (refine AL Ab Ab Ab ?_;intros;refine Am ?_)
 refine Ai (X:={i:Nat//i<=ks.length/\R=WU (ks.drop i) (AS P ks i) p q}) (fun i=>⟨[(0,AM l),(1,.sl 1 8 D),(2,.int .i64 p),(3,.int .i64 q),(9,.int .i64 i.1)],[]⟩) (fun i=>ks.length-i.1) ⟨0,by omega,by simpa using hR⟩ (Sub.lit (by simp[wP])) ?_;clear hR;rintro⟨i,hi,hR⟩;simp only
 by_cases qV:i<ks.length
 ·obtain⟨u,hu,vO,_⟩:=Ap qV;have e1:=hwp i u hu;have e2:=vJ i u hu;have hr:=qH i qV;have qO:i<D.length:=by omega
  have wU:IntKind.i64.wrap ((i:Int)+1)=(i:Int)+1:=wq;have qW:D[i]'qO=[.int .i64 (AS P ks i:Int)]:=(aB0.1 hr).2;have fI:¬(ks.length:Int)<=(i:Int):=by omega
  rw[FD hu,WU,<-FC hu]at hR;obtain⟨a,ha⟩:∃a,a=AS P ks i:=⟨_,rfl⟩;rw[<-ha]at e1 e2 hr qW hR;obtain⟨b1,qC⟩:∃b1,b1=Jd u a p:=⟨_,rfl⟩;obtain⟨b2,wX⟩:∃b2,b2=Nc u a p:=⟨_,rfl⟩;rw[<-qC]at e1 hR;rw[<-wX]at e2 hR;clear qC wX;cases b1
  ·simp only[aQ0,if_false]at hR
   (refine AL (AB e1 e2) Ab (Jm wJ qO wU hr qW qV) ?_;intros;refine Am ?_)
   refine Al.mk ⟨i+1,by omega,hR⟩ (Sub.lit (by simp[wP])) (by simp;omega)
   skip
  ·simp only[if_true]at hR;cases b2
   ·simp only[cL0]at hR;exact Az (AB e1 e2) Ab (KG wJ qO wU hr qW qV fI hR)
   ·simp only[cA0]at hR
    (refine AL (AB e1 e2) Ab (IH wJ qO wU hr qW qV fI) ?_;intros;refine Am ?_)
    refine Ai (X:={j:Nat//j<=ks.length/\R=afL (ks.drop j) (AS P ks j) q}) (fun j=>⟨[(0,AM l),(1,.sl 1 8 D),(2,.int .i64 p),(3,.int .i64 q),(9,.int .i64 j.1)],[]⟩) (fun j=>ks.length-j.1) ⟨i+1,by omega,hR⟩ (Sub.lit (by simp[wP])) ?_;clear hR hr qW wU qO;rintro⟨j,hj,hR⟩;simp only
    by_cases qL:j<ks.length
    ·obtain⟨v,hv,zB,_⟩:=Ap qL;have e3:=fR j v hv;have e4:=hbe j v hv;have e5:=hem j v hv;have hr:=qH j qL;have qO:j<D.length:=by omega
     have wU:IntKind.i64.wrap ((j:Int)+1)=(j:Int)+1:=wq;have qW:D[j]'qO=[.int .i64 (AS P ks j:Int)]:=(aB0.1 hr).2;rw[FD hv,afL,<-FC hv]at hR;obtain⟨c,wE⟩:∃c,c=AS P ks j:=⟨_,rfl⟩;rw[<-wE]at e3 e4 e5 hr qW hR;obtain⟨b3,cU⟩:∃b3,b3=Jd v c q:=⟨_,rfl⟩;obtain⟨b4,hb4⟩:∃b4,b4=Sv v c q:=⟨_,rfl⟩;obtain⟨b5,hb5⟩:∃b5,b5=BZ v:=⟨_,rfl⟩;rw[<-cU]at e3 hR;rw[<-hb4]at e4 hR;rw[<-hb5]at e5 hR;clear cU hb4 hb5;cases b3
     ·simp only[aQ0,if_false]at hR;cases b5
      ·simp only[aQ0,if_false]at hR;exact Az (CL e3 e4 e5) Ab (IH wJ qO wU hr qW qL hR)
      ·simp only[if_true]at hR
       (refine AL (CL e3 e4 e5) Ab (Jm wJ qO wU hr qW qL) ?_;intros;refine Am ?_)
       refine Al.mk ⟨j+1,by omega,hR⟩ (Sub.lit (by simp[wP])) (by simp;omega)
       skip
     ·simp only[if_true]at hR;exact Az (CL e3 e4 e5) Ab (IH wJ qO wU hr qW qL hR)
    ·have qZ:j=ks.length:=by omega
     subst qZ;rw[bU0]at hR;have wY:R=false:=hR;exact Az Ab Ab (AB wJ wY)
 ·have qZ:i=ks.length:=by omega
  subst qZ;rw[bU0]at hR;have wY:R=false:=hR;exact Az Ab Ab (AB wJ wY)
end Go.Proofs.Wy
end
