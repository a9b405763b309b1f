/- Parts of a proof, laid together: BP0, BY1, RB1, RB2, RB3. -/
import Derived.Test.YtiojapdolljocaaGreatqMx15
import Derived.Test.YtiojapdolljocaaGreatqMx26
import Derived.Test.YtiojapdolljocaaGreatqMx27
import Derived.Test.YtiojapdolljocaaGreatqMx32
set_option linter.unusedSimpArgs false
set_option maxHeartbeats 8000000
set_option linter.unusedVariables false
set_option linter.unusedSectionVars false
section
namespace Go.Proofs.Wy
open Go Go.Dm Tryz
variable [DMode]
theorem GG (l:List Nd):∃c:Int,Ae prog 55 [AU l] (.int .i64 c)/\Ae prog 125 [AU l] (.int .i64 c)/\(c=0->l.length<=2048/\∃t,Ew t=true/\l=flat t)/\(l.length<=2048->Dd l=true->∃t,Ew t=true/\l=flat t/\c=Df t):=by
 by_cases h:2048<l.length
 ·exact⟨3,MQ l h,QA l h,by omega,fun hh=>by omega⟩
 ·cases hw:Dd l with
  | false=>exact⟨170,Yz l (by omega) hw,SD l (by omega) hw,by omega,fun _ hh=>by simp at hh⟩
  | true =>
   obtain⟨t,ht,rfl⟩:=Ll hw;exact⟨Df t,MP t ht (by omega),Qz t ht (by omega),fun _=>⟨by omega,t,ht,rfl⟩,fun _ _=>⟨t,ht,rfl,rfl⟩⟩
noncomputable def Jg (l:List Nd):Int:=Classical.choose (GG l)
theorem FS_ (l:List Nd):Ae prog 55 [AU l] (.int .i64 (Jg l)):=(Classical.choose_spec (GG l)).1
theorem FR_ (l:List Nd):Ae prog 125 [AU l] (.int .i64 (Jg l)):=(Classical.choose_spec (GG l)).2.1
theorem FT_ {l:List Nd} (h:Jg l=0):l.length<=2048/\∃t,Ew t=true/\l=flat t:=(Classical.choose_spec (GG l)).2.2.1 h
theorem FQ_ {l:List Nd} (h:l.length<=2048) (hw:Dd l=true):∃t,Ew t=true/\l=flat t/\Jg l=Df t:=(Classical.choose_spec (GG l)).2.2.2 h hw
noncomputable def HA : List (List Nd)->Int
 | []=>0
 | l::ls=>if Jg l=0 then HA ls else Jg l
theorem IP : ∀{ls:List (List Nd)},HA ls=0->∃ts:List RT,ls=ts.map flat/\∀t∈ts,Ew t=true/\(flat t).length<=2048
 | [],_=>⟨[],rfl,by simp⟩
 | l::ls,h=>by
  unfold HA at h
  split at h
  ·rename_i h1;obtain⟨h2,t,h3,h4⟩:=FT_ h1;obtain⟨ts,h5,h6⟩:=IP h;refine⟨t::ts,by rw[h5,h4];rfl,fun u hu=> ?_⟩
   rcases aK0.1 hu with rfl | hu
   ·exact⟨h3,by rw[<-h4];exact h2⟩
   ·exact h6 u hu
  ·rename_i h1;exact absurd h h1
def GS (H L:List ByteArray) (l:List Nd):Bool:=l.any fun x=>decide (Qb H L x=4)
def En (l:List Nd):List DVal:=[AU l]
@[simp] theorem Fj_ (l:List Nd):AL (En l)=0:=by simp[En,AL,mx]
@[simp] theorem HJ_ (l:List (List Nd)):Bp (l.map En)=0:=HT _ Fj_ l
def BZ (ls:List (List Nd)):Nat:=(ls.map FS).sum
theorem TA (ls:List (List Nd)) (l:List Nd):BZ (ls++[l])=BZ ls+FS l:=by simp[BZ]
theorem Xq : BZ []=0:=rfl
theorem Gq : ∀ts:List RT,BZ (ts.map flat)=(BT ts).length
 | []=>by simp[BZ,BT]
 | t::ts=>by
  have ih:=Gq ts;have h1:BT (t::ts)=Cs (flat t)++BT ts:=by simp[BT]
  have h2:BZ (List.map flat (t::ts))=FS (flat t)+BZ (ts.map flat):=by simp[BZ]
  rw[h2,h1,aC0,ih,Mo]
theorem Vg : ∀(ts:List RT),(∀t∈ts,(flat t).length<=2048)->BZ (ts.map flat)<=2048*ts.length
 | [],_=>by simp[BZ]
 | t::ts,h=>by
  have ih:=Vg ts fun u hu=>h u (aG0 _ hu)
  have h1:=h t aI0;have h2:BZ (List.map flat (t::ts))=FS (flat t)+BZ (ts.map flat):=by simp[BZ]
  have h3:FS (flat t)<=(flat t).length:=by rw[Mo];exact cI0 _ _
  rw[h2,List.length_cons];omega
theorem Tz {ls:List (List Nd)} {k:Nat}:BZ (ls.take k)<=BZ ls:=by
 have h1:BZ ls=BZ (ls.take k)+BZ (ls.drop k):=by
  unfold BZ;rw[<-List.sum_append_nat,<-bD0,List.take_append_drop]
 omega
theorem FY_ (t:RT) (h:(flat t).length<=2048) (kU:(Cs (flat t)).length<=64):(YL t 0).length<=16777216*(Cs (flat t)).length:=by
 by_cases h0:(Cs (flat t)).length=0
 ·have:YL t 0=[]:=by
   cases ha:YL t 0 with
   | nil=>rfl
   | cons p r =>
    exfalso;obtain⟨⟨x,hx,hk⟩,_⟩:=MZ t 0 p.1 p.2 (by rw[ha];exact aI0)
    have h1:x∈Cs (flat t):=by
     unfold Cs;rw[cE0];exact⟨bP0 hx,BB.2 hk⟩
    have:=List.length_pos_of_mem h1;omega
  rw[this];simp
 ·have:=VZ t 0 kU;omega
theorem UZ : ∀(ts:List RT) (ah:Nat),(∀t∈ts,(flat t).length<=2048)->(BT ts).length<=64->(Ws ah ts).length<=16777216*(BT ts).length
 | [],ah,_,_=>by simp[Ws]
 | t::ts,ah,h,kU=>by
  have h1:BT (t::ts)=Cs (flat t)++BT ts:=by simp[BT]
  rw[h1,aC0]at kU |-;have ih:=UZ ts (ah+(Cs (flat t)).length) (fun u hu=>h u (aG0 _ hu)) (by omega);have h2:=FY_ t (h t aI0) (by omega);rw[Ws,aC0,aN0];omega
theorem VG : ∀(ts:List RT) (ah:Nat),(VH ah ts).length<=(BT ts).length
 | [],ah=>by simp[VH]
 | t::ts,ah=>by
  have h1:BT (t::ts)=Cs (flat t)++BT ts:=by simp[BT]
  have ih:=VG ts (ah+(Cs (flat t)).length);have h2:=PI t 0;rw[VH,h1,aC0,aC0,aN0];omega
theorem sC : ∀(ts:List RT) (ah:Nat),(sD ah ts).length<=(BT ts).length
 | [],ah=>by simp[sD]
 | t::ts,ah=>by
  have h1:BT (t::ts)=Cs (flat t)++BT ts:=by simp[BT]
  have ih:=sC ts (ah+(Cs (flat t)).length);have h2:=PA t 0;rw[sD,h1,aC0,aC0,aN0];omega
theorem VF : ∀(ts:List RT) (ah:Nat),∀q∈VH ah ts,1<=q/\q<=ah+(BT ts).length
 | [],ah,q,h=>by simp[VH]at h
 | t::ts,ah,q,h=>by
  have h1:BT (t::ts)=Cs (flat t)++BT ts:=by simp[BT]
  rw[h1,aC0];rw[VH,aH0]at h
  rcases h with h | h
  ·have h2:(flat t).drop 0=flat t++[]:=by simp
   have h3:=DF_ (ah:=ah) h2 q h;rw[Gl h2,Qo]at h3;omega
  ·have:=VF ts _ q h;omega
def Rr (us:List RT):List Nat:=VH 0 us
def NR (us:List RT):List Nat:=sD 0 us
def Kf (SF:List Sym) (us:List RT):List Arc:=Db SF (Ws 0 us)
theorem Cb_ (sy:Nd->Sym) (us:List RT) (t:RT):Nt sy (us++[t])=Nt sy us++(Cs (flat t)).map sy:=by unfold Nt;rw[QU,bD0]
theorem Po (sy:Nd->Sym) (us:List RT):(Nt sy us).length=(BT us).length:=by simp[Nt]
theorem Ca_ (H L:List ByteArray) (us:List RT) (t:RT):HK H L (Nt (Eo H L) us) t=Nt (Eo H L) (us++[t]):=by unfold HK;rw[Cb_]
theorem AU_ (us:List RT) (t:RT):Rr us++Ie (flat t) (BT us).length t 0=Rr (us++[t]):=by unfold Rr Ie;rw[Ym,bR0]
theorem AF_ (us:List RT) (t:RT):NR us++KO (flat t) (BT us).length t 0=NR (us++[t]):=by unfold NR KO;rw[XN,bR0]
theorem lT (SF:List Sym) (us:List RT) (t:RT):Fx SF (flat t) (BT us).length (Kf SF us) t 0=Kf SF (us++[t]):=by unfold Kf Fx;rw[Xg,Gf,bR0]
theorem Bq_ (sy:Nd->Sym) (ts:List RT):Kf (Nt sy ts) ts++Db (Nt sy ts) (Cq [0] (Rr ts))=FN sy ts:=by
 unfold Kf FN Rr Db Cq;rw[bD0];simp
theorem rZ {us vs:List RT}:(BT us).length<=(BT (us++vs)).length:=by
 have:BT (us++vs)=BT us++BT vs:=by simp[BT]
 rw[this,aC0];omega
theorem EM_ (sy:Nd->Sym) (us vs:List RT):Nt sy us <+: Nt sy (us++vs):=by
 unfold Nt;have:BT (us++vs)=BT us++BT vs:=by simp[BT]
 rw[this,bD0];exact List.prefix_append _ _
theorem Sl (us:List RT) (t:RT):(Ej us||BU t)=Ej (us++[t]):=(Uo us t).symm
def Ui (n:Int) (fs:List Int) (zs:List Arc):DVal:= .agg [.int .i64 n,FM fs,Cg zs]
def lO (H L:List ByteArray) (ts:List RT):DVal:=Ui ((BT ts).length+1) (Hg ts) (CA (fun x y=>CT x y==0) (Jt CT (FN (Eo H L) ts)))
def ON (sy:Nd->Sym) (ts:List RT):List Arc:=CA (fun x y=>CT x y==0) (Jt CT (FN sy ts))
theorem Au_ {sy:Nd->Sym} {ts:List RT} {x:Arc}:x∈ON sy ts↔x∈FN sy ts:=by
 unfold ON;rw[(EE De (Dz De (FN sy ts))).2,(EW _ _).mem_iff]
theorem MX (sy:Nd->Sym) (ts:List RT):Dy CT (ON sy ts):=(EE De (Dz De (FN sy ts))).1
theorem En_ {sy:Nd->Sym} {ts:List RT} {x:Arc}:x∈ON sy ts↔∃p q,((p,q)∈Ws 0 ts\/(p=0/\q∈VH 0 ts))/\x=Ph (Nt sy ts) (p,q):=by
 rw[Au_];unfold FN;rw[aT0]
 constructor
 ·rintro⟨⟨p,q⟩,h,rfl⟩;refine⟨p,q,?_,rfl⟩
  rcases aH0.1 h with h | h
  ·exact .inl h
  ·obtain⟨q',hq,he⟩:=aT0.1 h;simp only[_root_.Prod.mk.injEq]at he;obtain⟨rfl,rfl⟩:=he;exact .inr ⟨rfl,hq⟩
 ·rintro⟨p,q,h,rfl⟩;refine⟨(p,q),?_,rfl⟩
  rcases h with h | ⟨rfl,h⟩
  ·exact aM0 _ h
  ·exact aP0 _ (aT0.2 ⟨q,h,rfl⟩)
theorem rB : ∀(ts:List RT) (ah:Nat) (p q:Nat),(p,q)∈Ws ah ts->(ah<p/\p<=ah+(BT ts).length)/\ah<q/\q<=ah+(BT ts).length
 | [],ah,p,q,h=>by simp[Ws]at h
 | t::ts,ah,p,q,h=>by
  have hl:(BT (t::ts)).length=(Cs (flat t)).length+(BT ts).length:=by simp[BT]
  rw[Ws,aH0]at h
  rcases h with h | h
  ·obtain⟨⟨a,b⟩,hab,he⟩:=aT0.1 h;simp only[Vk,_root_.Prod.mk.injEq]at he;obtain⟨rfl,rfl⟩:=he;obtain⟨⟨x,hx,hkx⟩,⟨y,hy,hky⟩⟩:=MZ t 0 a b hab;have hd:(flat t).drop 0=flat t++[]:=by simp
   have h1:=Vj (ah:=ah) hd (dC0 a) ⟨x,hx,hkx⟩;have h2:=Vj (ah:=ah) hd (dC0 b) ⟨y,hy,hky⟩;rw[Gl hd,Qo]at h1 h2;unfold EZ at h1 h2 |-;omega
  ·have:=rB ts _ p q h;omega
theorem DG_ (ts:List RT):∀q∈VH 0 ts,1<=q/\q<=(BT ts).length:=fun q h=>by have:=VF ts 0 q h;omega
theorem FX_ {sy:Nd->Sym} {ts:List RT} {x:Arc} (h:x∈ON sy ts):∃p q:Nat,p<=(BT ts).length/\1<=q/\q<=(BT ts).length/\x=⟨(p:Int),(Nt sy ts).getD (q-1) ⟨false,0⟩,(q:Int)⟩:=by
 obtain⟨p,q,cU,rfl⟩:=En_.1 h;clear h
 rcases cU with h | ⟨rfl,h⟩
 ·have:=rB ts 0 p q h;exact⟨p,q,by omega,by omega,by omega,rfl⟩
 ·have:=DG_ ts q h;exact⟨0,q,by omega,by omega,by omega,rfl⟩
def VU (sy:Nd->Sym) (ts:List RT):Auto:=⟨(BT ts).length+1,Hg ts,ON sy ts⟩
theorem Hx_ {l:List Int} {s:Int} (hp:l.Pairwise (· < ·)) (h:∀q∈l,0<=q/\q<s):(List.range l.length).all (okF s l)=true:=by
 rw[bC0];intro k hk;have hk:=dP0.1 hk
 have hs:stB s l[k]=true:=by
  have:=h _ (bW0 hk);unfold stB;simp[this]
 rcases eP0 k with rfl | h0
 ·rw[CF_ (aE0 hk)];exact hs
 ·rw[Fb_ h0 (aE0 hk) (aE0 (show k-1<l.length by omega)),hs];have:=List.pairwise_iff_getElem.1 hp (k-1) k (by omega) hk (by omega);simpa using this
theorem Gq_ {l:List Arc} {s:Int} (hp:l.Pairwise (fun x y=>CT x y<0)) (h:∀x∈l,Ul s x=true):(List.range l.length).all (okA s l)=true:=by
 rw[bC0];intro k hk;have hk:=dP0.1 hk;have hs:=h _ (bW0 hk)
 rcases eP0 k with rfl | h0
 ·rw[CG_ (aE0 hk)];exact hs
 ·rw[Fc_ h0 (aE0 hk) (aE0 (show k-1<l.length by omega)),hs,LJ];have:=List.pairwise_iff_getElem.1 hp (k-1) k (by omega) hk (by omega);simpa using this
theorem EL_ (H L:List ByteArray) (x:Nd):0<=(Eo H L x).n:=by
 unfold Eo Lb
 repeat' split
 all_goals simp
theorem FO_ (H L:List ByteArray) (ts:List RT) (kU:(BT ts).length<=64):FG (VU (Eo H L) ts)=true:=by
 unfold FG VU;simp only[aJ0,decide_eq_true_eq];refine⟨⟨by omega,by omega⟩,?_,?_⟩
 ·obtain⟨h1,h2⟩:=VE ts 0
  have hm:((Fv 0 ts).map aJ).Pairwise (· < ·):=by
   rw[cX0];exact h1.imp fun h=>by unfold aJ;omega
  have hb:∀q∈(Fv 0 ts).map aJ,0<q/\q<((BT ts).length:Int)+1:=by
   intro q hq;obtain⟨p,hp,rfl⟩:=aT0.1 hq;have:=h2 p hp;unfold aJ;omega
  refine Hx_ ?_ ?_
  ·unfold Hg
   split
   ·exact cK0.2 ⟨fun q hq=>(hb q hq).1,hm⟩
   ·exact hm
  ·intro q hq;unfold Hg at hq
   rcases aH0.1 hq with hq | hq
   ·split at hq
    ·simp at hq;subst hq;omega
    ·simp at hq
   ·have:=hb q hq;omega
 ·refine Gq_ (MX _ _) ?_;intro x hx;obtain⟨p,q,h1,h2,h3,rfl⟩:=FX_ hx
  have hn:0<=((Nt (Eo H L) ts).getD (q-1) ⟨false,0⟩).n:=by
   rw[aO0]
   cases h:(Nt (Eo H L) ts)[q-1]? with
   | none=>exact Int.le_refl 0
   | some s =>
    obtain⟨y,_,rfl⟩:=aT0.1 (bP0 h);exact EL_ H L y
  unfold Ul stB;simp only[aJ0,decide_eq_true_eq];exact⟨⟨by omega,by omega⟩,⟨by omega,by omega⟩,hn⟩
theorem sU (H L:List ByteArray) (ts:List RT):lO H L ts= .agg (Fw (VU (Eo H L) ts)):=rfl
theorem DW_ {α:Type} (e:α->α->Bool) (l:List α):(CA e l).length<=l.length:=by
 cases l with
 | nil=>simp[CA]
 | cons p t =>
  have:=Hi e t p;simp only[CA,List.length_cons];omega
theorem Bt_ (sy:Nd->Sym) (ts:List RT) (h:∀t∈ts,(flat t).length<=2048) (kU:(BT ts).length<=64):(ON sy ts).length<=1073741888:=by
 have h1:=DW_ (fun x y=>CT x y==0) (Jt CT (FN sy ts));rw[(EW CT (FN sy ts)).length_eq]at h1;have h2:=UZ ts 0 h kU;have h3:=VG ts 0;unfold ON;unfold FN at h1 |-;rw[aN0,aC0,aN0]at h1;omega
end Go.Proofs.Wy
end
section
namespace Go.Proofs.Wy
open Go Go.Dm Tryz
variable [DMode]
attribute [local irreducible] DW Bs Bt
set_option maxRecDepth 100000
theorem At.end {l:List Nd} {p:Nat} {t:RT} (h:At l p t):lB l p=(p:Int)+(flat t).length:=by
 obtain⟨qW,yW,r,hr⟩:=h;unfold lB;rw[hr,Gd _ _ 0 qW,Cu];have h2:=congrArg List.length hr;rw[cF0,aC0]at h2;simp only;omega
def Zz : Ann:=⟨[],[]⟩
theorem CF (l:List Nd) (p q:Nat) (t:RT) (h:At l p t) (hs:l.length<=1572864):Ae prog 131 [AU l,.int .i64 p,.int .i64 q] (.bool (IK t p q)):=by
 refine Ac [] Zz func131 call131 ntmps131 mxd (Au @Zz.eq_1 results131) rfl (fun qJ B qX qQ=> ?_);clear qJ;simp only[Am];have e1:=JZ l p hs h.le;rw[h.end]at e1;obtain⟨n,hn⟩:∃n,n=(flat t).length:=⟨_,rfl⟩;unfold IK;rw[<-hn]at e1 |-;have hc:((p:Int)<=(q:Int))=(p<=q):=by simp
 have hd:((q:Int)<(p:Int)+(n:Int))=(q<p+n):=by apply propext;omega
 by_cases h1:p<=q
 ·exact Av (AD e1) Ab (CD hc hd h1)
 ·exact Av (AD e1) Ab (CD hc hd h1)
theorem Fs {p:Nat} {ks:List RT} {i:Nat} {u:RT} (h:ks[i]? =some u):AP p ks (i+1)=AP p ks i+(flat u).length:=by
 unfold AP;rw[LB (ks:=ks) h];omega
theorem Ft {ks:List RT} {i:Nat} {u:RT} (h:ks[i]? =some u):ks.drop i=u::ks.drop (i+1):=by
 obtain⟨hi,rfl⟩:=aB0.1 h;exact aS0 hi
theorem Fq (p:Nat) (ks:List RT):AP p ks 0=p+1:=by unfold AP;rw[dV0,Ch];rfl
def ZA : Ann:=⟨[],[]⟩
theorem GH (q:Nat):∀(n:Nat) (t:RT) (l:List Nd) (p:Nat),(flat t).length=n->At l p t->l.length<=1572864->Ae prog 127 [AU l,.int .i64 p,.int .i64 q] (.bool (Sf t p q)):=by
 intro n
 induction n using Nat.strongRecOn with
 | ind n ih =>
 intro t l p hn ht hs;obtain⟨x,ks⟩:=t;have kk:=El l p x ks ht hs;obtain⟨g0,gl,ge⟩:=ht.head;simp only[RT.x]at g0;have g0':l[p]'gl=x:=(aB0.1 g0).2;have vP:(flat (.mk x ks)).length=(Ak ks).length+1:=by rw[AO,List.length_cons]
 have wR:=Ct ks;have hk9:ks.length<=1572864:=by omega
 have kY:∀i u,ks[i]? =some u->Ae prog 127 [AU l,.int .i64 (AP p ks i),.int .i64 q] (.bool (Sf u (AP p ks i) q)):=fun i u hu=>by
  have hm:=Em (bP0 hu);exact ih (flat u).length (by omega) u l _ rfl (ht.kid hu).1 hs
 have fP:∀i u,ks[i]? =some u->_:=fun i u hu=>CF l (AP p ks i) q u (ht.kid hu).1 hs
 have hem:∀i u,ks[i]? =some u->_:=fun i u hu=>FW _ u l (AP p ks i) rfl (ht.kid hu).1 hs
 have qK:∀i,i<ks.length->_:=fun i h=>Gv (p:=p) (ks:=ks) (i:=i) h
 rw[Ek_];unfold JM at kk;obtain⟨D,hD⟩:∃D,D=(List.range ks.length).map fun i=>HX (AP p ks i):=⟨_,rfl⟩
 have wQ:D.length=ks.length:=by rw[hD];simp
 have wI:Bp D=0:=by rw[hD];exact Ha p ks _
 rw[<-hD]at kk qK;clear hD ih ht ge hn;obtain⟨R,hR⟩:∃R,R=bgL x.k ks (p+1) q:=⟨_,rfl⟩;rw[<-hR];refine Ac [] ZA func127 call127 ntmps127 mxd (Au @ZA.eq_1 results127) rfl (fun qJ B qX qQ=> ?_);clear qJ;simp only[Am]
 by_cases cU:p=q
 ·have jU:(p:Int)=(q:Int):=by omega
  exact Av (AD kk) Ab (Au cU jU)
 have jU:¬(p:Int)=(q:Int):=by omega
 have hpqb:((p:Int)==(q:Int))=false:=by simpa using jU
 (refine AG (AD kk) Ab (CD cU jU hpqb) ?_;intros;refine Ah ?_)
 rw[<-Fq p ks,<-dW0 (l:=ks)]at hR;refine Ai (X:={i:Nat//i<=ks.length/\R=bgL x.k (ks.drop i) (AP p ks i) q}) (fun i=>⟨[(0,AU l),(1,.int .i64 p),(2,.int .i64 q),(7,.sl 1 8 D),(8,.int .i64 i.1)],[]⟩) (fun i=>ks.length-i.1) ⟨0,by omega,by simpa using hR⟩ (Sub.lit (by simp[wI])) ?_;clear hR;rintro⟨i,hi,hR⟩;simp only
 by_cases qV:i<ks.length
 ·obtain⟨u,hu,vZ,_⟩:=Ao qV;have e1:=kY i u hu;have e2:=fP i u hu;have e3:=hem i u hu;have hr:=qK i qV;have qO:i<D.length:=by omega
  have wC:IntKind.i64.wrap ((i:Int)+1)=(i:Int)+1:=wq;have qG:D[i]'qO=[.int .i64 (AP p ks i:Int)]:=(aB0.1 hr).2;rw[Ft hu,Sg,<-Fs hu]at hR;obtain⟨a,ha⟩:∃a,a=AP p ks i:=⟨_,rfl⟩;rw[<-ha]at e1 e2 e3 hr qG hR;obtain⟨b1,qI⟩:∃b1,b1=IK u a q:=⟨_,rfl⟩;obtain⟨b2,qT⟩:∃b2,b2=Sf u a q:=⟨_,rfl⟩;obtain⟨b3,cA⟩:∃b3,b3=BU u:=⟨_,rfl⟩;rw[<-qI]at e2 hR;rw[<-qT]at e1 hR;rw[<-cA]at e3 hR
  by_cases hb:(b1&&b2)=true
  ·rw[hb,Bool.true_or]at hR;simp only[aJ0]at hb;rw[hb.1]at e2;rw[hb.2]at e1;exact Av (CD e1 e2 e3) Ab (GN wQ qO hr qG qV hR)
  ·rw[dU0]at hb;rw[hb,eE0]at hR
   by_cases k4:x.k=4
   ·cases b3
    ·rw[if_pos ⟨k4,rfl⟩]at hR;cases b1
     ·exact Av (CD e1 e2 e3) Ab (Jn @Bq.eq_1 g0 g0' gl wQ qO hr qG qV hR k4)
     ·simp only[cC0]at hb;rw[hb]at e1;exact Av (CD e1 e2 e3) Ab (Jn @Bq.eq_1 g0 g0' gl wQ qO hr qG qV hR k4)
    ·rw[if_neg (by simp)]at hR;cases b1
     ·(refine AG (CD e1 e2 e3) Ab (Jn @Bq.eq_1 g0 g0' gl wQ qO wC hr qG qV k4) ?_;intros;refine Ah ?_)
      refine Aj.mk ⟨i+1,by omega,hR⟩ (Sub.lit (by simp[wI])) (by simp;omega)
      skip
     ·simp only[cC0]at hb;rw[hb]at e1
      (refine AG (CD e1 e2 e3) Ab (Jn @Bq.eq_1 g0 g0' gl wQ qO wC hr qG qV k4) ?_;intros;refine Ah ?_)
      refine Aj.mk ⟨i+1,by omega,hR⟩ (Sub.lit (by simp[wI])) (by simp;omega)
      skip
   ·rw[if_neg (fun h=>k4 h.1)]at hR;have b4:(x.k==4)=false:=by simpa using k4
    cases b1
    ·(refine AG (CD e1 e2 e3) Ab (oC @Bq.eq_1 g0 g0' gl wQ qO wC hr qG qV k4 b4) ?_;intros;refine Ah ?_)
     refine Aj.mk ⟨i+1,by omega,hR⟩ (Sub.lit (by simp[wI])) (by simp;omega)
     skip
    ·simp only[cC0]at hb;rw[hb]at e1
     (refine AG (CD e1 e2 e3) Ab (oC @Bq.eq_1 g0 g0' gl wQ qO wC hr qG qV k4 b4) ?_;intros;refine Ah ?_)
     refine Aj.mk ⟨i+1,by omega,hR⟩ (Sub.lit (by simp[wI])) (by simp;omega)
     skip
 ·have qZ:i=ks.length:=by omega
  subst qZ;rw[bT0,PK]at hR;exact Av Ab Ab (Au wQ hR)
theorem aT {α:Type} {l:List α} {i:Nat} {x:α} (h:l[i]? =some x):l.take (i+1)=l.take i++[x]:=by rw[bJ0,h];rfl
def tM : Ann:=⟨[],[]⟩
theorem JY (q:Nat):∀(n:Nat) (t:RT) (l:List Nd) (p:Nat),(flat t).length=n->At l p t->l.length<=1572864->Ae prog 90 [AU l,.int .i64 p,.int .i64 q] (.bool (MH t p q)):=by
 intro n
 induction n using Nat.strongRecOn with
 | ind n ih =>
 intro t l p hn ht hs;obtain⟨x,ks⟩:=t;have kk:=El l p x ks ht hs;obtain⟨g0,gl,ge⟩:=ht.head;simp only[RT.x]at g0;have g0':l[p]'gl=x:=(aB0.1 g0).2;have vP:(flat (.mk x ks)).length=(Ak ks).length+1:=by rw[AO,List.length_cons]
 have wR:=Ct ks;have hk9:ks.length<=1572864:=by omega
 have kY:∀i u,ks[i]? =some u->Ae prog 90 [AU l,.int .i64 (AP p ks i),.int .i64 q] (.bool (MH u (AP p ks i) q)):=fun i u hu=>by
  have hm:=Em (bP0 hu);exact ih (flat u).length (by omega) u l _ rfl (ht.kid hu).1 hs
 have fP:∀i u,ks[i]? =some u->_:=fun i u hu=>CF l (AP p ks i) q u (ht.kid hu).1 hs
 have hem:∀i u,ks[i]? =some u->_:=fun i u hu=>FW _ u l (AP p ks i) rfl (ht.kid hu).1 hs
 have qK:∀i,i<ks.length->_:=fun i h=>Gv (p:=p) (ks:=ks) (i:=i) h
 rw[DM_];unfold JM at kk;obtain⟨D,hD⟩:∃D,D=(List.range ks.length).map fun i=>HX (AP p ks i):=⟨_,rfl⟩
 have wQ:D.length=ks.length:=by rw[hD];simp
 have wI:Bp D=0:=by rw[hD];exact Ha p ks _
 rw[<-hD]at kk qK;clear hD ih ht ge hn;obtain⟨R,hR⟩:∃R,R=sL x.k ks (p+1) q:=⟨_,rfl⟩;rw[<-hR];refine Ac [] tM func90 call90 ntmps90 mxd (Au @tM.eq_1 results90) rfl (fun qJ B qX qQ=> ?_);clear qJ;simp only[Am]
 by_cases cU:p=q
 ·have jU:(p:Int)=(q:Int):=by omega
  exact Av (AD kk) Ab (Au cU jU)
 have jU:¬(p:Int)=(q:Int):=by omega
 have hpqb:((p:Int)==(q:Int))=false:=by simpa using jU
 (refine AG (AD kk) Ab (CD cU jU hpqb) ?_;intros;refine Ah ?_)
 have hw0:IntKind.i64.wrap ((ks.length:Int)-1)=(ks.length:Int)-1:=wq;refine Ai (X:={m:Nat//m<=ks.length/\R=sL x.k (ks.take m) (p+1) q}) (fun m=>⟨[(0,AU l),(1,.int .i64 p),(2,.int .i64 q),(7,.sl 1 8 D),(8,.int .i64 ((m.1:Int)-1))],[]⟩) (fun m=>m.1) ⟨ks.length,by omega,by rw[aW0];exact hR⟩ (Sub.lit (by simp[wI,wQ,hw0])) ?_;clear hR;rintro⟨m,hi,hR⟩;simp only
 cases m with
 | zero =>
  rw[dV0,MI]at hR;exact Av Ab Ab (AD hR)
 | succ i =>
  have qV:i<ks.length:=by omega
  obtain⟨u,hu,vZ,_⟩:=Ao qV;have e1:=kY i u hu;have e2:=fP i u hu;have e3:=hem i u hu;have hr:=qK i qV;have qO:i<D.length:=by omega
  have hi1:(((i+1:Nat):Int)-1)=(i:Int):=by omega
  have wC:IntKind.i64.wrap ((i:Int)-1)=(i:Int)-1:=wq;have qG:D[i]'qO=[.int .i64 (AP p ks i:Int)]:=(aB0.1 hr).2;rw[aT hu,Yo]at hR;rw[show p+1+(Ak (ks.take i)).length=AP p ks i from rfl]at hR;obtain⟨a,ha⟩:∃a,a=AP p ks i:=⟨_,rfl⟩;rw[<-ha]at e1 e2 e3 hr qG hR;obtain⟨b1,qI⟩:∃b1,b1=IK u a q:=⟨_,rfl⟩;obtain⟨b2,qT⟩:∃b2,b2=MH u a q:=⟨_,rfl⟩;obtain⟨b3,cA⟩:∃b3,b3=BU u:=⟨_,rfl⟩;rw[<-qI]at e2 hR;rw[<-qT]at e1 hR;rw[<-cA]at e3 hR
  rw[hi1]
  by_cases hb:(b1&&b2)=true
  ·rw[hb,Bool.true_or]at hR;simp only[aJ0]at hb;rw[hb.1]at e2;rw[hb.2]at e1;exact Av (CD e1 e2 e3) Ab (GN wQ qO hr qG qV hR)
  ·rw[dU0]at hb;rw[hb,eE0]at hR
   by_cases k4:x.k=4
   ·cases b3
    ·rw[if_pos ⟨k4,rfl⟩]at hR;cases b1
     ·exact Av (CD e1 e2 e3) Ab (Jn @Bq.eq_1 g0 g0' gl wQ qO hr qG qV hR k4)
     ·simp only[cC0]at hb;rw[hb]at e1;exact Av (CD e1 e2 e3) Ab (Jn @Bq.eq_1 g0 g0' gl wQ qO hr qG qV hR k4)
    ·rw[if_neg (by simp)]at hR;cases b1
     ·(refine AG (CD e1 e2 e3) Ab (Jn @Bq.eq_1 g0 g0' gl wQ qO wC hr qG qV k4) ?_;intros;refine Ah ?_)
      refine Aj.mk ⟨i,by omega,hR⟩ (Sub.lit (by simp[wI])) (by simp)
      skip
     ·simp only[cC0]at hb;rw[hb]at e1
      (refine AG (CD e1 e2 e3) Ab (Jn @Bq.eq_1 g0 g0' gl wQ qO wC hr qG qV k4) ?_;intros;refine Ah ?_)
      refine Aj.mk ⟨i,by omega,hR⟩ (Sub.lit (by simp[wI])) (by simp)
      skip
   ·rw[if_neg (fun h=>k4 h.1)]at hR;have b4:(x.k==4)=false:=by simpa using k4
    cases b1
    ·(refine AG (CD e1 e2 e3) Ab (oC @Bq.eq_1 g0 g0' gl wQ qO wC hr qG qV k4 b4) ?_;intros;refine Ah ?_)
     refine Aj.mk ⟨i,by omega,hR⟩ (Sub.lit (by simp[wI])) (by simp)
     skip
    ·simp only[cC0]at hb;rw[hb]at e1
     (refine AG (CD e1 e2 e3) Ab (oC @Bq.eq_1 g0 g0' gl wQ qO wC hr qG qV k4 b4) ?_;intros;refine Ah ?_)
     refine Aj.mk ⟨i,by omega,hR⟩ (Sub.lit (by simp[wI])) (by simp)
     skip
def Zy : Ann:=⟨[],[]⟩
theorem SQ (l:List Nd) (P p q:Nat) (x:Nd) (ks:List RT) (ht:At l P (.mk x ks)) (hs:l.length<=1572864):Ae prog 190 [AU l,JM P ks,.int .i64 p,.int .i64 q] (.bool (Wt ks (P+1) p q)):=by
 obtain⟨g0,gl,ge⟩:=ht.head;have vP:(flat (.mk x ks)).length=(Ak ks).length+1:=by rw[AO,List.length_cons]
 have wR:=Ct ks;have hk9:ks.length<=1572864:=by omega
 have zN:∀i u,ks[i]? =some u->_:=fun i u hu=>CF l (AP P ks i) p u (ht.kid hu).1 hs
 have jV:∀i u,ks[i]? =some u->_:=fun i u hu=>CF l (AP P ks i) q u (ht.kid hu).1 hs
 have vG:∀i u,ks[i]? =some u->_:=fun i u hu=>JY p _ u l (AP P ks i) rfl (ht.kid hu).1 hs
 have mN:∀i u,ks[i]? =some u->_:=fun i u hu=>GH q _ u l (AP P ks i) rfl (ht.kid hu).1 hs
 have hem:∀i u,ks[i]? =some u->_:=fun i u hu=>FW _ u l (AP P ks i) rfl (ht.kid hu).1 hs
 have qK:∀i,i<ks.length->_:=fun i h=>Gv (p:=P) (ks:=ks) (i:=i) h
 unfold JM;obtain⟨D,hD⟩:∃D,D=(List.range ks.length).map fun i=>HX (AP P ks i):=⟨_,rfl⟩
 have wQ:D.length=ks.length:=by rw[hD];simp
 have wI:Bp D=0:=by rw[hD];exact Ha P ks _
 rw[<-hD]at qK |-;clear hD ht ge;obtain⟨R,hR⟩:∃R,R=Wt ks (P+1) p q:=⟨_,rfl⟩;rw[<-hR];rw[<-Fq P ks,<-dW0 (l:=ks)]at hR;refine Ac [] Zy func190 call190 ntmps190 mxd (Au @Zy.eq_1 results190) rfl (fun qJ B qX qQ=> ?_);clear qJ;simp only[Am]
 (refine AG Ab Ab Ab ?_;intros;refine Ah ?_)
 refine Ai (X:={i:Nat//i<=ks.length/\R=Wt (ks.drop i) (AP P ks i) p q}) (fun i=>⟨[(0,AU l),(1,.sl 1 8 D),(2,.int .i64 p),(3,.int .i64 q),(9,.int .i64 i.1)],[]⟩) (fun i=>ks.length-i.1) ⟨0,by omega,by simpa using hR⟩ (Sub.lit (by simp[wI])) ?_;clear hR;rintro⟨i,hi,hR⟩;simp only
 by_cases qV:i<ks.length
 ·obtain⟨u,hu,vZ,_⟩:=Ao qV;have e1:=zN i u hu;have e2:=vG i u hu;have hr:=qK i qV;have qO:i<D.length:=by omega
  have wC:IntKind.i64.wrap ((i:Int)+1)=(i:Int)+1:=wq;have qG:D[i]'qO=[.int .i64 (AP P ks i:Int)]:=(aB0.1 hr).2;have fH:¬(ks.length:Int)<=(i:Int):=by omega
  rw[Ft hu,Wt,<-Fs hu]at hR;obtain⟨a,ha⟩:∃a,a=AP P ks i:=⟨_,rfl⟩;rw[<-ha]at e1 e2 hr qG hR;obtain⟨b1,qI⟩:∃b1,b1=IK u a p:=⟨_,rfl⟩;obtain⟨b2,qT⟩:∃b2,b2=MH u a p:=⟨_,rfl⟩;rw[<-qI]at e1 hR;rw[<-qT]at e2 hR;clear qI qT;cases b1
  ·simp only[aR0,if_false]at hR
   (refine AG (Au e1 e2) Ab (GN wQ qO wC hr qG qV) ?_;intros;refine Ah ?_)
   refine Aj.mk ⟨i+1,by omega,hR⟩ (Sub.lit (by simp[wI])) (by simp;omega)
   skip
  ·simp only[if_true]at hR;cases b2
   ·simp only[cM0]at hR;exact Av (Au e1 e2) Ab (KQ wQ qO wC hr qG qV fH hR)
   ·simp only[cC0]at hR
    (refine AG (Au e1 e2) Ab (Iw wQ qO wC hr qG qV fH) ?_;intros;refine Ah ?_)
    refine Ai (X:={j:Nat//j<=ks.length/\R=afL (ks.drop j) (AP P ks j) q}) (fun j=>⟨[(0,AU l),(1,.sl 1 8 D),(2,.int .i64 p),(3,.int .i64 q),(9,.int .i64 j.1)],[]⟩) (fun j=>ks.length-j.1) ⟨i+1,by omega,hR⟩ (Sub.lit (by simp[wI])) ?_;clear hR hr qG wC qO;rintro⟨j,hj,hR⟩;simp only
    by_cases qL:j<ks.length
    ·obtain⟨v,hv,jH,_⟩:=Ao qL;have e3:=jV j v hv;have e4:=mN j v hv;have e5:=hem j v hv;have hr:=qK j qL;have qO:j<D.length:=by omega
     have wC:IntKind.i64.wrap ((j:Int)+1)=(j:Int)+1:=wq;have qG:D[j]'qO=[.int .i64 (AP P ks j:Int)]:=(aB0.1 hr).2;rw[Ft hv,afL,<-Fs hv]at hR;obtain⟨c,wU⟩:∃c,c=AP P ks j:=⟨_,rfl⟩;rw[<-wU]at e3 e4 e5 hr qG hR;obtain⟨b3,cA⟩:∃b3,b3=IK v c q:=⟨_,rfl⟩;obtain⟨b4,hb4⟩:∃b4,b4=Sf v c q:=⟨_,rfl⟩;obtain⟨b5,hb5⟩:∃b5,b5=BU v:=⟨_,rfl⟩;rw[<-cA]at e3 hR;rw[<-hb4]at e4 hR;rw[<-hb5]at e5 hR;clear cA hb4 hb5;cases b3
     ·simp only[aR0,if_false]at hR;cases b5
      ·simp only[aR0,if_false]at hR;exact Av (CD e3 e4 e5) Ab (Iw wQ qO wC hr qG qL hR)
      ·simp only[if_true]at hR
       (refine AG (CD e3 e4 e5) Ab (GN wQ qO wC hr qG qL) ?_;intros;refine Ah ?_)
       refine Aj.mk ⟨j+1,by omega,hR⟩ (Sub.lit (by simp[wI])) (by simp;omega)
       skip
     ·simp only[if_true]at hR;exact Av (CD e3 e4 e5) Ab (Iw wQ qO wC hr qG qL hR)
    ·have qZ:j=ks.length:=by omega
     subst qZ;rw[bT0]at hR;have wX:R=false:=hR;exact Av Ab Ab (Au wQ wX)
 ·have qZ:i=ks.length:=by omega
  subst qZ;rw[bT0]at hR;have wX:R=false:=hR;exact Av Ab Ab (Au wQ wX)
end Go.Proofs.Wy
end
