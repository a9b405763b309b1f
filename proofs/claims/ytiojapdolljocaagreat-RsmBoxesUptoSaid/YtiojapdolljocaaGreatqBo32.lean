/- Parts of a proof, laid together: BP0, BY1, RB1, RB2, RB3, RB4, RB5, RB6, BP1, RB7, RB8, BX4, BX6, RB9, BX2, RB10. -/
import Derived.Test.YtiojapdolljocaaGreatqBo15
import Derived.Test.YtiojapdolljocaaGreatqBo20
import Derived.Test.YtiojapdolljocaaGreatqBo25
import Derived.Test.YtiojapdolljocaaGreatqBo27
import Derived.Test.YtiojapdolljocaaGreatqBo28
import Derived.Test.YtiojapdolljocaaGreatqBo29
import Derived.Test.YtiojapdolljocaaGreatqBo30
import Derived.Test.YtiojapdolljocaaGreatqBo31
set_option linter.unusedSimpArgs false
set_option maxHeartbeats 8000000
set_option linter.unusedVariables false
set_option linter.unusedSectionVars false
section
namespace Go.Proofs.Wy
open Go Go.Dm Tryz
variable [DMode]
theorem HO (l:List Nd):∃c:Int,Ae prog 55 [Bl l] (.int .i64 c)/\Ae prog 125 [Bl l] (.int .i64 c)/\(c=0->l.length<=2048/\∃t,EZ t=true/\l=flat t)/\(l.length<=2048->CT l=true->∃t,EZ t=true/\l=flat t/\c=CV t):=by
 by_cases h:2048<l.length
 ·exact⟨3,LJ l h,Pg l h,by omega,fun hh=>by omega⟩
 ·cases hw:CT l with
  | false=>exact⟨170,Xb l (by omega) hw,Rg l (by omega) hw,by omega,fun _ hh=>by simp at hh⟩
  | true =>
   obtain⟨t,ht,rfl⟩:=Kh hw;exact⟨CV t,LI t ht (by omega),Pf t ht (by omega),fun _=>⟨by omega,t,ht,rfl⟩,fun _ _=>⟨t,ht,rfl,rfl⟩⟩
noncomputable def LO (l:List Nd):Int:=Classical.choose (HO l)
theorem Dr_ (l:List Nd):Ae prog 55 [Bl l] (.int .i64 (LO l)):=(Classical.choose_spec (HO l)).1
theorem Ds_ {l:List Nd} (h:LO l=0):l.length<=2048/\∃t,EZ t=true/\l=flat t:=(Classical.choose_spec (HO l)).2.2.1 h
theorem Dq_ {l:List Nd} (h:l.length<=2048) (hw:CT l=true):∃t,EZ t=true/\l=flat t/\LO l=CV t:=(Classical.choose_spec (HO l)).2.2.2 h hw
noncomputable def KE : List (List Nd)->Int
 | []=>0
 | l::ls=>if LO l=0 then KE ls else LO l
theorem Qf : ∀{ls:List (List Nd)},KE ls=0->∃ts:List RT,ls=ts.map flat/\∀t∈ts,EZ t=true/\(flat t).length<=2048
 | [],_=>⟨[],rfl,by simp⟩
 | l::ls,h=>by
  unfold KE at h
  split at h
  ·rename_i h1;obtain⟨h2,t,h3,h4⟩:=Ds_ h1;obtain⟨ts,h5,h6⟩:=Qf h;refine⟨t::ts,by rw[h5,h4];rfl,fun u hu=> ?_⟩
   rcases aJ0.1 hu with rfl | hu
   ·exact⟨h3,by rw[<-h4];exact h2⟩
   ·exact h6 u hu
  ·rename_i h1;exact absurd h h1
def MU (H L:List ByteArray) (l:List Nd):Bool:=l.any fun x=>decide (YM H L x=4)
def GQ (l:List Nd):List DVal:=[Bl l]
@[simp] theorem CB_ (l:List Nd):AH (GQ l)=0:=by simp[GQ,AH,mx]
@[simp] theorem Fj_ (l:List (List Nd)):Bo (l.map GQ)=0:=Ie _ CB_ l
def Ce (ls:List (List Nd)):Nat:=(ls.map EP).sum
theorem rC (ls:List (List Nd)) (l:List Nd):Ce (ls++[l])=Ce ls+EP l:=by simp[Ce]
theorem xY : Ce []=0:=rfl
theorem FF : ∀ts:List RT,Ce (ts.map flat)=(CB ts).length
 | []=>by simp[Ce,CB]
 | t::ts=>by
  have ih:=FF ts;have h1:CB (t::ts)=CU (flat t)++CB ts:=by simp[CB]
  have h2:Ce (List.map flat (t::ts))=EP (flat t)+Ce (ts.map flat):=by simp[Ce]
  rw[h2,h1,aB0,ih,Lk]
theorem eN : ∀(ts:List RT),(∀t∈ts,(flat t).length<=2048)->Ce (ts.map flat)<=2048*ts.length
 | [],_=>by simp[Ce]
 | t::ts,h=>by
  have ih:=eN ts fun u hu=>h u (aF0 _ hu)
  have h1:=h t aH0;have h2:Ce (List.map flat (t::ts))=EP (flat t)+Ce (ts.map flat):=by simp[Ce]
  have h3:EP (flat t)<=(flat t).length:=by rw[Lk];exact cI0 _ _
  rw[h2,List.length_cons];omega
theorem rB {ls:List (List Nd)} {k:Nat}:Ce (ls.take k)<=Ce ls:=by
 have h1:Ce ls=Ce (ls.take k)+Ce (ls.drop k):=by
  unfold Ce;rw[<-List.sum_append_nat,<-bF0,List.take_append_drop]
 omega
theorem Dw_ (t:RT) (h:(flat t).length<=2048) (jR:(CU (flat t)).length<=64):(aC t 0).length<=16777216*(CU (flat t)).length:=by
 by_cases h0:(CU (flat t)).length=0
 ·have:aC t 0=[]:=by
   cases ha:aC t 0 with
   | nil=>rfl
   | cons p r =>
    exfalso;obtain⟨⟨x,hx,hk⟩,_⟩:=QK t 0 p.1 p.2 (by rw[ha];exact aH0)
    have h1:x∈CU (flat t):=by
     unfold CU;rw[cC0];exact⟨bU0 hx,Dp.2 hk⟩
    have:=List.length_pos_of_mem h1;omega
  rw[this];simp
 ·have:=UA t 0 jR;omega
theorem TH : ∀(ts:List RT) (ah:Nat),(∀t∈ts,(flat t).length<=2048)->(CB ts).length<=64->(Zc ah ts).length<=16777216*(CB ts).length
 | [],ah,_,_=>by simp[Zc]
 | t::ts,ah,h,jR=>by
  have h1:CB (t::ts)=CU (flat t)++CB ts:=by simp[CB]
  rw[h1,aB0]at jR |-;have ih:=TH ts (ah+(CU (flat t)).length) (fun u hu=>h u (aF0 _ hu)) (by omega);have h2:=Dw_ t (h t aH0) (by omega);rw[Zc,aB0,aO0];omega
theorem Um : ∀(ts:List RT) (ah:Nat),(YB ah ts).length<=(CB ts).length
 | [],ah=>by simp[YB]
 | t::ts,ah=>by
  have h1:CB (t::ts)=CU (flat t)++CB ts:=by simp[CB]
  have ih:=Um ts (ah+(CU (flat t)).length);have h2:=Ox t 0;rw[YB,h1,aB0,aB0,aO0];omega
theorem eX : ∀(ts:List RT) (ah:Nat),(eY ah ts).length<=(CB ts).length
 | [],ah=>by simp[eY]
 | t::ts,ah=>by
  have h1:CB (t::ts)=CU (flat t)++CB ts:=by simp[CB]
  have ih:=eX ts (ah+(CU (flat t)).length);have h2:=Ot t 0;rw[eY,h1,aB0,aB0,aO0];omega
theorem Ul : ∀(ts:List RT) (ah:Nat),∀q∈YB ah ts,1<=q/\q<=ah+(CB ts).length
 | [],ah,q,h=>by simp[YB]at h
 | t::ts,ah,q,h=>by
  have h1:CB (t::ts)=CU (flat t)++CB ts:=by simp[CB]
  rw[h1,aB0];rw[YB,aI0]at h
  rcases h with h | h
  ·have h2:(flat t).drop 0=flat t++[]:=by simp
   have h3:=AS_ (ah:=ah) h2 q h;rw[FB h2,OV]at h3;omega
  ·have:=Ul ts _ q h;omega
def PZ (us:List RT):List Nat:=YB 0 us
def MH (us:List RT):List Nat:=eY 0 us
def Jb (SF:List Sym) (us:List RT):List Arc:=CR SF (Zc 0 us)
theorem uQ (sy:Nd->Sym) (us:List RT) (t:RT):Oc sy (us++[t])=Oc sy us++(CU (flat t)).map sy:=by unfold Oc;rw[Wg,bF0]
theorem Ob (sy:Nd->Sym) (us:List RT):(Oc sy us).length=(CB us).length:=by simp[Oc]
theorem uP (H L:List ByteArray) (us:List RT) (t:RT):GK H L (Oc (En H L) us) t=Oc (En H L) (us++[t]):=by unfold GK;rw[uQ]
theorem sN (us:List RT) (t:RT):PZ us++Hc (flat t) (CB us).length t 0=PZ (us++[t]):=by unfold PZ Hc;rw[WP,bN0]
theorem rX (us:List RT) (t:RT):MH us++JM (flat t) (CB us).length t 0=MH (us++[t]):=by unfold MH JM;rw[Wp,bN0]
theorem ZY (SF:List Sym) (us:List RT) (t:RT):ET SF (flat t) (CB us).length (Jb SF us) t 0=Jb SF (us++[t]):=by unfold Jb ET;rw[VE,Fx,bN0]
theorem tK (sy:Nd->Sym) (ts:List RT):Jb (Oc sy ts) ts++CR (Oc sy ts) (Cn [0] (PZ ts))=Gn sy ts:=by
 unfold Jb Gn PZ CR Cn;rw[bF0];simp
theorem CO_ {us vs:List RT}:(CB us).length<=(CB (us++vs)).length:=by
 have:CB (us++vs)=CB us++CB vs:=by simp[CB]
 rw[this,aB0];omega
theorem Ca_ (sy:Nd->Sym) (us vs:List RT):Oc sy us <+: Oc sy (us++vs):=by
 unfold Oc;have:CB (us++vs)=CB us++CB vs:=by simp[CB]
 rw[this,bF0];exact List.prefix_append _ _
theorem aD (us:List RT) (t:RT):(GD us||DQ t)=GD (us++[t]):=(SR us t).symm
def BA_ (n:Int) (fs:List Int) (zs:List Arc):DVal:= .agg [.int .i64 n,Gk fs,FS zs]
def Br_ (H L:List ByteArray) (ts:List RT):DVal:=BA_ ((CB ts).length+1) (IW ts) (CA (fun x y=>Gd x y==0) (KV Gd (Gn (En H L) ts)))
def LS (sy:Nd->Sym) (ts:List RT):List Arc:=CA (fun x y=>Gd x y==0) (KV Gd (Gn sy ts))
theorem rM {sy:Nd->Sym} {ts:List RT} {x:Arc}:x∈LS sy ts↔x∈Gn sy ts:=by
 unfold LS;rw[(LF Gx (Hz Gx (Gn sy ts))).2,(Kk _ _).mem_iff]
theorem LR (sy:Nd->Sym) (ts:List RT):DT Gd (LS sy ts):=(LF Gx (Hz Gx (Gn sy ts))).1
theorem BB_ {sy:Nd->Sym} {ts:List RT} {x:Arc}:x∈LS sy ts↔∃p q,((p,q)∈Zc 0 ts\/(p=0/\q∈YB 0 ts))/\x=BE_ (Oc sy ts) (p,q):=by
 rw[rM];unfold Gn;rw[aR0]
 constructor
 ·rintro⟨⟨p,q⟩,h,rfl⟩;refine⟨p,q,?_,rfl⟩
  rcases aI0.1 h with h | h
  ·exact .inl h
  ·obtain⟨q',hq,he⟩:=aR0.1 h;simp only[_root_.Prod.mk.injEq]at he;obtain⟨rfl,rfl⟩:=he;exact .inr ⟨rfl,hq⟩
 ·rintro⟨p,q,h,rfl⟩;refine⟨(p,q),?_,rfl⟩
  rcases h with h | ⟨rfl,h⟩
  ·exact aL0 _ h
  ·exact aP0 _ (aR0.2 ⟨q,h,rfl⟩)
theorem eC : ∀(ts:List RT) (ah:Nat) (p q:Nat),(p,q)∈Zc ah ts->(ah<p/\p<=ah+(CB ts).length)/\ah<q/\q<=ah+(CB ts).length
 | [],ah,p,q,h=>by simp[Zc]at h
 | t::ts,ah,p,q,h=>by
  have hl:(CB (t::ts)).length=(CU (flat t)).length+(CB ts).length:=by simp[CB]
  rw[Zc,aI0]at h
  rcases h with h | h
  ·obtain⟨⟨a,b⟩,hab,he⟩:=aR0.1 h;simp only[rD,_root_.Prod.mk.injEq]at he;obtain⟨rfl,rfl⟩:=he;obtain⟨⟨x,hx,hkx⟩,⟨y,hy,hky⟩⟩:=QK t 0 a b hab;have hd:(flat t).drop 0=flat t++[]:=by simp
   have h1:=TR (ah:=ah) hd (dB0 a) ⟨x,hx,hkx⟩;have h2:=TR (ah:=ah) hd (dB0 b) ⟨y,hy,hky⟩;rw[FB hd,OV]at h1 h2;unfold Mh at h1 h2 |-;omega
  ·have:=eC ts _ p q h;omega
theorem AT_ (ts:List RT):∀q∈YB 0 ts,1<=q/\q<=(CB ts).length:=fun q h=>by have:=Ul ts 0 q h;omega
theorem iS {sy:Nd->Sym} {ts:List RT} {x:Arc} (h:x∈LS sy ts):∃p q:Nat,p<=(CB ts).length/\1<=q/\q<=(CB ts).length/\x=⟨(p:Int),(Oc sy ts).getD (q-1) ⟨false,0⟩,(q:Int)⟩:=by
 obtain⟨p,q,hpq,rfl⟩:=BB_.1 h;clear h
 rcases hpq with h | ⟨rfl,h⟩
 ·have:=eC ts 0 p q h;exact⟨p,q,by omega,by omega,by omega,rfl⟩
 ·have:=AT_ ts q h;exact⟨0,q,by omega,by omega,by omega,rfl⟩
def Xe (sy:Nd->Sym) (ts:List RT):Auto:=⟨(CB ts).length+1,IW ts,LS sy ts⟩
theorem EX_ {l:List Int} {s:Int} (hp:l.Pairwise (· < ·)) (h:∀q∈l,0<=q/\q<s):(List.range l.length).all (okF s l)=true:=by
 rw[bB0];intro k hk;have hk:=dQ0.1 hk
 have hs:stB s l[k]=true:=by
  have:=h _ (bT0 hk);unfold stB;simp[this]
 rcases Nat.eq_zero_or_pos k with rfl | h0
 ·rw[xT (aD0 hk)];exact hs
 ·rw[Cr_ h0 (aD0 hk) (aD0 (show k-1<l.length by omega)),hs];have:=List.pairwise_iff_getElem.1 hp (k-1) k (by omega) hk (by omega);simpa using this
theorem DR_ {l:List Arc} {s:Int} (hp:l.Pairwise (fun x y=>Gd x y<0)) (h:∀x∈l,SP s x=true):(List.range l.length).all (okA s l)=true:=by
 rw[bB0];intro k hk;have hk:=dQ0.1 hk;have hs:=h _ (bT0 hk)
 rcases Nat.eq_zero_or_pos k with rfl | h0
 ·rw[xU (aD0 hk)];exact hs
 ·rw[Cs_ h0 (aD0 hk) (aD0 (show k-1<l.length by omega)),hs,QI];have:=List.pairwise_iff_getElem.1 hp (k-1) k (by omega) hk (by omega);simpa using this
theorem BY_ (H L:List ByteArray) (x:Nd):0<=(En H L x).n:=by
 unfold En Lu
 repeat' split
 all_goals simp
theorem Dn_ (H L:List ByteArray) (ts:List RT) (jR:(CB ts).length<=64):GC (Xe (En H L) ts)=true:=by
 unfold GC Xe;simp only[aN0,decide_eq_true_eq];refine⟨⟨by omega,by omega⟩,?_,?_⟩
 ·obtain⟨h1,h2⟩:=Uk ts 0
  have hm:((KC 0 ts).map aP).Pairwise (· < ·):=by
   rw[cX0];exact h1.imp fun h=>by unfold aP;omega
  have hb:∀q∈(KC 0 ts).map aP,0<q/\q<((CB ts).length:Int)+1:=by
   intro q hq;obtain⟨p,hp,rfl⟩:=aR0.1 hq;have:=h2 p hp;unfold aP;omega
  refine EX_ ?_ ?_
  ·unfold IW
   split
   ·exact cM0.2 ⟨fun q hq=>(hb q hq).1,hm⟩
   ·exact hm
  ·intro q hq;unfold IW at hq
   rcases aI0.1 hq with hq | hq
   ·split at hq
    ·simp at hq;subst hq;omega
    ·simp at hq
   ·have:=hb q hq;omega
 ·refine DR_ (LR _ _) ?_;intro x hx;obtain⟨p,q,h1,h2,h3,rfl⟩:=iS hx
  have hn:0<=((Oc (En H L) ts).getD (q-1) ⟨false,0⟩).n:=by
   rw[aM0]
   cases h:(Oc (En H L) ts)[q-1]? with
   | none=>exact Int.le_refl 0
   | some s =>
    obtain⟨y,_,rfl⟩:=aR0.1 (bU0 h);exact BY_ H L y
  unfold SP stB;simp only[aN0,decide_eq_true_eq];exact⟨⟨by omega,by omega⟩,⟨by omega,by omega⟩,hn⟩
theorem Do_ (H L:List ByteArray) (ts:List RT):Br_ H L ts= .agg (FQ (Xe (En H L) ts)):=rfl
theorem Bi_ {α:Type} (e:α->α->Bool) (l:List α):(CA e l).length<=l.length:=by
 cases l with
 | nil=>simp[CA]
 | cons p t =>
  have:=Gl e t p;simp only[CA,List.length_cons];omega
theorem tM (sy:Nd->Sym) (ts:List RT) (h:∀t∈ts,(flat t).length<=2048) (jR:(CB ts).length<=64):(LS sy ts).length<=1073741888:=by
 have h1:=Bi_ (fun x y=>Gd x y==0) (KV Gd (Gn sy ts));rw[(Kk Gd (Gn sy ts)).length_eq]at h1;have h2:=TH ts 0 h jR;have h3:=Um ts 0;unfold LS;unfold Gn at h1 |-;rw[aO0,aB0,aO0]at h1;omega
end Go.Proofs.Wy
end
section
namespace Go.Proofs.Wy
open Go Go.Dm Tryz
variable [DMode]
attribute [local irreducible] DW Bm Bq
set_option maxRecDepth 100000
theorem At.end {l:List Nd} {p:Nat} {t:RT} (h:At l p t):ZI l p=(p:Int)+(flat t).length:=by
 obtain⟨qW,yL,r,hr⟩:=h;unfold ZI;rw[hr,Fv _ _ 0 qW,Ch];have h2:=congrArg List.length hr;rw[cB0,aB0]at h2;simp only;omega




def syG (g:List Rul):Nd->Sym:=En (Av g) (AC g)
end Go.Proofs.Wy
end
section
namespace Go.Proofs.Wy
open Go Go.Dm Go.Shelf Tryz
variable [DMode]
attribute [local irreducible] DW Bm Bq
set_option maxRecDepth 100000
abbrev Bz_ : DVal:= .agg [.int .i64 0,.nilsl,.nilsl]
abbrev EI (ls:List (List Nd)):DVal:= .sl 1 24 (ls.map GQ)
theorem WX (l:List Arc):Bh prog (.func 65) [.osl 0 0] [⟨0,0,.row 39 4 32 (l.map Cs)⟩] (FS (CA (fun x y=>Gd x y==0) l)) []:=Rv l
theorem OP (l:List Nat):Bh prog (.func 64) [.osl 0 0] [⟨0,0,.row 3 1 8 (l.map BH)⟩] (.tup []) [⟨0,0,.row 3 1 8 ((HX (l.map aP)).map Qn)⟩]:=by
 have h:=Ra (l.map aP);rw[bY0]at h;exact h
structure BoxR (H L:List ByteArray) (ls:List (List Nd)) (R:DVal):Prop where
 a:KE ls≠0->R= .tup [Bz_,.int .i64 (KE ls)]
 b:KE ls=0->ls.any (MU H L)=true->R= .tup [Bz_,.int .i64 4]
 c:KE ls=0->ls.any (MU H L)=false->64<Ce ls->R= .tup [Bz_,.int .i64 183]
 d:KE ls=0->∀ts,ls=ts.map flat->(∀t∈ts,EZ t=true/\(flat t).length<=2048)->ls.any (MU H L)=false->Ce ls<=64->R= .tup [Br_ H L ts,.int .i64 0]
def Gq : Ann:=⟨[77,89,94,100,105,114,126],[⟨16,[13],[],[]⟩,⟨17,[14],[],[]⟩,⟨30,[20],[],[]⟩,⟨38,[201,77],[],[]⟩,⟨39,[],[],[0,1,2,3,4,5,6]⟩]⟩
theorem rA (H L:List ByteArray) (ls:List (List Nd)) (R:DVal) (hH:H.length≠0) (hR:BoxR H L ls R) (hm:mx R=0):Ae prog 17 [ES H L,EI ls] R:=by
 refine Ac [94,4] Gq func17 call17 ntmps17 mxd (Ar @Gq.eq_1 results17) rfl (fun qJ B qX qQ=> ?_) (hd:=(by simpa using hm))
 have fG:ls.length*24<=150000000000000:=by
  have h1:=qJ.2.1;simp only[EX,aO0]at h1;exact h1.1
 clear qJ;simp only[Ak];have e1:=HE H L
 (refine AX (AJ e1) Ab (AJ hH) ?_;intros;refine Am ?_)
 clear hH;refine Al (X:={k:Nat//k<=ls.length/\KE ls=KE (ls.drop k)}) (fun k=>⟨[(1,EI ls),(2,.ref [ES H L]),(4,.bx 4 1 0),(5,.int .i64 0),(32,EI ls),(33,.int .i64 ls.length),(34,.int .i64 k.1)],[⟨4,1,.box [.int .i64 0,.nilsl,.nilsl]⟩]⟩) (fun k=>ls.length-k.1) ⟨0,by simp⟩ (Sub.lit (by simp)) ?_;rintro⟨k,hk,mF⟩;simp only
 by_cases qV:k<ls.length
 ·obtain⟨l,hl,wY,hlm⟩:=Ax qV;rw[aW0 qV,wY,KE]at mF;have e2:=Dr_ l
  by_cases hc:LO l=0
  ·rw[if_pos hc]at mF;rw[hc]at e2
   (refine AX (AJ e2) Ab (Ik qV hl wY @GQ.eq_1) ?_;intros;refine Am ?_)
   exact An.mk ⟨k+1,by omega,mF⟩ (Sub.lit (by simp)) (by simp;omega)
   skip
  ·rw[if_neg hc]at mF;have hRR:=hR.a (by rw[mF];exact hc);rw[mF]at hRR;rw[hRR];have hcb:(LO l==0)=false:=by simpa using hc
   exact Aw (AJ e2) Ab (MY qV hl wY @GQ.eq_1 hc hcb)
 have qZ:k=ls.length:=by omega
 subst qZ;rw[cN0]at mF;have vG:KE ls=0:=mF;obtain⟨ts,zA,htp⟩:=Qf vG;clear mF hk;have gK:ls.length=ts.length:=by rw[zA,aO0]
 have hocl:=eN ts fun t ht=>(htp t ht).2
 rw[<-zA]at hocl
 (refine AX Ab Ab Ab ?_;intros;refine Am ?_)
 refine Al (X:={k:Nat//k<=ls.length/\(ls.take k).any (MU H L)=false}) (fun k=>⟨[(1,EI ls),(2,.ref [ES H L]),(4,.bx 4 1 0),(5,.int .i64 0),(9,.int .i64 (Ce (ls.take k.1))),(45,EI ls),(46,.int .i64 ls.length),(47,.int .i64 k.1)],[⟨4,1,.box [.int .i64 0,.nilsl,.nilsl]⟩]⟩) (fun k=>ls.length-k.1) ⟨0,by simp⟩ (Sub.lit (by simp[xY])) ?_;rintro⟨k,hk,vS⟩;simp only
 by_cases qV:k<ls.length
 ·obtain⟨l,hl,wY,hlm⟩:=Ax qV
  have hll:l.length<=2048:=by
   rw[zA]at hlm;obtain⟨t,ht,rfl⟩:=aR0.1 hlm;exact(htp t ht).2
  have hos:=rC (ls.take k) l;rw[<-BD hl]at hos;have hot:=rB (ls:=ls) (k:=k+1);obtain⟨m,hm2⟩:∃m,m=Ce (ls.take k):=⟨_,rfl⟩;rw[<-hm2]at hos |-;have e5:=Pp l;have hw5:IntKind.i64.wrap ((m:Int)+(EP l:Int))=(Ce (ls.take (k+1)):Int):=by rw[wq,hos];omega
  (refine AX Ab Ab (Ik qV hl wY @GQ.eq_1) ?_;intros;refine Am ?_)
  refine Al (X:={j:Nat//j<=l.length/\MU H L (l.take j)=false}) (fun j=>⟨[(1,EI ls),(2,.ref [ES H L]),(4,.bx 4 1 0),(5,.int .i64 0),(9,.int .i64 m),(11,Bl l),(45,EI ls),(46,.int .i64 ls.length),(47,.int .i64 k),(51,Bl l),(52,.int .i64 l.length),(53,.int .i64 j.1)],[⟨4,1,.box [.int .i64 0,.nilsl,.nilsl]⟩]⟩) (fun j=>l.length-j.1) ⟨0,by simp[MU]⟩ (Sub.lit (by simp)) ?_;rintro⟨j,hj,hnj⟩;simp only
  by_cases qP:j<l.length
  ·obtain⟨x,hx,qA,vN⟩:=Ax qP;have e3:=OM H L x
   have vX:MU H L (l.take (j+1))=decide (YM H L x=4):=by
    unfold MU at hnj |-;rw[BD hx,List.any_append,hnj];simp
   obtain⟨E,hE⟩:∃E,E=YM H L x:=⟨_,rfl⟩;rw[<-hE]at e3 vX;simp only[BM,Bf]at e3
   by_cases h4:E=4
   ·have wS:ls.any (MU H L)=true:=by
     rw[cL0];refine⟨l,hlm,?_⟩;unfold MU;rw[cL0];exact⟨x,vN,by rw[<-hE];simp[h4]⟩
    rw[hR.b vG wS];exact Aw (AJ e3) Ab (Mj @BM.eq_1 qP hx qA h4)
   ·have h4b:(E==4)=false:=by simpa using h4
    rw[decide_eq_false h4]at vX
    (refine AX (AJ e3) Ab (MY @BM.eq_1 qP hx qA h4 h4b) ?_;intros;refine Am ?_)
    refine An.mk ⟨j+1,by omega,vX⟩ (Sub.lit (by simp)) (by simp;omega)
    skip
  ·have qZ:j=l.length:=by omega
   subst qZ;rw[bC0]at hnj;have hno2:(ls.take (k+1)).any (MU H L)=false:=by rw[BD hl,List.any_append,vS];simp[hnj]
   (refine AX (AJ e5) Ab (AJ hw5) ?_;intros;refine Am ?_)
   refine An.mk ⟨k+1,by omega,hno2⟩ (Sub.lit (by simp)) (by simp;omega)
   skip
 have qZ:k=ls.length:=by omega
 subst qZ;rw[bC0]at vS;clear hk qV
 by_cases jR:64<Ce ls
 ·have hRc:=hR.c vG vS jR;have d1:(64:Int)<(Ce ls:Int):=by omega
  exact Aw Ab Ab (GE d1 jR hRc)
 have zY:=hR.d vG ts zA htp vS (by omega);have hoc:=FF ts;rw[<-zA]at hoc;have d1:¬(64:Int)<(Ce ls:Int):=by omega
 (refine AX Ab Ab (Ar d1 jR) ?_;intros;refine Am ?_)
 have hlv64:(CB ts).length<=64:=by omega
 obtain⟨SF,bJ⟩:∃SF,SF=Oc (En H L) ts:=⟨_,rfl⟩
 have wU:∀k,(CB (ts.take k)).length<=64/\Oc (En H L) (ts.take k) <+: SF:=fun k=>by
  have h1:=CO_ (us:=ts.take k) (vs:=ts.drop k);have h2:=Ca_ (En H L) (ts.take k) (ts.drop k);rw[List.take_append_drop]at h1 h2;rw[bJ];exact⟨by omega,h2⟩
 have yV:∀k,(Jb SF (ts.take k)).length<=1073741824:=fun k=>by
  have h1:=TH (ts.take k) 0 (fun t ht=>(htp t (dI0 ht)).2) (wU k).1;unfold Jb;rw[Jv];have:=(wU k).1;omega
 have zL:∀k,(PZ (ts.take k)).length<=64/\(MH (ts.take k)).length<=64:=fun k=>by
  have h1:=Um (ts.take k) 0;have h2:=eX (ts.take k) 0;have:=(wU k).1;exact⟨by unfold PZ;omega,by unfold MH;omega⟩
 have z0:Jb SF []=[]:=rfl;have z1:Oc (En H L) []=[]:=rfl;have z2:PZ []=[]:=rfl;have z3:MH []=[]:=rfl;have z4:GD []=false:=by rw[GD]
 refine Hu 77 0 201 24 2 16 (by simp) (fun n1=> ?_);refine Hu 77 1 202 39 4 32 (by simp) (fun n2=> ?_);refine Hu 17 2 94 3 1 8 (by simp) (fun n3=> ?_);refine UQ 17 1 1 8 rfl rfl ?_
 refine Al (X:={k:Nat//k<=ts.length}) (fun k=>⟨[(2,.ref [ES H L]),(4,.bx 4 1 0),(16,.bx 77 1 0),(17,.bx 17 1 0),(79,EI ls),(80,.int .i64 ls.length),(81,.int .i64 k.1)],
  [⟨4,1,.box [.int .i64 0,.nilsl,.nilsl]⟩,⟨77,1,.box [.osl 201 1,.osl 202 1]⟩,⟨201,1,.row 24 2 16 ((Oc (En H L) (ts.take k.1)).map Bf)⟩,⟨202,1,.row 39 4 32 ((Jb SF (ts.take k.1)).map Cs)⟩,⟨17,1,.box [.bool (GD (ts.take k.1)),Eh (PZ (ts.take k.1)),.osl 94 1]⟩,⟨94,1,.row 3 1 8 ((MH (ts.take k.1)).map BH)⟩]⟩) (fun k=>ts.length-k.1) ⟨0,by simp⟩ (Sub.lit (by simp[z0,z1,z2,z3,z4])) ?_
 rintro⟨k,hk⟩;simp only
 by_cases qV:k<ts.length
 ·obtain⟨t,ht,nJ,htm⟩:=Ax qV;obtain⟨qW,h2048⟩:=htp t htm;have cX:ls[k]? =some (flat t):=by rw[zA,bM0,ht];rfl
  have yY:k<ls.length:=by omega
  have yB:ls[k]'yY=flat t:=(aG0.1 cX).2;have bM:=wU (k+1);have y1:=uP H L (ts.take k) t;have y2:=sN (ts.take k) t;have y3:=rX (ts.take k) t;have y4:=ZY SF (ts.take k) t;have y5:=aD (ts.take k) t;have y6:=Wg (ts.take k) t;rw[<-BD ht]at y1 y2 y3 y4 y5 y6;have y7:=congrArg List.length y6;rw[aB0]at y7;have hA:=yV k;have hF:=zL k;have hF1:=zL (k+1);have e6:=OJ H L (flat t) (CB (ts.take k)).length SF (by rw[<-y7];exact bM.1) _ t (Nat.le_refl _) qW 0 [] (Oc (En H L) (ts.take k)) (Jb SF (ts.take k)) (by simp) (by rw[Ob,OV];rfl) (by rw[y1];exact bM.2) (by omega)
  rw[y1,y4,bX0]at e6;have g1:=congrArg List.length y2;have g2:=congrArg List.length y3;rw[aB0]at g1 g2;have e7:=aE (GD (ts.take k)) (DQ t) (PZ (ts.take k)) (Hc (flat t) (CB (ts.take k)).length t 0) (MH (ts.take k)) (JM (flat t) (CB (ts.take k)).length t 0) (by omega) (by omega);rw[y5,y2,y3]at e7;refine KK (Sub.freezeL [94] _) ?_;simp
  (repeat (first | refine AI fun K hK=> ?_ | (refine BS Gq mxd (by kernel_rfl) ?_;simp[Gq,qX,Bp,yY,cX,yB,GQ];try simp (disch:=omega) only[Ai]) | refine Ao ?_ | (refine Bg ?_ ?_ ?_;(· (simp[qX,Bp,yY,cX,yB,GQ];done));(try (rotate_left;(· (intro hc;(try simp[qX,Bp,yY,cX,yB,GQ]at hc);done))))) | (refine AL ?_;simp[results17,qX,Bp,yY,cX,yB,GQ]) | ((first | refine Az ?_ | refine Ay ?_);simp[qX,Bp,yY,cX,yB,GQ]) | (intro hc;(try simp[qX,Bp,yY,cX,yB,GQ]at hc);(try (exfalso;omega))) | (refine AM [(77,0),(201,1),(202,2)] [] (e6) ?_ ?_;(· (simp[qX,Bp,yY,cX,yB,GQ];done));(intro _;try simp[qX,Bp,yY,cX,yB,GQ])) | (refine AM [] [(94,0)] (e7) ?_ ?_;(· (simp[qX,Bp,yY,cX,yB,GQ];done));(intro _;try simp[qX,Bp,yY,cX,yB,GQ])) | (refine⟨?_,?_⟩; · omega) | omega | apply_assumption -exfalso -symm | (exfalso;omega)))
  refine An.mk ⟨k+1,by omega⟩ (Sub.lit (by simp)) (by simp;omega)
  skip
 ·have qZ:k=ts.length:=by omega
  subst qZ;rw[bC0];have hA:=yV ts.length;have hF:=zL ts.length;have hP:=wU ts.length;rw[bC0]at hA hF hP;have e8:=IK SF SF (Jb SF ts) [0] (PZ ts) (List.prefix_refl _) (fun q hq=>by have:=Ul ts 0 q hq;rw[bJ,Ob];omega) (by rw[bJ,Ob];omega) (by simp;omega);have y8:=tK (En H L) ts;rw[<-bJ]at y8;rw[y8]at e8;have e9:=Vk (Gn (En H L) ts);have e11:=WX (KV Gd (Gn (En H L) ts));rw[<-bJ];have wV:¬(ts.length:Int)<(ls.length:Int):=by omega
  have hSl:SF.length=(CB ts).length:=by rw[bJ,Ob]
  have wK:IntKind.i64.wrap ((SF.length:Int)+1)=((CB ts).length:Int)+1:=by rw[hSl];exact wq
  have zK:=AR_ ts fun t ht=>(htp t ht).1
  unfold Br_ BA_ at zY;obtain⟨CZ,hCZ⟩:∃CZ,CZ=CA (fun x y=>Gd x y==0) (KV Gd (Gn (En H L) ts)):=⟨_,rfl⟩;rw[<-hCZ]at zY e11;obtain⟨FR,hFR⟩:∃FR,FR=IW ts:=⟨_,rfl⟩;rw[<-hFR]at zY zK;cases hE:GD ts
  ·have e10:=OP (MH ts)
   have cT:HX ((MH ts).map aP)=FR:=by
    rw[hE]at zK;simp only[bH0,if_false,bX0]at zK;exact zK
   rw[cT]at e10
   (repeat (first | refine AI fun K hK=> ?_ | (refine BS Gq mxd (by kernel_rfl) ?_;simp[Gq,qX,Bp,wV,BH,wK,zY];try simp (disch:=omega) only[Ai]) | refine Ao ?_ | (refine Bg ?_ ?_ ?_;(· (simp[qX,Bp,wV,BH,wK,zY];done));(try (rotate_left;(· (intro hc;(try simp[qX,Bp,wV,BH,wK,zY]at hc);done))))) | (refine AL ?_;simp[results17,qX,Bp,wV,BH,wK,zY]) | ((first | refine Az ?_ | refine Ay ?_);simp[qX,Bp,wV,BH,wK,zY]) | (intro hc;(try simp[qX,Bp,wV,BH,wK,zY]at hc);(try (exfalso;omega))) | (refine AM [(77,0),(201,1),(202,2)] [] (e8) ?_ ?_;(· (simp[qX,Bp,wV,BH,wK,zY];done));(intro _;try simp[qX,Bp,wV,BH,wK,zY])) | (refine AM [(202,0)] [] (e9) ?_ ?_;(· (simp[qX,Bp,wV,BH,wK,zY];done));(intro _;try simp[qX,Bp,wV,BH,wK,zY])) | (refine AM [(94,0)] [] (e10) ?_ ?_;(· (simp[qX,Bp,wV,BH,wK,zY];done));(intro _;try simp[qX,Bp,wV,BH,wK,zY])) | (refine AM [(202,0)] [] (e11) ?_ ?_;(· (simp[qX,Bp,wV,BH,wK,zY];done));(intro _;try simp[qX,Bp,wV,BH,wK,zY])) | (refine⟨?_,?_⟩; · omega) | omega | apply_assumption -exfalso -symm | (exfalso;omega)))
  ·have e10:=OP (MH ts++[0])
   have cT:HX ((MH ts++[0]).map aP)=FR:=by
    rw[hE]at zK;simp only[if_true]at zK;rw[bF0];exact zK
   rw[cT]at e10;have hb:((MH ts).length+1)*8<=150000000000000:=by omega
   (repeat (first | refine AI fun K hK=> ?_ | (refine BS Gq mxd (by kernel_rfl) ?_;simp[Gq,qX,Bp,wV,BH,wK,zY,hb];try simp (disch:=omega) only[Ai]) | refine Ao ?_ | (refine Bg ?_ ?_ ?_;(· (simp[qX,Bp,wV,BH,wK,zY,hb];done));(try (rotate_left;(· (intro hc;(try simp[qX,Bp,wV,BH,wK,zY,hb]at hc);done))))) | (refine AL ?_;simp[results17,qX,Bp,wV,BH,wK,zY,hb]) | ((first | refine Az ?_ | refine Ay ?_);simp[qX,Bp,wV,BH,wK,zY,hb]) | (intro hc;(try simp[qX,Bp,wV,BH,wK,zY,hb]at hc);(try (exfalso;omega))) | (refine AM [(77,0),(201,1),(202,2)] [] (e8) ?_ ?_;(· (simp[qX,Bp,wV,BH,wK,zY,hb];done));(intro _;try simp[qX,Bp,wV,BH,wK,zY,hb])) | (refine AM [(202,0)] [] (e9) ?_ ?_;(· (simp[qX,Bp,wV,BH,wK,zY,hb];done));(intro _;try simp[qX,Bp,wV,BH,wK,zY,hb])) | (refine AM [(94,0)] [] (e10) ?_ ?_;(· (simp[qX,Bp,wV,BH,wK,zY,hb];done));(intro _;try simp[qX,Bp,wV,BH,wK,zY,hb])) | (refine AM [(202,0)] [] (e11) ?_ ?_;(· (simp[qX,Bp,wV,BH,wK,zY,hb];done));(intro _;try simp[qX,Bp,wV,BH,wK,zY,hb])) | (refine⟨?_,?_⟩; · omega) | omega | apply_assumption -exfalso -symm | (exfalso;omega)))
end Go.Proofs.Wy
end
section
namespace Go.Proofs.Wy
open Go Go.Dm Tryz
variable [DMode]
attribute [local irreducible] DW Bm Bq
set_option maxRecDepth 100000


@[simp] theorem FY_ (l:List Bool) (v:Nat) (h:v<(bD l).length):((bD l)[v]'h).tail=[]:=by simp[bD,dBl]
def Gi_ (l:List Int):List (List DVal):=l.map Qn
@[simp] theorem FP_ (l:List Int):Bo (Gi_ l)=0:=Af_ l
def lU : Ann:=⟨[],[]⟩
theorem Rb (l:List Int):Ae prog 30 [Gk l,Gk l] (.bool true):=by
 refine Ac [] lU func30 call30 ntmps30 mxd (Ar @lU.eq_1 results30) rfl (fun qJ B qX qQ=> ?_);have hl:=Au_ qJ.1;clear qJ;simp only[Ak]
 (refine AX Ab Ab Ab ?_;intros;refine Am ?_)
 refine Al (X:={k:Nat//k<=l.length}) (fun k=>⟨[(0,Gk l),(1,Gk l),(5,.int .i64 k.1)],[]⟩) (fun k=>l.length-k.1) ⟨0,by simp⟩ (Sub.lit (by simp)) ?_;rintro⟨k,hk⟩;simp only
 by_cases qV:k<l.length
 ·obtain⟨q,hq,zE,_⟩:=Ax qV
  (refine AX Ab Ab (Ik @Qn.eq_1 qV hq zE) ?_;intros;refine Am ?_)
  refine An.mk ⟨k+1,by omega⟩ (Sub.lit (by simp)) (by simp;omega)
  skip
 ·have qZ:k=l.length:=by omega
  subst qZ;exact Aw Ab Ab Ab
def Ma : Ann:=⟨[],[]⟩
theorem TF (l:List Nd) (hs:l.length<=1572864):Ae prog 72 [Bl l] (Bl l):=by
 refine Ac [50] Ma func72 call72 ntmps72 mxd (Ar @Ma.eq_1 results72) rfl (fun qJ B qX qQ=> ?_);clear qJ;simp only[Ak];have hb:l.length*32<=150000000000000:=by omega
 iterate 6 ((first | refine AI fun K hK=> ?_ | (refine BS Ma mxd (by kernel_rfl) ?_;simp[Ma,qX];try simp (disch:=omega) only[Ai]) | refine Ao ?_ | (refine Bg ?_ ?_ ?_;(· (simp[qX];done));(try (rotate_left;(· (intro hc;(try simp[qX]at hc);done))))) | (refine AL ?_;simp[results72,qX]) | ((first | refine Az ?_ | refine Ay ?_);simp[qX]) | (intro hc;(try simp[qX]at hc);(try (exfalso;omega))) | (refine⟨?_,?_⟩; · omega) | omega | apply_assumption -exfalso -symm | (exfalso;omega)))
 refine Ci 3 50 68 3 32 (by simp[qX,results72,Ma]) (fun n=> ?_);exact Aw Ab Ab (AJ hb)
def lK : Ann:=⟨[],[]⟩
theorem NE (a:Auto):Ae prog 19 [.agg (FQ a),.agg (FQ a)] (.bool true):=by
 refine Ac [] lK func19 call19 ntmps19 mxd (Ar @lK.eq_1 results19) rfl (fun qJ B qX qQ=> ?_);obtain⟨n,f,z⟩:=a
 have hz:z.length<=9223372036854775807:=by
  simp only[JP,EX,FQ,aO0,maxLen]at qJ;omega
 clear qJ;simp only[Ak];have e1:=Rb f
 (refine AX (AJ e1) Ab (AJ @FQ.eq_1) ?_;intros;refine Am ?_)
 refine Al (X:={i:Nat//i<=z.length}) (fun i=>⟨[(2,.ref [.int .i64 n,Gk f,FS z]),(3,.ref [.int .i64 n,Gk f,FS z]),(5,.int .i64 i.1)],[]⟩) (fun i=>z.length-i.1) ⟨0,by omega⟩ (Sub.lit (by simp)) ?_;rintro⟨i,hi⟩;simp only
 by_cases qV:i<z.length
 ·obtain⟨x,hx,qA,_⟩:=Ax qV;have hw:IntKind.i64.wrap ((i:Int)+1)=(i:Int)+1:=wq
  (refine AX Ab Ab (Mj @Cs.eq_1 qV hx qA hw) ?_;intros;refine Am ?_)
  refine An.mk ⟨i+1,by omega⟩ (Sub.lit (by simp)) (by simp;omega)
  skip
 ·have qZ:i=z.length:=by omega
  subst qZ;exact Aw Ab Ab Ab

end Go.Proofs.Wy
end
section
namespace Go.Proofs.Wy
open Go Go.Dm Tryz
attribute [local irreducible] DW Bm Bq
set_option maxRecDepth 100000
mutual
theorem PW : ∀(t t':RT) (r r':List Nd),EZ t=true->EZ t'=true->flat t++r=flat t'++r'->t=t'/\r=r'
 | .mk x ks,.mk x' ks',r,r',h,h',he=>by
  rw[AR,AR,List.cons_append,List.cons_append]at he;injection he with h1 h2
  subst h1;have h3:=(Cx h).2.1;have h4:=(Cx h').2.1;obtain⟨h5,h6⟩:=Sz ks ks' r r' (Cx h).2.2 (Cx h').2.2 (by omega) h2;exact⟨by rw[h5],h6⟩
theorem Sz : ∀(ks ks':List RT) (r r':List Nd),Fs ks=true->Fs ks'=true->ks.length=ks'.length->Ah ks++r=Ah ks'++r'->ks=ks'/\r=r'
 | [],[],r,r',_,_,_,he=>by rw[Dr]at he;exact⟨rfl,by simpa using he⟩
 | [],_::_,_,_,_,_,hl,_=>by simp at hl
 | _::_,[],_,_,_,_,hl,_=>by simp at hl
 | u::us,u'::us',r,r',h,h',hl,he=>by
  rw[Aq,Aq,aT0,aT0]at he;obtain⟨h1,h2⟩:=PW u u' _ _ (Ck h).1 (Ck h').1 he;obtain⟨h3,h4⟩:=Sz us us' r r' (Ck h).2 (Ck h').2 (by simpa using hl) h2;exact⟨by rw[h1,h3],h4⟩
end
theorem RE : ∀(ts ts':List RT),(∀t∈ts,EZ t=true)->(∀t∈ts',EZ t=true)->ts.map flat=ts'.map flat->ts=ts'
 | [],[],_,_,_=>rfl
 | [],_::_,_,_,h=>by simp at h
 | _::_,[],_,_,h=>by simp at h
 | t::ts,t'::ts',h,h',he=>by
  rw[List.map_cons,List.map_cons]at he;injection he with h1 h2
  have h3:=(PW t t' [] [] (h t aH0) (h' t' aH0) (by rw[h1])).1;have h4:=RE ts ts' (fun u hu=>h u (aF0 _ hu)) (fun u hu=>h' u (aF0 _ hu)) h2;rw[h3,h4]
end Go.Proofs.Wy
end
