/- Parts of a proof, laid together: BP0, BW4, EnLe, BW5, BY0. -/
import Derived.Test.YtiojapdolljocaaGreatqBw15
import Derived.Test.YtiojapdolljocaaGreatqBw22
import Derived.Test.YtiojapdolljocaaGreatqBw23
import Derived.Test.YtiojapdolljocaaGreatqBw24
import Derived.Test.YtiojapdolljocaaGreatqBw27
import Derived.Test.YtiojapdolljocaaGreatqBw28
import Derived.Test.YtiojapdolljocaaGreatqBw29
import Derived.Test.YtiojapdolljocaaGreatqBw31
set_option linter.unusedSimpArgs false
set_option maxHeartbeats 8000000
set_option linter.unusedVariables false
set_option linter.unusedSectionVars false
section
namespace Go.Proofs.Wy
open Go Go.Dm Tryz
variable [DMode]
theorem HY (l:List Nd):∃c:Int,Ag prog 55 [Bi l] (.int .i64 c)/\Ag prog 125 [Bi l] (.int .i64 c)/\(c=0->l.length<=2048/\∃t,DR t=true/\l=flat t)/\(l.length<=2048->CY l=true->∃t,DR t=true/\l=flat t/\c=CN t):=by
 by_cases h:2048<l.length
 ·exact⟨3,Mg l h,PR l h,by omega,fun hh=>by omega⟩
 ·cases hw:CY l with
  | false=>exact⟨170,XM l (by omega) hw,RU l (by omega) hw,by omega,fun _ hh=>by simp at hh⟩
  | true =>
   obtain⟨t,ht,rfl⟩:=KG hw;exact⟨CN t,HX t ht (by omega),PQ t ht (by omega),fun _=>⟨by omega,t,ht,rfl⟩,fun _ _=>⟨t,ht,rfl,rfl⟩⟩
noncomputable def NW (l:List Nd):Int:=Classical.choose (HY l)
theorem Dv_ (l:List Nd):Ag prog 55 [Bi l] (.int .i64 (NW l)):=(Classical.choose_spec (HY l)).1
theorem Dw_ {l:List Nd} (h:NW l=0):l.length<=2048/\∃t,DR t=true/\l=flat t:=(Classical.choose_spec (HY l)).2.2.1 h
theorem Du_ {l:List Nd} (h:l.length<=2048) (hw:CY l=true):∃t,DR t=true/\l=flat t/\NW l=CN t:=(Classical.choose_spec (HY l)).2.2.2 h hw
noncomputable def Kf : List (List Nd)->Int
 | []=>0
 | l::ls=>if NW l=0 then Kf ls else NW l
theorem Lc : ∀{ls:List (List Nd)},Kf ls=0->∃ts:List RT,ls=ts.map flat/\∀t∈ts,DR t=true/\(flat t).length<=2048
 | [],_=>⟨[],rfl,by simp⟩
 | l::ls,h=>by
  unfold Kf at h
  split at h
  ·rename_i h1;obtain⟨h2,t,h3,h4⟩:=Dw_ h1;obtain⟨ts,h5,h6⟩:=Lc h;refine⟨t::ts,by rw[h5,h4];rfl,fun u hu=> ?_⟩
   rcases aL0.1 hu with rfl | hu
   ·exact⟨h3,by rw[<-h4];exact h2⟩
   ·exact h6 u hu
  ·rename_i h1;exact absurd h h1
def Nm (H L:List ByteArray) (l:List Nd):Bool:=l.any fun x=>decide (Ps H L x=4)
def EY (l:List Nd):List DVal:=[Bi l]
@[simp] theorem CM_ (l:List Nd):AJ (EY l)=0:=by simp[EY,AJ,mx]
@[simp] theorem Fn_ (l:List (List Nd)):Bq (l.map EY)=0:=HM _ CM_ l
def En (ls:List (List Nd)):Nat:=(ls.map Ir).sum
theorem sI (ls:List (List Nd)) (l:List Nd):En (ls++[l])=En ls+Ir l:=by simp[En]
theorem As_ : En []=0:=rfl
theorem KO : ∀ts:List RT,En (ts.map flat)=(BW ts).length
 | []=>by simp[En,BW]
 | t::ts=>by
  have ih:=KO ts;have h1:BW (t::ts)=Cz (flat t)++BW ts:=by simp[BW]
  have h2:En (List.map flat (t::ts))=Ir (flat t)+En (ts.map flat):=by simp[En]
  rw[h2,h1,aE0,ih,LJ]
theorem iY : ∀(ts:List RT),(∀t∈ts,(flat t).length<=2048)->En (ts.map flat)<=2048*ts.length
 | [],_=>by simp[En]
 | t::ts,h=>by
  have ih:=iY ts fun u hu=>h u (aI0 _ hu)
  have h1:=h t aK0;have h2:En (List.map flat (t::ts))=Ir (flat t)+En (ts.map flat):=by simp[En]
  have h3:Ir (flat t)<=(flat t).length:=by rw[LJ];exact dD0 _ _
  rw[h2,List.length_cons];omega
theorem sH {ls:List (List Nd)} {k:Nat}:En (ls.take k)<=En ls:=by
 have h1:En ls=En (ls.take k)+En (ls.drop k):=by
  unfold En;rw[<-List.sum_append_nat,<-bI0,List.take_append_drop]
 omega
theorem DC_ (t:RT) (h:(flat t).length<=2048) (jU:(Cz (flat t)).length<=64):(VB t 0).length<=16777216*(Cz (flat t)).length:=by
 by_cases h0:(Cz (flat t)).length=0
 ·have:VB t 0=[]:=by
   cases ha:VB t 0 with
   | nil=>rfl
   | cons p r =>
    exfalso;obtain⟨⟨x,hx,hk⟩,_⟩:=Jy t 0 p.1 p.2 (by rw[ha];exact aK0)
    have h1:x∈Cz (flat t):=by
     unfold Cz;rw[cS0];exact⟨bJ0 hx,Cm.2 hk⟩
    have:=List.length_pos_of_mem h1;omega
  rw[this];simp
 ·have:=Ve t 0 jU;omega
theorem iN : ∀(ts:List RT) (ah:Nat),(∀t∈ts,(flat t).length<=2048)->(BW ts).length<=64->(RF ah ts).length<=16777216*(BW ts).length
 | [],ah,_,_=>by simp[RF]
 | t::ts,ah,h,jU=>by
  have h1:BW (t::ts)=Cz (flat t)++BW ts:=by simp[BW]
  rw[h1,aE0]at jU |-;have ih:=iN ts (ah+(Cz (flat t)).length) (fun u hu=>h u (aI0 _ hu)) (by omega);have h2:=DC_ t (h t aK0) (by omega);rw[RF,aE0,aO0];omega
theorem lS : ∀(ts:List RT) (ah:Nat),(NN ah ts).length<=(BW ts).length
 | [],ah=>by simp[NN]
 | t::ts,ah=>by
  have h1:BW (t::ts)=Cz (flat t)++BW ts:=by simp[BW]
  have ih:=lS ts (ah+(Cz (flat t)).length);have h2:=Pc t 0;rw[NN,h1,aE0,aE0,aO0];omega
theorem lK : ∀(ts:List RT) (ah:Nat),(RI ah ts).length<=(BW ts).length
 | [],ah=>by simp[RI]
 | t::ts,ah=>by
  have h1:BW (t::ts)=Cz (flat t)++BW ts:=by simp[BW]
  have ih:=lK ts (ah+(Cz (flat t)).length);have h2:=OY t 0;rw[RI,h1,aE0,aE0,aO0];omega
theorem UR : ∀(ts:List RT) (ah:Nat),∀q∈NN ah ts,1<=q/\q<=ah+(BW ts).length
 | [],ah,q,h=>by simp[NN]at h
 | t::ts,ah,q,h=>by
  have h1:BW (t::ts)=Cz (flat t)++BW ts:=by simp[BW]
  rw[h1,aE0];rw[NN,aC0]at h
  rcases h with h | h
  ·have h2:(flat t).drop 0=flat t++[]:=by simp
   have h3:=Bq_ (ah:=ah) h2 q h;rw[Ei h2,IL]at h3;omega
  ·have:=UR ts _ q h;omega
def QC (us:List RT):List Nat:=NN 0 us
def MW (us:List RT):List Nat:=RI 0 us
def Jv (SF:List Sym) (us:List RT):List Arc:=CV SF (RF 0 us)
theorem xQ (sy:Nd->Sym) (us:List RT) (t:RT):OK sy (us++[t])=OK sy us++(Cz (flat t)).map sy:=by unfold OK;rw[WQ,bI0]
theorem OJ (sy:Nd->Sym) (us:List RT):(OK sy us).length=(BW us).length:=by simp[OK]
theorem xP (H L:List ByteArray) (us:List RT) (t:RT):GR H L (OK (Co H L) us) t=OK (Co H L) (us++[t]):=by unfold GR;rw[xQ]
theorem tN (us:List RT) (t:RT):QC us++Hj (flat t) (BW us).length t 0=QC (us++[t]):=by unfold QC Hj;rw[Xz,bN0]
theorem sV (us:List RT) (t:RT):MW us++Ke (flat t) (BW us).length t 0=MW (us++[t]):=by unfold MW Ke;rw[Xa,bN0]
theorem eF (SF:List Sym) (us:List RT) (t:RT):Fh SF (flat t) (BW us).length (Jv SF us) t 0=Jv SF (us++[t]):=by unfold Jv Fh;rw[Wl,FI,bN0]
theorem uJ (sy:Nd->Sym) (ts:List RT):Jv (OK sy ts) ts++CV (OK sy ts) (BH [0] (QC ts))=Ju sy ts:=by
 unfold Jv Ju QC CV BH;rw[bI0];simp
theorem CY_ {us vs:List RT}:(BW us).length<=(BW (us++vs)).length:=by
 have:BW (us++vs)=BW us++BW vs:=by simp[BW]
 rw[this,aE0];omega
theorem CA_ (sy:Nd->Sym) (us vs:List RT):OK sy us <+: OK sy (us++vs):=by
 unfold OK;have:BW (us++vs)=BW us++BW vs:=by simp[BW]
 rw[this,bI0];exact List.prefix_append _ _
theorem eK (us:List RT) (t:RT):(Fi us||DD t)=Fi (us++[t]):=(Tw us t).symm
def BS_ (n:Int) (fs:List Int) (zs:List Arc):DVal:= .agg [.int .i64 n,Fu fs,Ga zs]
def BO_ (H L:List ByteArray) (ts:List RT):DVal:=BS_ ((BW ts).length+1) (Jm ts) (Df (fun x y=>HZ x y==0) (Nz HZ (Ju (Co H L) ts)))
end Go.Proofs.Wy
end
section
namespace Go.Proofs.Wy
open Go Go.Dm Tryz
variable [DMode]
attribute [local irreducible] DW Bh Bk
set_option maxRecDepth 100000
def He (S M:List Bool) (k:Nat):List Bool:=Fl (S.take k) (M.take k)++S.drop k
theorem sC (a b:List Bool) (x y:Bool) (h:a.length=b.length):Fl (a++[x]) (b++[y])=Fl a b++[x||y]:=by
 unfold Fl;rw[List.zipWith_append h];rfl
theorem uE (a b:List Bool) (x y:Bool) (h:a.length=b.length):Kg (a++[x]) (b++[y])=(Kg a b||(y&& !x)):=by
 unfold Kg;rw[List.zip_append h,List.any_append];simp
theorem tA {S M:List Bool} (hl:M.length=S.length) (k:Nat):(He S M k).length=S.length:=by
 unfold He;rw[aE0,IS (by rw[aW0,aW0,hl]),aW0,bZ0];omega
theorem aD (S M:List Bool):He S M 0=S:=by simp[He,Fl]
theorem tB {S M:List Bool} (hl:M.length=S.length):He S M S.length=Fl S M:=by
 unfold He;rw[aT0,<-hl,aT0,hl,cL0,bO0]
theorem AX_ {S M:List Bool} {k:Nat} {c:Bool} (hl:M.length=S.length) (h:S[k]? =some c):(He S M k)[k]? =some c:=by
 have hk:=(aF0.1 h).1;unfold He;have h1:(Fl (S.take k) (M.take k)).length=k:=by rw[IS (by rw[aW0,aW0,hl]),aW0];omega
 rw[bD0 (by omega),h1,eB0,cQ0];exact h
theorem aE {S M:List Bool} {k:Nat} {b c:Bool} (hl:M.length=S.length) (h:S[k]? =some c) (hb:M[k]? =some b):(He S M k).set k (c||b)=He S M (k+1):=by
 obtain⟨hk,hc⟩:=aF0.1 h;unfold He;have h1:(Fl (S.take k) (M.take k)).length=k:=by rw[IS (by rw[aW0,aW0,hl]),aW0];omega
 rw[List.set_append_right _ _ (by omega),h1,eB0,aU0 hk,eJ0,Bf h,Bf hb,sC _ _ _ _ (by rw[aW0,aW0,hl]),aS0];rfl
theorem uF {S M:List Bool} {k:Nat} {b c:Bool} (hl:M.length=S.length) (h:S[k]? =some c) (hb:M[k]? =some b):Kg (S.take (k+1)) (M.take (k+1))=(Kg (S.take k) (M.take k)||(b&& !c)):=by
 rw[Bf h,Bf hb,uE _ _ _ _ (by rw[aW0,aW0,hl])]
def YC : Ann:=⟨[],[]⟩
theorem HR (S M:List Bool) (hl:M.length=S.length):Bl prog (.func 124) [.osl 0 0,Mc M] [⟨0,0,.row 4 1 1 (bD S)⟩] (.bool (Kg S M)) [⟨0,0,.row 4 1 1 (bD (Fl S M))⟩]:=by
 refine BU [] [(0,0,0)] YC func124 call124 ntmps124 mxd (Az @YC.eq_1 results124) rfl (fun qJ B qX qQ=> ?_);have dK:M.length<9223372036854775807:=by have:=qJ.2.1;simp only[Ef,aO0]at this;omega
 clear qJ;simp only[Ap]
 (refine Ba Ac Ac Ac ?_;intros;refine Al ?_)
 refine An (X:={k:Nat//k<=S.length}) (fun k=>⟨[(0,.osl 0 0),(5,.bool (Kg (S.take k.1) (M.take k.1))),(8,Mc M),(9,.int .i64 M.length),(10,.int .i64 k.1)],[⟨0,0,.row 4 1 1 (bD (He S M k.1))⟩]⟩) (fun k=>S.length-k.1) ⟨0,by simp⟩ (Sub.lit (by simp[aD,Kg])) ?_;rintro⟨k,hk⟩;simp only
 by_cases qV:k<S.length
 ·have mN:k<M.length:=by omega
  obtain⟨c,hc,bU,_⟩:=Ar qV;obtain⟨b,hb,qL,_⟩:=Ar mN;have hZ:=AX_ (M:=M) hl hc;have wM:=aE hl hc hb;have hcg:=uF hl hc hb;have vS:=tA hl k;obtain⟨Z,hZe⟩:∃Z,Z=He S M k:=⟨_,rfl⟩;obtain⟨g,hg⟩:∃g,g=Kg (S.take k) (M.take k):=⟨_,rfl⟩;rw[<-hZe]at hZ wM vS |-;rw[<-hg]at hcg |-;have hzk:k<(bD Z).length:=by rw[Li];omega
  have d1:=EF_ hZ;have d1':(bD Z)[k]'hzk=[.bool c]:=(aF0.1 d1).2;have s1:=Rf Z k (c||b);rw[wM]at s1;have kS:IntKind.i64.wrap ((k:Int)+1)=(k:Int)+1:=wq;cases g<;>cases b<;>cases c
  all_goals
   simp only[Bool.or_false,Bool.or_true,Bool.true_or,Bool.false_or,cT0,eA0,dT0,Bool.and_false,Bool.not_true,Bool.not_false]at hcg s1
   (refine Ba Ac Ac (eO @RJ.eq_1 qV mN hb qL d1 d1' hzk kS @Li vS s1) ?_;intros;refine Al ?_)
   refine Ak.mk ⟨k+1,by omega⟩ (Sub.lit (by simp[hcg])) (by simp;omega)
   skip
 ·have qN:k=S.length:=by omega
  subst qN;have h1:=tB hl;have h2:M.take S.length=M:=by rw[<-hl,aT0]
  rw[h1,aT0,h2];have h3:¬S.length<M.length:=by omega
  exact AA Ac Ac (Az h3 hl)
end Go.Proofs.Wy
end
section
namespace Go.Dm
variable [DMode]
theorem Zc {P:Program} {f:FuncId} {args:List DVal} {et k bs:Nat} {es:List (List DVal)} (hm:Bq es=0) (ha:AJ args=0) (h:Bl P (.func f) args [] (.osl 0 1) [⟨0,1,.row et k bs es⟩]):Ag P f args (.sl k bs es):=by
 refine⟨h.2.1,by simpa[mx]using hm,fun cur M w vs hM hr=> ?_⟩;have S:St [] (fun _=>⟨[],.nilFunc⟩) M w.heap:=⟨by simp,by simp[Aa],by simp[Aa],fun b hb=>hM b (by simpa[Aa]using hb),by simp⟩;have W0:Weak cur (Ab [] (fun _=>⟨[],.nilFunc⟩)) M (Aa [] (fun _=>⟨[],.nilFunc⟩)++M) w.heap w.heap 0:=⟨fun _ _ _ h=>by omega,fun _ _ _ _ h=>h,fun b _ hb _ _ hm=>hb (by simpa[Aa]using hm)⟩;obtain⟨_,hc⟩:=h.2.2 M w _ vs S (AL W0 _ _ (cU0 ha) hr)
 refine hc.mono ?_;rintro e w' ⟨v,rfl,loc',hS,hu,hn,hv,hd⟩;refine⟨v,rfl,by simpa[Aa]using hu,?_⟩;simp only[rd]at hd |-;have yJ:=hd (loc' 0) rfl;have hk:=hS.ok ⟨0,1,.row et k bs es⟩ (by simp);have W:Weak (Ab [(⟨0,1,.row et k bs es⟩:Ent)] loc') cur (Aa [(⟨0,1,.row et k bs es⟩:Ent)] loc'++M) M w'.heap w'.heap 0:=⟨fun _ _ _ h=>by omega,fun _ _ _ _ h=>h,fun b _ hb _ _ hm=>hb (aJ0 _ hm)⟩;obtain⟨hz,h⟩:=hk
 rcases h with ⟨he,_,h2⟩ | ⟨b,arr,cap,h1,h2,h3,h4,h5,h6,h7⟩
 ·subst he;rw[yJ,h2];exact⟨none,0,by simp,by simp,by simp,hz,.inl ⟨rfl,fun _=>rfl⟩⟩
 ·rw[yJ,h2];refine⟨some ⟨b,0,none⟩,cap,rfl,h4,h5,hz,.inr ⟨b,0,arr,et,(0,0),rfl,?_,h3,Cd W k es arr 0 (cU0 hm) h7⟩⟩;exact hS.ap b (by simp[Aa,h1])
def rK (es:List (List DVal)):Bool:=es.all fun cs=>cs.all NB
def TT : DObj->Bool
 | .row _ _ _ es=>rK es
 | _=>false
theorem iL {cur cur':EF} {M M':List Nat} {h h':Array Obj}:∀{ds:List DVal} {arr:Array Value} {o:Nat},ds.all NB=true->Dv cur M h ds arr o->Dv cur' M' h' ds arr o
 | [],_,_,_,_=>by simp[Dv]
 | d::ds,arr,o,hs,hr=>by
  rw[cP0,aM0]at hs;simp only[Dv]at hr |-;obtain⟨⟨v,h1,h2,h3⟩,h4⟩:=hr;exact⟨⟨v,h1,h2,PJ hs.1 h3⟩,iL hs.2 h4⟩
theorem Uc {cur cur':EF} {M M':List Nat} {h h':Array Obj} {k:Nat}:∀{es:List (List DVal)} {arr:Array Value} {o:Nat},rK es=true->Ec cur M h k es arr o->Ec cur' M' h' k es arr o
 | [],_,_,_,_=>by simp[Ec]
 | cs::es,arr,o,hs,hr=>by
  unfold rK at hs;rw[cP0,aM0]at hs;simp only[Ec]at hr |-;exact⟨hr.1,iL hs.1 hr.2.1,Uc hs.2 hr.2.2⟩
theorem Ns {cur cur':EF} {M M':List Nat} {h h':Array Obj} {l:Loc} {obj:DObj} (hs:TT obj=true) (keep:∀b o,b∈l.blks->h[b]? =some o->h'[b]? =some o) (hk:Gy cur M h l obj):Gy cur' M' h' l obj:=by
 cases obj with
 | row et k bs es =>
  obtain⟨h0,hk⟩:=hk;refine⟨h0,hk.imp id ?_⟩;rintro⟨b,arr,cap,h1,h2,h3,h4,h5,h6,h7⟩;exact⟨b,arr,cap,h1,h2,keep b _ (by simp[h1]) h3,h4,h5,h6,Uc hs h7⟩
 | box cs=>simp[TT]at hs
 | map ks vs=>simp[TT]at hs
 | abs A=>simp[TT]at hs
def Fy_ (j:Nat):DVal->Bool
 | .osl id _=>decide (id≠j)
 | d=>NB d
theorem Oa {P:Program} {f:FuncId} {pre:List DVal} {own own':List Ent} {d:DVal} {j et k bs:Nat} {es:List (List DVal)} (hS:Bl P (.func f) (pre++[.sl k bs es]) own d own')
  (wH:rK es=true) (hj:∀e∈own,e.id≠j) (fG:∀e∈own',e.id≠j) (ho:∀e∈own,TT e.obj=true) (kE:∀e∈own',TT e.obj=true) (hd:Fy_ j d=true) :
  Bl P (.func f) (pre++[.osl j 0]) (⟨j,0,.row et k bs es⟩::own) d (⟨j,0,.row et k bs es⟩::own'):=by
 obtain⟨nV,vK,hc⟩:=hS;refine⟨fun e he=> ?_,vK,fun M w loc vs S hr=> ?_⟩
 ·rcases aL0.1 he with rfl | he
  ·simp
  ·exact nV e he
 have qF:Aa (⟨j,0,.row et k bs es⟩::own) loc=(loc j).blks++Aa own loc:=rfl;have hnd:=S.nd;rw[List.map_cons,cG0]at hnd;have yS:=S.bl;rw[qF,bS0]at yS
 have qA:∀id r l,Ab own loc id r=some l->Ab (⟨j,0,.row et k bs es⟩::own) loc id r=some l:=by
  intro id r l h;obtain⟨e,he,rfl,rfl,rfl⟩:=Bn h;exact AG S.nd (aI0 _ he)
 have W:∀n,Weak (Ab (⟨j,0,.row et k bs es⟩::own) loc) (Ab own loc) (Aa (⟨j,0,.row et k bs es⟩::own) loc++M) (Aa own loc++M) w.heap w.heap n:=fun n =>
  ⟨fun id r l _ h=>qA id r l h,fun _ _ _ _ h=>h,fun b _ hb _ _ hm=>hb (by
   rw[qF]
   rcases aC0.1 hm with h | h
   ·exact aH0 _ (aJ0 _ h)
   ·exact aJ0 _ h)⟩
 have S0:St own loc M w.heap:=⟨hnd.2,yS.2.1,fun b hb=>S.ap b (by rw[qF];exact aJ0 _ hb),fun b hb=>S.lt b (by
   rw[qF]
   rcases aC0.1 hb with h | h
   ·exact aH0 _ (aJ0 _ h)
   ·exact aJ0 _ h),fun e he=>Ns (ho e he) (fun _ _ _ h=>h) (S.ok e (aI0 _ he))⟩
 obtain⟨us,ws,wI,h1,h2⟩:=MJ _ _ _ hr;simp only[Aw]at h2;obtain⟨v0,_,rfl,h3,rfl⟩:=h2;simp only[rd]at h3;have yU:Ab (⟨j,0,.row et k bs es⟩::own) loc j 0=some (loc j):=AG S.nd aK0;have yJ:=h3 _ yU;have hk:=S.ok ⟨j,0,.row et k bs es⟩ aK0;obtain⟨hz,hk⟩:=hk;simp only at hk
 have qW:Aw (Ab own loc) (Aa own loc++M) w.heap (pre++[.sl k bs es]) vs.toList:=by
  rw[wI];refine BV _ _ _ _ (AL (W _) _ _ (Nat.le_refl _) h1) ?_;simp only[Aw];refine⟨v0,[],rfl,?_,rfl⟩;simp only[rd]
  rcases hk with ⟨he,_,h4⟩ | ⟨b,arr,cap,h4,h5,h6,h7,h8,h9,fB⟩
  ·subst he;rw[yJ,h4];exact⟨none,0,by simp,by simp,by simp,hz,.inl ⟨rfl,fun _=>rfl⟩⟩
  ·rw[yJ,h5];refine⟨some ⟨b,0,none⟩,cap,rfl,h7,h8,hz,.inr ⟨b,0,arr,et,(0,0),rfl,?_,h6,Uc wH fB⟩⟩;intro hm
   rcases aC0.1 hm with h | h
   ·exact yS.2.2 b (by rw[h4];simp) b h rfl
   ·exact S.ap b (by rw[qF,h4];simp) h
 refine(hc M w loc vs S0 qW).mono ?_;rintro v w' ⟨loc',S',hu,hn,hv,zF⟩;have hblk:∀b∈(loc j).blks,b<w.heap.size:=fun b hb=>S.lt b (by rw[qF];exact aH0 _ (aH0 _ hb))
 have cG:∀b o,b∈(loc j).blks->w.heap[b]? =some o->w'.heap[b]? =some o:=fun b o hb h=>by
  rw[hu.blk b (hblk b hb) (fun hm=>yS.2.2 b hb b hm rfl)];exact h
 let loc2:Nat->Loc:=fun id=>if id=j then loc j else loc' id
 have vR:∀e∈own',loc2 e.id=loc' e.id:=fun e he=>if_neg (fG e he)
 have hl2j:loc2 j=loc j:=if_pos rfl
 have zK:Aa own' loc2=Aa own' loc':=by
  unfold Aa;rw[List.flatMap_def,List.flatMap_def]
  congr 1
  exact bY0 fun e he=>by rw[vR e he]
 have kR:Aa (⟨j,0,.row et k bs es⟩::own') loc2=(loc j).blks++Aa own' loc':=by
  show (loc2 j).blks++Aa own' loc2=_
  rw[hl2j,zK]
 have mE:∀b∈(loc j).blks,b∉Aa own' loc':=fun b hb hm=>by
  rcases hn b hm with h | h
  ·exact yS.2.2 b hb b h rfl
  ·have:=hblk b hb;omega
 have hnd2:((⟨j,0,.row et k bs es⟩::own').map (·.id)).Nodup:=by
  rw[List.map_cons,cG0];refine⟨fun hm=> ?_,S'.nd⟩;obtain⟨e,he,h⟩:=aQ0.1 hm;exact fG e he h
 refine⟨loc2,⟨hnd2,?_,?_,?_,?_⟩,⟨hu.os,hu.tape,hu.output,hu.drawn,hu.size,fun b hb hm=>hu.blk b hb (fun h=>hm (by rw[qF];exact aJ0 _ h))⟩,?_,?_,?_⟩
 ·rw[kR,bS0];exact⟨yS.1,S'.bl,fun a ha b hb cT=>mE a ha (by rw[cT];exact hb)⟩
 ·intro b hb;rw[kR]at hb
  rcases aC0.1 hb with h | h
  ·exact S.ap b (by rw[qF];exact aH0 _ h)
  ·exact S'.ap b h
 ·intro b hb;rw[kR]at hb
  rcases aC0.1 hb with h | h
  ·rcases aC0.1 h with h | h
   ·exact cD0 (hblk b h) hu.size
   ·exact S'.lt b (aH0 _ h)
  ·exact S'.lt b (aJ0 _ h)
 ·intro e he
  rcases aL0.1 he with rfl | he
  ·show Gy _ _ _ (loc2 j) _
   rw[hl2j];exact Ns (obj:= .row et k bs es) wH cG (S.ok ⟨j,0,.row et k bs es⟩ aK0)
  ·rw[vR e he];exact Ns (kE e he) (fun _ _ _ h=>h) (S'.ok e he)
 ·intro b hb;rw[kR]at hb
  rcases aC0.1 hb with h | h
  ·exact .inl (by rw[qF];exact aH0 _ h)
  ·exact(hn b h).imp (fun h=>by rw[qF];exact aJ0 _ h) id
 ·intro e he h
  rcases aL0.1 he with rfl | he
  ·show Ab _ loc j 0=some (loc2 j)
   rw[hl2j];exact yU
  ·rw[vR e he];exact qA _ _ _ (hv e he h)
 ·have hcur2:∀id r l,id≠j->Ab (⟨j,0,.row et k bs es⟩::own') loc2 id r=some l->Ab own' loc' id r=some l:=by
   intro id r l qB h;obtain⟨e,he,rfl,rfl,rfl⟩:=Bn h
   rcases aL0.1 he with rfl | he
   ·exact absurd rfl qB
   ·rw[vR e he];exact AG S'.nd he
  cases d<;>simp only[Fy_]at hd<;>try exact PJ hd zF
  simp only[decide_eq_true_eq]at hd;simp only[rd]at zF |-;exact fun l h=>zF l (hcur2 _ _ _ hd h)
end Go.Dm
end
section
namespace Go.Proofs.Wy
open Go Go.Dm Tryz
variable [DMode]
attribute [local irreducible] DW Bh Bk
set_option maxRecDepth 100000
def EI (l:List Nd) (W:List ByteArray) (fr to:List Bool):Prop:=Bl prog (.func 85) [Bi l,Bo W,Mc fr] [] (.osl 0 1) [⟨0,1,.row 4 1 1 (bD to)⟩]
theorem EI.pure {l:List Nd} {W:List ByteArray} {fr to:List Bool} (h:EI l W fr to):Ag prog 85 [Bi l,Bo W,Mc fr] (Mc to):=Zc (DO_ to) (by simp[AJ,mx]) h
theorem Lw (l:List Bool):rK (bD l)=true:=by
 unfold rK bD;rw[List.all_map,aX0];intro b _;rfl
theorem BG_ (to fr:List Bool) (h:to.length=fr.length):Gb (bD to) 0 fr.length (bD fr)=bD fr:=by
 unfold Gb;simp only[Li,Nat.min_self,bN0,dU0,List.nil_append];rw[cR0 (by rw[Li];exact Nat.le_refl _),List.drop_eq_nil_of_le (by rw[Li];omega),bO0]
theorem Nf (fr:List Bool):Gb (List.replicate fr.length [.bool false]) 0 fr.length (bD fr)=bD fr:=by
 have:=BG_ (List.replicate fr.length false) fr (by simp)
 rwa[Lh]at this
def DU : Ann:=⟨[27,33,34,40,86,102,115],[⟨2,[8],[],[]⟩]⟩
theorem aR (x:Nd) (hk:x.k=1) (W:List ByteArray) (hW:W.length<=64) (fr:List Bool) (hl:fr.length=W.length+1):EI [x] W fr fr:=by
 refine BU [] [(17,0,1)] DU func85 call85 ntmps85 mxd (Az @DU.eq_1 results85) rfl (fun qJ B qX qQ=> ?_);clear qJ;simp only[Ap];have nB:=Nf fr;have h1:fr.length<=65:=by omega
 unfold bD at nB |-;exact AA Ac Ac (Lj @Bu.eq_1 hk nB Dn h1)
theorem tU (x:Nd) (hk:x.k=2\/x.k=3) (W:List ByteArray) (hW:W.length<=64) (fr:List Bool) (hl:fr.length=W.length+1):EI [x] W fr (DH (fun w=>w=[x.s]) W fr):=by
 refine BU [] [(17,0,1)] DU func85 call85 ntmps85 mxd (Az @DU.eq_1 results85) rfl (fun qJ B qX qQ=> ?_);clear qJ;simp only[Ap];have h1:fr.length<=65:=by omega
 obtain⟨R,hR⟩:∃R,R=DH (fun w=>w=[x.s]) W fr:=⟨_,rfl⟩;have qP:=Am_ (s:=x.s) hl;rw[<-hR]at qP |-;clear hR;have hz:=sD W x.s fr;have key:∀K:Nat,True:=fun _=>trivial
 rcases hk with hk | hk
 all_goals
  (refine Ba Ac Ac (JV @Bu.eq_1 hk Dn h1) ?_;intros;refine Al ?_)
  refine An (X:={k:Nat//k<=W.length}) (fun k=>⟨[(2,Mc fr),(7,.osl 17 1),(8,.ref (Bu x)),(49,Bo W),(50,.int .i64 W.length),(51,.int .i64 k.1)],[⟨17,1,.row 4 1 1 (bD (KM W x.s fr k.1))⟩]⟩) (fun k=>W.length-k.1) ⟨0,by simp⟩ (Sub.lit (by simp[hz,Lh,Dn,Bu,hk])) ?_;rintro⟨k,vJ⟩;simp only
  by_cases qV:k<W.length
  ·have bQ:k<fr.length:=by omega
   obtain⟨y,hy,zW,_⟩:=Ar qV;obtain⟨b,hb,qL,_⟩:=Ar bQ;have wM:=sE (s:=x.s) hb hy hl;have vS:=Wq W x.s fr k;obtain⟨Z,hZe⟩:∃Z,Z=KM W x.s fr k:=⟨_,rfl⟩;rw[<-hZe]at wM vS |-;have hzk:k+1<(bD Z).length:=by rw[Li];omega
   have s1:=Rf Z (k+1) (b&&decide (y=x.s));rw[wM]at s1;have kS:IntKind.i64.wrap ((k:Int)+1)=(k:Int)+1:=wq;cases b
   ·simp only[eA0]at s1
    (refine Ba Ac Ac (eO @AD.eq_1 @RJ.eq_1 @Bu.eq_1 qV bQ hy zW hb qL hzk kS s1) ?_;intros;refine Al ?_)
    refine Ak.mk ⟨k+1,by omega⟩ (Sub.lit (by simp)) (by simp;omega)
    skip
   ·by_cases he:y=x.s
    ·simp only[cT0,decide_eq_true he]at s1;have vU:(y==x.s)=true:=by simpa using he
     (refine Ba Ac Ac (uO @AD.eq_1 @RJ.eq_1 @Bu.eq_1 qV bQ hy zW hb qL hzk kS s1 he vU) ?_;intros;refine Al ?_)
     refine Ak.mk ⟨k+1,by omega⟩ (Sub.lit (by simp)) (by simp;omega)
     skip
    ·simp only[cT0,decide_eq_false he]at s1;have vU:(y==x.s)=false:=by simpa using he
     (refine Ba Ac Ac (uO @AD.eq_1 @RJ.eq_1 @Bu.eq_1 qV bQ hy zW hb qL hzk kS s1 he vU) ?_;intros;refine Al ?_)
     refine Ak.mk ⟨k+1,by omega⟩ (Sub.lit (by simp)) (by simp;omega)
     skip
  ·have qN:k=W.length:=by omega
   subst qN;rw[qP];exact AA Ac Ac (Az @Bu.eq_1 hk)
theorem xW {ks:List RT} {k:Nat} {u:RT} (h:ks[k]? =some u) {W:List ByteArray} {fr:List Bool} (hl:fr.length=W.length+1):DH (Sn Ee (ks.take (k+1)) 1) W fr=DH (EC Ee u 0) W (DH (Sn Ee (ks.take k) 1) W fr):=by
 rw[<-DH_ hl];refine CC (fun w=> ?_) W fr;rw[Bf h,Rw];unfold Cat;simp only[Vr u (1+_)]
theorem BX_ {ks:List RT} {k:Nat} {u:RT} (h:ks[k]? =some u) (W:List ByteArray) (fr:List Bool):DH (Nt Ee (ks.take (k+1)) 1) W fr=Fl (DH (Nt Ee (ks.take k) 1) W fr) (DH (EC Ee u 0) W fr):=by
 rw[<-eR];refine CC (fun w=> ?_) W fr;rw[Bf h,Ry,Vr u (1+_)]
theorem xV {W:List ByteArray} {fr:List Bool} (hl:fr.length=W.length+1):DH (Sn Ee [] 1) W fr=fr:=by
 rw[CC (U:=fun w=>w=[]) (fun w=>Pk Ee 1 w)];exact Pl hl
theorem BW_ (W:List ByteArray) (fr:List Bool):DH (Nt Ee [] 1) W fr=List.replicate fr.length false:=by
 rw[<-Cj_ W fr];exact CC (fun w=>Ig Ee 1 w) W fr
theorem Bv_ (x:Nd) (ks:List RT) (hk:x.k=4) (qO:DR (.mk x ks)=true) (hs:(flat (.mk x ks)).length<=2048) (W:List ByteArray) (hW:W.length<=64)
  (ih:∀u∈ks,∀fr:List Bool,fr.length=W.length+1->EI (flat u) W fr (DH (EC Ee u 0) W fr)) (fr:List Bool) (hl:fr.length=W.length+1):EI (flat (.mk x ks)) W fr (DH (Sn Ee ks 1) W fr):=by
 have e1:=Jc x ks qO (by omega);obtain⟨l,zU⟩:∃l,l=flat (.mk x ks):=⟨_,rfl⟩;rw[<-zU]at e1 |-;have gZ:l[0]? =some x:=by rw[zU,Ax];rfl
 have kI:0<l.length:=by rw[zU,Ax];simp
 have hx0':l[0]'kI=x:=(aF0.1 gZ).2
 have vJ:ks.length<=2048:=by
  have h1:=(BJ qO).2.1;have h2:=Dx ks;rw[Ax,List.length_cons]at hs;omega
 clear zU hs qO;refine BU [] [(17,0,1)] DU func85 call85 ntmps85 mxd (Az @DU.eq_1 results85) rfl (fun qJ B qX qQ=> ?_);clear qJ;simp only[Ap];have h1:fr.length<=65:=by omega
 have nB:=Nf fr;unfold bD at nB;have hz:=xV hl
 (refine Ba (AQ e1) Ac (Np @Bu.eq_1 hk gZ hx0' kI nB Dn h1) ?_;intros;refine Al ?_)
 refine An (X:={k:Nat//k<=ks.length}) (fun k=>⟨[(1,Bo W),(7,.osl 17 1),(77,dTs ks),(78,.int .i64 ks.length),(79,.int .i64 k.1)],[⟨17,1,.row 4 1 1 (bD (DH (Sn Ee (ks.take k.1) 1) W fr))⟩]⟩) (fun k=>ks.length-k.1) ⟨0,by simp⟩ (Sub.lit (by simp[hz,bD])) ?_;rintro⟨k,qN⟩;simp only
 by_cases qV:k<ks.length
 ·obtain⟨u,hu,vB,hum⟩:=Ar qV;have wM:=xW hu hl;obtain⟨Z,hZ⟩:∃Z,Z=DH (Sn Ee (ks.take k) 1) W fr:=⟨_,rfl⟩;have e2:=ih u hum Z (by rw[hZ,BT];exact hl);rw[<-hZ]at wM |-;rw[<-wM]at e2;obtain⟨Y,hY⟩:∃Y,Y=DH (Sn Ee (ks.take (k+1)) 1) W fr:=⟨_,rfl⟩;rw[<-hY]at e2;unfold EI at e2;have kS:IntKind.i64.wrap ((k:Int)+1)=(k:Int)+1:=wq;refine GL (Sub.freezeL [17] _) ?_;simp[bD]
  (refine Ba Ac (AQ (Ii [] [(17,0)] e2)) (Lj @dT.eq_1 qV hu vB kS) ?_;intros;refine Al ?_)
  refine Ak.mk ⟨k+1,by omega⟩ (Sub.lit (by simp[<-hY,bD])) (by simp;omega)
  skip
 ·have hke:k=ks.length:=by omega
  subst hke;rw[aT0];exact AA Ac Ac Ac
theorem Bx_ (x:Nd) (ks:List RT) (hk:x.k=5) (qO:DR (.mk x ks)=true) (hs:(flat (.mk x ks)).length<=2048) (W:List ByteArray) (hW:W.length<=64)
  (ih:∀u∈ks,∀fr:List Bool,fr.length=W.length+1->EI (flat u) W fr (DH (EC Ee u 0) W fr)) (fr:List Bool) (hl:fr.length=W.length+1):EI (flat (.mk x ks)) W fr (DH (Nt Ee ks 1) W fr):=by
 have e1:=Jc x ks qO (by omega);obtain⟨l,zU⟩:∃l,l=flat (.mk x ks):=⟨_,rfl⟩;rw[<-zU]at e1 |-;have gZ:l[0]? =some x:=by rw[zU,Ax];rfl
 have kI:0<l.length:=by rw[zU,Ax];simp
 have hx0':l[0]'kI=x:=(aF0.1 gZ).2
 have vJ:ks.length<=2048:=by
  have h1:=(BJ qO).2.1;have h2:=Dx ks;rw[Ax,List.length_cons]at hs;omega
 clear zU hs qO;refine BU [] [(17,0,1)] DU func85 call85 ntmps85 mxd (Az @DU.eq_1 results85) rfl (fun qJ B qX qQ=> ?_);clear qJ;simp only[Ap];have h1:fr.length<=65:=by omega
 have hz:=BW_ W fr
 (refine Ba (AQ e1) Ac (OB @Bu.eq_1 hk gZ hx0' kI Dn h1) ?_;intros;refine Al ?_)
 refine An (X:={k:Nat//k<=ks.length}) (fun k=>⟨[(1,Bo W),(2,Mc fr),(7,.osl 17 1),(91,dTs ks),(92,.int .i64 ks.length),(93,.int .i64 k.1)],[⟨17,1,.row 4 1 1 (bD (DH (Nt Ee (ks.take k.1) 1) W fr))⟩]⟩) (fun k=>ks.length-k.1) ⟨0,by simp⟩ (Sub.lit (by simp[hz,Lh,Dn])) ?_;rintro⟨k,qN⟩;simp only
 by_cases qV:k<ks.length
 ·obtain⟨u,hu,vB,hum⟩:=Ar qV;have wM:=BX_ hu W fr;have e2:=(ih u hum fr hl).pure;obtain⟨Z,hZ⟩:∃Z,Z=DH (Nt Ee (ks.take k) 1) W fr:=⟨_,rfl⟩;obtain⟨Y,hY⟩:∃Y,Y=DH (EC Ee u 0) W fr:=⟨_,rfl⟩;rw[<-hY]at e2 wM;have e3:=HR Z Y (by rw[hY,hZ,BT,BT]);rw[<-hZ]at wM |-;rw[<-wM]at e3;have kS:IntKind.i64.wrap ((k:Int)+1)=(k:Int)+1:=wq
  (refine Ba (AQ e2) (AQ (Ii [(17,0)] [] e3)) (Lj @dT.eq_1 qV hu vB kS) ?_;intros;refine Al ?_)
  refine Ak.mk ⟨k+1,by omega⟩ (Sub.lit (by simp)) (by simp;omega)
  skip
 ·have hke:k=ks.length:=by omega
  subst hke;rw[aT0];exact AA Ac Ac Ac
theorem Bw_ (x:Nd) (u:RT) (hk:x.k=8) (W:List ByteArray) (hW:W.length<=64) (hs:(flat u).length<=2048)
  (ih:∀fr:List Bool,fr.length=W.length+1->EI (flat u) W fr (DH (EC Ee u 0) W fr)) (fr:List Bool) (hl:fr.length=W.length+1):EI (x::flat u) W fr (Fl fr (DH (EC Ee u 0) W fr)):=by
 have e2:=(ih fr hl).pure;obtain⟨Y,hY⟩:∃Y,Y=DH (EC Ee u 0) W fr:=⟨_,rfl⟩;have e3:=HR fr Y (by rw[hY,BT]);rw[<-hY]at e2 |-;obtain⟨m,hm⟩:∃m,m=flat u:=⟨_,rfl⟩;rw[<-hm]at e2 hs |-;have hsm:((m.length:Int)+1)<=2049:=by omega
 have wA:List.take m.length (List.map Bu m)=List.map Bu m:=by rw[<-List.map_take,aT0]
 refine BU [] [(17,0,1)] DU func85 call85 ntmps85 mxd (Az @DU.eq_1 results85) rfl (fun qJ B qX qQ=> ?_);clear qJ;simp only[Ap];have h1:fr.length<=65:=by omega
 have nB:=Nf fr;unfold bD at nB e3;exact AA (AQ e2) (AQ (Ii [(17,0)] [] e3)) (OB @Bu.eq_1 hk nB Dn h1 wA @bD.eq_1)
theorem tT (x:Nd) (u:RT) (hk:x.k=6\/x.k=7) (W:List ByteArray) (hW:W.length<=64) (hs:(flat u).length<=2048)
  (ih:∀fr:List Bool,fr.length=W.length+1->EI (flat u) W fr (DH (EC Ee u 0) W fr)) (fr:List Bool) (hl:fr.length=W.length+1) :
  EI (x::flat u) W fr (if x.k=6 then Fl (DH (DC (EC Ee u 0)) W fr) fr else DH (DC (EC Ee u 0)) W fr):=by
 have e2:=ih fr hl;have ihl:=fun Z (hZ:Z.length=W.length+1)=>Oa (pre:=[Bi (flat u),Bo W]) (own:=[]) (own':=[⟨0,1,.row 4 1 1 (bD (DH (EC Ee u 0) W Z))⟩]) (j:=1) (et:=4) (k:=1) (bs:=1) (es:=bD Z) (ih Z hZ) (Lw Z) (by simp) (by simp) (by simp) (by simp[TT,Lw]) rfl
 have jl:=fun(Z Y:List Bool) (hZ:Y.length=Z.length)=>Oa (pre:=[.osl 0 0]) (own:=[⟨0,0,.row 4 1 1 (bD Z)⟩]) (own':=[⟨0,0,.row 4 1 1 (bD (Fl Z Y))⟩]) (j:=1) (et:=4) (k:=1) (bs:=1) (es:=bD Y) (HR Z Y hZ) (Lw Y) (by simp) (by simp) (by simp[TT,Lw]) (by simp[TT,Lw]) rfl
 have h0:Qn (DH (EC Ee u 0) W fr) (DH (DC (EC Ee u 0)) W fr):=fun j hj=>by
  obtain⟨a1,i,a2,a3,a4⟩:=CO.1 hj;exact CO.2 ⟨a1,i,a2,a3,Af_ a4⟩
 have qR:=fun Z (hZ:Z.length=fr.length)=>rS (T:=EC Ee u 0) (to:=Z) hl hZ
 have hdn:=fun Z (hZ:Z.length=fr.length)=>rU (T:=EC Ee u 0) (to:=Z) hl hZ
 have qY:=BT (DC (EC Ee u 0)) W fr;have e4:=HR (DH (DC (EC Ee u 0)) W fr) fr (by rw[BT]);obtain⟨R,hR⟩:∃R,R=DH (DC (EC Ee u 0)) W fr:=⟨_,rfl⟩;rw[<-hR]at h0 qY e4 |-;simp only[<-hR]at qR hdn;have hE:∀Z:List Bool,(DH (EC Ee u 0) W Z).length=Z.length:=fun Z=>BT _ _ _
 obtain⟨E,hEd⟩:∃E:List Bool->List Bool,∀Z,E Z=DH (EC Ee u 0) W Z:=⟨_,fun _=>rfl⟩;simp only[<-hEd]at e2 ihl h0 qR hdn hE;obtain⟨m,hm⟩:∃m,m=flat u:=⟨_,rfl⟩;rw[<-hm]at e2 hs |-;simp only[<-hm]at ihl;clear ih hR hEd hm;have hsm:((m.length:Int)+1)<=2049:=by omega
 have wA:List.take m.length (List.map Bu m)=List.map Bu m:=by rw[<-List.map_take,aT0]
 unfold EI at e2 |-;refine BU [] [(27,0,1)] DU func85 call85 ntmps85 mxd (Az @DU.eq_1 results85) rfl (fun qJ B qX qQ=> ?_);clear qJ;simp only[Ap];have h1:fr.length<=65:=by omega
 rcases hk with hk | hk
 all_goals
  (refine Ba Ac (AQ (Ii [] [(27,0)] e2)) (Lj @Bu.eq_1 hk Dn h1 wA) ?_;intros;refine Al ?_)
  refine An (X:={Z:List Bool//Z.length=fr.length/\Qn Z R/\Qn (E fr) Z}) (fun Z=>⟨[(0,Bi (x::m)),(1,Bo W),(2,Mc fr),(7,.osl 27 1),(8,.ref (Bu x))],[⟨27,1,.row 4 1 1 (bD Z.1)⟩]⟩) (fun Z=>ZS Z.1) ⟨E fr,hE fr,h0,fun _ h=>h⟩ (Sub.lit (by simp[Bu,hk])) ?_;rintro⟨Z,fF,fC,dD⟩;simp only;have f1:=ihl Z (by omega);have g3:=qR Z fF fC;have g4:=hdn Z fF dD;have hY1:=hE Z;obtain⟨Y,hY⟩:∃Y,Y=E Z:=⟨_,rfl⟩;rw[<-hY]at f1 g3 g4 hY1
  have f2:=jl Z Y hY1;simp only[List.cons_append,List.nil_append]at f1 f2;cases hg:Kg Z Y
  ·obtain⟨g1,g2⟩:=BI_ hY1.symm hg;have hZR:Z=R:=sU (by omega) fC (g4 g2);rw[hg,g1]at f2;rw[hZR]at f1 f2 |-;exact AA Ac (HB (Ii [(27,1)] [(33,0)] f1) (Ii [(33,1),(27,0)] [] f2) (Ii [(27,0)] [] e4)) (HB @Bu.eq_1 hk wA)
  ·have g5:=lZ hY1.symm hg;rw[hg]at f2
   (refine Ba Ac (Az (Ii [(27,1)] [(33,0)] f1) (Ii [(33,1),(27,0)] [] f2)) (HB @Bu.eq_1 hk wA) ?_;intros;refine Al ?_)
   refine Ak.mk ⟨Fl Z Y,by rw[IS hY1.symm];exact fF,fun j hj=>by rcases (Um hY1.symm j).1 hj with h | h;exact fC j h;exact g3 j h,fun j hj=>(Um hY1.symm j).2 (.inl (dD j hj))⟩ (Sub.lit (by simp[Bu,hk])) g5
   skip
theorem tS (x:Nd) (ks:List RT) (qO:DR (.mk x ks)=true) (hs:(flat (.mk x ks)).length<=2048) (W:List ByteArray) (hW:W.length<=64)
  (ih:∀u∈ks,∀fr:List Bool,fr.length=W.length+1->EI (flat u) W fr (DH (EC Ee u 0) W fr)) (fr:List Bool) (hl:fr.length=W.length+1):EI (flat (.mk x ks)) W fr (DH (EC Ee (.mk x ks) 0) W fr):=by
 have hA1:∀(u:RT) (w:List ByteArray),Nt Ee [u] 1 w↔EC Ee u 0 w:=fun u w=>by rw[Mx,Ig,or_false,Vr]
 by_cases zM:x.k=2\/x.k=3
 ·have wR:=IY qO zM;subst wR;rw[CC (U:=fun w=>w=[x.s]) (fun w=>by rw[DF,if_pos zM]),Ax,BR];exact tU x zM W hW fr hl
 by_cases h4:x.k=4
 ·rw[CC (U:=Sn Ee ks 1) (fun w=>by rw[DF,if_neg zM,if_pos h4])];exact Bv_ x ks h4 qO hs W hW ih fr hl
 by_cases h67:x.k=6\/x.k=7
 ·obtain⟨u,rfl⟩:=OP qO (by omega);have hf:flat (.mk x [u])=x::flat u:=by rw[Ax,Hi]
  rw[hf]at hs |-;have h:=tT x u h67 W hW (by simp at hs;omega) (ih u (by simp)) fr hl
  by_cases h6:x.k=6
  ·rw[if_pos h6]at h;rw[CC (U:=fun w=>DC (EC Ee u 0) w\/w=[]) (fun w=>by rw[DF,if_neg zM,if_neg h4,if_pos h6,Rs (hA1 u),Cc_,or_comm]),eR,Pl hl];exact h
  ·rw[if_neg h6]at h;rw[CC (U:=DC (EC Ee u 0)) (fun w=>by rw[DF,if_neg zM,if_neg h4,if_neg h6,if_pos (by omega),NY (hA1 u)])];exact h
 by_cases h8:x.k=8
 ·obtain⟨u,rfl⟩:=OP qO (by omega);have hf:flat (.mk x [u])=x::flat u:=by rw[Ax,Hi]
  rw[hf]at hs |-;rw[CC (U:=fun w=>w=[]\/EC Ee u 0 w) (fun w=>by rw[DF,if_neg zM,if_neg h4,if_neg (by omega),if_neg (by omega),if_pos (.inl h8),hA1]),eR,Pl hl];exact Bw_ x u h8 W hW (by simp at hs;omega) (ih u (by simp)) fr hl
 by_cases h1:x.k=1
 ·have wR:ks=[]:=by
   obtain⟨hm,hn,_⟩:=BJ qO;unfold CL at hm;rw[if_pos h1]at hm;simp only[aM0,decide_eq_true_eq]at hm;exact cX0.1 (by omega)
  subst wR;rw[CC (U:=fun w=>w=[]) (fun w=>by rw[DF,if_neg zM,if_neg h4,if_neg (by omega),if_neg (by omega),if_pos (.inr h1),Ig,or_false]),Pl hl,Ax,BR];exact aR x h1 W hW fr hl
 ·have h5:x.k=5:=by
   have hm:=(BJ qO).1;unfold CL at hm;rw[if_neg h1,if_neg (by omega),if_neg (by omega),if_neg h4]at hm
   by_cases h5:x.k=5
   ·exact h5
   ·rw[if_neg h5,if_neg (by omega),if_neg (by omega),if_neg h8]at hm;simp at hm
  rw[CC (U:=Nt Ee ks 1) (fun w=>by rw[DF,if_neg zM,if_neg h4,if_neg (by omega),if_neg (by omega),if_neg (by omega)])];exact Bx_ x ks h5 qO hs W hW ih fr hl
mutual
theorem Tl (W:List ByteArray) (hW:W.length<=64):∀t:RT,DR t=true->(flat t).length<=2048->∀fr:List Bool,fr.length=W.length+1->EI (flat t) W fr (DH (EC Ee t 0) W fr)
 | .mk x ks,qO,hs,fr,hl=>tS x ks qO hs W hW (QG W hW ks (BJ qO).2.2 (by rw[Ax,List.length_cons]at hs;omega)) fr hl
theorem QG (W:List ByteArray) (hW:W.length<=64):∀us:List RT,Fs us=true->(Ah us).length<=2048->∀u∈us,∀fr:List Bool,fr.length=W.length+1->EI (flat u) W fr (DH (EC Ee u 0) W fr)
 | [],_,_,u,hu=>by cases hu
 | v::us,qO,hs,u,hu=>by
  rw[Ao,aE0]at hs
  rcases aL0.1 hu with hv | hu
  ·rw[hv];exact Tl W hW v (BG qO).1 (by omega)
  ·exact QG W hW us (BG qO).2 (by omega) u hu
end
end Go.Proofs.Wy
end
section
namespace Go.Proofs.Wy
open Go Go.Dm Tryz
variable [DMode]
inductive Rch (E:List (Nat×Nat)):Nat->Nat->Prop where
 | refl (p:Nat):Rch E p p
 | step {p q r:Nat}:(p,q)∈E->Rch E q r->Rch E p r
theorem Rch.one {E:List (Nat×Nat)} {p q:Nat} (h:(p,q)∈E):Rch E p q:= .step h (.refl q)
theorem Rch.trans {E:List (Nat×Nat)} {p q r:Nat} (h:Rch E p q) (h':Rch E q r):Rch E p r:=by
 induction h with
 | refl _=>exact h'
 | step a _ ih=>exact .step a (ih h')
theorem Rch.mono {E E':List (Nat×Nat)} (h:∀x∈E,x∈E') {p q:Nat} (hr:Rch E p q):Rch E' p q:=by
 induction hr with
 | refl _=>exact .refl _
 | step a _ ih=>exact .step (h _ a) ih
theorem Rch.map {E E':List (Nat×Nat)} (f:Nat->Nat) (h:∀x∈E,(f x.1,f x.2)∈E') {p q:Nat} (hr:Rch E p q):Rch E' (f p) (f q):=by
 induction hr with
 | refl _=>exact .refl _
 | step a _ ih=>exact .step (h _ a) ih
end Go.Proofs.Wy
end
