/- Parts of a proof, laid together: RS0, RS1, RS2, AP3, AP4, RS3. -/
import Derived.Test.YtbpmiknobocjoaaGreatqAp17
import Derived.Test.YtbpmiknobocjoaaGreatqAp19
import Derived.Test.YtbpmiknobocjoaaGreatqAp36
import Derived.Test.YtbpmiknobocjoaaGreatqAp38
set_option linter.unusedSimpArgs false
set_option maxHeartbeats 8000000
set_option linter.unusedVariables false
set_option linter.unusedSectionVars false
section
namespace Go.Proofs.Wy
open Go Go.Dm Tryz
variable [DMode]
def Jy (g:List Rul) (h:ByteArray):List (List Nd):=(g.filter fun r=>decide (r.h=h)).map (·.b)
def UU (gt:GT) (h:ByteArray):List RT:=(gt.filter fun p=>decide (p.1=h)).map (·.2)
theorem Zg (g:List Rul) (r:Rul) (h:ByteArray):Jy (g++[r]) h=Jy g h++(if r.h=h then [r.b]else []):=by
 unfold Jy;rw[dI0,bD0]
 congr 1
 by_cases hr:r.h=h<;>simp[hr]
theorem Wt (g:List Rul) (h:ByteArray):(Jy g h).length<=g.length:=by unfold Jy;rw[aJ0];exact cM0 _ _
theorem Ws (gt:GT) (h:ByteArray):Jy (Bu gt) h=(UU gt h).map Ad:=by
 unfold Jy UU Bu;rw[List.filter_map,cC0,cC0];rfl
theorem UT {gt:GT} {h:ByteArray} {t:RT} (ht:t∈UU gt h):∃p∈gt,p.2=t:=by
 unfold UU at ht;obtain⟨p,hp,rfl⟩:=aT0.1 ht;exact⟨p,(cG0.1 hp).1,rfl⟩
theorem Og : ∀(g:List Rul) (h:ByteArray),Cw (Jy g h)<=Ds g
 | [],h=>by simp[Jy,Cw,Ds]
 | r::g,h=>by
  have ih:=Og g h;have h2:Ds (r::g)=HC r.b+Ds g:=by simp[Ds]
  by_cases hr:r.h=h
  ·have h1:Jy (r::g) h=r.b::Jy g h:=by simp[Jy,hr]
   have h3:Cw (r.b::Jy g h)=HC r.b+Cw (Jy g h):=by simp[Cw]
   rw[h1,h3,h2];omega
  ·have h1:Jy (r::g) h=Jy g h:=by simp[Jy,hr]
   rw[h1,h2];omega
structure OkgT (gt:GT):Prop where
 ok:OkG gt
 one:1<=gt.length
 le:gt.length<=64
 hd:(AD (Bu gt)).length<=16
 lb:(AG (Bu gt)).length<=16
 oc:Ds (Bu gt)<=64
 dp:FU gt=false
 ms:(CP (Bu gt)).length=0
 tx:(Ca gt).size<=2048
theorem Fm_ {gt:GT} (hk:OkG gt) (h1:1<=gt.length) (h2:gt.length<=64) (h:Nk gt=0):OkgT gt:=by
 unfold Nk at h
 repeat' split at h
 all_goals first
  | omega
  | skip
 rename_i a1 a2 a3 a4 a5 a6;exact⟨hk,h1,h2,by omega,by omega,by omega,by simpa using a4,by omega,by omega⟩
theorem oV {gt:GT} (h:OkgT gt) {p:ByteArray×RT} (hp:p∈gt):ED p.2=true/\(Ad p.2).length<=2048/\Dk p.2=0:=by
 have h1:=(h.ok p hp).2;have h2:=Xq hp;have h3:=h.tx;have h4:=US p.2 h1;refine⟨h1,by omega,?_⟩
 have h5:¬16<JC p.2:=fun hh=>by
  have:FU gt=true:=by unfold FU;rw[cF0];exact⟨p,hp,by simpa using hh⟩
  rw[h.dp]at this;simp at this
 unfold Dk;rw[if_neg h5,if_neg (by omega)]
theorem Ag_ {gt:GT} (h:OkgT gt) {p:ByteArray×RT} (hp:p∈gt) {x:Nd} (hx:x∈Ad p.2):Qu (AD (Bu gt)) (AG (Bu gt)) x≠4:=by
 have hr:(⟨p.1,Ad p.2⟩:Rul)∈Bu gt:=aT0.2 ⟨p,hp,rfl⟩;unfold Qu
 split
 ·rename_i h3
  have hm:x.s∈AG (Bu gt):=by
   unfold AG;rw[(HQ _).2];unfold AK Cp;exact bP0.2 ⟨_,hr,aT0.2 ⟨x,cG0.2 ⟨hx,by simpa using h3⟩,rfl⟩⟩
  unfold Fz;rw[if_pos hm];omega
 ·split
  ·rename_i h2
   have hm:x.s∈AD (Bu gt):=by
    rcases Classical.em (x.s∈AD (Bu gt))with hh | hh
    ·exact hh
    ·exfalso
     have:x.s∈CP (Bu gt):=by
      unfold CP;rw[cG0,(HQ _).2];refine⟨?_,by simpa using hh⟩;unfold AK Cp;exact bP0.2 ⟨_,hr,aT0.2 ⟨x,cG0.2 ⟨hx,by simpa using h2⟩,rfl⟩⟩
     have h3:=List.length_pos_of_mem this;have:=h.ms;omega
   unfold Fz;rw[if_pos hm];omega
  ·omega
theorem Zj {gt:GT} (h:OkgT gt) (s:ByteArray):(Jy (Bu gt) s).any (Hb (AD (Bu gt)) (AG (Bu gt)))=false:=by
 rw[eD0];intro hh;rw[cF0]at hh;obtain⟨l,hl,hb⟩:=hh;rw[Ws]at hl;obtain⟨t,ht,rfl⟩:=aT0.1 hl;obtain⟨p,hp,rfl⟩:=UT ht;unfold Hb at hb;rw[cF0]at hb;obtain⟨x,hx,hxe⟩:=hb;exact Ag_ h hp hx (by simpa using hxe)
theorem aU {gt:GT} (h:OkgT gt) (s:ByteArray):∀t∈UU gt s,ED t=true/\(Ad t).length<=2048:=fun t ht=>by
 obtain⟨p,hp,rfl⟩:=UT ht;have:=oV h hp;exact⟨this.1,this.2.1⟩
theorem iS {gt:GT} (h:OkgT gt) (s:ByteArray):(BY (UU gt s)).length<=64:=by
 rw[<-IV,<-Ws];have:=Og (Bu gt) s;have:=h.oc;omega
def OG (gt:GT):List Auto:=(AD (Bu gt)).map fun s=>Wu (HO (Bu gt)) (UU gt s)
theorem Sx (gt:GT):(OG gt).length=(AD (Bu gt)).length:=by simp[OG]
theorem sZ {gt:GT} {i:Nat} {s:ByteArray} (h:(AD (Bu gt))[i]? =some s):(OG gt)[i]? =some (Wu (HO (Bu gt)) (UU gt s)):=by unfold OG;rw[bH0,h];rfl
def Co (l:List Auto):Nat:=(l.map fun a=>a.st.toNat).sum
theorem TA (l:List Auto) (a:Auto):Co (l++[a])=Co l+a.st.toNat:=by simp[Co]
theorem sY {gt:GT} (h:OkgT gt):∀a∈OG gt,GS a=true:=fun a ha=>by
 obtain⟨s,_,rfl⟩:=aT0.1 ha;exact Gd_ _ _ _ (iS h s)
theorem KK : ∀{l:List Auto},(∀a∈l,GS a=true)->Co l<=65*l.length
 | [],_=>by simp[Co]
 | a::l,h=>by
  have h1:=XL (h a aH0);have h2:=KK (l:=l) fun x hx=>h x (aF0 _ hx)
  have h3:Co (a::l)=a.st.toNat+Co l:=by simp[Co]
  rw[h3,List.length_cons];omega
def Cl : Nat->List Auto->List (Auto×Nat)
 | _,[]=>[]
 | f,a::l=>(a,f)::Cl (f+a.st.toNat) l
theorem Ib (a:Auto):∀(l:List Auto) (f:Nat),Cl f (l++[a])=Cl f l++[(a,f+Co l)]
 | [],f=>by simp[Cl,Co]
 | b::l,f=>by
  have h3:Co (b::l)=b.st.toNat+Co l:=by simp[Co]
  rw[List.cons_append,Cl,Cl,Ib a l,h3,cS0];rfl
theorem Gw : ∀(l:List Auto) (f:Nat),(Cl f l).length=l.length
 | [],_=>rfl
 | a::l,f=>by rw[Cl,List.length_cons,List.length_cons,Gw l]
def WV (p:Auto×Nat):List DVal:=[.int .i64 p.1.st,CQ p.1.fin,BR p.1.arcs,.int .i64 (p.2:Int)]
abbrev Pw (l:List (Auto×Nat)):DVal:= .sl 4 64 (l.map WV)
@[simp] theorem GV_ (p:Auto×Nat):AJ (WV p)=0:=by simp[WV,AJ,mx]
@[simp] theorem IC_ (l:List (Auto×Nat)):Br (l.map WV)=0:=Ie _ GV_ l
def CR (H L:List ByteArray) (xs:List Auto):DVal:= .ref [CB H L,Pw (Cl 0 xs),.int .i64 (Co xs)]
end Go.Proofs.Wy
end
section
namespace Go.Proofs.Wy
open Go Go.Dm Tryz
variable [DMode]
attribute [local irreducible] DW BN BS
set_option maxRecDepth 100000
def NB : Ann:=⟨[],[]⟩
theorem QT (g:List Rul) (h:ByteArray) (hl:g.length<=64):Af prog 36 [Au g,.str h] (Cc (Jy g h)):=by
 refine Ae [50] NB func36 call36 ntmps36 mxd (AB @NB.eq_1 results36) rfl (fun qJ B qX qQ=> ?_);clear qJ;simp only[Aq]
 iterate 6 ((first | refine AC fun K hK=> ?_ | (refine BA NB mxd (by kernel_rfl) ?_;simp[NB,qX];try simp (disch:=omega) only[Ag]) | refine Ao ?_ | (refine AX ?_ ?_ ?_;(· (simp[qX];done));(try (rotate_left;(· (intro hc;(try simp[qX]at hc);done))))) | (refine AE ?_;simp[results36,qX]) | ((first | refine Aw ?_ | refine Av ?_);simp[qX]) | (intro hc;(try simp[qX]at hc);(try (exfalso;omega))) | (refine⟨?_,?_⟩; · omega) | omega | apply_assumption -exfalso -symm | (exfalso;omega)))
 refine BM 5 50 31 1 24 (by simp[qX,results36,NB]) (fun n=> ?_)
 (refine AL Ab Ab Ab ?_;intros;refine Am ?_)
 refine Ai (X:={k:Nat//k<=g.length}) (fun k=>⟨[(0,Au g),(1,.str h),(5,.osl 50 1),(6,.int .i64 k.1)],[⟨50,1,.row 31 1 24 ((Jy (g.take k.1) h).map Fg)⟩]⟩) (fun k=>g.length-k.1) ⟨0,by omega⟩ (Sub.lit (by simp[Jy])) ?_;rintro⟨k,hk⟩;simp only
 by_cases qV:k<g.length
 ·obtain⟨r,hr,qW,bL⟩:=Ap qV;have yM:=Zg (g.take k) r h;rw[<-Bh hr]at yM;have yK:=Wt (g.take k) h;rw[aY0]at yK;obtain⟨T,hT⟩:∃T,T=Jy (g.take k) h:=⟨_,rfl⟩;rw[<-hT]at yM yK |-;have hb:(T.length+1)*24<=150000000000000:=by omega
  have vQ:IntKind.i64.wrap ((k:Int)+1)=(k:Int)+1:=wq
  by_cases hh:r.h=h
  ·rw[if_pos hh]at yM;have zK:(Jy (g.take (k+1)) h).map Fg=T.map Fg++[[AM r.b]]:=by rw[yM,bD0];rfl
   (refine AL Ab Ab (IH @Ba.eq_1 qV hr qW hh hb vQ) ?_;intros;refine Am ?_)
   refine Al.mk ⟨k+1,by omega⟩ (Sub.lit (by simp[zK])) (by simp;omega)
   skip
  ·rw[if_neg hh,bR0]at yM;have pB:(r.h==h)=false:=by simpa using hh
   (refine AL Ab Ab (IH @Ba.eq_1 qV hr qW hh pB vQ) ?_;intros;refine Am ?_)
   refine Al.mk ⟨k+1,by omega⟩ (Sub.lit (by simp[yM])) (by simp;omega)
   skip
 ·have qZ:k=g.length:=by omega
  subst qZ;rw[aU0];exact Az Ab Ab Ab
end Go.Proofs.Wy
end
section
namespace Go.Proofs.Wy
open Go Go.Dm Tryz
attribute [local irreducible] DW BN BS
set_option maxRecDepth 100000
theorem Ur : ∀{ls:List (List Nd)},(∀l∈ls,Jz l=0)->HI ls=0
 | [],_=>rfl
 | l::ls,h=>by
  unfold HI;rw[if_pos (h l aH0)];exact Ur fun x hx=>h x (aF0 _ hx)
theorem Ey_ {gt:GT} (h:OkgT gt) {p:ByteArray×RT} (hp:p∈gt):Jz (Ad p.2)=0:=by
 obtain⟨h1,h2,h3⟩:=oV h hp;obtain⟨t,ht,he,hc⟩:=Ge_ h2 (Fb h1);have:=(RJ p.2 t [] [] h1 ht (by rw[he])).1;rw[hc,<-this];exact h3
theorem sO {gt:GT} (h:OkgT gt) (s:ByteArray):HI (Jy (Bu gt) s)=0:=Ur fun l hl=>by
 rw[Ws]at hl;obtain⟨t,ht,rfl⟩:=aT0.1 hl;obtain⟨p,hp,rfl⟩:=UT ht;exact Ey_ h hp
theorem rU {gt:GT} (h:OkgT gt) (s:ByteArray):Cw (Jy (Bu gt) s)<=64:=by
 have:=Og (Bu gt) s;have:=h.oc;omega
theorem Cd_ {gt:GT} (h:OkgT gt) (s:ByteArray):Hu (AD (Bu gt)) (AG (Bu gt)) (Jy (Bu gt) s)=0:=by
 unfold Hu;have:=rU h s;rw[if_pos (sO h s),if_neg (by rw[Zj h s];simp),if_neg (by omega)]
theorem DL_ {gt:GT} (h:OkgT gt):(AD (Bu gt)).length≠0:=by
 intro h0
 cases gt with
 | nil=>have:=h.one;simp at this
 | cons p gt =>
  have h1:p.1∈AD (Bu (p::gt)):=RC.2 ⟨⟨p.1,Ad p.2⟩,aH0,rfl⟩;rw[dY0.1 h0]at h1;simp at h1
theorem Cj_ {gt:GT} (h:OkgT gt) (s:ByteArray):∀ts',Jy (Bu gt) s=ts'.map Ad->(∀t∈ts',ED t=true/\(Ad t).length<=2048)->ts'=UU gt s:=fun ts' h1 h2=>Tv ts' (UU gt s) (fun t ht=>(h2 t ht).1) (fun t ht=>(aU h s t ht).1) (by rw[<-h1,Ws])
theorem Ex_ {gt:GT} (h:OkgT gt) (s:ByteArray):Af prog 19 [CB (AD (Bu gt)) (AG (Bu gt)),Cc (Jy (Bu gt) s)] (.tup [.agg (EY (Wu (HO (Bu gt)) (UU gt s))),.int .i64 0]):=by
 have h1:=sO h s;have h2:=Zj h s;have h3:=rU h s;have e5:=AL_ (AD (Bu gt)) (AG (Bu gt)) (Jy (Bu gt) s) (.tup [lY (AD (Bu gt)) (AG (Bu gt)) (UU gt s),.int .i64 0]) (DL_ h) ⟨fun hh=>absurd h1 hh,fun _ hh=>by rw[h2]at hh;simp at hh,fun _ _ hh=>by omega,fun _ ts' h4 h5 _ _=>by rw[Cj_ h s ts' h4 h5]⟩ (by simp[lY,UC,mx,AJ]);rw[sW]at e5;exact e5
theorem CG_ {gt:GT} (h:OkgT gt) (hs:Ge (Bu gt)) (s:ByteArray):Af prog 35 [Au (Bu gt),Cc (Jy (Bu gt) s)] (.tup [.agg (EY (Wu (HO (Bu gt)) (UU gt s))),.int .i64 0]):=by
 have kP:=Wt (Bu gt) s;have hgl:=Ft gt;have yD:=h.le;have nO:=EE (k:=3) hs;have e6:=eN (Bu gt) (Jy (Bu gt) s) (.tup [Av_ (Bu gt) (UU gt s),.int .i64 0]) (by omega) (by simp[Av_,UC,mx,AJ]) (fun hh=>absurd (Cd_ h s) hh) (fun ts' h4 h5 _ _=>by rw[Cj_ h s ts' h4 h5]);rw[<-Hn_ (Bu gt) (UU gt s) fun t ht=>(aU h s t ht).1,sW]at e6;exact e6
def EK_ : Ann:=⟨[21],[⟨8,[9],[],[]⟩,⟨11,[],[0],[]⟩]⟩
theorem AM_ (g:List Rul) (c:Int) (hc:c≠0) (h:Af prog 39 [Au g] (.int .i64 c)):Af prog 5 [Au g] (.tup [.nilp,.int .i64 c]):=by
 have e1:=CX_ g c hc h;have hcb:(c==0)=false:=by simpa using hc
 refine Ae [] EK_ func5 call5 ntmps5 mxd (AB @EK_.eq_1 results5) rfl (fun qJ B qX qQ=> ?_);clear qJ;simp only[Aq];exact Az (AH e1) Ab (AB hc hcb)
theorem Xp (g:List Rul):∀h v,rd (fun _ _=>none) [] h (Au g) v->v.oneCell'=true/\v.cells= #[v]:=by
 intro h v hr;simp only[rd]at hr;obtain⟨a,cap,rfl,_⟩:=hr;exact⟨rfl,rfl⟩
def xM : Ann:=⟨[11,16,18,19,21],[]⟩
theorem iI (g:List Rul) (hn:(AK 3 g).length*16<=140737488355328) (hl:(AD g).length<9223372036854775807) (hll:(AG g).length<9223372036854775807) (h:Af prog 39 [Au g] (.int .i64 0)):DO prog 17 [Au g] (.tup [CB (AD g) (AG g),.int .i64 0]):=by
 refine LP [19,21] func17 rfl call17 (by simp[ntmps17]) (by decide) (by simp[mx]) (by simp[mx]) rfl (Xp g) ?_;intro qJ M0 B qX;have qQ:=EJ_ xM mxd (AB @xM.eq_1 results17);clear qJ;simp only[Aq];have e0:=Ts (h0:=M0) (rest:=[]) rfl rfl h;have e1:=Gg (h0:=M0) (rest:=[]) rfl (LJ g);have e2:=Gg (h0:=M0) (rest:=[]) rfl (Kg g hn);have hH:=VV g;have hL:=Aj_ (HQ (AK 3 g)).1;rw[show EW (AK 3 g)=AG g from rfl]at hL
 obtain⟨H,eH⟩:∃H,H=AD g:=⟨_,rfl⟩;obtain⟨L,eL⟩:∃L,L=AG g:=⟨_,rfl⟩;rw[<-eH]at e1 hH hl |-;rw[<-eL]at e2 hL hll |-;clear eH eL;obtain⟨A,hA⟩:∃A,A=GH (Au g) M0:=⟨_,rfl⟩;rw[<-hA]at e0 e1 e2 |-
 (refine AL Ab (CL (JA [(0,0)] [] e0) (JA [(0,0)] [] e1) (JA [(0,0)] [] e2)) Ab ?_;intros;refine Am ?_)
 refine Ai (X:={k:Nat//k<=H.length}) (fun k=>⟨[(5,.bx 21 1 0),(25,Bz H),(26,.int .i64 H.length),(27,.int .i64 k.1)],[⟨0,0,.abs A⟩,⟨21,1,.box [Bz H,Bz L,.omp 19 1]⟩,⟨19,1,.map (GD false (H.take k.1)) (FX k.1)⟩]⟩) (fun k=>H.length-k.1) ⟨0,by omega⟩ (Sub.lit (by simp[GD,FX])) ?_;rintro⟨k,hk⟩;simp only
 by_cases qV:k<H.length
 ·obtain⟨x,hx,qB,vD⟩:=Ap qV;have h1:=IZ (b:=false) (XW hH hx);have qG:=VO false (H.take k);have hu:FX k++[.int .i64 (k:Int)]=FX (k+1):=(Tt k).symm;have hKs:GD false (H.take k)++[.agg [.bool false,.str x]]=GD false (H.take (k+1)):=by rw[Bh hx,Ud]
  (refine AL Ab Ab (KG qV hx qB @Be.eq_1 h1 qG hu hKs) ?_;intros;refine Am ?_)
  refine Al.mk ⟨k+1,by omega⟩ (Sub.lit (by simp[hKs])) (by simp;omega)
  skip
 ·have qZ:k=H.length:=by omega
  subst qZ;rw[aU0];have k0:GD true []=[]:=rfl;have u0:FX 0=[]:=rfl
  (refine AL Ab Ab Ab ?_;intros;refine Am ?_)
  refine Ai (X:={k:Nat//k<=L.length}) (fun k=>⟨[(5,.bx 21 1 0),(43,Bz L),(44,.int .i64 L.length),(45,.int .i64 k.1)],[⟨0,0,.abs A⟩,⟨21,1,.box [Bz H,Bz L,.omp 19 1]⟩,⟨19,1,.map (Mt H (L.take k.1)) (FX H.length++FX k.1)⟩]⟩) (fun k=>L.length-k.1) ⟨0,by omega⟩ (Sub.lit (by simp[Mt,k0,u0])) ?_;rintro⟨k,hk⟩;simp only
  by_cases qV:k<L.length
  ·obtain⟨x,hx,qB,vD⟩:=Ap qV;have h1:=Xc (H:=H) (L:=L.take k) (b:=true) (XW hL hx);have qG:=Cm_ H (L.take k);have hu:FX H.length++FX k++[.int .i64 (k:Int)]=FX H.length++FX (k+1):=by rw[Tt,aS0]
   have hKs:Mt H (L.take k)++[.agg [.bool true,.str x]]=Mt H (L.take (k+1)):=by unfold Mt;rw[Bh hx,Ud,aS0]
   (refine AL Ab Ab (KG qV hx qB @Be.eq_1 h1 qG hu hKs) ?_;intros;refine Am ?_)
   refine Al.mk ⟨k+1,by omega⟩ (Sub.lit (by simp[hKs])) (by simp;omega)
   skip
  ·have qZ:k=L.length:=by omega
   subst qZ;rw[aU0];exact Az Ab Ab Ab
def Li : Ann:=⟨[5],[]⟩
theorem Zb (l:List Nd):Bj prog (.func 55) [AM l] [] (.osl 0 1) [⟨0,1,.row 36 3 32 (l.map Bo)⟩]:=by
 match l with
 | [] =>
  refine NK ?_ ?_
  ·refine Gf ?_;refine Ae [] Li func55 call55 ntmps55 mxd (AB @Li.eq_1 results55) rfl (fun qJ B qX qQ=> ?_);simp only[Aq];exact Az Ab Ab Ab
  ·refine BL [] [(5,0,1)] Li func55 call55 ntmps55 mxd (AB @Li.eq_1 results55) rfl (fun qJ B qX qQ=> ?_);simp only[Aq,List.nil_append];exact Az Ab Ab Ab
 | x::l =>
  refine BL [] [(5,0,1)] Li func55 call55 ntmps55 mxd (AB @Li.eq_1 results55) rfl (fun qJ B qX qQ=> ?_);have vR:(l.length+1)*32<=150000000000000:=by have:=qJ.1;simp only[Ev,aJ0,List.length_cons]at this;exact this.1
  clear qJ;have fU:l.length<9223372036854775807:=by omega
  simp only[Aq,List.nil_append,List.map_cons,AM,Bo];exact Az Ab Ab Ab
def boR (us:List Value):List (List DVal):=us.map fun u=>[.pin u]
def boF (T:List (List Nd)) (us:List Value):List WO:=(T.zip us).map fun p=>(p.2,AM p.1,AM p.1)
@[simp] theorem GZ_ (us:List Value):Br (boR us)=0:=by
 unfold boR;exact Ie _ (fun p=>by simp[AJ,mx]) _
theorem Ez_ (us:List Value) (u:Value):boR (us++[u])=boR us++[[.pin u]]:=by simp[boR]
theorem EA_ {T:List (List Nd)} {us:List Value} (l:List Nd) (u:Value) (h:us.length=T.length):boF (T++[l]) (us++[u])=boF T us++[(u,AM l,AM l)]:=by
 unfold boF;rw[List.zip_append h.symm,bD0];rfl
theorem Ho_ {T:List (List Nd)} {us:List Value} {i:Nat} {u:Value} {l:List Nd} (h1:T[i]? =some l) (h2:us[i]? =some u):(u,AM l,AM l)∈boF T us:=by
 refine aT0.2 ⟨(l,u),bJ0 (i:=i) ?_,rfl⟩;rw[eP0];exact⟨h1,h2⟩
def DK : Ann:=⟨[21],[⟨4,[7],[],[]⟩]⟩
theorem Ss (g:List Rul) (h:ByteArray) (hl:g.length<=64):DO prog 20 [Au g,.str h] (Cc (Jy g h)):=by
 refine NM func20 rfl call20 (by simp[ntmps20]) (by simp[mx]) ?_;intro qJ B qX h0;clear qJ;simp only[Aq];obtain⟨n0,hn⟩:∃n0,n0=B.w0.heap.size:=⟨_,rfl⟩;rw[<-hn];refine ER (Sub.pins0 99 n0 (by simp[Hk,mx])) ?_
 iterate 6 ((first | refine AC fun K hK=> ?_ | (refine BA DK mxd (by kernel_rfl) ?_;simp[DK,qX];try simp (disch:=omega) only[Ag]) | refine Ao ?_ | (refine AX ?_ ?_ ?_;(· (simp[qX];done));(try (rotate_left;(· (intro hc;(try simp[qX]at hc);done))))) | (refine AE ?_;simp[results20,qX]) | ((first | refine Aw ?_ | refine Av ?_);simp[qX]) | (intro hc;(try simp[qX]at hc);(try (exfalso;omega))) | (refine⟨?_,?_⟩; · omega) | omega | apply_assumption -exfalso -symm | (exfalso;omega)))
 refine BM 5 50 31 1 24 (by simp[qX,results20,DK]) (fun n=> ?_)
 (repeat (first | refine AC fun K hK=> ?_ | (refine BA DK mxd (by kernel_rfl) ?_;simp[DK,qX];try simp (disch:=omega) only[Ag]) | refine Ao ?_ | (refine AX ?_ ?_ ?_;(· (simp[qX];done));(try (rotate_left;(· (intro hc;(try simp[qX]at hc);done))))) | (refine AE ?_;simp[results20,qX]) | ((first | refine Aw ?_ | refine Av ?_);simp[qX]) | (intro hc;(try simp[qX]at hc);(try (exfalso;omega))) | (refine⟨?_,?_⟩; · omega) | omega | apply_assumption -exfalso -symm | (exfalso;omega)))
 refine Ai (X:={x:Nat×List Value//x.1<=g.length/\x.2.length=(Jy (g.take x.1) h).length}) (fun x=>⟨[(0,Au g),(1,.str h),(5,.osl 50 1),(8,Au g),(9,.int .i64 g.length),(10,.int .i64 x.1.1)],[⟨50,1,.row 31 1 24 (boR x.1.2)⟩,⟨99,1,.abs (Ob n0 (boF (Jy (g.take x.1.1) h) x.1.2))⟩]⟩) (fun x=>g.length-x.1.1) ⟨(0,[]),by simp[Jy]⟩ (Sub.lit (by simp[Jy,boR,boF])) ?_;rintro⟨⟨k,us⟩,hk,vV⟩;simp only at hk vV |-
 by_cases qV:k<g.length
 ·obtain⟨r,hr,qW,bL⟩:=Ap qV;have e1:=Zb r.b;have yM:=Zg (g.take k) r h;rw[<-Bh hr]at yM;have yK:=Wt (g.take k) h;rw[aY0]at yK;obtain⟨T,hT⟩:∃T,T=Jy (g.take k) h:=⟨_,rfl⟩;rw[<-hT]at yM yK vV |-;have kP:(boR us).length=us.length:=by simp[boR]
  have hb:((boR us).length+1)*24<=150000000000000:=by omega
  have vQ:IntKind.i64.wrap ((k:Int)+1)=(k:Int)+1:=wq
  by_cases hh:r.h=h
  ·rw[if_pos hh]at yM
   iterate 24 ((first | refine AC fun K hK=> ?_ | (refine BA DK mxd (by kernel_rfl) ?_;simp[DK,qX,Ba,qV,hr,qW,hh,hb,vQ];try simp (disch:=omega) only[Ag]) | refine Ao ?_ | (refine AX ?_ ?_ ?_;(· (simp[qX,Ba,qV,hr,qW,hh,hb,vQ];done));(try (rotate_left;(· (intro hc;(try simp[qX,Ba,qV,hr,qW,hh,hb,vQ]at hc);done))))) | (refine AE ?_;simp[results20,qX,Ba,qV,hr,qW,hh,hb,vQ]) | ((first | refine Aw ?_ | refine Av ?_);simp[qX,Ba,qV,hr,qW,hh,hb,vQ]) | (intro hc;(try simp[qX,Ba,qV,hr,qW,hh,hb,vQ]at hc);(try (exfalso;omega))) | (refine AO [] [(21,0)] (e1) ?_ ?_;(· (simp[qX,Ba,qV,hr,qW,hh,hb,vQ];done));(intro _;try simp[qX,Ba,qV,hr,qW,hh,hb,vQ])) | (refine⟨?_,?_⟩; · omega) | omega | apply_assumption -exfalso -symm | (exfalso;omega)))
   refine UM 21 99 (fun _=>[(0,Au g),(1,.str h),(5,.osl 50 hc),(8,Au g),(9,.int .i64 g.length),(10,.int .i64 k)]) h0 hn rfl rfl ⟨JN r.b,by simp⟩ (by decide) ?_ ?_ (fun u=> ?_)
   ·simp only[Bp,List.forall_mem_cons];simp;exact⟨XO (GZ_ _) (by simp[PW,mx]),trivial⟩
   ·intro u;simp[getS,PW,pc,mx]
   have gO:=Ez_ us u;have zK:=EA_ r.b u vV;rw[<-yM]at zK;simp[Vq,Bp,pcO,pc,Vr];rw[<-gO,<-zK]
   (repeat (first | refine AC fun K hK=> ?_ | (refine BA DK mxd (by kernel_rfl) ?_;simp[DK,qX,vQ];try simp (disch:=omega) only[Ag]) | refine Ao ?_ | (refine AX ?_ ?_ ?_;(· (simp[qX,vQ];done));(try (rotate_left;(· (intro hc;(try simp[qX,vQ]at hc);done))))) | (refine AE ?_;simp[results20,qX,vQ]) | ((first | refine Aw ?_ | refine Av ?_);simp[qX,vQ]) | (intro hc;(try simp[qX,vQ]at hc);(try (exfalso;omega))) | (refine⟨?_,?_⟩; · omega) | omega | apply_assumption -exfalso -symm | (exfalso;omega)))
   refine Al.mk ⟨(k+1,us++[u]),by omega,by rw[yM];simp[vV]⟩ (Sub.lit (by simp)) (by simp;omega)
  ·rw[if_neg hh,bR0]at yM;have pB:(r.h==h)=false:=by simpa using hh
   (repeat (first | refine AC fun K hK=> ?_ | (refine BA DK mxd (by kernel_rfl) ?_;simp[DK,qX,Ba,qV,hr,qW,hh,pB,vQ];try simp (disch:=omega) only[Ag]) | refine Ao ?_ | (refine AX ?_ ?_ ?_;(· (simp[qX,Ba,qV,hr,qW,hh,pB,vQ];done));(try (rotate_left;(· (intro hc;(try simp[qX,Ba,qV,hr,qW,hh,pB,vQ]at hc);done))))) | (refine AE ?_;simp[results20,qX,Ba,qV,hr,qW,hh,pB,vQ]) | ((first | refine Aw ?_ | refine Av ?_);simp[qX,Ba,qV,hr,qW,hh,pB,vQ]) | (intro hc;(try simp[qX,Ba,qV,hr,qW,hh,pB,vQ]at hc);(try (exfalso;omega))) | (refine⟨?_,?_⟩; · omega) | omega | apply_assumption -exfalso -symm | (exfalso;omega)))
   refine Al.mk ⟨(k+1,us),by omega,by rw[yM];exact vV⟩ (Sub.lit (by simp[yM])) (by simp;omega)
   skip
 ·have qZ:k=g.length:=by omega
  subst qZ;rw[aU0]at vV |-
  (repeat (first | refine AC fun K hK=> ?_ | (refine BA DK mxd (by kernel_rfl) ?_;simp[DK,qX];try simp (disch:=omega) only[Ag]) | refine Ao ?_ | (refine AX ?_ ?_ ?_;(· (simp[qX];done));(try (rotate_left;(· (intro hc;(try simp[qX]at hc);done))))) | (refine AE ?_;simp[results20,qX]) | ((first | refine Aw ?_ | refine Av ?_);simp[qX]) | (intro hc;(try simp[qX]at hc);(try (exfalso;omega))) | (refine⟨?_,?_⟩; · omega) | omega | apply_assumption -exfalso -symm | (exfalso;omega)))
  refine FrD.row (es:=boR us) rfl (by rw[aJ0,<-vV];simp[boR]) fun i cs cs' h1 h2=> ?_
  unfold boR at h1;rw[bH0]at h1 h2
  cases hu:us[i]? with
  | none=>rw[hu]at h1;simp at h1
  | some u =>
   cases vR:(Jy g h)[i]? with
   | none=>rw[vR]at h2;simp at h2
   | some l =>
    rw[hu]at h1;rw[vR]at h2;simp only[cU0,aA0]at h1 h2;subst h1;subst h2;exact⟨FrD.pin (kid:=99) rfl (Ho_ vR hu),trivial⟩
def EO_ : Ann:=⟨[13,21,33],[⟨8,[9],[],[]⟩,⟨11,[],[0],[]⟩]⟩
theorem iM (gt:GT) (h:OkgT gt) (hs:Ge (Bu gt)) (hck:Af prog 39 [Au (Bu gt)] (.int .i64 0)):DO prog 5 [Au (Bu gt)] (.tup [CR (AD (Bu gt)) (AG (Bu gt)) (OG gt),.int .i64 0]):=by
 refine LP [52,21] func5 rfl call5 (by simp[ntmps5]) (by decide) (by simp[mx,CR,AJ,CB]) (by simp[mx]) rfl (Xp _) ?_;intro qJ M0 B qX;have qQ:=EJ_ EO_ mxd (AB @EO_.eq_1 results5);clear qJ;simp only[Aq];have hgl:=Ft gt;have yD:=h.le;have nO:=EE (k:=3) hs;have pD:=h.hd;have hlb:=h.lb;have e1:=Gg (h0:=M0) (rest:=[]) rfl (iI (Bu gt) (by omega) (by omega) (by omega) hck);have e2:=MP (AD (Bu gt)) (AG (Bu gt))
 have mD:=Sx gt;have haok:=sY h;obtain⟨R,hR⟩:∃R,R=CR (AD (Bu gt)) (AG (Bu gt)) (OG gt):=⟨_,rfl⟩;rw[<-hR];have nB:∀i s,(AD (Bu gt))[i]? =some s->_:=fun i s hi=>sZ (gt:=gt) hi
 have qC:∀s,_:=fun s=>Gg (h0:=M0) (rest:=[.str s]) rfl (Ss (Bu gt) s (by omega))
 have wX:∀s,_:=fun s=>Ex_ h s
 obtain⟨A,hA⟩:∃A,A=OG gt:=⟨_,rfl⟩;rw[<-hA]at hR mD haok nB;obtain⟨H,hH⟩:∃H,H=AD (Bu gt):=⟨_,rfl⟩;rw[<-hH]at e1 e2 hR mD pD nB wX;obtain⟨L,hL⟩:∃L,L=AG (Bu gt):=⟨_,rfl⟩;rw[<-hL]at e1 e2 hR wX;obtain⟨g,hg⟩:∃g,g=Bu gt:=⟨_,rfl⟩;rw[<-hg]at e1 qC wX nB |-;obtain⟨X,hX⟩:∃X,X=GH (Au g) M0:=⟨_,rfl⟩;rw[<-hX]at e1 qC |-;clear hH hL hck nO hlb hs hA
 (refine AL (AH e2) (AH (JA [(0,0)] [] e1)) Ab ?_;intros;refine Am ?_)
 refine Ct 21 1 52 69 4 64 (by simp) (fun n1=> ?_);refine Ai (X:={i:Nat//i<=H.length}) (fun i=>⟨[(0,.osl 0 0),(4,CB H L),(6,.bx 21 1 0),(23,Bz H),(24,.int .i64 H.length),(25,.int .i64 i.1)],[⟨0,0,.abs X⟩,⟨21,1,.box [CB H L,.osl 52 1,.int .i64 (Co (A.take i.1))]⟩,⟨52,1,.row 69 4 64 ((Cl 0 (A.take i.1)).map WV)⟩]⟩) (fun i=>H.length-i.1) ⟨0,by simp⟩ (Sub.lit (by simp[Co,Cl,CB])) ?_;rintro⟨i,hi⟩;simp only
 by_cases qV:i<H.length
 ·obtain⟨s,hx,qB,vD⟩:=Ap qV;have pR:=nB i s hx;obtain⟨a,ha⟩:∃a,a=Wu (HO g) (UU gt s):=⟨_,rfl⟩;have e3:=qC s;have e4:=wX s;rw[<-ha]at pR e4;have wO:=XL (haok a (bJ0 pR));have yM:=Ib a (A.take i) 0;have gF:=TA (A.take i) a;rw[<-Bh pR]at yM gF;have zA:=Gw (A.take i) 0;have hsl:=KK (l:=A.take i) fun x hx=>haok x (cZ0 hx)
  rw[aY0]at zA hsl;rw[bQ0]at yM;obtain⟨T,hT⟩:∃T,T=Cl 0 (A.take i):=⟨_,rfl⟩;obtain⟨S,hS⟩:∃S,S=Co (A.take i):=⟨_,rfl⟩;rw[<-hT]at yM zA |-;rw[<-hS]at yM gF hsl |-;have vC:(Cl 0 (A.take (i+1))).map WV=T.map WV++[[.int .i64 a.st,CQ a.fin,BR a.arcs,.int .i64 (S:Int)]]:=by rw[yM,bD0];rfl
  have hb:(T.length+1)*64<=150000000000000:=by omega
  have vQ:IntKind.i64.wrap ((i:Int)+1)=(i:Int)+1:=wq;have hws:IntKind.i64.wrap ((S:Int)+a.st)=(Co (A.take (i+1)):Int):=by rw[wq,gF];omega
  simp only[EY]at e4
  (refine AL (AH e4) (AH (JA [(0,0)] [] e3)) (KG @Be.eq_1 @EY.eq_1 qV hx qB hb vQ hws) ?_;intros;refine Am ?_)
  refine Al.mk ⟨i+1,by omega⟩ (Sub.lit (by simp[vC,CB])) (by simp;omega)
  skip
 ·have qZ:i=H.length:=by omega
  subst qZ;have hAt:A.take H.length=A:=cK0 (by omega);rw[hAt];unfold CR at hR
  (refine AL Ab Ab Ab ?_;intros;refine Am ?_)
  exact hR.symm
def stL (l:List Auto):List Nat:=(Cl 0 l).map (·.2)
def ntL (l:List Auto):List Nat:=l.zipIdx.flatMap fun p=>List.replicate p.1.st.toNat p.2
def Yg (f:Nat) (x:Arc):Arc:=⟨(f:Int)+x.fr,x.sy,(f:Int)+x.to⟩
def mvF (f:Nat) (q:Int):Int:=(f:Int)+q
def MZ (l:List Auto):List Int:=(Cl 0 l).flatMap fun p=>p.1.fin.map (mvF p.2)
def KF (l:List Auto):List Arc:=(Cl 0 l).flatMap fun p=>p.1.arcs.map (Yg p.2)
theorem Cu_ (l:List Auto) (a:Auto):stL (l++[a])=stL l++[Co l]:=by unfold stL;rw[Ib,bD0];simp
theorem Da_ (l:List Auto) (a:Auto):ntL (l++[a])=ntL l++List.replicate a.st.toNat l.length:=by unfold ntL;rw[List.zipIdx_append,dO0];simp
theorem Bu_ (l:List Auto) (a:Auto):MZ (l++[a])=MZ l++a.fin.map (mvF (Co l)):=by unfold MZ;rw[Ib,dO0];simp
theorem BN_ (l:List Auto) (a:Auto):KF (l++[a])=KF l++a.arcs.map (Yg (Co l)):=by unfold KF;rw[Ib,dO0];simp
theorem Fg_ (l:List Auto):(stL l).length=l.length:=by unfold stL;rw[aJ0,Gw]
theorem Ft_ (l:List Auto):(ntL l).length=Co l:=by
 unfold ntL Co;rw[List.length_flatMap];simp only[List.length_replicate]
 congr 1
 refine List.ext_getElem (by simp) fun i h1 h2=> ?_
 simp
theorem YL : ∀(ts:List RT) (ah:Nat),(FG ah ts).length<=(BY ts).length
 | [],_=>by simp[FG]
 | t::ts,ah=>by
  have h1:(BY (t::ts)).length=(Cq (Ad t)).length+(BY ts).length:=by simp[BY]
  have h2:=YL ts (ah+(Cq (Ad t)).length);have h3:((Gi (Ad t) (Ad t).length).filter (Nc t 0)).length<=(Gi (Ad t) (Ad t).length).length:=cM0 _ _;rw[KO (Nat.le_refl _),Hi]at h3;rw[FG,aD0,aJ0];omega
theorem Bq_ (ts:List RT):(Hp ts).length<=(BY ts).length+1:=by
 have:=YL ts 0;unfold Hp;rw[aD0,aJ0]
 split
 ·simp;omega
 ·simp;omega
structure SmA (a:Auto):Prop where
 ok:GS a=true
 fi:a.fin.length<=65
 ar:a.arcs.length<=1073741888
theorem sX {gt:GT} (h:OkgT gt):∀a∈OG gt,SmA a:=fun a ha=>by
 have qG:=sY h a ha;obtain⟨s,_,rfl⟩:=aT0.1 ha;refine⟨qG,?_,BL_ _ _ (fun t ht=>(aU h s t ht).2) (iS h s)⟩;have h1:=Bq_ (UU gt s);have h2:=iS h s
 show (Hp (UU gt s)).length<=65
 omega
theorem YN : ∀{l:List Auto},(∀a∈l,SmA a)->∀f,((Cl f l).flatMap fun p=>p.1.fin.map (mvF p.2)).length<=65*l.length
 | [],_,_=>by simp[Cl]
 | a::l,h,f=>by
  have h1:=(h a aH0).fi;have h2:=YN (l:=l) (fun x hx=>h x (aF0 _ hx)) (f+a.st.toNat);rw[Cl,cP0,aD0,aJ0,List.length_cons];simp only;omega
theorem SC : ∀{l:List Auto},(∀a∈l,SmA a)->∀f,((Cl f l).flatMap fun p=>p.1.arcs.map (Yg p.2)).length<=1073741888*l.length
 | [],_,_=>by simp[Cl]
 | a::l,h,f=>by
  have h1:=(h a aH0).ar;have h2:=SC (l:=l) (fun x hx=>h x (aF0 _ hx)) (f+a.st.toNat);rw[Cl,cP0,aD0,aJ0,List.length_cons];simp only;omega
abbrev En_ (l:List Auto):DVal:= .sl 3 56 (l.map EY)
def CH_ (l:List Auto):DVal:= .agg [.int .i64 (Co l),CI (stL l),CI (ntL l),CQ (MZ l),BR (KF l),En_ l]
end Go.Proofs.Wy
end
