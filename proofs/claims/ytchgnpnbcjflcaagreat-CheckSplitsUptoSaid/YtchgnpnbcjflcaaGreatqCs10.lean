/- Parts of a proof, laid together: RS2, RS3, RS4, RS5, RS6, RS7, RS8, W97, WO, W98, W44, W47, W96, CF0, EnZ, CF1, W18, W100, WS, W58, W29, CF2, W88, W90, W43, W94, W25, WF, W57, W26, W19, W14, W81, W13, W45, W7, W23, W9, W89, W91, W50. -/
import Derived.Test.YtchgnpnbcjflcaaGreatqCs4
import Derived.Test.YtchgnpnbcjflcaaGreatqCs5
import Derived.Test.YtchgnpnbcjflcaaGreatqCs6
import Derived.Test.YtchgnpnbcjflcaaGreatqCs9
set_option linter.unusedSimpArgs false
set_option linter.unusedVariables false
set_option linter.unusedSectionVars false
section
namespace Go.Proofs.YtchgnpnbcjflcaaGreat
open Go Go.Dm
attribute [local irreducible] DW AV_ AZ_
set_option maxRecDepth 100000
theorem RN_ : ∀{ls:List (List Nd)},(∀l∈ls,Pz_ l=0)→errF ls=0
 | [],_=>rfl
 | l::ls,h=>by
  unfold errF;rw[if_pos (h l aE0)];exact RN_ fun x hx=>h x (aC0 _ hx)
theorem bodyC_ok {gt:GT} (h:OkgT gt) {p:ByteArray×RT} (hp:p∈gt):Pz_ (flat p.2)=0:=by
 obtain⟨h1,h2,h3⟩:=tree_ok h hp;obtain⟨t,ht,he,hc⟩:=bodyC_t h2 (Dy_ h1);have:=(Pe_ p.2 t [] [] h1 ht (by rw[he])).1;rw[hc,←this];exact h3
theorem errF_ok {gt:GT} (h:OkgT gt) (s:ByteArray):errF (bsL (mkG gt) s)=0:=RN_ fun l hl=>by
 rw[Sh_]at hl;obtain⟨t,ht,rfl⟩:=aU0.1 hl;obtain⟨p,hp,rfl⟩:=SG_ ht;exact bodyC_ok h hp
theorem occS_ok {gt:GT} (h:OkgT gt) (s:ByteArray):occS (bsL (mkG gt) s)≤64:=by
 have:=Lf_ (mkG gt) s;have:=h.oc;omega
theorem Pb_ {gt:GT} (h:OkgT gt):(As_ (mkG gt)).length≠0:=by
 intro h0
 cases gt with
 | nil=>have:=h.one;simp at this
 | cons p gt =>
  have h1:p.1∈As_ (mkG (p::gt)):=Nn_.2 ⟨⟨p.1,flat p.2⟩,aE0,rfl⟩;rw[eZ0.1 h0]at h1;simp at h1
theorem tsL_uq {gt:GT} (h:OkgT gt) (s:ByteArray):∀ts',bsL (mkG gt) s=ts'.map flat→(∀t∈ts',okT t=true∧(flat t).length≤2048)→ts'=tsL gt s:=fun ts' h1 h2=>Qg_ ts' (tsL gt s) (fun t ht=>(h2 t ht).1) (fun t ht=>(tsL_ok h s t ht).1) (by rw[←h1,Sh_])
theorem box15_ok {gt:GT} (h:OkgT gt) (s:ByteArray):Ac_ Tryz.prog 34 [dTab (As_ (mkG gt)) (Aw_ (mkG gt)),Ej_ (bsL (mkG gt) s)] (.tup [.agg (TT_ (boxA (syG (mkG gt)) (tsL gt s))),.int .i64 0]):=by
 have h1:=errF_ok h s;have h2:=bad_none h s;have h3:=occS_ok h s;have e5:=of15_pure (As_ (mkG gt)) (Aw_ (mkG gt)) (bsL (mkG gt) s) (.tup [boxF (As_ (mkG gt)) (Aw_ (mkG gt)) (tsL gt s),.int .i64 0]) (Pb_ h) ⟨fun hh=>absurd h1 hh,fun _ hh=>by rw[h2]at hh;simp at hh,fun _ _ hh=>by omega,fun _ ts' h4 h5 _ _=>by rw[tsL_uq h s ts' h4 h5]⟩ (by simp[boxF,autoD,mx,mxL]);rw[boxA_eq]at e5;exact e5
def anRS210 : Ann:=⟨[21],[⟨8,[9],[],[]⟩,⟨11,[],[0],[]⟩]⟩
set_option maxHeartbeats 4000000 in
theorem YS_ (gt:GT) (h:OkgT gt) (hs:SmlG (mkG gt)) (hck:Ac_ Tryz.prog 76 [Av_ (mkG gt)] (.int .i64 0)):Ac_ Tryz.prog 10 [Av_ (mkG gt)] (.tup [Dn_ (As_ (mkG gt)) (Aw_ (mkG gt)) (autL gt),.int .i64 0]):=by
 refine Aa_ [52,21] anRS210 Tryz.func10 Tryz.call10 Tryz.ntmps10 mxd (aj2 @anRS210.eq_1 Tryz.results10) rfl (by simp) (by simp[mx,Dn_,mxL,dTab]) fun hwf B hnt hgAnn=> ?_
 clear hwf;simp only[argS];have hgl:=Fy_ gt;have hle:=h.le;have hnl:=DY_ (k:=3) hs;have hhd:=h.hd;have hlb:=h.lb;have e1:=of14_ok (mkG gt) (by omega) (by omega) (by omega) hck;have e2:=Fx_ (As_ (mkG gt)) (Aw_ (mkG gt));have hal:=Kl_ gt;have haok:=autL_ok h;obtain⟨R,hR⟩:∃R,R=Dn_ (As_ (mkG gt)) (Aw_ (mkG gt)) (autL gt):=⟨_,rfl⟩;rw[←hR];have hbx:∀i s,(As_ (mkG gt))[i]? =some s→_:=fun i s hi=>autL_at (gt:=gt) hi
 have hb1:∀s,_:=fun s=>PA_ (mkG gt) s (by omega)
 have hb2:∀s,_:=fun s=>box15_ok h s
 obtain⟨A,hA⟩:∃A,A=autL gt:=⟨_,rfl⟩;rw[←hA]at hR hal haok hbx;obtain⟨H,hH⟩:∃H,H=As_ (mkG gt):=⟨_,rfl⟩;rw[←hH]at e1 e2 hR hal hhd hbx hb2;obtain⟨L,hL⟩:∃L,L=Aw_ (mkG gt):=⟨_,rfl⟩;rw[←hL]at e1 e2 hR hb2;obtain⟨g,hg⟩:∃g,g=mkG gt:=⟨_,rfl⟩;rw[←hg]at e1 hb1 hb2 hbx ⊢;clear hH hL hck hnl hlb hs hA
 (refine go1 (aj2 e1 e2) aj0 aj0 ?_;intros;refine mk_i ?_)
 refine Cf_ 21 1 52 86 4 64 (by simp) (fun n1=> ?_);refine Ad_ (X:={i:Nat//i≤H.length}) (fun i=>⟨[(0,Av_ g),(4,dTab H L),(6,.bx 21 1 0),(23,AP_ H),(24,.int .i64 H.length),(25,.int .i64 i.1)],[⟨21,1,.box [dTab H L,.osl 52 1,.int .i64 (sumS (A.take i.1))]⟩,⟨52,1,.row 86 4 64 ((parA 0 (A.take i.1)).map dPt)⟩]⟩) (fun i=>H.length-i.1) ⟨0,by simp⟩ (Sub.lit (by simp[sumS,parA,dTab])) ?_;rintro⟨i,hi⟩;simp only
 by_cases hlt:i<H.length
 ·obtain⟨s,hx,hx',hxm⟩:=Aj_ hlt;have hai:=hbx i s hx;obtain⟨a,ha⟩:∃a,a=boxA (syG g) (tsL gt s):=⟨_,rfl⟩;have e3:=hb1 s;have e4:=hb2 s;rw[←ha]at hai e4;have hst:=Ov_ (haok a (bL0 hai));have hsn:=QO_ a (A.take i) 0;have hss:=sumS_snoc (A.take i) a;rw[←Bv_ hai]at hsn hss;have hpl:=EI_ (A.take i) 0;have hsl:=IK_ (l:=A.take i) fun x hx=>haok x (cK0 hx)
  rw[bB0]at hpl hsl;rw[bQ0]at hsn;obtain⟨T,hT⟩:∃T,T=parA 0 (A.take i):=⟨_,rfl⟩;obtain⟨S,hS⟩:∃S,S=sumS (A.take i):=⟨_,rfl⟩;rw[←hT]at hsn hpl ⊢;rw[←hS]at hsn hss hsl ⊢;have hts:(parA 0 (A.take (i+1))).map dPt=T.map dPt++[[.int .i64 a.st,CJ_ a.fin,Is_ a.arcs,.int .i64 (S:Int)]]:=by rw[hsn,aZ0];rfl
  have hb:(T.length+1)*64≤150000000000000:=by omega
  have hwk:IntKind.i64.wrap ((i:Int)+1)=(i:Int)+1:=wq;have hws:IntKind.i64.wrap ((S:Int)+a.st)=(sumS (A.take (i+1)):Int):=by rw[wq,hss];omega
  simp only[TT_]at e4
  (refine go1 (aj2 e3 e4) aj0 (aj8 @dStr.eq_1 @TT_.eq_1 hlt hx hx' hb hwk hws) ?_;intros;refine mk_i ?_)
  refine Ai_.mk ⟨i+1,by omega⟩ (Sub.lit (by simp[hts,dTab])) (by simp;omega)
  skip
 ·have hkk:i=H.length:=by omega
  subst hkk;have hAt:A.take H.length=A:=cY0 (by omega);rw[hAt];unfold Dn_ at hR
  (refine go1 aj0 aj0 aj0 ?_;intros;refine mk_i ?_)
  exact hR.symm
def stL (l:List Auto):List Nat:=(parA 0 l).map (·.2)
def ntL (l:List Auto):List Nat:=l.zipIdx.flatMap fun p=>List.replicate p.1.st.toNat p.2
def mvA (f:Nat) (x:Arc):Arc:=⟨(f:Int)+x.fr,x.sy,(f:Int)+x.to⟩
def mvF (f:Nat) (q:Int):Int:=(f:Int)+q
def finA (l:List Auto):List Int:=(parA 0 l).flatMap fun p=>p.1.fin.map (mvF p.2)
def arcA (l:List Auto):List Arc:=(parA 0 l).flatMap fun p=>p.1.arcs.map (mvA p.2)
theorem stL_len (l:List Auto):(stL l).length=l.length:=by unfold stL;rw[aK0,EI_]
theorem Tp_ (l:List Auto):(ntL l).length=sumS l:=by
 unfold ntL sumS;rw[List.length_flatMap];simp only[dD0]
 congr 1
 refine List.ext_getElem (by simp) fun i h1 h2=> ?_
 simp
theorem VQ_ : ∀(ts:List RT) (ah:Nat),(finR ah ts).length≤(lvL ts).length
 | [],_=>by simp[finR]
 | t::ts,ah=>by
  have h1:(lvL (t::ts)).length=(lvs (flat t)).length+(lvL ts).length:=by simp[lvL]
  have h2:=VQ_ ts (ah+(lvs (flat t)).length);have h3:((plN (flat t) (flat t).length).filter (enT t 0)).length≤(plN (flat t) (flat t).length).length:=cG0 _ _;rw[Tj_ (Nat.le_refl _),IP_]at h3;rw[finR,aD0,aK0];omega
theorem finsR_len (ts:List RT):(LL_ ts).length≤(lvL ts).length+1:=by
 have:=VQ_ ts 0;unfold LL_;rw[aD0,aK0]
 split
 ·simp;omega
 ·simp;omega
structure SmA (a:Auto):Prop where
 ok:FP_ a=true
 fi:a.fin.length≤65
 ar:a.arcs.length≤1073741888
theorem Ug_ {gt:GT} (h:OkgT gt):∀a∈autL gt,SmA a:=fun a ha=>by
 have hok:=autL_ok h a ha;obtain⟨s,_,rfl⟩:=aU0.1 ha;refine⟨hok,?_,arcsB_len _ _ (fun t ht=>(tsL_ok h s t ht).2) (lvL_le h s)⟩;have h1:=finsR_len (tsL gt s);have h2:=lvL_le h s
 show (LL_ (tsL gt s)).length≤65
 omega
theorem Pg_ : ∀{l:List Auto},(∀a∈l,SmA a)→∀f,((parA f l).flatMap fun p=>p.1.fin.map (mvF p.2)).length≤65*l.length
 | [],_,_=>by simp[parA]
 | a::l,h,f=>by
  have h1:=(h a aE0).fi;have h2:=Pg_ (l:=l) (fun x hx=>h x (aC0 _ hx)) (f+a.st.toNat);rw[parA,cM0,aD0,aK0,List.length_cons];simp only;omega
theorem PF_ : ∀{l:List Auto},(∀a∈l,SmA a)→∀f,((parA f l).flatMap fun p=>p.1.arcs.map (mvA p.2)).length≤1073741888*l.length
 | [],_,_=>by simp[parA]
 | a::l,h,f=>by
  have h1:=(h a aE0).ar;have h2:=PF_ (l:=l) (fun x hx=>h x (aC0 _ hx)) (f+a.st.toNat);rw[parA,cM0,aD0,aK0,List.length_cons];simp only;omega
@[simp] theorem mx_dAutos (l:List Auto):mxR (l.map TT_)=0:=mxR0 _ mx_dAuto l
theorem wrap_j {j n:Nat} (h1:j<n) (h2:n≤1073741888):IntKind.i64.wrap ((j:Int)+1)=(j:Int)+1:=wq
def GA_ : Ann:=⟨[5],[]⟩
set_option maxHeartbeats 1000000 in
theorem TW_ (l:List Int) (hl:l.length*8≤140737488355328):AL_ Tryz.prog (.func 192) [CJ_ l] [] (.osl 0 1) [⟨0,1,.row 3 1 8 (l.map dNum)⟩]:=by
 match l,hl with
 | [],_ =>
  refine PV_ ?_ ?_
  ·refine FV_ ?_;refine Aa_ [] GA_ Tryz.func192 Tryz.call192 Tryz.ntmps192 mxd (aj2 @GA_.eq_1 Tryz.results192) rfl (by simp) (by simp[mx]) fun hwf B hnt hgAnn=> ?_
   simp only[argS];exact go0 aj0 aj0 aj0
  ·refine AR_ [] [(5,0,1)] GA_ Tryz.func192 Tryz.call192 Tryz.ntmps192 mxd (aj2 @GA_.eq_1 Tryz.results192) rfl (by simp) (by simp) (by simp) fun hwf B hnt hgAnn=> ?_
   simp only[argS,List.nil_append];exact go0 aj0 aj0 aj0
 | x::l,hl =>
  refine AR_ [] [(5,0,1)] GA_ Tryz.func192 Tryz.call192 Tryz.ntmps192 mxd (aj2 @GA_.eq_1 Tryz.results192) rfl (by simp) (by simp) (by simp) fun hwf B hnt hgAnn=> ?_
  simp only[List.length_cons]at hl;have hl2:(l.length+1)*8≤150000000000000:=by omega
  have hl3:l.length<9223372036854775807:=by omega
  simp only[argS,List.nil_append,List.map_cons,CJ_,dNum];exact go0 aj0 aj0 aj0
def Gz_ : Ann:=⟨[5],[]⟩
set_option maxHeartbeats 1000000 in
theorem TX_ (l:List Arc) (hl:l.length*32≤140737488355328):AL_ Tryz.prog (.func 193) [Is_ l] [] (.osl 0 1) [⟨0,1,.row 97 4 32 (l.map dArc)⟩]:=by
 match l,hl with
 | [],_ =>
  refine PV_ ?_ ?_
  ·refine FV_ ?_;refine Aa_ [] Gz_ Tryz.func193 Tryz.call193 Tryz.ntmps193 mxd (aj2 @Gz_.eq_1 Tryz.results193) rfl (by simp) (by simp[mx]) fun hwf B hnt hgAnn=> ?_
   simp only[argS];exact go0 aj0 aj0 aj0
  ·refine AR_ [] [(5,0,1)] Gz_ Tryz.func193 Tryz.call193 Tryz.ntmps193 mxd (aj2 @Gz_.eq_1 Tryz.results193) rfl (by simp) (by simp) (by simp) fun hwf B hnt hgAnn=> ?_
   simp only[argS,List.nil_append];exact go0 aj0 aj0 aj0
 | x::l,hl =>
  refine AR_ [] [(5,0,1)] Gz_ Tryz.func193 Tryz.call193 Tryz.ntmps193 mxd (aj2 @Gz_.eq_1 Tryz.results193) rfl (by simp) (by simp) (by simp) fun hwf B hnt hgAnn=> ?_
  simp only[List.length_cons]at hl;have hl2:(l.length+1)*32≤150000000000000:=by omega
  have hl3:l.length<9223372036854775807:=by omega
  simp only[argS,List.nil_append,List.map_cons,Is_,dArc];exact go0 aj0 aj0 aj0
theorem UC_ {α β:Type} {l:List α} {i:Nat} {x:α} (f:α→β) (g:α→α) (h:l[i]? =some x):(((l.take i).map g++l.drop i).map f).set i (f (g x))=((l.take (i+1)).map g++l.drop (i+1)).map f:=by
 obtain⟨hi,rfl⟩:=aB0.1 h;have h2:((l.take i).map g).length=i:=by rw[aK0,bB0];omega
 have h3:((l.take i).map g++l.drop i).set i (g l[i])=(l.take (i+1)).map g++l.drop (i+1):=by
  rw[List.set_append,if_neg (by omega),h2,dW0,aR0 hi,eE0,bF0,aH0 hi,aZ0,aT0];rfl
 rw[←eB0,h3]
theorem mid_at {α:Type} {l:List α} {i:Nat} {x:α} (g:α→α) (h:l[i]? =some x):((l.take i).map g++l.drop i)[i]? =some x:=by
 obtain⟨hi,rfl⟩:=aB0.1 h;have h2:((l.take i).map g).length=i:=by rw[aK0,bB0];omega
 rw[bE0 (by omega),h2,dW0,cX0];simp[hi]
theorem mid_len {α:Type} (l:List α) (i:Nat) (g:α→α) (h:i≤l.length):((l.take i).map g++l.drop i).length=l.length:=by
 rw[aD0,aK0,bB0,cA0];omega
def midF (f:Nat) (l:List Int) (i:Nat):List Int:=(l.take i).map (mvF f)++l.drop i
def midA (g:Arc→Arc) (l:List Arc) (i:Nat):List Arc:=(l.take i).map g++l.drop i
def movF (f:Nat) (l:List Int):List Int:=l.map (mvF f)
def movA (f:Nat) (l:List Arc):List Arc:=l.map (mvA f)
theorem midF_zero (f:Nat) (l:List Int):midF f l 0=l:=by simp[midF]
theorem midF_all (f:Nat) (l:List Int):midF f l l.length=movF f l:=by simp[midF,movF]
theorem midA_zero (g:Arc→Arc) (l:List Arc):midA g l 0=l:=by simp[midA]
theorem midA_all (f:Nat) (l:List Arc):midA (mvA f) l l.length=movA f l:=by simp[midA,movA]
def Xy_ : Ann:=⟨[8],[]⟩
set_option maxHeartbeats 2000000 in
theorem RP_ (a:Auto) (f:Nat) (h:SmA a) (hf:f≤1040):Ac_ Tryz.prog 117 [.agg (dPt (a,f))] (CJ_ (movF f a.fin)):=by
 refine Aa_ [8] Xy_ Tryz.func117 Tryz.call117 Tryz.ntmps117 mxd (aj2 @Xy_.eq_1 Tryz.results117) rfl (by simp) (by simp[mx]) fun hwf B hnt hgAnn=> ?_
 clear hwf;simp only[argS];have hfi:=h.fi;have hst:=Ov_ h.ok;have e1:=TW_ a.fin (by omega);have z0:=midF_zero f a.fin
 (refine go1 aj0 (aj1 (spc [] [(8,0)] e1)) (aj1 @dPt.eq_1) ?_;intros;refine mk_i ?_)
 refine Ad_ (X:={i:Nat//i≤a.fin.length}) (fun i=>⟨[(1,.ref [.int .i64 a.st,CJ_ a.fin,Is_ a.arcs,.int .i64 (f:Int)]),(3,.osl 8 1),(10,.int .i64 a.fin.length),(11,.int .i64 i.1)],[⟨8,1,.row 3 1 8 ((midF f a.fin i.1).map dNum)⟩]⟩) (fun i=>a.fin.length-i.1) ⟨0,by simp⟩ (Sub.lit (by simp[z0])) ?_;rintro⟨i,hi⟩;simp only
 by_cases hlt:i<a.fin.length
 ·obtain⟨q,hq,hq',hqm⟩:=Aj_ hlt;have hqk:=ok_fin h.ok hqm;have s1:((midF f a.fin i).map dNum).set i [.int .i64 ((f:Int)+q)]=(midF f a.fin (i+1)).map dNum:=UC_ dNum (mvF f) hq;have m1:(midF f a.fin i)[i]? =some q:=mid_at (mvF f) hq;have m2:(midF f a.fin i).length=a.fin.length:=mid_len a.fin i (mvF f) hi;obtain⟨Z,hZ⟩:∃Z,Z=midF f a.fin i:=⟨_,rfl⟩;rw[←hZ]at s1 m1 m2 ⊢;have hzl:i<Z.length:=by omega
  have m1':Z[i]'hzl=q:=(aB0.1 m1).2;have hwi:IntKind.i64.wrap ((i:Int)+1)=(i:Int)+1:=wq;have hwq:IntKind.i64.wrap (q+(f:Int))=(f:Int)+q:=by rw[wq];omega
  (refine go1 aj0 aj0 (aj8 @dNum.eq_1 hlt m1 m1' hzl hwi hwq s1) ?_;intros;refine mk_i ?_)
  refine Ai_.mk ⟨i+1,by omega⟩ (Sub.lit (by simp)) (by simp;omega)
  skip
 ·have hkk:i=a.fin.length:=by omega
  subst hkk;rw[midF_all];exact go0 aj0 aj0 aj0
def Xx_ : Ann:=⟨[8],[]⟩
set_option maxHeartbeats 2000000 in
theorem OG_ (a:Auto) (f:Nat) (h:SmA a) (hf:f≤1040):Ac_ Tryz.prog 119 [.agg (dPt (a,f))] (Is_ (movA f a.arcs)):=by
 refine Aa_ [8] Xx_ Tryz.func119 Tryz.call119 Tryz.ntmps119 mxd (aj2 @Xx_.eq_1 Tryz.results119) rfl (by simp) (by simp[mx]) fun hwf B hnt hgAnn=> ?_
 clear hwf;simp only[argS];have har:=h.ar;have hst:=Ov_ h.ok;have e1:=TX_ a.arcs (by omega);have z0:=midA_zero (mvA f) a.arcs
 (refine go1 aj0 (aj1 (spc [] [(8,0)] e1)) (aj1 @dPt.eq_1) ?_;intros;refine mk_i ?_)
 refine Ad_ (X:={i:Nat//i≤a.arcs.length}) (fun i=>⟨[(1,.ref [.int .i64 a.st,CJ_ a.fin,Is_ a.arcs,.int .i64 (f:Int)]),(3,.osl 8 1),(10,.int .i64 a.arcs.length),(11,.int .i64 i.1)],[⟨8,1,.row 97 4 32 ((midA (mvA f) a.arcs i.1).map dArc)⟩]⟩) (fun i=>a.arcs.length-i.1) ⟨0,by simp⟩ (Sub.lit (by simp[z0])) ?_;rintro⟨i,hi⟩;simp only
 by_cases hlt:i<a.arcs.length
 ·obtain⟨x,hx,hx',hxm⟩:=Aj_ hlt;have hxk:=ok_arc h.ok hxm;have s1:((midA (mvA f) a.arcs i).map dArc).set i [.int .i64 ((f:Int)+x.fr),.bool x.sy.label,.int .i64 x.sy.n,.int .i64 ((f:Int)+x.to)]=(midA (mvA f) a.arcs (i+1)).map dArc:=UC_ dArc (mvA f) hx;have m1:(midA (mvA f) a.arcs i)[i]? =some x:=mid_at (mvA f) hx;have m2:(midA (mvA f) a.arcs i).length=a.arcs.length:=mid_len a.arcs i (mvA f) hi;obtain⟨Z,hZ⟩:∃Z,Z=midA (mvA f) a.arcs i:=⟨_,rfl⟩
  rw[←hZ]at s1 m1 m2 ⊢;have hzl:i<Z.length:=by omega
  have m1':Z[i]'hzl=x:=(aB0.1 m1).2;have hwi:IntKind.i64.wrap ((i:Int)+1)=(i:Int)+1:=wrap_j hlt har;have hwq:IntKind.i64.wrap (x.fr+(f:Int))=(f:Int)+x.fr:=by rw[wq];omega
  have hwr:IntKind.i64.wrap (x.to+(f:Int))=(f:Int)+x.to:=by rw[wq];omega
  clear hst har hxk hf
  (refine go1 aj0 aj0 (aj9 @dArc.eq_1 hlt m1 m1' hzl hwi hwq hwr s1) ?_;intros;refine mk_i ?_)
  refine Ai_.mk ⟨i+1,by omega⟩ (Sub.lit (by simp)) (by simp;omega)
  skip
 ·have hkk:i=a.arcs.length:=by omega
  subst hkk;rw[midA_all];exact go0 aj0 aj0 aj0
def Xw_ : Ann:=⟨[],[]⟩
theorem BV_ (H L:List ByteArray) (xs:List Auto):Ac_ Tryz.prog 113 [Dn_ H L xs] (.bool true):=by
 refine Aa_ [] Xw_ Tryz.func113 Tryz.call113 Tryz.ntmps113 mxd (aj2 @Xw_.eq_1 Tryz.results113) rfl (by simp) (by simp[mx]) fun hwf B hnt hgAnn=> ?_
 clear hwf;simp only[argS,Dn_];exact go0 aj0 aj0 aj0
def anRS636 : Ann:=⟨[],[]⟩
theorem NY_ (H L:List ByteArray) (xs:List Auto):Ac_ Tryz.prog 36 [Dn_ H L xs] (.int .i64 (sumS xs)):=by
 refine Aa_ [] anRS636 Tryz.func36 Tryz.call36 Tryz.ntmps36 mxd (aj2 @anRS636.eq_1 Tryz.results36) rfl (by simp) (by simp[mx]) fun hwf B hnt hgAnn=> ?_
 clear hwf;have e1:=BV_ H L xs;simp only[argS,Dn_]at e1 ⊢;exact go0 (aj1 e1) aj0 aj0
def anRS637 : Ann:=⟨[],[]⟩
theorem OH_ (H L:List ByteArray) (xs:List Auto):Ac_ Tryz.prog 37 [Dn_ H L xs] (AP_ H):=by
 refine Aa_ [] anRS637 Tryz.func37 Tryz.call37 Tryz.ntmps37 mxd (aj2 @anRS637.eq_1 Tryz.results37) rfl (by simp) (by simp[mx]) fun hwf B hnt hgAnn=> ?_
 clear hwf;have e1:=BV_ H L xs;have e2:=Fx_ H L;simp only[argS,Dn_]at e1 ⊢;exact go0 (aj2 e1 e2) aj0 aj0
def finM (P:List (Auto×Nat)):List Int:=P.flatMap fun p=>movF p.2 p.1.fin
def arcM (P:List (Auto×Nat)):List Arc:=P.flatMap fun p=>movA p.2 p.1.arcs
theorem finM_next {P:List (Auto×Nat)} {i:Nat} {p:Auto×Nat} (h:P[i]? =some p):finM (P.take (i+1))=finM (P.take i)++movF p.2 p.1.fin:=by
 unfold finM;rw[bF0,h,eP0];simp
theorem arcM_next {P:List (Auto×Nat)} {i:Nat} {p:Auto×Nat} (h:P[i]? =some p):arcM (P.take (i+1))=arcM (P.take i)++movA p.2 p.1.arcs:=by
 unfold arcM;rw[bF0,h,eP0];simp
theorem VR_ : ∀{P:List (Auto×Nat)},(∀p∈P,SmA p.1)→(finM P).length≤65*P.length
 | [],_=>by simp[finM]
 | p::P,h=>by
  have h1:=(h p aE0).fi;have h2:=VR_ (P:=P) fun x hx=>h x (aC0 _ hx)
  have h3:finM (p::P)=movF p.2 p.1.fin++finM P:=by simp[finM]
  rw[h3,aD0,List.length_cons];unfold movF;rw[aK0];omega
theorem Wh_ : ∀{P:List (Auto×Nat)},(∀p∈P,SmA p.1)→(arcM P).length≤1073741888*P.length
 | [],_=>by simp[arcM]
 | p::P,h=>by
  have h1:=(h p aE0).ar;have h2:=Wh_ (P:=P) fun x hx=>h x (aC0 _ hx)
  have h3:arcM (p::P)=movA p.2 p.1.arcs++arcM P:=by simp[arcM]
  rw[h3,aD0,List.length_cons];unfold movA;rw[aK0];omega
theorem finM_all (xs:List Auto):finM (parA 0 xs)=finA xs:=rfl
theorem arcM_all (xs:List Auto):arcM (parA 0 xs)=arcA xs:=rfl
theorem EH_ : ∀{xs:List Auto} {f:Nat} {p:Auto×Nat},p∈parA f xs→p.1∈xs∧p.2≤f+sumS xs
 | [],_,_,h=>by simp[parA]at h
 | a::xs,f,p,h=>by
  have h3:sumS (a::xs)=a.st.toNat+sumS xs:=by simp[sumS]
  rw[parA]at h
  rcases aJ0.1 h with rfl | h
  ·exact⟨aE0,by simp only;omega⟩
  ·have:=EH_ h;exact⟨aC0 _ this.1,by omega⟩
theorem bnd_c {a b:Nat} (h1:a≤17179870208) (h2:b≤1073741888):(a+b)*32≤150000000000000:=by omega
def IC_ : Ann:=⟨[],[⟨5,[7],[],[]⟩]⟩
set_option maxHeartbeats 2000000 in
theorem Zm_ (H L:List ByteArray) (xs:List Auto) (h:∀a∈xs,SmA a) (hl:xs.length≤16):Ac_ Tryz.prog 118 [Dn_ H L xs,.fn (.func 119) [] []] (Is_ (arcA xs)):=by
 refine Aa_ [50] IC_ Tryz.func118 Tryz.call118 Tryz.ntmps118 mxd (aj2 @IC_.eq_1 Tryz.results118) rfl (by simp) (by simp[mx]) fun hwf B hnt hgAnn=> ?_
 clear hwf;have e1:=BV_ H L xs;have hsl:=IK_ (l:=xs) fun a ha=>(h a ha).ok
 have hs10:sumS xs≤1040:=Nat.le_trans hsl (cD0 65 hl);have hpl:=EI_ xs 0
 have hP:∀p∈parA 0 xs,SmA p.1∧p.2≤1040:=fun p hp=>by
  have:=EH_ hp;exact⟨h _ this.1,by omega⟩
 rw[←arcM_all];simp only[argS,Dn_]at e1 ⊢;obtain⟨P,hPP⟩:∃P,P=parA 0 xs:=⟨_,rfl⟩;rw[←hPP]at e1 hP hpl ⊢;clear hPP hsl h
 iterate 6 ((first | refine Ax_ fun K hK=> ?_ | (refine DW_r IC_ mxd (by kernel_rfl) ?_;simp[IC_,hnt];try simp (disch:=omega) only[Ah_]) | refine An_ ?_ | (refine AW_ ?_ ?_ ?_;(· (simp[hnt];done));(try (rotate_left;(· (intro hc;(try simp[hnt]at hc);done))))) | (refine AC_ ?_;simp[Tryz.results118,hnt]) | ((first | refine Ar_ ?_ | refine Aq_ ?_);simp[hnt]) | (intro hc;(try simp[hnt]at hc);(try (exfalso;omega))) | (refine⟨?_,?_⟩; · omega) | omega | apply_assumption -exfalso -symm | (exfalso;omega)))
 refine Bn_ 5 50 97 4 32 (by simp[hnt,Tryz.results118,IC_]) (fun n=> ?_)
 (refine go1 (aj1 e1) aj0 aj0 ?_;intros;refine mk_i ?_)
 refine Ad_ (X:={i:Nat//i≤P.length}) (fun i=>⟨[(1,.fn (.func 119) [] []),(5,.osl 50 1),(13,dPts P),(14,.int .i64 P.length),(15,.int .i64 i.1)],[⟨50,1,.row 97 4 32 ((arcM (P.take i.1)).map dArc)⟩]⟩) (fun i=>P.length-i.1) ⟨0,by simp⟩ (Sub.lit (by simp[arcM])) ?_;rintro⟨i,hi⟩;simp only
 by_cases hlt:i<P.length
 ·obtain⟨p,hp,hp',hpm⟩:=Aj_ hlt;obtain⟨k1,k2⟩:=hP p hpm;obtain⟨a,f⟩:=p;have e2:=OG_ a f k1 k2;have hnx:=congrArg (List.map dArc) (arcM_next hp);rw[aZ0]at hnx;have har:a.arcs.length≤1073741888:=k1.ar;have hml:(movA f a.arcs).length=a.arcs.length:=by unfold movA;rw[aK0]
  have htl:=Wh_ (P:=P.take i) fun x hx=>(hP x (cK0 hx)).1
  have h16:(P.take i).length≤16:=by rw[bB0];omega
  have htl':(arcM (P.take i)).length≤17179870208:=Nat.le_trans htl (cD0 1073741888 h16);clear htl;obtain⟨T,hT⟩:∃T,T=arcM (P.take i):=⟨_,rfl⟩;rw[←hT]at hnx htl' ⊢;obtain⟨V,hV⟩:∃V,V=movA f a.arcs:=⟨_,rfl⟩;simp only at hnx;rw[←hV]at e2 hnx hml;have hb:(T.length+V.length)*32≤150000000000000:=bnd_c htl' (by omega);have hwi:IntKind.i64.wrap ((i:Int)+1)=(i:Int)+1:=wq;simp only[dPt]at e2;clear hP k1 k2 hpl hT hV
  (refine go1 (aj1 e2) aj0 (aj6 @dPt.eq_1 hlt hp hp' hb hwi) ?_;intros;refine mk_i ?_)
  refine Ai_.mk ⟨i+1,by omega⟩ (Sub.lit (by simp[hnx])) (by simp;omega)
  skip
 ·have hkk:i=P.length:=by omega
  subst hkk;rw[aS0];exact go0 aj0 aj0 aj0
def ID_ : Ann:=⟨[],[⟨5,[7],[],[]⟩]⟩
set_option maxHeartbeats 2000000 in
theorem Zl_ (H L:List ByteArray) (xs:List Auto) (h:∀a∈xs,SmA a) (hl:xs.length≤16):Ac_ Tryz.prog 116 [Dn_ H L xs,.fn (.func 117) [] []] (CJ_ (finA xs)):=by
 refine Aa_ [50] ID_ Tryz.func116 Tryz.call116 Tryz.ntmps116 mxd (aj2 @ID_.eq_1 Tryz.results116) rfl (by simp) (by simp[mx]) fun hwf B hnt hgAnn=> ?_
 clear hwf;have e1:=BV_ H L xs;have hsl:=IK_ (l:=xs) fun a ha=>(h a ha).ok
 have hs10:sumS xs≤1040:=Nat.le_trans hsl (cD0 65 hl);have hpl:=EI_ xs 0
 have hP:∀p∈parA 0 xs,SmA p.1∧p.2≤1040:=fun p hp=>by
  have:=EH_ hp;exact⟨h _ this.1,by omega⟩
 rw[←finM_all];simp only[argS,Dn_]at e1 ⊢;obtain⟨P,hPP⟩:∃P,P=parA 0 xs:=⟨_,rfl⟩;rw[←hPP]at e1 hP hpl ⊢;clear hPP hsl h
 iterate 6 ((first | refine Ax_ fun K hK=> ?_ | (refine DW_r ID_ mxd (by kernel_rfl) ?_;simp[ID_,hnt];try simp (disch:=omega) only[Ah_]) | refine An_ ?_ | (refine AW_ ?_ ?_ ?_;(· (simp[hnt];done));(try (rotate_left;(· (intro hc;(try simp[hnt]at hc);done))))) | (refine AC_ ?_;simp[Tryz.results116,hnt]) | ((first | refine Ar_ ?_ | refine Aq_ ?_);simp[hnt]) | (intro hc;(try simp[hnt]at hc);(try (exfalso;omega))) | (refine⟨?_,?_⟩; · omega) | omega | apply_assumption -exfalso -symm | (exfalso;omega)))
 refine Bn_ 5 50 3 1 8 (by simp[hnt,Tryz.results116,ID_]) (fun n=> ?_)
 (refine go1 (aj1 e1) aj0 aj0 ?_;intros;refine mk_i ?_)
 refine Ad_ (X:={i:Nat//i≤P.length}) (fun i=>⟨[(1,.fn (.func 117) [] []),(5,.osl 50 1),(13,dPts P),(14,.int .i64 P.length),(15,.int .i64 i.1)],[⟨50,1,.row 3 1 8 ((finM (P.take i.1)).map dNum)⟩]⟩) (fun i=>P.length-i.1) ⟨0,by simp⟩ (Sub.lit (by simp[finM])) ?_;rintro⟨i,hi⟩;simp only
 by_cases hlt:i<P.length
 ·obtain⟨p,hp,hp',hpm⟩:=Aj_ hlt;obtain⟨k1,k2⟩:=hP p hpm;obtain⟨a,f⟩:=p;have e2:=RP_ a f k1 k2;have hnx:=congrArg (List.map dNum) (finM_next hp);rw[aZ0]at hnx;have har:a.fin.length≤65:=k1.fi;have hml:(movF f a.fin).length=a.fin.length:=by unfold movF;rw[aK0]
  have htl:=VR_ (P:=P.take i) fun x hx=>(hP x (cK0 hx)).1
  have h16:(P.take i).length≤16:=by rw[bB0];omega
  have htl':(finM (P.take i)).length≤1040:=Nat.le_trans htl (cD0 65 h16);clear htl;obtain⟨T,hT⟩:∃T,T=finM (P.take i):=⟨_,rfl⟩;rw[←hT]at hnx htl' ⊢;obtain⟨V,hV⟩:∃V,V=movF f a.fin:=⟨_,rfl⟩;simp only at hnx;rw[←hV]at e2 hnx hml;have hb:(T.length+V.length)*8≤150000000000000:=by omega
  have hwi:IntKind.i64.wrap ((i:Int)+1)=(i:Int)+1:=wq;simp only[dPt]at e2;clear hP k1 k2 hpl hT hV
  (refine go1 (aj1 e2) aj0 (aj6 @dPt.eq_1 hlt hp hp' hb hwi) ?_;intros;refine mk_i ?_)
  refine Ai_.mk ⟨i+1,by omega⟩ (Sub.lit (by simp[hnx])) (by simp;omega)
  skip
 ·have hkk:i=P.length:=by omega
  subst hkk;rw[aS0];exact go0 aj0 aj0 aj0
def anRS640 : Ann:=⟨[],[]⟩
theorem MA_ (H L:List ByteArray) (xs:List Auto) (h:∀a∈xs,SmA a) (hl:xs.length≤16):Ac_ Tryz.prog 40 [Dn_ H L xs] (CJ_ (finA xs)):=by
 refine Aa_ [] anRS640 Tryz.func40 Tryz.call40 Tryz.ntmps40 mxd (aj2 @anRS640.eq_1 Tryz.results40) rfl (by simp) (by simp[mx]) fun hwf B hnt hgAnn=> ?_
 clear hwf;have e1:=Zl_ H L xs h hl;simp only[argS,Dn_]at e1 ⊢;exact go0 (aj1 e1) aj0 aj0
def anRS641 : Ann:=⟨[],[]⟩
theorem Ri_ (H L:List ByteArray) (xs:List Auto) (h:∀a∈xs,SmA a) (hl:xs.length≤16):Ac_ Tryz.prog 41 [Dn_ H L xs] (Is_ (arcA xs)):=by
 refine Aa_ [] anRS641 Tryz.func41 Tryz.call41 Tryz.ntmps41 mxd (aj2 @anRS641.eq_1 Tryz.results41) rfl (by simp) (by simp[mx]) fun hwf B hnt hgAnn=> ?_
 clear hwf;have e1:=Zm_ H L xs h hl;simp only[argS,Dn_]at e1 ⊢;exact go0 (aj1 e1) aj0 aj0
theorem g_may (g:List Rul) (hs:SmlG g):∃c:Int,Ac_ Tryz.prog 76 [Av_ g] (.int .i64 c)∧Ac_ Tryz.prog 13 [Av_ g] (.int .i64 c)∧(c=0→∃gt,g=mkG gt∧OkgT gt):=by
 by_cases h:g.length<1∨64<g.length
 ·exact⟨180,Pv_ g h,Mw_ g h,by omega⟩
 ·cases ht:El_ g with
  | false=>exact⟨170,TY_ g (by omega) (by omega) hs ht,QL_ g (by omega) (by omega) hs ht,by omega⟩
  | true =>
   obtain⟨gt,rfl,hk⟩:=Uv_ ht;have hl:=Fy_ gt;exact⟨Ps_ gt,Zr_ gt (by omega) (by omega) hk hs,Tc_ gt (by omega) (by omega) hk hs,fun h0=>⟨gt,rfl,okgT_of hk (by omega) (by omega) h0⟩⟩
def atI (l:List Nat) (n:Int):Int:=if 0≤n∧n<l.length then (l.getD n.toNat 0:Int)else -1
theorem Sj_ {l:List Nat} {k x:Nat} (h:l[k]? =some x):atI l k=x:=by
 have hk:=(aB0.1 h).1;unfold atI;rw[if_pos ⟨by omega,by omega⟩,dI0,bH0,h];rfl
theorem Mi_ {l:List Nat} {n:Int} (h:¬(0≤n∧n<l.length)):atI l n= -1:=by unfold atI;rw[if_neg h]
def anRS839 : Ann:=⟨[],[]⟩
theorem Qt_ (H L:List ByteArray) (xs:List Auto) (n:Int):Ac_ Tryz.prog 39 [Dn_ H L xs,.int .i64 n] (.int .i64 (atI (stL xs) n)):=by
 refine Aa_ [] anRS839 Tryz.func39 Tryz.call39 Tryz.ntmps39 mxd (aj2 @anRS839.eq_1 Tryz.results39) rfl (by simp) (by simp[mx]) fun hwf B hnt hgAnn=> ?_
 clear hwf;have e1:=BV_ H L xs;simp only[argS,Dn_]at e1 ⊢;have hl:(stL xs).length=(parA 0 xs).length:=by rw[stL_len,EI_]
 have hst:∀(k:Nat) (p:Auto×Nat),(parA 0 xs)[k]? =some p→(stL xs)[k]? =some p.2:=fun k p h=>by unfold stL;rw[bM0,h];rfl
 obtain⟨S,hS⟩:∃S,S=stL xs:=⟨_,rfl⟩;rw[←hS]at hl hst ⊢;obtain⟨P,hP⟩:∃P,P=parA 0 xs:=⟨_,rfl⟩;rw[←hP]at e1 hl hst ⊢;clear hS hP
 by_cases h0:n<0
 ·rw[Mi_ (by omega)];exact go0 (aj1 e1) aj0 (aj1 h0)
 ·by_cases h1:n<P.length
  ·obtain⟨k,rfl⟩:∃k:Nat,n=(k:Int):=⟨n.toNat,by omega⟩;have hlt:k<P.length:=by omega
   obtain⟨p,hx,hx',hxm⟩:=Aj_ hlt;rw[Sj_ (hst k p hx)];have h2:¬(P.length:Int)≤(k:Int):=by omega
   exact go0 (aj1 e1) aj0 (aj7 @dPt.eq_1 h0 h1 h2 hlt hx hx')
  ·rw[Mi_ (by omega)];have h2:(P.length:Int)≤n:=by omega
   exact go0 (aj1 e1) aj0 (aj3 h0 h1 h2)
def Xv_ : Ann:=⟨[],[]⟩
theorem YR_ (n:Int) (p:Auto×Nat) (h:SmA p.1) (hf:p.2≤1040):Ac_ Tryz.prog 115 [.agg (dPt p),.ref [.int .i64 n]] (.bool (decide (n<(p.2:Int)+p.1.st))):=by
 refine Aa_ [] Xv_ Tryz.func115 Tryz.call115 Tryz.ntmps115 mxd (aj2 @Xv_.eq_1 Tryz.results115) rfl (by simp) (by simp[mx]) fun hwf B hnt hgAnn=> ?_
 clear hwf;have hst:=Ov_ h.ok;have hw:IntKind.i64.wrap ((p.2:Int)+p.1.st)=(p.2:Int)+p.1.st:=wq;simp only[argS];exact go0 aj0 aj0 (aj2 @dPt.eq_1 hw)
def ntQ (n:Int) (p:Auto×Nat):Bool:=decide (n<(p.2:Int)+p.1.st)
def Kw_ : Ann:=⟨[],[]⟩
theorem YQ_ (n:Int) (P:List (Auto×Nat)) (hP:∀p∈P,SmA p.1∧p.2≤1040) (hl:P.length≤16):Ac_ Tryz.prog 114 [dPts P,.fn (.func 115) [] [.ref [.int .i64 n]]] (.int .i64 (if P.any (ntQ n)then ((P.findIdx (ntQ n):Nat):Int)else -1)):=by
 refine Aa_ [] Kw_ Tryz.func114 Tryz.call114 Tryz.ntmps114 mxd (aj2 @Kw_.eq_1 Tryz.results114) rfl (by simp) (by simp[mx]) fun hwf B hnt hgAnn=> ?_
 clear hwf;simp only[argS]
 (refine go1 aj0 aj0 aj0 ?_;intros;refine mk_i ?_)
 refine Ad_ (X:={k:Nat//k≤P.length∧∀i x,i<k→P[i]? =some x→ntQ n x=false}) (fun x=>⟨[(0,dPts P),(1,.fn (.func 115) [] [.ref [.int .i64 n]]),(7,.int .i64 P.length),(8,.int .i64 x.1)],[]⟩) (fun x=>P.length-x.1) ⟨0,by simp⟩ (Sub.lit (by simp)) ?_;rintro⟨k,hk,hno⟩
 by_cases hlt:k<P.length
 ·obtain⟨x,hx,hx',hxm⟩:=Aj_ hlt;have hqx:Ac_ Tryz.prog 115 [.agg (dPt x),.ref [.int .i64 n]] (.bool (ntQ n x)):=YR_ n x (hP x hxm).1 (hP x hxm).2;simp only[dPt]at hqx;clear hP;cases hb:ntQ n x
  ·rw[hb]at hqx
   have hno':∀i y,i<k+1→P[i]? =some y→ntQ n y=false:=by
    intro i y hi hy
    by_cases hik:i=k
    ·subst hik;rw[hx]at hy;simp only[aA0]at hy;subst hy;exact hb
    ·exact hno i y (by omega) hy
   (refine go1 (aj1 hqx) aj0 (aj3 @dPt.eq_1 hlt hx') ?_;intros;refine mk_i ?_)
   exact Ai_.mk ⟨k+1,by omega,hno'⟩ (Sub.lit (by simp[])) (by simp;omega)
   skip
  ·rw[hb]at hqx;have hany:P.any (ntQ n)=true:=cF0.2 ⟨x,hxm,hb⟩
   have hidx:P.findIdx (ntQ n)=k:=by
    rw[eQ0 hlt];refine⟨by rw[hx'];exact hb,fun i hi=> ?_⟩;exact hno i _ hi (aH0 (by omega))
   exact go0 (aj1 hqx) aj0 (aj5 @dPt.eq_1 hlt hx' hany hidx)
 ·have hkk:k=P.length:=by omega
  have hany:P.any (ntQ n)=false:=by
   rw[cS0];intro x hx;obtain⟨i,hi,rfl⟩:=bJ0 hx;rw[hno i _ (by omega) (aH0 hi)];simp
  (repeat (first | refine Ax_ fun K hK=> ?_ | (refine DW_r Kw_ mxd (by kernel_rfl) ?_;simp[Kw_,hnt,hkk,hany];try simp (disch:=omega) only[Ah_]) | refine An_ ?_ | (refine AW_ ?_ ?_ ?_;(· (simp[hnt,hkk,hany];done));(try (rotate_left;(· (intro hc;(try simp[hnt,hkk,hany]at hc);done))))) | (refine AC_ ?_;simp[Tryz.results114,hnt,hkk,hany]) | ((first | refine Ar_ ?_ | refine Aq_ ?_);simp[hnt,hkk,hany]) | (intro hc;(try simp[hnt,hkk,hany]at hc);(try (exfalso;omega))) | ((first | refine Ag_ (hqx) ?_ | (refine Af_ (hqx) ?_ ?_;(· (simp;done))));try simp[hnt,hkk,hany]) | (refine⟨?_,?_⟩; · omega) | omega | apply_assumption -exfalso -symm | (exfalso;omega)))
theorem nt_law : ∀(xs:List Auto) (f b n:Nat),(∀a∈xs,1≤a.st)→f≤n→n<f+sumS xs→∃k,((xs.zipIdx b).flatMap fun p=>List.replicate p.1.st.toNat p.2)[n-f]? =some (b+k)∧(parA f xs).findIdx (ntQ n)=k∧(parA f xs).any (ntQ n)=true
 | [],f,b,n,_,h1,h2=>by simp[sumS]at h2;omega
 | a::xs,f,b,n,hst,h1,h2=>by
  have h3:sumS (a::xs)=a.st.toNat+sumS xs:=by simp[sumS]
  have h4:=hst a aE0;rw[parA,fD0,cM0];simp only
  by_cases hn:n<f+a.st.toNat
  ·have hq:ntQ n (a,f)=true:=by unfold ntQ;simp only[decide_eq_true_eq];omega
   refine⟨0,?_,by rw[List.findIdx_cons,hq];rfl,by rw[List.any_cons,hq];rfl⟩;rw[bA0 (by rw[dD0];omega),eF0,if_pos (by omega)];rfl
  ·have hq:ntQ n (a,f)=false:=by unfold ntQ;simp only[decide_eq_false_iff_not];omega
   obtain⟨k,k1,k2,k3⟩:=nt_law xs (f+a.st.toNat) (b+1) n (fun x hx=>hst x (aC0 _ hx)) (by omega) (by omega);refine⟨k+1,?_,by rw[List.findIdx_cons,hq,k2];rfl,by rw[List.any_cons,hq,k3];rfl⟩;rw[bE0 (by rw[dD0];omega),dD0,eY0,k1]
   congr 1
   omega
def anRS838 : Ann:=⟨[],[]⟩
theorem nt33_pure (H L:List ByteArray) (xs:List Auto) (h:∀a∈xs,SmA a) (hl:xs.length≤16) (n:Int):Ac_ Tryz.prog 38 [Dn_ H L xs,.int .i64 n] (.int .i64 (atI (ntL xs) n)):=by
 refine Aa_ [] anRS838 Tryz.func38 Tryz.call38 Tryz.ntmps38 mxd (aj2 @anRS838.eq_1 Tryz.results38) rfl (by simp) (by simp[mx]) fun hwf B hnt hgAnn=> ?_
 clear hwf;have e1:=BV_ H L xs;have hsl:=IK_ (l:=xs) fun a ha=>(h a ha).ok
 have hs10:sumS xs≤1040:=Nat.le_trans hsl (cD0 65 hl);have hpl:=EI_ xs 0;have e2:=YQ_ n (parA 0 xs) (fun p hp=>by have:=EH_ hp;exact⟨h _ this.1,by omega⟩) (by omega);have hnl:=Tp_ xs
 have hlaw:∀k:Nat,k<sumS xs→(parA 0 xs).any (ntQ k)=true∧(ntL xs)[k]? =some ((parA 0 xs).findIdx (ntQ k)):=fun k hk=>by
  obtain⟨j,j1,j2,j3⟩:=nt_law xs 0 0 k (fun a ha=>(Ov_ (h a ha).ok).1) (by omega) (by omega);refine⟨j3,?_⟩;unfold ntL;rw[j2];simpa using j1
 simp only[argS,Dn_]at e1 ⊢;obtain⟨N,hN⟩:∃N,N=ntL xs:=⟨_,rfl⟩;rw[←hN]at hnl hlaw ⊢;obtain⟨S,hS⟩:∃S,S=sumS xs:=⟨_,rfl⟩;rw[←hS]at e1 hnl hlaw hs10 ⊢;obtain⟨P,hP⟩:∃P,P=parA 0 xs:=⟨_,rfl⟩;rw[←hP]at e1 e2 hlaw ⊢;clear hN hS hP hsl h
 by_cases h0:n<0
 ·rw[Mi_ (by omega)];exact go0 (aj1 e1) aj0 (aj1 h0)
 ·by_cases h1:n<S
  ·obtain⟨k,rfl⟩:∃k:Nat,n=(k:Int):=⟨n.toNat,by omega⟩;obtain⟨l1,l2⟩:=hlaw k (by omega);rw[Sj_ l2];rw[if_pos l1]at e2;have h2:¬(S:Int)≤(k:Int):=by omega
   exact go0 (aj2 e1 e2) aj0 (aj3 h0 h1 h2)
  ·rw[Mi_ (by omega)];have h2:(S:Int)≤n:=by omega
   exact go0 (aj1 e1) aj0 (aj3 h0 h1 h2)
end Go.Proofs.YtchgnpnbcjflcaaGreat
end
section
namespace Go.Proofs.YtchgnpnbcjflcaaGreat
open Go Go.Dm
variable [DMode]
attribute [local irreducible] DW AV_ AZ_
set_option maxRecDepth 100000
def WP_ : Ann:=⟨[],[]⟩
theorem Zw_ (x y:Sym):Ac_ Tryz.prog 197 [.agg (dSym x),.agg (dSym y)] (.int .i64 (symC x y)):=by
 refine Aa_ [] WP_ Tryz.func197 Tryz.call197 Tryz.ntmps197 mxd (aj2 @WP_.eq_1 Tryz.results197) rfl (by simp) (by simp[mx]) fun hwf B hnt hgAnn=> ?_
 simp only[argS];cases h1:x.label<;>cases h2:y.label<;>exact go0 (aj1 (BR_ x.n y.n)) aj0 (aj4 @dSym.eq_1 h1 h2 @symC.eq_1)
def WQ_ : Ann:=⟨[],[⟨3,[8],[],[]⟩,⟨6,[9],[],[]⟩]⟩
set_option maxHeartbeats 1000000 in
theorem Hs_ (g:FuncId) (c:Sym→Sym→Int) (a b:List Sym) (hg:∀x∈a,∀y∈b,Ac_ Tryz.prog g [.agg (dSym x),.agg (dSym y)] (.int .i64 (c x y))) :
  Ac_ Tryz.prog 196 [Bk_ a,Bk_ b,.fn (.func g) [] []] (.int .i64 (cmpL c a b)):=by
 refine Aa_ [] WQ_ Tryz.func196 Tryz.call196 Tryz.ntmps196 mxd (aj2 @WQ_.eq_1 Tryz.results196) rfl (by simp) (by simp[mx]) fun hwf B hnt hgAnn=> ?_
 have hw:Yr_ a:=Qd_ hwf.1;have hw':Yr_ b:=Qd_ hwf.2.1;obtain⟨hw1,hw2,hw3⟩:=hw;obtain⟨hv1,hv2,hv3⟩:=hw';clear hwf;simp only[argS];obtain⟨r,hr⟩:∃r,r=cmpL c a b:=⟨_,rfl⟩;rw[←hr]
 (refine go1 aj0 aj0 aj0 ?_;intros;refine mk_i ?_)
 refine Ad_ (X:={k:Nat//k≤a.length∧k≤b.length∧r=cmpL c (a.drop k) (b.drop k)}) (fun k=>⟨[(0,Bk_ a),(1,Bk_ b),(2,.fn (.func g) [] []),(11,Bk_ a),(12,.int .i64 a.length),(13,.int .i64 k.1)],[]⟩) (fun k=>a.length-k.1) ⟨0,by simp[hr]⟩ (Sub.lit (by simp)) ?_;rintro⟨k,hk,hk',hcc⟩;clear hr
 by_cases hlt:k<a.length
 ·obtain⟨x,hx,hx',hxm⟩:=Aj_ hlt
  by_cases hlt':k<b.length
  ·obtain⟨y,hy,hy',hym⟩:=Aj_ hlt';have hxy:=hg x hxm y hym;simp only[dSym]at hxy;have hat:=cmpL_at (c:=c) hx hy;have hle:¬b.length≤k:=by omega
   by_cases h0:c x y=0
   ·rw[if_pos h0]at hat;have hd:=hcc.trans hat
    (refine go1 (aj1 hxy) aj0 (aj7 @dSym.eq_1 hlt hlt' hle hx' hy' h0) ?_;intros;refine mk_i ?_)
    refine Ai_.mk ⟨k+1,by omega,by omega,hd⟩ (Sub.lit (by simp)) (by simp;omega)
    skip
   ·rw[if_neg h0]at hat;have hd:=hcc.trans hat;have h0':(c x y != 0)=true:=by simpa using h0
    exact go0 (aj1 hxy) aj0 (aj9 @dSym.eq_1 hlt hlt' hle hx' hy' h0 h0' hd)
  ·have hge:b.length≤k:=by omega
   have hd:=hcc.trans (cmpL_gt (c:=c) hlt hge);exact go0 aj0 aj0 (aj5 @dSym.eq_1 hlt hge hx' hd)
 ·have hge:a.length≤k:=by omega
  have hka:k=a.length:=by omega
  subst hka;have hat:=cmpL_le (c:=c) (b:=b) hge
  by_cases h:a.length<b.length
  ·rw[if_pos h]at hat;have hd:=hcc.trans hat;exact go0 aj0 aj0 (aj2 h hd)
  ·rw[if_neg h]at hat;have hd:=hcc.trans hat;exact go0 aj0 aj0 (aj2 h hd)
def Mt_ (a b:List Sym):Int:=cmpL symC a b
def Fl_ (p q:Prod):Int:=if cmpI p.head q.head=0 then (if cmpI p.body.length q.body.length=0 then Mt_ p.body q.body else cmpI p.body.length q.body.length)else cmpI p.head q.head
def Kq_ : Ann:=⟨[],[]⟩
theorem Nc_ (p q:Prod):Ac_ Tryz.prog 123 [.agg (Am_ p),.agg (Am_ q)] (.int .i64 (Fl_ p q)):=by
 refine Aa_ [] Kq_ Tryz.func123 Tryz.call123 Tryz.ntmps123 mxd (aj2 @Kq_.eq_1 Tryz.results123) rfl (by simp) (by simp[mx]) fun hwf B hnt hgAnn=> ?_
 simp only[argS];have h1:=Hs_ 197 symC p.body q.body (fun x _ y _=>Zw_ x y);have h2:=Os_ (cmpI p.head q.head) (cmpI p.body.length q.body.length) (Mt_ p.body q.body);simp only[Mt_]at h2
 (repeat (first | refine Ax_ fun K hK=> ?_ | (refine DW_r Kq_ mxd (by kernel_rfl) ?_;simp[Kq_,hnt,Am_,Fl_,Mt_];try simp (disch:=omega) only[Ah_]) | refine An_ ?_ | (refine AW_ ?_ ?_ ?_;(· (simp[hnt,Am_,Fl_,Mt_];done));(try (rotate_left;(· (intro hc;(try simp[hnt,Am_,Fl_,Mt_]at hc);done))))) | (refine AC_ ?_;simp[Tryz.results123,hnt,Am_,Fl_,Mt_]) | ((first | refine Ar_ ?_ | refine Aq_ ?_);simp[hnt,Am_,Fl_,Mt_]) | (intro hc;(try simp[hnt,Am_,Fl_,Mt_]at hc);(try (exfalso;omega))) | ((first | refine Ag_ (BR_ p.head q.head) ?_ | refine Ag_ (BR_ p.body.length q.body.length) ?_ | refine Ag_ (h1) ?_ | refine Ag_ (h2) ?_ | (refine Af_ (BR_ p.head q.head) ?_ ?_;(· (simp;done))) | (refine Af_ (BR_ p.body.length q.body.length) ?_ ?_;(· (simp;done))) | (refine Af_ (h1) ?_ ?_;(· (simp;done))) | (refine Af_ (h2) ?_ ?_;(· (simp;done))));try simp[hnt,Am_,Fl_,Mt_]) | (refine⟨?_,?_⟩; · omega) | omega | apply_assumption -exfalso -symm | (exfalso;omega)))
def WR_ : Ann:=⟨[],[]⟩
theorem same_pure (p q:Prod):Ac_ Tryz.prog 125 [.agg (Am_ p),.agg (Am_ q)] (.bool (Fl_ p q==0)):=by
 refine Aa_ [] WR_ Tryz.func125 Tryz.call125 Tryz.ntmps125 mxd (aj2 @WR_.eq_1 Tryz.results125) rfl (by simp) (by simp[mx]) fun hwf B hnt hgAnn=> ?_
 simp only[argS];have h1:=Nc_ p q;exact go0 (aj1 h1) aj0 (aj1 @Am_.eq_1)
end Go.Proofs.YtchgnpnbcjflcaaGreat
end
section
namespace Go.Proofs.YtchgnpnbcjflcaaGreat
open Go Go.Dm
variable [DMode]
theorem Hh_ : OrdC Fl_:=by
 have h:=ordKey (QR_ ordI (QR_ ordI (ordL ordSym))) (fun p:Prod=>(p.head,((p.body.length:Int),p.body))) (by
  rintro⟨l,n⟩ ⟨l',n'⟩ hh;simp only[_root_.Prod.mk.injEq]at hh;obtain⟨rfl,_,rfl⟩:=hh
  rfl)
 exact h
def unSym : List DVal→Sym
 | [.bool b,.int _ n]=>⟨b,n⟩
 | _=>⟨false,0⟩
def Uu_ : List DVal→Prod
 | [.int _ h,.sl _ _ es]=>⟨h,es.map unSym⟩
 | _=>⟨0,[]⟩
theorem unSym_d (s:Sym):unSym (dSym s)=s:=rfl
theorem Ut_ (p:Prod):Uu_ (Am_ p)=p:=by
 obtain⟨h,b⟩:=p;simp only[Uu_,Am_,bZ0,aW0,true_and];rw[show unSym∘dSym=id from funext unSym_d,List.map_id]
end Go.Proofs.YtchgnpnbcjflcaaGreat
end
section
namespace Go.Proofs.YtchgnpnbcjflcaaGreat
open Go Go.Dm
variable [DMode]
attribute [local irreducible] DW AV_ AZ_
set_option maxRecDepth 100000
def Gr_ : Ann:=⟨[],[]⟩
set_option maxHeartbeats 4000000 in
theorem MH_ (g:FuncId) (e:Prod→Prod→Bool) (l:List Prod) (he:∀x∈l,∀y∈l,Ac_ Tryz.prog g [.agg (Am_ x),.agg (Am_ y)] (.bool (e x y))) :
  AL_ Tryz.prog (.func 124) [.osl 0 0,.fn (.func g) [] []] [⟨0,0,.row 92 2 32 (l.map Am_)⟩] (BB_ (Bd_ e l)) []:=by
 refine Dj_ [0] [] Tryz.func124 rfl Tryz.call124 (by simp[Tryz.ntmps124]) (by simp) (by simp) ?_;intro hwf hwo B hnt;have hgAnn:=an_is Gr_ mxd (aj2 @Gr_.eq_1 Tryz.results124);simp only[argS]
 have hl:l.length≤9223372036854775807:=by
  simp only[SE_,maxLen,aK0]at hwo;omega
 clear hwo
 by_cases hl2:l.length<2
 ·have hcl:Bd_ e l=l:=by
   match l,hl2 with
   | [],_=>rfl
   | [x],_=>rfl
  exact go0 aj0 aj0 (aj2 hl2 hcl)
 have hl2':¬(l.length:Int)<2:=by omega
 obtain⟨R0,hR0⟩:∃R0,R0=Bd_ e l:=⟨_,rfl⟩;rw[←hR0]
 (refine go1 aj0 aj0 (aj2 hl2 hl2') ?_;intros;refine mk_i ?_)
 refine Ad_ (X:={k:Nat//1≤k∧k≤l.length∧Bd_ e (l.take k)=l.take k}) (fun k=>⟨[(0,.osl 0 0),(1,.fn (.func g) [] []),(5,.int .i64 k.1)],[⟨0,0,.row 92 2 32 (l.map Am_)⟩]⟩) (fun k=>l.length-k.1) ⟨1,by
  obtain⟨x,t,rfl⟩:∃x t,l=x::t:=by
   cases l with
   | nil=>simp at hl2
   | cons x t=>exact⟨x,t,rfl⟩
  simp[Bd_,BC_]⟩ (Sub.lit (by simp)) ?_
 rintro⟨k,hk1,hk,hck⟩
 by_cases hlt:k<l.length
 ·obtain⟨q,hq,hq',hqm⟩:=Aj_ hlt;obtain⟨p,hp,hp',hpm⟩:=Aj_ (show k-1<l.length by omega);have hpq:=he q hqm p hpm;simp only[Am_]at hpq;have hwr:IntKind.i64.wrap ((k:Int)-1)=(k:Int)-1:=wq;have hk0:((k:Int)-1).toNat=k-1:=by omega
  have hs:=DD_ (e:=e) (by omega) hp hq;have hb1:(0:Int)≤(k:Int)-1:=by omega
  have hb2:(k:Int)-1<l.length:=by omega
  cases hepq:e q p
  ·rw[hepq]at hpq hs;simp only[aP0,if_false]at hs
   (refine go1 (aj1 hpq) aj0 (aj10 @Am_.eq_1 hlt hq' hp' hp hq hk0 hwr hb1 hb2) ?_;intros;refine mk_i ?_)
   refine Ai_.mk ⟨k+1,by omega,by omega,by rw[hs,hck,bF0,hq];rfl⟩ (Sub.lit (by simp)) (by simp;omega)
   skip
  ·rw[hepq]at hpq hs;simp only[if_true,bP0]at hs
   (refine go1 (aj1 hpq) aj0 (aj10 @Am_.eq_1 hlt hq' hp' hp hq hk0 hwr hb1 hb2) ?_;intros;refine mk_i ?_)
   clear hwr hk0 hb1 hb2
   refine Ad_ (X:={x:Nat×Nat×List Prod//1≤x.1∧k+x.1≤l.length∧x.2.1<k+x.1∧k≤x.2.1∧x.2.2.length=l.length∧x.2.2.take x.2.1=Bd_ e (l.take (k+x.1))∧∀j,k+x.1≤j+1→x.2.2[j]? =l[j]?}) (fun x=>⟨[(0,.osl 0 0),(1,.fn (.func g) [] []),(5,.int .i64 x.1.2.1),(6,.vw 0 0 2 32 k (l.length-k)),(7,.int .i64 x.1.1)],[⟨0,0,.row 92 2 32 (x.1.2.2.map Am_)⟩]⟩) (fun x=>l.length-x.1.1)
    ⟨(1,k,l),show 1≤1∧k+1≤l.length∧k<k+1∧k≤k∧l.length=l.length∧l.take k=Bd_ e (l.take (k+1))∧(∀j,k+1≤j+1→l[j]? =l[j]?) from ⟨by omega,by omega,by omega,by omega,rfl,by rw[hs,hck],fun _ _=>rfl⟩⟩ (Sub.lit (by simp)) ?_
   rintro⟨⟨m,kk,R⟩,x1,x2,x3,x4,x5,x6,x7⟩;simp only at x1 x2 x3 x4 x5 x6 x7 ⊢;have hv:k+(l.length-k)≤l.length:=by omega
   by_cases hm:m<l.length-k
   ·obtain⟨y,hy,hy',hym⟩:=Aj_ (show k+m<l.length by omega);obtain⟨z,hz,hz',hzm⟩:=Aj_ (show k+m-1<l.length by omega);obtain⟨c0,hc0,_,_⟩:=Aj_ (show kk<R.length by omega);have hRy:R[k+m]? =some y:=by rw[x7 _ (by omega)];exact hy
    have hRz:R[k+(m-1)]? =some z:=by rw[x7 _ (by omega),show k+(m-1)=k+m-1 by omega];exact hz
    have hRy':R[k+m]'(by omega)=y:=(aB0.1 hRy).2;have hRz':R[k+(m-1)]'(by omega)=z:=(aB0.1 hRz).2;have hyz:=he y hym z hzm;simp only[Am_]at hyz;have hwr:IntKind.i64.wrap ((m:Int)-1)=(m:Int)-1:=wq;have hk0:((m:Int)-1).toNat=m-1:=by omega
    have hb1:(0:Int)≤(m:Int)-1:=by omega
    have hb2:(m:Int)-1<((l.length-k:Nat):Int):=by omega
    have hs2:=DD_ (e:=e) (by omega) hz hy;rw[←x6]at hs2;have hkk:kk<l.length:=by omega
    cases heyz:e y z
    ·rw[heyz]at hyz hs2;simp only[aP0,if_false]at hs2
     (refine go1 (aj1 hyz) aj0 (aj14 @Am_.eq_1 hm hRy hRz hRy' hRz' hk0 hwr hb1 hb2 x5 hv hc0 hkk) ?_;intros;refine mk_i ?_)
     refine Ai_.mk ⟨(m+1,kk+1,R.set kk y),show 1≤m+1∧k+(m+1)≤l.length∧kk+1<k+(m+1)∧k≤kk+1∧(R.set kk y).length=l.length∧(R.set kk y).take (kk+1)=Bd_ e (l.take (k+(m+1)))∧(∀j,k+(m+1)≤j+1→(R.set kk y)[j]? =l[j]?) from ⟨by omega,by omega,by omega,by omega,by simp[x5],?_,fun j hj=> ?_⟩⟩ (Sub.lit ?_) (by simp;omega)
     ·rw[show k+(m+1)=k+m+1 by omega,hs2,bF0,fF0 (by omega),List.take_set_of_le (by omega)];rfl
     ·rw[List.getElem?_set_ne (by omega)];exact x7 j (by omega)
     ·have hm0:mxR ((R.map Am_).set kk [.int .i64 y.head,Bk_ y.body])=0:=by
       rw[show (R.map Am_).set kk [.int .i64 y.head,Bk_ y.body]=(R.set kk y).map Am_ by simp[eB0,Am_]];exact mx_dProds _
      simp[eB0,Am_,hm0]
     skip
    ·rw[heyz]at hyz hs2;simp only[if_true,bP0]at hs2
     (refine go1 (aj1 hyz) aj0 (aj14 @Am_.eq_1 hm hRy hRz hRy' hRz' hk0 hwr hb1 hb2 x5 hv hc0 hkk) ?_;intros;refine mk_i ?_)
     refine Ai_.mk ⟨(m+1,kk,R),show 1≤m+1∧k+(m+1)≤l.length∧kk<k+(m+1)∧k≤kk∧R.length=l.length∧R.take kk=Bd_ e (l.take (k+(m+1)))∧(∀j,k+(m+1)≤j+1→R[j]? =l[j]?) from ⟨by omega,by omega,by omega,by omega,x5,by rw[show k+(m+1)=k+m+1 by omega,hs2],fun j hj=>x7 j (by omega)⟩⟩ (Sub.lit (by simp)) (by simp;omega)
     skip
   ·have hkm:k+m=l.length:=by omega
    have hcl1:(BS_ (R.map Am_) kk (l.length-kk) [.int .i64 0,.nilsl]).length=l.length:=by simp[BS_];omega
    have hcl2:(BS_ (R.map Am_) kk (l.length-kk) [.int .i64 0,.nilsl]).take kk=R0.map Am_:=by
     have e1:l.take (k+m)=l:=by rw[hkm,aS0]
     rw[e1]at x6;rw[hR0,←x6];simp only[BS_];rw[aT0,dU0 (by simp;omega),eU0,Nat.min_self,List.map_take]
    have hkl:kk≤l.length:=by omega
    (repeat (first | refine Ax_ fun K hK=> ?_ | (refine DW_r Gr_ mxd (by kernel_rfl) ?_;simp[Gr_,hnt,hm,x5,hv,hcl1,hcl2,hkl];try simp (disch:=omega) only[Ah_]) | refine An_ ?_ | (refine AW_ ?_ ?_ ?_;(· (simp[hnt,hm,x5,hv,hcl1,hcl2,hkl];done));(try (rotate_left;(· (intro hc;(try simp[hnt,hm,x5,hv,hcl1,hcl2,hkl]at hc);done))))) | (refine AC_ ?_;simp[Tryz.results124,hnt,hm,x5,hv,hcl1,hcl2,hkl]) | ((first | refine Ar_ ?_ | refine Aq_ ?_);simp[hnt,hm,x5,hv,hcl1,hcl2,hkl]) | (intro hc;(try simp[hnt,hm,x5,hv,hcl1,hcl2,hkl]at hc);(try (exfalso;omega))) | ((first | refine Ag_ (hyz) ?_ | (refine Af_ (hyz) ?_ ?_;(· (simp;done))));try simp[hnt,hm,x5,hv,hcl1,hcl2,hkl]) | (refine⟨?_,?_⟩; · omega) | omega | apply_assumption -exfalso -symm | (exfalso;omega)))
 ·have hkk:k=l.length:=by omega
  subst hkk;rw[aS0]at hck;rw[hck]at hR0
  (repeat (first | refine Ax_ fun K hK=> ?_ | (refine DW_r Gr_ mxd (by kernel_rfl) ?_;simp[Gr_,hnt,hR0];try simp (disch:=omega) only[Ah_]) | refine An_ ?_ | (refine AW_ ?_ ?_ ?_;(· (simp[hnt,hR0];done));(try (rotate_left;(· (intro hc;(try simp[hnt,hR0]at hc);done))))) | (refine AC_ ?_;simp[Tryz.results124,hnt,hR0]) | ((first | refine Ar_ ?_ | refine Aq_ ?_);simp[hnt,hR0]) | (intro hc;(try simp[hnt,hR0]at hc);(try (exfalso;omega))) | ((first | refine Ag_ (hyz) ?_ | (refine Af_ (hyz) ?_ ?_;(· (simp;done))));try simp[hnt,hR0]) | (refine⟨?_,?_⟩; · omega) | omega | apply_assumption -exfalso -symm | (exfalso;omega)))
end Go.Proofs.YtchgnpnbcjflcaaGreat
end
section
namespace Go.Proofs.YtchgnpnbcjflcaaGreat
open Go Go.Dm
variable [DMode]
attribute [local irreducible] DW AV_ AZ_
def WZ_ : Ann:=⟨[],[]⟩
def Gu_ : Ann:=⟨[5],[]⟩
set_option maxRecDepth 100000 in
theorem Nz_ (l:List Sym):Ac_ Tryz.prog 194 [Bk_ l] (Bk_ l):=by
 match l with
 | [] =>
  refine PW_ [] ?_ ?_
  ·refine Aa_ [7] WZ_ Tryz.func194 Tryz.call194 Tryz.ntmps194 mxd (aj2 @WZ_.eq_1 Tryz.results194) rfl (by simp) (by simp[mx,mxR]) fun hwf B hnt hgAnn=> ?_
   simp only[argS,List.nil_append,Bk_,List.map_cons];exact go0 aj0 aj0 aj0
  ·refine Aa_ [7,5] Gu_ Tryz.func194 Tryz.call194 Tryz.ntmps194 mxd (aj2 @Gu_.eq_1 Tryz.results194) rfl (by simp) (by simp[mx,mxR]) fun hwf B hnt hgAnn=> ?_
   simp only[argS,List.nil_append,Bk_,List.map_cons];exact go0 aj0 aj0 aj0
 | s::l =>
  refine Aa_ [7,5] Gu_ Tryz.func194 Tryz.call194 Tryz.ntmps194 mxd (aj2 @Gu_.eq_1 Tryz.results194) rfl (by simp) (by simp[mx,mxR]) fun hwf B hnt hgAnn=> ?_
  have hw:Yr_ (s::l):=Qd_ hwf.1;obtain⟨hw1,hw2,hw3⟩:=hw;clear hwf;simp at hw1 hw2;clear hw3;simp only[argS,List.nil_append,Bk_,List.map_cons];exact go0 aj0 aj0 aj0

end Go.Proofs.YtchgnpnbcjflcaaGreat
end
section
namespace Go.Proofs.YtchgnpnbcjflcaaGreat
open Go Go.Dm
variable [DMode]
attribute [local irreducible] DW AV_ AZ_
set_option maxRecDepth 100000
theorem NZ_ (l:List Prod):AL_ Tryz.prog (.func 122) [.osl 0 0,.fn (.func 123) [] []] [⟨0,0,.row 92 2 32 (l.map Am_)⟩] (.tup []) [⟨0,0,.row 92 2 32 ((Fu_ Fl_ l).map Am_)⟩]:=by
 have hmem:∀x∈l.map Am_,∃p∈l,x=Am_ p:=fun x hx=>by
  obtain⟨p,hp,rfl⟩:=aU0.1 hx;exact⟨p,hp,rfl⟩
 refine Qx_ (cf:=fun x y=>Fl_ (Uu_ x) (Uu_ y)) Tryz.sortProd (by rfl) Tryz.call122 (by kernel_rfl) (by kernel_rfl) (by decide) rfl ?_ Tryz.call123 ?_ ?_ ?_ ?_ ?_
 ·intro x hx;obtain⟨p,_,rfl⟩:=hmem x hx;simp
 ·intro x hx y hy;obtain⟨p,_,rfl⟩:=hmem x hx;obtain⟨q,_,rfl⟩:=hmem y hy;simp only[Ut_];exact @Nc_ HG_ p q
 ·intro x _;rw[Hh_.refl];omega
 ·intro x _ y _ z _;exact Hh_.trans _ _ _
 ·intro x _ y _ z _;exact Hh_.ntrans _ _ _
 ·intro L hp hs;exact Qe_ Hh_ Ut_ hp hs
def WT_ : Ann:=⟨[],[⟨4,[7],[],[]⟩]⟩
set_option maxHeartbeats 1000000 in
theorem with_own (g:FuncId) (hdo:∀l:List Sym,Ac_ Tryz.prog g [Bk_ l] (.tup [])) (c:Cnf):AL_ Tryz.prog (.func 120) [.agg (dCnf c),.fn (.func g) [] []] [] (.agg [.int .i64 c.nts,.osl 0 1]) [⟨0,1,.row 92 2 32 (c.prods.map Am_)⟩]:=by
 refine AR_ [4,5] [(32,0,1)] WT_ Tryz.func120 Tryz.call120 Tryz.ntmps120 mxd (aj2 @WT_.eq_1 Tryz.results120) rfl (by simp) (by simp) (by simp) fun hwf B hnt hgAnn=> ?_
 have hw:wCnf c:=w_cnf (by simpa[wfL,wfD]using hwf.1);obtain⟨hw1,hw2,hw3,hw4⟩:=hw;clear hwf;simp only[argS]
 (refine go1 aj0 aj0 (aj1 @dCnf.eq_1) ?_;intros;refine mk_i ?_)
 refine Cf_ 5 1 32 92 2 32 (by simp) (fun n=> ?_);refine Ad_ (X:={k:Nat//k≤c.prods.length}) (fun k=>⟨[(1,.fn (.func g) [] []),(4,.bx 4 1 0),(5,.bx 5 1 0),(13,BB_ c.prods),(14,.int .i64 c.prods.length),(15,.int .i64 k.1)],[⟨4,1,.box [.int .i64 0,.nilsl]⟩,⟨5,1,.box [.int .i64 c.nts,.osl 32 1]⟩,⟨32,1,.row 92 2 32 ((c.prods.take k.1).map Am_)⟩]⟩) (fun k=>c.prods.length-k.1) ⟨0,by simp⟩ (Sub.lit (by simp)) ?_
 rintro⟨k,hk⟩
 by_cases hlt:k<c.prods.length
 ·obtain⟨p,hp,hp',hpm⟩:=Aj_ hlt;obtain⟨hw5,hw6,hw7,hw8⟩:=hw4 p hpm;have htk:(c.prods.map Am_).take (k+1)=(c.prods.map Am_).take k++[Am_ p]:=by rw[bF0,bM0,hp];rfl
  have h1:=Nz_ p.body;have h2:=hdo p.body
  (refine go1 (aj2 h1 h2) aj0 (aj4 @dCnf.eq_1 @Am_.eq_1 hlt hp') ?_;intros;refine mk_i ?_)
  refine Ai_.mk ⟨k+1,by omega⟩ (Sub.lit ?_) (by simp;omega)
  ·simp[htk,Am_]
  skip
 ·have hkk:k=c.prods.length:=by omega
  subst hkk;exact go0 aj0 aj0 (aj1 @dCnf.eq_1)
def WS_ : Ann:=⟨[],[]⟩
theorem Qw_ (l:List Sym):Ac_ Tryz.prog 121 [Bk_ l] (.tup []):=by
 refine Aa_ [] WS_ Tryz.func121 Tryz.call121 Tryz.ntmps121 mxd (aj2 @WS_.eq_1 Tryz.results121) rfl (by simp) (by simp[mx]) fun hwf B hnt hgAnn=> ?_
 simp only[argS];exact go0 aj0 aj0 aj0
def Bu_ (c:Cnf):Cnf:=⟨c.nts,Bd_ (fun p q=>Fl_ p q==0) (Fu_ Fl_ c.prods)⟩
def PK_ : Ann:=⟨[5,8,11],[]⟩
set_option maxHeartbeats 1000000 in
theorem KJ_ (c:Cnf):Ac_ Tryz.prog 42 [.agg (dCnf c)] (.agg (dCnf (Bu_ c))):=by
 refine Aa_ [] PK_ Tryz.func42 Tryz.call42 Tryz.ntmps42 mxd (aj2 @PK_.eq_1 Tryz.results42) rfl (by simp) (by simp[mx]) fun hwf B hnt hgAnn=> ?_
 simp only[argS];have h1:=with_own _ Qw_ c;have h2:=NZ_ c.prods;have h3:=MH_ 125 (fun p q=>Fl_ p q==0) (Fu_ Fl_ c.prods) (fun x _ y _=>same_pure x y)
 (repeat (first | refine Ax_ fun K hK=> ?_ | (refine DW_r PK_ mxd (by kernel_rfl) ?_;simp[PK_,hnt,dCnf,Bu_];try simp (disch:=omega) only[Ah_]) | refine An_ ?_ | (refine AW_ ?_ ?_ ?_;(· (simp[hnt,dCnf,Bu_];done));(try (rotate_left;(· (intro hc;(try simp[hnt,dCnf,Bu_]at hc);done))))) | (refine AC_ ?_;simp[Tryz.results42,hnt,dCnf,Bu_]) | ((first | refine Ar_ ?_ | refine Aq_ ?_);simp[hnt,dCnf,Bu_]) | (intro hc;(try simp[hnt,dCnf,Bu_]at hc);(try (exfalso;omega))) | (refine Au_ [] [(50,0)] (h1) ?_ ?_;(· (simp[hnt,dCnf,Bu_];done));(intro _;try simp[hnt,dCnf,Bu_])) | (refine Au_ [(50,0)] [] (h2) ?_ ?_;(· (simp[hnt,dCnf,Bu_];done));(intro _;try simp[hnt,dCnf,Bu_])) | (refine Au_ [(50,0)] [] (h3) ?_ ?_;(· (simp[hnt,dCnf,Bu_];done));(intro _;try simp[hnt,dCnf,Bu_])) | (refine⟨?_,?_⟩; · omega) | omega | apply_assumption -exfalso -symm | (exfalso;omega)))
end Go.Proofs.YtchgnpnbcjflcaaGreat
end
section
namespace Go.Proofs.YtchgnpnbcjflcaaGreat
open Go Go.Dm
variable [DMode]
def cntN (xs:List Auto) (q:Nat):Nat:=((List.range q).filter fun p=>decide (¬p∈stL xs)).length
theorem cntN_zero (xs:List Auto):cntN xs 0=0:=rfl
theorem Ma_ (xs:List Auto) (q:Nat):cntN xs (q+1)=cntN xs q+(if q∈stL xs then 0 else 1):=by
 unfold cntN;rw[dA0,dN0,aD0]
 by_cases h:q∈stL xs<;>simp[h]
theorem cntN_le (xs:List Auto) (q:Nat):cntN xs q≤q:=by
 unfold cntN;have:=cG0 (fun p=>decide (¬p∈stL xs)) (List.range q);rw[eG0]at this;exact this
def ownQ (xs:List Auto) (q:Nat):Nat:=if q∈stL xs then (ntL xs).getD q 0 else xs.length+cntN xs q
def ownR (xs:List Auto) (k:Nat):List Nat:=(List.range k).map (ownQ xs)++List.replicate (sumS xs-k) 0
theorem UY_ (xs:List Auto) {k:Nat} (h:k≤sumS xs):(ownR xs k).length=sumS xs:=by
 unfold ownR;rw[aD0,aK0,eG0,dD0];omega
theorem ownR_set (xs:List Auto) {k:Nat} (h:k<sumS xs):(ownR xs k).set k (ownQ xs k)=ownR xs (k+1):=by
 unfold ownR;rw[List.set_append,if_neg (by simp),aK0,eG0,dW0,show sumS xs-k=(sumS xs-(k+1))+1 by omega,List.replicate_succ,eE0,dA0,aZ0,aT0];rfl
theorem ownR_at (xs:List Auto) {q:Nat} (h:q<sumS xs):(ownR xs (sumS xs))[q]? =some (ownQ xs q):=by
 unfold ownR;rw[dW0,List.replicate_zero,bP0,bM0,eO0 h];rfl
theorem st_nt : ∀(xs:List Auto) (f b j q:Nat),(∀a∈xs,1≤a.st)→((parA f xs).map (·.2))[j]? =some q→f≤q∧((xs.zipIdx b).flatMap fun p=>List.replicate p.1.st.toNat p.2)[q-f]? =some (b+j)
 | [],f,b,j,q,_,h=>by simp[parA]at h
 | a::xs,f,b,0,q,hst,h=>by
  have h4:=hst a aE0;rw[parA]at h;simp at h;subst h;rw[fD0,cM0,dW0];refine⟨Nat.le_refl _,?_⟩;rw[bA0 (by rw[dD0];simp only;omega),eF0,if_pos (by simp only;omega)];rfl
 | a::xs,f,b,j+1,q,hst,h=>by
  have h4:=hst a aE0;rw[parA,List.map_cons,bI0]at h;obtain⟨h1,h2⟩:=st_nt xs (f+a.st.toNat) (b+1) j q (fun x hx=>hst x (aC0 _ hx)) h;rw[fD0,cM0];refine⟨by omega,?_⟩;rw[bE0 (by rw[dD0];simp only;omega),dD0];simp only;rw[eY0,h2]
  congr 1
  omega
theorem start_iff {xs:List Auto} (hst:∀a∈xs,1≤a.st) {q k:Nat} (hk:(ntL xs)[q]? =some k):atI (stL xs) k=q↔q∈stL xs:=by
 constructor
 ·intro h
  cases hx:(stL xs)[k]? with
  | none =>
   rw[Mi_ (by have:=List.getElem?_eq_none_iff.1 hx;omega)]at h;omega
  | some x =>
   rw[Sj_ hx]at h;have:x=q:=by omega
   rw[←this];exact bL0 hx
 ·intro h;obtain⟨j,hj,he⟩:=bJ0 h;have hj2:(stL xs)[j]? =some q:=by rw[aH0 hj,he]
  have h1:=(st_nt xs 0 0 j q hst hj2).2;rw[eR0,bQ0]at h1;have h2:(ntL xs)[q]? =some j:=h1;rw[hk]at h2;simp only[aA0]at h2;subst h2;exact Sj_ hj2
theorem nt_le : ∀(xs:List Auto) (b:Nat),∀k∈(xs.zipIdx b).flatMap (fun p=>List.replicate p.1.st.toNat p.2),k<b+xs.length
 | [],b,k,h=>by simp at h
 | a::xs,b,k,h=>by
  rw[fD0,cM0,aI0]at h;rw[List.length_cons]
  rcases h with h | h
  ·have:=List.eq_of_mem_replicate h;simp only at this;omega
  ·have:=nt_le xs (b+1) k h;omega
theorem nt_lt {xs:List Auto} {q k:Nat} (h:(ntL xs)[q]? =some k):k<xs.length:=by
 have:=nt_le xs 0 k (bL0 h);omega
theorem ownQ_in {xs:List Auto} {q k:Nat} (h:q∈stL xs) (hk:(ntL xs)[q]? =some k):ownQ xs q=k:=by
 unfold ownQ;rw[if_pos h,bH0,hk];rfl
theorem UZ_ {xs:List Auto} {q:Nat} (h:¬q∈stL xs):ownQ xs q=xs.length+cntN xs q:=by unfold ownQ;rw[if_neg h]
theorem Oq_ : ∀{xs:List Auto} {f:Nat} {p:Auto×Nat},p∈parA f xs→p.2+p.1.st.toNat≤f+sumS xs
 | [],_,_,h=>by simp[parA]at h
 | a::xs,f,p,h=>by
  have h3:sumS (a::xs)=a.st.toNat+sumS xs:=by simp[sumS]
  rw[parA]at h
  rcases aJ0.1 h with rfl | h
  ·simp only;omega
  ·have:=Oq_ h;omega
def pF (xs:List Auto) (q:Int):Prod:=⟨(ownQ xs q.toNat:Int),[]⟩
def pA (xs:List Auto) (x:Arc):Prod:=⟨(ownQ xs x.fr.toNat:Int),[x.sy,⟨false,(ownQ xs x.to.toNat:Int)⟩]⟩
def cnfM (xs:List Auto):Cnf:=⟨((xs.length+cntN xs (sumS xs):Nat):Int),(finA xs).map (pF xs)++(arcA xs).map (pA xs)⟩
end Go.Proofs.YtchgnpnbcjflcaaGreat
end
section
namespace Go.Dm
variable [DMode]
theorem wkA_len : ∀{a b:List DVal},wkA a b→a.length=b.length
 | [],[],_=>rfl
 | [],_::_,h=>h.elim
 | _::_,[],h=>h.elim
 | _::a,_::b,h=>by simp[wkA_len h.2]
def HA_ : List (List DVal)→List (List DVal)→Prop
 | [],[]=>True
 | a::r,b::t=>wkA a b∧HA_ r t
 | _,_=>False
theorem MP_ : ∀{a b:List (List DVal)},HA_ a b→a.length=b.length
 | [],[],_=>rfl
 | [],_::_,h=>h.elim
 | _::_,[],h=>h.elim
 | _::a,_::b,h=>by simp[MP_ h.2]
theorem rdC_wkA {cur:Cur} {M:List Nat} {h:Array Obj}:∀{a b:List DVal} {arr:Array Value} {o:Nat},wkA a b→rdC cur M h a arr o→rdC cur M h b arr o
 | [],[],_,_,_,hr=>hr
 | [],_::_,_,_,hw,_=>hw.elim
 | _::_,[],_,_,hw,_=>hw.elim
 | d::a,e::b,arr,o,hw,hr=>by
  simp only[rdC]at hr ⊢;obtain⟨⟨v,h1,h2,h3⟩,h4⟩:=hr;exact⟨⟨v,h1,h2,rd_wk hw.1 h3⟩,rdC_wkA hw.2 h4⟩
theorem Na_ {cur:Cur} {M:List Nat} {h:Array Obj} {k:Nat}:∀{a b:List (List DVal)} {arr:Array Value} {o:Nat},HA_ a b→rdR cur M h k a arr o→rdR cur M h k b arr o
 | [],[],_,_,_,hr=>hr
 | [],_::_,_,_,hw,_=>hw.elim
 | _::_,[],_,_,hw,_=>hw.elim
 | d::a,e::b,arr,o,hw,hr=>by
  simp only[rdR]at hr ⊢;obtain⟨h1,h2,h3⟩:=hr;exact⟨by rw[←h1,wkA_len hw.1],rdC_wkA hw.1 h2,Na_ hw.2 h3⟩
def putR (es':List (List DVal)):DObj→DObj
 | .row et k bs _=> .row et k bs es'
 | o=>o
def rowE (id:Nat) (es':List (List DVal)):List Ent→List Ent
 | []=>[]
 | e::t=>(if e.id=id then ⟨e.id,e.r,putR es' e.obj⟩else e)::rowE id es' t
attribute [simp] putR rowE
theorem UH_ (id:Nat) (es':List (List DVal)):∀own:List Ent,(rowE id es' own).map (·.id)=own.map (·.id)
 | []=>rfl
 | e::t=>by simp only[rowE,List.map_cons,UH_ id es' t];split<;>rfl
theorem CU_ (id:Nat) (es':List (List DVal)) (loc:Nat→Loc):∀own:List Ent,Ab_ (rowE id es' own) loc=Ab_ own loc
 | []=>rfl
 | e::t=>by
  have:=CU_ id es' loc t;simp only[Ab_,rowE,cM0]at this ⊢;rw[this];split<;>rfl
theorem HQ_ {id:Nat} {es':List (List DVal)}:∀{own:List Ent} {x:Ent},x∈rowE id es' own→∃e∈own,e.id=x.id∧e.r=x.r∧((e.id≠id∧x=e)∨(e.id=id∧x.obj=putR es' e.obj))
 | [],_,h=>by simp[rowE]at h
 | e::t,x,h=>by
  simp only[rowE,aJ0]at h
  rcases h with h | h
  ·refine⟨e,aE0,?_⟩
   split at h
   ·rename_i he;subst h;exact⟨rfl,rfl,.inr ⟨he,rfl⟩⟩
   ·rename_i he;subst h;exact⟨rfl,rfl,.inl ⟨he,rfl⟩⟩
  ·obtain⟨e',h1,h2⟩:=HQ_ h;exact⟨e',aC0 _ h1,h2⟩
theorem Oe_ (id:Nat) (es':List (List DVal)) (loc:Nat→Loc) (own:List Ent):Ae_ (rowE id es' own) loc=Ae_ own loc:=by
 funext i r
 have h:∀own:List Ent,(Ao_ (rowE id es' own) i).map (·.r)=(Ao_ own i).map (·.r):=by
  intro own
  induction own with
  | nil=>rfl
  | cons e t ih =>
   simp only[rowE,Ao_]
   by_cases h1:e.id=id
   ·simp only[h1,if_true]
    by_cases h2:id=i
    ·simp[h2]
    ·simp only[h2,if_false];exact ih
   ·simp only[h1,if_false]
    by_cases h2:e.id=i
    ·simp[h2]
    ·simp only[h2,if_false];exact ih
 have h0:=h own;unfold Ae_;cases ha:Ao_ (rowE id es' own) i<;>cases hb:Ao_ own i<;>rw[ha,hb]at h0<;>simp only[eN0,dK0,aA0,reduceCtorEq]at h0 ⊢;rw[h0]
theorem St.rowWk {own:List Ent} {loc:Nat→Loc} {M:List Nat} {h:Array Obj} (S:St own loc M h) (id:Nat) {et k bs:Nat} {es es':List (List DVal)} {e:Ent} (he:Ao_ own id=some e) (hob:e.obj= .row et k bs es) (hw:HA_ es es'):St (rowE id es' own) loc M h:=by
 refine⟨by rw[UH_];exact S.nd,by rw[CU_];exact S.bl,by rw[CU_];exact S.ap,by rw[CU_];exact S.lt,?_⟩;intro x hx;simp only[Oe_,CU_];obtain⟨e',h1,h2,h3,h4⟩:=HQ_ hx;have hk:=S.ok e' h1
 rcases h4 with ⟨_,rfl⟩ | ⟨h4,h5⟩
 ·exact hk
 ·have hee:e'=e:=by
   have:=Bs_ S.nd h1;rw[h4,he]at this;simpa using this.symm
  subst hee;rw[←h2,h5,hob];rw[hob]at hk;simp only[putR];obtain⟨k1,k2⟩:=hk;have hl:=MP_ hw;refine⟨by rw[←hl];exact k1,?_⟩
  rcases k2 with ⟨rfl,q2,q3⟩ | ⟨b,arr,cap,q1,q2,q3,q4,q5,q6,q7⟩
  ·refine .inl ⟨?_,q2,q3⟩
   cases es' with
   | nil=>rfl
   | cons x t=>simp at hl
  ·exact .inr ⟨b,arr,cap,q1,by rw[←hl];exact q2,q3,by rw[←hl];exact q4,q5,q6,Na_ hw q7⟩
theorem Sub.rowWk {B:Base} {s:DS} (id:Nat) {et k bs:Nat} {es es':List (List DVal)} {e:Ent} (he:Ao_ s.own id=some e) (hob:e.obj= .row et k bs es) (hw:HA_ es es'):Sub B s ⟨s.slots,rowE id es' s.own⟩:=by
 intro a w loc R;refine⟨loc,⟨R.st.rowWk id he hob hw,R.upd,by rw[CU_];exact R.new,?_,?_,R.nt,by rw[CU_];exact R.df⟩⟩
 ·intro x hx;obtain⟨e',h1,h2,h3,_⟩:=HQ_ hx;rw[←h2,←h3];exact R.ver e' h1
 ·intro i;have:=R.sl i;simp only[Oe_,CU_];exact this
theorem AL_.rowWk {P:Program} {f:Fn} {args:List DVal} {own own':List Ent} {d:DVal} (h:AL_ P f args own d own') (id:Nat) {et k bs:Nat} {es es':List (List DVal)} {e:Ent} (he:Ao_ own' id=some e) (hob:e.obj= .row et k bs es) (hw:HA_ es es'):AL_ P f args own d (rowE id es' own'):=by
 obtain⟨h1,h2,h3⟩:=h;refine⟨fun x hx=> ?_,h2,fun M w loc vs S hr=> ?_⟩
 ·obtain⟨e',g1,g2,g3,_⟩:=HQ_ hx;rw[←g3];exact h1 e' g1
 ·have key:∀(R R':Value→World→Prop),(∀v w',R v w'→R' v w')→Hc_ P f vs w R→Hc_ P f vs w R':=fun R R' hRR hF=>hF.mono hRR
  refine key _ _ ?_ (h3 M w loc vs S hr);rintro v w' ⟨loc',k1,k2,k3,k4,k5⟩;refine⟨loc',k1.rowWk id he hob hw,k2,by rw[CU_];exact k3,?_,by rw[Oe_,CU_];exact k5⟩;intro x hx hr1;obtain⟨e',g1,g2,g3,_⟩:=HQ_ hx;rw[←g2,←g3];exact k4 e' g1 (by omega)
theorem DW_rowWk {P:Program} {B:Base} {Q:Exit→DS→Prop} {s:DS} {x:Code} (id:Nat) {et k bs:Nat} {es es':List (List DVal)} {e:Ent} (he:Ao_ s.own id=some e) (hob:e.obj= .row et k bs es) (hw:HA_ es es') (h:DW P B x Q ⟨s.slots,rowE id es' s.own⟩):DW P B x Q s :=
 FT_ (Sub.rowWk id he hob hw) h
end Go.Dm
end
section
namespace Go.Proofs.YtchgnpnbcjflcaaGreat
open Go Go.Dm
attribute [local irreducible] DW AV_ AZ_
set_option maxRecDepth 100000
theorem MO_ {α:Type} (f g:α→List DVal) (h:∀x,wkA (f x) (g x)):∀l:List α,HA_ (l.map f) (l.map g)
 | []=>by simp[HA_]
 | x::l=>by
  rw[List.map_cons,List.map_cons];exact⟨h x,MO_ f g h l⟩
def dF (xs:List Auto) (q:Int):List DVal:=[.int .i64 (ownQ xs q.toNat:Int),.nilsl]
theorem dF_wk (xs:List Auto) (q:Int):wkA (dF xs q) (Am_ (pF xs q)):=by simp[dF,Am_,pF,Bk_,wkA,wk,wk1,isE]
@[simp] theorem mx_dF (xs:List Auto) (q:Int):mxL (dF xs q)=0:=by simp[dF,mxL,mx]
@[simp] theorem mx_dFs (xs:List Auto) (l:List Int):mxR (l.map (dF xs))=0:=mxR0 _ (mx_dF xs) l
theorem bnd_p {a b:Nat} (h1:a≤1040) (h2:b≤17179870208):(a+b+1)*32≤150000000000000:=by omega
theorem Vg_ (l:List Nat) (k v:Nat):(l.map natD).set k [.int .i64 (v:Int)]=(l.set k v).map natD:=by rw[eB0];rfl
def LM_ (xs:List Auto) (l:List Int):List (List DVal):=l.map (dF xs)
def prF (xs:List Auto) (l:List Int):List Prod:=l.map (pF xs)
def prA (xs:List Auto) (l:List Arc):List Prod:=l.map (pA xs)
theorem prA_next {xs:List Auto} {z:List Arc} {k:Nat} {x:Arc} (h:z[k]? =some x):prA xs (z.take (k+1))=prA xs (z.take k)++[pA xs x]:=by unfold prA;rw[bF0,h,aZ0];rfl
theorem finP_next {xs:List Auto} {l:List Int} {k:Nat} {q:Int} (h:l[k]? =some q):LM_ xs (l.take (k+1))=LM_ xs (l.take k)++[[.int .i64 (ownQ xs q.toNat:Int),.nilsl]]:=by unfold LM_;rw[bF0,h,aZ0];rfl
theorem finP_mx (xs:List Auto) (l:List Int):mxR (LM_ xs l)=0:=mx_dFs xs l
theorem finA_in {xs:List Auto} (h:∀a∈xs,SmA a) {q:Int} (hq:q∈finA xs):0≤q∧q.toNat<sumS xs:=by
 unfold finA at hq;obtain⟨p,hp,hq⟩:=bS0.1 hq;obtain⟨r,hr,rfl⟩:=aU0.1 hq;have h1:=Oq_ hp;have h2:=ok_fin (h _ (EH_ hp).1).ok hr;unfold mvF;omega
theorem arcA_in {xs:List Auto} (h:∀a∈xs,SmA a) {x:Arc} (hx:x∈arcA xs):0≤x.fr∧x.fr.toNat<sumS xs∧0≤x.to∧x.to.toNat<sumS xs:=by
 unfold arcA at hx;obtain⟨p,hp,hx⟩:=bS0.1 hx;obtain⟨y,hy,rfl⟩:=aU0.1 hx;have h1:=Oq_ hp;have h2:=ok_arc (h _ (EH_ hp).1).ok hy;unfold mvA;simp only;omega
def anCF111 : Ann:=⟨[],[⟨22,[12],[],[]⟩]⟩
set_option maxHeartbeats 8000000 in
theorem Sb_ (H L:List ByteArray) (xs:List Auto) (hsm:∀a∈xs,SmA a) (hl:xs.length≤16) (hH:H.length=xs.length) (hne:1≤sumS xs):Ac_ Tryz.prog 11 [Dn_ H L xs] (.tup [.agg (dCnf (Bu_ (cnfM xs))),.int .i64 0]):=by
 refine Aa_ [2] anCF111 Tryz.func11 Tryz.call11 Tryz.ntmps11 mxd (aj2 @anCF111.eq_1 Tryz.results11) rfl (by simp) (by simp[mx,mxL,dCnf]) fun hwf B hnt hgAnn=> ?_
 clear hwf;simp only[argS];have hst1:∀a∈xs,1≤a.st:=fun a ha=>(Ov_ (hsm a ha).ok).1
 have hsl:=IK_ (l:=xs) fun a ha=>(hsm a ha).ok
 have hs10:sumS xs≤1040:=Nat.le_trans hsl (cD0 65 hl);have e1:=NY_ H L xs;have e2:=OH_ H L xs;have e3:∀n,_:=fun n=>nt33_pure H L xs hsm hl n
 have e4:∀n,_:=fun n=>Qt_ H L xs n
 have e5:=MA_ H L xs hsm hl;have e6:=Ri_ H L xs hsm hl;have e7:=KJ_ (cnfM xs);obtain⟨PR,hPR⟩:∃PR,PR=(Bu_ (cnfM xs)).prods:=⟨_,rfl⟩;obtain⟨NN,hNN⟩:∃NN,NN=(Bu_ (cnfM xs)).nts:=⟨_,rfl⟩;have hR:dCnf (Bu_ (cnfM xs))=[.int .i64 NN,BB_ PR]:=by rw[hPR,hNN];rfl
 rw[hR]at e7 ⊢;clear hR hPR hNN;have hfin:∀q∈finA xs,0≤q∧q.toNat<sumS xs:=fun q hq=>finA_in hsm hq
 have harc:∀x∈arcA xs,0≤x.fr∧x.fr.toNat<sumS xs∧0≤x.to∧x.to.toNat<sumS xs:=fun x hx=>arcA_in hsm hx
 have hfl:(finA xs).length≤1040:=Nat.le_trans (Pg_ hsm 0) (cD0 65 hl);have hal:(arcA xs).length≤17179870208:=Nat.le_trans (PF_ hsm 0) (cD0 1073741888 hl);simp only[Dn_]at e1 e2 e3 e4 e5 e6 ⊢;clear hsl;have hS0:¬((sumS xs:Nat):Int)=0:=by omega
 have hSb:(((sumS xs:Nat):Int)==0)=false:=by simpa using hS0
 have hS1:sumS xs*8≤150000000000000:=by omega
 (refine go1 (aj2 e1 e2) aj0 (aj2 hS0 hSb) ?_;intros;refine mk_i ?_)
 have hz0:(ownR xs 0).map natD=List.replicate (sumS xs) [.int .i64 0]:=by unfold ownR;simp[natD]
 have hzm:mxR (List.replicate (sumS xs) [DVal.int .i64 0])=0:=by rw[←hz0];simp
 refine Ad_ (X:={q:Nat//q≤sumS xs}) (fun q=>⟨[(0,.ref [dTab H L,dPts (parA 0 xs),.int .i64 (sumS xs)]),(2,.bx 2 1 0),(5,.osl 22 1),(6,.int .i64 ((xs.length+cntN xs q.1:Nat):Int)),(25,.int .i64 (sumS xs)),(26,.int .i64 q.1)],[⟨2,1,.box [.int .i64 0,.nilsl]⟩,⟨22,1,.row 3 1 8 ((ownR xs q.1).map natD)⟩]⟩) (fun q=>sumS xs-q.1) ⟨0,by simp⟩ (Sub.lit (by simp[hz0,hzm,hH,cntN_zero])) ?_;rintro⟨q,hq⟩;simp only
 by_cases hlt:q<sumS xs
 ·have hnl:=Tp_ xs;obtain⟨k,hk⟩:∃k,(ntL xs)[q]? =some k:=⟨_,aH0 (by omega)⟩;have hsi:=start_iff hst1 hk;have hkl:=nt_lt hk;have f1:=e3 q;have f2:=e4 k;rw[Sj_ hk]at f1;have hrl:=UY_ xs hq;have hrs:=ownR_set xs hlt;have hcs:=Ma_ xs q;have hcl:=cntN_le xs q;have g1:=Vg_ (ownR xs q) q k;have g2:=Vg_ ((ownR xs q).set q k) q (xs.length+cntN xs q);have hss:((ownR xs q).set q k).set q (xs.length+cntN xs q)=(ownR xs q).set q (xs.length+cntN xs q):=List.set_set _
  have hql:q<(ownR xs q).length:=by omega
  have g3:((ownR xs q).set q k)[q]? =some k:=by rw[fF0 hql]
  have hql2:q<((ownR xs q).set q k).length:=by rw[List.length_set];exact hql
  obtain⟨Y,hY⟩:∃Y,Y=(ownR xs q).set q k:=⟨_,rfl⟩;rw[←hY]at g1 g2 g3 hql2 hss;have g3':Y[q]'hql2=k:=(aB0.1 g3).2;have hwq:IntKind.i64.wrap ((q:Int)+1)=(q:Int)+1:=wq;have hqi:(q:Int)<(sumS xs:Int):=by omega
  obtain⟨S,hS⟩:∃S,S=atI (stL xs) k:=⟨_,rfl⟩;rw[←hS]at hsi f2
  by_cases hin:q∈stL xs
  ·have hSq:=hsi.2 hin;have how:=ownQ_in hin hk;rw[how,←hY]at hrs;rw[if_pos hin,dO0]at hcs;rw[hrs]at g1 g3 hql2;have g3':(ownR xs (q+1))[q]'hql2=k:=(aB0.1 g3).2;clear hY hss g2;rw[hSq]at f2
   (refine go1 (aj2 f1 f2) aj0 (aj7 hqi hql hql2 @natD.eq_1 g1 g3 g3') ?_;intros;refine mk_i ?_)
   refine Ai_.mk ⟨q+1,by omega⟩ (Sub.lit (by simp[hcs])) (by simp;omega)
   skip
  ·have hSq:¬S=(q:Int):=fun hh=>hin (hsi.1 hh)
   have hSb2:(S==(q:Int))=false:=by simpa using hSq
   have how:=UZ_ hin;rw[how]at hrs;rw[if_neg hin]at hcs;rw[hss,hrs]at g2;clear hY hss hrs;have hwn:IntKind.i64.wrap (((xs.length+cntN xs q:Nat):Int)+1)=((xs.length+cntN xs (q+1):Nat):Int):=by rw[wq,hcs];omega
   obtain⟨N,hN⟩:∃N,N=xs.length+cntN xs q:=⟨_,rfl⟩;rw[←hN]at hwn g2 ⊢
   (refine go1 (aj2 f1 f2) aj0 (aj11 hqi hql hql2 @natD.eq_1 g1 g2 g3 g3' hSq hSb2 hwn) ?_;intros;refine mk_i ?_)
   refine Ai_.mk ⟨q+1,by omega⟩ (Sub.lit (by simp)) (by simp;omega)
   skip
 ·have hkk:q=sumS xs:=by omega
  subst hkk;have hqi:¬((sumS xs:Nat):Int)<(sumS xs:Int):=by omega
  clear e3 e4 hst1;have how:∀q:Nat,q<sumS xs→(ownR xs (sumS xs))[q]? =some (ownQ xs q):=fun q hq=>ownR_at xs hq
  have hol:=UY_ xs (Nat.le_refl (sumS xs));have hcs:=cntN_le xs (sumS xs);unfold cnfM at e7;obtain⟨N,hN⟩:∃N,N=xs.length+cntN xs (sumS xs):=⟨_,rfl⟩;rw[←hN]at e7 ⊢;obtain⟨W,hW⟩:∃W,W=ownR xs (sumS xs):=⟨_,rfl⟩;rw[←hW]at how hol ⊢;obtain⟨F,hF⟩:∃F,F=finA xs:=⟨_,rfl⟩;rw[←hF]at e5 e7 hfin hfl;obtain⟨Z,hZ⟩:∃Z,Z=arcA xs:=⟨_,rfl⟩;rw[←hZ]at e6 e7 harc hal;clear hW hF hZ hcs hsm;refine FT_ (Sub.freezeL [22] _) ?_
  simp
  (refine go1 (aj1 e5) aj0 (aj1 hqi) ?_;intros;refine mk_i ?_)
  refine Cf_ 8 1 60 92 2 32 (by simp) (fun n1=> ?_);have f0:LM_ xs []=[]:=rfl;refine Ad_ (X:={k:Nat//k≤F.length}) (fun k=>⟨[(0,.ref [dTab H L,dPts (parA 0 xs),.int .i64 (sumS xs)]),(2,.bx 2 1 0),(5,Ei_ W),(8,.bx 8 1 0),(53,CJ_ F),(54,.int .i64 F.length),(55,.int .i64 k.1)],[⟨2,1,.box [.int .i64 0,.nilsl]⟩,⟨8,1,.box [.int .i64 (N:Int),.osl 60 1]⟩,⟨60,1,.row 92 2 32 (LM_ xs (F.take k.1))⟩]⟩) (fun k=>F.length-k.1) ⟨0,by simp⟩ (Sub.lit (by simp[f0])) ?_
  rintro⟨k,hk⟩;simp only
  by_cases hlt2:k<F.length
  ·obtain⟨q,hq1,hq1',hqm⟩:=Aj_ hlt2;obtain⟨q0,q1⟩:=hfin q hqm;obtain⟨u,rfl⟩:∃u:Nat,q=(u:Int):=⟨q.toNat,by omega⟩;rw[dI0]at q1;have hW1:=how u q1;have hul:u<W.length:=by omega
   have hW1':W[u]'hul=ownQ xs u:=(aB0.1 hW1).2;have hnx:=finP_next (xs:=xs) hq1;rw[dI0]at hnx;have hpl:(LM_ xs (F.take k)).length≤1040:=by unfold LM_;rw[aK0,bB0];omega
   have hpm:=finP_mx xs (F.take k);obtain⟨T,hT⟩:∃T,T=LM_ xs (F.take k):=⟨_,rfl⟩;rw[←hT]at hnx hpl hpm ⊢;have hb:(T.length+1)*32≤150000000000000:=by omega
   have hwk:IntKind.i64.wrap ((k:Int)+1)=(k:Int)+1:=wq;clear hal hfl harc hfin hT hpl
   (refine go1 aj0 aj0 (aj10 @dNum.eq_1 @natD.eq_1 hlt2 hq1 hq1' hul hW1 hW1' hb hwk) ?_;intros;refine mk_i ?_)
   refine Ai_.mk ⟨k+1,by omega⟩ (Sub.lit (by simp[hnx,hpm])) (by simp;omega)
   skip
  ·have hkk:k=F.length:=by omega
   subst hkk;rw[aS0];refine DW_rowWk 60 (es':=(prF xs F).map Am_) (e:=⟨60,1,.row 92 2 32 (LM_ xs F)⟩) rfl rfl (by unfold LM_ prF;rw[bZ0];exact MO_ _ _ (dF_wk xs) F) ?_;simp only[rowE,putR];simp
   (refine go1 (aj1 e6) aj0 aj0 ?_;intros;refine mk_i ?_)
   have p0:prA xs []=[]:=rfl;refine Ad_ (X:={k:Nat//k≤Z.length}) (fun k=>⟨[(2,.bx 2 1 0),(5,Ei_ W),(8,.bx 8 1 0),(71,Is_ Z),(72,.int .i64 Z.length),(73,.int .i64 k.1)],[⟨2,1,.box [.int .i64 0,.nilsl]⟩,⟨8,1,.box [.int .i64 (N:Int),.osl 60 1]⟩,⟨60,1,.row 92 2 32 ((prF xs F).map Am_++(prA xs (Z.take k.1)).map Am_)⟩]⟩) (fun k=>Z.length-k.1) ⟨0,by simp⟩ (Sub.lit (by simp[p0])) ?_;rintro⟨k,hk⟩;simp only
   by_cases hlt3:k<Z.length
   ·obtain⟨x,hx,hx',hxm⟩:=Aj_ hlt3;obtain⟨x0,x1,x2,x3⟩:=harc x hxm;obtain⟨fr,sy,to⟩:=x;simp only at x0 x1 x2 x3;obtain⟨u,rfl⟩:∃u:Nat,fr=(u:Int):=⟨fr.toNat,by omega⟩;obtain⟨v,rfl⟩:∃v:Nat,to=(v:Int):=⟨to.toNat,by omega⟩;rw[dI0]at x1 x3;have hW1:=how u x1;have hW2:=how v x3;have hul:u<W.length:=by omega
    have hvl:v<W.length:=by omega
    have hW1':W[u]'hul=ownQ xs u:=(aB0.1 hW1).2;have hW2':W[v]'hvl=ownQ xs v:=(aB0.1 hW2).2;have hnx:=congrArg (List.map Am_) (prA_next (xs:=xs) hx);rw[aZ0]at hnx;have hn2:List.map Am_ (prA xs (Z.take (k+1)))=List.map Am_ (prA xs (Z.take k))++[[.int .i64 (ownQ xs u:Int),.sl 2 16 [[.bool sy.label,.int .i64 sy.n],[.bool false,.int .i64 (ownQ xs v:Int)]]]]:=by rw[hnx];simp[Am_,pA,Bk_,dSym]
    have hpl:(prF xs F).length≤1040:=by unfold prF;rw[aK0];exact hfl
    have hpk:(prA xs (Z.take k)).length≤17179870208:=by unfold prA;rw[aK0,bB0];omega
    have hwk:IntKind.i64.wrap ((k:Int)+1)=(k:Int)+1:=wq;obtain⟨T,hT⟩:∃T,T=prA xs (Z.take k):=⟨_,rfl⟩;rw[←hT]at hn2 hpk ⊢;obtain⟨PF,hPF⟩:∃PF,PF=prF xs F:=⟨_,rfl⟩;rw[←hPF]at hpl ⊢;have hb:(PF.length+T.length+1)*32≤150000000000000:=bnd_p hpl hpk;have hb3:PF.length+T.length≤9223372036854775806:=by omega
    have hr2:List.range 2=[0,1]:=rfl;clear hal hfl harc hfin hT hpl hpk hnx hPF
    (refine go1 aj0 aj0 (aj15 @dArc.eq_1 @natD.eq_1 hlt3 hx hx' hul hvl hW1 hW1' hW2 hW2' hb hb3 hr2 hwk) ?_;intros;refine mk_i ?_)
    refine Ai_.mk ⟨k+1,by omega⟩ (Sub.lit (by simp[hn2])) (by simp;omega)
    skip
   ·have hkk:k=Z.length:=by omega
    subst hkk;rw[aS0];have hPP:List.map Am_ (prF xs F)++List.map Am_ (prA xs Z)=(List.map (pF xs) F++List.map (pA xs) Z).map Am_:=by unfold prF prA;rw[←aZ0]
    rw[hPP];obtain⟨PP,hPq⟩:∃PP,PP=List.map (pF xs) F++List.map (pA xs) Z:=⟨_,rfl⟩;rw[←hPq]at e7 ⊢;simp only[dCnf]at e7;refine FT_ (Sub.freezeL [60] _) ?_;simp;exact go0 (aj1 e7) aj0 aj0
end Go.Proofs.YtchgnpnbcjflcaaGreat
end
section
namespace Go.Proofs.YtchgnpnbcjflcaaGreat
open Go Go.Dm
variable [DMode]
attribute [local irreducible] DW AV_ AZ_

end Go.Proofs.YtchgnpnbcjflcaaGreat
end
section
namespace Go.Proofs.YtchgnpnbcjflcaaGreat
open Go Go.Dm
variable [DMode]
attribute [local irreducible] DW AV_ AZ_
set_option maxRecDepth 100000

end Go.Proofs.YtchgnpnbcjflcaaGreat
end
section
namespace Go.Proofs.YtchgnpnbcjflcaaGreat

end Go.Proofs.YtchgnpnbcjflcaaGreat
end
section
namespace Go.Proofs.YtchgnpnbcjflcaaGreat
open Go Go.Dm
variable [DMode]
attribute [local irreducible] DW AV_ AZ_
set_option maxRecDepth 100000

def rowPd (l:List Prod):DVal:=if l=[]then .nilsl else BB_ l
@[local simp] theorem mx_rowPd (l:List Prod):mx (rowPd l)=0:=by unfold rowPd;split<;>simp[mx]
end Go.Proofs.YtchgnpnbcjflcaaGreat
end
section
namespace Go.Proofs.YtchgnpnbcjflcaaGreat
open Go Go.Dm
attribute [local irreducible] DW AV_ AZ_
set_option maxRecDepth 100000
theorem stL_pw : ∀(xs:List Auto) (f:Nat),(∀a∈xs,1≤a.st)→((parA f xs).map (·.2)).Pairwise (· < ·)∧∀q∈(parA f xs).map (·.2),f≤q∧q<f+sumS xs
 | [],f,_=>by simp[parA]
 | a::xs,f,h=>by
  have h3:sumS (a::xs)=a.st.toNat+sumS xs:=by simp[sumS]
  have h4:=h a aE0;obtain⟨h1,h2⟩:=stL_pw xs (f+a.st.toNat) fun x hx=>h x (aC0 _ hx)
  rw[parA,List.map_cons];refine⟨bX0.2 ⟨fun q hq=> ?_,h1⟩,fun q hq=> ?_⟩
  ·have:=h2 q hq;simp only;omega
  ·rcases aJ0.1 hq with rfl | hq
   ·first | omega | (simp only;omega)
   ·have:=h2 q hq;omega
theorem nts_eq {xs:List Auto} (h:∀a∈xs,1≤a.st):xs.length+cntN xs (sumS xs)=sumS xs:=by
 obtain⟨h1,h2⟩:=stL_pw xs 0 h;have h1':(stL xs).Pairwise (· < ·):=h1;have h2':∀q∈stL xs,q<sumS xs:=fun q hq=>by have:=h2 q hq;omega
 have hp:((List.range (sumS xs)).filter fun p=>decide (p∈stL xs)).Perm (stL xs):=by
  refine(List.perm_ext_iff_of_nodup (List.nodup_range.filter _) (h1'.imp fun h=>Nat.ne_of_lt h)).2 fun q=> ?_
  rw[cI0,dB0];simp only[decide_eq_true_eq];exact⟨fun h=>h.2,fun h=>⟨h2' q h,h⟩⟩
 have hl:=hp.length_eq;rw[stL_len]at hl
 have hs:∀l:List Nat,(l.filter fun p=>decide (p∈stL xs)).length+(l.filter fun p=>decide (¬p∈stL xs)).length=l.length:=by
  intro l
  induction l with
  | nil=>rfl
  | cons x l ih=>by_cases hx:x∈stL xs<;>simp[hx]at ih ⊢ <;>omega
 have:=hs (List.range (sumS xs));rw[eG0]at this;unfold cntN;omega
end Go.Proofs.YtchgnpnbcjflcaaGreat
end
section
namespace Go.Proofs.YtchgnpnbcjflcaaGreat
open Go Go.Dm
variable [DMode]
attribute [local irreducible] DW AV_ AZ_
set_option maxRecDepth 100000
structure Mk where
 nts:Int
 prods:List Prod
 hs:List (Int×Int)
 no:Int
def dKey (p:Int×Int):DVal:= .int .i64 p.1
def FM_ (p:Int×Int):DVal:= .int .i64 p.2
def dMk (v:Nat) (m:Mk):List Ent:=[⟨0,0,.box [.int .i64 m.nts,.osl 1 v,.omp 2 0,.int .i64 m.no]⟩,⟨1,v,.row 92 2 32 (m.prods.map Am_)⟩,⟨2,0,.map (m.hs.map dKey) (m.hs.map FM_)⟩]
@[simp] theorem mxL_keys (l:List (Int×Int)):mxL (l.map dKey)=0:=by induction l<;>simp_all [mxL,mx,dKey]
@[simp] theorem mxL_helps (l:List (Int×Int)):mxL (l.map FM_)=0:=by induction l<;>simp_all [mxL,mx,FM_]
def WV_ : Ann:=⟨[],[]⟩
theorem ET_ (m:Mk) (h1: -9223372036854775808≤m.nts) (h2:m.nts+1≤9223372036854775807):AL_ Tryz.prog (.func 299) [.bx 0 0 0] (dMk 0 m) (.int .i64 m.nts) (dMk 1 { m with nts:=m.nts+1 }):=by
 refine AR_ [] [(0,0,0),(1,1,1),(2,2,0)] WV_ Tryz.func299 Tryz.call299 Tryz.ntmps299 mxd (aj2 @WV_.eq_1 Tryz.results299) rfl (by simp) (by simp) (by simp[dMk]) fun hwf B hnt hgAnn=> ?_
 simp only[argS];exact go0 aj0 aj0 (aj1 @dMk.eq_1)
def WW_ : Ann:=⟨[],[]⟩
theorem Ga_ (m:Mk) (h:Int) (b:List Sym) (hb:(m.prods.length+1)*32≤150000000000000):AL_ Tryz.prog (.func 213) [.bx 0 0 0,.int .i64 h,Bk_ b] (dMk 0 m) (.tup []) (dMk 1 { m with prods:=m.prods++[⟨h,b⟩] }):=by
 refine AR_ [] [(0,0,0),(1,1,1),(2,2,0)] WW_ Tryz.func213 Tryz.call213 Tryz.ntmps213 mxd (aj2 @WW_.eq_1 Tryz.results213) rfl (by simp) (by simp) (by simp[dMk]) fun hwf B hnt hgAnn=> ?_
 simp only[argS];exact go0 aj0 aj0 (aj2 @dMk.eq_1 @Am_.eq_1)
def Mk.put (m:Mk) (h:Int) (b:List Sym):Mk:={ m with prods:=m.prods++[⟨h,b⟩] }
def Mk.nothing (m:Mk):Mk:=if m.no=0 then { m with nts:=m.nts+1,no:=m.nts,prods:=m.prods++[⟨m.nts,[]⟩] }else m
def Gs_ : Ann:=⟨[10,18],[]⟩
theorem QZ_ (m:Mk) (h1: -9223372036854775808≤m.nts) (h2:m.nts+1≤9223372036854775807) (h3:(m.prods.length+1)*32≤150000000000000) :
  AL_ Tryz.prog (.func 215) [.bx 0 0 0] (dMk 0 m) (.int .i64 m.nothing.no) (dMk 1 m.nothing):=by
 refine AR_ [] [(0,0,0),(1,1,1),(2,2,0)] Gs_ Tryz.func215 Tryz.call215 Tryz.ntmps215 mxd (aj2 @Gs_.eq_1 Tryz.results215) rfl (by simp) (by simp) (by simp[dMk]) fun hwf B hnt hgAnn=> ?_
 simp only[argS]
 by_cases h:m.no=0
 ·(repeat (first | refine Ax_ fun K hK=> ?_ | (refine DW_r Gs_ mxd (by kernel_rfl) ?_;simp[Gs_,hnt,dMk,h,Mk.nothing,Bk_];try simp (disch:=omega) only[Ah_]) | refine An_ ?_ | (refine AW_ ?_ ?_ ?_;(· (simp[hnt,dMk,h,Mk.nothing,Bk_];done));(try (rotate_left;(· (intro hc;(try simp[hnt,dMk,h,Mk.nothing,Bk_]at hc);done))))) | (refine AC_ ?_;simp[Tryz.results215,hnt,dMk,h,Mk.nothing,Bk_]) | ((first | refine Ar_ ?_ | refine Aq_ ?_);simp[hnt,dMk,h,Mk.nothing,Bk_]) | (intro hc;(try simp[hnt,dMk,h,Mk.nothing,Bk_]at hc);(try (exfalso;omega))) | (refine Au_ [(0,0),(1,1),(2,2)] [] (ET_ m h1 h2) ?_ ?_;(· (simp[hnt,dMk,h,Mk.nothing,Bk_];done));(intro _;try simp[hnt,dMk,h,Mk.nothing,Bk_])) | (refine Au_ [(0,0),(1,1),(2,2)] [] (Ga_ { m with nts:=m.nts+1,no:=m.nts } m.nts [] h3) ?_ ?_;(· (simp[hnt,dMk,h,Mk.nothing,Bk_];done));(intro _;try simp[hnt,dMk,h,Mk.nothing,Bk_])) | (refine⟨?_,?_⟩; · omega) | omega | apply_assumption -exfalso -symm | (exfalso;omega)))
 ·(repeat (first | refine Ax_ fun K hK=> ?_ | (refine DW_r Gs_ mxd (by kernel_rfl) ?_;simp[Gs_,hnt,dMk,h,Mk.nothing,Bk_];try simp (disch:=omega) only[Ah_]) | refine An_ ?_ | (refine AW_ ?_ ?_ ?_;(· (simp[hnt,dMk,h,Mk.nothing,Bk_];done));(try (rotate_left;(· (intro hc;(try simp[hnt,dMk,h,Mk.nothing,Bk_]at hc);done))))) | (refine AC_ ?_;simp[Tryz.results215,hnt,dMk,h,Mk.nothing,Bk_]) | ((first | refine Ar_ ?_ | refine Aq_ ?_);simp[hnt,dMk,h,Mk.nothing,Bk_]) | (intro hc;(try simp[hnt,dMk,h,Mk.nothing,Bk_]at hc);(try (exfalso;omega))) | (refine Au_ [(0,0),(1,1),(2,2)] [] (ET_ m h1 h2) ?_ ?_;(· (simp[hnt,dMk,h,Mk.nothing,Bk_];done));(intro _;try simp[hnt,dMk,h,Mk.nothing,Bk_])) | (refine Au_ [(0,0),(1,1),(2,2)] [] (Ga_ { m with nts:=m.nts+1,no:=m.nts } m.nts [] h3) ?_ ?_;(· (simp[hnt,dMk,h,Mk.nothing,Bk_];done));(intro _;try simp[hnt,dMk,h,Mk.nothing,Bk_])) | (refine⟨?_,?_⟩; · omega) | omega | apply_assumption -exfalso -symm | (exfalso;omega)))
def Mk.look (m:Mk) (a:Int):Option Nat:=AJ_ (m.hs.map dKey) (.int .i64 a)
end Go.Proofs.YtchgnpnbcjflcaaGreat
end
section
namespace Go.Proofs.YtchgnpnbcjflcaaGreat
open Go Go.Dm
variable [DMode]
attribute [local irreducible] DW AV_ AZ_
def Ay_ : List Sym→Int
 | []=>1
 | [s]=>if s.label then 2 else 0
 | [s,t]=>if !s.label&& !t.label then 3 else 0
 | _=>0
def Xa_ : Ann:=⟨[],[]⟩
set_option maxRecDepth 100000 in
theorem OA_ (l:List Sym):Ac_ Tryz.prog 151 [Bk_ l] (.int .i64 (Ay_ l)):=by
 refine Aa_ [] Xa_ Tryz.func151 Tryz.call151 Tryz.ntmps151 mxd (aj2 @Xa_.eq_1 Tryz.results151) rfl (by simp) (by simp[mx]) fun hwf B hnt hgAnn=> ?_
 simp only[argS]
 match l with
 | []=>exact go0 aj0 aj0 (aj5 @dSym.eq_1 @Ay_.eq_1 @Ay_.eq_2 @Ay_.eq_3 @Ay_.eq_4)
 | [s] =>
  cases hl:s.label<;>exact go0 aj0 aj0 (aj6 @dSym.eq_1 @Ay_.eq_1 @Ay_.eq_2 @Ay_.eq_3 @Ay_.eq_4 hl)
 | [s,t] =>
  exact go0 aj0 aj0 (aj5 @dSym.eq_1 @Ay_.eq_1 @Ay_.eq_2 @Ay_.eq_3 @Ay_.eq_4)
 | s::t::u::r =>
  exact go0 aj0 aj0 (aj5 @dSym.eq_1 @Ay_.eq_1 @Ay_.eq_2 @Ay_.eq_3 @Ay_.eq_4)
end Go.Proofs.YtchgnpnbcjflcaaGreat
end
section
namespace Go.Proofs.YtchgnpnbcjflcaaGreat
open Go Go.Dm
variable [DMode]
attribute [local irreducible] DW AV_ AZ_
set_option maxRecDepth 100000
def Kr_ : Ann:=⟨[],[]⟩
theorem JJ_ (g:FuncId) (us cs:List DVal) (l:List Sym) (q:Sym→Bool) (hq:∀x∈l,Ac_ Tryz.prog g (us++[.agg (dSym x)]++cs) (.bool (q x))) :
  Ac_ Tryz.prog 198 [Bk_ l,.fn (.func g) us cs] (.int .i64 (if l.any q then ((l.findIdx q:Nat):Int)else -1)):=by
 refine Aa_ [] Kr_ Tryz.func198 Tryz.call198 Tryz.ntmps198 mxd (aj2 @Kr_.eq_1 Tryz.results198) rfl (by simp) (by simp[mx]) fun hwf B hnt hgAnn=> ?_
 have hw:Yr_ l:=Qd_ hwf.1;obtain⟨hw1,hw2,hw3⟩:=hw;clear hwf hw3;simp only[argS]
 (refine go1 aj0 aj0 aj0 ?_;intros;refine mk_i ?_)
 refine Ad_ (X:={k:Nat//k≤l.length∧∀i x,i<k→l[i]? =some x→q x=false}) (fun x=>⟨[(0,Bk_ l),(1,.fn (.func g) us cs),(7,.int .i64 l.length),(8,.int .i64 x.1)],[]⟩) (fun x=>l.length-x.1) ⟨0,by simp⟩ (Sub.lit (by simp)) ?_;rintro⟨k,hk,hno⟩
 by_cases hlt:k<l.length
 ·obtain⟨x,hx,hx',hxm⟩:=Aj_ hlt;have hqx:=hq x hxm;simp only[dSym,aT0,List.cons_append,List.nil_append]at hqx;cases hb:q x
  ·rw[hb]at hqx
   have hno':∀i y,i<k+1→l[i]? =some y→q y=false:=by
    intro i y hi hy
    by_cases hik:i=k
    ·subst hik;rw[hx]at hy;simp only[aA0]at hy;subst hy;exact hb
    ·exact hno i y (by omega) hy
   (refine go1 (aj1 hqx) aj0 (aj3 @dSym.eq_1 hlt hx') ?_;intros;refine mk_i ?_)
   exact Ai_.mk ⟨k+1,by omega,hno'⟩ (Sub.lit (by simp[])) (by simp;omega)
   skip
  ·rw[hb]at hqx;have hany:l.any q=true:=cF0.2 ⟨x,hxm,hb⟩
   have hidx:l.findIdx q=k:=by
    rw[eQ0 hlt];refine⟨by rw[hx'];exact hb,fun i hi=> ?_⟩;exact hno i _ hi (aH0 (by omega))
   exact go0 (aj1 hqx) aj0 (aj5 @dSym.eq_1 hlt hx' hany hidx)
 ·have hkk:k=l.length:=by omega
  have hany:l.any q=false:=by
   rw[cS0];intro x hx;obtain⟨i,hi,rfl⟩:=bJ0 hx;rw[hno i _ (by omega) (aH0 hi)];simp
  (repeat (first | refine Ax_ fun K hK=> ?_ | (refine DW_r Kr_ mxd (by kernel_rfl) ?_;simp[Kr_,hnt,dSym,hkk,hany];try simp (disch:=omega) only[Ah_]) | refine An_ ?_ | (refine AW_ ?_ ?_ ?_;(· (simp[hnt,dSym,hkk,hany];done));(try (rotate_left;(· (intro hc;(try simp[hnt,dSym,hkk,hany]at hc);done))))) | (refine AC_ ?_;simp[Tryz.results198,hnt,dSym,hkk,hany]) | ((first | refine Ar_ ?_ | refine Aq_ ?_);simp[hnt,dSym,hkk,hany]) | (intro hc;(try simp[hnt,dSym,hkk,hany]at hc);(try (exfalso;omega))) | ((first | refine Ag_ (hqx) ?_ | (refine Af_ (hqx) ?_ ?_;(· (simp;done))));try simp[hnt,dSym,hkk,hany]) | (refine⟨?_,?_⟩; · omega) | omega | apply_assumption -exfalso -symm | (exfalso;omega)))
def WU_ : Ann:=⟨[],[]⟩
theorem Hq_ (g:FuncId) (us cs:List DVal) (l:List Sym) (q:Sym→Bool) (hq:∀x∈l,Ac_ Tryz.prog g (us++[.agg (dSym x)]++cs) (.bool (q x))) :
  Ac_ Tryz.prog 127 [Bk_ l,.fn (.func g) us cs] (.bool (l.any q)):=by
 refine Aa_ [] WU_ Tryz.func127 Tryz.call127 Tryz.ntmps127 mxd (aj2 @WU_.eq_1 Tryz.results127) rfl (by simp) (by simp[mx]) fun hwf B hnt hgAnn=> ?_
 simp only[argS];have hi:=JJ_ g us cs l q hq;have hge:(0:Int)≤(l.findIdx q:Nat):=by omega
 cases hb:l.any q
 ·rw[hb]at hi;exact go0 (aj1 hi) aj0 (aj1 hb)
 ·rw[hb]at hi;exact go0 (aj1 hi) aj0 (aj1 hb)
def ntOK (c:Cnf) (n:Int):Bool:=decide (0≤n)&&decide (n<c.nts)
def GN_ (c:Cnf) (s:Sym):Bool:=s.label&&(decide (s.n<0)||decide (16≤s.n))|| !s.label&& !ntOK c s.n
def CL_ (c:Cnf) (p:Prod):Bool:=ntOK c p.head&& !p.body.any (GN_ c)
def By_ (c:Cnf):Bool:=decide (1≤c.nts)&&decide (c.nts≤1024)&&c.prods.all (CL_ c)
def Xd_ : Ann:=⟨[],[]⟩
theorem CQ_ (c:Cnf) (n:Int):Ac_ Tryz.prog 126 [.int .i64 n,.ref [.int .i64 c.nts,BB_ c.prods]] (.bool (ntOK c n)):=by
 refine Aa_ [] Xd_ Tryz.func126 Tryz.call126 Tryz.ntmps126 mxd (aj2 @Xd_.eq_1 Tryz.results126) rfl (by simp) (by simp[mx]) fun hwf B hnt hgAnn=> ?_
 simp only[argS]
 by_cases h1:0≤n<;>by_cases h2:n<c.nts<;>exact go0 aj0 aj0 (aj3 h1 h2 @ntOK.eq_1)
abbrev dNt (c:Cnf):DVal:= .fn (.func 126) [] [.ref [.int .i64 c.nts,BB_ c.prods]]
def Xc_ : Ann:=⟨[],[]⟩
theorem TZ_ (c:Cnf) (s:Sym):Ac_ Tryz.prog 128 [.agg [.bool s.label,.int .i64 s.n],.ref [dNt c]] (.bool (GN_ c s)):=by
 refine Aa_ [] Xc_ Tryz.func128 Tryz.call128 Tryz.ntmps128 mxd (aj2 @Xc_.eq_1 Tryz.results128) rfl (by simp) (by simp[mx]) fun hwf B hnt hgAnn=> ?_
 simp only[argS];cases hl:s.label
 ·cases hb:ntOK c s.n<;>exact go0 (aj1 (CQ_ c s.n)) aj0 (aj3 hl hb @GN_.eq_1)
 ·by_cases h1:s.n<0<;>by_cases h2:16≤s.n<;>exact go0 (aj1 (CQ_ c s.n)) aj0 (aj4 hl h1 h2 @GN_.eq_1)
def Jd_ : Ann:=⟨[],[⟨1,[3],[],[]⟩,⟨5,[6],[],[]⟩]⟩
set_option maxHeartbeats 4000000 in
theorem Gk_ (c:Cnf):Ac_ Tryz.prog 43 [.agg (dCnf c)] (.int .i64 (if By_ c then 0 else 220)):=by
 refine Aa_ [] Jd_ Tryz.func43 Tryz.call43 Tryz.ntmps43 mxd (aj2 @Jd_.eq_1 Tryz.results43) rfl (by simp) (by simp[mx]) fun hwf B hnt hgAnn=> ?_
 have hw:wCnf c:=w_cnf (by simpa[wfL,wfD]using hwf.1);obtain⟨hw1,hw2,hw3,hw4⟩:=hw;clear hwf hw1;simp only[argS]
 have GG_:∀k,(hk:k<c.prods.length)→(c.prods.take (k+1)).all (CL_ c)=((c.prods.take k).all (CL_ c)&&CL_ c c.prods[k]):=by
  intro k hk;rw[cP0 hk,List.all_append];simp
 obtain⟨b0,hb0⟩:∃b0:Bool,b0=(decide (1≤c.nts)&&decide (c.nts≤1024)):=⟨_,rfl⟩;have hfin:By_ c=(b0&&c.prods.all (CL_ c)):=by rw[hb0];rfl
 by_cases h1:1≤c.nts<;>by_cases h2:c.nts≤1024<;>simp only[h1,h2,decide_true,decide_false,fC0,Bool.and_false]at hb0<;>(repeat (first | refine Ax_ fun K hK=> ?_ | (refine DW_r Jd_ mxd (by kernel_rfl) ?_;simp[Jd_,hnt,dCnf,h1,h2];try simp (disch:=omega) only[Ah_]) | refine An_ ?_ | (refine AW_ ?_ ?_ ?_;(· (simp[hnt,dCnf,h1,h2];done));(try (rotate_left;(· (intro hc;(try simp[hnt,dCnf,h1,h2]at hc);done))))) | (refine AC_ ?_;simp[Tryz.results43,hnt,dCnf,h1,h2]) | ((first | refine Ar_ ?_ | refine Aq_ ?_);simp[hnt,dCnf,h1,h2]) | (intro hc;(try simp[hnt,dCnf,h1,h2]at hc);(try (exfalso;omega))) | (refine⟨?_,?_⟩; · omega) | omega | apply_assumption -exfalso -symm | (exfalso;omega)))
 all_goals
  refine Ad_ (X:={k:Nat//k≤c.prods.length}) (fun k=>⟨[(1,.ref [.int .i64 c.nts,BB_ c.prods]),(3,.ref [dNt c]),(4,.bool (b0&&(c.prods.take k.1).all (CL_ c))),(17,BB_ c.prods),(18,.int .i64 c.prods.length),(19,.int .i64 k.1)],[]⟩) (fun k=>c.prods.length-k.1) ⟨0,by simp⟩ (Sub.lit (by simp[hb0])) ?_;rintro⟨k,hk⟩
  by_cases hlt:k<c.prods.length
  ·obtain⟨p,hp,hp',hpm⟩:=Aj_ hlt;have hst:=GG_ k hlt;rw[hp']at hst;obtain⟨b,hb⟩:∃b:Bool,b=(b0&&(c.prods.take k).all (CL_ c)):=⟨_,rfl⟩;have hb1:(b0&&(c.prods.take (k+1)).all (CL_ c))=(b&&CL_ c p):=by rw[hst,hb,Bool.and_assoc]
   have hq:=Hq_ 128 [] [.ref [dNt c]] p.body (GN_ c) (fun x _=>TZ_ c x);simp only[←hb];cases b
   ·(refine go1 (aj2 (CQ_ c p.head) hq) aj0 (aj5 @dCnf.eq_1 @Am_.eq_1 hlt hp' hb1) ?_;intros;refine mk_i ?_)
    refine Ai_.mk ⟨k+1,by omega⟩ (Sub.lit (by simp[hb1])) (by simp;omega)
    skip
   ·cases hn:ntOK c p.head
    ·(refine go1 (aj2 (CQ_ c p.head) hq) aj0 (aj6 @dCnf.eq_1 @Am_.eq_1 hlt hp' hb1 hn) ?_;intros;refine mk_i ?_)
     refine Ai_.mk ⟨k+1,by omega⟩ (Sub.lit (by simp[hb1,CL_,hn])) (by simp;omega)
     skip
    ·cases ha:p.body.any (GN_ c)
     ·rw[ha]at hq
      (refine go1 (aj2 (CQ_ c p.head) hq) aj0 (aj7 @dCnf.eq_1 @Am_.eq_1 hlt hp' hb1 hn ha) ?_;intros;refine mk_i ?_)
      refine Ai_.mk ⟨k+1,by omega⟩ (Sub.lit (by simp[hb1,CL_,hn,ha])) (by simp;omega)
      skip
     ·rw[ha]at hq
      (refine go1 (aj2 (CQ_ c p.head) hq) aj0 (aj7 @dCnf.eq_1 @Am_.eq_1 hlt hp' hb1 hn ha) ?_;intros;refine mk_i ?_)
      refine Ai_.mk ⟨k+1,by omega⟩ (Sub.lit (by simp[hb1,CL_,hn,ha])) (by simp;omega)
      skip
  ·have hkk:k=c.prods.length:=by omega
   subst hkk;rw[aS0]at *;cases hcn:By_ c<;>rw[hcn]at hfin<;>(repeat (first | refine Ax_ fun K hK=> ?_ | (refine DW_r Jd_ mxd (by kernel_rfl) ?_;simp[Jd_,hnt,dCnf,hcn,←hfin];try simp (disch:=omega) only[Ah_]) | refine An_ ?_ | (refine AW_ ?_ ?_ ?_;(· (simp[hnt,dCnf,hcn,←hfin];done));(try (rotate_left;(· (intro hc;(try simp[hnt,dCnf,hcn,←hfin]at hc);done))))) | (refine AC_ ?_;simp[Tryz.results43,hnt,dCnf,hcn,←hfin]) | ((first | refine Ar_ ?_ | refine Aq_ ?_);simp[hnt,dCnf,hcn,←hfin]) | (intro hc;(try simp[hnt,dCnf,hcn,←hfin]at hc);(try (exfalso;omega))) | (refine⟨?_,?_⟩; · omega) | omega | apply_assumption -exfalso -symm | (exfalso;omega)))
end Go.Proofs.YtchgnpnbcjflcaaGreat
end
section
namespace Go.Proofs.YtchgnpnbcjflcaaGreat
open Go Go.Dm
variable [DMode]
def nS (n:Int):Sym:=⟨false,n⟩
def Fm_ : List (Int×Int)→Int→Option Int
 | [],_=>none
 | (k,h)::l,a=>if a=k then some h else Fm_ l a
def Mk.sym (m:Mk) (s:Sym):Mk×Int :=
 if s.label then match Fm_ m.hs s.n with
  | some h=>(m,h)
  | none=>({ m with nts:=m.nts+1,hs:=m.hs++[(s.n,m.nts)],prods:=m.prods++[⟨m.nts,[s]⟩] },m.nts)
 else (m,s.n)
def Mk.syms (m:Mk):List Sym→Mk×List Int
 | []=>(m,[])
 | s::l=>(((m.sym s).1.syms l).1,(m.sym s).2::((m.sym s).1.syms l).2)
def DO_ (nts head:Int):List Int→List Prod
 | []=>[]
 | [_]=>[]
 | [a,b]=>[⟨head,[nS a,nS b]⟩]
 | a::b::c::r=>⟨head,[nS a,nS nts]⟩::DO_ (nts+1) nts (b::c::r)
def Mk.chain (m:Mk) (h:Int) (ns:List Int):Mk:={ m with nts:=m.nts+(ns.length-2:Nat),prods:=m.prods++DO_ m.nts h ns }
def Mk.add (m:Mk) (p:Prod):Mk :=
 if Ay_ p.body=1∨Ay_ p.body=2 then m.put p.head p.body
 else if p.body.length=1 then (m.syms p.body).1.nothing.chain p.head ((m.syms p.body).2++[(m.syms p.body).1.nothing.no])
 else (m.syms p.body).1.chain p.head (m.syms p.body).2
def Mk.adds : Mk→List Prod→Option Mk
 | m,[]=>some m
 | m,p::l=>if 1024<(m.add p).nts then none else (m.add p).adds l
theorem JT_ (m:Mk) (l:List Sym):(m.syms l).2.length=l.length:=by
 induction l generalizing m with
 | nil=>rfl
 | cons s l ih=>simp[Mk.syms,ih]
theorem NB_ : ∀(l:List Int) (nts head:Int),(DO_ nts head l).length=l.length-1
 | [],_,_=>rfl
 | [_],_,_=>rfl
 | [_,_],_,_=>rfl
 | _::b::c::r,_,_=>by simp[DO_,NB_ (b::c::r)]
def Mk.gap (m:Mk):Int:=(m.prods.length:Int)-m.nts
theorem sym_gap (m:Mk) (s:Sym):(m.sym s).1.gap=m.gap∧m.nts≤(m.sym s).1.nts∧(m.sym s).1.nts≤m.nts+1:=by
 unfold Mk.sym
 split
 ·split
  ·exact⟨rfl,Int.le_refl _,Int.le_add_of_nonneg_right (by decide)⟩
  ·simp only[Mk.gap,aD0,List.length_cons,List.length_nil];exact⟨by omega,by omega,by omega⟩
 ·exact⟨rfl,Int.le_refl _,Int.le_add_of_nonneg_right (by decide)⟩
theorem HH_ (l:List Sym):∀(m:Mk),(m.syms l).1.gap=m.gap∧m.nts≤(m.syms l).1.nts∧(m.syms l).1.nts≤m.nts+l.length:=by
 induction l with
 | nil=>intro m;simp[Mk.syms]
 | cons s l ih =>
  intro m;obtain⟨h1,h2,h3⟩:=sym_gap m s;obtain⟨h4,h5,h6⟩:=ih (m.sym s).1;simp only[Mk.syms,List.length_cons];exact⟨by omega,by omega,by omega⟩
theorem Hi_ (m:Mk):m.nothing.gap=m.gap∧m.nts≤m.nothing.nts∧m.nothing.nts≤m.nts+1:=by
 unfold Mk.nothing
 split
 ·simp only[Mk.gap,aD0,List.length_cons,List.length_nil];exact⟨by omega,by omega,by omega⟩
 ·exact⟨rfl,Int.le_refl _,Int.le_add_of_nonneg_right (by decide)⟩
theorem Sa_ (m:Mk) (h:Int) (ns:List Int) (hl:2≤ns.length):(m.chain h ns).gap=m.gap+1∧(m.chain h ns).nts=m.nts+ns.length-2:=by
 simp only[Mk.chain,Mk.gap,aD0,NB_];exact⟨by omega,by omega⟩
theorem VJ_ {l:List Sym} (h1:¬Ay_ l=1) (h2:¬Ay_ l=2):1≤l.length:=by
 cases l with
 | nil=>exact absurd rfl h1
 | cons s l=>simp
theorem PU_ (m:Mk) (p:Prod):(m.add p).gap=m.gap+1∧m.nts≤(m.add p).nts∧(m.nts+p.body.length-2≤(m.add p).nts)∧(m.add p).nts≤m.nts+2*p.body.length+1:=by
 obtain⟨h1,h2,h3⟩:=HH_ p.body m;have h0:=JT_ m p.body;unfold Mk.add
 split
 ·rename_i hf
  have hl:p.body.length≤1:=by
   match hb:p.body with
   | []=>simp
   | [s]=>simp
   | [s,t]=>rw[hb]at hf;simp only[Ay_]at hf;split at hf<;>simp at hf
   | s::t::u::r=>rw[hb]at hf;simp[Ay_]at hf
  simp only[Mk.put,Mk.gap,aD0,List.length_cons,List.length_nil];exact⟨by omega,by omega,by omega,by omega⟩
 ·rename_i hf;have hl:=VJ_ (fun h=>hf (.inl h)) (fun h=>hf (.inr h))
  split
  ·rename_i h4;obtain⟨g1,g2,g3⟩:=Hi_ (m.syms p.body).1;obtain⟨c1,c2⟩:=Sa_ (m.syms p.body).1.nothing p.head ((m.syms p.body).2++[(m.syms p.body).1.nothing.no]) (by simp;omega);simp only[aD0,List.length_cons,List.length_nil]at c2;exact⟨by omega,by omega,by omega,by omega⟩
  ·obtain⟨c1,c2⟩:=Sa_ (m.syms p.body).1 p.head (m.syms p.body).2 (by omega);exact⟨by omega,by omega,by omega,by omega⟩
end Go.Proofs.YtchgnpnbcjflcaaGreat
end
section
namespace Go.Proofs.YtchgnpnbcjflcaaGreat
open Go Go.Dm
variable [DMode]
attribute [local irreducible] DW AV_ AZ_
set_option maxRecDepth 100000

@[local simp] theorem mx_rev (l:List Sym):mxR (l.map dSym).reverse=0:=by rw[←List.map_reverse];exact mx_dSyms _
def Xb_ : Ann:=⟨[],[]⟩
theorem Zi_ (c:Cnf):Ac_ Tryz.prog 144 [.agg (dCnf c)] (if By_ c then .tup [.agg (dCnf (Bu_ c)),.int .i64 0]else .tup [.agg [.int .i64 0,.nilsl],.int .i64 220]):=by
 refine Aa_ [] Xb_ Tryz.func144 Tryz.call144 Tryz.ntmps144 mxd (aj2 @Xb_.eq_1 Tryz.results144) rfl (by simp) (by cases By_ c<;>simp[mx,dCnf]) fun hwf B hnt hgAnn=> ?_
 simp only[argS];have h1:=Gk_ c;have h2:=KJ_ c;cases hb:By_ c
 ·rw[hb]at h1;exact go0 (aj2 h1 h2) aj0 (aj1 @dCnf.eq_1)
 ·rw[hb]at h1;exact go0 (aj2 h1 h2) aj0 (aj1 @dCnf.eq_1)

end Go.Proofs.YtchgnpnbcjflcaaGreat
end
section
namespace Go.Proofs.YtchgnpnbcjflcaaGreat
open Go Go.Dm
variable [DMode]
attribute [local irreducible] DW AV_ AZ_

end Go.Proofs.YtchgnpnbcjflcaaGreat
end
section
namespace Go.Proofs.YtchgnpnbcjflcaaGreat
open Go Go.Dm
variable [DMode]
attribute [local irreducible] DW AV_ AZ_
set_option maxRecDepth 100000
def Kt_ : Ann:=⟨[],[]⟩
theorem JK_ (g:FuncId) (us cs:List DVal) (l:List Prod) (q:Prod→Bool) (hq:∀x∈l,Ac_ Tryz.prog g (us++[.agg (Am_ x)]++cs) (.bool (q x))) :
  Ac_ Tryz.prog 219 [BB_ l,.fn (.func g) us cs] (.int .i64 (if l.any q then ((l.findIdx q:Nat):Int)else -1)):=by
 refine Aa_ [] Kt_ Tryz.func219 Tryz.call219 Tryz.ntmps219 mxd (aj2 @Kt_.eq_1 Tryz.results219) rfl (by simp) (by simp[mx]) fun hwf B hnt hgAnn=> ?_
 have hw:wProds l:=w_prods hwf.1;obtain⟨hw1,hw2,hw3⟩:=hw;clear hwf hw3;simp only[argS]
 (refine go1 aj0 aj0 aj0 ?_;intros;refine mk_i ?_)
 refine Ad_ (X:={k:Nat//k≤l.length∧∀i x,i<k→l[i]? =some x→q x=false}) (fun x=>⟨[(0,BB_ l),(1,.fn (.func g) us cs),(7,.int .i64 l.length),(8,.int .i64 x.1)],[]⟩) (fun x=>l.length-x.1) ⟨0,by simp⟩ (Sub.lit (by simp)) ?_;rintro⟨k,hk,hno⟩
 by_cases hlt:k<l.length
 ·obtain⟨x,hx,hx',hxm⟩:=Aj_ hlt;have hqx:=hq x hxm;simp only[Am_,aT0,List.cons_append,List.nil_append]at hqx;cases hb:q x
  ·rw[hb]at hqx
   have hno':∀i y,i<k+1→l[i]? =some y→q y=false:=by
    intro i y hi hy
    by_cases hik:i=k
    ·subst hik;rw[hx]at hy;simp only[aA0]at hy;subst hy;exact hb
    ·exact hno i y (by omega) hy
   (refine go1 (aj1 hqx) aj0 (aj3 @Am_.eq_1 hlt hx') ?_;intros;refine mk_i ?_)
   exact Ai_.mk ⟨k+1,by omega,hno'⟩ (Sub.lit (by simp[])) (by simp;omega)
   skip
  ·rw[hb]at hqx;have hany:l.any q=true:=cF0.2 ⟨x,hxm,hb⟩
   have hidx:l.findIdx q=k:=by
    rw[eQ0 hlt];refine⟨by rw[hx'];exact hb,fun i hi=> ?_⟩;exact hno i _ hi (aH0 (by omega))
   exact go0 (aj1 hqx) aj0 (aj5 @Am_.eq_1 hlt hx' hany hidx)
 ·have hkk:k=l.length:=by omega
  have hany:l.any q=false:=by
   rw[cS0];intro x hx;obtain⟨i,hi,rfl⟩:=bJ0 hx;rw[hno i _ (by omega) (aH0 hi)];simp
  (repeat (first | refine Ax_ fun K hK=> ?_ | (refine DW_r Kt_ mxd (by kernel_rfl) ?_;simp[Kt_,hnt,Am_,hkk,hany];try simp (disch:=omega) only[Ah_]) | refine An_ ?_ | (refine AW_ ?_ ?_ ?_;(· (simp[hnt,Am_,hkk,hany];done));(try (rotate_left;(· (intro hc;(try simp[hnt,Am_,hkk,hany]at hc);done))))) | (refine AC_ ?_;simp[Tryz.results219,hnt,Am_,hkk,hany]) | ((first | refine Ar_ ?_ | refine Aq_ ?_);simp[hnt,Am_,hkk,hany]) | (intro hc;(try simp[hnt,Am_,hkk,hany]at hc);(try (exfalso;omega))) | ((first | refine Ag_ (hqx) ?_ | (refine Af_ (hqx) ?_ ?_;(· (simp;done))));try simp[hnt,Am_,hkk,hany]) | (refine⟨?_,?_⟩; · omega) | omega | apply_assumption -exfalso -symm | (exfalso;omega)))
def WX_ : Ann:=⟨[],[]⟩
theorem Hr_ (g:FuncId) (us cs:List DVal) (l:List Prod) (q:Prod→Bool) (hq:∀x∈l,Ac_ Tryz.prog g (us++[.agg (Am_ x)]++cs) (.bool (q x))) :
  Ac_ Tryz.prog 149 [BB_ l,.fn (.func g) us cs] (.bool (l.any q)):=by
 refine Aa_ [] WX_ Tryz.func149 Tryz.call149 Tryz.ntmps149 mxd (aj2 @WX_.eq_1 Tryz.results149) rfl (by simp) (by simp[mx]) fun hwf B hnt hgAnn=> ?_
 simp only[argS];have hi:=JK_ g us cs l q hq;have hge:(0:Int)≤(l.findIdx q:Nat):=by omega
 cases hb:l.any q
 ·rw[hb]at hi;exact go0 (aj1 hi) aj0 (aj1 hb)
 ·rw[hb]at hi;exact go0 (aj1 hi) aj0 (aj1 hb)
def FH_ (p:Prod):Bool:=Ay_ p.body==0
def FO_ (c:Cnf):Bool:=By_ c&& !c.prods.any FH_
def Xe_ : Ann:=⟨[],[]⟩
theorem is1_pure (p:Prod):Ac_ Tryz.prog 150 [.agg (Am_ p)] (.bool (FH_ p)):=by
 refine Aa_ [] Xe_ Tryz.func150 Tryz.call150 Tryz.ntmps150 mxd (aj2 @Xe_.eq_1 Tryz.results150) rfl (by simp) (by simp[mx]) fun hwf B hnt hgAnn=> ?_
 simp only[argS];exact go0 (aj1 (OA_ p.body)) aj0 (aj2 @Am_.eq_1 @FH_.eq_1)
def anW1358 : Ann:=⟨[],[]⟩
theorem is_pure (c:Cnf):Ac_ Tryz.prog 58 [.agg (dCnf c)] (.bool (FO_ c)):=by
 refine Aa_ [] anW1358 Tryz.func58 Tryz.call58 Tryz.ntmps58 mxd (aj2 @anW1358.eq_1 Tryz.results58) rfl (by simp) (by simp[mx]) fun hwf B hnt hgAnn=> ?_
 simp only[argS];have hq:=Hr_ 150 [] [] c.prods FH_ (fun x _=>is1_pure x);have hc:=Gk_ c;simp only[dCnf]at hc;cases h1:By_ c
 ·rw[h1]at hc;exact go0 (aj2 hc hq) aj0 (aj3 @dCnf.eq_1 @FO_.eq_1 h1)
 ·rw[h1]at hc;cases h2:c.prods.any FH_
  ·rw[h2]at hq;exact go0 (aj2 hc hq) aj0 (aj4 @dCnf.eq_1 @FO_.eq_1 h1 h2)
  ·rw[h2]at hq;exact go0 (aj2 hc hq) aj0 (aj4 @dCnf.eq_1 @FO_.eq_1 h1 h2)

theorem Ac_.wkT {P:Program} {f:FuncId} {args ds es:List DVal} (h:Ac_ P f args (.tup ds)) (hw:wkA ds es) (hd:mx (.tup es)=0):Ac_ P f args (.tup es):=by
 refine⟨h.1,hd,fun cur M w vs hM hr=>(h.2.2 cur M w vs hM hr).mono fun e w' ⟨v,h1,h2,h3⟩=>⟨v,h1,h2,?_⟩⟩;simp only[rd]at h3 ⊢;obtain⟨us,rfl,h4⟩:=h3;exact⟨us,rfl,UJ_ hw h4⟩
def cnf0 : Cnf:=⟨0,[]⟩
theorem TJ_ (c:Cnf):Ac_ Tryz.prog 144 [.agg (dCnf c)] (.tup [.agg (dCnf (if By_ c then Bu_ c else cnf0)),.int .i64 (if By_ c then 0 else 220)]):=by
 have h:=Zi_ c;cases hb:By_ c<;>rw[hb]at h
 ·exact Ac_.wkT h (by simp[cnf0,dCnf,BB_]) (by simp[mx])
 ·exact h

theorem Ka_ (c:Cnf) (p:Prod):p∈(Bu_ c).prods↔p∈c.prods:=by
 have h:=(Dg_ Hh_ (Cq_ Hh_ c.prods)).2 p;simp only[Bu_];rw[h,(Dz_ _ _).mem_iff]
theorem Nx_ (c:Cnf):By_ (Bu_ c)=By_ c:=by
 have h:(Bu_ c).prods.all (CL_ (Bu_ c))=c.prods.all (CL_ c):=by
  rw[Bool.eq_iff_iff,aX0,aX0];have e:CL_ (Bu_ c)=CL_ c:=rfl;rw[e];exact⟨fun hh p hp=>hh p ((Ka_ c p).2 hp),fun hh p hp=>hh p ((Ka_ c p).1 hp)⟩
 simp only[By_];rw[h];rfl
theorem norm_norm (c:Cnf):Bu_ (Bu_ c)=Bu_ c:=by
 simp only[Bu_,Cnf.mk.injEq,true_and];exact norm_idem Hh_ c.prods
theorem Vf_ (c:Cnf):(Bu_ c).prods.length≤c.prods.length:=by
 have h:=compL_len (e:=fun p q=>Fl_ p q==0) (Fu_ Fl_ c.prods);rw[(Dz_ _ _).length_eq]at h;exact h
theorem look_some {l:List (Int×Int)} {a h:Int}:Fm_ l a=some h→∃j,AJ_ (l.map dKey) (.int .i64 a)=some j∧(l.map FM_).getD j .any= .int .i64 h:=by
 induction l with
 | nil=>simp[Fm_]
 | cons p l ih =>
  obtain⟨k,g⟩:=p;simp only[Fm_,List.map_cons,AJ_];intro hh
  by_cases hk:a=k
  ·rw[if_pos hk]at hh;simp only[aA0]at hh;subst hh;subst hk;exact⟨0,by simp[dKey,Bq_,eqCs],by simp[FM_]⟩
  ·rw[if_neg hk]at hh;obtain⟨j,h1,h2⟩:=ih hh;exact⟨j+1,by simp[dKey,Bq_,eqCs,hk,h1],by simpa using h2⟩
theorem look_none {l:List (Int×Int)} {a:Int}:Fm_ l a=none→AJ_ (l.map dKey) (.int .i64 a)=none:=by
 induction l with
 | nil=>simp[AJ_]
 | cons p l ih =>
  obtain⟨k,g⟩:=p;simp only[Fm_,List.map_cons,AJ_];intro hh
  by_cases hk:a=k
  ·rw[if_pos hk]at hh;simp at hh
  ·rw[if_neg hk]at hh;simp[dKey,Bq_,eqCs,hk,ih hh]
def Df_ (n:Int):List DVal:=[.int .i64 n]
@[simp] theorem mx_int1 (n:Int):mxL (Df_ n)=0:=by simp[Df_,mxL,mx]
@[simp] theorem mx_ints (l:List Int):mxR (l.map Df_)=0:=mxR0 _ (fun x=>by simp[Df_,mxL,mx]) l
def Gt_ : Ann:=⟨[34,46],[⟨4,[7],[],[]⟩]⟩
set_option maxHeartbeats 4000000 in
theorem Vd_ (m:Mk) (l:List Sym) (h1: -9223372036854775808≤m.nts) (h2:m.nts+l.length+1≤9223372036854775807) (h3:(m.prods.length+l.length+1)*32≤150000000000000) :
  AL_ Tryz.prog (.func 214) [.bx 0 0 0,Bk_ l] (dMk 0 m) (.osl 3 1) (dMk 1 (m.syms l).1++[⟨3,1,.row 3 1 8 ((m.syms l).2.map Df_)⟩]):=by
 refine AR_ [] [(0,0,0),(1,1,1),(2,2,0),(50,3,1)] Gt_ Tryz.func214 Tryz.call214 Tryz.ntmps214 mxd (aj2 @Gt_.eq_1 Tryz.results214) rfl (by simp) (by simp) (by simp[dMk]) fun hwf B hnt hgAnn=> ?_
 simp only[argS]
 (refine go1 aj0 aj0 (aj1 @dMk.eq_1) ?_;intros;refine mk_i ?_)
 refine Bn_ 5 50 3 1 8 (by simp[hnt,Tryz.ntmps214]) (fun n=> ?_)
 refine Ad_ (X:={x:Nat×Mk×List Int//x.1≤l.length∧((x.2.1.syms (l.drop x.1)).1,x.2.2++(x.2.1.syms (l.drop x.1)).2)=m.syms l∧m.nts≤x.2.1.nts∧x.2.1.nts≤m.nts+x.1∧x.2.1.prods.length≤m.prods.length+x.1∧x.2.2.length=x.1})
  (fun x=>⟨[(0,.bx 0 0 0),(5,.osl 50 1),(11,Bk_ l),(12,.int .i64 l.length),(13,.int .i64 x.1.1)],dMk 1 x.1.2.1++[⟨50,1,.row 3 1 8 (x.1.2.2.map Df_)⟩]⟩) (fun x=>l.length-x.1.1) ⟨(0,m,[]),by simp⟩ (Sub.lit (by simp[dMk])) ?_
 rintro⟨⟨k,m1,acc⟩,hk,hR,b1,b2,b3,b4⟩;simp only at hk hR b1 b2 b3 b4 ⊢
 by_cases hlt:k<l.length
 ·obtain⟨s,hs,hs',hsm⟩:=Aj_ hlt;rw[aR0 hlt,hs']at hR;simp only[Mk.syms]at hR
  have hz:(acc.length+1)*8≤150000000000000:=by
   have h4:(m.prods.length+l.length+1)*8≤(m.prods.length+l.length+1)*32:=cD0 _ (by omega);have h5:(acc.length+1)*8≤(m.prods.length+l.length+1)*8:=aV0 _ (by omega);omega
  have hz2:acc.length≤9223372036854775806:=by omega
  cases hl:s.label
  ·have hsym:m1.sym s=(m1,s.n):=by unfold Mk.sym;simp[hl]
   rw[hsym]at hR
   (refine go1 aj0 aj0 (aj7 @dMk.eq_1 @dSym.eq_1 hlt hs' hl hz hz2) ?_;intros;refine mk_i ?_)
   refine Ai_.mk ⟨(k+1,m1,acc++[s.n]),show k+1≤l.length∧_∧m.nts≤m1.nts∧m1.nts≤m.nts+((k+1:Nat):Int)∧m1.prods.length≤m.prods.length+(k+1)∧(acc++[s.n]).length=k+1 from ⟨by omega,by simpa using hR,b1,by omega,by omega,by simp;omega⟩⟩ (Sub.lit (by simp[dMk,Df_])) (by simp;omega)
   skip
  ·cases hlk:Fm_ m1.hs s.n with
   | some h =>
    have hsym:m1.sym s=(m1,h):=by unfold Mk.sym;simp[hl,hlk]
    rw[hsym]at hR;obtain⟨j,hj1,hj2⟩:=look_some hlk;simp only[bH0,bM0]at hj2
    (repeat (first | refine Ax_ fun K hK=> ?_ | (refine DW_r Gt_ mxd (by kernel_rfl) ?_;simp[Gt_,hnt,dMk,dSym,hlt,hs',hl,hz,hz2,hj1,hj2,dKey,Bm_];try simp (disch:=omega) only[Ah_]) | refine An_ ?_ | (refine AW_ ?_ ?_ ?_;(· (simp[hnt,dMk,dSym,hlt,hs',hl,hz,hz2,hj1,hj2,dKey,Bm_];done));(try (rotate_left;(· (intro hc;(try simp[hnt,dMk,dSym,hlt,hs',hl,hz,hz2,hj1,hj2,dKey,Bm_]at hc);done))))) | (refine AC_ ?_;simp[Tryz.results214,hnt,dMk,dSym,hlt,hs',hl,hz,hz2,hj1,hj2,dKey,Bm_]) | ((first | refine Ar_ ?_ | refine Aq_ ?_);simp[hnt,dMk,dSym,hlt,hs',hl,hz,hz2,hj1,hj2,dKey,Bm_]) | (intro hc;(try simp[hnt,dMk,dSym,hlt,hs',hl,hz,hz2,hj1,hj2,dKey,Bm_]at hc);(try (exfalso;omega))) | (refine⟨?_,?_⟩; · omega) | omega | apply_assumption -exfalso -symm | (exfalso;omega)))
    refine Ai_.mk ⟨(k+1,m1,acc++[h]),show k+1≤l.length∧_∧m.nts≤m1.nts∧m1.nts≤m.nts+((k+1:Nat):Int)∧m1.prods.length≤m.prods.length+(k+1)∧(acc++[h]).length=k+1 from ⟨by omega,by simpa using hR,b1,by omega,by omega,by simp;omega⟩⟩ (Sub.lit (by simp[dMk,Df_])) (by simp;omega)
    skip
   | none =>
    have hsym:m1.sym s=({ m1 with nts:=m1.nts+1,hs:=m1.hs++[(s.n,m1.nts)],prods:=m1.prods++[⟨m1.nts,[s]⟩] },m1.nts):=by unfold Mk.sym;simp[hl,hlk]
    rw[hsym]at hR;have hj:=look_none hlk;have e1:=ET_ m1 (by omega) (by omega);have e2:=Ga_ { m1 with nts:=m1.nts+1,hs:=m1.hs++[(s.n,m1.nts)] } m1.nts [⟨true,s.n⟩] (Nat.le_trans (aV0 32 (show m1.prods.length+1≤m.prods.length+l.length+1 by omega)) h3)
    (repeat (first | refine Ax_ fun K hK=> ?_ | (refine DW_r Gt_ mxd (by kernel_rfl) ?_;simp[Gt_,hnt,dMk,dSym,hlt,hs',hl,hz,hz2,hj,dKey,FM_,Bm_];try simp (disch:=omega) only[Ah_]) | refine An_ ?_ | (refine AW_ ?_ ?_ ?_;(· (simp[hnt,dMk,dSym,hlt,hs',hl,hz,hz2,hj,dKey,FM_,Bm_];done));(try (rotate_left;(· (intro hc;(try simp[hnt,dMk,dSym,hlt,hs',hl,hz,hz2,hj,dKey,FM_,Bm_]at hc);done))))) | (refine AC_ ?_;simp[Tryz.results214,hnt,dMk,dSym,hlt,hs',hl,hz,hz2,hj,dKey,FM_,Bm_]) | ((first | refine Ar_ ?_ | refine Aq_ ?_);simp[hnt,dMk,dSym,hlt,hs',hl,hz,hz2,hj,dKey,FM_,Bm_]) | (intro hc;(try simp[hnt,dMk,dSym,hlt,hs',hl,hz,hz2,hj,dKey,FM_,Bm_]at hc);(try (exfalso;omega))) | (refine Au_ [(0,0),(1,1),(2,2)] [] (e1) ?_ ?_;(· (simp[hnt,dMk,dSym,hlt,hs',hl,hz,hz2,hj,dKey,FM_,Bm_];done));(intro _;try simp[hnt,dMk,dSym,hlt,hs',hl,hz,hz2,hj,dKey,FM_,Bm_])) | (refine Au_ [(0,0),(1,1),(2,2)] [] (e2) ?_ ?_;(· (simp[hnt,dMk,dSym,hlt,hs',hl,hz,hz2,hj,dKey,FM_,Bm_];done));(intro _;try simp[hnt,dMk,dSym,hlt,hs',hl,hz,hz2,hj,dKey,FM_,Bm_])) | (refine⟨?_,?_⟩; · omega) | omega | apply_assumption -exfalso -symm | (exfalso;omega)))
    refine Ai_.mk ⟨(k+1,{ m1 with nts:=m1.nts+1,hs:=m1.hs++[(s.n,m1.nts)],prods:=m1.prods++[⟨m1.nts,[s]⟩] },acc++[m1.nts]),show k+1≤l.length∧_∧m.nts≤m1.nts+1∧m1.nts+1≤m.nts+((k+1:Nat):Int)∧(m1.prods++[(⟨m1.nts,[s]⟩:Prod)]).length≤m.prods.length+(k+1)∧(acc++[m1.nts]).length=k+1 from ⟨by omega,by simpa using hR,by omega,by omega,by simp;omega,by simp;omega⟩⟩ (Sub.lit (by simp[dMk,Df_,Am_,dSym,hl,dKey,FM_])) (by simp;omega)
    skip
 ·have hkk:k=l.length:=by omega
  subst hkk;rw[cB0]at hR;simp only[Mk.syms,bP0]at hR
  (refine go1 aj0 aj0 (aj1 @dMk.eq_1) ?_;intros;refine mk_i ?_)
  rw[←hR];exact⟨⟨rfl,rfl⟩,rfl,⟨rfl,rfl⟩,rfl⟩
def tlC (m:Mk) (h:Int) (k:Nat):List Int:=h::(List.range k).map fun i:Nat=>m.nts+(i:Int)
theorem tlC_len (m:Mk) (h:Int) (k:Nat):(tlC m h k).length=k+1:=by simp[tlC]
theorem tlC_succ (m:Mk) (h:Int) (k:Nat):tlC m h (k+1)=tlC m h k++[m.nts+k]:=by simp[tlC,dA0]
theorem tlC_at (m:Mk) (h:Int) (k i:Nat) (hi:i<k):(tlC m h k)[i+1]? =some (m.nts+i):=by simp[tlC,hi]
theorem drop3 {ns:List Int} {i:Nat} {a b:Int} (hi:i+2<ns.length) (ha:ns[i]? =some a):∀nts head,DO_ nts head (ns.drop i)=⟨head,[nS a,nS nts]⟩::DO_ (nts+1) nts (ns.drop (i+1)):=by
 intro nts head;obtain⟨h1,rfl⟩:=aB0.1 ha;rw[aR0 h1,aR0 (show i+1<ns.length by omega),aR0 (show i+1+1<ns.length by omega)];rfl
theorem drop2 {ns:List Int} {i:Nat} {a b:Int} (hi:i+2=ns.length) (ha:ns[i]? =some a) (hb:ns[i+1]? =some b):∀nts head,DO_ nts head (ns.drop i)=[⟨head,[nS a,nS b]⟩]:=by
 intro nts head;obtain⟨h1,rfl⟩:=aB0.1 ha;obtain⟨h2,rfl⟩:=aB0.1 hb;rw[aR0 h1,aR0 h2,cZ0 (by omega)];rfl
def Ks_ : Ann:=⟨[12,22,52,71],[]⟩
set_option maxHeartbeats 4000000 in
theorem NA_ (m:Mk) (h:Int) (ns:List Int) (h0:2≤ns.length) (h1: -9223372036854775808≤m.nts) (h2:m.nts+ns.length≤9223372036854775807) (h3:(m.prods.length+ns.length+1)*32≤150000000000000) :
  AL_ Tryz.prog (.func 216) [.bx 0 0 0,.int .i64 h,.sl 1 8 (ns.map Df_)] (dMk 0 m) (.tup []) (dMk 1 (m.chain h ns)):=by
 refine AR_ [] [(0,0,0),(1,1,1),(2,2,0)] Ks_ Tryz.func216 Tryz.call216 Tryz.ntmps216 mxd (aj2 @Ks_.eq_1 Tryz.results216) rfl (by simp) (by simp) (by simp[dMk]) fun hwf B hnt hgAnn=> ?_
 simp only[argS];obtain⟨q,hq⟩:∃q,ns.length=q+2:=⟨ns.length-2,by omega⟩;rw[hq]at h2 h3;have hw:IntKind.i64.wrap (q:Int)=q:=wq;have hq1:((q:Int)+2-2)=q:=by omega
 (refine go1 aj0 aj0 (aj4 @dMk.eq_1 hw hq hq1) ?_;intros;refine mk_i ?_)
 refine Ad_ (X:={k:Nat//k≤q}) (fun k=>⟨[(0,.bx 0 0 0),(1,.int .i64 h),(2,.sl 1 8 (ns.map Df_)),(6,.osl 12 1),(7,.fn (.func 299) [.bx 0 0 0] []),(17,.int .i64 q),(18,.int .i64 k.1)],dMk 1 { m with nts:=m.nts+k.1 }++[⟨12,1,.row 3 1 8 ((tlC m h k.1).map Df_)⟩]⟩)
  (fun k=>q-k.1) ⟨0,by omega⟩ (Sub.lit (by simp[dMk,tlC,Df_])) ?_
 rintro⟨k,hk⟩
 have hz:(k+1+1)*8≤150000000000000:=by
  have h4:(m.prods.length+(q+2)+1)*8≤(m.prods.length+(q+2)+1)*32:=cD0 _ (by omega);have h5:(k+1+1)*8≤(m.prods.length+(q+2)+1)*8:=aV0 _ (by omega);exact Nat.le_trans h5 (Nat.le_trans h4 h3)
 by_cases hlt:k<q
 ·have e1:=ET_ { m with nts:=m.nts+k } (by simp only;omega) (by simp only;omega);have hz2:k+1≤9223372036854775806:=by omega
  have htl:=tlC_succ m h k
  (refine go1 aj0 (aj1 (spc [(0,0),(1,1),(2,2)] [] e1)) (aj5 @dMk.eq_1 hlt hz hz2 tlC_len) ?_;intros;refine mk_i ?_)
  refine Ai_.mk ⟨k+1,by omega⟩ (Sub.lit (by simp[dMk,Df_,htl];omega)) (by simp;omega)
  skip
 ·have hkk:k=q:=by omega
  subst hkk;clear hlt;obtain⟨T,hT⟩:∃T,T=tlC m h k:=⟨_,rfl⟩;have hTl:T.length=k+1:=by rw[hT,tlC_len]
  have hT0:T[0]? =some h:=by rw[hT];rfl
  have hTs:∀i,i<k→T[i+1]? =some (m.nts+i):=fun i hi=>by rw[hT];exact tlC_at m h k i hi
  rw[←hT];clear hT;have hk1:((k:Int)+1-1)=k:=by omega
  (refine go1 aj0 aj0 (aj4 @dMk.eq_1 hTl hk1 hw) ?_;intros;refine mk_i ?_)
  refine Ad_ (X:={x:Nat×List Prod//x.1≤k∧x.2.length=m.prods.length+x.1∧∀t,T[x.1]? =some t→x.2++DO_ (m.nts+x.1) t (ns.drop x.1)=m.prods++DO_ m.nts h ns})
   (fun x=>⟨[(0,.bx 0 0 0),(1,.int .i64 h),(2,.sl 1 8 (ns.map Df_)),(6,.osl 12 1),(8,.int .i64 k),(31,.vw 12 1 1 8 0 k),(32,.int .i64 k),(33,.int .i64 x.1.1)],dMk 1 { m with nts:=m.nts+k,prods:=x.1.2 }++[⟨12,1,.row 3 1 8 (T.map Df_)⟩]⟩)
   (fun x=>k-x.1.1) ⟨(0,m.prods),by simp[hT0]⟩ (Sub.lit (by simp[dMk])) ?_
  rintro⟨⟨i,P⟩,hi,hP,hR⟩;simp only at hi hP hR ⊢;obtain⟨t,ht,ht',_⟩:=Aj_ (show i<T.length by omega);obtain⟨a,ha,ha',_⟩:=Aj_ (show i<ns.length by omega);have hR:=hR t ht
  by_cases hlt:i<k
  ·have hT1:=hTs i hlt;have hT1':T[i+1]'(by omega)=m.nts+i:=(aB0.1 hT1).2;rw[drop3 (b:=0) (by omega) ha]at hR;have e2:=Ga_ { m with nts:=m.nts+k,prods:=P } t [nS a,nS (m.nts+i)] (Nat.le_trans (aV0 32 (show P.length+1≤m.prods.length+(k+2)+1 by omega)) h3);simp only[nS]at e2;have hv:k≤T.length:=by omega
   have htn:((i:Int)+1).toNat=i+1:=by omega
   have hb1:(0:Int)≤(i:Int)+1:=by omega
   have hb2:(i:Int)+1<(k:Int)+1:=by omega
   have hin:i<ns.length:=by omega
   have hmp:Option.map ((fun cs=>cs)∘Df_) T[((i:Int)+1).toNat]? =some [.int .i64 (m.nts+i)]:=by rw[htn,hT1];rfl
   have hr2:(([0,1]:List Nat)=List.range 2)=True:=eq_true rfl
   (refine go1 aj0 (aj1 (spc [(0,0),(1,1),(2,2)] [] e2)) (aj2 (aj16 @dMk.eq_1 @dSym.eq_1 @Df_.eq_1 hlt ht' ht ha ha' hT1 hT1' hTl hq hv htn hb1 hb2) (aj2 hmp hr2)) ?_;intros;refine mk_i ?_)
   simp only[htn,hT1];simp[hnt,Tryz.results216,Ks_,dMk,dSym,Df_,hlt,ht',ht,ha,ha',hT1,hT1',hTl,hq,hv,htn,hb1,hb2,hmp,hr2]
   (refine go1 aj0 (aj1 (spc [(0,0),(1,1),(2,2)] [] e2)) (aj2 (aj16 @dMk.eq_1 @dSym.eq_1 @Df_.eq_1 hlt ht' ht ha ha' hT1 hT1' hTl hq hv htn hb1 hb2) (aj2 hmp hr2)) ?_;intros;refine mk_i ?_)
   refine Ai_.mk ⟨(i+1,P++[⟨t,[nS a,nS (m.nts+i)]⟩]),show i+1≤k∧(P++[(⟨t,[nS a,nS (m.nts+i)]⟩:Prod)]).length=m.prods.length+(i+1)∧_ from ⟨by omega,by simp;omega,fun t' h'=> ?_⟩⟩ (Sub.lit (by simp[dMk,nS])) (by simp;omega)
   ·simp only at h' ⊢;rw[hT1]at h';simp only[aA0]at h';subst h';rw[←hR,aT0,show m.nts+((i+1:Nat):Int)=m.nts+i+1 by omega];rfl
   skip
  ·have hik:i=k:=by omega
   subst hik;obtain⟨b,hb,hb',_⟩:=Aj_ (show i+1<ns.length by omega);rw[drop2 (by omega) ha hb]at hR;have e2:=Ga_ { m with nts:=m.nts+i,prods:=P } t [nS a,nS b] (Nat.le_trans (aV0 32 (show P.length+1≤m.prods.length+(i+2)+1 by omega)) h3);simp only[nS]at e2;have htn:((i:Int)+1).toNat=i+1:=by omega
   have hmp:Option.map ((fun cs=>cs)∘Df_) ns[((i:Int)+1).toNat]? =some [.int .i64 b]:=by rw[htn,hb];rfl
   have hr2:(([0,1]:List Nat)=List.range 2)=True:=eq_true rfl
   (refine go1 aj0 (aj1 (spc [(0,0),(1,1),(2,2)] [] e2)) (aj14 @dMk.eq_1 @dSym.eq_1 @Df_.eq_1 ht' ht ha ha' hb hb' hTl hq htn hmp hr2) ?_;intros;refine mk_i ?_)
   simp only[htn,hb];simp[hnt,Tryz.results216,Ks_,dMk,dSym,Df_,ht',ht,ha,ha',hb,hb',hTl,hq,htn,hmp,hr2]
   (refine go1 aj0 (aj1 (spc [(0,0),(1,1),(2,2)] [] e2)) (aj14 @dMk.eq_1 @dSym.eq_1 @Df_.eq_1 ht' ht ha ha' hb hb' hTl hq htn hmp hr2) ?_;intros;refine mk_i ?_)
   have e3:m.chain h ns={ m with nts:=m.nts+i,prods:=P++[⟨t,[nS a,nS b]⟩] }:=by
    unfold Mk.chain;rw[hR,hq];rfl
   rw[e3];simp[nS]
theorem put_mk (m:Mk) (h:Int) (b:List Sym):m.put h b={ m with prods:=m.prods++[⟨h,b⟩] }:=rfl
theorem Tv_ {a b:Nat} (h:a≤b) (hb:b*32≤150000000000000):a*32≤150000000000000:=Nat.le_trans (aV0 32 h) hb
def WY_ : Ann:=⟨[18,22,28,35],[]⟩
set_option maxHeartbeats 4000000 in
theorem add_easy (m:Mk) (p:Prod) (hf:Ay_ p.body=1∨Ay_ p.body=2) (h3:(m.prods.length+1)*32≤150000000000000) :
  AL_ Tryz.prog (.func 143) [.bx 0 0 0,.agg (Am_ p)] (dMk 0 m) (.tup []) (dMk 1 (m.add p)):=by
 refine AR_ [] [(0,0,0),(1,1,1),(2,2,0)] WY_ Tryz.func143 Tryz.call143 Tryz.ntmps143 mxd (aj2 @WY_.eq_1 Tryz.results143) rfl (by simp) (by simp) (by simp[dMk]) fun hwf B hnt hgAnn=> ?_
 simp only[argS];have e1:=OA_ p.body;have e2:=Nz_ p.body;have e3:=Ga_ m p.head p.body h3;have e4:m.add p=m.put p.head p.body:=by unfold Mk.add;rw[if_pos hf]
 rw[e4,put_mk]
 rcases hf with hf | hf
 ·rw[hf]at e1;exact go0 (aj2 e1 e2) (aj1 (spc [(0,0),(1,1),(2,2)] [] e3)) (aj2 @dMk.eq_1 @Am_.eq_1)
 ·rw[hf]at e1;exact go0 (aj2 e1 e2) (aj1 (spc [(0,0),(1,1),(2,2)] [] e3)) (aj2 @dMk.eq_1 @Am_.eq_1)
def NH_ : Ann:=⟨[18,22,28,35],[⟨7,[50],[],[]⟩]⟩
set_option maxHeartbeats 4000000 in
theorem add_one (m:Mk) (p:Prod) (hf:¬(Ay_ p.body=1∨Ay_ p.body=2)) (hl:p.body.length=1) (h1: -9223372036854775808≤m.nts) (h2:m.nts+10≤9223372036854775807) (h3:(m.prods.length+10)*32≤150000000000000) :
  AL_ Tryz.prog (.func 143) [.bx 0 0 0,.agg (Am_ p)] (dMk 0 m) (.tup []) (dMk 1 (m.add p)):=by
 refine AR_ [] [(0,0,0),(1,1,1),(2,2,0)] NH_ Tryz.func143 Tryz.call143 Tryz.ntmps143 mxd (aj2 @NH_.eq_1 Tryz.results143) rfl (by simp) (by simp) (by simp[dMk]) fun hwf B hnt hgAnn=> ?_
 simp only[argS];have e1:=OA_ p.body;obtain⟨g1,g2,g3⟩:=HH_ p.body m;obtain⟨k1,k2,k3⟩:=Hi_ (m.syms p.body).1;have hsl:=JT_ m p.body;rw[hl]at hsl;simp only[Mk.gap]at g1 k1;have e2:=Vd_ m p.body h1 (by omega) (Tv_ (by omega) h3);have e3:=QZ_ (m.syms p.body).1 (by omega) (by omega) (Tv_ (by omega) h3);have e5:=NA_ (m.syms p.body).1.nothing p.head ((m.syms p.body).2++[(m.syms p.body).1.nothing.no]) (by simp;omega) (by omega) (by simp;omega) (Tv_ (by simp;omega) h3)
 have e4:m.add p=(m.syms p.body).1.nothing.chain p.head ((m.syms p.body).2++[(m.syms p.body).1.nothing.no]):=by unfold Mk.add;rw[if_neg hf,if_pos hl]
 rw[e4];clear g1 g2 g3 k1 k2 k3 e4
 generalize (m.syms p.body).1.nothing.chain p.head ((m.syms p.body).2++[(m.syms p.body).1.nothing.no])=m3 at e5 ⊢
 generalize hm2:(m.syms p.body).1.nothing=m2 at e3 e5
 generalize (m.syms p.body).1=m1 at e2 e3
 generalize (m.syms p.body).2=ns at e2 e5 hsl
 simp only[aZ0,List.map_cons,List.map_nil,Df_]at e5
 generalize hF:Ay_ p.body=F at hf e1
 have f1:¬F=1:=fun h=>hf (.inl h)
 have f2:¬F=2:=fun h=>hf (.inr h)
 exact go0 (aj1 e1) (aj3 (spc [(0,0),(1,1),(2,2)] [(50,3)] e2) (spc [(0,0),(1,1),(2,2)] [] e3) (spc [(0,0),(1,1),(2,2)] [] e5)) (aj6 @dMk.eq_1 @Am_.eq_1 hsl f1 f2 @Df_.eq_1)
def NG_ : Ann:=⟨[18,22,28,35],[⟨5,[50],[],[]⟩]⟩
set_option maxHeartbeats 4000000 in
theorem add_more (m:Mk) (p:Prod) (hf:¬(Ay_ p.body=1∨Ay_ p.body=2)) (hl:¬p.body.length=1) (h1: -9223372036854775808≤m.nts) (h2:m.nts+2*p.body.length+10≤9223372036854775807) (h3:(m.prods.length+2*p.body.length+10)*32≤150000000000000) :
  AL_ Tryz.prog (.func 143) [.bx 0 0 0,.agg (Am_ p)] (dMk 0 m) (.tup []) (dMk 1 (m.add p)):=by
 refine AR_ [] [(0,0,0),(1,1,1),(2,2,0)] NG_ Tryz.func143 Tryz.call143 Tryz.ntmps143 mxd (aj2 @NG_.eq_1 Tryz.results143) rfl (by simp) (by simp) (by simp[dMk]) fun hwf B hnt hgAnn=> ?_
 simp only[argS];have e1:=OA_ p.body;obtain⟨g1,g2,g3⟩:=HH_ p.body m;have hsl:=JT_ m p.body;have hge:=VJ_ (fun h=>hf (.inl h)) (fun h=>hf (.inr h));simp only[Mk.gap]at g1;have e2:=Vd_ m p.body h1 (by omega) (Tv_ (by omega) h3);have e5:=NA_ (m.syms p.body).1 p.head (m.syms p.body).2 (by omega) (by omega) (by omega) (Tv_ (by omega) h3);have e4:m.add p=(m.syms p.body).1.chain p.head (m.syms p.body).2:=by unfold Mk.add;rw[if_neg hf,if_neg hl]
 rw[e4];have hsl2:¬(m.syms p.body).2.length=1:=by omega
 clear g1 g2 g3 e4 hsl
 generalize (m.syms p.body).1.chain p.head (m.syms p.body).2=m3 at e5 ⊢
 generalize (m.syms p.body).1=m1 at e2 e5
 generalize (m.syms p.body).2=ns at e2 e5 hsl2
 generalize hF:Ay_ p.body=F at hf e1
 have f1:¬F=1:=fun h=>hf (.inl h)
 have f2:¬F=2:=fun h=>hf (.inr h)
 have f3:¬(ns.length:Int)=1:=by omega
 exact go0 (aj1 e1) (aj2 (spc [(0,0),(1,1),(2,2)] [(50,3)] e2) (spc [(0,0),(1,1),(2,2)] [] e5)) (aj6 @dMk.eq_1 @Am_.eq_1 hsl2 f1 f2 f3)
theorem add_spec (m:Mk) (p:Prod) (h1: -9223372036854775808≤m.nts) (h2:m.nts+2*p.body.length+10≤9223372036854775807) (h3:(m.prods.length+2*p.body.length+10)*32≤150000000000000) :
  AL_ Tryz.prog (.func 143) [.bx 0 0 0,.agg (Am_ p)] (dMk 0 m) (.tup []) (dMk 1 (m.add p)):=by
 by_cases hf:Ay_ p.body=1∨Ay_ p.body=2
 ·exact add_easy m p hf (Tv_ (by omega) h3)
 ·by_cases hl:p.body.length=1
  ·exact add_one m p hf hl h1 (by omega) (Tv_ (by omega) h3)
  ·exact add_more m p hf hl h1 h2 h3
end Go.Proofs.YtchgnpnbcjflcaaGreat
end
