/- Parts of a proof, laid together: EnBo, BN1, WRn, RY1, RX2, RX3, RX4, RY2, RY3, RY4, WE0, WR2, WR3, BN3. -/
import Derived.Test.YtchgnpnbcjflcaaGreatqCw4
import Derived.Test.YtchgnpnbcjflcaaGreatqCw5
import Derived.Test.YtchgnpnbcjflcaaGreatqCw6
set_option linter.unusedSimpArgs false
set_option linter.unusedVariables false
set_option linter.unusedSectionVars false
section
namespace Go.Dm
variable [DMode]
def XP_ : DVal→Bool
 | .bool _=>true
 | .int _ _=>true
 | .str _=>true
 | .nilp=>true
 | .nilsl=>true
 | .any=>true
 | _=>false
theorem rd_simp {d:DVal} (hd:XP_ d=true) {cur cur':Cur} {M M':List Nat} {h h':Array Obj} {v:Value} (hr:rd cur M h d v):rd cur' M' h' d v:=by
 cases d<;>simp only[XP_,aQ0]at hd<;>simp only[rd]at hr ⊢ <;>exact hr
theorem Ot_ : ∀{ds:List DVal} (hd:ds.all XP_=true) {cur cur':Cur} {M M':List Nat} {h h':Array Obj} {vs:List Value} (_:rdV cur M h ds vs),rdV cur' M' h' ds vs
 | [],_,_,_,_,_,_,_,vs,hr=>by simpa only[rdV]using hr
 | d::ds,hd,_,_,_,_,_,_,vs,hr=>by
  rw[cZ0,aN0]at hd
  simp only[rdV]at hr ⊢
  obtain⟨v,r,rfl,h1,h2⟩:=hr
  exact⟨v,r,rfl,rd_simp hd.1 h1,Ot_ hd.2 h2⟩
def simpT : DVal→Bool
 | .tup ds=>ds.all XP_
 | .agg ds=>ds.all XP_
 | d=>XP_ d
theorem rd_simpT {d:DVal} (hd:simpT d=true) {cur cur':Cur} {M M':List Nat} {h h':Array Obj} {v:Value} (hr:rd cur M h d v):rd cur' M' h' d v:=by
 cases d
 case tup ds =>
  simp only[simpT]at hd
  simp only[rd]at hr ⊢
  obtain⟨us,rfl,h1⟩:=hr
  exact⟨us,rfl,Ot_ hd h1⟩
 case agg ds =>
  simp only[simpT]at hd
  simp only[rd]at hr ⊢
  obtain⟨us,rfl,h1⟩:=hr
  exact⟨us,rfl,Ot_ hd h1⟩
 all_goals exact rd_simp (by simpa only[simpT]using hd) hr
theorem NX_ {P:Program} {f:FuncId} {k bs:Nat} {et:TypeId} {es:List (List DVal)} {rest:List DVal} {d:DVal} (hd:simpT d=true) (hp:Aj_ P f (.sl k bs es::rest) d) :
  AU_ P (.func f) (.osl 0 0::rest) [⟨0,0,.row et k bs es⟩] d [⟨0,0,.row et k bs es⟩]:=by
 obtain⟨hen,_,hc⟩:=hp
 refine⟨by simp,hen,fun M w loc vs S hr=>⟨hen,?_⟩⟩
 simp only[rdV]at hr
 obtain⟨v0,r0,hvs,h0,hrest⟩:=hr
 simp only[rd]at h0
 have hv0:=h0 (loc 0) rfl
 have hk:=S.ok ⟨0,0,.row et k bs es⟩ (by simp)
 have hap:=S.ap
 have W:Weak (An_ [(⟨0,0,.row et k bs es⟩:Ent)] loc) (An_ [(⟨0,0,.row et k bs es⟩:Ent)] loc) (Ai_ [(⟨0,0,.row et k bs es⟩:Ent)] loc++M) M w.heap w.heap (max (mxR es) (mxL rest)) :=
  ⟨fun _ _ _ _ h=>h,fun _ _ _ _ h=>h,fun b _ hb _ _ hm=>hb (aP0 _ hm)⟩
 refine(hc (An_ [(⟨0,0,.row et k bs es⟩:Ent)] loc) M w vs (fun b hb=>S.lt b (aP0 _ hb)) ?_).mono ?_
 ·rw[hvs]
  simp only[rdV]
  refine⟨v0,r0,rfl,?_,AL_ W _ _ (by omega) hrest⟩
  simp only[rd]
  obtain⟨hz,h⟩:=hk
  rcases h with ⟨he,_,h2⟩ | ⟨b,arr,cap,h1,h2,h3,h4,h5,h6,h7⟩
  ·subst he
   rw[hv0,h2]
   exact⟨none,0,by simp,by simp,by simp,hz,.inl ⟨rfl,fun _=>rfl⟩⟩
  ·rw[hv0,h2]
   refine⟨some ⟨b,0,none⟩,cap,rfl,h4,h5,hz,.inr ⟨b,0,arr,et,(0,0),rfl,hap b ?_,h3,BW_ W k es arr 0 (by omega) h7⟩⟩
   simp[Ai_,h1]
 ·rintro e w' ⟨v,rfl,hu,hrd⟩
  exact⟨v,rfl,loc,S.keep hu,hu.nil,fun b hb=> .inl hb,fun e he _=>AE_ S.nd he,rd_simpT hd hrd⟩
theorem DW_nilS {P:Program} {B:Base} {Q:Exit→DS→Prop} {s:DS} {x:Code} (i k bs:Nat) (h:getS s.slots i= .nilsl) (hw:DW P B x Q ⟨(i,.sl k bs [])::s.slots,s.own⟩):DW P B x Q s:=by
 refine EL_ (s':=⟨(i,.sl k bs [])::s.slots,s.own⟩) (fun a w loc R=>⟨loc,R.st,R.upd,R.new,R.ver,fun j=> ?_,R.nt,R.df⟩) hw
 simp only[getS]
 split
 ·rename_i hj
  subst hj
  have:=R.sl j
  rw[h]at this
  simp only[rd]at this ⊢
  rw[this]
  exact⟨none,0,by simp,by simp,by simp,by simp,.inl ⟨by simp,fun _=>rfl⟩⟩
 ·exact R.sl j
end Go.Dm
end
section
namespace Go.Proofs.YtchgnpnbcjflcaaGreat
open Go Go.Dm
variable [DMode]
attribute [local irreducible] DW Br_ Bu_
set_option maxRecDepth 100000
theorem Ya_ {l:List ByteArray} {s:ByteArray}:decide (0≤DU_ l s)=decide (s∈l):=by
 refine decide_eq_decide.2 ?_
 unfold DU_
 by_cases h:s∈l
 ·rw[if_pos (bY0.2 ⟨s,h,by simp⟩)]
  simp only[h,iff_true]
  omega
 ·rw[if_neg (fun hh=>h (by obtain⟨x,hx,hs⟩:=bY0.1 hh;simp at hs;subst hs;exact hx))]
  simp[h]
theorem Ki_ (l:List ByteArray) (s:ByteArray):Aj_ Tryz.prog 154 [BC_ l,.str s] (.bool (decide (s∈l))):=by
 rw[←Ya_];exact Kj_ l s
theorem MW_ (l:List ByteArray) (s:ByteArray):AU_ Tryz.prog (.func 154) [.osl 0 0,.str s] [⟨0,0,.row 9 1 16 (l.map dStr)⟩] (.bool (decide (s∈l))) [⟨0,0,.row 9 1 16 (l.map dStr)⟩] :=
 NX_ rfl (Ki_ l s)
def TR_ : Ann:=⟨[15],[⟨4,[5],[],[]⟩]⟩
set_option maxHeartbeats 1000000 in
theorem JN_ (g:List Rul):Aj_ Tryz.prog 91 [AC_ g] (BC_ (AB_ g)):=by
 refine Ab_ [3] (fn:=Tryz.f91) Tryz.func91 rfl Tryz.call91 (by simp[Tryz.ntmps91]) (by simp[mx]) ?_
 intro hwf B hnt
 simp only[Tryz.ntmps91]at hnt
 have hgAnn:=Ao_ TR_ Tryz.mixed (aj2 @TR_.eq_1 Tryz.results91)
 have hs:g.length*40≤150000000000000:=by have:=hwf.1;simp only[wfD,aL0]at this;exact this.1
 clear hwf
 simp only[argS]
 (refine go1 aj0 aj0 aj0 ?_;intros;refine mk_i ?_)
 refine Bn_ 3 3 9 1 16 (by simp[hnt,Tryz.results91,TR_]) (fun n=> ?_)
 refine Am_ (X:={i:Nat//i≤g.length}) (fun i=>⟨[(0,AC_ g),(3,.osl 3 1),(6,AC_ g),(7,.int .i64 g.length),(8,.int .i64 i.1)],[⟨3,1,.row 9 1 16 ((AB_ (g.take i.1)).map dStr)⟩]⟩) (fun i=>g.length-i.1) ⟨0,by omega⟩ (Sub.lit (by simp[AB_])) ?_
 rintro⟨i,hi⟩
 simp only
 by_cases hlt:i<g.length
 ·obtain⟨r,hr,hr',hrm⟩:=Aq_ hlt
  have htk:=LS_ hr
  have hl:=GI_ (g.take i)
  rw[aX0]at hl
  obtain⟨T,hT⟩:∃T,T=AB_ (g.take i):=⟨_,rfl⟩
  rw[←hT]at htk hl ⊢
  have e1:=MW_ T r.h
  have z1:(T.length+1)*16≤150000000000000:=by omega
  have z2:T.length+1≤9223372036854775807:=by omega
  unfold Js_ at htk
  by_cases hm:r.h∈T
  ·rw[if_pos hm]at htk
   rw[decide_eq_true hm]at e1
   (refine go1 aj0 (aj1 (spc [(3,0)] [] e1)) (aj4 @dRul.eq_1 hlt hr hr') ?_;intros;refine mk_i ?_)
   refine Ap_.mk ⟨i+1,by omega⟩ (Sub.lit (by simp[htk])) (by simp;omega)
   skip
  ·rw[if_neg hm]at htk
   rw[decide_eq_false hm]at e1
   (refine go1 aj0 (aj1 (spc [(3,0)] [] e1)) (aj6 @dRul.eq_1 hlt hr hr' z1 z2) ?_;intros;refine mk_i ?_)
   refine Ap_.mk ⟨i+1,by omega⟩ (Sub.lit (by simp[htk,dStr])) (by simp;omega)
   skip
 ·have hkk:i=g.length:=by omega
  subst hkk
  rw[aT0]
  exact go0 aj0 aj0 aj0
abbrev dCM (m:CM):DObj:= .map (Eo_ m.K) (Ga_ m.V)
def Xy_ : Ann:=⟨[],[⟨4,[7],[],[]⟩,⟨7,[9],[],[]⟩]⟩
set_option maxHeartbeats 2000000 in
theorem Ix_ (g:List Rul) (k:Int):AU_ Tryz.prog (.func 176) [AC_ g,.int .i64 k] [] (.omp 0 1) [⟨0,1,dCM (cntL (AJ_ k g))⟩]:=by
 refine Av_ [] [(10,0,1)] (fn:=Tryz.f176) Tryz.func176 rfl Tryz.call176 (by simp[Tryz.ntmps176]) (by simp) (by simp) ?_
 intro hwf B hnt
 simp only[Tryz.ntmps176]at hnt
 have hgAnn:=Ao_ Xy_ Tryz.mixed (aj2 @Xy_.eq_1 Tryz.results176)
 have hwl:=IC_ hwf.1
 have hwb:∀r∈g,r.b.length<9223372036854775807:=fun r hr=>by
  have h1:=hwf.1
  obtain⟨i,hi,rfl⟩:=bN0 hr
  have h2:wfR (g.map dRul):=by simp only[wfD]at h1;exact h1.2.2
  have h3:=TX_ h2 (aH0 hi)
  simp only[dRul,wfL]at h3
  exact OX_ h3.2.1
 clear hwf
 simp only[argS,List.nil_append]
 (refine go1 aj0 aj0 aj0 ?_;intros;refine mk_i ?_)
 refine Am_ (X:={i:Nat//i≤g.length}) (fun i=>⟨[(0,AC_ g),(1,.int .i64 k),(5,.omp 10 1),(11,AC_ g),(12,.int .i64 g.length),(13,.int .i64 i.1)],[⟨10,1,dCM (cntL (AJ_ k (g.take i.1)))⟩]⟩) (fun i=>g.length-i.1) ⟨0,by omega⟩ (Sub.lit (by simp[AJ_,cntL,Eo_,Ga_])) ?_
 rintro⟨i,hi⟩
 simp only
 by_cases hlt:i<g.length
 ·obtain⟨r,hr,hr',hrm⟩:=Aq_ hlt
  have htk:=LC_ (k:=k) hr
  have hrl:=hwb r hrm
  obtain⟨N,hN⟩:∃N,N=AJ_ k (g.take i):=⟨_,rfl⟩
  rw[←hN]at htk ⊢
  (refine go1 aj0 aj0 (aj4 @dRul.eq_1 hlt hr hr') ?_;intros;refine mk_i ?_)
  refine Am_ (X:={j:Nat//j≤r.b.length}) (fun j=>⟨[(0,AC_ g),(1,.int .i64 k),(5,.omp 10 1),(11,AC_ g),(12,.int .i64 g.length),(13,.int .i64 i),(18,dNds r.b),(19,.int .i64 r.b.length),(20,.int .i64 j.1)],[⟨10,1,dCM (cntL (N++Cl_ k (r.b.take j.1)))⟩]⟩) (fun j=>r.b.length-j.1) ⟨0,by omega⟩ (Sub.lit (by simp[Cl_])) ?_
  rintro⟨j,hj⟩
  simp only
  by_cases hlt2:j<r.b.length
  ·obtain⟨x,hx,hx',hxm⟩:=Aq_ hlt2
   have htj:=LA_ (k:=k) hx
   obtain⟨E,hE⟩:∃E,E=N++Cl_ k (r.b.take j):=⟨_,rfl⟩
   have hE2:N++Cl_ k (r.b.take (j+1))=E++(if x.k=k then [x.s]else []):=by rw[htj,hE,aU0]
   rw[←hE]
   by_cases hk:x.k=k
   ·rw[if_pos hk]at hE2
    have hst:=cntL_snoc E x.s
    have hok:=cnt_ok E
    obtain⟨⟨Ks,V⟩,hm⟩:∃m,m=cntL E:=⟨_,rfl⟩
    rw[←hm]at hst hok ⊢
    have hks:=keyStrs Ks
    unfold TJ_ at hst
    simp only at hst
    by_cases hs:x.s∈Ks
    ·rw[if_pos hs]at hst
     have l1:=OV_ hs
     have l3:ixS Ks x.s<V.length:=by have:=Rw_ hs;have:=hok.len;simp only at this;omega
     have v1:(Ga_ V)[ixS Ks x.s]? =some (.int .i64 (V.getD (ixS Ks x.s) 0)):=by simp[Ga_,l3]
     obtain⟨q,hq⟩:∃q,q=IntKind.i64.wrap (V.getD (ixS Ks x.s) 0+1):=⟨_,rfl⟩
     have hq2:IntKind.i64.wrap (V.getD (ixS Ks x.s) 0+1)=q:=hq.symm
     rw[hq2]at hst
     obtain⟨c,hcc⟩:∃c,c=V.getD (ixS Ks x.s) 0:=⟨_,rfl⟩
     rw[←hcc]at v1 hq2
     have st1:=intsV_set V (ixS Ks x.s) q
     obtain⟨ix,hix⟩:∃ix,ix=ixS Ks x.s:=⟨_,rfl⟩
     rw[←hix]at l1 v1 st1 hst
     (refine go1 aj0 aj0 (aj10 @dNd.eq_1 hlt2 hx hx' hk hks l1 v1 hq2 st1) ?_;intros;refine mk_i ?_)
     refine Ap_.mk ⟨j+1,by omega⟩ (Sub.lit (by simp only[hE2,hst];simp)) (by simp;omega)
     skip
    ·rw[if_neg hs]at hst
     have l1:=GD_ hs
     have st1:=intsV_app V 1
     have sk1:=strsD_app Ks x.s
     (refine go1 aj0 aj0 (aj9 @dNd.eq_1 hlt2 hx hx' hk hks l1 st1 sk1) ?_;intros;refine mk_i ?_)
     refine Ap_.mk ⟨j+1,by omega⟩ (Sub.lit (by simp only[hE2,hst];simp)) (by simp;omega)
     skip
   ·have hk':(x.k==k)=false:=by simpa using hk
    rw[if_neg hk,bK0]at hE2
    (refine go1 aj0 aj0 (aj6 @dNd.eq_1 hlt2 hx hx' hk hk') ?_;intros;refine mk_i ?_)
    refine Ap_.mk ⟨j+1,by omega⟩ (Sub.lit (by simp only[hE2];simp)) (by simp;omega)
    skip
  ·have hkk:j=r.b.length:=by omega
   subst hkk
   rw[aT0]
   (refine go1 aj0 aj0 aj0 ?_;intros;refine mk_i ?_)
   refine Ap_.mk ⟨i+1,by omega⟩ (Sub.lit (by simp only[htk];simp)) (by simp;omega)
   skip
 ·have hkk:i=g.length:=by omega
  subst hkk
  rw[aT0]
  exact go0 aj0 aj0 aj0
def delCM (m:CM) (s:ByteArray):CM:=if s∈m.K then ⟨m.K.eraseIdx (ixS m.K s),m.V.eraseIdx (ixS m.K s)⟩else m
structure DelOk (m0 m:CM) (hs:List ByteArray):Prop where
 len:m.K.length=m.V.length
 mem:∀s,s∈m.K↔s∈m0.K∧¬s∈hs
 nd:m.K.Nodup
theorem erase_mem {l:List ByteArray} (hn:l.Nodup) {s x:ByteArray} (hs:s∈l):x∈l.eraseIdx (ixS l s)↔x∈l∧x≠s:=by
 have hi:=Rw_ hs
 have hv:l[ixS l s]=s:=by
  have:=List.findIdx_getElem (xs:=l) (p:=fun x=>s==x) (w:=hi)
  simp at this
  exact this.symm
 rw[List.mem_eraseIdx_iff_getElem]
 constructor
 ·rintro⟨i,hil,hne,rfl⟩
  refine⟨dC0 hil,fun e=>hne ?_⟩
  exact(List.getElem_inj hn).1 (e.trans hv.symm)
 ·rintro⟨hx,hne⟩
  obtain⟨i,hil,rfl⟩:=bN0 hx
  refine⟨i,hil,fun e=>hne ?_,rfl⟩
  subst e
  exact hv
theorem DelOk.step {m0 m:CM} {hs:List ByteArray} (h:DelOk m0 m hs) (s:ByteArray):DelOk m0 (delCM m s) (hs++[s]):=by
 unfold delCM
 split
 ·rename_i hm
  refine⟨?_,fun x=> ?_,h.nd.sublist (List.eraseIdx_sublist _ _)⟩
  ·have:=Rw_ hm
   rw[List.length_eraseIdx_of_lt this,List.length_eraseIdx_of_lt (by have:=h.len;omega),h.len]
  ·simp only
   rw[erase_mem h.nd hm,h.mem x,aJ0,aE0]
   constructor
   ·rintro⟨⟨a,b⟩,c⟩;exact⟨a,fun hh=>by rcases hh with hh | hh;exact b hh;exact c hh⟩
   ·rintro⟨a,b⟩;exact⟨⟨a,fun hh=>b (.inl hh)⟩,fun hh=>b (.inr hh)⟩
 ·rename_i hm
  refine⟨h.len,fun x=> ?_,h.nd⟩
  rw[h.mem x,aJ0,aE0]
  constructor
  ·rintro⟨a,b⟩;exact⟨a,fun hh=>by rcases hh with hh | hh;exact b hh;subst hh;exact hm ((h.mem x).2 ⟨a,b⟩)⟩
  ·rintro⟨a,b⟩;exact⟨a,fun hh=>b (.inl hh)⟩
theorem To_ (V:List Int) (j:Nat):(Ga_ V).eraseIdx j=Ga_ (V.eraseIdx j):=by unfold Ga_;rw[FV_]
theorem SN_ (V:List ByteArray) (j:Nat):(Eo_ V).eraseIdx j=Eo_ (V.eraseIdx j):=by unfold Eo_;rw[FV_]
def Xx_ : Ann:=⟨[7],[⟨4,[5],[],[]⟩]⟩
set_option maxHeartbeats 2000000 in
theorem FS_ (g:List Rul) (hn:(AJ_ 2 g).length≤9223372036854775807):Aj_ Tryz.prog 234 [AC_ g] (.int .i64 (Dp_ g).length):=by
 refine Ab_ [] (fn:=Tryz.f234) Tryz.func234 rfl Tryz.call234 (by simp[Tryz.ntmps234]) (by simp[mx]) ?_
 intro hwf B hnt
 simp only[Tryz.ntmps234]at hnt
 have hgAnn:=Ao_ Xx_ Tryz.mixed (aj2 @Xx_.eq_1 Tryz.results234)
 have hwl:=IC_ hwf.1
 clear hwf
 simp only[argS]
 have e1:=Ix_ g 2
 have hok:=cnt_ok (AJ_ 2 g)
 obtain⟨m0,hm0⟩:∃m,m=cntL (AJ_ 2 g):=⟨_,rfl⟩
 rw[←hm0]at e1 hok
 (refine go1 aj0 (aj1 (spc [] [(7,0)] e1)) aj0 ?_;intros;refine mk_i ?_)
 refine Am_ (X:={x:Nat×CM//x.1≤g.length∧DelOk m0 x.2 ((g.take x.1).map (·.h))}) (fun x=>⟨[(0,AC_ g),(3,.omp 7 1),(8,AC_ g),(9,.int .i64 g.length),(10,.int .i64 x.1.1)],[⟨7,1,dCM x.1.2⟩]⟩) (fun x=>g.length-x.1.1) ⟨(0,m0),by simp,by simpa using hok.len,by simp,hok.nd⟩ (Sub.lit (by simp)) ?_
 rintro⟨⟨i,m⟩,hi,hD⟩
 simp only at hi hD ⊢
 by_cases hlt:i<g.length
 ·obtain⟨r,hr,hr',hrm⟩:=Aq_ hlt
  have hD2:DelOk m0 (delCM m r.h) ((g.take (i+1)).map (·.h)):=by
   have:=hD.step r.h
   rw[bF0,hr,aY0]
   exact this
  obtain⟨Ks,V⟩:=m
  have hks:=keyStrs Ks
  unfold delCM at hD2
  simp only at hD2
  by_cases hs:r.h∈Ks
  ·rw[if_pos hs]at hD2
   have l1:=OV_ hs
   have s1:=SN_ Ks (ixS Ks r.h)
   have s2:=To_ V (ixS Ks r.h)
   (refine go1 aj0 aj0 (aj10 @dRul.eq_1 hlt hr hr' hks l1 @delK.eq_1 @delV.eq_1 s1 s2) ?_;intros;refine mk_i ?_)
   refine Ap_.mk ⟨(i+1,_),show i+1≤g.length∧_ from ⟨by omega,hD2⟩⟩ (Sub.lit (by simp)) (by simp;omega)
   skip
  ·rw[if_neg hs]at hD2
   have l1:=GD_ hs
   (refine go1 aj0 aj0 (aj8 @dRul.eq_1 hlt hr hr' hks l1 @delK.eq_1 @delV.eq_1) ?_;intros;refine mk_i ?_)
   refine Ap_.mk ⟨(i+1,_),show i+1≤g.length∧_ from ⟨by omega,hD2⟩⟩ (Sub.lit (by simp)) (by simp;omega)
   skip
 ·have hkk:i=g.length:=by omega
  subst hkk
  rw[aT0]at hD
  have hml:m.K.length=(Dp_ g).length:=miss_len hD.nd fun s=>by
   rw[hD.mem s,hok.mem s,NA_]
   simp
  have hsl:=strsD_len m.K
  rw[hml]at hsl
  have hle:(Dp_ g).length≤9223372036854775807:=Nat.le_trans (Nat.le_trans (cH0 _ _) (FC_ _)) hn
  obtain⟨Ks,V⟩:=m
  exact go0 aj0 aj0 (aj2 hsl hle)
def VT_ : Ann:=⟨[],[]⟩
theorem ER_ (k c:Int) (hk:k=2∧c=85∨k=3∧c=76) (s:ByteArray):Aj_ Tryz.prog 129 [.str s,.int .u8 c] (.bool (DP_ k s)):=by
 refine Ab_ [] (fn:=Tryz.f129) Tryz.func129 rfl Tryz.call129 (by simp[Tryz.ntmps129]) (by simp[mx]) ?_
 intro hwf B hnt
 simp only[Tryz.ntmps129]at hnt
 have hgAnn:=Ao_ VT_ Tryz.mixed (aj2 @VT_.eq_1 Tryz.results129)
 have hsz:s.size≤9223372036854775807:=by have:=hwf.1;simp only[wfD,maxLen]at this;omega
 clear hwf
 simp only[argS]
 obtain⟨R,hR⟩:∃R,R=DP_ k s:=⟨_,rfl⟩
 rw[←hR]
 unfold DP_ at hR
 by_cases h1:1≤s.size
 ·by_cases h2:s.size≤16
  ·have g1:¬(s.size:Int)<1:=by omega
   have g2:¬(16:Int)<s.size:=by omega
   have g0:0<s.size:=by omega
   obtain⟨b0,hb0,hb0',_⟩:=Aq_ (show 0<s.data.toList.length by rw[BZ_];omega)
   (refine go1 aj0 aj0 (aj5 g0 g1 g2 h1 h2) ?_;intros;refine mk_i ?_)
   refine Am_ (X:={k:Nat//k≤s.size∧letS s=((s.data.toList.drop k).all fun b=>letB (b.toNat:Int))}) (fun k=>⟨[(0,.str s),(1,.int .u8 c),(5,.int .i64 k.1)],[]⟩) (fun k=>s.size-k.1) ⟨0,by simp[letS]⟩ (Sub.lit (by simp)) ?_
   rintro⟨j,hj,hl⟩
   by_cases hlt:j<s.size
   ·obtain⟨b,hb,hb',_⟩:=Aq_ (show j<s.data.toList.length by rw[BZ_];exact hlt)
    rw[aR0 (by rw[BZ_];exact hlt),hb',cZ0]at hl
    have e1:=Pl_ (b.toNat:Int)
    cases hL:letB (b.toNat:Int)
    ·rw[hL]at e1 hl
     have hR2:R=false:=by rw[hR];unfold BJ_;rw[hl];simp
     subst hR2
     exact go0 (aj1 e1) aj0 (aj3 hlt hb hb')
    ·rw[hL]at e1 hl
     simp only[cC0]at hl
     (refine go1 (aj1 e1) aj0 (aj3 hlt hb hb') ?_;intros;refine mk_i ?_)
     refine Ap_.mk ⟨j+1,by omega,hl⟩ (Sub.lit (by simp)) (by simp;omega)
     skip
   ·have hkk:j=s.size:=by omega
    subst hkk
    rw[←BZ_,bP0]at hl
    have hN:BJ_ s=true:=by unfold BJ_;rw[hl];simp[h1,h2]
    rw[hN]at hR
    simp only[Vl_ hb0,cC0]at hR
    have e1:=Hp_ (b0.toNat:Int)
    have e2:=Hs_ (b0.toNat:Int)
    rcases hk with ⟨rfl,rfl⟩ | ⟨rfl,rfl⟩
    ·simp only[if_true]at hR
     rw[←hR]at e1
     cases R
     ·exact go0 (aj2 e1 e2) aj0 (aj3 g0 hb0 hb0')
     ·exact go0 (aj2 e1 e2) aj0 (aj3 g0 hb0 hb0')
    ·simp only[show ¬(3:Int)=2 by omega,if_false]at hR
     rw[←hR]at e2
     cases R
     ·exact go0 (aj2 e1 e2) aj0 (aj3 g0 hb0 hb0')
     ·exact go0 (aj2 e1 e2) aj0 (aj3 g0 hb0 hb0')
  ·have g1:¬(s.size:Int)<1:=by omega
   have g2:(16:Int)<s.size:=by omega
   have hR2:R=false:=by rw[hR];unfold BJ_;simp[h2]
   subst hR2
   exact go0 aj0 aj0 (aj4 g1 g2 h1 h2)
 ·have g1:(s.size:Int)<1:=by omega
  have hR2:R=false:=by rw[hR];unfold BJ_;simp[h1]
  subst hR2
  exact go0 aj0 aj0 (aj2 g1 h1)
def WA_ : Ann:=⟨[],[]⟩
set_option maxHeartbeats 4000000 in
theorem mayR_pure (x:Nd):Aj_ Tryz.prog 294 [.agg (dNd x)] (.bool (mayN x)):=by
 refine Ab_ [] (fn:=Tryz.f294) Tryz.func294 rfl Tryz.call294 (by simp[Tryz.ntmps294]) (by simp[mx]) ?_
 intro hwf B hnt
 simp only[Tryz.ntmps294]at hnt
 have hgAnn:=Ao_ WA_ Tryz.mixed (aj2 @WA_.eq_1 Tryz.results294)
 simp only[argS]
 have e1:=ER_ 2 85 (.inl ⟨rfl,rfl⟩) x.s
 have e2:=ER_ 3 76 (.inr ⟨rfl,rfl⟩) x.s
 rw[show DP_ 2 x.s=(BJ_ x.s&&Kf_ upI x.s) from rfl]at e1
 rw[show DP_ 3 x.s=(BJ_ x.s&&Kf_ loI x.s) from rfl]at e2
 unfold mayN emp
 by_cases k1:x.k=1
 ·exact go0 aj0 aj0 (aj3 @dNd.eq_1 @AN_ k1)
 by_cases k2:x.k=2
 ·obtain⟨b,hb⟩:∃b,b=(BJ_ x.s&&Kf_ upI x.s):=⟨_,rfl⟩
  rw[←hb]at e1 ⊢
  clear hb
  cases b<;>exact go0 (aj1 e1) aj0 (aj4 @dNd.eq_1 @AN_ k1 k2)
 by_cases k3:x.k=3
 ·obtain⟨b,hb⟩:∃b,b=(BJ_ x.s&&Kf_ loI x.s):=⟨_,rfl⟩
  rw[←hb]at e2 ⊢
  clear hb
  cases b<;>exact go0 (aj1 e2) aj0 (aj5 @dNd.eq_1 @AN_ k1 k2 k3)
 by_cases k4:x.k=4
 ·exact go0 aj0 aj0 (aj6 @dNd.eq_1 @AN_ k1 k2 k3 k4)
 by_cases k5:x.k=5
 ·exact go0 aj0 aj0 (aj7 @dNd.eq_1 @AN_ k1 k2 k3 k4 k5)
 by_cases k6:x.k=6
 ·exact go0 aj0 aj0 (aj8 @dNd.eq_1 @AN_ k1 k2 k3 k4 k5 k6)
 by_cases k7:x.k=7
 ·exact go0 aj0 aj0 (aj9 @dNd.eq_1 @AN_ k1 k2 k3 k4 k5 k6 k7)
 by_cases k8:x.k=8
 ·exact go0 aj0 aj0 (aj10 @dNd.eq_1 @AN_ k1 k2 k3 k4 k5 k6 k7 k8)
 exact go0 aj0 aj0 (aj10 @dNd.eq_1 @AN_ k1 k2 k3 k4 k5 k6 k7 k8)
def endI (l:List Nd) (p:Nat):Int:=match endN (l.drop p) 1 with
 | some r=>(l.length:Int)-r.length
 | none=> -1
def WB_ : Ann:=⟨[],[]⟩
set_option maxHeartbeats 4000000 in
theorem HT_ (l:List Nd) (p:Nat) (hs:l.length≤1310720) (hp:p≤l.length):Aj_ Tryz.prog 202 [dNds l,.int .i64 p] (.int .i64 (endI l p)):=by
 refine Ab_ [] (fn:=Tryz.f202) Tryz.func202 rfl Tryz.call202 (by simp[Tryz.ntmps202]) (by simp[mx]) ?_
 intro hwf B hnt
 simp only[Tryz.ntmps202]at hnt
 have hgAnn:=Ao_ WB_ Tryz.mixed (aj2 @WB_.eq_1 Tryz.results202)
 clear hwf
 simp only[argS]
 obtain⟨R,hR⟩:∃R,R=endI l p:=⟨_,rfl⟩
 rw[←hR]
 unfold endI at hR
 obtain⟨E,hE⟩:∃E,E=endN (l.drop p) 1:=⟨_,rfl⟩
 rw[←hE]at hR
 (refine go1 aj0 aj0 aj0 ?_;intros;refine mk_i ?_)
 refine Am_ (X:={q:Nat×Nat//q.1≤l.length∧endN (l.drop q.1) q.2=E∧q.2≤1+q.1*1310720}) (fun q=>⟨[(0,dNds l),(1,.int .i64 q.1.1),(5,.int .i64 q.1.2)],[]⟩) (fun q=>l.length+1-q.1.1) ⟨(p,1),hp,hE.symm,by simp only;omega⟩ (Sub.lit (by simp)) ?_
 clear hE
 rintro⟨⟨k,w⟩,hk,hw,hwb⟩
 simp only at hk hw hwb ⊢
 cases w with
 | zero =>
  rw[BP_]at hw
  rw[←hw]at hR
  simp only[cD0]at hR
  have hRk:R=k:=by omega
  subst hRk
  exact go0 aj0 aj0 aj0
 | succ v =>
  have hv:(0:Int)<(v:Int)+1:=by omega
  by_cases hlt:k<l.length
  ·obtain⟨x,hx,hx',_⟩:=Aq_ hlt
   rw[aR0 hlt,hx']at hw
   have e1:=mayR_pure x
   simp only[dNd]at e1
   have hge:¬l.length≤k:=by omega
   cases hm:mayN x
   ·rw[hm]at e1
    rw[CO_,hm]at hw
    simp only[aQ0,if_false]at hw
    rw[←hw]at hR
    simp only at hR
    subst hR
    exact go0 (aj1 e1) aj0 (aj6 @dNd.eq_1 hlt hge hx hx' hv)
   ·rw[hm]at e1
    have hk0:=FU_ hm
    obtain⟨c,hcn⟩:∃c:Nat,x.n=(c:Int):=⟨x.n.toNat,by omega⟩
    rw[hcn]at e1
    rw[CO_,if_pos hm,hcn,cW0]at hw
    by_cases hbig:l.length<c
    ·have hbig':(l.length:Int)<(c:Int):=by omega
     rw[PC_ _ _ (by rw[cD0];omega)]at hw
     rw[←hw]at hR
     simp only at hR
     subst hR
     exact go0 (aj1 e1) aj0 (aj9 @dNd.eq_1 hlt hge hx hx' hv hcn hbig hbig')
    ·have hbig':¬(l.length:Int)<(c:Int):=by omega
     have q1:IntKind.i64.wrap ((v:Int))=(v:Int):=Aa_ (by omega) (by omega)
     have q2:IntKind.i64.wrap ((v:Int)+(c:Int))=(v:Int)+(c:Int):=Aa_ (by omega) (by omega)
     (refine go1 (aj1 e1) aj0 (aj11 @dNd.eq_1 hlt hge hx hx' hv hcn hbig hbig' q1 q2) ?_;intros;refine mk_i ?_)
     refine Ap_.mk ⟨(k+1,v+c),show k+1≤l.length∧endN (l.drop (k+1)) (v+c)=E∧v+c≤1+(k+1)*1310720 from ⟨by omega,hw,by omega⟩⟩ (Sub.lit (by simp)) (by simp;omega)
     skip
  ·have hge:l.length≤k:=by omega
   rw[cO0 hge,GK_]at hw
   rw[←hw]at hR
   simp only at hR
   subst hR
   exact go0 aj0 aj0 (aj2 hv hge)
def WC_ : Ann:=⟨[],[]⟩
theorem Dg_ (l:List Nd) (hs:l.length≤1310720):Aj_ Tryz.prog 130 [dNds l] (.bool (CT_ l)):=by
 refine Ab_ [] (fn:=Tryz.f130) Tryz.func130 rfl Tryz.call130 (by simp[Tryz.ntmps130]) (by simp[mx]) ?_
 intro hwf B hnt
 simp only[Tryz.ntmps130]at hnt
 have hgAnn:=Ao_ WC_ Tryz.mixed (aj2 @WC_.eq_1 Tryz.results130)
 clear hwf
 simp only[argS]
 have e1:=HT_ l 0 hs (by omega)
 unfold endI at e1
 unfold CT_
 rw[eA0]at e1
 by_cases h0:0<l.length
 ·cases hE:endN l 1 with
  | none =>
   rw[hE]at e1
   have hne:((-1:Int)==(l.length:Int))=false:=by simp
   exact go0 (aj1 e1) aj0 (aj2 h0 hne)
  | some r =>
   rw[hE]at e1
   cases r with
   | nil =>
    simp only[List.length_nil,Int.natCast_zero,Int.sub_zero]at e1
    exact go0 (aj1 e1) aj0 (aj1 h0)
   | cons y r =>
    have hne:(((l.length:Int)-((y::r).length:Int))==(l.length:Int))=false:=by simp;omega
    obtain⟨e,he⟩:∃e:Int,e=(l.length:Int)-((y::r).length:Int):=⟨_,rfl⟩
    rw[←he]at hne
    have e3:Aj_ Tryz.prog 202 [dNds l,.int .i64 0] (.int .i64 e):=by rw[he];exact e1
    exact go0 (aj1 e3) aj0 (aj2 h0 hne)
 ·have hl:l=[]:=bQ0 (by omega)
  subst hl
  rw[GK_]
  exact go0 aj0 aj0 aj0
def Fq_ : Ann:=⟨[],[⟨5,[6],[],[]⟩]⟩
set_option maxHeartbeats 4000000 in
theorem Hx_ (t:RT) (ht:okT t=true) (hs:(flat t).length≤1310720):Aj_ Tryz.prog 262 [dNds (flat t)] (.int .i64 (htT t)):=by
 refine Ab_ [] (fn:=Tryz.f262) Tryz.func262 rfl Tryz.call262 (by simp[Tryz.ntmps262]) (by simp[mx]) ?_
 intro hwf B hnt
 simp only[Tryz.ntmps262]at hnt
 have hgAnn:=Ao_ Fq_ Tryz.mixed (aj2 @Fq_.eq_1 Tryz.results262)
 clear hwf
 simp only[argS]
 have hR:=HO_ ht
 have hmay:=okT_all ht
 have hkle:∀x∈flat t,x.n≤1310720:=fun x hx=>by have:=Pf_ t ht x hx;omega
 obtain⟨l,hl⟩:∃l,l=flat t:=⟨_,rfl⟩
 rw[←hl]at hR hmay hkle hs ⊢
 clear hl
 obtain⟨R,hRR⟩:∃R,R=htT t:=⟨_,rfl⟩
 rw[←hRR]at hR ⊢
 clear hRR ht
 (refine go1 aj0 aj0 aj0 ?_;intros;refine mk_i ?_)
 refine Bn_ 4 50 3 1 8 (by simp[hnt,Tryz.results262,Fq_]) (fun n=> ?_)
 refine Am_ (X:={p:Nat×List Nat×Nat//p.1≤l.length∧(l.drop p.1).foldl Fz_ (p.2.1,p.2.2)=([],R)∧p.2.1.length≤p.1∧p.2.2≤p.1∧pos p.2.1}) (fun p=>⟨[(3,.int .i64 p.1.2.2),(4,.osl 50 1),(7,dNds l),(8,.int .i64 l.length),(9,.int .i64 p.1.1)],[⟨50,1,.row 3 1 8 (dstk p.1.2.1)⟩]⟩) (fun p=>l.length-p.1.1) ⟨(0,[],0),by simp[hR,pos]⟩ (Sub.lit (by simp[Cr_])) ?_
 rintro⟨⟨k,s,m⟩,hk,hw,hsl,hmb,hpos⟩
 simp only at hk hw hsl hmb hpos ⊢
 clear hR
 by_cases hlt:k<l.length
 ·obtain⟨x,hx,hx',hxm⟩:=Aq_ hlt
  rw[aR0 hlt,hx',cM0]at hw
  have hk0:=FU_ (hmay x hxm)
  obtain⟨c,hcn⟩:∃c:Nat,x.n=(c:Int):=⟨x.n.toNat,by omega⟩
  have hsp:=hstep_pos (p:=(s,m)) x (by have:=hkle x hxm;omega) hpos
  have hslen:=hstep_len (s,m) x
  unfold Fz_ at hw hsp hslen
  rw[hcn,cW0]at hw hsp hslen
  simp only at hw hsp hslen
  obtain⟨P,hP⟩:∃P,P=(if c=0 then fin s else c::s):=⟨_,rfl⟩
  rw[←hP]at hw hsp hslen
  have hmx:(if (m:Int)<(s.length:Int)+1 then (s.length:Int)+1 else (m:Int))=((max m (s.length+1):Nat):Int):=by split<;>omega
  obtain⟨m2,hm2⟩:∃m2,m2=max m (s.length+1):=⟨_,rfl⟩
  rw[←hm2]at hw hmx
  have hm2b:m2≤k+1:=by omega
  have z1:(s.length+1)*8≤150000000000000:=by omega
  have z2:s.length+1≤9223372036854775807:=by omega
  have q1:IntKind.i64.wrap ((s.length:Int)+1)=(s.length:Int)+1:=Aa_ (by omega) (by omega)
  (refine go1 aj0 aj0 (aj10 @dNd.eq_1 hlt hx hx' hcn @DH_ hmx z1 z2 q1) ?_;intros;refine mk_i ?_)
  refine Am_ (X:={q:List Nat//popR q=P∧q.length≤k+1∧pos q.tail}) (fun q=>⟨[(3,.int .i64 m2),(4,.osl 50 1),(7,dNds l),(8,.int .i64 l.length),(9,.int .i64 k)],[⟨50,1,.row 3 1 8 (dstk q.1)⟩]⟩) (fun q=>q.1.length) ⟨c::s,by rw[hP,popR_push],by simp;omega,hpos⟩ (Sub.lit (by simp[hmx,Gf_,Bg_])) ?_
  rintro⟨q,hq1,hq2,hq3⟩
  simp only
  match q,hq1,hq2,hq3 with
  | [],hq1,hq2,hq3 =>
   have hP2:P=[]:=by rw[←hq1];rfl
   (refine go1 aj0 aj0 (aj1 @Cr_) ?_;intros;refine mk_i ?_)
   refine Ap_.mk ⟨(k+1,P,m2),show k+1≤l.length∧(l.drop (k+1)).foldl Fz_ (P,m2)=([],R)∧P.length≤k+1∧m2≤k+1∧pos P from ⟨by omega,hw,by omega,hm2b,hsp⟩⟩ (Sub.lit (by simp[hP2,Cr_])) (by simp;omega)
   skip
  | d::q,hq1,hq2,hq3 =>
   have hql:q.length≤k:=by simpa using hq2
   have hlen:(dstk (d::q)).length=q.length+1:=by rw[DH_];rfl
   have htop:=VE_ d q
   have htk:=dstk_take d q
   have q2:IntKind.i64.wrap ((q.length:Int))=(q.length:Int):=Aa_ (by omega) (by omega)
   obtain⟨D,hD⟩:∃D,D=dstk (d::q):=⟨_,rfl⟩
   rw[←hD]at hlen htop htk ⊢
   have hltD:q.length<D.length:=by omega
   have htop':D[q.length]'hltD=[.int .i64 (d:Int)]:=(aC0.1 htop).2
   have hp0:(0:Int)<(q.length:Int)+1:=by omega
   cases d with
   | zero =>
    cases q with
    | nil =>
     have hP2:P=[]:=by rw[←hq1];rfl
     have q0:IntKind.i64.wrap 0=0:=by decide
     simp only[List.length_nil,bS0]at hlen htop htop' htk hltD
     (repeat (first | (refine Sv_ 4 ?_ (fun _=> ?_);(· (simp[hnt,hlen,htop,htop',hltD,hp0,htk,Cr_,q0];done));(try simp[hnt,hlen,htop,htop',hltD,hp0,htk,Cr_,q0])) | refine Ak_ fun K hK=> ?_ | (refine DW_r Fq_ Tryz.mixed (by kernel_rfl) ?_;simp[Fq_,hnt,hlen,htop,htop',hltD,hp0,htk,Cr_,q0];try simp (disch:=omega) only[Aa_]) | refine Ac_ ?_ | (refine As_ ?_ ?_ ?_;(· (simp[hnt,hlen,htop,htop',hltD,hp0,htk,Cr_,q0];done));(try (rotate_left;(· (intro hc;(try simp[hnt,hlen,htop,htop',hltD,hp0,htk,Cr_,q0]at hc);done))))) | (refine Al_ ?_;simp[Tryz.results262,hnt,hlen,htop,htop',hltD,hp0,htk,Cr_,q0]) | ((first | refine Ah_ ?_ | refine Ag_ ?_);simp[hnt,hlen,htop,htop',hltD,hp0,htk,Cr_,q0]) | (intro hc;(try simp[hnt,hlen,htop,htop',hltD,hp0,htk,Cr_,q0]at hc);(try (exfalso;omega))) | (refine⟨?_,?_⟩; · omega) | omega | apply_assumption -exfalso -symm | (exfalso;omega)))
     refine Ap_.mk ⟨[],hP2.symm,by simp,by simp[pos]⟩ (Sub.lit (by simp[Cr_])) (by simp)
     skip
    | cons e q =>
     obtain⟨he1,he9⟩:=hq3 e (by simp)
     have q5:IntKind.i64.wrap ((e-1:Nat):Int)=((e-1:Nat):Int):=Aa_ (by omega) (by omega)
     have hP2:popR ((e-1)::q)=P:=by rw[popR_step he1,←hq1];rfl
     have hpq:pos q:=fun c hc=>hq3 c (by simp[hc])
     simp only[List.length_cons]at hlen htop htop' htk hltD q2 hp0 hql
     have hlen2:(dstk (e::q)).length=q.length+1:=by rw[DH_];rfl
     have htop2:=VE_ e q
     have hset:=dstk_set e (e-1) q
     obtain⟨E,hE⟩:∃E,E=dstk (e::q):=⟨_,rfl⟩
     rw[←hE]at hlen2 htop2 hset htk
     have hltE:q.length<E.length:=by omega
     have htop2':E[q.length]'hltE=[.int .i64 (e:Int)]:=(aC0.1 htop2).2
     have q3:IntKind.i64.wrap ((q.length:Int)+1)=(q.length:Int)+1:=Aa_ (by omega) (by omega)
     have q4:IntKind.i64.wrap ((q.length:Int))=(q.length:Int):=Aa_ (by omega) (by omega)
     have he2:(e:Int)-1=((e-1:Nat):Int):=by omega
     have hp1:(0:Int)<(q.length:Int)+1:=by omega
     have hp2:(0:Int)<(q.length:Int)+1+1:=by omega
     (repeat (first | (refine Sv_ 4 ?_ (fun _=> ?_);(· (simp[hnt,hlen,htop,htop',hltD,hp0,hp1,hp2,htk,q3,q4,hlen2,htop2,htop2',hltE,he2,hset,q5];done));(try simp[hnt,hlen,htop,htop',hltD,hp0,hp1,hp2,htk,q3,q4,hlen2,htop2,htop2',hltE,he2,hset,q5])) | refine Ak_ fun K hK=> ?_ | (refine DW_r Fq_ Tryz.mixed (by kernel_rfl) ?_;simp[Fq_,hnt,hlen,htop,htop',hltD,hp0,hp1,hp2,htk,q3,q4,hlen2,htop2,htop2',hltE,he2,hset,q5];try simp (disch:=omega) only[Aa_]) | refine Ac_ ?_ | (refine As_ ?_ ?_ ?_;(· (simp[hnt,hlen,htop,htop',hltD,hp0,hp1,hp2,htk,q3,q4,hlen2,htop2,htop2',hltE,he2,hset,q5];done));(try (rotate_left;(· (intro hc;(try simp[hnt,hlen,htop,htop',hltD,hp0,hp1,hp2,htk,q3,q4,hlen2,htop2,htop2',hltE,he2,hset,q5]at hc);done))))) | (refine Al_ ?_;simp[Tryz.results262,hnt,hlen,htop,htop',hltD,hp0,hp1,hp2,htk,q3,q4,hlen2,htop2,htop2',hltE,he2,hset,q5]) | ((first | refine Ah_ ?_ | refine Ag_ ?_);simp[hnt,hlen,htop,htop',hltD,hp0,hp1,hp2,htk,q3,q4,hlen2,htop2,htop2',hltE,he2,hset,q5]) | (intro hc;(try simp[hnt,hlen,htop,htop',hltD,hp0,hp1,hp2,htk,q3,q4,hlen2,htop2,htop2',hltE,he2,hset,q5]at hc);(try (exfalso;omega))) | (refine⟨?_,?_⟩; · omega) | omega | apply_assumption -exfalso -symm | (exfalso;omega)))
     refine Ap_.mk ⟨(e-1)::q,hP2,by simp;omega,hpq⟩ (Sub.lit (by simp)) (by simp)
     skip
   | succ d =>
    have hP2:P=(d+1)::q:=by rw[←hq1];rfl
    have hd0:¬(d:Int)+1=0:=by omega
    have hd0':(((d:Int)+1)==0)=false:=by simpa using hd0
    (refine go1 aj0 aj0 (aj8 hlen htop htop' hltD q2 hp0 hd0 hd0') ?_;intros;refine mk_i ?_)
    refine Ap_.mk ⟨(k+1,P,m2),show k+1≤l.length∧(l.drop (k+1)).foldl Fz_ (P,m2)=([],R)∧P.length≤k+1∧m2≤k+1∧pos P from ⟨by omega,hw,by omega,hm2b,hsp⟩⟩ (Sub.lit (by simp[hP2,hD])) (by simp;omega)
    skip
 ·have hkk:k=l.length:=by omega
  subst hkk
  rw[bP0]at hw
  simp only[List.foldl_nil,_root_.Prod.mk.injEq]at hw
  obtain⟨rfl,rfl⟩:=hw
  exact go0 aj0 aj0 aj0
def dT (t:RT):List DVal:=[dNds (flat t)]
abbrev dTs (ts:List RT):DVal:= .sl 1 24 (ts.map dT)
@[simp] theorem mx_dT (t:RT):mxL (dT t)=0:=by simp[dT,mxL,mx]
@[simp] theorem mx_dTs (l:List RT):mxR (l.map dT)=0:=mxR0 _ mx_dT l
theorem Jt_ {ks:List RT} {i:Nat} {t:RT} (h:ks[i]? =some t):(At_ (ks.take (i+1))).length=(At_ (ks.take i)).length+(flat t).length:=by
 rw[bF0,h,DX_,aD0]
 simp[At_]
theorem HQ_ (ks:List RT) (i:Nat):At_ ks=At_ (ks.take i)++At_ (ks.drop i):=by rw[←DX_,List.take_append_drop]
def DI_ : Ann:=⟨[],[]⟩
set_option maxHeartbeats 4000000 in
theorem Tl_ (x:Nd) (ks:List RT) (ht:okT (.mk x ks)=true) (hs:(flat (.mk x ks)).length≤1310720):Aj_ Tryz.prog 321 [dNds (flat (.mk x ks))] (dTs ks):=by
 refine Ab_ [60] (fn:=Tryz.f321) Tryz.func321 rfl Tryz.call321 (by simp[Tryz.ntmps321]) (by simp[mx]) ?_
 intro hwf B hnt
 simp only[Tryz.ntmps321]at hnt
 have hgAnn:=Ao_ DI_ Tryz.mixed (aj2 @DI_.eq_1 Tryz.results321)
 clear hwf
 simp only[argS]
 obtain⟨hm,hn,hok⟩:=BD_ ht
 have hmay:=okT_all ht
 have hkle:=Pf_ _ ht
 obtain⟨l,hl⟩:∃l,l=flat (.mk x ks):=⟨_,rfl⟩
 have hl2:l=x::At_ ks:=by rw[hl,AF_]
 rw[←hl]at hmay hkle hs ⊢
 have h0:l[0]? =some x:=by rw[hl2];rfl
 have hlen:l.length=(At_ ks).length+1:=by rw[hl2];simp
 have hlt0:0<l.length:=by omega
 have h0':l[0]'hlt0=x:=(aC0.1 h0).2
 have hks:ks.length≤1310720:=by have:=BO_ ks;omega
 (refine go1 aj0 aj0 (aj5 @dNd.eq_1 h0 h0' hlt0 hn) ?_;intros;refine mk_i ?_)
 refine Bn_ 3 60 153 1 24 (by simp[hnt,Tryz.results321,DI_]) (fun n=> ?_)
 refine Am_ (X:={i:Nat//i≤ks.length}) (fun i=>⟨[(0,dNds l),(3,.osl 60 1),(4,.int .i64 (1+(At_ (ks.take i.1)).length:Nat)),(10,.int .i64 ks.length),(11,.int .i64 i.1)],[⟨60,1,.row 153 1 24 ((ks.take i.1).map dT)⟩]⟩) (fun i=>ks.length-i.1) ⟨0,by omega⟩ (Sub.lit (by simp[At_])) ?_
 rintro⟨i,hi⟩
 simp only
 by_cases hlt:i<ks.length
 ·obtain⟨t,htk,ht',_⟩:=Aq_ hlt
  have hsp:=HQ_ ks i
  have hdr:=aR0 hlt
  rw[ht']at hdr
  have hokd:okL (ks.drop i)=true:=by
   have:=OI_ (ks.take i) (ks.drop i)
   rw[List.take_append_drop,hok]at this
   simpa using (by simpa using this.symm:okL (ks.take i)=true∧okL (ks.drop i)=true).2
  rw[hdr]at hokd
  obtain⟨hokt,hokr⟩:=Bd_ hokd
  obtain⟨A,hA⟩:∃A,A=1+(At_ (ks.take i)).length:=⟨_,rfl⟩
  obtain⟨r,hr⟩:∃r,r=At_ (ks.drop (i+1)):=⟨_,rfl⟩
  have hdrop:l.drop A=flat t++r:=by
   rw[hl2,hA,Nat.add_comm,dU0,hsp,dV0 (Nat.le_refl _),bP0,List.nil_append,hdr,Au_,hr]
  have hend:endN (l.drop A) 1=some r:=by rw[hdrop,EE_ t r 0 hokt,BP_]
  have hA2:A+(flat t).length+r.length=l.length:=by
   have:=congrArg List.length hdrop
   rw[cD0,aD0]at this
   have:=Fl_ t
   omega
  have hnext:=Jt_ htk
  rw[←hA]
  clear hsp hdr hokd hokr
  (repeat (first | refine Ak_ fun K hK=> ?_ | (refine DW_r DI_ Tryz.mixed (by kernel_rfl) ?_;simp[DI_,hnt,hlt];try simp (disch:=omega) only[Aa_]) | refine Ac_ ?_ | (refine As_ ?_ ?_ ?_;(· (simp[hnt,hlt];done));(try (rotate_left;(· (intro hc;(try simp[hnt,hlt]at hc);done))))) | (refine Al_ ?_;simp[Tryz.results321,hnt,hlt]) | ((first | refine Ah_ ?_ | refine Ag_ ?_);simp[hnt,hlt]) | (intro hc;(try simp[hnt,hlt]at hc);(try (exfalso;omega))) | (refine⟨?_,?_⟩; · omega) | omega | apply_assumption -exfalso -symm | (exfalso;omega)))
  refine Am_ (X:={p:Nat×Nat//p.1≤l.length∧endN (l.drop p.1) p.2=some r∧p.2≤1+p.1*1310720∧A≤p.1}) (fun p=>⟨[(0,dNds l),(3,.osl 60 1),(4,.int .i64 p.1.1),(5,.int .i64 A),(6,.int .i64 p.1.2),(10,.int .i64 ks.length),(11,.int .i64 i)],[⟨60,1,.row 153 1 24 ((ks.take i).map dT)⟩]⟩) (fun p=>l.length-p.1.1) ⟨(A,1),show A≤l.length∧endN (l.drop A) 1=some r∧1≤1+A*1310720∧A≤A from ⟨by omega,hend,by omega,Nat.le_refl _⟩⟩ (Sub.lit (by simp)) ?_
  rintro⟨⟨k,w⟩,hk,hw,hwb,hAk⟩
  simp only at hk hw hwb hAk ⊢
  cases w with
  | zero =>
   rw[BP_]at hw
   simp only[aA0]at hw
   have hkl:k=A+(flat t).length:=by
    have:=congrArg List.length hw
    rw[cD0]at this
    omega
   have z1:((ks.take i).length+1)*24≤150000000000000:=by rw[aX0];omega
   have z2:(ks.take i).length+1≤9223372036854775807:=by rw[aX0];omega
   have hpiece:(l.drop A).take (k-A)=flat t:=by rw[hkl,Nat.add_sub_cancel_left,hdrop];simp
   have hkk:A≤l.length:=by omega
   (repeat (first | refine Ak_ fun K hK=> ?_ | (refine DW_r DI_ Tryz.mixed (by kernel_rfl) ?_;simp[DI_,hnt,hlt,hk,hAk,hkk];try simp (disch:=omega) only[Aa_]) | refine Ac_ ?_ | (refine As_ ?_ ?_ ?_;(· (simp[hnt,hlt,hk,hAk,hkk];done));(try (rotate_left;(· (intro hc;(try simp[hnt,hlt,hk,hAk,hkk]at hc);done))))) | (refine Al_ ?_;simp[Tryz.results321,hnt,hlt,hk,hAk,hkk]) | ((first | refine Ah_ ?_ | refine Ag_ ?_);simp[hnt,hlt,hk,hAk,hkk]) | (intro hc;(try simp[hnt,hlt,hk,hAk,hkk]at hc);(try (exfalso;omega))) | (refine⟨?_,?_⟩; · omega) | omega | apply_assumption -exfalso -symm | (exfalso;omega)))
   have hpD:List.take (k-A) (List.drop A (List.map dNd l))=(flat t).map dNd:=by rw[←List.map_drop,←eR0,hpiece]
   have htm:List.take (i+1) (List.map dT ks)=List.take i (List.map dT ks)++[dT t]:=by rw[bF0,bI0,htk];rfl
   have hat:(1:Int)+((At_ (List.take (i+1) ks)).length:Int)=(k:Int):=by omega
   refine Ap_.mk ⟨i+1,by omega⟩ (Sub.lit (by simp[hpD,htm,hat,dT,Bg_])) (by simp;omega)
   skip
  | succ v =>
   have hlt2:k<l.length:=by
    rcases Nat.lt_or_ge k l.length with h | h
    ·exact h
    ·rw[cO0 h,GK_]at hw;simp at hw
   obtain⟨y,hy,hy',hym⟩:=Aq_ hlt2
   rw[aR0 hlt2,hy',CO_,if_pos (hmay y hym)]at hw
   have hk0:=FU_ (hmay y hym)
   have hk9:=hkle y hym
   obtain⟨c,hcn⟩:∃c:Nat,y.n=(c:Int):=⟨y.n.toNat,by omega⟩
   rw[hcn,cW0]at hw
   have q1:IntKind.i64.wrap ((c:Int)-1)=(c:Int)-1:=Aa_ (by omega) (by omega)
   have q2:IntKind.i64.wrap ((v:Int)+1+((c:Int)-1))=(v:Int)+(c:Int):=by rw[Aa_ (by omega) (by omega)];omega
   have q3:(0:Int)<(v:Int)+1:=by omega
   (repeat (first | refine Ak_ fun K hK=> ?_ | (refine DW_r DI_ Tryz.mixed (by kernel_rfl) ?_;simp[DI_,hnt,dNd,hlt2,hy,hy',hcn,q1,q2,q3];try simp (disch:=omega) only[Aa_]) | refine Ac_ ?_ | (refine As_ ?_ ?_ ?_;(· (simp[hnt,dNd,hlt2,hy,hy',hcn,q1,q2,q3];done));(try (rotate_left;(· (intro hc;(try simp[hnt,dNd,hlt2,hy,hy',hcn,q1,q2,q3]at hc);done))))) | (refine Al_ ?_;simp[Tryz.results321,hnt,dNd,hlt2,hy,hy',hcn,q1,q2,q3]) | ((first | refine Ah_ ?_ | refine Ag_ ?_);simp[hnt,dNd,hlt2,hy,hy',hcn,q1,q2,q3]) | (intro hc;(try simp[hnt,dNd,hlt2,hy,hy',hcn,q1,q2,q3]at hc);(try (exfalso;omega))) | (refine⟨?_,?_⟩; · omega) | omega | apply_assumption -exfalso -symm | (exfalso;omega)))
   refine Ap_.mk ⟨(k+1,v+c),show k+1≤l.length∧endN (l.drop (k+1)) (v+c)=some r∧v+c≤1+(k+1)*1310720∧A≤k+1 from ⟨by omega,hw,by omega,by omega⟩⟩ (Sub.lit (by simp)) (by simp;omega)
   skip
 ·have hkk:i=ks.length:=by omega
  subst hkk
  exact go0 aj0 aj0 (aj1 (@aT0.{0}))
def WG_ : Ann:=⟨[],[]⟩
theorem QI_ (k:Int):Aj_ Tryz.prog 323 [.int .i64 k] (.str (sgn k)):=by
 refine Ab_ [] (fn:=Tryz.f323) Tryz.func323 rfl Tryz.call323 (by simp[Tryz.ntmps323]) (by simp[mx]) ?_
 intro hwf B hnt
 simp only[Tryz.ntmps323]at hnt
 have hgAnn:=Ao_ WG_ Tryz.mixed (aj2 @WG_.eq_1 Tryz.results323)
 simp only[argS]
 have z0:(⟨#[]⟩:ByteArray).size=0:=rfl
 have z1:(⟨#[42]⟩:ByteArray).size=1:=rfl
 have z2:(⟨#[43]⟩:ByteArray).size=1:=rfl
 have z3:(⟨#[63]⟩:ByteArray).size=1:=rfl
 have m1:1≤maxLen:=by decide
 unfold sgn
 by_cases k6:k=6
 ·exact go0 aj0 aj0 (aj6 z0 z1 z2 z3 m1 k6)
 by_cases k7:k=7
 ·exact go0 aj0 aj0 (aj7 z0 z1 z2 z3 m1 k6 k7)
 by_cases k8:k=8
 ·exact go0 aj0 aj0 (aj8 z0 z1 z2 z3 m1 k6 k7 k8)
 exact go0 aj0 aj0 (aj8 z0 z1 z2 z3 m1 k6 k7 k8)
theorem le_sum {l:List Nat} {a:Nat} (h:a∈l):a≤l.sum:=by
 induction l with
 | nil=>simp at h
 | cons b l ih =>
  rw[eQ0]
  rcases aK0.1 h with rfl | h
  ·omega
  ·have:=ih h;omega
theorem Qo_ {pk:Int} {ks:List RT} {i:Nat} {t:RT} (h:ks[i]? =some t):txtL pk (ks.take (i+1))=txtL pk (ks.take i)++[parT pk t.x.k (txtT t)]:=by
 rw[CH_,CH_,bF0,h,aY0];rfl
theorem Oc_ (pk:Int) (ks:List RT):(txtL pk ks).length=ks.length:=by rw[CH_,aL0]
theorem LY_ (t:RT):(flat t)[0]? =some t.x:=by cases t;rfl
theorem Ds_ {ks:List RT} {t:RT} (h:t∈ks):(flat t).length≤(At_ ks).length:=by
 induction ks with
 | nil=>simp at h
 | cons u ks ih =>
  rw[Au_,aD0]
  rcases aK0.1 h with rfl | h
  ·omega
  ·have:=ih h;omega
def Cu_ : Ann:=⟨[],[⟨1,[3],[],[]⟩]⟩
set_option maxHeartbeats 8000000 in
theorem JA_ : ∀(n:Nat) (t:RT),(flat t).length=n→okT t=true→(flat t).length≤1310720→Aj_ Tryz.prog 263 [dNds (flat t)] (.str (txtT t)):=by
 intro n
 induction n using Nat.strongRecOn with
 | ind n ih =>
 intro t hn ht hs
 obtain⟨x,ks⟩:=t
 have kk:=Tl_ x ks ht hs
 obtain⟨hm,hkn,hok⟩:=BD_ ht
 have hsz:=(FD_ _ ht)
 have h0:=LY_ (.mk x ks)
 have hlt0:0<(flat (.mk x ks)).length:=Fl_ _
 have hfl:(flat (.mk x ks)).length=(At_ ks).length+1:=by rw[AF_,List.length_cons]
 have hkl:=BO_ ks
 have hch:∀u∈ks,Aj_ Tryz.prog 263 [dNds (flat u)] (.str (txtT u)):=fun u hu=>by
  have:=Ds_ hu
  exact ih (flat u).length (by omega) u rfl (OH_ hok u hu) (by omega)
 have hsj:=Id_ x.k ks hok
 have hparts:∀y∈txtL x.k ks,1≤y.size∧y.size≤67108864:=fun y hy=>by
  refine⟨hsj.2 y hy,?_⟩
  have:y.size+3≤((txtL x.k ks).map fun y=>y.size+3).sum:=le_sum (aW0.2 ⟨y,hy,rfl⟩)
  omega
 have kj:=join_pure (txtL x.k ks) (btw x.k) (GN_ _) (by rw[Oc_];omega) hparts
 have kg:=QI_ x.k
 have hjs:=GF_ (txtL x.k ks) (btw x.k) (GN_ _)
 have hgs:=Uh_ x.k
 rw[Ob_]
 have hbig:((txtL x.k ks).map fun y=>y.size+3).sum≤31457280:=by omega
 clear ih hn hsz
 obtain⟨l,hl⟩:∃l,l=flat (.mk x ks):=⟨_,rfl⟩
 rw[←hl]at kk h0 hlt0 ⊢
 have h0':l[0]'hlt0=x:=(aC0.1 h0).2
 have z0:(⟨#[]⟩:ByteArray).size=0:=rfl
 have z1:(⟨#[37]⟩:ByteArray).size=1:=rfl
 have z2:(⟨#[32]⟩:ByteArray).size=1:=rfl
 have z3:(⟨#[32,124,32]⟩:ByteArray).size=3:=rfl
 have z4:(⟨#[40]⟩:ByteArray).size=1:=rfl
 have z5:(⟨#[41]⟩:ByteArray).size=1:=rfl
 have m1:1≤maxLen:=by decide
 have m3:3≤maxLen:=by decide
 refine Ab_ [] (fn:=Tryz.f263) Tryz.func263 rfl Tryz.call263 (by simp[Tryz.ntmps263]) (by simp[mx]) ?_
 intro hwf B hnt
 simp only[Tryz.ntmps263]at hnt
 have hgAnn:=Ao_ Cu_ Tryz.mixed (aj2 @Cu_.eq_1 Tryz.results263)
 clear hwf
 simp only[argS]
 obtain⟨b,hb⟩:∃b,b=btw x.k:=⟨_,rfl⟩
 have hbz:b=btw x.k:=hb
 rw[←hb]at kj ⊢
 unfold btw at hb
 rcases Iy_ hm with k | k | k | k | k | k | k | k
 ·exact go0 (aj1 kk) aj0 (aj8 @dNd.eq_1 h0 h0' hlt0 z0 z1 m1 k)
 ·exact go0 (aj1 kk) aj0 (aj8 @dNd.eq_1 h0 h0' hlt0 z0 z1 m1 k)
 ·exact go0 (aj1 kk) aj0 (aj8 @dNd.eq_1 h0 h0' hlt0 z0 z1 m1 k)
 all_goals
  have k1:¬x.k=1:=by omega
  have k2:¬(x.k=2∨x.k=3):=by omega
  rw[if_neg k1,if_neg k2]
  have hb2:=hb
  simp only[k]at hb2
  try simp at hb2
  (refine go1 (aj1 kk) aj0 (aj11 @dNd.eq_1 h0 h0' hlt0 z0 z1 z2 z3 m1 m3 k) ?_;intros;refine mk_i ?_)
  refine Bn_ 5 50 9 1 16 (by simp[hnt,Tryz.results263,Cu_]) (fun n=> ?_)
  refine Am_ (X:={i:Nat//i≤ks.length}) (fun i=>⟨[(3,.ref [.int .i64 x.k,.str x.s,.int .i64 x.n]),(4,.str b),(5,.osl 50 1),(26,dTs ks),(27,.int .i64 ks.length),(28,.int .i64 i.1)],[⟨50,1,.row 9 1 16 ((txtL x.k (ks.take i.1)).map dStr)⟩]⟩) (fun i=>ks.length-i.1) ⟨0,by omega⟩ (Sub.lit (by simp[k,hb2,Km_])) ?_
  clear hb hb2 k kk
  rintro⟨i,hi⟩
  simp only
  by_cases hlt:i<ks.length
  ·obtain⟨u,hu,hu',hum⟩:=Aq_ hlt
   have ku:=hch u hum
   have g0:=LY_ u
   have gl:0<(flat u).length:=Fl_ u
   have hus:=FD_ u (OH_ hok u hum)
   have hul:=Ds_ hum
   have htk:=Qo_ (pk:=x.k) hu
   have hpt:parT x.k u.x.k (txtT u)=if parB x.k u.x.k then ⟨#[40]⟩++txtT u++⟨#[41]⟩else txtT u:=rfl
   unfold parB at hpt
   obtain⟨m,hm2⟩:∃m,m=flat u:=⟨_,rfl⟩
   have hfm:flat u=m:=hm2.symm
   rw[←hm2]at ku g0 gl hus hul
   obtain⟨s,hs2⟩:∃s,s=txtT u:=⟨_,rfl⟩
   rw[←hs2]at ku hus hpt htk
   have g0':m[0]'gl=u.x:=(aC0.1 g0).2
   obtain⟨P,hP⟩:∃P,P=parT x.k u.x.k s:=⟨_,rfl⟩
   rw[←hP]at hpt htk
   have hl1:(txtL x.k (ks.take i)).length=i:=by rw[Oc_,aX0];omega
   obtain⟨T,hT⟩:∃T,T=txtL x.k (ks.take i):=⟨_,rfl⟩
   rw[←hT]at htk hl1 ⊢
   have y1:(i+1)*16≤150000000000000:=by omega
   have y2:i+1≤9223372036854775807:=by omega
   have y3:1+s.size≤maxLen:=by unfold maxLen;omega
   have y4:1+s.size+1≤maxLen:=by unfold maxLen;omega
   by_cases p5:u.x.k=5
   ·simp[p5]at hpt
    (repeat (first | refine Ak_ fun K hK=> ?_ | (refine DW_r Cu_ Tryz.mixed (by kernel_rfl) ?_;simp[Cu_,hnt,dT,dNd,hfm,hlt,hu,hu',g0,g0',gl,p5,y1,y2,y3,y4,z4,z5,m1,hl1,aB0];try simp (disch:=omega) only[Aa_]) | refine Ac_ ?_ | (refine As_ ?_ ?_ ?_;(· (simp[hnt,dT,dNd,hfm,hlt,hu,hu',g0,g0',gl,p5,y1,y2,y3,y4,z4,z5,m1,hl1,aB0];done));(try (rotate_left;(· (intro hc;(try simp[hnt,dT,dNd,hfm,hlt,hu,hu',g0,g0',gl,p5,y1,y2,y3,y4,z4,z5,m1,hl1,aB0]at hc);done))))) | (refine Al_ ?_;simp[Tryz.results263,hnt,dT,dNd,hfm,hlt,hu,hu',g0,g0',gl,p5,y1,y2,y3,y4,z4,z5,m1,hl1,aB0]) | ((first | refine Ah_ ?_ | refine Ag_ ?_);simp[hnt,dT,dNd,hfm,hlt,hu,hu',g0,g0',gl,p5,y1,y2,y3,y4,z4,z5,m1,hl1,aB0]) | (intro hc;(try simp[hnt,dT,dNd,hfm,hlt,hu,hu',g0,g0',gl,p5,y1,y2,y3,y4,z4,z5,m1,hl1,aB0]at hc);(try (exfalso;omega))) | ((first | refine Ae_ (ku) ?_ | (refine Ad_ (ku) ?_ ?_;(· (simp;done))));try simp[hnt,dT,dNd,hfm,hlt,hu,hu',g0,g0',gl,p5,y1,y2,y3,y4,z4,z5,m1,hl1,aB0]) | (refine⟨?_,?_⟩; · omega) | omega | apply_assumption -exfalso -symm | (exfalso;omega)))
    refine Ap_.mk ⟨i+1,by omega⟩ (Sub.lit (by simp[htk,hpt,dStr])) (by simp;omega)
    skip
   ·have p5':(u.x.k==5)=false:=by simpa using p5
    by_cases p4:u.x.k=4
    ·by_cases q5:x.k=5
     ·simp[p4,q5]at hpt
      (repeat (first | refine Ak_ fun K hK=> ?_ | (refine DW_r Cu_ Tryz.mixed (by kernel_rfl) ?_;simp[Cu_,hnt,dT,dNd,hfm,hlt,hu,hu',g0,g0',gl,p4,p5,p5',q5,y1,y2,y3,y4,z4,z5,m1,hl1,aB0];try simp (disch:=omega) only[Aa_]) | refine Ac_ ?_ | (refine As_ ?_ ?_ ?_;(· (simp[hnt,dT,dNd,hfm,hlt,hu,hu',g0,g0',gl,p4,p5,p5',q5,y1,y2,y3,y4,z4,z5,m1,hl1,aB0];done));(try (rotate_left;(· (intro hc;(try simp[hnt,dT,dNd,hfm,hlt,hu,hu',g0,g0',gl,p4,p5,p5',q5,y1,y2,y3,y4,z4,z5,m1,hl1,aB0]at hc);done))))) | (refine Al_ ?_;simp[Tryz.results263,hnt,dT,dNd,hfm,hlt,hu,hu',g0,g0',gl,p4,p5,p5',q5,y1,y2,y3,y4,z4,z5,m1,hl1,aB0]) | ((first | refine Ah_ ?_ | refine Ag_ ?_);simp[hnt,dT,dNd,hfm,hlt,hu,hu',g0,g0',gl,p4,p5,p5',q5,y1,y2,y3,y4,z4,z5,m1,hl1,aB0]) | (intro hc;(try simp[hnt,dT,dNd,hfm,hlt,hu,hu',g0,g0',gl,p4,p5,p5',q5,y1,y2,y3,y4,z4,z5,m1,hl1,aB0]at hc);(try (exfalso;omega))) | ((first | refine Ae_ (ku) ?_ | (refine Ad_ (ku) ?_ ?_;(· (simp;done))));try simp[hnt,dT,dNd,hfm,hlt,hu,hu',g0,g0',gl,p4,p5,p5',q5,y1,y2,y3,y4,z4,z5,m1,hl1,aB0]) | (refine⟨?_,?_⟩; · omega) | omega | apply_assumption -exfalso -symm | (exfalso;omega)))
      have htk5:=htk
      rw[q5]at htk5
      refine Ap_.mk ⟨i+1,by omega⟩ (Sub.lit (by simp[htk5,hpt,dStr,q5])) (by simp;omega)
      skip
     ·have q5':(x.k==5)=false:=by simpa using q5
      simp[p4,q5]at hpt
      (repeat (first | refine Ak_ fun K hK=> ?_ | (refine DW_r Cu_ Tryz.mixed (by kernel_rfl) ?_;simp[Cu_,hnt,dT,dNd,hfm,hlt,hu,hu',g0,g0',gl,p4,p5,p5',q5,q5',y1,y2,y3,y4,z4,z5,m1,hl1,aB0];try simp (disch:=omega) only[Aa_]) | refine Ac_ ?_ | (refine As_ ?_ ?_ ?_;(· (simp[hnt,dT,dNd,hfm,hlt,hu,hu',g0,g0',gl,p4,p5,p5',q5,q5',y1,y2,y3,y4,z4,z5,m1,hl1,aB0];done));(try (rotate_left;(· (intro hc;(try simp[hnt,dT,dNd,hfm,hlt,hu,hu',g0,g0',gl,p4,p5,p5',q5,q5',y1,y2,y3,y4,z4,z5,m1,hl1,aB0]at hc);done))))) | (refine Al_ ?_;simp[Tryz.results263,hnt,dT,dNd,hfm,hlt,hu,hu',g0,g0',gl,p4,p5,p5',q5,q5',y1,y2,y3,y4,z4,z5,m1,hl1,aB0]) | ((first | refine Ah_ ?_ | refine Ag_ ?_);simp[hnt,dT,dNd,hfm,hlt,hu,hu',g0,g0',gl,p4,p5,p5',q5,q5',y1,y2,y3,y4,z4,z5,m1,hl1,aB0]) | (intro hc;(try simp[hnt,dT,dNd,hfm,hlt,hu,hu',g0,g0',gl,p4,p5,p5',q5,q5',y1,y2,y3,y4,z4,z5,m1,hl1,aB0]at hc);(try (exfalso;omega))) | ((first | refine Ae_ (ku) ?_ | (refine Ad_ (ku) ?_ ?_;(· (simp;done))));try simp[hnt,dT,dNd,hfm,hlt,hu,hu',g0,g0',gl,p4,p5,p5',q5,q5',y1,y2,y3,y4,z4,z5,m1,hl1,aB0]) | (refine⟨?_,?_⟩; · omega) | omega | apply_assumption -exfalso -symm | (exfalso;omega)))
      refine Ap_.mk ⟨i+1,by omega⟩ (Sub.lit (by simp[htk,hpt,dStr])) (by simp;omega)
      skip
    ·have p4':(u.x.k==4)=false:=by simpa using p4
     simp[p4,p5]at hpt
     (repeat (first | refine Ak_ fun K hK=> ?_ | (refine DW_r Cu_ Tryz.mixed (by kernel_rfl) ?_;simp[Cu_,hnt,dT,dNd,hfm,hlt,hu,hu',g0,g0',gl,p4,p4',p5,p5',y1,y2,y3,y4,z4,z5,m1,hl1,aB0];try simp (disch:=omega) only[Aa_]) | refine Ac_ ?_ | (refine As_ ?_ ?_ ?_;(· (simp[hnt,dT,dNd,hfm,hlt,hu,hu',g0,g0',gl,p4,p4',p5,p5',y1,y2,y3,y4,z4,z5,m1,hl1,aB0];done));(try (rotate_left;(· (intro hc;(try simp[hnt,dT,dNd,hfm,hlt,hu,hu',g0,g0',gl,p4,p4',p5,p5',y1,y2,y3,y4,z4,z5,m1,hl1,aB0]at hc);done))))) | (refine Al_ ?_;simp[Tryz.results263,hnt,dT,dNd,hfm,hlt,hu,hu',g0,g0',gl,p4,p4',p5,p5',y1,y2,y3,y4,z4,z5,m1,hl1,aB0]) | ((first | refine Ah_ ?_ | refine Ag_ ?_);simp[hnt,dT,dNd,hfm,hlt,hu,hu',g0,g0',gl,p4,p4',p5,p5',y1,y2,y3,y4,z4,z5,m1,hl1,aB0]) | (intro hc;(try simp[hnt,dT,dNd,hfm,hlt,hu,hu',g0,g0',gl,p4,p4',p5,p5',y1,y2,y3,y4,z4,z5,m1,hl1,aB0]at hc);(try (exfalso;omega))) | ((first | refine Ae_ (ku) ?_ | (refine Ad_ (ku) ?_ ?_;(· (simp;done))));try simp[hnt,dT,dNd,hfm,hlt,hu,hu',g0,g0',gl,p4,p4',p5,p5',y1,y2,y3,y4,z4,z5,m1,hl1,aB0]) | (refine⟨?_,?_⟩; · omega) | omega | apply_assumption -exfalso -symm | (exfalso;omega)))
     refine Ap_.mk ⟨i+1,by omega⟩ (Sub.lit (by simp[htk,hpt,dStr])) (by simp;omega)
     skip
  ·have hkk:i=ks.length:=by omega
   subst hkk
   rw[aT0]
   obtain⟨J,hJ⟩:∃J,J=Hh_ (txtL x.k ks) b:=⟨_,rfl⟩
   have hJs:J.size≤31457280:=by rw[hJ];exact Nat.le_trans (GF_ _ _ (by rw[hbz];exact GN_ _)) hbig
   rw[←hJ]at kj ⊢
   have y5:J.size+(sgn x.k).size≤maxLen:=by unfold maxLen;omega
   refine EL_ (Sub.freezeL [50] _) ?_
   simp[hnt,Tryz.results263,Cu_]
   exact go0 (aj2 kj kg) aj0 (aj1 y5)
def CV_ (t:RT):Int:=if 16<htT t then 171 else if 2048<(txtT t).size then 174 else 0
def WH_ : Ann:=⟨[],[]⟩
theorem Nb_ (t:RT) (ht:okT t=true) (hs:(flat t).length≤1310720):Aj_ Tryz.prog 182 [dNds (flat t)] (.int .i64 (CV_ t)):=by
 refine Ab_ [] (fn:=Tryz.f182) Tryz.func182 rfl Tryz.call182 (by simp[Tryz.ntmps182]) (by simp[mx]) ?_
 intro hwf B hnt
 simp only[Tryz.ntmps182]at hnt
 have hgAnn:=Ao_ WH_ Tryz.mixed (aj2 @WH_.eq_1 Tryz.results182)
 clear hwf
 simp only[argS]
 have k1:=Hx_ t ht hs
 have k2:=JA_ _ t rfl ht hs
 unfold CV_
 obtain⟨T,hT⟩:∃T,T=txtT t:=⟨_,rfl⟩
 rw[←hT]at k2 ⊢
 by_cases c1:16<htT t
 ·have d1:(16:Int)<(htT t:Int):=by omega
  exact go0 (aj2 k1 k2) aj0 (aj2 c1 d1)
 ·have d1:¬(16:Int)<(htT t:Int):=by omega
  by_cases c2:2048<T.size
  ·have d2:(2048:Int)<(T.size:Int):=by omega
   exact go0 (aj2 k1 k2) aj0 (aj4 c1 d1 c2 d2)
  ·have d2:¬(2048:Int)<(T.size:Int):=by omega
   exact go0 (aj2 k1 k2) aj0 (aj4 c1 d1 c2 d2)
def Hc_ : Ann:=⟨[],[]⟩
theorem JT_ (t:RT) (ht:okT t=true) (h:(flat t).length≤2048):Aj_ Tryz.prog 101 [dNds (flat t)] (.int .i64 (CV_ t)):=by
 refine Ab_ [] (fn:=Tryz.f101) Tryz.func101 rfl Tryz.call101 (by simp[Tryz.ntmps101]) (by simp[mx]) ?_
 intro hwf B hnt
 simp only[Tryz.ntmps101]at hnt
 have hgAnn:=Ao_ Hc_ Tryz.mixed (aj2 @Hc_.eq_1 Tryz.results101)
 clear hwf
 simp only[argS]
 have k1:=Ea_ (flat t) (by omega)
 rw[DL_ ht]at k1
 have k2:=Nb_ t ht (by omega)
 have d1:¬(2048:Int)<((flat t).length:Int):=by omega
 have d2:¬2048<(flat t).length:=by omega
 exact go0 (aj2 k1 k2) aj0 (aj2 d1 d2)
theorem JU_ (l:List Nd) (h:2048<l.length):Aj_ Tryz.prog 101 [dNds l] (.int .i64 3):=by
 refine Ab_ [] (fn:=Tryz.f101) Tryz.func101 rfl Tryz.call101 (by simp[Tryz.ntmps101]) (by simp[mx]) ?_
 intro hwf B hnt
 simp only[Tryz.ntmps101]at hnt
 have hgAnn:=Ao_ Hc_ Tryz.mixed (aj2 @Hc_.eq_1 Tryz.results101)
 clear hwf
 simp only[argS]
 have d1:(2048:Int)<(l.length:Int):=by omega
 exact go0 aj0 aj0 (aj2 d1 h)
theorem TI_ (l:List Nd) (h:l.length≤2048) (hw:CT_ l=false):Aj_ Tryz.prog 101 [dNds l] (.int .i64 170):=by
 refine Ab_ [] (fn:=Tryz.f101) Tryz.func101 rfl Tryz.call101 (by simp[Tryz.ntmps101]) (by simp[mx]) ?_
 intro hwf B hnt
 simp only[Tryz.ntmps101]at hnt
 have hgAnn:=Ao_ Hc_ Tryz.mixed (aj2 @Hc_.eq_1 Tryz.results101)
 clear hwf
 simp only[argS]
 have k1:=Ea_ l (by omega)
 rw[hw]at k1
 have d1:¬(2048:Int)<(l.length:Int):=by omega
 have d2:¬2048<l.length:=by omega
 exact go0 (aj1 k1) aj0 (aj2 d1 d2)
def KR_ : Ann:=⟨[],[]⟩
theorem II_ (t:RT) (ht:okT t=true) (hs:(flat t).length≤1310720):Aj_ Tryz.prog 232 [dNds (flat t)] (.int .i64 (htT t)):=by
 refine Ab_ [] (fn:=Tryz.f232) Tryz.func232 rfl Tryz.call232 (by simp[Tryz.ntmps232]) (by simp[mx]) ?_
 intro hwf B hnt
 simp only[Tryz.ntmps232]at hnt
 have hgAnn:=Ao_ KR_ Tryz.mixed (aj2 @KR_.eq_1 Tryz.results232)
 clear hwf
 simp only[argS]
 have k1:=Ea_ (flat t) hs
 rw[DL_ ht]at k1
 have k2:=Hx_ t ht hs
 exact go0 (aj2 k1 k2) aj0 aj0
theorem RB_ (l:List Nd) (hs:l.length≤1310720) (hw:CT_ l=false):Aj_ Tryz.prog 232 [dNds l] (.int .i64 0):=by
 refine Ab_ [] (fn:=Tryz.f232) Tryz.func232 rfl Tryz.call232 (by simp[Tryz.ntmps232]) (by simp[mx]) ?_
 intro hwf B hnt
 simp only[Tryz.ntmps232]at hnt
 have hgAnn:=Ao_ KR_ Tryz.mixed (aj2 @KR_.eq_1 Tryz.results232)
 clear hwf
 simp only[argS]
 have k1:=Ea_ l hs
 rw[hw]at k1
 exact go0 (aj1 k1) aj0 aj0
structure At (l:List Nd) (p:Nat) (t:RT):Prop where
 ok:okT t=true
 le:p≤l.length
 eq:∃r,l.drop p=flat t++r
def kidP (p:Nat) (ks:List RT) (i:Nat):Nat:=p+1+(At_ (ks.take i)).length
def kidD (n:Nat):List DVal:=[.int .i64 (n:Int)]
def LL_ (p:Nat) (ks:List RT):DVal:= .sl 1 8 ((List.range ks.length).map fun i=>kidD (kidP p ks i))
@[simp] theorem mx_kidD (n:Nat):mxL (kidD n)=0:=by simp[kidD,mxL,mx]
@[simp] theorem FR_ (p:Nat) (ks:List RT) (n:Nat):mxR ((List.range n).map fun i=>kidD (kidP p ks i))=0:=mxR0 (fun i=>kidD (kidP p ks i)) (fun i=>mx_kidD _) _
theorem At.top {t:RT} (h:okT t=true):At (flat t) 0 t:=⟨h,by omega,[],by simp⟩
theorem At.kid {l:List Nd} {p:Nat} {x:Nd} {ks:List RT} (h:At l p (.mk x ks)) {i:Nat} {u:RT} (hu:ks[i]? =some u):At l (kidP p ks i) u∧endN (l.drop (kidP p ks i)) 1=some (l.drop (kidP p ks (i+1)))∧kidP p ks (i+1)≤l.length:=by
 obtain⟨hok,hle,r,hr⟩:=h
 obtain⟨_,_,h3⟩:=BD_ hok
 obtain⟨hi,rfl⟩:=aC0.1 hu
 have hlen:(l.drop p).length=1+(At_ ks).length+r.length:=by rw[hr,AF_,aD0,List.length_cons];omega
 rw[cD0]at hlen
 have hsp:=HQ_ ks i
 have hdr:=aR0 hi
 have hnx:=Jt_ (ks:=ks) hu
 have hfl:(At_ ks).length=(At_ (ks.take i)).length+((flat ks[i]).length+(At_ (ks.drop (i+1))).length):=by rw[hsp,aD0,hdr,Au_,aD0]
 have hdrop:l.drop (kidP p ks i)=flat ks[i]++(At_ (ks.drop (i+1))++r):=by
  unfold kidP
  rw[cR0,←eX0,hr,AF_,Nat.add_comm 1,List.cons_append,dU0,hsp,aU0,dV0 (Nat.le_refl _),bP0,List.nil_append,hdr,Au_,aU0]
 have hoku:okT ks[i]=true:=OH_ h3 _ (dC0 hi)
 refine⟨⟨hoku,by unfold kidP;omega,_,hdrop⟩,?_,by unfold kidP;omega⟩
 rw[hdrop,EE_ _ _ 0 hoku,BP_]
 congr 1
 have h5:kidP p ks (i+1)=kidP p ks i+(flat ks[i]).length:=by unfold kidP;omega
 have h6:l.drop (kidP p ks i+(flat ks[i]).length)=(l.drop (kidP p ks i)).drop (flat ks[i]).length:=by rw[eX0]
 rw[h5,h6,hdrop,dV0 (Nat.le_refl _),bP0,List.nil_append]
theorem At.head {l:List Nd} {p:Nat} {t:RT} (h:At l p t):l[p]? =some t.x∧p<l.length∧p+(flat t).length≤l.length:=by
 obtain⟨hok,hle,r,hr⟩:=h
 have h1:=Fl_ t
 have h2:=congrArg List.length hr
 rw[cD0,aD0]at h2
 refine⟨?_,by omega,by omega⟩
 have h3:(l.drop p)[0]? =some t.x:=by rw[hr,bA0 (by omega)];exact LY_ t
 rw[cS0]at h3
 simpa using h3
def PZ_ : Ann:=⟨[],[]⟩
set_option maxHeartbeats 4000000 in
theorem Da_ (l:List Nd) (p:Nat) (x:Nd) (ks:List RT) (h:At l p (.mk x ks)) (hs:l.length≤1310720):Aj_ Tryz.prog 205 [dNds l,.int .i64 p] (LL_ p ks):=by
 refine Ab_ [50] (fn:=Tryz.f205) Tryz.func205 rfl Tryz.call205 (by simp[Tryz.ntmps205]) (by simp[mx,LL_]) ?_
 intro hwf B hnt
 simp only[Tryz.ntmps205]at hnt
 have hgAnn:=Ao_ PZ_ Tryz.mixed (aj2 @PZ_.eq_1 Tryz.results205)
 clear hwf
 simp only[argS]
 obtain⟨hm,hn,hok⟩:=BD_ h.ok
 obtain⟨g0,gl,ge⟩:=h.head
 have g0':l[p]'gl=x:=(aC0.1 g0).2
 have hkl:ks.length≤1310720:=by have:=BO_ ks;rw[AF_,List.length_cons]at ge;omega
 simp only[RT.x]at g0
 unfold LL_
 (refine go1 aj0 aj0 aj0 ?_;intros;refine mk_i ?_)
 refine Bn_ 5 50 3 1 8 (by simp[hnt,Tryz.results205,PZ_]) (fun n=> ?_)
 refine Am_ (X:={i:Nat//i≤ks.length}) (fun i=>⟨[(0,dNds l),(1,.int .i64 p),(5,.osl 50 1),(6,.int .i64 (kidP p ks i.1)),(7,.int .i64 i.1)],[⟨50,1,.row 3 1 8 ((List.range i.1).map fun i=>kidD (kidP p ks i))⟩]⟩) (fun i=>ks.length-i.1) ⟨0,by omega⟩ (Sub.lit (by simp[kidP,At_])) ?_
 rintro⟨i,hi⟩
 simp only
 by_cases hlt:i<ks.length
 ·obtain⟨u,hu,hu',_⟩:=Aq_ hlt
  obtain⟨a1,a2,a3⟩:=h.kid hu
  have e1:=HT_ l (kidP p ks i) hs a1.le
  unfold endI at e1
  rw[a2]at e1
  simp only[cD0]at e1
  have hq:(l.length:Int)-((l.length-kidP p ks (i+1):Nat):Int)=(kidP p ks (i+1):Int):=by omega
  rw[hq]at e1
  have hr:(List.range (i+1)).map (fun i=>kidD (kidP p ks i))=(List.range i).map (fun i=>kidD (kidP p ks i))++[kidD (kidP p ks i)]:=by rw[dX0,aY0];rfl
  have z1:(i+1)*8≤150000000000000:=by omega
  have z2:i+1≤9223372036854775807:=by omega
  obtain⟨q,hqq⟩:∃q,q=kidP p ks i:=⟨_,rfl⟩
  obtain⟨q',hqq'⟩:∃q',q'=kidP p ks (i+1):=⟨_,rfl⟩
  rw[←hqq,←hqq']at e1
  rw[←hqq]at hr ⊢
  have hDm:=FR_ p ks i
  have hDl:((List.range i).map fun i=>kidD (kidP p ks i)).length=i:=by simp
  obtain⟨D,hD⟩:∃D,D=(List.range i).map fun i=>kidD (kidP p ks i):=⟨_,rfl⟩
  rw[←hD]at hr hDm hDl ⊢
  have hr2:(List.range (i+1)).map (fun i=>kidD (kidP p ks i))=D++[[.int .i64 (q:Int)]]:=hr
  clear hD hr
  (refine go1 (aj1 e1) aj0 (aj9 @dNd.eq_1 g0 g0' gl hn hlt z1 z2 hDl) ?_;intros;refine mk_i ?_)
  refine Ap_.mk ⟨i+1,by omega⟩ (Sub.lit (by simp only[←hqq',hr2];simp[hDm,Bg_])) (by simp;omega)
  skip
 ·have hkk:i=ks.length:=by omega
  subst hkk
  exact go0 aj0 aj0 (aj5 @dNd.eq_1 g0 g0' gl hn)
theorem Vj_ : ∀(a:List RT) (u:RT),htL (a++[u])=max (htL a) (htT u)
 | [],u=>by rw[List.nil_append,GH_,LQ_];omega
 | t::a,u=>by rw[List.cons_append,GH_,Vj_ a u,GH_];omega
theorem htL_take {ks:List RT} {i:Nat} {u:RT} (h:ks[i]? =some u):htL (ks.take (i+1))=max (htL (ks.take i)) (htT u):=by
 rw[bF0,h];exact Vj_ _ _
mutual
theorem ht_leT : ∀t:RT,htT t≤(flat t).length
 | .mk x ks=>by rw[Vi_,AF_,List.length_cons];have:=ht_leL ks;omega
theorem ht_leL : ∀ts:List RT,htL ts≤(At_ ts).length
 | []=>by rw[LQ_];omega
 | t::ts=>by rw[GH_,Au_,aD0];have:=ht_leT t;have:=ht_leL ts;omega
end
theorem Pv_ (ks:List RT) (i:Nat):(At_ (ks.take i)).length≤(At_ ks).length:=by
 have:=congrArg List.length (HQ_ ks i)
 rw[aD0]at this
 omega
theorem Fh_ {p:Nat} {ks:List RT} {i:Nat} (h:i<ks.length):((List.range ks.length).map fun i=>kidD (kidP p ks i))[i]? =some [.int .i64 (kidP p ks i:Int)]:=by
 rw[bI0,eT0 h];rfl
def Wy_ : Ann:=⟨[],[]⟩
set_option maxHeartbeats 4000000 in
theorem Hw_ : ∀(n:Nat) (t:RT) (l:List Nd) (p:Nat),(flat t).length=n→At l p t→l.length≤1310720→Aj_ Tryz.prog 204 [dNds l,.int .i64 p] (.int .i64 (htT t)):=by
 intro n
 induction n using Nat.strongRecOn with
 | ind n ih =>
 intro t l p hn ht hs
 obtain⟨x,ks⟩:=t
 have kk:=Da_ l p x ks ht hs
 obtain⟨g0,gl,ge⟩:=ht.head
 have hfl:(flat (.mk x ks)).length=(At_ ks).length+1:=by rw[AF_,List.length_cons]
 have hkl:=BO_ ks
 have hk9:ks.length≤1310720:=by omega
 have hch:∀i u,ks[i]? =some u→Aj_ Tryz.prog 204 [dNds l,.int .i64 (kidP p ks i)] (.int .i64 (htT u)):=fun i u hu=>by
  have hm:=Ds_ (bM0 hu)
  exact ih (flat u).length (by omega) u l _ rfl (ht.kid hu).1 hs
 have hrow:∀i,i<ks.length→_:=fun i h=>Fh_ (p:=p) (ks:=ks) (i:=i) h
 have hht:htL ks≤1310720:=by have:=ht_leL ks;omega
 rw[Vi_]
 unfold LL_ at kk
 obtain⟨D,hD⟩:∃D,D=(List.range ks.length).map fun i=>kidD (kidP p ks i):=⟨_,rfl⟩
 have hDl:D.length=ks.length:=by rw[hD];simp
 have hDm:mxR D=0:=by rw[hD];exact FR_ p ks _
 rw[←hD]at kk hrow
 clear hD ih ht g0 gl ge hn
 refine Ab_ [] (fn:=Tryz.f204) Tryz.func204 rfl Tryz.call204 (by simp[Tryz.ntmps204]) (by simp[mx]) ?_
 intro hwf B hnt
 simp only[Tryz.ntmps204]at hnt
 have hgAnn:=Ao_ Wy_ Tryz.mixed (aj2 @Wy_.eq_1 Tryz.results204)
 clear hwf
 simp only[argS]
 (refine go1 (aj1 kk) aj0 aj0 ?_;intros;refine mk_i ?_)
 refine Am_ (X:={i:Nat//i≤ks.length}) (fun i=>⟨[(0,dNds l),(5,.int .i64 (htL (ks.take i.1))),(6,.sl 1 8 D),(7,.int .i64 i.1)],[]⟩) (fun i=>ks.length-i.1) ⟨0,by omega⟩ (Sub.lit (by simp[LQ_,hDm])) ?_
 rintro⟨i,hi⟩
 simp only
 by_cases hlt:i<ks.length
 ·obtain⟨u,hu,hu',_⟩:=Aq_ hlt
  have e1:=hch i u hu
  have hr:=hrow i hlt
  have hltD:i<D.length:=by omega
  have hwi:IntKind.i64.wrap ((i:Int)+1)=(i:Int)+1:=Aa_ (by omega) (by omega)
  have hr':D[i]'hltD=[.int .i64 (kidP p ks i:Int)]:=(aC0.1 hr).2
  have htk:=htL_take hu
  obtain⟨a,ha⟩:∃a,a=htL (ks.take i):=⟨_,rfl⟩
  obtain⟨c,hcc⟩:∃c,c=htT u:=⟨_,rfl⟩
  rw[←ha,←hcc]at htk
  rw[←hcc]at e1
  rw[←ha]
  obtain⟨q,hq⟩:∃q,q=kidP p ks i:=⟨_,rfl⟩
  rw[←hq]at e1 hr hr'
  by_cases hgt:a<c
  ·have hgt':(a:Int)<(c:Int):=by omega
   have hmx:((htL (ks.take (i+1)):Nat):Int)=(c:Int):=by omega
   (refine go1 (aj1 e1) aj0 (aj8 hDl hltD hwi hr hr' hgt hgt' hlt) ?_;intros;refine mk_i ?_)
   refine Ap_.mk ⟨i+1,by omega⟩ (Sub.lit (by simp only[hmx];simp[hDm])) (by simp;omega)
   skip
  ·have hgt':¬(a:Int)<(c:Int):=by omega
   have hmx:((htL (ks.take (i+1)):Nat):Int)=(a:Int):=by omega
   (refine go1 (aj1 e1) aj0 (aj8 hDl hltD hwi hr hr' hgt hgt' hlt) ?_;intros;refine mk_i ?_)
   refine Ap_.mk ⟨i+1,by omega⟩ (Sub.lit (by simp only[hmx];simp[hDm])) (by simp;omega)
   skip
 ·have hkk:i=ks.length:=by omega
  subst hkk
  rw[aT0]
  have q1:IntKind.i64.wrap ((htL ks:Int)+1)=(htL ks:Int)+1:=Aa_ (by omega) (by omega)
  exact go0 aj0 aj0 (aj2 hDl q1)
theorem any_take {α:Type} {f:α→Bool} {l:List α} {i:Nat} {u:α} (h:l[i]? =some u):(l.take (i+1)).any f=((l.take i).any f||f u):=by
 rw[bF0,h,eJ0];simp
theorem all_take {α:Type} {f:α→Bool} {l:List α} {i:Nat} {u:α} (h:l[i]? =some u):(l.take (i+1)).all f=((l.take i).all f&&f u):=by
 rw[bF0,h,eU0];simp
def Wz_ : Ann:=⟨[],[]⟩
set_option maxHeartbeats 4000000 in
theorem Ej_ : ∀(n:Nat) (t:RT) (l:List Nd) (p:Nat),(flat t).length=n→At l p t→l.length≤1310720→Aj_ Tryz.prog 142 [dNds l,.int .i64 p] (.bool (empT t)):=by
 intro n
 induction n using Nat.strongRecOn with
 | ind n ih =>
 intro t l p hn ht hs
 obtain⟨x,ks⟩:=t
 have kk:=Da_ l p x ks ht hs
 have hm:=(BD_ ht.ok).1
 obtain⟨g0,gl,ge⟩:=ht.head
 simp only[RT.x]at g0
 have g0':l[p]'gl=x:=(aC0.1 g0).2
 have hfl:(flat (.mk x ks)).length=(At_ ks).length+1:=by rw[AF_,List.length_cons]
 have hkl:=BO_ ks
 have hk9:ks.length≤1310720:=by omega
 have hch:∀i u,ks[i]? =some u→Aj_ Tryz.prog 142 [dNds l,.int .i64 (kidP p ks i)] (.bool (empT u)):=fun i u hu=>by
  have hm:=Ds_ (bM0 hu)
  exact ih (flat u).length (by omega) u l _ rfl (ht.kid hu).1 hs
 have hrow:∀i,i<ks.length→_:=fun i h=>Fh_ (p:=p) (ks:=ks) (i:=i) h
 rw[Me_,KG_,KW_]
 unfold LL_ at kk
 obtain⟨D,hD⟩:∃D,D=(List.range ks.length).map fun i=>kidD (kidP p ks i):=⟨_,rfl⟩
 have hDl:D.length=ks.length:=by rw[hD];simp
 have hDm:mxR D=0:=by rw[hD];exact FR_ p ks _
 rw[←hD]at kk hrow
 clear hD ih ht ge hn
 refine Ab_ [] (fn:=Tryz.f142) Tryz.func142 rfl Tryz.call142 (by simp[Tryz.ntmps142]) (by simp[mx]) ?_
 intro hwf B hnt
 simp only[Tryz.ntmps142]at hnt
 have hgAnn:=Ao_ Wz_ Tryz.mixed (aj2 @Wz_.eq_1 Tryz.results142)
 clear hwf
 simp only[argS]
 (refine go1 (aj1 kk) aj0 (aj4 @dNd.eq_1 g0 g0' gl) ?_;intros;refine mk_i ?_)
 refine Am_ (X:={i:Nat//i≤ks.length}) (fun i=>⟨[(0,dNds l),(5,.int .i64 x.k),(6,.sl 1 8 D),(7,.bool ((ks.take i.1).any empT)),(8,.bool ((ks.take i.1).all empT)),(9,.int .i64 i.1)],[]⟩) (fun i=>ks.length-i.1) ⟨0,by omega⟩ (Sub.lit (by simp[hDm])) ?_
 rintro⟨i,hi⟩
 simp only
 by_cases hlt:i<ks.length
 ·obtain⟨u,hu,hu',_⟩:=Aq_ hlt
  have e1:=hch i u hu
  have hr:=hrow i hlt
  have hltD:i<D.length:=by omega
  have hwi:IntKind.i64.wrap ((i:Int)+1)=(i:Int)+1:=Aa_ (by omega) (by omega)
  have hr':D[i]'hltD=[.int .i64 (kidP p ks i:Int)]:=(aC0.1 hr).2
  have h1:=any_take (f:=empT) hu
  have h2:=all_take (f:=empT) hu
  obtain⟨a,ha⟩:∃a,a=(ks.take i).any empT:=⟨_,rfl⟩
  obtain⟨b,hb⟩:∃b,b=(ks.take i).all empT:=⟨_,rfl⟩
  rw[←ha]at h1
  rw[←hb]at h2
  rw[←ha,←hb]
  obtain⟨q,hq⟩:∃q,q=kidP p ks i:=⟨_,rfl⟩
  rw[←hq]at e1 hr hr'
  (refine go1 (aj1 e1) aj0 (aj6 hDl hltD hwi hr hr' hlt) ?_;intros;refine mk_i ?_)
  refine Ap_.mk ⟨i+1,by omega⟩ (Sub.lit (by simp only[h1,h2];simp[hDm])) (by simp;omega)
  skip
 ·have hkk:i=ks.length:=by omega
  subst hkk
  rw[aT0]
  rcases Iy_ hm with k | k | k | k | k | k | k | k<;>exact go0 aj0 aj0 (aj2 hDl k)
theorem okL_take {ks:List RT} (h:okL ks=true) (i:Nat):okL (ks.take i)=true:=by
 have:=OI_ (ks.take i) (ks.drop i)
 rw[List.take_append_drop,h]at this
 simpa using (by simpa using this.symm:okL (ks.take i)=true∧okL (ks.drop i)=true).1
def accT (x:Nd) (ks:List RT) (i:Nat):ByteArray:=if i=0 then x.s else Hh_ (txtL x.k (ks.take i)) (btw x.k)
theorem MB_ (x:Nd) (ks:List RT):accT x ks 0=x.s:=rfl
theorem accT_one {x:Nd} {ks:List RT} {u:RT} (h:ks[0]? =some u):accT x ks 1=parT x.k u.x.k (txtT u):=by
 unfold accT
 rw[if_neg (by omega),show ks.take 1=[u] by rw[bF0,h];simp,Ex_,Km_]
 rfl
theorem accT_succ {x:Nd} {ks:List RT} {i:Nat} {u:RT} (hi:0<i) (h:ks[i]? =some u):accT x ks (i+1)=accT x ks i++btw x.k++parT x.k u.x.k (txtT u):=by
 unfold accT
 rw[if_neg (by omega),if_neg (by omega),Qo_ h]
 obtain⟨hl,_⟩:=aC0.1 h
 have hne:txtL x.k (ks.take i)≠[]:=fun e=>by
  have:=congrArg List.length e
  rw[Oc_,aX0]at this
  simp only[List.length_nil]at this
  omega
 cases hx:txtL x.k (ks.take i)with
 | nil=>exact absurd hx hne
 | cons y r =>
  show (r++[_]).foldl (DF_ (btw x.k)) y=_
  rw[cQ0]
  rfl
theorem accT_size {x:Nd} {ks:List RT} (hok:okL ks=true) (hs:x.s.size≤16) (i:Nat):(accT x ks i).size≤16+24*(At_ ks).length:=by
 unfold accT
 split
 ·omega
 ·have h1:=GF_ (txtL x.k (ks.take i)) (btw x.k) (GN_ _)
  have h2:=(Id_ x.k (ks.take i) (okL_take hok i)).1
  have h3:=Pv_ ks i
  omega
theorem empty_s {x:Nd} (h:mayN x=true) (h2:¬(x.k=2∨x.k=3)):x.s=⟨#[]⟩:=by
 unfold mayN emp at h
 rw[if_neg (fun e=>h2 (.inl e)),if_neg (fun e=>h2 (.inr e))]at h
 repeat' split at h
 all_goals simp only[aN0,decide_eq_true_eq,aQ0]at h
 all_goals first | exact h.1 | (exact absurd h (by simp))
theorem Qz_ (x:ByteArray):x++(⟨#[]⟩:ByteArray)=x:=by
 apply Gj_
 simp[ByteArray.data_append]
def Bf_ : Ann:=⟨[],[]⟩
set_option maxHeartbeats 8000000 in
theorem Lb_ : ∀(n:Nat) (t:RT) (l:List Nd) (p:Nat),(flat t).length=n→At l p t→l.length≤1310720→Aj_ Tryz.prog 135 [dNds l,.int .i64 p] (.str (txtT t)):=by
 intro n
 induction n using Nat.strongRecOn with
 | ind n ih =>
 intro t l p hn ht hs
 obtain⟨x,ks⟩:=t
 have kk:=Da_ l p x ks ht hs
 obtain⟨hm,hkn,hok⟩:=BD_ ht.ok
 obtain⟨g0,gl,ge⟩:=ht.head
 simp only[RT.x]at g0
 have g0':l[p]'gl=x:=(aC0.1 g0).2
 have hfl:(flat (.mk x ks)).length=(At_ ks).length+1:=by rw[AF_,List.length_cons]
 have hkl:=BO_ ks
 have hk9:ks.length≤1310720:=by omega
 have hch:∀i u,ks[i]? =some u→Aj_ Tryz.prog 135 [dNds l,.int .i64 (kidP p ks i)] (.str (txtT u))∧l[kidP p ks i]? =some u.x∧(txtT u).size≤31457280:=fun i u hu=>by
  have hm:=Ds_ (bM0 hu)
  have hu2:=(ht.kid hu).1
  have h3:=(FD_ u hu2.ok).2
  exact⟨ih (flat u).length (by omega) u l _ rfl hu2 hs,hu2.head.1,by omega⟩
 have hrow:∀i,i<ks.length→_:=fun i h=>Fh_ (p:=p) (ks:=ks) (i:=i) h
 have hacs:=accT_size (x:=x) hok (LF_ hm)
 have hxs:=LF_ hm
 have hbig:16+24*(At_ ks).length≤31457300:=by omega
 rw[Ob_]
 unfold LL_ at kk
 obtain⟨D,hD⟩:∃D,D=(List.range ks.length).map fun i=>kidD (kidP p ks i):=⟨_,rfl⟩
 have hDl:D.length=ks.length:=by rw[hD];simp
 have hDm:mxR D=0:=by rw[hD];exact FR_ p ks _
 rw[←hD]at kk hrow
 have h6:x.k=6∨x.k=7∨x.k=8→ks.length=1:=fun h=>by obtain⟨u,rfl⟩:=OD_ ht.ok h;rfl
 have h8:¬x.k=1→¬(x.k=2∨x.k=3)→¬x.k=5→x.k=4∨x.k=6∨x.k=7∨x.k=8:=fun a b c=>by have:=Iy_ hm;omega
 have hlf:x.k=2∨x.k=3→ks.length=0:=fun h=>by rw[Fg_ ht.ok h];rfl
 have hpos:¬x.k=1→¬(x.k=2∨x.k=3)→1≤ks.length:=fun a b=>by have:=LG_ hm a b;omega
 have hemp:¬(x.k=2∨x.k=3)→x.s=⟨#[]⟩:=empty_s hm
 clear hD ih ht ge hn hok hm
 have z0:(⟨#[]⟩:ByteArray).size=0:=rfl
 have z1:(⟨#[37]⟩:ByteArray).size=1:=rfl
 have z2:(⟨#[32]⟩:ByteArray).size=1:=rfl
 have z3:(⟨#[32,124,32]⟩:ByteArray).size=3:=rfl
 have z4:(⟨#[40]⟩:ByteArray).size=1:=rfl
 have z5:(⟨#[41]⟩:ByteArray).size=1:=rfl
 have z6:(⟨#[42]⟩:ByteArray).size=1:=rfl
 have z7:(⟨#[43]⟩:ByteArray).size=1:=rfl
 have z8:(⟨#[63]⟩:ByteArray).size=1:=rfl
 have m1:1≤maxLen:=by decide
 have m3:3≤maxLen:=by decide
 have mbig:100000000≤maxLen:=by decide
 refine Ab_ [] (fn:=Tryz.f135) Tryz.func135 rfl Tryz.call135 (by simp[Tryz.ntmps135]) (by simp[mx]) ?_
 intro hwf B hnt
 simp only[Tryz.ntmps135]at hnt
 have hgAnn:=Ao_ Bf_ Tryz.mixed (aj2 @Bf_.eq_1 Tryz.results135)
 clear hwf
 simp only[argS]
 by_cases k1:x.k=1
 ·rw[if_pos k1]
  exact go0 aj0 aj0 (aj7 @dNd.eq_1 g0 g0' gl z1 m1 k1)
 rw[if_neg k1]
 obtain⟨R,hR⟩:∃R,R=(if x.k=2∨x.k=3 then x.s else Hh_ (txtL x.k ks) (btw x.k)++sgn x.k):=⟨_,rfl⟩
 rw[←hR]
 have k1':(x.k==1)=false:=by simpa using k1
 (refine go1 (aj1 kk) aj0 (aj6 @dNd.eq_1 g0 g0' gl k1 k1') ?_;intros;refine mk_i ?_)
 refine Am_ (X:={i:Nat//i≤ks.length}) (fun i=>⟨[(0,dNds l),(5,.int .i64 x.k),(6,.str (accT x ks i.1)),(7,.sl 1 8 D),(8,.int .i64 i.1)],[]⟩) (fun i=>ks.length-i.1) ⟨0,by omega⟩ (Sub.lit (by simp[MB_,hDm])) ?_
 rintro⟨i,hi⟩
 simp only
 by_cases hlt:i<ks.length
 ·have k2:¬(x.k=2∨x.k=3):=fun h=>by have:=hlf h;omega
  have hx0:=hemp k2
  obtain⟨u,hu,hu',_⟩:=Aq_ hlt
  obtain⟨e1,gu,hus⟩:=hch i u hu
  have hr:=hrow i hlt
  have hltD:i<D.length:=by omega
  have hwi:IntKind.i64.wrap ((i:Int)+1)=(i:Int)+1:=Aa_ (by omega) (by omega)
  have hr':D[i]'hltD=[.int .i64 (kidP p ks i:Int)]:=(aC0.1 hr).2
  have hac:=hacs i
  obtain⟨q,hq⟩:∃q,q=kidP p ks i:=⟨_,rfl⟩
  rw[←hq]at e1 hr hr' gu
  have gq:q<l.length:=(aC0.1 gu).1
  have gu':l[q]'gq=u.x:=(aC0.1 gu).2
  have hpt:parT x.k u.x.k (txtT u)=if parB x.k u.x.k then ⟨#[40]⟩++txtT u++⟨#[41]⟩else txtT u:=rfl
  have hnx:accT x ks (i+1)=(if i=0 then ⟨#[]⟩else accT x ks i++btw x.k)++parT x.k u.x.k (txtT u):=by
   by_cases h0:i=0
   ·subst h0;rw[if_pos rfl,Ko_];exact accT_one hu
   ·rw[if_neg h0];exact accT_succ (by omega) hu
  have hz:i=0→accT x ks i=⟨#[]⟩:=fun h=>by rw[h,MB_,hx0]
  obtain⟨s,hs2⟩:∃s,s=txtT u:=⟨_,rfl⟩
  rw[←hs2]at e1 hus hpt hnx
  obtain⟨P,hP⟩:∃P,P=parT x.k u.x.k s:=⟨_,rfl⟩
  rw[←hP]at hpt hnx
  obtain⟨a,ha⟩:∃a,a=accT x ks i:=⟨_,rfl⟩
  rw[←ha]at hac hnx hz ⊢
  have y3:1+s.size≤maxLen:=by omega
  have y4:1+s.size+1≤maxLen:=by omega
  have y5:a.size+3≤maxLen:=by omega
  have y6:a.size+1≤maxLen:=by omega
  have y7:a.size+P.size≤maxLen:=by
   have:=(Iv_ x.k u.x.k s).2;rw[←hP]at this;omega
  have y8:a.size+3+P.size≤maxLen:=by
   have:=(Iv_ x.k u.x.k s).2;rw[←hP]at this;omega
  have y9:a.size+1+P.size≤maxLen:=by omega
  unfold parB at hpt
  clear hs2 ha hP
  unfold btw at hnx
  by_cases h0:i=0
  ·have hp0:¬(0:Int)<(i:Int):=by omega
   rw[if_pos h0,Ko_]at hnx
   have ha0:=hz h0
   subst ha0
   have w1:⟨#[]⟩++P=P:=Ko_ P
   have y7':P.size≤maxLen:=by omega
   by_cases p5:u.x.k=5
   ·simp[p5]at hpt
    subst hpt
    simp only[aB0,z4,z5]at y7'
    (repeat (first | refine Ak_ fun K hK=> ?_ | (refine DW_r Bf_ Tryz.mixed (by kernel_rfl) ?_;simp[Bf_,hnt,dNd,gu,gu',gq,hltD,hDl,hwi,hr,hr',hlt,hp0,p5,z0,z4,z5,m1,y3,y4,y7',w1,aB0];try simp (disch:=omega) only[Aa_]) | refine Ac_ ?_ | (refine As_ ?_ ?_ ?_;(· (simp[hnt,dNd,gu,gu',gq,hltD,hDl,hwi,hr,hr',hlt,hp0,p5,z0,z4,z5,m1,y3,y4,y7',w1,aB0];done));(try (rotate_left;(· (intro hc;(try simp[hnt,dNd,gu,gu',gq,hltD,hDl,hwi,hr,hr',hlt,hp0,p5,z0,z4,z5,m1,y3,y4,y7',w1,aB0]at hc);done))))) | (refine Al_ ?_;simp[Tryz.results135,hnt,dNd,gu,gu',gq,hltD,hDl,hwi,hr,hr',hlt,hp0,p5,z0,z4,z5,m1,y3,y4,y7',w1,aB0]) | ((first | refine Ah_ ?_ | refine Ag_ ?_);simp[hnt,dNd,gu,gu',gq,hltD,hDl,hwi,hr,hr',hlt,hp0,p5,z0,z4,z5,m1,y3,y4,y7',w1,aB0]) | (intro hc;(try simp[hnt,dNd,gu,gu',gq,hltD,hDl,hwi,hr,hr',hlt,hp0,p5,z0,z4,z5,m1,y3,y4,y7',w1,aB0]at hc);(try (exfalso;omega))) | ((first | refine Ae_ (e1) ?_ | (refine Ad_ (e1) ?_ ?_;(· (simp;done))));try simp[hnt,dNd,gu,gu',gq,hltD,hDl,hwi,hr,hr',hlt,hp0,p5,z0,z4,z5,m1,y3,y4,y7',w1,aB0]) | (refine⟨?_,?_⟩; · omega) | omega | apply_assumption -exfalso -symm | (exfalso;omega)))
    refine Ap_.mk ⟨i+1,by omega⟩ (Sub.lit (by simp[hnx,hDm])) (by simp;omega)
    skip
   ·have p5':(u.x.k==5)=false:=by simpa using p5
    by_cases p4:u.x.k=4
    ·by_cases q5:x.k=5
     ·simp[p4,q5]at hpt
      subst hpt
      (repeat (first | refine Ak_ fun K hK=> ?_ | (refine DW_r Bf_ Tryz.mixed (by kernel_rfl) ?_;simp[Bf_,hnt,dNd,gu,gu',gq,hltD,hDl,hwi,hr,hr',hlt,hp0,p4,p5,p5',q5,z0,z4,z5,m1,y3,y4,y7',w1,aB0];try simp (disch:=omega) only[Aa_]) | refine Ac_ ?_ | (refine As_ ?_ ?_ ?_;(· (simp[hnt,dNd,gu,gu',gq,hltD,hDl,hwi,hr,hr',hlt,hp0,p4,p5,p5',q5,z0,z4,z5,m1,y3,y4,y7',w1,aB0];done));(try (rotate_left;(· (intro hc;(try simp[hnt,dNd,gu,gu',gq,hltD,hDl,hwi,hr,hr',hlt,hp0,p4,p5,p5',q5,z0,z4,z5,m1,y3,y4,y7',w1,aB0]at hc);done))))) | (refine Al_ ?_;simp[Tryz.results135,hnt,dNd,gu,gu',gq,hltD,hDl,hwi,hr,hr',hlt,hp0,p4,p5,p5',q5,z0,z4,z5,m1,y3,y4,y7',w1,aB0]) | ((first | refine Ah_ ?_ | refine Ag_ ?_);simp[hnt,dNd,gu,gu',gq,hltD,hDl,hwi,hr,hr',hlt,hp0,p4,p5,p5',q5,z0,z4,z5,m1,y3,y4,y7',w1,aB0]) | (intro hc;(try simp[hnt,dNd,gu,gu',gq,hltD,hDl,hwi,hr,hr',hlt,hp0,p4,p5,p5',q5,z0,z4,z5,m1,y3,y4,y7',w1,aB0]at hc);(try (exfalso;omega))) | ((first | refine Ae_ (e1) ?_ | (refine Ad_ (e1) ?_ ?_;(· (simp;done))));try simp[hnt,dNd,gu,gu',gq,hltD,hDl,hwi,hr,hr',hlt,hp0,p4,p5,p5',q5,z0,z4,z5,m1,y3,y4,y7',w1,aB0]) | (refine⟨?_,?_⟩; · omega) | omega | apply_assumption -exfalso -symm | (exfalso;omega)))
      refine Ap_.mk ⟨i+1,by omega⟩ (Sub.lit (by simp[hnx,hDm,q5])) (by simp;omega)
      skip
     ·have q5':(x.k==5)=false:=by simpa using q5
      simp[p4,q5]at hpt
      subst hpt
      simp only[aB0,z4,z5]at y7'
      (repeat (first | refine Ak_ fun K hK=> ?_ | (refine DW_r Bf_ Tryz.mixed (by kernel_rfl) ?_;simp[Bf_,hnt,dNd,gu,gu',gq,hltD,hDl,hwi,hr,hr',hlt,hp0,p4,p5,p5',q5,q5',z0,z4,z5,m1,y3,y4,y7',w1,aB0];try simp (disch:=omega) only[Aa_]) | refine Ac_ ?_ | (refine As_ ?_ ?_ ?_;(· (simp[hnt,dNd,gu,gu',gq,hltD,hDl,hwi,hr,hr',hlt,hp0,p4,p5,p5',q5,q5',z0,z4,z5,m1,y3,y4,y7',w1,aB0];done));(try (rotate_left;(· (intro hc;(try simp[hnt,dNd,gu,gu',gq,hltD,hDl,hwi,hr,hr',hlt,hp0,p4,p5,p5',q5,q5',z0,z4,z5,m1,y3,y4,y7',w1,aB0]at hc);done))))) | (refine Al_ ?_;simp[Tryz.results135,hnt,dNd,gu,gu',gq,hltD,hDl,hwi,hr,hr',hlt,hp0,p4,p5,p5',q5,q5',z0,z4,z5,m1,y3,y4,y7',w1,aB0]) | ((first | refine Ah_ ?_ | refine Ag_ ?_);simp[hnt,dNd,gu,gu',gq,hltD,hDl,hwi,hr,hr',hlt,hp0,p4,p5,p5',q5,q5',z0,z4,z5,m1,y3,y4,y7',w1,aB0]) | (intro hc;(try simp[hnt,dNd,gu,gu',gq,hltD,hDl,hwi,hr,hr',hlt,hp0,p4,p5,p5',q5,q5',z0,z4,z5,m1,y3,y4,y7',w1,aB0]at hc);(try (exfalso;omega))) | ((first | refine Ae_ (e1) ?_ | (refine Ad_ (e1) ?_ ?_;(· (simp;done))));try simp[hnt,dNd,gu,gu',gq,hltD,hDl,hwi,hr,hr',hlt,hp0,p4,p5,p5',q5,q5',z0,z4,z5,m1,y3,y4,y7',w1,aB0]) | (refine⟨?_,?_⟩; · omega) | omega | apply_assumption -exfalso -symm | (exfalso;omega)))
      refine Ap_.mk ⟨i+1,by omega⟩ (Sub.lit (by simp[hnx,hDm])) (by simp;omega)
      skip
    ·have p4':(u.x.k==4)=false:=by simpa using p4
     simp[p4,p5]at hpt
     subst hpt
     (repeat (first | refine Ak_ fun K hK=> ?_ | (refine DW_r Bf_ Tryz.mixed (by kernel_rfl) ?_;simp[Bf_,hnt,dNd,gu,gu',gq,hltD,hDl,hwi,hr,hr',hlt,hp0,p4,p4',p5,p5',z0,z4,z5,m1,y3,y4,y7',w1,aB0];try simp (disch:=omega) only[Aa_]) | refine Ac_ ?_ | (refine As_ ?_ ?_ ?_;(· (simp[hnt,dNd,gu,gu',gq,hltD,hDl,hwi,hr,hr',hlt,hp0,p4,p4',p5,p5',z0,z4,z5,m1,y3,y4,y7',w1,aB0];done));(try (rotate_left;(· (intro hc;(try simp[hnt,dNd,gu,gu',gq,hltD,hDl,hwi,hr,hr',hlt,hp0,p4,p4',p5,p5',z0,z4,z5,m1,y3,y4,y7',w1,aB0]at hc);done))))) | (refine Al_ ?_;simp[Tryz.results135,hnt,dNd,gu,gu',gq,hltD,hDl,hwi,hr,hr',hlt,hp0,p4,p4',p5,p5',z0,z4,z5,m1,y3,y4,y7',w1,aB0]) | ((first | refine Ah_ ?_ | refine Ag_ ?_);simp[hnt,dNd,gu,gu',gq,hltD,hDl,hwi,hr,hr',hlt,hp0,p4,p4',p5,p5',z0,z4,z5,m1,y3,y4,y7',w1,aB0]) | (intro hc;(try simp[hnt,dNd,gu,gu',gq,hltD,hDl,hwi,hr,hr',hlt,hp0,p4,p4',p5,p5',z0,z4,z5,m1,y3,y4,y7',w1,aB0]at hc);(try (exfalso;omega))) | ((first | refine Ae_ (e1) ?_ | (refine Ad_ (e1) ?_ ?_;(· (simp;done))));try simp[hnt,dNd,gu,gu',gq,hltD,hDl,hwi,hr,hr',hlt,hp0,p4,p4',p5,p5',z0,z4,z5,m1,y3,y4,y7',w1,aB0]) | (refine⟨?_,?_⟩; · omega) | omega | apply_assumption -exfalso -symm | (exfalso;omega)))
     refine Ap_.mk ⟨i+1,by omega⟩ (Sub.lit (by simp[hnx,hDm])) (by simp;omega)
     skip
  ·have hp0:(0:Int)<(i:Int):=by omega
   rw[if_neg h0]at hnx
   clear hz
   by_cases q5:x.k=5
   ·rw[if_pos q5]at hnx
    have q4':(x.k==4)=false:=by simp[q5]
    by_cases p5:u.x.k=5
    ·simp[p5]at hpt
     subst hpt
     simp only[aB0,z4,z5]at y8
     (repeat (first | refine Ak_ fun K hK=> ?_ | (refine DW_r Bf_ Tryz.mixed (by kernel_rfl) ?_;simp[Bf_,hnt,dNd,gu,gu',gq,hltD,hDl,hwi,hr,hr',hlt,hp0,p5,q5,q4',z0,z3,z4,z5,m1,m3,y3,y4,y5,y8,aB0];try simp (disch:=omega) only[Aa_]) | refine Ac_ ?_ | (refine As_ ?_ ?_ ?_;(· (simp[hnt,dNd,gu,gu',gq,hltD,hDl,hwi,hr,hr',hlt,hp0,p5,q5,q4',z0,z3,z4,z5,m1,m3,y3,y4,y5,y8,aB0];done));(try (rotate_left;(· (intro hc;(try simp[hnt,dNd,gu,gu',gq,hltD,hDl,hwi,hr,hr',hlt,hp0,p5,q5,q4',z0,z3,z4,z5,m1,m3,y3,y4,y5,y8,aB0]at hc);done))))) | (refine Al_ ?_;simp[Tryz.results135,hnt,dNd,gu,gu',gq,hltD,hDl,hwi,hr,hr',hlt,hp0,p5,q5,q4',z0,z3,z4,z5,m1,m3,y3,y4,y5,y8,aB0]) | ((first | refine Ah_ ?_ | refine Ag_ ?_);simp[hnt,dNd,gu,gu',gq,hltD,hDl,hwi,hr,hr',hlt,hp0,p5,q5,q4',z0,z3,z4,z5,m1,m3,y3,y4,y5,y8,aB0]) | (intro hc;(try simp[hnt,dNd,gu,gu',gq,hltD,hDl,hwi,hr,hr',hlt,hp0,p5,q5,q4',z0,z3,z4,z5,m1,m3,y3,y4,y5,y8,aB0]at hc);(try (exfalso;omega))) | ((first | refine Ae_ (e1) ?_ | (refine Ad_ (e1) ?_ ?_;(· (simp;done))));try simp[hnt,dNd,gu,gu',gq,hltD,hDl,hwi,hr,hr',hlt,hp0,p5,q5,q4',z0,z3,z4,z5,m1,m3,y3,y4,y5,y8,aB0]) | (refine⟨?_,?_⟩; · omega) | omega | apply_assumption -exfalso -symm | (exfalso;omega)))
     refine Ap_.mk ⟨i+1,by omega⟩ (Sub.lit (by simp[hnx,hDm,q5])) (by simp;omega)
     exact go0 (aj1 e1) aj0 aj0
    ·have p5':(u.x.k==5)=false:=by simpa using p5
     simp[p5,q5]at hpt
     subst hpt
     by_cases p4:u.x.k=4
     ·(repeat (first | refine Ak_ fun K hK=> ?_ | (refine DW_r Bf_ Tryz.mixed (by kernel_rfl) ?_;simp[Bf_,hnt,dNd,gu,gu',gq,hltD,hDl,hwi,hr,hr',hlt,hp0,p5,p5',p4,q5,q4',z0,z3,z4,z5,m1,m3,y3,y4,y5,y8,aB0];try simp (disch:=omega) only[Aa_]) | refine Ac_ ?_ | (refine As_ ?_ ?_ ?_;(· (simp[hnt,dNd,gu,gu',gq,hltD,hDl,hwi,hr,hr',hlt,hp0,p5,p5',p4,q5,q4',z0,z3,z4,z5,m1,m3,y3,y4,y5,y8,aB0];done));(try (rotate_left;(· (intro hc;(try simp[hnt,dNd,gu,gu',gq,hltD,hDl,hwi,hr,hr',hlt,hp0,p5,p5',p4,q5,q4',z0,z3,z4,z5,m1,m3,y3,y4,y5,y8,aB0]at hc);done))))) | (refine Al_ ?_;simp[Tryz.results135,hnt,dNd,gu,gu',gq,hltD,hDl,hwi,hr,hr',hlt,hp0,p5,p5',p4,q5,q4',z0,z3,z4,z5,m1,m3,y3,y4,y5,y8,aB0]) | ((first | refine Ah_ ?_ | refine Ag_ ?_);simp[hnt,dNd,gu,gu',gq,hltD,hDl,hwi,hr,hr',hlt,hp0,p5,p5',p4,q5,q4',z0,z3,z4,z5,m1,m3,y3,y4,y5,y8,aB0]) | (intro hc;(try simp[hnt,dNd,gu,gu',gq,hltD,hDl,hwi,hr,hr',hlt,hp0,p5,p5',p4,q5,q4',z0,z3,z4,z5,m1,m3,y3,y4,y5,y8,aB0]at hc);(try (exfalso;omega))) | ((first | refine Ae_ (e1) ?_ | (refine Ad_ (e1) ?_ ?_;(· (simp;done))));try simp[hnt,dNd,gu,gu',gq,hltD,hDl,hwi,hr,hr',hlt,hp0,p5,p5',p4,q5,q4',z0,z3,z4,z5,m1,m3,y3,y4,y5,y8,aB0]) | (refine⟨?_,?_⟩; · omega) | omega | apply_assumption -exfalso -symm | (exfalso;omega)))
      refine Ap_.mk ⟨i+1,by omega⟩ (Sub.lit (by simp[hnx,hDm,q5])) (by simp;omega)
      exact go0 (aj1 e1) aj0 aj0
     ·have p4':(u.x.k==4)=false:=by simpa using p4
      (repeat (first | refine Ak_ fun K hK=> ?_ | (refine DW_r Bf_ Tryz.mixed (by kernel_rfl) ?_;simp[Bf_,hnt,dNd,gu,gu',gq,hltD,hDl,hwi,hr,hr',hlt,hp0,p5,p5',p4,p4',q5,q4',z0,z3,z4,z5,m1,m3,y3,y4,y5,y8,aB0];try simp (disch:=omega) only[Aa_]) | refine Ac_ ?_ | (refine As_ ?_ ?_ ?_;(· (simp[hnt,dNd,gu,gu',gq,hltD,hDl,hwi,hr,hr',hlt,hp0,p5,p5',p4,p4',q5,q4',z0,z3,z4,z5,m1,m3,y3,y4,y5,y8,aB0];done));(try (rotate_left;(· (intro hc;(try simp[hnt,dNd,gu,gu',gq,hltD,hDl,hwi,hr,hr',hlt,hp0,p5,p5',p4,p4',q5,q4',z0,z3,z4,z5,m1,m3,y3,y4,y5,y8,aB0]at hc);done))))) | (refine Al_ ?_;simp[Tryz.results135,hnt,dNd,gu,gu',gq,hltD,hDl,hwi,hr,hr',hlt,hp0,p5,p5',p4,p4',q5,q4',z0,z3,z4,z5,m1,m3,y3,y4,y5,y8,aB0]) | ((first | refine Ah_ ?_ | refine Ag_ ?_);simp[hnt,dNd,gu,gu',gq,hltD,hDl,hwi,hr,hr',hlt,hp0,p5,p5',p4,p4',q5,q4',z0,z3,z4,z5,m1,m3,y3,y4,y5,y8,aB0]) | (intro hc;(try simp[hnt,dNd,gu,gu',gq,hltD,hDl,hwi,hr,hr',hlt,hp0,p5,p5',p4,p4',q5,q4',z0,z3,z4,z5,m1,m3,y3,y4,y5,y8,aB0]at hc);(try (exfalso;omega))) | ((first | refine Ae_ (e1) ?_ | (refine Ad_ (e1) ?_ ?_;(· (simp;done))));try simp[hnt,dNd,gu,gu',gq,hltD,hDl,hwi,hr,hr',hlt,hp0,p5,p5',p4,p4',q5,q4',z0,z3,z4,z5,m1,m3,y3,y4,y5,y8,aB0]) | (refine⟨?_,?_⟩; · omega) | omega | apply_assumption -exfalso -symm | (exfalso;omega)))
      refine Ap_.mk ⟨i+1,by omega⟩ (Sub.lit (by simp[hnx,hDm,q5])) (by simp;omega)
      exact go0 (aj1 e1) aj0 aj0
   ·have q5':(x.k==5)=false:=by simpa using q5
    have q4:x.k=4:=by
     rcases (show x.k=4∨x.k=6∨x.k=7∨x.k=8 from h8 k1 k2 q5)with h | h
     ·exact h
     ·have:=h6 h;omega
    rw[if_neg q5,if_pos q4]at hnx
    by_cases p5:u.x.k=5
    ·simp[p5]at hpt
     subst hpt
     simp only[aB0,z4,z5]at y9
     (repeat (first | refine Ak_ fun K hK=> ?_ | (refine DW_r Bf_ Tryz.mixed (by kernel_rfl) ?_;simp[Bf_,hnt,dNd,gu,gu',gq,hltD,hDl,hwi,hr,hr',hlt,hp0,p5,q5,q5',q4,z0,z2,z4,z5,m1,y3,y4,y6,y9,aB0];try simp (disch:=omega) only[Aa_]) | refine Ac_ ?_ | (refine As_ ?_ ?_ ?_;(· (simp[hnt,dNd,gu,gu',gq,hltD,hDl,hwi,hr,hr',hlt,hp0,p5,q5,q5',q4,z0,z2,z4,z5,m1,y3,y4,y6,y9,aB0];done));(try (rotate_left;(· (intro hc;(try simp[hnt,dNd,gu,gu',gq,hltD,hDl,hwi,hr,hr',hlt,hp0,p5,q5,q5',q4,z0,z2,z4,z5,m1,y3,y4,y6,y9,aB0]at hc);done))))) | (refine Al_ ?_;simp[Tryz.results135,hnt,dNd,gu,gu',gq,hltD,hDl,hwi,hr,hr',hlt,hp0,p5,q5,q5',q4,z0,z2,z4,z5,m1,y3,y4,y6,y9,aB0]) | ((first | refine Ah_ ?_ | refine Ag_ ?_);simp[hnt,dNd,gu,gu',gq,hltD,hDl,hwi,hr,hr',hlt,hp0,p5,q5,q5',q4,z0,z2,z4,z5,m1,y3,y4,y6,y9,aB0]) | (intro hc;(try simp[hnt,dNd,gu,gu',gq,hltD,hDl,hwi,hr,hr',hlt,hp0,p5,q5,q5',q4,z0,z2,z4,z5,m1,y3,y4,y6,y9,aB0]at hc);(try (exfalso;omega))) | ((first | refine Ae_ (e1) ?_ | (refine Ad_ (e1) ?_ ?_;(· (simp;done))));try simp[hnt,dNd,gu,gu',gq,hltD,hDl,hwi,hr,hr',hlt,hp0,p5,q5,q5',q4,z0,z2,z4,z5,m1,y3,y4,y6,y9,aB0]) | (refine⟨?_,?_⟩; · omega) | omega | apply_assumption -exfalso -symm | (exfalso;omega)))
     refine Ap_.mk ⟨i+1,by omega⟩ (Sub.lit (by simp[hnx,hDm,q4])) (by simp;omega)
     exact go0 (aj1 e1) aj0 aj0
    ·have p5':(u.x.k==5)=false:=by simpa using p5
     by_cases p4:u.x.k=4
     ·simp[p4,q5]at hpt
      subst hpt
      simp only[aB0,z4,z5]at y9
      (repeat (first | refine Ak_ fun K hK=> ?_ | (refine DW_r Bf_ Tryz.mixed (by kernel_rfl) ?_;simp[Bf_,hnt,dNd,gu,gu',gq,hltD,hDl,hwi,hr,hr',hlt,hp0,p4,p5,p5',q5,q5',q4,z0,z2,z4,z5,m1,y3,y4,y6,y9,aB0];try simp (disch:=omega) only[Aa_]) | refine Ac_ ?_ | (refine As_ ?_ ?_ ?_;(· (simp[hnt,dNd,gu,gu',gq,hltD,hDl,hwi,hr,hr',hlt,hp0,p4,p5,p5',q5,q5',q4,z0,z2,z4,z5,m1,y3,y4,y6,y9,aB0];done));(try (rotate_left;(· (intro hc;(try simp[hnt,dNd,gu,gu',gq,hltD,hDl,hwi,hr,hr',hlt,hp0,p4,p5,p5',q5,q5',q4,z0,z2,z4,z5,m1,y3,y4,y6,y9,aB0]at hc);done))))) | (refine Al_ ?_;simp[Tryz.results135,hnt,dNd,gu,gu',gq,hltD,hDl,hwi,hr,hr',hlt,hp0,p4,p5,p5',q5,q5',q4,z0,z2,z4,z5,m1,y3,y4,y6,y9,aB0]) | ((first | refine Ah_ ?_ | refine Ag_ ?_);simp[hnt,dNd,gu,gu',gq,hltD,hDl,hwi,hr,hr',hlt,hp0,p4,p5,p5',q5,q5',q4,z0,z2,z4,z5,m1,y3,y4,y6,y9,aB0]) | (intro hc;(try simp[hnt,dNd,gu,gu',gq,hltD,hDl,hwi,hr,hr',hlt,hp0,p4,p5,p5',q5,q5',q4,z0,z2,z4,z5,m1,y3,y4,y6,y9,aB0]at hc);(try (exfalso;omega))) | ((first | refine Ae_ (e1) ?_ | (refine Ad_ (e1) ?_ ?_;(· (simp;done))));try simp[hnt,dNd,gu,gu',gq,hltD,hDl,hwi,hr,hr',hlt,hp0,p4,p5,p5',q5,q5',q4,z0,z2,z4,z5,m1,y3,y4,y6,y9,aB0]) | (refine⟨?_,?_⟩; · omega) | omega | apply_assumption -exfalso -symm | (exfalso;omega)))
      refine Ap_.mk ⟨i+1,by omega⟩ (Sub.lit (by simp[hnx,hDm,q4])) (by simp;omega)
      exact go0 (aj1 e1) aj0 aj0
     ·have p4':(u.x.k==4)=false:=by simpa using p4
      simp[p4,p5]at hpt
      subst hpt
      (repeat (first | refine Ak_ fun K hK=> ?_ | (refine DW_r Bf_ Tryz.mixed (by kernel_rfl) ?_;simp[Bf_,hnt,dNd,gu,gu',gq,hltD,hDl,hwi,hr,hr',hlt,hp0,p4,p4',p5,p5',q5,q5',q4,z0,z2,z4,z5,m1,y3,y4,y6,y9,aB0];try simp (disch:=omega) only[Aa_]) | refine Ac_ ?_ | (refine As_ ?_ ?_ ?_;(· (simp[hnt,dNd,gu,gu',gq,hltD,hDl,hwi,hr,hr',hlt,hp0,p4,p4',p5,p5',q5,q5',q4,z0,z2,z4,z5,m1,y3,y4,y6,y9,aB0];done));(try (rotate_left;(· (intro hc;(try simp[hnt,dNd,gu,gu',gq,hltD,hDl,hwi,hr,hr',hlt,hp0,p4,p4',p5,p5',q5,q5',q4,z0,z2,z4,z5,m1,y3,y4,y6,y9,aB0]at hc);done))))) | (refine Al_ ?_;simp[Tryz.results135,hnt,dNd,gu,gu',gq,hltD,hDl,hwi,hr,hr',hlt,hp0,p4,p4',p5,p5',q5,q5',q4,z0,z2,z4,z5,m1,y3,y4,y6,y9,aB0]) | ((first | refine Ah_ ?_ | refine Ag_ ?_);simp[hnt,dNd,gu,gu',gq,hltD,hDl,hwi,hr,hr',hlt,hp0,p4,p4',p5,p5',q5,q5',q4,z0,z2,z4,z5,m1,y3,y4,y6,y9,aB0]) | (intro hc;(try simp[hnt,dNd,gu,gu',gq,hltD,hDl,hwi,hr,hr',hlt,hp0,p4,p4',p5,p5',q5,q5',q4,z0,z2,z4,z5,m1,y3,y4,y6,y9,aB0]at hc);(try (exfalso;omega))) | ((first | refine Ae_ (e1) ?_ | (refine Ad_ (e1) ?_ ?_;(· (simp;done))));try simp[hnt,dNd,gu,gu',gq,hltD,hDl,hwi,hr,hr',hlt,hp0,p4,p4',p5,p5',q5,q5',q4,z0,z2,z4,z5,m1,y3,y4,y6,y9,aB0]) | (refine⟨?_,?_⟩; · omega) | omega | apply_assumption -exfalso -symm | (exfalso;omega)))
      refine Ap_.mk ⟨i+1,by omega⟩ (Sub.lit (by simp[hnx,hDm,q4])) (by simp;omega)
      exact go0 (aj1 e1) aj0 aj0
 ·have hkk:i=ks.length:=by omega
  subst hkk
  have hac:=hacs ks.length
  have hfin:(if x.k=2∨x.k=3 then x.s else Hh_ (txtL x.k ks) (btw x.k)++sgn x.k)=accT x ks ks.length++sgn x.k:=by
   by_cases k2:x.k=2∨x.k=3
   ·rw[if_pos k2,hlf k2,MB_]
    have:sgn x.k=⟨#[]⟩:=by unfold sgn;rw[if_neg (by omega),if_neg (by omega),if_neg (by omega)]
    rw[this,Qz_]
   ·rw[if_neg k2]
    unfold accT
    rw[if_neg (by have:=hpos k1 k2;omega),aT0]
  rw[hfin]at hR
  clear hfin
  obtain⟨a,ha⟩:∃a,a=accT x ks ks.length:=⟨_,rfl⟩
  rw[←ha]at hac hR ⊢
  have y6:a.size+1≤maxLen:=by omega
  have y0:a.size≤maxLen:=by omega
  unfold sgn at hR
  by_cases j6:x.k=6
  ·rw[if_pos j6]at hR
   subst hR
   exact go0 aj0 aj0 (aj7 hDl j6 z6 y6 y0 m1 @aB0)
  ·have j6':(x.k==6)=false:=by simpa using j6
   by_cases j7:x.k=7
   ·rw[if_neg j6,if_pos j7]at hR
    subst hR
    exact go0 aj0 aj0 (aj9 hDl j6 j6' j7 z7 y6 y0 m1 @aB0)
   ·have j7':(x.k==7)=false:=by simpa using j7
    by_cases j8:x.k=8
    ·rw[if_neg j6,if_neg j7,if_pos j8]at hR
     subst hR
     exact go0 aj0 aj0 (aj11 hDl j6 j6' j7 j7' j8 z8 y6 y0 m1 @aB0)
    ·have j8':(x.k==8)=false:=by simpa using j8
     rw[if_neg j6,if_neg j7,if_neg j8,Qz_]at hR
     subst hR
     exact go0 aj0 aj0 (aj10 hDl j6 j6' j7 j7' j8 j8' y6 y0 m1)
def Wv_ : Ann:=⟨[],[]⟩
theorem Na_ (t:RT) (ht:okT t=true) (hs:(flat t).length≤1310720):Aj_ Tryz.prog 295 [dNds (flat t)] (.int .i64 (CV_ t)):=by
 refine Ab_ [] (fn:=Tryz.f295) Tryz.func295 rfl Tryz.call295 (by simp[Tryz.ntmps295]) (by simp[mx]) ?_
 intro hwf B hnt
 simp only[Tryz.ntmps295]at hnt
 have hgAnn:=Ao_ Wv_ Tryz.mixed (aj2 @Wv_.eq_1 Tryz.results295)
 clear hwf
 simp only[argS]
 have k1:=Hw_ _ t (flat t) 0 rfl (At.top ht) hs
 have k2:=Lb_ _ t (flat t) 0 rfl (At.top ht) hs
 unfold CV_
 obtain⟨T,hT⟩:∃T,T=txtT t:=⟨_,rfl⟩
 rw[←hT]at k2 ⊢
 by_cases c1:16<htT t
 ·have d1:(16:Int)<(htT t:Int):=by omega
  exact go0 (aj2 k1 k2) aj0 (aj2 c1 d1)
 ·have d1:¬(16:Int)<(htT t:Int):=by omega
  by_cases c2:2048<T.size
  ·have d2:(2048:Int)<(T.size:Int):=by omega
   exact go0 (aj2 k1 k2) aj0 (aj4 c1 d1 c2 d2)
  ·have d2:¬(2048:Int)<(T.size:Int):=by omega
   exact go0 (aj2 k1 k2) aj0 (aj4 c1 d1 c2 d2)
def GZ_ : Ann:=⟨[],[]⟩
theorem MO_ (t:RT) (ht:okT t=true) (h:(flat t).length≤2048):Aj_ Tryz.prog 207 [dNds (flat t)] (.int .i64 (CV_ t)):=by
 refine Ab_ [] (fn:=Tryz.f207) Tryz.func207 rfl Tryz.call207 (by simp[Tryz.ntmps207]) (by simp[mx]) ?_
 intro hwf B hnt
 simp only[Tryz.ntmps207]at hnt
 have hgAnn:=Ao_ GZ_ Tryz.mixed (aj2 @GZ_.eq_1 Tryz.results207)
 clear hwf
 simp only[argS]
 have k1:=Dg_ (flat t) (by omega)
 rw[DL_ ht]at k1
 have k2:=Na_ t ht (by omega)
 have d1:¬(2048:Int)<((flat t).length:Int):=by omega
 have d2:¬2048<(flat t).length:=by omega
 exact go0 (aj2 k1 k2) aj0 (aj2 d1 d2)
theorem MP_ (l:List Nd) (h:2048<l.length):Aj_ Tryz.prog 207 [dNds l] (.int .i64 3):=by
 refine Ab_ [] (fn:=Tryz.f207) Tryz.func207 rfl Tryz.call207 (by simp[Tryz.ntmps207]) (by simp[mx]) ?_
 intro hwf B hnt
 simp only[Tryz.ntmps207]at hnt
 have hgAnn:=Ao_ GZ_ Tryz.mixed (aj2 @GZ_.eq_1 Tryz.results207)
 clear hwf
 simp only[argS]
 have d1:(2048:Int)<(l.length:Int):=by omega
 exact go0 aj0 aj0 (aj2 d1 h)
theorem Ow_ (l:List Nd) (h:l.length≤2048) (hw:CT_ l=false):Aj_ Tryz.prog 207 [dNds l] (.int .i64 170):=by
 refine Ab_ [] (fn:=Tryz.f207) Tryz.func207 rfl Tryz.call207 (by simp[Tryz.ntmps207]) (by simp[mx]) ?_
 intro hwf B hnt
 simp only[Tryz.ntmps207]at hnt
 have hgAnn:=Ao_ GZ_ Tryz.mixed (aj2 @GZ_.eq_1 Tryz.results207)
 clear hwf
 simp only[argS]
 have k1:=Dg_ l (by omega)
 rw[hw]at k1
 have d1:¬(2048:Int)<(l.length:Int):=by omega
 have d2:¬2048<l.length:=by omega
 exact go0 (aj1 k1) aj0 (aj2 d1 d2)
def Ww_ : Ann:=⟨[],[]⟩
theorem Lo_ (t:RT) (ht:okT t=true) (hs:(flat t).length≤1310720):Aj_ Tryz.prog 134 [dNds (flat t)] (.int .i64 (htT t)):=by
 refine Ab_ [] (fn:=Tryz.f134) Tryz.func134 rfl Tryz.call134 (by simp[Tryz.ntmps134]) (by simp[mx]) ?_
 intro hwf B hnt
 simp only[Tryz.ntmps134]at hnt
 have hgAnn:=Ao_ Ww_ Tryz.mixed (aj2 @Ww_.eq_1 Tryz.results134)
 clear hwf
 simp only[argS]
 have k1:=Dg_ (flat t) hs
 rw[DL_ ht]at k1
 have k2:=Hw_ _ t (flat t) 0 rfl (At.top ht) hs
 exact go0 (aj2 k1 k2) aj0 aj0
def natD (n:Nat):List DVal:=[.int .i64 (n:Int)]
@[simp] theorem mx_natD (n:Nat):mxL (natD n)=0:=by simp[natD,mxL,mx]
abbrev BQ_ (l:List Nat):DVal:= .sl 1 8 (l.map natD)
@[simp] theorem mx_nats (l:List Nat):mxR (l.map natD)=0:=mxR0 _ mx_natD l
theorem plN_le (l:List Nd) (n:Nat):(plN l n).length≤n:=by unfold plN;exact Nat.le_trans (cH0 _ _) (by simp)
def PY_ : Ann:=⟨[],[]⟩
set_option maxHeartbeats 1000000 in
theorem EU_ (l:List Nd):Aj_ Tryz.prog 140 [dNds l] (BQ_ (plN l l.length)):=by
 refine Ab_ [50] (fn:=Tryz.f140) Tryz.func140 rfl Tryz.call140 (by simp[Tryz.ntmps140]) (by simp[mx]) ?_
 intro hwf B hnt
 simp only[Tryz.ntmps140]at hnt
 have hgAnn:=Ao_ PY_ Tryz.mixed (aj2 @PY_.eq_1 Tryz.results140)
 have hs:l.length*32≤150000000000000:=by have:=hwf.1;simp only[wfD,aL0]at this;exact this.1
 clear hwf
 simp only[argS]
 (refine go1 aj0 aj0 aj0 ?_;intros;refine mk_i ?_)
 refine Bn_ 3 50 3 1 8 (by simp[hnt,Tryz.results140,PY_]) (fun n=> ?_)
 refine Am_ (X:={i:Nat//i≤l.length}) (fun i=>⟨[(0,dNds l),(3,.osl 50 1),(4,.int .i64 i.1)],[⟨50,1,.row 3 1 8 ((plN l i.1).map natD)⟩]⟩) (fun i=>l.length-i.1) ⟨0,by omega⟩ (Sub.lit (by simp[plN_zero])) ?_
 rintro⟨i,hi⟩
 simp only
 by_cases hlt:i<l.length
 ·obtain⟨x,hx,hx',_⟩:=Aq_ hlt
  have hsc:=Oz_ hx
  have hle:=plN_le l i
  obtain⟨T,hT⟩:∃T,T=plN l i:=⟨_,rfl⟩
  rw[←hT]at hsc hle ⊢
  have z1:(T.length+1)*8≤150000000000000:=by omega
  have z2:T.length+1≤9223372036854775807:=by omega
  by_cases ho:Cf_ x=true
  ·rw[if_pos ho]at hsc
   have hd:(T.map natD)++[[.int .i64 (i:Int)]]=(plN l (i+1)).map natD:=by rw[hsc,aY0];rfl
   rcases Bl_.1 ho with k | k
   ·(refine go1 aj0 aj0 (aj7 @dNd.eq_1 hlt hx hx' k z1 z2) ?_;intros;refine mk_i ?_)
    refine Ap_.mk ⟨i+1,by omega⟩ (Sub.lit (by simp[hd])) (by simp;omega)
    skip
   ·(refine go1 aj0 aj0 (aj7 @dNd.eq_1 hlt hx hx' k z1 z2) ?_;intros;refine mk_i ?_)
    refine Ap_.mk ⟨i+1,by omega⟩ (Sub.lit (by simp[hd])) (by simp;omega)
    skip
  ·rw[if_neg ho,bK0]at hsc
   have k2:¬x.k=2:=fun e=>ho (Bl_.2 (.inl e))
   have k3:¬x.k=3:=fun e=>ho (Bl_.2 (.inr e))
   have k2':(x.k==2)=false:=by simpa using k2
   have k3':(x.k==3)=false:=by simpa using k3
   (refine go1 aj0 aj0 (aj8 @dNd.eq_1 hlt hx hx' k2 k2' k3 k3') ?_;intros;refine mk_i ?_)
   refine Ap_.mk ⟨i+1,by omega⟩ (Sub.lit (by simp[hsc])) (by simp;omega)
   skip
 ·have hkk:i=l.length:=by omega
  subst hkk
  exact go0 aj0 aj0 aj0
def Wx_ : Ann:=⟨[],[]⟩
theorem JH_ (l:List Nd):Aj_ Tryz.prog 133 [dNds l] (.int .i64 (occN l)):=by
 refine Ab_ [] (fn:=Tryz.f133) Tryz.func133 rfl Tryz.call133 (by simp[Tryz.ntmps133]) (by simp[mx]) ?_
 intro hwf B hnt
 simp only[Tryz.ntmps133]at hnt
 have hgAnn:=Ao_ Wx_ Tryz.mixed (aj2 @Wx_.eq_1 Tryz.results133)
 clear hwf
 simp only[argS]
 have k1:=EU_ l
 have h1:(plN l l.length).length=occN l:=by rw[Jj_ (Nat.le_refl _),Kt_,FM_]
 exact go0 (aj1 k1) aj0 (aj1 h1)
end Go.Proofs.YtchgnpnbcjflcaaGreat
end
section
namespace Go.Proofs.YtchgnpnbcjflcaaGreat
open Go Go.Dm
variable [DMode]
theorem ordS : OrdC sCmp:=by
 refine⟨fun _ _=>sCmp_zero,fun x y=> ?_,fun x y z h1 h2=> ?_⟩
 ·rw[EP_]
  unfold sCmp
  cases h1:Do_ x y
  ·cases h2:Do_ y x<;>simp
  ·rw[Nl_ h1];simp
 ·rw[EP_]at *;exact HI_ h1 h2
end Go.Proofs.YtchgnpnbcjflcaaGreat
end
section
namespace Go.Proofs.YtchgnpnbcjflcaaGreat
open Go Go.Dm
variable [DMode]
attribute [local irreducible] DW Br_ Bu_
set_option maxRecDepth 100000
def PQ_ : Ann:=⟨[],[⟨5,[6],[],[]⟩,⟨7,[22],[],[]⟩]⟩
theorem MT_ (k:Int) (s:ByteArray):Aj_ Tryz.prog 262 [.sl 3 32 [Cg_ k s 0]] (.int .i64 1):=by
 refine Ab_ [] (fn:=Tryz.f262) Tryz.func262 rfl Tryz.call262 (by simp[Tryz.ntmps262]) (by simp[mx]) ?_
 intro hwf B hnt
 simp only[Tryz.ntmps262]at hnt
 have hgAnn:=Ao_ PQ_ Tryz.mixed (aj2 @PQ_.eq_1 Tryz.results262)
 clear hwf
 simp only[argS]
 (refine go1 aj0 aj0 (aj1 @Cg_.eq_1) ?_;intros;refine mk_i ?_)
 refine Am_ (X:=Bool) (fun x=>⟨[(0,.sl 3 32 [Cg_ k s 0]),(3,.int .i64 (if x then 1 else 0)),(4,if x then .sl 1 8 []else .nilsl),(7,.sl 3 32 [Cg_ k s 0]),(8,.int .i64 1),(9,.int .i64 (if x then 1 else 0))],[]⟩) (fun x=>if x then 0 else 1) false (Sub.lit (by simp[Cg_])) ?_
 rintro (_ | _)
 ·(refine go1 aj0 aj0 (aj1 @Cg_.eq_1) ?_;intros;refine mk_i ?_)
  refine Am_ (X:=Bool) (fun x=>⟨[(0,.sl 3 32 [Cg_ k s 0]),(3,.int .i64 1),(4,if x then .sl 1 8 []else .sl 1 8 [[.int .i64 0]]),(7,.sl 3 32 [Cg_ k s 0]),(8,.int .i64 1),(9,.int .i64 0)],[]⟩) (fun x=>if x then 0 else 1) false (Sub.lit (by simp[Cg_])) ?_
  rintro (_ | _)
  ·(refine go1 aj0 aj0 (aj1 @Cg_.eq_1) ?_;intros;refine mk_i ?_)
   simp[hnt,Tryz.results262,PQ_,Cg_]
   (refine go1 aj0 aj0 (aj1 @Cg_.eq_1) ?_;intros;refine mk_i ?_)
   refine Ap_.mk true (Sub.lit (by simp[Cg_])) (by simp)
   skip
  ·(refine go1 aj0 aj0 (aj1 @Cg_.eq_1) ?_;intros;refine mk_i ?_)
   refine Ap_.mk true (Sub.lit (by simp[Cg_])) (by simp)
   skip
 ·exact go0 aj0 aj0 (aj1 @Cg_.eq_1)
def VV_ : Ann:=⟨[],[⟨1,[3],[],[]⟩]⟩
theorem Qt_ (k:Int) (hk:k=2∨k=3) (s:ByteArray):Aj_ Tryz.prog 263 [.sl 3 32 [Cg_ k s 0]] (.str s):=by
 refine Ab_ [] (fn:=Tryz.f263) Tryz.func263 rfl Tryz.call263 (by simp[Tryz.ntmps263]) (by simp[mx]) ?_
 intro hwf B hnt
 simp only[Tryz.ntmps263]at hnt
 have hgAnn:=Ao_ VV_ Tryz.mixed (aj2 @VV_.eq_1 Tryz.results263)
 clear hwf
 simp only[argS]
 rcases hk with rfl | rfl
 ·exact go0 aj0 aj0 (aj1 @Cg_.eq_1)
 ·exact go0 aj0 aj0 (aj1 @Cg_.eq_1)
def VW_ : Ann:=⟨[],[]⟩
theorem Ms_ (k:Int) (hk:k=2∨k=3) (s:ByteArray) (hs:s.size≤16):Aj_ Tryz.prog 182 [.sl 3 32 [Cg_ k s 0]] (.int .i64 0):=by
 refine Ab_ [] (fn:=Tryz.f182) Tryz.func182 rfl Tryz.call182 (by simp[Tryz.ntmps182]) (by simp[mx]) ?_
 intro hwf B hnt
 simp only[Tryz.ntmps182]at hnt
 have hgAnn:=Ao_ VW_ Tryz.mixed (aj2 @VW_.eq_1 Tryz.results182)
 clear hwf
 simp only[argS]
 have e1:=MT_ k s
 have e2:=Qt_ k hk s
 have g1:¬(2048:Int)<s.size:=by omega
 exact go0 (aj2 e1 e2) aj0 (aj1 g1)
theorem txt_size {k:Int} {s:ByteArray} (h:DP_ k s=true):s.size≤16:=by
 unfold DP_ at h
 split at h<;>(simp only[BJ_,aN0,decide_eq_true_eq]at h;exact h.1.1.2)
def VX_ : Ann:=⟨[],[]⟩
theorem PI_ (k:Int) (hk:k=2∨k=3) (s:ByteArray):Aj_ Tryz.prog 101 [.sl 3 32 [Cg_ k s 0]] (.int .i64 (if DP_ k s then 0 else 170)):=by
 refine Ab_ [] (fn:=Tryz.f101) Tryz.func101 rfl Tryz.call101 (by simp[Tryz.ntmps101]) (by simp[mx]) ?_
 intro hwf B hnt
 simp only[Tryz.ntmps101]at hnt
 have hgAnn:=Ao_ VX_ Tryz.mixed (aj2 @VX_.eq_1 Tryz.results101)
 clear hwf
 simp only[argS]
 have e1:=NZ_ k hk s
 cases hT:DP_ k s
 ·rw[hT]at e1
  exact go0 (aj1 e1) aj0 aj0
 ·rw[hT]at e1
  have e2:=Ms_ k hk s (txt_size hT)
  exact go0 (aj2 e1 e2) aj0 aj0
def VU_ : Ann:=⟨[],[]⟩
theorem Oy_ (l:List ByteArray) (s:ByteArray):Aj_ Tryz.prog 158 [BC_ l,.str s] (.int .i64 (DU_ l s)):=by
 refine Ab_ [] (fn:=Tryz.f158) Tryz.func158 rfl Tryz.call158 (by simp[Tryz.ntmps158]) (by simp[mx]) ?_
 intro hwf B hnt
 simp only[Tryz.ntmps158]at hnt
 have hgAnn:=Ao_ VU_ Tryz.mixed (aj2 @VU_.eq_1 Tryz.results158)
 have hlen:=OW_ hwf.1
 clear hwf
 simp only[argS]
 obtain⟨R,hR⟩:∃R,R=DU_ l s:=⟨_,rfl⟩
 rw[←hR]
 (refine go1 aj0 aj0 aj0 ?_;intros;refine mk_i ?_)
 refine Am_ (X:={k:Nat//k≤l.length∧∀i x,i<k→l[i]? =some x→(s==x)=false}) (fun x=>⟨[(0,BC_ l),(1,.str s),(5,.int .i64 x.1)],[]⟩) (fun x=>l.length-x.1) ⟨0,by simp⟩ (Sub.lit (by simp)) ?_
 rintro⟨k,hk,hno⟩
 by_cases hlt:k<l.length
 ·obtain⟨x,hx,hx',hxm⟩:=Aq_ hlt
  cases hb:s==x
  ·have hb':(x==s)=false:=by rw[eO0]at hb ⊢;simp at hb ⊢;exact fun h=>hb h.symm
   (refine go1 aj0 aj0 (aj5 @dStr.eq_1 hlt hx' hx hb') ?_;intros;refine mk_i ?_)
   exact Ap_.mk ⟨k+1,by omega,Vk_ hx hb hno⟩ (Sub.lit (by simp[])) (by simp;omega)
   skip
  ·have hb':(x==s)=true:=by simp at hb ⊢;exact hb.symm
   have hRk:R=k:=by rw[hR];exact Lt_ hlt (by rw[hx'];exact(by simpa using hb:s=x).symm) hno
   subst hRk
   exact go0 aj0 aj0 (aj5 @dStr.eq_1 hlt hx' hx hb')
 ·have hkk:k=l.length:=by omega
  subst hkk
  have hRk:R= -1:=by rw[hR];exact Lu_ hno
  subst hRk
  exact go0 aj0 aj0 aj0
def Xm_ : Ann:=⟨[],[]⟩
theorem Nz_ (l:List ByteArray) (s:ByteArray):Aj_ Tryz.prog 131 [BC_ l,.str s] (.bool (decide (s∈l))):=by
 refine Ab_ [] (fn:=Tryz.f131) Tryz.func131 rfl Tryz.call131 (by simp[Tryz.ntmps131]) (by simp[mx]) ?_
 intro hwf B hnt
 simp only[Tryz.ntmps131]at hnt
 have hgAnn:=Ao_ Xm_ Tryz.mixed (aj2 @Xm_.eq_1 Tryz.results131)
 have hlen:=OW_ hwf.1
 clear hwf
 simp only[argS]
 obtain⟨R,hR⟩:∃R,R=decide (s∈l):=⟨_,rfl⟩
 rw[←hR]
 (refine go1 aj0 aj0 aj0 ?_;intros;refine mk_i ?_)
 refine Am_ (X:={k:Nat//k≤l.length∧R=decide (s∈l.drop k)}) (fun x=>⟨[(0,BC_ l),(1,.str s),(5,.int .i64 x.1)],[]⟩) (fun x=>l.length-x.1) ⟨0,by simp[hR]⟩ (Sub.lit (by simp)) ?_
 clear hR
 rintro⟨k,hk,hR⟩
 by_cases hlt:k<l.length
 ·obtain⟨x,hx,hx',hxm⟩:=Aq_ hlt
  rw[aR0 hlt,hx']at hR
  cases hb:x==s
  ·have hne:¬s=x:=fun e=>by subst e;simp at hb
   have hR2:R=decide (s∈l.drop (k+1)):=by rw[hR];simp[hne]
   (refine go1 aj0 aj0 (aj5 @dStr.eq_1 hlt hx' hx hb) ?_;intros;refine mk_i ?_)
   exact Ap_.mk ⟨k+1,by omega,hR2⟩ (Sub.lit (by simp[])) (by simp;omega)
   skip
  ·have he:s=x:=by simp at hb;exact hb.symm
   have hR2:R=true:=by rw[hR,he];simp
   subst hR2
   exact go0 aj0 aj0 (aj5 @dStr.eq_1 hlt hx' hx hb)
 ·have hkk:k=l.length:=by omega
  subst hkk
  rw[bP0]at hR
  have hR2:R=false:=by rw[hR];simp
  subst hR2
  exact go0 aj0 aj0 aj0
theorem inO_spec (l:List ByteArray) (s:ByteArray):AU_ Tryz.prog (.func 131) [.osl 0 0,.str s] [⟨0,0,.row 9 1 16 (l.map dStr)⟩] (.bool (decide (s∈l))) [⟨0,0,.row 9 1 16 (l.map dStr)⟩] :=
 NX_ rfl (Nz_ l s)
def TQ_ : Ann:=⟨[17],[]⟩
set_option maxHeartbeats 1000000 in
theorem DD_ (g:List Rul):Aj_ Tryz.prog 45 [AC_ g] (BC_ (AB_ g)):=by
 refine Ab_ [3] (fn:=Tryz.f45) Tryz.func45 rfl Tryz.call45 (by simp[Tryz.ntmps45]) (by simp[mx]) ?_
 intro hwf B hnt
 simp only[Tryz.ntmps45]at hnt
 have hgAnn:=Ao_ TQ_ Tryz.mixed (aj2 @TQ_.eq_1 Tryz.results45)
 have hs:g.length*40≤150000000000000:=by have:=hwf.1;simp only[wfD,aL0]at this;exact this.1
 clear hwf
 simp only[argS]
 (refine go1 aj0 aj0 aj0 ?_;intros;refine mk_i ?_)
 refine Bn_ 3 3 9 1 16 (by simp[hnt,Tryz.results45,TQ_]) (fun n=> ?_)
 refine Am_ (X:={i:Nat//i≤g.length}) (fun i=>⟨[(0,AC_ g),(3,.osl 3 1),(4,.int .i64 i.1)],[⟨3,1,.row 9 1 16 ((AB_ (g.take i.1)).map dStr)⟩]⟩) (fun i=>g.length-i.1) ⟨0,by omega⟩ (Sub.lit (by simp[AB_])) ?_
 rintro⟨i,hi⟩
 simp only
 by_cases hlt:i<g.length
 ·obtain⟨r,hr,hr',hrm⟩:=Aq_ hlt
  have htk:=LS_ hr
  have hl:=GI_ (g.take i)
  rw[aX0]at hl
  obtain⟨T,hT⟩:∃T,T=AB_ (g.take i):=⟨_,rfl⟩
  rw[←hT]at htk hl ⊢
  have e1:=inO_spec T r.h
  have z1:(T.length+1)*16≤150000000000000:=by omega
  have z2:T.length+1≤9223372036854775807:=by omega
  unfold Js_ at htk
  by_cases hm:r.h∈T
  ·rw[if_pos hm]at htk
   rw[decide_eq_true hm]at e1
   (refine go1 aj0 (aj1 (spc [(3,0)] [] e1)) (aj4 @dRul.eq_1 hlt hr hr') ?_;intros;refine mk_i ?_)
   refine Ap_.mk ⟨i+1,by omega⟩ (Sub.lit (by simp[htk])) (by simp;omega)
   skip
  ·rw[if_neg hm]at htk
   rw[decide_eq_false hm]at e1
   (refine go1 aj0 (aj1 (spc [(3,0)] [] e1)) (aj6 @dRul.eq_1 hlt hr hr' z1 z2) ?_;intros;refine mk_i ?_)
   refine Ap_.mk ⟨i+1,by omega⟩ (Sub.lit (by simp[htk,dStr])) (by simp;omega)
   skip
 ·have hkk:i=g.length:=by omega
  subst hkk
  rw[aT0]
  exact go0 aj0 aj0 aj0
def Qb_ : Ann:=⟨[],[]⟩
set_option maxHeartbeats 4000000 in
theorem Ry_ (l:List ByteArray) (p:ByteArray) (hsz:(l.length+1)*16≤150000000000000):Aj_ Tryz.prog 203 [BC_ l,.str p] (BC_ (insC sCmp l p)):=by
 refine Ab_ [50] (fn:=Tryz.f203) Tryz.func203 rfl Tryz.call203 (by simp[Tryz.ntmps203]) (by simp[mx]) ?_
 intro hwf B hnt
 simp only[Tryz.ntmps203]at hnt
 have hgAnn:=Ao_ Qb_ Tryz.mixed (aj2 @Qb_.eq_1 Tryz.results203)
 clear hwf
 simp only[argS]
 obtain⟨r,hr⟩:∃r,r=insC sCmp l p:=⟨_,rfl⟩
 rw[←hr]
 (refine go1 aj0 aj0 aj0 ?_;intros;refine mk_i ?_)
 refine Bn_ 5 50 9 1 16 (by simp[hnt,Tryz.results203,Qb_]) (fun n=> ?_)
 refine Am_ (X:={x:Nat×Bool×List ByteArray//x.1≤l.length∧x.2.2.length≤x.1+(if x.2.1 then 1 else 0)∧x.2.2++(if x.2.1 then l.drop x.1 else insC sCmp (l.drop x.1) p)=r}) (fun x=>⟨[(0,BC_ l),(1,.str p),(5,.osl 50 1),(6,.bool x.1.2.1),(7,.int .i64 x.1.1)],[⟨50,1,.row 9 1 16 (x.1.2.2.map dStr)⟩]⟩) (fun x=>l.length-x.1.1) ⟨(0,false,[]),by simp[hr]⟩ (Sub.lit (by simp)) ?_
 rintro⟨⟨k,b,R⟩,hk,hR,hcc⟩
 simp only at hk hR hcc ⊢
 clear hr
 by_cases hlt:k<l.length
 ·obtain⟨q,hq,hq',hqm⟩:=Aq_ hlt
  rw[aR0 hlt,hq']at hcc
  cases b
  ·simp only[aQ0,if_false,insC,cU0]at hR hcc
   have hz1:(R.length+1)*16≤150000000000000:=Nat.le_trans (aO0 16 (by omega)) hsz
   have hz2:R.length≤9223372036854775806:=by omega
   have hz3:(R.length+1+1)*16≤150000000000000:=Nat.le_trans (aO0 16 (by omega)) hsz
   have hz4:R.length+1≤9223372036854775806:=by omega
   cases hc:Do_ q p
   ·have hc2:Op.bytesLess q.data.toList p.data.toList=false:=hc
    rw[if_neg (show ¬sCmp q p<0 by rw[EP_,hc];simp)]at hcc
    by_cases he:q=p
    ·subst he
     rw[if_neg (show ¬sCmp q q<0 by rw[EP_,DQ_];simp)]at hcc
     (refine go1 aj0 aj0 (aj8 @dStr.eq_1 hlt hq' hc2 hz1 hz2 hz3 hz4) ?_;intros;refine mk_i ?_)
     refine Ap_.mk ⟨(k+1,true,R++[q]),show k+1≤l.length∧(R++[q]).length≤k+1+_∧_ from ⟨by omega,by simp;omega,by simpa using hcc⟩⟩ (Sub.lit (by simp[dStr])) (by simp;omega)
     skip
    ·have he2:(q==p)=false:=by simpa using he
     have hlp:Do_ p q=true:=by
      cases h2:Do_ p q
      ·exact absurd (Ip_ hc h2) he
      ·rfl
     rw[if_pos (EP_.2 hlp)]at hcc
     (refine go1 aj0 aj0 (aj9 @dStr.eq_1 hlt hq' hc2 he2 hz1 hz2 hz3 hz4) ?_;intros;refine mk_i ?_)
     refine Ap_.mk ⟨(k+1,true,R++[p,q]),show k+1≤l.length∧(R++[p,q]).length≤k+1+_∧_ from ⟨by omega,by simp;omega,by simpa using hcc⟩⟩ (Sub.lit (by simp[dStr])) (by simp;omega)
     skip
   ·have hc2:Op.bytesLess q.data.toList p.data.toList=true:=hc
    rw[if_pos (EP_.2 hc)]at hcc
    (refine go1 aj0 aj0 (aj8 @dStr.eq_1 hlt hq' hc2 hz1 hz2 hz3 hz4) ?_;intros;refine mk_i ?_)
    refine Ap_.mk ⟨(k+1,false,R++[q]),show k+1≤l.length∧(R++[q]).length≤k+1+_∧_ from ⟨by omega,by simp;omega,by simpa using hcc⟩⟩ (Sub.lit (by simp[dStr])) (by simp;omega)
    skip
  ·simp only[if_true]at hR hcc
   have hz1:(R.length+1)*16≤150000000000000:=Nat.le_trans (aO0 16 (by omega)) hsz
   have hz2:R.length≤9223372036854775806:=by omega
   (refine go1 aj0 aj0 (aj5 @dStr.eq_1 hlt hq' hz1 hz2) ?_;intros;refine mk_i ?_)
   refine Ap_.mk ⟨(k+1,true,R++[q]),show k+1≤l.length∧(R++[q]).length≤k+1+_∧_ from ⟨by omega,by simp;omega,by simpa using hcc⟩⟩ (Sub.lit (by simp[dStr])) (by simp;omega)
   skip
 ·have hk':k=l.length:=by omega
  subst hk'
  rw[bP0]at hcc
  cases b
  ·simp only[aQ0,if_false,insC,cU0]at hR hcc
   subst hcc
   have hz1:(R.length+1)*16≤150000000000000:=Nat.le_trans (aO0 16 (by omega)) hsz
   have hz2:R.length≤9223372036854775806:=by omega
   exact go0 aj0 aj0 (aj3 @dStr.eq_1 hz1 hz2)
  ·simp only[if_true,bK0]at hR hcc
   subst hcc
   exact go0 aj0 aj0 (aj1 @dStr.eq_1)
def insF (es:List ByteArray):List ByteArray:=es.foldl (insC sCmp) []
theorem Rz_ (es:List ByteArray):insF es=Fy_ es:=by
 obtain⟨h1,h2⟩:=HP_ ordS es [] List.Pairwise.nil
 refine uniq_of (h1.imp fun {a b} h=>EP_.1 h) fun x=> ?_
 unfold insF
 rw[h2]
 simp
theorem insF_snoc (es:List ByteArray) (s:ByteArray):insF (es++[s])=insC sCmp (insF es) s:=by unfold insF;rw[cQ0];rfl
theorem LB_ (k:Int) (g:List Rul) (i:Nat):(AJ_ k (g.take i)).length≤(AJ_ k g).length:=by
 have h:AJ_ k g=AJ_ k (g.take i)++AJ_ k (g.drop i):=by
  unfold AJ_
  rw[←dT0,List.take_append_drop]
 rw[h,aD0]
 omega
def Qc_ : Ann:=⟨[],[]⟩
set_option maxHeartbeats 2000000 in
theorem Jz_ (g:List Rul) (k:Int) (hn:((AJ_ k g).length+1)*16≤150000000000000):Aj_ Tryz.prog 132 [AC_ g,.int .i64 k] (BC_ (Fy_ (AJ_ k g))):=by
 rw[←Rz_]
 refine Ab_ [] (fn:=Tryz.f132) Tryz.func132 rfl Tryz.call132 (by simp[Tryz.ntmps132]) (by simp[mx]) ?_
 intro hwf B hnt
 simp only[Tryz.ntmps132]at hnt
 have hgAnn:=Ao_ Qc_ Tryz.mixed (aj2 @Qc_.eq_1 Tryz.results132)
 have hwl:=IC_ hwf.1
 have hwb:∀r∈g,r.b.length<9223372036854775807:=fun r hr=>by
  have h1:=hwf.1
  obtain⟨i,hi,rfl⟩:=bN0 hr
  have h2:wfR (g.map dRul):=by simp only[wfD]at h1;exact h1.2.2
  have h3:=TX_ h2 (aH0 hi)
  simp only[dRul,wfL]at h3
  exact OX_ h3.2.1
 clear hwf
 simp only[argS]
 (refine go1 aj0 aj0 aj0 ?_;intros;refine mk_i ?_)
 refine DW_nilS 5 1 16 (by simp[hnt,Tryz.results132,Qc_]) ?_
 refine Am_ (X:={i:Nat//i≤g.length}) (fun i=>⟨[(0,AC_ g),(1,.int .i64 k),(5,BC_ (insF (AJ_ k (g.take i.1)))),(6,.int .i64 i.1)],[]⟩) (fun i=>g.length-i.1) ⟨0,by omega⟩ (Sub.lit (by simp[AJ_,insF])) ?_
 rintro⟨i,hi⟩
 simp only
 by_cases hlt:i<g.length
 ·obtain⟨r,hr,hr',hrm⟩:=Aq_ hlt
  have htk:=LC_ (k:=k) hr
  have hrl:=hwb r hrm
  have hnl:=LB_ k g (i+1)
  rw[htk,aD0]at hnl
  obtain⟨N,hN⟩:∃N,N=AJ_ k (g.take i):=⟨_,rfl⟩
  rw[←hN]at htk hnl ⊢
  (refine go1 aj0 aj0 (aj4 @dRul.eq_1 hlt hr hr') ?_;intros;refine mk_i ?_)
  refine Am_ (X:={j:Nat//j≤r.b.length}) (fun j=>⟨[(0,AC_ g),(1,.int .i64 k),(5,BC_ (insF (N++Cl_ k (r.b.take j.1)))),(6,.int .i64 i),(7,.int .i64 j.1)],[]⟩) (fun j=>r.b.length-j.1) ⟨0,by omega⟩ (Sub.lit (by simp[Cl_])) ?_
  rintro⟨j,hj⟩
  simp only
  by_cases hlt2:j<r.b.length
  ·obtain⟨x,hx,hx',hxm⟩:=Aq_ hlt2
   have htj:=LA_ (k:=k) hx
   have hjl:(Cl_ k (r.b.take j)).length≤(Cl_ k r.b).length:=by
    unfold Cl_
    rw[aL0,aL0]
    exact((List.take_sublist j r.b).filter _).length_le
   obtain⟨E,hE⟩:∃E,E=N++Cl_ k (r.b.take j):=⟨_,rfl⟩
   have hE2:N++Cl_ k (r.b.take (j+1))=E++(if x.k=k then [x.s]else []):=by rw[htj,hE,aU0]
   have hEl:(insF E).length≤(AJ_ k g).length:=by
    rw[Rz_]
    have:=FC_ E
    rw[hE,aD0]at this
    rw[←hE]at this
    omega
   rw[←hE]
   by_cases hk:x.k=k
   ·rw[if_pos hk]at hE2
    have hst:=insF_snoc E x.s
    rw[←hE2]at hst
    have e1:=Ry_ (insF E) x.s (Nat.le_trans (aO0 16 (by omega)) hn)
    rw[←hst]at e1
    obtain⟨W,hW⟩:∃W,W=insF E:=⟨_,rfl⟩
    obtain⟨W2,hW2⟩:∃W2,W2=insF (N++Cl_ k (r.b.take (j+1))):=⟨_,rfl⟩
    rw[←hW,←hW2]at e1
    rw[←hW]
    (refine go1 (aj1 e1) aj0 (aj9 @dRul.eq_1 @dNd.eq_1 hlt hr hr' hlt2 hx hx' hk) ?_;intros;refine mk_i ?_)
    refine Ap_.mk ⟨j+1,by omega⟩ (Sub.lit (by simp only[←hW2];simp)) (by simp;omega)
    skip
   ·have hk':(x.k==k)=false:=by simpa using hk
    rw[if_neg hk,bK0]at hE2
    (refine go1 aj0 aj0 (aj10 @dRul.eq_1 @dNd.eq_1 hlt hr hr' hlt2 hx hx' hk hk') ?_;intros;refine mk_i ?_)
    refine Ap_.mk ⟨j+1,by omega⟩ (Sub.lit (by simp only[hE2];simp)) (by simp;omega)
    skip
  ·have hkk:j=r.b.length:=by omega
   subst hkk
   rw[aT0]
   (refine go1 aj0 aj0 (aj4 @dRul.eq_1 hlt hr hr') ?_;intros;refine mk_i ?_)
   refine Ap_.mk ⟨i+1,by omega⟩ (Sub.lit (by simp only[htk];simp)) (by simp;omega)
   skip
 ·have hkk:i=g.length:=by omega
  subst hkk
  rw[aT0]
  exact go0 aj0 aj0 aj0
def anBN347 : Ann:=⟨[],[]⟩
theorem Ht_ (g:List Rul) (hn:((AJ_ 3 g).length+1)*16≤150000000000000):Aj_ Tryz.prog 47 [AC_ g] (BC_ (AA_ g)):=by
 refine Ab_ [] (fn:=Tryz.f47) Tryz.func47 rfl Tryz.call47 (by simp[Tryz.ntmps47]) (by simp[mx]) ?_
 intro hwf B hnt
 simp only[Tryz.ntmps47]at hnt
 have hgAnn:=Ao_ anBN347 Tryz.mixed (aj2 @anBN347.eq_1 Tryz.results47)
 clear hwf
 simp only[argS]
 have e1:=Jz_ g 3 hn
 unfold AA_
 exact go0 (aj1 e1) aj0 aj0
def FT_ (g:List Rul) (j:Nat):Nat:=(((Fy_ (AJ_ 2 g)).take j).filter fun s=> !decide (s∈AB_ g)).length
theorem Yl_ (g:List Rul):FT_ g (Fy_ (AJ_ 2 g)).length=(Dp_ g).length:=by unfold FT_ Dp_;rw[aT0]
theorem missTo_le (g:List Rul) (j:Nat):FT_ g j≤j:=by
 unfold FT_
 exact Nat.le_trans (cH0 _ _) (List.length_take_le _ _)
theorem Th_ {g:List Rul} {j:Nat} {s:ByteArray} (h:(Fy_ (AJ_ 2 g))[j]? =some s):FT_ g (j+1)=FT_ g j+(if s∈AB_ g then 0 else 1):=by
 unfold FT_
 rw[bF0,h,cY0,aD0]
 by_cases hs:s∈AB_ g<;>simp[hs]
def anBN346 : Ann:=⟨[],[]⟩
set_option maxHeartbeats 1000000 in
theorem Ka_ (g:List Rul) (hn:((AJ_ 2 g).length+1)*16≤150000000000000):Aj_ Tryz.prog 46 [AC_ g] (.int .i64 (Dp_ g).length):=by
 refine Ab_ [] (fn:=Tryz.f46) Tryz.func46 rfl Tryz.call46 (by simp[Tryz.ntmps46]) (by simp[mx]) ?_
 intro hwf B hnt
 simp only[Tryz.ntmps46]at hnt
 have hgAnn:=Ao_ anBN346 Tryz.mixed (aj2 @anBN346.eq_1 Tryz.results46)
 clear hwf
 simp only[argS]
 have e1:=DD_ g
 have e2:=Jz_ g 2 hn
 have hall:=Yl_ g
 have hul:=FC_ (AJ_ 2 g)
 have hsucc:=fun j s=>Th_ (g:=g) (j:=j) (s:=s)
 have hle:=missTo_le g
 obtain⟨U,hU⟩:∃U,U=Fy_ (AJ_ 2 g):=⟨_,rfl⟩
 obtain⟨Hh,hH⟩:∃Hh,Hh=AB_ g:=⟨_,rfl⟩
 rw[←hU]at e2 hall hul hsucc
 rw[←hH]at e1 hsucc
 rw[←hall]
 (refine go1 (aj2 e1 e2) aj0 aj0 ?_;intros;refine mk_i ?_)
 refine Am_ (X:={j:Nat//j≤U.length}) (fun j=>⟨[(3,BC_ Hh),(4,BC_ U),(5,.int .i64 (FT_ g j.1)),(6,.int .i64 j.1)],[]⟩) (fun j=>U.length-j.1) ⟨0,by omega⟩ (Sub.lit (by simp[FT_])) ?_
 rintro⟨j,hj⟩
 simp only
 by_cases hlt:j<U.length
 ·obtain⟨s,hs,hs',_⟩:=Aq_ hlt
  have h1:=hsucc j s hs
  have h2:=hle j
  have e3:=Nz_ Hh s
  have w1:IntKind.i64.wrap ((FT_ g j:Int)+1)=(FT_ g j:Int)+1:=Aa_ (by omega) (by omega)
  have w2:IntKind.i64.wrap ((j:Int)+1)=(j:Int)+1:=Aa_ (by omega) (by omega)
  by_cases hm:s∈Hh
  ·rw[if_pos hm,cU0]at h1
   rw[decide_eq_true hm]at e3
   (refine go1 (aj1 e3) aj0 (aj5 @dStr.eq_1 hlt hs hs' w2) ?_;intros;refine mk_i ?_)
   refine Ap_.mk ⟨j+1,by omega⟩ (Sub.lit (by simp[h1])) (by simp;omega)
   skip
  ·rw[if_neg hm]at h1
   rw[decide_eq_false hm]at e3
   (refine go1 (aj1 e3) aj0 (aj6 @dStr.eq_1 hlt hs hs' w1 w2) ?_;intros;refine mk_i ?_)
   refine Ap_.mk ⟨j+1,by omega⟩ (Sub.lit (by simp[h1])) (by simp;omega)
   skip
 ·have hkk:j=U.length:=by omega
  subst hkk
  exact go0 aj0 aj0 aj0
end Go.Proofs.YtchgnpnbcjflcaaGreat
end
