/- Parts of a proof, laid together: QS0, QB9, RS9, QE0, BW6, BW7. -/
import Derived.Test.YtiojapdolljocaaGreatqBw15
import Derived.Test.YtiojapdolljocaaGreatqBw32
import Derived.Test.YtiojapdolljocaaGreatqBw33
import Derived.Test.YtiojapdolljocaaGreatqBw34
set_option linter.unusedSimpArgs false
set_option maxHeartbeats 8000000
set_option linter.unusedVariables false
set_option linter.unusedSectionVars false
section
namespace Go.Proofs.Wy
open Go Go.Dm Tryz
variable [DMode]

end Go.Proofs.Wy
end
section
namespace Go.Proofs.Wy
open Go Go.Dm Tryz
attribute [local irreducible] DW Bh Bk
set_option maxRecDepth 100000


end Go.Proofs.Wy
end
section
namespace Go.Proofs.Wy
open Go Go.Dm Tryz
theorem Cz_ {H L:List ByteArray} (h1:1<=H.length) (x:Nd):lL H L (Co H L x)=true:=by
 unfold Co lL
 split
 ·split
  ·rename_i h2;have:=HT h2;simp;omega
  ·simp;omega
 ·split
  ·split
   ·rename_i h2;have:=HT h2;simp;omega
   ·simp;omega
  ·simp;omega
theorem pK {E:List (Nat×Nat)} {S:Nat->Prop} (hE:∀p∈E,S p.2):∀{r:List Nat} {p:Nat},OH E p r->∀q∈r,S q
 | [],_,_,q,hq=>by cases hq
 | x::r,p,hc,q,hq=>by
  rcases aL0.1 hq with rfl | hq
  ·exact hE _ hc.1
  ·exact pK hE (r:=r) hc.2 q hq
theorem Ch_ {t:RT} (qO:DR t=true) {ps:List Nat} (h:EC lfP t 0 ps):∀p∈ps,Sb t p:=by
 rcases ((oZ t qO 0).2 ps).2 h with ⟨rfl,_⟩ | ⟨p,r,rfl,h1,h2,_⟩
 ·intro p hp;cases hp
 ·have hE:∀x∈VB t 0,Sb t x.2:=by
   rintro⟨a,b⟩ hx;have:=(Jy t 0 a b hx).2;simpa[Sb]using this
  intro q hq
  rcases aL0.1 hq with rfl | hq
  ·have:=Hl t 0 q h1;simpa[Sb]using this
  ·exact pK hE h2 q hq
def NmS (H L:List ByteArray) (s:Sym) (x:ByteArray):Prop:=(if s.label=true then L else H)[s.n.toNat]? =some x
structure Kinds (H L:List ByteArray):Prop where
 up:∀s∈H,Et Sp s=true
 lo:∀s∈L,Et SQ s=true
 nh:H.Nodup
 nl:L.Nodup
theorem Xi {s:ByteArray} (h1:Et Sp s=true) (h2:Et SQ s=true):False:=by
 unfold Et at h1 h2
 cases h:s.data.toList with
 | nil=>rw[h]at h1;simp at h1
 | cons b r =>
  rw[h]at h1 h2;simp only[Sp,SQ,aM0,decide_eq_true_eq]at h1 h2;omega
theorem AY_ {l:List ByteArray} (hn:l.Nodup) {k:Nat} {s:ByteArray} (h:l[k]? =some s):JL l s=k:=by
 obtain⟨hk,he⟩:=aF0.1 h;have h1:=HT (bJ0 h)
 have h2:l[JL l s]'h1=s:=by
  have:(s==l[JL l s]'h1)=true:=List.findIdx_getElem (p:=fun x=>s==x) (w:=h1);exact(beq_iff_eq.1 this).symm
 exact(List.getElem_inj hn).1 (by rw[h2,he])
theorem lN {l:List ByteArray} {s:ByteArray} (h:s∈l):l[JL l s]? =some s:=by
 have h1:=HT h;rw[aB0 h1];have:(s==l[JL l s]'h1)=true:=List.findIdx_getElem (p:=fun x=>s==x) (w:=h1);rw[<-beq_iff_eq.1 this]
theorem SS {x:Nd} (hm:CL x=true):(x.k=2->Et Sp x.s=true)/\(x.k=3->Et SQ x.s=true):=by
 unfold CL at hm;refine⟨fun h=> ?_,fun h=> ?_⟩
 ·rw[if_neg (by omega),if_pos h]at hm;simp only[aM0]at hm;exact hm.2.2
 ·rw[if_neg (by omega),if_neg (by omega),if_pos h]at hm;simp only[aM0]at hm;exact hm.2.2
theorem AO_ {H L:List ByteArray} (K:Kinds H L) {x:Nd} (hm:CL x=true) (hk:x.k=2\/x.k=3) (he:Ps H L x≠4) {s:Sym} {n:ByteArray} (hs:lL H L s=true) (hn:NmS H L s n):Co H L x=s↔x.s=n:=by
 obtain⟨h1,h2⟩:=SS hm;obtain⟨lb,i⟩:=s;unfold lL at hs;simp only[aM0,decide_eq_true_eq]at hs;unfold NmS at hn;simp only at hn;unfold Ps at he;unfold Co
 rcases hk with hk | hk
 ·rw[if_neg (by omega),if_pos hk]at he |-
  have hx:x.s∈H:=by
   unfold Kc at he
   split at he
   ·assumption
   ·exact absurd rfl he
  rw[if_pos hx];cases lb
  ·simp only[bE0,if_false]at hn
   constructor
   ·intro h;simp only[Sym.mk.injEq,true_and]at h;have:=lN hx;rw[<-h,cB0,this]at hn;exact Option.some.inj hn
   ·rintro rfl;rw[AY_ K.nh hn];simp only[Sym.mk.injEq,true_and];omega
  ·simp only[if_true]at hn
   constructor
   ·intro h;simp at h
   ·rintro rfl;exact(Xi (h1 hk) (K.lo _ (bJ0 hn))).elim
 ·rw[if_pos hk]at he |-
  have hx:x.s∈L:=by
   unfold Kc at he
   split at he
   ·assumption
   ·exact absurd rfl he
  rw[if_pos hx];cases lb
  ·simp only[bE0,if_false]at hn
   constructor
   ·intro h;simp at h
   ·rintro rfl;exact(Xi (K.up _ (bJ0 hn)) (h2 hk)).elim
  ·simp only[if_true]at hn
   constructor
   ·intro h;simp only[Sym.mk.injEq,true_and]at h;have:=lN hx;rw[<-h,cB0,this]at hn;exact Option.some.inj hn
   ·rintro rfl;rw[AY_ K.nl hn];simp only[Sym.mk.injEq,true_and];omega
theorem Bj_ {t:RT} (h:DR t=true) {i:Nat} {x:Nd} (hx:(flat t)[i]? =some x):CL x=true:=OQ h x (bJ0 hx)
theorem Zn {H L:List ByteArray} (K:Kinds H L) {t:RT} (qO:DR t=true) (cW:∀x∈flat t,Ps H L x≠4) {w:List Sym} {ns:List ByteArray} (hw:∀s∈w,lL H L s=true) (hl:ns.length=w.length)
  (hn:∀(i:Nat) (s:Sym) (n:ByteArray),w[i]? =some s->ns[i]? =some n->NmS H L s n):EC (fun _ x=>Co H L x) t 0 w↔EC Ee t 0 ns:=by
 have e1:=Ie (lf:=fun _ x=>Co H L x) (lg:=lfP) (f:=fun p=>Co H L (nd (flat t) p)) t 0 0 (fun i x hi hx=>by simp only[bN0];rw[iZ hi]) w;have e2:=Ie (lf:=Ee) (lg:=lfP) (f:=fun p=>(nd (flat t) p).s) t 0 0 (fun i x hi hx=>by simp only[bN0];rw[iZ hi]) ns;rw[e1,e2]
 have key:∀ps,EC lfP t 0 ps->(w=ps.map (fun p=>Co H L (nd (flat t) p))↔ns=ps.map fun p=>(nd (flat t) p).s):=by
  intro ps mY;have bQ:=Ch_ qO mY
  have one:∀(i p:Nat) (s:Sym) (n:ByteArray),ps[i]? =some p->w[i]? =some s->ns[i]? =some n->(Co H L (nd (flat t) p)=s↔(nd (flat t) p).s=n):=by
   intro i p s n h1 h2 h3;obtain⟨x,hx,hk⟩:=bQ p (bJ0 h1);rw[iZ hx];exact AO_ K (Bj_ qO hx) hk (cW x (bJ0 hx)) (hw s (bJ0 h2)) (hn i s n h2 h3)
  constructor
  ·intro h;have qY:ps.length=w.length:=by rw[h,aO0]
   refine eD0 (by rw[aO0];omega) fun i h1 h2=> ?_
   rw[aO0]at h2;have wK:i<w.length:=by omega
   rw[List.getElem_map];refine((one i _ _ _ (aB0 h2) (aB0 wK) (aB0 h1)).1 ?_).symm;have:w[i]? =(ps.map (fun p=>Co H L (nd (flat t) p)))[i]? :=by rw[<-h]
   rw[bH0,aB0 wK,aB0 h2]at this;simpa using this.symm
  ·intro h;have qY:ps.length=ns.length:=by rw[h,aO0]
   refine eD0 (by rw[aO0];omega) fun i h1 h2=> ?_
   rw[aO0]at h2;have yI:i<ns.length:=by omega
   rw[List.getElem_map];refine((one i _ _ _ (aB0 h2) (aB0 h1) (aB0 yI)).2 ?_).symm;have:ns[i]? =(ps.map (fun p=>(nd (flat t) p).s))[i]? :=by rw[<-h]
   rw[bH0,aB0 yI,aB0 h2]at this;simpa using this.symm
 constructor
 ·rintro⟨ps,h1,h2⟩;exact⟨ps,h1,(key ps h1).1 h2⟩
 ·rintro⟨ps,h1,h2⟩;exact⟨ps,h1,(key ps h1).2 h2⟩
theorem Cx_ {H L:List ByteArray} (h1:1<=H.length) {t:RT} {w:List Sym} (h:EC (fun _ x=>Co H L x) t 0 w):∀s∈w,lL H L s=true:=by
 rw[Ie (lf:=fun _ x=>Co H L x) (lg:=lfP) (f:=fun p=>Co H L (nd (flat t) p)) t 0 0 (fun i x hi hx=>by simp only[bN0];rw[iZ hi]) w]at h;obtain⟨ps,_,rfl⟩:=h;intro s hs;obtain⟨p,_,rfl⟩:=aQ0.1 hs;exact Cz_ h1 _
end Go.Proofs.Wy
end
section
namespace Go.Proofs.Wy
open Go Go.Dm Tryz
attribute [local irreducible] DW Bh Bk
set_option maxRecDepth 100000
open Classical in
noncomputable def mtB (t:RT) (W:List ByteArray):Bool:=decide (EC Ee t 0 W)
theorem lF {t:RT} {W:List ByteArray}:mtB t W=true↔EC Ee t 0 W:=by unfold mtB;simp
def OA (W:List ByteArray):List Bool:=(List.replicate (W.length+1) false).set 0 true
theorem Mm (W:List ByteArray):(OA W).length=W.length+1:=by simp[OA]
theorem nP (W:List ByteArray) (i:Nat):Gi (OA W) i↔i=0:=by
 unfold OA;rw[Uo (by simp)]
 constructor
 ·rintro (h | h)
  ·exact h.symm
  ·unfold Gi at h;rw[dG0]at h
   split at h<;>simp at h
 ·exact fun h=> .inl h.symm
theorem EE_ (W:List ByteArray):(List.replicate (W.length+1) [DVal.bool false]).set 0 [.bool true]=(OA W).map RJ:=by
 have:=Rf (List.replicate (W.length+1) false) 0 true;rw[Lh]at this;exact this
theorem tV (t:RT) (W:List ByteArray):(DH (EC Ee t 0) W (OA W))[W.length]? =some (mtB t W):=by
 have hl:W.length<(DH (EC Ee t 0) W (OA W)).length:=by rw[BT,Mm];omega
 rw[aB0 hl]
 congr 1
 rw[Bool.eq_iff_iff,lF]
 have h1:(DH (EC Ee t 0) W (OA W))[W.length]'hl=true↔Gi (DH (EC Ee t 0) W (OA W)) W.length:=by
  unfold Gi;rw[aB0 hl,aA0]
 rw[h1,CO,Mm];have h2:VR W 0 W.length=W:=by unfold VR;simp
 constructor
 ·rintro⟨_,i,_,h4,h5⟩;have:=(nP W i).1 h4;subst this
  rwa[h2]at h5
 ·intro h;exact⟨by omega,0,by omega,(nP W 0).2 rfl,by rw[h2];exact h⟩
def oI : Ann:=⟨[],[⟨7,[19],[],[]⟩]⟩
theorem aA (t:RT) (ht:DR t=true) (hs:(flat t).length<=2048) (hb:CN t=0) (W:List ByteArray) (hW:W.length<=64):Ag prog 37 [Bi (flat t),Bo W] (.tup [.bool (mtB t W),.int .i64 0]):=by
 have e1:=HX t ht hs;rw[hb]at e1;have e2:=(Tl W hW t ht hs (OA W) (Mm W)).pure;have bX:=tV t W;have qY:(DH (EC Ee t 0) W (OA W)).length=W.length+1:=by rw[BT,Mm]
 obtain⟨Y,hY⟩:∃Y,Y=DH (EC Ee t 0) W (OA W):=⟨_,rfl⟩;rw[<-hY]at e2 bX qY;have qV:W.length<Y.length:=by omega
 have hla':Y[W.length]'qV=mtB t W:=(aF0.1 bX).2;obtain⟨l,hl⟩:∃l,l=flat t:=⟨_,rfl⟩;rw[<-hl]at e1 e2 |-;clear hY hl;have jU:¬(64:Int)<(W.length:Int):=by omega
 have kS:IntKind.i64.wrap ((W.length:Int)+1)=(W.length:Int)+1:=wq;have qH:=EE_ W;have hn0:(0:Int)<=(W.length:Int)+1:=by omega
 have yI:(W.length:Int)+1<=150000000000000:=by omega
 have cQ:(W.length:Int)+1<=9223372036854775807:=by omega
 have hn3:((W.length:Int)+1).toNat=W.length+1:=by omega
 refine Ad [19] oI func37 call37 ntmps37 mxd (Az @oI.eq_1 results37) rfl (fun qJ B qX qQ=> ?_) (hd:=(by simp[mx,AJ]));clear qJ;simp only[Ap];exact AA (Az e1 e2) Ac (FJ_ @RJ.eq_1 jU kS hn0 yI cQ hn3 qH bX hla' qV qY Dn)
noncomputable def nmC (H L:List ByteArray) (s:Sym):ByteArray:=Classical.choose (KP H L s)
theorem Ek_ {H L:List ByteArray} {s:Sym} (h:lL H L s=true):NmS H L s (nmC H L s):=(Classical.choose_spec (KP H L s)).1 h
theorem Ax_ (H L:List ByteArray) (s:Sym):Ag prog 35 [Iu H L,.agg (AR s)] (.tup [.str (nmC H L s),.int .i64 (if lL H L s then 0 else 4)]):=(Classical.choose_spec (KP H L s)).2
theorem AU_ {gt:GT} (h:OkgT gt):Kinds (AE (Bz gt)) (AH (Bz gt)) where
 up:=fun s hs=>by
  obtain⟨r,hr,rfl⟩:=KY.1 hs;obtain⟨p,hp,rfl⟩:=aQ0.1 hr;have:=(h.ok p hp).1;unfold Da at this;simp only[if_true,aM0]at this;exact this.2
 lo:=fun s hs=>by
  have hs:s∈AK 3 (Bz gt):=by
   unfold AH at hs
   rwa[(GN _).2]at hs
  unfold AK Ct at hs;obtain⟨r,hr,hs⟩:=bW0.1 hs;obtain⟨x,hx,rfl⟩:=aQ0.1 hs;obtain⟨hx,hk⟩:=cS0.1 hx;obtain⟨p,hp,rfl⟩:=aQ0.1 hr;exact(SS (OQ (h.ok p hp).2 x hx)).2 (by simpa using hk)
 nh:=LS _
 nl:=(GN _).1.imp fun h=>VV h
theorem pO {gt:GT} (h:OkgT gt) (ts:List RT) (zL:∀t∈ts,DR t=true) (jU:(BW ts).length<=64) (cW:∀t∈ts,∀x∈flat t,Ps (AE (Bz gt)) (AH (Bz gt)) x≠4) (w:List Sym) (hw:w.length<=64) :
  Dd_ (Oy (Co (AE (Bz gt)) (AH (Bz gt))) ts) w=(ts.any (fun t=>mtB t (w.map (nmC (AE (Bz gt)) (AH (Bz gt)))))&&w.all (lL (AE (Bz gt)) (AH (Bz gt)))):=by
 have K:=AU_ h;have h1:1<=(AE (Bz gt)).length:=by have:=Xh h;omega
 obtain⟨H,hH⟩:∃H,H=AE (Bz gt):=⟨_,rfl⟩;obtain⟨L,hL⟩:∃L,L=AH (Bz gt):=⟨_,rfl⟩;rw[<-hH,<-hL]at K |-;rw[<-hH]at h1;simp only[<-hH,<-hL]at cW;have qO:=nK H L ts jU;unfold Dd_;rw[qO,decide_eq_true hw,cT0,cT0,Bool.eq_iff_iff,uG zL qO,aM0,cF0,aX0]
 have key:(∀s∈w,lL H L s=true)->∀t∈ts,(EC (fun _ x=>Co H L x) t 0 w↔mtB t (w.map (nmC H L))=true):=by
  intro hk t ht;rw[lF];refine Zn K (zL t ht) (cW t ht) hk (by rw[aO0]) ?_;intro i s n h2 h3;rw[bH0,h2]at h3;simp only[dB0,aA0]at h3;rw[<-h3];exact Ek_ (hk s (bJ0 h2))
 constructor
 ·rintro⟨t,ht,h2⟩;have hk:=Cx_ h1 h2;exact⟨⟨t,ht,(key hk t ht).1 h2⟩,hk⟩
 ·rintro⟨⟨t,ht,h2⟩,hk⟩;exact⟨t,ht,(key hk t ht).2 h2⟩
theorem XA : ∀{ls:List (List Nd)},Kf ls=0->∀l∈ls,NW l=0
 | [],_,l,hl=>by cases hl
 | m::ls,h,l,hl=>by
  unfold Kf at h
  split at h
  ·rename_i h1
   rcases aL0.1 hl with rfl | hl
   ·exact h1
   ·exact XA h l hl
  ·rename_i h1;exact absurd h h1
def nsD (l:List ByteArray):List (List DVal):=l.map AD
theorem CK_ (l:List ByteArray):(nsD l).length=l.length:=by unfold nsD;rw[aO0]
@[simp] theorem Go_ (l:List ByteArray):Bq (nsD l)=0:=HM _ (fun x=>by simp[AD,AJ,mx]) l
theorem Av_ (l:List ByteArray) (x:ByteArray):nsD l++[[.str x]]=nsD (l++[x]):=by unfold nsD;rw[bI0];rfl
def Ic : Ann:=⟨[],[⟨4,[9],[],[]⟩]⟩
theorem Vb {gt:GT} (h:OkgT gt) (hs:Gn (Bz gt)) (p1:Ag prog 49 [AM (Bz gt)] (.int .i64 0)) (p2:Ag prog 28 [AM (Bz gt)] (.int .i64 0)) (ts:List RT) (kT:∀t∈ts,DR t=true/\(flat t).length<=2048)
  (dG:∀t∈ts,CN t=0) (hll:ts.length<=2000000) (hoc:(BW ts).length<=64) (cW:∀t∈ts,∀x∈flat t,Ps (AE (Bz gt)) (AH (Bz gt)) x≠4) (e5:Ag prog 17 [Iu (AE (Bz gt)) (AH (Bz gt)),Ci (ts.map flat)] (.tup [.agg (Bj (Oy (Co (AE (Bz gt)) (AH (Bz gt))) ts)),.int .i64 0])) (w:List Sym) (hw:w.length<=64) :
  Ag prog 6 [AM (Bz gt),Ci (ts.map flat),NT w] (.bool true):=by
 have hgl:=Gs gt;have zU:=h.le;have hnl:=Ff (k:=3) hs;have hhd:=h.hd;have hlb:=h.lb;have e1:=NK;have e2:=KB (ts.map flat) (fun l hl=>by obtain⟨t,ht,rfl⟩:=aQ0.1 hl;have:=(kT t ht).2;omega) (by rw[aO0];omega);have e3:=Qh (Bz gt) 0 p2;have e4:=iX (Bz gt) (by omega) (by omega) (by omega) p1;have hlaw:=pO h ts (fun t ht=>(kT t ht).1) hoc cW w hw;have qO:=nK (AE (Bz gt)) (AH (Bz gt)) ts hoc;have e6:=aK (Oy (Co (AE (Bz gt)) (AH (Bz gt))) ts) w
 rw[hlaw]at e6;unfold Eu_ at e6;rw[qO,if_pos rfl,if_pos hw]at e6;have en:=Ax_ (AE (Bz gt)) (AH (Bz gt));obtain⟨H,hH⟩:∃H,H=AE (Bz gt):=⟨_,rfl⟩;obtain⟨L,hL⟩:∃L,L=AH (Bz gt):=⟨_,rfl⟩;obtain⟨g,hg⟩:∃g,g=Bz gt:=⟨_,rfl⟩;rw[<-hH,<-hL]at e5 e6;simp only[<-hH,<-hL]at en;rw[<-hg]at e3 e4 |-;rw[hg,<-hH,<-hL,<-hg]at e4;obtain⟨a,ha⟩:∃a,a=Oy (Co H L) ts:=⟨_,rfl⟩;rw[<-ha]at e5 e6;obtain⟨nm,hnm⟩:∃nm,nm=nmC H L:=⟨_,rfl⟩;rw[<-hnm]at e6
 simp only[<-hnm]at en;obtain⟨kn,mW⟩:∃kn,kn=lL H L:=⟨_,rfl⟩;rw[<-mW]at e6;simp only[<-mW]at en;have hnl2:(w.map nm).length<=64:=by rw[aO0];exact hw
 have em:=fun t (ht:t∈ts)=>aA t (kT t ht).1 (kT t ht).2 (dG t ht) (w.map nm) hnl2
 obtain⟨ns,hns⟩:∃ns,ns=w.map nm:=⟨_,rfl⟩;simp only[<-hns]at em e6;obtain⟨F,hF⟩:∃F:Nat->Bool,∀k,F k=(ts.take k).any fun t=>mtB t ns:=⟨_,fun _=>rfl⟩
 have hF0:F 0=false:=by rw[hF];simp
 have hFa:F ts.length=ts.any fun t=>mtB t ns:=by rw[hF,aT0]
 rw[<-hFa]at e6;obtain⟨ls,hls⟩:∃ls,ls=ts.map flat:=⟨_,rfl⟩;rw[<-hls]at e2 e5 |-;have hlsl:ls.length=ts.length:=by rw[hls,aO0]
 rw[<-hlsl]at e6
 have emk:∀k l,ls[k]? =some l->∃b,Ag prog 37 [Bi l,Bo ns] (.tup [.bool b,.int .i64 0])/\F (k+1)=(F k||b):=by
  intro k l hk;rw[hls,bH0,aY0]at hk;obtain⟨t,ht,rfl⟩:=hk;refine⟨_,em t (bJ0 ht),?_⟩;rw[hF,hF,Bf ht,List.any_append];simp
 have hll2:ls.length<=2000000:=by omega
 clear hlaw qO hH hL hg p1 p2 hnl hs cW mW ha hnm h dG kT hgl zU hhd hlb hoc hFa hF hls hlsl em hll;have hw64:¬(64:Int)<(w.length:Int):=by omega
 have hnl3:ns.length=w.length:=by rw[hns,aO0]
 simp only[Bj]at e5 e6;refine Ad [50] Ic func6 call6 ntmps6 mxd (Az @Ic.eq_1 results6) rfl (fun qJ B qX qQ=> ?_);clear qJ;simp only[Ap]
 (refine Ba (Lj e1 e2 e3 e4 e5) Ac (Az @Bj.eq_1 hw64) ?_;intros;refine Al ?_)
 refine CD 11 50 9 1 16 (by simp[qX,results6,Ic]) (fun n=> ?_);refine An (X:={k:Nat//k<=w.length}) (fun k=>⟨[(1,Ci ls),(2,NT w),(7,Iu H L),(9,.ref [.int .i64 a.st,Fu a.fin,Ga a.arcs]),(11,.osl 50 1),(12,.bool ((w.take k.1).all kn)),(13,.int .i64 k.1)],[⟨50,1,.row 9 1 16 (nsD (ns.take k.1))⟩]⟩) (fun k=>w.length-k.1) ⟨0,by omega⟩ (Sub.lit (by simp[nsD])) ?_;rintro⟨k,vJ⟩;simp only
 by_cases qV:k<w.length
 ·obtain⟨s,hx,qG,zJ⟩:=Ar qV;have wM:ns[k]? =some (nm s):=by rw[hns,bH0,hx];rfl
  have e7:=en s;have hsn:=Av_ (ns.take k) (nm s);rw[<-Bf wM]at hsn;have hak:(w.take (k+1)).all kn=((w.take k).all kn&&kn s):=by rw[Bf hx,List.all_append];simp
  have mS:(nsD (ns.take k)).length<=64:=by rw[CK_,aW0];omega
  obtain⟨T,hT⟩:∃T,T=nsD (ns.take k):=⟨_,rfl⟩;obtain⟨G,hG⟩:∃G,G=(w.take k).all kn:=⟨_,rfl⟩;obtain⟨nk,hnk⟩:∃nk,nk=nm s:=⟨_,rfl⟩;have hmT:Bq T=0:=by rw[hT];simp
  rw[<-hT,<-hnk]at hsn;rw[<-hT]at mS |-;rw[<-hG]at hak |-;rw[<-hnk]at e7;have hb:(T.length+1)*16<=150000000000000:=by omega
  have wV:T.length+1<=9223372036854775807:=by omega
  have kS:IntKind.i64.wrap ((k:Int)+1)=(k:Int)+1:=wq;simp only[AR]at e7;cases wR:kn s
  ·rw[wR]at e7 hak;simp only[bE0,if_false,Bool.and_false]at e7 hak;cases G
   all_goals
    (refine Ba (AQ e7) Ac (Np @AR.eq_1 qV hx qG hb wV kS hmT) ?_;intros;refine Al ?_)
    refine Ak.mk ⟨k+1,by omega⟩ (Sub.lit (by simp[hak,hsn,hmT])) (by simp;omega)
    skip
  ·rw[wR]at e7 hak;simp only[if_true,dT0]at e7 hak;cases G
   all_goals
    (refine Ba (AQ e7) Ac (Np @AR.eq_1 qV hx qG hb wV kS hmT) ?_;intros;refine Al ?_)
    refine Ak.mk ⟨k+1,by omega⟩ (Sub.lit (by simp[hak,hsn,hmT])) (by simp;omega)
    skip
 ·have qN:k=w.length:=by omega
  subst qN;have hnt2:ns.take w.length=ns:=by rw[<-hnl3,aT0]
  rw[aT0,hnt2];obtain⟨G,hG⟩:∃G,G=w.all kn:=⟨_,rfl⟩;rw[<-hG]at e6 |-;refine GL (Sub.freezeL [50] _) ?_;simp[nsD]
  (refine Ba (AQ e6) Ac (AQ @Bj.eq_1) ?_;intros;refine Al ?_)
  refine An (X:={k:Nat//k<=ls.length}) (fun k=>⟨[(1,Ci ls),(11,Bo ns),(12,.bool G),(16,.bool (F ls.length&&G)),(17,.int .i64 0),(18,.bool (F k.1)),(19,.int .i64 k.1)],[]⟩) (fun k=>ls.length-k.1) ⟨0,by omega⟩ (Sub.lit (by simp[hF0])) ?_;rintro⟨k,vJ⟩;simp only
  by_cases qV:k<ls.length
  ·obtain⟨l,hx,qG,zJ⟩:=Ar qV;obtain⟨b,e7,hFn⟩:=emk k l hx;obtain⟨f,hf⟩:∃f,f=F k:=⟨_,rfl⟩;rw[<-hf]at hFn |-;have kS:IntKind.i64.wrap ((k:Int)+1)=(k:Int)+1:=wq;cases f
   all_goals
    (refine Ba (AQ e7) Ac (Lj @EY.eq_1 qV hx qG kS) ?_;intros;refine Al ?_)
    refine Ak.mk ⟨k+1,by omega⟩ (Sub.lit (by simp[hFn])) (by simp;omega)
    skip
  ·have qN:k=ls.length:=by omega
   subst qN;obtain⟨f,hf⟩:∃f,f=F ls.length:=⟨_,rfl⟩;rw[<-hf];cases f<;>cases G
   all_goals
    exact AA Ac Ac Ac
theorem Sk (g:List Rul) (ls:List (List Nd)) (w:List Sym) (hs:Gn g) (hl:∀l∈ls,l.length<=1572864) (hll:ls.length<=2000000) (hg:g.length*40<=140737488355328):Ag prog 6 [AM g,Ci ls,NT w] (.bool true):=by
 obtain⟨c,p1,p2,p3⟩:=FE_ g hs;have e1:=NK;have e2:=KB ls hl (by omega);have e3:=Qh g c p2
 by_cases yB:c=0
 ·obtain⟨gt,rfl,h⟩:=p3 yB;subst yB;have hgl:=Gs gt;have zU:=h.le;have hnl:=Ff (k:=3) hs;have hhd:=h.hd;have hlb:=h.lb;have e4:=iX (Bz gt) (by omega) (by omega) (by omega) p1;have hH:=Xh h
  by_cases hW:Iw (AE (Bz gt)) (AH (Bz gt)) ls=0
  ·have hW0:=hW;unfold Iw at hW
   split at hW
   ·rename_i he;obtain⟨ts,rfl,kT⟩:=Lc he
    split at hW
    ·omega
    ·rename_i hb
     split at hW
     ·omega
     ·have hoc:(BW ts).length<=64:=by rw[<-KO];omega
      have huq:∀ts',ts.map flat=ts'.map flat->(∀t∈ts',DR t=true/\(flat t).length<=2048)->ts'=ts:=fun ts' h h'=>Sr ts' ts (fun t ht=>(h' t ht).1) (fun t ht=>(kT t ht).1) h.symm
      have e5:=SI (AE (Bz gt)) (AH (Bz gt)) (ts.map flat) (.tup [BO_ (AE (Bz gt)) (AH (Bz gt)) ts,.int .i64 0]) hH ⟨fun h=>absurd he h,fun _ h=>absurd h hb,fun _ _ h=>by omega,fun _ ts' h h' _ _=>by rw[huq ts' h h']⟩ (by simp[BO_,BS_,mx,AJ]);rw[Dt_]at e5
      have dG:∀t∈ts,CN t=0:=fun t ht=>by
       have h0:=XA he (flat t) (aQ0.2 ⟨t,ht,rfl⟩);obtain⟨u,hu,hue,hc⟩:=Du_ (kT t ht).2 (EM (kT t ht).1);have:=(Qz t u [] [] (kT t ht).1 hu (by rw[hue])).1;rw[hc,<-this]at h0;exact h0
      have cW:∀t∈ts,∀x∈flat t,Ps (AE (Bz gt)) (AH (Bz gt)) x≠4:=fun t ht x hx h4=>by
       apply hb
       rw[cF0];refine⟨flat t,aQ0.2 ⟨t,ht,rfl⟩,?_⟩;unfold Nm;rw[cF0];exact⟨x,hx,by simpa using h4⟩
      by_cases hw:w.length<=64
      ·exact Vb h hs p1 p2 ts kT dG (by simpa using hll) hoc cW e5 w hw
      ·have hw64:(64:Int)<(w.length:Int):=by omega
       obtain⟨a,ha⟩:∃a,a=Oy (Co (AE (Bz gt)) (AH (Bz gt))) ts:=⟨_,rfl⟩;rw[<-ha]at e5;simp only[Bj]at e5;refine Ad [] Ic func6 call6 ntmps6 mxd (Az @Ic.eq_1 results6) rfl (fun qJ B qX qQ=> ?_);clear qJ;simp only[Ap];exact AA (Lj e1 e2 e3 e4 e5) Ac (Az @Bj.eq_1 hw64)
   ·rename_i he;exact absurd hW he
  ·have e5:=SI (AE (Bz gt)) (AH (Bz gt)) ls (.tup [Tu,.int .i64 (Iw (AE (Bz gt)) (AH (Bz gt)) ls)]) hH ⟨fun h=>by unfold Iw;rw[if_neg h],fun h h'=>by unfold Iw;rw[if_pos h,if_pos h'],fun h h' h''=>by unfold Iw;rw[if_pos h,if_neg (by rw[h'];simp),if_pos h''],fun he ts' h h' h'' h3=>by
    exfalso
    apply hW
    unfold Iw
    rw[if_pos he,if_neg (by rw[h''];simp),if_neg (by omega)]⟩ (by simp[mx,AJ])
   obtain⟨W,hWW⟩:∃W,W=Iw (AE (Bz gt)) (AH (Bz gt)) ls:=⟨_,rfl⟩;rw[<-hWW]at e5 hW;have hWb:(W==0)=false:=by simpa using hW
   refine Ad [] Ic func6 call6 ntmps6 mxd (Az @Ic.eq_1 results6) rfl (fun qJ B qX qQ=> ?_);clear qJ;simp only[Ap];exact AA (Lj e1 e2 e3 e4 e5) Ac (Az hW hWb)
 ·have e4:=Ar_ g c yB p1;have e5:=nH ls;rw[decide_eq_false yB]at e3;have hcb:(c==0)=false:=by simpa using yB
  have yC:(c != 0)=true:=by simpa using yB
  refine Ad [] Ic func6 call6 ntmps6 mxd (Az @Ic.eq_1 results6) rfl (fun qJ B qX qQ=> ?_);clear qJ;simp only[Ap];exact AA (Lj e1 e2 e3 e4 e5) Ac (HB yB hcb yC)
end Go.Proofs.Wy
end
