/- Parts of a proof, laid together: EnPi, AP0. -/
import Derived.Test.YtbpmiknobocjoaaGreatqAp16
import Derived.Test.YtbpmiknobocjoaaGreatqAp17
import Derived.Test.YtbpmiknobocjoaaGreatqAp18
set_option linter.unusedSimpArgs false
set_option maxHeartbeats 8000000
set_option linter.unusedVariables false
set_option linter.unusedSectionVars false
section
namespace Go.Dm
variable [DMode]
def DO (P:Program) (f:FuncId) (args:List DVal) (d:DVal):Prop :=
 Enters P f/\mx d=0/\∀(w:World) (vs:Array Value),rdV (fun _ _=>none) [] w.heap args vs.toList ->
  Calls P f vs w fun e w'=>∃v,e= .returned v/\Upd [] w w'/\rd (fun _ _=>none) (List.range w.heap.size) w'.heap d v
def zf (M:List Nat) (h:Array Obj) (u:Value):Prop:=∀b off p n cap,u= .slice (some ⟨b,off,p⟩) n cap->0<n->b∉M/\∃arr ty,h[b]? =some (.cells arr ty (0,0))
abbrev WO := Value×DVal×DVal
def GH_ (n0:Nat) (l:List WO) (M:List Nat) (h:Array Obj):Prop :=
 ∀p∈l,mx p.2.1=0/\mx p.2.2=0/\rd (fun _ _=>none) M h p.2.1 p.1/\rd (fun _ _=>none) (M++List.range n0) h p.2.2 p.1/\zf M h p.1
theorem TI {n0:Nat} {l:List WO} {M M':List Nat} {h h':Array Obj} (k1:∀b o,b∉M->FE o=true->h[b]? =some o->h'[b]? =some o) (k2:∀b o,b∉M->FE o=true->h[b]? =some o->b∉M') (H:GH_ n0 l M h):GH_ n0 l M' h':=by
 intro p hp;obtain⟨h1,h2,h3,h4,h5⟩:=H p hp;refine⟨h1,h2,Bk (n:=0) ⟨fun _ _ _ h=>by omega,k1,k2⟩ _ _ (by omega) h3,Bk (n:=0) ⟨fun _ _ _ h=>by omega,fun b o hb=>k1 b o (fun hm=>hb (aM0 _ hm)),fun b o hb ho hh hm=> ?_⟩ _ _ (by omega) h4,fun b off q n cap hu hn=> ?_⟩
 rotate_left
 ·obtain⟨g1,arr,ty,g2⟩:=h5 b off q n cap hu hn;exact⟨k2 b _ g1 rfl g2,arr,ty,k1 b _ g1 rfl g2⟩
 rcases aG0.1 hm with hm | hm
 ·exact k2 b o (fun hm=>hb (aM0 _ hm)) ho hh hm
 ·exact hb (aN0 _ hm)
def Ob (n0:Nat) (l:List WO):Abs where
 J:=fun M bl hd h=>(hd= .nilFunc/\bl=[])/\GH_ n0 l M h
 weak:=fun M M' bl hd h h' k1 k2 _ H=>⟨H.1,TI k1 k2 H.2⟩
 one:=by
  rintro _ _ _ _ ⟨⟨rfl,_⟩,_⟩;exact⟨rfl,rfl⟩
 nd:=by
  rintro _ _ _ _ ⟨⟨_,rfl⟩,_⟩ b hb;simp at hb
theorem Sub.pins0 {B:BaseN} (j n0:Nat) {sl:List (Nat×DVal)} (hs:Hk sl=0):Sub B ⟨sl,[]⟩ ⟨sl,[⟨j,1,.abs (Ob n0 [])⟩]⟩:=by
 intro a w loc R;have hN:=B.hN;refine⟨fun _=>⟨[],.nilFunc⟩,⟨by simp,by simp[Aa],by simp[Aa],fun b hb=>R.st.lt b (by simpa[Aa]using hb),fun e he=> ?_⟩,R.upd,by simp[Aa],fun e he hr=> ?_,fun i=> ?_,R.nt,?_⟩
 ·simp only[aE0]at he;subst he;exact⟨⟨rfl,rfl⟩,fun p hp=>by simp at hp⟩
 ·simp only[aE0]at he;subst he;simp only at hr;omega
 ·exact Bk (n:=0) ⟨fun _ _ _ h=>by omega,fun _ _ _ _ h=>h,fun b o hb _ _ hm=>hb (by simpa[Aa]using hm)⟩ _ _ (by have:=KR sl i;show mx (getS sl i)<=0;omega) (R.sl i)
 ·exact R.df.keep rfl (Upd.refl [] w) (by simp) (fun b hb=> .inl (by simpa[Aa]using hb))
def pc (b:Bool) (id rr:Nat) (u:Value):DVal->DVal
 | .osl j r=>if b=false/\j=id/\r=rr then .pin u else .osl j r
 | .bx j r o=>if b=true/\j=id/\r=rr/\o=0 then .pin u else .bx j r o
 | d=>d
def PW (b:Bool) (id rr:Nat):DVal->Prop
 | .osl j r=>j=id->b=false/\r=rr
 | .bx j r o=>j=id->b=true/\r=rr/\o=0
 | .rx j _ _ _ _=>j≠id
 | .omp j _=>j≠id
 | d=>mx d=0
def GP_ (b:Bool) (id rr:Nat):DObj->Prop
 | .box cs=>∀c∈cs,PW b id rr c
 | .row _ _ _ es=>∀cs∈es,∀c∈cs,PW b id rr c
 | .map ks vs=>AJ ks=0/\AJ vs=0
 | .abs _=>True
 | _=>False
def pcO (b:Bool) (id rr:Nat) (u:Value):DObj->DObj
 | .box cs=> .box (cs.map (pc b id rr u))
 | .row et k bs es=> .row et k bs (es.map fun cs=>cs.map (pc b id rr u))
 | o=>o
def Vq (b:Bool) (id rr:Nat) (u:Value) (kid n0:Nat) (l:List WO) (own:List Ent):List Ent :=
 own.map fun e=>⟨e.id,e.r,if e.id=kid then .abs (Ob n0 l)else pcO b id rr u e.obj⟩
theorem Fr_ {b:Bool} {id rr:Nat} {d:DVal} (h:mx d=0):PW b id rr d:=by
 cases d<;>simp only[PW]<;>first
  | exact h
  | (simp only[mx]at h;omega)
theorem XR {b:Bool} {id rr:Nat}:∀{ds:List DVal},AJ ds=0->∀c∈ds,PW b id rr c
 | [],_,c,hc=>by cases hc
 | d::ds,h,c,hc=>by
  simp only[AJ]at h
  rcases aK0.1 hc with rfl | hc
  ·exact Fr_ (by omega)
  ·exact XR (by omega) c hc
theorem XQ {b:Bool} {id rr:Nat}:∀{es:List (List DVal)},Br es=0->∀cs∈es,∀c∈cs,PW b id rr c
 | [],_,c,hc=>by cases hc
 | d::ds,h,c,hc=>by
  simp only[Br]at h
  rcases aK0.1 hc with rfl | hc
  ·exact XR (by omega)
  ·exact XQ (by omega) c hc
theorem GI_ {b:Bool} {id rr:Nat} {u:Value} {d:DVal} (h:mx d=0):pc b id rr u d=d:=by
 cases d<;>simp only[pc]<;>(simp only[mx]at h;omega)
theorem rK {b:Bool} {id rr:Nat} {u:Value}:∀{ds:List DVal},AJ ds=0->ds.map (pc b id rr u)=ds
 | [],_=>rfl
 | d::ds,h=>by
  simp only[AJ]at h;rw[List.map_cons,GI_ (by omega),rK (by omega)]
theorem Vr {b:Bool} {id rr:Nat} {u:Value}:∀{es:List (List DVal)},Br es=0->(es.map fun cs=>cs.map (pc b id rr u))=es
 | [],_=>rfl
 | d::ds,h=>by
  simp only[Br]at h;rw[List.map_cons,rK (by omega),Vr (by omega)]
theorem XO {b:Bool} {id rr et k bs:Nat} {es:List (List DVal)} {c0:List DVal} (h:Br es=0) (h':∀c∈c0,PW b id rr c):GP_ b id rr (.row et k bs (es++[c0])):=by
 intro cs yY
 rcases aG0.1 yY with yY | yY
 ·exact XQ h cs yY
 ·rw[aE0.1 yY];exact h'
theorem Uk : ∀(l:List (Nat×DVal)) (i:Nat),getS l i= .any\/(i,getS l i)∈l
 | [],i=> .inl rfl
 | (j,d)::l,i=>by
  simp only[getS]
  split
  ·rename_i h;subst h;exact .inr aH0
  ·exact(Uk l i).imp id (aF0 _)
section
variable {B : Base} {s : DS} {a : Act} {w : World} {loc : Nat -> Loc}
theorem Rel.pin (R:Rel B s a w loc) {b:Bool} {id rr kid rk n0:Nat} {obj:DObj} {l:List WO} {u:Value} {d d':DVal} {sl2:List (Nat×DVal)}
  (he:Ah s.own id=some ⟨id,rr,obj⟩) (hk:Ah s.own kid=some ⟨kid,rk,.abs (Ob n0 l)⟩) (qF:kid≠id) (hobs:∀x∈Bp s.own id,GP_ b id rr x.obj)
  (hd:mx d=0) (gE:mx d'=0) (h1:rd (fun _ _=>none) (Aa (Bp s.own id) loc++B.M0) w.heap d u) (h2:rd (fun _ _=>none) ((Aa (Bp s.own id) loc++B.M0)++List.range n0) w.heap d' u) (hz:zf (Aa (Bp s.own id) loc++B.M0) w.heap u)
  (qS:u.oneCell'=true/\u.cells= #[u]) (cD:∀v,rd (Ac s.own loc) (Aa s.own loc++B.M0) w.heap (if b=true then .bx id rr 0 else .osl id rr) v->v=u)
  (hsl:∀p∈sl2,PW b id rr (getS s.slots p.1)/\p.2=pc b id rr u (getS s.slots p.1)):Rel B ⟨sl2,Vq b id rr u kid n0 (l++[(u,d,d')]) (Bp s.own id)⟩ a w loc:=by
 obtain⟨qY,hid⟩:=Ar he;have vN:∀x∈Bp s.own id,x∈s.own:=fun x hx=>(Bv.1 hx).1
 have wQ:∀b∈Aa (Bp s.own id) loc,b∈Aa s.own loc:=by
  intro b hb;obtain⟨x,hx,h1⟩:=bP0.1 hb;exact bP0.2 ⟨x,vN x hx,h1⟩
 have hhE:Aa (Vq b id rr u kid n0 (l++[(u,d,d')]) (Bp s.own id)) loc=Aa (Bp s.own id) loc:=by
  unfold Aa Vq
  induction Bp s.own id with
  | nil=>rfl
  | cons e t ih=>rw[List.map_cons,cP0,cP0,ih]
 have hcE:Ac (Vq b id rr u kid n0 (l++[(u,d,d')]) (Bp s.own id)) loc=Ac (Bp s.own id) loc:=by
  funext i k
  unfold Ac Vq;rw[It (fun e=>⟨e.id,e.r,if e.id=kid then .abs (Ob n0 (l++[(u,d,d')]))else pcO b id rr u e.obj⟩) (fun _=>rfl)];cases Ah (Bp s.own id) i<;>rfl
 have hnd:=Dy (id:=id) R.st.nd
 have wE:∀i r l,Ac (Bp s.own id) loc i r=some l->i≠id/\Ac s.own loc i r=some l:=by
  intro i r l h;obtain⟨e,vE,rfl,rfl,rfl⟩:=BE h;exact⟨(Bv.1 vE).2,Ay R.st.nd (vN e vE)⟩
 have hMM:∀x,x∉Aa s.own loc++B.M0->x∉Aa (Bp s.own id) loc++B.M0:=fun x hx hm=>hx (by
  rcases aG0.1 hm with h | h
  ·exact aM0 _ (wQ x h)
  ·exact aN0 _ h)
 have W:∀n,Weak (Ac s.own loc) (Ac (Bp s.own id) loc) (Aa s.own loc++B.M0) (Aa (Bp s.own id) loc++B.M0) w.heap w.heap n:=fun n =>
  ⟨fun i r l _ h=>(wE i r l h).2,fun _ _ _ _ h=>h,fun x _ hx _ _=>hMM x hx⟩
 have k1:∀d v,PW b id rr d->rd (Ac s.own loc) (Aa s.own loc++B.M0) w.heap d v->rd (Ac (Bp s.own id) loc) (Aa (Bp s.own id) loc++B.M0) w.heap (pc b id rr u d) v:=by
  intro d v qG h;have hw:=Bk (W _) d v (Nat.le_refl _) h;cases d<;>simp only[pc]<;>try exact hw
  ·split
   ·rename_i hc;obtain⟨rfl,rfl,rfl,rfl⟩:=hc;have:=cD v (by simpa using h);subst this;exact⟨rfl,qS⟩
   ·exact hw
  ·split
   ·rename_i hc;obtain⟨rfl,rfl,rfl⟩:=hc;have:=cD v (by simpa using h);subst this;exact⟨rfl,qS⟩
   ·exact hw
 have kC:∀(ds:List DVal) (arr:Array Value) (o:Nat),(∀c∈ds,PW b id rr c)->rdC (Ac s.own loc) (Aa s.own loc++B.M0) w.heap ds arr o->rdC (Ac (Bp s.own id) loc) (Aa (Bp s.own id) loc++B.M0) w.heap (ds.map (pc b id rr u)) arr o:=by
  intro ds
  induction ds with
  | nil=>intro arr o _ _;simp[rdC]
  | cons d ds ih =>
   intro arr o hc h;simp only[rdC,List.map_cons]at h |-;obtain⟨⟨v,g1,g1',g2⟩,g3⟩:=h;exact⟨⟨v,g1,g1',k1 d v (hc d aH0) g2⟩,ih arr _ (fun c kO=>hc c (aF0 _ kO)) g3⟩
 have kR:∀(k:Nat) (es:List (List DVal)) (arr:Array Value) (o:Nat),(∀cs∈es,∀c∈cs,PW b id rr c)->Dt (Ac s.own loc) (Aa s.own loc++B.M0) w.heap k es arr o->Dt (Ac (Bp s.own id) loc) (Aa (Bp s.own id) loc++B.M0) w.heap k (es.map fun cs=>cs.map (pc b id rr u)) arr o:=by
  intro k es
  induction es with
  | nil=>intro arr o _ _;simp[Dt]
  | cons cs es ih =>
   intro arr o hc h;simp only[Dt,List.map_cons]at h |-;obtain⟨g1,g2,g3⟩:=h;exact⟨by simpa using g1,kC cs arr o (hc cs aH0) g2,ih arr _ (fun c kO=>hc c (aF0 _ kO)) g3⟩
 refine⟨⟨?_,?_,?_,?_,?_⟩,R.upd,?_,?_,?_,R.nt,R.df.keep rfl (Upd.refl [] w) (by simp) (fun b hb=> .inl (by
  simp only[hhE]at hb
  rcases aG0.1 hb with h | h
  ·exact aM0 _ (wQ _ h)
  ·exact aN0 _ h))⟩
 ·simp only[Vq,cC0];exact hnd
 ·rw[hhE];exact Df R.st.bl _ hnd vN
 ·rw[hhE];exact fun b hb=>R.st.ap b (wQ b hb)
 ·rw[hhE];intro b hb
  rcases aG0.1 hb with h | h
  ·exact R.st.lt b (aM0 _ (wQ b h))
  ·exact R.st.lt b (aN0 _ h)
 ·intro x hx;rw[hhE,hcE];obtain⟨y,hy,rfl⟩:=aT0.1 hx;have dM:=R.st.ok y (vN y hy);have mW:=hobs y hy;simp only
  split
  ·rename_i fM
   have hyy:y=⟨kid,rk,.abs (Ob n0 l)⟩:=by
    have:=BJ R.st.nd (vN y hy);rw[fM,hk]at this;exact(Option.some.inj this).symm
   subst hyy;obtain⟨hA,hB⟩:=dM;refine⟨hA,fun p hp=> ?_⟩
   rcases aG0.1 hp with hp | hp
   ·exact TI (fun _ _ _ _ h=>h) (fun x o hx _ _=>hMM x hx) hB p hp
   ·simp only[aE0]at hp;subst hp;exact⟨hd,gE,h1,h2,hz⟩
  ·cases qN:y.obj with
   | box cs =>
    rw[qN]at dM mW;obtain⟨b,arr,ty,g1,g2,g3,g4⟩:=dM;exact⟨b,arr,ty,g1,g2,by simp[g3],kC cs arr 0 mW g4⟩
   | row et k bs es =>
    rw[qN]at dM mW;obtain⟨g0,g⟩:=dM;refine⟨by simpa using g0,g.imp ?_ ?_⟩
    ·rintro⟨rfl,g1,g2⟩;exact⟨rfl,g1,g2⟩
    ·rintro⟨b,arr,cap,g1,g2,g3,g4,g5,g6,g7⟩;exact⟨b,arr,cap,g1,by simpa using g2,g3,by simpa using g4,g5,g6,kR k es arr 0 mW g7⟩
   | map ks vs=>rw[qN]at dM;exact AV (W (Em (.map ks vs))) (Nat.le_refl _) (fun _ _ _ h=>h) dM
   | abs A=>rw[qN]at dM;exact AV (W (Em (.abs A))) (Nat.le_refl _) (fun _ _ _ h=>h) dM
   | mapD=>rw[qN]at mW;exact mW.elim
   | lrec=>rw[qN]at mW;exact mW.elim
   | glob=>rw[qN]at mW;exact mW.elim
 ·rw[hhE];exact fun b hb=>R.new b (wQ b hb)
 ·intro x hx hr;obtain⟨y,hy,rfl⟩:=aT0.1 hx;exact R.ver y (vN y hy) hr
 ·intro i;rw[hhE,hcE]
  rcases Uk sl2 i with h | h
  ·rw[h];simp[rd]
  ·obtain⟨g1,g2⟩:=hsl _ h;simp only at g1 g2;rw[g2];exact k1 _ _ g1 (R.sl i)
variable {P : Program} {x : Code} {Q : Exit -> DS -> Prop}
theorem UM (id kid:Nat) (sl2:Value->List (Nat×DVal)) {rr rk n0 et k bs:Nat} {es:List (List DVal)} {l:List WO} (h0:Aa B.own0 B.loc0=[]) (hn:n0=B.w0.heap.size)
  (he:Ah s.own id=some ⟨id,rr,.row et k bs es⟩) (hk:Ah s.own kid=some ⟨kid,rk,.abs (Ob n0 l)⟩) (bJ:Vb es=true/\Br es=0) (qF:kid≠id)
  (hobs:∀x∈Bp s.own id,GP_ false id rr x.obj) (hsl:∀u,∀p∈sl2 u,PW false id rr (getS s.slots p.1)/\p.2=pc false id rr u (getS s.slots p.1))
  (hw:∀u,DW P B x Q ⟨sl2 u,Vq false id rr u kid n0 (l++[(u,.sl k bs es,.sl k bs es)]) (Bp s.own id)⟩):DW P B x Q s:=by
 intro a w loc R;obtain⟨qY,_⟩:=Ar he;have vF:Ac s.own loc id rr=some (loc id):=Ay R.st.nd qY;have qK:=R.st.ok _ qY
 have vY:∀b,b∈(loc id).blks->b∉Aa (Bp s.own id) loc++B.M0:=by
  intro b hb wR
  rcases aG0.1 wR with h | h
  ·obtain⟨x,hx,qF,h1⟩:=MX h;have:=EI R.st.bl x hx _ qY b h1 hb;subst this;exact qF rfl
  ·exact R.st.ap b (AW qY hb) h
 have qH:∀M,(∀b,b∈(loc id).blks->b∉M)->rd (fun _ _=>none) M w.heap (.sl k bs es) (loc id).hdr:=by
  intro M hM;obtain⟨wI,qK⟩:=qK;simp only at qK;simp only[rd]
  rcases qK with ⟨rfl,_,h2⟩ | ⟨b,arr,cap,h1,h2,h3,h4,h5,h6,h7⟩
  ·exact⟨none,0,by rw[h2];rfl,by simp,by unfold maxLen;omega,by simp,.inl ⟨rfl,fun _=>rfl⟩⟩
  ·exact⟨_,cap,by rw[h2],h4,h5,wI,.inr ⟨b,0,arr,et,(0,0),rfl,hM b (by rw[h1];simp),h3,MG bJ.1 h7⟩⟩
 have qS:(loc id).hdr.oneCell'=true/\(loc id).hdr.cells= #[(loc id).hdr]:=by
  obtain⟨wI,qK⟩:=qK
  rcases qK with ⟨_,_,h2⟩ | ⟨b,arr,cap,_,h2,_⟩
  ·simp only at h2;rw[h2];exact⟨rfl,rfl⟩
  ·simp only at h2;rw[h2];exact⟨rfl,rfl⟩
 have wG:∀b∈(loc id).blks,n0<=b:=fun b hb=>by
  rcases R.new b (AW qY hb)with h | h
  ·rw[h0]at h;cases h
  ·omega
 exact hw (loc id).hdr a w loc (R.pin (b:=false) he hk qF hobs (by simpa[mx]using bJ.2) (by simpa[mx]using bJ.2) (qH _ vY) (qH _ fun b hb hm=>by
  rcases aG0.1 hm with h | h
  ·exact vY b hb h
  ·have:=wG b hb;have:=bZ0.1 h;omega) (by
   intro b off q n cap hu hn;obtain⟨wI,qK⟩:=qK;simp only at qK
   rcases qK with ⟨rfl,_,h2⟩ | ⟨b',arr,cap',h1,h2,h3,_⟩
   ·rw[h2]at hu;simp at hu
   ·rw[h2]at hu;simp only[Value.slice.injEq,aA0,Addr.mk.injEq]at hu;obtain⟨⟨rfl,_⟩,_⟩:=hu
    exact⟨vY _ (by rw[h1];simp),arr,et,h3⟩) qS (fun v hv=>by
   have hv:rd (Ac s.own loc) (Aa s.own loc++B.M0) w.heap (.osl id rr) v:=hv;simp only[rd]at hv
   exact hv _ vF) (hsl _))
end
structure FrD (own:List Ent) (n0:Nat) (d1 d:DVal):Prop where
 f:∀(loc:Nat->Loc) (h:Array Obj),St own loc [] h->(∀b∈Aa own loc,n0<=b)->∀v,rd (Ac own loc) (Aa own loc) h d1 v->rd (fun _ _=>none) (List.range n0) h d v
def GX (own:List Ent) (n0:Nat):List DVal->List DVal->Prop
 | [],[]=>True
 | d::ds,d'::ds'=>FrD own n0 d d'/\GX own n0 ds ds'
 | _,_=>False
section
variable {own : List Ent} {n0 : Nat}
theorem FrD.simple {d:DVal} (h:EX d=true):FrD own n0 d d:=⟨fun _ _ _ _ _ hr=>HZ h hr⟩
theorem GX.len : ∀{ds ds':List DVal},GX own n0 ds ds'->ds.length=ds'.length
 | [],[],_=>rfl
 | d::ds,d'::ds',h=>by simp only[GX]at h;simp[GX.len h.2]
 | [],_::_,h=>h.elim
 | _::_,[],h=>h.elim
theorem GX.rdV {loc:Nat->Loc} {h:Array Obj} (S:St own loc [] h) (hn:∀b∈Aa own loc,n0<=b):∀{ds ds':List DVal} {vs:List Value},GX own n0 ds ds'->Dm.rdV (Ac own loc) (Aa own loc) h ds vs->Dm.rdV (fun _ _=>none) (List.range n0) h ds' vs
 | [],[],_,_,hr=>by simpa[Dm.rdV]using hr
 | d::ds,d'::ds',vs,hf,hr=>by
  simp only[GX]at hf;simp only[Dm.rdV]at hr |-;obtain⟨v,r,rfl,h1,h2⟩:=hr;exact⟨v,r,rfl,hf.1.f loc h S hn v h1,GX.rdV S hn hf.2 h2⟩
 | [],_::_,_,hf,_=>hf.elim
 | _::_,[],_,hf,_=>hf.elim
theorem GX.rdC {loc:Nat->Loc} {h:Array Obj} (S:St own loc [] h) (hn:∀b∈Aa own loc,n0<=b):∀{ds ds':List DVal} {arr:Array Value} {o:Nat},GX own n0 ds ds'->Dm.rdC (Ac own loc) (Aa own loc) h ds arr o->Dm.rdC (fun _ _=>none) (List.range n0) h ds' arr o
 | [],[],_,_,_,hr=>by simp[Dm.rdC]
 | d::ds,d'::ds',arr,o,hf,hr=>by
  simp only[GX]at hf;simp only[Dm.rdC]at hr |-;obtain⟨⟨v,h1,kM,h2⟩,h3⟩:=hr;exact⟨⟨v,h1,kM,hf.1.f loc h S hn v h2⟩,GX.rdC S hn hf.2 h3⟩
 | [],_::_,_,_,hf,_=>hf.elim
 | _::_,[],_,_,hf,_=>hf.elim
theorem FrD.tup {ds ds':List DVal} (h:GX own n0 ds ds'):FrD own n0 (.tup ds) (.tup ds'):=by
 refine⟨fun loc H S hn v hr=> ?_⟩;simp only[rd]at hr |-;obtain⟨us,h1,h2⟩:=hr;exact⟨us,h1,h.rdV S hn h2⟩
theorem FrD.agg {ds ds':List DVal} (h:GX own n0 ds ds'):FrD own n0 (.agg ds) (.agg ds'):=by
 refine⟨fun loc H S hn v hr=> ?_⟩;simp only[rd]at hr |-;obtain⟨us,h1,h2⟩:=hr;exact⟨us,h1,h.rdV S hn h2⟩
theorem FrD.row {id r et k bs:Nat} {es es':List (List DVal)} (he:Ah own id=some ⟨id,r,.row et k bs es⟩) (hl:es.length=es'.length) (h:∀(i:Nat) (cs cs':List DVal),es[i]? =some cs->es'[i]? =some cs'->GX own n0 cs cs'):FrD own n0 (.osl id r) (.sl k bs es'):=by
 refine⟨fun loc H S hn v hr=> ?_⟩;obtain⟨qY,_⟩:=Ar he;have vF:Ac own loc id r=some (loc id):=Ay S.nd qY;simp only[rd]at hr |-;have hv:=hr _ vF;obtain⟨wI,qK⟩:=S.ok _ qY;simp only at qK
 rcases qK with ⟨rfl,_,h2⟩ | ⟨b,arr,cap,h1,h2,h3,h4,h5,h6,h7⟩
 ·have:es'=[]:=by cases es' with | nil=>rfl | cons=>simp at hl
  subst this;exact⟨none,0,by rw[hv,h2];rfl,by simp,by unfold maxLen;omega,by simp,.inl ⟨rfl,fun _=>rfl⟩⟩
 ·refine⟨_,cap,by rw[hv,h2,hl],by omega,h5,by rw[<-hl];exact wI,.inr ⟨b,0,arr,et,(0,0),rfl,fun hm=> ?_,h3,EA _ _ _ _ fun i cs' hi=> ?_⟩⟩
  ·have:=hn b (AW qY (by simp only;rw[h1];simp));have:=bZ0.1 hm;omega
  ·have qV:i<es.length:=by rw[hl];exact(aB0.1 hi).1
   have hc:es[i]? =some es[i]:=aI0 qV;obtain⟨g1,g2⟩:=Dh k es arr 0 i _ h7 hc;have hf:=h i _ _ hc hi;exact⟨by rw[<-hf.len];exact g1,hf.rdC S hn (by simpa using g2)⟩
theorem GX.simple : ∀{ds:List DVal},ds.all EX=true->GX own n0 ds ds
 | [],_=>trivial
 | d::ds,h=>by
  rw[cT0,aL0]at h;exact⟨FrD.simple h.1,GX.simple h.2⟩
theorem FrD.rowS {id r et k bs:Nat} {es:List (List DVal)} (he:Ah own id=some ⟨id,r,.row et k bs es⟩) (hs:Vb es=true):FrD own n0 (.osl id r) (.sl k bs es) :=
 FrD.row he rfl fun i cs cs' h1 h2=>by
  rw[h1]at h2;simp only[aA0]at h2;subst h2;unfold Vb at hs;exact GX.simple (aZ0.1 hs cs (bJ0 h1))
theorem FrD.map {id r:Nat} {ks vs:List DVal} (he:Ah own id=some ⟨id,r,.map ks vs⟩) (hk:ks.all EX=true) (hv:vs.all EX=true):FrD own n0 (.omp id r) (.mp ks vs):=by
 refine⟨fun loc H S hn v hr=> ?_⟩;obtain⟨qY,_⟩:=Ar he;have vF:Ac own loc id r=some (loc id):=Ay S.nd qY;simp only[rd]at hr |-;obtain⟨b,hb,zB⟩:=hr _ vF;obtain⟨b',es,clk,g1,g2,g3,g4,g5⟩:=S.ok _ qY;simp only at g1;rw[g1]at hb;simp only[bG0,and_true]at hb;subst hb;refine⟨b',es,clk,zB,fun hm=> ?_,g2,g3.ok,(GX.simple (own:=own) (n0:=n0) hk).rdV S hn (by simpa using g4),(GX.simple (own:=own) (n0:=n0) hv).rdV S hn (by simpa using g5)⟩
 have:=hn b' (AW qY (by simp only;rw[g1];simp));have:=bZ0.1 hm;omega
theorem FrD.box {id r:Nat} {cs cs':List DVal} (he:Ah own id=some ⟨id,r,.box cs⟩) (h:GX own n0 cs cs'):FrD own n0 (.bx id r 0) (.ref cs'):=by
 refine⟨fun loc H S hn v hr=> ?_⟩;obtain⟨qY,_⟩:=Ar he;have vF:Ac own loc id r=some (loc id):=Ay S.nd qY;simp only[rd]at hr |-;obtain⟨b,hb,hv⟩:=hr _ vF;obtain⟨b',arr,ty,g1,g2,g3,g4⟩:=S.ok _ qY;simp only at g1;rw[g1]at hb;simp only[bG0,and_true]at hb;subst hb;refine⟨b',0,arr,ty,(0,0),hv,fun hm=> ?_,g2,h.rdC S hn (by simpa using g4)⟩;have:=hn b' (AW qY (by simp only;rw[g1];simp));have:=bZ0.1 hm;omega
theorem FrD.pin {kid rk:Nat} {l:List WO} {u:Value} {d d':DVal} (hk:Ah own kid=some ⟨kid,rk,.abs (Ob n0 l)⟩) (hm:(u,d,d')∈l):FrD own n0 (.pin u) d':=by
 refine⟨fun loc H S hn v hr=> ?_⟩;obtain⟨qY,_⟩:=Ar hk;obtain⟨_,hJ⟩:=S.ok _ qY;obtain⟨_,g1,_,g2,_⟩:=hJ _ hm;simp only[rd]at hr;rw[hr.1];exact Bk (n:=0) ⟨fun _ _ _ h=>by omega,fun _ _ _ _ h=>h,fun b _ hb _ _ hm=>hb (aN0 _ hm)⟩ d' _ (dD0 g1) g2
end
def Hy_ (P:Program) (f:FuncId) (args:List DVal) (K:Nat->Array Obj->Value->Prop):Prop :=
 Enters P f/\∀(w:World) (vs:Array Value),rdV (fun _ _=>none) [] w.heap args vs.toList ->
  Calls P f vs w fun e w'=>∃v,e= .returned v/\Upd [] w w'/\K w.heap.size w'.heap v
structure FrK (own:List Ent) (n0:Nat) (d1:DVal) (K:Nat->Array Obj->Value->Prop):Prop where
 f:∀(loc:Nat->Loc) (h:Array Obj),St own loc [] h->(∀b∈Aa own loc,n0<=b)->∀v,rd (Ac own loc) (Aa own loc) h d1 v->K n0 h v
theorem SK {P:Program} {f:FuncId} {fn:Func} {c:Code} {args:List DVal} {K:Nat->Array Obj->Value->Prop} (hf:P.funcs[f]? =some fn) (hb:fn.body=some c) (vJ:Enters P f) (qX:args.length<=fn.ntmps)
  (h:KI args->∀B:BaseN,B.nt=fn.ntmps/\B.ro=none->Aa B.own0 B.loc0=[]->DW P B c (SI P fn fun s d1=>FrK s.own B.w0.heap.size d1 K) ⟨Aq args 0,[]⟩):Hy_ P f args K:=by
 refine⟨vJ,fun w vs hr=> ?_⟩;have S:St [] (fun _=>⟨[],.nilFunc⟩) [] w.heap:=⟨by simp,by simp[Aa],by simp[Aa],fun b hb=>by simp[Aa]at hb,by simp⟩;have yA:Ac [] (fun _=>⟨[],.nilFunc⟩)=fun _ _=>none:=by funext i j;simp[Ac,Ah]
 have qW:rdV (Ac [] (fun _=>⟨[],.nilFunc⟩)) (Aa [] (fun _=>⟨[],.nilFunc⟩)++[]) w.heap args vs.toList:=by
  rw[yA];exact hr
 have:=HM (P:=P) (R:=fun v w'=>Upd [] w w'/\K w.heap.size w'.heap v) (K:=fun s d1=>FrK s.own w.heap.size d1 K) [] (by simp) (N:=1) hf hb vJ qX S (by simp) qW (fun B hB=> ?_) ?_
 ·exact this.2
 ·obtain⟨⟨⟨⟨b1,b2⟩,_⟩,b3⟩,b4,b5,b6,b7⟩:=hB;have:=h (Fh _ _ hr) ⟨B,by omega⟩ ⟨b1,b2⟩ (by rw[b4];simp[Aa]);rw[show (⟨B,by omega⟩:BaseN).w0=w from b7]at this;exact this
 ·intro s loc' w' d1 v1 hK hS hu hn _ pK;refine⟨by simpa[Aa]using hu,hK.f loc' w'.heap hS (fun b hb=> ?_) v1 (by simpa using pK)⟩
  rcases hn b hb with h | h
  ·simp[Aa]at h
  ·exact h
theorem NM {P:Program} {f:FuncId} {fn:Func} {c:Code} {args:List DVal} {d:DVal} (hf:P.funcs[f]? =some fn) (hb:fn.body=some c) (vJ:Enters P f) (qX:args.length<=fn.ntmps) (hd:mx d=0)
  (h:KI args->∀B:BaseN,B.nt=fn.ntmps/\B.ro=none->Aa B.own0 B.loc0=[]->DW P B c (SI P fn fun s d1=>FrD s.own B.w0.heap.size d1 d) ⟨Aq args 0,[]⟩):DO P f args d:=by
 have:=SK (K:=fun n h v=>rd (fun _ _=>none) (List.range n) h d v) hf hb vJ qX fun qJ B h1 h2=>by
  intro a w loc R;refine wpIn_mono (h qJ B h1 h2 a w loc R) ?_;rintro e a' w' ⟨s',loc',hq,R'⟩;refine⟨s',loc',?_,R'⟩
  cases e<;>simp only[SI]at hq |- <;>first
   | exact hq.elim
   | (obtain⟨d0,g1,g2⟩:=hq;exact⟨d0,g1,⟨g2.f⟩⟩)
 exact⟨this.1,hd,this.2⟩
end Go.Dm
end
section
namespace Go.Proofs.Wy
open Go Go.Dm Tryz
variable [DMode]
attribute [local irreducible] DW BN BS
set_option maxRecDepth 100000
theorem JN (l:List Nd):Vb (l.map Bo)=true:=by
 unfold Vb;rw[List.all_map,aZ0];intro x _;rfl
def xN : Ann:=⟨[],[]⟩
theorem XE (l:List Nd):Bj prog (.func 16) [AM l] [] (.osl 0 1) [⟨0,1,.row 36 3 32 (l.map Bo)⟩]:=by
 refine BL [] [(6,0,1)] xN func16 call16 ntmps16 mxd (AB @xN.eq_1 results16) rfl (fun qJ B qX qQ=> ?_)
 have bW:l.length*32<=150000000000000:=by
  have h1:=qJ.1;simp only[Ev,aJ0]at h1;exact h1.1
 clear qJ;simp only[Aq,List.nil_append];exact Az Ab Ab (AH bW)
def Ux (g:List Rul) (us:List Value):List (List DVal):=(g.zip us).map fun p=>[.str p.1.h,.pin p.2]
def cpF (g:List Rul) (us:List Value):List WO:=(g.zip us).map fun p=>(p.2,AM p.1.b,AM p.1.b)
@[simp] theorem GY_ (g:List Rul) (us:List Value):Br (Ux g us)=0:=by
 unfold Ux;exact Ie _ (fun p=>by simp[AJ,mx]) _
theorem Qm {α β:Type}:∀{l:List α} {us:List β} {x:α} {u:β},l[us.length]? =some x->l.zip (us++[u])=l.zip us++[(x,u)]
 | [],us,x,u,h=>by simp at h
 | y::l,[],x,u,h=>by
  simp only[List.length_nil,bA0,aA0]at h;subst h;simp
 | y::l,v::us,x,u,h=>by
  simp only[List.length_cons,bL0]at h;simp[Qm h]
theorem Eo_ {g:List Rul} {us:List Value} {r:Rul} {u:Value} (h:g[us.length]? =some r):Ux g (us++[u])=Ux g us++[[.str r.h,.pin u]]:=by unfold Ux;rw[Qm h,bD0];rfl
theorem Ep_ {g:List Rul} {us:List Value} {r:Rul} {u:Value} (h:g[us.length]? =some r):cpF g (us++[u])=cpF g us++[(u,AM r.b,AM r.b)]:=by unfold cpF;rw[Qm h,bD0];rfl
theorem sU {g:List Rul} {us:List Value} (h:us.length<=g.length):(Ux g us).length=us.length:=by unfold Ux;simp;omega
theorem Hm_ {g:List Rul} {us:List Value} {i:Nat} {cs:List DVal} (h:(Ux g us)[i]? =some cs):∃r u,g[i]? =some r/\cs=[.str r.h,.pin u]/\(u,AM r.b,AM r.b)∈cpF g us:=by
 unfold Ux at h;rw[bH0]at h
 cases hz:(g.zip us)[i]? with
 | none=>rw[hz]at h;simp at h
 | some p =>
  rw[hz]at h;simp only[cU0,aA0]at h;exact⟨p.1,p.2,(eP0.1 hz).1,h.symm,aT0.2 ⟨p,bJ0 hz,rfl⟩⟩
def FO (ok:Nat->Prop) (h:Array Obj) (l:List Nd) (v:Value):Prop :=
 ∃a cap,v= .slice a l.length cap/\l.length<=cap/\cap<=maxLen/\l.length*32<=150000000000000 /\
  ((l=[]/\(a=none->cap=0))\/∃b off arr ty,a=some ⟨b,off,none⟩/\ok b/\h[b]? =some (.cells arr ty (0,0))/\Dt (fun _ _=>none) [] h 3 (l.map Bo) arr off)
def EP (ok:Nat->Prop) (h:Array Obj) (g:List Rul) (v:Value):Prop :=
 ∃a cap,v= .slice a g.length cap/\g.length<=cap/\cap<=maxLen/\g.length*40<=150000000000000 /\
  ((g=[]/\(a=none->cap=0))\/∃b off arr ty,a=some ⟨b,off,none⟩/\ok b/\h[b]? =some (.cells arr ty (0,0)) /\
   ∀i r,g[i]? =some r->(arr[off+i*2]? =some (.string r.h)/\r.h.size<=maxLen)/\∃u,arr[off+i*2+1]? =some u/\u.oneCell'=true/\FO ok h r.b u)
theorem FO.of {M:List Nat} {h:Array Obj} {l:List Nd} {v:Value} {ok:Nat->Prop} (hM:∀b,b∉M->ok b) (hr:rd (fun _ _=>none) M h (AM l) v) (hz:zf M h v):FO ok h l v:=by
 have yP:=hr;simp only[rd,aJ0]at hr;obtain⟨a,cap,hv,h1,h2,h3,h4⟩:=hr;refine⟨a,cap,hv,h1,h2,h3,?_⟩
 cases l with
 | nil =>
  rcases h4 with h4 | ⟨b,off,arr,ty,fz,g1,g2,g3,g4⟩
  ·exact .inl ⟨rfl,h4.2⟩
  ·exact .inl ⟨rfl,fun ha=>by rw[g1]at ha;simp at ha⟩
 | cons x l =>
  rcases h4 with h4 | ⟨b,off,arr,ty,fz,g1,g2,g3,g4⟩
  ·simp at h4
  ·obtain⟨g5,arr',ty',g6⟩:=hz b off none _ cap (by rw[hv,g1]) (by simp);rw[g3]at g6;simp only[aA0,Obj.cells.injEq]at g6;obtain⟨_,_,rfl⟩:=g6;exact .inr ⟨b,off,arr,ty,g1,hM b g2,g3,MG (JN _) g4⟩
theorem EP.rd {ok:Nat->Prop} {M:List Nat} {h:Array Obj} {g:List Rul} {v:Value} (hM:∀b,ok b->b∉M) (hr:EP ok h g v):Dm.rd (fun _ _=>none) M h (Au g) v:=by
 obtain⟨a,cap,hv,h1,h2,h3,h4⟩:=hr;simp only[Dm.rd,aJ0];refine⟨a,cap,hv,h1,h2,h3,?_⟩
 rcases h4 with ⟨rfl,h4⟩ | ⟨b,off,arr,ty,g1,g2,g3,g4⟩
 ·exact .inl ⟨rfl,h4⟩
 ·refine .inr ⟨b,off,arr,ty,(0,0),g1,hM b g2,g3,EA _ _ _ _ fun i cs hi=> ?_⟩;rw[bH0]at hi
  cases hgi:g[i]? with
  | none=>rw[hgi]at hi;simp at hi
  | some r =>
   rw[hgi]at hi;simp only[cU0,aA0]at hi;subst hi;obtain⟨⟨g5,g6⟩,u,g7,g8,g9⟩:=g4 i r hgi;obtain⟨a',cap',zB,k1,k2,k3,k4⟩:=g9;refine⟨rfl,?_⟩;simp only[Ba,rdC,Dm.rd,aJ0];refine⟨⟨_,g5,rfl,rfl,g6⟩,⟨u,g7,g8,a',cap',zB,k1,k2,k3,?_⟩,trivial⟩
   rcases k4 with ⟨hl,k4⟩ | ⟨b',off',arr',ty',k5,k6,k7,k8⟩
   ·exact .inl ⟨by rw[hl];rfl,k4⟩
   ·exact .inr ⟨b',off',arr',ty',(0,0),k5,hM b' k6,k7,MG (JN _) k8⟩
theorem Hl_ {n0 et:Nat} {g:List Rul} {us:List Value} (hl:us.length=g.length):FrK [⟨25,1,.row et 2 40 (Ux g us)⟩,⟨99,1,.abs (Ob n0 (cpF g us))⟩] n0 (.osl 25 1) (fun n h v=>EP (fun b=>n<=b) h g v):=by
 refine⟨fun loc h S hn v hr=> ?_⟩;have qU:(Ux g us).length=g.length:=by rw[sU (by omega),hl]
 have m1:(⟨25,1,.row et 2 40 (Ux g us)⟩:Ent)∈[(⟨25,1,.row et 2 40 (Ux g us)⟩:Ent),⟨99,1,.abs (Ob n0 (cpF g us))⟩]:=by simp
 have m2:(⟨99,1,.abs (Ob n0 (cpF g us))⟩:Ent)∈[(⟨25,1,.row et 2 40 (Ux g us)⟩:Ent),⟨99,1,.abs (Ob n0 (cpF g us))⟩]:=by simp
 simp only[Dm.rd]at hr;have hv:=hr _ (Ay S.nd m1);obtain⟨wI,qK⟩:=S.ok _ m1;obtain⟨_,hJ⟩:=S.ok _ m2;simp only[qU]at wI qK
 rcases qK with ⟨he,_,h2⟩ | ⟨b,arr,cap,h1,h2,h3,h4,h5,h6,h7⟩
 ·have hg:g=[]:=dY0.1 (by rw[<-qU,he];rfl);refine⟨none,0,by rw[hv,h2,hg];rfl,by rw[hg];simp,by simp,wI,.inl ⟨hg,fun _=>rfl⟩⟩
 ·refine⟨_,cap,by rw[hv,h2],h4,h5,wI,.inr ⟨b,0,arr,et,rfl,hn b (AW m1 (by simp only;rw[h1];simp)),h3,fun i r hi=> ?_⟩⟩;have qV:i<(Ux g us).length:=by rw[qU];exact(aB0.1 hi).1
  have hc:(Ux g us)[i]? =some (Ux g us)[i]:=aI0 qV;obtain⟨r',u,k1,k2,k3⟩:=Hm_ hc;rw[hi]at k1;simp only[aA0]at k1;subst k1;obtain⟨_,g2⟩:=Dh 2 _ arr 0 i _ h7 hc;rw[k2]at g2;simp only[rdC,Dm.rd,bQ0]at g2;obtain⟨⟨w1,a1,a2,rfl,a3⟩,⟨w2,b1,b2,rfl,b3⟩,_⟩:=g2;obtain⟨_,_,_,c1,c2⟩:=hJ _ k3;rw[bQ0]
  exact⟨⟨a1,a3⟩,_,b1,b2,FO.of (fun x hx=>by
   have:¬x<n0:=fun h=>hx (aN0 _ (bZ0.2 h))
   omega) c1 (fun b off p n cap hu hn=>by
    obtain⟨e1,e2⟩:=c2 b off p n cap hu hn;have hs:=c1;simp only[Dm.rd]at hs;obtain⟨a',cap',zB,_,_,_,hx⟩:=hs;rw[hu]at zB;simp only[Value.slice.injEq]at zB;obtain⟨rfl,mA,_⟩:=zB
    rcases hx with ⟨hx,_⟩ | ⟨b',off',_,_,_,hx,qM,_⟩
    ·rw[hx]at mA;simp at mA;omega
    ·simp only[aA0,Addr.mk.injEq]at hx;rw[hx.1]
     exact⟨qM,by rw[<-hx.1];exact e2⟩)⟩
def Jl : Ann:=⟨[22],[⟨5,[],[],[0,1,2,3,4,5]⟩]⟩
theorem eW (g:List Rul):Hy_ prog 4 [Au g] (fun n h v=>EP (fun b=>n<=b) h g v):=by
 refine SK func4 rfl call4 (by simp[ntmps4]) ?_;intro qJ B qX h0
 have bW:g.length*40<=150000000000000:=by
  have h1:=qJ.1;simp only[Ev,aJ0]at h1;exact h1.1
 clear qJ;simp only[Aq];obtain⟨n0,hn⟩:∃n0,n0=B.w0.heap.size:=⟨_,rfl⟩;rw[<-hn];refine ER (Sub.pins0 99 n0 (by simp[Hk,mx])) ?_
 (repeat (first | refine AC fun K hK=> ?_ | (refine BA Jl mxd (by kernel_rfl) ?_;simp[Jl,qX];try simp (disch:=omega) only[Ag]) | refine Ao ?_ | (refine AX ?_ ?_ ?_;(· (simp[qX];done));(try (rotate_left;(· (intro hc;(try simp[qX]at hc);done))))) | (refine AE ?_;simp[results4,qX]) | ((first | refine Aw ?_ | refine Av ?_);simp[qX]) | (intro hc;(try simp[qX]at hc);(try (exfalso;omega))) | (refine⟨?_,?_⟩; · omega) | omega | apply_assumption -exfalso -symm | (exfalso;omega)))
 refine BM 3 25 33 2 40 (by simp[qX,results4,Jl]) (fun n=> ?_);refine Ai (X:={us:List Value//us.length<=g.length}) (fun us=>⟨[(0,Au g),(3,.osl 25 1),(4,.int .i64 us.1.length)],[⟨25,1,.row 33 2 40 (Ux g us.1)⟩,⟨99,1,.abs (Ob n0 (cpF g us.1))⟩]⟩) (fun us=>g.length-us.1.length) ⟨[],by simp⟩ (Sub.lit (by simp[Ux,cpF])) ?_;rintro⟨us,vV⟩;simp only
 by_cases qV:us.length<g.length
 ·obtain⟨r,hr,qW,bL⟩:=Ap qV;have e1:=XE r.b;have hb:((Ux g us).length+1)*40<=150000000000000:=by rw[sU (by omega)];omega
  have vQ:IntKind.i64.wrap ((us.length:Int)+1)=(us.length:Int)+1:=wq
  iterate 15 ((first | refine AC fun K hK=> ?_ | (refine BA Jl mxd (by kernel_rfl) ?_;simp[Jl,qX,Ba,qV,hr,qW,hb,vQ];try simp (disch:=omega) only[Ag]) | refine Ao ?_ | (refine AX ?_ ?_ ?_;(· (simp[qX,Ba,qV,hr,qW,hb,vQ];done));(try (rotate_left;(· (intro hc;(try simp[qX,Ba,qV,hr,qW,hb,vQ]at hc);done))))) | (refine AE ?_;simp[results4,qX,Ba,qV,hr,qW,hb,vQ]) | ((first | refine Aw ?_ | refine Av ?_);simp[qX,Ba,qV,hr,qW,hb,vQ]) | (intro hc;(try simp[qX,Ba,qV,hr,qW,hb,vQ]at hc);(try (exfalso;omega))) | (refine AO [] [(22,0)] (e1) ?_ ?_;(· (simp[qX,Ba,qV,hr,qW,hb,vQ];done));(intro _;try simp[qX,Ba,qV,hr,qW,hb,vQ])) | (refine⟨?_,?_⟩; · omega) | omega | apply_assumption -exfalso -symm | (exfalso;omega)))
  refine UM 22 99 (fun _=>[(0,Au g),(3,.osl 25 hc),(4,.int .i64 us.length)]) h0 hn rfl rfl ⟨JN r.b,by simp⟩ (by decide) ?_ ?_ (fun u=> ?_)
  ·simp only[Bp,List.forall_mem_cons];simp;exact⟨XO (GY_ _ _) (by simp[PW,mx]),trivial⟩
  ·intro u;simp[getS,PW,pc,mx]
  have gO:=Eo_ (u:=u) hr;have zK:=Ep_ (u:=u) hr;simp[Vq,Bp,pcO,pc,Vr];rw[<-gO,<-zK]
  (repeat (first | refine AC fun K hK=> ?_ | (refine BA Jl mxd (by kernel_rfl) ?_;simp[Jl,qX,vQ];try simp (disch:=omega) only[Ag]) | refine Ao ?_ | (refine AX ?_ ?_ ?_;(· (simp[qX,vQ];done));(try (rotate_left;(· (intro hc;(try simp[qX,vQ]at hc);done))))) | (refine AE ?_;simp[results4,qX,vQ]) | ((first | refine Aw ?_ | refine Av ?_);simp[qX,vQ]) | (intro hc;(try simp[qX,vQ]at hc);(try (exfalso;omega))) | (refine⟨?_,?_⟩; · omega) | omega | apply_assumption -exfalso -symm | (exfalso;omega)))
  refine Al.mk ⟨us++[u],by simp;omega⟩ (Sub.lit (by simp)) (by simp;omega)
 ·have qZ:us.length=g.length:=by omega
  (repeat (first | refine AC fun K hK=> ?_ | (refine BA Jl mxd (by kernel_rfl) ?_;simp[Jl,qX];try simp (disch:=omega) only[Ag]) | refine Ao ?_ | (refine AX ?_ ?_ ?_;(· (simp[qX];done));(try (rotate_left;(· (intro hc;(try simp[qX]at hc);done))))) | (refine AE ?_;simp[results4,qX]) | ((first | refine Aw ?_ | refine Av ?_);simp[qX]) | (intro hc;(try simp[qX]at hc);(try (exfalso;omega))) | (refine⟨?_,?_⟩; · omega) | omega | apply_assumption -exfalso -symm | (exfalso;omega)))
  exact Hl_ qZ
end Go.Proofs.Wy
end
