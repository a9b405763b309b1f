/- Parts of a proof, laid together: EnN, EnO, EnP, EnS, EnT. -/
import Derived.Test.YtiojapdolljocaaGreatqBo8
import Derived.Test.YtiojapdolljocaaGreatqBo13
set_option linter.unusedSimpArgs false
set_option maxHeartbeats 8000000
set_option linter.unusedVariables false
set_option linter.unusedSectionVars false
section
namespace Go.Dm
variable [DMode]
def AL_ (id r:Nat) (obj:DObj):DVal->DVal
 | .osl id' r'=>if id'=id/\r'=r then (match obj with | .row _ k bs es=> .sl k bs es | _=> .osl id' r')else .osl id' r'
 | .bx id' r' off=>if id'=id/\r'=r then (match obj with | .box cs=> .ref (cs.drop off) | _=> .bx id' r' off)else .bx id' r' off
 | .vw id' r' k i0 i n=>if id'=id/\r'=r then (match obj with | .row _ k' bs es=>if k'=k/\i+n<=es.length then .sl k bs ((es.drop i).take n)else .any | _=> .any)else .vw id' r' k i0 i n
 | .omp id' r'=>if id'=id/\r'=r then (match obj with | .map ks vs=> .mp ks vs | _=> .omp id' r')else .omp id' r'
 | d=>d
def WE (id r:Nat) (obj:DObj):DVal->DVal
 | .fn f us cs=> .fn f us (cs.map (AL_ id r obj))
 | d=>AL_ id r obj d
def ZF (id r:Nat) (obj:DObj):DVal->DVal
 | .agg cs=> .agg (cs.map (WE id r obj))
 | d=>WE id r obj d
def Em_ (id r:Nat) (obj:DObj):DObj->DObj
 | .box cs=> .box (cs.map (WE id r obj))
 | o=>o
def WD (id r:Nat) (obj:DObj) (own:List Ent):List Ent:=own.map fun e=>⟨e.id,e.r,Em_ id r obj e.obj⟩
def rR (f:DVal->DVal) (l:List (Nat×DVal)):List (Nat×DVal):=l.map fun p=>(p.1,f p.2)
def freezeS (s:DS) (id:Nat):DS:=match Aj s.own id with
 | some e=>⟨rR (ZF id e.r e.obj) s.slots,WD id e.r e.obj (CC s.own id)⟩
 | none=>s
def freezeL (s:DS):List Nat->DS
 | []=>s
 | id::ids=>freezeL (freezeS s id) ids
theorem Sx (f:DVal->DVal) (hf:f .any= .any):∀(l:List (Nat×DVal)) (i:Nat),Be (rR f l) i=f (Be l i)
 | [],i=>by simp[rR,Be,hf]
 | (j,d)::l,i=>by
  have:=Sx f hf l i;simp only[rR,List.map_cons,Be]at this |-
  split
  ·rfl
  ·exact this
@[simp] theorem AJ_ (id r:Nat) (obj:DObj) (l:List (Nat×DVal)) (i:Nat):Be (rR (ZF id r obj) l) i=ZF id r obj (Be l i):=Sx _ rfl _ _
section
variable {B : Base} {s : DS} {a : Act} {w : World} {loc : Nat -> Loc}
theorem SA (f:Ent->Ent) (hid:∀e,(f e).id=e.id):∀(own:List Ent) (id:Nat),Aj (own.map f) id=(Aj own id).map f
 | [],id=>rfl
 | e::t,id=>by
  simp only[List.map_cons,Aj,hid]
  split
  ·rfl
  ·exact SA f hid t id
theorem Qp (id r:Nat) (obj:DObj) (own:List Ent) (loc:Nat->Loc):Ad (WD id r obj own) loc=Ad own loc:=by
 funext i k
 unfold Ad WD;rw[SA (fun e=>⟨e.id,e.r,Em_ id r obj e.obj⟩) (fun _=>rfl)];cases Aj own i<;>rfl
theorem DN (id r:Nat) (obj:DObj) (own:List Ent) (loc:Nat->Loc):Aa (WD id r obj own) loc=Aa own loc:=by
 unfold Aa WD
 induction own with
 | nil=>rfl
 | cons e t ih =>
  rw[List.map_cons,cT0,cT0,ih]
theorem Rel.freeze {id:Nat} {e:Ent} (R:Rel B s a w loc) (he:Aj s.own id=some e):Rel B ⟨rR (ZF id e.r e.obj) s.slots,WD id e.r e.obj (CC s.own id)⟩ a w loc:=by
 obtain⟨qY,hid⟩:=AA he;have yJ:∀x∈CC s.own id,x∈s.own:=fun x hx=>(Bt.1 hx).1
 have wQ:∀b∈Aa (CC s.own id) loc,b∈Aa s.own loc:=by
  intro b hb;obtain⟨x,hx,h1⟩:=bQ0.1 hb;exact bQ0.2 ⟨x,yJ x hx,h1⟩
 have qL:∀i r l,Ad (CC s.own id) loc i r=some l->Ad s.own loc i r=some l:=by
  intro i r l h;obtain⟨x,hx,rfl,rfl,rfl⟩:=BC h;exact AG R.st.nd (yJ x hx)
 have W:∀n,Weak (Ad s.own loc) (Ad (CC s.own id) loc) (Aa s.own loc++B.M0) (Aa (CC s.own id) loc++B.M0) w.heap w.heap n:=fun n =>
  ⟨fun id r l _ hl=>qL id r l hl,fun b o _ (_:FY o=true) ho=>ho,fun b o hb (_:FY o=true) _ vV=>hb (by
   rcases aI0.1 vV with h | h
   ·exact aL0 _ (wQ b h)
   ·exact aP0 _ h)⟩
 have fB:Ad s.own loc id e.r=some (loc id):=by rw[<-hid];exact AG R.st.nd qY
 have vY:∀b,b∈(loc e.id).blks->b∉Aa (CC s.own id) loc++B.M0:=by
  intro b hb vV
  rcases aI0.1 vV with h | h
  ·obtain⟨x,hx,qE,h1⟩:=Ow h;have:=Fk R.st.bl x hx e qY b h1 hb;subst this;exact qE hid
  ·exact R.st.ap b (AZ qY hb) h
 have wO:=R.st.ok e qY
 have k1:∀d v,rd (Ad s.own loc) (Aa s.own loc++B.M0) w.heap d v->rd (Ad (CC s.own id) loc) (Aa (CC s.own id) loc++B.M0) w.heap (AL_ id e.r e.obj d) v:=by
  intro d v h;have hw:=Cc (W _) d v (Nat.le_refl _) h;cases d<;>simp only[AL_]<;>try exact hw
  ·split
   ·rename_i hc;obtain⟨rfl,rfl⟩:=hc
    cases qO:e.obj with
    | row et k bs es=>exact hw
    | map ks vs=>exact hw
    | abs A=>exact hw
    | box cs =>
     rw[qO]at wO;obtain⟨b,arr,ty,h1,h2,h3,h4⟩:=wO;simp only[rd]at h;obtain⟨b',qG,hv⟩:=h _ fB;rw[<-hid,h1]at qG;simp only[bG0,and_true]at qG;subst qG;simp only[rd];refine⟨b,_,arr,ty,(0,0),hv,vY b (by rw[h1];simp),h2,?_⟩;have:=fun n=>EM n cs arr 0 (EL (W _) cs arr 0 (Nat.le_refl _) h4)
     simpa using this _
   ·exact hw
  ·split
   ·rename_i hc;obtain⟨rfl,rfl⟩:=hc
    cases qO:e.obj with
    | box cs=>exact hw
    | map ks vs=>exact hw
    | abs A=>exact hw
    | row et k bs es =>
     rw[qO]at wO;obtain⟨vX,wO⟩:=wO;simp only[rd]at h;have hv:=h _ fB;rw[<-hid]at hv;simp only[rd]
     rcases wO with ⟨rfl,_,h2⟩ | ⟨b,arr,cap,h1,h2,h3,h4,h5,h6,h7⟩
     ·exact⟨none,0,by rw[hv,h2];rfl,by simp,by unfold maxLen;omega,by simp,.inl ⟨rfl,fun _=>rfl⟩⟩
     ·exact⟨_,cap,by rw[hv,h2],h4,h5,vX,.inr ⟨b,0,arr,et,(0,0),rfl,vY b (by rw[h1];simp),h3,Cj (W _) k es arr 0 (Nat.le_refl _) h7⟩⟩
   ·exact hw
  ·rename_i id' r' k0 bs0 i n
   split
   ·rename_i hc;obtain⟨rfl,rfl⟩:=hc
    cases qO:e.obj with
    | box cs=>simp[rd]
    | map ks vs=>simp[rd]
    | abs A=>simp[rd]
    | row et k bs es =>
     simp only
     split
     ·rename_i hb;obtain⟨rfl,hb⟩:=hb;rw[qO]at wO;obtain⟨vX,wO⟩:=wO;simp only[rd]at h;obtain⟨a,cap,rfl,g1,g2,g3,g4,_⟩:=h _ fB;have qU:((es.drop i).take n).length=n:=by simp;omega
      simp only[rd];refine⟨a,cap,by rw[qU],by omega,g2,by rw[qU];exact Nat.le_trans (aY0 _ (by omega:n<=es.length)) vX,?_⟩
      by_cases h0:n=0
      ·subst h0;exact .inl ⟨by simp,g3⟩
      ·obtain⟨b,qR,rfl⟩:=g4 (by omega);rw[<-hid]at qR
       rcases wO with ⟨rfl,_⟩ | ⟨b',arr,cap',h1,h2,h3,h4,h5,h6,h7⟩
       ·simp at hb;omega
       ·rw[h1]at qR;simp only[bG0,and_true]at qR;subst qR;refine .inr ⟨b',i*k,arr,et,(0,0),rfl,vY b' (by rw[h1];simp),h3,FD _ _ _ _ fun q cs hq=> ?_⟩;rw[eK0]at hq
        split at hq
        ·rw[cJ0]at hq;have:=DZ k es arr 0 (i+q) cs (Cj (W _) k es arr 0 (Nat.le_refl _) h7) hq
         rwa[bR0,bN0]at this
        ·simp at hq
     ·simp[rd]
   ·exact hw
  ·split
   ·rename_i hc;obtain⟨rfl,rfl⟩:=hc
    cases qO:e.obj with
    | box cs=>exact hw
    | row et k bs es=>exact hw
    | abs A=>exact hw
    | map ks vs =>
     rw[qO]at wO;obtain⟨b,es,clk,h1,h2,h3,h4,h5⟩:=wO;simp only[rd]at h;obtain⟨b',qG,hv⟩:=h _ fB;rw[<-hid,h1]at qG;simp only[bG0,and_true]at qG;subst qG;simp only[rd];exact⟨b,es,clk,hv,vY b (by rw[h1];simp),h2,h3,AQ (W _) ks _ (Nat.le_refl _) h4,AQ (W _) vs _ (Nat.le_refl _) h5⟩
   ·exact hw
 have kV:∀(f:DVal->DVal),(∀d v,rd (Ad s.own loc) (Aa s.own loc++B.M0) w.heap d v->rd (Ad (CC s.own id) loc) (Aa (CC s.own id) loc++B.M0) w.heap (f d) v) ->
   ∀ds vs,Au (Ad s.own loc) (Aa s.own loc++B.M0) w.heap ds vs->Au (Ad (CC s.own id) loc) (Aa (CC s.own id) loc++B.M0) w.heap (ds.map f) vs:=by
  intro f hf ds
  induction ds with
  | nil=>intro vs h;simpa[Au]using h
  | cons d ds ih =>
   intro vs h;simp only[Au]at h;obtain⟨v,r,rfl,h1,h2⟩:=h;simp only[List.map_cons,Au];exact⟨v,r,rfl,hf d v h1,ih r h2⟩
 have k2:∀d v,rd (Ad s.own loc) (Aa s.own loc++B.M0) w.heap d v->rd (Ad (CC s.own id) loc) (Aa (CC s.own id) loc++B.M0) w.heap (WE id e.r e.obj d) v:=by
  intro d v h;cases d<;>simp only[WE]<;>try exact k1 _ v h
  rename_i f us cs;simp only[rd]at h |-;obtain⟨us',cs',h1,h2,h3⟩:=h;exact⟨us',cs',h1,AQ (W _) us _ (Nat.le_refl _) h2,kV _ k1 cs _ h3⟩
 have k3:∀d v,rd (Ad s.own loc) (Aa s.own loc++B.M0) w.heap d v->rd (Ad (CC s.own id) loc) (Aa (CC s.own id) loc++B.M0) w.heap (ZF id e.r e.obj d) v:=by
  intro d v h;cases d<;>simp only[ZF]<;>try exact k2 _ v h
  rename_i cs;simp only[rd]at h |-;obtain⟨us,h1,h2⟩:=h;exact⟨us,h1,kV _ k2 cs _ h2⟩
 have kC:∀(ds:List DVal) (arr:Array Value) (o:Nat),Dz (Ad s.own loc) (Aa s.own loc++B.M0) w.heap ds arr o->Dz (Ad (CC s.own id) loc) (Aa (CC s.own id) loc++B.M0) w.heap (ds.map (WE id e.r e.obj)) arr o:=by
  intro ds
  induction ds with
  | nil=>intro arr o _;simp[Dz]
  | cons d ds ih =>
   intro arr o h;simp only[Dz,List.map_cons]at h |-;obtain⟨⟨v,h1,kU,h2⟩,h3⟩:=h;exact⟨⟨v,h1,kU,k2 d v h2⟩,ih arr _ h3⟩
 refine⟨⟨?_,?_,?_,?_,?_⟩,R.upd,?_,?_,?_,R.nt,R.df.keep rfl (Upd.refl [] w) (by simp) (fun b hb=> .inl (by
  simp only[DN]at hb
  rcases aI0.1 hb with h | h
  ·exact aL0 _ (wQ b h)
  ·exact aP0 _ h))⟩
 ·simp only[WD,bY0];exact DM R.st.nd
 ·simp only[DN];exact DD R.st.bl _ (DM R.st.nd) yJ
 ·simp only[DN];exact fun b hb=>R.st.ap b (wQ b hb)
 ·simp only[DN];intro b hb
  rcases aI0.1 hb with h | h
  ·exact R.st.lt b (aL0 _ (wQ b h))
  ·exact R.st.lt b (aP0 _ h)
 ·intro x hx;simp only[DN,Qp];obtain⟨y,hy,rfl⟩:=aR0.1 hx;have hk:=R.st.ok y (yJ y hy);simp only
  cases qO:y.obj with
  | box cs =>
   rw[qO]at hk;obtain⟨b,arr,ty,h1,h2,h3,h4⟩:=hk;exact⟨b,arr,ty,h1,h2,by simp[h3],kC cs arr 0 h4⟩
  | row et k bs es=>rw[qO]at hk;exact Bd (W (Ez (.row et k bs es))) (Nat.le_refl _) (fun _ _ _ h=>h) hk
  | map ks vs=>rw[qO]at hk;exact Bd (W (Ez (.map ks vs))) (Nat.le_refl _) (fun _ _ _ h=>h) hk
  | abs A=>rw[qO]at hk;exact Bd (W (Ez (.abs A))) (Nat.le_refl _) (fun _ _ _ h=>h) hk
 ·simp only[DN];exact fun b hb=>R.new b (wQ b hb)
 ·intro x hx hr;obtain⟨y,hy,rfl⟩:=aR0.1 hx;exact R.ver y (yJ y hy) hr
 ·intro i;simp only[DN,Qp,AJ_];exact k3 _ _ (R.sl i)
theorem Sub.refl (s:DS):Sub B s s:=fun _ _ loc R=>⟨loc,R⟩
theorem Sub.trans {s' s'':DS} (h:Sub B s s') (k:Sub B s' s''):Sub B s s'':=fun a w loc R =>
 let ⟨loc',R'⟩:=h a w loc R;k a w loc' R'
theorem Sub.freezeS (s:DS) (id:Nat):Sub B s (freezeS s id):=by
 intro a w loc R;unfold Dm.freezeS
 split
 ·rename_i e he;exact⟨loc,R.freeze he⟩
 ·exact⟨loc,R⟩
theorem Sub.freezeL : ∀(ids:List Nat) (s:DS),Sub B s (freezeL s ids)
 | [],s=>Sub.refl s
 | id::ids,s=>(Sub.freezeS s id).trans (Sub.freezeL ids _)
theorem Sub.rel {s':DS} {Q:Exit->DS->Prop} {e:Exit} (h:Sub B s s') (hq:Q e s') {a:Act} {w:World} {loc:Nat->Loc} (R:Rel B s a w loc):QQ B Q e a w :=
 let ⟨loc',R'⟩:=h a w loc R;⟨s',loc',hq,R'⟩
variable {P : Program}
structure RAnn where
 id:Nat
 fz:List Nat
 l1:List Nat
 l2:List Nat
def kQ (Q:Exit->DS->Prop) (fz:List Nat):Cont:=⟨fun s'=>Q .normal (freezeL s' fz)⟩
theorem Go_ (Q:Exit->DS->Prop) (fz:List Nat) (s':DS):(kQ Q fz).f s'=Q .normal (freezeL s' fz):=id rfl
def Hp : List RAnn->Nat->RAnn
 | [],id=>⟨id,[],[],[]⟩
 | a::r,id=>if a.id=id then a else Hp r id
structure Ann where
 ow:List Nat
 rs:List RAnn
theorem BS (A:Ann) {id:Nat} {ops:Array Oper} {draw:Bool} {Q:Exit->DS->Prop} (hm:P.follows .mixedOrders=true) (qW:(!draw||DJ A.ow (Hp A.rs id).l1 (Hp A.rs id).l2 ops)=true)
  (h:BZ P B.nt A.ow (Hp A.rs id).l1 (Hp A.rs id).l2 ops ops.toList 0 (kQ Q (Hp A.rs id).fz) s):DW P B (.region id ops draw) Q s:=by
 have fin:∀{c:Code},DW P B c (fun e s'=>match e with | .normal=>Q .normal (freezeL s' (Hp A.rs id).fz) | e=>Q e s') s->DW P B c Q s:=by
  intro c h a w loc R;refine wpIn_mono (h a w loc R) ?_;rintro e a' w' ⟨s',loc',hq,R'⟩
  cases e<;>first
   | exact(Sub.freezeL _ s').rel hq R'
   | exact⟨s',loc',hq,R'⟩
 cases draw with
 | false=>exact fin (NX _ _ _ h)
 | true=>exact fin (NZ _ _ _ hm (by simpa using qW) h)
end
def oI (P:Program) (fn:Func) (ids:List Nat) (d:DVal):Exit->DS->Prop
 | .normal,s=>match NJ P (freezeL s ids) fn.results.toList with | some d0=>wk d0 d | none=>False
 | .ret,s=>match NJ P (freezeL s ids) fn.results.toList with | some d0=>wk d0 d | none=>False
 | _,_=>False
theorem Ae.wk {P:Program} {f:FuncId} {args:List DVal} {d d':DVal} (h:Ae P f args d) (hw:wk d d') (hd:mx d'=0):Ae P f args d' :=
 ⟨h.1,hd,fun cur M w vs hM hr=>(h.2.2 cur M w vs hM hr).mono fun e w' ⟨v,h1,h2,h3⟩=>⟨v,h1,h2,aS hw h3⟩⟩
theorem RY {cur:Er} {M:List Nat} {h:Array Obj}:∀(a b:List DVal) (vs:List Value),Au cur M h (a++b) vs->∃us ws,vs=us++ws/\Au cur M h a us/\Au cur M h b ws
 | [],b,vs,hr=>⟨[],vs,rfl,by simp[Au],hr⟩
 | d::a,b,vs,hr=>by
  simp only[List.cons_append,Au]at hr;obtain⟨v,r,rfl,h1,h2⟩:=hr;obtain⟨us,ws,rfl,h3,h4⟩:=RY a b r h2;exact⟨v::us,ws,rfl,by simp only[Au];exact⟨v,us,rfl,h1,h3⟩,h4⟩
theorem Yw {P:Program} {f:FuncId} (pre:List DVal) {post:List DVal} {k bs:Nat} {d:DVal} (h1:Ae P f (pre++ .nilsl::post) d) (h2:Ae P f (pre++ .esl::post) d):Ae P f (pre++ .sl k bs []::post) d:=by
 refine⟨h1.1,h1.2.1,fun cur M w vs hM hr=> ?_⟩;obtain⟨us,ws,wF,h3,h4⟩:=RY _ _ _ hr;simp only[Au]at h4;obtain⟨v,r,rfl,h5,h6⟩:=h4;simp only[rd]at h5;obtain⟨a,cap,rfl,_,hc,_,h7⟩:=h5
 cases a with
 | none =>
  have:cap=0:=by
   rcases h7 with h7 | ⟨b,off,arr,ty,fz,h8,_⟩
   ·exact h7.2 rfl
   ·simp at h8
  subst this;refine h1.2.2 cur M w vs hM ?_;rw[wF];exact BW _ _ _ _ h3 (by simp only[Au];exact⟨_,r,rfl,by simp[rd],h6⟩)
 | some ad =>
  refine h2.2.2 cur M w vs hM ?_;rw[wF];exact BW _ _ _ _ h3 (by simp only[Au];exact⟨_,r,rfl,by simp only[rd];exact⟨ad,cap,rfl,hc⟩,h6⟩)
theorem UT (ids:List Nat) {P:Program} {f:FuncId} {fn:Func} {c:Code} {args:List DVal} {d:DVal} (hf:P.funcs[f]? =some fn) (hb:fn.body=some c) (vH:Enters P f) (qX:args.length<=fn.ntmps)
  (hd:mx d=0) (h:JP args->∀B:Base,B.nt=fn.ntmps/\B.ro=none->DW P B c (oI P fn ids d) ⟨Ak args 0,[]⟩):Ae P f args d:=by
 refine UR hf hb vH qX hd fun qJ B hB=> ?_
 intro a w loc R;refine wpIn_mono (h qJ B hB a w loc R) ?_;rintro e a' w' ⟨s',loc',hq,R'⟩
 have key:(match NJ P (freezeL s' ids) fn.results.toList with | some d0=>wk d0 d | none=>False)->∃s'' loc'',(∃d0,NJ P s'' fn.results.toList=some d0/\∀cur M h v,rd cur M h d0 v->rd cur M h d v)/\Rel B s'' a' w' loc'':=by
  intro hq;obtain⟨loc'',R''⟩:=Sub.freezeL ids s' a' w' loc' R'
  split at hq
  ·rename_i d0 fS;exact⟨_,loc'',⟨d0,fS,fun cur M h v hr=>aS hq hr⟩,R''⟩
  ·exact hq.elim
 cases e<;>simp only[oI]at hq<;>first
  | (obtain⟨s'',loc'',h1,h2⟩:=key hq;exact⟨s'',loc'',h1,h2⟩)
  | exact hq.elim
def Yt (P:Program) (fn:Func) (ids:List Nat) (ρ:List (Nat×Nat×Nat)) (d:DVal) (own':List Ent):Exit->DS->Prop
 | .normal,s=>match NJ P (freezeL s ids) fn.results.toList with
  | some d0=>TO d0/\wk (Gu (BJ (freezeL s ids).own ρ) d0) d/\Km (freezeL s ids).own (BJ (freezeL s ids).own ρ) ρ=some own'/\Lg (freezeL s ids).own ρ
  | none=>False
 | .ret,s=>match NJ P (freezeL s ids) fn.results.toList with
  | some d0=>TO d0/\wk (Gu (BJ (freezeL s ids).own ρ) d0) d/\Km (freezeL s ids).own (BJ (freezeL s ids).own ρ) ρ=some own'/\Lg (freezeL s ids).own ρ
  | none=>False
 | _,_=>False
section
variable {B : Base} {s : DS} {a : Act} {w : World} {loc : Nat -> Loc}
theorem VC (a:Act) (i:Nat) (hi:i<a.tmps.size):a.put (some i) (a.tmps.getD i Go.undef)=a:=by
 obtain⟨tmps,defers⟩:=a;unfold Act.put;simp only
 congr 1
 apply Array.ext
 ·simp
 ·intro j h1 h2;rw[Array.getElem_setIfInBounds h2]
  split
  ·rename_i h;subst h;simp[aK0,cA0 h2]
  ·rfl
theorem Rel.adopt {id r et k bs:Nat} {dst:Option Nat} {v:Value} {d:DVal} (R:Rel B s a w loc) (hr:BU B s<=r) (qH:∀i,dst=some i->i<B.nt)
  (hd:rd (Ad (upE s.own id r (.row et k bs [])) (CG loc id ⟨[],.slice none 0 0⟩)) (Aa (upE s.own id r (.row et k bs [])) (CG loc id ⟨[],.slice none 0 0⟩)++B.M0) w.heap d v) :
  Rel B ⟨Bs s.slots dst d,upE s.own id r (.row et k bs [])⟩ (a.put dst v) w (CG loc id ⟨[],.slice none 0 0⟩) :=
 R.up (L:=⟨[],.slice none 0 0⟩) (n:=r) hr qH (Upd.refl _ _) (fun b hb _=>rfl) (fun b hb=>by simp at hb) (.inl (Nat.le_refl _)) ⟨by simp,.inl ⟨rfl,rfl,rfl⟩⟩ hd
theorem Sub.adoptSlot (i id et k bs:Nat) (h:Be s.slots i= .nilsl) (hi:i<B.nt):Sub B s ⟨(i,.osl id (BU B s))::s.slots,upE s.own id (BU B s) (.row et k bs [])⟩:=by
 intro a w loc R;have hs:=R.sl i;rw[h]at hs;simp only[rd]at hs
 have:=R.adopt (id:=id) (et:=et) (k:=k) (bs:=bs) (dst:=some i) (v:=a.tmps.getD i Go.undef) (d:= .osl id (BU B s)) (Nat.le_refl _) (fun j hj=>by simp only[aA0]at hj;omega) (by
  simp only[rd];intro l hl;rw[Dk]at hl;simp only[aA0]at hl
  rw[<-hl,hs])
 rw[VC a i (by rw[R.nt];exact hi)]at this;exact⟨_,this⟩
theorem Rel.reBox {id:Nat} {e:Ent} {cs cs':List DVal} (R:Rel B s a w loc) (he:Aj s.own id=some e) (qO:e.obj= .box cs) (qU:cs'.length=cs.length)
  (h:∀arr,Dz (cu s loc) (hm s loc B.M0) w.heap cs arr 0->Dz (cu s loc) (hm s loc B.M0) w.heap cs' arr 0):∃loc',Rel B ⟨s.slots,upE s.own id e.r (.box cs')⟩ a w loc':=by
 obtain⟨qY,hid⟩:=AA he;have qL:Ad s.own loc id e.r=some (loc id):=by rw[<-hid];exact AG R.st.nd qY
 have hk:=R.st.ok e qY;rw[qO]at hk;obtain⟨b,arr,ty,h1,h2,h3,h4⟩:=hk;rw[hid]at h1
 have hL:∀b0,b0∈(loc id).blks->b0<w.heap.size/\((∃e∈s.own,e.id=id/\b0∈(loc id).blks)\/w.heap.size<=b0):=by
  intro b0 qC;refine⟨?_,.inl ⟨e,qY,hid,qC⟩⟩;rw[h1]at qC;simp only[aE0]at qC;subst qC;exact(aC0.1 h2).1
 have fZ:CG loc id (loc id)=loc:=by
  funext j
  unfold CG
  split
  ·rename_i hj;rw[hj]
  ·rfl
 have W:Weak (cu s loc) (Ad (upE s.own id e.r (.box cs')) (CG loc id (loc id))) (hm s loc B.M0) (Aa (upE s.own id e.r (.box cs')) (CG loc id (loc id))++B.M0) w.heap w.heap (max (BU B s) (AH cs')):=by
  refine Et (Upd.refl _ w) ?_ ?_
  ·intro b hb;obtain⟨x,hx,kU⟩:=bQ0.1 hb;rw[fZ]at kU
   rcases aJ0.1 hx with rfl | hx
   ·exact .inl (AZ qY (by rw[hid];exact kU))
   ·exact .inl (AZ (Bt.1 hx).1 kU)
  ·intro x hx _;rw[fZ]
   rcases aJ0.1 hx with rfl | hx
   ·exact qL
   ·exact AG R.st.nd (Bt.1 hx).1
 have R':=R.up (hLn:=by rw[h1];simp) (w':=w) (id:=id) (r:=e.r) (obj:= .box cs') (L:=loc id) (v:=Go.undef) (d:= .any) (dst:=none) (n:=BU B s) (Nat.le_refl _) (fun i hi=>by simp at hi) (Upd.refl _ _) (fun _ _ _=>rfl) hL (.inr qL)
  ⟨b,arr,ty,h1,h2,by rw[qU];exact h3,EL W cs' arr 0 (by omega) (h arr h4)⟩ (by simp[rd])
 exact⟨_,R'⟩
theorem TE {cur:Er} {M:List Nat} {H:Array Obj} {d':DVal}:∀(cs:List DVal) (arr:Array Value) (o c:Nat),(∀v,rd cur M H (cs.getD c .any) v->rd cur M H d' v)->Dz cur M H cs arr o->Dz cur M H (cs.set c d') arr o
 | [],_,_,_,_,h=>by simpa using h
 | d::cs,arr,o,0,hd,h=>by
  simp only[Dz,eI0]at h |-;obtain⟨⟨v,h1,h2,h3⟩,h4⟩:=h;exact⟨⟨v,h1,h2,hd v (by simpa using h3)⟩,h4⟩
 | d::cs,arr,o,c+1,hd,h=>by
  simp only[Dz,List.set_cons_succ]at h |-;exact⟨h.1,TE cs arr (o+1) c (by simpa using hd) h.2⟩
theorem Sub.adoptCell (bid c id et k bs:Nat) {rb:Nat} {cs:List DVal} (h:Aj s.own bid=some ⟨bid,rb,.box cs⟩) (hc:cs.getD c .any= .nilsl) (qE:bid≠id) :
  Sub B s ⟨s.slots,upE (upE s.own id (BU B s) (.row et k bs [])) bid rb (.box (cs.set c (.osl id (BU B s))))⟩:=by
 intro a w loc R;have R1:=R.adopt (id:=id) (et:=et) (k:=k) (bs:=bs) (dst:=none) (v:=Go.undef) (d:= .any) (Nat.le_refl _) (fun i hi=>by simp at hi) (by simp[rd])
 have hf:Aj (upE s.own id (BU B s) (.row et k bs [])) bid=some ⟨bid,rb,.box cs⟩:=by
  have hdel:∀own:List Ent,Aj (CC own id) bid=Aj own bid:=by
   intro own
   induction own with
   | nil=>rfl
   | cons x t ih =>
    simp only[CC,Aj]
    split
    ·rename_i hx;rw[ih,if_neg (by omega)]
    ·simp only[Aj];rw[ih]
  simp only[upE,Aj];rw[if_neg (fun h=>qE h.symm),hdel];exact h
 exact Rel.reBox R1 hf rfl (by simp) (fun arr hr=>TE cs arr 0 c (by
  intro v hv;rw[hc]at hv;simp only[rd]at hv |-;intro l hl;have wY:Ad (upE s.own id (BU B s) (.row et k bs [])) (CG loc id ⟨[],.slice none 0 0⟩) id (BU B s)=some l:=hl;rw[Dk]at wY;simp only[aA0]at wY
  rw[<-wY,hv]) hr)
end
theorem Ka {own:List Ent} {loc:Nat->Loc} (hn:(Aa own loc).Nodup):∀l:List Ent,(l.map (·.id)).Nodup->(∀e∈l,∃e0∈own,e0.id=e.id)->(Aa l loc).Nodup
 | [],_,_=>by simp[Aa]
 | e::l,hd,hm=>by
  simp only[List.map_cons,cH0]at hd;rw[DE,bS0];obtain⟨e0,vG,kB⟩:=hm e aH0;refine⟨by rw[<-kB];exact Dl hn e0 vG,Ka hn l hd.2 (fun x hx=>hm x (aF0 _ hx)),?_⟩;intro b hb b' qG gF;subst gF;obtain⟨e2,vA,wM⟩:=bQ0.1 qG;obtain⟨e3,he3,cN⟩:=hm e2 (aF0 _ vA);have:=Fk hn e0 vG e3 he3 b (by rw[kB];exact hb) (by rw[cN];exact wM);subst this;exact hd.1 (aR0.2 ⟨e2,vA,by rw[<-cN,kB]⟩)
def HY (own:List Ent):List (Nat×Nat×Nat):=own.map fun e=>(e.id,e.id,e.r)
def OQ (φ:Nat->Nat->Option (Nat×Nat)) (YD:Bool) (d d':DVal):Prop:=match d' with
 | .any=>True
 | d'=>if YD then d=d' else TO d/\Gu φ d=d'
def KW (φ:Nat->Nat->Option (Nat×Nat)) (YD:Bool) (l:List (Nat×DVal)):List (Nat×DVal)->Prop
 | []=>True
 | p::ps=>OQ φ YD (Be l p.1) p.2/\KW φ YD l ps
theorem Su {own:List Ent} {i j v:Nat} (h:(i,j,v)∈HY own):i=j/\∃e∈own,e.id=j/\e.r=v:=by
 obtain⟨e,he,h1⟩:=aR0.1 h;simp only[aS0]at h1;obtain⟨rfl,rfl,rfl⟩:=h1;exact⟨rfl,e,he,rfl,rfl⟩
theorem Sub.lit {B:Base} {s s':DS} (h:KW (BJ s.own (HY s'.own)) s'.own.isEmpty s.slots s'.slots/\Km s.own (BJ s.own (HY s'.own)) (HY s'.own)=some s'.own/\Lg s.own (HY s'.own)/\(s'.own.map (·.id)).Nodup):Sub B s s':=by
 obtain⟨hs,ho,hk,nd⟩:=h;intro a w loc R;refine⟨loc,?_⟩
 have bB:∀e'∈s'.own,∃e,Aj s.own e'.id=some e/\Yy e.obj/\e'.obj=Ic (BJ s.own (HY s'.own)) e.obj/\(e'.r=1\/(e'.r=0/\e.r=0)):=by
  intro e' vE;obtain⟨i,j,v,e,h1,h2,h3⟩:=(Lh ho).1 e' vE;obtain⟨yU,_⟩:=Su h1;subst yU;obtain⟨e2,g1,g2,g3⟩:=Jo hk i i v h1;rw[h2]at g1;simp only[aA0]at g1;subst g1;have e1:e'.id=i:=by rw[h3]
  have e3:e'.r=v:=by rw[h3]
  have e4:e'.obj=Ic (BJ s.own (HY s'.own)) e.obj:=by rw[h3]
  refine⟨e,by rw[e1];exact h2,g2,e4,?_⟩;rw[e3]
  rcases g3 with g3 | g3
  ·exact .inl g3
  ·exact .inr ⟨g3.1,g3.2.2⟩
 have yF:∀e'∈s'.own,∃e0∈s.own,e0.id=e'.id:=by
  intro e' vE;obtain⟨e,h1,_⟩:=bB e' vE;obtain⟨h2,h3⟩:=AA h1;exact⟨e,h2,h3⟩
 have wQ:∀b∈Aa s'.own loc,b∈Aa s.own loc:=by
  intro b hb;obtain⟨e',vE,h1⟩:=bQ0.1 hb;obtain⟨e0,h2,h3⟩:=yF e' vE;exact AZ h2 (by rw[h3];exact h1)
 have hM:∀b∈Aa s'.own loc++B.M0,b∈Aa s.own loc++B.M0:=by
  intro b hb
  rcases aI0.1 hb with h | h
  ·exact aL0 _ (wQ b h)
  ·exact aP0 _ h
 have W:Weak (cu s loc) (Ad s'.own loc) (hm s loc B.M0) (Aa s'.own loc++B.M0) w.heap w.heap 0 :=
  ⟨fun id r l hr=>by omega,fun b o _ (_:FY o=true) ho=>ho,fun b o hb (_:FY o=true) _ vV=>hb (hM b vV)⟩
 have L:FW (cu s loc) (Ad s'.own loc) (BJ s.own (HY s'.own)):=by
  intro i r p l hp hl;obtain⟨e,h1,h2,h3⟩:=HC hp;obtain⟨yU,_⟩:=Su h1;obtain⟨e',vE,g1,g2,g3⟩:=BC hl;subst g3
  show Ad s.own loc i r=_
  unfold Ad;rw[h2];simp[h3,yU]
 refine⟨⟨nd,Ka R.st.bl _ nd yF,fun b hb=>R.st.ap b (wQ b hb),fun b hb=>R.st.lt b (hM b hb),fun e' vE=> ?_⟩,R.upd,fun b hb=>R.new b (wQ b hb),fun e' vE hr=> ?_,?_,R.nt,R.df.keep rfl (Upd.refl [] w) (by simp) (fun b hb=> .inl (hM b hb))⟩
 ·obtain⟨e,h1,h2,h3,_⟩:=bB e' vE;obtain⟨qY,hid⟩:=AA h1;rw[h3];exact JE W L h2 (by rw[hid]) (fun _ _ _ h=>h) (R.st.ok e qY)
 ·obtain⟨e,h1,_,_,h4⟩:=bB e' vE;obtain⟨qY,hid⟩:=AA h1;have hN:=B.hN
  rcases h4 with h4 | ⟨h4,h5⟩
  ·omega
  ·have:=R.ver e qY (by omega);rw[hid,h5]at this;rw[h4];exact this
 ·intro i
  have qI:∀(l:List (Nat×DVal)),KW (BJ s.own (HY s'.own)) s'.own.isEmpty s.slots l->OQ (BJ s.own (HY s'.own)) s'.own.isEmpty (Be s.slots i) (Be l i):=by
   intro l
   induction l with
   | nil=>intro _;simp[OQ,Be]
   | cons p l ih =>
    intro hp;simp only[KW]at hp;simp only[Be]
    split
    ·rename_i h;rw[h];exact hp.1
    ·exact ih hp.2
  have h1:=qI s'.slots hs;have hr:=R.sl i
  generalize Be s'.slots i=d' at h1
  by_cases ha:d'= .any
  ·subst ha;simp[rd]
  ·have h2:if s'.own.isEmpty=true then Be s.slots i=d' else TO (Be s.slots i)/\Gu (BJ s.own (HY s'.own)) (Be s.slots i)=d':=by
    unfold OQ at h1
    split at h1
    ·exact absurd rfl ha
    ·exact h1
   split at h2
   ·rename_i he;rw[h2]at hr;have vE:s'.own=[]:=by simpa using he
    exact Cc (n:=mx d') ⟨fun id r l _ hl=>by rw[vE]at hl;simp[Ad,Aj]at hl,W.b,W.m⟩ _ _ (Nat.le_refl _) hr
   ·rw[<-h2.2];exact Oh W L h2.1 hr
def aG (s:DS) (n bid c id et k bs:Nat):DS:=match Aj s.own bid with
 | some e=>match e.obj with
  | .box cs=>⟨s.slots,upE (upE s.own id n (.row et k bs [])) bid e.r (.box (cs.set c (.osl id n)))⟩
  | _=>s
 | none=>s
def UL (s:DS) (bid c:Nat):Prop:=match Aj s.own bid with
 | some e=>match e.obj with
  | .box cs=>cs.getD c .any= .nilsl
  | _=>True
 | none=>True
theorem Hu {P:Program} {B:Base} {Q:Exit->DS->Prop} {s:DS} {x:Code} (bid c id et k bs:Nat) (h:UL s bid c/\bid≠id) (hk:∀n,DW P B x Q (aG s n bid c id et k bs)):DW P B x Q s:=by
 have hn:=hk (BU B s);unfold UL at h;unfold aG at hn
 cases hf:Aj s.own bid with
 | none=>rw[hf]at hn;exact hn
 | some e =>
  rw[hf]at hn h;obtain⟨hm,hid⟩:=AA hf
  cases qO:e.obj with
  | box cs =>
   simp only[qO]at hn h;refine KK (Sub.adoptCell bid c id et k bs (rb:=e.r) (cs:=cs) ?_ h.1 h.2) hn;rw[hf,<-hid,<-qO]
  | row _ _ _ _=>simp only[qO]at hn;exact hn
  | map _ _=>simp only[qO]at hn;exact hn
  | abs _=>simp only[qO]at hn;exact hn
theorem Ci {P:Program} {B:Base} {Q:Exit->DS->Prop} {s:DS} {x:Code} (i id et k bs:Nat) (h:Be s.slots i= .nilsl/\i<B.nt) (hk:∀n,DW P B x Q ⟨(i,.osl id n)::s.slots,upE s.own id n (.row et k bs [])⟩):DW P B x Q s :=
 KK (Sub.adoptSlot i id et k bs h.1 h.2) (hk (BU B s))
theorem Sub.truncSlot {B:Base} {s:DS} {i id r et k bs n:Nat} {es:List (List DVal)} {e:Ent} (h:Be s.slots i= .vw id r k bs 0 n) (he:Aj s.own id=some e) (qS:e.r=r) (qO:e.obj= .row et k bs es) (hn:n<=es.length) (hi:i<B.nt) :
  Sub B s ⟨(i,.osl id (BU B s))::s.slots,upE s.own id (BU B s) (.row et k bs (es.take n))⟩:=by
 intro a w loc R;have hs:=R.sl i;rw[h]at hs;obtain⟨qY,hid⟩:=AA he;obtain⟨qL,a0,cap0,hh,g1,g2,g3⟩:=La R.st he qS qO;simp only[rd]at hs;obtain⟨x,cap,hv,q1,q2,q3,q4,q5⟩:=hs _ qL;obtain⟨n1,hh1⟩:=q5 trivial;rw[hh]at hh1;simp only[Value.slice.injEq]at hh1;obtain⟨rfl,_,rfl⟩:=hh1;have qU:(es.take n).length=n:=by simp;omega
 have hk:=R.st.ok e qY;rw[qO,hid]at hk;obtain⟨vX,hk⟩:=hk
 have hL:∀b0,b0∈(⟨(loc id).blks,a.tmps.getD i Go.undef⟩:Loc).blks->b0<w.heap.size/\((∃e∈s.own,e.id=id/\b0∈(loc id).blks)\/w.heap.size<=b0):=fun b0 qC =>
  ⟨R.st.lt b0 (aL0 _ (AZ qY (by rw[hid];exact qC))),.inl ⟨e,qY,hid,qC⟩⟩
 have W:=R.weakUp (obj:= .row et k bs (es.take n)) (L:=⟨(loc id).blks,a.tmps.getD i Go.undef⟩) (Nat.le_refl (BU B s)) (Upd.refl _ w) hL (.inl (Nat.le_refl _));have vQ:=(Bi qY).2;rw[qO]at vQ;simp only[Ez]at vQ
 have:=R.up (id:=id) (r:=BU B s) (obj:= .row et k bs (es.take n)) (L:=⟨(loc id).blks,a.tmps.getD i Go.undef⟩) (v:=a.tmps.getD i Go.undef) (d:= .osl id (BU B s)) (dst:=some i) (Nat.le_refl _) (fun j hj=>by simp only[aA0]at hj;omega) (Upd.refl _ _) (fun _ _ _=>rfl) hL (.inl (Nat.le_refl _))
  (by
   refine⟨by rw[qU];exact Nat.le_trans (aY0 _ hn) vX,?_⟩
   rcases hk with ⟨rfl,h1,h2⟩ | ⟨b,arr,cap,h1,h2,h3,h4,h5,h6,h7⟩
   ·rw[hh]at h2;simp only[Value.slice.injEq]at h2;obtain⟨rfl,_,rfl⟩:=h2;refine .inl ⟨by simp,h1,?_⟩;rw[hv];simp only[List.length_nil,Nat.le_zero]at hn;rw[hn]
   ·rw[hh]at h2;simp only[Value.slice.injEq]at h2;obtain⟨rfl,_,rfl⟩:=h2;refine .inr ⟨b,arr,_,h1,by rw[qU];exact hv,h3,by omega,h5,h6,?_⟩;refine FD _ _ _ _ fun q cs hq=> ?_
    rw[eK0]at hq
    split at hq
    ·refine DZ k es arr 0 q cs (Cj W k es arr 0 ?_ h7) hq;unfold BU;omega
    ·simp at hq)
  (by
   simp only[rd];intro l hl;rw[Dk]at hl;simp only[aA0]at hl
   rw[<-hl])
  (by have:=Dl R.st.bl e qY;rwa[hid]at this)
 rw[VC a i (by rw[R.nt];exact hi)]at this;exact⟨_,this⟩
def Ti (s:DS) (i:Nat):Prop:=match Be s.slots i with
 | .vw id r k bs 0 n=>match Aj s.own id with
  | some e=>match e.obj with
   | .row _ k' bs' es=>e.r=r/\k'=k/\bs'=bs/\n<=es.length
   | _=>False
  | none=>False
 | _=>False
def YJ (s:DS) (i m:Nat):DS:=match Be s.slots i with
 | .vw id _ _ _ _ n=>match Aj s.own id with
  | some e=>match e.obj with
   | .row et k bs es=>⟨(i,.osl id m)::s.slots,upE s.own id m (.row et k bs (es.take n))⟩
   | _=>s
  | none=>s
 | _=>s
theorem Ta {P:Program} {B:Base} {Q:Exit->DS->Prop} {s:DS} {x:Code} (i:Nat) (h:Ti s i/\i<B.nt) (hk:∀m,DW P B x Q (YJ s i m)):DW P B x Q s:=by
 have h1:=h.1;have hk:=hk (BU B s);unfold Ti at h1;unfold YJ at hk
 split at h1
 ·rename_i id r k bs n hg;rw[hg]at hk;simp only at hk
  split at h1
  ·rename_i e he;rw[he]at hk;simp only at hk
   split at h1
   ·rename_i et k' bs' es qO;rw[qO]at hk;obtain⟨qS,rfl,rfl,hn⟩:=h1;exact KK (Sub.truncSlot hg he qS qO hn h.2) hk
   ·exact h1.elim
  ·exact h1.elim
 ·exact h1.elim
attribute [simp] Gq_ Gp_ Bm_ uG isE wk1 wkL wk FJ CL DU Hp BO PL Op.operands Call.operands Ip tZ Fs IF AW IB HB Es_ Er_ Bs Be ev ofV BQ Fa Bv Ry LQ Du Ba Aj EU_ CC callee BA gB gOK BV FM Eu_ ZW Gb AD Dg FP Gs Cq EO DB Ak Bj MQ BY SE BQ_ aI tX NJ YW OY JP EX
@[simp] theorem GH_ (n:Int):Kx .i64 n↔ -9223372036854775808<=n/\n<=9223372036854775807:=Iff.rfl
theorem Ai {n:Int} (h1: -9223372036854775808<=n) (h2:n<=9223372036854775807):IntKind.i64.wrap n=n:=by
 simp only[IntKind.wrap,IntKind.bits,IntKind.signed];simp
 split<;>omega
@[simp] theorem Gs_ (n:Int):Kx .u64 n↔0<=n/\n<=18446744073709551615:=Iff.rfl
@[simp] theorem GG_ (n:Int):Kx .u8 n↔0<=n/\n<=255:=Iff.rfl
@[simp] theorem Gt_ (n:Int):Kx .u32 n↔0<=n/\n<=4294967295:=Iff.rfl
@[simp] theorem Gu_ (n:Int):Kx .i32 n↔ -2147483648<=n/\n<=2147483647:=Iff.rfl
def isB : DVal->Bool
 | .bool _=>true
 | _=>false
def Bh_ : DVal->Bool
 | .bool b=>b
 | _=>false
attribute [simp] isB Bh_
theorem Bg {P:Program} {B:Base} {Q:Exit->DS->Prop} {s:DS} {c:Operand} {x y:Code} (h:isB (ev s.slots c)=true) (ht:Bh_ (ev s.slots c)=true->DW P B x Q s) (hf:Bh_ (ev s.slots c)=false->DW P B y Q s):DW P B (.cond c x y) Q s:=by
 cases he:ev s.slots c<;>rw[he]at h<;>simp at h;rename_i b;rw[he]at ht hf;exact DA_ he (fun hb=>ht hb) (fun hb=>hf hb)
attribute [simp] Go_ Dj_ tB ZO Bk Ii LB strOf ED WT Qj LA WU eE Ep_ Ba_ TJ GA Iy upE Kg CN Fb HD OL OK Hx ZA freezeL freezeS AL_ WE ZF Em_ WD oI JJ okR VK Lb xV NK TA ok3 VL Gu TO Ic Yy Zk IA BJ Km Lg Yt HY OQ KW aG UL YJ Ti
attribute [simp] mx AH Bo Br HF
@[simp] theorem EH_ {l:List (List DVal)} {k:Nat} (h:Bo l=0):Bo (l.take k)=0:=Nat.le_zero.1 (h▸FG k l)
@[simp] theorem EI_ {l:List (List DVal)} {k:Nat} (h:Bo l=0):Bo (l.drop k)=0:=Nat.le_zero.1 (h▸FH k l)
@[simp] theorem Gf_ : List.range 3=[0,1,2]:=rfl
@[simp] theorem Ge_ : List.range 4=[0,1,2,3]:=rfl
@[simp] theorem Gd_ : List.range 5=[0,1,2,3,4]:=rfl
@[simp] theorem Gc_ : List.range 6=[0,1,2,3,4,5]:=rfl
end Go.Dm
end
