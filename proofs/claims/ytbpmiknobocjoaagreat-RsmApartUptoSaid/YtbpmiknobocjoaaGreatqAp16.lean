/- Parts of a proof, laid together: EnN, EnO, EnP, EnS, EnT. -/
import Derived.Test.YtbpmiknobocjoaaGreatqAp10
import Derived.Test.YtbpmiknobocjoaaGreatqAp15
set_option linter.unusedSimpArgs false
set_option maxHeartbeats 8000000
set_option linter.unusedVariables false
set_option linter.unusedSectionVars false
section
namespace Go.Dm
variable [DMode]
def DO_ (id r:Nat) (obj:DObj):DVal->DVal
 | .osl id' r'=>if id'=id/\r'=r then (match obj with | .row _ k bs es=> .sl k bs es | _=> .osl id' r')else .osl id' r'
 | .bx id' r' off=>if id'=id/\r'=r then (match obj with | .box cs=> .ref (cs.drop off) | _=> .bx id' r' off)else .bx id' r' off
 | .vw id' r' k i0 i n=>if id'=id/\r'=r then (match obj with | .row _ k' bs es=>if k'=k/\i+n<=es.length then .sl k bs ((es.drop i).take n)else .any | _=> .any)else .vw id' r' k i0 i n
 | .omp id' r'=>if id'=id/\r'=r then (match obj with | .map ks vs=> .mp ks vs | _=> .omp id' r')else .omp id' r'
 | d=>d
def lE (id r:Nat) (obj:DObj):DVal->DVal
 | .fn f us cs=> .fn f us (cs.map (DO_ id r obj))
 | d=>DO_ id r obj d
def lD (id r:Nat) (obj:DObj):DVal->DVal
 | .agg cs=> .agg (cs.map (lE id r obj))
 | d=>lE id r obj d
def FR_ (id r:Nat) (obj:DObj):DObj->DObj
 | .box cs=> .box (cs.map (lE id r obj))
 | o=>o
def VX (id r:Nat) (obj:DObj) (own:List Ent):List Ent:=own.map fun e=>⟨e.id,e.r,FR_ id r obj e.obj⟩
def AV_ (f:DVal->DVal) (l:List (Nat×DVal)):List (Nat×DVal):=l.map fun p=>(p.1,f p.2)
def freezeS (s:DS) (id:Nat):DS:=match Ah s.own id with
 | some e=>⟨AV_ (lD id e.r e.obj) s.slots,VX id e.r e.obj (Bp s.own id)⟩
 | none=>s
def freezeL (s:DS):List Nat->DS
 | []=>s
 | id::ids=>freezeL (freezeS s id) ids
theorem Ul (f:DVal->DVal) (hf:f .any= .any):∀(l:List (Nat×DVal)) (i:Nat),getS (AV_ f l) i=f (getS l i)
 | [],i=>by simp[AV_,getS,hf]
 | (j,d)::l,i=>by
  have:=Ul f hf l i;simp only[AV_,List.map_cons,getS]at this |-
  split
  ·rfl
  ·exact this
@[simp] theorem DN_ (id r:Nat) (obj:DObj) (l:List (Nat×DVal)) (i:Nat):getS (AV_ (lD id r obj) l) i=lD id r obj (getS l i):=Ul _ rfl _ _
section
variable {B : Base} {s : DS} {a : Act} {w : World} {loc : Nat -> Loc}
theorem It (f:Ent->Ent) (hid:∀e,(f e).id=e.id):∀(own:List Ent) (id:Nat),Ah (own.map f) id=(Ah own id).map f
 | [],id=>rfl
 | e::t,id=>by
  simp only[List.map_cons,Ah,hid]
  split
  ·rfl
  ·exact It f hid t id
theorem Sc (id r:Nat) (obj:DObj) (own:List Ent) (loc:Nat->Loc):Ac (VX id r obj own) loc=Ac own loc:=by
 funext i k
 unfold Ac VX;rw[It (fun e=>⟨e.id,e.r,FR_ id r obj e.obj⟩) (fun _=>rfl)];cases Ah own i<;>rfl
theorem En (id r:Nat) (obj:DObj) (own:List Ent) (loc:Nat->Loc):Aa (VX id r obj own) loc=Aa own loc:=by
 unfold Aa VX
 induction own with
 | nil=>rfl
 | cons e t ih =>
  rw[List.map_cons,cP0,cP0,ih]
theorem Rel.freeze {id:Nat} {e:Ent} (R:Rel B s a w loc) (he:Ah s.own id=some e):Rel B ⟨AV_ (lD id e.r e.obj) s.slots,VX id e.r e.obj (Bp s.own id)⟩ a w loc:=by
 obtain⟨qY,hid⟩:=Ar he;have vN:∀x∈Bp s.own id,x∈s.own:=fun x hx=>(Bv.1 hx).1
 have wQ:∀b∈Aa (Bp s.own id) loc,b∈Aa s.own loc:=by
  intro b hb;obtain⟨x,hx,h1⟩:=bP0.1 hb;exact bP0.2 ⟨x,vN x hx,h1⟩
 have qE:∀i r l,Ac (Bp s.own id) loc i r=some l->Ac s.own loc i r=some l:=by
  intro i r l h;obtain⟨x,hx,rfl,rfl,rfl⟩:=BE h;exact Ay R.st.nd (vN x hx)
 have W:∀n,Weak (Ac s.own loc) (Ac (Bp s.own id) loc) (Aa s.own loc++B.M0) (Aa (Bp s.own id) loc++B.M0) w.heap w.heap n:=fun n =>
  ⟨fun id r l _ hl=>qE id r l hl,fun b o _ (_:FE o=true) ho=>ho,fun b o hb (_:FE o=true) _ wR=>hb (by
   rcases aG0.1 wR with h | h
   ·exact aM0 _ (wQ b h)
   ·exact aN0 _ h)⟩
 have vF:Ac s.own loc id e.r=some (loc id):=by rw[<-hid];exact Ay R.st.nd qY
 have vY:∀b,b∈(loc e.id).blks->b∉Aa (Bp s.own id) loc++B.M0:=by
  intro b hb wR
  rcases aG0.1 wR with h | h
  ·obtain⟨x,hx,qF,h1⟩:=MX h;have:=EI R.st.bl x hx e qY b h1 hb;subst this;exact qF hid
  ·exact R.st.ap b (AW qY hb) h
 have qK:=R.st.ok e qY
 have k1:∀d v,rd (Ac s.own loc) (Aa s.own loc++B.M0) w.heap d v->rd (Ac (Bp s.own id) loc) (Aa (Bp s.own id) loc++B.M0) w.heap (DO_ id e.r e.obj d) v:=by
  intro d v h;have hw:=Bk (W _) d v (Nat.le_refl _) h;cases d<;>simp only[DO_]<;>try exact hw
  ·split
   ·rename_i hc;obtain⟨rfl,rfl⟩:=hc
    cases qN:e.obj with
    | row et k bs es=>exact hw
    | map ks vs=>exact hw
    | abs A=>exact hw
    | lrec=>exact hw
    | glob=>exact hw
    | mapD=>exact hw
    | box cs =>
     rw[qN]at qK;obtain⟨b,arr,ty,h1,h2,h3,h4⟩:=qK;simp only[rd]at h;obtain⟨b',qM,hv⟩:=h _ vF;rw[<-hid,h1]at qM;simp only[bG0,and_true]at qM;subst qM;simp only[rd];refine⟨b,_,arr,ty,(0,0),hv,vY b (by rw[h1];simp),h2,?_⟩;have:=fun n=>EC n cs arr 0 (EB (W _) cs arr 0 (Nat.le_refl _) h4)
     simpa using this _
   ·exact hw
  ·split
   ·rename_i hc;obtain⟨rfl,rfl⟩:=hc
    cases qN:e.obj with
    | box cs=>exact hw
    | map ks vs=>exact hw
    | abs A=>exact hw
    | lrec=>exact hw
    | glob=>exact hw
    | mapD=>exact hw
    | row et k bs es =>
     rw[qN]at qK;obtain⟨wI,qK⟩:=qK;simp only[rd]at h;have hv:=h _ vF;rw[<-hid]at hv;simp only[rd]
     rcases qK with ⟨rfl,_,h2⟩ | ⟨b,arr,cap,h1,h2,h3,h4,h5,h6,h7⟩
     ·exact⟨none,0,by rw[hv,h2];rfl,by simp,by unfold maxLen;omega,by simp,.inl ⟨rfl,fun _=>rfl⟩⟩
     ·exact⟨_,cap,by rw[hv,h2],h4,h5,wI,.inr ⟨b,0,arr,et,(0,0),rfl,vY b (by rw[h1];simp),h3,Cu (W _) k es arr 0 (Nat.le_refl _) h7⟩⟩
   ·exact hw
  ·rename_i id' r' k0 bs0 i n
   split
   ·rename_i hc;obtain⟨rfl,rfl⟩:=hc
    cases qN:e.obj with
    | box cs=>simp[rd]
    | map ks vs=>simp[rd]
    | abs A=>simp[rd]
    | lrec=>simp[rd]
    | glob=>simp[rd]
    | mapD=>simp[rd]
    | row et k bs es =>
     simp only
     split
     ·rename_i hb;obtain⟨rfl,hb⟩:=hb;rw[qN]at qK;obtain⟨wI,qK⟩:=qK;simp only[rd]at h;obtain⟨a,cap,rfl,g1,g2,g3,g4,_⟩:=h _ vF;have qU:((es.drop i).take n).length=n:=by simp;omega
      simp only[rd];refine⟨a,cap,by rw[qU],by omega,g2,by rw[qU];exact Nat.le_trans (aW0 _ (by omega:n<=es.length)) wI,?_⟩
      by_cases h0:n=0
      ·subst h0;exact .inl ⟨by simp,g3⟩
      ·obtain⟨b,qC,rfl⟩:=g4 (by omega);rw[<-hid]at qC
       rcases qK with ⟨rfl,_⟩ | ⟨b',arr,cap',h1,h2,h3,h4,h5,h6,h7⟩
       ·simp at hb;omega
       ·rw[h1]at qC;simp only[bG0,and_true]at qC;subst qC;refine .inr ⟨b',i*k,arr,et,(0,0),rfl,vY b' (by rw[h1];simp),h3,EA _ _ _ _ fun q cs hq=> ?_⟩;rw[dZ0]at hq
        split at hq
        ·rw[cQ0]at hq;have:=Dh k es arr 0 (i+q) cs (Cu (W _) k es arr 0 (Nat.le_refl _) h7) hq
         rwa[bV0,bQ0]at this
        ·simp at hq
     ·simp[rd]
   ·exact hw
  ·split
   ·rename_i hc;obtain⟨rfl,rfl⟩:=hc
    cases qN:e.obj with
    | box cs=>exact hw
    | row et k bs es=>exact hw
    | abs A=>exact hw
    | lrec=>exact hw
    | glob=>exact hw
    | mapD=>exact hw
    | map ks vs =>
     rw[qN]at qK;obtain⟨b,es,clk,h1,h2,h3,h4,h5⟩:=qK;simp only[rd]at h;obtain⟨b',qM,hv⟩:=h _ vF;rw[<-hid,h1]at qM;simp only[bG0,and_true]at qM;subst qM;simp only[rd];exact⟨b,es,clk,hv,vY b (by rw[h1];simp),h2,h3.ok,AP (W _) ks _ (Nat.le_refl _) h4,AP (W _) vs _ (Nat.le_refl _) h5⟩
   ·exact hw
 have kV:∀(f:DVal->DVal),(∀d v,rd (Ac s.own loc) (Aa s.own loc++B.M0) w.heap d v->rd (Ac (Bp s.own id) loc) (Aa (Bp s.own id) loc++B.M0) w.heap (f d) v) ->
   ∀ds vs,rdV (Ac s.own loc) (Aa s.own loc++B.M0) w.heap ds vs->rdV (Ac (Bp s.own id) loc) (Aa (Bp s.own id) loc++B.M0) w.heap (ds.map f) vs:=by
  intro f hf ds
  induction ds with
  | nil=>intro vs h;simpa[rdV]using h
  | cons d ds ih =>
   intro vs h;simp only[rdV]at h;obtain⟨v,r,rfl,h1,h2⟩:=h;simp only[List.map_cons,rdV];exact⟨v,r,rfl,hf d v h1,ih r h2⟩
 have k2:∀d v,rd (Ac s.own loc) (Aa s.own loc++B.M0) w.heap d v->rd (Ac (Bp s.own id) loc) (Aa (Bp s.own id) loc++B.M0) w.heap (lE id e.r e.obj d) v:=by
  intro d v h;cases d<;>simp only[lE]<;>try exact k1 _ v h
  rename_i f us cs;simp only[rd]at h |-;obtain⟨us',cs',h1,h2,h3⟩:=h;exact⟨us',cs',h1,AP (W _) us _ (Nat.le_refl _) h2,kV _ k1 cs _ h3⟩
 have k3:∀d v,rd (Ac s.own loc) (Aa s.own loc++B.M0) w.heap d v->rd (Ac (Bp s.own id) loc) (Aa (Bp s.own id) loc++B.M0) w.heap (lD id e.r e.obj d) v:=by
  intro d v h;cases d<;>simp only[lD]<;>try exact k2 _ v h
  rename_i cs;simp only[rd]at h |-;obtain⟨us,h1,h2⟩:=h;exact⟨us,h1,kV _ k2 cs _ h2⟩
 have kC:∀(ds:List DVal) (arr:Array Value) (o:Nat),rdC (Ac s.own loc) (Aa s.own loc++B.M0) w.heap ds arr o->rdC (Ac (Bp s.own id) loc) (Aa (Bp s.own id) loc++B.M0) w.heap (ds.map (lE id e.r e.obj)) arr o:=by
  intro ds
  induction ds with
  | nil=>intro arr o _;simp[rdC]
  | cons d ds ih =>
   intro arr o h;simp only[rdC,List.map_cons]at h |-;obtain⟨⟨v,h1,kM,h2⟩,h3⟩:=h;exact⟨⟨v,h1,kM,k2 d v h2⟩,ih arr _ h3⟩
 refine⟨⟨?_,?_,?_,?_,?_⟩,R.upd,?_,?_,?_,R.nt,R.df.keep rfl (Upd.refl [] w) (by simp) (fun b hb=> .inl (by
  simp only[En]at hb
  rcases aG0.1 hb with h | h
  ·exact aM0 _ (wQ b h)
  ·exact aN0 _ h))⟩
 ·simp only[VX,cC0];exact Dy R.st.nd
 ·simp only[En];exact Df R.st.bl _ (Dy R.st.nd) vN
 ·simp only[En];exact fun b hb=>R.st.ap b (wQ b hb)
 ·simp only[En];intro b hb
  rcases aG0.1 hb with h | h
  ·exact R.st.lt b (aM0 _ (wQ b h))
  ·exact R.st.lt b (aN0 _ h)
 ·intro x hx;simp only[En,Sc];obtain⟨y,hy,rfl⟩:=aT0.1 hx;have hk:=R.st.ok y (vN y hy);simp only
  cases qN:y.obj with
  | box cs =>
   rw[qN]at hk;obtain⟨b,arr,ty,h1,h2,h3,h4⟩:=hk;exact⟨b,arr,ty,h1,h2,by simp[h3],kC cs arr 0 h4⟩
  | row et k bs es=>rw[qN]at hk;exact AV (W (Em (.row et k bs es))) (Nat.le_refl _) (fun _ _ _ h=>h) hk
  | map ks vs=>rw[qN]at hk;exact AV (W (Em (.map ks vs))) (Nat.le_refl _) (fun _ _ _ h=>h) hk
  | abs A=>rw[qN]at hk;exact AV (W (Em (.abs A))) (Nat.le_refl _) (fun _ _ _ h=>h) hk
  | mapD=>rw[qN]at hk;exact AV (W (Em _)) (Nat.le_refl _) (fun _ _ _ h=>h) hk
  | lrec=>rw[qN]at hk;exact AV (W (Em _)) (Nat.le_refl _) (fun _ _ _ h=>h) hk
  | glob=>rw[qN]at hk;exact AV (W (Em _)) (Nat.le_refl _) (fun _ _ _ h=>h) hk
 ·simp only[En];exact fun b hb=>R.new b (wQ b hb)
 ·intro x hx hr;obtain⟨y,hy,rfl⟩:=aT0.1 hx;exact R.ver y (vN y hy) hr
 ·intro i;simp only[En,Sc,DN_];exact k3 _ _ (R.sl i)
theorem Sub.refl (s:DS):Sub B s s:=fun _ _ loc R=>⟨loc,R⟩
theorem Sub.trans {s' s'':DS} (h:Sub B s s') (k:Sub B s' s''):Sub B s s'':=fun a w loc R =>
 let ⟨loc',R'⟩:=h a w loc R;k a w loc' R'
theorem Sub.freezeS (s:DS) (id:Nat):Sub B s (freezeS s id):=by
 intro a w loc R;unfold Dm.freezeS
 split
 ·rename_i e he;exact⟨loc,R.freeze he⟩
 ·exact⟨loc,R⟩
theorem Sub.freezeL : ∀(ids:List Nat) (s:DS),Sub B s (freezeL s ids)
 | [],s=>Sub.refl s
 | id::ids,s=>(Sub.freezeS s id).trans (Sub.freezeL ids _)
theorem Sub.rel {s':DS} {Q:Exit->DS->Prop} {e:Exit} (h:Sub B s s') (hq:Q e s') {a:Act} {w:World} {loc:Nat->Loc} (R:Rel B s a w loc):QQ B Q e a w :=
 let ⟨loc',R'⟩:=h a w loc R;⟨s',loc',hq,R'⟩
variable {P : Program}
structure RAnn where
 id:Nat
 fz:List Nat
 l1:List Nat
 l2:List Nat
def kQ (Q:Exit->DS->Prop) (fz:List Nat):Cont:=⟨fun s'=>Q .normal (freezeL s' fz)⟩
theorem IU_ (Q:Exit->DS->Prop) (fz:List Nat) (s':DS):(kQ Q fz).f s'=Q .normal (freezeL s' fz):=id rfl
def IB : List RAnn->Nat->RAnn
 | [],id=>⟨id,[],[],[]⟩
 | a::r,id=>if a.id=id then a else IB r id
structure Ann where
 ow:List Nat
 rs:List RAnn
theorem BA (A:Ann) {id:Nat} {ops:Array Oper} {draw:Bool} {Q:Exit->DS->Prop} (hm:P.follows .mixedOrders=true) (qG:(!draw||Ei A.ow (IB A.rs id).l1 (IB A.rs id).l2 ops)=true)
  (h:Ci P B.nt A.ow (IB A.rs id).l1 (IB A.rs id).l2 ops ops.toList 0 (kQ Q (IB A.rs id).fz) s):DW P B (.region id ops draw) Q s:=by
 have fin:∀{c:Code},DW P B c (fun e s'=>match e with | .normal=>Q .normal (freezeL s' (IB A.rs id).fz) | e=>Q e s') s->DW P B c Q s:=by
  intro c h a w loc R;refine wpIn_mono (h a w loc R) ?_;rintro e a' w' ⟨s',loc',hq,R'⟩
  cases e<;>first
   | exact(Sub.freezeL _ s').rel hq R'
   | exact⟨s',loc',hq,R'⟩
 cases draw with
 | false=>exact fin (PG _ _ _ h)
 | true=>exact fin (PI _ _ _ hm (by simpa using qG) h)
end
def NJ (P:Program) (fn:Func) (ids:List Nat) (d:DVal):Exit->DS->Prop
 | .normal,s=>match MF P (freezeL s ids) fn.results.toList with | some d0=>wk d0 d | none=>False
 | .ret,s=>match MF P (freezeL s ids) fn.results.toList with | some d0=>wk d0 d | none=>False
 | _,_=>False
theorem Af.wk {P:Program} {f:FuncId} {args:List DVal} {d d':DVal} (h:Af P f args d) (hw:wk d d') (hd:mx d'=0):Af P f args d' :=
 ⟨h.1,hd,fun cur M w vs hM hr=>(h.2.2 cur M w vs hM hr).mono fun e w' ⟨v,h1,h2,h3⟩=>⟨v,h1,h2,Xv hw h3⟩⟩
theorem TH {cur:ES} {M:List Nat} {h:Array Obj}:∀(a b:List DVal) (vs:List Value),rdV cur M h (a++b) vs->∃us ws,vs=us++ws/\rdV cur M h a us/\rdV cur M h b ws
 | [],b,vs,hr=>⟨[],vs,rfl,by simp[rdV],hr⟩
 | d::a,b,vs,hr=>by
  simp only[List.cons_append,rdV]at hr;obtain⟨v,r,rfl,h1,h2⟩:=hr;obtain⟨us,ws,rfl,h3,h4⟩:=TH a b r h2;exact⟨v::us,ws,rfl,by simp only[rdV];exact⟨v,us,rfl,h1,h3⟩,h4⟩
theorem aK {P:Program} {f:FuncId} (pre:List DVal) {post:List DVal} {k bs:Nat} {d:DVal} (h1:Af P f (pre++ .nilsl::post) d) (h2:Af P f (pre++ .esl::post) d):Af P f (pre++ .sl k bs []::post) d:=by
 refine⟨h1.1,h1.2.1,fun cur M w vs hM hr=> ?_⟩;obtain⟨us,ws,wS,h3,h4⟩:=TH _ _ _ hr;simp only[rdV]at h4;obtain⟨v,r,rfl,h5,h6⟩:=h4;simp only[rd]at h5;obtain⟨a,cap,rfl,_,hc,_,h7⟩:=h5
 cases a with
 | none =>
  have:cap=0:=by
   rcases h7 with h7 | ⟨b,off,arr,ty,fz,h8,_⟩
   ·exact h7.2 rfl
   ·simp at h8
  subst this;refine h1.2.2 cur M w vs hM ?_;rw[wS];exact Cf _ _ _ _ h3 (by simp only[rdV];exact⟨_,r,rfl,by simp[rd],h6⟩)
 | some ad =>
  refine h2.2.2 cur M w vs hM ?_;rw[wS];exact Cf _ _ _ _ h3 (by simp only[rdV];exact⟨_,r,rfl,by simp only[rd];exact⟨ad,cap,rfl,hc⟩,h6⟩)
theorem WS (ids:List Nat) {P:Program} {f:FuncId} {fn:Func} {c:Code} {args:List DVal} {d:DVal} (hf:P.funcs[f]? =some fn) (hb:fn.body=some c) (vJ:Enters P f) (qX:args.length<=fn.ntmps)
  (hd:mx d=0) (h:KI args->∀B:BaseN,B.nt=fn.ntmps/\B.ro=none->DW P B c (NJ P fn ids d) ⟨Aq args 0,[]⟩):Af P f args d:=by
 refine WQ hf hb vJ qX hd fun qJ B hB=> ?_
 intro a w loc R;refine wpIn_mono (h qJ B hB a w loc R) ?_;rintro e a' w' ⟨s',loc',hq,R'⟩
 have key:(match MF P (freezeL s' ids) fn.results.toList with | some d0=>wk d0 d | none=>False)->∃s'' loc'',(∃d0,MF P s'' fn.results.toList=some d0/\∀cur M h v,rd cur M h d0 v->rd cur M h d v)/\Rel B s'' a' w' loc'':=by
  intro hq;obtain⟨loc'',R''⟩:=Sub.freezeL ids s' a' w' loc' R'
  split at hq
  ·rename_i d0 kK;exact⟨_,loc'',⟨d0,kK,fun cur M h v hr=>Xv hq hr⟩,R''⟩
  ·exact hq.elim
 cases e<;>simp only[NJ]at hq<;>first
  | (obtain⟨s'',loc'',h1,h2⟩:=key hq;exact⟨s'',loc'',h1,h2⟩)
  | exact hq.elim
def aG (P:Program) (fn:Func) (ids:List Nat) (ρ:List (Nat×Nat×Nat)) (d:DVal) (own':List Ent):Exit->DS->Prop
 | .normal,s=>match MF P (freezeL s ids) fn.results.toList with
  | some d0=>Vw d0/\wk (Hy (BT (freezeL s ids).own ρ) d0) d/\LW (freezeL s ids).own (BT (freezeL s ids).own ρ) ρ=some own'/\MK (freezeL s ids).own ρ
  | none=>False
 | .ret,s=>match MF P (freezeL s ids) fn.results.toList with
  | some d0=>Vw d0/\wk (Hy (BT (freezeL s ids).own ρ) d0) d/\LW (freezeL s ids).own (BT (freezeL s ids).own ρ) ρ=some own'/\MK (freezeL s ids).own ρ
  | none=>False
 | _,_=>False
section
variable {B : Base} {s : DS} {a : Act} {w : World} {loc : Nat -> Loc}
theorem XG (a:Act) (i:Nat) (hi:i<a.tmps.size):a.put (some i) (a.tmps.getD i Go.undef)=a:=by
 obtain⟨tmps,defers⟩:=a;unfold Act.put;simp only
 congr 1
 apply Array.ext
 ·simp
 ·intro j h1 h2;rw[Array.getElem_setIfInBounds h2]
  split
  ·rename_i h;subst h;simp[aO0,bO0 h2]
  ·rfl
theorem Rel.adopt {id r et k bs:Nat} {dst:Option Nat} {v:Value} {d:DVal} (R:Rel B s a w loc) (hr:Cd B s<=r) (qT:∀i,dst=some i->i<B.nt)
  (hd:rd (Ac (upE s.own id r (.row et k bs [])) (CS loc id ⟨[],.slice none 0 0⟩)) (Aa (upE s.own id r (.row et k bs [])) (CS loc id ⟨[],.slice none 0 0⟩)++B.M0) w.heap d v) :
  Rel B ⟨putS s.slots dst d,upE s.own id r (.row et k bs [])⟩ (a.put dst v) w (CS loc id ⟨[],.slice none 0 0⟩) :=
 R.up (L:=⟨[],.slice none 0 0⟩) (n:=r) hr qT (Upd.refl _ _) (fun b hb _=>rfl) (fun b hb=>by simp at hb) (.inl (Nat.le_refl _)) ⟨by simp,.inl ⟨rfl,rfl,rfl⟩⟩ hd
theorem Sub.adoptSlot (i id et k bs:Nat) (h:getS s.slots i= .nilsl) (hi:i<B.nt):Sub B s ⟨(i,.osl id (Cd B s))::s.slots,upE s.own id (Cd B s) (.row et k bs [])⟩:=by
 intro a w loc R;have hs:=R.sl i;rw[h]at hs;simp only[rd]at hs
 have:=R.adopt (id:=id) (et:=et) (k:=k) (bs:=bs) (dst:=some i) (v:=a.tmps.getD i Go.undef) (d:= .osl id (Cd B s)) (Nat.le_refl _) (fun j hj=>by simp only[aA0]at hj;omega) (by
  simp only[rd];intro l hl;rw[DD]at hl;simp only[aA0]at hl
  rw[<-hl,hs])
 rw[XG a i (by rw[R.nt];exact hi)]at this;exact⟨_,this⟩
theorem Rel.reBox {id:Nat} {e:Ent} {cs cs':List DVal} (R:Rel B s a w loc) (he:Ah s.own id=some e) (qN:e.obj= .box cs) (qU:cs'.length=cs.length)
  (h:∀arr,rdC (cu s loc) (hm s loc B.M0) w.heap cs arr 0->rdC (cu s loc) (hm s loc B.M0) w.heap cs' arr 0):∃loc',Rel B ⟨s.slots,upE s.own id e.r (.box cs')⟩ a w loc':=by
 obtain⟨qY,hid⟩:=Ar he;have qE:Ac s.own loc id e.r=some (loc id):=by rw[<-hid];exact Ay R.st.nd qY
 have hk:=R.st.ok e qY;rw[qN]at hk;obtain⟨b,arr,ty,h1,h2,h3,h4⟩:=hk;rw[hid]at h1
 have hL:∀b0,b0∈(loc id).blks->b0<w.heap.size/\((∃e∈s.own,e.id=id/\b0∈(loc id).blks)\/w.heap.size<=b0):=by
  intro b0 qR;refine⟨?_,.inl ⟨e,qY,hid,qR⟩⟩;rw[h1]at qR;simp only[aE0]at qR;subst qR;exact(aC0.1 h2).1
 have gG:CS loc id (loc id)=loc:=by
  funext j
  unfold CS
  split
  ·rename_i hj;rw[hj]
  ·rfl
 have W:Weak (cu s loc) (Ac (upE s.own id e.r (.box cs')) (CS loc id (loc id))) (hm s loc B.M0) (Aa (upE s.own id e.r (.box cs')) (CS loc id (loc id))++B.M0) w.heap w.heap (max (Cd B s) (AJ cs')):=by
  refine Er (Upd.refl _ w) ?_ ?_
  ·intro b hb;obtain⟨x,hx,kM⟩:=bP0.1 hb;rw[gG]at kM
   rcases aK0.1 hx with rfl | hx
   ·exact .inl (AW qY (by rw[hid];exact kM))
   ·exact .inl (AW (Bv.1 hx).1 kM)
  ·intro x hx _;rw[gG]
   rcases aK0.1 hx with rfl | hx
   ·exact qE
   ·exact Ay R.st.nd (Bv.1 hx).1
 have R':=R.up (hLn:=by rw[h1];simp) (w':=w) (id:=id) (r:=e.r) (obj:= .box cs') (L:=loc id) (v:=Go.undef) (d:= .any) (dst:=none) (n:=Cd B s) (Nat.le_refl _) (fun i hi=>by simp at hi) (Upd.refl _ _) (fun _ _ _=>rfl) hL (.inr qE)
  ⟨b,arr,ty,h1,h2,by rw[qU];exact h3,EB W cs' arr 0 (by omega) (h arr h4)⟩ (by simp[rd])
 exact⟨_,R'⟩
theorem Vm {cur:ES} {M:List Nat} {H:Array Obj} {d':DVal}:∀(cs:List DVal) (arr:Array Value) (o c:Nat),(∀v,rd cur M H (cs.getD c .any) v->rd cur M H d' v)->rdC cur M H cs arr o->rdC cur M H (cs.set c d') arr o
 | [],_,_,_,_,h=>by simpa using h
 | d::cs,arr,o,0,hd,h=>by
  simp only[rdC,eN0]at h |-;obtain⟨⟨v,h1,h2,h3⟩,h4⟩:=h;exact⟨⟨v,h1,h2,hd v (by simpa using h3)⟩,h4⟩
 | d::cs,arr,o,c+1,hd,h=>by
  simp only[rdC,List.set_cons_succ]at h |-;exact⟨h.1,Vm cs arr (o+1) c (by simpa using hd) h.2⟩
theorem Sub.adoptCell (bid c id et k bs:Nat) {rb:Nat} {cs:List DVal} (h:Ah s.own bid=some ⟨bid,rb,.box cs⟩) (hc:cs.getD c .any= .nilsl) (qF:bid≠id) :
  Sub B s ⟨s.slots,upE (upE s.own id (Cd B s) (.row et k bs [])) bid rb (.box (cs.set c (.osl id (Cd B s))))⟩:=by
 intro a w loc R;have R1:=R.adopt (id:=id) (et:=et) (k:=k) (bs:=bs) (dst:=none) (v:=Go.undef) (d:= .any) (Nat.le_refl _) (fun i hi=>by simp at hi) (by simp[rd])
 have hf:Ah (upE s.own id (Cd B s) (.row et k bs [])) bid=some ⟨bid,rb,.box cs⟩:=by
  have hdel:∀own:List Ent,Ah (Bp own id) bid=Ah own bid:=by
   intro own
   induction own with
   | nil=>rfl
   | cons x t ih =>
    simp only[Bp,Ah]
    split
    ·rename_i hx;rw[ih,if_neg (by omega)]
    ·simp only[Ah];rw[ih]
  simp only[upE,Ah];rw[if_neg (fun h=>qF h.symm),hdel];exact h
 exact Rel.reBox R1 hf rfl (by simp) (fun arr hr=>Vm cs arr 0 c (by
  intro v hv;rw[hc]at hv;simp only[rd]at hv |-;intro l hl;have wW:Ac (upE s.own id (Cd B s) (.row et k bs [])) (CS loc id ⟨[],.slice none 0 0⟩) id (Cd B s)=some l:=hl;rw[DD]at wW;simp only[aA0]at wW
  rw[<-wW,hv]) hr)
end
theorem LH {own:List Ent} {loc:Nat->Loc} (hn:(Aa own loc).Nodup):∀l:List Ent,(l.map (·.id)).Nodup->(∀e∈l,∃e0∈own,e0.id=e.id)->(Aa l loc).Nodup
 | [],_,_=>by simp[Aa]
 | e::l,hd,hm=>by
  simp only[List.map_cons,cV0]at hd;rw[Ec,bX0];obtain⟨e0,vL,jD⟩:=hm e aH0;refine⟨by rw[<-jD];exact DE hn e0 vL,LH hn l hd.2 (fun x hx=>hm x (aF0 _ hx)),?_⟩;intro b hb b' qM jI;subst jI;obtain⟨e2,vS,wX⟩:=bP0.1 qM;obtain⟨e3,he3,dB⟩:=hm e2 (aF0 _ vS);have:=EI hn e0 vL e3 he3 b (by rw[jD];exact hb) (by rw[dB];exact wX);subst this;exact hd.1 (aT0.2 ⟨e2,vS,by rw[<-dB,jD]⟩)
def Ju (own:List Ent):List (Nat×Nat×Nat):=own.map fun e=>(e.id,e.id,e.r)
def QA (φ:Nat->Nat->Option (Nat×Nat)) (aQ:Bool) (d d':DVal):Prop:=match d' with
 | .any=>True
 | d'=>if aQ then d=d' else Vw d/\Hy φ d=d'
def My (φ:Nat->Nat->Option (Nat×Nat)) (aQ:Bool) (l:List (Nat×DVal)):List (Nat×DVal)->Prop
 | []=>True
 | p::ps=>QA φ aQ (getS l p.1) p.2/\My φ aQ l ps
theorem Ug {own:List Ent} {i j v:Nat} (h:(i,j,v)∈Ju own):i=j/\∃e∈own,e.id=j/\e.r=v:=by
 obtain⟨e,he,h1⟩:=aT0.1 h;simp only[aV0]at h1;obtain⟨rfl,rfl,rfl⟩:=h1;exact⟨rfl,e,he,rfl,rfl⟩
theorem Sub.lit {B:BaseN} {s s':DS} (h:My (BT s.own (Ju s'.own)) s'.own.isEmpty s.slots s'.slots/\LW s.own (BT s.own (Ju s'.own)) (Ju s'.own)=some s'.own/\MK s.own (Ju s'.own)/\(s'.own.map (·.id)).Nodup):Sub B s s':=by
 obtain⟨hs,ho,hk,nd⟩:=h;intro a w loc R;refine⟨loc,?_⟩
 have cI:∀e'∈s'.own,∃e,Ah s.own e'.id=some e/\aN e.obj/\e'.obj=JB (BT s.own (Ju s'.own)) e.obj/\(e'.r=1\/(e'.r=0/\e.r=0)):=by
  intro e' vE;obtain⟨i,j,v,e,h1,h2,h3⟩:=(ML ho).1 e' vE;obtain⟨yB,_⟩:=Ug h1;subst yB;obtain⟨e2,g1,g2,g3⟩:=KQ hk i i v h1;rw[h2]at g1;simp only[aA0]at g1;subst g1;have e1:e'.id=i:=by rw[h3]
  have e3:e'.r=v:=by rw[h3]
  have e4:e'.obj=JB (BT s.own (Ju s'.own)) e.obj:=by rw[h3]
  refine⟨e,by rw[e1];exact h2,g2,e4,?_⟩;rw[e3]
  rcases g3 with g3 | g3
  ·exact .inl g3
  ·exact .inr ⟨g3.1,g3.2.2⟩
 have zW:∀e'∈s'.own,∃e0∈s.own,e0.id=e'.id:=by
  intro e' vE;obtain⟨e,h1,_⟩:=cI e' vE;obtain⟨h2,h3⟩:=Ar h1;exact⟨e,h2,h3⟩
 have wQ:∀b∈Aa s'.own loc,b∈Aa s.own loc:=by
  intro b hb;obtain⟨e',vE,h1⟩:=bP0.1 hb;obtain⟨e0,h2,h3⟩:=zW e' vE;exact AW h2 (by rw[h3];exact h1)
 have hM:∀b∈Aa s'.own loc++B.M0,b∈Aa s.own loc++B.M0:=by
  intro b hb
  rcases aG0.1 hb with h | h
  ·exact aM0 _ (wQ b h)
  ·exact aN0 _ h
 have W:Weak (cu s loc) (Ac s'.own loc) (hm s loc B.M0) (Aa s'.own loc++B.M0) w.heap w.heap 0 :=
  ⟨fun id r l hr=>by omega,fun b o _ (_:FE o=true) ho=>ho,fun b o hb (_:FE o=true) _ wR=>hb (hM b wR)⟩
 have L:GW (cu s loc) (Ac s'.own loc) (BT s.own (Ju s'.own)):=by
  intro i r p l hp hl;obtain⟨e,h1,h2,h3⟩:=IT hp;obtain⟨yB,_⟩:=Ug h1;obtain⟨e',vE,g1,g2,g3⟩:=BE hl;subst g3
  show Ac s.own loc i r=_
  unfold Ac;rw[h2];simp[h3,yB]
 refine⟨⟨nd,LH R.st.bl _ nd zW,fun b hb=>R.st.ap b (wQ b hb),fun b hb=>R.st.lt b (hM b hb),fun e' vE=> ?_⟩,R.upd,fun b hb=>R.new b (wQ b hb),fun e' vE hr=> ?_,?_,R.nt,R.df.keep rfl (Upd.refl [] w) (by simp) (fun b hb=> .inl (hM b hb))⟩
 ·obtain⟨e,h1,h2,h3,_⟩:=cI e' vE;obtain⟨qY,hid⟩:=Ar h1;rw[h3];exact Lk W L h2 (by rw[hid]) (fun _ _ _ h=>h) (R.st.ok e qY)
 ·obtain⟨e,h1,_,_,h4⟩:=cI e' vE;obtain⟨qY,hid⟩:=Ar h1;have hN:=B.hN
  rcases h4 with h4 | ⟨h4,h5⟩
  ·omega
  ·have:=R.ver e qY (by omega);rw[hid,h5]at this;rw[h4];exact this
 ·intro i
  have wZ:∀(l:List (Nat×DVal)),My (BT s.own (Ju s'.own)) s'.own.isEmpty s.slots l->QA (BT s.own (Ju s'.own)) s'.own.isEmpty (getS s.slots i) (getS l i):=by
   intro l
   induction l with
   | nil=>intro _;simp[QA,getS]
   | cons p l ih =>
    intro hp;simp only[My]at hp;simp only[getS]
    split
    ·rename_i h;rw[h];exact hp.1
    ·exact ih hp.2
  have h1:=wZ s'.slots hs;have hr:=R.sl i
  generalize getS s'.slots i=d' at h1
  by_cases ha:d'= .any
  ·subst ha;simp[rd]
  ·have h2:if s'.own.isEmpty=true then getS s.slots i=d' else Vw (getS s.slots i)/\Hy (BT s.own (Ju s'.own)) (getS s.slots i)=d':=by
    unfold QA at h1
    split at h1
    ·exact absurd rfl ha
    ·exact h1
   split at h2
   ·rename_i he;rw[h2]at hr;have vE:s'.own=[]:=by simpa using he
    exact Bk (n:=mx d') ⟨fun id r l _ hl=>by rw[vE]at hl;simp[Ac,Ah]at hl,W.b,W.m⟩ _ _ (Nat.le_refl _) hr
   ·rw[<-h2.2];exact PN W L h2.1 hr
def oL (s:DS) (n bid c id et k bs:Nat):DS:=match Ah s.own bid with
 | some e=>match e.obj with
  | .box cs=>⟨s.slots,upE (upE s.own id n (.row et k bs [])) bid e.r (.box (cs.set c (.osl id n)))⟩
  | _=>s
 | none=>s
def WK (s:DS) (bid c:Nat):Prop:=match Ah s.own bid with
 | some e=>match e.obj with
  | .box cs=>cs.getD c .any= .nilsl
  | _=>True
 | none=>True
theorem Ct {P:Program} {B:Base} {Q:Exit->DS->Prop} {s:DS} {x:Code} (bid c id et k bs:Nat) (h:WK s bid c/\bid≠id) (hk:∀n,DW P B x Q (oL s n bid c id et k bs)):DW P B x Q s:=by
 have hn:=hk (Cd B s);unfold WK at h;unfold oL at hn
 cases hf:Ah s.own bid with
 | none=>rw[hf]at hn;exact hn
 | some e =>
  rw[hf]at hn h;obtain⟨hm,hid⟩:=Ar hf
  cases qN:e.obj with
  | box cs =>
   simp only[qN]at hn h;refine ER (Sub.adoptCell bid c id et k bs (rb:=e.r) (cs:=cs) ?_ h.1 h.2) hn;rw[hf,<-hid,<-qN]
  | row _ _ _ _=>simp only[qN]at hn;exact hn
  | map _ _=>simp only[qN]at hn;exact hn
  | abs _=>simp only[qN]at hn;exact hn
  | lrec=>simp only[qN]at hn;exact hn
  | glob=>simp only[qN]at hn;exact hn
  | mapD=>simp only[qN]at hn;exact hn
theorem BM {P:Program} {B:Base} {Q:Exit->DS->Prop} {s:DS} {x:Code} (i id et k bs:Nat) (h:getS s.slots i= .nilsl/\i<B.nt) (hk:∀n,DW P B x Q ⟨(i,.osl id n)::s.slots,upE s.own id n (.row et k bs [])⟩):DW P B x Q s :=
 ER (Sub.adoptSlot i id et k bs h.1 h.2) (hk (Cd B s))
theorem Sub.truncSlot {B:Base} {s:DS} {i id r et k bs n:Nat} {es:List (List DVal)} {e:Ent} (h:getS s.slots i= .vw id r k bs 0 n) (he:Ah s.own id=some e) (wV:e.r=r) (qN:e.obj= .row et k bs es) (hn:n<=es.length) (qR:bs≠0) (hi:i<B.nt) :
  Sub B s ⟨(i,.osl id (Cd B s))::s.slots,upE s.own id (Cd B s) (.row et k bs (es.take n))⟩:=by
 intro a w loc R;have hs:=R.sl i;rw[h]at hs;obtain⟨qY,hid⟩:=Ar he;obtain⟨qE,a0,cap0,hh,g1,g2,g3⟩:=MD R.st he wV qN;simp only[rd]at hs;obtain⟨x,cap,hv,q1,q2,q3,q4,q5⟩:=hs _ qE;obtain⟨n1,hh1⟩:=(q5 trivial).resolve_left qR;rw[hh]at hh1;simp only[Value.slice.injEq]at hh1;obtain⟨rfl,_,rfl⟩:=hh1;have qU:(es.take n).length=n:=by simp;omega
 have hk:=R.st.ok e qY;rw[qN,hid]at hk;obtain⟨wI,hk⟩:=hk
 have hL:∀b0,b0∈(⟨(loc id).blks,a.tmps.getD i Go.undef⟩:Loc).blks->b0<w.heap.size/\((∃e∈s.own,e.id=id/\b0∈(loc id).blks)\/w.heap.size<=b0):=fun b0 qR =>
  ⟨R.st.lt b0 (aM0 _ (AW qY (by rw[hid];exact qR))),.inl ⟨e,qY,hid,qR⟩⟩
 have W:=R.weakUp (obj:= .row et k bs (es.take n)) (L:=⟨(loc id).blks,a.tmps.getD i Go.undef⟩) (Nat.le_refl (Cd B s)) (Upd.refl _ w) hL (.inl (Nat.le_refl _));have vM:=(Bn qY).2;rw[qN]at vM;simp only[Em]at vM
 have:=R.up (id:=id) (r:=Cd B s) (obj:= .row et k bs (es.take n)) (L:=⟨(loc id).blks,a.tmps.getD i Go.undef⟩) (v:=a.tmps.getD i Go.undef) (d:= .osl id (Cd B s)) (dst:=some i) (Nat.le_refl _) (fun j hj=>by simp only[aA0]at hj;omega) (Upd.refl _ _) (fun _ _ _=>rfl) hL (.inl (Nat.le_refl _))
  (by
   refine⟨by rw[qU];exact Nat.le_trans (aW0 _ hn) wI,?_⟩
   rcases hk with ⟨rfl,h1,h2⟩ | ⟨b,arr,cap,h1,h2,h3,h4,h5,h6,h7⟩
   ·rw[hh]at h2;simp only[Value.slice.injEq]at h2;obtain⟨rfl,_,rfl⟩:=h2;refine .inl ⟨by simp,h1,?_⟩;rw[hv];simp only[List.length_nil,Nat.le_zero]at hn;rw[hn]
   ·rw[hh]at h2;simp only[Value.slice.injEq]at h2;obtain⟨rfl,_,rfl⟩:=h2;refine .inr ⟨b,arr,_,h1,by rw[qU];exact hv,h3,by omega,h5,h6,?_⟩;refine EA _ _ _ _ fun q cs hq=> ?_
    rw[dZ0]at hq
    split at hq
    ·refine Dh k es arr 0 q cs (Cu W k es arr 0 ?_ h7) hq;unfold Cd;omega
    ·simp at hq)
  (by
   simp only[rd];intro l hl;rw[DD]at hl;simp only[aA0]at hl
   rw[<-hl])
  (by have:=DE R.st.bl e qY;rwa[hid]at this)
 rw[XG a i (by rw[R.nt];exact hi)]at this;exact⟨_,this⟩
def UV (s:DS) (i:Nat):Prop:=match getS s.slots i with
 | .vw id r k bs 0 n=>match Ah s.own id with
  | some e=>match e.obj with
   | .row _ k' bs' es=>e.r=r/\k'=k/\bs'=bs/\n<=es.length/\bs≠0
   | _=>False
  | none=>False
 | _=>False
def aV (s:DS) (i m:Nat):DS:=match getS s.slots i with
 | .vw id _ _ _ _ n=>match Ah s.own id with
  | some e=>match e.obj with
   | .row et k bs es=>⟨(i,.osl id m)::s.slots,upE s.own id m (.row et k bs (es.take n))⟩
   | _=>s
  | none=>s
 | _=>s
theorem UL {P:Program} {B:Base} {Q:Exit->DS->Prop} {s:DS} {x:Code} (i:Nat) (h:UV s i/\i<B.nt) (hk:∀m,DW P B x Q (aV s i m)):DW P B x Q s:=by
 have h1:=h.1;have hk:=hk (Cd B s);unfold UV at h1;unfold aV at hk
 split at h1
 ·rename_i id r k bs n hg;rw[hg]at hk;simp only at hk
  split at h1
  ·rename_i e he;rw[he]at hk;simp only at hk
   split at h1
   ·rename_i et k' bs' es qN;rw[qN]at hk;obtain⟨wV,rfl,rfl,hn,qR⟩:=h1;exact ER (Sub.truncSlot hg he wV qN hn qR h.2) hk
   ·exact h1.elim
  ·exact h1.elim
 ·exact h1.elim
attribute [simp] IW_ IV_ Et_ wkA isE wk1 wkL wk GA CY Ey IB BX Ru Op.operands Call.operands JI okG FQ Kb Bf JY IS Hk_ Hj_ putS getS ev ofV Cb DV Bm Tp Nt DJ Bi Ah HP_ Bp callee BI gB gOK Bs GF Hq_ oA FH AI Dx FT Hw Cz Fy Ea Aq Bt Nm CA Wg IG oO SI MF eQ QI KI Ev
@[simp] theorem Jl_ (n:Int):KV .i64 n↔ -9223372036854775808<=n/\n<=9223372036854775807:=Iff.rfl
theorem Ag {n:Int} (h1: -9223372036854775808<=n) (h2:n<=9223372036854775807):IntKind.i64.wrap n=n:=by
 simp only[IntKind.wrap,IntKind.bits,IntKind.signed];simp
 split<;>omega
@[simp] theorem IY_ (n:Int):KV .u64 n↔0<=n/\n<=18446744073709551615:=Iff.rfl
@[simp] theorem Jk_ (n:Int):KV .u8 n↔0<=n/\n<=255:=Iff.rfl
@[simp] theorem IZ_ (n:Int):KV .u32 n↔0<=n/\n<=4294967295:=Iff.rfl
@[simp] theorem Ja_ (n:Int):KV .i32 n↔ -2147483648<=n/\n<=2147483647:=Iff.rfl
def isB : DVal->Bool
 | .bool _=>true
 | _=>false
def Eq_ : DVal->Bool
 | .bool b=>b
 | _=>false
attribute [simp] isB Eq_
theorem AX {P:Program} {B:Base} {Q:Exit->DS->Prop} {s:DS} {c:Operand} {x y:Code} (h:isB (ev s.slots c)=true) (ht:Eq_ (ev s.slots c)=true->DW P B x Q s) (hf:Eq_ (ev s.slots c)=false->DW P B y Q s):DW P B (.cond c x y) Q s:=by
 cases he:ev s.slots c<;>rw[he]at h<;>simp at h;rename_i b;rw[he]at ht hf;exact Gq_ he (fun hb=>ht hb) (fun hb=>hf hb)
attribute [simp] IU_ Gb_ BB_ lR Bw JD Nh strOf Fl YV RY Ng YW rN Hh_ Eh_ Vp Mh JU upE LO Da FM IU Qs Qr IK iY freezeL freezeS DO_ lE lD FR_ VX NJ Lp okR XM Pq Tb QY Vi ok3 XP Hy Vw JB aN iH JX BT LW MK aG Ju QA My oL WK aV UV
attribute [simp] mx AJ Br BD IW
@[simp] theorem HC_ {l:List (List DVal)} {k:Nat} (h:Br l=0):Br (l.take k)=0:=Nat.le_zero.1 (h▸EF k l)
@[simp] theorem HD_ {l:List (List DVal)} {k:Nat} (h:Br l=0):Br (l.drop k)=0:=Nat.le_zero.1 (h▸Gy k l)
@[simp] theorem IO_ : List.range 3=[0,1,2]:=rfl
@[simp] theorem IN_ : List.range 4=[0,1,2,3]:=rfl
@[simp] theorem IM_ : List.range 5=[0,1,2,3,4]:=rfl
@[simp] theorem IL_ : List.range 6=[0,1,2,3,4,5]:=rfl
end Go.Dm
end
