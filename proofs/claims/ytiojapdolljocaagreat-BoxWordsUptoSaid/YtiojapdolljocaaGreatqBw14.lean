/- Parts of a proof, laid together: EnN, EnO, EnP, EnS, EnT. -/
import Derived.Test.YtiojapdolljocaaGreatqBw8
import Derived.Test.YtiojapdolljocaaGreatqBw13
set_option linter.unusedSimpArgs false
set_option maxHeartbeats 8000000
set_option linter.unusedVariables false
set_option linter.unusedSectionVars false
section
namespace Go.Dm
variable [DMode]
def Bi_ (id r:Nat) (obj:DObj):DVal->DVal
 | .osl id' r'=>if id'=id/\r'=r then (match obj with | .row _ k bs es=> .sl k bs es | _=> .osl id' r')else .osl id' r'
 | .bx id' r' off=>if id'=id/\r'=r then (match obj with | .box cs=> .ref (cs.drop off) | _=> .bx id' r' off)else .bx id' r' off
 | .vw id' r' k i0 i n=>if id'=id/\r'=r then (match obj with | .row _ k' bs es=>if k'=k/\i+n<=es.length then .sl k bs ((es.drop i).take n)else .any | _=> .any)else .vw id' r' k i0 i n
 | .omp id' r'=>if id'=id/\r'=r then (match obj with | .map ks vs=> .mp ks vs | _=> .omp id' r')else .omp id' r'
 | d=>d
def Xp (id r:Nat) (obj:DObj):DVal->DVal
 | .fn f us cs=> .fn f us (cs.map (Bi_ id r obj))
 | d=>Bi_ id r obj d
def aO (id r:Nat) (obj:DObj):DVal->DVal
 | .agg cs=> .agg (cs.map (Xp id r obj))
 | d=>Xp id r obj d
def Ev_ (id r:Nat) (obj:DObj):DObj->DObj
 | .box cs=> .box (cs.map (Xp id r obj))
 | o=>o
def Xo (id r:Nat) (obj:DObj) (own:List Ent):List Ent:=own.map fun e=>⟨e.id,e.r,Ev_ id r obj e.obj⟩
def sR (f:DVal->DVal) (l:List (Nat×DVal)):List (Nat×DVal):=l.map fun p=>(p.1,f p.2)
def freezeS (s:DS) (id:Nat):DS:=match Aj s.own id with
 | some e=>⟨sR (aO id e.r e.obj) s.slots,Xo id e.r e.obj (CE s.own id)⟩
 | none=>s
def freezeL (s:DS):List Nat->DS
 | []=>s
 | id::ids=>freezeL (freezeS s id) ids
theorem Td (f:DVal->DVal) (hf:f .any= .any):∀(l:List (Nat×DVal)) (i:Nat),Bg (sR f l) i=f (Bg l i)
 | [],i=>by simp[sR,Bg,hf]
 | (j,d)::l,i=>by
  have:=Td f hf l i;simp only[sR,List.map_cons,Bg]at this |-
  split
  ·rfl
  ·exact this
@[simp] theorem Bg_ (id r:Nat) (obj:DObj) (l:List (Nat×DVal)) (i:Nat):Bg (sR (aO id r obj) l) i=aO id r obj (Bg l i):=Td _ rfl _ _
section
variable {B : Base} {s : DS} {a : Act} {w : World} {loc : Nat -> Loc}
theorem Ti (f:Ent->Ent) (hid:∀e,(f e).id=e.id):∀(own:List Ent) (id:Nat),Aj (own.map f) id=(Aj own id).map f
 | [],id=>rfl
 | e::t,id=>by
  simp only[List.map_cons,Aj,hid]
  split
  ·rfl
  ·exact Ti f hid t id
theorem QO (id r:Nat) (obj:DObj) (own:List Ent) (loc:Nat->Loc):Ab (Xo id r obj own) loc=Ab own loc:=by
 funext i k
 unfold Ab Xo;rw[Ti (fun e=>⟨e.id,e.r,Ev_ id r obj e.obj⟩) (fun _=>rfl)];cases Aj own i<;>rfl
theorem DZ (id r:Nat) (obj:DObj) (own:List Ent) (loc:Nat->Loc):Aa (Xo id r obj own) loc=Aa own loc:=by
 unfold Aa Xo
 induction own with
 | nil=>rfl
 | cons e t ih =>
  rw[List.map_cons,dJ0,dJ0,ih]
theorem Rel.freeze {id:Nat} {e:Ent} (R:Rel B s a w loc) (he:Aj s.own id=some e):Rel B ⟨sR (aO id e.r e.obj) s.slots,Xo id e.r e.obj (CE s.own id)⟩ a w loc:=by
 obtain⟨qU,hid⟩:=Ay he;have yY:∀x∈CE s.own id,x∈s.own:=fun x hx=>(Bw.1 hx).1
 have qF:∀b∈Aa (CE s.own id) loc,b∈Aa s.own loc:=by
  intro b hb;obtain⟨x,hx,h1⟩:=bW0.1 hb;exact bW0.2 ⟨x,yY x hx,h1⟩
 have qA:∀i r l,Ab (CE s.own id) loc i r=some l->Ab s.own loc i r=some l:=by
  intro i r l h;obtain⟨x,hx,rfl,rfl,rfl⟩:=Bn h;exact AG R.st.nd (yY x hx)
 have W:∀n,Weak (Ab s.own loc) (Ab (CE s.own id) loc) (Aa s.own loc++B.M0) (Aa (CE s.own id) loc++B.M0) w.heap w.heap n:=fun n =>
  ⟨fun id r l _ hl=>qA id r l hl,fun b o _ (_:Gh o=true) ho=>ho,fun b o hb (_:Gh o=true) _ vX=>hb (by
   rcases aC0.1 vX with h | h
   ·exact aH0 _ (qF b h)
   ·exact aJ0 _ h)⟩
 have yU:Ab s.own loc id e.r=some (loc id):=by rw[<-hid];exact AG R.st.nd qU
 have vV:∀b,b∈(loc e.id).blks->b∉Aa (CE s.own id) loc++B.M0:=by
  intro b hb vX
  rcases aC0.1 vX with h | h
  ·obtain⟨x,hx,qB,h1⟩:=Pb h;have:=Fz R.st.bl x hx e qU b h1 hb;subst this;exact qB hid
  ·exact R.st.ap b (AY qU hb) h
 have wO:=R.st.ok e qU
 have k1:∀d v,rd (Ab s.own loc) (Aa s.own loc++B.M0) w.heap d v->rd (Ab (CE s.own id) loc) (Aa (CE s.own id) loc++B.M0) w.heap (Bi_ id e.r e.obj d) v:=by
  intro d v h;have hw:=Ch (W _) d v (Nat.le_refl _) h;cases d<;>simp only[Bi_]<;>try exact hw
  ·split
   ·rename_i hc;obtain⟨rfl,rfl⟩:=hc
    cases qZ:e.obj with
    | row et k bs es=>exact hw
    | map ks vs=>exact hw
    | abs A=>exact hw
    | box cs =>
     rw[qZ]at wO;obtain⟨b,arr,ty,h1,h2,h3,h4⟩:=wO;simp only[rd]at h;obtain⟨b',qL,hv⟩:=h _ yU;rw[<-hid,h1]at qL;simp only[bF0,and_true]at qL;subst qL;simp only[rd];refine⟨b,_,arr,ty,(0,0),hv,vV b (by rw[h1];simp),h2,?_⟩;have:=fun n=>Fb n cs arr 0 (Fa (W _) cs arr 0 (Nat.le_refl _) h4)
     simpa using this _
   ·exact hw
  ·split
   ·rename_i hc;obtain⟨rfl,rfl⟩:=hc
    cases qZ:e.obj with
    | box cs=>exact hw
    | map ks vs=>exact hw
    | abs A=>exact hw
    | row et k bs es =>
     rw[qZ]at wO;obtain⟨wT,wO⟩:=wO;simp only[rd]at h;have hv:=h _ yU;rw[<-hid]at hv;simp only[rd]
     rcases wO with ⟨rfl,_,h2⟩ | ⟨b,arr,cap,h1,h2,h3,h4,h5,h6,h7⟩
     ·exact⟨none,0,by rw[hv,h2];rfl,by simp,by unfold maxLen;omega,by simp,.inl ⟨rfl,fun _=>rfl⟩⟩
     ·exact⟨_,cap,by rw[hv,h2],h4,h5,wT,.inr ⟨b,0,arr,et,(0,0),rfl,vV b (by rw[h1];simp),h3,Cd (W _) k es arr 0 (Nat.le_refl _) h7⟩⟩
   ·exact hw
  ·rename_i id' r' k0 bs0 i n
   split
   ·rename_i hc;obtain⟨rfl,rfl⟩:=hc
    cases qZ:e.obj with
    | box cs=>simp[rd]
    | map ks vs=>simp[rd]
    | abs A=>simp[rd]
    | row et k bs es =>
     simp only
     split
     ·rename_i hb;obtain⟨rfl,hb⟩:=hb;rw[qZ]at wO;obtain⟨wT,wO⟩:=wO;simp only[rd]at h;obtain⟨a,cap,rfl,g1,g2,g3,g4,_⟩:=h _ yU;have qY:((es.drop i).take n).length=n:=by simp;omega
      simp only[rd];refine⟨a,cap,by rw[qY],by omega,g2,by rw[qY];exact Nat.le_trans (aZ0 _ (by omega:n<=es.length)) wT,?_⟩
      by_cases h0:n=0
      ·subst h0;exact .inl ⟨by simp,g3⟩
      ·obtain⟨b,qS,rfl⟩:=g4 (by omega);rw[<-hid]at qS
       rcases wO with ⟨rfl,_⟩ | ⟨b',arr,cap',h1,h2,h3,h4,h5,h6,h7⟩
       ·simp at hb;omega
       ·rw[h1]at qS;simp only[bF0,and_true]at qS;subst qS;refine .inr ⟨b',i*k,arr,et,(0,0),rfl,vV b' (by rw[h1];simp),h3,FN _ _ _ _ fun q cs hq=> ?_⟩;rw[eK0]at hq
        split at hq
        ·rw[cQ0]at hq;have:=El k es arr 0 (i+q) cs (Cd (W _) k es arr 0 (Nat.le_refl _) h7) hq
         rwa[bQ0,bN0]at this
        ·simp at hq
     ·simp[rd]
   ·exact hw
  ·split
   ·rename_i hc;obtain⟨rfl,rfl⟩:=hc
    cases qZ:e.obj with
    | box cs=>exact hw
    | row et k bs es=>exact hw
    | abs A=>exact hw
    | map ks vs =>
     rw[qZ]at wO;obtain⟨b,es,clk,h1,h2,h3,h4,h5⟩:=wO;simp only[rd]at h;obtain⟨b',qL,hv⟩:=h _ yU;rw[<-hid,h1]at qL;simp only[bF0,and_true]at qL;subst qL;simp only[rd];exact⟨b,es,clk,hv,vV b (by rw[h1];simp),h2,h3,AL (W _) ks _ (Nat.le_refl _) h4,AL (W _) vs _ (Nat.le_refl _) h5⟩
   ·exact hw
 have kV:∀(f:DVal->DVal),(∀d v,rd (Ab s.own loc) (Aa s.own loc++B.M0) w.heap d v->rd (Ab (CE s.own id) loc) (Aa (CE s.own id) loc++B.M0) w.heap (f d) v) ->
   ∀ds vs,Aw (Ab s.own loc) (Aa s.own loc++B.M0) w.heap ds vs->Aw (Ab (CE s.own id) loc) (Aa (CE s.own id) loc++B.M0) w.heap (ds.map f) vs:=by
  intro f hf ds
  induction ds with
  | nil=>intro vs h;simpa[Aw]using h
  | cons d ds ih =>
   intro vs h;simp only[Aw]at h;obtain⟨v,r,rfl,h1,h2⟩:=h;simp only[List.map_cons,Aw];exact⟨v,r,rfl,hf d v h1,ih r h2⟩
 have k2:∀d v,rd (Ab s.own loc) (Aa s.own loc++B.M0) w.heap d v->rd (Ab (CE s.own id) loc) (Aa (CE s.own id) loc++B.M0) w.heap (Xp id e.r e.obj d) v:=by
  intro d v h;cases d<;>simp only[Xp]<;>try exact k1 _ v h
  rename_i f us cs;simp only[rd]at h |-;obtain⟨us',cs',h1,h2,h3⟩:=h;exact⟨us',cs',h1,AL (W _) us _ (Nat.le_refl _) h2,kV _ k1 cs _ h3⟩
 have k3:∀d v,rd (Ab s.own loc) (Aa s.own loc++B.M0) w.heap d v->rd (Ab (CE s.own id) loc) (Aa (CE s.own id) loc++B.M0) w.heap (aO id e.r e.obj d) v:=by
  intro d v h;cases d<;>simp only[aO]<;>try exact k2 _ v h
  rename_i cs;simp only[rd]at h |-;obtain⟨us,h1,h2⟩:=h;exact⟨us,h1,kV _ k2 cs _ h2⟩
 have kC:∀(ds:List DVal) (arr:Array Value) (o:Nat),Dv (Ab s.own loc) (Aa s.own loc++B.M0) w.heap ds arr o->Dv (Ab (CE s.own id) loc) (Aa (CE s.own id) loc++B.M0) w.heap (ds.map (Xp id e.r e.obj)) arr o:=by
  intro ds
  induction ds with
  | nil=>intro arr o _;simp[Dv]
  | cons d ds ih =>
   intro arr o h;simp only[Dv,List.map_cons]at h |-;obtain⟨⟨v,h1,yG,h2⟩,h3⟩:=h;exact⟨⟨v,h1,yG,k2 d v h2⟩,ih arr _ h3⟩
 refine⟨⟨?_,?_,?_,?_,?_⟩,R.upd,?_,?_,?_,R.nt,R.df.keep rfl (Upd.refl [] w) (by simp) (fun b hb=> .inl (by
  simp only[DZ]at hb
  rcases aC0.1 hb with h | h
  ·exact aH0 _ (qF b h)
  ·exact aJ0 _ h))⟩
 ·simp only[Xo,cA0];exact DY R.st.nd
 ·simp only[DZ];exact DM R.st.bl _ (DY R.st.nd) yY
 ·simp only[DZ];exact fun b hb=>R.st.ap b (qF b hb)
 ·simp only[DZ];intro b hb
  rcases aC0.1 hb with h | h
  ·exact R.st.lt b (aH0 _ (qF b h))
  ·exact R.st.lt b (aJ0 _ h)
 ·intro x hx;simp only[DZ,QO];obtain⟨y,hy,rfl⟩:=aQ0.1 hx;have hk:=R.st.ok y (yY y hy);simp only
  cases qZ:y.obj with
  | box cs =>
   rw[qZ]at hk;obtain⟨b,arr,ty,h1,h2,h3,h4⟩:=hk;exact⟨b,arr,ty,h1,h2,by simp[h3],kC cs arr 0 h4⟩
  | row et k bs es=>rw[qZ]at hk;exact Bd (W (EP (.row et k bs es))) (Nat.le_refl _) (fun _ _ _ h=>h) hk
  | map ks vs=>rw[qZ]at hk;exact Bd (W (EP (.map ks vs))) (Nat.le_refl _) (fun _ _ _ h=>h) hk
  | abs A=>rw[qZ]at hk;exact Bd (W (EP (.abs A))) (Nat.le_refl _) (fun _ _ _ h=>h) hk
 ·simp only[DZ];exact fun b hb=>R.new b (qF b hb)
 ·intro x hx hr;obtain⟨y,hy,rfl⟩:=aQ0.1 hx;exact R.ver y (yY y hy) hr
 ·intro i;simp only[DZ,QO,Bg_];exact k3 _ _ (R.sl i)
theorem Sub.refl (s:DS):Sub B s s:=fun _ _ loc R=>⟨loc,R⟩
theorem Sub.trans {s' s'':DS} (h:Sub B s s') (k:Sub B s' s''):Sub B s s'':=fun a w loc R =>
 let ⟨loc',R'⟩:=h a w loc R;k a w loc' R'
theorem Sub.freezeS (s:DS) (id:Nat):Sub B s (freezeS s id):=by
 intro a w loc R;unfold Dm.freezeS
 split
 ·rename_i e he;exact⟨loc,R.freeze he⟩
 ·exact⟨loc,R⟩
theorem Sub.freezeL : ∀(ids:List Nat) (s:DS),Sub B s (freezeL s ids)
 | [],s=>Sub.refl s
 | id::ids,s=>(Sub.freezeS s id).trans (Sub.freezeL ids _)
theorem Sub.rel {s':DS} {Q:Exit->DS->Prop} {e:Exit} (h:Sub B s s') (hq:Q e s') {a:Act} {w:World} {loc:Nat->Loc} (R:Rel B s a w loc):QQ B Q e a w :=
 let ⟨loc',R'⟩:=h a w loc R;⟨s',loc',hq,R'⟩
variable {P : Program}
structure RAnn where
 id:Nat
 fz:List Nat
 l1:List Nat
 l2:List Nat
def kQ (Q:Exit->DS->Prop) (fz:List Nat):Cont:=⟨fun s'=>Q .normal (freezeL s' fz)⟩
theorem Gv_ (Q:Exit->DS->Prop) (fz:List Nat) (s':DS):(kQ Q fz).f s'=Q .normal (freezeL s' fz):=id rfl
def Hv : List RAnn->Nat->RAnn
 | [],id=>⟨id,[],[],[]⟩
 | a::r,id=>if a.id=id then a else Hv r id
structure Ann where
 ow:List Nat
 rs:List RAnn
theorem BL (A:Ann) {id:Nat} {ops:Array Oper} {draw:Bool} {Q:Exit->DS->Prop} (hm:P.follows .mixedOrders=true) (qO:(!draw||DT A.ow (Hv A.rs id).l1 (Hv A.rs id).l2 ops)=true)
  (h:Ce P B.nt A.ow (Hv A.rs id).l1 (Hv A.rs id).l2 ops ops.toList 0 (kQ Q (Hv A.rs id).fz) s):DW P B (.region id ops draw) Q s:=by
 have fin:∀{c:Code},DW P B c (fun e s'=>match e with | .normal=>Q .normal (freezeL s' (Hv A.rs id).fz) | e=>Q e s') s->DW P B c Q s:=by
  intro c h a w loc R;refine wpIn_mono (h a w loc R) ?_;rintro e a' w' ⟨s',loc',hq,R'⟩
  cases e<;>first
   | exact(Sub.freezeL _ s').rel hq R'
   | exact⟨s',loc',hq,R'⟩
 cases draw with
 | false=>exact fin (OE _ _ _ h)
 | true=>exact fin (OG _ _ _ hm (by simpa using qO) h)
end
def pH (P:Program) (fn:Func) (ids:List Nat) (d:DVal):Exit->DS->Prop
 | .normal,s=>match Oi P (freezeL s ids) fn.results.toList with | some d0=>wk d0 d | none=>False
 | .ret,s=>match Oi P (freezeL s ids) fn.results.toList with | some d0=>wk d0 d | none=>False
 | _,_=>False
theorem Ag.wk {P:Program} {f:FuncId} {args:List DVal} {d d':DVal} (h:Ag P f args d) (hw:wk d d') (hd:mx d'=0):Ag P f args d' :=
 ⟨h.1,hd,fun cur M w vs hM hr=>(h.2.2 cur M w vs hM hr).mono fun e w' ⟨v,h1,h2,h3⟩=>⟨v,h1,h2,iC hw h3⟩⟩
theorem MJ {cur:EF} {M:List Nat} {h:Array Obj}:∀(a b:List DVal) (vs:List Value),Aw cur M h (a++b) vs->∃us ws,vs=us++ws/\Aw cur M h a us/\Aw cur M h b ws
 | [],b,vs,hr=>⟨[],vs,rfl,by simp[Aw],hr⟩
 | d::a,b,vs,hr=>by
  simp only[List.cons_append,Aw]at hr;obtain⟨v,r,rfl,h1,h2⟩:=hr;obtain⟨us,ws,rfl,h3,h4⟩:=MJ a b r h2;exact⟨v::us,ws,rfl,by simp only[Aw];exact⟨v,us,rfl,h1,h3⟩,h4⟩
theorem Zb {P:Program} {f:FuncId} (pre:List DVal) {post:List DVal} {k bs:Nat} {d:DVal} (h1:Ag P f (pre++ .nilsl::post) d) (h2:Ag P f (pre++ .esl::post) d):Ag P f (pre++ .sl k bs []::post) d:=by
 refine⟨h1.1,h1.2.1,fun cur M w vs hM hr=> ?_⟩;obtain⟨us,ws,wI,h3,h4⟩:=MJ _ _ _ hr;simp only[Aw]at h4;obtain⟨v,r,rfl,h5,h6⟩:=h4;simp only[rd]at h5;obtain⟨a,cap,rfl,_,hc,_,h7⟩:=h5
 cases a with
 | none =>
  have:cap=0:=by
   rcases h7 with h7 | ⟨b,off,arr,ty,fz,h8,_⟩
   ·exact h7.2 rfl
   ·simp at h8
  subst this;refine h1.2.2 cur M w vs hM ?_;rw[wI];exact BV _ _ _ _ h3 (by simp only[Aw];exact⟨_,r,rfl,by simp[rd],h6⟩)
 | some ad =>
  refine h2.2.2 cur M w vs hM ?_;rw[wI];exact BV _ _ _ _ h3 (by simp only[Aw];exact⟨_,r,rfl,by simp only[rd];exact⟨ad,cap,rfl,hc⟩,h6⟩)
theorem Vy (ids:List Nat) {P:Program} {f:FuncId} {fn:Func} {c:Code} {args:List DVal} {d:DVal} (hf:P.funcs[f]? =some fn) (hb:fn.body=some c) (vK:Enters P f) (qX:args.length<=fn.ntmps)
  (hd:mx d=0) (h:Iy args->∀B:Base,B.nt=fn.ntmps/\B.ro=none->DW P B c (pH P fn ids d) ⟨Ap args 0,[]⟩):Ag P f args d:=by
 refine Vw hf hb vK qX hd fun qJ B hB=> ?_
 intro a w loc R;refine wpIn_mono (h qJ B hB a w loc R) ?_;rintro e a' w' ⟨s',loc',hq,R'⟩
 have key:(match Oi P (freezeL s' ids) fn.results.toList with | some d0=>wk d0 d | none=>False)->∃s'' loc'',(∃d0,Oi P s'' fn.results.toList=some d0/\∀cur M h v,rd cur M h d0 v->rd cur M h d v)/\Rel B s'' a' w' loc'':=by
  intro hq;obtain⟨loc'',R''⟩:=Sub.freezeL ids s' a' w' loc' R'
  split at hq
  ·rename_i d0 gJ;exact⟨_,loc'',⟨d0,gJ,fun cur M h v hr=>iC hq hr⟩,R''⟩
  ·exact hq.elim
 cases e<;>simp only[pH]at hq<;>first
  | (obtain⟨s'',loc'',h1,h2⟩:=key hq;exact⟨s'',loc'',h1,h2⟩)
  | exact hq.elim
def YZ (P:Program) (fn:Func) (ids:List Nat) (ρ:List (Nat×Nat×Nat)) (d:DVal) (own':List Ent):Exit->DS->Prop
 | .normal,s=>match Oi P (freezeL s ids) fn.results.toList with
  | some d0=>Us d0/\wk (GC (BM (freezeL s ids).own ρ) d0) d/\KL (freezeL s ids).own (BM (freezeL s ids).own ρ) ρ=some own'/\LG (freezeL s ids).own ρ
  | none=>False
 | .ret,s=>match Oi P (freezeL s ids) fn.results.toList with
  | some d0=>Us d0/\wk (GC (BM (freezeL s ids).own ρ) d0) d/\KL (freezeL s ids).own (BM (freezeL s ids).own ρ) ρ=some own'/\LG (freezeL s ids).own ρ
  | none=>False
 | _,_=>False
section
variable {B : Base} {s : DS} {a : Act} {w : World} {loc : Nat -> Loc}
theorem Wi (a:Act) (i:Nat) (hi:i<a.tmps.size):a.put (some i) (a.tmps.getD i Go.undef)=a:=by
 obtain⟨tmps,defers⟩:=a;unfold Act.put;simp only
 congr 1
 apply Array.ext
 ·simp
 ·intro j h1 h2;rw[Array.getElem_setIfInBounds h2]
  split
  ·rename_i h;subst h;simp[aN0,bX0 h2]
  ·rfl
theorem Rel.adopt {id r et k bs:Nat} {dst:Option Nat} {v:Value} {d:DVal} (R:Rel B s a w loc) (hr:Cb B s<=r) (qC:∀i,dst=some i->i<B.nt)
  (hd:rd (Ab (upE s.own id r (.row et k bs [])) (CH loc id ⟨[],.slice none 0 0⟩)) (Aa (upE s.own id r (.row et k bs [])) (CH loc id ⟨[],.slice none 0 0⟩)++B.M0) w.heap d v) :
  Rel B ⟨Bv s.slots dst d,upE s.own id r (.row et k bs [])⟩ (a.put dst v) w (CH loc id ⟨[],.slice none 0 0⟩) :=
 R.up (L:=⟨[],.slice none 0 0⟩) (n:=r) hr qC (Upd.refl _ _) (fun b hb _=>rfl) (fun b hb=>by simp at hb) (.inl (Nat.le_refl _)) ⟨by simp,.inl ⟨rfl,rfl,rfl⟩⟩ hd
theorem Sub.adoptSlot (i id et k bs:Nat) (h:Bg s.slots i= .nilsl) (hi:i<B.nt):Sub B s ⟨(i,.osl id (Cb B s))::s.slots,upE s.own id (Cb B s) (.row et k bs [])⟩:=by
 intro a w loc R;have hs:=R.sl i;rw[h]at hs;simp only[rd]at hs
 have:=R.adopt (id:=id) (et:=et) (k:=k) (bs:=bs) (dst:=some i) (v:=a.tmps.getD i Go.undef) (d:= .osl id (Cb B s)) (Nat.le_refl _) (fun j hj=>by simp only[aA0]at hj;omega) (by
  simp only[rd];intro l hl;rw[Ds]at hl;simp only[aA0]at hl
  rw[<-hl,hs])
 rw[Wi a i (by rw[R.nt];exact hi)]at this;exact⟨_,this⟩
theorem Rel.reBox {id:Nat} {e:Ent} {cs cs':List DVal} (R:Rel B s a w loc) (he:Aj s.own id=some e) (qZ:e.obj= .box cs) (qY:cs'.length=cs.length)
  (h:∀arr,Dv (cu s loc) (hm s loc B.M0) w.heap cs arr 0->Dv (cu s loc) (hm s loc B.M0) w.heap cs' arr 0):∃loc',Rel B ⟨s.slots,upE s.own id e.r (.box cs')⟩ a w loc':=by
 obtain⟨qU,hid⟩:=Ay he;have qA:Ab s.own loc id e.r=some (loc id):=by rw[<-hid];exact AG R.st.nd qU
 have hk:=R.st.ok e qU;rw[qZ]at hk;obtain⟨b,arr,ty,h1,h2,h3,h4⟩:=hk;rw[hid]at h1
 have hL:∀b0,b0∈(loc id).blks->b0<w.heap.size/\((∃e∈s.own,e.id=id/\b0∈(loc id).blks)\/w.heap.size<=b0):=by
  intro b0 qH;refine⟨?_,.inl ⟨e,qU,hid,qH⟩⟩;rw[h1]at qH;simp only[aG0]at qH;subst qH;exact(aD0.1 h2).1
 have fA:CH loc id (loc id)=loc:=by
  funext j
  unfold CH
  split
  ·rename_i hj;rw[hj]
  ·rfl
 have W:Weak (cu s loc) (Ab (upE s.own id e.r (.box cs')) (CH loc id (loc id))) (hm s loc B.M0) (Aa (upE s.own id e.r (.box cs')) (CH loc id (loc id))++B.M0) w.heap w.heap (max (Cb B s) (AJ cs')):=by
  refine EK (Upd.refl _ w) ?_ ?_
  ·intro b hb;obtain⟨x,hx,yG⟩:=bW0.1 hb;rw[fA]at yG
   rcases aL0.1 hx with rfl | hx
   ·exact .inl (AY qU (by rw[hid];exact yG))
   ·exact .inl (AY (Bw.1 hx).1 yG)
  ·intro x hx _;rw[fA]
   rcases aL0.1 hx with rfl | hx
   ·exact qA
   ·exact AG R.st.nd (Bw.1 hx).1
 have R':=R.up (hLn:=by rw[h1];simp) (w':=w) (id:=id) (r:=e.r) (obj:= .box cs') (L:=loc id) (v:=Go.undef) (d:= .any) (dst:=none) (n:=Cb B s) (Nat.le_refl _) (fun i hi=>by simp at hi) (Upd.refl _ _) (fun _ _ _=>rfl) hL (.inr qA)
  ⟨b,arr,ty,h1,h2,by rw[qY];exact h3,Fa W cs' arr 0 (by omega) (h arr h4)⟩ (by simp[rd])
 exact⟨_,R'⟩
theorem Uf {cur:EF} {M:List Nat} {H:Array Obj} {d':DVal}:∀(cs:List DVal) (arr:Array Value) (o c:Nat),(∀v,rd cur M H (cs.getD c .any) v->rd cur M H d' v)->Dv cur M H cs arr o->Dv cur M H (cs.set c d') arr o
 | [],_,_,_,_,h=>by simpa using h
 | d::cs,arr,o,0,hd,h=>by
  simp only[Dv,eJ0]at h |-;obtain⟨⟨v,h1,h2,h3⟩,h4⟩:=h;exact⟨⟨v,h1,h2,hd v (by simpa using h3)⟩,h4⟩
 | d::cs,arr,o,c+1,hd,h=>by
  simp only[Dv,List.set_cons_succ]at h |-;exact⟨h.1,Uf cs arr (o+1) c (by simpa using hd) h.2⟩
theorem Sub.adoptCell (bid c id et k bs:Nat) {rb:Nat} {cs:List DVal} (h:Aj s.own bid=some ⟨bid,rb,.box cs⟩) (hc:cs.getD c .any= .nilsl) (qB:bid≠id) :
  Sub B s ⟨s.slots,upE (upE s.own id (Cb B s) (.row et k bs [])) bid rb (.box (cs.set c (.osl id (Cb B s))))⟩:=by
 intro a w loc R;have R1:=R.adopt (id:=id) (et:=et) (k:=k) (bs:=bs) (dst:=none) (v:=Go.undef) (d:= .any) (Nat.le_refl _) (fun i hi=>by simp at hi) (by simp[rd])
 have hf:Aj (upE s.own id (Cb B s) (.row et k bs [])) bid=some ⟨bid,rb,.box cs⟩:=by
  have hdel:∀own:List Ent,Aj (CE own id) bid=Aj own bid:=by
   intro own
   induction own with
   | nil=>rfl
   | cons x t ih =>
    simp only[CE,Aj]
    split
    ·rename_i hx;rw[ih,if_neg (by omega)]
    ·simp only[Aj];rw[ih]
  simp only[upE,Aj];rw[if_neg (fun h=>qB h.symm),hdel];exact h
 exact Rel.reBox R1 hf rfl (by simp) (fun arr hr=>Uf cs arr 0 c (by
  intro v hv;rw[hc]at hv;simp only[rd]at hv |-;intro l hl;have wY:Ab (upE s.own id (Cb B s) (.row et k bs [])) (CH loc id ⟨[],.slice none 0 0⟩) id (Cb B s)=some l:=hl;rw[Ds]at wY;simp only[aA0]at wY
  rw[<-wY,hv]) hr)
end
theorem Ky {own:List Ent} {loc:Nat->Loc} (hn:(Aa own loc).Nodup):∀l:List Ent,(l.map (·.id)).Nodup->(∀e∈l,∃e0∈own,e0.id=e.id)->(Aa l loc).Nodup
 | [],_,_=>by simp[Aa]
 | e::l,hd,hm=>by
  simp only[List.map_cons,cG0]at hd;rw[DN,bS0];obtain⟨e0,vA,kP⟩:=hm e aK0;refine⟨by rw[<-kP];exact Dt hn e0 vA,Ky hn l hd.2 (fun x hx=>hm x (aI0 _ hx)),?_⟩;intro b hb b' qL gS;subst gS;obtain⟨e2,vU,wV⟩:=bW0.1 qL;obtain⟨e3,he3,cM⟩:=hm e2 (aI0 _ vU);have:=Fz hn e0 vA e3 he3 b (by rw[kP];exact hb) (by rw[cM];exact wV);subst this;exact hd.1 (aQ0.2 ⟨e2,vU,by rw[<-cM,kP]⟩)
def Io (own:List Ent):List (Nat×Nat×Nat):=own.map fun e=>(e.id,e.id,e.r)
def Py (φ:Nat->Nat->Option (Nat×Nat)) (Zi:Bool) (d d':DVal):Prop:=match d' with
 | .any=>True
 | d'=>if Zi then d=d' else Us d/\GC φ d=d'
def Lu (φ:Nat->Nat->Option (Nat×Nat)) (Zi:Bool) (l:List (Nat×DVal)):List (Nat×DVal)->Prop
 | []=>True
 | p::ps=>Py φ Zi (Bg l p.1) p.2/\Lu φ Zi l ps
theorem SZ {own:List Ent} {i j v:Nat} (h:(i,j,v)∈Io own):i=j/\∃e∈own,e.id=j/\e.r=v:=by
 obtain⟨e,he,h1⟩:=aQ0.1 h;simp only[aR0]at h1;obtain⟨rfl,rfl,rfl⟩:=h1;exact⟨rfl,e,he,rfl,rfl⟩
theorem Sub.lit {B:Base} {s s':DS} (h:Lu (BM s.own (Io s'.own)) s'.own.isEmpty s.slots s'.slots/\KL s.own (BM s.own (Io s'.own)) (Io s'.own)=some s'.own/\LG s.own (Io s'.own)/\(s'.own.map (·.id)).Nodup):Sub B s s':=by
 obtain⟨hs,ho,hk,nd⟩:=h;intro a w loc R;refine⟨loc,?_⟩
 have bH:∀e'∈s'.own,∃e,Aj s.own e'.id=some e/\Zg e.obj/\e'.obj=Iq (BM s.own (Io s'.own)) e.obj/\(e'.r=1\/(e'.r=0/\e.r=0)):=by
  intro e' vG;obtain⟨i,j,v,e,h1,h2,h3⟩:=(LH ho).1 e' vG;obtain⟨zO,_⟩:=SZ h1;subst zO;obtain⟨e2,g1,g2,g3⟩:=JJ hk i i v h1;rw[h2]at g1;simp only[aA0]at g1;subst g1;have e1:e'.id=i:=by rw[h3]
  have e3:e'.r=v:=by rw[h3]
  have e4:e'.obj=Iq (BM s.own (Io s'.own)) e.obj:=by rw[h3]
  refine⟨e,by rw[e1];exact h2,g2,e4,?_⟩;rw[e3]
  rcases g3 with g3 | g3
  ·exact .inl g3
  ·exact .inr ⟨g3.1,g3.2.2⟩
 have yR:∀e'∈s'.own,∃e0∈s.own,e0.id=e'.id:=by
  intro e' vG;obtain⟨e,h1,_⟩:=bH e' vG;obtain⟨h2,h3⟩:=Ay h1;exact⟨e,h2,h3⟩
 have qF:∀b∈Aa s'.own loc,b∈Aa s.own loc:=by
  intro b hb;obtain⟨e',vG,h1⟩:=bW0.1 hb;obtain⟨e0,h2,h3⟩:=yR e' vG;exact AY h2 (by rw[h3];exact h1)
 have hM:∀b∈Aa s'.own loc++B.M0,b∈Aa s.own loc++B.M0:=by
  intro b hb
  rcases aC0.1 hb with h | h
  ·exact aH0 _ (qF b h)
  ·exact aJ0 _ h
 have W:Weak (cu s loc) (Ab s'.own loc) (hm s loc B.M0) (Aa s'.own loc++B.M0) w.heap w.heap 0 :=
  ⟨fun id r l hr=>by omega,fun b o _ (_:Gh o=true) ho=>ho,fun b o hb (_:Gh o=true) _ vX=>hb (hM b vX)⟩
 have L:Gf (cu s loc) (Ab s'.own loc) (BM s.own (Io s'.own)):=by
  intro i r p l hp hl;obtain⟨e,h1,h2,h3⟩:=HK hp;obtain⟨zO,_⟩:=SZ h1;obtain⟨e',vG,g1,g2,g3⟩:=Bn hl;subst g3
  show Ab s.own loc i r=_
  unfold Ab;rw[h2];simp[h3,zO]
 refine⟨⟨nd,Ky R.st.bl _ nd yR,fun b hb=>R.st.ap b (qF b hb),fun b hb=>R.st.lt b (hM b hb),fun e' vG=> ?_⟩,R.upd,fun b hb=>R.new b (qF b hb),fun e' vG hr=> ?_,?_,R.nt,R.df.keep rfl (Upd.refl [] w) (by simp) (fun b hb=> .inl (hM b hb))⟩
 ·obtain⟨e,h1,h2,h3,_⟩:=bH e' vG;obtain⟨qU,hid⟩:=Ay h1;rw[h3];exact JW W L h2 (by rw[hid]) (fun _ _ _ h=>h) (R.st.ok e qU)
 ·obtain⟨e,h1,_,_,h4⟩:=bH e' vG;obtain⟨qU,hid⟩:=Ay h1;have hN:=B.hN
  rcases h4 with h4 | ⟨h4,h5⟩
  ·omega
  ·have:=R.ver e qU (by omega);rw[hid,h5]at this;rw[h4];exact this
 ·intro i
  have qP:∀(l:List (Nat×DVal)),Lu (BM s.own (Io s'.own)) s'.own.isEmpty s.slots l->Py (BM s.own (Io s'.own)) s'.own.isEmpty (Bg s.slots i) (Bg l i):=by
   intro l
   induction l with
   | nil=>intro _;simp[Py,Bg]
   | cons p l ih =>
    intro hp;simp only[Lu]at hp;simp only[Bg]
    split
    ·rename_i h;rw[h];exact hp.1
    ·exact ih hp.2
  have h1:=qP s'.slots hs;have hr:=R.sl i
  generalize Bg s'.slots i=d' at h1
  by_cases ha:d'= .any
  ·subst ha;simp[rd]
  ·have h2:if s'.own.isEmpty=true then Bg s.slots i=d' else Us (Bg s.slots i)/\GC (BM s.own (Io s'.own)) (Bg s.slots i)=d':=by
    unfold Py at h1
    split at h1
    ·exact absurd rfl ha
    ·exact h1
   split at h2
   ·rename_i he;rw[h2]at hr;have vG:s'.own=[]:=by simpa using he
    exact Ch (n:=mx d') ⟨fun id r l _ hl=>by rw[vG]at hl;simp[Ab,Aj]at hl,W.b,W.m⟩ _ _ (Nat.le_refl _) hr
   ·rw[<-h2.2];exact OO W L h2.1 hr
def eP (s:DS) (n bid c id et k bs:Nat):DS:=match Aj s.own bid with
 | some e=>match e.obj with
  | .box cs=>⟨s.slots,upE (upE s.own id n (.row et k bs [])) bid e.r (.box (cs.set c (.osl id n)))⟩
  | _=>s
 | none=>s
def Vm (s:DS) (bid c:Nat):Prop:=match Aj s.own bid with
 | some e=>match e.obj with
  | .box cs=>cs.getD c .any= .nilsl
  | _=>True
 | none=>True
theorem Nv {P:Program} {B:Base} {Q:Exit->DS->Prop} {s:DS} {x:Code} (bid c id et k bs:Nat) (h:Vm s bid c/\bid≠id) (hk:∀n,DW P B x Q (eP s n bid c id et k bs)):DW P B x Q s:=by
 have hn:=hk (Cb B s);unfold Vm at h;unfold eP at hn
 cases hf:Aj s.own bid with
 | none=>rw[hf]at hn;exact hn
 | some e =>
  rw[hf]at hn h;obtain⟨hm,hid⟩:=Ay hf
  cases qZ:e.obj with
  | box cs =>
   simp only[qZ]at hn h;refine GL (Sub.adoptCell bid c id et k bs (rb:=e.r) (cs:=cs) ?_ h.1 h.2) hn;rw[hf,<-hid,<-qZ]
  | row _ _ _ _=>simp only[qZ]at hn;exact hn
  | map _ _=>simp only[qZ]at hn;exact hn
  | abs _=>simp only[qZ]at hn;exact hn
theorem CD {P:Program} {B:Base} {Q:Exit->DS->Prop} {s:DS} {x:Code} (i id et k bs:Nat) (h:Bg s.slots i= .nilsl/\i<B.nt) (hk:∀n,DW P B x Q ⟨(i,.osl id n)::s.slots,upE s.own id n (.row et k bs [])⟩):DW P B x Q s :=
 GL (Sub.adoptSlot i id et k bs h.1 h.2) (hk (Cb B s))
theorem Sub.truncSlot {B:Base} {s:DS} {i id r et k bs n:Nat} {es:List (List DVal)} {e:Ent} (h:Bg s.slots i= .vw id r k bs 0 n) (he:Aj s.own id=some e) (qT:e.r=r) (qZ:e.obj= .row et k bs es) (hn:n<=es.length) (hi:i<B.nt) :
  Sub B s ⟨(i,.osl id (Cb B s))::s.slots,upE s.own id (Cb B s) (.row et k bs (es.take n))⟩:=by
 intro a w loc R;have hs:=R.sl i;rw[h]at hs;obtain⟨qU,hid⟩:=Ay he;obtain⟨qA,a0,cap0,hh,g1,g2,g3⟩:=LA R.st he qT qZ;simp only[rd]at hs;obtain⟨x,cap,hv,q1,q2,q3,q4,q5⟩:=hs _ qA;obtain⟨n1,hh1⟩:=q5 trivial;rw[hh]at hh1;simp only[Value.slice.injEq]at hh1;obtain⟨rfl,_,rfl⟩:=hh1;have qY:(es.take n).length=n:=by simp;omega
 have hk:=R.st.ok e qU;rw[qZ,hid]at hk;obtain⟨wT,hk⟩:=hk
 have hL:∀b0,b0∈(⟨(loc id).blks,a.tmps.getD i Go.undef⟩:Loc).blks->b0<w.heap.size/\((∃e∈s.own,e.id=id/\b0∈(loc id).blks)\/w.heap.size<=b0):=fun b0 qH =>
  ⟨R.st.lt b0 (aH0 _ (AY qU (by rw[hid];exact qH))),.inl ⟨e,qU,hid,qH⟩⟩
 have W:=R.weakUp (obj:= .row et k bs (es.take n)) (L:=⟨(loc id).blks,a.tmps.getD i Go.undef⟩) (Nat.le_refl (Cb B s)) (Upd.refl _ w) hL (.inl (Nat.le_refl _));have wS:=(Be qU).2;rw[qZ]at wS;simp only[EP]at wS
 have:=R.up (id:=id) (r:=Cb B s) (obj:= .row et k bs (es.take n)) (L:=⟨(loc id).blks,a.tmps.getD i Go.undef⟩) (v:=a.tmps.getD i Go.undef) (d:= .osl id (Cb B s)) (dst:=some i) (Nat.le_refl _) (fun j hj=>by simp only[aA0]at hj;omega) (Upd.refl _ _) (fun _ _ _=>rfl) hL (.inl (Nat.le_refl _))
  (by
   refine⟨by rw[qY];exact Nat.le_trans (aZ0 _ hn) wT,?_⟩
   rcases hk with ⟨rfl,h1,h2⟩ | ⟨b,arr,cap,h1,h2,h3,h4,h5,h6,h7⟩
   ·rw[hh]at h2;simp only[Value.slice.injEq]at h2;obtain⟨rfl,_,rfl⟩:=h2;refine .inl ⟨by simp,h1,?_⟩;rw[hv];simp only[List.length_nil,Nat.le_zero]at hn;rw[hn]
   ·rw[hh]at h2;simp only[Value.slice.injEq]at h2;obtain⟨rfl,_,rfl⟩:=h2;refine .inr ⟨b,arr,_,h1,by rw[qY];exact hv,h3,by omega,h5,h6,?_⟩;refine FN _ _ _ _ fun q cs hq=> ?_
    rw[eK0]at hq
    split at hq
    ·refine El k es arr 0 q cs (Cd W k es arr 0 ?_ h7) hq;unfold Cb;omega
    ·simp at hq)
  (by
   simp only[rd];intro l hl;rw[Ds]at hl;simp only[aA0]at hl
   rw[<-hl])
  (by have:=Dt R.st.bl e qU;rwa[hid]at this)
 rw[Wi a i (by rw[R.nt];exact hi)]at this;exact⟨_,this⟩
def TK (s:DS) (i:Nat):Prop:=match Bg s.slots i with
 | .vw id r k bs 0 n=>match Aj s.own id with
  | some e=>match e.obj with
   | .row _ k' bs' es=>e.r=r/\k'=k/\bs'=bs/\n<=es.length
   | _=>False
  | none=>False
 | _=>False
def Zm (s:DS) (i m:Nat):DS:=match Bg s.slots i with
 | .vw id _ _ _ _ n=>match Aj s.own id with
  | some e=>match e.obj with
   | .row et k bs es=>⟨(i,.osl id m)::s.slots,upE s.own id m (.row et k bs (es.take n))⟩
   | _=>s
  | none=>s
 | _=>s
theorem TF {P:Program} {B:Base} {Q:Exit->DS->Prop} {s:DS} {x:Code} (i:Nat) (h:TK s i/\i<B.nt) (hk:∀m,DW P B x Q (Zm s i m)):DW P B x Q s:=by
 have h1:=h.1;have hk:=hk (Cb B s);unfold TK at h1;unfold Zm at hk
 split at h1
 ·rename_i id r k bs n hg;rw[hg]at hk;simp only at hk
  split at h1
  ·rename_i e he;rw[he]at hk;simp only at hk
   split at h1
   ·rename_i et k' bs' es qZ;rw[qZ]at hk;obtain⟨qT,rfl,rfl,hn⟩:=h1;exact GL (Sub.truncSlot hg he qT qZ hn h.2) hk
   ·exact h1.elim
  ·exact h1.elim
 ·exact h1.elim
attribute [simp] Gx_ Gw_ BK_ xH isE wk1 wkL wk FT CQ Eg Hv BX Qr Op.operands Call.operands IA xA Fs IU AW IQ HJ EB_ EA_ Bv Bg ev ofV BZ Fm Bx Sl Mn DA AZ Aj Fc_ CE callee BD gB gOK Cc FW EG_ eE Gl AB Dl FZ GA Cs Fe DK Ap Bp Nj Cu US Cm_ eS uX Oi ZC PH Iy Ef
@[simp] theorem GQ_ (n:Int):Kx .i64 n↔ -9223372036854775808<=n/\n<=9223372036854775807:=Iff.rfl
theorem Ai {n:Int} (h1: -9223372036854775808<=n) (h2:n<=9223372036854775807):IntKind.i64.wrap n=n:=by
 simp only[IntKind.wrap,IntKind.bits,IntKind.signed];simp
 split<;>omega
@[simp] theorem Gz_ (n:Int):Kx .u64 n↔0<=n/\n<=18446744073709551615:=Iff.rfl
@[simp] theorem GP_ (n:Int):Kx .u8 n↔0<=n/\n<=255:=Iff.rfl
@[simp] theorem GA_ (n:Int):Kx .u32 n↔0<=n/\n<=4294967295:=Iff.rfl
@[simp] theorem GB_ (n:Int):Kx .i32 n↔ -2147483648<=n/\n<=2147483647:=Iff.rfl
def isB : DVal->Bool
 | .bool _=>true
 | _=>false
def BH_ : DVal->Bool
 | .bool b=>b
 | _=>false
attribute [simp] isB BH_
theorem AX {P:Program} {B:Base} {Q:Exit->DS->Prop} {s:DS} {c:Operand} {x y:Code} (h:isB (ev s.slots c)=true) (ht:BH_ (ev s.slots c)=true->DW P B x Q s) (hf:BH_ (ev s.slots c)=false->DW P B y Q s):DW P B (.cond c x y) Q s:=by
 cases he:ev s.slots c<;>rw[he]at h<;>simp at h;rename_i b;rw[he]at ht hf;exact DK_ he (fun hb=>ht hb) (fun hb=>hf hb)
attribute [simp] Gv_ Dr_ uB aX Bm It LZ strOf ER XE QK LY XF iQ Ey_ BA_ Uk GJ IJ upE KF CR Fo HL Pr Pq HD aH freezeL freezeS Bi_ Xp aO Ev_ Xo pH Kb okR Wr LC ok2 Oj Ua ok3 Wu GC Us Iq Zg ZR IM BM KL LG YZ Io Py Lu eP Vm Zm TK
attribute [simp] mx AJ Bq Bt HN
@[simp] theorem EQ_ {l:List (List DVal)} {k:Nat} (h:Bq l=0):Bq (l.take k)=0:=Nat.le_zero.1 (h▸FP k l)
@[simp] theorem ER_ {l:List (List DVal)} {k:Nat} (h:Bq l=0):Bq (l.drop k)=0:=Nat.le_zero.1 (h▸FQ k l)
@[simp] theorem Gk_ : List.range 3=[0,1,2]:=rfl
@[simp] theorem Gj_ : List.range 4=[0,1,2,3]:=rfl
@[simp] theorem Gi_ : List.range 5=[0,1,2,3,4]:=rfl
@[simp] theorem Gh_ : List.range 6=[0,1,2,3,4,5]:=rfl
end Go.Dm
end
