/- Parts of a proof, laid together: EnN, EnO, EnP, EnS, EnT. -/
import Derived.Test.YtiojapdolljocaaGreatqMx8
import Derived.Test.YtiojapdolljocaaGreatqMx13
set_option linter.unusedSimpArgs false
set_option maxHeartbeats 8000000
set_option linter.unusedVariables false
set_option linter.unusedSectionVars false
section
namespace Go.Dm
variable [DMode]
def Du_ (id r:Nat) (obj:DObj):DVal->DVal
 | .osl id' r'=>if id'=id/\r'=r then (match obj with | .row _ k bs es=> .sl k bs es | _=> .osl id' r')else .osl id' r'
 | .bx id' r' off=>if id'=id/\r'=r then (match obj with | .box cs=> .ref (cs.drop off) | _=> .bx id' r' off)else .bx id' r' off
 | .vw id' r' k i0 i n=>if id'=id/\r'=r then (match obj with | .row _ k' bs es=>if k'=k/\i+n<=es.length then .sl k bs ((es.drop i).take n)else .any | _=> .any)else .vw id' r' k i0 i n
 | .omp id' r'=>if id'=id/\r'=r then (match obj with | .map ks vs=> .mp ks vs | _=> .omp id' r')else .omp id' r'
 | d=>d
def Yb (id r:Nat) (obj:DObj):DVal->DVal
 | .fn f us cs=> .fn f us (cs.map (Du_ id r obj))
 | d=>Du_ id r obj d
def iW (id r:Nat) (obj:DObj):DVal->DVal
 | .agg cs=> .agg (cs.map (Yb id r obj))
 | d=>Yb id r obj d
def GO_ (id r:Nat) (obj:DObj):DObj->DObj
 | .box cs=> .box (cs.map (Yb id r obj))
 | o=>o
def Ya (id r:Nat) (obj:DObj) (own:List Ent):List Ent:=own.map fun e=>⟨e.id,e.r,GO_ id r obj e.obj⟩
def Az_ (f:DVal->DVal) (l:List (Nat×DVal)):List (Nat×DVal):=l.map fun p=>(p.1,f p.2)
def freezeS (s:DS) (id:Nat):DS:=match An s.own id with
 | some e=>⟨Az_ (iW id e.r e.obj) s.slots,Ya id e.r e.obj (CL s.own id)⟩
 | none=>s
def freezeL (s:DS):List Nat->DS
 | []=>s
 | id::ids=>freezeL (freezeS s id) ids
theorem TQ (f:DVal->DVal) (hf:f .any= .any):∀(l:List (Nat×DVal)) (i:Nat),Bl (Az_ f l) i=f (Bl l i)
 | [],i=>by simp[Az_,Bl,hf]
 | (j,d)::l,i=>by
  have:=TQ f hf l i;simp only[Az_,List.map_cons,Bl]at this |-
  split
  ·rfl
  ·exact this
@[simp] theorem Ds_ (id r:Nat) (obj:DObj) (l:List (Nat×DVal)) (i:Nat):Bl (Az_ (iW id r obj) l) i=iW id r obj (Bl l i):=TQ _ rfl _ _
section
variable {B : Base} {s : DS} {a : Act} {w : World} {loc : Nat -> Loc}
theorem TT (f:Ent->Ent) (hid:∀e,(f e).id=e.id):∀(own:List Ent) (id:Nat),An (own.map f) id=(An own id).map f
 | [],id=>rfl
 | e::t,id=>by
  simp only[List.map_cons,An,hid]
  split
  ·rfl
  ·exact TT f hid t id
theorem RF (id r:Nat) (obj:DObj) (own:List Ent) (loc:Nat->Loc):Ad (Ya id r obj own) loc=Ad own loc:=by
 funext i k
 unfold Ad Ya;rw[TT (fun e=>⟨e.id,e.r,GO_ id r obj e.obj⟩) (fun _=>rfl)];cases An own i<;>rfl
theorem Eg (id r:Nat) (obj:DObj) (own:List Ent) (loc:Nat->Loc):Aa (Ya id r obj own) loc=Aa own loc:=by
 unfold Aa Ya
 induction own with
 | nil=>rfl
 | cons e t ih =>
  rw[List.map_cons,dD0,dD0,ih]
theorem Rel.freeze {id:Nat} {e:Ent} (R:Rel B s a w loc) (he:An s.own id=some e):Rel B ⟨Az_ (iW id e.r e.obj) s.slots,Ya id e.r e.obj (CL s.own id)⟩ a w loc:=by
 obtain⟨qY,hid⟩:=AC he;have yF:∀x∈CL s.own id,x∈s.own:=fun x hx=>(BA.1 hx).1
 have wN:∀b∈Aa (CL s.own id) loc,b∈Aa s.own loc:=by
  intro b hb;obtain⟨x,hx,h1⟩:=bQ0.1 hb;exact bQ0.2 ⟨x,yF x hx,h1⟩
 have qD:∀i r l,Ad (CL s.own id) loc i r=some l->Ad s.own loc i r=some l:=by
  intro i r l h;obtain⟨x,hx,rfl,rfl,rfl⟩:=BJ h;exact AK R.st.nd (yF x hx)
 have W:∀n,Weak (Ad s.own loc) (Ad (CL s.own id) loc) (Aa s.own loc++B.M0) (Aa (CL s.own id) loc++B.M0) w.heap w.heap n:=fun n =>
  ⟨fun id r l _ hl=>qD id r l hl,fun b o _ (_:GM o=true) ho=>ho,fun b o hb (_:GM o=true) _ vN=>hb (by
   rcases aH0.1 vN with h | h
   ·exact aM0 _ (wN b h)
   ·exact aP0 _ h)⟩
 have gI:Ad s.own loc id e.r=some (loc id):=by rw[<-hid];exact AK R.st.nd qY
 have vL:∀b,b∈(loc e.id).blks->b∉Aa (CL s.own id) loc++B.M0:=by
  intro b hb vN
  rcases aH0.1 vN with h | h
  ·obtain⟨x,hx,qF,h1⟩:=PF h;have:=FU R.st.bl x hx e qY b h1 hb;subst this;exact qF hid
  ·exact R.st.ap b (Bf qY hb) h
 have wG:=R.st.ok e qY
 have k1:∀d v,rd (Ad s.own loc) (Aa s.own loc++B.M0) w.heap d v->rd (Ad (CL s.own id) loc) (Aa (CL s.own id) loc++B.M0) w.heap (Du_ id e.r e.obj d) v:=by
  intro d v h;have hw:=Cn (W _) d v (Nat.le_refl _) h;cases d<;>simp only[Du_]<;>try exact hw
  ·split
   ·rename_i hc;obtain⟨rfl,rfl⟩:=hc
    cases qN:e.obj with
    | row et k bs es=>exact hw
    | map ks vs=>exact hw
    | abs A=>exact hw
    | box cs =>
     rw[qN]at wG;obtain⟨b,arr,ty,h1,h2,h3,h4⟩:=wG;simp only[rd]at h;obtain⟨b',qM,hv⟩:=h _ gI;rw[<-hid,h1]at qM;simp only[bH0,and_true]at qM;subst qM;simp only[rd];refine⟨b,_,arr,ty,(0,0),hv,vL b (by rw[h1];simp),h2,?_⟩;have:=fun n=>Fl n cs arr 0 (Fk (W _) cs arr 0 (Nat.le_refl _) h4)
     simpa using this _
   ·exact hw
  ·split
   ·rename_i hc;obtain⟨rfl,rfl⟩:=hc
    cases qN:e.obj with
    | box cs=>exact hw
    | map ks vs=>exact hw
    | abs A=>exact hw
    | row et k bs es =>
     rw[qN]at wG;obtain⟨wT,wG⟩:=wG;simp only[rd]at h;have hv:=h _ gI;rw[<-hid]at hv;simp only[rd]
     rcases wG with ⟨rfl,_,h2⟩ | ⟨b,arr,cap,h1,h2,h3,h4,h5,h6,h7⟩
     ·exact⟨none,0,by rw[hv,h2];rfl,by simp,by unfold maxLen;omega,by simp,.inl ⟨rfl,fun _=>rfl⟩⟩
     ·exact⟨_,cap,by rw[hv,h2],h4,h5,wT,.inr ⟨b,0,arr,et,(0,0),rfl,vL b (by rw[h1];simp),h3,Cv (W _) k es arr 0 (Nat.le_refl _) h7⟩⟩
   ·exact hw
  ·rename_i id' r' k0 bs0 i n
   split
   ·rename_i hc;obtain⟨rfl,rfl⟩:=hc
    cases qN:e.obj with
    | box cs=>simp[rd]
    | map ks vs=>simp[rd]
    | abs A=>simp[rd]
    | row et k bs es =>
     simp only
     split
     ·rename_i hb;obtain⟨rfl,hb⟩:=hb;rw[qN]at wG;obtain⟨wT,wG⟩:=wG;simp only[rd]at h;obtain⟨a,cap,rfl,g1,g2,g3,g4,_⟩:=h _ gI;have qU:((es.drop i).take n).length=n:=by simp;omega
      simp only[rd];refine⟨a,cap,by rw[qU],by omega,g2,by rw[qU];exact Nat.le_trans (aX0 _ (by omega:n<=es.length)) wT,?_⟩
      by_cases h0:n=0
      ·subst h0;exact .inl ⟨by simp,g3⟩
      ·obtain⟨b,qI,rfl⟩:=g4 (by omega);rw[<-hid]at qI
       rcases wG with ⟨rfl,_⟩ | ⟨b',arr,cap',h1,h2,h3,h4,h5,h6,h7⟩
       ·simp at hb;omega
       ·rw[h1]at qI;simp only[bH0,and_true]at qI;subst qI;refine .inr ⟨b',i*k,arr,et,(0,0),rfl,vL b' (by rw[h1];simp),h3,Gn _ _ _ _ fun q cs hq=> ?_⟩;rw[eT0]at hq
        split at hq
        ·rw[cL0]at hq;have:=Eu k es arr 0 (i+q) cs (Cv (W _) k es arr 0 (Nat.le_refl _) h7) hq
         rwa[bU0,bR0]at this
        ·simp at hq
     ·simp[rd]
   ·exact hw
  ·split
   ·rename_i hc;obtain⟨rfl,rfl⟩:=hc
    cases qN:e.obj with
    | box cs=>exact hw
    | row et k bs es=>exact hw
    | abs A=>exact hw
    | map ks vs =>
     rw[qN]at wG;obtain⟨b,es,clk,h1,h2,h3,h4,h5⟩:=wG;simp only[rd]at h;obtain⟨b',qM,hv⟩:=h _ gI;rw[<-hid,h1]at qM;simp only[bH0,and_true]at qM;subst qM;simp only[rd];exact⟨b,es,clk,hv,vL b (by rw[h1];simp),h2,h3,AY (W _) ks _ (Nat.le_refl _) h4,AY (W _) vs _ (Nat.le_refl _) h5⟩
   ·exact hw
 have kV:∀(f:DVal->DVal),(∀d v,rd (Ad s.own loc) (Aa s.own loc++B.M0) w.heap d v->rd (Ad (CL s.own id) loc) (Aa (CL s.own id) loc++B.M0) w.heap (f d) v) ->
   ∀ds vs,Az (Ad s.own loc) (Aa s.own loc++B.M0) w.heap ds vs->Az (Ad (CL s.own id) loc) (Aa (CL s.own id) loc++B.M0) w.heap (ds.map f) vs:=by
  intro f hf ds
  induction ds with
  | nil=>intro vs h;simpa[Az]using h
  | cons d ds ih =>
   intro vs h;simp only[Az]at h;obtain⟨v,r,rfl,h1,h2⟩:=h;simp only[List.map_cons,Az];exact⟨v,r,rfl,hf d v h1,ih r h2⟩
 have k2:∀d v,rd (Ad s.own loc) (Aa s.own loc++B.M0) w.heap d v->rd (Ad (CL s.own id) loc) (Aa (CL s.own id) loc++B.M0) w.heap (Yb id e.r e.obj d) v:=by
  intro d v h;cases d<;>simp only[Yb]<;>try exact k1 _ v h
  rename_i f us cs;simp only[rd]at h |-;obtain⟨us',cs',h1,h2,h3⟩:=h;exact⟨us',cs',h1,AY (W _) us _ (Nat.le_refl _) h2,kV _ k1 cs _ h3⟩
 have k3:∀d v,rd (Ad s.own loc) (Aa s.own loc++B.M0) w.heap d v->rd (Ad (CL s.own id) loc) (Aa (CL s.own id) loc++B.M0) w.heap (iW id e.r e.obj d) v:=by
  intro d v h;cases d<;>simp only[iW]<;>try exact k2 _ v h
  rename_i cs;simp only[rd]at h |-;obtain⟨us,h1,h2⟩:=h;exact⟨us,h1,kV _ k2 cs _ h2⟩
 have kC:∀(ds:List DVal) (arr:Array Value) (o:Nat),DL (Ad s.own loc) (Aa s.own loc++B.M0) w.heap ds arr o->DL (Ad (CL s.own id) loc) (Aa (CL s.own id) loc++B.M0) w.heap (ds.map (Yb id e.r e.obj)) arr o:=by
  intro ds
  induction ds with
  | nil=>intro arr o _;simp[DL]
  | cons d ds ih =>
   intro arr o h;simp only[DL,List.map_cons]at h |-;obtain⟨⟨v,h1,jX,h2⟩,h3⟩:=h;exact⟨⟨v,h1,jX,k2 d v h2⟩,ih arr _ h3⟩
 refine⟨⟨?_,?_,?_,?_,?_⟩,R.upd,?_,?_,?_,R.nt,R.df.keep rfl (Upd.refl [] w) (by simp) (fun b hb=> .inl (by
  simp only[Eg]at hb
  rcases aH0.1 hb with h | h
  ·exact aM0 _ (wN b h)
  ·exact aP0 _ h))⟩
 ·simp only[Ya,bY0];exact Ef R.st.nd
 ·simp only[Eg];exact DR R.st.bl _ (Ef R.st.nd) yF
 ·simp only[Eg];exact fun b hb=>R.st.ap b (wN b hb)
 ·simp only[Eg];intro b hb
  rcases aH0.1 hb with h | h
  ·exact R.st.lt b (aM0 _ (wN b h))
  ·exact R.st.lt b (aP0 _ h)
 ·intro x hx;simp only[Eg,RF];obtain⟨y,hy,rfl⟩:=aT0.1 hx;have hk:=R.st.ok y (yF y hy);simp only
  cases qN:y.obj with
  | box cs =>
   rw[qN]at hk;obtain⟨b,arr,ty,h1,h2,h3,h4⟩:=hk;exact⟨b,arr,ty,h1,h2,by simp[h3],kC cs arr 0 h4⟩
  | row et k bs es=>rw[qN]at hk;exact Bk (W (Fa (.row et k bs es))) (Nat.le_refl _) (fun _ _ _ h=>h) hk
  | map ks vs=>rw[qN]at hk;exact Bk (W (Fa (.map ks vs))) (Nat.le_refl _) (fun _ _ _ h=>h) hk
  | abs A=>rw[qN]at hk;exact Bk (W (Fa (.abs A))) (Nat.le_refl _) (fun _ _ _ h=>h) hk
 ·simp only[Eg];exact fun b hb=>R.new b (wN b hb)
 ·intro x hx hr;obtain⟨y,hy,rfl⟩:=aT0.1 hx;exact R.ver y (yF y hy) hr
 ·intro i;simp only[Eg,RF,Ds_];exact k3 _ _ (R.sl i)
theorem Sub.refl (s:DS):Sub B s s:=fun _ _ loc R=>⟨loc,R⟩
theorem Sub.trans {s' s'':DS} (h:Sub B s s') (k:Sub B s' s''):Sub B s s'':=fun a w loc R =>
 let ⟨loc',R'⟩:=h a w loc R;k a w loc' R'
theorem Sub.freezeS (s:DS) (id:Nat):Sub B s (freezeS s id):=by
 intro a w loc R;unfold Dm.freezeS
 split
 ·rename_i e he;exact⟨loc,R.freeze he⟩
 ·exact⟨loc,R⟩
theorem Sub.freezeL : ∀(ids:List Nat) (s:DS),Sub B s (freezeL s ids)
 | [],s=>Sub.refl s
 | id::ids,s=>(Sub.freezeS s id).trans (Sub.freezeL ids _)
theorem Sub.rel {s':DS} {Q:Exit->DS->Prop} {e:Exit} (h:Sub B s s') (hq:Q e s') {a:Act} {w:World} {loc:Nat->Loc} (R:Rel B s a w loc):QQ B Q e a w :=
 let ⟨loc',R'⟩:=h a w loc R;⟨s',loc',hq,R'⟩
variable {P : Program}
structure RAnn where
 id:Nat
 fz:List Nat
 l1:List Nat
 l2:List Nat
def kQ (Q:Exit->DS->Prop) (fz:List Nat):Cont:=⟨fun s'=>Q .normal (freezeL s' fz)⟩
theorem IS_ (Q:Exit->DS->Prop) (fz:List Nat) (s':DS):(kQ Q fz).f s'=Q .normal (freezeL s' fz):=id rfl
def Iq : List RAnn->Nat->RAnn
 | [],id=>⟨id,[],[],[]⟩
 | a::r,id=>if a.id=id then a else Iq r id
structure Ann where
 ow:List Nat
 rs:List RAnn
theorem BV (A:Ann) {id:Nat} {ops:Array Oper} {draw:Bool} {Q:Exit->DS->Prop} (hm:P.follows .mixedOrders=true) (qW:(!draw||Eb A.ow (Iq A.rs id).l1 (Iq A.rs id).l2 ops)=true)
  (h:Cl P B.nt A.ow (Iq A.rs id).l1 (Iq A.rs id).l2 ops ops.toList 0 (kQ Q (Iq A.rs id).fz) s):DW P B (.region id ops draw) Q s:=by
 have fin:∀{c:Code},DW P B c (fun e s'=>match e with | .normal=>Q .normal (freezeL s' (Iq A.rs id).fz) | e=>Q e s') s->DW P B c Q s:=by
  intro c h a w loc R;refine wpIn_mono (h a w loc R) ?_;rintro e a' w' ⟨s',loc',hq,R'⟩
  cases e<;>first
   | exact(Sub.freezeL _ s').rel hq R'
   | exact⟨s',loc',hq,R'⟩
 cases draw with
 | false=>exact fin (Pk _ _ _ h)
 | true=>exact fin (Pm _ _ _ hm (by simpa using qW) h)
end
def uR (P:Program) (fn:Func) (ids:List Nat) (d:DVal):Exit->DS->Prop
 | .normal,s=>match OV P (freezeL s ids) fn.results.toList with | some d0=>wk d0 d | none=>False
 | .ret,s=>match OV P (freezeL s ids) fn.results.toList with | some d0=>wk d0 d | none=>False
 | _,_=>False
theorem Ae.wk {P:Program} {f:FuncId} {args:List DVal} {d d':DVal} (h:Ae P f args d) (hw:wk d d') (hd:mx d'=0):Ae P f args d' :=
 ⟨h.1,hd,fun cur M w vs hM hr=>(h.2.2 cur M w vs hM hr).mono fun e w' ⟨v,h1,h2,h3⟩=>⟨v,h1,h2,oR hw h3⟩⟩
theorem Tq {cur:ER} {M:List Nat} {h:Array Obj}:∀(a b:List DVal) (vs:List Value),Az cur M h (a++b) vs->∃us ws,vs=us++ws/\Az cur M h a us/\Az cur M h b ws
 | [],b,vs,hr=>⟨[],vs,rfl,by simp[Az],hr⟩
 | d::a,b,vs,hr=>by
  simp only[List.cons_append,Az]at hr;obtain⟨v,r,rfl,h1,h2⟩:=hr;obtain⟨us,ws,rfl,h3,h4⟩:=Tq a b r h2;exact⟨v::us,ws,rfl,by simp only[Az];exact⟨v,us,rfl,h1,h3⟩,h4⟩
theorem aH {P:Program} {f:FuncId} (pre:List DVal) {post:List DVal} {k bs:Nat} {d:DVal} (h1:Ae P f (pre++ .nilsl::post) d) (h2:Ae P f (pre++ .esl::post) d):Ae P f (pre++ .sl k bs []::post) d:=by
 refine⟨h1.1,h1.2.1,fun cur M w vs hM hr=> ?_⟩;obtain⟨us,ws,vX,h3,h4⟩:=Tq _ _ _ hr;simp only[Az]at h4;obtain⟨v,r,rfl,h5,h6⟩:=h4;simp only[rd]at h5;obtain⟨a,cap,rfl,_,hc,_,h7⟩:=h5
 cases a with
 | none =>
  have:cap=0:=by
   rcases h7 with h7 | ⟨b,off,arr,ty,fz,h8,_⟩
   ·exact h7.2 rfl
   ·simp at h8
  subst this;refine h1.2.2 cur M w vs hM ?_;rw[vX];exact Ci _ _ _ _ h3 (by simp only[Az];exact⟨_,r,rfl,by simp[rd],h6⟩)
 | some ad =>
  refine h2.2.2 cur M w vs hM ?_;rw[vX];exact Ci _ _ _ _ h3 (by simp only[Az];exact⟨_,r,rfl,by simp only[rd];exact⟨ad,cap,rfl,hc⟩,h6⟩)
theorem Wr (ids:List Nat) {P:Program} {f:FuncId} {fn:Func} {c:Code} {args:List DVal} {d:DVal} (hf:P.funcs[f]? =some fn) (hb:fn.body=some c) (vG:Enters P f) (qX:args.length<=fn.ntmps)
  (hd:mx d=0) (h:Lm args->∀B:Base,B.nt=fn.ntmps/\B.ro=none->DW P B c (uR P fn ids d) ⟨Am args 0,[]⟩):Ae P f args d:=by
 refine Wp hf hb vG qX hd fun qJ B hB=> ?_
 intro a w loc R;refine wpIn_mono (h qJ B hB a w loc R) ?_;rintro e a' w' ⟨s',loc',hq,R'⟩
 have key:(match OV P (freezeL s' ids) fn.results.toList with | some d0=>wk d0 d | none=>False)->∃s'' loc'',(∃d0,OV P s'' fn.results.toList=some d0/\∀cur M h v,rd cur M h d0 v->rd cur M h d v)/\Rel B s'' a' w' loc'':=by
  intro hq;obtain⟨loc'',R''⟩:=Sub.freezeL ids s' a' w' loc' R'
  split at hq
  ·rename_i d0 fW;exact⟨_,loc'',⟨d0,fW,fun cur M h v hr=>oR hq hr⟩,R''⟩
  ·exact hq.elim
 cases e<;>simp only[uR]at hq<;>first
  | (obtain⟨s'',loc'',h1,h2⟩:=key hq;exact⟨s'',loc'',h1,h2⟩)
  | exact hq.elim
def aD (P:Program) (fn:Func) (ids:List Nat) (ρ:List (Nat×Nat×Nat)) (d:DVal) (own':List Ent):Exit->DS->Prop
 | .normal,s=>match OV P (freezeL s ids) fn.results.toList with
  | some d0=>Vf d0/\wk (Hr (BP (freezeL s ids).own ρ) d0) d/\Lr (freezeL s ids).own (BP (freezeL s ids).own ρ) ρ=some own'/\Ml (freezeL s ids).own ρ
  | none=>False
 | .ret,s=>match OV P (freezeL s ids) fn.results.toList with
  | some d0=>Vf d0/\wk (Hr (BP (freezeL s ids).own ρ) d0) d/\Lr (freezeL s ids).own (BP (freezeL s ids).own ρ) ρ=some own'/\Ml (freezeL s ids).own ρ
  | none=>False
 | _,_=>False
section
variable {B : Base} {s : DS} {a : Act} {w : World} {loc : Nat -> Loc}
theorem Xe (a:Act) (i:Nat) (hi:i<a.tmps.size):a.put (some i) (a.tmps.getD i Go.undef)=a:=by
 obtain⟨tmps,defers⟩:=a;unfold Act.put;simp only
 congr 1
 apply Array.ext
 ·simp
 ·intro j h1 h2;rw[Array.getElem_setIfInBounds h2]
  split
  ·rename_i h;subst h;simp[aL0,cB0 h2]
  ·rfl
theorem Rel.adopt {id r et k bs:Nat} {dst:Option Nat} {v:Value} {d:DVal} (R:Rel B s a w loc) (hr:Ce B s<=r) (qS:∀i,dst=some i->i<B.nt)
  (hd:rd (Ad (upE s.own id r (.row et k bs [])) (CQ loc id ⟨[],.slice none 0 0⟩)) (Aa (upE s.own id r (.row et k bs [])) (CQ loc id ⟨[],.slice none 0 0⟩)++B.M0) w.heap d v) :
  Rel B ⟨Bz s.slots dst d,upE s.own id r (.row et k bs [])⟩ (a.put dst v) w (CQ loc id ⟨[],.slice none 0 0⟩) :=
 R.up (L:=⟨[],.slice none 0 0⟩) (n:=r) hr qS (Upd.refl _ _) (fun b hb _=>rfl) (fun b hb=>by simp at hb) (.inl (Nat.le_refl _)) ⟨by simp,.inl ⟨rfl,rfl,rfl⟩⟩ hd
theorem Sub.adoptSlot (i id et k bs:Nat) (h:Bl s.slots i= .nilsl) (hi:i<B.nt):Sub B s ⟨(i,.osl id (Ce B s))::s.slots,upE s.own id (Ce B s) (.row et k bs [])⟩:=by
 intro a w loc R;have hs:=R.sl i;rw[h]at hs;simp only[rd]at hs
 have:=R.adopt (id:=id) (et:=et) (k:=k) (bs:=bs) (dst:=some i) (v:=a.tmps.getD i Go.undef) (d:= .osl id (Ce B s)) (Nat.le_refl _) (fun j hj=>by simp only[aA0]at hj;omega) (by
  simp only[rd];intro l hl;rw[Dv]at hl;simp only[aA0]at hl
  rw[<-hl,hs])
 rw[Xe a i (by rw[R.nt];exact hi)]at this;exact⟨_,this⟩
theorem Rel.reBox {id:Nat} {e:Ent} {cs cs':List DVal} (R:Rel B s a w loc) (he:An s.own id=some e) (qN:e.obj= .box cs) (qU:cs'.length=cs.length)
  (h:∀arr,DL (cu s loc) (hm s loc B.M0) w.heap cs arr 0->DL (cu s loc) (hm s loc B.M0) w.heap cs' arr 0):∃loc',Rel B ⟨s.slots,upE s.own id e.r (.box cs')⟩ a w loc':=by
 obtain⟨qY,hid⟩:=AC he;have qD:Ad s.own loc id e.r=some (loc id):=by rw[<-hid];exact AK R.st.nd qY
 have hk:=R.st.ok e qY;rw[qN]at hk;obtain⟨b,arr,ty,h1,h2,h3,h4⟩:=hk;rw[hid]at h1
 have hL:∀b0,b0∈(loc id).blks->b0<w.heap.size/\((∃e∈s.own,e.id=id/\b0∈(loc id).blks)\/w.heap.size<=b0):=by
  intro b0 qR;refine⟨?_,.inl ⟨e,qY,hid,qR⟩⟩;rw[h1]at qR;simp only[aF0]at qR;subst qR;exact(aD0.1 h2).1
 have gL:CQ loc id (loc id)=loc:=by
  funext j
  unfold CQ
  split
  ·rename_i hj;rw[hj]
  ·rfl
 have W:Weak (cu s loc) (Ad (upE s.own id e.r (.box cs')) (CQ loc id (loc id))) (hm s loc B.M0) (Aa (upE s.own id e.r (.box cs')) (CQ loc id (loc id))++B.M0) w.heap w.heap (max (Ce B s) (AL cs')):=by
  refine ET (Upd.refl _ w) ?_ ?_
  ·intro b hb;obtain⟨x,hx,jX⟩:=bQ0.1 hb;rw[gL]at jX
   rcases aK0.1 hx with rfl | hx
   ·exact .inl (Bf qY (by rw[hid];exact jX))
   ·exact .inl (Bf (BA.1 hx).1 jX)
  ·intro x hx _;rw[gL]
   rcases aK0.1 hx with rfl | hx
   ·exact qD
   ·exact AK R.st.nd (BA.1 hx).1
 have R':=R.up (hLn:=by rw[h1];simp) (w':=w) (id:=id) (r:=e.r) (obj:= .box cs') (L:=loc id) (v:=Go.undef) (d:= .any) (dst:=none) (n:=Ce B s) (Nat.le_refl _) (fun i hi=>by simp at hi) (Upd.refl _ _) (fun _ _ _=>rfl) hL (.inr qD)
  ⟨b,arr,ty,h1,h2,by rw[qU];exact h3,Fk W cs' arr 0 (by omega) (h arr h4)⟩ (by simp[rd])
 exact⟨_,R'⟩
theorem UW {cur:ER} {M:List Nat} {H:Array Obj} {d':DVal}:∀(cs:List DVal) (arr:Array Value) (o c:Nat),(∀v,rd cur M H (cs.getD c .any) v->rd cur M H d' v)->DL cur M H cs arr o->DL cur M H (cs.set c d') arr o
 | [],_,_,_,_,h=>by simpa using h
 | d::cs,arr,o,0,hd,h=>by
  simp only[DL,eR0]at h |-;obtain⟨⟨v,h1,h2,h3⟩,h4⟩:=h;exact⟨⟨v,h1,h2,hd v (by simpa using h3)⟩,h4⟩
 | d::cs,arr,o,c+1,hd,h=>by
  simp only[DL,List.set_cons_succ]at h |-;exact⟨h.1,UW cs arr (o+1) c (by simpa using hd) h.2⟩
theorem Sub.adoptCell (bid c id et k bs:Nat) {rb:Nat} {cs:List DVal} (h:An s.own bid=some ⟨bid,rb,.box cs⟩) (hc:cs.getD c .any= .nilsl) (qF:bid≠id) :
  Sub B s ⟨s.slots,upE (upE s.own id (Ce B s) (.row et k bs [])) bid rb (.box (cs.set c (.osl id (Ce B s))))⟩:=by
 intro a w loc R;have R1:=R.adopt (id:=id) (et:=et) (k:=k) (bs:=bs) (dst:=none) (v:=Go.undef) (d:= .any) (Nat.le_refl _) (fun i hi=>by simp at hi) (by simp[rd])
 have hf:An (upE s.own id (Ce B s) (.row et k bs [])) bid=some ⟨bid,rb,.box cs⟩:=by
  have hdel:∀own:List Ent,An (CL own id) bid=An own bid:=by
   intro own
   induction own with
   | nil=>rfl
   | cons x t ih =>
    simp only[CL,An]
    split
    ·rename_i hx;rw[ih,if_neg (by omega)]
    ·simp only[An];rw[ih]
  simp only[upE,An];rw[if_neg (fun h=>qF h.symm),hdel];exact h
 exact Rel.reBox R1 hf rfl (by simp) (fun arr hr=>UW cs arr 0 c (by
  intro v hv;rw[hc]at hv;simp only[rd]at hv |-;intro l hl;have wZ:Ad (upE s.own id (Ce B s) (.row et k bs [])) (CQ loc id ⟨[],.slice none 0 0⟩) id (Ce B s)=some l:=hl;rw[Dv]at wZ;simp only[aA0]at wZ
  rw[<-wZ,hv]) hr)
end
theorem Ld {own:List Ent} {loc:Nat->Loc} (hn:(Aa own loc).Nodup):∀l:List Ent,(l.map (·.id)).Nodup->(∀e∈l,∃e0∈own,e0.id=e.id)->(Aa l loc).Nodup
 | [],_,_=>by simp[Aa]
 | e::l,hd,hm=>by
  simp only[List.map_cons,cP0]at hd;rw[DT,bV0];obtain⟨e0,vW,jM⟩:=hm e aI0;refine⟨by rw[<-jM];exact Dw hn e0 vW,Ld hn l hd.2 (fun x hx=>hm x (aG0 _ hx)),?_⟩;intro b hb b' qM cX;subst cX;obtain⟨e2,vM,qT⟩:=bQ0.1 qM;obtain⟨e3,he3,dR⟩:=hm e2 (aG0 _ vM);have:=FU hn e0 vW e3 he3 b (by rw[jM];exact hb) (by rw[dR];exact qT);subst this;exact hd.1 (aT0.2 ⟨e2,vM,by rw[<-dR,jM]⟩)
def Jc (own:List Ent):List (Nat×Nat×Nat):=own.map fun e=>(e.id,e.id,e.r)
def Qi (φ:Nat->Nat->Option (Nat×Nat)) (aN:Bool) (d d':DVal):Prop:=match d' with
 | .any=>True
 | d'=>if aN then d=d' else Vf d/\Hr φ d=d'
def LY (φ:Nat->Nat->Option (Nat×Nat)) (aN:Bool) (l:List (Nat×DVal)):List (Nat×DVal)->Prop
 | []=>True
 | p::ps=>Qi φ aN (Bl l p.1) p.2/\LY φ aN l ps
theorem TN {own:List Ent} {i j v:Nat} (h:(i,j,v)∈Jc own):i=j/\∃e∈own,e.id=j/\e.r=v:=by
 obtain⟨e,he,h1⟩:=aT0.1 h;simp only[aU0]at h1;obtain⟨rfl,rfl,rfl⟩:=h1;exact⟨rfl,e,he,rfl,rfl⟩
theorem Sub.lit {B:Base} {s s':DS} (h:LY (BP s.own (Jc s'.own)) s'.own.isEmpty s.slots s'.slots/\Lr s.own (BP s.own (Jc s'.own)) (Jc s'.own)=some s'.own/\Ml s.own (Jc s'.own)/\(s'.own.map (·.id)).Nodup):Sub B s s':=by
 obtain⟨hs,ho,hk,nd⟩:=h;intro a w loc R;refine⟨loc,?_⟩
 have dV:∀e'∈s'.own,∃e,An s.own e'.id=some e/\aK e.obj/\e'.obj=Ji (BP s.own (Jc s'.own)) e.obj/\(e'.r=1\/(e'.r=0/\e.r=0)):=by
  intro e' vR;obtain⟨i,j,v,e,h1,h2,h3⟩:=(Mm ho).1 e' vR;obtain⟨yP,_⟩:=TN h1;subst yP;obtain⟨e2,g1,g2,g3⟩:=Kt hk i i v h1;rw[h2]at g1;simp only[aA0]at g1;subst g1;have e1:e'.id=i:=by rw[h3]
  have e3:e'.r=v:=by rw[h3]
  have e4:e'.obj=Ji (BP s.own (Jc s'.own)) e.obj:=by rw[h3]
  refine⟨e,by rw[e1];exact h2,g2,e4,?_⟩;rw[e3]
  rcases g3 with g3 | g3
  ·exact .inl g3
  ·exact .inr ⟨g3.1,g3.2.2⟩
 have kA:∀e'∈s'.own,∃e0∈s.own,e0.id=e'.id:=by
  intro e' vR;obtain⟨e,h1,_⟩:=dV e' vR;obtain⟨h2,h3⟩:=AC h1;exact⟨e,h2,h3⟩
 have wN:∀b∈Aa s'.own loc,b∈Aa s.own loc:=by
  intro b hb;obtain⟨e',vR,h1⟩:=bQ0.1 hb;obtain⟨e0,h2,h3⟩:=kA e' vR;exact Bf h2 (by rw[h3];exact h1)
 have hM:∀b∈Aa s'.own loc++B.M0,b∈Aa s.own loc++B.M0:=by
  intro b hb
  rcases aH0.1 hb with h | h
  ·exact aM0 _ (wN b h)
  ·exact aP0 _ h
 have W:Weak (cu s loc) (Ad s'.own loc) (hm s loc B.M0) (Aa s'.own loc++B.M0) w.heap w.heap 0 :=
  ⟨fun id r l hr=>by omega,fun b o _ (_:GM o=true) ho=>ho,fun b o hb (_:GM o=true) _ vN=>hb (hM b vN)⟩
 have L:GK (cu s loc) (Ad s'.own loc) (BP s.own (Jc s'.own)):=by
  intro i r p l hp hl;obtain⟨e,h1,h2,h3⟩:=IC hp;obtain⟨yP,_⟩:=TN h1;obtain⟨e',vR,g1,g2,g3⟩:=BJ hl;subst g3
  show Ad s.own loc i r=_
  unfold Ad;rw[h2];simp[h3,yP]
 refine⟨⟨nd,Ld R.st.bl _ nd kA,fun b hb=>R.st.ap b (wN b hb),fun b hb=>R.st.lt b (hM b hb),fun e' vR=> ?_⟩,R.upd,fun b hb=>R.new b (wN b hb),fun e' vR hr=> ?_,?_,R.nt,R.df.keep rfl (Upd.refl [] w) (by simp) (fun b hb=> .inl (hM b hb))⟩
 ·obtain⟨e,h1,h2,h3,_⟩:=dV e' vR;obtain⟨qY,hid⟩:=AC h1;rw[h3];exact KI W L h2 (by rw[hid]) (fun _ _ _ h=>h) (R.st.ok e qY)
 ·obtain⟨e,h1,_,_,h4⟩:=dV e' vR;obtain⟨qY,hid⟩:=AC h1;have hN:=B.hN
  rcases h4 with h4 | ⟨h4,h5⟩
  ·omega
  ·have:=R.ver e qY (by omega);rw[hid,h5]at this;rw[h4];exact this
 ·intro i
  have wY:∀(l:List (Nat×DVal)),LY (BP s.own (Jc s'.own)) s'.own.isEmpty s.slots l->Qi (BP s.own (Jc s'.own)) s'.own.isEmpty (Bl s.slots i) (Bl l i):=by
   intro l
   induction l with
   | nil=>intro _;simp[Qi,Bl]
   | cons p l ih =>
    intro hp;simp only[LY]at hp;simp only[Bl]
    split
    ·rename_i h;rw[h];exact hp.1
    ·exact ih hp.2
  have h1:=wY s'.slots hs;have hr:=R.sl i
  generalize Bl s'.slots i=d' at h1
  by_cases ha:d'= .any
  ·subst ha;simp[rd]
  ·have h2:if s'.own.isEmpty=true then Bl s.slots i=d' else Vf (Bl s.slots i)/\Hr (BP s.own (Jc s'.own)) (Bl s.slots i)=d':=by
    unfold Qi at h1
    split at h1
    ·exact absurd rfl ha
    ·exact h1
   split at h2
   ·rename_i he;rw[h2]at hr;have vR:s'.own=[]:=by simpa using he
    exact Cn (n:=mx d') ⟨fun id r l _ hl=>by rw[vR]at hl;simp[Ad,An]at hl,W.b,W.m⟩ _ _ (Nat.le_refl _) hr
   ·rw[<-h2.2];exact Ps W L h2.1 hr
def oD (s:DS) (n bid c id et k bs:Nat):DS:=match An s.own bid with
 | some e=>match e.obj with
  | .box cs=>⟨s.slots,upE (upE s.own id n (.row et k bs [])) bid e.r (.box (cs.set c (.osl id n)))⟩
  | _=>s
 | none=>s
def Wj (s:DS) (bid c:Nat):Prop:=match An s.own bid with
 | some e=>match e.obj with
  | .box cs=>cs.getD c .any= .nilsl
  | _=>True
 | none=>True
theorem CI {P:Program} {B:Base} {Q:Exit->DS->Prop} {s:DS} {x:Code} (bid c id et k bs:Nat) (h:Wj s bid c/\bid≠id) (hk:∀n,DW P B x Q (oD s n bid c id et k bs)):DW P B x Q s:=by
 have hn:=hk (Ce B s);unfold Wj at h;unfold oD at hn
 cases hf:An s.own bid with
 | none=>rw[hf]at hn;exact hn
 | some e =>
  rw[hf]at hn h;obtain⟨hm,hid⟩:=AC hf
  cases qN:e.obj with
  | box cs =>
   simp only[qN]at hn h;refine Kj (Sub.adoptCell bid c id et k bs (rb:=e.r) (cs:=cs) ?_ h.1 h.2) hn;rw[hf,<-hid,<-qN]
  | row _ _ _ _=>simp only[qN]at hn;exact hn
  | map _ _=>simp only[qN]at hn;exact hn
  | abs _=>simp only[qN]at hn;exact hn
theorem BO {P:Program} {B:Base} {Q:Exit->DS->Prop} {s:DS} {x:Code} (i id et k bs:Nat) (h:Bl s.slots i= .nilsl/\i<B.nt) (hk:∀n,DW P B x Q ⟨(i,.osl id n)::s.slots,upE s.own id n (.row et k bs [])⟩):DW P B x Q s :=
 Kj (Sub.adoptSlot i id et k bs h.1 h.2) (hk (Ce B s))
theorem Sub.truncSlot {B:Base} {s:DS} {i id r et k bs n:Nat} {es:List (List DVal)} {e:Ent} (h:Bl s.slots i= .vw id r k bs 0 n) (he:An s.own id=some e) (wV:e.r=r) (qN:e.obj= .row et k bs es) (hn:n<=es.length) (hi:i<B.nt) :
  Sub B s ⟨(i,.osl id (Ce B s))::s.slots,upE s.own id (Ce B s) (.row et k bs (es.take n))⟩:=by
 intro a w loc R;have hs:=R.sl i;rw[h]at hs;obtain⟨qY,hid⟩:=AC he;obtain⟨qD,a0,cap0,hh,g1,g2,g3⟩:=Md R.st he wV qN;simp only[rd]at hs;obtain⟨x,cap,hv,q1,q2,q3,q4,q5⟩:=hs _ qD;obtain⟨n1,hh1⟩:=q5 trivial;rw[hh]at hh1;simp only[Value.slice.injEq]at hh1;obtain⟨rfl,_,rfl⟩:=hh1;have qU:(es.take n).length=n:=by simp;omega
 have hk:=R.st.ok e qY;rw[qN,hid]at hk;obtain⟨wT,hk⟩:=hk
 have hL:∀b0,b0∈(⟨(loc id).blks,a.tmps.getD i Go.undef⟩:Loc).blks->b0<w.heap.size/\((∃e∈s.own,e.id=id/\b0∈(loc id).blks)\/w.heap.size<=b0):=fun b0 qR =>
  ⟨R.st.lt b0 (aM0 _ (Bf qY (by rw[hid];exact qR))),.inl ⟨e,qY,hid,qR⟩⟩
 have W:=R.weakUp (obj:= .row et k bs (es.take n)) (L:=⟨(loc id).blks,a.tmps.getD i Go.undef⟩) (Nat.le_refl (Ce B s)) (Upd.refl _ w) hL (.inl (Nat.le_refl _));have vU:=(Bm qY).2;rw[qN]at vU;simp only[Fa]at vU
 have:=R.up (id:=id) (r:=Ce B s) (obj:= .row et k bs (es.take n)) (L:=⟨(loc id).blks,a.tmps.getD i Go.undef⟩) (v:=a.tmps.getD i Go.undef) (d:= .osl id (Ce B s)) (dst:=some i) (Nat.le_refl _) (fun j hj=>by simp only[aA0]at hj;omega) (Upd.refl _ _) (fun _ _ _=>rfl) hL (.inl (Nat.le_refl _))
  (by
   refine⟨by rw[qU];exact Nat.le_trans (aX0 _ hn) wT,?_⟩
   rcases hk with ⟨rfl,h1,h2⟩ | ⟨b,arr,cap,h1,h2,h3,h4,h5,h6,h7⟩
   ·rw[hh]at h2;simp only[Value.slice.injEq]at h2;obtain⟨rfl,_,rfl⟩:=h2;refine .inl ⟨by simp,h1,?_⟩;rw[hv];simp only[List.length_nil,Nat.le_zero]at hn;rw[hn]
   ·rw[hh]at h2;simp only[Value.slice.injEq]at h2;obtain⟨rfl,_,rfl⟩:=h2;refine .inr ⟨b,arr,_,h1,by rw[qU];exact hv,h3,by omega,h5,h6,?_⟩;refine Gn _ _ _ _ fun q cs hq=> ?_
    rw[eT0]at hq
    split at hq
    ·refine Eu k es arr 0 q cs (Cv W k es arr 0 ?_ h7) hq;unfold Ce;omega
    ·simp at hq)
  (by
   simp only[rd];intro l hl;rw[Dv]at hl;simp only[aA0]at hl
   rw[<-hl])
  (by have:=Dw R.st.bl e qY;rwa[hid]at this)
 rw[Xe a i (by rw[R.nt];exact hi)]at this;exact⟨_,this⟩
def UD (s:DS) (i:Nat):Prop:=match Bl s.slots i with
 | .vw id r k bs 0 n=>match An s.own id with
  | some e=>match e.obj with
   | .row _ k' bs' es=>e.r=r/\k'=k/\bs'=bs/\n<=es.length
   | _=>False
  | none=>False
 | _=>False
def aS (s:DS) (i m:Nat):DS:=match Bl s.slots i with
 | .vw id _ _ _ _ n=>match An s.own id with
  | some e=>match e.obj with
   | .row et k bs es=>⟨(i,.osl id m)::s.slots,upE s.own id m (.row et k bs (es.take n))⟩
   | _=>s
  | none=>s
 | _=>s
theorem Uu {P:Program} {B:Base} {Q:Exit->DS->Prop} {s:DS} {x:Code} (i:Nat) (h:UD s i/\i<B.nt) (hk:∀m,DW P B x Q (aS s i m)):DW P B x Q s:=by
 have h1:=h.1;have hk:=hk (Ce B s);unfold UD at h1;unfold aS at hk
 split at h1
 ·rename_i id r k bs n hg;rw[hg]at hk;simp only at hk
  split at h1
  ·rename_i e he;rw[he]at hk;simp only at hk
   split at h1
   ·rename_i et k' bs' es qN;rw[qN]at hk;obtain⟨wV,rfl,rfl,hn⟩:=h1;exact Kj (Sub.truncSlot hg he wV qN hn h.2) hk
   ·exact h1.elim
  ·exact h1.elim
 ·exact h1.elim
attribute [simp] IU_ IT_ Ea_ wkA isE wk1 wkL wk Gu CV Ep Iq BX Rf Op.operands Call.operands Jq okG FJ JF Bd JC IB GU_ GT_ Bz Bl ev ofV Ca FE BC Ta MW DD Bg An Hu_ CL callee BI gB gOK Cf Gy GX_ lR GQ AE Dr GC Ho CB Fo DP Am Bo Oc Ck TY EC_ oG BD_ OV eK Qr Lm FC
@[simp] theorem Jl_ (n:Int):Ly .i64 n↔ -9223372036854775808<=n/\n<=9223372036854775807:=Iff.rfl
theorem Al {n:Int} (h1: -9223372036854775808<=n) (h2:n<=9223372036854775807):IntKind.i64.wrap n=n:=by
 simp only[IntKind.wrap,IntKind.bits,IntKind.signed];simp
 split<;>omega
@[simp] theorem IW_ (n:Int):Ly .u64 n↔0<=n/\n<=18446744073709551615:=Iff.rfl
@[simp] theorem Jk_ (n:Int):Ly .u8 n↔0<=n/\n<=255:=Iff.rfl
@[simp] theorem IX_ (n:Int):Ly .u32 n↔0<=n/\n<=4294967295:=Iff.rfl
@[simp] theorem IY_ (n:Int):Ly .i32 n↔ -2147483648<=n/\n<=2147483647:=Iff.rfl
def isB : DVal->Bool
 | .bool _=>true
 | _=>false
def DV_ : DVal->Bool
 | .bool b=>b
 | _=>false
attribute [simp] isB DV_
theorem Bi {P:Program} {B:Base} {Q:Exit->DS->Prop} {s:DS} {c:Operand} {x y:Code} (h:isB (ev s.slots c)=true) (ht:DV_ (ev s.slots c)=true->DW P B x Q s) (hf:DV_ (ev s.slots c)=false->DW P B y Q s):DW P B (.cond c x y) Q s:=by
 cases he:ev s.slots c<;>rw[he]at h<;>simp at h;rename_i b;rw[he]at ht hf;exact Gd_ he (fun hb=>ht hb) (fun hb=>hf hb)
attribute [simp] IS_ FM_ Bj_ lG Br Jl MK strOf Fe Yr Rz MJ Ys rD GR_ DN_ Va HB Jz upE Lk CW FF ID PZ PY Iy iQ freezeL freezeS Du_ Yb iW GO_ Ya uR KM okR Xl Mf SI OW US ok3 Xm Hr Vf Ji aK iB JB BP Lr Ml aD Jc Qi LY oD Wj aS UD
attribute [simp] mx AL Bp Bx IE
@[simp] theorem Hh_ {l:List (List DVal)} {k:Nat} (h:Bp l=0):Bp (l.take k)=0:=Nat.le_zero.1 (h▸Gr k l)
@[simp] theorem Hi_ {l:List (List DVal)} {k:Nat} (h:Bp l=0):Bp (l.drop k)=0:=Nat.le_zero.1 (h▸Gs k l)
@[simp] theorem IJ_ : List.range 3=[0,1,2]:=rfl
@[simp] theorem II_ : List.range 4=[0,1,2,3]:=rfl
@[simp] theorem IH_ : List.range 5=[0,1,2,3,4]:=rfl
@[simp] theorem IG_ : List.range 6=[0,1,2,3,4,5]:=rfl
end Go.Dm
end
