/- Parts of a proof, laid together: EnH. -/
import Derived.Test.YtiojapdolljocaaGreatqMx4
set_option linter.unusedSimpArgs false
set_option maxHeartbeats 8000000
set_option linter.unusedVariables false
set_option linter.unusedSectionVars false
section
namespace Go.Dm
variable [DMode]
def Qr (P:Program) (s:DS):ResultVar->Option DVal
 | .tmp t=>some (Bl s.slots t)
 | .cell a t=>match tAgg P t,tCells P t,DD s.own (Bl s.slots a)with
  | some true,some n,some cs=>if n<=cs.length then some (.agg (cs.take n))else none
  | some false,_,some cs=>match cs with | d::_=>some d | []=>none
  | _,_,_=>none
def eK (P:Program) (s:DS):List ResultVar->Option (List DVal)
 | []=>some []
 | r::rs=>match Qr P s r,eK P s rs with
  | some d,some ds=>some (d::ds)
  | _,_=>none
def OV (P:Program) (s:DS) (rs:List ResultVar):Option DVal :=
 match eK P s rs with
 | some [d]=>some d
 | some ds=>some (.tup ds)
 | none=>none
def NC (tmps:Array Value):ResultVar->Sem Value
 | .tmp t=>pure (tmps.getD t Go.undef)
 | .cell a t=>do loadVar t (<-asAddr (tmps.getD a Go.undef))
theorem eJ (fn:Func) (tmps:Array Value):results fn tmps=(do let vs <-fn.results.mapM (NC tmps);pure (if h:vs.size=1 then vs[0]else .tuple vs)):=by
 unfold results
 congr 1
section
variable {P : Program} {B : Base} {s : DS} {a : Act} {w : World} {loc : Nat -> Loc}
structure Reads (B:Base) (s:DS) (a:Act) (w:World) (loc:Nat->Loc):Prop where
 st:St s.own loc B.M0 w.heap
 sl:∀i,rd (Ad s.own loc) (Aa s.own loc++B.M0) w.heap (Bl s.slots i) (a.tmps.getD i Go.undef)
theorem eA (R:Reads B s a w loc) {r:ResultVar} {d:DVal} (h:Qr P s r=some d) :
  ∃v,(NC a.tmps r).run P w= .ok v w/\Bh s loc B.M0 w d v:=by
 cases r with
 | tmp t =>
  simp only[Qr,aA0]at h;subst h;exact⟨_,rfl,R.sl t⟩
 | cell x t =>
  simp only[Qr]at h;have hx:=R.sl x
  split at h
  ·rename_i n cs hb hn hc
   split at h
   ·rename_i yW;simp only[aA0]at h;subst h;obtain⟨ad,u,hv,h1,h2⟩:=NQ (P:=P) R.st (b:=true) hb hx hc (fun _=>⟨n,hn,yW⟩) (by simp);exact⟨u,by simp only[NC,hv];simp[asAddr,h1],by simpa[hn]using h2⟩
   ·simp at h
  ·rename_i cs hb hc
   split at h
   ·simp only[aA0]at h;subst h;obtain⟨ad,u,hv,h1,h2⟩:=NQ (P:=P) R.st (b:=false) hb hx hc (by simp) (by simp);exact⟨u,by simp only[NC,hv];simp[asAddr,h1],by simpa using h2⟩
   ·simp at h
  ·simp at h
theorem WP (R:Reads B s a w loc):∀(rs:List ResultVar) (ds:List DVal),eK P s rs=some ds ->
  ∃vs:List Value,(rs.mapM (m:=Sem) (NC a.tmps)).run P w= .ok vs w/\Az (cu s loc) (hm s loc B.M0) w.heap ds vs
 | [],ds,h=>by
  simp only[eK,aA0]at h;subst h;exact⟨[],by simp,by simp[Az]⟩
 | r::rs,ds,h=>by
  simp only[eK]at h
  split at h
  ·rename_i d ds' hd hds;simp only[aA0]at h;subst h;obtain⟨v,h1,h2⟩:=eA R hd;obtain⟨vs,h3,h4⟩:=WP R rs ds' hds;refine⟨v::vs,?_,by simp only[Az];exact⟨v,vs,rfl,h2,h4⟩⟩;rw[List.mapM_cons,Sem.run_bind,h1];simp[h3]
  ·simp at h
theorem Cn_ (R:Reads B s a w loc) {fn:Func} {d:DVal} (h:OV P s fn.results.toList=some d):∃v,(results fn a.tmps).run P w= .ok v w/\Bh s loc B.M0 w d v:=by
 unfold OV at h
 cases hl:eK P s fn.results.toList with
 | none=>rw[hl]at h;simp at h
 | some ds =>
  rw[hl]at h;obtain⟨vs,h1,h2⟩:=WP R _ _ hl;have qU:=Aw _ _ h2
  have hm:(fn.results.mapM (m:=Sem) (NC a.tmps)).run P w= .ok vs.toArray w:=by
   rw[<-Array.toArray_toList (xs:=fn.results),List.mapM_toArray,Sem.run_map,h1];rfl
  rw[eJ,Sem.run_bind,hm]
  match ds,vs,qU,h2,h with
  | [d0],[v0],_,h2,h =>
   simp only[aA0]at h;subst h;simp only[Az]at h2;obtain⟨v,r,he,h5,_⟩:=h2;simp only[bH0]at he;obtain⟨rfl,rfl⟩:=he;exact⟨v0,by simp,h5⟩
  | [],[],_,h2,h =>
   simp only[aA0]at h;subst h;exact⟨.tuple #[],by simp,by simp only[Bh,rd];exact⟨#[],rfl,h2⟩⟩
  | d0::d1::ds,v0::v1::vs,_,h2,h =>
   simp only[aA0]at h;subst h;exact⟨.tuple (v0::v1::vs).toArray,by simp,by simp only[Bh,rd];exact⟨_,rfl,h2⟩⟩
end
def Am : List DVal->Nat->List (Nat×DVal)
 | [],_=>[]
 | d::ds,i=>(i,d)::Am ds (i+1)
theorem NU : ∀(ds:List DVal) (i t:Nat),Bl (Am ds i) t=if t<i then .any else ds.getD (t-i) .any
 | [],i,t=>by simp[Am,Bl]
 | d::ds,i,t=>by
  simp only[Am,Bl]
  by_cases h:t=i
  ·subst h;simp
  ·rw[if_neg h,NU ds (i+1) t]
   by_cases h1:t<i
   ·rw[if_pos h1,if_pos (by omega)]
   ·rw[if_neg h1,if_neg (by omega)];have:t-i=(t-(i+1))+1:=by omega
    rw[this,List.getD_cons_succ]
theorem St.same {own:List Ent} {loc:Nat->Loc} {M0:List Nat} {h h':Array Obj} (S:St own loc M0 h) (qP:h.size<=h'.size)
  (hd:∀(b:Nat) (o:Obj),GM o=true->h[b]? =some o->h'[b]? =some o) (hb:∀(b:Nat) (o:Obj),b∈Aa own loc->h[b]? =some o->h'[b]? =some o):St own loc M0 h' where
 nd:=S.nd
 bl:=S.bl
 ap:=S.ap
 lt:=fun b hb=>cJ0 (S.lt b hb) qP
 ok:=by
  intro e he
  have W:Weak (Ad own loc) (Ad own loc) (Aa own loc++M0) (Aa own loc++M0) h h' (Fa e.obj) :=
   ⟨fun _ _ _ _ h=>h,fun b o _ (h1:GM o=true) h2=>hd b o h1 h2,fun b o hb (_:GM o=true) _=>hb⟩
  exact Bk W (Nat.le_refl _) (fun b o hm ho=>hb b o (Bf he hm) ho) (S.ok e he)
def Ki (P:Program) (f:Fn) (vs:Array Value) (w:World) (R:Value->World->Prop):Prop :=
 match f with
 | .func g=>Enters P g/\Calls P g vs w fun e w'=>∃v,e= .returned v/\R v w'
 | .yield l=>∃fn tmps assign body,(Instr.yield l vs).run P w= .ok (.round l fn tmps assign body) w/\RoundIn (wd none) 0 P l fn tmps assign body w fun e w'=>∃v,e= .returned v/\R v w'
 | _=>False
theorem Ki.mono {P:Program} {f:Fn} {vs:Array Value} {w:World} {R R':Value->World->Prop} (h:Ki P f vs w R) (hr:∀v w',R v w'->R' v w'):Ki P f vs w R':=by
 cases f with
 | func g=>exact⟨h.1,h.2.mono fun e w' ⟨v,he,hR⟩=>⟨v,he,hr _ _ hR⟩⟩
 | yield l =>
  obtain⟨fn,tmps,assign,body,h1,h2⟩:=h;exact⟨fn,tmps,assign,body,h1,h2.mono fun e w' ⟨v,he,hR⟩=>⟨v,he,hr _ _ hR⟩⟩
 | method n=>exact h.elim
 | methodOf t n=>exact h.elim
 | via t p f q=>exact h.elim
def BD_ (P:Program) (fn:Func) (K:DS->DVal->Prop):Exit->DS->Prop
 | .normal,s=>∃d0,OV P s fn.results.toList=some d0/\K s d0
 | .ret,s=>∃d0,OV P s fn.results.toList=some d0/\K s d0
 | _,_=>False
theorem Mx {P:Program} {fn:Func} {tmps:Array Value} {R:Ending->World->Prop}:∀(rs:List Nat) (w:World),rs.Nodup->(∀r∈rs,w.heap[r]? =some (.deferred (some []))) ->
  (∀w',Upd rs w w'->w'.heap.size=w.heap.size->∃v,(results fn tmps).run P w'= .ok v w'/\R (.returned v) w') ->
  LeavesInM (wd none) 0 P fn tmps R (rs.map fun r=>{ target:= .collected r,args:= #[] }) .returning w
 | [],w,_,_,h=>h w (Upd.refl _ _) rfl
 | r::rs,w,hn,hr,h=>by
  simp only[cP0]at hn;refine⟨by simp,.inl ⟨r,w.putObj r (.deferred none),rfl,run_takeDeferred (hr r aI0),?_⟩⟩;refine Mx rs _ hn.2 (fun r' qG=> ?_) (fun w' hu hs=>h w' ?_ ?_)
  ·rw[World.putObj_heap_other (fun h=>hn.1 (by rw[h]at qG;exact qG))];exact hr r' (aG0 _ qG)
  ·have pL:Upd [r] w (w.putObj r (.deferred none)) :=
    ⟨rfl,rfl,rfl,fun _=>Nat.le_refl _,by simp[World.putObj],fun b _ hb=>World.putObj_heap_other (fun h=>hb (by simp[h]))⟩
   refine(show Upd (r::rs) w w' from ?_);refine⟨hu.os,hu.tape,hu.output,hu.drawn,Nat.le_trans pL.size hu.size,fun b hb mK=> ?_⟩;rw[hu.blk b (cJ0 hb pL.size) (fun h=>mK (aG0 _ h)),pL.blk b hb (fun h=>mK (by simp at h;simp[h]))]
  ·rw[hs];simp[World.putObj]
theorem Nq {P:Program} {f:FuncId} {fn:Func} {c:Code} {args:List DVal} {own:List Ent} {M:List Nat} {w:World} {loc:Nat->Loc} {vs:Array Value} {N:Nat} {R:Value->World->Prop} {K:DS->DVal->Prop} (hN:N<=1)
  (hf:P.funcs[f]? =some fn) (hb:fn.body=some c) (vG:Enters P f) (qX:args.length<=fn.ntmps) (S:St own loc M w.heap) (hv:∀e∈own,e.r<N->True)
  (hr:Az (Ad own loc) (Aa own loc++M) w.heap args vs.toList)
  (h:∀B:Base,B.nt=fn.ntmps/\B.ro=none->DW P B c (BD_ P fn K) ⟨Am args 0,own⟩)
  (fin:∀(s:DS) (loc':Nat->Loc) (w':World) (d0:DVal) (v:Value),K s d0->St s.own loc' M w'.heap->Upd (Aa own loc) w w'->(∀b∈Aa s.own loc',b∈Aa own loc\/w.heap.size<=b) ->
   (∀e∈s.own,e.r<N->Ad own loc e.id e.r=some (loc' e.id))->rd (Ad s.own loc') (Aa s.own loc'++M) w'.heap d0 v->R v w'):Ki P (.func f) vs w R:=by
 refine⟨vG,?_⟩;refine(callsIn_wide (n:=0)).1 ?_;refine callsIn_of_wp_marks hf hb trivial ?_ rfl
 let B:Base:=⟨own,loc,M,N,w,fn.ntmps,none,hN,w.heap.size,Nat.le_refl _⟩
 have qU:=Aw _ _ hr
 have R0:Rel B ⟨Am args 0,own⟩ { tmps:=vs++Array.replicate (fn.ntmps-vs.size) Go.undef,defers:=[] } w loc:=by
  refine⟨S,Upd.refl _ _,fun b hb=> .inl hb,fun e he _=>AK S.nd he,?_,by show _=fn.ntmps;simp at qU |-;omega,⟨[],rfl,List.nodup_nil,by simp⟩⟩;intro i;rw[NU];simp only[eM0,if_false,eC0]
  cases hi:args[i]? with
  | none=>simp[aO0,hi,rd]
  | some d0 =>
   obtain⟨v,hv,h1⟩:=NF _ _ i d0 hr hi
   have qV:i<vs.size:=by
    have:=(aB0.1 hv).1;simpa using this
   have jH:vs[i]? =some v:=by simpa using hv
   rw[aO0,hi,aL0,dN0 qV,jH];exact h1
 refine wpIn_mono (h B ⟨rfl,rfl⟩ _ w loc R0) ?_;rintro e a' w' ⟨s',loc',hq,R'⟩
 have key:(∃d0,OV P s' fn.results.toList=some d0/\K s' d0)->LeavesInM (wd none) 0 P fn a'.tmps (fun e w'=>∃v,e= .returned v/\R v w') a'.defers .returning w':=by
  rintro⟨d0,hres,hK⟩;obtain⟨rs,hd1,fW,hd2,_⟩:=R'.df;rw[hd1];refine Mx rs w' fW (fun r hr=>(hd2 r hr).1) fun w'' hu hs=> ?_
  have hdd:∀(b:Nat) (o:Obj),GM o=true->w'.heap[b]? =some o->w''.heap[b]? =some o:=by
   intro b o ho hb;have qV:=(aD0.1 hb).1;rw[hu.blk b qV (fun h=>by rw[(hd2 b h).1]at hb;simp only[aA0]at hb;subst hb;simp[GM]at ho)];exact hb
  have wN:∀(b:Nat) (o:Obj),b∈Aa s'.own loc'->w'.heap[b]? =some o->w''.heap[b]? =some o:=by
   intro b o hm hb;have qV:=(aD0.1 hb).1;rw[hu.blk b qV (fun h=>(hd2 b h).2.2 (aM0 _ hm))];exact hb
  have S'':=R'.st.same (dH0 hs.symm) hdd wN
  have W:∀n,Weak (Ad s'.own loc') (Ad s'.own loc') (Aa s'.own loc'++M) (Aa s'.own loc'++M) w'.heap w''.heap n:=fun n =>
   ⟨fun _ _ _ _ h=>h,fun b o _ (h1:GM o=true) h2=>hdd b o h1 h2,fun b o hb (_:GM o=true) _=>hb⟩
  have RR:Reads B s' a' w'' loc':=⟨S'',fun i=>Cn (W _) _ _ (Nat.le_refl _) (R'.sl i)⟩;obtain⟨v,h1,h2⟩:=Cn_ RR hres;refine⟨v,h1,v,rfl,fin s' loc' w'' d0 v hK S'' ?_ R'.new R'.ver h2⟩;refine R'.upd.trans hu (fun x hx=> .inr (hd2 x hx).2.1)
 cases e<;>simp only[BD_]at hq<;>first
  | exact key hq
  | exact hq.elim
def Im_ (P:Program) (fn:Func) (d:DVal):Exit->DS->Prop:=BD_ P fn fun _ d0=>∀cur M h v,rd cur M h d0 v->rd cur M h d v
theorem Wq {P:Program} {f:FuncId} {fn:Func} {c:Code} {args:List DVal} {d:DVal} {K:DS->DVal->Prop} (hf:P.funcs[f]? =some fn) (hb:fn.body=some c) (vG:Enters P f) (qX:args.length<=fn.ntmps)
  (hd:mx d=0) (fin:∀(B:Base) (s:DS) (d0:DVal) (loc:Nat->Loc) (w:World) (v:Value),K s d0->St s.own loc B.M0 w.heap->rd (Ad s.own loc) (Aa s.own loc++B.M0) w.heap d0 v->∃(s':DS) (loc':Nat->Loc),(∀b,b∈B.M0->b∈Aa s'.own loc'++B.M0)/\rd (Ad s'.own loc') (Aa s'.own loc'++B.M0) w.heap d v)
  (h:Lm args->∀B:Base,B.nt=fn.ntmps/\B.ro=none->DW P B c (BD_ P fn K) ⟨Am args 0,[]⟩):Ae P f args d:=by
 refine⟨vG,hd,fun cur M w vs hM hr=> ?_⟩
 have W:Weak cur (Ad [] fun _=>⟨[],Go.undef⟩) M (Aa [] (fun _=>⟨[],Go.undef⟩)++M) w.heap w.heap (AL args) :=
  ⟨fun id r l _ hl=>by simp[Ad,An]at hl,fun b o _ _ ho=>ho,fun b o hb _ _=>by simpa[Aa]using hb⟩
 have S:St [] (fun _=>⟨[],Go.undef⟩) M w.heap:=⟨by simp,by simp[Aa],by simp[Aa],by simpa[Aa]using hM,by simp⟩;have:=Nq (P:=P) (R:=fun v w'=>Upd [] w w'/\rd cur M w'.heap d v) (dC0 1) hf hb vG qX S (by simp) (AY W args _ (Nat.le_refl _) hr) (h (Gm _ _ hr)) ?_
 ·exact this.2
 ·intro s loc' w' d0 v hK hS hu _ _ fW;refine⟨by simpa[Aa]using hu,?_⟩;obtain⟨s1,loc1,gT,h1⟩:=fin ⟨[],loc',M,0,w,0,none,by decide,w.heap.size,Nat.le_refl _⟩ s d0 loc' w' v hK hS fW;exact Cn (n:=0) ⟨fun id r l hr=>by omega,fun b o _ _ ho=>ho,fun b o hb _ _ vN=>hb (gT b vN)⟩ d v (by omega) h1
theorem Wp {P:Program} {f:FuncId} {fn:Func} {c:Code} {args:List DVal} {d:DVal} (hf:P.funcs[f]? =some fn) (hb:fn.body=some c) (vG:Enters P f) (qX:args.length<=fn.ntmps)
  (hd:mx d=0) (h:Lm args->∀B:Base,B.nt=fn.ntmps/\B.ro=none->DW P B c (Im_ P fn d) ⟨Am args 0,[]⟩):Ae P f args d :=
 Wq hf hb vG qX hd (fun B s d0 loc w v hK _ fW=>⟨s,loc,fun b hb=>aP0 _ hb,hK _ _ _ _ fW⟩) h
theorem DT (e:Ent) (l:List Ent) (loc:Nat->Loc):Aa (e::l) loc=(loc e.id).blks++Aa l loc:=by simp[Aa]
theorem FU {loc:Nat->Loc}:∀{own:List Ent},(Aa own loc).Nodup->∀e1∈own,∀e2∈own,∀b,b∈(loc e1.id).blks->b∈(loc e2.id).blks->e1=e2
 | [],_,e1,h1,_,_,_,_,_=>by cases h1
 | e::l,hn,e1,h1,e2,h2,b,qI,qT=>by
  rw[DT,bV0]at hn;obtain⟨_,hn2,hn3⟩:=hn
  rcases aK0.1 h1 with rfl | jX
  ·rcases aK0.1 h2 with rfl | jB
   ·rfl
   ·exact absurd rfl (hn3 b qI b (Bf jB qT))
  ·rcases aK0.1 h2 with rfl | jB
   ·exact absurd rfl (hn3 b qT b (Bf jX qI))
   ·exact FU hn2 e1 jX e2 jB b qI qT
theorem Dw {loc:Nat->Loc}:∀{own:List Ent},(Aa own loc).Nodup->∀e∈own,((loc e.id).blks).Nodup
 | [],_,e,h=>by cases h
 | a::l,hn,e,h=>by
  rw[DT,bV0]at hn
  rcases aK0.1 h with rfl | h'
  ·exact hn.1
  ·exact Dw hn.2.1 e h'
theorem DR {own:List Ent} {loc:Nat->Loc} (hn:(Aa own loc).Nodup):∀l:List Ent,(l.map (·.id)).Nodup->(∀e∈l,e∈own)->(Aa l loc).Nodup
 | [],_,_=>by simp[Aa]
 | e::l,hd,hm=>by
  simp only[List.map_cons,cP0]at hd;rw[DT,bV0];refine⟨Dw hn e (hm e aI0),DR hn l hd.2 (fun x hx=>hm x (aG0 _ hx)),?_⟩;intro b hb b' qM cX;subst cX;obtain⟨e2,vM,qT⟩:=bQ0.1 qM;have:=FU hn e (hm e aI0) e2 (hm e2 (aG0 _ vM)) b hb qT;subst this;exact hd.1 (cS0 (f:=(·.id)) vM)
end Go.Dm
end
