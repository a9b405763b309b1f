/- Parts of a proof, laid together: EnH. -/
import Derived.Test.YtbpmiknobocjoaaGreatqAp6
set_option linter.unusedSimpArgs false
set_option maxHeartbeats 8000000
set_option linter.unusedVariables false
set_option linter.unusedSectionVars false
section
namespace Go.Dm
variable [DMode]
def QI (P:Program) (s:DS):ResultVar->Option DVal
 | .tmp t=>some (getS s.slots t)
 | .cell a t=>match tAgg P t,tCells P t,DJ s.own (getS s.slots a)with
  | some true,some n,some cs=>if n<=cs.length then some (.agg (cs.take n))else none
  | some false,_,some cs=>match cs with | d::_=>some d | []=>none
  | _,_,_=>none
def eQ (P:Program) (s:DS):List ResultVar->Option (List DVal)
 | []=>some []
 | r::rs=>match QI P s r,eQ P s rs with
  | some d,some ds=>some (d::ds)
  | _,_=>none
def MF (P:Program) (s:DS) (rs:List ResultVar):Option DVal :=
 match eQ P s rs with
 | some [d]=>some d
 | some ds=>some (.tup ds)
 | none=>none
def NX (tmps:Array Value):ResultVar->Sem Value
 | .tmp t=>pure (tmps.getD t Go.undef)
 | .cell a t=>do loadVar t (<-asAddr (tmps.getD a Go.undef))
theorem eP (fn:Func) (tmps:Array Value):results fn tmps=(do let vs <-fn.results.mapM (NX tmps);pure (if h:vs.size=1 then vs[0]else .tuple vs)):=by
 unfold results
 congr 1
section
variable {P : Program} {B : Base} {s : DS} {a : Act} {w : World} {loc : Nat -> Loc}
structure Reads (B:Base) (s:DS) (a:Act) (w:World) (loc:Nat->Loc):Prop where
 st:St s.own loc B.M0 w.heap
 sl:∀i,rd (Ac s.own loc) (Aa s.own loc++B.M0) w.heap (getS s.slots i) (a.tmps.getD i Go.undef)
theorem eI (R:Reads B s a w loc) {r:ResultVar} {d:DVal} (h:QI P s r=some d) :
  ∃v,(NX a.tmps r).run P w= .ok v w/\Bg s loc B.M0 w d v:=by
 cases r with
 | tmp t =>
  simp only[QI,aA0]at h;subst h;exact⟨_,rfl,R.sl t⟩
 | cell x t =>
  simp only[QI]at h;have hx:=R.sl x
  split at h
  ·rename_i n cs hb hn hc
   split at h
   ·rename_i yD;simp only[aA0]at h;subst h;obtain⟨ad,u,hv,h1,h2⟩:=Ot (P:=P) R.st (b:=true) hb hx hc (fun _=>⟨n,hn,yD⟩) (by simp);exact⟨u,by simp only[NX,hv];simp[asAddr,h1],by simpa[hn]using h2⟩
   ·simp at h
  ·rename_i cs hb hc
   split at h
   ·simp only[aA0]at h;subst h;obtain⟨ad,u,hv,h1,h2⟩:=Ot (P:=P) R.st (b:=false) hb hx hc (by simp) (by simp);exact⟨u,by simp only[NX,hv];simp[asAddr,h1],by simpa using h2⟩
   ·simp at h
  ·simp at h
theorem Xo (R:Reads B s a w loc):∀(rs:List ResultVar) (ds:List DVal),eQ P s rs=some ds ->
  ∃vs:List Value,(rs.mapM (m:=Sem) (NX a.tmps)).run P w= .ok vs w/\rdV (cu s loc) (hm s loc B.M0) w.heap ds vs
 | [],ds,h=>by
  simp only[eQ,aA0]at h;subst h;exact⟨[],by simp,by simp[rdV]⟩
 | r::rs,ds,h=>by
  simp only[eQ]at h
  split at h
  ·rename_i d ds' hd hds;simp only[aA0]at h;subst h;obtain⟨v,h1,h2⟩:=eI R hd;obtain⟨vs,h3,h4⟩:=Xo R rs ds' hds;refine⟨v::vs,?_,by simp only[rdV];exact⟨v,vs,rfl,h2,h4⟩⟩;rw[List.mapM_cons,Sem.run_bind,h1];simp[h3]
  ·simp at h
theorem CB_ (R:Reads B s a w loc) {fn:Func} {d:DVal} (h:MF P s fn.results.toList=some d):∃v,(results fn a.tmps).run P w= .ok v w/\Bg s loc B.M0 w d v:=by
 unfold MF at h
 cases hl:eQ P s fn.results.toList with
 | none=>rw[hl]at h;simp at h
 | some ds =>
  rw[hl]at h;obtain⟨vs,h1,h2⟩:=Xo R _ _ hl;have qU:=AA _ _ h2
  have hm:(fn.results.mapM (m:=Sem) (NX a.tmps)).run P w= .ok vs.toArray w:=by
   rw[<-Array.toArray_toList (xs:=fn.results),List.mapM_toArray,Sem.run_map,h1];rfl
  rw[eP,Sem.run_bind,hm]
  match ds,vs,qU,h2,h with
  | [d0],[v0],_,h2,h =>
   simp only[aA0]at h;subst h;simp only[rdV]at h2;obtain⟨v,r,he,h5,_⟩:=h2;simp only[bG0]at he;obtain⟨rfl,rfl⟩:=he;exact⟨v0,by simp,h5⟩
  | [],[],_,h2,h =>
   simp only[aA0]at h;subst h;exact⟨.tuple #[],by simp,by simp only[Bg,rd];exact⟨#[],rfl,h2⟩⟩
  | d0::d1::ds,v0::v1::vs,_,h2,h =>
   simp only[aA0]at h;subst h;exact⟨.tuple (v0::v1::vs).toArray,by simp,by simp only[Bg,rd];exact⟨_,rfl,h2⟩⟩
end
def Aq : List DVal->Nat->List (Nat×DVal)
 | [],_=>[]
 | d::ds,i=>(i,d)::Aq ds (i+1)
theorem Um : ∀(ds:List DVal) (i t:Nat),getS (Aq ds i) t=if t<i then .any else ds.getD (t-i) .any
 | [],i,t=>by simp[Aq,getS]
 | d::ds,i,t=>by
  simp only[Aq,getS]
  by_cases h:t=i
  ·subst h;simp
  ·rw[if_neg h,Um ds (i+1) t]
   by_cases h1:t<i
   ·rw[if_pos h1,if_pos (by omega)]
   ·rw[if_neg h1,if_neg (by omega)];have:t-i=(t-(i+1))+1:=by omega
    rw[this,List.getD_cons_succ]
theorem St.same {own:List Ent} {loc:Nat->Loc} {M0:List Nat} {h h':Array Obj} (S:St own loc M0 h) (qI:h.size<=h'.size)
  (hd:∀(b:Nat) (o:Obj),FE o=true->h[b]? =some o->h'[b]? =some o) (hb:∀(b:Nat) (o:Obj),b∈Aa own loc->h[b]? =some o->h'[b]? =some o):St own loc M0 h' where
 nd:=S.nd
 bl:=S.bl
 ap:=S.ap
 lt:=fun b hb=>cB0 (S.lt b hb) qI
 ok:=by
  intro e he
  have W:Weak (Ac own loc) (Ac own loc) (Aa own loc++M0) (Aa own loc++M0) h h' (Em e.obj) :=
   ⟨fun _ _ _ _ h=>h,fun b o _ (h1:FE o=true) h2=>hd b o h1 h2,fun b o hb (_:FE o=true) _=>hb⟩
  exact AV W (Nat.le_refl _) (fun b o hm ho=>hb b o (AW he hm) ho) (S.ok e he)
def HN (P:Program) (f:Fn) (vs:Array Value) (w:World) (R:Value->World->Prop):Prop :=
 match f with
 | .func g=>Enters P g/\Calls P g vs w fun e w'=>∃v,e= .returned v/\R v w'
 | .yield l=>∃fn tmps assign body,(Instr.yield l vs).run P w= .ok (.round l fn tmps assign body) w/\RoundIn (wd none) 0 P l fn tmps assign body w fun e w'=>∃v,e= .returned v/\R v w'
 | _=>False
theorem HN.mono {P:Program} {f:Fn} {vs:Array Value} {w:World} {R R':Value->World->Prop} (h:HN P f vs w R) (hr:∀v w',R v w'->R' v w'):HN P f vs w R':=by
 cases f with
 | func g=>exact⟨h.1,h.2.mono fun e w' ⟨v,he,hR⟩=>⟨v,he,hr _ _ hR⟩⟩
 | yield l =>
  obtain⟨fn,tmps,assign,body,h1,h2⟩:=h;exact⟨fn,tmps,assign,body,h1,h2.mono fun e w' ⟨v,he,hR⟩=>⟨v,he,hr _ _ hR⟩⟩
 | method n=>exact h.elim
 | methodOf t n=>exact h.elim
 | via t p f q=>exact h.elim
def Hw_ (P:Program) (g:FuncId×Nat):Prop:=Enters P g.1/\∀args w,args.size=g.2->CallsDIn (wd none) 0 P g.1 args .returning w fun e u' w'=>(∃v,e= .returned v)/\u'= .returning/\w'=w
def SI (P:Program) (fn:Func) (K:DS->DVal->Prop):Exit->DS->Prop
 | .normal,s=>∃d0,MF P s fn.results.toList=some d0/\K s d0
 | .ret,s=>∃d0,MF P s fn.results.toList=some d0/\K s d0
 | _,_=>False
theorem Ja {P:Program} {fn:Func} {tmps:Array Value} {R:Ending->World->Prop} {idle:List (FuncId×Nat)} (hI:∀g∈idle,Hw_ P g):∀(its:List UN) (w:World),(CV its).Nodup->(∀r∈CV its,w.heap[r]? =some (.deferred (some []))) ->
  (∀g cs,(.inr (g,cs):UN)∈its->(g,cs.size)∈idle) ->
  (∀w',Upd (CV its) w w'->w'.heap.size=w.heap.size->∃v,(results fn tmps).run P w'= .ok v w'/\R (.returned v) w') ->
  LeavesInM (wd none) 0 P fn tmps R (its.map Ck_) .returning w
 | [],w,_,_,_,h=>h w (Upd.refl _ _) rfl
 | .inr (g,cs)::its,w,hn,hr,hg,h=>by
  obtain⟨he,hc⟩:=hI _ (hg g cs aH0);refine⟨by simp,.inr ⟨fun h=>by simp[wd]at h,.func g,cs,g, #[]++cs,rfl,he _ _,fun _ _=>trivial,?_⟩⟩;refine CallsDIn.mono (hc _ w (by simp)) ?_;rintro e u' w' ⟨⟨v,rfl⟩,rfl,rfl⟩;exact Ja hI its _ hn hr (fun g' cs' h'=>hg g' cs' (aF0 _ h')) h
 | .inl r::its,w,hn,hr,hg,h=>by
  simp only[CV,cV0]at hn;refine⟨by simp,.inl ⟨r,w.putObj r (.deferred none),rfl,run_takeDeferred (hr r aH0),?_⟩⟩;refine Ja hI its _ hn.2 (fun r' qW=> ?_) (fun g' cs' h'=>hg g' cs' (aF0 _ h')) (fun w' hu hs=>h w' ?_ ?_)
  ·rw[World.putObj_heap_other (fun h=>hn.1 (by rw[h]at qW;exact qW))];exact hr r' (aF0 _ qW)
  ·have pJ:Upd [r] w (w.putObj r (.deferred none)) :=
    ⟨rfl,rfl,rfl,fun _=>Nat.le_refl _,by simp[World.putObj],fun b _ hb=>World.putObj_heap_other (fun h=>hb (by simp[h]))⟩
   refine(show Upd (r::CV its) w w' from ?_);refine⟨hu.os,hu.tape,hu.output,hu.drawn,Nat.le_trans pJ.size hu.size,fun b hb mL=> ?_⟩;rw[hu.blk b (cB0 hb pJ.size) (fun h=>mL (aF0 _ h)),pJ.blk b hb (fun h=>mL (by simp at h;simp[h]))]
  ·rw[hs];simp[World.putObj]
theorem HM {P:Program} (idle:List (FuncId×Nat)) (hI:∀g∈idle,Hw_ P g) {f:FuncId} {fn:Func} {c:Code} {args:List DVal} {own:List Ent} {M:List Nat} {w:World} {loc:Nat->Loc} {vs:Array Value} {N:Nat} {R:Value->World->Prop} {K:DS->DVal->Prop}
  (hf:P.funcs[f]? =some fn) (hb:fn.body=some c) (vJ:Enters P f) (qX:args.length<=fn.ntmps) (S:St own loc M w.heap) (hv:∀e∈own,e.r<N->True)
  (hr:rdV (Ac own loc) (Aa own loc++M) w.heap args vs.toList)
  (h:∀B:Base,(((B.nt=fn.ntmps/\B.ro=none)/\B.idle=idle)/\B.N=N)/\B.own0=own/\B.loc0=loc/\B.M0=M/\B.w0=w->DW P B c (SI P fn K) ⟨Aq args 0,own⟩)
  (fin:∀(s:DS) (loc':Nat->Loc) (w':World) (d0:DVal) (v:Value),K s d0->St s.own loc' M w'.heap->Upd (Aa own loc) w w'->(∀b∈Aa s.own loc',b∈Aa own loc\/w.heap.size<=b) ->
   (∀e∈s.own,e.r<N->Ac own loc e.id e.r=some (loc' e.id))->rd (Ac s.own loc') (Aa s.own loc'++M) w'.heap d0 v->R v w'):HN P (.func f) vs w R:=by
 refine⟨vJ,?_⟩;refine(callsIn_wide (n:=0)).1 ?_;refine callsIn_of_wp_marks hf hb trivial ?_ rfl
 let B:Base:=⟨own,loc,M,N,w,fn.ntmps,none,w.heap.size,Nat.le_refl _,idle⟩
 have qU:=AA _ _ hr
 have R0:Rel B ⟨Aq args 0,own⟩ { tmps:=vs++Array.replicate (fn.ntmps-vs.size) Go.undef,defers:=[] } w loc:=by
  refine⟨S,Upd.refl _ _,fun b hb=> .inl hb,fun e he _=>Ay S.nd he,?_,by show _=fn.ntmps;simp at qU |-;omega,⟨[],rfl,List.nodup_nil,by simp[CV],by simp,by simp⟩⟩;intro i;rw[Um];simp only[Nat.not_lt_zero,if_false,eE0]
  cases hi:args[i]? with
  | none=>simp[bK0,hi,rd]
  | some d0 =>
   obtain⟨v,hv,h1⟩:=QM _ _ i d0 hr hi
   have qV:i<vs.size:=by
    have:=(aB0.1 hv).1;simpa using this
   have zB:vs[i]? =some v:=by simpa using hv
   rw[bK0,hi,aO0,dL0 qV,zB];exact h1
 refine wpIn_mono (h B ⟨⟨⟨⟨rfl,rfl⟩,rfl⟩,rfl⟩,rfl,rfl,rfl,rfl⟩ _ w loc R0) ?_;rintro e a' w' ⟨s',loc',hq,R'⟩
 have key:(∃d0,MF P s' fn.results.toList=some d0/\K s' d0)->LeavesInM (wd none) 0 P fn a'.tmps (fun e w'=>∃v,e= .returned v/\R v w') a'.defers .returning w':=by
  rintro⟨d0,hres,hK⟩;obtain⟨rs,pK,kK,hd2,_,hd4⟩:=R'.df;rw[pK];refine Ja hI rs w' kK (fun r hr=>(hd2 r hr).1) hd4 fun w'' hu hs=> ?_
  have hdd:∀(b:Nat) (o:Obj),FE o=true->w'.heap[b]? =some o->w''.heap[b]? =some o:=by
   intro b o ho hb;have qV:=(aC0.1 hb).1;rw[hu.blk b qV (fun h=>by rw[(hd2 b h).1]at hb;simp only[aA0]at hb;subst hb;simp[FE]at ho)];exact hb
  have wQ:∀(b:Nat) (o:Obj),b∈Aa s'.own loc'->w'.heap[b]? =some o->w''.heap[b]? =some o:=by
   intro b o hm hb;have qV:=(aC0.1 hb).1;rw[hu.blk b qV (fun h=>(hd2 b h).2.2 (aM0 _ hm))];exact hb
  have S'':=R'.st.same (dD0 hs.symm) hdd wQ
  have W:∀n,Weak (Ac s'.own loc') (Ac s'.own loc') (Aa s'.own loc'++M) (Aa s'.own loc'++M) w'.heap w''.heap n:=fun n =>
   ⟨fun _ _ _ _ h=>h,fun b o _ (h1:FE o=true) h2=>hdd b o h1 h2,fun b o hb (_:FE o=true) _=>hb⟩
  have RR:Reads B s' a' w'' loc':=⟨S'',fun i=>Bk (W _) _ _ (Nat.le_refl _) (R'.sl i)⟩;obtain⟨v,h1,h2⟩:=CB_ RR hres;refine⟨v,h1,v,rfl,fin s' loc' w'' d0 v hK S'' ?_ R'.new R'.ver h2⟩;refine R'.upd.trans hu (fun x hx=> .inr (hd2 x hx).2.1)
 cases e<;>simp only[SI]at hq<;>first
  | exact key hq
  | exact hq.elim
theorem Tq {P:Program} (idle:List (FuncId×Nat)) (hI:∀g∈idle,Hw_ P g) {f:FuncId} {fn:Func} {c:Code} {args:List DVal} {own:List Ent} {M:List Nat} {w:World} {loc:Nat->Loc} {vs:Array Value} {N:Nat} {R:Value->World->Prop} {K:DS->DVal->Prop}
  (hf:P.funcs[f]? =some fn) (hb:fn.body=some c) (vJ:Enters P f) (qX:args.length<=fn.ntmps) (S:St own loc M w.heap) (hv:∀e∈own,e.r<N->True)
  (hr:rdV (Ac own loc) (Aa own loc++M) w.heap args vs.toList)
  (h:∀B:Base,((B.nt=fn.ntmps/\B.ro=none)/\B.idle=idle)/\B.N=N->DW P B c (SI P fn K) ⟨Aq args 0,own⟩)
  (fin:∀(s:DS) (loc':Nat->Loc) (w':World) (d0:DVal) (v:Value),K s d0->St s.own loc' M w'.heap->Upd (Aa own loc) w w'->(∀b∈Aa s.own loc',b∈Aa own loc\/w.heap.size<=b) ->
   (∀e∈s.own,e.r<N->Ac own loc e.id e.r=some (loc' e.id))->rd (Ac s.own loc') (Aa s.own loc'++M) w'.heap d0 v->R v w'):HN P (.func f) vs w R :=
 HM idle hI hf hb vJ qX S hv hr (fun B hB=>h B hB.1) fin
theorem NI {P:Program} {f:FuncId} {fn:Func} {c:Code} {args:List DVal} {own:List Ent} {M:List Nat} {w:World} {loc:Nat->Loc} {vs:Array Value} {N:Nat} {R:Value->World->Prop} {K:DS->DVal->Prop} (hN:N<=1)
  (hf:P.funcs[f]? =some fn) (hb:fn.body=some c) (vJ:Enters P f) (qX:args.length<=fn.ntmps) (S:St own loc M w.heap) (hv:∀e∈own,e.r<N->True)
  (hr:rdV (Ac own loc) (Aa own loc++M) w.heap args vs.toList)
  (h:∀B:BaseN,B.nt=fn.ntmps/\B.ro=none->DW P B c (SI P fn K) ⟨Aq args 0,own⟩)
  (fin:∀(s:DS) (loc':Nat->Loc) (w':World) (d0:DVal) (v:Value),K s d0->St s.own loc' M w'.heap->Upd (Aa own loc) w w'->(∀b∈Aa s.own loc',b∈Aa own loc\/w.heap.size<=b) ->
   (∀e∈s.own,e.r<N->Ac own loc e.id e.r=some (loc' e.id))->rd (Ac s.own loc') (Aa s.own loc'++M) w'.heap d0 v->R v w'):HN P (.func f) vs w R :=
 Tq [] (by simp) hf hb vJ qX S hv hr (fun B hB=>h ⟨B,by rw[hB.2];exact hN⟩ hB.1.1) fin
def Iv_ (P:Program) (fn:Func) (d:DVal):Exit->DS->Prop:=SI P fn fun _ d0=>∀cur M h v,rd cur M h d0 v->rd cur M h d v
theorem WR {P:Program} {f:FuncId} {fn:Func} {c:Code} {args:List DVal} {d:DVal} {K:DS->DVal->Prop} (hf:P.funcs[f]? =some fn) (hb:fn.body=some c) (vJ:Enters P f) (qX:args.length<=fn.ntmps)
  (hd:mx d=0) (fin:∀(B:Base) (s:DS) (d0:DVal) (loc:Nat->Loc) (w:World) (v:Value),K s d0->St s.own loc B.M0 w.heap->rd (Ac s.own loc) (Aa s.own loc++B.M0) w.heap d0 v->∃(s':DS) (loc':Nat->Loc),(∀b,b∈B.M0->b∈Aa s'.own loc'++B.M0)/\rd (Ac s'.own loc') (Aa s'.own loc'++B.M0) w.heap d v)
  (h:KI args->∀B:BaseN,B.nt=fn.ntmps/\B.ro=none->DW P B c (SI P fn K) ⟨Aq args 0,[]⟩):Af P f args d:=by
 refine⟨vJ,hd,fun cur M w vs hM hr=> ?_⟩
 have W:Weak cur (Ac [] fun _=>⟨[],Go.undef⟩) M (Aa [] (fun _=>⟨[],Go.undef⟩)++M) w.heap w.heap (AJ args) :=
  ⟨fun id r l _ hl=>by simp[Ac,Ah]at hl,fun b o _ _ ho=>ho,fun b o hb _ _=>by simpa[Aa]using hb⟩
 have S:St [] (fun _=>⟨[],Go.undef⟩) M w.heap:=⟨by simp,by simp[Aa],by simp[Aa],by simpa[Aa]using hM,by simp⟩;have:=NI (P:=P) (R:=fun v w'=>Upd [] w w'/\rd cur M w'.heap d v) (dC0 1) hf hb vJ qX S (by simp) (AP W args _ (Nat.le_refl _) hr) (h (Fh _ _ hr)) ?_
 ·exact this.2
 ·intro s loc' w' d0 v hK hS hu _ _ kK;refine⟨by simpa[Aa]using hu,?_⟩;obtain⟨s1,loc1,jG,h1⟩:=fin ⟨[],loc',M,0,w,0,none,w.heap.size,Nat.le_refl _,[]⟩ s d0 loc' w' v hK hS kK;exact Bk (n:=0) ⟨fun id r l hr=>by omega,fun b o _ _ ho=>ho,fun b o hb _ _ wR=>hb (jG b wR)⟩ d v (by omega) h1
theorem WQ {P:Program} {f:FuncId} {fn:Func} {c:Code} {args:List DVal} {d:DVal} (hf:P.funcs[f]? =some fn) (hb:fn.body=some c) (vJ:Enters P f) (qX:args.length<=fn.ntmps)
  (hd:mx d=0) (h:KI args->∀B:BaseN,B.nt=fn.ntmps/\B.ro=none->DW P B c (Iv_ P fn d) ⟨Aq args 0,[]⟩):Af P f args d :=
 WR hf hb vJ qX hd (fun B s d0 loc w v hK _ kK=>⟨s,loc,fun b hb=>aN0 _ hb,hK _ _ _ _ kK⟩) h
theorem Ec (e:Ent) (l:List Ent) (loc:Nat->Loc):Aa (e::l) loc=(loc e.id).blks++Aa l loc:=by simp[Aa]
theorem EI {loc:Nat->Loc}:∀{own:List Ent},(Aa own loc).Nodup->∀e1∈own,∀e2∈own,∀b,b∈(loc e1.id).blks->b∈(loc e2.id).blks->e1=e2
 | [],_,e1,h1,_,_,_,_,_=>by cases h1
 | e::l,hn,e1,h1,e2,h2,b,qC,wX=>by
  rw[Ec,bX0]at hn;obtain⟨_,hn2,hn3⟩:=hn
  rcases aK0.1 h1 with rfl | kM
  ·rcases aK0.1 h2 with rfl | fG
   ·rfl
   ·exact absurd rfl (hn3 b qC b (AW fG wX))
  ·rcases aK0.1 h2 with rfl | fG
   ·exact absurd rfl (hn3 b wX b (AW kM qC))
   ·exact EI hn2 e1 kM e2 fG b qC wX
theorem DE {loc:Nat->Loc}:∀{own:List Ent},(Aa own loc).Nodup->∀e∈own,((loc e.id).blks).Nodup
 | [],_,e,h=>by cases h
 | a::l,hn,e,h=>by
  rw[Ec,bX0]at hn
  rcases aK0.1 h with rfl | h'
  ·exact hn.1
  ·exact DE hn.2.1 e h'
theorem Df {own:List Ent} {loc:Nat->Loc} (hn:(Aa own loc).Nodup):∀l:List Ent,(l.map (·.id)).Nodup->(∀e∈l,e∈own)->(Aa l loc).Nodup
 | [],_,_=>by simp[Aa]
 | e::l,hd,hm=>by
  simp only[List.map_cons,cV0]at hd;rw[Ec,bX0];refine⟨DE hn e (hm e aH0),Df hn l hd.2 (fun x hx=>hm x (aF0 _ hx)),?_⟩;intro b hb b' qM jI;subst jI;obtain⟨e2,vS,wX⟩:=bP0.1 qM;have:=EI hn e (hm e aH0) e2 (hm e2 (aF0 _ vS)) b hb wX;subst this;exact hd.1 (cX0 (f:=(·.id)) vS)
end Go.Dm
end
