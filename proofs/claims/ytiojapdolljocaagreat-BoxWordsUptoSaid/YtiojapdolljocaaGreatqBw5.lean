/- Parts of a proof, laid together: EnH. -/
import Derived.Test.YtiojapdolljocaaGreatqBw4
set_option linter.unusedSimpArgs false
set_option maxHeartbeats 8000000
set_option linter.unusedVariables false
set_option linter.unusedSectionVars false
section
namespace Go.Dm
variable [DMode]
def PH (P:Program) (s:DS):ResultVar->Option DVal
 | .tmp t=>some (Bg s.slots t)
 | .cell a t=>match tAgg P t,tCells P t,DA s.own (Bg s.slots a)with
  | some true,some n,some cs=>if n<=cs.length then some (.agg (cs.take n))else none
  | some false,_,some cs=>match cs with | d::_=>some d | []=>none
  | _,_,_=>none
def ZC (P:Program) (s:DS):List ResultVar->Option (List DVal)
 | []=>some []
 | r::rs=>match PH P s r,ZC P s rs with
  | some d,some ds=>some (d::ds)
  | _,_=>none
def Oi (P:Program) (s:DS) (rs:List ResultVar):Option DVal :=
 match ZC P s rs with
 | some [d]=>some d
 | some ds=>some (.tup ds)
 | none=>none
def MH (tmps:Array Value):ResultVar->Sem Value
 | .tmp t=>pure (tmps.getD t Go.undef)
 | .cell a t=>do loadVar t (<-asAddr (tmps.getD a Go.undef))
theorem ZB (fn:Func) (tmps:Array Value):results fn tmps=(do let vs <-fn.results.mapM (MH tmps);pure (if h:vs.size=1 then vs[0]else .tuple vs)):=by
 unfold results
 congr 1
section
variable {P : Program} {B : Base} {s : DS} {a : Act} {w : World} {loc : Nat -> Loc}
structure Reads (B:Base) (s:DS) (a:Act) (w:World) (loc:Nat->Loc):Prop where
 st:St s.own loc B.M0 w.heap
 sl:∀i,rd (Ab s.own loc) (Aa s.own loc++B.M0) w.heap (Bg s.slots i) (a.tmps.getD i Go.undef)
theorem Zx (R:Reads B s a w loc) {r:ResultVar} {d:DVal} (h:PH P s r=some d) :
  ∃v,(MH a.tmps r).run P w= .ok v w/\Bb s loc B.M0 w d v:=by
 cases r with
 | tmp t =>
  simp only[PH,aA0]at h;subst h;exact⟨_,rfl,R.sl t⟩
 | cell x t =>
  simp only[PH]at h;have hx:=R.sl x
  split at h
  ·rename_i n cs hb hn hc
   split at h
   ·rename_i zU;simp only[aA0]at h;subst h;obtain⟨ad,u,hv,h1,h2⟩:=MV (P:=P) R.st (b:=true) hb hx hc (fun _=>⟨n,hn,zU⟩) (by simp);exact⟨u,by simp only[MH,hv];simp[asAddr,h1],by simpa[hn]using h2⟩
   ·simp at h
  ·rename_i cs hb hc
   split at h
   ·simp only[aA0]at h;subst h;obtain⟨ad,u,hv,h1,h2⟩:=MV (P:=P) R.st (b:=false) hb hx hc (by simp) (by simp);exact⟨u,by simp only[MH,hv];simp[asAddr,h1],by simpa using h2⟩
   ·simp at h
  ·simp at h
theorem VW (R:Reads B s a w loc):∀(rs:List ResultVar) (ds:List DVal),ZC P s rs=some ds ->
  ∃vs:List Value,(rs.mapM (m:=Sem) (MH a.tmps)).run P w= .ok vs w/\Aw (cu s loc) (hm s loc B.M0) w.heap ds vs
 | [],ds,h=>by
  simp only[ZC,aA0]at h;subst h;exact⟨[],by simp,by simp[Aw]⟩
 | r::rs,ds,h=>by
  simp only[ZC]at h
  split at h
  ·rename_i d ds' hd hds;simp only[aA0]at h;subst h;obtain⟨v,h1,h2⟩:=Zx R hd;obtain⟨vs,h3,h4⟩:=VW R rs ds' hds;refine⟨v::vs,?_,by simp only[Aw];exact⟨v,vs,rfl,h2,h4⟩⟩;rw[List.mapM_cons,Sem.run_bind,h1];simp[h3]
  ·simp at h
theorem xX (R:Reads B s a w loc) {fn:Func} {d:DVal} (h:Oi P s fn.results.toList=some d):∃v,(results fn a.tmps).run P w= .ok v w/\Bb s loc B.M0 w d v:=by
 unfold Oi at h
 cases hl:ZC P s fn.results.toList with
 | none=>rw[hl]at h;simp at h
 | some ds =>
  rw[hl]at h;obtain⟨vs,h1,h2⟩:=VW R _ _ hl;have qY:=Aq _ _ h2
  have hm:(fn.results.mapM (m:=Sem) (MH a.tmps)).run P w= .ok vs.toArray w:=by
   rw[<-Array.toArray_toList (xs:=fn.results),List.mapM_toArray,Sem.run_map,h1];rfl
  rw[ZB,Sem.run_bind,hm]
  match ds,vs,qY,h2,h with
  | [d0],[v0],_,h2,h =>
   simp only[aA0]at h;subst h;simp only[Aw]at h2;obtain⟨v,r,he,h5,_⟩:=h2;simp only[bF0]at he;obtain⟨rfl,rfl⟩:=he;exact⟨v0,by simp,h5⟩
  | [],[],_,h2,h =>
   simp only[aA0]at h;subst h;exact⟨.tuple #[],by simp,by simp only[Bb,rd];exact⟨#[],rfl,h2⟩⟩
  | d0::d1::ds,v0::v1::vs,_,h2,h =>
   simp only[aA0]at h;subst h;exact⟨.tuple (v0::v1::vs).toArray,by simp,by simp only[Bb,rd];exact⟨_,rfl,h2⟩⟩
end
def Ap : List DVal->Nat->List (Nat×DVal)
 | [],_=>[]
 | d::ds,i=>(i,d)::Ap ds (i+1)
theorem Te : ∀(ds:List DVal) (i t:Nat),Bg (Ap ds i) t=if t<i then .any else ds.getD (t-i) .any
 | [],i,t=>by simp[Ap,Bg]
 | d::ds,i,t=>by
  simp only[Ap,Bg]
  by_cases h:t=i
  ·subst h;simp
  ·rw[if_neg h,Te ds (i+1) t]
   by_cases h1:t<i
   ·rw[if_pos h1,if_pos (by omega)]
   ·rw[if_neg h1,if_neg (by omega)];have:t-i=(t-(i+1))+1:=by omega
    rw[this,List.getD_cons_succ]
theorem St.same {own:List Ent} {loc:Nat->Loc} {M0:List Nat} {h h':Array Obj} (S:St own loc M0 h) (qD:h.size<=h'.size)
  (hd:∀(b:Nat) (o:Obj),Gh o=true->h[b]? =some o->h'[b]? =some o) (hb:∀(b:Nat) (o:Obj),b∈Aa own loc->h[b]? =some o->h'[b]? =some o):St own loc M0 h' where
 nd:=S.nd
 bl:=S.bl
 ap:=S.ap
 lt:=fun b hb=>cD0 (S.lt b hb) qD
 ok:=by
  intro e he
  have W:Weak (Ab own loc) (Ab own loc) (Aa own loc++M0) (Aa own loc++M0) h h' (EP e.obj) :=
   ⟨fun _ _ _ _ h=>h,fun b o _ (h1:Gh o=true) h2=>hd b o h1 h2,fun b o hb (_:Gh o=true) _=>hb⟩
  exact Bd W (Nat.le_refl _) (fun b o hm ho=>hb b o (AY he hm) ho) (S.ok e he)
def JA (P:Program) (f:Fn) (vs:Array Value) (w:World) (R:Value->World->Prop):Prop :=
 match f with
 | .func g=>Enters P g/\Calls P g vs w fun e w'=>∃v,e= .returned v/\R v w'
 | .yield l=>∃fn tmps assign body,(Instr.yield l vs).run P w= .ok (.round l fn tmps assign body) w/\RoundIn (wd none) 0 P l fn tmps assign body w fun e w'=>∃v,e= .returned v/\R v w'
 | _=>False
theorem JA.mono {P:Program} {f:Fn} {vs:Array Value} {w:World} {R R':Value->World->Prop} (h:JA P f vs w R) (hr:∀v w',R v w'->R' v w'):JA P f vs w R':=by
 cases f with
 | func g=>exact⟨h.1,h.2.mono fun e w' ⟨v,he,hR⟩=>⟨v,he,hr _ _ hR⟩⟩
 | yield l =>
  obtain⟨fn,tmps,assign,body,h1,h2⟩:=h;exact⟨fn,tmps,assign,body,h1,h2.mono fun e w' ⟨v,he,hR⟩=>⟨v,he,hr _ _ hR⟩⟩
 | method n=>exact h.elim
 | methodOf t n=>exact h.elim
 | via t p f q=>exact h.elim
def uX (P:Program) (fn:Func) (K:DS->DVal->Prop):Exit->DS->Prop
 | .normal,s=>∃d0,Oi P s fn.results.toList=some d0/\K s d0
 | .ret,s=>∃d0,Oi P s fn.results.toList=some d0/\K s d0
 | _,_=>False
theorem LP {P:Program} {fn:Func} {tmps:Array Value} {R:Ending->World->Prop}:∀(rs:List Nat) (w:World),rs.Nodup->(∀r∈rs,w.heap[r]? =some (.deferred (some []))) ->
  (∀w',Upd rs w w'->w'.heap.size=w.heap.size->∃v,(results fn tmps).run P w'= .ok v w'/\R (.returned v) w') ->
  LeavesInM (wd none) 0 P fn tmps R (rs.map fun r=>{ target:= .collected r,args:= #[] }) .returning w
 | [],w,_,_,h=>h w (Upd.refl _ _) rfl
 | r::rs,w,hn,hr,h=>by
  simp only[cG0]at hn;refine⟨by simp,.inl ⟨r,w.putObj r (.deferred none),rfl,run_takeDeferred (hr r aK0),?_⟩⟩;refine LP rs _ hn.2 (fun r' wG=> ?_) (fun w' hu hs=>h w' ?_ ?_)
  ·rw[World.putObj_heap_other (fun h=>hn.1 (by rw[h]at wG;exact wG))];exact hr r' (aI0 _ wG)
  ·have hu0:Upd [r] w (w.putObj r (.deferred none)) :=
    ⟨rfl,rfl,rfl,fun _=>Nat.le_refl _,by simp[World.putObj],fun b _ hb=>World.putObj_heap_other (fun h=>hb (by simp[h]))⟩
   refine(show Upd (r::rs) w w' from ?_);refine⟨hu.os,hu.tape,hu.output,hu.drawn,Nat.le_trans hu0.size hu.size,fun b hb dO=> ?_⟩;rw[hu.blk b (cD0 hb hu0.size) (fun h=>dO (aI0 _ h)),hu0.blk b hb (fun h=>dO (by simp at h;simp[h]))]
  ·rw[hs];simp[World.putObj]
theorem Mz {P:Program} {f:FuncId} {fn:Func} {c:Code} {args:List DVal} {own:List Ent} {M:List Nat} {w:World} {loc:Nat->Loc} {vs:Array Value} {N:Nat} {R:Value->World->Prop} {K:DS->DVal->Prop} (hN:N<=1)
  (hf:P.funcs[f]? =some fn) (hb:fn.body=some c) (vK:Enters P f) (qX:args.length<=fn.ntmps) (S:St own loc M w.heap) (hv:∀e∈own,e.r<N->True)
  (hr:Aw (Ab own loc) (Aa own loc++M) w.heap args vs.toList)
  (h:∀B:Base,B.nt=fn.ntmps/\B.ro=none->DW P B c (uX P fn K) ⟨Ap args 0,own⟩)
  (fin:∀(s:DS) (loc':Nat->Loc) (w':World) (d0:DVal) (v:Value),K s d0->St s.own loc' M w'.heap->Upd (Aa own loc) w w'->(∀b∈Aa s.own loc',b∈Aa own loc\/w.heap.size<=b) ->
   (∀e∈s.own,e.r<N->Ab own loc e.id e.r=some (loc' e.id))->rd (Ab s.own loc') (Aa s.own loc'++M) w'.heap d0 v->R v w'):JA P (.func f) vs w R:=by
 refine⟨vK,?_⟩;refine(callsIn_wide (n:=0)).1 ?_;refine callsIn_of_wp_marks hf hb trivial ?_ rfl
 let B:Base:=⟨own,loc,M,N,w,fn.ntmps,none,hN,w.heap.size,Nat.le_refl _⟩
 have qY:=Aq _ _ hr
 have R0:Rel B ⟨Ap args 0,own⟩ { tmps:=vs++Array.replicate (fn.ntmps-vs.size) Go.undef,defers:=[] } w loc:=by
  refine⟨S,Upd.refl _ _,fun b hb=> .inl hb,fun e he _=>AG S.nd he,?_,by show _=fn.ntmps;simp at qY |-;omega,⟨[],rfl,List.nodup_nil,by simp⟩⟩;intro i;rw[Te];simp only[Nat.not_lt_zero,if_false,Nat.sub_zero]
  cases hi:args[i]? with
  | none=>simp[bA0,hi,rd]
  | some d0 =>
   obtain⟨v,hv,h1⟩:=PM _ _ i d0 hr hi
   have qV:i<vs.size:=by
    have:=(aF0.1 hv).1;simpa using this
   have fX:vs[i]? =some v:=by simpa using hv
   rw[bA0,hi,aN0,dL0 qV,fX];exact h1
 refine wpIn_mono (h B ⟨rfl,rfl⟩ _ w loc R0) ?_;rintro e a' w' ⟨s',loc',hq,R'⟩
 have key:(∃d0,Oi P s' fn.results.toList=some d0/\K s' d0)->LeavesInM (wd none) 0 P fn a'.tmps (fun e w'=>∃v,e= .returned v/\R v w') a'.defers .returning w':=by
  rintro⟨d0,hres,hK⟩;obtain⟨rs,hd1,gJ,hd2,_⟩:=R'.df;rw[hd1];refine LP rs w' gJ (fun r hr=>(hd2 r hr).1) fun w'' hu hs=> ?_
  have hdd:∀(b:Nat) (o:Obj),Gh o=true->w'.heap[b]? =some o->w''.heap[b]? =some o:=by
   intro b o ho hb;have qV:=(aD0.1 hb).1;rw[hu.blk b qV (fun h=>by rw[(hd2 b h).1]at hb;simp only[aA0]at hb;subst hb;simp[Gh]at ho)];exact hb
  have qF:∀(b:Nat) (o:Obj),b∈Aa s'.own loc'->w'.heap[b]? =some o->w''.heap[b]? =some o:=by
   intro b o hm hb;have qV:=(aD0.1 hb).1;rw[hu.blk b qV (fun h=>(hd2 b h).2.2 (aH0 _ hm))];exact hb
  have S'':=R'.st.same (cU0 hs.symm) hdd qF
  have W:∀n,Weak (Ab s'.own loc') (Ab s'.own loc') (Aa s'.own loc'++M) (Aa s'.own loc'++M) w'.heap w''.heap n:=fun n =>
   ⟨fun _ _ _ _ h=>h,fun b o _ (h1:Gh o=true) h2=>hdd b o h1 h2,fun b o hb (_:Gh o=true) _=>hb⟩
  have RR:Reads B s' a' w'' loc':=⟨S'',fun i=>Ch (W _) _ _ (Nat.le_refl _) (R'.sl i)⟩;obtain⟨v,h1,h2⟩:=xX RR hres;refine⟨v,h1,v,rfl,fin s' loc' w'' d0 v hK S'' ?_ R'.new R'.ver h2⟩;refine R'.upd.trans hu (fun x hx=> .inr (hd2 x hx).2.1)
 cases e<;>simp only[uX]at hq<;>first
  | exact key hq
  | exact hq.elim
def FN_ (P:Program) (fn:Func) (d:DVal):Exit->DS->Prop:=uX P fn fun _ d0=>∀cur M h v,rd cur M h d0 v->rd cur M h d v
theorem Vx {P:Program} {f:FuncId} {fn:Func} {c:Code} {args:List DVal} {d:DVal} {K:DS->DVal->Prop} (hf:P.funcs[f]? =some fn) (hb:fn.body=some c) (vK:Enters P f) (qX:args.length<=fn.ntmps)
  (hd:mx d=0) (fin:∀(B:Base) (s:DS) (d0:DVal) (loc:Nat->Loc) (w:World) (v:Value),K s d0->St s.own loc B.M0 w.heap->rd (Ab s.own loc) (Aa s.own loc++B.M0) w.heap d0 v->∃(s':DS) (loc':Nat->Loc),(∀b,b∈B.M0->b∈Aa s'.own loc'++B.M0)/\rd (Ab s'.own loc') (Aa s'.own loc'++B.M0) w.heap d v)
  (h:Iy args->∀B:Base,B.nt=fn.ntmps/\B.ro=none->DW P B c (uX P fn K) ⟨Ap args 0,[]⟩):Ag P f args d:=by
 refine⟨vK,hd,fun cur M w vs hM hr=> ?_⟩
 have W:Weak cur (Ab [] fun _=>⟨[],Go.undef⟩) M (Aa [] (fun _=>⟨[],Go.undef⟩)++M) w.heap w.heap (AJ args) :=
  ⟨fun id r l _ hl=>by simp[Ab,Aj]at hl,fun b o _ _ ho=>ho,fun b o hb _ _=>by simpa[Aa]using hb⟩
 have S:St [] (fun _=>⟨[],Go.undef⟩) M w.heap:=⟨by simp,by simp[Aa],by simp[Aa],by simpa[Aa]using hM,by simp⟩;have:=Mz (P:=P) (R:=fun v w'=>Upd [] w w'/\rd cur M w'.heap d v) (cW0 1) hf hb vK qX S (by simp) (AL W args _ (Nat.le_refl _) hr) (h (FM _ _ hr)) ?_
 ·exact this.2
 ·intro s loc' w' d0 v hK hS hu _ _ gJ;refine⟨by simpa[Aa]using hu,?_⟩;obtain⟨s1,loc1,jE,h1⟩:=fin ⟨[],loc',M,0,w,0,none,by decide,w.heap.size,Nat.le_refl _⟩ s d0 loc' w' v hK hS gJ;exact Ch (n:=0) ⟨fun id r l hr=>by omega,fun b o _ _ ho=>ho,fun b o hb _ _ vX=>hb (jE b vX)⟩ d v (by omega) h1
theorem Vw {P:Program} {f:FuncId} {fn:Func} {c:Code} {args:List DVal} {d:DVal} (hf:P.funcs[f]? =some fn) (hb:fn.body=some c) (vK:Enters P f) (qX:args.length<=fn.ntmps)
  (hd:mx d=0) (h:Iy args->∀B:Base,B.nt=fn.ntmps/\B.ro=none->DW P B c (FN_ P fn d) ⟨Ap args 0,[]⟩):Ag P f args d :=
 Vx hf hb vK qX hd (fun B s d0 loc w v hK _ gJ=>⟨s,loc,fun b hb=>aJ0 _ hb,hK _ _ _ _ gJ⟩) h
theorem DN (e:Ent) (l:List Ent) (loc:Nat->Loc):Aa (e::l) loc=(loc e.id).blks++Aa l loc:=by simp[Aa]
theorem Fz {loc:Nat->Loc}:∀{own:List Ent},(Aa own loc).Nodup->∀e1∈own,∀e2∈own,∀b,b∈(loc e1.id).blks->b∈(loc e2.id).blks->e1=e2
 | [],_,e1,h1,_,_,_,_,_=>by cases h1
 | e::l,hn,e1,h1,e2,h2,b,qS,wV=>by
  rw[DN,bS0]at hn;obtain⟨_,cQ,hn3⟩:=hn
  rcases aL0.1 h1 with rfl | yG
  ·rcases aL0.1 h2 with rfl | kW
   ·rfl
   ·exact absurd rfl (hn3 b qS b (AY kW wV))
  ·rcases aL0.1 h2 with rfl | kW
   ·exact absurd rfl (hn3 b wV b (AY yG qS))
   ·exact Fz cQ e1 yG e2 kW b qS wV
theorem Dt {loc:Nat->Loc}:∀{own:List Ent},(Aa own loc).Nodup->∀e∈own,((loc e.id).blks).Nodup
 | [],_,e,h=>by cases h
 | a::l,hn,e,h=>by
  rw[DN,bS0]at hn
  rcases aL0.1 h with rfl | h'
  ·exact hn.1
  ·exact Dt hn.2.1 e h'
theorem DM {own:List Ent} {loc:Nat->Loc} (hn:(Aa own loc).Nodup):∀l:List Ent,(l.map (·.id)).Nodup->(∀e∈l,e∈own)->(Aa l loc).Nodup
 | [],_,_=>by simp[Aa]
 | e::l,hd,hm=>by
  simp only[List.map_cons,cG0]at hd;rw[DN,bS0];refine⟨Dt hn e (hm e aK0),DM hn l hd.2 (fun x hx=>hm x (aI0 _ hx)),?_⟩;intro b hb b' qL gS;subst gS;obtain⟨e2,vU,wV⟩:=bW0.1 qL;have:=Fz hn e (hm e aK0) e2 (hm e2 (aI0 _ vU)) b hb wV;subst this;exact hd.1 (cN0 (f:=(·.id)) vU)
end Go.Dm
end
