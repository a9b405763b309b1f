/- Parts of a proof, laid together: EnH. -/
import Derived.Test.YtiojapdolljocaaGreatqBo4
set_option linter.unusedSimpArgs false
set_option maxHeartbeats 8000000
set_option linter.unusedVariables false
set_option linter.unusedSectionVars false
section
namespace Go.Dm
variable [DMode]
def OY (P:Program) (s:DS):ResultVar->Option DVal
 | .tmp t=>some (Be s.slots t)
 | .cell a t=>match tAgg P t,tCells P t,Du s.own (Be s.slots a)with
  | some true,some n,some cs=>if n<=cs.length then some (.agg (cs.take n))else none
  | some false,_,some cs=>match cs with | d::_=>some d | []=>none
  | _,_,_=>none
def YW (P:Program) (s:DS):List ResultVar->Option (List DVal)
 | []=>some []
 | r::rs=>match OY P s r,YW P s rs with
  | some d,some ds=>some (d::ds)
  | _,_=>none
def NJ (P:Program) (s:DS) (rs:List ResultVar):Option DVal :=
 match YW P s rs with
 | some [d]=>some d
 | some ds=>some (.tup ds)
 | none=>none
def Mr (tmps:Array Value):ResultVar->Sem Value
 | .tmp t=>pure (tmps.getD t Go.undef)
 | .cell a t=>do loadVar t (<-asAddr (tmps.getD a Go.undef))
theorem YV (fn:Func) (tmps:Array Value):results fn tmps=(do let vs <-fn.results.mapM (Mr tmps);pure (if h:vs.size=1 then vs[0]else .tuple vs)):=by
 unfold results
 congr 1
section
variable {P : Program} {B : Base} {s : DS} {a : Act} {w : World} {loc : Nat -> Loc}
structure Reads (B:Base) (s:DS) (a:Act) (w:World) (loc:Nat->Loc):Prop where
 st:St s.own loc B.M0 w.heap
 sl:∀i,rd (Ad s.own loc) (Aa s.own loc++B.M0) w.heap (Be s.slots i) (a.tmps.getD i Go.undef)
theorem YR (R:Reads B s a w loc) {r:ResultVar} {d:DVal} (h:OY P s r=some d) :
  ∃v,(Mr a.tmps r).run P w= .ok v w/\Bb s loc B.M0 w d v:=by
 cases r with
 | tmp t =>
  simp only[OY,aA0]at h;subst h;exact⟨_,rfl,R.sl t⟩
 | cell x t =>
  simp only[OY]at h;have hx:=R.sl x
  split at h
  ·rename_i n cs hb hn hc
   split at h
   ·rename_i yL;simp only[aA0]at h;subst h;obtain⟨ad,u,hv,h1,h2⟩:=MG (P:=P) R.st (b:=true) hb hx hc (fun _=>⟨n,hn,yL⟩) (by simp);exact⟨u,by simp only[Mr,hv];simp[asAddr,h1],by simpa[hn]using h2⟩
   ·simp at h
  ·rename_i cs hb hc
   split at h
   ·simp only[aA0]at h;subst h;obtain⟨ad,u,hv,h1,h2⟩:=MG (P:=P) R.st (b:=false) hb hx hc (by simp) (by simp);exact⟨u,by simp only[Mr,hv];simp[asAddr,h1],by simpa using h2⟩
   ·simp at h
  ·simp at h
theorem Vo (R:Reads B s a w loc):∀(rs:List ResultVar) (ds:List DVal),YW P s rs=some ds ->
  ∃vs:List Value,(rs.mapM (m:=Sem) (Mr a.tmps)).run P w= .ok vs w/\Au (cu s loc) (hm s loc B.M0) w.heap ds vs
 | [],ds,h=>by
  simp only[YW,aA0]at h;subst h;exact⟨[],by simp,by simp[Au]⟩
 | r::rs,ds,h=>by
  simp only[YW]at h
  split at h
  ·rename_i d ds' hd hds;simp only[aA0]at h;subst h;obtain⟨v,h1,h2⟩:=YR R hd;obtain⟨vs,h3,h4⟩:=Vo R rs ds' hds;refine⟨v::vs,?_,by simp only[Au];exact⟨v,vs,rfl,h2,h4⟩⟩;rw[List.mapM_cons,Sem.run_bind,h1];simp[h3]
  ·simp at h
theorem xC (R:Reads B s a w loc) {fn:Func} {d:DVal} (h:NJ P s fn.results.toList=some d):∃v,(results fn a.tmps).run P w= .ok v w/\Bb s loc B.M0 w d v:=by
 unfold NJ at h
 cases hl:YW P s fn.results.toList with
 | none=>rw[hl]at h;simp at h
 | some ds =>
  rw[hl]at h;obtain⟨vs,h1,h2⟩:=Vo R _ _ hl;have qU:=Ap _ _ h2
  have hm:(fn.results.mapM (m:=Sem) (Mr a.tmps)).run P w= .ok vs.toArray w:=by
   rw[<-Array.toArray_toList (xs:=fn.results),List.mapM_toArray,Sem.run_map,h1];rfl
  rw[YV,Sem.run_bind,hm]
  match ds,vs,qU,h2,h with
  | [d0],[v0],_,h2,h =>
   simp only[aA0]at h;subst h;simp only[Au]at h2;obtain⟨v,r,he,h5,_⟩:=h2;simp only[bG0]at he;obtain⟨rfl,rfl⟩:=he;exact⟨v0,by simp,h5⟩
  | [],[],_,h2,h =>
   simp only[aA0]at h;subst h;exact⟨.tuple #[],by simp,by simp only[Bb,rd];exact⟨#[],rfl,h2⟩⟩
  | d0::d1::ds,v0::v1::vs,_,h2,h =>
   simp only[aA0]at h;subst h;exact⟨.tuple (v0::v1::vs).toArray,by simp,by simp only[Bb,rd];exact⟨_,rfl,h2⟩⟩
end
def Ak : List DVal->Nat->List (Nat×DVal)
 | [],_=>[]
 | d::ds,i=>(i,d)::Ak ds (i+1)
theorem MJ : ∀(ds:List DVal) (i t:Nat),Be (Ak ds i) t=if t<i then .any else ds.getD (t-i) .any
 | [],i,t=>by simp[Ak,Be]
 | d::ds,i,t=>by
  simp only[Ak,Be]
  by_cases h:t=i
  ·subst h;simp
  ·rw[if_neg h,MJ ds (i+1) t]
   by_cases h1:t<i
   ·rw[if_pos h1,if_pos (by omega)]
   ·rw[if_neg h1,if_neg (by omega)];have:t-i=(t-(i+1))+1:=by omega
    rw[this,List.getD_cons_succ]
theorem St.same {own:List Ent} {loc:Nat->Loc} {M0:List Nat} {h h':Array Obj} (S:St own loc M0 h) (qF:h.size<=h'.size)
  (hd:∀(b:Nat) (o:Obj),FY o=true->h[b]? =some o->h'[b]? =some o) (hb:∀(b:Nat) (o:Obj),b∈Aa own loc->h[b]? =some o->h'[b]? =some o):St own loc M0 h' where
 nd:=S.nd
 bl:=S.bl
 ap:=S.ap
 lt:=fun b hb=>cG0 (S.lt b hb) qF
 ok:=by
  intro e he
  have W:Weak (Ad own loc) (Ad own loc) (Aa own loc++M0) (Aa own loc++M0) h h' (Ez e.obj) :=
   ⟨fun _ _ _ _ h=>h,fun b o _ (h1:FY o=true) h2=>hd b o h1 h2,fun b o hb (_:FY o=true) _=>hb⟩
  exact Bd W (Nat.le_refl _) (fun b o hm ho=>hb b o (AZ he hm) ho) (S.ok e he)
def Je (P:Program) (f:Fn) (vs:Array Value) (w:World) (R:Value->World->Prop):Prop :=
 match f with
 | .func g=>Enters P g/\Calls P g vs w fun e w'=>∃v,e= .returned v/\R v w'
 | .yield l=>∃fn tmps assign body,(Instr.yield l vs).run P w= .ok (.round l fn tmps assign body) w/\RoundIn (wd none) 0 P l fn tmps assign body w fun e w'=>∃v,e= .returned v/\R v w'
 | _=>False
theorem Je.mono {P:Program} {f:Fn} {vs:Array Value} {w:World} {R R':Value->World->Prop} (h:Je P f vs w R) (hr:∀v w',R v w'->R' v w'):Je P f vs w R':=by
 cases f with
 | func g=>exact⟨h.1,h.2.mono fun e w' ⟨v,he,hR⟩=>⟨v,he,hr _ _ hR⟩⟩
 | yield l =>
  obtain⟨fn,tmps,assign,body,h1,h2⟩:=h;exact⟨fn,tmps,assign,body,h1,h2.mono fun e w' ⟨v,he,hR⟩=>⟨v,he,hr _ _ hR⟩⟩
 | method n=>exact h.elim
 | methodOf t n=>exact h.elim
 | via t p f q=>exact h.elim
def tX (P:Program) (fn:Func) (K:DS->DVal->Prop):Exit->DS->Prop
 | .normal,s=>∃d0,NJ P s fn.results.toList=some d0/\K s d0
 | .ret,s=>∃d0,NJ P s fn.results.toList=some d0/\K s d0
 | _,_=>False
theorem Ls {P:Program} {fn:Func} {tmps:Array Value} {R:Ending->World->Prop}:∀(rs:List Nat) (w:World),rs.Nodup->(∀r∈rs,w.heap[r]? =some (.deferred (some []))) ->
  (∀w',Upd rs w w'->w'.heap.size=w.heap.size->∃v,(results fn tmps).run P w'= .ok v w'/\R (.returned v) w') ->
  LeavesInM (wd none) 0 P fn tmps R (rs.map fun r=>{ target:= .collected r,args:= #[] }) .returning w
 | [],w,_,_,h=>h w (Upd.refl _ _) rfl
 | r::rs,w,hn,hr,h=>by
  simp only[cH0]at hn;refine⟨by simp,.inl ⟨r,w.putObj r (.deferred none),rfl,run_takeDeferred (hr r aH0),?_⟩⟩;refine Ls rs _ hn.2 (fun r' wJ=> ?_) (fun w' hu hs=>h w' ?_ ?_)
  ·rw[World.putObj_heap_other (fun h=>hn.1 (by rw[h]at wJ;exact wJ))];exact hr r' (aF0 _ wJ)
  ·have hu0:Upd [r] w (w.putObj r (.deferred none)) :=
    ⟨rfl,rfl,rfl,fun _=>Nat.le_refl _,by simp[World.putObj],fun b _ hb=>World.putObj_heap_other (fun h=>hb (by simp[h]))⟩
   refine(show Upd (r::rs) w w' from ?_);refine⟨hu.os,hu.tape,hu.output,hu.drawn,Nat.le_trans hu0.size hu.size,fun b hb dA=> ?_⟩;rw[hu.blk b (cG0 hb hu0.size) (fun h=>dA (aF0 _ h)),hu0.blk b hb (fun h=>dA (by simp at h;simp[h]))]
  ·rw[hs];simp[World.putObj]
theorem Mf {P:Program} {f:FuncId} {fn:Func} {c:Code} {args:List DVal} {own:List Ent} {M:List Nat} {w:World} {loc:Nat->Loc} {vs:Array Value} {N:Nat} {R:Value->World->Prop} {K:DS->DVal->Prop} (hN:N<=1)
  (hf:P.funcs[f]? =some fn) (hb:fn.body=some c) (vH:Enters P f) (qX:args.length<=fn.ntmps) (S:St own loc M w.heap) (hv:∀e∈own,e.r<N->True)
  (hr:Au (Ad own loc) (Aa own loc++M) w.heap args vs.toList)
  (h:∀B:Base,B.nt=fn.ntmps/\B.ro=none->DW P B c (tX P fn K) ⟨Ak args 0,own⟩)
  (fin:∀(s:DS) (loc':Nat->Loc) (w':World) (d0:DVal) (v:Value),K s d0->St s.own loc' M w'.heap->Upd (Aa own loc) w w'->(∀b∈Aa s.own loc',b∈Aa own loc\/w.heap.size<=b) ->
   (∀e∈s.own,e.r<N->Ad own loc e.id e.r=some (loc' e.id))->rd (Ad s.own loc') (Aa s.own loc'++M) w'.heap d0 v->R v w'):Je P (.func f) vs w R:=by
 refine⟨vH,?_⟩;refine(callsIn_wide (n:=0)).1 ?_;refine callsIn_of_wp_marks hf hb trivial ?_ rfl
 let B:Base:=⟨own,loc,M,N,w,fn.ntmps,none,hN,w.heap.size,Nat.le_refl _⟩
 have qU:=Ap _ _ hr
 have R0:Rel B ⟨Ak args 0,own⟩ { tmps:=vs++Array.replicate (fn.ntmps-vs.size) Go.undef,defers:=[] } w loc:=by
  refine⟨S,Upd.refl _ _,fun b hb=> .inl hb,fun e he _=>AG S.nd he,?_,by show _=fn.ntmps;simp at qU |-;omega,⟨[],rfl,List.nodup_nil,by simp⟩⟩;intro i;rw[MJ];simp only[eE0,if_false,eG0]
  cases hi:args[i]? with
  | none=>simp[aM0,hi,rd]
  | some d0 =>
   obtain⟨v,hv,h1⟩:=Mu _ _ i d0 hr hi
   have qV:i<vs.size:=by
    have:=(aG0.1 hv).1;simpa using this
   have kT:vs[i]? =some v:=by simpa using hv
   rw[aM0,hi,aK0,dL0 qV,kT];exact h1
 refine wpIn_mono (h B ⟨rfl,rfl⟩ _ w loc R0) ?_;rintro e a' w' ⟨s',loc',hq,R'⟩
 have key:(∃d0,NJ P s' fn.results.toList=some d0/\K s' d0)->LeavesInM (wd none) 0 P fn a'.tmps (fun e w'=>∃v,e= .returned v/\R v w') a'.defers .returning w':=by
  rintro⟨d0,hres,hK⟩;obtain⟨rs,hd1,fS,hd2,_⟩:=R'.df;rw[hd1];refine Ls rs w' fS (fun r hr=>(hd2 r hr).1) fun w'' hu hs=> ?_
  have hdd:∀(b:Nat) (o:Obj),FY o=true->w'.heap[b]? =some o->w''.heap[b]? =some o:=by
   intro b o ho hb;have qV:=(aC0.1 hb).1;rw[hu.blk b qV (fun h=>by rw[(hd2 b h).1]at hb;simp only[aA0]at hb;subst hb;simp[FY]at ho)];exact hb
  have wQ:∀(b:Nat) (o:Obj),b∈Aa s'.own loc'->w'.heap[b]? =some o->w''.heap[b]? =some o:=by
   intro b o hm hb;have qV:=(aC0.1 hb).1;rw[hu.blk b qV (fun h=>(hd2 b h).2.2 (aL0 _ hm))];exact hb
  have S'':=R'.st.same (dF0 hs.symm) hdd wQ
  have W:∀n,Weak (Ad s'.own loc') (Ad s'.own loc') (Aa s'.own loc'++M) (Aa s'.own loc'++M) w'.heap w''.heap n:=fun n =>
   ⟨fun _ _ _ _ h=>h,fun b o _ (h1:FY o=true) h2=>hdd b o h1 h2,fun b o hb (_:FY o=true) _=>hb⟩
  have RR:Reads B s' a' w'' loc':=⟨S'',fun i=>Cc (W _) _ _ (Nat.le_refl _) (R'.sl i)⟩;obtain⟨v,h1,h2⟩:=xC RR hres;refine⟨v,h1,v,rfl,fin s' loc' w'' d0 v hK S'' ?_ R'.new R'.ver h2⟩;refine R'.upd.trans hu (fun x hx=> .inr (hd2 x hx).2.1)
 cases e<;>simp only[tX]at hq<;>first
  | exact key hq
  | exact hq.elim
def FJ_ (P:Program) (fn:Func) (d:DVal):Exit->DS->Prop:=tX P fn fun _ d0=>∀cur M h v,rd cur M h d0 v->rd cur M h d v
theorem US {P:Program} {f:FuncId} {fn:Func} {c:Code} {args:List DVal} {d:DVal} {K:DS->DVal->Prop} (hf:P.funcs[f]? =some fn) (hb:fn.body=some c) (vH:Enters P f) (qX:args.length<=fn.ntmps)
  (hd:mx d=0) (fin:∀(B:Base) (s:DS) (d0:DVal) (loc:Nat->Loc) (w:World) (v:Value),K s d0->St s.own loc B.M0 w.heap->rd (Ad s.own loc) (Aa s.own loc++B.M0) w.heap d0 v->∃(s':DS) (loc':Nat->Loc),(∀b,b∈B.M0->b∈Aa s'.own loc'++B.M0)/\rd (Ad s'.own loc') (Aa s'.own loc'++B.M0) w.heap d v)
  (h:JP args->∀B:Base,B.nt=fn.ntmps/\B.ro=none->DW P B c (tX P fn K) ⟨Ak args 0,[]⟩):Ae P f args d:=by
 refine⟨vH,hd,fun cur M w vs hM hr=> ?_⟩
 have W:Weak cur (Ad [] fun _=>⟨[],Go.undef⟩) M (Aa [] (fun _=>⟨[],Go.undef⟩)++M) w.heap w.heap (AH args) :=
  ⟨fun id r l _ hl=>by simp[Ad,Aj]at hl,fun b o _ _ ho=>ho,fun b o hb _ _=>by simpa[Aa]using hb⟩
 have S:St [] (fun _=>⟨[],Go.undef⟩) M w.heap:=⟨by simp,by simp[Aa],by simp[Aa],by simpa[Aa]using hM,by simp⟩;have:=Mf (P:=P) (R:=fun v w'=>Upd [] w w'/\rd cur M w'.heap d v) (dB0 1) hf hb vH qX S (by simp) (AQ W args _ (Nat.le_refl _) hr) (h (FC _ _ hr)) ?_
 ·exact this.2
 ·intro s loc' w' d0 v hK hS hu _ _ fS;refine⟨by simpa[Aa]using hu,?_⟩;obtain⟨s1,loc1,nZ,h1⟩:=fin ⟨[],loc',M,0,w,0,none,by decide,w.heap.size,Nat.le_refl _⟩ s d0 loc' w' v hK hS fS;exact Cc (n:=0) ⟨fun id r l hr=>by omega,fun b o _ _ ho=>ho,fun b o hb _ _ vV=>hb (nZ b vV)⟩ d v (by omega) h1
theorem UR {P:Program} {f:FuncId} {fn:Func} {c:Code} {args:List DVal} {d:DVal} (hf:P.funcs[f]? =some fn) (hb:fn.body=some c) (vH:Enters P f) (qX:args.length<=fn.ntmps)
  (hd:mx d=0) (h:JP args->∀B:Base,B.nt=fn.ntmps/\B.ro=none->DW P B c (FJ_ P fn d) ⟨Ak args 0,[]⟩):Ae P f args d :=
 US hf hb vH qX hd (fun B s d0 loc w v hK _ fS=>⟨s,loc,fun b hb=>aP0 _ hb,hK _ _ _ _ fS⟩) h
theorem DE (e:Ent) (l:List Ent) (loc:Nat->Loc):Aa (e::l) loc=(loc e.id).blks++Aa l loc:=by simp[Aa]
theorem Fk {loc:Nat->Loc}:∀{own:List Ent},(Aa own loc).Nodup->∀e1∈own,∀e2∈own,∀b,b∈(loc e1.id).blks->b∈(loc e2.id).blks->e1=e2
 | [],_,e1,h1,_,_,_,_,_=>by cases h1
 | e::l,hn,e1,h1,e2,h2,b,qR,wM=>by
  rw[DE,bS0]at hn;obtain⟨_,hn2,hn3⟩:=hn
  rcases aJ0.1 h1 with rfl | kU
  ·rcases aJ0.1 h2 with rfl | kH
   ·rfl
   ·exact absurd rfl (hn3 b qR b (AZ kH wM))
  ·rcases aJ0.1 h2 with rfl | kH
   ·exact absurd rfl (hn3 b wM b (AZ kU qR))
   ·exact Fk hn2 e1 kU e2 kH b qR wM
theorem Dl {loc:Nat->Loc}:∀{own:List Ent},(Aa own loc).Nodup->∀e∈own,((loc e.id).blks).Nodup
 | [],_,e,h=>by cases h
 | a::l,hn,e,h=>by
  rw[DE,bS0]at hn
  rcases aJ0.1 h with rfl | h'
  ·exact hn.1
  ·exact Dl hn.2.1 e h'
theorem DD {own:List Ent} {loc:Nat->Loc} (hn:(Aa own loc).Nodup):∀l:List Ent,(l.map (·.id)).Nodup->(∀e∈l,e∈own)->(Aa l loc).Nodup
 | [],_,_=>by simp[Aa]
 | e::l,hd,hm=>by
  simp only[List.map_cons,cH0]at hd;rw[DE,bS0];refine⟨Dl hn e (hm e aH0),DD hn l hd.2 (fun x hx=>hm x (aF0 _ hx)),?_⟩;intro b hb b' qG gF;subst gF;obtain⟨e2,vA,wM⟩:=bQ0.1 qG;have:=Fk hn e (hm e aH0) e2 (hm e2 (aF0 _ vA)) b hb wM;subst this;exact hd.1 (cP0 (f:=(·.id)) vA)
end Go.Dm
end
