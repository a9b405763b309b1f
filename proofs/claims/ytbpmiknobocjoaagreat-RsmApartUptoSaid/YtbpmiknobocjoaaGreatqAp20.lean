/- Parts of a proof, laid together: EnGb, EnGv, AP1. -/
import Derived.Test.YtbpmiknobocjoaaGreatqAp19
set_option linter.unusedSimpArgs false
set_option maxHeartbeats 8000000
set_option linter.unusedVariables false
set_option linter.unusedSectionVars false
section
namespace Go.Dm
variable [DMode]
section
variable {P : Program} {B : Base}
def OK (P:Program) (B:Base) (o:Oper) (s s':DS):Prop:=∀(a:Act) (w:World) (loc:Nat->Loc) (next:Act->World->Prop) (Q:Exit->Act->World->Prop),Rel B s a w loc->(∀a' w' loc',Rel B s' a' w' loc'->next a' w')->o.wpIn (wd B.ro) 0 P a w next Q
def xT (P:Program) (B:Base):List Oper->DS->DS->Prop
 | [],s,s'=>s'=s
 | o::l,s,s''=>∃s',o.guard=none/\OK P B o s s'/\xT P B l s' s''
theorem aH {id:Nat} {ops:Array Oper} {Q:Exit->DS->Prop} {s s':DS} (h:xT P B ops.toList s s') (hQ:Q .normal s'):DW P B (.region id ops false) Q s:=by
 intro a w loc R;refine wpIn_region ?_;rw[eJ0]
 have key:∀(m i:Nat) (s:DS) (a:Act) (w:World) (loc:Nat->Loc),i+m=ops.size->xT P B (ops.toList.drop i) s s'->Rel B s a w loc->wpOpsIn (wd B.ro) 0 P ops (QQ B Q) (List.range' i m) a w:=by
  intro m
  induction m with
  | zero =>
   intro i s a w loc hi hc R;simp only[List.range'_zero,wpOpsIn];rw[dA0 (by simp;omega)]at hc;simp only[xT]at hc;subst hc;exact⟨_,loc,hQ,R⟩
  | succ m ih =>
   intro i s a w loc hi hc R;have qV:i<ops.size:=by omega
   rw[aR0 (by simpa using qV)]at hc;obtain⟨s1,hg,h1,h2⟩:=hc;rw[Array.getElem_toList]at hg h1;simp only[eI0];rw[wpOpsIn_cons];unfold wpOpIn;rw[bO0 qV];simp only;rw[if_pos (by simp[Region.wanted,hg])];exact h1 a w loc _ _ R fun a' w' loc' R'=>ih (i+1) s1 a' w' loc' (by omega) h2 R'
 exact key ops.size 0 s a w loc (by omega) (by simpa using h) R
theorem DQ {s:DS} {o:Oper} (hd:Bs B.nt o.dst=true) (hp:DV P s.own (ev s.slots) o.op):OK P B o s ⟨putS s.slots o.dst (Bm P s.own (ev s.slots) o.op),s.own⟩:=by
 intro a w loc next Q R hn
 exact VC (K:=fun s'=>s'=⟨putS s.slots o.dst (Bm P s.own (ev s.slots) o.op),s.own⟩) R hd (fun x _=>R.ev x) hp rfl (fun _ _ h=>h) fun s' a' w' loc' hs R'=>by subst hs;exact hn a' w' loc' R'
def isZ : Option Obj->Bool
 | some (.cells _ _ fz)=>fz==(0,0)
 | _=>false
def zbl (n:Nat) (h:Array Obj):List Nat:=(List.range h.size).filter fun b=>decide (n<=b)&&isZ h[b]?
theorem VK {n:Nat} {h:Array Obj} {b:Nat}:b∈zbl n h↔n<=b/\∃arr ty,h[b]? =some (.cells arr ty (0,0)):=by
 unfold zbl;rw[cG0,bZ0,aL0,decide_eq_true_eq]
 constructor
 ·rintro⟨h1,h2,h3⟩;refine⟨h2,?_⟩;unfold isZ at h3
  split at h3
  ·rename_i arr ty fz heq;have:fz=(0,0):=by simpa using h3
   subst this;exact⟨arr,ty,heq⟩
  ·simp at h3
 ·rintro⟨h1,arr,ty,h2⟩;exact⟨(aC0.1 h2).1,h1,by rw[h2];rfl⟩
theorem Ct_ {o:Oper} {c:Call} {g:FuncId} {args:List DVal} {K:Nat->Array Obj->Value->Prop} {A:Abs} {sl:List (Nat×DVal)} (id:Nat) (hN:B.N<=1) (hd:Bs B.nt o.dst=true) (ho:o.op= .call c) (hc:callee (ev sl) c=some (g,args)) (ha:AJ args=0) (hs:Hk sl=0)
  (h:Hy_ P g args K) (hA:∀(n:Nat) (h:Array Obj) (v:Value) (M:List Nat),K n h v->A.J M (zbl n h) v h):OK P B o ⟨sl,[]⟩ ⟨putS sl o.dst (.osl id 1),[⟨id,1,.abs A⟩]⟩:=by
 intro a w loc next Q R hn
 obtain⟨hE,hS⟩:=h;obtain⟨vs,h1,h2⟩:=MA (P:=P) (ρ:=a.eval) (M0:=B.M0) ho (fun x hx=>R.ev x) hc hE;have qA:rdV (fun _ _=>none) [] w.heap args vs.toList:=AP (n:=0) ⟨fun _ _ _ h=>by omega,fun _ _ _ _ h=>h,fun b o _ _ _ hm=>by simp at hm⟩ _ _ (by omega) h2;refine⟨fun _ _=>trivial,?_⟩;rw[Oper.semAt_eq _ _ _ (fun c' kO=>by rw[ho]at kO;cases kO),h1,Oper.uponIn_enter];refine⟨fun h=>by simp[wd]at h,KA B.ro _ ?_⟩
 refine(hS w vs qA).mono ?_;rintro e w' ⟨v1,rfl,hu,hK⟩
 let loc':Nat->Loc:=fun _=>⟨zbl w.heap.size w'.heap,v1⟩
 have hh:Aa [(⟨id,1,.abs A⟩:Ent)] loc'=zbl w.heap.size w'.heap:=by simp[Aa,loc']
 have qV:∀b∈zbl w.heap.size w'.heap,w.heap.size<=b/\b<w'.heap.size:=fun b hb=>by
  obtain⟨g1,arr,ty,g2⟩:=VK.1 hb;exact⟨g1,(aC0.1 g2).1⟩
 refine hn _ _ loc' (R.step (n:=1) (own':=[⟨id,1,.abs A⟩]) (loc':=loc') hN (by simp only;omega) (Jh hd) ⟨by simp,?_,?_,?_,?_⟩ hu.nil ?_ ?_ ?_)
 ·rw[hh];exact List.Nodup.sublist List.filter_sublist List.nodup_range
 ·rw[hh];intro b hb hm;have:=R.st.lt b (aN0 _ hm);have:=qV b hb;omega
 ·rw[hh];intro b hb
  rcases aG0.1 hb with h | h
  ·exact(qV b h).2
  ·exact cB0 (R.st.lt b (aN0 _ h)) hu.size
 ·intro e he;simp only[aE0]at he;subst he;exact hA _ _ _ _ hK
 ·rw[hh];exact fun b hb=> .inr (qV b hb).1
 ·intro e he hr;simp only[aE0]at he;subst he;simp only at hr;omega
 ·simp only[rd];intro l hl;simp[Ac,Ah]at hl;rw[<-hl]
theorem Xh {d0 d:DVal} {s:DS} {o:Oper} {c:Call} {g:FuncId} {id r:Nat} {A:Abs} (hd:Bs B.nt o.dst=true) (ho:o.op= .call c) (hc:callee (ev s.slots) c=some (g,[.osl id r]))
  (hh:Ah s.own id=some ⟨id,r,.abs A⟩) (hJ:∀M bl v h,A.J M bl v h->rd (fun _ _=>none) [] h d0 v) (h:DO P g [d0] d):OK P B o s ⟨putS s.slots o.dst d,s.own⟩:=by
 intro a w loc next Q R hn
 obtain⟨hE,hm,hS⟩:=h;obtain⟨vs,h1,h2⟩:=MA (P:=P) (ρ:=a.eval) (M0:=B.M0) ho (fun x hx=>R.ev x) hc hE;simp only[rdV]at h2;obtain⟨v0,vr,wS,h3,rfl⟩:=h2;obtain⟨qY,hid⟩:=Ar hh;have hA:=R.st.ok _ qY;simp only[rd]at h3;have kN:=h3 _ (Ay R.st.nd qY)
 have qA:rdV (fun _ _=>none) [] w.heap [d0] vs.toList:=by
  simp only[rdV];exact⟨_,[],wS,by rw[kN];exact hJ _ _ _ _ hA,rfl⟩
 refine⟨fun _ _=>trivial,?_⟩;rw[Oper.semAt_eq _ _ _ (fun c' kO=>by rw[ho]at kO;cases kO),h1,Oper.uponIn_enter];refine⟨fun h=>by simp[wd]at h,KA B.ro _ ?_⟩;refine(hS w vs qA).mono ?_;rintro e w' ⟨v1,rfl,hu,vX⟩;exact hn _ _ loc (R.put (Jh hd) hu (Bk (n:=0) ⟨fun id r l hr=>by omega,fun _ _ _ _ h=>h,fun b o hb _ _ wR=>hb (bZ0.2 (R.st.lt b wR))⟩ d v1 (by rw[hm];exact Nat.le_refl _) vX))
theorem Sub.absW {s:DS} {id r:Nat} {A A':Abs} (hh:Ah s.own id=some ⟨id,r,.abs A⟩) (hJ:∀M bl v h,A.J M bl v h->A'.J M bl v h):Sub B s ⟨s.slots,s.own.map fun e=>if e.id=id then ⟨id,r,.abs A'⟩else e⟩:=by
 intro a w loc R
 have hf:∀e∈s.own,e.id=id->e=⟨id,r,.abs A⟩:=fun e he hid=>by
  have:=BJ R.st.nd he;rw[hid,hh]at this;exact(Option.some.inj this).symm
 have zW:∀e,(if e.id=id then (⟨id,r,.abs A'⟩:Ent)else e).id=e.id:=fun e=>by split<;>simp_all
 have hmap:((s.own.map fun e=>if e.id=id then (⟨id,r,.abs A'⟩:Ent)else e).map (·.id))=s.own.map (·.id):=by
  rw[cC0];exact cJ0 fun e _=>zW e
 have wQ:Aa (s.own.map fun e=>if e.id=id then (⟨id,r,.abs A'⟩:Ent)else e) loc=Aa s.own loc:=by
  unfold Aa
  induction s.own with
  | nil=>rfl
  | cons e t ih=>rw[List.map_cons,cP0,cP0,ih,zW]
 have qE:Ac (s.own.map fun e=>if e.id=id then (⟨id,r,.abs A'⟩:Ent)else e) loc=Ac s.own loc:=by
  funext i k
  unfold Ac;rw[It _ zW]
  cases nW:Ah s.own i with
  | none=>rfl
  | some e =>
   simp only[cU0]
   by_cases hid:e.id=id
   ·have:=hf e (Ar nW).1 hid;subst this;simp
   ·rw[if_neg hid]
 refine⟨loc,⟨by rw[hmap];exact R.st.nd,by rw[wQ];exact R.st.bl,by rw[wQ];exact R.st.ap,by rw[wQ];exact R.st.lt,fun e he=> ?_⟩,R.upd,by simp only;rw[wQ];exact R.new,fun e he hr=> ?_,fun i=>by simp only;rw[wQ,qE];exact R.sl i,R.nt,by simp only;rw[wQ];exact R.df⟩
 ·rw[wQ,qE];obtain⟨x,hx,rfl⟩:=aT0.1 he
  by_cases hid:x.id=id
  ·have:=hf x hx hid;subst this;simp only[if_true];exact hJ _ _ _ _ (R.st.ok _ hx)
  ·rw[if_neg hid];exact R.st.ok x hx
 ·obtain⟨x,hx,rfl⟩:=aT0.1 he
  by_cases hid:x.id=id
  ·have:=hf x hx hid;subst this;simp only[if_true]at hr |-;exact R.ver _ hx hr
  ·rw[if_neg hid]at hr |-;exact R.ver x hx hr
end
def Gc_ (bl:List Nat) (n:Nat):List Nat:=(List.range n).filter fun b=> !bl.contains b
theorem Rg {bl:List Nat} {n b:Nat}:b∈Gc_ bl n↔b<n/\b∉bl:=by
 unfold Gc_;rw[cG0,bZ0];simp
def GH (d:DVal) (h0:Array Obj):Abs where
 J:=fun M bl hd h=>(∀b∈bl,∃o,h[b]? =some o/\FE o=true/\h0[b]? =some o)/\(hd.oneCell'=true/\hd.cells= #[hd])/\mx d=0/\rd (fun _ _=>none) (Gc_ bl h.size) h d hd
 weak:=by
  rintro M M' bl hd h h' _ _ keep ⟨h1,h2,h3,h4⟩;refine⟨fun b hb=>let ⟨o,g1,g2⟩:=h1 b hb;⟨o,keep b o hb g1,g2⟩,h2,h3,?_⟩
  have key:∀b o,b∉Gc_ bl h.size->h[b]? =some o->b∈bl:=fun b o hb ho=>by
   by_cases hm:b∈bl
   ·exact hm
   ·exact absurd (Rg.2 ⟨(aC0.1 ho).1,hm⟩) hb
  exact Bk (n:=0) ⟨fun _ _ _ h=>by omega,fun b o hb _ ho=>keep b o (key b o hb ho) ho,fun b o hb _ ho hm=>(Rg.1 hm).2 (key b o hb ho)⟩ d hd (by omega) h4
 one:=by
  rintro M bl hd h ⟨_,h2,_⟩;exact h2
 nd:=by
  rintro M bl hd h ⟨h1,_⟩ b hb c hc;obtain⟨o,g1,g2,_⟩:=h1 b hb;rw[g1]at hc;simp only[aA0]at hc;subst hc;simp[FE]at g2
theorem GH.data {d:DVal} {M bl:List Nat} {v:Value} {h h0:Array Obj} (H:(GH d h0).J M bl v h):rd (fun _ _=>none) [] h d v:=by
 obtain⟨_,_,h3,h4⟩:=H;exact Bk (n:=0) ⟨fun _ _ _ h=>by omega,fun _ _ _ _ h=>h,fun _ _ _ _ _=>by simp⟩ d v (by omega) h4
theorem NZ {cur cur':ES} {M M':List Nat} {h h':Array Obj}:∀{ds:List DVal} {vs:List Value},ds.all EX=true->rdV cur M h ds vs->rdV cur' M' h' ds vs
 | [],_,_,hr=>by simpa[rdV]using hr
 | d::ds,vs,hs,hr=>by
  rw[cT0,aL0]at hs;simp only[rdV]at hr |-;obtain⟨v,r,rfl,h1,h2⟩:=hr;exact⟨v,r,rfl,HZ hs.1 h1,NZ hs.2 h2⟩
theorem Ub {d0:DVal} {h0:Array Obj} {rest:List DVal} {M:List Nat} {w:World} {loc:Nat->Loc} {vs:Array Value} (hs:rest.all EX=true) (S:St [(⟨0,0,.abs (GH d0 h0)⟩:Ent)] loc M w.heap)
  (hr:rdV (Ac [(⟨0,0,.abs (GH d0 h0)⟩:Ent)] loc) (Aa [(⟨0,0,.abs (GH d0 h0)⟩:Ent)] loc++M) w.heap (.osl 0 0::rest) vs.toList):rdV (fun _ _=>none) [] w.heap (d0::rest) vs.toList:=by
 simp only[rdV]at hr |-;obtain⟨v,r,hv,h1,h2⟩:=hr;simp only[rd]at h1;have kN:=h1 (loc 0) rfl;have hJ:=S.ok ⟨0,0,.abs (GH d0 h0)⟩ (by simp);exact⟨v,r,hv,by rw[kN];exact GH.data hJ,NZ hs h2⟩
theorem Gg {h0:Array Obj} {P:Program} {g:FuncId} {d0 d:DVal} {rest:List DVal} (hs:rest.all EX=true) (h:DO P g (d0::rest) d):Bj P (.func g) (.osl 0 0::rest) [⟨0,0,.abs (GH d0 h0)⟩] d [⟨0,0,.abs (GH d0 h0)⟩]:=by
 obtain⟨hE,hm,hS⟩:=h;refine⟨by simp,hE,fun M w loc vs S hr=>⟨hE,?_⟩⟩;refine(hS w vs (Ub hs S hr)).mono ?_;rintro e w' ⟨v,rfl,hu,vX⟩;exact⟨v,rfl,loc,S.keep hu,hu.nil,fun b hb=> .inl hb,fun e he _=>Ay S.nd he,Bk (n:=0) ⟨fun id r l hr=>by omega,fun _ _ _ _ h=>h,fun b o hb _ _ wR=>hb (bZ0.2 (S.lt b wR))⟩ d v (by omega) vX⟩
theorem Ts {h0:Array Obj} {P:Program} {g:FuncId} {d0 d:DVal} {rest:List DVal} (hs:rest.all EX=true) (hd:EX d=true) (h:Af P g (d0::rest) d):Bj P (.func g) (.osl 0 0::rest) [⟨0,0,.abs (GH d0 h0)⟩] d [⟨0,0,.abs (GH d0 h0)⟩]:=by
 obtain⟨hE,hm,hS⟩:=h;refine⟨by simp,hE,fun M w loc vs S hr=>⟨hE,?_⟩⟩;refine(hS _ [] w vs (by simp) (Ub hs S hr)).mono ?_;rintro e w' ⟨v,rfl,hu,vX⟩;exact⟨v,rfl,loc,S.keep hu,hu.nil,fun b hb=> .inl hb,fun e he _=>Ay S.nd he,HZ hd vX⟩
theorem DO.pure {P:Program} {f:FuncId} {args:List DVal} {d:DVal} (ha:AJ args=0) (h:DO P f args d):Af P f args d:=by
 refine⟨h.1,h.2.1,fun cur M w vs hM hr=> ?_⟩;refine(h.2.2 w vs (AP (n:=0) ⟨fun id r l hr=>by omega,fun _ _ _ _ h=>h,fun b o _ _ _ hm=>by simp at hm⟩ args _ (by omega) hr)).mono ?_;rintro e w' ⟨v,rfl,hu,vX⟩;exact⟨v,rfl,hu,Bk (n:=0) ⟨fun id r l hr=>by omega,fun _ _ _ _ h=>h,fun b o hb _ _ hm=>hb (bZ0.2 (hM b hm))⟩ d v (by rw[h.2.1];exact Nat.le_refl _) vX⟩
theorem HH {j id:Nat} (h:j≠id):∀own:List Ent,Ah (Bp own id) j=Ah own j
 | []=>rfl
 | e::t=>by
  simp only[Bp]
  split
  ·rename_i he;rw[HH h t];simp only[Ah];rw[if_neg (by omega)]
  ·simp only[Ah];rw[HH h t]
theorem OZ {j r:Nat} {A:Abs}:∀{ids:List Nat} {s:DS},j∉ids->Ah s.own j=some ⟨j,r,.abs A⟩->Ah (freezeL s ids).own j=some ⟨j,r,.abs A⟩
 | [],s,_,h=>h
 | id::ids,s,hn,h=>by
  simp only[aK0,not_or]at hn;refine OZ (ids:=ids) hn.2 ?_;unfold freezeS
  split
  ·rename_i e he;simp only[VX];rw[It (fun x=>⟨x.id,x.r,FR_ id e.r e.obj x.obj⟩) (fun _=>rfl),HH hn.1,h];rfl
  ·exact h
def xR (P:Program) (fn:Func) (ids:List Nat) (d:DVal) (A:Abs):Exit->DS->Prop
 | .normal,s=>NJ P fn ids d .normal s/\Ah s.own 0=some ⟨0,0,.abs A⟩
 | .ret,s=>NJ P fn ids d .ret s/\Ah s.own 0=some ⟨0,0,.abs A⟩
 | _,_=>False
@[simp] theorem IJ_ (P:Program) (fn:Func) (ids:List Nat) (d:DVal) (A:Abs) (s:DS):xR P fn ids d A .normal s=(NJ P fn ids d .normal s/\Ah s.own 0=some ⟨0,0,.abs A⟩):=rfl
@[simp] theorem II_ (P:Program) (fn:Func) (ids:List Nat) (d:DVal) (A:Abs) (s:DS):xR P fn ids d A .ret s=(NJ P fn ids d .ret s/\Ah s.own 0=some ⟨0,0,.abs A⟩):=rfl
theorem DO.of_simple {P:Program} {f:FuncId} {args:List DVal} {d:DVal} (hd:EX d=true) (h:Af P f args d):DO P f args d :=
 ⟨h.1,h.2.1,fun w vs hr=>(h.2.2 _ [] w vs (by simp) hr).mono fun e w' ⟨v,h1,h2,h3⟩=>⟨v,h1,h2,HZ hd h3⟩⟩
theorem LP (ids:List Nat) {P:Program} {f:FuncId} {fn:Func} {c:Code} {d0:DVal} {rest:List DVal} {d:DVal} (hf:P.funcs[f]? =some fn) (hb:fn.body=some c) (vJ:Enters P f) (qX:rest.length+1<=fn.ntmps)
  (zW:0∉ids) (hd:mx d=0) (kK:mx d0=0) (hs:rest.all EX=true) (qS:∀h v,rd (fun _ _=>none) [] h d0 v->v.oneCell'=true/\v.cells= #[v])
  (h:KI (d0::rest)->∀(h0:Array Obj) (B:BaseN),B.nt=fn.ntmps/\B.ro=none->DW P B c (xR P fn ids d (GH d0 h0)) ⟨Aq (.osl 0 0::rest) 0,[⟨0,0,.abs (GH d0 h0)⟩]⟩):DO P f (d0::rest) d:=by
 refine⟨vJ,hd,fun w vs hr=> ?_⟩;obtain⟨h0,hh0⟩:∃h0,h0=w.heap:=⟨_,rfl⟩;have yP:=hr;simp only[rdV]at hr;obtain⟨v,vr,wS,h1,h2⟩:=hr
 have dV:∀b,b∈(List.range w.heap.size).filter (fun b=>match w.heap[b]? with | some o=>FE o | none=>false)↔∃o,w.heap[b]? =some o/\FE o=true:=by
  intro b;rw[cG0,bZ0]
  constructor
  ·rintro⟨_,g⟩
   split at g
   ·rename_i o ho;exact⟨o,ho,g⟩
   ·simp at g
  ·rintro⟨o,g1,g2⟩;exact⟨(aC0.1 g1).1,by rw[g1];exact g2⟩
 obtain⟨bl,kP⟩:∃bl,bl=(List.range w.heap.size).filter (fun b=>match w.heap[b]? with | some o=>FE o | none=>false):=⟨_,rfl⟩;rw[<-kP]at dV;have hh:Aa [(⟨0,0,.abs (GH d0 h0)⟩:Ent)] (fun _=>(⟨bl,v⟩:Loc))=bl:=by simp[Aa]
 have S:St [⟨0,0,.abs (GH d0 h0)⟩] (fun _=>⟨bl,v⟩) [] w.heap:=by
  refine⟨by simp,?_,by simp,fun b hb=> ?_,fun e he=> ?_⟩
  ·rw[hh,kP];exact List.Nodup.sublist List.filter_sublist List.nodup_range
  ·rw[hh,bR0]at hb;obtain⟨o,g1,_⟩:=(dV b).1 hb;exact(aC0.1 g1).1
  ·simp only[aE0]at he;subst he;refine⟨fun b hb=> ?_,qS _ _ h1,kK,Bk (n:=0) ⟨fun _ _ _ h=>by omega,fun _ _ _ _ h=>h,fun b o _ g1 g2 hm=>(Rg.1 hm).2 ((dV b).2 ⟨o,g2,g1⟩)⟩ d0 v (by omega) h1⟩;obtain⟨o,g1,g2⟩:=(dV b).1 hb;exact⟨o,g1,g2,by rw[hh0];exact g1⟩
 have qW:rdV (Ac [⟨0,0,.abs (GH d0 h0)⟩] fun _=>⟨bl,v⟩) (Aa [⟨0,0,.abs (GH d0 h0)⟩] (fun _=>⟨bl,v⟩)++[]) w.heap (.osl 0 0::rest) vs.toList:=by
  simp only[rdV];refine⟨v,vr,wS,?_,NZ hs h2⟩;simp only[rd];intro l hl;simp[Ac,Ah]at hl;rw[<-hl]
 have:=HM (P:=P) (R:=fun v w'=>Upd [] w w'/\rd (fun _ _=>none) (List.range w.heap.size) w'.heap d v) (K:=fun s d1=>(∀cur M h v,rd cur M h d1 v->rd cur M h d v)/\Ah s.own 0=some ⟨0,0,.abs (GH d0 h0)⟩) [] (by simp) (N:=1) hf hb vJ (by simpa using qX) S (by simp) qW (fun B hB=> ?_) ?_
 ·exact this.2
 ·obtain⟨⟨⟨⟨b1,b2⟩,_⟩,b3⟩,_⟩:=hB;intro a w1 loc R;refine wpIn_mono (h (Fh _ _ yP) h0 ⟨B,by omega⟩ ⟨b1,b2⟩ a w1 loc R) ?_;rintro e a' w' ⟨s',loc',hq,R'⟩
  have key:(match MF P (freezeL s' ids) fn.results.toList with | some d0=>wk d0 d | none=>False)->Ah s'.own 0=some ⟨0,0,.abs (GH d0 h0)⟩->∃s'' loc'',(∃d1,MF P s'' fn.results.toList=some d1/\(∀cur M h v,rd cur M h d1 v->rd cur M h d v)/\Ah s''.own 0=some ⟨0,0,.abs (GH d0 h0)⟩)/\Rel B s'' a' w' loc'':=by
   intro hq h0;obtain⟨loc'',R''⟩:=Sub.freezeL ids s' a' w' loc' R'
   split at hq
   ·rename_i d0 kK;exact⟨_,loc'',⟨d0,kK,fun cur M h v hr=>Xv hq hr,OZ zW h0⟩,R''⟩
   ·exact hq.elim
  cases e<;>simp only[xR,NJ]at hq<;>first
   | (obtain⟨s'',loc'',h1,h2⟩:=key hq.1 hq.2;exact⟨s'',loc'',h1,h2⟩)
   | exact hq.elim
 ·intro s loc' w' d1 v1 hK hS hu hn vB pK;obtain⟨hK,hf0⟩:=hK;obtain⟨qY,_⟩:=Ar hf0
  have fC:loc' 0=⟨bl,v⟩:=by
   have:=vB _ qY (by show (0:Nat)<1;omega);simp[Ac,Ah]at this;exact this.symm
  have hJ:=hS.ok _ qY;simp only[fC]at hJ
  have yS:∀b,b<w.heap.size->w'.heap[b]? =w.heap[b]? :=fun b hb=>by
   by_cases hm:b∈bl
   ·obtain⟨o,g1,g2,g3⟩:=hJ.1 b hm;rw[g1,<-g3,hh0]
   ·exact hu.blk b hb (by rw[hh];exact hm)
  refine⟨⟨hu.os,hu.tape,hu.output,hu.drawn,hu.size,fun b hb _=>yS b hb⟩,?_⟩;have h3:=hK _ _ _ _ pK;refine Bk (n:=0) ⟨fun id r l hr=>by omega,fun b o _ _ ho=>ho,fun b o hb hio ho wR=> ?_⟩ d v1 (by omega) h3;have qV:=bZ0.1 wR;rw[yS b qV]at ho;have jI:=(dV b).2 ⟨o,ho,hio⟩;exact hb (aM0 _ (AW qY (by rw[fC];exact jI)))
section
variable {P : Program} {B : Base}
def oQ (P:Program) (B:Base) (Q:Exit->DS->Prop):List Oper->Act->World->Prop
 | []=>fun a w=>QQ B Q .normal a w
 | o::l=>fun a w=>o.guard=none/\o.wpIn (wd B.ro) 0 P a w (oQ P B Q l) (QQ B Q)
theorem Lm {id:Nat} {ops:Array Oper} {Q:Exit->DS->Prop} {s:DS} (h:∀a w loc,Rel B s a w loc->oQ P B Q ops.toList a w):DW P B (.region id ops false) Q s:=by
 intro a w loc R;refine wpIn_region ?_;rw[eJ0]
 have key:∀(m i:Nat) (a:Act) (w:World),i+m=ops.size->oQ P B Q (ops.toList.drop i) a w->wpOpsIn (wd B.ro) 0 P ops (QQ B Q) (List.range' i m) a w:=by
  intro m
  induction m with
  | zero =>
   intro i a w hi hc;simp only[List.range'_zero,wpOpsIn];rw[dA0 (by simp;omega)]at hc;exact hc
  | succ m ih =>
   intro i a w hi hc;have qV:i<ops.size:=by omega
   rw[aR0 (by simpa using qV)]at hc;obtain⟨hg,h1⟩:=hc;rw[Array.getElem_toList]at hg h1;simp only[eI0];rw[wpOpsIn_cons];unfold wpOpIn;rw[bO0 qV];simp only;rw[if_pos (by simp[Region.wanted,hg])];refine Oper.wpIn_mono (fun a' w' kO=>ih (i+1) a' w' (by omega) kO) h1
 exact key ops.size 0 a w (by omega) (by simpa using h a w loc R)
structure RV (B:Base) (s:DS) (vs:List (Nat×Value)) (a:Act) (w:World) (loc:Nat->Loc):Prop where
 R:Rel B s a w loc
 v:∀p∈vs,a.tmps.getD p.1 Go.undef=p.2
variable {s : DS} {vs : List (Nat × Value)} {a : Act} {w : World} {loc : Nat -> Loc}
theorem RV.of (R:Rel B s a w loc):RV B s [] a w loc:=⟨R,by simp⟩
theorem RV.ev (H:RV B s vs a w loc) {x:Nat} {u:Value} (h:(x,u)∈vs):a.eval (.tmp x)=u:=H.v _ h
theorem RV.int (H:RV B s vs a w loc) {x:Nat} {n:Int} (h:getS s.slots x= .int .i64 n):RV B s ((x,.int .i64 n)::vs) a w loc:=⟨H.R,fun p hp=>by
 rcases aK0.1 hp with rfl | hp
 ·have:=H.R.sl x;rw[h]at this;simp only[rd]at this;exact this.1
 ·exact H.v p hp⟩
theorem RV.osl (H:RV B s vs a w loc) {x id r:Nat} {A:Abs} (h:getS s.slots x= .osl id r) (hh:Ah s.own id=some ⟨id,r,.abs A⟩):RV B s ((x,(loc id).hdr)::vs) a w loc:=⟨H.R,fun p hp=>by
 rcases aK0.1 hp with rfl | hp
 ·have:=H.R.sl x;rw[h]at this;simp only[rd]at this;exact this _ (Ay H.R.st.nd (Ar hh).1)
 ·exact H.v p hp⟩
theorem RV.cell (H:RV B s vs a w loc) {id r:Nat} {A:Abs} (hh:Ah s.own id=some ⟨id,r,.abs A⟩):A.J (Aa s.own loc++B.M0) (loc id).blks (loc id).hdr w.heap:=H.R.st.ok _ (Ar hh).1
theorem rv {o:Oper} {t:Nat} {v:Value} (d:DVal) {next:Act->World->Prop} {Q:Exit->Act->World->Prop} (H:RV B s vs a w loc) (hd:o.dst=some t) (ht:t<B.nt) (hnd:∀c,o.op≠ .defer c) (qD:(execOp a.eval o).run P w= .ok (.value v) w)
  (vX:rd (Ac s.own loc) (Aa s.own loc++B.M0) w.heap d v) (qF:∀p∈vs,p.1≠t) (hn:∀a',RV B ⟨(t,d)::s.slots,s.own⟩ ((t,v)::vs) a' w loc->next a' w):o.wpIn (wd B.ro) 0 P a w next Q:=by
 refine Ej hnd qD (hn _ ?_);rw[hd];refine⟨H.R.put (dst:=some t) (fun i hi=>by simp only[aA0]at hi;omega) (Upd.refl _ _) vX,fun p hp=> ?_⟩;rw[RF a (some t) v p.1 (fun i hi=>by simp only[aA0]at hi;rw[H.R.nt];omega)]
 rcases aK0.1 hp with rfl | hp
 ·simp
 ·rw[if_neg (fun h=>qF p hp (by simpa using h.symm))];exact H.v p hp
theorem GD_ {o:Oper} {t:Nat} {next:Act->World->Prop} {Q:Exit->Act->World->Prop} (H:RV B s vs a w loc) (hd:o.dst=some t) (ht:t<B.nt) (hnd:∀c,o.op≠ .defer c) (hp:DV P s.own (ev s.slots) o.op) (qF:∀p∈vs,p.1≠t)
  (hn:∀v a' w',Upd [] w w'->rd (Ac s.own loc) (Aa s.own loc++B.M0) w'.heap (Bm P s.own (ev s.slots) o.op) v->RV B ⟨(t,Bm P s.own (ev s.slots) o.op)::s.slots,s.own⟩ ((t,v)::vs) a' w' loc->next a' w'):o.wpIn (wd B.ro) 0 P a w next Q:=by
 obtain⟨v,w',h1,h2,h3⟩:=TT (P:=P) (ρ:=a.eval) (M0:=B.M0) (o:=o) H.R.st (fun x=>H.R.ev x) hp;refine Ej hnd h1 (hn v _ w' h2 h3 ?_);rw[hd];refine⟨H.R.put (dst:=some t) (fun i hi=>by simp only[aA0]at hi;omega) h2 h3,fun p hp=> ?_⟩;rw[RF a (some t) v p.1 (fun i hi=>by simp only[aA0]at hi;rw[H.R.nt];omega)]
 rcases aK0.1 hp with rfl | hp
 ·simp
 ·rw[if_neg (fun h=>qF p hp (by simpa using h.symm))];exact H.v p hp
section
variable {ρ : Operand -> Value} {dst : Option Nat} {type : TypeId} {Fx : String} {after : Array Edge} {guard : Option (Nat × Bool)}
theorem Fo {x:Operand} {v:Value} (h:ρ x=v):(execOp ρ ⟨dst,.move x,type,Fx,after,guard⟩).run P w= .ok (.value v) w:=by
 subst h;rfl
theorem MB {t k bs n cap i b off:Nat} {x ix:Operand} (ht:tElem P t=some (k,bs)) (hx:ρ x= .slice (some ⟨b,off,none⟩) n cap) (hi:ρ ix= .int .i64 i) (qV:i<n) :
  (execOp ρ ⟨dst,.indexAddr t x ix,type,Fx,after,guard⟩).run P w= .ok (.value (.pointer (some ⟨b,off+i*k,none⟩))) w:=by
 obtain⟨e,inf,hu,_,_,_,kY⟩:=Bx ht
 have run:(Instr.indexAt t (.slice (some ⟨b,off,none⟩) n cap) (.int .i64 i)).run P w= .ok (.pointer (some ⟨b,off+i*k,none⟩)) w:=by
  have h1:(i:Int)<n:=by omega
  simp[Instr.indexAt,asIntOf,run_underlying hu,h1,Bq kY,CD];intro h;omega
 simp[execOp,hx,hi,run]
theorem QD {t f fo fn b off:Nat} {fb:Bool} {x:Operand} (hf:tField P t f=some (fo,fn,fb)) (hn:fn≠0) (hx:ρ x= .pointer (some ⟨b,off,none⟩)) :
  (execOp ρ ⟨dst,.fieldAddr t x f,type,Fx,after,guard⟩).run P w= .ok (.value (.pointer (some ⟨b,off+fo,none⟩))) w:=by
 unfold tField at hf
 split at hf
 ·rename_i fs hu
  split at hf
  ·rename_i fl vI
   split at hf
   ·rename_i n' b' mA qM;simp only[aA0,aV0]at hf;obtain⟨rfl,rfl,rfl⟩:=hf;simp[execOp,hx,Instr.fieldAt,run_underlying hu,vI,Instr.sureAddr,fieldPlace,Bq mA,hn,CD]
   ·simp at hf
  ·simp at hf
 ·simp at hf
theorem oX {t b off:Nat} {x:Operand} {arr:Array Value} {ty:TypeId} {fz:Nat×Nat} {v:Value} (ht:tAgg P t=some false) (hx:ρ x= .pointer (some ⟨b,off,none⟩)) (hb:w.heap[b]? =some (.cells arr ty fz)) (hv:arr[off]? =some v) :
  (execOp ρ ⟨dst,.load t x,type,Fx,after,guard⟩).run P w= .ok (.value v) w:=by
 simp[execOp,hx,Instr.loadAt,Instr.sureAddr,loadVar,HX ht,run_load,World.cell?,hb,hv]
theorem CC_ {t n cap:Nat} {x:Operand} {ad:Option Addr} (ht:(tElem P t).isSome=true) (hx:ρ x= .slice ad n cap) :
  (execOp ρ ⟨dst,.call ⟨.builtin .len, #[x], #[t]⟩,type,Fx,after,guard⟩).run P w= .ok (.value (.int .i64 n)) w:=by
 obtain⟨y,hy⟩:=bF0.1 ht;obtain⟨e,i,hu,_⟩:=Bx (k:=y.1) (bs:=y.2) hy;simp[execOp,resolve,hx,invoke,builtin,Builtin.len_,run_underlying hu,goInt]
theorem Xr {t b off:Nat} {x y:Operand} {arr:Array Value} {ty:TypeId} {v:Value} (hx:ρ x= .pointer (some ⟨b,off,none⟩)) (hy:ρ y=v) (hh:w.heap[b]? =some (.cells arr ty (0,0))) (hc:tCells P t=some v.cells.size) (vW:off+v.cells.size<=arr.size) (qS:∀u∈v.cells.toList,u.oneCell'=true) :
  (execOp ρ ⟨dst,.store t x y,type,Fx,after,guard⟩).run P w= .ok .skip (w.setRow b (arr.toList.take off++v.cells.toList++arr.toList.drop (off+v.cells.size)).toArray):=by
 have:=IP hh hc vW qS;simp[execOp,hx,hy,this]
end
theorem Xn {o:Oper} {id r b:Nat} {A:Abs} {arr:Array Value} {next:Act->World->Prop} {Q:Exit->Act->World->Prop} (H:RV B s vs a w loc) (qT:o.dst=none) (hnd:∀c,o.op≠ .defer c) (hh:Ah s.own id=some ⟨id,r,.abs A⟩) (hb:b∈(loc id).blks)
  (qD:(execOp a.eval o).run P w= .ok .skip (w.setRow b arr)) (hJ:∀M,A.J M (loc id).blks (loc id).hdr (w.setRow b arr).heap) (hn:∀a' w',Rel B s a' w' loc->next a' w'):o.wpIn (wd B.ro) 0 P a w next Q:=by
 refine PJ hnd qD (hn _ _ ?_);obtain⟨qY,hid⟩:=Ar hh;have R:=H.R;have hu:Upd (Aa s.own loc) w (w.setRow b arr):=Upd.setRow qY hb w arr;have:=R.step (n:=max B.N (max (Hk s.slots) (GY s.own))) (v:=Go.undef) (d:= .any) (dst:=o.dst) (own':=s.own) (loc':=loc) (w':=w.setRow b arr) (by omega) (by omega) (fun i hi=>by rw[qT]at hi;cases hi) ⟨R.st.nd,R.st.bl,R.st.ap,fun x hx=>cB0 (R.st.lt x hx) hu.size,fun e he=> ?_⟩ hu (fun x hx=> .inl hx) (fun e he _=>Ay R.st.nd he) (by simp[rd])
 ·rw[qT]at this |-;exact this
 ·by_cases hie:e.id=id
  ·have:e=⟨id,r,.abs A⟩:=by
    have:=BJ R.st.nd he;rw[hie,hh]at this;exact(Option.some.inj this).symm
   subst this;exact hJ _
  ·have W:=Er (own':=s.own) (loc':=loc) (M0:=B.M0) (n:=Em e.obj) hu (fun x hx=> .inl hx) (fun e' vE _=>Ay R.st.nd vE);refine AV W (Nat.le_refl _) (fun x o hx ho=> ?_) (R.st.ok e he)
   have qF:b≠x:=fun h=>by
    subst h;have:=EI R.st.bl e he _ qY b hx hb;rw[this]at hie;exact hie rfl
   rw[setRow_other w b x arr qF.symm];exact ho
end
end Go.Dm
end
section
namespace Go.Proofs.Wy
open Go Go.Dm Tryz
variable [DMode]
set_option maxRecDepth 100000
def kdv (v v':Value):Prop:=v'=v\/(∃s s',v= .string s/\v'= .string s'/\s'.size<=maxLen)\/(∃n n',v= .int .i64 n/\v'= .int .i64 n'/\KV .i64 n')
def HK (h h':Array Obj):Prop:=∀(b:Nat) arr ty,h[b]? =some (.cells arr ty (0,0))->∃arr',h'[b]? =some (.cells arr' ty (0,0))/\∀(i:Nat) v,arr[i]? =some v->∃v',arr'[i]? =some v'/\kdv v v'
theorem Db_ {h h':Array Obj} {arr arr':Array Value} (hk:∀(i:Nat) v,arr[i]? =some v->∃v',arr'[i]? =some v'/\kdv v v'):∀(l:List Nd) (off:Nat),Dt (fun _ _=>none) [] h 3 (l.map Bo) arr off ->
  ∃l':List Nd,l'.length=l.length/\Dt (fun _ _=>none) [] h' 3 (l'.map Bo) arr' off
 | [],off,_=>⟨[],rfl,by simp[Dt]⟩
 | x::l,off,hr=>by
  simp only[List.map_cons,Dt,Bo,rdC,rd]at hr;obtain⟨_,⟨⟨v1,a1,a2,rfl,a4⟩,⟨v2,b1,b2,rfl,b4⟩,⟨v3,c1,c2,rfl,c4⟩,_⟩,hr⟩:=hr;obtain⟨l',h1,h2⟩:=Db_ (h':=h') hk l (off+3) hr;obtain⟨u1,d1,e1⟩:=hk _ _ a1;obtain⟨u2,d2,e2⟩:=hk _ _ b1;obtain⟨u3,d3,e3⟩:=hk _ _ c1
  have k1:∃n,u1= .int .i64 n/\KV .i64 n:=by
   rcases e1 with rfl | ⟨s,s',h,_⟩ | ⟨n,n',h,h',h''⟩
   ·exact⟨_,rfl,a4⟩
   ·cases h
   ·exact⟨n',h',h''⟩
  have k2:∃s,u2= .string s/\s.size<=maxLen:=by
   rcases e2 with rfl | ⟨s,s',h,h',h''⟩ | ⟨n,n',h,_⟩
   ·exact⟨_,rfl,b4⟩
   ·exact⟨s',h',h''⟩
   ·cases h
  have k3:∃n,u3= .int .i64 n/\KV .i64 n:=by
   rcases e3 with rfl | ⟨s,s',h,_⟩ | ⟨n,n',h,h',h''⟩
   ·exact⟨_,rfl,c4⟩
   ·cases h
   ·exact⟨n',h',h''⟩
  obtain⟨n1,rfl,k1⟩:=k1;obtain⟨s2,rfl,k2⟩:=k2;obtain⟨n3,rfl,k3⟩:=k3;refine⟨⟨n1,s2,n3⟩::l',by simp[h1],?_⟩;simp only[List.map_cons,Dt,Bo,rdC,rd];exact⟨rfl,⟨⟨_,d1,rfl,rfl,k1⟩,⟨_,d2,rfl,rfl,k2⟩,⟨_,d3,rfl,rfl,k3⟩,trivial⟩,h2⟩
theorem FO.kd {ok:Nat->Prop} {h h':Array Obj} {l:List Nd} {v:Value} (hk:HK h h') (hb:FO ok h l v):∃l':List Nd,l'.length=l.length/\FO ok h' l' v:=by
 obtain⟨a,cap,hv,h1,h2,h3,h4⟩:=hb
 rcases h4 with ⟨rfl,h4⟩ | ⟨b,off,arr,ty,g1,g2,g3,g4⟩
 ·exact⟨[],rfl,a,cap,hv,h1,h2,h3,.inl ⟨rfl,h4⟩⟩
 ·obtain⟨arr',g5,g6⟩:=hk _ _ _ g3;obtain⟨l',g7,g8⟩:=Db_ (h':=h') g6 l off g4;exact⟨l',g7,a,cap,by rw[g7];exact hv,by rw[g7];exact h1,h2,by rw[g7];exact h3,.inr ⟨b,off,arr',ty,g1,g2,g5,g8⟩⟩
theorem TZ {α β:Type} {Q Q':Nat->α->Prop} {f:α->β} (hq:∀o r,Q o r->∃r',f r'=f r/\Q' o r'):∀(g:List α) (off:Nat),(∀(i:Nat) r,g[i]? =some r->Q (off+i*2) r)->∃g':List α,g'.map f=g.map f/\∀(i:Nat) r,g'[i]? =some r->Q' (off+i*2) r
 | [],off,_=>⟨[],rfl,by simp⟩
 | r::g,off,h=>by
  obtain⟨r',h1,h2⟩:=hq off r (by simpa using h 0 r rfl)
  obtain⟨g',h3,h4⟩:=TZ hq g (off+2) fun i r hi=>by
   have:=h (i+1) r (by simpa using hi)
   rwa[show off+(i+1)*2=off+2+i*2 by omega]at this
  refine⟨r'::g',by simp[h1,h3],fun i x hi=> ?_⟩
  cases i with
  | zero=>simp at hi;subst hi;simpa using h2
  | succ i=>rw[show off+(i+1)*2=off+2+i*2 by omega];exact h4 i x (by simpa using hi)
def DB (g:List Rul):List Nat:=g.map (·.b.length)
theorem EP.kd {ok:Nat->Prop} {h h':Array Obj} {g:List Rul} {v:Value} (hk:HK h h') (hb:EP ok h g v):∃g':List Rul,DB g'=DB g/\EP ok h' g' v:=by
 obtain⟨a,cap,hv,h1,h2,h3,h4⟩:=hb
 rcases h4 with ⟨rfl,h4⟩ | ⟨b,off,arr,ty,g1,g2,g3,g4⟩
 ·exact⟨[],rfl,a,cap,hv,h1,h2,h3,.inl ⟨rfl,h4⟩⟩
 ·obtain⟨arr',g5,g6⟩:=hk _ _ _ g3
  obtain⟨g',g7,g8⟩:=TZ (f:=fun r:Rul=>r.b.length) (Q:=fun o r=>(arr[o]? =some (.string r.h)/\r.h.size<=maxLen)/\∃u,arr[o+1]? =some u/\u.oneCell'=true/\FO ok h r.b u) (Q':=fun o r=>(arr'[o]? =some (.string r.h)/\r.h.size<=maxLen)/\∃u,arr'[o+1]? =some u/\u.oneCell'=true/\FO ok h' r.b u) (fun o r hq=>by
   obtain⟨⟨k1,k2⟩,u,k3,k4,k5⟩:=hq;obtain⟨u1,d1,e1⟩:=g6 _ _ k1;obtain⟨u2,d2,e2⟩:=g6 _ _ k3;obtain⟨l',k6,k7⟩:=k5.kd hk
   have m1:∃s,u1= .string s/\s.size<=maxLen:=by
    rcases e1 with rfl | ⟨s,s',h,h',h''⟩ | ⟨n,n',h,_⟩
    ·exact⟨_,rfl,k2⟩
    ·exact⟨s',h',h''⟩
    ·cases h
   have m2:u2=u:=by
    obtain⟨_,_,hu,_⟩:=k5
    rcases e2 with rfl | ⟨s,s',h,_⟩ | ⟨n,n',h,_⟩
    ·rfl
    ·rw[hu]at h;cases h
    ·rw[hu]at h;cases h
   obtain⟨s,rfl,m1⟩:=m1;subst m2
   exact⟨⟨s,l'⟩,k6,⟨d1,m1⟩,u2,d2,k4,k7⟩) g off g4
  have hl:g'.length=g.length:=by have:=congrArg List.length g7;simpa using this
  exact⟨g',g7,a,cap,by rw[hl];exact hv,by rw[hl];exact h1,h2,by rw[hl];exact h3,.inr ⟨b,off,arr',ty,g1,g2,g5,g8⟩⟩
theorem EP.keep {ok ok':Nat->Prop} {h h':Array Obj} {g:List Rul} {v:Value} (hk:∀(b:Nat) arr ty,ok b->h[b]? =some (.cells arr ty (0,0))->ok' b/\h'[b]? =some (.cells arr ty (0,0))) (hb:EP ok h g v):EP ok' h' g v:=by
 obtain⟨a,cap,hv,h1,h2,h3,h4⟩:=hb;refine⟨a,cap,hv,h1,h2,h3,h4.imp id ?_⟩;rintro⟨b,off,arr,ty,g1,g2,g3,g4⟩;obtain⟨k1,k2⟩:=hk _ _ _ g2 g3;refine⟨b,off,arr,ty,g1,k1,k2,fun i r hi=> ?_⟩;obtain⟨m1,u,m2,m3,a',cap',zB,n1,n2,n3,n4⟩:=g4 i r hi;refine⟨m1,u,m2,m3,a',cap',zB,n1,n2,n3,n4.imp id ?_⟩;rintro⟨b',off',arr',ty',p1,p2,p3,p4⟩;obtain⟨q1,q2⟩:=hk _ _ _ p2 p3;exact⟨b',off',arr',ty',p1,q1,q2,MG (JN _) p4⟩
def GJ (D:List Rul->Prop):Abs where
 J:=fun _ bl hd h=>(∀b∈bl,∃arr ty,h[b]? =some (.cells arr ty (0,0)))/\∃g,D g/\EP (· ∈bl) h g hd
 weak:=by
  rintro M M' bl hd h h' _ _ keep ⟨h1,g,h2,h3⟩;exact⟨fun b hb=>let ⟨arr,ty,h4⟩:=h1 b hb;⟨arr,ty,keep b _ hb h4⟩,g,h2,h3.keep fun b arr ty hb ho=>⟨hb,keep b _ hb ho⟩⟩
 one:=by
  rintro M bl hd h ⟨_,g,_,a,cap,rfl,_⟩;exact⟨rfl,rfl⟩
 nd:=by
  rintro M bl hd h ⟨h1,_⟩ b hb c hc;obtain⟨arr,ty,h2⟩:=h1 b hb;rw[h2]at hc;cases hc
theorem GJ.new (g:List Rul) (n:Nat) (h:Array Obj) (v:Value) (M:List Nat) (hr:EP (fun b=>n<=b) h g v):(GJ (· =g)).J M (zbl n h) v h :=
 ⟨fun b hb=>(VK.1 hb).2,g,rfl,hr.keep fun b arr ty hb ho=>⟨VK.2 ⟨hb,arr,ty,ho⟩,ho⟩⟩
theorem GJ.data {g:List Rul} {M bl:List Nat} {v:Value} {h:Array Obj} (H:(GJ (· =g)).J M bl v h):rd (fun _ _=>none) [] h (Au g) v:=by
 obtain⟨_,g',rfl,h1⟩:=H;exact h1.rd fun _ _=>by simp
theorem GJ.lens {g:List Rul} {M bl:List Nat} {v:Value} {h:Array Obj} (H:(GJ (· =g)).J M bl v h):(GJ (fun g'=>DB g'=DB g)).J M bl v h:=by
 obtain⟨h1,g',rfl,h2⟩:=H;exact⟨h1,g',rfl,h2⟩
theorem GJ.kd {L:List Nat} {M M' bl:List Nat} {v:Value} {h h':Array Obj} (hk:HK h h') (H:(GJ (fun g'=>DB g'=L)).J M bl v h):(GJ (fun g'=>DB g'=L)).J M' bl v h':=by
 obtain⟨h1,g,h2,h3⟩:=H;obtain⟨g',h4,h5⟩:=h3.kd hk;refine⟨fun b hb=> ?_,g',h4.trans h2,h5⟩;obtain⟨arr,ty,h6⟩:=h1 b hb;obtain⟨arr',h7,_⟩:=hk _ _ _ h6;exact⟨arr',ty,h7⟩
theorem Uh {w:World} {b off:Nat} {arr:Array Value} {ty:TypeId} {vs:List Value} (hb:w.heap[b]? =some (.cells arr ty (0,0))) (vW:off+vs.length<=arr.size) (hv:∀(j:Nat) v',vs[j]? =some v'->∃v,arr[off+j]? =some v/\kdv v v') :
  HK w.heap (w.setRow b (arr.toList.take off++vs++arr.toList.drop (off+vs.length)).toArray).heap:=by
 intro b' arr0 ty0 qR
 by_cases jI:b'=b
 ·subst jI;rw[hb]at qR;simp only[aA0,Obj.cells.injEq]at qR;obtain⟨rfl,rfl,_⟩:=qR;refine⟨_,setRow_heap w b' arr _ ty (0,0) hb,fun i v hi=> ?_⟩;have qV:i<arr.size:=(aC0.1 hi).1
  by_cases h1:i<off
  ·refine⟨v,?_,.inl rfl⟩;rw[cR0,aS0,bC0 (by simp;omega),bT0 h1];simpa using hi
  ·by_cases h2:i<off+vs.length
   ·obtain⟨v',zB⟩:∃v',vs[i-off]? =some v':=⟨_,aI0 (by omega)⟩;obtain⟨v0,k1,k2⟩:=hv _ _ zB;rw[show off+(i-off)=i by omega,hi]at k1;simp only[aA0]at k1;subst k1;refine⟨v',?_,k2⟩;rw[cR0,aS0,bE0 (by simp;omega),bC0 (by simp;omega)];simp only[aY0,bI0];rw[show i-min off arr.size=i-off by omega];exact zB
   ·refine⟨v,?_,.inl rfl⟩;rw[cR0,bE0 (by simp;omega),cQ0];simp only[aD0,aY0,bI0];rw[show off+vs.length+(i-(min off arr.size+vs.length))=i by omega];simpa using hi
 ·rw[setRow_other w b b' _ jI];exact⟨arr0,qR,fun i v hi=>⟨v,hi,.inl rfl⟩⟩
end Go.Proofs.Wy
end
