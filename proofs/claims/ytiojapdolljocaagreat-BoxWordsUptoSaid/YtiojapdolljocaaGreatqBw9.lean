/- Parts of a proof, laid together: EnQ, EnI3. -/
import Derived.Laws.CopyRow
import Derived.Test.YtiojapdolljocaaGreatqBw7
import Derived.Test.YtiojapdolljocaaGreatqBw8
set_option linter.unusedSimpArgs false
set_option maxHeartbeats 8000000
set_option linter.unusedVariables false
set_option linter.unusedSectionVars false
section
namespace Go.Dm
variable [DMode]
def Vq (P:Program) (f:Fn) (args:List DVal) (own:List Ent) (r:Nat) (d:DVal) (own':List Ent):Prop :=
 pD P f/\(own'.map (·.id)).Nodup/\(Gj own<=r->mx d<=r+1/\Gj own'<=r+1) /\
 ∀(M:List Nat) (w:World) (loc:Nat->Loc) (vs:Array Value),Gj own<=r->St own loc M w.heap->Aw (Ab own loc) (Aa own loc++M) w.heap args vs.toList ->
  JA P f vs w fun v w'=>∃loc',St own' loc' M w'.heap/\Upd (Aa own loc) w w'/\(∀b∈Aa own' loc',b∈Aa own loc\/w.heap.size<=b) /\
   (∀e∈own',e.r<r->Ab own loc e.id e.r=some (loc' e.id))/\rd (Ab own' loc') (Aa own' loc'++M) w'.heap d v
def BB : List (Nat×Nat)->Nat->Option Nat
 | [],_=>none
 | (i,j')::t,j=>if j=j' then some i else BB t j
def DL (ρ:List (Nat×Nat)):List (Nat×Nat×Nat):=ρ.map fun p=>(p.1,p.2,0)
def Du (own:List Ent) (ρ ν:List (Nat×Nat)) (r:Nat):Nat->Nat->Option (Nat×Nat):=fun j v =>
 if v=0 then (match BB ρ j with | some i=>(match Aj own i with | some e=>some (i,e.r) | none=>none) | none=>none)
 else if v=1 then (match BB (ρ++ν) j with | some i=>some (i,r) | none=>none)
 else none
def Ht (φ:Nat->Nat->Option (Nat×Nat)):List Ent->Option (List Ent)
 | []=>some []
 | e::t=>match φ e.id e.r,Ht φ t with
  | some p,some l=>some (⟨p.1,p.2,Iq φ e.obj⟩::l)
  | _,_=>none
def Bc : List Ent->List Nat->List Ent
 | [],_=>[]
 | e::t,ids=>if ids.contains e.id then Bc t ids else e::Bc t ids
def Uq : List Ent->Prop
 | []=>True
 | e::t=>Zg e.obj/\Uq t
def Ur : List DVal->Prop
 | []=>True
 | d::t=>Us d/\Ur t
def UK (own:List Ent):List (Nat×Nat)->Prop
 | []=>True
 | (i,_)::t=>(match Aj own i with | some e=>Zg e.obj | none=>False)/\UK own t
theorem Hb : ∀{l:List (Nat×Nat)} {j i:Nat},BB l j=some i->(i,j)∈l
 | [],j,i,h=>by simp[BB]at h
 | (i',j')::t,j,i,h=>by
  simp only[BB]at h
  split at h
  ·rename_i hj;simp only[aA0]at h;subst h;subst hj;exact aK0
  ·exact aI0 _ (Hb h)
theorem Cq : ∀{l:List (Nat×Nat)} {j i:Nat},(l.map (·.2)).Nodup->(i,j)∈l->BB l j=some i
 | (i',j')::t,j,i,hn,h=>by
  simp only[List.map_cons,cG0]at hn;simp only[BB]
  rcases aL0.1 h with h | h
  ·simp only[aR0]at h;rw[if_pos h.2,h.1]
  ·rw[if_neg (fun hj=>hn.1 (by rw[<-hj];exact cN0 (f:=(·.2)) h)),Cq hn.2 h]
theorem Dg_ {l:List (Nat×Nat)} (hn:(l.map (·.1)).Nodup) {i j j':Nat} (h:(i,j)∈l) (h':(i,j')∈l):j=j':=by
 induction l with
 | nil=>cases h
 | cons a l ih =>
  simp only[List.map_cons,cG0]at hn
  rcases aL0.1 h with rfl | h1
  ·rcases aL0.1 h' with h' | h2
   ·simp only[aR0]at h';exact h'.2.symm
   ·exact absurd (cN0 (f:=(·.1)) h2) hn.1
  ·rcases aL0.1 h' with rfl | h2
   ·exact absurd (cN0 (f:=(·.1)) h1) hn.1
   ·exact ih hn.2 h1 h2
theorem Dq {own:List Ent} {ids:List Nat} {e:Ent}:e∈Bc own ids↔e∈own/\e.id∉ids:=by
 induction own with
 | nil=>simp[Bc]
 | cons a t ih =>
  simp only[Bc]
  split
  ·rename_i hc;have hc:a.id∈ids:=by simpa using hc
   rw[ih]
   constructor
   ·rintro⟨h1,h2⟩;exact⟨aI0 _ h1,h2⟩
   ·rintro⟨h1,h2⟩
    rcases aL0.1 h1 with rfl | h1
    ·exact absurd hc h2
    ·exact⟨h1,h2⟩
  ·rename_i hc;have hc:a.id∉ids:=by simpa using hc
   rw[aL0,ih,aL0]
   constructor
   ·rintro (rfl | ⟨h1,h2⟩)
    ·exact⟨.inl rfl,hc⟩
    ·exact⟨.inr h1,h2⟩
   ·rintro⟨rfl | h1,h2⟩
    ·exact .inl rfl
    ·exact .inr ⟨h1,h2⟩
theorem aP (own:List Ent) (ids:List Nat):(Bc own ids).Sublist own:=by
 induction own with
 | nil=>exact List.Sublist.refl _
 | cons a t ih =>
  simp only[Bc]
  split
  ·exact ih.cons _
  ·exact ih.cons_cons _
theorem FH {φ:Nat->Nat->Option (Nat×Nat)}:∀{l l':List Ent},Ht φ l=some l'->(∀x∈l',∃e∈l,∃p,φ e.id e.r=some p/\x=⟨p.1,p.2,Iq φ e.obj⟩)
 | [],l',h=>by simp only[Ht,aA0]at h;subst h;simp
 | e::t,l',h=>by
  simp only[Ht]at h
  split at h
  ·rename_i p l hp hl;simp only[aA0]at h;subst h;intro x hx
   rcases aL0.1 hx with rfl | hx
   ·exact⟨e,aK0,p,hp,rfl⟩
   ·obtain⟨e',h1,h2⟩:=FH hl x hx;exact⟨e',aI0 _ h1,h2⟩
  ·simp at h
theorem Tt {φ:Nat->Nat->Option (Nat×Nat)} {loc loc':Nat->Loc}:∀{l l':List Ent},Ht φ l=some l'->(∀e∈l,∀p,φ e.id e.r=some p->loc' p.1=loc e.id)->Aa l' loc'=Aa l loc
 | [],l',h,_=>by simp only[Ht,aA0]at h;subst h;rfl
 | e::t,l',h,hl=>by
  simp only[Ht]at h
  split at h
  ·rename_i p l hp wY;simp only[aA0]at h;subst h;rw[DN,DN,Tt wY (fun e he=>hl e (aI0 _ he))];simp only;rw[hl e aK0 p hp]
  ·simp at h
theorem PZ : ∀{l:List Ent},Uq l->∀e∈l,Zg e.obj
 | e::t,h,x,hx=>by
  simp only[Uq]at h
  rcases aL0.1 hx with rfl | hx
  ·exact h.1
  ·exact PZ h.2 x hx
theorem Xf {own:List Ent}:∀{l:List (Nat×Nat)},UK own l->∀i j,(i,j)∈l->∃e,Aj own i=some e/\Zg e.obj
 | (i',j')::t,h,i,j,hm=>by
  simp only[UK]at h
  rcases aL0.1 hm with hm | hm
  ·simp only[aR0]at hm;obtain⟨rfl,rfl⟩:=hm;have h1:=h.1
   split at h1
   ·rename_i e he;exact⟨e,he,h1⟩
   ·exact h1.elim
  ·exact Xf h.2 i j hm
theorem FX {own:List Ent} {loc:Nat->Loc} (hn:(Aa own loc).Nodup):∀l:List Ent,(l.map (·.id)).Nodup->(∀e∈l,∃e0∈own,e0.id=e.id)->(Aa l loc).Nodup
 | [],_,_=>by simp[Aa]
 | e::l,hd,hm=>by
  simp only[List.map_cons,cG0]at hd;rw[DN,bS0];obtain⟨e0,vA,kP⟩:=hm e aK0;refine⟨by rw[<-kP];exact Dt hn e0 vA,FX hn l hd.2 (fun x hx=>hm x (aI0 _ hx)),?_⟩;intro b hb b' qL gS;subst gS;obtain⟨e2,vU,wV⟩:=bW0.1 qL;obtain⟨e3,he3,cM⟩:=hm e2 (aI0 _ vU);have:=Fz hn e0 vA e3 he3 b (by rw[kP];exact hb) (by rw[cM];exact wV);subst this;exact hd.1 (aQ0.2 ⟨e2,vU,by rw[<-cM,kP]⟩)
def Kd (loc0' loc:Nat->Loc):List (Nat×Nat)->Nat->Loc
 | [],i=>loc i
 | (i',j)::t,i=>if i=i' then loc0' j else Kd loc0' loc t i
theorem LO {loc0' loc:Nat->Loc}:∀{l:List (Nat×Nat)} {i j:Nat},(l.map (·.1)).Nodup->(i,j)∈l->Kd loc0' loc l i=loc0' j
 | (i',j')::t,i,j,hn,hm=>by
  simp only[List.map_cons,cG0]at hn;simp only[Kd]
  rcases aL0.1 hm with h | h
  ·simp only[aR0]at h;rw[if_pos h.1,h.2]
  ·rw[if_neg (fun hi=>hn.1 (by rw[<-hi];exact cN0 (f:=(·.1)) h)),LO hn.2 h]
theorem LN {loc0' loc:Nat->Loc}:∀{l:List (Nat×Nat)} {i:Nat},i∉l.map (·.1)->Kd loc0' loc l i=loc i
 | [],i,h=>rfl
 | (i',j')::t,i,h=>by
  simp only[List.map_cons,aL0,not_or]at h;simp only[Kd];rw[if_neg h.1,LN h.2]
section
variable {φ : Nat -> Nat -> Option (Nat × Nat)} {n : Nat}
theorem lA (hφ:∀i v p,φ i v=some p->p.2<=n) {d:DVal} (h:okR d):mx (Kb φ d)<=n+1:=by
 cases d<;>simp only[Kb,okR]at h |- <;>first
  |(split
    ·rename_i p hp;have:=hφ _ _ _ hp;simp only[mx];omega
    ·simp[mx])
  | (rw[h];omega)
theorem Qf (hφ:∀i v p,φ i v=some p->p.2<=n):∀{ds:List DVal},Wr ds->AJ (ds.map (Kb φ))<=n+1
 | [],_=>by simp[AJ]
 | d::ds,h=>by
  simp only[Wr]at h;have h1:=lA hφ h.1;have h2:=Qf hφ h.2;simp only[List.map_cons,AJ];omega
theorem lC (hφ:∀i v p,φ i v=some p->p.2<=n) {d:DVal} (h:ok2 d):mx (LC φ d)<=n+1:=by
 cases d with
 | fn f us cs =>
  simp only[ok2]at h;have h1:=Qf hφ h.1;have h2:=Qf hφ h.2;simp only[LC,mx];omega
 | _=>exact lA hφ (by simpa only[ok2]using h)
theorem LM (hφ:∀i v p,φ i v=some p->p.2<=n):∀{ds:List DVal},Oj ds->AJ (ds.map (LC φ))<=n+1
 | [],_=>by simp[AJ]
 | d::ds,h=>by
  simp only[Oj]at h;have h1:=lC hφ h.1;have h2:=LM hφ h.2;simp only[List.map_cons,AJ];omega
theorem lB (hφ:∀i v p,φ i v=some p->p.2<=n) {d:DVal} (h:ok3 d):mx (Ua φ d)<=n+1:=by
 cases d with
 | agg cs =>
  simp only[ok3]at h;have h1:=LM hφ h;simp only[Ua,mx];omega
 | _=>exact lC hφ (by simpa only[ok3]using h)
theorem WI (hφ:∀i v p,φ i v=some p->p.2<=n):∀{ds:List DVal},Wu ds->AJ (ds.map (Ua φ))<=n+1
 | [],_=>by simp[AJ]
 | d::ds,h=>by
  simp only[Wu]at h;have h1:=lB hφ h.1;have h2:=WI hφ h.2;simp only[List.map_cons,AJ];omega
theorem CN_ (hφ:∀i v p,φ i v=some p->p.2<=n) {d:DVal} (h:Us d):mx (GC φ d)<=n+1:=by
 cases d with
 | tup cs =>
  simp only[Us]at h;have h1:=WI hφ h;simp only[GC,mx];omega
 | _=>exact lB hφ (by simpa only[Us]using h)
theorem WF (hφ:∀i v p,φ i v=some p->p.2<=n):∀{es:List (List DVal)},ZR es->Bq (IM φ es)<=n+1
 | [],_=>by simp[IM,Bq]
 | c::l,h=>by
  simp only[ZR]at h;have h1:=LM hφ h.1;have h2:=WF hφ h.2;simp only[IM,Bq];omega
theorem AH_ (hφ:∀i v p,φ i v=some p->p.2<=n) {o:DObj} (h:Zg o):EP (Iq φ o)<=n+1:=by
 cases o with
 | box cs=>simp only[Zg]at h;simp only[Iq,EP];exact LM hφ h
 | row et k bs es =>
  simp only[Iq]
  split
  ·rename_i h0;simp only[EP,h0];omega
  ·rename_i h0;simp only[Zg]at h;simp only[EP];exact WF hφ (h.resolve_left h0)
 | map ks vs=>simp only[Zg]at h;simp only[Iq,EP,h.1,h.2];omega
 | abs A=>simp only[Iq,EP];omega
end
theorem Ep_ {l:List Ent} {n:Nat} (h:∀e∈l,e.r+1<=n/\EP e.obj<=n):Gj l<=n:=by
 induction l with
 | nil=>simp[Gj]
 | cons e t ih =>
  have h1:=h e aK0;have h2:=ih fun e he=>h e (aI0 _ he)
  simp only[Gj];omega
theorem Wa {cur cur':EF} {M M':List Nat} {h h':Array Obj} {φ:Nat->Nat->Option (Nat×Nat)} (W:Weak cur cur' M M' h h' 0) (L:Gf cur cur' φ):∀{ds:List DVal} {vs:List Value},Ur ds->Aw cur M h ds vs->Aw cur' M' h' (ds.map (GC φ)) vs
 | [],vs,_,hr=>by simpa[Aw]using hr
 | d::ds,vs,hk,hr=>by
  simp only[Ur]at hk;simp only[Aw,List.map_cons]at hr |-;obtain⟨v,r,rfl,h1,h2⟩:=hr;exact⟨v,r,rfl,OO W L hk.1 h1,Wa W L hk.2 h2⟩
abbrev DG_ := Array Value->World->(Value->World->Prop)->Prop
def Cp_ (C:DG_) (args:List DVal) (own:List Ent) (d:DVal) (own':List Ent):Prop :=
 ∀(M:List Nat) (w:World) (loc:Nat->Loc) (vs:Array Value),St own loc M w.heap->Aw (Ab own loc) (Aa own loc++M) w.heap args vs.toList ->
  C vs w fun v w'=>∃loc',St own' loc' M w'.heap/\Upd (Aa own loc) w w'/\(∀b∈Aa own' loc',b∈Aa own loc\/w.heap.size<=b) /\
   (∀e∈own',e.r<1->Ab own loc e.id e.r=some (loc' e.id))/\rd (Ab own' loc') (Aa own' loc'++M) w'.heap d v
def FL_ (C:DG_) (args:List DVal) (own:List Ent) (r:Nat) (d:DVal) (own':List Ent):Prop :=
 ∀(M:List Nat) (w:World) (loc:Nat->Loc) (vs:Array Value),Gj own<=r->St own loc M w.heap->Aw (Ab own loc) (Aa own loc++M) w.heap args vs.toList ->
  C vs w fun v w'=>∃loc',St own' loc' M w'.heap/\Upd (Aa own loc) w w'/\(∀b∈Aa own' loc',b∈Aa own loc\/w.heap.size<=b) /\
   (∀e∈own',e.r<r->Ab own loc e.id e.r=some (loc' e.id))/\rd (Ab own' loc') (Aa own' loc'++M) w'.heap d v
theorem YU {C:DG_} (hC:∀vs w (R R':Value->World->Prop),(∀v w',R v w'->R' v w')->C vs w R->C vs w R') {args args0:List DVal} {own own0 own0' l:List Ent} {d0:DVal} {r:Nat} (ρ ν:List (Nat×Nat)) (jB:Cp_ C args0 own0 d0 own0')
  (fS:KL own (BM own (DL ρ)) (DL ρ)=some own0) (qO:UK own ρ) (qW:Ur args/\xH (args.map (GC (BM own (DL ρ)))) args0)
  (hid:((ρ++ν).map (·.1)).Nodup/\(ρ.map (·.2)).Nodup) (vV:Ht (Du own ρ ν r) own0'=some l) (mZ:Uq own0') (jA:Us d0) (hnd:((Bc own ((ρ++ν).map (·.1))++l).map (·.id)).Nodup) :
  FL_ C args own r (GC (Du own ρ ν r) d0) (Bc own ((ρ++ν).map (·.1))++l):=by
 intro M w loc vs vY S hr
 -- the way in
 have cV:∀i j,(i,j)∈ρ->loc ((BB ρ j).getD 0)=loc i:=by
  intro i j hm;simp only[Cq hid.2 hm,bV0]
 obtain⟨fL,fT⟩:=LH fS
 have hm0':∀x∈own0,∃i e,(i,x.id)∈ρ/\Aj own i=some e/\x=⟨x.id,0,Iq (BM own (DL ρ)) e.obj⟩:=by
  intro x hx;obtain⟨i,j,v,e,h1,h2,h3⟩:=fL x hx;simp only[DL,aQ0,aR0]at h1;obtain⟨p,hp,rfl,rfl,rfl⟩:=h1;subst h3;exact⟨p.1,e,hp,h2,rfl⟩
 have fT:own0.map (·.id)=ρ.map (·.2):=by
  rw[fT];simp[DL]
 have hnd0:(own0.map (·.id)).Nodup:=by rw[fT];exact hid.2
 have hρ1:(ρ.map (·.1)).Nodup:=by
  have:=hid.1;rw[bI0,bS0]at this;exact this.1
 have yF:Aa own0 (fun j=>loc ((BB ρ j).getD 0))=Aa (own0.map fun x=>⟨(BB ρ x.id).getD 0,0,x.obj⟩) loc:=by
  simp[Aa,List.flatMap_map]
 have fN:((own0.map fun x=>(⟨(BB ρ x.id).getD 0,0,x.obj⟩:Ent)).map (·.id)).Nodup:=by
  rw[cA0]
  have:own0.map ((·.id)∘fun x=>(⟨(BB ρ x.id).getD 0,0,x.obj⟩:Ent))=ρ.map (·.1):=by
   have e1:own0.map ((·.id)∘fun x=>(⟨(BB ρ x.id).getD 0,0,x.obj⟩:Ent))=(own0.map (·.id)).map (fun j=>(BB ρ j).getD 0):=by
    rw[cA0];rfl
   rw[e1,fT,cA0];refine bY0 fun p hp=> ?_
   simp only[Function.comp_def];rw[Cq hid.2 hp];rfl
  rw[this];exact hρ1
 have hselm:∀e∈own0.map (fun x=>(⟨(BB ρ x.id).getD 0,0,x.obj⟩:Ent)),∃e0∈own,e0.id=e.id:=by
  intro e he;obtain⟨x,hx,rfl⟩:=aQ0.1 he;obtain⟨i,e,h1,h2,_⟩:=hm0' x hx;simp only[Cq hid.2 h1,bV0];exact⟨e,Ay h2⟩
 have kO:∀b∈Aa own0 (fun j=>loc ((BB ρ j).getD 0)),∃i j e,(i,j)∈ρ/\e∈own/\e.id=i/\b∈(loc i).blks:=by
  intro b hb;obtain⟨x,hx,hb⟩:=bW0.1 hb;obtain⟨i,e,h1,h2,_⟩:=hm0' x hx;simp only[Cq hid.2 h1,bV0]at hb;exact⟨i,x.id,e,h1,(Ay h2).1,(Ay h2).2,hb⟩
 have gH:∀b∈Aa own0 (fun j=>loc ((BB ρ j).getD 0)),b∈Aa own loc:=by
  intro b hb;obtain⟨i,j,e,_,h2,rfl,h4⟩:=kO b hb;exact AY h2 h4
 have hfr:∀b∈Aa (Bc own ((ρ++ν).map (·.1))) loc,b∈Aa own loc:=by
  intro b hb;obtain⟨e,he,hb⟩:=bW0.1 hb;exact AY (Dq.1 he).1 hb
 have mE:∀b∈Aa own0 (fun j=>loc ((BB ρ j).getD 0)),b∉Aa (Bc own ((ρ++ν).map (·.1))) loc:=by
  intro b hb qL;obtain⟨i,j,e,h1,h2,rfl,h4⟩:=kO b hb;obtain⟨e',vG,qL⟩:=bW0.1 qL;obtain⟨g1,g2⟩:=Dq.1 vG;have:=Fz S.bl e h2 e' g1 b h4 qL;subst this;exact g2 (cN0 (f:=(·.1)) (aH0 _ h1))
 have hM:∀b,b∈Aa own0 (fun j=>loc ((BB ρ j).getD 0))++(Aa (Bc own ((ρ++ν).map (·.1))) loc++M)->b∈Aa own loc++M:=by
  intro b hb;simp only[aC0]at hb |-
  rcases hb with hb | hb | hb
  ·exact .inl (gH b hb)
  ·exact .inl (hfr b hb)
  ·exact .inr hb
 have W0:Weak (Ab own loc) (Ab own0 fun j=>loc ((BB ρ j).getD 0)) (Aa own loc++M) (Aa own0 (fun j=>loc ((BB ρ j).getD 0))++(Aa (Bc own ((ρ++ν).map (·.1))) loc++M)) w.heap w.heap 0 :=
  ⟨fun id r l hr=>by omega,fun b o _ (_:Gh o=true) ho=>ho,fun b o hb (_:Gh o=true) _ hm=>hb (hM b hm)⟩
 have L0:Gf (Ab own loc) (Ab own0 fun j=>loc ((BB ρ j).getD 0)) (BM own (DL ρ)):=by
  intro i v p lc hp hl;obtain⟨e,h1,h2,h3⟩:=HK hp;simp only[DL,aQ0,aR0]at h1;obtain⟨q,hq,rfl,jK,_⟩:=h1;obtain⟨e0,_,g1,_,g3⟩:=Bn hl;rw[<-h3];obtain⟨k1,k2⟩:=Ay h2;rw[<-k2,AG S.nd k1,g3,<-jK,k2,cV q.1 q.2 hq]
 have S0:St own0 (fun j=>loc ((BB ρ j).getD 0)) (Aa (Bc own ((ρ++ν).map (·.1))) loc++M) w.heap:=by
  refine⟨hnd0,?_,?_,?_,?_⟩
  ·rw[yF];exact FX S.bl _ fN hselm
  ·intro b hb hm
   rcases aC0.1 hm with hm | hm
   ·exact mE b hb hm
   ·exact S.ap b (gH b hb) hm
  ·intro b hb;exact S.lt b (hM b hb)
  ·intro x hx;obtain⟨i,e,h1,h2,h3⟩:=hm0' x hx;obtain⟨e',h4,h5⟩:=Xf qO i x.id h1;rw[h2]at h4;simp only[aA0]at h4;subst h4;obtain⟨k1,k2⟩:=Ay h2;rw[h3];have:=JW W0 L0 (l:=loc i) (l':=(fun j=>loc ((BB ρ j).getD 0)) x.id) h5 (cV i x.id h1) (fun b o _ ho=>ho) (by have:=S.ok e k1;rwa[k2]at this);exact this
 have bA:=ZE (qW.2) (Wa W0 L0 qW.1 hr);refine hC _ _ _ _ ?_ (jB _ w _ vs S0 bA);rintro v w' ⟨loc0',S1,hu,wZ,vD,vW⟩
 -- the way back
 have hφ:∀e∈own0',∀p,Du own ρ ν r e.id e.r=some p->(p.1,e.id)∈ρ++ν/\((e.r=0/\∃e1,Aj own p.1=some e1/\p.2=e1.r/\(p.1,e.id)∈ρ)\/(e.r=1/\p.2=r)):=by
  intro e he p hp;unfold Du at hp
  split at hp
  ·rename_i h0
   split at hp
   ·rename_i i hi
    split at hp
    ·rename_i e1 bY;simp only[aA0]at hp;subst hp;have:=Hb hi;exact⟨aH0 _ this,.inl ⟨h0,e1,bY,rfl,this⟩⟩
    ·simp at hp
   ·simp at hp
  ·split at hp
   ·rename_i h1
    split at hp
    ·rename_i i hi;simp only[aA0]at hp;subst hp;exact⟨Hb hi,.inr ⟨h1,rfl⟩⟩
    ·simp at hp
   ·simp at hp
 have hlp:∀e∈own0',∀p,Du own ρ ν r e.id e.r=some p->Kd loc0' loc (ρ++ν) p.1=loc0' e.id:=fun e he p hp=>LO hid.1 (hφ e he p hp).1
 have hotl:Aa l (Kd loc0' loc (ρ++ν))=Aa own0' loc0':=Tt vV hlp
 have hotf:Aa (Bc own ((ρ++ν).map (·.1))) (Kd loc0' loc (ρ++ν))=Aa (Bc own ((ρ++ν).map (·.1))) loc:=by
  unfold Aa;have:∀e∈Bc own ((ρ++ν).map (·.1)),(Kd loc0' loc (ρ++ν) e.id).blks=(loc e.id).blks:=fun e he=>by rw[LN (Dq.1 he).2]
  generalize Bc own ((ρ++ν).map (·.1))=fr at this
  induction fr with
  | nil=>rfl
  | cons a t ih =>
   rw[dJ0,dJ0,this a aK0,ih (fun e he=>this e (aI0 _ he))]
 have gM:Aa (Bc own ((ρ++ν).map (·.1))++l) (Kd loc0' loc (ρ++ν))=Aa (Bc own ((ρ++ν).map (·.1))) loc++Aa own0' loc0':=by
  rw[<-hotl,<-hotf];simp[Aa]
 have hM':∀b,b∈Aa (Bc own ((ρ++ν).map (·.1))) loc++Aa own0' loc0'++M↔b∈Aa own0' loc0'++(Aa (Bc own ((ρ++ν).map (·.1))) loc++M):=by
  intro b;simp only[aC0];constructor
  ·intro h;rcases h with (h | h) | h
   ·exact .inr (.inl h)
   ·exact .inl h
   ·exact .inr (.inr h)
  ·intro h;rcases h with h | h | h
   ·exact .inl (.inr h)
   ·exact .inl (.inl h)
   ·exact .inr h
 have hfid:∀x∈l,x.id∈(ρ++ν).map (·.1):=by
  intro x hx;obtain⟨e,he,p,hp,rfl⟩:=FH vV x hx;exact cN0 (f:=(·.1)) (hφ e he p hp).1
 have W1:Weak (Ab own0' loc0') (Ab (Bc own ((ρ++ν).map (·.1))++l) (Kd loc0' loc (ρ++ν))) (Aa own0' loc0'++(Aa (Bc own ((ρ++ν).map (·.1))) loc++M)) (Aa (Bc own ((ρ++ν).map (·.1))++l) (Kd loc0' loc (ρ++ν))++M) w'.heap w'.heap 0 :=
  ⟨fun id r l hr=>by omega,fun b o _ (_:Gh o=true) ho=>ho,fun b o hb (_:Gh o=true) _ hm=>hb (by rw[gM]at hm;exact(hM' b).1 hm)⟩
 have L1:Gf (Ab own0' loc0') (Ab (Bc own ((ρ++ν).map (·.1))++l) (Kd loc0' loc (ρ++ν))) (Du own ρ ν r):=by
  intro j v p lc hp hl;obtain⟨x,hx,g1,g2,g3⟩:=Bn hl
  have hpj:(p.1,j)∈ρ++ν/\((v=0/\∃e1,Aj own p.1=some e1/\p.2=e1.r)\/(v=1/\p.2=r)):=by
   unfold Du at hp
   split at hp
   ·rename_i h0
    split at hp
    ·rename_i i hi
     split at hp
     ·rename_i e1 bY;simp only[aA0]at hp;subst hp;exact⟨aH0 _ (Hb hi),.inl ⟨h0,e1,bY,rfl⟩⟩
     ·simp at hp
    ·simp at hp
   ·split at hp
    ·rename_i h1
     split at hp
     ·rename_i i hi;simp only[aA0]at hp;subst hp;exact⟨Hb hi,.inr ⟨h1,rfl⟩⟩
     ·simp at hp
    ·simp at hp
  have hpi:p.1∈(ρ++ν).map (·.1):=cN0 (f:=(·.1)) hpj.1
  rcases aC0.1 hx with hx | hx
  ·exact absurd (g1▸hpi) (Dq.1 hx).2
  ·obtain⟨e,he,q,hq,rfl⟩:=FH vV x hx;simp only at g1 g2;obtain⟨q1,q2⟩:=hφ e he q hq;have hej:e.id=j:=Dg_ hid.1 (by rw[<-g1];exact q1) hpj.1;subst hej
   have yD:e.r=v:=by
    rcases q2 with ⟨a1,e1,a2,a3,_⟩ | ⟨a1,a2⟩<;>rcases hpj.2 with ⟨b1,e2,b2,b3⟩ | ⟨b1,b2⟩
    ·omega
    ·exfalso;have:=(Be (Ay a2).1).1;omega
    ·exfalso;have:=(Be (Ay b2).1).1;omega
    ·omega
   subst yD;rw[AG S1.nd he,g3,<-g1,LO hid.1 q1]
 have cG:∀e∈Bc own ((ρ++ν).map (·.1)),∀b o,b∈(loc e.id).blks->w.heap[b]? =some o->w'.heap[b]? =some o:=by
  intro e he b o hb ho;have hbf:b∈Aa (Bc own ((ρ++ν).map (·.1))) loc:=AY he hb;rw[hu.blk b (aD0.1 ho).1 (fun h=>mE b h hbf)];exact ho
 have W2:Weak (Ab own loc) (Ab (Bc own ((ρ++ν).map (·.1))++l) (Kd loc0' loc (ρ++ν))) (Aa own loc++M) (Aa (Bc own ((ρ++ν).map (·.1))++l) (Kd loc0' loc (ρ++ν))++M) w.heap w'.heap r:=by
  refine⟨?_,?_,?_⟩
  ·intro id v lc hv hl;obtain⟨x,hx,rfl,rfl,rfl⟩:=Bn hl
   rcases aC0.1 hx with hx | hx
   ·have:=Dq.1 hx;rw[AG S.nd this.1,LN this.2]
   ·obtain⟨e,he,q,hq,rfl⟩:=FH vV x hx;simp only at hv |-;obtain⟨q1,q2⟩:=hφ e he q hq
    rcases q2 with ⟨a1,e1,a2,a3,a4⟩ | ⟨a1,a2⟩
    ·have h1:=vD e he (by omega);obtain⟨x0,k1,k2,k3,k4⟩:=Bn h1;obtain⟨m1,m2⟩:=Ay a2;rw[LO hid.1 q1,k4,cV _ _ a4,a3,<-m2,AG S.nd m1]
    ·omega
  ·intro b o hb (_:Gh o=true) ho;rw[hu.blk b (aD0.1 ho).1 (fun h=>hb (aH0 _ (gH b h)))];exact ho
  ·intro b o hb (_:Gh o=true) ho hm;rw[gM]at hm;have qV:=(aD0.1 ho).1;simp only[aC0]at hm hb
   rcases hm with (hm | hm) | hm
   ·exact hb (.inl (hfr b hm))
   ·rcases wZ b hm with h | h
    ·exact hb (.inl (gH b h))
    ·omega
   ·exact hb (.inr hm)
 refine⟨Kd loc0' loc (ρ++ν),⟨hnd,?_,?_,?_,?_⟩,?_,?_,?_,?_⟩
 ·rw[gM,bS0];refine⟨(DM S.bl _ ?_ (fun e he=>(Dq.1 he).1)),S1.bl,?_⟩
  ·exact((aP own _).map _).nodup S.nd
  ·intro b hb b' qL gS;subst gS;exact S1.ap b qL (aH0 _ hb)
 ·intro b hb hm;rw[gM]at hb
  rcases aC0.1 hb with hb | hb
  ·exact S.ap b (hfr b hb) hm
  ·exact S1.ap b hb (aJ0 _ hm)
 ·intro b hb;rw[gM]at hb;exact S1.lt b ((hM' b).1 hb)
 ·intro x hx
  rcases aC0.1 hx with hx | hx
  ·have hm:=Dq.1 hx;have:=Bd W2 (Nat.le_trans (Be hm.1).2 vY) (cG x hx) (S.ok x hm.1)
   rwa[LN hm.2]
  ·obtain⟨e,he,q,hq,rfl⟩:=FH vV x hx;exact JW W1 L1 (PZ mZ e he) (hlp e he q hq) (fun b o _ ho=>ho) (S1.ok e he)
 ·refine⟨hu.os,hu.tape,hu.output,hu.drawn,hu.size,fun b hb hn=>hu.blk b hb fun h=>hn (gH b h)⟩
 ·intro b hb;rw[gM]at hb
  rcases aC0.1 hb with hb | hb
  ·exact .inl (hfr b hb)
  ·rcases wZ b hb with h | h
   ·exact .inl (gH b h)
   ·exact .inr h
 ·intro x hx qV;exact W2.c x.id x.r _ qV (AG hnd hx)
 ·exact OO W1 L1 jA vW
theorem OC {P:Program} {f:Fn} {args args0:List DVal} {own own0 own0' l:List Ent} {d0:DVal} {r:Nat} (ρ ν:List (Nat×Nat)) (hS:Bl P f args0 own0 d0 own0')
  (fS:KL own (BM own (DL ρ)) (DL ρ)=some own0) (qO:UK own ρ) (qW:Ur args/\xH (args.map (GC (BM own (DL ρ)))) args0)
  (hid:((ρ++ν).map (·.1)).Nodup/\(ρ.map (·.2)).Nodup) (vV:Ht (Du own ρ ν r) own0'=some l) (mZ:Uq own0') (jA:Us d0) (hnd:((Bc own ((ρ++ν).map (·.1))++l).map (·.id)).Nodup) :
  Vq P f args own r (GC (Du own ρ ν r) d0) (Bc own ((ρ++ν).map (·.1))++l):=by
 have wV:Gj own<=r->∀i v p,Du own ρ ν r i v=some p->p.2<=r:=by
  intro vY i v p hp;unfold Du at hp
  split at hp
  ·split at hp
   ·split at hp
    ·rename_i e he;simp only[aA0]at hp;subst hp;have:=(Be (Ay he).1).1;simp only;omega
    ·simp at hp
   ·simp at hp
  ·split at hp
   ·split at hp
    ·simp only[aA0]at hp;subst hp;exact Nat.le_refl _
    ·simp at hp
   ·simp at hp
 refine⟨hS.2.1,hnd,fun vY=>⟨CN_ (wV vY) jA,Ep_ fun e he=> ?_⟩,?_⟩
 ·rcases aC0.1 he with he | he
  ·have:=Be (Dq.1 he).1;omega
  ·obtain⟨e0,h0,p,hp,rfl⟩:=FH vV e he;exact⟨by have:=wV vY _ _ _ hp;simp only;omega,AH_ (wV vY) (PZ mZ e0 h0)⟩
 exact YU (C:=JA P f) (fun vs w R R' h hc=>hc.mono h) ρ ν (fun M w loc vs S hr=>hS.2.2 M w loc vs S hr) fS qO qW hid vV mZ jA hnd
def Gb (es:List (List DVal)) (i m:Nat) (es2:List (List DVal)):List (List DVal):=es.take i++es2.take m++es.drop (i+min es2.length m)
theorem uC {es es2:List (List DVal)} {i m:Nat} (h:i+m<=es.length):(Gb es i m es2).length=es.length:=by
 simp only[Gb,aE0,aW0,bZ0];omega
theorem SN {es:List (List DVal)} {k n:Nat} (h:Bq es<=n):Bq (es.take k)<=n:=Nat.le_trans (FP k es) h
theorem sM {es:List (List DVal)} {k n:Nat} (h:Bq es<=n):Bq (es.drop k)<=n:=Nat.le_trans (FQ k es) h
theorem XH {es es2:List (List DVal)} {i m n:Nat} (h1:Bq es<=n) (h2:Bq es2<=n):Bq (Gb es i m es2)<=n:=by
 unfold Gb;rw[Bt,Bt];have:=SN (k:=i) h1;have:=SN (k:=m) h2;have:=sM (k:=i+min es2.length m) h1;omega
theorem Nb {k:Nat}:∀(rows:List (List Value)) (i:Nat),(∀r∈rows,r.length=k)->(rows.take i).flatten=rows.flatten.take (i*k)
 | [],i,_=>by simp
 | r::rows,0,_=>by simp
 | r::rows,i+1,h=>by
  have hr:=h r aK0;rw[cJ0,cZ0,cZ0,Nb rows i fun x hx=>h x (aI0 _ hx),List.take_append,hr];have e1:(i+1)*k-k=i*k:=by rw[bQ0];omega
  rw[e1,cR0 (l:=r) (by rw[hr,bQ0];omega)]
theorem Tg {k:Nat}:∀(rows:List (List Value)) (i:Nat),(∀r∈rows,r.length=k)->(rows.drop i).flatten=rows.flatten.drop (i*k)
 | [],i,_=>by simp
 | r::rows,0,_=>by simp
 | r::rows,i+1,h=>by
  have hr:=h r aK0;rw[dQ0,cZ0,Tg rows i fun x hx=>h x (aI0 _ hx),List.drop_append,hr];have e1:(i+1)*k-k=i*k:=by rw[bQ0];omega
  rw[e1,dK0 (l:=r) (by rw[hr,bQ0];omega),List.nil_append]
section
variable {P : Program} {B : Base} {s : DS} {a : Act} {w : World} {loc : Nat -> Loc}
theorem xZ {cur:EF} {M:List Nat} {H:Array Obj} {k:Nat} {es:List (List DVal)} {rows:List (List Value)} (hl:rows.length=es.length)
  (h:∀(i:Nat) (cs:List DVal) (us:List Value),es[i]? =some cs->rows[i]? =some us->cs.length=k/\Aw cur M H cs us/\∀u∈us,u.oneCell'=true):∀r∈rows,r.length=k:=by
 intro r hr;obtain⟨i,hi,rfl⟩:=bU0 hr;obtain⟨h1,h2,_⟩:=h i es[i] rows[i] (aB0 _) (aB0 _);have:=Aq _ _ h2;omega
theorem Rel.copyRow {d sd:DVal} {id r k0 bs0 i m n k2:Nat} {t ty:TypeId} {et k bs:Nat} {es es2:List (List DVal)} {e:Ent} {v sv:Value} {dst:Option Nat} (R:Rel B s a w loc) (he:Aj s.own id=some e) (qT:e.r=r) (qZ:e.obj= .row et k bs es)
  (hv:Bb s loc B.M0 w d v) (hd:d= .osl id r/\i=0/\m=es.length\/d= .vw id r k bs0 i m) (hb:i+m<=es.length) (ht:tElem P t=some (k,k0)) (hk:0<k)
  (hsv:Bb s loc B.M0 w sd sv) (wB:IJ s.own sd=some (k2,es2)) (zI:k2=k\/es2=[]) (kB:Bq es2<=n)
  (qE:Cb B s<=n) (qC:∀i,dst=some i->i<B.nt) :
  ∃w',(Builtin.copy_ #[t,t] ty #[v,sv]).run P w= .ok (goInt (min es2.length m:Nat)) w'/\Rel B ⟨Bv s.slots dst (.int .i64 (min es2.length m:Nat)),upE s.own id r (.row et k bs (Gb es i m es2))⟩ (a.put dst (goInt (min es2.length m:Nat))) w' (CH loc id (loc id)):=by
 obtain⟨e1,i1,hu,hi,qD,hby,_⟩:=BA ht;obtain⟨rows2,q1,q2,q3,q4,q5,q6⟩:=xR (B:=B) R.st hsv wB;obtain⟨ad,cap,rfl,jT⟩:=iP (B:=B) R.st he qT qZ hv hd;have qU:=(AN he).1;have hid:=(AN he).2;have wS:=(Be qU).2;rw[qZ]at wS;simp only[EP]at wS
 have mV:∀cur M h,rd cur M h (.int .i64 (min es2.length m:Nat)) (goInt (min es2.length m:Nat)):=by
  intro cur M h;have h5:min es2.length m<=maxLen:=Nat.le_trans (Nat.min_le_left _ _) q5;unfold maxLen at h5;simp only[rd,goInt];refine⟨?_,?_⟩
  ·trivial
  ·simp only[Kx];omega
 by_cases hm:min es2.length m=0
 ·have mB:Gb es i m es2=es:=by
   unfold Gb;rw[hm]
   have:es2.take m=[]:=by
    rw[<-cX0,aW0];omega
   rw[this,bO0,dC0,List.take_append_drop]
  rw[mB];rw[hm]at mV |-
  have qM:(Builtin.copy_ #[t,t] ty #[.slice ad m cap,sv]).run P w= .ok (goInt 0) w:=by
   have hl:∀(x:Addr),(loadCells x 0).run P w= .ok #[] w:=fun x=>by simpa using run_loadCells_list (P:=P) w x [] (by simp)
   rcases q6 with ⟨_,x,cap2,rfl⟩ | ⟨x,cap2,rfl,_⟩
   ·cases ad<;>cases x<;>simp[Builtin.copy_,run_underlying hu,Builtin.lenOf,Builtin.firstCells,sizeOf,typeInfo,hi,storeCells,hl]
   ·have vX:Nat.min es2.length m=0:=hm;cases ad<;>simp[Builtin.copy_,run_underlying hu,Builtin.lenOf,Builtin.firstCells,sizeOf,typeInfo,hi,storeCells,hl,vX]
  refine⟨w,qM,?_⟩;have qA:Ab s.own loc id r=some (loc id):=by unfold Ab;rw[he];simp[qT]
  have vI:=R.st.ok e qU;rw[qZ,hid]at vI
  have hL:∀b0,b0∈(loc id).blks->b0<w.heap.size/\((∃e∈s.own,e.id=id/\b0∈(loc id).blks)\/w.heap.size<=b0):=fun b0 qH =>
   ⟨R.st.lt b0 (aH0 _ (AY qU (by rw[hid];exact qH))),.inl ⟨e,qU,hid,qH⟩⟩
  have W:=R.weakUp (obj:= .row et k bs es) qE (Upd.refl _ w) hL (.inr qA);unfold Cb at qE;exact R.up (hLn:=by have:=Dt R.st.bl e qU;rwa[hid]at this) (n:=n) qE qC (Upd.refl _ w) (fun _ _ _=>rfl) hL (.inr qA) (Bd W (by simp only[EP];omega) (fun _ _ _ h=>h) vI) (mV _ _ _)
 ·have qN:k2=k:=by
   rcases zI with h | h
   ·exact h
   ·subst h;simp at hm
  subst qN;obtain⟨b,qS,rfl⟩:=jT (by omega);obtain⟨h7,b',arr,cap',h1,h2,h3,h4,h5,h6,wW⟩:=TW (B:=B) R.st he qZ (by intro h;subst h;simp at hb;omega);rw[h1]at qS;simp only[bF0,and_true]at qS;subst qS;have yW:es.length*k2<=arr.size:=by rw[<-h6];exact aZ0 _ h4
  rcases q6 with ⟨rfl,_⟩ | ⟨x,cap2,rfl,q6⟩
  ·simp at hm
  obtain⟨c,hc⟩:∃c,c=min es2.length m:=⟨_,rfl⟩;rw[<-hc]at hm mV |-;have hrk2:=xZ q1 q2;have kN:(rows2.take c).flatten=rows2.flatten.take (c*k2):=Nb rows2 c hrk2
  have cH:(rows2.take c).flatten.length=c*k2:=by
   rw[kN,aW0,q3];have:c*k2<=es2.length*k2:=aZ0 _ (by omega);omega
  have qI:∀u∈(rows2.take c).flatten,u.oneCell'=true:=fun u vB=>q4 u (by rw[kN]at vB;exact eF0 vB)
  have hsrcc:∀(j:Nat) (u:Value),(rows2.take c).flatten[j]? =some u->w.cell? (x.add j)=some u:=by
   intro j u hj;have qV:=(aF0.1 hj).1;rw[cH]at qV;rw[kN,bT0 qV]at hj;exact q6 j u hj
  have nZ:=run_loadCells_list (P:=P) w x (rows2.take c).flatten hsrcc
  have vL:i*k2+c*k2<=arr.size:=by
   rw[<-bQ0];exact Nat.le_trans (aZ0 _ (by omega)) yW
  have qR:=run_storeCells_at P b' (i*k2) et (rows2.take c).flatten 0 arr w h3 (by rw[cH];omega) qI;simp only[dC0]at qR;obtain⟨rows,r1,r2,r3,r4⟩:=EZ k2 es arr 0 wW;have hrk:=xZ r1 r3;have nM:=GQ r2 r4 yW;have harr:arr.toList=rows.flatten++arr.toList.drop (es.length*k2):=by rw[<-nM,List.take_append_drop]
  have dW:i*k2<=rows.flatten.length:=by rw[r2];exact aZ0 _ (by omega)
  have hic:i*k2+c*k2<=rows.flatten.length:=by rw[r2,<-bQ0];exact aZ0 _ (by omega)
  have wZ:(arr.toList.take (i*k2)++(rows2.take c).flatten++arr.toList.drop (i*k2+(rows2.take c).flatten.length))=(rows.take i++rows2.take c++rows.drop (i+c)).flatten++arr.toList.drop (es.length*k2):=by
   have e_t:rows.flatten.take (i*k2)=arr.toList.take (i*k2):=by rw[<-nM,List.take_take,Nat.min_eq_left (by rw[r2]at dW;exact dW)]
   have e_d:arr.toList.drop (i*k2+c*k2)=rows.flatten.drop ((i+c)*k2)++arr.toList.drop (es.length*k2):=by
    rw[bQ0]
    conv=>lhs;rw[harr]
    exact eE0 hic
   rw[cH,List.flatten_append,List.flatten_append,Nb rows i hrk,Tg rows (i+c) hrk,e_t,e_d,aS0,aS0,aS0]
  refine⟨_,?_,R.writeRow (es':=Gb es i m es2) (arr':=(arr.toList.take (i*k2)++(rows2.take c).flatten++arr.toList.drop (i*k2+(rows2.take c).flatten.length)).toArray) he qT qZ h1 h2 h3 h4 h5 h6 h7 (uC hb) ?_ ?_ (XH (by unfold Cb at qE;omega) kB) qE qC mV⟩
  ·have bU:c=Nat.min es2.length m:=hc;have hls:es2.length=es2.length:=rfl;rw[cH]at nZ;simp[Builtin.copy_,run_underlying hu,Builtin.lenOf,Builtin.firstCells,sizeOf,typeInfo,hi,<-bU,qD,nZ,qR, -List.length_flatten]
  ·simp only[dH0,aE0,aW0,bZ0,bK0,cH];omega
  ·rw[wZ];refine Ud k2 _ _ _ ?_ ?_
   ·simp only[Gb,aE0,aW0,bZ0];omega
   ·intro j cs us hj vB;unfold Gb at hj;rw[<-hc]at hj
    by_cases hj1:j<i
    ·rw[aS0,bC0 (by simp;omega),bT0 hj1]at hj;rw[aS0,bC0 (by simp;omega),bT0 hj1]at vB;exact r3 j cs us hj vB
    ·by_cases hj2:j<i+c
     ·rw[bC0 (by simp;omega),bD0 (by simp;omega),aW0,Nat.min_eq_left (by omega),bT0 (by omega)]at hj;rw[bC0 (by simp;omega),bD0 (by simp;omega),aW0,Nat.min_eq_left (by omega),bT0 (by omega)]at vB;exact q2 _ cs us hj vB
     ·rw[bD0 (by simp;omega),cQ0]at hj;rw[bD0 (by simp;omega),cQ0]at vB;simp only[aE0,aW0]at hj vB;rw[show i+c+(j-(min i es.length+min m es2.length))=j by omega]at hj;rw[show i+c+(j-(min i rows.length+min c rows2.length))=j by omega]at vB;exact r3 j cs us hj vB
end
end Go.Dm
end
