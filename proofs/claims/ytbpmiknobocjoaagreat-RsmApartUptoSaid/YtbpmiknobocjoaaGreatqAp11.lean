/- Parts of a proof, laid together: EnQ, EnI3. -/
import Derived.Laws.CopyRow
import Derived.Test.YtbpmiknobocjoaaGreatqAp9
import Derived.Test.YtbpmiknobocjoaaGreatqAp10
set_option linter.unusedSimpArgs false
set_option maxHeartbeats 8000000
set_option linter.unusedVariables false
set_option linter.unusedSectionVars false
section
namespace Go.Dm
variable [DMode]
def WM (P:Program) (f:Fn) (args:List DVal) (own:List Ent) (r:Nat) (d:DVal) (own':List Ent):Prop :=
 xO P f/\(own'.map (·.id)).Nodup/\(GY own<=r->mx d<=r+1/\GY own'<=r+1) /\
 ∀(M:List Nat) (w:World) (loc:Nat->Loc) (vs:Array Value),GY own<=r->St own loc M w.heap->rdV (Ac own loc) (Aa own loc++M) w.heap args vs.toList ->
  HN P f vs w fun v w'=>∃loc',St own' loc' M w'.heap/\Upd (Aa own loc) w w'/\(∀b∈Aa own' loc',b∈Aa own loc\/w.heap.size<=b) /\
   (∀e∈own',e.r<r->Ac own loc e.id e.r=some (loc' e.id))/\rd (Ac own' loc') (Aa own' loc'++M) w'.heap d v
def BG : List (Nat×Nat)->Nat->Option Nat
 | [],_=>none
 | (i,j')::t,j=>if j=j' then some i else BG t j
def Eb (ρ:List (Nat×Nat)):List (Nat×Nat×Nat):=ρ.map fun p=>(p.1,p.2,0)
def DF (own:List Ent) (ρ ν:List (Nat×Nat)) (r:Nat):Nat->Nat->Option (Nat×Nat):=fun j v =>
 if v=0 then (match BG ρ j with | some i=>(match Ah own i with | some e=>some (i,e.r) | none=>none) | none=>none)
 else if v=1 then (match BG (ρ++ν) j with | some i=>some (i,r) | none=>none)
 else none
def Iz (φ:Nat->Nat->Option (Nat×Nat)):List Ent->Option (List Ent)
 | []=>some []
 | e::t=>match φ e.id e.r,Iz φ t with
  | some p,some l=>some (⟨p.1,p.2,JB φ e.obj⟩::l)
  | _,_=>none
def Bl : List Ent->List Nat->List Ent
 | [],_=>[]
 | e::t,ids=>if ids.contains e.id then Bl t ids else e::Bl t ids
def Vu : List Ent->Prop
 | []=>True
 | e::t=>aN e.obj/\Vu t
def Vv : List DVal->Prop
 | []=>True
 | d::t=>Vw d/\Vv t
def VR (own:List Ent):List (Nat×Nat)->Prop
 | []=>True
 | (i,_)::t=>(match Ah own i with | some e=>aN e.obj | none=>False)/\VR own t
theorem Ii : ∀{l:List (Nat×Nat)} {j i:Nat},BG l j=some i->(i,j)∈l
 | [],j,i,h=>by simp[BG]at h
 | (i',j')::t,j,i,h=>by
  simp only[BG]at h
  split at h
  ·rename_i hj;simp only[aA0]at h;subst h;subst hj;exact aH0
  ·exact aF0 _ (Ii h)
theorem Cx : ∀{l:List (Nat×Nat)} {j i:Nat},(l.map (·.2)).Nodup->(i,j)∈l->BG l j=some i
 | (i',j')::t,j,i,hn,h=>by
  simp only[List.map_cons,cV0]at hn;simp only[BG]
  rcases aK0.1 h with h | h
  ·simp only[aV0]at h;rw[if_pos h.2,h.1]
  ·rw[if_neg (fun hj=>hn.1 (by rw[<-hj];exact cX0 (f:=(·.2)) h)),Cx hn.2 h]
theorem FQ_ {l:List (Nat×Nat)} (hn:(l.map (·.1)).Nodup) {i j j':Nat} (h:(i,j)∈l) (h':(i,j')∈l):j=j':=by
 induction l with
 | nil=>cases h
 | cons a l ih =>
  simp only[List.map_cons,cV0]at hn
  rcases aK0.1 h with rfl | h1
  ·rcases aK0.1 h' with h' | h2
   ·simp only[aV0]at h';exact h'.2.symm
   ·exact absurd (cX0 (f:=(·.1)) h2) hn.1
  ·rcases aK0.1 h' with rfl | h2
   ·exact absurd (cX0 (f:=(·.1)) h1) hn.1
   ·exact ih hn.2 h1 h2
theorem DA {own:List Ent} {ids:List Nat} {e:Ent}:e∈Bl own ids↔e∈own/\e.id∉ids:=by
 induction own with
 | nil=>simp[Bl]
 | cons a t ih =>
  simp only[Bl]
  split
  ·rename_i hc;have hc:a.id∈ids:=by simpa using hc
   rw[ih]
   constructor
   ·rintro⟨h1,h2⟩;exact⟨aF0 _ h1,h2⟩
   ·rintro⟨h1,h2⟩
    rcases aK0.1 h1 with rfl | h1
    ·exact absurd hc h2
    ·exact⟨h1,h2⟩
  ·rename_i hc;have hc:a.id∉ids:=by simpa using hc
   rw[aK0,ih,aK0]
   constructor
   ·rintro (rfl | ⟨h1,h2⟩)
    ·exact⟨.inl rfl,hc⟩
    ·exact⟨.inr h1,h2⟩
   ·rintro⟨rfl | h1,h2⟩
    ·exact .inl rfl
    ·exact .inr ⟨h1,h2⟩
theorem lF (own:List Ent) (ids:List Nat):(Bl own ids).Sublist own:=by
 induction own with
 | nil=>exact List.Sublist.refl _
 | cons a t ih =>
  simp only[Bl]
  split
  ·exact ih.cons _
  ·exact ih.cons_cons _
theorem Gn {φ:Nat->Nat->Option (Nat×Nat)}:∀{l l':List Ent},Iz φ l=some l'->(∀x∈l',∃e∈l,∃p,φ e.id e.r=some p/\x=⟨p.1,p.2,JB φ e.obj⟩)
 | [],l',h=>by simp only[Iz,aA0]at h;subst h;simp
 | e::t,l',h=>by
  simp only[Iz]at h
  split at h
  ·rename_i p l hp hl;simp only[aA0]at h;subst h;intro x hx
   rcases aK0.1 hx with rfl | hx
   ·exact⟨e,aH0,p,hp,rfl⟩
   ·obtain⟨e',h1,h2⟩:=Gn hl x hx;exact⟨e',aF0 _ h1,h2⟩
  ·simp at h
theorem UB {φ:Nat->Nat->Option (Nat×Nat)} {loc loc':Nat->Loc}:∀{l l':List Ent},Iz φ l=some l'->(∀e∈l,∀p,φ e.id e.r=some p->loc' p.1=loc e.id)->Aa l' loc'=Aa l loc
 | [],l',h,_=>by simp only[Iz,aA0]at h;subst h;rfl
 | e::t,l',h,hl=>by
  simp only[Iz]at h
  split at h
  ·rename_i p l hp wW;simp only[aA0]at h;subst h;rw[Ec,Ec,UB wW (fun e he=>hl e (aF0 _ he))];simp only;rw[hl e aH0 p hp]
  ·simp at h
theorem XN {l:List Ent} (h:Vu l):∀e∈l,aN e.obj:=by
 induction l with
 | nil=>intro x hx;simp at hx
 | cons e t ih =>
  intro x hx;simp only[Vu]at h
  rcases aK0.1 hx with rfl | hx
  ·exact h.1
  ·exact ih h.2 x hx
theorem Yx {own:List Ent}:∀{l:List (Nat×Nat)},VR own l->∀i j,(i,j)∈l->∃e,Ah own i=some e/\aN e.obj
 | (i',j')::t,h,i,j,hm=>by
  simp only[VR]at h
  rcases aK0.1 hm with hm | hm
  ·simp only[aV0]at hm;obtain⟨rfl,rfl⟩:=hm;have h1:=h.1
   split at h1
   ·rename_i e he;exact⟨e,he,h1⟩
   ·exact h1.elim
  ·exact Yx h.2 i j hm
theorem GG {own:List Ent} {loc:Nat->Loc} (hn:(Aa own loc).Nodup):∀l:List Ent,(l.map (·.id)).Nodup->(∀e∈l,∃e0∈own,e0.id=e.id)->(Aa l loc).Nodup
 | [],_,_=>by simp[Aa]
 | e::l,hd,hm=>by
  simp only[List.map_cons,cV0]at hd;rw[Ec,bX0];obtain⟨e0,vL,jD⟩:=hm e aH0;refine⟨by rw[<-jD];exact DE hn e0 vL,GG hn l hd.2 (fun x hx=>hm x (aF0 _ hx)),?_⟩;intro b hb b' qM jI;subst jI;obtain⟨e2,vS,wX⟩:=bP0.1 qM;obtain⟨e3,he3,dB⟩:=hm e2 (aF0 _ vS);have:=EI hn e0 vL e3 he3 b (by rw[jD];exact hb) (by rw[dB];exact wX);subst this;exact hd.1 (aT0.2 ⟨e2,vS,by rw[<-dB,jD]⟩)
def Lq (loc0' loc:Nat->Loc):List (Nat×Nat)->Nat->Loc
 | [],i=>loc i
 | (i',j)::t,i=>if i=i' then loc0' j else Lq loc0' loc t i
theorem MT {loc0' loc:Nat->Loc}:∀{l:List (Nat×Nat)} {i j:Nat},(l.map (·.1)).Nodup->(i,j)∈l->Lq loc0' loc l i=loc0' j
 | (i',j')::t,i,j,hn,hm=>by
  simp only[List.map_cons,cV0]at hn;simp only[Lq]
  rcases aK0.1 hm with h | h
  ·simp only[aV0]at h;rw[if_pos h.1,h.2]
  ·rw[if_neg (fun hi=>hn.1 (by rw[<-hi];exact cX0 (f:=(·.1)) h)),MT hn.2 h]
theorem MS {loc0' loc:Nat->Loc}:∀{l:List (Nat×Nat)} {i:Nat},i∉l.map (·.1)->Lq loc0' loc l i=loc i
 | [],i,h=>rfl
 | (i',j')::t,i,h=>by
  simp only[List.map_cons,aK0,not_or]at h;simp only[Lq];rw[if_neg h.1,MS h.2]
section
variable {φ : Nat -> Nat -> Option (Nat × Nat)} {n : Nat}
theorem rW (hφ:∀i v p,φ i v=some p->p.2<=n) {d:DVal} (h:okR d):mx (Lp φ d)<=n+1:=by
 cases d<;>simp only[Lp,okR]at h |- <;>first
  |(split
    ·rename_i p hp;have:=hφ _ _ _ hp;simp only[mx];omega
    ·simp[mx])
  | (rw[h];omega)
theorem Rc (hφ:∀i v p,φ i v=some p->p.2<=n):∀{ds:List DVal},XM ds->AJ (ds.map (Lp φ))<=n+1
 | [],_=>by simp[AJ]
 | d::ds,h=>by
  simp only[XM]at h;have h1:=rW hφ h.1;have h2:=Rc hφ h.2;simp only[List.map_cons,AJ];omega
theorem rY (hφ:∀i v p,φ i v=some p->p.2<=n) {d:DVal} (h:Tb d):mx (Pq φ d)<=n+1:=by
 cases d with
 | fn f us cs =>
  simp only[Tb]at h;have h1:=Rc hφ h.1;have h2:=Rc hφ h.2;simp only[Pq,mx];omega
 | _=>exact rW hφ (by simpa only[Tb]using h)
theorem MR (hφ:∀i v p,φ i v=some p->p.2<=n):∀{ds:List DVal},QY ds->AJ (ds.map (Pq φ))<=n+1
 | [],_=>by simp[AJ]
 | d::ds,h=>by
  simp only[QY]at h;have h1:=rY hφ h.1;have h2:=MR hφ h.2;simp only[List.map_cons,AJ];omega
theorem rX (hφ:∀i v p,φ i v=some p->p.2<=n) {d:DVal} (h:ok3 d):mx (Vi φ d)<=n+1:=by
 cases d with
 | agg cs =>
  simp only[ok3]at h;have h1:=MR hφ h;simp only[Vi,mx];omega
 | _=>exact rY hφ (by simpa only[ok3]using h)
theorem Yd (hφ:∀i v p,φ i v=some p->p.2<=n):∀{ds:List DVal},XP ds->AJ (ds.map (Vi φ))<=n+1
 | [],_=>by simp[AJ]
 | d::ds,h=>by
  simp only[XP]at h;have h1:=rX hφ h.1;have h2:=Yd hφ h.2;simp only[List.map_cons,AJ];omega
theorem Fz_ (hφ:∀i v p,φ i v=some p->p.2<=n) {d:DVal} (h:Vw d):mx (Hy φ d)<=n+1:=by
 cases d with
 | tup cs =>
  simp only[Vw]at h;have h1:=Yd hφ h;simp only[Hy,mx];omega
 | _=>exact rX hφ (by simpa only[Vw]using h)
theorem Ya (hφ:∀i v p,φ i v=some p->p.2<=n):∀{es:List (List DVal)},iH es->Br (JX φ es)<=n+1
 | [],_=>by simp[JX,Br]
 | c::l,h=>by
  simp only[iH]at h;have h1:=MR hφ h.1;have h2:=Ya hφ h.2;simp only[JX,Br];omega
theorem Dl_ (hφ:∀i v p,φ i v=some p->p.2<=n) {o:DObj} (h:aN o):Em (JB φ o)<=n+1:=by
 cases o with
 | box cs=>simp only[aN]at h;simp only[JB,Em];exact MR hφ h
 | row et k bs es =>
  simp only[JB]
  split
  ·rename_i h0;simp only[Em,h0];omega
  ·rename_i h0;simp only[aN]at h;simp only[Em];exact Ya hφ (h.resolve_left h0)
 | map ks vs=>simp only[aN]at h;simp only[JB,Em,h.1,h.2];omega
 | abs A=>simp only[JB,Em];omega
 | lrec=>exact h.elim
 | glob=>exact h.elim
 | mapD=>exact h.elim
end
theorem Ha_ {l:List Ent} {n:Nat} (h:∀e∈l,e.r+1<=n/\Em e.obj<=n):GY l<=n:=by
 induction l with
 | nil=>simp[GY]
 | cons e t ih =>
  have h1:=h e aH0;have h2:=ih fun e he=>h e (aF0 _ he)
  simp only[GY];omega
theorem Xx {cur cur':ES} {M M':List Nat} {h h':Array Obj} {φ:Nat->Nat->Option (Nat×Nat)} (W:Weak cur cur' M M' h h' 0) (L:GW cur cur' φ):∀{ds:List DVal} {vs:List Value},Vv ds->rdV cur M h ds vs->rdV cur' M' h' (ds.map (Hy φ)) vs
 | [],vs,_,hr=>by simpa[rdV]using hr
 | d::ds,vs,hk,hr=>by
  simp only[Vv]at hk;simp only[rdV,List.map_cons]at hr |-;obtain⟨v,r,rfl,h1,h2⟩:=hr;exact⟨v,r,rfl,PN W L hk.1 h1,Xx W L hk.2 h2⟩
abbrev Gn_ := Array Value->World->(Value->World->Prop)->Prop
def EW_ (C:Gn_) (args:List DVal) (own:List Ent) (d:DVal) (own':List Ent):Prop :=
 ∀(M:List Nat) (w:World) (loc:Nat->Loc) (vs:Array Value),St own loc M w.heap->rdV (Ac own loc) (Aa own loc++M) w.heap args vs.toList ->
  C vs w fun v w'=>∃loc',St own' loc' M w'.heap/\Upd (Aa own loc) w w'/\(∀b∈Aa own' loc',b∈Aa own loc\/w.heap.size<=b) /\
   (∀e∈own',e.r<1->Ac own loc e.id e.r=some (loc' e.id))/\rd (Ac own' loc') (Aa own' loc'++M) w'.heap d v
def It_ (C:Gn_) (args:List DVal) (own:List Ent) (r:Nat) (d:DVal) (own':List Ent):Prop :=
 ∀(M:List Nat) (w:World) (loc:Nat->Loc) (vs:Array Value),GY own<=r->St own loc M w.heap->rdV (Ac own loc) (Aa own loc++M) w.heap args vs.toList ->
  C vs w fun v w'=>∃loc',St own' loc' M w'.heap/\Upd (Aa own loc) w w'/\(∀b∈Aa own' loc',b∈Aa own loc\/w.heap.size<=b) /\
   (∀e∈own',e.r<r->Ac own loc e.id e.r=some (loc' e.id))/\rd (Ac own' loc') (Aa own' loc'++M) w'.heap d v
theorem aB {C:Gn_} (hC:∀vs w (R R':Value->World->Prop),(∀v w',R v w'->R' v w')->C vs w R->C vs w R') {args args0:List DVal} {own own0 own0' l:List Ent} {d0:DVal} {r:Nat} (ρ ν:List (Nat×Nat)) (fZ:EW_ C args0 own0 d0 own0')
  (kH:LW own (BT own (Eb ρ)) (Eb ρ)=some own0) (qG:VR own ρ) (qA:Vv args/\wkA (args.map (Hy (BT own (Eb ρ)))) args0)
  (hid:((ρ++ν).map (·.1)).Nodup/\(ρ.map (·.2)).Nodup) (vY:Iz (DF own ρ ν r) own0'=some l) (nU:Vu own0') (fX:Vw d0) (hnd:((Bl own ((ρ++ν).map (·.1))++l).map (·.id)).Nodup) :
  It_ C args own r (Hy (DF own ρ ν r) d0) (Bl own ((ρ++ν).map (·.1))++l):=by
 intro M w loc vs vG S hr
 -- the way in
 have dO:∀i j,(i,j)∈ρ->loc ((BG ρ j).getD 0)=loc i:=by
  intro i j hm;simp only[Cx hid.2 hm,bY0]
 obtain⟨gA,bQ⟩:=ML kH
 have hm0':∀x∈own0,∃i e,(i,x.id)∈ρ/\Ah own i=some e/\x=⟨x.id,0,JB (BT own (Eb ρ)) e.obj⟩:=by
  intro x hx;obtain⟨i,j,v,e,h1,h2,h3⟩:=gA x hx;simp only[Eb,aT0,aV0]at h1;obtain⟨p,hp,rfl,rfl,rfl⟩:=h1;subst h3;exact⟨p.1,e,hp,h2,rfl⟩
 have bQ:own0.map (·.id)=ρ.map (·.2):=by
  rw[bQ];simp[Eb]
 have hnd0:(own0.map (·.id)).Nodup:=by rw[bQ];exact hid.2
 have hρ1:(ρ.map (·.1)).Nodup:=by
  have:=hid.1;rw[bD0,bX0]at this;exact this.1
 have kE:Aa own0 (fun j=>loc ((BG ρ j).getD 0))=Aa (own0.map fun x=>⟨(BG ρ x.id).getD 0,0,x.obj⟩) loc:=by
  simp[Aa,List.flatMap_map]
 have gU:((own0.map fun x=>(⟨(BG ρ x.id).getD 0,0,x.obj⟩:Ent)).map (·.id)).Nodup:=by
  rw[cC0]
  have:own0.map ((·.id)∘fun x=>(⟨(BG ρ x.id).getD 0,0,x.obj⟩:Ent))=ρ.map (·.1):=by
   have e1:own0.map ((·.id)∘fun x=>(⟨(BG ρ x.id).getD 0,0,x.obj⟩:Ent))=(own0.map (·.id)).map (fun j=>(BG ρ j).getD 0):=by
    rw[cC0];rfl
   rw[e1,bQ,cC0];refine cJ0 fun p hp=> ?_
   simp only[Function.comp_def];rw[Cx hid.2 hp];rfl
  rw[this];exact hρ1
 have hselm:∀e∈own0.map (fun x=>(⟨(BG ρ x.id).getD 0,0,x.obj⟩:Ent)),∃e0∈own,e0.id=e.id:=by
  intro e he;obtain⟨x,hx,rfl⟩:=aT0.1 he;obtain⟨i,e,h1,h2,_⟩:=hm0' x hx;simp only[Cx hid.2 h1,bY0];exact⟨e,Ar h2⟩
 have jU:∀b∈Aa own0 (fun j=>loc ((BG ρ j).getD 0)),∃i j e,(i,j)∈ρ/\e∈own/\e.id=i/\b∈(loc i).blks:=by
  intro b hb;obtain⟨x,hx,hb⟩:=bP0.1 hb;obtain⟨i,e,h1,h2,_⟩:=hm0' x hx;simp only[Cx hid.2 h1,bY0]at hb;exact⟨i,x.id,e,h1,(Ar h2).1,(Ar h2).2,hb⟩
 have kB:∀b∈Aa own0 (fun j=>loc ((BG ρ j).getD 0)),b∈Aa own loc:=by
  intro b hb;obtain⟨i,j,e,_,h2,rfl,h4⟩:=jU b hb;exact AW h2 h4
 have hfr:∀b∈Aa (Bl own ((ρ++ν).map (·.1))) loc,b∈Aa own loc:=by
  intro b hb;obtain⟨e,he,hb⟩:=bP0.1 hb;exact AW (DA.1 he).1 hb
 have hdis:∀b∈Aa own0 (fun j=>loc ((BG ρ j).getD 0)),b∉Aa (Bl own ((ρ++ν).map (·.1))) loc:=by
  intro b hb qM;obtain⟨i,j,e,h1,h2,rfl,h4⟩:=jU b hb;obtain⟨e',vE,qM⟩:=bP0.1 qM;obtain⟨g1,g2⟩:=DA.1 vE;have:=EI S.bl e h2 e' g1 b h4 qM;subst this;exact g2 (cX0 (f:=(·.1)) (aM0 _ h1))
 have hM:∀b,b∈Aa own0 (fun j=>loc ((BG ρ j).getD 0))++(Aa (Bl own ((ρ++ν).map (·.1))) loc++M)->b∈Aa own loc++M:=by
  intro b hb;simp only[aG0]at hb |-
  rcases hb with hb | hb | hb
  ·exact .inl (kB b hb)
  ·exact .inl (hfr b hb)
  ·exact .inr hb
 have W0:Weak (Ac own loc) (Ac own0 fun j=>loc ((BG ρ j).getD 0)) (Aa own loc++M) (Aa own0 (fun j=>loc ((BG ρ j).getD 0))++(Aa (Bl own ((ρ++ν).map (·.1))) loc++M)) w.heap w.heap 0 :=
  ⟨fun id r l hr=>by omega,fun b o _ (_:FE o=true) ho=>ho,fun b o hb (_:FE o=true) _ hm=>hb (hM b hm)⟩
 have L0:GW (Ac own loc) (Ac own0 fun j=>loc ((BG ρ j).getD 0)) (BT own (Eb ρ)):=by
  intro i v p lc hp hl;obtain⟨e,h1,h2,h3⟩:=IT hp;simp only[Eb,aT0,aV0]at h1;obtain⟨q,hq,rfl,yE,_⟩:=h1;obtain⟨e0,_,g1,_,g3⟩:=BE hl;rw[<-h3];obtain⟨k1,k2⟩:=Ar h2;rw[<-k2,Ay S.nd k1,g3,<-yE,k2,dO q.1 q.2 hq]
 have S0:St own0 (fun j=>loc ((BG ρ j).getD 0)) (Aa (Bl own ((ρ++ν).map (·.1))) loc++M) w.heap:=by
  refine⟨hnd0,?_,?_,?_,?_⟩
  ·rw[kE];exact GG S.bl _ gU hselm
  ·intro b hb hm
   rcases aG0.1 hm with hm | hm
   ·exact hdis b hb hm
   ·exact S.ap b (kB b hb) hm
  ·intro b hb;exact S.lt b (hM b hb)
  ·intro x hx;obtain⟨i,e,h1,h2,h3⟩:=hm0' x hx;obtain⟨e',h4,h5⟩:=Yx qG i x.id h1;rw[h2]at h4;simp only[aA0]at h4;subst h4;obtain⟨k1,k2⟩:=Ar h2;rw[h3];have:=Lk W0 L0 (l:=loc i) (l':=(fun j=>loc ((BG ρ j).getD 0)) x.id) h5 (dO i x.id h1) (fun b o _ ho=>ho) (by have:=S.ok e k1;rwa[k2]at this);exact this
 have yP:=eT (qA.2) (Xx W0 L0 qA.1 hr);refine hC _ _ _ _ ?_ (fZ _ w _ vs S0 yP);rintro v w' ⟨loc0',S1,hu,wG,vB,vX⟩
 -- the way back
 have hφ:∀e∈own0',∀p,DF own ρ ν r e.id e.r=some p->(p.1,e.id)∈ρ++ν/\((e.r=0/\∃e1,Ah own p.1=some e1/\p.2=e1.r/\(p.1,e.id)∈ρ)\/(e.r=1/\p.2=r)):=by
  intro e he p hp;unfold DF at hp
  split at hp
  ·rename_i h0
   split at hp
   ·rename_i i hi
    split at hp
    ·rename_i e1 cY;simp only[aA0]at hp;subst hp;have:=Ii hi;exact⟨aM0 _ this,.inl ⟨h0,e1,cY,rfl,this⟩⟩
    ·simp at hp
   ·simp at hp
  ·split at hp
   ·rename_i h1
    split at hp
    ·rename_i i hi;simp only[aA0]at hp;subst hp;exact⟨Ii hi,.inr ⟨h1,rfl⟩⟩
    ·simp at hp
   ·simp at hp
 have hlp:∀e∈own0',∀p,DF own ρ ν r e.id e.r=some p->Lq loc0' loc (ρ++ν) p.1=loc0' e.id:=fun e he p hp=>MT hid.1 (hφ e he p hp).1
 have hotl:Aa l (Lq loc0' loc (ρ++ν))=Aa own0' loc0':=UB vY hlp
 have hotf:Aa (Bl own ((ρ++ν).map (·.1))) (Lq loc0' loc (ρ++ν))=Aa (Bl own ((ρ++ν).map (·.1))) loc:=by
  unfold Aa;have:∀e∈Bl own ((ρ++ν).map (·.1)),(Lq loc0' loc (ρ++ν) e.id).blks=(loc e.id).blks:=fun e he=>by rw[MS (DA.1 he).2]
  generalize Bl own ((ρ++ν).map (·.1))=fr at this
  induction fr with
  | nil=>rfl
  | cons a t ih =>
   rw[cP0,cP0,this a aH0,ih (fun e he=>this e (aF0 _ he))]
 have bB:Aa (Bl own ((ρ++ν).map (·.1))++l) (Lq loc0' loc (ρ++ν))=Aa (Bl own ((ρ++ν).map (·.1))) loc++Aa own0' loc0':=by
  rw[<-hotl,<-hotf];simp[Aa]
 have hM':∀b,b∈Aa (Bl own ((ρ++ν).map (·.1))) loc++Aa own0' loc0'++M↔b∈Aa own0' loc0'++(Aa (Bl own ((ρ++ν).map (·.1))) loc++M):=by
  intro b;simp only[aG0];constructor
  ·intro h;rcases h with (h | h) | h
   ·exact .inr (.inl h)
   ·exact .inl h
   ·exact .inr (.inr h)
  ·intro h;rcases h with h | h | h
   ·exact .inl (.inr h)
   ·exact .inl (.inl h)
   ·exact .inr h
 have hfid:∀x∈l,x.id∈(ρ++ν).map (·.1):=by
  intro x hx;obtain⟨e,he,p,hp,rfl⟩:=Gn vY x hx;exact cX0 (f:=(·.1)) (hφ e he p hp).1
 have W1:Weak (Ac own0' loc0') (Ac (Bl own ((ρ++ν).map (·.1))++l) (Lq loc0' loc (ρ++ν))) (Aa own0' loc0'++(Aa (Bl own ((ρ++ν).map (·.1))) loc++M)) (Aa (Bl own ((ρ++ν).map (·.1))++l) (Lq loc0' loc (ρ++ν))++M) w'.heap w'.heap 0 :=
  ⟨fun id r l hr=>by omega,fun b o _ (_:FE o=true) ho=>ho,fun b o hb (_:FE o=true) _ hm=>hb (by rw[bB]at hm;exact(hM' b).1 hm)⟩
 have L1:GW (Ac own0' loc0') (Ac (Bl own ((ρ++ν).map (·.1))++l) (Lq loc0' loc (ρ++ν))) (DF own ρ ν r):=by
  intro j v p lc hp hl;obtain⟨x,hx,g1,g2,g3⟩:=BE hl
  have hpj:(p.1,j)∈ρ++ν/\((v=0/\∃e1,Ah own p.1=some e1/\p.2=e1.r)\/(v=1/\p.2=r)):=by
   unfold DF at hp
   split at hp
   ·rename_i h0
    split at hp
    ·rename_i i hi
     split at hp
     ·rename_i e1 cY;simp only[aA0]at hp;subst hp;exact⟨aM0 _ (Ii hi),.inl ⟨h0,e1,cY,rfl⟩⟩
     ·simp at hp
    ·simp at hp
   ·split at hp
    ·rename_i h1
     split at hp
     ·rename_i i hi;simp only[aA0]at hp;subst hp;exact⟨Ii hi,.inr ⟨h1,rfl⟩⟩
     ·simp at hp
    ·simp at hp
  have hpi:p.1∈(ρ++ν).map (·.1):=cX0 (f:=(·.1)) hpj.1
  rcases aG0.1 hx with hx | hx
  ·exact absurd (g1▸hpi) (DA.1 hx).2
  ·obtain⟨e,he,q,hq,rfl⟩:=Gn vY x hx;simp only at g1 g2;obtain⟨q1,q2⟩:=hφ e he q hq;have hej:e.id=j:=FQ_ hid.1 (by rw[<-g1];exact q1) hpj.1;subst hej
   have kW:e.r=v:=by
    rcases q2 with ⟨a1,e1,a2,a3,_⟩ | ⟨a1,a2⟩<;>rcases hpj.2 with ⟨b1,e2,b2,b3⟩ | ⟨b1,b2⟩
    ·omega
    ·exfalso;have:=(Bn (Ar a2).1).1;omega
    ·exfalso;have:=(Bn (Ar b2).1).1;omega
    ·omega
   subst kW;rw[Ay S1.nd he,g3,<-g1,MT hid.1 q1]
 have hkeep:∀e∈Bl own ((ρ++ν).map (·.1)),∀b o,b∈(loc e.id).blks->w.heap[b]? =some o->w'.heap[b]? =some o:=by
  intro e he b o hb ho;have hbf:b∈Aa (Bl own ((ρ++ν).map (·.1))) loc:=AW he hb;rw[hu.blk b (aC0.1 ho).1 (fun h=>hdis b h hbf)];exact ho
 have W2:Weak (Ac own loc) (Ac (Bl own ((ρ++ν).map (·.1))++l) (Lq loc0' loc (ρ++ν))) (Aa own loc++M) (Aa (Bl own ((ρ++ν).map (·.1))++l) (Lq loc0' loc (ρ++ν))++M) w.heap w'.heap r:=by
  refine⟨?_,?_,?_⟩
  ·intro id v lc hv hl;obtain⟨x,hx,rfl,rfl,rfl⟩:=BE hl
   rcases aG0.1 hx with hx | hx
   ·have:=DA.1 hx;rw[Ay S.nd this.1,MS this.2]
   ·obtain⟨e,he,q,hq,rfl⟩:=Gn vY x hx;simp only at hv |-;obtain⟨q1,q2⟩:=hφ e he q hq
    rcases q2 with ⟨a1,e1,a2,a3,a4⟩ | ⟨a1,a2⟩
    ·have h1:=vB e he (by omega);obtain⟨x0,k1,k2,k3,k4⟩:=BE h1;obtain⟨m1,m2⟩:=Ar a2;rw[MT hid.1 q1,k4,dO _ _ a4,a3,<-m2,Ay S.nd m1]
    ·omega
  ·intro b o hb (_:FE o=true) ho;rw[hu.blk b (aC0.1 ho).1 (fun h=>hb (aM0 _ (kB b h)))];exact ho
  ·intro b o hb (_:FE o=true) ho hm;rw[bB]at hm;have qV:=(aC0.1 ho).1;simp only[aG0]at hm hb
   rcases hm with (hm | hm) | hm
   ·exact hb (.inl (hfr b hm))
   ·rcases wG b hm with h | h
    ·exact hb (.inl (kB b h))
    ·omega
   ·exact hb (.inr hm)
 refine⟨Lq loc0' loc (ρ++ν),⟨hnd,?_,?_,?_,?_⟩,?_,?_,?_,?_⟩
 ·rw[bB,bX0];refine⟨(Df S.bl _ ?_ (fun e he=>(DA.1 he).1)),S1.bl,?_⟩
  ·exact((lF own _).map _).nodup S.nd
  ·intro b hb b' qM jI;subst jI;exact S1.ap b qM (aM0 _ hb)
 ·intro b hb hm;rw[bB]at hb
  rcases aG0.1 hb with hb | hb
  ·exact S.ap b (hfr b hb) hm
  ·exact S1.ap b hb (aN0 _ hm)
 ·intro b hb;rw[bB]at hb;exact S1.lt b ((hM' b).1 hb)
 ·intro x hx
  rcases aG0.1 hx with hx | hx
  ·have hm:=DA.1 hx;have:=AV W2 (Nat.le_trans (Bn hm.1).2 vG) (hkeep x hx) (S.ok x hm.1)
   rwa[MS hm.2]
  ·obtain⟨e,he,q,hq,rfl⟩:=Gn vY x hx;exact Lk W1 L1 (XN nU e he) (hlp e he q hq) (fun b o _ ho=>ho) (S1.ok e he)
 ·refine⟨hu.os,hu.tape,hu.output,hu.drawn,hu.size,fun b hb hn=>hu.blk b hb fun h=>hn (kB b h)⟩
 ·intro b hb;rw[bB]at hb
  rcases aG0.1 hb with hb | hb
  ·exact .inl (hfr b hb)
  ·rcases wG b hb with h | h
   ·exact .inl (kB b h)
   ·exact .inr h
 ·intro x hx qV;exact W2.c x.id x.r _ qV (Ay hnd hx)
 ·exact PN W1 L1 fX vX
theorem PE {P:Program} {f:Fn} {args args0:List DVal} {own own0 own0' l:List Ent} {d0:DVal} {r:Nat} (ρ ν:List (Nat×Nat)) (hS:Bj P f args0 own0 d0 own0')
  (kH:LW own (BT own (Eb ρ)) (Eb ρ)=some own0) (qG:VR own ρ) (qA:Vv args/\wkA (args.map (Hy (BT own (Eb ρ)))) args0)
  (hid:((ρ++ν).map (·.1)).Nodup/\(ρ.map (·.2)).Nodup) (vY:Iz (DF own ρ ν r) own0'=some l) (nU:Vu own0') (fX:Vw d0) (hnd:((Bl own ((ρ++ν).map (·.1))++l).map (·.id)).Nodup) :
  WM P f args own r (Hy (DF own ρ ν r) d0) (Bl own ((ρ++ν).map (·.1))++l):=by
 have wX:GY own<=r->∀i v p,DF own ρ ν r i v=some p->p.2<=r:=by
  intro vG i v p hp;unfold DF at hp
  split at hp
  ·split at hp
   ·split at hp
    ·rename_i e he;simp only[aA0]at hp;subst hp;have:=(Bn (Ar he).1).1;simp only;omega
    ·simp at hp
   ·simp at hp
  ·split at hp
   ·split at hp
    ·simp only[aA0]at hp;subst hp;exact Nat.le_refl _
    ·simp at hp
   ·simp at hp
 refine⟨hS.2.1,hnd,fun vG=>⟨Fz_ (wX vG) fX,Ha_ fun e he=> ?_⟩,?_⟩
 ·rcases aG0.1 he with he | he
  ·have:=Bn (DA.1 he).1;omega
  ·obtain⟨e0,h0,p,hp,rfl⟩:=Gn vY e he;exact⟨by have:=wX vG _ _ _ hp;simp only;omega,Dl_ (wX vG) (XN nU e0 h0)⟩
 exact aB (C:=HN P f) (fun vs w R R' h hc=>hc.mono h) ρ ν (fun M w loc vs S hr=>hS.2.2 M w loc vs S hr) kH qG qA hid vY nU fX hnd
def Jw (es:List (List DVal)) (i m:Nat) (es2:List (List DVal)):List (List DVal):=es.take i++es2.take m++es.drop (i+min es2.length m)
theorem BC_ {es es2:List (List DVal)} {i m:Nat} (h:i+m<=es.length):(Jw es i m es2).length=es.length:=by
 simp only[Jw,aD0,aY0,cD0];omega
theorem TV {es:List (List DVal)} {k n:Nat} (h:Br es<=n):Br (es.take k)<=n:=Nat.le_trans (EF k es) h
theorem AO_ {es:List (List DVal)} {k n:Nat} (h:Br es<=n):Br (es.drop k)<=n:=Nat.le_trans (Gy k es) h
theorem YY {es es2:List (List DVal)} {i m n:Nat} (h1:Br es<=n) (h2:Br es2<=n):Br (Jw es i m es2)<=n:=by
 unfold Jw;rw[BD,BD];have:=TV (k:=i) h1;have:=TV (k:=m) h2;have:=AO_ (k:=i+min es2.length m) h1;omega
theorem Ox {k:Nat}:∀(rows:List (List Value)) (i:Nat),(∀r∈rows,r.length=k)->(rows.take i).flatten=rows.flatten.take (i*k)
 | [],i,_=>by simp
 | r::rows,0,_=>by simp
 | r::rows,i+1,h=>by
  have hr:=h r aH0;rw[cI0,eR0,eR0,Ox rows i fun x hx=>h x (aF0 _ hx),List.take_append,hr];have e1:(i+1)*k-k=i*k:=by rw[bV0];omega
  rw[e1,cK0 (l:=r) (by rw[hr,bV0];omega)]
theorem Un {k:Nat}:∀(rows:List (List Value)) (i:Nat),(∀r∈rows,r.length=k)->(rows.drop i).flatten=rows.flatten.drop (i*k)
 | [],i,_=>by simp
 | r::rows,0,_=>by simp
 | r::rows,i+1,h=>by
  have hr:=h r aH0;rw[dP0,eR0,Un rows i fun x hx=>h x (aF0 _ hx),List.drop_append,hr];have e1:(i+1)*k-k=i*k:=by rw[bV0];omega
  rw[e1,dA0 (l:=r) (by rw[hr,bV0];omega),List.nil_append]
section
variable {P : Program} {B : Base} {s : DS} {a : Act} {w : World} {loc : Nat -> Loc}
theorem CD_ {cur:ES} {M:List Nat} {H:Array Obj} {k:Nat} {es:List (List DVal)} {rows:List (List Value)} (hl:rows.length=es.length)
  (h:∀(i:Nat) (cs:List DVal) (us:List Value),es[i]? =some cs->rows[i]? =some us->cs.length=k/\rdV cur M H cs us/\∀u∈us,u.oneCell'=true):∀r∈rows,r.length=k:=by
 intro r hr;obtain⟨i,hi,rfl⟩:=bW0 hr;obtain⟨h1,h2,_⟩:=h i es[i] rows[i] (aI0 _) (aI0 _);have:=AA _ _ h2;omega
theorem Rel.copyRow {d sd:DVal} {id r k0 bs0 i m n k2:Nat} {t ty:TypeId} {et k bs:Nat} {es es2:List (List DVal)} {e:Ent} {v sv:Value} {dst:Option Nat} (R:Rel B s a w loc) (he:Ah s.own id=some e) (wV:e.r=r) (qN:e.obj= .row et k bs es)
  (hv:Bg s loc B.M0 w d v) (hd:d= .osl id r/\i=0/\m=es.length\/d= .vw id r k bs0 i m) (hb:i+m<=es.length) (ht:tElem P t=some (k,k0)) (hk:0<k)
  (hsv:Bg s loc B.M0 w sd sv) (wH:JU s.own sd=some (k2,es2)) (zT:k2=k\/es2=[]) (jA:Br es2<=n)
  (qP:Cd B s<=n) (qT:∀i,dst=some i->i<B.nt) :
  ∃w',(Builtin.copy_ #[t,t] ty #[v,sv]).run P w= .ok (goInt (min es2.length m:Nat)) w'/\Rel B ⟨putS s.slots dst (.int .i64 (min es2.length m:Nat)),upE s.own id r (.row et k bs (Jw es i m es2))⟩ (a.put dst (goInt (min es2.length m:Nat))) w' (CS loc id (loc id)):=by
 obtain⟨e1,i1,hu,hi,qI,hby,_⟩:=Bx ht;obtain⟨rows2,q1,q2,q3,q4,q5,q6⟩:=Cw_ (B:=B) R.st hsv wH;obtain⟨ad,cap,rfl,yI⟩:=rM (B:=B) R.st he wV qN hv hd;have qY:=(AU he).1;have hid:=(AU he).2;have vM:=(Bn qY).2;rw[qN]at vM;simp only[Em]at vM
 have nV:∀cur M h,rd cur M h (.int .i64 (min es2.length m:Nat)) (goInt (min es2.length m:Nat)):=by
  intro cur M h;have h5:min es2.length m<=maxLen:=Nat.le_trans (Nat.min_le_left _ _) q5;unfold maxLen at h5;simp only[rd,goInt];refine⟨?_,?_⟩
  ·trivial
  ·simp only[KV];omega
 by_cases hm:min es2.length m=0
 ·have nD:Jw es i m es2=es:=by
   unfold Jw;rw[hm]
   have:es2.take m=[]:=by
    rw[<-dY0,aY0];omega
   rw[this,bR0,dH0,List.take_append_drop]
  rw[nD];rw[hm]at nV |-
  have qD:(Builtin.copy_ #[t,t] ty #[.slice ad m cap,sv]).run P w= .ok (goInt 0) w:=by
   have hl:∀(x:Addr),(loadCells x 0).run P w= .ok #[] w:=fun x=>by simpa using run_loadCells_list (P:=P) w x [] (by simp)
   rcases q6 with ⟨_,x,cap2,rfl⟩ | ⟨x,cap2,rfl,_⟩
   ·cases ad<;>cases x<;>simp[Builtin.copy_,run_underlying hu,Builtin.lenOf,Builtin.firstCells,sizeOf,typeInfo,hi,storeCells,hl]
   ·have wR:Nat.min es2.length m=0:=hm;cases ad<;>simp[Builtin.copy_,run_underlying hu,Builtin.lenOf,Builtin.firstCells,sizeOf,typeInfo,hi,storeCells,hl,wR]
  refine⟨w,qD,?_⟩;have qE:Ac s.own loc id r=some (loc id):=by unfold Ac;rw[he];simp[wV]
  have vH:=R.st.ok e qY;rw[qN,hid]at vH
  have hL:∀b0,b0∈(loc id).blks->b0<w.heap.size/\((∃e∈s.own,e.id=id/\b0∈(loc id).blks)\/w.heap.size<=b0):=fun b0 qR =>
   ⟨R.st.lt b0 (aM0 _ (AW qY (by rw[hid];exact qR))),.inl ⟨e,qY,hid,qR⟩⟩
  have W:=R.weakUp (obj:= .row et k bs es) qP (Upd.refl _ w) hL (.inr qE);unfold Cd at qP;exact R.up (hLn:=by have:=DE R.st.bl e qY;rwa[hid]at this) (n:=n) qP qT (Upd.refl _ w) (fun _ _ _=>rfl) hL (.inr qE) (AV W (by simp only[Em];omega) (fun _ _ _ h=>h) vH) (nV _ _ _)
 ·have qZ:k2=k:=by
   rcases zT with h | h
   ·exact h
   ·subst h;simp at hm
  subst qZ;obtain⟨b,qC,rfl⟩:=yI (by omega);obtain⟨h7,b',arr,cap',h1,h2,h3,h4,h5,h6,qH⟩:=Vf (B:=B) R.st he qN (by intro h;subst h;simp at hb;omega);rw[h1]at qC;simp only[bG0,and_true]at qC;subst qC;have kU:es.length*k2<=arr.size:=by rw[<-h6];exact aW0 _ h4
  rcases q6 with ⟨rfl,_⟩ | ⟨x,cap2,rfl,q6⟩
  ·simp at hm
  obtain⟨c,hc⟩:∃c,c=min es2.length m:=⟨_,rfl⟩;rw[<-hc]at hm nV |-;have hrk2:=CD_ q1 q2;have yY:(rows2.take c).flatten=rows2.flatten.take (c*k2):=Ox rows2 c hrk2
  have dP:(rows2.take c).flatten.length=c*k2:=by
   rw[yY,aY0,q3];have:c*k2<=es2.length*k2:=aW0 _ (by omega);omega
  have qS:∀u∈(rows2.take c).flatten,u.oneCell'=true:=fun u vO=>q4 u (by rw[yY]at vO;exact cZ0 vO)
  have hsrcc:∀(j:Nat) (u:Value),(rows2.take c).flatten[j]? =some u->w.cell? (x.add j)=some u:=by
   intro j u hj;have qV:=(aB0.1 hj).1;rw[dP]at qV;rw[yY,bT0 qV]at hj;exact q6 j u hj
  have pN:=run_loadCells_list (P:=P) w x (rows2.take c).flatten hsrcc
  have vW:i*k2+c*k2<=arr.size:=by
   rw[<-bV0];exact Nat.le_trans (aW0 _ (by omega)) kU
  have wO:=run_storeCells_at P b' (i*k2) et (rows2.take c).flatten 0 arr w h3 (by rw[dP];omega) qS;simp only[dH0]at wO;obtain⟨rows,r1,r2,r3,r4⟩:=Fv k2 es arr 0 qH;have hrk:=CD_ r1 r3;have pF:=HT r2 r4 kU;have harr:arr.toList=rows.flatten++arr.toList.drop (es.length*k2):=by rw[<-pF,List.take_append_drop]
  have pG:i*k2<=rows.flatten.length:=by rw[r2];exact aW0 _ (by omega)
  have hic:i*k2+c*k2<=rows.flatten.length:=by rw[r2,<-bV0];exact aW0 _ (by omega)
  have wG:(arr.toList.take (i*k2)++(rows2.take c).flatten++arr.toList.drop (i*k2+(rows2.take c).flatten.length))=(rows.take i++rows2.take c++rows.drop (i+c)).flatten++arr.toList.drop (es.length*k2):=by
   have e_t:rows.flatten.take (i*k2)=arr.toList.take (i*k2):=by rw[<-pF,List.take_take,Nat.min_eq_left (by rw[r2]at pG;exact pG)]
   have e_d:arr.toList.drop (i*k2+c*k2)=rows.flatten.drop ((i+c)*k2)++arr.toList.drop (es.length*k2):=by
    rw[bV0]
    conv=>lhs;rw[harr]
    exact dQ0 hic
   rw[dP,List.flatten_append,List.flatten_append,Ox rows i hrk,Un rows (i+c) hrk,e_t,e_d,aS0,aS0,aS0]
  refine⟨_,?_,R.writeRow (es':=Jw es i m es2) (arr':=(arr.toList.take (i*k2)++(rows2.take c).flatten++arr.toList.drop (i*k2+(rows2.take c).flatten.length)).toArray) he wV qN h1 h2 h3 h4 h5 h6 h7 (BC_ hb) ?_ ?_ (YY (by unfold Cd at qP;omega) jA) qP qT nV⟩
  ·have kO:c=Nat.min es2.length m:=hc;have hls:es2.length=es2.length:=rfl;rw[dP]at pN;simp[Builtin.copy_,run_underlying hu,Builtin.lenOf,Builtin.firstCells,sizeOf,typeInfo,hi,<-kO,qI,pN,wO, -List.length_flatten]
  ·simp only[dJ0,aD0,aY0,cD0,bI0,dP];omega
  ·rw[wG];refine Vk k2 _ _ _ ?_ ?_
   ·simp only[Jw,aD0,aY0,cD0];omega
   ·intro j cs us hj vO;unfold Jw at hj;rw[<-hc]at hj
    by_cases hj1:j<i
    ·rw[aS0,bC0 (by simp;omega),bT0 hj1]at hj;rw[aS0,bC0 (by simp;omega),bT0 hj1]at vO;exact r3 j cs us hj vO
    ·by_cases hj2:j<i+c
     ·rw[bC0 (by simp;omega),bE0 (by simp;omega),aY0,Nat.min_eq_left (by omega),bT0 (by omega)]at hj;rw[bC0 (by simp;omega),bE0 (by simp;omega),aY0,Nat.min_eq_left (by omega),bT0 (by omega)]at vO;exact q2 _ cs us hj vO
     ·rw[bE0 (by simp;omega),cQ0]at hj;rw[bE0 (by simp;omega),cQ0]at vO;simp only[aD0,aY0]at hj vO;rw[show i+c+(j-(min i es.length+min m es2.length))=j by omega]at hj;rw[show i+c+(j-(min i rows.length+min c rows2.length))=j by omega]at vO;exact r3 j cs us hj vO
end
end Go.Dm
end
