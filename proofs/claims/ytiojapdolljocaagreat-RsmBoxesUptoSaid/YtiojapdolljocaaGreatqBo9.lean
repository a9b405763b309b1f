/- Parts of a proof, laid together: EnQ, EnI3. -/
import Derived.Laws.CopyRow
import Derived.Test.YtiojapdolljocaaGreatqBo7
import Derived.Test.YtiojapdolljocaaGreatqBo8
set_option linter.unusedSimpArgs false
set_option maxHeartbeats 8000000
set_option linter.unusedVariables false
set_option linter.unusedSectionVars false
section
namespace Go.Dm
variable [DMode]
def UN (P:Program) (f:Fn) (args:List DVal) (own:List Ent) (r:Nat) (d:DVal) (own':List Ent):Prop :=
 oF P f/\(own'.map (·.id)).Nodup/\(FZ own<=r->mx d<=r+1/\FZ own'<=r+1) /\
 ∀(M:List Nat) (w:World) (loc:Nat->Loc) (vs:Array Value),FZ own<=r->St own loc M w.heap->Au (Ad own loc) (Aa own loc++M) w.heap args vs.toList ->
  Je P f vs w fun v w'=>∃loc',St own' loc' M w'.heap/\Upd (Aa own loc) w w'/\(∀b∈Aa own' loc',b∈Aa own loc\/w.heap.size<=b) /\
   (∀e∈own',e.r<r->Ad own loc e.id e.r=some (loc' e.id))/\rd (Ad own' loc') (Aa own' loc'++M) w'.heap d v
def Bx : List (Nat×Nat)->Nat->Option Nat
 | [],_=>none
 | (i,j')::t,j=>if j=j' then some i else Bx t j
def DC (ρ:List (Nat×Nat)):List (Nat×Nat×Nat):=ρ.map fun p=>(p.1,p.2,0)
def Dn (own:List Ent) (ρ ν:List (Nat×Nat)) (r:Nat):Nat->Nat->Option (Nat×Nat):=fun j v =>
 if v=0 then (match Bx ρ j with | some i=>(match Aj own i with | some e=>some (i,e.r) | none=>none) | none=>none)
 else if v=1 then (match Bx (ρ++ν) j with | some i=>some (i,r) | none=>none)
 else none
def Hn (φ:Nat->Nat->Option (Nat×Nat)):List Ent->Option (List Ent)
 | []=>some []
 | e::t=>match φ e.id e.r,Hn φ t with
  | some p,some l=>some (⟨p.1,p.2,Ic φ e.obj⟩::l)
  | _,_=>none
def Bc : List Ent->List Nat->List Ent
 | [],_=>[]
 | e::t,ids=>if ids.contains e.id then Bc t ids else e::Bc t ids
def TM : List Ent->Prop
 | []=>True
 | e::t=>Yy e.obj/\TM t
def TN : List DVal->Prop
 | []=>True
 | d::t=>TO d/\TN t
def Uf (own:List Ent):List (Nat×Nat)->Prop
 | []=>True
 | (i,_)::t=>(match Aj own i with | some e=>Yy e.obj | none=>False)/\Uf own t
theorem GX : ∀{l:List (Nat×Nat)} {j i:Nat},Bx l j=some i->(i,j)∈l
 | [],j,i,h=>by simp[Bx]at h
 | (i',j')::t,j,i,h=>by
  simp only[Bx]at h
  split at h
  ·rename_i hj;simp only[aA0]at h;subst h;subst hj;exact aH0
  ·exact aF0 _ (GX h)
theorem Cm : ∀{l:List (Nat×Nat)} {j i:Nat},(l.map (·.2)).Nodup->(i,j)∈l->Bx l j=some i
 | (i',j')::t,j,i,hn,h=>by
  simp only[List.map_cons,cH0]at hn;simp only[Bx]
  rcases aJ0.1 h with h | h
  ·simp only[aS0]at h;rw[if_pos h.2,h.1]
  ·rw[if_neg (fun hj=>hn.1 (by rw[<-hj];exact cP0 (f:=(·.2)) h)),Cm hn.2 h]
theorem CV_ {l:List (Nat×Nat)} (hn:(l.map (·.1)).Nodup) {i j j':Nat} (h:(i,j)∈l) (h':(i,j')∈l):j=j':=by
 induction l with
 | nil=>cases h
 | cons a l ih =>
  simp only[List.map_cons,cH0]at hn
  rcases aJ0.1 h with rfl | h1
  ·rcases aJ0.1 h' with h' | h2
   ·simp only[aS0]at h';exact h'.2.symm
   ·exact absurd (cP0 (f:=(·.1)) h2) hn.1
  ·rcases aJ0.1 h' with rfl | h2
   ·exact absurd (cP0 (f:=(·.1)) h1) hn.1
   ·exact ih hn.2 h1 h2
theorem Di {own:List Ent} {ids:List Nat} {e:Ent}:e∈Bc own ids↔e∈own/\e.id∉ids:=by
 induction own with
 | nil=>simp[Bc]
 | cons a t ih =>
  simp only[Bc]
  split
  ·rename_i hc;have hc:a.id∈ids:=by simpa using hc
   rw[ih]
   constructor
   ·rintro⟨h1,h2⟩;exact⟨aF0 _ h1,h2⟩
   ·rintro⟨h1,h2⟩
    rcases aJ0.1 h1 with rfl | h1
    ·exact absurd hc h2
    ·exact⟨h1,h2⟩
  ·rename_i hc;have hc:a.id∉ids:=by simpa using hc
   rw[aJ0,ih,aJ0]
   constructor
   ·rintro (rfl | ⟨h1,h2⟩)
    ·exact⟨.inl rfl,hc⟩
    ·exact⟨.inr h1,h2⟩
   ·rintro⟨rfl | h1,h2⟩
    ·exact .inl rfl
    ·exact .inr ⟨h1,h2⟩
theorem ZG (own:List Ent) (ids:List Nat):(Bc own ids).Sublist own:=by
 induction own with
 | nil=>exact List.Sublist.refl _
 | cons a t ih =>
  simp only[Bc]
  split
  ·exact ih.cons _
  ·exact ih.cons_cons _
theorem Fw {φ:Nat->Nat->Option (Nat×Nat)}:∀{l l':List Ent},Hn φ l=some l'->(∀x∈l',∃e∈l,∃p,φ e.id e.r=some p/\x=⟨p.1,p.2,Ic φ e.obj⟩)
 | [],l',h=>by simp only[Hn,aA0]at h;subst h;simp
 | e::t,l',h=>by
  simp only[Hn]at h
  split at h
  ·rename_i p l hp hl;simp only[aA0]at h;subst h;intro x hx
   rcases aJ0.1 hx with rfl | hx
   ·exact⟨e,aH0,p,hp,rfl⟩
   ·obtain⟨e',h1,h2⟩:=Fw hl x hx;exact⟨e',aF0 _ h1,h2⟩
  ·simp at h
theorem SN {φ:Nat->Nat->Option (Nat×Nat)} {loc loc':Nat->Loc}:∀{l l':List Ent},Hn φ l=some l'->(∀e∈l,∀p,φ e.id e.r=some p->loc' p.1=loc e.id)->Aa l' loc'=Aa l loc
 | [],l',h,_=>by simp only[Hn,aA0]at h;subst h;rfl
 | e::t,l',h,hl=>by
  simp only[Hn]at h
  split at h
  ·rename_i p l hp wY;simp only[aA0]at h;subst h;rw[DE,DE,SN wY (fun e he=>hl e (aF0 _ he))];simp only;rw[hl e aH0 p hp]
  ·simp at h
theorem Pl : ∀{l:List Ent},TM l->∀e∈l,Yy e.obj
 | e::t,h,x,hx=>by
  simp only[TM]at h
  rcases aJ0.1 hx with rfl | hx
  ·exact h.1
  ·exact Pl h.2 x hx
theorem Wv {own:List Ent}:∀{l:List (Nat×Nat)},Uf own l->∀i j,(i,j)∈l->∃e,Aj own i=some e/\Yy e.obj
 | (i',j')::t,h,i,j,hm=>by
  simp only[Uf]at h
  rcases aJ0.1 hm with hm | hm
  ·simp only[aS0]at hm;obtain⟨rfl,rfl⟩:=hm;have h1:=h.1
   split at h1
   ·rename_i e he;exact⟨e,he,h1⟩
   ·exact h1.elim
  ·exact Wv h.2 i j hm
theorem FN {own:List Ent} {loc:Nat->Loc} (hn:(Aa own loc).Nodup):∀l:List Ent,(l.map (·.id)).Nodup->(∀e∈l,∃e0∈own,e0.id=e.id)->(Aa l loc).Nodup
 | [],_,_=>by simp[Aa]
 | e::l,hd,hm=>by
  simp only[List.map_cons,cH0]at hd;rw[DE,bS0];obtain⟨e0,vG,kB⟩:=hm e aH0;refine⟨by rw[<-kB];exact Dl hn e0 vG,FN hn l hd.2 (fun x hx=>hm x (aF0 _ hx)),?_⟩;intro b hb b' qG gF;subst gF;obtain⟨e2,vA,wM⟩:=bQ0.1 qG;obtain⟨e3,he3,cN⟩:=hm e2 (aF0 _ vA);have:=Fk hn e0 vG e3 he3 b (by rw[kB];exact hb) (by rw[cN];exact wM);subst this;exact hd.1 (aR0.2 ⟨e2,vA,by rw[<-cN,kB]⟩)
def JL (loc0' loc:Nat->Loc):List (Nat×Nat)->Nat->Loc
 | [],i=>loc i
 | (i',j)::t,i=>if i=i' then loc0' j else JL loc0' loc t i
theorem Lr {loc0' loc:Nat->Loc}:∀{l:List (Nat×Nat)} {i j:Nat},(l.map (·.1)).Nodup->(i,j)∈l->JL loc0' loc l i=loc0' j
 | (i',j')::t,i,j,hn,hm=>by
  simp only[List.map_cons,cH0]at hn;simp only[JL]
  rcases aJ0.1 hm with h | h
  ·simp only[aS0]at h;rw[if_pos h.1,h.2]
  ·rw[if_neg (fun hi=>hn.1 (by rw[<-hi];exact cP0 (f:=(·.1)) h)),Lr hn.2 h]
theorem Lq {loc0' loc:Nat->Loc}:∀{l:List (Nat×Nat)} {i:Nat},i∉l.map (·.1)->JL loc0' loc l i=loc i
 | [],i,h=>rfl
 | (i',j')::t,i,h=>by
  simp only[List.map_cons,aJ0,not_or]at h;simp only[JL];rw[if_neg h.1,Lq h.2]
section
variable {φ : Nat -> Nat -> Option (Nat × Nat)} {n : Nat}
theorem eO (hφ:∀i v p,φ i v=some p->p.2<=n) {d:DVal} (h:okR d):mx (JJ φ d)<=n+1:=by
 cases d<;>simp only[JJ,okR]at h |- <;>first
  |(split
    ·rename_i p hp;have:=hφ _ _ _ hp;simp only[mx];omega
    ·simp[mx])
  | (rw[h];omega)
theorem Pt (hφ:∀i v p,φ i v=some p->p.2<=n):∀{ds:List DVal},VK ds->AH (ds.map (JJ φ))<=n+1
 | [],_=>by simp[AH]
 | d::ds,h=>by
  simp only[VK]at h;have h1:=eO hφ h.1;have h2:=Pt hφ h.2;simp only[List.map_cons,AH];omega
theorem eQ (hφ:∀i v p,φ i v=some p->p.2<=n) {d:DVal} (h:xV d):mx (Lb φ d)<=n+1:=by
 cases d with
 | fn f us cs =>
  simp only[xV]at h;have h1:=Pt hφ h.1;have h2:=Pt hφ h.2;simp only[Lb,mx];omega
 | _=>exact eO hφ (by simpa only[xV]using h)
theorem Lo (hφ:∀i v p,φ i v=some p->p.2<=n):∀{ds:List DVal},NK ds->AH (ds.map (Lb φ))<=n+1
 | [],_=>by simp[AH]
 | d::ds,h=>by
  simp only[NK]at h;have h1:=eQ hφ h.1;have h2:=Lo hφ h.2;simp only[List.map_cons,AH];omega
theorem eP (hφ:∀i v p,φ i v=some p->p.2<=n) {d:DVal} (h:ok3 d):mx (TA φ d)<=n+1:=by
 cases d with
 | agg cs =>
  simp only[ok3]at h;have h1:=Lo hφ h;simp only[TA,mx];omega
 | _=>exact eQ hφ (by simpa only[ok3]using h)
theorem VZ (hφ:∀i v p,φ i v=some p->p.2<=n):∀{ds:List DVal},VL ds->AH (ds.map (TA φ))<=n+1
 | [],_=>by simp[AH]
 | d::ds,h=>by
  simp only[VL]at h;have h1:=eP hφ h.1;have h2:=VZ hφ h.2;simp only[List.map_cons,AH];omega
theorem CC_ (hφ:∀i v p,φ i v=some p->p.2<=n) {d:DVal} (h:TO d):mx (Gu φ d)<=n+1:=by
 cases d with
 | tup cs =>
  simp only[TO]at h;have h1:=VZ hφ h;simp only[Gu,mx];omega
 | _=>exact eP hφ (by simpa only[TO]using h)
theorem VW (hφ:∀i v p,φ i v=some p->p.2<=n):∀{es:List (List DVal)},Zk es->Bo (IA φ es)<=n+1
 | [],_=>by simp[IA,Bo]
 | c::l,h=>by
  simp only[Zk]at h;have h1:=Lo hφ h.1;have h2:=VW hφ h.2;simp only[IA,Bo];omega
theorem Am_ (hφ:∀i v p,φ i v=some p->p.2<=n) {o:DObj} (h:Yy o):Ez (Ic φ o)<=n+1:=by
 cases o with
 | box cs=>simp only[Yy]at h;simp only[Ic,Ez];exact Lo hφ h
 | row et k bs es =>
  simp only[Ic]
  split
  ·rename_i h0;simp only[Ez,h0];omega
  ·rename_i h0;simp only[Yy]at h;simp only[Ez];exact VW hφ (h.resolve_left h0)
 | map ks vs=>simp only[Yy]at h;simp only[Ic,Ez,h.1,h.2];omega
 | abs A=>simp only[Ic,Ez];omega
end
theorem Eh_ {l:List Ent} {n:Nat} (h:∀e∈l,e.r+1<=n/\Ez e.obj<=n):FZ l<=n:=by
 induction l with
 | nil=>simp[FZ]
 | cons e t ih =>
  have h1:=h e aH0;have h2:=ih fun e he=>h e (aF0 _ he)
  simp only[FZ];omega
theorem Vu {cur cur':Er} {M M':List Nat} {h h':Array Obj} {φ:Nat->Nat->Option (Nat×Nat)} (W:Weak cur cur' M M' h h' 0) (L:FW cur cur' φ):∀{ds:List DVal} {vs:List Value},TN ds->Au cur M h ds vs->Au cur' M' h' (ds.map (Gu φ)) vs
 | [],vs,_,hr=>by simpa[Au]using hr
 | d::ds,vs,hk,hr=>by
  simp only[TN]at hk;simp only[Au,List.map_cons]at hr |-;obtain⟨v,r,rfl,h1,h2⟩:=hr;exact⟨v,r,rfl,Oh W L hk.1 h1,Vu W L hk.2 h2⟩
abbrev Dx_ := Array Value->World->(Value->World->Prop)->Prop
def BS_ (C:Dx_) (args:List DVal) (own:List Ent) (d:DVal) (own':List Ent):Prop :=
 ∀(M:List Nat) (w:World) (loc:Nat->Loc) (vs:Array Value),St own loc M w.heap->Au (Ad own loc) (Aa own loc++M) w.heap args vs.toList ->
  C vs w fun v w'=>∃loc',St own' loc' M w'.heap/\Upd (Aa own loc) w w'/\(∀b∈Aa own' loc',b∈Aa own loc\/w.heap.size<=b) /\
   (∀e∈own',e.r<1->Ad own loc e.id e.r=some (loc' e.id))/\rd (Ad own' loc') (Aa own' loc'++M) w'.heap d v
def FH_ (C:Dx_) (args:List DVal) (own:List Ent) (r:Nat) (d:DVal) (own':List Ent):Prop :=
 ∀(M:List Nat) (w:World) (loc:Nat->Loc) (vs:Array Value),FZ own<=r->St own loc M w.heap->Au (Ad own loc) (Aa own loc++M) w.heap args vs.toList ->
  C vs w fun v w'=>∃loc',St own' loc' M w'.heap/\Upd (Aa own loc) w w'/\(∀b∈Aa own' loc',b∈Aa own loc\/w.heap.size<=b) /\
   (∀e∈own',e.r<r->Ad own loc e.id e.r=some (loc' e.id))/\rd (Ad own' loc') (Aa own' loc'++M) w'.heap d v
theorem Yp {C:Dx_} (hC:∀vs w (R R':Value->World->Prop),(∀v w',R v w'->R' v w')->C vs w R->C vs w R') {args args0:List DVal} {own own0 own0' l:List Ent} {d0:DVal} {r:Nat} (ρ ν:List (Nat×Nat)) (jG:BS_ C args0 own0 d0 own0')
  (yC:Km own (BJ own (DC ρ)) (DC ρ)=some own0) (qW:Uf own ρ) (qN:TN args/\uG (args.map (Gu (BJ own (DC ρ)))) args0)
  (hid:((ρ++ν).map (·.1)).Nodup/\(ρ.map (·.2)).Nodup) (vY:Hn (Dn own ρ ν r) own0'=some l) (mG:TM own0') (jO:TO d0) (hnd:((Bc own ((ρ++ν).map (·.1))++l).map (·.id)).Nodup) :
  FH_ C args own r (Gu (Dn own ρ ν r) d0) (Bc own ((ρ++ν).map (·.1))++l):=by
 intro M w loc vs vU S hr
 -- the way in
 have cQ:∀i j,(i,j)∈ρ->loc ((Bx ρ j).getD 0)=loc i:=by
  intro i j hm;simp only[Cm hid.2 hm,bZ0]
 obtain⟨fU,fP⟩:=Lh yC
 have hm0':∀x∈own0,∃i e,(i,x.id)∈ρ/\Aj own i=some e/\x=⟨x.id,0,Ic (BJ own (DC ρ)) e.obj⟩:=by
  intro x hx;obtain⟨i,j,v,e,h1,h2,h3⟩:=fU x hx;simp only[DC,aR0,aS0]at h1;obtain⟨p,hp,rfl,rfl,rfl⟩:=h1;subst h3;exact⟨p.1,e,hp,h2,rfl⟩
 have fP:own0.map (·.id)=ρ.map (·.2):=by
  rw[fP];simp[DC]
 have hnd0:(own0.map (·.id)).Nodup:=by rw[fP];exact hid.2
 have hρ1:(ρ.map (·.1)).Nodup:=by
  have:=hid.1;rw[bF0,bS0]at this;exact this.1
 have yE:Aa own0 (fun j=>loc ((Bx ρ j).getD 0))=Aa (own0.map fun x=>⟨(Bx ρ x.id).getD 0,0,x.obj⟩) loc:=by
  simp[Aa,List.flatMap_map]
 have fJ:((own0.map fun x=>(⟨(Bx ρ x.id).getD 0,0,x.obj⟩:Ent)).map (·.id)).Nodup:=by
  rw[bY0]
  have:own0.map ((·.id)∘fun x=>(⟨(Bx ρ x.id).getD 0,0,x.obj⟩:Ent))=ρ.map (·.1):=by
   have e1:own0.map ((·.id)∘fun x=>(⟨(Bx ρ x.id).getD 0,0,x.obj⟩:Ent))=(own0.map (·.id)).map (fun j=>(Bx ρ j).getD 0):=by
    rw[bY0];rfl
   rw[e1,fP,bY0];refine bV0 fun p hp=> ?_
   simp only[Function.comp_def];rw[Cm hid.2 hp];rfl
  rw[this];exact hρ1
 have hselm:∀e∈own0.map (fun x=>(⟨(Bx ρ x.id).getD 0,0,x.obj⟩:Ent)),∃e0∈own,e0.id=e.id:=by
  intro e he;obtain⟨x,hx,rfl⟩:=aR0.1 he;obtain⟨i,e,h1,h2,_⟩:=hm0' x hx;simp only[Cm hid.2 h1,bZ0];exact⟨e,AA h2⟩
 have kX:∀b∈Aa own0 (fun j=>loc ((Bx ρ j).getD 0)),∃i j e,(i,j)∈ρ/\e∈own/\e.id=i/\b∈(loc i).blks:=by
  intro b hb;obtain⟨x,hx,hb⟩:=bQ0.1 hb;obtain⟨i,e,h1,h2,_⟩:=hm0' x hx;simp only[Cm hid.2 h1,bZ0]at hb;exact⟨i,x.id,e,h1,(AA h2).1,(AA h2).2,hb⟩
 have gA:∀b∈Aa own0 (fun j=>loc ((Bx ρ j).getD 0)),b∈Aa own loc:=by
  intro b hb;obtain⟨i,j,e,_,h2,rfl,h4⟩:=kX b hb;exact AZ h2 h4
 have hfr:∀b∈Aa (Bc own ((ρ++ν).map (·.1))) loc,b∈Aa own loc:=by
  intro b hb;obtain⟨e,he,hb⟩:=bQ0.1 hb;exact AZ (Di.1 he).1 hb
 have hdis:∀b∈Aa own0 (fun j=>loc ((Bx ρ j).getD 0)),b∉Aa (Bc own ((ρ++ν).map (·.1))) loc:=by
  intro b hb qG;obtain⟨i,j,e,h1,h2,rfl,h4⟩:=kX b hb;obtain⟨e',vE,qG⟩:=bQ0.1 qG;obtain⟨g1,g2⟩:=Di.1 vE;have:=Fk S.bl e h2 e' g1 b h4 qG;subst this;exact g2 (cP0 (f:=(·.1)) (aL0 _ h1))
 have hM:∀b,b∈Aa own0 (fun j=>loc ((Bx ρ j).getD 0))++(Aa (Bc own ((ρ++ν).map (·.1))) loc++M)->b∈Aa own loc++M:=by
  intro b hb;simp only[aI0]at hb |-
  rcases hb with hb | hb | hb
  ·exact .inl (gA b hb)
  ·exact .inl (hfr b hb)
  ·exact .inr hb
 have W0:Weak (Ad own loc) (Ad own0 fun j=>loc ((Bx ρ j).getD 0)) (Aa own loc++M) (Aa own0 (fun j=>loc ((Bx ρ j).getD 0))++(Aa (Bc own ((ρ++ν).map (·.1))) loc++M)) w.heap w.heap 0 :=
  ⟨fun id r l hr=>by omega,fun b o _ (_:FY o=true) ho=>ho,fun b o hb (_:FY o=true) _ hm=>hb (hM b hm)⟩
 have L0:FW (Ad own loc) (Ad own0 fun j=>loc ((Bx ρ j).getD 0)) (BJ own (DC ρ)):=by
  intro i v p lc hp hl;obtain⟨e,h1,h2,h3⟩:=HC hp;simp only[DC,aR0,aS0]at h1;obtain⟨q,hq,rfl,jC,_⟩:=h1;obtain⟨e0,_,g1,_,g3⟩:=BC hl;rw[<-h3];obtain⟨k1,k2⟩:=AA h2;rw[<-k2,AG S.nd k1,g3,<-jC,k2,cQ q.1 q.2 hq]
 have S0:St own0 (fun j=>loc ((Bx ρ j).getD 0)) (Aa (Bc own ((ρ++ν).map (·.1))) loc++M) w.heap:=by
  refine⟨hnd0,?_,?_,?_,?_⟩
  ·rw[yE];exact FN S.bl _ fJ hselm
  ·intro b hb hm
   rcases aI0.1 hm with hm | hm
   ·exact hdis b hb hm
   ·exact S.ap b (gA b hb) hm
  ·intro b hb;exact S.lt b (hM b hb)
  ·intro x hx;obtain⟨i,e,h1,h2,h3⟩:=hm0' x hx;obtain⟨e',h4,h5⟩:=Wv qW i x.id h1;rw[h2]at h4;simp only[aA0]at h4;subst h4;obtain⟨k1,k2⟩:=AA h2;rw[h3];have:=JE W0 L0 (l:=loc i) (l':=(fun j=>loc ((Bx ρ j).getD 0)) x.id) h5 (cQ i x.id h1) (fun b o _ ho=>ho) (by have:=S.ok e k1;rwa[k2]at this);exact this
 have bW:=YY (qN.2) (Vu W0 L0 qN.1 hr);refine hC _ _ _ _ ?_ (jG _ w _ vs S0 bW);rintro v w' ⟨loc0',S1,hu,wZ,vC,wT⟩
 -- the way back
 have hφ:∀e∈own0',∀p,Dn own ρ ν r e.id e.r=some p->(p.1,e.id)∈ρ++ν/\((e.r=0/\∃e1,Aj own p.1=some e1/\p.2=e1.r/\(p.1,e.id)∈ρ)\/(e.r=1/\p.2=r)):=by
  intro e he p hp;unfold Dn at hp
  split at hp
  ·rename_i h0
   split at hp
   ·rename_i i hi
    split at hp
    ·rename_i e1 bX;simp only[aA0]at hp;subst hp;have:=GX hi;exact⟨aL0 _ this,.inl ⟨h0,e1,bX,rfl,this⟩⟩
    ·simp at hp
   ·simp at hp
  ·split at hp
   ·rename_i h1
    split at hp
    ·rename_i i hi;simp only[aA0]at hp;subst hp;exact⟨GX hi,.inr ⟨h1,rfl⟩⟩
    ·simp at hp
   ·simp at hp
 have hlp:∀e∈own0',∀p,Dn own ρ ν r e.id e.r=some p->JL loc0' loc (ρ++ν) p.1=loc0' e.id:=fun e he p hp=>Lr hid.1 (hφ e he p hp).1
 have hotl:Aa l (JL loc0' loc (ρ++ν))=Aa own0' loc0':=SN vY hlp
 have hotf:Aa (Bc own ((ρ++ν).map (·.1))) (JL loc0' loc (ρ++ν))=Aa (Bc own ((ρ++ν).map (·.1))) loc:=by
  unfold Aa;have:∀e∈Bc own ((ρ++ν).map (·.1)),(JL loc0' loc (ρ++ν) e.id).blks=(loc e.id).blks:=fun e he=>by rw[Lq (Di.1 he).2]
  generalize Bc own ((ρ++ν).map (·.1))=fr at this
  induction fr with
  | nil=>rfl
  | cons a t ih =>
   rw[cT0,cT0,this a aH0,ih (fun e he=>this e (aF0 _ he))]
 have gZ:Aa (Bc own ((ρ++ν).map (·.1))++l) (JL loc0' loc (ρ++ν))=Aa (Bc own ((ρ++ν).map (·.1))) loc++Aa own0' loc0':=by
  rw[<-hotl,<-hotf];simp[Aa]
 have hM':∀b,b∈Aa (Bc own ((ρ++ν).map (·.1))) loc++Aa own0' loc0'++M↔b∈Aa own0' loc0'++(Aa (Bc own ((ρ++ν).map (·.1))) loc++M):=by
  intro b;simp only[aI0];constructor
  ·intro h;rcases h with (h | h) | h
   ·exact .inr (.inl h)
   ·exact .inl h
   ·exact .inr (.inr h)
  ·intro h;rcases h with h | h | h
   ·exact .inl (.inr h)
   ·exact .inl (.inl h)
   ·exact .inr h
 have hfid:∀x∈l,x.id∈(ρ++ν).map (·.1):=by
  intro x hx;obtain⟨e,he,p,hp,rfl⟩:=Fw vY x hx;exact cP0 (f:=(·.1)) (hφ e he p hp).1
 have W1:Weak (Ad own0' loc0') (Ad (Bc own ((ρ++ν).map (·.1))++l) (JL loc0' loc (ρ++ν))) (Aa own0' loc0'++(Aa (Bc own ((ρ++ν).map (·.1))) loc++M)) (Aa (Bc own ((ρ++ν).map (·.1))++l) (JL loc0' loc (ρ++ν))++M) w'.heap w'.heap 0 :=
  ⟨fun id r l hr=>by omega,fun b o _ (_:FY o=true) ho=>ho,fun b o hb (_:FY o=true) _ hm=>hb (by rw[gZ]at hm;exact(hM' b).1 hm)⟩
 have L1:FW (Ad own0' loc0') (Ad (Bc own ((ρ++ν).map (·.1))++l) (JL loc0' loc (ρ++ν))) (Dn own ρ ν r):=by
  intro j v p lc hp hl;obtain⟨x,hx,g1,g2,g3⟩:=BC hl
  have hpj:(p.1,j)∈ρ++ν/\((v=0/\∃e1,Aj own p.1=some e1/\p.2=e1.r)\/(v=1/\p.2=r)):=by
   unfold Dn at hp
   split at hp
   ·rename_i h0
    split at hp
    ·rename_i i hi
     split at hp
     ·rename_i e1 bX;simp only[aA0]at hp;subst hp;exact⟨aL0 _ (GX hi),.inl ⟨h0,e1,bX,rfl⟩⟩
     ·simp at hp
    ·simp at hp
   ·split at hp
    ·rename_i h1
     split at hp
     ·rename_i i hi;simp only[aA0]at hp;subst hp;exact⟨GX hi,.inr ⟨h1,rfl⟩⟩
     ·simp at hp
    ·simp at hp
  have hpi:p.1∈(ρ++ν).map (·.1):=cP0 (f:=(·.1)) hpj.1
  rcases aI0.1 hx with hx | hx
  ·exact absurd (g1▸hpi) (Di.1 hx).2
  ·obtain⟨e,he,q,hq,rfl⟩:=Fw vY x hx;simp only at g1 g2;obtain⟨q1,q2⟩:=hφ e he q hq;have hej:e.id=j:=CV_ hid.1 (by rw[<-g1];exact q1) hpj.1;subst hej
   have yA:e.r=v:=by
    rcases q2 with ⟨a1,e1,a2,a3,_⟩ | ⟨a1,a2⟩<;>rcases hpj.2 with ⟨b1,e2,b2,b3⟩ | ⟨b1,b2⟩
    ·omega
    ·exfalso;have:=(Bi (AA a2).1).1;omega
    ·exfalso;have:=(Bi (AA b2).1).1;omega
    ·omega
   subst yA;rw[AG S1.nd he,g3,<-g1,Lr hid.1 q1]
 have hkeep:∀e∈Bc own ((ρ++ν).map (·.1)),∀b o,b∈(loc e.id).blks->w.heap[b]? =some o->w'.heap[b]? =some o:=by
  intro e he b o hb ho;have hbf:b∈Aa (Bc own ((ρ++ν).map (·.1))) loc:=AZ he hb;rw[hu.blk b (aC0.1 ho).1 (fun h=>hdis b h hbf)];exact ho
 have W2:Weak (Ad own loc) (Ad (Bc own ((ρ++ν).map (·.1))++l) (JL loc0' loc (ρ++ν))) (Aa own loc++M) (Aa (Bc own ((ρ++ν).map (·.1))++l) (JL loc0' loc (ρ++ν))++M) w.heap w'.heap r:=by
  refine⟨?_,?_,?_⟩
  ·intro id v lc hv hl;obtain⟨x,hx,rfl,rfl,rfl⟩:=BC hl
   rcases aI0.1 hx with hx | hx
   ·have:=Di.1 hx;rw[AG S.nd this.1,Lq this.2]
   ·obtain⟨e,he,q,hq,rfl⟩:=Fw vY x hx;simp only at hv |-;obtain⟨q1,q2⟩:=hφ e he q hq
    rcases q2 with ⟨a1,e1,a2,a3,a4⟩ | ⟨a1,a2⟩
    ·have h1:=vC e he (by omega);obtain⟨x0,k1,k2,k3,k4⟩:=BC h1;obtain⟨m1,m2⟩:=AA a2;rw[Lr hid.1 q1,k4,cQ _ _ a4,a3,<-m2,AG S.nd m1]
    ·omega
  ·intro b o hb (_:FY o=true) ho;rw[hu.blk b (aC0.1 ho).1 (fun h=>hb (aL0 _ (gA b h)))];exact ho
  ·intro b o hb (_:FY o=true) ho hm;rw[gZ]at hm;have qV:=(aC0.1 ho).1;simp only[aI0]at hm hb
   rcases hm with (hm | hm) | hm
   ·exact hb (.inl (hfr b hm))
   ·rcases wZ b hm with h | h
    ·exact hb (.inl (gA b h))
    ·omega
   ·exact hb (.inr hm)
 refine⟨JL loc0' loc (ρ++ν),⟨hnd,?_,?_,?_,?_⟩,?_,?_,?_,?_⟩
 ·rw[gZ,bS0];refine⟨(DD S.bl _ ?_ (fun e he=>(Di.1 he).1)),S1.bl,?_⟩
  ·exact((ZG own _).map _).nodup S.nd
  ·intro b hb b' qG gF;subst gF;exact S1.ap b qG (aL0 _ hb)
 ·intro b hb hm;rw[gZ]at hb
  rcases aI0.1 hb with hb | hb
  ·exact S.ap b (hfr b hb) hm
  ·exact S1.ap b hb (aP0 _ hm)
 ·intro b hb;rw[gZ]at hb;exact S1.lt b ((hM' b).1 hb)
 ·intro x hx
  rcases aI0.1 hx with hx | hx
  ·have hm:=Di.1 hx;have:=Bd W2 (Nat.le_trans (Bi hm.1).2 vU) (hkeep x hx) (S.ok x hm.1)
   rwa[Lq hm.2]
  ·obtain⟨e,he,q,hq,rfl⟩:=Fw vY x hx;exact JE W1 L1 (Pl mG e he) (hlp e he q hq) (fun b o _ ho=>ho) (S1.ok e he)
 ·refine⟨hu.os,hu.tape,hu.output,hu.drawn,hu.size,fun b hb hn=>hu.blk b hb fun h=>hn (gA b h)⟩
 ·intro b hb;rw[gZ]at hb
  rcases aI0.1 hb with hb | hb
  ·exact .inl (hfr b hb)
  ·rcases wZ b hb with h | h
   ·exact .inl (gA b h)
   ·exact .inr h
 ·intro x hx qV;exact W2.c x.id x.r _ qV (AG hnd hx)
 ·exact Oh W1 L1 jO wT
theorem NV {P:Program} {f:Fn} {args args0:List DVal} {own own0 own0' l:List Ent} {d0:DVal} {r:Nat} (ρ ν:List (Nat×Nat)) (hS:Bh P f args0 own0 d0 own0')
  (yC:Km own (BJ own (DC ρ)) (DC ρ)=some own0) (qW:Uf own ρ) (qN:TN args/\uG (args.map (Gu (BJ own (DC ρ)))) args0)
  (hid:((ρ++ν).map (·.1)).Nodup/\(ρ.map (·.2)).Nodup) (vY:Hn (Dn own ρ ν r) own0'=some l) (mG:TM own0') (jO:TO d0) (hnd:((Bc own ((ρ++ν).map (·.1))++l).map (·.id)).Nodup) :
  UN P f args own r (Gu (Dn own ρ ν r) d0) (Bc own ((ρ++ν).map (·.1))++l):=by
 have wM:FZ own<=r->∀i v p,Dn own ρ ν r i v=some p->p.2<=r:=by
  intro vU i v p hp;unfold Dn at hp
  split at hp
  ·split at hp
   ·split at hp
    ·rename_i e he;simp only[aA0]at hp;subst hp;have:=(Bi (AA he).1).1;simp only;omega
    ·simp at hp
   ·simp at hp
  ·split at hp
   ·split at hp
    ·simp only[aA0]at hp;subst hp;exact Nat.le_refl _
    ·simp at hp
   ·simp at hp
 refine⟨hS.2.1,hnd,fun vU=>⟨CC_ (wM vU) jO,Eh_ fun e he=> ?_⟩,?_⟩
 ·rcases aI0.1 he with he | he
  ·have:=Bi (Di.1 he).1;omega
  ·obtain⟨e0,h0,p,hp,rfl⟩:=Fw vY e he;exact⟨by have:=wM vU _ _ _ hp;simp only;omega,Am_ (wM vU) (Pl mG e0 h0)⟩
 exact Yp (C:=Je P f) (fun vs w R R' h hc=>hc.mono h) ρ ν (fun M w loc vs S hr=>hS.2.2 M w loc vs S hr) yC qW qN hid vY mG jO hnd
def Ia (es:List (List DVal)) (i m:Nat) (es2:List (List DVal)):List (List DVal):=es.take i++es2.take m++es.drop (i+min es2.length m)
theorem tC {es es2:List (List DVal)} {i m:Nat} (h:i+m<=es.length):(Ia es i m es2).length=es.length:=by
 simp only[Ia,aB0,bD0,cB0];omega
theorem Sk {es:List (List DVal)} {k n:Nat} (h:Bo es<=n):Bo (es.take k)<=n:=Nat.le_trans (FG k es) h
theorem rJ {es:List (List DVal)} {k n:Nat} (h:Bo es<=n):Bo (es.drop k)<=n:=Nat.le_trans (FH k es) h
theorem WW {es es2:List (List DVal)} {i m n:Nat} (h1:Bo es<=n) (h2:Bo es2<=n):Bo (Ia es i m es2)<=n:=by
 unfold Ia;rw[Br,Br];have:=Sk (k:=i) h1;have:=Sk (k:=m) h2;have:=rJ (k:=i+min es2.length m) h1;omega
theorem MK {k:Nat}:∀(rows:List (List Value)) (i:Nat),(∀r∈rows,r.length=k)->(rows.take i).flatten=rows.flatten.take (i*k)
 | [],i,_=>by simp
 | r::rows,0,_=>by simp
 | r::rows,i+1,h=>by
  have hr:=h r aH0;rw[cF0,eM0,eM0,MK rows i fun x hx=>h x (aF0 _ hx),List.take_append,hr];have e1:(i+1)*k-k=i*k:=by rw[bR0];omega
  rw[e1,cE0 (l:=r) (by rw[hr,bR0];omega)]
theorem Sy {k:Nat}:∀(rows:List (List Value)) (i:Nat),(∀r∈rows,r.length=k)->(rows.drop i).flatten=rows.flatten.drop (i*k)
 | [],i,_=>by simp
 | r::rows,0,_=>by simp
 | r::rows,i+1,h=>by
  have hr:=h r aH0;rw[dP0,eM0,Sy rows i fun x hx=>h x (aF0 _ hx),List.drop_append,hr];have e1:(i+1)*k-k=i*k:=by rw[bR0];omega
  rw[e1,cU0 (l:=r) (by rw[hr,bR0];omega),List.nil_append]
section
variable {P : Program} {B : Base} {s : DS} {a : Act} {w : World} {loc : Nat -> Loc}
theorem xD {cur:Er} {M:List Nat} {H:Array Obj} {k:Nat} {es:List (List DVal)} {rows:List (List Value)} (hl:rows.length=es.length)
  (h:∀(i:Nat) (cs:List DVal) (us:List Value),es[i]? =some cs->rows[i]? =some us->cs.length=k/\Au cur M H cs us/\∀u∈us,u.oneCell'=true):∀r∈rows,r.length=k:=by
 intro r hr;obtain⟨i,hi,rfl⟩:=bW0 hr;obtain⟨h1,h2,_⟩:=h i es[i] rows[i] (aD0 _) (aD0 _);have:=Ap _ _ h2;omega
theorem Rel.copyRow {d sd:DVal} {id r k0 bs0 i m n k2:Nat} {t ty:TypeId} {et k bs:Nat} {es es2:List (List DVal)} {e:Ent} {v sv:Value} {dst:Option Nat} (R:Rel B s a w loc) (he:Aj s.own id=some e) (qS:e.r=r) (qO:e.obj= .row et k bs es)
  (hv:Bb s loc B.M0 w d v) (hd:d= .osl id r/\i=0/\m=es.length\/d= .vw id r k bs0 i m) (hb:i+m<=es.length) (ht:tElem P t=some (k,k0)) (hk:0<k)
  (hsv:Bb s loc B.M0 w sd sv) (wG:Iy s.own sd=some (k2,es2)) (zD:k2=k\/es2=[]) (kN:Bo es2<=n)
  (qB:BU B s<=n) (qH:∀i,dst=some i->i<B.nt) :
  ∃w',(Builtin.copy_ #[t,t] ty #[v,sv]).run P w= .ok (goInt (min es2.length m:Nat)) w'/\Rel B ⟨Bs s.slots dst (.int .i64 (min es2.length m:Nat)),upE s.own id r (.row et k bs (Ia es i m es2))⟩ (a.put dst (goInt (min es2.length m:Nat))) w' (CG loc id (loc id)):=by
 obtain⟨e1,i1,hu,hi,qF,hby,_⟩:=Bw ht;obtain⟨rows2,q1,q2,q3,q4,q5,q6⟩:=uV (B:=B) R.st hsv wG;obtain⟨ad,cap,rfl,jP⟩:=eD (B:=B) R.st he qS qO hv hd;have qY:=(AN he).1;have hid:=(AN he).2;have vQ:=(Bi qY).2;rw[qO]at vQ;simp only[Ez]at vQ
 have mZ:∀cur M h,rd cur M h (.int .i64 (min es2.length m:Nat)) (goInt (min es2.length m:Nat)):=by
  intro cur M h;have h5:min es2.length m<=maxLen:=Nat.le_trans (Nat.min_le_left _ _) q5;unfold maxLen at h5;simp only[rd,goInt];refine⟨?_,?_⟩
  ·trivial
  ·simp only[Kx];omega
 by_cases hm:min es2.length m=0
 ·have jA:Ia es i m es2=es:=by
   unfold Ia;rw[hm]
   have:es2.take m=[]:=by
    rw[<-cS0,bD0];omega
   rw[this,bX0,dN0,List.take_append_drop]
  rw[jA];rw[hm]at mZ |-
  have qM:(Builtin.copy_ #[t,t] ty #[.slice ad m cap,sv]).run P w= .ok (goInt 0) w:=by
   have hl:∀(x:Addr),(loadCells x 0).run P w= .ok #[] w:=fun x=>by simpa using run_loadCells_list (P:=P) w x [] (by simp)
   rcases q6 with ⟨_,x,cap2,rfl⟩ | ⟨x,cap2,rfl,_⟩
   ·cases ad<;>cases x<;>simp[Builtin.copy_,run_underlying hu,Builtin.lenOf,Builtin.firstCells,sizeOf,typeInfo,hi,storeCells,hl]
   ·have vV:Nat.min es2.length m=0:=hm;cases ad<;>simp[Builtin.copy_,run_underlying hu,Builtin.lenOf,Builtin.firstCells,sizeOf,typeInfo,hi,storeCells,hl,vV]
  refine⟨w,qM,?_⟩;have qL:Ad s.own loc id r=some (loc id):=by unfold Ad;rw[he];simp[qS]
  have vM:=R.st.ok e qY;rw[qO,hid]at vM
  have hL:∀b0,b0∈(loc id).blks->b0<w.heap.size/\((∃e∈s.own,e.id=id/\b0∈(loc id).blks)\/w.heap.size<=b0):=fun b0 qC =>
   ⟨R.st.lt b0 (aL0 _ (AZ qY (by rw[hid];exact qC))),.inl ⟨e,qY,hid,qC⟩⟩
  have W:=R.weakUp (obj:= .row et k bs es) qB (Upd.refl _ w) hL (.inr qL);unfold BU at qB;exact R.up (hLn:=by have:=Dl R.st.bl e qY;rwa[hid]at this) (n:=n) qB qH (Upd.refl _ w) (fun _ _ _=>rfl) hL (.inr qL) (Bd W (by simp only[Ez];omega) (fun _ _ _ h=>h) vM) (mZ _ _ _)
 ·have qZ:k2=k:=by
   rcases zD with h | h
   ·exact h
   ·subst h;simp at hm
  subst qZ;obtain⟨b,qR,rfl⟩:=jP (by omega);obtain⟨h7,b',arr,cap',h1,h2,h3,h4,h5,h6,wN⟩:=Tv (B:=B) R.st he qO (by intro h;subst h;simp at hb;omega);rw[h1]at qR;simp only[bG0,and_true]at qR;subst qR;have yZ:es.length*k2<=arr.size:=by rw[<-h6];exact aY0 _ h4
  rcases q6 with ⟨rfl,_⟩ | ⟨x,cap2,rfl,q6⟩
  ·simp at hm
  obtain⟨c,hc⟩:∃c,c=min es2.length m:=⟨_,rfl⟩;rw[<-hc]at hm mZ |-;have mO:=xD q1 q2;have kY:(rows2.take c).flatten=rows2.flatten.take (c*k2):=MK rows2 c mO
  have cE:(rows2.take c).flatten.length=c*k2:=by
   rw[kY,bD0,q3];have:c*k2<=es2.length*k2:=aY0 _ (by omega);omega
  have qD:∀u∈(rows2.take c).flatten,u.oneCell'=true:=fun u zX=>q4 u (by rw[kY]at zX;exact dI0 zX)
  have hsrcc:∀(j:Nat) (u:Value),(rows2.take c).flatten[j]? =some u->w.cell? (x.add j)=some u:=by
   intro j u hj;have qV:=(aG0.1 hj).1;rw[cE]at qV;rw[kY,bL0 qV]at hj;exact q6 j u hj
  have nN:=run_loadCells_list (P:=P) w x (rows2.take c).flatten hsrcc
  have vL:i*k2+c*k2<=arr.size:=by
   rw[<-bR0];exact Nat.le_trans (aY0 _ (by omega)) yZ
  have qK:=run_storeCells_at P b' (i*k2) et (rows2.take c).flatten 0 arr w h3 (by rw[cE];omega) qD;simp only[dN0]at qK;obtain⟨rows,r1,r2,r3,r4⟩:=EK k2 es arr 0 wN;have hrk:=xD r1 r3;have nD:=GJ r2 r4 yZ;have harr:arr.toList=rows.flatten++arr.toList.drop (es.length*k2):=by rw[<-nD,List.take_append_drop]
  have gT:i*k2<=rows.flatten.length:=by rw[r2];exact aY0 _ (by omega)
  have hic:i*k2+c*k2<=rows.flatten.length:=by rw[r2,<-bR0];exact aY0 _ (by omega)
  have wZ:(arr.toList.take (i*k2)++(rows2.take c).flatten++arr.toList.drop (i*k2+(rows2.take c).flatten.length))=(rows.take i++rows2.take c++rows.drop (i+c)).flatten++arr.toList.drop (es.length*k2):=by
   have e_t:rows.flatten.take (i*k2)=arr.toList.take (i*k2):=by rw[<-nD,List.take_take,Nat.min_eq_left (by rw[r2]at gT;exact gT)]
   have e_d:arr.toList.drop (i*k2+c*k2)=rows.flatten.drop ((i+c)*k2)++arr.toList.drop (es.length*k2):=by
    rw[bR0]
    conv=>lhs;rw[harr]
    exact eC0 hic
   rw[cE,List.flatten_append,List.flatten_append,MK rows i hrk,Sy rows (i+c) hrk,e_t,e_d,aT0,aT0,aT0]
  refine⟨_,?_,R.writeRow (es':=Ia es i m es2) (arr':=(arr.toList.take (i*k2)++(rows2.take c).flatten++arr.toList.drop (i*k2+(rows2.take c).flatten.length)).toArray) he qS qO h1 h2 h3 h4 h5 h6 h7 (tC hb) ?_ ?_ (WW (by unfold BU at qB;omega) kN) qB qH mZ⟩
  ·have cF:c=Nat.min es2.length m:=hc;have hls:es2.length=es2.length:=rfl;rw[cE]at nN;simp[Builtin.copy_,run_underlying hu,Builtin.lenOf,Builtin.firstCells,sizeOf,typeInfo,hi,<-cF,qF,nN,qK, -List.length_flatten]
  ·simp only[dJ0,aB0,bD0,cB0,bI0,cE];omega
  ·rw[wZ];refine TC k2 _ _ _ ?_ ?_
   ·simp only[Ia,aB0,bD0,cB0];omega
   ·intro j cs us hj zX;unfold Ia at hj;rw[<-hc]at hj
    by_cases hj1:j<i
    ·rw[aT0,aV0 (by simp;omega),bL0 hj1]at hj;rw[aT0,aV0 (by simp;omega),bL0 hj1]at zX;exact r3 j cs us hj zX
    ·by_cases nG:j<i+c
     ·rw[aV0 (by simp;omega),aX0 (by simp;omega),bD0,Nat.min_eq_left (by omega),bL0 (by omega)]at hj;rw[aV0 (by simp;omega),aX0 (by simp;omega),bD0,Nat.min_eq_left (by omega),bL0 (by omega)]at zX;exact q2 _ cs us hj zX
     ·rw[aX0 (by simp;omega),cJ0]at hj;rw[aX0 (by simp;omega),cJ0]at zX;simp only[aB0,bD0]at hj zX;rw[show i+c+(j-(min i es.length+min m es2.length))=j by omega]at hj;rw[show i+c+(j-(min i rows.length+min c rows2.length))=j by omega]at zX;exact r3 j cs us hj zX
end
end Go.Dm
end
