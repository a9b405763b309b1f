/- Parts of a proof, laid together: EnQ, EnI3. -/
import Derived.Laws.CopyRow
import Derived.Test.YtiojapdolljocaaGreatqMx7
import Derived.Test.YtiojapdolljocaaGreatqMx8
set_option linter.unusedSimpArgs false
set_option maxHeartbeats 8000000
set_option linter.unusedVariables false
set_option linter.unusedSectionVars false
section
namespace Go.Dm
variable [DMode]
def Wm (P:Program) (f:Fn) (args:List DVal) (own:List Ent) (r:Nat) (d:DVal) (own':List Ent):Prop :=
 uO P f/\(own'.map (·.id)).Nodup/\(GO own<=r->mx d<=r+1/\GO own'<=r+1) /\
 ∀(M:List Nat) (w:World) (loc:Nat->Loc) (vs:Array Value),GO own<=r->St own loc M w.heap->Az (Ad own loc) (Aa own loc++M) w.heap args vs.toList ->
  Ki P f vs w fun v w'=>∃loc',St own' loc' M w'.heap/\Upd (Aa own loc) w w'/\(∀b∈Aa own' loc',b∈Aa own loc\/w.heap.size<=b) /\
   (∀e∈own',e.r<r->Ad own loc e.id e.r=some (loc' e.id))/\rd (Ad own' loc') (Aa own' loc'++M) w'.heap d v
def BG : List (Nat×Nat)->Nat->Option Nat
 | [],_=>none
 | (i,j')::t,j=>if j=j' then some i else BG t j
def DQ (ρ:List (Nat×Nat)):List (Nat×Nat×Nat):=ρ.map fun p=>(p.1,p.2,0)
def Dx (own:List Ent) (ρ ν:List (Nat×Nat)) (r:Nat):Nat->Nat->Option (Nat×Nat):=fun j v =>
 if v=0 then (match BG ρ j with | some i=>(match An own i with | some e=>some (i,e.r) | none=>none) | none=>none)
 else if v=1 then (match BG (ρ++ν) j with | some i=>some (i,r) | none=>none)
 else none
def Io (φ:Nat->Nat->Option (Nat×Nat)):List Ent->Option (List Ent)
 | []=>some []
 | e::t=>match φ e.id e.r,Io φ t with
  | some p,some l=>some (⟨p.1,p.2,Ji φ e.obj⟩::l)
  | _,_=>none
def Bj : List Ent->List Nat->List Ent
 | [],_=>[]
 | e::t,ids=>if ids.contains e.id then Bj t ids else e::Bj t ids
def Vd : List Ent->Prop
 | []=>True
 | e::t=>aK e.obj/\Vd t
def Ve : List DVal->Prop
 | []=>True
 | d::t=>Vf d/\Ve t
def Vy (own:List Ent):List (Nat×Nat)->Prop
 | []=>True
 | (i,_)::t=>(match An own i with | some e=>aK e.obj | none=>False)/\Vy own t
theorem HW : ∀{l:List (Nat×Nat)} {j i:Nat},BG l j=some i->(i,j)∈l
 | [],j,i,h=>by simp[BG]at h
 | (i',j')::t,j,i,h=>by
  simp only[BG]at h
  split at h
  ·rename_i hj;simp only[aA0]at h;subst h;subst hj;exact aI0
  ·exact aG0 _ (HW h)
theorem Cx : ∀{l:List (Nat×Nat)} {j i:Nat},(l.map (·.2)).Nodup->(i,j)∈l->BG l j=some i
 | (i',j')::t,j,i,hn,h=>by
  simp only[List.map_cons,cP0]at hn;simp only[BG]
  rcases aK0.1 h with h | h
  ·simp only[aU0]at h;rw[if_pos h.2,h.1]
  ·rw[if_neg (fun hj=>hn.1 (by rw[<-hj];exact cS0 (f:=(·.2)) h)),Cx hn.2 h]
theorem FB_ {l:List (Nat×Nat)} (hn:(l.map (·.1)).Nodup) {i j j':Nat} (h:(i,j)∈l) (h':(i,j')∈l):j=j':=by
 induction l with
 | nil=>cases h
 | cons a l ih =>
  simp only[List.map_cons,cP0]at hn
  rcases aK0.1 h with rfl | h1
  ·rcases aK0.1 h' with h' | h2
   ·simp only[aU0]at h';exact h'.2.symm
   ·exact absurd (cS0 (f:=(·.1)) h2) hn.1
  ·rcases aK0.1 h' with rfl | h2
   ·exact absurd (cS0 (f:=(·.1)) h1) hn.1
   ·exact ih hn.2 h1 h2
theorem Dt {own:List Ent} {ids:List Nat} {e:Ent}:e∈Bj own ids↔e∈own/\e.id∉ids:=by
 induction own with
 | nil=>simp[Bj]
 | cons a t ih =>
  simp only[Bj]
  split
  ·rename_i hc;have hc:a.id∈ids:=by simpa using hc
   rw[ih]
   constructor
   ·rintro⟨h1,h2⟩;exact⟨aG0 _ h1,h2⟩
   ·rintro⟨h1,h2⟩
    rcases aK0.1 h1 with rfl | h1
    ·exact absurd hc h2
    ·exact⟨h1,h2⟩
  ·rename_i hc;have hc:a.id∉ids:=by simpa using hc
   rw[aK0,ih,aK0]
   constructor
   ·rintro (rfl | ⟨h1,h2⟩)
    ·exact⟨.inl rfl,hc⟩
    ·exact⟨.inr h1,h2⟩
   ·rintro⟨rfl | h1,h2⟩
    ·exact .inl rfl
    ·exact .inr ⟨h1,h2⟩
theorem iX (own:List Ent) (ids:List Nat):(Bj own ids).Sublist own:=by
 induction own with
 | nil=>exact List.Sublist.refl _
 | cons a t ih =>
  simp only[Bj]
  split
  ·exact ih.cons _
  ·exact ih.cons_cons _
theorem Ge {φ:Nat->Nat->Option (Nat×Nat)}:∀{l l':List Ent},Io φ l=some l'->(∀x∈l',∃e∈l,∃p,φ e.id e.r=some p/\x=⟨p.1,p.2,Ji φ e.obj⟩)
 | [],l',h=>by simp only[Io,aA0]at h;subst h;simp
 | e::t,l',h=>by
  simp only[Io]at h
  split at h
  ·rename_i p l hp hl;simp only[aA0]at h;subst h;intro x hx
   rcases aK0.1 hx with rfl | hx
   ·exact⟨e,aI0,p,hp,rfl⟩
   ·obtain⟨e',h1,h2⟩:=Ge hl x hx;exact⟨e',aG0 _ h1,h2⟩
  ·simp at h
theorem Uh {φ:Nat->Nat->Option (Nat×Nat)} {loc loc':Nat->Loc}:∀{l l':List Ent},Io φ l=some l'->(∀e∈l,∀p,φ e.id e.r=some p->loc' p.1=loc e.id)->Aa l' loc'=Aa l loc
 | [],l',h,_=>by simp only[Io,aA0]at h;subst h;rfl
 | e::t,l',h,hl=>by
  simp only[Io]at h
  split at h
  ·rename_i p l hp wZ;simp only[aA0]at h;subst h;rw[DT,DT,Uh wZ (fun e he=>hl e (aG0 _ he))];simp only;rw[hl e aI0 p hp]
  ·simp at h
theorem QG : ∀{l:List Ent},Vd l->∀e∈l,aK e.obj
 | e::t,h,x,hx=>by
  simp only[Vd]at h
  rcases aK0.1 hx with rfl | hx
  ·exact h.1
  ·exact QG h.2 x hx
theorem XS {own:List Ent}:∀{l:List (Nat×Nat)},Vy own l->∀i j,(i,j)∈l->∃e,An own i=some e/\aK e.obj
 | (i',j')::t,h,i,j,hm=>by
  simp only[Vy]at h
  rcases aK0.1 hm with hm | hm
  ·simp only[aU0]at hm;obtain⟨rfl,rfl⟩:=hm;have h1:=h.1
   split at h1
   ·rename_i e he;exact⟨e,he,h1⟩
   ·exact h1.elim
  ·exact XS h.2 i j hm
theorem Gz {own:List Ent} {loc:Nat->Loc} (hn:(Aa own loc).Nodup):∀l:List Ent,(l.map (·.id)).Nodup->(∀e∈l,∃e0∈own,e0.id=e.id)->(Aa l loc).Nodup
 | [],_,_=>by simp[Aa]
 | e::l,hd,hm=>by
  simp only[List.map_cons,cP0]at hd;rw[DT,bV0];obtain⟨e0,vW,jM⟩:=hm e aI0;refine⟨by rw[<-jM];exact Dw hn e0 vW,Gz hn l hd.2 (fun x hx=>hm x (aG0 _ hx)),?_⟩;intro b hb b' qM cX;subst cX;obtain⟨e2,vM,qT⟩:=bQ0.1 qM;obtain⟨e3,he3,dR⟩:=hm e2 (aG0 _ vM);have:=FU hn e0 vW e3 he3 b (by rw[jM];exact hb) (by rw[dR];exact qT);subst this;exact hd.1 (aT0.2 ⟨e2,vM,by rw[<-dR,jM]⟩)
def KN (loc0' loc:Nat->Loc):List (Nat×Nat)->Nat->Loc
 | [],i=>loc i
 | (i',j)::t,i=>if i=i' then loc0' j else KN loc0' loc t i
theorem Mw {loc0' loc:Nat->Loc}:∀{l:List (Nat×Nat)} {i j:Nat},(l.map (·.1)).Nodup->(i,j)∈l->KN loc0' loc l i=loc0' j
 | (i',j')::t,i,j,hn,hm=>by
  simp only[List.map_cons,cP0]at hn;simp only[KN]
  rcases aK0.1 hm with h | h
  ·simp only[aU0]at h;rw[if_pos h.1,h.2]
  ·rw[if_neg (fun hi=>hn.1 (by rw[<-hi];exact cS0 (f:=(·.1)) h)),Mw hn.2 h]
theorem Mv {loc0' loc:Nat->Loc}:∀{l:List (Nat×Nat)} {i:Nat},i∉l.map (·.1)->KN loc0' loc l i=loc i
 | [],i,h=>rfl
 | (i',j')::t,i,h=>by
  simp only[List.map_cons,aK0,not_or]at h;simp only[KN];rw[if_neg h.1,Mv h.2]
section
variable {φ : Nat -> Nat -> Option (Nat × Nat)} {n : Nat}
theorem rL (hφ:∀i v p,φ i v=some p->p.2<=n) {d:DVal} (h:okR d):mx (KM φ d)<=n+1:=by
 cases d<;>simp only[KM,okR]at h |- <;>first
  |(split
    ·rename_i p hp;have:=hφ _ _ _ hp;simp only[mx];omega
    ·simp[mx])
  | (rw[h];omega)
theorem QO (hφ:∀i v p,φ i v=some p->p.2<=n):∀{ds:List DVal},Xl ds->AL (ds.map (KM φ))<=n+1
 | [],_=>by simp[AL]
 | d::ds,h=>by
  simp only[Xl]at h;have h1:=rL hφ h.1;have h2:=QO hφ h.2;simp only[List.map_cons,AL];omega
theorem rN (hφ:∀i v p,φ i v=some p->p.2<=n) {d:DVal} (h:SI d):mx (Mf φ d)<=n+1:=by
 cases d with
 | fn f us cs =>
  simp only[SI]at h;have h1:=QO hφ h.1;have h2:=QO hφ h.2;simp only[Mf,mx];omega
 | _=>exact rL hφ (by simpa only[SI]using h)
theorem Mu (hφ:∀i v p,φ i v=some p->p.2<=n):∀{ds:List DVal},OW ds->AL (ds.map (Mf φ))<=n+1
 | [],_=>by simp[AL]
 | d::ds,h=>by
  simp only[OW]at h;have h1:=rN hφ h.1;have h2:=Mu hφ h.2;simp only[List.map_cons,AL];omega
theorem rM (hφ:∀i v p,φ i v=some p->p.2<=n) {d:DVal} (h:ok3 d):mx (US φ d)<=n+1:=by
 cases d with
 | agg cs =>
  simp only[ok3]at h;have h1:=Mu hφ h;simp only[US,mx];omega
 | _=>exact rN hφ (by simpa only[ok3]using h)
theorem Xy (hφ:∀i v p,φ i v=some p->p.2<=n):∀{ds:List DVal},Xm ds->AL (ds.map (US φ))<=n+1
 | [],_=>by simp[AL]
 | d::ds,h=>by
  simp only[Xm]at h;have h1:=rM hφ h.1;have h2:=Xy hφ h.2;simp only[List.map_cons,AL];omega
theorem Fl_ (hφ:∀i v p,φ i v=some p->p.2<=n) {d:DVal} (h:Vf d):mx (Hr φ d)<=n+1:=by
 cases d with
 | tup cs =>
  simp only[Vf]at h;have h1:=Xy hφ h;simp only[Hr,mx];omega
 | _=>exact rM hφ (by simpa only[Vf]using h)
theorem Xv (hφ:∀i v p,φ i v=some p->p.2<=n):∀{es:List (List DVal)},iB es->Bp (JB φ es)<=n+1
 | [],_=>by simp[JB,Bp]
 | c::l,h=>by
  simp only[iB]at h;have h1:=Mu hφ h.1;have h2:=Xv hφ h.2;simp only[JB,Bp];omega
theorem CW_ (hφ:∀i v p,φ i v=some p->p.2<=n) {o:DObj} (h:aK o):Fa (Ji φ o)<=n+1:=by
 cases o with
 | box cs=>simp only[aK]at h;simp only[Ji,Fa];exact Mu hφ h
 | row et k bs es =>
  simp only[Ji]
  split
  ·rename_i h0;simp only[Fa,h0];omega
  ·rename_i h0;simp only[aK]at h;simp only[Fa];exact Xv hφ (h.resolve_left h0)
 | map ks vs=>simp only[aK]at h;simp only[Ji,Fa,h.1,h.2];omega
 | abs A=>simp only[Ji,Fa];omega
end
theorem GI_ {l:List Ent} {n:Nat} (h:∀e∈l,e.r+1<=n/\Fa e.obj<=n):GO l<=n:=by
 induction l with
 | nil=>simp[GO]
 | cons e t ih =>
  have h1:=h e aI0;have h2:=ih fun e he=>h e (aG0 _ he)
  simp only[GO];omega
theorem WW {cur cur':ER} {M M':List Nat} {h h':Array Obj} {φ:Nat->Nat->Option (Nat×Nat)} (W:Weak cur cur' M M' h h' 0) (L:GK cur cur' φ):∀{ds:List DVal} {vs:List Value},Ve ds->Az cur M h ds vs->Az cur' M' h' (ds.map (Hr φ)) vs
 | [],vs,_,hr=>by simpa[Az]using hr
 | d::ds,vs,hk,hr=>by
  simp only[Ve]at hk;simp only[Az,List.map_cons]at hr |-;obtain⟨v,r,rfl,h1,h2⟩:=hr;exact⟨v,r,rfl,Ps W L hk.1 h1,WW W L hk.2 h2⟩
abbrev Ga_ := Array Value->World->(Value->World->Prop)->Prop
def EE_ (C:Ga_) (args:List DVal) (own:List Ent) (d:DVal) (own':List Ent):Prop :=
 ∀(M:List Nat) (w:World) (loc:Nat->Loc) (vs:Array Value),St own loc M w.heap->Az (Ad own loc) (Aa own loc++M) w.heap args vs.toList ->
  C vs w fun v w'=>∃loc',St own' loc' M w'.heap/\Upd (Aa own loc) w w'/\(∀b∈Aa own' loc',b∈Aa own loc\/w.heap.size<=b) /\
   (∀e∈own',e.r<1->Ad own loc e.id e.r=some (loc' e.id))/\rd (Ad own' loc') (Aa own' loc'++M) w'.heap d v
def Ik_ (C:Ga_) (args:List DVal) (own:List Ent) (r:Nat) (d:DVal) (own':List Ent):Prop :=
 ∀(M:List Nat) (w:World) (loc:Nat->Loc) (vs:Array Value),GO own<=r->St own loc M w.heap->Az (Ad own loc) (Aa own loc++M) w.heap args vs.toList ->
  C vs w fun v w'=>∃loc',St own' loc' M w'.heap/\Upd (Aa own loc) w w'/\(∀b∈Aa own' loc',b∈Aa own loc\/w.heap.size<=b) /\
   (∀e∈own',e.r<r->Ad own loc e.id e.r=some (loc' e.id))/\rd (Ad own' loc') (Aa own' loc'++M) w'.heap d v
theorem ZZ {C:Ga_} (hC:∀vs w (R R':Value->World->Prop),(∀v w',R v w'->R' v w')->C vs w R->C vs w R') {args args0:List DVal} {own own0 own0' l:List Ent} {d0:DVal} {r:Nat} (ρ ν:List (Nat×Nat)) (fL:EE_ C args0 own0 d0 own0')
  (zG:Lr own (BP own (DQ ρ)) (DQ ρ)=some own0) (qW:Vy own ρ) (qE:Ve args/\wkA (args.map (Hr (BP own (DQ ρ)))) args0)
  (hid:((ρ++ν).map (·.1)).Nodup/\(ρ.map (·.2)).Nodup) (vL:Io (Dx own ρ ν r) own0'=some l) (nB:Vd own0') (fY:Vf d0) (hnd:((Bj own ((ρ++ν).map (·.1))++l).map (·.id)).Nodup) :
  Ik_ C args own r (Hr (Dx own ρ ν r) d0) (Bj own ((ρ++ν).map (·.1))++l):=by
 intro M w loc vs vA S hr
 -- the way in
 have dG:∀i j,(i,j)∈ρ->loc ((BG ρ j).getD 0)=loc i:=by
  intro i j hm;simp only[Cx hid.2 hm,bZ0]
 obtain⟨gW,bY⟩:=Mm zG
 have hm0':∀x∈own0,∃i e,(i,x.id)∈ρ/\An own i=some e/\x=⟨x.id,0,Ji (BP own (DQ ρ)) e.obj⟩:=by
  intro x hx;obtain⟨i,j,v,e,h1,h2,h3⟩:=gW x hx;simp only[DQ,aT0,aU0]at h1;obtain⟨p,hp,rfl,rfl,rfl⟩:=h1;subst h3;exact⟨p.1,e,hp,h2,rfl⟩
 have bY:own0.map (·.id)=ρ.map (·.2):=by
  rw[bY];simp[DQ]
 have hnd0:(own0.map (·.id)).Nodup:=by rw[bY];exact hid.2
 have hρ1:(ρ.map (·.1)).Nodup:=by
  have:=hid.1;rw[bD0,bV0]at this;exact this.1
 have kN:Aa own0 (fun j=>loc ((BG ρ j).getD 0))=Aa (own0.map fun x=>⟨(BG ρ x.id).getD 0,0,x.obj⟩) loc:=by
  simp[Aa,List.flatMap_map]
 have gJ:((own0.map fun x=>(⟨(BG ρ x.id).getD 0,0,x.obj⟩:Ent)).map (·.id)).Nodup:=by
  rw[bY0]
  have:own0.map ((·.id)∘fun x=>(⟨(BG ρ x.id).getD 0,0,x.obj⟩:Ent))=ρ.map (·.1):=by
   have e1:own0.map ((·.id)∘fun x=>(⟨(BG ρ x.id).getD 0,0,x.obj⟩:Ent))=(own0.map (·.id)).map (fun j=>(BG ρ j).getD 0):=by
    rw[bY0];rfl
   rw[e1,bY,bY0];refine cA0 fun p hp=> ?_
   simp only[Function.comp_def];rw[Cx hid.2 hp];rfl
  rw[this];exact hρ1
 have hselm:∀e∈own0.map (fun x=>(⟨(BG ρ x.id).getD 0,0,x.obj⟩:Ent)),∃e0∈own,e0.id=e.id:=by
  intro e he;obtain⟨x,hx,rfl⟩:=aT0.1 he;obtain⟨i,e,h1,h2,_⟩:=hm0' x hx;simp only[Cx hid.2 h1,bZ0];exact⟨e,AC h2⟩
 have kS:∀b∈Aa own0 (fun j=>loc ((BG ρ j).getD 0)),∃i j e,(i,j)∈ρ/\e∈own/\e.id=i/\b∈(loc i).blks:=by
  intro b hb;obtain⟨x,hx,hb⟩:=bQ0.1 hb;obtain⟨i,e,h1,h2,_⟩:=hm0' x hx;simp only[Cx hid.2 h1,bZ0]at hb;exact⟨i,x.id,e,h1,(AC h2).1,(AC h2).2,hb⟩
 have kL:∀b∈Aa own0 (fun j=>loc ((BG ρ j).getD 0)),b∈Aa own loc:=by
  intro b hb;obtain⟨i,j,e,_,h2,rfl,h4⟩:=kS b hb;exact Bf h2 h4
 have hfr:∀b∈Aa (Bj own ((ρ++ν).map (·.1))) loc,b∈Aa own loc:=by
  intro b hb;obtain⟨e,he,hb⟩:=bQ0.1 hb;exact Bf (Dt.1 he).1 hb
 have hdis:∀b∈Aa own0 (fun j=>loc ((BG ρ j).getD 0)),b∉Aa (Bj own ((ρ++ν).map (·.1))) loc:=by
  intro b hb qM;obtain⟨i,j,e,h1,h2,rfl,h4⟩:=kS b hb;obtain⟨e',vR,qM⟩:=bQ0.1 qM;obtain⟨g1,g2⟩:=Dt.1 vR;have:=FU S.bl e h2 e' g1 b h4 qM;subst this;exact g2 (cS0 (f:=(·.1)) (aM0 _ h1))
 have hM:∀b,b∈Aa own0 (fun j=>loc ((BG ρ j).getD 0))++(Aa (Bj own ((ρ++ν).map (·.1))) loc++M)->b∈Aa own loc++M:=by
  intro b hb;simp only[aH0]at hb |-
  rcases hb with hb | hb | hb
  ·exact .inl (kL b hb)
  ·exact .inl (hfr b hb)
  ·exact .inr hb
 have W0:Weak (Ad own loc) (Ad own0 fun j=>loc ((BG ρ j).getD 0)) (Aa own loc++M) (Aa own0 (fun j=>loc ((BG ρ j).getD 0))++(Aa (Bj own ((ρ++ν).map (·.1))) loc++M)) w.heap w.heap 0 :=
  ⟨fun id r l hr=>by omega,fun b o _ (_:GM o=true) ho=>ho,fun b o hb (_:GM o=true) _ hm=>hb (hM b hm)⟩
 have L0:GK (Ad own loc) (Ad own0 fun j=>loc ((BG ρ j).getD 0)) (BP own (DQ ρ)):=by
  intro i v p lc hp hl;obtain⟨e,h1,h2,h3⟩:=IC hp;simp only[DQ,aT0,aU0]at h1;obtain⟨q,hq,rfl,kW,_⟩:=h1;obtain⟨e0,_,g1,_,g3⟩:=BJ hl;rw[<-h3];obtain⟨k1,k2⟩:=AC h2;rw[<-k2,AK S.nd k1,g3,<-kW,k2,dG q.1 q.2 hq]
 have S0:St own0 (fun j=>loc ((BG ρ j).getD 0)) (Aa (Bj own ((ρ++ν).map (·.1))) loc++M) w.heap:=by
  refine⟨hnd0,?_,?_,?_,?_⟩
  ·rw[kN];exact Gz S.bl _ gJ hselm
  ·intro b hb hm
   rcases aH0.1 hm with hm | hm
   ·exact hdis b hb hm
   ·exact S.ap b (kL b hb) hm
  ·intro b hb;exact S.lt b (hM b hb)
  ·intro x hx;obtain⟨i,e,h1,h2,h3⟩:=hm0' x hx;obtain⟨e',h4,h5⟩:=XS qW i x.id h1;rw[h2]at h4;simp only[aA0]at h4;subst h4;obtain⟨k1,k2⟩:=AC h2;rw[h3];have:=KI W0 L0 (l:=loc i) (l':=(fun j=>loc ((BG ρ j).getD 0)) x.id) h5 (dG i x.id h1) (fun b o _ ho=>ho) (by have:=S.ok e k1;rwa[k2]at this);exact this
 have kH:=eO (qE.2) (WW W0 L0 qE.1 hr);refine hC _ _ _ _ ?_ (fL _ w _ vs S0 kH);rintro v w' ⟨loc0',S1,hu,wM,zQ,vV⟩
 -- the way back
 have hφ:∀e∈own0',∀p,Dx own ρ ν r e.id e.r=some p->(p.1,e.id)∈ρ++ν/\((e.r=0/\∃e1,An own p.1=some e1/\p.2=e1.r/\(p.1,e.id)∈ρ)\/(e.r=1/\p.2=r)):=by
  intro e he p hp;unfold Dx at hp
  split at hp
  ·rename_i h0
   split at hp
   ·rename_i i hi
    split at hp
    ·rename_i e1 cL;simp only[aA0]at hp;subst hp;have:=HW hi;exact⟨aM0 _ this,.inl ⟨h0,e1,cL,rfl,this⟩⟩
    ·simp at hp
   ·simp at hp
  ·split at hp
   ·rename_i h1
    split at hp
    ·rename_i i hi;simp only[aA0]at hp;subst hp;exact⟨HW hi,.inr ⟨h1,rfl⟩⟩
    ·simp at hp
   ·simp at hp
 have hlp:∀e∈own0',∀p,Dx own ρ ν r e.id e.r=some p->KN loc0' loc (ρ++ν) p.1=loc0' e.id:=fun e he p hp=>Mw hid.1 (hφ e he p hp).1
 have hotl:Aa l (KN loc0' loc (ρ++ν))=Aa own0' loc0':=Uh vL hlp
 have hotf:Aa (Bj own ((ρ++ν).map (·.1))) (KN loc0' loc (ρ++ν))=Aa (Bj own ((ρ++ν).map (·.1))) loc:=by
  unfold Aa;have:∀e∈Bj own ((ρ++ν).map (·.1)),(KN loc0' loc (ρ++ν) e.id).blks=(loc e.id).blks:=fun e he=>by rw[Mv (Dt.1 he).2]
  generalize Bj own ((ρ++ν).map (·.1))=fr at this
  induction fr with
  | nil=>rfl
  | cons a t ih =>
   rw[dD0,dD0,this a aI0,ih (fun e he=>this e (aG0 _ he))]
 have bF:Aa (Bj own ((ρ++ν).map (·.1))++l) (KN loc0' loc (ρ++ν))=Aa (Bj own ((ρ++ν).map (·.1))) loc++Aa own0' loc0':=by
  rw[<-hotl,<-hotf];simp[Aa]
 have hM':∀b,b∈Aa (Bj own ((ρ++ν).map (·.1))) loc++Aa own0' loc0'++M↔b∈Aa own0' loc0'++(Aa (Bj own ((ρ++ν).map (·.1))) loc++M):=by
  intro b;simp only[aH0];constructor
  ·intro h;rcases h with (h | h) | h
   ·exact .inr (.inl h)
   ·exact .inl h
   ·exact .inr (.inr h)
  ·intro h;rcases h with h | h | h
   ·exact .inl (.inr h)
   ·exact .inl (.inl h)
   ·exact .inr h
 have hfid:∀x∈l,x.id∈(ρ++ν).map (·.1):=by
  intro x hx;obtain⟨e,he,p,hp,rfl⟩:=Ge vL x hx;exact cS0 (f:=(·.1)) (hφ e he p hp).1
 have W1:Weak (Ad own0' loc0') (Ad (Bj own ((ρ++ν).map (·.1))++l) (KN loc0' loc (ρ++ν))) (Aa own0' loc0'++(Aa (Bj own ((ρ++ν).map (·.1))) loc++M)) (Aa (Bj own ((ρ++ν).map (·.1))++l) (KN loc0' loc (ρ++ν))++M) w'.heap w'.heap 0 :=
  ⟨fun id r l hr=>by omega,fun b o _ (_:GM o=true) ho=>ho,fun b o hb (_:GM o=true) _ hm=>hb (by rw[bF]at hm;exact(hM' b).1 hm)⟩
 have L1:GK (Ad own0' loc0') (Ad (Bj own ((ρ++ν).map (·.1))++l) (KN loc0' loc (ρ++ν))) (Dx own ρ ν r):=by
  intro j v p lc hp hl;obtain⟨x,hx,g1,g2,g3⟩:=BJ hl
  have hpj:(p.1,j)∈ρ++ν/\((v=0/\∃e1,An own p.1=some e1/\p.2=e1.r)\/(v=1/\p.2=r)):=by
   unfold Dx at hp
   split at hp
   ·rename_i h0
    split at hp
    ·rename_i i hi
     split at hp
     ·rename_i e1 cL;simp only[aA0]at hp;subst hp;exact⟨aM0 _ (HW hi),.inl ⟨h0,e1,cL,rfl⟩⟩
     ·simp at hp
    ·simp at hp
   ·split at hp
    ·rename_i h1
     split at hp
     ·rename_i i hi;simp only[aA0]at hp;subst hp;exact⟨HW hi,.inr ⟨h1,rfl⟩⟩
     ·simp at hp
    ·simp at hp
  have hpi:p.1∈(ρ++ν).map (·.1):=cS0 (f:=(·.1)) hpj.1
  rcases aH0.1 hx with hx | hx
  ·exact absurd (g1▸hpi) (Dt.1 hx).2
  ·obtain⟨e,he,q,hq,rfl⟩:=Ge vL x hx;simp only at g1 g2;obtain⟨q1,q2⟩:=hφ e he q hq;have hej:e.id=j:=FB_ hid.1 (by rw[<-g1];exact q1) hpj.1;subst hej
   have kJ:e.r=v:=by
    rcases q2 with ⟨a1,e1,a2,a3,_⟩ | ⟨a1,a2⟩<;>rcases hpj.2 with ⟨b1,e2,b2,b3⟩ | ⟨b1,b2⟩
    ·omega
    ·exfalso;have:=(Bm (AC a2).1).1;omega
    ·exfalso;have:=(Bm (AC b2).1).1;omega
    ·omega
   subst kJ;rw[AK S1.nd he,g3,<-g1,Mw hid.1 q1]
 have hkeep:∀e∈Bj own ((ρ++ν).map (·.1)),∀b o,b∈(loc e.id).blks->w.heap[b]? =some o->w'.heap[b]? =some o:=by
  intro e he b o hb ho;have hbf:b∈Aa (Bj own ((ρ++ν).map (·.1))) loc:=Bf he hb;rw[hu.blk b (aD0.1 ho).1 (fun h=>hdis b h hbf)];exact ho
 have W2:Weak (Ad own loc) (Ad (Bj own ((ρ++ν).map (·.1))++l) (KN loc0' loc (ρ++ν))) (Aa own loc++M) (Aa (Bj own ((ρ++ν).map (·.1))++l) (KN loc0' loc (ρ++ν))++M) w.heap w'.heap r:=by
  refine⟨?_,?_,?_⟩
  ·intro id v lc hv hl;obtain⟨x,hx,rfl,rfl,rfl⟩:=BJ hl
   rcases aH0.1 hx with hx | hx
   ·have:=Dt.1 hx;rw[AK S.nd this.1,Mv this.2]
   ·obtain⟨e,he,q,hq,rfl⟩:=Ge vL x hx;simp only at hv |-;obtain⟨q1,q2⟩:=hφ e he q hq
    rcases q2 with ⟨a1,e1,a2,a3,a4⟩ | ⟨a1,a2⟩
    ·have h1:=zQ e he (by omega);obtain⟨x0,k1,k2,k3,k4⟩:=BJ h1;obtain⟨m1,m2⟩:=AC a2;rw[Mw hid.1 q1,k4,dG _ _ a4,a3,<-m2,AK S.nd m1]
    ·omega
  ·intro b o hb (_:GM o=true) ho;rw[hu.blk b (aD0.1 ho).1 (fun h=>hb (aM0 _ (kL b h)))];exact ho
  ·intro b o hb (_:GM o=true) ho hm;rw[bF]at hm;have qV:=(aD0.1 ho).1;simp only[aH0]at hm hb
   rcases hm with (hm | hm) | hm
   ·exact hb (.inl (hfr b hm))
   ·rcases wM b hm with h | h
    ·exact hb (.inl (kL b h))
    ·omega
   ·exact hb (.inr hm)
 refine⟨KN loc0' loc (ρ++ν),⟨hnd,?_,?_,?_,?_⟩,?_,?_,?_,?_⟩
 ·rw[bF,bV0];refine⟨(DR S.bl _ ?_ (fun e he=>(Dt.1 he).1)),S1.bl,?_⟩
  ·exact((iX own _).map _).nodup S.nd
  ·intro b hb b' qM cX;subst cX;exact S1.ap b qM (aM0 _ hb)
 ·intro b hb hm;rw[bF]at hb
  rcases aH0.1 hb with hb | hb
  ·exact S.ap b (hfr b hb) hm
  ·exact S1.ap b hb (aP0 _ hm)
 ·intro b hb;rw[bF]at hb;exact S1.lt b ((hM' b).1 hb)
 ·intro x hx
  rcases aH0.1 hx with hx | hx
  ·have hm:=Dt.1 hx;have:=Bk W2 (Nat.le_trans (Bm hm.1).2 vA) (hkeep x hx) (S.ok x hm.1)
   rwa[Mv hm.2]
  ·obtain⟨e,he,q,hq,rfl⟩:=Ge vL x hx;exact KI W1 L1 (QG nB e he) (hlp e he q hq) (fun b o _ ho=>ho) (S1.ok e he)
 ·refine⟨hu.os,hu.tape,hu.output,hu.drawn,hu.size,fun b hb hn=>hu.blk b hb fun h=>hn (kL b h)⟩
 ·intro b hb;rw[bF]at hb
  rcases aH0.1 hb with hb | hb
  ·exact .inl (hfr b hb)
  ·rcases wM b hb with h | h
   ·exact .inl (kL b h)
   ·exact .inr h
 ·intro x hx qV;exact W2.c x.id x.r _ qV (AK hnd hx)
 ·exact Ps W1 L1 fY vV
theorem Pi {P:Program} {f:Fn} {args args0:List DVal} {own own0 own0' l:List Ent} {d0:DVal} {r:Nat} (ρ ν:List (Nat×Nat)) (hS:Bn P f args0 own0 d0 own0')
  (zG:Lr own (BP own (DQ ρ)) (DQ ρ)=some own0) (qW:Vy own ρ) (qE:Ve args/\wkA (args.map (Hr (BP own (DQ ρ)))) args0)
  (hid:((ρ++ν).map (·.1)).Nodup/\(ρ.map (·.2)).Nodup) (vL:Io (Dx own ρ ν r) own0'=some l) (nB:Vd own0') (fY:Vf d0) (hnd:((Bj own ((ρ++ν).map (·.1))++l).map (·.id)).Nodup) :
  Wm P f args own r (Hr (Dx own ρ ν r) d0) (Bj own ((ρ++ν).map (·.1))++l):=by
 have qT:GO own<=r->∀i v p,Dx own ρ ν r i v=some p->p.2<=r:=by
  intro vA i v p hp;unfold Dx at hp
  split at hp
  ·split at hp
   ·split at hp
    ·rename_i e he;simp only[aA0]at hp;subst hp;have:=(Bm (AC he).1).1;simp only;omega
    ·simp at hp
   ·simp at hp
  ·split at hp
   ·split at hp
    ·simp only[aA0]at hp;subst hp;exact Nat.le_refl _
    ·simp at hp
   ·simp at hp
 refine⟨hS.2.1,hnd,fun vA=>⟨Fl_ (qT vA) fY,GI_ fun e he=> ?_⟩,?_⟩
 ·rcases aH0.1 he with he | he
  ·have:=Bm (Dt.1 he).1;omega
  ·obtain⟨e0,h0,p,hp,rfl⟩:=Ge vL e he;exact⟨by have:=qT vA _ _ _ hp;simp only;omega,CW_ (qT vA) (QG nB e0 h0)⟩
 exact ZZ (C:=Ki P f) (fun vs w R R' h hc=>hc.mono h) ρ ν (fun M w loc vs S hr=>hS.2.2 M w loc vs S hr) zG qW qE hid vL nB fY hnd
def Je (es:List (List DVal)) (i m:Nat) (es2:List (List DVal)):List (List DVal):=es.take i++es2.take m++es.drop (i+min es2.length m)
theorem Bk_ {es es2:List (List DVal)} {i m:Nat} (h:i+m<=es.length):(Je es i m es2).length=es.length:=by
 simp only[Je,aC0,bA0,cF0];omega
theorem TF {es:List (List DVal)} {k n:Nat} (h:Bp es<=n):Bp (es.take k)<=n:=Nat.le_trans (Gr k es) h
theorem Ar_ {es:List (List DVal)} {k n:Nat} (h:Bp es<=n):Bp (es.drop k)<=n:=Nat.le_trans (Gs k es) h
theorem Yu {es es2:List (List DVal)} {i m n:Nat} (h1:Bp es<=n) (h2:Bp es2<=n):Bp (Je es i m es2)<=n:=by
 unfold Je;rw[Bx,Bx];have:=TF (k:=i) h1;have:=TF (k:=m) h2;have:=Ar_ (k:=i+min es2.length m) h1;omega
theorem NV {k:Nat}:∀(rows:List (List Value)) (i:Nat),(∀r∈rows,r.length=k)->(rows.take i).flatten=rows.flatten.take (i*k)
 | [],i,_=>by simp
 | r::rows,0,_=>by simp
 | r::rows,i+1,h=>by
  have hr:=h r aI0;rw[cO0,eW0,eW0,NV rows i fun x hx=>h x (aG0 _ hx),List.take_append,hr];have e1:(i+1)*k-k=i*k:=by rw[bU0];omega
  rw[e1,cD0 (l:=r) (by rw[hr,bU0];omega)]
theorem TR {k:Nat}:∀(rows:List (List Value)) (i:Nat),(∀r∈rows,r.length=k)->(rows.drop i).flatten=rows.flatten.drop (i*k)
 | [],i,_=>by simp
 | r::rows,0,_=>by simp
 | r::rows,i+1,h=>by
  have hr:=h r aI0;rw[dS0,eW0,TR rows i fun x hx=>h x (aG0 _ hx),List.drop_append,hr];have e1:(i+1)*k-k=i*k:=by rw[bU0];omega
  rw[e1,cW0 (l:=r) (by rw[hr,bU0];omega),List.nil_append]
section
variable {P : Program} {B : Base} {s : DS} {a : Act} {w : World} {loc : Nat -> Loc}
theorem Co_ {cur:ER} {M:List Nat} {H:Array Obj} {k:Nat} {es:List (List DVal)} {rows:List (List Value)} (hl:rows.length=es.length)
  (h:∀(i:Nat) (cs:List DVal) (us:List Value),es[i]? =some cs->rows[i]? =some us->cs.length=k/\Az cur M H cs us/\∀u∈us,u.oneCell'=true):∀r∈rows,r.length=k:=by
 intro r hr;obtain⟨i,hi,rfl⟩:=bX0 hr;obtain⟨h1,h2,_⟩:=h i es[i] rows[i] (aE0 _) (aE0 _);have:=Aw _ _ h2;omega
theorem Rel.copyRow {d sd:DVal} {id r k0 bs0 i m n k2:Nat} {t ty:TypeId} {et k bs:Nat} {es es2:List (List DVal)} {e:Ent} {v sv:Value} {dst:Option Nat} (R:Rel B s a w loc) (he:An s.own id=some e) (wV:e.r=r) (qN:e.obj= .row et k bs es)
  (hv:Bh s loc B.M0 w d v) (hd:d= .osl id r/\i=0/\m=es.length\/d= .vw id r k bs0 i m) (hb:i+m<=es.length) (ht:tElem P t=some (k,k0)) (hk:0<k)
  (hsv:Bh s loc B.M0 w sd sv) (wF:Jz s.own sd=some (k2,es2)) (yX:k2=k\/es2=[]) (jZ:Bp es2<=n)
  (qH:Ce B s<=n) (qS:∀i,dst=some i->i<B.nt) :
  ∃w',(Builtin.copy_ #[t,t] ty #[v,sv]).run P w= .ok (goInt (min es2.length m:Nat)) w'/\Rel B ⟨Bz s.slots dst (.int .i64 (min es2.length m:Nat)),upE s.own id r (.row et k bs (Je es i m es2))⟩ (a.put dst (goInt (min es2.length m:Nat))) w' (CQ loc id (loc id)):=by
 obtain⟨e1,i1,hu,hi,qP,hby,_⟩:=BF ht;obtain⟨rows2,q1,q2,q3,q4,q5,q6⟩:=Cg_ (B:=B) R.st hsv wF;obtain⟨ad,cap,rfl,yC⟩:=rC (B:=B) R.st he wV qN hv hd;have qY:=(AS he).1;have hid:=(AS he).2;have vU:=(Bm qY).2;rw[qN]at vU;simp only[Fa]at vU
 have nM:∀cur M h,rd cur M h (.int .i64 (min es2.length m:Nat)) (goInt (min es2.length m:Nat)):=by
  intro cur M h;have h5:min es2.length m<=maxLen:=Nat.le_trans (Nat.min_le_left _ _) q5;unfold maxLen at h5;simp only[rd,goInt];refine⟨?_,?_⟩
  ·trivial
  ·simp only[Ly];omega
 by_cases hm:min es2.length m=0
 ·have bT:Je es i m es2=es:=by
   unfold Je;rw[hm]
   have:es2.take m=[]:=by
    rw[<-cZ0,bA0];omega
   rw[this,bO0,dI0,List.take_append_drop]
  rw[bT];rw[hm]at nM |-
  have qB:(Builtin.copy_ #[t,t] ty #[.slice ad m cap,sv]).run P w= .ok (goInt 0) w:=by
   have hl:∀(x:Addr),(loadCells x 0).run P w= .ok #[] w:=fun x=>by simpa using run_loadCells_list (P:=P) w x [] (by simp)
   rcases q6 with ⟨_,x,cap2,rfl⟩ | ⟨x,cap2,rfl,_⟩
   ·cases ad<;>cases x<;>simp[Builtin.copy_,run_underlying hu,Builtin.lenOf,Builtin.firstCells,sizeOf,typeInfo,hi,storeCells,hl]
   ·have vN:Nat.min es2.length m=0:=hm;cases ad<;>simp[Builtin.copy_,run_underlying hu,Builtin.lenOf,Builtin.firstCells,sizeOf,typeInfo,hi,storeCells,hl,vN]
  refine⟨w,qB,?_⟩;have qD:Ad s.own loc id r=some (loc id):=by unfold Ad;rw[he];simp[wV]
  have vK:=R.st.ok e qY;rw[qN,hid]at vK
  have hL:∀b0,b0∈(loc id).blks->b0<w.heap.size/\((∃e∈s.own,e.id=id/\b0∈(loc id).blks)\/w.heap.size<=b0):=fun b0 qR =>
   ⟨R.st.lt b0 (aM0 _ (Bf qY (by rw[hid];exact qR))),.inl ⟨e,qY,hid,qR⟩⟩
  have W:=R.weakUp (obj:= .row et k bs es) qH (Upd.refl _ w) hL (.inr qD);unfold Ce at qH;exact R.up (hLn:=by have:=Dw R.st.bl e qY;rwa[hid]at this) (n:=n) qH qS (Upd.refl _ w) (fun _ _ _=>rfl) hL (.inr qD) (Bk W (by simp only[Fa];omega) (fun _ _ _ h=>h) vK) (nM _ _ _)
 ·have qZ:k2=k:=by
   rcases yX with h | h
   ·exact h
   ·subst h;simp at hm
  subst qZ;obtain⟨b,qI,rfl⟩:=yC (by omega);obtain⟨h7,b',arr,cap',h1,h2,h3,h4,h5,h6,qK⟩:=UP (B:=B) R.st he qN (by intro h;subst h;simp at hb;omega);rw[h1]at qI;simp only[bH0,and_true]at qI;subst qI;have yS:es.length*k2<=arr.size:=by rw[<-h6];exact aX0 _ h4
  rcases q6 with ⟨rfl,_⟩ | ⟨x,cap2,rfl,q6⟩
  ·simp at hm
  obtain⟨c,hc⟩:∃c,c=min es2.length m:=⟨_,rfl⟩;rw[<-hc]at hm nM |-;have bE:=Co_ q1 q2;have jQ:(rows2.take c).flatten=rows2.flatten.take (c*k2):=NV rows2 c bE
  have mY:(rows2.take c).flatten.length=c*k2:=by
   rw[jQ,bA0,q3];have:c*k2<=es2.length*k2:=aX0 _ (by omega);omega
  have qC:∀u∈(rows2.take c).flatten,u.oneCell'=true:=fun u vZ=>q4 u (by rw[jQ]at vZ;exact dB0 vZ)
  have hsrcc:∀(j:Nat) (u:Value),(rows2.take c).flatten[j]? =some u->w.cell? (x.add j)=some u:=by
   intro j u hj;have qV:=(aB0.1 hj).1;rw[mY]at qV;rw[jQ,bN0 qV]at hj;exact q6 j u hj
  have pF:=run_loadCells_list (P:=P) w x (rows2.take c).flatten hsrcc
  have vH:i*k2+c*k2<=arr.size:=by
   rw[<-bU0];exact Nat.le_trans (aX0 _ (by omega)) yS
  have wJ:=run_storeCells_at P b' (i*k2) et (rows2.take c).flatten 0 arr w h3 (by rw[mY];omega) qC;simp only[dI0]at wJ;obtain⟨rows,r1,r2,r3,r4⟩:=Fj k2 es arr 0 qK;have hrk:=Co_ r1 r3;have pT:=HJ r2 r4 yS;have harr:arr.toList=rows.flatten++arr.toList.drop (es.length*k2):=by rw[<-pT,List.take_append_drop]
  have mR:i*k2<=rows.flatten.length:=by rw[r2];exact aX0 _ (by omega)
  have hic:i*k2+c*k2<=rows.flatten.length:=by rw[r2,<-bU0];exact aX0 _ (by omega)
  have wM:(arr.toList.take (i*k2)++(rows2.take c).flatten++arr.toList.drop (i*k2+(rows2.take c).flatten.length))=(rows.take i++rows2.take c++rows.drop (i+c)).flatten++arr.toList.drop (es.length*k2):=by
   have e_t:rows.flatten.take (i*k2)=arr.toList.take (i*k2):=by rw[<-pT,List.take_take,Nat.min_eq_left (by rw[r2]at mR;exact mR)]
   have e_d:arr.toList.drop (i*k2+c*k2)=rows.flatten.drop ((i+c)*k2)++arr.toList.drop (es.length*k2):=by
    rw[bU0]
    conv=>lhs;rw[harr]
    exact dT0 hic
   rw[mY,List.flatten_append,List.flatten_append,NV rows i hrk,TR rows (i+c) hrk,e_t,e_d,aV0,aV0,aV0]
  refine⟨_,?_,R.writeRow (es':=Je es i m es2) (arr':=(arr.toList.take (i*k2)++(rows2.take c).flatten++arr.toList.drop (i*k2+(rows2.take c).flatten.length)).toArray) he wV qN h1 h2 h3 h4 h5 h6 h7 (Bk_ hb) ?_ ?_ (Yu (by unfold Ce at qH;omega) jZ) qH qS nM⟩
  ·have mZ:c=Nat.min es2.length m:=hc;have hls:es2.length=es2.length:=rfl;rw[mY]at pF;simp[Builtin.copy_,run_underlying hu,Builtin.lenOf,Builtin.firstCells,sizeOf,typeInfo,hi,<-mZ,qP,pF,wJ, -List.length_flatten]
  ·simp only[dK0,aC0,bA0,cF0,bI0,mY];omega
  ·rw[wM];refine UU k2 _ _ _ ?_ ?_
   ·simp only[Je,aC0,bA0,cF0];omega
   ·intro j cs us hj vZ;unfold Je at hj;rw[<-hc]at hj
    by_cases hj1:j<i
    ·rw[aV0,aZ0 (by simp;omega),bN0 hj1]at hj;rw[aV0,aZ0 (by simp;omega),bN0 hj1]at vZ;exact r3 j cs us hj vZ
    ·by_cases pP:j<i+c
     ·rw[aZ0 (by simp;omega),bB0 (by simp;omega),bA0,Nat.min_eq_left (by omega),bN0 (by omega)]at hj;rw[aZ0 (by simp;omega),bB0 (by simp;omega),bA0,Nat.min_eq_left (by omega),bN0 (by omega)]at vZ;exact q2 _ cs us hj vZ
     ·rw[bB0 (by simp;omega),cL0]at hj;rw[bB0 (by simp;omega),cL0]at vZ;simp only[aC0,bA0]at hj vZ;rw[show i+c+(j-(min i es.length+min m es2.length))=j by omega]at hj;rw[show i+c+(j-(min i rows.length+min c rows2.length))=j by omega]at vZ;exact r3 j cs us hj vZ
end
end Go.Dm
end
