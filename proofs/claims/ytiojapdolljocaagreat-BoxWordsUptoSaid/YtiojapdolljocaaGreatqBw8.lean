/- Parts of a proof, laid together: EnFacts, EnR. -/
import Derived.Test.YtiojapdolljocaaGreatChecked
import Derived.KernelRfl
import Derived.Test.YtiojapdolljocaaGreatqBw7
set_option linter.unusedSimpArgs false
set_option maxHeartbeats 8000000
set_option linter.unusedVariables false
set_option linter.unusedSectionVars false
section
set_option maxRecDepth 100000
namespace Go.Proofs
open Go
@[simp] theorem Tryz.dmf0 : (Dm.tAgg Tryz.prog 3=some false)/\(Dm.tCells Tryz.prog 3=some 1)/\(Dm.tBool Tryz.prog 3=false)/\(Dm.tSl Tryz.prog 3=false)/\(Dm.tPtr Tryz.prog 3=false)/\(Dm.tZero Tryz.prog 3=some [.int .i64 0])/\(Dm.tAgg Tryz.prog 4=some false)/\(Dm.tCells Tryz.prog 4=some 1)/\(Dm.tBool Tryz.prog 4=true)/\(Dm.tAgg Tryz.prog 9=some false)/\(Dm.tCells Tryz.prog 9=some 1)/\(Dm.tStr Tryz.prog 9=true)/\(Dm.tElem Tryz.prog 22=some (2,40))/\(Dm.tAgg Tryz.prog 24=some true)/\(Dm.tCells Tryz.prog 24=some 2)/\(Dm.tZero Tryz.prog 24=some [.bool false,.int .i64 0])/\(Dm.tField Tryz.prog 24 0=some (0,1,false))/\(Dm.tField Tryz.prog 24 1=some (1,1,false))/\(Dm.flatA Tryz.prog 24=some [.b,.i .i64])/\(Dm.tParts Tryz.prog 24=true):=by (repeat' apply And.intro)<;>kernel_rfl
@[simp] theorem Tryz.dmf1 : (Dm.tAgg Tryz.prog 28=some false)/\(Dm.tCells Tryz.prog 28=some 1)/\(Dm.tElem Tryz.prog 28=some (1,8))/\(Dm.tSl Tryz.prog 28=true)/\(Dm.tElemId Tryz.prog 28=some 3)/\(Dm.tElemZ Tryz.prog 28=true)/\(Dm.zeroOK Tryz.prog 28=true)/\(Dm.tAgg Tryz.prog 29=some false)/\(Dm.tCells Tryz.prog 29=some 1)/\(Dm.tElem Tryz.prog 29=some (4,32))/\(Dm.tElemId Tryz.prog 29=some 39)/\(Dm.tElemZ Tryz.prog 29=true)/\(Dm.zeroOK Tryz.prog 29=true)/\(Dm.tZeroE Tryz.prog 29=some [.int .i64 0,.bool false,.int .i64 0,.int .i64 0])/\(Dm.tAgg Tryz.prog 39=some true)/\(Dm.tCells Tryz.prog 39=some 4)/\(Dm.tZero Tryz.prog 39=some [.int .i64 0,.bool false,.int .i64 0,.int .i64 0])/\(Dm.tField Tryz.prog 39 0=some (0,1,false))/\(Dm.tField Tryz.prog 39 1=some (1,2,true))/\(Dm.tField Tryz.prog 39 2=some (3,1,false)):=by (repeat' apply And.intro)<;>kernel_rfl
@[simp] theorem Tryz.dmf2 : (Dm.flatA Tryz.prog 39=some [.i .i64,.b,.i .i64,.i .i64])/\(Dm.tParts Tryz.prog 39=true)/\(Dm.tAgg Tryz.prog 40=some false)/\(Dm.tCells Tryz.prog 40=some 1)/\(Dm.tAgg Tryz.prog 43=some false)/\(Dm.tCells Tryz.prog 43=some 1)/\(Dm.tPtr Tryz.prog 43=true)/\(Dm.tAgg Tryz.prog 46=some false)/\(Dm.tCells Tryz.prog 46=some 1)/\(Dm.tElem Tryz.prog 46=some (1,16))/\(Dm.tSl Tryz.prog 46=true)/\(Dm.tElemId Tryz.prog 46=some 9)/\(Dm.tElemZ Tryz.prog 46=true)/\(Dm.zeroOK Tryz.prog 46=true)/\(Dm.tAgg Tryz.prog 49=some true)/\(Dm.tCells Tryz.prog 49=some 3)/\(Dm.tZero Tryz.prog 49=some [.int .i64 0,.nilsl,.nilsl])/\(Dm.tField Tryz.prog 49 0=some (0,1,false))/\(Dm.tField Tryz.prog 49 1=some (1,1,false))/\(Dm.tField Tryz.prog 49 2=some (2,1,false)):=by (repeat' apply And.intro)<;>kernel_rfl
@[simp] theorem Tryz.dmf3 : (Dm.tParts Tryz.prog 49=true)/\(Dm.tElem Tryz.prog 53=some (1,24))/\(Dm.tElemId Tryz.prog 53=some 63)/\(Dm.tElemZ Tryz.prog 53=true)/\(Dm.zeroOK Tryz.prog 53=true)/\(Dm.tAgg Tryz.prog 59=some false)/\(Dm.tCells Tryz.prog 59=some 1)/\(Dm.tAgg Tryz.prog 63=some false)/\(Dm.tCells Tryz.prog 63=some 1)/\(Dm.tElem Tryz.prog 63=some (3,32))/\(Dm.tSl Tryz.prog 63=true)/\(Dm.tElemId Tryz.prog 63=some 68)/\(Dm.tElemZ Tryz.prog 63=true)/\(Dm.zeroOK Tryz.prog 63=true)/\(Dm.tAgg Tryz.prog 65=some true)/\(Dm.tCells Tryz.prog 65=some 2)/\(Dm.tZero Tryz.prog 65=some [.str ⟨#[]⟩,.nilsl])/\(Dm.tField Tryz.prog 65 0=some (0,1,false))/\(Dm.tField Tryz.prog 65 1=some (1,1,false))/\(Dm.tAgg Tryz.prog 66=some false):=by (repeat' apply And.intro)<;>kernel_rfl
@[simp] theorem Tryz.dmf4 : (Dm.tCells Tryz.prog 66=some 1)/\(Dm.tAgg Tryz.prog 68=some true)/\(Dm.tCells Tryz.prog 68=some 3)/\(Dm.tZero Tryz.prog 68=some [.int .i64 0,.str ⟨#[]⟩,.int .i64 0])/\(Dm.tField Tryz.prog 68 0=some (0,1,false))/\(Dm.tField Tryz.prog 68 1=some (1,1,false))/\(Dm.tField Tryz.prog 68 2=some (2,1,false))/\(Dm.tParts Tryz.prog 68=true)/\(Dm.tAgg Tryz.prog 73=some false)/\(Dm.tCells Tryz.prog 73=some 1)/\(Dm.tElem Tryz.prog 73=some (2,16))/\(Dm.tElemId Tryz.prog 73=some 24)/\(Dm.tElemZ Tryz.prog 73=true)/\(Dm.zeroOK Tryz.prog 73=true)/\(Dm.tAgg Tryz.prog 100=some false)/\(Dm.tCells Tryz.prog 100=some 1)/\(Dm.tMp Tryz.prog 100=true)/\(Dm.tMap Tryz.prog 100=some (104,3))/\(Dm.tZeroD Tryz.prog 3=some (.int .i64 0))/\(Dm.tZero Tryz.prog 102=some [.nilsl,.nilsl,.nilmp]):=by (repeat' apply And.intro)<;>kernel_rfl
@[simp] theorem Tryz.dmf5 : (Dm.tField Tryz.prog 102 0=some (0,1,false))/\(Dm.tField Tryz.prog 102 1=some (1,1,false))/\(Dm.tField Tryz.prog 102 2=some (2,1,false))/\(Dm.tParts Tryz.prog 102=true)/\(Dm.tAgg Tryz.prog 104=some true)/\(Dm.tCells Tryz.prog 104=some 2)/\(Dm.tZero Tryz.prog 104=some [.bool false,.str ⟨#[]⟩])/\(Dm.tField Tryz.prog 104 0=some (0,1,false))/\(Dm.tField Tryz.prog 104 1=some (1,1,false))/\(Dm.flat Tryz.prog 10000 104=some [.b,.s])/\(Dm.tParts Tryz.prog 104=true)/\(Dm.tZero Tryz.prog 115=some [.nilsl,.nilsl])/\(Dm.tField Tryz.prog 115 0=some (0,1,false))/\(Dm.tField Tryz.prog 115 1=some (1,1,false))/\(Dm.tParts Tryz.prog 115=true)/\(Dm.tAgg Tryz.prog 117=some true)/\(Dm.tCells Tryz.prog 117=some 3)/\(Dm.tZero Tryz.prog 117=some [.bool false,.nilsl,.nilsl])/\(Dm.tField Tryz.prog 117 0=some (0,1,false))/\(Dm.tField Tryz.prog 117 1=some (1,1,false)):=by (repeat' apply And.intro)<;>kernel_rfl
@[simp] theorem Tryz.dmf6 : (Dm.tField Tryz.prog 117 2=some (2,1,false))/\(Dm.tParts Tryz.prog 117=true)/\(Dm.tAgg Tryz.prog 135=some false)/\(Dm.tCells Tryz.prog 135=some 1)/\(Dm.tElem Tryz.prog 135=some (1,1))/\(Dm.tZero Tryz.prog 135=some [.nilsl])/\(Dm.tElemId Tryz.prog 135=some 4)/\(Dm.tZeroE Tryz.prog 135=some [.bool false])/\(Dm.tElem Tryz.prog 153=some (2,16))/\(Dm.tElemZ Tryz.prog 153=true)/\(Dm.tAgg Tryz.prog 156=some true)/\(Dm.tCells Tryz.prog 156=some 2)/\(Dm.tZero Tryz.prog 156=some [.nilfn,.int .i64 0])/\(Dm.tField Tryz.prog 156 0=some (0,1,false))/\(Dm.tField Tryz.prog 156 1=some (1,1,false))/\(Dm.tParts Tryz.prog 156=true)/\(Dm.tMap Tryz.prog 161=some (9,3))/\(Dm.flat Tryz.prog 10000 9=some [.s])/\(Dm.tAgg Tryz.prog 191=some false)/\(Dm.tCells Tryz.prog 191=some 1):=by (repeat' apply And.intro)<;>kernel_rfl
@[simp] theorem Tryz.dmf7 : (Dm.tElem Tryz.prog 203=some (1,24))/\(Dm.tElemZ Tryz.prog 203=true)/\(Dm.tAgg Tryz.prog 230=some false)/\(Dm.tCells Tryz.prog 230=some 1)/\(Dm.tElem Tryz.prog 230=some (1,1))/\(Dm.tElemId Tryz.prog 230=some 5)/\(Dm.zeroOK Tryz.prog 230=true)/\(Dm.tZero Tryz.prog 232=some [.nilp,.nilsl])/\(Dm.tField Tryz.prog 232 1=some (1,1,false)):=by (repeat' apply And.intro)<;>kernel_rfl
end Go.Proofs
end
section
namespace Go.Dm
variable [DMode]
def Kb (φ:Nat->Nat->Option (Nat×Nat)):DVal->DVal
 | .osl i r=>match φ i r with | some p=> .osl p.1 p.2 | none=> .any
 | .vw i r k bs a n=>match φ i r with | some p=> .vw p.1 p.2 k bs a n | none=> .any
 | .bx i r off=>match φ i r with | some p=> .bx p.1 p.2 off | none=> .any
 | .rx i r k a b=>match φ i r with | some p=> .rx p.1 p.2 k a b | none=> .any
 | .omp i r=>match φ i r with | some p=> .omp p.1 p.2 | none=> .any
 | .pk i r=>match φ i r with | some p=> .pk p.1 p.2 | none=> .any
 | d=>d
def okR : DVal->Prop
 | .osl _ _ | .vw _ _ _ _ _ _ | .bx _ _ _ | .rx _ _ _ _ _ | .omp _ _ | .pk _ _=>True
 | d=>mx d=0
def Wr : List DVal->Prop
 | []=>True
 | d::ds=>okR d/\Wr ds
def LC (φ:Nat->Nat->Option (Nat×Nat)):DVal->DVal
 | .fn f us cs=> .fn f (us.map (Kb φ)) (cs.map (Kb φ))
 | d=>Kb φ d
def ok2 : DVal->Prop
 | .fn _ us cs=>Wr us/\Wr cs
 | d=>okR d
def Oj : List DVal->Prop
 | []=>True
 | d::ds=>ok2 d/\Oj ds
def Ua (φ:Nat->Nat->Option (Nat×Nat)):DVal->DVal
 | .agg cs=> .agg (cs.map (LC φ))
 | d=>LC φ d
def ok3 : DVal->Prop
 | .agg cs=>Oj cs
 | d=>ok2 d
def Wu : List DVal->Prop
 | []=>True
 | d::ds=>ok3 d/\Wu ds
def GC (φ:Nat->Nat->Option (Nat×Nat)):DVal->DVal
 | .tup cs=> .tup (cs.map (Ua φ))
 | d=>Ua φ d
def Us : DVal->Prop
 | .tup cs=>Wu cs
 | d=>ok3 d
def ZR : List (List DVal)->Prop
 | []=>True
 | cs::es=>Oj cs/\ZR es
def IM (φ:Nat->Nat->Option (Nat×Nat)):List (List DVal)->List (List DVal)
 | []=>[]
 | cs::es=>cs.map (LC φ)::IM φ es
def Iq (φ:Nat->Nat->Option (Nat×Nat)):DObj->DObj
 | .box cs=> .box (cs.map (LC φ))
 | .row et k bs es=>if Bq es=0 then .row et k bs es else .row et k bs (IM φ es)
 | o=>o
def Zg : DObj->Prop
 | .box cs=>Oj cs
 | .row _ _ _ es=>Bq es=0\/ZR es
 | .map ks vs=>AJ ks=0/\AJ vs=0
 | .abs _=>True
section
variable {cur cur' : EF} {M M' : List Nat} {h h' : Array Obj} {φ : Nat -> Nat -> Option (Nat × Nat)}
def Gf (cur cur':EF) (φ:Nat->Nat->Option (Nat×Nat)):Prop:=∀i r p l,φ i r=some p->cur' p.1 p.2=some l->cur i r=some l
theorem iF (W:Weak cur cur' M M' h h' 0) (L:Gf cur cur' φ) {d:DVal} {v:Value} (hk:okR d) (hr:rd cur M h d v):rd cur' M' h' (Kb φ d) v:=by
 cases d with
 | osl i r =>
  simp only[Kb]
  split
  ·rename_i p hp;simp only[rd]at hr |-;exact fun l hl=>hr l (L i r p l hp hl)
  ·simp[rd]
 | bx i r off =>
  simp only[Kb]
  split
  ·rename_i p hp;simp only[rd]at hr |-;exact fun l hl=>hr l (L i r p l hp hl)
  ·simp[rd]
 | vw i r k bs x n =>
  simp only[Kb]
  split
  ·rename_i p hp;simp only[rd]at hr |-;exact fun l hl=>hr l (L i r p l hp hl)
  ·simp[rd]
 | rx i r k a b =>
  simp only[Kb]
  split
  ·rename_i p hp;simp only[rd]at hr |-;exact fun l hl=>hr l (L i r p l hp hl)
  ·simp[rd]
 | omp i r =>
  simp only[Kb]
  split
  ·rename_i p hp;simp only[rd]at hr |-;exact fun l hl=>hr l (L i r p l hp hl)
  ·simp[rd]
 | pk i r =>
  simp only[Kb]
  split
  ·rename_i p hp;simp only[rd]at hr |-;exact fun l hl=>hr l (L i r p l hp hl)
  ·simp[rd]
 | _=>simp only[okR]at hk;simp only[Kb];exact Ch W _ v (cU0 hk) hr
theorem PL (W:Weak cur cur' M M' h h' 0) (L:Gf cur cur' φ):∀{ds:List DVal} {vs:List Value},Wr ds->Aw cur M h ds vs->Aw cur' M' h' (ds.map (Kb φ)) vs
 | [],vs,_,hr=>by simpa[Aw]using hr
 | d::ds,vs,hk,hr=>by
  simp only[Wr]at hk;simp only[Aw,List.map_cons]at hr |-;obtain⟨v,r,rfl,h1,h2⟩:=hr;exact⟨v,r,rfl,iF W L hk.1 h1,PL W L hk.2 h2⟩
theorem Ub (W:Weak cur cur' M M' h h' 0) (L:Gf cur cur' φ) {d:DVal} {v:Value} (hk:ok2 d) (hr:rd cur M h d v):rd cur' M' h' (LC φ d) v:=by
 cases d with
 | fn f us cs =>
  simp only[ok2]at hk;simp only[LC,rd]at hr |-;obtain⟨us',cs',h1,h2,h3⟩:=hr;exact⟨us',cs',h1,PL W L hk.1 h2,PL W L hk.2 h3⟩
 | _=>exact iF W L (by simpa only[ok2]using hk) hr
theorem Wc (W:Weak cur cur' M M' h h' 0) (L:Gf cur cur' φ):∀{ds:List DVal} {vs:List Value},Oj ds->Aw cur M h ds vs->Aw cur' M' h' (ds.map (LC φ)) vs
 | [],vs,_,hr=>by simpa[Aw]using hr
 | d::ds,vs,hk,hr=>by
  simp only[Oj]at hk;simp only[Aw,List.map_cons]at hr |-;obtain⟨v,r,rfl,h1,h2⟩:=hr;exact⟨v,r,rfl,Ub W L hk.1 h1,Wc W L hk.2 h2⟩
theorem PN (W:Weak cur cur' M M' h h' 0) (L:Gf cur cur' φ):∀{ds:List DVal} {arr:Array Value} {o:Nat},Oj ds->Dv cur M h ds arr o->Dv cur' M' h' (ds.map (LC φ)) arr o
 | [],_,_,_,_=>by simp[Dv]
 | d::ds,arr,o,hk,hr=>by
  simp only[Oj]at hk;simp only[Dv,List.map_cons]at hr |-;obtain⟨⟨v,h1,h2,h3⟩,h4⟩:=hr;exact⟨⟨v,h1,h2,Ub W L hk.1 h3⟩,PN W L hk.2 h4⟩
theorem iG (W:Weak cur cur' M M' h h' 0) (L:Gf cur cur' φ) {d:DVal} {v:Value} (hk:ok3 d) (hr:rd cur M h d v):rd cur' M' h' (Ua φ d) v:=by
 cases d with
 | agg cs =>
  simp only[ok3]at hk;simp only[Ua,rd]at hr |-;obtain⟨us,h1,h2⟩:=hr;exact⟨us,h1,Wc W L hk h2⟩
 | _=>exact Ub W L (by simpa only[ok3]using hk) hr
theorem Wb (W:Weak cur cur' M M' h h' 0) (L:Gf cur cur' φ):∀{ds:List DVal} {vs:List Value},Wu ds->Aw cur M h ds vs->Aw cur' M' h' (ds.map (Ua φ)) vs
 | [],vs,_,hr=>by simpa[Aw]using hr
 | d::ds,vs,hk,hr=>by
  simp only[Wu]at hk;simp only[Aw,List.map_cons]at hr |-;obtain⟨v,r,rfl,h1,h2⟩:=hr;exact⟨v,r,rfl,iG W L hk.1 h1,Wb W L hk.2 h2⟩
theorem OO (W:Weak cur cur' M M' h h' 0) (L:Gf cur cur' φ) {d:DVal} {v:Value} (hk:Us d) (hr:rd cur M h d v):rd cur' M' h' (GC φ d) v:=by
 cases d with
 | tup cs =>
  simp only[Us]at hk;simp only[GC,rd]at hr |-;obtain⟨us,h1,h2⟩:=hr;exact⟨us,h1,Wb W L hk h2⟩
 | _=>exact iG W L (by simpa only[Us]using hk) hr
theorem We (W:Weak cur cur' M M' h h' 0) (L:Gf cur cur' φ) {k:Nat}:∀{es:List (List DVal)} {arr:Array Value} {o:Nat},ZR es->Ec cur M h k es arr o->Ec cur' M' h' k (IM φ es) arr o
 | [],_,_,_,_=>by simp[IM,Ec]
 | cs::es,arr,o,hk,hr=>by
  simp only[ZR]at hk;simp only[Ec,IM]at hr |-;exact⟨by simpa using hr.1,PN W L hk.1 hr.2.1,We W L hk.2 hr.2.2⟩
theorem MI (φ:Nat->Nat->Option (Nat×Nat)) (es:List (List DVal)):(IM φ es).length=es.length:=by
 induction es with
 | nil=>rfl
 | cons c l ih=>simp[IM,ih]
theorem JW (W:Weak cur cur' M M' h h' 0) (L:Gf cur cur' φ) {l l':Loc} {obj:DObj} (hk:Zg obj) (hl:l'=l)
  (keep:∀b o,b∈l.blks->h[b]? =some o->h'[b]? =some o) (ho:Gy cur M h l obj):Gy cur' M' h' l' (Iq φ obj):=by
 subst hl
 cases obj with
 | box cs =>
  simp only[Zg]at hk;obtain⟨b,arr,ty,h1,h2,h3,h4⟩:=ho;exact⟨b,arr,ty,h1,keep b _ (by simp[h1]) h2,by simp[h3],PN W L hk h4⟩
 | row et k bs es =>
  simp only[Iq]
  split
  ·rename_i h0;exact Bd W (by simp[EP,h0]) keep ho
  ·rename_i h0;simp only[Zg]at hk;have hk:=hk.resolve_left h0;obtain⟨hb,ho⟩:=ho;refine⟨by rw[MI];exact hb,?_⟩
   rcases ho with ⟨rfl,h1,h2⟩ | ⟨b,arr,cap,h1,h2,h3,h4,h5,h6,h7⟩
   ·exact .inl ⟨rfl,h1,h2⟩
   ·exact .inr ⟨b,arr,cap,h1,by rw[MI];exact h2,keep b _ (by simp[h1]) h3,by rw[MI];exact h4,h5,h6,We W L hk h7⟩
 | map ks vs=>exact Bd W (by simp only[Zg]at hk;simp[Iq,EP,hk]) keep ho
 | abs A=>exact Bd W (by simp[Iq,EP]) keep ho
end
def pD (P:Program):Fn->Prop
 | .func g=>Enters P g
 | _=>True
def Bl (P:Program) (f:Fn) (args:List DVal) (own:List Ent) (d:DVal) (own':List Ent):Prop :=
 (∀e∈own',e.r<=1)/\pD P f/\∀(M:List Nat) (w:World) (loc:Nat->Loc) (vs:Array Value),St own loc M w.heap->Aw (Ab own loc) (Aa own loc++M) w.heap args vs.toList ->
  JA P f vs w fun v w'=>∃loc',St own' loc' M w'.heap/\Upd (Aa own loc) w w'/\(∀b∈Aa own' loc',b∈Aa own loc\/w.heap.size<=b) /\
   (∀e∈own',e.r<1->Ab own loc e.id e.r=some (loc' e.id))/\rd (Ab own' loc') (Aa own' loc'++M) w'.heap d v
def BM (own:List Ent):List (Nat×Nat×Nat)->Nat->Nat->Option (Nat×Nat)
 | [],_,_=>none
 | (i,j,v)::ρ,i',r'=>if i'=i then (match Aj own i with | some e=>if r'=e.r then some (j,v)else none | none=>none)else BM own ρ i' r'
def KL (own:List Ent) (φ:Nat->Nat->Option (Nat×Nat)):List (Nat×Nat×Nat)->Option (List Ent)
 | []=>some []
 | (i,j,v)::ρ=>match Aj own i,KL own φ ρ with
  | some e,some l=>some (⟨j,v,Iq φ e.obj⟩::l)
  | _,_=>none
def LG (own:List Ent):List (Nat×Nat×Nat)->Prop
 | []=>True
 | (i,j,v)::ρ=>(match Aj own i with | some e=>Zg e.obj/\(v=1\/(v=0/\i=j/\e.r=0)) | none=>False)/\LG own ρ
section
variable {own : List Ent}
theorem HK : ∀{ρ:List (Nat×Nat×Nat)} {i r:Nat} {p:Nat×Nat},BM own ρ i r=some p->∃e,(i,p.1,p.2)∈ρ/\Aj own i=some e/\e.r=r
 | [],i,r,p,h=>by simp[BM]at h
 | (i0,j,v)::ρ,i,r,p,h=>by
  simp only[BM]at h
  split at h
  ·rename_i hi;subst hi
   split at h
   ·rename_i e he
    split at h
    ·rename_i hr;simp only[aA0]at h;subst h;exact⟨e,aK0,he,hr.symm⟩
    ·simp at h
   ·simp at h
  ·obtain⟨e,h1,h2,h3⟩:=HK h;exact⟨e,aI0 _ h1,h2,h3⟩
theorem LH {φ:Nat->Nat->Option (Nat×Nat)}:∀{ρ:List (Nat×Nat×Nat)} {l:List Ent},KL own φ ρ=some l->(∀x∈l,∃i j v e,(i,j,v)∈ρ/\Aj own i=some e/\x=⟨j,v,Iq φ e.obj⟩)/\l.map (·.id)=ρ.map (·.2.1)
 | [],l,h=>by simp only[KL,aA0]at h;subst h;simp
 | (i,j,v)::ρ,l,h=>by
  simp only[KL]at h
  split at h
  ·rename_i e l' he wY;simp only[aA0]at h;subst h;obtain⟨h1,h2⟩:=LH wY;refine⟨fun x hx=> ?_,by simp[h2]⟩
   rcases aL0.1 hx with rfl | hx
   ·exact⟨i,j,v,e,aK0,he,rfl⟩
   ·obtain⟨i',j',v',e',g1,g2,g3⟩:=h1 x hx;exact⟨i',j',v',e',aI0 _ g1,g2,g3⟩
  ·simp at h
theorem JJ : ∀{ρ:List (Nat×Nat×Nat)},LG own ρ->∀i j v,(i,j,v)∈ρ->∃e,Aj own i=some e/\Zg e.obj/\(v=1\/(v=0/\i=j/\e.r=0))
 | [],_,i,j,v,hm=>by cases hm
 | (i0,j0,v0)::ρ,h,i,j,v,hm=>by
  simp only[LG]at h
  rcases aL0.1 hm with heq | hm
  ·simp only[aR0]at heq;obtain⟨rfl,rfl,rfl⟩:=heq;have h1:=h.1
   split at h1
   ·rename_i e he;exact⟨e,he,h1⟩
   ·exact h1.elim
  ·exact JJ h.2 i j v hm
end
end Go.Dm
end
