/- Parts of a proof, laid together: EnFacts, EnR. -/
import Derived.Test.YtbpmiknobocjoaaGreatChecked
import Derived.KernelRfl
import Derived.Test.YtbpmiknobocjoaaGreatqAp9
set_option linter.unusedSimpArgs false
set_option maxHeartbeats 8000000
set_option linter.unusedVariables false
set_option linter.unusedSectionVars false
section
set_option maxRecDepth 100000
namespace Go.Proofs
open Go
@[simp] theorem Tryz.dmf0 : (Dm.tAgg Tryz.prog 3=some false)/\(Dm.tCells Tryz.prog 3=some 1)/\(Dm.tBool Tryz.prog 3=false)/\(Dm.tSl Tryz.prog 3=false)/\(Dm.tPtr Tryz.prog 3=false)/\(Dm.tZero Tryz.prog 3=some [.int .i64 0])/\(Dm.tAgg Tryz.prog 4=some false)/\(Dm.tCells Tryz.prog 4=some 1)/\(Dm.tBool Tryz.prog 4=true)/\(Dm.tAgg Tryz.prog 9=some false)/\(Dm.tCells Tryz.prog 9=some 1)/\(Dm.tStr Tryz.prog 9=true)/\(Dm.tElem Tryz.prog 22=some (2,40))/\(Dm.tElemId Tryz.prog 22=some 33)/\(Dm.tElemZ Tryz.prog 22=true)/\(Dm.zeroOK Tryz.prog 22=true)/\(Dm.tPtr Tryz.prog 24=true)/\(Dm.tAgg Tryz.prog 25=some false)/\(Dm.tCells Tryz.prog 25=some 1)/\(Dm.tAgg Tryz.prog 31=some false):=by (repeat' apply And.intro)<;>kernel_rfl
@[simp] theorem Tryz.dmf1 : (Dm.tCells Tryz.prog 31=some 1)/\(Dm.tElem Tryz.prog 31=some (3,32))/\(Dm.tSl Tryz.prog 31=true)/\(Dm.tElemId Tryz.prog 31=some 36)/\(Dm.tElemZ Tryz.prog 31=true)/\(Dm.zeroOK Tryz.prog 31=true)/\(Dm.tAgg Tryz.prog 33=some true)/\(Dm.tCells Tryz.prog 33=some 2)/\(Dm.tZero Tryz.prog 33=some [.str ⟨#[]⟩,.nilsl])/\(Dm.tField Tryz.prog 33 0=some (0,1,false))/\(Dm.tField Tryz.prog 33 1=some (1,1,false))/\(Dm.tParts Tryz.prog 33=true)/\(Dm.tAgg Tryz.prog 34=some false)/\(Dm.tCells Tryz.prog 34=some 1)/\(Dm.tAgg Tryz.prog 36=some true)/\(Dm.tCells Tryz.prog 36=some 3)/\(Dm.tZero Tryz.prog 36=some [.int .i64 0,.str ⟨#[]⟩,.int .i64 0])/\(Dm.tField Tryz.prog 36 0=some (0,1,false))/\(Dm.tField Tryz.prog 36 1=some (1,1,false))/\(Dm.tField Tryz.prog 36 2=some (2,1,false)):=by (repeat' apply And.intro)<;>kernel_rfl
@[simp] theorem Tryz.dmf2 : (Dm.tParts Tryz.prog 36=true)/\(Dm.tAgg Tryz.prog 37=some false)/\(Dm.tCells Tryz.prog 37=some 1)/\(Dm.tElem Tryz.prog 37=some (4,32))/\(Dm.tSl Tryz.prog 37=true)/\(Dm.tElemId Tryz.prog 37=some 42)/\(Dm.tElemZ Tryz.prog 37=true)/\(Dm.zeroOK Tryz.prog 37=true)/\(Dm.tZeroE Tryz.prog 37=some [.int .i64 0,.bool false,.int .i64 0,.int .i64 0])/\(Dm.tAgg Tryz.prog 40=some true)/\(Dm.tCells Tryz.prog 40=some 2)/\(Dm.tZero Tryz.prog 40=some [.bool false,.int .i64 0])/\(Dm.tField Tryz.prog 40 0=some (0,1,false))/\(Dm.tField Tryz.prog 40 1=some (1,1,false))/\(Dm.flatA Tryz.prog 40=some [.b,.i .i64])/\(Dm.tParts Tryz.prog 40=true)/\(Dm.tAgg Tryz.prog 42=some true)/\(Dm.tCells Tryz.prog 42=some 4)/\(Dm.tZero Tryz.prog 42=some [.int .i64 0,.bool false,.int .i64 0,.int .i64 0])/\(Dm.tField Tryz.prog 42 0=some (0,1,false)):=by (repeat' apply And.intro)<;>kernel_rfl
@[simp] theorem Tryz.dmf3 : (Dm.tField Tryz.prog 42 1=some (1,2,true))/\(Dm.tField Tryz.prog 42 2=some (3,1,false))/\(Dm.flatA Tryz.prog 42=some [.i .i64,.b,.i .i64,.i .i64])/\(Dm.tParts Tryz.prog 42=true)/\(Dm.tAgg Tryz.prog 43=some false)/\(Dm.tCells Tryz.prog 43=some 1)/\(Dm.tElem Tryz.prog 43=some (1,8))/\(Dm.tSl Tryz.prog 43=true)/\(Dm.tElemId Tryz.prog 43=some 3)/\(Dm.tElemZ Tryz.prog 43=true)/\(Dm.zeroOK Tryz.prog 43=true)/\(Dm.tAgg Tryz.prog 45=some true)/\(Dm.tCells Tryz.prog 45=some 3)/\(Dm.tZero Tryz.prog 45=some [.int .i64 0,.nilsl,.nilsl])/\(Dm.tField Tryz.prog 45 0=some (0,1,false))/\(Dm.tField Tryz.prog 45 1=some (1,1,false))/\(Dm.tField Tryz.prog 45 2=some (2,1,false))/\(Dm.tParts Tryz.prog 45=true)/\(Dm.tAgg Tryz.prog 48=some false)/\(Dm.tCells Tryz.prog 48=some 1):=by (repeat' apply And.intro)<;>kernel_rfl
@[simp] theorem Tryz.dmf4 : (Dm.tElem Tryz.prog 48=some (3,56))/\(Dm.tElemId Tryz.prog 48=some 45)/\(Dm.tElemZ Tryz.prog 48=true)/\(Dm.zeroOK Tryz.prog 48=true)/\(Dm.tAgg Tryz.prog 50=some true)/\(Dm.tCells Tryz.prog 50=some 6)/\(Dm.tZero Tryz.prog 50=some [.int .i64 0,.nilsl,.nilsl,.nilsl,.nilsl,.nilsl])/\(Dm.tField Tryz.prog 50 0=some (0,1,false))/\(Dm.tField Tryz.prog 50 1=some (1,1,false))/\(Dm.tField Tryz.prog 50 2=some (2,1,false))/\(Dm.tField Tryz.prog 50 3=some (3,1,false))/\(Dm.tField Tryz.prog 50 4=some (4,1,false))/\(Dm.tField Tryz.prog 50 5=some (5,1,false))/\(Dm.tAgg Tryz.prog 57=some false)/\(Dm.tCells Tryz.prog 57=some 1)/\(Dm.tPtr Tryz.prog 57=true)/\(Dm.tAgg Tryz.prog 60=some false)/\(Dm.tCells Tryz.prog 60=some 1)/\(Dm.tElem Tryz.prog 60=some (4,64))/\(Dm.tElemId Tryz.prog 60=some 69):=by (repeat' apply And.intro)<;>kernel_rfl
@[simp] theorem Tryz.dmf5 : (Dm.tElemZ Tryz.prog 60=true)/\(Dm.zeroOK Tryz.prog 60=true)/\(Dm.tZero Tryz.prog 62=some [.nilp,.nilsl,.int .i64 0])/\(Dm.tField Tryz.prog 62 0=some (0,1,false))/\(Dm.tField Tryz.prog 62 1=some (1,1,false))/\(Dm.tField Tryz.prog 62 2=some (2,1,false))/\(Dm.tParts Tryz.prog 62=true)/\(Dm.tAgg Tryz.prog 63=some false)/\(Dm.tCells Tryz.prog 63=some 1)/\(Dm.tElem Tryz.prog 63=some (1,16))/\(Dm.tSl Tryz.prog 63=true)/\(Dm.tElemId Tryz.prog 63=some 9)/\(Dm.tElemZ Tryz.prog 63=true)/\(Dm.zeroOK Tryz.prog 63=true)/\(Dm.tElem Tryz.prog 66=some (1,24))/\(Dm.tElemId Tryz.prog 66=some 31)/\(Dm.tElemZ Tryz.prog 66=true)/\(Dm.zeroOK Tryz.prog 66=true)/\(Dm.tAgg Tryz.prog 69=some true)/\(Dm.tCells Tryz.prog 69=some 4):=by (repeat' apply And.intro)<;>kernel_rfl
@[simp] theorem Tryz.dmf6 : (Dm.tZero Tryz.prog 69=some [.int .i64 0,.nilsl,.nilsl,.int .i64 0])/\(Dm.tField Tryz.prog 69 0=some (0,3,true))/\(Dm.tField Tryz.prog 69 1=some (3,1,false))/\(Dm.tParts Tryz.prog 69=true)/\(Dm.tAgg Tryz.prog 70=some false)/\(Dm.tCells Tryz.prog 70=some 1)/\(Dm.tAgg Tryz.prog 85=some false)/\(Dm.tCells Tryz.prog 85=some 1)/\(Dm.tMp Tryz.prog 85=true)/\(Dm.tMap Tryz.prog 85=some (89,3))/\(Dm.tZeroD Tryz.prog 3=some (.int .i64 0))/\(Dm.tZero Tryz.prog 87=some [.nilsl,.nilsl,.nilmp])/\(Dm.tField Tryz.prog 87 0=some (0,1,false))/\(Dm.tField Tryz.prog 87 1=some (1,1,false))/\(Dm.tField Tryz.prog 87 2=some (2,1,false))/\(Dm.tParts Tryz.prog 87=true)/\(Dm.tAgg Tryz.prog 89=some true)/\(Dm.tCells Tryz.prog 89=some 2)/\(Dm.tZero Tryz.prog 89=some [.bool false,.str ⟨#[]⟩])/\(Dm.tField Tryz.prog 89 0=some (0,1,false)):=by (repeat' apply And.intro)<;>kernel_rfl
@[simp] theorem Tryz.dmf7 : (Dm.tField Tryz.prog 89 1=some (1,1,false))/\(Dm.flatA Tryz.prog 89=some [.b,.s])/\(Dm.tParts Tryz.prog 89=true)/\(Dm.tAgg Tryz.prog 96=some false)/\(Dm.tCells Tryz.prog 96=some 1)/\(Dm.tElem Tryz.prog 96=some (2,16))/\(Dm.tElemId Tryz.prog 96=some 40)/\(Dm.tElemZ Tryz.prog 96=true)/\(Dm.zeroOK Tryz.prog 96=true)/\(Dm.tZero Tryz.prog 98=some [.nilsl,.nilsl])/\(Dm.tField Tryz.prog 98 0=some (0,1,false))/\(Dm.tField Tryz.prog 98 1=some (1,1,false))/\(Dm.tParts Tryz.prog 98=true)/\(Dm.tAgg Tryz.prog 100=some true)/\(Dm.tCells Tryz.prog 100=some 3)/\(Dm.tZero Tryz.prog 100=some [.bool false,.nilsl,.nilsl])/\(Dm.tField Tryz.prog 100 0=some (0,1,false))/\(Dm.tField Tryz.prog 100 1=some (1,1,false))/\(Dm.tField Tryz.prog 100 2=some (2,1,false))/\(Dm.tParts Tryz.prog 100=true):=by (repeat' apply And.intro)<;>kernel_rfl
@[simp] theorem Tryz.dmf8 : (Dm.tElem Tryz.prog 119=some (2,16))/\(Dm.tElemZ Tryz.prog 119=true)/\(Dm.tAgg Tryz.prog 122=some true)/\(Dm.tCells Tryz.prog 122=some 2)/\(Dm.tZero Tryz.prog 122=some [.nilfn,.int .i64 0])/\(Dm.tField Tryz.prog 122 0=some (0,1,false))/\(Dm.tField Tryz.prog 122 1=some (1,1,false))/\(Dm.tParts Tryz.prog 122=true)/\(Dm.tMap Tryz.prog 127=some (9,3))/\(Dm.flatA Tryz.prog 9=some [.s])/\(Dm.tAgg Tryz.prog 150=some false)/\(Dm.tCells Tryz.prog 150=some 1)/\(Dm.tElem Tryz.prog 162=some (1,24))/\(Dm.tElemZ Tryz.prog 162=true)/\(Dm.tAgg Tryz.prog 189=some false)/\(Dm.tCells Tryz.prog 189=some 1)/\(Dm.tElem Tryz.prog 189=some (1,1))/\(Dm.tElemId Tryz.prog 189=some 5)/\(Dm.zeroOK Tryz.prog 189=true)/\(Dm.tZero Tryz.prog 191=some [.nilp,.nilsl]):=by (repeat' apply And.intro)<;>kernel_rfl
@[simp] theorem Tryz.dmf9 : Dm.tField Tryz.prog 191 1=some (1,1,false):=by kernel_rfl
end Go.Proofs
end
section
namespace Go.Dm
variable [DMode]
def Lp (φ:Nat->Nat->Option (Nat×Nat)):DVal->DVal
 | .osl i r=>match φ i r with | some p=> .osl p.1 p.2 | none=> .any
 | .vw i r k bs a n=>match φ i r with | some p=> .vw p.1 p.2 k bs a n | none=> .any
 | .bx i r off=>match φ i r with | some p=> .bx p.1 p.2 off | none=> .any
 | .rx i r k a b=>match φ i r with | some p=> .rx p.1 p.2 k a b | none=> .any
 | .omp i r=>match φ i r with | some p=> .omp p.1 p.2 | none=> .any
 | .pk i r=>match φ i r with | some p=> .pk p.1 p.2 | none=> .any
 | d=>d
def okR : DVal->Prop
 | .osl _ _ | .vw _ _ _ _ _ _ | .bx _ _ _ | .rx _ _ _ _ _ | .omp _ _ | .pk _ _=>True
 | d=>mx d=0
def XM : List DVal->Prop
 | []=>True
 | d::ds=>okR d/\XM ds
def Pq (φ:Nat->Nat->Option (Nat×Nat)):DVal->DVal
 | .fn f us cs=> .fn f (us.map (Lp φ)) (cs.map (Lp φ))
 | d=>Lp φ d
def Tb : DVal->Prop
 | .fn _ us cs=>XM us/\XM cs
 | d=>okR d
def QY : List DVal->Prop
 | []=>True
 | d::ds=>Tb d/\QY ds
def Vi (φ:Nat->Nat->Option (Nat×Nat)):DVal->DVal
 | .agg cs=> .agg (cs.map (Pq φ))
 | d=>Pq φ d
def ok3 : DVal->Prop
 | .agg cs=>QY cs
 | d=>Tb d
def XP : List DVal->Prop
 | []=>True
 | d::ds=>ok3 d/\XP ds
def Hy (φ:Nat->Nat->Option (Nat×Nat)):DVal->DVal
 | .tup cs=> .tup (cs.map (Vi φ))
 | d=>Vi φ d
def Vw : DVal->Prop
 | .tup cs=>XP cs
 | d=>ok3 d
def iH : List (List DVal)->Prop
 | []=>True
 | cs::es=>QY cs/\iH es
def JX (φ:Nat->Nat->Option (Nat×Nat)):List (List DVal)->List (List DVal)
 | []=>[]
 | cs::es=>cs.map (Pq φ)::JX φ es
def JB (φ:Nat->Nat->Option (Nat×Nat)):DObj->DObj
 | .box cs=> .box (cs.map (Pq φ))
 | .row et k bs es=>if Br es=0 then .row et k bs es else .row et k bs (JX φ es)
 | o=>o
def aN : DObj->Prop
 | .box cs=>QY cs
 | .row _ _ _ es=>Br es=0\/iH es
 | .map ks vs=>AJ ks=0/\AJ vs=0
 | .abs _=>True
 | .lrec .. =>False
 | .glob .. =>False
 | .mapD .. =>False
section
variable {cur cur' : ES} {M M' : List Nat} {h h' : Array Obj} {φ : Nat -> Nat -> Option (Nat × Nat)}
def GW (cur cur':ES) (φ:Nat->Nat->Option (Nat×Nat)):Prop:=∀i r p l,φ i r=some p->cur' p.1 p.2=some l->cur i r=some l
theorem rB (W:Weak cur cur' M M' h h' 0) (L:GW cur cur' φ) {d:DVal} {v:Value} (hk:okR d) (hr:rd cur M h d v):rd cur' M' h' (Lp φ d) v:=by
 cases d with
 | osl i r =>
  simp only[Lp]
  split
  ·rename_i p hp;simp only[rd]at hr |-;exact fun l hl=>hr l (L i r p l hp hl)
  ·simp[rd]
 | bx i r off =>
  simp only[Lp]
  split
  ·rename_i p hp;simp only[rd]at hr |-;exact fun l hl=>hr l (L i r p l hp hl)
  ·simp[rd]
 | vw i r k bs x n =>
  simp only[Lp]
  split
  ·rename_i p hp;simp only[rd]at hr |-;exact fun l hl=>hr l (L i r p l hp hl)
  ·simp[rd]
 | rx i r k a b =>
  simp only[Lp]
  split
  ·rename_i p hp;simp only[rd]at hr |-;exact fun l hl=>hr l (L i r p l hp hl)
  ·simp[rd]
 | omp i r =>
  simp only[Lp]
  split
  ·rename_i p hp;simp only[rd]at hr |-;exact fun l hl=>hr l (L i r p l hp hl)
  ·simp[rd]
 | pk i r =>
  simp only[Lp]
  split
  ·rename_i p hp;simp only[rd]at hr |-;exact fun l hl=>hr l (L i r p l hp hl)
  ·simp[rd]
 | _=>simp only[okR]at hk;simp only[Lp];exact Bk W _ v (dD0 hk) hr
theorem QL (W:Weak cur cur' M M' h h' 0) (L:GW cur cur' φ):∀{ds:List DVal} {vs:List Value},XM ds->rdV cur M h ds vs->rdV cur' M' h' (ds.map (Lp φ)) vs
 | [],vs,_,hr=>by simpa[rdV]using hr
 | d::ds,vs,hk,hr=>by
  simp only[XM]at hk;simp only[rdV,List.map_cons]at hr |-;obtain⟨v,r,rfl,h1,h2⟩:=hr;exact⟨v,r,rfl,rB W L hk.1 h1,QL W L hk.2 h2⟩
theorem Vj (W:Weak cur cur' M M' h h' 0) (L:GW cur cur' φ) {d:DVal} {v:Value} (hk:Tb d) (hr:rd cur M h d v):rd cur' M' h' (Pq φ d) v:=by
 cases d with
 | fn f us cs =>
  simp only[Tb]at hk;simp only[Pq,rd]at hr |-;obtain⟨us',cs',h1,h2,h3⟩:=hr;exact⟨us',cs',h1,QL W L hk.1 h2,QL W L hk.2 h3⟩
 | _=>exact rB W L (by simpa only[Tb]using hk) hr
theorem Xz (W:Weak cur cur' M M' h h' 0) (L:GW cur cur' φ):∀{ds:List DVal} {vs:List Value},QY ds->rdV cur M h ds vs->rdV cur' M' h' (ds.map (Pq φ)) vs
 | [],vs,_,hr=>by simpa[rdV]using hr
 | d::ds,vs,hk,hr=>by
  simp only[QY]at hk;simp only[rdV,List.map_cons]at hr |-;obtain⟨v,r,rfl,h1,h2⟩:=hr;exact⟨v,r,rfl,Vj W L hk.1 h1,Xz W L hk.2 h2⟩
theorem QN (W:Weak cur cur' M M' h h' 0) (L:GW cur cur' φ):∀{ds:List DVal} {arr:Array Value} {o:Nat},QY ds->rdC cur M h ds arr o->rdC cur' M' h' (ds.map (Pq φ)) arr o
 | [],_,_,_,_=>by simp[rdC]
 | d::ds,arr,o,hk,hr=>by
  simp only[QY]at hk;simp only[rdC,List.map_cons]at hr |-;obtain⟨⟨v,h1,h2,h3⟩,h4⟩:=hr;exact⟨⟨v,h1,h2,Vj W L hk.1 h3⟩,QN W L hk.2 h4⟩
theorem rC (W:Weak cur cur' M M' h h' 0) (L:GW cur cur' φ) {d:DVal} {v:Value} (hk:ok3 d) (hr:rd cur M h d v):rd cur' M' h' (Vi φ d) v:=by
 cases d with
 | agg cs =>
  simp only[ok3]at hk;simp only[Vi,rd]at hr |-;obtain⟨us,h1,h2⟩:=hr;exact⟨us,h1,Xz W L hk h2⟩
 | _=>exact Vj W L (by simpa only[ok3]using hk) hr
theorem Xy (W:Weak cur cur' M M' h h' 0) (L:GW cur cur' φ):∀{ds:List DVal} {vs:List Value},XP ds->rdV cur M h ds vs->rdV cur' M' h' (ds.map (Vi φ)) vs
 | [],vs,_,hr=>by simpa[rdV]using hr
 | d::ds,vs,hk,hr=>by
  simp only[XP]at hk;simp only[rdV,List.map_cons]at hr |-;obtain⟨v,r,rfl,h1,h2⟩:=hr;exact⟨v,r,rfl,rC W L hk.1 h1,Xy W L hk.2 h2⟩
theorem PN (W:Weak cur cur' M M' h h' 0) (L:GW cur cur' φ) {d:DVal} {v:Value} (hk:Vw d) (hr:rd cur M h d v):rd cur' M' h' (Hy φ d) v:=by
 cases d with
 | tup cs =>
  simp only[Vw]at hk;simp only[Hy,rd]at hr |-;obtain⟨us,h1,h2⟩:=hr;exact⟨us,h1,Xy W L hk h2⟩
 | _=>exact rC W L (by simpa only[Vw]using hk) hr
theorem XB (W:Weak cur cur' M M' h h' 0) (L:GW cur cur' φ) {k:Nat}:∀{es:List (List DVal)} {arr:Array Value} {o:Nat},iH es->Dt cur M h k es arr o->Dt cur' M' h' k (JX φ es) arr o
 | [],_,_,_,_=>by simp[JX,Dt]
 | cs::es,arr,o,hk,hr=>by
  simp only[iH]at hk;simp only[Dt,JX]at hr |-;exact⟨by simpa using hr.1,QN W L hk.1 hr.2.1,XB W L hk.2 hr.2.2⟩
theorem NY (φ:Nat->Nat->Option (Nat×Nat)) (es:List (List DVal)):(JX φ es).length=es.length:=by
 induction es with
 | nil=>rfl
 | cons c l ih=>simp[JX,ih]
theorem Lk (W:Weak cur cur' M M' h h' 0) (L:GW cur cur' φ) {l l':Loc} {obj:DObj} (hk:aN obj) (hl:l'=l)
  (keep:∀b o,b∈l.blks->h[b]? =some o->h'[b]? =some o) (ho:KH cur M h l obj):KH cur' M' h' l' (JB φ obj):=by
 subst hl
 cases obj with
 | box cs =>
  simp only[aN]at hk;obtain⟨b,arr,ty,h1,h2,h3,h4⟩:=ho;exact⟨b,arr,ty,h1,keep b _ (by simp[h1]) h2,by simp[h3],QN W L hk h4⟩
 | row et k bs es =>
  simp only[JB]
  split
  ·rename_i h0;exact AV W (by simp[Em,h0]) keep ho
  ·rename_i h0;simp only[aN]at hk;have hk:=hk.resolve_left h0;obtain⟨hb,ho⟩:=ho;refine⟨by rw[NY];exact hb,?_⟩
   rcases ho with ⟨rfl,h1,h2⟩ | ⟨b,arr,cap,h1,h2,h3,h4,h5,h6,h7⟩
   ·exact .inl ⟨rfl,h1,h2⟩
   ·exact .inr ⟨b,arr,cap,h1,by rw[NY];exact h2,keep b _ (by simp[h1]) h3,by rw[NY];exact h4,h5,h6,XB W L hk h7⟩
 | map ks vs=>exact AV W (by simp only[aN]at hk;simp[JB,Em,hk]) keep ho
 | abs A=>exact AV W (by simp[JB,Em]) keep ho
 | lrec=>exact hk.elim
 | glob=>exact hk.elim
 | mapD=>exact hk.elim
end
def xO (P:Program):Fn->Prop
 | .func g=>Enters P g
 | _=>True
def Bj (P:Program) (f:Fn) (args:List DVal) (own:List Ent) (d:DVal) (own':List Ent):Prop :=
 (∀e∈own',e.r<=1)/\xO P f/\∀(M:List Nat) (w:World) (loc:Nat->Loc) (vs:Array Value),St own loc M w.heap->rdV (Ac own loc) (Aa own loc++M) w.heap args vs.toList ->
  HN P f vs w fun v w'=>∃loc',St own' loc' M w'.heap/\Upd (Aa own loc) w w'/\(∀b∈Aa own' loc',b∈Aa own loc\/w.heap.size<=b) /\
   (∀e∈own',e.r<1->Ac own loc e.id e.r=some (loc' e.id))/\rd (Ac own' loc') (Aa own' loc'++M) w'.heap d v
def BT (own:List Ent):List (Nat×Nat×Nat)->Nat->Nat->Option (Nat×Nat)
 | [],_,_=>none
 | (i,j,v)::ρ,i',r'=>if i'=i then (match Ah own i with | some e=>if r'=e.r then some (j,v)else none | none=>none)else BT own ρ i' r'
def LW (own:List Ent) (φ:Nat->Nat->Option (Nat×Nat)):List (Nat×Nat×Nat)->Option (List Ent)
 | []=>some []
 | (i,j,v)::ρ=>match Ah own i,LW own φ ρ with
  | some e,some l=>some (⟨j,v,JB φ e.obj⟩::l)
  | _,_=>none
def MK (own:List Ent):List (Nat×Nat×Nat)->Prop
 | []=>True
 | (i,j,v)::ρ=>(match Ah own i with | some e=>aN e.obj/\(v=1\/(v=0/\i=j/\e.r=0)) | none=>False)/\MK own ρ
section
variable {own : List Ent}
theorem IT : ∀{ρ:List (Nat×Nat×Nat)} {i r:Nat} {p:Nat×Nat},BT own ρ i r=some p->∃e,(i,p.1,p.2)∈ρ/\Ah own i=some e/\e.r=r
 | [],i,r,p,h=>by simp[BT]at h
 | (i0,j,v)::ρ,i,r,p,h=>by
  simp only[BT]at h
  split at h
  ·rename_i hi;subst hi
   split at h
   ·rename_i e he
    split at h
    ·rename_i hr;simp only[aA0]at h;subst h;exact⟨e,aH0,he,hr.symm⟩
    ·simp at h
   ·simp at h
  ·obtain⟨e,h1,h2,h3⟩:=IT h;exact⟨e,aF0 _ h1,h2,h3⟩
theorem ML {φ:Nat->Nat->Option (Nat×Nat)}:∀{ρ:List (Nat×Nat×Nat)} {l:List Ent},LW own φ ρ=some l->(∀x∈l,∃i j v e,(i,j,v)∈ρ/\Ah own i=some e/\x=⟨j,v,JB φ e.obj⟩)/\l.map (·.id)=ρ.map (·.2.1)
 | [],l,h=>by simp only[LW,aA0]at h;subst h;simp
 | (i,j,v)::ρ,l,h=>by
  simp only[LW]at h
  split at h
  ·rename_i e l' he wW;simp only[aA0]at h;subst h;obtain⟨h1,h2⟩:=ML wW;refine⟨fun x hx=> ?_,by simp[h2]⟩
   rcases aK0.1 hx with rfl | hx
   ·exact⟨i,j,v,e,aH0,he,rfl⟩
   ·obtain⟨i',j',v',e',g1,g2,g3⟩:=h1 x hx;exact⟨i',j',v',e',aF0 _ g1,g2,g3⟩
  ·simp at h
theorem KQ : ∀{ρ:List (Nat×Nat×Nat)},MK own ρ->∀i j v,(i,j,v)∈ρ->∃e,Ah own i=some e/\aN e.obj/\(v=1\/(v=0/\i=j/\e.r=0))
 | [],_,i,j,v,hm=>by cases hm
 | (i0,j0,v0)::ρ,h,i,j,v,hm=>by
  simp only[MK]at h
  rcases aK0.1 hm with heq | hm
  ·simp only[aV0]at heq;obtain⟨rfl,rfl,rfl⟩:=heq;have h1:=h.1
   split at h1
   ·rename_i e he;exact⟨e,he,h1⟩
   ·exact h1.elim
  ·exact KQ h.2 i j v hm
end
end Go.Dm
end
