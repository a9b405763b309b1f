/- Parts of a proof, laid together: EnFacts, EnR, EnQ, EnI3, EnI4, EnJ, EnK. -/
import Derived.Test.YtchgnpnbcjflcaaGreatChecked
import Derived.KernelRfl
import Derived.Laws.CopyRow
import Derived.Lib.AppendStr
import Derived.Carry
import Derived.Test.YtchgnpnbcjflcaaGreatqDe2
set_option linter.unusedSimpArgs false
set_option maxHeartbeats 8000000
set_option linter.unusedVariables false
set_option linter.unusedSectionVars false
section
set_option maxRecDepth 100000
namespace Go.Proofs
open Go
@[simp] theorem Tryz.dmf0 : (Dm.tAgg Tryz.prog 3=some false)/\(Dm.tCells Tryz.prog 3=some 1)/\(Dm.tBool Tryz.prog 3=false)/\(Dm.tSl Tryz.prog 3=false)/\(Dm.tPtr Tryz.prog 3=false)/\(Dm.tZero Tryz.prog 3=some [.int .i64 0])/\(Dm.tAgg Tryz.prog 4=some false)/\(Dm.tCells Tryz.prog 4=some 1)/\(Dm.tBool Tryz.prog 4=true)/\(Dm.tAgg Tryz.prog 9=some false)/\(Dm.tCells Tryz.prog 9=some 1)/\(Dm.tStr Tryz.prog 9=true)/\(Dm.tAgg Tryz.prog 22=some false)/\(Dm.tCells Tryz.prog 22=some 1)/\(Dm.tElem Tryz.prog 22=some (2,40))/\(Dm.tPtr Tryz.prog 23=true)/\(Dm.tAgg Tryz.prog 24=some false)/\(Dm.tCells Tryz.prog 24=some 1)/\(Dm.tAgg Tryz.prog 27=some false)/\(Dm.tCells Tryz.prog 27=some 1):=by (repeat' apply And.intro)<;>kernel_rfl
@[simp] theorem Tryz.dmf1 : (Dm.tElem Tryz.prog 27=some (2,32))/\(Dm.tElemId Tryz.prog 27=some 92)/\(Dm.tElemZ Tryz.prog 27=true)/\(Dm.zeroOK Tryz.prog 27=true)/\(Dm.tZeroE Tryz.prog 27=some [.int .i64 0,.nilsl])/\(Dm.tAgg Tryz.prog 29=some true)/\(Dm.tCells Tryz.prog 29=some 2)/\(Dm.tZero Tryz.prog 29=some [.int .i64 0,.nilsl])/\(Dm.tField Tryz.prog 29 0=some (0,1,false))/\(Dm.tField Tryz.prog 29 1=some (1,1,false))/\(Dm.tParts Tryz.prog 29=true)/\(Dm.tAgg Tryz.prog 36=some false)/\(Dm.tCells Tryz.prog 36=some 1)/\(Dm.tElem Tryz.prog 36=some (1,8))/\(Dm.tSl Tryz.prog 36=true)/\(Dm.tElemId Tryz.prog 36=some 3)/\(Dm.tElemZ Tryz.prog 36=true)/\(Dm.zeroOK Tryz.prog 36=true)/\(Dm.tZeroE Tryz.prog 36=some [.int .i64 0])/\(Dm.tAgg Tryz.prog 37=some false):=by (repeat' apply And.intro)<;>kernel_rfl
@[simp] theorem Tryz.dmf2 : (Dm.tCells Tryz.prog 37=some 1)/\(Dm.tElem Tryz.prog 37=some (4,32))/\(Dm.tSl Tryz.prog 37=true)/\(Dm.tElemId Tryz.prog 37=some 97)/\(Dm.tElemZ Tryz.prog 37=true)/\(Dm.zeroOK Tryz.prog 37=true)/\(Dm.tZeroE Tryz.prog 37=some [.int .i64 0,.bool false,.int .i64 0,.int .i64 0])/\(Dm.tAgg Tryz.prog 42=some false)/\(Dm.tCells Tryz.prog 42=some 1)/\(Dm.tAgg Tryz.prog 46=some false)/\(Dm.tCells Tryz.prog 46=some 1)/\(Dm.tElem Tryz.prog 46=some (1,16))/\(Dm.tSl Tryz.prog 46=true)/\(Dm.tZero Tryz.prog 46=some [.nilsl])/\(Dm.tElemId Tryz.prog 46=some 9)/\(Dm.tElemZ Tryz.prog 46=true)/\(Dm.zeroOK Tryz.prog 46=true)/\(Dm.tAgg Tryz.prog 47=some false)/\(Dm.tCells Tryz.prog 47=some 1)/\(Dm.tElem Tryz.prog 47=some (3,24)):=by (repeat' apply And.intro)<;>kernel_rfl
@[simp] theorem Tryz.dmf3 : (Dm.tElemId Tryz.prog 47=some 151)/\(Dm.tElemZ Tryz.prog 47=true)/\(Dm.zeroOK Tryz.prog 47=true)/\(Dm.tAgg Tryz.prog 56=some false)/\(Dm.tCells Tryz.prog 56=some 1)/\(Dm.tElem Tryz.prog 56=some (3,48))/\(Dm.tAgg Tryz.prog 58=some true)/\(Dm.tCells Tryz.prog 58=some 2)/\(Dm.tZero Tryz.prog 58=some [.nilsl,.nilsl])/\(Dm.tField Tryz.prog 58 0=some (0,1,false))/\(Dm.tField Tryz.prog 58 1=some (1,1,false))/\(Dm.tParts Tryz.prog 58=true)/\(Dm.tAgg Tryz.prog 66=some false)/\(Dm.tCells Tryz.prog 66=some 1)/\(Dm.tPtr Tryz.prog 66=true)/\(Dm.tAgg Tryz.prog 75=some false)/\(Dm.tCells Tryz.prog 75=some 1)/\(Dm.tElem Tryz.prog 75=some (4,64))/\(Dm.tElemId Tryz.prog 75=some 86)/\(Dm.tElemZ Tryz.prog 75=true):=by (repeat' apply And.intro)<;>kernel_rfl
@[simp] theorem Tryz.dmf4 : (Dm.zeroOK Tryz.prog 75=true)/\(Dm.tZero Tryz.prog 77=some [.nilp,.nilsl,.int .i64 0])/\(Dm.tField Tryz.prog 77 0=some (0,1,false))/\(Dm.tField Tryz.prog 77 1=some (1,1,false))/\(Dm.tField Tryz.prog 77 2=some (2,1,false))/\(Dm.tParts Tryz.prog 77=true)/\(Dm.tAgg Tryz.prog 80=some true)/\(Dm.tCells Tryz.prog 80=some 3)/\(Dm.tZero Tryz.prog 80=some [.int .i64 0,.nilsl,.nilsl])/\(Dm.tField Tryz.prog 80 0=some (0,1,false))/\(Dm.tField Tryz.prog 80 1=some (1,1,false))/\(Dm.tField Tryz.prog 80 2=some (2,1,false))/\(Dm.tParts Tryz.prog 80=true)/\(Dm.tElem Tryz.prog 83=some (1,24))/\(Dm.tElemId Tryz.prog 83=some 153)/\(Dm.tElemZ Tryz.prog 83=true)/\(Dm.zeroOK Tryz.prog 83=true)/\(Dm.tAgg Tryz.prog 86=some true)/\(Dm.tCells Tryz.prog 86=some 4)/\(Dm.tZero Tryz.prog 86=some [.int .i64 0,.nilsl,.nilsl,.int .i64 0]):=by (repeat' apply And.intro)<;>kernel_rfl
@[simp] theorem Tryz.dmf5 : (Dm.tField Tryz.prog 86 0=some (0,3,true))/\(Dm.tField Tryz.prog 86 1=some (3,1,false))/\(Dm.tParts Tryz.prog 86=true)/\(Dm.tAgg Tryz.prog 90=some false)/\(Dm.tCells Tryz.prog 90=some 1)/\(Dm.tElem Tryz.prog 90=some (2,16))/\(Dm.tSl Tryz.prog 90=true)/\(Dm.tElemId Tryz.prog 90=some 95)/\(Dm.tElemZ Tryz.prog 90=true)/\(Dm.zeroOK Tryz.prog 90=true)/\(Dm.tAgg Tryz.prog 92=some true)/\(Dm.tCells Tryz.prog 92=some 2)/\(Dm.tZero Tryz.prog 92=some [.int .i64 0,.nilsl])/\(Dm.tField Tryz.prog 92 0=some (0,1,false))/\(Dm.tField Tryz.prog 92 1=some (1,1,false))/\(Dm.tParts Tryz.prog 92=true)/\(Dm.tAgg Tryz.prog 95=some true)/\(Dm.tCells Tryz.prog 95=some 2)/\(Dm.tZero Tryz.prog 95=some [.bool false,.int .i64 0])/\(Dm.tField Tryz.prog 95 0=some (0,1,false)):=by (repeat' apply And.intro)<;>kernel_rfl
@[simp] theorem Tryz.dmf6 : (Dm.tField Tryz.prog 95 1=some (1,1,false))/\(Dm.tParts Tryz.prog 95=true)/\(Dm.tAgg Tryz.prog 97=some true)/\(Dm.tCells Tryz.prog 97=some 4)/\(Dm.tZero Tryz.prog 97=some [.int .i64 0,.bool false,.int .i64 0,.int .i64 0])/\(Dm.tField Tryz.prog 97 0=some (0,1,false))/\(Dm.tField Tryz.prog 97 1=some (1,2,true))/\(Dm.tField Tryz.prog 97 2=some (3,1,false))/\(Dm.flat Tryz.prog 10000 97=some [.i .i64,.b,.i .i64,.i .i64])/\(Dm.tParts Tryz.prog 97=true)/\(Dm.tAgg Tryz.prog 112=some false)/\(Dm.tCells Tryz.prog 112=some 1)/\(Dm.tAgg Tryz.prog 130=some false)/\(Dm.tCells Tryz.prog 130=some 1)/\(Dm.tMp Tryz.prog 130=true)/\(Dm.tMap Tryz.prog 130=some (134,3))/\(Dm.tZeroD Tryz.prog 3=some (.int .i64 0))/\(Dm.tZero Tryz.prog 132=some [.nilsl,.nilsl,.nilmp])/\(Dm.tField Tryz.prog 132 0=some (0,1,false))/\(Dm.tField Tryz.prog 132 1=some (1,1,false)):=by (repeat' apply And.intro)<;>kernel_rfl
@[simp] theorem Tryz.dmf7 : (Dm.tField Tryz.prog 132 2=some (2,1,false))/\(Dm.tParts Tryz.prog 132=true)/\(Dm.tAgg Tryz.prog 134=some true)/\(Dm.tCells Tryz.prog 134=some 2)/\(Dm.tZero Tryz.prog 134=some [.bool false,.str ⟨#[]⟩])/\(Dm.tField Tryz.prog 134 0=some (0,1,false))/\(Dm.tField Tryz.prog 134 1=some (1,1,false))/\(Dm.flat Tryz.prog 10000 134=some [.b,.s])/\(Dm.tParts Tryz.prog 134=true)/\(Dm.tAgg Tryz.prog 140=some true)/\(Dm.tCells Tryz.prog 140=some 3)/\(Dm.tZero Tryz.prog 140=some [.int .i64 0,.int .i64 0,.int .i64 0])/\(Dm.tField Tryz.prog 140 0=some (0,1,false))/\(Dm.tField Tryz.prog 140 1=some (1,1,false))/\(Dm.tField Tryz.prog 140 2=some (2,1,false))/\(Dm.flat Tryz.prog 10000 140=some [.i .i64,.i .i64,.i .i64])/\(Dm.tParts Tryz.prog 140=true)/\(Dm.tAgg Tryz.prog 142=some false)/\(Dm.tCells Tryz.prog 142=some 1)/\(Dm.tZero Tryz.prog 142=some [.nilmp]):=by (repeat' apply And.intro)<;>kernel_rfl
@[simp] theorem Tryz.dmf8 : (Dm.tMap Tryz.prog 142=some (140,147))/\(Dm.tZeroD Tryz.prog 147=some (.agg [.int .i64 0,.int .i64 0,.int .i64 0]))/\(Dm.tCells Tryz.prog 145=some 2)/\(Dm.tZero Tryz.prog 145=some [.int .i64 0,.int .i64 0])/\(Dm.tField Tryz.prog 145 0=some (0,1,false))/\(Dm.tField Tryz.prog 145 1=some (1,1,false))/\(Dm.tParts Tryz.prog 145=true)/\(Dm.tAgg Tryz.prog 147=some true)/\(Dm.tCells Tryz.prog 147=some 3)/\(Dm.tZero Tryz.prog 147=some [.int .i64 0,.int .i64 0,.int .i64 0])/\(Dm.tField Tryz.prog 147 0=some (0,1,false))/\(Dm.tField Tryz.prog 147 1=some (1,2,true))/\(Dm.tParts Tryz.prog 147=true)/\(Dm.tAgg Tryz.prog 149=some false)/\(Dm.tCells Tryz.prog 149=some 1)/\(Dm.tElem Tryz.prog 149=some (3,24))/\(Dm.tElemId Tryz.prog 149=some 140)/\(Dm.tElemZ Tryz.prog 149=true)/\(Dm.zeroOK Tryz.prog 149=true)/\(Dm.tZero Tryz.prog 151=some [.int .i64 0,.int .i64 0,.int .i64 0]):=by (repeat' apply And.intro)<;>kernel_rfl
@[simp] theorem Tryz.dmf9 : (Dm.tField Tryz.prog 151 0=some (0,1,false))/\(Dm.tField Tryz.prog 151 1=some (1,1,false))/\(Dm.tField Tryz.prog 151 2=some (2,1,false))/\(Dm.tParts Tryz.prog 151=true)/\(Dm.tAgg Tryz.prog 153=some false)/\(Dm.tCells Tryz.prog 153=some 1)/\(Dm.tElem Tryz.prog 153=some (3,32))/\(Dm.tSl Tryz.prog 153=true)/\(Dm.tElemId Tryz.prog 153=some 157)/\(Dm.tElemZ Tryz.prog 153=true)/\(Dm.zeroOK Tryz.prog 153=true)/\(Dm.tAgg Tryz.prog 155=some false)/\(Dm.tCells Tryz.prog 155=some 1)/\(Dm.tAgg Tryz.prog 157=some true)/\(Dm.tCells Tryz.prog 157=some 3)/\(Dm.tZero Tryz.prog 157=some [.int .i64 0,.str ⟨#[]⟩,.int .i64 0])/\(Dm.tField Tryz.prog 157 0=some (0,1,false))/\(Dm.tField Tryz.prog 157 1=some (1,1,false))/\(Dm.tField Tryz.prog 157 2=some (2,1,false))/\(Dm.tParts Tryz.prog 157=true):=by (repeat' apply And.intro)<;>kernel_rfl
@[simp] theorem Tryz.dmf10 : (Dm.tZero Tryz.prog 163=some [.nilsl,.nilsl])/\(Dm.tField Tryz.prog 163 0=some (0,1,false))/\(Dm.tField Tryz.prog 163 1=some (1,1,false))/\(Dm.tParts Tryz.prog 163=true)/\(Dm.tAgg Tryz.prog 165=some true)/\(Dm.tCells Tryz.prog 165=some 3)/\(Dm.tZero Tryz.prog 165=some [.bool false,.nilsl,.nilsl])/\(Dm.tField Tryz.prog 165 0=some (0,1,false))/\(Dm.tField Tryz.prog 165 1=some (1,1,false))/\(Dm.tField Tryz.prog 165 2=some (2,1,false))/\(Dm.tParts Tryz.prog 165=true)/\(Dm.tAgg Tryz.prog 176=some true)/\(Dm.tCells Tryz.prog 176=some 2)/\(Dm.tZero Tryz.prog 176=some [.str ⟨#[]⟩,.nilsl])/\(Dm.tField Tryz.prog 176 0=some (0,1,false))/\(Dm.tField Tryz.prog 176 1=some (1,1,false))/\(Dm.tAgg Tryz.prog 190=some false)/\(Dm.tCells Tryz.prog 190=some 1)/\(Dm.tZero Tryz.prog 190=some [.nilfn])/\(Dm.tAgg Tryz.prog 205=some false):=by (repeat' apply And.intro)<;>kernel_rfl
@[simp] theorem Tryz.dmf11 : (Dm.tCells Tryz.prog 205=some 1)/\(Dm.tMap Tryz.prog 205=some (3,3))/\(Dm.flat Tryz.prog 10000 3=some [.i .i64])/\(Dm.tZero Tryz.prog 207=some [.int .i64 0,.nilsl,.nilmp,.int .i64 0])/\(Dm.tField Tryz.prog 207 0=some (0,2,true))/\(Dm.tField Tryz.prog 207 1=some (2,1,false))/\(Dm.tField Tryz.prog 207 2=some (3,1,false))/\(Dm.tParts Tryz.prog 207=true)/\(Dm.tElem Tryz.prog 218=some (1,8))/\(Dm.tElemZ Tryz.prog 218=true)/\(Dm.tElem Tryz.prog 224=some (1,24))/\(Dm.tElem Tryz.prog 228=some (2,16))/\(Dm.tElemZ Tryz.prog 228=true)/\(Dm.tAgg Tryz.prog 231=some true)/\(Dm.tCells Tryz.prog 231=some 2)/\(Dm.tZero Tryz.prog 231=some [.nilfn,.int .i64 0])/\(Dm.tField Tryz.prog 231 0=some (0,1,false))/\(Dm.tField Tryz.prog 231 1=some (1,1,false))/\(Dm.tParts Tryz.prog 231=true)/\(Dm.tMap Tryz.prog 241=some (9,3)):=by (repeat' apply And.intro)<;>kernel_rfl
@[simp] theorem Tryz.dmf12 : (Dm.flat Tryz.prog 10000 9=some [.s])/\(Dm.tAgg Tryz.prog 244=some false)/\(Dm.tCells Tryz.prog 244=some 1)/\(Dm.tMap Tryz.prog 244=some (140,3))/\(Dm.tZero Tryz.prog 246=some [.int .i64 0,.nilsl,.nilsl,.nilmp,.nilsl])/\(Dm.tField Tryz.prog 246 0=some (0,2,true))/\(Dm.tField Tryz.prog 246 1=some (2,1,false))/\(Dm.tField Tryz.prog 246 2=some (3,1,false))/\(Dm.tField Tryz.prog 246 3=some (4,1,false))/\(Dm.tParts Tryz.prog 246=true)/\(Dm.tAgg Tryz.prog 287=some false)/\(Dm.tCells Tryz.prog 287=some 1)/\(Dm.tElem Tryz.prog 304=some (1,24))/\(Dm.tElemZ Tryz.prog 304=true)/\(Dm.tAgg Tryz.prog 336=some false)/\(Dm.tCells Tryz.prog 336=some 1)/\(Dm.tElem Tryz.prog 336=some (1,1))/\(Dm.tElemId Tryz.prog 336=some 5)/\(Dm.zeroOK Tryz.prog 336=true)/\(Dm.tZero Tryz.prog 338=some [.nilp,.nilsl]):=by (repeat' apply And.intro)<;>kernel_rfl
@[simp] theorem Tryz.dmf13 : Dm.tField Tryz.prog 338 1=some (1,1,false):=by kernel_rfl
end Go.Proofs
end
section
namespace Go.Dm
variable [DMode]
def LC (φ:Nat->Nat->Option (Nat×Nat)):DVal->DVal
 | .osl i r=>match φ i r with | some p=> .osl p.1 p.2 | none=> .any
 | .vw i r k bs a n=>match φ i r with | some p=> .vw p.1 p.2 k bs a n | none=> .any
 | .bx i r off=>match φ i r with | some p=> .bx p.1 p.2 off | none=> .any
 | .rx i r k a b=>match φ i r with | some p=> .rx p.1 p.2 k a b | none=> .any
 | .omp i r=>match φ i r with | some p=> .omp p.1 p.2 | none=> .any
 | .pk i r=>match φ i r with | some p=> .pk p.1 p.2 | none=> .any
 | d=>d
def okR : DVal->Prop
 | .osl _ _ | .vw _ _ _ _ _ _ | .bx _ _ _ | .rx _ _ _ _ _ | .omp _ _ | .pk _ _=>True
 | d=>mx d=0
def ZO : List DVal->Prop
 | []=>True
 | d::ds=>okR d/\ZO ds
def Qk (φ:Nat->Nat->Option (Nat×Nat)):DVal->DVal
 | .fn f us cs=> .fn f (us.map (LC φ)) (cs.map (LC φ))
 | d=>LC φ d
def ok2 : DVal->Prop
 | .fn _ us cs=>ZO us/\ZO cs
 | d=>okR d
def Sv : List DVal->Prop
 | []=>True
 | d::ds=>ok2 d/\Sv ds
def Xq (φ:Nat->Nat->Option (Nat×Nat)):DVal->DVal
 | .agg cs=> .agg (cs.map (Qk φ))
 | d=>Qk φ d
def ok3 : DVal->Prop
 | .agg cs=>Sv cs
 | d=>ok2 d
def ZP : List DVal->Prop
 | []=>True
 | d::ds=>ok3 d/\ZP ds
def HG (φ:Nat->Nat->Option (Nat×Nat)):DVal->DVal
 | .tup cs=> .tup (cs.map (Xq φ))
 | d=>Xq φ d
def XE : DVal->Prop
 | .tup cs=>ZP cs
 | d=>ok3 d
def xN : List (List DVal)->Prop
 | []=>True
 | cs::es=>Sv cs/\xN es
def Kl (φ:Nat->Nat->Option (Nat×Nat)):List (List DVal)->List (List DVal)
 | []=>[]
 | cs::es=>cs.map (Qk φ)::Kl φ es
def JP (φ:Nat->Nat->Option (Nat×Nat)):DObj->DObj
 | .box cs=> .box (cs.map (Qk φ))
 | .row et k bs es=>if Bx es=0 then .row et k bs es else .row et k bs (Kl φ es)
 | o=>o
def tU : DObj->Prop
 | .box cs=>Sv cs
 | .row _ _ _ es=>Bx es=0\/xN es
 | .map ks vs=>AR ks=0/\AR vs=0
 | .abs _=>True
section
variable {cur cur' : Fb} {M M' : List Nat} {h h' : Array Obj} {φ : Nat -> Nat -> Option (Nat × Nat)}
def Hf (cur cur':Fb) (φ:Nat->Nat->Option (Nat×Nat)):Prop:=∀i r p l,φ i r=some p->cur' p.1 p.2=some l->cur i r=some l
theorem BF_ (W:Weak cur cur' M M' h h' 0) (L:Hf cur cur' φ) {d:DVal} {v:Value} (hk:okR d) (hr:rd cur M h d v):rd cur' M' h' (LC φ d) v:=by
 cases d with
 | osl i r =>
  simp only[LC]
  split
  ·rename_i p hp;simp only[rd]at hr |-;exact fun l hl=>hr l (L i r p l hp hl)
  ·simp[rd]
 | bx i r off =>
  simp only[LC]
  split
  ·rename_i p hp;simp only[rd]at hr |-;exact fun l hl=>hr l (L i r p l hp hl)
  ·simp[rd]
 | vw i r k bs x n =>
  simp only[LC]
  split
  ·rename_i p hp;simp only[rd]at hr |-;exact fun l hl=>hr l (L i r p l hp hl)
  ·simp[rd]
 | rx i r k a b =>
  simp only[LC]
  split
  ·rename_i p hp;simp only[rd]at hr |-;exact fun l hl=>hr l (L i r p l hp hl)
  ·simp[rd]
 | omp i r =>
  simp only[LC]
  split
  ·rename_i p hp;simp only[rd]at hr |-;exact fun l hl=>hr l (L i r p l hp hl)
  ·simp[rd]
 | pk i r =>
  simp only[LC]
  split
  ·rename_i p hp;simp only[rd]at hr |-;exact fun l hl=>hr l (L i r p l hp hl)
  ·simp[rd]
 | _=>simp only[okR]at hk;simp only[LC];exact Cu W _ v (dO0 hk) hr
theorem Se (W:Weak cur cur' M M' h h' 0) (L:Hf cur cur' φ):∀{ds:List DVal} {vs:List Value},ZO ds->AI cur M h ds vs->AI cur' M' h' (ds.map (LC φ)) vs
 | [],vs,_,hr=>by simpa[AI]using hr
 | d::ds,vs,hk,hr=>by
  simp only[ZO]at hk;simp only[AI,List.map_cons]at hr |-;obtain⟨v,r,rfl,h1,h2⟩:=hr;exact⟨v,r,rfl,BF_ W L hk.1 h1,Se W L hk.2 h2⟩
theorem Xr (W:Weak cur cur' M M' h h' 0) (L:Hf cur cur' φ) {d:DVal} {v:Value} (hk:ok2 d) (hr:rd cur M h d v):rd cur' M' h' (Qk φ d) v:=by
 cases d with
 | fn f us cs =>
  simp only[ok2]at hk;simp only[Qk,rd]at hr |-;obtain⟨us',cs',h1,h2,h3⟩:=hr;exact⟨us',cs',h1,Se W L hk.1 h2,Se W L hk.2 h3⟩
 | _=>exact BF_ W L (by simpa only[ok2]using hk) hr
theorem Zw (W:Weak cur cur' M M' h h' 0) (L:Hf cur cur' φ):∀{ds:List DVal} {vs:List Value},Sv ds->AI cur M h ds vs->AI cur' M' h' (ds.map (Qk φ)) vs
 | [],vs,_,hr=>by simpa[AI]using hr
 | d::ds,vs,hk,hr=>by
  simp only[Sv]at hk;simp only[AI,List.map_cons]at hr |-;obtain⟨v,r,rfl,h1,h2⟩:=hr;exact⟨v,r,rfl,Xr W L hk.1 h1,Zw W L hk.2 h2⟩
theorem Si (W:Weak cur cur' M M' h h' 0) (L:Hf cur cur' φ):∀{ds:List DVal} {arr:Array Value} {o:Nat},Sv ds->Ea cur M h ds arr o->Ea cur' M' h' (ds.map (Qk φ)) arr o
 | [],_,_,_,_=>by simp[Ea]
 | d::ds,arr,o,hk,hr=>by
  simp only[Sv]at hk;simp only[Ea,List.map_cons]at hr |-;obtain⟨⟨v,h1,h2,h3⟩,h4⟩:=hr;exact⟨⟨v,h1,h2,Xr W L hk.1 h3⟩,Si W L hk.2 h4⟩
theorem BG_ (W:Weak cur cur' M M' h h' 0) (L:Hf cur cur' φ) {d:DVal} {v:Value} (hk:ok3 d) (hr:rd cur M h d v):rd cur' M' h' (Xq φ d) v:=by
 cases d with
 | agg cs =>
  simp only[ok3]at hk;simp only[Xq,rd]at hr |-;obtain⟨us,h1,h2⟩:=hr;exact⟨us,h1,Zw W L hk h2⟩
 | _=>exact Xr W L (by simpa only[ok3]using hk) hr
theorem Zv (W:Weak cur cur' M M' h h' 0) (L:Hf cur cur' φ):∀{ds:List DVal} {vs:List Value},ZP ds->AI cur M h ds vs->AI cur' M' h' (ds.map (Xq φ)) vs
 | [],vs,_,hr=>by simpa[AI]using hr
 | d::ds,vs,hk,hr=>by
  simp only[ZP]at hk;simp only[AI,List.map_cons]at hr |-;obtain⟨v,r,rfl,h1,h2⟩:=hr;exact⟨v,r,rfl,BG_ W L hk.1 h1,Zv W L hk.2 h2⟩
theorem QK (W:Weak cur cur' M M' h h' 0) (L:Hf cur cur' φ) {d:DVal} {v:Value} (hk:XE d) (hr:rd cur M h d v):rd cur' M' h' (HG φ d) v:=by
 cases d with
 | tup cs =>
  simp only[XE]at hk;simp only[HG,rd]at hr |-;obtain⟨us,h1,h2⟩:=hr;exact⟨us,h1,Zv W L hk h2⟩
 | _=>exact BG_ W L (by simpa only[XE]using hk) hr
theorem Zy (W:Weak cur cur' M M' h h' 0) (L:Hf cur cur' φ) {k:Nat}:∀{es:List (List DVal)} {arr:Array Value} {o:Nat},xN es->EB cur M h k es arr o->EB cur' M' h' k (Kl φ es) arr o
 | [],_,_,_,_=>by simp[Kl,EB]
 | cs::es,arr,o,hk,hr=>by
  simp only[xN]at hk;simp only[EB,Kl]at hr |-;exact⟨by simpa using hr.1,Si W L hk.1 hr.2.1,Zy W L hk.2 hr.2.2⟩
theorem OL (φ:Nat->Nat->Option (Nat×Nat)) (es:List (List DVal)):(Kl φ es).length=es.length:=by
 induction es with
 | nil=>rfl
 | cons c l ih=>simp[Kl,ih]
theorem Lw (W:Weak cur cur' M M' h h' 0) (L:Hf cur cur' φ) {l l':Loc} {obj:DObj} (hk:tU obj) (hl:l'=l)
  (keep:∀b o,b∈l.blks->h[b]? =some o->h'[b]? =some o) (ho:KW cur M h l obj):KW cur' M' h' l' (JP φ obj):=by
 subst hl
 cases obj with
 | box cs =>
  simp only[tU]at hk;obtain⟨b,arr,ty,h1,h2,h3,h4⟩:=ho;exact⟨b,arr,ty,h1,keep b _ (by simp[h1]) h2,by simp[h3],Si W L hk h4⟩
 | row et k bs es =>
  simp only[JP]
  split
  ·rename_i h0;exact Bp W (by simp[Fp,h0]) keep ho
  ·rename_i h0;simp only[tU]at hk;have hk:=hk.resolve_left h0;obtain⟨hb,ho⟩:=ho;refine⟨by rw[OL];exact hb,?_⟩
   rcases ho with ⟨rfl,h1,h2⟩ | ⟨b,arr,cap,h1,h2,h3,h4,h5,h6,h7⟩
   ·exact .inl ⟨rfl,h1,h2⟩
   ·exact .inr ⟨b,arr,cap,h1,by rw[OL];exact h2,keep b _ (by simp[h1]) h3,by rw[OL];exact h4,h5,h6,Zy W L hk h7⟩
 | map ks vs=>exact Bp W (by simp only[tU]at hk;simp[JP,Fp,hk]) keep ho
 | abs A=>exact Bp W (by simp[JP,Fp]) keep ho
end
def DH_ (P:Program):Fn->Prop
 | .func g=>Enters P g
 | _=>True
def AS (P:Program) (f:Fn) (args:List DVal) (own:List Ent) (d:DVal) (own':List Ent):Prop :=
 (∀e∈own',e.r<=1)/\DH_ P f/\∀(M:List Nat) (w:World) (loc:Nat->Loc) (vs:Array Value),St own loc M w.heap->AI (Ae own loc) (Ab own loc++M) w.heap args vs.toList ->
  HQ P f vs w fun v w'=>∃loc',St own' loc' M w'.heap/\Upd (Ab own loc) w w'/\(∀b∈Ab own' loc',b∈Ab own loc\/w.heap.size<=b) /\
   (∀e∈own',e.r<1->Ae own loc e.id e.r=some (loc' e.id))/\rd (Ae own' loc') (Ab own' loc'++M) w'.heap d v
def Ca (own:List Ent):List (Nat×Nat×Nat)->Nat->Nat->Option (Nat×Nat)
 | [],_,_=>none
 | (i,j,v)::ρ,i',r'=>if i'=i then (match Ar own i with | some e=>if r'=e.r then some (j,v)else none | none=>none)else Ca own ρ i' r'
def Mo (own:List Ent) (φ:Nat->Nat->Option (Nat×Nat)):List (Nat×Nat×Nat)->Option (List Ent)
 | []=>some []
 | (i,j,v)::ρ=>match Ar own i,Mo own φ ρ with
  | some e,some l=>some (⟨j,v,JP φ e.obj⟩::l)
  | _,_=>none
def Nj (own:List Ent):List (Nat×Nat×Nat)->Prop
 | []=>True
 | (i,j,v)::ρ=>(match Ar own i with | some e=>tU e.obj/\(v=1\/(v=0/\i=j/\e.r=0)) | none=>False)/\Nj own ρ
section
variable {own : List Ent}
theorem Jh : ∀{ρ:List (Nat×Nat×Nat)} {i r:Nat} {p:Nat×Nat},Ca own ρ i r=some p->∃e,(i,p.1,p.2)∈ρ/\Ar own i=some e/\e.r=r
 | [],i,r,p,h=>by simp[Ca]at h
 | (i0,j,v)::ρ,i,r,p,h=>by
  simp only[Ca]at h
  split at h
  ·rename_i hi;subst hi
   split at h
   ·rename_i e he
    split at h
    ·rename_i hr;simp only[aA0]at h;subst h;exact⟨e,aE0,he,hr.symm⟩
    ·simp at h
   ·simp at h
  ·obtain⟨e,h1,h2,h3⟩:=Jh h;exact⟨e,aC0 _ h1,h2,h3⟩
theorem Nk {φ:Nat->Nat->Option (Nat×Nat)}:∀{ρ:List (Nat×Nat×Nat)} {l:List Ent},Mo own φ ρ=some l->(∀x∈l,∃i j v e,(i,j,v)∈ρ/\Ar own i=some e/\x=⟨j,v,JP φ e.obj⟩)/\l.map (·.id)=ρ.map (·.2.1)
 | [],l,h=>by simp only[Mo,aA0]at h;subst h;simp
 | (i,j,v)::ρ,l,h=>by
  simp only[Mo]at h
  split at h
  ·rename_i e l' he wI;simp only[aA0]at h;subst h;obtain⟨h1,h2⟩:=Nk wI;refine⟨fun x hx=> ?_,by simp[h2]⟩
   rcases aJ0.1 hx with rfl | hx
   ·exact⟨i,j,v,e,aE0,he,rfl⟩
   ·obtain⟨i',j',v',e',g1,g2,g3⟩:=h1 x hx;exact⟨i',j',v',e',aC0 _ g1,g2,g3⟩
  ·simp at h
theorem Li : ∀{ρ:List (Nat×Nat×Nat)},Nj own ρ->∀i j v,(i,j,v)∈ρ->∃e,Ar own i=some e/\tU e.obj/\(v=1\/(v=0/\i=j/\e.r=0))
 | [],_,i,j,v,hm=>by cases hm
 | (i0,j0,v0)::ρ,h,i,j,v,hm=>by
  simp only[Nj]at h
  rcases aJ0.1 hm with heq | hm
  ·simp only[aT0]at heq;obtain⟨rfl,rfl,rfl⟩:=heq;have h1:=h.1
   split at h1
   ·rename_i e he;exact⟨e,he,h1⟩
   ·exact h1.elim
  ·exact Li h.2 i j v hm
end
def YG (P:Program) (f:Fn) (args:List DVal) (own:List Ent) (r:Nat) (d:DVal) (own':List Ent):Prop :=
 DH_ P f/\(own'.map (·.id)).Nodup/\(Hj own<=r->mx d<=r+1/\Hj own'<=r+1) /\
 ∀(M:List Nat) (w:World) (loc:Nat->Loc) (vs:Array Value),Hj own<=r->St own loc M w.heap->AI (Ae own loc) (Ab own loc++M) w.heap args vs.toList ->
  HQ P f vs w fun v w'=>∃loc',St own' loc' M w'.heap/\Upd (Ab own loc) w w'/\(∀b∈Ab own' loc',b∈Ab own loc\/w.heap.size<=b) /\
   (∀e∈own',e.r<r->Ae own loc e.id e.r=some (loc' e.id))/\rd (Ae own' loc') (Ab own' loc'++M) w'.heap d v
def BN : List (Nat×Nat)->Nat->Option Nat
 | [],_=>none
 | (i,j')::t,j=>if j=j' then some i else BN t j
def Ej (ρ:List (Nat×Nat)):List (Nat×Nat×Nat):=ρ.map fun p=>(p.1,p.2,0)
def DN (own:List Ent) (ρ ν:List (Nat×Nat)) (r:Nat):Nat->Nat->Option (Nat×Nat):=fun j v =>
 if v=0 then (match BN ρ j with | some i=>(match Ar own i with | some e=>some (i,e.r) | none=>none) | none=>none)
 else if v=1 then (match BN (ρ++ν) j with | some i=>some (i,r) | none=>none)
 else none
def IG (φ:Nat->Nat->Option (Nat×Nat)):List Ent->Option (List Ent)
 | []=>some []
 | e::t=>match φ e.id e.r,IG φ t with
  | some p,some l=>some (⟨p.1,p.2,JP φ e.obj⟩::l)
  | _,_=>none
def Bo : List Ent->List Nat->List Ent
 | [],_=>[]
 | e::t,ids=>if ids.contains e.id then Bo t ids else e::Bo t ids
def XC : List Ent->Prop
 | []=>True
 | e::t=>tU e.obj/\XC t
def XD : List DVal->Prop
 | []=>True
 | d::t=>XE d/\XD t
def Yb (own:List Ent):List (Nat×Nat)->Prop
 | []=>True
 | (i,_)::t=>(match Ar own i with | some e=>tU e.obj | none=>False)/\Yb own t
theorem Iq : ∀{l:List (Nat×Nat)} {j i:Nat},BN l j=some i->(i,j)∈l
 | [],j,i,h=>by simp[BN]at h
 | (i',j')::t,j,i,h=>by
  simp only[BN]at h
  split at h
  ·rename_i hj;simp only[aA0]at h;subst h;subst hj;exact aE0
  ·exact aC0 _ (Iq h)
theorem CA : ∀{l:List (Nat×Nat)} {j i:Nat},(l.map (·.2)).Nodup->(i,j)∈l->BN l j=some i
 | (i',j')::t,j,i,hn,h=>by
  simp only[List.map_cons,cS0]at hn;simp only[BN]
  rcases aJ0.1 h with h | h
  ·simp only[aT0]at h;rw[if_pos h.2,h.1]
  ·rw[if_neg (fun hj=>hn.1 (by rw[<-hj];exact cX0 (f:=(·.2)) h)),CA hn.2 h]
theorem KW_ {l:List (Nat×Nat)} (hn:(l.map (·.1)).Nodup) {i j j':Nat} (h:(i,j)∈l) (h':(i,j')∈l):j=j':=by
 induction l with
 | nil=>cases h
 | cons a l ih =>
  simp only[List.map_cons,cS0]at hn
  rcases aJ0.1 h with rfl | h1
  ·rcases aJ0.1 h' with h' | h2
   ·simp only[aT0]at h';exact h'.2.symm
   ·exact absurd (cX0 (f:=(·.1)) h2) hn.1
  ·rcases aJ0.1 h' with rfl | h2
   ·exact absurd (cX0 (f:=(·.1)) h1) hn.1
   ·exact ih hn.2 h1 h2
theorem DI {own:List Ent} {ids:List Nat} {e:Ent}:e∈Bo own ids↔e∈own/\e.id∉ids:=by
 induction own with
 | nil=>simp[Bo]
 | cons a t ih =>
  simp only[Bo]
  split
  ·rename_i hc;have hc:a.id∈ids:=by simpa using hc
   rw[ih]
   constructor
   ·rintro⟨h1,h2⟩;exact⟨aC0 _ h1,h2⟩
   ·rintro⟨h1,h2⟩
    rcases aJ0.1 h1 with rfl | h1
    ·exact absurd hc h2
    ·exact⟨h1,h2⟩
  ·rename_i hc;have hc:a.id∉ids:=by simpa using hc
   rw[aJ0,ih,aJ0]
   constructor
   ·rintro (rfl | ⟨h1,h2⟩)
    ·exact⟨.inl rfl,hc⟩
    ·exact⟨.inr h1,h2⟩
   ·rintro⟨rfl | h1,h2⟩
    ·exact .inl rfl
    ·exact .inr ⟨h1,h2⟩
theorem At_ (own:List Ent) (ids:List Nat):(Bo own ids).Sublist own:=by
 induction own with
 | nil=>exact List.Sublist.refl _
 | cons a t ih =>
  simp only[Bo]
  split
  ·exact ih.cons _
  ·exact ih.cons_cons _
theorem Gy {φ:Nat->Nat->Option (Nat×Nat)}:∀{l l':List Ent},IG φ l=some l'->(∀x∈l',∃e∈l,∃p,φ e.id e.r=some p/\x=⟨p.1,p.2,JP φ e.obj⟩)
 | [],l',h=>by simp only[IG,aA0]at h;subst h;simp
 | e::t,l',h=>by
  simp only[IG]at h
  split at h
  ·rename_i p l hp hl;simp only[aA0]at h;subst h;intro x hx
   rcases aJ0.1 hx with rfl | hx
   ·exact⟨e,aE0,p,hp,rfl⟩
   ·obtain⟨e',h1,h2⟩:=Gy hl x hx;exact⟨e',aC0 _ h1,h2⟩
  ·simp at h
theorem Wu {φ:Nat->Nat->Option (Nat×Nat)} {loc loc':Nat->Loc}:∀{l l':List Ent},IG φ l=some l'->(∀e∈l,∀p,φ e.id e.r=some p->loc' p.1=loc e.id)->Ab l' loc'=Ab l loc
 | [],l',h,_=>by simp only[IG,aA0]at h;subst h;rfl
 | e::t,l',h,hl=>by
  simp only[IG]at h
  split at h
  ·rename_i p l hp wI;simp only[aA0]at h;subst h;rw[Em,Em,Wu wI (fun e he=>hl e (aC0 _ he))];simp only;rw[hl e aE0 p hp]
  ·simp at h
theorem Ss : ∀{l:List Ent},XC l->∀e∈l,tU e.obj
 | e::t,h,x,hx=>by
  simp only[XC]at h
  rcases aJ0.1 hx with rfl | hx
  ·exact h.1
  ·exact Ss h.2 x hx
theorem eE {own:List Ent}:∀{l:List (Nat×Nat)},Yb own l->∀i j,(i,j)∈l->∃e,Ar own i=some e/\tU e.obj
 | (i',j')::t,h,i,j,hm=>by
  simp only[Yb]at h
  rcases aJ0.1 hm with hm | hm
  ·simp only[aT0]at hm;obtain⟨rfl,rfl⟩:=hm;have h1:=h.1
   split at h1
   ·rename_i e he;exact⟨e,he,h1⟩
   ·exact h1.elim
  ·exact eE h.2 i j hm
theorem GX {own:List Ent} {loc:Nat->Loc} (hn:(Ab own loc).Nodup):∀l:List Ent,(l.map (·.id)).Nodup->(∀e∈l,∃e0∈own,e0.id=e.id)->(Ab l loc).Nodup
 | [],_,_=>by simp[Ab]
 | e::l,hd,hm=>by
  simp only[List.map_cons,cS0]at hd;rw[Em,bV0];obtain⟨e0,vI,fY⟩:=hm e aE0;refine⟨by rw[<-fY];exact DM hn e0 vI,GX hn l hd.2 (fun x hx=>hm x (aC0 _ hx)),?_⟩;intro b hb b' qD jZ;subst jZ;obtain⟨e2,zX,wB⟩:=bT0.1 qD;obtain⟨e3,pU,mN⟩:=hm e2 (aC0 _ zX);have:=Gj hn e0 vI e3 pU b (by rw[fY];exact hb) (by rw[mN];exact wB);subst this;exact hd.1 (aR0.2 ⟨e2,zX,by rw[<-mN,fY]⟩)
def LD (loc0' loc:Nat->Loc):List (Nat×Nat)->Nat->Loc
 | [],i=>loc i
 | (i',j)::t,i=>if i=i' then loc0' j else LD loc0' loc t i
theorem Ns {loc0' loc:Nat->Loc}:∀{l:List (Nat×Nat)} {i j:Nat},(l.map (·.1)).Nodup->(i,j)∈l->LD loc0' loc l i=loc0' j
 | (i',j')::t,i,j,hn,hm=>by
  simp only[List.map_cons,cS0]at hn;simp only[LD]
  rcases aJ0.1 hm with h | h
  ·simp only[aT0]at h;rw[if_pos h.1,h.2]
  ·rw[if_neg (fun hi=>hn.1 (by rw[<-hi];exact cX0 (f:=(·.1)) h)),Ns hn.2 h]
theorem Nr {loc0' loc:Nat->Loc}:∀{l:List (Nat×Nat)} {i:Nat},i∉l.map (·.1)->LD loc0' loc l i=loc i
 | [],i,h=>rfl
 | (i',j')::t,i,h=>by
  simp only[List.map_cons,aJ0,not_or]at h;simp only[LD];rw[if_neg h.1,Nr h.2]
section
variable {φ : Nat -> Nat -> Option (Nat × Nat)} {n : Nat}
theorem BY_ (hφ:∀i v p,φ i v=some p->p.2<=n) {d:DVal} (h:okR d):mx (LC φ d)<=n+1:=by
 cases d<;>simp only[LC,okR]at h |- <;>first
  |(split
    ·rename_i p hp;have:=hφ _ _ _ hp;simp only[mx];omega
    ·simp[mx])
  | (rw[h];omega)
theorem Sz (hφ:∀i v p,φ i v=some p->p.2<=n):∀{ds:List DVal},ZO ds->AR (ds.map (LC φ))<=n+1
 | [],_=>by simp[AR]
 | d::ds,h=>by
  simp only[ZO]at h;have h1:=BY_ hφ h.1;have h2:=Sz hφ h.2;simp only[List.map_cons,AR];omega
theorem Ca_ (hφ:∀i v p,φ i v=some p->p.2<=n) {d:DVal} (h:ok2 d):mx (Qk φ d)<=n+1:=by
 cases d with
 | fn f us cs =>
  simp only[ok2]at h;have h1:=Sz hφ h.1;have h2:=Sz hφ h.2;simp only[Qk,mx];omega
 | _=>exact BY_ hφ (by simpa only[ok2]using h)
theorem Nq (hφ:∀i v p,φ i v=some p->p.2<=n):∀{ds:List DVal},Sv ds->AR (ds.map (Qk φ))<=n+1
 | [],_=>by simp[AR]
 | d::ds,h=>by
  simp only[Sv]at h;have h1:=Ca_ hφ h.1;have h2:=Nq hφ h.2;simp only[List.map_cons,AR];omega
theorem BZ_ (hφ:∀i v p,φ i v=some p->p.2<=n) {d:DVal} (h:ok3 d):mx (Xq φ d)<=n+1:=by
 cases d with
 | agg cs =>
  simp only[ok3]at h;have h1:=Nq hφ h;simp only[Xq,mx];omega
 | _=>exact Ca_ hφ (by simpa only[ok3]using h)
theorem aF (hφ:∀i v p,φ i v=some p->p.2<=n):∀{ds:List DVal},ZP ds->AR (ds.map (Xq φ))<=n+1
 | [],_=>by simp[AR]
 | d::ds,h=>by
  simp only[ZP]at h;have h1:=BZ_ hφ h.1;have h2:=aF hφ h.2;simp only[List.map_cons,AR];omega
theorem KA_ (hφ:∀i v p,φ i v=some p->p.2<=n) {d:DVal} (h:XE d):mx (HG φ d)<=n+1:=by
 cases d with
 | tup cs =>
  simp only[XE]at h;have h1:=aF hφ h;simp only[HG,mx];omega
 | _=>exact BZ_ hφ (by simpa only[XE]using h)
theorem aC (hφ:∀i v p,φ i v=some p->p.2<=n):∀{es:List (List DVal)},xN es->Bx (Kl φ es)<=n+1
 | [],_=>by simp[Kl,Bx]
 | c::l,h=>by
  simp only[xN]at h;have h1:=Nq hφ h.1;have h2:=aC hφ h.2;simp only[Kl,Bx];omega
theorem HU_ (hφ:∀i v p,φ i v=some p->p.2<=n) {o:DObj} (h:tU o):Fp (JP φ o)<=n+1:=by
 cases o with
 | box cs=>simp only[tU]at h;simp only[JP,Fp];exact Nq hφ h
 | row et k bs es =>
  simp only[JP]
  split
  ·rename_i h0;simp only[Fp,h0];omega
  ·rename_i h0;simp only[tU]at h;simp only[Fp];exact aC hφ (h.resolve_left h0)
 | map ks vs=>simp only[tU]at h;simp only[JP,Fp,h.1,h.2];omega
 | abs A=>simp only[JP,Fp];omega
end
theorem ME_ {l:List Ent} {n:Nat} (h:∀e∈l,e.r+1<=n/\Fp e.obj<=n):Hj l<=n:=by
 induction l with
 | nil=>simp[Hj]
 | cons e t ih =>
  have h1:=h e aE0;have h2:=ih fun e he=>h e (aC0 _ he)
  simp only[Hj];omega
theorem Zu {cur cur':Fb} {M M':List Nat} {h h':Array Obj} {φ:Nat->Nat->Option (Nat×Nat)} (W:Weak cur cur' M M' h h' 0) (L:Hf cur cur' φ):∀{ds:List DVal} {vs:List Value},XD ds->AI cur M h ds vs->AI cur' M' h' (ds.map (HG φ)) vs
 | [],vs,_,hr=>by simpa[AI]using hr
 | d::ds,vs,hk,hr=>by
  simp only[XD]at hk;simp only[AI,List.map_cons]at hr |-;obtain⟨v,r,rfl,h1,h2⟩:=hr;exact⟨v,r,rfl,QK W L hk.1 h1,Zu W L hk.2 h2⟩
abbrev LF_ := Array Value->World->(Value->World->Prop)->Prop
def JR_ (C:LF_) (args:List DVal) (own:List Ent) (d:DVal) (own':List Ent):Prop :=
 ∀(M:List Nat) (w:World) (loc:Nat->Loc) (vs:Array Value),St own loc M w.heap->AI (Ae own loc) (Ab own loc++M) w.heap args vs.toList ->
  C vs w fun v w'=>∃loc',St own' loc' M w'.heap/\Upd (Ab own loc) w w'/\(∀b∈Ab own' loc',b∈Ab own loc\/w.heap.size<=b) /\
   (∀e∈own',e.r<1->Ae own loc e.id e.r=some (loc' e.id))/\rd (Ae own' loc') (Ab own' loc'++M) w'.heap d v
def Oh_ (C:LF_) (args:List DVal) (own:List Ent) (r:Nat) (d:DVal) (own':List Ent):Prop :=
 ∀(M:List Nat) (w:World) (loc:Nat->Loc) (vs:Array Value),Hj own<=r->St own loc M w.heap->AI (Ae own loc) (Ab own loc++M) w.heap args vs.toList ->
  C vs w fun v w'=>∃loc',St own' loc' M w'.heap/\Upd (Ab own loc) w w'/\(∀b∈Ab own' loc',b∈Ab own loc\/w.heap.size<=b) /\
   (∀e∈own',e.r<r->Ae own loc e.id e.r=some (loc' e.id))/\rd (Ae own' loc') (Ab own' loc'++M) w'.heap d v
theorem tK {C:LF_} (hC:∀vs w (R R':Value->World->Prop),(∀v w',R v w'->R' v w')->C vs w R->C vs w R') {args args0:List DVal} {own own0 own0' l:List Ent} {d0:DVal} {r:Nat} (ρ ν:List (Nat×Nat)) (fR:JR_ C args0 own0 d0 own0')
  (vV:Mo own (Ca own (Ej ρ)) (Ej ρ)=some own0) (qY:Yb own ρ) (qM:XD args/\WL (args.map (HG (Ca own (Ej ρ)))) args0)
  (hid:((ρ++ν).map (·.1)).Nodup/\(ρ.map (·.2)).Nodup) (zB:IG (DN own ρ ν r) own0'=some l) (nR:XC own0') (fB:XE d0) (hnd:((Bo own ((ρ++ν).map (·.1))++l).map (·.id)).Nodup) :
  Oh_ C args own r (HG (DN own ρ ν r) d0) (Bo own ((ρ++ν).map (·.1))++l):=by
 intro M w loc vs vF S hr
 -- the way in
 have mX:∀i j,(i,j)∈ρ->loc ((BN ρ j).getD 0)=loc i:=by
  intro i j hm;simp only[CA hid.2 hm,cB0]
 obtain⟨fH,bC⟩:=Nk vV
 have hm0':∀x∈own0,∃i e,(i,x.id)∈ρ/\Ar own i=some e/\x=⟨x.id,0,JP (Ca own (Ej ρ)) e.obj⟩:=by
  intro x hx;obtain⟨i,j,v,e,h1,h2,h3⟩:=fH x hx;simp only[Ej,aR0,aT0]at h1;obtain⟨p,hp,rfl,rfl,rfl⟩:=h1;subst h3;exact⟨p.1,e,hp,h2,rfl⟩
 have bC:own0.map (·.id)=ρ.map (·.2):=by
  rw[bC];simp[Ej]
 have hnd0:(own0.map (·.id)).Nodup:=by rw[bC];exact hid.2
 have hρ1:(ρ.map (·.1)).Nodup:=by
  have:=hid.1;rw[bA0,bV0]at this;exact this.1
 have jX:Ab own0 (fun j=>loc ((BN ρ j).getD 0))=Ab (own0.map fun x=>⟨(BN ρ x.id).getD 0,0,x.obj⟩) loc:=by
  simp[Ab,List.flatMap_map]
 have gK:((own0.map fun x=>(⟨(BN ρ x.id).getD 0,0,x.obj⟩:Ent)).map (·.id)).Nodup:=by
  rw[cC0]
  have:own0.map ((·.id)∘fun x=>(⟨(BN ρ x.id).getD 0,0,x.obj⟩:Ent))=ρ.map (·.1):=by
   have e1:own0.map ((·.id)∘fun x=>(⟨(BN ρ x.id).getD 0,0,x.obj⟩:Ent))=(own0.map (·.id)).map (fun j=>(BN ρ j).getD 0):=by
    rw[cC0];rfl
   rw[e1,bC,cC0];refine cN0 fun p hp=> ?_
   simp only[Function.comp_def];rw[CA hid.2 hp];rfl
  rw[this];exact hρ1
 have hselm:∀e∈own0.map (fun x=>(⟨(BN ρ x.id).getD 0,0,x.obj⟩:Ent)),∃e0∈own,e0.id=e.id:=by
  intro e he;obtain⟨x,hx,rfl⟩:=aR0.1 he;obtain⟨i,e,h1,h2,_⟩:=hm0' x hx;simp only[CA hid.2 h1,cB0];exact⟨e,AN h2⟩
 have jK:∀b∈Ab own0 (fun j=>loc ((BN ρ j).getD 0)),∃i j e,(i,j)∈ρ/\e∈own/\e.id=i/\b∈(loc i).blks:=by
  intro b hb;obtain⟨x,hx,hb⟩:=bT0.1 hb;obtain⟨i,e,h1,h2,_⟩:=hm0' x hx;simp only[CA hid.2 h1,cB0]at hb;exact⟨i,x.id,e,h1,(AN h2).1,(AN h2).2,hb⟩
 have cN:∀b∈Ab own0 (fun j=>loc ((BN ρ j).getD 0)),b∈Ab own loc:=by
  intro b hb;obtain⟨i,j,e,_,h2,rfl,h4⟩:=jK b hb;exact Bm h2 h4
 have hfr:∀b∈Ab (Bo own ((ρ++ν).map (·.1))) loc,b∈Ab own loc:=by
  intro b hb;obtain⟨e,he,hb⟩:=bT0.1 hb;exact Bm (DI.1 he).1 hb
 have hdis:∀b∈Ab own0 (fun j=>loc ((BN ρ j).getD 0)),b∉Ab (Bo own ((ρ++ν).map (·.1))) loc:=by
  intro b hb qD;obtain⟨i,j,e,h1,h2,rfl,h4⟩:=jK b hb;obtain⟨e',zJ,qD⟩:=bT0.1 qD;obtain⟨g1,g2⟩:=DI.1 zJ;have:=Gj S.bl e h2 e' g1 b h4 qD;subst this;exact g2 (cX0 (f:=(·.1)) (aN0 _ h1))
 have hM:∀b,b∈Ab own0 (fun j=>loc ((BN ρ j).getD 0))++(Ab (Bo own ((ρ++ν).map (·.1))) loc++M)->b∈Ab own loc++M:=by
  intro b hb;simp only[aI0]at hb |-
  rcases hb with hb | hb | hb
  ·exact .inl (cN b hb)
  ·exact .inl (hfr b hb)
  ·exact .inr hb
 have W0:Weak (Ae own loc) (Ae own0 fun j=>loc ((BN ρ j).getD 0)) (Ab own loc++M) (Ab own0 (fun j=>loc ((BN ρ j).getD 0))++(Ab (Bo own ((ρ++ν).map (·.1))) loc++M)) w.heap w.heap 0 :=
  ⟨fun id r l hr=>by omega,fun b o _ (_:Hi o=true) ho=>ho,fun b o hb (_:Hi o=true) _ hm=>hb (hM b hm)⟩
 have L0:Hf (Ae own loc) (Ae own0 fun j=>loc ((BN ρ j).getD 0)) (Ca own (Ej ρ)):=by
  intro i v p lc hp hl;obtain⟨e,h1,h2,h3⟩:=Jh hp;simp only[Ej,aR0,aT0]at h1;obtain⟨q,hq,rfl,wH,_⟩:=h1;obtain⟨e0,_,g1,_,g3⟩:=BQ hl;rw[<-h3];obtain⟨k1,k2⟩:=AN h2;rw[<-k2,AV S.nd k1,g3,<-wH,k2,mX q.1 q.2 hq]
 have S0:St own0 (fun j=>loc ((BN ρ j).getD 0)) (Ab (Bo own ((ρ++ν).map (·.1))) loc++M) w.heap:=by
  refine⟨hnd0,?_,?_,?_,?_⟩
  ·rw[jX];exact GX S.bl _ gK hselm
  ·intro b hb hm
   rcases aI0.1 hm with hm | hm
   ·exact hdis b hb hm
   ·exact S.ap b (cN b hb) hm
  ·intro b hb;exact S.lt b (hM b hb)
  ·intro x hx;obtain⟨i,e,h1,h2,h3⟩:=hm0' x hx;obtain⟨e',h4,h5⟩:=eE qY i x.id h1;rw[h2]at h4;simp only[aA0]at h4;subst h4;obtain⟨k1,k2⟩:=AN h2;rw[h3];have:=Lw W0 L0 (l:=loc i) (l':=(fun j=>loc ((BN ρ j).getD 0)) x.id) h5 (mX i x.id h1) (fun b o _ ho=>ho) (by have:=S.ok e k1;rwa[k2]at this);exact this
 have dA:=Sc (qM.2) (Zu W0 L0 qM.1 hr);refine hC _ _ _ _ ?_ (fR _ w _ vs S0 dA);rintro v w' ⟨loc0',S1,hu,wD,zV,vT⟩
 -- the way back
 have hφ:∀e∈own0',∀p,DN own ρ ν r e.id e.r=some p->(p.1,e.id)∈ρ++ν/\((e.r=0/\∃e1,Ar own p.1=some e1/\p.2=e1.r/\(p.1,e.id)∈ρ)\/(e.r=1/\p.2=r)):=by
  intro e he p hp;unfold DN at hp
  split at hp
  ·rename_i h0
   split at hp
   ·rename_i i hi
    split at hp
    ·rename_i e1 cT;simp only[aA0]at hp;subst hp;have:=Iq hi;exact⟨aN0 _ this,.inl ⟨h0,e1,cT,rfl,this⟩⟩
    ·simp at hp
   ·simp at hp
  ·split at hp
   ·rename_i h1
    split at hp
    ·rename_i i hi;simp only[aA0]at hp;subst hp;exact⟨Iq hi,.inr ⟨h1,rfl⟩⟩
    ·simp at hp
   ·simp at hp
 have hlp:∀e∈own0',∀p,DN own ρ ν r e.id e.r=some p->LD loc0' loc (ρ++ν) p.1=loc0' e.id:=fun e he p hp=>Ns hid.1 (hφ e he p hp).1
 have hotl:Ab l (LD loc0' loc (ρ++ν))=Ab own0' loc0':=Wu zB hlp
 have hotf:Ab (Bo own ((ρ++ν).map (·.1))) (LD loc0' loc (ρ++ν))=Ab (Bo own ((ρ++ν).map (·.1))) loc:=by
  unfold Ab;have:∀e∈Bo own ((ρ++ν).map (·.1)),(LD loc0' loc (ρ++ν) e.id).blks=(loc e.id).blks:=fun e he=>by rw[Nr (DI.1 he).2]
  generalize Bo own ((ρ++ν).map (·.1))=fr at this
  induction fr with
  | nil=>rfl
  | cons a t ih =>
   rw[cO0,cO0,this a aE0,ih (fun e he=>this e (aC0 _ he))]
 have cV:Ab (Bo own ((ρ++ν).map (·.1))++l) (LD loc0' loc (ρ++ν))=Ab (Bo own ((ρ++ν).map (·.1))) loc++Ab own0' loc0':=by
  rw[<-hotl,<-hotf];simp[Ab]
 have hM':∀b,b∈Ab (Bo own ((ρ++ν).map (·.1))) loc++Ab own0' loc0'++M↔b∈Ab own0' loc0'++(Ab (Bo own ((ρ++ν).map (·.1))) loc++M):=by
  intro b;simp only[aI0];constructor
  ·intro h;rcases h with (h | h) | h
   ·exact .inr (.inl h)
   ·exact .inl h
   ·exact .inr (.inr h)
  ·intro h;rcases h with h | h | h
   ·exact .inl (.inr h)
   ·exact .inl (.inl h)
   ·exact .inr h
 have hfid:∀x∈l,x.id∈(ρ++ν).map (·.1):=by
  intro x hx;obtain⟨e,he,p,hp,rfl⟩:=Gy zB x hx;exact cX0 (f:=(·.1)) (hφ e he p hp).1
 have W1:Weak (Ae own0' loc0') (Ae (Bo own ((ρ++ν).map (·.1))++l) (LD loc0' loc (ρ++ν))) (Ab own0' loc0'++(Ab (Bo own ((ρ++ν).map (·.1))) loc++M)) (Ab (Bo own ((ρ++ν).map (·.1))++l) (LD loc0' loc (ρ++ν))++M) w'.heap w'.heap 0 :=
  ⟨fun id r l hr=>by omega,fun b o _ (_:Hi o=true) ho=>ho,fun b o hb (_:Hi o=true) _ hm=>hb (by rw[cV]at hm;exact(hM' b).1 hm)⟩
 have L1:Hf (Ae own0' loc0') (Ae (Bo own ((ρ++ν).map (·.1))++l) (LD loc0' loc (ρ++ν))) (DN own ρ ν r):=by
  intro j v p lc hp hl;obtain⟨x,hx,g1,g2,g3⟩:=BQ hl
  have hpj:(p.1,j)∈ρ++ν/\((v=0/\∃e1,Ar own p.1=some e1/\p.2=e1.r)\/(v=1/\p.2=r)):=by
   unfold DN at hp
   split at hp
   ·rename_i h0
    split at hp
    ·rename_i i hi
     split at hp
     ·rename_i e1 cT;simp only[aA0]at hp;subst hp;exact⟨aN0 _ (Iq hi),.inl ⟨h0,e1,cT,rfl⟩⟩
     ·simp at hp
    ·simp at hp
   ·split at hp
    ·rename_i h1
     split at hp
     ·rename_i i hi;simp only[aA0]at hp;subst hp;exact⟨Iq hi,.inr ⟨h1,rfl⟩⟩
     ·simp at hp
    ·simp at hp
  have hpi:p.1∈(ρ++ν).map (·.1):=cX0 (f:=(·.1)) hpj.1
  rcases aI0.1 hx with hx | hx
  ·exact absurd (g1▸hpi) (DI.1 hx).2
  ·obtain⟨e,he,q,hq,rfl⟩:=Gy zB x hx;simp only at g1 g2;obtain⟨q1,q2⟩:=hφ e he q hq;have hej:e.id=j:=KW_ hid.1 (by rw[<-g1];exact q1) hpj.1;subst hej
   have kS:e.r=v:=by
    rcases q2 with ⟨a1,e1,a2,a3,_⟩ | ⟨a1,a2⟩<;>rcases hpj.2 with ⟨b1,e2,b2,b3⟩ | ⟨b1,b2⟩
    ·omega
    ·exfalso;have:=(Bs (AN a2).1).1;omega
    ·exfalso;have:=(Bs (AN b2).1).1;omega
    ·omega
   subst kS;rw[AV S1.nd he,g3,<-g1,Ns hid.1 q1]
 have hkeep:∀e∈Bo own ((ρ++ν).map (·.1)),∀b o,b∈(loc e.id).blks->w.heap[b]? =some o->w'.heap[b]? =some o:=by
  intro e he b o hb ho;have hbf:b∈Ab (Bo own ((ρ++ν).map (·.1))) loc:=Bm he hb;rw[hu.blk b (aF0.1 ho).1 (fun h=>hdis b h hbf)];exact ho
 have W2:Weak (Ae own loc) (Ae (Bo own ((ρ++ν).map (·.1))++l) (LD loc0' loc (ρ++ν))) (Ab own loc++M) (Ab (Bo own ((ρ++ν).map (·.1))++l) (LD loc0' loc (ρ++ν))++M) w.heap w'.heap r:=by
  refine⟨?_,?_,?_⟩
  ·intro id v lc hv hl;obtain⟨x,hx,rfl,rfl,rfl⟩:=BQ hl
   rcases aI0.1 hx with hx | hx
   ·have:=DI.1 hx;rw[AV S.nd this.1,Nr this.2]
   ·obtain⟨e,he,q,hq,rfl⟩:=Gy zB x hx;simp only at hv |-;obtain⟨q1,q2⟩:=hφ e he q hq
    rcases q2 with ⟨a1,e1,a2,a3,a4⟩ | ⟨a1,a2⟩
    ·have h1:=zV e he (by omega);obtain⟨x0,k1,k2,k3,k4⟩:=BQ h1;obtain⟨m1,m2⟩:=AN a2;rw[Ns hid.1 q1,k4,mX _ _ a4,a3,<-m2,AV S.nd m1]
    ·omega
  ·intro b o hb (_:Hi o=true) ho;rw[hu.blk b (aF0.1 ho).1 (fun h=>hb (aN0 _ (cN b h)))];exact ho
  ·intro b o hb (_:Hi o=true) ho hm;rw[cV]at hm;have qV:=(aF0.1 ho).1;simp only[aI0]at hm hb
   rcases hm with (hm | hm) | hm
   ·exact hb (.inl (hfr b hm))
   ·rcases wD b hm with h | h
    ·exact hb (.inl (cN b h))
    ·omega
   ·exact hb (.inr hm)
 refine⟨LD loc0' loc (ρ++ν),⟨hnd,?_,?_,?_,?_⟩,?_,?_,?_,?_⟩
 ·rw[cV,bV0];refine⟨(El S.bl _ ?_ (fun e he=>(DI.1 he).1)),S1.bl,?_⟩
  ·exact((At_ own _).map _).nodup S.nd
  ·intro b hb b' qD jZ;subst jZ;exact S1.ap b qD (aN0 _ hb)
 ·intro b hb hm;rw[cV]at hb
  rcases aI0.1 hb with hb | hb
  ·exact S.ap b (hfr b hb) hm
  ·exact S1.ap b hb (aP0 _ hm)
 ·intro b hb;rw[cV]at hb;exact S1.lt b ((hM' b).1 hb)
 ·intro x hx
  rcases aI0.1 hx with hx | hx
  ·have hm:=DI.1 hx;have:=Bp W2 (Nat.le_trans (Bs hm.1).2 vF) (hkeep x hx) (S.ok x hm.1)
   rwa[Nr hm.2]
  ·obtain⟨e,he,q,hq,rfl⟩:=Gy zB x hx;exact Lw W1 L1 (Ss nR e he) (hlp e he q hq) (fun b o _ ho=>ho) (S1.ok e he)
 ·refine⟨hu.os,hu.tape,hu.output,hu.drawn,hu.size,fun b hb hn=>hu.blk b hb fun h=>hn (cN b h)⟩
 ·intro b hb;rw[cV]at hb
  rcases aI0.1 hb with hb | hb
  ·exact .inl (hfr b hb)
  ·rcases wD b hb with h | h
   ·exact .inl (cN b h)
   ·exact .inr h
 ·intro x hx qV;exact W2.c x.id x.r _ qV (AV hnd hx)
 ·exact QK W1 L1 fB vT
theorem Qy {P:Program} {f:Fn} {args args0:List DVal} {own own0 own0' l:List Ent} {d0:DVal} {r:Nat} (ρ ν:List (Nat×Nat)) (hS:AS P f args0 own0 d0 own0')
  (vV:Mo own (Ca own (Ej ρ)) (Ej ρ)=some own0) (qY:Yb own ρ) (qM:XD args/\WL (args.map (HG (Ca own (Ej ρ)))) args0)
  (hid:((ρ++ν).map (·.1)).Nodup/\(ρ.map (·.2)).Nodup) (zB:IG (DN own ρ ν r) own0'=some l) (nR:XC own0') (fB:XE d0) (hnd:((Bo own ((ρ++ν).map (·.1))++l).map (·.id)).Nodup) :
  YG P f args own r (HG (DN own ρ ν r) d0) (Bo own ((ρ++ν).map (·.1))++l):=by
 have wB:Hj own<=r->∀i v p,DN own ρ ν r i v=some p->p.2<=r:=by
  intro vF i v p hp;unfold DN at hp
  split at hp
  ·split at hp
   ·split at hp
    ·rename_i e he;simp only[aA0]at hp;subst hp;have:=(Bs (AN he).1).1;simp only;omega
    ·simp at hp
   ·simp at hp
  ·split at hp
   ·split at hp
    ·simp only[aA0]at hp;subst hp;exact Nat.le_refl _
    ·simp at hp
   ·simp at hp
 refine⟨hS.2.1,hnd,fun vF=>⟨KA_ (wB vF) fB,ME_ fun e he=> ?_⟩,?_⟩
 ·rcases aI0.1 he with he | he
  ·have:=Bs (DI.1 he).1;omega
  ·obtain⟨e0,h0,p,hp,rfl⟩:=Gy zB e he;exact⟨by have:=wB vF _ _ _ hp;simp only;omega,HU_ (wB vF) (Ss nR e0 h0)⟩
 exact tK (C:=HQ P f) (fun vs w R R' h hc=>hc.mono h) ρ ν (fun M w loc vs S hr=>hS.2.2 M w loc vs S hr) vV qY qM hid zB nR fB hnd
def JM (es:List (List DVal)) (i m:Nat) (es2:List (List DVal)):List (List DVal):=es.take i++es2.take m++es.drop (i+min es2.length m)
theorem FQ_ {es es2:List (List DVal)} {i m:Nat} (h:i+m<=es.length):(JM es i m es2).length=es.length:=by
 simp only[JM,aD0,bE0,bW0];omega
theorem VN {es:List (List DVal)} {k n:Nat} (h:Bx es<=n):Bx (es.take k)<=n:=Nat.le_trans (GN k es) h
theorem ES_ {es:List (List DVal)} {k n:Nat} (h:Bx es<=n):Bx (es.drop k)<=n:=Nat.le_trans (GO k es) h
theorem iO {es es2:List (List DVal)} {i m n:Nat} (h1:Bx es<=n) (h2:Bx es2<=n):Bx (JM es i m es2)<=n:=by
 unfold JM;rw[BG,BG];have:=VN (k:=i) h1;have:=VN (k:=m) h2;have:=ES_ (k:=i+min es2.length m) h1;omega
theorem Pf {k:Nat}:∀(rows:List (List Value)) (i:Nat),(∀r∈rows,r.length=k)->(rows.take i).flatten=rows.flatten.take (i*k)
 | [],i,_=>by simp
 | r::rows,0,_=>by simp
 | r::rows,i+1,h=>by
  have hr:=h r aE0;rw[dK0,eW0,eW0,Pf rows i fun x hx=>h x (aC0 _ hx),List.take_append,hr];have e1:(i+1)*k-k=i*k:=by rw[bU0];omega
  rw[e1,cL0 (l:=r) (by rw[hr,bU0];omega)]
theorem We {k:Nat}:∀(rows:List (List Value)) (i:Nat),(∀r∈rows,r.length=k)->(rows.drop i).flatten=rows.flatten.drop (i*k)
 | [],i,_=>by simp
 | r::rows,0,_=>by simp
 | r::rows,i+1,h=>by
  have hr:=h r aE0;rw[dY0,eW0,We rows i fun x hx=>h x (aC0 _ hx),List.drop_append,hr];have e1:(i+1)*k-k=i*k:=by rw[bU0];omega
  rw[e1,dE0 (l:=r) (by rw[hr,bU0];omega),List.nil_append]
section
variable {P : Program} {B : Base} {s : DS} {a : Act} {w : World} {loc : Nat -> Loc}
theorem Hb_ {cur:Fb} {M:List Nat} {H:Array Obj} {k:Nat} {es:List (List DVal)} {rows:List (List Value)} (hl:rows.length=es.length)
  (h:∀(i:Nat) (cs:List DVal) (us:List Value),es[i]? =some cs->rows[i]? =some us->cs.length=k/\AI cur M H cs us/\∀u∈us,u.oneCell'=true):∀r∈rows,r.length=k:=by
 intro r hr;obtain⟨i,hi,rfl⟩:=bK0 hr;obtain⟨h1,h2,_⟩:=h i es[i] rows[i] (aH0 _) (aH0 _);have:=AJ _ _ h2;omega
theorem Rel.copyRow {d sd:DVal} {id r k0 bs0 i m n k2:Nat} {t ty:TypeId} {et k bs:Nat} {es es2:List (List DVal)} {e:Ent} {v sv:Value} {dst:Option Nat} (R:Rel B s a w loc) (he:Ar s.own id=some e) (wO:e.r=r) (qW:e.obj= .row et k bs es)
  (hv:Bt s loc B.M0 w d v) (hd:d= .osl id r/\i=0/\m=es.length\/d= .vw id r k bs0 i m) (hb:i+m<=es.length) (ht:tElem P t=some (k,k0)) (hk:0<k)
  (hsv:Bt s loc B.M0 w sd sv) (wS:Kh s.own sd=some (k2,es2)) (yI:k2=k\/es2=[]) (fX:Bx es2<=n)
  (qF:Co B s<=n) (qI:∀i,dst=some i->i<B.nt) :
  ∃w',(Builtin.copy_ #[t,t] ty #[v,sv]).run P w= .ok (goInt (min es2.length m:Nat)) w'/\Rel B ⟨BI s.slots dst (.int .i64 (min es2.length m:Nat)),upE s.own id r (.row et k bs (JM es i m es2))⟩ (a.put dst (goInt (min es2.length m:Nat))) w' (Dc loc id (loc id)):=by
 obtain⟨e1,i1,hu,hi,qH,hby,_⟩:=BL ht;obtain⟨rows2,q1,q2,q3,q4,q5,q6⟩:=GW_ (B:=B) R.st hsv wS;obtain⟨ad,cap,rfl,yR⟩:=BQ_ (B:=B) R.st he wO qW hv hd;have qO:=(AY he).1;have hid:=(AY he).2;have vG:=(Bs qO).2;rw[qW]at vG;simp only[Fp]at vG
 have nB:∀cur M h,rd cur M h (.int .i64 (min es2.length m:Nat)) (goInt (min es2.length m:Nat)):=by
  intro cur M h;have h5:min es2.length m<=maxLen:=Nat.le_trans (Nat.min_le_left _ _) q5;unfold maxLen at h5;simp only[rd,goInt];refine⟨?_,?_⟩
  ·trivial
  ·simp only[JI];omega
 by_cases hm:min es2.length m=0
 ·have dQ:JM es i m es2=es:=by
   unfold JM;rw[hm]
   have:es2.take m=[]:=by
    rw[<-eY0,bE0];omega
   rw[this,bR0,dQ0,List.take_append_drop]
  rw[dQ];rw[hm]at nB |-
  have qB:(Builtin.copy_ #[t,t] ty #[.slice ad m cap,sv]).run P w= .ok (goInt 0) w:=by
   have hl:∀(x:Addr),(loadCells x 0).run P w= .ok #[] w:=fun x=>by simpa using run_loadCells_list (P:=P) w x [] (by simp)
   rcases q6 with ⟨_,x,cap2,rfl⟩ | ⟨x,cap2,rfl,_⟩
   ·cases ad<;>cases x<;>simp[Builtin.copy_,run_underlying hu,Builtin.lenOf,Builtin.firstCells,sizeOf,typeInfo,hi,storeCells,hl]
   ·have vE:Nat.min es2.length m=0:=hm;cases ad<;>simp[Builtin.copy_,run_underlying hu,Builtin.lenOf,Builtin.firstCells,sizeOf,typeInfo,hi,storeCells,hl,vE]
  refine⟨w,qB,?_⟩;have qE:Ae s.own loc id r=some (loc id):=by unfold Ae;rw[he];simp[wO]
  have zZ:=R.st.ok e qO;rw[qW,hid]at zZ
  have hL:∀b0,b0∈(loc id).blks->b0<w.heap.size/\((∃e∈s.own,e.id=id/\b0∈(loc id).blks)\/w.heap.size<=b0):=fun b0 qR =>
   ⟨R.st.lt b0 (aN0 _ (Bm qO (by rw[hid];exact qR))),.inl ⟨e,qO,hid,qR⟩⟩
  have W:=R.weakUp (obj:= .row et k bs es) qF (Upd.refl _ w) hL (.inr qE);unfold Co at qF;exact R.up (hLn:=by have:=DM R.st.bl e qO;rwa[hid]at this) (n:=n) qF qI (Upd.refl _ w) (fun _ _ _=>rfl) hL (.inr qE) (Bp W (by simp only[Fp];omega) (fun _ _ _ h=>h) zZ) (nB _ _ _)
 ·have qZ:k2=k:=by
   rcases yI with h | h
   ·exact h
   ·subst h;simp at hm
  subst qZ;obtain⟨b,wQ,rfl⟩:=yR (by omega);obtain⟨h7,b',arr,cap',h1,h2,h3,h4,h5,h6,wC⟩:=Xk (B:=B) R.st he qW (by intro h;subst h;simp at hb;omega);rw[h1]at wQ;simp only[bG0,and_true]at wQ;subst wQ;have kB:es.length*k2<=arr.size:=by rw[<-h6];exact aS0 _ h4
  rcases q6 with ⟨rfl,_⟩ | ⟨x,cap2,rfl,q6⟩
  ·simp at hm
  obtain⟨c,hc⟩:∃c,c=min es2.length m:=⟨_,rfl⟩;rw[<-hc]at hm nB |-;have hrk2:=Hb_ q1 q2;have zS:(rows2.take c).flatten=rows2.flatten.take (c*k2):=Pf rows2 c hrk2
  have mE:(rows2.take c).flatten.length=c*k2:=by
   rw[zS,bE0,q3];have:c*k2<=es2.length*k2:=aS0 _ (by omega);omega
  have qP:∀u∈(rows2.take c).flatten,u.oneCell'=true:=fun u zH=>q4 u (by rw[zS]at zH;exact cG0 zH)
  have hsrcc:∀(j:Nat) (u:Value),(rows2.take c).flatten[j]? =some u->w.cell? (x.add j)=some u:=by
   intro j u hj;have qV:=(aB0.1 hj).1;rw[mE]at qV;rw[zS,bX0 qV]at hj;exact q6 j u hj
  have pS:=run_loadCells_list (P:=P) w x (rows2.take c).flatten hsrcc
  have vZ:i*k2+c*k2<=arr.size:=by
   rw[<-bU0];exact Nat.le_trans (aS0 _ (by omega)) kB
  have qL:=run_storeCells_at P b' (i*k2) et (rows2.take c).flatten 0 arr w h3 (by rw[mE];omega) qP;simp only[dQ0]at qL;obtain⟨rows,r1,r2,r3,r4⟩:=FG k2 es arr 0 wC;have hrk:=Hb_ r1 r3;have rW:=HX r2 r4 kB;have gQ:arr.toList=rows.flatten++arr.toList.drop (es.length*k2):=by rw[<-rW,List.take_append_drop]
  have gZ:i*k2<=rows.flatten.length:=by rw[r2];exact aS0 _ (by omega)
  have hic:i*k2+c*k2<=rows.flatten.length:=by rw[r2,<-bU0];exact aS0 _ (by omega)
  have wD:(arr.toList.take (i*k2)++(rows2.take c).flatten++arr.toList.drop (i*k2+(rows2.take c).flatten.length))=(rows.take i++rows2.take c++rows.drop (i+c)).flatten++arr.toList.drop (es.length*k2):=by
   have e_t:rows.flatten.take (i*k2)=arr.toList.take (i*k2):=by rw[<-rW,List.take_take,Nat.min_eq_left (by rw[r2]at gZ;exact gZ)]
   have e_d:arr.toList.drop (i*k2+c*k2)=rows.flatten.drop ((i+c)*k2)++arr.toList.drop (es.length*k2):=by
    rw[bU0]
    conv=>lhs;rw[gQ]
    exact eO0 hic
   rw[mE,List.flatten_append,List.flatten_append,Pf rows i hrk,We rows (i+c) hrk,e_t,e_d,aQ0,aQ0,aQ0]
  refine⟨_,?_,R.writeRow (es':=JM es i m es2) (arr':=(arr.toList.take (i*k2)++(rows2.take c).flatten++arr.toList.drop (i*k2+(rows2.take c).flatten.length)).toArray) he wO qW h1 h2 h3 h4 h5 h6 h7 (FQ_ hb) ?_ ?_ (iO (by unfold Co at qF;omega) fX) qF qI nB⟩
  ·have mB:c=Nat.min es2.length m:=hc;have hls:es2.length=es2.length:=rfl;rw[mE]at pS;simp[Builtin.copy_,run_underlying hu,Builtin.lenOf,Builtin.firstCells,sizeOf,typeInfo,hi,<-mB,qH,pS,qL, -List.length_flatten]
  ·simp only[dL0,aD0,bE0,bW0,bQ0,mE];omega
  ·rw[wD];refine Xs k2 _ _ _ ?_ ?_
   ·simp only[JM,aD0,bE0,bW0];omega
   ·intro j cs us hj zH;unfold JM at hj;rw[<-hc]at hj
    by_cases cZ:j<i
    ·rw[aQ0,aZ0 (by simp;omega),bX0 cZ]at hj;rw[aQ0,aZ0 (by simp;omega),bX0 cZ]at zH;exact r3 j cs us hj zH
    ·by_cases jH:j<i+c
     ·rw[aZ0 (by simp;omega),bD0 (by simp;omega),bE0,Nat.min_eq_left (by omega),bX0 (by omega)]at hj;rw[aZ0 (by simp;omega),bD0 (by simp;omega),bE0,Nat.min_eq_left (by omega),bX0 (by omega)]at zH;exact q2 _ cs us hj zH
     ·rw[bD0 (by simp;omega),dD0]at hj;rw[bD0 (by simp;omega),dD0]at zH;simp only[aD0,bE0]at hj zH;rw[show i+c+(j-(min i es.length+min m es2.length))=j by omega]at hj;rw[show i+c+(j-(min i rows.length+min c rows2.length))=j by omega]at zH;exact r3 j cs us hj zH
end
def Ba (x:ByteArray):List (List DVal):=x.data.toList.map fun b=>[.int .u8 b.toNat]
theorem Bf (x:ByteArray):(Ba x).length=x.size:=by rw[Ba,aL0];rfl
@[simp] theorem Gv (x:ByteArray):Bx (Ba x)=0:=by
 unfold Ba
 induction x.data.toList with
 | nil=>rfl
 | cons b l ih=>simp[Bx,AR,mx,ih]
theorem AM_ (x y:ByteArray):Ba (x++y)=Ba x++Ba y:=by
 simp[Ba,ByteArray.data_append]
theorem AL_ (x:ByteArray) (cur:Fb) (M:List Nat) (H:Array Obj):∃rows2:List (List Value),rows2.length=(Ba x).length/\(∀(i:Nat) (cs:List DVal) (us:List Value),(Ba x)[i]? =some cs->rows2[i]? =some us->cs.length=1/\AI cur M H cs us/\∀u∈us,u.oneCell'=true) /\
   rows2.flatten.length=(Ba x).length*1/\(∀u∈rows2.flatten,u.oneCell'=true)/\rows2.flatten=Lib.strCells x:=by
 have zN:(x.data.toList.map fun b=>[Value.int .u8 b.toNat]).flatten=Lib.strCells x:=by
  unfold Lib.strCells
  induction x.data.toList with
  | nil=>rfl
  | cons b l ih=>simp[ih]
 refine⟨x.data.toList.map fun b=>[.int .u8 b.toNat],by simp[Ba],?_,by rw[zN,Lib.strCells_length,Bf,Nat.mul_one],by rw[zN];exact Lib.strCells_oneCell x,zN⟩;intro i cs us hc hu;simp only[Ba,bN0,bC0]at hc hu;obtain⟨b,hb,rfl⟩:=hc;obtain⟨b',qD,rfl⟩:=hu;rw[hb]at qD;simp only[aA0]at qD;subst qD;refine⟨rfl,?_,by simp[Value.oneCell']⟩;simp only[AI,rd];exact⟨_,_,rfl,⟨rfl,by have:=UInt8.toNat_lt b;simp only[JI];omega⟩,rfl⟩
section
variable {P : Program} {B : Base} {s : DS} {a : Act} {w : World} {loc : Nat -> Loc}
theorem Ga {t t2 ty e:TypeId} {i:TypeInfo} {x:ByteArray} (hu:P.underlying t=some (.slice e)) (hu2:P.underlying t2=some .string) (hi:P.info? e=some i) (hx:x.size=0) {y:Option Addr} {m cap:Nat} (vE:m<=cap) :
  (Builtin.append_ #[t,t2] ty #[.slice y m cap,.string x]).run P w= .ok (.slice y m cap) w:=by
 have hf:=Lib.run_firstCells_string (P:=P) w i.size x;have hn:Lib.strCells x=[]:=bO0 (by rw[Lib.strCells_length];exact hx);rw[hx,hn]at hf;cases y<;>simp[Builtin.append_,run_underlying hu,run_underlying hu2,sizeOf,typeInfo,hi,Builtin.lenOf,hx,hf,vE,storeCells]
theorem Rel.appendStr {id n:Nat} {t t2 ty e:TypeId} {k bs:Nat} {es:List (List DVal)} {x:ByteArray} {dv:Value} {dst:Option Nat} (R:Rel B s a w loc) (qF:Co B s<=n) (qI:∀i,dst=some i->i<B.nt)
  (ht:tElem P t=some (k,bs)) (kP:tElemId P t=some e) (hz:zeroOK P t=true) (hk:0<k) (wC:DG_ s loc w B.M0 id e k bs es dv) (fF:Bx es<=n)
  (nG:P.underlying t2=some .string) (kR:k=1) (hb:(es.length+x.size)*bs<=150000000000000) (wW:bs<=65536) (hl:es.length+x.size<=maxLen) :
  ∃v' w' L,(Builtin.append_ #[t,t2] ty #[dv,.string x]).run P w= .ok v' w'/\Rel B ⟨BI s.slots dst (.osl id n),upE s.own id n (.row e k bs (es++Ba x))⟩ (a.put dst v') w' (Dc loc id L):=by
 obtain⟨e',i,hu,hi,qH,hby,_⟩:=BL ht;have pY:e'=e:=by unfold tElemId at kP;rw[hu]at kP;simpa using kP
 subst pY
 obtain⟨z,kK,hzs⟩:∃z,i.zero=some z/\z.cells.size=k:=by
  unfold zeroOK at hz;rw[hu]at hz;simp only[hi]at hz
  cases hq:i.zero with
  | none=>simp[hq]at hz
  | some z=>simp only[hq,beq_iff_eq]at hz;exact⟨z,rfl,by rw[hz,qH]⟩
 obtain⟨es2,pJ⟩:∃es2,es2=Ba x:=⟨_,rfl⟩;rw[<-pJ];have gL:es2.length=x.size:=by rw[pJ,Bf]
 obtain⟨rows2,q1,q2,q3,q4,zN⟩:∃rows2:List (List Value),rows2.length=es2.length/\(∀(i:Nat) (cs:List DVal) (us:List Value),es2[i]? =some cs->rows2[i]? =some us->cs.length=k/\AI (cu s loc) (hm s loc B.M0) w.heap cs us/\∀u∈us,u.oneCell'=true) /\
   rows2.flatten.length=es2.length*k/\(∀u∈rows2.flatten,u.oneCell'=true)/\rows2.flatten=Lib.strCells x:=by
  rw[pJ,kR];exact AL_ x _ _ _
 have fX:Bx es2<=n:=by rw[pJ,Gv];exact cH0 _
 rw[<-gL]at hb hl;have yU:(es++es2).length*bs<=150000000000000:=by simpa using hb
 have mx12:Bx (es++es2)<=n:=by rw[BG];omega
 -- what the slot reads at the end
 have rdEnd:∀(L:Loc) (h:Array Obj) (obj:DObj),rd (Ae (upE s.own id n obj) (Dc loc id L)) (Ab (upE s.own id n obj) (Dc loc id L)++B.M0) h (.osl id n) L.hdr:=by
  intro L h obj;simp only[rd];intro l wI;rw[DL]at wI;simp only[aA0]at wI;rw[wI]
 ·by_cases fH:es2.length=0
  ·have zX:es2=[]:=bO0 fH;have hx0:x.size=0:=by omega
   rw[zX,bR0];rw[zX,bR0]at yU
   rcases wC with ⟨rfl,rfl⟩ | ⟨e0,qO,hid,b,arr,cap,kT,rfl,h3,h4,h5,h6,h7⟩
   ·refine⟨_,w,⟨[],.slice none 0 0⟩,Ga hu nG hi hx0 (Nat.le_refl _),?_⟩;refine R.up (L:=⟨[],.slice none 0 0⟩) qF qI (Upd.refl _ _) (fun b hb _=>rfl) (fun b hb=>by simp at hb) (.inl (Nat.le_refl _)) ⟨by simp,.inl ⟨rfl,rfl,rfl⟩⟩ (rdEnd ⟨[],.slice none 0 0⟩ _ _)
   ·have h1:b∈(loc id).blks:=by rw[kT];simp
    refine⟨_,w,⟨[b],.slice (some ⟨b,0,none⟩) es.length cap⟩,Ga hu nG hi hx0 h4,?_⟩
    have hL:∀b0,b0∈(⟨[b],.slice (some ⟨b,0,none⟩) es.length cap⟩:Loc).blks->b0<w.heap.size/\((∃e∈s.own,e.id=id/\b0∈(loc id).blks)\/w.heap.size<=b0):=by
     intro b0 qR;simp only[aG0]at qR;subst qR;exact⟨(aF0.1 h3).1,.inl ⟨e0,qO,hid,h1⟩⟩
    have W:=R.weakUp (obj:= .row e' k bs es) (r:=n) qF (Upd.refl _ _) hL (.inl (Nat.le_refl _));exact R.up (L:=⟨[b],.slice (some ⟨b,0,none⟩) es.length cap⟩) qF qI (Upd.refl _ _) (fun b hb _=>rfl) hL (.inl (Nat.le_refl _)) ⟨yU,.inr ⟨b,arr,cap,rfl,rfl,h3,h4,h5,h6,Cx W k es arr 0 fF h7⟩⟩ (rdEnd ⟨[b],.slice (some ⟨b,0,none⟩) es.length cap⟩ _ _)
  ·
   subst qH
   subst hby;have wI:es.length+es2.length<=9223372036854775807:=by unfold maxLen at hl;omega
   -- a new row, whatever it held before
   have fresh:∀(rows:List (List Value)) (cap:Nat),es.length<=cap\/True->rows.length=es.length->rows.flatten.length=es.length*i.size ->
     (∀(j:Nat) (cs:List DVal) (us:List Value),es[j]? =some cs->rows[j]? =some us->cs.length=i.size/\AI (cu s loc) (hm s loc B.M0) w.heap cs us/\∀u∈us,u.oneCell'=true) ->
     Rel B ⟨BI s.slots dst (.osl id n),upE s.own id n (.row e' i.size i.bytes (es++es2))⟩ (a.put dst (.slice (some ⟨w.heap.size,0,none⟩) (es.length+es2.length) (grownCap w (es.length+es2.length) cap e')))
      (w.drew.alloc (.cells (rows.flatten.toArray++rows2.flatten.toArray++Builtin.zeroCells z.cells (grownCap w (es.length+es2.length) cap e'-(es.length+es2.length))) e')) (Dc loc id ⟨[w.heap.size],.slice (some ⟨w.heap.size,0,none⟩) (es.length+es2.length) (grownCap w (es.length+es2.length) cap e')⟩):=by
    intro rows cap _ r1 r2 r3
    have hw:Upd (Ab s.own loc) w (w.drew.alloc (.cells (rows.flatten.toArray++rows2.flatten.toArray++Builtin.zeroCells z.cells (grownCap w (es.length+es2.length) cap e'-(es.length+es2.length))) e')) :=
     (Upd.drew _ w).trans (Upd.alloc _ w.drew _) (fun x hx=> .inl hx)
    have hL:∀b0,b0∈(⟨[w.heap.size],.slice (some ⟨w.heap.size,0,none⟩) (es.length+es2.length) (grownCap w (es.length+es2.length) cap e')⟩:Loc).blks->b0<(w.drew.alloc (.cells (rows.flatten.toArray++rows2.flatten.toArray++Builtin.zeroCells z.cells (grownCap w (es.length+es2.length) cap e'-(es.length+es2.length))) e')).heap.size/\((∃e∈s.own,e.id=id/\b0∈(loc id).blks)\/w.heap.size<=b0):=by
     intro b0 qR;simp only[aG0]at qR;subst qR;exact⟨by simp,.inr (Nat.le_refl _)⟩
    have W:=R.weakUp (obj:= .row e' i.size i.bytes (es++es2)) (r:=n) qF hw hL (.inl (Nat.le_refl _));have jU:=grownCap_ge w (es.length+es2.length) cap e';have hcm:=grownCap_le_maxLen w (es.length+es2.length) cap e' hl;refine R.up qF qI hw (fun b hb _=>by simp only[World.alloc,bI0,World.drew];rw[if_neg (by omega)]) hL (.inl (Nat.le_refl _)) ⟨yU,.inr ⟨w.heap.size,_,_,rfl,by simp,heap_alloc_new w.drew _,by simpa using jU,hcm,?_,?_⟩⟩ (rdEnd ⟨[w.heap.size],.slice (some ⟨w.heap.size,0,none⟩) (es.length+es2.length) (grownCap w (es.length+es2.length) cap e')⟩ _ _)
    ·simp only[Array.size_append,dL0,size_zeroCells,hzs,r2,q3,<-bU0]
     congr 1
     omega
    ·have:=Nv (k:=i.size) r1 q1 (EA W fF r3) (EA W fX q2) (Builtin.zeroCells z.cells (grownCap w (es.length+es2.length) cap e'-(es.length+es2.length))).toList
     have e1:(rows.flatten++rows2.flatten++(Builtin.zeroCells z.cells (grownCap w (es.length+es2.length) cap e'-(es.length+es2.length))).toList).toArray=rows.flatten.toArray++rows2.flatten.toArray++Builtin.zeroCells z.cells (grownCap w (es.length+es2.length) cap e'-(es.length+es2.length)):=by
      apply Array.ext';simp
     rw[e1]at this;exact this
   rcases wC with ⟨rfl,rfl⟩ | ⟨e0,qO,hid,b,arr,cap,kT,rfl,h3,h4,h5,h6,h7⟩
   ·have hr:=run_append_nil_string (P:=P) w t t2 ty e' i z hu nG hi kK x (by omega) (by omega) (by rw[<-gL];simp only[List.length_nil,bS0]at hb;omega)
    have e1:(x.data.map fun b=>Value.int .u8 b.toNat)=(Lib.strCells x).toArray:=by
     apply Array.ext'
     simp[Lib.strCells]
    rw[e1,<-zN,<-gL]at hr;have hf:=fresh [] 0 (.inr trivial) rfl (by simp) (by simp);simp only[List.length_nil,bS0,List.nil_append,List.flatten_nil,Array.empty_append]at hf hr |-;exact⟨_,_,_,hr,hf⟩
   ·have h1:b∈(loc id).blks:=by rw[kT];simp
    obtain⟨rows,r1,r2,r3,r4⟩:=FG i.size es arr 0 h7;have mW:es.length*i.size<=arr.size:=by rw[<-h6];exact aS0 _ h4
    by_cases jD:es.length+es2.length<=cap
    ·have vZ:es.length*i.size+rows2.flatten.length<=arr.size:=by rw[q3,<-h6,<-bU0];exact aS0 _ jD
     have hr:=Lib.run_append_room_string (P:=P) w t t2 ty e' i hu nG hi kR b es.length cap arr h3 x (by omega) (by rw[q3,kR]at vZ;omega)
     have e2:arr.toList.take es.length++Lib.strCells x++arr.toList.drop (es.length+x.size)=arr.toList.take (es.length*i.size)++rows2.flatten++arr.toList.drop (es.length*i.size+rows2.flatten.length):=by
      rw[q3,zN,kR,Nat.mul_one,Nat.mul_one,gL]
     rw[e2,<-gL]at hr;refine⟨_,_,⟨[b],.slice (some ⟨b,0,none⟩) (es.length+es2.length) cap⟩,hr,?_⟩;have hw:Upd (Ab s.own loc) w (w.setRow b (arr.toList.take (es.length*i.size)++rows2.flatten++arr.toList.drop (es.length*i.size+rows2.flatten.length)).toArray):=Upd.setRow qO (by rw[hid];exact h1) w _
     have hL:∀b0,b0∈(⟨[b],.slice (some ⟨b,0,none⟩) (es.length+es2.length) cap⟩:Loc).blks->b0<(w.setRow b (arr.toList.take (es.length*i.size)++rows2.flatten++arr.toList.drop (es.length*i.size+rows2.flatten.length)).toArray).heap.size/\((∃e∈s.own,e.id=id/\b0∈(loc id).blks)\/w.heap.size<=b0):=by
      intro b0 qR;simp only[aG0]at qR;subst qR;refine⟨?_,.inl ⟨e0,qO,hid,h1⟩⟩;have:=(aF0.1 h3).1;simpa using this
     have W:=R.weakUp (obj:= .row e' i.size i.bytes (es++es2)) (r:=n) qF hw hL (.inl (Nat.le_refl _));refine R.up qF qI hw ?_ hL (.inl (Nat.le_refl _)) ⟨yU,.inr ⟨b,_,cap,rfl,by simp,setRow_heap w b arr _ e' (0,0) h3,by simpa using jD,h5,?_,?_⟩⟩ (rdEnd ⟨[b],.slice (some ⟨b,0,none⟩) (es.length+es2.length) cap⟩ _ _)
     ·intro b0 qR qC;refine setRow_other w b b0 _ (fun h=>qC e0 qO hid ?_);rw[h];exact h1
     ·simp only[dL0,aD0,bE0,bW0,bQ0];omega
     ·have gE:=HX r2 r4 mW;have hj:=Nv r1 q1 (EA W fF r3) (EA W fX q2) (arr.toList.drop (es.length*i.size+rows2.flatten.length));rw[<-gE]at hj;exact hj
    ·have hr:=Lib.run_append_grow_string (P:=P) w t t2 ty e' i z hu nG hi kK ⟨b,0,none⟩ es.length cap rows.flatten r2 (fun j v hj=>by rw[DX];simp only[World.cell?,h3];exact(r4 j v hj).1) x (by omega) (by omega) (by rw[<-gL];exact LU_ (by omega) hb wW);rw[<-zN,<-gL]at hr;exact⟨_,_,_,hr,fresh rows cap (.inl h4) r1 r2 r3⟩
end
def HN (own:List Ent) (et k bs:Nat):DVal->Option (Option Nat×List (List DVal))
 | .nilsl=>some (none,[])
 | .osl id r=>match Ar own id with
  | some e=>if e.r=r then (match e.obj with | .row et' k' bs' es=>if et'=et/\k'=k/\bs'=bs then some (some id,es)else none | _=>none)else none
  | none=>none
 | _=>none
structure ERes where
 pre:Prop
 d:DVal
 own:List Ent
section
variable (P : Program) (nt : Nat) (ow : List Nat)
def Bw (o:Oper):Bool:=match o.op with
 | .box _ _=>match o.dst with | some i=>ow.contains i | none=>false
 | .buildSlice _ _ _=>match o.dst with | some i=>ow.contains i | none=>false
 | .alloc _=>true
 | .store _ _ _=>true
 | .makeMap _ _=>true
 | .mapUpdate _ _ _ _=>true
 | .makeSlice _ _ _=>true
 | .call c=>match c.callee with | .builtin .append=>(match o.dst with | some i=> !ow.contains (i+1000000) | none=>true) | .builtin .clear=>true | .builtin .copy=>true | .builtin .delete=>true | .value _=>(match o.dst with | some i=>ow.contains i | none=>false) | _=>false
 | _=>false
def strOf : DVal->Option ByteArray
 | .str x=>some x
 | _=>none
def NF (own:List Ent) (dst:Option Nat) (r:Nat):List DVal->List TypeId->Option ERes
 | [a,b],[t,t']=>match dst,tElem P t,tElemId P t with
  | some i,some (k,bs),some et=>match strOf b with
   | some x=>match HN own et k bs a with
    | some (id,es)=>some ⟨tStr P t'=true/\zeroOK P t=true/\k=1/\bs<=65536/\(es.length+x.size)*bs<=150000000000000/\es.length+x.size<=9223372036854775807,
     .osl (id.getD i) r,upE own (id.getD i) r (.row et k bs (es++Ba x))⟩
    | none=>none
   | none=>match HN own et k bs a,Kh own b with
    | some (id,es),some (k2,es2)=>some ⟨t'=t/\zeroOK P t=true/\0<k/\(k2=k\/es2=[])/\bs<=65536/\(es.length+es2.length)*bs<=150000000000000/\es.length+es2.length<=9223372036854775807,
     .osl (id.getD i) r,upE own (id.getD i) r (.row et k bs (es++es2))⟩
    | _,_=>none
  | _,_,_=>none
 | _,_=>none
def Fv (own:List Ent) (dst:Option Nat) (t:TypeId) (d:DVal) (id r' k i j:Nat):Option ERes:=match Ar own id with
 | some e=>match e.obj with
  | .row et k' bs es=>match es[i]? with
   | some c0=>some ⟨e.r=r'/\k'=k/\dst=none/\tCells P t=some (AP d).length/\CD own d=true/\j+(AP d).length<=k,.any,upE own id r' (.row et k' bs (es.set i (DG c0 j (AP d))))⟩
   | none=>none
  | _=>none
 | none=>none
def iI (own:List Ent) (dst:Option Nat) (r:Nat) (t:TypeId) (l c:DVal):Option ERes:=match dst,tElem P t,tElemId P t,tZeroE P t,l,c with
 | some i,some (k,bs),some et,some zs,.int _ n,.int _ m=>some ⟨zs.all (EX [])=true/\zs.length=k/\0<=n/\n<=m/\m*bs<=150000000000000/\m<=9223372036854775807,.osl i r,upE own i r (.row et k bs (List.replicate n.toNat zs))⟩
 | _,_,_,_,_,_=>none
def Tx (own:List Ent):List DVal->List TypeId->Option ERes
 | [d],[t]=>match tElem P t,tZeroE P t with
  | some (k,_),some zs=>match d with
   | .osl id r=>match Ar own id with
    | some e=>match e.obj with
     | .row et k' bs es=>some ⟨e.r=r/\k'=k/\zs.all (EX [])=true/\zs.length=k/\0<k,.tup [],upE own id r (.row et k' bs (Dg es 0 es.length zs))⟩
     | _=>none
    | none=>none
   | .vw id r k0 _ i m=>match Ar own id with
    | some e=>match e.obj with
     | .row et k' bs es=>some ⟨e.r=r/\k'=k/\k0=k/\zs.all (EX [])=true/\zs.length=k/\0<k/\i+m<=es.length,.tup [],upE own id r (.row et k' bs (Dg es i m zs))⟩
     | _=>none
    | none=>none
   | _=>none
  | _,_=>none
 | _,_=>none
def NE (own:List Ent):List DVal->List TypeId->Option ERes
 | [m,k],[t,_]=>match m,tMap P t with
  | .omp id r',some (kt,_)=>match Ar own id with
   | some e=>match e.obj with
    | .map ks vs=>some ⟨e.r=r'/\Ck P kt k=true/\ks.all (Ck P kt)=true,.tup [],upE own id r' (.map (TB ks k) (TA ks vs k))⟩
    | _=>none
   | none=>none
  | _,_=>none
 | _,_=>none
def BR_ (own:List Ent):DVal->Option (Nat×Nat×Nat×Nat×TypeId×Nat×Nat×List (List DVal))
 | .osl id r=>match Ar own id with
  | some e=>if e.r=r then (match e.obj with | .row et k bs es=>some (id,r,0,es.length,et,k,bs,es) | _=>none)else none
  | none=>none
 | .vw id r k0 _ i m=>match Ar own id with
  | some e=>if e.r=r then (match e.obj with | .row et k bs es=>if k0=k then some (id,r,i,m,et,k,bs,es)else none | _=>none)else none
  | none=>none
 | _=>none
def iJ (own:List Ent):List DVal->List TypeId->Option ERes
 | [d,s],[t,t']=>match tElem P t,BR_ own d,Kh own s with
  | some (k,_),some (id,r',i,m,et,k',bs,es),some (k2,es2)=>some ⟨t'=t/\k'=k/\0<k/\i+m<=es.length/\(k2=k\/es2=[]),.int .i64 (min es2.length m:Nat),upE own id r' (.row et k' bs (JM es i m es2))⟩
  | _,_,_=>none
 | _,_=>none
def JS (o:Oper) (ed:Operand->DVal) (own:List Ent) (r:Nat):Option ERes :=
 match o.op with
 | .box _ x=>match o.dst with
  | some i=>some ⟨CD own (ed x)=true,.bx i r 0,upE own i r (.box (AP (ed x)))⟩
  | none=>none
 | .buildSlice t len parts=>match o.dst,tElem P t,tElemId P t with
  | some i,some (k,bs),some et=>some ⟨FY P own (ed) (.buildSlice t len parts),.osl i r,upE own i r (.row et k bs (parts.toList.map fun p=>AP (ed p.2)))⟩
  | _,_,_=>none
 | .alloc t=>match o.dst,tZero P t with
  | some i,some z=>some ⟨z.all (EX [])=true,.bx i r 0,upE own i r (.box z)⟩
  | _,_=>none
 | .store t a x=>match ed a with
  | .bx id r' off=>match Ar own id with
   | some e=>match e.obj with
    | .box cs=>some ⟨e.r=r'/\o.dst=none/\tCells P t=some (AP (ed x)).length/\CD own (ed x)=true/\off+(AP (ed x)).length<=cs.length,.any,upE own id r' (.box (DG cs off (AP (ed x))))⟩
    | _=>none
   | none=>none
  | .rx id r' k i j=>Fv P own o.dst t (ed x) id r' k i j
  | _=>none
 | .makeSlice t l c=>iI P own o.dst r t (ed l) (ed c)
 | .makeMap t rv=>match rv,o.dst,tMap P t with
  | none,some i,some _=>some ⟨True,.omp i r,upE own i r (.map [] [])⟩
  | _,_,_=>none
 | .mapUpdate t m k x=>match ed m,tMap P t with
  | .omp id r',some (kt,_)=>match Ar own id with
   | some e=>match e.obj with
    | .map ks vs=>some ⟨e.r=r'/\o.dst=none/\Ck P kt (ed k)=true/\ks.all (Ck P kt)=true,.any,upE own id r' (.map (UB ks (ed k)) (UA ks vs (ed k) (ed x)))⟩
    | _=>none
   | none=>none
  | _,_=>none
 | .call c=>match c.callee with
  | .builtin .append=>NF P own o.dst r (c.args.toList.map (ed)) c.argTypes.toList
  | .builtin .clear=>Tx P own (c.args.toList.map (ed)) c.argTypes.toList
  | .builtin .copy=>iJ P own (c.args.toList.map (ed)) c.argTypes.toList
  | .builtin .delete=>NE P own (c.args.toList.map (ed)) c.argTypes.toList
  | _=>none
 | _=>none
end
section
variable {P : Program} {B : Base} {s : DS} {a : Act} {w : World} {loc : Nat -> Loc} {ow : List Nat}
theorem Sr {own:List Ent} {d:DVal} (h:EX [] d=true):EX own d=true:=by
 cases d<;>simp_all [EX,Gc,Ar,Bn]
theorem Fg {ro:Option Nat} {o:Oper} {v:Value} {w':World} {next:Act->World->Prop} {Q:Exit->Act->World->Prop} (hd:∀c,o.op≠ .defer c) (h:(execOp a.eval o).run P w= .ok (.value v) w') (hn:next (a.put o.dst v) w'):o.wpIn (wd ro) 0 P a w next Q:=by
 refine⟨fun _ _=>trivial,?_⟩;rw[Oper.semAt_eq _ _ _ hd,h,Oper.uponIn_value];exact hn
theorem WK {ro:Option Nat} {o:Oper} {w':World} {next:Act->World->Prop} {Q:Exit->Act->World->Prop} (hd:∀c,o.op≠ .defer c) (h:(execOp a.eval o).run P w= .ok .skip w') (hn:next (a.put o.dst Go.undef) w'):o.wpIn (wd ro) 0 P a w next Q:=by
 refine⟨fun _ _=>trivial,?_⟩;rw[Oper.semAt_eq _ _ _ hd,h,Oper.uponIn_skip];exact hn
theorem Wn {id:Option Nat} {i0 r et k bs:Nat} {es:List (List DVal)} {d:DVal} {v:Value} (R:Rel B s a w loc) (qF:Hj s.own<=r) (hdest:HN s.own et k bs d=some (id,es)) (ra:Bt s loc B.M0 w d v) :
  DG_ s loc w B.M0 (id.getD i0) et k bs es v/\Bx es<=r:=by
 unfold HN at hdest
 split at hdest
 ·simp only[aA0,aT0]at hdest;obtain⟨rfl,rfl⟩:=hdest;simp only[Bt,rd]at ra;exact⟨.inl ⟨rfl,ra⟩,by simp[Bx]⟩
 ·rename_i id' r'
  split at hdest
  ·rename_i e0 vI
   split at hdest
   ·rename_i wO
    split at hdest
    ·rename_i et' k' bs' es' qW
     split at hdest
     ·rename_i heq;obtain⟨rfl,rfl,rfl⟩:=heq;simp only[aA0,aT0]at hdest;obtain⟨rfl,rfl⟩:=hdest;refine⟨El_ R.st vI wO qW ra,?_⟩;have:=(Bs (AY vI).1).2;rw[qW]at this;simp only[Fp]at this;omega
     ·simp at hdest
    ·simp at hdest
   ·simp at hdest
  ·simp at hdest
 ·simp at hdest
theorem FN_ {own:List Ent} {id:Option Nat} {r et k bs:Nat} {es:List (List DVal)} {d:DVal} (hdest:HN own et k bs d=some (id,es)) (qF:Hj own<=r):Bx es<=r:=by
 unfold HN at hdest
 split at hdest
 ·simp only[aA0,aT0]at hdest;obtain⟨_,rfl⟩:=hdest;simp[Bx]
 ·split at hdest
  ·rename_i e0 vI
   split at hdest
   ·split at hdest
    ·rename_i qW
     split at hdest
     ·simp only[aA0,aT0]at hdest;obtain⟨_,rfl⟩:=hdest;have:=(Bs (AY vI).1).2;rw[qW]at this;simp only[Fp]at this;omega
     ·simp at hdest
    ·simp at hdest
   ·simp at hdest
  ·simp at hdest
 ·simp at hdest
theorem ZJ {own:List Ent} {d:DVal} {id r i m:Nat} {et:TypeId} {k bs:Nat} {es:List (List DVal)} (h:BR_ own d=some (id,r,i,m,et,k,bs,es)) :
  ∃e bs0,Ar own id=some e/\e.r=r/\e.obj= .row et k bs es/\(d= .osl id r/\i=0/\m=es.length\/d= .vw id r k bs0 i m):=by
 unfold BR_ at h
 split at h
 ·split at h
  ·rename_i e he
   split at h
   ·rename_i wO
    split at h
    ·rename_i qW;simp only[aA0,aT0]at h;obtain⟨rfl,rfl,rfl,rfl,rfl,rfl,rfl,rfl⟩:=h;exact⟨e,0,he,wO,qW,.inl ⟨rfl,rfl,rfl⟩⟩
    ·simp at h
   ·simp at h
  ·simp at h
 ·rename_i bs0 _ _
  split at h
  ·rename_i e he
   split at h
   ·rename_i wO
    split at h
    ·rename_i qW
     split at h
     ·rename_i hk;simp only[aA0,aT0]at h;obtain⟨rfl,rfl,rfl,rfl,rfl,rfl,rfl,rfl⟩:=h;exact⟨e,bs0,he,wO,qW,.inr (by rw[hk])⟩
     ·simp at h
    ·simp at h
   ·simp at h
  ·simp at h
 ·simp at h
theorem Zn {own:List Ent} {s:DVal} {k2:Nat} {es2:List (List DVal)} {n:Nat} (h:Kh own s=some (k2,es2)) (h1:Hj own<=n) (h2:mx s<=n):Bx es2<=n:=by
 unfold Kh at h
 split at h
 ·simp only[aA0,aT0]at h;obtain⟨_,rfl⟩:=h;simp[Bx]
 ·simp only[aA0,aT0]at h;obtain⟨_,rfl⟩:=h;simp[Bx]
 ·rw[bC0]at h;obtain⟨⟨k',b',es'⟩,h3,h4⟩:=h;simp only[aT0]at h4;obtain⟨_,rfl⟩:=h4;have:=OH h3;omega
theorem OS_ {o:Oper} {r:Nat} {x:ERes} {ed:Operand->DVal} {next:Act->World->Prop} {Q:Exit->Act->World->Prop} (R:Rel B s a w loc) (hr:Co B s<=r) (hd:Cp B.nt o.dst=true) (yN:∀x∈o.op.operands,Bt s loc B.M0 w (ed x) (a.eval x)) (gU:∀x∈o.op.operands,mx (ed x)<=Lj s.slots) (h:JS P o ed s.own r=some x) (hp:x.pre)
  (hn:∀a' w' loc',Rel B ⟨BI s.slots o.dst x.d,x.own⟩ a' w' loc'->next a' w'):o.wpIn (wd B.ro) 0 P a w next Q:=by
 have qF:=hr;unfold Co at qF;obtain⟨dst,op,type,pos,after,guard⟩:=o;simp only at hd hn |-;unfold JS at h;simp only at h;cases op<;>simp only[reduceCtorEq]at h
 case box t y =>
  cases dst with
  | none=>simp at h
  | some i =>
   simp only[aA0]at h;subst h;simp only at hp hn;obtain⟨h1,h2⟩:=IC R.st hp (yN y (by simp[Op.operands,Call.operands]));have:=R.newBox (id:=i) (n:=r) (cs:=AP (ed y)) (us:=(a.eval y).cells.toList) (ty:=t) (dst:=some i) hr (by rw[CJ];have:=gU y (by simp[Op.operands,Call.operands]);omega) (fun j hj=>by simp only[aA0]at hj;subst hj;simpa[Cp]using hd) h1 h2
   have qB:(execOp a.eval ⟨some i,.box t y,type,pos,after,guard⟩).run P w= .ok (.value (.pointer (some ⟨w.heap.size,0,none⟩))) (w.alloc (.cells (a.eval y).cells.toList.toArray t)):=by
    simp[execOp,Instr.box,newVar,newRow]
   exact Fg (fun c hc=>by cases hc) qB (hn _ _ _ this)
 case buildSlice t len parts =>
  split at h
  ·rename_i i k bs et ht kP;simp only[aA0]at h;subst h;simp only at hp hn;simp only[FY,ht]at hp;obtain⟨h1,h2,h3,h4,h5,h6,h7⟩:=hp;have qU:parts.toList.length=len:=by have:=congrArg List.length h1;simpa using this
   obtain⟨e,us,hu,qB,jT,vT⟩:=Kg (P:=P) (M0:=B.M0) (vs:=parts.map fun p=>(p.1,a.eval p.2)) R.st ht h5 h2 h3 h4 (ds:=parts.toList.map fun p=>ed p.2) (by rw[eE0,cC0];exact h1) (by simpa using qU) (by simpa[List.all_map,Function.comp_def]using h6) (by
    intro i d q hd hq;simp only[bN0,bC0,eE0]at hd hq;obtain⟨a',ha,rfl⟩:=hd;obtain⟨b,hb,rfl⟩:=hq;rw[ha]at hb;simp only[aA0]at hb;subst hb
    exact yN a'.2 (by simpa[Op.operands]using ⟨a'.1,by simpa using bH0 ha⟩)) h7
   have pY:e=et:=by unfold tElemId at kP;rw[hu]at kP;simpa using kP
   subst pY
   have hL:∀b0,b0∈(⟨[w.heap.size],.slice (some ⟨w.heap.size,0,none⟩) len len⟩:Loc).blks->b0<(w.alloc (.cells us.toArray e)).heap.size/\((∃e∈s.own,e.id=i/\b0∈(loc i).blks)\/w.heap.size<=b0):=by
    intro b0 qR;simp only[aG0]at qR;subst qR;exact⟨by simp,.inr (Nat.le_refl _)⟩
   have hw:=Upd.alloc (Ab s.own loc) w (.cells us.toArray e)
   have vF:Bx (parts.toList.map fun p=>AP (ed p.2))<=r:=by
    refine QR fun cs hm=> ?_
    obtain⟨p,hp,rfl⟩:=aR0.1 hm;rw[CJ];have:=gU p.2 (by simpa[Op.operands]using ⟨p.1,by simpa using hp⟩);omega
   have W:=R.weakUp (obj:= .row e k bs (parts.toList.map fun p=>AP (ed p.2))) (r:=r) hr hw hL (.inl (Nat.le_refl _))
   have R':=R.up (id:=i) (r:=r) (obj:= .row e k bs (parts.toList.map fun p=>AP (ed p.2))) (L:=⟨[w.heap.size],.slice (some ⟨w.heap.size,0,none⟩) len len⟩) (v:= .slice (some ⟨w.heap.size,0,none⟩) len len) (d:= .osl i r) (dst:=some i) hr
    (fun j hj=>by simp only[aA0]at hj;subst hj;simpa[Cp]using hd) hw (fun b hb _=>by simp only[World.alloc,bI0];rw[if_neg (by omega)]) hL (.inl (Nat.le_refl _))
    ⟨by simpa[qU]using h3,.inr ⟨w.heap.size,us.toArray,len,rfl,by simp[qU],heap_alloc_new w _,by simp[qU],by unfold maxLen;omega,by simp[jT],Cx W k _ _ 0 vF (by simpa[cC0,Function.comp_def]using vT)⟩⟩
    (by
     simp only[rd];intro l hl;rw[DL]at hl;simp only[aA0]at hl
     rw[<-hl])
   have wK:(execOp a.eval ⟨some i,.buildSlice t len parts,type,pos,after,guard⟩).run P w= .ok (.value (.slice (some ⟨w.heap.size,0,none⟩) len len)) (w.alloc (.cells us.toArray e)):=by
    simp[execOp,qB]
   exact Fg (fun c hc=>by cases hc) wK (hn _ _ _ R')
  ·simp at h
 case alloc t =>
  cases dst with
  | none=>simp at h
  | some i =>
   split at h
   ·rename_i z hi hz;simp only[aA0]at h hi;subst h;subst hi;simp only at hp hn;obtain⟨zv,kK,rfl⟩:=HY (w:=w) hz;have vH:AI (cu s loc) (hm s loc B.M0) w.heap (zv.cells.toList.map Cm) zv.cells.toList:=BM _
    have vF:AR (zv.cells.toList.map Cm)=0:=by
     have h1:∀v,mx (Cm v)=0:=by
      intro v;unfold Cm
      split<;>(try split)<;>simp[mx]
     generalize zv.cells.toList=l
     induction l with
     | nil=>simp[AR]
     | cons v l ih=>simp[AR,h1,ih]
    have qP:=GL R.st (zv.cells.toList.map Cm) zv.cells.toList (aV0.2 fun d hd=>Sr (aV0.1 hp d hd)) vH;have:=R.newBox (id:=i) (n:=r) (cs:=zv.cells.toList.map Cm) (us:=zv.cells.toList) (ty:=t) (dst:=some i) hr (by omega) (fun j hj=>by simp only[aA0]at hj;subst hj;simpa[Cp]using hd) vH qP
    have qB:(execOp a.eval ⟨some i,.alloc t,type,pos,after,guard⟩).run P w= .ok (.value (.pointer (some ⟨w.heap.size,0,none⟩))) (w.alloc (.cells zv.cells.toList.toArray t)):=by
     simp[execOp,Instr.alloc,kK,newVar,newRow]
    exact Fg (fun c hc=>by cases hc) qB (hn _ _ _ this)
   ·simp at h
 case store t ad y =>
  split at h
  ·rename_i id r' off had
   split at h
   ·rename_i e he
    split at h
    ·rename_i cs qW;simp only[aA0]at h;subst h;simp only at hp hn;obtain⟨wO,rfl,hc,yY,vZ⟩:=hp;have ha:=yN ad (by simp[Op.operands,Call.operands]);rw[had]at ha;obtain⟨w',qB,R'⟩:=R.storeBox (P:=P) (t:=t) (n:=r) he wO qW ha (yN y (by simp[Op.operands,Call.operands])) yY hc vZ (gU y (by simp[Op.operands,Call.operands])) hr
     have wK:(execOp a.eval ⟨none,.store t ad y,type,pos,after,guard⟩).run P w= .ok .skip w':=by
      simp[execOp,qB]
     exact WK (fun c hc=>by cases hc) wK (hn _ _ _ R')
    ·simp at h
   ·simp at h
  ·rename_i id r' k i j had;unfold Fv at h
   split at h
   ·rename_i e he
    split at h
    ·rename_i et k' bs es qW
     split at h
     ·rename_i c0 yW;simp only[aA0]at h;subst h;simp only at hp hn;obtain⟨wO,rfl,rfl,hc,yY,vZ⟩:=hp;have ha:=yN ad (by simp[Op.operands,Call.operands]);rw[had]at ha;obtain⟨w',qB,R'⟩:=R.storeRow (P:=P) (t:=t) (n:=r) he wO qW ha (yN y (by simp[Op.operands,Call.operands])) yY hc yW vZ (gU y (by simp[Op.operands,Call.operands])) hr
      have wK:(execOp a.eval ⟨none,.store t ad y,type,pos,after,guard⟩).run P w= .ok .skip w':=by
       simp[execOp,qB]
      exact WK (fun c hc=>by cases hc) wK (hn _ _ _ R')
     ·simp at h
    ·simp at h
   ·simp at h
  ·simp at h
 case makeSlice t lo co =>
  unfold iI at h
  split at h
  ·rename_i i k bs et zs kl n kc m ht kP hz hl hc;simp only[aA0]at h;subst h;simp only at hp hn;obtain⟨h1,h2,h3,h4,h5,h6⟩:=hp;have rl:=yN lo (by simp[Op.operands,Call.operands]);have rc:=yN co (by simp[Op.operands,Call.operands]);rw[hl]at rl;rw[hc]at rc;simp only[rd]at rl rc;obtain⟨v',w',L,qB,R'⟩:=R.makeRow (P:=P) (id:=i) (n:=r) (kl:=kl) (kc:=kc) (dst:=some i) hr (fun j hj=>by simp only[aA0]at hj;subst hj;simpa[Cp]using hd) ht kP hz h1 h2 h3 h4 h5 h6
   have wK:(execOp a.eval ⟨some i,.makeSlice t lo co,type,pos,after,guard⟩).run P w= .ok (.value v') w':=by
    simp[execOp,rl.1,rc.1,qB]
   exact Fg (fun c hc=>by cases hc) wK (hn _ _ _ R')
  ·simp at h
 case makeMap t rv =>
  split at h
  ·rename_i i kte ht;simp only[aA0]at h;subst h;simp only at hp hn;have:=R.newMap (id:=i) (n:=r) (dst:=some i) hr (fun j hj=>by simp only[aA0]at hj;subst hj;simpa[Cp]using hd)
   have qB:(execOp a.eval ⟨some i,.makeMap t none,type,pos,after,guard⟩).run P w= .ok (.value (.map (some w.heap.size))) (w.alloc (.map #[] 0)):=by
    simp[execOp,RowKit.run_makeMap]
   exact Fg (fun c hc=>by cases hc) qB (hn _ _ _ this)
  ·simp at h
 case mapUpdate t m k x =>
  split at h
  ·rename_i id r' kt et hm ht
   split at h
   ·rename_i e he
    split at h
    ·rename_i ks vs qW;simp only[aA0]at h;subst h;simp only at hp hn;obtain⟨wO,rfl,hk,zP⟩:=hp;have ha:=yN m (by simp[Op.operands,Call.operands]);rw[hm]at ha;obtain⟨w',qB,R'⟩:=R.updMap (P:=P) (t:=t) (n:=r) he wO qW ha (yN k (by simp[Op.operands,Call.operands])) (yN x (by simp[Op.operands,Call.operands])) ht hk zP (gU k (by simp[Op.operands,Call.operands])) (gU x (by simp[Op.operands,Call.operands])) hr
     have wK:(execOp a.eval ⟨none,.mapUpdate t m k x,type,pos,after,guard⟩).run P w= .ok .skip w':=by
      simp[execOp,qB]
     exact WK (fun c hc=>by cases hc) wK (hn _ _ _ R')
    ·simp at h
   ·simp at h
  ·simp at h
 case call c =>
  obtain⟨cal,args,ats⟩:=c;cases cal<;>simp only[reduceCtorEq]at h;rename_i b;cases b<;>simp only[reduceCtorEq]at h;obtain⟨al⟩:=args;obtain⟨tl⟩:=ats
  case append =>
   unfold NF at h
   split at h
   ·rename_i da db t t' qM yB
    split at h
    ·rename_i i k bs et ht kP
     split at h
     ·rename_i x gC
      split at h
      ·rename_i id es hdest;simp only[aA0]at h;subst h;simp only at hp hn;obtain⟨nG,hz,hk,wW,hb,hl⟩:=hp
       have hdb:db= .str x:=by
        unfold strOf at gC
        split at gC
        ·simp only[aA0]at gC;rw[gC]
        ·simp at gC
       match al,qM with
       | [xa,xb],qM =>
        simp only[List.map_cons,List.map_nil,bG0,and_true]at qM;obtain⟨bZ,cF⟩:=qM;subst yB;have ra:=yN xa (by simp[Op.operands,Call.operands]);have rb:=yN xb (by simp[Op.operands,Call.operands]);rw[bZ]at ra;rw[cF,hdb]at rb;simp only[Bt,rd]at rb;have wC:=Wn (i0:=i) (r:=r) R (by omega) hdest ra
        have hu2:P.underlying t'=some .string:=by
         unfold tStr at nG
         split at nG
         ·assumption
         ·simp at nG
        obtain⟨v',w',L,qB,R'⟩:=R.appendStr (P:=P) (ty:=type) (id:=id.getD i) (n:=r) (x:=x) (dst:=some i) hr (fun j hj=>by simp only[aA0]at hj;subst hj;simpa[Cp]using hd) ht kP hz (by omega) wC.1 wC.2 hu2 hk hb wW (by unfold maxLen;omega)
        have wK:(execOp a.eval ⟨some i,.call { callee:= .builtin .append,args:=⟨[xa,xb]⟩,argTypes:=⟨[t,t']⟩ },type,pos,after,guard⟩).run P w= .ok (.value v') w':=by
         simp only[execOp,resolve,Sem.run_bind,dS0,List.map_cons,List.map_nil,Sem.run_pure,Result.andThen_ok,invoke,builtin,rb.1,qB]
        exact Fg (fun c hc=>by cases hc) wK (hn _ _ _ R')
      ·simp at h
     split at h
     ·rename_i id es k2 es2 hdest wS;simp only[aA0]at h;subst h;simp only at hp hn;obtain⟨rfl,hz,hk,yI,wW,hb,hl⟩:=hp
      match al,qM with
      | [xa,xb],qM =>
       simp only[List.map_cons,List.map_nil,bG0,and_true]at qM;obtain⟨bZ,cF⟩:=qM;subst yB;have ra:=yN xa (by simp[Op.operands,Call.operands]);have rb:=yN xb (by simp[Op.operands,Call.operands]);rw[bZ]at ra;rw[cF]at rb;have ma:=gU xa (by simp[Op.operands,Call.operands]);have mb:=gU xb (by simp[Op.operands,Call.operands]);rw[bZ]at ma;rw[cF]at mb;have wC:=Wn (i0:=i) (r:=r) R (by omega) hdest ra
       have fX:Bx es2<=r:=by
        unfold Kh at wS
        split at wS
        ·simp only[aA0,aT0]at wS;obtain⟨_,rfl⟩:=wS;simp[Bx]
        ·simp only[aA0,aT0]at wS;obtain⟨_,rfl⟩:=wS;simp[Bx]
        ·rw[bC0]at wS;obtain⟨⟨k',b',es'⟩,h1,h2⟩:=wS;simp only[aT0]at h2;obtain⟨_,rfl⟩:=h2;have:=OH h1;omega
       obtain⟨v',w',L,qB,R'⟩:=R.append (P:=P) (ty:=type) (id:=id.getD i) (n:=r) (dst:=some i) hr (fun j hj=>by simp only[aA0]at hj;subst hj;simpa[Cp]using hd) ht kP hz hk wC.1 wC.2 rb wS yI fX hb wW (by unfold maxLen;omega)
       have wK:(execOp a.eval ⟨some i,.call { callee:= .builtin .append,args:=⟨[xa,xb]⟩,argTypes:=⟨[t',t']⟩ },type,pos,after,guard⟩).run P w= .ok (.value v') w':=by
        simp only[execOp,resolve,Sem.run_bind,dS0,List.map_cons,List.map_nil,Sem.run_pure,Result.andThen_ok,invoke,builtin,qB]
       exact Fg (fun c hc=>by cases hc) wK (hn _ _ _ R')
     ·simp at h
    ·simp at h
   ·simp at h
  case copy =>
   obtain⟨al⟩:=args;obtain⟨tl⟩:=ats;unfold iJ at h
   split at h
   ·rename_i d sd t t' qM yB;subst yB
    match al,qM with
    | [xa,xb],qM =>
     simp only[List.map_cons,List.map_nil,bG0,and_true]at qM;obtain⟨bZ,cF⟩:=qM;have ra:=yN xa (by simp[Op.operands,Call.operands]);have rb:=yN xb (by simp[Op.operands,Call.operands]);have mb:=gU xb (by simp[Op.operands,Call.operands]);rw[bZ]at ra;rw[cF]at rb mb
     split at h
     ·rename_i k k0 id r' i m et k' bs es k2 es2 ht dE wS;simp only[aA0]at h;subst h;simp only at hp;obtain⟨rfl,rfl,hk,hb,yI⟩:=hp;obtain⟨e,bs0,he,wO,qW,hdd⟩:=ZJ dE;obtain⟨w',qB,R'⟩:=R.copyRow (P:=P) (ty:=type) (n:=r) (bs0:=bs0) (dst:=dst) he wO qW ra hdd hb ht hk rb wS yI (Zn wS (by omega) (by omega)) hr (fun j hj=>by subst hj;simpa[Cp]using hd)
      have wK:(execOp a.eval ⟨dst,.call { callee:= .builtin .copy,args:=⟨[xa,xb]⟩,argTypes:=⟨[t',t']⟩ },type,pos,after,guard⟩).run P w= .ok (.value (goInt (min es2.length m:Nat))) w':=by
       simp only[execOp,resolve,Sem.run_bind,dS0,List.map_cons,List.map_nil,Sem.run_pure,Result.andThen_ok,invoke,builtin,qB]
      exact Fg (fun c hc=>by cases hc) wK (hn _ _ _ R')
     ·simp at h
   ·simp at h
  case clear =>
   obtain⟨al⟩:=args;obtain⟨tl⟩:=ats
   have main:∀{w':World} {own':List Ent} {loc':Nat->Loc} {xa:Operand} {t:TypeId},al=[xa]->tl=[t]->(Builtin.clear_ #[t] type #[a.eval xa]).run P w= .ok (.tuple #[]) w'->Rel B ⟨BI s.slots dst (.tup []),own'⟩ (a.put dst (.tuple #[])) w' loc'->x.d= .tup []->x.own=own' ->
     (Oper.mk dst (.call { callee:= .builtin .clear,args:=⟨al⟩,argTypes:=⟨tl⟩ }) type pos after guard).wpIn (wd B.ro) 0 P a w next Q:=by
    intro w' own' loc' xa t cD gM qB R' hxd hxo;subst cD;subst gM;rw[hxd,hxo]at hn
    have wK:(execOp a.eval ⟨dst,.call { callee:= .builtin .clear,args:=⟨[xa]⟩,argTypes:=⟨[t]⟩ },type,pos,after,guard⟩).run P w= .ok (.value (.tuple #[])) w':=by
     simp only[execOp,resolve,Sem.run_bind,dS0,List.map_cons,List.map_nil,Sem.run_pure,Result.andThen_ok,invoke,builtin,qB]
    exact Fg (fun c hc=>by cases hc) wK (hn _ _ _ R')
   unfold Tx at h
   split at h
   ·rename_i d t qM yB;subst yB
    match al,qM with
    | [xa],qM =>
     simp only[List.map_cons,List.map_nil,bG0,and_true]at qM;have ra:=yN xa (by simp[Op.operands,Call.operands]);rw[qM]at ra
     split at h
     ·rename_i k bs0 zs ht hz
      split at h
      ·rename_i id r' 
       split at h
       ·rename_i e he
        split at h
        ·rename_i et k' bs es qW;simp only[aA0]at h;subst h;simp only at hp;obtain⟨wO,rfl,h1,h2,h3⟩:=hp;obtain⟨w',qB,R'⟩:=R.clearRow (P:=P) (t:=t) (ty:=type) (n:=r) (k0:=bs0) (bs0:=0) (e':=0) (dst:=dst) he wO qW ra (.inl ⟨rfl,rfl,rfl⟩) (by simp) ht hz h1 h2 h3 hr (fun j hj=>by subst hj;simpa[Cp]using hd);exact main rfl rfl qB R' rfl rfl
        ·simp at h
       ·simp at h
      ·rename_i id r' k0 bs1 i m _
       split at h
       ·rename_i e he
        split at h
        ·rename_i et k' bs es qW;simp only[aA0]at h;subst h;simp only at hp;obtain⟨wO,rfl,rfl,h1,h2,h3,h4⟩:=hp;obtain⟨w',qB,R'⟩:=R.clearRow (P:=P) (t:=t) (ty:=type) (n:=r) (k0:=bs0) (bs0:=bs1) (e':=0) (dst:=dst) he wO qW ra (.inr rfl) h4 ht hz h1 h2 h3 hr (fun j hj=>by subst hj;simpa[Cp]using hd);exact main rfl rfl qB R' rfl rfl
        ·simp at h
       ·simp at h
      ·simp at h
     ·simp at h
   ·simp at h
  case delete =>
   obtain⟨al⟩:=args;obtain⟨tl⟩:=ats;unfold NE at h
   split at h
   ·rename_i dm dk t t2 qM yB;have gM:tl=[t,t2]:=yB;subst gM
    match al,qM with
    | [xa,xb],qM =>
     simp only[List.map_cons,List.map_nil,bG0,and_true]at qM;obtain⟨bZ,cF⟩:=qM;have ra:=yN xa (by simp[Op.operands,Call.operands]);have rb:=yN xb (by simp[Op.operands,Call.operands]);rw[bZ]at ra;rw[cF]at rb
     split at h
     ·rename_i id r' kt et ht
      split at h
      ·rename_i e he
       split at h
       ·rename_i ks vs qW;simp only[aA0]at h;subst h;simp only at hp hn;obtain⟨wO,hk,zP⟩:=hp;obtain⟨w',qB,R'⟩:=R.delMap (P:=P) (t:=t) (t2:=t2) (ty:=type) (n:=r) (dst:=dst) he wO qW ra rb ht hk zP hr (fun j hj=>by subst hj;simpa[Cp]using hd)
        have wK:(execOp a.eval ⟨dst,.call { callee:= .builtin .delete,args:=⟨[xa,xb]⟩,argTypes:=⟨[t,t2]⟩ },type,pos,after,guard⟩).run P w= .ok (.value (.tuple #[])) w':=by
         simp only[execOp,resolve,Sem.run_bind,dS0,List.map_cons,List.map_nil,Sem.run_pure,Result.andThen_ok,invoke,builtin,qB]
        exact Fg (fun c hc=>by cases hc) wK (hn _ _ _ R')
       ·simp at h
      ·simp at h
     ·simp at h
   ·simp at h
def yH (l:Nat):Abs where
 J:=fun _ bl hd _=>bl=[]/\hd= .func (.yield l) #[] #[]
 weak:=fun _ _ _ _ _ _ _ _ _ h=>h
 one:=by rintro _ _ _ _ ⟨_,rfl⟩;exact⟨rfl,rfl⟩
 nd:=by rintro _ _ _ _ ⟨rfl,_⟩ b hb;cases hb
def YAt (P:Program) (l:Nat) (A:Abs) (args:List DVal) (b:Bool) (A':Abs):Prop :=
 ∀(M bl:List Nat) (hd:Value) (w:World) (vs:Array Value),bl.Nodup->(∀q∈bl,q∈M)->(∀q∈M,q<w.heap.size)->A.J M bl hd w.heap->AI (fun _ _=>none) M w.heap args vs.toList ->
  HQ P (.yield l) vs w fun v w'=>v= .bool b/\∃bl',Upd bl w w'/\bl'.Nodup/\(∀q∈bl',q<w'.heap.size/\(q∈bl\/w.heap.size<=q)) /\
   ∀M',(∀q∈M',q∈bl'\/(q∈M/\q∉bl))->A'.J M' bl' hd w'.heap
def Xz (ed:Operand->DVal) (c:Call):Option (Nat×Nat×List DVal):=match c.callee with
 | .value f=>match ed f with | .pk id r=>some (id,r,c.args.toList.map ed) | _=>none
 | _=>none
def Qz (P:Program) (o:Oper) (ed:Operand->DVal) (own:List Ent) (r:Nat) (d:DVal) (own':List Ent):Prop :=
 (∃x,JS P o ed own r=some x/\x.pre/\d=x.d/\own'=x.own)\/(∃c g args,o.op= .call c/\callee ed c=some (g,args)/\YG P (.func g) args own r d own') \/
  (∃c id r' args e0 l e A A' b,o.op= .call c/\Xz ed c=some (id,r',args)/\Ar own id=some e0/\e0.r=r'/\e0.obj= .abs (yH l)/\Ar own (id+1)=some e/\e.obj= .abs A/\AR args=0/\YAt P l A args b A'/\d= .bool b/\own'=upE own (id+1) r (.abs A'))
def Lg_ (P:Program) (o:Oper) (ed:Operand->DVal) (own:List Ent) (K:ContE):Prop:=∀r,match JS P o ed own r with | some x=>x.pre/\K.f x.d x.own | none=>False
def Bk (P:Program) (g:FuncId) (args:List DVal) (own:List Ent) (K:ContE):Prop:=∀r,∃d own',YG P (.func g) args own r d own'/\K.f d own'
def Jb_ (P:Program) (id r':Nat) (args:List DVal) (own:List Ent) (K:ContE):Prop:=∃e0 l e A A' b,Ar own id=some e0/\e0.r=r'/\e0.obj= .abs (yH l)/\Ar own (id+1)=some e/\e.obj= .abs A/\AR args=0/\YAt P l A args b A'/\∀r,K.f (.bool b) (upE own (id+1) r (.abs A'))
def FL_ (P:Program) (o:Oper) (ed:Operand->DVal) (own:List Ent) (K:ContE):Prop:=match o.op with
 | .call c=>match callee ed c with
  | some (g,args)=>Bk P g args own K
  | none=>match Xz ed c with
   | some (id,r',args)=>Jb_ P id r' args own K
   | none=>Lg_ P o ed own K
 | _=>Lg_ P o ed own K
theorem iG {P:Program} {o:Oper} {ed:Operand->DVal} {own:List Ent} {K:ContE} (h:Lg_ P o ed own K) (r:Nat):∃d own',Qz P o ed own r d own'/\K.f d own':=by
 have h1:=h r
 split at h1
 ·rename_i x hx;exact⟨x.d,x.own,.inl ⟨x,hx,h1.1,rfl,rfl⟩,h1.2⟩
 ·exact h1.elim
theorem KL {P:Program} {o:Oper} {ed:Operand->DVal} {own:List Ent} {K:ContE} (h:FL_ P o ed own K) (r:Nat):∃d own',Qz P o ed own r d own'/\K.f d own':=by
 unfold FL_ at h
 split at h
 ·rename_i c wF
  split at h
  ·rename_i g args hc;obtain⟨d,own',h1,h2⟩:=h r;exact⟨d,own',.inr (.inl ⟨c,g,args,wF,hc,h1⟩),h2⟩
  ·split at h
   ·rename_i id r' args hp;obtain⟨e0,l,e,A,A',b,h1,h2,h3,h4,h5,h6,h7,h8⟩:=h;exact⟨_,_,.inr (.inr ⟨c,id,r',args,e0,l,e,A,A',b,wF,hp,h1,h2,h3,h4,h5,h6,h7,rfl,rfl⟩),h8 r⟩
   ·exact iG h r
 ·exact iG h r
theorem Ke_ {o:Oper} {c:Call} {g:FuncId} {args:List DVal} {r:Nat} {d:DVal} {own':List Ent} {ed:Operand->DVal} {next:Act->World->Prop} {Q:Exit->Act->World->Prop} (R:Rel B s a w loc) (hr:Co B s<=r) (hd:Cp B.nt o.dst=true) (ho:o.op= .call c)
  (yN:∀x∈o.op.operands,Bt s loc B.M0 w (ed x) (a.eval x)) (hc:callee ed c=some (g,args)) (hS:YG P (.func g) args s.own r d own')
  (hn:∀a' w' loc',Rel B ⟨BI s.slots o.dst d,own'⟩ a' w' loc'->next a' w'):o.wpIn (wd B.ro) 0 P a w next Q:=by
 have qF:=hr;unfold Co at qF;obtain⟨hE,_,_,hS⟩:=hS;obtain⟨vs,h1,h2⟩:=Zl (P:=P) (ρ:=a.eval) (M0:=B.M0) ho (fun x hx=>yN x (by rw[ho];exact hx)) hc hE;refine⟨fun _ _=>trivial,?_⟩;rw[Oper.semAt_eq _ _ _ (fun c' mB=>by rw[ho]at mB;cases mB),h1,Oper.uponIn_enter];refine⟨fun h=>by simp[wd]at h,TU B.ro _ ?_⟩;refine((hS B.M0 w loc vs (by omega) R.st h2).2).mono ?_;rintro e w' ⟨v,rfl,loc',S',hu,wD,zV,vT⟩;exact hn _ _ loc' (R.step (n:=r) (by omega) (by omega) (MH hd) S' hu wD zV vT)
theorem Hc_ {P:Program} {l:Nat} {fn:FuncId} {tmps:Array Value} {assign body:Code} {w:World} {R:Ending->World->Prop} (ro:Option Nat) (h:RoundIn (wd none) 0 P l fn tmps assign body w R):RoundIn (wd ro) 0 P l fn tmps assign body w R:=h
theorem Gs_ {o:Oper} {c:Call} {id r' n l:Nat} {args:List DVal} {e0 e:Ent} {A A':Abs} {b:Bool} {ed:Operand->DVal} {next:Act->World->Prop} {Q:Exit->Act->World->Prop} (R:Rel B s a w loc) (hr:Co B s<=n) (hd:Cp B.nt o.dst=true) (ho:o.op= .call c)
  (yN:∀x∈o.op.operands,Bt s loc B.M0 w (ed x) (a.eval x)) (hc:Xz ed c=some (id,r',args)) (vI:Ar s.own id=some e0) (wO:e0.r=r') (hob0:e0.obj= .abs (yH l)) (he:Ar s.own (id+1)=some e) (qW:e.obj= .abs A) (fH:AR args=0) (hY:YAt P l A args b A')
  (hn:∀a' w' loc',Rel B ⟨BI s.slots o.dst (.bool b),upE s.own (id+1) n (.abs A')⟩ a' w' loc'->next a' w'):o.wpIn (wd B.ro) 0 P a w next Q:=by
 obtain⟨dst,op,type,pos,after,guard⟩:=o;simp only at ho;subst ho;obtain⟨cal,ars,ats⟩:=c;unfold Xz at hc
 cases cal with
 | builtin _=>simp at hc
 | invoke _ _=>simp at hc
 | value f =>
  simp only at hc
  split at hc
  rotate_left
  ·simp at hc
  rename_i id0 r0 hf;simp only[aA0,aT0]at hc;obtain⟨rfl,rfl,rfl⟩:=hc;obtain⟨hmem0,fY⟩:=AY vI;obtain⟨qO,hid⟩:=AY he;have qE:Ae s.own loc id0 r0=some (loc id0):=by unfold Ae;rw[vI];simp[wO]
  have hx:=yN f (by simp[Op.operands,Call.operands]);rw[hf]at hx;simp only[Bt,rd]at hx;have hv:=hx _ qE;have zQ:=R.st.ok e0 hmem0;rw[hob0,fY]at zQ;have hl:(loc id0).hdr= .func (.yield l) #[] #[]:=zQ.2;have hk:=R.st.ok e qO;rw[qW,hid]at hk
  have vT:AI (fun _ _=>none) (Ab s.own loc++B.M0) w.heap (ars.toList.map ed) (ars.toList.map a.eval):=by
   have key:∀l:List Operand,(∀x∈l,x∈ars.toList)->AI (cu s loc) (hm s loc B.M0) w.heap (l.map ed) (l.map a.eval):=by
    intro l
    induction l with
    | nil=>intro _;simp[AI]
    | cons x l ih =>
     intro hl;simp only[List.map_cons,AI];exact⟨_,_,rfl,yN x (by have:=hl x aE0;simp[Op.operands,Call.operands];simp at this;exact .inr this),ih fun y hy=>hl y (aC0 _ hy)⟩
   exact Bd (n:=0) ⟨fun _ _ _ h=>by omega,fun b o _ (_:Hi o=true) ho=>ho,fun b o hb (_:Hi o=true) _=>hb⟩ _ _ (dO0 fH) (key _ (fun _ h=>h))
  have hF:=hY (Ab s.own loc++B.M0) (loc (id0+1)).blks (loc (id0+1)).hdr w (ars.map a.eval) (by have:=DM R.st.bl e qO;rwa[hid]at this) (fun q hq=>aN0 _ (Bm qO (by rw[hid];exact hq))) R.st.lt hk (by simpa using vT);obtain⟨fn,tmps,assign,body,qB,hround⟩:=hF;refine⟨fun _ _=>trivial,?_⟩
  have hex:(execOp a.eval ⟨dst,.call { callee:= .value f,args:=ars,argTypes:=ats },type,pos,after,guard⟩).run P w= .ok (.round l fn tmps assign body) w:=by
   simp only[execOp,resolve,hv,hl,Deferred.ofValue,Sem.run_bind,Sem.run_pure,Result.andThen_ok,invoke];simpa using qB
  rw[Oper.semAt_eq _ _ _ (fun c' mB=>by simp at mB),hex,Oper.uponIn_round];refine⟨fun h=>by simp[wd]at h,(Hc_ B.ro hround).mono ?_⟩;rintro e1 w' ⟨v,rfl,rfl,bl',hu,hnd,gN,hJ⟩
  have hL:∀b0,b0∈(⟨bl',(loc (id0+1)).hdr⟩:Loc).blks->b0<w'.heap.size/\((∃e∈s.own,e.id=id0+1/\b0∈(loc (id0+1)).blks)\/w.heap.size<=b0):=fun b0 qR =>
   ⟨(gN b0 qR).1,(gN b0 qR).2.imp (fun h=>⟨e,qO,hid,h⟩) id⟩
  have zH:Upd (Ab s.own loc) w w':=⟨hu.os,hu.tape,hu.output,hu.drawn,hu.size,fun q hq hn'=>hu.blk q hq (fun h=>hn' (Bm qO (by rw[hid];exact h)))⟩;refine hn _ _ _ (R.up (id:=id0+1) (r:=n) (obj:= .abs A') (L:=⟨bl',(loc (id0+1)).hdr⟩) (v:= .bool b) (d:= .bool b) (dst:=dst) hr (fun j hj=>by subst hj;simpa[Cp]using hd) zH (fun q hq qC=>hu.blk q hq (qC e qO hid)) hL (.inl (Nat.le_refl _)) (hJ _ ?_) (by simp[rd]) hnd)
  intro q hq
  rcases aI0.1 hq with hq | hq
  ·unfold upE at hq;rw[Em,SX]at hq
   rcases aI0.1 hq with hq | hq
   ·simp only[Dc,if_true]at hq;exact .inl hq
   ·obtain⟨e2,zX,qC,wB⟩:=QW hq;refine .inr ⟨aN0 _ (Bm zX wB),fun pN=> ?_⟩;have:=Gj R.st.bl e2 zX e qO q wB (by rw[hid];exact pN);subst this;exact qC hid
  ·exact .inr ⟨aP0 _ hq,fun pN=>R.st.ap q (Bm qO (by rw[hid];exact pN)) hq⟩
theorem iE {o:Oper} {r:Nat} {d:DVal} {own':List Ent} {ed:Operand->DVal} {next:Act->World->Prop} {Q:Exit->Act->World->Prop} (R:Rel B s a w loc) (hr:Co B s<=r) (hd:Cp B.nt o.dst=true) (yN:∀x∈o.op.operands,Bt s loc B.M0 w (ed x) (a.eval x)) (gU:∀x∈o.op.operands,mx (ed x)<=Lj s.slots) (h:Qz P o ed s.own r d own')
  (hn:∀a' w' loc',Rel B ⟨BI s.slots o.dst d,own'⟩ a' w' loc'->next a' w'):o.wpIn (wd B.ro) 0 P a w next Q:=by
 rcases h with ⟨x,hx,hp,rfl,rfl⟩ | ⟨c,g,args,wF,hc,hS⟩ | ⟨c,id,r',args,e0,l,e,A,A',b,wF,hc,vI,wO,hob0,he,qW,fH,hY,rfl,rfl⟩
 ·exact OS_ R hr hd yN gU hx hp hn
 ·exact Ke_ R hr hd wF yN hc hS hn
 ·exact Gs_ R hr hd wF yN hc vI wO hob0 he qW fH hY hn
end
def MN (a b:List Ent):Prop:=∀id e,Ar a id=some e->Ar b id=some e
section
variable {P : Program} {a b : List Ent} {e : Operand -> DVal}
theorem EC (h:MN a b) {id r:Nat} (hc:Gc a id r=true):Gc b id r=true:=by
 unfold Gc at hc |-
 split at hc
 ·rename_i x hx;rw[h _ _ hx];exact hc
 ·simp at hc
theorem Qc (h:MN a b) {p:DVal} {cs:List DVal} (hc:DU a p=some cs):DU b p=some cs:=by
 cases p<;>simp only[DU]at hc |- <;>try exact hc
 ·split at hc
  ·rename_i x hx;rw[h _ _ hx];exact hc
  ·simp at hc
 ·split at hc
  ·rename_i x hx;rw[h _ _ hx];exact hc
  ·simp at hc
theorem Fm (h:MN a b) {p:DVal} {x:Nat×Nat×List (List DVal)} (hc:Bn a p=some x):Bn b p=some x:=by
 cases p<;>simp only[Bn]at hc |- <;>try exact hc
 ·split at hc
  ·rename_i y hy;rw[h _ _ hy];exact hc
  ·simp at hc
 ·split at hc
  ·rename_i y hy;rw[h _ _ hy];exact hc
  ·simp at hc
theorem Hw_ (h:MN a b) {d:DVal} (hc:EX a d=true):EX b d=true:=by
 cases d<;>simp only[EX]at hc |- <;>try exact hc
 ·exact EC h hc
 ·exact EC h hc
 ·obtain⟨x,hx⟩:=bL0.1 hc;rw[Fm h hx];rfl
 ·exact EC h hc
 ·exact EC h hc
 ·split at hc
  ·rename_i e he;rw[h _ e he];exact hc
  ·simp at hc
theorem Mn (h:MN a b) {d:DVal} (hc:CD a d=true):CD b d=true:=by
 unfold CD at hc |-;exact aV0.2 fun x hx=>Hw_ h (aV0.1 hc x hx)
theorem VP (h:MN a b) {p:DVal} {x:List DVal×List DVal} (hc:GR a p=some x):GR b p=some x:=by
 unfold GR at hc |-
 split at hc
 ·exact hc
 ·exact hc
 ·rename_i id r
  cases hf:Ar a id with
  | none=>rw[hf]at hc;simp at hc
  | some e=>rw[hf]at hc;simp only[h id e hf];exact hc
 ·simp at hc
theorem Jn_ (h:MN a b) {bi:Builtin} {ds:List DVal} {ts:List TypeId} (hp:Vf P a bi ds ts):Vf P b bi ds ts/\NV b bi ds=NV a bi ds:=by
 unfold Vf at hp
 split at hp
 ·rename_i d t
  cases d<;>simp only[Vf,NV]at hp |- <;>first
   | exact⟨hp,trivial⟩
   |(obtain⟨h1,h2⟩:=hp
     obtain⟨x,hx⟩:=bL0.1 h1;rw[hx,Fm h hx]
     exact⟨⟨rfl,h2⟩,rfl⟩)
   |(obtain⟨h1,h2⟩:=hp
     split at h2
     ·rename_i hx;rw[VP h hx];exact⟨⟨h1,h2⟩,rfl⟩
     ·exact h2.elim)
 ·simp only[Vf,NV];exact⟨hp,trivial⟩
 ·simp only[Vf,NV];exact⟨hp,trivial⟩
 ·simp only[Vf,NV];exact⟨hp,trivial⟩
 ·exact hp.elim
theorem Nx_ (h:MN a b) (op:Op) (hp:FY P a e op):FY P b e op/\BR P b e op=BR P a e op:=by
 cases op<;>simp only[FY,BR]at hp |- <;>first
  | exact⟨hp,trivial⟩
  | exact hp.elim
  | trivial
  | skip
 case fieldAddr t x f =>
  refine⟨?_,trivial⟩
  split at hp
  ·exact hp
  ·exact⟨hp.1,EC h hp.2⟩
  ·exact⟨hp.1,EC h hp.2⟩
  ·exact hp.elim
 case nilCheck x =>
  refine⟨?_,trivial⟩
  split at hp
  ·trivial
  ·exact EC h hp
  ·exact EC h hp
  ·trivial
  ·exact hp.elim
 case load t x =>
  split at hp
  ·rename_i h1 h2 h3;rw[h1,h2,Qc h h3];exact⟨hp,rfl⟩
  ·rename_i h1 h3;rw[h1,Qc h h3];exact⟨hp,rfl⟩
  ·exact hp.elim
 case indexAddr t x i =>
  split at hp
  ·rename_i ik n k bs k' bs' es h1 h2 h3;rw[h1,h2,Fm h h3];refine⟨hp,?_⟩;simp only;cases hx:e x<;>rw[hx]at h3<;>simp only[GW];rw[h3,Fm h h3]
  ·exact hp.elim
 case box t x=>exact⟨Mn h hp,trivial⟩
 case slice t x l' h' m =>
  cases hx:e x<;>rw[hx]at hp<;>simp only at hp |- <;>first
   | exact⟨hp,trivial⟩
   | exact hp.elim
   | skip
  ·rename_i id r
   cases cH:Bn a (.osl id r)with
   | none=>rw[cH]at hp;exact hp.2.elim
   | some y=>rw[cH]at hp;rw[Fm h cH];exact⟨hp,rfl⟩
  ·obtain⟨h1,h2,h3⟩:=hp;obtain⟨y,hy⟩:=bL0.1 h2;rw[Fm h hy];exact⟨⟨h1,rfl,h3⟩,trivial⟩
 case lookup t x i ok =>
  split at hp
  ·rename_i h1 h2;rw[h1,VP h h2];exact⟨hp,rfl⟩
  ·exact hp.elim
 case build t ps =>
  refine⟨?_,trivial⟩
  split at hp
  ·exact⟨hp.1,aV0.2 fun p hm=>Mn h (aV0.1 hp.2.1 p hm),hp.2.2⟩
  ·exact hp.elim
 case buildSlice t n ps =>
  refine⟨?_,trivial⟩
  split at hp
  ·obtain⟨h1,h2,h3,h4,h5,h6,h7⟩:=hp;refine⟨h1,h2,h3,h4,h5,?_,h7⟩;refine aV0.2 fun p hm=> ?_
   have:=aV0.1 h6 p hm;rw[aM0]at this |-;exact⟨Mn h this.1,this.2⟩
  ·exact hp.elim
 case call c =>
  obtain⟨cal,args,ts⟩:=c
  cases cal with
  | builtin bi=>exact Jn_ h hp
  | value f=>exact hp.elim
  | invoke r m=>exact hp.elim
end
theorem Cc_ : ∀{l:List DVal} {d:DVal},d∈l->mx d<=AR l
 | x::l,d,h=>by
  simp only[AR]
  rcases aJ0.1 h with rfl | h
  ·omega
  ·have:=Cc_ h;omega
theorem XR : ∀{l:List (List DVal)} {d:List DVal},d∈l->AR d<=Bx l
 | x::l,d,h=>by
  simp only[Bx]
  rcases aJ0.1 h with rfl | h
  ·omega
  ·have:=XR h;omega
theorem XS {n:Nat}:∀{l:List DVal},(∀d∈l,mx d<=n)->AR l<=n
 | [],_=>by simp[AR]
 | x::l,h=>by
  simp only[AR];have:=h x aE0;have:=XS (l:=l) fun d hd=>h d (aC0 _ hd)
  omega
theorem xV {n:Nat}:∀{l:List (List DVal)},(∀d∈l,AR d<=n)->Bx l<=n
 | [],_=>by simp[Bx]
 | x::l,h=>by
  simp only[Bx];have:=h x aE0;have:=xV (l:=l) fun d hd=>h d (aC0 _ hd)
  omega
theorem aA (l:List DVal):mx (l.headD .any)<=AR l:=by
 cases l with
 | nil=>simp[mx,AR]
 | cons d l=>simp only[List.headD_cons,AR];omega
theorem Cb_ (l:List DVal) (i:Nat):mx (l.getD i .any)<=AR l:=by
 rw[bJ0]
 cases h:l[i]? with
 | none=>simp[mx]
 | some d=>exact Cc_ (bH0 h)
theorem HS_ (l:List (List DVal)) (i:Nat):AR (l.getD i [])<=Bx l:=by
 rw[bJ0]
 cases h:l[i]? with
 | none=>simp[AR]
 | some d=>exact XR (bH0 h)
section
variable {P : Program} {own : List Ent} {e : Operand -> DVal} {n : Nat}
theorem TT {p:DVal} {cs:List DVal} (hc:DU own p=some cs):AR cs<=max (mx p) (Hj own):=by
 unfold DU at hc
 split at hc
 ·simp only[aA0]at hc;subst hc;simp only[mx];omega
 ·split at hc
  ·rename_i x hx
   split at hc
   ·split at hc
    ·rename_i cs0 qW;simp only[aA0]at hc;subst hc;have h1:=(Bs (AY hx).1).2;rw[qW]at h1;simp only[Fp]at h1;exact Nat.le_trans (GP _ _) (by omega)
    ·simp at hc
   ·simp at hc
  ·simp at hc
 ·split at hc
  ·rename_i x hx
   split at hc
   ·split at hc
    ·rename_i es qW
     split at hc
     ·rw[bC0]at hc;obtain⟨c0,h0,rfl⟩:=hc;have h1:=(Bs (AY hx).1).2;rw[qW]at h1;simp only[Fp]at h1;have h2:=XR (bH0 h0);exact Nat.le_trans (GP _ _) (by omega)
     ·simp at hc
    ·simp at hc
   ·simp at hc
  ·simp at hc
 ·simp at hc
theorem iA {place:Nat->Option (Nat×Nat)}:∀(ps:List (Nat×DVal)) (z r:List DVal),JL place z ps=some r->AR z<=n->(∀p∈ps,mx p.2<=n)->AR r<=n
 | [],z,r,h,hz,_=>by simp only[JL,aA0]at h;subst h;exact hz
 | (i,d)::ps,z,r,h,hz,hp=>by
  simp only[JL]at h
  split at h
  ·simp at h
  ·split at h
   ·refine iA ps _ r h ?_ fun p hm=>hp p (aC0 _ hm)
    have h2:=hp (i,d) aE0;refine Nat.le_trans (La z _ (AP d)) ?_;rw[CJ];simp only at h2;omega
   ·simp at h
theorem MU {t:TypeId} {z:List DVal} (h:tZero P t=some z):AR z=0:=by
 have h1:∀v,mx (Cm v)=0:=by
  intro v;unfold Cm
  split<;>(try split)<;>simp[mx]
 obtain⟨zv,_,rfl⟩:=HY (w:=default) h
 have:AR (zv.cells.toList.map Cm)<=0:=XS fun d hd=>by
  obtain⟨v,_,rfl⟩:=aR0.1 hd;rw[h1];omega
 omega
theorem Lk_ {op:BinOp} {t:TypeId} {x y d:DVal} (h:Hl P op t x y=some d):mx d=0:=by
 unfold Hl at h
 repeat' split at h
 all_goals first
  | (simp only[aA0]at h;subst h;rfl)
  | simp at h
theorem Ly_ {bi:Builtin} {ds:List DVal}:mx (NV own bi ds)=0:=by
 unfold NV
 repeat' split
 all_goals rfl
theorem EQ_ {d:DVal} {i:Int} (hn:Hj own<=n) (hd:mx d<=n):mx (GW own d i)<=n:=by
 unfold GW
 split
 ·rename_i k bs es;simp only[mx]at hd |-;exact Nat.le_trans (HS_ _ _) hd
 ·split
  ·simpa[mx]using hd
  ·simp[mx]
 ·simpa[mx]using hd
 ·simp[mx]
theorem HK_ {t:Bool} {x y:DVal} (hx:mx x<=n) (hy:mx y<=n):mx (Ko t x y)<=n:=by
 unfold Ko
 split<;>first
  | (simp[mx];done)
  | (split<;>assumption)
theorem HZ_ {p:DVal} {ks vs:List DVal} (hc:GR own p=some (ks,vs)):AR vs<=max (mx p) (Hj own):=by
 unfold GR at hc
 split at hc
 ·simp only[aA0,aT0]at hc;obtain⟨rfl,rfl⟩:=hc;simp only[mx];omega
 ·simp only[aA0,aT0]at hc;obtain⟨rfl,rfl⟩:=hc;simp[AR]
 ·split at hc
  ·rename_i e he
   split at hc
   ·split at hc
    ·rename_i qW;simp only[aA0,aT0]at hc;obtain⟨rfl,rfl⟩:=hc;have:=(Bs (AY he).1).2;rw[qW]at this;simp only[Fp]at this;omega
    ·simp at hc
   ·simp at hc
  ·simp at hc
 ·simp at hc
theorem Mz_ (v:Value):mx (ofV v)=0:=by
 have h1:∀v,mx (Cm v)=0:=by
  intro v;unfold Cm
  split<;>(try split)<;>simp[mx]
 unfold ofV
 split
 ·rename_i cs;simp only[mx]
  generalize cs.toList=l
  induction l with
  | nil=>simp[AR]
  | cons v l ih=>simp[AR,h1,ih]
 ·exact h1 _
theorem DT_ {t:TypeId} {z:DVal} (h:tZeroD P t=some z):mx z=0:=by
 unfold tZeroD at h
 split at h
 ·rw[bC0]at h;obtain⟨v,_,rfl⟩:=h;exact Mz_ v
 ·simp at h
theorem Nw_ (hn:Hj own<=n) (op:Op) (h:∀x∈op.operands,mx (e x)<=n):mx (BR P own e op)<=n:=by
 have any0:mx DVal.any<=n:=by simp[mx]
 have parts:∀(ps:Array (Nat×Operand)),(∀x∈(ps.toList.map (·.2)).toArray,mx (e x)<=n)->∀p∈ps.toList,mx (e p.2)<=n:=by
  intro ps h p hp;exact h p.2 (by simpa using ⟨p.1,by simpa using hp⟩)
 cases op<;>simp only[Op.operands]at h<;>simp only[BR]<;>try exact any0
 case move x=>exact h x (by simp)
 case assign x=>exact h x (by simp)
 case nilCheck x=>exact h x (by simp)
 case pick c x y =>
  split
  ·exact HK_ (h x (by simp)) (h y (by simp))
  ·exact any0
 case fieldAddr t x f =>
  have:=h x (by simp)
  split
  ·rename_i hx;rw[hx]at this;simp only[mx]at this |-;exact Nat.le_trans (GP _ _) this
  ·rename_i hx;rw[hx]at this;simpa[mx]using this
  ·rename_i hx;rw[hx]at this;simpa[mx]using this
  ·exact any0
 case load t x =>
  have:=h x (by simp)
  split
  ·rename_i h3;have:=TT h3;simp only[mx];exact Nat.le_trans (Np _ _) (by omega)
  ·rename_i h3;have:=TT h3;exact Nat.le_trans (aA _) (by omega)
  ·exact any0
 case indexAddr t x i =>
  split
  ·exact EQ_ hn (h x (by simp))
  ·exact any0
 case index t x i =>
  split
  ·simp[mx]
  ·exact any0
 case field t x f =>
  have:=h x (by simp)
  split
  ·rename_i hx;rw[hx]at this;simp only[mx]at this
   split
   ·simp only[mx];exact Nat.le_trans (Np _ _) (Nat.le_trans (GP _ _) this)
   ·exact Nat.le_trans (aA _) (Nat.le_trans (GP _ _) this)
  ·exact any0
 case binOp op t x y yt =>
  cases hd:Hl P op t (e x) (e y)with
  | none=>exact any0
  | some d=>simp[Lk_ hd]
 case unOp op t x =>
  split
  ·simp[mx]
  ·simp[mx]
  ·exact any0
 case convert src dst x =>
  have:=h x (by simp)
  split
  ·split
   ·simp[mx]
   ·exact any0
  ·exact this
 case extract x i =>
  have:=h x (by simp)
  split
  ·rename_i hx;rw[hx]at this;simp only[mx]at this;exact Nat.le_trans (Cb_ _ _) this
  ·exact any0
 case makeFunc f us cs =>
  simp only[mx]
  have h1:AR (us.toList.map e)<=n:=XS fun d hd=>by
   obtain⟨x,hx,rfl⟩:=aR0.1 hd;exact h x (by simp;left;simpa using hx)
  have h2:AR (cs.toList.map e)<=n:=XS fun d hd=>by
   obtain⟨x,hx,rfl⟩:=aR0.1 hd;exact h x (by simp;right;simpa using hx)
  omega
 case makeInterface t x=>simp only[mx];exact h x (by simp)
 case slice t x l h' m =>
  have:=h x (by simp)
  split
  ·rename_i hx;rw[hx]at this;simp only[mx]at this |-;exact Nat.le_trans (GN _ _) (Nat.le_trans (GO _ _) this)
  ·simp[mx]
  ·rename_i hx;rw[hx]at this
   split
   ·simpa[mx]using this
   ·exact any0
  ·rename_i hx;rw[hx]at this;simpa[mx]using this
  ·simp[mx]
  ·exact any0
 case lookup t x i ok =>
  have hx:=h x (by simp)
  split
  ·rename_i kt et ks vs ht hc;have vU:=HZ_ hc
   have key:mx (match AQ ks (e i)with | some j=>vs.getD j .any | none=>(tZeroD P et).getD .any)<=n:=by
    split
    ·exact Nat.le_trans (Cb_ _ _) (by omega)
    ·cases hz:tZeroD P et with
     | none=>exact any0
     | some z=>simp[DT_ hz]
   cases ok
   ·exact key
   ·exact eA0.2 ⟨key,by simp[mx,AR]⟩
  ·exact any0
 case box t x=>simp only[mx,CJ];exact h x (by simp)
 case build t ps =>
  have hp:=parts ps h
  split
  ·rename_i z hz;simp only[mx]
   cases hf:JL (Mi P t) z (ps.toList.map fun p=>(p.1,e p.2))with
   | none=>simp[AR]
   | some r =>
    refine iA _ z r hf (by rw[MU hz];omega) ?_;intro p hm;obtain⟨q,hq,rfl⟩:=aR0.1 hm;exact hp q hq
  ·exact any0
 case buildSlice t len ps =>
  have hp:=parts ps h
  split
  ·simp only[mx];refine xV fun cs hm=> ?_
   obtain⟨q,hq,rfl⟩:=aR0.1 hm;rw[CJ];exact hp q hq
  ·exact any0
 case call c =>
  split
  ·rw[Ly_];omega
  ·exact any0
theorem ZY {l:List (Nat×DVal)}:∀xs:List Operand,Gu true (ev l) xs->∀x∈xs,mx (Bl l x)<=mx (ev l x)
 | [],_,x,hx=>by cases hx
 | y::ys,h,x,hx=>by
  simp only[Gu]at h
  rcases aJ0.1 hx with rfl | hx
  ·unfold Bl;cases hq:ev l x<;>simp only[JZ]<;>try exact Nat.le_refl _
   rw[hq]at h;simp only[okG]at h;simp[mx,h.1 trivial]
  ·exact ZY ys h.2 x hx
theorem VM {l:List (Nat×DVal)} {x:Operand} (h:okG true (ev l x)):mx (Bl l x)<=mx (ev l x):=by
 unfold Bl;cases hq:ev l x<;>simp only[JZ]<;>try exact Nat.le_refl _
 rw[hq]at h;simp only[okG]at h;simp[mx,h trivial]
theorem ZZ (t:Bool) (x y:DVal):mx (Ko t x y)<=mx (if t then x else y):=by
 unfold Ko
 split<;>first
  | (simp[mx];done)
  | exact Nat.le_refl _
theorem Kq_ {l:List (Nat×DVal)} {op:Op} (qY:Kr true (ev l) op) (hp:FY P own (Bl l) op) (hn:Hj own<=n) (h:∀x∈op.operands,mx (ev l x)<=n):mx (BR P own (Bl l) op)<=n:=by
 by_cases nK:∃x a b,op= .pick x a b
 ·obtain⟨x,a,b,rfl⟩:=nK;simp only[Kr]at qY;obtain⟨h1,h2⟩:=qY;simp only[FY]at hp;cases hx:Bl l x<;>rw[hx]at hp<;>try exact hp.elim
  rename_i t;have h2:=h2 t hx;simp only[BR,hx];refine Nat.le_trans (ZZ _ _ _) ?_;cases t
  ·exact Nat.le_trans (VM (h2.2 rfl)) (h b (by simp[Op.operands]))
  ·exact Nat.le_trans (VM (h2.1 rfl)) (h a (by simp[Op.operands]))
 ·have yS:Gu true (ev l) op.operands.toList:=by
   unfold Kr at qY
   split at qY
   ·exact absurd ⟨_,_,_,rfl⟩ nK
   ·exact qY
  exact Nw_ hn op fun x hx=>Nat.le_trans (ZY _ yS x (by simpa using hx)) (h x hx)
end
end Go.Dm
end
