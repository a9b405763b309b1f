/- Parts of a proof, laid together: EnFacts, EnR, EnQ, EnI3, EnI4, EnJ, EnK. -/
import Derived.Test.YtchgnpnbcjflcaaGreatChecked
import Derived.KernelRfl
import Derived.Laws.CopyRow
import Derived.Lib.AppendStr
import Derived.Carry
import Derived.Test.YtchgnpnbcjflcaaGreatqCr2
set_option linter.unusedSimpArgs false
set_option maxHeartbeats 8000000
set_option linter.unusedVariables false
set_option linter.unusedSectionVars false
section
set_option maxRecDepth 100000
namespace Go.Proofs
open Go
@[simp] theorem Tryz.dmf0 : (Dm.tAgg Tryz.prog 3=some false)/\(Dm.tCells Tryz.prog 3=some 1)/\(Dm.tBool Tryz.prog 3=false)/\(Dm.tSl Tryz.prog 3=false)/\(Dm.tPtr Tryz.prog 3=false)/\(Dm.tZero Tryz.prog 3=some [.int .i64 0])/\(Dm.tAgg Tryz.prog 4=some false)/\(Dm.tCells Tryz.prog 4=some 1)/\(Dm.tBool Tryz.prog 4=true)/\(Dm.tAgg Tryz.prog 9=some false)/\(Dm.tCells Tryz.prog 9=some 1)/\(Dm.tStr Tryz.prog 9=true)/\(Dm.tBool Tryz.prog 9=false)/\(Dm.tSl Tryz.prog 9=false)/\(Dm.tPtr Tryz.prog 9=false)/\(Dm.tAgg Tryz.prog 22=some false)/\(Dm.tCells Tryz.prog 22=some 1)/\(Dm.tElem Tryz.prog 22=some (2,40))/\(Dm.tPtr Tryz.prog 23=true)/\(Dm.tAgg Tryz.prog 24=some false):=by (repeat' apply And.intro)<;>kernel_rfl
@[simp] theorem Tryz.dmf1 : (Dm.tCells Tryz.prog 24=some 1)/\(Dm.tAgg Tryz.prog 27=some false)/\(Dm.tCells Tryz.prog 27=some 1)/\(Dm.tElem Tryz.prog 27=some (2,32))/\(Dm.tElemId Tryz.prog 27=some 92)/\(Dm.tElemZ Tryz.prog 27=true)/\(Dm.zeroOK Tryz.prog 27=true)/\(Dm.tZeroE Tryz.prog 27=some [.int .i64 0,.nilsl])/\(Dm.tAgg Tryz.prog 29=some true)/\(Dm.tCells Tryz.prog 29=some 2)/\(Dm.tZero Tryz.prog 29=some [.int .i64 0,.nilsl])/\(Dm.tField Tryz.prog 29 0=some (0,1,false))/\(Dm.tField Tryz.prog 29 1=some (1,1,false))/\(Dm.tParts Tryz.prog 29=true)/\(Dm.tAgg Tryz.prog 36=some false)/\(Dm.tCells Tryz.prog 36=some 1)/\(Dm.tElem Tryz.prog 36=some (1,8))/\(Dm.tSl Tryz.prog 36=true)/\(Dm.tElemId Tryz.prog 36=some 3)/\(Dm.tElemZ Tryz.prog 36=true):=by (repeat' apply And.intro)<;>kernel_rfl
@[simp] theorem Tryz.dmf2 : (Dm.zeroOK Tryz.prog 36=true)/\(Dm.tZeroE Tryz.prog 36=some [.int .i64 0])/\(Dm.tAgg Tryz.prog 37=some false)/\(Dm.tCells Tryz.prog 37=some 1)/\(Dm.tElem Tryz.prog 37=some (4,32))/\(Dm.tSl Tryz.prog 37=true)/\(Dm.tElemId Tryz.prog 37=some 97)/\(Dm.tElemZ Tryz.prog 37=true)/\(Dm.zeroOK Tryz.prog 37=true)/\(Dm.tZeroE Tryz.prog 37=some [.int .i64 0,.bool false,.int .i64 0,.int .i64 0])/\(Dm.tAgg Tryz.prog 38=some false)/\(Dm.tCells Tryz.prog 38=some 1)/\(Dm.tElem Tryz.prog 38=some (3,56))/\(Dm.tElemId Tryz.prog 38=some 80)/\(Dm.tElemZ Tryz.prog 38=true)/\(Dm.zeroOK Tryz.prog 38=true)/\(Dm.tAgg Tryz.prog 40=some true)/\(Dm.tCells Tryz.prog 40=some 6)/\(Dm.tZero Tryz.prog 40=some [.int .i64 0,.nilsl,.nilsl,.nilsl,.nilsl,.nilsl])/\(Dm.tField Tryz.prog 40 0=some (0,1,false)):=by (repeat' apply And.intro)<;>kernel_rfl
@[simp] theorem Tryz.dmf3 : (Dm.tField Tryz.prog 40 1=some (1,1,false))/\(Dm.tField Tryz.prog 40 2=some (2,1,false))/\(Dm.tField Tryz.prog 40 3=some (3,1,false))/\(Dm.tField Tryz.prog 40 4=some (4,1,false))/\(Dm.tField Tryz.prog 40 5=some (5,1,false))/\(Dm.tAgg Tryz.prog 42=some false)/\(Dm.tCells Tryz.prog 42=some 1)/\(Dm.tAgg Tryz.prog 46=some false)/\(Dm.tCells Tryz.prog 46=some 1)/\(Dm.tElem Tryz.prog 46=some (1,16))/\(Dm.tSl Tryz.prog 46=true)/\(Dm.tZero Tryz.prog 46=some [.nilsl])/\(Dm.tElemId Tryz.prog 46=some 9)/\(Dm.tElemZ Tryz.prog 46=true)/\(Dm.zeroOK Tryz.prog 46=true)/\(Dm.tZeroE Tryz.prog 46=some [.str ⟨#[]⟩])/\(Dm.tAgg Tryz.prog 56=some false)/\(Dm.tCells Tryz.prog 56=some 1)/\(Dm.tElem Tryz.prog 56=some (3,48))/\(Dm.tAgg Tryz.prog 58=some true):=by (repeat' apply And.intro)<;>kernel_rfl
@[simp] theorem Tryz.dmf4 : (Dm.tCells Tryz.prog 58=some 2)/\(Dm.tZero Tryz.prog 58=some [.nilsl,.nilsl])/\(Dm.tField Tryz.prog 58 0=some (0,1,false))/\(Dm.tField Tryz.prog 58 1=some (1,1,false))/\(Dm.tParts Tryz.prog 58=true)/\(Dm.tField Tryz.prog 60 0=some (0,1,false))/\(Dm.tField Tryz.prog 60 1=some (1,2,true))/\(Dm.tField Tryz.prog 60 2=some (3,1,false))/\(Dm.tField Tryz.prog 60 3=some (4,1,false))/\(Dm.tField Tryz.prog 60 4=some (5,1,false))/\(Dm.tField Tryz.prog 60 5=some (6,1,false))/\(Dm.tAgg Tryz.prog 66=some false)/\(Dm.tCells Tryz.prog 66=some 1)/\(Dm.tPtr Tryz.prog 66=true)/\(Dm.tAgg Tryz.prog 75=some false)/\(Dm.tCells Tryz.prog 75=some 1)/\(Dm.tElem Tryz.prog 75=some (4,64))/\(Dm.tElemId Tryz.prog 75=some 86)/\(Dm.tElemZ Tryz.prog 75=true)/\(Dm.zeroOK Tryz.prog 75=true):=by (repeat' apply And.intro)<;>kernel_rfl
@[simp] theorem Tryz.dmf5 : (Dm.tZero Tryz.prog 77=some [.nilp,.nilsl,.int .i64 0])/\(Dm.tField Tryz.prog 77 0=some (0,1,false))/\(Dm.tField Tryz.prog 77 1=some (1,1,false))/\(Dm.tField Tryz.prog 77 2=some (2,1,false))/\(Dm.tParts Tryz.prog 77=true)/\(Dm.tAgg Tryz.prog 80=some true)/\(Dm.tCells Tryz.prog 80=some 3)/\(Dm.tZero Tryz.prog 80=some [.int .i64 0,.nilsl,.nilsl])/\(Dm.tField Tryz.prog 80 0=some (0,1,false))/\(Dm.tField Tryz.prog 80 1=some (1,1,false))/\(Dm.tField Tryz.prog 80 2=some (2,1,false))/\(Dm.tParts Tryz.prog 80=true)/\(Dm.tElem Tryz.prog 83=some (1,24))/\(Dm.tElemId Tryz.prog 83=some 153)/\(Dm.tElemZ Tryz.prog 83=true)/\(Dm.zeroOK Tryz.prog 83=true)/\(Dm.tAgg Tryz.prog 86=some true)/\(Dm.tCells Tryz.prog 86=some 4)/\(Dm.tZero Tryz.prog 86=some [.int .i64 0,.nilsl,.nilsl,.int .i64 0])/\(Dm.tField Tryz.prog 86 0=some (0,3,true)):=by (repeat' apply And.intro)<;>kernel_rfl
@[simp] theorem Tryz.dmf6 : (Dm.tField Tryz.prog 86 1=some (3,1,false))/\(Dm.tParts Tryz.prog 86=true)/\(Dm.tAgg Tryz.prog 90=some false)/\(Dm.tCells Tryz.prog 90=some 1)/\(Dm.tElem Tryz.prog 90=some (2,16))/\(Dm.tSl Tryz.prog 90=true)/\(Dm.tElemId Tryz.prog 90=some 95)/\(Dm.tElemZ Tryz.prog 90=true)/\(Dm.zeroOK Tryz.prog 90=true)/\(Dm.tAgg Tryz.prog 92=some true)/\(Dm.tCells Tryz.prog 92=some 2)/\(Dm.tZero Tryz.prog 92=some [.int .i64 0,.nilsl])/\(Dm.tField Tryz.prog 92 0=some (0,1,false))/\(Dm.tField Tryz.prog 92 1=some (1,1,false))/\(Dm.tParts Tryz.prog 92=true)/\(Dm.tAgg Tryz.prog 95=some true)/\(Dm.tCells Tryz.prog 95=some 2)/\(Dm.tZero Tryz.prog 95=some [.bool false,.int .i64 0])/\(Dm.tField Tryz.prog 95 0=some (0,1,false))/\(Dm.tField Tryz.prog 95 1=some (1,1,false)):=by (repeat' apply And.intro)<;>kernel_rfl
@[simp] theorem Tryz.dmf7 : (Dm.flat Tryz.prog 10000 95=some [.b,.i .i64])/\(Dm.tParts Tryz.prog 95=true)/\(Dm.tAgg Tryz.prog 97=some true)/\(Dm.tCells Tryz.prog 97=some 4)/\(Dm.tZero Tryz.prog 97=some [.int .i64 0,.bool false,.int .i64 0,.int .i64 0])/\(Dm.tField Tryz.prog 97 0=some (0,1,false))/\(Dm.tField Tryz.prog 97 1=some (1,2,true))/\(Dm.tField Tryz.prog 97 2=some (3,1,false))/\(Dm.flat Tryz.prog 10000 97=some [.i .i64,.b,.i .i64,.i .i64])/\(Dm.tParts Tryz.prog 97=true)/\(Dm.tAgg Tryz.prog 112=some false)/\(Dm.tCells Tryz.prog 112=some 1)/\(Dm.tAgg Tryz.prog 129=some true)/\(Dm.tCells Tryz.prog 129=some 3)/\(Dm.tZero Tryz.prog 129=some [.str ⟨#[]⟩,.str ⟨#[]⟩,.str ⟨#[]⟩])/\(Dm.tField Tryz.prog 129 0=some (0,1,false))/\(Dm.tField Tryz.prog 129 1=some (1,1,false))/\(Dm.tField Tryz.prog 129 2=some (2,1,false))/\(Dm.flat Tryz.prog 10000 129=some [.s,.s,.s])/\(Dm.tAgg Tryz.prog 130=some false):=by (repeat' apply And.intro)<;>kernel_rfl
@[simp] theorem Tryz.dmf8 : (Dm.tCells Tryz.prog 130=some 1)/\(Dm.tMp Tryz.prog 130=true)/\(Dm.tMap Tryz.prog 130=some (134,3))/\(Dm.tZeroD Tryz.prog 3=some (.int .i64 0))/\(Dm.tZero Tryz.prog 132=some [.nilsl,.nilsl,.nilmp])/\(Dm.tField Tryz.prog 132 0=some (0,1,false))/\(Dm.tField Tryz.prog 132 1=some (1,1,false))/\(Dm.tField Tryz.prog 132 2=some (2,1,false))/\(Dm.tParts Tryz.prog 132=true)/\(Dm.tAgg Tryz.prog 134=some true)/\(Dm.tCells Tryz.prog 134=some 2)/\(Dm.tZero Tryz.prog 134=some [.bool false,.str ⟨#[]⟩])/\(Dm.tField Tryz.prog 134 0=some (0,1,false))/\(Dm.tField Tryz.prog 134 1=some (1,1,false))/\(Dm.flat Tryz.prog 10000 134=some [.b,.s])/\(Dm.tParts Tryz.prog 134=true)/\(Dm.tAgg Tryz.prog 140=some true)/\(Dm.tCells Tryz.prog 140=some 3)/\(Dm.tZero Tryz.prog 140=some [.int .i64 0,.int .i64 0,.int .i64 0])/\(Dm.tField Tryz.prog 140 0=some (0,1,false)):=by (repeat' apply And.intro)<;>kernel_rfl
@[simp] theorem Tryz.dmf9 : (Dm.tField Tryz.prog 140 1=some (1,1,false))/\(Dm.tField Tryz.prog 140 2=some (2,1,false))/\(Dm.flat Tryz.prog 10000 140=some [.i .i64,.i .i64,.i .i64])/\(Dm.tParts Tryz.prog 140=true)/\(Dm.tAgg Tryz.prog 149=some false)/\(Dm.tCells Tryz.prog 149=some 1)/\(Dm.tElem Tryz.prog 149=some (3,24))/\(Dm.tElemId Tryz.prog 149=some 140)/\(Dm.tElemZ Tryz.prog 149=true)/\(Dm.zeroOK Tryz.prog 149=true)/\(Dm.tAgg Tryz.prog 153=some false)/\(Dm.tCells Tryz.prog 153=some 1)/\(Dm.tElem Tryz.prog 153=some (3,32))/\(Dm.tSl Tryz.prog 153=true)/\(Dm.tElemId Tryz.prog 153=some 157)/\(Dm.tElemZ Tryz.prog 153=true)/\(Dm.zeroOK Tryz.prog 153=true)/\(Dm.tAgg Tryz.prog 155=some false)/\(Dm.tCells Tryz.prog 155=some 1)/\(Dm.tAgg Tryz.prog 157=some true):=by (repeat' apply And.intro)<;>kernel_rfl
@[simp] theorem Tryz.dmf10 : (Dm.tCells Tryz.prog 157=some 3)/\(Dm.tZero Tryz.prog 157=some [.int .i64 0,.str ⟨#[]⟩,.int .i64 0])/\(Dm.tField Tryz.prog 157 0=some (0,1,false))/\(Dm.tField Tryz.prog 157 1=some (1,1,false))/\(Dm.tField Tryz.prog 157 2=some (2,1,false))/\(Dm.tParts Tryz.prog 157=true)/\(Dm.tZero Tryz.prog 163=some [.nilsl,.nilsl])/\(Dm.tField Tryz.prog 163 0=some (0,1,false))/\(Dm.tField Tryz.prog 163 1=some (1,1,false))/\(Dm.tParts Tryz.prog 163=true)/\(Dm.tAgg Tryz.prog 165=some true)/\(Dm.tCells Tryz.prog 165=some 3)/\(Dm.tZero Tryz.prog 165=some [.bool false,.nilsl,.nilsl])/\(Dm.tField Tryz.prog 165 0=some (0,1,false))/\(Dm.tField Tryz.prog 165 1=some (1,1,false))/\(Dm.tField Tryz.prog 165 2=some (2,1,false))/\(Dm.tParts Tryz.prog 165=true)/\(Dm.tAgg Tryz.prog 176=some true)/\(Dm.tCells Tryz.prog 176=some 2)/\(Dm.tZero Tryz.prog 176=some [.str ⟨#[]⟩,.nilsl]):=by (repeat' apply And.intro)<;>kernel_rfl
@[simp] theorem Tryz.dmf11 : (Dm.tField Tryz.prog 176 0=some (0,1,false))/\(Dm.tField Tryz.prog 176 1=some (1,1,false))/\(Dm.tAgg Tryz.prog 190=some false)/\(Dm.tCells Tryz.prog 190=some 1)/\(Dm.tZero Tryz.prog 190=some [.nilfn])/\(Dm.tAgg Tryz.prog 205=some false)/\(Dm.tCells Tryz.prog 205=some 1)/\(Dm.tMap Tryz.prog 205=some (3,3))/\(Dm.flat Tryz.prog 10000 3=some [.i .i64])/\(Dm.tZero Tryz.prog 207=some [.int .i64 0,.nilsl,.nilmp,.int .i64 0])/\(Dm.tField Tryz.prog 207 0=some (0,2,true))/\(Dm.tField Tryz.prog 207 1=some (2,1,false))/\(Dm.tField Tryz.prog 207 2=some (3,1,false))/\(Dm.tParts Tryz.prog 207=true)/\(Dm.tAgg Tryz.prog 211=some true)/\(Dm.tCells Tryz.prog 211=some 4)/\(Dm.tZero Tryz.prog 211=some [.int .i64 0,.nilsl,.nilsl,.int .i64 0])/\(Dm.tField Tryz.prog 211 0=some (0,1,false))/\(Dm.tField Tryz.prog 211 1=some (1,1,false))/\(Dm.tField Tryz.prog 211 2=some (2,1,false)):=by (repeat' apply And.intro)<;>kernel_rfl
@[simp] theorem Tryz.dmf12 : (Dm.tField Tryz.prog 211 3=some (3,1,false))/\(Dm.tParts Tryz.prog 211=true)/\(Dm.tElem Tryz.prog 218=some (1,8))/\(Dm.tElemZ Tryz.prog 218=true)/\(Dm.tElem Tryz.prog 224=some (1,24))/\(Dm.tElem Tryz.prog 228=some (2,16))/\(Dm.tElemZ Tryz.prog 228=true)/\(Dm.tAgg Tryz.prog 231=some true)/\(Dm.tCells Tryz.prog 231=some 2)/\(Dm.tZero Tryz.prog 231=some [.nilfn,.int .i64 0])/\(Dm.tField Tryz.prog 231 0=some (0,1,false))/\(Dm.tField Tryz.prog 231 1=some (1,1,false))/\(Dm.tParts Tryz.prog 231=true)/\(Dm.tMap Tryz.prog 241=some (9,3))/\(Dm.flat Tryz.prog 10000 9=some [.s])/\(Dm.tAgg Tryz.prog 244=some false)/\(Dm.tCells Tryz.prog 244=some 1)/\(Dm.tMap Tryz.prog 244=some (140,3))/\(Dm.tZero Tryz.prog 246=some [.int .i64 0,.nilsl,.nilsl,.nilmp,.nilsl])/\(Dm.tField Tryz.prog 246 0=some (0,2,true)):=by (repeat' apply And.intro)<;>kernel_rfl
@[simp] theorem Tryz.dmf13 : (Dm.tField Tryz.prog 246 1=some (2,1,false))/\(Dm.tField Tryz.prog 246 2=some (3,1,false))/\(Dm.tField Tryz.prog 246 3=some (4,1,false))/\(Dm.tParts Tryz.prog 246=true)/\(Dm.tElem Tryz.prog 284=some (1,1))/\(Dm.tElemId Tryz.prog 284=some 4)/\(Dm.tZeroE Tryz.prog 284=some [.bool false])/\(Dm.tAgg Tryz.prog 287=some false)/\(Dm.tCells Tryz.prog 287=some 1)/\(Dm.tElem Tryz.prog 304=some (1,24))/\(Dm.tElemZ Tryz.prog 304=true)/\(Dm.tAgg Tryz.prog 336=some false)/\(Dm.tCells Tryz.prog 336=some 1)/\(Dm.tElem Tryz.prog 336=some (1,1))/\(Dm.tElemId Tryz.prog 336=some 5)/\(Dm.zeroOK Tryz.prog 336=true)/\(Dm.tZero Tryz.prog 338=some [.nilp,.nilsl])/\(Dm.tField Tryz.prog 338 1=some (1,1,false)):=by (repeat' apply And.intro)<;>kernel_rfl
end Go.Proofs
end
section
namespace Go.Dm
variable [DMode]
def NS (φ:Nat->Nat->Option (Nat×Nat)):DVal->DVal
 | .osl i r=>match φ i r with | some p=> .osl p.1 p.2 | none=> .any
 | .vw i r k bs a n=>match φ i r with | some p=> .vw p.1 p.2 k bs a n | none=> .any
 | .bx i r off=>match φ i r with | some p=> .bx p.1 p.2 off | none=> .any
 | .rx i r k a b=>match φ i r with | some p=> .rx p.1 p.2 k a b | none=> .any
 | .omp i r=>match φ i r with | some p=> .omp p.1 p.2 | none=> .any
 | .pk i r=>match φ i r with | some p=> .pk p.1 p.2 | none=> .any
 | d=>d
def okR : DVal->Prop
 | .osl _ _ | .vw _ _ _ _ _ _ | .bx _ _ _ | .rx _ _ _ _ _ | .omp _ _ | .pk _ _=>True
 | d=>mx d=0
def Al_ : List DVal->Prop
 | []=>True
 | d::ds=>okR d/\Al_ ds
def Te (φ:Nat->Nat->Option (Nat×Nat)):DVal->DVal
 | .fn f us cs=> .fn f (us.map (NS φ)) (cs.map (NS φ))
 | d=>NS φ d
def XR : DVal->Prop
 | .fn _ us cs=>Al_ us/\Al_ cs
 | d=>okR d
def Vp : List DVal->Prop
 | []=>True
 | d::ds=>XR d/\Vp ds
def eX (φ:Nat->Nat->Option (Nat×Nat)):DVal->DVal
 | .agg cs=> .agg (cs.map (Te φ))
 | d=>Te φ d
def ok3 : DVal->Prop
 | .agg cs=>Vp cs
 | d=>XR d
def Am_ : List DVal->Prop
 | []=>True
 | d::ds=>ok3 d/\Am_ ds
def JG (φ:Nat->Nat->Option (Nat×Nat)):DVal->DVal
 | .tup cs=> .tup (cs.map (eX φ))
 | d=>eX φ d
def iK : DVal->Prop
 | .tup cs=>Am_ cs
 | d=>ok3 d
def FY_ : List (List DVal)->Prop
 | []=>True
 | cs::es=>Vp cs/\FY_ es
def Mm (φ:Nat->Nat->Option (Nat×Nat)):List (List DVal)->List (List DVal)
 | []=>[]
 | cs::es=>cs.map (Te φ)::Mm φ es
def LQ (φ:Nat->Nat->Option (Nat×Nat)):DObj->DObj
 | .box cs=> .box (cs.map (Te φ))
 | .row et k bs es=>if BK es=0 then .row et k bs es else .row et k bs (Mm φ es)
 | o=>o
def okO : DObj->Prop
 | .box cs=>Vp cs
 | .row _ _ _ es=>BK es=0\/FY_ es
 | .map ks vs=>AV ks=0/\AV vs=0
 | .abs _=>True
section
variable {cur cur' : Gp} {M M' : List Nat} {h h' : Array Obj} {φ : Nat -> Nat -> Option (Nat × Nat)}
def IY (cur cur':Gp) (φ:Nat->Nat->Option (Nat×Nat)):Prop:=∀i r p l,φ i r=some p->cur' p.1 p.2=some l->cur i r=some l
theorem HR_ (W:Weak cur cur' M M' h h' 0) (L:IY cur cur' φ) {d:DVal} {v:Value} (hk:okR d) (hr:rd cur M h d v):rd cur' M' h' (NS φ d) v:=by
 cases d with
 | osl i r =>
  simp only[NS]
  split
  ·rename_i p hp;simp only[rd]at hr |-;exact fun l hl=>hr l (L i r p l hp hl)
  ·simp[rd]
 | bx i r off =>
  simp only[NS]
  split
  ·rename_i p hp;simp only[rd]at hr |-;exact fun l hl=>hr l (L i r p l hp hl)
  ·simp[rd]
 | vw i r k bs x n =>
  simp only[NS]
  split
  ·rename_i p hp;simp only[rd]at hr |-;exact fun l hl=>hr l (L i r p l hp hl)
  ·simp[rd]
 | rx i r k a b =>
  simp only[NS]
  split
  ·rename_i p hp;simp only[rd]at hr |-;exact fun l hl=>hr l (L i r p l hp hl)
  ·simp[rd]
 | omp i r =>
  simp only[NS]
  split
  ·rename_i p hp;simp only[rd]at hr |-;exact fun l hl=>hr l (L i r p l hp hl)
  ·simp[rd]
 | pk i r =>
  simp only[NS]
  split
  ·rename_i p hp;simp only[rd]at hr |-;exact fun l hl=>hr l (L i r p l hp hl)
  ·simp[rd]
 | _=>simp only[okR]at hk;simp only[NS];exact Db W _ v (dP0 hk) hr
theorem UV (W:Weak cur cur' M M' h h' 0) (L:IY cur cur' φ):∀{ds:List DVal} {vs:List Value},Al_ ds->AL cur M h ds vs->AL cur' M' h' (ds.map (NS φ)) vs
 | [],vs,_,hr=>by simpa[AL]using hr
 | d::ds,vs,hk,hr=>by
  simp only[Al_]at hk;simp only[AL,List.map_cons]at hr |-;obtain⟨v,r,rfl,h1,h2⟩:=hr;exact⟨v,r,rfl,HR_ W L hk.1 h1,UV W L hk.2 h2⟩
theorem eY (W:Weak cur cur' M M' h h' 0) (L:IY cur cur' φ) {d:DVal} {v:Value} (hk:XR d) (hr:rd cur M h d v):rd cur' M' h' (Te φ d) v:=by
 cases d with
 | fn f us cs =>
  simp only[XR]at hk;simp only[Te,rd]at hr |-;obtain⟨us',cs',h1,h2,h3⟩:=hr;exact⟨us',cs',h1,UV W L hk.1 h2,UV W L hk.2 h3⟩
 | _=>exact HR_ W L (by simpa only[XR]using hk) hr
theorem xW (W:Weak cur cur' M M' h h' 0) (L:IY cur cur' φ):∀{ds:List DVal} {vs:List Value},Vp ds->AL cur M h ds vs->AL cur' M' h' (ds.map (Te φ)) vs
 | [],vs,_,hr=>by simpa[AL]using hr
 | d::ds,vs,hk,hr=>by
  simp only[Vp]at hk;simp only[AL,List.map_cons]at hr |-;obtain⟨v,r,rfl,h1,h2⟩:=hr;exact⟨v,r,rfl,eY W L hk.1 h1,xW W L hk.2 h2⟩
theorem UY (W:Weak cur cur' M M' h h' 0) (L:IY cur cur' φ):∀{ds:List DVal} {arr:Array Value} {o:Nat},Vp ds->ET cur M h ds arr o->ET cur' M' h' (ds.map (Te φ)) arr o
 | [],_,_,_,_=>by simp[ET]
 | d::ds,arr,o,hk,hr=>by
  simp only[Vp]at hk;simp only[ET,List.map_cons]at hr |-;obtain⟨⟨v,h1,h2,h3⟩,h4⟩:=hr;exact⟨⟨v,h1,h2,eY W L hk.1 h3⟩,UY W L hk.2 h4⟩
theorem HS_ (W:Weak cur cur' M M' h h' 0) (L:IY cur cur' φ) {d:DVal} {v:Value} (hk:ok3 d) (hr:rd cur M h d v):rd cur' M' h' (eX φ d) v:=by
 cases d with
 | agg cs =>
  simp only[ok3]at hk;simp only[eX,rd]at hr |-;obtain⟨us,h1,h2⟩:=hr;exact⟨us,h1,xW W L hk h2⟩
 | _=>exact eY W L (by simpa only[ok3]using hk) hr
theorem xV (W:Weak cur cur' M M' h h' 0) (L:IY cur cur' φ):∀{ds:List DVal} {vs:List Value},Am_ ds->AL cur M h ds vs->AL cur' M' h' (ds.map (eX φ)) vs
 | [],vs,_,hr=>by simpa[AL]using hr
 | d::ds,vs,hk,hr=>by
  simp only[Am_]at hk;simp only[AL,List.map_cons]at hr |-;obtain⟨v,r,rfl,h1,h2⟩:=hr;exact⟨v,r,rfl,HS_ W L hk.1 h1,xV W L hk.2 h2⟩
theorem TJ (W:Weak cur cur' M M' h h' 0) (L:IY cur cur' φ) {d:DVal} {v:Value} (hk:iK d) (hr:rd cur M h d v):rd cur' M' h' (JG φ d) v:=by
 cases d with
 | tup cs =>
  simp only[iK]at hk;simp only[JG,rd]at hr |-;obtain⟨us,h1,h2⟩:=hr;exact⟨us,h1,xV W L hk h2⟩
 | _=>exact HS_ W L (by simpa only[iK]using hk) hr
theorem xY (W:Weak cur cur' M M' h h' 0) (L:IY cur cur' φ) {k:Nat}:∀{es:List (List DVal)} {arr:Array Value} {o:Nat},FY_ es->Fz cur M h k es arr o->Fz cur' M' h' k (Mm φ es) arr o
 | [],_,_,_,_=>by simp[Mm,Fz]
 | cs::es,arr,o,hk,hr=>by
  simp only[FY_]at hk;simp only[Fz,Mm]at hr |-;exact⟨by simpa using hr.1,UY W L hk.1 hr.2.1,xY W L hk.2 hr.2.2⟩
theorem Rn (φ:Nat->Nat->Option (Nat×Nat)) (es:List (List DVal)):(Mm φ es).length=es.length:=by
 induction es with
 | nil=>rfl
 | cons c l ih=>simp[Mm,ih]
theorem NO (W:Weak cur cur' M M' h h' 0) (L:IY cur cur' φ) {l l':Loc} {obj:DObj} (hk:okO obj) (hl:l'=l)
  (keep:∀b o,b∈l.blks->h[b]? =some o->h'[b]? =some o) (ho:Nh cur M h l obj):Nh cur' M' h' l' (LQ φ obj):=by
 subst hl
 cases obj with
 | box cs =>
  simp only[okO]at hk;obtain⟨b,arr,ty,h1,h2,h3,h4⟩:=ho;exact⟨b,arr,ty,h1,keep b _ (by simp[h1]) h2,by simp[h3],UY W L hk h4⟩
 | row et k bs es =>
  simp only[LQ]
  split
  ·rename_i h0;exact BF W (by simp[GC,h0]) keep ho
  ·rename_i h0;simp only[okO]at hk;have hk:=hk.resolve_left h0;obtain⟨hb,ho⟩:=ho;refine⟨by rw[Rn];exact hb,?_⟩
   rcases ho with ⟨rfl,h1,h2⟩ | ⟨b,arr,cap,h1,h2,h3,h4,h5,h6,h7⟩
   ·exact .inl ⟨rfl,h1,h2⟩
   ·exact .inr ⟨b,arr,cap,h1,by rw[Rn];exact h2,keep b _ (by simp[h1]) h3,by rw[Rn];exact h4,h5,h6,xY W L hk h7⟩
 | map ks vs=>exact BF W (by simp only[okO]at hk;simp[LQ,GC,hk]) keep ho
 | abs A=>exact BF W (by simp[LQ,GC]) keep ho
end
def Kd_ (P:Program):Fn->Prop
 | .func g=>Enters P g
 | _=>True
def AS (P:Program) (f:Fn) (args:List DVal) (own:List Ent) (d:DVal) (own':List Ent):Prop :=
 (∀e∈own',e.r<=1)/\Kd_ P f/\∀(M:List Nat) (w:World) (loc:Nat->Loc) (vs:Array Value),St own loc M w.heap->AL (Aj own loc) (Ad own loc++M) w.heap args vs.toList ->
  JQ P f vs w fun v w'=>∃loc',St own' loc' M w'.heap/\Upd (Ad own loc) w w'/\(∀b∈Ad own' loc',b∈Ad own loc\/w.heap.size<=b) /\
   (∀e∈own',e.r<1->Aj own loc e.id e.r=some (loc' e.id))/\rd (Aj own' loc') (Ad own' loc'++M) w'.heap d v
def Cv (own:List Ent):List (Nat×Nat×Nat)->Nat->Nat->Option (Nat×Nat)
 | [],_,_=>none
 | (i,j,v)::ρ,i',r'=>if i'=i then (match Ax own i with | some e=>if r'=e.r then some (j,v)else none | none=>none)else Cv own ρ i' r'
def OL (own:List Ent) (φ:Nat->Nat->Option (Nat×Nat)):List (Nat×Nat×Nat)->Option (List Ent)
 | []=>some []
 | (i,j,v)::ρ=>match Ax own i,OL own φ ρ with
  | some e,some l=>some (⟨j,v,LQ φ e.obj⟩::l)
  | _,_=>none
def PH (own:List Ent):List (Nat×Nat×Nat)->Prop
 | []=>True
 | (i,j,v)::ρ=>(match Ax own i with | some e=>okO e.obj/\(v=1\/(v=0/\i=j/\e.r=0)) | none=>False)/\PH own ρ
section
variable {own : List Ent}
theorem Lb : ∀{ρ:List (Nat×Nat×Nat)} {i r:Nat} {p:Nat×Nat},Cv own ρ i r=some p->∃e,(i,p.1,p.2)∈ρ/\Ax own i=some e/\e.r=r
 | [],i,r,p,h=>by simp[Cv]at h
 | (i0,j,v)::ρ,i,r,p,h=>by
  simp only[Cv]at h
  split at h
  ·rename_i hi;subst hi
   split at h
   ·rename_i e he
    split at h
    ·rename_i hr;simp only[aA0]at h;subst h;exact⟨e,aF0,he,hr.symm⟩
    ·simp at h
   ·simp at h
  ·obtain⟨e,h1,h2,h3⟩:=Lb h;exact⟨e,aE0 _ h1,h2,h3⟩
theorem PI {φ:Nat->Nat->Option (Nat×Nat)}:∀{ρ:List (Nat×Nat×Nat)} {l:List Ent},OL own φ ρ=some l->(∀x∈l,∃i j v e,(i,j,v)∈ρ/\Ax own i=some e/\x=⟨j,v,LQ φ e.obj⟩)/\l.map (·.id)=ρ.map (·.2.1)
 | [],l,h=>by simp only[OL,aA0]at h;subst h;simp
 | (i,j,v)::ρ,l,h=>by
  simp only[OL]at h
  split at h
  ·rename_i e l' he wD;simp only[aA0]at h;subst h;obtain⟨h1,h2⟩:=PI wD;refine⟨fun x hx=> ?_,by simp[h2]⟩
   rcases aL0.1 hx with rfl | hx
   ·exact⟨i,j,v,e,aF0,he,rfl⟩
   ·obtain⟨i',j',v',e',g1,g2,g3⟩:=h1 x hx;exact⟨i',j',v',e',aE0 _ g1,g2,g3⟩
  ·simp at h
theorem Nt : ∀{ρ:List (Nat×Nat×Nat)},PH own ρ->∀i j v,(i,j,v)∈ρ->∃e,Ax own i=some e/\okO e.obj/\(v=1\/(v=0/\i=j/\e.r=0))
 | [],_,i,j,v,hm=>by cases hm
 | (i0,j0,v0)::ρ,h,i,j,v,hm=>by
  simp only[PH]at h
  rcases aL0.1 hm with heq | hm
  ·simp only[aY0]at heq;obtain⟨rfl,rfl,rfl⟩:=heq;have h1:=h.1
   split at h1
   ·rename_i e he;exact⟨e,he,h1⟩
   ·exact h1.elim
  ·exact Nt h.2 i j v hm
end
def uD (P:Program) (f:Fn) (args:List DVal) (own:List Ent) (r:Nat) (d:DVal) (own':List Ent):Prop :=
 Kd_ P f/\(own'.map (·.id)).Nodup/\(Jc own<=r->mx d<=r+1/\Jc own'<=r+1) /\
 ∀(M:List Nat) (w:World) (loc:Nat->Loc) (vs:Array Value),Jc own<=r->St own loc M w.heap->AL (Aj own loc) (Ad own loc++M) w.heap args vs.toList ->
  JQ P f vs w fun v w'=>∃loc',St own' loc' M w'.heap/\Upd (Ad own loc) w w'/\(∀b∈Ad own' loc',b∈Ad own loc\/w.heap.size<=b) /\
   (∀e∈own',e.r<r->Aj own loc e.id e.r=some (loc' e.id))/\rd (Aj own' loc') (Ad own' loc'++M) w'.heap d v
def Cg : List (Nat×Nat)->Nat->Option Nat
 | [],_=>none
 | (i,j')::t,j=>if j=j' then some i else Cg t j
def Ff (ρ:List (Nat×Nat)):List (Nat×Nat×Nat):=ρ.map fun p=>(p.1,p.2,0)
def EN (own:List Ent) (ρ ν:List (Nat×Nat)) (r:Nat):Nat->Nat->Option (Nat×Nat):=fun j v =>
 if v=0 then (match Cg ρ j with | some i=>(match Ax own i with | some e=>some (i,e.r) | none=>none) | none=>none)
 else if v=1 then (match Cg (ρ++ν) j with | some i=>some (i,r) | none=>none)
 else none
def KB (φ:Nat->Nat->Option (Nat×Nat)):List Ent->Option (List Ent)
 | []=>some []
 | e::t=>match φ e.id e.r,KB φ t with
  | some p,some l=>some (⟨p.1,p.2,LQ φ e.obj⟩::l)
  | _,_=>none
def BE : List Ent->List Nat->List Ent
 | [],_=>[]
 | e::t,ids=>if ids.contains e.id then BE t ids else e::BE t ids
def iI : List Ent->Prop
 | []=>True
 | e::t=>okO e.obj/\iI t
def iJ : List DVal->Prop
 | []=>True
 | d::t=>iK d/\iJ t
def lO (own:List Ent):List (Nat×Nat)->Prop
 | []=>True
 | (i,_)::t=>(match Ax own i with | some e=>okO e.obj | none=>False)/\lO own t
theorem Ki : ∀{l:List (Nat×Nat)} {j i:Nat},Cg l j=some i->(i,j)∈l
 | [],j,i,h=>by simp[Cg]at h
 | (i',j')::t,j,i,h=>by
  simp only[Cg]at h
  split at h
  ·rename_i hj;simp only[aA0]at h;subst h;subst hj;exact aF0
  ·exact aE0 _ (Ki h)
theorem Dn : ∀{l:List (Nat×Nat)} {j i:Nat},(l.map (·.2)).Nodup->(i,j)∈l->Cg l j=some i
 | (i',j')::t,j,i,hn,h=>by
  simp only[List.map_cons,cW0]at hn;simp only[Cg]
  rcases aL0.1 h with h | h
  ·simp only[aY0]at h;rw[if_pos h.2,h.1]
  ·rw[if_neg (fun hj=>hn.1 (by rw[<-hj];exact dF0 (f:=(·.2)) h)),Dn hn.2 h]
theorem Rx_ {l:List (Nat×Nat)} (hn:(l.map (·.1)).Nodup) {i j j':Nat} (h:(i,j)∈l) (h':(i,j')∈l):j=j':=by
 induction l with
 | nil=>cases h
 | cons a l ih =>
  simp only[List.map_cons,cW0]at hn
  rcases aL0.1 h with rfl | h1
  ·rcases aL0.1 h' with h' | h2
   ·simp only[aY0]at h';exact h'.2.symm
   ·exact absurd (dF0 (f:=(·.1)) h2) hn.1
  ·rcases aL0.1 h' with rfl | h2
   ·exact absurd (dF0 (f:=(·.1)) h1) hn.1
   ·exact ih hn.2 h1 h2
theorem EH {own:List Ent} {ids:List Nat} {e:Ent}:e∈BE own ids↔e∈own/\e.id∉ids:=by
 induction own with
 | nil=>simp[BE]
 | cons a t ih =>
  simp only[BE]
  split
  ·rename_i hc;have hc:a.id∈ids:=by simpa using hc
   rw[ih]
   constructor
   ·rintro⟨h1,h2⟩;exact⟨aE0 _ h1,h2⟩
   ·rintro⟨h1,h2⟩
    rcases aL0.1 h1 with rfl | h1
    ·exact absurd hc h2
    ·exact⟨h1,h2⟩
  ·rename_i hc;have hc:a.id∉ids:=by simpa using hc
   rw[aL0,ih,aL0]
   constructor
   ·rintro (rfl | ⟨h1,h2⟩)
    ·exact⟨.inl rfl,hc⟩
    ·exact⟨.inr h1,h2⟩
   ·rintro⟨rfl | h1,h2⟩
    ·exact .inl rfl
    ·exact .inr ⟨h1,h2⟩
theorem GI_ (own:List Ent) (ids:List Nat):(BE own ids).Sublist own:=by
 induction own with
 | nil=>exact List.Sublist.refl _
 | cons a t ih =>
  simp only[BE]
  split
  ·exact ih.cons _
  ·exact ih.cons_cons _
theorem Ig {φ:Nat->Nat->Option (Nat×Nat)}:∀{l l':List Ent},KB φ l=some l'->(∀x∈l',∃e∈l,∃p,φ e.id e.r=some p/\x=⟨p.1,p.2,LQ φ e.obj⟩)
 | [],l',h=>by simp only[KB,aA0]at h;subst h;simp
 | e::t,l',h=>by
  simp only[KB]at h
  split at h
  ·rename_i p l hp hl;simp only[aA0]at h;subst h;intro x hx
   rcases aL0.1 hx with rfl | hx
   ·exact⟨e,aF0,p,hp,rfl⟩
   ·obtain⟨e',h1,h2⟩:=Ig hl x hx;exact⟨e',aE0 _ h1,h2⟩
  ·simp at h
theorem ZH {φ:Nat->Nat->Option (Nat×Nat)} {loc loc':Nat->Loc}:∀{l l':List Ent},KB φ l=some l'->(∀e∈l,∀p,φ e.id e.r=some p->loc' p.1=loc e.id)->Ad l' loc'=Ad l loc
 | [],l',h,_=>by simp only[KB,aA0]at h;subst h;rfl
 | e::t,l',h,hl=>by
  simp only[KB]at h
  split at h
  ·rename_i p l hp wD;simp only[aA0]at h;subst h;rw[Fh,Fh,ZH wD (fun e he=>hl e (aE0 _ he))];simp only;rw[hl e aF0 p hp]
  ·simp at h
theorem Vn : ∀{l:List Ent},iI l->∀e∈l,okO e.obj
 | e::t,h,x,hx=>by
  simp only[iI]at h
  rcases aL0.1 hx with rfl | hx
  ·exact h.1
  ·exact Vn h.2 x hx
theorem Bd_ {own:List Ent}:∀{l:List (Nat×Nat)},lO own l->∀i j,(i,j)∈l->∃e,Ax own i=some e/\okO e.obj
 | (i',j')::t,h,i,j,hm=>by
  simp only[lO]at h
  rcases aL0.1 hm with hm | hm
  ·simp only[aY0]at hm;obtain⟨rfl,rfl⟩:=hm;have h1:=h.1
   split at h1
   ·rename_i e he;exact⟨e,he,h1⟩
   ·exact h1.elim
  ·exact Bd_ h.2 i j hm
theorem IH {own:List Ent} {loc:Nat->Loc} (hn:(Ad own loc).Nodup):∀l:List Ent,(l.map (·.id)).Nodup->(∀e∈l,∃e0∈own,e0.id=e.id)->(Ad l loc).Nodup
 | [],_,_=>by simp[Ad]
 | e::l,hd,hm=>by
  simp only[List.map_cons,cW0]at hd;rw[Fh,cB0];obtain⟨e0,zG,gZ⟩:=hm e aF0;refine⟨by rw[<-gZ];exact EM hn e0 zG,IH hn l hd.2 (fun x hx=>hm x (aE0 _ hx)),?_⟩;intro b hb b' qG fM;subst fM;obtain⟨e2,zN,qP⟩:=bV0.1 qG;obtain⟨e3,pY,pQ⟩:=hm e2 (aE0 _ zN);have:=HP hn e0 zG e3 pY b (by rw[gZ];exact hb) (by rw[pQ];exact qP);subst this;exact hd.1 (aU0.2 ⟨e2,zN,by rw[<-pQ,gZ]⟩)
def NU (loc0' loc:Nat->Loc):List (Nat×Nat)->Nat->Loc
 | [],i=>loc i
 | (i',j)::t,i=>if i=i' then loc0' j else NU loc0' loc t i
theorem PT {loc0' loc:Nat->Loc}:∀{l:List (Nat×Nat)} {i j:Nat},(l.map (·.1)).Nodup->(i,j)∈l->NU loc0' loc l i=loc0' j
 | (i',j')::t,i,j,hn,hm=>by
  simp only[List.map_cons,cW0]at hn;simp only[NU]
  rcases aL0.1 hm with h | h
  ·simp only[aY0]at h;rw[if_pos h.1,h.2]
  ·rw[if_neg (fun hi=>hn.1 (by rw[<-hi];exact dF0 (f:=(·.1)) h)),PT hn.2 h]
theorem PS {loc0' loc:Nat->Loc}:∀{l:List (Nat×Nat)} {i:Nat},i∉l.map (·.1)->NU loc0' loc l i=loc i
 | [],i,h=>rfl
 | (i',j')::t,i,h=>by
  simp only[List.map_cons,aL0,not_or]at h;simp only[NU];rw[if_neg h.1,PS h.2]
section
variable {φ : Nat -> Nat -> Option (Nat × Nat)} {n : Nat}
theorem Ii_ (hφ:∀i v p,φ i v=some p->p.2<=n) {d:DVal} (h:okR d):mx (NS φ d)<=n+1:=by
 cases d<;>simp only[NS,okR]at h |- <;>first
  |(split
    ·rename_i p hp;have:=hφ _ _ _ hp;simp only[mx];omega
    ·simp[mx])
  | (rw[h];omega)
theorem Vt (hφ:∀i v p,φ i v=some p->p.2<=n):∀{ds:List DVal},Al_ ds->AV (ds.map (NS φ))<=n+1
 | [],_=>by simp[AV]
 | d::ds,h=>by
  simp only[Al_]at h;have h1:=Ii_ hφ h.1;have h2:=Vt hφ h.2;simp only[List.map_cons,AV];omega
theorem Ik_ (hφ:∀i v p,φ i v=some p->p.2<=n) {d:DVal} (h:XR d):mx (Te φ d)<=n+1:=by
 cases d with
 | fn f us cs =>
  simp only[XR]at h;have h1:=Vt hφ h.1;have h2:=Vt hφ h.2;simp only[Te,mx];omega
 | _=>exact Ii_ hφ (by simpa only[XR]using h)
theorem PO (hφ:∀i v p,φ i v=some p->p.2<=n):∀{ds:List DVal},Vp ds->AV (ds.map (Te φ))<=n+1
 | [],_=>by simp[AV]
 | d::ds,h=>by
  simp only[Vp]at h;have h1:=Ik_ hφ h.1;have h2:=PO hφ h.2;simp only[List.map_cons,AV];omega
theorem Ij_ (hφ:∀i v p,φ i v=some p->p.2<=n) {d:DVal} (h:ok3 d):mx (eX φ d)<=n+1:=by
 cases d with
 | agg cs =>
  simp only[ok3]at h;have h1:=PO hφ h;simp only[eX,mx];omega
 | _=>exact Ik_ hφ (by simpa only[ok3]using h)
theorem AD_ (hφ:∀i v p,φ i v=some p->p.2<=n):∀{ds:List DVal},Am_ ds->AV (ds.map (eX φ))<=n+1
 | [],_=>by simp[AV]
 | d::ds,h=>by
  simp only[Am_]at h;have h1:=Ij_ hφ h.1;have h2:=AD_ hφ h.2;simp only[List.map_cons,AV];omega
theorem Rf_ (hφ:∀i v p,φ i v=some p->p.2<=n) {d:DVal} (h:iK d):mx (JG φ d)<=n+1:=by
 cases d with
 | tup cs =>
  simp only[iK]at h;have h1:=AD_ hφ h;simp only[JG,mx];omega
 | _=>exact Ij_ hφ (by simpa only[iK]using h)
theorem AA_ (hφ:∀i v p,φ i v=some p->p.2<=n):∀{es:List (List DVal)},FY_ es->BK (Mm φ es)<=n+1
 | [],_=>by simp[Mm,BK]
 | c::l,h=>by
  simp only[FY_]at h;have h1:=PO hφ h.1;have h2:=AA_ hφ h.2;simp only[Mm,BK];omega
theorem Oy_ (hφ:∀i v p,φ i v=some p->p.2<=n) {o:DObj} (h:okO o):GC (LQ φ o)<=n+1:=by
 cases o with
 | box cs=>simp only[okO]at h;simp only[LQ,GC];exact PO hφ h
 | row et k bs es =>
  simp only[LQ]
  split
  ·rename_i h0;simp only[GC,h0];omega
  ·rename_i h0;simp only[okO]at h;simp only[GC];exact AA_ hφ (h.resolve_left h0)
 | map ks vs=>simp only[okO]at h;simp only[LQ,GC,h.1,h.2];omega
 | abs A=>simp only[LQ,GC];omega
end
theorem SN_ {l:List Ent} {n:Nat} (h:∀e∈l,e.r+1<=n/\GC e.obj<=n):Jc l<=n:=by
 induction l with
 | nil=>simp[Jc]
 | cons e t ih =>
  have h1:=h e aF0;have h2:=ih fun e he=>h e (aE0 _ he)
  simp only[Jc];omega
theorem xU {cur cur':Gp} {M M':List Nat} {h h':Array Obj} {φ:Nat->Nat->Option (Nat×Nat)} (W:Weak cur cur' M M' h h' 0) (L:IY cur cur' φ):∀{ds:List DVal} {vs:List Value},iJ ds->AL cur M h ds vs->AL cur' M' h' (ds.map (JG φ)) vs
 | [],vs,_,hr=>by simpa[AL]using hr
 | d::ds,vs,hk,hr=>by
  simp only[iJ]at hk;simp only[AL,List.map_cons]at hr |-;obtain⟨v,r,rfl,h1,h2⟩:=hr;exact⟨v,r,rfl,TJ W L hk.1 h1,xU W L hk.2 h2⟩
abbrev RW_ := Array Value->World->(Value->World->Prop)->Prop
def Qx_ (C:RW_) (args:List DVal) (own:List Ent) (d:DVal) (own':List Ent):Prop :=
 ∀(M:List Nat) (w:World) (loc:Nat->Loc) (vs:Array Value),St own loc M w.heap->AL (Aj own loc) (Ad own loc++M) w.heap args vs.toList ->
  C vs w fun v w'=>∃loc',St own' loc' M w'.heap/\Upd (Ad own loc) w w'/\(∀b∈Ad own' loc',b∈Ad own loc\/w.heap.size<=b) /\
   (∀e∈own',e.r<1->Aj own loc e.id e.r=some (loc' e.id))/\rd (Aj own' loc') (Ad own' loc'++M) w'.heap d v
def Uh_ (C:RW_) (args:List DVal) (own:List Ent) (r:Nat) (d:DVal) (own':List Ent):Prop :=
 ∀(M:List Nat) (w:World) (loc:Nat->Loc) (vs:Array Value),Jc own<=r->St own loc M w.heap->AL (Aj own loc) (Ad own loc++M) w.heap args vs.toList ->
  C vs w fun v w'=>∃loc',St own' loc' M w'.heap/\Upd (Ad own loc) w w'/\(∀b∈Ad own' loc',b∈Ad own loc\/w.heap.size<=b) /\
   (∀e∈own',e.r<r->Aj own loc e.id e.r=some (loc' e.id))/\rd (Aj own' loc') (Ad own' loc'++M) w'.heap d v
theorem EN_ {C:RW_} (hC:∀vs w (R R':Value->World->Prop),(∀v w',R v w'->R' v w')->C vs w R->C vs w R') {args args0:List DVal} {own own0 own0' l:List Ent} {d0:DVal} {r:Nat} (ρ ν:List (Nat×Nat)) (bL:Qx_ C args0 own0 d0 own0')
  (wR:OL own (Cv own (Ff ρ)) (Ff ρ)=some own0) (qL:lO own ρ) (qF:iJ args/\aE (args.map (JG (Cv own (Ff ρ)))) args0)
  (hid:((ρ++ν).map (·.1)).Nodup/\(ρ.map (·.2)).Nodup) (yW:KB (EN own ρ ν r) own0'=some l) (rR:iI own0') (bX:iK d0) (hnd:((BE own ((ρ++ν).map (·.1))++l).map (·.id)).Nodup) :
  Uh_ C args own r (JG (EN own ρ ν r) d0) (BE own ((ρ++ν).map (·.1))++l):=by
 intro M w loc vs zE S hr
 -- the way in
 have nC:∀i j,(i,j)∈ρ->loc ((Cg ρ j).getD 0)=loc i:=by
  intro i j hm;simp only[Dn hid.2 hm,cC0]
 obtain⟨gU,dO⟩:=PI wR
 have hm0':∀x∈own0,∃i e,(i,x.id)∈ρ/\Ax own i=some e/\x=⟨x.id,0,LQ (Cv own (Ff ρ)) e.obj⟩:=by
  intro x hx;obtain⟨i,j,v,e,h1,h2,h3⟩:=gU x hx;simp only[Ff,aU0,aY0]at h1;obtain⟨p,hp,rfl,rfl,rfl⟩:=h1;subst h3;exact⟨p.1,e,hp,h2,rfl⟩
 have dO:own0.map (·.id)=ρ.map (·.2):=by
  rw[dO];simp[Ff]
 have hnd0:(own0.map (·.id)).Nodup:=by rw[dO];exact hid.2
 have hρ1:(ρ.map (·.1)).Nodup:=by
  have:=hid.1;rw[aX0,cB0]at this;exact this.1
 have fO:Ad own0 (fun j=>loc ((Cg ρ j).getD 0))=Ad (own0.map fun x=>⟨(Cg ρ x.id).getD 0,0,x.obj⟩) loc:=by
  simp[Ad,List.flatMap_map]
 have cZ:((own0.map fun x=>(⟨(Cg ρ x.id).getD 0,0,x.obj⟩:Ent)).map (·.id)).Nodup:=by
  rw[cF0]
  have:own0.map ((·.id)∘fun x=>(⟨(Cg ρ x.id).getD 0,0,x.obj⟩:Ent))=ρ.map (·.1):=by
   have e1:own0.map ((·.id)∘fun x=>(⟨(Cg ρ x.id).getD 0,0,x.obj⟩:Ent))=(own0.map (·.id)).map (fun j=>(Cg ρ j).getD 0):=by
    rw[cF0];rfl
   rw[e1,dO,cF0];refine cR0 fun p hp=> ?_
   simp only[Function.comp_def];rw[Dn hid.2 hp];rfl
  rw[this];exact hρ1
 have hselm:∀e∈own0.map (fun x=>(⟨(Cg ρ x.id).getD 0,0,x.obj⟩:Ent)),∃e0∈own,e0.id=e.id:=by
  intro e he;obtain⟨x,hx,rfl⟩:=aU0.1 he;obtain⟨i,e,h1,h2,_⟩:=hm0' x hx;simp only[Dn hid.2 h1,cC0];exact⟨e,AN h2⟩
 have fS:∀b∈Ad own0 (fun j=>loc ((Cg ρ j).getD 0)),∃i j e,(i,j)∈ρ/\e∈own/\e.id=i/\b∈(loc i).blks:=by
  intro b hb;obtain⟨x,hx,hb⟩:=bV0.1 hb;obtain⟨i,e,h1,h2,_⟩:=hm0' x hx;simp only[Dn hid.2 h1,cC0]at hb;exact⟨i,x.id,e,h1,(AN h2).1,(AN h2).2,hb⟩
 have fW:∀b∈Ad own0 (fun j=>loc ((Cg ρ j).getD 0)),b∈Ad own loc:=by
  intro b hb;obtain⟨i,j,e,_,h2,rfl,h4⟩:=fS b hb;exact Bw h2 h4
 have hfr:∀b∈Ad (BE own ((ρ++ν).map (·.1))) loc,b∈Ad own loc:=by
  intro b hb;obtain⟨e,he,hb⟩:=bV0.1 hb;exact Bw (EH.1 he).1 hb
 have hdis:∀b∈Ad own0 (fun j=>loc ((Cg ρ j).getD 0)),b∉Ad (BE own ((ρ++ν).map (·.1))) loc:=by
  intro b hb qG;obtain⟨i,j,e,h1,h2,rfl,h4⟩:=fS b hb;obtain⟨e',zT,qG⟩:=bV0.1 qG;obtain⟨g1,g2⟩:=EH.1 zT;have:=HP S.bl e h2 e' g1 b h4 qG;subst this;exact g2 (dF0 (f:=(·.1)) (aS0 _ h1))
 have hM:∀b,b∈Ad own0 (fun j=>loc ((Cg ρ j).getD 0))++(Ad (BE own ((ρ++ν).map (·.1))) loc++M)->b∈Ad own loc++M:=by
  intro b hb;simp only[aI0]at hb |-
  rcases hb with hb | hb | hb
  ·exact .inl (fW b hb)
  ·exact .inl (hfr b hb)
  ·exact .inr hb
 have W0:Weak (Aj own loc) (Aj own0 fun j=>loc ((Cg ρ j).getD 0)) (Ad own loc++M) (Ad own0 (fun j=>loc ((Cg ρ j).getD 0))++(Ad (BE own ((ρ++ν).map (·.1))) loc++M)) w.heap w.heap 0 :=
  ⟨fun id r l hr=>by omega,fun b o _ (_:IZ o=true) ho=>ho,fun b o hb (_:IZ o=true) _ hm=>hb (hM b hm)⟩
 have L0:IY (Aj own loc) (Aj own0 fun j=>loc ((Cg ρ j).getD 0)) (Cv own (Ff ρ)):=by
  intro i v p lc hp hl;obtain⟨e,h1,h2,h3⟩:=Lb hp;simp only[Ff,aU0,aY0]at h1;obtain⟨q,hq,rfl,wH,_⟩:=h1;obtain⟨e0,_,g1,_,g3⟩:=Cj hl;rw[<-h3];obtain⟨k1,k2⟩:=AN h2;rw[<-k2,Ba S.nd k1,g3,<-wH,k2,nC q.1 q.2 hq]
 have S0:St own0 (fun j=>loc ((Cg ρ j).getD 0)) (Ad (BE own ((ρ++ν).map (·.1))) loc++M) w.heap:=by
  refine⟨hnd0,?_,?_,?_,?_⟩
  ·rw[fO];exact IH S.bl _ cZ hselm
  ·intro b hb hm
   rcases aI0.1 hm with hm | hm
   ·exact hdis b hb hm
   ·exact S.ap b (fW b hb) hm
  ·intro b hb;exact S.lt b (hM b hb)
  ·intro x hx;obtain⟨i,e,h1,h2,h3⟩:=hm0' x hx;obtain⟨e',h4,h5⟩:=Bd_ qL i x.id h1;rw[h2]at h4;simp only[aA0]at h4;subst h4;obtain⟨k1,k2⟩:=AN h2;rw[h3];have:=NO W0 L0 (l:=loc i) (l':=(fun j=>loc ((Cg ρ j).getD 0)) x.id) h5 (nC i x.id h1) (fun b o _ ho=>ho) (by have:=S.ok e k1;rwa[k2]at this);exact this
 have fC:=UT (qF.2) (xU W0 L0 qF.1 hr);refine hC _ _ _ _ ?_ (bL _ w _ vs S0 fC);rintro v w' ⟨loc0',S1,hu,wV,yQ,zK⟩
 -- the way back
 have hφ:∀e∈own0',∀p,EN own ρ ν r e.id e.r=some p->(p.1,e.id)∈ρ++ν/\((e.r=0/\∃e1,Ax own p.1=some e1/\p.2=e1.r/\(p.1,e.id)∈ρ)\/(e.r=1/\p.2=r)):=by
  intro e he p hp;unfold EN at hp
  split at hp
  ·rename_i h0
   split at hp
   ·rename_i i hi
    split at hp
    ·rename_i e1 mS;simp only[aA0]at hp;subst hp;have:=Ki hi;exact⟨aS0 _ this,.inl ⟨h0,e1,mS,rfl,this⟩⟩
    ·simp at hp
   ·simp at hp
  ·split at hp
   ·rename_i h1
    split at hp
    ·rename_i i hi;simp only[aA0]at hp;subst hp;exact⟨Ki hi,.inr ⟨h1,rfl⟩⟩
    ·simp at hp
   ·simp at hp
 have mH:∀e∈own0',∀p,EN own ρ ν r e.id e.r=some p->NU loc0' loc (ρ++ν) p.1=loc0' e.id:=fun e he p hp=>PT hid.1 (hφ e he p hp).1
 have hotl:Ad l (NU loc0' loc (ρ++ν))=Ad own0' loc0':=ZH yW mH
 have hotf:Ad (BE own ((ρ++ν).map (·.1))) (NU loc0' loc (ρ++ν))=Ad (BE own ((ρ++ν).map (·.1))) loc:=by
  unfold Ad;have:∀e∈BE own ((ρ++ν).map (·.1)),(NU loc0' loc (ρ++ν) e.id).blks=(loc e.id).blks:=fun e he=>by rw[PS (EH.1 he).2]
  generalize BE own ((ρ++ν).map (·.1))=fr at this
  induction fr with
  | nil=>rfl
  | cons a t ih =>
   rw[cS0,cS0,this a aF0,ih (fun e he=>this e (aE0 _ he))]
 have dS:Ad (BE own ((ρ++ν).map (·.1))++l) (NU loc0' loc (ρ++ν))=Ad (BE own ((ρ++ν).map (·.1))) loc++Ad own0' loc0':=by
  rw[<-hotl,<-hotf];simp[Ad]
 have hM':∀b,b∈Ad (BE own ((ρ++ν).map (·.1))) loc++Ad own0' loc0'++M↔b∈Ad own0' loc0'++(Ad (BE own ((ρ++ν).map (·.1))) loc++M):=by
  intro b;simp only[aI0];constructor
  ·intro h;rcases h with (h | h) | h
   ·exact .inr (.inl h)
   ·exact .inl h
   ·exact .inr (.inr h)
  ·intro h;rcases h with h | h | h
   ·exact .inl (.inr h)
   ·exact .inl (.inl h)
   ·exact .inr h
 have hfid:∀x∈l,x.id∈(ρ++ν).map (·.1):=by
  intro x hx;obtain⟨e,he,p,hp,rfl⟩:=Ig yW x hx;exact dF0 (f:=(·.1)) (hφ e he p hp).1
 have W1:Weak (Aj own0' loc0') (Aj (BE own ((ρ++ν).map (·.1))++l) (NU loc0' loc (ρ++ν))) (Ad own0' loc0'++(Ad (BE own ((ρ++ν).map (·.1))) loc++M)) (Ad (BE own ((ρ++ν).map (·.1))++l) (NU loc0' loc (ρ++ν))++M) w'.heap w'.heap 0 :=
  ⟨fun id r l hr=>by omega,fun b o _ (_:IZ o=true) ho=>ho,fun b o hb (_:IZ o=true) _ hm=>hb (by rw[dS]at hm;exact(hM' b).1 hm)⟩
 have L1:IY (Aj own0' loc0') (Aj (BE own ((ρ++ν).map (·.1))++l) (NU loc0' loc (ρ++ν))) (EN own ρ ν r):=by
  intro j v p lc hp hl;obtain⟨x,hx,g1,g2,g3⟩:=Cj hl
  have hpj:(p.1,j)∈ρ++ν/\((v=0/\∃e1,Ax own p.1=some e1/\p.2=e1.r)\/(v=1/\p.2=r)):=by
   unfold EN at hp
   split at hp
   ·rename_i h0
    split at hp
    ·rename_i i hi
     split at hp
     ·rename_i e1 mS;simp only[aA0]at hp;subst hp;exact⟨aS0 _ (Ki hi),.inl ⟨h0,e1,mS,rfl⟩⟩
     ·simp at hp
    ·simp at hp
   ·split at hp
    ·rename_i h1
     split at hp
     ·rename_i i hi;simp only[aA0]at hp;subst hp;exact⟨Ki hi,.inr ⟨h1,rfl⟩⟩
     ·simp at hp
    ·simp at hp
  have hpi:p.1∈(ρ++ν).map (·.1):=dF0 (f:=(·.1)) hpj.1
  rcases aI0.1 hx with hx | hx
  ·exact absurd (g1▸hpi) (EH.1 hx).2
  ·obtain⟨e,he,q,hq,rfl⟩:=Ig yW x hx;simp only at g1 g2;obtain⟨q1,q2⟩:=hφ e he q hq;have hej:e.id=j:=Rx_ hid.1 (by rw[<-g1];exact q1) hpj.1;subst hej
   have fX:e.r=v:=by
    rcases q2 with ⟨a1,e1,a2,a3,_⟩ | ⟨a1,a2⟩<;>rcases hpj.2 with ⟨b1,e2,b2,b3⟩ | ⟨b1,b2⟩
    ·omega
    ·exfalso;have:=(BG (AN a2).1).1;omega
    ·exfalso;have:=(BG (AN b2).1).1;omega
    ·omega
   subst fX;rw[Ba S1.nd he,g3,<-g1,PT hid.1 q1]
 have fI:∀e∈BE own ((ρ++ν).map (·.1)),∀b o,b∈(loc e.id).blks->w.heap[b]? =some o->w'.heap[b]? =some o:=by
  intro e he b o hb ho;have hbf:b∈Ad (BE own ((ρ++ν).map (·.1))) loc:=Bw he hb;rw[hu.blk b (aH0.1 ho).1 (fun h=>hdis b h hbf)];exact ho
 have W2:Weak (Aj own loc) (Aj (BE own ((ρ++ν).map (·.1))++l) (NU loc0' loc (ρ++ν))) (Ad own loc++M) (Ad (BE own ((ρ++ν).map (·.1))++l) (NU loc0' loc (ρ++ν))++M) w.heap w'.heap r:=by
  refine⟨?_,?_,?_⟩
  ·intro id v lc hv hl;obtain⟨x,hx,rfl,rfl,rfl⟩:=Cj hl
   rcases aI0.1 hx with hx | hx
   ·have:=EH.1 hx;rw[Ba S.nd this.1,PS this.2]
   ·obtain⟨e,he,q,hq,rfl⟩:=Ig yW x hx;simp only at hv |-;obtain⟨q1,q2⟩:=hφ e he q hq
    rcases q2 with ⟨a1,e1,a2,a3,a4⟩ | ⟨a1,a2⟩
    ·have h1:=yQ e he (by omega);obtain⟨x0,k1,k2,k3,k4⟩:=Cj h1;obtain⟨m1,m2⟩:=AN a2;rw[PT hid.1 q1,k4,nC _ _ a4,a3,<-m2,Ba S.nd m1]
    ·omega
  ·intro b o hb (_:IZ o=true) ho;rw[hu.blk b (aH0.1 ho).1 (fun h=>hb (aS0 _ (fW b h)))];exact ho
  ·intro b o hb (_:IZ o=true) ho hm;rw[dS]at hm;have qV:=(aH0.1 ho).1;simp only[aI0]at hm hb
   rcases hm with (hm | hm) | hm
   ·exact hb (.inl (hfr b hm))
   ·rcases wV b hm with h | h
    ·exact hb (.inl (fW b h))
    ·omega
   ·exact hb (.inr hm)
 refine⟨NU loc0' loc (ρ++ν),⟨hnd,?_,?_,?_,?_⟩,?_,?_,?_,?_⟩
 ·rw[dS,cB0];refine⟨(Fg S.bl _ ?_ (fun e he=>(EH.1 he).1)),S1.bl,?_⟩
  ·exact((GI_ own _).map _).nodup S.nd
  ·intro b hb b' qG fM;subst fM;exact S1.ap b qG (aS0 _ hb)
 ·intro b hb hm;rw[dS]at hb
  rcases aI0.1 hb with hb | hb
  ·exact S.ap b (hfr b hb) hm
  ·exact S1.ap b hb (aV0 _ hm)
 ·intro b hb;rw[dS]at hb;exact S1.lt b ((hM' b).1 hb)
 ·intro x hx
  rcases aI0.1 hx with hx | hx
  ·have hm:=EH.1 hx;have:=BF W2 (Nat.le_trans (BG hm.1).2 zE) (fI x hx) (S.ok x hm.1)
   rwa[PS hm.2]
  ·obtain⟨e,he,q,hq,rfl⟩:=Ig yW x hx;exact NO W1 L1 (Vn rR e he) (mH e he q hq) (fun b o _ ho=>ho) (S1.ok e he)
 ·refine⟨hu.os,hu.tape,hu.output,hu.drawn,hu.size,fun b hb hn=>hu.blk b hb fun h=>hn (fW b h)⟩
 ·intro b hb;rw[dS]at hb
  rcases aI0.1 hb with hb | hb
  ·exact .inl (hfr b hb)
  ·rcases wV b hb with h | h
   ·exact .inl (fW b h)
   ·exact .inr h
 ·intro x hx qV;exact W2.c x.id x.r _ qV (Ba hnd hx)
 ·exact TJ W1 L1 bX zK
theorem Tw {P:Program} {f:Fn} {args args0:List DVal} {own own0 own0' l:List Ent} {d0:DVal} {r:Nat} (ρ ν:List (Nat×Nat)) (hS:AS P f args0 own0 d0 own0')
  (wR:OL own (Cv own (Ff ρ)) (Ff ρ)=some own0) (qL:lO own ρ) (qF:iJ args/\aE (args.map (JG (Cv own (Ff ρ)))) args0)
  (hid:((ρ++ν).map (·.1)).Nodup/\(ρ.map (·.2)).Nodup) (yW:KB (EN own ρ ν r) own0'=some l) (rR:iI own0') (bX:iK d0) (hnd:((BE own ((ρ++ν).map (·.1))++l).map (·.id)).Nodup) :
  uD P f args own r (JG (EN own ρ ν r) d0) (BE own ((ρ++ν).map (·.1))++l):=by
 have qP:Jc own<=r->∀i v p,EN own ρ ν r i v=some p->p.2<=r:=by
  intro zE i v p hp;unfold EN at hp
  split at hp
  ·split at hp
   ·split at hp
    ·rename_i e he;simp only[aA0]at hp;subst hp;have:=(BG (AN he).1).1;simp only;omega
    ·simp at hp
   ·simp at hp
  ·split at hp
   ·split at hp
    ·simp only[aA0]at hp;subst hp;exact Nat.le_refl _
    ·simp at hp
   ·simp at hp
 refine⟨hS.2.1,hnd,fun zE=>⟨Rf_ (qP zE) bX,SN_ fun e he=> ?_⟩,?_⟩
 ·rcases aI0.1 he with he | he
  ·have:=BG (EH.1 he).1;omega
  ·obtain⟨e0,h0,p,hp,rfl⟩:=Ig yW e he;exact⟨by have:=qP zE _ _ _ hp;simp only;omega,Oy_ (qP zE) (Vn rR e0 h0)⟩
 exact EN_ (C:=JQ P f) (fun vs w R R' h hc=>hc.mono h) ρ ν (fun M w loc vs S hr=>hS.2.2 M w loc vs S hr) wR qL qF hid yW rR bX hnd
def LL (es:List (List DVal)) (i m:Nat) (es2:List (List DVal)):List (List DVal):=es.take i++es2.take m++es.drop (i+min es2.length m)
theorem Me_ {es es2:List (List DVal)} {i m:Nat} (h:i+m<=es.length):(LL es i m es2).length=es.length:=by
 simp only[LL,aC0,aT0,cD0];omega
theorem YV {es:List (List DVal)} {k n:Nat} (h:BK es<=n):BK (es.take k)<=n:=Nat.le_trans (Ix k es) h
theorem Ll_ {es:List (List DVal)} {k n:Nat} (h:BK es<=n):BK (es.drop k)<=n:=Nat.le_trans (Iy k es) h
theorem BL_ {es es2:List (List DVal)} {i m n:Nat} (h1:BK es<=n) (h2:BK es2<=n):BK (LL es i m es2)<=n:=by
 unfold LL;rw[BX,BX];have:=YV (k:=i) h1;have:=YV (k:=m) h2;have:=Ll_ (k:=i+min es2.length m) h1;omega
theorem RO {k:Nat}:∀(rows:List (List Value)) (i:Nat),(∀r∈rows,r.length=k)->(rows.take i).flatten=rows.flatten.take (i*k)
 | [],i,_=>by simp
 | r::rows,0,_=>by simp
 | r::rows,i+1,h=>by
  have hr:=h r aF0;rw[dL0,fM0,fM0,RO rows i fun x hx=>h x (aE0 _ hx),List.take_append,hr];have e1:(i+1)*k-k=i*k:=by rw[cA0];omega
  rw[e1,cL0 (l:=r) (by rw[hr,cA0];omega)]
theorem Zo {k:Nat}:∀(rows:List (List Value)) (i:Nat),(∀r∈rows,r.length=k)->(rows.drop i).flatten=rows.flatten.drop (i*k)
 | [],i,_=>by simp
 | r::rows,0,_=>by simp
 | r::rows,i+1,h=>by
  have hr:=h r aF0;rw[eF0,fM0,Zo rows i fun x hx=>h x (aE0 _ hx),List.drop_append,hr];have e1:(i+1)*k-k=i*k:=by rw[cA0];omega
  rw[e1,cU0 (l:=r) (by rw[hr,cA0];omega),List.nil_append]
section
variable {P : Program} {B : Base} {s : DS} {a : Act} {w : World} {loc : Nat -> Loc}
theorem ND_ {cur:Gp} {M:List Nat} {H:Array Obj} {k:Nat} {es:List (List DVal)} {rows:List (List Value)} (hl:rows.length=es.length)
  (h:∀(i:Nat) (cs:List DVal) (us:List Value),es[i]? =some cs->rows[i]? =some us->cs.length=k/\AL cur M H cs us/\∀u∈us,u.oneCell'=true):∀r∈rows,r.length=k:=by
 intro r hr;obtain⟨i,hi,rfl⟩:=bJ0 hr;obtain⟨h1,h2,_⟩:=h i es[i] rows[i] (aD0 _) (aD0 _);have:=AM _ _ h2;omega
theorem Rel.copyRow {d sd:DVal} {id r k0 bs0 i m n k2:Nat} {t ty:TypeId} {et k bs:Nat} {es es2:List (List DVal)} {e:Ent} {v sv:Value} {dst:Option Nat} (R:Rel B s a w loc) (he:Ax s.own id=some e) (wB:e.r=r) (qA:e.obj= .row et k bs es)
  (hv:BJ s loc B.M0 w d v) (hd:d= .osl id r/\i=0/\m=es.length\/d= .vw id r k bs0 i m) (hb:i+m<=es.length) (ht:tElem P t=some (k,k0)) (hk:0<k)
  (hsv:BJ s loc B.M0 w sd sv) (vZ:Mh s.own sd=some (k2,es2)) (jM:k2=k\/es2=[]) (gY:BK es2<=n)
  (qS:CL B s<=n) (wY:∀i,dst=some i->i<B.nt) :
  ∃w',(Builtin.copy_ #[t,t] ty #[v,sv]).run P w= .ok (goInt (min es2.length m:Nat)) w'/\Rel B ⟨Ce s.slots dst (.int .i64 (min es2.length m:Nat)),upE s.own id r (.row et k bs (LL es i m es2))⟩ (a.put dst (goInt (min es2.length m:Nat))) w' (DM loc id (loc id)):=by
 obtain⟨e1,i1,hu,hi,qM,hby,_⟩:=Cc ht;obtain⟨rows2,q1,q2,q3,q4,q5,q6⟩:=Ny_ (B:=B) R.st hsv vZ;obtain⟨ad,cap,rfl,zV⟩:=Ia_ (B:=B) R.st he wB qA hv hd;have qO:=(Bf he).1;have hid:=(Bf he).2;have zY:=(BG qO).2;rw[qA]at zY;simp only[GC]at zY
 have rI:∀cur M h,rd cur M h (.int .i64 (min es2.length m:Nat)) (goInt (min es2.length m:Nat)):=by
  intro cur M h;have h5:min es2.length m<=maxLen:=Nat.le_trans (Nat.min_le_left _ _) q5;unfold maxLen at h5;simp only[rd,goInt];refine⟨?_,?_⟩
  ·trivial
  ·simp only[MF];omega
 by_cases hm:min es2.length m=0
 ·have jH:LL es i m es2=es:=by
   unfold LL;rw[hm]
   have:es2.take m=[]:=by
    rw[<-fN0,aT0];omega
   rw[this,bM0,cT0,List.take_append_drop]
  rw[jH];rw[hm]at rI |-
  have qR:(Builtin.copy_ #[t,t] ty #[.slice ad m cap,sv]).run P w= .ok (goInt 0) w:=by
   have hl:∀(x:Addr),(loadCells x 0).run P w= .ok #[] w:=fun x=>by simpa using run_loadCells_list (P:=P) w x [] (by simp)
   rcases q6 with ⟨_,x,cap2,rfl⟩ | ⟨x,cap2,rfl,_⟩
   ·cases ad<;>cases x<;>simp[Builtin.copy_,run_underlying hu,Builtin.lenOf,Builtin.firstCells,sizeOf,typeInfo,hi,storeCells,hl]
   ·have zA:Nat.min es2.length m=0:=hm;cases ad<;>simp[Builtin.copy_,run_underlying hu,Builtin.lenOf,Builtin.firstCells,sizeOf,typeInfo,hi,storeCells,hl,zA]
  refine⟨w,qR,?_⟩;have qB:Aj s.own loc id r=some (loc id):=by unfold Aj;rw[he];simp[wB]
  have zO:=R.st.ok e qO;rw[qA,hid]at zO
  have hL:∀b0,b0∈(loc id).blks->b0<w.heap.size/\((∃e∈s.own,e.id=id/\b0∈(loc id).blks)\/w.heap.size<=b0):=fun b0 wJ =>
   ⟨R.st.lt b0 (aS0 _ (Bw qO (by rw[hid];exact wJ))),.inl ⟨e,qO,hid,wJ⟩⟩
  have W:=R.weakUp (obj:= .row et k bs es) qS (Upd.refl _ w) hL (.inr qB);unfold CL at qS;exact R.up (hLn:=by have:=EM R.st.bl e qO;rwa[hid]at this) (n:=n) qS wY (Upd.refl _ w) (fun _ _ _=>rfl) hL (.inr qB) (BF W (by simp only[GC];omega) (fun _ _ _ h=>h) zO) (rI _ _ _)
 ·have qY:k2=k:=by
   rcases jM with h | h
   ·exact h
   ·subst h;simp at hm
  subst qY;obtain⟨b,qE,rfl⟩:=zV (by omega);obtain⟨h7,b',arr,cap',h1,h2,h3,h4,h5,h6,qT⟩:=eT (B:=B) R.st he qA (by intro h;subst h;simp at hb;omega);rw[h1]at qE;simp only[bL0,and_true]at qE;subst qE;have jI:es.length*k2<=arr.size:=by rw[<-h6];exact aQ0 _ h4
  rcases q6 with ⟨rfl,_⟩ | ⟨x,cap2,rfl,q6⟩
  ·simp at hm
  obtain⟨c,hc⟩:∃c,c=min es2.length m:=⟨_,rfl⟩;rw[<-hc]at hm rI |-;have hrk2:=ND_ q1 q2;have zR:(rows2.take c).flatten=rows2.flatten.take (c*k2):=RO rows2 c hrk2
  have pZ:(rows2.take c).flatten.length=c*k2:=by
   rw[zR,aT0,q3];have:c*k2<=es2.length*k2:=aQ0 _ (by omega);omega
  have wW:∀u∈(rows2.take c).flatten,u.oneCell'=true:=fun u zL=>q4 u (by rw[zR]at zL;exact cK0 zL)
  have hsrcc:∀(j:Nat) (u:Value),(rows2.take c).flatten[j]? =some u->w.cell? (x.add j)=some u:=by
   intro j u hj;have qV:=(aB0.1 hj).1;rw[pZ]at qV;rw[zR,cE0 qV]at hj;exact q6 j u hj
  have sS:=run_loadCells_list (P:=P) w x (rows2.take c).flatten hsrcc
  have zB:i*k2+c*k2<=arr.size:=by
   rw[<-cA0];exact Nat.le_trans (aQ0 _ (by omega)) jI
  have qD:=run_storeCells_at P b' (i*k2) et (rows2.take c).flatten 0 arr w h3 (by rw[pZ];omega) wW;simp only[cT0]at qD;obtain⟨rows,r1,r2,r3,r4⟩:=GW k2 es arr 0 qT;have hrk:=ND_ r1 r3;have tO:=JU r2 r4 jI;have bM:arr.toList=rows.flatten++arr.toList.drop (es.length*k2):=by rw[<-tO,List.take_append_drop]
  have fP:i*k2<=rows.flatten.length:=by rw[r2];exact aQ0 _ (by omega)
  have hic:i*k2+c*k2<=rows.flatten.length:=by rw[r2,<-cA0];exact aQ0 _ (by omega)
  have wV:(arr.toList.take (i*k2)++(rows2.take c).flatten++arr.toList.drop (i*k2+(rows2.take c).flatten.length))=(rows.take i++rows2.take c++rows.drop (i+c)).flatten++arr.toList.drop (es.length*k2):=by
   have e_t:rows.flatten.take (i*k2)=arr.toList.take (i*k2):=by rw[<-tO,fJ0,Nat.min_eq_left (by rw[r2]at fP;exact fP)]
   have e_d:arr.toList.drop (i*k2+c*k2)=rows.flatten.drop ((i+c)*k2)++arr.toList.drop (es.length*k2):=by
    rw[cA0]
    conv=>lhs;rw[bM]
    exact eI0 hic
   rw[pZ,List.flatten_append,List.flatten_append,RO rows i hrk,Zo rows (i+c) hrk,e_t,e_d,aR0,aR0,aR0]
  refine⟨_,?_,R.writeRow (es':=LL es i m es2) (arr':=(arr.toList.take (i*k2)++(rows2.take c).flatten++arr.toList.drop (i*k2+(rows2.take c).flatten.length)).toArray) he wB qA h1 h2 h3 h4 h5 h6 h7 (Me_ hb) ?_ ?_ (BL_ (by unfold CL at qS;omega) gY) qS wY rI⟩
  ·have pL:c=Nat.min es2.length m:=hc;have hls:es2.length=es2.length:=rfl;rw[pZ]at sS;simp[Builtin.copy_,run_underlying hu,Builtin.lenOf,Builtin.firstCells,sizeOf,typeInfo,hi,<-pL,qM,sS,qD, -List.length_flatten]
  ·simp only[dM0,aC0,aT0,cD0,bU0,pZ];omega
  ·rw[wV];refine eZ k2 _ _ _ ?_ ?_
   ·simp only[LL,aC0,aT0,cD0];omega
   ·intro j cs us hj zL;unfold LL at hj;rw[<-hc]at hj
    by_cases mP:j<i
    ·rw[aR0,bC0 (by simp;omega),cE0 mP]at hj;rw[aR0,bC0 (by simp;omega),cE0 mP]at zL;exact r3 j cs us hj zL
    ·by_cases mJ:j<i+c
     ·rw[bC0 (by simp;omega),bG0 (by simp;omega),aT0,Nat.min_eq_left (by omega),cE0 (by omega)]at hj;rw[bC0 (by simp;omega),bG0 (by simp;omega),aT0,Nat.min_eq_left (by omega),cE0 (by omega)]at zL;exact q2 _ cs us hj zL
     ·rw[bG0 (by simp;omega),dB0]at hj;rw[bG0 (by simp;omega),dB0]at zL;simp only[aC0,aT0]at hj zL;rw[show i+c+(j-(min i es.length+min m es2.length))=j by omega]at hj;rw[show i+c+(j-(min i rows.length+min c rows2.length))=j by omega]at zL;exact r3 j cs us hj zL
end
def Bh (x:ByteArray):List (List DVal):=x.data.toList.map fun b=>[.int .u8 b.toNat]
theorem Bo (x:ByteArray):(Bh x).length=x.size:=by rw[Bh,aJ0];rfl
@[simp] theorem HY (x:ByteArray):BK (Bh x)=0:=by
 unfold Bh
 induction x.data.toList with
 | nil=>rfl
 | cons b l ih=>simp[BK,AV,mx,ih]
theorem Hd_ (x y:ByteArray):Bh (x++y)=Bh x++Bh y:=by
 simp[Bh,eZ0]
theorem Hc_ (x:ByteArray) (cur:Gp) (M:List Nat) (H:Array Obj):∃rows2:List (List Value),rows2.length=(Bh x).length/\(∀(i:Nat) (cs:List DVal) (us:List Value),(Bh x)[i]? =some cs->rows2[i]? =some us->cs.length=1/\AL cur M H cs us/\∀u∈us,u.oneCell'=true) /\
   rows2.flatten.length=(Bh x).length*1/\(∀u∈rows2.flatten,u.oneCell'=true)/\rows2.flatten=Lib.strCells x:=by
 have vC:(x.data.toList.map fun b=>[Value.int .u8 b.toNat]).flatten=Lib.strCells x:=by
  unfold Lib.strCells
  induction x.data.toList with
  | nil=>rfl
  | cons b l ih=>simp[ih]
 refine⟨x.data.toList.map fun b=>[.int .u8 b.toNat],by simp[Bh],?_,by rw[vC,Lib.strCells_length,Bo,Nat.mul_one],by rw[vC];exact Lib.strCells_oneCell x,vC⟩;intro i cs us hc hu;simp only[Bh,bK0,bH0]at hc hu;obtain⟨b,hb,rfl⟩:=hc;obtain⟨b',qG,rfl⟩:=hu;rw[hb]at qG;simp only[aA0]at qG;subst qG;refine⟨rfl,?_,by simp[Value.oneCell']⟩;simp only[AL,rd];exact⟨_,_,rfl,⟨rfl,by have:=UInt8.toNat_lt b;simp only[MF];omega⟩,rfl⟩
section
variable {P : Program} {B : Base} {s : DS} {a : Act} {w : World} {loc : Nat -> Loc}
theorem Hz {t t2 ty e:TypeId} {i:TypeInfo} {x:ByteArray} (hu:P.underlying t=some (.slice e)) (hu2:P.underlying t2=some .string) (hi:P.info? e=some i) (hx:x.size=0) {y:Option Addr} {m cap:Nat} (zA:m<=cap) :
  (Builtin.append_ #[t,t2] ty #[.slice y m cap,.string x]).run P w= .ok (.slice y m cap) w:=by
 have hf:=Lib.run_firstCells_string (P:=P) w i.size x;have hn:Lib.strCells x=[]:=bP0 (by rw[Lib.strCells_length];exact hx);rw[hx,hn]at hf;cases y<;>simp[Builtin.append_,run_underlying hu,run_underlying hu2,sizeOf,typeInfo,hi,Builtin.lenOf,hx,hf,zA,storeCells]
theorem Rel.appendStr {id n:Nat} {t t2 ty e:TypeId} {k bs:Nat} {es:List (List DVal)} {x:ByteArray} {dv:Value} {dst:Option Nat} (R:Rel B s a w loc) (qS:CL B s<=n) (wY:∀i,dst=some i->i<B.nt)
  (ht:tElem P t=some (k,bs)) (jT:tElemId P t=some e) (hz:zeroOK P t=true) (hk:0<k) (qT:Kc_ s loc w B.M0 id e k bs es dv) (bU:BK es<=n)
  (rC:P.underlying t2=some .string) (jE:k=1) (hb:(es.length+x.size)*bs<=150000000000000) (wC:bs<=65536) (hl:es.length+x.size<=maxLen) :
  ∃v' w' L,(Builtin.append_ #[t,t2] ty #[dv,.string x]).run P w= .ok v' w'/\Rel B ⟨Ce s.slots dst (.osl id n),upE s.own id n (.row e k bs (es++Bh x))⟩ (a.put dst v') w' (DM loc id L):=by
 obtain⟨e',i,hu,hi,qM,hby,_⟩:=Cc ht;have mV:e'=e:=by unfold tElemId at jT;rw[hu]at jT;simpa using jT
 subst mV
 obtain⟨z,jS,hzs⟩:∃z,i.zero=some z/\z.cells.size=k:=by
  unfold zeroOK at hz;rw[hu]at hz;simp only[hi]at hz
  cases hq:i.zero with
  | none=>simp[hq]at hz
  | some z=>simp only[hq,beq_iff_eq]at hz;exact⟨z,rfl,by rw[hz,qM]⟩
 obtain⟨es2,sZ⟩:∃es2,es2=Bh x:=⟨_,rfl⟩;rw[<-sZ];have gM:es2.length=x.size:=by rw[sZ,Bo]
 obtain⟨rows2,q1,q2,q3,q4,vC⟩:∃rows2:List (List Value),rows2.length=es2.length/\(∀(i:Nat) (cs:List DVal) (us:List Value),es2[i]? =some cs->rows2[i]? =some us->cs.length=k/\AL (cu s loc) (hm s loc B.M0) w.heap cs us/\∀u∈us,u.oneCell'=true) /\
   rows2.flatten.length=es2.length*k/\(∀u∈rows2.flatten,u.oneCell'=true)/\rows2.flatten=Lib.strCells x:=by
  rw[sZ,jE];exact Hc_ x _ _ _
 have gY:BK es2<=n:=by rw[sZ,HY];exact cV0 _
 rw[<-gM]at hb hl;have yR:(es++es2).length*bs<=150000000000000:=by simpa using hb
 have mx12:BK (es++es2)<=n:=by rw[BX];omega
 -- what the slot reads at the end
 have rdEnd:∀(L:Loc) (h:Array Obj) (obj:DObj),rd (Aj (upE s.own id n obj) (DM loc id L)) (Ad (upE s.own id n obj) (DM loc id L)++B.M0) h (.osl id n) L.hdr:=by
  intro L h obj;simp only[rd];intro l wD;rw[EL]at wD;simp only[aA0]at wD;rw[wD]
 ·by_cases gU:es2.length=0
  ·have zN:es2=[]:=bP0 gU;have hx0:x.size=0:=by omega
   rw[zN,bM0];rw[zN,bM0]at yR
   rcases qT with ⟨rfl,rfl⟩ | ⟨e0,qO,hid,b,arr,cap,kY,rfl,h3,h4,h5,h6,h7⟩
   ·refine⟨_,w,⟨[],.slice none 0 0⟩,Hz hu rC hi hx0 (Nat.le_refl _),?_⟩;refine R.up (L:=⟨[],.slice none 0 0⟩) qS wY (Upd.refl _ _) (fun b hb _=>rfl) (fun b hb=>by simp at hb) (.inl (Nat.le_refl _)) ⟨by simp,.inl ⟨rfl,rfl,rfl⟩⟩ (rdEnd ⟨[],.slice none 0 0⟩ _ _)
   ·have h1:b∈(loc id).blks:=by rw[kY];simp
    refine⟨_,w,⟨[b],.slice (some ⟨b,0,none⟩) es.length cap⟩,Hz hu rC hi hx0 h4,?_⟩
    have hL:∀b0,b0∈(⟨[b],.slice (some ⟨b,0,none⟩) es.length cap⟩:Loc).blks->b0<w.heap.size/\((∃e∈s.own,e.id=id/\b0∈(loc id).blks)\/w.heap.size<=b0):=by
     intro b0 wJ;simp only[aG0]at wJ;subst wJ;exact⟨(aH0.1 h3).1,.inl ⟨e0,qO,hid,h1⟩⟩
    have W:=R.weakUp (obj:= .row e' k bs es) (r:=n) qS (Upd.refl _ _) hL (.inl (Nat.le_refl _));exact R.up (L:=⟨[b],.slice (some ⟨b,0,none⟩) es.length cap⟩) qS wY (Upd.refl _ _) (fun b hb _=>rfl) hL (.inl (Nat.le_refl _)) ⟨yR,.inr ⟨b,arr,cap,rfl,rfl,h3,h4,h5,h6,Dk W k es arr 0 bU h7⟩⟩ (rdEnd ⟨[b],.slice (some ⟨b,0,none⟩) es.length cap⟩ _ _)
  ·
   subst qM
   subst hby;have wD:es.length+es2.length<=9223372036854775807:=by unfold maxLen at hl;omega
   -- a new row, whatever it held before
   have fresh:∀(rows:List (List Value)) (cap:Nat),es.length<=cap\/True->rows.length=es.length->rows.flatten.length=es.length*i.size ->
     (∀(j:Nat) (cs:List DVal) (us:List Value),es[j]? =some cs->rows[j]? =some us->cs.length=i.size/\AL (cu s loc) (hm s loc B.M0) w.heap cs us/\∀u∈us,u.oneCell'=true) ->
     Rel B ⟨Ce s.slots dst (.osl id n),upE s.own id n (.row e' i.size i.bytes (es++es2))⟩ (a.put dst (.slice (some ⟨w.heap.size,0,none⟩) (es.length+es2.length) (grownCap w (es.length+es2.length) cap e')))
      (w.drew.alloc (.cells (rows.flatten.toArray++rows2.flatten.toArray++Builtin.zeroCells z.cells (grownCap w (es.length+es2.length) cap e'-(es.length+es2.length))) e')) (DM loc id ⟨[w.heap.size],.slice (some ⟨w.heap.size,0,none⟩) (es.length+es2.length) (grownCap w (es.length+es2.length) cap e')⟩):=by
    intro rows cap _ r1 r2 r3
    have hw:Upd (Ad s.own loc) w (w.drew.alloc (.cells (rows.flatten.toArray++rows2.flatten.toArray++Builtin.zeroCells z.cells (grownCap w (es.length+es2.length) cap e'-(es.length+es2.length))) e')) :=
     (Upd.drew _ w).trans (Upd.alloc _ w.drew _) (fun x hx=> .inl hx)
    have hL:∀b0,b0∈(⟨[w.heap.size],.slice (some ⟨w.heap.size,0,none⟩) (es.length+es2.length) (grownCap w (es.length+es2.length) cap e')⟩:Loc).blks->b0<(w.drew.alloc (.cells (rows.flatten.toArray++rows2.flatten.toArray++Builtin.zeroCells z.cells (grownCap w (es.length+es2.length) cap e'-(es.length+es2.length))) e')).heap.size/\((∃e∈s.own,e.id=id/\b0∈(loc id).blks)\/w.heap.size<=b0):=by
     intro b0 wJ;simp only[aG0]at wJ;subst wJ;exact⟨by simp,.inr (Nat.le_refl _)⟩
    have W:=R.weakUp (obj:= .row e' i.size i.bytes (es++es2)) (r:=n) qS hw hL (.inl (Nat.le_refl _));have kX:=grownCap_ge w (es.length+es2.length) cap e';have hcm:=grownCap_le_maxLen w (es.length+es2.length) cap e' hl;refine R.up qS wY hw (fun b hb _=>by simp only[World.alloc,bZ0,World.drew];rw[if_neg (by omega)]) hL (.inl (Nat.le_refl _)) ⟨yR,.inr ⟨w.heap.size,_,_,rfl,by simp,heap_alloc_new w.drew _,by simpa using kX,hcm,?_,?_⟩⟩ (rdEnd ⟨[w.heap.size],.slice (some ⟨w.heap.size,0,none⟩) (es.length+es2.length) (grownCap w (es.length+es2.length) cap e')⟩ _ _)
    ·simp only[Array.size_append,dM0,size_zeroCells,hzs,r2,q3,<-cA0]
     congr 1
     omega
    ·have:=PW (k:=i.size) r1 q1 (Fx W bU r3) (Fx W gY q2) (Builtin.zeroCells z.cells (grownCap w (es.length+es2.length) cap e'-(es.length+es2.length))).toList
     have e1:(rows.flatten++rows2.flatten++(Builtin.zeroCells z.cells (grownCap w (es.length+es2.length) cap e'-(es.length+es2.length))).toList).toArray=rows.flatten.toArray++rows2.flatten.toArray++Builtin.zeroCells z.cells (grownCap w (es.length+es2.length) cap e'-(es.length+es2.length)):=by
      apply Array.ext';simp
     rw[e1]at this;exact this
   rcases qT with ⟨rfl,rfl⟩ | ⟨e0,qO,hid,b,arr,cap,kY,rfl,h3,h4,h5,h6,h7⟩
   ·have hr:=run_append_nil_string (P:=P) w t t2 ty e' i z hu rC hi jS x (by omega) (by omega) (by rw[<-gM];simp only[List.length_nil,bX0]at hb;omega)
    have e1:(x.data.map fun b=>Value.int .u8 b.toNat)=(Lib.strCells x).toArray:=by
     apply Array.ext'
     simp[Lib.strCells]
    rw[e1,<-vC,<-gM]at hr;have hf:=fresh [] 0 (.inr trivial) rfl (by simp) (by simp);simp only[List.length_nil,bX0,List.nil_append,List.flatten_nil,Array.empty_append]at hf hr |-;exact⟨_,_,_,hr,hf⟩
   ·have h1:b∈(loc id).blks:=by rw[kY];simp
    obtain⟨rows,r1,r2,r3,r4⟩:=GW i.size es arr 0 h7;have pJ:es.length*i.size<=arr.size:=by rw[<-h6];exact aQ0 _ h4
    by_cases fB:es.length+es2.length<=cap
    ·have zB:es.length*i.size+rows2.flatten.length<=arr.size:=by rw[q3,<-h6,<-cA0];exact aQ0 _ fB
     have hr:=Lib.run_append_room_string (P:=P) w t t2 ty e' i hu rC hi jE b es.length cap arr h3 x (by omega) (by rw[q3,jE]at zB;omega)
     have e2:arr.toList.take es.length++Lib.strCells x++arr.toList.drop (es.length+x.size)=arr.toList.take (es.length*i.size)++rows2.flatten++arr.toList.drop (es.length*i.size+rows2.flatten.length):=by
      rw[q3,vC,jE,Nat.mul_one,Nat.mul_one,gM]
     rw[e2,<-gM]at hr;refine⟨_,_,⟨[b],.slice (some ⟨b,0,none⟩) (es.length+es2.length) cap⟩,hr,?_⟩;have hw:Upd (Ad s.own loc) w (w.setRow b (arr.toList.take (es.length*i.size)++rows2.flatten++arr.toList.drop (es.length*i.size+rows2.flatten.length)).toArray):=Upd.setRow qO (by rw[hid];exact h1) w _
     have hL:∀b0,b0∈(⟨[b],.slice (some ⟨b,0,none⟩) (es.length+es2.length) cap⟩:Loc).blks->b0<(w.setRow b (arr.toList.take (es.length*i.size)++rows2.flatten++arr.toList.drop (es.length*i.size+rows2.flatten.length)).toArray).heap.size/\((∃e∈s.own,e.id=id/\b0∈(loc id).blks)\/w.heap.size<=b0):=by
      intro b0 wJ;simp only[aG0]at wJ;subst wJ;refine⟨?_,.inl ⟨e0,qO,hid,h1⟩⟩;have:=(aH0.1 h3).1;simpa using this
     have W:=R.weakUp (obj:= .row e' i.size i.bytes (es++es2)) (r:=n) qS hw hL (.inl (Nat.le_refl _));refine R.up qS wY hw ?_ hL (.inl (Nat.le_refl _)) ⟨yR,.inr ⟨b,_,cap,rfl,by simp,setRow_heap w b arr _ e' (0,0) h3,by simpa using fB,h5,?_,?_⟩⟩ (rdEnd ⟨[b],.slice (some ⟨b,0,none⟩) (es.length+es2.length) cap⟩ _ _)
     ·intro b0 wJ qK;refine setRow_other w b b0 _ (fun h=>qK e0 qO hid ?_);rw[h];exact h1
     ·simp only[dM0,aC0,aT0,cD0,bU0];omega
     ·have bK:=JU r2 r4 pJ;have hj:=PW r1 q1 (Fx W bU r3) (Fx W gY q2) (arr.toList.drop (es.length*i.size+rows2.flatten.length));rw[<-bK]at hj;exact hj
    ·have hr:=Lib.run_append_grow_string (P:=P) w t t2 ty e' i z hu rC hi jS ⟨b,0,none⟩ es.length cap rows.flatten r2 (fun j v hj=>by rw[ES];simp only[World.cell?,h3];exact(r4 j v hj).1) x (by omega) (by omega) (by rw[<-gM];exact Sg_ (by omega) hb wC);rw[<-vC,<-gM]at hr;exact⟨_,_,_,hr,fresh rows cap (.inl h4) r1 r2 r3⟩
end
def JP (own:List Ent) (et k bs:Nat):DVal->Option (Option Nat×List (List DVal))
 | .nilsl=>some (none,[])
 | .osl id r=>match Ax own id with
  | some e=>if e.r=r then (match e.obj with | .row et' k' bs' es=>if et'=et/\k'=k/\bs'=bs then some (some id,es)else none | _=>none)else none
  | none=>none
 | _=>none
structure ERes where
 pre:Prop
 d:DVal
 own:List Ent
section
variable (P : Program) (nt : Nat) (ow : List Nat)
def BQ (o:Oper):Bool:=match o.op with
 | .box _ _=>match o.dst with | some i=>ow.contains i | none=>false
 | .buildSlice _ _ _=>match o.dst with | some i=>ow.contains i | none=>false
 | .alloc _=>true
 | .store _ _ _=>true
 | .makeMap _ _=>true
 | .mapUpdate _ _ _ _=>true
 | .makeSlice _ _ _=>true
 | .call c=>match c.callee with | .builtin .append=>(match o.dst with | some i=> !ow.contains (i+1000000) | none=>true) | .builtin .clear=>true | .builtin .copy=>true | .builtin .delete=>true | .value _=>(match o.dst with | some i=>ow.contains i | none=>false) | _=>false
 | _=>false
def strOf : DVal->Option ByteArray
 | .str x=>some x
 | _=>none
def Ql (own:List Ent) (dst:Option Nat) (r:Nat):List DVal->List TypeId->Option ERes
 | [a,b],[t,t']=>match dst,tElem P t,tElemId P t with
  | some i,some (k,bs),some et=>match strOf b with
   | some x=>match JP own et k bs a with
    | some (id,es)=>some ⟨tStr P t'=true/\zeroOK P t=true/\k=1/\bs<=65536/\(es.length+x.size)*bs<=150000000000000/\es.length+x.size<=9223372036854775807,
     .osl (id.getD i) r,upE own (id.getD i) r (.row et k bs (es++Bh x))⟩
    | none=>none
   | none=>match JP own et k bs a,Mh own b with
    | some (id,es),some (k2,es2)=>some ⟨t'=t/\zeroOK P t=true/\0<k/\(k2=k\/es2=[])/\bs<=65536/\(es.length+es2.length)*bs<=150000000000000/\es.length+es2.length<=9223372036854775807,
     .osl (id.getD i) r,upE own (id.getD i) r (.row et k bs (es++es2))⟩
    | _,_=>none
  | _,_,_=>none
 | _,_=>none
def GI (own:List Ent) (dst:Option Nat) (t:TypeId) (d:DVal) (id r' k i j:Nat):Option ERes:=match Ax own id with
 | some e=>match e.obj with
  | .row et k' bs es=>match es[i]? with
   | some c0=>some ⟨e.r=r'/\k'=k/\dst=none/\tCells P t=some (AU d).length/\Dr own d=true/\j+(AU d).length<=k,.any,upE own id r' (.row et k' bs (es.set i (EF c0 j (AU d))))⟩
   | none=>none
  | _=>none
 | none=>none
def BG_ (own:List Ent) (dst:Option Nat) (r:Nat) (t:TypeId) (l c:DVal):Option ERes:=match dst,tElem P t,tElemId P t,tZeroE P t,l,c with
 | some i,some (k,bs),some et,some zs,.int _ n,.int _ m=>some ⟨zs.all (Hs [])=true/\zs.length=k/\0<=n/\n<=m/\m*bs<=150000000000000/\m<=9223372036854775807,.osl i r,upE own i r (.row et k bs (List.replicate n.toNat zs))⟩
 | _,_,_,_,_,_=>none
def Wq (own:List Ent):List DVal->List TypeId->Option ERes
 | [d],[t]=>match tElem P t,tZeroE P t with
  | some (k,_),some zs=>match d with
   | .osl id r=>match Ax own id with
    | some e=>match e.obj with
     | .row et k' bs es=>some ⟨e.r=r/\k'=k/\zs.all (Hs [])=true/\zs.length=k/\0<k,.tup [],upE own id r (.row et k' bs (CY es 0 es.length zs))⟩
     | _=>none
    | none=>none
   | .vw id r k0 _ i m=>match Ax own id with
    | some e=>match e.obj with
     | .row et k' bs es=>some ⟨e.r=r/\k'=k/\k0=k/\zs.all (Hs [])=true/\zs.length=k/\0<k/\i+m<=es.length,.tup [],upE own id r (.row et k' bs (CY es i m zs))⟩
     | _=>none
    | none=>none
   | _=>none
  | _,_=>none
 | _,_=>none
def Qk (own:List Ent):List DVal->List TypeId->Option ERes
 | [m,k],[t,_]=>match m,tMap P t with
  | .omp id r',some (kt,_)=>match Ax own id with
   | some e=>match e.obj with
    | .map ks vs=>some ⟨e.r=r'/\CS P kt k=true/\ks.all (CS P kt)=true,.tup [],upE own id r' (.map (Ws ks k) (Wr ks vs k))⟩
    | _=>none
   | none=>none
  | _,_=>none
 | _,_=>none
def Ib_ (own:List Ent):DVal->Option (Nat×Nat×Nat×Nat×TypeId×Nat×Nat×List (List DVal))
 | .osl id r=>match Ax own id with
  | some e=>if e.r=r then (match e.obj with | .row et k bs es=>some (id,r,0,es.length,et,k,bs,es) | _=>none)else none
  | none=>none
 | .vw id r k0 _ i m=>match Ax own id with
  | some e=>if e.r=r then (match e.obj with | .row et k bs es=>if k0=k then some (id,r,i,m,et,k,bs,es)else none | _=>none)else none
  | none=>none
 | _=>none
def BH_ (own:List Ent):List DVal->List TypeId->Option ERes
 | [d,s],[t,t']=>match tElem P t,Ib_ own d,Mh own s with
  | some (k,_),some (id,r',i,m,et,k',bs,es),some (k2,es2)=>some ⟨t'=t/\k'=k/\0<k/\i+m<=es.length/\(k2=k\/es2=[]),.int .i64 (min es2.length m:Nat),upE own id r' (.row et k' bs (LL es i m es2))⟩
  | _,_,_=>none
 | _,_=>none
def LU (o:Oper) (ed:Operand->DVal) (own:List Ent) (r:Nat):Option ERes :=
 match o.op with
 | .box _ x=>match o.dst with
  | some i=>some ⟨Dr own (ed x)=true,.bx i r 0,upE own i r (.box (AU (ed x)))⟩
  | none=>none
 | .buildSlice t len parts=>match o.dst,tElem P t,tElemId P t with
  | some i,some (k,bs),some et=>some ⟨Hu P own (ed) (.buildSlice t len parts),.osl i r,upE own i r (.row et k bs (parts.toList.map fun p=>AU (ed p.2)))⟩
  | _,_,_=>none
 | .alloc t=>match o.dst,tZero P t with
  | some i,some z=>some ⟨z.all (Hs [])=true,.bx i r 0,upE own i r (.box z)⟩
  | _,_=>none
 | .store t a x=>match ed a with
  | .bx id r' off=>match Ax own id with
   | some e=>match e.obj with
    | .box cs=>some ⟨e.r=r'/\o.dst=none/\tCells P t=some (AU (ed x)).length/\Dr own (ed x)=true/\off+(AU (ed x)).length<=cs.length,.any,upE own id r' (.box (EF cs off (AU (ed x))))⟩
    | _=>none
   | none=>none
  | .rx id r' k i j=>GI P own o.dst t (ed x) id r' k i j
  | _=>none
 | .makeSlice t l c=>BG_ P own o.dst r t (ed l) (ed c)
 | .makeMap t rv=>match rv,o.dst,tMap P t with
  | none,some i,some _=>some ⟨True,.omp i r,upE own i r (.map [] [])⟩
  | _,_,_=>none
 | .mapUpdate t m k x=>match ed m,tMap P t with
  | .omp id r',some (kt,_)=>match Ax own id with
   | some e=>match e.obj with
    | .map ks vs=>some ⟨e.r=r'/\o.dst=none/\CS P kt (ed k)=true/\ks.all (CS P kt)=true,.any,upE own id r' (.map (XF ks (ed k)) (XD ks vs (ed k) (ed x)))⟩
    | _=>none
   | none=>none
  | _,_=>none
 | .call c=>match c.callee with
  | .builtin .append=>Ql P own o.dst r (c.args.toList.map (ed)) c.argTypes.toList
  | .builtin .clear=>Wq P own (c.args.toList.map (ed)) c.argTypes.toList
  | .builtin .copy=>BH_ P own (c.args.toList.map (ed)) c.argTypes.toList
  | .builtin .delete=>Qk P own (c.args.toList.map (ed)) c.argTypes.toList
  | _=>none
 | _=>none
end
section
variable {P : Program} {B : Base} {s : DS} {a : Act} {w : World} {loc : Nat -> Loc} {ow : List Nat}
theorem Vm {own:List Ent} {d:DVal} (h:Hs [] d=true):Hs own d=true:=by
 cases d<;>simp_all [Hs,HC,Ax,Bz]
theorem Ho {ro:Option Nat} {o:Oper} {v:Value} {w':World} {next:Act->World->Prop} {Q:Exit->Act->World->Prop} (hd:∀c,o.op≠ .defer c) (h:(execOp a.eval o).run P w= .ok (.value v) w') (hn:next (a.put o.dst v) w'):o.wpIn (wd ro) 0 P a w next Q:=by
 refine⟨fun _ _=>trivial,?_⟩;rw[Oper.semAt_eq _ _ _ hd,h,Oper.uponIn_value];exact hn
theorem aC {ro:Option Nat} {o:Oper} {w':World} {next:Act->World->Prop} {Q:Exit->Act->World->Prop} (hd:∀c,o.op≠ .defer c) (h:(execOp a.eval o).run P w= .ok .skip w') (hn:next (a.put o.dst Go.undef) w'):o.wpIn (wd ro) 0 P a w next Q:=by
 refine⟨fun _ _=>trivial,?_⟩;rw[Oper.semAt_eq _ _ _ hd,h,Oper.uponIn_skip];exact hn
theorem Zy {id:Option Nat} {i0 r et k bs:Nat} {es:List (List DVal)} {d:DVal} {v:Value} (R:Rel B s a w loc) (qS:Jc s.own<=r) (hdest:JP s.own et k bs d=some (id,es)) (ra:BJ s loc B.M0 w d v) :
  Kc_ s loc w B.M0 (id.getD i0) et k bs es v/\BK es<=r:=by
 unfold JP at hdest
 split at hdest
 ·simp only[aA0,aY0]at hdest;obtain⟨rfl,rfl⟩:=hdest;simp only[BJ,rd]at ra;exact⟨.inl ⟨rfl,ra⟩,by simp[BK]⟩
 ·rename_i id' r'
  split at hdest
  ·rename_i e0 zG
   split at hdest
   ·rename_i wB
    split at hdest
    ·rename_i et' k' bs' es' qA
     split at hdest
     ·rename_i heq;obtain⟨rfl,rfl,rfl⟩:=heq;simp only[aA0,aY0]at hdest;obtain⟨rfl,rfl⟩:=hdest;refine⟨KG_ R.st zG wB qA ra,?_⟩;have:=(BG (Bf zG).1).2;rw[qA]at this;simp only[GC]at this;omega
     ·simp at hdest
    ·simp at hdest
   ·simp at hdest
  ·simp at hdest
 ·simp at hdest
theorem Mb_ {own:List Ent} {id:Option Nat} {r et k bs:Nat} {es:List (List DVal)} {d:DVal} (hdest:JP own et k bs d=some (id,es)) (qS:Jc own<=r):BK es<=r:=by
 unfold JP at hdest
 split at hdest
 ·simp only[aA0,aY0]at hdest;obtain⟨_,rfl⟩:=hdest;simp[BK]
 ·split at hdest
  ·rename_i e0 zG
   split at hdest
   ·split at hdest
    ·rename_i qA
     split at hdest
     ·simp only[aA0,aY0]at hdest;obtain⟨_,rfl⟩:=hdest;have:=(BG (Bf zG).1).2;rw[qA]at this;simp only[GC]at this;omega
     ·simp at hdest
    ·simp at hdest
   ·simp at hdest
  ·simp at hdest
 ·simp at hdest
theorem Ai_ {own:List Ent} {d:DVal} {id r i m:Nat} {et:TypeId} {k bs:Nat} {es:List (List DVal)} (h:Ib_ own d=some (id,r,i,m,et,k,bs,es)) :
  ∃e bs0,Ax own id=some e/\e.r=r/\e.obj= .row et k bs es/\(d= .osl id r/\i=0/\m=es.length\/d= .vw id r k bs0 i m):=by
 unfold Ib_ at h
 split at h
 ·split at h
  ·rename_i e he
   split at h
   ·rename_i wB
    split at h
    ·rename_i qA;simp only[aA0,aY0]at h;obtain⟨rfl,rfl,rfl,rfl,rfl,rfl,rfl,rfl⟩:=h;exact⟨e,0,he,wB,qA,.inl ⟨rfl,rfl,rfl⟩⟩
    ·simp at h
   ·simp at h
  ·simp at h
 ·rename_i bs0 _ _
  split at h
  ·rename_i e he
   split at h
   ·rename_i wB
    split at h
    ·rename_i qA
     split at h
     ·rename_i hk;simp only[aA0,aY0]at h;obtain⟨rfl,rfl,rfl,rfl,rfl,rfl,rfl,rfl⟩:=h;exact⟨e,bs0,he,wB,qA,.inr (by rw[hk])⟩
     ·simp at h
    ·simp at h
   ·simp at h
  ·simp at h
 ·simp at h
theorem xL {own:List Ent} {s:DVal} {k2:Nat} {es2:List (List DVal)} {n:Nat} (h:Mh own s=some (k2,es2)) (h1:Jc own<=n) (h2:mx s<=n):BK es2<=n:=by
 unfold Mh at h
 split at h
 ·simp only[aA0,aY0]at h;obtain⟨_,rfl⟩:=h;simp[BK]
 ·simp only[aA0,aY0]at h;obtain⟨_,rfl⟩:=h;simp[BK]
 ·rw[bH0]at h;obtain⟨⟨k',b',es'⟩,h3,h4⟩:=h;simp only[aY0]at h4;obtain⟨_,rfl⟩:=h4;have:=Rj h3;omega
theorem UP_ {o:Oper} {r:Nat} {x:ERes} {ed:Operand->DVal} {next:Act->World->Prop} {Q:Exit->Act->World->Prop} (R:Rel B s a w loc) (hr:CL B s<=r) (hd:CX B.nt o.dst=true) (yS:∀x∈o.op.operands,BJ s loc B.M0 w (ed x) (a.eval x)) (bT:∀x∈o.op.operands,mx (ed x)<=Nv s.slots) (h:LU P o ed s.own r=some x) (hp:x.pre)
  (hn:∀a' w' loc',Rel B ⟨Ce s.slots o.dst x.d,x.own⟩ a' w' loc'->next a' w'):o.wpIn (wd B.ro) 0 P a w next Q:=by
 have qS:=hr;unfold CL at qS;obtain⟨dst,op,type,pos,after,guard⟩:=o;simp only at hd hn |-;unfold LU at h;simp only at h;cases op<;>simp only[reduceCtorEq]at h
 case box t y =>
  cases dst with
  | none=>simp at h
  | some i =>
   simp only[aA0]at h;subst h;simp only at hp hn;obtain⟨h1,h2⟩:=Ky R.st hp (yS y (by simp[Op.operands,Call.operands]));have:=R.newBox (id:=i) (n:=r) (cs:=AU (ed y)) (us:=(a.eval y).cells.toList) (ty:=t) (dst:=some i) hr (by rw[DC];have:=bT y (by simp[Op.operands,Call.operands]);omega) (fun j hj=>by simp only[aA0]at hj;subst hj;simpa[CX]using hd) h1 h2
   have qR:(execOp a.eval ⟨some i,.box t y,type,pos,after,guard⟩).run P w= .ok (.value (.pointer (some ⟨w.heap.size,0,none⟩))) (w.alloc (.cells (a.eval y).cells.toList.toArray t)):=by
    simp[execOp,Instr.box,newVar,newRow]
   exact Ho (fun c hc=>by cases hc) qR (hn _ _ _ this)
 case buildSlice t len parts =>
  split at h
  ·rename_i i k bs et ht jT;simp only[aA0]at h;subst h;simp only at hp hn;simp only[Hu,ht]at hp;obtain⟨h1,h2,h3,h4,h5,h6,h7⟩:=hp;have qZ:parts.toList.length=len:=by have:=congrArg List.length h1;simpa using this
   obtain⟨e,us,hu,qR,cH,zK⟩:=Mg (P:=P) (M0:=B.M0) (vs:=parts.map fun p=>(p.1,a.eval p.2)) R.st ht h5 h2 h3 h4 (ds:=parts.toList.map fun p=>ed p.2) (by rw[eS0,cF0];exact h1) (by simpa using qZ) (by simpa[List.all_map,Function.comp_def]using h6) (by
    intro i d q hd hq;simp only[bK0,bH0,eS0]at hd hq;obtain⟨a',ha,rfl⟩:=hd;obtain⟨b,hb,rfl⟩:=hq;rw[ha]at hb;simp only[aA0]at hb;subst hb
    exact yS a'.2 (by simpa[Op.operands]using ⟨a'.1,by simpa using bI0 ha⟩)) h7
   have mV:e=et:=by unfold tElemId at jT;rw[hu]at jT;simpa using jT
   subst mV
   have hL:∀b0,b0∈(⟨[w.heap.size],.slice (some ⟨w.heap.size,0,none⟩) len len⟩:Loc).blks->b0<(w.alloc (.cells us.toArray e)).heap.size/\((∃e∈s.own,e.id=i/\b0∈(loc i).blks)\/w.heap.size<=b0):=by
    intro b0 wJ;simp only[aG0]at wJ;subst wJ;exact⟨by simp,.inr (Nat.le_refl _)⟩
   have hw:=Upd.alloc (Ad s.own loc) w (.cells us.toArray e)
   have zE:BK (parts.toList.map fun p=>AU (ed p.2))<=r:=by
    refine TR fun cs hm=> ?_
    obtain⟨p,hp,rfl⟩:=aU0.1 hm;rw[DC];have:=bT p.2 (by simpa[Op.operands]using ⟨p.1,by simpa using hp⟩);omega
   have W:=R.weakUp (obj:= .row e k bs (parts.toList.map fun p=>AU (ed p.2))) (r:=r) hr hw hL (.inl (Nat.le_refl _))
   have R':=R.up (id:=i) (r:=r) (obj:= .row e k bs (parts.toList.map fun p=>AU (ed p.2))) (L:=⟨[w.heap.size],.slice (some ⟨w.heap.size,0,none⟩) len len⟩) (v:= .slice (some ⟨w.heap.size,0,none⟩) len len) (d:= .osl i r) (dst:=some i) hr
    (fun j hj=>by simp only[aA0]at hj;subst hj;simpa[CX]using hd) hw (fun b hb _=>by simp only[World.alloc,bZ0];rw[if_neg (by omega)]) hL (.inl (Nat.le_refl _))
    ⟨by simpa[qZ]using h3,.inr ⟨w.heap.size,us.toArray,len,rfl,by simp[qZ],heap_alloc_new w _,by simp[qZ],by unfold maxLen;omega,by simp[cH],Dk W k _ _ 0 zE (by simpa[cF0,Function.comp_def]using zK)⟩⟩
    (by
     simp only[rd];intro l hl;rw[EL]at hl;simp only[aA0]at hl
     rw[<-hl])
   have vO:(execOp a.eval ⟨some i,.buildSlice t len parts,type,pos,after,guard⟩).run P w= .ok (.value (.slice (some ⟨w.heap.size,0,none⟩) len len)) (w.alloc (.cells us.toArray e)):=by
    simp[execOp,qR]
   exact Ho (fun c hc=>by cases hc) vO (hn _ _ _ R')
  ·simp at h
 case alloc t =>
  cases dst with
  | none=>simp at h
  | some i =>
   split at h
   ·rename_i z hi hz;simp only[aA0]at h hi;subst h;subst hi;simp only at hp hn;obtain⟨zv,jS,rfl⟩:=JV (w:=w) hz;have zF:AL (cu s loc) (hm s loc B.M0) w.heap (zv.cells.toList.map CO) zv.cells.toList:=Cd _
    have zE:AV (zv.cells.toList.map CO)=0:=by
     have h1:∀v,mx (CO v)=0:=by
      intro v;unfold CO
      split<;>(try split)<;>simp[mx]
     generalize zv.cells.toList=l
     induction l with
     | nil=>simp[AV]
     | cons v l ih=>simp[AV,h1,ih]
    have wW:=Iv R.st (zv.cells.toList.map CO) zv.cells.toList (bA0.2 fun d hd=>Vm (bA0.1 hp d hd)) zF;have:=R.newBox (id:=i) (n:=r) (cs:=zv.cells.toList.map CO) (us:=zv.cells.toList) (ty:=t) (dst:=some i) hr (by omega) (fun j hj=>by simp only[aA0]at hj;subst hj;simpa[CX]using hd) zF wW
    have qR:(execOp a.eval ⟨some i,.alloc t,type,pos,after,guard⟩).run P w= .ok (.value (.pointer (some ⟨w.heap.size,0,none⟩))) (w.alloc (.cells zv.cells.toList.toArray t)):=by
     simp[execOp,Instr.alloc,jS,newVar,newRow]
    exact Ho (fun c hc=>by cases hc) qR (hn _ _ _ this)
   ·simp at h
 case store t ad y =>
  split at h
  ·rename_i id r' off had
   split at h
   ·rename_i e he
    split at h
    ·rename_i cs qA;simp only[aA0]at h;subst h;simp only at hp hn;obtain⟨wB,rfl,hc,yJ,zB⟩:=hp;have ha:=yS ad (by simp[Op.operands,Call.operands]);rw[had]at ha;obtain⟨w',qR,R'⟩:=R.storeBox (P:=P) (t:=t) (n:=r) he wB qA ha (yS y (by simp[Op.operands,Call.operands])) yJ hc zB (bT y (by simp[Op.operands,Call.operands])) hr
     have vO:(execOp a.eval ⟨none,.store t ad y,type,pos,after,guard⟩).run P w= .ok .skip w':=by
      simp[execOp,qR]
     exact aC (fun c hc=>by cases hc) vO (hn _ _ _ R')
    ·simp at h
   ·simp at h
  ·rename_i id r' k i j had;unfold GI at h
   split at h
   ·rename_i e he
    split at h
    ·rename_i et k' bs es qA
     split at h
     ·rename_i c0 yG;simp only[aA0]at h;subst h;simp only at hp hn;obtain⟨wB,rfl,rfl,hc,yJ,zB⟩:=hp;have ha:=yS ad (by simp[Op.operands,Call.operands]);rw[had]at ha;obtain⟨w',qR,R'⟩:=R.storeRow (P:=P) (t:=t) (n:=r) he wB qA ha (yS y (by simp[Op.operands,Call.operands])) yJ hc yG zB (bT y (by simp[Op.operands,Call.operands])) hr
      have vO:(execOp a.eval ⟨none,.store t ad y,type,pos,after,guard⟩).run P w= .ok .skip w':=by
       simp[execOp,qR]
      exact aC (fun c hc=>by cases hc) vO (hn _ _ _ R')
     ·simp at h
    ·simp at h
   ·simp at h
  ·simp at h
 case makeSlice t lo co =>
  unfold BG_ at h
  split at h
  ·rename_i i k bs et zs kl n kc m ht jT hz hl hc;simp only[aA0]at h;subst h;simp only at hp hn;obtain⟨h1,h2,h3,h4,h5,h6⟩:=hp;have rl:=yS lo (by simp[Op.operands,Call.operands]);have rc:=yS co (by simp[Op.operands,Call.operands]);rw[hl]at rl;rw[hc]at rc;simp only[rd]at rl rc;obtain⟨v',w',L,qR,R'⟩:=R.makeRow (P:=P) (id:=i) (n:=r) (kl:=kl) (kc:=kc) (dst:=some i) hr (fun j hj=>by simp only[aA0]at hj;subst hj;simpa[CX]using hd) ht jT hz h1 h2 h3 h4 h5 h6
   have vO:(execOp a.eval ⟨some i,.makeSlice t lo co,type,pos,after,guard⟩).run P w= .ok (.value v') w':=by
    simp[execOp,rl.1,rc.1,qR]
   exact Ho (fun c hc=>by cases hc) vO (hn _ _ _ R')
  ·simp at h
 case makeMap t rv =>
  split at h
  ·rename_i i kte ht;simp only[aA0]at h;subst h;simp only at hp hn;have:=R.newMap (id:=i) (n:=r) (dst:=some i) hr (fun j hj=>by simp only[aA0]at hj;subst hj;simpa[CX]using hd)
   have qR:(execOp a.eval ⟨some i,.makeMap t none,type,pos,after,guard⟩).run P w= .ok (.value (.map (some w.heap.size))) (w.alloc (.map #[] 0)):=by
    simp[execOp,RowKit.run_makeMap]
   exact Ho (fun c hc=>by cases hc) qR (hn _ _ _ this)
  ·simp at h
 case mapUpdate t m k x =>
  split at h
  ·rename_i id r' kt et hm ht
   split at h
   ·rename_i e he
    split at h
    ·rename_i ks vs qA;simp only[aA0]at h;subst h;simp only at hp hn;obtain⟨wB,rfl,hk,vH⟩:=hp;have ha:=yS m (by simp[Op.operands,Call.operands]);rw[hm]at ha;obtain⟨w',qR,R'⟩:=R.updMap (P:=P) (t:=t) (n:=r) he wB qA ha (yS k (by simp[Op.operands,Call.operands])) (yS x (by simp[Op.operands,Call.operands])) ht hk vH (bT k (by simp[Op.operands,Call.operands])) (bT x (by simp[Op.operands,Call.operands])) hr
     have vO:(execOp a.eval ⟨none,.mapUpdate t m k x,type,pos,after,guard⟩).run P w= .ok .skip w':=by
      simp[execOp,qR]
     exact aC (fun c hc=>by cases hc) vO (hn _ _ _ R')
    ·simp at h
   ·simp at h
  ·simp at h
 case call c =>
  obtain⟨cal,args,ats⟩:=c;cases cal<;>simp only[reduceCtorEq]at h;rename_i b;cases b<;>simp only[reduceCtorEq]at h;obtain⟨al⟩:=args;obtain⟨tl⟩:=ats
  case append =>
   unfold Ql at h
   split at h
   ·rename_i da db t t' qF zH
    split at h
    ·rename_i i k bs et ht jT
     split at h
     ·rename_i x cU
      split at h
      ·rename_i id es hdest;simp only[aA0]at h;subst h;simp only at hp hn;obtain⟨rC,hz,hk,wC,hb,hl⟩:=hp
       have hdb:db= .str x:=by
        unfold strOf at cU
        split at cU
        ·simp only[aA0]at cU;rw[cU]
        ·simp at cU
       match al,qF with
       | [xa,xb],qF =>
        simp only[List.map_cons,List.map_nil,bL0,and_true]at qF;obtain⟨fE,mM⟩:=qF;subst zH;have ra:=yS xa (by simp[Op.operands,Call.operands]);have rb:=yS xb (by simp[Op.operands,Call.operands]);rw[fE]at ra;rw[mM,hdb]at rb;simp only[BJ,rd]at rb;have qT:=Zy (i0:=i) (r:=r) R (by omega) hdest ra
        have hu2:P.underlying t'=some .string:=by
         unfold tStr at rC
         split at rC
         ·assumption
         ·simp at rC
        obtain⟨v',w',L,qR,R'⟩:=R.appendStr (P:=P) (ty:=type) (id:=id.getD i) (n:=r) (x:=x) (dst:=some i) hr (fun j hj=>by simp only[aA0]at hj;subst hj;simpa[CX]using hd) ht jT hz (by omega) qT.1 qT.2 hu2 hk hb wC (by unfold maxLen;omega)
        have vO:(execOp a.eval ⟨some i,.call { callee:= .builtin .append,args:=⟨[xa,xb]⟩,argTypes:=⟨[t,t']⟩ },type,pos,after,guard⟩).run P w= .ok (.value v') w':=by
         simp only[execOp,resolve,Sem.run_bind,dW0,List.map_cons,List.map_nil,Sem.run_pure,Result.andThen_ok,invoke,builtin,rb.1,qR]
        exact Ho (fun c hc=>by cases hc) vO (hn _ _ _ R')
      ·simp at h
     split at h
     ·rename_i id es k2 es2 hdest vZ;simp only[aA0]at h;subst h;simp only at hp hn;obtain⟨rfl,hz,hk,jM,wC,hb,hl⟩:=hp
      match al,qF with
      | [xa,xb],qF =>
       simp only[List.map_cons,List.map_nil,bL0,and_true]at qF;obtain⟨fE,mM⟩:=qF;subst zH;have ra:=yS xa (by simp[Op.operands,Call.operands]);have rb:=yS xb (by simp[Op.operands,Call.operands]);rw[fE]at ra;rw[mM]at rb;have ma:=bT xa (by simp[Op.operands,Call.operands]);have mb:=bT xb (by simp[Op.operands,Call.operands]);rw[fE]at ma;rw[mM]at mb;have qT:=Zy (i0:=i) (r:=r) R (by omega) hdest ra
       have gY:BK es2<=r:=by
        unfold Mh at vZ
        split at vZ
        ·simp only[aA0,aY0]at vZ;obtain⟨_,rfl⟩:=vZ;simp[BK]
        ·simp only[aA0,aY0]at vZ;obtain⟨_,rfl⟩:=vZ;simp[BK]
        ·rw[bH0]at vZ;obtain⟨⟨k',b',es'⟩,h1,h2⟩:=vZ;simp only[aY0]at h2;obtain⟨_,rfl⟩:=h2;have:=Rj h1;omega
       obtain⟨v',w',L,qR,R'⟩:=R.append (P:=P) (ty:=type) (id:=id.getD i) (n:=r) (dst:=some i) hr (fun j hj=>by simp only[aA0]at hj;subst hj;simpa[CX]using hd) ht jT hz hk qT.1 qT.2 rb vZ jM gY hb wC (by unfold maxLen;omega)
       have vO:(execOp a.eval ⟨some i,.call { callee:= .builtin .append,args:=⟨[xa,xb]⟩,argTypes:=⟨[t',t']⟩ },type,pos,after,guard⟩).run P w= .ok (.value v') w':=by
        simp only[execOp,resolve,Sem.run_bind,dW0,List.map_cons,List.map_nil,Sem.run_pure,Result.andThen_ok,invoke,builtin,qR]
       exact Ho (fun c hc=>by cases hc) vO (hn _ _ _ R')
     ·simp at h
    ·simp at h
   ·simp at h
  case copy =>
   obtain⟨al⟩:=args;obtain⟨tl⟩:=ats;unfold BH_ at h
   split at h
   ·rename_i d sd t t' qF zH;subst zH
    match al,qF with
    | [xa,xb],qF =>
     simp only[List.map_cons,List.map_nil,bL0,and_true]at qF;obtain⟨fE,mM⟩:=qF;have ra:=yS xa (by simp[Op.operands,Call.operands]);have rb:=yS xb (by simp[Op.operands,Call.operands]);have mb:=bT xb (by simp[Op.operands,Call.operands]);rw[fE]at ra;rw[mM]at rb mb
     split at h
     ·rename_i k k0 id r' i m et k' bs es k2 es2 ht nO vZ;simp only[aA0]at h;subst h;simp only at hp;obtain⟨rfl,rfl,hk,hb,jM⟩:=hp;obtain⟨e,bs0,he,wB,qA,hdd⟩:=Ai_ nO;obtain⟨w',qR,R'⟩:=R.copyRow (P:=P) (ty:=type) (n:=r) (bs0:=bs0) (dst:=dst) he wB qA ra hdd hb ht hk rb vZ jM (xL vZ (by omega) (by omega)) hr (fun j hj=>by subst hj;simpa[CX]using hd)
      have vO:(execOp a.eval ⟨dst,.call { callee:= .builtin .copy,args:=⟨[xa,xb]⟩,argTypes:=⟨[t',t']⟩ },type,pos,after,guard⟩).run P w= .ok (.value (goInt (min es2.length m:Nat))) w':=by
       simp only[execOp,resolve,Sem.run_bind,dW0,List.map_cons,List.map_nil,Sem.run_pure,Result.andThen_ok,invoke,builtin,qR]
      exact Ho (fun c hc=>by cases hc) vO (hn _ _ _ R')
     ·simp at h
   ·simp at h
  case clear =>
   obtain⟨al⟩:=args;obtain⟨tl⟩:=ats
   have main:∀{w':World} {own':List Ent} {loc':Nat->Loc} {xa:Operand} {t:TypeId},al=[xa]->tl=[t]->(Builtin.clear_ #[t] type #[a.eval xa]).run P w= .ok (.tuple #[]) w'->Rel B ⟨Ce s.slots dst (.tup []),own'⟩ (a.put dst (.tuple #[])) w' loc'->x.d= .tup []->x.own=own' ->
     (Oper.mk dst (.call { callee:= .builtin .clear,args:=⟨al⟩,argTypes:=⟨tl⟩ }) type pos after guard).wpIn (wd B.ro) 0 P a w next Q:=by
    intro w' own' loc' xa t jP kM qR R' hxd hxo;subst jP;subst kM;rw[hxd,hxo]at hn
    have vO:(execOp a.eval ⟨dst,.call { callee:= .builtin .clear,args:=⟨[xa]⟩,argTypes:=⟨[t]⟩ },type,pos,after,guard⟩).run P w= .ok (.value (.tuple #[])) w':=by
     simp only[execOp,resolve,Sem.run_bind,dW0,List.map_cons,List.map_nil,Sem.run_pure,Result.andThen_ok,invoke,builtin,qR]
    exact Ho (fun c hc=>by cases hc) vO (hn _ _ _ R')
   unfold Wq at h
   split at h
   ·rename_i d t qF zH;subst zH
    match al,qF with
    | [xa],qF =>
     simp only[List.map_cons,List.map_nil,bL0,and_true]at qF;have ra:=yS xa (by simp[Op.operands,Call.operands]);rw[qF]at ra
     split at h
     ·rename_i k bs0 zs ht hz
      split at h
      ·rename_i id r' 
       split at h
       ·rename_i e he
        split at h
        ·rename_i et k' bs es qA;simp only[aA0]at h;subst h;simp only at hp;obtain⟨wB,rfl,h1,h2,h3⟩:=hp;obtain⟨w',qR,R'⟩:=R.clearRow (P:=P) (t:=t) (ty:=type) (n:=r) (k0:=bs0) (bs0:=0) (e':=0) (dst:=dst) he wB qA ra (.inl ⟨rfl,rfl,rfl⟩) (by simp) ht hz h1 h2 h3 hr (fun j hj=>by subst hj;simpa[CX]using hd);exact main rfl rfl qR R' rfl rfl
        ·simp at h
       ·simp at h
      ·rename_i id r' k0 bs1 i m _
       split at h
       ·rename_i e he
        split at h
        ·rename_i et k' bs es qA;simp only[aA0]at h;subst h;simp only at hp;obtain⟨wB,rfl,rfl,h1,h2,h3,h4⟩:=hp;obtain⟨w',qR,R'⟩:=R.clearRow (P:=P) (t:=t) (ty:=type) (n:=r) (k0:=bs0) (bs0:=bs1) (e':=0) (dst:=dst) he wB qA ra (.inr rfl) h4 ht hz h1 h2 h3 hr (fun j hj=>by subst hj;simpa[CX]using hd);exact main rfl rfl qR R' rfl rfl
        ·simp at h
       ·simp at h
      ·simp at h
     ·simp at h
   ·simp at h
  case delete =>
   obtain⟨al⟩:=args;obtain⟨tl⟩:=ats;unfold Qk at h
   split at h
   ·rename_i dm dk t t2 qF zH;have kM:tl=[t,t2]:=zH;subst kM
    match al,qF with
    | [xa,xb],qF =>
     simp only[List.map_cons,List.map_nil,bL0,and_true]at qF;obtain⟨fE,mM⟩:=qF;have ra:=yS xa (by simp[Op.operands,Call.operands]);have rb:=yS xb (by simp[Op.operands,Call.operands]);rw[fE]at ra;rw[mM]at rb
     split at h
     ·rename_i id r' kt et ht
      split at h
      ·rename_i e he
       split at h
       ·rename_i ks vs qA;simp only[aA0]at h;subst h;simp only at hp hn;obtain⟨wB,hk,vH⟩:=hp;obtain⟨w',qR,R'⟩:=R.delMap (P:=P) (t:=t) (t2:=t2) (ty:=type) (n:=r) (dst:=dst) he wB qA ra rb ht hk vH hr (fun j hj=>by subst hj;simpa[CX]using hd)
        have vO:(execOp a.eval ⟨dst,.call { callee:= .builtin .delete,args:=⟨[xa,xb]⟩,argTypes:=⟨[t,t2]⟩ },type,pos,after,guard⟩).run P w= .ok (.value (.tuple #[])) w':=by
         simp only[execOp,resolve,Sem.run_bind,dW0,List.map_cons,List.map_nil,Sem.run_pure,Result.andThen_ok,invoke,builtin,qR]
        exact Ho (fun c hc=>by cases hc) vO (hn _ _ _ R')
       ·simp at h
      ·simp at h
     ·simp at h
   ·simp at h
def yH (l:Nat):Abs where
 J:=fun _ bl hd _=>bl=[]/\hd= .func (.yield l) #[] #[]
 weak:=fun _ _ _ _ _ _ _ _ _ h=>h
 one:=by rintro _ _ _ _ ⟨_,rfl⟩;exact⟨rfl,rfl⟩
 nd:=by rintro _ _ _ _ ⟨rfl,_⟩ b hb;cases hb
def YAt (P:Program) (l:Nat) (A:Abs) (args:List DVal) (b:Bool) (A':Abs):Prop :=
 ∀(M bl:List Nat) (hd:Value) (w:World) (vs:Array Value),bl.Nodup->(∀q∈bl,q∈M)->(∀q∈M,q<w.heap.size)->A.J M bl hd w.heap->AL (fun _ _=>none) M w.heap args vs.toList ->
  JQ P (.yield l) vs w fun v w'=>v= .bool b/\∃bl',Upd bl w w'/\bl'.Nodup/\(∀q∈bl',q<w'.heap.size/\(q∈bl\/w.heap.size<=q)) /\
   ∀M',(∀q∈M',q∈bl'\/(q∈M/\q∉bl))->A'.J M' bl' hd w'.heap
def iE (ed:Operand->DVal) (c:Call):Option (Nat×Nat×List DVal):=match c.callee with
 | .value f=>match ed f with | .pk id r=>some (id,r,c.args.toList.map ed) | _=>none
 | _=>none
def Tx (P:Program) (o:Oper) (ed:Operand->DVal) (own:List Ent) (r:Nat) (d:DVal) (own':List Ent):Prop :=
 (∃x,LU P o ed own r=some x/\x.pre/\d=x.d/\own'=x.own)\/(∃c g args,o.op= .call c/\callee ed c=some (g,args)/\uD P (.func g) args own r d own') \/
  (∃c id r' args e0 l e A A' b,o.op= .call c/\iE ed c=some (id,r',args)/\Ax own id=some e0/\e0.r=r'/\e0.obj= .abs (yH l)/\Ax own (id+1)=some e/\e.obj= .abs A/\AV args=0/\YAt P l A args b A'/\d= .bool b/\own'=upE own (id+1) r (.abs A'))
def RB_ (P:Program) (o:Oper) (ed:Operand->DVal) (own:List Ent) (K:ContE):Prop:=∀r,match LU P o ed own r with | some x=>x.pre/\K.f x.d x.own | none=>False
def Bv (P:Program) (g:FuncId) (args:List DVal) (own:List Ent) (K:ContE):Prop:=∀r,∃d own',uD P (.func g) args own r d own'/\K.f d own'
def PI_ (P:Program) (id r':Nat) (args:List DVal) (own:List Ent) (K:ContE):Prop:=∃e0 l e A A' b,Ax own id=some e0/\e0.r=r'/\e0.obj= .abs (yH l)/\Ax own (id+1)=some e/\e.obj= .abs A/\AV args=0/\YAt P l A args b A'/\∀r,K.f (.bool b) (upE own (id+1) r (.abs A'))
def LY_ (P:Program) (o:Oper) (ed:Operand->DVal) (own:List Ent) (K:ContE):Prop:=match o.op with
 | .call c=>match callee ed c with
  | some (g,args)=>Bv P g args own K
  | none=>match iE ed c with
   | some (id,r',args)=>PI_ P id r' args own K
   | none=>RB_ P o ed own K
 | _=>RB_ P o ed own K
theorem BE_ {P:Program} {o:Oper} {ed:Operand->DVal} {own:List Ent} {K:ContE} (h:RB_ P o ed own K) (r:Nat):∃d own',Tx P o ed own r d own'/\K.f d own':=by
 have h1:=h r
 split at h1
 ·rename_i x hx;exact⟨x.d,x.own,.inl ⟨x,hx,h1.1,rfl,rfl⟩,h1.2⟩
 ·exact h1.elim
theorem MU {P:Program} {o:Oper} {ed:Operand->DVal} {own:List Ent} {K:ContE} (h:LY_ P o ed own K) (r:Nat):∃d own',Tx P o ed own r d own'/\K.f d own':=by
 unfold LY_ at h
 split at h
 ·rename_i c vG
  split at h
  ·rename_i g args hc;obtain⟨d,own',h1,h2⟩:=h r;exact⟨d,own',.inr (.inl ⟨c,g,args,vG,hc,h1⟩),h2⟩
  ·split at h
   ·rename_i id r' args hp;obtain⟨e0,l,e,A,A',b,h1,h2,h3,h4,h5,h6,h7,h8⟩:=h;exact⟨_,_,.inr (.inr ⟨c,id,r',args,e0,l,e,A,A',b,vG,hp,h1,h2,h3,h4,h5,h6,h7,rfl,rfl⟩),h8 r⟩
   ·exact BE_ h r
 ·exact BE_ h r
theorem QM_ {o:Oper} {c:Call} {g:FuncId} {args:List DVal} {r:Nat} {d:DVal} {own':List Ent} {ed:Operand->DVal} {next:Act->World->Prop} {Q:Exit->Act->World->Prop} (R:Rel B s a w loc) (hr:CL B s<=r) (hd:CX B.nt o.dst=true) (ho:o.op= .call c)
  (yS:∀x∈o.op.operands,BJ s loc B.M0 w (ed x) (a.eval x)) (hc:callee ed c=some (g,args)) (hS:uD P (.func g) args s.own r d own')
  (hn:∀a' w' loc',Rel B ⟨Ce s.slots o.dst d,own'⟩ a' w' loc'->next a' w'):o.wpIn (wd B.ro) 0 P a w next Q:=by
 have qS:=hr;unfold CL at qS;obtain⟨hE,_,_,hS⟩:=hS;obtain⟨vs,h1,h2⟩:=xJ (P:=P) (ρ:=a.eval) (M0:=B.M0) ho (fun x hx=>yS x (by rw[ho];exact hx)) hc hE;refine⟨fun _ _=>trivial,?_⟩;rw[Oper.semAt_eq _ _ _ (fun c' pL=>by rw[ho]at pL;cases pL),h1,Oper.uponIn_enter];refine⟨fun h=>by simp[wd]at h,WU B.ro _ ?_⟩;refine((hS B.M0 w loc vs (by omega) R.st h2).2).mono ?_;rintro e w' ⟨v,rfl,loc',S',hu,wV,yQ,zK⟩;exact hn _ _ loc' (R.step (n:=r) (by omega) (by omega) (OX hd) S' hu wV yQ zK)
theorem NE_ {P:Program} {l:Nat} {fn:FuncId} {tmps:Array Value} {assign body:Code} {w:World} {R:Ending->World->Prop} (ro:Option Nat) (h:RoundIn (wd none) 0 P l fn tmps assign body w R):RoundIn (wd ro) 0 P l fn tmps assign body w R:=h
theorem MN_ {o:Oper} {c:Call} {id r' n l:Nat} {args:List DVal} {e0 e:Ent} {A A':Abs} {b:Bool} {ed:Operand->DVal} {next:Act->World->Prop} {Q:Exit->Act->World->Prop} (R:Rel B s a w loc) (hr:CL B s<=n) (hd:CX B.nt o.dst=true) (ho:o.op= .call c)
  (yS:∀x∈o.op.operands,BJ s loc B.M0 w (ed x) (a.eval x)) (hc:iE ed c=some (id,r',args)) (zG:Ax s.own id=some e0) (wB:e0.r=r') (hob0:e0.obj= .abs (yH l)) (he:Ax s.own (id+1)=some e) (qA:e.obj= .abs A) (gU:AV args=0) (hY:YAt P l A args b A')
  (hn:∀a' w' loc',Rel B ⟨Ce s.slots o.dst (.bool b),upE s.own (id+1) n (.abs A')⟩ a' w' loc'->next a' w'):o.wpIn (wd B.ro) 0 P a w next Q:=by
 obtain⟨dst,op,type,pos,after,guard⟩:=o;simp only at ho;subst ho;obtain⟨cal,ars,ats⟩:=c;unfold iE at hc
 cases cal with
 | builtin _=>simp at hc
 | invoke _ _=>simp at hc
 | value f =>
  simp only at hc
  split at hc
  rotate_left
  ·simp at hc
  rename_i id0 r0 hf;simp only[aA0,aY0]at hc;obtain⟨rfl,rfl,rfl⟩:=hc;obtain⟨hmem0,gZ⟩:=Bf zG;obtain⟨qO,hid⟩:=Bf he;have qB:Aj s.own loc id0 r0=some (loc id0):=by unfold Aj;rw[zG];simp[wB]
  have hx:=yS f (by simp[Op.operands,Call.operands]);rw[hf]at hx;simp only[BJ,rd]at hx;have hv:=hx _ qB;have vT:=R.st.ok e0 hmem0;rw[hob0,gZ]at vT;have hl:(loc id0).hdr= .func (.yield l) #[] #[]:=vT.2;have hk:=R.st.ok e qO;rw[qA,hid]at hk
  have zK:AL (fun _ _=>none) (Ad s.own loc++B.M0) w.heap (ars.toList.map ed) (ars.toList.map a.eval):=by
   have key:∀l:List Operand,(∀x∈l,x∈ars.toList)->AL (cu s loc) (hm s loc B.M0) w.heap (l.map ed) (l.map a.eval):=by
    intro l
    induction l with
    | nil=>intro _;simp[AL]
    | cons x l ih =>
     intro hl;simp only[List.map_cons,AL];exact⟨_,_,rfl,yS x (by have:=hl x aF0;simp[Op.operands,Call.operands];simp at this;exact .inr this),ih fun y hy=>hl y (aE0 _ hy)⟩
   exact Bn (n:=0) ⟨fun _ _ _ h=>by omega,fun b o _ (_:IZ o=true) ho=>ho,fun b o hb (_:IZ o=true) _=>hb⟩ _ _ (dP0 gU) (key _ (fun _ h=>h))
  have hF:=hY (Ad s.own loc++B.M0) (loc (id0+1)).blks (loc (id0+1)).hdr w (ars.map a.eval) (by have:=EM R.st.bl e qO;rwa[hid]at this) (fun q hq=>aS0 _ (Bw qO (by rw[hid];exact hq))) R.st.lt hk (by simpa using zK);obtain⟨fn,tmps,assign,body,qR,hround⟩:=hF;refine⟨fun _ _=>trivial,?_⟩
  have hex:(execOp a.eval ⟨dst,.call { callee:= .value f,args:=ars,argTypes:=ats },type,pos,after,guard⟩).run P w= .ok (.round l fn tmps assign body) w:=by
   simp only[execOp,resolve,hv,hl,Deferred.ofValue,Sem.run_bind,Sem.run_pure,Result.andThen_ok,invoke];simpa using qR
  rw[Oper.semAt_eq _ _ _ (fun c' pL=>by simp at pL),hex,Oper.uponIn_round];refine⟨fun h=>by simp[wd]at h,(NE_ B.ro hround).mono ?_⟩;rintro e1 w' ⟨v,rfl,rfl,bl',hu,hnd,gL,hJ⟩
  have hL:∀b0,b0∈(⟨bl',(loc (id0+1)).hdr⟩:Loc).blks->b0<w'.heap.size/\((∃e∈s.own,e.id=id0+1/\b0∈(loc (id0+1)).blks)\/w.heap.size<=b0):=fun b0 wJ =>
   ⟨(gL b0 wJ).1,(gL b0 wJ).2.imp (fun h=>⟨e,qO,hid,h⟩) id⟩
  have zL:Upd (Ad s.own loc) w w':=⟨hu.os,hu.tape,hu.output,hu.drawn,hu.size,fun q hq hn'=>hu.blk q hq (fun h=>hn' (Bw qO (by rw[hid];exact h)))⟩;refine hn _ _ _ (R.up (id:=id0+1) (r:=n) (obj:= .abs A') (L:=⟨bl',(loc (id0+1)).hdr⟩) (v:= .bool b) (d:= .bool b) (dst:=dst) hr (fun j hj=>by subst hj;simpa[CX]using hd) zL (fun q hq qK=>hu.blk q hq (qK e qO hid)) hL (.inl (Nat.le_refl _)) (hJ _ ?_) (by simp[rd]) hnd)
  intro q hq
  rcases aI0.1 hq with hq | hq
  ·unfold upE at hq;rw[Fh,VQ]at hq
   rcases aI0.1 hq with hq | hq
   ·simp only[DM,if_true]at hq;exact .inl hq
   ·obtain⟨e2,zN,qK,qP⟩:=TY hq;refine .inr ⟨aS0 _ (Bw zN qP),fun cQ=> ?_⟩;have:=HP R.st.bl e2 zN e qO q qP (by rw[hid];exact cQ);subst this;exact qK hid
  ·exact .inr ⟨aV0 _ hq,fun cQ=>R.st.ap q (Bw qO (by rw[hid];exact cQ)) hq⟩
theorem BA_ {o:Oper} {r:Nat} {d:DVal} {own':List Ent} {ed:Operand->DVal} {next:Act->World->Prop} {Q:Exit->Act->World->Prop} (R:Rel B s a w loc) (hr:CL B s<=r) (hd:CX B.nt o.dst=true) (yS:∀x∈o.op.operands,BJ s loc B.M0 w (ed x) (a.eval x)) (bT:∀x∈o.op.operands,mx (ed x)<=Nv s.slots) (h:Tx P o ed s.own r d own')
  (hn:∀a' w' loc',Rel B ⟨Ce s.slots o.dst d,own'⟩ a' w' loc'->next a' w'):o.wpIn (wd B.ro) 0 P a w next Q:=by
 rcases h with ⟨x,hx,hp,rfl,rfl⟩ | ⟨c,g,args,vG,hc,hS⟩ | ⟨c,id,r',args,e0,l,e,A,A',b,vG,hc,zG,wB,hob0,he,qA,gU,hY,rfl,rfl⟩
 ·exact UP_ R hr hd yS bT hx hp hn
 ·exact QM_ R hr hd vG yS hc hS hn
 ·exact MN_ R hr hd vG yS hc zG wB hob0 he qA gU hY hn
end
def Re (a b:List Ent):Prop:=∀id e,Ax a id=some e->Ax b id=some e
section
variable {P : Program} {a b : List Ent} {e : Operand -> DVal}
theorem FC (h:Re a b) {id r:Nat} (hc:HC a id r=true):HC b id r=true:=by
 unfold HC at hc |-
 split at hc
 ·rename_i x hx;rw[h _ _ hx];exact hc
 ·simp at hc
theorem SX (h:Re a b) {p:DVal} {cs:List DVal} (hc:EQ a p=some cs):EQ b p=some cs:=by
 cases p<;>simp only[EQ]at hc |- <;>try exact hc
 ·split at hc
  ·rename_i x hx;rw[h _ _ hx];exact hc
  ·simp at hc
 ·split at hc
  ·rename_i x hx;rw[h _ _ hx];exact hc
  ·simp at hc
theorem Gx (h:Re a b) {p:DVal} {x:Nat×Nat×List (List DVal)} (hc:Bz a p=some x):Bz b p=some x:=by
 cases p<;>simp only[Bz]at hc |- <;>try exact hc
 ·split at hc
  ·rename_i y hy;rw[h _ _ hy];exact hc
  ·simp at hc
 ·split at hc
  ·rename_i y hy;rw[h _ _ hy];exact hc
  ·simp at hc
theorem NZ_ (h:Re a b) {d:DVal} (hc:Hs a d=true):Hs b d=true:=by
 cases d<;>simp only[Hs]at hc |- <;>try exact hc
 ·exact FC h hc
 ·exact FC h hc
 ·obtain⟨x,hx⟩:=bQ0.1 hc;rw[Gx h hx];rfl
 ·exact FC h hc
 ·exact FC h hc
 ·split at hc
  ·rename_i e he;rw[h _ e he];exact hc
  ·simp at hc
theorem OK (h:Re a b) {d:DVal} (hc:Dr a d=true):Dr b d=true:=by
 unfold Dr at hc |-;exact bA0.2 fun x hx=>NZ_ h (bA0.1 hc x hx)
theorem YX (h:Re a b) {p:DVal} {x:List DVal×List DVal} (hc:IB a p=some x):IB b p=some x:=by
 unfold IB at hc |-
 split at hc
 ·exact hc
 ·exact hc
 ·rename_i id r
  cases hf:Ax a id with
  | none=>rw[hf]at hc;simp at hc
  | some e=>rw[hf]at hc;simp only[h id e hf];exact hc
 ·simp at hc
theorem PS_ (h:Re a b) {bi:Builtin} {ds:List DVal} {ts:List TypeId} (hp:Yn P a bi ds ts):Yn P b bi ds ts/\Qw b bi ds=Qw a bi ds:=by
 unfold Yn at hp
 split at hp
 ·rename_i d t
  cases d<;>simp only[Yn,Qw]at hp |- <;>first
   | exact⟨hp,trivial⟩
   |(obtain⟨h1,h2⟩:=hp
     obtain⟨x,hx⟩:=bQ0.1 h1;rw[hx,Gx h hx]
     exact⟨⟨rfl,h2⟩,rfl⟩)
   |(obtain⟨h1,h2⟩:=hp
     split at h2
     ·rename_i hx;rw[YX h hx];exact⟨⟨h1,h2⟩,rfl⟩
     ·exact h2.elim)
 ·simp only[Yn,Qw];exact⟨hp,trivial⟩
 ·simp only[Yn,Qw];exact⟨hp,trivial⟩
 ·simp only[Yn,Qw];exact⟨hp,trivial⟩
 ·exact hp.elim
theorem Tz_ (h:Re a b) (op:Op) (hp:Hu P a e op):Hu P b e op/\Ck P b e op=Ck P a e op:=by
 cases op<;>simp only[Hu,Ck]at hp |- <;>first
  | exact⟨hp,trivial⟩
  | exact hp.elim
  | trivial
  | skip
 case fieldAddr t x f =>
  refine⟨?_,trivial⟩
  split at hp
  ·exact hp
  ·exact⟨hp.1,FC h hp.2⟩
  ·exact⟨hp.1,FC h hp.2⟩
  ·exact hp.elim
 case nilCheck x =>
  refine⟨?_,trivial⟩
  split at hp
  ·trivial
  ·exact FC h hp
  ·exact FC h hp
  ·trivial
  ·exact hp.elim
 case load t x =>
  split at hp
  ·rename_i h1 h2 h3;rw[h1,h2,SX h h3];exact⟨hp,rfl⟩
  ·rename_i h1 h3;rw[h1,SX h h3];exact⟨hp,rfl⟩
  ·exact hp.elim
 case indexAddr t x i =>
  split at hp
  ·rename_i ik n k bs k' bs' es h1 h2 h3;rw[h1,h2,Gx h h3];refine⟨hp,?_⟩;simp only;cases hx:e x<;>rw[hx]at h3<;>simp only[IF];rw[h3,Gx h h3]
  ·exact hp.elim
 case box t x=>exact⟨OK h hp,trivial⟩
 case slice t x l' h' m =>
  cases hx:e x<;>rw[hx]at hp<;>simp only at hp |- <;>first
   | exact⟨hp,trivial⟩
   | exact hp.elim
   | skip
  ·rename_i id r
   cases mB:Bz a (.osl id r)with
   | none=>rw[mB]at hp;exact hp.2.elim
   | some y=>rw[mB]at hp;rw[Gx h mB];exact⟨hp,rfl⟩
  ·obtain⟨h1,h2,h3⟩:=hp;obtain⟨y,hy⟩:=bQ0.1 h2;rw[Gx h hy];exact⟨⟨h1,rfl,h3⟩,trivial⟩
 case lookup t x i ok =>
  split at hp
  ·rename_i h1 h2;rw[h1,YX h h2];exact⟨hp,rfl⟩
  ·exact hp.elim
 case build t ps =>
  refine⟨?_,trivial⟩
  split at hp
  ·exact⟨hp.1,bA0.2 fun p hm=>OK h (bA0.1 hp.2.1 p hm),hp.2.2⟩
  ·exact hp.elim
 case buildSlice t n ps =>
  refine⟨?_,trivial⟩
  split at hp
  ·obtain⟨h1,h2,h3,h4,h5,h6,h7⟩:=hp;refine⟨h1,h2,h3,h4,h5,?_,h7⟩;refine bA0.2 fun p hm=> ?_
   have:=bA0.1 h6 p hm;rw[aM0]at this |-;exact⟨OK h this.1,this.2⟩
  ·exact hp.elim
 case call c =>
  obtain⟨cal,args,ts⟩:=c
  cases cal with
  | builtin bi=>exact PS_ h hp
  | value f=>exact hp.elim
  | invoke r m=>exact hp.elim
end
theorem In_ : ∀{l:List DVal} {d:DVal},d∈l->mx d<=AV l
 | x::l,d,h=>by
  simp only[AV]
  rcases aL0.1 h with rfl | h
  ·omega
  ·have:=In_ h;omega
theorem lB : ∀{l:List (List DVal)} {d:List DVal},d∈l->AV d<=BK l
 | x::l,d,h=>by
  simp only[BK]
  rcases aL0.1 h with rfl | h
  ·omega
  ·have:=lB h;omega
theorem lC {n:Nat}:∀{l:List DVal},(∀d∈l,mx d<=n)->AV l<=n
 | [],_=>by simp[AV]
 | x::l,h=>by
  simp only[AV];have:=h x aF0;have:=lC (l:=l) fun d hd=>h d (aE0 _ hd)
  omega
theorem Gf_ {n:Nat}:∀{l:List (List DVal)},(∀d∈l,AV d<=n)->BK l<=n
 | [],_=>by simp[BK]
 | x::l,h=>by
  simp only[BK];have:=h x aF0;have:=Gf_ (l:=l) fun d hd=>h d (aE0 _ hd)
  omega
theorem Ay_ (l:List DVal):mx (l.headD .any)<=AV l:=by
 cases l with
 | nil=>simp[mx,AV]
 | cons d l=>simp only[List.headD_cons,AV];omega
theorem Im_ (l:List DVal) (i:Nat):mx (l.getD i .any)<=AV l:=by
 rw[aZ0]
 cases h:l[i]? with
 | none=>simp[mx]
 | some d=>exact In_ (bI0 h)
theorem Ow_ (l:List (List DVal)) (i:Nat):AV (l.getD i [])<=BK l:=by
 rw[aZ0]
 cases h:l[i]? with
 | none=>simp[AV]
 | some d=>exact lB (bI0 h)
section
variable {P : Program} {own : List Ent} {e : Operand -> DVal} {n : Nat}
theorem WT {p:DVal} {cs:List DVal} (hc:EQ own p=some cs):AV cs<=max (mx p) (Jc own):=by
 unfold EQ at hc
 split at hc
 ·simp only[aA0]at hc;subst hc;simp only[mx];omega
 ·split at hc
  ·rename_i x hx
   split at hc
   ·split at hc
    ·rename_i cs0 qA;simp only[aA0]at hc;subst hc;have h1:=(BG (Bf hx).1).2;rw[qA]at h1;simp only[GC]at h1;exact Nat.le_trans (Iz _ _) (by omega)
    ·simp at hc
   ·simp at hc
  ·simp at hc
 ·split at hc
  ·rename_i x hx
   split at hc
   ·split at hc
    ·rename_i es qA
     split at hc
     ·rw[bH0]at hc;obtain⟨c0,h0,rfl⟩:=hc;have h1:=(BG (Bf hx).1).2;rw[qA]at h1;simp only[GC]at h1;have h2:=lB (bI0 h0);exact Nat.le_trans (Iz _ _) (by omega)
     ·simp at hc
    ·simp at hc
   ·simp at hc
  ·simp at hc
 ·simp at hc
theorem Bx_ {place:Nat->Option (Nat×Nat)}:∀(ps:List (Nat×DVal)) (z r:List DVal),LK place z ps=some r->AV z<=n->(∀p∈ps,mx p.2<=n)->AV r<=n
 | [],z,r,h,hz,_=>by simp only[LK,aA0]at h;subst h;exact hz
 | (i,d)::ps,z,r,h,hz,hp=>by
  simp only[LK]at h
  split at h
  ·simp at h
  ·split at h
   ·refine Bx_ ps _ r h ?_ fun p hm=>hp p (aE0 _ hm)
    have h2:=hp (i,d) aF0;refine Nat.le_trans (Nm z _ (AU d)) ?_;rw[DC];simp only at h2;omega
   ·simp at h
theorem Pn {t:TypeId} {z:List DVal} (h:tZero P t=some z):AV z=0:=by
 have h1:∀v,mx (CO v)=0:=by
  intro v;unfold CO
  split<;>(try split)<;>simp[mx]
 obtain⟨zv,_,rfl⟩:=JV (w:=default) h
 have:AV (zv.cells.toList.map CO)<=0:=lC fun d hd=>by
  obtain⟨v,_,rfl⟩:=aU0.1 hd;rw[h1];omega
 omega
theorem RF_ {op:BinOp} {t:TypeId} {x y d:DVal} (h:Jf P op t x y=some d):mx d=0:=by
 unfold Jf at h
 repeat' split at h
 all_goals first
  | (simp only[aA0]at h;subst h;rfl)
  | simp at h
theorem RQ_ {bi:Builtin} {ds:List DVal}:mx (Qw own bi ds)=0:=by
 unfold Qw
 repeat' split
 all_goals rfl
theorem Lj_ {d:DVal} {i:Int} (hn:Jc own<=n) (hd:mx d<=n):mx (IF own d i)<=n:=by
 unfold IF
 split
 ·rename_i k bs es;simp only[mx]at hd |-;exact Nat.le_trans (Ow_ _ _) hd
 ·split
  ·simpa[mx]using hd
  ·simp[mx]
 ·simpa[mx]using hd
 ·simp[mx]
theorem On_ {t:Bool} {x y:DVal} (hx:mx x<=n) (hy:mx y<=n):mx (Mq t x y)<=n:=by
 unfold Mq
 split<;>first
  | (simp[mx];done)
  | (split<;>assumption)
theorem OD_ {p:DVal} {ks vs:List DVal} (hc:IB own p=some (ks,vs)):AV vs<=max (mx p) (Jc own):=by
 unfold IB at hc
 split at hc
 ·simp only[aA0,aY0]at hc;obtain⟨rfl,rfl⟩:=hc;simp only[mx];omega
 ·simp only[aA0,aY0]at hc;obtain⟨rfl,rfl⟩:=hc;simp[AV]
 ·split at hc
  ·rename_i e he
   split at hc
   ·split at hc
    ·rename_i qA;simp only[aA0,aY0]at hc;obtain⟨rfl,rfl⟩:=hc;have:=(BG (Bf he).1).2;rw[qA]at this;simp only[GC]at this;omega
    ·simp at hc
   ·simp at hc
  ·simp at hc
 ·simp at hc
theorem SI_ (v:Value):mx (ofV v)=0:=by
 have h1:∀v,mx (CO v)=0:=by
  intro v;unfold CO
  split<;>(try split)<;>simp[mx]
 unfold ofV
 split
 ·rename_i cs;simp only[mx]
  generalize cs.toList=l
  induction l with
  | nil=>simp[AV]
  | cons v l ih=>simp[AV,h1,ih]
 ·exact h1 _
theorem Ks_ {t:TypeId} {z:DVal} (h:tZeroD P t=some z):mx z=0:=by
 unfold tZeroD at h
 split at h
 ·rw[bH0]at h;obtain⟨v,_,rfl⟩:=h;exact SI_ v
 ·simp at h
theorem Ty_ (hn:Jc own<=n) (op:Op) (h:∀x∈op.operands,mx (e x)<=n):mx (Ck P own e op)<=n:=by
 have any0:mx DVal.any<=n:=by simp[mx]
 have parts:∀(ps:Array (Nat×Operand)),(∀x∈(ps.toList.map (·.2)).toArray,mx (e x)<=n)->∀p∈ps.toList,mx (e p.2)<=n:=by
  intro ps h p hp;exact h p.2 (by simpa using ⟨p.1,by simpa using hp⟩)
 cases op<;>simp only[Op.operands]at h<;>simp only[Ck]<;>try exact any0
 case move x=>exact h x (by simp)
 case assign x=>exact h x (by simp)
 case nilCheck x=>exact h x (by simp)
 case pick c x y =>
  split
  ·exact On_ (h x (by simp)) (h y (by simp))
  ·exact any0
 case fieldAddr t x f =>
  have:=h x (by simp)
  split
  ·rename_i hx;rw[hx]at this;simp only[mx]at this |-;exact Nat.le_trans (Iz _ _) this
  ·rename_i hx;rw[hx]at this;simpa[mx]using this
  ·rename_i hx;rw[hx]at this;simpa[mx]using this
  ·exact any0
 case load t x =>
  have:=h x (by simp)
  split
  ·rename_i h3;have:=WT h3;simp only[mx];exact Nat.le_trans (PN _ _) (by omega)
  ·rename_i h3;have:=WT h3;exact Nat.le_trans (Ay_ _) (by omega)
  ·exact any0
 case indexAddr t x i =>
  split
  ·exact Lj_ hn (h x (by simp))
  ·exact any0
 case index t x i =>
  split
  ·simp[mx]
  ·exact any0
 case field t x f =>
  have:=h x (by simp)
  split
  ·rename_i hx;rw[hx]at this;simp only[mx]at this
   split
   ·simp only[mx];exact Nat.le_trans (PN _ _) (Nat.le_trans (Iz _ _) this)
   ·exact Nat.le_trans (Ay_ _) (Nat.le_trans (Iz _ _) this)
  ·exact any0
 case binOp op t x y yt =>
  cases hd:Jf P op t (e x) (e y)with
  | none=>exact any0
  | some d=>simp[RF_ hd]
 case unOp op t x =>
  split
  ·simp[mx]
  ·simp[mx]
  ·exact any0
 case convert src dst x =>
  have:=h x (by simp)
  split
  ·split
   ·simp[mx]
   ·exact any0
  ·exact this
 case extract x i =>
  have:=h x (by simp)
  split
  ·rename_i hx;rw[hx]at this;simp only[mx]at this;exact Nat.le_trans (Im_ _ _) this
  ·exact any0
 case makeFunc f us cs =>
  simp only[mx]
  have h1:AV (us.toList.map e)<=n:=lC fun d hd=>by
   obtain⟨x,hx,rfl⟩:=aU0.1 hd;exact h x (by simp;left;simpa using hx)
  have h2:AV (cs.toList.map e)<=n:=lC fun d hd=>by
   obtain⟨x,hx,rfl⟩:=aU0.1 hd;exact h x (by simp;right;simpa using hx)
  omega
 case makeInterface t x=>simp only[mx];exact h x (by simp)
 case slice t x l h' m =>
  have:=h x (by simp)
  split
  ·rename_i hx;rw[hx]at this;simp only[mx]at this |-;exact Nat.le_trans (Ix _ _) (Nat.le_trans (Iy _ _) this)
  ·simp[mx]
  ·rename_i hx;rw[hx]at this
   split
   ·simpa[mx]using this
   ·exact any0
  ·rename_i hx;rw[hx]at this;simpa[mx]using this
  ·simp[mx]
  ·exact any0
 case lookup t x i ok =>
  have hx:=h x (by simp)
  split
  ·rename_i kt et ks vs ht hc;have vN:=OD_ hc
   have key:mx (match AZ ks (e i)with | some j=>vs.getD j .any | none=>(tZeroD P et).getD .any)<=n:=by
    split
    ·exact Nat.le_trans (Im_ _ _) (by omega)
    ·cases hz:tZeroD P et with
     | none=>exact any0
     | some z=>simp[Ks_ hz]
   cases ok
   ·exact key
   ·exact eL0.2 ⟨key,by simp[mx,AV]⟩
  ·exact any0
 case box t x=>simp only[mx,DC];exact h x (by simp)
 case build t ps =>
  have hp:=parts ps h
  split
  ·rename_i z hz;simp only[mx]
   cases hf:LK (OH P t) z (ps.toList.map fun p=>(p.1,e p.2))with
   | none=>simp[AV]
   | some r =>
    refine Bx_ _ z r hf (by rw[Pn hz];omega) ?_;intro p hm;obtain⟨q,hq,rfl⟩:=aU0.1 hm;exact hp q hq
  ·exact any0
 case buildSlice t len ps =>
  have hp:=parts ps h
  split
  ·simp only[mx];refine Gf_ fun cs hm=> ?_
   obtain⟨q,hq,rfl⟩:=aU0.1 hm;rw[DC];exact hp q hq
  ·exact any0
 case call c =>
  split
  ·rw[RQ_];omega
  ·exact any0
theorem Aw_ {l:List (Nat×DVal)}:∀xs:List Operand,HA true (ev l) xs->∀x∈xs,mx (Bt l x)<=mx (ev l x)
 | [],_,x,hx=>by cases hx
 | y::ys,h,x,hx=>by
  simp only[HA]at h
  rcases aL0.1 hx with rfl | hx
  ·unfold Bt;cases hq:ev l x<;>simp only[LZ]<;>try exact Nat.le_refl _
   rw[hq]at h;simp only[okG]at h;simp[mx,h.1 trivial]
  ·exact Aw_ ys h.2 x hx
theorem YU {l:List (Nat×DVal)} {x:Operand} (h:okG true (ev l x)):mx (Bt l x)<=mx (ev l x):=by
 unfold Bt;cases hq:ev l x<;>simp only[LZ]<;>try exact Nat.le_refl _
 rw[hq]at h;simp only[okG]at h;simp[mx,h trivial]
theorem Ax_ (t:Bool) (x y:DVal):mx (Mq t x y)<=mx (if t then x else y):=by
 unfold Mq
 split<;>first
  | (simp[mx];done)
  | exact Nat.le_refl _
theorem QW_ {l:List (Nat×DVal)} {op:Op} (qL:Mu true (ev l) op) (hp:Hu P own (Bt l) op) (hn:Jc own<=n) (h:∀x∈op.operands,mx (ev l x)<=n):mx (Ck P own (Bt l) op)<=n:=by
 by_cases rP:∃x a b,op= .pick x a b
 ·obtain⟨x,a,b,rfl⟩:=rP;simp only[Mu]at qL;obtain⟨h1,h2⟩:=qL;simp only[Hu]at hp;cases hx:Bt l x<;>rw[hx]at hp<;>try exact hp.elim
  rename_i t;have h2:=h2 t hx;simp only[Ck,hx];refine Nat.le_trans (Ax_ _ _ _) ?_;cases t
  ·exact Nat.le_trans (YU (h2.2 rfl)) (h b (by simp[Op.operands]))
  ·exact Nat.le_trans (YU (h2.1 rfl)) (h a (by simp[Op.operands]))
 ·have kB:HA true (ev l) op.operands.toList:=by
   unfold Mu at qL
   split at qL
   ·exact absurd ⟨_,_,_,rfl⟩ rP
   ·exact qL
  exact Ty_ hn op fun x hx=>Nat.le_trans (Aw_ _ kB x (by simpa using hx)) (h x hx)
end
end Go.Dm
end
