/- Parts of a proof, laid together: EnFacts, EnR, EnQ, EnI3, EnI4, EnJ, EnK. -/
import Derived.Test.YtchgnpnbcjflcaaGreatChecked
import Derived.KernelRfl
import Derived.Laws.CopyRow
import Derived.Lib.AppendStr
import Derived.Carry
import Derived.Test.YtchgnpnbcjflcaaGreatqCt2
set_option linter.unusedSimpArgs false
set_option linter.unusedVariables false
set_option linter.unusedSectionVars false
section
set_option maxRecDepth 100000
namespace Go.Proofs
open Go
@[simp] theorem Tryz.dmf0 : (Dm.tAgg Tryz.prog 3=some false)∧(Dm.tCells Tryz.prog 3=some 1)∧(Dm.tBool Tryz.prog 3=false)∧(Dm.tSl Tryz.prog 3=false)∧(Dm.tPtr Tryz.prog 3=false)∧(Dm.tZero Tryz.prog 3=some [.int .i64 0])∧(Dm.tAgg Tryz.prog 4=some false)∧(Dm.tCells Tryz.prog 4=some 1)∧(Dm.tBool Tryz.prog 4=true)∧(Dm.tAgg Tryz.prog 9=some false)∧(Dm.tCells Tryz.prog 9=some 1)∧(Dm.tStr Tryz.prog 9=true)∧(Dm.tBool Tryz.prog 9=false)∧(Dm.tSl Tryz.prog 9=false)∧(Dm.tPtr Tryz.prog 9=false)∧(Dm.tAgg Tryz.prog 22=some false)∧(Dm.tCells Tryz.prog 22=some 1)∧(Dm.tElem Tryz.prog 22=some (2,40))∧(Dm.tPtr Tryz.prog 23=true)∧(Dm.tAgg Tryz.prog 24=some false):=by (repeat' apply And.intro)<;>kernel_rfl
@[simp] theorem Tryz.dmf1 : (Dm.tCells Tryz.prog 24=some 1)∧(Dm.tAgg Tryz.prog 27=some false)∧(Dm.tCells Tryz.prog 27=some 1)∧(Dm.tElem Tryz.prog 27=some (2,32))∧(Dm.tElemId Tryz.prog 27=some 92)∧(Dm.tElemZ Tryz.prog 27=true)∧(Dm.zeroOK Tryz.prog 27=true)∧(Dm.tZeroE Tryz.prog 27=some [.int .i64 0,.nilsl])∧(Dm.tAgg Tryz.prog 29=some true)∧(Dm.tCells Tryz.prog 29=some 2)∧(Dm.tZero Tryz.prog 29=some [.int .i64 0,.nilsl])∧(Dm.tField Tryz.prog 29 0=some (0,1,false))∧(Dm.tField Tryz.prog 29 1=some (1,1,false))∧(Dm.tParts Tryz.prog 29=true)∧(Dm.tAgg Tryz.prog 36=some false)∧(Dm.tCells Tryz.prog 36=some 1)∧(Dm.tElem Tryz.prog 36=some (1,8))∧(Dm.tSl Tryz.prog 36=true)∧(Dm.tElemId Tryz.prog 36=some 3)∧(Dm.tElemZ Tryz.prog 36=true):=by (repeat' apply And.intro)<;>kernel_rfl
@[simp] theorem Tryz.dmf2 : (Dm.zeroOK Tryz.prog 36=true)∧(Dm.tZeroE Tryz.prog 36=some [.int .i64 0])∧(Dm.tAgg Tryz.prog 37=some false)∧(Dm.tCells Tryz.prog 37=some 1)∧(Dm.tElem Tryz.prog 37=some (4,32))∧(Dm.tSl Tryz.prog 37=true)∧(Dm.tElemId Tryz.prog 37=some 97)∧(Dm.tElemZ Tryz.prog 37=true)∧(Dm.zeroOK Tryz.prog 37=true)∧(Dm.tZeroE Tryz.prog 37=some [.int .i64 0,.bool false,.int .i64 0,.int .i64 0])∧(Dm.tAgg Tryz.prog 38=some false)∧(Dm.tCells Tryz.prog 38=some 1)∧(Dm.tElem Tryz.prog 38=some (3,56))∧(Dm.tElemId Tryz.prog 38=some 80)∧(Dm.tElemZ Tryz.prog 38=true)∧(Dm.zeroOK Tryz.prog 38=true)∧(Dm.tAgg Tryz.prog 40=some true)∧(Dm.tCells Tryz.prog 40=some 6)∧(Dm.tZero Tryz.prog 40=some [.int .i64 0,.nilsl,.nilsl,.nilsl,.nilsl,.nilsl])∧(Dm.tField Tryz.prog 40 0=some (0,1,false)):=by (repeat' apply And.intro)<;>kernel_rfl
@[simp] theorem Tryz.dmf3 : (Dm.tField Tryz.prog 40 1=some (1,1,false))∧(Dm.tField Tryz.prog 40 2=some (2,1,false))∧(Dm.tField Tryz.prog 40 3=some (3,1,false))∧(Dm.tField Tryz.prog 40 4=some (4,1,false))∧(Dm.tField Tryz.prog 40 5=some (5,1,false))∧(Dm.tAgg Tryz.prog 42=some false)∧(Dm.tCells Tryz.prog 42=some 1)∧(Dm.tAgg Tryz.prog 46=some false)∧(Dm.tCells Tryz.prog 46=some 1)∧(Dm.tElem Tryz.prog 46=some (1,16))∧(Dm.tSl Tryz.prog 46=true)∧(Dm.tZero Tryz.prog 46=some [.nilsl])∧(Dm.tElemId Tryz.prog 46=some 9)∧(Dm.tElemZ Tryz.prog 46=true)∧(Dm.zeroOK Tryz.prog 46=true)∧(Dm.tZeroE Tryz.prog 46=some [.str ⟨#[]⟩])∧(Dm.tAgg Tryz.prog 47=some false)∧(Dm.tCells Tryz.prog 47=some 1)∧(Dm.tElem Tryz.prog 47=some (3,24))∧(Dm.tAgg Tryz.prog 56=some false):=by (repeat' apply And.intro)<;>kernel_rfl
@[simp] theorem Tryz.dmf4 : (Dm.tCells Tryz.prog 56=some 1)∧(Dm.tElem Tryz.prog 56=some (3,48))∧(Dm.tAgg Tryz.prog 58=some true)∧(Dm.tCells Tryz.prog 58=some 2)∧(Dm.tZero Tryz.prog 58=some [.nilsl,.nilsl])∧(Dm.tField Tryz.prog 58 0=some (0,1,false))∧(Dm.tField Tryz.prog 58 1=some (1,1,false))∧(Dm.tParts Tryz.prog 58=true)∧(Dm.tField Tryz.prog 60 0=some (0,1,false))∧(Dm.tField Tryz.prog 60 1=some (1,2,true))∧(Dm.tField Tryz.prog 60 2=some (3,1,false))∧(Dm.tField Tryz.prog 60 3=some (4,1,false))∧(Dm.tField Tryz.prog 60 4=some (5,1,false))∧(Dm.tField Tryz.prog 60 5=some (6,1,false))∧(Dm.tAgg Tryz.prog 66=some false)∧(Dm.tCells Tryz.prog 66=some 1)∧(Dm.tPtr Tryz.prog 66=true)∧(Dm.tAgg Tryz.prog 75=some false)∧(Dm.tCells Tryz.prog 75=some 1)∧(Dm.tElem Tryz.prog 75=some (4,64)):=by (repeat' apply And.intro)<;>kernel_rfl
@[simp] theorem Tryz.dmf5 : (Dm.tElemId Tryz.prog 75=some 86)∧(Dm.tElemZ Tryz.prog 75=true)∧(Dm.zeroOK Tryz.prog 75=true)∧(Dm.tZero Tryz.prog 77=some [.nilp,.nilsl,.int .i64 0])∧(Dm.tField Tryz.prog 77 0=some (0,1,false))∧(Dm.tField Tryz.prog 77 1=some (1,1,false))∧(Dm.tField Tryz.prog 77 2=some (2,1,false))∧(Dm.tParts Tryz.prog 77=true)∧(Dm.tAgg Tryz.prog 80=some true)∧(Dm.tCells Tryz.prog 80=some 3)∧(Dm.tZero Tryz.prog 80=some [.int .i64 0,.nilsl,.nilsl])∧(Dm.tField Tryz.prog 80 0=some (0,1,false))∧(Dm.tField Tryz.prog 80 1=some (1,1,false))∧(Dm.tField Tryz.prog 80 2=some (2,1,false))∧(Dm.tParts Tryz.prog 80=true)∧(Dm.tElem Tryz.prog 83=some (1,24))∧(Dm.tElemId Tryz.prog 83=some 153)∧(Dm.tElemZ Tryz.prog 83=true)∧(Dm.zeroOK Tryz.prog 83=true)∧(Dm.tAgg Tryz.prog 86=some true):=by (repeat' apply And.intro)<;>kernel_rfl
@[simp] theorem Tryz.dmf6 : (Dm.tCells Tryz.prog 86=some 4)∧(Dm.tZero Tryz.prog 86=some [.int .i64 0,.nilsl,.nilsl,.int .i64 0])∧(Dm.tField Tryz.prog 86 0=some (0,3,true))∧(Dm.tField Tryz.prog 86 1=some (3,1,false))∧(Dm.tParts Tryz.prog 86=true)∧(Dm.tAgg Tryz.prog 90=some false)∧(Dm.tCells Tryz.prog 90=some 1)∧(Dm.tElem Tryz.prog 90=some (2,16))∧(Dm.tSl Tryz.prog 90=true)∧(Dm.tElemId Tryz.prog 90=some 95)∧(Dm.tElemZ Tryz.prog 90=true)∧(Dm.zeroOK Tryz.prog 90=true)∧(Dm.tAgg Tryz.prog 92=some true)∧(Dm.tCells Tryz.prog 92=some 2)∧(Dm.tZero Tryz.prog 92=some [.int .i64 0,.nilsl])∧(Dm.tField Tryz.prog 92 0=some (0,1,false))∧(Dm.tField Tryz.prog 92 1=some (1,1,false))∧(Dm.tParts Tryz.prog 92=true)∧(Dm.tAgg Tryz.prog 95=some true)∧(Dm.tCells Tryz.prog 95=some 2):=by (repeat' apply And.intro)<;>kernel_rfl
@[simp] theorem Tryz.dmf7 : (Dm.tZero Tryz.prog 95=some [.bool false,.int .i64 0])∧(Dm.tField Tryz.prog 95 0=some (0,1,false))∧(Dm.tField Tryz.prog 95 1=some (1,1,false))∧(Dm.flat Tryz.prog 10000 95=some [.b,.i .i64])∧(Dm.tParts Tryz.prog 95=true)∧(Dm.tAgg Tryz.prog 97=some true)∧(Dm.tCells Tryz.prog 97=some 4)∧(Dm.tZero Tryz.prog 97=some [.int .i64 0,.bool false,.int .i64 0,.int .i64 0])∧(Dm.tField Tryz.prog 97 0=some (0,1,false))∧(Dm.tField Tryz.prog 97 1=some (1,2,true))∧(Dm.tField Tryz.prog 97 2=some (3,1,false))∧(Dm.flat Tryz.prog 10000 97=some [.i .i64,.b,.i .i64,.i .i64])∧(Dm.tParts Tryz.prog 97=true)∧(Dm.tAgg Tryz.prog 112=some false)∧(Dm.tCells Tryz.prog 112=some 1)∧(Dm.tAgg Tryz.prog 129=some true)∧(Dm.tCells Tryz.prog 129=some 3)∧(Dm.tZero Tryz.prog 129=some [.str ⟨#[]⟩,.str ⟨#[]⟩,.str ⟨#[]⟩])∧(Dm.tField Tryz.prog 129 0=some (0,1,false))∧(Dm.tField Tryz.prog 129 1=some (1,1,false)):=by (repeat' apply And.intro)<;>kernel_rfl
@[simp] theorem Tryz.dmf8 : (Dm.tField Tryz.prog 129 2=some (2,1,false))∧(Dm.flat Tryz.prog 10000 129=some [.s,.s,.s])∧(Dm.tAgg Tryz.prog 130=some false)∧(Dm.tCells Tryz.prog 130=some 1)∧(Dm.tMp Tryz.prog 130=true)∧(Dm.tMap Tryz.prog 130=some (134,3))∧(Dm.tZeroD Tryz.prog 3=some (.int .i64 0))∧(Dm.tZero Tryz.prog 132=some [.nilsl,.nilsl,.nilmp])∧(Dm.tField Tryz.prog 132 0=some (0,1,false))∧(Dm.tField Tryz.prog 132 1=some (1,1,false))∧(Dm.tField Tryz.prog 132 2=some (2,1,false))∧(Dm.tParts Tryz.prog 132=true)∧(Dm.tAgg Tryz.prog 134=some true)∧(Dm.tCells Tryz.prog 134=some 2)∧(Dm.tZero Tryz.prog 134=some [.bool false,.str ⟨#[]⟩])∧(Dm.tField Tryz.prog 134 0=some (0,1,false))∧(Dm.tField Tryz.prog 134 1=some (1,1,false))∧(Dm.flat Tryz.prog 10000 134=some [.b,.s])∧(Dm.tParts Tryz.prog 134=true)∧(Dm.tAgg Tryz.prog 140=some true):=by (repeat' apply And.intro)<;>kernel_rfl
@[simp] theorem Tryz.dmf9 : (Dm.tCells Tryz.prog 140=some 3)∧(Dm.tZero Tryz.prog 140=some [.int .i64 0,.int .i64 0,.int .i64 0])∧(Dm.tField Tryz.prog 140 0=some (0,1,false))∧(Dm.tField Tryz.prog 140 1=some (1,1,false))∧(Dm.tField Tryz.prog 140 2=some (2,1,false))∧(Dm.flat Tryz.prog 10000 140=some [.i .i64,.i .i64,.i .i64])∧(Dm.tParts Tryz.prog 140=true)∧(Dm.tAgg Tryz.prog 149=some false)∧(Dm.tCells Tryz.prog 149=some 1)∧(Dm.tElem Tryz.prog 149=some (3,24))∧(Dm.tElemId Tryz.prog 149=some 140)∧(Dm.tElemZ Tryz.prog 149=true)∧(Dm.zeroOK Tryz.prog 149=true)∧(Dm.tAgg Tryz.prog 151=some true)∧(Dm.tCells Tryz.prog 151=some 3)∧(Dm.tZero Tryz.prog 151=some [.int .i64 0,.int .i64 0,.int .i64 0])∧(Dm.tField Tryz.prog 151 0=some (0,1,false))∧(Dm.tField Tryz.prog 151 1=some (1,1,false))∧(Dm.tField Tryz.prog 151 2=some (2,1,false))∧(Dm.tAgg Tryz.prog 153=some false):=by (repeat' apply And.intro)<;>kernel_rfl
@[simp] theorem Tryz.dmf10 : (Dm.tCells Tryz.prog 153=some 1)∧(Dm.tElem Tryz.prog 153=some (3,32))∧(Dm.tSl Tryz.prog 153=true)∧(Dm.tElemId Tryz.prog 153=some 157)∧(Dm.tElemZ Tryz.prog 153=true)∧(Dm.zeroOK Tryz.prog 153=true)∧(Dm.tAgg Tryz.prog 155=some false)∧(Dm.tCells Tryz.prog 155=some 1)∧(Dm.tAgg Tryz.prog 157=some true)∧(Dm.tCells Tryz.prog 157=some 3)∧(Dm.tZero Tryz.prog 157=some [.int .i64 0,.str ⟨#[]⟩,.int .i64 0])∧(Dm.tField Tryz.prog 157 0=some (0,1,false))∧(Dm.tField Tryz.prog 157 1=some (1,1,false))∧(Dm.tField Tryz.prog 157 2=some (2,1,false))∧(Dm.tParts Tryz.prog 157=true)∧(Dm.tZero Tryz.prog 163=some [.nilsl,.nilsl])∧(Dm.tField Tryz.prog 163 0=some (0,1,false))∧(Dm.tField Tryz.prog 163 1=some (1,1,false))∧(Dm.tParts Tryz.prog 163=true)∧(Dm.tAgg Tryz.prog 165=some true):=by (repeat' apply And.intro)<;>kernel_rfl
@[simp] theorem Tryz.dmf11 : (Dm.tCells Tryz.prog 165=some 3)∧(Dm.tZero Tryz.prog 165=some [.bool false,.nilsl,.nilsl])∧(Dm.tField Tryz.prog 165 0=some (0,1,false))∧(Dm.tField Tryz.prog 165 1=some (1,1,false))∧(Dm.tField Tryz.prog 165 2=some (2,1,false))∧(Dm.tParts Tryz.prog 165=true)∧(Dm.tAgg Tryz.prog 176=some true)∧(Dm.tCells Tryz.prog 176=some 2)∧(Dm.tZero Tryz.prog 176=some [.str ⟨#[]⟩,.nilsl])∧(Dm.tField Tryz.prog 176 0=some (0,1,false))∧(Dm.tField Tryz.prog 176 1=some (1,1,false))∧(Dm.tAgg Tryz.prog 190=some false)∧(Dm.tCells Tryz.prog 190=some 1)∧(Dm.tZero Tryz.prog 190=some [.nilfn])∧(Dm.tAgg Tryz.prog 205=some false)∧(Dm.tCells Tryz.prog 205=some 1)∧(Dm.tMap Tryz.prog 205=some (3,3))∧(Dm.flat Tryz.prog 10000 3=some [.i .i64])∧(Dm.tZero Tryz.prog 207=some [.int .i64 0,.nilsl,.nilmp,.int .i64 0])∧(Dm.tField Tryz.prog 207 0=some (0,2,true)):=by (repeat' apply And.intro)<;>kernel_rfl
@[simp] theorem Tryz.dmf12 : (Dm.tField Tryz.prog 207 1=some (2,1,false))∧(Dm.tField Tryz.prog 207 2=some (3,1,false))∧(Dm.tParts Tryz.prog 207=true)∧(Dm.tAgg Tryz.prog 211=some true)∧(Dm.tCells Tryz.prog 211=some 4)∧(Dm.tZero Tryz.prog 211=some [.int .i64 0,.nilsl,.nilsl,.int .i64 0])∧(Dm.tField Tryz.prog 211 0=some (0,1,false))∧(Dm.tField Tryz.prog 211 1=some (1,1,false))∧(Dm.tField Tryz.prog 211 2=some (2,1,false))∧(Dm.tField Tryz.prog 211 3=some (3,1,false))∧(Dm.tParts Tryz.prog 211=true)∧(Dm.tElem Tryz.prog 218=some (1,8))∧(Dm.tElemZ Tryz.prog 218=true)∧(Dm.tElem Tryz.prog 224=some (1,24))∧(Dm.tElem Tryz.prog 228=some (2,16))∧(Dm.tElemZ Tryz.prog 228=true)∧(Dm.tAgg Tryz.prog 231=some true)∧(Dm.tCells Tryz.prog 231=some 2)∧(Dm.tZero Tryz.prog 231=some [.nilfn,.int .i64 0])∧(Dm.tField Tryz.prog 231 0=some (0,1,false)):=by (repeat' apply And.intro)<;>kernel_rfl
@[simp] theorem Tryz.dmf13 : (Dm.tField Tryz.prog 231 1=some (1,1,false))∧(Dm.tParts Tryz.prog 231=true)∧(Dm.tMap Tryz.prog 241=some (9,3))∧(Dm.flat Tryz.prog 10000 9=some [.s])∧(Dm.tAgg Tryz.prog 244=some false)∧(Dm.tCells Tryz.prog 244=some 1)∧(Dm.tMap Tryz.prog 244=some (140,3))∧(Dm.tZero Tryz.prog 246=some [.int .i64 0,.nilsl,.nilsl,.nilmp,.nilsl])∧(Dm.tField Tryz.prog 246 0=some (0,2,true))∧(Dm.tField Tryz.prog 246 1=some (2,1,false))∧(Dm.tField Tryz.prog 246 2=some (3,1,false))∧(Dm.tField Tryz.prog 246 3=some (4,1,false))∧(Dm.tParts Tryz.prog 246=true)∧(Dm.tElem Tryz.prog 284=some (1,1))∧(Dm.tElemId Tryz.prog 284=some 4)∧(Dm.tZeroE Tryz.prog 284=some [.bool false])∧(Dm.tAgg Tryz.prog 287=some false)∧(Dm.tCells Tryz.prog 287=some 1)∧(Dm.tElem Tryz.prog 304=some (1,24))∧(Dm.tElemZ Tryz.prog 304=true):=by (repeat' apply And.intro)<;>kernel_rfl
@[simp] theorem Tryz.dmf14 : (Dm.tAgg Tryz.prog 336=some false)∧(Dm.tCells Tryz.prog 336=some 1)∧(Dm.tElem Tryz.prog 336=some (1,1))∧(Dm.tElemId Tryz.prog 336=some 5)∧(Dm.zeroOK Tryz.prog 336=true)∧(Dm.tZero Tryz.prog 338=some [.nilp,.nilsl])∧(Dm.tField Tryz.prog 338 1=some (1,1,false)):=by (repeat' apply And.intro)<;>kernel_rfl
end Go.Proofs
end
section
namespace Go.Dm
variable [DMode]
def renR (φ:Nat→Nat→Option (Nat×Nat)):DVal→DVal
 | .osl i r=>match φ i r with | some p=> .osl p.1 p.2 | none=> .any
 | .vw i r k bs a n=>match φ i r with | some p=> .vw p.1 p.2 k bs a n | none=> .any
 | .bx i r off=>match φ i r with | some p=> .bx p.1 p.2 off | none=> .any
 | .rx i r k a b=>match φ i r with | some p=> .rx p.1 p.2 k a b | none=> .any
 | .omp i r=>match φ i r with | some p=> .omp p.1 p.2 | none=> .any
 | .pk i r=>match φ i r with | some p=> .pk p.1 p.2 | none=> .any
 | d=>d
def okR : DVal→Prop
 | .osl _ _ | .vw _ _ _ _ _ _ | .bx _ _ _ | .rx _ _ _ _ _ | .omp _ _ | .pk _ _=>True
 | d=>mx d=0
def okRs : List DVal→Prop
 | []=>True
 | d::ds=>okR d∧okRs ds
def ren2 (φ:Nat→Nat→Option (Nat×Nat)):DVal→DVal
 | .fn f us cs=> .fn f (us.map (renR φ)) (cs.map (renR φ))
 | d=>renR φ d
def ok2 : DVal→Prop
 | .fn _ us cs=>okRs us∧okRs cs
 | d=>okR d
def ok2s : List DVal→Prop
 | []=>True
 | d::ds=>ok2 d∧ok2s ds
def ren3 (φ:Nat→Nat→Option (Nat×Nat)):DVal→DVal
 | .agg cs=> .agg (cs.map (ren2 φ))
 | d=>ren2 φ d
def ok3 : DVal→Prop
 | .agg cs=>ok2s cs
 | d=>ok2 d
def ok3s : List DVal→Prop
 | []=>True
 | d::ds=>ok3 d∧ok3s ds
def renD (φ:Nat→Nat→Option (Nat×Nat)):DVal→DVal
 | .tup cs=> .tup (cs.map (ren3 φ))
 | d=>ren3 φ d
def okD : DVal→Prop
 | .tup cs=>ok3s cs
 | d=>ok3 d
def ok2r : List (List DVal)→Prop
 | []=>True
 | cs::es=>ok2s cs∧ok2r es
def LA_ (φ:Nat→Nat→Option (Nat×Nat)):List (List DVal)→List (List DVal)
 | []=>[]
 | cs::es=>cs.map (ren2 φ)::LA_ φ es
def renO (φ:Nat→Nat→Option (Nat×Nat)):DObj→DObj
 | .box cs=> .box (cs.map (ren2 φ))
 | .row et k bs es=>if mxR es=0 then .row et k bs es else .row et k bs (LA_ φ es)
 | o=>o
def okO : DObj→Prop
 | .box cs=>ok2s cs
 | .row _ _ _ es=>mxR es=0∨ok2r es
 | .map ks vs=>mxL ks=0∧mxL vs=0
 | .abs _=>True
section
variable {cur cur' : Cur} {M M' : List Nat} {h h' : Array Obj} {φ : Nat → Nat → Option (Nat × Nat)}
def Id_ (cur cur':Cur) (φ:Nat→Nat→Option (Nat×Nat)):Prop:=∀i r p l,φ i r=some p→cur' p.1 p.2=some l→cur i r=some l
theorem rd_renR (W:Weak cur cur' M M' h h' 0) (L:Id_ cur cur' φ) {d:DVal} {v:Value} (hk:okR d) (hr:rd cur M h d v):rd cur' M' h' (renR φ d) v:=by
 cases d with
 | osl i r =>
  simp only[renR]
  split
  ·rename_i p hp;simp only[rd]at hr ⊢;exact fun l hl=>hr l (L i r p l hp hl)
  ·simp[rd]
 | bx i r off =>
  simp only[renR]
  split
  ·rename_i p hp;simp only[rd]at hr ⊢;exact fun l hl=>hr l (L i r p l hp hl)
  ·simp[rd]
 | vw i r k bs x n =>
  simp only[renR]
  split
  ·rename_i p hp;simp only[rd]at hr ⊢;exact fun l hl=>hr l (L i r p l hp hl)
  ·simp[rd]
 | rx i r k a b =>
  simp only[renR]
  split
  ·rename_i p hp;simp only[rd]at hr ⊢;exact fun l hl=>hr l (L i r p l hp hl)
  ·simp[rd]
 | omp i r =>
  simp only[renR]
  split
  ·rename_i p hp;simp only[rd]at hr ⊢;exact fun l hl=>hr l (L i r p l hp hl)
  ·simp[rd]
 | pk i r =>
  simp only[renR]
  split
  ·rename_i p hp;simp only[rd]at hr ⊢;exact fun l hl=>hr l (L i r p l hp hl)
  ·simp[rd]
 | _=>simp only[okR]at hk;simp only[renR];exact BR_ W _ v (dJ0 hk) hr
theorem OK_ (W:Weak cur cur' M M' h h' 0) (L:Id_ cur cur' φ):∀{ds:List DVal} {vs:List Value},okRs ds→rdV cur M h ds vs→rdV cur' M' h' (ds.map (renR φ)) vs
 | [],vs,_,hr=>by simpa[rdV]using hr
 | d::ds,vs,hk,hr=>by
  simp only[okRs]at hk;simp only[rdV,List.map_cons]at hr ⊢;obtain⟨v,r,rfl,h1,h2⟩:=hr;exact⟨v,r,rfl,rd_renR W L hk.1 h1,OK_ W L hk.2 h2⟩
theorem Tu_ (W:Weak cur cur' M M' h h' 0) (L:Id_ cur cur' φ) {d:DVal} {v:Value} (hk:ok2 d) (hr:rd cur M h d v):rd cur' M' h' (ren2 φ d) v:=by
 cases d with
 | fn f us cs =>
  simp only[ok2]at hk;simp only[ren2,rd]at hr ⊢;obtain⟨us',cs',h1,h2,h3⟩:=hr;exact⟨us',cs',h1,OK_ W L hk.1 h2,OK_ W L hk.2 h3⟩
 | _=>exact rd_renR W L (by simpa only[ok2]using hk) hr
theorem UZ_ (W:Weak cur cur' M M' h h' 0) (L:Id_ cur cur' φ):∀{ds:List DVal} {vs:List Value},ok2s ds→rdV cur M h ds vs→rdV cur' M' h' (ds.map (ren2 φ)) vs
 | [],vs,_,hr=>by simpa[rdV]using hr
 | d::ds,vs,hk,hr=>by
  simp only[ok2s]at hk;simp only[rdV,List.map_cons]at hr ⊢;obtain⟨v,r,rfl,h1,h2⟩:=hr;exact⟨v,r,rfl,Tu_ W L hk.1 h1,UZ_ W L hk.2 h2⟩
theorem OL_ (W:Weak cur cur' M M' h h' 0) (L:Id_ cur cur' φ):∀{ds:List DVal} {arr:Array Value} {o:Nat},ok2s ds→rdC cur M h ds arr o→rdC cur' M' h' (ds.map (ren2 φ)) arr o
 | [],_,_,_,_=>by simp[rdC]
 | d::ds,arr,o,hk,hr=>by
  simp only[ok2s]at hk;simp only[rdC,List.map_cons]at hr ⊢;obtain⟨⟨v,h1,h2,h3⟩,h4⟩:=hr;exact⟨⟨v,h1,h2,Tu_ W L hk.1 h3⟩,OL_ W L hk.2 h4⟩
theorem rd_ren3 (W:Weak cur cur' M M' h h' 0) (L:Id_ cur cur' φ) {d:DVal} {v:Value} (hk:ok3 d) (hr:rd cur M h d v):rd cur' M' h' (ren3 φ d) v:=by
 cases d with
 | agg cs =>
  simp only[ok3]at hk;simp only[ren3,rd]at hr ⊢;obtain⟨us,h1,h2⟩:=hr;exact⟨us,h1,UZ_ W L hk h2⟩
 | _=>exact Tu_ W L (by simpa only[ok3]using hk) hr
theorem UY_ (W:Weak cur cur' M M' h h' 0) (L:Id_ cur cur' φ):∀{ds:List DVal} {vs:List Value},ok3s ds→rdV cur M h ds vs→rdV cur' M' h' (ds.map (ren3 φ)) vs
 | [],vs,_,hr=>by simpa[rdV]using hr
 | d::ds,vs,hk,hr=>by
  simp only[ok3s]at hk;simp only[rdV,List.map_cons]at hr ⊢;obtain⟨v,r,rfl,h1,h2⟩:=hr;exact⟨v,r,rfl,rd_ren3 W L hk.1 h1,UY_ W L hk.2 h2⟩
theorem OI_ (W:Weak cur cur' M M' h h' 0) (L:Id_ cur cur' φ) {d:DVal} {v:Value} (hk:okD d) (hr:rd cur M h d v):rd cur' M' h' (renD φ d) v:=by
 cases d with
 | tup cs =>
  simp only[okD]at hk;simp only[renD,rd]at hr ⊢;obtain⟨us,h1,h2⟩:=hr;exact⟨us,h1,UY_ W L hk h2⟩
 | _=>exact rd_ren3 W L (by simpa only[okD]using hk) hr
theorem Vb_ (W:Weak cur cur' M M' h h' 0) (L:Id_ cur cur' φ) {k:Nat}:∀{es:List (List DVal)} {arr:Array Value} {o:Nat},ok2r es→rdR cur M h k es arr o→rdR cur' M' h' k (LA_ φ es) arr o
 | [],_,_,_,_=>by simp[LA_,rdR]
 | cs::es,arr,o,hk,hr=>by
  simp only[ok2r]at hk;simp only[rdR,LA_]at hr ⊢;exact⟨by simpa using hr.1,OL_ W L hk.1 hr.2.1,Vb_ W L hk.2 hr.2.2⟩
theorem Lz_ (φ:Nat→Nat→Option (Nat×Nat)) (es:List (List DVal)):(LA_ φ es).length=es.length:=by
 induction es with
 | nil=>rfl
 | cons c l ih=>simp[LA_,ih]
theorem Jh_ (W:Weak cur cur' M M' h h' 0) (L:Id_ cur cur' φ) {l l':Loc} {obj:DObj} (hk:okO obj) (hl:l'=l)
  (keep:∀b o,b∈l.blks→h[b]? =some o→h'[b]? =some o) (ho:MO_ cur M h l obj):MO_ cur' M' h' l' (renO φ obj):=by
 subst hl
 cases obj with
 | box cs =>
  simp only[okO]at hk;obtain⟨b,arr,ty,h1,h2,h3,h4⟩:=ho;exact⟨b,arr,ty,h1,keep b _ (by simp[h1]) h2,by simp[h3],OL_ W L hk h4⟩
 | row et k bs es =>
  simp only[renO]
  split
  ·rename_i h0;exact AN_ W (by simp[mxO,h0]) keep ho
  ·rename_i h0;simp only[okO]at hk;have hk:=hk.resolve_left h0;obtain⟨hb,ho⟩:=ho;refine⟨by rw[Lz_];exact hb,?_⟩
   rcases ho with ⟨rfl,h1,h2⟩ | ⟨b,arr,cap,h1,h2,h3,h4,h5,h6,h7⟩
   ·exact .inl ⟨rfl,h1,h2⟩
   ·exact .inr ⟨b,arr,cap,h1,by rw[Lz_];exact h2,keep b _ (by simp[h1]) h3,by rw[Lz_];exact h4,h5,h6,Vb_ W L hk h7⟩
 | map ks vs=>exact AN_ W (by simp only[okO]at hk;simp[renO,mxO,hk]) keep ho
 | abs A=>exact AN_ W (by simp[renO,mxO]) keep ho
end
def FEnters (P:Program):Fn→Prop
 | .func g=>Ci_ P g
 | _=>True
def AM_ (P:Program) (f:Fn) (args:List DVal) (own:List Ent) (d:DVal) (own':List Ent):Prop :=
 (∀e∈own',e.r≤1)∧FEnters P f∧∀(M:List Nat) (w:World) (loc:Nat→Loc) (vs:Array Value),St own loc M w.heap→rdV (Ai_ own loc) (Ab_ own loc++M) w.heap args vs.toList →
  HD_ P f vs w fun v w'=>∃loc',St own' loc' M w'.heap∧Upd (Ab_ own loc) w w'∧(∀b∈Ab_ own' loc',b∈Ab_ own loc∨w.heap.size≤b) ∧
   (∀e∈own',e.r<1→Ai_ own loc e.id e.r=some (loc' e.id))∧rd (Ai_ own' loc') (Ab_ own' loc'++M) w'.heap d v
def BX_ (own:List Ent):List (Nat×Nat×Nat)→Nat→Nat→Option (Nat×Nat)
 | [],_,_=>none
 | (i,j,v)::ρ,i',r'=>if i'=i then (match At_ own i with | some e=>if r'=e.r then some (j,v)else none | none=>none)else BX_ own ρ i' r'
def outE (own:List Ent) (φ:Nat→Nat→Option (Nat×Nat)):List (Nat×Nat×Nat)→Option (List Ent)
 | []=>some []
 | (i,j,v)::ρ=>match At_ own i,outE own φ ρ with
  | some e,some l=>some (⟨j,v,renO φ e.obj⟩::l)
  | _,_=>none
def OS_ (own:List Ent):List (Nat×Nat×Nat)→Prop
 | []=>True
 | (i,j,v)::ρ=>(match At_ own i with | some e=>okO e.obj∧(v=1∨(v=0∧i=j∧e.r=0)) | none=>False)∧OS_ own ρ
section
variable {own : List Ent}
theorem GG_ : ∀{ρ:List (Nat×Nat×Nat)} {i r:Nat} {p:Nat×Nat},BX_ own ρ i r=some p→∃e,(i,p.1,p.2)∈ρ∧At_ own i=some e∧e.r=r
 | [],i,r,p,h=>by simp[BX_]at h
 | (i0,j,v)::ρ,i,r,p,h=>by
  simp only[BX_]at h
  split at h
  ·rename_i hi;subst hi
   split at h
   ·rename_i e he
    split at h
    ·rename_i hr;simp only[aA0]at h;subst h;exact⟨e,aF0,he,hr.symm⟩
    ·simp at h
   ·simp at h
  ·obtain⟨e,h1,h2,h3⟩:=GG_ h;exact⟨e,aD0 _ h1,h2,h3⟩
theorem Ky_ {φ:Nat→Nat→Option (Nat×Nat)}:∀{ρ:List (Nat×Nat×Nat)} {l:List Ent},outE own φ ρ=some l→(∀x∈l,∃i j v e,(i,j,v)∈ρ∧At_ own i=some e∧x=⟨j,v,renO φ e.obj⟩)∧l.map (·.id)=ρ.map (·.2.1)
 | [],l,h=>by simp only[outE,aA0]at h;subst h;simp
 | (i,j,v)::ρ,l,h=>by
  simp only[outE]at h
  split at h
  ·rename_i e l' he hl';simp only[aA0]at h;subst h;obtain⟨h1,h2⟩:=Ky_ hl';refine⟨fun x hx=> ?_,by simp[h2]⟩
   rcases aK0.1 hx with rfl | hx
   ·exact⟨i,j,v,e,aF0,he,rfl⟩
   ·obtain⟨i',j',v',e',g1,g2,g3⟩:=h1 x hx;exact⟨i',j',v',e',aD0 _ g1,g2,g3⟩
  ·simp at h
theorem IB_ : ∀{ρ:List (Nat×Nat×Nat)},OS_ own ρ→∀i j v,(i,j,v)∈ρ→∃e,At_ own i=some e∧okO e.obj∧(v=1∨(v=0∧i=j∧e.r=0))
 | [],_,i,j,v,hm=>by cases hm
 | (i0,j0,v0)::ρ,h,i,j,v,hm=>by
  simp only[OS_]at h
  rcases aK0.1 hm with heq | hm
  ·simp only[aW0]at heq;obtain⟨rfl,rfl,rfl⟩:=heq;have h1:=h.1
   split at h1
   ·rename_i e he;exact⟨e,he,h1⟩
   ·exact h1.elim
  ·exact IB_ h.2 i j v hm
end
def YA_ (P:Program) (f:Fn) (args:List DVal) (own:List Ent) (r:Nat) (d:DVal) (own':List Ent):Prop :=
 FEnters P f∧(own'.map (·.id)).Nodup∧(mxE own≤r→mx d≤r+1∧mxE own'≤r+1) ∧
 ∀(M:List Nat) (w:World) (loc:Nat→Loc) (vs:Array Value),mxE own≤r→St own loc M w.heap→rdV (Ai_ own loc) (Ab_ own loc++M) w.heap args vs.toList →
  HD_ P f vs w fun v w'=>∃loc',St own' loc' M w'.heap∧Upd (Ab_ own loc) w w'∧(∀b∈Ab_ own' loc',b∈Ab_ own loc∨w.heap.size≤b) ∧
   (∀e∈own',e.r<r→Ai_ own loc e.id e.r=some (loc' e.id))∧rd (Ai_ own' loc') (Ab_ own' loc'++M) w'.heap d v
def BG_ : List (Nat×Nat)→Nat→Option Nat
 | [],_=>none
 | (i,j')::t,j=>if j=j' then some i else BG_ t j
def Ev_ (ρ:List (Nat×Nat)):List (Nat×Nat×Nat):=ρ.map fun p=>(p.1,p.2,0)
def Dt_ (own:List Ent) (ρ ν:List (Nat×Nat)) (r:Nat):Nat→Nat→Option (Nat×Nat):=fun j v =>
 if v=0 then (match BG_ ρ j with | some i=>(match At_ own i with | some e=>some (i,e.r) | none=>none) | none=>none)
 else if v=1 then (match BG_ (ρ++ν) j with | some i=>some (i,r) | none=>none)
 else none
def JA_ (φ:Nat→Nat→Option (Nat×Nat)):List Ent→Option (List Ent)
 | []=>some []
 | e::t=>match φ e.id e.r,JA_ φ t with
  | some p,some l=>some (⟨p.1,p.2,renO φ e.obj⟩::l)
  | _,_=>none
def AY_ : List Ent→List Nat→List Ent
 | [],_=>[]
 | e::t,ids=>if ids.contains e.id then AY_ t ids else e::AY_ t ids
def okOs : List Ent→Prop
 | []=>True
 | e::t=>okO e.obj∧okOs t
def okDs : List DVal→Prop
 | []=>True
 | d::t=>okD d∧okDs t
def inOK (own:List Ent):List (Nat×Nat)→Prop
 | []=>True
 | (i,_)::t=>(match At_ own i with | some e=>okO e.obj | none=>False)∧inOK own t
theorem Ge_ : ∀{l:List (Nat×Nat)} {j i:Nat},BG_ l j=some i→(i,j)∈l
 | [],j,i,h=>by simp[BG_]at h
 | (i',j')::t,j,i,h=>by
  simp only[BG_]at h
  split at h
  ·rename_i hj;simp only[aA0]at h;subst h;subst hj;exact aF0
  ·exact aD0 _ (Ge_ h)
theorem BE_ : ∀{l:List (Nat×Nat)} {j i:Nat},(l.map (·.2)).Nodup→(i,j)∈l→BG_ l j=some i
 | (i',j')::t,j,i,hn,h=>by
  simp only[List.map_cons,cQ0]at hn;simp only[BG_]
  rcases aK0.1 h with h | h
  ·simp only[aW0]at h;rw[if_pos h.2,h.1]
  ·rw[if_neg (fun hj=>hn.1 (by rw[←hj];exact cW0 (f:=(·.2)) h)),BE_ hn.2 h]
theorem fst_inj {l:List (Nat×Nat)} (hn:(l.map (·.1)).Nodup) {i j j':Nat} (h:(i,j)∈l) (h':(i,j')∈l):j=j':=by
 induction l with
 | nil=>cases h
 | cons a l ih =>
  simp only[List.map_cons,cQ0]at hn
  rcases aK0.1 h with rfl | h1
  ·rcases aK0.1 h' with h' | h2
   ·simp only[aW0]at h';exact h'.2.symm
   ·exact absurd (cW0 (f:=(·.1)) h2) hn.1
  ·rcases aK0.1 h' with rfl | h2
   ·exact absurd (cW0 (f:=(·.1)) h1) hn.1
   ·exact ih hn.2 h1 h2
theorem Cx_ {own:List Ent} {ids:List Nat} {e:Ent}:e∈AY_ own ids↔e∈own∧e.id∉ids:=by
 induction own with
 | nil=>simp[AY_]
 | cons a t ih =>
  simp only[AY_]
  split
  ·rename_i hc;have hc:a.id∈ids:=by simpa using hc
   rw[ih]
   constructor
   ·rintro⟨h1,h2⟩;exact⟨aD0 _ h1,h2⟩
   ·rintro⟨h1,h2⟩
    rcases aK0.1 h1 with rfl | h1
    ·exact absurd hc h2
    ·exact⟨h1,h2⟩
  ·rename_i hc;have hc:a.id∉ids:=by simpa using hc
   rw[aK0,ih,aK0]
   constructor
   ·rintro (rfl | ⟨h1,h2⟩)
    ·exact⟨.inl rfl,hc⟩
    ·exact⟨.inr h1,h2⟩
   ·rintro⟨rfl | h1,h2⟩
    ·exact .inl rfl
    ·exact .inr ⟨h1,h2⟩
theorem ZE_ (own:List Ent) (ids:List Nat):(AY_ own ids).Sublist own:=by
 induction own with
 | nil=>exact List.Sublist.refl _
 | cons a t ih =>
  simp only[AY_]
  split
  ·exact ih.cons _
  ·exact ih.cons_cons _
theorem EM_ {φ:Nat→Nat→Option (Nat×Nat)}:∀{l l':List Ent},JA_ φ l=some l'→(∀x∈l',∃e∈l,∃p,φ e.id e.r=some p∧x=⟨p.1,p.2,renO φ e.obj⟩)
 | [],l',h=>by simp only[JA_,aA0]at h;subst h;simp
 | e::t,l',h=>by
  simp only[JA_]at h
  split at h
  ·rename_i p l hp hl;simp only[aA0]at h;subst h;intro x hx
   rcases aK0.1 hx with rfl | hx
   ·exact⟨e,aF0,p,hp,rfl⟩
   ·obtain⟨e',h1,h2⟩:=EM_ hl x hx;exact⟨e',aD0 _ h1,h2⟩
  ·simp at h
theorem SF_ {φ:Nat→Nat→Option (Nat×Nat)} {loc loc':Nat→Loc}:∀{l l':List Ent},JA_ φ l=some l'→(∀e∈l,∀p,φ e.id e.r=some p→loc' p.1=loc e.id)→Ab_ l' loc'=Ab_ l loc
 | [],l',h,_=>by simp only[JA_,aA0]at h;subst h;rfl
 | e::t,l',h,hl=>by
  simp only[JA_]at h
  split at h
  ·rename_i p l hp hl';simp only[aA0]at h;subst h;rw[Dh_,Dh_,SF_ hl' (fun e he=>hl e (aD0 _ he))];simp only;rw[hl e aF0 p hp]
  ·simp at h
theorem OV_ : ∀{l:List Ent},okOs l→∀e∈l,okO e.obj
 | e::t,h,x,hx=>by
  simp only[okOs]at h
  rcases aK0.1 hx with rfl | hx
  ·exact h.1
  ·exact OV_ h.2 x hx
theorem VM_ {own:List Ent}:∀{l:List (Nat×Nat)},inOK own l→∀i j,(i,j)∈l→∃e,At_ own i=some e∧okO e.obj
 | (i',j')::t,h,i,j,hm=>by
  simp only[inOK]at h
  rcases aK0.1 hm with hm | hm
  ·simp only[aW0]at hm;obtain⟨rfl,rfl⟩:=hm;have h1:=h.1
   split at h1
   ·rename_i e he;exact⟨e,he,h1⟩
   ·exact h1.elim
  ·exact VM_ h.2 i j hm
theorem Ew_ {own:List Ent} {loc:Nat→Loc} (hn:(Ab_ own loc).Nodup):∀l:List Ent,(l.map (·.id)).Nodup→(∀e∈l,∃e0∈own,e0.id=e.id)→(Ab_ l loc).Nodup
 | [],_,_=>by simp[Ab_]
 | e::l,hd,hm=>by
  simp only[List.map_cons,cQ0]at hd;rw[Dh_,cA0];obtain⟨e0,he0,hid0⟩:=hm e aF0;refine⟨by rw[←hid0];exact Cz_ hn e0 he0,Ew_ hn l hd.2 (fun x hx=>hm x (aD0 _ hx)),?_⟩;intro b hb b' hb' hbb;subst hbb;obtain⟨e2,he2,hb2⟩:=bR0.1 hb';obtain⟨e3,he3,hid3⟩:=hm e2 (aD0 _ he2);have:=Fo_ hn e0 he0 e3 he3 b (by rw[hid0];exact hb) (by rw[hid3];exact hb2);subst this;exact hd.1 (aV0.2 ⟨e2,he2,by rw[←hid3,hid0]⟩)
def locB (loc0' loc:Nat→Loc):List (Nat×Nat)→Nat→Loc
 | [],i=>loc i
 | (i',j)::t,i=>if i=i' then loc0' j else locB loc0' loc t i
theorem KE_ {loc0' loc:Nat→Loc}:∀{l:List (Nat×Nat)} {i j:Nat},(l.map (·.1)).Nodup→(i,j)∈l→locB loc0' loc l i=loc0' j
 | (i',j')::t,i,j,hn,hm=>by
  simp only[List.map_cons,cQ0]at hn;simp only[locB]
  rcases aK0.1 hm with h | h
  ·simp only[aW0]at h;rw[if_pos h.1,h.2]
  ·rw[if_neg (fun hi=>hn.1 (by rw[←hi];exact cW0 (f:=(·.1)) h)),KE_ hn.2 h]
theorem KD_ {loc0' loc:Nat→Loc}:∀{l:List (Nat×Nat)} {i:Nat},i∉l.map (·.1)→locB loc0' loc l i=loc i
 | [],i,h=>rfl
 | (i',j')::t,i,h=>by
  simp only[List.map_cons,aK0,not_or]at h;simp only[locB];rw[if_neg h.1,KD_ h.2]
section
variable {φ : Nat → Nat → Option (Nat × Nat)} {n : Nat}
theorem mx_renR (hφ:∀i v p,φ i v=some p→p.2≤n) {d:DVal} (h:okR d):mx (renR φ d)≤n+1:=by
 cases d<;>simp only[renR,okR]at h ⊢ <;>first
  |(split
    ·rename_i p hp;have:=hφ _ _ _ hp;simp only[mx];omega
    ·simp[mx])
  | (rw[h];omega)
theorem Pd_ (hφ:∀i v p,φ i v=some p→p.2≤n):∀{ds:List DVal},okRs ds→mxL (ds.map (renR φ))≤n+1
 | [],_=>by simp[mxL]
 | d::ds,h=>by
  simp only[okRs]at h;have h1:=mx_renR hφ h.1;have h2:=Pd_ hφ h.2;simp only[List.map_cons,mxL];omega
theorem mx_ren2 (hφ:∀i v p,φ i v=some p→p.2≤n) {d:DVal} (h:ok2 d):mx (ren2 φ d)≤n+1:=by
 cases d with
 | fn f us cs =>
  simp only[ok2]at h;have h1:=Pd_ hφ h.1;have h2:=Pd_ hφ h.2;simp only[ren2,mx];omega
 | _=>exact mx_renR hφ (by simpa only[ok2]using h)
theorem KC_ (hφ:∀i v p,φ i v=some p→p.2≤n):∀{ds:List DVal},ok2s ds→mxL (ds.map (ren2 φ))≤n+1
 | [],_=>by simp[mxL]
 | d::ds,h=>by
  simp only[ok2s]at h;have h1:=mx_ren2 hφ h.1;have h2:=KC_ hφ h.2;simp only[List.map_cons,mxL];omega
theorem mx_ren3 (hφ:∀i v p,φ i v=some p→p.2≤n) {d:DVal} (h:ok3 d):mx (ren3 φ d)≤n+1:=by
 cases d with
 | agg cs =>
  simp only[ok3]at h;have h1:=KC_ hφ h;simp only[ren3,mx];omega
 | _=>exact mx_ren2 hφ (by simpa only[ok3]using h)
theorem Vz_ (hφ:∀i v p,φ i v=some p→p.2≤n):∀{ds:List DVal},ok3s ds→mxL (ds.map (ren3 φ))≤n+1
 | [],_=>by simp[mxL]
 | d::ds,h=>by
  simp only[ok3s]at h;have h1:=mx_ren3 hφ h.1;have h2:=Vz_ hφ h.2;simp only[List.map_cons,mxL];omega
theorem mx_renD (hφ:∀i v p,φ i v=some p→p.2≤n) {d:DVal} (h:okD d):mx (renD φ d)≤n+1:=by
 cases d with
 | tup cs =>
  simp only[okD]at h;have h1:=Vz_ hφ h;simp only[renD,mx];omega
 | _=>exact mx_ren3 hφ (by simpa only[okD]using h)
theorem Vw_ (hφ:∀i v p,φ i v=some p→p.2≤n):∀{es:List (List DVal)},ok2r es→mxR (LA_ φ es)≤n+1
 | [],_=>by simp[LA_,mxR]
 | c::l,h=>by
  simp only[ok2r]at h;have h1:=KC_ hφ h.1;have h2:=Vw_ hφ h.2;simp only[LA_,mxR];omega
theorem mxO_renO (hφ:∀i v p,φ i v=some p→p.2≤n) {o:DObj} (h:okO o):mxO (renO φ o)≤n+1:=by
 cases o with
 | box cs=>simp only[okO]at h;simp only[renO,mxO];exact KC_ hφ h
 | row et k bs es =>
  simp only[renO]
  split
  ·rename_i h0;simp only[mxO,h0];omega
  ·rename_i h0;simp only[okO]at h;simp only[mxO];exact Vw_ hφ (h.resolve_left h0)
 | map ks vs=>simp only[okO]at h;simp only[renO,mxO,h.1,h.2];omega
 | abs A=>simp only[renO,mxO];omega
end
theorem mxE_le {l:List Ent} {n:Nat} (h:∀e∈l,e.r+1≤n∧mxO e.obj≤n):mxE l≤n:=by
 induction l with
 | nil=>simp[mxE]
 | cons e t ih =>
  have h1:=h e aF0;have h2:=ih fun e he=>h e (aD0 _ he)
  simp only[mxE];omega
theorem UX_ {cur cur':Cur} {M M':List Nat} {h h':Array Obj} {φ:Nat→Nat→Option (Nat×Nat)} (W:Weak cur cur' M M' h h' 0) (L:Id_ cur cur' φ):∀{ds:List DVal} {vs:List Value},okDs ds→rdV cur M h ds vs→rdV cur' M' h' (ds.map (renD φ)) vs
 | [],vs,_,hr=>by simpa[rdV]using hr
 | d::ds,vs,hk,hr=>by
  simp only[okDs]at hk;simp only[rdV,List.map_cons]at hr ⊢;obtain⟨v,r,rfl,h1,h2⟩:=hr;exact⟨v,r,rfl,OI_ W L hk.1 h1,UX_ W L hk.2 h2⟩
abbrev Tran := Array Value→World→(Value→World→Prop)→Prop
def DSpecG (C:Tran) (args:List DVal) (own:List Ent) (d:DVal) (own':List Ent):Prop :=
 ∀(M:List Nat) (w:World) (loc:Nat→Loc) (vs:Array Value),St own loc M w.heap→rdV (Ai_ own loc) (Ab_ own loc++M) w.heap args vs.toList →
  C vs w fun v w'=>∃loc',St own' loc' M w'.heap∧Upd (Ab_ own loc) w w'∧(∀b∈Ab_ own' loc',b∈Ab_ own loc∨w.heap.size≤b) ∧
   (∀e∈own',e.r<1→Ai_ own loc e.id e.r=some (loc' e.id))∧rd (Ai_ own' loc') (Ab_ own' loc'++M) w'.heap d v
def SpecC (C:Tran) (args:List DVal) (own:List Ent) (r:Nat) (d:DVal) (own':List Ent):Prop :=
 ∀(M:List Nat) (w:World) (loc:Nat→Loc) (vs:Array Value),mxE own≤r→St own loc M w.heap→rdV (Ai_ own loc) (Ab_ own loc++M) w.heap args vs.toList →
  C vs w fun v w'=>∃loc',St own' loc' M w'.heap∧Upd (Ab_ own loc) w w'∧(∀b∈Ab_ own' loc',b∈Ab_ own loc∨w.heap.size≤b) ∧
   (∀e∈own',e.r<r→Ai_ own loc e.id e.r=some (loc' e.id))∧rd (Ai_ own' loc') (Ab_ own' loc'++M) w'.heap d v
theorem Yz_ {C:Tran} (hC:∀vs w (R R':Value→World→Prop),(∀v w',R v w'→R' v w')→C vs w R→C vs w R') {args args0:List DVal} {own own0 own0' l:List Ent} {d0:DVal} {r:Nat} (ρ ν:List (Nat×Nat)) (hcall:DSpecG C args0 own0 d0 own0')
  (hin:outE own (BX_ own (Ev_ ρ)) (Ev_ ρ)=some own0) (hok:inOK own ρ) (hargs:okDs args∧wkA (args.map (renD (BX_ own (Ev_ ρ)))) args0)
  (hid:((ρ++ν).map (·.1)).Nodup∧(ρ.map (·.2)).Nodup) (hout:JA_ (Dt_ own ρ ν r) own0'=some l) (hokO:okOs own0') (hokd:okD d0) (hnd:((AY_ own ((ρ++ν).map (·.1))++l).map (·.id)).Nodup) :
  SpecC C args own r (renD (Dt_ own ρ ν r) d0) (AY_ own ((ρ++ν).map (·.1))++l):=by
 intro M w loc vs hmx S hr
 -- the way in
 have hloc0:∀i j,(i,j)∈ρ→loc ((BG_ ρ j).getD 0)=loc i:=by
  intro i j hm;simp only[BE_ hid.2 hm,cC0]
 obtain⟨hm0,hids0⟩:=Ky_ hin
 have hm0':∀x∈own0,∃i e,(i,x.id)∈ρ∧At_ own i=some e∧x=⟨x.id,0,renO (BX_ own (Ev_ ρ)) e.obj⟩:=by
  intro x hx;obtain⟨i,j,v,e,h1,h2,h3⟩:=hm0 x hx;simp only[Ev_,aV0,aW0]at h1;obtain⟨p,hp,rfl,rfl,rfl⟩:=h1;subst h3;exact⟨p.1,e,hp,h2,rfl⟩
 have hids0:own0.map (·.id)=ρ.map (·.2):=by
  rw[hids0];simp[Ev_]
 have hnd0:(own0.map (·.id)).Nodup:=by rw[hids0];exact hid.2
 have hρ1:(ρ.map (·.1)).Nodup:=by
  have:=hid.1;rw[aX0,cA0]at this;exact this.1
 have hsel:Ab_ own0 (fun j=>loc ((BG_ ρ j).getD 0))=Ab_ (own0.map fun x=>⟨(BG_ ρ x.id).getD 0,0,x.obj⟩) loc:=by
  simp[Ab_,List.flatMap_map]
 have hselid:((own0.map fun x=>(⟨(BG_ ρ x.id).getD 0,0,x.obj⟩:Ent)).map (·.id)).Nodup:=by
  rw[cB0]
  have:own0.map ((·.id)∘fun x=>(⟨(BG_ ρ x.id).getD 0,0,x.obj⟩:Ent))=ρ.map (·.1):=by
   have e1:own0.map ((·.id)∘fun x=>(⟨(BG_ ρ x.id).getD 0,0,x.obj⟩:Ent))=(own0.map (·.id)).map (fun j=>(BG_ ρ j).getD 0):=by
    rw[cB0];rfl
   rw[e1,hids0,cB0];refine cJ0 fun p hp=> ?_
   simp only[Function.comp_def];rw[BE_ hid.2 hp];rfl
  rw[this];exact hρ1
 have hselm:∀e∈own0.map (fun x=>(⟨(BG_ ρ x.id).getD 0,0,x.obj⟩:Ent)),∃e0∈own,e0.id=e.id:=by
  intro e he;obtain⟨x,hx,rfl⟩:=aV0.1 he;obtain⟨i,e,h1,h2,_⟩:=hm0' x hx;simp only[BE_ hid.2 h1,cC0];exact⟨e,Ax_ h2⟩
 have hhot0:∀b∈Ab_ own0 (fun j=>loc ((BG_ ρ j).getD 0)),∃i j e,(i,j)∈ρ∧e∈own∧e.id=i∧b∈(loc i).blks:=by
  intro b hb;obtain⟨x,hx,hb⟩:=bR0.1 hb;obtain⟨i,e,h1,h2,_⟩:=hm0' x hx;simp only[BE_ hid.2 h1,cC0]at hb;exact⟨i,x.id,e,h1,(Ax_ h2).1,(Ax_ h2).2,hb⟩
 have hin0:∀b∈Ab_ own0 (fun j=>loc ((BG_ ρ j).getD 0)),b∈Ab_ own loc:=by
  intro b hb;obtain⟨i,j,e,_,h2,rfl,h4⟩:=hhot0 b hb;exact AO_ h2 h4
 have hfr:∀b∈Ab_ (AY_ own ((ρ++ν).map (·.1))) loc,b∈Ab_ own loc:=by
  intro b hb;obtain⟨e,he,hb⟩:=bR0.1 hb;exact AO_ (Cx_.1 he).1 hb
 have hdis:∀b∈Ab_ own0 (fun j=>loc ((BG_ ρ j).getD 0)),b∉Ab_ (AY_ own ((ρ++ν).map (·.1))) loc:=by
  intro b hb hb';obtain⟨i,j,e,h1,h2,rfl,h4⟩:=hhot0 b hb;obtain⟨e',he',hb'⟩:=bR0.1 hb';obtain⟨g1,g2⟩:=Cx_.1 he';have:=Fo_ S.bl e h2 e' g1 b h4 hb';subst this;exact g2 (cW0 (f:=(·.1)) (aM0 _ h1))
 have hM:∀b,b∈Ab_ own0 (fun j=>loc ((BG_ ρ j).getD 0))++(Ab_ (AY_ own ((ρ++ν).map (·.1))) loc++M)→b∈Ab_ own loc++M:=by
  intro b hb;simp only[aI0]at hb ⊢
  rcases hb with hb | hb | hb
  ·exact .inl (hin0 b hb)
  ·exact .inl (hfr b hb)
  ·exact .inr hb
 have W0:Weak (Ai_ own loc) (Ai_ own0 fun j=>loc ((BG_ ρ j).getD 0)) (Ab_ own loc++M) (Ab_ own0 (fun j=>loc ((BG_ ρ j).getD 0))++(Ab_ (AY_ own ((ρ++ν).map (·.1))) loc++M)) w.heap w.heap 0 :=
  ⟨fun id r l hr=>by omega,fun b o _ (_:isD o=true) ho=>ho,fun b o hb (_:isD o=true) _ hm=>hb (hM b hm)⟩
 have L0:Id_ (Ai_ own loc) (Ai_ own0 fun j=>loc ((BG_ ρ j).getD 0)) (BX_ own (Ev_ ρ)):=by
  intro i v p lc hp hl;obtain⟨e,h1,h2,h3⟩:=GG_ hp;simp only[Ev_,aV0,aW0]at h1;obtain⟨q,hq,rfl,hq2,_⟩:=h1;obtain⟨e0,_,g1,_,g3⟩:=Bm_ hl;rw[←h3];obtain⟨k1,k2⟩:=Ax_ h2;rw[←k2,AA_ S.nd k1,g3,←hq2,k2,hloc0 q.1 q.2 hq]
 have S0:St own0 (fun j=>loc ((BG_ ρ j).getD 0)) (Ab_ (AY_ own ((ρ++ν).map (·.1))) loc++M) w.heap:=by
  refine⟨hnd0,?_,?_,?_,?_⟩
  ·rw[hsel];exact Ew_ S.bl _ hselid hselm
  ·intro b hb hm
   rcases aI0.1 hm with hm | hm
   ·exact hdis b hb hm
   ·exact S.ap b (hin0 b hb) hm
  ·intro b hb;exact S.lt b (hM b hb)
  ·intro x hx;obtain⟨i,e,h1,h2,h3⟩:=hm0' x hx;obtain⟨e',h4,h5⟩:=VM_ hok i x.id h1;rw[h2]at h4;simp only[aA0]at h4;subst h4;obtain⟨k1,k2⟩:=Ax_ h2;rw[h3];have:=Jh_ W0 L0 (l:=loc i) (l':=(fun j=>loc ((BG_ ρ j).getD 0)) x.id) h5 (hloc0 i x.id h1) (fun b o _ ho=>ho) (by have:=S.ok e k1;rwa[k2]at this);exact this
 have hr0:=Rf_ (hargs.2) (UX_ W0 L0 hargs.1 hr);refine hC _ _ _ _ ?_ (hcall _ w _ vs S0 hr0);rintro v w' ⟨loc0',S1,hu,hnew,hver,hrd⟩
 -- the way back
 have hφ:∀e∈own0',∀p,Dt_ own ρ ν r e.id e.r=some p→(p.1,e.id)∈ρ++ν∧((e.r=0∧∃e1,At_ own p.1=some e1∧p.2=e1.r∧(p.1,e.id)∈ρ)∨(e.r=1∧p.2=r)):=by
  intro e he p hp;unfold Dt_ at hp
  split at hp
  ·rename_i h0
   split at hp
   ·rename_i i hi
    split at hp
    ·rename_i e1 he1;simp only[aA0]at hp;subst hp;have:=Ge_ hi;exact⟨aM0 _ this,.inl ⟨h0,e1,he1,rfl,this⟩⟩
    ·simp at hp
   ·simp at hp
  ·split at hp
   ·rename_i h1
    split at hp
    ·rename_i i hi;simp only[aA0]at hp;subst hp;exact⟨Ge_ hi,.inr ⟨h1,rfl⟩⟩
    ·simp at hp
   ·simp at hp
 have hlp:∀e∈own0',∀p,Dt_ own ρ ν r e.id e.r=some p→locB loc0' loc (ρ++ν) p.1=loc0' e.id:=fun e he p hp=>KE_ hid.1 (hφ e he p hp).1
 have hotl:Ab_ l (locB loc0' loc (ρ++ν))=Ab_ own0' loc0':=SF_ hout hlp
 have hotf:Ab_ (AY_ own ((ρ++ν).map (·.1))) (locB loc0' loc (ρ++ν))=Ab_ (AY_ own ((ρ++ν).map (·.1))) loc:=by
  unfold Ab_;have:∀e∈AY_ own ((ρ++ν).map (·.1)),(locB loc0' loc (ρ++ν) e.id).blks=(loc e.id).blks:=fun e he=>by rw[KD_ (Cx_.1 he).2]
  generalize AY_ own ((ρ++ν).map (·.1))=fr at this
  induction fr with
  | nil=>rfl
  | cons a t ih =>
   rw[cM0,cM0,this a aF0,ih (fun e he=>this e (aD0 _ he))]
 have hot':Ab_ (AY_ own ((ρ++ν).map (·.1))++l) (locB loc0' loc (ρ++ν))=Ab_ (AY_ own ((ρ++ν).map (·.1))) loc++Ab_ own0' loc0':=by
  rw[←hotl,←hotf];simp[Ab_]
 have hM':∀b,b∈Ab_ (AY_ own ((ρ++ν).map (·.1))) loc++Ab_ own0' loc0'++M↔b∈Ab_ own0' loc0'++(Ab_ (AY_ own ((ρ++ν).map (·.1))) loc++M):=by
  intro b;simp only[aI0];constructor
  ·intro h;rcases h with (h | h) | h
   ·exact .inr (.inl h)
   ·exact .inl h
   ·exact .inr (.inr h)
  ·intro h;rcases h with h | h | h
   ·exact .inl (.inr h)
   ·exact .inl (.inl h)
   ·exact .inr h
 have hfid:∀x∈l,x.id∈(ρ++ν).map (·.1):=by
  intro x hx;obtain⟨e,he,p,hp,rfl⟩:=EM_ hout x hx;exact cW0 (f:=(·.1)) (hφ e he p hp).1
 have W1:Weak (Ai_ own0' loc0') (Ai_ (AY_ own ((ρ++ν).map (·.1))++l) (locB loc0' loc (ρ++ν))) (Ab_ own0' loc0'++(Ab_ (AY_ own ((ρ++ν).map (·.1))) loc++M)) (Ab_ (AY_ own ((ρ++ν).map (·.1))++l) (locB loc0' loc (ρ++ν))++M) w'.heap w'.heap 0 :=
  ⟨fun id r l hr=>by omega,fun b o _ (_:isD o=true) ho=>ho,fun b o hb (_:isD o=true) _ hm=>hb (by rw[hot']at hm;exact(hM' b).1 hm)⟩
 have L1:Id_ (Ai_ own0' loc0') (Ai_ (AY_ own ((ρ++ν).map (·.1))++l) (locB loc0' loc (ρ++ν))) (Dt_ own ρ ν r):=by
  intro j v p lc hp hl;obtain⟨x,hx,g1,g2,g3⟩:=Bm_ hl
  have hpj:(p.1,j)∈ρ++ν∧((v=0∧∃e1,At_ own p.1=some e1∧p.2=e1.r)∨(v=1∧p.2=r)):=by
   unfold Dt_ at hp
   split at hp
   ·rename_i h0
    split at hp
    ·rename_i i hi
     split at hp
     ·rename_i e1 he1;simp only[aA0]at hp;subst hp;exact⟨aM0 _ (Ge_ hi),.inl ⟨h0,e1,he1,rfl⟩⟩
     ·simp at hp
    ·simp at hp
   ·split at hp
    ·rename_i h1
     split at hp
     ·rename_i i hi;simp only[aA0]at hp;subst hp;exact⟨Ge_ hi,.inr ⟨h1,rfl⟩⟩
     ·simp at hp
    ·simp at hp
  have hpi:p.1∈(ρ++ν).map (·.1):=cW0 (f:=(·.1)) hpj.1
  rcases aI0.1 hx with hx | hx
  ·exact absurd (g1▸hpi) (Cx_.1 hx).2
  ·obtain⟨e,he,q,hq,rfl⟩:=EM_ hout x hx;simp only at g1 g2;obtain⟨q1,q2⟩:=hφ e he q hq;have hej:e.id=j:=fst_inj hid.1 (by rw[←g1];exact q1) hpj.1;subst hej
   have hev:e.r=v:=by
    rcases q2 with ⟨a1,e1,a2,a3,_⟩ | ⟨a1,a2⟩<;>rcases hpj.2 with ⟨b1,e2,b2,b3⟩ | ⟨b1,b2⟩
    ·omega
    ·exfalso;have:=(AW_ (Ax_ a2).1).1;omega
    ·exfalso;have:=(AW_ (Ax_ b2).1).1;omega
    ·omega
   subst hev;rw[AA_ S1.nd he,g3,←g1,KE_ hid.1 q1]
 have hkeep:∀e∈AY_ own ((ρ++ν).map (·.1)),∀b o,b∈(loc e.id).blks→w.heap[b]? =some o→w'.heap[b]? =some o:=by
  intro e he b o hb ho;have hbf:b∈Ab_ (AY_ own ((ρ++ν).map (·.1))) loc:=AO_ he hb;rw[hu.blk b (aG0.1 ho).1 (fun h=>hdis b h hbf)];exact ho
 have W2:Weak (Ai_ own loc) (Ai_ (AY_ own ((ρ++ν).map (·.1))++l) (locB loc0' loc (ρ++ν))) (Ab_ own loc++M) (Ab_ (AY_ own ((ρ++ν).map (·.1))++l) (locB loc0' loc (ρ++ν))++M) w.heap w'.heap r:=by
  refine⟨?_,?_,?_⟩
  ·intro id v lc hv hl;obtain⟨x,hx,rfl,rfl,rfl⟩:=Bm_ hl
   rcases aI0.1 hx with hx | hx
   ·have:=Cx_.1 hx;rw[AA_ S.nd this.1,KD_ this.2]
   ·obtain⟨e,he,q,hq,rfl⟩:=EM_ hout x hx;simp only at hv ⊢;obtain⟨q1,q2⟩:=hφ e he q hq
    rcases q2 with ⟨a1,e1,a2,a3,a4⟩ | ⟨a1,a2⟩
    ·have h1:=hver e he (by omega);obtain⟨x0,k1,k2,k3,k4⟩:=Bm_ h1;obtain⟨m1,m2⟩:=Ax_ a2;rw[KE_ hid.1 q1,k4,hloc0 _ _ a4,a3,←m2,AA_ S.nd m1]
    ·omega
  ·intro b o hb (_:isD o=true) ho;rw[hu.blk b (aG0.1 ho).1 (fun h=>hb (aM0 _ (hin0 b h)))];exact ho
  ·intro b o hb (_:isD o=true) ho hm;rw[hot']at hm;have hlt:=(aG0.1 ho).1;simp only[aI0]at hm hb
   rcases hm with (hm | hm) | hm
   ·exact hb (.inl (hfr b hm))
   ·rcases hnew b hm with h | h
    ·exact hb (.inl (hin0 b h))
    ·omega
   ·exact hb (.inr hm)
 refine⟨locB loc0' loc (ρ++ν),⟨hnd,?_,?_,?_,?_⟩,?_,?_,?_,?_⟩
 ·rw[hot',cA0];refine⟨(CI_ S.bl _ ?_ (fun e he=>(Cx_.1 he).1)),S1.bl,?_⟩
  ·exact((ZE_ own _).map _).nodup S.nd
  ·intro b hb b' hb' hbb;subst hbb;exact S1.ap b hb' (aM0 _ hb)
 ·intro b hb hm;rw[hot']at hb
  rcases aI0.1 hb with hb | hb
  ·exact S.ap b (hfr b hb) hm
  ·exact S1.ap b hb (aP0 _ hm)
 ·intro b hb;rw[hot']at hb;exact S1.lt b ((hM' b).1 hb)
 ·intro x hx
  rcases aI0.1 hx with hx | hx
  ·have hm:=Cx_.1 hx;have:=AN_ W2 (Nat.le_trans (AW_ hm.1).2 hmx) (hkeep x hx) (S.ok x hm.1)
   rwa[KD_ hm.2]
  ·obtain⟨e,he,q,hq,rfl⟩:=EM_ hout x hx;exact Jh_ W1 L1 (OV_ hokO e he) (hlp e he q hq) (fun b o _ ho=>ho) (S1.ok e he)
 ·refine⟨hu.os,hu.tape,hu.output,hu.drawn,hu.size,fun b hb hn=>hu.blk b hb fun h=>hn (hin0 b h)⟩
 ·intro b hb;rw[hot']at hb
  rcases aI0.1 hb with hb | hb
  ·exact .inl (hfr b hb)
  ·rcases hnew b hb with h | h
   ·exact .inl (hin0 b h)
   ·exact .inr h
 ·intro x hx hlt;exact W2.c x.id x.r _ hlt (AA_ hnd hx)
 ·exact OI_ W1 L1 hokd hrd
theorem MN_ {P:Program} {f:Fn} {args args0:List DVal} {own own0 own0' l:List Ent} {d0:DVal} {r:Nat} (ρ ν:List (Nat×Nat)) (hS:AM_ P f args0 own0 d0 own0')
  (hin:outE own (BX_ own (Ev_ ρ)) (Ev_ ρ)=some own0) (hok:inOK own ρ) (hargs:okDs args∧wkA (args.map (renD (BX_ own (Ev_ ρ)))) args0)
  (hid:((ρ++ν).map (·.1)).Nodup∧(ρ.map (·.2)).Nodup) (hout:JA_ (Dt_ own ρ ν r) own0'=some l) (hokO:okOs own0') (hokd:okD d0) (hnd:((AY_ own ((ρ++ν).map (·.1))++l).map (·.id)).Nodup) :
  YA_ P f args own r (renD (Dt_ own ρ ν r) d0) (AY_ own ((ρ++ν).map (·.1))++l):=by
 have hb2:mxE own≤r→∀i v p,Dt_ own ρ ν r i v=some p→p.2≤r:=by
  intro hmx i v p hp;unfold Dt_ at hp
  split at hp
  ·split at hp
   ·split at hp
    ·rename_i e he;simp only[aA0]at hp;subst hp;have:=(AW_ (Ax_ he).1).1;simp only;omega
    ·simp at hp
   ·simp at hp
  ·split at hp
   ·split at hp
    ·simp only[aA0]at hp;subst hp;exact Nat.le_refl _
    ·simp at hp
   ·simp at hp
 refine⟨hS.2.1,hnd,fun hmx=>⟨mx_renD (hb2 hmx) hokd,mxE_le fun e he=> ?_⟩,?_⟩
 ·rcases aI0.1 he with he | he
  ·have:=AW_ (Cx_.1 he).1;omega
  ·obtain⟨e0,h0,p,hp,rfl⟩:=EM_ hout e he;exact⟨by have:=hb2 hmx _ _ _ hp;simp only;omega,mxO_renO (hb2 hmx) (OV_ hokO e0 h0)⟩
 exact Yz_ (C:=HD_ P f) (fun vs w R R' h hc=>hc.mono h) ρ ν (fun M w loc vs S hr=>hS.2.2 M w loc vs S hr) hin hok hargs hid hout hokO hokd hnd
def Kn_ (es:List (List DVal)) (i m:Nat) (es2:List (List DVal)):List (List DVal):=es.take i++es2.take m++es.drop (i+min es2.length m)
theorem copyD_len {es es2:List (List DVal)} {i m:Nat} (h:i+m≤es.length):(Kn_ es i m es2).length=es.length:=by
 simp only[Kn_,aC0,aY0,bS0];omega
theorem RD_ {es:List (List DVal)} {k n:Nat} (h:mxR es≤n):mxR (es.take k)≤n:=Nat.le_trans (Fd_ k es) h
theorem mxR_drop' {es:List (List DVal)} {k n:Nat} (h:mxR es≤n):mxR (es.drop k)≤n:=Nat.le_trans (Fe_ k es) h
theorem Wk_ {es es2:List (List DVal)} {i m n:Nat} (h1:mxR es≤n) (h2:mxR es2≤n):mxR (Kn_ es i m es2)≤n:=by
 unfold Kn_;rw[Ba_,Ba_];have:=RD_ (k:=i) h1;have:=RD_ (k:=m) h2;have:=mxR_drop' (k:=i+min es2.length m) h1;omega
theorem Mh_ {k:Nat}:∀(rows:List (List Value)) (i:Nat),(∀r∈rows,r.length=k)→(rows.take i).flatten=rows.flatten.take (i*k)
 | [],i,_=>by simp
 | r::rows,0,_=>by simp
 | r::rows,i+1,h=>by
  have hr:=h r aF0;rw[dF0,eY0,eY0,Mh_ rows i fun x hx=>h x (aD0 _ hx),List.take_append,hr];have e1:(i+1)*k-k=i*k:=by rw[bX0];omega
  rw[e1,bW0 (l:=r) (by rw[hr,bX0];omega)]
theorem Sd_ {k:Nat}:∀(rows:List (List Value)) (i:Nat),(∀r∈rows,r.length=k)→(rows.drop i).flatten=rows.flatten.drop (i*k)
 | [],i,_=>by simp
 | r::rows,0,_=>by simp
 | r::rows,i+1,h=>by
  have hr:=h r aF0;rw[dW0,eY0,Sd_ rows i fun x hx=>h x (aD0 _ hx),List.drop_append,hr];have e1:(i+1)*k-k=i*k:=by rw[bX0];omega
  rw[e1,cP0 (l:=r) (by rw[hr,bX0];omega),List.nil_append]
section
variable {P : Program} {B : Base} {s : DS} {a : Act} {w : World} {loc : Nat → Loc}
theorem rows_k {cur:Cur} {M:List Nat} {H:Array Obj} {k:Nat} {es:List (List DVal)} {rows:List (List Value)} (hl:rows.length=es.length)
  (h:∀(i:Nat) (cs:List DVal) (us:List Value),es[i]? =some cs→rows[i]? =some us→cs.length=k∧rdV cur M H cs us∧∀u∈us,u.oneCell'=true):∀r∈rows,r.length=k:=by
 intro r hr;obtain⟨i,hi,rfl⟩:=bN0 hr;obtain⟨h1,h2,_⟩:=h i es[i] rows[i] (aH0 _) (aH0 _);have:=Au_ _ _ h2;omega
theorem Rel.copyRow {d sd:DVal} {id r k0 bs0 i m n k2:Nat} {t ty:TypeId} {et k bs:Nat} {es es2:List (List DVal)} {e:Ent} {v sv:Value} {dst:Option Nat} (R:Rel B s a w loc) (he:At_ s.own id=some e) (her:e.r=r) (hob:e.obj= .row et k bs es)
  (hv:Rds s loc B.M0 w d v) (hd:d= .osl id r∧i=0∧m=es.length∨d= .vw id r k bs0 i m) (hb:i+m≤es.length) (ht:tElem P t=some (k,k0)) (hk:0<k)
  (hsv:Rds s loc B.M0 w sd sv) (hsrc:Lv_ s.own sd=some (k2,es2)) (hk2:k2=k∨es2=[]) (hmx2:mxR es2≤n)
  (hlim:lim B s≤n) (hdst:∀i,dst=some i→i<B.nt) :
  ∃w',(Builtin.copy_ #[t,t] ty #[v,sv]).run P w= .ok (goInt (min es2.length m:Nat)) w'∧Rel B ⟨putS s.slots dst (.int .i64 (min es2.length m:Nat)),upE s.own id r (.row et k bs (Kn_ es i m es2))⟩ (a.put dst (goInt (min es2.length m:Nat))) w' (upL loc id (loc id)):=by
 obtain⟨e1,i1,hu,hi,hsz,hby,_⟩:=Bk_ ht;obtain⟨rows2,q1,q2,q3,q4,q5,q6⟩:=src_ok (B:=B) R.st hsv hsrc;obtain⟨ad,cap,rfl,hat⟩:=part_at (B:=B) R.st he her hob hv hd;have hmem:=(AD_ he).1;have hid:=(AD_ he).2;have hmxo:=(AW_ hmem).2;rw[hob]at hmxo;simp only[mxO]at hmxo
 have hrdi:∀cur M h,rd cur M h (.int .i64 (min es2.length m:Nat)) (goInt (min es2.length m:Nat)):=by
  intro cur M h;have h5:min es2.length m≤maxLen:=Nat.le_trans (Nat.min_le_left _ _) q5;unfold maxLen at h5;simp only[rd,goInt];refine⟨?_,?_⟩
  ·trivial
  ·simp only[inR];omega
 by_cases hm:min es2.length m=0
 ·have hcl:Kn_ es i m es2=es:=by
   unfold Kn_;rw[hm]
   have:es2.take m=[]:=by
    rw[←fB0,aY0];omega
   rw[this,bM0,cV0,List.take_append_drop]
  rw[hcl];rw[hm]at hrdi ⊢
  have hrun:(Builtin.copy_ #[t,t] ty #[.slice ad m cap,sv]).run P w= .ok (goInt 0) w:=by
   have hl:∀(x:Addr),(loadCells x 0).run P w= .ok #[] w:=fun x=>by simpa using run_loadCells_list (P:=P) w x [] (by simp)
   rcases q6 with ⟨_,x,cap2,rfl⟩ | ⟨x,cap2,rfl,_⟩
   ·cases ad<;>cases x<;>simp[Builtin.copy_,run_underlying hu,Builtin.lenOf,Builtin.firstCells,sizeOf,typeInfo,hi,storeCells,hl]
   ·have hm':Nat.min es2.length m=0:=hm;cases ad<;>simp[Builtin.copy_,run_underlying hu,Builtin.lenOf,Builtin.firstCells,sizeOf,typeInfo,hi,storeCells,hl,hm']
  refine⟨w,hrun,?_⟩;have hcur:Ai_ s.own loc id r=some (loc id):=by unfold Ai_;rw[he];simp[her]
  have hk':=R.st.ok e hmem;rw[hob,hid]at hk'
  have hL:∀b0,b0∈(loc id).blks→b0<w.heap.size∧((∃e∈s.own,e.id=id∧b0∈(loc id).blks)∨w.heap.size≤b0):=fun b0 hb0 =>
   ⟨R.st.lt b0 (aM0 _ (AO_ hmem (by rw[hid];exact hb0))),.inl ⟨e,hmem,hid,hb0⟩⟩
  have W:=R.weakUp (obj:= .row et k bs es) hlim (Upd.refl _ w) hL (.inr hcur);unfold lim at hlim;exact R.up (hLn:=by have:=Cz_ R.st.bl e hmem;rwa[hid]at this) (n:=n) hlim hdst (Upd.refl _ w) (fun _ _ _=>rfl) hL (.inr hcur) (AN_ W (by simp only[mxO];omega) (fun _ _ _ h=>h) hk') (hrdi _ _ _)
 ·have hkk:k2=k:=by
   rcases hk2 with h | h
   ·exact h
   ·subst h;simp at hm
  subst hkk;obtain⟨b,hb1,rfl⟩:=hat (by omega);obtain⟨h7,b',arr,cap',h1,h2,h3,h4,h5,h6,hrow⟩:=Tq_ (B:=B) R.st he hob (by intro h;subst h;simp at hb;omega);rw[h1]at hb1;simp only[bH0,and_true]at hb1;subst hb1;have hcap:es.length*k2≤arr.size:=by rw[←h6];exact aO0 _ h4
  rcases q6 with ⟨rfl,_⟩ | ⟨x,cap2,rfl,q6⟩
  ·simp at hm
  obtain⟨c,hc⟩:∃c,c=min es2.length m:=⟨_,rfl⟩;rw[←hc]at hm hrdi ⊢;have hrk2:=rows_k q1 q2;have hcs:(rows2.take c).flatten=rows2.flatten.take (c*k2):=Mh_ rows2 c hrk2
  have hcsl:(rows2.take c).flatten.length=c*k2:=by
   rw[hcs,aY0,q3];have:c*k2≤es2.length*k2:=aO0 _ (by omega);omega
  have hone:∀u∈(rows2.take c).flatten,u.oneCell'=true:=fun u hu'=>q4 u (by rw[hcs]at hu';exact dE0 hu')
  have hsrcc:∀(j:Nat) (u:Value),(rows2.take c).flatten[j]? =some u→w.cell? (x.add j)=some u:=by
   intro j u hj;have hlt:=(aB0.1 hj).1;rw[hcsl]at hlt;rw[hcs,bY0 hlt]at hj;exact q6 j u hj
  have hload:=run_loadCells_list (P:=P) w x (rows2.take c).flatten hsrcc
  have hfit:i*k2+c*k2≤arr.size:=by
   rw[←bX0];exact Nat.le_trans (aO0 _ (by omega)) hcap
  have hst:=run_storeCells_at P b' (i*k2) et (rows2.take c).flatten 0 arr w h3 (by rw[hcsl];omega) hone;simp only[cV0]at hst;obtain⟨rows,r1,r2,r3,r4⟩:=Eg_ k2 es arr 0 hrow;have hrk:=rows_k r1 r3;have hflat:=FO_ r2 r4 hcap;have harr:arr.toList=rows.flatten++arr.toList.drop (es.length*k2):=by rw[←hflat,List.take_append_drop]
  have hik:i*k2≤rows.flatten.length:=by rw[r2];exact aO0 _ (by omega)
  have hic:i*k2+c*k2≤rows.flatten.length:=by rw[r2,←bX0];exact aO0 _ (by omega)
  have hnew:(arr.toList.take (i*k2)++(rows2.take c).flatten++arr.toList.drop (i*k2+(rows2.take c).flatten.length))=(rows.take i++rows2.take c++rows.drop (i+c)).flatten++arr.toList.drop (es.length*k2):=by
   have e_t:rows.flatten.take (i*k2)=arr.toList.take (i*k2):=by rw[←hflat,List.take_take,Nat.min_eq_left (by rw[r2]at hik;exact hik)]
   have e_d:arr.toList.drop (i*k2+c*k2)=rows.flatten.drop ((i+c)*k2)++arr.toList.drop (es.length*k2):=by
    rw[bX0]
    conv=>lhs;rw[harr]
    exact dY0 hic
   rw[hcsl,List.flatten_append,List.flatten_append,Mh_ rows i hrk,Sd_ rows (i+c) hrk,e_t,e_d,aU0,aU0,aU0]
  refine⟨_,?_,R.writeRow (es':=Kn_ es i m es2) (arr':=(arr.toList.take (i*k2)++(rows2.take c).flatten++arr.toList.drop (i*k2+(rows2.take c).flatten.length)).toArray) he her hob h1 h2 h3 h4 h5 h6 h7 (copyD_len hb) ?_ ?_ (Wk_ (by unfold lim at hlim;omega) hmx2) hlim hdst hrdi⟩
  ·have hc':c=Nat.min es2.length m:=hc;have hls:es2.length=es2.length:=rfl;rw[hcsl]at hload;simp[Builtin.copy_,run_underlying hu,Builtin.lenOf,Builtin.firstCells,sizeOf,typeInfo,hi,←hc',hsz,hload,hst, -List.length_flatten]
  ·simp only[dG0,aC0,aY0,bS0,bP0,hcsl];omega
  ·rw[hnew];refine Vc_ k2 _ _ _ ?_ ?_
   ·simp only[Kn_,aC0,aY0,bS0];omega
   ·intro j cs us hj hu';unfold Kn_ at hj;rw[←hc]at hj
    by_cases hj1:j<i
    ·rw[aU0,bB0 (by simp;omega),bY0 hj1]at hj;rw[aU0,bB0 (by simp;omega),bY0 hj1]at hu';exact r3 j cs us hj hu'
    ·by_cases hj2:j<i+c
     ·rw[bB0 (by simp;omega),bC0 (by simp;omega),aY0,Nat.min_eq_left (by omega),bY0 (by omega)]at hj;rw[bB0 (by simp;omega),bC0 (by simp;omega),aY0,Nat.min_eq_left (by omega),bY0 (by omega)]at hu';exact q2 _ cs us hj hu'
     ·rw[bC0 (by simp;omega),cT0]at hj;rw[bC0 (by simp;omega),cT0]at hu';simp only[aC0,aY0]at hj hu';rw[show i+c+(j-(min i es.length+min m es2.length))=j by omega]at hj;rw[show i+c+(j-(min i rows.length+min c rows2.length))=j by omega]at hu';exact r3 j cs us hj hu'
end
def AH_ (x:ByteArray):List (List DVal):=x.data.toList.map fun b=>[.int .u8 b.toNat]
theorem AF_ (x:ByteArray):(AH_ x).length=x.size:=by rw[AH_,aJ0];rfl
@[simp] theorem EG_ (x:ByteArray):mxR (AH_ x)=0:=by
 unfold AH_
 induction x.data.toList with
 | nil=>rfl
 | cons b l ih=>simp[mxR,mxL,mx,ih]
theorem ZN_ (x y:ByteArray):AH_ (x++y)=AH_ x++AH_ y:=by
 simp[AH_,ByteArray.data_append]
theorem ZM_ (x:ByteArray) (cur:Cur) (M:List Nat) (H:Array Obj):∃rows2:List (List Value),rows2.length=(AH_ x).length∧(∀(i:Nat) (cs:List DVal) (us:List Value),(AH_ x)[i]? =some cs→rows2[i]? =some us→cs.length=1∧rdV cur M H cs us∧∀u∈us,u.oneCell'=true) ∧
   rows2.flatten.length=(AH_ x).length*1∧(∀u∈rows2.flatten,u.oneCell'=true)∧rows2.flatten=Lib.strCells x:=by
 have hfl:(x.data.toList.map fun b=>[Value.int .u8 b.toNat]).flatten=Lib.strCells x:=by
  unfold Lib.strCells
  induction x.data.toList with
  | nil=>rfl
  | cons b l ih=>simp[ih]
 refine⟨x.data.toList.map fun b=>[.int .u8 b.toNat],by simp[AH_],?_,by rw[hfl,Lib.strCells_length,AF_,Nat.mul_one],by rw[hfl];exact Lib.strCells_oneCell x,hfl⟩;intro i cs us hc hu;simp only[AH_,bI0,bE0]at hc hu;obtain⟨b,hb,rfl⟩:=hc;obtain⟨b',hb',rfl⟩:=hu;rw[hb]at hb';simp only[aA0]at hb';subst hb';refine⟨rfl,?_,by simp[Value.oneCell']⟩;simp only[rdV,rd];exact⟨_,_,rfl,⟨rfl,by have:=UInt8.toNat_lt b;simp only[inR];omega⟩,rfl⟩
section
variable {P : Program} {B : Base} {s : DS} {a : Act} {w : World} {loc : Nat → Loc}
theorem DU_ {t t2 ty e:TypeId} {i:TypeInfo} {x:ByteArray} (hu:P.underlying t=some (.slice e)) (hu2:P.underlying t2=some .string) (hi:P.info? e=some i) (hx:x.size=0) {y:Option Addr} {m cap:Nat} (hm':m≤cap) :
  (Builtin.append_ #[t,t2] ty #[.slice y m cap,.string x]).run P w= .ok (.slice y m cap) w:=by
 have hf:=Lib.run_firstCells_string (P:=P) w i.size x;have hn:Lib.strCells x=[]:=bO0 (by rw[Lib.strCells_length];exact hx);rw[hx,hn]at hf;cases y<;>simp[Builtin.append_,run_underlying hu,run_underlying hu2,sizeOf,typeInfo,hi,Builtin.lenOf,hx,hf,hm',storeCells]
theorem Rel.appendStr {id n:Nat} {t t2 ty e:TypeId} {k bs:Nat} {es:List (List DVal)} {x:ByteArray} {dv:Value} {dst:Option Nat} (R:Rel B s a w loc) (hlim:lim B s≤n) (hdst:∀i,dst=some i→i<B.nt)
  (ht:tElem P t=some (k,bs)) (hte:tElemId P t=some e) (hz:zeroOK P t=true) (hk:0<k) (hrow:RowAt s loc w B.M0 id e k bs es dv) (hmx1:mxR es≤n)
  (ht2:P.underlying t2=some .string) (hk1:k=1) (hb:(es.length+x.size)*bs≤150000000000000) (hbs:bs≤65536) (hl:es.length+x.size≤maxLen) :
  ∃v' w' L,(Builtin.append_ #[t,t2] ty #[dv,.string x]).run P w= .ok v' w'∧Rel B ⟨putS s.slots dst (.osl id n),upE s.own id n (.row e k bs (es++AH_ x))⟩ (a.put dst v') w' (upL loc id L):=by
 obtain⟨e',i,hu,hi,hsz,hby,_⟩:=Bk_ ht;have hee:e'=e:=by unfold tElemId at hte;rw[hu]at hte;simpa using hte
 subst hee
 obtain⟨z,hzr,hzs⟩:∃z,i.zero=some z∧z.cells.size=k:=by
  unfold zeroOK at hz;rw[hu]at hz;simp only[hi]at hz
  cases hq:i.zero with
  | none=>simp[hq]at hz
  | some z=>simp only[hq,beq_iff_eq]at hz;exact⟨z,rfl,by rw[hz,hsz]⟩
 obtain⟨es2,hes2⟩:∃es2,es2=AH_ x:=⟨_,rfl⟩;rw[←hes2];have hx2:es2.length=x.size:=by rw[hes2,AF_]
 obtain⟨rows2,q1,q2,q3,q4,hfl⟩:∃rows2:List (List Value),rows2.length=es2.length∧(∀(i:Nat) (cs:List DVal) (us:List Value),es2[i]? =some cs→rows2[i]? =some us→cs.length=k∧rdV (cu s loc) (hm s loc B.M0) w.heap cs us∧∀u∈us,u.oneCell'=true) ∧
   rows2.flatten.length=es2.length*k∧(∀u∈rows2.flatten,u.oneCell'=true)∧rows2.flatten=Lib.strCells x:=by
  rw[hes2,hk1];exact ZM_ x _ _ _
 have hmx2:mxR es2≤n:=by rw[hes2,EG_];exact cL0 _
 rw[←hx2]at hb hl;have hlenb:(es++es2).length*bs≤150000000000000:=by simpa using hb
 have mx12:mxR (es++es2)≤n:=by rw[Ba_];omega
 -- what the slot reads at the end
 have rdEnd:∀(L:Loc) (h:Array Obj) (obj:DObj),rd (Ai_ (upE s.own id n obj) (upL loc id L)) (Ab_ (upE s.own id n obj) (upL loc id L)++B.M0) h (.osl id n) L.hdr:=by
  intro L h obj;simp only[rd];intro l hl';rw[CL_]at hl';simp only[aA0]at hl';rw[hl']
 ·by_cases hm0:es2.length=0
  ·have he2:es2=[]:=bO0 hm0;have hx0:x.size=0:=by omega
   rw[he2,bM0];rw[he2,bM0]at hlenb
   rcases hrow with ⟨rfl,rfl⟩ | ⟨e0,hmem,hid,b,arr,cap,h1',rfl,h3,h4,h5,h6,h7⟩
   ·refine⟨_,w,⟨[],.slice none 0 0⟩,DU_ hu ht2 hi hx0 (Nat.le_refl _),?_⟩;refine R.up (L:=⟨[],.slice none 0 0⟩) hlim hdst (Upd.refl _ _) (fun b hb _=>rfl) (fun b hb=>by simp at hb) (.inl (Nat.le_refl _)) ⟨by simp,.inl ⟨rfl,rfl,rfl⟩⟩ (rdEnd ⟨[],.slice none 0 0⟩ _ _)
   ·have h1:b∈(loc id).blks:=by rw[h1'];simp
    refine⟨_,w,⟨[b],.slice (some ⟨b,0,none⟩) es.length cap⟩,DU_ hu ht2 hi hx0 h4,?_⟩
    have hL:∀b0,b0∈(⟨[b],.slice (some ⟨b,0,none⟩) es.length cap⟩:Loc).blks→b0<w.heap.size∧((∃e∈s.own,e.id=id∧b0∈(loc id).blks)∨w.heap.size≤b0):=by
     intro b0 hb0;simp only[aE0]at hb0;subst hb0;exact⟨(aG0.1 h3).1,.inl ⟨e0,hmem,hid,h1⟩⟩
    have W:=R.weakUp (obj:= .row e' k bs es) (r:=n) hlim (Upd.refl _ _) hL (.inl (Nat.le_refl _));exact R.up (L:=⟨[b],.slice (some ⟨b,0,none⟩) es.length cap⟩) hlim hdst (Upd.refl _ _) (fun b hb _=>rfl) hL (.inl (Nat.le_refl _)) ⟨hlenb,.inr ⟨b,arr,cap,rfl,rfl,h3,h4,h5,h6,BT_ W k es arr 0 hmx1 h7⟩⟩ (rdEnd ⟨[b],.slice (some ⟨b,0,none⟩) es.length cap⟩ _ _)
  ·
   subst hsz
   subst hby;have hl':es.length+es2.length≤9223372036854775807:=by unfold maxLen at hl;omega
   -- a new row, whatever it held before
   have fresh:∀(rows:List (List Value)) (cap:Nat),es.length≤cap∨True→rows.length=es.length→rows.flatten.length=es.length*i.size →
     (∀(j:Nat) (cs:List DVal) (us:List Value),es[j]? =some cs→rows[j]? =some us→cs.length=i.size∧rdV (cu s loc) (hm s loc B.M0) w.heap cs us∧∀u∈us,u.oneCell'=true) →
     Rel B ⟨putS s.slots dst (.osl id n),upE s.own id n (.row e' i.size i.bytes (es++es2))⟩ (a.put dst (.slice (some ⟨w.heap.size,0,none⟩) (es.length+es2.length) (grownCap w (es.length+es2.length) cap e')))
      (w.drew.alloc (.cells (rows.flatten.toArray++rows2.flatten.toArray++Builtin.zeroCells z.cells (grownCap w (es.length+es2.length) cap e'-(es.length+es2.length))) e')) (upL loc id ⟨[w.heap.size],.slice (some ⟨w.heap.size,0,none⟩) (es.length+es2.length) (grownCap w (es.length+es2.length) cap e')⟩):=by
    intro rows cap _ r1 r2 r3
    have hw:Upd (Ab_ s.own loc) w (w.drew.alloc (.cells (rows.flatten.toArray++rows2.flatten.toArray++Builtin.zeroCells z.cells (grownCap w (es.length+es2.length) cap e'-(es.length+es2.length))) e')) :=
     (Upd.drew _ w).trans (Upd.alloc _ w.drew _) (fun x hx=> .inl hx)
    have hL:∀b0,b0∈(⟨[w.heap.size],.slice (some ⟨w.heap.size,0,none⟩) (es.length+es2.length) (grownCap w (es.length+es2.length) cap e')⟩:Loc).blks→b0<(w.drew.alloc (.cells (rows.flatten.toArray++rows2.flatten.toArray++Builtin.zeroCells z.cells (grownCap w (es.length+es2.length) cap e'-(es.length+es2.length))) e')).heap.size∧((∃e∈s.own,e.id=id∧b0∈(loc id).blks)∨w.heap.size≤b0):=by
     intro b0 hb0;simp only[aE0]at hb0;subst hb0;exact⟨by simp,.inr (Nat.le_refl _)⟩
    have W:=R.weakUp (obj:= .row e' i.size i.bytes (es++es2)) (r:=n) hlim hw hL (.inl (Nat.le_refl _));have hge:=grownCap_ge w (es.length+es2.length) cap e';have hcm:=grownCap_le_maxLen w (es.length+es2.length) cap e' hl;refine R.up hlim hdst hw (fun b hb _=>by simp only[World.alloc,bV0,World.drew];rw[if_neg (by omega)]) hL (.inl (Nat.le_refl _)) ⟨hlenb,.inr ⟨w.heap.size,_,_,rfl,by simp,heap_alloc_new w.drew _,by simpa using hge,hcm,?_,?_⟩⟩ (rdEnd ⟨[w.heap.size],.slice (some ⟨w.heap.size,0,none⟩) (es.length+es2.length) (grownCap w (es.length+es2.length) cap e')⟩ _ _)
    ·simp only[Array.size_append,dG0,size_zeroCells,hzs,r2,q3,←bX0]
     congr 1
     omega
    ·have:=KH_ (k:=i.size) r1 q1 (Dl_ W hmx1 r3) (Dl_ W hmx2 q2) (Builtin.zeroCells z.cells (grownCap w (es.length+es2.length) cap e'-(es.length+es2.length))).toList
     have e1:(rows.flatten++rows2.flatten++(Builtin.zeroCells z.cells (grownCap w (es.length+es2.length) cap e'-(es.length+es2.length))).toList).toArray=rows.flatten.toArray++rows2.flatten.toArray++Builtin.zeroCells z.cells (grownCap w (es.length+es2.length) cap e'-(es.length+es2.length)):=by
      apply Array.ext';simp
     rw[e1]at this;exact this
   rcases hrow with ⟨rfl,rfl⟩ | ⟨e0,hmem,hid,b,arr,cap,h1',rfl,h3,h4,h5,h6,h7⟩
   ·have hr:=run_append_nil_string (P:=P) w t t2 ty e' i z hu ht2 hi hzr x (by omega) (by omega) (by rw[←hx2];simp only[List.length_nil,bT0]at hb;omega)
    have e1:(x.data.map fun b=>Value.int .u8 b.toNat)=(Lib.strCells x).toArray:=by
     apply Array.ext'
     simp[Lib.strCells]
    rw[e1,←hfl,←hx2]at hr;have hf:=fresh [] 0 (.inr trivial) rfl (by simp) (by simp);simp only[List.length_nil,bT0,List.nil_append,List.flatten_nil,Array.empty_append]at hf hr ⊢;exact⟨_,_,_,hr,hf⟩
   ·have h1:b∈(loc id).blks:=by rw[h1'];simp
    obtain⟨rows,r1,r2,r3,r4⟩:=Eg_ i.size es arr 0 h7;have hfits:es.length*i.size≤arr.size:=by rw[←h6];exact aO0 _ h4
    by_cases hroom:es.length+es2.length≤cap
    ·have hfit:es.length*i.size+rows2.flatten.length≤arr.size:=by rw[q3,←h6,←bX0];exact aO0 _ hroom
     have hr:=Lib.run_append_room_string (P:=P) w t t2 ty e' i hu ht2 hi hk1 b es.length cap arr h3 x (by omega) (by rw[q3,hk1]at hfit;omega)
     have e2:arr.toList.take es.length++Lib.strCells x++arr.toList.drop (es.length+x.size)=arr.toList.take (es.length*i.size)++rows2.flatten++arr.toList.drop (es.length*i.size+rows2.flatten.length):=by
      rw[q3,hfl,hk1,Nat.mul_one,Nat.mul_one,hx2]
     rw[e2,←hx2]at hr;refine⟨_,_,⟨[b],.slice (some ⟨b,0,none⟩) (es.length+es2.length) cap⟩,hr,?_⟩;have hw:Upd (Ab_ s.own loc) w (w.setRow b (arr.toList.take (es.length*i.size)++rows2.flatten++arr.toList.drop (es.length*i.size+rows2.flatten.length)).toArray):=Upd.setRow hmem (by rw[hid];exact h1) w _
     have hL:∀b0,b0∈(⟨[b],.slice (some ⟨b,0,none⟩) (es.length+es2.length) cap⟩:Loc).blks→b0<(w.setRow b (arr.toList.take (es.length*i.size)++rows2.flatten++arr.toList.drop (es.length*i.size+rows2.flatten.length)).toArray).heap.size∧((∃e∈s.own,e.id=id∧b0∈(loc id).blks)∨w.heap.size≤b0):=by
      intro b0 hb0;simp only[aE0]at hb0;subst hb0;refine⟨?_,.inl ⟨e0,hmem,hid,h1⟩⟩;have:=(aG0.1 h3).1;simpa using this
     have W:=R.weakUp (obj:= .row e' i.size i.bytes (es++es2)) (r:=n) hlim hw hL (.inl (Nat.le_refl _));refine R.up hlim hdst hw ?_ hL (.inl (Nat.le_refl _)) ⟨hlenb,.inr ⟨b,_,cap,rfl,by simp,setRow_heap w b arr _ e' (0,0) h3,by simpa using hroom,h5,?_,?_⟩⟩ (rdEnd ⟨[b],.slice (some ⟨b,0,none⟩) (es.length+es2.length) cap⟩ _ _)
     ·intro b0 hb0 hne;refine setRow_other w b b0 _ (fun h=>hne e0 hmem hid ?_);rw[h];exact h1
     ·simp only[dG0,aC0,aY0,bS0,bP0];omega
     ·have ht':=FO_ r2 r4 hfits;have hj:=KH_ r1 q1 (Dl_ W hmx1 r3) (Dl_ W hmx2 q2) (arr.toList.drop (es.length*i.size+rows2.flatten.length));rw[←ht']at hj;exact hj
    ·have hr:=Lib.run_append_grow_string (P:=P) w t t2 ty e' i z hu ht2 hi hzr ⟨b,0,none⟩ es.length cap rows.flatten r2 (fun j v hj=>by rw[Dd_];simp only[World.cell?,h3];exact(r4 j v hj).1) x (by omega) (by omega) (by rw[←hx2];exact fitsL (by omega) hb hbs);rw[←hfl,←hx2]at hr;exact⟨_,_,_,hr,fresh rows cap (.inl h4) r1 r2 r3⟩
end
def HC_ (own:List Ent) (et k bs:Nat):DVal→Option (Option Nat×List (List DVal))
 | .nilsl=>some (none,[])
 | .osl id r=>match At_ own id with
  | some e=>if e.r=r then (match e.obj with | .row et' k' bs' es=>if et'=et∧k'=k∧bs'=bs then some (some id,es)else none | _=>none)else none
  | none=>none
 | _=>none
structure ERes where
 pre:Prop
 d:DVal
 own:List Ent
section
variable (P : Program) (nt : Nat) (ow : List Nat)
def Bs_ (o:Oper):Bool:=match o.op with
 | .box _ _=>match o.dst with | some i=>ow.contains i | none=>false
 | .buildSlice _ _ _=>match o.dst with | some i=>ow.contains i | none=>false
 | .alloc _=>true
 | .store _ _ _=>true
 | .makeMap _ _=>true
 | .mapUpdate _ _ _ _=>true
 | .makeSlice _ _ _=>true
 | .call c=>match c.callee with | .builtin .append=>(match o.dst with | some i=> !ow.contains (i+1000000) | none=>true) | .builtin .clear=>true | .builtin .copy=>true | .builtin .delete=>true | .value _=>(match o.dst with | some i=>ow.contains i | none=>false) | _=>false
 | _=>false
def strOf : DVal→Option ByteArray
 | .str x=>some x
 | _=>none
def Mq_ (own:List Ent) (dst:Option Nat) (r:Nat):List DVal→List TypeId→Option ERes
 | [a,b],[t,t']=>match dst,tElem P t,tElemId P t with
  | some i,some (k,bs),some et=>match strOf b with
   | some x=>match HC_ own et k bs a with
    | some (id,es)=>some ⟨tStr P t'=true∧zeroOK P t=true∧k=1∧bs≤65536∧(es.length+x.size)*bs≤150000000000000∧es.length+x.size≤9223372036854775807,
     .osl (id.getD i) r,upE own (id.getD i) r (.row et k bs (es++AH_ x))⟩
    | none=>none
   | none=>match HC_ own et k bs a,Lv_ own b with
    | some (id,es),some (k2,es2)=>some ⟨t'=t∧zeroOK P t=true∧0<k∧(k2=k∨es2=[])∧bs≤65536∧(es.length+es2.length)*bs≤150000000000000∧es.length+es2.length≤9223372036854775807,
     .osl (id.getD i) r,upE own (id.getD i) r (.row et k bs (es++es2))⟩
    | _,_=>none
  | _,_,_=>none
 | _,_=>none
def DZ_ (own:List Ent) (dst:Option Nat) (t:TypeId) (d:DVal) (id r' k i j:Nat):Option ERes:=match At_ own id with
 | some e=>match e.obj with
  | .row et k' bs es=>match es[i]? with
   | some c0=>some ⟨e.r=r'∧k'=k∧dst=none∧tCells P t=some (AC_ d).length∧Ck_ own d=true∧j+(AC_ d).length≤k,.any,upE own id r' (.row et k' bs (es.set i (Dm_ c0 j (AC_ d))))⟩
   | none=>none
  | _=>none
 | none=>none
def eMake (own:List Ent) (dst:Option Nat) (r:Nat) (t:TypeId) (l c:DVal):Option ERes:=match dst,tElem P t,tElemId P t,tZeroE P t,l,c with
 | some i,some (k,bs),some et,some zs,.int _ n,.int _ m=>some ⟨zs.all (oneO [])=true∧zs.length=k∧0≤n∧n≤m∧m*bs≤150000000000000∧m≤9223372036854775807,.osl i r,upE own i r (.row et k bs (List.replicate n.toNat zs))⟩
 | _,_,_,_,_,_=>none
def So_ (own:List Ent):List DVal→List TypeId→Option ERes
 | [d],[t]=>match tElem P t,tZeroE P t with
  | some (k,_),some zs=>match d with
   | .osl id r=>match At_ own id with
    | some e=>match e.obj with
     | .row et k' bs es=>some ⟨e.r=r∧k'=k∧zs.all (oneO [])=true∧zs.length=k∧0<k,.tup [],upE own id r (.row et k' bs (CM_ es 0 es.length zs))⟩
     | _=>none
    | none=>none
   | .vw id r k0 _ i m=>match At_ own id with
    | some e=>match e.obj with
     | .row et k' bs es=>some ⟨e.r=r∧k'=k∧k0=k∧zs.all (oneO [])=true∧zs.length=k∧0<k∧i+m≤es.length,.tup [],upE own id r (.row et k' bs (CM_ es i m zs))⟩
     | _=>none
    | none=>none
   | _=>none
  | _,_=>none
 | _,_=>none
def Mp_ (own:List Ent):List DVal→List TypeId→Option ERes
 | [m,k],[t,_]=>match m,tMap P t with
  | .omp id r',some (kt,_)=>match At_ own id with
   | some e=>match e.obj with
    | .map ks vs=>some ⟨e.r=r'∧CA_ P kt k=true∧ks.all (CA_ P kt)=true,.tup [],upE own id r' (.map (delK ks k) (delV ks vs k))⟩
    | _=>none
   | none=>none
  | _,_=>none
 | _,_=>none
def partD (own:List Ent):DVal→Option (Nat×Nat×Nat×Nat×TypeId×Nat×Nat×List (List DVal))
 | .osl id r=>match At_ own id with
  | some e=>if e.r=r then (match e.obj with | .row et k bs es=>some (id,r,0,es.length,et,k,bs,es) | _=>none)else none
  | none=>none
 | .vw id r k0 _ i m=>match At_ own id with
  | some e=>if e.r=r then (match e.obj with | .row et k bs es=>if k0=k then some (id,r,i,m,et,k,bs,es)else none | _=>none)else none
  | none=>none
 | _=>none
def eCopy (own:List Ent):List DVal→List TypeId→Option ERes
 | [d,s],[t,t']=>match tElem P t,partD own d,Lv_ own s with
  | some (k,_),some (id,r',i,m,et,k',bs,es),some (k2,es2)=>some ⟨t'=t∧k'=k∧0<k∧i+m≤es.length∧(k2=k∨es2=[]),.int .i64 (min es2.length m:Nat),upE own id r' (.row et k' bs (Kn_ es i m es2))⟩
  | _,_,_=>none
 | _,_=>none
def eRes (o:Oper) (ed:Operand→DVal) (own:List Ent) (r:Nat):Option ERes :=
 match o.op with
 | .box _ x=>match o.dst with
  | some i=>some ⟨Ck_ own (ed x)=true,.bx i r 0,upE own i r (.box (AC_ (ed x)))⟩
  | none=>none
 | .buildSlice t len parts=>match o.dst,tElem P t,tElemId P t with
  | some i,some (k,bs),some et=>some ⟨nPre P own (ed) (.buildSlice t len parts),.osl i r,upE own i r (.row et k bs (parts.toList.map fun p=>AC_ (ed p.2)))⟩
  | _,_,_=>none
 | .alloc t=>match o.dst,tZero P t with
  | some i,some z=>some ⟨z.all (oneO [])=true,.bx i r 0,upE own i r (.box z)⟩
  | _,_=>none
 | .store t a x=>match ed a with
  | .bx id r' off=>match At_ own id with
   | some e=>match e.obj with
    | .box cs=>some ⟨e.r=r'∧o.dst=none∧tCells P t=some (AC_ (ed x)).length∧Ck_ own (ed x)=true∧off+(AC_ (ed x)).length≤cs.length,.any,upE own id r' (.box (Dm_ cs off (AC_ (ed x))))⟩
    | _=>none
   | none=>none
  | .rx id r' k i j=>DZ_ P own o.dst t (ed x) id r' k i j
  | _=>none
 | .makeSlice t l c=>eMake P own o.dst r t (ed l) (ed c)
 | .makeMap t rv=>match rv,o.dst,tMap P t with
  | none,some i,some _=>some ⟨True,.omp i r,upE own i r (.map [] [])⟩
  | _,_,_=>none
 | .mapUpdate t m k x=>match ed m,tMap P t with
  | .omp id r',some (kt,_)=>match At_ own id with
   | some e=>match e.obj with
    | .map ks vs=>some ⟨e.r=r'∧o.dst=none∧CA_ P kt (ed k)=true∧ks.all (CA_ P kt)=true,.any,upE own id r' (.map (updK ks (ed k)) (updV ks vs (ed k) (ed x)))⟩
    | _=>none
   | none=>none
  | _,_=>none
 | .call c=>match c.callee with
  | .builtin .append=>Mq_ P own o.dst r (c.args.toList.map (ed)) c.argTypes.toList
  | .builtin .clear=>So_ P own (c.args.toList.map (ed)) c.argTypes.toList
  | .builtin .copy=>eCopy P own (c.args.toList.map (ed)) c.argTypes.toList
  | .builtin .delete=>Mp_ P own (c.args.toList.map (ed)) c.argTypes.toList
  | _=>none
 | _=>none
end
section
variable {P : Program} {B : Base} {s : DS} {a : Act} {w : World} {loc : Nat → Loc} {ow : List Nat}
theorem OU_ {own:List Ent} {d:DVal} (h:oneO [] d=true):oneO own d=true:=by
 cases d<;>simp_all [oneO,Hk_,At_,AU_]
theorem Fy_ {ro:Option Nat} {o:Oper} {v:Value} {w':World} {next:Act→World→Prop} {Q:Exit→Act→World→Prop} (hd:∀c,o.op≠ .defer c) (h:(execOp a.eval o).run P w= .ok (.value v) w') (hn:next (a.put o.dst v) w'):o.wpIn (wd ro) 0 P a w next Q:=by
 refine⟨fun _ _=>trivial,?_⟩;rw[Oper.semAt_eq _ _ _ hd,h,Oper.uponIn_value];exact hn
theorem SU_ {ro:Option Nat} {o:Oper} {w':World} {next:Act→World→Prop} {Q:Exit→Act→World→Prop} (hd:∀c,o.op≠ .defer c) (h:(execOp a.eval o).run P w= .ok .skip w') (hn:next (a.put o.dst Go.undef) w'):o.wpIn (wd ro) 0 P a w next Q:=by
 refine⟨fun _ _=>trivial,?_⟩;rw[Oper.semAt_eq _ _ _ hd,h,Oper.uponIn_skip];exact hn
theorem Sr_ {id:Option Nat} {i0 r et k bs:Nat} {es:List (List DVal)} {d:DVal} {v:Value} (R:Rel B s a w loc) (hlim:mxE s.own≤r) (hdest:HC_ s.own et k bs d=some (id,es)) (ra:Rds s loc B.M0 w d v) :
  RowAt s loc w B.M0 (id.getD i0) et k bs es v∧mxR es≤r:=by
 unfold HC_ at hdest
 split at hdest
 ·simp only[aA0,aW0]at hdest;obtain⟨rfl,rfl⟩:=hdest;simp only[Rds,rd]at ra;exact⟨.inl ⟨rfl,ra⟩,by simp[mxR]⟩
 ·rename_i id' r'
  split at hdest
  ·rename_i e0 he0
   split at hdest
   ·rename_i her
    split at hdest
    ·rename_i et' k' bs' es' hob
     split at hdest
     ·rename_i heq;obtain⟨rfl,rfl,rfl⟩:=heq;simp only[aA0,aW0]at hdest;obtain⟨rfl,rfl⟩:=hdest;refine⟨rowAt_osl R.st he0 her hob ra,?_⟩;have:=(AW_ (AD_ he0).1).2;rw[hob]at this;simp only[mxO]at this;omega
     ·simp at hdest
    ·simp at hdest
   ·simp at hdest
  ·simp at hdest
 ·simp at hdest
theorem destOf_mx {own:List Ent} {id:Option Nat} {r et k bs:Nat} {es:List (List DVal)} {d:DVal} (hdest:HC_ own et k bs d=some (id,es)) (hlim:mxE own≤r):mxR es≤r:=by
 unfold HC_ at hdest
 split at hdest
 ·simp only[aA0,aW0]at hdest;obtain⟨_,rfl⟩:=hdest;simp[mxR]
 ·split at hdest
  ·rename_i e0 he0
   split at hdest
   ·split at hdest
    ·rename_i hob
     split at hdest
     ·simp only[aA0,aW0]at hdest;obtain⟨_,rfl⟩:=hdest;have:=(AW_ (AD_ he0).1).2;rw[hob]at this;simp only[mxO]at this;omega
     ·simp at hdest
    ·simp at hdest
   ·simp at hdest
  ·simp at hdest
 ·simp at hdest
theorem Vi_ {own:List Ent} {d:DVal} {id r i m:Nat} {et:TypeId} {k bs:Nat} {es:List (List DVal)} (h:partD own d=some (id,r,i,m,et,k,bs,es)) :
  ∃e bs0,At_ own id=some e∧e.r=r∧e.obj= .row et k bs es∧(d= .osl id r∧i=0∧m=es.length∨d= .vw id r k bs0 i m):=by
 unfold partD at h
 split at h
 ·split at h
  ·rename_i e he
   split at h
   ·rename_i her
    split at h
    ·rename_i hob;simp only[aA0,aW0]at h;obtain⟨rfl,rfl,rfl,rfl,rfl,rfl,rfl,rfl⟩:=h;exact⟨e,0,he,her,hob,.inl ⟨rfl,rfl,rfl⟩⟩
    ·simp at h
   ·simp at h
  ·simp at h
 ·rename_i bs0 _ _
  split at h
  ·rename_i e he
   split at h
   ·rename_i her
    split at h
    ·rename_i hob
     split at h
     ·rename_i hk;simp only[aA0,aW0]at h;obtain⟨rfl,rfl,rfl,rfl,rfl,rfl,rfl,rfl⟩:=h;exact⟨e,bs0,he,her,hob,.inr (by rw[hk])⟩
     ·simp at h
    ·simp at h
   ·simp at h
  ·simp at h
 ·simp at h
theorem UT_ {own:List Ent} {s:DVal} {k2:Nat} {es2:List (List DVal)} {n:Nat} (h:Lv_ own s=some (k2,es2)) (h1:mxE own≤n) (h2:mx s≤n):mxR es2≤n:=by
 unfold Lv_ at h
 split at h
 ·simp only[aA0,aW0]at h;obtain⟨_,rfl⟩:=h;simp[mxR]
 ·simp only[aA0,aW0]at h;obtain⟨_,rfl⟩:=h;simp[mxR]
 ·rw[bE0]at h;obtain⟨⟨k',b',es'⟩,h3,h4⟩:=h;simp only[aW0]at h4;obtain⟨_,rfl⟩:=h4;have:=Lu_ h3;omega
theorem e_wp {o:Oper} {r:Nat} {x:ERes} {ed:Operand→DVal} {next:Act→World→Prop} {Q:Exit→Act→World→Prop} (R:Rel B s a w loc) (hr:lim B s≤r) (hd:Cs_ B.nt o.dst=true) (hed:∀x∈o.op.operands,Rds s loc B.M0 w (ed x) (a.eval x)) (hmd:∀x∈o.op.operands,mx (ed x)≤mxS s.slots) (h:eRes P o ed s.own r=some x) (hp:x.pre)
  (hn:∀a' w' loc',Rel B ⟨putS s.slots o.dst x.d,x.own⟩ a' w' loc'→next a' w'):o.wpIn (wd B.ro) 0 P a w next Q:=by
 have hlim:=hr;unfold lim at hlim;obtain⟨dst,op,type,pos,after,guard⟩:=o;simp only at hd hn ⊢;unfold eRes at h;simp only at h;cases op<;>simp only[reduceCtorEq]at h
 case box t y =>
  cases dst with
  | none=>simp at h
  | some i =>
   simp only[aA0]at h;subst h;simp only at hp hn;obtain⟨h1,h2⟩:=GS_ R.st hp (hed y (by simp[Op.operands,Call.operands]));have:=R.newBox (id:=i) (n:=r) (cs:=AC_ (ed y)) (us:=(a.eval y).cells.toList) (ty:=t) (dst:=some i) hr (by rw[BY_];have:=hmd y (by simp[Op.operands,Call.operands]);omega) (fun j hj=>by simp only[aA0]at hj;subst hj;simpa[Cs_]using hd) h1 h2
   have hrun:(execOp a.eval ⟨some i,.box t y,type,pos,after,guard⟩).run P w= .ok (.value (.pointer (some ⟨w.heap.size,0,none⟩))) (w.alloc (.cells (a.eval y).cells.toList.toArray t)):=by
    simp[execOp,Instr.box,newVar,newRow]
   exact Fy_ (fun c hc=>by cases hc) hrun (hn _ _ _ this)
 case buildSlice t len parts =>
  split at h
  ·rename_i i k bs et ht hte;simp only[aA0]at h;subst h;simp only at hp hn;simp only[nPre,ht]at hp;obtain⟨h1,h2,h3,h4,h5,h6,h7⟩:=hp;have hlen:parts.toList.length=len:=by have:=congrArg List.length h1;simpa using this
   obtain⟨e,us,hu,hrun,hul,hrd⟩:=Hu_ (P:=P) (M0:=B.M0) (vs:=parts.map fun p=>(p.1,a.eval p.2)) R.st ht h5 h2 h3 h4 (ds:=parts.toList.map fun p=>ed p.2) (by rw[eG0,cB0];exact h1) (by simpa using hlen) (by simpa[List.all_map,Function.comp_def]using h6) (by
    intro i d q hd hq;simp only[bI0,bE0,eG0]at hd hq;obtain⟨a',ha,rfl⟩:=hd;obtain⟨b,hb,rfl⟩:=hq;rw[ha]at hb;simp only[aA0]at hb;subst hb
    exact hed a'.2 (by simpa[Op.operands]using ⟨a'.1,by simpa using bL0 ha⟩)) h7
   have hee:e=et:=by unfold tElemId at hte;rw[hu]at hte;simpa using hte
   subst hee
   have hL:∀b0,b0∈(⟨[w.heap.size],.slice (some ⟨w.heap.size,0,none⟩) len len⟩:Loc).blks→b0<(w.alloc (.cells us.toArray e)).heap.size∧((∃e∈s.own,e.id=i∧b0∈(loc i).blks)∨w.heap.size≤b0):=by
    intro b0 hb0;simp only[aE0]at hb0;subst hb0;exact⟨by simp,.inr (Nat.le_refl _)⟩
   have hw:=Upd.alloc (Ab_ s.own loc) w (.cells us.toArray e)
   have hmx:mxR (parts.toList.map fun p=>AC_ (ed p.2))≤r:=by
    refine Pc_ fun cs hm=> ?_
    obtain⟨p,hp,rfl⟩:=aV0.1 hm;rw[BY_];have:=hmd p.2 (by simpa[Op.operands]using ⟨p.1,by simpa using hp⟩);omega
   have W:=R.weakUp (obj:= .row e k bs (parts.toList.map fun p=>AC_ (ed p.2))) (r:=r) hr hw hL (.inl (Nat.le_refl _))
   have R':=R.up (id:=i) (r:=r) (obj:= .row e k bs (parts.toList.map fun p=>AC_ (ed p.2))) (L:=⟨[w.heap.size],.slice (some ⟨w.heap.size,0,none⟩) len len⟩) (v:= .slice (some ⟨w.heap.size,0,none⟩) len len) (d:= .osl i r) (dst:=some i) hr
    (fun j hj=>by simp only[aA0]at hj;subst hj;simpa[Cs_]using hd) hw (fun b hb _=>by simp only[World.alloc,bV0];rw[if_neg (by omega)]) hL (.inl (Nat.le_refl _))
    ⟨by simpa[hlen]using h3,.inr ⟨w.heap.size,us.toArray,len,rfl,by simp[hlen],heap_alloc_new w _,by simp[hlen],by unfold maxLen;omega,by simp[hul],BT_ W k _ _ 0 hmx (by simpa[cB0,Function.comp_def]using hrd)⟩⟩
    (by
     simp only[rd];intro l hl;rw[CL_]at hl;simp only[aA0]at hl
     rw[←hl])
   have hrun':(execOp a.eval ⟨some i,.buildSlice t len parts,type,pos,after,guard⟩).run P w= .ok (.value (.slice (some ⟨w.heap.size,0,none⟩) len len)) (w.alloc (.cells us.toArray e)):=by
    simp[execOp,hrun]
   exact Fy_ (fun c hc=>by cases hc) hrun' (hn _ _ _ R')
  ·simp at h
 case alloc t =>
  cases dst with
  | none=>simp at h
  | some i =>
   split at h
   ·rename_i z hi hz;simp only[aA0]at h hi;subst h;subst hi;simp only at hp hn;obtain⟨zv,hzr,rfl⟩:=GC_ (w:=w) hz;have hus:rdV (cu s loc) (hm s loc B.M0) w.heap (zv.cells.toList.map ofV1) zv.cells.toList:=Be_ _
    have hmx:mxL (zv.cells.toList.map ofV1)=0:=by
     have h1:∀v,mx (ofV1 v)=0:=by
      intro v;unfold ofV1
      split<;>(try split)<;>simp[mx]
     generalize zv.cells.toList=l
     induction l with
     | nil=>simp[mxL]
     | cons v l ih=>simp[mxL,h1,ih]
    have hone:=Fc_ R.st (zv.cells.toList.map ofV1) zv.cells.toList (bA0.2 fun d hd=>OU_ (bA0.1 hp d hd)) hus;have:=R.newBox (id:=i) (n:=r) (cs:=zv.cells.toList.map ofV1) (us:=zv.cells.toList) (ty:=t) (dst:=some i) hr (by omega) (fun j hj=>by simp only[aA0]at hj;subst hj;simpa[Cs_]using hd) hus hone
    have hrun:(execOp a.eval ⟨some i,.alloc t,type,pos,after,guard⟩).run P w= .ok (.value (.pointer (some ⟨w.heap.size,0,none⟩))) (w.alloc (.cells zv.cells.toList.toArray t)):=by
     simp[execOp,Instr.alloc,hzr,newVar,newRow]
    exact Fy_ (fun c hc=>by cases hc) hrun (hn _ _ _ this)
   ·simp at h
 case store t ad y =>
  split at h
  ·rename_i id r' off had
   split at h
   ·rename_i e he
    split at h
    ·rename_i cs hob;simp only[aA0]at h;subst h;simp only at hp hn;obtain⟨her,rfl,hc,hpl,hfit⟩:=hp;have ha:=hed ad (by simp[Op.operands,Call.operands]);rw[had]at ha;obtain⟨w',hrun,R'⟩:=R.storeBox (P:=P) (t:=t) (n:=r) he her hob ha (hed y (by simp[Op.operands,Call.operands])) hpl hc hfit (hmd y (by simp[Op.operands,Call.operands])) hr
     have hrun':(execOp a.eval ⟨none,.store t ad y,type,pos,after,guard⟩).run P w= .ok .skip w':=by
      simp[execOp,hrun]
     exact SU_ (fun c hc=>by cases hc) hrun' (hn _ _ _ R')
    ·simp at h
   ·simp at h
  ·rename_i id r' k i j had;unfold DZ_ at h
   split at h
   ·rename_i e he
    split at h
    ·rename_i et k' bs es hob
     split at h
     ·rename_i c0 hc0;simp only[aA0]at h;subst h;simp only at hp hn;obtain⟨her,rfl,rfl,hc,hpl,hfit⟩:=hp;have ha:=hed ad (by simp[Op.operands,Call.operands]);rw[had]at ha;obtain⟨w',hrun,R'⟩:=R.storeRow (P:=P) (t:=t) (n:=r) he her hob ha (hed y (by simp[Op.operands,Call.operands])) hpl hc hc0 hfit (hmd y (by simp[Op.operands,Call.operands])) hr
      have hrun':(execOp a.eval ⟨none,.store t ad y,type,pos,after,guard⟩).run P w= .ok .skip w':=by
       simp[execOp,hrun]
      exact SU_ (fun c hc=>by cases hc) hrun' (hn _ _ _ R')
     ·simp at h
    ·simp at h
   ·simp at h
  ·simp at h
 case makeSlice t lo co =>
  unfold eMake at h
  split at h
  ·rename_i i k bs et zs kl n kc m ht hte hz hl hc;simp only[aA0]at h;subst h;simp only at hp hn;obtain⟨h1,h2,h3,h4,h5,h6⟩:=hp;have rl:=hed lo (by simp[Op.operands,Call.operands]);have rc:=hed co (by simp[Op.operands,Call.operands]);rw[hl]at rl;rw[hc]at rc;simp only[rd]at rl rc;obtain⟨v',w',L,hrun,R'⟩:=R.makeRow (P:=P) (id:=i) (n:=r) (kl:=kl) (kc:=kc) (dst:=some i) hr (fun j hj=>by simp only[aA0]at hj;subst hj;simpa[Cs_]using hd) ht hte hz h1 h2 h3 h4 h5 h6
   have hrun':(execOp a.eval ⟨some i,.makeSlice t lo co,type,pos,after,guard⟩).run P w= .ok (.value v') w':=by
    simp[execOp,rl.1,rc.1,hrun]
   exact Fy_ (fun c hc=>by cases hc) hrun' (hn _ _ _ R')
  ·simp at h
 case makeMap t rv =>
  split at h
  ·rename_i i kte ht;simp only[aA0]at h;subst h;simp only at hp hn;have:=R.newMap (id:=i) (n:=r) (dst:=some i) hr (fun j hj=>by simp only[aA0]at hj;subst hj;simpa[Cs_]using hd)
   have hrun:(execOp a.eval ⟨some i,.makeMap t none,type,pos,after,guard⟩).run P w= .ok (.value (.map (some w.heap.size))) (w.alloc (.map #[] 0)):=by
    simp[execOp,RowKit.run_makeMap]
   exact Fy_ (fun c hc=>by cases hc) hrun (hn _ _ _ this)
  ·simp at h
 case mapUpdate t m k x =>
  split at h
  ·rename_i id r' kt et hm ht
   split at h
   ·rename_i e he
    split at h
    ·rename_i ks vs hob;simp only[aA0]at h;subst h;simp only at hp hn;obtain⟨her,rfl,hk,hks⟩:=hp;have ha:=hed m (by simp[Op.operands,Call.operands]);rw[hm]at ha;obtain⟨w',hrun,R'⟩:=R.updMap (P:=P) (t:=t) (n:=r) he her hob ha (hed k (by simp[Op.operands,Call.operands])) (hed x (by simp[Op.operands,Call.operands])) ht hk hks (hmd k (by simp[Op.operands,Call.operands])) (hmd x (by simp[Op.operands,Call.operands])) hr
     have hrun':(execOp a.eval ⟨none,.mapUpdate t m k x,type,pos,after,guard⟩).run P w= .ok .skip w':=by
      simp[execOp,hrun]
     exact SU_ (fun c hc=>by cases hc) hrun' (hn _ _ _ R')
    ·simp at h
   ·simp at h
  ·simp at h
 case call c =>
  obtain⟨cal,args,ats⟩:=c;cases cal<;>simp only[reduceCtorEq]at h;rename_i b;cases b<;>simp only[reduceCtorEq]at h;obtain⟨al⟩:=args;obtain⟨tl⟩:=ats
  case append =>
   unfold Mq_ at h
   split at h
   ·rename_i da db t t' hargs hts
    split at h
    ·rename_i i k bs et ht hte
     split at h
     ·rename_i x hstr
      split at h
      ·rename_i id es hdest;simp only[aA0]at h;subst h;simp only at hp hn;obtain⟨ht2,hz,hk,hbs,hb,hl⟩:=hp
       have hdb:db= .str x:=by
        unfold strOf at hstr
        split at hstr
        ·simp only[aA0]at hstr;rw[hstr]
        ·simp at hstr
       match al,hargs with
       | [xa,xb],hargs =>
        simp only[List.map_cons,List.map_nil,bH0,and_true]at hargs;obtain⟨hxa,hxb⟩:=hargs;subst hts;have ra:=hed xa (by simp[Op.operands,Call.operands]);have rb:=hed xb (by simp[Op.operands,Call.operands]);rw[hxa]at ra;rw[hxb,hdb]at rb;simp only[Rds,rd]at rb;have hrow:=Sr_ (i0:=i) (r:=r) R (by omega) hdest ra
        have hu2:P.underlying t'=some .string:=by
         unfold tStr at ht2
         split at ht2
         ·assumption
         ·simp at ht2
        obtain⟨v',w',L,hrun,R'⟩:=R.appendStr (P:=P) (ty:=type) (id:=id.getD i) (n:=r) (x:=x) (dst:=some i) hr (fun j hj=>by simp only[aA0]at hj;subst hj;simpa[Cs_]using hd) ht hte hz (by omega) hrow.1 hrow.2 hu2 hk hb hbs (by unfold maxLen;omega)
        have hrun':(execOp a.eval ⟨some i,.call { callee:= .builtin .append,args:=⟨[xa,xb]⟩,argTypes:=⟨[t,t']⟩ },type,pos,after,guard⟩).run P w= .ok (.value v') w':=by
         simp only[execOp,resolve,Sem.run_bind,dN0,List.map_cons,List.map_nil,Sem.run_pure,Result.andThen_ok,invoke,builtin,rb.1,hrun]
        exact Fy_ (fun c hc=>by cases hc) hrun' (hn _ _ _ R')
      ·simp at h
     split at h
     ·rename_i id es k2 es2 hdest hsrc;simp only[aA0]at h;subst h;simp only at hp hn;obtain⟨rfl,hz,hk,hk2,hbs,hb,hl⟩:=hp
      match al,hargs with
      | [xa,xb],hargs =>
       simp only[List.map_cons,List.map_nil,bH0,and_true]at hargs;obtain⟨hxa,hxb⟩:=hargs;subst hts;have ra:=hed xa (by simp[Op.operands,Call.operands]);have rb:=hed xb (by simp[Op.operands,Call.operands]);rw[hxa]at ra;rw[hxb]at rb;have ma:=hmd xa (by simp[Op.operands,Call.operands]);have mb:=hmd xb (by simp[Op.operands,Call.operands]);rw[hxa]at ma;rw[hxb]at mb;have hrow:=Sr_ (i0:=i) (r:=r) R (by omega) hdest ra
       have hmx2:mxR es2≤r:=by
        unfold Lv_ at hsrc
        split at hsrc
        ·simp only[aA0,aW0]at hsrc;obtain⟨_,rfl⟩:=hsrc;simp[mxR]
        ·simp only[aA0,aW0]at hsrc;obtain⟨_,rfl⟩:=hsrc;simp[mxR]
        ·rw[bE0]at hsrc;obtain⟨⟨k',b',es'⟩,h1,h2⟩:=hsrc;simp only[aW0]at h2;obtain⟨_,rfl⟩:=h2;have:=Lu_ h1;omega
       obtain⟨v',w',L,hrun,R'⟩:=R.append (P:=P) (ty:=type) (id:=id.getD i) (n:=r) (dst:=some i) hr (fun j hj=>by simp only[aA0]at hj;subst hj;simpa[Cs_]using hd) ht hte hz hk hrow.1 hrow.2 rb hsrc hk2 hmx2 hb hbs (by unfold maxLen;omega)
       have hrun':(execOp a.eval ⟨some i,.call { callee:= .builtin .append,args:=⟨[xa,xb]⟩,argTypes:=⟨[t',t']⟩ },type,pos,after,guard⟩).run P w= .ok (.value v') w':=by
        simp only[execOp,resolve,Sem.run_bind,dN0,List.map_cons,List.map_nil,Sem.run_pure,Result.andThen_ok,invoke,builtin,hrun]
       exact Fy_ (fun c hc=>by cases hc) hrun' (hn _ _ _ R')
     ·simp at h
    ·simp at h
   ·simp at h
  case copy =>
   obtain⟨al⟩:=args;obtain⟨tl⟩:=ats;unfold eCopy at h
   split at h
   ·rename_i d sd t t' hargs hts;subst hts
    match al,hargs with
    | [xa,xb],hargs =>
     simp only[List.map_cons,List.map_nil,bH0,and_true]at hargs;obtain⟨hxa,hxb⟩:=hargs;have ra:=hed xa (by simp[Op.operands,Call.operands]);have rb:=hed xb (by simp[Op.operands,Call.operands]);have mb:=hmd xb (by simp[Op.operands,Call.operands]);rw[hxa]at ra;rw[hxb]at rb mb
     split at h
     ·rename_i k k0 id r' i m et k' bs es k2 es2 ht hpart hsrc;simp only[aA0]at h;subst h;simp only at hp;obtain⟨rfl,rfl,hk,hb,hk2⟩:=hp;obtain⟨e,bs0,he,her,hob,hdd⟩:=Vi_ hpart;obtain⟨w',hrun,R'⟩:=R.copyRow (P:=P) (ty:=type) (n:=r) (bs0:=bs0) (dst:=dst) he her hob ra hdd hb ht hk rb hsrc hk2 (UT_ hsrc (by omega) (by omega)) hr (fun j hj=>by subst hj;simpa[Cs_]using hd)
      have hrun':(execOp a.eval ⟨dst,.call { callee:= .builtin .copy,args:=⟨[xa,xb]⟩,argTypes:=⟨[t',t']⟩ },type,pos,after,guard⟩).run P w= .ok (.value (goInt (min es2.length m:Nat))) w':=by
       simp only[execOp,resolve,Sem.run_bind,dN0,List.map_cons,List.map_nil,Sem.run_pure,Result.andThen_ok,invoke,builtin,hrun]
      exact Fy_ (fun c hc=>by cases hc) hrun' (hn _ _ _ R')
     ·simp at h
   ·simp at h
  case clear =>
   obtain⟨al⟩:=args;obtain⟨tl⟩:=ats
   have main:∀{w':World} {own':List Ent} {loc':Nat→Loc} {xa:Operand} {t:TypeId},al=[xa]→tl=[t]→(Builtin.clear_ #[t] type #[a.eval xa]).run P w= .ok (.tuple #[]) w'→Rel B ⟨putS s.slots dst (.tup []),own'⟩ (a.put dst (.tuple #[])) w' loc'→x.d= .tup []→x.own=own' →
     (Oper.mk dst (.call { callee:= .builtin .clear,args:=⟨al⟩,argTypes:=⟨tl⟩ }) type pos after guard).wpIn (wd B.ro) 0 P a w next Q:=by
    intro w' own' loc' xa t hal htl hrun R' hxd hxo;subst hal;subst htl;rw[hxd,hxo]at hn
    have hrun':(execOp a.eval ⟨dst,.call { callee:= .builtin .clear,args:=⟨[xa]⟩,argTypes:=⟨[t]⟩ },type,pos,after,guard⟩).run P w= .ok (.value (.tuple #[])) w':=by
     simp only[execOp,resolve,Sem.run_bind,dN0,List.map_cons,List.map_nil,Sem.run_pure,Result.andThen_ok,invoke,builtin,hrun]
    exact Fy_ (fun c hc=>by cases hc) hrun' (hn _ _ _ R')
   unfold So_ at h
   split at h
   ·rename_i d t hargs hts;subst hts
    match al,hargs with
    | [xa],hargs =>
     simp only[List.map_cons,List.map_nil,bH0,and_true]at hargs;have ra:=hed xa (by simp[Op.operands,Call.operands]);rw[hargs]at ra
     split at h
     ·rename_i k bs0 zs ht hz
      split at h
      ·rename_i id r' 
       split at h
       ·rename_i e he
        split at h
        ·rename_i et k' bs es hob;simp only[aA0]at h;subst h;simp only at hp;obtain⟨her,rfl,h1,h2,h3⟩:=hp;obtain⟨w',hrun,R'⟩:=R.clearRow (P:=P) (t:=t) (ty:=type) (n:=r) (k0:=bs0) (bs0:=0) (e':=0) (dst:=dst) he her hob ra (.inl ⟨rfl,rfl,rfl⟩) (by simp) ht hz h1 h2 h3 hr (fun j hj=>by subst hj;simpa[Cs_]using hd);exact main rfl rfl hrun R' rfl rfl
        ·simp at h
       ·simp at h
      ·rename_i id r' k0 bs1 i m _
       split at h
       ·rename_i e he
        split at h
        ·rename_i et k' bs es hob;simp only[aA0]at h;subst h;simp only at hp;obtain⟨her,rfl,rfl,h1,h2,h3,h4⟩:=hp;obtain⟨w',hrun,R'⟩:=R.clearRow (P:=P) (t:=t) (ty:=type) (n:=r) (k0:=bs0) (bs0:=bs1) (e':=0) (dst:=dst) he her hob ra (.inr rfl) h4 ht hz h1 h2 h3 hr (fun j hj=>by subst hj;simpa[Cs_]using hd);exact main rfl rfl hrun R' rfl rfl
        ·simp at h
       ·simp at h
      ·simp at h
     ·simp at h
   ·simp at h
  case delete =>
   obtain⟨al⟩:=args;obtain⟨tl⟩:=ats;unfold Mp_ at h
   split at h
   ·rename_i dm dk t t2 hargs hts;have htl:tl=[t,t2]:=hts;subst htl
    match al,hargs with
    | [xa,xb],hargs =>
     simp only[List.map_cons,List.map_nil,bH0,and_true]at hargs;obtain⟨hxa,hxb⟩:=hargs;have ra:=hed xa (by simp[Op.operands,Call.operands]);have rb:=hed xb (by simp[Op.operands,Call.operands]);rw[hxa]at ra;rw[hxb]at rb
     split at h
     ·rename_i id r' kt et ht
      split at h
      ·rename_i e he
       split at h
       ·rename_i ks vs hob;simp only[aA0]at h;subst h;simp only at hp hn;obtain⟨her,hk,hks⟩:=hp;obtain⟨w',hrun,R'⟩:=R.delMap (P:=P) (t:=t) (t2:=t2) (ty:=type) (n:=r) (dst:=dst) he her hob ra rb ht hk hks hr (fun j hj=>by subst hj;simpa[Cs_]using hd)
        have hrun':(execOp a.eval ⟨dst,.call { callee:= .builtin .delete,args:=⟨[xa,xb]⟩,argTypes:=⟨[t,t2]⟩ },type,pos,after,guard⟩).run P w= .ok (.value (.tuple #[])) w':=by
         simp only[execOp,resolve,Sem.run_bind,dN0,List.map_cons,List.map_nil,Sem.run_pure,Result.andThen_ok,invoke,builtin,hrun]
        exact Fy_ (fun c hc=>by cases hc) hrun' (hn _ _ _ R')
       ·simp at h
      ·simp at h
     ·simp at h
   ·simp at h
def yH (l:Nat):Abs where
 J:=fun _ bl hd _=>bl=[]∧hd= .func (.yield l) #[] #[]
 weak:=fun _ _ _ _ _ _ _ _ _ h=>h
 one:=by rintro _ _ _ _ ⟨_,rfl⟩;exact⟨rfl,rfl⟩
 nd:=by rintro _ _ _ _ ⟨rfl,_⟩ b hb;cases hb
def YAt (P:Program) (l:Nat) (A:Abs) (args:List DVal) (b:Bool) (A':Abs):Prop :=
 ∀(M bl:List Nat) (hd:Value) (w:World) (vs:Array Value),bl.Nodup→(∀q∈bl,q∈M)→(∀q∈M,q<w.heap.size)→A.J M bl hd w.heap→rdV (fun _ _=>none) M w.heap args vs.toList →
  HD_ P (.yield l) vs w fun v w'=>v= .bool b∧∃bl',Upd bl w w'∧bl'.Nodup∧(∀q∈bl',q<w'.heap.size∧(q∈bl∨w.heap.size≤q)) ∧
   ∀M',(∀q∈M',q∈bl'∨(q∈M∧q∉bl))→A'.J M' bl' hd w'.heap
def pkOf (ed:Operand→DVal) (c:Call):Option (Nat×Nat×List DVal):=match c.callee with
 | .value f=>match ed f with | .pk id r=>some (id,r,c.args.toList.map ed) | _=>none
 | _=>none
def EOut (P:Program) (o:Oper) (ed:Operand→DVal) (own:List Ent) (r:Nat) (d:DVal) (own':List Ent):Prop :=
 (∃x,eRes P o ed own r=some x∧x.pre∧d=x.d∧own'=x.own)∨(∃c g args,o.op= .call c∧callee ed c=some (g,args)∧YA_ P (.func g) args own r d own') ∨
  (∃c id r' args e0 l e A A' b,o.op= .call c∧pkOf ed c=some (id,r',args)∧At_ own id=some e0∧e0.r=r'∧e0.obj= .abs (yH l)∧At_ own (id+1)=some e∧e.obj= .abs A∧mxL args=0∧YAt P l A args b A'∧d= .bool b∧own'=upE own (id+1) r (.abs A'))
def effE (P:Program) (o:Oper) (ed:Operand→DVal) (own:List Ent) (K:ContE):Prop:=∀r,match eRes P o ed own r with | some x=>x.pre∧K.f x.d x.own | none=>False
def Bp_ (P:Program) (g:FuncId) (args:List DVal) (own:List Ent) (K:ContE):Prop:=∀r,∃d own',YA_ P (.func g) args own r d own'∧K.f d own'
def callY (P:Program) (id r':Nat) (args:List DVal) (own:List Ent) (K:ContE):Prop:=∃e0 l e A A' b,At_ own id=some e0∧e0.r=r'∧e0.obj= .abs (yH l)∧At_ own (id+1)=some e∧e.obj= .abs A∧mxL args=0∧YAt P l A args b A'∧∀r,K.f (.bool b) (upE own (id+1) r (.abs A'))
def effX (P:Program) (o:Oper) (ed:Operand→DVal) (own:List Ent) (K:ContE):Prop:=match o.op with
 | .call c=>match callee ed c with
  | some (g,args)=>Bp_ P g args own K
  | none=>match pkOf ed c with
   | some (id,r',args)=>callY P id r' args own K
   | none=>effE P o ed own K
 | _=>effE P o ed own K
theorem Wh_ {P:Program} {o:Oper} {ed:Operand→DVal} {own:List Ent} {K:ContE} (h:effE P o ed own K) (r:Nat):∃d own',EOut P o ed own r d own'∧K.f d own':=by
 have h1:=h r
 split at h1
 ·rename_i x hx;exact⟨x.d,x.own,.inl ⟨x,hx,h1.1,rfl,rfl⟩,h1.2⟩
 ·exact h1.elim
theorem IT_ {P:Program} {o:Oper} {ed:Operand→DVal} {own:List Ent} {K:ContE} (h:effX P o ed own K) (r:Nat):∃d own',EOut P o ed own r d own'∧K.f d own':=by
 unfold effX at h
 split at h
 ·rename_i c hop
  split at h
  ·rename_i g args hc;obtain⟨d,own',h1,h2⟩:=h r;exact⟨d,own',.inr (.inl ⟨c,g,args,hop,hc,h1⟩),h2⟩
  ·split at h
   ·rename_i id r' args hp;obtain⟨e0,l,e,A,A',b,h1,h2,h3,h4,h5,h6,h7,h8⟩:=h;exact⟨_,_,.inr (.inr ⟨c,id,r',args,e0,l,e,A,A',b,hop,hp,h1,h2,h3,h4,h5,h6,h7,rfl,rfl⟩),h8 r⟩
   ·exact Wh_ h r
 ·exact Wh_ h r
theorem spec_wp {o:Oper} {c:Call} {g:FuncId} {args:List DVal} {r:Nat} {d:DVal} {own':List Ent} {ed:Operand→DVal} {next:Act→World→Prop} {Q:Exit→Act→World→Prop} (R:Rel B s a w loc) (hr:lim B s≤r) (hd:Cs_ B.nt o.dst=true) (ho:o.op= .call c)
  (hed:∀x∈o.op.operands,Rds s loc B.M0 w (ed x) (a.eval x)) (hc:callee ed c=some (g,args)) (hS:YA_ P (.func g) args s.own r d own')
  (hn:∀a' w' loc',Rel B ⟨putS s.slots o.dst d,own'⟩ a' w' loc'→next a' w'):o.wpIn (wd B.ro) 0 P a w next Q:=by
 have hlim:=hr;unfold lim at hlim;obtain⟨hE,_,_,hS⟩:=hS;obtain⟨vs,h1,h2⟩:=UR_ (P:=P) (ρ:=a.eval) (M0:=B.M0) ho (fun x hx=>hed x (by rw[ho];exact hx)) hc hE;refine⟨fun _ _=>trivial,?_⟩;rw[Oper.semAt_eq _ _ _ (fun c' hc'=>by rw[ho]at hc';cases hc'),h1,Oper.uponIn_enter];refine⟨fun h=>by simp[wd]at h,Qa_ B.ro _ ?_⟩;refine((hS B.M0 w loc vs (by omega) R.st h2).2).mono ?_;rintro e w' ⟨v,rfl,loc',S',hu,hnew,hver,hrd⟩
 exact hn _ _ loc' (R.step (n:=r) (by omega) (by omega) (Mr_ hd) S' hu hnew hver hrd)
theorem round_wd {P:Program} {l:Nat} {fn:FuncId} {tmps:Array Value} {assign body:Code} {w:World} {R:Ending→World→Prop} (ro:Option Nat) (h:RoundIn (wd none) 0 P l fn tmps assign body w R):RoundIn (wd ro) 0 P l fn tmps assign body w R:=h
theorem yield_wp {o:Oper} {c:Call} {id r' n l:Nat} {args:List DVal} {e0 e:Ent} {A A':Abs} {b:Bool} {ed:Operand→DVal} {next:Act→World→Prop} {Q:Exit→Act→World→Prop} (R:Rel B s a w loc) (hr:lim B s≤n) (hd:Cs_ B.nt o.dst=true) (ho:o.op= .call c)
  (hed:∀x∈o.op.operands,Rds s loc B.M0 w (ed x) (a.eval x)) (hc:pkOf ed c=some (id,r',args)) (he0:At_ s.own id=some e0) (her:e0.r=r') (hob0:e0.obj= .abs (yH l)) (he:At_ s.own (id+1)=some e) (hob:e.obj= .abs A) (hm0:mxL args=0) (hY:YAt P l A args b A')
  (hn:∀a' w' loc',Rel B ⟨putS s.slots o.dst (.bool b),upE s.own (id+1) n (.abs A')⟩ a' w' loc'→next a' w'):o.wpIn (wd B.ro) 0 P a w next Q:=by
 obtain⟨dst,op,type,pos,after,guard⟩:=o;simp only at ho;subst ho;obtain⟨cal,ars,ats⟩:=c;unfold pkOf at hc
 cases cal with
 | builtin _=>simp at hc
 | invoke _ _=>simp at hc
 | value f =>
  simp only at hc
  split at hc
  rotate_left
  ·simp at hc
  rename_i id0 r0 hf;simp only[aA0,aW0]at hc;obtain⟨rfl,rfl,rfl⟩:=hc;obtain⟨hmem0,hid0⟩:=AD_ he0;obtain⟨hmem,hid⟩:=AD_ he;have hcur:Ai_ s.own loc id0 r0=some (loc id0):=by unfold Ai_;rw[he0];simp[her]
  have hx:=hed f (by simp[Op.operands,Call.operands]);rw[hf]at hx;simp only[Rds,rd]at hx;have hv:=hx _ hcur;have hk0:=R.st.ok e0 hmem0;rw[hob0,hid0]at hk0;have hl:(loc id0).hdr= .func (.yield l) #[] #[]:=hk0.2;have hk:=R.st.ok e hmem;rw[hob,hid]at hk
  have hrd:rdV (fun _ _=>none) (Ab_ s.own loc++B.M0) w.heap (ars.toList.map ed) (ars.toList.map a.eval):=by
   have key:∀l:List Operand,(∀x∈l,x∈ars.toList)→rdV (cu s loc) (hm s loc B.M0) w.heap (l.map ed) (l.map a.eval):=by
    intro l
    induction l with
    | nil=>intro _;simp[rdV]
    | cons x l ih =>
     intro hl;simp only[List.map_cons,rdV];exact⟨_,_,rfl,hed x (by have:=hl x aF0;simp[Op.operands,Call.operands];simp at this;exact .inr this),ih fun y hy=>hl y (aD0 _ hy)⟩
   exact AG_ (n:=0) ⟨fun _ _ _ h=>by omega,fun b o _ (_:isD o=true) ho=>ho,fun b o hb (_:isD o=true) _=>hb⟩ _ _ (dJ0 hm0) (key _ (fun _ h=>h))
  have hF:=hY (Ab_ s.own loc++B.M0) (loc (id0+1)).blks (loc (id0+1)).hdr w (ars.map a.eval) (by have:=Cz_ R.st.bl e hmem;rwa[hid]at this) (fun q hq=>aM0 _ (AO_ hmem (by rw[hid];exact hq))) R.st.lt hk (by simpa using hrd);obtain⟨fn,tmps,assign,body,hrun,hround⟩:=hF;refine⟨fun _ _=>trivial,?_⟩
  have hex:(execOp a.eval ⟨dst,.call { callee:= .value f,args:=ars,argTypes:=ats },type,pos,after,guard⟩).run P w= .ok (.round l fn tmps assign body) w:=by
   simp only[execOp,resolve,hv,hl,Deferred.ofValue,Sem.run_bind,Sem.run_pure,Result.andThen_ok,invoke];simpa using hrun
  rw[Oper.semAt_eq _ _ _ (fun c' hc'=>by simp at hc'),hex,Oper.uponIn_round];refine⟨fun h=>by simp[wd]at h,(round_wd B.ro hround).mono ?_⟩;rintro e1 w' ⟨v,rfl,rfl,bl',hu,hnd,hbl,hJ⟩
  have hL:∀b0,b0∈(⟨bl',(loc (id0+1)).hdr⟩:Loc).blks→b0<w'.heap.size∧((∃e∈s.own,e.id=id0+1∧b0∈(loc (id0+1)).blks)∨w.heap.size≤b0):=fun b0 hb0 =>
   ⟨(hbl b0 hb0).1,(hbl b0 hb0).2.imp (fun h=>⟨e,hmem,hid,h⟩) id⟩
  have hu':Upd (Ab_ s.own loc) w w':=⟨hu.os,hu.tape,hu.output,hu.drawn,hu.size,fun q hq hn'=>hu.blk q hq (fun h=>hn' (AO_ hmem (by rw[hid];exact h)))⟩;refine hn _ _ _ (R.up (id:=id0+1) (r:=n) (obj:= .abs A') (L:=⟨bl',(loc (id0+1)).hdr⟩) (v:= .bool b) (d:= .bool b) (dst:=dst) hr (fun j hj=>by subst hj;simpa[Cs_]using hd) hu' (fun q hq hne=>hu.blk q hq (hne e hmem hid)) hL (.inl (Nat.le_refl _)) (hJ _ ?_) (by simp[rd]) hnd)
  intro q hq
  rcases aI0.1 hq with hq | hq
  ·unfold upE at hq;rw[Dh_,PC_]at hq
   rcases aI0.1 hq with hq | hq
   ·simp only[upL,if_true]at hq;exact .inl hq
   ·obtain⟨e2,he2,hne,hb2⟩:=PB_ hq;refine .inr ⟨aM0 _ (AO_ he2 hb2),fun hb3=> ?_⟩;have:=Fo_ R.st.bl e2 he2 e hmem q hb2 (by rw[hid];exact hb3);subst this;exact hne hid
  ·exact .inr ⟨aP0 _ hq,fun hb3=>R.st.ap q (AO_ hmem (by rw[hid];exact hb3)) hq⟩
theorem eo_wp {o:Oper} {r:Nat} {d:DVal} {own':List Ent} {ed:Operand→DVal} {next:Act→World→Prop} {Q:Exit→Act→World→Prop} (R:Rel B s a w loc) (hr:lim B s≤r) (hd:Cs_ B.nt o.dst=true) (hed:∀x∈o.op.operands,Rds s loc B.M0 w (ed x) (a.eval x)) (hmd:∀x∈o.op.operands,mx (ed x)≤mxS s.slots) (h:EOut P o ed s.own r d own')
  (hn:∀a' w' loc',Rel B ⟨putS s.slots o.dst d,own'⟩ a' w' loc'→next a' w'):o.wpIn (wd B.ro) 0 P a w next Q:=by
 rcases h with ⟨x,hx,hp,rfl,rfl⟩ | ⟨c,g,args,hop,hc,hS⟩ | ⟨c,id,r',args,e0,l,e,A,A',b,hop,hc,he0,her,hob0,he,hob,hm0,hY,rfl,rfl⟩
 ·exact e_wp R hr hd hed hmd hx hp hn
 ·exact spec_wp R hr hd hop hed hc hS hn
 ·exact yield_wp R hr hd hop hed hc he0 her hob0 he hob hm0 hY hn
end
def ExtE (a b:List Ent):Prop:=∀id e,At_ a id=some e→At_ b id=some e
section
variable {P : Program} {a b : List Ent} {e : Operand → DVal}
theorem Dp_ (h:ExtE a b) {id r:Nat} (hc:Hk_ a id r=true):Hk_ b id r=true:=by
 unfold Hk_ at hc ⊢
 split at hc
 ·rename_i x hx;rw[h _ _ hx];exact hc
 ·simp at hc
theorem MA_ (h:ExtE a b) {p:DVal} {cs:List DVal} (hc:Db_ a p=some cs):Db_ b p=some cs:=by
 cases p<;>simp only[Db_]at hc ⊢ <;>try exact hc
 ·split at hc
  ·rename_i x hx;rw[h _ _ hx];exact hc
  ·simp at hc
 ·split at hc
  ·rename_i x hx;rw[h _ _ hx];exact hc
  ·simp at hc
theorem DM_ (h:ExtE a b) {p:DVal} {x:Nat×Nat×List (List DVal)} (hc:AU_ a p=some x):AU_ b p=some x:=by
 cases p<;>simp only[AU_]at hc ⊢ <;>try exact hc
 ·split at hc
  ·rename_i y hy;rw[h _ _ hy];exact hc
  ·simp at hc
 ·split at hc
  ·rename_i y hy;rw[h _ _ hy];exact hc
  ·simp at hc
theorem oneO_ext (h:ExtE a b) {d:DVal} (hc:oneO a d=true):oneO b d=true:=by
 cases d<;>simp only[oneO]at hc ⊢ <;>try exact hc
 ·exact Dp_ h hc
 ·exact Dp_ h hc
 ·obtain⟨x,hx⟩:=bK0.1 hc;rw[DM_ h hx];rfl
 ·exact Dp_ h hc
 ·exact Dp_ h hc
 ·split at hc
  ·rename_i e he;rw[h _ e he];exact hc
  ·simp at hc
theorem Jq_ (h:ExtE a b) {d:DVal} (hc:Ck_ a d=true):Ck_ b d=true:=by
 unfold Ck_ at hc ⊢;exact bA0.2 fun x hx=>oneO_ext h (bA0.1 hc x hx)
theorem RH_ (h:ExtE a b) {p:DVal} {x:List DVal×List DVal} (hc:HO_ a p=some x):HO_ b p=some x:=by
 unfold HO_ at hc ⊢
 split at hc
 ·exact hc
 ·exact hc
 ·rename_i id r
  cases hf:At_ a id with
  | none=>rw[hf]at hc;simp at hc
  | some e=>rw[hf]at hc;simp only[h id e hf];exact hc
 ·simp at hc
theorem bVal_ext (h:ExtE a b) {bi:Builtin} {ds:List DVal} {ts:List TypeId} (hp:bPre P a bi ds ts):bPre P b bi ds ts∧bVal b bi ds=bVal a bi ds:=by
 unfold bPre at hp
 split at hp
 ·rename_i d t
  cases d<;>simp only[bPre,bVal]at hp ⊢ <;>first
   | exact⟨hp,trivial⟩
   |(obtain⟨h1,h2⟩:=hp
     obtain⟨x,hx⟩:=bK0.1 h1;rw[hx,DM_ h hx]
     exact⟨⟨rfl,h2⟩,rfl⟩)
   |(obtain⟨h1,h2⟩:=hp
     split at h2
     ·rename_i hx;rw[RH_ h hx];exact⟨⟨h1,h2⟩,rfl⟩
     ·exact h2.elim)
 ·simp only[bPre,bVal];exact⟨hp,trivial⟩
 ·simp only[bPre,bVal];exact⟨hp,trivial⟩
 ·simp only[bPre,bVal];exact⟨hp,trivial⟩
 ·exact hp.elim
theorem n_ext (h:ExtE a b) (op:Op) (hp:nPre P a e op):nPre P b e op∧nVal P b e op=nVal P a e op:=by
 cases op<;>simp only[nPre,nVal]at hp ⊢ <;>first
  | exact⟨hp,trivial⟩
  | exact hp.elim
  | trivial
  | skip
 case fieldAddr t x f =>
  refine⟨?_,trivial⟩
  split at hp
  ·exact hp
  ·exact⟨hp.1,Dp_ h hp.2⟩
  ·exact⟨hp.1,Dp_ h hp.2⟩
  ·exact hp.elim
 case nilCheck x =>
  refine⟨?_,trivial⟩
  split at hp
  ·trivial
  ·exact Dp_ h hp
  ·exact Dp_ h hp
  ·trivial
  ·exact hp.elim
 case load t x =>
  split at hp
  ·rename_i h1 h2 h3;rw[h1,h2,MA_ h h3];exact⟨hp,rfl⟩
  ·rename_i h1 h3;rw[h1,MA_ h h3];exact⟨hp,rfl⟩
  ·exact hp.elim
 case indexAddr t x i =>
  split at hp
  ·rename_i ik n k bs k' bs' es h1 h2 h3;rw[h1,h2,DM_ h h3];refine⟨hp,?_⟩;simp only;cases hx:e x<;>rw[hx]at h3<;>simp only[Gl_];rw[h3,DM_ h h3]
  ·exact hp.elim
 case box t x=>exact⟨Jq_ h hp,trivial⟩
 case slice t x l' h' m =>
  cases hx:e x<;>rw[hx]at hp<;>simp only at hp ⊢ <;>first
   | exact⟨hp,trivial⟩
   | exact hp.elim
   | skip
  ·rename_i id r
   cases hro:AU_ a (.osl id r)with
   | none=>rw[hro]at hp;exact hp.2.elim
   | some y=>rw[hro]at hp;rw[DM_ h hro];exact⟨hp,rfl⟩
  ·obtain⟨h1,h2,h3⟩:=hp;obtain⟨y,hy⟩:=bK0.1 h2;rw[DM_ h hy];exact⟨⟨h1,rfl,h3⟩,trivial⟩
 case lookup t x i ok =>
  split at hp
  ·rename_i h1 h2;rw[h1,RH_ h h2];exact⟨hp,rfl⟩
  ·exact hp.elim
 case build t ps =>
  refine⟨?_,trivial⟩
  split at hp
  ·exact⟨hp.1,bA0.2 fun p hm=>Jq_ h (bA0.1 hp.2.1 p hm),hp.2.2⟩
  ·exact hp.elim
 case buildSlice t n ps =>
  refine⟨?_,trivial⟩
  split at hp
  ·obtain⟨h1,h2,h3,h4,h5,h6,h7⟩:=hp;refine⟨h1,h2,h3,h4,h5,?_,h7⟩;refine bA0.2 fun p hm=> ?_
   have:=bA0.1 h6 p hm;rw[aN0]at this ⊢;exact⟨Jq_ h this.1,this.2⟩
  ·exact hp.elim
 case call c =>
  obtain⟨cal,args,ts⟩:=c
  cases cal with
  | builtin bi=>exact bVal_ext h hp
  | value f=>exact hp.elim
  | invoke r m=>exact hp.elim
end
theorem mxL_mem : ∀{l:List DVal} {d:DVal},d∈l→mx d≤mxL l
 | x::l,d,h=>by
  simp only[mxL]
  rcases aK0.1 h with rfl | h
  ·omega
  ·have:=mxL_mem h;omega
theorem TI_ : ∀{l:List (List DVal)} {d:List DVal},d∈l→mxL d≤mxR l
 | x::l,d,h=>by
  simp only[mxR]
  rcases aK0.1 h with rfl | h
  ·omega
  ·have:=TI_ h;omega
theorem VA_ {n:Nat}:∀{l:List DVal},(∀d∈l,mx d≤n)→mxL l≤n
 | [],_=>by simp[mxL]
 | x::l,h=>by
  simp only[mxL];have:=h x aF0;have:=VA_ (l:=l) fun d hd=>h d (aD0 _ hd)
  omega
theorem mxR_le {n:Nat}:∀{l:List (List DVal)},(∀d∈l,mxL d≤n)→mxR l≤n
 | [],_=>by simp[mxR]
 | x::l,h=>by
  simp only[mxR];have:=h x aF0;have:=mxR_le (l:=l) fun d hd=>h d (aD0 _ hd)
  omega
theorem Vu_ (l:List DVal):mx (l.headD .any)≤mxL l:=by
 cases l with
 | nil=>simp[mx,mxL]
 | cons d l=>simp only[List.headD_cons,mxL];omega
theorem mx_getD (l:List DVal) (i:Nat):mx (l.getD i .any)≤mxL l:=by
 rw[bG0]
 cases h:l[i]? with
 | none=>simp[mx]
 | some d=>exact mxL_mem (bL0 h)
theorem mxR_getD (l:List (List DVal)) (i:Nat):mxL (l.getD i [])≤mxR l:=by
 rw[bG0]
 cases h:l[i]? with
 | none=>simp[mxL]
 | some d=>exact TI_ (bL0 h)
section
variable {P : Program} {own : List Ent} {e : Operand → DVal} {n : Nat}
theorem Ob_ {p:DVal} {cs:List DVal} (hc:Db_ own p=some cs):mxL cs≤max (mx p) (mxE own):=by
 unfold Db_ at hc
 split at hc
 ·simp only[aA0]at hc;subst hc;simp only[mx];omega
 ·split at hc
  ·rename_i x hx
   split at hc
   ·split at hc
    ·rename_i cs0 hob;simp only[aA0]at hc;subst hc;have h1:=(AW_ (AD_ hx).1).2;rw[hob]at h1;simp only[mxO]at h1;exact Nat.le_trans (Ff_ _ _) (by omega)
    ·simp at hc
   ·simp at hc
  ·simp at hc
 ·split at hc
  ·rename_i x hx
   split at hc
   ·split at hc
    ·rename_i es hob
     split at hc
     ·rw[bE0]at hc;obtain⟨c0,h0,rfl⟩:=hc;have h1:=(AW_ (AD_ hx).1).2;rw[hob]at h1;simp only[mxO]at h1;have h2:=TI_ (bL0 h0);exact Nat.le_trans (Ff_ _ _) (by omega)
     ·simp at hc
    ·simp at hc
   ·simp at hc
  ·simp at hc
 ·simp at hc
theorem Wd_ {place:Nat→Option (Nat×Nat)}:∀(ps:List (Nat×DVal)) (z r:List DVal),Km_ place z ps=some r→mxL z≤n→(∀p∈ps,mx p.2≤n)→mxL r≤n
 | [],z,r,h,hz,_=>by simp only[Km_,aA0]at h;subst h;exact hz
 | (i,d)::ps,z,r,h,hz,hp=>by
  simp only[Km_]at h
  split at h
  ·simp at h
  ·split at h
   ·refine Wd_ ps _ r h ?_ fun p hm=>hp p (aD0 _ hm)
    have h2:=hp (i,d) aF0;refine Nat.le_trans (Io_ z _ (AC_ d)) ?_;rw[BY_];simp only at h2;omega
   ·simp at h
theorem Kr_ {t:TypeId} {z:List DVal} (h:tZero P t=some z):mxL z=0:=by
 have h1:∀v,mx (ofV1 v)=0:=by
  intro v;unfold ofV1
  split<;>(try split)<;>simp[mx]
 obtain⟨zv,_,rfl⟩:=GC_ (w:=default) h
 have:mxL (zv.cells.toList.map ofV1)≤0:=VA_ fun d hd=>by
  obtain⟨v,_,rfl⟩:=aV0.1 hd;rw[h1];omega
 omega
theorem dbin_mx {op:BinOp} {t:TypeId} {x y d:DVal} (h:dbin P op t x y=some d):mx d=0:=by
 unfold dbin at h
 repeat' split at h
 all_goals first
  | (simp only[aA0]at h;subst h;rfl)
  | simp at h
theorem bVal_mx {bi:Builtin} {ds:List DVal}:mx (bVal own bi ds)=0:=by
 unfold bVal
 repeat' split
 all_goals rfl
theorem mx_idxVal {d:DVal} {i:Int} (hn:mxE own≤n) (hd:mx d≤n):mx (Gl_ own d i)≤n:=by
 unfold Gl_
 split
 ·rename_i k bs es;simp only[mx]at hd ⊢;exact Nat.le_trans (mxR_getD _ _) hd
 ·split
  ·simpa[mx]using hd
  ·simp[mx]
 ·simpa[mx]using hd
 ·simp[mx]
theorem mx_pickV {t:Bool} {x y:DVal} (hx:mx x≤n) (hy:mx y≤n):mx (LE_ t x y)≤n:=by
 unfold LE_
 split<;>first
  | (simp[mx];done)
  | (split<;>assumption)
theorem mapOf_mx {p:DVal} {ks vs:List DVal} (hc:HO_ own p=some (ks,vs)):mxL vs≤max (mx p) (mxE own):=by
 unfold HO_ at hc
 split at hc
 ·simp only[aA0,aW0]at hc;obtain⟨rfl,rfl⟩:=hc;simp only[mx];omega
 ·simp only[aA0,aW0]at hc;obtain⟨rfl,rfl⟩:=hc;simp[mxL]
 ·split at hc
  ·rename_i e he
   split at hc
   ·split at hc
    ·rename_i hob;simp only[aA0,aW0]at hc;obtain⟨rfl,rfl⟩:=hc;have:=(AW_ (AD_ he).1).2;rw[hob]at this;simp only[mxO]at this;omega
    ·simp at hc
   ·simp at hc
  ·simp at hc
 ·simp at hc
theorem mx_ofV (v:Value):mx (ofV v)=0:=by
 have h1:∀v,mx (ofV1 v)=0:=by
  intro v;unfold ofV1
  split<;>(try split)<;>simp[mx]
 unfold ofV
 split
 ·rename_i cs;simp only[mx]
  generalize cs.toList=l
  induction l with
  | nil=>simp[mxL]
  | cons v l ih=>simp[mxL,h1,ih]
 ·exact h1 _
theorem tZeroD_mx {t:TypeId} {z:DVal} (h:tZeroD P t=some z):mx z=0:=by
 unfold tZeroD at h
 split at h
 ·rw[bE0]at h;obtain⟨v,_,rfl⟩:=h;exact mx_ofV v
 ·simp at h
theorem n_mx (hn:mxE own≤n) (op:Op) (h:∀x∈op.operands,mx (e x)≤n):mx (nVal P own e op)≤n:=by
 have any0:mx DVal.any≤n:=by simp[mx]
 have parts:∀(ps:Array (Nat×Operand)),(∀x∈(ps.toList.map (·.2)).toArray,mx (e x)≤n)→∀p∈ps.toList,mx (e p.2)≤n:=by
  intro ps h p hp;exact h p.2 (by simpa using ⟨p.1,by simpa using hp⟩)
 cases op<;>simp only[Op.operands]at h<;>simp only[nVal]<;>try exact any0
 case move x=>exact h x (by simp)
 case assign x=>exact h x (by simp)
 case nilCheck x=>exact h x (by simp)
 case pick c x y =>
  split
  ·exact mx_pickV (h x (by simp)) (h y (by simp))
  ·exact any0
 case fieldAddr t x f =>
  have:=h x (by simp)
  split
  ·rename_i hx;rw[hx]at this;simp only[mx]at this ⊢;exact Nat.le_trans (Ff_ _ _) this
  ·rename_i hx;rw[hx]at this;simpa[mx]using this
  ·rename_i hx;rw[hx]at this;simpa[mx]using this
  ·exact any0
 case load t x =>
  have:=h x (by simp)
  split
  ·rename_i h3;have:=Ob_ h3;simp only[mx];exact Nat.le_trans (KB_ _ _) (by omega)
  ·rename_i h3;have:=Ob_ h3;exact Nat.le_trans (Vu_ _) (by omega)
  ·exact any0
 case indexAddr t x i =>
  split
  ·exact mx_idxVal hn (h x (by simp))
  ·exact any0
 case index t x i =>
  split
  ·simp[mx]
  ·exact any0
 case field t x f =>
  have:=h x (by simp)
  split
  ·rename_i hx;rw[hx]at this;simp only[mx]at this
   split
   ·simp only[mx];exact Nat.le_trans (KB_ _ _) (Nat.le_trans (Ff_ _ _) this)
   ·exact Nat.le_trans (Vu_ _) (Nat.le_trans (Ff_ _ _) this)
  ·exact any0
 case binOp op t x y yt =>
  cases hd:dbin P op t (e x) (e y)with
  | none=>exact any0
  | some d=>simp[dbin_mx hd]
 case unOp op t x =>
  split
  ·simp[mx]
  ·simp[mx]
  ·exact any0
 case convert src dst x =>
  have:=h x (by simp)
  split
  ·split
   ·simp[mx]
   ·exact any0
  ·exact this
 case extract x i =>
  have:=h x (by simp)
  split
  ·rename_i hx;rw[hx]at this;simp only[mx]at this;exact Nat.le_trans (mx_getD _ _) this
  ·exact any0
 case makeFunc f us cs =>
  simp only[mx]
  have h1:mxL (us.toList.map e)≤n:=VA_ fun d hd=>by
   obtain⟨x,hx,rfl⟩:=aV0.1 hd;exact h x (by simp;left;simpa using hx)
  have h2:mxL (cs.toList.map e)≤n:=VA_ fun d hd=>by
   obtain⟨x,hx,rfl⟩:=aV0.1 hd;exact h x (by simp;right;simpa using hx)
  omega
 case makeInterface t x=>simp only[mx];exact h x (by simp)
 case slice t x l h' m =>
  have:=h x (by simp)
  split
  ·rename_i hx;rw[hx]at this;simp only[mx]at this ⊢;exact Nat.le_trans (Fd_ _ _) (Nat.le_trans (Fe_ _ _) this)
  ·simp[mx]
  ·rename_i hx;rw[hx]at this
   split
   ·simpa[mx]using this
   ·exact any0
  ·rename_i hx;rw[hx]at this;simpa[mx]using this
  ·simp[mx]
  ·exact any0
 case lookup t x i ok =>
  have hx:=h x (by simp)
  split
  ·rename_i kt et ks vs ht hc;have hvs:=mapOf_mx hc
   have key:mx (match AQ_ ks (e i)with | some j=>vs.getD j .any | none=>(tZeroD P et).getD .any)≤n:=by
    split
    ·exact Nat.le_trans (mx_getD _ _) (by omega)
    ·cases hz:tZeroD P et with
     | none=>exact any0
     | some z=>simp[tZeroD_mx hz]
   cases ok
   ·exact key
   ·exact eD0.2 ⟨key,by simp[mx,mxL]⟩
  ·exact any0
 case box t x=>simp only[mx,BY_];exact h x (by simp)
 case build t ps =>
  have hp:=parts ps h
  split
  ·rename_i z hz;simp only[mx]
   cases hf:Km_ (Lj_ P t) z (ps.toList.map fun p=>(p.1,e p.2))with
   | none=>simp[mxL]
   | some r =>
    refine Wd_ _ z r hf (by rw[Kr_ hz];omega) ?_;intro p hm;obtain⟨q,hq,rfl⟩:=aV0.1 hm;exact hp q hq
  ·exact any0
 case buildSlice t len ps =>
  have hp:=parts ps h
  split
  ·simp only[mx];refine mxR_le fun cs hm=> ?_
   obtain⟨q,hq,rfl⟩:=aV0.1 hm;rw[BY_];exact hp q hq
  ·exact any0
 case call c =>
  split
  ·rw[bVal_mx];omega
  ·exact any0
theorem Vt_ {l:List (Nat×DVal)}:∀xs:List Operand,okL true (ev l) xs→∀x∈xs,mx (AT_ l x)≤mx (ev l x)
 | [],_,x,hx=>by cases hx
 | y::ys,h,x,hx=>by
  simp only[okL]at h
  rcases aK0.1 hx with rfl | hx
  ·unfold AT_;cases hq:ev l x<;>simp only[Ll_]<;>try exact Nat.le_refl _
   rw[hq]at h;simp only[okG]at h;simp[mx,h.1 trivial]
  ·exact Vt_ ys h.2 x hx
theorem RC_ {l:List (Nat×DVal)} {x:Operand} (h:okG true (ev l x)):mx (AT_ l x)≤mx (ev l x):=by
 unfold AT_;cases hq:ev l x<;>simp only[Ll_]<;>try exact Nat.le_refl _
 rw[hq]at h;simp only[okG]at h;simp[mx,h trivial]
theorem TF_ (t:Bool) (x y:DVal):mx (LE_ t x y)≤mx (if t then x else y):=by
 unfold LE_
 split<;>first
  | (simp[mx];done)
  | exact Nat.le_refl _
theorem okOp_mx {l:List (Nat×DVal)} {op:Op} (hok:okOp true (ev l) op) (hp:nPre P own (AT_ l) op) (hn:mxE own≤n) (h:∀x∈op.operands,mx (ev l x)≤n):mx (nVal P own (AT_ l) op)≤n:=by
 by_cases hpk:∃x a b,op= .pick x a b
 ·obtain⟨x,a,b,rfl⟩:=hpk;simp only[okOp]at hok;obtain⟨h1,h2⟩:=hok;simp only[nPre]at hp;cases hx:AT_ l x<;>rw[hx]at hp<;>try exact hp.elim
  rename_i t;have h2:=h2 t hx;simp only[nVal,hx];refine Nat.le_trans (TF_ _ _ _) ?_;cases t
  ·exact Nat.le_trans (RC_ (h2.2 rfl)) (h b (by simp[Op.operands]))
  ·exact Nat.le_trans (RC_ (h2.1 rfl)) (h a (by simp[Op.operands]))
 ·have hok':okL true (ev l) op.operands.toList:=by
   unfold okOp at hok
   split at hok
   ·exact absurd ⟨_,_,_,rfl⟩ hpk
   ·exact hok
  exact n_mx hn op fun x hx=>Nat.le_trans (Vt_ _ hok' x (by simpa using hx)) (h x hx)
end
end Go.Dm
end
