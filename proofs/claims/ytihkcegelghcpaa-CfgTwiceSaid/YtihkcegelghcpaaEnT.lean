/- The data machine, second make, part T: which definitions the walk's simp opens, for own objects. -/
import Derived.Test.YtihkcegelghcpaaEnS
set_option linter.unusedSimpArgs false
set_option linter.unusedVariables false
namespace Go.Dm
attribute [simp] kQ_f dOpsC_f dOpsX_nil dOpsX_cons isEff eRes eAppend eStoreRow eMake eClear effG effSel_f pkOf destOf rowsN upE appOK isApp isBoxE ownM freezeL freezeS frz1 frz2 frzD frzO frzE DretF renR okR okRs ren2 ok2 ok2s ren3 ok3 ok3s renD okD renO okO phiOf outE outOK DretS idRho slotOK slotsOK adoptC adoptOK truncS truncOK
attribute [simp] mx mxL mxR mxR_append mxL_append
@[simp] theorem mxR_take0 {l : List (List DVal)} {k : Nat} (h : mxR l = 0) : mxR (l.take k) = 0 := Nat.le_zero.1 (h ▸ mxR_take k l)
@[simp] theorem mxR_drop0 {l : List (List DVal)} {k : Nat} (h : mxR l = 0) : mxR (l.drop k) = 0 := Nat.le_zero.1 (h ▸ mxR_drop k l)
@[simp] theorem range3 : List.range 3 = [0, 1, 2] := rfl
@[simp] theorem range4 : List.range 4 = [0, 1, 2, 3] := rfl
@[simp] theorem range5 : List.range 5 = [0, 1, 2, 3, 4] := rfl
@[simp] theorem range6 : List.range 6 = [0, 1, 2, 3, 4, 5] := rfl
end Go.Dm
