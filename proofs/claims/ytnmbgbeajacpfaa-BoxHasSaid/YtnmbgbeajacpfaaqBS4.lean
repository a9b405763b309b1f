/- Parts of a proof, laid together: EnFacts, EnR, EnQ, EnI3, EnI4. -/
import Derived.Test.YtnmbgbeajacpfaaChecked
import Derived.KernelRfl
import Derived.Laws.CopyRow
import Derived.Lib.AppendStr
import Derived.Test.YtnmbgbeajacpfaaqBS3
section
/- The type table's facts for the data machine. Written by facts.py. -/



set_option maxRecDepth 100000
namespace Go.Proofs
open Go
@[simp] theorem Try.dm_agg1 : Dm.tAgg Try.prog 1 = some false := by kernel_rfl
@[simp] theorem Try.dm_cells1 : Dm.tCells Try.prog 1 = some 1 := by kernel_rfl
@[simp] theorem Try.dm_und1 : (Program.underlying Try.prog 1).isSome = true := by kernel_rfl
@[simp] theorem Try.dm_str1 : Dm.tStr Try.prog 1 = false := by kernel_rfl
@[simp] theorem Try.dm_bool1 : Dm.tBool Try.prog 1 = false := by kernel_rfl
@[simp] theorem Try.dm_sl1 : Dm.tSl Try.prog 1 = false := by kernel_rfl
@[simp] theorem Try.dm_ptr1 : Dm.tPtr Try.prog 1 = false := by kernel_rfl
@[simp] theorem Try.dm_zero1 : Dm.tZero Try.prog 1 = some [.nilfn] := by kernel_rfl
@[simp] theorem Try.dm_agg2 : Dm.tAgg Try.prog 2 = some false := by kernel_rfl
@[simp] theorem Try.dm_cells2 : Dm.tCells Try.prog 2 = some 1 := by kernel_rfl
@[simp] theorem Try.dm_und2 : (Program.underlying Try.prog 2).isSome = true := by kernel_rfl
@[simp] theorem Try.dm_int2 : Dm.tInt Try.prog 2 = some .i64 := by kernel_rfl
@[simp] theorem Try.dm_str2 : Dm.tStr Try.prog 2 = false := by kernel_rfl
@[simp] theorem Try.dm_bool2 : Dm.tBool Try.prog 2 = false := by kernel_rfl
@[simp] theorem Try.dm_sl2 : Dm.tSl Try.prog 2 = false := by kernel_rfl
@[simp] theorem Try.dm_ptr2 : Dm.tPtr Try.prog 2 = false := by kernel_rfl
@[simp] theorem Try.dm_zero2 : Dm.tZero Try.prog 2 = some [.int .i64 0] := by kernel_rfl
@[simp] theorem Try.dm_agg3 : Dm.tAgg Try.prog 3 = some false := by kernel_rfl
@[simp] theorem Try.dm_cells3 : Dm.tCells Try.prog 3 = some 1 := by kernel_rfl
@[simp] theorem Try.dm_und3 : (Program.underlying Try.prog 3).isSome = true := by kernel_rfl
@[simp] theorem Try.dm_int3 : Dm.tInt Try.prog 3 = some .i64 := by kernel_rfl
@[simp] theorem Try.dm_str3 : Dm.tStr Try.prog 3 = false := by kernel_rfl
@[simp] theorem Try.dm_bool3 : Dm.tBool Try.prog 3 = false := by kernel_rfl
@[simp] theorem Try.dm_sl3 : Dm.tSl Try.prog 3 = false := by kernel_rfl
@[simp] theorem Try.dm_ptr3 : Dm.tPtr Try.prog 3 = false := by kernel_rfl
@[simp] theorem Try.dm_zero3 : Dm.tZero Try.prog 3 = some [.int .i64 0] := by kernel_rfl
@[simp] theorem Try.dm_agg4 : Dm.tAgg Try.prog 4 = some false := by kernel_rfl
@[simp] theorem Try.dm_cells4 : Dm.tCells Try.prog 4 = some 1 := by kernel_rfl
@[simp] theorem Try.dm_und4 : (Program.underlying Try.prog 4).isSome = true := by kernel_rfl
@[simp] theorem Try.dm_str4 : Dm.tStr Try.prog 4 = false := by kernel_rfl
@[simp] theorem Try.dm_bool4 : Dm.tBool Try.prog 4 = true := by kernel_rfl
@[simp] theorem Try.dm_sl4 : Dm.tSl Try.prog 4 = false := by kernel_rfl
@[simp] theorem Try.dm_ptr4 : Dm.tPtr Try.prog 4 = false := by kernel_rfl
@[simp] theorem Try.dm_zero4 : Dm.tZero Try.prog 4 = some [.bool false] := by kernel_rfl
@[simp] theorem Try.dm_agg5 : Dm.tAgg Try.prog 5 = some false := by kernel_rfl
@[simp] theorem Try.dm_cells5 : Dm.tCells Try.prog 5 = some 1 := by kernel_rfl
@[simp] theorem Try.dm_und5 : (Program.underlying Try.prog 5).isSome = true := by kernel_rfl
@[simp] theorem Try.dm_int5 : Dm.tInt Try.prog 5 = some .u8 := by kernel_rfl
@[simp] theorem Try.dm_str5 : Dm.tStr Try.prog 5 = false := by kernel_rfl
@[simp] theorem Try.dm_bool5 : Dm.tBool Try.prog 5 = false := by kernel_rfl
@[simp] theorem Try.dm_sl5 : Dm.tSl Try.prog 5 = false := by kernel_rfl
@[simp] theorem Try.dm_ptr5 : Dm.tPtr Try.prog 5 = false := by kernel_rfl
@[simp] theorem Try.dm_zero5 : Dm.tZero Try.prog 5 = some [.int .u8 0] := by kernel_rfl
@[simp] theorem Try.dm_agg6 : Dm.tAgg Try.prog 6 = some false := by kernel_rfl
@[simp] theorem Try.dm_cells6 : Dm.tCells Try.prog 6 = some 1 := by kernel_rfl
@[simp] theorem Try.dm_und6 : (Program.underlying Try.prog 6).isSome = true := by kernel_rfl
@[simp] theorem Try.dm_int6 : Dm.tInt Try.prog 6 = some .u8 := by kernel_rfl
@[simp] theorem Try.dm_str6 : Dm.tStr Try.prog 6 = false := by kernel_rfl
@[simp] theorem Try.dm_bool6 : Dm.tBool Try.prog 6 = false := by kernel_rfl
@[simp] theorem Try.dm_sl6 : Dm.tSl Try.prog 6 = false := by kernel_rfl
@[simp] theorem Try.dm_ptr6 : Dm.tPtr Try.prog 6 = false := by kernel_rfl
@[simp] theorem Try.dm_zero6 : Dm.tZero Try.prog 6 = some [.int .u8 0] := by kernel_rfl
@[simp] theorem Try.dm_agg7 : Dm.tAgg Try.prog 7 = some true := by kernel_rfl
@[simp] theorem Try.dm_cells7 : Dm.tCells Try.prog 7 = some 4 := by kernel_rfl
@[simp] theorem Try.dm_und7 : (Program.underlying Try.prog 7).isSome = true := by kernel_rfl
@[simp] theorem Try.dm_str7 : Dm.tStr Try.prog 7 = false := by kernel_rfl
@[simp] theorem Try.dm_bool7 : Dm.tBool Try.prog 7 = false := by kernel_rfl
@[simp] theorem Try.dm_sl7 : Dm.tSl Try.prog 7 = false := by kernel_rfl
@[simp] theorem Try.dm_ptr7 : Dm.tPtr Try.prog 7 = false := by kernel_rfl
@[simp] theorem Try.dm_zero7 : Dm.tZero Try.prog 7 = some [.int .i64 0, .int .i64 0, .bool false, .int .u8 0] := by kernel_rfl
@[simp] theorem Try.dm_field7_0 : Dm.tField Try.prog 7 0 = some (0, 1, false) := by kernel_rfl
@[simp] theorem Try.dm_field7_1 : Dm.tField Try.prog 7 1 = some (1, 1, false) := by kernel_rfl
@[simp] theorem Try.dm_field7_2 : Dm.tField Try.prog 7 2 = some (2, 1, false) := by kernel_rfl
@[simp] theorem Try.dm_field7_3 : Dm.tField Try.prog 7 3 = some (3, 1, false) := by kernel_rfl
@[simp] theorem Try.dm_eqg7 : Program.eqGuardType Try.prog Try.prog.depth 7 = false := by kernel_rfl
@[simp] theorem Try.dm_flat7 : Dm.flat Try.prog 10000 7 = some [.i .i64, .i .i64, .b, .i .u8] := by kernel_rfl
@[simp] theorem Try.dm_parts7 : Dm.tParts Try.prog 7 = true := by kernel_rfl
@[simp] theorem Try.dm_agg8 : Dm.tAgg Try.prog 8 = some true := by kernel_rfl
@[simp] theorem Try.dm_cells8 : Dm.tCells Try.prog 8 = some 4 := by kernel_rfl
@[simp] theorem Try.dm_und8 : (Program.underlying Try.prog 8).isSome = true := by kernel_rfl
@[simp] theorem Try.dm_str8 : Dm.tStr Try.prog 8 = false := by kernel_rfl
@[simp] theorem Try.dm_bool8 : Dm.tBool Try.prog 8 = false := by kernel_rfl
@[simp] theorem Try.dm_sl8 : Dm.tSl Try.prog 8 = false := by kernel_rfl
@[simp] theorem Try.dm_ptr8 : Dm.tPtr Try.prog 8 = false := by kernel_rfl
@[simp] theorem Try.dm_zero8 : Dm.tZero Try.prog 8 = some [.int .i64 0, .int .i64 0, .bool false, .int .u8 0] := by kernel_rfl
@[simp] theorem Try.dm_field8_0 : Dm.tField Try.prog 8 0 = some (0, 1, false) := by kernel_rfl
@[simp] theorem Try.dm_field8_1 : Dm.tField Try.prog 8 1 = some (1, 1, false) := by kernel_rfl
@[simp] theorem Try.dm_field8_2 : Dm.tField Try.prog 8 2 = some (2, 1, false) := by kernel_rfl
@[simp] theorem Try.dm_field8_3 : Dm.tField Try.prog 8 3 = some (3, 1, false) := by kernel_rfl
@[simp] theorem Try.dm_eqg8 : Program.eqGuardType Try.prog Try.prog.depth 8 = false := by kernel_rfl
@[simp] theorem Try.dm_flat8 : Dm.flat Try.prog 10000 8 = some [.i .i64, .i .i64, .b, .i .u8] := by kernel_rfl
@[simp] theorem Try.dm_parts8 : Dm.tParts Try.prog 8 = true := by kernel_rfl
@[simp] theorem Try.dm_agg9 : Dm.tAgg Try.prog 9 = some false := by kernel_rfl
@[simp] theorem Try.dm_cells9 : Dm.tCells Try.prog 9 = some 1 := by kernel_rfl
@[simp] theorem Try.dm_und9 : (Program.underlying Try.prog 9).isSome = true := by kernel_rfl
@[simp] theorem Try.dm_str9 : Dm.tStr Try.prog 9 = true := by kernel_rfl
@[simp] theorem Try.dm_bool9 : Dm.tBool Try.prog 9 = false := by kernel_rfl
@[simp] theorem Try.dm_sl9 : Dm.tSl Try.prog 9 = false := by kernel_rfl
@[simp] theorem Try.dm_ptr9 : Dm.tPtr Try.prog 9 = false := by kernel_rfl
@[simp] theorem Try.dm_zero9 : Dm.tZero Try.prog 9 = some [.str ⟨#[]⟩] := by kernel_rfl
@[simp] theorem Try.dm_agg10 : Dm.tAgg Try.prog 10 = some false := by kernel_rfl
@[simp] theorem Try.dm_cells10 : Dm.tCells Try.prog 10 = some 1 := by kernel_rfl
@[simp] theorem Try.dm_und10 : (Program.underlying Try.prog 10).isSome = true := by kernel_rfl
@[simp] theorem Try.dm_str10 : Dm.tStr Try.prog 10 = true := by kernel_rfl
@[simp] theorem Try.dm_bool10 : Dm.tBool Try.prog 10 = false := by kernel_rfl
@[simp] theorem Try.dm_sl10 : Dm.tSl Try.prog 10 = false := by kernel_rfl
@[simp] theorem Try.dm_ptr10 : Dm.tPtr Try.prog 10 = false := by kernel_rfl
@[simp] theorem Try.dm_zero10 : Dm.tZero Try.prog 10 = some [.str ⟨#[]⟩] := by kernel_rfl
@[simp] theorem Try.dm_agg11 : Dm.tAgg Try.prog 11 = some false := by kernel_rfl
@[simp] theorem Try.dm_cells11 : Dm.tCells Try.prog 11 = some 1 := by kernel_rfl
@[simp] theorem Try.dm_und11 : (Program.underlying Try.prog 11).isSome = true := by kernel_rfl
@[simp] theorem Try.dm_str11 : Dm.tStr Try.prog 11 = true := by kernel_rfl
@[simp] theorem Try.dm_bool11 : Dm.tBool Try.prog 11 = false := by kernel_rfl
@[simp] theorem Try.dm_sl11 : Dm.tSl Try.prog 11 = false := by kernel_rfl
@[simp] theorem Try.dm_ptr11 : Dm.tPtr Try.prog 11 = false := by kernel_rfl
@[simp] theorem Try.dm_zero11 : Dm.tZero Try.prog 11 = some [.str ⟨#[]⟩] := by kernel_rfl
@[simp] theorem Try.dm_agg12 : Dm.tAgg Try.prog 12 = some false := by kernel_rfl
@[simp] theorem Try.dm_cells12 : Dm.tCells Try.prog 12 = some 1 := by kernel_rfl
@[simp] theorem Try.dm_und12 : (Program.underlying Try.prog 12).isSome = true := by kernel_rfl
@[simp] theorem Try.dm_int12 : Dm.tInt Try.prog 12 = some .u64 := by kernel_rfl
@[simp] theorem Try.dm_str12 : Dm.tStr Try.prog 12 = false := by kernel_rfl
@[simp] theorem Try.dm_bool12 : Dm.tBool Try.prog 12 = false := by kernel_rfl
@[simp] theorem Try.dm_sl12 : Dm.tSl Try.prog 12 = false := by kernel_rfl
@[simp] theorem Try.dm_ptr12 : Dm.tPtr Try.prog 12 = false := by kernel_rfl
@[simp] theorem Try.dm_zero12 : Dm.tZero Try.prog 12 = some [.int .u64 0] := by kernel_rfl
@[simp] theorem Try.dm_agg13 : Dm.tAgg Try.prog 13 = some true := by kernel_rfl
@[simp] theorem Try.dm_cells13 : Dm.tCells Try.prog 13 = some 2 := by kernel_rfl
@[simp] theorem Try.dm_und13 : (Program.underlying Try.prog 13).isSome = true := by kernel_rfl
@[simp] theorem Try.dm_str13 : Dm.tStr Try.prog 13 = false := by kernel_rfl
@[simp] theorem Try.dm_bool13 : Dm.tBool Try.prog 13 = false := by kernel_rfl
@[simp] theorem Try.dm_sl13 : Dm.tSl Try.prog 13 = false := by kernel_rfl
@[simp] theorem Try.dm_ptr13 : Dm.tPtr Try.prog 13 = false := by kernel_rfl
@[simp] theorem Try.dm_zero13 : Dm.tZero Try.prog 13 = some [.str ⟨#[]⟩, .int .u64 0] := by kernel_rfl
@[simp] theorem Try.dm_field13_0 : Dm.tField Try.prog 13 0 = some (0, 1, false) := by kernel_rfl
@[simp] theorem Try.dm_field13_1 : Dm.tField Try.prog 13 1 = some (1, 1, false) := by kernel_rfl
@[simp] theorem Try.dm_eqg13 : Program.eqGuardType Try.prog Try.prog.depth 13 = false := by kernel_rfl
@[simp] theorem Try.dm_parts13 : Dm.tParts Try.prog 13 = true := by kernel_rfl
@[simp] theorem Try.dm_agg14 : Dm.tAgg Try.prog 14 = some true := by kernel_rfl
@[simp] theorem Try.dm_cells14 : Dm.tCells Try.prog 14 = some 2 := by kernel_rfl
@[simp] theorem Try.dm_und14 : (Program.underlying Try.prog 14).isSome = true := by kernel_rfl
@[simp] theorem Try.dm_str14 : Dm.tStr Try.prog 14 = false := by kernel_rfl
@[simp] theorem Try.dm_bool14 : Dm.tBool Try.prog 14 = false := by kernel_rfl
@[simp] theorem Try.dm_sl14 : Dm.tSl Try.prog 14 = false := by kernel_rfl
@[simp] theorem Try.dm_ptr14 : Dm.tPtr Try.prog 14 = false := by kernel_rfl
@[simp] theorem Try.dm_zero14 : Dm.tZero Try.prog 14 = some [.str ⟨#[]⟩, .int .u64 0] := by kernel_rfl
@[simp] theorem Try.dm_field14_0 : Dm.tField Try.prog 14 0 = some (0, 1, false) := by kernel_rfl
@[simp] theorem Try.dm_field14_1 : Dm.tField Try.prog 14 1 = some (1, 1, false) := by kernel_rfl
@[simp] theorem Try.dm_eqg14 : Program.eqGuardType Try.prog Try.prog.depth 14 = false := by kernel_rfl
@[simp] theorem Try.dm_parts14 : Dm.tParts Try.prog 14 = true := by kernel_rfl
@[simp] theorem Try.dm_agg15 : Dm.tAgg Try.prog 15 = some false := by kernel_rfl
@[simp] theorem Try.dm_cells15 : Dm.tCells Try.prog 15 = some 1 := by kernel_rfl
@[simp] theorem Try.dm_und15 : (Program.underlying Try.prog 15).isSome = true := by kernel_rfl
@[simp] theorem Try.dm_str15 : Dm.tStr Try.prog 15 = false := by kernel_rfl
@[simp] theorem Try.dm_bool15 : Dm.tBool Try.prog 15 = false := by kernel_rfl
@[simp] theorem Try.dm_sl15 : Dm.tSl Try.prog 15 = false := by kernel_rfl
@[simp] theorem Try.dm_ptr15 : Dm.tPtr Try.prog 15 = true := by kernel_rfl
@[simp] theorem Try.dm_zero15 : Dm.tZero Try.prog 15 = some [.nilp] := by kernel_rfl
@[simp] theorem Try.dm_agg16 : Dm.tAgg Try.prog 16 = some false := by kernel_rfl
@[simp] theorem Try.dm_cells16 : Dm.tCells Try.prog 16 = some 1 := by kernel_rfl
@[simp] theorem Try.dm_und16 : (Program.underlying Try.prog 16).isSome = true := by kernel_rfl
@[simp] theorem Try.dm_str16 : Dm.tStr Try.prog 16 = false := by kernel_rfl
@[simp] theorem Try.dm_bool16 : Dm.tBool Try.prog 16 = false := by kernel_rfl
@[simp] theorem Try.dm_sl16 : Dm.tSl Try.prog 16 = false := by kernel_rfl
@[simp] theorem Try.dm_ptr16 : Dm.tPtr Try.prog 16 = true := by kernel_rfl
@[simp] theorem Try.dm_zero16 : Dm.tZero Try.prog 16 = some [.nilp] := by kernel_rfl
@[simp] theorem Try.dm_agg17 : Dm.tAgg Try.prog 17 = some false := by kernel_rfl
@[simp] theorem Try.dm_cells17 : Dm.tCells Try.prog 17 = some 1 := by kernel_rfl
@[simp] theorem Try.dm_und17 : (Program.underlying Try.prog 17).isSome = true := by kernel_rfl
@[simp] theorem Try.dm_str17 : Dm.tStr Try.prog 17 = false := by kernel_rfl
@[simp] theorem Try.dm_bool17 : Dm.tBool Try.prog 17 = false := by kernel_rfl
@[simp] theorem Try.dm_sl17 : Dm.tSl Try.prog 17 = false := by kernel_rfl
@[simp] theorem Try.dm_ptr17 : Dm.tPtr Try.prog 17 = true := by kernel_rfl
@[simp] theorem Try.dm_zero17 : Dm.tZero Try.prog 17 = some [.nilp] := by kernel_rfl
@[simp] theorem Try.dm_agg18 : Dm.tAgg Try.prog 18 = some true := by kernel_rfl
@[simp] theorem Try.dm_cells18 : Dm.tCells Try.prog 18 = some 1 := by kernel_rfl
@[simp] theorem Try.dm_und18 : (Program.underlying Try.prog 18).isSome = true := by kernel_rfl
@[simp] theorem Try.dm_str18 : Dm.tStr Try.prog 18 = false := by kernel_rfl
@[simp] theorem Try.dm_bool18 : Dm.tBool Try.prog 18 = false := by kernel_rfl
@[simp] theorem Try.dm_sl18 : Dm.tSl Try.prog 18 = false := by kernel_rfl
@[simp] theorem Try.dm_ptr18 : Dm.tPtr Try.prog 18 = false := by kernel_rfl
@[simp] theorem Try.dm_zero18 : Dm.tZero Try.prog 18 = some [.nilp] := by kernel_rfl
@[simp] theorem Try.dm_field18_0 : Dm.tField Try.prog 18 0 = some (0, 1, false) := by kernel_rfl
@[simp] theorem Try.dm_parts18 : Dm.tParts Try.prog 18 = true := by kernel_rfl
@[simp] theorem Try.dm_agg19 : Dm.tAgg Try.prog 19 = some true := by kernel_rfl
@[simp] theorem Try.dm_cells19 : Dm.tCells Try.prog 19 = some 1 := by kernel_rfl
@[simp] theorem Try.dm_und19 : (Program.underlying Try.prog 19).isSome = true := by kernel_rfl
@[simp] theorem Try.dm_str19 : Dm.tStr Try.prog 19 = false := by kernel_rfl
@[simp] theorem Try.dm_bool19 : Dm.tBool Try.prog 19 = false := by kernel_rfl
@[simp] theorem Try.dm_sl19 : Dm.tSl Try.prog 19 = false := by kernel_rfl
@[simp] theorem Try.dm_ptr19 : Dm.tPtr Try.prog 19 = false := by kernel_rfl
@[simp] theorem Try.dm_zero19 : Dm.tZero Try.prog 19 = some [.nilp] := by kernel_rfl
@[simp] theorem Try.dm_field19_0 : Dm.tField Try.prog 19 0 = some (0, 1, false) := by kernel_rfl
@[simp] theorem Try.dm_parts19 : Dm.tParts Try.prog 19 = true := by kernel_rfl
@[simp] theorem Try.dm_agg20 : Dm.tAgg Try.prog 20 = some false := by kernel_rfl
@[simp] theorem Try.dm_cells20 : Dm.tCells Try.prog 20 = some 1 := by kernel_rfl
@[simp] theorem Try.dm_und20 : (Program.underlying Try.prog 20).isSome = true := by kernel_rfl
@[simp] theorem Try.dm_str20 : Dm.tStr Try.prog 20 = false := by kernel_rfl
@[simp] theorem Try.dm_bool20 : Dm.tBool Try.prog 20 = false := by kernel_rfl
@[simp] theorem Try.dm_sl20 : Dm.tSl Try.prog 20 = false := by kernel_rfl
@[simp] theorem Try.dm_ptr20 : Dm.tPtr Try.prog 20 = false := by kernel_rfl
@[simp] theorem Try.dm_zero20 : Dm.tZero Try.prog 20 = some [.nilifc] := by kernel_rfl
@[simp] theorem Try.dm_agg21 : Dm.tAgg Try.prog 21 = some false := by kernel_rfl
@[simp] theorem Try.dm_cells21 : Dm.tCells Try.prog 21 = some 1 := by kernel_rfl
@[simp] theorem Try.dm_und21 : (Program.underlying Try.prog 21).isSome = true := by kernel_rfl
@[simp] theorem Try.dm_int21 : Dm.tInt Try.prog 21 = some .i32 := by kernel_rfl
@[simp] theorem Try.dm_str21 : Dm.tStr Try.prog 21 = false := by kernel_rfl
@[simp] theorem Try.dm_bool21 : Dm.tBool Try.prog 21 = false := by kernel_rfl
@[simp] theorem Try.dm_sl21 : Dm.tSl Try.prog 21 = false := by kernel_rfl
@[simp] theorem Try.dm_ptr21 : Dm.tPtr Try.prog 21 = false := by kernel_rfl
@[simp] theorem Try.dm_zero21 : Dm.tZero Try.prog 21 = some [.int .i32 0] := by kernel_rfl
@[simp] theorem Try.dm_agg22 : Dm.tAgg Try.prog 22 = some false := by kernel_rfl
@[simp] theorem Try.dm_cells22 : Dm.tCells Try.prog 22 = some 1 := by kernel_rfl
@[simp] theorem Try.dm_und22 : (Program.underlying Try.prog 22).isSome = true := by kernel_rfl
@[simp] theorem Try.dm_elem22 : Dm.tElem Try.prog 22 = some (1, 8) := by kernel_rfl
@[simp] theorem Try.dm_str22 : Dm.tStr Try.prog 22 = false := by kernel_rfl
@[simp] theorem Try.dm_bool22 : Dm.tBool Try.prog 22 = false := by kernel_rfl
@[simp] theorem Try.dm_sl22 : Dm.tSl Try.prog 22 = true := by kernel_rfl
@[simp] theorem Try.dm_ptr22 : Dm.tPtr Try.prog 22 = false := by kernel_rfl
@[simp] theorem Try.dm_zero22 : Dm.tZero Try.prog 22 = some [.nilsl] := by kernel_rfl
@[simp] theorem Try.dm_eid22 : Dm.tElemId Try.prog 22 = some 3 := by kernel_rfl
@[simp] theorem Try.dm_ez22 : Dm.tElemZ Try.prog 22 = true := by kernel_rfl
@[simp] theorem Try.dm_zok22 : Dm.zeroOK Try.prog 22 = true := by kernel_rfl
@[simp] theorem Try.dm_zsl22 : Dm.tZeroE Try.prog 22 = some [.int .i64 0] := by kernel_rfl
@[simp] theorem Try.dm_agg23 : Dm.tAgg Try.prog 23 = some false := by kernel_rfl
@[simp] theorem Try.dm_cells23 : Dm.tCells Try.prog 23 = some 1 := by kernel_rfl
@[simp] theorem Try.dm_und23 : (Program.underlying Try.prog 23).isSome = true := by kernel_rfl
@[simp] theorem Try.dm_elem23 : Dm.tElem Try.prog 23 = some (4, 32) := by kernel_rfl
@[simp] theorem Try.dm_str23 : Dm.tStr Try.prog 23 = false := by kernel_rfl
@[simp] theorem Try.dm_bool23 : Dm.tBool Try.prog 23 = false := by kernel_rfl
@[simp] theorem Try.dm_sl23 : Dm.tSl Try.prog 23 = true := by kernel_rfl
@[simp] theorem Try.dm_ptr23 : Dm.tPtr Try.prog 23 = false := by kernel_rfl
@[simp] theorem Try.dm_zero23 : Dm.tZero Try.prog 23 = some [.nilsl] := by kernel_rfl
@[simp] theorem Try.dm_eid23 : Dm.tElemId Try.prog 23 = some 49 := by kernel_rfl
@[simp] theorem Try.dm_ez23 : Dm.tElemZ Try.prog 23 = true := by kernel_rfl
@[simp] theorem Try.dm_zok23 : Dm.zeroOK Try.prog 23 = true := by kernel_rfl
@[simp] theorem Try.dm_zsl23 : Dm.tZeroE Try.prog 23 = some [.int .i64 0, .bool false, .int .i64 0, .int .i64 0] := by kernel_rfl
@[simp] theorem Try.dm_agg24 : Dm.tAgg Try.prog 24 = some true := by kernel_rfl
@[simp] theorem Try.dm_cells24 : Dm.tCells Try.prog 24 = some 3 := by kernel_rfl
@[simp] theorem Try.dm_und24 : (Program.underlying Try.prog 24).isSome = true := by kernel_rfl
@[simp] theorem Try.dm_str24 : Dm.tStr Try.prog 24 = false := by kernel_rfl
@[simp] theorem Try.dm_bool24 : Dm.tBool Try.prog 24 = false := by kernel_rfl
@[simp] theorem Try.dm_sl24 : Dm.tSl Try.prog 24 = false := by kernel_rfl
@[simp] theorem Try.dm_ptr24 : Dm.tPtr Try.prog 24 = false := by kernel_rfl
@[simp] theorem Try.dm_zero24 : Dm.tZero Try.prog 24 = some [.int .i64 0, .nilsl, .nilsl] := by kernel_rfl
@[simp] theorem Try.dm_field24_0 : Dm.tField Try.prog 24 0 = some (0, 1, false) := by kernel_rfl
@[simp] theorem Try.dm_field24_1 : Dm.tField Try.prog 24 1 = some (1, 1, false) := by kernel_rfl
@[simp] theorem Try.dm_field24_2 : Dm.tField Try.prog 24 2 = some (2, 1, false) := by kernel_rfl
@[simp] theorem Try.dm_parts24 : Dm.tParts Try.prog 24 = true := by kernel_rfl
@[simp] theorem Try.dm_agg25 : Dm.tAgg Try.prog 25 = some true := by kernel_rfl
@[simp] theorem Try.dm_cells25 : Dm.tCells Try.prog 25 = some 3 := by kernel_rfl
@[simp] theorem Try.dm_und25 : (Program.underlying Try.prog 25).isSome = true := by kernel_rfl
@[simp] theorem Try.dm_str25 : Dm.tStr Try.prog 25 = false := by kernel_rfl
@[simp] theorem Try.dm_bool25 : Dm.tBool Try.prog 25 = false := by kernel_rfl
@[simp] theorem Try.dm_sl25 : Dm.tSl Try.prog 25 = false := by kernel_rfl
@[simp] theorem Try.dm_ptr25 : Dm.tPtr Try.prog 25 = false := by kernel_rfl
@[simp] theorem Try.dm_zero25 : Dm.tZero Try.prog 25 = some [.int .i64 0, .nilsl, .nilsl] := by kernel_rfl
@[simp] theorem Try.dm_field25_0 : Dm.tField Try.prog 25 0 = some (0, 1, false) := by kernel_rfl
@[simp] theorem Try.dm_field25_1 : Dm.tField Try.prog 25 1 = some (1, 1, false) := by kernel_rfl
@[simp] theorem Try.dm_field25_2 : Dm.tField Try.prog 25 2 = some (2, 1, false) := by kernel_rfl
@[simp] theorem Try.dm_parts25 : Dm.tParts Try.prog 25 = true := by kernel_rfl
@[simp] theorem Try.dm_agg26 : Dm.tAgg Try.prog 26 = some false := by kernel_rfl
@[simp] theorem Try.dm_cells26 : Dm.tCells Try.prog 26 = some 1 := by kernel_rfl
@[simp] theorem Try.dm_und26 : (Program.underlying Try.prog 26).isSome = true := by kernel_rfl
@[simp] theorem Try.dm_str26 : Dm.tStr Try.prog 26 = false := by kernel_rfl
@[simp] theorem Try.dm_bool26 : Dm.tBool Try.prog 26 = false := by kernel_rfl
@[simp] theorem Try.dm_sl26 : Dm.tSl Try.prog 26 = false := by kernel_rfl
@[simp] theorem Try.dm_ptr26 : Dm.tPtr Try.prog 26 = false := by kernel_rfl
@[simp] theorem Try.dm_zero26 : Dm.tZero Try.prog 26 = some [.nilfn] := by kernel_rfl
@[simp] theorem Try.dm_agg27 : Dm.tAgg Try.prog 27 = some false := by kernel_rfl
@[simp] theorem Try.dm_cells27 : Dm.tCells Try.prog 27 = some 1 := by kernel_rfl
@[simp] theorem Try.dm_und27 : (Program.underlying Try.prog 27).isSome = true := by kernel_rfl
@[simp] theorem Try.dm_int27 : Dm.tInt Try.prog 27 = some .i64 := by kernel_rfl
@[simp] theorem Try.dm_str27 : Dm.tStr Try.prog 27 = false := by kernel_rfl
@[simp] theorem Try.dm_bool27 : Dm.tBool Try.prog 27 = false := by kernel_rfl
@[simp] theorem Try.dm_sl27 : Dm.tSl Try.prog 27 = false := by kernel_rfl
@[simp] theorem Try.dm_ptr27 : Dm.tPtr Try.prog 27 = false := by kernel_rfl
@[simp] theorem Try.dm_zero27 : Dm.tZero Try.prog 27 = some [.int .i64 0] := by kernel_rfl
@[simp] theorem Try.dm_agg28 : Dm.tAgg Try.prog 28 = some false := by kernel_rfl
@[simp] theorem Try.dm_cells28 : Dm.tCells Try.prog 28 = some 1 := by kernel_rfl
@[simp] theorem Try.dm_und28 : (Program.underlying Try.prog 28).isSome = true := by kernel_rfl
@[simp] theorem Try.dm_str28 : Dm.tStr Try.prog 28 = false := by kernel_rfl
@[simp] theorem Try.dm_bool28 : Dm.tBool Try.prog 28 = false := by kernel_rfl
@[simp] theorem Try.dm_sl28 : Dm.tSl Try.prog 28 = false := by kernel_rfl
@[simp] theorem Try.dm_ptr28 : Dm.tPtr Try.prog 28 = false := by kernel_rfl
@[simp] theorem Try.dm_zero28 : Dm.tZero Try.prog 28 = some [.nilfn] := by kernel_rfl
@[simp] theorem Try.dm_agg29 : Dm.tAgg Try.prog 29 = some false := by kernel_rfl
@[simp] theorem Try.dm_cells29 : Dm.tCells Try.prog 29 = some 1 := by kernel_rfl
@[simp] theorem Try.dm_und29 : (Program.underlying Try.prog 29).isSome = true := by kernel_rfl
@[simp] theorem Try.dm_str29 : Dm.tStr Try.prog 29 = false := by kernel_rfl
@[simp] theorem Try.dm_bool29 : Dm.tBool Try.prog 29 = false := by kernel_rfl
@[simp] theorem Try.dm_sl29 : Dm.tSl Try.prog 29 = false := by kernel_rfl
@[simp] theorem Try.dm_ptr29 : Dm.tPtr Try.prog 29 = false := by kernel_rfl
@[simp] theorem Try.dm_zero29 : Dm.tZero Try.prog 29 = some [.nilfn] := by kernel_rfl
@[simp] theorem Try.dm_agg30 : Dm.tAgg Try.prog 30 = some false := by kernel_rfl
@[simp] theorem Try.dm_cells30 : Dm.tCells Try.prog 30 = some 1 := by kernel_rfl
@[simp] theorem Try.dm_und30 : (Program.underlying Try.prog 30).isSome = true := by kernel_rfl
@[simp] theorem Try.dm_str30 : Dm.tStr Try.prog 30 = false := by kernel_rfl
@[simp] theorem Try.dm_bool30 : Dm.tBool Try.prog 30 = false := by kernel_rfl
@[simp] theorem Try.dm_sl30 : Dm.tSl Try.prog 30 = false := by kernel_rfl
@[simp] theorem Try.dm_ptr30 : Dm.tPtr Try.prog 30 = false := by kernel_rfl
@[simp] theorem Try.dm_zero30 : Dm.tZero Try.prog 30 = some [.nilfn] := by kernel_rfl
@[simp] theorem Try.dm_agg31 : Dm.tAgg Try.prog 31 = some true := by kernel_rfl
@[simp] theorem Try.dm_cells31 : Dm.tCells Try.prog 31 = some 2 := by kernel_rfl
@[simp] theorem Try.dm_und31 : (Program.underlying Try.prog 31).isSome = true := by kernel_rfl
@[simp] theorem Try.dm_str31 : Dm.tStr Try.prog 31 = false := by kernel_rfl
@[simp] theorem Try.dm_bool31 : Dm.tBool Try.prog 31 = false := by kernel_rfl
@[simp] theorem Try.dm_sl31 : Dm.tSl Try.prog 31 = false := by kernel_rfl
@[simp] theorem Try.dm_ptr31 : Dm.tPtr Try.prog 31 = false := by kernel_rfl
@[simp] theorem Try.dm_zero31 : Dm.tZero Try.prog 31 = some [.bool false, .int .i64 0] := by kernel_rfl
@[simp] theorem Try.dm_field31_0 : Dm.tField Try.prog 31 0 = some (0, 1, false) := by kernel_rfl
@[simp] theorem Try.dm_field31_1 : Dm.tField Try.prog 31 1 = some (1, 1, false) := by kernel_rfl
@[simp] theorem Try.dm_eqg31 : Program.eqGuardType Try.prog Try.prog.depth 31 = false := by kernel_rfl
@[simp] theorem Try.dm_flat31 : Dm.flat Try.prog 10000 31 = some [.b, .i .i64] := by kernel_rfl
@[simp] theorem Try.dm_parts31 : Dm.tParts Try.prog 31 = true := by kernel_rfl
@[simp] theorem Try.dm_agg32 : Dm.tAgg Try.prog 32 = some true := by kernel_rfl
@[simp] theorem Try.dm_cells32 : Dm.tCells Try.prog 32 = some 2 := by kernel_rfl
@[simp] theorem Try.dm_und32 : (Program.underlying Try.prog 32).isSome = true := by kernel_rfl
@[simp] theorem Try.dm_str32 : Dm.tStr Try.prog 32 = false := by kernel_rfl
@[simp] theorem Try.dm_bool32 : Dm.tBool Try.prog 32 = false := by kernel_rfl
@[simp] theorem Try.dm_sl32 : Dm.tSl Try.prog 32 = false := by kernel_rfl
@[simp] theorem Try.dm_ptr32 : Dm.tPtr Try.prog 32 = false := by kernel_rfl
@[simp] theorem Try.dm_zero32 : Dm.tZero Try.prog 32 = some [.bool false, .int .i64 0] := by kernel_rfl
@[simp] theorem Try.dm_field32_0 : Dm.tField Try.prog 32 0 = some (0, 1, false) := by kernel_rfl
@[simp] theorem Try.dm_field32_1 : Dm.tField Try.prog 32 1 = some (1, 1, false) := by kernel_rfl
@[simp] theorem Try.dm_eqg32 : Program.eqGuardType Try.prog Try.prog.depth 32 = false := by kernel_rfl
@[simp] theorem Try.dm_flat32 : Dm.flat Try.prog 10000 32 = some [.b, .i .i64] := by kernel_rfl
@[simp] theorem Try.dm_parts32 : Dm.tParts Try.prog 32 = true := by kernel_rfl
@[simp] theorem Try.dm_agg34 : Dm.tAgg Try.prog 34 = some false := by kernel_rfl
@[simp] theorem Try.dm_cells34 : Dm.tCells Try.prog 34 = some 1 := by kernel_rfl
@[simp] theorem Try.dm_und34 : (Program.underlying Try.prog 34).isSome = true := by kernel_rfl
@[simp] theorem Try.dm_str34 : Dm.tStr Try.prog 34 = false := by kernel_rfl
@[simp] theorem Try.dm_bool34 : Dm.tBool Try.prog 34 = false := by kernel_rfl
@[simp] theorem Try.dm_sl34 : Dm.tSl Try.prog 34 = false := by kernel_rfl
@[simp] theorem Try.dm_ptr34 : Dm.tPtr Try.prog 34 = false := by kernel_rfl
@[simp] theorem Try.dm_zero34 : Dm.tZero Try.prog 34 = some [.nilfn] := by kernel_rfl
@[simp] theorem Try.dm_agg35 : Dm.tAgg Try.prog 35 = some false := by kernel_rfl
@[simp] theorem Try.dm_cells35 : Dm.tCells Try.prog 35 = some 1 := by kernel_rfl
@[simp] theorem Try.dm_und35 : (Program.underlying Try.prog 35).isSome = true := by kernel_rfl
@[simp] theorem Try.dm_elem35 : Dm.tElem Try.prog 35 = some (1, 1) := by kernel_rfl
@[simp] theorem Try.dm_str35 : Dm.tStr Try.prog 35 = false := by kernel_rfl
@[simp] theorem Try.dm_bool35 : Dm.tBool Try.prog 35 = false := by kernel_rfl
@[simp] theorem Try.dm_sl35 : Dm.tSl Try.prog 35 = true := by kernel_rfl
@[simp] theorem Try.dm_ptr35 : Dm.tPtr Try.prog 35 = false := by kernel_rfl
@[simp] theorem Try.dm_zero35 : Dm.tZero Try.prog 35 = some [.nilsl] := by kernel_rfl
@[simp] theorem Try.dm_eid35 : Dm.tElemId Try.prog 35 = some 4 := by kernel_rfl
@[simp] theorem Try.dm_ez35 : Dm.tElemZ Try.prog 35 = true := by kernel_rfl
@[simp] theorem Try.dm_zok35 : Dm.zeroOK Try.prog 35 = true := by kernel_rfl
@[simp] theorem Try.dm_zsl35 : Dm.tZeroE Try.prog 35 = some [.bool false] := by kernel_rfl
@[simp] theorem Try.dm_agg36 : Dm.tAgg Try.prog 36 = some false := by kernel_rfl
@[simp] theorem Try.dm_cells36 : Dm.tCells Try.prog 36 = some 1 := by kernel_rfl
@[simp] theorem Try.dm_und36 : (Program.underlying Try.prog 36).isSome = true := by kernel_rfl
@[simp] theorem Try.dm_str36 : Dm.tStr Try.prog 36 = false := by kernel_rfl
@[simp] theorem Try.dm_bool36 : Dm.tBool Try.prog 36 = false := by kernel_rfl
@[simp] theorem Try.dm_sl36 : Dm.tSl Try.prog 36 = false := by kernel_rfl
@[simp] theorem Try.dm_ptr36 : Dm.tPtr Try.prog 36 = false := by kernel_rfl
@[simp] theorem Try.dm_zero36 : Dm.tZero Try.prog 36 = some [.nilfn] := by kernel_rfl
@[simp] theorem Try.dm_agg37 : Dm.tAgg Try.prog 37 = some false := by kernel_rfl
@[simp] theorem Try.dm_cells37 : Dm.tCells Try.prog 37 = some 1 := by kernel_rfl
@[simp] theorem Try.dm_und37 : (Program.underlying Try.prog 37).isSome = true := by kernel_rfl
@[simp] theorem Try.dm_str37 : Dm.tStr Try.prog 37 = false := by kernel_rfl
@[simp] theorem Try.dm_bool37 : Dm.tBool Try.prog 37 = false := by kernel_rfl
@[simp] theorem Try.dm_sl37 : Dm.tSl Try.prog 37 = false := by kernel_rfl
@[simp] theorem Try.dm_ptr37 : Dm.tPtr Try.prog 37 = false := by kernel_rfl
@[simp] theorem Try.dm_zero37 : Dm.tZero Try.prog 37 = some [.nilfn] := by kernel_rfl
@[simp] theorem Try.dm_agg38 : Dm.tAgg Try.prog 38 = some false := by kernel_rfl
@[simp] theorem Try.dm_cells38 : Dm.tCells Try.prog 38 = some 1 := by kernel_rfl
@[simp] theorem Try.dm_und38 : (Program.underlying Try.prog 38).isSome = true := by kernel_rfl
@[simp] theorem Try.dm_str38 : Dm.tStr Try.prog 38 = false := by kernel_rfl
@[simp] theorem Try.dm_bool38 : Dm.tBool Try.prog 38 = false := by kernel_rfl
@[simp] theorem Try.dm_sl38 : Dm.tSl Try.prog 38 = false := by kernel_rfl
@[simp] theorem Try.dm_ptr38 : Dm.tPtr Try.prog 38 = false := by kernel_rfl
@[simp] theorem Try.dm_zero38 : Dm.tZero Try.prog 38 = some [.nilfn] := by kernel_rfl
@[simp] theorem Try.dm_agg39 : Dm.tAgg Try.prog 39 = some false := by kernel_rfl
@[simp] theorem Try.dm_cells39 : Dm.tCells Try.prog 39 = some 1 := by kernel_rfl
@[simp] theorem Try.dm_und39 : (Program.underlying Try.prog 39).isSome = true := by kernel_rfl
@[simp] theorem Try.dm_elem39 : Dm.tElem Try.prog 39 = some (2, 16) := by kernel_rfl
@[simp] theorem Try.dm_str39 : Dm.tStr Try.prog 39 = false := by kernel_rfl
@[simp] theorem Try.dm_bool39 : Dm.tBool Try.prog 39 = false := by kernel_rfl
@[simp] theorem Try.dm_sl39 : Dm.tSl Try.prog 39 = true := by kernel_rfl
@[simp] theorem Try.dm_ptr39 : Dm.tPtr Try.prog 39 = false := by kernel_rfl
@[simp] theorem Try.dm_zero39 : Dm.tZero Try.prog 39 = some [.nilsl] := by kernel_rfl
@[simp] theorem Try.dm_eid39 : Dm.tElemId Try.prog 39 = some 32 := by kernel_rfl
@[simp] theorem Try.dm_ez39 : Dm.tElemZ Try.prog 39 = true := by kernel_rfl
@[simp] theorem Try.dm_zok39 : Dm.zeroOK Try.prog 39 = true := by kernel_rfl
@[simp] theorem Try.dm_zsl39 : Dm.tZeroE Try.prog 39 = some [.bool false, .int .i64 0] := by kernel_rfl
@[simp] theorem Try.dm_agg41 : Dm.tAgg Try.prog 41 = some false := by kernel_rfl
@[simp] theorem Try.dm_cells41 : Dm.tCells Try.prog 41 = some 1 := by kernel_rfl
@[simp] theorem Try.dm_und41 : (Program.underlying Try.prog 41).isSome = true := by kernel_rfl
@[simp] theorem Try.dm_str41 : Dm.tStr Try.prog 41 = false := by kernel_rfl
@[simp] theorem Try.dm_bool41 : Dm.tBool Try.prog 41 = false := by kernel_rfl
@[simp] theorem Try.dm_sl41 : Dm.tSl Try.prog 41 = false := by kernel_rfl
@[simp] theorem Try.dm_ptr41 : Dm.tPtr Try.prog 41 = false := by kernel_rfl
@[simp] theorem Try.dm_zero41 : Dm.tZero Try.prog 41 = some [.nilfn] := by kernel_rfl
@[simp] theorem Try.dm_agg43 : Dm.tAgg Try.prog 43 = some false := by kernel_rfl
@[simp] theorem Try.dm_cells43 : Dm.tCells Try.prog 43 = some 1 := by kernel_rfl
@[simp] theorem Try.dm_und43 : (Program.underlying Try.prog 43).isSome = true := by kernel_rfl
@[simp] theorem Try.dm_str43 : Dm.tStr Try.prog 43 = false := by kernel_rfl
@[simp] theorem Try.dm_bool43 : Dm.tBool Try.prog 43 = false := by kernel_rfl
@[simp] theorem Try.dm_sl43 : Dm.tSl Try.prog 43 = false := by kernel_rfl
@[simp] theorem Try.dm_ptr43 : Dm.tPtr Try.prog 43 = false := by kernel_rfl
@[simp] theorem Try.dm_zero43 : Dm.tZero Try.prog 43 = some [.nilfn] := by kernel_rfl
@[simp] theorem Try.dm_agg44 : Dm.tAgg Try.prog 44 = some false := by kernel_rfl
@[simp] theorem Try.dm_cells44 : Dm.tCells Try.prog 44 = some 1 := by kernel_rfl
@[simp] theorem Try.dm_und44 : (Program.underlying Try.prog 44).isSome = true := by kernel_rfl
@[simp] theorem Try.dm_str44 : Dm.tStr Try.prog 44 = false := by kernel_rfl
@[simp] theorem Try.dm_bool44 : Dm.tBool Try.prog 44 = false := by kernel_rfl
@[simp] theorem Try.dm_sl44 : Dm.tSl Try.prog 44 = false := by kernel_rfl
@[simp] theorem Try.dm_ptr44 : Dm.tPtr Try.prog 44 = false := by kernel_rfl
@[simp] theorem Try.dm_zero44 : Dm.tZero Try.prog 44 = some [.nilfn] := by kernel_rfl
@[simp] theorem Try.dm_agg46 : Dm.tAgg Try.prog 46 = some false := by kernel_rfl
@[simp] theorem Try.dm_cells46 : Dm.tCells Try.prog 46 = some 1 := by kernel_rfl
@[simp] theorem Try.dm_und46 : (Program.underlying Try.prog 46).isSome = true := by kernel_rfl
@[simp] theorem Try.dm_str46 : Dm.tStr Try.prog 46 = false := by kernel_rfl
@[simp] theorem Try.dm_bool46 : Dm.tBool Try.prog 46 = false := by kernel_rfl
@[simp] theorem Try.dm_sl46 : Dm.tSl Try.prog 46 = false := by kernel_rfl
@[simp] theorem Try.dm_ptr46 : Dm.tPtr Try.prog 46 = false := by kernel_rfl
@[simp] theorem Try.dm_zero46 : Dm.tZero Try.prog 46 = some [.nilfn] := by kernel_rfl
@[simp] theorem Try.dm_agg47 : Dm.tAgg Try.prog 47 = some false := by kernel_rfl
@[simp] theorem Try.dm_cells47 : Dm.tCells Try.prog 47 = some 1 := by kernel_rfl
@[simp] theorem Try.dm_und47 : (Program.underlying Try.prog 47).isSome = true := by kernel_rfl
@[simp] theorem Try.dm_str47 : Dm.tStr Try.prog 47 = false := by kernel_rfl
@[simp] theorem Try.dm_bool47 : Dm.tBool Try.prog 47 = false := by kernel_rfl
@[simp] theorem Try.dm_sl47 : Dm.tSl Try.prog 47 = false := by kernel_rfl
@[simp] theorem Try.dm_ptr47 : Dm.tPtr Try.prog 47 = false := by kernel_rfl
@[simp] theorem Try.dm_zero47 : Dm.tZero Try.prog 47 = some [.nilfn] := by kernel_rfl
@[simp] theorem Try.dm_agg48 : Dm.tAgg Try.prog 48 = some true := by kernel_rfl
@[simp] theorem Try.dm_cells48 : Dm.tCells Try.prog 48 = some 4 := by kernel_rfl
@[simp] theorem Try.dm_und48 : (Program.underlying Try.prog 48).isSome = true := by kernel_rfl
@[simp] theorem Try.dm_str48 : Dm.tStr Try.prog 48 = false := by kernel_rfl
@[simp] theorem Try.dm_bool48 : Dm.tBool Try.prog 48 = false := by kernel_rfl
@[simp] theorem Try.dm_sl48 : Dm.tSl Try.prog 48 = false := by kernel_rfl
@[simp] theorem Try.dm_ptr48 : Dm.tPtr Try.prog 48 = false := by kernel_rfl
@[simp] theorem Try.dm_zero48 : Dm.tZero Try.prog 48 = some [.int .i64 0, .bool false, .int .i64 0, .int .i64 0] := by kernel_rfl
@[simp] theorem Try.dm_field48_0 : Dm.tField Try.prog 48 0 = some (0, 1, false) := by kernel_rfl
@[simp] theorem Try.dm_field48_1 : Dm.tField Try.prog 48 1 = some (1, 2, true) := by kernel_rfl
@[simp] theorem Try.dm_field48_2 : Dm.tField Try.prog 48 2 = some (3, 1, false) := by kernel_rfl
@[simp] theorem Try.dm_eqg48 : Program.eqGuardType Try.prog Try.prog.depth 48 = false := by kernel_rfl
@[simp] theorem Try.dm_flat48 : Dm.flat Try.prog 10000 48 = some [.i .i64, .b, .i .i64, .i .i64] := by kernel_rfl
@[simp] theorem Try.dm_parts48 : Dm.tParts Try.prog 48 = true := by kernel_rfl
@[simp] theorem Try.dm_agg49 : Dm.tAgg Try.prog 49 = some true := by kernel_rfl
@[simp] theorem Try.dm_cells49 : Dm.tCells Try.prog 49 = some 4 := by kernel_rfl
@[simp] theorem Try.dm_und49 : (Program.underlying Try.prog 49).isSome = true := by kernel_rfl
@[simp] theorem Try.dm_str49 : Dm.tStr Try.prog 49 = false := by kernel_rfl
@[simp] theorem Try.dm_bool49 : Dm.tBool Try.prog 49 = false := by kernel_rfl
@[simp] theorem Try.dm_sl49 : Dm.tSl Try.prog 49 = false := by kernel_rfl
@[simp] theorem Try.dm_ptr49 : Dm.tPtr Try.prog 49 = false := by kernel_rfl
@[simp] theorem Try.dm_zero49 : Dm.tZero Try.prog 49 = some [.int .i64 0, .bool false, .int .i64 0, .int .i64 0] := by kernel_rfl
@[simp] theorem Try.dm_field49_0 : Dm.tField Try.prog 49 0 = some (0, 1, false) := by kernel_rfl
@[simp] theorem Try.dm_field49_1 : Dm.tField Try.prog 49 1 = some (1, 2, true) := by kernel_rfl
@[simp] theorem Try.dm_field49_2 : Dm.tField Try.prog 49 2 = some (3, 1, false) := by kernel_rfl
@[simp] theorem Try.dm_eqg49 : Program.eqGuardType Try.prog Try.prog.depth 49 = false := by kernel_rfl
@[simp] theorem Try.dm_flat49 : Dm.flat Try.prog 10000 49 = some [.i .i64, .b, .i .i64, .i .i64] := by kernel_rfl
@[simp] theorem Try.dm_parts49 : Dm.tParts Try.prog 49 = true := by kernel_rfl
@[simp] theorem Try.dm_agg50 : Dm.tAgg Try.prog 50 = some false := by kernel_rfl
@[simp] theorem Try.dm_cells50 : Dm.tCells Try.prog 50 = some 1 := by kernel_rfl
@[simp] theorem Try.dm_und50 : (Program.underlying Try.prog 50).isSome = true := by kernel_rfl
@[simp] theorem Try.dm_str50 : Dm.tStr Try.prog 50 = false := by kernel_rfl
@[simp] theorem Try.dm_bool50 : Dm.tBool Try.prog 50 = false := by kernel_rfl
@[simp] theorem Try.dm_sl50 : Dm.tSl Try.prog 50 = false := by kernel_rfl
@[simp] theorem Try.dm_ptr50 : Dm.tPtr Try.prog 50 = false := by kernel_rfl
@[simp] theorem Try.dm_zero50 : Dm.tZero Try.prog 50 = some [.nilfn] := by kernel_rfl
@[simp] theorem Try.dm_agg51 : Dm.tAgg Try.prog 51 = some false := by kernel_rfl
@[simp] theorem Try.dm_cells51 : Dm.tCells Try.prog 51 = some 1 := by kernel_rfl
@[simp] theorem Try.dm_und51 : (Program.underlying Try.prog 51).isSome = true := by kernel_rfl
@[simp] theorem Try.dm_str51 : Dm.tStr Try.prog 51 = false := by kernel_rfl
@[simp] theorem Try.dm_bool51 : Dm.tBool Try.prog 51 = false := by kernel_rfl
@[simp] theorem Try.dm_sl51 : Dm.tSl Try.prog 51 = false := by kernel_rfl
@[simp] theorem Try.dm_ptr51 : Dm.tPtr Try.prog 51 = false := by kernel_rfl
@[simp] theorem Try.dm_zero51 : Dm.tZero Try.prog 51 = some [.nilfn] := by kernel_rfl
@[simp] theorem Try.dm_agg52 : Dm.tAgg Try.prog 52 = some false := by kernel_rfl
@[simp] theorem Try.dm_cells52 : Dm.tCells Try.prog 52 = some 1 := by kernel_rfl
@[simp] theorem Try.dm_und52 : (Program.underlying Try.prog 52).isSome = true := by kernel_rfl
@[simp] theorem Try.dm_str52 : Dm.tStr Try.prog 52 = false := by kernel_rfl
@[simp] theorem Try.dm_bool52 : Dm.tBool Try.prog 52 = false := by kernel_rfl
@[simp] theorem Try.dm_sl52 : Dm.tSl Try.prog 52 = false := by kernel_rfl
@[simp] theorem Try.dm_ptr52 : Dm.tPtr Try.prog 52 = false := by kernel_rfl
@[simp] theorem Try.dm_zero52 : Dm.tZero Try.prog 52 = some [.nilfn] := by kernel_rfl
@[simp] theorem Try.dm_agg53 : Dm.tAgg Try.prog 53 = some false := by kernel_rfl
@[simp] theorem Try.dm_cells53 : Dm.tCells Try.prog 53 = some 1 := by kernel_rfl
@[simp] theorem Try.dm_und53 : (Program.underlying Try.prog 53).isSome = true := by kernel_rfl
@[simp] theorem Try.dm_str53 : Dm.tStr Try.prog 53 = false := by kernel_rfl
@[simp] theorem Try.dm_bool53 : Dm.tBool Try.prog 53 = false := by kernel_rfl
@[simp] theorem Try.dm_sl53 : Dm.tSl Try.prog 53 = false := by kernel_rfl
@[simp] theorem Try.dm_ptr53 : Dm.tPtr Try.prog 53 = false := by kernel_rfl
@[simp] theorem Try.dm_zero53 : Dm.tZero Try.prog 53 = some [.nilfn] := by kernel_rfl
@[simp] theorem Try.dm_agg54 : Dm.tAgg Try.prog 54 = some false := by kernel_rfl
@[simp] theorem Try.dm_cells54 : Dm.tCells Try.prog 54 = some 1 := by kernel_rfl
@[simp] theorem Try.dm_und54 : (Program.underlying Try.prog 54).isSome = true := by kernel_rfl
@[simp] theorem Try.dm_str54 : Dm.tStr Try.prog 54 = false := by kernel_rfl
@[simp] theorem Try.dm_bool54 : Dm.tBool Try.prog 54 = false := by kernel_rfl
@[simp] theorem Try.dm_sl54 : Dm.tSl Try.prog 54 = false := by kernel_rfl
@[simp] theorem Try.dm_ptr54 : Dm.tPtr Try.prog 54 = true := by kernel_rfl
@[simp] theorem Try.dm_zero54 : Dm.tZero Try.prog 54 = some [.nilp] := by kernel_rfl
@[simp] theorem Try.dm_agg55 : Dm.tAgg Try.prog 55 = some false := by kernel_rfl
@[simp] theorem Try.dm_cells55 : Dm.tCells Try.prog 55 = some 1 := by kernel_rfl
@[simp] theorem Try.dm_und55 : (Program.underlying Try.prog 55).isSome = true := by kernel_rfl
@[simp] theorem Try.dm_elem55 : Dm.tElem Try.prog 55 = some (1, 24) := by kernel_rfl
@[simp] theorem Try.dm_str55 : Dm.tStr Try.prog 55 = false := by kernel_rfl
@[simp] theorem Try.dm_bool55 : Dm.tBool Try.prog 55 = false := by kernel_rfl
@[simp] theorem Try.dm_sl55 : Dm.tSl Try.prog 55 = true := by kernel_rfl
@[simp] theorem Try.dm_ptr55 : Dm.tPtr Try.prog 55 = false := by kernel_rfl
@[simp] theorem Try.dm_zero55 : Dm.tZero Try.prog 55 = some [.nilsl] := by kernel_rfl
@[simp] theorem Try.dm_eid55 : Dm.tElemId Try.prog 55 = some 58 := by kernel_rfl
@[simp] theorem Try.dm_ez55 : Dm.tElemZ Try.prog 55 = true := by kernel_rfl
@[simp] theorem Try.dm_zok55 : Dm.zeroOK Try.prog 55 = true := by kernel_rfl
@[simp] theorem Try.dm_zsl55 : Dm.tZeroE Try.prog 55 = some [.nilsl] := by kernel_rfl
@[simp] theorem Try.dm_agg56 : Dm.tAgg Try.prog 56 = some false := by kernel_rfl
@[simp] theorem Try.dm_cells56 : Dm.tCells Try.prog 56 = some 1 := by kernel_rfl
@[simp] theorem Try.dm_und56 : (Program.underlying Try.prog 56).isSome = true := by kernel_rfl
@[simp] theorem Try.dm_elem56 : Dm.tElem Try.prog 56 = some (1, 16) := by kernel_rfl
@[simp] theorem Try.dm_str56 : Dm.tStr Try.prog 56 = false := by kernel_rfl
@[simp] theorem Try.dm_bool56 : Dm.tBool Try.prog 56 = false := by kernel_rfl
@[simp] theorem Try.dm_sl56 : Dm.tSl Try.prog 56 = true := by kernel_rfl
@[simp] theorem Try.dm_ptr56 : Dm.tPtr Try.prog 56 = false := by kernel_rfl
@[simp] theorem Try.dm_zero56 : Dm.tZero Try.prog 56 = some [.nilsl] := by kernel_rfl
@[simp] theorem Try.dm_eid56 : Dm.tElemId Try.prog 56 = some 9 := by kernel_rfl
@[simp] theorem Try.dm_ez56 : Dm.tElemZ Try.prog 56 = true := by kernel_rfl
@[simp] theorem Try.dm_zok56 : Dm.zeroOK Try.prog 56 = true := by kernel_rfl
@[simp] theorem Try.dm_zsl56 : Dm.tZeroE Try.prog 56 = some [.str ⟨#[]⟩] := by kernel_rfl
@[simp] theorem Try.dm_agg57 : Dm.tAgg Try.prog 57 = some false := by kernel_rfl
@[simp] theorem Try.dm_cells57 : Dm.tCells Try.prog 57 = some 1 := by kernel_rfl
@[simp] theorem Try.dm_und57 : (Program.underlying Try.prog 57).isSome = true := by kernel_rfl
@[simp] theorem Try.dm_str57 : Dm.tStr Try.prog 57 = false := by kernel_rfl
@[simp] theorem Try.dm_bool57 : Dm.tBool Try.prog 57 = false := by kernel_rfl
@[simp] theorem Try.dm_sl57 : Dm.tSl Try.prog 57 = false := by kernel_rfl
@[simp] theorem Try.dm_ptr57 : Dm.tPtr Try.prog 57 = false := by kernel_rfl
@[simp] theorem Try.dm_zero57 : Dm.tZero Try.prog 57 = some [.nilfn] := by kernel_rfl
@[simp] theorem Try.dm_agg58 : Dm.tAgg Try.prog 58 = some false := by kernel_rfl
@[simp] theorem Try.dm_cells58 : Dm.tCells Try.prog 58 = some 1 := by kernel_rfl
@[simp] theorem Try.dm_und58 : (Program.underlying Try.prog 58).isSome = true := by kernel_rfl
@[simp] theorem Try.dm_elem58 : Dm.tElem Try.prog 58 = some (3, 32) := by kernel_rfl
@[simp] theorem Try.dm_str58 : Dm.tStr Try.prog 58 = false := by kernel_rfl
@[simp] theorem Try.dm_bool58 : Dm.tBool Try.prog 58 = false := by kernel_rfl
@[simp] theorem Try.dm_sl58 : Dm.tSl Try.prog 58 = true := by kernel_rfl
@[simp] theorem Try.dm_ptr58 : Dm.tPtr Try.prog 58 = false := by kernel_rfl
@[simp] theorem Try.dm_zero58 : Dm.tZero Try.prog 58 = some [.nilsl] := by kernel_rfl
@[simp] theorem Try.dm_eid58 : Dm.tElemId Try.prog 58 = some 62 := by kernel_rfl
@[simp] theorem Try.dm_ez58 : Dm.tElemZ Try.prog 58 = true := by kernel_rfl
@[simp] theorem Try.dm_zok58 : Dm.zeroOK Try.prog 58 = true := by kernel_rfl
@[simp] theorem Try.dm_zsl58 : Dm.tZeroE Try.prog 58 = some [.int .i64 0, .str ⟨#[]⟩, .int .i64 0] := by kernel_rfl
@[simp] theorem Try.dm_agg59 : Dm.tAgg Try.prog 59 = some false := by kernel_rfl
@[simp] theorem Try.dm_cells59 : Dm.tCells Try.prog 59 = some 1 := by kernel_rfl
@[simp] theorem Try.dm_und59 : (Program.underlying Try.prog 59).isSome = true := by kernel_rfl
@[simp] theorem Try.dm_str59 : Dm.tStr Try.prog 59 = false := by kernel_rfl
@[simp] theorem Try.dm_bool59 : Dm.tBool Try.prog 59 = false := by kernel_rfl
@[simp] theorem Try.dm_sl59 : Dm.tSl Try.prog 59 = false := by kernel_rfl
@[simp] theorem Try.dm_ptr59 : Dm.tPtr Try.prog 59 = false := by kernel_rfl
@[simp] theorem Try.dm_zero59 : Dm.tZero Try.prog 59 = some [.nilfn] := by kernel_rfl
@[simp] theorem Try.dm_agg60 : Dm.tAgg Try.prog 60 = some false := by kernel_rfl
@[simp] theorem Try.dm_cells60 : Dm.tCells Try.prog 60 = some 1 := by kernel_rfl
@[simp] theorem Try.dm_und60 : (Program.underlying Try.prog 60).isSome = true := by kernel_rfl
@[simp] theorem Try.dm_int60 : Dm.tInt Try.prog 60 = some .i64 := by kernel_rfl
@[simp] theorem Try.dm_str60 : Dm.tStr Try.prog 60 = false := by kernel_rfl
@[simp] theorem Try.dm_bool60 : Dm.tBool Try.prog 60 = false := by kernel_rfl
@[simp] theorem Try.dm_sl60 : Dm.tSl Try.prog 60 = false := by kernel_rfl
@[simp] theorem Try.dm_ptr60 : Dm.tPtr Try.prog 60 = false := by kernel_rfl
@[simp] theorem Try.dm_zero60 : Dm.tZero Try.prog 60 = some [.int .i64 0] := by kernel_rfl
@[simp] theorem Try.dm_agg61 : Dm.tAgg Try.prog 61 = some true := by kernel_rfl
@[simp] theorem Try.dm_cells61 : Dm.tCells Try.prog 61 = some 3 := by kernel_rfl
@[simp] theorem Try.dm_und61 : (Program.underlying Try.prog 61).isSome = true := by kernel_rfl
@[simp] theorem Try.dm_str61 : Dm.tStr Try.prog 61 = false := by kernel_rfl
@[simp] theorem Try.dm_bool61 : Dm.tBool Try.prog 61 = false := by kernel_rfl
@[simp] theorem Try.dm_sl61 : Dm.tSl Try.prog 61 = false := by kernel_rfl
@[simp] theorem Try.dm_ptr61 : Dm.tPtr Try.prog 61 = false := by kernel_rfl
@[simp] theorem Try.dm_zero61 : Dm.tZero Try.prog 61 = some [.int .i64 0, .str ⟨#[]⟩, .int .i64 0] := by kernel_rfl
@[simp] theorem Try.dm_field61_0 : Dm.tField Try.prog 61 0 = some (0, 1, false) := by kernel_rfl
@[simp] theorem Try.dm_field61_1 : Dm.tField Try.prog 61 1 = some (1, 1, false) := by kernel_rfl
@[simp] theorem Try.dm_field61_2 : Dm.tField Try.prog 61 2 = some (2, 1, false) := by kernel_rfl
@[simp] theorem Try.dm_eqg61 : Program.eqGuardType Try.prog Try.prog.depth 61 = false := by kernel_rfl
@[simp] theorem Try.dm_flat61 : Dm.flat Try.prog 10000 61 = some [.i .i64, .s, .i .i64] := by kernel_rfl
@[simp] theorem Try.dm_parts61 : Dm.tParts Try.prog 61 = true := by kernel_rfl
@[simp] theorem Try.dm_agg62 : Dm.tAgg Try.prog 62 = some true := by kernel_rfl
@[simp] theorem Try.dm_cells62 : Dm.tCells Try.prog 62 = some 3 := by kernel_rfl
@[simp] theorem Try.dm_und62 : (Program.underlying Try.prog 62).isSome = true := by kernel_rfl
@[simp] theorem Try.dm_str62 : Dm.tStr Try.prog 62 = false := by kernel_rfl
@[simp] theorem Try.dm_bool62 : Dm.tBool Try.prog 62 = false := by kernel_rfl
@[simp] theorem Try.dm_sl62 : Dm.tSl Try.prog 62 = false := by kernel_rfl
@[simp] theorem Try.dm_ptr62 : Dm.tPtr Try.prog 62 = false := by kernel_rfl
@[simp] theorem Try.dm_zero62 : Dm.tZero Try.prog 62 = some [.int .i64 0, .str ⟨#[]⟩, .int .i64 0] := by kernel_rfl
@[simp] theorem Try.dm_field62_0 : Dm.tField Try.prog 62 0 = some (0, 1, false) := by kernel_rfl
@[simp] theorem Try.dm_field62_1 : Dm.tField Try.prog 62 1 = some (1, 1, false) := by kernel_rfl
@[simp] theorem Try.dm_field62_2 : Dm.tField Try.prog 62 2 = some (2, 1, false) := by kernel_rfl
@[simp] theorem Try.dm_eqg62 : Program.eqGuardType Try.prog Try.prog.depth 62 = false := by kernel_rfl
@[simp] theorem Try.dm_flat62 : Dm.flat Try.prog 10000 62 = some [.i .i64, .s, .i .i64] := by kernel_rfl
@[simp] theorem Try.dm_parts62 : Dm.tParts Try.prog 62 = true := by kernel_rfl
@[simp] theorem Try.dm_agg64 : Dm.tAgg Try.prog 64 = some false := by kernel_rfl
@[simp] theorem Try.dm_cells64 : Dm.tCells Try.prog 64 = some 1 := by kernel_rfl
@[simp] theorem Try.dm_und64 : (Program.underlying Try.prog 64).isSome = true := by kernel_rfl
@[simp] theorem Try.dm_str64 : Dm.tStr Try.prog 64 = false := by kernel_rfl
@[simp] theorem Try.dm_bool64 : Dm.tBool Try.prog 64 = false := by kernel_rfl
@[simp] theorem Try.dm_sl64 : Dm.tSl Try.prog 64 = false := by kernel_rfl
@[simp] theorem Try.dm_ptr64 : Dm.tPtr Try.prog 64 = false := by kernel_rfl
@[simp] theorem Try.dm_zero64 : Dm.tZero Try.prog 64 = some [.nilfn] := by kernel_rfl
@[simp] theorem Try.dm_agg65 : Dm.tAgg Try.prog 65 = some false := by kernel_rfl
@[simp] theorem Try.dm_cells65 : Dm.tCells Try.prog 65 = some 1 := by kernel_rfl
@[simp] theorem Try.dm_und65 : (Program.underlying Try.prog 65).isSome = true := by kernel_rfl
@[simp] theorem Try.dm_str65 : Dm.tStr Try.prog 65 = false := by kernel_rfl
@[simp] theorem Try.dm_bool65 : Dm.tBool Try.prog 65 = false := by kernel_rfl
@[simp] theorem Try.dm_sl65 : Dm.tSl Try.prog 65 = false := by kernel_rfl
@[simp] theorem Try.dm_ptr65 : Dm.tPtr Try.prog 65 = false := by kernel_rfl
@[simp] theorem Try.dm_zero65 : Dm.tZero Try.prog 65 = some [.nilfn] := by kernel_rfl
@[simp] theorem Try.dm_agg66 : Dm.tAgg Try.prog 66 = some false := by kernel_rfl
@[simp] theorem Try.dm_cells66 : Dm.tCells Try.prog 66 = some 1 := by kernel_rfl
@[simp] theorem Try.dm_und66 : (Program.underlying Try.prog 66).isSome = true := by kernel_rfl
@[simp] theorem Try.dm_str66 : Dm.tStr Try.prog 66 = false := by kernel_rfl
@[simp] theorem Try.dm_bool66 : Dm.tBool Try.prog 66 = false := by kernel_rfl
@[simp] theorem Try.dm_sl66 : Dm.tSl Try.prog 66 = false := by kernel_rfl
@[simp] theorem Try.dm_ptr66 : Dm.tPtr Try.prog 66 = true := by kernel_rfl
@[simp] theorem Try.dm_zero66 : Dm.tZero Try.prog 66 = some [.nilp] := by kernel_rfl
@[simp] theorem Try.dm_agg67 : Dm.tAgg Try.prog 67 = some true := by kernel_rfl
@[simp] theorem Try.dm_cells67 : Dm.tCells Try.prog 67 = some 2 := by kernel_rfl
@[simp] theorem Try.dm_und67 : (Program.underlying Try.prog 67).isSome = true := by kernel_rfl
@[simp] theorem Try.dm_str67 : Dm.tStr Try.prog 67 = false := by kernel_rfl
@[simp] theorem Try.dm_bool67 : Dm.tBool Try.prog 67 = false := by kernel_rfl
@[simp] theorem Try.dm_sl67 : Dm.tSl Try.prog 67 = false := by kernel_rfl
@[simp] theorem Try.dm_ptr67 : Dm.tPtr Try.prog 67 = false := by kernel_rfl
@[simp] theorem Try.dm_zero67 : Dm.tZero Try.prog 67 = some [.nilsl, .nilsl] := by kernel_rfl
@[simp] theorem Try.dm_field67_0 : Dm.tField Try.prog 67 0 = some (0, 1, false) := by kernel_rfl
@[simp] theorem Try.dm_field67_1 : Dm.tField Try.prog 67 1 = some (1, 1, false) := by kernel_rfl
@[simp] theorem Try.dm_parts67 : Dm.tParts Try.prog 67 = true := by kernel_rfl
@[simp] theorem Try.dm_agg68 : Dm.tAgg Try.prog 68 = some true := by kernel_rfl
@[simp] theorem Try.dm_cells68 : Dm.tCells Try.prog 68 = some 2 := by kernel_rfl
@[simp] theorem Try.dm_und68 : (Program.underlying Try.prog 68).isSome = true := by kernel_rfl
@[simp] theorem Try.dm_str68 : Dm.tStr Try.prog 68 = false := by kernel_rfl
@[simp] theorem Try.dm_bool68 : Dm.tBool Try.prog 68 = false := by kernel_rfl
@[simp] theorem Try.dm_sl68 : Dm.tSl Try.prog 68 = false := by kernel_rfl
@[simp] theorem Try.dm_ptr68 : Dm.tPtr Try.prog 68 = false := by kernel_rfl
@[simp] theorem Try.dm_zero68 : Dm.tZero Try.prog 68 = some [.nilsl, .nilsl] := by kernel_rfl
@[simp] theorem Try.dm_field68_0 : Dm.tField Try.prog 68 0 = some (0, 1, false) := by kernel_rfl
@[simp] theorem Try.dm_field68_1 : Dm.tField Try.prog 68 1 = some (1, 1, false) := by kernel_rfl
@[simp] theorem Try.dm_parts68 : Dm.tParts Try.prog 68 = true := by kernel_rfl
@[simp] theorem Try.dm_agg69 : Dm.tAgg Try.prog 69 = some true := by kernel_rfl
@[simp] theorem Try.dm_cells69 : Dm.tCells Try.prog 69 = some 3 := by kernel_rfl
@[simp] theorem Try.dm_und69 : (Program.underlying Try.prog 69).isSome = true := by kernel_rfl
@[simp] theorem Try.dm_str69 : Dm.tStr Try.prog 69 = false := by kernel_rfl
@[simp] theorem Try.dm_bool69 : Dm.tBool Try.prog 69 = false := by kernel_rfl
@[simp] theorem Try.dm_sl69 : Dm.tSl Try.prog 69 = false := by kernel_rfl
@[simp] theorem Try.dm_ptr69 : Dm.tPtr Try.prog 69 = false := by kernel_rfl
@[simp] theorem Try.dm_zero69 : Dm.tZero Try.prog 69 = some [.bool false, .nilsl, .nilsl] := by kernel_rfl
@[simp] theorem Try.dm_field69_0 : Dm.tField Try.prog 69 0 = some (0, 1, false) := by kernel_rfl
@[simp] theorem Try.dm_field69_1 : Dm.tField Try.prog 69 1 = some (1, 1, false) := by kernel_rfl
@[simp] theorem Try.dm_field69_2 : Dm.tField Try.prog 69 2 = some (2, 1, false) := by kernel_rfl
@[simp] theorem Try.dm_parts69 : Dm.tParts Try.prog 69 = true := by kernel_rfl
@[simp] theorem Try.dm_agg70 : Dm.tAgg Try.prog 70 = some true := by kernel_rfl
@[simp] theorem Try.dm_cells70 : Dm.tCells Try.prog 70 = some 3 := by kernel_rfl
@[simp] theorem Try.dm_und70 : (Program.underlying Try.prog 70).isSome = true := by kernel_rfl
@[simp] theorem Try.dm_str70 : Dm.tStr Try.prog 70 = false := by kernel_rfl
@[simp] theorem Try.dm_bool70 : Dm.tBool Try.prog 70 = false := by kernel_rfl
@[simp] theorem Try.dm_sl70 : Dm.tSl Try.prog 70 = false := by kernel_rfl
@[simp] theorem Try.dm_ptr70 : Dm.tPtr Try.prog 70 = false := by kernel_rfl
@[simp] theorem Try.dm_zero70 : Dm.tZero Try.prog 70 = some [.bool false, .nilsl, .nilsl] := by kernel_rfl
@[simp] theorem Try.dm_field70_0 : Dm.tField Try.prog 70 0 = some (0, 1, false) := by kernel_rfl
@[simp] theorem Try.dm_field70_1 : Dm.tField Try.prog 70 1 = some (1, 1, false) := by kernel_rfl
@[simp] theorem Try.dm_field70_2 : Dm.tField Try.prog 70 2 = some (2, 1, false) := by kernel_rfl
@[simp] theorem Try.dm_parts70 : Dm.tParts Try.prog 70 = true := by kernel_rfl
@[simp] theorem Try.dm_agg72 : Dm.tAgg Try.prog 72 = some false := by kernel_rfl
@[simp] theorem Try.dm_cells72 : Dm.tCells Try.prog 72 = some 1 := by kernel_rfl
@[simp] theorem Try.dm_und72 : (Program.underlying Try.prog 72).isSome = true := by kernel_rfl
@[simp] theorem Try.dm_str72 : Dm.tStr Try.prog 72 = false := by kernel_rfl
@[simp] theorem Try.dm_bool72 : Dm.tBool Try.prog 72 = false := by kernel_rfl
@[simp] theorem Try.dm_sl72 : Dm.tSl Try.prog 72 = false := by kernel_rfl
@[simp] theorem Try.dm_ptr72 : Dm.tPtr Try.prog 72 = false := by kernel_rfl
@[simp] theorem Try.dm_zero72 : Dm.tZero Try.prog 72 = some [.nilfn] := by kernel_rfl
@[simp] theorem Try.dm_agg73 : Dm.tAgg Try.prog 73 = some false := by kernel_rfl
@[simp] theorem Try.dm_cells73 : Dm.tCells Try.prog 73 = some 1 := by kernel_rfl
@[simp] theorem Try.dm_und73 : (Program.underlying Try.prog 73).isSome = true := by kernel_rfl
@[simp] theorem Try.dm_str73 : Dm.tStr Try.prog 73 = false := by kernel_rfl
@[simp] theorem Try.dm_bool73 : Dm.tBool Try.prog 73 = false := by kernel_rfl
@[simp] theorem Try.dm_sl73 : Dm.tSl Try.prog 73 = false := by kernel_rfl
@[simp] theorem Try.dm_ptr73 : Dm.tPtr Try.prog 73 = false := by kernel_rfl
@[simp] theorem Try.dm_zero73 : Dm.tZero Try.prog 73 = some [.nilfn] := by kernel_rfl
@[simp] theorem Try.dm_agg74 : Dm.tAgg Try.prog 74 = some false := by kernel_rfl
@[simp] theorem Try.dm_cells74 : Dm.tCells Try.prog 74 = some 1 := by kernel_rfl
@[simp] theorem Try.dm_und74 : (Program.underlying Try.prog 74).isSome = true := by kernel_rfl
@[simp] theorem Try.dm_str74 : Dm.tStr Try.prog 74 = false := by kernel_rfl
@[simp] theorem Try.dm_bool74 : Dm.tBool Try.prog 74 = false := by kernel_rfl
@[simp] theorem Try.dm_sl74 : Dm.tSl Try.prog 74 = false := by kernel_rfl
@[simp] theorem Try.dm_ptr74 : Dm.tPtr Try.prog 74 = false := by kernel_rfl
@[simp] theorem Try.dm_zero74 : Dm.tZero Try.prog 74 = some [.nilfn] := by kernel_rfl
@[simp] theorem Try.dm_agg75 : Dm.tAgg Try.prog 75 = some false := by kernel_rfl
@[simp] theorem Try.dm_cells75 : Dm.tCells Try.prog 75 = some 1 := by kernel_rfl
@[simp] theorem Try.dm_und75 : (Program.underlying Try.prog 75).isSome = true := by kernel_rfl
@[simp] theorem Try.dm_str75 : Dm.tStr Try.prog 75 = false := by kernel_rfl
@[simp] theorem Try.dm_bool75 : Dm.tBool Try.prog 75 = false := by kernel_rfl
@[simp] theorem Try.dm_sl75 : Dm.tSl Try.prog 75 = false := by kernel_rfl
@[simp] theorem Try.dm_ptr75 : Dm.tPtr Try.prog 75 = false := by kernel_rfl
@[simp] theorem Try.dm_zero75 : Dm.tZero Try.prog 75 = some [.nilfn] := by kernel_rfl
@[simp] theorem Try.dm_agg76 : Dm.tAgg Try.prog 76 = some false := by kernel_rfl
@[simp] theorem Try.dm_cells76 : Dm.tCells Try.prog 76 = some 1 := by kernel_rfl
@[simp] theorem Try.dm_und76 : (Program.underlying Try.prog 76).isSome = true := by kernel_rfl
@[simp] theorem Try.dm_str76 : Dm.tStr Try.prog 76 = false := by kernel_rfl
@[simp] theorem Try.dm_bool76 : Dm.tBool Try.prog 76 = false := by kernel_rfl
@[simp] theorem Try.dm_sl76 : Dm.tSl Try.prog 76 = false := by kernel_rfl
@[simp] theorem Try.dm_ptr76 : Dm.tPtr Try.prog 76 = false := by kernel_rfl
@[simp] theorem Try.dm_zero76 : Dm.tZero Try.prog 76 = some [.nilfn] := by kernel_rfl
@[simp] theorem Try.dm_agg77 : Dm.tAgg Try.prog 77 = some false := by kernel_rfl
@[simp] theorem Try.dm_cells77 : Dm.tCells Try.prog 77 = some 1 := by kernel_rfl
@[simp] theorem Try.dm_und77 : (Program.underlying Try.prog 77).isSome = true := by kernel_rfl
@[simp] theorem Try.dm_str77 : Dm.tStr Try.prog 77 = false := by kernel_rfl
@[simp] theorem Try.dm_bool77 : Dm.tBool Try.prog 77 = false := by kernel_rfl
@[simp] theorem Try.dm_sl77 : Dm.tSl Try.prog 77 = false := by kernel_rfl
@[simp] theorem Try.dm_ptr77 : Dm.tPtr Try.prog 77 = false := by kernel_rfl
@[simp] theorem Try.dm_zero77 : Dm.tZero Try.prog 77 = some [.nilfn] := by kernel_rfl
@[simp] theorem Try.dm_agg78 : Dm.tAgg Try.prog 78 = some false := by kernel_rfl
@[simp] theorem Try.dm_cells78 : Dm.tCells Try.prog 78 = some 1 := by kernel_rfl
@[simp] theorem Try.dm_und78 : (Program.underlying Try.prog 78).isSome = true := by kernel_rfl
@[simp] theorem Try.dm_str78 : Dm.tStr Try.prog 78 = false := by kernel_rfl
@[simp] theorem Try.dm_bool78 : Dm.tBool Try.prog 78 = false := by kernel_rfl
@[simp] theorem Try.dm_sl78 : Dm.tSl Try.prog 78 = false := by kernel_rfl
@[simp] theorem Try.dm_ptr78 : Dm.tPtr Try.prog 78 = false := by kernel_rfl
@[simp] theorem Try.dm_zero78 : Dm.tZero Try.prog 78 = some [.nilfn] := by kernel_rfl
@[simp] theorem Try.dm_agg79 : Dm.tAgg Try.prog 79 = some false := by kernel_rfl
@[simp] theorem Try.dm_cells79 : Dm.tCells Try.prog 79 = some 1 := by kernel_rfl
@[simp] theorem Try.dm_und79 : (Program.underlying Try.prog 79).isSome = true := by kernel_rfl
@[simp] theorem Try.dm_str79 : Dm.tStr Try.prog 79 = false := by kernel_rfl
@[simp] theorem Try.dm_bool79 : Dm.tBool Try.prog 79 = false := by kernel_rfl
@[simp] theorem Try.dm_sl79 : Dm.tSl Try.prog 79 = false := by kernel_rfl
@[simp] theorem Try.dm_ptr79 : Dm.tPtr Try.prog 79 = false := by kernel_rfl
@[simp] theorem Try.dm_zero79 : Dm.tZero Try.prog 79 = some [.nilfn] := by kernel_rfl
@[simp] theorem Try.dm_agg80 : Dm.tAgg Try.prog 80 = some false := by kernel_rfl
@[simp] theorem Try.dm_cells80 : Dm.tCells Try.prog 80 = some 1 := by kernel_rfl
@[simp] theorem Try.dm_und80 : (Program.underlying Try.prog 80).isSome = true := by kernel_rfl
@[simp] theorem Try.dm_str80 : Dm.tStr Try.prog 80 = false := by kernel_rfl
@[simp] theorem Try.dm_bool80 : Dm.tBool Try.prog 80 = false := by kernel_rfl
@[simp] theorem Try.dm_sl80 : Dm.tSl Try.prog 80 = false := by kernel_rfl
@[simp] theorem Try.dm_ptr80 : Dm.tPtr Try.prog 80 = false := by kernel_rfl
@[simp] theorem Try.dm_zero80 : Dm.tZero Try.prog 80 = some [.nilfn] := by kernel_rfl
@[simp] theorem Try.dm_agg81 : Dm.tAgg Try.prog 81 = some false := by kernel_rfl
@[simp] theorem Try.dm_cells81 : Dm.tCells Try.prog 81 = some 1 := by kernel_rfl
@[simp] theorem Try.dm_und81 : (Program.underlying Try.prog 81).isSome = true := by kernel_rfl
@[simp] theorem Try.dm_str81 : Dm.tStr Try.prog 81 = false := by kernel_rfl
@[simp] theorem Try.dm_bool81 : Dm.tBool Try.prog 81 = false := by kernel_rfl
@[simp] theorem Try.dm_sl81 : Dm.tSl Try.prog 81 = false := by kernel_rfl
@[simp] theorem Try.dm_ptr81 : Dm.tPtr Try.prog 81 = false := by kernel_rfl
@[simp] theorem Try.dm_zero81 : Dm.tZero Try.prog 81 = some [.nilfn] := by kernel_rfl
@[simp] theorem Try.dm_agg82 : Dm.tAgg Try.prog 82 = some false := by kernel_rfl
@[simp] theorem Try.dm_cells82 : Dm.tCells Try.prog 82 = some 1 := by kernel_rfl
@[simp] theorem Try.dm_und82 : (Program.underlying Try.prog 82).isSome = true := by kernel_rfl
@[simp] theorem Try.dm_str82 : Dm.tStr Try.prog 82 = false := by kernel_rfl
@[simp] theorem Try.dm_bool82 : Dm.tBool Try.prog 82 = false := by kernel_rfl
@[simp] theorem Try.dm_sl82 : Dm.tSl Try.prog 82 = false := by kernel_rfl
@[simp] theorem Try.dm_ptr82 : Dm.tPtr Try.prog 82 = false := by kernel_rfl
@[simp] theorem Try.dm_zero82 : Dm.tZero Try.prog 82 = some [.nilfn] := by kernel_rfl
@[simp] theorem Try.dm_agg83 : Dm.tAgg Try.prog 83 = some false := by kernel_rfl
@[simp] theorem Try.dm_cells83 : Dm.tCells Try.prog 83 = some 1 := by kernel_rfl
@[simp] theorem Try.dm_und83 : (Program.underlying Try.prog 83).isSome = true := by kernel_rfl
@[simp] theorem Try.dm_str83 : Dm.tStr Try.prog 83 = false := by kernel_rfl
@[simp] theorem Try.dm_bool83 : Dm.tBool Try.prog 83 = false := by kernel_rfl
@[simp] theorem Try.dm_sl83 : Dm.tSl Try.prog 83 = false := by kernel_rfl
@[simp] theorem Try.dm_ptr83 : Dm.tPtr Try.prog 83 = false := by kernel_rfl
@[simp] theorem Try.dm_zero83 : Dm.tZero Try.prog 83 = some [.nilfn] := by kernel_rfl
@[simp] theorem Try.dm_agg84 : Dm.tAgg Try.prog 84 = some false := by kernel_rfl
@[simp] theorem Try.dm_cells84 : Dm.tCells Try.prog 84 = some 1 := by kernel_rfl
@[simp] theorem Try.dm_und84 : (Program.underlying Try.prog 84).isSome = true := by kernel_rfl
@[simp] theorem Try.dm_str84 : Dm.tStr Try.prog 84 = false := by kernel_rfl
@[simp] theorem Try.dm_bool84 : Dm.tBool Try.prog 84 = false := by kernel_rfl
@[simp] theorem Try.dm_sl84 : Dm.tSl Try.prog 84 = false := by kernel_rfl
@[simp] theorem Try.dm_ptr84 : Dm.tPtr Try.prog 84 = false := by kernel_rfl
@[simp] theorem Try.dm_zero84 : Dm.tZero Try.prog 84 = some [.nilfn] := by kernel_rfl
@[simp] theorem Try.dm_agg85 : Dm.tAgg Try.prog 85 = some false := by kernel_rfl
@[simp] theorem Try.dm_cells85 : Dm.tCells Try.prog 85 = some 1 := by kernel_rfl
@[simp] theorem Try.dm_und85 : (Program.underlying Try.prog 85).isSome = true := by kernel_rfl
@[simp] theorem Try.dm_str85 : Dm.tStr Try.prog 85 = false := by kernel_rfl
@[simp] theorem Try.dm_bool85 : Dm.tBool Try.prog 85 = false := by kernel_rfl
@[simp] theorem Try.dm_sl85 : Dm.tSl Try.prog 85 = false := by kernel_rfl
@[simp] theorem Try.dm_ptr85 : Dm.tPtr Try.prog 85 = false := by kernel_rfl
@[simp] theorem Try.dm_zero85 : Dm.tZero Try.prog 85 = some [.nilmp] := by kernel_rfl
@[simp] theorem Try.dm_map85 : Dm.tMap Try.prog 85 = some (103, 3) := by kernel_rfl
@[simp] theorem Try.dm_zd3 : Dm.tZeroD Try.prog 3 = some (.int .i64 0) := by kernel_rfl
@[simp] theorem Try.dm_agg86 : Dm.tAgg Try.prog 86 = some true := by kernel_rfl
@[simp] theorem Try.dm_cells86 : Dm.tCells Try.prog 86 = some 3 := by kernel_rfl
@[simp] theorem Try.dm_und86 : (Program.underlying Try.prog 86).isSome = true := by kernel_rfl
@[simp] theorem Try.dm_str86 : Dm.tStr Try.prog 86 = false := by kernel_rfl
@[simp] theorem Try.dm_bool86 : Dm.tBool Try.prog 86 = false := by kernel_rfl
@[simp] theorem Try.dm_sl86 : Dm.tSl Try.prog 86 = false := by kernel_rfl
@[simp] theorem Try.dm_ptr86 : Dm.tPtr Try.prog 86 = false := by kernel_rfl
@[simp] theorem Try.dm_zero86 : Dm.tZero Try.prog 86 = some [.nilsl, .nilsl, .nilmp] := by kernel_rfl
@[simp] theorem Try.dm_field86_0 : Dm.tField Try.prog 86 0 = some (0, 1, false) := by kernel_rfl
@[simp] theorem Try.dm_field86_1 : Dm.tField Try.prog 86 1 = some (1, 1, false) := by kernel_rfl
@[simp] theorem Try.dm_field86_2 : Dm.tField Try.prog 86 2 = some (2, 1, false) := by kernel_rfl
@[simp] theorem Try.dm_parts86 : Dm.tParts Try.prog 86 = true := by kernel_rfl
@[simp] theorem Try.dm_agg87 : Dm.tAgg Try.prog 87 = some true := by kernel_rfl
@[simp] theorem Try.dm_cells87 : Dm.tCells Try.prog 87 = some 3 := by kernel_rfl
@[simp] theorem Try.dm_und87 : (Program.underlying Try.prog 87).isSome = true := by kernel_rfl
@[simp] theorem Try.dm_str87 : Dm.tStr Try.prog 87 = false := by kernel_rfl
@[simp] theorem Try.dm_bool87 : Dm.tBool Try.prog 87 = false := by kernel_rfl
@[simp] theorem Try.dm_sl87 : Dm.tSl Try.prog 87 = false := by kernel_rfl
@[simp] theorem Try.dm_ptr87 : Dm.tPtr Try.prog 87 = false := by kernel_rfl
@[simp] theorem Try.dm_zero87 : Dm.tZero Try.prog 87 = some [.nilsl, .nilsl, .nilmp] := by kernel_rfl
@[simp] theorem Try.dm_field87_0 : Dm.tField Try.prog 87 0 = some (0, 1, false) := by kernel_rfl
@[simp] theorem Try.dm_field87_1 : Dm.tField Try.prog 87 1 = some (1, 1, false) := by kernel_rfl
@[simp] theorem Try.dm_field87_2 : Dm.tField Try.prog 87 2 = some (2, 1, false) := by kernel_rfl
@[simp] theorem Try.dm_parts87 : Dm.tParts Try.prog 87 = true := by kernel_rfl
@[simp] theorem Try.dm_agg88 : Dm.tAgg Try.prog 88 = some false := by kernel_rfl
@[simp] theorem Try.dm_cells88 : Dm.tCells Try.prog 88 = some 1 := by kernel_rfl
@[simp] theorem Try.dm_und88 : (Program.underlying Try.prog 88).isSome = true := by kernel_rfl
@[simp] theorem Try.dm_str88 : Dm.tStr Try.prog 88 = false := by kernel_rfl
@[simp] theorem Try.dm_bool88 : Dm.tBool Try.prog 88 = false := by kernel_rfl
@[simp] theorem Try.dm_sl88 : Dm.tSl Try.prog 88 = false := by kernel_rfl
@[simp] theorem Try.dm_ptr88 : Dm.tPtr Try.prog 88 = false := by kernel_rfl
@[simp] theorem Try.dm_zero88 : Dm.tZero Try.prog 88 = some [.nilfn] := by kernel_rfl
@[simp] theorem Try.dm_agg89 : Dm.tAgg Try.prog 89 = some false := by kernel_rfl
@[simp] theorem Try.dm_cells89 : Dm.tCells Try.prog 89 = some 1 := by kernel_rfl
@[simp] theorem Try.dm_und89 : (Program.underlying Try.prog 89).isSome = true := by kernel_rfl
@[simp] theorem Try.dm_str89 : Dm.tStr Try.prog 89 = false := by kernel_rfl
@[simp] theorem Try.dm_bool89 : Dm.tBool Try.prog 89 = false := by kernel_rfl
@[simp] theorem Try.dm_sl89 : Dm.tSl Try.prog 89 = false := by kernel_rfl
@[simp] theorem Try.dm_ptr89 : Dm.tPtr Try.prog 89 = false := by kernel_rfl
@[simp] theorem Try.dm_zero89 : Dm.tZero Try.prog 89 = some [.nilfn] := by kernel_rfl
@[simp] theorem Try.dm_agg91 : Dm.tAgg Try.prog 91 = some false := by kernel_rfl
@[simp] theorem Try.dm_cells91 : Dm.tCells Try.prog 91 = some 1 := by kernel_rfl
@[simp] theorem Try.dm_und91 : (Program.underlying Try.prog 91).isSome = true := by kernel_rfl
@[simp] theorem Try.dm_str91 : Dm.tStr Try.prog 91 = false := by kernel_rfl
@[simp] theorem Try.dm_bool91 : Dm.tBool Try.prog 91 = false := by kernel_rfl
@[simp] theorem Try.dm_sl91 : Dm.tSl Try.prog 91 = false := by kernel_rfl
@[simp] theorem Try.dm_ptr91 : Dm.tPtr Try.prog 91 = false := by kernel_rfl
@[simp] theorem Try.dm_zero91 : Dm.tZero Try.prog 91 = some [.nilfn] := by kernel_rfl
@[simp] theorem Try.dm_agg92 : Dm.tAgg Try.prog 92 = some false := by kernel_rfl
@[simp] theorem Try.dm_cells92 : Dm.tCells Try.prog 92 = some 1 := by kernel_rfl
@[simp] theorem Try.dm_und92 : (Program.underlying Try.prog 92).isSome = true := by kernel_rfl
@[simp] theorem Try.dm_str92 : Dm.tStr Try.prog 92 = false := by kernel_rfl
@[simp] theorem Try.dm_bool92 : Dm.tBool Try.prog 92 = false := by kernel_rfl
@[simp] theorem Try.dm_sl92 : Dm.tSl Try.prog 92 = false := by kernel_rfl
@[simp] theorem Try.dm_ptr92 : Dm.tPtr Try.prog 92 = false := by kernel_rfl
@[simp] theorem Try.dm_zero92 : Dm.tZero Try.prog 92 = some [.nilfn] := by kernel_rfl
@[simp] theorem Try.dm_agg93 : Dm.tAgg Try.prog 93 = some false := by kernel_rfl
@[simp] theorem Try.dm_cells93 : Dm.tCells Try.prog 93 = some 1 := by kernel_rfl
@[simp] theorem Try.dm_und93 : (Program.underlying Try.prog 93).isSome = true := by kernel_rfl
@[simp] theorem Try.dm_str93 : Dm.tStr Try.prog 93 = false := by kernel_rfl
@[simp] theorem Try.dm_bool93 : Dm.tBool Try.prog 93 = false := by kernel_rfl
@[simp] theorem Try.dm_sl93 : Dm.tSl Try.prog 93 = false := by kernel_rfl
@[simp] theorem Try.dm_ptr93 : Dm.tPtr Try.prog 93 = false := by kernel_rfl
@[simp] theorem Try.dm_zero93 : Dm.tZero Try.prog 93 = some [.nilfn] := by kernel_rfl
@[simp] theorem Try.dm_agg94 : Dm.tAgg Try.prog 94 = some false := by kernel_rfl
@[simp] theorem Try.dm_cells94 : Dm.tCells Try.prog 94 = some 1 := by kernel_rfl
@[simp] theorem Try.dm_und94 : (Program.underlying Try.prog 94).isSome = true := by kernel_rfl
@[simp] theorem Try.dm_str94 : Dm.tStr Try.prog 94 = false := by kernel_rfl
@[simp] theorem Try.dm_bool94 : Dm.tBool Try.prog 94 = false := by kernel_rfl
@[simp] theorem Try.dm_sl94 : Dm.tSl Try.prog 94 = false := by kernel_rfl
@[simp] theorem Try.dm_ptr94 : Dm.tPtr Try.prog 94 = false := by kernel_rfl
@[simp] theorem Try.dm_zero94 : Dm.tZero Try.prog 94 = some [.nilfn] := by kernel_rfl
@[simp] theorem Try.dm_agg95 : Dm.tAgg Try.prog 95 = some false := by kernel_rfl
@[simp] theorem Try.dm_cells95 : Dm.tCells Try.prog 95 = some 1 := by kernel_rfl
@[simp] theorem Try.dm_und95 : (Program.underlying Try.prog 95).isSome = true := by kernel_rfl
@[simp] theorem Try.dm_str95 : Dm.tStr Try.prog 95 = false := by kernel_rfl
@[simp] theorem Try.dm_bool95 : Dm.tBool Try.prog 95 = false := by kernel_rfl
@[simp] theorem Try.dm_sl95 : Dm.tSl Try.prog 95 = false := by kernel_rfl
@[simp] theorem Try.dm_ptr95 : Dm.tPtr Try.prog 95 = false := by kernel_rfl
@[simp] theorem Try.dm_zero95 : Dm.tZero Try.prog 95 = some [.nilfn] := by kernel_rfl
@[simp] theorem Try.dm_agg96 : Dm.tAgg Try.prog 96 = some false := by kernel_rfl
@[simp] theorem Try.dm_cells96 : Dm.tCells Try.prog 96 = some 1 := by kernel_rfl
@[simp] theorem Try.dm_und96 : (Program.underlying Try.prog 96).isSome = true := by kernel_rfl
@[simp] theorem Try.dm_str96 : Dm.tStr Try.prog 96 = false := by kernel_rfl
@[simp] theorem Try.dm_bool96 : Dm.tBool Try.prog 96 = false := by kernel_rfl
@[simp] theorem Try.dm_sl96 : Dm.tSl Try.prog 96 = false := by kernel_rfl
@[simp] theorem Try.dm_ptr96 : Dm.tPtr Try.prog 96 = false := by kernel_rfl
@[simp] theorem Try.dm_zero96 : Dm.tZero Try.prog 96 = some [.nilfn] := by kernel_rfl
@[simp] theorem Try.dm_agg97 : Dm.tAgg Try.prog 97 = some false := by kernel_rfl
@[simp] theorem Try.dm_cells97 : Dm.tCells Try.prog 97 = some 1 := by kernel_rfl
@[simp] theorem Try.dm_und97 : (Program.underlying Try.prog 97).isSome = true := by kernel_rfl
@[simp] theorem Try.dm_int97 : Dm.tInt Try.prog 97 = some .u64 := by kernel_rfl
@[simp] theorem Try.dm_str97 : Dm.tStr Try.prog 97 = false := by kernel_rfl
@[simp] theorem Try.dm_bool97 : Dm.tBool Try.prog 97 = false := by kernel_rfl
@[simp] theorem Try.dm_sl97 : Dm.tSl Try.prog 97 = false := by kernel_rfl
@[simp] theorem Try.dm_ptr97 : Dm.tPtr Try.prog 97 = false := by kernel_rfl
@[simp] theorem Try.dm_zero97 : Dm.tZero Try.prog 97 = some [.int .u64 0] := by kernel_rfl
@[simp] theorem Try.dm_agg98 : Dm.tAgg Try.prog 98 = some false := by kernel_rfl
@[simp] theorem Try.dm_cells98 : Dm.tCells Try.prog 98 = some 1 := by kernel_rfl
@[simp] theorem Try.dm_und98 : (Program.underlying Try.prog 98).isSome = true := by kernel_rfl
@[simp] theorem Try.dm_str98 : Dm.tStr Try.prog 98 = false := by kernel_rfl
@[simp] theorem Try.dm_bool98 : Dm.tBool Try.prog 98 = false := by kernel_rfl
@[simp] theorem Try.dm_sl98 : Dm.tSl Try.prog 98 = false := by kernel_rfl
@[simp] theorem Try.dm_ptr98 : Dm.tPtr Try.prog 98 = false := by kernel_rfl
@[simp] theorem Try.dm_zero98 : Dm.tZero Try.prog 98 = some [.nilfn] := by kernel_rfl
@[simp] theorem Try.dm_agg99 : Dm.tAgg Try.prog 99 = some false := by kernel_rfl
@[simp] theorem Try.dm_cells99 : Dm.tCells Try.prog 99 = some 1 := by kernel_rfl
@[simp] theorem Try.dm_und99 : (Program.underlying Try.prog 99).isSome = true := by kernel_rfl
@[simp] theorem Try.dm_str99 : Dm.tStr Try.prog 99 = false := by kernel_rfl
@[simp] theorem Try.dm_bool99 : Dm.tBool Try.prog 99 = false := by kernel_rfl
@[simp] theorem Try.dm_sl99 : Dm.tSl Try.prog 99 = false := by kernel_rfl
@[simp] theorem Try.dm_ptr99 : Dm.tPtr Try.prog 99 = false := by kernel_rfl
@[simp] theorem Try.dm_zero99 : Dm.tZero Try.prog 99 = some [.nilfn] := by kernel_rfl
@[simp] theorem Try.dm_agg100 : Dm.tAgg Try.prog 100 = some false := by kernel_rfl
@[simp] theorem Try.dm_cells100 : Dm.tCells Try.prog 100 = some 1 := by kernel_rfl
@[simp] theorem Try.dm_und100 : (Program.underlying Try.prog 100).isSome = true := by kernel_rfl
@[simp] theorem Try.dm_str100 : Dm.tStr Try.prog 100 = false := by kernel_rfl
@[simp] theorem Try.dm_bool100 : Dm.tBool Try.prog 100 = false := by kernel_rfl
@[simp] theorem Try.dm_sl100 : Dm.tSl Try.prog 100 = false := by kernel_rfl
@[simp] theorem Try.dm_ptr100 : Dm.tPtr Try.prog 100 = false := by kernel_rfl
@[simp] theorem Try.dm_zero100 : Dm.tZero Try.prog 100 = some [.nilfn] := by kernel_rfl
@[simp] theorem Try.dm_agg101 : Dm.tAgg Try.prog 101 = some false := by kernel_rfl
@[simp] theorem Try.dm_cells101 : Dm.tCells Try.prog 101 = some 1 := by kernel_rfl
@[simp] theorem Try.dm_und101 : (Program.underlying Try.prog 101).isSome = true := by kernel_rfl
@[simp] theorem Try.dm_str101 : Dm.tStr Try.prog 101 = false := by kernel_rfl
@[simp] theorem Try.dm_bool101 : Dm.tBool Try.prog 101 = false := by kernel_rfl
@[simp] theorem Try.dm_sl101 : Dm.tSl Try.prog 101 = false := by kernel_rfl
@[simp] theorem Try.dm_ptr101 : Dm.tPtr Try.prog 101 = false := by kernel_rfl
@[simp] theorem Try.dm_zero101 : Dm.tZero Try.prog 101 = some [.nilfn] := by kernel_rfl
@[simp] theorem Try.dm_agg102 : Dm.tAgg Try.prog 102 = some true := by kernel_rfl
@[simp] theorem Try.dm_cells102 : Dm.tCells Try.prog 102 = some 2 := by kernel_rfl
@[simp] theorem Try.dm_und102 : (Program.underlying Try.prog 102).isSome = true := by kernel_rfl
@[simp] theorem Try.dm_str102 : Dm.tStr Try.prog 102 = false := by kernel_rfl
@[simp] theorem Try.dm_bool102 : Dm.tBool Try.prog 102 = false := by kernel_rfl
@[simp] theorem Try.dm_sl102 : Dm.tSl Try.prog 102 = false := by kernel_rfl
@[simp] theorem Try.dm_ptr102 : Dm.tPtr Try.prog 102 = false := by kernel_rfl
@[simp] theorem Try.dm_zero102 : Dm.tZero Try.prog 102 = some [.bool false, .str ⟨#[]⟩] := by kernel_rfl
@[simp] theorem Try.dm_field102_0 : Dm.tField Try.prog 102 0 = some (0, 1, false) := by kernel_rfl
@[simp] theorem Try.dm_field102_1 : Dm.tField Try.prog 102 1 = some (1, 1, false) := by kernel_rfl
@[simp] theorem Try.dm_eqg102 : Program.eqGuardType Try.prog Try.prog.depth 102 = false := by kernel_rfl
@[simp] theorem Try.dm_flat102 : Dm.flat Try.prog 10000 102 = some [.b, .s] := by kernel_rfl
@[simp] theorem Try.dm_parts102 : Dm.tParts Try.prog 102 = true := by kernel_rfl
@[simp] theorem Try.dm_agg103 : Dm.tAgg Try.prog 103 = some true := by kernel_rfl
@[simp] theorem Try.dm_cells103 : Dm.tCells Try.prog 103 = some 2 := by kernel_rfl
@[simp] theorem Try.dm_und103 : (Program.underlying Try.prog 103).isSome = true := by kernel_rfl
@[simp] theorem Try.dm_str103 : Dm.tStr Try.prog 103 = false := by kernel_rfl
@[simp] theorem Try.dm_bool103 : Dm.tBool Try.prog 103 = false := by kernel_rfl
@[simp] theorem Try.dm_sl103 : Dm.tSl Try.prog 103 = false := by kernel_rfl
@[simp] theorem Try.dm_ptr103 : Dm.tPtr Try.prog 103 = false := by kernel_rfl
@[simp] theorem Try.dm_zero103 : Dm.tZero Try.prog 103 = some [.bool false, .str ⟨#[]⟩] := by kernel_rfl
@[simp] theorem Try.dm_field103_0 : Dm.tField Try.prog 103 0 = some (0, 1, false) := by kernel_rfl
@[simp] theorem Try.dm_field103_1 : Dm.tField Try.prog 103 1 = some (1, 1, false) := by kernel_rfl
@[simp] theorem Try.dm_eqg103 : Program.eqGuardType Try.prog Try.prog.depth 103 = false := by kernel_rfl
@[simp] theorem Try.dm_flat103 : Dm.flat Try.prog 10000 103 = some [.b, .s] := by kernel_rfl
@[simp] theorem Try.dm_parts103 : Dm.tParts Try.prog 103 = true := by kernel_rfl
@[simp] theorem Try.dm_agg104 : Dm.tAgg Try.prog 104 = some false := by kernel_rfl
@[simp] theorem Try.dm_cells104 : Dm.tCells Try.prog 104 = some 1 := by kernel_rfl
@[simp] theorem Try.dm_und104 : (Program.underlying Try.prog 104).isSome = true := by kernel_rfl
@[simp] theorem Try.dm_str104 : Dm.tStr Try.prog 104 = false := by kernel_rfl
@[simp] theorem Try.dm_bool104 : Dm.tBool Try.prog 104 = false := by kernel_rfl
@[simp] theorem Try.dm_sl104 : Dm.tSl Try.prog 104 = false := by kernel_rfl
@[simp] theorem Try.dm_ptr104 : Dm.tPtr Try.prog 104 = false := by kernel_rfl
@[simp] theorem Try.dm_zero104 : Dm.tZero Try.prog 104 = some [.nilfn] := by kernel_rfl
@[simp] theorem Try.dm_agg105 : Dm.tAgg Try.prog 105 = some false := by kernel_rfl
@[simp] theorem Try.dm_cells105 : Dm.tCells Try.prog 105 = some 1 := by kernel_rfl
@[simp] theorem Try.dm_und105 : (Program.underlying Try.prog 105).isSome = true := by kernel_rfl
@[simp] theorem Try.dm_str105 : Dm.tStr Try.prog 105 = false := by kernel_rfl
@[simp] theorem Try.dm_bool105 : Dm.tBool Try.prog 105 = false := by kernel_rfl
@[simp] theorem Try.dm_sl105 : Dm.tSl Try.prog 105 = false := by kernel_rfl
@[simp] theorem Try.dm_ptr105 : Dm.tPtr Try.prog 105 = false := by kernel_rfl
@[simp] theorem Try.dm_zero105 : Dm.tZero Try.prog 105 = some [.nilfn] := by kernel_rfl
@[simp] theorem Try.dm_agg106 : Dm.tAgg Try.prog 106 = some false := by kernel_rfl
@[simp] theorem Try.dm_cells106 : Dm.tCells Try.prog 106 = some 1 := by kernel_rfl
@[simp] theorem Try.dm_und106 : (Program.underlying Try.prog 106).isSome = true := by kernel_rfl
@[simp] theorem Try.dm_str106 : Dm.tStr Try.prog 106 = false := by kernel_rfl
@[simp] theorem Try.dm_bool106 : Dm.tBool Try.prog 106 = false := by kernel_rfl
@[simp] theorem Try.dm_sl106 : Dm.tSl Try.prog 106 = false := by kernel_rfl
@[simp] theorem Try.dm_ptr106 : Dm.tPtr Try.prog 106 = false := by kernel_rfl
@[simp] theorem Try.dm_zero106 : Dm.tZero Try.prog 106 = some [.nilfn] := by kernel_rfl
@[simp] theorem Try.dm_agg107 : Dm.tAgg Try.prog 107 = some false := by kernel_rfl
@[simp] theorem Try.dm_cells107 : Dm.tCells Try.prog 107 = some 1 := by kernel_rfl
@[simp] theorem Try.dm_und107 : (Program.underlying Try.prog 107).isSome = true := by kernel_rfl
@[simp] theorem Try.dm_elem107 : Dm.tElem Try.prog 107 = some (1, 24) := by kernel_rfl
@[simp] theorem Try.dm_str107 : Dm.tStr Try.prog 107 = false := by kernel_rfl
@[simp] theorem Try.dm_bool107 : Dm.tBool Try.prog 107 = false := by kernel_rfl
@[simp] theorem Try.dm_sl107 : Dm.tSl Try.prog 107 = true := by kernel_rfl
@[simp] theorem Try.dm_ptr107 : Dm.tPtr Try.prog 107 = false := by kernel_rfl
@[simp] theorem Try.dm_zero107 : Dm.tZero Try.prog 107 = some [.nilsl] := by kernel_rfl
@[simp] theorem Try.dm_eid107 : Dm.tElemId Try.prog 107 = some 22 := by kernel_rfl
@[simp] theorem Try.dm_ez107 : Dm.tElemZ Try.prog 107 = true := by kernel_rfl
@[simp] theorem Try.dm_zok107 : Dm.zeroOK Try.prog 107 = true := by kernel_rfl
@[simp] theorem Try.dm_zsl107 : Dm.tZeroE Try.prog 107 = some [.nilsl] := by kernel_rfl
@[simp] theorem Try.dm_agg108 : Dm.tAgg Try.prog 108 = some false := by kernel_rfl
@[simp] theorem Try.dm_cells108 : Dm.tCells Try.prog 108 = some 1 := by kernel_rfl
@[simp] theorem Try.dm_und108 : (Program.underlying Try.prog 108).isSome = true := by kernel_rfl
@[simp] theorem Try.dm_str108 : Dm.tStr Try.prog 108 = false := by kernel_rfl
@[simp] theorem Try.dm_bool108 : Dm.tBool Try.prog 108 = false := by kernel_rfl
@[simp] theorem Try.dm_sl108 : Dm.tSl Try.prog 108 = false := by kernel_rfl
@[simp] theorem Try.dm_ptr108 : Dm.tPtr Try.prog 108 = false := by kernel_rfl
@[simp] theorem Try.dm_zero108 : Dm.tZero Try.prog 108 = some [.nilfn] := by kernel_rfl
@[simp] theorem Try.dm_agg109 : Dm.tAgg Try.prog 109 = some false := by kernel_rfl
@[simp] theorem Try.dm_cells109 : Dm.tCells Try.prog 109 = some 1 := by kernel_rfl
@[simp] theorem Try.dm_und109 : (Program.underlying Try.prog 109).isSome = true := by kernel_rfl
@[simp] theorem Try.dm_str109 : Dm.tStr Try.prog 109 = false := by kernel_rfl
@[simp] theorem Try.dm_bool109 : Dm.tBool Try.prog 109 = false := by kernel_rfl
@[simp] theorem Try.dm_sl109 : Dm.tSl Try.prog 109 = false := by kernel_rfl
@[simp] theorem Try.dm_ptr109 : Dm.tPtr Try.prog 109 = false := by kernel_rfl
@[simp] theorem Try.dm_zero109 : Dm.tZero Try.prog 109 = some [.nilfn] := by kernel_rfl
@[simp] theorem Try.dm_agg110 : Dm.tAgg Try.prog 110 = some false := by kernel_rfl
@[simp] theorem Try.dm_cells110 : Dm.tCells Try.prog 110 = some 1 := by kernel_rfl
@[simp] theorem Try.dm_und110 : (Program.underlying Try.prog 110).isSome = true := by kernel_rfl
@[simp] theorem Try.dm_int110 : Dm.tInt Try.prog 110 = some .i64 := by kernel_rfl
@[simp] theorem Try.dm_str110 : Dm.tStr Try.prog 110 = false := by kernel_rfl
@[simp] theorem Try.dm_bool110 : Dm.tBool Try.prog 110 = false := by kernel_rfl
@[simp] theorem Try.dm_sl110 : Dm.tSl Try.prog 110 = false := by kernel_rfl
@[simp] theorem Try.dm_ptr110 : Dm.tPtr Try.prog 110 = false := by kernel_rfl
@[simp] theorem Try.dm_zero110 : Dm.tZero Try.prog 110 = some [.int .i64 0] := by kernel_rfl
@[simp] theorem Try.dm_agg112 : Dm.tAgg Try.prog 112 = some false := by kernel_rfl
@[simp] theorem Try.dm_cells112 : Dm.tCells Try.prog 112 = some 1 := by kernel_rfl
@[simp] theorem Try.dm_und112 : (Program.underlying Try.prog 112).isSome = true := by kernel_rfl
@[simp] theorem Try.dm_str112 : Dm.tStr Try.prog 112 = false := by kernel_rfl
@[simp] theorem Try.dm_bool112 : Dm.tBool Try.prog 112 = false := by kernel_rfl
@[simp] theorem Try.dm_sl112 : Dm.tSl Try.prog 112 = false := by kernel_rfl
@[simp] theorem Try.dm_ptr112 : Dm.tPtr Try.prog 112 = false := by kernel_rfl
@[simp] theorem Try.dm_zero112 : Dm.tZero Try.prog 112 = some [.nilfn] := by kernel_rfl
@[simp] theorem Try.dm_agg113 : Dm.tAgg Try.prog 113 = some false := by kernel_rfl
@[simp] theorem Try.dm_cells113 : Dm.tCells Try.prog 113 = some 1 := by kernel_rfl
@[simp] theorem Try.dm_und113 : (Program.underlying Try.prog 113).isSome = true := by kernel_rfl
@[simp] theorem Try.dm_str113 : Dm.tStr Try.prog 113 = false := by kernel_rfl
@[simp] theorem Try.dm_bool113 : Dm.tBool Try.prog 113 = false := by kernel_rfl
@[simp] theorem Try.dm_sl113 : Dm.tSl Try.prog 113 = false := by kernel_rfl
@[simp] theorem Try.dm_ptr113 : Dm.tPtr Try.prog 113 = false := by kernel_rfl
@[simp] theorem Try.dm_zero113 : Dm.tZero Try.prog 113 = some [.nilfn] := by kernel_rfl
@[simp] theorem Try.dm_agg114 : Dm.tAgg Try.prog 114 = some false := by kernel_rfl
@[simp] theorem Try.dm_cells114 : Dm.tCells Try.prog 114 = some 1 := by kernel_rfl
@[simp] theorem Try.dm_und114 : (Program.underlying Try.prog 114).isSome = true := by kernel_rfl
@[simp] theorem Try.dm_str114 : Dm.tStr Try.prog 114 = false := by kernel_rfl
@[simp] theorem Try.dm_bool114 : Dm.tBool Try.prog 114 = false := by kernel_rfl
@[simp] theorem Try.dm_sl114 : Dm.tSl Try.prog 114 = false := by kernel_rfl
@[simp] theorem Try.dm_ptr114 : Dm.tPtr Try.prog 114 = false := by kernel_rfl
@[simp] theorem Try.dm_zero114 : Dm.tZero Try.prog 114 = some [.nilfn] := by kernel_rfl
@[simp] theorem Try.dm_agg116 : Dm.tAgg Try.prog 116 = some false := by kernel_rfl
@[simp] theorem Try.dm_cells116 : Dm.tCells Try.prog 116 = some 1 := by kernel_rfl
@[simp] theorem Try.dm_und116 : (Program.underlying Try.prog 116).isSome = true := by kernel_rfl
@[simp] theorem Try.dm_str116 : Dm.tStr Try.prog 116 = false := by kernel_rfl
@[simp] theorem Try.dm_bool116 : Dm.tBool Try.prog 116 = false := by kernel_rfl
@[simp] theorem Try.dm_sl116 : Dm.tSl Try.prog 116 = false := by kernel_rfl
@[simp] theorem Try.dm_ptr116 : Dm.tPtr Try.prog 116 = false := by kernel_rfl
@[simp] theorem Try.dm_zero116 : Dm.tZero Try.prog 116 = some [.nilfn] := by kernel_rfl
@[simp] theorem Try.dm_agg117 : Dm.tAgg Try.prog 117 = some false := by kernel_rfl
@[simp] theorem Try.dm_cells117 : Dm.tCells Try.prog 117 = some 1 := by kernel_rfl
@[simp] theorem Try.dm_und117 : (Program.underlying Try.prog 117).isSome = true := by kernel_rfl
@[simp] theorem Try.dm_str117 : Dm.tStr Try.prog 117 = false := by kernel_rfl
@[simp] theorem Try.dm_bool117 : Dm.tBool Try.prog 117 = false := by kernel_rfl
@[simp] theorem Try.dm_sl117 : Dm.tSl Try.prog 117 = false := by kernel_rfl
@[simp] theorem Try.dm_ptr117 : Dm.tPtr Try.prog 117 = false := by kernel_rfl
@[simp] theorem Try.dm_zero117 : Dm.tZero Try.prog 117 = some [.nilfn] := by kernel_rfl
@[simp] theorem Try.dm_agg118 : Dm.tAgg Try.prog 118 = some false := by kernel_rfl
@[simp] theorem Try.dm_cells118 : Dm.tCells Try.prog 118 = some 1 := by kernel_rfl
@[simp] theorem Try.dm_und118 : (Program.underlying Try.prog 118).isSome = true := by kernel_rfl
@[simp] theorem Try.dm_int118 : Dm.tInt Try.prog 118 = some .u32 := by kernel_rfl
@[simp] theorem Try.dm_str118 : Dm.tStr Try.prog 118 = false := by kernel_rfl
@[simp] theorem Try.dm_bool118 : Dm.tBool Try.prog 118 = false := by kernel_rfl
@[simp] theorem Try.dm_sl118 : Dm.tSl Try.prog 118 = false := by kernel_rfl
@[simp] theorem Try.dm_ptr118 : Dm.tPtr Try.prog 118 = false := by kernel_rfl
@[simp] theorem Try.dm_zero118 : Dm.tZero Try.prog 118 = some [.int .u32 0] := by kernel_rfl
@[simp] theorem Try.dm_agg119 : Dm.tAgg Try.prog 119 = some false := by kernel_rfl
@[simp] theorem Try.dm_cells119 : Dm.tCells Try.prog 119 = some 1 := by kernel_rfl
@[simp] theorem Try.dm_und119 : (Program.underlying Try.prog 119).isSome = true := by kernel_rfl
@[simp] theorem Try.dm_str119 : Dm.tStr Try.prog 119 = false := by kernel_rfl
@[simp] theorem Try.dm_bool119 : Dm.tBool Try.prog 119 = false := by kernel_rfl
@[simp] theorem Try.dm_sl119 : Dm.tSl Try.prog 119 = false := by kernel_rfl
@[simp] theorem Try.dm_ptr119 : Dm.tPtr Try.prog 119 = false := by kernel_rfl
@[simp] theorem Try.dm_zero119 : Dm.tZero Try.prog 119 = some [.nilfn] := by kernel_rfl
@[simp] theorem Try.dm_agg120 : Dm.tAgg Try.prog 120 = some false := by kernel_rfl
@[simp] theorem Try.dm_cells120 : Dm.tCells Try.prog 120 = some 1 := by kernel_rfl
@[simp] theorem Try.dm_und120 : (Program.underlying Try.prog 120).isSome = true := by kernel_rfl
@[simp] theorem Try.dm_int120 : Dm.tInt Try.prog 120 = some .u64 := by kernel_rfl
@[simp] theorem Try.dm_str120 : Dm.tStr Try.prog 120 = false := by kernel_rfl
@[simp] theorem Try.dm_bool120 : Dm.tBool Try.prog 120 = false := by kernel_rfl
@[simp] theorem Try.dm_sl120 : Dm.tSl Try.prog 120 = false := by kernel_rfl
@[simp] theorem Try.dm_ptr120 : Dm.tPtr Try.prog 120 = false := by kernel_rfl
@[simp] theorem Try.dm_zero120 : Dm.tZero Try.prog 120 = some [.int .u64 0] := by kernel_rfl
@[simp] theorem Try.dm_agg121 : Dm.tAgg Try.prog 121 = some false := by kernel_rfl
@[simp] theorem Try.dm_cells121 : Dm.tCells Try.prog 121 = some 1 := by kernel_rfl
@[simp] theorem Try.dm_und121 : (Program.underlying Try.prog 121).isSome = true := by kernel_rfl
@[simp] theorem Try.dm_str121 : Dm.tStr Try.prog 121 = false := by kernel_rfl
@[simp] theorem Try.dm_bool121 : Dm.tBool Try.prog 121 = false := by kernel_rfl
@[simp] theorem Try.dm_sl121 : Dm.tSl Try.prog 121 = false := by kernel_rfl
@[simp] theorem Try.dm_ptr121 : Dm.tPtr Try.prog 121 = false := by kernel_rfl
@[simp] theorem Try.dm_zero121 : Dm.tZero Try.prog 121 = some [.nilfn] := by kernel_rfl
@[simp] theorem Try.dm_agg122 : Dm.tAgg Try.prog 122 = some false := by kernel_rfl
@[simp] theorem Try.dm_cells122 : Dm.tCells Try.prog 122 = some 1 := by kernel_rfl
@[simp] theorem Try.dm_und122 : (Program.underlying Try.prog 122).isSome = true := by kernel_rfl
@[simp] theorem Try.dm_str122 : Dm.tStr Try.prog 122 = false := by kernel_rfl
@[simp] theorem Try.dm_bool122 : Dm.tBool Try.prog 122 = false := by kernel_rfl
@[simp] theorem Try.dm_sl122 : Dm.tSl Try.prog 122 = false := by kernel_rfl
@[simp] theorem Try.dm_ptr122 : Dm.tPtr Try.prog 122 = false := by kernel_rfl
@[simp] theorem Try.dm_zero122 : Dm.tZero Try.prog 122 = some [.nilfn] := by kernel_rfl
@[simp] theorem Try.dm_agg123 : Dm.tAgg Try.prog 123 = some false := by kernel_rfl
@[simp] theorem Try.dm_cells123 : Dm.tCells Try.prog 123 = some 1 := by kernel_rfl
@[simp] theorem Try.dm_und123 : (Program.underlying Try.prog 123).isSome = true := by kernel_rfl
@[simp] theorem Try.dm_str123 : Dm.tStr Try.prog 123 = false := by kernel_rfl
@[simp] theorem Try.dm_bool123 : Dm.tBool Try.prog 123 = false := by kernel_rfl
@[simp] theorem Try.dm_sl123 : Dm.tSl Try.prog 123 = false := by kernel_rfl
@[simp] theorem Try.dm_ptr123 : Dm.tPtr Try.prog 123 = false := by kernel_rfl
@[simp] theorem Try.dm_zero123 : Dm.tZero Try.prog 123 = some [.nilfn] := by kernel_rfl
@[simp] theorem Try.dm_agg124 : Dm.tAgg Try.prog 124 = some false := by kernel_rfl
@[simp] theorem Try.dm_cells124 : Dm.tCells Try.prog 124 = some 1 := by kernel_rfl
@[simp] theorem Try.dm_und124 : (Program.underlying Try.prog 124).isSome = true := by kernel_rfl
@[simp] theorem Try.dm_str124 : Dm.tStr Try.prog 124 = false := by kernel_rfl
@[simp] theorem Try.dm_bool124 : Dm.tBool Try.prog 124 = false := by kernel_rfl
@[simp] theorem Try.dm_sl124 : Dm.tSl Try.prog 124 = false := by kernel_rfl
@[simp] theorem Try.dm_ptr124 : Dm.tPtr Try.prog 124 = false := by kernel_rfl
@[simp] theorem Try.dm_zero124 : Dm.tZero Try.prog 124 = some [.nilfn] := by kernel_rfl
@[simp] theorem Try.dm_agg125 : Dm.tAgg Try.prog 125 = some false := by kernel_rfl
@[simp] theorem Try.dm_cells125 : Dm.tCells Try.prog 125 = some 1 := by kernel_rfl
@[simp] theorem Try.dm_und125 : (Program.underlying Try.prog 125).isSome = true := by kernel_rfl
@[simp] theorem Try.dm_str125 : Dm.tStr Try.prog 125 = false := by kernel_rfl
@[simp] theorem Try.dm_bool125 : Dm.tBool Try.prog 125 = false := by kernel_rfl
@[simp] theorem Try.dm_sl125 : Dm.tSl Try.prog 125 = false := by kernel_rfl
@[simp] theorem Try.dm_ptr125 : Dm.tPtr Try.prog 125 = false := by kernel_rfl
@[simp] theorem Try.dm_zero125 : Dm.tZero Try.prog 125 = some [.nilfn] := by kernel_rfl
@[simp] theorem Try.dm_agg126 : Dm.tAgg Try.prog 126 = some false := by kernel_rfl
@[simp] theorem Try.dm_cells126 : Dm.tCells Try.prog 126 = some 1 := by kernel_rfl
@[simp] theorem Try.dm_und126 : (Program.underlying Try.prog 126).isSome = true := by kernel_rfl
@[simp] theorem Try.dm_str126 : Dm.tStr Try.prog 126 = false := by kernel_rfl
@[simp] theorem Try.dm_bool126 : Dm.tBool Try.prog 126 = false := by kernel_rfl
@[simp] theorem Try.dm_sl126 : Dm.tSl Try.prog 126 = false := by kernel_rfl
@[simp] theorem Try.dm_ptr126 : Dm.tPtr Try.prog 126 = false := by kernel_rfl
@[simp] theorem Try.dm_zero126 : Dm.tZero Try.prog 126 = some [.nilfn] := by kernel_rfl
@[simp] theorem Try.dm_agg127 : Dm.tAgg Try.prog 127 = some false := by kernel_rfl
@[simp] theorem Try.dm_cells127 : Dm.tCells Try.prog 127 = some 1 := by kernel_rfl
@[simp] theorem Try.dm_und127 : (Program.underlying Try.prog 127).isSome = true := by kernel_rfl
@[simp] theorem Try.dm_str127 : Dm.tStr Try.prog 127 = false := by kernel_rfl
@[simp] theorem Try.dm_bool127 : Dm.tBool Try.prog 127 = false := by kernel_rfl
@[simp] theorem Try.dm_sl127 : Dm.tSl Try.prog 127 = false := by kernel_rfl
@[simp] theorem Try.dm_ptr127 : Dm.tPtr Try.prog 127 = false := by kernel_rfl
@[simp] theorem Try.dm_zero127 : Dm.tZero Try.prog 127 = some [.nilfn] := by kernel_rfl
@[simp] theorem Try.dm_agg128 : Dm.tAgg Try.prog 128 = some false := by kernel_rfl
@[simp] theorem Try.dm_cells128 : Dm.tCells Try.prog 128 = some 1 := by kernel_rfl
@[simp] theorem Try.dm_und128 : (Program.underlying Try.prog 128).isSome = true := by kernel_rfl
@[simp] theorem Try.dm_str128 : Dm.tStr Try.prog 128 = false := by kernel_rfl
@[simp] theorem Try.dm_bool128 : Dm.tBool Try.prog 128 = false := by kernel_rfl
@[simp] theorem Try.dm_sl128 : Dm.tSl Try.prog 128 = false := by kernel_rfl
@[simp] theorem Try.dm_ptr128 : Dm.tPtr Try.prog 128 = false := by kernel_rfl
@[simp] theorem Try.dm_zero128 : Dm.tZero Try.prog 128 = some [.nilfn] := by kernel_rfl
@[simp] theorem Try.dm_agg134 : Dm.tAgg Try.prog 134 = some false := by kernel_rfl
@[simp] theorem Try.dm_cells134 : Dm.tCells Try.prog 134 = some 1 := by kernel_rfl
@[simp] theorem Try.dm_und134 : (Program.underlying Try.prog 134).isSome = true := by kernel_rfl
@[simp] theorem Try.dm_str134 : Dm.tStr Try.prog 134 = false := by kernel_rfl
@[simp] theorem Try.dm_bool134 : Dm.tBool Try.prog 134 = false := by kernel_rfl
@[simp] theorem Try.dm_sl134 : Dm.tSl Try.prog 134 = false := by kernel_rfl
@[simp] theorem Try.dm_ptr134 : Dm.tPtr Try.prog 134 = false := by kernel_rfl
@[simp] theorem Try.dm_zero134 : Dm.tZero Try.prog 134 = some [.nilfn] := by kernel_rfl
@[simp] theorem Try.dm_agg138 : Dm.tAgg Try.prog 138 = some false := by kernel_rfl
@[simp] theorem Try.dm_cells138 : Dm.tCells Try.prog 138 = some 1 := by kernel_rfl
@[simp] theorem Try.dm_und138 : (Program.underlying Try.prog 138).isSome = true := by kernel_rfl
@[simp] theorem Try.dm_str138 : Dm.tStr Try.prog 138 = false := by kernel_rfl
@[simp] theorem Try.dm_bool138 : Dm.tBool Try.prog 138 = false := by kernel_rfl
@[simp] theorem Try.dm_sl138 : Dm.tSl Try.prog 138 = false := by kernel_rfl
@[simp] theorem Try.dm_ptr138 : Dm.tPtr Try.prog 138 = false := by kernel_rfl
@[simp] theorem Try.dm_zero138 : Dm.tZero Try.prog 138 = some [.nilfn] := by kernel_rfl
@[simp] theorem Try.dm_agg150 : Dm.tAgg Try.prog 150 = some false := by kernel_rfl
@[simp] theorem Try.dm_cells150 : Dm.tCells Try.prog 150 = some 1 := by kernel_rfl
@[simp] theorem Try.dm_und150 : (Program.underlying Try.prog 150).isSome = true := by kernel_rfl
@[simp] theorem Try.dm_str150 : Dm.tStr Try.prog 150 = false := by kernel_rfl
@[simp] theorem Try.dm_bool150 : Dm.tBool Try.prog 150 = false := by kernel_rfl
@[simp] theorem Try.dm_sl150 : Dm.tSl Try.prog 150 = false := by kernel_rfl
@[simp] theorem Try.dm_ptr150 : Dm.tPtr Try.prog 150 = true := by kernel_rfl
@[simp] theorem Try.dm_zero150 : Dm.tZero Try.prog 150 = some [.nilp] := by kernel_rfl
@[simp] theorem Try.dm_agg161 : Dm.tAgg Try.prog 161 = some true := by kernel_rfl
@[simp] theorem Try.dm_cells161 : Dm.tCells Try.prog 161 = some 0 := by kernel_rfl
@[simp] theorem Try.dm_und161 : (Program.underlying Try.prog 161).isSome = true := by kernel_rfl
@[simp] theorem Try.dm_str161 : Dm.tStr Try.prog 161 = false := by kernel_rfl
@[simp] theorem Try.dm_bool161 : Dm.tBool Try.prog 161 = false := by kernel_rfl
@[simp] theorem Try.dm_sl161 : Dm.tSl Try.prog 161 = false := by kernel_rfl
@[simp] theorem Try.dm_ptr161 : Dm.tPtr Try.prog 161 = false := by kernel_rfl
@[simp] theorem Try.dm_zero161 : Dm.tZero Try.prog 161 = some [] := by kernel_rfl
@[simp] theorem Try.dm_field161_0 : Dm.tField Try.prog 161 0 = some (0, 0, true) := by kernel_rfl
@[simp] theorem Try.dm_parts161 : Dm.tParts Try.prog 161 = true := by kernel_rfl
end Go.Proofs
end

section
/- The data machine, second make, part R: own objects under other names; contracts of functions that take and hand back own objects. -/

set_option linter.unusedSimpArgs false
set_option linter.unusedVariables false
namespace Go.Dm

/-- a reference under its new name, if it has one -/
def renR (φ : Nat → Nat → Option (Nat × Nat)) : DVal → DVal
  | .osl i r => match φ i r with | some p => .osl p.1 p.2 | none => .any
  | .vw i r k bs a n => match φ i r with | some p => .vw p.1 p.2 k bs a n | none => .any
  | .bx i r off => match φ i r with | some p => .bx p.1 p.2 off | none => .any
  | .rx i r k a b => match φ i r with | some p => .rx p.1 p.2 k a b | none => .any
  | .omp i r => match φ i r with | some p => .omp p.1 p.2 | none => .any
  | .pk i r => match φ i r with | some p => .pk p.1 p.2 | none => .any
  | d => d
def okR : DVal → Prop
  | .osl _ _ | .vw _ _ _ _ _ _ | .bx _ _ _ | .rx _ _ _ _ _ | .omp _ _ | .pk _ _ => True
  | d => mx d = 0
def okRs : List DVal → Prop
  | [] => True
  | d :: ds => okR d ∧ okRs ds
def ren2 (φ : Nat → Nat → Option (Nat × Nat)) : DVal → DVal
  | .fn f us cs => .fn f (us.map (renR φ)) (cs.map (renR φ))
  | d => renR φ d
def ok2 : DVal → Prop
  | .fn _ us cs => okRs us ∧ okRs cs
  | d => okR d
def ok2s : List DVal → Prop
  | [] => True
  | d :: ds => ok2 d ∧ ok2s ds
def ren3 (φ : Nat → Nat → Option (Nat × Nat)) : DVal → DVal
  | .agg cs => .agg (cs.map (ren2 φ))
  | d => ren2 φ d
def ok3 : DVal → Prop
  | .agg cs => ok2s cs
  | d => ok2 d
def ok3s : List DVal → Prop
  | [] => True
  | d :: ds => ok3 d ∧ ok3s ds
def renD (φ : Nat → Nat → Option (Nat × Nat)) : DVal → DVal
  | .tup cs => .tup (cs.map (ren3 φ))
  | d => ren3 φ d
def okD : DVal → Prop
  | .tup cs => ok3s cs
  | d => ok3 d
def ok2r : List (List DVal) → Prop
  | [] => True
  | cs :: es => ok2s cs ∧ ok2r es
def ren2r (φ : Nat → Nat → Option (Nat × Nat)) : List (List DVal) → List (List DVal)
  | [] => []
  | cs :: es => cs.map (ren2 φ) :: ren2r φ es
def renO (φ : Nat → Nat → Option (Nat × Nat)) : DObj → DObj
  | .box cs => .box (cs.map (ren2 φ))
  | .row et k bs es => if mxR es = 0 then .row et k bs es else .row et k bs (ren2r φ es)
  | o => o
def okO : DObj → Prop
  | .box cs => ok2s cs
  | .row _ _ _ es => mxR es = 0 ∨ ok2r es
  | .map ks vs => mxL ks = 0 ∧ mxL vs = 0
  | .abs _ => True

section
variable {cur cur' : Cur} {M M' : List Nat} {h h' : Array Obj} {φ : Nat → Nat → Option (Nat × Nat)}

/-- the new names lead where the old ones led -/
def Leads (cur cur' : Cur) (φ : Nat → Nat → Option (Nat × Nat)) : Prop := ∀ i r p l, φ i r = some p → cur' p.1 p.2 = some l → cur i r = some l

theorem rd_renR (W : Weak cur cur' M M' h h' 0) (L : Leads cur cur' φ) {d : DVal} {v : Value} (hk : okR d) (hr : rd cur M h d v) : rd cur' M' h' (renR φ d) v := by
  cases d with
  | osl i r =>
    simp only [renR]
    split
    · rename_i p hp; simp only [rd] at hr ⊢; exact fun l hl => hr l (L i r p l hp hl)
    · simp [rd]
  | bx i r off =>
    simp only [renR]
    split
    · rename_i p hp; simp only [rd] at hr ⊢; exact fun l hl => hr l (L i r p l hp hl)
    · simp [rd]
  | vw i r k bs x n =>
    simp only [renR]
    split
    · rename_i p hp; simp only [rd] at hr ⊢; exact fun l hl => hr l (L i r p l hp hl)
    · simp [rd]
  | rx i r k a b =>
    simp only [renR]
    split
    · rename_i p hp; simp only [rd] at hr ⊢; exact fun l hl => hr l (L i r p l hp hl)
    · simp [rd]
  | omp i r =>
    simp only [renR]
    split
    · rename_i p hp; simp only [rd] at hr ⊢; exact fun l hl => hr l (L i r p l hp hl)
    · simp [rd]
  | pk i r =>
    simp only [renR]
    split
    · rename_i p hp; simp only [rd] at hr ⊢; exact fun l hl => hr l (L i r p l hp hl)
    · simp [rd]
  | _ => simp only [okR] at hk; simp only [renR]; exact rd_weak W _ v (Nat.le_of_eq hk) hr

theorem rdV_renR (W : Weak cur cur' M M' h h' 0) (L : Leads cur cur' φ) : ∀ {ds : List DVal} {vs : List Value}, okRs ds → rdV cur M h ds vs → rdV cur' M' h' (ds.map (renR φ)) vs
  | [], vs, _, hr => by simpa [rdV] using hr
  | d :: ds, vs, hk, hr => by
    simp only [okRs] at hk
    simp only [rdV, List.map_cons] at hr ⊢
    obtain ⟨v, r, rfl, h1, h2⟩ := hr
    exact ⟨v, r, rfl, rd_renR W L hk.1 h1, rdV_renR W L hk.2 h2⟩

theorem rd_ren2 (W : Weak cur cur' M M' h h' 0) (L : Leads cur cur' φ) {d : DVal} {v : Value} (hk : ok2 d) (hr : rd cur M h d v) : rd cur' M' h' (ren2 φ d) v := by
  cases d with
  | fn f us cs =>
    simp only [ok2] at hk
    simp only [ren2, rd] at hr ⊢
    obtain ⟨us', cs', h1, h2, h3⟩ := hr
    exact ⟨us', cs', h1, rdV_renR W L hk.1 h2, rdV_renR W L hk.2 h3⟩
  | _ => exact rd_renR W L (by simpa only [ok2] using hk) hr

theorem rdV_ren2 (W : Weak cur cur' M M' h h' 0) (L : Leads cur cur' φ) : ∀ {ds : List DVal} {vs : List Value}, ok2s ds → rdV cur M h ds vs → rdV cur' M' h' (ds.map (ren2 φ)) vs
  | [], vs, _, hr => by simpa [rdV] using hr
  | d :: ds, vs, hk, hr => by
    simp only [ok2s] at hk
    simp only [rdV, List.map_cons] at hr ⊢
    obtain ⟨v, r, rfl, h1, h2⟩ := hr
    exact ⟨v, r, rfl, rd_ren2 W L hk.1 h1, rdV_ren2 W L hk.2 h2⟩

theorem rdC_ren2 (W : Weak cur cur' M M' h h' 0) (L : Leads cur cur' φ) : ∀ {ds : List DVal} {arr : Array Value} {o : Nat}, ok2s ds → rdC cur M h ds arr o → rdC cur' M' h' (ds.map (ren2 φ)) arr o
  | [], _, _, _, _ => by simp [rdC]
  | d :: ds, arr, o, hk, hr => by
    simp only [ok2s] at hk
    simp only [rdC, List.map_cons] at hr ⊢
    obtain ⟨⟨v, h1, h2, h3⟩, h4⟩ := hr
    exact ⟨⟨v, h1, h2, rd_ren2 W L hk.1 h3⟩, rdC_ren2 W L hk.2 h4⟩

theorem rd_ren3 (W : Weak cur cur' M M' h h' 0) (L : Leads cur cur' φ) {d : DVal} {v : Value} (hk : ok3 d) (hr : rd cur M h d v) : rd cur' M' h' (ren3 φ d) v := by
  cases d with
  | agg cs =>
    simp only [ok3] at hk
    simp only [ren3, rd] at hr ⊢
    obtain ⟨us, h1, h2⟩ := hr
    exact ⟨us, h1, rdV_ren2 W L hk h2⟩
  | _ => exact rd_ren2 W L (by simpa only [ok3] using hk) hr

theorem rdV_ren3 (W : Weak cur cur' M M' h h' 0) (L : Leads cur cur' φ) : ∀ {ds : List DVal} {vs : List Value}, ok3s ds → rdV cur M h ds vs → rdV cur' M' h' (ds.map (ren3 φ)) vs
  | [], vs, _, hr => by simpa [rdV] using hr
  | d :: ds, vs, hk, hr => by
    simp only [ok3s] at hk
    simp only [rdV, List.map_cons] at hr ⊢
    obtain ⟨v, r, rfl, h1, h2⟩ := hr
    exact ⟨v, r, rfl, rd_ren3 W L hk.1 h1, rdV_ren3 W L hk.2 h2⟩

theorem rd_renD (W : Weak cur cur' M M' h h' 0) (L : Leads cur cur' φ) {d : DVal} {v : Value} (hk : okD d) (hr : rd cur M h d v) : rd cur' M' h' (renD φ d) v := by
  cases d with
  | tup cs =>
    simp only [okD] at hk
    simp only [renD, rd] at hr ⊢
    obtain ⟨us, h1, h2⟩ := hr
    exact ⟨us, h1, rdV_ren3 W L hk h2⟩
  | _ => exact rd_ren3 W L (by simpa only [okD] using hk) hr

theorem rdR_ren2 (W : Weak cur cur' M M' h h' 0) (L : Leads cur cur' φ) {k : Nat} : ∀ {es : List (List DVal)} {arr : Array Value} {o : Nat}, ok2r es → rdR cur M h k es arr o → rdR cur' M' h' k (ren2r φ es) arr o
  | [], _, _, _, _ => by simp [ren2r, rdR]
  | cs :: es, arr, o, hk, hr => by
    simp only [ok2r] at hk
    simp only [rdR, ren2r] at hr ⊢
    exact ⟨by simpa using hr.1, rdC_ren2 W L hk.1 hr.2.1, rdR_ren2 W L hk.2 hr.2.2⟩
theorem ren2r_len (φ : Nat → Nat → Option (Nat × Nat)) (es : List (List DVal)) : (ren2r φ es).length = es.length := by
  induction es with
  | nil => rfl
  | cons c l ih => simp [ren2r, ih]
theorem ObjOK_ren (W : Weak cur cur' M M' h h' 0) (L : Leads cur cur' φ) {l l' : Loc} {obj : DObj} (hk : okO obj) (hl : l' = l)
    (keep : ∀ b o, b ∈ l.blks → h[b]? = some o → h'[b]? = some o) (ho : ObjOK cur M h l obj) : ObjOK cur' M' h' l' (renO φ obj) := by
  subst hl
  cases obj with
  | box cs =>
    simp only [okO] at hk
    obtain ⟨b, arr, ty, h1, h2, h3, h4⟩ := ho
    exact ⟨b, arr, ty, h1, keep b _ (by simp [h1]) h2, by simp [h3], rdC_ren2 W L hk h4⟩
  | row et k bs es =>
    simp only [renO]
    split
    · rename_i h0
      exact ObjOK_weak W (by simp [mxO, h0]) keep ho
    · rename_i h0
      simp only [okO] at hk
      have hk := hk.resolve_left h0
      obtain ⟨hb, ho⟩ := ho
      refine ⟨by rw [ren2r_len]; exact hb, ?_⟩
      rcases ho with ⟨rfl, h1, h2⟩ | ⟨b, arr, cap, h1, h2, h3, h4, h5, h6, h7⟩
      · exact .inl ⟨rfl, h1, h2⟩
      · exact .inr ⟨b, arr, cap, h1, by rw [ren2r_len]; exact h2, keep b _ (by simp [h1]) h3, by rw [ren2r_len]; exact h4, h5, h6, rdR_ren2 W L hk h7⟩
  | map ks vs => exact ObjOK_weak W (by simp only [okO] at hk; simp [renO, mxO, hk]) keep ho
  | abs A => exact ObjOK_weak W (by simp [renO, mxO]) keep ho
end

def FEnters (P : Program) : Fn → Prop
  | .func g => Enters P g
  | _ => True

/-- which new name: ρ says (old number, new number, new version) of those that are handed on -/
def phiOf (own : List Ent) : List (Nat × Nat × Nat) → Nat → Nat → Option (Nat × Nat)
  | [], _, _ => none
  | (i, j, v) :: ρ, i', r' => if i' = i then (match findE own i with | some e => if r' = e.r then some (j, v) else none | none => none) else phiOf own ρ i' r'

/-- the own objects that are handed on -/
def outE (own : List Ent) (φ : Nat → Nat → Option (Nat × Nat)) : List (Nat × Nat × Nat) → Option (List Ent)
  | [] => some []
  | (i, j, v) :: ρ => match findE own i, outE own φ ρ with
    | some e, some l => some (⟨j, v, renO φ e.obj⟩ :: l)
    | _, _ => none
def outOK (own : List Ent) : List (Nat × Nat × Nat) → Prop
  | [] => True
  | (i, j, v) :: ρ => (match findE own i with | some e => okO e.obj ∧ (v = 1 ∨ (v = 0 ∧ i = j ∧ e.r = 0)) | none => False) ∧ outOK own ρ

section
variable {own : List Ent}

theorem phiOf_some : ∀ {ρ : List (Nat × Nat × Nat)} {i r : Nat} {p : Nat × Nat}, phiOf own ρ i r = some p → ∃ e, (i, p.1, p.2) ∈ ρ ∧ findE own i = some e ∧ e.r = r
  | [], i, r, p, h => by simp [phiOf] at h
  | (i0, j, v) :: ρ, i, r, p, h => by
    simp only [phiOf] at h
    split at h
    · rename_i hi
      subst hi
      split at h
      · rename_i e he
        split at h
        · rename_i hr
          simp only [Option.some.injEq] at h
          subst h
          exact ⟨e, List.mem_cons_self, he, hr.symm⟩
        · simp at h
      · simp at h
    · obtain ⟨e, h1, h2, h3⟩ := phiOf_some h
      exact ⟨e, List.mem_cons_of_mem _ h1, h2, h3⟩

theorem outE_mem {φ : Nat → Nat → Option (Nat × Nat)} : ∀ {ρ : List (Nat × Nat × Nat)} {l : List Ent}, outE own φ ρ = some l → (∀ x ∈ l, ∃ i j v e, (i, j, v) ∈ ρ ∧ findE own i = some e ∧ x = ⟨j, v, renO φ e.obj⟩) ∧ l.map (·.id) = ρ.map (·.2.1)
  | [], l, h => by simp only [outE, Option.some.injEq] at h; subst h; simp
  | (i, j, v) :: ρ, l, h => by
    simp only [outE] at h
    split at h
    · rename_i e l' he hl'
      simp only [Option.some.injEq] at h
      subst h
      obtain ⟨h1, h2⟩ := outE_mem hl'
      refine ⟨fun x hx => ?_, by simp [h2]⟩
      rcases List.mem_cons.1 hx with rfl | hx
      · exact ⟨i, j, v, e, List.mem_cons_self, he, rfl⟩
      · obtain ⟨i', j', v', e', g1, g2, g3⟩ := h1 x hx
        exact ⟨i', j', v', e', List.mem_cons_of_mem _ g1, g2, g3⟩
    · simp at h

theorem outOK_mem : ∀ {ρ : List (Nat × Nat × Nat)}, outOK own ρ → ∀ i j v, (i, j, v) ∈ ρ → ∃ e, findE own i = some e ∧ okO e.obj ∧ (v = 1 ∨ (v = 0 ∧ i = j ∧ e.r = 0))
  | [], _, i, j, v, hm => by cases hm
  | (i0, j0, v0) :: ρ, h, i, j, v, hm => by
    simp only [outOK] at h
    rcases List.mem_cons.1 hm with heq | hm
    · simp only [Prod.mk.injEq] at heq
      obtain ⟨rfl, rfl, rfl⟩ := heq
      have h1 := h.1
      split at h1
      · rename_i e he; exact ⟨e, he, h1⟩
      · exact h1.elim
    · exact outOK_mem h.2 i j v hm
end

end Go.Dm
end

section
/- The data machine, second make, part Q: a contract of a function that takes own objects, turned to the caller's names. -/

set_option linter.unusedSimpArgs false
set_option linter.unusedVariables false
namespace Go.Dm

/-- The same in a caller's names: what is handed back anew is of version r. -/
def SpecAt (P : Program) (f : Fn) (args : List DVal) (own : List Ent) (r : Nat) (d : DVal) (own' : List Ent) : Prop :=
  FEnters P f ∧ (own'.map (·.id)).Nodup ∧ (mxE own ≤ r → mx d ≤ r + 1 ∧ mxE own' ≤ r + 1) ∧
  ∀ (M : List Nat) (w : World) (loc : Nat → Loc) (vs : Array Value), mxE own ≤ r → St own loc M w.heap → rdV (curOf own loc) (hotOf own loc ++ M) w.heap args vs.toList →
    FCalls P f vs w fun v w' => ∃ loc', St own' loc' M w'.heap ∧ Upd (hotOf own loc) w w' ∧ (∀ b ∈ hotOf own' loc', b ∈ hotOf own loc ∨ w.heap.size ≤ b) ∧
      (∀ e ∈ own', e.r < r → curOf own loc e.id e.r = some (loc' e.id)) ∧ rd (curOf own' loc') (hotOf own' loc' ++ M) w'.heap d v

/-- who bears the contract's number j -/
def lookR : List (Nat × Nat) → Nat → Option Nat
  | [], _ => none
  | (i, j') :: t, j => if j = j' then some i else lookR t j
def inRho (ρ : List (Nat × Nat)) : List (Nat × Nat × Nat) := ρ.map fun p => (p.1, p.2, 0)
/-- the contract's names turned to the caller's -/
def backOf (own : List Ent) (ρ ν : List (Nat × Nat)) (r : Nat) : Nat → Nat → Option (Nat × Nat) := fun j v =>
  if v = 0 then (match lookR ρ j with | some i => (match findE own i with | some e => some (i, e.r) | none => none) | none => none)
  else if v = 1 then (match lookR (ρ ++ ν) j with | some i => some (i, r) | none => none)
  else none
def backE (φ : Nat → Nat → Option (Nat × Nat)) : List Ent → Option (List Ent)
  | [] => some []
  | e :: t => match φ e.id e.r, backE φ t with
    | some p, some l => some (⟨p.1, p.2, renO φ e.obj⟩ :: l)
    | _, _ => none
def frameE : List Ent → List Nat → List Ent
  | [], _ => []
  | e :: t, ids => if ids.contains e.id then frameE t ids else e :: frameE t ids
def okOs : List Ent → Prop
  | [] => True
  | e :: t => okO e.obj ∧ okOs t
def okDs : List DVal → Prop
  | [] => True
  | d :: t => okD d ∧ okDs t
def inOK (own : List Ent) : List (Nat × Nat) → Prop
  | [] => True
  | (i, _) :: t => (match findE own i with | some e => okO e.obj | none => False) ∧ inOK own t

theorem lookR_of_mem : ∀ {l : List (Nat × Nat)} {j i : Nat}, (l.map (·.2)).Nodup → (i, j) ∈ l → lookR l j = some i
  | (i', j') :: t, j, i, hn, h => by
    simp only [List.map_cons, List.nodup_cons] at hn
    simp only [lookR]
    rcases List.mem_cons.1 h with h | h
    · simp only [Prod.mk.injEq] at h
      rw [if_pos h.2, h.1]
    · rw [if_neg (fun hj => hn.1 (by rw [← hj]; exact List.mem_map_of_mem (f := (·.2)) h)), lookR_of_mem hn.2 h]

theorem hot_nodup_ids0 {own : List Ent} {loc : Nat → Loc} (hn : (hotOf own loc).Nodup) : ∀ l : List Ent, (l.map (·.id)).Nodup → (∀ e ∈ l, ∃ e0 ∈ own, e0.id = e.id) → (hotOf l loc).Nodup
  | [], _, _ => by simp [hotOf]
  | e :: l, hd, hm => by
    simp only [List.map_cons, List.nodup_cons] at hd
    rw [hot_cons, List.nodup_append]
    obtain ⟨e0, he0, hid0⟩ := hm e List.mem_cons_self
    refine ⟨by rw [← hid0]; exact blks_nodup hn e0 he0, hot_nodup_ids0 hn l hd.2 (fun x hx => hm x (List.mem_cons_of_mem _ hx)), ?_⟩
    intro b hb b' hb' hbb
    subst hbb
    obtain ⟨e2, he2, hb2⟩ := List.mem_flatMap.1 hb'
    obtain ⟨e3, he3, hid3⟩ := hm e2 (List.mem_cons_of_mem _ he2)
    have := hot_inj hn e0 he0 e3 he3 b (by rw [hid0]; exact hb) (by rw [hid3]; exact hb2)
    subst this
    exact hd.1 (List.mem_map.2 ⟨e2, he2, by rw [← hid3, hid0]⟩)

/-! renamed data name no greater version -/
section
variable {φ : Nat → Nat → Option (Nat × Nat)} {n : Nat}
end

end Go.Dm
end

section
/- The data machine, second make, part I3: copies into own rows. -/


set_option linter.unusedSimpArgs false
set_option linter.unusedVariables false
namespace Go.Dm

/-- elements i .. of es overwritten by es2, as far as there are m -/
def copyD (es : List (List DVal)) (i m : Nat) (es2 : List (List DVal)) : List (List DVal) := es.take i ++ es2.take m ++ es.drop (i + min es2.length m)
theorem copyD_len {es es2 : List (List DVal)} {i m : Nat} (h : i + m ≤ es.length) : (copyD es i m es2).length = es.length := by
  simp only [copyD, List.length_append, List.length_take, List.length_drop]; omega
theorem mxR_take' {es : List (List DVal)} {k n : Nat} (h : mxR es ≤ n) : mxR (es.take k) ≤ n := Nat.le_trans (mxR_take k es) h
theorem mxR_drop' {es : List (List DVal)} {k n : Nat} (h : mxR es ≤ n) : mxR (es.drop k) ≤ n := Nat.le_trans (mxR_drop k es) h
theorem copyD_mx {es es2 : List (List DVal)} {i m n : Nat} (h1 : mxR es ≤ n) (h2 : mxR es2 ≤ n) : mxR (copyD es i m es2) ≤ n := by
  unfold copyD
  rw [mxR_append, mxR_append]
  have := mxR_take' (k := i) h1
  have := mxR_take' (k := m) h2
  have := mxR_drop' (k := i + min es2.length m) h1
  omega

theorem flat_take {k : Nat} : ∀ (rows : List (List Value)) (i : Nat), (∀ r ∈ rows, r.length = k) → (rows.take i).flatten = rows.flatten.take (i * k)
  | [], i, _ => by simp
  | r :: rows, 0, _ => by simp
  | r :: rows, i + 1, h => by
    have hr := h r List.mem_cons_self
    rw [List.take_succ_cons, List.flatten_cons, List.flatten_cons, flat_take rows i fun x hx => h x (List.mem_cons_of_mem _ hx), List.take_append, hr]
    have e1 : (i + 1) * k - k = i * k := by rw [Nat.add_mul]; omega
    rw [e1, List.take_of_length_le (l := r) (by rw [hr, Nat.add_mul]; omega)]
theorem flat_drop {k : Nat} : ∀ (rows : List (List Value)) (i : Nat), (∀ r ∈ rows, r.length = k) → (rows.drop i).flatten = rows.flatten.drop (i * k)
  | [], i, _ => by simp
  | r :: rows, 0, _ => by simp
  | r :: rows, i + 1, h => by
    have hr := h r List.mem_cons_self
    rw [List.drop_succ_cons, List.flatten_cons, flat_drop rows i fun x hx => h x (List.mem_cons_of_mem _ hx), List.drop_append, hr]
    have e1 : (i + 1) * k - k = i * k := by rw [Nat.add_mul]; omega
    rw [e1, List.drop_of_length_le (l := r) (by rw [hr, Nat.add_mul]; omega), List.nil_append]

section
variable {P : Program} {B : Base} {s : DS} {a : Act} {w : World} {loc : Nat → Loc}

theorem rows_k {cur : Cur} {M : List Nat} {H : Array Obj} {k : Nat} {es : List (List DVal)} {rows : List (List Value)} (hl : rows.length = es.length)
    (h : ∀ (i : Nat) (cs : List DVal) (us : List Value), es[i]? = some cs → rows[i]? = some us → cs.length = k ∧ rdV cur M H cs us ∧ ∀ u ∈ us, u.oneCell' = true) : ∀ r ∈ rows, r.length = k := by
  intro r hr
  obtain ⟨i, hi, rfl⟩ := List.getElem_of_mem hr
  obtain ⟨h1, h2, _⟩ := h i es[i] rows[i] (List.getElem?_eq_getElem _) (List.getElem?_eq_getElem _)
  have := rdV_length _ _ h2
  omega

theorem Rel.copyRow {d sd : DVal} {id r k0 bs0 i m n k2 : Nat} {t ty : TypeId} {et k bs : Nat} {es es2 : List (List DVal)} {e : Ent} {v sv : Value} {dst : Option Nat} (R : Rel B s a w loc) (he : findE s.own id = some e) (her : e.r = r) (hob : e.obj = .row et k bs es)
    (hv : Rds s loc B.M0 w d v) (hd : d = .osl id r ∧ i = 0 ∧ m = es.length ∨ d = .vw id r k bs0 i m) (hb : i + m ≤ es.length) (ht : tElem P t = some (k, k0)) (hk : 0 < k)
    (hsv : Rds s loc B.M0 w sd sv) (hsrc : rowsN s.own sd = some (k2, es2)) (hk2 : k2 = k ∨ es2 = []) (hmx2 : mxR es2 ≤ n)
    (hlim : lim B s ≤ n) (hdst : ∀ i, dst = some i → i < B.nt) :
    ∃ w', (Builtin.copy_ #[t, t] ty #[v, sv]).run P w = .ok (goInt (min es2.length m : Nat)) w' ∧ Rel B ⟨putS s.slots dst (.int .i64 (min es2.length m : Nat)), upE s.own id r (.row et k bs (copyD es i m es2))⟩ (a.put dst (goInt (min es2.length m : Nat))) w' (upL loc id (loc id)) := by
  obtain ⟨e1, i1, hu, hi, hsz, hby, _⟩ := tElem_some ht
  obtain ⟨rows2, q1, q2, q3, q4, q5, q6⟩ := src_ok (B := B) R.st hsv hsrc
  obtain ⟨ad, cap, rfl, hat⟩ := part_at (B := B) R.st he her hob hv hd
  have hmem := (findE_ent he).1
  have hid := (findE_ent he).2
  have hmxo := (mem_mxE hmem).2
  rw [hob] at hmxo
  simp only [mxO] at hmxo
  have hrdi : ∀ cur M h, rd cur M h (.int .i64 (min es2.length m : Nat)) (goInt (min es2.length m : Nat)) := by
    intro cur M h
    have h5 : min es2.length m ≤ maxLen := Nat.le_trans (Nat.min_le_left _ _) q5
    unfold maxLen at h5
    simp only [rd, goInt]
    refine ⟨?_, ?_⟩
    · trivial
    · simp only [inR]; omega
  by_cases hm : min es2.length m = 0
  · have hcl : copyD es i m es2 = es := by
      unfold copyD
      rw [hm]
      have : es2.take m = [] := by
        rw [← List.length_eq_zero_iff, List.length_take]; omega
      rw [this, List.append_nil, Nat.add_zero, List.take_append_drop]
    rw [hcl]
    rw [hm] at hrdi ⊢
    have hrun : (Builtin.copy_ #[t, t] ty #[.slice ad m cap, sv]).run P w = .ok (goInt 0) w := by
      have hl : ∀ (x : Addr), (loadCells x 0).run P w = .ok #[] w := fun x => by simpa using run_loadCells_list (P := P) w x [] (by simp)
      rcases q6 with ⟨_, x, cap2, rfl⟩ | ⟨x, cap2, rfl, _⟩
      · cases ad <;> cases x <;> simp [Builtin.copy_, run_underlying hu, Builtin.lenOf, Builtin.firstCells, sizeOf, typeInfo, hi, storeCells, hl]
      · have hm' : Nat.min es2.length m = 0 := hm
        cases ad <;> simp [Builtin.copy_, run_underlying hu, Builtin.lenOf, Builtin.firstCells, sizeOf, typeInfo, hi, storeCells, hl, hm']
    refine ⟨w, hrun, ?_⟩
    have hcur : curOf s.own loc id r = some (loc id) := by unfold curOf; rw [he]; simp [her]
    have hk' := R.st.ok e hmem
    rw [hob, hid] at hk'
    have hL : ∀ b0, b0 ∈ (loc id).blks → b0 < w.heap.size ∧ ((∃ e ∈ s.own, e.id = id ∧ b0 ∈ (loc id).blks) ∨ w.heap.size ≤ b0) := fun b0 hb0 =>
      ⟨R.st.lt b0 (List.mem_append_left _ (mem_hot hmem (by rw [hid]; exact hb0))), .inl ⟨e, hmem, hid, hb0⟩⟩
    have W := R.weakUp (obj := .row et k bs es) hlim (Upd.refl _ w) hL (.inr hcur)
    unfold lim at hlim
    exact R.up (hLn := by have := blks_nodup R.st.bl e hmem; rwa [hid] at this) (n := n) hlim hdst (Upd.refl _ w) (fun _ _ _ => rfl) hL (.inr hcur) (ObjOK_weak W (by simp only [mxO]; omega) (fun _ _ _ h => h) hk') (hrdi _ _ _)
  · have hkk : k2 = k := by
      rcases hk2 with h | h
      · exact h
      · subst h; simp at hm
    subst hkk
    obtain ⟨b, hb1, rfl⟩ := hat (by omega)
    obtain ⟨h7, b', arr, cap', h1, h2, h3, h4, h5, h6, hrow⟩ := row_obj (B := B) R.st he hob (by intro h; subst h; simp at hb; omega)
    rw [h1] at hb1
    simp only [List.cons.injEq, and_true] at hb1
    subst hb1
    have hcap : es.length * k2 ≤ arr.size := by rw [← h6]; exact Nat.mul_le_mul_right _ h4
    rcases q6 with ⟨rfl, _⟩ | ⟨x, cap2, rfl, q6⟩
    · simp at hm
    obtain ⟨c, hc⟩ : ∃ c, c = min es2.length m := ⟨_, rfl⟩
    rw [← hc] at hm hrdi ⊢
    have hrk2 := rows_k q1 q2
    have hcs : (rows2.take c).flatten = rows2.flatten.take (c * k2) := flat_take rows2 c hrk2
    have hcsl : (rows2.take c).flatten.length = c * k2 := by
      rw [hcs, List.length_take, q3]
      have : c * k2 ≤ es2.length * k2 := Nat.mul_le_mul_right _ (by omega)
      omega
    have hone : ∀ u ∈ (rows2.take c).flatten, u.oneCell' = true := fun u hu' => q4 u (by rw [hcs] at hu'; exact List.mem_of_mem_take hu')
    have hsrcc : ∀ (j : Nat) (u : Value), (rows2.take c).flatten[j]? = some u → w.cell? (x.add j) = some u := by
      intro j u hj
      have hlt := (List.getElem?_eq_some_iff.1 hj).1
      rw [hcsl] at hlt
      rw [hcs, List.getElem?_take_of_lt hlt] at hj
      exact q6 j u hj
    have hload := run_loadCells_list (P := P) w x (rows2.take c).flatten hsrcc
    have hfit : i * k2 + c * k2 ≤ arr.size := by
      rw [← Nat.add_mul]; exact Nat.le_trans (Nat.mul_le_mul_right _ (by omega)) hcap
    have hst := run_storeCells_at P b' (i * k2) et (rows2.take c).flatten 0 arr w h3 (by rw [hcsl]; omega) hone
    simp only [Nat.add_zero] at hst
    obtain ⟨rows, r1, r2, r3, r4⟩ := rdR_vals k2 es arr 0 hrow
    have hrk := rows_k r1 r3
    have hflat := take_flat r2 r4 hcap
    have harr : arr.toList = rows.flatten ++ arr.toList.drop (es.length * k2) := by rw [← hflat, List.take_append_drop]
    have hik : i * k2 ≤ rows.flatten.length := by rw [r2]; exact Nat.mul_le_mul_right _ (by omega)
    have hic : i * k2 + c * k2 ≤ rows.flatten.length := by rw [r2, ← Nat.add_mul]; exact Nat.mul_le_mul_right _ (by omega)
    have hnew : (arr.toList.take (i * k2) ++ (rows2.take c).flatten ++ arr.toList.drop (i * k2 + (rows2.take c).flatten.length)) = (rows.take i ++ rows2.take c ++ rows.drop (i + c)).flatten ++ arr.toList.drop (es.length * k2) := by
      have e_t : rows.flatten.take (i * k2) = arr.toList.take (i * k2) := by rw [← hflat, List.take_take, Nat.min_eq_left (by rw [r2] at hik; exact hik)]
      have e_d : arr.toList.drop (i * k2 + c * k2) = rows.flatten.drop ((i + c) * k2) ++ arr.toList.drop (es.length * k2) := by
        rw [Nat.add_mul]
        conv => lhs; rw [harr]
        exact List.drop_append_of_le_length hic
      rw [hcsl, List.flatten_append, List.flatten_append, flat_take rows i hrk, flat_drop rows (i + c) hrk, e_t, e_d, List.append_assoc, List.append_assoc, List.append_assoc]
    refine ⟨_, ?_, R.writeRow (es' := copyD es i m es2) (arr' := (arr.toList.take (i * k2) ++ (rows2.take c).flatten ++ arr.toList.drop (i * k2 + (rows2.take c).flatten.length)).toArray) he her hob h1 h2 h3 h4 h5 h6 h7 (copyD_len hb) ?_ ?_ (copyD_mx (by unfold lim at hlim; omega) hmx2) hlim hdst hrdi⟩
    · have hc' : c = Nat.min es2.length m := hc
      have hls : es2.length = es2.length := rfl
      rw [hcsl] at hload
      simp [Builtin.copy_, run_underlying hu, Builtin.lenOf, Builtin.firstCells, sizeOf, typeInfo, hi, ← hc', hsz, hload, hst, -List.length_flatten]
    · simp only [List.size_toArray, List.length_append, List.length_take, List.length_drop, Array.length_toList, hcsl]; omega
    · rw [hnew]
      refine rdR_of k2 _ _ _ ?_ ?_
      · simp only [copyD, List.length_append, List.length_take, List.length_drop]; omega
      · intro j cs us hj hu'
        unfold copyD at hj
        rw [← hc] at hj
        by_cases hj1 : j < i
        · rw [List.append_assoc, List.getElem?_append_left (by simp; omega), List.getElem?_take_of_lt hj1] at hj
          rw [List.append_assoc, List.getElem?_append_left (by simp; omega), List.getElem?_take_of_lt hj1] at hu'
          exact r3 j cs us hj hu'
        · by_cases hj2 : j < i + c
          · rw [List.getElem?_append_left (by simp; omega), List.getElem?_append_right (by simp; omega), List.length_take, Nat.min_eq_left (by omega), List.getElem?_take_of_lt (by omega)] at hj
            rw [List.getElem?_append_left (by simp; omega), List.getElem?_append_right (by simp; omega), List.length_take, Nat.min_eq_left (by omega), List.getElem?_take_of_lt (by omega)] at hu'
            exact q2 _ cs us hj hu'
          · rw [List.getElem?_append_right (by simp; omega), List.getElem?_drop] at hj
            rw [List.getElem?_append_right (by simp; omega), List.getElem?_drop] at hu'
            simp only [List.length_append, List.length_take] at hj hu'
            rw [show i + c + (j - (min i es.length + min m es2.length)) = j by omega] at hj
            rw [show i + c + (j - (min i rows.length + min c rows2.length)) = j by omega] at hu'
            exact r3 j cs us hj hu'
end
end Go.Dm
end

section
/- The data machine, second make, part I4: texts appended to own rows of bytes. -/


set_option linter.unusedSimpArgs false
set_option linter.unusedVariables false
namespace Go.Dm

/-- a text's bytes, as rows of one cell -/
def bytesD (x : ByteArray) : List (List DVal) := x.data.toList.map fun b => [.int .u8 b.toNat]
theorem bytesD_len (x : ByteArray) : (bytesD x).length = x.size := by rw [bytesD, List.length_map]; rfl
@[simp] theorem mx_bytesD (x : ByteArray) : mxR (bytesD x) = 0 := by
  unfold bytesD
  induction x.data.toList with
  | nil => rfl
  | cons b l ih => simp [mxR, mxL, mx, ih]
theorem bytes_rows (x : ByteArray) (cur : Cur) (M : List Nat) (H : Array Obj) : ∃ rows2 : List (List Value), rows2.length = (bytesD x).length ∧ (∀ (i : Nat) (cs : List DVal) (us : List Value), (bytesD x)[i]? = some cs → rows2[i]? = some us → cs.length = 1 ∧ rdV cur M H cs us ∧ ∀ u ∈ us, u.oneCell' = true) ∧
      rows2.flatten.length = (bytesD x).length * 1 ∧ (∀ u ∈ rows2.flatten, u.oneCell' = true) ∧ rows2.flatten = Lib.strCells x := by
  have hfl : (x.data.toList.map fun b => [Value.int .u8 b.toNat]).flatten = Lib.strCells x := by
    unfold Lib.strCells
    induction x.data.toList with
    | nil => rfl
    | cons b l ih => simp [ih]
  refine ⟨x.data.toList.map fun b => [.int .u8 b.toNat], by simp [bytesD], ?_, by rw [hfl, Lib.strCells_length, bytesD_len, Nat.mul_one], by rw [hfl]; exact Lib.strCells_oneCell x, hfl⟩
  intro i cs us hc hu
  simp only [bytesD, List.getElem?_map, Option.map_eq_some_iff] at hc hu
  obtain ⟨b, hb, rfl⟩ := hc
  obtain ⟨b', hb', rfl⟩ := hu
  rw [hb] at hb'
  simp only [Option.some.injEq] at hb'
  subst hb'
  refine ⟨rfl, ?_, by simp [Value.oneCell']⟩
  simp only [rdV, rd]
  exact ⟨_, _, rfl, ⟨rfl, by have := UInt8.toNat_lt b; simp only [inR]; omega⟩, rfl⟩

section
variable {P : Program} {B : Base} {s : DS} {a : Act} {w : World} {loc : Nat → Loc}

theorem run_append_zero_str {t t2 ty e : TypeId} {i : TypeInfo} {x : ByteArray} (hu : P.underlying t = some (.slice e)) (hu2 : P.underlying t2 = some .string) (hi : P.info? e = some i) (hx : x.size = 0) {y : Option Addr} {m cap : Nat} (hm' : m ≤ cap) :
    (Builtin.append_ #[t, t2] ty #[.slice y m cap, .string x]).run P w = .ok (.slice y m cap) w := by
  have hf := Lib.run_firstCells_string (P := P) w i.size x
  have hn : Lib.strCells x = [] := List.eq_nil_of_length_eq_zero (by rw [Lib.strCells_length]; exact hx)
  rw [hx, hn] at hf
  cases y <;> simp [Builtin.append_, run_underlying hu, run_underlying hu2, sizeOf, typeInfo, hi, Builtin.lenOf, hx, hf, hm', storeCells]

theorem Rel.appendStr {id n : Nat} {t t2 ty e : TypeId} {k bs : Nat} {es : List (List DVal)} {x : ByteArray} {dv : Value} {dst : Option Nat} (R : Rel B s a w loc) (hlim : lim B s ≤ n) (hdst : ∀ i, dst = some i → i < B.nt)
    (ht : tElem P t = some (k, bs)) (hte : tElemId P t = some e) (hz : zeroOK P t = true) (hk : 0 < k) (hrow : RowAt s loc w B.M0 id e k bs es dv) (hmx1 : mxR es ≤ n)
    (ht2 : P.underlying t2 = some .string) (hk1 : k = 1) (hb : (es.length + x.size) * bs ≤ 150000000000000) (hbs : bs ≤ 65536) (hl : es.length + x.size ≤ maxLen) :
    ∃ v' w' L, (Builtin.append_ #[t, t2] ty #[dv, .string x]).run P w = .ok v' w' ∧ Rel B ⟨putS s.slots dst (.osl id n), upE s.own id n (.row e k bs (es ++ bytesD x))⟩ (a.put dst v') w' (upL loc id L) := by
  obtain ⟨e', i, hu, hi, hsz, hby, _⟩ := tElem_some ht
  have hee : e' = e := by unfold tElemId at hte; rw [hu] at hte; simpa using hte
  subst hee
  obtain ⟨z, hzr, hzs⟩ : ∃ z, i.zero = some z ∧ z.cells.size = k := by
    unfold zeroOK at hz
    rw [hu] at hz
    simp only [hi] at hz
    cases hq : i.zero with
    | none => simp [hq] at hz
    | some z => simp only [hq, beq_iff_eq] at hz; exact ⟨z, rfl, by rw [hz, hsz]⟩
  obtain ⟨es2, hes2⟩ : ∃ es2, es2 = bytesD x := ⟨_, rfl⟩
  rw [← hes2]
  have hx2 : es2.length = x.size := by rw [hes2, bytesD_len]
  obtain ⟨rows2, q1, q2, q3, q4, hfl⟩ : ∃ rows2 : List (List Value), rows2.length = es2.length ∧ (∀ (i : Nat) (cs : List DVal) (us : List Value), es2[i]? = some cs → rows2[i]? = some us → cs.length = k ∧ rdV (cu s loc) (hm s loc B.M0) w.heap cs us ∧ ∀ u ∈ us, u.oneCell' = true) ∧
      rows2.flatten.length = es2.length * k ∧ (∀ u ∈ rows2.flatten, u.oneCell' = true) ∧ rows2.flatten = Lib.strCells x := by
    rw [hes2, hk1]
    exact bytes_rows x _ _ _
  have hmx2 : mxR es2 ≤ n := by rw [hes2, mx_bytesD]; exact Nat.zero_le _
  rw [← hx2] at hb hl
  have hlenb : (es ++ es2).length * bs ≤ 150000000000000 := by simpa using hb
  have mx12 : mxR (es ++ es2) ≤ n := by rw [mxR_append]; omega
  -- what the slot reads at the end
  have rdEnd : ∀ (L : Loc) (h : Array Obj) (obj : DObj), rd (curOf (upE s.own id n obj) (upL loc id L)) (hotOf (upE s.own id n obj) (upL loc id L) ++ B.M0) h (.osl id n) L.hdr := by
    intro L h obj
    simp only [rd]
    intro l hl'
    rw [curOf_up] at hl'
    simp only [Option.some.injEq] at hl'
    rw [hl']
  · by_cases hm0 : es2.length = 0
    · have he2 : es2 = [] := List.eq_nil_of_length_eq_zero hm0
      have hx0 : x.size = 0 := by omega
      rw [he2, List.append_nil]
      rw [he2, List.append_nil] at hlenb
      rcases hrow with ⟨rfl, rfl⟩ | ⟨e0, hmem, hid, b, arr, cap, h1', rfl, h3, h4, h5, h6, h7⟩
      · refine ⟨_, w, ⟨[], .slice none 0 0⟩, run_append_zero_str hu ht2 hi hx0 (Nat.le_refl _), ?_⟩
        refine R.up (L := ⟨[], .slice none 0 0⟩) hlim hdst (Upd.refl _ _) (fun b hb _ => rfl) (fun b hb => by simp at hb) (.inl (Nat.le_refl _)) ⟨by simp, .inl ⟨rfl, rfl, rfl⟩⟩ (rdEnd ⟨[], .slice none 0 0⟩ _ _)
      · have h1 : b ∈ (loc id).blks := by rw [h1']; simp
        refine ⟨_, w, ⟨[b], .slice (some ⟨b, 0, none⟩) es.length cap⟩, run_append_zero_str hu ht2 hi hx0 h4, ?_⟩
        have hL : ∀ b0, b0 ∈ (⟨[b], .slice (some ⟨b, 0, none⟩) es.length cap⟩ : Loc).blks → b0 < w.heap.size ∧ ((∃ e ∈ s.own, e.id = id ∧ b0 ∈ (loc id).blks) ∨ w.heap.size ≤ b0) := by
          intro b0 hb0
          simp only [List.mem_singleton] at hb0
          subst hb0
          exact ⟨(Array.getElem?_eq_some_iff.1 h3).1, .inl ⟨e0, hmem, hid, h1⟩⟩
        have W := R.weakUp (obj := .row e' k bs es) (r := n) hlim (Upd.refl _ _) hL (.inl (Nat.le_refl _))
        exact R.up (L := ⟨[b], .slice (some ⟨b, 0, none⟩) es.length cap⟩) hlim hdst (Upd.refl _ _) (fun b hb _ => rfl) hL (.inl (Nat.le_refl _)) ⟨hlenb, .inr ⟨b, arr, cap, rfl, rfl, h3, h4, h5, h6, rdR_weak W k es arr 0 hmx1 h7⟩⟩ (rdEnd ⟨[b], .slice (some ⟨b, 0, none⟩) es.length cap⟩ _ _)
    · 
      subst hsz
      subst hby
      have hl' : es.length + es2.length ≤ 9223372036854775807 := by unfold maxLen at hl; omega
      -- a new row, whatever it held before
      have fresh : ∀ (rows : List (List Value)) (cap : Nat), es.length ≤ cap ∨ True → rows.length = es.length → rows.flatten.length = es.length * i.size →
          (∀ (j : Nat) (cs : List DVal) (us : List Value), es[j]? = some cs → rows[j]? = some us → cs.length = i.size ∧ rdV (cu s loc) (hm s loc B.M0) w.heap cs us ∧ ∀ u ∈ us, u.oneCell' = true) →
          Rel B ⟨putS s.slots dst (.osl id n), upE s.own id n (.row e' i.size i.bytes (es ++ es2))⟩ (a.put dst (.slice (some ⟨w.heap.size, 0, none⟩) (es.length + es2.length) (grownCap w (es.length + es2.length) cap e')))
            (w.drew.alloc (.cells (rows.flatten.toArray ++ rows2.flatten.toArray ++ Builtin.zeroCells z.cells (grownCap w (es.length + es2.length) cap e' - (es.length + es2.length))) e')) (upL loc id ⟨[w.heap.size], .slice (some ⟨w.heap.size, 0, none⟩) (es.length + es2.length) (grownCap w (es.length + es2.length) cap e')⟩) := by
        intro rows cap _ r1 r2 r3
        have hw : Upd (hotOf s.own loc) w (w.drew.alloc (.cells (rows.flatten.toArray ++ rows2.flatten.toArray ++ Builtin.zeroCells z.cells (grownCap w (es.length + es2.length) cap e' - (es.length + es2.length))) e')) :=
          (Upd.drew _ w).trans (Upd.alloc _ w.drew _) (fun x hx => .inl hx)
        have hL : ∀ b0, b0 ∈ (⟨[w.heap.size], .slice (some ⟨w.heap.size, 0, none⟩) (es.length + es2.length) (grownCap w (es.length + es2.length) cap e')⟩ : Loc).blks → b0 < (w.drew.alloc (.cells (rows.flatten.toArray ++ rows2.flatten.toArray ++ Builtin.zeroCells z.cells (grownCap w (es.length + es2.length) cap e' - (es.length + es2.length))) e')).heap.size ∧ ((∃ e ∈ s.own, e.id = id ∧ b0 ∈ (loc id).blks) ∨ w.heap.size ≤ b0) := by
          intro b0 hb0
          simp only [List.mem_singleton] at hb0
          subst hb0
          exact ⟨by simp, .inr (Nat.le_refl _)⟩
        have W := R.weakUp (obj := .row e' i.size i.bytes (es ++ es2)) (r := n) hlim hw hL (.inl (Nat.le_refl _))
        have hge := grownCap_ge w (es.length + es2.length) cap e'
        have hcm := grownCap_le_maxLen w (es.length + es2.length) cap e' hl
        refine R.up hlim hdst hw (fun b hb _ => by simp only [World.alloc, Array.getElem?_push, World.drew]; rw [if_neg (by omega)]) hL (.inl (Nat.le_refl _)) ⟨hlenb, .inr ⟨w.heap.size, _, _, rfl, by simp, heap_alloc_new w.drew _, by simpa using hge, hcm, ?_, ?_⟩⟩ (rdEnd ⟨[w.heap.size], .slice (some ⟨w.heap.size, 0, none⟩) (es.length + es2.length) (grownCap w (es.length + es2.length) cap e')⟩ _ _)
        · simp only [Array.size_append, List.size_toArray, size_zeroCells, hzs, r2, q3, ← Nat.add_mul]
          congr 1
          omega
        · have := joinRows (k := i.size) r1 q1 (weak_rows W hmx1 r3) (weak_rows W hmx2 q2) (Builtin.zeroCells z.cells (grownCap w (es.length + es2.length) cap e' - (es.length + es2.length))).toList
          have e1 : (rows.flatten ++ rows2.flatten ++ (Builtin.zeroCells z.cells (grownCap w (es.length + es2.length) cap e' - (es.length + es2.length))).toList).toArray = rows.flatten.toArray ++ rows2.flatten.toArray ++ Builtin.zeroCells z.cells (grownCap w (es.length + es2.length) cap e' - (es.length + es2.length)) := by
            apply Array.ext'; simp
          rw [e1] at this
          exact this
      rcases hrow with ⟨rfl, rfl⟩ | ⟨e0, hmem, hid, b, arr, cap, h1', rfl, h3, h4, h5, h6, h7⟩
      · have hr := run_append_nil_string (P := P) w t t2 ty e' i z hu ht2 hi hzr x (by omega) (by omega) (by rw [← hx2]; simp only [List.length_nil, Nat.zero_add] at hb; omega)
        have e1 : (x.data.map fun b => Value.int .u8 b.toNat) = (Lib.strCells x).toArray := by
          apply Array.ext'
          simp [Lib.strCells]
        rw [e1, ← hfl, ← hx2] at hr
        have hf := fresh [] 0 (.inr trivial) rfl (by simp) (by simp)
        simp only [List.length_nil, Nat.zero_add, List.nil_append, List.flatten_nil, Array.empty_append] at hf hr ⊢
        exact ⟨_, _, _, hr, hf⟩
      · have h1 : b ∈ (loc id).blks := by rw [h1']; simp
        obtain ⟨rows, r1, r2, r3, r4⟩ := rdR_vals i.size es arr 0 h7
        have hfits : es.length * i.size ≤ arr.size := by rw [← h6]; exact Nat.mul_le_mul_right _ h4
        by_cases hroom : es.length + es2.length ≤ cap
        · have hfit : es.length * i.size + rows2.flatten.length ≤ arr.size := by rw [q3, ← h6, ← Nat.add_mul]; exact Nat.mul_le_mul_right _ hroom
          have hr := Lib.run_append_room_string (P := P) w t t2 ty e' i hu ht2 hi hk1 b es.length cap arr h3 x (by omega) (by rw [q3, hk1] at hfit; omega)
          have e2 : arr.toList.take es.length ++ Lib.strCells x ++ arr.toList.drop (es.length + x.size) = arr.toList.take (es.length * i.size) ++ rows2.flatten ++ arr.toList.drop (es.length * i.size + rows2.flatten.length) := by
            rw [q3, hfl, hk1, Nat.mul_one, Nat.mul_one, hx2]
          rw [e2, ← hx2] at hr
          refine ⟨_, _, ⟨[b], .slice (some ⟨b, 0, none⟩) (es.length + es2.length) cap⟩, hr, ?_⟩
          have hw : Upd (hotOf s.own loc) w (w.setRow b (arr.toList.take (es.length * i.size) ++ rows2.flatten ++ arr.toList.drop (es.length * i.size + rows2.flatten.length)).toArray) := Upd.setRow hmem (by rw [hid]; exact h1) w _
          have hL : ∀ b0, b0 ∈ (⟨[b], .slice (some ⟨b, 0, none⟩) (es.length + es2.length) cap⟩ : Loc).blks → b0 < (w.setRow b (arr.toList.take (es.length * i.size) ++ rows2.flatten ++ arr.toList.drop (es.length * i.size + rows2.flatten.length)).toArray).heap.size ∧ ((∃ e ∈ s.own, e.id = id ∧ b0 ∈ (loc id).blks) ∨ w.heap.size ≤ b0) := by
            intro b0 hb0
            simp only [List.mem_singleton] at hb0
            subst hb0
            refine ⟨?_, .inl ⟨e0, hmem, hid, h1⟩⟩
            have := (Array.getElem?_eq_some_iff.1 h3).1
            simpa using this
          have W := R.weakUp (obj := .row e' i.size i.bytes (es ++ es2)) (r := n) hlim hw hL (.inl (Nat.le_refl _))
          refine R.up hlim hdst hw ?_ hL (.inl (Nat.le_refl _)) ⟨hlenb, .inr ⟨b, _, cap, rfl, by simp, setRow_heap w b arr _ e' (0, 0) h3, by simpa using hroom, h5, ?_, ?_⟩⟩ (rdEnd ⟨[b], .slice (some ⟨b, 0, none⟩) (es.length + es2.length) cap⟩ _ _)
          · intro b0 hb0 hne
            refine setRow_other w b b0 _ (fun h => hne e0 hmem hid ?_)
            rw [h]; exact h1
          · simp only [List.size_toArray, List.length_append, List.length_take, List.length_drop, Array.length_toList]; omega
          · have ht' := take_flat r2 r4 hfits
            have hj := joinRows r1 q1 (weak_rows W hmx1 r3) (weak_rows W hmx2 q2) (arr.toList.drop (es.length * i.size + rows2.flatten.length))
            rw [← ht'] at hj
            exact hj
        · have hr := Lib.run_append_grow_string (P := P) w t t2 ty e' i z hu ht2 hi hzr ⟨b, 0, none⟩ es.length cap rows.flatten r2 (fun j v hj => by rw [add_lit]; simp only [World.cell?, h3]; exact (r4 j v hj).1) x (by omega) (by omega) (by rw [← hx2]; exact fitsL (by omega) hb hbs)
          rw [← hfl, ← hx2] at hr
          exact ⟨_, _, _, hr, fresh rows cap (.inl h4) r1 r2 r3⟩
end
end Go.Dm
end

