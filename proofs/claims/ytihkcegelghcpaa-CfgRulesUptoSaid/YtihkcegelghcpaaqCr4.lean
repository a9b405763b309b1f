/- Parts of a proof, laid together: EnFacts. -/
import Derived.Test.YtihkcegelghcpaaChecked
import Derived.KernelRfl
import Derived.Test.YtihkcegelghcpaaqCr3
section
/- The type table's facts for the data machine. Written by facts.py. -/



set_option maxRecDepth 100000
namespace Go.Proofs
open Go
@[simp] theorem Try.dm_agg1 : Dm.tAgg Try.prog 1 = some false := by kernel_rfl
@[simp] theorem Try.dm_cells1 : Dm.tCells Try.prog 1 = some 1 := by kernel_rfl
@[simp] theorem Try.dm_und1 : (Program.underlying Try.prog 1).isSome = true := by kernel_rfl
@[simp] theorem Try.dm_str1 : Dm.tStr Try.prog 1 = false := by kernel_rfl
@[simp] theorem Try.dm_bool1 : Dm.tBool Try.prog 1 = false := by kernel_rfl
@[simp] theorem Try.dm_sl1 : Dm.tSl Try.prog 1 = false := by kernel_rfl
@[simp] theorem Try.dm_ptr1 : Dm.tPtr Try.prog 1 = false := by kernel_rfl
@[simp] theorem Try.dm_zero1 : Dm.tZero Try.prog 1 = some [.nilfn] := by kernel_rfl
@[simp] theorem Try.dm_agg2 : Dm.tAgg Try.prog 2 = some false := by kernel_rfl
@[simp] theorem Try.dm_cells2 : Dm.tCells Try.prog 2 = some 1 := by kernel_rfl
@[simp] theorem Try.dm_und2 : (Program.underlying Try.prog 2).isSome = true := by kernel_rfl
@[simp] theorem Try.dm_int2 : Dm.tInt Try.prog 2 = some .i64 := by kernel_rfl
@[simp] theorem Try.dm_str2 : Dm.tStr Try.prog 2 = false := by kernel_rfl
@[simp] theorem Try.dm_bool2 : Dm.tBool Try.prog 2 = false := by kernel_rfl
@[simp] theorem Try.dm_sl2 : Dm.tSl Try.prog 2 = false := by kernel_rfl
@[simp] theorem Try.dm_ptr2 : Dm.tPtr Try.prog 2 = false := by kernel_rfl
@[simp] theorem Try.dm_zero2 : Dm.tZero Try.prog 2 = some [.int .i64 0] := by kernel_rfl
@[simp] theorem Try.dm_agg3 : Dm.tAgg Try.prog 3 = some false := by kernel_rfl
@[simp] theorem Try.dm_cells3 : Dm.tCells Try.prog 3 = some 1 := by kernel_rfl
@[simp] theorem Try.dm_und3 : (Program.underlying Try.prog 3).isSome = true := by kernel_rfl
@[simp] theorem Try.dm_int3 : Dm.tInt Try.prog 3 = some .i64 := by kernel_rfl
@[simp] theorem Try.dm_str3 : Dm.tStr Try.prog 3 = false := by kernel_rfl
@[simp] theorem Try.dm_bool3 : Dm.tBool Try.prog 3 = false := by kernel_rfl
@[simp] theorem Try.dm_sl3 : Dm.tSl Try.prog 3 = false := by kernel_rfl
@[simp] theorem Try.dm_ptr3 : Dm.tPtr Try.prog 3 = false := by kernel_rfl
@[simp] theorem Try.dm_zero3 : Dm.tZero Try.prog 3 = some [.int .i64 0] := by kernel_rfl
@[simp] theorem Try.dm_agg4 : Dm.tAgg Try.prog 4 = some false := by kernel_rfl
@[simp] theorem Try.dm_cells4 : Dm.tCells Try.prog 4 = some 1 := by kernel_rfl
@[simp] theorem Try.dm_und4 : (Program.underlying Try.prog 4).isSome = true := by kernel_rfl
@[simp] theorem Try.dm_str4 : Dm.tStr Try.prog 4 = false := by kernel_rfl
@[simp] theorem Try.dm_bool4 : Dm.tBool Try.prog 4 = true := by kernel_rfl
@[simp] theorem Try.dm_sl4 : Dm.tSl Try.prog 4 = false := by kernel_rfl
@[simp] theorem Try.dm_ptr4 : Dm.tPtr Try.prog 4 = false := by kernel_rfl
@[simp] theorem Try.dm_zero4 : Dm.tZero Try.prog 4 = some [.bool false] := by kernel_rfl
@[simp] theorem Try.dm_agg5 : Dm.tAgg Try.prog 5 = some false := by kernel_rfl
@[simp] theorem Try.dm_cells5 : Dm.tCells Try.prog 5 = some 1 := by kernel_rfl
@[simp] theorem Try.dm_und5 : (Program.underlying Try.prog 5).isSome = true := by kernel_rfl
@[simp] theorem Try.dm_int5 : Dm.tInt Try.prog 5 = some .u8 := by kernel_rfl
@[simp] theorem Try.dm_str5 : Dm.tStr Try.prog 5 = false := by kernel_rfl
@[simp] theorem Try.dm_bool5 : Dm.tBool Try.prog 5 = false := by kernel_rfl
@[simp] theorem Try.dm_sl5 : Dm.tSl Try.prog 5 = false := by kernel_rfl
@[simp] theorem Try.dm_ptr5 : Dm.tPtr Try.prog 5 = false := by kernel_rfl
@[simp] theorem Try.dm_zero5 : Dm.tZero Try.prog 5 = some [.int .u8 0] := by kernel_rfl
@[simp] theorem Try.dm_agg6 : Dm.tAgg Try.prog 6 = some false := by kernel_rfl
@[simp] theorem Try.dm_cells6 : Dm.tCells Try.prog 6 = some 1 := by kernel_rfl
@[simp] theorem Try.dm_und6 : (Program.underlying Try.prog 6).isSome = true := by kernel_rfl
@[simp] theorem Try.dm_int6 : Dm.tInt Try.prog 6 = some .u8 := by kernel_rfl
@[simp] theorem Try.dm_str6 : Dm.tStr Try.prog 6 = false := by kernel_rfl
@[simp] theorem Try.dm_bool6 : Dm.tBool Try.prog 6 = false := by kernel_rfl
@[simp] theorem Try.dm_sl6 : Dm.tSl Try.prog 6 = false := by kernel_rfl
@[simp] theorem Try.dm_ptr6 : Dm.tPtr Try.prog 6 = false := by kernel_rfl
@[simp] theorem Try.dm_zero6 : Dm.tZero Try.prog 6 = some [.int .u8 0] := by kernel_rfl
@[simp] theorem Try.dm_agg7 : Dm.tAgg Try.prog 7 = some true := by kernel_rfl
@[simp] theorem Try.dm_cells7 : Dm.tCells Try.prog 7 = some 4 := by kernel_rfl
@[simp] theorem Try.dm_und7 : (Program.underlying Try.prog 7).isSome = true := by kernel_rfl
@[simp] theorem Try.dm_str7 : Dm.tStr Try.prog 7 = false := by kernel_rfl
@[simp] theorem Try.dm_bool7 : Dm.tBool Try.prog 7 = false := by kernel_rfl
@[simp] theorem Try.dm_sl7 : Dm.tSl Try.prog 7 = false := by kernel_rfl
@[simp] theorem Try.dm_ptr7 : Dm.tPtr Try.prog 7 = false := by kernel_rfl
@[simp] theorem Try.dm_zero7 : Dm.tZero Try.prog 7 = some [.int .i64 0, .int .i64 0, .bool false, .int .u8 0] := by kernel_rfl
@[simp] theorem Try.dm_field7_0 : Dm.tField Try.prog 7 0 = some (0, 1, false) := by kernel_rfl
@[simp] theorem Try.dm_field7_1 : Dm.tField Try.prog 7 1 = some (1, 1, false) := by kernel_rfl
@[simp] theorem Try.dm_field7_2 : Dm.tField Try.prog 7 2 = some (2, 1, false) := by kernel_rfl
@[simp] theorem Try.dm_field7_3 : Dm.tField Try.prog 7 3 = some (3, 1, false) := by kernel_rfl
@[simp] theorem Try.dm_eqg7 : Program.eqGuardType Try.prog Try.prog.depth 7 = false := by kernel_rfl
@[simp] theorem Try.dm_flat7 : Dm.flat Try.prog 10000 7 = some [.i .i64, .i .i64, .b, .i .u8] := by kernel_rfl
@[simp] theorem Try.dm_parts7 : Dm.tParts Try.prog 7 = true := by kernel_rfl
@[simp] theorem Try.dm_agg8 : Dm.tAgg Try.prog 8 = some true := by kernel_rfl
@[simp] theorem Try.dm_cells8 : Dm.tCells Try.prog 8 = some 4 := by kernel_rfl
@[simp] theorem Try.dm_und8 : (Program.underlying Try.prog 8).isSome = true := by kernel_rfl
@[simp] theorem Try.dm_str8 : Dm.tStr Try.prog 8 = false := by kernel_rfl
@[simp] theorem Try.dm_bool8 : Dm.tBool Try.prog 8 = false := by kernel_rfl
@[simp] theorem Try.dm_sl8 : Dm.tSl Try.prog 8 = false := by kernel_rfl
@[simp] theorem Try.dm_ptr8 : Dm.tPtr Try.prog 8 = false := by kernel_rfl
@[simp] theorem Try.dm_zero8 : Dm.tZero Try.prog 8 = some [.int .i64 0, .int .i64 0, .bool false, .int .u8 0] := by kernel_rfl
@[simp] theorem Try.dm_field8_0 : Dm.tField Try.prog 8 0 = some (0, 1, false) := by kernel_rfl
@[simp] theorem Try.dm_field8_1 : Dm.tField Try.prog 8 1 = some (1, 1, false) := by kernel_rfl
@[simp] theorem Try.dm_field8_2 : Dm.tField Try.prog 8 2 = some (2, 1, false) := by kernel_rfl
@[simp] theorem Try.dm_field8_3 : Dm.tField Try.prog 8 3 = some (3, 1, false) := by kernel_rfl
@[simp] theorem Try.dm_eqg8 : Program.eqGuardType Try.prog Try.prog.depth 8 = false := by kernel_rfl
@[simp] theorem Try.dm_flat8 : Dm.flat Try.prog 10000 8 = some [.i .i64, .i .i64, .b, .i .u8] := by kernel_rfl
@[simp] theorem Try.dm_parts8 : Dm.tParts Try.prog 8 = true := by kernel_rfl
@[simp] theorem Try.dm_agg9 : Dm.tAgg Try.prog 9 = some false := by kernel_rfl
@[simp] theorem Try.dm_cells9 : Dm.tCells Try.prog 9 = some 1 := by kernel_rfl
@[simp] theorem Try.dm_und9 : (Program.underlying Try.prog 9).isSome = true := by kernel_rfl
@[simp] theorem Try.dm_str9 : Dm.tStr Try.prog 9 = true := by kernel_rfl
@[simp] theorem Try.dm_bool9 : Dm.tBool Try.prog 9 = false := by kernel_rfl
@[simp] theorem Try.dm_sl9 : Dm.tSl Try.prog 9 = false := by kernel_rfl
@[simp] theorem Try.dm_ptr9 : Dm.tPtr Try.prog 9 = false := by kernel_rfl
@[simp] theorem Try.dm_zero9 : Dm.tZero Try.prog 9 = some [.str ⟨#[]⟩] := by kernel_rfl
@[simp] theorem Try.dm_agg10 : Dm.tAgg Try.prog 10 = some false := by kernel_rfl
@[simp] theorem Try.dm_cells10 : Dm.tCells Try.prog 10 = some 1 := by kernel_rfl
@[simp] theorem Try.dm_und10 : (Program.underlying Try.prog 10).isSome = true := by kernel_rfl
@[simp] theorem Try.dm_str10 : Dm.tStr Try.prog 10 = true := by kernel_rfl
@[simp] theorem Try.dm_bool10 : Dm.tBool Try.prog 10 = false := by kernel_rfl
@[simp] theorem Try.dm_sl10 : Dm.tSl Try.prog 10 = false := by kernel_rfl
@[simp] theorem Try.dm_ptr10 : Dm.tPtr Try.prog 10 = false := by kernel_rfl
@[simp] theorem Try.dm_zero10 : Dm.tZero Try.prog 10 = some [.str ⟨#[]⟩] := by kernel_rfl
@[simp] theorem Try.dm_agg11 : Dm.tAgg Try.prog 11 = some false := by kernel_rfl
@[simp] theorem Try.dm_cells11 : Dm.tCells Try.prog 11 = some 1 := by kernel_rfl
@[simp] theorem Try.dm_und11 : (Program.underlying Try.prog 11).isSome = true := by kernel_rfl
@[simp] theorem Try.dm_str11 : Dm.tStr Try.prog 11 = true := by kernel_rfl
@[simp] theorem Try.dm_bool11 : Dm.tBool Try.prog 11 = false := by kernel_rfl
@[simp] theorem Try.dm_sl11 : Dm.tSl Try.prog 11 = false := by kernel_rfl
@[simp] theorem Try.dm_ptr11 : Dm.tPtr Try.prog 11 = false := by kernel_rfl
@[simp] theorem Try.dm_zero11 : Dm.tZero Try.prog 11 = some [.str ⟨#[]⟩] := by kernel_rfl
@[simp] theorem Try.dm_agg12 : Dm.tAgg Try.prog 12 = some false := by kernel_rfl
@[simp] theorem Try.dm_cells12 : Dm.tCells Try.prog 12 = some 1 := by kernel_rfl
@[simp] theorem Try.dm_und12 : (Program.underlying Try.prog 12).isSome = true := by kernel_rfl
@[simp] theorem Try.dm_int12 : Dm.tInt Try.prog 12 = some .u64 := by kernel_rfl
@[simp] theorem Try.dm_str12 : Dm.tStr Try.prog 12 = false := by kernel_rfl
@[simp] theorem Try.dm_bool12 : Dm.tBool Try.prog 12 = false := by kernel_rfl
@[simp] theorem Try.dm_sl12 : Dm.tSl Try.prog 12 = false := by kernel_rfl
@[simp] theorem Try.dm_ptr12 : Dm.tPtr Try.prog 12 = false := by kernel_rfl
@[simp] theorem Try.dm_zero12 : Dm.tZero Try.prog 12 = some [.int .u64 0] := by kernel_rfl
@[simp] theorem Try.dm_agg13 : Dm.tAgg Try.prog 13 = some true := by kernel_rfl
@[simp] theorem Try.dm_cells13 : Dm.tCells Try.prog 13 = some 2 := by kernel_rfl
@[simp] theorem Try.dm_und13 : (Program.underlying Try.prog 13).isSome = true := by kernel_rfl
@[simp] theorem Try.dm_str13 : Dm.tStr Try.prog 13 = false := by kernel_rfl
@[simp] theorem Try.dm_bool13 : Dm.tBool Try.prog 13 = false := by kernel_rfl
@[simp] theorem Try.dm_sl13 : Dm.tSl Try.prog 13 = false := by kernel_rfl
@[simp] theorem Try.dm_ptr13 : Dm.tPtr Try.prog 13 = false := by kernel_rfl
@[simp] theorem Try.dm_zero13 : Dm.tZero Try.prog 13 = some [.str ⟨#[]⟩, .int .u64 0] := by kernel_rfl
@[simp] theorem Try.dm_field13_0 : Dm.tField Try.prog 13 0 = some (0, 1, false) := by kernel_rfl
@[simp] theorem Try.dm_field13_1 : Dm.tField Try.prog 13 1 = some (1, 1, false) := by kernel_rfl
@[simp] theorem Try.dm_eqg13 : Program.eqGuardType Try.prog Try.prog.depth 13 = false := by kernel_rfl
@[simp] theorem Try.dm_parts13 : Dm.tParts Try.prog 13 = true := by kernel_rfl
@[simp] theorem Try.dm_agg14 : Dm.tAgg Try.prog 14 = some true := by kernel_rfl
@[simp] theorem Try.dm_cells14 : Dm.tCells Try.prog 14 = some 2 := by kernel_rfl
@[simp] theorem Try.dm_und14 : (Program.underlying Try.prog 14).isSome = true := by kernel_rfl
@[simp] theorem Try.dm_str14 : Dm.tStr Try.prog 14 = false := by kernel_rfl
@[simp] theorem Try.dm_bool14 : Dm.tBool Try.prog 14 = false := by kernel_rfl
@[simp] theorem Try.dm_sl14 : Dm.tSl Try.prog 14 = false := by kernel_rfl
@[simp] theorem Try.dm_ptr14 : Dm.tPtr Try.prog 14 = false := by kernel_rfl
@[simp] theorem Try.dm_zero14 : Dm.tZero Try.prog 14 = some [.str ⟨#[]⟩, .int .u64 0] := by kernel_rfl
@[simp] theorem Try.dm_field14_0 : Dm.tField Try.prog 14 0 = some (0, 1, false) := by kernel_rfl
@[simp] theorem Try.dm_field14_1 : Dm.tField Try.prog 14 1 = some (1, 1, false) := by kernel_rfl
@[simp] theorem Try.dm_eqg14 : Program.eqGuardType Try.prog Try.prog.depth 14 = false := by kernel_rfl
@[simp] theorem Try.dm_parts14 : Dm.tParts Try.prog 14 = true := by kernel_rfl
@[simp] theorem Try.dm_agg15 : Dm.tAgg Try.prog 15 = some false := by kernel_rfl
@[simp] theorem Try.dm_cells15 : Dm.tCells Try.prog 15 = some 1 := by kernel_rfl
@[simp] theorem Try.dm_und15 : (Program.underlying Try.prog 15).isSome = true := by kernel_rfl
@[simp] theorem Try.dm_str15 : Dm.tStr Try.prog 15 = false := by kernel_rfl
@[simp] theorem Try.dm_bool15 : Dm.tBool Try.prog 15 = false := by kernel_rfl
@[simp] theorem Try.dm_sl15 : Dm.tSl Try.prog 15 = false := by kernel_rfl
@[simp] theorem Try.dm_ptr15 : Dm.tPtr Try.prog 15 = true := by kernel_rfl
@[simp] theorem Try.dm_zero15 : Dm.tZero Try.prog 15 = some [.nilp] := by kernel_rfl
@[simp] theorem Try.dm_agg16 : Dm.tAgg Try.prog 16 = some false := by kernel_rfl
@[simp] theorem Try.dm_cells16 : Dm.tCells Try.prog 16 = some 1 := by kernel_rfl
@[simp] theorem Try.dm_und16 : (Program.underlying Try.prog 16).isSome = true := by kernel_rfl
@[simp] theorem Try.dm_str16 : Dm.tStr Try.prog 16 = false := by kernel_rfl
@[simp] theorem Try.dm_bool16 : Dm.tBool Try.prog 16 = false := by kernel_rfl
@[simp] theorem Try.dm_sl16 : Dm.tSl Try.prog 16 = false := by kernel_rfl
@[simp] theorem Try.dm_ptr16 : Dm.tPtr Try.prog 16 = true := by kernel_rfl
@[simp] theorem Try.dm_zero16 : Dm.tZero Try.prog 16 = some [.nilp] := by kernel_rfl
@[simp] theorem Try.dm_agg17 : Dm.tAgg Try.prog 17 = some false := by kernel_rfl
@[simp] theorem Try.dm_cells17 : Dm.tCells Try.prog 17 = some 1 := by kernel_rfl
@[simp] theorem Try.dm_und17 : (Program.underlying Try.prog 17).isSome = true := by kernel_rfl
@[simp] theorem Try.dm_str17 : Dm.tStr Try.prog 17 = false := by kernel_rfl
@[simp] theorem Try.dm_bool17 : Dm.tBool Try.prog 17 = false := by kernel_rfl
@[simp] theorem Try.dm_sl17 : Dm.tSl Try.prog 17 = false := by kernel_rfl
@[simp] theorem Try.dm_ptr17 : Dm.tPtr Try.prog 17 = true := by kernel_rfl
@[simp] theorem Try.dm_zero17 : Dm.tZero Try.prog 17 = some [.nilp] := by kernel_rfl
@[simp] theorem Try.dm_agg18 : Dm.tAgg Try.prog 18 = some true := by kernel_rfl
@[simp] theorem Try.dm_cells18 : Dm.tCells Try.prog 18 = some 1 := by kernel_rfl
@[simp] theorem Try.dm_und18 : (Program.underlying Try.prog 18).isSome = true := by kernel_rfl
@[simp] theorem Try.dm_str18 : Dm.tStr Try.prog 18 = false := by kernel_rfl
@[simp] theorem Try.dm_bool18 : Dm.tBool Try.prog 18 = false := by kernel_rfl
@[simp] theorem Try.dm_sl18 : Dm.tSl Try.prog 18 = false := by kernel_rfl
@[simp] theorem Try.dm_ptr18 : Dm.tPtr Try.prog 18 = false := by kernel_rfl
@[simp] theorem Try.dm_zero18 : Dm.tZero Try.prog 18 = some [.nilp] := by kernel_rfl
@[simp] theorem Try.dm_field18_0 : Dm.tField Try.prog 18 0 = some (0, 1, false) := by kernel_rfl
@[simp] theorem Try.dm_parts18 : Dm.tParts Try.prog 18 = true := by kernel_rfl
@[simp] theorem Try.dm_agg19 : Dm.tAgg Try.prog 19 = some true := by kernel_rfl
@[simp] theorem Try.dm_cells19 : Dm.tCells Try.prog 19 = some 1 := by kernel_rfl
@[simp] theorem Try.dm_und19 : (Program.underlying Try.prog 19).isSome = true := by kernel_rfl
@[simp] theorem Try.dm_str19 : Dm.tStr Try.prog 19 = false := by kernel_rfl
@[simp] theorem Try.dm_bool19 : Dm.tBool Try.prog 19 = false := by kernel_rfl
@[simp] theorem Try.dm_sl19 : Dm.tSl Try.prog 19 = false := by kernel_rfl
@[simp] theorem Try.dm_ptr19 : Dm.tPtr Try.prog 19 = false := by kernel_rfl
@[simp] theorem Try.dm_zero19 : Dm.tZero Try.prog 19 = some [.nilp] := by kernel_rfl
@[simp] theorem Try.dm_field19_0 : Dm.tField Try.prog 19 0 = some (0, 1, false) := by kernel_rfl
@[simp] theorem Try.dm_parts19 : Dm.tParts Try.prog 19 = true := by kernel_rfl
@[simp] theorem Try.dm_agg20 : Dm.tAgg Try.prog 20 = some false := by kernel_rfl
@[simp] theorem Try.dm_cells20 : Dm.tCells Try.prog 20 = some 1 := by kernel_rfl
@[simp] theorem Try.dm_und20 : (Program.underlying Try.prog 20).isSome = true := by kernel_rfl
@[simp] theorem Try.dm_str20 : Dm.tStr Try.prog 20 = false := by kernel_rfl
@[simp] theorem Try.dm_bool20 : Dm.tBool Try.prog 20 = false := by kernel_rfl
@[simp] theorem Try.dm_sl20 : Dm.tSl Try.prog 20 = false := by kernel_rfl
@[simp] theorem Try.dm_ptr20 : Dm.tPtr Try.prog 20 = false := by kernel_rfl
@[simp] theorem Try.dm_zero20 : Dm.tZero Try.prog 20 = some [.nilifc] := by kernel_rfl
@[simp] theorem Try.dm_agg21 : Dm.tAgg Try.prog 21 = some false := by kernel_rfl
@[simp] theorem Try.dm_cells21 : Dm.tCells Try.prog 21 = some 1 := by kernel_rfl
@[simp] theorem Try.dm_und21 : (Program.underlying Try.prog 21).isSome = true := by kernel_rfl
@[simp] theorem Try.dm_int21 : Dm.tInt Try.prog 21 = some .i32 := by kernel_rfl
@[simp] theorem Try.dm_str21 : Dm.tStr Try.prog 21 = false := by kernel_rfl
@[simp] theorem Try.dm_bool21 : Dm.tBool Try.prog 21 = false := by kernel_rfl
@[simp] theorem Try.dm_sl21 : Dm.tSl Try.prog 21 = false := by kernel_rfl
@[simp] theorem Try.dm_ptr21 : Dm.tPtr Try.prog 21 = false := by kernel_rfl
@[simp] theorem Try.dm_zero21 : Dm.tZero Try.prog 21 = some [.int .i32 0] := by kernel_rfl
@[simp] theorem Try.dm_agg22 : Dm.tAgg Try.prog 22 = some false := by kernel_rfl
@[simp] theorem Try.dm_cells22 : Dm.tCells Try.prog 22 = some 1 := by kernel_rfl
@[simp] theorem Try.dm_und22 : (Program.underlying Try.prog 22).isSome = true := by kernel_rfl
@[simp] theorem Try.dm_elem22 : Dm.tElem Try.prog 22 = some (2, 32) := by kernel_rfl
@[simp] theorem Try.dm_str22 : Dm.tStr Try.prog 22 = false := by kernel_rfl
@[simp] theorem Try.dm_bool22 : Dm.tBool Try.prog 22 = false := by kernel_rfl
@[simp] theorem Try.dm_sl22 : Dm.tSl Try.prog 22 = true := by kernel_rfl
@[simp] theorem Try.dm_ptr22 : Dm.tPtr Try.prog 22 = false := by kernel_rfl
@[simp] theorem Try.dm_zero22 : Dm.tZero Try.prog 22 = some [.nilsl] := by kernel_rfl
@[simp] theorem Try.dm_eid22 : Dm.tElemId Try.prog 22 = some 33 := by kernel_rfl
@[simp] theorem Try.dm_ez22 : Dm.tElemZ Try.prog 22 = true := by kernel_rfl
@[simp] theorem Try.dm_zok22 : Dm.zeroOK Try.prog 22 = true := by kernel_rfl
@[simp] theorem Try.dm_zsl22 : Dm.tZeroE Try.prog 22 = some [.int .i64 0, .nilsl] := by kernel_rfl
@[simp] theorem Try.dm_agg23 : Dm.tAgg Try.prog 23 = some true := by kernel_rfl
@[simp] theorem Try.dm_cells23 : Dm.tCells Try.prog 23 = some 2 := by kernel_rfl
@[simp] theorem Try.dm_und23 : (Program.underlying Try.prog 23).isSome = true := by kernel_rfl
@[simp] theorem Try.dm_str23 : Dm.tStr Try.prog 23 = false := by kernel_rfl
@[simp] theorem Try.dm_bool23 : Dm.tBool Try.prog 23 = false := by kernel_rfl
@[simp] theorem Try.dm_sl23 : Dm.tSl Try.prog 23 = false := by kernel_rfl
@[simp] theorem Try.dm_ptr23 : Dm.tPtr Try.prog 23 = false := by kernel_rfl
@[simp] theorem Try.dm_zero23 : Dm.tZero Try.prog 23 = some [.int .i64 0, .nilsl] := by kernel_rfl
@[simp] theorem Try.dm_field23_0 : Dm.tField Try.prog 23 0 = some (0, 1, false) := by kernel_rfl
@[simp] theorem Try.dm_field23_1 : Dm.tField Try.prog 23 1 = some (1, 1, false) := by kernel_rfl
@[simp] theorem Try.dm_parts23 : Dm.tParts Try.prog 23 = true := by kernel_rfl
@[simp] theorem Try.dm_agg24 : Dm.tAgg Try.prog 24 = some true := by kernel_rfl
@[simp] theorem Try.dm_cells24 : Dm.tCells Try.prog 24 = some 2 := by kernel_rfl
@[simp] theorem Try.dm_und24 : (Program.underlying Try.prog 24).isSome = true := by kernel_rfl
@[simp] theorem Try.dm_str24 : Dm.tStr Try.prog 24 = false := by kernel_rfl
@[simp] theorem Try.dm_bool24 : Dm.tBool Try.prog 24 = false := by kernel_rfl
@[simp] theorem Try.dm_sl24 : Dm.tSl Try.prog 24 = false := by kernel_rfl
@[simp] theorem Try.dm_ptr24 : Dm.tPtr Try.prog 24 = false := by kernel_rfl
@[simp] theorem Try.dm_zero24 : Dm.tZero Try.prog 24 = some [.int .i64 0, .nilsl] := by kernel_rfl
@[simp] theorem Try.dm_field24_0 : Dm.tField Try.prog 24 0 = some (0, 1, false) := by kernel_rfl
@[simp] theorem Try.dm_field24_1 : Dm.tField Try.prog 24 1 = some (1, 1, false) := by kernel_rfl
@[simp] theorem Try.dm_parts24 : Dm.tParts Try.prog 24 = true := by kernel_rfl
@[simp] theorem Try.dm_agg25 : Dm.tAgg Try.prog 25 = some false := by kernel_rfl
@[simp] theorem Try.dm_cells25 : Dm.tCells Try.prog 25 = some 1 := by kernel_rfl
@[simp] theorem Try.dm_und25 : (Program.underlying Try.prog 25).isSome = true := by kernel_rfl
@[simp] theorem Try.dm_str25 : Dm.tStr Try.prog 25 = false := by kernel_rfl
@[simp] theorem Try.dm_bool25 : Dm.tBool Try.prog 25 = false := by kernel_rfl
@[simp] theorem Try.dm_sl25 : Dm.tSl Try.prog 25 = false := by kernel_rfl
@[simp] theorem Try.dm_ptr25 : Dm.tPtr Try.prog 25 = false := by kernel_rfl
@[simp] theorem Try.dm_zero25 : Dm.tZero Try.prog 25 = some [.nilfn] := by kernel_rfl
@[simp] theorem Try.dm_agg26 : Dm.tAgg Try.prog 26 = some false := by kernel_rfl
@[simp] theorem Try.dm_cells26 : Dm.tCells Try.prog 26 = some 1 := by kernel_rfl
@[simp] theorem Try.dm_und26 : (Program.underlying Try.prog 26).isSome = true := by kernel_rfl
@[simp] theorem Try.dm_str26 : Dm.tStr Try.prog 26 = false := by kernel_rfl
@[simp] theorem Try.dm_bool26 : Dm.tBool Try.prog 26 = false := by kernel_rfl
@[simp] theorem Try.dm_sl26 : Dm.tSl Try.prog 26 = false := by kernel_rfl
@[simp] theorem Try.dm_ptr26 : Dm.tPtr Try.prog 26 = false := by kernel_rfl
@[simp] theorem Try.dm_zero26 : Dm.tZero Try.prog 26 = some [.nilfn] := by kernel_rfl
@[simp] theorem Try.dm_agg27 : Dm.tAgg Try.prog 27 = some false := by kernel_rfl
@[simp] theorem Try.dm_cells27 : Dm.tCells Try.prog 27 = some 1 := by kernel_rfl
@[simp] theorem Try.dm_und27 : (Program.underlying Try.prog 27).isSome = true := by kernel_rfl
@[simp] theorem Try.dm_elem27 : Dm.tElem Try.prog 27 = some (1, 8) := by kernel_rfl
@[simp] theorem Try.dm_str27 : Dm.tStr Try.prog 27 = false := by kernel_rfl
@[simp] theorem Try.dm_bool27 : Dm.tBool Try.prog 27 = false := by kernel_rfl
@[simp] theorem Try.dm_sl27 : Dm.tSl Try.prog 27 = true := by kernel_rfl
@[simp] theorem Try.dm_ptr27 : Dm.tPtr Try.prog 27 = false := by kernel_rfl
@[simp] theorem Try.dm_zero27 : Dm.tZero Try.prog 27 = some [.nilsl] := by kernel_rfl
@[simp] theorem Try.dm_eid27 : Dm.tElemId Try.prog 27 = some 3 := by kernel_rfl
@[simp] theorem Try.dm_ez27 : Dm.tElemZ Try.prog 27 = true := by kernel_rfl
@[simp] theorem Try.dm_zok27 : Dm.zeroOK Try.prog 27 = true := by kernel_rfl
@[simp] theorem Try.dm_zsl27 : Dm.tZeroE Try.prog 27 = some [.int .i64 0] := by kernel_rfl
@[simp] theorem Try.dm_agg29 : Dm.tAgg Try.prog 29 = some false := by kernel_rfl
@[simp] theorem Try.dm_cells29 : Dm.tCells Try.prog 29 = some 1 := by kernel_rfl
@[simp] theorem Try.dm_und29 : (Program.underlying Try.prog 29).isSome = true := by kernel_rfl
@[simp] theorem Try.dm_str29 : Dm.tStr Try.prog 29 = false := by kernel_rfl
@[simp] theorem Try.dm_bool29 : Dm.tBool Try.prog 29 = false := by kernel_rfl
@[simp] theorem Try.dm_sl29 : Dm.tSl Try.prog 29 = false := by kernel_rfl
@[simp] theorem Try.dm_ptr29 : Dm.tPtr Try.prog 29 = false := by kernel_rfl
@[simp] theorem Try.dm_zero29 : Dm.tZero Try.prog 29 = some [.nilfn] := by kernel_rfl
@[simp] theorem Try.dm_agg30 : Dm.tAgg Try.prog 30 = some false := by kernel_rfl
@[simp] theorem Try.dm_cells30 : Dm.tCells Try.prog 30 = some 1 := by kernel_rfl
@[simp] theorem Try.dm_und30 : (Program.underlying Try.prog 30).isSome = true := by kernel_rfl
@[simp] theorem Try.dm_str30 : Dm.tStr Try.prog 30 = false := by kernel_rfl
@[simp] theorem Try.dm_bool30 : Dm.tBool Try.prog 30 = false := by kernel_rfl
@[simp] theorem Try.dm_sl30 : Dm.tSl Try.prog 30 = false := by kernel_rfl
@[simp] theorem Try.dm_ptr30 : Dm.tPtr Try.prog 30 = false := by kernel_rfl
@[simp] theorem Try.dm_zero30 : Dm.tZero Try.prog 30 = some [.nilfn] := by kernel_rfl
@[simp] theorem Try.dm_agg31 : Dm.tAgg Try.prog 31 = some false := by kernel_rfl
@[simp] theorem Try.dm_cells31 : Dm.tCells Try.prog 31 = some 1 := by kernel_rfl
@[simp] theorem Try.dm_und31 : (Program.underlying Try.prog 31).isSome = true := by kernel_rfl
@[simp] theorem Try.dm_elem31 : Dm.tElem Try.prog 31 = some (2, 16) := by kernel_rfl
@[simp] theorem Try.dm_str31 : Dm.tStr Try.prog 31 = false := by kernel_rfl
@[simp] theorem Try.dm_bool31 : Dm.tBool Try.prog 31 = false := by kernel_rfl
@[simp] theorem Try.dm_sl31 : Dm.tSl Try.prog 31 = true := by kernel_rfl
@[simp] theorem Try.dm_ptr31 : Dm.tPtr Try.prog 31 = false := by kernel_rfl
@[simp] theorem Try.dm_zero31 : Dm.tZero Try.prog 31 = some [.nilsl] := by kernel_rfl
@[simp] theorem Try.dm_eid31 : Dm.tElemId Try.prog 31 = some 75 := by kernel_rfl
@[simp] theorem Try.dm_ez31 : Dm.tElemZ Try.prog 31 = true := by kernel_rfl
@[simp] theorem Try.dm_zok31 : Dm.zeroOK Try.prog 31 = true := by kernel_rfl
@[simp] theorem Try.dm_zsl31 : Dm.tZeroE Try.prog 31 = some [.bool false, .int .i64 0] := by kernel_rfl
@[simp] theorem Try.dm_agg32 : Dm.tAgg Try.prog 32 = some true := by kernel_rfl
@[simp] theorem Try.dm_cells32 : Dm.tCells Try.prog 32 = some 2 := by kernel_rfl
@[simp] theorem Try.dm_und32 : (Program.underlying Try.prog 32).isSome = true := by kernel_rfl
@[simp] theorem Try.dm_str32 : Dm.tStr Try.prog 32 = false := by kernel_rfl
@[simp] theorem Try.dm_bool32 : Dm.tBool Try.prog 32 = false := by kernel_rfl
@[simp] theorem Try.dm_sl32 : Dm.tSl Try.prog 32 = false := by kernel_rfl
@[simp] theorem Try.dm_ptr32 : Dm.tPtr Try.prog 32 = false := by kernel_rfl
@[simp] theorem Try.dm_zero32 : Dm.tZero Try.prog 32 = some [.int .i64 0, .nilsl] := by kernel_rfl
@[simp] theorem Try.dm_field32_0 : Dm.tField Try.prog 32 0 = some (0, 1, false) := by kernel_rfl
@[simp] theorem Try.dm_field32_1 : Dm.tField Try.prog 32 1 = some (1, 1, false) := by kernel_rfl
@[simp] theorem Try.dm_parts32 : Dm.tParts Try.prog 32 = true := by kernel_rfl
@[simp] theorem Try.dm_agg33 : Dm.tAgg Try.prog 33 = some true := by kernel_rfl
@[simp] theorem Try.dm_cells33 : Dm.tCells Try.prog 33 = some 2 := by kernel_rfl
@[simp] theorem Try.dm_und33 : (Program.underlying Try.prog 33).isSome = true := by kernel_rfl
@[simp] theorem Try.dm_str33 : Dm.tStr Try.prog 33 = false := by kernel_rfl
@[simp] theorem Try.dm_bool33 : Dm.tBool Try.prog 33 = false := by kernel_rfl
@[simp] theorem Try.dm_sl33 : Dm.tSl Try.prog 33 = false := by kernel_rfl
@[simp] theorem Try.dm_ptr33 : Dm.tPtr Try.prog 33 = false := by kernel_rfl
@[simp] theorem Try.dm_zero33 : Dm.tZero Try.prog 33 = some [.int .i64 0, .nilsl] := by kernel_rfl
@[simp] theorem Try.dm_field33_0 : Dm.tField Try.prog 33 0 = some (0, 1, false) := by kernel_rfl
@[simp] theorem Try.dm_field33_1 : Dm.tField Try.prog 33 1 = some (1, 1, false) := by kernel_rfl
@[simp] theorem Try.dm_parts33 : Dm.tParts Try.prog 33 = true := by kernel_rfl
@[simp] theorem Try.dm_agg34 : Dm.tAgg Try.prog 34 = some false := by kernel_rfl
@[simp] theorem Try.dm_cells34 : Dm.tCells Try.prog 34 = some 1 := by kernel_rfl
@[simp] theorem Try.dm_und34 : (Program.underlying Try.prog 34).isSome = true := by kernel_rfl
@[simp] theorem Try.dm_str34 : Dm.tStr Try.prog 34 = false := by kernel_rfl
@[simp] theorem Try.dm_bool34 : Dm.tBool Try.prog 34 = false := by kernel_rfl
@[simp] theorem Try.dm_sl34 : Dm.tSl Try.prog 34 = false := by kernel_rfl
@[simp] theorem Try.dm_ptr34 : Dm.tPtr Try.prog 34 = false := by kernel_rfl
@[simp] theorem Try.dm_zero34 : Dm.tZero Try.prog 34 = some [.nilfn] := by kernel_rfl
@[simp] theorem Try.dm_agg35 : Dm.tAgg Try.prog 35 = some false := by kernel_rfl
@[simp] theorem Try.dm_cells35 : Dm.tCells Try.prog 35 = some 1 := by kernel_rfl
@[simp] theorem Try.dm_und35 : (Program.underlying Try.prog 35).isSome = true := by kernel_rfl
@[simp] theorem Try.dm_str35 : Dm.tStr Try.prog 35 = false := by kernel_rfl
@[simp] theorem Try.dm_bool35 : Dm.tBool Try.prog 35 = false := by kernel_rfl
@[simp] theorem Try.dm_sl35 : Dm.tSl Try.prog 35 = false := by kernel_rfl
@[simp] theorem Try.dm_ptr35 : Dm.tPtr Try.prog 35 = false := by kernel_rfl
@[simp] theorem Try.dm_zero35 : Dm.tZero Try.prog 35 = some [.nilfn] := by kernel_rfl
@[simp] theorem Try.dm_agg36 : Dm.tAgg Try.prog 36 = some false := by kernel_rfl
@[simp] theorem Try.dm_cells36 : Dm.tCells Try.prog 36 = some 1 := by kernel_rfl
@[simp] theorem Try.dm_und36 : (Program.underlying Try.prog 36).isSome = true := by kernel_rfl
@[simp] theorem Try.dm_str36 : Dm.tStr Try.prog 36 = false := by kernel_rfl
@[simp] theorem Try.dm_bool36 : Dm.tBool Try.prog 36 = false := by kernel_rfl
@[simp] theorem Try.dm_sl36 : Dm.tSl Try.prog 36 = false := by kernel_rfl
@[simp] theorem Try.dm_ptr36 : Dm.tPtr Try.prog 36 = false := by kernel_rfl
@[simp] theorem Try.dm_zero36 : Dm.tZero Try.prog 36 = some [.nilfn] := by kernel_rfl
@[simp] theorem Try.dm_agg37 : Dm.tAgg Try.prog 37 = some false := by kernel_rfl
@[simp] theorem Try.dm_cells37 : Dm.tCells Try.prog 37 = some 1 := by kernel_rfl
@[simp] theorem Try.dm_und37 : (Program.underlying Try.prog 37).isSome = true := by kernel_rfl
@[simp] theorem Try.dm_str37 : Dm.tStr Try.prog 37 = false := by kernel_rfl
@[simp] theorem Try.dm_bool37 : Dm.tBool Try.prog 37 = false := by kernel_rfl
@[simp] theorem Try.dm_sl37 : Dm.tSl Try.prog 37 = false := by kernel_rfl
@[simp] theorem Try.dm_ptr37 : Dm.tPtr Try.prog 37 = false := by kernel_rfl
@[simp] theorem Try.dm_zero37 : Dm.tZero Try.prog 37 = some [.nilfn] := by kernel_rfl
@[simp] theorem Try.dm_agg38 : Dm.tAgg Try.prog 38 = some false := by kernel_rfl
@[simp] theorem Try.dm_cells38 : Dm.tCells Try.prog 38 = some 1 := by kernel_rfl
@[simp] theorem Try.dm_und38 : (Program.underlying Try.prog 38).isSome = true := by kernel_rfl
@[simp] theorem Try.dm_str38 : Dm.tStr Try.prog 38 = false := by kernel_rfl
@[simp] theorem Try.dm_bool38 : Dm.tBool Try.prog 38 = false := by kernel_rfl
@[simp] theorem Try.dm_sl38 : Dm.tSl Try.prog 38 = false := by kernel_rfl
@[simp] theorem Try.dm_ptr38 : Dm.tPtr Try.prog 38 = false := by kernel_rfl
@[simp] theorem Try.dm_zero38 : Dm.tZero Try.prog 38 = some [.nilfn] := by kernel_rfl
@[simp] theorem Try.dm_agg39 : Dm.tAgg Try.prog 39 = some false := by kernel_rfl
@[simp] theorem Try.dm_cells39 : Dm.tCells Try.prog 39 = some 1 := by kernel_rfl
@[simp] theorem Try.dm_und39 : (Program.underlying Try.prog 39).isSome = true := by kernel_rfl
@[simp] theorem Try.dm_int39 : Dm.tInt Try.prog 39 = some .i64 := by kernel_rfl
@[simp] theorem Try.dm_str39 : Dm.tStr Try.prog 39 = false := by kernel_rfl
@[simp] theorem Try.dm_bool39 : Dm.tBool Try.prog 39 = false := by kernel_rfl
@[simp] theorem Try.dm_sl39 : Dm.tSl Try.prog 39 = false := by kernel_rfl
@[simp] theorem Try.dm_ptr39 : Dm.tPtr Try.prog 39 = false := by kernel_rfl
@[simp] theorem Try.dm_zero39 : Dm.tZero Try.prog 39 = some [.int .i64 0] := by kernel_rfl
@[simp] theorem Try.dm_agg41 : Dm.tAgg Try.prog 41 = some false := by kernel_rfl
@[simp] theorem Try.dm_cells41 : Dm.tCells Try.prog 41 = some 1 := by kernel_rfl
@[simp] theorem Try.dm_und41 : (Program.underlying Try.prog 41).isSome = true := by kernel_rfl
@[simp] theorem Try.dm_str41 : Dm.tStr Try.prog 41 = false := by kernel_rfl
@[simp] theorem Try.dm_bool41 : Dm.tBool Try.prog 41 = false := by kernel_rfl
@[simp] theorem Try.dm_sl41 : Dm.tSl Try.prog 41 = false := by kernel_rfl
@[simp] theorem Try.dm_ptr41 : Dm.tPtr Try.prog 41 = false := by kernel_rfl
@[simp] theorem Try.dm_zero41 : Dm.tZero Try.prog 41 = some [.nilfn] := by kernel_rfl
@[simp] theorem Try.dm_agg43 : Dm.tAgg Try.prog 43 = some false := by kernel_rfl
@[simp] theorem Try.dm_cells43 : Dm.tCells Try.prog 43 = some 1 := by kernel_rfl
@[simp] theorem Try.dm_und43 : (Program.underlying Try.prog 43).isSome = true := by kernel_rfl
@[simp] theorem Try.dm_str43 : Dm.tStr Try.prog 43 = false := by kernel_rfl
@[simp] theorem Try.dm_bool43 : Dm.tBool Try.prog 43 = false := by kernel_rfl
@[simp] theorem Try.dm_sl43 : Dm.tSl Try.prog 43 = false := by kernel_rfl
@[simp] theorem Try.dm_ptr43 : Dm.tPtr Try.prog 43 = false := by kernel_rfl
@[simp] theorem Try.dm_zero43 : Dm.tZero Try.prog 43 = some [.nilfn] := by kernel_rfl
@[simp] theorem Try.dm_agg44 : Dm.tAgg Try.prog 44 = some false := by kernel_rfl
@[simp] theorem Try.dm_cells44 : Dm.tCells Try.prog 44 = some 1 := by kernel_rfl
@[simp] theorem Try.dm_und44 : (Program.underlying Try.prog 44).isSome = true := by kernel_rfl
@[simp] theorem Try.dm_str44 : Dm.tStr Try.prog 44 = false := by kernel_rfl
@[simp] theorem Try.dm_bool44 : Dm.tBool Try.prog 44 = false := by kernel_rfl
@[simp] theorem Try.dm_sl44 : Dm.tSl Try.prog 44 = false := by kernel_rfl
@[simp] theorem Try.dm_ptr44 : Dm.tPtr Try.prog 44 = false := by kernel_rfl
@[simp] theorem Try.dm_zero44 : Dm.tZero Try.prog 44 = some [.nilfn] := by kernel_rfl
@[simp] theorem Try.dm_agg45 : Dm.tAgg Try.prog 45 = some false := by kernel_rfl
@[simp] theorem Try.dm_cells45 : Dm.tCells Try.prog 45 = some 1 := by kernel_rfl
@[simp] theorem Try.dm_und45 : (Program.underlying Try.prog 45).isSome = true := by kernel_rfl
@[simp] theorem Try.dm_str45 : Dm.tStr Try.prog 45 = false := by kernel_rfl
@[simp] theorem Try.dm_bool45 : Dm.tBool Try.prog 45 = false := by kernel_rfl
@[simp] theorem Try.dm_sl45 : Dm.tSl Try.prog 45 = false := by kernel_rfl
@[simp] theorem Try.dm_ptr45 : Dm.tPtr Try.prog 45 = false := by kernel_rfl
@[simp] theorem Try.dm_zero45 : Dm.tZero Try.prog 45 = some [.nilfn] := by kernel_rfl
@[simp] theorem Try.dm_agg46 : Dm.tAgg Try.prog 46 = some false := by kernel_rfl
@[simp] theorem Try.dm_cells46 : Dm.tCells Try.prog 46 = some 1 := by kernel_rfl
@[simp] theorem Try.dm_und46 : (Program.underlying Try.prog 46).isSome = true := by kernel_rfl
@[simp] theorem Try.dm_elem46 : Dm.tElem Try.prog 46 = some (1, 1) := by kernel_rfl
@[simp] theorem Try.dm_str46 : Dm.tStr Try.prog 46 = false := by kernel_rfl
@[simp] theorem Try.dm_bool46 : Dm.tBool Try.prog 46 = false := by kernel_rfl
@[simp] theorem Try.dm_sl46 : Dm.tSl Try.prog 46 = true := by kernel_rfl
@[simp] theorem Try.dm_ptr46 : Dm.tPtr Try.prog 46 = false := by kernel_rfl
@[simp] theorem Try.dm_zero46 : Dm.tZero Try.prog 46 = some [.nilsl] := by kernel_rfl
@[simp] theorem Try.dm_eid46 : Dm.tElemId Try.prog 46 = some 4 := by kernel_rfl
@[simp] theorem Try.dm_ez46 : Dm.tElemZ Try.prog 46 = true := by kernel_rfl
@[simp] theorem Try.dm_zok46 : Dm.zeroOK Try.prog 46 = true := by kernel_rfl
@[simp] theorem Try.dm_zsl46 : Dm.tZeroE Try.prog 46 = some [.bool false] := by kernel_rfl
@[simp] theorem Try.dm_agg47 : Dm.tAgg Try.prog 47 = some false := by kernel_rfl
@[simp] theorem Try.dm_cells47 : Dm.tCells Try.prog 47 = some 1 := by kernel_rfl
@[simp] theorem Try.dm_und47 : (Program.underlying Try.prog 47).isSome = true := by kernel_rfl
@[simp] theorem Try.dm_str47 : Dm.tStr Try.prog 47 = false := by kernel_rfl
@[simp] theorem Try.dm_bool47 : Dm.tBool Try.prog 47 = false := by kernel_rfl
@[simp] theorem Try.dm_sl47 : Dm.tSl Try.prog 47 = false := by kernel_rfl
@[simp] theorem Try.dm_ptr47 : Dm.tPtr Try.prog 47 = false := by kernel_rfl
@[simp] theorem Try.dm_zero47 : Dm.tZero Try.prog 47 = some [.nilfn] := by kernel_rfl
@[simp] theorem Try.dm_agg48 : Dm.tAgg Try.prog 48 = some false := by kernel_rfl
@[simp] theorem Try.dm_cells48 : Dm.tCells Try.prog 48 = some 1 := by kernel_rfl
@[simp] theorem Try.dm_und48 : (Program.underlying Try.prog 48).isSome = true := by kernel_rfl
@[simp] theorem Try.dm_str48 : Dm.tStr Try.prog 48 = false := by kernel_rfl
@[simp] theorem Try.dm_bool48 : Dm.tBool Try.prog 48 = false := by kernel_rfl
@[simp] theorem Try.dm_sl48 : Dm.tSl Try.prog 48 = false := by kernel_rfl
@[simp] theorem Try.dm_ptr48 : Dm.tPtr Try.prog 48 = false := by kernel_rfl
@[simp] theorem Try.dm_zero48 : Dm.tZero Try.prog 48 = some [.nilfn] := by kernel_rfl
@[simp] theorem Try.dm_agg49 : Dm.tAgg Try.prog 49 = some false := by kernel_rfl
@[simp] theorem Try.dm_cells49 : Dm.tCells Try.prog 49 = some 1 := by kernel_rfl
@[simp] theorem Try.dm_und49 : (Program.underlying Try.prog 49).isSome = true := by kernel_rfl
@[simp] theorem Try.dm_elem49 : Dm.tElem Try.prog 49 = some (2, 40) := by kernel_rfl
@[simp] theorem Try.dm_str49 : Dm.tStr Try.prog 49 = false := by kernel_rfl
@[simp] theorem Try.dm_bool49 : Dm.tBool Try.prog 49 = false := by kernel_rfl
@[simp] theorem Try.dm_sl49 : Dm.tSl Try.prog 49 = true := by kernel_rfl
@[simp] theorem Try.dm_ptr49 : Dm.tPtr Try.prog 49 = false := by kernel_rfl
@[simp] theorem Try.dm_zero49 : Dm.tZero Try.prog 49 = some [.nilsl] := by kernel_rfl
@[simp] theorem Try.dm_eid49 : Dm.tElemId Try.prog 49 = some 116 := by kernel_rfl
@[simp] theorem Try.dm_ez49 : Dm.tElemZ Try.prog 49 = true := by kernel_rfl
@[simp] theorem Try.dm_zok49 : Dm.zeroOK Try.prog 49 = true := by kernel_rfl
@[simp] theorem Try.dm_zsl49 : Dm.tZeroE Try.prog 49 = some [.str ⟨#[]⟩, .nilsl] := by kernel_rfl
@[simp] theorem Try.dm_agg50 : Dm.tAgg Try.prog 50 = some false := by kernel_rfl
@[simp] theorem Try.dm_cells50 : Dm.tCells Try.prog 50 = some 1 := by kernel_rfl
@[simp] theorem Try.dm_und50 : (Program.underlying Try.prog 50).isSome = true := by kernel_rfl
@[simp] theorem Try.dm_elem50 : Dm.tElem Try.prog 50 = some (1, 16) := by kernel_rfl
@[simp] theorem Try.dm_str50 : Dm.tStr Try.prog 50 = false := by kernel_rfl
@[simp] theorem Try.dm_bool50 : Dm.tBool Try.prog 50 = false := by kernel_rfl
@[simp] theorem Try.dm_sl50 : Dm.tSl Try.prog 50 = true := by kernel_rfl
@[simp] theorem Try.dm_ptr50 : Dm.tPtr Try.prog 50 = false := by kernel_rfl
@[simp] theorem Try.dm_zero50 : Dm.tZero Try.prog 50 = some [.nilsl] := by kernel_rfl
@[simp] theorem Try.dm_eid50 : Dm.tElemId Try.prog 50 = some 9 := by kernel_rfl
@[simp] theorem Try.dm_ez50 : Dm.tElemZ Try.prog 50 = true := by kernel_rfl
@[simp] theorem Try.dm_zok50 : Dm.zeroOK Try.prog 50 = true := by kernel_rfl
@[simp] theorem Try.dm_zsl50 : Dm.tZeroE Try.prog 50 = some [.str ⟨#[]⟩] := by kernel_rfl
@[simp] theorem Try.dm_agg51 : Dm.tAgg Try.prog 51 = some false := by kernel_rfl
@[simp] theorem Try.dm_cells51 : Dm.tCells Try.prog 51 = some 1 := by kernel_rfl
@[simp] theorem Try.dm_und51 : (Program.underlying Try.prog 51).isSome = true := by kernel_rfl
@[simp] theorem Try.dm_elem51 : Dm.tElem Try.prog 51 = some (3, 48) := by kernel_rfl
@[simp] theorem Try.dm_str51 : Dm.tStr Try.prog 51 = false := by kernel_rfl
@[simp] theorem Try.dm_bool51 : Dm.tBool Try.prog 51 = false := by kernel_rfl
@[simp] theorem Try.dm_sl51 : Dm.tSl Try.prog 51 = true := by kernel_rfl
@[simp] theorem Try.dm_ptr51 : Dm.tPtr Try.prog 51 = false := by kernel_rfl
@[simp] theorem Try.dm_zero51 : Dm.tZero Try.prog 51 = some [.nilsl] := by kernel_rfl
@[simp] theorem Try.dm_eid51 : Dm.tElemId Try.prog 51 = some 101 := by kernel_rfl
@[simp] theorem Try.dm_ez51 : Dm.tElemZ Try.prog 51 = true := by kernel_rfl
@[simp] theorem Try.dm_zok51 : Dm.zeroOK Try.prog 51 = true := by kernel_rfl
@[simp] theorem Try.dm_zsl51 : Dm.tZeroE Try.prog 51 = some [.str ⟨#[]⟩, .str ⟨#[]⟩, .str ⟨#[]⟩] := by kernel_rfl
@[simp] theorem Try.dm_agg52 : Dm.tAgg Try.prog 52 = some true := by kernel_rfl
@[simp] theorem Try.dm_cells52 : Dm.tCells Try.prog 52 = some 2 := by kernel_rfl
@[simp] theorem Try.dm_und52 : (Program.underlying Try.prog 52).isSome = true := by kernel_rfl
@[simp] theorem Try.dm_str52 : Dm.tStr Try.prog 52 = false := by kernel_rfl
@[simp] theorem Try.dm_bool52 : Dm.tBool Try.prog 52 = false := by kernel_rfl
@[simp] theorem Try.dm_sl52 : Dm.tSl Try.prog 52 = false := by kernel_rfl
@[simp] theorem Try.dm_ptr52 : Dm.tPtr Try.prog 52 = false := by kernel_rfl
@[simp] theorem Try.dm_zero52 : Dm.tZero Try.prog 52 = some [.nilsl, .nilsl] := by kernel_rfl
@[simp] theorem Try.dm_field52_0 : Dm.tField Try.prog 52 0 = some (0, 1, false) := by kernel_rfl
@[simp] theorem Try.dm_field52_1 : Dm.tField Try.prog 52 1 = some (1, 1, false) := by kernel_rfl
@[simp] theorem Try.dm_parts52 : Dm.tParts Try.prog 52 = true := by kernel_rfl
@[simp] theorem Try.dm_agg53 : Dm.tAgg Try.prog 53 = some true := by kernel_rfl
@[simp] theorem Try.dm_cells53 : Dm.tCells Try.prog 53 = some 2 := by kernel_rfl
@[simp] theorem Try.dm_und53 : (Program.underlying Try.prog 53).isSome = true := by kernel_rfl
@[simp] theorem Try.dm_str53 : Dm.tStr Try.prog 53 = false := by kernel_rfl
@[simp] theorem Try.dm_bool53 : Dm.tBool Try.prog 53 = false := by kernel_rfl
@[simp] theorem Try.dm_sl53 : Dm.tSl Try.prog 53 = false := by kernel_rfl
@[simp] theorem Try.dm_ptr53 : Dm.tPtr Try.prog 53 = false := by kernel_rfl
@[simp] theorem Try.dm_zero53 : Dm.tZero Try.prog 53 = some [.nilsl, .nilsl] := by kernel_rfl
@[simp] theorem Try.dm_field53_0 : Dm.tField Try.prog 53 0 = some (0, 1, false) := by kernel_rfl
@[simp] theorem Try.dm_field53_1 : Dm.tField Try.prog 53 1 = some (1, 1, false) := by kernel_rfl
@[simp] theorem Try.dm_parts53 : Dm.tParts Try.prog 53 = true := by kernel_rfl
@[simp] theorem Try.dm_agg54 : Dm.tAgg Try.prog 54 = some true := by kernel_rfl
@[simp] theorem Try.dm_cells54 : Dm.tCells Try.prog 54 = some 7 := by kernel_rfl
@[simp] theorem Try.dm_und54 : (Program.underlying Try.prog 54).isSome = true := by kernel_rfl
@[simp] theorem Try.dm_str54 : Dm.tStr Try.prog 54 = false := by kernel_rfl
@[simp] theorem Try.dm_bool54 : Dm.tBool Try.prog 54 = false := by kernel_rfl
@[simp] theorem Try.dm_sl54 : Dm.tSl Try.prog 54 = false := by kernel_rfl
@[simp] theorem Try.dm_ptr54 : Dm.tPtr Try.prog 54 = false := by kernel_rfl
@[simp] theorem Try.dm_zero54 : Dm.tZero Try.prog 54 = some [.nilsl, .nilsl, .nilsl, .str ⟨#[]⟩, .str ⟨#[]⟩, .str ⟨#[]⟩, .nilsl] := by kernel_rfl
@[simp] theorem Try.dm_field54_0 : Dm.tField Try.prog 54 0 = some (0, 1, false) := by kernel_rfl
@[simp] theorem Try.dm_field54_1 : Dm.tField Try.prog 54 1 = some (1, 2, true) := by kernel_rfl
@[simp] theorem Try.dm_field54_2 : Dm.tField Try.prog 54 2 = some (3, 1, false) := by kernel_rfl
@[simp] theorem Try.dm_field54_3 : Dm.tField Try.prog 54 3 = some (4, 1, false) := by kernel_rfl
@[simp] theorem Try.dm_field54_4 : Dm.tField Try.prog 54 4 = some (5, 1, false) := by kernel_rfl
@[simp] theorem Try.dm_field54_5 : Dm.tField Try.prog 54 5 = some (6, 1, false) := by kernel_rfl
@[simp] theorem Try.dm_parts54 : Dm.tParts Try.prog 54 = true := by kernel_rfl
@[simp] theorem Try.dm_agg55 : Dm.tAgg Try.prog 55 = some true := by kernel_rfl
@[simp] theorem Try.dm_cells55 : Dm.tCells Try.prog 55 = some 7 := by kernel_rfl
@[simp] theorem Try.dm_und55 : (Program.underlying Try.prog 55).isSome = true := by kernel_rfl
@[simp] theorem Try.dm_str55 : Dm.tStr Try.prog 55 = false := by kernel_rfl
@[simp] theorem Try.dm_bool55 : Dm.tBool Try.prog 55 = false := by kernel_rfl
@[simp] theorem Try.dm_sl55 : Dm.tSl Try.prog 55 = false := by kernel_rfl
@[simp] theorem Try.dm_ptr55 : Dm.tPtr Try.prog 55 = false := by kernel_rfl
@[simp] theorem Try.dm_zero55 : Dm.tZero Try.prog 55 = some [.nilsl, .nilsl, .nilsl, .str ⟨#[]⟩, .str ⟨#[]⟩, .str ⟨#[]⟩, .nilsl] := by kernel_rfl
@[simp] theorem Try.dm_field55_0 : Dm.tField Try.prog 55 0 = some (0, 1, false) := by kernel_rfl
@[simp] theorem Try.dm_field55_1 : Dm.tField Try.prog 55 1 = some (1, 2, true) := by kernel_rfl
@[simp] theorem Try.dm_field55_2 : Dm.tField Try.prog 55 2 = some (3, 1, false) := by kernel_rfl
@[simp] theorem Try.dm_field55_3 : Dm.tField Try.prog 55 3 = some (4, 1, false) := by kernel_rfl
@[simp] theorem Try.dm_field55_4 : Dm.tField Try.prog 55 4 = some (5, 1, false) := by kernel_rfl
@[simp] theorem Try.dm_field55_5 : Dm.tField Try.prog 55 5 = some (6, 1, false) := by kernel_rfl
@[simp] theorem Try.dm_parts55 : Dm.tParts Try.prog 55 = true := by kernel_rfl
@[simp] theorem Try.dm_agg56 : Dm.tAgg Try.prog 56 = some false := by kernel_rfl
@[simp] theorem Try.dm_cells56 : Dm.tCells Try.prog 56 = some 1 := by kernel_rfl
@[simp] theorem Try.dm_und56 : (Program.underlying Try.prog 56).isSome = true := by kernel_rfl
@[simp] theorem Try.dm_str56 : Dm.tStr Try.prog 56 = false := by kernel_rfl
@[simp] theorem Try.dm_bool56 : Dm.tBool Try.prog 56 = false := by kernel_rfl
@[simp] theorem Try.dm_sl56 : Dm.tSl Try.prog 56 = false := by kernel_rfl
@[simp] theorem Try.dm_ptr56 : Dm.tPtr Try.prog 56 = false := by kernel_rfl
@[simp] theorem Try.dm_zero56 : Dm.tZero Try.prog 56 = some [.nilfn] := by kernel_rfl
@[simp] theorem Try.dm_agg57 : Dm.tAgg Try.prog 57 = some false := by kernel_rfl
@[simp] theorem Try.dm_cells57 : Dm.tCells Try.prog 57 = some 1 := by kernel_rfl
@[simp] theorem Try.dm_und57 : (Program.underlying Try.prog 57).isSome = true := by kernel_rfl
@[simp] theorem Try.dm_str57 : Dm.tStr Try.prog 57 = false := by kernel_rfl
@[simp] theorem Try.dm_bool57 : Dm.tBool Try.prog 57 = false := by kernel_rfl
@[simp] theorem Try.dm_sl57 : Dm.tSl Try.prog 57 = false := by kernel_rfl
@[simp] theorem Try.dm_ptr57 : Dm.tPtr Try.prog 57 = false := by kernel_rfl
@[simp] theorem Try.dm_zero57 : Dm.tZero Try.prog 57 = some [.nilfn] := by kernel_rfl
@[simp] theorem Try.dm_agg58 : Dm.tAgg Try.prog 58 = some false := by kernel_rfl
@[simp] theorem Try.dm_cells58 : Dm.tCells Try.prog 58 = some 1 := by kernel_rfl
@[simp] theorem Try.dm_und58 : (Program.underlying Try.prog 58).isSome = true := by kernel_rfl
@[simp] theorem Try.dm_str58 : Dm.tStr Try.prog 58 = false := by kernel_rfl
@[simp] theorem Try.dm_bool58 : Dm.tBool Try.prog 58 = false := by kernel_rfl
@[simp] theorem Try.dm_sl58 : Dm.tSl Try.prog 58 = false := by kernel_rfl
@[simp] theorem Try.dm_ptr58 : Dm.tPtr Try.prog 58 = false := by kernel_rfl
@[simp] theorem Try.dm_zero58 : Dm.tZero Try.prog 58 = some [.nilfn] := by kernel_rfl
@[simp] theorem Try.dm_agg59 : Dm.tAgg Try.prog 59 = some false := by kernel_rfl
@[simp] theorem Try.dm_cells59 : Dm.tCells Try.prog 59 = some 1 := by kernel_rfl
@[simp] theorem Try.dm_und59 : (Program.underlying Try.prog 59).isSome = true := by kernel_rfl
@[simp] theorem Try.dm_str59 : Dm.tStr Try.prog 59 = false := by kernel_rfl
@[simp] theorem Try.dm_bool59 : Dm.tBool Try.prog 59 = false := by kernel_rfl
@[simp] theorem Try.dm_sl59 : Dm.tSl Try.prog 59 = false := by kernel_rfl
@[simp] theorem Try.dm_ptr59 : Dm.tPtr Try.prog 59 = false := by kernel_rfl
@[simp] theorem Try.dm_zero59 : Dm.tZero Try.prog 59 = some [.nilfn] := by kernel_rfl
@[simp] theorem Try.dm_agg60 : Dm.tAgg Try.prog 60 = some false := by kernel_rfl
@[simp] theorem Try.dm_cells60 : Dm.tCells Try.prog 60 = some 1 := by kernel_rfl
@[simp] theorem Try.dm_und60 : (Program.underlying Try.prog 60).isSome = true := by kernel_rfl
@[simp] theorem Try.dm_str60 : Dm.tStr Try.prog 60 = false := by kernel_rfl
@[simp] theorem Try.dm_bool60 : Dm.tBool Try.prog 60 = false := by kernel_rfl
@[simp] theorem Try.dm_sl60 : Dm.tSl Try.prog 60 = false := by kernel_rfl
@[simp] theorem Try.dm_ptr60 : Dm.tPtr Try.prog 60 = false := by kernel_rfl
@[simp] theorem Try.dm_zero60 : Dm.tZero Try.prog 60 = some [.nilfn] := by kernel_rfl
@[simp] theorem Try.dm_agg62 : Dm.tAgg Try.prog 62 = some false := by kernel_rfl
@[simp] theorem Try.dm_cells62 : Dm.tCells Try.prog 62 = some 1 := by kernel_rfl
@[simp] theorem Try.dm_und62 : (Program.underlying Try.prog 62).isSome = true := by kernel_rfl
@[simp] theorem Try.dm_str62 : Dm.tStr Try.prog 62 = false := by kernel_rfl
@[simp] theorem Try.dm_bool62 : Dm.tBool Try.prog 62 = false := by kernel_rfl
@[simp] theorem Try.dm_sl62 : Dm.tSl Try.prog 62 = false := by kernel_rfl
@[simp] theorem Try.dm_ptr62 : Dm.tPtr Try.prog 62 = false := by kernel_rfl
@[simp] theorem Try.dm_zero62 : Dm.tZero Try.prog 62 = some [.nilfn] := by kernel_rfl
@[simp] theorem Try.dm_agg64 : Dm.tAgg Try.prog 64 = some false := by kernel_rfl
@[simp] theorem Try.dm_cells64 : Dm.tCells Try.prog 64 = some 1 := by kernel_rfl
@[simp] theorem Try.dm_und64 : (Program.underlying Try.prog 64).isSome = true := by kernel_rfl
@[simp] theorem Try.dm_str64 : Dm.tStr Try.prog 64 = false := by kernel_rfl
@[simp] theorem Try.dm_bool64 : Dm.tBool Try.prog 64 = false := by kernel_rfl
@[simp] theorem Try.dm_sl64 : Dm.tSl Try.prog 64 = false := by kernel_rfl
@[simp] theorem Try.dm_ptr64 : Dm.tPtr Try.prog 64 = false := by kernel_rfl
@[simp] theorem Try.dm_zero64 : Dm.tZero Try.prog 64 = some [.nilfn] := by kernel_rfl
@[simp] theorem Try.dm_agg66 : Dm.tAgg Try.prog 66 = some false := by kernel_rfl
@[simp] theorem Try.dm_cells66 : Dm.tCells Try.prog 66 = some 1 := by kernel_rfl
@[simp] theorem Try.dm_und66 : (Program.underlying Try.prog 66).isSome = true := by kernel_rfl
@[simp] theorem Try.dm_str66 : Dm.tStr Try.prog 66 = false := by kernel_rfl
@[simp] theorem Try.dm_bool66 : Dm.tBool Try.prog 66 = false := by kernel_rfl
@[simp] theorem Try.dm_sl66 : Dm.tSl Try.prog 66 = false := by kernel_rfl
@[simp] theorem Try.dm_ptr66 : Dm.tPtr Try.prog 66 = false := by kernel_rfl
@[simp] theorem Try.dm_zero66 : Dm.tZero Try.prog 66 = some [.nilfn] := by kernel_rfl
@[simp] theorem Try.dm_agg67 : Dm.tAgg Try.prog 67 = some false := by kernel_rfl
@[simp] theorem Try.dm_cells67 : Dm.tCells Try.prog 67 = some 1 := by kernel_rfl
@[simp] theorem Try.dm_und67 : (Program.underlying Try.prog 67).isSome = true := by kernel_rfl
@[simp] theorem Try.dm_str67 : Dm.tStr Try.prog 67 = false := by kernel_rfl
@[simp] theorem Try.dm_bool67 : Dm.tBool Try.prog 67 = false := by kernel_rfl
@[simp] theorem Try.dm_sl67 : Dm.tSl Try.prog 67 = false := by kernel_rfl
@[simp] theorem Try.dm_ptr67 : Dm.tPtr Try.prog 67 = false := by kernel_rfl
@[simp] theorem Try.dm_zero67 : Dm.tZero Try.prog 67 = some [.nilfn] := by kernel_rfl
@[simp] theorem Try.dm_agg68 : Dm.tAgg Try.prog 68 = some false := by kernel_rfl
@[simp] theorem Try.dm_cells68 : Dm.tCells Try.prog 68 = some 1 := by kernel_rfl
@[simp] theorem Try.dm_und68 : (Program.underlying Try.prog 68).isSome = true := by kernel_rfl
@[simp] theorem Try.dm_str68 : Dm.tStr Try.prog 68 = false := by kernel_rfl
@[simp] theorem Try.dm_bool68 : Dm.tBool Try.prog 68 = false := by kernel_rfl
@[simp] theorem Try.dm_sl68 : Dm.tSl Try.prog 68 = false := by kernel_rfl
@[simp] theorem Try.dm_ptr68 : Dm.tPtr Try.prog 68 = false := by kernel_rfl
@[simp] theorem Try.dm_zero68 : Dm.tZero Try.prog 68 = some [.nilfn] := by kernel_rfl
@[simp] theorem Try.dm_agg69 : Dm.tAgg Try.prog 69 = some false := by kernel_rfl
@[simp] theorem Try.dm_cells69 : Dm.tCells Try.prog 69 = some 1 := by kernel_rfl
@[simp] theorem Try.dm_und69 : (Program.underlying Try.prog 69).isSome = true := by kernel_rfl
@[simp] theorem Try.dm_str69 : Dm.tStr Try.prog 69 = false := by kernel_rfl
@[simp] theorem Try.dm_bool69 : Dm.tBool Try.prog 69 = false := by kernel_rfl
@[simp] theorem Try.dm_sl69 : Dm.tSl Try.prog 69 = false := by kernel_rfl
@[simp] theorem Try.dm_ptr69 : Dm.tPtr Try.prog 69 = false := by kernel_rfl
@[simp] theorem Try.dm_zero69 : Dm.tZero Try.prog 69 = some [.nilfn] := by kernel_rfl
@[simp] theorem Try.dm_agg70 : Dm.tAgg Try.prog 70 = some false := by kernel_rfl
@[simp] theorem Try.dm_cells70 : Dm.tCells Try.prog 70 = some 1 := by kernel_rfl
@[simp] theorem Try.dm_und70 : (Program.underlying Try.prog 70).isSome = true := by kernel_rfl
@[simp] theorem Try.dm_int70 : Dm.tInt Try.prog 70 = some .i64 := by kernel_rfl
@[simp] theorem Try.dm_str70 : Dm.tStr Try.prog 70 = false := by kernel_rfl
@[simp] theorem Try.dm_bool70 : Dm.tBool Try.prog 70 = false := by kernel_rfl
@[simp] theorem Try.dm_sl70 : Dm.tSl Try.prog 70 = false := by kernel_rfl
@[simp] theorem Try.dm_ptr70 : Dm.tPtr Try.prog 70 = false := by kernel_rfl
@[simp] theorem Try.dm_zero70 : Dm.tZero Try.prog 70 = some [.int .i64 0] := by kernel_rfl
@[simp] theorem Try.dm_agg71 : Dm.tAgg Try.prog 71 = some false := by kernel_rfl
@[simp] theorem Try.dm_cells71 : Dm.tCells Try.prog 71 = some 1 := by kernel_rfl
@[simp] theorem Try.dm_und71 : (Program.underlying Try.prog 71).isSome = true := by kernel_rfl
@[simp] theorem Try.dm_str71 : Dm.tStr Try.prog 71 = false := by kernel_rfl
@[simp] theorem Try.dm_bool71 : Dm.tBool Try.prog 71 = false := by kernel_rfl
@[simp] theorem Try.dm_sl71 : Dm.tSl Try.prog 71 = false := by kernel_rfl
@[simp] theorem Try.dm_ptr71 : Dm.tPtr Try.prog 71 = false := by kernel_rfl
@[simp] theorem Try.dm_zero71 : Dm.tZero Try.prog 71 = some [.nilfn] := by kernel_rfl
@[simp] theorem Try.dm_agg72 : Dm.tAgg Try.prog 72 = some false := by kernel_rfl
@[simp] theorem Try.dm_cells72 : Dm.tCells Try.prog 72 = some 1 := by kernel_rfl
@[simp] theorem Try.dm_und72 : (Program.underlying Try.prog 72).isSome = true := by kernel_rfl
@[simp] theorem Try.dm_str72 : Dm.tStr Try.prog 72 = false := by kernel_rfl
@[simp] theorem Try.dm_bool72 : Dm.tBool Try.prog 72 = false := by kernel_rfl
@[simp] theorem Try.dm_sl72 : Dm.tSl Try.prog 72 = false := by kernel_rfl
@[simp] theorem Try.dm_ptr72 : Dm.tPtr Try.prog 72 = false := by kernel_rfl
@[simp] theorem Try.dm_zero72 : Dm.tZero Try.prog 72 = some [.nilfn] := by kernel_rfl
@[simp] theorem Try.dm_agg73 : Dm.tAgg Try.prog 73 = some false := by kernel_rfl
@[simp] theorem Try.dm_cells73 : Dm.tCells Try.prog 73 = some 1 := by kernel_rfl
@[simp] theorem Try.dm_und73 : (Program.underlying Try.prog 73).isSome = true := by kernel_rfl
@[simp] theorem Try.dm_str73 : Dm.tStr Try.prog 73 = false := by kernel_rfl
@[simp] theorem Try.dm_bool73 : Dm.tBool Try.prog 73 = false := by kernel_rfl
@[simp] theorem Try.dm_sl73 : Dm.tSl Try.prog 73 = false := by kernel_rfl
@[simp] theorem Try.dm_ptr73 : Dm.tPtr Try.prog 73 = false := by kernel_rfl
@[simp] theorem Try.dm_zero73 : Dm.tZero Try.prog 73 = some [.nilfn] := by kernel_rfl
@[simp] theorem Try.dm_agg74 : Dm.tAgg Try.prog 74 = some true := by kernel_rfl
@[simp] theorem Try.dm_cells74 : Dm.tCells Try.prog 74 = some 2 := by kernel_rfl
@[simp] theorem Try.dm_und74 : (Program.underlying Try.prog 74).isSome = true := by kernel_rfl
@[simp] theorem Try.dm_str74 : Dm.tStr Try.prog 74 = false := by kernel_rfl
@[simp] theorem Try.dm_bool74 : Dm.tBool Try.prog 74 = false := by kernel_rfl
@[simp] theorem Try.dm_sl74 : Dm.tSl Try.prog 74 = false := by kernel_rfl
@[simp] theorem Try.dm_ptr74 : Dm.tPtr Try.prog 74 = false := by kernel_rfl
@[simp] theorem Try.dm_zero74 : Dm.tZero Try.prog 74 = some [.bool false, .int .i64 0] := by kernel_rfl
@[simp] theorem Try.dm_field74_0 : Dm.tField Try.prog 74 0 = some (0, 1, false) := by kernel_rfl
@[simp] theorem Try.dm_field74_1 : Dm.tField Try.prog 74 1 = some (1, 1, false) := by kernel_rfl
@[simp] theorem Try.dm_eqg74 : Program.eqGuardType Try.prog Try.prog.depth 74 = false := by kernel_rfl
@[simp] theorem Try.dm_flat74 : Dm.flat Try.prog 10000 74 = some [.b, .i .i64] := by kernel_rfl
@[simp] theorem Try.dm_parts74 : Dm.tParts Try.prog 74 = true := by kernel_rfl
@[simp] theorem Try.dm_agg75 : Dm.tAgg Try.prog 75 = some true := by kernel_rfl
@[simp] theorem Try.dm_cells75 : Dm.tCells Try.prog 75 = some 2 := by kernel_rfl
@[simp] theorem Try.dm_und75 : (Program.underlying Try.prog 75).isSome = true := by kernel_rfl
@[simp] theorem Try.dm_str75 : Dm.tStr Try.prog 75 = false := by kernel_rfl
@[simp] theorem Try.dm_bool75 : Dm.tBool Try.prog 75 = false := by kernel_rfl
@[simp] theorem Try.dm_sl75 : Dm.tSl Try.prog 75 = false := by kernel_rfl
@[simp] theorem Try.dm_ptr75 : Dm.tPtr Try.prog 75 = false := by kernel_rfl
@[simp] theorem Try.dm_zero75 : Dm.tZero Try.prog 75 = some [.bool false, .int .i64 0] := by kernel_rfl
@[simp] theorem Try.dm_field75_0 : Dm.tField Try.prog 75 0 = some (0, 1, false) := by kernel_rfl
@[simp] theorem Try.dm_field75_1 : Dm.tField Try.prog 75 1 = some (1, 1, false) := by kernel_rfl
@[simp] theorem Try.dm_eqg75 : Program.eqGuardType Try.prog Try.prog.depth 75 = false := by kernel_rfl
@[simp] theorem Try.dm_flat75 : Dm.flat Try.prog 10000 75 = some [.b, .i .i64] := by kernel_rfl
@[simp] theorem Try.dm_parts75 : Dm.tParts Try.prog 75 = true := by kernel_rfl
@[simp] theorem Try.dm_agg76 : Dm.tAgg Try.prog 76 = some false := by kernel_rfl
@[simp] theorem Try.dm_cells76 : Dm.tCells Try.prog 76 = some 1 := by kernel_rfl
@[simp] theorem Try.dm_und76 : (Program.underlying Try.prog 76).isSome = true := by kernel_rfl
@[simp] theorem Try.dm_str76 : Dm.tStr Try.prog 76 = false := by kernel_rfl
@[simp] theorem Try.dm_bool76 : Dm.tBool Try.prog 76 = false := by kernel_rfl
@[simp] theorem Try.dm_sl76 : Dm.tSl Try.prog 76 = false := by kernel_rfl
@[simp] theorem Try.dm_ptr76 : Dm.tPtr Try.prog 76 = false := by kernel_rfl
@[simp] theorem Try.dm_zero76 : Dm.tZero Try.prog 76 = some [.nilfn] := by kernel_rfl
@[simp] theorem Try.dm_agg77 : Dm.tAgg Try.prog 77 = some false := by kernel_rfl
@[simp] theorem Try.dm_cells77 : Dm.tCells Try.prog 77 = some 1 := by kernel_rfl
@[simp] theorem Try.dm_und77 : (Program.underlying Try.prog 77).isSome = true := by kernel_rfl
@[simp] theorem Try.dm_str77 : Dm.tStr Try.prog 77 = false := by kernel_rfl
@[simp] theorem Try.dm_bool77 : Dm.tBool Try.prog 77 = false := by kernel_rfl
@[simp] theorem Try.dm_sl77 : Dm.tSl Try.prog 77 = false := by kernel_rfl
@[simp] theorem Try.dm_ptr77 : Dm.tPtr Try.prog 77 = false := by kernel_rfl
@[simp] theorem Try.dm_zero77 : Dm.tZero Try.prog 77 = some [.nilfn] := by kernel_rfl
@[simp] theorem Try.dm_agg78 : Dm.tAgg Try.prog 78 = some false := by kernel_rfl
@[simp] theorem Try.dm_cells78 : Dm.tCells Try.prog 78 = some 1 := by kernel_rfl
@[simp] theorem Try.dm_und78 : (Program.underlying Try.prog 78).isSome = true := by kernel_rfl
@[simp] theorem Try.dm_str78 : Dm.tStr Try.prog 78 = false := by kernel_rfl
@[simp] theorem Try.dm_bool78 : Dm.tBool Try.prog 78 = false := by kernel_rfl
@[simp] theorem Try.dm_sl78 : Dm.tSl Try.prog 78 = false := by kernel_rfl
@[simp] theorem Try.dm_ptr78 : Dm.tPtr Try.prog 78 = false := by kernel_rfl
@[simp] theorem Try.dm_zero78 : Dm.tZero Try.prog 78 = some [.nilfn] := by kernel_rfl
@[simp] theorem Try.dm_agg79 : Dm.tAgg Try.prog 79 = some false := by kernel_rfl
@[simp] theorem Try.dm_cells79 : Dm.tCells Try.prog 79 = some 1 := by kernel_rfl
@[simp] theorem Try.dm_und79 : (Program.underlying Try.prog 79).isSome = true := by kernel_rfl
@[simp] theorem Try.dm_str79 : Dm.tStr Try.prog 79 = false := by kernel_rfl
@[simp] theorem Try.dm_bool79 : Dm.tBool Try.prog 79 = false := by kernel_rfl
@[simp] theorem Try.dm_sl79 : Dm.tSl Try.prog 79 = false := by kernel_rfl
@[simp] theorem Try.dm_ptr79 : Dm.tPtr Try.prog 79 = false := by kernel_rfl
@[simp] theorem Try.dm_zero79 : Dm.tZero Try.prog 79 = some [.nilfn] := by kernel_rfl
@[simp] theorem Try.dm_agg80 : Dm.tAgg Try.prog 80 = some false := by kernel_rfl
@[simp] theorem Try.dm_cells80 : Dm.tCells Try.prog 80 = some 1 := by kernel_rfl
@[simp] theorem Try.dm_und80 : (Program.underlying Try.prog 80).isSome = true := by kernel_rfl
@[simp] theorem Try.dm_str80 : Dm.tStr Try.prog 80 = false := by kernel_rfl
@[simp] theorem Try.dm_bool80 : Dm.tBool Try.prog 80 = false := by kernel_rfl
@[simp] theorem Try.dm_sl80 : Dm.tSl Try.prog 80 = false := by kernel_rfl
@[simp] theorem Try.dm_ptr80 : Dm.tPtr Try.prog 80 = false := by kernel_rfl
@[simp] theorem Try.dm_zero80 : Dm.tZero Try.prog 80 = some [.nilfn] := by kernel_rfl
@[simp] theorem Try.dm_agg81 : Dm.tAgg Try.prog 81 = some false := by kernel_rfl
@[simp] theorem Try.dm_cells81 : Dm.tCells Try.prog 81 = some 1 := by kernel_rfl
@[simp] theorem Try.dm_und81 : (Program.underlying Try.prog 81).isSome = true := by kernel_rfl
@[simp] theorem Try.dm_str81 : Dm.tStr Try.prog 81 = false := by kernel_rfl
@[simp] theorem Try.dm_bool81 : Dm.tBool Try.prog 81 = false := by kernel_rfl
@[simp] theorem Try.dm_sl81 : Dm.tSl Try.prog 81 = false := by kernel_rfl
@[simp] theorem Try.dm_ptr81 : Dm.tPtr Try.prog 81 = true := by kernel_rfl
@[simp] theorem Try.dm_zero81 : Dm.tZero Try.prog 81 = some [.nilp] := by kernel_rfl
@[simp] theorem Try.dm_agg82 : Dm.tAgg Try.prog 82 = some false := by kernel_rfl
@[simp] theorem Try.dm_cells82 : Dm.tCells Try.prog 82 = some 1 := by kernel_rfl
@[simp] theorem Try.dm_und82 : (Program.underlying Try.prog 82).isSome = true := by kernel_rfl
@[simp] theorem Try.dm_str82 : Dm.tStr Try.prog 82 = false := by kernel_rfl
@[simp] theorem Try.dm_bool82 : Dm.tBool Try.prog 82 = false := by kernel_rfl
@[simp] theorem Try.dm_sl82 : Dm.tSl Try.prog 82 = false := by kernel_rfl
@[simp] theorem Try.dm_ptr82 : Dm.tPtr Try.prog 82 = false := by kernel_rfl
@[simp] theorem Try.dm_zero82 : Dm.tZero Try.prog 82 = some [.nilmp] := by kernel_rfl
@[simp] theorem Try.dm_map82 : Dm.tMap Try.prog 82 = some (3, 3) := by kernel_rfl
@[simp] theorem Try.dm_flat3 : Dm.flat Try.prog 10000 3 = some [.i .i64] := by kernel_rfl
@[simp] theorem Try.dm_zd3 : Dm.tZeroD Try.prog 3 = some (.int .i64 0) := by kernel_rfl
@[simp] theorem Try.dm_agg83 : Dm.tAgg Try.prog 83 = some true := by kernel_rfl
@[simp] theorem Try.dm_cells83 : Dm.tCells Try.prog 83 = some 4 := by kernel_rfl
@[simp] theorem Try.dm_und83 : (Program.underlying Try.prog 83).isSome = true := by kernel_rfl
@[simp] theorem Try.dm_str83 : Dm.tStr Try.prog 83 = false := by kernel_rfl
@[simp] theorem Try.dm_bool83 : Dm.tBool Try.prog 83 = false := by kernel_rfl
@[simp] theorem Try.dm_sl83 : Dm.tSl Try.prog 83 = false := by kernel_rfl
@[simp] theorem Try.dm_ptr83 : Dm.tPtr Try.prog 83 = false := by kernel_rfl
@[simp] theorem Try.dm_zero83 : Dm.tZero Try.prog 83 = some [.int .i64 0, .nilsl, .nilmp, .int .i64 0] := by kernel_rfl
@[simp] theorem Try.dm_field83_0 : Dm.tField Try.prog 83 0 = some (0, 2, true) := by kernel_rfl
@[simp] theorem Try.dm_field83_1 : Dm.tField Try.prog 83 1 = some (2, 1, false) := by kernel_rfl
@[simp] theorem Try.dm_field83_2 : Dm.tField Try.prog 83 2 = some (3, 1, false) := by kernel_rfl
@[simp] theorem Try.dm_parts83 : Dm.tParts Try.prog 83 = true := by kernel_rfl
@[simp] theorem Try.dm_agg84 : Dm.tAgg Try.prog 84 = some true := by kernel_rfl
@[simp] theorem Try.dm_cells84 : Dm.tCells Try.prog 84 = some 4 := by kernel_rfl
@[simp] theorem Try.dm_und84 : (Program.underlying Try.prog 84).isSome = true := by kernel_rfl
@[simp] theorem Try.dm_str84 : Dm.tStr Try.prog 84 = false := by kernel_rfl
@[simp] theorem Try.dm_bool84 : Dm.tBool Try.prog 84 = false := by kernel_rfl
@[simp] theorem Try.dm_sl84 : Dm.tSl Try.prog 84 = false := by kernel_rfl
@[simp] theorem Try.dm_ptr84 : Dm.tPtr Try.prog 84 = false := by kernel_rfl
@[simp] theorem Try.dm_zero84 : Dm.tZero Try.prog 84 = some [.int .i64 0, .nilsl, .nilmp, .int .i64 0] := by kernel_rfl
@[simp] theorem Try.dm_field84_0 : Dm.tField Try.prog 84 0 = some (0, 2, true) := by kernel_rfl
@[simp] theorem Try.dm_field84_1 : Dm.tField Try.prog 84 1 = some (2, 1, false) := by kernel_rfl
@[simp] theorem Try.dm_field84_2 : Dm.tField Try.prog 84 2 = some (3, 1, false) := by kernel_rfl
@[simp] theorem Try.dm_parts84 : Dm.tParts Try.prog 84 = true := by kernel_rfl
@[simp] theorem Try.dm_agg85 : Dm.tAgg Try.prog 85 = some false := by kernel_rfl
@[simp] theorem Try.dm_cells85 : Dm.tCells Try.prog 85 = some 1 := by kernel_rfl
@[simp] theorem Try.dm_und85 : (Program.underlying Try.prog 85).isSome = true := by kernel_rfl
@[simp] theorem Try.dm_str85 : Dm.tStr Try.prog 85 = false := by kernel_rfl
@[simp] theorem Try.dm_bool85 : Dm.tBool Try.prog 85 = false := by kernel_rfl
@[simp] theorem Try.dm_sl85 : Dm.tSl Try.prog 85 = false := by kernel_rfl
@[simp] theorem Try.dm_ptr85 : Dm.tPtr Try.prog 85 = false := by kernel_rfl
@[simp] theorem Try.dm_zero85 : Dm.tZero Try.prog 85 = some [.nilfn] := by kernel_rfl
@[simp] theorem Try.dm_agg86 : Dm.tAgg Try.prog 86 = some true := by kernel_rfl
@[simp] theorem Try.dm_cells86 : Dm.tCells Try.prog 86 = some 4 := by kernel_rfl
@[simp] theorem Try.dm_und86 : (Program.underlying Try.prog 86).isSome = true := by kernel_rfl
@[simp] theorem Try.dm_str86 : Dm.tStr Try.prog 86 = false := by kernel_rfl
@[simp] theorem Try.dm_bool86 : Dm.tBool Try.prog 86 = false := by kernel_rfl
@[simp] theorem Try.dm_sl86 : Dm.tSl Try.prog 86 = false := by kernel_rfl
@[simp] theorem Try.dm_ptr86 : Dm.tPtr Try.prog 86 = false := by kernel_rfl
@[simp] theorem Try.dm_zero86 : Dm.tZero Try.prog 86 = some [.int .i64 0, .nilsl, .nilsl, .int .i64 0] := by kernel_rfl
@[simp] theorem Try.dm_field86_0 : Dm.tField Try.prog 86 0 = some (0, 1, false) := by kernel_rfl
@[simp] theorem Try.dm_field86_1 : Dm.tField Try.prog 86 1 = some (1, 1, false) := by kernel_rfl
@[simp] theorem Try.dm_field86_2 : Dm.tField Try.prog 86 2 = some (2, 1, false) := by kernel_rfl
@[simp] theorem Try.dm_field86_3 : Dm.tField Try.prog 86 3 = some (3, 1, false) := by kernel_rfl
@[simp] theorem Try.dm_parts86 : Dm.tParts Try.prog 86 = true := by kernel_rfl
@[simp] theorem Try.dm_agg87 : Dm.tAgg Try.prog 87 = some true := by kernel_rfl
@[simp] theorem Try.dm_cells87 : Dm.tCells Try.prog 87 = some 4 := by kernel_rfl
@[simp] theorem Try.dm_und87 : (Program.underlying Try.prog 87).isSome = true := by kernel_rfl
@[simp] theorem Try.dm_str87 : Dm.tStr Try.prog 87 = false := by kernel_rfl
@[simp] theorem Try.dm_bool87 : Dm.tBool Try.prog 87 = false := by kernel_rfl
@[simp] theorem Try.dm_sl87 : Dm.tSl Try.prog 87 = false := by kernel_rfl
@[simp] theorem Try.dm_ptr87 : Dm.tPtr Try.prog 87 = false := by kernel_rfl
@[simp] theorem Try.dm_zero87 : Dm.tZero Try.prog 87 = some [.int .i64 0, .nilsl, .nilsl, .int .i64 0] := by kernel_rfl
@[simp] theorem Try.dm_field87_0 : Dm.tField Try.prog 87 0 = some (0, 1, false) := by kernel_rfl
@[simp] theorem Try.dm_field87_1 : Dm.tField Try.prog 87 1 = some (1, 1, false) := by kernel_rfl
@[simp] theorem Try.dm_field87_2 : Dm.tField Try.prog 87 2 = some (2, 1, false) := by kernel_rfl
@[simp] theorem Try.dm_field87_3 : Dm.tField Try.prog 87 3 = some (3, 1, false) := by kernel_rfl
@[simp] theorem Try.dm_parts87 : Dm.tParts Try.prog 87 = true := by kernel_rfl
@[simp] theorem Try.dm_agg88 : Dm.tAgg Try.prog 88 = some false := by kernel_rfl
@[simp] theorem Try.dm_cells88 : Dm.tCells Try.prog 88 = some 1 := by kernel_rfl
@[simp] theorem Try.dm_und88 : (Program.underlying Try.prog 88).isSome = true := by kernel_rfl
@[simp] theorem Try.dm_str88 : Dm.tStr Try.prog 88 = false := by kernel_rfl
@[simp] theorem Try.dm_bool88 : Dm.tBool Try.prog 88 = false := by kernel_rfl
@[simp] theorem Try.dm_sl88 : Dm.tSl Try.prog 88 = false := by kernel_rfl
@[simp] theorem Try.dm_ptr88 : Dm.tPtr Try.prog 88 = false := by kernel_rfl
@[simp] theorem Try.dm_zero88 : Dm.tZero Try.prog 88 = some [.nilfn] := by kernel_rfl
@[simp] theorem Try.dm_agg89 : Dm.tAgg Try.prog 89 = some false := by kernel_rfl
@[simp] theorem Try.dm_cells89 : Dm.tCells Try.prog 89 = some 1 := by kernel_rfl
@[simp] theorem Try.dm_und89 : (Program.underlying Try.prog 89).isSome = true := by kernel_rfl
@[simp] theorem Try.dm_str89 : Dm.tStr Try.prog 89 = false := by kernel_rfl
@[simp] theorem Try.dm_bool89 : Dm.tBool Try.prog 89 = false := by kernel_rfl
@[simp] theorem Try.dm_sl89 : Dm.tSl Try.prog 89 = false := by kernel_rfl
@[simp] theorem Try.dm_ptr89 : Dm.tPtr Try.prog 89 = false := by kernel_rfl
@[simp] theorem Try.dm_zero89 : Dm.tZero Try.prog 89 = some [.nilfn] := by kernel_rfl
@[simp] theorem Try.dm_agg90 : Dm.tAgg Try.prog 90 = some false := by kernel_rfl
@[simp] theorem Try.dm_cells90 : Dm.tCells Try.prog 90 = some 1 := by kernel_rfl
@[simp] theorem Try.dm_und90 : (Program.underlying Try.prog 90).isSome = true := by kernel_rfl
@[simp] theorem Try.dm_str90 : Dm.tStr Try.prog 90 = false := by kernel_rfl
@[simp] theorem Try.dm_bool90 : Dm.tBool Try.prog 90 = false := by kernel_rfl
@[simp] theorem Try.dm_sl90 : Dm.tSl Try.prog 90 = false := by kernel_rfl
@[simp] theorem Try.dm_ptr90 : Dm.tPtr Try.prog 90 = false := by kernel_rfl
@[simp] theorem Try.dm_zero90 : Dm.tZero Try.prog 90 = some [.nilfn] := by kernel_rfl
@[simp] theorem Try.dm_agg91 : Dm.tAgg Try.prog 91 = some false := by kernel_rfl
@[simp] theorem Try.dm_cells91 : Dm.tCells Try.prog 91 = some 1 := by kernel_rfl
@[simp] theorem Try.dm_und91 : (Program.underlying Try.prog 91).isSome = true := by kernel_rfl
@[simp] theorem Try.dm_str91 : Dm.tStr Try.prog 91 = false := by kernel_rfl
@[simp] theorem Try.dm_bool91 : Dm.tBool Try.prog 91 = false := by kernel_rfl
@[simp] theorem Try.dm_sl91 : Dm.tSl Try.prog 91 = false := by kernel_rfl
@[simp] theorem Try.dm_ptr91 : Dm.tPtr Try.prog 91 = false := by kernel_rfl
@[simp] theorem Try.dm_zero91 : Dm.tZero Try.prog 91 = some [.nilfn] := by kernel_rfl
@[simp] theorem Try.dm_agg92 : Dm.tAgg Try.prog 92 = some false := by kernel_rfl
@[simp] theorem Try.dm_cells92 : Dm.tCells Try.prog 92 = some 1 := by kernel_rfl
@[simp] theorem Try.dm_und92 : (Program.underlying Try.prog 92).isSome = true := by kernel_rfl
@[simp] theorem Try.dm_str92 : Dm.tStr Try.prog 92 = false := by kernel_rfl
@[simp] theorem Try.dm_bool92 : Dm.tBool Try.prog 92 = false := by kernel_rfl
@[simp] theorem Try.dm_sl92 : Dm.tSl Try.prog 92 = false := by kernel_rfl
@[simp] theorem Try.dm_ptr92 : Dm.tPtr Try.prog 92 = false := by kernel_rfl
@[simp] theorem Try.dm_zero92 : Dm.tZero Try.prog 92 = some [.nilfn] := by kernel_rfl
@[simp] theorem Try.dm_agg93 : Dm.tAgg Try.prog 93 = some false := by kernel_rfl
@[simp] theorem Try.dm_cells93 : Dm.tCells Try.prog 93 = some 1 := by kernel_rfl
@[simp] theorem Try.dm_und93 : (Program.underlying Try.prog 93).isSome = true := by kernel_rfl
@[simp] theorem Try.dm_str93 : Dm.tStr Try.prog 93 = false := by kernel_rfl
@[simp] theorem Try.dm_bool93 : Dm.tBool Try.prog 93 = false := by kernel_rfl
@[simp] theorem Try.dm_sl93 : Dm.tSl Try.prog 93 = false := by kernel_rfl
@[simp] theorem Try.dm_ptr93 : Dm.tPtr Try.prog 93 = false := by kernel_rfl
@[simp] theorem Try.dm_zero93 : Dm.tZero Try.prog 93 = some [.nilfn] := by kernel_rfl
@[simp] theorem Try.dm_agg94 : Dm.tAgg Try.prog 94 = some false := by kernel_rfl
@[simp] theorem Try.dm_cells94 : Dm.tCells Try.prog 94 = some 1 := by kernel_rfl
@[simp] theorem Try.dm_und94 : (Program.underlying Try.prog 94).isSome = true := by kernel_rfl
@[simp] theorem Try.dm_str94 : Dm.tStr Try.prog 94 = false := by kernel_rfl
@[simp] theorem Try.dm_bool94 : Dm.tBool Try.prog 94 = false := by kernel_rfl
@[simp] theorem Try.dm_sl94 : Dm.tSl Try.prog 94 = false := by kernel_rfl
@[simp] theorem Try.dm_ptr94 : Dm.tPtr Try.prog 94 = false := by kernel_rfl
@[simp] theorem Try.dm_zero94 : Dm.tZero Try.prog 94 = some [.nilfn] := by kernel_rfl
@[simp] theorem Try.dm_agg95 : Dm.tAgg Try.prog 95 = some false := by kernel_rfl
@[simp] theorem Try.dm_cells95 : Dm.tCells Try.prog 95 = some 1 := by kernel_rfl
@[simp] theorem Try.dm_und95 : (Program.underlying Try.prog 95).isSome = true := by kernel_rfl
@[simp] theorem Try.dm_str95 : Dm.tStr Try.prog 95 = false := by kernel_rfl
@[simp] theorem Try.dm_bool95 : Dm.tBool Try.prog 95 = false := by kernel_rfl
@[simp] theorem Try.dm_sl95 : Dm.tSl Try.prog 95 = false := by kernel_rfl
@[simp] theorem Try.dm_ptr95 : Dm.tPtr Try.prog 95 = false := by kernel_rfl
@[simp] theorem Try.dm_zero95 : Dm.tZero Try.prog 95 = some [.nilfn] := by kernel_rfl
@[simp] theorem Try.dm_agg96 : Dm.tAgg Try.prog 96 = some false := by kernel_rfl
@[simp] theorem Try.dm_cells96 : Dm.tCells Try.prog 96 = some 1 := by kernel_rfl
@[simp] theorem Try.dm_und96 : (Program.underlying Try.prog 96).isSome = true := by kernel_rfl
@[simp] theorem Try.dm_str96 : Dm.tStr Try.prog 96 = false := by kernel_rfl
@[simp] theorem Try.dm_bool96 : Dm.tBool Try.prog 96 = false := by kernel_rfl
@[simp] theorem Try.dm_sl96 : Dm.tSl Try.prog 96 = false := by kernel_rfl
@[simp] theorem Try.dm_ptr96 : Dm.tPtr Try.prog 96 = false := by kernel_rfl
@[simp] theorem Try.dm_zero96 : Dm.tZero Try.prog 96 = some [.nilfn] := by kernel_rfl
@[simp] theorem Try.dm_agg97 : Dm.tAgg Try.prog 97 = some false := by kernel_rfl
@[simp] theorem Try.dm_cells97 : Dm.tCells Try.prog 97 = some 1 := by kernel_rfl
@[simp] theorem Try.dm_und97 : (Program.underlying Try.prog 97).isSome = true := by kernel_rfl
@[simp] theorem Try.dm_str97 : Dm.tStr Try.prog 97 = false := by kernel_rfl
@[simp] theorem Try.dm_bool97 : Dm.tBool Try.prog 97 = false := by kernel_rfl
@[simp] theorem Try.dm_sl97 : Dm.tSl Try.prog 97 = false := by kernel_rfl
@[simp] theorem Try.dm_ptr97 : Dm.tPtr Try.prog 97 = false := by kernel_rfl
@[simp] theorem Try.dm_zero97 : Dm.tZero Try.prog 97 = some [.nilfn] := by kernel_rfl
@[simp] theorem Try.dm_agg98 : Dm.tAgg Try.prog 98 = some false := by kernel_rfl
@[simp] theorem Try.dm_cells98 : Dm.tCells Try.prog 98 = some 1 := by kernel_rfl
@[simp] theorem Try.dm_und98 : (Program.underlying Try.prog 98).isSome = true := by kernel_rfl
@[simp] theorem Try.dm_str98 : Dm.tStr Try.prog 98 = false := by kernel_rfl
@[simp] theorem Try.dm_bool98 : Dm.tBool Try.prog 98 = false := by kernel_rfl
@[simp] theorem Try.dm_sl98 : Dm.tSl Try.prog 98 = false := by kernel_rfl
@[simp] theorem Try.dm_ptr98 : Dm.tPtr Try.prog 98 = false := by kernel_rfl
@[simp] theorem Try.dm_zero98 : Dm.tZero Try.prog 98 = some [.nilfn] := by kernel_rfl
@[simp] theorem Try.dm_agg99 : Dm.tAgg Try.prog 99 = some false := by kernel_rfl
@[simp] theorem Try.dm_cells99 : Dm.tCells Try.prog 99 = some 1 := by kernel_rfl
@[simp] theorem Try.dm_und99 : (Program.underlying Try.prog 99).isSome = true := by kernel_rfl
@[simp] theorem Try.dm_str99 : Dm.tStr Try.prog 99 = false := by kernel_rfl
@[simp] theorem Try.dm_bool99 : Dm.tBool Try.prog 99 = false := by kernel_rfl
@[simp] theorem Try.dm_sl99 : Dm.tSl Try.prog 99 = false := by kernel_rfl
@[simp] theorem Try.dm_ptr99 : Dm.tPtr Try.prog 99 = false := by kernel_rfl
@[simp] theorem Try.dm_zero99 : Dm.tZero Try.prog 99 = some [.nilfn] := by kernel_rfl
@[simp] theorem Try.dm_agg100 : Dm.tAgg Try.prog 100 = some true := by kernel_rfl
@[simp] theorem Try.dm_cells100 : Dm.tCells Try.prog 100 = some 3 := by kernel_rfl
@[simp] theorem Try.dm_und100 : (Program.underlying Try.prog 100).isSome = true := by kernel_rfl
@[simp] theorem Try.dm_str100 : Dm.tStr Try.prog 100 = false := by kernel_rfl
@[simp] theorem Try.dm_bool100 : Dm.tBool Try.prog 100 = false := by kernel_rfl
@[simp] theorem Try.dm_sl100 : Dm.tSl Try.prog 100 = false := by kernel_rfl
@[simp] theorem Try.dm_ptr100 : Dm.tPtr Try.prog 100 = false := by kernel_rfl
@[simp] theorem Try.dm_zero100 : Dm.tZero Try.prog 100 = some [.str ⟨#[]⟩, .str ⟨#[]⟩, .str ⟨#[]⟩] := by kernel_rfl
@[simp] theorem Try.dm_field100_0 : Dm.tField Try.prog 100 0 = some (0, 1, false) := by kernel_rfl
@[simp] theorem Try.dm_field100_1 : Dm.tField Try.prog 100 1 = some (1, 1, false) := by kernel_rfl
@[simp] theorem Try.dm_field100_2 : Dm.tField Try.prog 100 2 = some (2, 1, false) := by kernel_rfl
@[simp] theorem Try.dm_eqg100 : Program.eqGuardType Try.prog Try.prog.depth 100 = false := by kernel_rfl
@[simp] theorem Try.dm_flat100 : Dm.flat Try.prog 10000 100 = some [.s, .s, .s] := by kernel_rfl
@[simp] theorem Try.dm_parts100 : Dm.tParts Try.prog 100 = true := by kernel_rfl
@[simp] theorem Try.dm_agg101 : Dm.tAgg Try.prog 101 = some true := by kernel_rfl
@[simp] theorem Try.dm_cells101 : Dm.tCells Try.prog 101 = some 3 := by kernel_rfl
@[simp] theorem Try.dm_und101 : (Program.underlying Try.prog 101).isSome = true := by kernel_rfl
@[simp] theorem Try.dm_str101 : Dm.tStr Try.prog 101 = false := by kernel_rfl
@[simp] theorem Try.dm_bool101 : Dm.tBool Try.prog 101 = false := by kernel_rfl
@[simp] theorem Try.dm_sl101 : Dm.tSl Try.prog 101 = false := by kernel_rfl
@[simp] theorem Try.dm_ptr101 : Dm.tPtr Try.prog 101 = false := by kernel_rfl
@[simp] theorem Try.dm_zero101 : Dm.tZero Try.prog 101 = some [.str ⟨#[]⟩, .str ⟨#[]⟩, .str ⟨#[]⟩] := by kernel_rfl
@[simp] theorem Try.dm_field101_0 : Dm.tField Try.prog 101 0 = some (0, 1, false) := by kernel_rfl
@[simp] theorem Try.dm_field101_1 : Dm.tField Try.prog 101 1 = some (1, 1, false) := by kernel_rfl
@[simp] theorem Try.dm_field101_2 : Dm.tField Try.prog 101 2 = some (2, 1, false) := by kernel_rfl
@[simp] theorem Try.dm_eqg101 : Program.eqGuardType Try.prog Try.prog.depth 101 = false := by kernel_rfl
@[simp] theorem Try.dm_flat101 : Dm.flat Try.prog 10000 101 = some [.s, .s, .s] := by kernel_rfl
@[simp] theorem Try.dm_parts101 : Dm.tParts Try.prog 101 = true := by kernel_rfl
@[simp] theorem Try.dm_agg102 : Dm.tAgg Try.prog 102 = some false := by kernel_rfl
@[simp] theorem Try.dm_cells102 : Dm.tCells Try.prog 102 = some 1 := by kernel_rfl
@[simp] theorem Try.dm_und102 : (Program.underlying Try.prog 102).isSome = true := by kernel_rfl
@[simp] theorem Try.dm_str102 : Dm.tStr Try.prog 102 = false := by kernel_rfl
@[simp] theorem Try.dm_bool102 : Dm.tBool Try.prog 102 = false := by kernel_rfl
@[simp] theorem Try.dm_sl102 : Dm.tSl Try.prog 102 = false := by kernel_rfl
@[simp] theorem Try.dm_ptr102 : Dm.tPtr Try.prog 102 = false := by kernel_rfl
@[simp] theorem Try.dm_zero102 : Dm.tZero Try.prog 102 = some [.nilfn] := by kernel_rfl
@[simp] theorem Try.dm_agg103 : Dm.tAgg Try.prog 103 = some false := by kernel_rfl
@[simp] theorem Try.dm_cells103 : Dm.tCells Try.prog 103 = some 1 := by kernel_rfl
@[simp] theorem Try.dm_und103 : (Program.underlying Try.prog 103).isSome = true := by kernel_rfl
@[simp] theorem Try.dm_str103 : Dm.tStr Try.prog 103 = false := by kernel_rfl
@[simp] theorem Try.dm_bool103 : Dm.tBool Try.prog 103 = false := by kernel_rfl
@[simp] theorem Try.dm_sl103 : Dm.tSl Try.prog 103 = false := by kernel_rfl
@[simp] theorem Try.dm_ptr103 : Dm.tPtr Try.prog 103 = false := by kernel_rfl
@[simp] theorem Try.dm_zero103 : Dm.tZero Try.prog 103 = some [.nilfn] := by kernel_rfl
@[simp] theorem Try.dm_agg104 : Dm.tAgg Try.prog 104 = some false := by kernel_rfl
@[simp] theorem Try.dm_cells104 : Dm.tCells Try.prog 104 = some 1 := by kernel_rfl
@[simp] theorem Try.dm_und104 : (Program.underlying Try.prog 104).isSome = true := by kernel_rfl
@[simp] theorem Try.dm_str104 : Dm.tStr Try.prog 104 = false := by kernel_rfl
@[simp] theorem Try.dm_bool104 : Dm.tBool Try.prog 104 = false := by kernel_rfl
@[simp] theorem Try.dm_sl104 : Dm.tSl Try.prog 104 = false := by kernel_rfl
@[simp] theorem Try.dm_ptr104 : Dm.tPtr Try.prog 104 = false := by kernel_rfl
@[simp] theorem Try.dm_zero104 : Dm.tZero Try.prog 104 = some [.nilfn] := by kernel_rfl
@[simp] theorem Try.dm_agg105 : Dm.tAgg Try.prog 105 = some false := by kernel_rfl
@[simp] theorem Try.dm_cells105 : Dm.tCells Try.prog 105 = some 1 := by kernel_rfl
@[simp] theorem Try.dm_und105 : (Program.underlying Try.prog 105).isSome = true := by kernel_rfl
@[simp] theorem Try.dm_str105 : Dm.tStr Try.prog 105 = false := by kernel_rfl
@[simp] theorem Try.dm_bool105 : Dm.tBool Try.prog 105 = false := by kernel_rfl
@[simp] theorem Try.dm_sl105 : Dm.tSl Try.prog 105 = false := by kernel_rfl
@[simp] theorem Try.dm_ptr105 : Dm.tPtr Try.prog 105 = false := by kernel_rfl
@[simp] theorem Try.dm_zero105 : Dm.tZero Try.prog 105 = some [.nilfn] := by kernel_rfl
@[simp] theorem Try.dm_agg106 : Dm.tAgg Try.prog 106 = some false := by kernel_rfl
@[simp] theorem Try.dm_cells106 : Dm.tCells Try.prog 106 = some 1 := by kernel_rfl
@[simp] theorem Try.dm_und106 : (Program.underlying Try.prog 106).isSome = true := by kernel_rfl
@[simp] theorem Try.dm_str106 : Dm.tStr Try.prog 106 = false := by kernel_rfl
@[simp] theorem Try.dm_bool106 : Dm.tBool Try.prog 106 = false := by kernel_rfl
@[simp] theorem Try.dm_sl106 : Dm.tSl Try.prog 106 = false := by kernel_rfl
@[simp] theorem Try.dm_ptr106 : Dm.tPtr Try.prog 106 = false := by kernel_rfl
@[simp] theorem Try.dm_zero106 : Dm.tZero Try.prog 106 = some [.nilfn] := by kernel_rfl
@[simp] theorem Try.dm_agg108 : Dm.tAgg Try.prog 108 = some false := by kernel_rfl
@[simp] theorem Try.dm_cells108 : Dm.tCells Try.prog 108 = some 1 := by kernel_rfl
@[simp] theorem Try.dm_und108 : (Program.underlying Try.prog 108).isSome = true := by kernel_rfl
@[simp] theorem Try.dm_str108 : Dm.tStr Try.prog 108 = false := by kernel_rfl
@[simp] theorem Try.dm_bool108 : Dm.tBool Try.prog 108 = false := by kernel_rfl
@[simp] theorem Try.dm_sl108 : Dm.tSl Try.prog 108 = false := by kernel_rfl
@[simp] theorem Try.dm_ptr108 : Dm.tPtr Try.prog 108 = false := by kernel_rfl
@[simp] theorem Try.dm_zero108 : Dm.tZero Try.prog 108 = some [.nilfn] := by kernel_rfl
@[simp] theorem Try.dm_agg109 : Dm.tAgg Try.prog 109 = some false := by kernel_rfl
@[simp] theorem Try.dm_cells109 : Dm.tCells Try.prog 109 = some 1 := by kernel_rfl
@[simp] theorem Try.dm_und109 : (Program.underlying Try.prog 109).isSome = true := by kernel_rfl
@[simp] theorem Try.dm_str109 : Dm.tStr Try.prog 109 = false := by kernel_rfl
@[simp] theorem Try.dm_bool109 : Dm.tBool Try.prog 109 = false := by kernel_rfl
@[simp] theorem Try.dm_sl109 : Dm.tSl Try.prog 109 = false := by kernel_rfl
@[simp] theorem Try.dm_ptr109 : Dm.tPtr Try.prog 109 = false := by kernel_rfl
@[simp] theorem Try.dm_zero109 : Dm.tZero Try.prog 109 = some [.nilfn] := by kernel_rfl
@[simp] theorem Try.dm_agg110 : Dm.tAgg Try.prog 110 = some false := by kernel_rfl
@[simp] theorem Try.dm_cells110 : Dm.tCells Try.prog 110 = some 1 := by kernel_rfl
@[simp] theorem Try.dm_und110 : (Program.underlying Try.prog 110).isSome = true := by kernel_rfl
@[simp] theorem Try.dm_int110 : Dm.tInt Try.prog 110 = some .i64 := by kernel_rfl
@[simp] theorem Try.dm_str110 : Dm.tStr Try.prog 110 = false := by kernel_rfl
@[simp] theorem Try.dm_bool110 : Dm.tBool Try.prog 110 = false := by kernel_rfl
@[simp] theorem Try.dm_sl110 : Dm.tSl Try.prog 110 = false := by kernel_rfl
@[simp] theorem Try.dm_ptr110 : Dm.tPtr Try.prog 110 = false := by kernel_rfl
@[simp] theorem Try.dm_zero110 : Dm.tZero Try.prog 110 = some [.int .i64 0] := by kernel_rfl
@[simp] theorem Try.dm_agg111 : Dm.tAgg Try.prog 111 = some true := by kernel_rfl
@[simp] theorem Try.dm_cells111 : Dm.tCells Try.prog 111 = some 3 := by kernel_rfl
@[simp] theorem Try.dm_und111 : (Program.underlying Try.prog 111).isSome = true := by kernel_rfl
@[simp] theorem Try.dm_str111 : Dm.tStr Try.prog 111 = false := by kernel_rfl
@[simp] theorem Try.dm_bool111 : Dm.tBool Try.prog 111 = false := by kernel_rfl
@[simp] theorem Try.dm_sl111 : Dm.tSl Try.prog 111 = false := by kernel_rfl
@[simp] theorem Try.dm_ptr111 : Dm.tPtr Try.prog 111 = false := by kernel_rfl
@[simp] theorem Try.dm_zero111 : Dm.tZero Try.prog 111 = some [.int .i64 0, .str ⟨#[]⟩, .int .i64 0] := by kernel_rfl
@[simp] theorem Try.dm_field111_0 : Dm.tField Try.prog 111 0 = some (0, 1, false) := by kernel_rfl
@[simp] theorem Try.dm_field111_1 : Dm.tField Try.prog 111 1 = some (1, 1, false) := by kernel_rfl
@[simp] theorem Try.dm_field111_2 : Dm.tField Try.prog 111 2 = some (2, 1, false) := by kernel_rfl
@[simp] theorem Try.dm_eqg111 : Program.eqGuardType Try.prog Try.prog.depth 111 = false := by kernel_rfl
@[simp] theorem Try.dm_flat111 : Dm.flat Try.prog 10000 111 = some [.i .i64, .s, .i .i64] := by kernel_rfl
@[simp] theorem Try.dm_parts111 : Dm.tParts Try.prog 111 = true := by kernel_rfl
@[simp] theorem Try.dm_agg112 : Dm.tAgg Try.prog 112 = some true := by kernel_rfl
@[simp] theorem Try.dm_cells112 : Dm.tCells Try.prog 112 = some 3 := by kernel_rfl
@[simp] theorem Try.dm_und112 : (Program.underlying Try.prog 112).isSome = true := by kernel_rfl
@[simp] theorem Try.dm_str112 : Dm.tStr Try.prog 112 = false := by kernel_rfl
@[simp] theorem Try.dm_bool112 : Dm.tBool Try.prog 112 = false := by kernel_rfl
@[simp] theorem Try.dm_sl112 : Dm.tSl Try.prog 112 = false := by kernel_rfl
@[simp] theorem Try.dm_ptr112 : Dm.tPtr Try.prog 112 = false := by kernel_rfl
@[simp] theorem Try.dm_zero112 : Dm.tZero Try.prog 112 = some [.int .i64 0, .str ⟨#[]⟩, .int .i64 0] := by kernel_rfl
@[simp] theorem Try.dm_field112_0 : Dm.tField Try.prog 112 0 = some (0, 1, false) := by kernel_rfl
@[simp] theorem Try.dm_field112_1 : Dm.tField Try.prog 112 1 = some (1, 1, false) := by kernel_rfl
@[simp] theorem Try.dm_field112_2 : Dm.tField Try.prog 112 2 = some (2, 1, false) := by kernel_rfl
@[simp] theorem Try.dm_eqg112 : Program.eqGuardType Try.prog Try.prog.depth 112 = false := by kernel_rfl
@[simp] theorem Try.dm_flat112 : Dm.flat Try.prog 10000 112 = some [.i .i64, .s, .i .i64] := by kernel_rfl
@[simp] theorem Try.dm_parts112 : Dm.tParts Try.prog 112 = true := by kernel_rfl
@[simp] theorem Try.dm_agg113 : Dm.tAgg Try.prog 113 = some false := by kernel_rfl
@[simp] theorem Try.dm_cells113 : Dm.tCells Try.prog 113 = some 1 := by kernel_rfl
@[simp] theorem Try.dm_und113 : (Program.underlying Try.prog 113).isSome = true := by kernel_rfl
@[simp] theorem Try.dm_str113 : Dm.tStr Try.prog 113 = false := by kernel_rfl
@[simp] theorem Try.dm_bool113 : Dm.tBool Try.prog 113 = false := by kernel_rfl
@[simp] theorem Try.dm_sl113 : Dm.tSl Try.prog 113 = false := by kernel_rfl
@[simp] theorem Try.dm_ptr113 : Dm.tPtr Try.prog 113 = false := by kernel_rfl
@[simp] theorem Try.dm_zero113 : Dm.tZero Try.prog 113 = some [.nilfn] := by kernel_rfl
@[simp] theorem Try.dm_agg114 : Dm.tAgg Try.prog 114 = some false := by kernel_rfl
@[simp] theorem Try.dm_cells114 : Dm.tCells Try.prog 114 = some 1 := by kernel_rfl
@[simp] theorem Try.dm_und114 : (Program.underlying Try.prog 114).isSome = true := by kernel_rfl
@[simp] theorem Try.dm_elem114 : Dm.tElem Try.prog 114 = some (3, 32) := by kernel_rfl
@[simp] theorem Try.dm_str114 : Dm.tStr Try.prog 114 = false := by kernel_rfl
@[simp] theorem Try.dm_bool114 : Dm.tBool Try.prog 114 = false := by kernel_rfl
@[simp] theorem Try.dm_sl114 : Dm.tSl Try.prog 114 = true := by kernel_rfl
@[simp] theorem Try.dm_ptr114 : Dm.tPtr Try.prog 114 = false := by kernel_rfl
@[simp] theorem Try.dm_zero114 : Dm.tZero Try.prog 114 = some [.nilsl] := by kernel_rfl
@[simp] theorem Try.dm_eid114 : Dm.tElemId Try.prog 114 = some 112 := by kernel_rfl
@[simp] theorem Try.dm_ez114 : Dm.tElemZ Try.prog 114 = true := by kernel_rfl
@[simp] theorem Try.dm_zok114 : Dm.zeroOK Try.prog 114 = true := by kernel_rfl
@[simp] theorem Try.dm_zsl114 : Dm.tZeroE Try.prog 114 = some [.int .i64 0, .str ⟨#[]⟩, .int .i64 0] := by kernel_rfl
@[simp] theorem Try.dm_agg115 : Dm.tAgg Try.prog 115 = some true := by kernel_rfl
@[simp] theorem Try.dm_cells115 : Dm.tCells Try.prog 115 = some 2 := by kernel_rfl
@[simp] theorem Try.dm_und115 : (Program.underlying Try.prog 115).isSome = true := by kernel_rfl
@[simp] theorem Try.dm_str115 : Dm.tStr Try.prog 115 = false := by kernel_rfl
@[simp] theorem Try.dm_bool115 : Dm.tBool Try.prog 115 = false := by kernel_rfl
@[simp] theorem Try.dm_sl115 : Dm.tSl Try.prog 115 = false := by kernel_rfl
@[simp] theorem Try.dm_ptr115 : Dm.tPtr Try.prog 115 = false := by kernel_rfl
@[simp] theorem Try.dm_zero115 : Dm.tZero Try.prog 115 = some [.str ⟨#[]⟩, .nilsl] := by kernel_rfl
@[simp] theorem Try.dm_field115_0 : Dm.tField Try.prog 115 0 = some (0, 1, false) := by kernel_rfl
@[simp] theorem Try.dm_field115_1 : Dm.tField Try.prog 115 1 = some (1, 1, false) := by kernel_rfl
@[simp] theorem Try.dm_parts115 : Dm.tParts Try.prog 115 = true := by kernel_rfl
@[simp] theorem Try.dm_agg116 : Dm.tAgg Try.prog 116 = some true := by kernel_rfl
@[simp] theorem Try.dm_cells116 : Dm.tCells Try.prog 116 = some 2 := by kernel_rfl
@[simp] theorem Try.dm_und116 : (Program.underlying Try.prog 116).isSome = true := by kernel_rfl
@[simp] theorem Try.dm_str116 : Dm.tStr Try.prog 116 = false := by kernel_rfl
@[simp] theorem Try.dm_bool116 : Dm.tBool Try.prog 116 = false := by kernel_rfl
@[simp] theorem Try.dm_sl116 : Dm.tSl Try.prog 116 = false := by kernel_rfl
@[simp] theorem Try.dm_ptr116 : Dm.tPtr Try.prog 116 = false := by kernel_rfl
@[simp] theorem Try.dm_zero116 : Dm.tZero Try.prog 116 = some [.str ⟨#[]⟩, .nilsl] := by kernel_rfl
@[simp] theorem Try.dm_field116_0 : Dm.tField Try.prog 116 0 = some (0, 1, false) := by kernel_rfl
@[simp] theorem Try.dm_field116_1 : Dm.tField Try.prog 116 1 = some (1, 1, false) := by kernel_rfl
@[simp] theorem Try.dm_parts116 : Dm.tParts Try.prog 116 = true := by kernel_rfl
@[simp] theorem Try.dm_agg117 : Dm.tAgg Try.prog 117 = some false := by kernel_rfl
@[simp] theorem Try.dm_cells117 : Dm.tCells Try.prog 117 = some 1 := by kernel_rfl
@[simp] theorem Try.dm_und117 : (Program.underlying Try.prog 117).isSome = true := by kernel_rfl
@[simp] theorem Try.dm_str117 : Dm.tStr Try.prog 117 = false := by kernel_rfl
@[simp] theorem Try.dm_bool117 : Dm.tBool Try.prog 117 = false := by kernel_rfl
@[simp] theorem Try.dm_sl117 : Dm.tSl Try.prog 117 = false := by kernel_rfl
@[simp] theorem Try.dm_ptr117 : Dm.tPtr Try.prog 117 = false := by kernel_rfl
@[simp] theorem Try.dm_zero117 : Dm.tZero Try.prog 117 = some [.nilfn] := by kernel_rfl
@[simp] theorem Try.dm_agg118 : Dm.tAgg Try.prog 118 = some false := by kernel_rfl
@[simp] theorem Try.dm_cells118 : Dm.tCells Try.prog 118 = some 1 := by kernel_rfl
@[simp] theorem Try.dm_und118 : (Program.underlying Try.prog 118).isSome = true := by kernel_rfl
@[simp] theorem Try.dm_str118 : Dm.tStr Try.prog 118 = false := by kernel_rfl
@[simp] theorem Try.dm_bool118 : Dm.tBool Try.prog 118 = false := by kernel_rfl
@[simp] theorem Try.dm_sl118 : Dm.tSl Try.prog 118 = false := by kernel_rfl
@[simp] theorem Try.dm_ptr118 : Dm.tPtr Try.prog 118 = false := by kernel_rfl
@[simp] theorem Try.dm_zero118 : Dm.tZero Try.prog 118 = some [.nilfn] := by kernel_rfl
@[simp] theorem Try.dm_agg119 : Dm.tAgg Try.prog 119 = some false := by kernel_rfl
@[simp] theorem Try.dm_cells119 : Dm.tCells Try.prog 119 = some 1 := by kernel_rfl
@[simp] theorem Try.dm_und119 : (Program.underlying Try.prog 119).isSome = true := by kernel_rfl
@[simp] theorem Try.dm_str119 : Dm.tStr Try.prog 119 = false := by kernel_rfl
@[simp] theorem Try.dm_bool119 : Dm.tBool Try.prog 119 = false := by kernel_rfl
@[simp] theorem Try.dm_sl119 : Dm.tSl Try.prog 119 = false := by kernel_rfl
@[simp] theorem Try.dm_ptr119 : Dm.tPtr Try.prog 119 = false := by kernel_rfl
@[simp] theorem Try.dm_zero119 : Dm.tZero Try.prog 119 = some [.nilfn] := by kernel_rfl
@[simp] theorem Try.dm_agg120 : Dm.tAgg Try.prog 120 = some false := by kernel_rfl
@[simp] theorem Try.dm_cells120 : Dm.tCells Try.prog 120 = some 1 := by kernel_rfl
@[simp] theorem Try.dm_und120 : (Program.underlying Try.prog 120).isSome = true := by kernel_rfl
@[simp] theorem Try.dm_str120 : Dm.tStr Try.prog 120 = false := by kernel_rfl
@[simp] theorem Try.dm_bool120 : Dm.tBool Try.prog 120 = false := by kernel_rfl
@[simp] theorem Try.dm_sl120 : Dm.tSl Try.prog 120 = false := by kernel_rfl
@[simp] theorem Try.dm_ptr120 : Dm.tPtr Try.prog 120 = true := by kernel_rfl
@[simp] theorem Try.dm_zero120 : Dm.tZero Try.prog 120 = some [.nilp] := by kernel_rfl
@[simp] theorem Try.dm_agg121 : Dm.tAgg Try.prog 121 = some false := by kernel_rfl
@[simp] theorem Try.dm_cells121 : Dm.tCells Try.prog 121 = some 1 := by kernel_rfl
@[simp] theorem Try.dm_und121 : (Program.underlying Try.prog 121).isSome = true := by kernel_rfl
@[simp] theorem Try.dm_str121 : Dm.tStr Try.prog 121 = false := by kernel_rfl
@[simp] theorem Try.dm_bool121 : Dm.tBool Try.prog 121 = false := by kernel_rfl
@[simp] theorem Try.dm_sl121 : Dm.tSl Try.prog 121 = false := by kernel_rfl
@[simp] theorem Try.dm_ptr121 : Dm.tPtr Try.prog 121 = false := by kernel_rfl
@[simp] theorem Try.dm_zero121 : Dm.tZero Try.prog 121 = some [.nilfn] := by kernel_rfl
@[simp] theorem Try.dm_agg122 : Dm.tAgg Try.prog 122 = some false := by kernel_rfl
@[simp] theorem Try.dm_cells122 : Dm.tCells Try.prog 122 = some 1 := by kernel_rfl
@[simp] theorem Try.dm_und122 : (Program.underlying Try.prog 122).isSome = true := by kernel_rfl
@[simp] theorem Try.dm_str122 : Dm.tStr Try.prog 122 = false := by kernel_rfl
@[simp] theorem Try.dm_bool122 : Dm.tBool Try.prog 122 = false := by kernel_rfl
@[simp] theorem Try.dm_sl122 : Dm.tSl Try.prog 122 = false := by kernel_rfl
@[simp] theorem Try.dm_ptr122 : Dm.tPtr Try.prog 122 = false := by kernel_rfl
@[simp] theorem Try.dm_zero122 : Dm.tZero Try.prog 122 = some [.nilfn] := by kernel_rfl
@[simp] theorem Try.dm_agg123 : Dm.tAgg Try.prog 123 = some false := by kernel_rfl
@[simp] theorem Try.dm_cells123 : Dm.tCells Try.prog 123 = some 1 := by kernel_rfl
@[simp] theorem Try.dm_und123 : (Program.underlying Try.prog 123).isSome = true := by kernel_rfl
@[simp] theorem Try.dm_str123 : Dm.tStr Try.prog 123 = false := by kernel_rfl
@[simp] theorem Try.dm_bool123 : Dm.tBool Try.prog 123 = false := by kernel_rfl
@[simp] theorem Try.dm_sl123 : Dm.tSl Try.prog 123 = false := by kernel_rfl
@[simp] theorem Try.dm_ptr123 : Dm.tPtr Try.prog 123 = false := by kernel_rfl
@[simp] theorem Try.dm_zero123 : Dm.tZero Try.prog 123 = some [.nilfn] := by kernel_rfl
@[simp] theorem Try.dm_agg124 : Dm.tAgg Try.prog 124 = some false := by kernel_rfl
@[simp] theorem Try.dm_cells124 : Dm.tCells Try.prog 124 = some 1 := by kernel_rfl
@[simp] theorem Try.dm_und124 : (Program.underlying Try.prog 124).isSome = true := by kernel_rfl
@[simp] theorem Try.dm_str124 : Dm.tStr Try.prog 124 = false := by kernel_rfl
@[simp] theorem Try.dm_bool124 : Dm.tBool Try.prog 124 = false := by kernel_rfl
@[simp] theorem Try.dm_sl124 : Dm.tSl Try.prog 124 = false := by kernel_rfl
@[simp] theorem Try.dm_ptr124 : Dm.tPtr Try.prog 124 = false := by kernel_rfl
@[simp] theorem Try.dm_zero124 : Dm.tZero Try.prog 124 = some [.nilfn] := by kernel_rfl
@[simp] theorem Try.dm_agg125 : Dm.tAgg Try.prog 125 = some false := by kernel_rfl
@[simp] theorem Try.dm_cells125 : Dm.tCells Try.prog 125 = some 1 := by kernel_rfl
@[simp] theorem Try.dm_und125 : (Program.underlying Try.prog 125).isSome = true := by kernel_rfl
@[simp] theorem Try.dm_elem125 : Dm.tElem Try.prog 125 = some (4, 32) := by kernel_rfl
@[simp] theorem Try.dm_str125 : Dm.tStr Try.prog 125 = false := by kernel_rfl
@[simp] theorem Try.dm_bool125 : Dm.tBool Try.prog 125 = false := by kernel_rfl
@[simp] theorem Try.dm_sl125 : Dm.tSl Try.prog 125 = true := by kernel_rfl
@[simp] theorem Try.dm_ptr125 : Dm.tPtr Try.prog 125 = false := by kernel_rfl
@[simp] theorem Try.dm_zero125 : Dm.tZero Try.prog 125 = some [.nilsl] := by kernel_rfl
@[simp] theorem Try.dm_eid125 : Dm.tElemId Try.prog 125 = some 128 := by kernel_rfl
@[simp] theorem Try.dm_ez125 : Dm.tElemZ Try.prog 125 = true := by kernel_rfl
@[simp] theorem Try.dm_zok125 : Dm.zeroOK Try.prog 125 = true := by kernel_rfl
@[simp] theorem Try.dm_zsl125 : Dm.tZeroE Try.prog 125 = some [.int .i64 0, .bool false, .int .i64 0, .int .i64 0] := by kernel_rfl
@[simp] theorem Try.dm_agg126 : Dm.tAgg Try.prog 126 = some false := by kernel_rfl
@[simp] theorem Try.dm_cells126 : Dm.tCells Try.prog 126 = some 1 := by kernel_rfl
@[simp] theorem Try.dm_und126 : (Program.underlying Try.prog 126).isSome = true := by kernel_rfl
@[simp] theorem Try.dm_str126 : Dm.tStr Try.prog 126 = false := by kernel_rfl
@[simp] theorem Try.dm_bool126 : Dm.tBool Try.prog 126 = false := by kernel_rfl
@[simp] theorem Try.dm_sl126 : Dm.tSl Try.prog 126 = false := by kernel_rfl
@[simp] theorem Try.dm_ptr126 : Dm.tPtr Try.prog 126 = false := by kernel_rfl
@[simp] theorem Try.dm_zero126 : Dm.tZero Try.prog 126 = some [.nilfn] := by kernel_rfl
@[simp] theorem Try.dm_agg127 : Dm.tAgg Try.prog 127 = some true := by kernel_rfl
@[simp] theorem Try.dm_cells127 : Dm.tCells Try.prog 127 = some 4 := by kernel_rfl
@[simp] theorem Try.dm_und127 : (Program.underlying Try.prog 127).isSome = true := by kernel_rfl
@[simp] theorem Try.dm_str127 : Dm.tStr Try.prog 127 = false := by kernel_rfl
@[simp] theorem Try.dm_bool127 : Dm.tBool Try.prog 127 = false := by kernel_rfl
@[simp] theorem Try.dm_sl127 : Dm.tSl Try.prog 127 = false := by kernel_rfl
@[simp] theorem Try.dm_ptr127 : Dm.tPtr Try.prog 127 = false := by kernel_rfl
@[simp] theorem Try.dm_zero127 : Dm.tZero Try.prog 127 = some [.int .i64 0, .bool false, .int .i64 0, .int .i64 0] := by kernel_rfl
@[simp] theorem Try.dm_field127_0 : Dm.tField Try.prog 127 0 = some (0, 1, false) := by kernel_rfl
@[simp] theorem Try.dm_field127_1 : Dm.tField Try.prog 127 1 = some (1, 2, true) := by kernel_rfl
@[simp] theorem Try.dm_field127_2 : Dm.tField Try.prog 127 2 = some (3, 1, false) := by kernel_rfl
@[simp] theorem Try.dm_eqg127 : Program.eqGuardType Try.prog Try.prog.depth 127 = false := by kernel_rfl
@[simp] theorem Try.dm_flat127 : Dm.flat Try.prog 10000 127 = some [.i .i64, .b, .i .i64, .i .i64] := by kernel_rfl
@[simp] theorem Try.dm_parts127 : Dm.tParts Try.prog 127 = true := by kernel_rfl
@[simp] theorem Try.dm_agg128 : Dm.tAgg Try.prog 128 = some true := by kernel_rfl
@[simp] theorem Try.dm_cells128 : Dm.tCells Try.prog 128 = some 4 := by kernel_rfl
@[simp] theorem Try.dm_und128 : (Program.underlying Try.prog 128).isSome = true := by kernel_rfl
@[simp] theorem Try.dm_str128 : Dm.tStr Try.prog 128 = false := by kernel_rfl
@[simp] theorem Try.dm_bool128 : Dm.tBool Try.prog 128 = false := by kernel_rfl
@[simp] theorem Try.dm_sl128 : Dm.tSl Try.prog 128 = false := by kernel_rfl
@[simp] theorem Try.dm_ptr128 : Dm.tPtr Try.prog 128 = false := by kernel_rfl
@[simp] theorem Try.dm_zero128 : Dm.tZero Try.prog 128 = some [.int .i64 0, .bool false, .int .i64 0, .int .i64 0] := by kernel_rfl
@[simp] theorem Try.dm_field128_0 : Dm.tField Try.prog 128 0 = some (0, 1, false) := by kernel_rfl
@[simp] theorem Try.dm_field128_1 : Dm.tField Try.prog 128 1 = some (1, 2, true) := by kernel_rfl
@[simp] theorem Try.dm_field128_2 : Dm.tField Try.prog 128 2 = some (3, 1, false) := by kernel_rfl
@[simp] theorem Try.dm_eqg128 : Program.eqGuardType Try.prog Try.prog.depth 128 = false := by kernel_rfl
@[simp] theorem Try.dm_flat128 : Dm.flat Try.prog 10000 128 = some [.i .i64, .b, .i .i64, .i .i64] := by kernel_rfl
@[simp] theorem Try.dm_parts128 : Dm.tParts Try.prog 128 = true := by kernel_rfl
@[simp] theorem Try.dm_agg129 : Dm.tAgg Try.prog 129 = some false := by kernel_rfl
@[simp] theorem Try.dm_cells129 : Dm.tCells Try.prog 129 = some 1 := by kernel_rfl
@[simp] theorem Try.dm_und129 : (Program.underlying Try.prog 129).isSome = true := by kernel_rfl
@[simp] theorem Try.dm_str129 : Dm.tStr Try.prog 129 = false := by kernel_rfl
@[simp] theorem Try.dm_bool129 : Dm.tBool Try.prog 129 = false := by kernel_rfl
@[simp] theorem Try.dm_sl129 : Dm.tSl Try.prog 129 = false := by kernel_rfl
@[simp] theorem Try.dm_ptr129 : Dm.tPtr Try.prog 129 = false := by kernel_rfl
@[simp] theorem Try.dm_zero129 : Dm.tZero Try.prog 129 = some [.nilfn] := by kernel_rfl
@[simp] theorem Try.dm_agg130 : Dm.tAgg Try.prog 130 = some false := by kernel_rfl
@[simp] theorem Try.dm_cells130 : Dm.tCells Try.prog 130 = some 1 := by kernel_rfl
@[simp] theorem Try.dm_und130 : (Program.underlying Try.prog 130).isSome = true := by kernel_rfl
@[simp] theorem Try.dm_str130 : Dm.tStr Try.prog 130 = false := by kernel_rfl
@[simp] theorem Try.dm_bool130 : Dm.tBool Try.prog 130 = false := by kernel_rfl
@[simp] theorem Try.dm_sl130 : Dm.tSl Try.prog 130 = false := by kernel_rfl
@[simp] theorem Try.dm_ptr130 : Dm.tPtr Try.prog 130 = false := by kernel_rfl
@[simp] theorem Try.dm_zero130 : Dm.tZero Try.prog 130 = some [.nilfn] := by kernel_rfl
@[simp] theorem Try.dm_agg131 : Dm.tAgg Try.prog 131 = some false := by kernel_rfl
@[simp] theorem Try.dm_cells131 : Dm.tCells Try.prog 131 = some 1 := by kernel_rfl
@[simp] theorem Try.dm_und131 : (Program.underlying Try.prog 131).isSome = true := by kernel_rfl
@[simp] theorem Try.dm_str131 : Dm.tStr Try.prog 131 = false := by kernel_rfl
@[simp] theorem Try.dm_bool131 : Dm.tBool Try.prog 131 = false := by kernel_rfl
@[simp] theorem Try.dm_sl131 : Dm.tSl Try.prog 131 = false := by kernel_rfl
@[simp] theorem Try.dm_ptr131 : Dm.tPtr Try.prog 131 = false := by kernel_rfl
@[simp] theorem Try.dm_zero131 : Dm.tZero Try.prog 131 = some [.nilfn] := by kernel_rfl
@[simp] theorem Try.dm_agg132 : Dm.tAgg Try.prog 132 = some false := by kernel_rfl
@[simp] theorem Try.dm_cells132 : Dm.tCells Try.prog 132 = some 1 := by kernel_rfl
@[simp] theorem Try.dm_und132 : (Program.underlying Try.prog 132).isSome = true := by kernel_rfl
@[simp] theorem Try.dm_str132 : Dm.tStr Try.prog 132 = false := by kernel_rfl
@[simp] theorem Try.dm_bool132 : Dm.tBool Try.prog 132 = false := by kernel_rfl
@[simp] theorem Try.dm_sl132 : Dm.tSl Try.prog 132 = false := by kernel_rfl
@[simp] theorem Try.dm_ptr132 : Dm.tPtr Try.prog 132 = false := by kernel_rfl
@[simp] theorem Try.dm_zero132 : Dm.tZero Try.prog 132 = some [.nilfn] := by kernel_rfl
@[simp] theorem Try.dm_agg134 : Dm.tAgg Try.prog 134 = some false := by kernel_rfl
@[simp] theorem Try.dm_cells134 : Dm.tCells Try.prog 134 = some 1 := by kernel_rfl
@[simp] theorem Try.dm_und134 : (Program.underlying Try.prog 134).isSome = true := by kernel_rfl
@[simp] theorem Try.dm_str134 : Dm.tStr Try.prog 134 = false := by kernel_rfl
@[simp] theorem Try.dm_bool134 : Dm.tBool Try.prog 134 = false := by kernel_rfl
@[simp] theorem Try.dm_sl134 : Dm.tSl Try.prog 134 = false := by kernel_rfl
@[simp] theorem Try.dm_ptr134 : Dm.tPtr Try.prog 134 = false := by kernel_rfl
@[simp] theorem Try.dm_zero134 : Dm.tZero Try.prog 134 = some [.nilfn] := by kernel_rfl
@[simp] theorem Try.dm_agg135 : Dm.tAgg Try.prog 135 = some false := by kernel_rfl
@[simp] theorem Try.dm_cells135 : Dm.tCells Try.prog 135 = some 1 := by kernel_rfl
@[simp] theorem Try.dm_und135 : (Program.underlying Try.prog 135).isSome = true := by kernel_rfl
@[simp] theorem Try.dm_str135 : Dm.tStr Try.prog 135 = false := by kernel_rfl
@[simp] theorem Try.dm_bool135 : Dm.tBool Try.prog 135 = false := by kernel_rfl
@[simp] theorem Try.dm_sl135 : Dm.tSl Try.prog 135 = false := by kernel_rfl
@[simp] theorem Try.dm_ptr135 : Dm.tPtr Try.prog 135 = false := by kernel_rfl
@[simp] theorem Try.dm_zero135 : Dm.tZero Try.prog 135 = some [.nilfn] := by kernel_rfl
@[simp] theorem Try.dm_agg136 : Dm.tAgg Try.prog 136 = some false := by kernel_rfl
@[simp] theorem Try.dm_cells136 : Dm.tCells Try.prog 136 = some 1 := by kernel_rfl
@[simp] theorem Try.dm_und136 : (Program.underlying Try.prog 136).isSome = true := by kernel_rfl
@[simp] theorem Try.dm_str136 : Dm.tStr Try.prog 136 = false := by kernel_rfl
@[simp] theorem Try.dm_bool136 : Dm.tBool Try.prog 136 = false := by kernel_rfl
@[simp] theorem Try.dm_sl136 : Dm.tSl Try.prog 136 = false := by kernel_rfl
@[simp] theorem Try.dm_ptr136 : Dm.tPtr Try.prog 136 = false := by kernel_rfl
@[simp] theorem Try.dm_zero136 : Dm.tZero Try.prog 136 = some [.nilfn] := by kernel_rfl
@[simp] theorem Try.dm_agg137 : Dm.tAgg Try.prog 137 = some false := by kernel_rfl
@[simp] theorem Try.dm_cells137 : Dm.tCells Try.prog 137 = some 1 := by kernel_rfl
@[simp] theorem Try.dm_und137 : (Program.underlying Try.prog 137).isSome = true := by kernel_rfl
@[simp] theorem Try.dm_str137 : Dm.tStr Try.prog 137 = false := by kernel_rfl
@[simp] theorem Try.dm_bool137 : Dm.tBool Try.prog 137 = false := by kernel_rfl
@[simp] theorem Try.dm_sl137 : Dm.tSl Try.prog 137 = false := by kernel_rfl
@[simp] theorem Try.dm_ptr137 : Dm.tPtr Try.prog 137 = false := by kernel_rfl
@[simp] theorem Try.dm_zero137 : Dm.tZero Try.prog 137 = some [.nilfn] := by kernel_rfl
@[simp] theorem Try.dm_agg138 : Dm.tAgg Try.prog 138 = some false := by kernel_rfl
@[simp] theorem Try.dm_cells138 : Dm.tCells Try.prog 138 = some 1 := by kernel_rfl
@[simp] theorem Try.dm_und138 : (Program.underlying Try.prog 138).isSome = true := by kernel_rfl
@[simp] theorem Try.dm_str138 : Dm.tStr Try.prog 138 = false := by kernel_rfl
@[simp] theorem Try.dm_bool138 : Dm.tBool Try.prog 138 = false := by kernel_rfl
@[simp] theorem Try.dm_sl138 : Dm.tSl Try.prog 138 = false := by kernel_rfl
@[simp] theorem Try.dm_ptr138 : Dm.tPtr Try.prog 138 = false := by kernel_rfl
@[simp] theorem Try.dm_zero138 : Dm.tZero Try.prog 138 = some [.nilfn] := by kernel_rfl
@[simp] theorem Try.dm_agg139 : Dm.tAgg Try.prog 139 = some false := by kernel_rfl
@[simp] theorem Try.dm_cells139 : Dm.tCells Try.prog 139 = some 1 := by kernel_rfl
@[simp] theorem Try.dm_und139 : (Program.underlying Try.prog 139).isSome = true := by kernel_rfl
@[simp] theorem Try.dm_str139 : Dm.tStr Try.prog 139 = false := by kernel_rfl
@[simp] theorem Try.dm_bool139 : Dm.tBool Try.prog 139 = false := by kernel_rfl
@[simp] theorem Try.dm_sl139 : Dm.tSl Try.prog 139 = false := by kernel_rfl
@[simp] theorem Try.dm_ptr139 : Dm.tPtr Try.prog 139 = false := by kernel_rfl
@[simp] theorem Try.dm_zero139 : Dm.tZero Try.prog 139 = some [.nilfn] := by kernel_rfl
@[simp] theorem Try.dm_agg140 : Dm.tAgg Try.prog 140 = some false := by kernel_rfl
@[simp] theorem Try.dm_cells140 : Dm.tCells Try.prog 140 = some 1 := by kernel_rfl
@[simp] theorem Try.dm_und140 : (Program.underlying Try.prog 140).isSome = true := by kernel_rfl
@[simp] theorem Try.dm_elem140 : Dm.tElem Try.prog 140 = some (1, 8) := by kernel_rfl
@[simp] theorem Try.dm_str140 : Dm.tStr Try.prog 140 = false := by kernel_rfl
@[simp] theorem Try.dm_bool140 : Dm.tBool Try.prog 140 = false := by kernel_rfl
@[simp] theorem Try.dm_sl140 : Dm.tSl Try.prog 140 = true := by kernel_rfl
@[simp] theorem Try.dm_ptr140 : Dm.tPtr Try.prog 140 = false := by kernel_rfl
@[simp] theorem Try.dm_zero140 : Dm.tZero Try.prog 140 = some [.nilsl] := by kernel_rfl
@[simp] theorem Try.dm_eid140 : Dm.tElemId Try.prog 140 = some 96 := by kernel_rfl
@[simp] theorem Try.dm_ez140 : Dm.tElemZ Try.prog 140 = true := by kernel_rfl
@[simp] theorem Try.dm_zok140 : Dm.zeroOK Try.prog 140 = true := by kernel_rfl
@[simp] theorem Try.dm_zsl140 : Dm.tZeroE Try.prog 140 = some [.nilfn] := by kernel_rfl
@[simp] theorem Try.dm_agg141 : Dm.tAgg Try.prog 141 = some false := by kernel_rfl
@[simp] theorem Try.dm_cells141 : Dm.tCells Try.prog 141 = some 1 := by kernel_rfl
@[simp] theorem Try.dm_und141 : (Program.underlying Try.prog 141).isSome = true := by kernel_rfl
@[simp] theorem Try.dm_str141 : Dm.tStr Try.prog 141 = false := by kernel_rfl
@[simp] theorem Try.dm_bool141 : Dm.tBool Try.prog 141 = false := by kernel_rfl
@[simp] theorem Try.dm_sl141 : Dm.tSl Try.prog 141 = false := by kernel_rfl
@[simp] theorem Try.dm_ptr141 : Dm.tPtr Try.prog 141 = false := by kernel_rfl
@[simp] theorem Try.dm_zero141 : Dm.tZero Try.prog 141 = some [.nilfn] := by kernel_rfl
@[simp] theorem Try.dm_agg142 : Dm.tAgg Try.prog 142 = some false := by kernel_rfl
@[simp] theorem Try.dm_cells142 : Dm.tCells Try.prog 142 = some 1 := by kernel_rfl
@[simp] theorem Try.dm_und142 : (Program.underlying Try.prog 142).isSome = true := by kernel_rfl
@[simp] theorem Try.dm_str142 : Dm.tStr Try.prog 142 = false := by kernel_rfl
@[simp] theorem Try.dm_bool142 : Dm.tBool Try.prog 142 = false := by kernel_rfl
@[simp] theorem Try.dm_sl142 : Dm.tSl Try.prog 142 = false := by kernel_rfl
@[simp] theorem Try.dm_ptr142 : Dm.tPtr Try.prog 142 = false := by kernel_rfl
@[simp] theorem Try.dm_zero142 : Dm.tZero Try.prog 142 = some [.nilfn] := by kernel_rfl
@[simp] theorem Try.dm_agg143 : Dm.tAgg Try.prog 143 = some false := by kernel_rfl
@[simp] theorem Try.dm_cells143 : Dm.tCells Try.prog 143 = some 1 := by kernel_rfl
@[simp] theorem Try.dm_und143 : (Program.underlying Try.prog 143).isSome = true := by kernel_rfl
@[simp] theorem Try.dm_str143 : Dm.tStr Try.prog 143 = false := by kernel_rfl
@[simp] theorem Try.dm_bool143 : Dm.tBool Try.prog 143 = false := by kernel_rfl
@[simp] theorem Try.dm_sl143 : Dm.tSl Try.prog 143 = false := by kernel_rfl
@[simp] theorem Try.dm_ptr143 : Dm.tPtr Try.prog 143 = false := by kernel_rfl
@[simp] theorem Try.dm_zero143 : Dm.tZero Try.prog 143 = some [.nilfn] := by kernel_rfl
@[simp] theorem Try.dm_agg144 : Dm.tAgg Try.prog 144 = some false := by kernel_rfl
@[simp] theorem Try.dm_cells144 : Dm.tCells Try.prog 144 = some 1 := by kernel_rfl
@[simp] theorem Try.dm_und144 : (Program.underlying Try.prog 144).isSome = true := by kernel_rfl
@[simp] theorem Try.dm_elem144 : Dm.tElem Try.prog 144 = some (1, 24) := by kernel_rfl
@[simp] theorem Try.dm_str144 : Dm.tStr Try.prog 144 = false := by kernel_rfl
@[simp] theorem Try.dm_bool144 : Dm.tBool Try.prog 144 = false := by kernel_rfl
@[simp] theorem Try.dm_sl144 : Dm.tSl Try.prog 144 = true := by kernel_rfl
@[simp] theorem Try.dm_ptr144 : Dm.tPtr Try.prog 144 = false := by kernel_rfl
@[simp] theorem Try.dm_zero144 : Dm.tZero Try.prog 144 = some [.nilsl] := by kernel_rfl
@[simp] theorem Try.dm_eid144 : Dm.tElemId Try.prog 144 = some 51 := by kernel_rfl
@[simp] theorem Try.dm_ez144 : Dm.tElemZ Try.prog 144 = true := by kernel_rfl
@[simp] theorem Try.dm_zok144 : Dm.zeroOK Try.prog 144 = true := by kernel_rfl
@[simp] theorem Try.dm_zsl144 : Dm.tZeroE Try.prog 144 = some [.nilsl] := by kernel_rfl
@[simp] theorem Try.dm_agg145 : Dm.tAgg Try.prog 145 = some false := by kernel_rfl
@[simp] theorem Try.dm_cells145 : Dm.tCells Try.prog 145 = some 1 := by kernel_rfl
@[simp] theorem Try.dm_und145 : (Program.underlying Try.prog 145).isSome = true := by kernel_rfl
@[simp] theorem Try.dm_str145 : Dm.tStr Try.prog 145 = false := by kernel_rfl
@[simp] theorem Try.dm_bool145 : Dm.tBool Try.prog 145 = false := by kernel_rfl
@[simp] theorem Try.dm_sl145 : Dm.tSl Try.prog 145 = false := by kernel_rfl
@[simp] theorem Try.dm_ptr145 : Dm.tPtr Try.prog 145 = false := by kernel_rfl
@[simp] theorem Try.dm_zero145 : Dm.tZero Try.prog 145 = some [.nilfn] := by kernel_rfl
@[simp] theorem Try.dm_agg146 : Dm.tAgg Try.prog 146 = some false := by kernel_rfl
@[simp] theorem Try.dm_cells146 : Dm.tCells Try.prog 146 = some 1 := by kernel_rfl
@[simp] theorem Try.dm_und146 : (Program.underlying Try.prog 146).isSome = true := by kernel_rfl
@[simp] theorem Try.dm_str146 : Dm.tStr Try.prog 146 = false := by kernel_rfl
@[simp] theorem Try.dm_bool146 : Dm.tBool Try.prog 146 = false := by kernel_rfl
@[simp] theorem Try.dm_sl146 : Dm.tSl Try.prog 146 = false := by kernel_rfl
@[simp] theorem Try.dm_ptr146 : Dm.tPtr Try.prog 146 = false := by kernel_rfl
@[simp] theorem Try.dm_zero146 : Dm.tZero Try.prog 146 = some [.nilfn] := by kernel_rfl
@[simp] theorem Try.dm_agg147 : Dm.tAgg Try.prog 147 = some false := by kernel_rfl
@[simp] theorem Try.dm_cells147 : Dm.tCells Try.prog 147 = some 1 := by kernel_rfl
@[simp] theorem Try.dm_und147 : (Program.underlying Try.prog 147).isSome = true := by kernel_rfl
@[simp] theorem Try.dm_str147 : Dm.tStr Try.prog 147 = false := by kernel_rfl
@[simp] theorem Try.dm_bool147 : Dm.tBool Try.prog 147 = false := by kernel_rfl
@[simp] theorem Try.dm_sl147 : Dm.tSl Try.prog 147 = false := by kernel_rfl
@[simp] theorem Try.dm_ptr147 : Dm.tPtr Try.prog 147 = false := by kernel_rfl
@[simp] theorem Try.dm_zero147 : Dm.tZero Try.prog 147 = some [.nilfn] := by kernel_rfl
@[simp] theorem Try.dm_agg148 : Dm.tAgg Try.prog 148 = some false := by kernel_rfl
@[simp] theorem Try.dm_cells148 : Dm.tCells Try.prog 148 = some 1 := by kernel_rfl
@[simp] theorem Try.dm_und148 : (Program.underlying Try.prog 148).isSome = true := by kernel_rfl
@[simp] theorem Try.dm_int148 : Dm.tInt Try.prog 148 = some .u64 := by kernel_rfl
@[simp] theorem Try.dm_str148 : Dm.tStr Try.prog 148 = false := by kernel_rfl
@[simp] theorem Try.dm_bool148 : Dm.tBool Try.prog 148 = false := by kernel_rfl
@[simp] theorem Try.dm_sl148 : Dm.tSl Try.prog 148 = false := by kernel_rfl
@[simp] theorem Try.dm_ptr148 : Dm.tPtr Try.prog 148 = false := by kernel_rfl
@[simp] theorem Try.dm_zero148 : Dm.tZero Try.prog 148 = some [.int .u64 0] := by kernel_rfl
@[simp] theorem Try.dm_agg150 : Dm.tAgg Try.prog 150 = some false := by kernel_rfl
@[simp] theorem Try.dm_cells150 : Dm.tCells Try.prog 150 = some 1 := by kernel_rfl
@[simp] theorem Try.dm_und150 : (Program.underlying Try.prog 150).isSome = true := by kernel_rfl
@[simp] theorem Try.dm_str150 : Dm.tStr Try.prog 150 = false := by kernel_rfl
@[simp] theorem Try.dm_bool150 : Dm.tBool Try.prog 150 = false := by kernel_rfl
@[simp] theorem Try.dm_sl150 : Dm.tSl Try.prog 150 = false := by kernel_rfl
@[simp] theorem Try.dm_ptr150 : Dm.tPtr Try.prog 150 = false := by kernel_rfl
@[simp] theorem Try.dm_zero150 : Dm.tZero Try.prog 150 = some [.nilfn] := by kernel_rfl
@[simp] theorem Try.dm_agg151 : Dm.tAgg Try.prog 151 = some false := by kernel_rfl
@[simp] theorem Try.dm_cells151 : Dm.tCells Try.prog 151 = some 1 := by kernel_rfl
@[simp] theorem Try.dm_und151 : (Program.underlying Try.prog 151).isSome = true := by kernel_rfl
@[simp] theorem Try.dm_str151 : Dm.tStr Try.prog 151 = false := by kernel_rfl
@[simp] theorem Try.dm_bool151 : Dm.tBool Try.prog 151 = false := by kernel_rfl
@[simp] theorem Try.dm_sl151 : Dm.tSl Try.prog 151 = false := by kernel_rfl
@[simp] theorem Try.dm_ptr151 : Dm.tPtr Try.prog 151 = false := by kernel_rfl
@[simp] theorem Try.dm_zero151 : Dm.tZero Try.prog 151 = some [.nilfn] := by kernel_rfl
@[simp] theorem Try.dm_agg152 : Dm.tAgg Try.prog 152 = some false := by kernel_rfl
@[simp] theorem Try.dm_cells152 : Dm.tCells Try.prog 152 = some 1 := by kernel_rfl
@[simp] theorem Try.dm_und152 : (Program.underlying Try.prog 152).isSome = true := by kernel_rfl
@[simp] theorem Try.dm_str152 : Dm.tStr Try.prog 152 = false := by kernel_rfl
@[simp] theorem Try.dm_bool152 : Dm.tBool Try.prog 152 = false := by kernel_rfl
@[simp] theorem Try.dm_sl152 : Dm.tSl Try.prog 152 = false := by kernel_rfl
@[simp] theorem Try.dm_ptr152 : Dm.tPtr Try.prog 152 = false := by kernel_rfl
@[simp] theorem Try.dm_zero152 : Dm.tZero Try.prog 152 = some [.nilfn] := by kernel_rfl
@[simp] theorem Try.dm_agg153 : Dm.tAgg Try.prog 153 = some false := by kernel_rfl
@[simp] theorem Try.dm_cells153 : Dm.tCells Try.prog 153 = some 1 := by kernel_rfl
@[simp] theorem Try.dm_und153 : (Program.underlying Try.prog 153).isSome = true := by kernel_rfl
@[simp] theorem Try.dm_str153 : Dm.tStr Try.prog 153 = false := by kernel_rfl
@[simp] theorem Try.dm_bool153 : Dm.tBool Try.prog 153 = false := by kernel_rfl
@[simp] theorem Try.dm_sl153 : Dm.tSl Try.prog 153 = false := by kernel_rfl
@[simp] theorem Try.dm_ptr153 : Dm.tPtr Try.prog 153 = true := by kernel_rfl
@[simp] theorem Try.dm_zero153 : Dm.tZero Try.prog 153 = some [.nilp] := by kernel_rfl
@[simp] theorem Try.dm_agg154 : Dm.tAgg Try.prog 154 = some false := by kernel_rfl
@[simp] theorem Try.dm_cells154 : Dm.tCells Try.prog 154 = some 1 := by kernel_rfl
@[simp] theorem Try.dm_und154 : (Program.underlying Try.prog 154).isSome = true := by kernel_rfl
@[simp] theorem Try.dm_elem154 : Dm.tElem Try.prog 154 = some (4, 64) := by kernel_rfl
@[simp] theorem Try.dm_str154 : Dm.tStr Try.prog 154 = false := by kernel_rfl
@[simp] theorem Try.dm_bool154 : Dm.tBool Try.prog 154 = false := by kernel_rfl
@[simp] theorem Try.dm_sl154 : Dm.tSl Try.prog 154 = true := by kernel_rfl
@[simp] theorem Try.dm_ptr154 : Dm.tPtr Try.prog 154 = false := by kernel_rfl
@[simp] theorem Try.dm_zero154 : Dm.tZero Try.prog 154 = some [.nilsl] := by kernel_rfl
@[simp] theorem Try.dm_eid154 : Dm.tElemId Try.prog 154 = some 161 := by kernel_rfl
@[simp] theorem Try.dm_ez154 : Dm.tElemZ Try.prog 154 = true := by kernel_rfl
@[simp] theorem Try.dm_zok154 : Dm.zeroOK Try.prog 154 = true := by kernel_rfl
@[simp] theorem Try.dm_zsl154 : Dm.tZeroE Try.prog 154 = some [.int .i64 0, .nilsl, .nilsl, .int .i64 0] := by kernel_rfl
@[simp] theorem Try.dm_agg155 : Dm.tAgg Try.prog 155 = some true := by kernel_rfl
@[simp] theorem Try.dm_cells155 : Dm.tCells Try.prog 155 = some 3 := by kernel_rfl
@[simp] theorem Try.dm_und155 : (Program.underlying Try.prog 155).isSome = true := by kernel_rfl
@[simp] theorem Try.dm_str155 : Dm.tStr Try.prog 155 = false := by kernel_rfl
@[simp] theorem Try.dm_bool155 : Dm.tBool Try.prog 155 = false := by kernel_rfl
@[simp] theorem Try.dm_sl155 : Dm.tSl Try.prog 155 = false := by kernel_rfl
@[simp] theorem Try.dm_ptr155 : Dm.tPtr Try.prog 155 = false := by kernel_rfl
@[simp] theorem Try.dm_zero155 : Dm.tZero Try.prog 155 = some [.nilp, .nilsl, .int .i64 0] := by kernel_rfl
@[simp] theorem Try.dm_field155_0 : Dm.tField Try.prog 155 0 = some (0, 1, false) := by kernel_rfl
@[simp] theorem Try.dm_field155_1 : Dm.tField Try.prog 155 1 = some (1, 1, false) := by kernel_rfl
@[simp] theorem Try.dm_field155_2 : Dm.tField Try.prog 155 2 = some (2, 1, false) := by kernel_rfl
@[simp] theorem Try.dm_parts155 : Dm.tParts Try.prog 155 = true := by kernel_rfl
@[simp] theorem Try.dm_agg156 : Dm.tAgg Try.prog 156 = some true := by kernel_rfl
@[simp] theorem Try.dm_cells156 : Dm.tCells Try.prog 156 = some 3 := by kernel_rfl
@[simp] theorem Try.dm_und156 : (Program.underlying Try.prog 156).isSome = true := by kernel_rfl
@[simp] theorem Try.dm_str156 : Dm.tStr Try.prog 156 = false := by kernel_rfl
@[simp] theorem Try.dm_bool156 : Dm.tBool Try.prog 156 = false := by kernel_rfl
@[simp] theorem Try.dm_sl156 : Dm.tSl Try.prog 156 = false := by kernel_rfl
@[simp] theorem Try.dm_ptr156 : Dm.tPtr Try.prog 156 = false := by kernel_rfl
@[simp] theorem Try.dm_zero156 : Dm.tZero Try.prog 156 = some [.nilp, .nilsl, .int .i64 0] := by kernel_rfl
@[simp] theorem Try.dm_field156_0 : Dm.tField Try.prog 156 0 = some (0, 1, false) := by kernel_rfl
@[simp] theorem Try.dm_field156_1 : Dm.tField Try.prog 156 1 = some (1, 1, false) := by kernel_rfl
@[simp] theorem Try.dm_field156_2 : Dm.tField Try.prog 156 2 = some (2, 1, false) := by kernel_rfl
@[simp] theorem Try.dm_parts156 : Dm.tParts Try.prog 156 = true := by kernel_rfl
@[simp] theorem Try.dm_agg157 : Dm.tAgg Try.prog 157 = some false := by kernel_rfl
@[simp] theorem Try.dm_cells157 : Dm.tCells Try.prog 157 = some 1 := by kernel_rfl
@[simp] theorem Try.dm_und157 : (Program.underlying Try.prog 157).isSome = true := by kernel_rfl
@[simp] theorem Try.dm_str157 : Dm.tStr Try.prog 157 = false := by kernel_rfl
@[simp] theorem Try.dm_bool157 : Dm.tBool Try.prog 157 = false := by kernel_rfl
@[simp] theorem Try.dm_sl157 : Dm.tSl Try.prog 157 = false := by kernel_rfl
@[simp] theorem Try.dm_ptr157 : Dm.tPtr Try.prog 157 = false := by kernel_rfl
@[simp] theorem Try.dm_zero157 : Dm.tZero Try.prog 157 = some [.nilfn] := by kernel_rfl
@[simp] theorem Try.dm_agg158 : Dm.tAgg Try.prog 158 = some true := by kernel_rfl
@[simp] theorem Try.dm_cells158 : Dm.tCells Try.prog 158 = some 3 := by kernel_rfl
@[simp] theorem Try.dm_und158 : (Program.underlying Try.prog 158).isSome = true := by kernel_rfl
@[simp] theorem Try.dm_str158 : Dm.tStr Try.prog 158 = false := by kernel_rfl
@[simp] theorem Try.dm_bool158 : Dm.tBool Try.prog 158 = false := by kernel_rfl
@[simp] theorem Try.dm_sl158 : Dm.tSl Try.prog 158 = false := by kernel_rfl
@[simp] theorem Try.dm_ptr158 : Dm.tPtr Try.prog 158 = false := by kernel_rfl
@[simp] theorem Try.dm_zero158 : Dm.tZero Try.prog 158 = some [.int .i64 0, .nilsl, .nilsl] := by kernel_rfl
@[simp] theorem Try.dm_field158_0 : Dm.tField Try.prog 158 0 = some (0, 1, false) := by kernel_rfl
@[simp] theorem Try.dm_field158_1 : Dm.tField Try.prog 158 1 = some (1, 1, false) := by kernel_rfl
@[simp] theorem Try.dm_field158_2 : Dm.tField Try.prog 158 2 = some (2, 1, false) := by kernel_rfl
@[simp] theorem Try.dm_parts158 : Dm.tParts Try.prog 158 = true := by kernel_rfl
@[simp] theorem Try.dm_agg159 : Dm.tAgg Try.prog 159 = some true := by kernel_rfl
@[simp] theorem Try.dm_cells159 : Dm.tCells Try.prog 159 = some 3 := by kernel_rfl
@[simp] theorem Try.dm_und159 : (Program.underlying Try.prog 159).isSome = true := by kernel_rfl
@[simp] theorem Try.dm_str159 : Dm.tStr Try.prog 159 = false := by kernel_rfl
@[simp] theorem Try.dm_bool159 : Dm.tBool Try.prog 159 = false := by kernel_rfl
@[simp] theorem Try.dm_sl159 : Dm.tSl Try.prog 159 = false := by kernel_rfl
@[simp] theorem Try.dm_ptr159 : Dm.tPtr Try.prog 159 = false := by kernel_rfl
@[simp] theorem Try.dm_zero159 : Dm.tZero Try.prog 159 = some [.int .i64 0, .nilsl, .nilsl] := by kernel_rfl
@[simp] theorem Try.dm_field159_0 : Dm.tField Try.prog 159 0 = some (0, 1, false) := by kernel_rfl
@[simp] theorem Try.dm_field159_1 : Dm.tField Try.prog 159 1 = some (1, 1, false) := by kernel_rfl
@[simp] theorem Try.dm_field159_2 : Dm.tField Try.prog 159 2 = some (2, 1, false) := by kernel_rfl
@[simp] theorem Try.dm_parts159 : Dm.tParts Try.prog 159 = true := by kernel_rfl
@[simp] theorem Try.dm_agg160 : Dm.tAgg Try.prog 160 = some true := by kernel_rfl
@[simp] theorem Try.dm_cells160 : Dm.tCells Try.prog 160 = some 4 := by kernel_rfl
@[simp] theorem Try.dm_und160 : (Program.underlying Try.prog 160).isSome = true := by kernel_rfl
@[simp] theorem Try.dm_str160 : Dm.tStr Try.prog 160 = false := by kernel_rfl
@[simp] theorem Try.dm_bool160 : Dm.tBool Try.prog 160 = false := by kernel_rfl
@[simp] theorem Try.dm_sl160 : Dm.tSl Try.prog 160 = false := by kernel_rfl
@[simp] theorem Try.dm_ptr160 : Dm.tPtr Try.prog 160 = false := by kernel_rfl
@[simp] theorem Try.dm_zero160 : Dm.tZero Try.prog 160 = some [.int .i64 0, .nilsl, .nilsl, .int .i64 0] := by kernel_rfl
@[simp] theorem Try.dm_field160_0 : Dm.tField Try.prog 160 0 = some (0, 3, true) := by kernel_rfl
@[simp] theorem Try.dm_field160_1 : Dm.tField Try.prog 160 1 = some (3, 1, false) := by kernel_rfl
@[simp] theorem Try.dm_parts160 : Dm.tParts Try.prog 160 = true := by kernel_rfl
@[simp] theorem Try.dm_agg161 : Dm.tAgg Try.prog 161 = some true := by kernel_rfl
@[simp] theorem Try.dm_cells161 : Dm.tCells Try.prog 161 = some 4 := by kernel_rfl
@[simp] theorem Try.dm_und161 : (Program.underlying Try.prog 161).isSome = true := by kernel_rfl
@[simp] theorem Try.dm_str161 : Dm.tStr Try.prog 161 = false := by kernel_rfl
@[simp] theorem Try.dm_bool161 : Dm.tBool Try.prog 161 = false := by kernel_rfl
@[simp] theorem Try.dm_sl161 : Dm.tSl Try.prog 161 = false := by kernel_rfl
@[simp] theorem Try.dm_ptr161 : Dm.tPtr Try.prog 161 = false := by kernel_rfl
@[simp] theorem Try.dm_zero161 : Dm.tZero Try.prog 161 = some [.int .i64 0, .nilsl, .nilsl, .int .i64 0] := by kernel_rfl
@[simp] theorem Try.dm_field161_0 : Dm.tField Try.prog 161 0 = some (0, 3, true) := by kernel_rfl
@[simp] theorem Try.dm_field161_1 : Dm.tField Try.prog 161 1 = some (3, 1, false) := by kernel_rfl
@[simp] theorem Try.dm_parts161 : Dm.tParts Try.prog 161 = true := by kernel_rfl
@[simp] theorem Try.dm_agg162 : Dm.tAgg Try.prog 162 = some false := by kernel_rfl
@[simp] theorem Try.dm_cells162 : Dm.tCells Try.prog 162 = some 1 := by kernel_rfl
@[simp] theorem Try.dm_und162 : (Program.underlying Try.prog 162).isSome = true := by kernel_rfl
@[simp] theorem Try.dm_str162 : Dm.tStr Try.prog 162 = false := by kernel_rfl
@[simp] theorem Try.dm_bool162 : Dm.tBool Try.prog 162 = false := by kernel_rfl
@[simp] theorem Try.dm_sl162 : Dm.tSl Try.prog 162 = false := by kernel_rfl
@[simp] theorem Try.dm_ptr162 : Dm.tPtr Try.prog 162 = false := by kernel_rfl
@[simp] theorem Try.dm_zero162 : Dm.tZero Try.prog 162 = some [.nilfn] := by kernel_rfl
@[simp] theorem Try.dm_agg163 : Dm.tAgg Try.prog 163 = some false := by kernel_rfl
@[simp] theorem Try.dm_cells163 : Dm.tCells Try.prog 163 = some 1 := by kernel_rfl
@[simp] theorem Try.dm_und163 : (Program.underlying Try.prog 163).isSome = true := by kernel_rfl
@[simp] theorem Try.dm_str163 : Dm.tStr Try.prog 163 = false := by kernel_rfl
@[simp] theorem Try.dm_bool163 : Dm.tBool Try.prog 163 = false := by kernel_rfl
@[simp] theorem Try.dm_sl163 : Dm.tSl Try.prog 163 = false := by kernel_rfl
@[simp] theorem Try.dm_ptr163 : Dm.tPtr Try.prog 163 = false := by kernel_rfl
@[simp] theorem Try.dm_zero163 : Dm.tZero Try.prog 163 = some [.nilfn] := by kernel_rfl
@[simp] theorem Try.dm_agg164 : Dm.tAgg Try.prog 164 = some false := by kernel_rfl
@[simp] theorem Try.dm_cells164 : Dm.tCells Try.prog 164 = some 1 := by kernel_rfl
@[simp] theorem Try.dm_und164 : (Program.underlying Try.prog 164).isSome = true := by kernel_rfl
@[simp] theorem Try.dm_str164 : Dm.tStr Try.prog 164 = false := by kernel_rfl
@[simp] theorem Try.dm_bool164 : Dm.tBool Try.prog 164 = false := by kernel_rfl
@[simp] theorem Try.dm_sl164 : Dm.tSl Try.prog 164 = false := by kernel_rfl
@[simp] theorem Try.dm_ptr164 : Dm.tPtr Try.prog 164 = false := by kernel_rfl
@[simp] theorem Try.dm_zero164 : Dm.tZero Try.prog 164 = some [.nilfn] := by kernel_rfl
@[simp] theorem Try.dm_agg165 : Dm.tAgg Try.prog 165 = some false := by kernel_rfl
@[simp] theorem Try.dm_cells165 : Dm.tCells Try.prog 165 = some 1 := by kernel_rfl
@[simp] theorem Try.dm_und165 : (Program.underlying Try.prog 165).isSome = true := by kernel_rfl
@[simp] theorem Try.dm_str165 : Dm.tStr Try.prog 165 = false := by kernel_rfl
@[simp] theorem Try.dm_bool165 : Dm.tBool Try.prog 165 = false := by kernel_rfl
@[simp] theorem Try.dm_sl165 : Dm.tSl Try.prog 165 = false := by kernel_rfl
@[simp] theorem Try.dm_ptr165 : Dm.tPtr Try.prog 165 = false := by kernel_rfl
@[simp] theorem Try.dm_zero165 : Dm.tZero Try.prog 165 = some [.nilfn] := by kernel_rfl
@[simp] theorem Try.dm_agg166 : Dm.tAgg Try.prog 166 = some false := by kernel_rfl
@[simp] theorem Try.dm_cells166 : Dm.tCells Try.prog 166 = some 1 := by kernel_rfl
@[simp] theorem Try.dm_und166 : (Program.underlying Try.prog 166).isSome = true := by kernel_rfl
@[simp] theorem Try.dm_str166 : Dm.tStr Try.prog 166 = false := by kernel_rfl
@[simp] theorem Try.dm_bool166 : Dm.tBool Try.prog 166 = false := by kernel_rfl
@[simp] theorem Try.dm_sl166 : Dm.tSl Try.prog 166 = false := by kernel_rfl
@[simp] theorem Try.dm_ptr166 : Dm.tPtr Try.prog 166 = false := by kernel_rfl
@[simp] theorem Try.dm_zero166 : Dm.tZero Try.prog 166 = some [.nilfn] := by kernel_rfl
@[simp] theorem Try.dm_agg167 : Dm.tAgg Try.prog 167 = some false := by kernel_rfl
@[simp] theorem Try.dm_cells167 : Dm.tCells Try.prog 167 = some 1 := by kernel_rfl
@[simp] theorem Try.dm_und167 : (Program.underlying Try.prog 167).isSome = true := by kernel_rfl
@[simp] theorem Try.dm_str167 : Dm.tStr Try.prog 167 = false := by kernel_rfl
@[simp] theorem Try.dm_bool167 : Dm.tBool Try.prog 167 = false := by kernel_rfl
@[simp] theorem Try.dm_sl167 : Dm.tSl Try.prog 167 = false := by kernel_rfl
@[simp] theorem Try.dm_ptr167 : Dm.tPtr Try.prog 167 = false := by kernel_rfl
@[simp] theorem Try.dm_zero167 : Dm.tZero Try.prog 167 = some [.nilfn] := by kernel_rfl
@[simp] theorem Try.dm_agg168 : Dm.tAgg Try.prog 168 = some false := by kernel_rfl
@[simp] theorem Try.dm_cells168 : Dm.tCells Try.prog 168 = some 1 := by kernel_rfl
@[simp] theorem Try.dm_und168 : (Program.underlying Try.prog 168).isSome = true := by kernel_rfl
@[simp] theorem Try.dm_str168 : Dm.tStr Try.prog 168 = false := by kernel_rfl
@[simp] theorem Try.dm_bool168 : Dm.tBool Try.prog 168 = false := by kernel_rfl
@[simp] theorem Try.dm_sl168 : Dm.tSl Try.prog 168 = false := by kernel_rfl
@[simp] theorem Try.dm_ptr168 : Dm.tPtr Try.prog 168 = false := by kernel_rfl
@[simp] theorem Try.dm_zero168 : Dm.tZero Try.prog 168 = some [.nilfn] := by kernel_rfl
@[simp] theorem Try.dm_agg169 : Dm.tAgg Try.prog 169 = some false := by kernel_rfl
@[simp] theorem Try.dm_cells169 : Dm.tCells Try.prog 169 = some 1 := by kernel_rfl
@[simp] theorem Try.dm_und169 : (Program.underlying Try.prog 169).isSome = true := by kernel_rfl
@[simp] theorem Try.dm_str169 : Dm.tStr Try.prog 169 = false := by kernel_rfl
@[simp] theorem Try.dm_bool169 : Dm.tBool Try.prog 169 = false := by kernel_rfl
@[simp] theorem Try.dm_sl169 : Dm.tSl Try.prog 169 = false := by kernel_rfl
@[simp] theorem Try.dm_ptr169 : Dm.tPtr Try.prog 169 = false := by kernel_rfl
@[simp] theorem Try.dm_zero169 : Dm.tZero Try.prog 169 = some [.nilfn] := by kernel_rfl
@[simp] theorem Try.dm_agg170 : Dm.tAgg Try.prog 170 = some false := by kernel_rfl
@[simp] theorem Try.dm_cells170 : Dm.tCells Try.prog 170 = some 1 := by kernel_rfl
@[simp] theorem Try.dm_und170 : (Program.underlying Try.prog 170).isSome = true := by kernel_rfl
@[simp] theorem Try.dm_str170 : Dm.tStr Try.prog 170 = false := by kernel_rfl
@[simp] theorem Try.dm_bool170 : Dm.tBool Try.prog 170 = false := by kernel_rfl
@[simp] theorem Try.dm_sl170 : Dm.tSl Try.prog 170 = false := by kernel_rfl
@[simp] theorem Try.dm_ptr170 : Dm.tPtr Try.prog 170 = false := by kernel_rfl
@[simp] theorem Try.dm_zero170 : Dm.tZero Try.prog 170 = some [.nilfn] := by kernel_rfl
@[simp] theorem Try.dm_agg171 : Dm.tAgg Try.prog 171 = some false := by kernel_rfl
@[simp] theorem Try.dm_cells171 : Dm.tCells Try.prog 171 = some 1 := by kernel_rfl
@[simp] theorem Try.dm_und171 : (Program.underlying Try.prog 171).isSome = true := by kernel_rfl
@[simp] theorem Try.dm_str171 : Dm.tStr Try.prog 171 = false := by kernel_rfl
@[simp] theorem Try.dm_bool171 : Dm.tBool Try.prog 171 = false := by kernel_rfl
@[simp] theorem Try.dm_sl171 : Dm.tSl Try.prog 171 = false := by kernel_rfl
@[simp] theorem Try.dm_ptr171 : Dm.tPtr Try.prog 171 = false := by kernel_rfl
@[simp] theorem Try.dm_zero171 : Dm.tZero Try.prog 171 = some [.nilfn] := by kernel_rfl
@[simp] theorem Try.dm_agg172 : Dm.tAgg Try.prog 172 = some false := by kernel_rfl
@[simp] theorem Try.dm_cells172 : Dm.tCells Try.prog 172 = some 1 := by kernel_rfl
@[simp] theorem Try.dm_und172 : (Program.underlying Try.prog 172).isSome = true := by kernel_rfl
@[simp] theorem Try.dm_str172 : Dm.tStr Try.prog 172 = false := by kernel_rfl
@[simp] theorem Try.dm_bool172 : Dm.tBool Try.prog 172 = false := by kernel_rfl
@[simp] theorem Try.dm_sl172 : Dm.tSl Try.prog 172 = false := by kernel_rfl
@[simp] theorem Try.dm_ptr172 : Dm.tPtr Try.prog 172 = false := by kernel_rfl
@[simp] theorem Try.dm_zero172 : Dm.tZero Try.prog 172 = some [.nilfn] := by kernel_rfl
@[simp] theorem Try.dm_agg174 : Dm.tAgg Try.prog 174 = some false := by kernel_rfl
@[simp] theorem Try.dm_cells174 : Dm.tCells Try.prog 174 = some 1 := by kernel_rfl
@[simp] theorem Try.dm_und174 : (Program.underlying Try.prog 174).isSome = true := by kernel_rfl
@[simp] theorem Try.dm_str174 : Dm.tStr Try.prog 174 = false := by kernel_rfl
@[simp] theorem Try.dm_bool174 : Dm.tBool Try.prog 174 = false := by kernel_rfl
@[simp] theorem Try.dm_sl174 : Dm.tSl Try.prog 174 = false := by kernel_rfl
@[simp] theorem Try.dm_ptr174 : Dm.tPtr Try.prog 174 = false := by kernel_rfl
@[simp] theorem Try.dm_zero174 : Dm.tZero Try.prog 174 = some [.nilfn] := by kernel_rfl
@[simp] theorem Try.dm_agg175 : Dm.tAgg Try.prog 175 = some false := by kernel_rfl
@[simp] theorem Try.dm_cells175 : Dm.tCells Try.prog 175 = some 1 := by kernel_rfl
@[simp] theorem Try.dm_und175 : (Program.underlying Try.prog 175).isSome = true := by kernel_rfl
@[simp] theorem Try.dm_str175 : Dm.tStr Try.prog 175 = false := by kernel_rfl
@[simp] theorem Try.dm_bool175 : Dm.tBool Try.prog 175 = false := by kernel_rfl
@[simp] theorem Try.dm_sl175 : Dm.tSl Try.prog 175 = false := by kernel_rfl
@[simp] theorem Try.dm_ptr175 : Dm.tPtr Try.prog 175 = false := by kernel_rfl
@[simp] theorem Try.dm_zero175 : Dm.tZero Try.prog 175 = some [.nilfn] := by kernel_rfl
@[simp] theorem Try.dm_agg177 : Dm.tAgg Try.prog 177 = some false := by kernel_rfl
@[simp] theorem Try.dm_cells177 : Dm.tCells Try.prog 177 = some 1 := by kernel_rfl
@[simp] theorem Try.dm_und177 : (Program.underlying Try.prog 177).isSome = true := by kernel_rfl
@[simp] theorem Try.dm_str177 : Dm.tStr Try.prog 177 = false := by kernel_rfl
@[simp] theorem Try.dm_bool177 : Dm.tBool Try.prog 177 = false := by kernel_rfl
@[simp] theorem Try.dm_sl177 : Dm.tSl Try.prog 177 = false := by kernel_rfl
@[simp] theorem Try.dm_ptr177 : Dm.tPtr Try.prog 177 = false := by kernel_rfl
@[simp] theorem Try.dm_zero177 : Dm.tZero Try.prog 177 = some [.nilfn] := by kernel_rfl
@[simp] theorem Try.dm_agg178 : Dm.tAgg Try.prog 178 = some false := by kernel_rfl
@[simp] theorem Try.dm_cells178 : Dm.tCells Try.prog 178 = some 1 := by kernel_rfl
@[simp] theorem Try.dm_und178 : (Program.underlying Try.prog 178).isSome = true := by kernel_rfl
@[simp] theorem Try.dm_str178 : Dm.tStr Try.prog 178 = false := by kernel_rfl
@[simp] theorem Try.dm_bool178 : Dm.tBool Try.prog 178 = false := by kernel_rfl
@[simp] theorem Try.dm_sl178 : Dm.tSl Try.prog 178 = false := by kernel_rfl
@[simp] theorem Try.dm_ptr178 : Dm.tPtr Try.prog 178 = false := by kernel_rfl
@[simp] theorem Try.dm_zero178 : Dm.tZero Try.prog 178 = some [.nilmp] := by kernel_rfl
@[simp] theorem Try.dm_map178 : Dm.tMap Try.prog 178 = some (9, 3) := by kernel_rfl
@[simp] theorem Try.dm_flat9 : Dm.flat Try.prog 10000 9 = some [.s] := by kernel_rfl
@[simp] theorem Try.dm_agg180 : Dm.tAgg Try.prog 180 = some false := by kernel_rfl
@[simp] theorem Try.dm_cells180 : Dm.tCells Try.prog 180 = some 1 := by kernel_rfl
@[simp] theorem Try.dm_und180 : (Program.underlying Try.prog 180).isSome = true := by kernel_rfl
@[simp] theorem Try.dm_str180 : Dm.tStr Try.prog 180 = false := by kernel_rfl
@[simp] theorem Try.dm_bool180 : Dm.tBool Try.prog 180 = false := by kernel_rfl
@[simp] theorem Try.dm_sl180 : Dm.tSl Try.prog 180 = false := by kernel_rfl
@[simp] theorem Try.dm_ptr180 : Dm.tPtr Try.prog 180 = false := by kernel_rfl
@[simp] theorem Try.dm_zero180 : Dm.tZero Try.prog 180 = some [.nilfn] := by kernel_rfl
@[simp] theorem Try.dm_agg183 : Dm.tAgg Try.prog 183 = some false := by kernel_rfl
@[simp] theorem Try.dm_cells183 : Dm.tCells Try.prog 183 = some 1 := by kernel_rfl
@[simp] theorem Try.dm_und183 : (Program.underlying Try.prog 183).isSome = true := by kernel_rfl
@[simp] theorem Try.dm_str183 : Dm.tStr Try.prog 183 = false := by kernel_rfl
@[simp] theorem Try.dm_bool183 : Dm.tBool Try.prog 183 = false := by kernel_rfl
@[simp] theorem Try.dm_sl183 : Dm.tSl Try.prog 183 = false := by kernel_rfl
@[simp] theorem Try.dm_ptr183 : Dm.tPtr Try.prog 183 = false := by kernel_rfl
@[simp] theorem Try.dm_zero183 : Dm.tZero Try.prog 183 = some [.nilfn] := by kernel_rfl
@[simp] theorem Try.dm_agg184 : Dm.tAgg Try.prog 184 = some false := by kernel_rfl
@[simp] theorem Try.dm_cells184 : Dm.tCells Try.prog 184 = some 1 := by kernel_rfl
@[simp] theorem Try.dm_und184 : (Program.underlying Try.prog 184).isSome = true := by kernel_rfl
@[simp] theorem Try.dm_str184 : Dm.tStr Try.prog 184 = false := by kernel_rfl
@[simp] theorem Try.dm_bool184 : Dm.tBool Try.prog 184 = false := by kernel_rfl
@[simp] theorem Try.dm_sl184 : Dm.tSl Try.prog 184 = false := by kernel_rfl
@[simp] theorem Try.dm_ptr184 : Dm.tPtr Try.prog 184 = false := by kernel_rfl
@[simp] theorem Try.dm_zero184 : Dm.tZero Try.prog 184 = some [.nilfn] := by kernel_rfl
@[simp] theorem Try.dm_agg185 : Dm.tAgg Try.prog 185 = some false := by kernel_rfl
@[simp] theorem Try.dm_cells185 : Dm.tCells Try.prog 185 = some 1 := by kernel_rfl
@[simp] theorem Try.dm_und185 : (Program.underlying Try.prog 185).isSome = true := by kernel_rfl
@[simp] theorem Try.dm_int185 : Dm.tInt Try.prog 185 = some .u32 := by kernel_rfl
@[simp] theorem Try.dm_str185 : Dm.tStr Try.prog 185 = false := by kernel_rfl
@[simp] theorem Try.dm_bool185 : Dm.tBool Try.prog 185 = false := by kernel_rfl
@[simp] theorem Try.dm_sl185 : Dm.tSl Try.prog 185 = false := by kernel_rfl
@[simp] theorem Try.dm_ptr185 : Dm.tPtr Try.prog 185 = false := by kernel_rfl
@[simp] theorem Try.dm_zero185 : Dm.tZero Try.prog 185 = some [.int .u32 0] := by kernel_rfl
@[simp] theorem Try.dm_agg187 : Dm.tAgg Try.prog 187 = some false := by kernel_rfl
@[simp] theorem Try.dm_cells187 : Dm.tCells Try.prog 187 = some 1 := by kernel_rfl
@[simp] theorem Try.dm_und187 : (Program.underlying Try.prog 187).isSome = true := by kernel_rfl
@[simp] theorem Try.dm_str187 : Dm.tStr Try.prog 187 = false := by kernel_rfl
@[simp] theorem Try.dm_bool187 : Dm.tBool Try.prog 187 = false := by kernel_rfl
@[simp] theorem Try.dm_sl187 : Dm.tSl Try.prog 187 = false := by kernel_rfl
@[simp] theorem Try.dm_ptr187 : Dm.tPtr Try.prog 187 = false := by kernel_rfl
@[simp] theorem Try.dm_zero187 : Dm.tZero Try.prog 187 = some [.nilfn] := by kernel_rfl
@[simp] theorem Try.dm_agg188 : Dm.tAgg Try.prog 188 = some false := by kernel_rfl
@[simp] theorem Try.dm_cells188 : Dm.tCells Try.prog 188 = some 1 := by kernel_rfl
@[simp] theorem Try.dm_und188 : (Program.underlying Try.prog 188).isSome = true := by kernel_rfl
@[simp] theorem Try.dm_int188 : Dm.tInt Try.prog 188 = some .u64 := by kernel_rfl
@[simp] theorem Try.dm_str188 : Dm.tStr Try.prog 188 = false := by kernel_rfl
@[simp] theorem Try.dm_bool188 : Dm.tBool Try.prog 188 = false := by kernel_rfl
@[simp] theorem Try.dm_sl188 : Dm.tSl Try.prog 188 = false := by kernel_rfl
@[simp] theorem Try.dm_ptr188 : Dm.tPtr Try.prog 188 = false := by kernel_rfl
@[simp] theorem Try.dm_zero188 : Dm.tZero Try.prog 188 = some [.int .u64 0] := by kernel_rfl
@[simp] theorem Try.dm_agg190 : Dm.tAgg Try.prog 190 = some false := by kernel_rfl
@[simp] theorem Try.dm_cells190 : Dm.tCells Try.prog 190 = some 1 := by kernel_rfl
@[simp] theorem Try.dm_und190 : (Program.underlying Try.prog 190).isSome = true := by kernel_rfl
@[simp] theorem Try.dm_str190 : Dm.tStr Try.prog 190 = false := by kernel_rfl
@[simp] theorem Try.dm_bool190 : Dm.tBool Try.prog 190 = false := by kernel_rfl
@[simp] theorem Try.dm_sl190 : Dm.tSl Try.prog 190 = false := by kernel_rfl
@[simp] theorem Try.dm_ptr190 : Dm.tPtr Try.prog 190 = false := by kernel_rfl
@[simp] theorem Try.dm_zero190 : Dm.tZero Try.prog 190 = some [.nilfn] := by kernel_rfl
@[simp] theorem Try.dm_agg191 : Dm.tAgg Try.prog 191 = some false := by kernel_rfl
@[simp] theorem Try.dm_cells191 : Dm.tCells Try.prog 191 = some 1 := by kernel_rfl
@[simp] theorem Try.dm_und191 : (Program.underlying Try.prog 191).isSome = true := by kernel_rfl
@[simp] theorem Try.dm_str191 : Dm.tStr Try.prog 191 = false := by kernel_rfl
@[simp] theorem Try.dm_bool191 : Dm.tBool Try.prog 191 = false := by kernel_rfl
@[simp] theorem Try.dm_sl191 : Dm.tSl Try.prog 191 = false := by kernel_rfl
@[simp] theorem Try.dm_ptr191 : Dm.tPtr Try.prog 191 = false := by kernel_rfl
@[simp] theorem Try.dm_zero191 : Dm.tZero Try.prog 191 = some [.nilfn] := by kernel_rfl
@[simp] theorem Try.dm_agg192 : Dm.tAgg Try.prog 192 = some false := by kernel_rfl
@[simp] theorem Try.dm_cells192 : Dm.tCells Try.prog 192 = some 1 := by kernel_rfl
@[simp] theorem Try.dm_und192 : (Program.underlying Try.prog 192).isSome = true := by kernel_rfl
@[simp] theorem Try.dm_str192 : Dm.tStr Try.prog 192 = false := by kernel_rfl
@[simp] theorem Try.dm_bool192 : Dm.tBool Try.prog 192 = false := by kernel_rfl
@[simp] theorem Try.dm_sl192 : Dm.tSl Try.prog 192 = false := by kernel_rfl
@[simp] theorem Try.dm_ptr192 : Dm.tPtr Try.prog 192 = false := by kernel_rfl
@[simp] theorem Try.dm_zero192 : Dm.tZero Try.prog 192 = some [.nilfn] := by kernel_rfl
@[simp] theorem Try.dm_agg193 : Dm.tAgg Try.prog 193 = some false := by kernel_rfl
@[simp] theorem Try.dm_cells193 : Dm.tCells Try.prog 193 = some 1 := by kernel_rfl
@[simp] theorem Try.dm_und193 : (Program.underlying Try.prog 193).isSome = true := by kernel_rfl
@[simp] theorem Try.dm_str193 : Dm.tStr Try.prog 193 = false := by kernel_rfl
@[simp] theorem Try.dm_bool193 : Dm.tBool Try.prog 193 = false := by kernel_rfl
@[simp] theorem Try.dm_sl193 : Dm.tSl Try.prog 193 = false := by kernel_rfl
@[simp] theorem Try.dm_ptr193 : Dm.tPtr Try.prog 193 = false := by kernel_rfl
@[simp] theorem Try.dm_zero193 : Dm.tZero Try.prog 193 = some [.nilfn] := by kernel_rfl
@[simp] theorem Try.dm_agg194 : Dm.tAgg Try.prog 194 = some false := by kernel_rfl
@[simp] theorem Try.dm_cells194 : Dm.tCells Try.prog 194 = some 1 := by kernel_rfl
@[simp] theorem Try.dm_und194 : (Program.underlying Try.prog 194).isSome = true := by kernel_rfl
@[simp] theorem Try.dm_str194 : Dm.tStr Try.prog 194 = false := by kernel_rfl
@[simp] theorem Try.dm_bool194 : Dm.tBool Try.prog 194 = false := by kernel_rfl
@[simp] theorem Try.dm_sl194 : Dm.tSl Try.prog 194 = false := by kernel_rfl
@[simp] theorem Try.dm_ptr194 : Dm.tPtr Try.prog 194 = false := by kernel_rfl
@[simp] theorem Try.dm_zero194 : Dm.tZero Try.prog 194 = some [.nilmp] := by kernel_rfl
@[simp] theorem Try.dm_map194 : Dm.tMap Try.prog 194 = some (265, 3) := by kernel_rfl
@[simp] theorem Try.dm_agg196 : Dm.tAgg Try.prog 196 = some true := by kernel_rfl
@[simp] theorem Try.dm_cells196 : Dm.tCells Try.prog 196 = some 3 := by kernel_rfl
@[simp] theorem Try.dm_und196 : (Program.underlying Try.prog 196).isSome = true := by kernel_rfl
@[simp] theorem Try.dm_str196 : Dm.tStr Try.prog 196 = false := by kernel_rfl
@[simp] theorem Try.dm_bool196 : Dm.tBool Try.prog 196 = false := by kernel_rfl
@[simp] theorem Try.dm_sl196 : Dm.tSl Try.prog 196 = false := by kernel_rfl
@[simp] theorem Try.dm_ptr196 : Dm.tPtr Try.prog 196 = false := by kernel_rfl
@[simp] theorem Try.dm_zero196 : Dm.tZero Try.prog 196 = some [.nilsl, .nilsl, .nilmp] := by kernel_rfl
@[simp] theorem Try.dm_field196_0 : Dm.tField Try.prog 196 0 = some (0, 1, false) := by kernel_rfl
@[simp] theorem Try.dm_field196_1 : Dm.tField Try.prog 196 1 = some (1, 1, false) := by kernel_rfl
@[simp] theorem Try.dm_field196_2 : Dm.tField Try.prog 196 2 = some (2, 1, false) := by kernel_rfl
@[simp] theorem Try.dm_parts196 : Dm.tParts Try.prog 196 = true := by kernel_rfl
@[simp] theorem Try.dm_agg197 : Dm.tAgg Try.prog 197 = some false := by kernel_rfl
@[simp] theorem Try.dm_cells197 : Dm.tCells Try.prog 197 = some 1 := by kernel_rfl
@[simp] theorem Try.dm_und197 : (Program.underlying Try.prog 197).isSome = true := by kernel_rfl
@[simp] theorem Try.dm_str197 : Dm.tStr Try.prog 197 = false := by kernel_rfl
@[simp] theorem Try.dm_bool197 : Dm.tBool Try.prog 197 = false := by kernel_rfl
@[simp] theorem Try.dm_sl197 : Dm.tSl Try.prog 197 = false := by kernel_rfl
@[simp] theorem Try.dm_ptr197 : Dm.tPtr Try.prog 197 = false := by kernel_rfl
@[simp] theorem Try.dm_zero197 : Dm.tZero Try.prog 197 = some [.nilfn] := by kernel_rfl
@[simp] theorem Try.dm_agg198 : Dm.tAgg Try.prog 198 = some false := by kernel_rfl
@[simp] theorem Try.dm_cells198 : Dm.tCells Try.prog 198 = some 1 := by kernel_rfl
@[simp] theorem Try.dm_und198 : (Program.underlying Try.prog 198).isSome = true := by kernel_rfl
@[simp] theorem Try.dm_str198 : Dm.tStr Try.prog 198 = false := by kernel_rfl
@[simp] theorem Try.dm_bool198 : Dm.tBool Try.prog 198 = false := by kernel_rfl
@[simp] theorem Try.dm_sl198 : Dm.tSl Try.prog 198 = false := by kernel_rfl
@[simp] theorem Try.dm_ptr198 : Dm.tPtr Try.prog 198 = false := by kernel_rfl
@[simp] theorem Try.dm_zero198 : Dm.tZero Try.prog 198 = some [.nilfn] := by kernel_rfl
@[simp] theorem Try.dm_agg199 : Dm.tAgg Try.prog 199 = some false := by kernel_rfl
@[simp] theorem Try.dm_cells199 : Dm.tCells Try.prog 199 = some 1 := by kernel_rfl
@[simp] theorem Try.dm_und199 : (Program.underlying Try.prog 199).isSome = true := by kernel_rfl
@[simp] theorem Try.dm_str199 : Dm.tStr Try.prog 199 = false := by kernel_rfl
@[simp] theorem Try.dm_bool199 : Dm.tBool Try.prog 199 = false := by kernel_rfl
@[simp] theorem Try.dm_sl199 : Dm.tSl Try.prog 199 = false := by kernel_rfl
@[simp] theorem Try.dm_ptr199 : Dm.tPtr Try.prog 199 = false := by kernel_rfl
@[simp] theorem Try.dm_zero199 : Dm.tZero Try.prog 199 = some [.nilfn] := by kernel_rfl
@[simp] theorem Try.dm_agg200 : Dm.tAgg Try.prog 200 = some false := by kernel_rfl
@[simp] theorem Try.dm_cells200 : Dm.tCells Try.prog 200 = some 1 := by kernel_rfl
@[simp] theorem Try.dm_und200 : (Program.underlying Try.prog 200).isSome = true := by kernel_rfl
@[simp] theorem Try.dm_int200 : Dm.tInt Try.prog 200 = some .i64 := by kernel_rfl
@[simp] theorem Try.dm_str200 : Dm.tStr Try.prog 200 = false := by kernel_rfl
@[simp] theorem Try.dm_bool200 : Dm.tBool Try.prog 200 = false := by kernel_rfl
@[simp] theorem Try.dm_sl200 : Dm.tSl Try.prog 200 = false := by kernel_rfl
@[simp] theorem Try.dm_ptr200 : Dm.tPtr Try.prog 200 = false := by kernel_rfl
@[simp] theorem Try.dm_zero200 : Dm.tZero Try.prog 200 = some [.int .i64 0] := by kernel_rfl
@[simp] theorem Try.dm_agg203 : Dm.tAgg Try.prog 203 = some false := by kernel_rfl
@[simp] theorem Try.dm_cells203 : Dm.tCells Try.prog 203 = some 1 := by kernel_rfl
@[simp] theorem Try.dm_und203 : (Program.underlying Try.prog 203).isSome = true := by kernel_rfl
@[simp] theorem Try.dm_str203 : Dm.tStr Try.prog 203 = false := by kernel_rfl
@[simp] theorem Try.dm_bool203 : Dm.tBool Try.prog 203 = false := by kernel_rfl
@[simp] theorem Try.dm_sl203 : Dm.tSl Try.prog 203 = false := by kernel_rfl
@[simp] theorem Try.dm_ptr203 : Dm.tPtr Try.prog 203 = false := by kernel_rfl
@[simp] theorem Try.dm_zero203 : Dm.tZero Try.prog 203 = some [.nilfn] := by kernel_rfl
@[simp] theorem Try.dm_agg204 : Dm.tAgg Try.prog 204 = some false := by kernel_rfl
@[simp] theorem Try.dm_cells204 : Dm.tCells Try.prog 204 = some 1 := by kernel_rfl
@[simp] theorem Try.dm_und204 : (Program.underlying Try.prog 204).isSome = true := by kernel_rfl
@[simp] theorem Try.dm_str204 : Dm.tStr Try.prog 204 = false := by kernel_rfl
@[simp] theorem Try.dm_bool204 : Dm.tBool Try.prog 204 = false := by kernel_rfl
@[simp] theorem Try.dm_sl204 : Dm.tSl Try.prog 204 = false := by kernel_rfl
@[simp] theorem Try.dm_ptr204 : Dm.tPtr Try.prog 204 = false := by kernel_rfl
@[simp] theorem Try.dm_zero204 : Dm.tZero Try.prog 204 = some [.nilfn] := by kernel_rfl
@[simp] theorem Try.dm_agg205 : Dm.tAgg Try.prog 205 = some false := by kernel_rfl
@[simp] theorem Try.dm_cells205 : Dm.tCells Try.prog 205 = some 1 := by kernel_rfl
@[simp] theorem Try.dm_und205 : (Program.underlying Try.prog 205).isSome = true := by kernel_rfl
@[simp] theorem Try.dm_str205 : Dm.tStr Try.prog 205 = false := by kernel_rfl
@[simp] theorem Try.dm_bool205 : Dm.tBool Try.prog 205 = false := by kernel_rfl
@[simp] theorem Try.dm_sl205 : Dm.tSl Try.prog 205 = false := by kernel_rfl
@[simp] theorem Try.dm_ptr205 : Dm.tPtr Try.prog 205 = false := by kernel_rfl
@[simp] theorem Try.dm_zero205 : Dm.tZero Try.prog 205 = some [.nilfn] := by kernel_rfl
@[simp] theorem Try.dm_agg206 : Dm.tAgg Try.prog 206 = some false := by kernel_rfl
@[simp] theorem Try.dm_cells206 : Dm.tCells Try.prog 206 = some 1 := by kernel_rfl
@[simp] theorem Try.dm_und206 : (Program.underlying Try.prog 206).isSome = true := by kernel_rfl
@[simp] theorem Try.dm_str206 : Dm.tStr Try.prog 206 = false := by kernel_rfl
@[simp] theorem Try.dm_bool206 : Dm.tBool Try.prog 206 = false := by kernel_rfl
@[simp] theorem Try.dm_sl206 : Dm.tSl Try.prog 206 = false := by kernel_rfl
@[simp] theorem Try.dm_ptr206 : Dm.tPtr Try.prog 206 = false := by kernel_rfl
@[simp] theorem Try.dm_zero206 : Dm.tZero Try.prog 206 = some [.nilfn] := by kernel_rfl
@[simp] theorem Try.dm_agg207 : Dm.tAgg Try.prog 207 = some false := by kernel_rfl
@[simp] theorem Try.dm_cells207 : Dm.tCells Try.prog 207 = some 1 := by kernel_rfl
@[simp] theorem Try.dm_und207 : (Program.underlying Try.prog 207).isSome = true := by kernel_rfl
@[simp] theorem Try.dm_str207 : Dm.tStr Try.prog 207 = false := by kernel_rfl
@[simp] theorem Try.dm_bool207 : Dm.tBool Try.prog 207 = false := by kernel_rfl
@[simp] theorem Try.dm_sl207 : Dm.tSl Try.prog 207 = false := by kernel_rfl
@[simp] theorem Try.dm_ptr207 : Dm.tPtr Try.prog 207 = false := by kernel_rfl
@[simp] theorem Try.dm_zero207 : Dm.tZero Try.prog 207 = some [.nilfn] := by kernel_rfl
@[simp] theorem Try.dm_agg208 : Dm.tAgg Try.prog 208 = some false := by kernel_rfl
@[simp] theorem Try.dm_cells208 : Dm.tCells Try.prog 208 = some 1 := by kernel_rfl
@[simp] theorem Try.dm_und208 : (Program.underlying Try.prog 208).isSome = true := by kernel_rfl
@[simp] theorem Try.dm_str208 : Dm.tStr Try.prog 208 = false := by kernel_rfl
@[simp] theorem Try.dm_bool208 : Dm.tBool Try.prog 208 = false := by kernel_rfl
@[simp] theorem Try.dm_sl208 : Dm.tSl Try.prog 208 = false := by kernel_rfl
@[simp] theorem Try.dm_ptr208 : Dm.tPtr Try.prog 208 = false := by kernel_rfl
@[simp] theorem Try.dm_zero208 : Dm.tZero Try.prog 208 = some [.nilfn] := by kernel_rfl
@[simp] theorem Try.dm_agg209 : Dm.tAgg Try.prog 209 = some false := by kernel_rfl
@[simp] theorem Try.dm_cells209 : Dm.tCells Try.prog 209 = some 1 := by kernel_rfl
@[simp] theorem Try.dm_und209 : (Program.underlying Try.prog 209).isSome = true := by kernel_rfl
@[simp] theorem Try.dm_str209 : Dm.tStr Try.prog 209 = false := by kernel_rfl
@[simp] theorem Try.dm_bool209 : Dm.tBool Try.prog 209 = false := by kernel_rfl
@[simp] theorem Try.dm_sl209 : Dm.tSl Try.prog 209 = false := by kernel_rfl
@[simp] theorem Try.dm_ptr209 : Dm.tPtr Try.prog 209 = false := by kernel_rfl
@[simp] theorem Try.dm_zero209 : Dm.tZero Try.prog 209 = some [.nilfn] := by kernel_rfl
@[simp] theorem Try.dm_agg210 : Dm.tAgg Try.prog 210 = some false := by kernel_rfl
@[simp] theorem Try.dm_cells210 : Dm.tCells Try.prog 210 = some 1 := by kernel_rfl
@[simp] theorem Try.dm_und210 : (Program.underlying Try.prog 210).isSome = true := by kernel_rfl
@[simp] theorem Try.dm_str210 : Dm.tStr Try.prog 210 = false := by kernel_rfl
@[simp] theorem Try.dm_bool210 : Dm.tBool Try.prog 210 = false := by kernel_rfl
@[simp] theorem Try.dm_sl210 : Dm.tSl Try.prog 210 = false := by kernel_rfl
@[simp] theorem Try.dm_ptr210 : Dm.tPtr Try.prog 210 = true := by kernel_rfl
@[simp] theorem Try.dm_zero210 : Dm.tZero Try.prog 210 = some [.nilp] := by kernel_rfl
@[simp] theorem Try.dm_agg211 : Dm.tAgg Try.prog 211 = some false := by kernel_rfl
@[simp] theorem Try.dm_cells211 : Dm.tCells Try.prog 211 = some 1 := by kernel_rfl
@[simp] theorem Try.dm_und211 : (Program.underlying Try.prog 211).isSome = true := by kernel_rfl
@[simp] theorem Try.dm_elem211 : Dm.tElem Try.prog 211 = some (1, 1) := by kernel_rfl
@[simp] theorem Try.dm_str211 : Dm.tStr Try.prog 211 = false := by kernel_rfl
@[simp] theorem Try.dm_bool211 : Dm.tBool Try.prog 211 = false := by kernel_rfl
@[simp] theorem Try.dm_sl211 : Dm.tSl Try.prog 211 = true := by kernel_rfl
@[simp] theorem Try.dm_ptr211 : Dm.tPtr Try.prog 211 = false := by kernel_rfl
@[simp] theorem Try.dm_zero211 : Dm.tZero Try.prog 211 = some [.nilsl] := by kernel_rfl
@[simp] theorem Try.dm_eid211 : Dm.tElemId Try.prog 211 = some 5 := by kernel_rfl
@[simp] theorem Try.dm_ez211 : Dm.tElemZ Try.prog 211 = true := by kernel_rfl
@[simp] theorem Try.dm_zok211 : Dm.zeroOK Try.prog 211 = true := by kernel_rfl
@[simp] theorem Try.dm_zsl211 : Dm.tZeroE Try.prog 211 = some [.int .u8 0] := by kernel_rfl
@[simp] theorem Try.dm_agg212 : Dm.tAgg Try.prog 212 = some true := by kernel_rfl
@[simp] theorem Try.dm_cells212 : Dm.tCells Try.prog 212 = some 2 := by kernel_rfl
@[simp] theorem Try.dm_und212 : (Program.underlying Try.prog 212).isSome = true := by kernel_rfl
@[simp] theorem Try.dm_str212 : Dm.tStr Try.prog 212 = false := by kernel_rfl
@[simp] theorem Try.dm_bool212 : Dm.tBool Try.prog 212 = false := by kernel_rfl
@[simp] theorem Try.dm_sl212 : Dm.tSl Try.prog 212 = false := by kernel_rfl
@[simp] theorem Try.dm_ptr212 : Dm.tPtr Try.prog 212 = false := by kernel_rfl
@[simp] theorem Try.dm_zero212 : Dm.tZero Try.prog 212 = some [.nilp, .nilsl] := by kernel_rfl
@[simp] theorem Try.dm_field212_0 : Dm.tField Try.prog 212 0 = some (0, 1, false) := by kernel_rfl
@[simp] theorem Try.dm_field212_1 : Dm.tField Try.prog 212 1 = some (1, 1, false) := by kernel_rfl
@[simp] theorem Try.dm_parts212 : Dm.tParts Try.prog 212 = true := by kernel_rfl
@[simp] theorem Try.dm_agg213 : Dm.tAgg Try.prog 213 = some true := by kernel_rfl
@[simp] theorem Try.dm_cells213 : Dm.tCells Try.prog 213 = some 2 := by kernel_rfl
@[simp] theorem Try.dm_und213 : (Program.underlying Try.prog 213).isSome = true := by kernel_rfl
@[simp] theorem Try.dm_str213 : Dm.tStr Try.prog 213 = false := by kernel_rfl
@[simp] theorem Try.dm_bool213 : Dm.tBool Try.prog 213 = false := by kernel_rfl
@[simp] theorem Try.dm_sl213 : Dm.tSl Try.prog 213 = false := by kernel_rfl
@[simp] theorem Try.dm_ptr213 : Dm.tPtr Try.prog 213 = false := by kernel_rfl
@[simp] theorem Try.dm_zero213 : Dm.tZero Try.prog 213 = some [.nilp, .nilsl] := by kernel_rfl
@[simp] theorem Try.dm_field213_0 : Dm.tField Try.prog 213 0 = some (0, 1, false) := by kernel_rfl
@[simp] theorem Try.dm_field213_1 : Dm.tField Try.prog 213 1 = some (1, 1, false) := by kernel_rfl
@[simp] theorem Try.dm_parts213 : Dm.tParts Try.prog 213 = true := by kernel_rfl
@[simp] theorem Try.dm_agg214 : Dm.tAgg Try.prog 214 = some false := by kernel_rfl
@[simp] theorem Try.dm_cells214 : Dm.tCells Try.prog 214 = some 1 := by kernel_rfl
@[simp] theorem Try.dm_und214 : (Program.underlying Try.prog 214).isSome = true := by kernel_rfl
@[simp] theorem Try.dm_str214 : Dm.tStr Try.prog 214 = false := by kernel_rfl
@[simp] theorem Try.dm_bool214 : Dm.tBool Try.prog 214 = false := by kernel_rfl
@[simp] theorem Try.dm_sl214 : Dm.tSl Try.prog 214 = false := by kernel_rfl
@[simp] theorem Try.dm_ptr214 : Dm.tPtr Try.prog 214 = false := by kernel_rfl
@[simp] theorem Try.dm_zero214 : Dm.tZero Try.prog 214 = some [.nilifc] := by kernel_rfl
@[simp] theorem Try.dm_agg215 : Dm.tAgg Try.prog 215 = some false := by kernel_rfl
@[simp] theorem Try.dm_cells215 : Dm.tCells Try.prog 215 = some 1 := by kernel_rfl
@[simp] theorem Try.dm_und215 : (Program.underlying Try.prog 215).isSome = true := by kernel_rfl
@[simp] theorem Try.dm_str215 : Dm.tStr Try.prog 215 = false := by kernel_rfl
@[simp] theorem Try.dm_bool215 : Dm.tBool Try.prog 215 = false := by kernel_rfl
@[simp] theorem Try.dm_sl215 : Dm.tSl Try.prog 215 = false := by kernel_rfl
@[simp] theorem Try.dm_ptr215 : Dm.tPtr Try.prog 215 = false := by kernel_rfl
@[simp] theorem Try.dm_zero215 : Dm.tZero Try.prog 215 = some [.nilifc] := by kernel_rfl
@[simp] theorem Try.dm_agg218 : Dm.tAgg Try.prog 218 = some false := by kernel_rfl
@[simp] theorem Try.dm_cells218 : Dm.tCells Try.prog 218 = some 1 := by kernel_rfl
@[simp] theorem Try.dm_und218 : (Program.underlying Try.prog 218).isSome = true := by kernel_rfl
@[simp] theorem Try.dm_str218 : Dm.tStr Try.prog 218 = false := by kernel_rfl
@[simp] theorem Try.dm_bool218 : Dm.tBool Try.prog 218 = false := by kernel_rfl
@[simp] theorem Try.dm_sl218 : Dm.tSl Try.prog 218 = false := by kernel_rfl
@[simp] theorem Try.dm_ptr218 : Dm.tPtr Try.prog 218 = false := by kernel_rfl
@[simp] theorem Try.dm_zero218 : Dm.tZero Try.prog 218 = some [.nilfn] := by kernel_rfl
@[simp] theorem Try.dm_agg220 : Dm.tAgg Try.prog 220 = some false := by kernel_rfl
@[simp] theorem Try.dm_cells220 : Dm.tCells Try.prog 220 = some 1 := by kernel_rfl
@[simp] theorem Try.dm_und220 : (Program.underlying Try.prog 220).isSome = true := by kernel_rfl
@[simp] theorem Try.dm_str220 : Dm.tStr Try.prog 220 = false := by kernel_rfl
@[simp] theorem Try.dm_bool220 : Dm.tBool Try.prog 220 = false := by kernel_rfl
@[simp] theorem Try.dm_sl220 : Dm.tSl Try.prog 220 = false := by kernel_rfl
@[simp] theorem Try.dm_ptr220 : Dm.tPtr Try.prog 220 = false := by kernel_rfl
@[simp] theorem Try.dm_zero220 : Dm.tZero Try.prog 220 = some [.nilfn] := by kernel_rfl
@[simp] theorem Try.dm_agg221 : Dm.tAgg Try.prog 221 = some false := by kernel_rfl
@[simp] theorem Try.dm_cells221 : Dm.tCells Try.prog 221 = some 1 := by kernel_rfl
@[simp] theorem Try.dm_und221 : (Program.underlying Try.prog 221).isSome = true := by kernel_rfl
@[simp] theorem Try.dm_str221 : Dm.tStr Try.prog 221 = false := by kernel_rfl
@[simp] theorem Try.dm_bool221 : Dm.tBool Try.prog 221 = false := by kernel_rfl
@[simp] theorem Try.dm_sl221 : Dm.tSl Try.prog 221 = false := by kernel_rfl
@[simp] theorem Try.dm_ptr221 : Dm.tPtr Try.prog 221 = false := by kernel_rfl
@[simp] theorem Try.dm_zero221 : Dm.tZero Try.prog 221 = some [.nilfn] := by kernel_rfl
@[simp] theorem Try.dm_agg222 : Dm.tAgg Try.prog 222 = some false := by kernel_rfl
@[simp] theorem Try.dm_cells222 : Dm.tCells Try.prog 222 = some 1 := by kernel_rfl
@[simp] theorem Try.dm_und222 : (Program.underlying Try.prog 222).isSome = true := by kernel_rfl
@[simp] theorem Try.dm_int222 : Dm.tInt Try.prog 222 = some .u64 := by kernel_rfl
@[simp] theorem Try.dm_str222 : Dm.tStr Try.prog 222 = false := by kernel_rfl
@[simp] theorem Try.dm_bool222 : Dm.tBool Try.prog 222 = false := by kernel_rfl
@[simp] theorem Try.dm_sl222 : Dm.tSl Try.prog 222 = false := by kernel_rfl
@[simp] theorem Try.dm_ptr222 : Dm.tPtr Try.prog 222 = false := by kernel_rfl
@[simp] theorem Try.dm_zero222 : Dm.tZero Try.prog 222 = some [.int .u64 0] := by kernel_rfl
@[simp] theorem Try.dm_agg226 : Dm.tAgg Try.prog 226 = some false := by kernel_rfl
@[simp] theorem Try.dm_cells226 : Dm.tCells Try.prog 226 = some 1 := by kernel_rfl
@[simp] theorem Try.dm_und226 : (Program.underlying Try.prog 226).isSome = true := by kernel_rfl
@[simp] theorem Try.dm_str226 : Dm.tStr Try.prog 226 = false := by kernel_rfl
@[simp] theorem Try.dm_bool226 : Dm.tBool Try.prog 226 = false := by kernel_rfl
@[simp] theorem Try.dm_sl226 : Dm.tSl Try.prog 226 = false := by kernel_rfl
@[simp] theorem Try.dm_ptr226 : Dm.tPtr Try.prog 226 = true := by kernel_rfl
@[simp] theorem Try.dm_zero226 : Dm.tZero Try.prog 226 = some [.nilp] := by kernel_rfl
@[simp] theorem Try.dm_agg229 : Dm.tAgg Try.prog 229 = some false := by kernel_rfl
@[simp] theorem Try.dm_cells229 : Dm.tCells Try.prog 229 = some 1 := by kernel_rfl
@[simp] theorem Try.dm_und229 : (Program.underlying Try.prog 229).isSome = true := by kernel_rfl
@[simp] theorem Try.dm_str229 : Dm.tStr Try.prog 229 = false := by kernel_rfl
@[simp] theorem Try.dm_bool229 : Dm.tBool Try.prog 229 = false := by kernel_rfl
@[simp] theorem Try.dm_sl229 : Dm.tSl Try.prog 229 = false := by kernel_rfl
@[simp] theorem Try.dm_ptr229 : Dm.tPtr Try.prog 229 = true := by kernel_rfl
@[simp] theorem Try.dm_zero229 : Dm.tZero Try.prog 229 = some [.nilp] := by kernel_rfl
@[simp] theorem Try.dm_agg232 : Dm.tAgg Try.prog 232 = some false := by kernel_rfl
@[simp] theorem Try.dm_cells232 : Dm.tCells Try.prog 232 = some 1 := by kernel_rfl
@[simp] theorem Try.dm_und232 : (Program.underlying Try.prog 232).isSome = true := by kernel_rfl
@[simp] theorem Try.dm_elem232 : Dm.tElem Try.prog 232 = some (1, 24) := by kernel_rfl
@[simp] theorem Try.dm_str232 : Dm.tStr Try.prog 232 = false := by kernel_rfl
@[simp] theorem Try.dm_bool232 : Dm.tBool Try.prog 232 = false := by kernel_rfl
@[simp] theorem Try.dm_sl232 : Dm.tSl Try.prog 232 = true := by kernel_rfl
@[simp] theorem Try.dm_ptr232 : Dm.tPtr Try.prog 232 = false := by kernel_rfl
@[simp] theorem Try.dm_zero232 : Dm.tZero Try.prog 232 = some [.nilsl] := by kernel_rfl
@[simp] theorem Try.dm_eid232 : Dm.tElemId Try.prog 232 = some 114 := by kernel_rfl
@[simp] theorem Try.dm_ez232 : Dm.tElemZ Try.prog 232 = true := by kernel_rfl
@[simp] theorem Try.dm_zok232 : Dm.zeroOK Try.prog 232 = true := by kernel_rfl
@[simp] theorem Try.dm_zsl232 : Dm.tZeroE Try.prog 232 = some [.nilsl] := by kernel_rfl
@[simp] theorem Try.dm_agg236 : Dm.tAgg Try.prog 236 = some false := by kernel_rfl
@[simp] theorem Try.dm_cells236 : Dm.tCells Try.prog 236 = some 1 := by kernel_rfl
@[simp] theorem Try.dm_und236 : (Program.underlying Try.prog 236).isSome = true := by kernel_rfl
@[simp] theorem Try.dm_str236 : Dm.tStr Try.prog 236 = false := by kernel_rfl
@[simp] theorem Try.dm_bool236 : Dm.tBool Try.prog 236 = false := by kernel_rfl
@[simp] theorem Try.dm_sl236 : Dm.tSl Try.prog 236 = false := by kernel_rfl
@[simp] theorem Try.dm_ptr236 : Dm.tPtr Try.prog 236 = true := by kernel_rfl
@[simp] theorem Try.dm_zero236 : Dm.tZero Try.prog 236 = some [.nilp] := by kernel_rfl
@[simp] theorem Try.dm_agg238 : Dm.tAgg Try.prog 238 = some false := by kernel_rfl
@[simp] theorem Try.dm_cells238 : Dm.tCells Try.prog 238 = some 1 := by kernel_rfl
@[simp] theorem Try.dm_und238 : (Program.underlying Try.prog 238).isSome = true := by kernel_rfl
@[simp] theorem Try.dm_str238 : Dm.tStr Try.prog 238 = false := by kernel_rfl
@[simp] theorem Try.dm_bool238 : Dm.tBool Try.prog 238 = false := by kernel_rfl
@[simp] theorem Try.dm_sl238 : Dm.tSl Try.prog 238 = false := by kernel_rfl
@[simp] theorem Try.dm_ptr238 : Dm.tPtr Try.prog 238 = false := by kernel_rfl
@[simp] theorem Try.dm_zero238 : Dm.tZero Try.prog 238 = some [.nilfn] := by kernel_rfl
@[simp] theorem Try.dm_agg254 : Dm.tAgg Try.prog 254 = some true := by kernel_rfl
@[simp] theorem Try.dm_cells254 : Dm.tCells Try.prog 254 = some 0 := by kernel_rfl
@[simp] theorem Try.dm_und254 : (Program.underlying Try.prog 254).isSome = true := by kernel_rfl
@[simp] theorem Try.dm_str254 : Dm.tStr Try.prog 254 = false := by kernel_rfl
@[simp] theorem Try.dm_bool254 : Dm.tBool Try.prog 254 = false := by kernel_rfl
@[simp] theorem Try.dm_sl254 : Dm.tSl Try.prog 254 = false := by kernel_rfl
@[simp] theorem Try.dm_ptr254 : Dm.tPtr Try.prog 254 = false := by kernel_rfl
@[simp] theorem Try.dm_zero254 : Dm.tZero Try.prog 254 = some [] := by kernel_rfl
@[simp] theorem Try.dm_agg256 : Dm.tAgg Try.prog 256 = some true := by kernel_rfl
@[simp] theorem Try.dm_cells256 : Dm.tCells Try.prog 256 = some 0 := by kernel_rfl
@[simp] theorem Try.dm_und256 : (Program.underlying Try.prog 256).isSome = true := by kernel_rfl
@[simp] theorem Try.dm_str256 : Dm.tStr Try.prog 256 = false := by kernel_rfl
@[simp] theorem Try.dm_bool256 : Dm.tBool Try.prog 256 = false := by kernel_rfl
@[simp] theorem Try.dm_sl256 : Dm.tSl Try.prog 256 = false := by kernel_rfl
@[simp] theorem Try.dm_ptr256 : Dm.tPtr Try.prog 256 = false := by kernel_rfl
@[simp] theorem Try.dm_zero256 : Dm.tZero Try.prog 256 = some [] := by kernel_rfl
@[simp] theorem Try.dm_field256_0 : Dm.tField Try.prog 256 0 = some (0, 0, true) := by kernel_rfl
@[simp] theorem Try.dm_parts256 : Dm.tParts Try.prog 256 = true := by kernel_rfl
@[simp] theorem Try.dm_agg265 : Dm.tAgg Try.prog 265 = some true := by kernel_rfl
@[simp] theorem Try.dm_cells265 : Dm.tCells Try.prog 265 = some 2 := by kernel_rfl
@[simp] theorem Try.dm_und265 : (Program.underlying Try.prog 265).isSome = true := by kernel_rfl
@[simp] theorem Try.dm_str265 : Dm.tStr Try.prog 265 = false := by kernel_rfl
@[simp] theorem Try.dm_bool265 : Dm.tBool Try.prog 265 = false := by kernel_rfl
@[simp] theorem Try.dm_sl265 : Dm.tSl Try.prog 265 = false := by kernel_rfl
@[simp] theorem Try.dm_ptr265 : Dm.tPtr Try.prog 265 = false := by kernel_rfl
@[simp] theorem Try.dm_zero265 : Dm.tZero Try.prog 265 = some [.bool false, .str ⟨#[]⟩] := by kernel_rfl
@[simp] theorem Try.dm_field265_0 : Dm.tField Try.prog 265 0 = some (0, 1, false) := by kernel_rfl
@[simp] theorem Try.dm_field265_1 : Dm.tField Try.prog 265 1 = some (1, 1, false) := by kernel_rfl
@[simp] theorem Try.dm_eqg265 : Program.eqGuardType Try.prog Try.prog.depth 265 = false := by kernel_rfl
@[simp] theorem Try.dm_flat265 : Dm.flat Try.prog 10000 265 = some [.b, .s] := by kernel_rfl
@[simp] theorem Try.dm_parts265 : Dm.tParts Try.prog 265 = true := by kernel_rfl
end Go.Proofs
end

