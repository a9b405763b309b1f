/- Parts of a proof, laid together: EnFacts, EnR, EnQ. -/
import Derived.Test.YtffdjbdokgbibaaGreatChecked
import Derived.KernelRfl
import Derived.Test.YtffdjbdokgbibaaGreatqCO3
section
/- The type table's facts for the data machine. Written by facts.py. -/



set_option maxRecDepth 100000
namespace Go.Proofs
open Go
@[simp] theorem Tryz.dm_agg1 : Dm.tAgg Tryz.prog 1 = some false := by kernel_rfl
@[simp] theorem Tryz.dm_cells1 : Dm.tCells Tryz.prog 1 = some 1 := by kernel_rfl
@[simp] theorem Tryz.dm_und1 : (Program.underlying Tryz.prog 1).isSome = true := by kernel_rfl
@[simp] theorem Tryz.dm_str1 : Dm.tStr Tryz.prog 1 = false := by kernel_rfl
@[simp] theorem Tryz.dm_bool1 : Dm.tBool Tryz.prog 1 = false := by kernel_rfl
@[simp] theorem Tryz.dm_sl1 : Dm.tSl Tryz.prog 1 = false := by kernel_rfl
@[simp] theorem Tryz.dm_ptr1 : Dm.tPtr Tryz.prog 1 = false := by kernel_rfl
@[simp] theorem Tryz.dm_zero1 : Dm.tZero Tryz.prog 1 = some [.nilfn] := by kernel_rfl
@[simp] theorem Tryz.dm_agg2 : Dm.tAgg Tryz.prog 2 = some false := by kernel_rfl
@[simp] theorem Tryz.dm_cells2 : Dm.tCells Tryz.prog 2 = some 1 := by kernel_rfl
@[simp] theorem Tryz.dm_und2 : (Program.underlying Tryz.prog 2).isSome = true := by kernel_rfl
@[simp] theorem Tryz.dm_int2 : Dm.tInt Tryz.prog 2 = some .i64 := by kernel_rfl
@[simp] theorem Tryz.dm_str2 : Dm.tStr Tryz.prog 2 = false := by kernel_rfl
@[simp] theorem Tryz.dm_bool2 : Dm.tBool Tryz.prog 2 = false := by kernel_rfl
@[simp] theorem Tryz.dm_sl2 : Dm.tSl Tryz.prog 2 = false := by kernel_rfl
@[simp] theorem Tryz.dm_ptr2 : Dm.tPtr Tryz.prog 2 = false := by kernel_rfl
@[simp] theorem Tryz.dm_zero2 : Dm.tZero Tryz.prog 2 = some [.int .i64 0] := by kernel_rfl
@[simp] theorem Tryz.dm_agg3 : Dm.tAgg Tryz.prog 3 = some false := by kernel_rfl
@[simp] theorem Tryz.dm_cells3 : Dm.tCells Tryz.prog 3 = some 1 := by kernel_rfl
@[simp] theorem Tryz.dm_und3 : (Program.underlying Tryz.prog 3).isSome = true := by kernel_rfl
@[simp] theorem Tryz.dm_int3 : Dm.tInt Tryz.prog 3 = some .i64 := by kernel_rfl
@[simp] theorem Tryz.dm_str3 : Dm.tStr Tryz.prog 3 = false := by kernel_rfl
@[simp] theorem Tryz.dm_bool3 : Dm.tBool Tryz.prog 3 = false := by kernel_rfl
@[simp] theorem Tryz.dm_sl3 : Dm.tSl Tryz.prog 3 = false := by kernel_rfl
@[simp] theorem Tryz.dm_ptr3 : Dm.tPtr Tryz.prog 3 = false := by kernel_rfl
@[simp] theorem Tryz.dm_zero3 : Dm.tZero Tryz.prog 3 = some [.int .i64 0] := by kernel_rfl
@[simp] theorem Tryz.dm_agg4 : Dm.tAgg Tryz.prog 4 = some false := by kernel_rfl
@[simp] theorem Tryz.dm_cells4 : Dm.tCells Tryz.prog 4 = some 1 := by kernel_rfl
@[simp] theorem Tryz.dm_und4 : (Program.underlying Tryz.prog 4).isSome = true := by kernel_rfl
@[simp] theorem Tryz.dm_str4 : Dm.tStr Tryz.prog 4 = false := by kernel_rfl
@[simp] theorem Tryz.dm_bool4 : Dm.tBool Tryz.prog 4 = true := by kernel_rfl
@[simp] theorem Tryz.dm_sl4 : Dm.tSl Tryz.prog 4 = false := by kernel_rfl
@[simp] theorem Tryz.dm_ptr4 : Dm.tPtr Tryz.prog 4 = false := by kernel_rfl
@[simp] theorem Tryz.dm_zero4 : Dm.tZero Tryz.prog 4 = some [.bool false] := by kernel_rfl
@[simp] theorem Tryz.dm_agg5 : Dm.tAgg Tryz.prog 5 = some false := by kernel_rfl
@[simp] theorem Tryz.dm_cells5 : Dm.tCells Tryz.prog 5 = some 1 := by kernel_rfl
@[simp] theorem Tryz.dm_und5 : (Program.underlying Tryz.prog 5).isSome = true := by kernel_rfl
@[simp] theorem Tryz.dm_int5 : Dm.tInt Tryz.prog 5 = some .u8 := by kernel_rfl
@[simp] theorem Tryz.dm_str5 : Dm.tStr Tryz.prog 5 = false := by kernel_rfl
@[simp] theorem Tryz.dm_bool5 : Dm.tBool Tryz.prog 5 = false := by kernel_rfl
@[simp] theorem Tryz.dm_sl5 : Dm.tSl Tryz.prog 5 = false := by kernel_rfl
@[simp] theorem Tryz.dm_ptr5 : Dm.tPtr Tryz.prog 5 = false := by kernel_rfl
@[simp] theorem Tryz.dm_zero5 : Dm.tZero Tryz.prog 5 = some [.int .u8 0] := by kernel_rfl
@[simp] theorem Tryz.dm_agg6 : Dm.tAgg Tryz.prog 6 = some false := by kernel_rfl
@[simp] theorem Tryz.dm_cells6 : Dm.tCells Tryz.prog 6 = some 1 := by kernel_rfl
@[simp] theorem Tryz.dm_und6 : (Program.underlying Tryz.prog 6).isSome = true := by kernel_rfl
@[simp] theorem Tryz.dm_int6 : Dm.tInt Tryz.prog 6 = some .u8 := by kernel_rfl
@[simp] theorem Tryz.dm_str6 : Dm.tStr Tryz.prog 6 = false := by kernel_rfl
@[simp] theorem Tryz.dm_bool6 : Dm.tBool Tryz.prog 6 = false := by kernel_rfl
@[simp] theorem Tryz.dm_sl6 : Dm.tSl Tryz.prog 6 = false := by kernel_rfl
@[simp] theorem Tryz.dm_ptr6 : Dm.tPtr Tryz.prog 6 = false := by kernel_rfl
@[simp] theorem Tryz.dm_zero6 : Dm.tZero Tryz.prog 6 = some [.int .u8 0] := by kernel_rfl
@[simp] theorem Tryz.dm_agg7 : Dm.tAgg Tryz.prog 7 = some true := by kernel_rfl
@[simp] theorem Tryz.dm_cells7 : Dm.tCells Tryz.prog 7 = some 4 := by kernel_rfl
@[simp] theorem Tryz.dm_und7 : (Program.underlying Tryz.prog 7).isSome = true := by kernel_rfl
@[simp] theorem Tryz.dm_str7 : Dm.tStr Tryz.prog 7 = false := by kernel_rfl
@[simp] theorem Tryz.dm_bool7 : Dm.tBool Tryz.prog 7 = false := by kernel_rfl
@[simp] theorem Tryz.dm_sl7 : Dm.tSl Tryz.prog 7 = false := by kernel_rfl
@[simp] theorem Tryz.dm_ptr7 : Dm.tPtr Tryz.prog 7 = false := by kernel_rfl
@[simp] theorem Tryz.dm_zero7 : Dm.tZero Tryz.prog 7 = some [.int .i64 0, .int .i64 0, .bool false, .int .u8 0] := by kernel_rfl
@[simp] theorem Tryz.dm_field7_0 : Dm.tField Tryz.prog 7 0 = some (0, 1, false) := by kernel_rfl
@[simp] theorem Tryz.dm_field7_1 : Dm.tField Tryz.prog 7 1 = some (1, 1, false) := by kernel_rfl
@[simp] theorem Tryz.dm_field7_2 : Dm.tField Tryz.prog 7 2 = some (2, 1, false) := by kernel_rfl
@[simp] theorem Tryz.dm_field7_3 : Dm.tField Tryz.prog 7 3 = some (3, 1, false) := by kernel_rfl
@[simp] theorem Tryz.dm_eqg7 : Program.eqGuardType Tryz.prog Tryz.prog.depth 7 = false := by kernel_rfl
@[simp] theorem Tryz.dm_flat7 : Dm.flat Tryz.prog 10000 7 = some [.i .i64, .i .i64, .b, .i .u8] := by kernel_rfl
@[simp] theorem Tryz.dm_parts7 : Dm.tParts Tryz.prog 7 = true := by kernel_rfl
@[simp] theorem Tryz.dm_agg8 : Dm.tAgg Tryz.prog 8 = some true := by kernel_rfl
@[simp] theorem Tryz.dm_cells8 : Dm.tCells Tryz.prog 8 = some 4 := by kernel_rfl
@[simp] theorem Tryz.dm_und8 : (Program.underlying Tryz.prog 8).isSome = true := by kernel_rfl
@[simp] theorem Tryz.dm_str8 : Dm.tStr Tryz.prog 8 = false := by kernel_rfl
@[simp] theorem Tryz.dm_bool8 : Dm.tBool Tryz.prog 8 = false := by kernel_rfl
@[simp] theorem Tryz.dm_sl8 : Dm.tSl Tryz.prog 8 = false := by kernel_rfl
@[simp] theorem Tryz.dm_ptr8 : Dm.tPtr Tryz.prog 8 = false := by kernel_rfl
@[simp] theorem Tryz.dm_zero8 : Dm.tZero Tryz.prog 8 = some [.int .i64 0, .int .i64 0, .bool false, .int .u8 0] := by kernel_rfl
@[simp] theorem Tryz.dm_field8_0 : Dm.tField Tryz.prog 8 0 = some (0, 1, false) := by kernel_rfl
@[simp] theorem Tryz.dm_field8_1 : Dm.tField Tryz.prog 8 1 = some (1, 1, false) := by kernel_rfl
@[simp] theorem Tryz.dm_field8_2 : Dm.tField Tryz.prog 8 2 = some (2, 1, false) := by kernel_rfl
@[simp] theorem Tryz.dm_field8_3 : Dm.tField Tryz.prog 8 3 = some (3, 1, false) := by kernel_rfl
@[simp] theorem Tryz.dm_eqg8 : Program.eqGuardType Tryz.prog Tryz.prog.depth 8 = false := by kernel_rfl
@[simp] theorem Tryz.dm_flat8 : Dm.flat Tryz.prog 10000 8 = some [.i .i64, .i .i64, .b, .i .u8] := by kernel_rfl
@[simp] theorem Tryz.dm_parts8 : Dm.tParts Tryz.prog 8 = true := by kernel_rfl
@[simp] theorem Tryz.dm_agg9 : Dm.tAgg Tryz.prog 9 = some false := by kernel_rfl
@[simp] theorem Tryz.dm_cells9 : Dm.tCells Tryz.prog 9 = some 1 := by kernel_rfl
@[simp] theorem Tryz.dm_und9 : (Program.underlying Tryz.prog 9).isSome = true := by kernel_rfl
@[simp] theorem Tryz.dm_str9 : Dm.tStr Tryz.prog 9 = true := by kernel_rfl
@[simp] theorem Tryz.dm_bool9 : Dm.tBool Tryz.prog 9 = false := by kernel_rfl
@[simp] theorem Tryz.dm_sl9 : Dm.tSl Tryz.prog 9 = false := by kernel_rfl
@[simp] theorem Tryz.dm_ptr9 : Dm.tPtr Tryz.prog 9 = false := by kernel_rfl
@[simp] theorem Tryz.dm_zero9 : Dm.tZero Tryz.prog 9 = some [.str ⟨#[]⟩] := by kernel_rfl
@[simp] theorem Tryz.dm_agg10 : Dm.tAgg Tryz.prog 10 = some false := by kernel_rfl
@[simp] theorem Tryz.dm_cells10 : Dm.tCells Tryz.prog 10 = some 1 := by kernel_rfl
@[simp] theorem Tryz.dm_und10 : (Program.underlying Tryz.prog 10).isSome = true := by kernel_rfl
@[simp] theorem Tryz.dm_str10 : Dm.tStr Tryz.prog 10 = true := by kernel_rfl
@[simp] theorem Tryz.dm_bool10 : Dm.tBool Tryz.prog 10 = false := by kernel_rfl
@[simp] theorem Tryz.dm_sl10 : Dm.tSl Tryz.prog 10 = false := by kernel_rfl
@[simp] theorem Tryz.dm_ptr10 : Dm.tPtr Tryz.prog 10 = false := by kernel_rfl
@[simp] theorem Tryz.dm_zero10 : Dm.tZero Tryz.prog 10 = some [.str ⟨#[]⟩] := by kernel_rfl
@[simp] theorem Tryz.dm_agg11 : Dm.tAgg Tryz.prog 11 = some false := by kernel_rfl
@[simp] theorem Tryz.dm_cells11 : Dm.tCells Tryz.prog 11 = some 1 := by kernel_rfl
@[simp] theorem Tryz.dm_und11 : (Program.underlying Tryz.prog 11).isSome = true := by kernel_rfl
@[simp] theorem Tryz.dm_str11 : Dm.tStr Tryz.prog 11 = true := by kernel_rfl
@[simp] theorem Tryz.dm_bool11 : Dm.tBool Tryz.prog 11 = false := by kernel_rfl
@[simp] theorem Tryz.dm_sl11 : Dm.tSl Tryz.prog 11 = false := by kernel_rfl
@[simp] theorem Tryz.dm_ptr11 : Dm.tPtr Tryz.prog 11 = false := by kernel_rfl
@[simp] theorem Tryz.dm_zero11 : Dm.tZero Tryz.prog 11 = some [.str ⟨#[]⟩] := by kernel_rfl
@[simp] theorem Tryz.dm_agg12 : Dm.tAgg Tryz.prog 12 = some false := by kernel_rfl
@[simp] theorem Tryz.dm_cells12 : Dm.tCells Tryz.prog 12 = some 1 := by kernel_rfl
@[simp] theorem Tryz.dm_und12 : (Program.underlying Tryz.prog 12).isSome = true := by kernel_rfl
@[simp] theorem Tryz.dm_int12 : Dm.tInt Tryz.prog 12 = some .u64 := by kernel_rfl
@[simp] theorem Tryz.dm_str12 : Dm.tStr Tryz.prog 12 = false := by kernel_rfl
@[simp] theorem Tryz.dm_bool12 : Dm.tBool Tryz.prog 12 = false := by kernel_rfl
@[simp] theorem Tryz.dm_sl12 : Dm.tSl Tryz.prog 12 = false := by kernel_rfl
@[simp] theorem Tryz.dm_ptr12 : Dm.tPtr Tryz.prog 12 = false := by kernel_rfl
@[simp] theorem Tryz.dm_zero12 : Dm.tZero Tryz.prog 12 = some [.int .u64 0] := by kernel_rfl
@[simp] theorem Tryz.dm_agg13 : Dm.tAgg Tryz.prog 13 = some true := by kernel_rfl
@[simp] theorem Tryz.dm_cells13 : Dm.tCells Tryz.prog 13 = some 2 := by kernel_rfl
@[simp] theorem Tryz.dm_und13 : (Program.underlying Tryz.prog 13).isSome = true := by kernel_rfl
@[simp] theorem Tryz.dm_str13 : Dm.tStr Tryz.prog 13 = false := by kernel_rfl
@[simp] theorem Tryz.dm_bool13 : Dm.tBool Tryz.prog 13 = false := by kernel_rfl
@[simp] theorem Tryz.dm_sl13 : Dm.tSl Tryz.prog 13 = false := by kernel_rfl
@[simp] theorem Tryz.dm_ptr13 : Dm.tPtr Tryz.prog 13 = false := by kernel_rfl
@[simp] theorem Tryz.dm_zero13 : Dm.tZero Tryz.prog 13 = some [.str ⟨#[]⟩, .int .u64 0] := by kernel_rfl
@[simp] theorem Tryz.dm_field13_0 : Dm.tField Tryz.prog 13 0 = some (0, 1, false) := by kernel_rfl
@[simp] theorem Tryz.dm_field13_1 : Dm.tField Tryz.prog 13 1 = some (1, 1, false) := by kernel_rfl
@[simp] theorem Tryz.dm_eqg13 : Program.eqGuardType Tryz.prog Tryz.prog.depth 13 = false := by kernel_rfl
@[simp] theorem Tryz.dm_parts13 : Dm.tParts Tryz.prog 13 = true := by kernel_rfl
@[simp] theorem Tryz.dm_agg14 : Dm.tAgg Tryz.prog 14 = some true := by kernel_rfl
@[simp] theorem Tryz.dm_cells14 : Dm.tCells Tryz.prog 14 = some 2 := by kernel_rfl
@[simp] theorem Tryz.dm_und14 : (Program.underlying Tryz.prog 14).isSome = true := by kernel_rfl
@[simp] theorem Tryz.dm_str14 : Dm.tStr Tryz.prog 14 = false := by kernel_rfl
@[simp] theorem Tryz.dm_bool14 : Dm.tBool Tryz.prog 14 = false := by kernel_rfl
@[simp] theorem Tryz.dm_sl14 : Dm.tSl Tryz.prog 14 = false := by kernel_rfl
@[simp] theorem Tryz.dm_ptr14 : Dm.tPtr Tryz.prog 14 = false := by kernel_rfl
@[simp] theorem Tryz.dm_zero14 : Dm.tZero Tryz.prog 14 = some [.str ⟨#[]⟩, .int .u64 0] := by kernel_rfl
@[simp] theorem Tryz.dm_field14_0 : Dm.tField Tryz.prog 14 0 = some (0, 1, false) := by kernel_rfl
@[simp] theorem Tryz.dm_field14_1 : Dm.tField Tryz.prog 14 1 = some (1, 1, false) := by kernel_rfl
@[simp] theorem Tryz.dm_eqg14 : Program.eqGuardType Tryz.prog Tryz.prog.depth 14 = false := by kernel_rfl
@[simp] theorem Tryz.dm_parts14 : Dm.tParts Tryz.prog 14 = true := by kernel_rfl
@[simp] theorem Tryz.dm_agg15 : Dm.tAgg Tryz.prog 15 = some false := by kernel_rfl
@[simp] theorem Tryz.dm_cells15 : Dm.tCells Tryz.prog 15 = some 1 := by kernel_rfl
@[simp] theorem Tryz.dm_und15 : (Program.underlying Tryz.prog 15).isSome = true := by kernel_rfl
@[simp] theorem Tryz.dm_str15 : Dm.tStr Tryz.prog 15 = false := by kernel_rfl
@[simp] theorem Tryz.dm_bool15 : Dm.tBool Tryz.prog 15 = false := by kernel_rfl
@[simp] theorem Tryz.dm_sl15 : Dm.tSl Tryz.prog 15 = false := by kernel_rfl
@[simp] theorem Tryz.dm_ptr15 : Dm.tPtr Tryz.prog 15 = true := by kernel_rfl
@[simp] theorem Tryz.dm_zero15 : Dm.tZero Tryz.prog 15 = some [.nilp] := by kernel_rfl
@[simp] theorem Tryz.dm_agg16 : Dm.tAgg Tryz.prog 16 = some false := by kernel_rfl
@[simp] theorem Tryz.dm_cells16 : Dm.tCells Tryz.prog 16 = some 1 := by kernel_rfl
@[simp] theorem Tryz.dm_und16 : (Program.underlying Tryz.prog 16).isSome = true := by kernel_rfl
@[simp] theorem Tryz.dm_str16 : Dm.tStr Tryz.prog 16 = false := by kernel_rfl
@[simp] theorem Tryz.dm_bool16 : Dm.tBool Tryz.prog 16 = false := by kernel_rfl
@[simp] theorem Tryz.dm_sl16 : Dm.tSl Tryz.prog 16 = false := by kernel_rfl
@[simp] theorem Tryz.dm_ptr16 : Dm.tPtr Tryz.prog 16 = true := by kernel_rfl
@[simp] theorem Tryz.dm_zero16 : Dm.tZero Tryz.prog 16 = some [.nilp] := by kernel_rfl
@[simp] theorem Tryz.dm_agg17 : Dm.tAgg Tryz.prog 17 = some false := by kernel_rfl
@[simp] theorem Tryz.dm_cells17 : Dm.tCells Tryz.prog 17 = some 1 := by kernel_rfl
@[simp] theorem Tryz.dm_und17 : (Program.underlying Tryz.prog 17).isSome = true := by kernel_rfl
@[simp] theorem Tryz.dm_str17 : Dm.tStr Tryz.prog 17 = false := by kernel_rfl
@[simp] theorem Tryz.dm_bool17 : Dm.tBool Tryz.prog 17 = false := by kernel_rfl
@[simp] theorem Tryz.dm_sl17 : Dm.tSl Tryz.prog 17 = false := by kernel_rfl
@[simp] theorem Tryz.dm_ptr17 : Dm.tPtr Tryz.prog 17 = true := by kernel_rfl
@[simp] theorem Tryz.dm_zero17 : Dm.tZero Tryz.prog 17 = some [.nilp] := by kernel_rfl
@[simp] theorem Tryz.dm_agg18 : Dm.tAgg Tryz.prog 18 = some true := by kernel_rfl
@[simp] theorem Tryz.dm_cells18 : Dm.tCells Tryz.prog 18 = some 1 := by kernel_rfl
@[simp] theorem Tryz.dm_und18 : (Program.underlying Tryz.prog 18).isSome = true := by kernel_rfl
@[simp] theorem Tryz.dm_str18 : Dm.tStr Tryz.prog 18 = false := by kernel_rfl
@[simp] theorem Tryz.dm_bool18 : Dm.tBool Tryz.prog 18 = false := by kernel_rfl
@[simp] theorem Tryz.dm_sl18 : Dm.tSl Tryz.prog 18 = false := by kernel_rfl
@[simp] theorem Tryz.dm_ptr18 : Dm.tPtr Tryz.prog 18 = false := by kernel_rfl
@[simp] theorem Tryz.dm_zero18 : Dm.tZero Tryz.prog 18 = some [.nilp] := by kernel_rfl
@[simp] theorem Tryz.dm_field18_0 : Dm.tField Tryz.prog 18 0 = some (0, 1, false) := by kernel_rfl
@[simp] theorem Tryz.dm_parts18 : Dm.tParts Tryz.prog 18 = true := by kernel_rfl
@[simp] theorem Tryz.dm_agg19 : Dm.tAgg Tryz.prog 19 = some true := by kernel_rfl
@[simp] theorem Tryz.dm_cells19 : Dm.tCells Tryz.prog 19 = some 1 := by kernel_rfl
@[simp] theorem Tryz.dm_und19 : (Program.underlying Tryz.prog 19).isSome = true := by kernel_rfl
@[simp] theorem Tryz.dm_str19 : Dm.tStr Tryz.prog 19 = false := by kernel_rfl
@[simp] theorem Tryz.dm_bool19 : Dm.tBool Tryz.prog 19 = false := by kernel_rfl
@[simp] theorem Tryz.dm_sl19 : Dm.tSl Tryz.prog 19 = false := by kernel_rfl
@[simp] theorem Tryz.dm_ptr19 : Dm.tPtr Tryz.prog 19 = false := by kernel_rfl
@[simp] theorem Tryz.dm_zero19 : Dm.tZero Tryz.prog 19 = some [.nilp] := by kernel_rfl
@[simp] theorem Tryz.dm_field19_0 : Dm.tField Tryz.prog 19 0 = some (0, 1, false) := by kernel_rfl
@[simp] theorem Tryz.dm_parts19 : Dm.tParts Tryz.prog 19 = true := by kernel_rfl
@[simp] theorem Tryz.dm_agg20 : Dm.tAgg Tryz.prog 20 = some false := by kernel_rfl
@[simp] theorem Tryz.dm_cells20 : Dm.tCells Tryz.prog 20 = some 1 := by kernel_rfl
@[simp] theorem Tryz.dm_und20 : (Program.underlying Tryz.prog 20).isSome = true := by kernel_rfl
@[simp] theorem Tryz.dm_str20 : Dm.tStr Tryz.prog 20 = false := by kernel_rfl
@[simp] theorem Tryz.dm_bool20 : Dm.tBool Tryz.prog 20 = false := by kernel_rfl
@[simp] theorem Tryz.dm_sl20 : Dm.tSl Tryz.prog 20 = false := by kernel_rfl
@[simp] theorem Tryz.dm_ptr20 : Dm.tPtr Tryz.prog 20 = false := by kernel_rfl
@[simp] theorem Tryz.dm_zero20 : Dm.tZero Tryz.prog 20 = some [.nilifc] := by kernel_rfl
@[simp] theorem Tryz.dm_agg21 : Dm.tAgg Tryz.prog 21 = some false := by kernel_rfl
@[simp] theorem Tryz.dm_cells21 : Dm.tCells Tryz.prog 21 = some 1 := by kernel_rfl
@[simp] theorem Tryz.dm_und21 : (Program.underlying Tryz.prog 21).isSome = true := by kernel_rfl
@[simp] theorem Tryz.dm_int21 : Dm.tInt Tryz.prog 21 = some .i32 := by kernel_rfl
@[simp] theorem Tryz.dm_str21 : Dm.tStr Tryz.prog 21 = false := by kernel_rfl
@[simp] theorem Tryz.dm_bool21 : Dm.tBool Tryz.prog 21 = false := by kernel_rfl
@[simp] theorem Tryz.dm_sl21 : Dm.tSl Tryz.prog 21 = false := by kernel_rfl
@[simp] theorem Tryz.dm_ptr21 : Dm.tPtr Tryz.prog 21 = false := by kernel_rfl
@[simp] theorem Tryz.dm_zero21 : Dm.tZero Tryz.prog 21 = some [.int .i32 0] := by kernel_rfl
@[simp] theorem Tryz.dm_agg22 : Dm.tAgg Tryz.prog 22 = some false := by kernel_rfl
@[simp] theorem Tryz.dm_cells22 : Dm.tCells Tryz.prog 22 = some 1 := by kernel_rfl
@[simp] theorem Tryz.dm_und22 : (Program.underlying Tryz.prog 22).isSome = true := by kernel_rfl
@[simp] theorem Tryz.dm_elem22 : Dm.tElem Tryz.prog 22 = some (1, 24) := by kernel_rfl
@[simp] theorem Tryz.dm_str22 : Dm.tStr Tryz.prog 22 = false := by kernel_rfl
@[simp] theorem Tryz.dm_bool22 : Dm.tBool Tryz.prog 22 = false := by kernel_rfl
@[simp] theorem Tryz.dm_sl22 : Dm.tSl Tryz.prog 22 = true := by kernel_rfl
@[simp] theorem Tryz.dm_ptr22 : Dm.tPtr Tryz.prog 22 = false := by kernel_rfl
@[simp] theorem Tryz.dm_zero22 : Dm.tZero Tryz.prog 22 = some [.nilsl] := by kernel_rfl
@[simp] theorem Tryz.dm_eid22 : Dm.tElemId Tryz.prog 22 = some 24 := by kernel_rfl
@[simp] theorem Tryz.dm_ez22 : Dm.tElemZ Tryz.prog 22 = true := by kernel_rfl
@[simp] theorem Tryz.dm_zok22 : Dm.zeroOK Tryz.prog 22 = true := by kernel_rfl
@[simp] theorem Tryz.dm_zsl22 : Dm.tZeroE Tryz.prog 22 = some [.nilsl] := by kernel_rfl
@[simp] theorem Tryz.dm_agg23 : Dm.tAgg Tryz.prog 23 = some false := by kernel_rfl
@[simp] theorem Tryz.dm_cells23 : Dm.tCells Tryz.prog 23 = some 1 := by kernel_rfl
@[simp] theorem Tryz.dm_und23 : (Program.underlying Tryz.prog 23).isSome = true := by kernel_rfl
@[simp] theorem Tryz.dm_str23 : Dm.tStr Tryz.prog 23 = false := by kernel_rfl
@[simp] theorem Tryz.dm_bool23 : Dm.tBool Tryz.prog 23 = false := by kernel_rfl
@[simp] theorem Tryz.dm_sl23 : Dm.tSl Tryz.prog 23 = false := by kernel_rfl
@[simp] theorem Tryz.dm_ptr23 : Dm.tPtr Tryz.prog 23 = false := by kernel_rfl
@[simp] theorem Tryz.dm_zero23 : Dm.tZero Tryz.prog 23 = some [.nilfn] := by kernel_rfl
@[simp] theorem Tryz.dm_agg24 : Dm.tAgg Tryz.prog 24 = some false := by kernel_rfl
@[simp] theorem Tryz.dm_cells24 : Dm.tCells Tryz.prog 24 = some 1 := by kernel_rfl
@[simp] theorem Tryz.dm_und24 : (Program.underlying Tryz.prog 24).isSome = true := by kernel_rfl
@[simp] theorem Tryz.dm_elem24 : Dm.tElem Tryz.prog 24 = some (3, 48) := by kernel_rfl
@[simp] theorem Tryz.dm_str24 : Dm.tStr Tryz.prog 24 = false := by kernel_rfl
@[simp] theorem Tryz.dm_bool24 : Dm.tBool Tryz.prog 24 = false := by kernel_rfl
@[simp] theorem Tryz.dm_sl24 : Dm.tSl Tryz.prog 24 = true := by kernel_rfl
@[simp] theorem Tryz.dm_ptr24 : Dm.tPtr Tryz.prog 24 = false := by kernel_rfl
@[simp] theorem Tryz.dm_zero24 : Dm.tZero Tryz.prog 24 = some [.nilsl] := by kernel_rfl
@[simp] theorem Tryz.dm_eid24 : Dm.tElemId Tryz.prog 24 = some 40 := by kernel_rfl
@[simp] theorem Tryz.dm_ez24 : Dm.tElemZ Tryz.prog 24 = true := by kernel_rfl
@[simp] theorem Tryz.dm_zok24 : Dm.zeroOK Tryz.prog 24 = true := by kernel_rfl
@[simp] theorem Tryz.dm_zsl24 : Dm.tZeroE Tryz.prog 24 = some [.str ⟨#[]⟩, .str ⟨#[]⟩, .str ⟨#[]⟩] := by kernel_rfl
@[simp] theorem Tryz.dm_agg25 : Dm.tAgg Tryz.prog 25 = some false := by kernel_rfl
@[simp] theorem Tryz.dm_cells25 : Dm.tCells Tryz.prog 25 = some 1 := by kernel_rfl
@[simp] theorem Tryz.dm_und25 : (Program.underlying Tryz.prog 25).isSome = true := by kernel_rfl
@[simp] theorem Tryz.dm_elem25 : Dm.tElem Tryz.prog 25 = some (1, 16) := by kernel_rfl
@[simp] theorem Tryz.dm_str25 : Dm.tStr Tryz.prog 25 = false := by kernel_rfl
@[simp] theorem Tryz.dm_bool25 : Dm.tBool Tryz.prog 25 = false := by kernel_rfl
@[simp] theorem Tryz.dm_sl25 : Dm.tSl Tryz.prog 25 = true := by kernel_rfl
@[simp] theorem Tryz.dm_ptr25 : Dm.tPtr Tryz.prog 25 = false := by kernel_rfl
@[simp] theorem Tryz.dm_zero25 : Dm.tZero Tryz.prog 25 = some [.nilsl] := by kernel_rfl
@[simp] theorem Tryz.dm_eid25 : Dm.tElemId Tryz.prog 25 = some 9 := by kernel_rfl
@[simp] theorem Tryz.dm_ez25 : Dm.tElemZ Tryz.prog 25 = true := by kernel_rfl
@[simp] theorem Tryz.dm_zok25 : Dm.zeroOK Tryz.prog 25 = true := by kernel_rfl
@[simp] theorem Tryz.dm_zsl25 : Dm.tZeroE Tryz.prog 25 = some [.str ⟨#[]⟩] := by kernel_rfl
@[simp] theorem Tryz.dm_agg26 : Dm.tAgg Tryz.prog 26 = some true := by kernel_rfl
@[simp] theorem Tryz.dm_cells26 : Dm.tCells Tryz.prog 26 = some 2 := by kernel_rfl
@[simp] theorem Tryz.dm_und26 : (Program.underlying Tryz.prog 26).isSome = true := by kernel_rfl
@[simp] theorem Tryz.dm_str26 : Dm.tStr Tryz.prog 26 = false := by kernel_rfl
@[simp] theorem Tryz.dm_bool26 : Dm.tBool Tryz.prog 26 = false := by kernel_rfl
@[simp] theorem Tryz.dm_sl26 : Dm.tSl Tryz.prog 26 = false := by kernel_rfl
@[simp] theorem Tryz.dm_ptr26 : Dm.tPtr Tryz.prog 26 = false := by kernel_rfl
@[simp] theorem Tryz.dm_zero26 : Dm.tZero Tryz.prog 26 = some [.nilsl, .nilsl] := by kernel_rfl
@[simp] theorem Tryz.dm_field26_0 : Dm.tField Tryz.prog 26 0 = some (0, 1, false) := by kernel_rfl
@[simp] theorem Tryz.dm_field26_1 : Dm.tField Tryz.prog 26 1 = some (1, 1, false) := by kernel_rfl
@[simp] theorem Tryz.dm_parts26 : Dm.tParts Tryz.prog 26 = true := by kernel_rfl
@[simp] theorem Tryz.dm_agg27 : Dm.tAgg Tryz.prog 27 = some true := by kernel_rfl
@[simp] theorem Tryz.dm_cells27 : Dm.tCells Tryz.prog 27 = some 2 := by kernel_rfl
@[simp] theorem Tryz.dm_und27 : (Program.underlying Tryz.prog 27).isSome = true := by kernel_rfl
@[simp] theorem Tryz.dm_str27 : Dm.tStr Tryz.prog 27 = false := by kernel_rfl
@[simp] theorem Tryz.dm_bool27 : Dm.tBool Tryz.prog 27 = false := by kernel_rfl
@[simp] theorem Tryz.dm_sl27 : Dm.tSl Tryz.prog 27 = false := by kernel_rfl
@[simp] theorem Tryz.dm_ptr27 : Dm.tPtr Tryz.prog 27 = false := by kernel_rfl
@[simp] theorem Tryz.dm_zero27 : Dm.tZero Tryz.prog 27 = some [.nilsl, .nilsl] := by kernel_rfl
@[simp] theorem Tryz.dm_field27_0 : Dm.tField Tryz.prog 27 0 = some (0, 1, false) := by kernel_rfl
@[simp] theorem Tryz.dm_field27_1 : Dm.tField Tryz.prog 27 1 = some (1, 1, false) := by kernel_rfl
@[simp] theorem Tryz.dm_parts27 : Dm.tParts Tryz.prog 27 = true := by kernel_rfl
@[simp] theorem Tryz.dm_agg28 : Dm.tAgg Tryz.prog 28 = some false := by kernel_rfl
@[simp] theorem Tryz.dm_cells28 : Dm.tCells Tryz.prog 28 = some 1 := by kernel_rfl
@[simp] theorem Tryz.dm_und28 : (Program.underlying Tryz.prog 28).isSome = true := by kernel_rfl
@[simp] theorem Tryz.dm_int28 : Dm.tInt Tryz.prog 28 = some .i64 := by kernel_rfl
@[simp] theorem Tryz.dm_str28 : Dm.tStr Tryz.prog 28 = false := by kernel_rfl
@[simp] theorem Tryz.dm_bool28 : Dm.tBool Tryz.prog 28 = false := by kernel_rfl
@[simp] theorem Tryz.dm_sl28 : Dm.tSl Tryz.prog 28 = false := by kernel_rfl
@[simp] theorem Tryz.dm_ptr28 : Dm.tPtr Tryz.prog 28 = false := by kernel_rfl
@[simp] theorem Tryz.dm_zero28 : Dm.tZero Tryz.prog 28 = some [.int .i64 0] := by kernel_rfl
@[simp] theorem Tryz.dm_agg30 : Dm.tAgg Tryz.prog 30 = some false := by kernel_rfl
@[simp] theorem Tryz.dm_cells30 : Dm.tCells Tryz.prog 30 = some 1 := by kernel_rfl
@[simp] theorem Tryz.dm_und30 : (Program.underlying Tryz.prog 30).isSome = true := by kernel_rfl
@[simp] theorem Tryz.dm_str30 : Dm.tStr Tryz.prog 30 = false := by kernel_rfl
@[simp] theorem Tryz.dm_bool30 : Dm.tBool Tryz.prog 30 = false := by kernel_rfl
@[simp] theorem Tryz.dm_sl30 : Dm.tSl Tryz.prog 30 = false := by kernel_rfl
@[simp] theorem Tryz.dm_ptr30 : Dm.tPtr Tryz.prog 30 = false := by kernel_rfl
@[simp] theorem Tryz.dm_zero30 : Dm.tZero Tryz.prog 30 = some [.nilfn] := by kernel_rfl
@[simp] theorem Tryz.dm_agg31 : Dm.tAgg Tryz.prog 31 = some false := by kernel_rfl
@[simp] theorem Tryz.dm_cells31 : Dm.tCells Tryz.prog 31 = some 1 := by kernel_rfl
@[simp] theorem Tryz.dm_und31 : (Program.underlying Tryz.prog 31).isSome = true := by kernel_rfl
@[simp] theorem Tryz.dm_str31 : Dm.tStr Tryz.prog 31 = false := by kernel_rfl
@[simp] theorem Tryz.dm_bool31 : Dm.tBool Tryz.prog 31 = false := by kernel_rfl
@[simp] theorem Tryz.dm_sl31 : Dm.tSl Tryz.prog 31 = false := by kernel_rfl
@[simp] theorem Tryz.dm_ptr31 : Dm.tPtr Tryz.prog 31 = false := by kernel_rfl
@[simp] theorem Tryz.dm_zero31 : Dm.tZero Tryz.prog 31 = some [.nilfn] := by kernel_rfl
@[simp] theorem Tryz.dm_agg32 : Dm.tAgg Tryz.prog 32 = some false := by kernel_rfl
@[simp] theorem Tryz.dm_cells32 : Dm.tCells Tryz.prog 32 = some 1 := by kernel_rfl
@[simp] theorem Tryz.dm_und32 : (Program.underlying Tryz.prog 32).isSome = true := by kernel_rfl
@[simp] theorem Tryz.dm_str32 : Dm.tStr Tryz.prog 32 = false := by kernel_rfl
@[simp] theorem Tryz.dm_bool32 : Dm.tBool Tryz.prog 32 = false := by kernel_rfl
@[simp] theorem Tryz.dm_sl32 : Dm.tSl Tryz.prog 32 = false := by kernel_rfl
@[simp] theorem Tryz.dm_ptr32 : Dm.tPtr Tryz.prog 32 = false := by kernel_rfl
@[simp] theorem Tryz.dm_zero32 : Dm.tZero Tryz.prog 32 = some [.nilfn] := by kernel_rfl
@[simp] theorem Tryz.dm_agg33 : Dm.tAgg Tryz.prog 33 = some false := by kernel_rfl
@[simp] theorem Tryz.dm_cells33 : Dm.tCells Tryz.prog 33 = some 1 := by kernel_rfl
@[simp] theorem Tryz.dm_und33 : (Program.underlying Tryz.prog 33).isSome = true := by kernel_rfl
@[simp] theorem Tryz.dm_str33 : Dm.tStr Tryz.prog 33 = false := by kernel_rfl
@[simp] theorem Tryz.dm_bool33 : Dm.tBool Tryz.prog 33 = false := by kernel_rfl
@[simp] theorem Tryz.dm_sl33 : Dm.tSl Tryz.prog 33 = false := by kernel_rfl
@[simp] theorem Tryz.dm_ptr33 : Dm.tPtr Tryz.prog 33 = false := by kernel_rfl
@[simp] theorem Tryz.dm_zero33 : Dm.tZero Tryz.prog 33 = some [.nilfn] := by kernel_rfl
@[simp] theorem Tryz.dm_agg34 : Dm.tAgg Tryz.prog 34 = some false := by kernel_rfl
@[simp] theorem Tryz.dm_cells34 : Dm.tCells Tryz.prog 34 = some 1 := by kernel_rfl
@[simp] theorem Tryz.dm_und34 : (Program.underlying Tryz.prog 34).isSome = true := by kernel_rfl
@[simp] theorem Tryz.dm_str34 : Dm.tStr Tryz.prog 34 = false := by kernel_rfl
@[simp] theorem Tryz.dm_bool34 : Dm.tBool Tryz.prog 34 = false := by kernel_rfl
@[simp] theorem Tryz.dm_sl34 : Dm.tSl Tryz.prog 34 = false := by kernel_rfl
@[simp] theorem Tryz.dm_ptr34 : Dm.tPtr Tryz.prog 34 = false := by kernel_rfl
@[simp] theorem Tryz.dm_zero34 : Dm.tZero Tryz.prog 34 = some [.nilfn] := by kernel_rfl
@[simp] theorem Tryz.dm_agg35 : Dm.tAgg Tryz.prog 35 = some false := by kernel_rfl
@[simp] theorem Tryz.dm_cells35 : Dm.tCells Tryz.prog 35 = some 1 := by kernel_rfl
@[simp] theorem Tryz.dm_und35 : (Program.underlying Tryz.prog 35).isSome = true := by kernel_rfl
@[simp] theorem Tryz.dm_str35 : Dm.tStr Tryz.prog 35 = false := by kernel_rfl
@[simp] theorem Tryz.dm_bool35 : Dm.tBool Tryz.prog 35 = false := by kernel_rfl
@[simp] theorem Tryz.dm_sl35 : Dm.tSl Tryz.prog 35 = false := by kernel_rfl
@[simp] theorem Tryz.dm_ptr35 : Dm.tPtr Tryz.prog 35 = false := by kernel_rfl
@[simp] theorem Tryz.dm_zero35 : Dm.tZero Tryz.prog 35 = some [.nilfn] := by kernel_rfl
@[simp] theorem Tryz.dm_agg36 : Dm.tAgg Tryz.prog 36 = some false := by kernel_rfl
@[simp] theorem Tryz.dm_cells36 : Dm.tCells Tryz.prog 36 = some 1 := by kernel_rfl
@[simp] theorem Tryz.dm_und36 : (Program.underlying Tryz.prog 36).isSome = true := by kernel_rfl
@[simp] theorem Tryz.dm_str36 : Dm.tStr Tryz.prog 36 = false := by kernel_rfl
@[simp] theorem Tryz.dm_bool36 : Dm.tBool Tryz.prog 36 = false := by kernel_rfl
@[simp] theorem Tryz.dm_sl36 : Dm.tSl Tryz.prog 36 = false := by kernel_rfl
@[simp] theorem Tryz.dm_ptr36 : Dm.tPtr Tryz.prog 36 = false := by kernel_rfl
@[simp] theorem Tryz.dm_zero36 : Dm.tZero Tryz.prog 36 = some [.nilfn] := by kernel_rfl
@[simp] theorem Tryz.dm_agg37 : Dm.tAgg Tryz.prog 37 = some false := by kernel_rfl
@[simp] theorem Tryz.dm_cells37 : Dm.tCells Tryz.prog 37 = some 1 := by kernel_rfl
@[simp] theorem Tryz.dm_und37 : (Program.underlying Tryz.prog 37).isSome = true := by kernel_rfl
@[simp] theorem Tryz.dm_str37 : Dm.tStr Tryz.prog 37 = false := by kernel_rfl
@[simp] theorem Tryz.dm_bool37 : Dm.tBool Tryz.prog 37 = false := by kernel_rfl
@[simp] theorem Tryz.dm_sl37 : Dm.tSl Tryz.prog 37 = false := by kernel_rfl
@[simp] theorem Tryz.dm_ptr37 : Dm.tPtr Tryz.prog 37 = false := by kernel_rfl
@[simp] theorem Tryz.dm_zero37 : Dm.tZero Tryz.prog 37 = some [.nilfn] := by kernel_rfl
@[simp] theorem Tryz.dm_agg38 : Dm.tAgg Tryz.prog 38 = some false := by kernel_rfl
@[simp] theorem Tryz.dm_cells38 : Dm.tCells Tryz.prog 38 = some 1 := by kernel_rfl
@[simp] theorem Tryz.dm_und38 : (Program.underlying Tryz.prog 38).isSome = true := by kernel_rfl
@[simp] theorem Tryz.dm_str38 : Dm.tStr Tryz.prog 38 = false := by kernel_rfl
@[simp] theorem Tryz.dm_bool38 : Dm.tBool Tryz.prog 38 = false := by kernel_rfl
@[simp] theorem Tryz.dm_sl38 : Dm.tSl Tryz.prog 38 = false := by kernel_rfl
@[simp] theorem Tryz.dm_ptr38 : Dm.tPtr Tryz.prog 38 = false := by kernel_rfl
@[simp] theorem Tryz.dm_zero38 : Dm.tZero Tryz.prog 38 = some [.nilfn] := by kernel_rfl
@[simp] theorem Tryz.dm_agg39 : Dm.tAgg Tryz.prog 39 = some true := by kernel_rfl
@[simp] theorem Tryz.dm_cells39 : Dm.tCells Tryz.prog 39 = some 3 := by kernel_rfl
@[simp] theorem Tryz.dm_und39 : (Program.underlying Tryz.prog 39).isSome = true := by kernel_rfl
@[simp] theorem Tryz.dm_str39 : Dm.tStr Tryz.prog 39 = false := by kernel_rfl
@[simp] theorem Tryz.dm_bool39 : Dm.tBool Tryz.prog 39 = false := by kernel_rfl
@[simp] theorem Tryz.dm_sl39 : Dm.tSl Tryz.prog 39 = false := by kernel_rfl
@[simp] theorem Tryz.dm_ptr39 : Dm.tPtr Tryz.prog 39 = false := by kernel_rfl
@[simp] theorem Tryz.dm_zero39 : Dm.tZero Tryz.prog 39 = some [.str ⟨#[]⟩, .str ⟨#[]⟩, .str ⟨#[]⟩] := by kernel_rfl
@[simp] theorem Tryz.dm_field39_0 : Dm.tField Tryz.prog 39 0 = some (0, 1, false) := by kernel_rfl
@[simp] theorem Tryz.dm_field39_1 : Dm.tField Tryz.prog 39 1 = some (1, 1, false) := by kernel_rfl
@[simp] theorem Tryz.dm_field39_2 : Dm.tField Tryz.prog 39 2 = some (2, 1, false) := by kernel_rfl
@[simp] theorem Tryz.dm_eqg39 : Program.eqGuardType Tryz.prog Tryz.prog.depth 39 = false := by kernel_rfl
@[simp] theorem Tryz.dm_flat39 : Dm.flat Tryz.prog 10000 39 = some [.s, .s, .s] := by kernel_rfl
@[simp] theorem Tryz.dm_parts39 : Dm.tParts Tryz.prog 39 = true := by kernel_rfl
@[simp] theorem Tryz.dm_agg40 : Dm.tAgg Tryz.prog 40 = some true := by kernel_rfl
@[simp] theorem Tryz.dm_cells40 : Dm.tCells Tryz.prog 40 = some 3 := by kernel_rfl
@[simp] theorem Tryz.dm_und40 : (Program.underlying Tryz.prog 40).isSome = true := by kernel_rfl
@[simp] theorem Tryz.dm_str40 : Dm.tStr Tryz.prog 40 = false := by kernel_rfl
@[simp] theorem Tryz.dm_bool40 : Dm.tBool Tryz.prog 40 = false := by kernel_rfl
@[simp] theorem Tryz.dm_sl40 : Dm.tSl Tryz.prog 40 = false := by kernel_rfl
@[simp] theorem Tryz.dm_ptr40 : Dm.tPtr Tryz.prog 40 = false := by kernel_rfl
@[simp] theorem Tryz.dm_zero40 : Dm.tZero Tryz.prog 40 = some [.str ⟨#[]⟩, .str ⟨#[]⟩, .str ⟨#[]⟩] := by kernel_rfl
@[simp] theorem Tryz.dm_field40_0 : Dm.tField Tryz.prog 40 0 = some (0, 1, false) := by kernel_rfl
@[simp] theorem Tryz.dm_field40_1 : Dm.tField Tryz.prog 40 1 = some (1, 1, false) := by kernel_rfl
@[simp] theorem Tryz.dm_field40_2 : Dm.tField Tryz.prog 40 2 = some (2, 1, false) := by kernel_rfl
@[simp] theorem Tryz.dm_eqg40 : Program.eqGuardType Tryz.prog Tryz.prog.depth 40 = false := by kernel_rfl
@[simp] theorem Tryz.dm_flat40 : Dm.flat Tryz.prog 10000 40 = some [.s, .s, .s] := by kernel_rfl
@[simp] theorem Tryz.dm_parts40 : Dm.tParts Tryz.prog 40 = true := by kernel_rfl
@[simp] theorem Tryz.dm_agg41 : Dm.tAgg Tryz.prog 41 = some false := by kernel_rfl
@[simp] theorem Tryz.dm_cells41 : Dm.tCells Tryz.prog 41 = some 1 := by kernel_rfl
@[simp] theorem Tryz.dm_und41 : (Program.underlying Tryz.prog 41).isSome = true := by kernel_rfl
@[simp] theorem Tryz.dm_str41 : Dm.tStr Tryz.prog 41 = false := by kernel_rfl
@[simp] theorem Tryz.dm_bool41 : Dm.tBool Tryz.prog 41 = false := by kernel_rfl
@[simp] theorem Tryz.dm_sl41 : Dm.tSl Tryz.prog 41 = false := by kernel_rfl
@[simp] theorem Tryz.dm_ptr41 : Dm.tPtr Tryz.prog 41 = false := by kernel_rfl
@[simp] theorem Tryz.dm_zero41 : Dm.tZero Tryz.prog 41 = some [.nilfn] := by kernel_rfl
@[simp] theorem Tryz.dm_agg42 : Dm.tAgg Tryz.prog 42 = some false := by kernel_rfl
@[simp] theorem Tryz.dm_cells42 : Dm.tCells Tryz.prog 42 = some 1 := by kernel_rfl
@[simp] theorem Tryz.dm_und42 : (Program.underlying Tryz.prog 42).isSome = true := by kernel_rfl
@[simp] theorem Tryz.dm_str42 : Dm.tStr Tryz.prog 42 = false := by kernel_rfl
@[simp] theorem Tryz.dm_bool42 : Dm.tBool Tryz.prog 42 = false := by kernel_rfl
@[simp] theorem Tryz.dm_sl42 : Dm.tSl Tryz.prog 42 = false := by kernel_rfl
@[simp] theorem Tryz.dm_ptr42 : Dm.tPtr Tryz.prog 42 = false := by kernel_rfl
@[simp] theorem Tryz.dm_zero42 : Dm.tZero Tryz.prog 42 = some [.nilfn] := by kernel_rfl
@[simp] theorem Tryz.dm_agg43 : Dm.tAgg Tryz.prog 43 = some false := by kernel_rfl
@[simp] theorem Tryz.dm_cells43 : Dm.tCells Tryz.prog 43 = some 1 := by kernel_rfl
@[simp] theorem Tryz.dm_und43 : (Program.underlying Tryz.prog 43).isSome = true := by kernel_rfl
@[simp] theorem Tryz.dm_str43 : Dm.tStr Tryz.prog 43 = false := by kernel_rfl
@[simp] theorem Tryz.dm_bool43 : Dm.tBool Tryz.prog 43 = false := by kernel_rfl
@[simp] theorem Tryz.dm_sl43 : Dm.tSl Tryz.prog 43 = false := by kernel_rfl
@[simp] theorem Tryz.dm_ptr43 : Dm.tPtr Tryz.prog 43 = false := by kernel_rfl
@[simp] theorem Tryz.dm_zero43 : Dm.tZero Tryz.prog 43 = some [.nilfn] := by kernel_rfl
@[simp] theorem Tryz.dm_agg44 : Dm.tAgg Tryz.prog 44 = some false := by kernel_rfl
@[simp] theorem Tryz.dm_cells44 : Dm.tCells Tryz.prog 44 = some 1 := by kernel_rfl
@[simp] theorem Tryz.dm_und44 : (Program.underlying Tryz.prog 44).isSome = true := by kernel_rfl
@[simp] theorem Tryz.dm_str44 : Dm.tStr Tryz.prog 44 = false := by kernel_rfl
@[simp] theorem Tryz.dm_bool44 : Dm.tBool Tryz.prog 44 = false := by kernel_rfl
@[simp] theorem Tryz.dm_sl44 : Dm.tSl Tryz.prog 44 = false := by kernel_rfl
@[simp] theorem Tryz.dm_ptr44 : Dm.tPtr Tryz.prog 44 = false := by kernel_rfl
@[simp] theorem Tryz.dm_zero44 : Dm.tZero Tryz.prog 44 = some [.nilfn] := by kernel_rfl
@[simp] theorem Tryz.dm_agg45 : Dm.tAgg Tryz.prog 45 = some false := by kernel_rfl
@[simp] theorem Tryz.dm_cells45 : Dm.tCells Tryz.prog 45 = some 1 := by kernel_rfl
@[simp] theorem Tryz.dm_und45 : (Program.underlying Tryz.prog 45).isSome = true := by kernel_rfl
@[simp] theorem Tryz.dm_str45 : Dm.tStr Tryz.prog 45 = false := by kernel_rfl
@[simp] theorem Tryz.dm_bool45 : Dm.tBool Tryz.prog 45 = false := by kernel_rfl
@[simp] theorem Tryz.dm_sl45 : Dm.tSl Tryz.prog 45 = false := by kernel_rfl
@[simp] theorem Tryz.dm_ptr45 : Dm.tPtr Tryz.prog 45 = false := by kernel_rfl
@[simp] theorem Tryz.dm_zero45 : Dm.tZero Tryz.prog 45 = some [.nilfn] := by kernel_rfl
@[simp] theorem Tryz.dm_agg46 : Dm.tAgg Tryz.prog 46 = some false := by kernel_rfl
@[simp] theorem Tryz.dm_cells46 : Dm.tCells Tryz.prog 46 = some 1 := by kernel_rfl
@[simp] theorem Tryz.dm_und46 : (Program.underlying Tryz.prog 46).isSome = true := by kernel_rfl
@[simp] theorem Tryz.dm_elem46 : Dm.tElem Tryz.prog 46 = some (1, 8) := by kernel_rfl
@[simp] theorem Tryz.dm_str46 : Dm.tStr Tryz.prog 46 = false := by kernel_rfl
@[simp] theorem Tryz.dm_bool46 : Dm.tBool Tryz.prog 46 = false := by kernel_rfl
@[simp] theorem Tryz.dm_sl46 : Dm.tSl Tryz.prog 46 = true := by kernel_rfl
@[simp] theorem Tryz.dm_ptr46 : Dm.tPtr Tryz.prog 46 = false := by kernel_rfl
@[simp] theorem Tryz.dm_zero46 : Dm.tZero Tryz.prog 46 = some [.nilsl] := by kernel_rfl
@[simp] theorem Tryz.dm_eid46 : Dm.tElemId Tryz.prog 46 = some 3 := by kernel_rfl
@[simp] theorem Tryz.dm_ez46 : Dm.tElemZ Tryz.prog 46 = true := by kernel_rfl
@[simp] theorem Tryz.dm_zok46 : Dm.zeroOK Tryz.prog 46 = true := by kernel_rfl
@[simp] theorem Tryz.dm_zsl46 : Dm.tZeroE Tryz.prog 46 = some [.int .i64 0] := by kernel_rfl
@[simp] theorem Tryz.dm_agg47 : Dm.tAgg Tryz.prog 47 = some false := by kernel_rfl
@[simp] theorem Tryz.dm_cells47 : Dm.tCells Tryz.prog 47 = some 1 := by kernel_rfl
@[simp] theorem Tryz.dm_und47 : (Program.underlying Tryz.prog 47).isSome = true := by kernel_rfl
@[simp] theorem Tryz.dm_str47 : Dm.tStr Tryz.prog 47 = false := by kernel_rfl
@[simp] theorem Tryz.dm_bool47 : Dm.tBool Tryz.prog 47 = false := by kernel_rfl
@[simp] theorem Tryz.dm_sl47 : Dm.tSl Tryz.prog 47 = false := by kernel_rfl
@[simp] theorem Tryz.dm_ptr47 : Dm.tPtr Tryz.prog 47 = false := by kernel_rfl
@[simp] theorem Tryz.dm_zero47 : Dm.tZero Tryz.prog 47 = some [.nilfn] := by kernel_rfl
@[simp] theorem Tryz.dm_agg48 : Dm.tAgg Tryz.prog 48 = some false := by kernel_rfl
@[simp] theorem Tryz.dm_cells48 : Dm.tCells Tryz.prog 48 = some 1 := by kernel_rfl
@[simp] theorem Tryz.dm_und48 : (Program.underlying Tryz.prog 48).isSome = true := by kernel_rfl
@[simp] theorem Tryz.dm_str48 : Dm.tStr Tryz.prog 48 = false := by kernel_rfl
@[simp] theorem Tryz.dm_bool48 : Dm.tBool Tryz.prog 48 = false := by kernel_rfl
@[simp] theorem Tryz.dm_sl48 : Dm.tSl Tryz.prog 48 = false := by kernel_rfl
@[simp] theorem Tryz.dm_ptr48 : Dm.tPtr Tryz.prog 48 = false := by kernel_rfl
@[simp] theorem Tryz.dm_zero48 : Dm.tZero Tryz.prog 48 = some [.nilfn] := by kernel_rfl
@[simp] theorem Tryz.dm_agg49 : Dm.tAgg Tryz.prog 49 = some false := by kernel_rfl
@[simp] theorem Tryz.dm_cells49 : Dm.tCells Tryz.prog 49 = some 1 := by kernel_rfl
@[simp] theorem Tryz.dm_und49 : (Program.underlying Tryz.prog 49).isSome = true := by kernel_rfl
@[simp] theorem Tryz.dm_str49 : Dm.tStr Tryz.prog 49 = false := by kernel_rfl
@[simp] theorem Tryz.dm_bool49 : Dm.tBool Tryz.prog 49 = false := by kernel_rfl
@[simp] theorem Tryz.dm_sl49 : Dm.tSl Tryz.prog 49 = false := by kernel_rfl
@[simp] theorem Tryz.dm_ptr49 : Dm.tPtr Tryz.prog 49 = false := by kernel_rfl
@[simp] theorem Tryz.dm_zero49 : Dm.tZero Tryz.prog 49 = some [.nilfn] := by kernel_rfl
@[simp] theorem Tryz.dm_agg50 : Dm.tAgg Tryz.prog 50 = some false := by kernel_rfl
@[simp] theorem Tryz.dm_cells50 : Dm.tCells Tryz.prog 50 = some 1 := by kernel_rfl
@[simp] theorem Tryz.dm_und50 : (Program.underlying Tryz.prog 50).isSome = true := by kernel_rfl
@[simp] theorem Tryz.dm_str50 : Dm.tStr Tryz.prog 50 = false := by kernel_rfl
@[simp] theorem Tryz.dm_bool50 : Dm.tBool Tryz.prog 50 = false := by kernel_rfl
@[simp] theorem Tryz.dm_sl50 : Dm.tSl Tryz.prog 50 = false := by kernel_rfl
@[simp] theorem Tryz.dm_ptr50 : Dm.tPtr Tryz.prog 50 = false := by kernel_rfl
@[simp] theorem Tryz.dm_zero50 : Dm.tZero Tryz.prog 50 = some [.nilfn] := by kernel_rfl
@[simp] theorem Tryz.dm_agg51 : Dm.tAgg Tryz.prog 51 = some false := by kernel_rfl
@[simp] theorem Tryz.dm_cells51 : Dm.tCells Tryz.prog 51 = some 1 := by kernel_rfl
@[simp] theorem Tryz.dm_und51 : (Program.underlying Tryz.prog 51).isSome = true := by kernel_rfl
@[simp] theorem Tryz.dm_str51 : Dm.tStr Tryz.prog 51 = false := by kernel_rfl
@[simp] theorem Tryz.dm_bool51 : Dm.tBool Tryz.prog 51 = false := by kernel_rfl
@[simp] theorem Tryz.dm_sl51 : Dm.tSl Tryz.prog 51 = false := by kernel_rfl
@[simp] theorem Tryz.dm_ptr51 : Dm.tPtr Tryz.prog 51 = false := by kernel_rfl
@[simp] theorem Tryz.dm_zero51 : Dm.tZero Tryz.prog 51 = some [.nilfn] := by kernel_rfl
@[simp] theorem Tryz.dm_agg52 : Dm.tAgg Tryz.prog 52 = some false := by kernel_rfl
@[simp] theorem Tryz.dm_cells52 : Dm.tCells Tryz.prog 52 = some 1 := by kernel_rfl
@[simp] theorem Tryz.dm_und52 : (Program.underlying Tryz.prog 52).isSome = true := by kernel_rfl
@[simp] theorem Tryz.dm_str52 : Dm.tStr Tryz.prog 52 = false := by kernel_rfl
@[simp] theorem Tryz.dm_bool52 : Dm.tBool Tryz.prog 52 = false := by kernel_rfl
@[simp] theorem Tryz.dm_sl52 : Dm.tSl Tryz.prog 52 = false := by kernel_rfl
@[simp] theorem Tryz.dm_ptr52 : Dm.tPtr Tryz.prog 52 = false := by kernel_rfl
@[simp] theorem Tryz.dm_zero52 : Dm.tZero Tryz.prog 52 = some [.nilfn] := by kernel_rfl
@[simp] theorem Tryz.dm_agg53 : Dm.tAgg Tryz.prog 53 = some false := by kernel_rfl
@[simp] theorem Tryz.dm_cells53 : Dm.tCells Tryz.prog 53 = some 1 := by kernel_rfl
@[simp] theorem Tryz.dm_und53 : (Program.underlying Tryz.prog 53).isSome = true := by kernel_rfl
@[simp] theorem Tryz.dm_str53 : Dm.tStr Tryz.prog 53 = false := by kernel_rfl
@[simp] theorem Tryz.dm_bool53 : Dm.tBool Tryz.prog 53 = false := by kernel_rfl
@[simp] theorem Tryz.dm_sl53 : Dm.tSl Tryz.prog 53 = false := by kernel_rfl
@[simp] theorem Tryz.dm_ptr53 : Dm.tPtr Tryz.prog 53 = false := by kernel_rfl
@[simp] theorem Tryz.dm_zero53 : Dm.tZero Tryz.prog 53 = some [.nilfn] := by kernel_rfl
@[simp] theorem Tryz.dm_agg54 : Dm.tAgg Tryz.prog 54 = some false := by kernel_rfl
@[simp] theorem Tryz.dm_cells54 : Dm.tCells Tryz.prog 54 = some 1 := by kernel_rfl
@[simp] theorem Tryz.dm_und54 : (Program.underlying Tryz.prog 54).isSome = true := by kernel_rfl
@[simp] theorem Tryz.dm_str54 : Dm.tStr Tryz.prog 54 = false := by kernel_rfl
@[simp] theorem Tryz.dm_bool54 : Dm.tBool Tryz.prog 54 = false := by kernel_rfl
@[simp] theorem Tryz.dm_sl54 : Dm.tSl Tryz.prog 54 = false := by kernel_rfl
@[simp] theorem Tryz.dm_ptr54 : Dm.tPtr Tryz.prog 54 = false := by kernel_rfl
@[simp] theorem Tryz.dm_zero54 : Dm.tZero Tryz.prog 54 = some [.nilfn] := by kernel_rfl
@[simp] theorem Tryz.dm_agg55 : Dm.tAgg Tryz.prog 55 = some false := by kernel_rfl
@[simp] theorem Tryz.dm_cells55 : Dm.tCells Tryz.prog 55 = some 1 := by kernel_rfl
@[simp] theorem Tryz.dm_und55 : (Program.underlying Tryz.prog 55).isSome = true := by kernel_rfl
@[simp] theorem Tryz.dm_str55 : Dm.tStr Tryz.prog 55 = false := by kernel_rfl
@[simp] theorem Tryz.dm_bool55 : Dm.tBool Tryz.prog 55 = false := by kernel_rfl
@[simp] theorem Tryz.dm_sl55 : Dm.tSl Tryz.prog 55 = false := by kernel_rfl
@[simp] theorem Tryz.dm_ptr55 : Dm.tPtr Tryz.prog 55 = false := by kernel_rfl
@[simp] theorem Tryz.dm_zero55 : Dm.tZero Tryz.prog 55 = some [.nilfn] := by kernel_rfl
@[simp] theorem Tryz.dm_agg56 : Dm.tAgg Tryz.prog 56 = some false := by kernel_rfl
@[simp] theorem Tryz.dm_cells56 : Dm.tCells Tryz.prog 56 = some 1 := by kernel_rfl
@[simp] theorem Tryz.dm_und56 : (Program.underlying Tryz.prog 56).isSome = true := by kernel_rfl
@[simp] theorem Tryz.dm_str56 : Dm.tStr Tryz.prog 56 = false := by kernel_rfl
@[simp] theorem Tryz.dm_bool56 : Dm.tBool Tryz.prog 56 = false := by kernel_rfl
@[simp] theorem Tryz.dm_sl56 : Dm.tSl Tryz.prog 56 = false := by kernel_rfl
@[simp] theorem Tryz.dm_ptr56 : Dm.tPtr Tryz.prog 56 = false := by kernel_rfl
@[simp] theorem Tryz.dm_zero56 : Dm.tZero Tryz.prog 56 = some [.nilfn] := by kernel_rfl
@[simp] theorem Tryz.dm_agg57 : Dm.tAgg Tryz.prog 57 = some false := by kernel_rfl
@[simp] theorem Tryz.dm_cells57 : Dm.tCells Tryz.prog 57 = some 1 := by kernel_rfl
@[simp] theorem Tryz.dm_und57 : (Program.underlying Tryz.prog 57).isSome = true := by kernel_rfl
@[simp] theorem Tryz.dm_str57 : Dm.tStr Tryz.prog 57 = false := by kernel_rfl
@[simp] theorem Tryz.dm_bool57 : Dm.tBool Tryz.prog 57 = false := by kernel_rfl
@[simp] theorem Tryz.dm_sl57 : Dm.tSl Tryz.prog 57 = false := by kernel_rfl
@[simp] theorem Tryz.dm_ptr57 : Dm.tPtr Tryz.prog 57 = false := by kernel_rfl
@[simp] theorem Tryz.dm_zero57 : Dm.tZero Tryz.prog 57 = some [.nilfn] := by kernel_rfl
@[simp] theorem Tryz.dm_agg58 : Dm.tAgg Tryz.prog 58 = some false := by kernel_rfl
@[simp] theorem Tryz.dm_cells58 : Dm.tCells Tryz.prog 58 = some 1 := by kernel_rfl
@[simp] theorem Tryz.dm_und58 : (Program.underlying Tryz.prog 58).isSome = true := by kernel_rfl
@[simp] theorem Tryz.dm_str58 : Dm.tStr Tryz.prog 58 = false := by kernel_rfl
@[simp] theorem Tryz.dm_bool58 : Dm.tBool Tryz.prog 58 = false := by kernel_rfl
@[simp] theorem Tryz.dm_sl58 : Dm.tSl Tryz.prog 58 = false := by kernel_rfl
@[simp] theorem Tryz.dm_ptr58 : Dm.tPtr Tryz.prog 58 = false := by kernel_rfl
@[simp] theorem Tryz.dm_zero58 : Dm.tZero Tryz.prog 58 = some [.nilfn] := by kernel_rfl
@[simp] theorem Tryz.dm_agg59 : Dm.tAgg Tryz.prog 59 = some false := by kernel_rfl
@[simp] theorem Tryz.dm_cells59 : Dm.tCells Tryz.prog 59 = some 1 := by kernel_rfl
@[simp] theorem Tryz.dm_und59 : (Program.underlying Tryz.prog 59).isSome = true := by kernel_rfl
@[simp] theorem Tryz.dm_str59 : Dm.tStr Tryz.prog 59 = false := by kernel_rfl
@[simp] theorem Tryz.dm_bool59 : Dm.tBool Tryz.prog 59 = false := by kernel_rfl
@[simp] theorem Tryz.dm_sl59 : Dm.tSl Tryz.prog 59 = false := by kernel_rfl
@[simp] theorem Tryz.dm_ptr59 : Dm.tPtr Tryz.prog 59 = false := by kernel_rfl
@[simp] theorem Tryz.dm_zero59 : Dm.tZero Tryz.prog 59 = some [.nilfn] := by kernel_rfl
@[simp] theorem Tryz.dm_agg60 : Dm.tAgg Tryz.prog 60 = some false := by kernel_rfl
@[simp] theorem Tryz.dm_cells60 : Dm.tCells Tryz.prog 60 = some 1 := by kernel_rfl
@[simp] theorem Tryz.dm_und60 : (Program.underlying Tryz.prog 60).isSome = true := by kernel_rfl
@[simp] theorem Tryz.dm_str60 : Dm.tStr Tryz.prog 60 = false := by kernel_rfl
@[simp] theorem Tryz.dm_bool60 : Dm.tBool Tryz.prog 60 = false := by kernel_rfl
@[simp] theorem Tryz.dm_sl60 : Dm.tSl Tryz.prog 60 = false := by kernel_rfl
@[simp] theorem Tryz.dm_ptr60 : Dm.tPtr Tryz.prog 60 = false := by kernel_rfl
@[simp] theorem Tryz.dm_zero60 : Dm.tZero Tryz.prog 60 = some [.nilfn] := by kernel_rfl
@[simp] theorem Tryz.dm_agg61 : Dm.tAgg Tryz.prog 61 = some false := by kernel_rfl
@[simp] theorem Tryz.dm_cells61 : Dm.tCells Tryz.prog 61 = some 1 := by kernel_rfl
@[simp] theorem Tryz.dm_und61 : (Program.underlying Tryz.prog 61).isSome = true := by kernel_rfl
@[simp] theorem Tryz.dm_str61 : Dm.tStr Tryz.prog 61 = false := by kernel_rfl
@[simp] theorem Tryz.dm_bool61 : Dm.tBool Tryz.prog 61 = false := by kernel_rfl
@[simp] theorem Tryz.dm_sl61 : Dm.tSl Tryz.prog 61 = false := by kernel_rfl
@[simp] theorem Tryz.dm_ptr61 : Dm.tPtr Tryz.prog 61 = false := by kernel_rfl
@[simp] theorem Tryz.dm_zero61 : Dm.tZero Tryz.prog 61 = some [.nilfn] := by kernel_rfl
@[simp] theorem Tryz.dm_agg62 : Dm.tAgg Tryz.prog 62 = some false := by kernel_rfl
@[simp] theorem Tryz.dm_cells62 : Dm.tCells Tryz.prog 62 = some 1 := by kernel_rfl
@[simp] theorem Tryz.dm_und62 : (Program.underlying Tryz.prog 62).isSome = true := by kernel_rfl
@[simp] theorem Tryz.dm_str62 : Dm.tStr Tryz.prog 62 = false := by kernel_rfl
@[simp] theorem Tryz.dm_bool62 : Dm.tBool Tryz.prog 62 = false := by kernel_rfl
@[simp] theorem Tryz.dm_sl62 : Dm.tSl Tryz.prog 62 = false := by kernel_rfl
@[simp] theorem Tryz.dm_ptr62 : Dm.tPtr Tryz.prog 62 = false := by kernel_rfl
@[simp] theorem Tryz.dm_zero62 : Dm.tZero Tryz.prog 62 = some [.nilfn] := by kernel_rfl
@[simp] theorem Tryz.dm_agg63 : Dm.tAgg Tryz.prog 63 = some false := by kernel_rfl
@[simp] theorem Tryz.dm_cells63 : Dm.tCells Tryz.prog 63 = some 1 := by kernel_rfl
@[simp] theorem Tryz.dm_und63 : (Program.underlying Tryz.prog 63).isSome = true := by kernel_rfl
@[simp] theorem Tryz.dm_str63 : Dm.tStr Tryz.prog 63 = false := by kernel_rfl
@[simp] theorem Tryz.dm_bool63 : Dm.tBool Tryz.prog 63 = false := by kernel_rfl
@[simp] theorem Tryz.dm_sl63 : Dm.tSl Tryz.prog 63 = false := by kernel_rfl
@[simp] theorem Tryz.dm_ptr63 : Dm.tPtr Tryz.prog 63 = false := by kernel_rfl
@[simp] theorem Tryz.dm_zero63 : Dm.tZero Tryz.prog 63 = some [.nilfn] := by kernel_rfl
@[simp] theorem Tryz.dm_agg64 : Dm.tAgg Tryz.prog 64 = some false := by kernel_rfl
@[simp] theorem Tryz.dm_cells64 : Dm.tCells Tryz.prog 64 = some 1 := by kernel_rfl
@[simp] theorem Tryz.dm_und64 : (Program.underlying Tryz.prog 64).isSome = true := by kernel_rfl
@[simp] theorem Tryz.dm_str64 : Dm.tStr Tryz.prog 64 = false := by kernel_rfl
@[simp] theorem Tryz.dm_bool64 : Dm.tBool Tryz.prog 64 = false := by kernel_rfl
@[simp] theorem Tryz.dm_sl64 : Dm.tSl Tryz.prog 64 = false := by kernel_rfl
@[simp] theorem Tryz.dm_ptr64 : Dm.tPtr Tryz.prog 64 = false := by kernel_rfl
@[simp] theorem Tryz.dm_zero64 : Dm.tZero Tryz.prog 64 = some [.nilfn] := by kernel_rfl
@[simp] theorem Tryz.dm_agg65 : Dm.tAgg Tryz.prog 65 = some false := by kernel_rfl
@[simp] theorem Tryz.dm_cells65 : Dm.tCells Tryz.prog 65 = some 1 := by kernel_rfl
@[simp] theorem Tryz.dm_und65 : (Program.underlying Tryz.prog 65).isSome = true := by kernel_rfl
@[simp] theorem Tryz.dm_str65 : Dm.tStr Tryz.prog 65 = false := by kernel_rfl
@[simp] theorem Tryz.dm_bool65 : Dm.tBool Tryz.prog 65 = false := by kernel_rfl
@[simp] theorem Tryz.dm_sl65 : Dm.tSl Tryz.prog 65 = false := by kernel_rfl
@[simp] theorem Tryz.dm_ptr65 : Dm.tPtr Tryz.prog 65 = false := by kernel_rfl
@[simp] theorem Tryz.dm_zero65 : Dm.tZero Tryz.prog 65 = some [.nilfn] := by kernel_rfl
@[simp] theorem Tryz.dm_agg66 : Dm.tAgg Tryz.prog 66 = some false := by kernel_rfl
@[simp] theorem Tryz.dm_cells66 : Dm.tCells Tryz.prog 66 = some 1 := by kernel_rfl
@[simp] theorem Tryz.dm_und66 : (Program.underlying Tryz.prog 66).isSome = true := by kernel_rfl
@[simp] theorem Tryz.dm_elem66 : Dm.tElem Tryz.prog 66 = some (1, 8) := by kernel_rfl
@[simp] theorem Tryz.dm_str66 : Dm.tStr Tryz.prog 66 = false := by kernel_rfl
@[simp] theorem Tryz.dm_bool66 : Dm.tBool Tryz.prog 66 = false := by kernel_rfl
@[simp] theorem Tryz.dm_sl66 : Dm.tSl Tryz.prog 66 = true := by kernel_rfl
@[simp] theorem Tryz.dm_ptr66 : Dm.tPtr Tryz.prog 66 = false := by kernel_rfl
@[simp] theorem Tryz.dm_zero66 : Dm.tZero Tryz.prog 66 = some [.nilsl] := by kernel_rfl
@[simp] theorem Tryz.dm_eid66 : Dm.tElemId Tryz.prog 66 = some 56 := by kernel_rfl
@[simp] theorem Tryz.dm_ez66 : Dm.tElemZ Tryz.prog 66 = true := by kernel_rfl
@[simp] theorem Tryz.dm_zok66 : Dm.zeroOK Tryz.prog 66 = true := by kernel_rfl
@[simp] theorem Tryz.dm_zsl66 : Dm.tZeroE Tryz.prog 66 = some [.nilfn] := by kernel_rfl
@[simp] theorem Tryz.dm_agg67 : Dm.tAgg Tryz.prog 67 = some false := by kernel_rfl
@[simp] theorem Tryz.dm_cells67 : Dm.tCells Tryz.prog 67 = some 1 := by kernel_rfl
@[simp] theorem Tryz.dm_und67 : (Program.underlying Tryz.prog 67).isSome = true := by kernel_rfl
@[simp] theorem Tryz.dm_str67 : Dm.tStr Tryz.prog 67 = false := by kernel_rfl
@[simp] theorem Tryz.dm_bool67 : Dm.tBool Tryz.prog 67 = false := by kernel_rfl
@[simp] theorem Tryz.dm_sl67 : Dm.tSl Tryz.prog 67 = false := by kernel_rfl
@[simp] theorem Tryz.dm_ptr67 : Dm.tPtr Tryz.prog 67 = false := by kernel_rfl
@[simp] theorem Tryz.dm_zero67 : Dm.tZero Tryz.prog 67 = some [.nilfn] := by kernel_rfl
@[simp] theorem Tryz.dm_agg68 : Dm.tAgg Tryz.prog 68 = some false := by kernel_rfl
@[simp] theorem Tryz.dm_cells68 : Dm.tCells Tryz.prog 68 = some 1 := by kernel_rfl
@[simp] theorem Tryz.dm_und68 : (Program.underlying Tryz.prog 68).isSome = true := by kernel_rfl
@[simp] theorem Tryz.dm_str68 : Dm.tStr Tryz.prog 68 = false := by kernel_rfl
@[simp] theorem Tryz.dm_bool68 : Dm.tBool Tryz.prog 68 = false := by kernel_rfl
@[simp] theorem Tryz.dm_sl68 : Dm.tSl Tryz.prog 68 = false := by kernel_rfl
@[simp] theorem Tryz.dm_ptr68 : Dm.tPtr Tryz.prog 68 = false := by kernel_rfl
@[simp] theorem Tryz.dm_zero68 : Dm.tZero Tryz.prog 68 = some [.nilfn] := by kernel_rfl
@[simp] theorem Tryz.dm_agg69 : Dm.tAgg Tryz.prog 69 = some false := by kernel_rfl
@[simp] theorem Tryz.dm_cells69 : Dm.tCells Tryz.prog 69 = some 1 := by kernel_rfl
@[simp] theorem Tryz.dm_und69 : (Program.underlying Tryz.prog 69).isSome = true := by kernel_rfl
@[simp] theorem Tryz.dm_str69 : Dm.tStr Tryz.prog 69 = false := by kernel_rfl
@[simp] theorem Tryz.dm_bool69 : Dm.tBool Tryz.prog 69 = false := by kernel_rfl
@[simp] theorem Tryz.dm_sl69 : Dm.tSl Tryz.prog 69 = false := by kernel_rfl
@[simp] theorem Tryz.dm_ptr69 : Dm.tPtr Tryz.prog 69 = false := by kernel_rfl
@[simp] theorem Tryz.dm_zero69 : Dm.tZero Tryz.prog 69 = some [.nilfn] := by kernel_rfl
@[simp] theorem Tryz.dm_agg70 : Dm.tAgg Tryz.prog 70 = some false := by kernel_rfl
@[simp] theorem Tryz.dm_cells70 : Dm.tCells Tryz.prog 70 = some 1 := by kernel_rfl
@[simp] theorem Tryz.dm_und70 : (Program.underlying Tryz.prog 70).isSome = true := by kernel_rfl
@[simp] theorem Tryz.dm_str70 : Dm.tStr Tryz.prog 70 = false := by kernel_rfl
@[simp] theorem Tryz.dm_bool70 : Dm.tBool Tryz.prog 70 = false := by kernel_rfl
@[simp] theorem Tryz.dm_sl70 : Dm.tSl Tryz.prog 70 = false := by kernel_rfl
@[simp] theorem Tryz.dm_ptr70 : Dm.tPtr Tryz.prog 70 = false := by kernel_rfl
@[simp] theorem Tryz.dm_zero70 : Dm.tZero Tryz.prog 70 = some [.nilfn] := by kernel_rfl
@[simp] theorem Tryz.dm_agg71 : Dm.tAgg Tryz.prog 71 = some false := by kernel_rfl
@[simp] theorem Tryz.dm_cells71 : Dm.tCells Tryz.prog 71 = some 1 := by kernel_rfl
@[simp] theorem Tryz.dm_und71 : (Program.underlying Tryz.prog 71).isSome = true := by kernel_rfl
@[simp] theorem Tryz.dm_str71 : Dm.tStr Tryz.prog 71 = false := by kernel_rfl
@[simp] theorem Tryz.dm_bool71 : Dm.tBool Tryz.prog 71 = false := by kernel_rfl
@[simp] theorem Tryz.dm_sl71 : Dm.tSl Tryz.prog 71 = false := by kernel_rfl
@[simp] theorem Tryz.dm_ptr71 : Dm.tPtr Tryz.prog 71 = false := by kernel_rfl
@[simp] theorem Tryz.dm_zero71 : Dm.tZero Tryz.prog 71 = some [.nilfn] := by kernel_rfl
@[simp] theorem Tryz.dm_agg72 : Dm.tAgg Tryz.prog 72 = some false := by kernel_rfl
@[simp] theorem Tryz.dm_cells72 : Dm.tCells Tryz.prog 72 = some 1 := by kernel_rfl
@[simp] theorem Tryz.dm_und72 : (Program.underlying Tryz.prog 72).isSome = true := by kernel_rfl
@[simp] theorem Tryz.dm_str72 : Dm.tStr Tryz.prog 72 = false := by kernel_rfl
@[simp] theorem Tryz.dm_bool72 : Dm.tBool Tryz.prog 72 = false := by kernel_rfl
@[simp] theorem Tryz.dm_sl72 : Dm.tSl Tryz.prog 72 = false := by kernel_rfl
@[simp] theorem Tryz.dm_ptr72 : Dm.tPtr Tryz.prog 72 = false := by kernel_rfl
@[simp] theorem Tryz.dm_zero72 : Dm.tZero Tryz.prog 72 = some [.nilfn] := by kernel_rfl
@[simp] theorem Tryz.dm_agg73 : Dm.tAgg Tryz.prog 73 = some false := by kernel_rfl
@[simp] theorem Tryz.dm_cells73 : Dm.tCells Tryz.prog 73 = some 1 := by kernel_rfl
@[simp] theorem Tryz.dm_und73 : (Program.underlying Tryz.prog 73).isSome = true := by kernel_rfl
@[simp] theorem Tryz.dm_str73 : Dm.tStr Tryz.prog 73 = false := by kernel_rfl
@[simp] theorem Tryz.dm_bool73 : Dm.tBool Tryz.prog 73 = false := by kernel_rfl
@[simp] theorem Tryz.dm_sl73 : Dm.tSl Tryz.prog 73 = false := by kernel_rfl
@[simp] theorem Tryz.dm_ptr73 : Dm.tPtr Tryz.prog 73 = false := by kernel_rfl
@[simp] theorem Tryz.dm_zero73 : Dm.tZero Tryz.prog 73 = some [.nilfn] := by kernel_rfl
@[simp] theorem Tryz.dm_agg74 : Dm.tAgg Tryz.prog 74 = some false := by kernel_rfl
@[simp] theorem Tryz.dm_cells74 : Dm.tCells Tryz.prog 74 = some 1 := by kernel_rfl
@[simp] theorem Tryz.dm_und74 : (Program.underlying Tryz.prog 74).isSome = true := by kernel_rfl
@[simp] theorem Tryz.dm_str74 : Dm.tStr Tryz.prog 74 = false := by kernel_rfl
@[simp] theorem Tryz.dm_bool74 : Dm.tBool Tryz.prog 74 = false := by kernel_rfl
@[simp] theorem Tryz.dm_sl74 : Dm.tSl Tryz.prog 74 = false := by kernel_rfl
@[simp] theorem Tryz.dm_ptr74 : Dm.tPtr Tryz.prog 74 = false := by kernel_rfl
@[simp] theorem Tryz.dm_zero74 : Dm.tZero Tryz.prog 74 = some [.nilmp] := by kernel_rfl
@[simp] theorem Tryz.dm_map74 : Dm.tMap Tryz.prog 74 = some (9, 3) := by kernel_rfl
@[simp] theorem Tryz.dm_flat9 : Dm.flat Tryz.prog 10000 9 = some [.s] := by kernel_rfl
@[simp] theorem Tryz.dm_zd3 : Dm.tZeroD Tryz.prog 3 = some (.int .i64 0) := by kernel_rfl
@[simp] theorem Tryz.dm_agg75 : Dm.tAgg Tryz.prog 75 = some false := by kernel_rfl
@[simp] theorem Tryz.dm_cells75 : Dm.tCells Tryz.prog 75 = some 1 := by kernel_rfl
@[simp] theorem Tryz.dm_und75 : (Program.underlying Tryz.prog 75).isSome = true := by kernel_rfl
@[simp] theorem Tryz.dm_str75 : Dm.tStr Tryz.prog 75 = false := by kernel_rfl
@[simp] theorem Tryz.dm_bool75 : Dm.tBool Tryz.prog 75 = false := by kernel_rfl
@[simp] theorem Tryz.dm_sl75 : Dm.tSl Tryz.prog 75 = false := by kernel_rfl
@[simp] theorem Tryz.dm_ptr75 : Dm.tPtr Tryz.prog 75 = false := by kernel_rfl
@[simp] theorem Tryz.dm_zero75 : Dm.tZero Tryz.prog 75 = some [.nilfn] := by kernel_rfl
@[simp] theorem Tryz.dm_agg76 : Dm.tAgg Tryz.prog 76 = some false := by kernel_rfl
@[simp] theorem Tryz.dm_cells76 : Dm.tCells Tryz.prog 76 = some 1 := by kernel_rfl
@[simp] theorem Tryz.dm_und76 : (Program.underlying Tryz.prog 76).isSome = true := by kernel_rfl
@[simp] theorem Tryz.dm_str76 : Dm.tStr Tryz.prog 76 = false := by kernel_rfl
@[simp] theorem Tryz.dm_bool76 : Dm.tBool Tryz.prog 76 = false := by kernel_rfl
@[simp] theorem Tryz.dm_sl76 : Dm.tSl Tryz.prog 76 = false := by kernel_rfl
@[simp] theorem Tryz.dm_ptr76 : Dm.tPtr Tryz.prog 76 = false := by kernel_rfl
@[simp] theorem Tryz.dm_zero76 : Dm.tZero Tryz.prog 76 = some [.nilfn] := by kernel_rfl
@[simp] theorem Tryz.dm_agg77 : Dm.tAgg Tryz.prog 77 = some false := by kernel_rfl
@[simp] theorem Tryz.dm_cells77 : Dm.tCells Tryz.prog 77 = some 1 := by kernel_rfl
@[simp] theorem Tryz.dm_und77 : (Program.underlying Tryz.prog 77).isSome = true := by kernel_rfl
@[simp] theorem Tryz.dm_str77 : Dm.tStr Tryz.prog 77 = false := by kernel_rfl
@[simp] theorem Tryz.dm_bool77 : Dm.tBool Tryz.prog 77 = false := by kernel_rfl
@[simp] theorem Tryz.dm_sl77 : Dm.tSl Tryz.prog 77 = false := by kernel_rfl
@[simp] theorem Tryz.dm_ptr77 : Dm.tPtr Tryz.prog 77 = false := by kernel_rfl
@[simp] theorem Tryz.dm_zero77 : Dm.tZero Tryz.prog 77 = some [.nilfn] := by kernel_rfl
@[simp] theorem Tryz.dm_agg78 : Dm.tAgg Tryz.prog 78 = some false := by kernel_rfl
@[simp] theorem Tryz.dm_cells78 : Dm.tCells Tryz.prog 78 = some 1 := by kernel_rfl
@[simp] theorem Tryz.dm_und78 : (Program.underlying Tryz.prog 78).isSome = true := by kernel_rfl
@[simp] theorem Tryz.dm_str78 : Dm.tStr Tryz.prog 78 = false := by kernel_rfl
@[simp] theorem Tryz.dm_bool78 : Dm.tBool Tryz.prog 78 = false := by kernel_rfl
@[simp] theorem Tryz.dm_sl78 : Dm.tSl Tryz.prog 78 = false := by kernel_rfl
@[simp] theorem Tryz.dm_ptr78 : Dm.tPtr Tryz.prog 78 = false := by kernel_rfl
@[simp] theorem Tryz.dm_zero78 : Dm.tZero Tryz.prog 78 = some [.nilfn] := by kernel_rfl
@[simp] theorem Tryz.dm_agg79 : Dm.tAgg Tryz.prog 79 = some false := by kernel_rfl
@[simp] theorem Tryz.dm_cells79 : Dm.tCells Tryz.prog 79 = some 1 := by kernel_rfl
@[simp] theorem Tryz.dm_und79 : (Program.underlying Tryz.prog 79).isSome = true := by kernel_rfl
@[simp] theorem Tryz.dm_int79 : Dm.tInt Tryz.prog 79 = some .u64 := by kernel_rfl
@[simp] theorem Tryz.dm_str79 : Dm.tStr Tryz.prog 79 = false := by kernel_rfl
@[simp] theorem Tryz.dm_bool79 : Dm.tBool Tryz.prog 79 = false := by kernel_rfl
@[simp] theorem Tryz.dm_sl79 : Dm.tSl Tryz.prog 79 = false := by kernel_rfl
@[simp] theorem Tryz.dm_ptr79 : Dm.tPtr Tryz.prog 79 = false := by kernel_rfl
@[simp] theorem Tryz.dm_zero79 : Dm.tZero Tryz.prog 79 = some [.int .u64 0] := by kernel_rfl
@[simp] theorem Tryz.dm_agg80 : Dm.tAgg Tryz.prog 80 = some false := by kernel_rfl
@[simp] theorem Tryz.dm_cells80 : Dm.tCells Tryz.prog 80 = some 1 := by kernel_rfl
@[simp] theorem Tryz.dm_und80 : (Program.underlying Tryz.prog 80).isSome = true := by kernel_rfl
@[simp] theorem Tryz.dm_str80 : Dm.tStr Tryz.prog 80 = false := by kernel_rfl
@[simp] theorem Tryz.dm_bool80 : Dm.tBool Tryz.prog 80 = false := by kernel_rfl
@[simp] theorem Tryz.dm_sl80 : Dm.tSl Tryz.prog 80 = false := by kernel_rfl
@[simp] theorem Tryz.dm_ptr80 : Dm.tPtr Tryz.prog 80 = false := by kernel_rfl
@[simp] theorem Tryz.dm_zero80 : Dm.tZero Tryz.prog 80 = some [.nilfn] := by kernel_rfl
@[simp] theorem Tryz.dm_agg81 : Dm.tAgg Tryz.prog 81 = some false := by kernel_rfl
@[simp] theorem Tryz.dm_cells81 : Dm.tCells Tryz.prog 81 = some 1 := by kernel_rfl
@[simp] theorem Tryz.dm_und81 : (Program.underlying Tryz.prog 81).isSome = true := by kernel_rfl
@[simp] theorem Tryz.dm_str81 : Dm.tStr Tryz.prog 81 = false := by kernel_rfl
@[simp] theorem Tryz.dm_bool81 : Dm.tBool Tryz.prog 81 = false := by kernel_rfl
@[simp] theorem Tryz.dm_sl81 : Dm.tSl Tryz.prog 81 = false := by kernel_rfl
@[simp] theorem Tryz.dm_ptr81 : Dm.tPtr Tryz.prog 81 = false := by kernel_rfl
@[simp] theorem Tryz.dm_zero81 : Dm.tZero Tryz.prog 81 = some [.nilfn] := by kernel_rfl
@[simp] theorem Tryz.dm_agg82 : Dm.tAgg Tryz.prog 82 = some false := by kernel_rfl
@[simp] theorem Tryz.dm_cells82 : Dm.tCells Tryz.prog 82 = some 1 := by kernel_rfl
@[simp] theorem Tryz.dm_und82 : (Program.underlying Tryz.prog 82).isSome = true := by kernel_rfl
@[simp] theorem Tryz.dm_str82 : Dm.tStr Tryz.prog 82 = false := by kernel_rfl
@[simp] theorem Tryz.dm_bool82 : Dm.tBool Tryz.prog 82 = false := by kernel_rfl
@[simp] theorem Tryz.dm_sl82 : Dm.tSl Tryz.prog 82 = false := by kernel_rfl
@[simp] theorem Tryz.dm_ptr82 : Dm.tPtr Tryz.prog 82 = false := by kernel_rfl
@[simp] theorem Tryz.dm_zero82 : Dm.tZero Tryz.prog 82 = some [.nilfn] := by kernel_rfl
@[simp] theorem Tryz.dm_agg83 : Dm.tAgg Tryz.prog 83 = some false := by kernel_rfl
@[simp] theorem Tryz.dm_cells83 : Dm.tCells Tryz.prog 83 = some 1 := by kernel_rfl
@[simp] theorem Tryz.dm_und83 : (Program.underlying Tryz.prog 83).isSome = true := by kernel_rfl
@[simp] theorem Tryz.dm_str83 : Dm.tStr Tryz.prog 83 = false := by kernel_rfl
@[simp] theorem Tryz.dm_bool83 : Dm.tBool Tryz.prog 83 = false := by kernel_rfl
@[simp] theorem Tryz.dm_sl83 : Dm.tSl Tryz.prog 83 = false := by kernel_rfl
@[simp] theorem Tryz.dm_ptr83 : Dm.tPtr Tryz.prog 83 = true := by kernel_rfl
@[simp] theorem Tryz.dm_zero83 : Dm.tZero Tryz.prog 83 = some [.nilp] := by kernel_rfl
@[simp] theorem Tryz.dm_agg84 : Dm.tAgg Tryz.prog 84 = some false := by kernel_rfl
@[simp] theorem Tryz.dm_cells84 : Dm.tCells Tryz.prog 84 = some 1 := by kernel_rfl
@[simp] theorem Tryz.dm_und84 : (Program.underlying Tryz.prog 84).isSome = true := by kernel_rfl
@[simp] theorem Tryz.dm_elem84 : Dm.tElem Tryz.prog 84 = some (1, 1) := by kernel_rfl
@[simp] theorem Tryz.dm_str84 : Dm.tStr Tryz.prog 84 = false := by kernel_rfl
@[simp] theorem Tryz.dm_bool84 : Dm.tBool Tryz.prog 84 = false := by kernel_rfl
@[simp] theorem Tryz.dm_sl84 : Dm.tSl Tryz.prog 84 = true := by kernel_rfl
@[simp] theorem Tryz.dm_ptr84 : Dm.tPtr Tryz.prog 84 = false := by kernel_rfl
@[simp] theorem Tryz.dm_zero84 : Dm.tZero Tryz.prog 84 = some [.nilsl] := by kernel_rfl
@[simp] theorem Tryz.dm_eid84 : Dm.tElemId Tryz.prog 84 = some 5 := by kernel_rfl
@[simp] theorem Tryz.dm_ez84 : Dm.tElemZ Tryz.prog 84 = true := by kernel_rfl
@[simp] theorem Tryz.dm_zok84 : Dm.zeroOK Tryz.prog 84 = true := by kernel_rfl
@[simp] theorem Tryz.dm_zsl84 : Dm.tZeroE Tryz.prog 84 = some [.int .u8 0] := by kernel_rfl
@[simp] theorem Tryz.dm_agg85 : Dm.tAgg Tryz.prog 85 = some true := by kernel_rfl
@[simp] theorem Tryz.dm_cells85 : Dm.tCells Tryz.prog 85 = some 2 := by kernel_rfl
@[simp] theorem Tryz.dm_und85 : (Program.underlying Tryz.prog 85).isSome = true := by kernel_rfl
@[simp] theorem Tryz.dm_str85 : Dm.tStr Tryz.prog 85 = false := by kernel_rfl
@[simp] theorem Tryz.dm_bool85 : Dm.tBool Tryz.prog 85 = false := by kernel_rfl
@[simp] theorem Tryz.dm_sl85 : Dm.tSl Tryz.prog 85 = false := by kernel_rfl
@[simp] theorem Tryz.dm_ptr85 : Dm.tPtr Tryz.prog 85 = false := by kernel_rfl
@[simp] theorem Tryz.dm_zero85 : Dm.tZero Tryz.prog 85 = some [.nilp, .nilsl] := by kernel_rfl
@[simp] theorem Tryz.dm_field85_0 : Dm.tField Tryz.prog 85 0 = some (0, 1, false) := by kernel_rfl
@[simp] theorem Tryz.dm_field85_1 : Dm.tField Tryz.prog 85 1 = some (1, 1, false) := by kernel_rfl
@[simp] theorem Tryz.dm_parts85 : Dm.tParts Tryz.prog 85 = true := by kernel_rfl
@[simp] theorem Tryz.dm_agg86 : Dm.tAgg Tryz.prog 86 = some true := by kernel_rfl
@[simp] theorem Tryz.dm_cells86 : Dm.tCells Tryz.prog 86 = some 2 := by kernel_rfl
@[simp] theorem Tryz.dm_und86 : (Program.underlying Tryz.prog 86).isSome = true := by kernel_rfl
@[simp] theorem Tryz.dm_str86 : Dm.tStr Tryz.prog 86 = false := by kernel_rfl
@[simp] theorem Tryz.dm_bool86 : Dm.tBool Tryz.prog 86 = false := by kernel_rfl
@[simp] theorem Tryz.dm_sl86 : Dm.tSl Tryz.prog 86 = false := by kernel_rfl
@[simp] theorem Tryz.dm_ptr86 : Dm.tPtr Tryz.prog 86 = false := by kernel_rfl
@[simp] theorem Tryz.dm_zero86 : Dm.tZero Tryz.prog 86 = some [.nilp, .nilsl] := by kernel_rfl
@[simp] theorem Tryz.dm_field86_0 : Dm.tField Tryz.prog 86 0 = some (0, 1, false) := by kernel_rfl
@[simp] theorem Tryz.dm_field86_1 : Dm.tField Tryz.prog 86 1 = some (1, 1, false) := by kernel_rfl
@[simp] theorem Tryz.dm_parts86 : Dm.tParts Tryz.prog 86 = true := by kernel_rfl
@[simp] theorem Tryz.dm_agg87 : Dm.tAgg Tryz.prog 87 = some false := by kernel_rfl
@[simp] theorem Tryz.dm_cells87 : Dm.tCells Tryz.prog 87 = some 1 := by kernel_rfl
@[simp] theorem Tryz.dm_und87 : (Program.underlying Tryz.prog 87).isSome = true := by kernel_rfl
@[simp] theorem Tryz.dm_str87 : Dm.tStr Tryz.prog 87 = false := by kernel_rfl
@[simp] theorem Tryz.dm_bool87 : Dm.tBool Tryz.prog 87 = false := by kernel_rfl
@[simp] theorem Tryz.dm_sl87 : Dm.tSl Tryz.prog 87 = false := by kernel_rfl
@[simp] theorem Tryz.dm_ptr87 : Dm.tPtr Tryz.prog 87 = false := by kernel_rfl
@[simp] theorem Tryz.dm_zero87 : Dm.tZero Tryz.prog 87 = some [.nilifc] := by kernel_rfl
@[simp] theorem Tryz.dm_agg88 : Dm.tAgg Tryz.prog 88 = some false := by kernel_rfl
@[simp] theorem Tryz.dm_cells88 : Dm.tCells Tryz.prog 88 = some 1 := by kernel_rfl
@[simp] theorem Tryz.dm_und88 : (Program.underlying Tryz.prog 88).isSome = true := by kernel_rfl
@[simp] theorem Tryz.dm_str88 : Dm.tStr Tryz.prog 88 = false := by kernel_rfl
@[simp] theorem Tryz.dm_bool88 : Dm.tBool Tryz.prog 88 = false := by kernel_rfl
@[simp] theorem Tryz.dm_sl88 : Dm.tSl Tryz.prog 88 = false := by kernel_rfl
@[simp] theorem Tryz.dm_ptr88 : Dm.tPtr Tryz.prog 88 = false := by kernel_rfl
@[simp] theorem Tryz.dm_zero88 : Dm.tZero Tryz.prog 88 = some [.nilifc] := by kernel_rfl
@[simp] theorem Tryz.dm_agg90 : Dm.tAgg Tryz.prog 90 = some false := by kernel_rfl
@[simp] theorem Tryz.dm_cells90 : Dm.tCells Tryz.prog 90 = some 1 := by kernel_rfl
@[simp] theorem Tryz.dm_und90 : (Program.underlying Tryz.prog 90).isSome = true := by kernel_rfl
@[simp] theorem Tryz.dm_str90 : Dm.tStr Tryz.prog 90 = false := by kernel_rfl
@[simp] theorem Tryz.dm_bool90 : Dm.tBool Tryz.prog 90 = false := by kernel_rfl
@[simp] theorem Tryz.dm_sl90 : Dm.tSl Tryz.prog 90 = false := by kernel_rfl
@[simp] theorem Tryz.dm_ptr90 : Dm.tPtr Tryz.prog 90 = false := by kernel_rfl
@[simp] theorem Tryz.dm_zero90 : Dm.tZero Tryz.prog 90 = some [.nilfn] := by kernel_rfl
@[simp] theorem Tryz.dm_agg91 : Dm.tAgg Tryz.prog 91 = some false := by kernel_rfl
@[simp] theorem Tryz.dm_cells91 : Dm.tCells Tryz.prog 91 = some 1 := by kernel_rfl
@[simp] theorem Tryz.dm_und91 : (Program.underlying Tryz.prog 91).isSome = true := by kernel_rfl
@[simp] theorem Tryz.dm_str91 : Dm.tStr Tryz.prog 91 = false := by kernel_rfl
@[simp] theorem Tryz.dm_bool91 : Dm.tBool Tryz.prog 91 = false := by kernel_rfl
@[simp] theorem Tryz.dm_sl91 : Dm.tSl Tryz.prog 91 = false := by kernel_rfl
@[simp] theorem Tryz.dm_ptr91 : Dm.tPtr Tryz.prog 91 = false := by kernel_rfl
@[simp] theorem Tryz.dm_zero91 : Dm.tZero Tryz.prog 91 = some [.nilfn] := by kernel_rfl
@[simp] theorem Tryz.dm_agg92 : Dm.tAgg Tryz.prog 92 = some false := by kernel_rfl
@[simp] theorem Tryz.dm_cells92 : Dm.tCells Tryz.prog 92 = some 1 := by kernel_rfl
@[simp] theorem Tryz.dm_und92 : (Program.underlying Tryz.prog 92).isSome = true := by kernel_rfl
@[simp] theorem Tryz.dm_str92 : Dm.tStr Tryz.prog 92 = false := by kernel_rfl
@[simp] theorem Tryz.dm_bool92 : Dm.tBool Tryz.prog 92 = false := by kernel_rfl
@[simp] theorem Tryz.dm_sl92 : Dm.tSl Tryz.prog 92 = false := by kernel_rfl
@[simp] theorem Tryz.dm_ptr92 : Dm.tPtr Tryz.prog 92 = false := by kernel_rfl
@[simp] theorem Tryz.dm_zero92 : Dm.tZero Tryz.prog 92 = some [.nilfn] := by kernel_rfl
@[simp] theorem Tryz.dm_agg93 : Dm.tAgg Tryz.prog 93 = some false := by kernel_rfl
@[simp] theorem Tryz.dm_cells93 : Dm.tCells Tryz.prog 93 = some 1 := by kernel_rfl
@[simp] theorem Tryz.dm_und93 : (Program.underlying Tryz.prog 93).isSome = true := by kernel_rfl
@[simp] theorem Tryz.dm_int93 : Dm.tInt Tryz.prog 93 = some .i64 := by kernel_rfl
@[simp] theorem Tryz.dm_str93 : Dm.tStr Tryz.prog 93 = false := by kernel_rfl
@[simp] theorem Tryz.dm_bool93 : Dm.tBool Tryz.prog 93 = false := by kernel_rfl
@[simp] theorem Tryz.dm_sl93 : Dm.tSl Tryz.prog 93 = false := by kernel_rfl
@[simp] theorem Tryz.dm_ptr93 : Dm.tPtr Tryz.prog 93 = false := by kernel_rfl
@[simp] theorem Tryz.dm_zero93 : Dm.tZero Tryz.prog 93 = some [.int .i64 0] := by kernel_rfl
@[simp] theorem Tryz.dm_agg95 : Dm.tAgg Tryz.prog 95 = some false := by kernel_rfl
@[simp] theorem Tryz.dm_cells95 : Dm.tCells Tryz.prog 95 = some 1 := by kernel_rfl
@[simp] theorem Tryz.dm_und95 : (Program.underlying Tryz.prog 95).isSome = true := by kernel_rfl
@[simp] theorem Tryz.dm_str95 : Dm.tStr Tryz.prog 95 = false := by kernel_rfl
@[simp] theorem Tryz.dm_bool95 : Dm.tBool Tryz.prog 95 = false := by kernel_rfl
@[simp] theorem Tryz.dm_sl95 : Dm.tSl Tryz.prog 95 = false := by kernel_rfl
@[simp] theorem Tryz.dm_ptr95 : Dm.tPtr Tryz.prog 95 = false := by kernel_rfl
@[simp] theorem Tryz.dm_zero95 : Dm.tZero Tryz.prog 95 = some [.nilfn] := by kernel_rfl
@[simp] theorem Tryz.dm_agg96 : Dm.tAgg Tryz.prog 96 = some false := by kernel_rfl
@[simp] theorem Tryz.dm_cells96 : Dm.tCells Tryz.prog 96 = some 1 := by kernel_rfl
@[simp] theorem Tryz.dm_und96 : (Program.underlying Tryz.prog 96).isSome = true := by kernel_rfl
@[simp] theorem Tryz.dm_str96 : Dm.tStr Tryz.prog 96 = false := by kernel_rfl
@[simp] theorem Tryz.dm_bool96 : Dm.tBool Tryz.prog 96 = false := by kernel_rfl
@[simp] theorem Tryz.dm_sl96 : Dm.tSl Tryz.prog 96 = false := by kernel_rfl
@[simp] theorem Tryz.dm_ptr96 : Dm.tPtr Tryz.prog 96 = false := by kernel_rfl
@[simp] theorem Tryz.dm_zero96 : Dm.tZero Tryz.prog 96 = some [.nilfn] := by kernel_rfl
@[simp] theorem Tryz.dm_agg97 : Dm.tAgg Tryz.prog 97 = some false := by kernel_rfl
@[simp] theorem Tryz.dm_cells97 : Dm.tCells Tryz.prog 97 = some 1 := by kernel_rfl
@[simp] theorem Tryz.dm_und97 : (Program.underlying Tryz.prog 97).isSome = true := by kernel_rfl
@[simp] theorem Tryz.dm_str97 : Dm.tStr Tryz.prog 97 = false := by kernel_rfl
@[simp] theorem Tryz.dm_bool97 : Dm.tBool Tryz.prog 97 = false := by kernel_rfl
@[simp] theorem Tryz.dm_sl97 : Dm.tSl Tryz.prog 97 = false := by kernel_rfl
@[simp] theorem Tryz.dm_ptr97 : Dm.tPtr Tryz.prog 97 = false := by kernel_rfl
@[simp] theorem Tryz.dm_zero97 : Dm.tZero Tryz.prog 97 = some [.nilfn] := by kernel_rfl
@[simp] theorem Tryz.dm_agg99 : Dm.tAgg Tryz.prog 99 = some false := by kernel_rfl
@[simp] theorem Tryz.dm_cells99 : Dm.tCells Tryz.prog 99 = some 1 := by kernel_rfl
@[simp] theorem Tryz.dm_und99 : (Program.underlying Tryz.prog 99).isSome = true := by kernel_rfl
@[simp] theorem Tryz.dm_str99 : Dm.tStr Tryz.prog 99 = false := by kernel_rfl
@[simp] theorem Tryz.dm_bool99 : Dm.tBool Tryz.prog 99 = false := by kernel_rfl
@[simp] theorem Tryz.dm_sl99 : Dm.tSl Tryz.prog 99 = false := by kernel_rfl
@[simp] theorem Tryz.dm_ptr99 : Dm.tPtr Tryz.prog 99 = false := by kernel_rfl
@[simp] theorem Tryz.dm_zero99 : Dm.tZero Tryz.prog 99 = some [.nilfn] := by kernel_rfl
@[simp] theorem Tryz.dm_agg100 : Dm.tAgg Tryz.prog 100 = some false := by kernel_rfl
@[simp] theorem Tryz.dm_cells100 : Dm.tCells Tryz.prog 100 = some 1 := by kernel_rfl
@[simp] theorem Tryz.dm_und100 : (Program.underlying Tryz.prog 100).isSome = true := by kernel_rfl
@[simp] theorem Tryz.dm_str100 : Dm.tStr Tryz.prog 100 = false := by kernel_rfl
@[simp] theorem Tryz.dm_bool100 : Dm.tBool Tryz.prog 100 = false := by kernel_rfl
@[simp] theorem Tryz.dm_sl100 : Dm.tSl Tryz.prog 100 = false := by kernel_rfl
@[simp] theorem Tryz.dm_ptr100 : Dm.tPtr Tryz.prog 100 = false := by kernel_rfl
@[simp] theorem Tryz.dm_zero100 : Dm.tZero Tryz.prog 100 = some [.nilfn] := by kernel_rfl
@[simp] theorem Tryz.dm_agg101 : Dm.tAgg Tryz.prog 101 = some false := by kernel_rfl
@[simp] theorem Tryz.dm_cells101 : Dm.tCells Tryz.prog 101 = some 1 := by kernel_rfl
@[simp] theorem Tryz.dm_und101 : (Program.underlying Tryz.prog 101).isSome = true := by kernel_rfl
@[simp] theorem Tryz.dm_int101 : Dm.tInt Tryz.prog 101 = some .u32 := by kernel_rfl
@[simp] theorem Tryz.dm_str101 : Dm.tStr Tryz.prog 101 = false := by kernel_rfl
@[simp] theorem Tryz.dm_bool101 : Dm.tBool Tryz.prog 101 = false := by kernel_rfl
@[simp] theorem Tryz.dm_sl101 : Dm.tSl Tryz.prog 101 = false := by kernel_rfl
@[simp] theorem Tryz.dm_ptr101 : Dm.tPtr Tryz.prog 101 = false := by kernel_rfl
@[simp] theorem Tryz.dm_zero101 : Dm.tZero Tryz.prog 101 = some [.int .u32 0] := by kernel_rfl
@[simp] theorem Tryz.dm_agg102 : Dm.tAgg Tryz.prog 102 = some false := by kernel_rfl
@[simp] theorem Tryz.dm_cells102 : Dm.tCells Tryz.prog 102 = some 1 := by kernel_rfl
@[simp] theorem Tryz.dm_und102 : (Program.underlying Tryz.prog 102).isSome = true := by kernel_rfl
@[simp] theorem Tryz.dm_str102 : Dm.tStr Tryz.prog 102 = false := by kernel_rfl
@[simp] theorem Tryz.dm_bool102 : Dm.tBool Tryz.prog 102 = false := by kernel_rfl
@[simp] theorem Tryz.dm_sl102 : Dm.tSl Tryz.prog 102 = false := by kernel_rfl
@[simp] theorem Tryz.dm_ptr102 : Dm.tPtr Tryz.prog 102 = false := by kernel_rfl
@[simp] theorem Tryz.dm_zero102 : Dm.tZero Tryz.prog 102 = some [.nilfn] := by kernel_rfl
@[simp] theorem Tryz.dm_agg103 : Dm.tAgg Tryz.prog 103 = some false := by kernel_rfl
@[simp] theorem Tryz.dm_cells103 : Dm.tCells Tryz.prog 103 = some 1 := by kernel_rfl
@[simp] theorem Tryz.dm_und103 : (Program.underlying Tryz.prog 103).isSome = true := by kernel_rfl
@[simp] theorem Tryz.dm_int103 : Dm.tInt Tryz.prog 103 = some .u64 := by kernel_rfl
@[simp] theorem Tryz.dm_str103 : Dm.tStr Tryz.prog 103 = false := by kernel_rfl
@[simp] theorem Tryz.dm_bool103 : Dm.tBool Tryz.prog 103 = false := by kernel_rfl
@[simp] theorem Tryz.dm_sl103 : Dm.tSl Tryz.prog 103 = false := by kernel_rfl
@[simp] theorem Tryz.dm_ptr103 : Dm.tPtr Tryz.prog 103 = false := by kernel_rfl
@[simp] theorem Tryz.dm_zero103 : Dm.tZero Tryz.prog 103 = some [.int .u64 0] := by kernel_rfl
@[simp] theorem Tryz.dm_agg104 : Dm.tAgg Tryz.prog 104 = some false := by kernel_rfl
@[simp] theorem Tryz.dm_cells104 : Dm.tCells Tryz.prog 104 = some 1 := by kernel_rfl
@[simp] theorem Tryz.dm_und104 : (Program.underlying Tryz.prog 104).isSome = true := by kernel_rfl
@[simp] theorem Tryz.dm_str104 : Dm.tStr Tryz.prog 104 = false := by kernel_rfl
@[simp] theorem Tryz.dm_bool104 : Dm.tBool Tryz.prog 104 = false := by kernel_rfl
@[simp] theorem Tryz.dm_sl104 : Dm.tSl Tryz.prog 104 = false := by kernel_rfl
@[simp] theorem Tryz.dm_ptr104 : Dm.tPtr Tryz.prog 104 = false := by kernel_rfl
@[simp] theorem Tryz.dm_zero104 : Dm.tZero Tryz.prog 104 = some [.nilfn] := by kernel_rfl
@[simp] theorem Tryz.dm_agg105 : Dm.tAgg Tryz.prog 105 = some false := by kernel_rfl
@[simp] theorem Tryz.dm_cells105 : Dm.tCells Tryz.prog 105 = some 1 := by kernel_rfl
@[simp] theorem Tryz.dm_und105 : (Program.underlying Tryz.prog 105).isSome = true := by kernel_rfl
@[simp] theorem Tryz.dm_str105 : Dm.tStr Tryz.prog 105 = false := by kernel_rfl
@[simp] theorem Tryz.dm_bool105 : Dm.tBool Tryz.prog 105 = false := by kernel_rfl
@[simp] theorem Tryz.dm_sl105 : Dm.tSl Tryz.prog 105 = false := by kernel_rfl
@[simp] theorem Tryz.dm_ptr105 : Dm.tPtr Tryz.prog 105 = false := by kernel_rfl
@[simp] theorem Tryz.dm_zero105 : Dm.tZero Tryz.prog 105 = some [.nilfn] := by kernel_rfl
@[simp] theorem Tryz.dm_agg106 : Dm.tAgg Tryz.prog 106 = some false := by kernel_rfl
@[simp] theorem Tryz.dm_cells106 : Dm.tCells Tryz.prog 106 = some 1 := by kernel_rfl
@[simp] theorem Tryz.dm_und106 : (Program.underlying Tryz.prog 106).isSome = true := by kernel_rfl
@[simp] theorem Tryz.dm_str106 : Dm.tStr Tryz.prog 106 = false := by kernel_rfl
@[simp] theorem Tryz.dm_bool106 : Dm.tBool Tryz.prog 106 = false := by kernel_rfl
@[simp] theorem Tryz.dm_sl106 : Dm.tSl Tryz.prog 106 = false := by kernel_rfl
@[simp] theorem Tryz.dm_ptr106 : Dm.tPtr Tryz.prog 106 = false := by kernel_rfl
@[simp] theorem Tryz.dm_zero106 : Dm.tZero Tryz.prog 106 = some [.nilfn] := by kernel_rfl
@[simp] theorem Tryz.dm_agg107 : Dm.tAgg Tryz.prog 107 = some false := by kernel_rfl
@[simp] theorem Tryz.dm_cells107 : Dm.tCells Tryz.prog 107 = some 1 := by kernel_rfl
@[simp] theorem Tryz.dm_und107 : (Program.underlying Tryz.prog 107).isSome = true := by kernel_rfl
@[simp] theorem Tryz.dm_str107 : Dm.tStr Tryz.prog 107 = false := by kernel_rfl
@[simp] theorem Tryz.dm_bool107 : Dm.tBool Tryz.prog 107 = false := by kernel_rfl
@[simp] theorem Tryz.dm_sl107 : Dm.tSl Tryz.prog 107 = false := by kernel_rfl
@[simp] theorem Tryz.dm_ptr107 : Dm.tPtr Tryz.prog 107 = false := by kernel_rfl
@[simp] theorem Tryz.dm_zero107 : Dm.tZero Tryz.prog 107 = some [.nilfn] := by kernel_rfl
@[simp] theorem Tryz.dm_agg108 : Dm.tAgg Tryz.prog 108 = some false := by kernel_rfl
@[simp] theorem Tryz.dm_cells108 : Dm.tCells Tryz.prog 108 = some 1 := by kernel_rfl
@[simp] theorem Tryz.dm_und108 : (Program.underlying Tryz.prog 108).isSome = true := by kernel_rfl
@[simp] theorem Tryz.dm_str108 : Dm.tStr Tryz.prog 108 = false := by kernel_rfl
@[simp] theorem Tryz.dm_bool108 : Dm.tBool Tryz.prog 108 = false := by kernel_rfl
@[simp] theorem Tryz.dm_sl108 : Dm.tSl Tryz.prog 108 = false := by kernel_rfl
@[simp] theorem Tryz.dm_ptr108 : Dm.tPtr Tryz.prog 108 = false := by kernel_rfl
@[simp] theorem Tryz.dm_zero108 : Dm.tZero Tryz.prog 108 = some [.nilfn] := by kernel_rfl
@[simp] theorem Tryz.dm_agg109 : Dm.tAgg Tryz.prog 109 = some false := by kernel_rfl
@[simp] theorem Tryz.dm_cells109 : Dm.tCells Tryz.prog 109 = some 1 := by kernel_rfl
@[simp] theorem Tryz.dm_und109 : (Program.underlying Tryz.prog 109).isSome = true := by kernel_rfl
@[simp] theorem Tryz.dm_str109 : Dm.tStr Tryz.prog 109 = false := by kernel_rfl
@[simp] theorem Tryz.dm_bool109 : Dm.tBool Tryz.prog 109 = false := by kernel_rfl
@[simp] theorem Tryz.dm_sl109 : Dm.tSl Tryz.prog 109 = false := by kernel_rfl
@[simp] theorem Tryz.dm_ptr109 : Dm.tPtr Tryz.prog 109 = false := by kernel_rfl
@[simp] theorem Tryz.dm_zero109 : Dm.tZero Tryz.prog 109 = some [.nilfn] := by kernel_rfl
@[simp] theorem Tryz.dm_agg110 : Dm.tAgg Tryz.prog 110 = some false := by kernel_rfl
@[simp] theorem Tryz.dm_cells110 : Dm.tCells Tryz.prog 110 = some 1 := by kernel_rfl
@[simp] theorem Tryz.dm_und110 : (Program.underlying Tryz.prog 110).isSome = true := by kernel_rfl
@[simp] theorem Tryz.dm_str110 : Dm.tStr Tryz.prog 110 = false := by kernel_rfl
@[simp] theorem Tryz.dm_bool110 : Dm.tBool Tryz.prog 110 = false := by kernel_rfl
@[simp] theorem Tryz.dm_sl110 : Dm.tSl Tryz.prog 110 = false := by kernel_rfl
@[simp] theorem Tryz.dm_ptr110 : Dm.tPtr Tryz.prog 110 = true := by kernel_rfl
@[simp] theorem Tryz.dm_zero110 : Dm.tZero Tryz.prog 110 = some [.nilp] := by kernel_rfl
@[simp] theorem Tryz.dm_agg111 : Dm.tAgg Tryz.prog 111 = some false := by kernel_rfl
@[simp] theorem Tryz.dm_cells111 : Dm.tCells Tryz.prog 111 = some 1 := by kernel_rfl
@[simp] theorem Tryz.dm_und111 : (Program.underlying Tryz.prog 111).isSome = true := by kernel_rfl
@[simp] theorem Tryz.dm_int111 : Dm.tInt Tryz.prog 111 = some .u64 := by kernel_rfl
@[simp] theorem Tryz.dm_str111 : Dm.tStr Tryz.prog 111 = false := by kernel_rfl
@[simp] theorem Tryz.dm_bool111 : Dm.tBool Tryz.prog 111 = false := by kernel_rfl
@[simp] theorem Tryz.dm_sl111 : Dm.tSl Tryz.prog 111 = false := by kernel_rfl
@[simp] theorem Tryz.dm_ptr111 : Dm.tPtr Tryz.prog 111 = false := by kernel_rfl
@[simp] theorem Tryz.dm_zero111 : Dm.tZero Tryz.prog 111 = some [.int .u64 0] := by kernel_rfl
@[simp] theorem Tryz.dm_agg112 : Dm.tAgg Tryz.prog 112 = some false := by kernel_rfl
@[simp] theorem Tryz.dm_cells112 : Dm.tCells Tryz.prog 112 = some 1 := by kernel_rfl
@[simp] theorem Tryz.dm_und112 : (Program.underlying Tryz.prog 112).isSome = true := by kernel_rfl
@[simp] theorem Tryz.dm_str112 : Dm.tStr Tryz.prog 112 = false := by kernel_rfl
@[simp] theorem Tryz.dm_bool112 : Dm.tBool Tryz.prog 112 = false := by kernel_rfl
@[simp] theorem Tryz.dm_sl112 : Dm.tSl Tryz.prog 112 = false := by kernel_rfl
@[simp] theorem Tryz.dm_ptr112 : Dm.tPtr Tryz.prog 112 = false := by kernel_rfl
@[simp] theorem Tryz.dm_zero112 : Dm.tZero Tryz.prog 112 = some [.nilfn] := by kernel_rfl
@[simp] theorem Tryz.dm_agg113 : Dm.tAgg Tryz.prog 113 = some false := by kernel_rfl
@[simp] theorem Tryz.dm_cells113 : Dm.tCells Tryz.prog 113 = some 1 := by kernel_rfl
@[simp] theorem Tryz.dm_und113 : (Program.underlying Tryz.prog 113).isSome = true := by kernel_rfl
@[simp] theorem Tryz.dm_str113 : Dm.tStr Tryz.prog 113 = false := by kernel_rfl
@[simp] theorem Tryz.dm_bool113 : Dm.tBool Tryz.prog 113 = false := by kernel_rfl
@[simp] theorem Tryz.dm_sl113 : Dm.tSl Tryz.prog 113 = false := by kernel_rfl
@[simp] theorem Tryz.dm_ptr113 : Dm.tPtr Tryz.prog 113 = false := by kernel_rfl
@[simp] theorem Tryz.dm_zero113 : Dm.tZero Tryz.prog 113 = some [.nilfn] := by kernel_rfl
@[simp] theorem Tryz.dm_agg114 : Dm.tAgg Tryz.prog 114 = some false := by kernel_rfl
@[simp] theorem Tryz.dm_cells114 : Dm.tCells Tryz.prog 114 = some 1 := by kernel_rfl
@[simp] theorem Tryz.dm_und114 : (Program.underlying Tryz.prog 114).isSome = true := by kernel_rfl
@[simp] theorem Tryz.dm_str114 : Dm.tStr Tryz.prog 114 = false := by kernel_rfl
@[simp] theorem Tryz.dm_bool114 : Dm.tBool Tryz.prog 114 = false := by kernel_rfl
@[simp] theorem Tryz.dm_sl114 : Dm.tSl Tryz.prog 114 = false := by kernel_rfl
@[simp] theorem Tryz.dm_ptr114 : Dm.tPtr Tryz.prog 114 = false := by kernel_rfl
@[simp] theorem Tryz.dm_zero114 : Dm.tZero Tryz.prog 114 = some [.nilfn] := by kernel_rfl
@[simp] theorem Tryz.dm_agg115 : Dm.tAgg Tryz.prog 115 = some false := by kernel_rfl
@[simp] theorem Tryz.dm_cells115 : Dm.tCells Tryz.prog 115 = some 1 := by kernel_rfl
@[simp] theorem Tryz.dm_und115 : (Program.underlying Tryz.prog 115).isSome = true := by kernel_rfl
@[simp] theorem Tryz.dm_str115 : Dm.tStr Tryz.prog 115 = false := by kernel_rfl
@[simp] theorem Tryz.dm_bool115 : Dm.tBool Tryz.prog 115 = false := by kernel_rfl
@[simp] theorem Tryz.dm_sl115 : Dm.tSl Tryz.prog 115 = false := by kernel_rfl
@[simp] theorem Tryz.dm_ptr115 : Dm.tPtr Tryz.prog 115 = true := by kernel_rfl
@[simp] theorem Tryz.dm_zero115 : Dm.tZero Tryz.prog 115 = some [.nilp] := by kernel_rfl
@[simp] theorem Tryz.dm_agg116 : Dm.tAgg Tryz.prog 116 = some false := by kernel_rfl
@[simp] theorem Tryz.dm_cells116 : Dm.tCells Tryz.prog 116 = some 1 := by kernel_rfl
@[simp] theorem Tryz.dm_und116 : (Program.underlying Tryz.prog 116).isSome = true := by kernel_rfl
@[simp] theorem Tryz.dm_str116 : Dm.tStr Tryz.prog 116 = false := by kernel_rfl
@[simp] theorem Tryz.dm_bool116 : Dm.tBool Tryz.prog 116 = false := by kernel_rfl
@[simp] theorem Tryz.dm_sl116 : Dm.tSl Tryz.prog 116 = false := by kernel_rfl
@[simp] theorem Tryz.dm_ptr116 : Dm.tPtr Tryz.prog 116 = false := by kernel_rfl
@[simp] theorem Tryz.dm_zero116 : Dm.tZero Tryz.prog 116 = some [.nilfn] := by kernel_rfl
@[simp] theorem Tryz.dm_agg117 : Dm.tAgg Tryz.prog 117 = some false := by kernel_rfl
@[simp] theorem Tryz.dm_cells117 : Dm.tCells Tryz.prog 117 = some 1 := by kernel_rfl
@[simp] theorem Tryz.dm_und117 : (Program.underlying Tryz.prog 117).isSome = true := by kernel_rfl
@[simp] theorem Tryz.dm_str117 : Dm.tStr Tryz.prog 117 = false := by kernel_rfl
@[simp] theorem Tryz.dm_bool117 : Dm.tBool Tryz.prog 117 = false := by kernel_rfl
@[simp] theorem Tryz.dm_sl117 : Dm.tSl Tryz.prog 117 = false := by kernel_rfl
@[simp] theorem Tryz.dm_ptr117 : Dm.tPtr Tryz.prog 117 = false := by kernel_rfl
@[simp] theorem Tryz.dm_zero117 : Dm.tZero Tryz.prog 117 = some [.nilfn] := by kernel_rfl
@[simp] theorem Tryz.dm_agg118 : Dm.tAgg Tryz.prog 118 = some false := by kernel_rfl
@[simp] theorem Tryz.dm_cells118 : Dm.tCells Tryz.prog 118 = some 1 := by kernel_rfl
@[simp] theorem Tryz.dm_und118 : (Program.underlying Tryz.prog 118).isSome = true := by kernel_rfl
@[simp] theorem Tryz.dm_str118 : Dm.tStr Tryz.prog 118 = false := by kernel_rfl
@[simp] theorem Tryz.dm_bool118 : Dm.tBool Tryz.prog 118 = false := by kernel_rfl
@[simp] theorem Tryz.dm_sl118 : Dm.tSl Tryz.prog 118 = false := by kernel_rfl
@[simp] theorem Tryz.dm_ptr118 : Dm.tPtr Tryz.prog 118 = false := by kernel_rfl
@[simp] theorem Tryz.dm_zero118 : Dm.tZero Tryz.prog 118 = some [.nilfn] := by kernel_rfl
@[simp] theorem Tryz.dm_agg119 : Dm.tAgg Tryz.prog 119 = some false := by kernel_rfl
@[simp] theorem Tryz.dm_cells119 : Dm.tCells Tryz.prog 119 = some 1 := by kernel_rfl
@[simp] theorem Tryz.dm_und119 : (Program.underlying Tryz.prog 119).isSome = true := by kernel_rfl
@[simp] theorem Tryz.dm_str119 : Dm.tStr Tryz.prog 119 = false := by kernel_rfl
@[simp] theorem Tryz.dm_bool119 : Dm.tBool Tryz.prog 119 = false := by kernel_rfl
@[simp] theorem Tryz.dm_sl119 : Dm.tSl Tryz.prog 119 = false := by kernel_rfl
@[simp] theorem Tryz.dm_ptr119 : Dm.tPtr Tryz.prog 119 = false := by kernel_rfl
@[simp] theorem Tryz.dm_zero119 : Dm.tZero Tryz.prog 119 = some [.nilfn] := by kernel_rfl
@[simp] theorem Tryz.dm_agg120 : Dm.tAgg Tryz.prog 120 = some false := by kernel_rfl
@[simp] theorem Tryz.dm_cells120 : Dm.tCells Tryz.prog 120 = some 1 := by kernel_rfl
@[simp] theorem Tryz.dm_und120 : (Program.underlying Tryz.prog 120).isSome = true := by kernel_rfl
@[simp] theorem Tryz.dm_str120 : Dm.tStr Tryz.prog 120 = false := by kernel_rfl
@[simp] theorem Tryz.dm_bool120 : Dm.tBool Tryz.prog 120 = false := by kernel_rfl
@[simp] theorem Tryz.dm_sl120 : Dm.tSl Tryz.prog 120 = false := by kernel_rfl
@[simp] theorem Tryz.dm_ptr120 : Dm.tPtr Tryz.prog 120 = false := by kernel_rfl
@[simp] theorem Tryz.dm_zero120 : Dm.tZero Tryz.prog 120 = some [.nilfn] := by kernel_rfl
@[simp] theorem Tryz.dm_agg121 : Dm.tAgg Tryz.prog 121 = some false := by kernel_rfl
@[simp] theorem Tryz.dm_cells121 : Dm.tCells Tryz.prog 121 = some 1 := by kernel_rfl
@[simp] theorem Tryz.dm_und121 : (Program.underlying Tryz.prog 121).isSome = true := by kernel_rfl
@[simp] theorem Tryz.dm_str121 : Dm.tStr Tryz.prog 121 = false := by kernel_rfl
@[simp] theorem Tryz.dm_bool121 : Dm.tBool Tryz.prog 121 = false := by kernel_rfl
@[simp] theorem Tryz.dm_sl121 : Dm.tSl Tryz.prog 121 = false := by kernel_rfl
@[simp] theorem Tryz.dm_ptr121 : Dm.tPtr Tryz.prog 121 = false := by kernel_rfl
@[simp] theorem Tryz.dm_zero121 : Dm.tZero Tryz.prog 121 = some [.nilfn] := by kernel_rfl
@[simp] theorem Tryz.dm_agg122 : Dm.tAgg Tryz.prog 122 = some false := by kernel_rfl
@[simp] theorem Tryz.dm_cells122 : Dm.tCells Tryz.prog 122 = some 1 := by kernel_rfl
@[simp] theorem Tryz.dm_und122 : (Program.underlying Tryz.prog 122).isSome = true := by kernel_rfl
@[simp] theorem Tryz.dm_str122 : Dm.tStr Tryz.prog 122 = false := by kernel_rfl
@[simp] theorem Tryz.dm_bool122 : Dm.tBool Tryz.prog 122 = false := by kernel_rfl
@[simp] theorem Tryz.dm_sl122 : Dm.tSl Tryz.prog 122 = false := by kernel_rfl
@[simp] theorem Tryz.dm_ptr122 : Dm.tPtr Tryz.prog 122 = false := by kernel_rfl
@[simp] theorem Tryz.dm_zero122 : Dm.tZero Tryz.prog 122 = some [.nilfn] := by kernel_rfl
@[simp] theorem Tryz.dm_agg123 : Dm.tAgg Tryz.prog 123 = some false := by kernel_rfl
@[simp] theorem Tryz.dm_cells123 : Dm.tCells Tryz.prog 123 = some 1 := by kernel_rfl
@[simp] theorem Tryz.dm_und123 : (Program.underlying Tryz.prog 123).isSome = true := by kernel_rfl
@[simp] theorem Tryz.dm_str123 : Dm.tStr Tryz.prog 123 = false := by kernel_rfl
@[simp] theorem Tryz.dm_bool123 : Dm.tBool Tryz.prog 123 = false := by kernel_rfl
@[simp] theorem Tryz.dm_sl123 : Dm.tSl Tryz.prog 123 = false := by kernel_rfl
@[simp] theorem Tryz.dm_ptr123 : Dm.tPtr Tryz.prog 123 = false := by kernel_rfl
@[simp] theorem Tryz.dm_zero123 : Dm.tZero Tryz.prog 123 = some [.nilfn] := by kernel_rfl
@[simp] theorem Tryz.dm_agg124 : Dm.tAgg Tryz.prog 124 = some false := by kernel_rfl
@[simp] theorem Tryz.dm_cells124 : Dm.tCells Tryz.prog 124 = some 1 := by kernel_rfl
@[simp] theorem Tryz.dm_und124 : (Program.underlying Tryz.prog 124).isSome = true := by kernel_rfl
@[simp] theorem Tryz.dm_str124 : Dm.tStr Tryz.prog 124 = false := by kernel_rfl
@[simp] theorem Tryz.dm_bool124 : Dm.tBool Tryz.prog 124 = false := by kernel_rfl
@[simp] theorem Tryz.dm_sl124 : Dm.tSl Tryz.prog 124 = false := by kernel_rfl
@[simp] theorem Tryz.dm_ptr124 : Dm.tPtr Tryz.prog 124 = false := by kernel_rfl
@[simp] theorem Tryz.dm_zero124 : Dm.tZero Tryz.prog 124 = some [.nilfn] := by kernel_rfl
@[simp] theorem Tryz.dm_agg126 : Dm.tAgg Tryz.prog 126 = some false := by kernel_rfl
@[simp] theorem Tryz.dm_cells126 : Dm.tCells Tryz.prog 126 = some 1 := by kernel_rfl
@[simp] theorem Tryz.dm_und126 : (Program.underlying Tryz.prog 126).isSome = true := by kernel_rfl
@[simp] theorem Tryz.dm_str126 : Dm.tStr Tryz.prog 126 = false := by kernel_rfl
@[simp] theorem Tryz.dm_bool126 : Dm.tBool Tryz.prog 126 = false := by kernel_rfl
@[simp] theorem Tryz.dm_sl126 : Dm.tSl Tryz.prog 126 = false := by kernel_rfl
@[simp] theorem Tryz.dm_ptr126 : Dm.tPtr Tryz.prog 126 = false := by kernel_rfl
@[simp] theorem Tryz.dm_zero126 : Dm.tZero Tryz.prog 126 = some [.nilfn] := by kernel_rfl
@[simp] theorem Tryz.dm_agg127 : Dm.tAgg Tryz.prog 127 = some false := by kernel_rfl
@[simp] theorem Tryz.dm_cells127 : Dm.tCells Tryz.prog 127 = some 1 := by kernel_rfl
@[simp] theorem Tryz.dm_und127 : (Program.underlying Tryz.prog 127).isSome = true := by kernel_rfl
@[simp] theorem Tryz.dm_str127 : Dm.tStr Tryz.prog 127 = false := by kernel_rfl
@[simp] theorem Tryz.dm_bool127 : Dm.tBool Tryz.prog 127 = false := by kernel_rfl
@[simp] theorem Tryz.dm_sl127 : Dm.tSl Tryz.prog 127 = false := by kernel_rfl
@[simp] theorem Tryz.dm_ptr127 : Dm.tPtr Tryz.prog 127 = true := by kernel_rfl
@[simp] theorem Tryz.dm_zero127 : Dm.tZero Tryz.prog 127 = some [.nilp] := by kernel_rfl
@[simp] theorem Tryz.dm_agg129 : Dm.tAgg Tryz.prog 129 = some false := by kernel_rfl
@[simp] theorem Tryz.dm_cells129 : Dm.tCells Tryz.prog 129 = some 1 := by kernel_rfl
@[simp] theorem Tryz.dm_und129 : (Program.underlying Tryz.prog 129).isSome = true := by kernel_rfl
@[simp] theorem Tryz.dm_str129 : Dm.tStr Tryz.prog 129 = false := by kernel_rfl
@[simp] theorem Tryz.dm_bool129 : Dm.tBool Tryz.prog 129 = false := by kernel_rfl
@[simp] theorem Tryz.dm_sl129 : Dm.tSl Tryz.prog 129 = false := by kernel_rfl
@[simp] theorem Tryz.dm_ptr129 : Dm.tPtr Tryz.prog 129 = false := by kernel_rfl
@[simp] theorem Tryz.dm_zero129 : Dm.tZero Tryz.prog 129 = some [.nilfn] := by kernel_rfl
@[simp] theorem Tryz.dm_agg130 : Dm.tAgg Tryz.prog 130 = some false := by kernel_rfl
@[simp] theorem Tryz.dm_cells130 : Dm.tCells Tryz.prog 130 = some 1 := by kernel_rfl
@[simp] theorem Tryz.dm_und130 : (Program.underlying Tryz.prog 130).isSome = true := by kernel_rfl
@[simp] theorem Tryz.dm_str130 : Dm.tStr Tryz.prog 130 = false := by kernel_rfl
@[simp] theorem Tryz.dm_bool130 : Dm.tBool Tryz.prog 130 = false := by kernel_rfl
@[simp] theorem Tryz.dm_sl130 : Dm.tSl Tryz.prog 130 = false := by kernel_rfl
@[simp] theorem Tryz.dm_ptr130 : Dm.tPtr Tryz.prog 130 = false := by kernel_rfl
@[simp] theorem Tryz.dm_zero130 : Dm.tZero Tryz.prog 130 = some [.nilfn] := by kernel_rfl
@[simp] theorem Tryz.dm_agg131 : Dm.tAgg Tryz.prog 131 = some false := by kernel_rfl
@[simp] theorem Tryz.dm_cells131 : Dm.tCells Tryz.prog 131 = some 1 := by kernel_rfl
@[simp] theorem Tryz.dm_und131 : (Program.underlying Tryz.prog 131).isSome = true := by kernel_rfl
@[simp] theorem Tryz.dm_str131 : Dm.tStr Tryz.prog 131 = false := by kernel_rfl
@[simp] theorem Tryz.dm_bool131 : Dm.tBool Tryz.prog 131 = false := by kernel_rfl
@[simp] theorem Tryz.dm_sl131 : Dm.tSl Tryz.prog 131 = false := by kernel_rfl
@[simp] theorem Tryz.dm_ptr131 : Dm.tPtr Tryz.prog 131 = false := by kernel_rfl
@[simp] theorem Tryz.dm_zero131 : Dm.tZero Tryz.prog 131 = some [.nilfn] := by kernel_rfl
@[simp] theorem Tryz.dm_agg132 : Dm.tAgg Tryz.prog 132 = some false := by kernel_rfl
@[simp] theorem Tryz.dm_cells132 : Dm.tCells Tryz.prog 132 = some 1 := by kernel_rfl
@[simp] theorem Tryz.dm_und132 : (Program.underlying Tryz.prog 132).isSome = true := by kernel_rfl
@[simp] theorem Tryz.dm_str132 : Dm.tStr Tryz.prog 132 = false := by kernel_rfl
@[simp] theorem Tryz.dm_bool132 : Dm.tBool Tryz.prog 132 = false := by kernel_rfl
@[simp] theorem Tryz.dm_sl132 : Dm.tSl Tryz.prog 132 = false := by kernel_rfl
@[simp] theorem Tryz.dm_ptr132 : Dm.tPtr Tryz.prog 132 = false := by kernel_rfl
@[simp] theorem Tryz.dm_zero132 : Dm.tZero Tryz.prog 132 = some [.nilfn] := by kernel_rfl
@[simp] theorem Tryz.dm_agg133 : Dm.tAgg Tryz.prog 133 = some false := by kernel_rfl
@[simp] theorem Tryz.dm_cells133 : Dm.tCells Tryz.prog 133 = some 1 := by kernel_rfl
@[simp] theorem Tryz.dm_und133 : (Program.underlying Tryz.prog 133).isSome = true := by kernel_rfl
@[simp] theorem Tryz.dm_str133 : Dm.tStr Tryz.prog 133 = false := by kernel_rfl
@[simp] theorem Tryz.dm_bool133 : Dm.tBool Tryz.prog 133 = false := by kernel_rfl
@[simp] theorem Tryz.dm_sl133 : Dm.tSl Tryz.prog 133 = false := by kernel_rfl
@[simp] theorem Tryz.dm_ptr133 : Dm.tPtr Tryz.prog 133 = false := by kernel_rfl
@[simp] theorem Tryz.dm_zero133 : Dm.tZero Tryz.prog 133 = some [.nilfn] := by kernel_rfl
@[simp] theorem Tryz.dm_agg134 : Dm.tAgg Tryz.prog 134 = some true := by kernel_rfl
@[simp] theorem Tryz.dm_cells134 : Dm.tCells Tryz.prog 134 = some 4 := by kernel_rfl
@[simp] theorem Tryz.dm_und134 : (Program.underlying Tryz.prog 134).isSome = true := by kernel_rfl
@[simp] theorem Tryz.dm_str134 : Dm.tStr Tryz.prog 134 = false := by kernel_rfl
@[simp] theorem Tryz.dm_bool134 : Dm.tBool Tryz.prog 134 = false := by kernel_rfl
@[simp] theorem Tryz.dm_sl134 : Dm.tSl Tryz.prog 134 = false := by kernel_rfl
@[simp] theorem Tryz.dm_ptr134 : Dm.tPtr Tryz.prog 134 = false := by kernel_rfl
@[simp] theorem Tryz.dm_zero134 : Dm.tZero Tryz.prog 134 = some [.nilp, .nilp, .nilp, .str ⟨#[]⟩] := by kernel_rfl
@[simp] theorem Tryz.dm_field134_0 : Dm.tField Tryz.prog 134 0 = some (0, 1, false) := by kernel_rfl
@[simp] theorem Tryz.dm_field134_1 : Dm.tField Tryz.prog 134 1 = some (1, 1, false) := by kernel_rfl
@[simp] theorem Tryz.dm_field134_2 : Dm.tField Tryz.prog 134 2 = some (2, 1, false) := by kernel_rfl
@[simp] theorem Tryz.dm_field134_3 : Dm.tField Tryz.prog 134 3 = some (3, 1, false) := by kernel_rfl
@[simp] theorem Tryz.dm_parts134 : Dm.tParts Tryz.prog 134 = true := by kernel_rfl
@[simp] theorem Tryz.dm_agg135 : Dm.tAgg Tryz.prog 135 = some true := by kernel_rfl
@[simp] theorem Tryz.dm_cells135 : Dm.tCells Tryz.prog 135 = some 4 := by kernel_rfl
@[simp] theorem Tryz.dm_und135 : (Program.underlying Tryz.prog 135).isSome = true := by kernel_rfl
@[simp] theorem Tryz.dm_str135 : Dm.tStr Tryz.prog 135 = false := by kernel_rfl
@[simp] theorem Tryz.dm_bool135 : Dm.tBool Tryz.prog 135 = false := by kernel_rfl
@[simp] theorem Tryz.dm_sl135 : Dm.tSl Tryz.prog 135 = false := by kernel_rfl
@[simp] theorem Tryz.dm_ptr135 : Dm.tPtr Tryz.prog 135 = false := by kernel_rfl
@[simp] theorem Tryz.dm_zero135 : Dm.tZero Tryz.prog 135 = some [.nilp, .nilp, .nilp, .str ⟨#[]⟩] := by kernel_rfl
@[simp] theorem Tryz.dm_field135_0 : Dm.tField Tryz.prog 135 0 = some (0, 1, false) := by kernel_rfl
@[simp] theorem Tryz.dm_field135_1 : Dm.tField Tryz.prog 135 1 = some (1, 1, false) := by kernel_rfl
@[simp] theorem Tryz.dm_field135_2 : Dm.tField Tryz.prog 135 2 = some (2, 1, false) := by kernel_rfl
@[simp] theorem Tryz.dm_field135_3 : Dm.tField Tryz.prog 135 3 = some (3, 1, false) := by kernel_rfl
@[simp] theorem Tryz.dm_parts135 : Dm.tParts Tryz.prog 135 = true := by kernel_rfl
@[simp] theorem Tryz.dm_agg136 : Dm.tAgg Tryz.prog 136 = some true := by kernel_rfl
@[simp] theorem Tryz.dm_cells136 : Dm.tCells Tryz.prog 136 = some 0 := by kernel_rfl
@[simp] theorem Tryz.dm_und136 : (Program.underlying Tryz.prog 136).isSome = true := by kernel_rfl
@[simp] theorem Tryz.dm_str136 : Dm.tStr Tryz.prog 136 = false := by kernel_rfl
@[simp] theorem Tryz.dm_bool136 : Dm.tBool Tryz.prog 136 = false := by kernel_rfl
@[simp] theorem Tryz.dm_sl136 : Dm.tSl Tryz.prog 136 = false := by kernel_rfl
@[simp] theorem Tryz.dm_ptr136 : Dm.tPtr Tryz.prog 136 = false := by kernel_rfl
@[simp] theorem Tryz.dm_zero136 : Dm.tZero Tryz.prog 136 = some [] := by kernel_rfl
@[simp] theorem Tryz.dm_agg137 : Dm.tAgg Tryz.prog 137 = some true := by kernel_rfl
@[simp] theorem Tryz.dm_cells137 : Dm.tCells Tryz.prog 137 = some 0 := by kernel_rfl
@[simp] theorem Tryz.dm_und137 : (Program.underlying Tryz.prog 137).isSome = true := by kernel_rfl
@[simp] theorem Tryz.dm_str137 : Dm.tStr Tryz.prog 137 = false := by kernel_rfl
@[simp] theorem Tryz.dm_bool137 : Dm.tBool Tryz.prog 137 = false := by kernel_rfl
@[simp] theorem Tryz.dm_sl137 : Dm.tSl Tryz.prog 137 = false := by kernel_rfl
@[simp] theorem Tryz.dm_ptr137 : Dm.tPtr Tryz.prog 137 = false := by kernel_rfl
@[simp] theorem Tryz.dm_zero137 : Dm.tZero Tryz.prog 137 = some [] := by kernel_rfl
@[simp] theorem Tryz.dm_field137_0 : Dm.tField Tryz.prog 137 0 = some (0, 0, true) := by kernel_rfl
@[simp] theorem Tryz.dm_parts137 : Dm.tParts Tryz.prog 137 = true := by kernel_rfl
@[simp] theorem Tryz.dm_agg138 : Dm.tAgg Tryz.prog 138 = some true := by kernel_rfl
@[simp] theorem Tryz.dm_cells138 : Dm.tCells Tryz.prog 138 = some 0 := by kernel_rfl
@[simp] theorem Tryz.dm_und138 : (Program.underlying Tryz.prog 138).isSome = true := by kernel_rfl
@[simp] theorem Tryz.dm_str138 : Dm.tStr Tryz.prog 138 = false := by kernel_rfl
@[simp] theorem Tryz.dm_bool138 : Dm.tBool Tryz.prog 138 = false := by kernel_rfl
@[simp] theorem Tryz.dm_sl138 : Dm.tSl Tryz.prog 138 = false := by kernel_rfl
@[simp] theorem Tryz.dm_ptr138 : Dm.tPtr Tryz.prog 138 = false := by kernel_rfl
@[simp] theorem Tryz.dm_zero138 : Dm.tZero Tryz.prog 138 = some [] := by kernel_rfl
@[simp] theorem Tryz.dm_field138_0 : Dm.tField Tryz.prog 138 0 = some (0, 0, true) := by kernel_rfl
@[simp] theorem Tryz.dm_parts138 : Dm.tParts Tryz.prog 138 = true := by kernel_rfl
@[simp] theorem Tryz.dm_agg139 : Dm.tAgg Tryz.prog 139 = some false := by kernel_rfl
@[simp] theorem Tryz.dm_cells139 : Dm.tCells Tryz.prog 139 = some 1 := by kernel_rfl
@[simp] theorem Tryz.dm_und139 : (Program.underlying Tryz.prog 139).isSome = true := by kernel_rfl
@[simp] theorem Tryz.dm_str139 : Dm.tStr Tryz.prog 139 = false := by kernel_rfl
@[simp] theorem Tryz.dm_bool139 : Dm.tBool Tryz.prog 139 = false := by kernel_rfl
@[simp] theorem Tryz.dm_sl139 : Dm.tSl Tryz.prog 139 = false := by kernel_rfl
@[simp] theorem Tryz.dm_ptr139 : Dm.tPtr Tryz.prog 139 = false := by kernel_rfl
@[simp] theorem Tryz.dm_zero139 : Dm.tZero Tryz.prog 139 = some [.nilfn] := by kernel_rfl
@[simp] theorem Tryz.dm_agg140 : Dm.tAgg Tryz.prog 140 = some false := by kernel_rfl
@[simp] theorem Tryz.dm_cells140 : Dm.tCells Tryz.prog 140 = some 1 := by kernel_rfl
@[simp] theorem Tryz.dm_und140 : (Program.underlying Tryz.prog 140).isSome = true := by kernel_rfl
@[simp] theorem Tryz.dm_int140 : Dm.tInt Tryz.prog 140 = some .u8 := by kernel_rfl
@[simp] theorem Tryz.dm_str140 : Dm.tStr Tryz.prog 140 = false := by kernel_rfl
@[simp] theorem Tryz.dm_bool140 : Dm.tBool Tryz.prog 140 = false := by kernel_rfl
@[simp] theorem Tryz.dm_sl140 : Dm.tSl Tryz.prog 140 = false := by kernel_rfl
@[simp] theorem Tryz.dm_ptr140 : Dm.tPtr Tryz.prog 140 = false := by kernel_rfl
@[simp] theorem Tryz.dm_zero140 : Dm.tZero Tryz.prog 140 = some [.int .u8 0] := by kernel_rfl
@[simp] theorem Tryz.dm_agg141 : Dm.tAgg Tryz.prog 141 = some false := by kernel_rfl
@[simp] theorem Tryz.dm_cells141 : Dm.tCells Tryz.prog 141 = some 1 := by kernel_rfl
@[simp] theorem Tryz.dm_und141 : (Program.underlying Tryz.prog 141).isSome = true := by kernel_rfl
@[simp] theorem Tryz.dm_int141 : Dm.tInt Tryz.prog 141 = some .u8 := by kernel_rfl
@[simp] theorem Tryz.dm_str141 : Dm.tStr Tryz.prog 141 = false := by kernel_rfl
@[simp] theorem Tryz.dm_bool141 : Dm.tBool Tryz.prog 141 = false := by kernel_rfl
@[simp] theorem Tryz.dm_sl141 : Dm.tSl Tryz.prog 141 = false := by kernel_rfl
@[simp] theorem Tryz.dm_ptr141 : Dm.tPtr Tryz.prog 141 = false := by kernel_rfl
@[simp] theorem Tryz.dm_zero141 : Dm.tZero Tryz.prog 141 = some [.int .u8 0] := by kernel_rfl
@[simp] theorem Tryz.dm_agg142 : Dm.tAgg Tryz.prog 142 = some false := by kernel_rfl
@[simp] theorem Tryz.dm_cells142 : Dm.tCells Tryz.prog 142 = some 1 := by kernel_rfl
@[simp] theorem Tryz.dm_und142 : (Program.underlying Tryz.prog 142).isSome = true := by kernel_rfl
@[simp] theorem Tryz.dm_str142 : Dm.tStr Tryz.prog 142 = false := by kernel_rfl
@[simp] theorem Tryz.dm_bool142 : Dm.tBool Tryz.prog 142 = false := by kernel_rfl
@[simp] theorem Tryz.dm_sl142 : Dm.tSl Tryz.prog 142 = false := by kernel_rfl
@[simp] theorem Tryz.dm_ptr142 : Dm.tPtr Tryz.prog 142 = false := by kernel_rfl
@[simp] theorem Tryz.dm_zero142 : Dm.tZero Tryz.prog 142 = some [.nilfn] := by kernel_rfl
@[simp] theorem Tryz.dm_agg143 : Dm.tAgg Tryz.prog 143 = some false := by kernel_rfl
@[simp] theorem Tryz.dm_cells143 : Dm.tCells Tryz.prog 143 = some 1 := by kernel_rfl
@[simp] theorem Tryz.dm_und143 : (Program.underlying Tryz.prog 143).isSome = true := by kernel_rfl
@[simp] theorem Tryz.dm_int143 : Dm.tInt Tryz.prog 143 = some .i32 := by kernel_rfl
@[simp] theorem Tryz.dm_str143 : Dm.tStr Tryz.prog 143 = false := by kernel_rfl
@[simp] theorem Tryz.dm_bool143 : Dm.tBool Tryz.prog 143 = false := by kernel_rfl
@[simp] theorem Tryz.dm_sl143 : Dm.tSl Tryz.prog 143 = false := by kernel_rfl
@[simp] theorem Tryz.dm_ptr143 : Dm.tPtr Tryz.prog 143 = false := by kernel_rfl
@[simp] theorem Tryz.dm_zero143 : Dm.tZero Tryz.prog 143 = some [.int .i32 0] := by kernel_rfl
@[simp] theorem Tryz.dm_agg144 : Dm.tAgg Tryz.prog 144 = some false := by kernel_rfl
@[simp] theorem Tryz.dm_cells144 : Dm.tCells Tryz.prog 144 = some 1 := by kernel_rfl
@[simp] theorem Tryz.dm_und144 : (Program.underlying Tryz.prog 144).isSome = true := by kernel_rfl
@[simp] theorem Tryz.dm_int144 : Dm.tInt Tryz.prog 144 = some .i32 := by kernel_rfl
@[simp] theorem Tryz.dm_str144 : Dm.tStr Tryz.prog 144 = false := by kernel_rfl
@[simp] theorem Tryz.dm_bool144 : Dm.tBool Tryz.prog 144 = false := by kernel_rfl
@[simp] theorem Tryz.dm_sl144 : Dm.tSl Tryz.prog 144 = false := by kernel_rfl
@[simp] theorem Tryz.dm_ptr144 : Dm.tPtr Tryz.prog 144 = false := by kernel_rfl
@[simp] theorem Tryz.dm_zero144 : Dm.tZero Tryz.prog 144 = some [.int .i32 0] := by kernel_rfl
@[simp] theorem Tryz.dm_agg145 : Dm.tAgg Tryz.prog 145 = some true := by kernel_rfl
@[simp] theorem Tryz.dm_cells145 : Dm.tCells Tryz.prog 145 = some 11 := by kernel_rfl
@[simp] theorem Tryz.dm_und145 : (Program.underlying Tryz.prog 145).isSome = true := by kernel_rfl
@[simp] theorem Tryz.dm_str145 : Dm.tStr Tryz.prog 145 = false := by kernel_rfl
@[simp] theorem Tryz.dm_bool145 : Dm.tBool Tryz.prog 145 = false := by kernel_rfl
@[simp] theorem Tryz.dm_sl145 : Dm.tSl Tryz.prog 145 = false := by kernel_rfl
@[simp] theorem Tryz.dm_ptr145 : Dm.tPtr Tryz.prog 145 = false := by kernel_rfl
@[simp] theorem Tryz.dm_zero145 : Dm.tZero Tryz.prog 145 = some [.int .u64 0, .int .u64 0, .int .u32 0, .int .u8 0, .int .u8 0, .int .u8 0, .int .u8 0, .nilfn, .nilp, .int .i32 0, .int .i32 0] := by kernel_rfl
@[simp] theorem Tryz.dm_field145_0 : Dm.tField Tryz.prog 145 0 = some (0, 1, false) := by kernel_rfl
@[simp] theorem Tryz.dm_field145_1 : Dm.tField Tryz.prog 145 1 = some (1, 1, false) := by kernel_rfl
@[simp] theorem Tryz.dm_field145_2 : Dm.tField Tryz.prog 145 2 = some (2, 1, false) := by kernel_rfl
@[simp] theorem Tryz.dm_field145_3 : Dm.tField Tryz.prog 145 3 = some (3, 1, false) := by kernel_rfl
@[simp] theorem Tryz.dm_field145_4 : Dm.tField Tryz.prog 145 4 = some (4, 1, false) := by kernel_rfl
@[simp] theorem Tryz.dm_field145_5 : Dm.tField Tryz.prog 145 5 = some (5, 1, false) := by kernel_rfl
@[simp] theorem Tryz.dm_field145_6 : Dm.tField Tryz.prog 145 6 = some (6, 1, false) := by kernel_rfl
@[simp] theorem Tryz.dm_field145_7 : Dm.tField Tryz.prog 145 7 = some (7, 1, false) := by kernel_rfl
@[simp] theorem Tryz.dm_field145_8 : Dm.tField Tryz.prog 145 8 = some (8, 1, false) := by kernel_rfl
@[simp] theorem Tryz.dm_field145_9 : Dm.tField Tryz.prog 145 9 = some (9, 1, false) := by kernel_rfl
@[simp] theorem Tryz.dm_field145_10 : Dm.tField Tryz.prog 145 10 = some (10, 1, false) := by kernel_rfl
@[simp] theorem Tryz.dm_parts145 : Dm.tParts Tryz.prog 145 = true := by kernel_rfl
@[simp] theorem Tryz.dm_agg146 : Dm.tAgg Tryz.prog 146 = some true := by kernel_rfl
@[simp] theorem Tryz.dm_cells146 : Dm.tCells Tryz.prog 146 = some 11 := by kernel_rfl
@[simp] theorem Tryz.dm_und146 : (Program.underlying Tryz.prog 146).isSome = true := by kernel_rfl
@[simp] theorem Tryz.dm_str146 : Dm.tStr Tryz.prog 146 = false := by kernel_rfl
@[simp] theorem Tryz.dm_bool146 : Dm.tBool Tryz.prog 146 = false := by kernel_rfl
@[simp] theorem Tryz.dm_sl146 : Dm.tSl Tryz.prog 146 = false := by kernel_rfl
@[simp] theorem Tryz.dm_ptr146 : Dm.tPtr Tryz.prog 146 = false := by kernel_rfl
@[simp] theorem Tryz.dm_zero146 : Dm.tZero Tryz.prog 146 = some [.int .u64 0, .int .u64 0, .int .u32 0, .int .u8 0, .int .u8 0, .int .u8 0, .int .u8 0, .nilfn, .nilp, .int .i32 0, .int .i32 0] := by kernel_rfl
@[simp] theorem Tryz.dm_field146_0 : Dm.tField Tryz.prog 146 0 = some (0, 1, false) := by kernel_rfl
@[simp] theorem Tryz.dm_field146_1 : Dm.tField Tryz.prog 146 1 = some (1, 1, false) := by kernel_rfl
@[simp] theorem Tryz.dm_field146_2 : Dm.tField Tryz.prog 146 2 = some (2, 1, false) := by kernel_rfl
@[simp] theorem Tryz.dm_field146_3 : Dm.tField Tryz.prog 146 3 = some (3, 1, false) := by kernel_rfl
@[simp] theorem Tryz.dm_field146_4 : Dm.tField Tryz.prog 146 4 = some (4, 1, false) := by kernel_rfl
@[simp] theorem Tryz.dm_field146_5 : Dm.tField Tryz.prog 146 5 = some (5, 1, false) := by kernel_rfl
@[simp] theorem Tryz.dm_field146_6 : Dm.tField Tryz.prog 146 6 = some (6, 1, false) := by kernel_rfl
@[simp] theorem Tryz.dm_field146_7 : Dm.tField Tryz.prog 146 7 = some (7, 1, false) := by kernel_rfl
@[simp] theorem Tryz.dm_field146_8 : Dm.tField Tryz.prog 146 8 = some (8, 1, false) := by kernel_rfl
@[simp] theorem Tryz.dm_field146_9 : Dm.tField Tryz.prog 146 9 = some (9, 1, false) := by kernel_rfl
@[simp] theorem Tryz.dm_field146_10 : Dm.tField Tryz.prog 146 10 = some (10, 1, false) := by kernel_rfl
@[simp] theorem Tryz.dm_parts146 : Dm.tParts Tryz.prog 146 = true := by kernel_rfl
end Go.Proofs
end

section
/- The data machine, second make, part R: own objects under other names; contracts of functions that take and hand back own objects. -/

set_option linter.unusedSimpArgs false
set_option linter.unusedVariables false
namespace Go.Dm

/-- a reference under its new name, if it has one -/
def renR (φ : Nat → Nat → Option (Nat × Nat)) : DVal → DVal
  | .osl i r => match φ i r with | some p => .osl p.1 p.2 | none => .any
  | .vw i r k bs a n => match φ i r with | some p => .vw p.1 p.2 k bs a n | none => .any
  | .bx i r off => match φ i r with | some p => .bx p.1 p.2 off | none => .any
  | .rx i r k a b => match φ i r with | some p => .rx p.1 p.2 k a b | none => .any
  | .omp i r => match φ i r with | some p => .omp p.1 p.2 | none => .any
  | .pk i r => match φ i r with | some p => .pk p.1 p.2 | none => .any
  | d => d
def okR : DVal → Prop
  | .osl _ _ | .vw _ _ _ _ _ _ | .bx _ _ _ | .rx _ _ _ _ _ | .omp _ _ | .pk _ _ => True
  | d => mx d = 0
def okRs : List DVal → Prop
  | [] => True
  | d :: ds => okR d ∧ okRs ds
def ren2 (φ : Nat → Nat → Option (Nat × Nat)) : DVal → DVal
  | .fn f us cs => .fn f (us.map (renR φ)) (cs.map (renR φ))
  | d => renR φ d
def ok2 : DVal → Prop
  | .fn _ us cs => okRs us ∧ okRs cs
  | d => okR d
def ok2s : List DVal → Prop
  | [] => True
  | d :: ds => ok2 d ∧ ok2s ds
def ren3 (φ : Nat → Nat → Option (Nat × Nat)) : DVal → DVal
  | .agg cs => .agg (cs.map (ren2 φ))
  | d => ren2 φ d
def ok3 : DVal → Prop
  | .agg cs => ok2s cs
  | d => ok2 d
def ok3s : List DVal → Prop
  | [] => True
  | d :: ds => ok3 d ∧ ok3s ds
def renD (φ : Nat → Nat → Option (Nat × Nat)) : DVal → DVal
  | .tup cs => .tup (cs.map (ren3 φ))
  | d => ren3 φ d
def okD : DVal → Prop
  | .tup cs => ok3s cs
  | d => ok3 d
def ok2r : List (List DVal) → Prop
  | [] => True
  | cs :: es => ok2s cs ∧ ok2r es
def ren2r (φ : Nat → Nat → Option (Nat × Nat)) : List (List DVal) → List (List DVal)
  | [] => []
  | cs :: es => cs.map (ren2 φ) :: ren2r φ es
def renO (φ : Nat → Nat → Option (Nat × Nat)) : DObj → DObj
  | .box cs => .box (cs.map (ren2 φ))
  | .row et k bs es => if mxR es = 0 then .row et k bs es else .row et k bs (ren2r φ es)
  | o => o
def okO : DObj → Prop
  | .box cs => ok2s cs
  | .row _ _ _ es => mxR es = 0 ∨ ok2r es
  | .map ks vs => mxL ks = 0 ∧ mxL vs = 0
  | .abs _ => True

section
variable {cur cur' : Cur} {M M' : List Nat} {h h' : Array Obj} {φ : Nat → Nat → Option (Nat × Nat)}

/-- the new names lead where the old ones led -/
def Leads (cur cur' : Cur) (φ : Nat → Nat → Option (Nat × Nat)) : Prop := ∀ i r p l, φ i r = some p → cur' p.1 p.2 = some l → cur i r = some l

theorem rd_renR (W : Weak cur cur' M M' h h' 0) (L : Leads cur cur' φ) {d : DVal} {v : Value} (hk : okR d) (hr : rd cur M h d v) : rd cur' M' h' (renR φ d) v := by
  cases d with
  | osl i r =>
    simp only [renR]
    split
    · rename_i p hp; simp only [rd] at hr ⊢; exact fun l hl => hr l (L i r p l hp hl)
    · simp [rd]
  | bx i r off =>
    simp only [renR]
    split
    · rename_i p hp; simp only [rd] at hr ⊢; exact fun l hl => hr l (L i r p l hp hl)
    · simp [rd]
  | vw i r k bs x n =>
    simp only [renR]
    split
    · rename_i p hp; simp only [rd] at hr ⊢; exact fun l hl => hr l (L i r p l hp hl)
    · simp [rd]
  | rx i r k a b =>
    simp only [renR]
    split
    · rename_i p hp; simp only [rd] at hr ⊢; exact fun l hl => hr l (L i r p l hp hl)
    · simp [rd]
  | omp i r =>
    simp only [renR]
    split
    · rename_i p hp; simp only [rd] at hr ⊢; exact fun l hl => hr l (L i r p l hp hl)
    · simp [rd]
  | pk i r =>
    simp only [renR]
    split
    · rename_i p hp; simp only [rd] at hr ⊢; exact fun l hl => hr l (L i r p l hp hl)
    · simp [rd]
  | _ => simp only [okR] at hk; simp only [renR]; exact rd_weak W _ v (Nat.le_of_eq hk) hr

theorem rdV_renR (W : Weak cur cur' M M' h h' 0) (L : Leads cur cur' φ) : ∀ {ds : List DVal} {vs : List Value}, okRs ds → rdV cur M h ds vs → rdV cur' M' h' (ds.map (renR φ)) vs
  | [], vs, _, hr => by simpa [rdV] using hr
  | d :: ds, vs, hk, hr => by
    simp only [okRs] at hk
    simp only [rdV, List.map_cons] at hr ⊢
    obtain ⟨v, r, rfl, h1, h2⟩ := hr
    exact ⟨v, r, rfl, rd_renR W L hk.1 h1, rdV_renR W L hk.2 h2⟩

theorem rd_ren2 (W : Weak cur cur' M M' h h' 0) (L : Leads cur cur' φ) {d : DVal} {v : Value} (hk : ok2 d) (hr : rd cur M h d v) : rd cur' M' h' (ren2 φ d) v := by
  cases d with
  | fn f us cs =>
    simp only [ok2] at hk
    simp only [ren2, rd] at hr ⊢
    obtain ⟨us', cs', h1, h2, h3⟩ := hr
    exact ⟨us', cs', h1, rdV_renR W L hk.1 h2, rdV_renR W L hk.2 h3⟩
  | _ => exact rd_renR W L (by simpa only [ok2] using hk) hr

theorem rdV_ren2 (W : Weak cur cur' M M' h h' 0) (L : Leads cur cur' φ) : ∀ {ds : List DVal} {vs : List Value}, ok2s ds → rdV cur M h ds vs → rdV cur' M' h' (ds.map (ren2 φ)) vs
  | [], vs, _, hr => by simpa [rdV] using hr
  | d :: ds, vs, hk, hr => by
    simp only [ok2s] at hk
    simp only [rdV, List.map_cons] at hr ⊢
    obtain ⟨v, r, rfl, h1, h2⟩ := hr
    exact ⟨v, r, rfl, rd_ren2 W L hk.1 h1, rdV_ren2 W L hk.2 h2⟩

theorem rdC_ren2 (W : Weak cur cur' M M' h h' 0) (L : Leads cur cur' φ) : ∀ {ds : List DVal} {arr : Array Value} {o : Nat}, ok2s ds → rdC cur M h ds arr o → rdC cur' M' h' (ds.map (ren2 φ)) arr o
  | [], _, _, _, _ => by simp [rdC]
  | d :: ds, arr, o, hk, hr => by
    simp only [ok2s] at hk
    simp only [rdC, List.map_cons] at hr ⊢
    obtain ⟨⟨v, h1, h2, h3⟩, h4⟩ := hr
    exact ⟨⟨v, h1, h2, rd_ren2 W L hk.1 h3⟩, rdC_ren2 W L hk.2 h4⟩

theorem rd_ren3 (W : Weak cur cur' M M' h h' 0) (L : Leads cur cur' φ) {d : DVal} {v : Value} (hk : ok3 d) (hr : rd cur M h d v) : rd cur' M' h' (ren3 φ d) v := by
  cases d with
  | agg cs =>
    simp only [ok3] at hk
    simp only [ren3, rd] at hr ⊢
    obtain ⟨us, h1, h2⟩ := hr
    exact ⟨us, h1, rdV_ren2 W L hk h2⟩
  | _ => exact rd_ren2 W L (by simpa only [ok3] using hk) hr

theorem rdV_ren3 (W : Weak cur cur' M M' h h' 0) (L : Leads cur cur' φ) : ∀ {ds : List DVal} {vs : List Value}, ok3s ds → rdV cur M h ds vs → rdV cur' M' h' (ds.map (ren3 φ)) vs
  | [], vs, _, hr => by simpa [rdV] using hr
  | d :: ds, vs, hk, hr => by
    simp only [ok3s] at hk
    simp only [rdV, List.map_cons] at hr ⊢
    obtain ⟨v, r, rfl, h1, h2⟩ := hr
    exact ⟨v, r, rfl, rd_ren3 W L hk.1 h1, rdV_ren3 W L hk.2 h2⟩

theorem rd_renD (W : Weak cur cur' M M' h h' 0) (L : Leads cur cur' φ) {d : DVal} {v : Value} (hk : okD d) (hr : rd cur M h d v) : rd cur' M' h' (renD φ d) v := by
  cases d with
  | tup cs =>
    simp only [okD] at hk
    simp only [renD, rd] at hr ⊢
    obtain ⟨us, h1, h2⟩ := hr
    exact ⟨us, h1, rdV_ren3 W L hk h2⟩
  | _ => exact rd_ren3 W L (by simpa only [okD] using hk) hr

theorem rdR_ren2 (W : Weak cur cur' M M' h h' 0) (L : Leads cur cur' φ) {k : Nat} : ∀ {es : List (List DVal)} {arr : Array Value} {o : Nat}, ok2r es → rdR cur M h k es arr o → rdR cur' M' h' k (ren2r φ es) arr o
  | [], _, _, _, _ => by simp [ren2r, rdR]
  | cs :: es, arr, o, hk, hr => by
    simp only [ok2r] at hk
    simp only [rdR, ren2r] at hr ⊢
    exact ⟨by simpa using hr.1, rdC_ren2 W L hk.1 hr.2.1, rdR_ren2 W L hk.2 hr.2.2⟩
theorem ren2r_len (φ : Nat → Nat → Option (Nat × Nat)) (es : List (List DVal)) : (ren2r φ es).length = es.length := by
  induction es with
  | nil => rfl
  | cons c l ih => simp [ren2r, ih]
theorem ObjOK_ren (W : Weak cur cur' M M' h h' 0) (L : Leads cur cur' φ) {l l' : Loc} {obj : DObj} (hk : okO obj) (hl : l' = l)
    (keep : ∀ b o, b ∈ l.blks → h[b]? = some o → h'[b]? = some o) (ho : ObjOK cur M h l obj) : ObjOK cur' M' h' l' (renO φ obj) := by
  subst hl
  cases obj with
  | box cs =>
    simp only [okO] at hk
    obtain ⟨b, arr, ty, h1, h2, h3, h4⟩ := ho
    exact ⟨b, arr, ty, h1, keep b _ (by simp [h1]) h2, by simp [h3], rdC_ren2 W L hk h4⟩
  | row et k bs es =>
    simp only [renO]
    split
    · rename_i h0
      exact ObjOK_weak W (by simp [mxO, h0]) keep ho
    · rename_i h0
      simp only [okO] at hk
      have hk := hk.resolve_left h0
      obtain ⟨hb, ho⟩ := ho
      refine ⟨by rw [ren2r_len]; exact hb, ?_⟩
      rcases ho with ⟨rfl, h1, h2⟩ | ⟨b, arr, cap, h1, h2, h3, h4, h5, h6, h7⟩
      · exact .inl ⟨rfl, h1, h2⟩
      · exact .inr ⟨b, arr, cap, h1, by rw [ren2r_len]; exact h2, keep b _ (by simp [h1]) h3, by rw [ren2r_len]; exact h4, h5, h6, rdR_ren2 W L hk h7⟩
  | map ks vs => exact ObjOK_weak W (by simp only [okO] at hk; simp [renO, mxO, hk]) keep ho
  | abs A => exact ObjOK_weak W (by simp [renO, mxO]) keep ho
end

def FEnters (P : Program) : Fn → Prop
  | .func g => Enters P g
  | _ => True

/-- Function f is called with these data and these own objects (all of version 0): it hands back d; behind it the own objects are own' (of version 0 where an object has stayed in its place, else of version 1). -/
def DSpec (P : Program) (f : Fn) (args : List DVal) (own : List Ent) (d : DVal) (own' : List Ent) : Prop :=
  (∀ e ∈ own', e.r ≤ 1) ∧ FEnters P f ∧ ∀ (M : List Nat) (w : World) (loc : Nat → Loc) (vs : Array Value), St own loc M w.heap → rdV (curOf own loc) (hotOf own loc ++ M) w.heap args vs.toList →
    FCalls P f vs w fun v w' => ∃ loc', St own' loc' M w'.heap ∧ Upd (hotOf own loc) w w' ∧ (∀ b ∈ hotOf own' loc', b ∈ hotOf own loc ∨ w.heap.size ≤ b) ∧
      (∀ e ∈ own', e.r < 1 → curOf own loc e.id e.r = some (loc' e.id)) ∧ rd (curOf own' loc') (hotOf own' loc' ++ M) w'.heap d v

/-- which new name: ρ says (old number, new number, new version) of those that are handed on -/
def phiOf (own : List Ent) : List (Nat × Nat × Nat) → Nat → Nat → Option (Nat × Nat)
  | [], _, _ => none
  | (i, j, v) :: ρ, i', r' => if i' = i then (match findE own i with | some e => if r' = e.r then some (j, v) else none | none => none) else phiOf own ρ i' r'

/-- the own objects that are handed on -/
def outE (own : List Ent) (φ : Nat → Nat → Option (Nat × Nat)) : List (Nat × Nat × Nat) → Option (List Ent)
  | [] => some []
  | (i, j, v) :: ρ => match findE own i, outE own φ ρ with
    | some e, some l => some (⟨j, v, renO φ e.obj⟩ :: l)
    | _, _ => none
def outOK (own : List Ent) : List (Nat × Nat × Nat) → Prop
  | [] => True
  | (i, j, v) :: ρ => (match findE own i with | some e => okO e.obj ∧ (v = 1 ∨ (v = 0 ∧ i = j ∧ e.r = 0)) | none => False) ∧ outOK own ρ

section
variable {own : List Ent}

theorem phiOf_some : ∀ {ρ : List (Nat × Nat × Nat)} {i r : Nat} {p : Nat × Nat}, phiOf own ρ i r = some p → ∃ e, (i, p.1, p.2) ∈ ρ ∧ findE own i = some e ∧ e.r = r
  | [], i, r, p, h => by simp [phiOf] at h
  | (i0, j, v) :: ρ, i, r, p, h => by
    simp only [phiOf] at h
    split at h
    · rename_i hi
      subst hi
      split at h
      · rename_i e he
        split at h
        · rename_i hr
          simp only [Option.some.injEq] at h
          subst h
          exact ⟨e, List.mem_cons_self, he, hr.symm⟩
        · simp at h
      · simp at h
    · obtain ⟨e, h1, h2, h3⟩ := phiOf_some h
      exact ⟨e, List.mem_cons_of_mem _ h1, h2, h3⟩

theorem outE_mem {φ : Nat → Nat → Option (Nat × Nat)} : ∀ {ρ : List (Nat × Nat × Nat)} {l : List Ent}, outE own φ ρ = some l → (∀ x ∈ l, ∃ i j v e, (i, j, v) ∈ ρ ∧ findE own i = some e ∧ x = ⟨j, v, renO φ e.obj⟩) ∧ l.map (·.id) = ρ.map (·.2.1)
  | [], l, h => by simp only [outE, Option.some.injEq] at h; subst h; simp
  | (i, j, v) :: ρ, l, h => by
    simp only [outE] at h
    split at h
    · rename_i e l' he hl'
      simp only [Option.some.injEq] at h
      subst h
      obtain ⟨h1, h2⟩ := outE_mem hl'
      refine ⟨fun x hx => ?_, by simp [h2]⟩
      rcases List.mem_cons.1 hx with rfl | hx
      · exact ⟨i, j, v, e, List.mem_cons_self, he, rfl⟩
      · obtain ⟨i', j', v', e', g1, g2, g3⟩ := h1 x hx
        exact ⟨i', j', v', e', List.mem_cons_of_mem _ g1, g2, g3⟩
    · simp at h

theorem outOK_mem : ∀ {ρ : List (Nat × Nat × Nat)}, outOK own ρ → ∀ i j v, (i, j, v) ∈ ρ → ∃ e, findE own i = some e ∧ okO e.obj ∧ (v = 1 ∨ (v = 0 ∧ i = j ∧ e.r = 0))
  | [], _, i, j, v, hm => by cases hm
  | (i0, j0, v0) :: ρ, h, i, j, v, hm => by
    simp only [outOK] at h
    rcases List.mem_cons.1 hm with heq | hm
    · simp only [Prod.mk.injEq] at heq
      obtain ⟨rfl, rfl, rfl⟩ := heq
      have h1 := h.1
      split at h1
      · rename_i e he; exact ⟨e, he, h1⟩
      · exact h1.elim
    · exact outOK_mem h.2 i j v hm
end

end Go.Dm
end

section
/- The data machine, second make, part Q: a contract of a function that takes own objects, turned to the caller's names. -/

set_option linter.unusedSimpArgs false
set_option linter.unusedVariables false
namespace Go.Dm

/-- The same in a caller's names: what is handed back anew is of version r. -/
def SpecAt (P : Program) (f : Fn) (args : List DVal) (own : List Ent) (r : Nat) (d : DVal) (own' : List Ent) : Prop :=
  FEnters P f ∧ (own'.map (·.id)).Nodup ∧ (mxE own ≤ r → mx d ≤ r + 1 ∧ mxE own' ≤ r + 1) ∧
  ∀ (M : List Nat) (w : World) (loc : Nat → Loc) (vs : Array Value), mxE own ≤ r → St own loc M w.heap → rdV (curOf own loc) (hotOf own loc ++ M) w.heap args vs.toList →
    FCalls P f vs w fun v w' => ∃ loc', St own' loc' M w'.heap ∧ Upd (hotOf own loc) w w' ∧ (∀ b ∈ hotOf own' loc', b ∈ hotOf own loc ∨ w.heap.size ≤ b) ∧
      (∀ e ∈ own', e.r < r → curOf own loc e.id e.r = some (loc' e.id)) ∧ rd (curOf own' loc') (hotOf own' loc' ++ M) w'.heap d v

/-- who bears the contract's number j -/
def lookR : List (Nat × Nat) → Nat → Option Nat
  | [], _ => none
  | (i, j') :: t, j => if j = j' then some i else lookR t j
def inRho (ρ : List (Nat × Nat)) : List (Nat × Nat × Nat) := ρ.map fun p => (p.1, p.2, 0)
/-- the contract's names turned to the caller's -/
def backOf (own : List Ent) (ρ ν : List (Nat × Nat)) (r : Nat) : Nat → Nat → Option (Nat × Nat) := fun j v =>
  if v = 0 then (match lookR ρ j with | some i => (match findE own i with | some e => some (i, e.r) | none => none) | none => none)
  else if v = 1 then (match lookR (ρ ++ ν) j with | some i => some (i, r) | none => none)
  else none
def backE (φ : Nat → Nat → Option (Nat × Nat)) : List Ent → Option (List Ent)
  | [] => some []
  | e :: t => match φ e.id e.r, backE φ t with
    | some p, some l => some (⟨p.1, p.2, renO φ e.obj⟩ :: l)
    | _, _ => none
def frameE : List Ent → List Nat → List Ent
  | [], _ => []
  | e :: t, ids => if ids.contains e.id then frameE t ids else e :: frameE t ids
def okOs : List Ent → Prop
  | [] => True
  | e :: t => okO e.obj ∧ okOs t
def okDs : List DVal → Prop
  | [] => True
  | d :: t => okD d ∧ okDs t
def inOK (own : List Ent) : List (Nat × Nat) → Prop
  | [] => True
  | (i, _) :: t => (match findE own i with | some e => okO e.obj | none => False) ∧ inOK own t

theorem lookR_mem : ∀ {l : List (Nat × Nat)} {j i : Nat}, lookR l j = some i → (i, j) ∈ l
  | [], j, i, h => by simp [lookR] at h
  | (i', j') :: t, j, i, h => by
    simp only [lookR] at h
    split at h
    · rename_i hj
      simp only [Option.some.injEq] at h
      subst h; subst hj
      exact List.mem_cons_self
    · exact List.mem_cons_of_mem _ (lookR_mem h)

theorem lookR_of_mem : ∀ {l : List (Nat × Nat)} {j i : Nat}, (l.map (·.2)).Nodup → (i, j) ∈ l → lookR l j = some i
  | (i', j') :: t, j, i, hn, h => by
    simp only [List.map_cons, List.nodup_cons] at hn
    simp only [lookR]
    rcases List.mem_cons.1 h with h | h
    · simp only [Prod.mk.injEq] at h
      rw [if_pos h.2, h.1]
    · rw [if_neg (fun hj => hn.1 (by rw [← hj]; exact List.mem_map_of_mem (f := (·.2)) h)), lookR_of_mem hn.2 h]

theorem fst_inj {l : List (Nat × Nat)} (hn : (l.map (·.1)).Nodup) {i j j' : Nat} (h : (i, j) ∈ l) (h' : (i, j') ∈ l) : j = j' := by
  induction l with
  | nil => cases h
  | cons a l ih =>
    simp only [List.map_cons, List.nodup_cons] at hn
    rcases List.mem_cons.1 h with rfl | h1
    · rcases List.mem_cons.1 h' with h' | h2
      · simp only [Prod.mk.injEq] at h'; exact h'.2.symm
      · exact absurd (List.mem_map_of_mem (f := (·.1)) h2) hn.1
    · rcases List.mem_cons.1 h' with rfl | h2
      · exact absurd (List.mem_map_of_mem (f := (·.1)) h1) hn.1
      · exact ih hn.2 h1 h2

theorem mem_frameE {own : List Ent} {ids : List Nat} {e : Ent} : e ∈ frameE own ids ↔ e ∈ own ∧ e.id ∉ ids := by
  induction own with
  | nil => simp [frameE]
  | cons a t ih =>
    simp only [frameE]
    split
    · rename_i hc
      have hc : a.id ∈ ids := by simpa using hc
      rw [ih]
      constructor
      · rintro ⟨h1, h2⟩; exact ⟨List.mem_cons_of_mem _ h1, h2⟩
      · rintro ⟨h1, h2⟩
        rcases List.mem_cons.1 h1 with rfl | h1
        · exact absurd hc h2
        · exact ⟨h1, h2⟩
    · rename_i hc
      have hc : a.id ∉ ids := by simpa using hc
      rw [List.mem_cons, ih, List.mem_cons]
      constructor
      · rintro (rfl | ⟨h1, h2⟩)
        · exact ⟨.inl rfl, hc⟩
        · exact ⟨.inr h1, h2⟩
      · rintro ⟨rfl | h1, h2⟩
        · exact .inl rfl
        · exact .inr ⟨h1, h2⟩

theorem frameE_sub (own : List Ent) (ids : List Nat) : (frameE own ids).Sublist own := by
  induction own with
  | nil => exact List.Sublist.refl _
  | cons a t ih =>
    simp only [frameE]
    split
    · exact ih.cons _
    · exact ih.cons_cons _

theorem backE_mem {φ : Nat → Nat → Option (Nat × Nat)} : ∀ {l l' : List Ent}, backE φ l = some l' → (∀ x ∈ l', ∃ e ∈ l, ∃ p, φ e.id e.r = some p ∧ x = ⟨p.1, p.2, renO φ e.obj⟩)
  | [], l', h => by simp only [backE, Option.some.injEq] at h; subst h; simp
  | e :: t, l', h => by
    simp only [backE] at h
    split at h
    · rename_i p l hp hl
      simp only [Option.some.injEq] at h
      subst h
      intro x hx
      rcases List.mem_cons.1 hx with rfl | hx
      · exact ⟨e, List.mem_cons_self, p, hp, rfl⟩
      · obtain ⟨e', h1, h2⟩ := backE_mem hl x hx
        exact ⟨e', List.mem_cons_of_mem _ h1, h2⟩
    · simp at h

theorem backE_hot {φ : Nat → Nat → Option (Nat × Nat)} {loc loc' : Nat → Loc} : ∀ {l l' : List Ent}, backE φ l = some l' → (∀ e ∈ l, ∀ p, φ e.id e.r = some p → loc' p.1 = loc e.id) → hotOf l' loc' = hotOf l loc
  | [], l', h, _ => by simp only [backE, Option.some.injEq] at h; subst h; rfl
  | e :: t, l', h, hl => by
    simp only [backE] at h
    split at h
    · rename_i p l hp hl'
      simp only [Option.some.injEq] at h
      subst h
      rw [hot_cons, hot_cons, backE_hot hl' (fun e he => hl e (List.mem_cons_of_mem _ he))]
      simp only
      rw [hl e List.mem_cons_self p hp]
    · simp at h

theorem okOs_mem : ∀ {l : List Ent}, okOs l → ∀ e ∈ l, okO e.obj
  | e :: t, h, x, hx => by
    simp only [okOs] at h
    rcases List.mem_cons.1 hx with rfl | hx
    · exact h.1
    · exact okOs_mem h.2 x hx
theorem inOK_mem {own : List Ent} : ∀ {l : List (Nat × Nat)}, inOK own l → ∀ i j, (i, j) ∈ l → ∃ e, findE own i = some e ∧ okO e.obj
  | (i', j') :: t, h, i, j, hm => by
    simp only [inOK] at h
    rcases List.mem_cons.1 hm with hm | hm
    · simp only [Prod.mk.injEq] at hm
      obtain ⟨rfl, rfl⟩ := hm
      have h1 := h.1
      split at h1
      · rename_i e he; exact ⟨e, he, h1⟩
      · exact h1.elim
    · exact inOK_mem h.2 i j hm

theorem hot_nodup_ids0 {own : List Ent} {loc : Nat → Loc} (hn : (hotOf own loc).Nodup) : ∀ l : List Ent, (l.map (·.id)).Nodup → (∀ e ∈ l, ∃ e0 ∈ own, e0.id = e.id) → (hotOf l loc).Nodup
  | [], _, _ => by simp [hotOf]
  | e :: l, hd, hm => by
    simp only [List.map_cons, List.nodup_cons] at hd
    rw [hot_cons, List.nodup_append]
    obtain ⟨e0, he0, hid0⟩ := hm e List.mem_cons_self
    refine ⟨by rw [← hid0]; exact blks_nodup hn e0 he0, hot_nodup_ids0 hn l hd.2 (fun x hx => hm x (List.mem_cons_of_mem _ hx)), ?_⟩
    intro b hb b' hb' hbb
    subst hbb
    obtain ⟨e2, he2, hb2⟩ := List.mem_flatMap.1 hb'
    obtain ⟨e3, he3, hid3⟩ := hm e2 (List.mem_cons_of_mem _ he2)
    have := hot_inj hn e0 he0 e3 he3 b (by rw [hid0]; exact hb) (by rw [hid3]; exact hb2)
    subst this
    exact hd.1 (List.mem_map.2 ⟨e2, he2, by rw [← hid3, hid0]⟩)

def locB (loc0' loc : Nat → Loc) : List (Nat × Nat) → Nat → Loc
  | [], i => loc i
  | (i', j) :: t, i => if i = i' then loc0' j else locB loc0' loc t i
theorem locB_mem {loc0' loc : Nat → Loc} : ∀ {l : List (Nat × Nat)} {i j : Nat}, (l.map (·.1)).Nodup → (i, j) ∈ l → locB loc0' loc l i = loc0' j
  | (i', j') :: t, i, j, hn, hm => by
    simp only [List.map_cons, List.nodup_cons] at hn
    simp only [locB]
    rcases List.mem_cons.1 hm with h | h
    · simp only [Prod.mk.injEq] at h
      rw [if_pos h.1, h.2]
    · rw [if_neg (fun hi => hn.1 (by rw [← hi]; exact List.mem_map_of_mem (f := (·.1)) h)), locB_mem hn.2 h]
theorem locB_not {loc0' loc : Nat → Loc} : ∀ {l : List (Nat × Nat)} {i : Nat}, i ∉ l.map (·.1) → locB loc0' loc l i = loc i
  | [], i, h => rfl
  | (i', j') :: t, i, h => by
    simp only [List.map_cons, List.mem_cons, not_or] at h
    simp only [locB]
    rw [if_neg h.1, locB_not h.2]

/-! renamed data name no greater version -/
section
variable {φ : Nat → Nat → Option (Nat × Nat)} {n : Nat}
theorem mx_renR (hφ : ∀ i v p, φ i v = some p → p.2 ≤ n) {d : DVal} (h : okR d) : mx (renR φ d) ≤ n + 1 := by
  cases d <;> simp only [renR, okR] at h ⊢ <;> first
    | (split
       · rename_i p hp; have := hφ _ _ _ hp; simp only [mx]; omega
       · simp [mx])
    | (rw [h]; omega)
theorem mxL_renR (hφ : ∀ i v p, φ i v = some p → p.2 ≤ n) : ∀ {ds : List DVal}, okRs ds → mxL (ds.map (renR φ)) ≤ n + 1
  | [], _ => by simp [mxL]
  | d :: ds, h => by
    simp only [okRs] at h
    have h1 := mx_renR hφ h.1
    have h2 := mxL_renR hφ h.2
    simp only [List.map_cons, mxL]; omega
theorem mx_ren2 (hφ : ∀ i v p, φ i v = some p → p.2 ≤ n) {d : DVal} (h : ok2 d) : mx (ren2 φ d) ≤ n + 1 := by
  cases d with
  | fn f us cs =>
    simp only [ok2] at h
    have h1 := mxL_renR hφ h.1
    have h2 := mxL_renR hφ h.2
    simp only [ren2, mx]; omega
  | _ => exact mx_renR hφ (by simpa only [ok2] using h)
theorem mxL_ren2 (hφ : ∀ i v p, φ i v = some p → p.2 ≤ n) : ∀ {ds : List DVal}, ok2s ds → mxL (ds.map (ren2 φ)) ≤ n + 1
  | [], _ => by simp [mxL]
  | d :: ds, h => by
    simp only [ok2s] at h
    have h1 := mx_ren2 hφ h.1
    have h2 := mxL_ren2 hφ h.2
    simp only [List.map_cons, mxL]; omega
theorem mx_ren3 (hφ : ∀ i v p, φ i v = some p → p.2 ≤ n) {d : DVal} (h : ok3 d) : mx (ren3 φ d) ≤ n + 1 := by
  cases d with
  | agg cs =>
    simp only [ok3] at h
    have h1 := mxL_ren2 hφ h
    simp only [ren3, mx]; omega
  | _ => exact mx_ren2 hφ (by simpa only [ok3] using h)
theorem mxL_ren3 (hφ : ∀ i v p, φ i v = some p → p.2 ≤ n) : ∀ {ds : List DVal}, ok3s ds → mxL (ds.map (ren3 φ)) ≤ n + 1
  | [], _ => by simp [mxL]
  | d :: ds, h => by
    simp only [ok3s] at h
    have h1 := mx_ren3 hφ h.1
    have h2 := mxL_ren3 hφ h.2
    simp only [List.map_cons, mxL]; omega
theorem mx_renD (hφ : ∀ i v p, φ i v = some p → p.2 ≤ n) {d : DVal} (h : okD d) : mx (renD φ d) ≤ n + 1 := by
  cases d with
  | tup cs =>
    simp only [okD] at h
    have h1 := mxL_ren3 hφ h
    simp only [renD, mx]; omega
  | _ => exact mx_ren3 hφ (by simpa only [okD] using h)
theorem mxR_ren2 (hφ : ∀ i v p, φ i v = some p → p.2 ≤ n) : ∀ {es : List (List DVal)}, ok2r es → mxR (ren2r φ es) ≤ n + 1
  | [], _ => by simp [ren2r, mxR]
  | c :: l, h => by
    simp only [ok2r] at h
    have h1 := mxL_ren2 hφ h.1
    have h2 := mxR_ren2 hφ h.2
    simp only [ren2r, mxR]; omega
theorem mxO_renO (hφ : ∀ i v p, φ i v = some p → p.2 ≤ n) {o : DObj} (h : okO o) : mxO (renO φ o) ≤ n + 1 := by
  cases o with
  | box cs => simp only [okO] at h; simp only [renO, mxO]; exact mxL_ren2 hφ h
  | row et k bs es =>
    simp only [renO]
    split
    · rename_i h0; simp only [mxO, h0]; omega
    · rename_i h0
      simp only [okO] at h
      simp only [mxO]
      exact mxR_ren2 hφ (h.resolve_left h0)
  | map ks vs => simp only [okO] at h; simp only [renO, mxO, h.1, h.2]; omega
  | abs A => simp only [renO, mxO]; omega
end

theorem mxE_le {l : List Ent} {n : Nat} (h : ∀ e ∈ l, e.r + 1 ≤ n ∧ mxO e.obj ≤ n) : mxE l ≤ n := by
  induction l with
  | nil => simp [mxE]
  | cons e t ih =>
    have h1 := h e List.mem_cons_self
    have h2 := ih fun e he => h e (List.mem_cons_of_mem _ he)
    simp only [mxE]; omega

theorem rdV_renD {cur cur' : Cur} {M M' : List Nat} {h h' : Array Obj} {φ : Nat → Nat → Option (Nat × Nat)} (W : Weak cur cur' M M' h h' 0) (L : Leads cur cur' φ) : ∀ {ds : List DVal} {vs : List Value}, okDs ds → rdV cur M h ds vs → rdV cur' M' h' (ds.map (renD φ)) vs
  | [], vs, _, hr => by simpa [rdV] using hr
  | d :: ds, vs, hk, hr => by
    simp only [okDs] at hk
    simp only [rdV, List.map_cons] at hr ⊢
    obtain ⟨v, r, rfl, h1, h2⟩ := hr
    exact ⟨v, r, rfl, rd_renD W L hk.1 h1, rdV_renD W L hk.2 h2⟩

/-- what is run, of whatever make: C takes values, a world, what is to hold behind -/
abbrev Tran := Array Value → World → (Value → World → Prop) → Prop
def DSpecG (C : Tran) (args : List DVal) (own : List Ent) (d : DVal) (own' : List Ent) : Prop :=
  ∀ (M : List Nat) (w : World) (loc : Nat → Loc) (vs : Array Value), St own loc M w.heap → rdV (curOf own loc) (hotOf own loc ++ M) w.heap args vs.toList →
    C vs w fun v w' => ∃ loc', St own' loc' M w'.heap ∧ Upd (hotOf own loc) w w' ∧ (∀ b ∈ hotOf own' loc', b ∈ hotOf own loc ∨ w.heap.size ≤ b) ∧
      (∀ e ∈ own', e.r < 1 → curOf own loc e.id e.r = some (loc' e.id)) ∧ rd (curOf own' loc') (hotOf own' loc' ++ M) w'.heap d v
def SpecC (C : Tran) (args : List DVal) (own : List Ent) (r : Nat) (d : DVal) (own' : List Ent) : Prop :=
  ∀ (M : List Nat) (w : World) (loc : Nat → Loc) (vs : Array Value), mxE own ≤ r → St own loc M w.heap → rdV (curOf own loc) (hotOf own loc ++ M) w.heap args vs.toList →
    C vs w fun v w' => ∃ loc', St own' loc' M w'.heap ∧ Upd (hotOf own loc) w w' ∧ (∀ b ∈ hotOf own' loc', b ∈ hotOf own loc ∨ w.heap.size ≤ b) ∧
      (∀ e ∈ own', e.r < r → curOf own loc e.id e.r = some (loc' e.id)) ∧ rd (curOf own' loc') (hotOf own' loc' ++ M) w'.heap d v

/-- THE CONTRACT IN THE CALLER's NAMES. ρ: (the caller's number, the contract's number) of what is handed in; ν: of what comes back new. -/
theorem SpecC_of {C : Tran} (hC : ∀ vs w (R R' : Value → World → Prop), (∀ v w', R v w' → R' v w') → C vs w R → C vs w R') {args args0 : List DVal} {own own0 own0' l : List Ent} {d0 : DVal} {r : Nat} (ρ ν : List (Nat × Nat)) (hcall : DSpecG C args0 own0 d0 own0')
    (hin : outE own (phiOf own (inRho ρ)) (inRho ρ) = some own0) (hok : inOK own ρ) (hargs : okDs args ∧ wkA (args.map (renD (phiOf own (inRho ρ)))) args0)
    (hid : ((ρ ++ ν).map (·.1)).Nodup ∧ (ρ.map (·.2)).Nodup) (hout : backE (backOf own ρ ν r) own0' = some l) (hokO : okOs own0') (hokd : okD d0) (hnd : ((frameE own ((ρ ++ ν).map (·.1)) ++ l).map (·.id)).Nodup) :
    SpecC C args own r (renD (backOf own ρ ν r) d0) (frameE own ((ρ ++ ν).map (·.1)) ++ l) := by
  intro M w loc vs hmx S hr
  -- the way in
  have hloc0 : ∀ i j, (i, j) ∈ ρ → loc ((lookR ρ j).getD 0) = loc i := by
    intro i j hm
    simp only [lookR_of_mem hid.2 hm, Option.getD_some]
  obtain ⟨hm0, hids0⟩ := outE_mem hin
  have hm0' : ∀ x ∈ own0, ∃ i e, (i, x.id) ∈ ρ ∧ findE own i = some e ∧ x = ⟨x.id, 0, renO (phiOf own (inRho ρ)) e.obj⟩ := by
    intro x hx
    obtain ⟨i, j, v, e, h1, h2, h3⟩ := hm0 x hx
    simp only [inRho, List.mem_map, Prod.mk.injEq] at h1
    obtain ⟨p, hp, rfl, rfl, rfl⟩ := h1
    subst h3
    exact ⟨p.1, e, hp, h2, rfl⟩
  have hids0 : own0.map (·.id) = ρ.map (·.2) := by
    rw [hids0]; simp [inRho]
  have hnd0 : (own0.map (·.id)).Nodup := by rw [hids0]; exact hid.2
  have hρ1 : (ρ.map (·.1)).Nodup := by
    have := hid.1
    rw [List.map_append, List.nodup_append] at this
    exact this.1
  have hsel : hotOf own0 (fun j => loc ((lookR ρ j).getD 0)) = hotOf (own0.map fun x => ⟨(lookR ρ x.id).getD 0, 0, x.obj⟩) loc := by
    simp [hotOf, List.flatMap_map]
  have hselid : ((own0.map fun x => (⟨(lookR ρ x.id).getD 0, 0, x.obj⟩ : Ent)).map (·.id)).Nodup := by
    rw [List.map_map]
    have : own0.map ((·.id) ∘ fun x => (⟨(lookR ρ x.id).getD 0, 0, x.obj⟩ : Ent)) = ρ.map (·.1) := by
      have e1 : own0.map ((·.id) ∘ fun x => (⟨(lookR ρ x.id).getD 0, 0, x.obj⟩ : Ent)) = (own0.map (·.id)).map (fun j => (lookR ρ j).getD 0) := by
        rw [List.map_map]; rfl
      rw [e1, hids0, List.map_map]
      refine List.map_congr_left fun p hp => ?_
      simp only [Function.comp_def]
      rw [lookR_of_mem hid.2 hp]; rfl
    rw [this]; exact hρ1
  have hselm : ∀ e ∈ own0.map (fun x => (⟨(lookR ρ x.id).getD 0, 0, x.obj⟩ : Ent)), ∃ e0 ∈ own, e0.id = e.id := by
    intro e he
    obtain ⟨x, hx, rfl⟩ := List.mem_map.1 he
    obtain ⟨i, e, h1, h2, _⟩ := hm0' x hx
    simp only [lookR_of_mem hid.2 h1, Option.getD_some]
    exact ⟨e, findE_mem h2⟩
  have hhot0 : ∀ b ∈ hotOf own0 (fun j => loc ((lookR ρ j).getD 0)), ∃ i j e, (i, j) ∈ ρ ∧ e ∈ own ∧ e.id = i ∧ b ∈ (loc i).blks := by
    intro b hb
    obtain ⟨x, hx, hb⟩ := List.mem_flatMap.1 hb
    obtain ⟨i, e, h1, h2, _⟩ := hm0' x hx
    simp only [lookR_of_mem hid.2 h1, Option.getD_some] at hb
    exact ⟨i, x.id, e, h1, (findE_mem h2).1, (findE_mem h2).2, hb⟩
  have hin0 : ∀ b ∈ hotOf own0 (fun j => loc ((lookR ρ j).getD 0)), b ∈ hotOf own loc := by
    intro b hb
    obtain ⟨i, j, e, _, h2, rfl, h4⟩ := hhot0 b hb
    exact mem_hot h2 h4
  have hfr : ∀ b ∈ hotOf (frameE own ((ρ ++ ν).map (·.1))) loc, b ∈ hotOf own loc := by
    intro b hb
    obtain ⟨e, he, hb⟩ := List.mem_flatMap.1 hb
    exact mem_hot (mem_frameE.1 he).1 hb
  have hdis : ∀ b ∈ hotOf own0 (fun j => loc ((lookR ρ j).getD 0)), b ∉ hotOf (frameE own ((ρ ++ ν).map (·.1))) loc := by
    intro b hb hb'
    obtain ⟨i, j, e, h1, h2, rfl, h4⟩ := hhot0 b hb
    obtain ⟨e', he', hb'⟩ := List.mem_flatMap.1 hb'
    obtain ⟨g1, g2⟩ := mem_frameE.1 he'
    have := hot_inj S.bl e h2 e' g1 b h4 hb'
    subst this
    exact g2 (List.mem_map_of_mem (f := (·.1)) (List.mem_append_left _ h1))
  have hM : ∀ b, b ∈ hotOf own0 (fun j => loc ((lookR ρ j).getD 0)) ++ (hotOf (frameE own ((ρ ++ ν).map (·.1))) loc ++ M) → b ∈ hotOf own loc ++ M := by
    intro b hb
    simp only [List.mem_append] at hb ⊢
    rcases hb with hb | hb | hb
    · exact .inl (hin0 b hb)
    · exact .inl (hfr b hb)
    · exact .inr hb
  have W0 : Weak (curOf own loc) (curOf own0 fun j => loc ((lookR ρ j).getD 0)) (hotOf own loc ++ M) (hotOf own0 (fun j => loc ((lookR ρ j).getD 0)) ++ (hotOf (frameE own ((ρ ++ ν).map (·.1))) loc ++ M)) w.heap w.heap 0 :=
    ⟨fun id r l hr => by omega, fun b o _ (_ : isD o = true) ho => ho, fun b o hb (_ : isD o = true) _ hm => hb (hM b hm)⟩
  have L0 : Leads (curOf own loc) (curOf own0 fun j => loc ((lookR ρ j).getD 0)) (phiOf own (inRho ρ)) := by
    intro i v p lc hp hl
    obtain ⟨e, h1, h2, h3⟩ := phiOf_some hp
    simp only [inRho, List.mem_map, Prod.mk.injEq] at h1
    obtain ⟨q, hq, rfl, hq2, _⟩ := h1
    obtain ⟨e0, _, g1, _, g3⟩ := curOf_some hl
    rw [← h3]
    obtain ⟨k1, k2⟩ := findE_mem h2
    rw [← k2, curOf_self S.nd k1, g3, ← hq2, k2, hloc0 q.1 q.2 hq]
  have S0 : St own0 (fun j => loc ((lookR ρ j).getD 0)) (hotOf (frameE own ((ρ ++ ν).map (·.1))) loc ++ M) w.heap := by
    refine ⟨hnd0, ?_, ?_, ?_, ?_⟩
    · rw [hsel]
      exact hot_nodup_ids0 S.bl _ hselid hselm
    · intro b hb hm
      rcases List.mem_append.1 hm with hm | hm
      · exact hdis b hb hm
      · exact S.ap b (hin0 b hb) hm
    · intro b hb
      exact S.lt b (hM b hb)
    · intro x hx
      obtain ⟨i, e, h1, h2, h3⟩ := hm0' x hx
      obtain ⟨e', h4, h5⟩ := inOK_mem hok i x.id h1
      rw [h2] at h4
      simp only [Option.some.injEq] at h4
      subst h4
      obtain ⟨k1, k2⟩ := findE_mem h2
      rw [h3]
      have := ObjOK_ren W0 L0 (l := loc i) (l' := (fun j => loc ((lookR ρ j).getD 0)) x.id) h5 (hloc0 i x.id h1) (fun b o _ ho => ho) (by have := S.ok e k1; rwa [k2] at this)
      exact this
  have hr0 := rd_wkA (hargs.2) (rdV_renD W0 L0 hargs.1 hr)
  refine hC _ _ _ _ ?_ (hcall _ w _ vs S0 hr0)
  rintro v w' ⟨loc0', S1, hu, hnew, hver, hrd⟩
  -- the way back
  have hφ : ∀ e ∈ own0', ∀ p, backOf own ρ ν r e.id e.r = some p → (p.1, e.id) ∈ ρ ++ ν ∧ ((e.r = 0 ∧ ∃ e1, findE own p.1 = some e1 ∧ p.2 = e1.r ∧ (p.1, e.id) ∈ ρ) ∨ (e.r = 1 ∧ p.2 = r)) := by
    intro e he p hp
    unfold backOf at hp
    split at hp
    · rename_i h0
      split at hp
      · rename_i i hi
        split at hp
        · rename_i e1 he1
          simp only [Option.some.injEq] at hp
          subst hp
          have := lookR_mem hi
          exact ⟨List.mem_append_left _ this, .inl ⟨h0, e1, he1, rfl, this⟩⟩
        · simp at hp
      · simp at hp
    · split at hp
      · rename_i h1
        split at hp
        · rename_i i hi
          simp only [Option.some.injEq] at hp
          subst hp
          exact ⟨lookR_mem hi, .inr ⟨h1, rfl⟩⟩
        · simp at hp
      · simp at hp
  have hlp : ∀ e ∈ own0', ∀ p, backOf own ρ ν r e.id e.r = some p → locB loc0' loc (ρ ++ ν) p.1 = loc0' e.id := fun e he p hp => locB_mem hid.1 (hφ e he p hp).1
  have hotl : hotOf l (locB loc0' loc (ρ ++ ν)) = hotOf own0' loc0' := backE_hot hout hlp
  have hotf : hotOf (frameE own ((ρ ++ ν).map (·.1))) (locB loc0' loc (ρ ++ ν)) = hotOf (frameE own ((ρ ++ ν).map (·.1))) loc := by
    unfold hotOf
    have : ∀ e ∈ frameE own ((ρ ++ ν).map (·.1)), (locB loc0' loc (ρ ++ ν) e.id).blks = (loc e.id).blks := fun e he => by rw [locB_not (mem_frameE.1 he).2]
    generalize frameE own ((ρ ++ ν).map (·.1)) = fr at this
    induction fr with
    | nil => rfl
    | cons a t ih =>
      rw [List.flatMap_cons, List.flatMap_cons, this a List.mem_cons_self, ih (fun e he => this e (List.mem_cons_of_mem _ he))]
  have hot' : hotOf (frameE own ((ρ ++ ν).map (·.1)) ++ l) (locB loc0' loc (ρ ++ ν)) = hotOf (frameE own ((ρ ++ ν).map (·.1))) loc ++ hotOf own0' loc0' := by
    rw [← hotl, ← hotf]; simp [hotOf]
  have hM' : ∀ b, b ∈ hotOf (frameE own ((ρ ++ ν).map (·.1))) loc ++ hotOf own0' loc0' ++ M ↔ b ∈ hotOf own0' loc0' ++ (hotOf (frameE own ((ρ ++ ν).map (·.1))) loc ++ M) := by
    intro b; simp only [List.mem_append]; constructor
    · intro h; rcases h with (h | h) | h
      · exact .inr (.inl h)
      · exact .inl h
      · exact .inr (.inr h)
    · intro h; rcases h with h | h | h
      · exact .inl (.inr h)
      · exact .inl (.inl h)
      · exact .inr h
  have hfid : ∀ x ∈ l, x.id ∈ (ρ ++ ν).map (·.1) := by
    intro x hx
    obtain ⟨e, he, p, hp, rfl⟩ := backE_mem hout x hx
    exact List.mem_map_of_mem (f := (·.1)) (hφ e he p hp).1
  have W1 : Weak (curOf own0' loc0') (curOf (frameE own ((ρ ++ ν).map (·.1)) ++ l) (locB loc0' loc (ρ ++ ν))) (hotOf own0' loc0' ++ (hotOf (frameE own ((ρ ++ ν).map (·.1))) loc ++ M)) (hotOf (frameE own ((ρ ++ ν).map (·.1)) ++ l) (locB loc0' loc (ρ ++ ν)) ++ M) w'.heap w'.heap 0 :=
    ⟨fun id r l hr => by omega, fun b o _ (_ : isD o = true) ho => ho, fun b o hb (_ : isD o = true) _ hm => hb (by rw [hot'] at hm; exact (hM' b).1 hm)⟩
  have L1 : Leads (curOf own0' loc0') (curOf (frameE own ((ρ ++ ν).map (·.1)) ++ l) (locB loc0' loc (ρ ++ ν))) (backOf own ρ ν r) := by
    intro j v p lc hp hl
    obtain ⟨x, hx, g1, g2, g3⟩ := curOf_some hl
    have hpj : (p.1, j) ∈ ρ ++ ν ∧ ((v = 0 ∧ ∃ e1, findE own p.1 = some e1 ∧ p.2 = e1.r) ∨ (v = 1 ∧ p.2 = r)) := by
      unfold backOf at hp
      split at hp
      · rename_i h0
        split at hp
        · rename_i i hi
          split at hp
          · rename_i e1 he1
            simp only [Option.some.injEq] at hp
            subst hp
            exact ⟨List.mem_append_left _ (lookR_mem hi), .inl ⟨h0, e1, he1, rfl⟩⟩
          · simp at hp
        · simp at hp
      · split at hp
        · rename_i h1
          split at hp
          · rename_i i hi
            simp only [Option.some.injEq] at hp
            subst hp
            exact ⟨lookR_mem hi, .inr ⟨h1, rfl⟩⟩
          · simp at hp
        · simp at hp
    have hpi : p.1 ∈ (ρ ++ ν).map (·.1) := List.mem_map_of_mem (f := (·.1)) hpj.1
    rcases List.mem_append.1 hx with hx | hx
    · exact absurd (g1 ▸ hpi) (mem_frameE.1 hx).2
    · obtain ⟨e, he, q, hq, rfl⟩ := backE_mem hout x hx
      simp only at g1 g2
      obtain ⟨q1, q2⟩ := hφ e he q hq
      have hej : e.id = j := fst_inj hid.1 (by rw [← g1]; exact q1) hpj.1
      subst hej
      have hev : e.r = v := by
        rcases q2 with ⟨a1, e1, a2, a3, _⟩ | ⟨a1, a2⟩ <;> rcases hpj.2 with ⟨b1, e2, b2, b3⟩ | ⟨b1, b2⟩
        · omega
        · exfalso
          have := (mem_mxE (findE_mem a2).1).1
          omega
        · exfalso
          have := (mem_mxE (findE_mem b2).1).1
          omega
        · omega
      subst hev
      rw [curOf_self S1.nd he, g3, ← g1, locB_mem hid.1 q1]
  have hkeep : ∀ e ∈ frameE own ((ρ ++ ν).map (·.1)), ∀ b o, b ∈ (loc e.id).blks → w.heap[b]? = some o → w'.heap[b]? = some o := by
    intro e he b o hb ho
    have hbf : b ∈ hotOf (frameE own ((ρ ++ ν).map (·.1))) loc := mem_hot he hb
    rw [hu.blk b (Array.getElem?_eq_some_iff.1 ho).1 (fun h => hdis b h hbf)]
    exact ho
  have W2 : Weak (curOf own loc) (curOf (frameE own ((ρ ++ ν).map (·.1)) ++ l) (locB loc0' loc (ρ ++ ν))) (hotOf own loc ++ M) (hotOf (frameE own ((ρ ++ ν).map (·.1)) ++ l) (locB loc0' loc (ρ ++ ν)) ++ M) w.heap w'.heap r := by
    refine ⟨?_, ?_, ?_⟩
    · intro id v lc hv hl
      obtain ⟨x, hx, rfl, rfl, rfl⟩ := curOf_some hl
      rcases List.mem_append.1 hx with hx | hx
      · have := mem_frameE.1 hx
        rw [curOf_self S.nd this.1, locB_not this.2]
      · obtain ⟨e, he, q, hq, rfl⟩ := backE_mem hout x hx
        simp only at hv ⊢
        obtain ⟨q1, q2⟩ := hφ e he q hq
        rcases q2 with ⟨a1, e1, a2, a3, a4⟩ | ⟨a1, a2⟩
        · have h1 := hver e he (by omega)
          obtain ⟨x0, k1, k2, k3, k4⟩ := curOf_some h1
          obtain ⟨m1, m2⟩ := findE_mem a2
          rw [locB_mem hid.1 q1, k4, hloc0 _ _ a4, a3, ← m2, curOf_self S.nd m1]
        · omega
    · intro b o hb (_ : isD o = true) ho
      rw [hu.blk b (Array.getElem?_eq_some_iff.1 ho).1 (fun h => hb (List.mem_append_left _ (hin0 b h)))]
      exact ho
    · intro b o hb (_ : isD o = true) ho hm
      rw [hot'] at hm
      have hlt := (Array.getElem?_eq_some_iff.1 ho).1
      simp only [List.mem_append] at hm hb
      rcases hm with (hm | hm) | hm
      · exact hb (.inl (hfr b hm))
      · rcases hnew b hm with h | h
        · exact hb (.inl (hin0 b h))
        · omega
      · exact hb (.inr hm)
  refine ⟨locB loc0' loc (ρ ++ ν), ⟨hnd, ?_, ?_, ?_, ?_⟩, ?_, ?_, ?_, ?_⟩
  · rw [hot', List.nodup_append]
    refine ⟨(hot_nodup_sub S.bl _ ?_ (fun e he => (mem_frameE.1 he).1)), S1.bl, ?_⟩
    · exact ((frameE_sub own _).map _).nodup S.nd
    · intro b hb b' hb' hbb
      subst hbb
      exact S1.ap b hb' (List.mem_append_left _ hb)
  · intro b hb hm
    rw [hot'] at hb
    rcases List.mem_append.1 hb with hb | hb
    · exact S.ap b (hfr b hb) hm
    · exact S1.ap b hb (List.mem_append_right _ hm)
  · intro b hb
    rw [hot'] at hb
    exact S1.lt b ((hM' b).1 hb)
  · intro x hx
    rcases List.mem_append.1 hx with hx | hx
    · have hm := mem_frameE.1 hx
      have := ObjOK_weak W2 (Nat.le_trans (mem_mxE hm.1).2 hmx) (hkeep x hx) (S.ok x hm.1)
      rwa [locB_not hm.2]
    · obtain ⟨e, he, q, hq, rfl⟩ := backE_mem hout x hx
      exact ObjOK_ren W1 L1 (okOs_mem hokO e he) (hlp e he q hq) (fun b o _ ho => ho) (S1.ok e he)
  · refine ⟨hu.os, hu.tape, hu.output, hu.drawn, hu.size, fun b hb hn => hu.blk b hb fun h => hn (hin0 b h)⟩
  · intro b hb
    rw [hot'] at hb
    rcases List.mem_append.1 hb with hb | hb
    · exact .inl (hfr b hb)
    · rcases hnew b hb with h | h
      · exact .inl (hin0 b h)
      · exact .inr h
  · intro x hx hlt
    exact W2.c x.id x.r _ hlt (curOf_self hnd hx)
  · exact rd_renD W1 L1 hokd hrd
/-- THE CONTRACT IN THE CALLER's NAMES. ρ: (the caller's number, the contract's number) of what is handed in; ν: of what comes back new. -/
theorem SpecAt_of_DSpec {P : Program} {f : Fn} {args args0 : List DVal} {own own0 own0' l : List Ent} {d0 : DVal} {r : Nat} (ρ ν : List (Nat × Nat)) (hS : DSpec P f args0 own0 d0 own0')
    (hin : outE own (phiOf own (inRho ρ)) (inRho ρ) = some own0) (hok : inOK own ρ) (hargs : okDs args ∧ wkA (args.map (renD (phiOf own (inRho ρ)))) args0)
    (hid : ((ρ ++ ν).map (·.1)).Nodup ∧ (ρ.map (·.2)).Nodup) (hout : backE (backOf own ρ ν r) own0' = some l) (hokO : okOs own0') (hokd : okD d0) (hnd : ((frameE own ((ρ ++ ν).map (·.1)) ++ l).map (·.id)).Nodup) :
    SpecAt P f args own r (renD (backOf own ρ ν r) d0) (frameE own ((ρ ++ ν).map (·.1)) ++ l) := by
  have hb2 : mxE own ≤ r → ∀ i v p, backOf own ρ ν r i v = some p → p.2 ≤ r := by
    intro hmx i v p hp
    unfold backOf at hp
    split at hp
    · split at hp
      · split at hp
        · rename_i e he
          simp only [Option.some.injEq] at hp
          subst hp
          have := (mem_mxE (findE_mem he).1).1
          simp only; omega
        · simp at hp
      · simp at hp
    · split at hp
      · split at hp
        · simp only [Option.some.injEq] at hp
          subst hp; exact Nat.le_refl _
        · simp at hp
      · simp at hp
  refine ⟨hS.2.1, hnd, fun hmx => ⟨mx_renD (hb2 hmx) hokd, mxE_le fun e he => ?_⟩, ?_⟩
  · rcases List.mem_append.1 he with he | he
    · have := mem_mxE (mem_frameE.1 he).1
      omega
    · obtain ⟨e0, h0, p, hp, rfl⟩ := backE_mem hout e he
      exact ⟨by have := hb2 hmx _ _ _ hp; simp only; omega, mxO_renO (hb2 hmx) (okOs_mem hokO e0 h0)⟩
  exact SpecC_of (C := FCalls P f) (fun vs w R R' h hc => hc.mono h) ρ ν (fun M w loc vs S hr => hS.2.2 M w loc vs S hr) hin hok hargs hid hout hokO hokd hnd
end Go.Dm
end

