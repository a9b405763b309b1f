/- Parts of a proof, laid together: Tn5, Tn6, Tn7, Tn8, Tn9, Tn10, Tn11, Tn12. -/
import Derived.Test.YtedjakmhhlilaaaGreatDoorqTx28
set_option linter.unusedSimpArgs false
set_option linter.unusedVariables false
set_option linter.unusedSectionVars false
section
set_option maxRecDepth 1000000
namespace Go.Proofs.YtedjakmhhlilaaaGreatDoor
open Go Go.Dm
noncomputable def k_25 : CE := ⟨121, 6570, [.bx 6410 6410 0, .int .i64 (2), .int .i64 (0)], [glE, v_137, v_138, v_139], .tup [.bool true, .int .i64 (0)], [v_140, v_141], 6719⟩
theorem k_25_run : (k_25).run Tryz.prog 10000 (orE (orcT []) libO) 200 = true := by kernel_rfl
theorem k_25_ok : (k_25).holds Tryz.prog := CE.holds_of mixedO (orE_ok (orcT_ok (fun _ h => absurd h List.not_mem_nil)) libO_ok) (by kernel_rfl) k_25_run (Nat.le_of_ble_eq_true (by kernel_rfl)) (Nat.le_of_ble_eq_true (by kernel_rfl))
noncomputable def k_26 : CE := ⟨121, 6748, [.bx 6723 6723 0, .int .i64 (2), .int .i64 (3)], [glE, v_142, v_143], .tup [.bool true, .int .i64 (0)], [v_144, v_145, v_146], 6899⟩
theorem k_26_run : (k_26).run Tryz.prog 10000 (orE (orcT []) libO) 200 = true := by kernel_rfl
theorem k_26_ok : (k_26).holds Tryz.prog := CE.holds_of mixedO (orE_ok (orcT_ok (fun _ h => absurd h List.not_mem_nil)) libO_ok) (by kernel_rfl) k_26_run (Nat.le_of_ble_eq_true (by kernel_rfl)) (Nat.le_of_ble_eq_true (by kernel_rfl))
noncomputable def k_27 : CE := ⟨121, 6901, [.bx 6723 6723 0, .int .i64 (4), .int .i64 (5)], [glE, v_144, v_145, v_146], .tup [.bool true, .int .i64 (0)], [v_147, v_148], 7050⟩
theorem k_27_run : (k_27).run Tryz.prog 10000 (orE (orcT []) libO) 200 = true := by kernel_rfl
theorem k_27_ok : (k_27).holds Tryz.prog := CE.holds_of mixedO (orE_ok (orcT_ok (fun _ h => absurd h List.not_mem_nil)) libO_ok) (by kernel_rfl) k_27_run (Nat.le_of_ble_eq_true (by kernel_rfl)) (Nat.le_of_ble_eq_true (by kernel_rfl))
noncomputable def k_28 : CE := ⟨121, 7495, [.bx 7051 7051 0, .int .i64 (6), .int .i64 (11)], [glE, v_149, v_150], .tup [.bool true, .int .i64 (0)], [v_151, v_152, v_153], 7646⟩
theorem k_28_run : (k_28).run Tryz.prog 10000 (orE (orcT []) libO) 200 = true := by kernel_rfl
theorem k_28_ok : (k_28).holds Tryz.prog := CE.holds_of mixedO (orE_ok (orcT_ok (fun _ h => absurd h List.not_mem_nil)) libO_ok) (by kernel_rfl) k_28_run (Nat.le_of_ble_eq_true (by kernel_rfl)) (Nat.le_of_ble_eq_true (by kernel_rfl))
noncomputable def k_29 : CE := ⟨121, 7649, [.bx 7051 7051 0, .int .i64 (8), .int .i64 (9)], [glE, v_151, v_152, v_153], .tup [.bool true, .int .i64 (0)], [v_154, v_155], 7798⟩
theorem k_29_run : (k_29).run Tryz.prog 10000 (orE (orcT []) libO) 200 = true := by kernel_rfl
theorem k_29_ok : (k_29).holds Tryz.prog := CE.holds_of mixedO (orE_ok (orcT_ok (fun _ h => absurd h List.not_mem_nil)) libO_ok) (by kernel_rfl) k_29_run (Nat.le_of_ble_eq_true (by kernel_rfl)) (Nat.le_of_ble_eq_true (by kernel_rfl))
noncomputable def k_30 : CE := ⟨121, 7815, [.bx 7051 7051 0, .int .i64 (12), .int .i64 (17)], [glE, v_154, v_152, v_155], .tup [.bool true, .int .i64 (0)], [v_156, v_157], 7964⟩
theorem k_30_run : (k_30).run Tryz.prog 10000 (orE (orcT []) libO) 200 = true := by kernel_rfl
theorem k_30_ok : (k_30).holds Tryz.prog := CE.holds_of mixedO (orE_ok (orcT_ok (fun _ h => absurd h List.not_mem_nil)) libO_ok) (by kernel_rfl) k_30_run (Nat.le_of_ble_eq_true (by kernel_rfl)) (Nat.le_of_ble_eq_true (by kernel_rfl))
noncomputable def k_31 : CE := ⟨121, 7967, [.bx 7051 7051 0, .int .i64 (14), .int .i64 (15)], [glE, v_156, v_152, v_157], .tup [.bool true, .int .i64 (0)], [v_158, v_159], 8116⟩
theorem k_31_run : (k_31).run Tryz.prog 10000 (orE (orcT []) libO) 200 = true := by kernel_rfl
theorem k_31_ok : (k_31).holds Tryz.prog := CE.holds_of mixedO (orE_ok (orcT_ok (fun _ h => absurd h List.not_mem_nil)) libO_ok) (by kernel_rfl) k_31_run (Nat.le_of_ble_eq_true (by kernel_rfl)) (Nat.le_of_ble_eq_true (by kernel_rfl))
noncomputable def k_32 : CE := ⟨122, 7050, [.bx 6723 6723 0, .bx 6410 6410 0], [glE, v_147, v_145, v_148, v_140, v_138, v_141], .tup [.bx 7051 7051 0, .int .i64 (0)], [v_158, v_152, v_159], 8472⟩
theorem k_32_run : (k_32).run Tryz.prog 10000 (orE (orcT [k_28, k_29, k_30, k_31]) libO) 200 = true := by kernel_rfl
theorem k_32_ok : (k_32).holds Tryz.prog := CE.holds_of mixedO (orE_ok (orcT_ok (List.forall_mem_cons.2 ⟨k_28_ok, List.forall_mem_cons.2 ⟨k_29_ok, List.forall_mem_cons.2 ⟨k_30_ok, List.forall_mem_cons.2 ⟨k_31_ok, fun _ h => absurd h List.not_mem_nil⟩⟩⟩⟩)) libO_ok) (by kernel_rfl) k_32_run (Nat.le_of_ble_eq_true (by kernel_rfl)) (Nat.le_of_ble_eq_true (by kernel_rfl))
noncomputable def k_33 : CE := ⟨121, 8532, [.bx 2638 2638 0, .int .i64 (6), .int .i64 (11)], [glE, v_85, v_70, v_86], .tup [.bool true, .int .i64 (0)], [v_160, v_161], 8681⟩
theorem k_33_run : (k_33).run Tryz.prog 10000 (orE (orcT []) libO) 200 = true := by kernel_rfl
theorem k_33_ok : (k_33).holds Tryz.prog := CE.holds_of mixedO (orE_ok (orcT_ok (fun _ h => absurd h List.not_mem_nil)) libO_ok) (by kernel_rfl) k_33_run (Nat.le_of_ble_eq_true (by kernel_rfl)) (Nat.le_of_ble_eq_true (by kernel_rfl))
noncomputable def k_34 : CE := ⟨121, 8687, [.bx 8474 8474 0, .int .i64 (6), .int .i64 (11)], [glE, v_162, v_163], .tup [.bool true, .int .i64 (0)], [v_164, v_165, v_166], 8838⟩
theorem k_34_run : (k_34).run Tryz.prog 10000 (orE (orcT []) libO) 200 = true := by kernel_rfl
theorem k_34_ok : (k_34).holds Tryz.prog := CE.holds_of mixedO (orE_ok (orcT_ok (fun _ h => absurd h List.not_mem_nil)) libO_ok) (by kernel_rfl) k_34_run (Nat.le_of_ble_eq_true (by kernel_rfl)) (Nat.le_of_ble_eq_true (by kernel_rfl))
noncomputable def k_35 : CE := ⟨121, 8852, [.bx 2638 2638 0, .int .i64 (8), .int .i64 (9)], [glE, v_160, v_70, v_161], .tup [.bool true, .int .i64 (0)], [v_167, v_168], 9001⟩
theorem k_35_run : (k_35).run Tryz.prog 10000 (orE (orcT []) libO) 200 = true := by kernel_rfl
theorem k_35_ok : (k_35).holds Tryz.prog := CE.holds_of mixedO (orE_ok (orcT_ok (fun _ h => absurd h List.not_mem_nil)) libO_ok) (by kernel_rfl) k_35_run (Nat.le_of_ble_eq_true (by kernel_rfl)) (Nat.le_of_ble_eq_true (by kernel_rfl))
noncomputable def k_36 : CE := ⟨121, 9007, [.bx 8474 8474 0, .int .i64 (8), .int .i64 (9)], [glE, v_164, v_165, v_166], .tup [.bool true, .int .i64 (0)], [v_169, v_170], 9156⟩
theorem k_36_run : (k_36).run Tryz.prog 10000 (orE (orcT []) libO) 200 = true := by kernel_rfl
theorem k_36_ok : (k_36).holds Tryz.prog := CE.holds_of mixedO (orE_ok (orcT_ok (fun _ h => absurd h List.not_mem_nil)) libO_ok) (by kernel_rfl) k_36_run (Nat.le_of_ble_eq_true (by kernel_rfl)) (Nat.le_of_ble_eq_true (by kernel_rfl))
noncomputable def k_37 : CE := ⟨121, 9182, [.bx 2638 2638 0, .int .i64 (12), .int .i64 (17)], [glE, v_167, v_70, v_168], .tup [.bool true, .int .i64 (0)], [v_171, v_172], 9331⟩
theorem k_37_run : (k_37).run Tryz.prog 10000 (orE (orcT []) libO) 200 = true := by kernel_rfl
theorem k_37_ok : (k_37).holds Tryz.prog := CE.holds_of mixedO (orE_ok (orcT_ok (fun _ h => absurd h List.not_mem_nil)) libO_ok) (by kernel_rfl) k_37_run (Nat.le_of_ble_eq_true (by kernel_rfl)) (Nat.le_of_ble_eq_true (by kernel_rfl))
noncomputable def k_38 : CE := ⟨121, 9338, [.bx 8474 8474 0, .int .i64 (1), .int .i64 (17)], [glE, v_169, v_165, v_170], .tup [.bool true, .int .i64 (0)], [v_173, v_174], 9487⟩
theorem k_38_run : (k_38).run Tryz.prog 10000 (orE (orcT []) libO) 200 = true := by kernel_rfl
theorem k_38_ok : (k_38).holds Tryz.prog := CE.holds_of mixedO (orE_ok (orcT_ok (fun _ h => absurd h List.not_mem_nil)) libO_ok) (by kernel_rfl) k_38_run (Nat.le_of_ble_eq_true (by kernel_rfl)) (Nat.le_of_ble_eq_true (by kernel_rfl))
noncomputable def k_39 : CE := ⟨121, 9491, [.bx 8474 8474 0, .int .i64 (12), .int .i64 (17)], [glE, v_173, v_165, v_174], .tup [.bool true, .int .i64 (0)], [v_175, v_176], 9640⟩
theorem k_39_run : (k_39).run Tryz.prog 10000 (orE (orcT []) libO) 200 = true := by kernel_rfl
theorem k_39_ok : (k_39).holds Tryz.prog := CE.holds_of mixedO (orE_ok (orcT_ok (fun _ h => absurd h List.not_mem_nil)) libO_ok) (by kernel_rfl) k_39_run (Nat.le_of_ble_eq_true (by kernel_rfl)) (Nat.le_of_ble_eq_true (by kernel_rfl))
noncomputable def k_40 : CE := ⟨121, 9654, [.bx 2638 2638 0, .int .i64 (14), .int .i64 (15)], [glE, v_171, v_70, v_172], .tup [.bool true, .int .i64 (0)], [v_177, v_178], 9803⟩
theorem k_40_run : (k_40).run Tryz.prog 10000 (orE (orcT []) libO) 200 = true := by kernel_rfl
theorem k_40_ok : (k_40).holds Tryz.prog := CE.holds_of mixedO (orE_ok (orcT_ok (fun _ h => absurd h List.not_mem_nil)) libO_ok) (by kernel_rfl) k_40_run (Nat.le_of_ble_eq_true (by kernel_rfl)) (Nat.le_of_ble_eq_true (by kernel_rfl))
noncomputable def k_41 : CE := ⟨121, 9809, [.bx 8474 8474 0, .int .i64 (14), .int .i64 (15)], [glE, v_175, v_165, v_176], .tup [.bool true, .int .i64 (0)], [v_179, v_180], 9958⟩
theorem k_41_run : (k_41).run Tryz.prog 10000 (orE (orcT []) libO) 200 = true := by kernel_rfl
theorem k_41_ok : (k_41).holds Tryz.prog := CE.holds_of mixedO (orE_ok (orcT_ok (fun _ h => absurd h List.not_mem_nil)) libO_ok) (by kernel_rfl) k_41_run (Nat.le_of_ble_eq_true (by kernel_rfl)) (Nat.le_of_ble_eq_true (by kernel_rfl))
noncomputable def k_42 : CE := ⟨124, 8472, [.bx 2713 2713 0, .bx 7051 7051 0], [glE, v_128, v_85, v_70, v_86, v_90, v_129, v_130, v_93, v_94, v_95, v_96, v_97, v_98, v_99, v_100, v_101, v_102, v_103, v_104, v_105, v_106, v_107, v_108, v_109, v_110, v_111, v_112, v_131, v_132, v_115, v_116, v_117, v_118, v_119, v_120, v_121, v_133, v_134, v_124, v_125, v_126, v_127, v_158, v_152, v_159], .tup [.bx 8474 8474 0, .int .i64 (0)], [v_179, v_165, v_180, v_181, v_177, v_178, v_182, v_183, v_184, v_185, v_186, v_187, v_188, v_189, v_190], 10253⟩
theorem k_42_run : (k_42).run Tryz.prog 10000 (orE (orcT [k_33, k_34, k_35, k_36, k_37, k_38, k_39, k_40, k_41]) libO) 200 = true := by kernel_rfl
theorem k_42_ok : (k_42).holds Tryz.prog := CE.holds_of mixedO (orE_ok (orcT_ok (List.forall_mem_cons.2 ⟨k_33_ok, List.forall_mem_cons.2 ⟨k_34_ok, List.forall_mem_cons.2 ⟨k_35_ok, List.forall_mem_cons.2 ⟨k_36_ok, List.forall_mem_cons.2 ⟨k_37_ok, List.forall_mem_cons.2 ⟨k_38_ok, List.forall_mem_cons.2 ⟨k_39_ok, List.forall_mem_cons.2 ⟨k_40_ok, List.forall_mem_cons.2 ⟨k_41_ok, fun _ h => absurd h List.not_mem_nil⟩⟩⟩⟩⟩⟩⟩⟩⟩)) libO_ok) (by kernel_rfl) k_42_run (Nat.le_of_ble_eq_true (by kernel_rfl)) (Nat.le_of_ble_eq_true (by kernel_rfl))
noncomputable def k_43 : CE := ⟨121, 10273, [.bx 2634 2634 0, .int .i64 (1), .int .i64 (2)], [glE, v_191, v_192], .tup [.bool true, .int .i64 (0)], [v_193, v_194, v_195], 10424⟩
theorem k_43_run : (k_43).run Tryz.prog 10000 (orE (orcT []) libO) 200 = true := by kernel_rfl
theorem k_43_ok : (k_43).holds Tryz.prog := CE.holds_of mixedO (orE_ok (orcT_ok (fun _ h => absurd h List.not_mem_nil)) libO_ok) (by kernel_rfl) k_43_run (Nat.le_of_ble_eq_true (by kernel_rfl)) (Nat.le_of_ble_eq_true (by kernel_rfl))
noncomputable def k_44 : CE := ⟨125, 10253, [.bx 2630 2630 0, .int .i64 (0), .bx 2634 2634 0], [glE, v_196, v_8, v_9, v_10, v_11, v_12, v_13, v_14, v_15, v_181, v_177, v_70, v_178, v_90, v_129, v_182, v_93, v_94, v_95, v_96, v_183, v_98, v_184, v_100, v_101, v_102, v_185, v_104, v_186, v_106, v_107, v_108, v_109, v_110, v_111, v_112, v_131, v_132, v_115, v_116, v_117, v_118, v_187, v_120, v_188, v_133, v_134, v_124, v_189, v_126, v_190, v_197, v_191, v_192], .bool true, [v_193, v_194, v_195], 10424⟩
theorem k_44_run : (k_44).run Tryz.prog 10000 (orE (orcT [k_43]) libO) 200 = true := by kernel_rfl
theorem k_44_ok : (k_44).holds Tryz.prog := CE.holds_of mixedO (orE_ok (orcT_ok (List.forall_mem_cons.2 ⟨k_43_ok, fun _ h => absurd h List.not_mem_nil⟩)) libO_ok) (by kernel_rfl) k_44_run (Nat.le_of_ble_eq_true (by kernel_rfl)) (Nat.le_of_ble_eq_true (by kernel_rfl))
noncomputable def k_45 : CE := ⟨121, 10451, [.bx 10428 10428 0, .int .i64 (1), .int .i64 (2)], [glE, v_198, v_199], .tup [.bool true, .int .i64 (0)], [v_200, v_201, v_202], 10602⟩
theorem k_45_run : (k_45).run Tryz.prog 10000 (orE (orcT []) libO) 200 = true := by kernel_rfl
theorem k_45_ok : (k_45).holds Tryz.prog := CE.holds_of mixedO (orE_ok (orcT_ok (fun _ h => absurd h List.not_mem_nil)) libO_ok) (by kernel_rfl) k_45_run (Nat.le_of_ble_eq_true (by kernel_rfl)) (Nat.le_of_ble_eq_true (by kernel_rfl))
noncomputable def k_46 : CE := ⟨121, 11041, [.bx 10607 10607 0, .int .i64 (4), .int .i64 (8)], [glE, v_203, v_204], .tup [.bool true, .int .i64 (0)], [v_205, v_206, v_207], 11192⟩
theorem k_46_run : (k_46).run Tryz.prog 10000 (orE (orcT []) libO) 200 = true := by kernel_rfl
theorem k_46_ok : (k_46).holds Tryz.prog := CE.holds_of mixedO (orE_ok (orcT_ok (fun _ h => absurd h List.not_mem_nil)) libO_ok) (by kernel_rfl) k_46_run (Nat.le_of_ble_eq_true (by kernel_rfl)) (Nat.le_of_ble_eq_true (by kernel_rfl))
noncomputable def k_47 : CE := ⟨122, 10606, [.bx 10428 10428 0, .bx 2634 2634 0], [glE, v_200, v_201, v_202, v_193, v_194, v_195], .tup [.bx 10607 10607 0, .int .i64 (0)], [v_205, v_206, v_207], 11566⟩
theorem k_47_run : (k_47).run Tryz.prog 10000 (orE (orcT [k_46]) libO) 200 = true := by kernel_rfl
theorem k_47_ok : (k_47).holds Tryz.prog := CE.holds_of mixedO (orE_ok (orcT_ok (List.forall_mem_cons.2 ⟨k_46_ok, fun _ h => absurd h List.not_mem_nil⟩)) libO_ok) (by kernel_rfl) k_47_run (Nat.le_of_ble_eq_true (by kernel_rfl)) (Nat.le_of_ble_eq_true (by kernel_rfl))
noncomputable def k_48 : CE := ⟨121, 11614, [.bx 2638 2638 0, .int .i64 (4), .int .i64 (8)], [glE, v_177, v_70, v_178], .tup [.bool true, .int .i64 (0)], [v_208, v_209], 11763⟩
theorem k_48_run : (k_48).run Tryz.prog 10000 (orE (orcT []) libO) 200 = true := by kernel_rfl
theorem k_48_ok : (k_48).holds Tryz.prog := CE.holds_of mixedO (orE_ok (orcT_ok (fun _ h => absurd h List.not_mem_nil)) libO_ok) (by kernel_rfl) k_48_run (Nat.le_of_ble_eq_true (by kernel_rfl)) (Nat.le_of_ble_eq_true (by kernel_rfl))
noncomputable def k_49 : CE := ⟨121, 11771, [.bx 11568 11568 0, .int .i64 (0), .int .i64 (8)], [glE, v_210, v_211], .tup [.bool true, .int .i64 (0)], [v_212, v_213, v_214], 11922⟩
theorem k_49_run : (k_49).run Tryz.prog 10000 (orE (orcT []) libO) 200 = true := by kernel_rfl
theorem k_49_ok : (k_49).holds Tryz.prog := CE.holds_of mixedO (orE_ok (orcT_ok (fun _ h => absurd h List.not_mem_nil)) libO_ok) (by kernel_rfl) k_49_run (Nat.le_of_ble_eq_true (by kernel_rfl)) (Nat.le_of_ble_eq_true (by kernel_rfl))
noncomputable def k_50 : CE := ⟨121, 11926, [.bx 11568 11568 0, .int .i64 (0), .int .i64 (9)], [glE, v_212, v_213, v_214], .tup [.bool true, .int .i64 (0)], [v_215, v_216], 12075⟩
theorem k_50_run : (k_50).run Tryz.prog 10000 (orE (orcT []) libO) 200 = true := by kernel_rfl
theorem k_50_ok : (k_50).holds Tryz.prog := CE.holds_of mixedO (orE_ok (orcT_ok (fun _ h => absurd h List.not_mem_nil)) libO_ok) (by kernel_rfl) k_50_run (Nat.le_of_ble_eq_true (by kernel_rfl)) (Nat.le_of_ble_eq_true (by kernel_rfl))
noncomputable def k_51 : CE := ⟨121, 12079, [.bx 11568 11568 0, .int .i64 (4), .int .i64 (8)], [glE, v_215, v_213, v_216], .tup [.bool true, .int .i64 (0)], [v_217, v_218], 12228⟩
theorem k_51_run : (k_51).run Tryz.prog 10000 (orE (orcT []) libO) 200 = true := by kernel_rfl
theorem k_51_ok : (k_51).holds Tryz.prog := CE.holds_of mixedO (orE_ok (orcT_ok (fun _ h => absurd h List.not_mem_nil)) libO_ok) (by kernel_rfl) k_51_run (Nat.le_of_ble_eq_true (by kernel_rfl)) (Nat.le_of_ble_eq_true (by kernel_rfl))
noncomputable def k_52 : CE := ⟨121, 12232, [.bx 11568 11568 0, .int .i64 (4), .int .i64 (9)], [glE, v_217, v_213, v_218], .tup [.bool true, .int .i64 (0)], [v_219, v_220], 12381⟩
theorem k_52_run : (k_52).run Tryz.prog 10000 (orE (orcT []) libO) 200 = true := by kernel_rfl
theorem k_52_ok : (k_52).holds Tryz.prog := CE.holds_of mixedO (orE_ok (orcT_ok (fun _ h => absurd h List.not_mem_nil)) libO_ok) (by kernel_rfl) k_52_run (Nat.le_of_ble_eq_true (by kernel_rfl)) (Nat.le_of_ble_eq_true (by kernel_rfl))
noncomputable def k_53 : CE := ⟨124, 11566, [.bx 2713 2713 0, .bx 10607 10607 0], [glE, v_181, v_177, v_70, v_178, v_90, v_129, v_182, v_93, v_94, v_95, v_96, v_183, v_98, v_184, v_100, v_101, v_102, v_185, v_104, v_186, v_106, v_107, v_108, v_109, v_110, v_111, v_112, v_131, v_132, v_115, v_116, v_117, v_118, v_187, v_120, v_188, v_133, v_134, v_124, v_189, v_126, v_190, v_205, v_206, v_207], .tup [.bx 11568 11568 0, .int .i64 (0)], [v_219, v_213, v_220, v_221, v_208, v_209, v_222, v_223, v_224, v_225], 12736⟩
theorem k_53_run : (k_53).run Tryz.prog 10000 (orE (orcT [k_48, k_49, k_50, k_51, k_52]) libO) 200 = true := by kernel_rfl
theorem k_53_ok : (k_53).holds Tryz.prog := CE.holds_of mixedO (orE_ok (orcT_ok (List.forall_mem_cons.2 ⟨k_48_ok, List.forall_mem_cons.2 ⟨k_49_ok, List.forall_mem_cons.2 ⟨k_50_ok, List.forall_mem_cons.2 ⟨k_51_ok, List.forall_mem_cons.2 ⟨k_52_ok, fun _ h => absurd h List.not_mem_nil⟩⟩⟩⟩⟩)) libO_ok) (by kernel_rfl) k_53_run (Nat.le_of_ble_eq_true (by kernel_rfl)) (Nat.le_of_ble_eq_true (by kernel_rfl))
noncomputable def k_54 : CE := ⟨121, 12754, [.bx 2634 2634 0, .int .i64 (0), .int .i64 (0)], [glE, v_193, v_194, v_195], .tup [.bool true, .int .i64 (0)], [v_226, v_227], 12903⟩
theorem k_54_run : (k_54).run Tryz.prog 10000 (orE (orcT []) libO) 200 = true := by kernel_rfl
theorem k_54_ok : (k_54).holds Tryz.prog := CE.holds_of mixedO (orE_ok (orcT_ok (fun _ h => absurd h List.not_mem_nil)) libO_ok) (by kernel_rfl) k_54_run (Nat.le_of_ble_eq_true (by kernel_rfl)) (Nat.le_of_ble_eq_true (by kernel_rfl))
noncomputable def k_55 : CE := ⟨121, 12905, [.bx 2634 2634 0, .int .i64 (1), .int .i64 (2)], [glE, v_226, v_194, v_227], .tup [.bool false, .int .i64 (0)], [], 12906⟩
theorem k_55_run : (k_55).run Tryz.prog 10000 (orE (orcT []) libO) 200 = true := by kernel_rfl
theorem k_55_ok : (k_55).holds Tryz.prog := CE.holds_of mixedO (orE_ok (orcT_ok (fun _ h => absurd h List.not_mem_nil)) libO_ok) (by kernel_rfl) k_55_run (Nat.le_of_ble_eq_true (by kernel_rfl)) (Nat.le_of_ble_eq_true (by kernel_rfl))
noncomputable def k_56 : CE := ⟨125, 12736, [.bx 2630 2630 0, .int .i64 (0), .bx 2634 2634 0], [glE, v_196, v_8, v_9, v_10, v_11, v_12, v_13, v_14, v_15, v_221, v_208, v_70, v_209, v_90, v_222, v_182, v_93, v_94, v_223, v_96, v_183, v_98, v_184, v_100, v_101, v_102, v_185, v_104, v_186, v_106, v_107, v_108, v_109, v_110, v_111, v_112, v_131, v_132, v_115, v_116, v_117, v_224, v_225, v_120, v_188, v_133, v_134, v_124, v_189, v_126, v_190, v_197, v_193, v_194, v_195], .bool true, [v_226, v_227], 12906⟩
theorem k_56_run : (k_56).run Tryz.prog 10000 (orE (orcT [k_54, k_55]) libO) 200 = true := by kernel_rfl
theorem k_56_ok : (k_56).holds Tryz.prog := CE.holds_of mixedO (orE_ok (orcT_ok (List.forall_mem_cons.2 ⟨k_54_ok, List.forall_mem_cons.2 ⟨k_55_ok, fun _ h => absurd h List.not_mem_nil⟩⟩)) libO_ok) (by kernel_rfl) k_56_run (Nat.le_of_ble_eq_true (by kernel_rfl)) (Nat.le_of_ble_eq_true (by kernel_rfl))
noncomputable def k_57 : CE := ⟨121, 12933, [.bx 12910 12910 0, .int .i64 (1), .int .i64 (2)], [glE, v_228, v_229], .tup [.bool true, .int .i64 (0)], [v_230, v_231, v_232], 13084⟩
theorem k_57_run : (k_57).run Tryz.prog 10000 (orE (orcT []) libO) 200 = true := by kernel_rfl
theorem k_57_ok : (k_57).holds Tryz.prog := CE.holds_of mixedO (orE_ok (orcT_ok (fun _ h => absurd h List.not_mem_nil)) libO_ok) (by kernel_rfl) k_57_run (Nat.le_of_ble_eq_true (by kernel_rfl)) (Nat.le_of_ble_eq_true (by kernel_rfl))
noncomputable def k_58 : CE := ⟨121, 13527, [.bx 13089 13089 0, .int .i64 (3), .int .i64 (6)], [glE, v_233, v_234], .tup [.bool true, .int .i64 (0)], [v_235, v_236, v_237], 13678⟩
theorem k_58_run : (k_58).run Tryz.prog 10000 (orE (orcT []) libO) 200 = true := by kernel_rfl
theorem k_58_ok : (k_58).holds Tryz.prog := CE.holds_of mixedO (orE_ok (orcT_ok (fun _ h => absurd h List.not_mem_nil)) libO_ok) (by kernel_rfl) k_58_run (Nat.le_of_ble_eq_true (by kernel_rfl)) (Nat.le_of_ble_eq_true (by kernel_rfl))
noncomputable def k_59 : CE := ⟨121, 13681, [.bx 13089 13089 0, .int .i64 (4), .int .i64 (8)], [glE, v_235, v_236, v_237], .tup [.bool true, .int .i64 (0)], [v_238, v_239], 13830⟩
theorem k_59_run : (k_59).run Tryz.prog 10000 (orE (orcT []) libO) 200 = true := by kernel_rfl
theorem k_59_ok : (k_59).holds Tryz.prog := CE.holds_of mixedO (orE_ok (orcT_ok (fun _ h => absurd h List.not_mem_nil)) libO_ok) (by kernel_rfl) k_59_run (Nat.le_of_ble_eq_true (by kernel_rfl)) (Nat.le_of_ble_eq_true (by kernel_rfl))
noncomputable def k_60 : CE := ⟨122, 13088, [.bx 12910 12910 0, .bx 2634 2634 0], [glE, v_230, v_231, v_232, v_226, v_194, v_227], .tup [.bx 13089 13089 0, .int .i64 (0)], [v_238, v_236, v_239], 14204⟩
theorem k_60_run : (k_60).run Tryz.prog 10000 (orE (orcT [k_58, k_59]) libO) 200 = true := by kernel_rfl
theorem k_60_ok : (k_60).holds Tryz.prog := CE.holds_of mixedO (orE_ok (orcT_ok (List.forall_mem_cons.2 ⟨k_58_ok, List.forall_mem_cons.2 ⟨k_59_ok, fun _ h => absurd h List.not_mem_nil⟩⟩)) libO_ok) (by kernel_rfl) k_60_run (Nat.le_of_ble_eq_true (by kernel_rfl)) (Nat.le_of_ble_eq_true (by kernel_rfl))
noncomputable def k_61 : CE := ⟨121, 14246, [.bx 2638 2638 0, .int .i64 (3), .int .i64 (6)], [glE, v_208, v_70, v_209], .tup [.bool true, .int .i64 (0)], [v_240, v_241], 14395⟩
theorem k_61_run : (k_61).run Tryz.prog 10000 (orE (orcT []) libO) 200 = true := by kernel_rfl
theorem k_61_ok : (k_61).holds Tryz.prog := CE.holds_of mixedO (orE_ok (orcT_ok (fun _ h => absurd h List.not_mem_nil)) libO_ok) (by kernel_rfl) k_61_run (Nat.le_of_ble_eq_true (by kernel_rfl)) (Nat.le_of_ble_eq_true (by kernel_rfl))
noncomputable def k_62 : CE := ⟨121, 14403, [.bx 14206 14206 0, .int .i64 (1), .int .i64 (6)], [glE, v_242, v_243], .tup [.bool true, .int .i64 (0)], [v_244, v_245, v_246], 14554⟩
theorem k_62_run : (k_62).run Tryz.prog 10000 (orE (orcT []) libO) 200 = true := by kernel_rfl
theorem k_62_ok : (k_62).holds Tryz.prog := CE.holds_of mixedO (orE_ok (orcT_ok (fun _ h => absurd h List.not_mem_nil)) libO_ok) (by kernel_rfl) k_62_run (Nat.le_of_ble_eq_true (by kernel_rfl)) (Nat.le_of_ble_eq_true (by kernel_rfl))
noncomputable def k_63 : CE := ⟨121, 14558, [.bx 14206 14206 0, .int .i64 (1), .int .i64 (11)], [glE, v_244, v_245, v_246], .tup [.bool true, .int .i64 (0)], [v_247, v_248], 14707⟩
theorem k_63_run : (k_63).run Tryz.prog 10000 (orE (orcT []) libO) 200 = true := by kernel_rfl
theorem k_63_ok : (k_63).holds Tryz.prog := CE.holds_of mixedO (orE_ok (orcT_ok (fun _ h => absurd h List.not_mem_nil)) libO_ok) (by kernel_rfl) k_63_run (Nat.le_of_ble_eq_true (by kernel_rfl)) (Nat.le_of_ble_eq_true (by kernel_rfl))
noncomputable def k_64 : CE := ⟨121, 14711, [.bx 14206 14206 0, .int .i64 (3), .int .i64 (6)], [glE, v_247, v_245, v_248], .tup [.bool true, .int .i64 (0)], [v_249, v_250], 14860⟩
theorem k_64_run : (k_64).run Tryz.prog 10000 (orE (orcT []) libO) 200 = true := by kernel_rfl
theorem k_64_ok : (k_64).holds Tryz.prog := CE.holds_of mixedO (orE_ok (orcT_ok (fun _ h => absurd h List.not_mem_nil)) libO_ok) (by kernel_rfl) k_64_run (Nat.le_of_ble_eq_true (by kernel_rfl)) (Nat.le_of_ble_eq_true (by kernel_rfl))
noncomputable def k_65 : CE := ⟨121, 14864, [.bx 14206 14206 0, .int .i64 (3), .int .i64 (11)], [glE, v_249, v_245, v_250], .tup [.bool true, .int .i64 (0)], [v_251, v_252], 15013⟩
theorem k_65_run : (k_65).run Tryz.prog 10000 (orE (orcT []) libO) 200 = true := by kernel_rfl
theorem k_65_ok : (k_65).holds Tryz.prog := CE.holds_of mixedO (orE_ok (orcT_ok (fun _ h => absurd h List.not_mem_nil)) libO_ok) (by kernel_rfl) k_65_run (Nat.le_of_ble_eq_true (by kernel_rfl)) (Nat.le_of_ble_eq_true (by kernel_rfl))
noncomputable def k_66 : CE := ⟨121, 15021, [.bx 2638 2638 0, .int .i64 (4), .int .i64 (8)], [glE, v_240, v_70, v_241], .tup [.bool false, .int .i64 (0)], [], 15022⟩
theorem k_66_run : (k_66).run Tryz.prog 10000 (orE (orcT []) libO) 200 = true := by kernel_rfl
theorem k_66_ok : (k_66).holds Tryz.prog := CE.holds_of mixedO (orE_ok (orcT_ok (fun _ h => absurd h List.not_mem_nil)) libO_ok) (by kernel_rfl) k_66_run (Nat.le_of_ble_eq_true (by kernel_rfl)) (Nat.le_of_ble_eq_true (by kernel_rfl))
noncomputable def k_67 : CE := ⟨124, 14204, [.bx 2713 2713 0, .bx 13089 13089 0], [glE, v_221, v_208, v_70, v_209, v_90, v_222, v_182, v_93, v_94, v_223, v_96, v_183, v_98, v_184, v_100, v_101, v_102, v_185, v_104, v_186, v_106, v_107, v_108, v_109, v_110, v_111, v_112, v_131, v_132, v_115, v_116, v_117, v_224, v_225, v_120, v_188, v_133, v_134, v_124, v_189, v_126, v_190, v_238, v_236, v_239], .tup [.bx 14206 14206 0, .int .i64 (0)], [v_251, v_245, v_252, v_253, v_240, v_241, v_254, v_255, v_256, v_257], 15377⟩
theorem k_67_run : (k_67).run Tryz.prog 10000 (orE (orcT [k_61, k_62, k_63, k_64, k_65, k_66]) libO) 200 = true := by kernel_rfl
theorem k_67_ok : (k_67).holds Tryz.prog := CE.holds_of mixedO (orE_ok (orcT_ok (List.forall_mem_cons.2 ⟨k_61_ok, List.forall_mem_cons.2 ⟨k_62_ok, List.forall_mem_cons.2 ⟨k_63_ok, List.forall_mem_cons.2 ⟨k_64_ok, List.forall_mem_cons.2 ⟨k_65_ok, List.forall_mem_cons.2 ⟨k_66_ok, fun _ h => absurd h List.not_mem_nil⟩⟩⟩⟩⟩⟩)) libO_ok) (by kernel_rfl) k_67_run (Nat.le_of_ble_eq_true (by kernel_rfl)) (Nat.le_of_ble_eq_true (by kernel_rfl))
noncomputable def k_68 : CE := ⟨121, 15395, [.bx 2634 2634 0, .int .i64 (0), .int .i64 (0)], [glE, v_226, v_194, v_227], .tup [.bool false, .int .i64 (0)], [], 15396⟩
theorem k_68_run : (k_68).run Tryz.prog 10000 (orE (orcT []) libO) 200 = true := by kernel_rfl
theorem k_68_ok : (k_68).holds Tryz.prog := CE.holds_of mixedO (orE_ok (orcT_ok (fun _ h => absurd h List.not_mem_nil)) libO_ok) (by kernel_rfl) k_68_run (Nat.le_of_ble_eq_true (by kernel_rfl)) (Nat.le_of_ble_eq_true (by kernel_rfl))
noncomputable def k_69 : CE := ⟨121, 15396, [.bx 2634 2634 0, .int .i64 (1), .int .i64 (2)], [glE, v_226, v_194, v_227], .tup [.bool false, .int .i64 (0)], [], 15397⟩
theorem k_69_run : (k_69).run Tryz.prog 10000 (orE (orcT []) libO) 200 = true := by kernel_rfl
theorem k_69_ok : (k_69).holds Tryz.prog := CE.holds_of mixedO (orE_ok (orcT_ok (fun _ h => absurd h List.not_mem_nil)) libO_ok) (by kernel_rfl) k_69_run (Nat.le_of_ble_eq_true (by kernel_rfl)) (Nat.le_of_ble_eq_true (by kernel_rfl))
noncomputable def k_70 : CE := ⟨121, 15399, [.bx 2634 2634 0, .int .i64 (1), .int .i64 (2)], [glE, v_226, v_194, v_227], .tup [.bool false, .int .i64 (0)], [], 15400⟩
theorem k_70_run : (k_70).run Tryz.prog 10000 (orE (orcT []) libO) 200 = true := by kernel_rfl
theorem k_70_ok : (k_70).holds Tryz.prog := CE.holds_of mixedO (orE_ok (orcT_ok (fun _ h => absurd h List.not_mem_nil)) libO_ok) (by kernel_rfl) k_70_run (Nat.le_of_ble_eq_true (by kernel_rfl)) (Nat.le_of_ble_eq_true (by kernel_rfl))
noncomputable def k_71 : CE := ⟨125, 15377, [.bx 2630 2630 0, .int .i64 (0), .bx 2634 2634 0], [glE, v_196, v_8, v_9, v_10, v_11, v_12, v_13, v_14, v_15, v_253, v_240, v_70, v_241, v_90, v_222, v_254, v_93, v_255, v_223, v_96, v_183, v_98, v_184, v_100, v_101, v_102, v_185, v_104, v_186, v_106, v_107, v_108, v_109, v_110, v_111, v_112, v_131, v_132, v_115, v_256, v_117, v_224, v_225, v_120, v_257, v_133, v_134, v_124, v_189, v_126, v_190, v_197, v_226, v_194, v_227], .bool false, [], 15400⟩
theorem k_71_run : (k_71).run Tryz.prog 10000 (orE (orcT [k_68, k_69, k_70]) libO) 200 = true := by kernel_rfl
theorem k_71_ok : (k_71).holds Tryz.prog := CE.holds_of mixedO (orE_ok (orcT_ok (List.forall_mem_cons.2 ⟨k_68_ok, List.forall_mem_cons.2 ⟨k_69_ok, List.forall_mem_cons.2 ⟨k_70_ok, fun _ h => absurd h List.not_mem_nil⟩⟩⟩)) libO_ok) (by kernel_rfl) k_71_run (Nat.le_of_ble_eq_true (by kernel_rfl)) (Nat.le_of_ble_eq_true (by kernel_rfl))
noncomputable def lawC (a b c : Int) : CE := ⟨4, 10, [.agg [.int .i64 a, .int .i64 b, .int .i64 c]], [glE], .bool true, [], 15407⟩
theorem lawC_run (a b c : Int) : (lawC a b c).run Tryz.prog 10000 (orE (orcT [k_0, k_1, k_2, k_3, k_4, k_5, k_6, k_7, k_8, k_9, k_14, k_23, k_24, k_25, k_26, k_27, k_32, k_42, k_44, k_45, k_47, k_53, k_56, k_57, k_60, k_67, k_71]) libO) 200 = true := by kernel_rfl
theorem lawC_ok (a b c : Int) : (lawC a b c).holds Tryz.prog := CE.holds_of mixedO (orE_ok (orcT_ok (List.forall_mem_cons.2 ⟨k_0_ok, List.forall_mem_cons.2 ⟨k_1_ok, List.forall_mem_cons.2 ⟨k_2_ok, List.forall_mem_cons.2 ⟨k_3_ok, List.forall_mem_cons.2 ⟨k_4_ok, List.forall_mem_cons.2 ⟨k_5_ok, List.forall_mem_cons.2 ⟨k_6_ok, List.forall_mem_cons.2 ⟨k_7_ok, List.forall_mem_cons.2 ⟨k_8_ok, List.forall_mem_cons.2 ⟨k_9_ok, List.forall_mem_cons.2 ⟨k_14_ok, List.forall_mem_cons.2 ⟨k_23_ok, List.forall_mem_cons.2 ⟨k_24_ok, List.forall_mem_cons.2 ⟨k_25_ok, List.forall_mem_cons.2 ⟨k_26_ok, List.forall_mem_cons.2 ⟨k_27_ok, List.forall_mem_cons.2 ⟨k_32_ok, List.forall_mem_cons.2 ⟨k_42_ok, List.forall_mem_cons.2 ⟨k_44_ok, List.forall_mem_cons.2 ⟨k_45_ok, List.forall_mem_cons.2 ⟨k_47_ok, List.forall_mem_cons.2 ⟨k_53_ok, List.forall_mem_cons.2 ⟨k_56_ok, List.forall_mem_cons.2 ⟨k_57_ok, List.forall_mem_cons.2 ⟨k_60_ok, List.forall_mem_cons.2 ⟨k_67_ok, List.forall_mem_cons.2 ⟨k_71_ok, fun _ h => absurd h List.not_mem_nil⟩⟩⟩⟩⟩⟩⟩⟩⟩⟩⟩⟩⟩⟩⟩⟩⟩⟩⟩⟩⟩⟩⟩⟩⟩⟩⟩)) libO_ok) (by kernel_rfl) (lawC_run a b c) (Nat.le_of_ble_eq_true (by kernel_rfl)) (Nat.le_of_ble_eq_true (by kernel_rfl))
end Go.Proofs.YtedjakmhhlilaaaGreatDoor
end
