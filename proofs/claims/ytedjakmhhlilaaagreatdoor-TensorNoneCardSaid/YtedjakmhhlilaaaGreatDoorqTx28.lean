/- Parts of a proof, laid together: Tne, Tn0, Tn1, Tn2, Tn3, Tn4. -/
import Derived.Test.YtedjakmhhlilaaaGreatDoorqTx27
set_option linter.unusedSimpArgs false
set_option linter.unusedVariables false
set_option linter.unusedSectionVars false
section
set_option maxRecDepth 1000000
namespace Go.Proofs.YtedjakmhhlilaaaGreatDoor
open Go Go.Dm
noncomputable def v_0 : Ent := ⟨462, 462, .box [.bx 458 458 0, .osl 913 913, .int .i64 (6)]⟩
noncomputable def v_1 : Ent := ⟨458, 458, .box [.osl 429 429, .osl 456 456, .omp 457 457]⟩
noncomputable def v_2 : Ent := ⟨429, 429, .row 9 1 16 [[.str ⟨#[83]⟩]]⟩
noncomputable def v_3 : Ent := ⟨456, 456, .row 9 1 16 [[.str ⟨#[97]⟩], [.str ⟨#[98]⟩]]⟩
noncomputable def v_4 : Ent := ⟨457, 457, .map [.agg [.bool false, .str ⟨#[83]⟩], .agg [.bool true, .str ⟨#[97]⟩], .agg [.bool true, .str ⟨#[98]⟩]] [.int .i64 (0), .int .i64 (0), .int .i64 (1)]⟩
noncomputable def v_5 : Ent := ⟨913, 913, .row 84 4 64 [[.int .i64 (6), .osl 853 855, .osl 719 860, .int .i64 (0)]]⟩
noncomputable def v_6 : Ent := ⟨853, 855, .row 3 1 8 [[.int .i64 (3)], [.int .i64 (5)]]⟩
noncomputable def v_7 : Ent := ⟨719, 860, .row 108 4 32 [[.int .i64 (0), .bool true, .int .i64 (0), .int .i64 (1)], [.int .i64 (0), .bool true, .int .i64 (0), .int .i64 (4)], [.int .i64 (1), .bool false, .int .i64 (0), .int .i64 (2)], [.int .i64 (2), .bool true, .int .i64 (1), .int .i64 (3)], [.int .i64 (4), .bool true, .int .i64 (1), .int .i64 (5)]]⟩
noncomputable def v_8 : Ent := ⟨1372, 1372, .box [.bx 1368 1368 0, .osl 1823 1823, .int .i64 (6)]⟩
noncomputable def v_9 : Ent := ⟨1368, 1368, .box [.osl 1339 1339, .osl 1366 1366, .omp 1367 1367]⟩
noncomputable def v_10 : Ent := ⟨1339, 1339, .row 9 1 16 [[.str ⟨#[83]⟩]]⟩
noncomputable def v_11 : Ent := ⟨1366, 1366, .row 9 1 16 [[.str ⟨#[97]⟩], [.str ⟨#[98]⟩]]⟩
noncomputable def v_12 : Ent := ⟨1367, 1367, .map [.agg [.bool false, .str ⟨#[83]⟩], .agg [.bool true, .str ⟨#[97]⟩], .agg [.bool true, .str ⟨#[98]⟩]] [.int .i64 (0), .int .i64 (0), .int .i64 (1)]⟩
noncomputable def v_13 : Ent := ⟨1823, 1823, .row 84 4 64 [[.int .i64 (6), .osl 1763 1765, .osl 1629 1770, .int .i64 (0)]]⟩
noncomputable def v_14 : Ent := ⟨1763, 1765, .row 3 1 8 [[.int .i64 (3)], [.int .i64 (5)]]⟩
noncomputable def v_15 : Ent := ⟨1629, 1770, .row 108 4 32 [[.int .i64 (0), .bool true, .int .i64 (0), .int .i64 (1)], [.int .i64 (0), .bool true, .int .i64 (0), .int .i64 (4)], [.int .i64 (1), .bool false, .int .i64 (0), .int .i64 (2)], [.int .i64 (2), .bool true, .int .i64 (1), .int .i64 (3)], [.int .i64 (4), .bool true, .int .i64 (1), .int .i64 (5)]]⟩
noncomputable def v_16 : Ent := ⟨1827, 1827, .box [.nilsl, .omp 1826 1826, .nilsl, .nilsl, .int .i64 (0)]⟩
noncomputable def v_17 : Ent := ⟨1826, 1826, .map [] []⟩
noncomputable def v_18 : Ent := ⟨1827, 1827, .box [.osl 1900 1907, .omp 1826 1826, .osl 1903 1910, .osl 1904 1911, .int .i64 (1)]⟩
noncomputable def v_19 : Ent := ⟨1900, 1907, .row 9 1 16 [[.str ⟨#[120]⟩], [.str ⟨#[121]⟩]]⟩
noncomputable def v_20 : Ent := ⟨1826, 1826, .map [.str ⟨#[120]⟩, .str ⟨#[121]⟩] [.int .i64 (1), .int .i64 (2)]⟩
noncomputable def v_21 : Ent := ⟨1903, 1910, .row 109 1 24 [[.osl 1916 1916], [.nilsl]]⟩
noncomputable def v_22 : Ent := ⟨1916, 1916, .row 113 2 24 [[.str ⟨#[97]⟩, .int .i64 (1)]]⟩
noncomputable def v_23 : Ent := ⟨1904, 1911, .row 109 1 24 [[.nilsl], [.osl 1920 1920]]⟩
noncomputable def v_24 : Ent := ⟨1920, 1920, .row 113 2 24 [[.str ⟨#[97]⟩, .int .i64 (0)]]⟩
noncomputable def v_25 : Ent := ⟨1827, 1827, .box [.osl 1900 1907, .omp 1826 1826, .osl 1903 1910, .osl 1904 1911, .int .i64 (2)]⟩
noncomputable def v_26 : Ent := ⟨1903, 1910, .row 109 1 24 [[.osl 1916 1916], [.osl 2073 2073]]⟩
noncomputable def v_27 : Ent := ⟨2073, 2073, .row 113 2 24 [[.str ⟨#[97]⟩, .int .i64 (0)]]⟩
noncomputable def v_28 : Ent := ⟨1904, 1911, .row 109 1 24 [[.osl 2077 2077], [.osl 1920 1920]]⟩
noncomputable def v_29 : Ent := ⟨2077, 2077, .row 113 2 24 [[.str ⟨#[97]⟩, .int .i64 (1)]]⟩
noncomputable def v_30 : Ent := ⟨1827, 1827, .box [.osl 1900 2291, .omp 1826 1826, .osl 1903 2294, .osl 1904 2295, .int .i64 (3)]⟩
noncomputable def v_31 : Ent := ⟨1900, 2291, .row 9 1 16 [[.str ⟨#[120]⟩], [.str ⟨#[121]⟩], [.str ⟨#[122]⟩]]⟩
noncomputable def v_32 : Ent := ⟨1826, 1826, .map [.str ⟨#[120]⟩, .str ⟨#[121]⟩, .str ⟨#[122]⟩] [.int .i64 (1), .int .i64 (2), .int .i64 (3)]⟩
noncomputable def v_33 : Ent := ⟨1903, 2294, .row 109 1 24 [[.osl 1916 2302], [.osl 2073 2073], [.nilsl]]⟩
noncomputable def v_34 : Ent := ⟨1916, 2302, .row 113 2 24 [[.str ⟨#[97]⟩, .int .i64 (1)], [.str ⟨#[98]⟩, .int .i64 (2)]]⟩
noncomputable def v_35 : Ent := ⟨1904, 2295, .row 109 1 24 [[.osl 2077 2077], [.osl 1920 1920], [.osl 2306 2306]]⟩
noncomputable def v_36 : Ent := ⟨2306, 2306, .row 113 2 24 [[.str ⟨#[98]⟩, .int .i64 (0)]]⟩
noncomputable def v_37 : Ent := ⟨1827, 1827, .box [.osl 1900 2291, .omp 1826 1826, .osl 1903 2294, .osl 1904 2295, .int .i64 (4)]⟩
noncomputable def v_38 : Ent := ⟨1903, 2294, .row 109 1 24 [[.osl 1916 2302], [.osl 2073 2073], [.osl 2608 2608]]⟩
noncomputable def v_39 : Ent := ⟨2608, 2608, .row 113 2 24 [[.str ⟨#[98]⟩, .int .i64 (0)]]⟩
noncomputable def v_40 : Ent := ⟨1904, 2295, .row 109 1 24 [[.osl 2077 2614], [.osl 1920 1920], [.osl 2306 2306]]⟩
noncomputable def v_41 : Ent := ⟨2077, 2614, .row 113 2 24 [[.str ⟨#[97]⟩, .int .i64 (1)], [.str ⟨#[98]⟩, .int .i64 (2)]]⟩
noncomputable def v_42 : Ent := ⟨2718, 2718, .box [.int .i64 (3), .int .i64 (1), .int .i64 (0), .osl 2717 2717, .nilsl]⟩
noncomputable def v_43 : Ent := ⟨2717, 2717, .row 266 4 32 [[.int .i64 (0), .int .i64 (0), .int .i64 (0), .int .i64 (0)]]⟩
noncomputable def v_44 : Ent := ⟨2718, 2718, .box [.int .i64 (3), .int .i64 (1), .int .i64 (1), .osl 2717 2717, .osl 2730 2730]⟩
noncomputable def v_45 : Ent := ⟨2717, 2717, .row 266 4 32 [[.int .i64 (1), .int .i64 (0), .int .i64 (0), .int .i64 (0)]]⟩
noncomputable def v_46 : Ent := ⟨2730, 2730, .row 220 64 512 [(iz .u64 64 [(0, 2)])]⟩
noncomputable def v_47 : Ent := ⟨2718, 2718, .box [.int .i64 (3), .int .i64 (1), .int .i64 (2), .osl 2717 2717, .osl 2730 2730]⟩
noncomputable def v_48 : Ent := ⟨2730, 2730, .row 220 64 512 [(iz .u64 64 [(0, 2), (1, 1)])]⟩
noncomputable def v_49 : Ent := ⟨3031, 3031, .box [.int .i64 (6), .int .i64 (1), .int .i64 (0), .osl 3030 3030, .nilsl]⟩
noncomputable def v_50 : Ent := ⟨3030, 3030, .row 266 4 32 [[.int .i64 (0), .int .i64 (0), .int .i64 (0), .int .i64 (0)]]⟩
noncomputable def v_51 : Ent := ⟨3031, 3031, .box [.int .i64 (6), .int .i64 (1), .int .i64 (1), .osl 3030 3030, .osl 3059 3059]⟩
noncomputable def v_52 : Ent := ⟨3030, 3030, .row 266 4 32 [[.int .i64 (1), .int .i64 (0), .int .i64 (0), .int .i64 (0)]]⟩
noncomputable def v_53 : Ent := ⟨3059, 3059, .row 220 64 512 [(iz .u64 64 [(0, 2)])]⟩
noncomputable def v_54 : Ent := ⟨3031, 3031, .box [.int .i64 (6), .int .i64 (1), .int .i64 (2), .osl 3030 3030, .osl 3059 3059]⟩
noncomputable def v_55 : Ent := ⟨3059, 3059, .row 220 64 512 [(iz .u64 64 [(0, 18)])]⟩
noncomputable def v_56 : Ent := ⟨3359, 3359, .box [.int .i64 (18), .int .i64 (1), .int .i64 (0), .osl 3358 3358, .nilsl]⟩
noncomputable def v_57 : Ent := ⟨3358, 3358, .row 266 4 32 [[.int .i64 (0), .int .i64 (0), .int .i64 (0), .int .i64 (0)]]⟩
noncomputable def v_58 : Ent := ⟨3359, 3359, .box [.int .i64 (18), .int .i64 (1), .int .i64 (1), .osl 3358 3358, .osl 3800 3800]⟩
noncomputable def v_59 : Ent := ⟨3358, 3358, .row 266 4 32 [[.int .i64 (1), .int .i64 (0), .int .i64 (0), .int .i64 (0)]]⟩
noncomputable def v_60 : Ent := ⟨3800, 3800, .row 220 64 512 [(iz .u64 64 [(0, 16)])]⟩
noncomputable def v_61 : Ent := ⟨3359, 3359, .box [.int .i64 (18), .int .i64 (1), .int .i64 (2), .osl 3358 3358, .osl 3800 3800]⟩
noncomputable def v_62 : Ent := ⟨3800, 3800, .row 220 64 512 [(iz .u64 64 [(0, 16), (1, 8)])]⟩
noncomputable def v_63 : Ent := ⟨3359, 3359, .box [.int .i64 (18), .int .i64 (1), .int .i64 (3), .osl 3358 3358, .osl 3800 3800]⟩
noncomputable def v_64 : Ent := ⟨3800, 3800, .row 220 64 512 [(iz .u64 64 [(0, 8208), (1, 8)])]⟩
noncomputable def v_65 : Ent := ⟨3359, 3359, .box [.int .i64 (18), .int .i64 (1), .int .i64 (4), .osl 3358 3358, .osl 3800 3800]⟩
noncomputable def v_66 : Ent := ⟨3800, 3800, .row 220 64 512 [(iz .u64 64 [(0, 8208), (1, 4104)])]⟩
noncomputable def v_67 : Ent := ⟨2638, 2638, .box [.int .i64 (18), .int .i64 (1), .int .i64 (0), .osl 2637 2637, .nilsl]⟩
noncomputable def v_68 : Ent := ⟨2637, 2637, .row 266 4 32 [[.int .i64 (0), .int .i64 (0), .int .i64 (0), .int .i64 (0)]]⟩
noncomputable def v_69 : Ent := ⟨2638, 2638, .box [.int .i64 (18), .int .i64 (1), .int .i64 (1), .osl 2637 2637, .osl 4813 4813]⟩
noncomputable def v_70 : Ent := ⟨2637, 2637, .row 266 4 32 [[.int .i64 (1), .int .i64 (0), .int .i64 (0), .int .i64 (0)]]⟩
noncomputable def v_71 : Ent := ⟨4813, 4813, .row 220 64 512 [(iz .u64 64 [(0, 16)])]⟩
noncomputable def v_72 : Ent := ⟨4782, 4782, .box [.int .i64 (18), .int .i64 (1), .int .i64 (0), .osl 4781 4781, .nilsl]⟩
noncomputable def v_73 : Ent := ⟨4781, 4781, .row 266 4 32 [[.int .i64 (0), .int .i64 (0), .int .i64 (0), .int .i64 (0)]]⟩
noncomputable def v_74 : Ent := ⟨4782, 4782, .box [.int .i64 (18), .int .i64 (1), .int .i64 (1), .osl 4781 4781, .osl 4970 4970]⟩
noncomputable def v_75 : Ent := ⟨4781, 4781, .row 266 4 32 [[.int .i64 (1), .int .i64 (0), .int .i64 (0), .int .i64 (0)]]⟩
noncomputable def v_76 : Ent := ⟨4970, 4970, .row 220 64 512 [(iz .u64 64 [(0, 16)])]⟩
noncomputable def v_77 : Ent := ⟨2638, 2638, .box [.int .i64 (18), .int .i64 (1), .int .i64 (2), .osl 2637 2637, .osl 4813 4813]⟩
noncomputable def v_78 : Ent := ⟨4813, 4813, .row 220 64 512 [(iz .u64 64 [(0, 8208)])]⟩
noncomputable def v_79 : Ent := ⟨4782, 4782, .box [.int .i64 (18), .int .i64 (1), .int .i64 (2), .osl 4781 4781, .osl 4970 4970]⟩
noncomputable def v_80 : Ent := ⟨4970, 4970, .row 220 64 512 [(iz .u64 64 [(0, 8208)])]⟩
noncomputable def v_81 : Ent := ⟨2638, 2638, .box [.int .i64 (18), .int .i64 (1), .int .i64 (3), .osl 2637 2637, .osl 4813 4813]⟩
noncomputable def v_82 : Ent := ⟨4813, 4813, .row 220 64 512 [(iz .u64 64 [(0, 8208), (1, 8)])]⟩
noncomputable def v_83 : Ent := ⟨4782, 4782, .box [.int .i64 (18), .int .i64 (1), .int .i64 (3), .osl 4781 4781, .osl 4970 4970]⟩
noncomputable def v_84 : Ent := ⟨4970, 4970, .row 220 64 512 [(iz .u64 64 [(0, 8208), (1, 8)])]⟩
noncomputable def v_85 : Ent := ⟨2638, 2638, .box [.int .i64 (18), .int .i64 (1), .int .i64 (4), .osl 2637 2637, .osl 4813 4813]⟩
noncomputable def v_86 : Ent := ⟨4813, 4813, .row 220 64 512 [(iz .u64 64 [(0, 8208), (1, 4104)])]⟩
noncomputable def v_87 : Ent := ⟨4782, 4782, .box [.int .i64 (18), .int .i64 (1), .int .i64 (4), .osl 4781 4781, .osl 4970 4970]⟩
noncomputable def v_88 : Ent := ⟨4970, 4970, .row 220 64 512 [(iz .u64 64 [(0, 8208), (1, 4104)])]⟩
noncomputable def v_89 : Ent := ⟨2713, 2713, .box [.bx 2638 2638 0, .int .i64 (0), .osl 2639 2639, .osl 2676 2676]⟩
noncomputable def v_90 : Ent := ⟨2639, 2639, .row 46 1 24 [[.osl 2640 2640], [.osl 2642 2642], [.osl 2644 2644], [.osl 2646 2646], [.osl 2648 2648], [.osl 2650 2650], [.osl 2652 2652], [.osl 2654 2654], [.osl 2656 2656], [.osl 2658 2658], [.osl 2660 2660], [.osl 2662 2662], [.osl 2664 2664], [.osl 2666 2666], [.osl 2668 2668], [.osl 2670 2670], [.osl 2672 2672], [.osl 2674 2674]]⟩
noncomputable def v_91 : Ent := ⟨2640, 2640, .row 4 1 1 (blR 18 [])⟩
noncomputable def v_92 : Ent := ⟨2642, 2642, .row 4 1 1 (blR 18 [])⟩
noncomputable def v_93 : Ent := ⟨2644, 2644, .row 4 1 1 (blR 18 [])⟩
noncomputable def v_94 : Ent := ⟨2646, 2646, .row 4 1 1 (blR 18 [])⟩
noncomputable def v_95 : Ent := ⟨2648, 2648, .row 4 1 1 (blR 18 [])⟩
noncomputable def v_96 : Ent := ⟨2650, 2650, .row 4 1 1 (blR 18 [])⟩
noncomputable def v_97 : Ent := ⟨2652, 2652, .row 4 1 1 (blR 18 [])⟩
noncomputable def v_98 : Ent := ⟨2654, 2654, .row 4 1 1 (blR 18 [])⟩
noncomputable def v_99 : Ent := ⟨2656, 2656, .row 4 1 1 (blR 18 [])⟩
noncomputable def v_100 : Ent := ⟨2658, 2658, .row 4 1 1 (blR 18 [])⟩
noncomputable def v_101 : Ent := ⟨2660, 2660, .row 4 1 1 (blR 18 [])⟩
noncomputable def v_102 : Ent := ⟨2662, 2662, .row 4 1 1 (blR 18 [])⟩
noncomputable def v_103 : Ent := ⟨2664, 2664, .row 4 1 1 (blR 18 [])⟩
noncomputable def v_104 : Ent := ⟨2666, 2666, .row 4 1 1 (blR 18 [])⟩
noncomputable def v_105 : Ent := ⟨2668, 2668, .row 4 1 1 (blR 18 [])⟩
noncomputable def v_106 : Ent := ⟨2670, 2670, .row 4 1 1 (blR 18 [])⟩
noncomputable def v_107 : Ent := ⟨2672, 2672, .row 4 1 1 (blR 18 [])⟩
noncomputable def v_108 : Ent := ⟨2674, 2674, .row 4 1 1 (blR 18 [])⟩
noncomputable def v_109 : Ent := ⟨2676, 2676, .row 46 1 24 [[.osl 2677 2677], [.osl 2679 2679], [.osl 2681 2681], [.osl 2683 2683], [.osl 2685 2685], [.osl 2687 2687], [.osl 2689 2689], [.osl 2691 2691], [.osl 2693 2693], [.osl 2695 2695], [.osl 2697 2697], [.osl 2699 2699], [.osl 2701 2701], [.osl 2703 2703], [.osl 2705 2705], [.osl 2707 2707], [.osl 2709 2709], [.osl 2711 2711]]⟩
noncomputable def v_110 : Ent := ⟨2677, 2677, .row 4 1 1 (blR 18 [])⟩
noncomputable def v_111 : Ent := ⟨2679, 2679, .row 4 1 1 (blR 18 [])⟩
noncomputable def v_112 : Ent := ⟨2681, 2681, .row 4 1 1 (blR 18 [])⟩
noncomputable def v_113 : Ent := ⟨2683, 2683, .row 4 1 1 (blR 18 [])⟩
noncomputable def v_114 : Ent := ⟨2685, 2685, .row 4 1 1 (blR 18 [])⟩
noncomputable def v_115 : Ent := ⟨2687, 2687, .row 4 1 1 (blR 18 [])⟩
noncomputable def v_116 : Ent := ⟨2689, 2689, .row 4 1 1 (blR 18 [])⟩
noncomputable def v_117 : Ent := ⟨2691, 2691, .row 4 1 1 (blR 18 [])⟩
noncomputable def v_118 : Ent := ⟨2693, 2693, .row 4 1 1 (blR 18 [])⟩
noncomputable def v_119 : Ent := ⟨2695, 2695, .row 4 1 1 (blR 18 [])⟩
noncomputable def v_120 : Ent := ⟨2697, 2697, .row 4 1 1 (blR 18 [])⟩
noncomputable def v_121 : Ent := ⟨2699, 2699, .row 4 1 1 (blR 18 [])⟩
noncomputable def v_122 : Ent := ⟨2701, 2701, .row 4 1 1 (blR 18 [])⟩
noncomputable def v_123 : Ent := ⟨2703, 2703, .row 4 1 1 (blR 18 [])⟩
noncomputable def v_124 : Ent := ⟨2705, 2705, .row 4 1 1 (blR 18 [])⟩
noncomputable def v_125 : Ent := ⟨2707, 2707, .row 4 1 1 (blR 18 [])⟩
noncomputable def v_126 : Ent := ⟨2709, 2709, .row 4 1 1 (blR 18 [])⟩
noncomputable def v_127 : Ent := ⟨2711, 2711, .row 4 1 1 (blR 18 [])⟩
noncomputable def v_128 : Ent := ⟨2713, 2713, .box [.bx 2638 2638 0, .int .i64 (4), .osl 2639 2639, .osl 2676 2676]⟩
noncomputable def v_129 : Ent := ⟨2640, 2640, .row 4 1 1 (blR 18 [4, 13])⟩
noncomputable def v_130 : Ent := ⟨2642, 2642, .row 4 1 1 (blR 18 [3, 12])⟩
noncomputable def v_131 : Ent := ⟨2683, 2683, .row 4 1 1 (blR 18 [1])⟩
noncomputable def v_132 : Ent := ⟨2685, 2685, .row 4 1 1 (blR 18 [0])⟩
noncomputable def v_133 : Ent := ⟨2701, 2701, .row 4 1 1 (blR 18 [1])⟩
noncomputable def v_134 : Ent := ⟨2703, 2703, .row 4 1 1 (blR 18 [0])⟩
noncomputable def v_135 : Ent := ⟨6410, 6410, .box [.int .i64 (3), .int .i64 (1), .int .i64 (0), .osl 6409 6409, .nilsl]⟩
noncomputable def v_136 : Ent := ⟨6409, 6409, .row 266 4 32 [[.int .i64 (0), .int .i64 (0), .int .i64 (0), .int .i64 (0)]]⟩
noncomputable def v_137 : Ent := ⟨6410, 6410, .box [.int .i64 (3), .int .i64 (1), .int .i64 (1), .osl 6409 6409, .osl 6424 6424]⟩
noncomputable def v_138 : Ent := ⟨6409, 6409, .row 266 4 32 [[.int .i64 (1), .int .i64 (0), .int .i64 (0), .int .i64 (0)]]⟩
noncomputable def v_139 : Ent := ⟨6424, 6424, .row 220 64 512 [(iz .u64 64 [(0, 4)])]⟩
noncomputable def v_140 : Ent := ⟨6410, 6410, .box [.int .i64 (3), .int .i64 (1), .int .i64 (2), .osl 6409 6409, .osl 6424 6424]⟩
noncomputable def v_141 : Ent := ⟨6424, 6424, .row 220 64 512 [(iz .u64 64 [(0, 4), (2, 1)])]⟩
noncomputable def v_142 : Ent := ⟨6723, 6723, .box [.int .i64 (6), .int .i64 (1), .int .i64 (0), .osl 6722 6722, .nilsl]⟩
noncomputable def v_143 : Ent := ⟨6722, 6722, .row 266 4 32 [[.int .i64 (0), .int .i64 (0), .int .i64 (0), .int .i64 (0)]]⟩
noncomputable def v_144 : Ent := ⟨6723, 6723, .box [.int .i64 (6), .int .i64 (1), .int .i64 (1), .osl 6722 6722, .osl 6757 6757]⟩
noncomputable def v_145 : Ent := ⟨6722, 6722, .row 266 4 32 [[.int .i64 (1), .int .i64 (0), .int .i64 (0), .int .i64 (0)]]⟩
noncomputable def v_146 : Ent := ⟨6757, 6757, .row 220 64 512 [(iz .u64 64 [(2, 8)])]⟩
noncomputable def v_147 : Ent := ⟨6723, 6723, .box [.int .i64 (6), .int .i64 (1), .int .i64 (2), .osl 6722 6722, .osl 6757 6757]⟩
noncomputable def v_148 : Ent := ⟨6757, 6757, .row 220 64 512 [(iz .u64 64 [(2, 8), (4, 32)])]⟩
noncomputable def v_149 : Ent := ⟨7051, 7051, .box [.int .i64 (18), .int .i64 (1), .int .i64 (0), .osl 7050 7050, .nilsl]⟩
noncomputable def v_150 : Ent := ⟨7050, 7050, .row 266 4 32 [[.int .i64 (0), .int .i64 (0), .int .i64 (0), .int .i64 (0)]]⟩
noncomputable def v_151 : Ent := ⟨7051, 7051, .box [.int .i64 (18), .int .i64 (1), .int .i64 (1), .osl 7050 7050, .osl 7504 7504]⟩
noncomputable def v_152 : Ent := ⟨7050, 7050, .row 266 4 32 [[.int .i64 (1), .int .i64 (0), .int .i64 (0), .int .i64 (0)]]⟩
noncomputable def v_153 : Ent := ⟨7504, 7504, .row 220 64 512 [(iz .u64 64 [(6, 2048)])]⟩
noncomputable def v_154 : Ent := ⟨7051, 7051, .box [.int .i64 (18), .int .i64 (1), .int .i64 (2), .osl 7050 7050, .osl 7504 7504]⟩
noncomputable def v_155 : Ent := ⟨7504, 7504, .row 220 64 512 [(iz .u64 64 [(6, 2048), (8, 512)])]⟩
noncomputable def v_156 : Ent := ⟨7051, 7051, .box [.int .i64 (18), .int .i64 (1), .int .i64 (3), .osl 7050 7050, .osl 7504 7504]⟩
noncomputable def v_157 : Ent := ⟨7504, 7504, .row 220 64 512 [(iz .u64 64 [(6, 2048), (8, 512), (12, 131072)])]⟩
noncomputable def v_158 : Ent := ⟨7051, 7051, .box [.int .i64 (18), .int .i64 (1), .int .i64 (4), .osl 7050 7050, .osl 7504 7504]⟩
noncomputable def v_159 : Ent := ⟨7504, 7504, .row 220 64 512 [(iz .u64 64 [(6, 2048), (8, 512), (12, 131072), (14, 32768)])]⟩
noncomputable def v_160 : Ent := ⟨2638, 2638, .box [.int .i64 (18), .int .i64 (1), .int .i64 (5), .osl 2637 2637, .osl 4813 4813]⟩
noncomputable def v_161 : Ent := ⟨4813, 4813, .row 220 64 512 [(iz .u64 64 [(0, 8208), (1, 4104), (6, 2048)])]⟩
noncomputable def v_162 : Ent := ⟨8474, 8474, .box [.int .i64 (18), .int .i64 (1), .int .i64 (0), .osl 8473 8473, .nilsl]⟩
noncomputable def v_163 : Ent := ⟨8473, 8473, .row 266 4 32 [[.int .i64 (0), .int .i64 (0), .int .i64 (0), .int .i64 (0)]]⟩
noncomputable def v_164 : Ent := ⟨8474, 8474, .box [.int .i64 (18), .int .i64 (1), .int .i64 (1), .osl 8473 8473, .osl 8696 8696]⟩
noncomputable def v_165 : Ent := ⟨8473, 8473, .row 266 4 32 [[.int .i64 (1), .int .i64 (0), .int .i64 (0), .int .i64 (0)]]⟩
noncomputable def v_166 : Ent := ⟨8696, 8696, .row 220 64 512 [(iz .u64 64 [(6, 2048)])]⟩
noncomputable def v_167 : Ent := ⟨2638, 2638, .box [.int .i64 (18), .int .i64 (1), .int .i64 (6), .osl 2637 2637, .osl 4813 4813]⟩
noncomputable def v_168 : Ent := ⟨4813, 4813, .row 220 64 512 [(iz .u64 64 [(0, 8208), (1, 4104), (6, 2048), (8, 512)])]⟩
noncomputable def v_169 : Ent := ⟨8474, 8474, .box [.int .i64 (18), .int .i64 (1), .int .i64 (2), .osl 8473 8473, .osl 8696 8696]⟩
noncomputable def v_170 : Ent := ⟨8696, 8696, .row 220 64 512 [(iz .u64 64 [(6, 2048), (8, 512)])]⟩
noncomputable def v_171 : Ent := ⟨2638, 2638, .box [.int .i64 (18), .int .i64 (1), .int .i64 (7), .osl 2637 2637, .osl 4813 4813]⟩
noncomputable def v_172 : Ent := ⟨4813, 4813, .row 220 64 512 [(iz .u64 64 [(0, 8208), (1, 4104), (6, 2048), (8, 512), (12, 131072)])]⟩
noncomputable def v_173 : Ent := ⟨8474, 8474, .box [.int .i64 (18), .int .i64 (1), .int .i64 (3), .osl 8473 8473, .osl 8696 8696]⟩
noncomputable def v_174 : Ent := ⟨8696, 8696, .row 220 64 512 [(iz .u64 64 [(1, 131072), (6, 2048), (8, 512)])]⟩
noncomputable def v_175 : Ent := ⟨8474, 8474, .box [.int .i64 (18), .int .i64 (1), .int .i64 (4), .osl 8473 8473, .osl 8696 8696]⟩
noncomputable def v_176 : Ent := ⟨8696, 8696, .row 220 64 512 [(iz .u64 64 [(1, 131072), (6, 2048), (8, 512), (12, 131072)])]⟩
noncomputable def v_177 : Ent := ⟨2638, 2638, .box [.int .i64 (18), .int .i64 (1), .int .i64 (8), .osl 2637 2637, .osl 4813 4813]⟩
noncomputable def v_178 : Ent := ⟨4813, 4813, .row 220 64 512 [(iz .u64 64 [(0, 8208), (1, 4104), (6, 2048), (8, 512), (12, 131072), (14, 32768)])]⟩
noncomputable def v_179 : Ent := ⟨8474, 8474, .box [.int .i64 (18), .int .i64 (1), .int .i64 (5), .osl 8473 8473, .osl 8696 8696]⟩
noncomputable def v_180 : Ent := ⟨8696, 8696, .row 220 64 512 [(iz .u64 64 [(1, 131072), (6, 2048), (8, 512), (12, 131072), (14, 32768)])]⟩
noncomputable def v_181 : Ent := ⟨2713, 2713, .box [.bx 2638 2638 0, .int .i64 (9), .osl 2639 2639, .osl 2676 2676]⟩
noncomputable def v_182 : Ent := ⟨2642, 2642, .row 4 1 1 (blR 18 [3, 12, 17])⟩
noncomputable def v_183 : Ent := ⟨2652, 2652, .row 4 1 1 (blR 18 [11])⟩
noncomputable def v_184 : Ent := ⟨2656, 2656, .row 4 1 1 (blR 18 [9])⟩
noncomputable def v_185 : Ent := ⟨2664, 2664, .row 4 1 1 (blR 18 [17])⟩
noncomputable def v_186 : Ent := ⟨2668, 2668, .row 4 1 1 (blR 18 [15])⟩
noncomputable def v_187 : Ent := ⟨2695, 2695, .row 4 1 1 (blR 18 [8])⟩
noncomputable def v_188 : Ent := ⟨2699, 2699, .row 4 1 1 (blR 18 [6])⟩
noncomputable def v_189 : Ent := ⟨2707, 2707, .row 4 1 1 (blR 18 [14])⟩
noncomputable def v_190 : Ent := ⟨2711, 2711, .row 4 1 1 (blR 18 [1, 12])⟩
noncomputable def v_191 : Ent := ⟨2634, 2634, .box [.int .i64 (3), .int .i64 (1), .int .i64 (0), .osl 2633 2633, .nilsl]⟩
noncomputable def v_192 : Ent := ⟨2633, 2633, .row 266 4 32 [[.int .i64 (0), .int .i64 (0), .int .i64 (0), .int .i64 (0)]]⟩
noncomputable def v_193 : Ent := ⟨2634, 2634, .box [.int .i64 (3), .int .i64 (1), .int .i64 (1), .osl 2633 2633, .osl 10282 10282]⟩
noncomputable def v_194 : Ent := ⟨2633, 2633, .row 266 4 32 [[.int .i64 (1), .int .i64 (0), .int .i64 (0), .int .i64 (0)]]⟩
noncomputable def v_195 : Ent := ⟨10282, 10282, .row 220 64 512 [(iz .u64 64 [(1, 4)])]⟩
noncomputable def v_196 : Ent := ⟨2630, 2630, .box [.bx 1372 1372 0, .int .i64 (3), .bx 2713 2713 0, .osl 2635 2635]⟩
noncomputable def v_197 : Ent := ⟨2635, 2635, .row 101 1 8 [[.bx 2634 2634 0]]⟩
noncomputable def v_198 : Ent := ⟨10428, 10428, .box [.int .i64 (6), .int .i64 (1), .int .i64 (0), .osl 10427 10427, .nilsl]⟩
noncomputable def v_199 : Ent := ⟨10427, 10427, .row 266 4 32 [[.int .i64 (0), .int .i64 (0), .int .i64 (0), .int .i64 (0)]]⟩
noncomputable def v_200 : Ent := ⟨10428, 10428, .box [.int .i64 (6), .int .i64 (1), .int .i64 (1), .osl 10427 10427, .osl 10460 10460]⟩
noncomputable def v_201 : Ent := ⟨10427, 10427, .row 266 4 32 [[.int .i64 (1), .int .i64 (0), .int .i64 (0), .int .i64 (0)]]⟩
noncomputable def v_202 : Ent := ⟨10460, 10460, .row 220 64 512 [(iz .u64 64 [(1, 4)])]⟩
noncomputable def v_203 : Ent := ⟨10607, 10607, .box [.int .i64 (18), .int .i64 (1), .int .i64 (0), .osl 10606 10606, .nilsl]⟩
noncomputable def v_204 : Ent := ⟨10606, 10606, .row 266 4 32 [[.int .i64 (0), .int .i64 (0), .int .i64 (0), .int .i64 (0)]]⟩
noncomputable def v_205 : Ent := ⟨10607, 10607, .box [.int .i64 (18), .int .i64 (1), .int .i64 (1), .osl 10606 10606, .osl 11050 11050]⟩
noncomputable def v_206 : Ent := ⟨10606, 10606, .row 266 4 32 [[.int .i64 (1), .int .i64 (0), .int .i64 (0), .int .i64 (0)]]⟩
noncomputable def v_207 : Ent := ⟨11050, 11050, .row 220 64 512 [(iz .u64 64 [(4, 256)])]⟩
noncomputable def v_208 : Ent := ⟨2638, 2638, .box [.int .i64 (18), .int .i64 (1), .int .i64 (9), .osl 2637 2637, .osl 4813 4813]⟩
noncomputable def v_209 : Ent := ⟨4813, 4813, .row 220 64 512 [(iz .u64 64 [(0, 8208), (1, 4104), (4, 256), (6, 2048), (8, 512), (12, 131072), (14, 32768)])]⟩
noncomputable def v_210 : Ent := ⟨11568, 11568, .box [.int .i64 (18), .int .i64 (1), .int .i64 (0), .osl 11567 11567, .nilsl]⟩
noncomputable def v_211 : Ent := ⟨11567, 11567, .row 266 4 32 [[.int .i64 (0), .int .i64 (0), .int .i64 (0), .int .i64 (0)]]⟩
noncomputable def v_212 : Ent := ⟨11568, 11568, .box [.int .i64 (18), .int .i64 (1), .int .i64 (1), .osl 11567 11567, .osl 11780 11780]⟩
noncomputable def v_213 : Ent := ⟨11567, 11567, .row 266 4 32 [[.int .i64 (1), .int .i64 (0), .int .i64 (0), .int .i64 (0)]]⟩
noncomputable def v_214 : Ent := ⟨11780, 11780, .row 220 64 512 [(iz .u64 64 [(0, 256)])]⟩
noncomputable def v_215 : Ent := ⟨11568, 11568, .box [.int .i64 (18), .int .i64 (1), .int .i64 (2), .osl 11567 11567, .osl 11780 11780]⟩
noncomputable def v_216 : Ent := ⟨11780, 11780, .row 220 64 512 [(iz .u64 64 [(0, 768)])]⟩
noncomputable def v_217 : Ent := ⟨11568, 11568, .box [.int .i64 (18), .int .i64 (1), .int .i64 (3), .osl 11567 11567, .osl 11780 11780]⟩
noncomputable def v_218 : Ent := ⟨11780, 11780, .row 220 64 512 [(iz .u64 64 [(0, 768), (4, 256)])]⟩
noncomputable def v_219 : Ent := ⟨11568, 11568, .box [.int .i64 (18), .int .i64 (1), .int .i64 (4), .osl 11567 11567, .osl 11780 11780]⟩
noncomputable def v_220 : Ent := ⟨11780, 11780, .row 220 64 512 [(iz .u64 64 [(0, 768), (4, 768)])]⟩
noncomputable def v_221 : Ent := ⟨2713, 2713, .box [.bx 2638 2638 0, .int .i64 (13), .osl 2639 2639, .osl 2676 2676]⟩
noncomputable def v_222 : Ent := ⟨2640, 2640, .row 4 1 1 (blR 18 [4, 8, 9, 13])⟩
noncomputable def v_223 : Ent := ⟨2648, 2648, .row 4 1 1 (blR 18 [8, 9])⟩
noncomputable def v_224 : Ent := ⟨2693, 2693, .row 4 1 1 (blR 18 [0, 4])⟩
noncomputable def v_225 : Ent := ⟨2695, 2695, .row 4 1 1 (blR 18 [0, 4, 8])⟩
noncomputable def v_226 : Ent := ⟨2634, 2634, .box [.int .i64 (3), .int .i64 (1), .int .i64 (2), .osl 2633 2633, .osl 10282 10282]⟩
noncomputable def v_227 : Ent := ⟨10282, 10282, .row 220 64 512 [(iz .u64 64 [(0, 1), (1, 4)])]⟩
noncomputable def v_228 : Ent := ⟨12910, 12910, .box [.int .i64 (6), .int .i64 (1), .int .i64 (0), .osl 12909 12909, .nilsl]⟩
noncomputable def v_229 : Ent := ⟨12909, 12909, .row 266 4 32 [[.int .i64 (0), .int .i64 (0), .int .i64 (0), .int .i64 (0)]]⟩
noncomputable def v_230 : Ent := ⟨12910, 12910, .box [.int .i64 (6), .int .i64 (1), .int .i64 (1), .osl 12909 12909, .osl 12942 12942]⟩
noncomputable def v_231 : Ent := ⟨12909, 12909, .row 266 4 32 [[.int .i64 (1), .int .i64 (0), .int .i64 (0), .int .i64 (0)]]⟩
noncomputable def v_232 : Ent := ⟨12942, 12942, .row 220 64 512 [(iz .u64 64 [(1, 4)])]⟩
noncomputable def v_233 : Ent := ⟨13089, 13089, .box [.int .i64 (18), .int .i64 (1), .int .i64 (0), .osl 13088 13088, .nilsl]⟩
noncomputable def v_234 : Ent := ⟨13088, 13088, .row 266 4 32 [[.int .i64 (0), .int .i64 (0), .int .i64 (0), .int .i64 (0)]]⟩
noncomputable def v_235 : Ent := ⟨13089, 13089, .box [.int .i64 (18), .int .i64 (1), .int .i64 (1), .osl 13088 13088, .osl 13536 13536]⟩
noncomputable def v_236 : Ent := ⟨13088, 13088, .row 266 4 32 [[.int .i64 (1), .int .i64 (0), .int .i64 (0), .int .i64 (0)]]⟩
noncomputable def v_237 : Ent := ⟨13536, 13536, .row 220 64 512 [(iz .u64 64 [(3, 64)])]⟩
noncomputable def v_238 : Ent := ⟨13089, 13089, .box [.int .i64 (18), .int .i64 (1), .int .i64 (2), .osl 13088 13088, .osl 13536 13536]⟩
noncomputable def v_239 : Ent := ⟨13536, 13536, .row 220 64 512 [(iz .u64 64 [(3, 64), (4, 256)])]⟩
noncomputable def v_240 : Ent := ⟨2638, 2638, .box [.int .i64 (18), .int .i64 (1), .int .i64 (10), .osl 2637 2637, .osl 4813 4813]⟩
noncomputable def v_241 : Ent := ⟨4813, 4813, .row 220 64 512 [(iz .u64 64 [(0, 8208), (1, 4104), (3, 64), (4, 256), (6, 2048), (8, 512), (12, 131072), (14, 32768)])]⟩
noncomputable def v_242 : Ent := ⟨14206, 14206, .box [.int .i64 (18), .int .i64 (1), .int .i64 (0), .osl 14205 14205, .nilsl]⟩
noncomputable def v_243 : Ent := ⟨14205, 14205, .row 266 4 32 [[.int .i64 (0), .int .i64 (0), .int .i64 (0), .int .i64 (0)]]⟩
noncomputable def v_244 : Ent := ⟨14206, 14206, .box [.int .i64 (18), .int .i64 (1), .int .i64 (1), .osl 14205 14205, .osl 14412 14412]⟩
noncomputable def v_245 : Ent := ⟨14205, 14205, .row 266 4 32 [[.int .i64 (1), .int .i64 (0), .int .i64 (0), .int .i64 (0)]]⟩
noncomputable def v_246 : Ent := ⟨14412, 14412, .row 220 64 512 [(iz .u64 64 [(1, 64)])]⟩
noncomputable def v_247 : Ent := ⟨14206, 14206, .box [.int .i64 (18), .int .i64 (1), .int .i64 (2), .osl 14205 14205, .osl 14412 14412]⟩
noncomputable def v_248 : Ent := ⟨14412, 14412, .row 220 64 512 [(iz .u64 64 [(1, 2112)])]⟩
noncomputable def v_249 : Ent := ⟨14206, 14206, .box [.int .i64 (18), .int .i64 (1), .int .i64 (3), .osl 14205 14205, .osl 14412 14412]⟩
noncomputable def v_250 : Ent := ⟨14412, 14412, .row 220 64 512 [(iz .u64 64 [(1, 2112), (3, 64)])]⟩
noncomputable def v_251 : Ent := ⟨14206, 14206, .box [.int .i64 (18), .int .i64 (1), .int .i64 (4), .osl 14205 14205, .osl 14412 14412]⟩
noncomputable def v_252 : Ent := ⟨14412, 14412, .row 220 64 512 [(iz .u64 64 [(1, 2112), (3, 2112)])]⟩
noncomputable def v_253 : Ent := ⟨2713, 2713, .box [.bx 2638 2638 0, .int .i64 (17), .osl 2639 2639, .osl 2676 2676]⟩
noncomputable def v_254 : Ent := ⟨2642, 2642, .row 4 1 1 (blR 18 [3, 6, 11, 12, 17])⟩
noncomputable def v_255 : Ent := ⟨2646, 2646, .row 4 1 1 (blR 18 [6, 11])⟩
noncomputable def v_256 : Ent := ⟨2689, 2689, .row 4 1 1 (blR 18 [1, 3])⟩
noncomputable def v_257 : Ent := ⟨2699, 2699, .row 4 1 1 (blR 18 [1, 3, 6])⟩
noncomputable def k_0 : CE := ⟨5, 26, [.sl 2 40 [[.str ⟨#[83]⟩, .sl 3 32 [[.int .i64 (4), .str ⟨#[]⟩, .int .i64 (3)], [.int .i64 (3), .str ⟨#[97]⟩, .int .i64 (0)], [.int .i64 (2), .str ⟨#[83]⟩, .int .i64 (0)], [.int .i64 (3), .str ⟨#[98]⟩, .int .i64 (0)]]], [.str ⟨#[83]⟩, .sl 3 32 [[.int .i64 (4), .str ⟨#[]⟩, .int .i64 (2)], [.int .i64 (3), .str ⟨#[97]⟩, .int .i64 (0)], [.int .i64 (3), .str ⟨#[98]⟩, .int .i64 (0)]]]]], [glE], .tup [.bx 462 462 0, .int .i64 (0)], [v_0, v_1, v_2, v_3, v_4, v_5, v_6, v_7], 916⟩
theorem k_0_run : (k_0).run Tryz.prog 10000 (orE (orcT []) libO) 200 = true := by kernel_rfl
theorem k_0_ok : (k_0).holds Tryz.prog := CE.holds_of mixedO (orE_ok (orcT_ok (fun _ h => absurd h List.not_mem_nil)) libO_ok) (by kernel_rfl) k_0_run (Nat.le_of_ble_eq_true (by kernel_rfl)) (Nat.le_of_ble_eq_true (by kernel_rfl))
noncomputable def k_1 : CE := ⟨5, 936, [.sl 2 40 [[.str ⟨#[83]⟩, .sl 3 32 [[.int .i64 (4), .str ⟨#[]⟩, .int .i64 (3)], [.int .i64 (3), .str ⟨#[97]⟩, .int .i64 (0)], [.int .i64 (2), .str ⟨#[83]⟩, .int .i64 (0)], [.int .i64 (3), .str ⟨#[98]⟩, .int .i64 (0)]]], [.str ⟨#[83]⟩, .sl 3 32 [[.int .i64 (4), .str ⟨#[]⟩, .int .i64 (2)], [.int .i64 (3), .str ⟨#[97]⟩, .int .i64 (0)], [.int .i64 (3), .str ⟨#[98]⟩, .int .i64 (0)]]]]], [glE], .tup [.bx 1372 1372 0, .int .i64 (0)], [v_8, v_9, v_10, v_11, v_12, v_13, v_14, v_15], 1826⟩
theorem k_1_run : (k_1).run Tryz.prog 10000 (orE (orcT []) libO) 200 = true := by kernel_rfl
theorem k_1_ok : (k_1).holds Tryz.prog := CE.holds_of mixedO (orE_ok (orcT_ok (fun _ h => absurd h List.not_mem_nil)) libO_ok) (by kernel_rfl) k_1_run (Nat.le_of_ble_eq_true (by kernel_rfl)) (Nat.le_of_ble_eq_true (by kernel_rfl))
noncomputable def k_2 : CE := ⟨40, 1828, [.bx 1827 1827 0, .str ⟨#[120]⟩, .str ⟨#[97]⟩, .str ⟨#[121]⟩], [glE, v_16, v_17], .tup [.bool true, .int .i64 (0)], [v_18, v_19, v_20, v_21, v_22, v_23, v_24], 1923⟩
theorem k_2_run : (k_2).run Tryz.prog 10000 (orE (orcT []) libO) 200 = true := by kernel_rfl
theorem k_2_ok : (k_2).holds Tryz.prog := CE.holds_of mixedO (orE_ok (orcT_ok (fun _ h => absurd h List.not_mem_nil)) libO_ok) (by kernel_rfl) k_2_run (Nat.le_of_ble_eq_true (by kernel_rfl)) (Nat.le_of_ble_eq_true (by kernel_rfl))
noncomputable def k_3 : CE := ⟨40, 1923, [.bx 1827 1827 0, .str ⟨#[121]⟩, .str ⟨#[97]⟩, .str ⟨#[120]⟩], [glE, v_18, v_19, v_20, v_21, v_22, v_23, v_24], .tup [.bool true, .int .i64 (0)], [v_25, v_26, v_27, v_28, v_29], 2080⟩
theorem k_3_run : (k_3).run Tryz.prog 10000 (orE (orcT []) libO) 200 = true := by kernel_rfl
theorem k_3_ok : (k_3).holds Tryz.prog := CE.holds_of mixedO (orE_ok (orcT_ok (fun _ h => absurd h List.not_mem_nil)) libO_ok) (by kernel_rfl) k_3_run (Nat.le_of_ble_eq_true (by kernel_rfl)) (Nat.le_of_ble_eq_true (by kernel_rfl))
noncomputable def k_4 : CE := ⟨40, 2080, [.bx 1827 1827 0, .str ⟨#[120]⟩, .str ⟨#[98]⟩, .str ⟨#[122]⟩], [glE, v_25, v_19, v_20, v_26, v_22, v_27, v_28, v_29, v_24], .tup [.bool true, .int .i64 (0)], [v_30, v_31, v_32, v_33, v_34, v_35, v_36], 2309⟩
theorem k_4_run : (k_4).run Tryz.prog 10000 (orE (orcT []) libO) 200 = true := by kernel_rfl
theorem k_4_ok : (k_4).holds Tryz.prog := CE.holds_of mixedO (orE_ok (orcT_ok (fun _ h => absurd h List.not_mem_nil)) libO_ok) (by kernel_rfl) k_4_run (Nat.le_of_ble_eq_true (by kernel_rfl)) (Nat.le_of_ble_eq_true (by kernel_rfl))
noncomputable def k_5 : CE := ⟨40, 2309, [.bx 1827 1827 0, .str ⟨#[122]⟩, .str ⟨#[98]⟩, .str ⟨#[120]⟩], [glE, v_30, v_31, v_32, v_33, v_34, v_27, v_35, v_29, v_24, v_36], .tup [.bool true, .int .i64 (0)], [v_37, v_38, v_39, v_40, v_41], 2617⟩
theorem k_5_run : (k_5).run Tryz.prog 10000 (orE (orcT []) libO) 200 = true := by kernel_rfl
theorem k_5_ok : (k_5).holds Tryz.prog := CE.holds_of mixedO (orE_ok (orcT_ok (fun _ h => absurd h List.not_mem_nil)) libO_ok) (by kernel_rfl) k_5_run (Nat.le_of_ble_eq_true (by kernel_rfl)) (Nat.le_of_ble_eq_true (by kernel_rfl))
noncomputable def k_6 : CE := ⟨121, 2721, [.bx 2718 2718 0, .int .i64 (0), .int .i64 (1)], [glE, v_42, v_43], .tup [.bool true, .int .i64 (0)], [v_44, v_45, v_46], 2872⟩
theorem k_6_run : (k_6).run Tryz.prog 10000 (orE (orcT []) libO) 200 = true := by kernel_rfl
theorem k_6_ok : (k_6).holds Tryz.prog := CE.holds_of mixedO (orE_ok (orcT_ok (fun _ h => absurd h List.not_mem_nil)) libO_ok) (by kernel_rfl) k_6_run (Nat.le_of_ble_eq_true (by kernel_rfl)) (Nat.le_of_ble_eq_true (by kernel_rfl))
noncomputable def k_7 : CE := ⟨121, 2876, [.bx 2718 2718 0, .int .i64 (1), .int .i64 (0)], [glE, v_44, v_45, v_46], .tup [.bool true, .int .i64 (0)], [v_47, v_48], 3025⟩
theorem k_7_run : (k_7).run Tryz.prog 10000 (orE (orcT []) libO) 200 = true := by kernel_rfl
theorem k_7_ok : (k_7).holds Tryz.prog := CE.holds_of mixedO (orE_ok (orcT_ok (fun _ h => absurd h List.not_mem_nil)) libO_ok) (by kernel_rfl) k_7_run (Nat.le_of_ble_eq_true (by kernel_rfl)) (Nat.le_of_ble_eq_true (by kernel_rfl))
noncomputable def k_8 : CE := ⟨121, 3050, [.bx 3031 3031 0, .int .i64 (0), .int .i64 (1)], [glE, v_49, v_50], .tup [.bool true, .int .i64 (0)], [v_51, v_52, v_53], 3201⟩
theorem k_8_run : (k_8).run Tryz.prog 10000 (orE (orcT []) libO) 200 = true := by kernel_rfl
theorem k_8_ok : (k_8).holds Tryz.prog := CE.holds_of mixedO (orE_ok (orcT_ok (fun _ h => absurd h List.not_mem_nil)) libO_ok) (by kernel_rfl) k_8_run (Nat.le_of_ble_eq_true (by kernel_rfl)) (Nat.le_of_ble_eq_true (by kernel_rfl))
noncomputable def k_9 : CE := ⟨121, 3203, [.bx 3031 3031 0, .int .i64 (0), .int .i64 (4)], [glE, v_51, v_52, v_53], .tup [.bool true, .int .i64 (0)], [v_54, v_55], 3352⟩
theorem k_9_run : (k_9).run Tryz.prog 10000 (orE (orcT []) libO) 200 = true := by kernel_rfl
theorem k_9_ok : (k_9).holds Tryz.prog := CE.holds_of mixedO (orE_ok (orcT_ok (fun _ h => absurd h List.not_mem_nil)) libO_ok) (by kernel_rfl) k_9_run (Nat.le_of_ble_eq_true (by kernel_rfl)) (Nat.le_of_ble_eq_true (by kernel_rfl))
noncomputable def k_10 : CE := ⟨121, 3791, [.bx 3359 3359 0, .int .i64 (0), .int .i64 (4)], [glE, v_56, v_57], .tup [.bool true, .int .i64 (0)], [v_58, v_59, v_60], 3942⟩
theorem k_10_run : (k_10).run Tryz.prog 10000 (orE (orcT []) libO) 200 = true := by kernel_rfl
theorem k_10_ok : (k_10).holds Tryz.prog := CE.holds_of mixedO (orE_ok (orcT_ok (fun _ h => absurd h List.not_mem_nil)) libO_ok) (by kernel_rfl) k_10_run (Nat.le_of_ble_eq_true (by kernel_rfl)) (Nat.le_of_ble_eq_true (by kernel_rfl))
noncomputable def k_11 : CE := ⟨121, 3945, [.bx 3359 3359 0, .int .i64 (1), .int .i64 (3)], [glE, v_58, v_59, v_60], .tup [.bool true, .int .i64 (0)], [v_61, v_62], 4094⟩
theorem k_11_run : (k_11).run Tryz.prog 10000 (orE (orcT []) libO) 200 = true := by kernel_rfl
theorem k_11_ok : (k_11).holds Tryz.prog := CE.holds_of mixedO (orE_ok (orcT_ok (fun _ h => absurd h List.not_mem_nil)) libO_ok) (by kernel_rfl) k_11_run (Nat.le_of_ble_eq_true (by kernel_rfl)) (Nat.le_of_ble_eq_true (by kernel_rfl))
noncomputable def k_12 : CE := ⟨121, 4099, [.bx 3359 3359 0, .int .i64 (0), .int .i64 (13)], [glE, v_61, v_59, v_62], .tup [.bool true, .int .i64 (0)], [v_63, v_64], 4248⟩
theorem k_12_run : (k_12).run Tryz.prog 10000 (orE (orcT []) libO) 200 = true := by kernel_rfl
theorem k_12_ok : (k_12).holds Tryz.prog := CE.holds_of mixedO (orE_ok (orcT_ok (fun _ h => absurd h List.not_mem_nil)) libO_ok) (by kernel_rfl) k_12_run (Nat.le_of_ble_eq_true (by kernel_rfl)) (Nat.le_of_ble_eq_true (by kernel_rfl))
noncomputable def k_13 : CE := ⟨121, 4251, [.bx 3359 3359 0, .int .i64 (1), .int .i64 (12)], [glE, v_63, v_59, v_64], .tup [.bool true, .int .i64 (0)], [v_65, v_66], 4400⟩
theorem k_13_run : (k_13).run Tryz.prog 10000 (orE (orcT []) libO) 200 = true := by kernel_rfl
theorem k_13_ok : (k_13).holds Tryz.prog := CE.holds_of mixedO (orE_ok (orcT_ok (fun _ h => absurd h List.not_mem_nil)) libO_ok) (by kernel_rfl) k_13_run (Nat.le_of_ble_eq_true (by kernel_rfl)) (Nat.le_of_ble_eq_true (by kernel_rfl))
noncomputable def k_14 : CE := ⟨122, 3358, [.bx 3031 3031 0, .bx 2718 2718 0], [glE, v_54, v_52, v_55, v_47, v_45, v_48], .tup [.bx 3359 3359 0, .int .i64 (0)], [v_65, v_59, v_66], 4780⟩
theorem k_14_run : (k_14).run Tryz.prog 10000 (orE (orcT [k_10, k_11, k_12, k_13]) libO) 200 = true := by kernel_rfl
theorem k_14_ok : (k_14).holds Tryz.prog := CE.holds_of mixedO (orE_ok (orcT_ok (List.forall_mem_cons.2 ⟨k_10_ok, List.forall_mem_cons.2 ⟨k_11_ok, List.forall_mem_cons.2 ⟨k_12_ok, List.forall_mem_cons.2 ⟨k_13_ok, fun _ h => absurd h List.not_mem_nil⟩⟩⟩⟩)) libO_ok) (by kernel_rfl) k_14_run (Nat.le_of_ble_eq_true (by kernel_rfl)) (Nat.le_of_ble_eq_true (by kernel_rfl))
noncomputable def k_15 : CE := ⟨121, 4804, [.bx 2638 2638 0, .int .i64 (0), .int .i64 (4)], [glE, v_67, v_68], .tup [.bool true, .int .i64 (0)], [v_69, v_70, v_71], 4955⟩
theorem k_15_run : (k_15).run Tryz.prog 10000 (orE (orcT []) libO) 200 = true := by kernel_rfl
theorem k_15_ok : (k_15).holds Tryz.prog := CE.holds_of mixedO (orE_ok (orcT_ok (fun _ h => absurd h List.not_mem_nil)) libO_ok) (by kernel_rfl) k_15_run (Nat.le_of_ble_eq_true (by kernel_rfl)) (Nat.le_of_ble_eq_true (by kernel_rfl))
noncomputable def k_16 : CE := ⟨121, 4961, [.bx 4782 4782 0, .int .i64 (0), .int .i64 (4)], [glE, v_72, v_73], .tup [.bool true, .int .i64 (0)], [v_74, v_75, v_76], 5112⟩
theorem k_16_run : (k_16).run Tryz.prog 10000 (orE (orcT []) libO) 200 = true := by kernel_rfl
theorem k_16_ok : (k_16).holds Tryz.prog := CE.holds_of mixedO (orE_ok (orcT_ok (fun _ h => absurd h List.not_mem_nil)) libO_ok) (by kernel_rfl) k_16_run (Nat.le_of_ble_eq_true (by kernel_rfl)) (Nat.le_of_ble_eq_true (by kernel_rfl))
noncomputable def k_17 : CE := ⟨121, 5114, [.bx 2638 2638 0, .int .i64 (0), .int .i64 (13)], [glE, v_69, v_70, v_71], .tup [.bool true, .int .i64 (0)], [v_77, v_78], 5263⟩
theorem k_17_run : (k_17).run Tryz.prog 10000 (orE (orcT []) libO) 200 = true := by kernel_rfl
theorem k_17_ok : (k_17).holds Tryz.prog := CE.holds_of mixedO (orE_ok (orcT_ok (fun _ h => absurd h List.not_mem_nil)) libO_ok) (by kernel_rfl) k_17_run (Nat.le_of_ble_eq_true (by kernel_rfl)) (Nat.le_of_ble_eq_true (by kernel_rfl))
noncomputable def k_18 : CE := ⟨121, 5269, [.bx 4782 4782 0, .int .i64 (0), .int .i64 (13)], [glE, v_74, v_75, v_76], .tup [.bool true, .int .i64 (0)], [v_79, v_80], 5418⟩
theorem k_18_run : (k_18).run Tryz.prog 10000 (orE (orcT []) libO) 200 = true := by kernel_rfl
theorem k_18_ok : (k_18).holds Tryz.prog := CE.holds_of mixedO (orE_ok (orcT_ok (fun _ h => absurd h List.not_mem_nil)) libO_ok) (by kernel_rfl) k_18_run (Nat.le_of_ble_eq_true (by kernel_rfl)) (Nat.le_of_ble_eq_true (by kernel_rfl))
noncomputable def k_19 : CE := ⟨121, 5426, [.bx 2638 2638 0, .int .i64 (1), .int .i64 (3)], [glE, v_77, v_70, v_78], .tup [.bool true, .int .i64 (0)], [v_81, v_82], 5575⟩
theorem k_19_run : (k_19).run Tryz.prog 10000 (orE (orcT []) libO) 200 = true := by kernel_rfl
theorem k_19_ok : (k_19).holds Tryz.prog := CE.holds_of mixedO (orE_ok (orcT_ok (fun _ h => absurd h List.not_mem_nil)) libO_ok) (by kernel_rfl) k_19_run (Nat.le_of_ble_eq_true (by kernel_rfl)) (Nat.le_of_ble_eq_true (by kernel_rfl))
noncomputable def k_20 : CE := ⟨121, 5581, [.bx 4782 4782 0, .int .i64 (1), .int .i64 (3)], [glE, v_79, v_75, v_80], .tup [.bool true, .int .i64 (0)], [v_83, v_84], 5730⟩
theorem k_20_run : (k_20).run Tryz.prog 10000 (orE (orcT []) libO) 200 = true := by kernel_rfl
theorem k_20_ok : (k_20).holds Tryz.prog := CE.holds_of mixedO (orE_ok (orcT_ok (fun _ h => absurd h List.not_mem_nil)) libO_ok) (by kernel_rfl) k_20_run (Nat.le_of_ble_eq_true (by kernel_rfl)) (Nat.le_of_ble_eq_true (by kernel_rfl))
noncomputable def k_21 : CE := ⟨121, 5732, [.bx 2638 2638 0, .int .i64 (1), .int .i64 (12)], [glE, v_81, v_70, v_82], .tup [.bool true, .int .i64 (0)], [v_85, v_86], 5881⟩
theorem k_21_run : (k_21).run Tryz.prog 10000 (orE (orcT []) libO) 200 = true := by kernel_rfl
theorem k_21_ok : (k_21).holds Tryz.prog := CE.holds_of mixedO (orE_ok (orcT_ok (fun _ h => absurd h List.not_mem_nil)) libO_ok) (by kernel_rfl) k_21_run (Nat.le_of_ble_eq_true (by kernel_rfl)) (Nat.le_of_ble_eq_true (by kernel_rfl))
noncomputable def k_22 : CE := ⟨121, 5887, [.bx 4782 4782 0, .int .i64 (1), .int .i64 (12)], [glE, v_83, v_75, v_84], .tup [.bool true, .int .i64 (0)], [v_87, v_88], 6036⟩
theorem k_22_run : (k_22).run Tryz.prog 10000 (orE (orcT []) libO) 200 = true := by kernel_rfl
theorem k_22_ok : (k_22).holds Tryz.prog := CE.holds_of mixedO (orE_ok (orcT_ok (fun _ h => absurd h List.not_mem_nil)) libO_ok) (by kernel_rfl) k_22_run (Nat.le_of_ble_eq_true (by kernel_rfl)) (Nat.le_of_ble_eq_true (by kernel_rfl))
noncomputable def k_23 : CE := ⟨124, 4780, [.bx 2713 2713 0, .bx 3359 3359 0], [glE, v_89, v_67, v_68, v_90, v_91, v_92, v_93, v_94, v_95, v_96, v_97, v_98, v_99, v_100, v_101, v_102, v_103, v_104, v_105, v_106, v_107, v_108, v_109, v_110, v_111, v_112, v_113, v_114, v_115, v_116, v_117, v_118, v_119, v_120, v_121, v_122, v_123, v_124, v_125, v_126, v_127, v_65, v_59, v_66], .tup [.bx 4782 4782 0, .int .i64 (0)], [v_87, v_75, v_88, v_128, v_85, v_70, v_86, v_129, v_130, v_131, v_132, v_133, v_134], 6409⟩
theorem k_23_run : (k_23).run Tryz.prog 10000 (orE (orcT [k_15, k_16, k_17, k_18, k_19, k_20, k_21, k_22]) libO) 200 = true := by kernel_rfl
theorem k_23_ok : (k_23).holds Tryz.prog := CE.holds_of mixedO (orE_ok (orcT_ok (List.forall_mem_cons.2 ⟨k_15_ok, List.forall_mem_cons.2 ⟨k_16_ok, List.forall_mem_cons.2 ⟨k_17_ok, List.forall_mem_cons.2 ⟨k_18_ok, List.forall_mem_cons.2 ⟨k_19_ok, List.forall_mem_cons.2 ⟨k_20_ok, List.forall_mem_cons.2 ⟨k_21_ok, List.forall_mem_cons.2 ⟨k_22_ok, fun _ h => absurd h List.not_mem_nil⟩⟩⟩⟩⟩⟩⟩⟩)) libO_ok) (by kernel_rfl) k_23_run (Nat.le_of_ble_eq_true (by kernel_rfl)) (Nat.le_of_ble_eq_true (by kernel_rfl))
noncomputable def k_24 : CE := ⟨121, 6415, [.bx 6410 6410 0, .int .i64 (0), .int .i64 (2)], [glE, v_135, v_136], .tup [.bool true, .int .i64 (0)], [v_137, v_138, v_139], 6566⟩
theorem k_24_run : (k_24).run Tryz.prog 10000 (orE (orcT []) libO) 200 = true := by kernel_rfl
theorem k_24_ok : (k_24).holds Tryz.prog := CE.holds_of mixedO (orE_ok (orcT_ok (fun _ h => absurd h List.not_mem_nil)) libO_ok) (by kernel_rfl) k_24_run (Nat.le_of_ble_eq_true (by kernel_rfl)) (Nat.le_of_ble_eq_true (by kernel_rfl))
end Go.Proofs.YtedjakmhhlilaaaGreatDoor
end
