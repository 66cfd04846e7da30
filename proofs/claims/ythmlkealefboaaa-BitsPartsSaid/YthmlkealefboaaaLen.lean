/- math/bits.Len below 128, number by number (lines printed by gen_len.py). -/
import Derived.Test.YthmlkealefboaaaMsk
namespace Go.Proofs.Ythmlkealefboaaa
open Go.RowKit
set_option linter.unusedVariables false
set_option maxRecDepth 100000
set_option maxHeartbeats 2000000
def LenC (x y : Int) : Prop := ∀ w : World, Calls Try.prog 24 #[.int .u64 x] w fun e w' => e = .returned (.int .i64 y) ∧ w = w'
theorem lenc_2 : LenC 2 2 := by
  intro w
  go_enter Try.func24, Try.ntmps24
  go_wp2
  go_ret
  exact ⟨by kernel_rfl, rfl⟩
theorem lenc_3 : LenC 3 2 := by
  intro w
  go_enter Try.func24, Try.ntmps24
  go_wp2
  go_ret
  exact ⟨by kernel_rfl, rfl⟩
theorem lenc_4 : LenC 4 3 := by
  intro w
  go_enter Try.func24, Try.ntmps24
  go_wp2
  go_ret
  exact ⟨by kernel_rfl, rfl⟩
theorem lenc_5 : LenC 5 3 := by
  intro w
  go_enter Try.func24, Try.ntmps24
  go_wp2
  go_ret
  exact ⟨by kernel_rfl, rfl⟩
theorem lenc_6 : LenC 6 3 := by
  intro w
  go_enter Try.func24, Try.ntmps24
  go_wp2
  go_ret
  exact ⟨by kernel_rfl, rfl⟩
theorem lenc_7 : LenC 7 3 := by
  intro w
  go_enter Try.func24, Try.ntmps24
  go_wp2
  go_ret
  exact ⟨by kernel_rfl, rfl⟩
theorem lenc_8 : LenC 8 4 := by
  intro w
  go_enter Try.func24, Try.ntmps24
  go_wp2
  go_ret
  exact ⟨by kernel_rfl, rfl⟩
theorem lenc_9 : LenC 9 4 := by
  intro w
  go_enter Try.func24, Try.ntmps24
  go_wp2
  go_ret
  exact ⟨by kernel_rfl, rfl⟩
theorem lenc_10 : LenC 10 4 := by
  intro w
  go_enter Try.func24, Try.ntmps24
  go_wp2
  go_ret
  exact ⟨by kernel_rfl, rfl⟩
theorem lenc_11 : LenC 11 4 := by
  intro w
  go_enter Try.func24, Try.ntmps24
  go_wp2
  go_ret
  exact ⟨by kernel_rfl, rfl⟩
theorem lenc_12 : LenC 12 4 := by
  intro w
  go_enter Try.func24, Try.ntmps24
  go_wp2
  go_ret
  exact ⟨by kernel_rfl, rfl⟩
theorem lenc_13 : LenC 13 4 := by
  intro w
  go_enter Try.func24, Try.ntmps24
  go_wp2
  go_ret
  exact ⟨by kernel_rfl, rfl⟩
theorem lenc_14 : LenC 14 4 := by
  intro w
  go_enter Try.func24, Try.ntmps24
  go_wp2
  go_ret
  exact ⟨by kernel_rfl, rfl⟩
theorem lenc_15 : LenC 15 4 := by
  intro w
  go_enter Try.func24, Try.ntmps24
  go_wp2
  go_ret
  exact ⟨by kernel_rfl, rfl⟩
theorem lenc_16 : LenC 16 5 := by
  intro w
  go_enter Try.func24, Try.ntmps24
  go_wp2
  go_ret
  exact ⟨by kernel_rfl, rfl⟩
theorem lenc_17 : LenC 17 5 := by
  intro w
  go_enter Try.func24, Try.ntmps24
  go_wp2
  go_ret
  exact ⟨by kernel_rfl, rfl⟩
theorem lenc_18 : LenC 18 5 := by
  intro w
  go_enter Try.func24, Try.ntmps24
  go_wp2
  go_ret
  exact ⟨by kernel_rfl, rfl⟩
theorem lenc_19 : LenC 19 5 := by
  intro w
  go_enter Try.func24, Try.ntmps24
  go_wp2
  go_ret
  exact ⟨by kernel_rfl, rfl⟩
theorem lenc_20 : LenC 20 5 := by
  intro w
  go_enter Try.func24, Try.ntmps24
  go_wp2
  go_ret
  exact ⟨by kernel_rfl, rfl⟩
theorem lenc_21 : LenC 21 5 := by
  intro w
  go_enter Try.func24, Try.ntmps24
  go_wp2
  go_ret
  exact ⟨by kernel_rfl, rfl⟩
theorem lenc_22 : LenC 22 5 := by
  intro w
  go_enter Try.func24, Try.ntmps24
  go_wp2
  go_ret
  exact ⟨by kernel_rfl, rfl⟩
theorem lenc_23 : LenC 23 5 := by
  intro w
  go_enter Try.func24, Try.ntmps24
  go_wp2
  go_ret
  exact ⟨by kernel_rfl, rfl⟩
theorem lenc_24 : LenC 24 5 := by
  intro w
  go_enter Try.func24, Try.ntmps24
  go_wp2
  go_ret
  exact ⟨by kernel_rfl, rfl⟩
theorem lenc_25 : LenC 25 5 := by
  intro w
  go_enter Try.func24, Try.ntmps24
  go_wp2
  go_ret
  exact ⟨by kernel_rfl, rfl⟩
theorem lenc_26 : LenC 26 5 := by
  intro w
  go_enter Try.func24, Try.ntmps24
  go_wp2
  go_ret
  exact ⟨by kernel_rfl, rfl⟩
theorem lenc_27 : LenC 27 5 := by
  intro w
  go_enter Try.func24, Try.ntmps24
  go_wp2
  go_ret
  exact ⟨by kernel_rfl, rfl⟩
theorem lenc_28 : LenC 28 5 := by
  intro w
  go_enter Try.func24, Try.ntmps24
  go_wp2
  go_ret
  exact ⟨by kernel_rfl, rfl⟩
theorem lenc_29 : LenC 29 5 := by
  intro w
  go_enter Try.func24, Try.ntmps24
  go_wp2
  go_ret
  exact ⟨by kernel_rfl, rfl⟩
theorem lenc_30 : LenC 30 5 := by
  intro w
  go_enter Try.func24, Try.ntmps24
  go_wp2
  go_ret
  exact ⟨by kernel_rfl, rfl⟩
theorem lenc_31 : LenC 31 5 := by
  intro w
  go_enter Try.func24, Try.ntmps24
  go_wp2
  go_ret
  exact ⟨by kernel_rfl, rfl⟩
theorem lenc_32 : LenC 32 6 := by
  intro w
  go_enter Try.func24, Try.ntmps24
  go_wp2
  go_ret
  exact ⟨by kernel_rfl, rfl⟩
theorem lenc_33 : LenC 33 6 := by
  intro w
  go_enter Try.func24, Try.ntmps24
  go_wp2
  go_ret
  exact ⟨by kernel_rfl, rfl⟩
theorem lenc_34 : LenC 34 6 := by
  intro w
  go_enter Try.func24, Try.ntmps24
  go_wp2
  go_ret
  exact ⟨by kernel_rfl, rfl⟩
theorem lenc_35 : LenC 35 6 := by
  intro w
  go_enter Try.func24, Try.ntmps24
  go_wp2
  go_ret
  exact ⟨by kernel_rfl, rfl⟩
theorem lenc_36 : LenC 36 6 := by
  intro w
  go_enter Try.func24, Try.ntmps24
  go_wp2
  go_ret
  exact ⟨by kernel_rfl, rfl⟩
theorem lenc_37 : LenC 37 6 := by
  intro w
  go_enter Try.func24, Try.ntmps24
  go_wp2
  go_ret
  exact ⟨by kernel_rfl, rfl⟩
theorem lenc_38 : LenC 38 6 := by
  intro w
  go_enter Try.func24, Try.ntmps24
  go_wp2
  go_ret
  exact ⟨by kernel_rfl, rfl⟩
theorem lenc_39 : LenC 39 6 := by
  intro w
  go_enter Try.func24, Try.ntmps24
  go_wp2
  go_ret
  exact ⟨by kernel_rfl, rfl⟩
theorem lenc_40 : LenC 40 6 := by
  intro w
  go_enter Try.func24, Try.ntmps24
  go_wp2
  go_ret
  exact ⟨by kernel_rfl, rfl⟩
theorem lenc_41 : LenC 41 6 := by
  intro w
  go_enter Try.func24, Try.ntmps24
  go_wp2
  go_ret
  exact ⟨by kernel_rfl, rfl⟩
theorem lenc_42 : LenC 42 6 := by
  intro w
  go_enter Try.func24, Try.ntmps24
  go_wp2
  go_ret
  exact ⟨by kernel_rfl, rfl⟩
theorem lenc_43 : LenC 43 6 := by
  intro w
  go_enter Try.func24, Try.ntmps24
  go_wp2
  go_ret
  exact ⟨by kernel_rfl, rfl⟩
theorem lenc_44 : LenC 44 6 := by
  intro w
  go_enter Try.func24, Try.ntmps24
  go_wp2
  go_ret
  exact ⟨by kernel_rfl, rfl⟩
theorem lenc_45 : LenC 45 6 := by
  intro w
  go_enter Try.func24, Try.ntmps24
  go_wp2
  go_ret
  exact ⟨by kernel_rfl, rfl⟩
theorem lenc_46 : LenC 46 6 := by
  intro w
  go_enter Try.func24, Try.ntmps24
  go_wp2
  go_ret
  exact ⟨by kernel_rfl, rfl⟩
theorem lenc_47 : LenC 47 6 := by
  intro w
  go_enter Try.func24, Try.ntmps24
  go_wp2
  go_ret
  exact ⟨by kernel_rfl, rfl⟩
theorem lenc_48 : LenC 48 6 := by
  intro w
  go_enter Try.func24, Try.ntmps24
  go_wp2
  go_ret
  exact ⟨by kernel_rfl, rfl⟩
theorem lenc_49 : LenC 49 6 := by
  intro w
  go_enter Try.func24, Try.ntmps24
  go_wp2
  go_ret
  exact ⟨by kernel_rfl, rfl⟩
theorem lenc_50 : LenC 50 6 := by
  intro w
  go_enter Try.func24, Try.ntmps24
  go_wp2
  go_ret
  exact ⟨by kernel_rfl, rfl⟩
theorem lenc_51 : LenC 51 6 := by
  intro w
  go_enter Try.func24, Try.ntmps24
  go_wp2
  go_ret
  exact ⟨by kernel_rfl, rfl⟩
theorem lenc_52 : LenC 52 6 := by
  intro w
  go_enter Try.func24, Try.ntmps24
  go_wp2
  go_ret
  exact ⟨by kernel_rfl, rfl⟩
theorem lenc_53 : LenC 53 6 := by
  intro w
  go_enter Try.func24, Try.ntmps24
  go_wp2
  go_ret
  exact ⟨by kernel_rfl, rfl⟩
theorem lenc_54 : LenC 54 6 := by
  intro w
  go_enter Try.func24, Try.ntmps24
  go_wp2
  go_ret
  exact ⟨by kernel_rfl, rfl⟩
theorem lenc_55 : LenC 55 6 := by
  intro w
  go_enter Try.func24, Try.ntmps24
  go_wp2
  go_ret
  exact ⟨by kernel_rfl, rfl⟩
theorem lenc_56 : LenC 56 6 := by
  intro w
  go_enter Try.func24, Try.ntmps24
  go_wp2
  go_ret
  exact ⟨by kernel_rfl, rfl⟩
theorem lenc_57 : LenC 57 6 := by
  intro w
  go_enter Try.func24, Try.ntmps24
  go_wp2
  go_ret
  exact ⟨by kernel_rfl, rfl⟩
theorem lenc_58 : LenC 58 6 := by
  intro w
  go_enter Try.func24, Try.ntmps24
  go_wp2
  go_ret
  exact ⟨by kernel_rfl, rfl⟩
theorem lenc_59 : LenC 59 6 := by
  intro w
  go_enter Try.func24, Try.ntmps24
  go_wp2
  go_ret
  exact ⟨by kernel_rfl, rfl⟩
theorem lenc_60 : LenC 60 6 := by
  intro w
  go_enter Try.func24, Try.ntmps24
  go_wp2
  go_ret
  exact ⟨by kernel_rfl, rfl⟩
theorem lenc_61 : LenC 61 6 := by
  intro w
  go_enter Try.func24, Try.ntmps24
  go_wp2
  go_ret
  exact ⟨by kernel_rfl, rfl⟩
theorem lenc_62 : LenC 62 6 := by
  intro w
  go_enter Try.func24, Try.ntmps24
  go_wp2
  go_ret
  exact ⟨by kernel_rfl, rfl⟩
theorem lenc_63 : LenC 63 6 := by
  intro w
  go_enter Try.func24, Try.ntmps24
  go_wp2
  go_ret
  exact ⟨by kernel_rfl, rfl⟩
theorem lenc_64 : LenC 64 7 := by
  intro w
  go_enter Try.func24, Try.ntmps24
  go_wp2
  go_ret
  exact ⟨by kernel_rfl, rfl⟩
theorem lenc_65 : LenC 65 7 := by
  intro w
  go_enter Try.func24, Try.ntmps24
  go_wp2
  go_ret
  exact ⟨by kernel_rfl, rfl⟩
theorem lenc_66 : LenC 66 7 := by
  intro w
  go_enter Try.func24, Try.ntmps24
  go_wp2
  go_ret
  exact ⟨by kernel_rfl, rfl⟩
theorem lenc_67 : LenC 67 7 := by
  intro w
  go_enter Try.func24, Try.ntmps24
  go_wp2
  go_ret
  exact ⟨by kernel_rfl, rfl⟩
theorem lenc_68 : LenC 68 7 := by
  intro w
  go_enter Try.func24, Try.ntmps24
  go_wp2
  go_ret
  exact ⟨by kernel_rfl, rfl⟩
theorem lenc_69 : LenC 69 7 := by
  intro w
  go_enter Try.func24, Try.ntmps24
  go_wp2
  go_ret
  exact ⟨by kernel_rfl, rfl⟩
theorem lenc_70 : LenC 70 7 := by
  intro w
  go_enter Try.func24, Try.ntmps24
  go_wp2
  go_ret
  exact ⟨by kernel_rfl, rfl⟩
theorem lenc_71 : LenC 71 7 := by
  intro w
  go_enter Try.func24, Try.ntmps24
  go_wp2
  go_ret
  exact ⟨by kernel_rfl, rfl⟩
theorem lenc_72 : LenC 72 7 := by
  intro w
  go_enter Try.func24, Try.ntmps24
  go_wp2
  go_ret
  exact ⟨by kernel_rfl, rfl⟩
theorem lenc_73 : LenC 73 7 := by
  intro w
  go_enter Try.func24, Try.ntmps24
  go_wp2
  go_ret
  exact ⟨by kernel_rfl, rfl⟩
theorem lenc_74 : LenC 74 7 := by
  intro w
  go_enter Try.func24, Try.ntmps24
  go_wp2
  go_ret
  exact ⟨by kernel_rfl, rfl⟩
theorem lenc_75 : LenC 75 7 := by
  intro w
  go_enter Try.func24, Try.ntmps24
  go_wp2
  go_ret
  exact ⟨by kernel_rfl, rfl⟩
theorem lenc_76 : LenC 76 7 := by
  intro w
  go_enter Try.func24, Try.ntmps24
  go_wp2
  go_ret
  exact ⟨by kernel_rfl, rfl⟩
theorem lenc_77 : LenC 77 7 := by
  intro w
  go_enter Try.func24, Try.ntmps24
  go_wp2
  go_ret
  exact ⟨by kernel_rfl, rfl⟩
theorem lenc_78 : LenC 78 7 := by
  intro w
  go_enter Try.func24, Try.ntmps24
  go_wp2
  go_ret
  exact ⟨by kernel_rfl, rfl⟩
theorem lenc_79 : LenC 79 7 := by
  intro w
  go_enter Try.func24, Try.ntmps24
  go_wp2
  go_ret
  exact ⟨by kernel_rfl, rfl⟩
theorem lenc_80 : LenC 80 7 := by
  intro w
  go_enter Try.func24, Try.ntmps24
  go_wp2
  go_ret
  exact ⟨by kernel_rfl, rfl⟩
theorem lenc_81 : LenC 81 7 := by
  intro w
  go_enter Try.func24, Try.ntmps24
  go_wp2
  go_ret
  exact ⟨by kernel_rfl, rfl⟩
theorem lenc_82 : LenC 82 7 := by
  intro w
  go_enter Try.func24, Try.ntmps24
  go_wp2
  go_ret
  exact ⟨by kernel_rfl, rfl⟩
theorem lenc_83 : LenC 83 7 := by
  intro w
  go_enter Try.func24, Try.ntmps24
  go_wp2
  go_ret
  exact ⟨by kernel_rfl, rfl⟩
theorem lenc_84 : LenC 84 7 := by
  intro w
  go_enter Try.func24, Try.ntmps24
  go_wp2
  go_ret
  exact ⟨by kernel_rfl, rfl⟩
theorem lenc_85 : LenC 85 7 := by
  intro w
  go_enter Try.func24, Try.ntmps24
  go_wp2
  go_ret
  exact ⟨by kernel_rfl, rfl⟩
theorem lenc_86 : LenC 86 7 := by
  intro w
  go_enter Try.func24, Try.ntmps24
  go_wp2
  go_ret
  exact ⟨by kernel_rfl, rfl⟩
theorem lenc_87 : LenC 87 7 := by
  intro w
  go_enter Try.func24, Try.ntmps24
  go_wp2
  go_ret
  exact ⟨by kernel_rfl, rfl⟩
theorem lenc_88 : LenC 88 7 := by
  intro w
  go_enter Try.func24, Try.ntmps24
  go_wp2
  go_ret
  exact ⟨by kernel_rfl, rfl⟩
theorem lenc_89 : LenC 89 7 := by
  intro w
  go_enter Try.func24, Try.ntmps24
  go_wp2
  go_ret
  exact ⟨by kernel_rfl, rfl⟩
theorem lenc_90 : LenC 90 7 := by
  intro w
  go_enter Try.func24, Try.ntmps24
  go_wp2
  go_ret
  exact ⟨by kernel_rfl, rfl⟩
theorem lenc_91 : LenC 91 7 := by
  intro w
  go_enter Try.func24, Try.ntmps24
  go_wp2
  go_ret
  exact ⟨by kernel_rfl, rfl⟩
theorem lenc_92 : LenC 92 7 := by
  intro w
  go_enter Try.func24, Try.ntmps24
  go_wp2
  go_ret
  exact ⟨by kernel_rfl, rfl⟩
theorem lenc_93 : LenC 93 7 := by
  intro w
  go_enter Try.func24, Try.ntmps24
  go_wp2
  go_ret
  exact ⟨by kernel_rfl, rfl⟩
theorem lenc_94 : LenC 94 7 := by
  intro w
  go_enter Try.func24, Try.ntmps24
  go_wp2
  go_ret
  exact ⟨by kernel_rfl, rfl⟩
theorem lenc_95 : LenC 95 7 := by
  intro w
  go_enter Try.func24, Try.ntmps24
  go_wp2
  go_ret
  exact ⟨by kernel_rfl, rfl⟩
theorem lenc_96 : LenC 96 7 := by
  intro w
  go_enter Try.func24, Try.ntmps24
  go_wp2
  go_ret
  exact ⟨by kernel_rfl, rfl⟩
theorem lenc_97 : LenC 97 7 := by
  intro w
  go_enter Try.func24, Try.ntmps24
  go_wp2
  go_ret
  exact ⟨by kernel_rfl, rfl⟩
theorem lenc_98 : LenC 98 7 := by
  intro w
  go_enter Try.func24, Try.ntmps24
  go_wp2
  go_ret
  exact ⟨by kernel_rfl, rfl⟩
theorem lenc_99 : LenC 99 7 := by
  intro w
  go_enter Try.func24, Try.ntmps24
  go_wp2
  go_ret
  exact ⟨by kernel_rfl, rfl⟩
theorem lenc_100 : LenC 100 7 := by
  intro w
  go_enter Try.func24, Try.ntmps24
  go_wp2
  go_ret
  exact ⟨by kernel_rfl, rfl⟩
theorem lenc_101 : LenC 101 7 := by
  intro w
  go_enter Try.func24, Try.ntmps24
  go_wp2
  go_ret
  exact ⟨by kernel_rfl, rfl⟩
theorem lenc_102 : LenC 102 7 := by
  intro w
  go_enter Try.func24, Try.ntmps24
  go_wp2
  go_ret
  exact ⟨by kernel_rfl, rfl⟩
theorem lenc_103 : LenC 103 7 := by
  intro w
  go_enter Try.func24, Try.ntmps24
  go_wp2
  go_ret
  exact ⟨by kernel_rfl, rfl⟩
theorem lenc_104 : LenC 104 7 := by
  intro w
  go_enter Try.func24, Try.ntmps24
  go_wp2
  go_ret
  exact ⟨by kernel_rfl, rfl⟩
theorem lenc_105 : LenC 105 7 := by
  intro w
  go_enter Try.func24, Try.ntmps24
  go_wp2
  go_ret
  exact ⟨by kernel_rfl, rfl⟩
theorem lenc_106 : LenC 106 7 := by
  intro w
  go_enter Try.func24, Try.ntmps24
  go_wp2
  go_ret
  exact ⟨by kernel_rfl, rfl⟩
theorem lenc_107 : LenC 107 7 := by
  intro w
  go_enter Try.func24, Try.ntmps24
  go_wp2
  go_ret
  exact ⟨by kernel_rfl, rfl⟩
theorem lenc_108 : LenC 108 7 := by
  intro w
  go_enter Try.func24, Try.ntmps24
  go_wp2
  go_ret
  exact ⟨by kernel_rfl, rfl⟩
theorem lenc_109 : LenC 109 7 := by
  intro w
  go_enter Try.func24, Try.ntmps24
  go_wp2
  go_ret
  exact ⟨by kernel_rfl, rfl⟩
theorem lenc_110 : LenC 110 7 := by
  intro w
  go_enter Try.func24, Try.ntmps24
  go_wp2
  go_ret
  exact ⟨by kernel_rfl, rfl⟩
theorem lenc_111 : LenC 111 7 := by
  intro w
  go_enter Try.func24, Try.ntmps24
  go_wp2
  go_ret
  exact ⟨by kernel_rfl, rfl⟩
theorem lenc_112 : LenC 112 7 := by
  intro w
  go_enter Try.func24, Try.ntmps24
  go_wp2
  go_ret
  exact ⟨by kernel_rfl, rfl⟩
theorem lenc_113 : LenC 113 7 := by
  intro w
  go_enter Try.func24, Try.ntmps24
  go_wp2
  go_ret
  exact ⟨by kernel_rfl, rfl⟩
theorem lenc_114 : LenC 114 7 := by
  intro w
  go_enter Try.func24, Try.ntmps24
  go_wp2
  go_ret
  exact ⟨by kernel_rfl, rfl⟩
theorem lenc_115 : LenC 115 7 := by
  intro w
  go_enter Try.func24, Try.ntmps24
  go_wp2
  go_ret
  exact ⟨by kernel_rfl, rfl⟩
theorem lenc_116 : LenC 116 7 := by
  intro w
  go_enter Try.func24, Try.ntmps24
  go_wp2
  go_ret
  exact ⟨by kernel_rfl, rfl⟩
theorem lenc_117 : LenC 117 7 := by
  intro w
  go_enter Try.func24, Try.ntmps24
  go_wp2
  go_ret
  exact ⟨by kernel_rfl, rfl⟩
theorem lenc_118 : LenC 118 7 := by
  intro w
  go_enter Try.func24, Try.ntmps24
  go_wp2
  go_ret
  exact ⟨by kernel_rfl, rfl⟩
theorem lenc_119 : LenC 119 7 := by
  intro w
  go_enter Try.func24, Try.ntmps24
  go_wp2
  go_ret
  exact ⟨by kernel_rfl, rfl⟩
theorem lenc_120 : LenC 120 7 := by
  intro w
  go_enter Try.func24, Try.ntmps24
  go_wp2
  go_ret
  exact ⟨by kernel_rfl, rfl⟩
theorem lenc_121 : LenC 121 7 := by
  intro w
  go_enter Try.func24, Try.ntmps24
  go_wp2
  go_ret
  exact ⟨by kernel_rfl, rfl⟩
theorem lenc_122 : LenC 122 7 := by
  intro w
  go_enter Try.func24, Try.ntmps24
  go_wp2
  go_ret
  exact ⟨by kernel_rfl, rfl⟩
theorem lenc_123 : LenC 123 7 := by
  intro w
  go_enter Try.func24, Try.ntmps24
  go_wp2
  go_ret
  exact ⟨by kernel_rfl, rfl⟩
theorem lenc_124 : LenC 124 7 := by
  intro w
  go_enter Try.func24, Try.ntmps24
  go_wp2
  go_ret
  exact ⟨by kernel_rfl, rfl⟩
theorem lenc_125 : LenC 125 7 := by
  intro w
  go_enter Try.func24, Try.ntmps24
  go_wp2
  go_ret
  exact ⟨by kernel_rfl, rfl⟩
theorem lenc_126 : LenC 126 7 := by
  intro w
  go_enter Try.func24, Try.ntmps24
  go_wp2
  go_ret
  exact ⟨by kernel_rfl, rfl⟩
theorem lenc_127 : LenC 127 7 := by
  intro w
  go_enter Try.func24, Try.ntmps24
  go_wp2
  go_ret
  exact ⟨by kernel_rfl, rfl⟩
theorem lenb_2 (x : Int) (h0 : 2 ≤ x) (h1 : x ≤ 3) : LenC x 2 := by
  have h : x = 2 ∨ x = 3 := by omega
  rcases h with rfl | rfl
  · exact lenc_2
  · exact lenc_3
theorem lenb_3 (x : Int) (h0 : 4 ≤ x) (h1 : x ≤ 7) : LenC x 3 := by
  have h : x = 4 ∨ x = 5 ∨ x = 6 ∨ x = 7 := by omega
  rcases h with rfl | rfl | rfl | rfl
  · exact lenc_4
  · exact lenc_5
  · exact lenc_6
  · exact lenc_7
theorem lenb_4 (x : Int) (h0 : 8 ≤ x) (h1 : x ≤ 15) : LenC x 4 := by
  have h : x = 8 ∨ x = 9 ∨ x = 10 ∨ x = 11 ∨ x = 12 ∨ x = 13 ∨ x = 14 ∨ x = 15 := by omega
  rcases h with rfl | rfl | rfl | rfl | rfl | rfl | rfl | rfl
  · exact lenc_8
  · exact lenc_9
  · exact lenc_10
  · exact lenc_11
  · exact lenc_12
  · exact lenc_13
  · exact lenc_14
  · exact lenc_15
theorem lenb_5 (x : Int) (h0 : 16 ≤ x) (h1 : x ≤ 31) : LenC x 5 := by
  have h : x = 16 ∨ x = 17 ∨ x = 18 ∨ x = 19 ∨ x = 20 ∨ x = 21 ∨ x = 22 ∨ x = 23 ∨ x = 24 ∨ x = 25 ∨ x = 26 ∨ x = 27 ∨ x = 28 ∨ x = 29 ∨ x = 30 ∨ x = 31 := by omega
  rcases h with rfl | rfl | rfl | rfl | rfl | rfl | rfl | rfl | rfl | rfl | rfl | rfl | rfl | rfl | rfl | rfl
  · exact lenc_16
  · exact lenc_17
  · exact lenc_18
  · exact lenc_19
  · exact lenc_20
  · exact lenc_21
  · exact lenc_22
  · exact lenc_23
  · exact lenc_24
  · exact lenc_25
  · exact lenc_26
  · exact lenc_27
  · exact lenc_28
  · exact lenc_29
  · exact lenc_30
  · exact lenc_31
theorem lenb_6 (x : Int) (h0 : 32 ≤ x) (h1 : x ≤ 63) : LenC x 6 := by
  have h : x = 32 ∨ x = 33 ∨ x = 34 ∨ x = 35 ∨ x = 36 ∨ x = 37 ∨ x = 38 ∨ x = 39 ∨ x = 40 ∨ x = 41 ∨ x = 42 ∨ x = 43 ∨ x = 44 ∨ x = 45 ∨ x = 46 ∨ x = 47 ∨ x = 48 ∨ x = 49 ∨ x = 50 ∨ x = 51 ∨ x = 52 ∨ x = 53 ∨ x = 54 ∨ x = 55 ∨ x = 56 ∨ x = 57 ∨ x = 58 ∨ x = 59 ∨ x = 60 ∨ x = 61 ∨ x = 62 ∨ x = 63 := by omega
  rcases h with rfl | rfl | rfl | rfl | rfl | rfl | rfl | rfl | rfl | rfl | rfl | rfl | rfl | rfl | rfl | rfl | rfl | rfl | rfl | rfl | rfl | rfl | rfl | rfl | rfl | rfl | rfl | rfl | rfl | rfl | rfl | rfl
  · exact lenc_32
  · exact lenc_33
  · exact lenc_34
  · exact lenc_35
  · exact lenc_36
  · exact lenc_37
  · exact lenc_38
  · exact lenc_39
  · exact lenc_40
  · exact lenc_41
  · exact lenc_42
  · exact lenc_43
  · exact lenc_44
  · exact lenc_45
  · exact lenc_46
  · exact lenc_47
  · exact lenc_48
  · exact lenc_49
  · exact lenc_50
  · exact lenc_51
  · exact lenc_52
  · exact lenc_53
  · exact lenc_54
  · exact lenc_55
  · exact lenc_56
  · exact lenc_57
  · exact lenc_58
  · exact lenc_59
  · exact lenc_60
  · exact lenc_61
  · exact lenc_62
  · exact lenc_63
theorem lenb_7 (x : Int) (h0 : 64 ≤ x) (h1 : x ≤ 127) : LenC x 7 := by
  have h : x = 64 ∨ x = 65 ∨ x = 66 ∨ x = 67 ∨ x = 68 ∨ x = 69 ∨ x = 70 ∨ x = 71 ∨ x = 72 ∨ x = 73 ∨ x = 74 ∨ x = 75 ∨ x = 76 ∨ x = 77 ∨ x = 78 ∨ x = 79 ∨ x = 80 ∨ x = 81 ∨ x = 82 ∨ x = 83 ∨ x = 84 ∨ x = 85 ∨ x = 86 ∨ x = 87 ∨ x = 88 ∨ x = 89 ∨ x = 90 ∨ x = 91 ∨ x = 92 ∨ x = 93 ∨ x = 94 ∨ x = 95 ∨ x = 96 ∨ x = 97 ∨ x = 98 ∨ x = 99 ∨ x = 100 ∨ x = 101 ∨ x = 102 ∨ x = 103 ∨ x = 104 ∨ x = 105 ∨ x = 106 ∨ x = 107 ∨ x = 108 ∨ x = 109 ∨ x = 110 ∨ x = 111 ∨ x = 112 ∨ x = 113 ∨ x = 114 ∨ x = 115 ∨ x = 116 ∨ x = 117 ∨ x = 118 ∨ x = 119 ∨ x = 120 ∨ x = 121 ∨ x = 122 ∨ x = 123 ∨ x = 124 ∨ x = 125 ∨ x = 126 ∨ x = 127 := by omega
  rcases h with rfl | rfl | rfl | rfl | rfl | rfl | rfl | rfl | rfl | rfl | rfl | rfl | rfl | rfl | rfl | rfl | rfl | rfl | rfl | rfl | rfl | rfl | rfl | rfl | rfl | rfl | rfl | rfl | rfl | rfl | rfl | rfl | rfl | rfl | rfl | rfl | rfl | rfl | rfl | rfl | rfl | rfl | rfl | rfl | rfl | rfl | rfl | rfl | rfl | rfl | rfl | rfl | rfl | rfl | rfl | rfl | rfl | rfl | rfl | rfl | rfl | rfl | rfl | rfl
  · exact lenc_64
  · exact lenc_65
  · exact lenc_66
  · exact lenc_67
  · exact lenc_68
  · exact lenc_69
  · exact lenc_70
  · exact lenc_71
  · exact lenc_72
  · exact lenc_73
  · exact lenc_74
  · exact lenc_75
  · exact lenc_76
  · exact lenc_77
  · exact lenc_78
  · exact lenc_79
  · exact lenc_80
  · exact lenc_81
  · exact lenc_82
  · exact lenc_83
  · exact lenc_84
  · exact lenc_85
  · exact lenc_86
  · exact lenc_87
  · exact lenc_88
  · exact lenc_89
  · exact lenc_90
  · exact lenc_91
  · exact lenc_92
  · exact lenc_93
  · exact lenc_94
  · exact lenc_95
  · exact lenc_96
  · exact lenc_97
  · exact lenc_98
  · exact lenc_99
  · exact lenc_100
  · exact lenc_101
  · exact lenc_102
  · exact lenc_103
  · exact lenc_104
  · exact lenc_105
  · exact lenc_106
  · exact lenc_107
  · exact lenc_108
  · exact lenc_109
  · exact lenc_110
  · exact lenc_111
  · exact lenc_112
  · exact lenc_113
  · exact lenc_114
  · exact lenc_115
  · exact lenc_116
  · exact lenc_117
  · exact lenc_118
  · exact lenc_119
  · exact lenc_120
  · exact lenc_121
  · exact lenc_122
  · exact lenc_123
  · exact lenc_124
  · exact lenc_125
  · exact lenc_126
  · exact lenc_127
end Go.Proofs.Ythmlkealefboaaa
