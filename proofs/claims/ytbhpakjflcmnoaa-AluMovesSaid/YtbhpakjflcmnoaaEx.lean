/- The chapter's examples hold. -/
import Derived.Test.YtbhpakjflcmnoaaAdd
import Derived.Test.YtbhpakjflcmnoaaShift
namespace Go.Proofs.Ytbhpakjflcmnoaa
open Go.RowKit
set_option linter.unusedVariables false

theorem ex_add1 (w : World) : Calls Try.prog 12 #[.int .u64 18446744073709551615, .int .u64 1, .bool false] w fun e w' => e = .returned (.tuple #[.int .u64 0, .agg #[.bool false, .bool true, .bool true, .bool false]]) ∧ Fr Nil w w' := by
  have h := add_0 18446744073709551615 1 w (by decide) (by decide)
  have e1 : sumF 18446744073709551615 1 0 = 0 := by kernel_rfl
  have e2 : flg 18446744073709551615 1 0 = #[.bool false, .bool true, .bool true, .bool false] := by kernel_rfl
  rw [e1, e2] at h
  exact h
theorem ex_add2 (w : World) : Calls Try.prog 12 #[.int .u64 9223372036854775807, .int .u64 1, .bool false] w fun e w' => e = .returned (.tuple #[.int .u64 9223372036854775808, .agg #[.bool true, .bool false, .bool false, .bool true]]) ∧ Fr Nil w w' := by
  have h := add_0 9223372036854775807 1 w (by decide) (by decide)
  have e1 : sumF 9223372036854775807 1 0 = 9223372036854775808 := by kernel_rfl
  have e2 : flg 9223372036854775807 1 0 = #[.bool true, .bool false, .bool false, .bool true] := by kernel_rfl
  rw [e1, e2] at h
  exact h
theorem ex_sdiv (w : World) : Calls Try.prog 10 #[.int .i64 8, .int .u64 9223372036854775808, .int .u64 18446744073709551615] w fun e w' => e = .returned (.tuple #[.int .u64 9223372036854775808, .int .i64 0]) ∧ w = w' := by
  have h := reckon_8 9223372036854775808 18446744073709551615 w (by decide) (by decide) (by decide) (by decide)
  have e : opV 8 9223372036854775808 18446744073709551615 = 9223372036854775808 := by kernel_rfl
  rw [e] at h
  exact h
theorem ex_udiv (w : World) : Calls Try.prog 10 #[.int .i64 7, .int .u64 5, .int .u64 0] w fun e w' => e = .returned (.tuple #[.int .u64 0, .int .i64 0]) ∧ w = w' := by
  have h := reckon_7 5 0 w (by decide) (by decide) (by decide) (by decide)
  have e : opV 7 5 0 = 0 := by kernel_rfl
  rw [e] at h
  exact h
theorem ex_field (w : World) : Calls Try.prog 17 #[.int .u64 3, .bool false, .int .i64 60, .int .i64 1] w fun e w' => e = .returned (.tuple #[.int .u64 48, .int .i64 0]) ∧ w = w' := by
  have h := field_false 3 60 1 w (by decide) (by decide) (by decide) (by decide)
  have e : fieldV false 3 (63 - 1) (downF 60 1) = 48 := by kernel_rfl
  rw [e] at h
  exact h
set_option maxHeartbeats 2000000 in
theorem examples_ok (w : World) : Calls Try.prog 9 #[] w fun e w' => e = .returned (.bool true) ∧ Fr Nil w w' := by
  go_enter Try.func9, Try.ntmps9
  go_wp2_with fail
  refine (ex_add1 _).mono ?_
  rintro e w1 ⟨rfl, hf1⟩
  go_wp2_with fail
  refine (ex_add2 _).mono ?_
  rintro e w2 ⟨rfl, hf2⟩
  have b2 : Blk w2 w1.heap.size 31 #[.bool false, .bool true, .bool true, .bool false] := Blk.fr0 (Blk.new _ _ _) hf2
  have F2 := (hf1.alloc (.cells #[.bool false, .bool true, .bool true, .bool false] 31)).trans hf2
  have hl2 := b2.lt
  clear hf1 hf2
  generalize w1.heap.size = g1 at *
  go_upto_region 3 with fail
  have b3 : Blk (w2.alloc (.cells #[.bool true, .bool false, .bool false, .bool true] 31)) g1 31 #[.bool false, .bool true, .bool true, .bool false] := Blk.alloc b2 _
  have c3 : Blk (w2.alloc (.cells #[.bool true, .bool false, .bool false, .bool true] 31)) w2.heap.size 31 #[.bool true, .bool false, .bool false, .bool true] := Blk.new _ _ _
  have F3 := F2.alloc (.cells #[.bool true, .bool false, .bool false, .bool true] 31)
  clear F2 b2
  generalize w2.alloc (.cells #[.bool true, .bool false, .bool false, .bool true] 31) = w3 at *
  generalize w2.heap.size = g2 at *
  have x0 : w3.cell? ⟨g1, 0, none⟩ = some (.bool false) := b3.cellv rfl
  have x1 : w3.cell? ⟨g1, 1, none⟩ = some (.bool true) := b3.cellv rfl
  have x2 : w3.cell? ⟨g1, 2, none⟩ = some (.bool true) := b3.cellv rfl
  have x3 : w3.cell? ⟨g1, 3, none⟩ = some (.bool false) := b3.cellv rfl
  have y0 : w3.cell? ⟨g2, 0, none⟩ = some (.bool true) := c3.cellv rfl
  have y1 : w3.cell? ⟨g2, 1, none⟩ = some (.bool false) := c3.cellv rfl
  have y2 : w3.cell? ⟨g2, 2, none⟩ = some (.bool false) := c3.cellv rfl
  have y3 : w3.cell? ⟨g2, 3, none⟩ = some (.bool true) := c3.cellv rfl
  clear b3 c3
  go_wp2_with fail
  refine (ex_sdiv _).mono ?_
  rintro e w4 ⟨rfl, rfl⟩
  go_wp2_with fail
  refine (ex_udiv _).mono ?_
  rintro e w4 ⟨rfl, rfl⟩
  go_wp2_with fail
  refine (ex_field _).mono ?_
  rintro e w4 ⟨rfl, rfl⟩
  go_wp2_with fail
  go_ret
  exact ⟨by first | rfl | simp [*], F3⟩
end Go.Proofs.Ytbhpakjflcmnoaa
