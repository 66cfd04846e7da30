/- The chapter's examples hold. -/
import Derived.Test.YthmlkealefboaaaMsk
namespace Go.Proofs.Ythmlkealefboaaa
open Go.RowKit
set_option linter.unusedVariables false

theorem ex_field (w : World) : Calls Try.prog 11 #[.int .u32 2432697376, .int .i64 10, .int .i64 12] w fun e w' => e = .returned (.tuple #[.int .u32 1, .int .i64 0]) ∧ Fr Nil w w' := by
  have h := field_ok 2432697376 10 12 w (by decide) (by decide) (by decide) (by decide)
  have e : fV 2432697376 10 12 = 1 := by kernel_rfl
  rw [e] at h
  exact h
theorem ex_put (w : World) : Calls Try.prog 13 #[.int .u32 0, .int .i64 5, .int .i64 5, .int .u32 31] w fun e w' => e = .returned (.tuple #[.int .u32 992, .int .i64 0]) ∧ Fr Nil w w' := by
  have h := put_ok 0 31 5 5 w (by decide) (by decide) (by decide) (by decide) (by decide) (by decide) (by decide)
  have e : putV 0 5 5 31 = 992 := by kernel_rfl
  rw [e] at h
  exact h
theorem ex_signed (w : World) : Calls Try.prog 15 #[.int .u64 511, .int .i64 9] w fun e w' => e = .returned (.tuple #[.int .u64 18446744073709551615, .int .i64 0]) ∧ w = w' := by
  have h := signed_ok 511 9 55 w (by decide) (by decide) (by decide) (by decide)
  have e : signedV 511 55 = 18446744073709551615 := by kernel_rfl
  rw [e] at h
  exact h
theorem ex_ror (w : World) : Calls Try.prog 17 #[.int .u64 2, .int .i64 1, .int .i64 4] w fun e w' => e = .returned (.tuple #[.int .u64 1, .int .i64 0]) ∧ Fr Nil w w' := by
  have h := ror_ok 2 1 4 w (by decide) (by decide) (by decide) (by decide) (by decide)
  have e : rorV 2 (1 % 4) 4 = 1 := by kernel_rfl
  rw [e] at h
  exact h
set_option maxHeartbeats 2000000 in
theorem examples_ok (w : World) : Calls Try.prog 10 #[] w fun e w' => e = .returned (.bool true) ∧ Fr Nil w w' := by
  go_enter Try.func10, Try.ntmps10
  go_wp2_with fail
  refine (ex_field _).mono ?_
  rintro e w1 ⟨rfl, hf1⟩
  go_wp2_with fail
  refine (ex_put _).mono ?_
  rintro e w2 ⟨rfl, hf2⟩
  have F2 := hf1.trans hf2
  clear hf1 hf2
  go_wp2_with fail
  refine (ex_signed _).mono ?_
  rintro e w3 ⟨rfl, rfl⟩
  go_wp2_with fail
  refine (ex_ror _).mono ?_
  rintro e w4 ⟨rfl, hf4⟩
  have F4 := F2.trans hf4
  clear F2 hf4
  go_wp2_with fail
  refine (mask_60 _).mono ?_
  rintro e w5 ⟨rfl, hf5⟩
  have F5 := F4.trans hf5
  clear F4 hf5
  go_wp2_with fail
  refine (mask_bad _).mono ?_
  rintro e w6 ⟨rfl, hf6⟩
  have F6 := F5.trans hf6
  clear F5 hf6
  go_wp2_with fail
  refine (parts_255 _).mono ?_
  rintro e w7 ⟨rfl, hf7⟩
  have F7 := F6.trans hf7
  clear F6 hf7
  go_wp2_with fail
  go_ret
  exact ⟨by first | rfl | simp [*], F7⟩
end Go.Proofs.Ythmlkealefboaaa
