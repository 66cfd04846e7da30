/- Concrete calls of bits.Mask and bits.Parts. -/
import Derived.Test.YthmlkealefboaaaFld
import Derived.WalkMore
namespace Go.Proofs.Ythmlkealefboaaa
open Go.RowKit
set_option linter.unusedVariables false

set_option maxRecDepth 100000 in
set_option maxHeartbeats 2000000 in
theorem results_tmp4 {P : Program} {fn : Func} {p q r s : Tmp} (h : fn.results = #[.tmp p, .tmp q, .tmp r, .tmp s]) (tmps : Array Value) (w : World) :
    (results fn tmps).run P w = .ok (.tuple #[tmps.getD p undef, tmps.getD q undef, tmps.getD r undef, tmps.getD s undef]) w := by
  simp [results, h]
set_option maxRecDepth 100000 in
set_option maxHeartbeats 2000000 in
theorem len_3 (w : World) : Calls Try.prog 24 #[.int .u64 3] w fun e w' => e = .returned (.int .i64 2) ∧ w = w' := by
  go_enter Try.func24, Try.ntmps24
  go_wp2
  go_ret
  exact ⟨by kernel_rfl, rfl⟩
theorem ones_255 (w : World) : Calls Try.prog 26 #[.int .u64 255] w fun e w' => e = .returned (.int .i64 8) ∧ w = w' := by
  go_enter Try.func26, Try.ntmps26
  go_wp2
  go_ret
  exact ⟨by kernel_rfl, rfl⟩
theorem rot_255 (w : World) : Calls Try.prog 25 #[.int .u64 255, .int .i64 32] w fun e w' => e = .returned (.int .u64 1095216660480) ∧ w = w' := by
  have h : bits .and .u64 32 63 = 32 := by decide
  go_enter Try.func25, Try.ntmps25
  go_wp2
  go_ret
  exact ⟨by kernel_rfl, rfl⟩
def row5 (j : Nat) : Int := match j with | 0 => 1 | 1 => 5 | 2 => 85 | 3 => 21845 | 4 => 1431655765 | _ => 6148914691236517205
def wid (j : Nat) : Int := match j with | 0 => 2 | 1 => 4 | 2 => 8 | 3 => 16 | 4 => 32 | _ => 64
set_option maxHeartbeats 2000000 in
theorem mask_60 (w : World) : Calls Try.prog 19 #[.int .i64 0, .int .i64 0, .int .i64 60] w fun e w' => e = .returned (.tuple #[.int .u64 6148914691236517205, .int .i64 0]) ∧ Fr Nil w w' := by
  have q1 : bits .or .i64 0 1 = 1 := by decide
  have q2 : bits .or .i64 0 63 = 63 := by decide
  have q3 : bits .or .i64 60 63 = 63 := by decide
  have q4 : bits .and .i64 (-61) 63 = 3 := by decide
  have q5 : bits .or .i64 0 3 = 3 := by decide
  have q6 : bits .and .i64 60 1 = 0 := by decide
  have q7 : bits .and .i64 0 1 = 0 := by decide
  go_enter Try.func19, Try.ntmps19
  go_wp2_with fail
  refine (len_3 _).mono ?_
  rintro e w2 ⟨rfl, rfl⟩
  go_wp2_with fail
  refine (ror_ok 1 0 2 _ (by omega) (by omega) (by omega) (by omega) (by decide)).mono ?_
  rintro e w2 ⟨rfl, hf⟩
  have hr : rorV 1 (0 % 2) 2 = 1 := by kernel_rfl
  rw [hr]
  have r0 : bits .or .u64 1 4 = 5 := by decide
  have r1 : bits .or .u64 5 80 = 85 := by decide
  have r2 : bits .or .u64 85 21760 = 21845 := by decide
  have r3 : bits .or .u64 21845 1431633920 = 1431655765 := by decide
  have r4 : bits .or .u64 1431655765 6148914689804861440 = 6148914691236517205 := by decide
  go_wp2_with fail
  go_loop [11, 13] (fun o k => ∃ j : Nat, j ≤ 5 ∧ k = .int .i64 (wid j) ∧ o = .int .u64 (row5 j)) (fun _ k => 100 - (intOf k).toNat)
  case atStart => exact ⟨0, by omega, rfl, rfl⟩
  case round =>
    obtain ⟨j, hj, rfl, rfl⟩ := hrel
    have : j = 0 ∨ j = 1 ∨ j = 2 ∨ j = 3 ∨ j = 4 ∨ j = 5 := by omega
    rcases this with rfl | rfl | rfl | rfl | rfl | rfl
    · have e1 : wid 0 = 2 := rfl
      have e2 : row5 0 = 1 := rfl
      rw [e1, e2]
      go_wp2
      exact ⟨⟨1, by omega, rfl, rfl⟩, by simp [intOf]⟩
    · have e1 : wid 1 = 4 := rfl
      have e2 : row5 1 = 5 := rfl
      rw [e1, e2]
      go_wp2
      exact ⟨⟨2, by omega, rfl, rfl⟩, by simp [intOf]⟩
    · have e1 : wid 2 = 8 := rfl
      have e2 : row5 2 = 85 := rfl
      rw [e1, e2]
      go_wp2
      exact ⟨⟨3, by omega, rfl, rfl⟩, by simp [intOf]⟩
    · have e1 : wid 3 = 16 := rfl
      have e2 : row5 3 = 21845 := rfl
      rw [e1, e2]
      go_wp2
      exact ⟨⟨4, by omega, rfl, rfl⟩, by simp [intOf]⟩
    · have e1 : wid 4 = 32 := rfl
      have e2 : row5 4 = 1431655765 := rfl
      rw [e1, e2]
      go_wp2
      exact ⟨⟨5, by omega, rfl, rfl⟩, by simp [intOf]⟩
    · have e1 : wid 5 = 64 := rfl
      have e2 : row5 5 = 6148914691236517205 := rfl
      rw [e1, e2]
      go_wp2
      go_ret2
      exact ⟨rfl, hf⟩
set_option maxRecDepth 100000 in
set_option maxHeartbeats 2000000 in
theorem len_64 (w : World) : Calls Try.prog 24 #[.int .u64 64] w fun e w' => e = .returned (.int .i64 7) ∧ w = w' := by
  go_enter Try.func24, Try.ntmps24
  go_wp2
  go_ret
  exact ⟨by kernel_rfl, rfl⟩
theorem mask_bad (w : World) : Calls Try.prog 19 #[.int .i64 1, .int .i64 0, .int .i64 63] w fun e w' => e = .returned (.tuple #[.int .u64 0, .int .i64 2]) ∧ Fr Nil w w' := by
  have q1 : bits .or .i64 1 1 = 1 := by decide
  have q2 : bits .or .i64 0 63 = 63 := by decide
  have q3 : bits .or .i64 63 63 = 63 := by decide
  have q4 : bits .and .i64 (-64) 63 = 0 := by decide
  have q5 : bits .or .i64 64 0 = 64 := by decide
  have q6 : bits .and .i64 63 63 = 63 := by decide
  go_enter Try.func19, Try.ntmps19
  go_wp2_with fail
  refine (len_64 _).mono ?_
  rintro e w2 ⟨rfl, rfl⟩
  go_wp2_with fail
  go_ret2
  exact ⟨rfl, Fr.refl _ _⟩
set_option maxRecDepth 100000 in
set_option maxHeartbeats 2000000 in
theorem parts_255 (w : World) : Calls Try.prog 21 #[.int .u64 255] w fun e w' => e = .returned (.tuple #[.int .i64 1, .int .i64 0, .int .i64 7, .int .i64 0]) ∧ Fr Nil w w' := by
  have q1 : bits .and .u64 255 18446744073709551615 = 255 := by decide
  go_enter Try.func21, Try.ntmps21
  go_wp2_with fail
  go_step3
  go_wp2_with fail
  go_loop [6] (fun s => s = .int .i64 64) (fun _ => 0)
  case atStart => rfl
  case round =>
    obtain rfl := hrel
    go_wp2_with fail
    refine (rot_255 _).mono ?_
    rintro e w2 ⟨rfl, rfl⟩
    go_wp2_with fail
    refine (ones_255 _).mono ?_
    rintro e w2 ⟨rfl, rfl⟩
    go_wp2_with fail
    go_step3
    go_wp2_with fail
    go_loop [39] (fun s => s = .int .i64 0) (fun _ => 0)
    case atStart => rfl
    case round =>
      obtain rfl := hrel
      go_wp2_with fail
      refine (ror_ok 255 0 64 _ (by omega) (by omega) (by omega) (by omega) (by decide)).mono ?_
      rintro e w2 ⟨rfl, hf⟩
      have hr : rorV 255 (0 % 64) 64 = 255 := by kernel_rfl
      rw [hr]
      go_wp2_with fail
      rw [Exit.noGoto_ret]
      refine bodyPost_ret (results_tmp4 rfl _ _) rfl ?_
      exact ⟨rfl, hf⟩
end Go.Proofs.Ythmlkealefboaaa
