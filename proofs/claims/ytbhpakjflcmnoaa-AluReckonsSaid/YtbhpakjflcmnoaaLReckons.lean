/- The walk of AluReckons. -/
import Derived.Test.YtbhpakjflcmnoaaEx
import Derived.Test.YtbhpakjflcmnoaaRRef2
namespace Go.Proofs.Ytbhpakjflcmnoaa
open Go.RowKit
set_option linter.unusedVariables false

theorem u64_rng {a : Int} (h : (Lit.int .u64 a).wf = true) : 0 ≤ a ∧ a ≤ 18446744073709551615 := by
  simp only [Lit.wf, Bool.and_eq_true, decide_eq_true_eq] at h
  exact h
theorem reckons_ok (k a b v : Int) (w : World)
    (hA : ∀ w, Calls Try.prog 10 #[.int .i64 k, .int .u64 a, .int .u64 b] w fun e w' => e = .returned (.tuple #[.int .u64 v, .int .i64 0]) ∧ w = w')
    (hB : ∀ w, Calls Try.prog 11 #[.int .i64 k, .int .u64 a, .int .u64 b] w fun e w' => e = .returned (.tuple #[.int .u64 v, .bool true]) ∧ w = w') :
    Calls Try.prog 3 #[.int .i64 k, .int .u64 a, .int .u64 b] w fun e w' => e = .returned (.bool true) ∧ Below w.heap.size w w' := by
  have HA := Lib.hid hA
  have HB := Lib.hid hB
  clear hA hB
  go_enter Try.func3, Try.ntmps3
  go_wp2_with fail
  refine (examples_ok _).mono ?_
  rintro e w2 ⟨rfl, hf2⟩
  go_wp2_with fail
  refine (HA.out _).mono ?_
  rintro e w3 ⟨rfl, rfl⟩
  go_wp2_with fail
  refine (HB.out _).mono ?_
  rintro e w3 ⟨rfl, rfl⟩
  go_wp2_with fail
  go_ret
  exact ⟨by first | rfl | simp [*], hf2.below (Nat.le_refl _) (fun _ _ => id)⟩
theorem reckons_bad (k a b v : Int) (w : World)
    (hA : ∀ w, Calls Try.prog 10 #[.int .i64 k, .int .u64 a, .int .u64 b] w fun e w' => e = .returned (.tuple #[.int .u64 v, .int .i64 1]) ∧ w = w')
    (hB : ∀ w, Calls Try.prog 11 #[.int .i64 k, .int .u64 a, .int .u64 b] w fun e w' => e = .returned (.tuple #[.int .u64 v, .bool false]) ∧ w = w') :
    Calls Try.prog 3 #[.int .i64 k, .int .u64 a, .int .u64 b] w fun e w' => e = .returned (.bool true) ∧ Below w.heap.size w w' := by
  have HA := Lib.hid hA
  have HB := Lib.hid hB
  clear hA hB
  go_enter Try.func3, Try.ntmps3
  go_wp2_with fail
  refine (examples_ok _).mono ?_
  rintro e w2 ⟨rfl, hf2⟩
  go_wp2_with fail
  refine (HA.out _).mono ?_
  rintro e w3 ⟨rfl, rfl⟩
  go_wp2_with fail
  refine (HB.out _).mono ?_
  rintro e w3 ⟨rfl, rfl⟩
  go_wp2_with fail
  go_ret
  exact ⟨by first | rfl | simp [*], hf2.below (Nat.le_refl _) (fun _ _ => id)⟩
theorem aluReckons_walk (a1 a2 a3 : Int) (w : World) (w1 : (Lit.int .i64 a1).wf = true) (w2 : (Lit.int .u64 a2).wf = true) (w3 : (Lit.int .u64 a3).wf = true) :
    Calls Try.prog 3 #[.int .i64 a1, .int .u64 a2, .int .u64 a3] w fun e w' => e = .returned (.bool true) ∧ Below w.heap.size w w' := by
  obtain ⟨a0, a1'⟩ := u64_rng w2
  obtain ⟨b0, b1⟩ := u64_rng w3
  by_cases h : a1 < 1 ∨ 15 < a1
  · exact reckons_bad a1 a2 a3 0 w (fun w => reckon_bad a1 a2 a3 w h) (fun w => rreckon_bad a1 a2 a3 w h)
  · obtain ⟨k, rfl⟩ : ∃ k : Nat, a1 = (k : Int) := ⟨a1.toNat, by omega⟩
    exact reckons_ok k a2 a3 _ w (fun w => reckon_ok k a2 a3 w (by omega) (by omega) a0 a1' b0 b1) (fun w => rreckon_ok k a2 a3 w (by omega) (by omega) a0 a1' b0 b1)
end Go.Proofs.Ytbhpakjflcmnoaa
