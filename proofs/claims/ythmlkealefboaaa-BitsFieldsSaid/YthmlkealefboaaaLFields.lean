/- The walk of BitsFields. -/
import Derived.Test.YthmlkealefboaaaEx
import Derived.Test.YthmlkealefboaaaLBack
import Derived.Test.YthmlkealefboaaaRPut
namespace Go.Proofs.Ythmlkealefboaaa
open Go.RowKit
set_option linter.unusedVariables false

theorem bf_walk (x p m v s f r g : Int) (w : World)
    (hA : ∀ w, Calls Try.prog 11 #[.int .u32 x, .int .i64 p, .int .i64 m] w fun e w' => e = .returned (.tuple #[.int .u32 s, .int .i64 f]) ∧ Fr Nil w w')
    (hB : ∀ w, Calls Try.prog 12 #[.int .u32 x, .int .i64 p, .int .i64 m] w fun e w' => e = .returned (.tuple #[.int .u32 s, .int .i64 f]) ∧ Fr Nil w w')
    (hC : ∀ w, Calls Try.prog 13 #[.int .u32 x, .int .i64 p, .int .i64 m, .int .u32 v] w fun e w' => e = .returned (.tuple #[.int .u32 r, .int .i64 g]) ∧ Fr Nil w w')
    (hD : ∀ w, Calls Try.prog 14 #[.int .u32 x, .int .i64 p, .int .i64 m, .int .u32 v] w fun e w' => e = .returned (.tuple #[.int .u32 r, .int .i64 g]) ∧ Fr Nil w w') :
    Calls Try.prog 3 #[.int .u32 x, .int .i64 p, .int .i64 m, .int .u32 v] w fun e w' => e = .returned (.bool true) ∧ Below w.heap.size w w' := by
  have HA := Lib.hid hA
  have HB := Lib.hid hB
  have HC := Lib.hid hC
  have HD := Lib.hid hD
  clear hA hB hC hD
  go_enter Try.func3, Try.ntmps3
  go_wp2_with fail
  refine (examples_ok _).mono ?_
  rintro e w2 ⟨rfl, hf2⟩
  go_wp2_with fail
  refine (HA.out _).mono ?_
  rintro e w3 ⟨rfl, hf3⟩
  have F3 := hf2.trans hf3
  clear hf2 hf3
  go_wp2_with fail
  refine (HB.out _).mono ?_
  rintro e w4 ⟨rfl, hf4⟩
  have F4 := F3.trans hf4
  clear F3 hf4
  go_wp2_with fail
  refine (HC.out _).mono ?_
  rintro e w5 ⟨rfl, hf5⟩
  have F5 := F4.trans hf5
  clear F4 hf5
  go_wp2_with fail
  refine (HD.out _).mono ?_
  rintro e w6 ⟨rfl, hf6⟩
  have F6 := F5.trans hf6
  clear F5 hf6
  go_wp2_with fail
  go_ret
  exact ⟨by first | rfl | simp [*], F6.below (Nat.le_refl _) (fun _ _ => id)⟩
theorem u32_lt {a : Int} (h : (Lit.int .u32 a).wf = true) : 0 ≤ a ∧ a ≤ 4294967295 := by
  simp only [Lit.wf, Bool.and_eq_true, decide_eq_true_eq] at h
  exact h
theorem bitsFields_walk (a1 a2 a3 a4 : Int) (w : World) (w1 : (Lit.int .u32 a1).wf = true) (w2 : (Lit.int .i64 a2).wf = true) (w3 : (Lit.int .i64 a3).wf = true) (w4 : (Lit.int .u32 a4).wf = true) :
    Calls Try.prog 3 #[.int .u32 a1, .int .i64 a2, .int .i64 a3, .int .u32 a4] w fun e w' => e = .returned (.bool true) ∧ Below w.heap.size w w' := by
  obtain ⟨x0, x1⟩ := u32_lt w1
  obtain ⟨v0, v1⟩ := u32_lt w4
  by_cases h : a2 < 0 ∨ a3 < 1 ∨ 32 < a2 ∨ 32 - a2 < a3
  · exact bf_walk a1 a2 a3 a4 0 1 0 1 w (fun w => field_bad a1 a2 a3 w h) (fun w => rfield_bad a1 a2 a3 w h) (fun w => put_bad a1 a4 a2 a3 w h) (fun w => rput_bad a1 a4 a2 a3 w h)
  · obtain ⟨x, rfl⟩ : ∃ v : Nat, a1 = (v : Int) := ⟨a1.toNat, by omega⟩
    obtain ⟨p, rfl⟩ : ∃ v : Nat, a2 = (v : Int) := ⟨a2.toNat, by omega⟩
    obtain ⟨m, rfl⟩ : ∃ v : Nat, a3 = (v : Int) := ⟨a3.toNat, by omega⟩
    obtain ⟨v, rfl⟩ : ∃ n : Nat, a4 = (n : Int) := ⟨a4.toNat, by omega⟩
    have hm : 1 ≤ m := by omega
    have hq : m + p ≤ 32 := by omega
    have hx : x < 2 ^ 32 := by omega
    have hv : v < 2 ^ 32 := by omega
    have hA := fun w => field_ok (x : Int) p m w x0 x1 hm hq
    have hB := fun w => rfield_ok x p m w hx hm hq
    by_cases hb : v < 2 ^ m
    · refine bf_walk x p m v _ 0 _ 0 w hA hB (fun w => ?_) (fun w => rput_ok x v p m w hx hv hb hm hq)
      have h2 := put_ok (x : Int) (v : Int) p m w x0 x1 v0 v1 (by rw [powN]; omega) hm hq
      rw [putV_nat] at h2
      exact h2
    · exact bf_walk x p m v _ 0 0 2 w hA hB (fun w => put_bits (x : Int) (v : Int) p m w x0 x1 v0 v1 (by rw [powN]; omega) hm hq) (fun w => rput_bits x v p m w hx hv (by omega) hm hq)
end Go.Proofs.Ythmlkealefboaaa
