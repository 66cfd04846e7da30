/- Contracts of package regs. -/
import Derived.Test.YtiaflkabnaofpaaCore
namespace Go.Proofs.Ytiaflkabnaofpaa
open Go.RowKit
set_option linter.unusedVariables false
attribute [local go_sem] cv_34 cv_35 cv_36 cv_37

set_option maxHeartbeats 1000000 in
theorem holds_bad (c : Cr) (n : Int) (w : World) (h : n < 0 ∨ 15 < n) : Calls Try.prog 10 #[.agg (cv c), .int .i64 n] w fun e w' => e = .returned (.tuple #[.bool false, .int .i64 1]) ∧ Fr Nil w w' := by
  by_cases h0 : n < 0
  · go_enter Try.func10, Try.ntmps10
    go_wp2
    go_ret2
    exact ⟨rfl, (Fr.refl _ _).alloc _⟩
  · have h1 : 15 < n := by omega
    clear h
    go_enter Try.func10, Try.ntmps10
    go_wp2
    go_ret2
    exact ⟨rfl, (Fr.refl _ _).alloc _⟩
def tabF (c : Cr) (k : Nat) : Bool :=
  match k with
  | 0 => c.Z | 1 => c.C | 2 => c.N | 3 => c.V | 4 => c.C && !c.Z | 5 => c.N == c.V | 6 => !c.Z && c.N == c.V | _ => true
def holdsF (c : Cr) (n : Nat) : Bool := tabF c (n / 2) != (n % 2 == 1 && n != 15)
theorem and1 (n : Nat) (h : n < 16) : bits .and .i64 (n : Int) 1 = ((n % 2 : Nat) : Int) := by
  have : n = 0 ∨ n = 1 ∨ n = 2 ∨ n = 3 ∨ n = 4 ∨ n = 5 ∨ n = 6 ∨ n = 7 ∨ n = 8 ∨ n = 9 ∨ n = 10 ∨ n = 11 ∨ n = 12 ∨ n = 13 ∨ n = 14 ∨ n = 15 := by omega
  rcases this with rfl | rfl | rfl | rfl | rfl | rfl | rfl | rfl | rfl | rfl | rfl | rfl | rfl | rfl | rfl | rfl <;> decide
def HoldsPost (w : World) (c : Cr) (n : Nat) (e : Ending) (w' : World) : Prop := e = .returned (.tuple #[.bool (holdsF c n), .int .i64 0]) ∧ Fr Nil w w'
set_option maxHeartbeats 1000000 in
theorem holds_0 (c : Cr) (w : World) : Calls Try.prog 10 #[.agg (cv c), .int .i64 0] w (HoldsPost w c 0) := by
  have ha : bits .and .i64 0 1 = 0 := and1 0 (by omega)
  go_enter Try.func10, Try.ntmps10
  go_wp2
  all_goals go_ret2
  all_goals exact ⟨by simp [holdsF, tabF, *], ((Fr.refl _ _).alloc _).alloc _⟩
set_option maxHeartbeats 1000000 in
theorem holds_1 (c : Cr) (w : World) : Calls Try.prog 10 #[.agg (cv c), .int .i64 1] w (HoldsPost w c 1) := by
  have ha : bits .and .i64 1 1 = 1 := and1 1 (by omega)
  go_enter Try.func10, Try.ntmps10
  go_wp2
  all_goals go_ret2
  all_goals exact ⟨by simp [holdsF, tabF, *], ((Fr.refl _ _).alloc _).alloc _⟩
set_option maxHeartbeats 1000000 in
theorem holds_2 (c : Cr) (w : World) : Calls Try.prog 10 #[.agg (cv c), .int .i64 2] w (HoldsPost w c 2) := by
  have ha : bits .and .i64 2 1 = 0 := and1 2 (by omega)
  go_enter Try.func10, Try.ntmps10
  go_wp2
  all_goals go_ret2
  all_goals exact ⟨by simp [holdsF, tabF, *], ((Fr.refl _ _).alloc _).alloc _⟩
set_option maxHeartbeats 1000000 in
theorem holds_3 (c : Cr) (w : World) : Calls Try.prog 10 #[.agg (cv c), .int .i64 3] w (HoldsPost w c 3) := by
  have ha : bits .and .i64 3 1 = 1 := and1 3 (by omega)
  go_enter Try.func10, Try.ntmps10
  go_wp2
  all_goals go_ret2
  all_goals exact ⟨by simp [holdsF, tabF, *], ((Fr.refl _ _).alloc _).alloc _⟩
set_option maxHeartbeats 1000000 in
theorem holds_4 (c : Cr) (w : World) : Calls Try.prog 10 #[.agg (cv c), .int .i64 4] w (HoldsPost w c 4) := by
  have ha : bits .and .i64 4 1 = 0 := and1 4 (by omega)
  go_enter Try.func10, Try.ntmps10
  go_wp2
  all_goals go_ret2
  all_goals exact ⟨by simp [holdsF, tabF, *], ((Fr.refl _ _).alloc _).alloc _⟩
set_option maxHeartbeats 1000000 in
theorem holds_5 (c : Cr) (w : World) : Calls Try.prog 10 #[.agg (cv c), .int .i64 5] w (HoldsPost w c 5) := by
  have ha : bits .and .i64 5 1 = 1 := and1 5 (by omega)
  go_enter Try.func10, Try.ntmps10
  go_wp2
  all_goals go_ret2
  all_goals exact ⟨by simp [holdsF, tabF, *], ((Fr.refl _ _).alloc _).alloc _⟩
set_option maxHeartbeats 1000000 in
theorem holds_6 (c : Cr) (w : World) : Calls Try.prog 10 #[.agg (cv c), .int .i64 6] w (HoldsPost w c 6) := by
  have ha : bits .and .i64 6 1 = 0 := and1 6 (by omega)
  go_enter Try.func10, Try.ntmps10
  go_wp2
  all_goals go_ret2
  all_goals exact ⟨by simp [holdsF, tabF, *], ((Fr.refl _ _).alloc _).alloc _⟩
set_option maxHeartbeats 1000000 in
theorem holds_7 (c : Cr) (w : World) : Calls Try.prog 10 #[.agg (cv c), .int .i64 7] w (HoldsPost w c 7) := by
  have ha : bits .and .i64 7 1 = 1 := and1 7 (by omega)
  go_enter Try.func10, Try.ntmps10
  go_wp2
  all_goals go_ret2
  all_goals exact ⟨by simp [holdsF, tabF, *], ((Fr.refl _ _).alloc _).alloc _⟩
set_option maxHeartbeats 1000000 in
theorem holds_8 (c : Cr) (w : World) : Calls Try.prog 10 #[.agg (cv c), .int .i64 8] w (HoldsPost w c 8) := by
  have ha : bits .and .i64 8 1 = 0 := and1 8 (by omega)
  go_enter Try.func10, Try.ntmps10
  go_wp2
  all_goals go_ret2
  all_goals exact ⟨by simp [holdsF, tabF, *], ((Fr.refl _ _).alloc _).alloc _⟩
set_option maxHeartbeats 1000000 in
theorem holds_9 (c : Cr) (w : World) : Calls Try.prog 10 #[.agg (cv c), .int .i64 9] w (HoldsPost w c 9) := by
  have ha : bits .and .i64 9 1 = 1 := and1 9 (by omega)
  go_enter Try.func10, Try.ntmps10
  go_wp2
  all_goals go_ret2
  all_goals exact ⟨by simp [holdsF, tabF, *], ((Fr.refl _ _).alloc _).alloc _⟩
set_option maxHeartbeats 1000000 in
theorem holds_10 (c : Cr) (w : World) : Calls Try.prog 10 #[.agg (cv c), .int .i64 10] w (HoldsPost w c 10) := by
  have ha : bits .and .i64 10 1 = 0 := and1 10 (by omega)
  go_enter Try.func10, Try.ntmps10
  go_wp2
  all_goals go_ret2
  all_goals exact ⟨by simp [holdsF, tabF, *], ((Fr.refl _ _).alloc _).alloc _⟩
set_option maxHeartbeats 1000000 in
theorem holds_11 (c : Cr) (w : World) : Calls Try.prog 10 #[.agg (cv c), .int .i64 11] w (HoldsPost w c 11) := by
  have ha : bits .and .i64 11 1 = 1 := and1 11 (by omega)
  go_enter Try.func10, Try.ntmps10
  go_wp2
  all_goals go_ret2
  all_goals exact ⟨by simp [holdsF, tabF, *], ((Fr.refl _ _).alloc _).alloc _⟩
set_option maxHeartbeats 1000000 in
theorem holds_12 (c : Cr) (w : World) : Calls Try.prog 10 #[.agg (cv c), .int .i64 12] w (HoldsPost w c 12) := by
  have ha : bits .and .i64 12 1 = 0 := and1 12 (by omega)
  go_enter Try.func10, Try.ntmps10
  go_wp2
  all_goals go_ret2
  all_goals exact ⟨by simp [holdsF, tabF, *], ((Fr.refl _ _).alloc _).alloc _⟩
set_option maxHeartbeats 1000000 in
theorem holds_13 (c : Cr) (w : World) : Calls Try.prog 10 #[.agg (cv c), .int .i64 13] w (HoldsPost w c 13) := by
  have ha : bits .and .i64 13 1 = 1 := and1 13 (by omega)
  go_enter Try.func10, Try.ntmps10
  go_wp2
  all_goals go_ret2
  all_goals exact ⟨by simp [holdsF, tabF, *], ((Fr.refl _ _).alloc _).alloc _⟩
set_option maxHeartbeats 1000000 in
theorem holds_14 (c : Cr) (w : World) : Calls Try.prog 10 #[.agg (cv c), .int .i64 14] w (HoldsPost w c 14) := by
  have ha : bits .and .i64 14 1 = 0 := and1 14 (by omega)
  go_enter Try.func10, Try.ntmps10
  go_wp2
  all_goals go_ret2
  all_goals exact ⟨by simp [holdsF, tabF, *], ((Fr.refl _ _).alloc _).alloc _⟩
set_option maxHeartbeats 1000000 in
theorem holds_15 (c : Cr) (w : World) : Calls Try.prog 10 #[.agg (cv c), .int .i64 15] w (HoldsPost w c 15) := by
  have ha : bits .and .i64 15 1 = 1 := and1 15 (by omega)
  go_enter Try.func10, Try.ntmps10
  go_wp2
  all_goals go_ret2
  all_goals exact ⟨by simp [holdsF, tabF, *], ((Fr.refl _ _).alloc _).alloc _⟩
theorem holds_ok (c : Cr) (n : Nat) (w : World) (h : n < 16) : Calls Try.prog 10 #[.agg (cv c), .int .i64 (n : Int)] w (HoldsPost w c n) := by
  have : n = 0 ∨ n = 1 ∨ n = 2 ∨ n = 3 ∨ n = 4 ∨ n = 5 ∨ n = 6 ∨ n = 7 ∨ n = 8 ∨ n = 9 ∨ n = 10 ∨ n = 11 ∨ n = 12 ∨ n = 13 ∨ n = 14 ∨ n = 15 := by omega
  rcases this with rfl | rfl | rfl | rfl | rfl | rfl | rfl | rfl | rfl | rfl | rfl | rfl | rfl | rfl | rfl | rfl
  · exact holds_0 c w
  · exact holds_1 c w
  · exact holds_2 c w
  · exact holds_3 c w
  · exact holds_4 c w
  · exact holds_5 c w
  · exact holds_6 c w
  · exact holds_7 c w
  · exact holds_8 c w
  · exact holds_9 c w
  · exact holds_10 c w
  · exact holds_11 c w
  · exact holds_12 c w
  · exact holds_13 c w
  · exact holds_14 c w
  · exact holds_15 c w
end Go.Proofs.Ytiaflkabnaofpaa
