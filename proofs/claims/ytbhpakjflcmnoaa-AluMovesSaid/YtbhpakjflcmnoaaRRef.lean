/- Contracts of the reference's Reckon. -/
import Derived.Test.YtbhpakjflcmnoaaTurn
namespace Go.Proofs.Ytbhpakjflcmnoaa
open Go.RowKit
set_option linter.unusedVariables false

theorem truth_ok (b : Bool) (w : World) : Calls Try.prog 22 #[.bool b] w fun e w' => e = .returned (.int .u64 (tr b)) ∧ w = w' := by
  cases b
  · go_enter Try.func22, Try.ntmps22
    go_wp2
    go_ret
    exact ⟨rfl, rfl⟩
  · go_enter Try.func22, Try.ntmps22
    go_wp2
    go_ret
    exact ⟨rfl, rfl⟩
def posA (a : Int) : Int := if a / 9223372036854775808 = 1 then IntKind.u64.wrap (-a) else a
def divF (a b : Int) : Int := if b = 0 then 0 else
  if a / 9223372036854775808 = b / 9223372036854775808 then posA a / posA b else IntKind.u64.wrap (-(posA a / posA b))
set_option maxHeartbeats 1000000 in
theorem divided_ok (a b : Int) (w : World) (a0 : 0 ≤ a) (a1 : a ≤ 18446744073709551615) (b0 : 0 ≤ b) (b1 : b ≤ 18446744073709551615) : Calls Try.prog 20 #[.int .u64 a, .int .u64 b] w fun e w' => e = .returned (.int .u64 (divF a b)) ∧ w = w' := by
  by_cases hb : b = 0
  · have hv : divF a b = 0 := by simp [divF, hb]
    rw [hv]
    have hb' : (b == 0) = true := by simp [hb]
    clear hv
    go_enter Try.func20, Try.ntmps20
    go_wp2
    all_goals go_ret
    all_goals exact ⟨by rfl, rfl⟩
  · have hb' : (b == 0) = false := by simp [hb]
    by_cases ha : a / 9223372036854775808 = 1
    · have ha' : (a / 9223372036854775808 == 1) = true := by simp [ha]
      by_cases hc : b / 9223372036854775808 = 1
      · have hc' : (b / 9223372036854775808 == 1) = true := by simp [hc]
        have hn : (a / 9223372036854775808 != b / 9223372036854775808) = false := by simp [ha, hc]
        have hv : divF a b = IntKind.u64.wrap (-a) / IntKind.u64.wrap (-b) := by simp [divF, posA, hb, ha, hc]
        have hz : ¬ IntKind.u64.wrap (-b) = 0 := by rw [IntKind.wrap_u64]; omega
        have hz' : (IntKind.u64.wrap (-b) == 0) = false := by simpa using hz
        have hr1 : 0 ≤ IntKind.u64.wrap (-a) ∧ IntKind.u64.wrap (-a) ≤ 18446744073709551615 := by rw [IntKind.wrap_u64]; omega
        have hr2 : 0 ≤ IntKind.u64.wrap (-b) ∧ IntKind.u64.wrap (-b) ≤ 18446744073709551615 := by rw [IntKind.wrap_u64]; omega
        rw [hv]
        clear hv
        go_enter Try.func20, Try.ntmps20
        go_wp2
        all_goals go_ret
        all_goals exact ⟨by rfl, rfl⟩
      · have hc' : (b / 9223372036854775808 == 1) = false := by simpa using hc
        have hn : (a / 9223372036854775808 != b / 9223372036854775808) = true := by simp; omega
        have hv : divF a b = IntKind.u64.wrap (-(IntKind.u64.wrap (-a) / b)) := by simp [divF, posA, hb, ha, hc]; omega
        have hr1 : 0 ≤ IntKind.u64.wrap (-a) ∧ IntKind.u64.wrap (-a) ≤ 18446744073709551615 := by rw [IntKind.wrap_u64]; omega
        rw [hv]
        clear hv
        go_enter Try.func20, Try.ntmps20
        go_wp2
        all_goals go_ret
        all_goals exact ⟨by rfl, rfl⟩
    · have ha' : (a / 9223372036854775808 == 1) = false := by simpa using ha
      by_cases hc : b / 9223372036854775808 = 1
      · have hc' : (b / 9223372036854775808 == 1) = true := by simp [hc]
        have hn : (a / 9223372036854775808 != b / 9223372036854775808) = true := by simp; omega
        have hv : divF a b = IntKind.u64.wrap (-(a / IntKind.u64.wrap (-b))) := by simp [divF, posA, hb, ha, hc]; try omega
        have hz : ¬ IntKind.u64.wrap (-b) = 0 := by rw [IntKind.wrap_u64]; omega
        have hz' : (IntKind.u64.wrap (-b) == 0) = false := by simpa using hz
        have hr2 : 0 ≤ IntKind.u64.wrap (-b) ∧ IntKind.u64.wrap (-b) ≤ 18446744073709551615 := by rw [IntKind.wrap_u64]; omega
        rw [hv]
        clear hv
        go_enter Try.func20, Try.ntmps20
        go_wp2
        all_goals go_ret
        all_goals exact ⟨by rfl, rfl⟩
      · have hc' : (b / 9223372036854775808 == 1) = false := by simpa using hc
        have hn : (a / 9223372036854775808 != b / 9223372036854775808) = false := by simp; omega
        have hq : a / 9223372036854775808 = b / 9223372036854775808 := by omega
        have hv : divF a b = a / b := by simp [divF, posA, hb, ha, hc, hq]
        rw [hv]
        clear hv
        go_enter Try.func20, Try.ntmps20
        go_wp2
        all_goals go_ret
        all_goals exact ⟨by rfl, rfl⟩
end Go.Proofs.Ytbhpakjflcmnoaa
