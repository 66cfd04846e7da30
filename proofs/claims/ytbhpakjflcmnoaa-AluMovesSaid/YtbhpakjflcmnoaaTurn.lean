/- The contract of the reference's turned. -/
import Derived.Test.YtbhpakjflcmnoaaAlu
namespace Go.Proofs.Ytbhpakjflcmnoaa
open Go.RowKit
set_option linter.unusedVariables false

def sarN (a : Int) (k : Nat) : Int := (a + (2 ^ k - 1) * 18446744073709551616) / 2 ^ k
theorem pw (k : Nat) : (2 : Int) ^ (k + 1) = 2 * 2 ^ k := by rw [Int.pow_succ, Int.mul_comm]
theorem pwp (k : Nat) : (0 : Int) < 2 ^ k := by
  have := Nat.two_pow_pos k
  have e : ((2 ^ k : Nat) : Int) = (2 : Int) ^ k := by rw [Int.natCast_pow]; rfl
  omega
theorem shr_step (a : Int) (k : Nat) : a / 2 ^ k / 2 = a / 2 ^ (k + 1) := by
  rw [Int.ediv_ediv_of_nonneg (Int.le_of_lt (pwp k)), pw, Int.mul_comm]
theorem sar_step (a : Int) (k : Nat) : sarN a k / 2 + 9223372036854775808 = sarN a (k + 1) := by
  unfold sarN
  rw [Int.ediv_ediv_of_nonneg (Int.le_of_lt (pwp k)), pw]
  have h : a + (2 * 2 ^ k - 1) * 18446744073709551616 = (a + (2 ^ k - 1) * 18446744073709551616) + 9223372036854775808 * (2 ^ k * 2) := by
    generalize (2 : Int) ^ k = p
    omega
  rw [h, Int.mul_comm 2 (2 ^ k), Int.add_mul_ediv_right _ _ (by have := pwp k; omega)]
theorem ror_bit (a : Int) (k : Nat) (hk : k < 64) : rorF a k % 2 = a / 2 ^ k % 2 := by
  unfold rorF
  obtain ⟨m, hm⟩ : ∃ m, 64 - k = m + 1 := ⟨63 - k, by omega⟩
  rw [hm, pw]
  have : a % 2 ^ k * (2 * 2 ^ m) = 2 * (a % 2 ^ k * 2 ^ m) := by
    rw [← Int.mul_assoc, Int.mul_comm (a % 2 ^ k) 2, Int.mul_assoc]
  rw [this]
  omega
theorem ror_step (a : Int) (k : Nat) (hk : k < 64) : rorF a k / 2 + (a / 2 ^ k % 2) * 9223372036854775808 = rorF a (k + 1) := by
  unfold rorF
  obtain ⟨m, hm⟩ : ∃ m, 64 - k = m + 1 := ⟨63 - k, by omega⟩
  have hm2 : 64 - (k + 1) = m := by omega
  rw [hm2, hm, pw, ← shr_step a k]
  have h1 : a % 2 ^ k * (2 * 2 ^ m) = 2 * (a % 2 ^ k * 2 ^ m) := by
    rw [← Int.mul_assoc, Int.mul_comm (a % 2 ^ k) 2, Int.mul_assoc]
  rw [h1]
  have h2 : a % 2 ^ (k + 1) = a % 2 ^ k + 2 ^ k * (a / 2 ^ k % 2) := by
    have e1 := Int.mul_ediv_add_emod a (2 ^ k)
    have e2 := Int.mul_ediv_add_emod a (2 ^ (k + 1))
    rw [← shr_step a k, pw] at e2
    have e3 := Int.mul_ediv_add_emod (a / 2 ^ k) 2
    rw [pw]
    generalize hq : a / 2 ^ k = q at *
    generalize hp : (2 : Int) ^ k = p at *
    have e4 : 2 * p * (q / 2) = p * (2 * (q / 2)) := by rw [Int.mul_comm 2 p, Int.mul_assoc]
    have e5 : p * q = p * (2 * (q / 2)) + p * (q % 2) := by rw [← Int.mul_add, e3]
    omega
  rw [h2]
  have h3 : (2 : Int) ^ k * (2 : Int) ^ m = 9223372036854775808 := by
    rw [← Int.pow_add]
    have : k + m = 63 := by omega
    rw [this]; rfl
  have h4 : (a % 2 ^ k + 2 ^ k * (a / 2 ^ k % 2)) * 2 ^ m = a % 2 ^ k * 2 ^ m + (a / 2 ^ k % 2) * 9223372036854775808 := by
    rw [Int.add_mul, ← h3, Int.mul_comm ((2 : Int) ^ k) (a / 2 ^ k % 2), Int.mul_assoc]
  rw [h4]
  omega
theorem shr_rng (a : Int) (k : Nat) (h0 : 0 ≤ a) (h1 : a ≤ 18446744073709551615) : 0 ≤ a / 2 ^ k ∧ a / 2 ^ k ≤ 18446744073709551615 :=
  ⟨Int.ediv_nonneg h0 (Int.le_of_lt (pwp k)), Int.le_trans (Int.ediv_le_self _ h0) h1⟩
theorem sar_rng (a : Int) (k : Nat) (h0 : 0 ≤ a) (h1 : a ≤ 18446744073709551615) : 0 ≤ sarN a k ∧ sarN a k ≤ 18446744073709551615 := by
  unfold sarN
  have hp := pwp k
  have h2 : 0 ≤ ((2 : Int) ^ k - 1) * 18446744073709551616 := Int.mul_nonneg (by omega) (by omega)
  refine ⟨Int.ediv_nonneg (by omega) (by omega), ?_⟩
  have : (a + (2 ^ k - 1) * 18446744073709551616) / 2 ^ k < 18446744073709551616 := by
    apply Int.ediv_lt_of_lt_mul hp
    generalize (2 : Int) ^ k = p at *
    omega
  omega
theorem ror_rng (a : Int) (k : Nat) (hk : k < 64) (h0 : 0 ≤ a) (h1 : a ≤ 18446744073709551615) : 0 ≤ rorF a k ∧ rorF a k ≤ 18446744073709551615 := by
  have e := ror_eq a k hk h0 h1
  rw [← e]
  obtain ⟨n, rfl⟩ : ∃ n : Nat, a = (n : Int) := ⟨a.toNat, by omega⟩
  have q1 : 0 ≤ IntKind.u64.wrap ((n : Int) * 2 ^ rot k) ∧ IntKind.u64.wrap ((n : Int) * 2 ^ rot k) ≤ 18446744073709551615 := by rw [IntKind.wrap_u64]; omega
  have q2 := shr_rng (n : Int) (64 - rot k) h0 h1
  obtain ⟨x, hx⟩ : ∃ x : Nat, IntKind.u64.wrap ((n : Int) * 2 ^ rot k) = (x : Int) := ⟨(IntKind.u64.wrap ((n : Int) * 2 ^ rot k)).toNat, by omega⟩
  obtain ⟨y, hy⟩ : ∃ y : Nat, (n : Int) / 2 ^ (64 - rot k) = (y : Int) := ⟨((n : Int) / 2 ^ (64 - rot k)).toNat, by omega⟩
  rw [hx] at q1 ⊢
  rw [hy] at q2 ⊢
  have hxl : x < 2 ^ 64 := by omega
  have hyl : y < 2 ^ 64 := by omega
  rw [orN x y hxl hyl]
  have := Nat.or_lt_two_pow hxl hyl
  omega
theorem turned_0 (a : Int) (s : Nat) (w : World) (hs : s < 64) (h0 : 0 ≤ a) (h1 : a ≤ 18446744073709551615) : Calls Try.prog 21 #[.int .u64 a, .int .i64 (s : Int), .int .i64 0] w fun e w' => e = .returned (.int .u64 (a / 2 ^ s)) ∧ w = w' := by
  go_enter Try.func21, Try.ntmps21
  go_wp2_with fail
  go_loop [0, 7] (fun x i => ∃ k : Nat, k ≤ s ∧ i = .int .i64 k ∧ x = .int .u64 (a / 2 ^ k)) (fun _ i => 64 - (intOf i).toNat)
  case atStart => exact ⟨0, by omega, rfl, by simp [sarN, rorF]; try omega⟩
  case round =>
    obtain ⟨k, hk, rfl, rfl⟩ := hrel
    by_cases hlt : k < s
    · have hl : ((k : Int) < (s : Int)) := by omega
      have hdec : decide ((k : Int) < (s : Int)) = true := by simpa using hl
      have hx := shr_rng a k h0 h1
      have hy := shr_rng a (k + 1) h0 h1
      go_wp2
      all_goals exact ⟨⟨k + 1, by omega, by simp, by rw [shr_step]⟩, by simp [intOf]; omega⟩
    · have he : k = s := by omega
      subst he
      go_wp2
      all_goals (go_ret; exact ⟨rfl, rfl⟩)
theorem turned_1 (a : Int) (s : Nat) (w : World) (hs : s < 64) (h0 : 0 ≤ a) (h1 : a ≤ 18446744073709551615) : Calls Try.prog 21 #[.int .u64 a, .int .i64 (s : Int), .int .i64 1] w fun e w' => e = .returned (.int .u64 (sarN a s)) ∧ w = w' := by
  go_enter Try.func21, Try.ntmps21
  go_wp2_with fail
  go_loop [0, 7] (fun x i => ∃ k : Nat, k ≤ s ∧ i = .int .i64 k ∧ x = .int .u64 (sarN a k)) (fun _ i => 64 - (intOf i).toNat)
  case atStart => exact ⟨0, by omega, rfl, by simp [sarN, rorF]; try omega⟩
  case round =>
    obtain ⟨k, hk, rfl, rfl⟩ := hrel
    by_cases hlt : k < s
    · have hl : ((k : Int) < (s : Int)) := by omega
      have hdec : decide ((k : Int) < (s : Int)) = true := by simpa using hl
      have hx := sar_rng a k h0 h1
      have hy := sar_rng a (k + 1) h0 h1
      go_wp2
      all_goals exact ⟨⟨k + 1, by omega, by simp, by rw [sar_step]⟩, by simp [intOf]; omega⟩
    · have he : k = s := by omega
      subst he
      go_wp2
      all_goals (go_ret; exact ⟨rfl, rfl⟩)
theorem turned_2 (a : Int) (s : Nat) (w : World) (hs : s < 64) (h0 : 0 ≤ a) (h1 : a ≤ 18446744073709551615) : Calls Try.prog 21 #[.int .u64 a, .int .i64 (s : Int), .int .i64 2] w fun e w' => e = .returned (.int .u64 (rorF a s)) ∧ w = w' := by
  go_enter Try.func21, Try.ntmps21
  go_wp2_with fail
  go_loop [0, 7] (fun x i => ∃ k : Nat, k ≤ s ∧ i = .int .i64 k ∧ x = .int .u64 (rorF a k)) (fun _ i => 64 - (intOf i).toNat)
  case atStart => exact ⟨0, by omega, rfl, by simp [sarN, rorF]; try omega⟩
  case round =>
    obtain ⟨k, hk, rfl, rfl⟩ := hrel
    by_cases hlt : k < s
    · have hl : ((k : Int) < (s : Int)) := by omega
      have hdec : decide ((k : Int) < (s : Int)) = true := by simpa using hl
      have hx := ror_rng a k (by omega) h0 h1
      have hy := ror_step a k (by omega)
      go_wp2
      all_goals exact ⟨⟨k + 1, by omega, by simp, by rw [ror_bit a k (by omega), ror_step a k (by omega)]⟩, by simp [intOf]; omega⟩
    · have he : k = s := by omega
      subst he
      go_wp2
      all_goals (go_ret; exact ⟨rfl, rfl⟩)
end Go.Proofs.Ytbhpakjflcmnoaa
