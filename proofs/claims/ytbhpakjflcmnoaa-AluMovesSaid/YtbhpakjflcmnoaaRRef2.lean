/- Contracts of the reference's Reckon, kind by kind. -/
import Derived.Test.YtbhpakjflcmnoaaRRef
namespace Go.Proofs.Ytbhpakjflcmnoaa
open Go.RowKit
set_option linter.unusedVariables false

theorem top_div (a : Int) (a0 : 0 ≤ a) (a1 : a ≤ 18446744073709551615) : a / 9223372036854775808 = 0 ∨ a / 9223372036854775808 = 1 := by omega
theorem div_same (a b : Int) (a0 : 0 ≤ a) (a1 : a ≤ 18446744073709551615) (b0 : 0 ≤ b) (b1 : b ≤ 18446744073709551615) : divF a b = sdF a b := by
  unfold divF sdF posA
  by_cases hb : b = 0
  · simp [hb]
  rw [if_neg hb, if_neg hb]
  have hq : ∀ x y : Int, 0 ≤ x → 0 < y → 0 ≤ x / y ∧ x / y ≤ x := fun x y hx hy => ⟨Int.ediv_nonneg hx (by omega), Int.ediv_le_self _ hx⟩
  rcases top_div a a0 a1 with ha | ha <;> rcases top_div b b0 b1 with hc | hc
  · have wa : wrap64 a = a := by unfold wrap64; omega
    have wb : wrap64 b = b := by unfold wrap64; omega
    rw [wa, wb, if_neg (by omega : ¬ b = -1), if_pos (by omega), if_neg (by omega), if_neg (by omega), Int.tdiv_eq_ediv_of_nonneg a0]
    obtain ⟨q0, q1⟩ := hq a b a0 (by omega)
    have : wrap64 (a / b) = a / b := by unfold wrap64; omega
    rw [this, IntKind.wrap_u64]
    omega
  · have wa : wrap64 a = a := by unfold wrap64; omega
    have wb : wrap64 b = b - 18446744073709551616 := by unfold wrap64; omega
    have nb : IntKind.u64.wrap (-b) = 18446744073709551616 - b := by rw [IntKind.wrap_u64]; omega
    rw [if_neg (by omega : ¬ a / 9223372036854775808 = b / 9223372036854775808), if_neg (by omega : ¬ a / 9223372036854775808 = 1), if_pos hc, nb, wb, wa]
    by_cases h1 : b = 18446744073709551615
    · rw [if_pos (by omega), h1]
      simp
    · rw [if_neg (by omega)]
      have e : b - 18446744073709551616 = -(18446744073709551616 - b) := by omega
      rw [e, Int.tdiv_neg, Int.tdiv_eq_ediv_of_nonneg a0]
      obtain ⟨q0, q1⟩ := hq a (18446744073709551616 - b) a0 (by omega)
      generalize a / (18446744073709551616 - b) = q at *
      have : wrap64 (-q) = -q := by unfold wrap64; omega
      rw [this]
  · have wa : wrap64 a = a - 18446744073709551616 := by unfold wrap64; omega
    have wb : wrap64 b = b := by unfold wrap64; omega
    have na : IntKind.u64.wrap (-a) = 18446744073709551616 - a := by rw [IntKind.wrap_u64]; omega
    rw [if_neg (by omega : ¬ a / 9223372036854775808 = b / 9223372036854775808), if_pos ha, if_neg (by omega : ¬ b / 9223372036854775808 = 1), na, wa, wb, if_neg (by omega)]
    have e : a - 18446744073709551616 = -(18446744073709551616 - a) := by omega
    rw [e, Int.neg_tdiv, Int.tdiv_eq_ediv_of_nonneg (by omega)]
    obtain ⟨q0, q1⟩ := hq (18446744073709551616 - a) b (by omega) (by omega)
    generalize (18446744073709551616 - a) / b = q at *
    have : wrap64 (-q) = -q := by unfold wrap64; omega
    rw [this]
  · have wa : wrap64 a = a - 18446744073709551616 := by unfold wrap64; omega
    have wb : wrap64 b = b - 18446744073709551616 := by unfold wrap64; omega
    have na : IntKind.u64.wrap (-a) = 18446744073709551616 - a := by rw [IntKind.wrap_u64]; omega
    have nb : IntKind.u64.wrap (-b) = 18446744073709551616 - b := by rw [IntKind.wrap_u64]; omega
    rw [if_pos (by omega : a / 9223372036854775808 = b / 9223372036854775808), if_pos ha, if_pos hc, na, nb, wa, wb]
    by_cases h1 : b = 18446744073709551615
    · rw [if_pos (by omega), h1]
      simp
    · rw [if_neg (by omega)]
      have e : a - 18446744073709551616 = -(18446744073709551616 - a) := by omega
      have e2 : b - 18446744073709551616 = -(18446744073709551616 - b) := by omega
      rw [e, e2, Int.neg_tdiv, Int.tdiv_neg, Int.neg_neg, Int.tdiv_eq_ediv_of_nonneg (by omega)]
      have h2 : 2 ≤ 18446744073709551616 - b := by omega
      have h3 : 18446744073709551616 - a ≤ 9223372036854775808 := by omega
      have q0 : 0 ≤ (18446744073709551616 - a) / (18446744073709551616 - b) := Int.ediv_nonneg (by omega) (by omega)
      have q1 : (18446744073709551616 - a) / (18446744073709551616 - b) < 9223372036854775808 := by
        apply Int.ediv_lt_of_lt_mul (by omega)
        have := Int.mul_le_mul_of_nonneg_left h2 (show (0 : Int) ≤ 9223372036854775808 by omega)
        omega
      generalize (18446744073709551616 - a) / (18446744073709551616 - b) = q at *
      have : wrap64 q = q := by unfold wrap64; omega
      rw [this, IntKind.wrap_u64]
      omega
theorem sar_same (a : Int) (s : Nat) (hs : s < 64) (a0 : 0 ≤ a) (a1 : a ≤ 18446744073709551615) :
    IntKind.u64.wrap (wrap64 a / 2 ^ s) = if a / 9223372036854775808 = 1 then sarN a s else a / 2 ^ s := by
  rcases top_div a a0 a1 with ha | ha
  · rw [if_neg (by omega)]
    have wa : wrap64 a = a := by unfold wrap64; omega
    rw [wa, IntKind.wrap_u64]
    have := shr_rng a s a0 a1
    omega
  · rw [if_pos ha]
    have wa : wrap64 a = a - 18446744073709551616 := by unfold wrap64; omega
    have hp := pwp s
    have e : sarN a s = (a - 18446744073709551616) / 2 ^ s + 18446744073709551616 := by
      unfold sarN
      have : a + (2 ^ s - 1) * 18446744073709551616 = (a - 18446744073709551616) + 18446744073709551616 * 2 ^ s := by
        generalize (2 : Int) ^ s = p
        omega
      rw [this, Int.add_mul_ediv_right _ _ (by omega)]
    have r := sar_rng a s a0 a1
    rw [wa, IntKind.wrap_u64]
    omega
theorem xor_top (a : Int) (a0 : 0 ≤ a) (a1 : a ≤ 18446744073709551615) : bits .xor .u64 a 9223372036854775808 = IntKind.u64.wrap (a + 9223372036854775808) := by
  obtain ⟨n, rfl⟩ : ∃ n : Nat, a = (n : Int) := ⟨a.toNat, by omega⟩
  have e := xorN n 9223372036854775808 (by omega) (by decide)
  have e3 : ((9223372036854775808 : Nat) : Int) = 9223372036854775808 := rfl
  rw [e3] at e
  rw [e, IntKind.wrap_u64]
  have key : n ^^^ 9223372036854775808 = if n < 9223372036854775808 then n + 9223372036854775808 else n - 9223372036854775808 := by
    split
    · rename_i h
      have := Nat.two_pow_add_eq_or_of_lt (i := 63) (b := n) (by omega) 1
      have hx : n ^^^ 2 ^ 63 = n ||| 2 ^ 63 := by
        apply Nat.eq_of_testBit_eq
        intro i
        rw [Nat.testBit_xor, Nat.testBit_or, Nat.testBit_two_pow]
        by_cases hi : 63 = i
        · subst hi
          rw [Nat.testBit_lt_two_pow h]
          rfl
        · simp [hi]
      have h63 : (9223372036854775808 : Nat) = 2 ^ 63 := rfl
      rw [h63, hx, Nat.or_comm]
      rw [Nat.mul_one] at this
      rw [← this, Nat.add_comm]
    · rename_i h
      obtain ⟨m, rfl⟩ : ∃ m, n = 2 ^ 63 * 1 + m := ⟨n - 2 ^ 63, by omega⟩
      have hm : m < 2 ^ 63 := by omega
      have := Nat.two_pow_add_eq_or_of_lt hm 1
      have h63 : (9223372036854775808 : Nat) = 2 ^ 63 := rfl
      rw [this, h63]
      have hx : (2 ^ 63 * 1 ||| m) ^^^ 2 ^ 63 = m := by
        rw [Nat.mul_one]
        apply Nat.eq_of_testBit_eq
        intro i
        rw [Nat.testBit_xor, Nat.testBit_or, Nat.testBit_two_pow]
        by_cases hi : 63 = i
        · subst hi
          rw [Nat.testBit_lt_two_pow hm]
          rfl
        · simp [hi]
      rw [hx, ← this]
      omega
  rw [key]
  split <;> omega
theorem below_ok (a b : Int) (w : World) (a0 : 0 ≤ a) (a1 : a ≤ 18446744073709551615) (b0 : 0 ≤ b) (b1 : b ≤ 18446744073709551615) : Calls Try.prog 23 #[.int .u64 a, .int .u64 b] w fun e w' => e = .returned (.bool (decide (wrap64 a < wrap64 b))) ∧ w = w' := by
  have hv : decide (wrap64 a < wrap64 b) = decide (IntKind.u64.wrap (a + 9223372036854775808) < IntKind.u64.wrap (b + 9223372036854775808)) := by
    rw [decide_eq_decide, IntKind.wrap_u64, IntKind.wrap_u64]
    unfold wrap64
    omega
  rw [hv]
  have e1 := xor_top a a0 a1
  have e2 := xor_top b b0 b1
  rw [← e1, ← e2]
  clear hv e1 e2
  go_enter Try.func23, Try.ntmps23
  go_wp2
  go_ret
  exact ⟨rfl, rfl⟩
theorem shl_step (a : Int) (k : Nat) : IntKind.u64.wrap (IntKind.u64.wrap (a * 2 ^ k) + IntKind.u64.wrap (a * 2 ^ k)) = IntKind.u64.wrap (a * 2 ^ (k + 1)) := by
  rw [IntKind.wrap_u64, IntKind.wrap_u64, IntKind.wrap_u64, pw, ← Int.mul_assoc, Int.mul_comm a 2, Int.mul_assoc]
  omega
set_option maxHeartbeats 1000000 in
theorem rreckon_1 (a b : Int) (w : World) (a0 : 0 ≤ a) (a1 : a ≤ 18446744073709551615) (b0 : 0 ≤ b) (b1 : b ≤ 18446744073709551615) : Calls Try.prog 11 #[.int .i64 1, .int .u64 a, .int .u64 b] w fun e w' => e = .returned (.tuple #[.int .u64 (opV 1 a b), .bool true]) ∧ w = w' := by
  go_enter Try.func11, Try.ntmps11
  go_wp2
  all_goals go_ret2
  all_goals exact ⟨by rfl, rfl⟩
set_option maxHeartbeats 1000000 in
theorem rreckon_2 (a b : Int) (w : World) (a0 : 0 ≤ a) (a1 : a ≤ 18446744073709551615) (b0 : 0 ≤ b) (b1 : b ≤ 18446744073709551615) : Calls Try.prog 11 #[.int .i64 2, .int .u64 a, .int .u64 b] w fun e w' => e = .returned (.tuple #[.int .u64 (opV 2 a b), .bool true]) ∧ w = w' := by
  go_enter Try.func11, Try.ntmps11
  go_wp2
  all_goals go_ret2
  all_goals exact ⟨by rfl, rfl⟩
set_option maxHeartbeats 1000000 in
theorem rreckon_3 (a b : Int) (w : World) (a0 : 0 ≤ a) (a1 : a ≤ 18446744073709551615) (b0 : 0 ≤ b) (b1 : b ≤ 18446744073709551615) : Calls Try.prog 11 #[.int .i64 3, .int .u64 a, .int .u64 b] w fun e w' => e = .returned (.tuple #[.int .u64 (opV 3 a b), .bool true]) ∧ w = w' := by
  go_enter Try.func11, Try.ntmps11
  go_wp2
  all_goals go_ret2
  all_goals exact ⟨by rfl, rfl⟩
set_option maxHeartbeats 1000000 in
theorem rreckon_4 (a b : Int) (w : World) (a0 : 0 ≤ a) (a1 : a ≤ 18446744073709551615) (b0 : 0 ≤ b) (b1 : b ≤ 18446744073709551615) : Calls Try.prog 11 #[.int .i64 4, .int .u64 a, .int .u64 b] w fun e w' => e = .returned (.tuple #[.int .u64 (opV 4 a b), .bool true]) ∧ w = w' := by
  go_enter Try.func11, Try.ntmps11
  go_wp2
  all_goals go_ret2
  all_goals exact ⟨by rfl, rfl⟩
set_option maxHeartbeats 1000000 in
theorem rreckon_5 (a b : Int) (w : World) (a0 : 0 ≤ a) (a1 : a ≤ 18446744073709551615) (b0 : 0 ≤ b) (b1 : b ≤ 18446744073709551615) : Calls Try.prog 11 #[.int .i64 5, .int .u64 a, .int .u64 b] w fun e w' => e = .returned (.tuple #[.int .u64 (opV 5 a b), .bool true]) ∧ w = w' := by
  go_enter Try.func11, Try.ntmps11
  go_wp2
  all_goals go_ret2
  all_goals exact ⟨by rfl, rfl⟩
set_option maxHeartbeats 1000000 in
theorem rreckon_6 (a b : Int) (w : World) (a0 : 0 ≤ a) (a1 : a ≤ 18446744073709551615) (b0 : 0 ≤ b) (b1 : b ≤ 18446744073709551615) : Calls Try.prog 11 #[.int .i64 6, .int .u64 a, .int .u64 b] w fun e w' => e = .returned (.tuple #[.int .u64 (opV 6 a b), .bool true]) ∧ w = w' := by
  go_enter Try.func11, Try.ntmps11
  go_wp2
  all_goals go_ret2
  all_goals exact ⟨by rfl, rfl⟩
set_option maxHeartbeats 1000000 in
theorem rreckon_7 (a b : Int) (w : World) (a0 : 0 ≤ a) (a1 : a ≤ 18446744073709551615) (b0 : 0 ≤ b) (b1 : b ≤ 18446744073709551615) : Calls Try.prog 11 #[.int .i64 7, .int .u64 a, .int .u64 b] w fun e w' => e = .returned (.tuple #[.int .u64 (opV 7 a b), .bool true]) ∧ w = w' := by
  by_cases h : b = 0
  · have hv : opV 7 a b = 0 := by simp [opV, h]
    rw [hv]
    have h' : (b == 0) = true := by simp [h]
    clear hv
    go_enter Try.func11, Try.ntmps11
    go_wp2
    all_goals go_ret2
    all_goals exact ⟨by rfl, rfl⟩
  · have hv : opV 7 a b = a / b := by simp [opV, h]
    rw [hv]
    have h' : (b == 0) = false := by simp [h]
    clear hv
    go_enter Try.func11, Try.ntmps11
    go_wp2
    all_goals go_ret2
    all_goals exact ⟨by rfl, rfl⟩
set_option maxHeartbeats 1000000 in
theorem rreckon_8 (a b : Int) (w : World) (a0 : 0 ≤ a) (a1 : a ≤ 18446744073709551615) (b0 : 0 ≤ b) (b1 : b ≤ 18446744073709551615) : Calls Try.prog 11 #[.int .i64 8, .int .u64 a, .int .u64 b] w fun e w' => e = .returned (.tuple #[.int .u64 (opV 8 a b), .bool true]) ∧ w = w' := by
  have hv : opV 8 a b = divF a b := (div_same a b a0 a1 b0 b1).symm
  rw [hv]
  clear hv
  go_enter Try.func11, Try.ntmps11
  go_wp2_with fail
  refine (divided_ok a b _ a0 a1 b0 b1).mono ?_
  rintro e w2 ⟨rfl, rfl⟩
  go_wp2_with fail
  all_goals go_ret2
  all_goals exact ⟨by rfl, rfl⟩
set_option maxHeartbeats 1000000 in
theorem rreckon_9 (a b : Int) (w : World) (a0 : 0 ≤ a) (a1 : a ≤ 18446744073709551615) (b0 : 0 ≤ b) (b1 : b ≤ 18446744073709551615) : Calls Try.prog 11 #[.int .i64 9, .int .u64 a, .int .u64 b] w fun e w' => e = .returned (.tuple #[.int .u64 (opV 9 a b), .bool true]) ∧ w = w' := by
  have hv : opV 9 a b = IntKind.u64.wrap (a * 2 ^ sh b) := rfl
  rw [hv]
  clear hv
  have hs : b % 64 = (sh b : Int) := by unfold sh; omega
  have hlt := sh_lt b
  generalize sh b = s at *
  go_enter Try.func11, Try.ntmps11
  go_wp2_with fail
  go_loop [1, 9] (fun x i => ∃ k : Nat, k ≤ s ∧ i = .int .i64 k ∧ x = .int .u64 (IntKind.u64.wrap (a * 2 ^ k))) (fun _ i => 64 - (intOf i).toNat)
  case atStart => exact ⟨0, by omega, rfl, by rw [Int.pow_zero, Int.mul_one, IntKind.wrap_u64, Int.emod_eq_of_lt a0 (by omega)]⟩
  case round =>
    obtain ⟨k, hk, rfl, rfl⟩ := hrel
    by_cases hlt2 : k < s
    · have hl : ((k : Int) < (s : Int)) := by omega
      have hdec : decide ((k : Int) < (s : Int)) = true := by simpa using hl
      go_wp2
      all_goals exact ⟨⟨k + 1, by omega, by simp, by rw [shl_step]⟩, by simp [intOf]; omega⟩
    · have he : k = s := by omega
      subst he
      go_wp2
      all_goals go_ret2
      all_goals exact ⟨by rfl, rfl⟩
set_option maxHeartbeats 1000000 in
theorem rreckon_10 (a b : Int) (w : World) (a0 : 0 ≤ a) (a1 : a ≤ 18446744073709551615) (b0 : 0 ≤ b) (b1 : b ≤ 18446744073709551615) : Calls Try.prog 11 #[.int .i64 10, .int .u64 a, .int .u64 b] w fun e w' => e = .returned (.tuple #[.int .u64 (opV 10 a b), .bool true]) ∧ w = w' := by
  have hv : opV 10 a b = a / 2 ^ sh b := rfl
  rw [hv]
  clear hv
  have hs : b % 64 = (sh b : Int) := by unfold sh; omega
  have hlt := sh_lt b
  generalize sh b = s at *
  go_enter Try.func11, Try.ntmps11
  go_wp2_with fail
  refine (turned_0 a s _ hlt a0 a1).mono ?_
  rintro e w2 ⟨rfl, rfl⟩
  go_wp2_with fail
  all_goals go_ret2
  all_goals exact ⟨by rfl, rfl⟩
set_option maxHeartbeats 1000000 in
theorem rreckon_11 (a b : Int) (w : World) (a0 : 0 ≤ a) (a1 : a ≤ 18446744073709551615) (b0 : 0 ≤ b) (b1 : b ≤ 18446744073709551615) : Calls Try.prog 11 #[.int .i64 11, .int .u64 a, .int .u64 b] w fun e w' => e = .returned (.tuple #[.int .u64 (opV 11 a b), .bool true]) ∧ w = w' := by
  have hs : b % 64 = (sh b : Int) := by unfold sh; omega
  have hlt := sh_lt b
  have hv : opV 11 a b = if a / 9223372036854775808 = 1 then sarN a (sh b) else a / 2 ^ sh b := sar_same a (sh b) hlt a0 a1
  rcases top_div a a0 a1 with ha | ha
  · rw [if_neg (by omega)] at hv
    rw [hv]
    clear hv
    generalize sh b = s at *
    go_enter Try.func11, Try.ntmps11
    go_wp2_with fail
    refine (turned_0 a s _ hlt a0 a1).mono ?_
    rintro e w2 ⟨rfl, rfl⟩
    go_wp2_with fail
    all_goals go_ret2
    all_goals exact ⟨by rfl, rfl⟩
  · rw [if_pos ha] at hv
    rw [hv]
    clear hv
    generalize sh b = s at *
    go_enter Try.func11, Try.ntmps11
    go_wp2_with fail
    refine (turned_1 a s _ hlt a0 a1).mono ?_
    rintro e w2 ⟨rfl, rfl⟩
    go_wp2_with fail
    all_goals go_ret2
    all_goals exact ⟨by rfl, rfl⟩
set_option maxHeartbeats 1000000 in
theorem rreckon_12 (a b : Int) (w : World) (a0 : 0 ≤ a) (a1 : a ≤ 18446744073709551615) (b0 : 0 ≤ b) (b1 : b ≤ 18446744073709551615) : Calls Try.prog 11 #[.int .i64 12, .int .u64 a, .int .u64 b] w fun e w' => e = .returned (.tuple #[.int .u64 (opV 12 a b), .bool true]) ∧ w = w' := by
  have hv : opV 12 a b = rorF a (sh b) := rfl
  rw [hv]
  clear hv
  have hs : b % 64 = (sh b : Int) := by unfold sh; omega
  have hlt := sh_lt b
  generalize sh b = s at *
  go_enter Try.func11, Try.ntmps11
  go_wp2_with fail
  refine (turned_2 a s _ hlt a0 a1).mono ?_
  rintro e w2 ⟨rfl, rfl⟩
  go_wp2_with fail
  all_goals go_ret2
  all_goals exact ⟨by rfl, rfl⟩
set_option maxHeartbeats 1000000 in
theorem rreckon_13 (a b : Int) (w : World) (a0 : 0 ≤ a) (a1 : a ≤ 18446744073709551615) (b0 : 0 ≤ b) (b1 : b ≤ 18446744073709551615) : Calls Try.prog 11 #[.int .i64 13, .int .u64 a, .int .u64 b] w fun e w' => e = .returned (.tuple #[.int .u64 (opV 13 a b), .bool true]) ∧ w = w' := by
  have hv : opV 13 a b = tr (a == b) := rfl
  rw [hv]
  clear hv
  go_enter Try.func11, Try.ntmps11
  go_wp2_with fail
  refine (truth_ok _ _).mono ?_
  rintro e w3 ⟨rfl, rfl⟩
  go_wp2_with fail
  all_goals go_ret2
  all_goals exact ⟨by rfl, rfl⟩
set_option maxHeartbeats 1000000 in
theorem rreckon_14 (a b : Int) (w : World) (a0 : 0 ≤ a) (a1 : a ≤ 18446744073709551615) (b0 : 0 ≤ b) (b1 : b ≤ 18446744073709551615) : Calls Try.prog 11 #[.int .i64 14, .int .u64 a, .int .u64 b] w fun e w' => e = .returned (.tuple #[.int .u64 (opV 14 a b), .bool true]) ∧ w = w' := by
  have hv : opV 14 a b = tr (decide (a < b)) := rfl
  rw [hv]
  clear hv
  go_enter Try.func11, Try.ntmps11
  go_wp2_with fail
  refine (truth_ok _ _).mono ?_
  rintro e w3 ⟨rfl, rfl⟩
  go_wp2_with fail
  all_goals go_ret2
  all_goals exact ⟨by rfl, rfl⟩
set_option maxHeartbeats 1000000 in
theorem rreckon_15 (a b : Int) (w : World) (a0 : 0 ≤ a) (a1 : a ≤ 18446744073709551615) (b0 : 0 ≤ b) (b1 : b ≤ 18446744073709551615) : Calls Try.prog 11 #[.int .i64 15, .int .u64 a, .int .u64 b] w fun e w' => e = .returned (.tuple #[.int .u64 (opV 15 a b), .bool true]) ∧ w = w' := by
  have hv : opV 15 a b = tr (decide (wrap64 a < wrap64 b)) := rfl
  rw [hv]
  clear hv
  go_enter Try.func11, Try.ntmps11
  go_wp2_with fail
  refine (below_ok a b _ a0 a1 b0 b1).mono ?_
  rintro e w2 ⟨rfl, rfl⟩
  go_wp2_with fail
  refine (truth_ok _ _).mono ?_
  rintro e w3 ⟨rfl, rfl⟩
  go_wp2_with fail
  all_goals go_ret2
  all_goals exact ⟨by rfl, rfl⟩
theorem rreckon_bad (k a b : Int) (w : World) (h : k < 1 ∨ 15 < k) : Calls Try.prog 11 #[.int .i64 k, .int .u64 a, .int .u64 b] w fun e w' => e = .returned (.tuple #[.int .u64 0, .bool false]) ∧ w = w' := by
  have h1 : ¬ k = 1 := by omega
  have h2 : ¬ k = 2 := by omega
  have h3 : ¬ k = 3 := by omega
  have h4 : ¬ k = 4 := by omega
  have h5 : ¬ k = 5 := by omega
  have h6 : ¬ k = 6 := by omega
  have h7 : ¬ k = 7 := by omega
  have h8 : ¬ k = 8 := by omega
  have h9 : ¬ k = 9 := by omega
  have h10 : ¬ k = 10 := by omega
  have h11 : ¬ k = 11 := by omega
  have h12 : ¬ k = 12 := by omega
  have h13 : ¬ k = 13 := by omega
  have h14 : ¬ k = 14 := by omega
  have h15 : ¬ k = 15 := by omega
  clear h
  go_enter Try.func11, Try.ntmps11
  go_wp2
  all_goals go_ret2
  all_goals exact ⟨rfl, rfl⟩
theorem rreckon_ok (k : Nat) (a b : Int) (w : World) (k0 : 1 ≤ k) (k1 : k ≤ 15) (a0 : 0 ≤ a) (a1 : a ≤ 18446744073709551615) (b0 : 0 ≤ b) (b1 : b ≤ 18446744073709551615) : Calls Try.prog 11 #[.int .i64 (k : Int), .int .u64 a, .int .u64 b] w fun e w' => e = .returned (.tuple #[.int .u64 (opV k a b), .bool true]) ∧ w = w' := by
  have : k = 1 ∨ k = 2 ∨ k = 3 ∨ k = 4 ∨ k = 5 ∨ k = 6 ∨ k = 7 ∨ k = 8 ∨ k = 9 ∨ k = 10 ∨ k = 11 ∨ k = 12 ∨ k = 13 ∨ k = 14 ∨ k = 15 := by omega
  rcases this with rfl | rfl | rfl | rfl | rfl | rfl | rfl | rfl | rfl | rfl | rfl | rfl | rfl | rfl | rfl
  · exact rreckon_1 a b w a0 a1 b0 b1
  · exact rreckon_2 a b w a0 a1 b0 b1
  · exact rreckon_3 a b w a0 a1 b0 b1
  · exact rreckon_4 a b w a0 a1 b0 b1
  · exact rreckon_5 a b w a0 a1 b0 b1
  · exact rreckon_6 a b w a0 a1 b0 b1
  · exact rreckon_7 a b w a0 a1 b0 b1
  · exact rreckon_8 a b w a0 a1 b0 b1
  · exact rreckon_9 a b w a0 a1 b0 b1
  · exact rreckon_10 a b w a0 a1 b0 b1
  · exact rreckon_11 a b w a0 a1 b0 b1
  · exact rreckon_12 a b w a0 a1 b0 b1
  · exact rreckon_13 a b w a0 a1 b0 b1
  · exact rreckon_14 a b w a0 a1 b0 b1
  · exact rreckon_15 a b w a0 a1 b0 b1
end Go.Proofs.Ytbhpakjflcmnoaa
