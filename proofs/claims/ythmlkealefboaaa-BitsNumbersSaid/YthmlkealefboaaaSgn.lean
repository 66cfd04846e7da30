/- A number with a sign: the plain law. -/
import Derived.Test.YthmlkealefboaaaLTurns
namespace Go.Proofs.Ythmlkealefboaaa
open Go.RowKit
set_option linter.unusedVariables false

/-- A number with its highest bit of m spread. -/
def sgN (x u : Nat) : Nat := x * 2 ^ u % 2 ^ 64 / 2 ^ u + (if (x * 2 ^ u % 2 ^ 64).testBit 63 = true then (2 ^ u - 1) * 2 ^ (64 - u) else 0)
theorem sg_low (x m u : Nat) (hu : m + u = 64) : x * 2 ^ u % 2 ^ 64 / 2 ^ u = x % 2 ^ m := by
  have h : 2 ^ 64 = 2 ^ m * 2 ^ u := by rw [← Nat.pow_add, hu]
  rw [h, Nat.mul_mod_mul_right, Nat.mul_div_cancel _ (Nat.two_pow_pos u)]
theorem sg_top (x m u : Nat) (hm : 1 ≤ m) (hu : m + u = 64) : (x * 2 ^ u % 2 ^ 64).testBit 63 = x.testBit (m - 1) := by
  rw [Nat.testBit_mod_two_pow, Nat.mul_comm, Nat.testBit_two_pow_mul]
  have e : 63 - u = m - 1 := by omega
  simp [show u ≤ 63 by omega, e]
theorem sg_bit (x m u k : Nat) (hm : 1 ≤ m) (hu : m + u = 64) (hk : k < 64) : (sgN x u).testBit k = x.testBit (min k (m - 1)) := by
  unfold sgN
  rw [sg_low x m u hu, sg_top x m u hm hu]
  have e : 64 - u = m := by omega
  rw [e]
  have hl := Nat.mod_lt x (Nat.two_pow_pos m)
  by_cases hb : x.testBit (m - 1) = true
  · rw [if_pos hb, Nat.mul_comm, Nat.add_comm, Nat.two_pow_add_eq_or_of_lt hl, Nat.testBit_or, Nat.testBit_two_pow_mul, Nat.testBit_two_pow_sub_one, Nat.testBit_mod_two_pow]
    by_cases h : k < m
    · have : min k (m - 1) = k := by omega
      rw [this]
      simp [h, show ¬ m ≤ k by omega]
    · have : min k (m - 1) = m - 1 := by omega
      rw [this, hb]
      simp [h, show m ≤ k by omega, show k - m < u by omega]
  · rw [if_neg hb, Nat.add_zero, Nat.testBit_mod_two_pow]
    by_cases h : k < m
    · have : min k (m - 1) = k := by omega
      rw [this]
      simp [h]
    · have : min k (m - 1) = m - 1 := by omega
      rw [this]
      simp [h]
      simpa using hb
theorem sg_lt (x m u : Nat) (hm : 1 ≤ m) (hu : m + u = 64) : sgN x u < 2 ^ 64 := by
  unfold sgN
  rw [sg_low x m u hu]
  have e : 64 - u = m := by omega
  have hl := Nat.mod_lt x (Nat.two_pow_pos m)
  have h : 2 ^ 64 = 2 ^ u * 2 ^ m := by rw [← Nat.pow_add]; congr 1; omega
  have h2 : (2 ^ u - 1) * 2 ^ m = 2 ^ 64 - 2 ^ m := by rw [Nat.sub_mul, Nat.one_mul, ← h]
  have h3 : 2 ^ m ≤ 2 ^ 64 := Nat.pow_le_pow_right (by omega) (by omega)
  rw [e]
  split
  · rw [h2]; omega
  · omega
theorem sg_hi (X A B T : Int) (hB : 0 < B) (hA : 0 < A) (hT : T = A * B) (h0 : 0 ≤ X) (h1 : X < T) : ((X - T) / B) % T = X / B + (T - A) := by
  have e : (X - T) / B = X / B - A := by
    rw [hT, Int.sub_eq_add_neg, ← Int.neg_mul, Int.add_mul_ediv_right _ _ (by omega), ← Int.sub_eq_add_neg]
  have hd1 : X / B < A := Int.ediv_lt_of_lt_mul hB (by rw [← hT]; exact h1)
  have hd0 : 0 ≤ X / B := Int.ediv_nonneg h0 (by omega)
  have hle : A ≤ T := by rw [hT]; have := Int.mul_le_mul_of_nonneg_left (show (1 : Int) ≤ B by omega) (show 0 ≤ A by omega); rw [Int.mul_one] at this; exact this
  rw [e, ← Int.add_emod_right, Int.emod_eq_of_lt (by omega) (by omega)]
  omega
theorem sg_lo (X B T : Int) (hB : 0 < B) (h0 : 0 ≤ X) (h1 : X < T) : (X / B) % T = X / B := by
  have hd0 : 0 ≤ X / B := Int.ediv_nonneg h0 (by omega)
  have hd1 : X / B ≤ X := Int.ediv_le_self _ h0
  exact Int.emod_eq_of_lt hd0 (by omega)
theorem w64_hi (X : Nat) (h : X / 9223372036854775808 = 1) : wrap64 (X : Int) = (X : Int) - 18446744073709551616 := by unfold wrap64; omega
theorem w64_lo (X : Nat) (h : X / 9223372036854775808 = 0) : wrap64 (X : Int) = (X : Int) := by unfold wrap64; omega
theorem two64 (u : Nat) (hu : u ≤ 64) : (18446744073709551616 : Int) = 2 ^ (64 - u) * 2 ^ u := by
  rw [← Int.pow_add, show 64 - u + u = 64 by omega]; decide
theorem sg_same (x m u : Nat) (hm : 1 ≤ m) (hu : m + u = 64) (hx : x < 18446744073709551616) : signedV (x : Int) u = (sgN x u : Int) := by
  unfold signedV
  obtain ⟨X, hX⟩ : ∃ X, X = x * 2 ^ u % 18446744073709551616 := ⟨_, rfl⟩
  have e1 : IntKind.u64.wrap ((x : Int) * 2 ^ u) = (X : Int) := by rw [IntKind.wrap_u64, powN, hX, Int.natCast_emod, Int.natCast_mul]; rfl
  have hXl : X < 18446744073709551616 := by rw [hX]; exact Nat.mod_lt _ (by decide)
  have es : sgN x u = X / 2 ^ u + (if X.testBit 63 = true then (2 ^ u - 1) * 2 ^ (64 - u) else 0) := by
    have h : (2 : Nat) ^ 64 = 18446744073709551616 := by decide
    unfold sgN
    rw [h, ← hX]
  rw [e1, es, Nat.testBit_eq_decide_div_mod_eq]
  have h63 : (2 : Nat) ^ 63 = 9223372036854775808 := by decide
  rw [h63]
  have h64 := two64 u (by omega)
  have hp := pwp u
  have hp2 := pwp (64 - u)
  have ed : ((X / 2 ^ u : Nat) : Int) = (X : Int) / 2 ^ u := by rw [Int.natCast_ediv, ← powN]
  by_cases hb : X / 9223372036854775808 = 1
  · have hb2 : X / 9223372036854775808 % 2 = 1 := by omega
    rw [if_pos (by rw [hb]; rfl), w64_hi X hb, IntKind.wrap_u64, sg_hi (X : Int) (2 ^ (64 - u)) (2 ^ u) 18446744073709551616 hp hp2 h64 (Int.natCast_nonneg X) (by omega), Int.natCast_add, ed]
    have e3 : (((2 ^ u - 1) * 2 ^ (64 - u) : Nat) : Int) = 18446744073709551616 - 2 ^ (64 - u) := by
      have h1 : ((1 : Nat) : Int) = 1 := rfl
      rw [Int.natCast_mul, Int.natCast_sub (Nat.two_pow_pos u), ← powN, ← powN, h1, Int.sub_mul, Int.one_mul, Int.mul_comm ((2 : Int) ^ u), ← h64]
    rw [e3]
  · have hb0 : X / 9223372036854775808 = 0 := by omega
    rw [if_neg (by rw [hb0]; decide), Nat.add_zero, w64_lo X hb0, IntKind.wrap_u64, sg_lo (X : Int) (2 ^ u) 18446744073709551616 hp (Int.natCast_nonneg X) (by omega), ed]
end Go.Proofs.Ythmlkealefboaaa
