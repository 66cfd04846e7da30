/- Numbers of 64 bits: plain laws. -/
import Derived.WalkKit
set_option linter.unusedSimpArgs false
set_option linter.unusedSectionVars false
namespace Go.Proofs.Ytnmakbippgnekaa
open Go.RowKit
set_option linter.unusedVariables false

theorem bitsN (n m : Nat) (hn : n < 2 ^ 64) (hm : m < 2 ^ 64) : bits .and .u64 (n : Int) (m : Int) = ((n &&& m : Nat) : Int) := by
  have e : bits .and .u64 (n : Int) (m : Int) = IntKind.u64.wrap (((BitVec.ofNat 64 n &&& BitVec.ofNat 64 m).toNat : Nat) : Int) := by
    unfold bits
    simp only [IntKind.bits, BitVec.ofInt_natCast]
    rfl
  rw [e, BitVec.toNat_and, BitVec.toNat_ofNat, BitVec.toNat_ofNat, Nat.mod_eq_of_lt hn, Nat.mod_eq_of_lt hm, IntKind.wrap_u64]
  have : n &&& m ≤ n := Nat.and_le_left
  omega
theorem orN (n m : Nat) (hn : n < 2 ^ 64) (hm : m < 2 ^ 64) : bits .or .u64 (n : Int) (m : Int) = ((n ||| m : Nat) : Int) := by
  have e : bits .or .u64 (n : Int) (m : Int) = IntKind.u64.wrap (((BitVec.ofNat 64 n ||| BitVec.ofNat 64 m).toNat : Nat) : Int) := by
    unfold bits
    simp only [IntKind.bits, BitVec.ofInt_natCast]
    rfl
  have hlt : n ||| m < 2 ^ 64 := Nat.or_lt_two_pow hn hm
  rw [e, BitVec.toNat_or, BitVec.toNat_ofNat, BitVec.toNat_ofNat, Nat.mod_eq_of_lt hn, Nat.mod_eq_of_lt hm, IntKind.wrap_u64]
  omega
theorem powN (k : Nat) : (2 : Int) ^ k = ((2 ^ k : Nat) : Int) := by rw [Int.natCast_pow]; rfl
theorem pw (k : Nat) : (2 : Int) ^ (k + 1) = 2 * 2 ^ k := by rw [Int.pow_succ, Int.mul_comm]
theorem pwp (k : Nat) : (0 : Int) < 2 ^ k := by
  have := Nat.two_pow_pos k
  rw [powN]
  omega
theorem shr_step (a : Int) (k : Nat) : a / 2 ^ k / 2 = a / 2 ^ (k + 1) := by
  rw [Int.ediv_ediv_of_nonneg (Int.le_of_lt (pwp k)), pw, Int.mul_comm]
theorem shr_rng (a : Int) (k : Nat) (h0 : 0 ≤ a) (h1 : a ≤ 18446744073709551615) : 0 ≤ a / 2 ^ k ∧ a / 2 ^ k ≤ 18446744073709551615 :=
  ⟨Int.ediv_nonneg h0 (Int.le_of_lt (pwp k)), Int.le_trans (Int.ediv_le_self _ h0) h1⟩
theorem pow_le64 (k : Nat) (h : k ≤ 64) : (2 : Int) ^ k ≤ 18446744073709551616 := by
  have := Nat.pow_le_pow_right (show 0 < 2 by omega) h
  rw [powN]
  omega
theorem mod_nextI (a : Int) (k : Nat) : a % 2 ^ (k + 1) = a % 2 ^ k + 2 ^ k * (a / 2 ^ k % 2) := by
  have e1 := Int.mul_ediv_add_emod a (2 ^ k)
  have e2 := Int.mul_ediv_add_emod a (2 ^ (k + 1))
  rw [← shr_step a k, pw] at e2
  have e3 := Int.mul_ediv_add_emod (a / 2 ^ k) 2
  rw [pw]
  generalize hq : a / 2 ^ k = q at *
  generalize hp : (2 : Int) ^ k = p at *
  have e4 : 2 * p * (q / 2) = p * (2 * (q / 2)) := by rw [Int.mul_comm 2 p, Int.mul_assoc]
  have e5 : p * q = p * (2 * (q / 2)) + p * (q % 2) := by rw [← Int.mul_add, e3]
  omega
theorem mod_prod (a p q : Int) (hp : 0 < p) (hq : 0 < q) : a % (p * q) = a % p + p * (a / p % q) := by
  have e1 := Int.mul_ediv_add_emod a p
  have e2 := Int.mul_ediv_add_emod (a / p) q
  have b0 := Int.emod_nonneg a (show p ≠ 0 by omega)
  have b1 := Int.emod_lt_of_pos a hp
  have c0 := Int.emod_nonneg (a / p) (show q ≠ 0 by omega)
  have c1 := Int.emod_lt_of_pos (a / p) hq
  have h0 : 0 ≤ p * (a / p % q) := Int.mul_nonneg (by omega) c0
  have h1 : p * (a / p % q) ≤ p * (q - 1) := Int.mul_le_mul_of_nonneg_left (by omega) (by omega)
  have h2 : p * (q - 1) = p * q - p := by rw [Int.mul_sub, Int.mul_one]
  have h3 : a = (a % p + p * (a / p % q)) + p * q * (a / p / q) := by
    have : p * (q * (a / p / q) + a / p % q) = p * (a / p) := by rw [e2]
    rw [Int.mul_add, ← Int.mul_assoc] at this
    omega
  have h4 : a % (p * q) = ((a % p + p * (a / p % q)) + p * q * (a / p / q)) % (p * q) := by rw [← h3]
  rw [h4, Int.add_mul_emod_self_left, Int.emod_eq_of_lt (by omega) (by omega)]
theorem wrap_rng (x : Int) : 0 ≤ IntKind.u64.wrap x ∧ IntKind.u64.wrap x ≤ 18446744073709551615 := by rw [IntKind.wrap_u64]; omega
/-- or of a number below 2^k and a multiple of 2^k is their sum. -/
theorem or_add (x c : Int) (k : Nat) (hk : k < 64) (x0 : 0 ≤ x) (x1 : x < 2 ^ k) (c0 : 0 ≤ c) (c1 : c * 2 ^ k ≤ 18446744073709551615) : bits .or .u64 x (c * 2 ^ k) = x + c * 2 ^ k := by
  obtain ⟨n, rfl⟩ : ∃ n : Nat, x = (n : Int) := ⟨x.toNat, by omega⟩
  obtain ⟨m, rfl⟩ : ∃ m : Nat, c = (m : Int) := ⟨c.toNat, by omega⟩
  rw [powN] at x1 c1 ⊢
  have hn : n < 2 ^ k := by omega
  have e : (m : Int) * ((2 ^ k : Nat) : Int) = ((2 ^ k * m : Nat) : Int) := by rw [Int.natCast_mul, Int.mul_comm]
  rw [e] at c1 ⊢
  have hp : 2 ^ k ≤ 2 ^ 64 := Nat.pow_le_pow_right (by omega) (by omega)
  rw [orN n _ (by omega) (by omega), Nat.or_comm, ← Nat.two_pow_add_eq_or_of_lt hn]
  omega
theorem and_low (x : Int) (k : Nat) (hk : k ≤ 64) (x0 : 0 ≤ x) (x1 : x ≤ 18446744073709551615) : bits .and .u64 x (2 ^ k - 1) = x % 2 ^ k := by
  obtain ⟨n, rfl⟩ : ∃ n : Nat, x = (n : Int) := ⟨x.toNat, by omega⟩
  have hp := Nat.two_pow_pos k
  have hp2 : 2 ^ k ≤ 2 ^ 64 := Nat.pow_le_pow_right (by omega) hk
  have e : (2 : Int) ^ k - 1 = ((2 ^ k - 1 : Nat) : Int) := by rw [powN]; omega
  rw [e, bitsN n _ (by omega) (by omega), Nat.and_two_pow_sub_one_eq_mod, powN]
  rfl
end Go.Proofs.Ytnmakbippgnekaa
