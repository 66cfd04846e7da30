/- The contract of the reference's Field. -/
import Derived.Test.YtbhpakjflcmnoaaLTurns
namespace Go.Proofs.Ytbhpakjflcmnoaa
open Go.RowKit
set_option linter.unusedVariables false

theorem mod_prod (a p q : Int) (hp : 0 < p) (hq : 0 < q) : a % (p * q) = a % p + p * (a / p % q) := by
  have e1 := Int.mul_ediv_add_emod a p
  have e2 := Int.mul_ediv_add_emod (a / p) q
  have b0 := Int.emod_nonneg a (show p ≠ 0 by omega)
  have b1 := Int.emod_lt_of_pos a hp
  have c0 := Int.emod_nonneg (a / p) (show q ≠ 0 by omega)
  have c1 := Int.emod_lt_of_pos (a / p) hq
  have h0 : 0 ≤ p * (a / p % q) := Int.mul_nonneg (by omega) c0
  have h1 : p * (a / p % q) ≤ p * (q - 1) := Int.mul_le_mul_of_nonneg_left (by omega) (by omega)
  have h2 : p * (q - 1) = p * q - p := by rw [Int.mul_sub, Int.mul_one]
  have h3 : a = (a % p + p * (a / p % q)) + p * q * (a / p / q) := by
    have : p * (q * (a / p / q) + a / p % q) = p * (a / p) := by rw [e2]
    rw [Int.mul_add, ← Int.mul_assoc] at this
    omega
  have h4 : a % (p * q) = ((a % p + p * (a / p % q)) + p * q * (a / p / q)) % (p * q) := by rw [← h3]
  rw [h4, Int.add_mul_emod_self_left, Int.emod_eq_of_lt (by omega) (by omega)]
/-- The bits of v from f on, j of them, laid at 'at'. -/
def piece (v : Int) (f t j : Nat) : Int := (v / 2 ^ f % 2 ^ j) * 2 ^ t
theorem mod_nextI (a : Int) (k : Nat) : a % 2 ^ (k + 1) = a % 2 ^ k + 2 ^ k * (a / 2 ^ k % 2) := by
  have e1 := Int.mul_ediv_add_emod a (2 ^ k)
  have e2 := Int.mul_ediv_add_emod a (2 ^ (k + 1))
  rw [← shr_step a k, pw] at e2
  have e3 := Int.mul_ediv_add_emod (a / 2 ^ k) 2
  rw [pw]
  generalize hq : a / 2 ^ k = q at *
  generalize hp : (2 : Int) ^ k = p at *
  have e4 : 2 * p * (q / 2) = p * (2 * (q / 2)) := by rw [Int.mul_comm 2 p, Int.mul_assoc]
  have e5 : p * q = p * (2 * (q / 2)) + p * (q % 2) := by rw [← Int.mul_add, e3]
  omega
theorem piece_next (v : Int) (f t j : Nat) : piece v f t (j + 1) = piece v f t j + (v / 2 ^ (f + j) % 2) * 2 ^ (t + j) := by
  unfold piece
  rw [mod_nextI, Int.add_mul, Int.ediv_ediv_of_nonneg (Int.le_of_lt (pwp f)), ← Int.pow_add, Int.pow_add 2 t j]
  congr 1
  rw [Int.mul_comm ((2 : Int) ^ j), Int.mul_assoc, Int.mul_comm ((2 : Int) ^ j)]
theorem piece_rng (v : Int) (f t j : Nat) : 0 ≤ piece v f t j ∧ piece v f t j < 2 ^ (t + j) := by
  unfold piece
  have p := pwp j
  have q := pwp t
  have h0 := Int.emod_nonneg (v / 2 ^ f) (show (2 : Int) ^ j ≠ 0 by omega)
  have h1 := Int.emod_lt_of_pos (v / 2 ^ f) p
  refine ⟨Int.mul_nonneg h0 (by omega), ?_⟩
  rw [Int.pow_add, Int.mul_comm (2 ^ t)]
  exact Int.mul_lt_mul_of_pos_right h1 q
theorem pow_le64 (k : Nat) (h : k ≤ 64) : (2 : Int) ^ k ≤ 18446744073709551616 := by
  have := Nat.pow_le_pow_right (show 0 < 2 by omega) h
  rw [powN]
  omega
theorem or_piece (v : Int) (f t j : Nat) (h : t + j < 64) : bits .or .u64 (piece v f t j) (IntKind.u64.wrap (v / 2 ^ (f + j) % 2 * 2 ^ (t + j))) = piece v f t (j + 1) := by
  obtain ⟨r0, r1⟩ := piece_rng v f t j
  have hp := pow_le64 (t + j) (by omega)
  have hp1 := pow_le64 (t + j + 1) (by omega)
  rw [pw] at hp1
  obtain ⟨x, hx⟩ : ∃ x : Nat, piece v f t j = (x : Int) := ⟨(piece v f t j).toNat, by omega⟩
  rw [piece_next]
  have hb : v / 2 ^ (f + j) % 2 = 0 ∨ v / 2 ^ (f + j) % 2 = 1 := by omega
  have hxl : x < 2 ^ (t + j) := by rw [powN] at r1; omega
  have hx64 : x < 2 ^ 64 := by omega
  rw [hx]
  rcases hb with e | e
  · rw [e, Int.zero_mul, Int.add_zero]
    have := orN x 0 hx64 (by decide)
    rw [Nat.or_zero] at this
    exact this
  · rw [e, Int.one_mul]
    have e2 : IntKind.u64.wrap (2 ^ (t + j)) = ((2 ^ (t + j) * 1 : Nat) : Int) := by rw [IntKind.wrap_u64, powN]; rw [powN] at hp1; omega
    have h3 : 2 ^ (t + j) * 1 < 2 ^ 64 := by rw [powN] at hp1; omega
    rw [e2, orN x _ hx64 h3, Nat.or_comm, ← Nat.two_pow_add_eq_or_of_lt hxl, powN]
    omega
/-- Ones from 'lo' up to 'k', above M. -/
def ones (M b : Int) (lo k : Nat) : Int := M + b * (2 ^ k - 2 ^ lo)
theorem or_ones (M b : Int) (lo k : Nat) (hlk : lo ≤ k) (hk : k < 64) (m0 : 0 ≤ M) (m1 : M < 2 ^ lo) (hb : b = 0 ∨ b = 1) :
    bits .or .u64 (ones M b lo k) (IntKind.u64.wrap (b * 2 ^ k)) = ones M b lo (k + 1) := by
  unfold ones
  have hp1 := pow_le64 (k + 1) (by omega)
  rw [pw] at hp1
  have hle : (2 : Int) ^ lo ≤ 2 ^ k := by
    have := Nat.pow_le_pow_right (show 0 < 2 by omega) hlk
    rw [powN, powN]
    omega
  rcases hb with rfl | rfl
  · obtain ⟨x, hx⟩ : ∃ x : Nat, M = (x : Int) := ⟨M.toNat, by omega⟩
    rw [Int.zero_mul, Int.zero_mul, Int.zero_mul, Int.add_zero, hx]
    have := orN x 0 (by omega) (by decide)
    rw [Nat.or_zero] at this
    exact this
  · rw [Int.one_mul, Int.one_mul, Int.one_mul, pw]
    obtain ⟨x, hx⟩ : ∃ x : Nat, M + (2 ^ k - 2 ^ lo) = (x : Int) := ⟨(M + (2 ^ k - 2 ^ lo)).toNat, by omega⟩
    have hxl : x < 2 ^ k := by
      have : (x : Int) < 2 ^ k := by omega
      rw [powN] at this
      omega
    have hx64 : x < 2 ^ 64 := by
      have : 2 ^ k ≤ 2 ^ 64 := Nat.pow_le_pow_right (by omega) (by omega)
      omega
    have e2 : IntKind.u64.wrap (2 ^ k) = ((2 ^ k * 1 : Nat) : Int) := by
      have h0 := pwp k
      rw [IntKind.wrap_u64, Int.emod_eq_of_lt (by omega) (by omega), powN, Nat.mul_one]
    have h3 : 2 ^ k * 1 < 2 ^ 64 := by
      rw [Nat.mul_one]
      exact Nat.pow_lt_pow_right (by omega) (by omega)
    rw [hx, e2, orN x _ hx64 h3, Nat.or_comm, ← Nat.two_pow_add_eq_or_of_lt hxl, Nat.mul_one, Int.natCast_add, Int.natCast_pow]
    have : ((2 : Nat) : Int) = 2 := rfl
    rw [this]
    omega
def fromF (r i : Nat) : Nat := if i < r then 0 else r
def atF (r i : Nat) : Nat := if i < r then 64 - r else 0
def topF (r i : Nat) : Nat := atF r i + i - fromF r i
theorem X_eq (v : Int) (i : Nat) (hi : i < 64) : IntKind.u64.wrap (v * 2 ^ (63 - i)) = (v % 2 ^ (i + 1)) * 2 ^ (63 - i) := by
  rw [IntKind.wrap_u64]
  have h : (18446744073709551616 : Int) = 2 ^ (i + 1) * 2 ^ (63 - i) := by
    rw [← Int.pow_add]
    have : i + 1 + (63 - i) = 64 := by omega
    rw [this]; rfl
  rw [h, Int.mul_comm v, Int.mul_comm (2 ^ (i + 1)) (2 ^ (63 - i)), Int.mul_emod_mul_of_pos _ _ (pwp _), Int.mul_comm]
theorem field_low (v : Int) (r i : Nat) (hr : r < 64) (hi : i < 64) : IntKind.u64.wrap (v * 2 ^ (63 - i)) / 2 ^ downF r i = piece v (fromF r i) (atF r i) (i - fromF r i + 1) := by
  rw [X_eq v i hi]
  unfold piece fromF atF downF
  by_cases h : i < r
  · rw [if_pos h, if_pos h, if_pos h]
    have e : (2 : Int) ^ (63 - i) = 2 ^ (64 - r) * 2 ^ (63 - i + r - 64) := by rw [← Int.pow_add]; congr 1; omega
    rw [e, ← Int.mul_assoc, Int.mul_ediv_cancel _ (by have := pwp (63 - i + r - 64); omega), Int.pow_zero, Int.ediv_one, Nat.sub_zero]
  · rw [if_neg h, if_neg h, if_neg h]
    have e : (2 : Int) ^ (63 - i + r) = 2 ^ r * 2 ^ (63 - i) := by rw [← Int.pow_add]; congr 1; omega
    rw [e, Int.mul_ediv_mul_of_pos_left _ _ (pwp _), Int.pow_zero, Int.mul_one]
    have e2 : (2 : Int) ^ (i + 1) = 2 ^ r * 2 ^ (i - r + 1) := by rw [← Int.pow_add]; congr 1; omega
    rw [e2, mod_prod v _ _ (pwp r) (pwp (i - r + 1))]
    rw [Int.add_mul_ediv_left _ _ (by have := pwp r; omega), Int.ediv_eq_zero_of_lt (Int.emod_nonneg _ (by have := pwp r; omega)) (Int.emod_lt_of_pos _ (pwp r)), Int.zero_add]
theorem field_high (v : Int) (r i : Nat) (hr : r < 64) (hi : i < 64) :
    IntKind.u64.wrap (wrap64 (IntKind.u64.wrap (v * 2 ^ (63 - i))) / 2 ^ downF r i) = ones (piece v (fromF r i) (atF r i) (i - fromF r i + 1)) (v / 2 ^ i % 2) (topF r i + 1) 64 := by
  have rx := wrap_rng (v * 2 ^ (63 - i))
  have hd : downF r i < 64 := by unfold downF; split <;> omega
  rw [sar_same _ _ hd rx.1 rx.2]
  have hbit : IntKind.u64.wrap (v * 2 ^ (63 - i)) / 9223372036854775808 = v / 2 ^ i % 2 := by
    rw [X_eq v i hi, mod_nextI, Int.add_mul]
    have e1 : (9223372036854775808 : Int) = 2 ^ i * 2 ^ (63 - i) := by
      rw [← Int.pow_add]
      have : i + (63 - i) = 63 := by omega
      rw [this]; rfl
    have e2 : (2 : Int) ^ i * (v / 2 ^ i % 2) * 2 ^ (63 - i) = (v / 2 ^ i % 2) * (2 ^ i * 2 ^ (63 - i)) := by
      rw [Int.mul_comm ((2 : Int) ^ i), Int.mul_assoc]
    have p := pwp i
    have q := pwp (63 - i)
    have hlt : v % 2 ^ i * 2 ^ (63 - i) < 2 ^ i * 2 ^ (63 - i) := Int.mul_lt_mul_of_pos_right (Int.emod_lt_of_pos _ p) q
    have h0 : 0 ≤ v % 2 ^ i * 2 ^ (63 - i) := Int.mul_nonneg (Int.emod_nonneg _ (by omega)) (by omega)
    rw [e2, e1, Int.add_mul_ediv_right _ _ (by have := Int.mul_pos p q; omega), Int.ediv_eq_zero_of_lt h0 hlt, Int.zero_add]
  have htop : topF r i + 1 = 64 - downF r i := by unfold topF atF fromF downF; split <;> omega
  rw [hbit]
  unfold ones
  have hb : v / 2 ^ i % 2 = 0 ∨ v / 2 ^ i % 2 = 1 := by omega
  rcases hb with e | e
  · rw [e, if_neg (by omega), field_low v r i hr hi]
    omega
  · rw [e, if_pos rfl, sar_split _ _ (by omega), field_low v r i hr hi, htop, Int.one_mul, Int.sub_mul, ← Int.pow_add]
    have : downF r i + (64 - downF r i) = 64 := by omega
    rw [this, Int.one_mul]
end Go.Proofs.Ytbhpakjflcmnoaa
