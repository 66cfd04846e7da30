/- Sums bit by bit: the plain law. -/
import Derived.Test.YtbhpakjflcmnoaaAdd
namespace Go.Proofs.Ytbhpakjflcmnoaa
open Go.RowKit
set_option linter.unusedVariables false

def sN (a b c k : Nat) : Nat := (a % 2 ^ k + b % 2 ^ k + c) % 2 ^ k
def cN (a b c k : Nat) : Nat := (a % 2 ^ k + b % 2 ^ k + c) / 2 ^ k
def nN (a b c k : Nat) : Nat := a / 2 ^ k % 2 + b / 2 ^ k % 2 + cN a b c k
theorem mod_next (a k : Nat) : a % 2 ^ (k + 1) = a % 2 ^ k + 2 ^ k * (a / 2 ^ k % 2) := by
  rw [Nat.pow_succ, Nat.mod_mul]
theorem step_all (a b c k : Nat) : a % 2 ^ (k + 1) + b % 2 ^ (k + 1) + c = 2 ^ (k + 1) * (nN a b c k / 2) + (2 ^ k * (nN a b c k % 2) + sN a b c k) := by
  rw [mod_next a k, mod_next b k]
  unfold nN sN cN
  have h := Nat.div_add_mod (a % 2 ^ k + b % 2 ^ k + c) (2 ^ k)
  generalize hq : (a % 2 ^ k + b % 2 ^ k + c) / 2 ^ k = q at *
  generalize hr : (a % 2 ^ k + b % 2 ^ k + c) % 2 ^ k = r at *
  generalize a / 2 ^ k % 2 = x
  generalize b / 2 ^ k % 2 = y
  have e1 : 2 ^ (k + 1) * ((x + y + q) / 2) = 2 ^ k * (2 * ((x + y + q) / 2)) := by rw [Nat.pow_succ, Nat.mul_assoc]
  have e2 : 2 ^ k * (2 * ((x + y + q) / 2)) + 2 ^ k * ((x + y + q) % 2) = 2 ^ k * (x + y + q) := by rw [← Nat.mul_add, Nat.div_add_mod]
  have e3 : 2 ^ k * (x + y + q) = 2 ^ k * x + 2 ^ k * y + 2 ^ k * q := by rw [Nat.mul_add, Nat.mul_add]
  omega
theorem s_lt (a b c k : Nat) : sN a b c k < 2 ^ k := Nat.mod_lt _ (Nat.two_pow_pos k)
theorem low_lt (a b c k : Nat) : 2 ^ k * (nN a b c k % 2) + sN a b c k < 2 ^ (k + 1) := by
  have h := s_lt a b c k
  rw [Nat.pow_succ]
  rcases Nat.mod_two_eq_zero_or_one (nN a b c k) with e | e <;> rw [e] <;> omega
theorem s_next (a b c k : Nat) : sN a b c (k + 1) = 2 ^ k * (nN a b c k % 2) + sN a b c k := by
  have h := step_all a b c k
  have l := low_lt a b c k
  have e : sN a b c (k + 1) = (a % 2 ^ (k + 1) + b % 2 ^ (k + 1) + c) % 2 ^ (k + 1) := rfl
  rw [e, h, Nat.mul_add_mod, Nat.mod_eq_of_lt l]
theorem c_next (a b c k : Nat) : cN a b c (k + 1) = nN a b c k / 2 := by
  have h := step_all a b c k
  have l := low_lt a b c k
  have e : cN a b c (k + 1) = (a % 2 ^ (k + 1) + b % 2 ^ (k + 1) + c) / 2 ^ (k + 1) := rfl
  rw [e, h, Nat.mul_add_div (Nat.two_pow_pos _), Nat.div_eq_of_lt l, Nat.add_zero]
theorem c_le (a b c : Nat) (hc : c ≤ 1) : ∀ k, cN a b c k ≤ 1
  | 0 => by unfold cN; simp [Nat.mod_one]; exact hc
  | k + 1 => by
    rw [c_next]
    have := c_le a b c hc k
    unfold nN
    omega
theorem or_next (a b c k : Nat) (hk : k < 64) : bits .or .u64 (sN a b c k : Int) (((nN a b c k % 2 : Nat) : Int) * 2 ^ k) = (sN a b c (k + 1) : Int) := by
  have l := s_lt a b c k
  have hp : 2 ^ k ≤ 2 ^ 63 := Nat.pow_le_pow_right (by omega) (by omega)
  have e1 : ((nN a b c k % 2 : Nat) : Int) * 2 ^ k = ((2 ^ k * (nN a b c k % 2) : Nat) : Int) := by
    rw [Int.natCast_mul, Int.natCast_pow, Int.mul_comm]; rfl
  have h2 : 2 ^ k * (nN a b c k % 2) ≤ 2 ^ 63 := by
    rcases Nat.mod_two_eq_zero_or_one (nN a b c k) with e | e <;> rw [e] <;> omega
  rw [e1, orN _ _ (by omega) (by omega), s_next, Nat.two_pow_add_eq_or_of_lt l, Nat.or_comm]
theorem s_64 (a b c : Nat) (ha : a < 2 ^ 64) (hb : b < 2 ^ 64) : (sN a b c 64 : Int) = sumF a b c := by
  unfold sN sumF
  rw [Nat.mod_eq_of_lt ha, Nat.mod_eq_of_lt hb]
  omega
theorem c_64 (a b c : Nat) (ha : a < 2 ^ 64) (hb : b < 2 ^ 64) : (cN a b c 64 : Int) = outF a b c := by
  unfold cN outF
  rw [Nat.mod_eq_of_lt ha, Nat.mod_eq_of_lt hb]
  omega
theorem neg_top (x : Nat) (h : x < 2 ^ 64) : decide (wrap64 (x : Int) < 0) = x.testBit 63 := by
  rw [Nat.testBit_eq_decide_div_mod_eq, decide_eq_decide]
  unfold wrap64
  omega
theorem flags_same (a b c : Nat) (hc : c ≤ 1) (ha : a < 2 ^ 64) (hb : b < 2 ^ 64) :
    flg a b c = #[.bool ((sN a b c 64 : Int) / 9223372036854775808 == 1), .bool ((sN a b c 64 : Int) == 0), .bool ((cN a b c 64 : Int) == 1), .bool ((cN a b c 64 : Int) != (cN a b c 63 : Int))] := by
  have es := s_64 a b c ha hb
  have ec := c_64 a b c ha hb
  have hs : sN a b c 64 < 2 ^ 64 := s_lt a b c 64
  unfold flg
  rw [← es, ← ec]
  have e1 : decide (wrap64 (sN a b c 64 : Int) < 0) = ((sN a b c 64 : Int) / 9223372036854775808 == 1) := by
    rw [Bool.eq_iff_iff, decide_eq_true_eq, beq_iff_eq]
    unfold wrap64
    omega
  have e4 : decide (wrap64 (bits .and .u64 (bits .xor .u64 a (sN a b c 64)) (bits .xor .u64 b (sN a b c 64))) < 0) = ((cN a b c 64 : Int) != (cN a b c 63 : Int)) := by
    have x1 : a ^^^ sN a b c 64 < 2 ^ 64 := Nat.xor_lt_two_pow ha hs
    have x2 : b ^^^ sN a b c 64 < 2 ^ 64 := Nat.xor_lt_two_pow hb hs
    have x3 : (a ^^^ sN a b c 64) &&& (b ^^^ sN a b c 64) < 2 ^ 64 := Nat.and_lt_two_pow _ x2
    rw [xorN _ _ ha hs, xorN _ _ hb hs, bitsN _ _ x1 x2, neg_top _ x3, Nat.testBit_and, Nat.testBit_xor, Nat.testBit_xor]
    have hc63 := c_le a b c hc 63
    have hn := c_next a b c 63
    have hsn := s_next a b c 63
    have hs63 := s_lt a b c 63
    rw [Nat.testBit_eq_decide_div_mod_eq, Nat.testBit_eq_decide_div_mod_eq, Nat.testBit_eq_decide_div_mod_eq]
    have hst : sN a b c 64 / 2 ^ 63 % 2 = nN a b c 63 % 2 := by
      rw [hsn, Nat.mul_add_div (Nat.two_pow_pos _), Nat.div_eq_of_lt hs63, Nat.add_zero]
      omega
    rw [hst, hn]
    unfold nN
    generalize cN a b c 63 = q at *
    have hx := Nat.mod_two_eq_zero_or_one (a / 2 ^ 63)
    have hy := Nat.mod_two_eq_zero_or_one (b / 2 ^ 63)
    generalize a / 2 ^ 63 % 2 = x at *
    generalize b / 2 ^ 63 % 2 = y at *
    have hq : q = 0 ∨ q = 1 := by omega
    rcases hx with rfl | rfl <;> rcases hy with rfl | rfl <;> rcases hq with rfl | rfl <;> rfl
  rw [e1, e4]
end Go.Proofs.Ytbhpakjflcmnoaa
