/- Contracts of bits.Field and bits.Put. -/
import Derived.Test.YthmlkealefboaaaBit
namespace Go.Proofs.Ythmlkealefboaaa
open Go.RowKit
set_option linter.unusedVariables false

def fV (x : Int) (p m : Nat) : Int := x / 2 ^ p % 2 ^ m
def putV (x : Int) (p m : Nat) (v : Int) : Int := x % 2 ^ p + 2 ^ p * (v + 2 ^ m * (x / 2 ^ p / 2 ^ m))
theorem pow_le32 (k : Nat) (h : k ≤ 32) : (2 : Int) ^ k ≤ 4294967296 := by
  have := Nat.pow_le_pow_right (show 0 < 2 by omega) h
  rw [powN]
  omega
theorem ones_wrap (m : Nat) (hm : m ≤ 32) : IntKind.u64.wrap (IntKind.u64.wrap (2 ^ m) - 1) = 2 ^ m - 1 := by
  have h1 := pow_le32 m hm
  have h2 := pwp m
  rw [IntKind.wrap_u64, IntKind.wrap_u64]
  omega
theorem field_eq (x : Int) (p m : Nat) (hm : m ≤ 32) (x0 : 0 ≤ x) (x1 : x ≤ 4294967295) : bits .and .u64 (x / 2 ^ p) (IntKind.u64.wrap (IntKind.u64.wrap (2 ^ m) - 1)) % 4294967296 = fV x p m := by
  rw [ones_wrap m hm]
  have hr := shr_rng x p x0 (by omega)
  have hle : x / 2 ^ p ≤ x := Int.ediv_le_self _ x0
  rw [and_low _ m (by omega) hr.1 hr.2]
  have h2 := pwp m
  have h3 := Int.emod_nonneg (x / 2 ^ p) (show (2 : Int) ^ m ≠ 0 by omega)
  have h4 := Int.emod_lt_of_pos (x / 2 ^ p) h2
  have h5 := pow_le32 m hm
  unfold fV
  omega
theorem field_ok (x : Int) (p m : Nat) (w : World) (x0 : 0 ≤ x) (x1 : x ≤ 4294967295) (hm : 1 ≤ m) (hq : m + p ≤ 32) : Calls Try.prog 11 #[.int .u32 x, .int .i64 (p : Int), .int .i64 (m : Int)] w fun e w' => e = .returned (.tuple #[.int .u32 (fV x p m), .int .i64 0]) ∧ Fr Nil w w' := by
  have p0 : (0 : Int) ≤ (p : Int) := by omega
  have p1 : (p : Int) ≤ 32 := by omega
  have m0 : (1 : Int) ≤ (m : Int) := by omega
  have m2 : (0 : Int) ≤ (m : Int) := by omega
  have m1 : (m : Int) ≤ 32 - (p : Int) := by omega
  have hv := field_eq x p m (by omega) x0 x1
  have HV := Lib.hid hv
  clear hv
  go_enter Try.func11, Try.ntmps11
  go_wp2_with fail
  go_quiet (fail)
  go_wp2_with fail
  go_ret2
  exact ⟨by rw [← HV.out]; rfl, (Fr.refl _ _).drewN _⟩
theorem field_bad (x p m : Int) (w : World) (h : p < 0 ∨ m < 1 ∨ 32 < p ∨ 32 - p < m) : Calls Try.prog 11 #[.int .u32 x, .int .i64 p, .int .i64 m] w fun e w' => e = .returned (.tuple #[.int .u32 0, .int .i64 1]) ∧ Fr Nil w w' := by
  by_cases h1 : p < 0
  · clear h
    go_enter Try.func11, Try.ntmps11
    go_wp2
    all_goals go_ret2
    all_goals exact ⟨rfl, Fr.refl _ _⟩
  have g1 : 0 ≤ p := by omega
  by_cases h2 : m < 1
  · clear h
    go_enter Try.func11, Try.ntmps11
    go_wp2
    all_goals go_ret2
    all_goals exact ⟨rfl, Fr.refl _ _⟩
  have g2 : 1 ≤ m := by omega
  by_cases h3 : 32 < p
  · clear h
    go_enter Try.func11, Try.ntmps11
    go_wp2
    all_goals go_ret2
    all_goals exact ⟨rfl, Fr.refl _ _⟩
  have g3 : p ≤ 32 := by omega
  have h4 : 32 - p < m := by omega
  have h5 : wrap64 (32 - p) = 32 - p := by unfold wrap64; omega
  clear h
  go_enter Try.func11, Try.ntmps11
  go_wp2
  all_goals go_ret2
  all_goals exact ⟨rfl, Fr.refl _ _⟩
theorem or32 (n m : Nat) (hn : n < 2 ^ 32) (hm : m < 2 ^ 32) : bits .or .u32 (n : Int) (m : Int) = ((n ||| m : Nat) : Int) := by
  have e : bits .or .u32 (n : Int) (m : Int) = IntKind.u32.wrap (((BitVec.ofNat 32 n ||| BitVec.ofNat 32 m).toNat : Nat) : Int) := by
    unfold bits
    simp only [IntKind.bits, BitVec.ofInt_natCast]
    rfl
  have hlt : n ||| m < 2 ^ 32 := Nat.or_lt_two_pow hn hm
  rw [e, BitVec.toNat_or, BitVec.toNat_ofNat, BitVec.toNat_ofNat, Nat.mod_eq_of_lt hn, Nat.mod_eq_of_lt hm, IntKind.wrap_u32]
  omega
theorem andNot32 (n m : Nat) : bits .andNot .u32 (n : Int) (m : Int) = (((BitVec.ofNat 32 n &&& ~~~ BitVec.ofNat 32 m).toNat : Nat) : Int) := by
  have e : bits .andNot .u32 (n : Int) (m : Int) = IntKind.u32.wrap (((BitVec.ofNat 32 n &&& ~~~ BitVec.ofNat 32 m).toNat : Nat) : Int) := by
    unfold bits
    simp only [IntKind.bits, BitVec.ofInt_natCast]
    rfl
  rw [e, IntKind.wrap_u32]
  have := (BitVec.ofNat 32 n &&& ~~~ BitVec.ofNat 32 m).isLt
  omega
theorem hole_bit (p m i : Nat) : (2 ^ p * (2 ^ m - 1)).testBit i = (decide (p ≤ i) && decide (i - p < m)) := by
  rw [Nat.testBit_two_pow_mul, Nat.testBit_two_pow_sub_one]
theorem put_nat (n v p m : Nat) (hn : n < 2 ^ 32) (hv : v < 2 ^ m) (hq : m + p ≤ 32) :
    (BitVec.ofNat 32 n &&& ~~~ BitVec.ofNat 32 (2 ^ p * (2 ^ m - 1))).toNat ||| 2 ^ p * v = n % 2 ^ p + 2 ^ p * (v + 2 ^ m * (n / 2 ^ p / 2 ^ m)) := by
  have e1 : n % 2 ^ p + 2 ^ p * (v + 2 ^ m * (n / 2 ^ p / 2 ^ m)) = 2 ^ p * (2 ^ m * (n / 2 ^ p / 2 ^ m) ||| v) ||| n % 2 ^ p := by
    rw [← Nat.two_pow_add_eq_or_of_lt hv, ← Nat.two_pow_add_eq_or_of_lt (Nat.mod_lt _ (Nat.two_pow_pos p)), Nat.add_comm, Nat.add_comm v]
  rw [e1]
  apply Nat.eq_of_testBit_eq
  intro i
  rw [Nat.testBit_or, Nat.testBit_or, BitVec.testBit_toNat, BitVec.getLsbD_and, BitVec.getLsbD_not, BitVec.getLsbD_ofNat, BitVec.getLsbD_ofNat, hole_bit, Nat.testBit_two_pow_mul, Nat.testBit_two_pow_mul, Nat.testBit_or, Nat.testBit_two_pow_mul, Nat.testBit_mod_two_pow, ← Nat.shiftRight_eq_div_pow, ← Nat.shiftRight_eq_div_pow, Nat.testBit_shiftRight, Nat.testBit_shiftRight]
  by_cases hi : i < p
  · have h32 : i < 32 := by omega
    simp [hi, h32, show ¬ p ≤ i by omega]
  · by_cases hm : i - p < m
    · have h32 : i < 32 := by omega
      simp [hi, h32, hm, show p ≤ i by omega, show ¬ m ≤ i - p by omega]
    · have hvz : v.testBit (i - p) = false := Nat.testBit_lt_two_pow (Nat.lt_of_lt_of_le hv (Nat.pow_le_pow_right (by omega) (by omega)))
      have hidx : p + (m + (i - p - m)) = i := by omega
      by_cases h32 : i < 32
      · simp [hi, h32, hm, show p ≤ i by omega, show m ≤ i - p by omega, hvz, hidx]
      · have hnz : n.testBit i = false := Nat.testBit_lt_two_pow (Nat.lt_of_lt_of_le hn (Nat.pow_le_pow_right (by omega) (by omega)))
        simp [hi, h32, hm, show p ≤ i by omega, show m ≤ i - p by omega, hvz, hidx, hnz]
theorem put_eq (x v : Int) (p m : Nat) (x0 : 0 ≤ x) (x1 : x ≤ 4294967295) (v0 : 0 ≤ v) (v1 : v < 2 ^ m) (hq : m + p ≤ 32) :
    bits .or .u32 (bits .andNot .u32 x (IntKind.u64.wrap (IntKind.u64.wrap (IntKind.u64.wrap (2 ^ m) - 1) * 2 ^ p) % 4294967296)) (v * 2 ^ p % 4294967296) = putV x p m v := by
  rw [ones_wrap m (by omega)]
  obtain ⟨n, rfl⟩ : ∃ n : Nat, x = (n : Int) := ⟨x.toNat, by omega⟩
  obtain ⟨k, rfl⟩ : ∃ k : Nat, v = (k : Int) := ⟨v.toNat, by omega⟩
  rw [powN] at v1
  have hk : k < 2 ^ m := by omega
  have hn : n < 2 ^ 32 := by omega
  have hmp : 2 ^ p * 2 ^ m ≤ 2 ^ 32 := by rw [← Nat.pow_add]; exact Nat.pow_le_pow_right (by omega) (by omega)
  have hp := Nat.two_pow_pos p
  have hm2 := Nat.two_pow_pos m
  have hhole : 2 ^ p * (2 ^ m - 1) < 2 ^ 32 := by
    rw [Nat.mul_sub, Nat.mul_one]
    omega
  have hkv : 2 ^ p * k < 2 ^ 32 := by
    have : 2 ^ p * k < 2 ^ p * 2 ^ m := Nat.mul_lt_mul_of_pos_left hk hp
    omega
  have e1 : IntKind.u64.wrap ((2 ^ m - 1) * 2 ^ p) % 4294967296 = ((2 ^ p * (2 ^ m - 1) : Nat) : Int) := by
    have : ((2 : Int) ^ m - 1) * 2 ^ p = ((2 ^ p * (2 ^ m - 1) : Nat) : Int) := by
      have h1 : ((1 : Nat) : Int) = 1 := rfl
      rw [powN, powN, Int.natCast_mul, Int.natCast_sub (by omega), Int.mul_comm, h1]
    rw [this, IntKind.wrap_u64]
    omega
  have e2 : (k : Int) * 2 ^ p % 4294967296 = ((2 ^ p * k : Nat) : Int) := by
    have : (k : Int) * 2 ^ p = ((2 ^ p * k : Nat) : Int) := by rw [powN, Int.natCast_mul, Int.mul_comm]
    rw [this]
    omega
  rw [e1, e2, andNot32, or32 _ _ (BitVec.isLt _) hkv, put_nat n k p m hn hk hq]
  unfold putV
  have d1 : (n : Int) / ((2 ^ p : Nat) : Int) / ((2 ^ m : Nat) : Int) = ((n / 2 ^ p / 2 ^ m : Nat) : Int) := rfl
  have d2 : (n : Int) % ((2 ^ p : Nat) : Int) = ((n % 2 ^ p : Nat) : Int) := rfl
  rw [powN p, powN m, d1, d2, Int.natCast_add, Int.natCast_mul, Int.natCast_add, Int.natCast_mul]
def PutOk (x : Int) (p m : Nat) (v : Int) : Prop := 0 ≤ v ∧ v < 2 ^ m
theorem put_ok (x v : Int) (p m : Nat) (w : World) (x0 : 0 ≤ x) (x1 : x ≤ 4294967295) (v0 : 0 ≤ v) (v1 : v ≤ 4294967295) (v2 : v < 2 ^ m) (hm : 1 ≤ m) (hq : m + p ≤ 32) : Calls Try.prog 13 #[.int .u32 x, .int .i64 (p : Int), .int .i64 (m : Int), .int .u32 v] w fun e w' => e = .returned (.tuple #[.int .u32 (putV x p m v), .int .i64 0]) ∧ Fr Nil w w' := by
  have hF := field_ok x p m w x0 x1 hm hq
  have HF := Lib.hid hF
  have he := put_eq x v p m x0 x1 v0 v2 hq
  have HE := Lib.hid he
  have p0 : (0 : Int) ≤ (p : Int) := by omega
  have p1 : (p : Int) ≤ 32 := by omega
  have m0 : (1 : Int) ≤ (m : Int) := by omega
  have m2 : (0 : Int) ≤ (m : Int) := by omega
  have hz : v / 2 ^ m = 0 := Int.ediv_eq_zero_of_lt v0 v2
  clear hF he v2
  generalize fV x p m = s at *
  go_enter Try.func13, Try.ntmps13
  go_wp2_with fail
  refine HF.out.mono ?_
  rintro e w2 ⟨rfl, hf⟩
  go_wp2_with fail
  go_ret2
  exact ⟨by rw [← HE.out]; rfl, hf⟩
theorem put_bits (x v : Int) (p m : Nat) (w : World) (x0 : 0 ≤ x) (x1 : x ≤ 4294967295) (v0 : 0 ≤ v) (v1 : v ≤ 4294967295) (v2 : 2 ^ m ≤ v) (hm : 1 ≤ m) (hq : m + p ≤ 32) : Calls Try.prog 13 #[.int .u32 x, .int .i64 (p : Int), .int .i64 (m : Int), .int .u32 v] w fun e w' => e = .returned (.tuple #[.int .u32 0, .int .i64 2]) ∧ Fr Nil w w' := by
  have hF := field_ok x p m w x0 x1 hm hq
  have HF := Lib.hid hF
  have m0 : (1 : Int) ≤ (m : Int) := by omega
  have m2 : (0 : Int) ≤ (m : Int) := by omega
  have hp := pwp m
  have hz : ¬ v / 2 ^ m = 0 := by
    have : 1 ≤ v / 2 ^ m := (Int.le_ediv_iff_mul_le hp).2 (by omega)
    omega
  have hz2 : (v / 2 ^ m != 0) = true := by simpa using hz
  clear hF v2
  generalize fV x p m = s at *
  go_enter Try.func13, Try.ntmps13
  go_wp2_with fail
  refine HF.out.mono ?_
  rintro e w2 ⟨rfl, hf⟩
  go_wp2_with fail
  go_ret2
  exact ⟨rfl, hf⟩
theorem put_bad (x v p m : Int) (w : World) (h : p < 0 ∨ m < 1 ∨ 32 < p ∨ 32 - p < m) : Calls Try.prog 13 #[.int .u32 x, .int .i64 p, .int .i64 m, .int .u32 v] w fun e w' => e = .returned (.tuple #[.int .u32 0, .int .i64 1]) ∧ Fr Nil w w' := by
  have hF := field_bad x p m w h
  have HF := Lib.hid hF
  clear hF h
  go_enter Try.func13, Try.ntmps13
  go_wp2_with fail
  refine HF.out.mono ?_
  rintro e w2 ⟨rfl, hf⟩
  go_wp2_with fail
  go_ret2
  exact ⟨rfl, hf⟩
end Go.Proofs.Ythmlkealefboaaa
