/- Contract of the reference of chapter 01: Put; Field and Put refused. -/
import Derived.Test.YthmlkealefboaaaRRor
namespace Go.Proofs.Ythmlkealefboaaa
open Go.RowKit
set_option linter.unusedVariables false

def putN (n p m v : Nat) : Nat := n % 2 ^ p + 2 ^ p * (v + 2 ^ m * (n / 2 ^ p / 2 ^ m))
theorem putV_nat (n p m v : Nat) : putV (n : Int) p m (v : Int) = (putN n p m v : Int) := by
  have d1 : (n : Int) / ((2 ^ p : Nat) : Int) / ((2 ^ m : Nat) : Int) = ((n / 2 ^ p / 2 ^ m : Nat) : Int) := rfl
  have d2 : (n : Int) % ((2 ^ p : Nat) : Int) = ((n % 2 ^ p : Nat) : Int) := rfl
  unfold putV putN
  rw [powN p, powN m, d1, d2, Int.natCast_add, Int.natCast_mul, Int.natCast_add, Int.natCast_mul]
theorem putN_or (n p m v : Nat) (hv : v < 2 ^ m) : putN n p m v = 2 ^ p * (2 ^ m * (n / 2 ^ p / 2 ^ m) ||| v) ||| n % 2 ^ p := by
  unfold putN
  rw [← Nat.two_pow_add_eq_or_of_lt hv, ← Nat.two_pow_add_eq_or_of_lt (Nat.mod_lt _ (Nat.two_pow_pos p)), Nat.add_comm, Nat.add_comm v]
theorem putN_bit (n p m v i : Nat) (hv : v < 2 ^ m) : (putN n p m v).testBit i = if p ≤ i ∧ i < p + m then v.testBit (i - p) else n.testBit i := by
  rw [putN_or n p m v hv, Nat.testBit_or, Nat.testBit_two_pow_mul, Nat.testBit_or, Nat.testBit_two_pow_mul, Nat.testBit_mod_two_pow, ← Nat.shiftRight_eq_div_pow, ← Nat.shiftRight_eq_div_pow, Nat.testBit_shiftRight, Nat.testBit_shiftRight]
  by_cases hi : i < p
  · simp [hi, show ¬ p ≤ i by omega]
  · by_cases hm : i - p < m
    · simp [hi, hm, show p ≤ i by omega, show ¬ m ≤ i - p by omega, show i < p + m by omega]
    · have hvz : v.testBit (i - p) = false := Nat.testBit_lt_two_pow (Nat.lt_of_lt_of_le hv (Nat.pow_le_pow_right (by omega) (by omega)))
      have hidx : p + (m + (i - p - m)) = i := by omega
      simp [hi, hm, show p ≤ i by omega, show m ≤ i - p by omega, show ¬ i < p + m by omega, hvz, hidx]
theorem putN_in (n p m v i : Nat) (hv : v < 2 ^ m) (h1 : p ≤ i) (h2 : i < p + m) : btN (putN n p m v) i = v / 2 ^ (i - p) % 2 :=
  test_mod _ _ _ _ (by rw [putN_bit n p m v i hv, if_pos ⟨h1, h2⟩])
theorem putN_out (n p m v i : Nat) (hv : v < 2 ^ m) (h : ¬ (p ≤ i ∧ i < p + m)) : btN (putN n p m v) i = n / 2 ^ i % 2 :=
  test_mod _ _ _ _ (by rw [putN_bit n p m v i hv, if_neg h])
theorem putN_lt (n p m v : Nat) (hn : n < 2 ^ 32) (hv : v < 2 ^ m) (hq : m + p ≤ 32) : putN n p m v < 2 ^ 32 := by
  have h32 : 2 ^ 32 = 2 ^ p * (2 ^ m * 2 ^ (32 - p - m)) := by
    rw [← Nat.pow_add, ← Nat.pow_add, show p + (m + (32 - p - m)) = 32 by omega]
  have h : n / 2 ^ p / 2 ^ m < 2 ^ (32 - p - m) := by
    rw [h32] at hn
    exact Nat.div_lt_of_lt_mul (Nat.div_lt_of_lt_mul hn)
  have h1 : v + 2 ^ m * (n / 2 ^ p / 2 ^ m) < 2 ^ m * 2 ^ (32 - p - m) := by
    have := Nat.mul_le_mul_left (2 ^ m) (show n / 2 ^ p / 2 ^ m + 1 ≤ 2 ^ (32 - p - m) by omega)
    rw [Nat.mul_add, Nat.mul_one] at this
    omega
  have h2 := Nat.mod_lt n (Nat.two_pow_pos p)
  have := Nat.mul_le_mul_left (2 ^ p) (show v + 2 ^ m * (n / 2 ^ p / 2 ^ m) + 1 ≤ 2 ^ m * 2 ^ (32 - p - m) by omega)
  rw [Nat.mul_add, Nat.mul_one] at this
  unfold putN
  rw [h32]
  omega
theorem rfield_bad (x p m : Int) (w : World) (h : p < 0 ∨ m < 1 ∨ 32 < p ∨ 32 - p < m) : Calls Try.prog 12 #[.int .u32 x, .int .i64 p, .int .i64 m] w fun e w' => e = .returned (.tuple #[.int .u32 0, .int .i64 1]) ∧ Fr Nil w w' := by
  by_cases h1 : p < 0
  · clear h
    go_enter Try.func12, Try.ntmps12
    go_wp2
    all_goals go_ret2
    all_goals exact ⟨rfl, Fr.refl _ _⟩
  have h1 : 0 ≤ p := by omega
  by_cases h2 : m < 1
  · clear h
    go_enter Try.func12, Try.ntmps12
    go_wp2
    all_goals go_ret2
    all_goals exact ⟨rfl, Fr.refl _ _⟩
  have h2 : 1 ≤ m := by omega
  by_cases h3 : 32 < p
  · clear h
    go_enter Try.func12, Try.ntmps12
    go_wp2
    all_goals go_ret2
    all_goals exact ⟨rfl, Fr.refl _ _⟩
  have h3 : p ≤ 32 := by omega
  have h4 : 32 - p < m := by omega
  clear h
  go_enter Try.func12, Try.ntmps12
  go_wp2
  all_goals go_ret2
  all_goals exact ⟨rfl, Fr.refl _ _⟩
theorem rput_bad (x v p m : Int) (w : World) (h : p < 0 ∨ m < 1 ∨ 32 < p ∨ 32 - p < m) : Calls Try.prog 14 #[.int .u32 x, .int .i64 p, .int .i64 m, .int .u32 v] w fun e w' => e = .returned (.tuple #[.int .u32 0, .int .i64 1]) ∧ Fr Nil w w' := by
  have H := Lib.hid h
  clear h
  go_enter Try.func14, Try.ntmps14
  go_wp2_with fail
  refine (rfield_bad x p m _ H.out).mono ?_
  rintro e w2 ⟨rfl, F⟩
  go_wp2_with fail
  go_ret2
  exact ⟨rfl, F⟩
theorem rput_bits (x v p m : Nat) (w : World) (x1 : x < 2 ^ 32) (v1 : v < 2 ^ 32) (v2 : 2 ^ m ≤ v) (hm : 1 ≤ m) (hq : m + p ≤ 32) : Calls Try.prog 14 #[.int .u32 (x : Int), .int .i64 (p : Int), .int .i64 (m : Int), .int .u32 (v : Int)] w fun e w' => e = .returned (.tuple #[.int .u32 0, .int .i64 2]) ∧ Fr Nil w w' := by
  have hR := rfield_ok x p m w x1 hm hq
  have HR := Lib.hid hR
  clear hR
  have v0 : (0 : Int) ≤ (v : Int) := by omega
  have v3 : (v : Int) ≤ 4294967295 := by omega
  have m0 : (1 : Int) ≤ (m : Int) := by omega
  have m2 : (0 : Int) ≤ (m : Int) := by omega
  have m1 : (m : Int) ≤ 32 := by omega
  have hp := pwp m
  have hz : ¬ (v : Int) / 2 ^ m = 0 := by
    have h2 := powN m
    have : 1 ≤ (v : Int) / 2 ^ m := (Int.le_ediv_iff_mul_le hp).2 (by omega)
    omega
  have hz2 : ((v : Int) / 2 ^ m != 0) = true := by simpa using hz
  clear x1 v1 v2 hq hm
  go_enter Try.func14, Try.ntmps14
  go_wp2_with fail
  refine HR.out.mono ?_
  rintro e w2 ⟨rfl, F⟩
  go_wp2_with fail
  go_ret2
  exact ⟨rfl, F⟩
set_option maxHeartbeats 2000000 in
theorem rput_ok (x v p m : Nat) (w : World) (x1 : x < 2 ^ 32) (v1 : v < 2 ^ 32) (v2 : v < 2 ^ m) (hm : 1 ≤ m) (hq : m + p ≤ 32) : Calls Try.prog 14 #[.int .u32 (x : Int), .int .i64 (p : Int), .int .i64 (m : Int), .int .u32 (v : Int)] w fun e w' => e = .returned (.tuple #[.int .u32 (putN x p m v : Int), .int .i64 0]) ∧ Fr Nil w w' := by
  have hR := rfield_ok x p m w x1 hm hq
  have HR := Lib.hid hR
  clear hR
  have v0 : (0 : Int) ≤ (v : Int) := by omega
  have v3 : (v : Int) ≤ 4294967295 := by omega
  have x0 : (0 : Int) ≤ (x : Int) := by omega
  have x3 : (x : Int) ≤ 4294967295 := by omega
  have p0 : (0 : Int) ≤ (p : Int) := by omega
  have m0 : (1 : Int) ≤ (m : Int) := by omega
  have m2 : (0 : Int) ≤ (m : Int) := by omega
  have m1 : (m : Int) ≤ 32 := by omega
  have hz : (v : Int) / 2 ^ m = 0 := Int.ediv_eq_zero_of_lt v0 (by rw [powN]; omega)
  have hIn : ∀ i, p ≤ i → i < p + m → btN (putN x p m v) i = v / 2 ^ (i - p) % 2 := fun i => putN_in x p m v i v2
  have hOut : ∀ i, ¬ (p ≤ i ∧ i < p + m) → btN (putN x p m v) i = x / 2 ^ i % 2 := fun i => putN_out x p m v i v2
  have hl := putN_lt x p m v x1 v2 hq
  have hlow : lowN (putN x p m v) 32 = putN x p m v := Nat.mod_eq_of_lt hl
  have hI := Lib.hid hIn
  have hO := Lib.hid hOut
  have HL := Lib.hid hlow
  clear hIn hOut hlow
  generalize putN x p m v = R at *
  have R0 : (0 : Int) ≤ (R : Int) := by omega
  have R1 : (R : Int) ≤ 4294967295 := by omega
  obtain ⟨q, hq2⟩ : ∃ q, q = p + m := ⟨_, rfl⟩
  have eq : (p : Int) + (m : Int) = (q : Int) := by omega
  have q0 : (0 : Int) ≤ (q : Int) := by omega
  have q1 : (q : Int) ≤ 32 := by omega
  rw [← hq2] at hI hO
  clear x1 v1 v2 hq hm hl hq2
  go_enter Try.func14, Try.ntmps14
  go_wp2_with fail
  refine HR.out.mono ?_
  rintro e w2 ⟨rfl, F1⟩
  go_wp2_with fail
  go_loopw [12, 13] (fun o i wr => ∃ k : Nat, k ≤ 32 ∧ i = .int .i64 (k : Int) ∧ o = .int .u64 (lowN R k : Int) ∧ Fr Nil w wr) (fun _ i _ => 100 - (intOf i).toNat)
  case atStart => exact ⟨0, by omega, rfl, by rw [low_zero]; rfl, F1⟩
  case round =>
    obtain ⟨k, hk, rfl, rfl, F⟩ := hrel
    by_cases hc : k < 32
    · have hcl : (k : Int) < 32 := by omega
      have hdec : decide ((k : Int) < 32) = true := by simpa using hcl
      have k0 : (0 : Int) ≤ (k : Int) := by omega
      have hor := or_next R k (by omega)
      have Hor := Lib.hid hor
      clear hor
      have hk64 : k < 64 := by omega
      by_cases h1 : p ≤ k
      · have h1c : (p : Int) ≤ (k : Int) := by omega
        by_cases h2 : k < q
        · have h2c : (k : Int) < (q : Int) := by omega
          obtain ⟨n, hn⟩ : ∃ n, n = k - p := ⟨_, rfl⟩
          have en : (k : Int) - (p : Int) = (n : Int) := by omega
          have hn64 : n < 64 := by omega
          have hb : (v : Int) / 2 ^ n % 2 = (btN R k : Int) := by rw [bit_cast, hI.out k h1 h2, hn]
          have Hb := Lib.hid hb
          clear hb hn
          go_wp2_with fail
          refine (bit_ok (x : Int) k _ hk64 x0 (by omega)).mono ?_
          rintro e w2 ⟨rfl, rfl⟩
          go_wp2_with fail
          refine (bit_ok (v : Int) n _ hn64 v0 (by omega)).mono ?_
          rintro e w2 ⟨rfl, rfl⟩
          rw [Hb.out]
          go_wp2_with fail
          exact ⟨⟨k + 1, by omega, by simp, by rw [← Hor.out], F⟩, by simp [intOf]; omega⟩
        · have h2c : ¬ (k : Int) < (q : Int) := by omega
          have h2d : (q : Int) ≤ (k : Int) := by omega
          have hb : (x : Int) / 2 ^ k % 2 = (btN R k : Int) := by rw [bit_cast, hO.out k (by omega)]
          have Hb := Lib.hid hb
          clear hb
          go_wp2_with fail
          refine (bit_ok (x : Int) k _ hk64 x0 (by omega)).mono ?_
          rintro e w2 ⟨rfl, rfl⟩
          rw [Hb.out]
          go_wp2_with fail
          exact ⟨⟨k + 1, by omega, by simp, by rw [← Hor.out], F⟩, by simp [intOf]; omega⟩
      · have h1c : (k : Int) < (p : Int) := by omega
        have hb : (x : Int) / 2 ^ k % 2 = (btN R k : Int) := by rw [bit_cast, hO.out k (by omega)]
        have Hb := Lib.hid hb
        clear hb
        go_wp2_with fail
        refine (bit_ok (x : Int) k _ hk64 x0 (by omega)).mono ?_
        rintro e w2 ⟨rfl, rfl⟩
        rw [Hb.out]
        go_wp2_with fail
        exact ⟨⟨k + 1, by omega, by simp, by rw [← Hor.out], F⟩, by simp [intOf]; omega⟩
    · have he : k = 32 := by omega
      subst he
      rw [HL.out]
      have hw : (R : Int) % 4294967296 = (R : Int) := by omega
      go_wp2_with fail
      go_ret2
      exact ⟨rfl, F⟩
end Go.Proofs.Ythmlkealefboaaa
