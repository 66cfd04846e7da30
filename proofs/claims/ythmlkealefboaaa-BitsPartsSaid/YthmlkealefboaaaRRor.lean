/- Contracts of the reference of chapter 01: Ror, Signed, Put. -/
import Derived.Test.YthmlkealefboaaaRBit
namespace Go.Proofs.Ythmlkealefboaaa
open Go.RowKit
set_option linter.unusedVariables false

set_option maxHeartbeats 2000000 in
theorem rror_64 (x b m : Nat) (w : World) (x1 : x < 2 ^ 64) (hm : 1 ≤ m) (hm64 : m = 64) (hx : x < 2 ^ m) : Calls Try.prog 18 #[.int .u64 (x : Int), .int .i64 (b : Int), .int .i64 (m : Int)] w fun e w' => e = .returned (.tuple #[.int .u64 (rorN x (b % m) m : Int), .int .i64 0]) ∧ Fr Nil w w' := by
  have b0 : (0 : Int) ≤ (b : Int) := by omega
  have m0 : (1 : Int) ≤ (m : Int) := by omega
  have m2 : (0 : Int) ≤ (m : Int) := by omega
  have m1 : (m : Int) ≤ 64 := by omega
  have x0 : (0 : Int) ≤ (x : Int) := by omega
  have x2 : (x : Int) ≤ 18446744073709551615 := by omega
  have et : (b : Int) % (m : Int) = ((b % m : Nat) : Int) := by omega
  have et2 : (b : Int).tmod (m : Int) = ((b % m : Nat) : Int) := by rw [Int.tmod_eq_emod_of_nonneg (by omega)]; omega
  have ht : b % m < m := Nat.mod_lt _ (by omega)
  have hz : (x : Int) / 2 ^ m = 0 := Int.ediv_eq_zero_of_lt x0 (by rw [powN]; omega)
  have mne : ¬ (m : Int) = 0 := by omega
  generalize b % m = t at *
  have t0 : (0 : Int) ≤ (t : Int) := by omega
  have hRl := rorN_lt x t m ht hx
  have hbits : ∀ i, i < m → btN (rorN x t m) i = x / 2 ^ ((i + t) % m) % 2 := fun i hi => test_mod _ _ _ _ (ror_testBit x t m i ht hx hi)
  have hlow : lowN (rorN x t m) m = rorN x t m := Nat.mod_eq_of_lt hRl
  have HB := Lib.hid hbits
  have HL := Lib.hid hlow
  clear hbits hlow hRl
  generalize rorN x t m = R at *
  have m3 : (m : Int) = 64 := by omega
  have t1 : (t : Int) < 64 := by omega
  clear hx ht
  subst hm64
  clear hz
  have e64 : ((64 : Nat) : Int) = 64 := rfl
  rw [e64]
  skip
  have et3 : (b : Int) % 64 = (t : Int) := et
  have et4 : (b : Int).tmod 64 = (t : Int) := et2
  clear et et2 m0 m1 m2 mne m3 e64
  go_enter Try.func18, Try.ntmps18
  go_wp2_with fail
  go_loopw [8, 9] (fun o i wr => ∃ k : Nat, k ≤ 64 ∧ i = .int .i64 (k : Int) ∧ o = .int .u64 (lowN R k : Int) ∧ Fr Nil w wr) (fun _ i _ => 100 - (intOf i).toNat)
  case atStart => exact ⟨0, by omega, rfl, by rw [low_zero]; rfl, Fr.refl _ _⟩
  case round =>
    obtain ⟨k, hk, rfl, rfl, F⟩ := hrel
    by_cases hc : k < 64
    · have hcl : (k : Int) < 64 := by omega
      have hdec : decide ((k : Int) < 64) = true := by simpa using hcl
      have k0 : (0 : Int) ≤ (k : Int) := by omega
      have k1 : (k : Int) < 64 := by omega
      have q0 : (0 : Int) ≤ ((k + t : Nat) : Int) := by omega
      obtain ⟨q, hq⟩ : ∃ q, q = k + t := ⟨_, rfl⟩
      obtain ⟨n, hn⟩ : ∃ n, n = q % 64 := ⟨_, rfl⟩
      have eq : (k : Int) + (t : Int) = (q : Int) := by omega
      have q1 : (0 : Int) ≤ (q : Int) := by omega
      have q2 : (q : Int) < 128 := by omega
      have q3 : wrap64 (q : Int) = (q : Int) := by unfold wrap64; omega
      have en : (q : Int) % 64 = (n : Int) := by omega
      have en2 : (q : Int).tmod 64 = (n : Int) := by rw [Int.tmod_eq_emod_of_nonneg (by omega)]; omega
      have hn64 : n < 64 := by
        rw [hn]
        exact Nat.lt_of_lt_of_le (Nat.mod_lt q (show 0 < 64 by omega)) (by omega)
      have hor := or_next R k (by omega)
      have hb : (x : Int) / 2 ^ n % 2 = (btN R k : Int) := by rw [bit_cast, HB.out k hc, hn, hq]
      have Hor := Lib.hid hor
      have Hb := Lib.hid hb
      clear hor hb hn hq
      go_wp2_with fail
      refine (bit_ok (x : Int) n _ hn64 x0 x2).mono ?_
      rintro e w2 ⟨rfl, rfl⟩
      rw [Hb.out]
      go_wp2_with fail
      exact ⟨⟨k + 1, by omega, by simp, by rw [← Hor.out], F⟩, by simp [intOf]; omega⟩
    · have he : k = 64 := by omega
      subst he
      go_wp2_with fail
      go_ret2
      exact ⟨by rw [HL.out]; rfl, F⟩
set_option maxHeartbeats 2000000 in
theorem rror_lt (x b m : Nat) (w : World) (x1 : x < 2 ^ 64) (hm : 1 ≤ m) (hm64 : m < 64) (hx : x < 2 ^ m) : Calls Try.prog 18 #[.int .u64 (x : Int), .int .i64 (b : Int), .int .i64 (m : Int)] w fun e w' => e = .returned (.tuple #[.int .u64 (rorN x (b % m) m : Int), .int .i64 0]) ∧ Fr Nil w w' := by
  have b0 : (0 : Int) ≤ (b : Int) := by omega
  have m0 : (1 : Int) ≤ (m : Int) := by omega
  have m2 : (0 : Int) ≤ (m : Int) := by omega
  have m1 : (m : Int) ≤ 64 := by omega
  have x0 : (0 : Int) ≤ (x : Int) := by omega
  have x2 : (x : Int) ≤ 18446744073709551615 := by omega
  have et : (b : Int) % (m : Int) = ((b % m : Nat) : Int) := by omega
  have et2 : (b : Int).tmod (m : Int) = ((b % m : Nat) : Int) := by rw [Int.tmod_eq_emod_of_nonneg (by omega)]; omega
  have ht : b % m < m := Nat.mod_lt _ (by omega)
  have hz : (x : Int) / 2 ^ m = 0 := Int.ediv_eq_zero_of_lt x0 (by rw [powN]; omega)
  have mne : ¬ (m : Int) = 0 := by omega
  generalize b % m = t at *
  have t0 : (0 : Int) ≤ (t : Int) := by omega
  have hRl := rorN_lt x t m ht hx
  have hbits : ∀ i, i < m → btN (rorN x t m) i = x / 2 ^ ((i + t) % m) % 2 := fun i hi => test_mod _ _ _ _ (ror_testBit x t m i ht hx hi)
  have hlow : lowN (rorN x t m) m = rorN x t m := Nat.mod_eq_of_lt hRl
  have HB := Lib.hid hbits
  have HL := Lib.hid hlow
  clear hbits hlow hRl
  generalize rorN x t m = R at *
  have m3 : (m : Int) < 64 := by omega
  have t1 : (t : Int) < 64 := by omega
  clear hx ht
  clear hm64
  skip
  skip
  skip
  skip
  skip
  skip
  skip
  go_enter Try.func18, Try.ntmps18
  go_wp2_with fail
  go_loopw [8, 9] (fun o i wr => ∃ k : Nat, k ≤ m ∧ i = .int .i64 (k : Int) ∧ o = .int .u64 (lowN R k : Int) ∧ Fr Nil w wr) (fun _ i _ => 100 - (intOf i).toNat)
  case atStart => exact ⟨0, by omega, rfl, by rw [low_zero]; rfl, Fr.refl _ _⟩
  case round =>
    obtain ⟨k, hk, rfl, rfl, F⟩ := hrel
    by_cases hc : k < m
    · have hcl : (k : Int) < (m : Int) := by omega
      have hdec : decide ((k : Int) < (m : Int)) = true := by simpa using hcl
      have k0 : (0 : Int) ≤ (k : Int) := by omega
      have k1 : (k : Int) < 64 := by omega
      have q0 : (0 : Int) ≤ ((k + t : Nat) : Int) := by omega
      obtain ⟨q, hq⟩ : ∃ q, q = k + t := ⟨_, rfl⟩
      obtain ⟨n, hn⟩ : ∃ n, n = q % m := ⟨_, rfl⟩
      have eq : (k : Int) + (t : Int) = (q : Int) := by omega
      have q1 : (0 : Int) ≤ (q : Int) := by omega
      have q2 : (q : Int) < 128 := by omega
      have q3 : wrap64 (q : Int) = (q : Int) := by unfold wrap64; omega
      have en : (q : Int) % (m : Int) = (n : Int) := by omega
      have en2 : (q : Int).tmod (m : Int) = (n : Int) := by rw [Int.tmod_eq_emod_of_nonneg (by omega)]; omega
      have hn64 : n < 64 := by
        rw [hn]
        exact Nat.lt_of_lt_of_le (Nat.mod_lt q (show 0 < m by omega)) (by omega)
      have hor := or_next R k (by omega)
      have hb : (x : Int) / 2 ^ n % 2 = (btN R k : Int) := by rw [bit_cast, HB.out k hc, hn, hq]
      have Hor := Lib.hid hor
      have Hb := Lib.hid hb
      clear hor hb hn hq
      go_wp2_with fail
      refine (bit_ok (x : Int) n _ hn64 x0 x2).mono ?_
      rintro e w2 ⟨rfl, rfl⟩
      rw [Hb.out]
      go_wp2_with fail
      exact ⟨⟨k + 1, by omega, by simp, by rw [← Hor.out], F⟩, by simp [intOf]; omega⟩
    · have he : k = m := by omega
      subst he
      go_wp2_with fail
      go_ret2
      exact ⟨by rw [HL.out]; rfl, F⟩
theorem rror_ok (x b m : Nat) (w : World) (x1 : x < 2 ^ 64) (hm : 1 ≤ m) (hm64 : m ≤ 64) (hx : x < 2 ^ m) : Calls Try.prog 18 #[.int .u64 (x : Int), .int .i64 (b : Int), .int .i64 (m : Int)] w fun e w' => e = .returned (.tuple #[.int .u64 (rorN x (b % m) m : Int), .int .i64 0]) ∧ Fr Nil w w' := by
  by_cases h : m = 64
  · exact rror_64 x b m w x1 hm h hx
  · exact rror_lt x b m w x1 hm (by omega) hx
theorem rror_arg (x b m : Int) (w : World) (h : m < 1 ∨ 64 < m ∨ b < 0) : Calls Try.prog 18 #[.int .u64 x, .int .i64 b, .int .i64 m] w fun e w' => e = .returned (.tuple #[.int .u64 0, .int .i64 1]) ∧ Fr Nil w w' := by
  by_cases h1 : m < 1
  · clear h
    go_enter Try.func18, Try.ntmps18
    go_wp2
    all_goals go_ret2
    all_goals exact ⟨rfl, Fr.refl _ _⟩
  by_cases h2 : 64 < m
  · clear h
    have h3 : 1 ≤ m := by omega
    go_enter Try.func18, Try.ntmps18
    go_wp2
    all_goals go_ret2
    all_goals exact ⟨rfl, Fr.refl _ _⟩
  have h3 : 1 ≤ m := by omega
  have h4 : m ≤ 64 := by omega
  have h5 : b < 0 := by omega
  clear h
  go_enter Try.func18, Try.ntmps18
  go_wp2
  all_goals go_ret2
  all_goals exact ⟨rfl, Fr.refl _ _⟩
theorem rror_bits (x : Int) (b m : Nat) (w : World) (x0 : 0 ≤ x) (hm : 1 ≤ m) (hm64 : m < 64) (hx : 2 ^ m ≤ x) : Calls Try.prog 18 #[.int .u64 x, .int .i64 (b : Int), .int .i64 (m : Int)] w fun e w' => e = .returned (.tuple #[.int .u64 0, .int .i64 2]) ∧ Fr Nil w w' := by
  have b0 : (0 : Int) ≤ (b : Int) := by omega
  have m0 : (1 : Int) ≤ (m : Int) := by omega
  have m2 : (0 : Int) ≤ (m : Int) := by omega
  have m1 : (m : Int) ≤ 64 := by omega
  have m3 : (m : Int) < 64 := by omega
  have hp := pwp m
  have hz : ¬ x / 2 ^ m = 0 := by
    have : 1 ≤ x / 2 ^ m := (Int.le_ediv_iff_mul_le hp).2 (by omega)
    omega
  have hz2 : (x / 2 ^ m != 0) = true := by simpa using hz
  clear hx
  go_enter Try.func18, Try.ntmps18
  go_wp2
  all_goals go_ret2
  all_goals exact ⟨rfl, Fr.refl _ _⟩
theorem rsigned_bad (x m : Int) (w : World) (h : m < 1 ∨ 64 < m) : Calls Try.prog 16 #[.int .u64 x, .int .i64 m] w fun e w' => e = .returned (.tuple #[.int .u64 0, .int .i64 1]) ∧ w = w' := by
  by_cases h1 : m < 1
  · clear h
    go_enter Try.func16, Try.ntmps16
    go_wp2
    all_goals go_ret2
    all_goals exact ⟨rfl, rfl⟩
  have h2 : 64 < m := by omega
  have h3 : 1 ≤ m := by omega
  clear h
  go_enter Try.func16, Try.ntmps16
  go_wp2
  all_goals go_ret2
  all_goals exact ⟨rfl, rfl⟩
end Go.Proofs.Ythmlkealefboaaa
