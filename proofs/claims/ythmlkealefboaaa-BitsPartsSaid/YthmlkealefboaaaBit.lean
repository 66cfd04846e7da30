/- Contracts of package bits. -/
import Derived.Test.YthmlkealefboaaaRows
import Derived.Test.YthmlkealefboaaaBase
import Derived.Test.YthmlkealefboaaaNum
namespace Go.Proofs.Ythmlkealefboaaa
open Go.RowKit
set_option linter.unusedVariables false

def signedV (x : Int) (u : Nat) : Int := IntKind.u64.wrap (wrap64 (IntKind.u64.wrap (x * 2 ^ u)) / 2 ^ u)
theorem signed_ok (x : Int) (m u : Nat) (w : World) (x0 : 0 ≤ x) (x1 : x ≤ 18446744073709551615) (hm : 1 ≤ m) (hu : m + u = 64) : Calls Try.prog 15 #[.int .u64 x, .int .i64 (m : Int)] w fun e w' => e = .returned (.tuple #[.int .u64 (signedV x u), .int .i64 0]) ∧ w = w' := by
  have m0 : (1 : Int) ≤ (m : Int) := by omega
  have m1 : (m : Int) ≤ 64 := by omega
  have eu : (64 : Int) - (m : Int) = (u : Int) := by omega
  have u0 : (0 : Int) ≤ (u : Int) := by omega
  have hv : signedV x u = IntKind.u64.wrap (wrap64 (IntKind.u64.wrap (x * 2 ^ u)) / 2 ^ u) := rfl
  rw [hv]
  clear hv
  go_enter Try.func15, Try.ntmps15
  go_wp2
  all_goals go_ret2
  all_goals exact ⟨rfl, rfl⟩
theorem signed_bad (x m : Int) (w : World) (h : m < 1 ∨ 64 < m) : Calls Try.prog 15 #[.int .u64 x, .int .i64 m] w fun e w' => e = .returned (.tuple #[.int .u64 0, .int .i64 1]) ∧ w = w' := by
  by_cases h1 : m < 1
  · clear h
    go_enter Try.func15, Try.ntmps15
    go_wp2
    all_goals go_ret2
    all_goals exact ⟨rfl, rfl⟩
  have h2 : 64 < m := by omega
  have h3 : 1 ≤ m := by omega
  clear h
  go_enter Try.func15, Try.ntmps15
  go_wp2
  all_goals go_ret2
  all_goals exact ⟨rfl, rfl⟩
def rorV (x : Int) (t m : Nat) : Int := x / 2 ^ t + (x % 2 ^ t) * 2 ^ (m - t)
theorem all_low (m u : Nat) (hu : m + u = 64) : (18446744073709551615 : Int) / 2 ^ u = 2 ^ m - 1 := by
  have hp := pwp u
  have h64 : (18446744073709551616 : Int) = 2 ^ m * 2 ^ u := by rw [← Int.pow_add, hu]; rfl
  have e : (18446744073709551615 : Int) = (2 ^ u - 1) + (2 ^ m - 1) * 2 ^ u := by rw [Int.sub_mul]; omega
  rw [e, Int.add_mul_ediv_right _ _ (by omega), Int.ediv_eq_zero_of_lt (by omega) (by omega), Int.zero_add]
theorem ror_low (x : Int) (t m r u : Nat) (hm : m + u = 64) (ht : t < m) (hr : r = m - t) (x0 : 0 ≤ x) (x1 : x < 2 ^ m) :
    bits .and .u64 (bits .or .u64 (x / 2 ^ t) (IntKind.u64.wrap (x * 2 ^ r))) (18446744073709551615 / 2 ^ u) = rorV x t m := by
  rw [all_low m u hm]
  obtain ⟨n, rfl⟩ : ∃ n : Nat, x = (n : Int) := ⟨x.toNat, by omega⟩
  rw [powN] at x1
  have hn : n < 2 ^ m := by omega
  have hp : 2 ^ m ≤ 2 ^ 64 := Nat.pow_le_pow_right (by omega) (by omega)
  have hn64 : n < 2 ^ 64 := by omega
  have e1 : (n : Int) / 2 ^ t = ((n / 2 ^ t : Nat) : Int) := by rw [powN]; rfl
  have e2 : IntKind.u64.wrap ((n : Int) * 2 ^ r) = ((n * 2 ^ r % 2 ^ 64 : Nat) : Int) := by rw [IntKind.wrap_u64, powN]; omega
  have hA : n / 2 ^ t < 2 ^ 64 := Nat.lt_of_le_of_lt (Nat.div_le_self _ _) hn64
  have hB : n * 2 ^ r % 2 ^ 64 < 2 ^ 64 := Nat.mod_lt _ (by decide)
  have hO := Nat.or_lt_two_pow hA hB
  rw [e1, e2, orN _ _ hA hB, and_low _ m (by omega) (by omega) (by omega)]
  have hmr : 2 ^ m = 2 ^ t * 2 ^ r := by rw [← Nat.pow_add]; congr 1; omega
  have hlt : n / 2 ^ t < 2 ^ r := by
    rw [Nat.div_lt_iff_lt_mul (Nat.two_pow_pos t), Nat.mul_comm, ← hmr]; exact hn
  have hAm : n / 2 ^ t % 2 ^ m = n / 2 ^ t := Nat.mod_eq_of_lt (Nat.lt_of_le_of_lt (Nat.div_le_self _ _) hn)
  have hBm : n * 2 ^ r % 2 ^ 64 % 2 ^ m = (n % 2 ^ t) * 2 ^ r := by
    rw [Nat.mod_mod_of_dvd _ (Nat.pow_dvd_pow 2 (by omega)), hmr, Nat.mul_mod_mul_right]
  have key : (n / 2 ^ t ||| n * 2 ^ r % 2 ^ 64) % 2 ^ m = n / 2 ^ t + (n % 2 ^ t) * 2 ^ r := by
    rw [Nat.or_mod_two_pow, hAm, hBm, Nat.mul_comm (n % 2 ^ t), Nat.or_comm, ← Nat.two_pow_add_eq_or_of_lt hlt, Nat.add_comm]
  unfold rorV
  rw [← hr]
  have e3 : (((n / 2 ^ t ||| n * 2 ^ r % 2 ^ 64 : Nat) : Int) % 2 ^ m) = (((n / 2 ^ t ||| n * 2 ^ r % 2 ^ 64) % 2 ^ m : Nat) : Int) := by rw [powN]; rfl
  rw [e3, key, Int.natCast_add, Int.natCast_mul, e1]
  have e4 : (n : Int) % 2 ^ t = ((n % 2 ^ t : Nat) : Int) := by rw [powN]; rfl
  rw [e4, powN r]
set_option maxHeartbeats 1000000 in
theorem ror_64 (x : Int) (b m u : Nat) (w : World) (x0 : 0 ≤ x) (x1 : x ≤ 18446744073709551615) (hm : 1 ≤ m) (hu : m + u = 64) (hm64 : m = 64) (hx : x < 2 ^ m) : Calls Try.prog 17 #[.int .u64 x, .int .i64 (b : Int), .int .i64 (m : Int)] w fun e w' => e = .returned (.tuple #[.int .u64 (rorV x (b % m) m), .int .i64 0]) ∧ Fr Nil w w' := by
  have b0 : (0 : Int) ≤ (b : Int) := by omega
  have m0 : (1 : Int) ≤ (m : Int) := by omega
  have m2 : (0 : Int) ≤ (m : Int) := by omega
  have m1 : (m : Int) ≤ 64 := by omega
  have eu : (64 : Int) - (m : Int) = (u : Int) := by omega
  have u0 : (0 : Int) ≤ (u : Int) := by omega
  have et : (b : Int) % (m : Int) = ((b % m : Nat) : Int) := by omega
  have et2 : (b : Int).tmod (m : Int) = ((b % m : Nat) : Int) := by rw [Int.tmod_eq_emod_of_nonneg (by omega)]; omega
  have ht : b % m < m := Nat.mod_lt _ (by omega)
  have hz : x / 2 ^ m = 0 := Int.ediv_eq_zero_of_lt x0 hx
  have mne : ¬ (m : Int) = 0 := by omega
  generalize b % m = t at *
  have t0 : (0 : Int) ≤ (t : Int) := by omega
  obtain ⟨r, hr⟩ : ∃ r, r = m - t := ⟨_, rfl⟩
  have er : (m : Int) - (t : Int) = (r : Int) := by omega
  have r0 : (0 : Int) ≤ (r : Int) := by omega
  have hv := ror_low x t m r u hu ht hr x0 hx
  have hu0 : u = 0 := by omega
  subst hu0
  rw [show (18446744073709551615 : Int) / 2 ^ 0 = 18446744073709551615 from rfl] at hv
  have HV := Lib.hid hv
  clear hr hv hx
  have m3 : (m : Int) = 64 := by omega
  subst hm64
  have er2 : (64 : Int) - (t : Int) = (r : Int) := er
  have et3 : (b : Int) % 64 = (t : Int) := et
  have et4 : (b : Int).tmod 64 = (t : Int) := et2
  clear er et et2 eu m0 m1 m2 mne m3 hu
  go_enter Try.func17, Try.ntmps17
  go_wp2_with fail
  go_quiet (fail)
  go_wp2_with fail
  go_ret2
  exact ⟨by rw [← HV.out]; rfl, (Fr.refl _ _).drewN _⟩
set_option maxHeartbeats 1000000 in
theorem ror_lt (x : Int) (b m u : Nat) (w : World) (x0 : 0 ≤ x) (x1 : x ≤ 18446744073709551615) (hm : 1 ≤ m) (hu : m + u = 64) (hm64 : m < 64) (hx : x < 2 ^ m) : Calls Try.prog 17 #[.int .u64 x, .int .i64 (b : Int), .int .i64 (m : Int)] w fun e w' => e = .returned (.tuple #[.int .u64 (rorV x (b % m) m), .int .i64 0]) ∧ Fr Nil w w' := by
  have b0 : (0 : Int) ≤ (b : Int) := by omega
  have m0 : (1 : Int) ≤ (m : Int) := by omega
  have m2 : (0 : Int) ≤ (m : Int) := by omega
  have m1 : (m : Int) ≤ 64 := by omega
  have eu : (64 : Int) - (m : Int) = (u : Int) := by omega
  have u0 : (0 : Int) ≤ (u : Int) := by omega
  have et : (b : Int) % (m : Int) = ((b % m : Nat) : Int) := by omega
  have et2 : (b : Int).tmod (m : Int) = ((b % m : Nat) : Int) := by rw [Int.tmod_eq_emod_of_nonneg (by omega)]; omega
  have ht : b % m < m := Nat.mod_lt _ (by omega)
  have hz : x / 2 ^ m = 0 := Int.ediv_eq_zero_of_lt x0 hx
  have mne : ¬ (m : Int) = 0 := by omega
  generalize b % m = t at *
  have t0 : (0 : Int) ≤ (t : Int) := by omega
  obtain ⟨r, hr⟩ : ∃ r, r = m - t := ⟨_, rfl⟩
  have er : (m : Int) - (t : Int) = (r : Int) := by omega
  have r0 : (0 : Int) ≤ (r : Int) := by omega
  have hv := ror_low x t m r u hu ht hr x0 hx
  skip
  skip
  skip
  have HV := Lib.hid hv
  clear hr hv hx
  have m3 : (m : Int) < 64 := by omega
  clear hm64
  skip
  skip
  skip
  skip
  go_enter Try.func17, Try.ntmps17
  go_wp2_with fail
  go_quiet (fail)
  go_wp2_with fail
  go_ret2
  exact ⟨by rw [← HV.out]; rfl, (Fr.refl _ _).drewN _⟩
theorem ror_ok (x : Int) (b m : Nat) (w : World) (x0 : 0 ≤ x) (x1 : x ≤ 18446744073709551615) (hm : 1 ≤ m) (hm64 : m ≤ 64) (hx : x < 2 ^ m) : Calls Try.prog 17 #[.int .u64 x, .int .i64 (b : Int), .int .i64 (m : Int)] w fun e w' => e = .returned (.tuple #[.int .u64 (rorV x (b % m) m), .int .i64 0]) ∧ Fr Nil w w' := by
  by_cases h : m = 64
  · exact ror_64 x b m (64 - m) w x0 x1 hm (by omega) h hx
  · exact ror_lt x b m (64 - m) w x0 x1 hm (by omega) (by omega) hx
theorem ror_arg (x b m : Int) (w : World) (h : m < 1 ∨ 64 < m ∨ b < 0) : Calls Try.prog 17 #[.int .u64 x, .int .i64 b, .int .i64 m] w fun e w' => e = .returned (.tuple #[.int .u64 0, .int .i64 1]) ∧ Fr Nil w w' := by
  by_cases h1 : m < 1
  · clear h
    go_enter Try.func17, Try.ntmps17
    go_wp2
    all_goals go_ret2
    all_goals exact ⟨rfl, Fr.refl _ _⟩
  by_cases h2 : 64 < m
  · clear h
    have h3 : 1 ≤ m := by omega
    go_enter Try.func17, Try.ntmps17
    go_wp2
    all_goals go_ret2
    all_goals exact ⟨rfl, Fr.refl _ _⟩
  have h3 : 1 ≤ m := by omega
  have h4 : m ≤ 64 := by omega
  have h5 : b < 0 := by omega
  clear h
  go_enter Try.func17, Try.ntmps17
  go_wp2
  all_goals go_ret2
  all_goals exact ⟨rfl, Fr.refl _ _⟩
theorem ror_bits (x : Int) (b m : Nat) (w : World) (x0 : 0 ≤ x) (hm : 1 ≤ m) (hm64 : m < 64) (hx : 2 ^ m ≤ x) : Calls Try.prog 17 #[.int .u64 x, .int .i64 (b : Int), .int .i64 (m : Int)] w fun e w' => e = .returned (.tuple #[.int .u64 0, .int .i64 2]) ∧ Fr Nil w w' := by
  have b0 : (0 : Int) ≤ (b : Int) := by omega
  have m0 : (1 : Int) ≤ (m : Int) := by omega
  have m2 : (0 : Int) ≤ (m : Int) := by omega
  have m1 : (m : Int) ≤ 64 := by omega
  have m3 : (m : Int) < 64 := by omega
  have hp := pwp m
  have hz : ¬ x / 2 ^ m = 0 := by
    have : 1 ≤ x / 2 ^ m := (Int.le_ediv_iff_mul_le hp).2 (by omega)
    omega
  have hz2 : (x / 2 ^ m != 0) = true := by simpa using hz
  clear hx
  go_enter Try.func17, Try.ntmps17
  go_wp2
  all_goals go_ret2
  all_goals exact ⟨rfl, Fr.refl _ _⟩
end Go.Proofs.Ythmlkealefboaaa
