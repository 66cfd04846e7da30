/- The walk of BitsTurns. -/
import Derived.Test.YthmlkealefboaaaEx
import Derived.Test.YthmlkealefboaaaRows
namespace Go.Proofs.Ythmlkealefboaaa
open Go.RowKit
set_option linter.unusedVariables false

def rorN (v t m : Nat) : Nat := v / 2 ^ t + (v % 2 ^ t) * 2 ^ (m - t)
theorem rorV_nat (v t m : Nat) : rorV (v : Int) t m = (rorN v t m : Int) := by
  unfold rorV rorN
  rw [powN t, powN (m - t), Int.natCast_add, Int.natCast_mul]
  rfl
theorem ror_testBit (v t m i : Nat) (ht : t < m) (hv : v < 2 ^ m) (hi : i < m) : (rorN v t m).testBit i = v.testBit ((i + t) % m) := by
  have hmr : 2 ^ m = 2 ^ t * 2 ^ (m - t) := by rw [← Nat.pow_add]; congr 1; omega
  have hlt : v / 2 ^ t < 2 ^ (m - t) := by
    rw [Nat.div_lt_iff_lt_mul (Nat.two_pow_pos t), Nat.mul_comm, ← hmr]; exact hv
  have e : rorN v t m = 2 ^ (m - t) * (v % 2 ^ t) ||| v / 2 ^ t := by
    unfold rorN
    rw [← Nat.two_pow_add_eq_or_of_lt hlt, Nat.mul_comm, Nat.add_comm]
  rw [e, Nat.testBit_or, Nat.testBit_two_pow_mul, Nat.testBit_mod_two_pow, ← Nat.shiftRight_eq_div_pow, Nat.testBit_shiftRight]
  by_cases h : i < m - t
  · rw [Nat.mod_eq_of_lt (by omega : i + t < m)]
    simp [show ¬ m - t ≤ i by omega, Nat.add_comm t i]
  · have e2 : (i + t) % m = i - (m - t) := by
      rw [Nat.mod_eq_sub_mod (by omega), Nat.mod_eq_of_lt (by omega)]
      omega
    have hz : v.testBit (t + i) = false := Nat.testBit_lt_two_pow (Nat.lt_of_lt_of_le hv (Nat.pow_le_pow_right (by omega) (by omega)))
    rw [e2, hz]
    simp [show m - t ≤ i by omega, show i - (m - t) < t by omega]
theorem rorN_lt (v t m : Nat) (ht : t < m) (hv : v < 2 ^ m) : rorN v t m < 2 ^ m := by
  have hmr : 2 ^ m = 2 ^ t * 2 ^ (m - t) := by rw [← Nat.pow_add]; congr 1; omega
  have hlt : v / 2 ^ t < 2 ^ (m - t) := by
    rw [Nat.div_lt_iff_lt_mul (Nat.two_pow_pos t), Nat.mul_comm, ← hmr]; exact hv
  have h1 := Nat.mod_lt v (Nat.two_pow_pos t)
  unfold rorN
  have h2 : (v % 2 ^ t) * 2 ^ (m - t) ≤ (2 ^ t - 1) * 2 ^ (m - t) := Nat.mul_le_mul_right _ (by omega)
  have h3 : (2 ^ t - 1) * 2 ^ (m - t) = 2 ^ m - 2 ^ (m - t) := by rw [Nat.sub_mul, Nat.one_mul, ← hmr]
  have h4 : 2 ^ (m - t) ≤ 2 ^ m := Nat.pow_le_pow_right (by omega) (by omega)
  omega
theorem ror_twice (v a b m : Nat) (hm : 1 ≤ m) (hv : v < 2 ^ m) : rorN (rorN v (a % m) m) (b % m) m = rorN v ((a + b) % m) m := by
  have ha := Nat.mod_lt a (show 0 < m by omega)
  have hb := Nat.mod_lt b (show 0 < m by omega)
  have hc := Nat.mod_lt (a + b) (show 0 < m by omega)
  have h1 := rorN_lt v (a % m) m ha hv
  apply Nat.eq_of_testBit_eq
  intro i
  by_cases hi : i < m
  · rw [ror_testBit _ _ _ _ hb h1 hi, ror_testBit _ _ _ _ ha hv (Nat.mod_lt _ (by omega)), ror_testBit _ _ _ _ hc hv hi]
    congr 1
    rw [Nat.add_mod_mod, Nat.add_mod_mod, Nat.add_mod ((i + b) % m) a, Nat.mod_mod, ← Nat.add_mod]
    rw [Nat.add_mod_mod]
    congr 1
    omega
  · have q1 := rorN_lt _ _ m hb h1
    have q2 := rorN_lt _ _ m hc hv
    have hp : 2 ^ m ≤ 2 ^ i := Nat.pow_le_pow_right (by omega) (by omega)
    rw [Nat.testBit_lt_two_pow (by omega), Nat.testBit_lt_two_pow (by omega)]
theorem ror_zero (v m : Nat) : rorN v 0 m = v := by
  unfold rorN
  simp [Nat.mod_one]
def RO (x b m v e : Int) : Prop := ∀ w, Calls Try.prog 17 #[.int .u64 x, .int .i64 b, .int .i64 m] w fun e' w' => e' = .returned (.tuple #[.int .u64 v, .int .i64 e]) ∧ Fr Nil w w'
theorem bt_out (v a b m : Int) (w : World) (h : a < 0 ∨ b < 0 ∨ 1073741824 < a ∨ 1073741824 < b) : Calls Try.prog 9 #[.int .u64 v, .int .i64 a, .int .i64 b, .int .i64 m] w fun e w' => e = .returned (.bool true) ∧ Below w.heap.size w w' := by
  by_cases h1 : a < 0
  · clear h
    go_enter Try.func9, Try.ntmps9
    go_wp2_with fail
    refine (examples_ok _).mono ?_
    rintro e w1 ⟨rfl, hf1⟩
    go_wp2_with fail
    all_goals go_ret
    all_goals exact ⟨by first | rfl | simp [*], hf1.below (Nat.le_refl _) (fun _ _ => id)⟩
  have g1 : 0 ≤ a := by omega
  by_cases h2 : b < 0
  · clear h
    go_enter Try.func9, Try.ntmps9
    go_wp2_with fail
    refine (examples_ok _).mono ?_
    rintro e w1 ⟨rfl, hf1⟩
    go_wp2_with fail
    all_goals go_ret
    all_goals exact ⟨by first | rfl | simp [*], hf1.below (Nat.le_refl _) (fun _ _ => id)⟩
  have g2 : 0 ≤ b := by omega
  by_cases h3 : 1073741824 < a
  · clear h
    go_enter Try.func9, Try.ntmps9
    go_wp2_with fail
    refine (examples_ok _).mono ?_
    rintro e w1 ⟨rfl, hf1⟩
    go_wp2_with fail
    all_goals go_ret
    all_goals exact ⟨by first | rfl | simp [*], hf1.below (Nat.le_refl _) (fun _ _ => id)⟩
  have g3 : a ≤ 1073741824 := by omega
  have h4 : 1073741824 < b := by omega
  clear h
  go_enter Try.func9, Try.ntmps9
  go_wp2_with fail
  refine (examples_ok _).mono ?_
  rintro e w1 ⟨rfl, hf1⟩
  go_wp2_with fail
  all_goals go_ret
  all_goals exact ⟨by first | rfl | simp [*], hf1.below (Nat.le_refl _) (fun _ _ => id)⟩
theorem bt_arg (v a b m : Int) (w : World) (a0 : 0 ≤ a) (b0 : 0 ≤ b) (a1 : a ≤ 1073741824) (b1 : b ≤ 1073741824) (h1 : RO v a m 0 1) : Calls Try.prog 9 #[.int .u64 v, .int .i64 a, .int .i64 b, .int .i64 m] w fun e w' => e = .returned (.bool true) ∧ Below w.heap.size w w' := by
  have H1 := Lib.hid h1
  clear h1
  go_enter Try.func9, Try.ntmps9
  go_wp2_with fail
  refine (examples_ok _).mono ?_
  rintro e w1 ⟨rfl, hf1⟩
  go_wp2_with fail
  refine (H1.out _).mono ?_
  rintro e w2 ⟨rfl, hf2⟩
  have F2 := hf1.trans hf2
  go_wp2_with fail
  all_goals go_ret
  all_goals exact ⟨by first | rfl | simp [*], F2.below (Nat.le_refl _) (fun _ _ => id)⟩
theorem bt_bits (v a b m : Int) (w : World) (a0 : 0 ≤ a) (b0 : 0 ≤ b) (a1 : a ≤ 1073741824) (b1 : b ≤ 1073741824) (h1 : RO v a m 0 2) : Calls Try.prog 9 #[.int .u64 v, .int .i64 a, .int .i64 b, .int .i64 m] w fun e w' => e = .returned (.bool true) ∧ Below w.heap.size w w' := by
  have H1 := Lib.hid h1
  clear h1
  go_enter Try.func9, Try.ntmps9
  go_wp2_with fail
  refine (examples_ok _).mono ?_
  rintro e w1 ⟨rfl, hf1⟩
  go_wp2_with fail
  refine (H1.out _).mono ?_
  rintro e w2 ⟨rfl, hf2⟩
  have F2 := hf1.trans hf2
  go_wp2_with fail
  all_goals go_ret
  all_goals exact ⟨by first | rfl | simp [*], F2.below (Nat.le_refl _) (fun _ _ => id)⟩
theorem bt_ok (v a b m x y s : Int) (w : World) (a0 : 0 ≤ a) (b0 : 0 ≤ b) (a1 : a ≤ 1073741824) (b1 : b ≤ 1073741824) (es : a + b = s) (h1 : RO v a m x 0) (h2 : RO x b m y 0) (h3 : RO v s m y 0) (h4 : RO v m m v 0) : Calls Try.prog 9 #[.int .u64 v, .int .i64 a, .int .i64 b, .int .i64 m] w fun e w' => e = .returned (.bool true) ∧ Below w.heap.size w w' := by
  have H1 := Lib.hid h1
  have H2 := Lib.hid h2
  have H3 := Lib.hid h3
  have H4 := Lib.hid h4
  clear h1 h2 h3 h4
  go_enter Try.func9, Try.ntmps9
  go_wp2_with fail
  refine (examples_ok _).mono ?_
  rintro e w1 ⟨rfl, hf1⟩
  go_wp2_with fail
  refine (H1.out _).mono ?_
  rintro e w2 ⟨rfl, hf2⟩
  have F2 := hf1.trans hf2
  clear hf1 hf2
  go_wp2_with fail
  refine (H2.out _).mono ?_
  rintro e w3 ⟨rfl, hf3⟩
  have F3 := F2.trans hf3
  clear F2 hf3
  go_wp2_with fail
  refine (H3.out _).mono ?_
  rintro e w4 ⟨rfl, hf4⟩
  have F4 := F3.trans hf4
  clear F3 hf4
  go_wp2_with fail
  refine (H4.out _).mono ?_
  rintro e w5 ⟨rfl, hf5⟩
  have F5 := F4.trans hf5
  clear F4 hf5
  go_wp2_with fail
  all_goals go_ret
  all_goals exact ⟨by first | rfl | simp [*], F5.below (Nat.le_refl _) (fun _ _ => id)⟩
theorem u64_rng {a : Int} (h : (Lit.int .u64 a).wf = true) : 0 ≤ a ∧ a ≤ 18446744073709551615 := by
  simp only [Lit.wf, Bool.and_eq_true, decide_eq_true_eq] at h
  exact h
theorem ro_ok (v b m : Nat) (hm : 1 ≤ m) (h64 : m ≤ 64) (hv : v < 2 ^ m) (hv2 : v < 2 ^ 64) : RO (v : Int) (b : Int) (m : Int) (rorN v (b % m) m : Int) 0 := by
  intro w
  have h := ror_ok (v : Int) b m w (by omega) (by omega) hm h64 (by rw [powN]; omega)
  rw [rorV_nat] at h
  exact h
theorem bitsTurns_walk (a1 a2 a3 a4 : Int) (w : World) (w1 : (Lit.int .u64 a1).wf = true) (w2 : (Lit.int .i64 a2).wf = true) (w3 : (Lit.int .i64 a3).wf = true) (w4 : (Lit.int .i64 a4).wf = true) :
    Calls Try.prog 9 #[.int .u64 a1, .int .i64 a2, .int .i64 a3, .int .i64 a4] w fun e w' => e = .returned (.bool true) ∧ Below w.heap.size w w' := by
  obtain ⟨v0, v1⟩ := u64_rng w1
  by_cases h : a2 < 0 ∨ a3 < 0 ∨ 1073741824 < a2 ∨ 1073741824 < a3
  · exact bt_out a1 a2 a3 a4 w h
  by_cases hm : a4 < 1 ∨ 64 < a4
  · exact bt_arg a1 a2 a3 a4 w (by omega) (by omega) (by omega) (by omega) (fun w => ror_arg a1 a2 a4 w (by omega))
  obtain ⟨v, rfl⟩ : ∃ v : Nat, a1 = (v : Int) := ⟨a1.toNat, by omega⟩
  obtain ⟨a, rfl⟩ : ∃ a : Nat, a2 = (a : Int) := ⟨a2.toNat, by omega⟩
  obtain ⟨b, rfl⟩ : ∃ b : Nat, a3 = (b : Int) := ⟨a3.toNat, by omega⟩
  obtain ⟨m, rfl⟩ : ∃ m : Nat, a4 = (m : Int) := ⟨a4.toNat, by omega⟩
  have hv64 : v < 2 ^ 64 := by omega
  by_cases hb : v < 2 ^ m
  · have hx := rorN_lt v (a % m) m (Nat.mod_lt _ (by omega)) hb
    have hx2 : rorN v (a % m) m < 2 ^ 64 := Nat.lt_of_lt_of_le hx (Nat.pow_le_pow_right (by omega) (by omega))
    have h1 := ro_ok v a m (by omega) (by omega) hb hv64
    have h2 := ro_ok (rorN v (a % m) m) b m (by omega) (by omega) hx hx2
    have h3 := ro_ok v (a + b) m (by omega) (by omega) hb hv64
    have h4 := ro_ok v m m (by omega) (by omega) hb hv64
    rw [Nat.mod_self, ror_zero] at h4
    rw [ror_twice v a b m (by omega) hb] at h2
    exact bt_ok _ _ _ _ _ _ _ w (by omega) (by omega) (by omega) (by omega) (by rw [Int.natCast_add]) h1 h2 h3 h4
  · have hm64 : m < 64 := by
      rcases Nat.lt_or_ge m 64 with h | h
      · exact h
      · have : m = 64 := by omega
        subst this
        exact absurd hv64 hb
    exact bt_bits _ _ _ _ w (by omega) (by omega) (by omega) (by omega) (fun w => ror_bits (v : Int) a m w (by omega) (by omega) hm64 (by rw [powN]; omega))
end Go.Proofs.Ythmlkealefboaaa
