/- Contracts of the reference of chapter 01: bit, Field, Ror. -/
import Derived.Test.YthmlkealefboaaaLTurns
namespace Go.Proofs.Ythmlkealefboaaa
open Go.RowKit
set_option linter.unusedVariables false

theorem bit_ok (v : Int) (n : Nat) (w : World) (hn : n < 64) (v0 : 0 ≤ v) (v1 : v ≤ 18446744073709551615) : Calls Try.prog 23 #[.int .u64 v, .int .i64 (n : Int)] w fun e w' => e = .returned (.int .u64 (v / 2 ^ n % 2)) ∧ w = w' := by
  have hr := shr_rng v n v0 v1
  have e := and_low (v / 2 ^ n) 1 (by omega) hr.1 hr.2
  have e2 : (2 : Int) ^ 1 - 1 = 1 := rfl
  have e3 : (2 : Int) ^ 1 = 2 := rfl
  rw [e2, e3] at e
  rw [← e]
  clear e e2 e3
  have n0 : (0 : Int) ≤ (n : Int) := by omega
  have n1 : (n : Int) < 64 := by omega
  go_enter Try.func23, Try.ntmps23
  go_wp2
  go_ret
  exact ⟨rfl, rfl⟩
def lowN (X k : Nat) : Nat := X % 2 ^ k
def btN (X k : Nat) : Nat := X / 2 ^ k % 2
theorem low_zero (X : Nat) : lowN X 0 = 0 := by unfold lowN; simp [Nat.mod_one]
theorem or_nextR (X k : Nat) (hk : k < 64) : bits .or .u64 ((X % 2 ^ k : Nat) : Int) (IntKind.u64.wrap (((X / 2 ^ k % 2 : Nat) : Int) * 2 ^ k)) = ((X % 2 ^ (k + 1) : Nat) : Int) := by
  have hp := Nat.two_pow_pos k
  have hl := Nat.mod_lt X hp
  have hk63 : 2 ^ k ≤ 2 ^ 63 := Nat.pow_le_pow_right (by omega) (by omega)
  have hn : X % 2 ^ (k + 1) = X % 2 ^ k + 2 ^ k * (X / 2 ^ k % 2) := by rw [Nat.pow_succ, Nat.mod_mul]
  have hb : 2 ^ k * (X / 2 ^ k % 2) ≤ 2 ^ 63 := by
    rcases Nat.mod_two_eq_zero_or_one (X / 2 ^ k) with e | e <;> rw [e] <;> omega
  have e : IntKind.u64.wrap (((X / 2 ^ k % 2 : Nat) : Int) * 2 ^ k) = ((2 ^ k * (X / 2 ^ k % 2) : Nat) : Int) := by
    have : ((X / 2 ^ k % 2 : Nat) : Int) * 2 ^ k = ((2 ^ k * (X / 2 ^ k % 2) : Nat) : Int) := by rw [powN, Int.natCast_mul, Int.mul_comm]
    rw [this, IntKind.wrap_u64]
    omega
  rw [e, orN _ _ (by omega) (by omega), Nat.or_comm, ← Nat.two_pow_add_eq_or_of_lt hl, hn, Nat.add_comm]
theorem or_next (X k : Nat) (hk : k < 64) : bits .or .u64 (lowN X k : Int) (IntKind.u64.wrap ((btN X k : Int) * 2 ^ k)) = (lowN X (k + 1) : Int) := or_nextR X k hk
theorem bit_cast (v n : Nat) : (v : Int) / 2 ^ n % 2 = ((v / 2 ^ n % 2 : Nat) : Int) := by rw [powN]; rfl
theorem test_mod (a b i j : Nat) (h : a.testBit i = b.testBit j) : a / 2 ^ i % 2 = b / 2 ^ j % 2 := by
  rw [Nat.testBit_eq_decide_div_mod_eq, Nat.testBit_eq_decide_div_mod_eq, decide_eq_decide] at h
  omega
set_option maxHeartbeats 2000000 in
theorem rfield_ok (x p m : Nat) (w : World) (x1 : x < 2 ^ 32) (hm : 1 ≤ m) (hq : m + p ≤ 32) : Calls Try.prog 12 #[.int .u32 (x : Int), .int .i64 (p : Int), .int .i64 (m : Int)] w fun e w' => e = .returned (.tuple #[.int .u32 (fV (x : Int) p m), .int .i64 0]) ∧ Fr Nil w w' := by
  have p0 : (0 : Int) ≤ (p : Int) := by omega
  have p1 : (p : Int) ≤ 32 := by omega
  have m0 : (1 : Int) ≤ (m : Int) := by omega
  have m2 : (0 : Int) ≤ (m : Int) := by omega
  have m1 : (m : Int) ≤ 32 - (p : Int) := by omega
  have x0 : (0 : Int) ≤ (x : Int) := by omega
  have x2 : (x : Int) ≤ 4294967295 := by omega
  have hV : fV (x : Int) p m = (lowN (x / 2 ^ p) m : Int) := by unfold fV lowN; rw [powN, powN]; rfl
  rw [hV]
  clear hV
  have hlt : lowN (x / 2 ^ p) m < 2 ^ 32 := Nat.lt_of_le_of_lt (Nat.le_trans (Nat.mod_le _ _) (Nat.div_le_self _ _)) x1
  obtain ⟨X, hX⟩ : ∃ X, X = x / 2 ^ p := ⟨_, rfl⟩
  have HX := Lib.hid hX
  rw [← hX] at hlt ⊢
  clear hX
  go_enter Try.func12, Try.ntmps12
  go_wp2_with fail
  go_loopw [8, 9] (fun o i wr => ∃ k : Nat, k ≤ m ∧ i = .int .i64 (k : Int) ∧ o = .int .u64 (lowN X k : Int) ∧ Fr Nil w wr) (fun _ i _ => 100 - (intOf i).toNat)
  case atStart => exact ⟨0, by omega, rfl, by rw [low_zero]; rfl, Fr.refl _ _⟩
  case round =>
    obtain ⟨k, hk, rfl, rfl, F⟩ := hrel
    by_cases hc : k < m
    · have hcl : (k : Int) < (m : Int) := by omega
      have hdec : decide ((k : Int) < (m : Int)) = true := by simpa using hcl
      have k0 : (0 : Int) ≤ (k : Int) := by omega
      obtain ⟨n, hn⟩ : ∃ n, n = p + k := ⟨_, rfl⟩
      have en : (p : Int) + (k : Int) = (n : Int) := by omega
      have hor := or_next X k (by omega)
      have hb : (x : Int) / 2 ^ n % 2 = (btN X k : Int) := by
        rw [bit_cast, hn, HX.out]; unfold btN; rw [Nat.div_div_eq_div_mul, ← Nat.pow_add]
      have hn64 : n < 64 := by omega
      have Hor := Lib.hid hor
      have Hb := Lib.hid hb
      clear hor hb hn
      go_wp2_with fail
      refine (bit_ok (x : Int) n _ hn64 x0 (by omega)).mono ?_
      rintro e w2 ⟨rfl, rfl⟩
      rw [Hb.out]
      go_wp2_with fail
      exact ⟨⟨k + 1, by omega, by simp, by rw [← Hor.out], F⟩, by simp [intOf]; omega⟩
    · have he : k = m := by omega
      subst he
      have hw : (lowN X k : Int) % 4294967296 = (lowN X k : Int) := by omega
      have hw0 : (0 : Int) ≤ (lowN X k : Int) := by omega
      have hw1 : (lowN X k : Int) ≤ 4294967295 := by omega
      generalize hY : lowN X k = Y at *
      have HY := Lib.hid hY
      clear hY
      go_wp2_with fail
      go_ret2
      exact ⟨by rw [HY.out]; rfl, F⟩
end Go.Proofs.Ythmlkealefboaaa
