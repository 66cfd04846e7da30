/- The walk of BitsNumbers. -/
import Derived.Test.YthmlkealefboaaaEx
import Derived.Test.YthmlkealefboaaaRSgn
namespace Go.Proofs.Ythmlkealefboaaa
open Go.RowKit
set_option linter.unusedVariables false

theorem bn_walk (v b m s f r g : Int) (w : World)
    (hA : ∀ w, Calls Try.prog 15 #[.int .u64 v, .int .i64 m] w fun e w' => e = .returned (.tuple #[.int .u64 s, .int .i64 f]) ∧ Fr Nil w w')
    (hB : ∀ w, Calls Try.prog 16 #[.int .u64 v, .int .i64 m] w fun e w' => e = .returned (.tuple #[.int .u64 s, .int .i64 f]) ∧ Fr Nil w w')
    (hC : ∀ w, Calls Try.prog 17 #[.int .u64 v, .int .i64 b, .int .i64 m] w fun e w' => e = .returned (.tuple #[.int .u64 r, .int .i64 g]) ∧ Fr Nil w w')
    (hD : ∀ w, Calls Try.prog 18 #[.int .u64 v, .int .i64 b, .int .i64 m] w fun e w' => e = .returned (.tuple #[.int .u64 r, .int .i64 g]) ∧ Fr Nil w w') :
    Calls Try.prog 4 #[.int .u64 v, .int .i64 b, .int .i64 m] w fun e w' => e = .returned (.bool true) ∧ Below w.heap.size w w' := by
  have HA := Lib.hid hA
  have HB := Lib.hid hB
  have HC := Lib.hid hC
  have HD := Lib.hid hD
  clear hA hB hC hD
  go_enter Try.func4, Try.ntmps4
  go_wp2_with fail
  refine (examples_ok _).mono ?_
  rintro e w2 ⟨rfl, hf2⟩
  go_wp2_with fail
  refine (HA.out _).mono ?_
  rintro e w3 ⟨rfl, hf3⟩
  have F3 := hf2.trans hf3
  clear hf2 hf3
  go_wp2_with fail
  refine (HB.out _).mono ?_
  rintro e w4 ⟨rfl, hf4⟩
  have F4 := F3.trans hf4
  clear F3 hf4
  go_wp2_with fail
  refine (HC.out _).mono ?_
  rintro e w5 ⟨rfl, hf5⟩
  have F5 := F4.trans hf5
  clear F4 hf5
  go_wp2_with fail
  refine (HD.out _).mono ?_
  rintro e w6 ⟨rfl, hf6⟩
  have F6 := F5.trans hf6
  clear F5 hf6
  go_wp2_with fail
  go_ret
  exact ⟨by first | rfl | simp [*], F6.below (Nat.le_refl _) (fun _ _ => id)⟩
def SG (i : Nat) (v m s f : Int) : Prop := ∀ w, Calls Try.prog i #[.int .u64 v, .int .i64 m] w fun e w' => e = .returned (.tuple #[.int .u64 s, .int .i64 f]) ∧ Fr Nil w w'
def RR (i : Nat) (v b m r g : Int) : Prop := ∀ w, Calls Try.prog i #[.int .u64 v, .int .i64 b, .int .i64 m] w fun e w' => e = .returned (.tuple #[.int .u64 r, .int .i64 g]) ∧ Fr Nil w w'
theorem sg_both (v : Nat) (m : Int) (hv : v < 2 ^ 64) : ∃ s f, SG 15 v m s f ∧ SG 16 v m s f := by
  by_cases h : m < 1 ∨ 64 < m
  · refine ⟨0, 1, fun w => (signed_bad v m w h).mono ?_, fun w => (rsigned_bad v m w h).mono ?_⟩
    all_goals rintro e w2 ⟨rfl, rfl⟩
    all_goals exact ⟨rfl, Fr.refl _ _⟩
  · obtain ⟨n, rfl⟩ : ∃ n : Nat, m = (n : Int) := ⟨m.toNat, by omega⟩
    obtain ⟨u, hu⟩ : ∃ u, u = 64 - n := ⟨_, rfl⟩
    refine ⟨(sgN v u : Int), 0, fun w => ?_, fun w => rsigned_ok v n u w hv (by omega) (by omega)⟩
    have h2 := signed_ok (v : Int) n u w
    rw [sg_same v n u (by omega) (by omega) hv] at h2
    refine (h2 (by omega) (by omega) (by omega) (by omega)).mono ?_
    rintro e w2 ⟨rfl, rfl⟩
    exact ⟨rfl, Fr.refl _ _⟩
theorem rr_both (v : Nat) (b m : Int) (hv : v < 2 ^ 64) : ∃ r g, RR 17 v b m r g ∧ RR 18 v b m r g := by
  by_cases h : m < 1 ∨ 64 < m ∨ b < 0
  · exact ⟨0, 1, fun w => ror_arg v b m w (by omega), fun w => rror_arg v b m w h⟩
  · obtain ⟨n, rfl⟩ : ∃ n : Nat, m = (n : Int) := ⟨m.toNat, by omega⟩
    obtain ⟨b, rfl⟩ : ∃ n : Nat, b = (n : Int) := ⟨b.toNat, by omega⟩
    by_cases hb : v < 2 ^ n
    · exact ⟨_, 0, ro_ok v b n (by omega) (by omega) hb hv, fun w => rror_ok v b n w hv (by omega) (by omega) hb⟩
    · have hn : n < 64 := by
        rcases Nat.lt_or_ge n 64 with h | h
        · exact h
        · have : n = 64 := by omega
          subst this
          exact absurd hv hb
      exact ⟨0, 2, fun w => ror_bits (v : Int) b n w (by omega) (by omega) hn (by rw [powN]; omega), fun w => rror_bits (v : Int) b n w (by omega) (by omega) hn (by rw [powN]; omega)⟩
theorem bitsNumbers_walk (a1 a2 a3 : Int) (w : World) (w1 : (Lit.int .u64 a1).wf = true) (w2 : (Lit.int .i64 a2).wf = true) (w3 : (Lit.int .i64 a3).wf = true) :
    Calls Try.prog 4 #[.int .u64 a1, .int .i64 a2, .int .i64 a3] w fun e w' => e = .returned (.bool true) ∧ Below w.heap.size w w' := by
  obtain ⟨v0, v1⟩ := u64_rng w1
  obtain ⟨v, rfl⟩ : ∃ v : Nat, a1 = (v : Int) := ⟨a1.toNat, by omega⟩
  obtain ⟨s, f, hA, hB⟩ := sg_both v a3 (by omega)
  obtain ⟨r, g, hC, hD⟩ := rr_both v a2 a3 (by omega)
  exact bn_walk v a2 a3 s f r g w hA hB hC hD
end Go.Proofs.Ythmlkealefboaaa
