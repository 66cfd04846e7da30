/- The walk of BitsBack. -/
import Derived.Test.YthmlkealefboaaaEx
namespace Go.Proofs.Ythmlkealefboaaa
open Go.RowKit
set_option linter.unusedVariables false

def PU (x p m v y e : Int) : Prop := ∀ w, Calls Try.prog 13 #[.int .u32 x, .int .i64 p, .int .i64 m, .int .u32 v] w fun e' w' => e' = .returned (.tuple #[.int .u32 y, .int .i64 e]) ∧ Fr Nil w w'
def FI (x p m y e : Int) : Prop := ∀ w, Calls Try.prog 11 #[.int .u32 x, .int .i64 p, .int .i64 m] w fun e' w' => e' = .returned (.tuple #[.int .u32 y, .int .i64 e]) ∧ Fr Nil w w'
theorem u32_rng {a : Int} (h : (Lit.int .u32 a).wf = true) : 0 ≤ a ∧ a ≤ 4294967295 := by
  simp only [Lit.wf, Bool.and_eq_true, decide_eq_true_eq] at h
  exact h
theorem bb_arg (x p m v : Int) (w : World) (h1 : PU x p m v 0 1) : Calls Try.prog 7 #[.int .u32 x, .int .i64 p, .int .i64 m, .int .u32 v] w fun e w' => e = .returned (.bool true) ∧ Below w.heap.size w w' := by
  have H1 := Lib.hid h1
  clear h1
  go_enter Try.func7, Try.ntmps7
  go_wp2_with fail
  refine (examples_ok _).mono ?_
  rintro e w1 ⟨rfl, hf1⟩
  go_wp2_with fail
  refine (H1.out _).mono ?_
  rintro e w2 ⟨rfl, hf2⟩
  have F2 := hf1.trans hf2
  go_wp2_with fail
  all_goals go_ret
  all_goals exact ⟨by first | rfl | simp [*], F2.below (Nat.le_refl _) (fun _ _ => id)⟩
theorem bb_bits (x p m v : Int) (w : World) (h1 : PU x p m v 0 2) : Calls Try.prog 7 #[.int .u32 x, .int .i64 p, .int .i64 m, .int .u32 v] w fun e w' => e = .returned (.bool true) ∧ Below w.heap.size w w' := by
  have H1 := Lib.hid h1
  clear h1
  go_enter Try.func7, Try.ntmps7
  go_wp2_with fail
  refine (examples_ok _).mono ?_
  rintro e w1 ⟨rfl, hf1⟩
  go_wp2_with fail
  refine (H1.out _).mono ?_
  rintro e w2 ⟨rfl, hf2⟩
  have F2 := hf1.trans hf2
  go_wp2_with fail
  all_goals go_ret
  all_goals exact ⟨by first | rfl | simp [*], F2.below (Nat.le_refl _) (fun _ _ => id)⟩
theorem bb_ok (x p m v y old : Int) (w : World) (h1 : PU x p m v y 0) (h2 : FI y p m v 0) (h3 : FI x p m old 0) (h4 : PU y p m old x 0) : Calls Try.prog 7 #[.int .u32 x, .int .i64 p, .int .i64 m, .int .u32 v] w fun e w' => e = .returned (.bool true) ∧ Below w.heap.size w w' := by
  have H1 := Lib.hid h1
  have H2 := Lib.hid h2
  have H3 := Lib.hid h3
  have H4 := Lib.hid h4
  clear h1 h2 h3 h4
  go_enter Try.func7, Try.ntmps7
  go_wp2_with fail
  refine (examples_ok _).mono ?_
  rintro e w1 ⟨rfl, hf1⟩
  go_wp2_with fail
  refine (H1.out _).mono ?_
  rintro e w2 ⟨rfl, hf2⟩
  have F2 := hf1.trans hf2
  clear hf1 hf2
  go_wp2_with fail
  refine (H2.out _).mono ?_
  rintro e w3 ⟨rfl, hf3⟩
  have F3 := F2.trans hf3
  clear F2 hf3
  go_wp2_with fail
  refine (H3.out _).mono ?_
  rintro e w4 ⟨rfl, hf4⟩
  have F4 := F3.trans hf4
  clear F3 hf4
  go_wp2_with fail
  refine (H4.out _).mono ?_
  rintro e w5 ⟨rfl, hf5⟩
  have F5 := F4.trans hf5
  clear F4 hf5
  go_wp2_with fail
  all_goals go_ret
  all_goals exact ⟨by first | rfl | simp [*], F5.below (Nat.le_refl _) (fun _ _ => id)⟩
theorem put_div (x v : Int) (p m : Nat) : putV x p m v / 2 ^ p = v + 2 ^ m * (x / 2 ^ p / 2 ^ m) := by
  have hp := pwp p
  unfold putV
  rw [Int.add_mul_ediv_left _ _ (by omega), Int.ediv_eq_zero_of_lt (Int.emod_nonneg _ (by omega)) (Int.emod_lt_of_pos _ hp), Int.zero_add]
theorem put_mod (x v : Int) (p m : Nat) : putV x p m v % 2 ^ p = x % 2 ^ p := by
  unfold putV
  rw [Int.add_mul_emod_self_left, Int.emod_emod]
theorem put_top (x v : Int) (p m : Nat) (v0 : 0 ≤ v) (v1 : v < 2 ^ m) : putV x p m v / 2 ^ p / 2 ^ m = x / 2 ^ p / 2 ^ m := by
  have hm := pwp m
  rw [put_div, Int.add_mul_ediv_left _ _ (by omega), Int.ediv_eq_zero_of_lt v0 v1, Int.zero_add]
theorem put_get (x v : Int) (p m : Nat) (v0 : 0 ≤ v) (v1 : v < 2 ^ m) : fV (putV x p m v) p m = v := by
  unfold fV
  rw [put_div, Int.add_mul_emod_self_left, Int.emod_eq_of_lt v0 v1]
theorem put_same (x : Int) (p m : Nat) : putV x p m (fV x p m) = x := by
  unfold putV fV
  have h1 := Int.mul_ediv_add_emod (x / 2 ^ p) (2 ^ m)
  have h2 := Int.mul_ediv_add_emod x (2 ^ p)
  rw [Int.add_comm (x / 2 ^ p % 2 ^ m), h1]
  omega
theorem put_back (x v : Int) (p m : Nat) (v0 : 0 ≤ v) (v1 : v < 2 ^ m) : putV (putV x p m v) p m (fV x p m) = x := by
  have e : putV (putV x p m v) p m (fV x p m) = putV x p m (fV x p m) := by
    show putV x p m v % 2 ^ p + 2 ^ p * (fV x p m + 2 ^ m * (putV x p m v / 2 ^ p / 2 ^ m)) = _
    rw [put_mod, put_top x v p m v0 v1]
    rfl
  rw [e, put_same]
theorem put_rng (x v : Int) (p m : Nat) (x0 : 0 ≤ x) (x1 : x ≤ 4294967295) (v0 : 0 ≤ v) (v1 : v < 2 ^ m) (hq : m + p ≤ 32) : 0 ≤ putV x p m v ∧ putV x p m v ≤ 4294967295 := by
  have e := put_eq x v p m x0 x1 v0 v1 hq
  rw [← e]
  have : ∀ a b : Int, 0 ≤ bits .or .u32 a b ∧ bits .or .u32 a b ≤ 4294967295 := by
    intro a b
    have h : bits .or .u32 a b = IntKind.u32.wrap (((BitVec.ofInt 32 a ||| BitVec.ofInt 32 b).toNat : Nat) : Int) := rfl
    rw [h, IntKind.wrap_u32]
    omega
  exact this _ _
theorem fV_rng (x : Int) (p m : Nat) (hq : m + p ≤ 32) : 0 ≤ fV x p m ∧ fV x p m < 2 ^ m ∧ fV x p m ≤ 4294967295 := by
  have hm := pwp m
  have h1 := Int.emod_nonneg (x / 2 ^ p) (show (2 : Int) ^ m ≠ 0 by omega)
  have h2 := Int.emod_lt_of_pos (x / 2 ^ p) hm
  have h3 := pow_le32 m (by omega)
  unfold fV
  omega
theorem bitsBack_walk (a1 a2 a3 a4 : Int) (w : World) (w1 : (Lit.int .u32 a1).wf = true) (w2 : (Lit.int .i64 a2).wf = true) (w3 : (Lit.int .i64 a3).wf = true) (w4 : (Lit.int .u32 a4).wf = true) :
    Calls Try.prog 7 #[.int .u32 a1, .int .i64 a2, .int .i64 a3, .int .u32 a4] w fun e w' => e = .returned (.bool true) ∧ Below w.heap.size w w' := by
  obtain ⟨x0, x1⟩ := u32_rng w1
  obtain ⟨v0, v1⟩ := u32_rng w4
  by_cases h : a2 < 0 ∨ a3 < 1 ∨ 32 < a2 ∨ 32 - a2 < a3
  · exact bb_arg a1 a2 a3 a4 w (fun w => put_bad a1 a4 a2 a3 w h)
  obtain ⟨p, rfl⟩ : ∃ p : Nat, a2 = (p : Int) := ⟨a2.toNat, by omega⟩
  obtain ⟨m, rfl⟩ : ∃ m : Nat, a3 = (m : Int) := ⟨a3.toNat, by omega⟩
  have hm : 1 ≤ m := by omega
  have hq : m + p ≤ 32 := by omega
  by_cases hb : a4 < 2 ^ m
  · obtain ⟨y0, y1⟩ := put_rng a1 a4 p m x0 x1 v0 hb hq
    obtain ⟨f0, f1, f2⟩ := fV_rng a1 p m hq
    have h1 : PU a1 p m a4 (putV a1 p m a4) 0 := fun w => put_ok a1 a4 p m w x0 x1 v0 v1 hb hm hq
    have h2 : FI (putV a1 p m a4) p m a4 0 := by
      intro w
      have h := field_ok (putV a1 p m a4) p m w y0 y1 hm hq
      rw [put_get a1 a4 p m v0 hb] at h
      exact h
    have h3 : FI a1 p m (fV a1 p m) 0 := fun w => field_ok a1 p m w x0 x1 hm hq
    have h4 : PU (putV a1 p m a4) p m (fV a1 p m) a1 0 := by
      intro w
      have h := put_ok (putV a1 p m a4) (fV a1 p m) p m w y0 y1 f0 f2 f1 hm hq
      rw [put_back a1 a4 p m v0 hb] at h
      exact h
    exact bb_ok a1 p m a4 _ _ w h1 h2 h3 h4
  · exact bb_bits a1 p m a4 w (fun w => put_bits a1 a4 p m w x0 x1 v0 v1 (by omega) hm hq)
end Go.Proofs.Ythmlkealefboaaa
