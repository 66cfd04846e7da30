/- Rows of bits. -/
import Derived.Test.YtpcpjmbfinpmlaaDoorNum
import Derived.Test.YtpcpjmbfinpmlaaDoorBase3
set_option linter.unusedSimpArgs false
set_option linter.unusedVariables false
set_option linter.unusedSectionVars false
namespace Go.Proofs.YtpcpjmbfinpmlaaDoor
open Go.RowKit

/-- The number whose bits are told. -/
def bs (f : Nat → Bool) : Nat → Nat
  | 0 => 0
  | k + 1 => bs f k ||| (if f k = true then 2 ^ k else 0)
theorem bs_lt (f : Nat → Bool) : ∀ k, bs f k < 2 ^ k
  | 0 => Nat.zero_lt_one
  | k + 1 => by
    have := bs_lt f k
    unfold bs
    refine Nat.or_lt_two_pow (Nat.lt_of_lt_of_le this (Nat.pow_le_pow_right (by decide) (Nat.le_succ k))) ?_
    split
    · exact Nat.pow_lt_pow_right (by decide) (Nat.lt_succ_self k)
    · exact Nat.two_pow_pos _
theorem bs_bit (f : Nat → Bool) : ∀ k i, (bs f k).testBit i = (decide (i < k) && f i)
  | 0, i => by simp [bs]
  | k + 1, i => by
    unfold bs
    rw [Nat.testBit_or, bs_bit f k i]
    by_cases e : i = k
    · subst e
      cases hf : f i
      · simp
      · simp [Nat.testBit_two_pow_self]
    · have h1 : decide (i < k + 1) = decide (i < k) := by simp; omega
      have h2 : (if f k = true then 2 ^ k else 0).testBit i = false := by
        split
        · exact Nat.testBit_two_pow_of_ne (fun h => e h.symm)
        · simp
      rw [h1, h2, Bool.or_false]
def bw (f : Nat → Bool) : Nat := bs f 64
theorem bw_lt (f : Nat → Bool) : bw f < 2 ^ 64 := bs_lt f 64
theorem bw_bit (f : Nat → Bool) (i : Nat) : (bw f).testBit i = (decide (i < 64) && f i) := bs_bit f 64 i
theorem bw_congr {f g : Nat → Bool} (h : ∀ i, i < 64 → f i = g i) : bw f = bw g := by
  apply Nat.eq_of_testBit_eq
  intro i
  rw [bw_bit, bw_bit]
  by_cases hi : i < 64
  · rw [h i hi]
  · simp [hi]
theorem bw_inj {f g : Nat → Bool} (h : bw f = bw g) {i : Nat} (hi : i < 64) : f i = g i := by
  have := congrArg (fun x => Nat.testBit x i) h
  simp only [bw_bit] at this
  simpa [hi] using this
theorem bw_of {x : Nat} (h : x < 2 ^ 64) : bw x.testBit = x := by
  apply Nat.eq_of_testBit_eq
  intro i
  rw [bw_bit]
  by_cases hi : i < 64
  · simp [hi]
  · have : x.testBit i = false := Nat.testBit_lt_two_pow (Nat.lt_of_lt_of_le h (Nat.pow_le_pow_right (by decide) (by omega)))
    simp [hi, this]
theorem bw_or (f g : Nat → Bool) : bw f ||| bw g = bw fun i => f i || g i := by
  apply Nat.eq_of_testBit_eq
  intro i
  rw [Nat.testBit_or, bw_bit, bw_bit, bw_bit]
  cases decide (i < 64) <;> simp
theorem bw_and (f g : Nat → Bool) : bw f &&& bw g = bw fun i => f i && g i := by
  apply Nat.eq_of_testBit_eq
  intro i
  rw [Nat.testBit_and, bw_bit, bw_bit, bw_bit]
  cases decide (i < 64) <;> simp
theorem bw_zero : bw (fun _ => false) = 0 := by
  apply Nat.eq_of_testBit_eq
  intro i
  rw [bw_bit]
  simp
theorem bw_one {b : Nat} (h : b < 64) : bw (fun i => decide (i = b)) = 2 ^ b := by
  apply Nat.eq_of_testBit_eq
  intro i
  rw [bw_bit, Nat.testBit_two_pow]
  by_cases e : i = b
  · subst e; simp [h]
  · have e2 : ¬ b = i := fun q => e q.symm
    simp [e, e2]
theorem bw_set (f : Nat → Bool) {b : Nat} (h : b < 64) : bw f ||| 2 ^ b = bw (upd f b true) := by
  rw [← bw_one h, bw_or]
  refine bw_congr fun i _ => ?_
  by_cases e : i = b
  · subst e; simp [upd]
  · simp [upd, e]
theorem bw_get (f : Nat → Bool) {b : Nat} (h : b < 64) : (bits .and .u64 ((bw f : Int) / 2 ^ b) 1 == 1) = f b := by
  have e : ((bw f : Nat) : Int) / 2 ^ b = ((bw f / 2 ^ b : Nat) : Int) := by rw [powN]; rfl
  have hl : bw f / 2 ^ b < 2 ^ 64 := Nat.lt_of_le_of_lt (Nat.div_le_self _ _) (bw_lt f)
  rw [e, show (1 : Int) = ((1 : Nat) : Int) from rfl, bitsN _ _ hl (by decide), Nat.and_one_is_mod]
  have hb := bw_bit f b
  rw [Nat.testBit_eq_decide_div_mod_eq] at hb
  cases hf : f b
  · rw [hf] at hb
    simp at hb
    have : bw f / 2 ^ b % 2 = 0 := by omega
    rw [this]
    rfl
  · rw [hf] at hb
    simp [h] at hb
    rw [hb]
    rfl
/-! ### The lowest bit -/
theorem low_ex (f : Nat → Bool) : ∀ n, (∃ i, i < n ∧ f i = true) → ∃ t, t < n ∧ f t = true ∧ ∀ i, i < t → f i = false
  | 0, ⟨i, h, _⟩ => absurd h (by omega)
  | n + 1, ⟨i, h, hf⟩ => by
    by_cases hx : ∃ i, i < n ∧ f i = true
    · obtain ⟨t, h1, h2, h3⟩ := low_ex f n hx
      exact ⟨t, by omega, h2, h3⟩
    · have hall : ∀ j, j < n → f j = false := fun j hj => by
        cases hq : f j
        · rfl
        · exact absurd ⟨j, hj, hq⟩ hx
      have : i = n := by
        refine Classical.byContradiction fun hne => ?_
        have := hall i (by omega)
        rw [hf] at this
        cases this
      subst this
      exact ⟨i, by omega, hf, hall⟩
theorem bw_ne {f : Nat → Bool} (h : bw f ≠ 0) : ∃ t, t < 64 ∧ f t = true ∧ ∀ i, i < t → f i = false := by
  apply low_ex
  refine Classical.byContradiction fun hn => h ?_
  rw [← bw_zero]
  refine bw_congr fun i hi => ?_
  cases hq : f i
  · rfl
  · exact absurd ⟨i, hi, hq⟩ hn
theorem bw_eq0 {f : Nat → Bool} (h : bw f = 0) {i : Nat} (hi : i < 64) : f i = false := by
  rw [← bw_zero] at h
  exact bw_inj h hi
section
variable {f : Nat → Bool} {t : Nat} (ht : t < 64) (hf : f t = true) (hl : ∀ i, i < t → f i = false)
include ht hf hl
theorem low_split : bw f = 2 ^ (t + 1) * (bw f / 2 ^ (t + 1)) + 2 ^ t := by
  have e : bw f % 2 ^ (t + 1) = 2 ^ t := by
    apply Nat.eq_of_testBit_eq
    intro i
    rw [Nat.testBit_mod_two_pow, bw_bit, Nat.testBit_two_pow]
    by_cases h : i = t
    · subst h; simp [hf]; omega
    · have h2 : ¬ t = i := fun q => h q.symm
      simp only [h2, decide_false]
      by_cases h3 : i < t
      · rw [hl i h3]; simp
      · have : ¬ i < t + 1 := by omega
        simp [this]
  have := Nat.div_add_mod (bw f) (2 ^ (t + 1))
  rw [e] at this
  exact this.symm
theorem low_drop : bw f &&& (bw f - 1) = bw (upd f t false) := by
  have hs := low_split ht hf hl
  have hp : 2 ^ t < 2 ^ (t + 1) := Nat.pow_lt_pow_right (by decide) (by omega)
  have h0 := Nat.two_pow_pos t
  generalize bw f / 2 ^ (t + 1) = q at hs
  have h1 : bw f - 1 = 2 ^ (t + 1) * q + (2 ^ t - 1) := by omega
  apply Nat.eq_of_testBit_eq
  intro i
  have hb := bw_bit f i
  rw [Nat.testBit_and, bw_bit (upd f t false), h1, Nat.testBit_two_pow_mul_add _ (by omega)]
  by_cases h : i < t + 1
  · rw [if_pos h, Nat.testBit_two_pow_sub_one, hb]
    by_cases e : i = t
    · subst e; simp [upd_same]
    · have hi : f i = false := hl i (by omega)
      rw [upd_other _ _ e, hi]
      simp
  · rw [if_neg h, upd_other _ _ (by omega), hb]
    have hq : q.testBit (i - (t + 1)) = (decide (i < 64) && f i) := by
      rw [← hb, hs, Nat.testBit_two_pow_mul_add _ hp, if_neg h]
    rw [hq, Bool.and_self]
theorem low_and : bw f &&& (2 ^ 64 - bw f) = 2 ^ t := by
  have hs := low_split ht hf hl
  have hx := bw_lt f
  have hp : 2 ^ t < 2 ^ (t + 1) := Nat.pow_lt_pow_right (by decide) (by omega)
  have h0 := Nat.two_pow_pos t
  have h64 : 2 ^ 64 = 2 ^ (t + 1) * 2 ^ (63 - t) := by rw [← Nat.pow_add]; congr 1; omega
  have hq : bw f / 2 ^ (t + 1) < 2 ^ (63 - t) := by
    rw [Nat.div_lt_iff_lt_mul (Nat.two_pow_pos _), Nat.mul_comm, ← h64]
    exact hx
  have h2 : 2 ^ (t + 1) = 2 * 2 ^ t := by rw [Nat.pow_succ, Nat.mul_comm]
  generalize bw f / 2 ^ (t + 1) = q at hs hq
  have h1 : 2 ^ 64 - bw f = 2 ^ (t + 1) * (2 ^ (63 - t) - (q + 1)) + 2 ^ t := by
    rw [h64, hs, Nat.mul_sub, Nat.mul_add, Nat.mul_one]
    have : 2 ^ (t + 1) * (q + 1) ≤ 2 ^ (t + 1) * 2 ^ (63 - t) := Nat.mul_le_mul_left _ (by omega)
    rw [Nat.mul_add, Nat.mul_one] at this
    omega
  apply Nat.eq_of_testBit_eq
  intro i
  rw [Nat.testBit_and, h1, hs, Nat.testBit_two_pow_mul_add _ hp, Nat.testBit_two_pow_mul_add _ hp]
  by_cases h : i < t + 1
  · simp only [h, if_true, Bool.and_self]
  · simp only [h, if_false]
    rw [Nat.testBit_two_pow_sub_succ (by omega), Nat.testBit_two_pow]
    have : ¬ t = i := by omega
    simp only [this, decide_false]
    cases q.testBit (i - (t + 1)) <;> simp
end
end Go.Proofs.YtpcpjmbfinpmlaaDoor
