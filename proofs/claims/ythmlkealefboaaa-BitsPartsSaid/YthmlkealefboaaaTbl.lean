/- The table of all masks, by the kernel. -/
import Derived.Test.YthmlkealefboaaaPts
namespace Go.Proofs.Ythmlkealefboaaa
open Go.RowKit
set_option linter.unusedVariables false

def tabOne (z s R : Nat) : Bool := Nat.beq (hs (fastRep R z)) z && Nat.beq (oc R) (s + 1)
def tabRow (z s : Nat) : Nat → Bool
  | 0 => true
  | r + 1 => tabOne z s (rorN (2 ^ (s + 1) - 1) r z) && tabRow z s r
def tab (z : Nat) : Nat → Bool
  | 0 => true
  | s + 1 => tabRow z s z && tab z s
theorem tabRow_at {z s : Nat} : ∀ {n r : Nat}, tabRow z s n = true → r < n → tabOne z s (rorN (2 ^ (s + 1) - 1) r z) = true
  | 0, r, _, h => absurd h (Nat.not_lt_zero r)
  | n + 1, r, h, hr => by
    simp only [tabRow, Bool.and_eq_true] at h
    by_cases e : r = n
    · rw [e]; exact h.1
    · exact tabRow_at h.2 (by omega)
theorem tab_at {z : Nat} : ∀ {n s : Nat}, tab z n = true → s < n → tabRow z s z = true
  | 0, s, _, h => absurd h (Nat.not_lt_zero s)
  | n + 1, s, h, hs => by
    simp only [tab, Bool.and_eq_true] at h
    by_cases e : s = n
    · rw [e]; exact h.1
    · exact tab_at h.2 (by omega)
theorem tab2 : tab 2 1 = true := by kernel_rfl
theorem tab4 : tab 4 3 = true := by kernel_rfl
theorem tab8 : tab 8 7 = true := by kernel_rfl
theorem tab16 : tab 16 15 = true := by kernel_rfl
theorem tab32 : tab 32 31 = true := by kernel_rfl
theorem tab64 : tab 64 63 = true := by kernel_rfl
theorem tab_all {z : Nat} (hz : Size z) : tab z (z - 1) = true := by
  rcases hz with rfl | rfl | rfl | rfl | rfl | rfl
  · exact tab2
  · exact tab4
  · exact tab8
  · exact tab16
  · exact tab32
  · exact tab64
theorem Size.pos {z : Nat} (hz : Size z) : 2 ≤ z ∧ z ≤ 64 := by rcases hz with rfl | rfl | rfl | rfl | rfl | rfl <;> omega
theorem ones_lt {s z : Nat} (h : s < z - 1) : 2 ^ (s + 1) - 1 < 2 ^ z := by
  have : 2 ^ (s + 1) ≤ 2 ^ z := Nat.pow_le_pow_right (by omega) (by omega)
  have := Nat.two_pow_pos (s + 1)
  omega
theorem mkN_mod {z s r : Nat} (hz : Size z) (h : s < z - 1) (hr : r < z) : mkN z s r % 2 ^ z = rorN (2 ^ (s + 1) - 1) r z := by
  have hR := rorN_lt _ r z hr (ones_lt h)
  unfold mkN rep
  rw [ofB_mod _ 64 z hz.pos.2]
  exact rep_self _ z hR
theorem table {z s r : Nat} (hz : Size z) (h : s < z - 1) (hr : r < z) : hs (mkN z s r) = z ∧ oc (mkN z s r % 2 ^ z) = s + 1 := by
  have hR := rorN_lt _ r z hr (ones_lt h)
  have t := tabRow_at (tab_at (tab_all hz) h) hr
  unfold tabOne at t
  rw [Bool.and_eq_true] at t
  have e : mkN z s r = fastRep (rorN (2 ^ (s + 1) - 1) r z) z := fast_rep _ z hz hR
  refine ⟨?_, ?_⟩
  · rw [e]; exact Nat.eq_of_beq_eq_true t.1
  · rw [mkN_mod hz h hr]; exact Nat.eq_of_beq_eq_true t.2
/-- What Parts answers. -/
def PartsR (m : Nat) (n r s e : Int) : Prop :=
  (∃ z S R : Nat, Size z ∧ S < z - 1 ∧ R < z ∧ m = mkN z S R ∧ (∀ R', R' < R → mkN z S R' ≠ m) ∧ n = (if z = 64 then 1 else 0) ∧ r = (R : Int) ∧ s = ((if z = 64 then S else 64 - 2 * z + S : Nat) : Int) ∧ e = 0) ∨
  (n = 0 ∧ r = 0 ∧ s = 0 ∧ e = 2 ∧ ∀ z S R : Nat, Size z → S < z - 1 → R < z → mkN z S R ≠ m)
theorem PartsR.unique {m : Nat} {n r s e n' r' s' e' : Int} (h : PartsR m n r s e) (h' : PartsR m n' r' s' e') : n = n' ∧ r = r' ∧ s = s' ∧ e = e' := by
  rcases h with ⟨z, S, R, a1, a2, a3, a4, a5, rfl, rfl, rfl, rfl⟩ | ⟨rfl, rfl, rfl, rfl, a⟩
  · rcases h' with ⟨z', S', R', b1, b2, b3, b4, b5, rfl, rfl, rfl, rfl⟩ | ⟨_, _, _, _, b⟩
    · have t := table a1 a2 a3
      have t' := table b1 b2 b3
      rw [← a4] at t
      rw [← b4] at t'
      have ez : z = z' := t.1.symm.trans t'.1
      subst ez
      have eS : S = S' := by have := t.2.symm.trans t'.2; omega
      subst eS
      have eR : R = R' := by
        rcases Nat.lt_trichotomy R R' with h | h | h
        · exact absurd a4.symm (b5 R h)
        · exact h
        · exact absurd b4.symm (a5 R' h)
      subst eR
      exact ⟨rfl, rfl, rfl, rfl⟩
    · exact absurd a4.symm (b z S R a1 a2 a3)
  · rcases h' with ⟨z', S', R', b1, b2, b3, b4, b5, rfl, rfl, rfl, rfl⟩ | ⟨rfl, rfl, rfl, rfl, b⟩
    · exact absurd b4.symm (a z' S' R' b1 b2 b3)
    · exact ⟨rfl, rfl, rfl, rfl⟩
theorem hs_size (m : Nat) : Size (hs m) := by
  unfold hs Size
  repeat' split
  all_goals simp
/-- What a round of Parts compares. -/
def turnV (P r z : Nat) : Nat := if P < 2 ^ z then rorN P r z else 0
def onesV (o : Nat) : Nat := (2 ^ o % 2 ^ 64 + (2 ^ 64 - 1)) % 2 ^ 64
theorem onesV_lt {o : Nat} (h : o < 64) : onesV o = 2 ^ o - 1 := by
  unfold onesV
  have h1 : 2 ^ o ≤ 2 ^ 63 := Nat.pow_le_pow_right (by omega) (by omega)
  have h0 := Nat.two_pow_pos o
  rw [Nat.mod_eq_of_lt (show 2 ^ o < 2 ^ 64 by omega)]
  omega
theorem onesV_ge {o : Nat} (h : 64 ≤ o) : onesV o = 2 ^ 64 - 1 := by
  unfold onesV
  obtain ⟨k, rfl⟩ : ∃ k, o = 64 + k := ⟨o - 64, by omega⟩
  rw [Nat.pow_add, Nat.mul_mod_right]
theorem ror_all {z r : Nat} (hr : r < z) : rorN (2 ^ z - 1) r z = 2 ^ z - 1 := by
  have hp := Nat.two_pow_pos z
  apply Nat.eq_of_testBit_eq
  intro i
  by_cases hi : i < z
  · rw [ror_testBit _ r z i hr (by omega) hi, Nat.testBit_two_pow_sub_one, Nat.testBit_two_pow_sub_one, decide_eq_true hi, decide_eq_true (Nat.mod_lt _ (by omega))]
  · have h1 := rorN_lt (2 ^ z - 1) r z hr (by omega)
    rw [Nat.testBit_lt_two_pow (Nat.lt_of_lt_of_le h1 (Nat.pow_le_pow_right (by omega) (by omega))), Nat.testBit_two_pow_sub_one, decide_eq_false hi]
theorem rep_all {z : Nat} (hz : Size z) : rep (2 ^ z - 1) z 64 = 2 ^ 64 - 1 := by
  rw [fast_rep _ z hz (by have := Nat.two_pow_pos z; omega)]
  rcases hz with rfl | rfl | rfl | rfl | rfl | rfl <;> decide
/-- What is found is right. -/
theorem found_ok {m r : Nat} (hm : m < 2 ^ 64) (h0 : m ≠ 0) (h1 : m ≠ 2 ^ 64 - 1) (hr : r < hs m) (hf : turnV (onesV (oc (m % 2 ^ hs m))) r (hs m) = m % 2 ^ hs m) :
    1 ≤ oc (m % 2 ^ hs m) ∧ oc (m % 2 ^ hs m) - 1 < hs m - 1 ∧ m = mkN (hs m) (oc (m % 2 ^ hs m) - 1) r := by
  have hp := hs_per m hm
  have hz := hs_size m
  have hz2 := hz.pos
  generalize hs m = z at *
  generalize oc (m % 2 ^ z) = o at *
  unfold Per at hp
  obtain ⟨A, hA⟩ : ∃ A, m % 2 ^ z = A := ⟨_, rfl⟩
  rw [hA] at hp hf
  have hA0 : A ≠ 0 := by
    rintro rfl
    apply h0
    rw [hp, fast_rep _ z hz (Nat.two_pow_pos z)]
    rcases hz with rfl | rfl | rfl | rfl | rfl | rfl <;> rfl
  have hA1 : A ≠ 2 ^ z - 1 := by
    rintro rfl
    exact h1 (by rw [hp, rep_all hz])
  unfold turnV at hf
  by_cases hP : onesV o < 2 ^ z
  · rw [if_pos hP] at hf
    have ho : o < 64 := by
      rcases Nat.lt_or_ge o 64 with h | h
      · exact h
      · exfalso
        rw [onesV_ge h] at hP hf
        have : z = 64 := by
          rcases Nat.lt_or_ge z 64 with h | h
          · have : 2 ^ z ≤ 2 ^ 63 := Nat.pow_le_pow_right (by omega) (by omega)
            omega
          · omega
        subst this
        rw [ror_all hr] at hf
        exact hA1 hf.symm
    rw [onesV_lt ho] at hP hf
    have ho1 : 1 ≤ o := by
      rcases Nat.eq_zero_or_pos o with h | h
      · exfalso
        subst h
        apply hA0
        rw [← hf]
        unfold rorN
        simp
      · exact h
    have hoz : o < z := by
      rcases Nat.lt_or_ge o z with h | h
      · exact h
      · exfalso
        rcases Nat.lt_or_ge z o with h2 | h2
        · have h3 : 2 ^ (z + 1) ≤ 2 ^ o := Nat.pow_le_pow_right (by omega) h2
          have h4 := Nat.two_pow_pos z
          rw [Nat.pow_succ] at h3
          omega
        · have : o = z := by omega
          subst this
          rw [ror_all hr] at hf
          exact hA1 hf.symm
    refine ⟨ho1, by omega, ?_⟩
    unfold mkN
    rw [show o - 1 + 1 = o by omega, hf]
    exact hp
  · rw [if_neg hP] at hf
    exact absurd hf.symm hA0
/-- What is not found is not there. -/
theorem lost_ok {m : Nat} (h : ∀ r, r < hs m → turnV (onesV (oc (m % 2 ^ hs m))) r (hs m) ≠ m % 2 ^ hs m) : ∀ z S R : Nat, Size z → S < z - 1 → R < z → mkN z S R ≠ m := by
  rintro z S R hz hS hR rfl
  have t := table hz hS hR
  have hz2 := hz.pos
  have hh := h R (by rw [t.1]; exact hR)
  rw [t.1, t.2, onesV_lt (by omega)] at hh
  apply hh
  unfold turnV
  rw [if_pos (ones_lt hS), mkN_mod hz hS hR]
end Go.Proofs.Ythmlkealefboaaa
