/- What May asks of the bits, one by one. -/
import Derived.Test.YtkcdojlfliemmaaTrap
namespace Go.Proofs.Ytkcdojlfliemmaa
open Go.RowKit
set_option linter.unusedVariables false

def badP (k : Nat) : Prop := 31 < k ∨ (k < 28 ∧ k ≠ 7 ∧ 4 < k)
instance (k : Nat) : Decidable (badP k) := by unfold badP; infer_instance
theorem bits_nat (op : BinOp) (n m : Nat) (hn : n < 2 ^ 64) (hm : m < 2 ^ 64) : bits .and .u64 (n : Int) (m : Int) = ((n &&& m : Nat) : Int) := by
  have e : bits .and .u64 (n : Int) (m : Int) = IntKind.u64.wrap (((BitVec.ofNat 64 n &&& BitVec.ofNat 64 m).toNat : Nat) : Int) := by
    unfold bits
    simp only [IntKind.bits, BitVec.ofInt_natCast]
    rfl
  rw [e, BitVec.toNat_and, BitVec.toNat_ofNat, BitVec.toNat_ofNat, Nat.mod_eq_of_lt hn, Nat.mod_eq_of_lt hm, IntKind.wrap_u64]
  have : n &&& m ≤ n := Nat.and_le_left
  omega
theorem and_mod (v : Int) (h0 : 0 ≤ v) (h1 : v ≤ 18446744073709551615) : bits .and .u64 v 31 = v % 32 := by
  obtain ⟨n, rfl⟩ : ∃ n : Nat, v = (n : Int) := ⟨v.toNat, by omega⟩
  have e := bits_nat .and n 31 (by omega) (by omega)
  have e2 : n &&& 31 = n % 32 := Nat.and_two_pow_sub_one_eq_mod n 5
  rw [e2] at e
  have e3 : ((31 : Nat) : Int) = 31 := rfl
  rw [e3] at e
  rw [e]
  omega
theorem known_bit (i : Nat) (h : i < 64) : (4026531999#64).getLsbD i = !decide (badP i) := by
  have key : ∀ i : Fin 64, (4026531999#64).getLsbD i.val = !decide (badP i.val) := by decide
  exact key ⟨i, h⟩
theorem bit_iff (n k : Nat) (hk : k < 64) : (BitVec.ofNat 64 n).getLsbD k = true ↔ ((n : Int) / 2 ^ k).tmod 2 = 1 := by
  rw [BitVec.getLsbD_ofNat]
  simp only [hk, decide_true, Bool.true_and]
  rw [Nat.testBit_eq_decide_div_mod_eq, decide_eq_true_eq]
  have e1 : (n : Int) / 2 ^ k = ((n / 2 ^ k : Nat) : Int) := by rw [Int.natCast_ediv, Int.natCast_pow]; rfl
  rw [e1]
  have e2 : (((n / 2 ^ k : Nat) : Int)).tmod 2 = (((n / 2 ^ k) % 2 : Nat) : Int) := by
    rw [Int.tmod_eq_emod_of_nonneg (Int.natCast_nonneg _), Int.natCast_emod]; rfl
  rw [e2]
  omega
theorem andNot_nat (n : Nat) : bits .andNot .u64 (n : Int) 4026531999 = (((BitVec.ofNat 64 n &&& ~~~ 4026531999#64).toNat : Nat) : Int) := by
  have e : bits .andNot .u64 (n : Int) 4026531999 = IntKind.u64.wrap (((BitVec.ofNat 64 n &&& ~~~ 4026531999#64).toNat : Nat) : Int) := by
    unfold bits
    simp only [IntKind.bits, BitVec.ofInt_natCast]
    rfl
  rw [e, IntKind.wrap_u64]
  have := (BitVec.ofNat 64 n &&& ~~~ 4026531999#64).isLt
  omega
theorem andNot_zero (v : Int) (h0 : 0 ≤ v) (h1 : v ≤ 18446744073709551615) : bits .andNot .u64 v 4026531999 = 0 ↔ ∀ k, k < 64 → badP k → ¬ (v / 2 ^ k).tmod 2 = 1 := by
  obtain ⟨n, rfl⟩ : ∃ n : Nat, v = (n : Int) := ⟨v.toNat, by omega⟩
  rw [andNot_nat]
  constructor
  · intro h k hk hb hbit
    have hz : (BitVec.ofNat 64 n &&& ~~~ 4026531999#64) = 0#64 := BitVec.eq_of_toNat_eq (by
      have : (BitVec.ofNat 64 n &&& ~~~ 4026531999#64).toNat = 0 := Int.ofNat.inj h
      rw [this]; rfl)
    have hg : (BitVec.ofNat 64 n &&& ~~~ 4026531999#64).getLsbD k = false := by rw [hz]; simp
    rw [BitVec.getLsbD_and, BitVec.getLsbD_not, known_bit k hk, (bit_iff n k hk).2 hbit] at hg
    simp [hk, hb] at hg
  · intro h
    have hz : (BitVec.ofNat 64 n &&& ~~~ 4026531999#64) = 0#64 := by
      apply BitVec.eq_of_getLsbD_eq
      intro k hk
      rw [BitVec.getLsbD_and, BitVec.getLsbD_not, known_bit k hk]
      by_cases hb : badP k
      · have := h k hk hb
        have hn : (BitVec.ofNat 64 n).getLsbD k = false := by
          cases hc : (BitVec.ofNat 64 n).getLsbD k
          · rfl
          · exact absurd ((bit_iff n k hk).1 hc) this
        simp [hn]
      · simp [hb]
    rw [hz]
    rfl
theorem mayF_no (v : Int) (k : Nat) (h0 : 0 ≤ v) (h1 : v ≤ 18446744073709551615) (hk : k < 64) (hb : badP k) (hbit : (v / 2 ^ k).tmod 2 = 1) : mayF v = false := by
  have : ¬ bits .andNot .u64 v 4026531999 = 0 := fun h => (andNot_zero v h0 h1).1 h k hk hb hbit
  simp [mayF, this]
theorem mayF_yes (v : Int) (h0 : 0 ≤ v) (h1 : v ≤ 18446744073709551615) (h : ∀ j, j < 64 → badP j → ¬ (v / 2 ^ j).tmod 2 = 1) : mayF v = (v.tmod 32 == 0 || v.tmod 32 == 5) := by
  have e := (andNot_zero v h0 h1).2 h
  have e2 : v.tmod 32 = v % 32 := Int.tmod_eq_emod_of_nonneg h0
  simp [mayF, e, and_mod v h0 h1, e2]
end Go.Proofs.Ytkcdojlfliemmaa
