/- Bits and their sets, plain. -/
import Derived.Test.YtnmakbippgnekaaBk
set_option linter.unusedSimpArgs false
set_option linter.unusedVariables false
set_option linter.unusedSectionVars false
namespace Go.Proofs.Ytnmakbippgnekaa
open Go.RowKit

theorem hasb_bit (n k : Nat) : hasb (n : Int) k = n.testBit k := by
  unfold hasb
  rw [powN, ← Int.natCast_ediv, show (2 : Int) = ((2 : Nat) : Int) from rfl, ← Int.natCast_emod]
  rw [Nat.testBit_eq_decide_div_mod_eq]
  rcases Nat.mod_two_eq_zero_or_one (n / 2 ^ k) with h | h <;> rw [h] <;> rfl
theorem setN_bits (P : Nat → Bool) (N : Nat) : ∀ k, (∀ id, id < k → P id = N.testBit id) → setN P k = N % 2 ^ k
  | 0, _ => by simp [setN]; omega
  | k + 1, h => by
    have ih := setN_bits P N k fun id hid => h id (by omega)
    unfold setN
    rw [ih, h k (by omega), Nat.mod_pow_succ, Nat.testBit_eq_decide_div_mod_eq]
    rcases Nat.mod_two_eq_zero_or_one (N / 2 ^ k) with h | h <;> rw [h] <;> simp
theorem setN_is (P : Nat → Bool) (N : Nat) (hN : N < 2 ^ 64) (h : ∀ id, id < 64 → P id = N.testBit id) : setN P 64 = N := by
  rw [setN_bits P N 64 h, Nat.mod_eq_of_lt hN]
/-- What stands in the one and not in the other. -/
def andn (n m : Nat) : Nat := (BitVec.ofNat 64 n &&& ~~~ BitVec.ofNat 64 m).toNat
theorem andn_lt (n m : Nat) : andn n m < 2 ^ 64 := (BitVec.ofNat 64 n &&& ~~~ BitVec.ofNat 64 m).isLt
theorem andn_bit (n m k : Nat) (hn : n < 2 ^ 64) (hm : m < 2 ^ 64) (hk : k < 64) : (andn n m).testBit k = (n.testBit k && !m.testBit k) := by
  unfold andn
  rw [BitVec.testBit_toNat, BitVec.getLsbD_and, BitVec.getLsbD_not, BitVec.getLsbD_ofNat, BitVec.getLsbD_ofNat]
  simp [hk]
theorem andnI (n m : Nat) (hn : n < 2 ^ 64) (hm : m < 2 ^ 64) : bits .andNot .u64 (n : Int) (m : Int) = (andn n m : Int) := by
  have e : bits .andNot .u64 (n : Int) (m : Int) = IntKind.u64.wrap ((andn n m : Nat) : Int) := by
    unfold bits andn
    simp only [IntKind.bits, BitVec.ofInt_natCast]
    rfl
  rw [e, IntKind.wrap_u64]
  have := andn_lt n m
  omega
theorem high_bit (N k : Nat) : (N / 4294967296 * 4294967296).testBit k = (decide (32 ≤ k) && N.testBit k) := by
  have e : N / 4294967296 * 4294967296 = (N >>> 32) <<< 32 := by rw [Nat.shiftRight_eq_div_pow, Nat.shiftLeft_eq]
  rw [e, Nat.testBit_shiftLeft]
  by_cases h : 32 ≤ k
  · rw [Nat.testBit_shiftRight, show 32 + (k - 32) = k by omega]
  · simp [h]
theorem GS.get_put_eq (s : GS) (c id : Nat) (y : I) : (s.put c id y).get c id = y := by
  unfold GS.put GS.get
  split
  · simp [upd_same]
  · rename_i h
    simp [h, upd_same]
theorem GS.get_put_ne (s : GS) (c id c' id' : Nat) (y : I) (h : id' ≠ id) : (s.put c id y).get c' id' = s.get c' id' := by
  unfold GS.put GS.get
  by_cases h1 : id < 32
  · rw [if_pos h1]
    by_cases h2 : id' < 32
    · rw [if_pos h2, if_pos h2]
      show upd s.own c (upd (s.own c) id y) c' id' = s.own c' id'
      unfold upd
      split
      · rename_i e; subst e; simp [h]
      · rfl
    · rw [if_neg h2, if_neg h2]
  · rw [if_neg h1]
    by_cases h2 : id' < 32
    · rw [if_pos h2, if_pos h2]
    · rw [if_neg h2, if_neg h2]
      exact upd_other _ _ (by omega)
theorem GS.get_put_core (s : GS) (c id c' id' : Nat) (y : I) (h : c' ≠ c) (h1 : id < 32) : (s.put c id y).get c' id' = s.get c' id' := by
  unfold GS.put GS.get
  rw [if_pos h1]
  by_cases h2 : id' < 32
  · rw [if_pos h2, if_pos h2]
    show upd s.own c (upd (s.own c) id y) c' id' = s.own c' id'
    rw [upd_other _ _ h]
  · rw [if_neg h2, if_neg h2]
theorem GS.get_sh (s : GS) (c c' id : Nat) (h : 32 ≤ id) : s.get c id = s.get c' id := by
  unfold GS.get
  rw [if_neg (by omega), if_neg (by omega)]
theorem setF_nat {s : GS} {c id : Nat} (hc : c < s.c) (hi : id < 64) : GS.setF s (c : Int) (id : Int) = fun f => s.put c id (f (s.get c id)) := by
  funext f
  unfold GS.setF
  have : okI s (c : Int) (id : Int) = true := by
    unfold okI thereB
    simp
    omega
  rw [if_pos this]
  rfl
/-- One function over all whose bits are there. -/
theorem get_allG (F : I → I) (v : Int) (g : GS) (c : Nat) (hc : c < g.c) : ∀ k, k ≤ 64 → ∀ id, id < 64 → (allG (fun g i => g.setF (c : Int) (i : Int) F) v k g).get c id = if (decide (id < k) && hasb v id) = true then F (g.get c id) else g.get c id
  | 0, _, id, _ => by simp [allG]
  | k + 1, hk, id, hi => by
    have ih := get_allG F v g c hc k (by omega) id hi
    have hcc : c < (allG (fun g i => g.setF (c : Int) (i : Int) F) v k g).c := by rw [allG_c _ (fun g k => setF_c _ _ _ _)]; exact hc
    unfold allG
    by_cases hb : hasb v k = true
    · rw [if_pos hb, setF_nat hcc (by omega)]
      by_cases e : id = k
      · subst e
        show (GS.put _ c id _).get c id = _
        rw [GS.get_put_eq, ih]
        simp [hb]
      · show (GS.put _ c k _).get c id = _
        rw [GS.get_put_ne _ _ _ _ _ _ e, ih]
        have : decide (id < k) = decide (id < k + 1) := by
          by_cases h : id < k <;> simp [h] <;> omega
        rw [this]
    · rw [if_neg hb, ih]
      by_cases e : id = k
      · subst e
        simp [hb]
      · have : decide (id < k) = decide (id < k + 1) := by
          by_cases h : id < k <;> simp [h] <;> omega
        rw [this]
/-- Another core's own are left. -/
theorem get_allG_own (F : I → I) (v : Int) (g : GS) (c c' : Nat) (hc : c < g.c) (hne : c' ≠ c) (id : Nat) (hi : id < 32) : ∀ k, k ≤ 64 → (allG (fun g i => g.setF (c : Int) (i : Int) F) v k g).get c' id = g.get c' id
  | 0, _ => rfl
  | k + 1, hk => by
    have ih := get_allG_own F v g c c' hc hne id hi k (by omega)
    have hcc : c < (allG (fun g i => g.setF (c : Int) (i : Int) F) v k g).c := by rw [allG_c _ (fun g k => setF_c _ _ _ _)]; exact hc
    unfold allG
    by_cases hb : hasb v k = true
    · rw [if_pos hb, setF_nat hcc (by omega)]
      show (GS.put _ c k _).get c' id = _
      by_cases e : id = k
      · rw [GS.get_put_core _ _ _ _ _ _ hne (by omega), ih]
      · rw [GS.get_put_ne _ _ _ _ _ _ e, ih]
    · rw [if_neg hb, ih]
end Go.Proofs.Ytnmakbippgnekaa
