/- Fetch. -/
import Derived.Test.YtjbdbmahbcaniaaYd
import Derived.Test.YtjbdbmahbcaniaaNum
set_option linter.unusedSimpArgs false
set_option linter.unusedVariables false
set_option linter.unusedSectionVars false
namespace Go.Proofs.Ytjbdbmahbcaniaa
open Go.RowKit
set_option maxRecDepth 100000

theorem yand4 (n : Nat) : n &&& 4 = n / 4 % 2 * 4 := by
  apply Nat.eq_of_testBit_eq
  intro i
  rw [Nat.testBit_and, show n / 4 % 2 * 4 = (n / 4 % 2) * 2 ^ 2 from rfl, Nat.testBit_mul_two_pow, show (4 : Nat) = 2 ^ 2 from rfl, Nat.testBit_two_pow]
  by_cases h : 2 = i
  · subst h
    rw [show n / 2 ^ 2 % 2 = (n >>> 2) % 2 from by rw [Nat.shiftRight_eq_div_pow]]
    simp [Nat.testBit, Nat.and_one_is_mod]
  · simp only [h, decide_false, Bool.and_false]
    by_cases h2 : 2 ≤ i
    · have : 1 ≤ i - 2 := by omega
      simp only [h2, decide_true, Bool.true_and]
      symm
      apply Nat.testBit_lt_two_pow
      calc n / 2 ^ 2 % 2 < 2 := Nat.mod_lt _ (by omega)
        _ = 2 ^ 1 := rfl
        _ ≤ 2 ^ (i - 2) := Nat.pow_le_pow_right (by omega) this
    · simp [h2]
theorem yandnot (n : Nat) (hn : n < 2 ^ 64) : (BitVec.ofNat 64 n &&& ~~~ BitVec.ofNat 64 7).toNat = n / 8 * 8 := by
  have e : BitVec.ofNat 64 n &&& ~~~ BitVec.ofNat 64 7 = (BitVec.ofNat 64 n >>> 3) <<< 3 := by
    apply BitVec.eq_of_getLsbD_eq
    intro i hi
    rw [BitVec.getLsbD_and, BitVec.getLsbD_not, BitVec.getLsbD_shiftLeft, BitVec.getLsbD_ushiftRight]
    by_cases h : i < 3
    · have : i = 0 ∨ i = 1 ∨ i = 2 := by omega
      rcases this with rfl | rfl | rfl <;> simp <;> decide
    · rw [show 3 + (i - 3) = i by omega]
      have h7 : (BitVec.ofNat 64 7).getLsbD i = false := by
        apply BitVec.getLsbD_ofNat .. |>.trans
        rw [show (7 : Nat) = 2 ^ 3 - 1 from rfl, Nat.testBit_two_pow_sub_one]
        simp [h]
      rw [h7]
      simp [h, hi]
  rw [e, BitVec.toNat_shiftLeft, BitVec.toNat_ushiftRight, BitVec.toNat_ofNat, Nat.mod_eq_of_lt hn, Nat.shiftRight_eq_div_pow, Nat.shiftLeft_eq]
  exact Nat.mod_eq_of_lt (by omega)
theorem bits_and4 (a : Int) (a0_ : 0 ≤ a) (a1_ : a ≤ 18446744073709551615) : bits .and .u64 a 4 = a / 4 % 2 * 4 := by
  obtain ⟨n, rfl⟩ : ∃ n : Nat, a = (n : Int) := ⟨a.toNat, by omega⟩
  have := bitsN n 4 (by omega) (by omega)
  rw [show ((4 : Nat) : Int) = 4 from rfl] at this
  rw [this, yand4]
  omega
theorem bits_not7 (a : Int) (a0_ : 0 ≤ a) (a1_ : a ≤ 18446744073709551615) : bits .andNot .u64 a 7 = a / 8 * 8 := by
  obtain ⟨n, rfl⟩ : ∃ n : Nat, a = (n : Int) := ⟨a.toNat, by omega⟩
  have e : bits .andNot .u64 (n : Int) 7 = IntKind.u64.wrap (((BitVec.ofNat 64 n &&& ~~~ BitVec.ofNat 64 7).toNat : Nat) : Int) := by
    unfold bits
    simp only [IntKind.bits, BitVec.ofInt_natCast]
    rfl
  rw [e, yandnot n (by omega), IntKind.wrap_u64]
  omega
theorem fetch_bad (q : Bs) (s : St) (a : Int) (w : World) (hm : MemAt w q s) (hn : s.n ≤ 8192) (a0 : 0 ≤ a) (a1 : a ≤ 18446744073709551615) (h : a % 4 ≠ 0 ∨ (s.n : Int) ≤ a / 8) :
    Calls Try.prog 49 #[.pointer (some ⟨q.b, 0, none⟩), .int .u64 a] w fun e w' => e = .returned (.tuple #[.int .u32 0, .int .i64 1]) ∧ w = w' := by
  have e7 := bits_not7 a a0 a1
  obtain ⟨z, hz⟩ : ∃ z, z = a / 8 * 8 := ⟨_, rfl⟩
  rw [← hz] at e7
  by_cases hg : a / 8 < (s.n : Int)
  · have h4 : (a % 4 != 0) = true := by simp; omega
    have HA := Lib.hid (at_ok q s z (a / 8).toNat w hm (by omega) hn (by omega))
    clear h hn hm hz hg
    go_enter Try.func49, Try.ntmps49
    go_wp2_with fail
    refine HA.out.mono ?_
    rintro e w2 ⟨rfl, rfl⟩
    go_wp2_with fail
    go_ret2
    exact ⟨rfl, rfl⟩
  · have HA := Lib.hid (at_bad q s z w hm hn (by omega) (by omega) (by omega))
    clear h hn hm hz hg
    go_enter Try.func49, Try.ntmps49
    go_wp2_with fail
    refine HA.out.mono ?_
    rintro e w2 ⟨rfl, rfl⟩
    go_wp2_with fail
    go_ret2
    exact ⟨rfl, rfl⟩
theorem fetch_ok (q : Bs) (s : St) (a : Int) (k : Nat) (w : World) (hm : MemAt w q s) (hk : k < s.n) (hn : s.n ≤ 8192) (v0 : 0 ≤ s.V k) (v1 : s.V k ≤ 18446744073709551615) (ha : a = 8 * (k : Int) ∨ a = 8 * (k : Int) + 4) :
    Calls Try.prog 49 #[.pointer (some ⟨q.b, 0, none⟩), .int .u64 a] w fun e w' => e = .returned (.tuple #[.int .u32 (if a % 8 = 4 then s.V k / 4294967296 else s.V k % 4294967296), .int .i64 0]) ∧ w = w' := by
  have a0 : 0 ≤ a := by omega
  have a1 : a ≤ 18446744073709551615 := by omega
  have e7 := bits_not7 a (by omega) (by omega)
  have e4 := bits_and4 a (by omega) (by omega)
  obtain ⟨z, hz⟩ : ∃ z, z = a / 8 * 8 := ⟨_, rfl⟩
  rw [← hz] at e7
  have h4 : (a % 4 != 0) = false := by simp; omega
  have c4 : w.cell? ⟨q.bw, k * 2, none⟩ = some (.int .u64 (s.V k)) := hm.words.cellv (wcs_v hk)
  have HA := Lib.hid (at_ok q s z k w hm (by omega) hn (by omega))
  rcases ha with ha | ha
  · rw [show a / 4 % 2 * 4 = 0 by omega] at e4
    rw [if_neg (by omega)]
    generalize s.V k = vv at *
    clear hn hm hz ha hk
    go_enter Try.func49, Try.ntmps49
    go_wp2_with fail
    refine HA.out.mono ?_
    rintro e w2 ⟨rfl, rfl⟩
    go_wp2_with fail
    go_ret2
    exact ⟨rfl, rfl⟩
  · rw [show a / 4 % 2 * 4 = 4 by omega] at e4
    rw [if_pos (by omega)]
    generalize s.V k = vv at *
    clear hn hm hz ha hk
    go_enter Try.func49, Try.ntmps49
    go_wp2_with fail
    refine HA.out.mono ?_
    rintro e w2 ⟨rfl, rfl⟩
    go_wp2_with fail
    go_ret2
    exact ⟨rfl, rfl⟩
end Go.Proofs.Ytjbdbmahbcaniaa
