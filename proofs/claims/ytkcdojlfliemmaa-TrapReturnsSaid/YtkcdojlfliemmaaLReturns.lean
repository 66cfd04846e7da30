/- The walk of TrapReturns. -/
import Derived.Test.YtkcdojlfliemmaaRBack
import Derived.Test.YtkcdojlfliemmaaEx
import Derived.Test.YtkcdojlfliemmaaArg
namespace Go.Proofs.Ytkcdojlfliemmaa
open Go.RowKit
set_option linter.unusedVariables false
attribute [local go_sem] fold0

theorem crEq_self (c : Cr) : crEq c c = true := by simp [crEq]
theorem u64_bounds {a : Int} (h : (Lit.int .u64 a).wf = true) : 0 ≤ a ∧ a ≤ 18446744073709551615 := by
  simp only [Lit.wf, Bool.and_eq_true, decide_eq_true_eq] at h
  exact h
theorem and_one (v : Int) (h0 : 0 ≤ v) (h1 : v ≤ 18446744073709551615) : bits .and .u64 v 1 = v % 2 := by
  have := bit_mod v 1 h0 h1 (by omega)
  rw [Int.ediv_one] at this
  exact this
theorem and_128 (v : Int) (h0 : 0 ≤ v) (h1 : v ≤ 18446744073709551615) : (bits .and .u64 v 128 != 0) = (v / 128 % 2 == 1) := by
  obtain ⟨n, rfl⟩ : ∃ n : Nat, v = (n : Int) := ⟨v.toNat, by omega⟩
  have e := bits_nat .and n 128 (by omega) (by omega)
  have e3 : ((128 : Nat) : Int) = 128 := rfl
  rw [e3] at e
  rw [e]
  have e4 : n &&& 128 = 2 ^ 7 * (n / 128 % 2) := by
    apply Nat.eq_of_testBit_eq
    intro i
    rw [Nat.testBit_and, show (128 : Nat) = 2 ^ 7 from rfl, Nat.testBit_two_pow]
    by_cases hi : 7 = i
    · subst hi
      rw [Nat.testBit_eq_decide_div_mod_eq]
      rcases Nat.mod_two_eq_zero_or_one (n / 2 ^ 7) with h | h <;> simp [h] <;> decide
    · rcases Nat.mod_two_eq_zero_or_one (n / 2 ^ 7) with h | h
      · simp [h, hi]
      · rw [h, Nat.mul_one, Nat.testBit_two_pow]
        simp [hi]
  rw [e4]
  rcases Nat.mod_two_eq_zero_or_one (n / 128) with h | h
  · rw [h]
    have : (n : Int) / 128 % 2 = 0 := by omega
    simp [this]
  · rw [h]
    have : (n : Int) / 128 % 2 = 1 := by omega
    simp [this]
theorem el_same (v : Int) (h0 : 0 ≤ v) (h1 : v ≤ 18446744073709551615) (hm : mayF v = true) : wrap64 (bits .and .u64 v 1) = v % 32 / 5 := by
  rw [and_one v h0 h1]
  have h : v % 32 = 0 ∨ v % 32 = 5 := by
    simp only [mayF, Bool.and_eq_true, Bool.or_eq_true, beq_iff_eq, and_mod v h0 h1] at hm
    exact hm.2
  unfold wrap64
  omega
theorem back_same (c : Cr) (h0 : 0 ≤ c.Spsr) (h1 : c.Spsr ≤ 18446744073709551615) (hm : mayF c.Spsr = true) : backM (setF c c.Spsr 4) c.Spsr = rbackM (setR (backN c) c.Spsr) c.Spsr := by
  rw [setR_eq _ _ h0 h1]
  simp only [backM, rbackM, setF, backN, and_128 c.Spsr h0 h1, el_same c.Spsr h0 h1 hm]
set_option maxRecDepth 100000 in
set_option maxHeartbeats 4000000 in
theorem returns_ok (c A B : Cr) (s : Int) (w : World) (s0 : 0 ≤ s) (s1 : s ≤ 18446744073709551615) (hAB : crEq A B = true)
    (hA : ∀ w, Calls Try.prog 9 #[.agg (cv c)] w fun e w' => e = .returned (.tuple #[.agg (cv A), .int .i64 0]) ∧ Fr Nil w w')
    (hB : ∀ w, Calls Try.prog 10 #[.agg (cv c)] w fun e w' => e = .returned (.tuple #[.agg (cv B), .bool true]) ∧ Fr Nil w w') :
    Calls Try.prog 4 #[.agg (cv c), .int .u64 s] w fun e w' => e = .returned (.bool true) ∧ Below w.heap.size w w' := by
  have heq : ∀ W : World, (binOp .eql 26 (.agg (cv A)) (.agg (cv B))).run Try.prog W = .ok (.bool true) W := fun W => by rw [run_eq_core, hAB]
  have HA := Lib.hid hA
  have HB := Lib.hid hB
  have S0 := Lib.hid s0
  have S1 := Lib.hid s1
  clear hA hB hAB s0 s1
  go_enter Try.func4, Try.ntmps4
  go_wp2_with fail
  refine (examples_ok _).mono ?_
  rintro e w2 ⟨rfl, hf2⟩
  have hb2 : Blk w2 w.heap.size 26 (cv c) := Blk.fr0 (Blk.new _ _ _) hf2
  have F2 := ((Fr.refl Nil w).alloc (.cells (cv c) 26)).trans hf2
  clear hf2
  generalize hgc : w.heap.size = gc at *
  have Hgc := Lib.hid hgc
  clear hgc
  go_wp2_with (refine wpList_load_blk rfl 26 (.tmp 2) rfl gc rfl _ hb2 Try.underlying26 rfl info26 ?_)
  refine (HA.out _).mono ?_
  rintro e w3 ⟨rfl, hf3⟩
  have hb3 := Blk.fr0 hb2 hf3
  have F3 := F2.trans hf3
  have hl3 := hb3.lt
  clear hb2 F2 hf3
  go_upto_region 5 with (refine wpList_store_blk0 rfl 26 (.tmp 6) (.tmp 17) rfl w3.heap.size rfl (cv A) rfl (Blk.new _ _ _) info26 rfl (one_cv _) ?_; intro w4 hf4 ha4)
  have hb4 := Blk.fr1 (Blk.alloc hb3 (.cells (cv zeroC) 26)) hf4 (by omega)
  have F4 := (F3.alloc (.cells (cv zeroC) 26)).own1 hf4 F3.size
  clear hf4 F3 hb3
  generalize w3.heap.size = ga at *
  go_wp2_with (refine wpList_load_blk rfl 26 (.tmp 2) rfl gc rfl _ hb4 Try.underlying26 rfl info26 ?_)
  refine (HB.out _).mono ?_
  rintro e w5 ⟨rfl, hf5⟩
  have ha5 := Blk.fr0 ha4 hf5
  have F5 := F4.trans hf5
  have hl5 := ha5.lt
  clear hb4 F4 hf5 ha4
  go_upto_region 6 with (refine wpList_store_blk0 rfl 26 (.tmp 8) (.tmp 22) rfl w5.heap.size rfl (cv B) rfl (Blk.new _ _ _) info26 rfl (one_cv _) ?_; intro w6 hf6 hb6)
  have ha6 := Blk.fr1 (Blk.alloc ha5 (.cells (cv zeroC) 26)) hf6 (by omega)
  have F6 := (F5.alloc (.cells (cv zeroC) 26)).own1 hf6 F5.size
  clear hf6 F5 ha5
  generalize w5.heap.size = gb at *
  go_wp2_with fail
  refine (rmay_ok _ _ S0.out S1.out).mono ?_
  rintro e w7 ⟨rfl, rfl⟩
  generalize hms : mayF s = ms at *
  have Hms := Lib.hid hms
  clear hms
  go_wp2_with (first
    | (refine wpList_load_blkg rfl 26 (.tmp 6) rfl ga rfl _ ha6 Try.underlying26 rfl info26 ?_)
    | (refine wpList_load_blkg rfl 26 (.tmp 8) rfl gb rfl _ hb6 Try.underlying26 rfl info26 ?_))
  refine (may_ok _ _).mono ?_
  rintro e w8 ⟨rfl, rfl⟩
  rw [Hms.out]
  go_wp2_with fail
  go_ret
  exact ⟨by first | rfl | simp [*], F6.below (by rw [Hgc.out]; exact Nat.le_refl _) (fun _ _ => id)⟩
set_option maxRecDepth 100000 in
set_option maxHeartbeats 4000000 in
theorem returns_bad (c A B : Cr) (s : Int) (w : World) (s0 : 0 ≤ s) (s1 : s ≤ 18446744073709551615) (hAB : crEq A B = true)
    (hA : ∀ w, Calls Try.prog 9 #[.agg (cv c)] w fun e w' => e = .returned (.tuple #[.agg (cv A), .int .i64 1]) ∧ Fr Nil w w')
    (hB : ∀ w, Calls Try.prog 10 #[.agg (cv c)] w fun e w' => e = .returned (.tuple #[.agg (cv B), .bool false]) ∧ Fr Nil w w') :
    Calls Try.prog 4 #[.agg (cv c), .int .u64 s] w fun e w' => e = .returned (.bool true) ∧ Below w.heap.size w w' := by
  have heq : ∀ W : World, (binOp .eql 26 (.agg (cv A)) (.agg (cv B))).run Try.prog W = .ok (.bool true) W := fun W => by rw [run_eq_core, hAB]
  have HA := Lib.hid hA
  have HB := Lib.hid hB
  have S0 := Lib.hid s0
  have S1 := Lib.hid s1
  clear hA hB hAB s0 s1
  go_enter Try.func4, Try.ntmps4
  go_wp2_with fail
  refine (examples_ok _).mono ?_
  rintro e w2 ⟨rfl, hf2⟩
  have hb2 : Blk w2 w.heap.size 26 (cv c) := Blk.fr0 (Blk.new _ _ _) hf2
  have F2 := ((Fr.refl Nil w).alloc (.cells (cv c) 26)).trans hf2
  clear hf2
  generalize hgc : w.heap.size = gc at *
  have Hgc := Lib.hid hgc
  clear hgc
  go_wp2_with (refine wpList_load_blk rfl 26 (.tmp 2) rfl gc rfl _ hb2 Try.underlying26 rfl info26 ?_)
  refine (HA.out _).mono ?_
  rintro e w3 ⟨rfl, hf3⟩
  have hb3 := Blk.fr0 hb2 hf3
  have F3 := F2.trans hf3
  have hl3 := hb3.lt
  clear hb2 F2 hf3
  go_upto_region 5 with (refine wpList_store_blk0 rfl 26 (.tmp 6) (.tmp 17) rfl w3.heap.size rfl (cv A) rfl (Blk.new _ _ _) info26 rfl (one_cv _) ?_; intro w4 hf4 ha4)
  have hb4 := Blk.fr1 (Blk.alloc hb3 (.cells (cv zeroC) 26)) hf4 (by omega)
  have F4 := (F3.alloc (.cells (cv zeroC) 26)).own1 hf4 F3.size
  clear hf4 F3 hb3
  generalize w3.heap.size = ga at *
  go_wp2_with (refine wpList_load_blk rfl 26 (.tmp 2) rfl gc rfl _ hb4 Try.underlying26 rfl info26 ?_)
  refine (HB.out _).mono ?_
  rintro e w5 ⟨rfl, hf5⟩
  have ha5 := Blk.fr0 ha4 hf5
  have F5 := F4.trans hf5
  have hl5 := ha5.lt
  clear hb4 F4 hf5 ha4
  go_upto_region 6 with (refine wpList_store_blk0 rfl 26 (.tmp 8) (.tmp 22) rfl w5.heap.size rfl (cv B) rfl (Blk.new _ _ _) info26 rfl (one_cv _) ?_; intro w6 hf6 hb6)
  have ha6 := Blk.fr1 (Blk.alloc ha5 (.cells (cv zeroC) 26)) hf6 (by omega)
  have F6 := (F5.alloc (.cells (cv zeroC) 26)).own1 hf6 F5.size
  clear hf6 F5 ha5
  generalize w5.heap.size = gb at *
  go_wp2_with fail
  refine (rmay_ok _ _ S0.out S1.out).mono ?_
  rintro e w7 ⟨rfl, rfl⟩
  generalize hms : mayF s = ms at *
  have Hms := Lib.hid hms
  clear hms
  go_wp2_with (first
    | (refine wpList_load_blkg rfl 26 (.tmp 6) rfl ga rfl _ ha6 Try.underlying26 rfl info26 ?_)
    | (refine wpList_load_blkg rfl 26 (.tmp 8) rfl gb rfl _ hb6 Try.underlying26 rfl info26 ?_))
  refine (may_ok _ _).mono ?_
  rintro e w8 ⟨rfl, rfl⟩
  rw [Hms.out]
  go_wp2_with fail
  go_ret
  exact ⟨by first | rfl | simp [*], F6.below (by rw [Hgc.out]; exact Nat.le_refl _) (fun _ _ => id)⟩
theorem trapReturns_walk (c : Cr) (a1 : Int) (w : World) (w0 : WfC c) (w1 : (Lit.int .u64 a1).wf = true) :
    Calls Try.prog 4 #[.agg (cv c), .int .u64 a1] w fun e w' => e = .returned (.bool true) ∧ Below w.heap.size w w' := by
  obtain ⟨s0, s1⟩ := u64_bounds w1
  obtain ⟨p0, p1⟩ := u64_bounds w0.Spsr
  cases hr : rightF c with
  | false => exact returns_bad c zeroC zeroC a1 w s0 s1 (crEq_self _) (fun w => back_bad c w hr) (fun w => rback_bad c w hr)
  | true =>
    cases hm : mayF c.Spsr with
    | false => exact returns_ok c (backN c) (backN c) a1 w s0 s1 (crEq_self _) (fun w => back_no c w hr hm) (fun w => rback_no c w hr hm p0 p1)
    | true =>
      refine returns_ok c _ _ a1 w s0 s1 ?_ (fun w => back_may c _ w hr hm p0 p1 rfl) (fun w => rback_may c _ w hr hm p0 p1 rfl)
      rw [back_same c p0 p1 hm]
      exact crEq_self _
end Go.Proofs.Ytkcdojlfliemmaa
