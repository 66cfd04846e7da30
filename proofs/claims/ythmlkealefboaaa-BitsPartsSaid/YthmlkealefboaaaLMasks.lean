/- BitsMasks, walked. -/
import Derived.Test.YthmlkealefboaaaRMk
namespace Go.Proofs.Ythmlkealefboaaa
open Go.RowKit
set_option linter.unusedVariables false

theorem i64_in {a : Int} (h : (Lit.int .i64 a).wf = true) : -9223372036854775808 ≤ a ∧ a ≤ 9223372036854775807 := by
  simp only [Lit.wf, Bool.and_eq_true, decide_eq_true_eq] at h
  exact h
theorem msk_both (n immr imms : Int) (n0 : -9223372036854775808 ≤ n) (n1 : n ≤ 9223372036854775807) (r0 : -9223372036854775808 ≤ immr) (r1 : immr ≤ 9223372036854775807) (s0 : -9223372036854775808 ≤ imms) (s1 : imms ≤ 9223372036854775807) : ∃ v e, MskC n immr imms v e ∧ RMskC n immr imms v e := by
  by_cases a : n < 0 ∨ 1 < n
  · refine ⟨0, 1, msk_n n immr imms ?_, rmsk_bad n immr imms (by omega)⟩
    cases hb : (bits .or .i64 n 1 == 1)
    · rfl
    · have := or_i64 n 1 n0 n1 (by omega) (by simpa using hb)
      omega
  · have hn : bits .or .i64 n 1 = 1 := by
      have : n = 0 ∨ n = 1 := by omega
      rcases this with rfl | rfl <;> decide
    by_cases b : immr < 0 ∨ 63 < immr
    · refine ⟨0, 1, msk_r n immr imms hn ?_, rmsk_bad n immr imms (by omega)⟩
      cases hb : (bits .or .i64 immr 63 == 63)
      · rfl
      · have := or_i64 immr 63 r0 r1 (by omega) (by simpa using hb)
        omega
    · obtain ⟨T, rfl⟩ : ∃ T : Nat, immr = (T : Int) := ⟨immr.toNat, by omega⟩
      by_cases c : imms < 0 ∨ 63 < imms
      · refine ⟨0, 1, msk_s n (T : Int) imms hn (or63 T (by omega)) ?_, rmsk_bad n (T : Int) imms (by omega)⟩
        cases hb : (bits .or .i64 imms 63 == 63)
        · rfl
        · have := or_i64 imms 63 s0 s1 (by omega) (by simpa using hb)
          omega
      · obtain ⟨k, rfl⟩ : ∃ k : Nat, imms = (k : Int) := ⟨imms.toNat, by omega⟩
        have hT : T < 64 := by omega
        have hn01 : n = 0 ∨ n = 1 := by omega
        rcases hn01 with rfl | rfl
        · by_cases c32 : k < 32
          · have A := msk_32 T k hT (by omega) (by omega)
            have B := rmsk_32 T k hT (by omega) (by omega)
            by_cases e : k % 32 = 32 - 1
            · exact ⟨_, _, A.1 e, B.1 e⟩
            · exact ⟨_, _, A.2 (by omega), B.2 (by omega)⟩
          by_cases c16 : k < 48
          · have A := msk_16 T k hT (by omega) (by omega)
            have B := rmsk_16 T k hT (by omega) (by omega)
            by_cases e : k % 16 = 16 - 1
            · exact ⟨_, _, A.1 e, B.1 e⟩
            · exact ⟨_, _, A.2 (by omega), B.2 (by omega)⟩
          by_cases c8 : k < 56
          · have A := msk_8 T k hT (by omega) (by omega)
            have B := rmsk_8 T k hT (by omega) (by omega)
            by_cases e : k % 8 = 8 - 1
            · exact ⟨_, _, A.1 e, B.1 e⟩
            · exact ⟨_, _, A.2 (by omega), B.2 (by omega)⟩
          by_cases c4 : k < 60
          · have A := msk_4 T k hT (by omega) (by omega)
            have B := rmsk_4 T k hT (by omega) (by omega)
            by_cases e : k % 4 = 4 - 1
            · exact ⟨_, _, A.1 e, B.1 e⟩
            · exact ⟨_, _, A.2 (by omega), B.2 (by omega)⟩
          by_cases c2 : k < 62
          · have A := msk_2 T k hT (by omega) (by omega)
            have B := rmsk_2 T k hT (by omega) (by omega)
            by_cases e : k % 2 = 2 - 1
            · exact ⟨_, _, A.1 e, B.1 e⟩
            · exact ⟨_, _, A.2 (by omega), B.2 (by omega)⟩
          exact ⟨_, _, msk_0 T k hT (by omega) (by omega), rmsk_0 T k hT (by omega) (by omega)⟩
        · have A := msk_64 T k hT (by omega) (by omega)
          have B := rmsk_64 T k hT (by omega) (by omega)
          by_cases e : k % 64 = 64 - 1
          · exact ⟨_, _, A.1 e, B.1 e⟩
          · exact ⟨_, _, A.2 (by omega), B.2 (by omega)⟩
set_option maxHeartbeats 2000000 in
theorem bm_walk (n immr imms v f : Int) (w : World) (hA : MskC n immr imms v f) (hB : RMskC n immr imms v f) :
    Calls Try.prog 5 #[.int .i64 n, .int .i64 immr, .int .i64 imms] w fun e w' => e = .returned (.bool true) ∧ Below w.heap.size w w' := by
  have A := Lib.hid hA
  have B := Lib.hid hB
  clear hA hB
  go_enter Try.func5, Try.ntmps5
  go_wp2_with fail
  refine (examples_ok w).mono ?_
  rintro e w1 ⟨rfl, f1⟩
  have F1 := Lib.hid f1
  clear f1
  go_wp2_with fail
  refine (A.out w1).mono ?_
  rintro e w2 ⟨rfl, f2⟩
  have F2 := Lib.hid (F1.out.trans f2)
  clear f2 F1
  go_wp2_with fail
  refine (B.out w2).mono ?_
  rintro e w3 ⟨rfl, f3⟩
  have F3 := Lib.hid (F2.out.trans f3)
  clear f3 F2
  go_wp2_with fail
  go_ret
  exact ⟨by first | rfl | simp [*], F3.out.below (Nat.le_refl _) (fun _ _ => id)⟩
theorem bitsMasks_walk (n immr imms : Int) (w : World) (w1 : (Lit.int .i64 n).wf = true) (w2 : (Lit.int .i64 immr).wf = true) (w3 : (Lit.int .i64 imms).wf = true) :
    Calls Try.prog 5 #[.int .i64 n, .int .i64 immr, .int .i64 imms] w fun e w' => e = .returned (.bool true) ∧ Below w.heap.size w w' := by
  obtain ⟨a0, a1⟩ := i64_in w1
  obtain ⟨b0, b1⟩ := i64_in w2
  obtain ⟨c0, c1⟩ := i64_in w3
  obtain ⟨v, f, hA, hB⟩ := msk_both n immr imms a0 a1 b0 b1 c0 c1
  exact bm_walk n immr imms v f w hA hB
end Go.Proofs.Ythmlkealefboaaa
