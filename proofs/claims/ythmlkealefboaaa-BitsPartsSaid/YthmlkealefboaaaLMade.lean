/- BitsMade, walked. -/
import Derived.Test.YthmlkealefboaaaPrt
import Derived.Test.YthmlkealefboaaaLMasks
namespace Go.Proofs.Ythmlkealefboaaa
open Go.RowKit
set_option linter.unusedVariables false
set_option maxRecDepth 100000

def IsMask (v : Int) : Prop := ∃ z S R : Nat, Size z ∧ S < z - 1 ∧ R < z ∧ v = (mkN z S R : Int)
theorem mkN_lt {z S R : Nat} (hz : Size z) (hS : S < z - 1) (hR : R < z) : mkN z S R < 2 ^ 64 := ofB_lt _ 64
theorem msk_is (n immr imms : Int) (n0 : -9223372036854775808 ≤ n) (n1 : n ≤ 9223372036854775807) (r0 : -9223372036854775808 ≤ immr) (r1 : immr ≤ 9223372036854775807) (s0 : -9223372036854775808 ≤ imms) (s1 : imms ≤ 9223372036854775807) :
    ∃ v e, MskC n immr imms v e ∧ ((e == 0) = false ∨ (e = 0 ∧ IsMask v)) := by
  by_cases a : n < 0 ∨ 1 < n
  · refine ⟨0, 1, msk_n n immr imms ?_, .inl rfl⟩
    cases hb : (bits .or .i64 n 1 == 1)
    · rfl
    · have := or_i64 n 1 n0 n1 (by omega) (by simpa using hb)
      omega
  · have hn : bits .or .i64 n 1 = 1 := by
      have : n = 0 ∨ n = 1 := by omega
      rcases this with rfl | rfl <;> decide
    by_cases b : immr < 0 ∨ 63 < immr
    · refine ⟨0, 1, msk_r n immr imms hn ?_, .inl rfl⟩
      cases hb : (bits .or .i64 immr 63 == 63)
      · rfl
      · have := or_i64 immr 63 r0 r1 (by omega) (by simpa using hb)
        omega
    · obtain ⟨T, rfl⟩ : ∃ T : Nat, immr = (T : Int) := ⟨immr.toNat, by omega⟩
      by_cases c : imms < 0 ∨ 63 < imms
      · refine ⟨0, 1, msk_s n (T : Int) imms hn (or63 T (by omega)) ?_, .inl rfl⟩
        cases hb : (bits .or .i64 imms 63 == 63)
        · rfl
        · have := or_i64 imms 63 s0 s1 (by omega) (by simpa using hb)
          omega
      · obtain ⟨k, rfl⟩ : ∃ k : Nat, imms = (k : Int) := ⟨imms.toNat, by omega⟩
        have hT : T < 64 := by omega
        have hn01 : n = 0 ∨ n = 1 := by omega
        rcases hn01 with rfl | rfl
        · by_cases c32 : k < 32
          · have A := msk_32 T k hT (by omega) (by omega)
            by_cases e : k % 32 = 32 - 1
            · exact ⟨_, _, A.1 e, .inl rfl⟩
            · exact ⟨_, _, A.2 (by omega), .inr ⟨rfl, 32, k % 32, T % 32, by unfold Size; omega, by omega, by omega, rfl⟩⟩
          by_cases c16 : k < 48
          · have A := msk_16 T k hT (by omega) (by omega)
            by_cases e : k % 16 = 16 - 1
            · exact ⟨_, _, A.1 e, .inl rfl⟩
            · exact ⟨_, _, A.2 (by omega), .inr ⟨rfl, 16, k % 16, T % 16, by unfold Size; omega, by omega, by omega, rfl⟩⟩
          by_cases c8 : k < 56
          · have A := msk_8 T k hT (by omega) (by omega)
            by_cases e : k % 8 = 8 - 1
            · exact ⟨_, _, A.1 e, .inl rfl⟩
            · exact ⟨_, _, A.2 (by omega), .inr ⟨rfl, 8, k % 8, T % 8, by unfold Size; omega, by omega, by omega, rfl⟩⟩
          by_cases c4 : k < 60
          · have A := msk_4 T k hT (by omega) (by omega)
            by_cases e : k % 4 = 4 - 1
            · exact ⟨_, _, A.1 e, .inl rfl⟩
            · exact ⟨_, _, A.2 (by omega), .inr ⟨rfl, 4, k % 4, T % 4, by unfold Size; omega, by omega, by omega, rfl⟩⟩
          by_cases c2 : k < 62
          · have A := msk_2 T k hT (by omega) (by omega)
            by_cases e : k % 2 = 2 - 1
            · exact ⟨_, _, A.1 e, .inl rfl⟩
            · exact ⟨_, _, A.2 (by omega), .inr ⟨rfl, 2, k % 2, T % 2, by unfold Size; omega, by omega, by omega, rfl⟩⟩
          exact ⟨_, _, msk_0 T k hT (by omega) (by omega), .inl rfl⟩
        · have A := msk_64 T k hT (by omega) (by omega)
          by_cases e : k % 64 = 64 - 1
          · exact ⟨_, _, A.1 e, .inl rfl⟩
          · exact ⟨_, _, A.2 (by omega), .inr ⟨rfl, 64, k % 64, T % 64, by unfold Size; omega, by omega, by omega, rfl⟩⟩
theorem msk_code {z S R : Nat} (hz : Size z) (hS : S < z - 1) (hR : R < z) : MskC (if z = 64 then 1 else 0) (R : Int) ((if z = 64 then S else 64 - 2 * z + S : Nat) : Int) (mkN z S R : Int) 0 := by
  rcases hz with rfl | rfl | rfl | rfl | rfl | rfl
  · have A := (msk_2 R (64 - 2 * 2 + S) (by omega) (by omega) (by omega)).2 (by omega)
    rw [show (64 - 2 * 2 + S) % 2 = S by omega, Nat.mod_eq_of_lt hR] at A
    exact A
  · have A := (msk_4 R (64 - 2 * 4 + S) (by omega) (by omega) (by omega)).2 (by omega)
    rw [show (64 - 2 * 4 + S) % 4 = S by omega, Nat.mod_eq_of_lt hR] at A
    exact A
  · have A := (msk_8 R (64 - 2 * 8 + S) (by omega) (by omega) (by omega)).2 (by omega)
    rw [show (64 - 2 * 8 + S) % 8 = S by omega, Nat.mod_eq_of_lt hR] at A
    exact A
  · have A := (msk_16 R (64 - 2 * 16 + S) (by omega) (by omega) (by omega)).2 (by omega)
    rw [show (64 - 2 * 16 + S) % 16 = S by omega, Nat.mod_eq_of_lt hR] at A
    exact A
  · have A := (msk_32 R (64 - 2 * 32 + S) (by omega) (by omega) (by omega)).2 (by omega)
    rw [show (64 - 2 * 32 + S) % 32 = S by omega, Nat.mod_eq_of_lt hR] at A
    exact A
  · have A := (msk_64 R (S) (by omega) (by omega) (by omega)).2 (by omega)
    rw [show (S) % 64 = S by omega, Nat.mod_eq_of_lt hR] at A
    exact A
theorem rmsk_code {z S R : Nat} (hz : Size z) (hS : S < z - 1) (hR : R < z) : RMskC (if z = 64 then 1 else 0) (R : Int) ((if z = 64 then S else 64 - 2 * z + S : Nat) : Int) (mkN z S R : Int) 0 := by
  rcases hz with rfl | rfl | rfl | rfl | rfl | rfl
  · have A := (rmsk_2 R (64 - 2 * 2 + S) (by omega) (by omega) (by omega)).2 (by omega)
    rw [show (64 - 2 * 2 + S) % 2 = S by omega, Nat.mod_eq_of_lt hR] at A
    exact A
  · have A := (rmsk_4 R (64 - 2 * 4 + S) (by omega) (by omega) (by omega)).2 (by omega)
    rw [show (64 - 2 * 4 + S) % 4 = S by omega, Nat.mod_eq_of_lt hR] at A
    exact A
  · have A := (rmsk_8 R (64 - 2 * 8 + S) (by omega) (by omega) (by omega)).2 (by omega)
    rw [show (64 - 2 * 8 + S) % 8 = S by omega, Nat.mod_eq_of_lt hR] at A
    exact A
  · have A := (rmsk_16 R (64 - 2 * 16 + S) (by omega) (by omega) (by omega)).2 (by omega)
    rw [show (64 - 2 * 16 + S) % 16 = S by omega, Nat.mod_eq_of_lt hR] at A
    exact A
  · have A := (rmsk_32 R (64 - 2 * 32 + S) (by omega) (by omega) (by omega)).2 (by omega)
    rw [show (64 - 2 * 32 + S) % 32 = S by omega, Nat.mod_eq_of_lt hR] at A
    exact A
  · have A := (rmsk_64 R (S) (by omega) (by omega) (by omega)).2 (by omega)
    rw [show (S) % 64 = S by omega, Nat.mod_eq_of_lt hR] at A
    exact A
theorem mk_none {z S R : Nat} (hz : Size z) (hS : S < z - 1) (hR : R < z) : mkN z S R ≠ 0 ∧ mkN z S R ≠ 2 ^ 64 - 1 := by
  refine ⟨fun e => ?_, fun e => ?_⟩
  · rcases none_zero with ⟨_, _, _, _, _, _, _, _, _, _, _, h⟩ | ⟨_, _, _, _, h⟩
    · cases h
    · exact h z S R hz hS hR e
  · rcases none_full with ⟨_, _, _, _, _, _, _, _, _, _, _, h⟩ | ⟨_, _, _, _, h⟩
    · cases h
    · exact h z S R hz hS hR e
theorem PartsR.made {m : Nat} {n r s e : Int} (h : PartsR m n r s e) : (e = 0 ∧ MskC n r s (m : Int) 0) ∨ (n = 0 ∧ r = 0 ∧ s = 0 ∧ e = 2 ∧ ¬ IsMask (m : Int)) := by
  rcases h with ⟨z, S, R, hz, hS, hR, hm, _, rfl, rfl, rfl, rfl⟩ | ⟨rfl, rfl, rfl, rfl, h⟩
  · refine .inl ⟨rfl, ?_⟩
    rw [hm]
    exact msk_code hz hS hR
  · refine .inr ⟨rfl, rfl, rfl, rfl, ?_⟩
    rintro ⟨z, S, R, hz, hS, hR, he⟩
    exact h z S R hz hS hR (by omega)
set_option maxHeartbeats 2000000 in
theorem made_rest (m : Nat) (hm : m < 2 ^ 64) (n r s e : Int) (h : PartsR m n r s e) : (e = 0 ∧ MskC n r s (m : Int) 0) ∨ (n = 0 ∧ r = 0 ∧ s = 0 ∧ e = 2) := by
  rcases h.made with h | ⟨a, b, c, d, _⟩
  · exact .inl h
  · exact .inr ⟨a, b, c, d⟩
set_option maxHeartbeats 4000000 in
theorem bmade_gen (n immr imms v f : Int) (m : Nat) (hm : m < 2 ^ 64) (w : World) (hA : MskC n immr imms v f) (hv : (f == 0) = false ∨ (f = 0 ∧ IsMask v)) :
    Calls Try.prog 8 #[.int .i64 n, .int .i64 immr, .int .i64 imms, .int .u64 (m : Int)] w fun e w' => e = .returned (.bool true) ∧ Fr Nil w w' := by
  have A := Lib.hid hA
  have HM := Lib.hid hm
  clear hA hm
  rcases hv with hf | ⟨rfl, hv⟩
  · go_enter Try.func8, Try.ntmps8
    go_wp2_with fail
    refine (examples_ok w).mono ?_
    rintro e w1 ⟨rfl, f1⟩
    have F1 := Lib.hid f1
    clear f1
    go_wp2_with fail
    refine (A.out w1).mono ?_
    rintro e w2 ⟨rfl, f2⟩
    have F2 := Lib.hid (F1.out.trans f2)
    clear f2 F1
    go_wp2_with fail
    refine (parts_ok m HM.out w2).mono ?_
    rintro e w3 ⟨n3, r3, s3, e3, rfl, hP, f3⟩
    have F3 := Lib.hid (F2.out.trans f3)
    have P := made_rest m HM.out _ _ _ _ hP
    clear f3 F2 hP hf
    rcases P with ⟨rfl, hM⟩ | ⟨rfl, rfl, rfl, rfl⟩
    · have M := Lib.hid hM
      clear hM
      go_wp2_with fail
      refine (M.out w3).mono ?_
      rintro e w4 ⟨rfl, f4⟩
      have F4 := Lib.hid (F3.out.trans f4)
      clear f4
      go_wp2_with fail
      go_ret
      exact ⟨rfl, F4.out⟩
    · go_wp2_with fail
      go_ret
      exact ⟨rfl, F3.out⟩
  · obtain ⟨z, S, R, hz, hS, hR, rfl⟩ := hv
    have hl := mkN_lt hz hS hR
    have hno := mk_none hz hS hR
    have MK : Hid (IsMask ((mkN z S R : Nat) : Int)) := Lib.hid ⟨z, S, R, hz, hS, hR, rfl⟩
    generalize mkN z S R = k at *
    have k0 : ((k : Int) == 0) = false := by simp; exact hno.1
    have k1 : ((k : Int) == 18446744073709551615) = false := by simp; omega
    have KL := Lib.hid hl
    clear hno hl hz hS hR
    go_enter Try.func8, Try.ntmps8
    go_wp2_with fail
    refine (examples_ok w).mono ?_
    rintro e w1 ⟨rfl, f1⟩
    have F1 := Lib.hid f1
    clear f1
    go_wp2_with fail
    refine (A.out w1).mono ?_
    rintro e w2 ⟨rfl, f2⟩
    have F2 := Lib.hid (F1.out.trans f2)
    clear f2 F1
    go_wp2_with fail
    refine (parts_ok k KL.out w2).mono ?_
    rintro e w5 ⟨n5, r5, s5, e5, rfl, hP, f5⟩
    have F5 := Lib.hid (F2.out.trans f5)
    have P := hP.made
    clear f5 F2 hP
    rcases P with ⟨rfl, hM⟩ | ⟨_, _, _, _, hno⟩
    · have M5 := Lib.hid hM
      clear hM
      go_wp2_with fail
      refine (M5.out w5).mono ?_
      rintro e w6 ⟨rfl, f6⟩
      have F6 := Lib.hid (F5.out.trans f6)
      clear f6 F5
      go_wp2_with fail
      refine (parts_ok m HM.out w6).mono ?_
      rintro e w3 ⟨n3, r3, s3, e3, rfl, hP, f3⟩
      have F3 := Lib.hid (F6.out.trans f3)
      have P := made_rest m HM.out _ _ _ _ hP
      clear f3 F6 hP
      rcases P with ⟨rfl, hM⟩ | ⟨rfl, rfl, rfl, rfl⟩
      · have M := Lib.hid hM
        clear hM
        go_wp2_with fail
        refine (M.out w3).mono ?_
        rintro e w4 ⟨rfl, f4⟩
        have F4 := Lib.hid (F3.out.trans f4)
        clear f4
        go_wp2_with fail
        go_ret
        exact ⟨rfl, F4.out⟩
      · go_wp2_with fail
        go_ret
        exact ⟨rfl, F3.out⟩
    · exact absurd MK.out hno
theorem u64_in {a : Int} (h : (Lit.int .u64 a).wf = true) : 0 ≤ a ∧ a ≤ 18446744073709551615 := by
  simp only [Lit.wf, Bool.and_eq_true, decide_eq_true_eq] at h
  exact h
theorem bitsMade_walk (n immr imms mask : Int) (w : World) (w1 : (Lit.int .i64 n).wf = true) (w2 : (Lit.int .i64 immr).wf = true) (w3 : (Lit.int .i64 imms).wf = true) (w4 : (Lit.int .u64 mask).wf = true) :
    Calls Try.prog 8 #[.int .i64 n, .int .i64 immr, .int .i64 imms, .int .u64 mask] w fun e w' => e = .returned (.bool true) ∧ Below w.heap.size w w' := by
  obtain ⟨a0, a1⟩ := i64_in w1
  obtain ⟨b0, b1⟩ := i64_in w2
  obtain ⟨c0, c1⟩ := i64_in w3
  obtain ⟨d0, d1⟩ := u64_in w4
  obtain ⟨v, f, hA, hv⟩ := msk_is n immr imms a0 a1 b0 b1 c0 c1
  obtain ⟨m, rfl⟩ : ∃ m : Nat, mask = (m : Int) := ⟨mask.toNat, by omega⟩
  exact (bmade_gen n immr imms v f m (by omega) w hA hv).mono fun e w' h => ⟨h.1, h.2.below (Nat.le_refl _) fun _ _ => id⟩
end Go.Proofs.Ythmlkealefboaaa
