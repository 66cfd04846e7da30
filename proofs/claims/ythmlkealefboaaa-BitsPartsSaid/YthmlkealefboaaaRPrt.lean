/- The document's Parts, walked. -/
import Derived.Test.YthmlkealefboaaaLMade
namespace Go.Proofs.Ythmlkealefboaaa
open Go.RowKit
set_option linter.unusedVariables false
set_option maxRecDepth 100000

/-- Of the sizes up to z none was it; of size z, no number of ones below s; of s ones, no turn below r. -/
def NoSize (m z : Nat) : Prop := ∀ z' S R : Nat, Size z' → z' < z → S < z' - 1 → R < z' → mkN z' S R ≠ m
def NoOnes (m z s : Nat) : Prop := ∀ S R : Nat, S < s → S < z - 1 → R < z → mkN z S R ≠ m
def NoTrn (m z s r : Nat) : Prop := ∀ R : Nat, R < r → R < z → mkN z s R ≠ m
theorem noTrn_succ {m z s r : Nat} (h : NoTrn m z s r) (hr : mkN z s r ≠ m) : NoTrn m z s (r + 1) := fun R h1 h2 => by
  by_cases e : R = r
  · subst e; exact hr
  · exact h R (by omega) h2
theorem noOnes_succ {m z s : Nat} (h : NoOnes m z s) (ht : NoTrn m z s z) : NoOnes m z (s + 1) := fun S R h1 h2 h3 => by
  by_cases e : S = s
  · subst e; exact ht R h3 h3
  · exact h S R (by omega) h2 h3
theorem noSize_next {m z z2 : Nat} (h : NoSize m z) (ho : NoOnes m z (z - 1)) (hz : ∀ z', Size z' → z' < z2 → z' < z ∨ z' = z) : NoSize m z2 := fun z' S R h0 h1 h2 h3 => by
  rcases hz z' h0 h1 with h4 | rfl
  · exact h z' S R h0 h4 h2 h3
  · exact ho S R (by omega) h2 h3
theorem rp_found {m z S R : Nat} (hz : Size z) (hS : S < z - 1) (hR : R < z) (he : mkN z S R = m) (ht : NoTrn m z S R) :
    PartsR m (if z = 64 then 1 else 0) R ((if z = 64 then S else 64 - 2 * z + S : Nat) : Int) 0 := .inl ⟨z, S, R, hz, hS, hR, he.symm, fun R' h => ht R' h (by omega), rfl, rfl, rfl, rfl⟩
theorem rp_lost {m : Nat} (h : NoSize m 128) : PartsR m 0 0 0 2 := .inr ⟨rfl, rfl, rfl, rfl, fun z S R hz hS hR => h z S R hz (by have := hz.pos; omega) hS hR⟩
set_option maxHeartbeats 4000000 in
theorem rparts_ok (m : Nat) (hm : m < 2 ^ 64) (w : World) : Calls Try.prog 22 #[.int .u64 (m : Int)] w (SomeP m w) := by
  have HM := Lib.hid hm
  clear hm
  go_enter Try.func22, Try.ntmps22
  go_wp2_with fail
  go_loopw [6] (fun zi wr => ∃ z : Nat, zi = .int .i64 (z : Int) ∧ (Size z ∨ z = 128) ∧ Hid (NoSize m z) ∧ Fr Nil w wr) (fun zi _ => 128 - (intOf zi).toNat)
  case atStart => exact ⟨2, rfl, .inl (by unfold Size; omega), Lib.hid (fun z' S R h0 h1 => by have := h0.pos; omega), Fr.refl _ _⟩
  case round =>
    obtain ⟨z, rfl, hz, hn, hf⟩ := hrel
    rcases hz with hz | rfl
    · have hz2 := hz.pos
      have hle : (z : Int) ≤ 64 := by omega
      have HZ := Lib.hid hz
      clear hz
      go_wp2_with fail
      go_loopw [7] (fun si wr => ∃ s : Nat, si = .int .i64 (s : Int) ∧ s ≤ z - 1 ∧ Hid (NoOnes m z s) ∧ Fr Nil w wr) (fun si _ => z - (intOf si).toNat)
      case atStart => exact ⟨0, rfl, Nat.zero_le _, Lib.hid (fun S R h => absurd h (Nat.not_lt_zero S)), hf⟩
      case round =>
        obtain ⟨s, rfl, hs, ho, hf⟩ := hrel
        by_cases hlt : s < z - 1
        · have hlt2 : (s : Int) < (z : Int) - 1 := by omega
          go_wp2_with fail
          go_loopw [8] (fun ri wr => ∃ r : Nat, ri = .int .i64 (r : Int) ∧ r ≤ z ∧ Hid (NoTrn m z s r) ∧ Fr Nil w wr) (fun ri _ => z - (intOf ri).toNat)
          case atStart => exact ⟨0, rfl, Nat.zero_le _, Lib.hid (fun R h => absurd h (Nat.not_lt_zero R)), hf⟩
          case round =>
            obtain ⟨r, rfl, hr, ht, hf⟩ := hrel
            by_cases hrl : r < z
            · have hrl2 : (r : Int) < (z : Int) := by omega
              have RM := rmsk_code HZ.out hlt hrl
              by_cases h64 : z = 64
              · have hb : ((z : Int) == 64) = true := by simp; omega
                have e1 : ((if z = 64 then s else 64 - 2 * z + s : Nat) : Int) = (s : Int) := by rw [if_pos h64]
                rw [if_pos h64, e1] at RM
                have RM' := Lib.hid RM
                have H64 := Lib.hid h64
                clear RM e1 h64
                by_cases he : mkN z s r = m
                · have hq : (((mkN z s r : Nat) : Int) == (m : Int)) = true := by simp [he]
                  have PF := rp_found HZ.out hlt hrl he ht.out
                  rw [if_pos H64.out, if_pos H64.out] at PF
                  have PF' := Lib.hid PF
                  clear PF he
                  go_wp2_with (go_at_call 20; refine (RM'.out _).mono ?_; rintro e w3 ⟨rfl, f3⟩)
                  refine bodyPost_ret (results_tmp4 rfl _ _) rfl ?_
                  exact ⟨_, _, _, _, rfl, PF'.out, hf.trans f3⟩
                · have hq : (((mkN z s r : Nat) : Int) == (m : Int)) = false := by simp; omega
                  have HT := Lib.hid (noTrn_succ ht.out he)
                  clear he
                  go_wp2_with (go_at_call 20; refine (RM'.out _).mono ?_; rintro e w3 ⟨rfl, f3⟩)
                  go_roundw
                  case rel => exact ⟨r + 1, by go_num, by omega, HT, hf.trans f3⟩
                  case measure => simp [intOf]; omega
              · have hb : ((z : Int) == 64) = false := by simp; omega
                have hz32 : z ≤ 32 := by rcases HZ.out with h | h | h | h | h | h <;> omega
                have hz32' : (z : Int) ≤ 32 := by omega
                have e1 : ((if z = 64 then s else 64 - 2 * z + s : Nat) : Int) = 64 - 2 * (z : Int) + (s : Int) := by rw [if_neg h64]; omega
                rw [if_neg h64, e1] at RM
                have RM' := Lib.hid RM
                have H64 := Lib.hid h64
                have E1 := Lib.hid e1
                clear RM e1 h64
                by_cases he : mkN z s r = m
                · have hq : (((mkN z s r : Nat) : Int) == (m : Int)) = true := by simp [he]
                  have PF := rp_found HZ.out hlt hrl he ht.out
                  rw [E1.out, if_neg H64.out] at PF
                  have PF' := Lib.hid PF
                  clear PF he
                  go_wp2_with (go_at_call 20; refine (RM'.out _).mono ?_; rintro e w3 ⟨rfl, f3⟩)
                  refine bodyPost_ret (results_tmp4 rfl _ _) rfl ?_
                  exact ⟨_, _, _, _, rfl, PF'.out, hf.trans f3⟩
                · have hq : (((mkN z s r : Nat) : Int) == (m : Int)) = false := by simp; omega
                  have HT := Lib.hid (noTrn_succ ht.out he)
                  clear he
                  go_wp2_with (go_at_call 20; refine (RM'.out _).mono ?_; rintro e w3 ⟨rfl, f3⟩)
                  go_roundw
                  case rel => exact ⟨r + 1, by go_num, by omega, HT, hf.trans f3⟩
                  case measure => simp [intOf]; omega
            · have hre : r = z := by omega
              subst hre
              have hd : decide (r < r) = false := by simp
              have HO := Lib.hid (noOnes_succ ho.out ht.out)
              go_wp2_with fail
              go_roundw
              case rel => exact ⟨s + 1, by go_num, by omega, HO, hf⟩
              case measure => simp [intOf]; omega
        · have hse : s = z - 1 := by omega
          have hd : decide ((s : Int) < (z : Int) - 1) = false := by simp; omega
          have HN : Hid (NoSize m (z * 2)) := Lib.hid (noSize_next hn.out (by rw [← hse]; exact ho.out) fun z' h0 h1 => by
            rcases HZ.out with h | h | h | h | h | h <;> rcases h0 with h' | h' | h' | h' | h' | h' <;> omega)
          have HS2 : Hid (Size (z * 2) ∨ z * 2 = 128) := Lib.hid (by rcases HZ.out with h | h | h | h | h | h <;> subst h <;> unfold Size <;> omega)
          go_wp2_with fail
          go_roundw
          case rel => exact ⟨z * 2, by go_num, HS2.out, HN, hf⟩
          case measure => simp [intOf]; omega
    · have PL := Lib.hid (rp_lost hn.out)
      have hlt : decide (((128 : Nat) : Int) ≤ 64) = false := by decide
      go_wp2_with fail
      refine bodyPost_ret (results_tmp4 rfl _ _) rfl ?_
      exact ⟨_, _, _, _, rfl, PL.out, hf⟩
theorem bparts_gen (m : Nat) (hm : m < 2 ^ 64) (w : World) : Calls Try.prog 6 #[.int .u64 (m : Int)] w fun e w' => e = .returned (.bool true) ∧ Fr Nil w w' := by
  have HM := Lib.hid hm
  clear hm
  go_enter Try.func6, Try.ntmps6
  go_wp2_with fail
  refine (examples_ok w).mono ?_
  rintro e w1 ⟨rfl, f1⟩
  have F1 := Lib.hid f1
  clear f1
  go_wp2_with fail
  refine (parts_ok m HM.out w1).mono ?_
  rintro e w2 ⟨n, r, s, c, rfl, hP, f2⟩
  have F2 := Lib.hid (F1.out.trans f2)
  have P := Lib.hid hP
  clear f2 F1 hP
  go_wp2_with fail
  refine (rparts_ok m HM.out w2).mono ?_
  rintro e w3 ⟨n', r', s', c', rfl, hP, f3⟩
  have F3 := Lib.hid (F2.out.trans f3)
  obtain ⟨rfl, rfl, rfl, rfl⟩ := P.out.unique hP
  clear f3 F2 hP
  go_wp2_with fail
  go_ret
  exact ⟨rfl, F3.out⟩
theorem bitsParts_walk (mask : Int) (w : World) (w1 : (Lit.int .u64 mask).wf = true) :
    Calls Try.prog 6 #[.int .u64 mask] w fun e w' => e = .returned (.bool true) ∧ Below w.heap.size w w' := by
  obtain ⟨d0, d1⟩ := u64_in w1
  obtain ⟨m, rfl⟩ : ∃ m : Nat, mask = (m : Int) := ⟨mask.toNat, by omega⟩
  exact (bparts_gen m (by omega) w).mono fun e w' h => ⟨h.1, h.2.below (Nat.le_refl _) fun _ _ => id⟩
end Go.Proofs.Ythmlkealefboaaa
