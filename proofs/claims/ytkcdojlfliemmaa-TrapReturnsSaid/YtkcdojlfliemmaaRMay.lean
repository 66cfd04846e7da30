/- The contract of the reference's May. -/
import Derived.Test.YtkcdojlfliemmaaMayLaw
namespace Go.Proofs.Ytkcdojlfliemmaa
open Go.RowKit
set_option linter.unusedVariables false

def preM (v : Int) (k : Nat) : Prop := ∀ j, j < k → badP j → ¬ (v / 2 ^ j).tmod 2 = 1
theorem preM_next (v : Int) (k : Nat) (h : preM v k) (hn : badP k → ¬ (v / 2 ^ k).tmod 2 = 1) : preM v (k + 1) := by
  intro j hj hb
  rcases Nat.lt_or_ge j k with h' | h'
  · exact h j h' hb
  · have : j = k := by omega
    subst this
    exact hn hb
set_option maxHeartbeats 2000000 in
theorem rmay_ok (v : Int) (w : World) (h0 : 0 ≤ v) (h1 : v ≤ 18446744073709551615) : Calls Try.prog 11 #[.int .u64 v] w fun e w' => e = .returned (.bool (mayF v)) ∧ w = w' := by
  have H0 := Lib.hid h0
  have H1 := Lib.hid h1
  clear h0 h1
  go_enter Try.func11, Try.ntmps11
  go_wp2_with fail
  go_loop [3] (fun i => ∃ k : Nat, k ≤ 64 ∧ i = .int .i64 k ∧ preM v k) (fun i => 64 - (intOf i).toNat)
  case atStart => exact ⟨0, by omega, rfl, fun j hj => by omega⟩
  case round =>
    obtain ⟨k, hk, rfl, hpre⟩ := hrel
    have Hpre := Lib.hid hpre
    clear hpre
    by_cases hlt : k < 64
    · have hl : ((k : Int) < 64) := by omega
      have hdec : decide ((k : Int) < 64) = true := by simpa using hl
      have hk0 : (0 : Int) ≤ (k : Int) := by omega
      by_cases hbit : (v / 2 ^ k).tmod 2 = 1
      · by_cases c31 : 31 < k
        · have d31 : (31 : Int) < (k : Int) := by omega
          have hno := mayF_no v k H0.out H1.out hlt (Or.inl c31) hbit
          have Hno := Lib.hid hno
          clear hno
          go_wp2
          all_goals (go_ret; exact ⟨by rw [Hno.out]; rfl, rfl⟩)
        · have d31 : (k : Int) ≤ 31 := by omega
          by_cases c28 : k < 28
          · have d28 : (k : Int) < 28 := by omega
            by_cases c7 : k = 7
            · have hn := preM_next v k Hpre.out (fun hb => by rcases hb with h | h <;> omega)
              have Hn := Lib.hid hn
              clear hn Hpre
              subst c7
              go_wp2
              all_goals exact ⟨⟨8, by omega, rfl, Hn.out⟩, by simp [intOf]⟩
            · have d7 : ((k : Int) != 7) = true := by simpa using (show ¬ (k : Int) = 7 by omega)
              have d7' : ¬ (k : Int) = 7 := by omega
              by_cases c4 : 4 < k
              · have d4 : (4 : Int) < (k : Int) := by omega
                have hno := mayF_no v k H0.out H1.out hlt (Or.inr ⟨c28, c7, c4⟩) hbit
                have Hno := Lib.hid hno
                clear hno
                go_wp2
                all_goals (go_ret; exact ⟨by rw [Hno.out]; rfl, rfl⟩)
              · have d4 : (k : Int) ≤ 4 := by omega
                have hn := preM_next v k Hpre.out (fun hb => by rcases hb with h | h <;> omega)
                have Hn := Lib.hid hn
                clear hn Hpre
                go_wp2
                all_goals exact ⟨⟨k + 1, by omega, by simp, Hn.out⟩, by simp [intOf]; omega⟩
          · have d28 : ¬ (k : Int) < 28 := by omega
            have hn := preM_next v k Hpre.out (fun hb => by rcases hb with h | h <;> omega)
            have Hn := Lib.hid hn
            clear hn Hpre
            go_wp2
            all_goals exact ⟨⟨k + 1, by omega, by simp, Hn.out⟩, by simp [intOf]; omega⟩
      · have hn := preM_next v k Hpre.out (fun _ => hbit)
        have Hn := Lib.hid hn
        clear hn Hpre
        have hbit' : ((v / 2 ^ k).tmod 2 == 1) = false := by simpa using hbit
        go_wp2
        all_goals exact ⟨⟨k + 1, by omega, by simp, Hn.out⟩, by simp [intOf]; omega⟩
    · have he : k = 64 := by omega
      subst he
      have hy := mayF_yes v H0.out H1.out Hpre.out
      have Hy := Lib.hid hy
      clear hy
      go_wp2
      all_goals (go_ret; exact ⟨by rw [Hy.out]; simp [*], rfl⟩)
end Go.Proofs.Ytkcdojlfliemmaa
