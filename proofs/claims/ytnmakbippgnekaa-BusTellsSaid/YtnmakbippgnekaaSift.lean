/- Sifting down, Init, Pop, in memory. -/
import Derived.Test.YtnmakbippgnekaaHp
set_option linter.unusedSimpArgs false
set_option linter.unusedSectionVars false
namespace Go.Proofs.Ytnmakbippgnekaa
open Go.RowKit
set_option linter.unusedVariables false
set_option maxRecDepth 100000

theorem Win.firsts {w : World} {e : TypeId} {size g off n m cap : Nat} {xs : List Value} (h : Win w e size (.slice (some ⟨g, off, none⟩) n cap) n xs) (hm : m ≤ n) : Win w e size (.slice (some ⟨g, off, none⟩) m cap) m (xs.take (m * size)) := by
  rcases h.2 with ⟨h0, _⟩ | ⟨g', off', cap', cs, hv, hb, h1, h2, h3, h4⟩
  · cases h0
  · cases hv
    have hmul := Nat.mul_le_mul_right size hm
    refine ⟨by rw [List.length_take, h.1]; omega, .inr ⟨g, off, cap, cs, rfl, hb, by omega, h2, h3, ?_⟩⟩
    rw [← h4, List.take_take, Nat.min_eq_left hmul]
theorem rows_take (f : Nat → List Value) (s : Nat) (hf : ∀ i, (f i).length = s) {m n : Nat} (h : m ≤ n) : (rows f n).take (m * s) = rows f m := by
  induction n with
  | zero => obtain rfl : m = 0 := by omega
            simp [rows]
  | succ n ih =>
    by_cases e : m = n + 1
    · subst e; rw [List.take_of_length_le (by rw [rows_length f s hf]; exact Nat.le_refl _)]
    · rw [rows_succ, List.take_append_of_le_length (by rw [rows_length f s hf]; exact Nat.mul_le_mul_right s (by omega)), ih (by omega)]
/-- Sifting down leaves its slice in its block. -/
def DownTo (w : World) (A g off N cap : Nat) (V' : Nat → Mo) (e : Ending) (w' : World) : Prop :=
  (∃ x, e = .returned (.bool x)) ∧ Fr (One g) w w' ∧ Win w' 96 2 (.slice (some ⟨g, off, none⟩) N cap) N (rows (mo V') N)
theorem frozen_win {w : World} {g off n cap : Nat} {xs : List Value} (h : Win w 96 2 (.slice (some ⟨g, off, none⟩) n cap) n xs) (o : Nat) : w.frozen? ⟨g, o, none⟩ = false := by
  rcases h.2 with ⟨h0, _⟩ | ⟨g', off', cap', cs, hv, hb, _⟩
  · cases h0
  · cases hv; exact hb.frozen o
set_option maxHeartbeats 2000000 in
theorem down_ok (A g off N cap i0 n : Nat) (V : Nat → Mo) (w : World) (hA : Blk w A 104 #[.slice (some ⟨g, off, none⟩) N cap]) (hw : Win w 96 2 (.slice (some ⟨g, off, none⟩) N cap) N (rows (mo V) N)) (hn : n ≤ N) (hN : N ≤ 100) (hi : i0 ≤ n) :
    Calls Try.prog 74 #[.iface 106 (.pointer (some ⟨A, 0, none⟩)), .int .i64 (i0 : Int), .int .i64 (n : Int)] w (DownTo w A g off N cap (downF ltM n V i0 n)) := by
  have hne : A ≠ g := fun e => by
    have := hw.ne hA (by decide)
    exact this (by rw [← e]; rfl)
  have HA := Lib.hid hA
  have HW := Lib.hid hw
  have HNE := Lib.hid hne
  have HN := Lib.hid (And.intro hn (And.intro hN hi))
  have b1 : (n : Int) ≤ 100 := by omega
  have b2 : (i0 : Int) ≤ (n : Int) := by omega
  clear hA hw hne hn hN hi
  go_enter Try.func74, Try.ntmps74
  go_wp2_with fail
  go_loopw [7] (fun i wr => ∃ (k f : Nat) (V' : Nat → Mo), i = .int .i64 (k : Int) ∧ k ≤ n ∧ n ≤ k + f ∧ Fr (One g) w wr ∧ Win wr 96 2 (.slice (some ⟨g, off, none⟩) N cap) N (rows (mo V') N) ∧ downF ltM f V' k n = downF ltM n V i0 n) (fun i _ => n - (intOf i).toNat)
  case atStart => exact ⟨i0, n, V, rfl, HN.out.2.2, by omega, Fr.refl _ _, HW.out, rfl⟩
  case round =>
    obtain ⟨k, f, V', rfl, hk, hf, fr, win, heq⟩ := hrel
    have hA := HA.out.fr1 fr HNE.out
    have FR := Lib.hid fr
    have WN := Lib.hid win
    have EQ := Lib.hid heq
    have HF := Lib.hid hf
    have k0 : (0 : Int) ≤ (k : Int) := by omega
    have kn : (k : Int) ≤ (n : Int) := by omega
    have ca := hA.cellv (i := 0) rfl
    have ms := run_method_val 235 "Less" 97 row_less A _ _ _ wr ca
    clear fr win heq hf
    by_cases h1 : 2 * k + 1 < n
    · obtain ⟨f', rfl⟩ : ∃ f', f = f' + 1 := ⟨f - 1, by have := HF.out; omega⟩
      have h1' : 2 * (k : Int) + 1 < (n : Int) := by omega
      by_cases h2 : 2 * k + 2 < n
      · have h2' : 2 * (k : Int) + 1 + 1 < (n : Int) := by omega
        have L1 := less_ok g off cap N V' (2 * k + 2) (2 * k + 1) wr WN.out (by have := HN.out; omega) (by have := HN.out; omega)
        rw [show ((2 * k + 2 : Nat) : Int) = 2 * (k : Int) + 1 + 1 by omega, show ((2 * k + 1 : Nat) : Int) = 2 * (k : Int) + 1 by omega] at L1
        have L1H := Lib.hid L1
        have HK := Lib.hid (And.intro hk (And.intro h1 h2))
        clear L1 hk h1 h2 hA
        go_wp2_with fail
        refine L1H.out.mono ?_
        rintro e w4 ⟨rfl, f4⟩
        have fr4 := FR.out.trans f4.nil
        have wn4 := WN.out.fr f4 fun _ _ => id
        have FR4 := Lib.hid fr4
        have WN4 := Lib.hid wn4
        clear fr4 wn4 f4 L1H
        cases hb : ltM (V' (2 * k + 2)) (V' (2 * k + 1))
        · have JJ := Lib.hid (show (if 2 * k + 2 < n ∧ ltM (V' (2 * k + 2)) (V' (2 * k + 1)) = true then 2 * k + 2 else 2 * k + 1) = 2 * k + 1 from if_neg (by rw [hb]; simp))
          clear hb
          have L2 := less_ok g off cap N V' (2 * k + 1) k w4 WN4.out (by have := HN.out; have := HK.out; omega) (by have := HN.out; have := HK.out; omega)
          rw [show ((2 * k + 1 : Nat) : Int) = 2 * (k : Int) + 1 by omega] at L2
          have L2H := Lib.hid L2
          have hA2 := HA.out.fr1 FR4.out HNE.out
          have ca2 := hA2.cellv (i := 0) rfl
          have ms2 := run_method_val 235 "Less" 97 row_less A _ _ _ w4 ca2
          clear L2 hA2
          go_wp2_with fail
          refine L2H.out.mono ?_
          rintro e w5 ⟨rfl, f5⟩
          have fr5 := FR4.out.trans f5.nil
          have wn5 := WN4.out.fr f5 fun _ _ => id
          have FR5 := Lib.hid fr5
          have WN5 := Lib.hid wn5
          have hA5 := HA.out.fr1 fr5 HNE.out
          have ca5 := hA5.cellv (i := 0) rfl
          cases hb2 : ltM (V' (2 * k + 1)) (V' k)
          · have DD := Lib.hid (downF_stay (f := f') HK.out.2.1 JJ.out hb2)
            clear hb2 fr5 wn5 hA5 L2H
            go_wp2_with fail
            go_ret
            exact ⟨⟨_, by simp; rfl⟩, FR5.out, by rw [← EQ.out, DD.out]; exact WN5.out⟩
          · have DD := Lib.hid (downF_go (f := f') HK.out.2.1 JJ.out hb2)
            have ms5 := run_method_val 235 "Swap" 98 row_swap A _ _ _ w5 ca5
            have SW := swap_ok g off cap N V' k (2 * k + 1) w5 wn5 (frozen_win wn5) (by have := HN.out; have := HK.out; omega) (by have := HN.out; have := HK.out; omega)
            rw [show ((2 * k + 1 : Nat) : Int) = 2 * (k : Int) + 1 by omega] at SW
            have SWH := Lib.hid SW
            clear hb2 fr5 wn5 hA5 SW L2H
            go_wp2_with fail
            refine SWH.out.mono ?_
            rintro e w6 ⟨rfl, f6, wn6⟩
            have F6 := Lib.hid (FR5.out.trans f6)
            have W6 := Lib.hid wn6
            clear f6 wn6 SWH
            go_wp2_with fail
            go_roundw
            case rel => exact ⟨2 * k + 1, f', swp V' k (2 * k + 1), by simp <;> omega, by have := HK.out; omega, by have := HF.out; omega, F6.out, W6.out, by rw [← DD.out]; exact EQ.out⟩
            case measure => have := HK.out; simp [intOf]; omega
        · have JJ := Lib.hid (show (if 2 * k + 2 < n ∧ ltM (V' (2 * k + 2)) (V' (2 * k + 1)) = true then 2 * k + 2 else 2 * k + 1) = 2 * k + 2 from if_pos ⟨HK.out.2.2, hb⟩)
          clear hb
          have L2 := less_ok g off cap N V' (2 * k + 2) k w4 WN4.out (by have := HN.out; have := HK.out; omega) (by have := HN.out; have := HK.out; omega)
          rw [show ((2 * k + 2 : Nat) : Int) = 2 * (k : Int) + 1 + 1 by omega] at L2
          have L2H := Lib.hid L2
          have hA2 := HA.out.fr1 FR4.out HNE.out
          have ca2 := hA2.cellv (i := 0) rfl
          have ms2 := run_method_val 235 "Less" 97 row_less A _ _ _ w4 ca2
          clear L2 hA2
          go_wp2_with fail
          refine L2H.out.mono ?_
          rintro e w5 ⟨rfl, f5⟩
          have fr5 := FR4.out.trans f5.nil
          have wn5 := WN4.out.fr f5 fun _ _ => id
          have FR5 := Lib.hid fr5
          have WN5 := Lib.hid wn5
          have hA5 := HA.out.fr1 fr5 HNE.out
          have ca5 := hA5.cellv (i := 0) rfl
          cases hb2 : ltM (V' (2 * k + 2)) (V' k)
          · have DD := Lib.hid (downF_stay (f := f') HK.out.2.1 JJ.out hb2)
            clear hb2 fr5 wn5 hA5 L2H
            go_wp2_with fail
            go_ret
            exact ⟨⟨_, by simp; rfl⟩, FR5.out, by rw [← EQ.out, DD.out]; exact WN5.out⟩
          · have DD := Lib.hid (downF_go (f := f') HK.out.2.1 JJ.out hb2)
            have ms5 := run_method_val 235 "Swap" 98 row_swap A _ _ _ w5 ca5
            have SW := swap_ok g off cap N V' k (2 * k + 2) w5 wn5 (frozen_win wn5) (by have := HN.out; have := HK.out; omega) (by have := HN.out; have := HK.out; omega)
            rw [show ((2 * k + 2 : Nat) : Int) = 2 * (k : Int) + 1 + 1 by omega] at SW
            have SWH := Lib.hid SW
            clear hb2 fr5 wn5 hA5 SW L2H
            go_wp2_with fail
            refine SWH.out.mono ?_
            rintro e w6 ⟨rfl, f6, wn6⟩
            have F6 := Lib.hid (FR5.out.trans f6)
            have W6 := Lib.hid wn6
            clear f6 wn6 SWH
            go_wp2_with fail
            go_roundw
            case rel => exact ⟨2 * k + 2, f', swp V' k (2 * k + 2), by simp <;> omega, by have := HK.out; omega, by have := HF.out; omega, F6.out, W6.out, by rw [← DD.out]; exact EQ.out⟩
            case measure => have := HK.out; simp [intOf]; omega
      · have h2' : (n : Int) ≤ 2 * (k : Int) + 1 + 1 := by omega
        have JJ := Lib.hid (show (if 2 * k + 2 < n ∧ ltM (V' (2 * k + 2)) (V' (2 * k + 1)) = true then 2 * k + 2 else 2 * k + 1) = 2 * k + 1 from if_neg (by omega))
        have HK := Lib.hid (And.intro hk (And.intro h1 h2))
        clear hk h1 h2 hA ms ca
        have L2 := less_ok g off cap N V' (2 * k + 1) k wr WN.out (by have := HN.out; have := HK.out; omega) (by have := HN.out; have := HK.out; omega)
        rw [show ((2 * k + 1 : Nat) : Int) = 2 * (k : Int) + 1 by omega] at L2
        have L2H := Lib.hid L2
        have hA2 := HA.out.fr1 FR.out HNE.out
        have ca2 := hA2.cellv (i := 0) rfl
        have ms2 := run_method_val 235 "Less" 97 row_less A _ _ _ wr ca2
        clear L2 hA2
        go_wp2_with fail
        refine L2H.out.mono ?_
        rintro e w5 ⟨rfl, f5⟩
        have fr5 := FR.out.trans f5.nil
        have wn5 := WN.out.fr f5 fun _ _ => id
        have FR5 := Lib.hid fr5
        have WN5 := Lib.hid wn5
        have hA5 := HA.out.fr1 fr5 HNE.out
        have ca5 := hA5.cellv (i := 0) rfl
        cases hb2 : ltM (V' (2 * k + 1)) (V' k)
        · have DD := Lib.hid (downF_stay (f := f') HK.out.2.1 JJ.out hb2)
          clear hb2 fr5 wn5 hA5 L2H
          go_wp2_with fail
          go_ret
          exact ⟨⟨_, by simp; rfl⟩, FR5.out, by rw [← EQ.out, DD.out]; exact WN5.out⟩
        · have DD := Lib.hid (downF_go (f := f') HK.out.2.1 JJ.out hb2)
          have ms5 := run_method_val 235 "Swap" 98 row_swap A _ _ _ w5 ca5
          have SW := swap_ok g off cap N V' k (2 * k + 1) w5 wn5 (frozen_win wn5) (by have := HN.out; have := HK.out; omega) (by have := HN.out; have := HK.out; omega)
          rw [show ((2 * k + 1 : Nat) : Int) = 2 * (k : Int) + 1 by omega] at SW
          have SWH := Lib.hid SW
          clear hb2 fr5 wn5 hA5 SW L2H
          go_wp2_with fail
          refine SWH.out.mono ?_
          rintro e w6 ⟨rfl, f6, wn6⟩
          have F6 := Lib.hid (FR5.out.trans f6)
          have W6 := Lib.hid wn6
          clear f6 wn6 SWH
          go_wp2_with fail
          go_roundw
          case rel => exact ⟨2 * k + 1, f', swp V' k (2 * k + 1), by simp <;> omega, by have := HK.out; omega, by have := HF.out; omega, F6.out, W6.out, by rw [← DD.out]; exact EQ.out⟩
          case measure => have := HK.out; simp [intOf]; omega
    · have h1' : (n : Int) ≤ 2 * (k : Int) + 1 := by omega
      have DD := Lib.hid (downF_end (lt := ltM) (f := f) (V := V') (show n ≤ 2 * k + 1 by omega))
      clear hk h1 hA ms
      go_wp2_with fail
      go_ret
      exact ⟨⟨_, by simp; rfl⟩, FR.out, by rw [← EQ.out, DD.out]; exact WN.out⟩
end Go.Proofs.Ytnmakbippgnekaa
