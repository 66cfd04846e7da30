/- Is a relation the document's? -/
import Derived.Test.YtpcpjmbfinpmlaaDoorRpx
import Derived.Test.YtpcpjmbfinpmlaaDoorTrn
set_option linter.unusedSimpArgs false
set_option linter.unusedVariables false
set_option linter.unusedSectionVars false
namespace Go.Proofs.YtpcpjmbfinpmlaaDoor
open Go.RowKit
set_option maxRecDepth 100000

theorem Win.ints {w : World} {e m : Nat} {v : Value} {l : List (Nat × Nat)} (h : Win w e 2 v l.length (pcs l)) : ∃ xs, Win w e 2 v l.length xs ∧ ∀ j, j < l.length * 2 → ∃ z, xs[j]? = some (.int .i64 z) := by
  refine ⟨_, h, fun j hj => ?_⟩
  have hx : j < (pcs l).length := by rw [pcs_length]; exact hj
  rw [List.getElem?_eq_getElem hx]
  have hm := List.getElem_mem hx
  generalize (pcs l)[j] = u at *
  unfold pcs at hm
  rw [List.mem_flatMap] at hm
  obtain ⟨p, _, h2⟩ := hm
  simp at h2
  rcases h2 with rfl | rfl
  · exact ⟨_, rfl⟩
  · exact ⟨_, rfl⟩
set_option maxHeartbeats 1000000 in
theorem isr_ok (b bx n : Nat) (r : Rn) (w : World) (h : RelAt w b n r) (hx : RefAt w bx n r) (hT : Tab w) : Calls Tryd.prog 13 #[.pointer (some ⟨b, 0, none⟩), .pointer (some ⟨bx, 0, none⟩)] w fun e w' => e = .returned (.bool true) ∧ Fr Nil w w' := by
  have HB := Lib.hid h
  have HX := Lib.hid hx
  have HT := Lib.hid hT
  have OK := Lib.hid h.ok
  have LL := Lib.hid (show (prs r).length ≤ 4096 from prsK_len r 64)
  have ll : ((prs r).length : Int) ≤ 4096 := by have := LL.out; omega
  clear h hx hT
  go_enter Tryd.func13, Tryd.ntmps13
  go_wp2_with fail
  refine (pairs_ok b n r w HB.out HT.out).mono ?_
  rintro e w2 ⟨pa, pc, rfl, hl⟩
  have P2 := Lib.hid hl.win
  have O2 := Lib.hid hl.own
  have F2 := Lib.hid hl.fr
  clear hl
  go_wp2_with fail
  refine (rpairs_ok bx n r w2 (HX.out.fr0 F2.out) OK.out).mono ?_
  rintro e w3 ⟨qa, qc, rfl, hl⟩
  have Q3 := Lib.hid hl.win
  have P3 := Lib.hid (P2.out.fr hl.fr fun _ _ => id)
  have F3 := Lib.hid (F2.out.trans hl.fr)
  clear hl F2 P2
  go_wp2_with fail
  refine (same_ok (prs r) pa qa pc qc w3 P3.out Q3.out LL.out).mono ?_
  rintro e w4 ⟨rfl, ff⟩
  have P4 := Lib.hid ((P3.out.fr ff fun _ _ => id).ints (m := 0))
  have F4 := Lib.hid (F3.out.trans ff)
  clear ff F3 P3 Q3
  go_wp2_with fail
  generalize (prs r).length = m at *
  go_loopw [7] (fun i wr => ∃ k : Nat, k ≤ m ∧ i = .int .i64 (k : Int) ∧ (∃ xs, Win wr 60 2 (.slice pa m pc) m xs ∧ ∀ j, j < m * 2 → ∃ z, xs[j]? = some (.int .i64 z)) ∧ Fr Nil w wr) (fun i _ => m - (intOf i).toNat)
  case atStart => exact ⟨0, Nat.zero_le _, rfl, P4.out, F4.out⟩
  case round =>
    obtain ⟨k, hk, rfl, ⟨xs, hp, hz⟩, hf⟩ := hrel
    clear P4 F4
    have HP := Lib.hid hp
    have HZ := Lib.hid hz
    have HF := Lib.hid hf
    clear hp hz hf
    by_cases hlt : k < m
    · have HK := Lib.hid hlt
      have kn : (k : Int) < (m : Int) := by omega
      obtain ⟨g, off, cap, ev, -, -, -, -, hfz⟩ := HP.out.form (by omega)
      cases ev
      obtain ⟨z0, e0⟩ := HZ.out (k * 2) (by omega)
      obtain ⟨z1, e1⟩ := HZ.out (k * 2 + 1) (by omega)
      have d0 := HP.out.cellAt e0
      have d1 := HP.out.cellAt e1
      rw [← Nat.add_assoc] at d1
      have f0 := hfz (off + k * 2)
      have f1 := hfz (off + k * 2 + 1)
      have P5 := Lib.hid ((HP.out.set_ (k * 2) (.int .i64 (-1))).set_ (k * 2 + 1) (.int .i64 (-1)))
      have F5 := Lib.hid ((HF.out.setNew (g := g) (i := off + k * 2) (O2.out g rfl) (.int .i64 (-1))).setNew (g := g) (i := off + k * 2 + 1) (O2.out g rfl) (.int .i64 (-1)))
      have Z5 : Hid (∀ j, j < m * 2 → ∃ z, ((xs.set (k * 2) (.int .i64 (-1))).set (k * 2 + 1) (.int .i64 (-1)))[j]? = some (Value.int .i64 z)) := Lib.hid fun j hj => by
        rw [List.getElem?_set, List.getElem?_set]
        obtain ⟨z, hz⟩ := HZ.out j hj
        have hl : j < xs.length := by
          rcases Nat.lt_or_ge j xs.length with h | h
          · exact h
          · rw [List.getElem?_eq_none h] at hz; cases hz
        by_cases a1 : k * 2 + 1 = j
        · rw [if_pos a1, if_pos (by rw [List.length_set]; omega)]
          exact ⟨-1, rfl⟩
        · rw [if_neg a1]
          by_cases a2 : k * 2 = j
          · rw [if_pos a2, if_pos (by omega)]
            exact ⟨-1, rfl⟩
          · rw [if_neg a2]
            exact ⟨z, hz⟩
      clear hk hlt e0 e1 hfz HP HZ HF
      go_upto_region 7 with fail
      clear d0 d1 f0 f1
      go_wp2_with fail
      go_roundw
      case rel => exact ⟨k + 1, HK.out, by go_num, ⟨_, P5.out, Z5.out⟩, F5.out⟩
      case measure => have := HK.out; simp [intOf]; omega
    · obtain rfl : k = m := by omega
      have l1 : decide (k < k) = false := by simp
      clear hk hlt HP HZ
      go_upto_region 9 with fail
      go_wp2_with fail
      refine (pairs_ok b n r wr (HB.out.fr0 HF.out) (HT.out.fr0 HF.out)).mono ?_
      rintro e w5 ⟨pa2, pc2, rfl, hl⟩
      have P2 := Lib.hid hl.win
      have F2 := Lib.hid (HF.out.trans hl.fr)
      clear hl HF
      go_wp2_with fail
      refine (rpairs_ok bx n r w5 (HX.out.fr0 F2.out) OK.out).mono ?_
      rintro e w6 ⟨qa2, qc2, rfl, hl⟩
      have Q3 := Lib.hid hl.win
      have P3 := Lib.hid (P2.out.fr hl.fr fun _ _ => id)
      have F3 := Lib.hid (F2.out.trans hl.fr)
      clear hl F2 P2
      go_wp2_with fail
      refine (same_ok (prs r) pa2 qa2 pc2 qc2 w6 P3.out Q3.out (prsK_len r 64)).mono ?_
      rintro e w7 ⟨rfl, ff⟩
      have F4 := Lib.hid (F3.out.trans ff)
      clear ff F3 P3 Q3
      go_upto_region 10 with fail
      have SZ := Lib.hid (fun k => (size_ok b n r (w7.drewN k) (HB.out.fr0 (Fr.drewN F4.out k))).mono (R' := fun e w' => e = .returned (.int .i64 (n : Int)) ∧ w' = w7.drewN k) fun e w' h => ⟨h.1, h.2.symm⟩)
      have cx := (HX.out.fr0 F4.out).n_c
      have nn : ((n : Int) == (n : Int)) = true := by simp
      go_quiet ((go_at_call 45; exact Calls.quiet_of_same (SZ.out _)))
      go_wp2_with fail
      go_ret
      exact ⟨rfl, F4.out.drewN _⟩
end Go.Proofs.YtpcpjmbfinpmlaaDoor
