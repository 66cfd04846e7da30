/- The document's Inter. -/
import Derived.Test.YtpcpjmbfinpmlaaDoorSgl
set_option linter.unusedSimpArgs false
set_option linter.unusedVariables false
set_option linter.unusedSectionVars false
namespace Go.Proofs.YtpcpjmbfinpmlaaDoor
open Go.RowKit
set_option maxRecDepth 100000

set_option maxHeartbeats 2000000 in
theorem rinter_ok (b c n : Nat) (r s : Rn) (w : World) (h1 : RefAt w b n r) (h2 : RefAt w c n s) (hr : ∀ a c, r a c = true → a < n ∧ c < n) (hs : ∀ a c, s a c = true → a < n ∧ c < n) : Calls Tryd.prog 30 #[.pointer (some ⟨b, 0, none⟩), .pointer (some ⟨c, 0, none⟩)] w (RefTo w n (intR r s)) := by
  have HR := Lib.hid h1
  have HS := Lib.hid h2
  have QK := Lib.hid (intR_ok (s := s) hr)
  have N64 := Lib.hid h1.n64
  have n64 : (n : Int) ≤ 64 := by have := h1.n64; omega
  have c0 := h1.n_c
  clear h1 h2 hr hs
  go_enter Tryd.func30, Tryd.ntmps30
  go_upto_region 2 with fail
  have F0 := Lib.hid ((Fr.refl Nil w).alloc (.cells (Tryd.zeroCells43.setIfInBounds 0 (.int .i64 (n : Int))) 43))
  have R0 := Lib.hid (show RefAt (w.alloc (.cells (Tryd.zeroCells43.setIfInBounds 0 (.int .i64 (n : Int))) 43)) w.heap.size n noR from ⟨by rw [rfc_zero]; exact Blk.new w 43 _, N64.out⟩)
  generalize (w.alloc (.cells (Tryd.zeroCells43.setIfInBounds 0 (.int .i64 (n : Int))) 43)) = w0 at *
  obtain ⟨g, hg⟩ : ∃ g, g = w.heap.size := ⟨_, rfl⟩
  rw [← hg] at R0 ⊢
  have HG := Lib.hid (Nat.le_of_eq hg.symm)
  clear hg c0
  go_wp2_with fail
  go_loopw [6] (fun i wr => ∃ k : Nat, k ≤ n ∧ i = .int .i64 (k : Int) ∧ RefAt wr g n (celR (intR r s) k 0) ∧ Fr Nil w wr) (fun i _ => n - (intOf i).toNat)
  case atStart => exact ⟨0, Nat.zero_le _, rfl, by rw [celR_zero]; exact R0.out, F0.out⟩
  case round =>
    clear R0 F0
    obtain ⟨k, hk, rfl, hq, hf⟩ := hrel
    have HQ := Lib.hid hq
    have HF := Lib.hid hf
    clear hq hf
    have c0 := (HR.out.fr0 HF.out).n_c
    by_cases hlt : k < n
    · have HK := Lib.hid hlt
      have kn : (k : Int) < (n : Int) := by omega
      have k64 : (k : Int) < 64 := by omega
      clear hk hlt
      go_upto_region 5 with fail
      clear c0
      go_wp2_with fail
      go_loopw [7] (fun i wr => ∃ t : Nat, t ≤ n ∧ i = .int .i64 (t : Int) ∧ RefAt wr g n (celR (intR r s) k t) ∧ Fr Nil w wr) (fun i _ => n - (intOf i).toNat)
      case atStart => exact ⟨0, Nat.zero_le _, rfl, HQ.out, HF.out⟩
      case round =>
        clear HQ HF
        obtain ⟨t, ht, rfl, hq, hf⟩ := hrel
        have HQ := Lib.hid hq
        have HF := Lib.hid hf
        clear hq hf
        have c0 := (HR.out.fr0 HF.out).n_c
        by_cases htn : t < n
        · have HT := Lib.hid htn
          have tn : (t : Int) < (n : Int) := by omega
          have t64 : (t : Int) < 64 := by omega
          have KT := Lib.hid (show k < 64 ∧ t < 64 by omega)
          clear ht htn
          go_upto_region 8 with fail
          clear c0
          have c1 : wr.drew.cell? ⟨b, 1 + k * 64 + t, none⟩ = some (.bool (r k t)) := (HR.out.fr0 HF.out).c_c KT.out.1 KT.out.2
          have c2 : wr.drew.cell? ⟨c, 1 + k * 64 + t, none⟩ = some (.bool (s k t)) := (HS.out.fr0 HF.out).c_c KT.out.1 KT.out.2
          have c1' : wr.cell? ⟨b, 1 + k * 64 + t, none⟩ = some (.bool (r k t)) := c1
          have c2' : wr.cell? ⟨c, 1 + k * 64 + t, none⟩ = some (.bool (s k t)) := c2
          have Q2 : RefAt wr.drew g n (celR (intR r s) k t) := HQ.out.fr0 (Fr.refl Nil wr).drew
          have F2 := HF.out.drew
          have c3 := Q2.c_c KT.out.1 KT.out.2
          have z3 := Q2.blk.frozen (1 + k * 64 + t)
          have Q3 := Lib.hid (Q2.set_ KT.out.1 KT.out.2 (intR r s k t))
          rw [celR_next] at Q3
          have F3 := Lib.hid (F2.setNew (g := g) (i := 1 + k * 64 + t) HG.out (.bool (intR r s k t)))
          have EQ : intR r s k t = (r k t && s k t) := rfl
          rw [EQ] at Q3 F3
          clear EQ Q2 F2 HQ HF
          generalize celR (intR r s) k t k t = old at *
          cases hrk : r k t
          · rw [hrk] at c1 c1' Q3 F3
            simp only [Bool.or_true, Bool.or_false, Bool.and_true, Bool.and_false, Bool.false_or, Bool.true_or, Bool.false_and, Bool.true_and, Bool.not_true, Bool.not_false] at Q3 F3
            clear hrk
            refine wp_region_still_tail 25 (by kernel_rfl) (by kernel_rfl) ?_
            simp only [List.take_succ_cons, List.take_zero, List.drop_succ_cons, List.drop_zero]
            refine SG.out ?_
            iterate 12 (refine SG.step (fun K hK => ?_); go_simp; refine hK _ ?_; clear hK K)
            iterate 8 (refine SG.skip (by kernel_rfl) (fun K hK => ?_); go_simp; refine hK _ ?_; clear hK K)
            iterate 5 (refine SG.step (fun K hK => ?_); go_simp; refine hK _ ?_; clear hK K)
            refine SG.nil ?_
            change wpList _ _ _ _ _ wr.drew
            clear c1 c2 c1' c2'
            generalize wr.drew = w4 at *
            go_wp2_with fail
            go_roundw
            case rel => exact ⟨t + 1, HT.out, by go_num, Q3.out, F3.out⟩
            case measure => have := HT.out; simp [intOf]; omega
          · cases hsk : s k t
            all_goals
              rw [hrk] at c1 c1' Q3 F3
              rw [hsk] at c2 c2' Q3 F3
              simp only [Bool.or_true, Bool.or_false, Bool.and_true, Bool.and_false, Bool.false_or, Bool.true_or, Bool.false_and, Bool.true_and, Bool.not_true, Bool.not_false] at Q3 F3
              clear hrk hsk
              refine wp_region_still_tail 25 (by kernel_rfl) (by kernel_rfl) ?_
              simp only [List.take_succ_cons, List.take_zero, List.drop_succ_cons, List.drop_zero]
              refine SG.out ?_
              iterate 25 (refine SG.step (fun K hK => ?_); go_simp; refine hK _ ?_; clear hK K)
              refine SG.nil ?_
              change wpList _ _ _ _ _ wr.drew
              clear c1 c2 c1' c2'
              generalize wr.drew = w4 at *
              go_wp2_with fail
              go_roundw
              case rel => exact ⟨t + 1, HT.out, by go_num, Q3.out, F3.out⟩
              case measure => have := HT.out; simp [intOf]; omega
        · obtain rfl : t = n := by omega
          have l1 : decide (t < t) = false := by simp
          rw [celR_row QK.out] at HQ
          clear ht htn
          go_wp2_with fail
          go_roundw
          case rel => exact ⟨k + 1, HK.out, by go_num, HQ.out, HF.out⟩
          case measure => have := HK.out; simp [intOf]; omega
    · obtain rfl : k = n := by omega
      have l1 : decide (k < k) = false := by simp
      rw [celR_all QK.out] at HQ
      clear hk hlt
      go_wp2_with fail
      go_ret
      exact ⟨g, rfl, HQ.out, HF.out, HG.out⟩
end Go.Proofs.YtpcpjmbfinpmlaaDoor
