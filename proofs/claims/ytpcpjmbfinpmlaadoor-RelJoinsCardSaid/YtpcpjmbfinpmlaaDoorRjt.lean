/- The document's Then. -/
import Derived.Test.YtpcpjmbfinpmlaaDoorSgl
import Derived.Test.YtpcpjmbfinpmlaaDoorThn
set_option linter.unusedSimpArgs false
set_option linter.unusedVariables false
set_option linter.unusedSectionVars false
namespace Go.Proofs.YtpcpjmbfinpmlaaDoor
open Go.RowKit
set_option maxRecDepth 100000

/-- The rows ahead of k, and of row k what lies behind things ahead of t, and behind t what lies ahead of u. -/
def tcR (r s : Rn) (k t u : Nat) : Rn := fun a c => (decide (a < k) && thenR r s a c) || (decide (a = k) && (acc (r k) s t c || (r k t && (decide (c < u) && s t c))))
theorem acc_zero (f : Nat → Bool) (s : Rn) (c : Nat) : acc f s 0 c = false := rfl
theorem tcR_zero (r s : Rn) : tcR r s 0 0 0 = noR := by funext a c; simp [tcR, noR, acc_zero]
theorem tcR_row {n : Nat} {r s : Rn} (hr : ∀ a c, r a c = true → a < n ∧ c < n) (h64 : n ≤ 64) (k : Nat) : tcR r s k n 0 = tcR r s (k + 1) 0 0 := by
  have e : acc (r k) s 64 = acc (r k) s n := acc_skip h64 fun i hi _ => by
    cases hq : r k i
    · rfl
    · have := (hr k i hq).2; omega
  funext a c
  unfold tcR
  by_cases h : a = k
  · subst h
    simp [acc_zero, thenR, e]
  · have : decide (a < k + 1) = decide (a < k) := by simp; omega
    rw [this]
    simp [h, acc_zero]
theorem tcR_skip {r s : Rn} {k t : Nat} (h : r k t = false) : tcR r s k t 0 = tcR r s k (t + 1) 0 := by
  have e : acc (r k) s (t + 1) = acc (r k) s t := acc_skip (Nat.le_succ t) fun i h1 h2 => by rw [show i = t by omega]; exact h
  funext a c
  unfold tcR
  rw [e]
  simp
theorem tcR_take {n : Nat} {r s : Rn} (hs : ∀ a c, s a c = true → a < n ∧ c < n) {k t : Nat} (h : r k t = true) : tcR r s k t n = tcR r s k (t + 1) 0 := by
  funext a c
  have e : acc (r k) s (t + 1) c = (acc (r k) s t c || s t c) := congrFun (acc_take h) c
  unfold tcR
  rw [e, h]
  cases hq : s t c
  · simp
  · have := (hs t c hq).2
    simp [this]
theorem tcR_next {r s : Rn} {k t : Nat} (h : r k t = true) (u : Nat) : upd (tcR r s k t u) k (upd (tcR r s k t u k) u (tcR r s k t u k u || s t u)) = tcR r s k t (u + 1) := by
  funext a c
  unfold upd
  by_cases e : a = k
  · subst e
    rw [if_pos rfl]
    by_cases e2 : c = u
    · subst e2; simp [tcR, h]
    · rw [if_neg e2]
      have : decide (c < u + 1) = decide (c < u) := by simp; omega
      unfold tcR
      rw [this]
  · rw [if_neg e]
    simp [tcR, e]
theorem tcR_all {n : Nat} {r s : Rn} (h : ∀ a c, thenR r s a c = true → a < n ∧ c < n) (hr : ∀ a c, r a c = true → a < n ∧ c < n) : tcR r s n 0 0 = thenR r s := by
  funext a c
  unfold tcR
  cases hq : thenR r s a c
  · simp [acc_zero]
  · have := (h a c hq).1
    simp [this]
set_option maxHeartbeats 2000000 in
theorem rthen_ok (b c n : Nat) (r s : Rn) (w : World) (h1 : RefAt w b n r) (h2 : RefAt w c n s) (hr : ∀ a c, r a c = true → a < n ∧ c < n) (hs : ∀ a c, s a c = true → a < n ∧ c < n) : Calls Tryd.prog 32 #[.pointer (some ⟨b, 0, none⟩), .pointer (some ⟨c, 0, none⟩)] w (RefTo w n (thenR r s)) := by
  have HR := Lib.hid h1
  have HS := Lib.hid h2
  have QR := Lib.hid hr
  have QS := Lib.hid hs
  have N64 := Lib.hid h1.n64
  have n64 : (n : Int) ≤ 64 := by have := h1.n64; omega
  have c0 := h1.n_c
  clear h1 h2 hr hs
  go_enter Tryd.func32, Tryd.ntmps32
  go_upto_region 2 with fail
  have F0 := Lib.hid ((Fr.refl Nil w).alloc (.cells (Tryd.zeroCells43.setIfInBounds 0 (.int .i64 (n : Int))) 43))
  have R0 := Lib.hid (show RefAt (w.alloc (.cells (Tryd.zeroCells43.setIfInBounds 0 (.int .i64 (n : Int))) 43)) w.heap.size n noR from ⟨by rw [rfc_zero]; exact Blk.new w 43 _, N64.out⟩)
  generalize (w.alloc (.cells (Tryd.zeroCells43.setIfInBounds 0 (.int .i64 (n : Int))) 43)) = w0 at *
  obtain ⟨g, hg⟩ : ∃ g, g = w.heap.size := ⟨_, rfl⟩
  rw [← hg] at R0 ⊢
  have HG := Lib.hid (Nat.le_of_eq hg.symm)
  clear hg c0
  go_wp2_with fail
  go_loopw [6] (fun i wr => ∃ k : Nat, k ≤ n ∧ i = .int .i64 (k : Int) ∧ RefAt wr g n (tcR r s k 0 0) ∧ Fr Nil w wr) (fun i _ => n - (intOf i).toNat)
  case atStart => exact ⟨0, Nat.zero_le _, rfl, by rw [tcR_zero]; exact R0.out, F0.out⟩
  case round =>
    clear R0 F0
    obtain ⟨k, hk, rfl, hq, hf⟩ := hrel
    have HQ := Lib.hid hq
    have HF := Lib.hid hf
    clear hq hf
    have c0 := (HR.out.fr0 HF.out).n_c
    by_cases hlt : k < n
    · have HK := Lib.hid hlt
      have kn : (k : Int) < (n : Int) := by omega
      have k64 : (k : Int) < 64 := by omega
      clear hk hlt
      go_upto_region 5 with fail
      clear c0
      go_wp2_with fail
      go_loopw [7] (fun i wr => ∃ t : Nat, t ≤ n ∧ i = .int .i64 (t : Int) ∧ RefAt wr g n (tcR r s k t 0) ∧ Fr Nil w wr) (fun i _ => n - (intOf i).toNat)
      case atStart => exact ⟨0, Nat.zero_le _, rfl, HQ.out, HF.out⟩
      case round =>
        clear HQ HF
        obtain ⟨t, ht, rfl, hq, hf⟩ := hrel
        have HQ := Lib.hid hq
        have HF := Lib.hid hf
        clear hq hf
        have c0 := (HR.out.fr0 HF.out).n_c
        by_cases htn : t < n
        · have HT := Lib.hid htn
          have tn : (t : Int) < (n : Int) := by omega
          have t64 : (t : Int) < 64 := by omega
          have KT := Lib.hid (show k < 64 ∧ t < 64 by omega)
          have c1 : wr.cell? ⟨b, 1 + k * 64 + t, none⟩ = some (.bool (r k t)) := (HR.out.fr0 HF.out).c_c KT.out.1 KT.out.2
          clear ht htn
          cases hrk : r k t
          · rw [hrk] at c1
            rw [tcR_skip hrk] at HQ
            clear hrk
            go_wp2_with fail
            go_roundw
            case rel => exact ⟨t + 1, HT.out, by go_num, HQ.out, HF.out⟩
            case measure => have := HT.out; simp [intOf]; omega
          · rw [hrk] at c1
            have RK := Lib.hid hrk
            clear hrk
            go_upto_region 9 with fail
            clear c1 c0
            go_wp2_with fail
            go_loopw [8] (fun i wr => ∃ u : Nat, u ≤ n ∧ i = .int .i64 (u : Int) ∧ RefAt wr g n (tcR r s k t u) ∧ Fr Nil w wr) (fun i _ => n - (intOf i).toNat)
            case atStart => exact ⟨0, Nat.zero_le _, rfl, HQ.out, HF.out⟩
            case round =>
              clear HQ HF
              obtain ⟨u, hu, rfl, hq, hf⟩ := hrel
              have HQ := Lib.hid hq
              have HF := Lib.hid hf
              clear hq hf
              have c0 := (HR.out.fr0 HF.out).n_c
              by_cases hun : u < n
              · have HU := Lib.hid hun
                have un : (u : Int) < (n : Int) := by omega
                have u64 : (u : Int) < 64 := by omega
                have KU := Lib.hid (show k < 64 ∧ t < 64 ∧ u < 64 from ⟨KT.out.1, KT.out.2, by omega⟩)
                clear hu hun
                go_upto_region 12 with fail
                clear c0
                have c2 : wr.drew.cell? ⟨c, 1 + t * 64 + u, none⟩ = some (.bool (s t u)) := (HS.out.fr0 HF.out).c_c KU.out.2.1 KU.out.2.2
                have c2' : wr.cell? ⟨c, 1 + t * 64 + u, none⟩ = some (.bool (s t u)) := c2
                have Q2 : RefAt wr.drew g n (tcR r s k t u) := HQ.out.fr0 (Fr.refl Nil wr).drew
                have F2 := HF.out.drew
                have c3 := Q2.c_c KU.out.1 KU.out.2.2
                have c3' : wr.cell? ⟨g, 1 + k * 64 + u, none⟩ = some (.bool (tcR r s k t u k u)) := c3
                have z3 := Q2.blk.frozen (1 + k * 64 + u)
                have Q3 := Lib.hid (Q2.set_ KU.out.1 KU.out.2.2 (tcR r s k t u k u || s t u))
                rw [tcR_next RK.out] at Q3
                have F3 := Lib.hid (F2.setNew (g := g) (i := 1 + k * 64 + u) HG.out (.bool (tcR r s k t u k u || s t u)))
                clear Q2 F2 HQ HF
                generalize tcR r s k t u k u = old at *
                cases old
                · cases hsk : s t u
                  all_goals
                    rw [hsk] at c2 c2' Q3 F3
                    simp only [Bool.or_true, Bool.or_false, Bool.and_true, Bool.and_false, Bool.false_or, Bool.true_or, Bool.false_and, Bool.true_and, Bool.not_true, Bool.not_false] at Q3 F3
                    clear hsk
                    refine wp_region_still_tail 25 (by kernel_rfl) (by kernel_rfl) ?_
                    simp only [List.take_succ_cons, List.take_zero, List.drop_succ_cons, List.drop_zero]
                    refine SG.out ?_
                    iterate 25 (refine SG.step (fun K hK => ?_); go_simp; refine hK _ ?_; clear hK K)
                    refine SG.nil ?_
                    change wpList _ _ _ _ _ wr.drew
                    clear c2 c2' c3'
                    generalize wr.drew = w4 at *
                    go_wp2_with fail
                    go_roundw
                    case rel => exact ⟨u + 1, HU.out, by go_num, Q3.out, F3.out⟩
                    case measure => have := HU.out; simp [intOf]; omega
                · simp only [Bool.or_true, Bool.or_false, Bool.and_true, Bool.and_false, Bool.false_or, Bool.true_or, Bool.false_and, Bool.true_and, Bool.not_true, Bool.not_false] at Q3 F3
                  refine wp_region_still_tail 25 (by kernel_rfl) (by kernel_rfl) ?_
                  simp only [List.take_succ_cons, List.take_zero, List.drop_succ_cons, List.drop_zero]
                  refine SG.out ?_
                  iterate 12 (refine SG.step (fun K hK => ?_); go_simp; refine hK _ ?_; clear hK K)
                  iterate 8 (refine SG.skip (by kernel_rfl) (fun K hK => ?_); go_simp; refine hK _ ?_; clear hK K)
                  iterate 5 (refine SG.step (fun K hK => ?_); go_simp; refine hK _ ?_; clear hK K)
                  refine SG.nil ?_
                  change wpList _ _ _ _ _ wr.drew
                  clear c2 c2' c3'
                  generalize wr.drew = w4 at *
                  go_wp2_with fail
                  go_roundw
                  case rel => exact ⟨u + 1, HU.out, by go_num, Q3.out, F3.out⟩
                  case measure => have := HU.out; simp [intOf]; omega
              · obtain rfl : u = n := by omega
                have l1 : decide (u < u) = false := by simp
                rw [tcR_take QS.out RK.out] at HQ
                clear hu hun
                go_wp2_with fail
                go_roundw
                case rel => exact ⟨t + 1, HT.out, by go_num, HQ.out, HF.out⟩
                case measure => have := HT.out; simp [intOf]; omega
        · obtain rfl : t = n := by omega
          have l1 : decide (t < t) = false := by simp
          rw [tcR_row QR.out N64.out] at HQ
          clear ht htn
          go_wp2_with fail
          go_roundw
          case rel => exact ⟨k + 1, HK.out, by go_num, HQ.out, HF.out⟩
          case measure => have := HK.out; simp [intOf]; omega
    · obtain rfl : k = n := by omega
      have l1 : decide (k < k) = false := by simp
      rw [tcR_all (thenR_ok QR.out QS.out) QR.out] at HQ
      clear hk hlt
      go_wp2_with fail
      go_ret
      exact ⟨g, rfl, HQ.out, HF.out, HG.out⟩
end Go.Proofs.YtpcpjmbfinpmlaaDoor
