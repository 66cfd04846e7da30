/- The document's Turned. -/
import Derived.Test.YtpcpjmbfinpmlaaDoorBti
import Derived.Test.YtpcpjmbfinpmlaaDoorTrn
import Derived.Test.YtpcpjmbfinpmlaaDoorRrf
set_option linter.unusedSimpArgs false
set_option linter.unusedVariables false
set_option linter.unusedSectionVars false
namespace Go.Proofs.YtpcpjmbfinpmlaaDoor
open Go.RowKit
set_option maxRecDepth 100000

/-- The rows ahead of k, and of row k what lies ahead of t. -/
def celR (q : Rn) (k t : Nat) : Rn := fun a c => (decide (a < k) || (decide (a = k) && decide (c < t))) && q a c
theorem celR_next (q : Rn) (k t : Nat) : upd (celR q k t) k (upd (celR q k t k) t (q k t)) = celR q k (t + 1) := by
  funext a c
  unfold upd celR
  by_cases e : a = k
  · subst e
    rw [if_pos rfl]
    by_cases e2 : c = t
    · subst e2; simp
    · rw [if_neg e2]
      have : decide (c < t + 1) = decide (c < t) := by simp; omega
      rw [this]
  · rw [if_neg e]
    simp [e]
theorem celR_zero (q : Rn) : celR q 0 0 = noR := by funext a c; simp [celR, noR]
theorem celR_row {n : Nat} {q : Rn} (h : ∀ a c, q a c = true → a < n ∧ c < n) (k : Nat) : celR q k n = celR q (k + 1) 0 := by
  funext a c
  unfold celR
  cases hq : q a c
  · simp
  · have := (h a c hq).2
    rw [Bool.eq_iff_iff]
    simp
    omega
theorem celR_all {n : Nat} {q : Rn} (h : ∀ a c, q a c = true → a < n ∧ c < n) : celR q n 0 = q := by
  funext a c
  unfold celR
  cases hq : q a c
  · simp
  · have := (h a c hq).1
    simp; omega
def RefTo (w : World) (n : Nat) (q : Rn) (e : Ending) (w' : World) : Prop := ∃ g, e = .returned (.pointer (some ⟨g, 0, none⟩)) ∧ RefAt w' g n q ∧ Fr Nil w w' ∧ w.heap.size ≤ g
theorem celT_next (q : Rn) (k t : Nat) : upd (trn (celR q k t)) t (upd (trn (celR q k t) t) k (q k t)) = trn (celR q k (t + 1)) := by
  funext a c
  unfold upd trn celR
  by_cases e : a = t
  · subst e
    rw [if_pos rfl]
    by_cases e2 : c = k
    · subst e2; simp
    · rw [if_neg e2]
      simp [e2]
  · rw [if_neg e]
    have : decide (a < t + 1) = decide (a < t) := by simp; omega
    rw [this]
set_option maxHeartbeats 2000000 in
theorem rturned_ok (b n : Nat) (r : Rn) (w : World) (h1 : RefAt w b n r) (hr : ∀ a c, r a c = true → a < n ∧ c < n) : Calls Tryd.prog 16 #[.pointer (some ⟨b, 0, none⟩)] w (RefTo w n (trn r)) := by
  have HR := Lib.hid h1
  have QK := Lib.hid hr
  have N64 := Lib.hid h1.n64
  have n64 : (n : Int) ≤ 64 := by have := h1.n64; omega
  have c0 := h1.n_c
  clear h1 hr
  go_enter Tryd.func16, Tryd.ntmps16
  go_upto_region 2 with fail
  have F0 := Lib.hid ((Fr.refl Nil w).alloc (.cells (Tryd.zeroCells43.setIfInBounds 0 (.int .i64 (n : Int))) 43))
  have R0 := Lib.hid (show RefAt (w.alloc (.cells (Tryd.zeroCells43.setIfInBounds 0 (.int .i64 (n : Int))) 43)) w.heap.size n noR from ⟨by rw [rfc_zero]; exact Blk.new w 43 _, N64.out⟩)
  generalize (w.alloc (.cells (Tryd.zeroCells43.setIfInBounds 0 (.int .i64 (n : Int))) 43)) = w0 at *
  obtain ⟨g, hg⟩ : ∃ g, g = w.heap.size := ⟨_, rfl⟩
  rw [← hg] at R0 ⊢
  have HG := Lib.hid (Nat.le_of_eq hg.symm)
  clear hg c0
  go_wp2_with fail
  go_loopw [4] (fun i wr => ∃ k : Nat, k ≤ n ∧ i = .int .i64 (k : Int) ∧ RefAt wr g n (trn (celR r k 0)) ∧ Fr Nil w wr) (fun i _ => n - (intOf i).toNat)
  case atStart => exact ⟨0, Nat.zero_le _, rfl, by rw [celR_zero]; exact R0.out, F0.out⟩
  case round =>
    clear R0 F0
    obtain ⟨k, hk, rfl, hq, hf⟩ := hrel
    have HQ := Lib.hid hq
    have HF := Lib.hid hf
    clear hq hf
    have c0 := (HR.out.fr0 HF.out).n_c
    by_cases hlt : k < n
    · have HK := Lib.hid hlt
      have kn : (k : Int) < (n : Int) := by omega
      have k64 : (k : Int) < 64 := by omega
      clear hk hlt
      go_upto_region 5 with fail
      clear c0
      go_wp2_with fail
      go_loopw [5] (fun i wr => ∃ t : Nat, t ≤ n ∧ i = .int .i64 (t : Int) ∧ RefAt wr g n (trn (celR r k t)) ∧ Fr Nil w wr) (fun i _ => n - (intOf i).toNat)
      case atStart => exact ⟨0, Nat.zero_le _, rfl, HQ.out, HF.out⟩
      case round =>
        clear HQ HF
        obtain ⟨t, ht, rfl, hq, hf⟩ := hrel
        have HQ := Lib.hid hq
        have HF := Lib.hid hf
        clear hq hf
        have c0 := (HR.out.fr0 HF.out).n_c
        by_cases htn : t < n
        · have HT := Lib.hid htn
          have tn : (t : Int) < (n : Int) := by omega
          have t64 : (t : Int) < 64 := by omega
          have KT := Lib.hid (show k < 64 ∧ t < 64 by omega)
          clear ht htn
          go_upto_region 8 with fail
          clear c0
          have c1 : wr.drew.cell? ⟨b, 1 + k * 64 + t, none⟩ = some (.bool (r k t)) := (HR.out.fr0 HF.out).c_c KT.out.1 KT.out.2
          have c1' : wr.cell? ⟨b, 1 + k * 64 + t, none⟩ = some (.bool (r k t)) := c1
          have Q2 : RefAt wr.drew g n (trn (celR r k t)) := HQ.out.fr0 (Fr.refl Nil wr).drew
          have F2 := HF.out.drew
          have c3 := Q2.c_c KT.out.2 KT.out.1
          have z3 := Q2.blk.frozen (1 + t * 64 + k)
          have Q3 := Lib.hid (Q2.set_ KT.out.2 KT.out.1 (r k t))
          rw [celT_next] at Q3
          have F3 := Lib.hid (F2.setNew (g := g) (i := 1 + t * 64 + k) HG.out (.bool (r k t)))
          clear Q2 F2 HQ HF
          generalize trn (celR r k t) t k = old at *
          generalize r k t = val at *
          go_still_tail 15, (by kernel_rfl)
          change wpList _ _ _ _ _ wr.drew
          clear c1 c1'
          generalize wr.drew = w4 at *
          go_wp2_with fail
          go_roundw
          case rel => exact ⟨t + 1, HT.out, by go_num, Q3.out, F3.out⟩
          case measure => have := HT.out; simp [intOf]; omega
        · obtain rfl : t = n := by omega
          have l1 : decide (t < t) = false := by simp
          rw [celR_row QK.out] at HQ
          clear ht htn
          go_wp2_with fail
          go_roundw
          case rel => exact ⟨k + 1, HK.out, by go_num, HQ.out, HF.out⟩
          case measure => have := HK.out; simp [intOf]; omega
    · obtain rfl : k = n := by omega
      have l1 : decide (k < k) = false := by simp
      rw [celR_all QK.out] at HQ
      clear hk hlt
      go_wp2_with fail
      go_ret
      exact ⟨g, rfl, HQ.out, HF.out, HG.out⟩
end Go.Proofs.YtpcpjmbfinpmlaaDoor

