/- The document's Closed. -/
import Derived.Test.YtpcpjmbfinpmlaaDoorSgl
set_option linter.unusedSimpArgs false
set_option linter.unusedVariables false
set_option linter.unusedSectionVars false
namespace Go.Proofs.YtpcpjmbfinpmlaaDoor
open Go.RowKit
set_option maxRecDepth 100000

section
variable {P : Program} {ops : Array Oper} {w : World} {Q : Act → Prop} {a : Act} {o : Oper} {rest : List Oper}
theorem SG.load (hgd : o.guard = none) (ty : TypeId) (x : Operand) (ho : o.op = .load ty x) (p : Addr) (hx : a.eval x = .pointer (some p)) (v : Value) (hr : (loadVar ty p).run P w = .ok v w)
    (h : ∀ K : Act → Prop, (∀ a, SG P ops w Q rest a → K a) → K (a.put o.dst v)) : SG P ops w Q (o :: rest) a := by
  refine SG.step (fun K hK => ?_)
  have hw : Region.wanted o (yielded ops a.tmps) = true := by unfold Region.wanted; rw [hgd]
  rw [if_pos hw]
  unfold Oper.still execOp
  simp only [ho, hx, Instr.loadAt, Instr.sureAddr, Sem.run_bind, Sem.run_pure, Result.andThen_ok, hr]
  exact ⟨rfl, h K hK⟩
end
theorem rfc_rows (n : Nat) (r : Rn) : (rfc n r).toArray.extract 1 (1 + 4096) = (rbs r).toArray := by
  apply Array.ext'
  rw [Array.toList_extract]
  simp only [rfc, List.extract_eq_take_drop]
  rw [List.drop_succ_cons, List.drop_zero, show 1 + 4096 - 1 = (rbs r).length by simp [rbs], List.take_length]
theorem rfc_size (n : Nat) (r : Rn) : (rfc n r).toArray.size = 4097 := by simp [rfc, rbs]
theorem Tryd.info41 : (Tryd.prog.info? 41).map (·.size) = some 4096 := by kernel_rfl
theorem fold_set (l : List Value) : ∀ (i : Nat) (pre suf : List Value), suf.length = l.length → pre.length = 1 + i → (l.zipIdx i).foldl (fun (cs : Array Value) (x : Value × Nat) => cs.setIfInBounds (1 + x.2) x.1) (pre ++ suf).toArray = (pre ++ l).toArray := by
  induction l with
  | nil =>
    intro i pre suf h _
    have : suf = [] := List.eq_nil_of_length_eq_zero h
    rw [this]
    rfl
  | cons v l ih =>
    intro i pre suf h hp
    match suf, h with
    | s :: suf, h =>
      rw [List.zipIdx_cons, List.foldl_cons]
      have e : (pre ++ s :: suf).toArray.setIfInBounds (1 + i) v = ((pre ++ [v]) ++ suf).toArray := by
        rw [List.setIfInBounds_toArray, ← hp, List.set_append_right _ _ (Nat.le_refl _), Nat.sub_self, List.set_cons_zero]
        simp
      show (l.zipIdx (i + 1)).foldl _ ((pre ++ s :: suf).toArray.setIfInBounds (1 + i) v) = _
      rw [e, ih (i + 1) (pre ++ [v]) suf (by simpa using h) (by simp; omega)]
      simp
theorem fold_rbs (n : Nat) (r : Rn) : Array.foldl (fun (cs : Array Value) (x : Value × Nat) => cs.setIfInBounds (1 + x.2) x.1) (Tryd.zeroCells43.setIfInBounds 0 (.int .i64 (n : Int))) (rbs r).toArray.zipIdx 0 4096 = (rfc n r).toArray := by
  have hz : (rbs r).toArray.zipIdx.size = 4096 := by simp [rbs]
  have h1 := fold_set (rbs r) 0 [.int .i64 (n : Int)] (rbs noR) (by simp [rbs]) rfl
  rw [rfc_zero, ← hz, ← Array.foldl_toList, Array.toList_zipIdx]
  exact h1
def c3R (q : Rn) (k a j : Nat) : Rn := fun i c => q i c || (decide (i = a) && (decide (c < j) && (q a k && q k c)))
theorem c3R_zero (q : Rn) (k a : Nat) : c3R q k a 0 = q := by funext i c; simp [c3R]
theorem c3R_next (q : Rn) (k a j : Nat) : upd (c3R q k a j) a (upd (c3R q k a j a) j (c3R q k a j a j || (c3R q k a j a k && c3R q k a j k j))) = c3R q k a (j + 1) := by
  have e1 : c3R q k a j a k = q a k := by unfold c3R; cases q a k <;> simp
  have e2 : c3R q k a j k j = q k j := by unfold c3R; simp
  have e3 : c3R q k a j a j = q a j := by unfold c3R; simp
  rw [e1, e2, e3]
  funext i c
  unfold upd
  by_cases e : i = a
  · subst e
    rw [if_pos rfl]
    by_cases e2 : c = j
    · subst e2; simp [c3R]
    · rw [if_neg e2]
      have : decide (c < j + 1) = decide (c < j) := by simp; omega
      unfold c3R
      rw [this]
  · rw [if_neg e]
    simp [c3R, e]
theorem c3R_row {n : Nat} {r : Rn} (h : ∀ a c, r a c = true → a < n ∧ c < n) (k a : Nat) : c3R (clA r k a) k a n = clA r k (a + 1) := by
  funext i c
  have e1 : clA r k a a k = r a k := by rw [clA_eq]; simp
  have e2 : clA r k a k c = r k c := by rw [clA_eq]; cases r k c <;> simp
  unfold c3R
  rw [e1, e2, clA_eq, clA_eq]
  by_cases e : i = a
  · subst e
    cases hq : r k c
    · simp
    · have := (h k c hq).2
      simp [this]
  · have : decide (i < a + 1) = decide (i < a) := by simp; omega
    rw [this]
    simp [e]
set_option maxHeartbeats 4000000 in
theorem rclosed_ok (b n : Nat) (r : Rn) (w : World) (h1 : RefAt w b n r) (hr : ∀ a c, r a c = true → a < n ∧ c < n) : Calls Tryd.prog 17 #[.pointer (some ⟨b, 0, none⟩)] w (RefTo w n (clo n r)) := by
  have HR := Lib.hid h1
  have QR := Lib.hid hr
  have N64 := Lib.hid h1.n64
  have n64 : (n : Int) ≤ 64 := by have := h1.n64; omega
  have c0 := h1.n_c
  have c0' : w.drew.cell? ⟨b, 0, none⟩ = some (.int .i64 (n : Int)) := c0
  have LD := Lib.hid (show (loadVar 41 ⟨b, 1, none⟩).run Tryd.prog w.drew = .ok (.agg (rbs r).toArray) w.drew by
    rw [← rfc_rows n r]
    exact run_loadVar_part 1 4096 41 _ (show Blk w.drew b 43 (rfc n r).toArray from h1.blk.fr0 (Fr.refl Nil w).drew) Tryd.underlying41 rfl Tryd.info41 (by rw [rfc_size]; decide))
  clear h1 hr
  go_enter Tryd.func17, Tryd.ntmps17
  go_upto_region 1 with fail
  refine wp_region_still_tail 8 (by kernel_rfl) (by kernel_rfl) ?_
  simp only [List.take_succ_cons, List.take_zero, List.drop_succ_cons, List.drop_zero]
  refine SG.out ?_
  iterate 7 (refine SG.step (fun K hK => ?_); go_simp; refine hK _ ?_; clear hK K)
  refine SG.load rfl 41 (.tmp 13) rfl ⟨b, 1, none⟩ rfl _ LD.out (fun K hK => ?_)
  go_simp; refine hK _ ?_; clear hK K
  refine SG.nil ?_
  change wpList _ _ _ _ _ w.drew
  clear c0 c0' LD
  have RS : (rbs r).toArray.size = 4096 := by simp [rbs]
  have FO := Lib.hid (fold_rbs n r)
  generalize (rbs r).toArray = RB at *
  have F4 := Lib.hid (Fr.refl Nil w).drew
  have S4 := Lib.hid (show w.drew.heap.size = w.heap.size from rfl)
  generalize w.drew = w4 at *
  go_upto_region 2 with fail
  rw [FO.out]
  have F0 := Lib.hid (F4.out.alloc (.cells (rfc n r).toArray 43))
  have R0 := Lib.hid (show RefAt (w4.alloc (.cells (rfc n r).toArray 43)) w4.heap.size n r from ⟨Blk.new w4 43 _, N64.out⟩)
  clear FO RS
  generalize (w4.alloc (.cells (rfc n r).toArray 43)) = w0 at *
  obtain ⟨g, hg⟩ : ∃ g, g = w4.heap.size := ⟨_, rfl⟩
  rw [← hg] at R0 ⊢
  have HG := Lib.hid (show w.heap.size ≤ g by have := S4.out; omega)
  clear hg S4 F4
  go_wp2_with fail
  go_loopw [4] (fun i wr => ∃ k : Nat, k ≤ n ∧ i = .int .i64 (k : Int) ∧ RefAt wr g n (clK n r k) ∧ Fr Nil w wr) (fun i _ => n - (intOf i).toNat)
  case atStart => exact ⟨0, Nat.zero_le _, rfl, R0.out, F0.out⟩
  case round =>
    clear R0 F0
    obtain ⟨k, hk, rfl, hq, hf⟩ := hrel
    have HQ := Lib.hid hq
    have HF := Lib.hid hf
    clear hq hf
    have c0 := (HR.out.fr0 HF.out).n_c
    by_cases hlt : k < n
    · have HK := Lib.hid hlt
      have kn : (k : Int) < (n : Int) := by omega
      have k64 : (k : Int) < 64 := by omega
      have QC := Lib.hid (clK_ok QR.out k)
      have CK := Lib.hid (show clA (clK n r k) k n = clK n r (k + 1) from rfl)
      generalize clK n r k = q at *
      clear hk hlt
      go_upto_region 5 with fail
      clear c0
      go_wp2_with fail
      go_loopw [5] (fun i wr => ∃ a : Nat, a ≤ n ∧ i = .int .i64 (a : Int) ∧ RefAt wr g n (clA q k a) ∧ Fr Nil w wr) (fun i _ => n - (intOf i).toNat)
      case atStart => exact ⟨0, Nat.zero_le _, rfl, HQ.out, HF.out⟩
      case round =>
        clear HQ HF
        obtain ⟨a, ha, rfl, hq, hf⟩ := hrel
        have HQ := Lib.hid hq
        have HF := Lib.hid hf
        clear hq hf
        have c0 := (HR.out.fr0 HF.out).n_c
        by_cases han : a < n
        · have HA := Lib.hid han
          have an : (a : Int) < (n : Int) := by omega
          have a64 : (a : Int) < 64 := by omega
          have RW := Lib.hid (c3R_row QC.out k a)
          generalize clA q k a = q2 at *
          clear ha han
          go_upto_region 8 with fail
          clear c0
          go_wp2_with fail
          go_loopw [6] (fun i wr => ∃ j : Nat, j ≤ n ∧ i = .int .i64 (j : Int) ∧ RefAt wr g n (c3R q2 k a j) ∧ Fr Nil w wr) (fun i _ => n - (intOf i).toNat)
          case atStart => exact ⟨0, Nat.zero_le _, rfl, by rw [c3R_zero]; exact HQ.out, HF.out⟩
          case round =>
            clear HQ HF
            obtain ⟨j, hj, rfl, hq, hf⟩ := hrel
            have HQ := Lib.hid hq
            have HF := Lib.hid hf
            clear hq hf
            have c0 := (HR.out.fr0 HF.out).n_c
            by_cases hjn : j < n
            · have HJ := Lib.hid hjn
              have jn : (j : Int) < (n : Int) := by omega
              have j64 : (j : Int) < 64 := by omega
              have KT := Lib.hid (show k < 64 ∧ a < 64 ∧ j < 64 by omega)
              clear hj hjn
              go_upto_region 11 with fail
              clear c0
              have Q2 : RefAt wr.drew g n (c3R q2 k a j) := HQ.out.fr0 (Fr.refl Nil wr).drew
              have F2 := HF.out.drew
              have c1 := Q2.c_c KT.out.2.1 KT.out.2.2
              have c1' : wr.cell? ⟨g, 1 + a * 64 + j, none⟩ = some (.bool (c3R q2 k a j a j)) := c1
              have c2 := Q2.c_c KT.out.2.1 KT.out.1
              have c2' : wr.cell? ⟨g, 1 + a * 64 + k, none⟩ = some (.bool (c3R q2 k a j a k)) := c2
              have c4 := Q2.c_c KT.out.1 KT.out.2.2
              have c4' : wr.cell? ⟨g, 1 + k * 64 + j, none⟩ = some (.bool (c3R q2 k a j k j)) := c4
              have z3 := Q2.blk.frozen (1 + a * 64 + j)
              have Q3 := Lib.hid (Q2.set_ KT.out.2.1 KT.out.2.2 (c3R q2 k a j a j || (c3R q2 k a j a k && c3R q2 k a j k j)))
              rw [c3R_next] at Q3
              have F3 := Lib.hid (F2.setNew (g := g) (i := 1 + a * 64 + j) HG.out (.bool (c3R q2 k a j a j || (c3R q2 k a j a k && c3R q2 k a j k j))))
              clear Q2 F2 HQ HF
              generalize c3R q2 k a j a j = x at *
              generalize c3R q2 k a j a k = y at *
              generalize c3R q2 k a j k j = z at *
              cases x
              · cases y
                · simp only [Bool.or_true, Bool.or_false, Bool.and_true, Bool.and_false, Bool.false_or, Bool.true_or, Bool.false_and, Bool.true_and, Bool.not_true, Bool.not_false] at Q3 F3
                  refine wp_region_still_tail 35 (by kernel_rfl) (by kernel_rfl) ?_
                  simp only [List.take_succ_cons, List.take_zero, List.drop_succ_cons, List.drop_zero]
                  refine SG.out ?_
                  iterate 21 (refine SG.step (fun K hK => ?_); go_simp; refine hK _ ?_; clear hK K)
                  iterate 8 (refine SG.skip (by kernel_rfl) (fun K hK => ?_); go_simp; refine hK _ ?_; clear hK K)
                  iterate 6 (refine SG.step (fun K hK => ?_); go_simp; refine hK _ ?_; clear hK K)
                  refine SG.nil ?_
                  change wpList _ _ _ _ _ wr.drew
                  clear c1' c2 c2' c4 c4'
                  generalize wr.drew = w4 at *
                  go_wp2_with fail
                  go_roundw
                  case rel => exact ⟨j + 1, HJ.out, by go_num, Q3.out, F3.out⟩
                  case measure => have := HJ.out; simp [intOf]; omega
                · cases z
                  all_goals
                    simp only [Bool.or_true, Bool.or_false, Bool.and_true, Bool.and_false, Bool.false_or, Bool.true_or, Bool.false_and, Bool.true_and, Bool.not_true, Bool.not_false] at Q3 F3
                    refine wp_region_still_tail 35 (by kernel_rfl) (by kernel_rfl) ?_
                    simp only [List.take_succ_cons, List.take_zero, List.drop_succ_cons, List.drop_zero]
                    refine SG.out ?_
                    iterate 35 (refine SG.step (fun K hK => ?_); go_simp; refine hK _ ?_; clear hK K)
                    refine SG.nil ?_
                    change wpList _ _ _ _ _ wr.drew
                    clear c1' c2 c2' c4 c4'
                    generalize wr.drew = w4 at *
                    go_wp2_with fail
                    go_roundw
                    case rel => exact ⟨j + 1, HJ.out, by go_num, Q3.out, F3.out⟩
                    case measure => have := HJ.out; simp [intOf]; omega
              · simp only [Bool.or_true, Bool.or_false, Bool.and_true, Bool.and_false, Bool.false_or, Bool.true_or, Bool.false_and, Bool.true_and, Bool.not_true, Bool.not_false] at Q3 F3
                refine wp_region_still_tail 35 (by kernel_rfl) (by kernel_rfl) ?_
                simp only [List.take_succ_cons, List.take_zero, List.drop_succ_cons, List.drop_zero]
                refine SG.out ?_
                iterate 12 (refine SG.step (fun K hK => ?_); go_simp; refine hK _ ?_; clear hK K)
                iterate 18 (refine SG.skip (by kernel_rfl) (fun K hK => ?_); go_simp; refine hK _ ?_; clear hK K)
                iterate 5 (refine SG.step (fun K hK => ?_); go_simp; refine hK _ ?_; clear hK K)
                refine SG.nil ?_
                change wpList _ _ _ _ _ wr.drew
                clear c1' c2 c2' c4 c4'
                generalize wr.drew = w4 at *
                go_wp2_with fail
                go_roundw
                case rel => exact ⟨j + 1, HJ.out, by go_num, Q3.out, F3.out⟩
                case measure => have := HJ.out; simp [intOf]; omega
            · obtain rfl : j = n := by omega
              have l1 : decide (j < j) = false := by simp
              rw [RW.out] at HQ
              clear hj hjn
              go_wp2_with fail
              go_roundw
              case rel => exact ⟨a + 1, HA.out, by go_num, HQ.out, HF.out⟩
              case measure => have := HA.out; simp [intOf]; omega
        · obtain rfl : a = n := by omega
          have l1 : decide (a < a) = false := by simp
          rw [CK.out] at HQ
          clear ha han
          go_wp2_with fail
          go_roundw
          case rel => exact ⟨k + 1, HK.out, by go_num, HQ.out, HF.out⟩
          case measure => have := HK.out; simp [intOf]; omega
    · obtain rfl : k = n := by omega
      have l1 : decide (k < k) = false := by simp
      clear hk hlt
      go_wp2_with fail
      go_ret
      exact ⟨g, rfl, HQ.out, HF.out, HG.out⟩
end Go.Proofs.YtpcpjmbfinpmlaaDoor
