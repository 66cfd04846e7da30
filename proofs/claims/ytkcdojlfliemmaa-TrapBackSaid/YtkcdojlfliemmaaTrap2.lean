/- Contracts of trap.Irq and trap.Back. -/
import Derived.Test.YtkcdojlfliemmaaTrap
namespace Go.Proofs.Ytkcdojlfliemmaa
open Go.RowKit
set_option linter.unusedVariables false
attribute [local go_sem] fold0 cv_31 cv_32 cv_33 cv_34 cv_35 cv_36 cv_37 cv_38 cv_39 cv_40 cv_41 cv_42 cv_43 cv_44 cv_45 cv_46 cv_47 cv_48

set_option maxHeartbeats 1000000 in
theorem irq_bad (c : Cr) (w : World) (h : rightF c = false) : Calls Try.prog 12 #[.agg (cv c)] w fun e w' => e = .returned (.tuple #[.agg (cv zeroC), .int .i64 1]) ∧ Fr Nil w w' := by
  have H := Lib.hid h
  clear h
  go_enter Try.func12, Try.ntmps12
  go_wp2_with (refine wpList_load_blk rfl 26 (.tmp 1) rfl w.heap.size rfl _ (Blk.alloc (Blk.new _ _ _) _) Try.underlying26 rfl info26 ?_)
  refine (right_ok _ _).mono ?_
  rintro e w2 ⟨rfl, hf⟩
  rw [H.out]
  have hr : Blk w2 (w.heap.size + 1) 26 (cv zeroC) := Blk.fr0 (Blk.new2 _ _ _ _) hf
  have F := (((Fr.refl Nil w).alloc (.cells (cv c) 26)).alloc (.cells (cv zeroC) 26)).trans hf
  clear hf
  go_wp2_with (refine wpList_store_blk0 rfl 26 (.tmp 2) (.tmp 7) rfl (w.heap.size + 1) rfl (cv zeroC) rfl hr info26 rfl (one_cv _) ?_; intro w3 hf3 hb3)
  refine bodyPost_ret (results_cell_tmp (p := 2) (q := 3) (ty := 26) rfl _ _ (w.heap.size + 1) (cv zeroC) _ rfl hb3 Try.underlying26 rfl info26) rfl ?_
  exact ⟨rfl, F.own1 hf3 (by omega)⟩
set_option maxHeartbeats 1000000 in
theorem irq_ok (c : Cr) (w : World) (h : rightF c = true) : Calls Try.prog 12 #[.agg (cv c)] w fun e w' => e = .returned (.tuple #[.agg (cv (in3 c)), .int .i64 0]) ∧ Fr Nil w w' := by
  have H := Lib.hid h
  clear h
  go_enter Try.func12, Try.ntmps12
  go_wp2_with (refine wpList_load_blk rfl 26 (.tmp 1) rfl w.heap.size rfl _ (Blk.alloc (Blk.new _ _ _) _) Try.underlying26 rfl info26 ?_)
  refine (right_ok _ _).mono ?_
  rintro e w2 ⟨rfl, hf⟩
  rw [H.out]
  have hb : Blk w2 w.heap.size 26 (cv c) := Blk.fr0 (Blk.alloc (Blk.new _ _ _) _) hf
  have hr : Blk w2 (w.heap.size + 1) 26 (cv zeroC) := Blk.fr0 (Blk.new2 _ _ _ _) hf
  have F := (((Fr.refl Nil w).alloc (.cells (cv c) 26)).alloc (.cells (cv zeroC) 26)).trans hf
  clear hf
  go_wp2_with (refine wpList_load_blk rfl 26 (.tmp 1) rfl w.heap.size rfl _ hb Try.underlying26 rfl info26 ?_)
  refine (in3_ok _ _ _ _).mono ?_
  rintro e w3 ⟨rfl, hf3⟩
  have hr3 := Blk.fr0 hr hf3
  have F3 := F.trans hf3
  clear hf3 hr hb F
  go_wp2_with (refine wpList_store_blk0 rfl 26 (.tmp 2) (.tmp 9) rfl (w.heap.size + 1) rfl (cv (in3 c)) rfl hr3 info26 rfl (one_cv _) ?_; intro w4 hf4 hb4)
  refine bodyPost_ret (results_cell_tmp (p := 2) (q := 3) (ty := 26) rfl _ _ (w.heap.size + 1) (cv (in3 c)) _ rfl hb4 Try.underlying26 rfl info26) rfl ?_
  exact ⟨rfl, F3.own1 hf4 (by omega)⟩
end Go.Proofs.Ytkcdojlfliemmaa
