/- Contracts of SP, SetSP and of the reference's Right, X, SetX. -/
import Derived.Test.YtiaflkabnaofpaaRSet
namespace Go.Proofs.Ytiaflkabnaofpaa
open Go.RowKit
set_option linter.unusedVariables false
attribute [local go_sem] fold0

theorem blk_setS0 {w : World} {g : Nat} {c : Cr} (h : Blk w g 26 (cv c)) (v : Int) : Blk (w.setCell ⟨g, 31, none⟩ (.int .u64 v)) g 26 (cv { c with S0 := v }) := (Blk.set_ h 31 _).cast (cv_setS0 c v)
theorem blk_setS1 {w : World} {g : Nat} {c : Cr} (h : Blk w g 26 (cv c)) (v : Int) : Blk (w.setCell ⟨g, 32, none⟩ (.int .u64 v)) g 26 (cv { c with S1 := v }) := (Blk.set_ h 32 _).cast (cv_setS1 c v)
theorem right_lit (c : Cr) : rightF c = ((c.EL == 0 || c.EL == 1) && decide (0 ≤ c.Wait) && decide (c.Wait ≤ 2) && decide (0 ≤ c.Id) && decide (c.Id ≤ 7)) := by
  have : decide (c.Id < 8) = decide (c.Id ≤ 7) := by
    by_cases h : c.Id < 8
    · simp [h, show c.Id ≤ 7 by omega]
    · simp [h, show ¬ c.Id ≤ 7 by omega]
  unfold rightF levelF
  rw [this]
set_option maxHeartbeats 1000000 in
theorem rright_ok (c : Cr) (w : World) : Calls Try.prog 22 #[.agg (cv c)] w fun e w' => e = .returned (.bool (rightF c)) ∧ Fr Nil w w' := by
  have hR := right_lit c
  have HR := Lib.hid hR
  clear hR
  have hb : Blk (w.alloc (.cells (cv c) 26)) w.heap.size 26 (cv c) := Blk.new _ _ _
  have F := (Fr.refl Nil w).alloc (.cells (cv c) 26)
  have d0 : (w.alloc (.cells (cv c) 26)).cell? ⟨w.heap.size, 38, none⟩ = some (.int .i64 c.EL) := hb.cellv (cv_38 c)
  have d1 : (w.alloc (.cells (cv c) 26)).cell? ⟨w.heap.size, 46, none⟩ = some (.int .i64 c.Id) := hb.cellv (cv_46 c)
  have d2 : (w.alloc (.cells (cv c) 26)).cell? ⟨w.heap.size, 47, none⟩ = some (.int .i64 c.Wait) := hb.cellv (cv_47 c)
  clear hb
  go_enter Try.func22, Try.ntmps22
  go_wp2
  all_goals go_ret
  all_goals refine ⟨?_, F⟩
  all_goals rw [HR.out]
  all_goals (simp [*] <;> (intros; omega))
theorem sp_bad (c : Cr) (w : World) (h : levelF c = false) : Calls Try.prog 20 #[.agg (cv c)] w fun e w' => e = .returned (.tuple #[.int .u64 0, .int .i64 1]) ∧ Fr Nil w w' := by
  have H := Lib.hid h
  clear h
  go_enter Try.func20, Try.ntmps20
  go_wp2_with (refine wpList_load_blk rfl 26 (.tmp 1) rfl w.heap.size rfl _ (Blk.new _ _ _) Try.underlying26 rfl info26 ?_)
  refine (level_ok _ _).mono ?_
  rintro e w2 ⟨rfl, hf⟩
  rw [H.out]
  have F := ((Fr.refl Nil w).alloc (.cells (cv c) 26)).trans hf
  clear hf
  go_wp2
  go_ret2
  exact ⟨rfl, F⟩
theorem sp_0 (c : Cr) (w : World) (h : c.EL = 0) : Calls Try.prog 20 #[.agg (cv c)] w fun e w' => e = .returned (.tuple #[.int .u64 c.S0, .int .i64 0]) ∧ Fr Nil w w' := by
  have hl : levelF c = true := by simp [levelF, h]
  have H := Lib.hid hl
  have HE := Lib.hid h
  clear h hl
  go_enter Try.func20, Try.ntmps20
  go_wp2_with (refine wpList_load_blk rfl 26 (.tmp 1) rfl w.heap.size rfl _ (Blk.new _ _ _) Try.underlying26 rfl info26 ?_)
  refine (level_ok _ _).mono ?_
  rintro e w2 ⟨rfl, hf⟩
  rw [H.out]
  have hb : Blk w2 w.heap.size 26 (cv c) := Blk.fr0 (Blk.new _ _ _) hf
  have d38 : w2.cell? ⟨w.heap.size, 38, none⟩ = some (.int .i64 0) := by rw [← HE.out]; exact hb.cellv (cv_38 c)
  have d : w2.cell? ⟨w.heap.size, 31, none⟩ = some (.int .u64 c.S0) := hb.cellv (cv_31 c)
  have F := ((Fr.refl Nil w).alloc (.cells (cv c) 26)).trans hf
  clear hf hb
  go_wp2
  go_ret2
  exact ⟨rfl, F⟩
theorem sp_1 (c : Cr) (w : World) (h : c.EL = 1) : Calls Try.prog 20 #[.agg (cv c)] w fun e w' => e = .returned (.tuple #[.int .u64 c.S1, .int .i64 0]) ∧ Fr Nil w w' := by
  have hl : levelF c = true := by simp [levelF, h]
  have H := Lib.hid hl
  have HE := Lib.hid h
  clear h hl
  go_enter Try.func20, Try.ntmps20
  go_wp2_with (refine wpList_load_blk rfl 26 (.tmp 1) rfl w.heap.size rfl _ (Blk.new _ _ _) Try.underlying26 rfl info26 ?_)
  refine (level_ok _ _).mono ?_
  rintro e w2 ⟨rfl, hf⟩
  rw [H.out]
  have hb : Blk w2 w.heap.size 26 (cv c) := Blk.fr0 (Blk.new _ _ _) hf
  have d38 : w2.cell? ⟨w.heap.size, 38, none⟩ = some (.int .i64 1) := by rw [← HE.out]; exact hb.cellv (cv_38 c)
  have d : w2.cell? ⟨w.heap.size, 32, none⟩ = some (.int .u64 c.S1) := hb.cellv (cv_32 c)
  have F := ((Fr.refl Nil w).alloc (.cells (cv c) 26)).trans hf
  clear hf hb
  go_wp2
  go_ret2
  exact ⟨rfl, F⟩
set_option maxHeartbeats 1000000 in
theorem setsp_bad (c : Cr) (v : Int) (w : World) (h : levelF c = false) : Calls Try.prog 21 #[.agg (cv c), .int .u64 v] w fun e w' => e = .returned (.tuple #[.agg (cv zeroC), .int .i64 1]) ∧ Fr Nil w w' := by
  have H := Lib.hid h
  clear h
  go_enter Try.func21, Try.ntmps21
  go_wp2_with (refine wpList_load_blk rfl 26 (.tmp 2) rfl w.heap.size rfl _ (Blk.alloc (Blk.new _ _ _) _) Try.underlying26 rfl info26 ?_)
  refine (level_ok _ _).mono ?_
  rintro e w2 ⟨rfl, hf⟩
  rw [H.out]
  have hr : Blk w2 (w.heap.size + 1) 26 (cv zeroC) := Blk.fr0 (Blk.new2 _ _ _ _) hf
  have F := (((Fr.refl Nil w).alloc (.cells (cv c) 26)).alloc (.cells (cv zeroC) 26)).trans hf
  clear hf
  go_wp2_with (refine wpList_store_blk0 rfl 26 (.tmp 4) (.tmp 9) rfl (w.heap.size + 1) rfl (cv zeroC) rfl hr info26 rfl (one_cv _) ?_; intro w4 hf4 hb4)
  refine bodyPost_ret (results_cell_tmp (p := 4) (q := 5) (ty := 26) rfl _ _ (w.heap.size + 1) (cv zeroC) _ rfl hb4 Try.underlying26 rfl info26) rfl ?_
  exact ⟨rfl, F.own1 hf4 (by omega)⟩
set_option maxHeartbeats 1000000 in
theorem setsp_0 (c : Cr) (v : Int) (w : World) (h : c.EL = 0) : Calls Try.prog 21 #[.agg (cv c), .int .u64 v] w fun e w' => e = .returned (.tuple #[.agg (cv { c with S0 := v }), .int .i64 0]) ∧ Fr Nil w w' := by
  have hl : levelF c = true := by simp [levelF, h]
  have H := Lib.hid hl
  have HE := Lib.hid h
  clear h hl
  go_enter Try.func21, Try.ntmps21
  go_wp2_with (refine wpList_load_blk rfl 26 (.tmp 2) rfl w.heap.size rfl _ (Blk.alloc (Blk.new _ _ _) _) Try.underlying26 rfl info26 ?_)
  refine (level_ok _ _).mono ?_
  rintro e w2 ⟨rfl, hf⟩
  rw [H.out]
  have hb : Blk w2 w.heap.size 26 (cv c) := Blk.fr0 (Blk.alloc (Blk.new _ _ _) _) hf
  have hr : Blk w2 (w.heap.size + 1) 26 (cv zeroC) := Blk.fr0 (Blk.new2 _ _ _ _) hf
  have F := (((Fr.refl Nil w).alloc (.cells (cv c) 26)).alloc (.cells (cv zeroC) 26)).trans hf
  have d38 : w2.cell? ⟨w.heap.size, 38, none⟩ = some (.int .i64 0) := by rw [← HE.out]; exact hb.cellv (cv_38 c)
  have d : w2.cell? ⟨w.heap.size, 31, none⟩ = some (.int .u64 c.S0) := hb.cellv (cv_31 c)
  have f : w2.frozen? ⟨w.heap.size, 31, none⟩ = false := hb.frozen _
  have hne : w.heap.size + 1 ≠ w.heap.size := by omega
  clear hf
  have H1 := blk_setS0 hb v
  have H2 := Blk.farc (b := w.heap.size) (i := 31) hr hne (.int .u64 v)
  have H3 := Fr.setNew (g := w.heap.size) (i := 31) F (Nat.le_refl _) (.int .u64 v)
  go_upto_region 4 with fail
  generalize w2.setCell ⟨w.heap.size, 31, none⟩ (.int .u64 v) = w3 at *
  clear d38 d f
  go_wp2_with (first
    | (refine wpList_load_blk rfl 26 (.tmp 2) rfl w.heap.size rfl _ H1 Try.underlying26 rfl info26 ?_)
    | (refine wpList_store_blk0 rfl 26 (.tmp 4) (.tmp 15) rfl (w.heap.size + 1) rfl (cv { c with S0 := v }) rfl H2 info26 rfl (one_cv _) ?_; intro w4 hf4 hb4))
  refine bodyPost_ret (results_cell_tmp (p := 4) (q := 5) (ty := 26) rfl _ _ (w.heap.size + 1) (cv { c with S0 := v }) _ rfl hb4 Try.underlying26 rfl info26) rfl ?_
  exact ⟨rfl, H3.own1 hf4 (by omega)⟩
set_option maxHeartbeats 1000000 in
theorem setsp_1 (c : Cr) (v : Int) (w : World) (h : c.EL = 1) : Calls Try.prog 21 #[.agg (cv c), .int .u64 v] w fun e w' => e = .returned (.tuple #[.agg (cv { c with S1 := v }), .int .i64 0]) ∧ Fr Nil w w' := by
  have hl : levelF c = true := by simp [levelF, h]
  have H := Lib.hid hl
  have HE := Lib.hid h
  clear h hl
  go_enter Try.func21, Try.ntmps21
  go_wp2_with (refine wpList_load_blk rfl 26 (.tmp 2) rfl w.heap.size rfl _ (Blk.alloc (Blk.new _ _ _) _) Try.underlying26 rfl info26 ?_)
  refine (level_ok _ _).mono ?_
  rintro e w2 ⟨rfl, hf⟩
  rw [H.out]
  have hb : Blk w2 w.heap.size 26 (cv c) := Blk.fr0 (Blk.alloc (Blk.new _ _ _) _) hf
  have hr : Blk w2 (w.heap.size + 1) 26 (cv zeroC) := Blk.fr0 (Blk.new2 _ _ _ _) hf
  have F := (((Fr.refl Nil w).alloc (.cells (cv c) 26)).alloc (.cells (cv zeroC) 26)).trans hf
  have d38 : w2.cell? ⟨w.heap.size, 38, none⟩ = some (.int .i64 1) := by rw [← HE.out]; exact hb.cellv (cv_38 c)
  have d : w2.cell? ⟨w.heap.size, 32, none⟩ = some (.int .u64 c.S1) := hb.cellv (cv_32 c)
  have f : w2.frozen? ⟨w.heap.size, 32, none⟩ = false := hb.frozen _
  have hne : w.heap.size + 1 ≠ w.heap.size := by omega
  clear hf
  have H1 := blk_setS1 hb v
  have H2 := Blk.farc (b := w.heap.size) (i := 32) hr hne (.int .u64 v)
  have H3 := Fr.setNew (g := w.heap.size) (i := 32) F (Nat.le_refl _) (.int .u64 v)
  go_upto_region 4 with fail
  generalize w2.setCell ⟨w.heap.size, 32, none⟩ (.int .u64 v) = w3 at *
  clear d38 d f
  go_wp2_with (first
    | (refine wpList_load_blk rfl 26 (.tmp 2) rfl w.heap.size rfl _ H1 Try.underlying26 rfl info26 ?_)
    | (refine wpList_store_blk0 rfl 26 (.tmp 4) (.tmp 15) rfl (w.heap.size + 1) rfl (cv { c with S1 := v }) rfl H2 info26 rfl (one_cv _) ?_; intro w4 hf4 hb4))
  refine bodyPost_ret (results_cell_tmp (p := 4) (q := 5) (ty := 26) rfl _ _ (w.heap.size + 1) (cv { c with S1 := v }) _ rfl hb4 Try.underlying26 rfl info26) rfl ?_
  exact ⟨rfl, H3.own1 hf4 (by omega)⟩
end Go.Proofs.Ytiaflkabnaofpaa
