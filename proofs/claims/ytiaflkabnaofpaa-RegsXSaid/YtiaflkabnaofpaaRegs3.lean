/- Contracts of package regs: SetX, SP, SetSP, Right. -/
import Derived.Test.YtiaflkabnaofpaaRegs2
namespace Go.Proofs.Ytiaflkabnaofpaa
open Go.RowKit
set_option linter.unusedVariables false
attribute [local go_sem] fold0 cv_31 cv_32 cv_33 cv_34 cv_35 cv_36 cv_37 cv_38 cv_39 cv_40 cv_41 cv_42 cv_43 cv_44 cv_45 cv_46 cv_47 cv_48

theorem fr2 {w w2 : World} {o o' : Obj} {g : Nat} (hf : Fr (One g) ((w.alloc o).alloc o') w2) (hg : w.heap.size ≤ g) : Fr Nil w w2 :=
  (((Fr.refl Nil w).alloc o).alloc o').step hf (fun i _ hi => .inr (by rw [hi]; exact hg))

set_option maxHeartbeats 1000000 in
theorem setx_ok (c : Cr) (r : Nat) (v : Int) (w : World) (h : r < 31) : Calls Try.prog 17 #[.agg (cv c), .int .i64 (r : Int), .int .u64 v] w fun e w' => e = .returned (.tuple #[.agg (cv { c with X := upd c.X r v }), .int .i64 0]) ∧ Fr Nil w w' := by
  have hx := cv_X c h
  have hset := cv_setX c h v
  have h' : (r : Int) < 31 := by omega
  go_enter Try.func17, Try.ntmps17
  go_wp2_with (first
    | (refine wpList_load_blk rfl 26 (.tmp 3) rfl w.heap.size rfl _ (Blk.alloc (Blk.new _ _ _) _) Try.underlying26 rfl info26 ?_)
    | (refine wpList_store_blk rfl 26 (.tmp 6) (.tmp 21) rfl (w.heap.size + 1) rfl (cv { c with X := upd c.X r v }) rfl (Blk.new2 _ _ _ _) info26 rfl (one_cv _) ?_; intro w2 hf hb hz))
  refine bodyPost_ret (results_cell_tmp (p := 6) (q := 7) (ty := 26) rfl _ _ (w.heap.size + 1) (cv { c with X := upd c.X r v }) _ rfl hb Try.underlying26 rfl info26) rfl ?_
  exact ⟨rfl, fr2 hf (by omega)⟩
set_option maxHeartbeats 1000000 in
theorem setx_zr (c : Cr) (v : Int) (w : World) : Calls Try.prog 17 #[.agg (cv c), .int .i64 31, .int .u64 v] w fun e w' => e = .returned (.tuple #[.agg (cv c), .int .i64 0]) ∧ Fr Nil w w' := by
  go_enter Try.func17, Try.ntmps17
  go_wp2_with (first
    | (refine wpList_load_blk rfl 26 (.tmp 3) rfl w.heap.size rfl _ (Blk.alloc (Blk.new _ _ _) _) Try.underlying26 rfl info26 ?_)
    | (refine wpList_store_blk rfl 26 (.tmp 6) (.tmp 21) rfl (w.heap.size + 1) rfl (cv c) rfl (Blk.new2 _ _ _ _) info26 rfl (one_cv _) ?_; intro w2 hf hb hz))
  refine bodyPost_ret (results_cell_tmp (p := 6) (q := 7) (ty := 26) rfl _ _ (w.heap.size + 1) (cv c) _ rfl hb Try.underlying26 rfl info26) rfl ?_
  exact ⟨rfl, fr2 hf (by omega)⟩
set_option maxRecDepth 100000 in
set_option maxHeartbeats 1000000 in
theorem setx_bad (c : Cr) (r v : Int) (w : World) (h : r < 0 ∨ 31 < r) : Calls Try.prog 17 #[.agg (cv c), .int .i64 r, .int .u64 v] w fun e w' => e = .returned (.tuple #[.agg (cv zeroC), .int .i64 1]) ∧ Fr Nil w w' := by
  rcases h with h | h
  · go_enter Try.func17, Try.ntmps17
    go_wp2_with (refine wpList_store_blk rfl 26 (.tmp 6) (.tmp 14) rfl (w.heap.size + 1) rfl (cv zeroC) rfl (Blk.new2 _ _ _ _) info26 rfl (one_cv _) ?_; intro w2 hf hb hz)
    refine bodyPost_ret (results_cell_tmp (p := 6) (q := 7) (ty := 26) rfl _ _ (w.heap.size + 1) (cv zeroC) _ rfl hb Try.underlying26 rfl info26) rfl ?_
    exact ⟨rfl, fr2 hf (by omega)⟩
  · go_enter Try.func17, Try.ntmps17
    go_wp2_with (refine wpList_store_blk rfl 26 (.tmp 6) (.tmp 14) rfl (w.heap.size + 1) rfl (cv zeroC) rfl (Blk.new2 _ _ _ _) info26 rfl (one_cv _) ?_; intro w2 hf hb hz)
    refine bodyPost_ret (results_cell_tmp (p := 6) (q := 7) (ty := 26) rfl _ _ (w.heap.size + 1) (cv zeroC) _ rfl hb Try.underlying26 rfl info26) rfl ?_
    exact ⟨rfl, fr2 hf (by omega)⟩

def levelF (c : Cr) : Bool := c.EL == 0 || c.EL == 1
theorem level_ok (c : Cr) (w : World) : Calls Try.prog 31 #[.agg (cv c)] w fun e w' => e = .returned (.bool (levelF c)) ∧ Fr Nil w w' := by
  go_enter Try.func31, Try.ntmps31
  go_wp2
  all_goals go_ret
  all_goals exact ⟨by simp [levelF, *], (Fr.refl _ _).alloc _⟩
def rightF (c : Cr) : Bool := levelF c && decide (0 ≤ c.Wait) && decide (c.Wait ≤ 2) && decide (0 ≤ c.Id) && decide (c.Id < 8)
set_option maxHeartbeats 1000000 in
theorem right_ok (c : Cr) (w : World) : Calls Try.prog 23 #[.agg (cv c)] w fun e w' => e = .returned (.bool (rightF c)) ∧ Fr Nil w w' := by
  go_enter Try.func23, Try.ntmps23
  go_wp2_with (refine wpList_load_blk rfl 26 (.tmp 1) rfl w.heap.size rfl _ (Blk.new _ _ _) Try.underlying26 rfl info26 ?_)
  refine (level_ok _ _).mono ?_
  rintro e w2 ⟨rfl, hf⟩
  have hb : Blk w2 w.heap.size 26 (cv c) := Blk.fr0 (Blk.new _ _ _) hf
  have d1 : w2.cell? ⟨w.heap.size, 46, none⟩ = some (.int .i64 c.Id) := hb.cellv (cv_46 c)
  have d2 : w2.cell? ⟨w.heap.size, 47, none⟩ = some (.int .i64 c.Wait) := hb.cellv (cv_47 c)
  have F := ((Fr.refl Nil w).alloc (.cells (cv c) 26)).trans hf
  have hR : rightF c = (levelF c && decide (0 ≤ c.Wait) && decide (c.Wait ≤ 2) && decide (0 ≤ c.Id) && decide (c.Id < 8)) := rfl
  have HR := Lib.hid hR
  clear hR hf hb
  generalize levelF c = lv at *
  go_wp2
  all_goals go_ret
  all_goals refine ⟨?_, F⟩
  all_goals rw [HR.out]
  all_goals (simp [*] <;> (intros; omega))
end Go.Proofs.Ytiaflkabnaofpaa
