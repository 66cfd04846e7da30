/- The contract of the reference's Right. -/
import Derived.Test.YtkcdojlfliemmaaRegs
namespace Go.Proofs.Ytkcdojlfliemmaa
open Go.RowKit
set_option linter.unusedVariables false
attribute [local go_sem] fold0

theorem right_lit (c : Cr) : rightF c = ((c.EL == 0 || c.EL == 1) && decide (0 ≤ c.Wait) && decide (c.Wait ≤ 2) && decide (0 ≤ c.Id) && decide (c.Id ≤ 7)) := by
  have : decide (c.Id < 8) = decide (c.Id ≤ 7) := by
    by_cases h : c.Id < 8
    · simp [h, show c.Id ≤ 7 by omega]
    · simp [h, show ¬ c.Id ≤ 7 by omega]
  unfold rightF levelF
  rw [this]
set_option maxHeartbeats 1000000 in
theorem rright_ok (c : Cr) (w : World) : Calls Try.prog 17 #[.agg (cv c)] w fun e w' => e = .returned (.bool (rightF c)) ∧ Fr Nil w w' := by
  have hR := right_lit c
  have HR := Lib.hid hR
  clear hR
  have hb : Blk (w.alloc (.cells (cv c) 26)) w.heap.size 26 (cv c) := Blk.new _ _ _
  have F := (Fr.refl Nil w).alloc (.cells (cv c) 26)
  have d0 : (w.alloc (.cells (cv c) 26)).cell? ⟨w.heap.size, 38, none⟩ = some (.int .i64 c.EL) := hb.cellv (cv_38 c)
  have d1 : (w.alloc (.cells (cv c) 26)).cell? ⟨w.heap.size, 46, none⟩ = some (.int .i64 c.Id) := hb.cellv (cv_46 c)
  have d2 : (w.alloc (.cells (cv c) 26)).cell? ⟨w.heap.size, 47, none⟩ = some (.int .i64 c.Wait) := hb.cellv (cv_47 c)
  clear hb
  go_enter Try.func17, Try.ntmps17
  go_wp2
  all_goals go_ret
  all_goals refine ⟨?_, F⟩
  all_goals rw [HR.out]
  all_goals (simp [*] <;> (intros; omega))
end Go.Proofs.Ytkcdojlfliemmaa
