/- Contracts of package regs: registers, New, Right. -/
import Derived.Test.YtiaflkabnaofpaaEq
import Derived.Test.YtiaflkabnaofpaaBase2
namespace Go.Proofs.Ytiaflkabnaofpaa
open Go.RowKit
set_option linter.unusedVariables false
attribute [local go_sem] cv_31 cv_32 cv_33 cv_34 cv_35 cv_36 cv_37 cv_38 cv_39 cv_40 cv_41 cv_42 cv_43 cv_44 cv_45 cv_46 cv_47 cv_48

def zeroC : Cr := { X := fun _ => 0, S0 := 0, S1 := 0, PC := 0, N := false, Z := false, C := false, V := false, EL := 0, M := false, Spsr := 0, Elr := 0, Esr := 0, Far := 0, Vbar := 0, Tpidr := 0, Id := 0, Wait := 0, Ev := false }
def newC (id pc : Int) : Cr := { zeroC with Id := id, PC := pc, EL := 1, M := true }
theorem info26 : (Try.prog.info? 26).map (·.size) = some 49 := by kernel_rfl
theorem one_cv (c : Cr) : (cv c).all (·.oneCell') = true := by simp [cv, Value.oneCell']
theorem fold0 : (#[.int .u64 0, .int .u64 0, .int .u64 0, .int .u64 0, .int .u64 0, .int .u64 0, .int .u64 0, .int .u64 0, .int .u64 0, .int .u64 0, .int .u64 0, .int .u64 0, .int .u64 0, .int .u64 0, .int .u64 0, .int .u64 0, .int .u64 0, .int .u64 0, .int .u64 0, .int .u64 0, .int .u64 0, .int .u64 0, .int .u64 0, .int .u64 0, .int .u64 0, .int .u64 0, .int .u64 0, .int .u64 0, .int .u64 0, .int .u64 0, .int .u64 0, .int .u64 0, .int .u64 0, .int .u64 0, .bool false, .bool false, .bool false, .bool false, .int .i64 0, .bool false, .int .u64 0, .int .u64 0, .int .u64 0, .int .u64 0, .int .u64 0, .int .u64 0, .int .i64 0, .int .i64 0, .bool false] : Array Value) = cv zeroC := rfl
attribute [local go_sem] fold0

set_option maxHeartbeats 1000000 in
theorem x_bad (c : Cr) (r : Int) (w : World) (h : r < 0 ∨ 31 < r) : Calls Try.prog 16 #[.agg (cv c), .int .i64 r] w fun e w' => e = .returned (.tuple #[.int .u64 0, .int .i64 1]) ∧ Fr Nil w w' := by
  rcases h with h | h
  · go_enter Try.func16, Try.ntmps16
    go_wp2
    go_ret2
    exact ⟨rfl, (Fr.refl _ _).alloc _⟩
  · go_enter Try.func16, Try.ntmps16
    go_wp2
    go_ret2
    exact ⟨rfl, (Fr.refl _ _).alloc _⟩
theorem x_zr (c : Cr) (w : World) : Calls Try.prog 16 #[.agg (cv c), .int .i64 31] w fun e w' => e = .returned (.tuple #[.int .u64 0, .int .i64 0]) ∧ Fr Nil w w' := by
  go_enter Try.func16, Try.ntmps16
  go_wp2
  go_ret2
  exact ⟨rfl, (Fr.refl _ _).alloc _⟩
set_option maxHeartbeats 1000000 in
theorem x_ok (c : Cr) (r : Nat) (w : World) (h : r < 31) : Calls Try.prog 16 #[.agg (cv c), .int .i64 (r : Int)] w fun e w' => e = .returned (.tuple #[.int .u64 (c.X r), .int .i64 0]) ∧ Fr Nil w w' := by
  have hx := cv_X c h
  have h' : (r : Int) < 31 := by omega
  go_enter Try.func16, Try.ntmps16
  go_wp2
  go_ret2
  exact ⟨rfl, (Fr.refl _ _).alloc _⟩
set_option maxRecDepth 100000 in
set_option maxHeartbeats 1000000 in
theorem new_ok (id pc : Int) (w : World) : Calls Try.prog 24 #[.int .i64 id, .int .u64 pc] w fun e w' => e = .returned (.agg (cv (newC id pc))) ∧ Fr Nil w w' := by
  go_enter Try.func24, Try.ntmps24
  go_wp2_with (refine wpList_store_blk rfl 26 (.tmp 4) (.tmp 7) rfl w.heap.size rfl (cv (newC id pc)) rfl (Blk.new _ _ _) info26 rfl (one_cv _) ?_; intro w2 hf hb hz)
  refine bodyPost_ret (v := .agg (cv (newC id pc))) (results_cell_row (p := 4) (ty := 26) rfl _ _ w.heap.size 26 (cv (newC id pc)) (0, 0) _ rfl hb Try.underlying26 rfl info26) rfl ?_
  exact ⟨rfl, ((Fr.refl Nil w).alloc _).step hf (fun i _ hi => .inr (by rw [hi]; exact Nat.le_refl _))⟩
end Go.Proofs.Ytiaflkabnaofpaa
