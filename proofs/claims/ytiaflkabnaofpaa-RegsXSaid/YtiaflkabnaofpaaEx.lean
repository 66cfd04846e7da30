/- The chapter's examples hold. -/
import Derived.Test.YtiaflkabnaofpaaRegs4
import Derived.Test.YtiaflkabnaofpaaRegs
namespace Go.Proofs.Ytiaflkabnaofpaa
open Go.RowKit
set_option linter.unusedVariables false

def zC : Cr := { zeroC with Z := true }
theorem get_mpidr3 (w : World) : Calls Try.prog 25 #[.agg (cv (newC 3 64)), .int .i64 16389] w (GetPost w 2147483651 true) :=
  get_mpidr (newC 3 64) w (by decide) (by decide)
def ExPost (w : World) (e : Ending) (w' : World) : Prop := e = .returned (.bool true) ∧ Fr Nil w w'
theorem build_new (w : World) : (binOp .eql 26 (.agg (cv (newC 3 64))) (.agg (cv (newC 3 64)))).run Try.prog w = .ok (.bool true) w := by
  rw [run_eq_core]
  rfl
set_option maxRecDepth 100000 in
set_option maxHeartbeats 4000000 in
theorem examples_ok (w : World) : Calls Try.prog 9 #[] w (ExPost w) := by
  have heq := build_new
  have hfold : (#[.int .u64 0, .int .u64 0, .int .u64 0, .int .u64 0, .int .u64 0, .int .u64 0, .int .u64 0, .int .u64 0, .int .u64 0, .int .u64 0, .int .u64 0, .int .u64 0, .int .u64 0, .int .u64 0, .int .u64 0, .int .u64 0, .int .u64 0, .int .u64 0, .int .u64 0, .int .u64 0, .int .u64 0, .int .u64 0, .int .u64 0, .int .u64 0, .int .u64 0, .int .u64 0, .int .u64 0, .int .u64 0, .int .u64 0, .int .u64 0, .int .u64 0, .int .u64 0, .int .u64 0, .int .u64 64, .bool false, .bool false, .bool false, .bool false, .int .i64 1, .bool true, .int .u64 0, .int .u64 0, .int .u64 0, .int .u64 0, .int .u64 0, .int .u64 0, .int .i64 3, .int .i64 0, .bool false] : Array Value) = cv (newC 3 64) := rfl
  go_enter Try.func9, Try.ntmps9
  go_wp2_with fail
  refine (new_ok 3 64 _).mono ?_
  rintro e w1 ⟨rfl, hf1⟩
  go_wp2_with (first
    | (refine wpList_store_blk0 rfl 26 (.tmp 1) (.tmp 15) rfl w1.heap.size rfl (cv (newC 3 64)) rfl (Blk.new _ _ _) info26 rfl (one_cv _) ?_; intro w2 hf2 hb2)
    | (refine wpList_store_blk0 rfl 26 (.tmp 2) (.tmp 16) rfl w2.heap.size rfl (cv zC) rfl (Blk.new _ _ _) info26 rfl (one_cv _) ?_; intro w3 hf3 hbz)
    | (refine wpList_load_blk rfl 26 (.tmp 1) rfl w1.heap.size rfl _ (Blk.fr1 (Blk.alloc hb2 _) hf3 (by have := hb2.lt; omega)) Try.underlying26 rfl info26 ?_))
  have F3 : Fr Nil w w3 := by
    have g1 : Fr Nil w (w1.alloc (.cells (cv zeroC) 26)) := hf1.alloc _
    have g2 : Fr Nil w w2 := g1.own1 hf2 hf1.size
    have g3 : Fr Nil w (w2.alloc (.cells (cv zeroC) 26)) := g2.alloc _
    exact g3.own1 hf3 g2.size
  have hbc : Blk w3 w1.heap.size 26 (cv (newC 3 64)) := Blk.fr1 (Blk.alloc hb2 _) hf3 (by have := hb2.lt; omega)
  clear hf3 hf2 hb2 hf1
  generalize w1.heap.size = gc at *
  generalize w2.heap.size = gz at *
  refine (x_zr _ _).mono ?_
  rintro e w4 ⟨rfl, hf4⟩
  have F4 := F3.trans hf4
  have hbc4 := Blk.fr0 hbc hf4
  have hbz4 := Blk.fr0 hbz hf4
  clear hf4
  go_wp2_with (refine wpList_load_blk rfl 26 (.tmp 1) rfl gc rfl _ hbc4 Try.underlying26 rfl info26 ?_)
  refine (x_bad _ 32 _ (by omega)).mono ?_
  rintro e w5 ⟨rfl, hf5⟩
  have F5 := F4.trans hf5
  have hbc5 := Blk.fr0 hbc4 hf5
  have hbz5 := Blk.fr0 hbz4 hf5
  clear hf5
  go_wp2_with (refine wpList_load_blk rfl 26 (.tmp 2) rfl gz rfl _ hbz5 Try.underlying26 rfl info26 ?_)
  refine (holds_0 _ _).mono ?_
  rintro e w6 ⟨rfl, hf6⟩
  have F6 := F5.trans hf6
  have hbc6 := Blk.fr0 hbc5 hf6
  have hbz6 := Blk.fr0 hbz5 hf6
  clear hf6
  go_wp2_with (refine wpList_load_blk rfl 26 (.tmp 2) rfl gz rfl _ hbz6 Try.underlying26 rfl info26 ?_)
  refine (holds_1 _ _).mono ?_
  rintro e w7 ⟨rfl, hf7⟩
  have F7 := F6.trans hf7
  have hbc7 := Blk.fr0 hbc6 hf7
  have hbz7 := Blk.fr0 hbz6 hf7
  clear hf7
  go_wp2_with (refine wpList_load_blk rfl 26 (.tmp 1) rfl gc rfl _ hbc7 Try.underlying26 rfl info26 ?_)
  refine (get_mpidr3 _).mono ?_
  rintro e w8 ⟨rfl, hf8⟩
  have F8 := F7.trans hf8
  have hbc8 := Blk.fr0 hbc7 hf8
  have hbz8 := Blk.fr0 hbz7 hf8
  clear hf8
  go_wp2_with (refine wpList_load_blk rfl 26 (.tmp 1) rfl gc rfl _ hbc8 Try.underlying26 rfl info26 ?_)
  refine (get_no _ 18016 _ (by unfold noPlace; decide) (by unfold noGet; decide)).mono ?_
  rintro e w9 ⟨rfl, hf9⟩
  have F9 := F8.trans hf9
  have hbc9 := Blk.fr0 hbc8 hf9
  have hbz9 := Blk.fr0 hbz8 hf9
  clear hf9
  go_wp2_with (refine wpList_load_blkg rfl 26 (.tmp 1) rfl gc rfl _ hbc9 Try.underlying26 rfl info26 ?_)
  refine (right_ok _ _).mono ?_
  rintro e w10 ⟨rfl, hf10⟩
  go_wp2
  go_ret
  exact ⟨rfl, F9.trans hf10⟩
end Go.Proofs.Ytiaflkabnaofpaa
