/- Contracts of the reference's X and SetX. -/
import Derived.Test.YtiaflkabnaofpaaRegs3
namespace Go.Proofs.Ytiaflkabnaofpaa
open Go.RowKit
set_option linter.unusedVariables false
attribute [local go_sem] fold0

set_option maxHeartbeats 1000000 in
theorem rx_bad (c : Cr) (r : Int) (w : World) (h : r < 0 ∨ 31 < r) : Calls Try.prog 18 #[.agg (cv c), .int .i64 r] w fun e w' => e = .returned (.tuple #[.int .u64 0, .bool false]) ∧ Fr Nil w w' := by
  rcases h with h | h
  · go_enter Try.func18, Try.ntmps18
    go_wp2
    go_ret2
    exact ⟨rfl, (Fr.refl _ _).alloc _⟩
  · go_enter Try.func18, Try.ntmps18
    go_wp2
    go_ret2
    exact ⟨rfl, (Fr.refl _ _).alloc _⟩
theorem rx_zr (c : Cr) (w : World) : Calls Try.prog 18 #[.agg (cv c), .int .i64 31] w fun e w' => e = .returned (.tuple #[.int .u64 0, .bool true]) ∧ Fr Nil w w' := by
  go_enter Try.func18, Try.ntmps18
  go_wp2
  go_ret2
  exact ⟨rfl, (Fr.refl _ _).alloc _⟩
set_option maxHeartbeats 1000000 in
theorem rx_ok (c : Cr) (r : Nat) (w : World) (h : r < 31) : Calls Try.prog 18 #[.agg (cv c), .int .i64 (r : Int)] w fun e w' => e = .returned (.tuple #[.int .u64 (c.X r), .bool true]) ∧ Fr Nil w w' := by
  have hx := cv_X c h
  have h' : (r : Int) < 31 := by omega
  go_enter Try.func18, Try.ntmps18
  go_wp2
  go_ret2
  exact ⟨rfl, (Fr.refl _ _).alloc _⟩
set_option maxRecDepth 100000 in
set_option maxHeartbeats 1000000 in
theorem rsetx_ok (c : Cr) (r : Nat) (v : Int) (w : World) (h : r < 31) : Calls Try.prog 19 #[.agg (cv c), .int .i64 (r : Int), .int .u64 v] w fun e w' => e = .returned (.tuple #[.agg (cv { c with X := upd c.X r v }), .bool true]) ∧ Fr Nil w w' := by
  have hx := cv_X c h
  have hset := cv_setX c h v
  have h' : (r : Int) < 31 := by omega
  go_enter Try.func19, Try.ntmps19
  go_wp2_with (first
    | (refine wpList_load_blk rfl 26 (.tmp 3) rfl w.heap.size rfl _ (Blk.alloc (Blk.new _ _ _) _) Try.underlying26 rfl info26 ?_)
    | (refine wpList_store_blk rfl 26 (.tmp 6) (.tmp 21) rfl (w.heap.size + 1) rfl (cv { c with X := upd c.X r v }) rfl (Blk.new2 _ _ _ _) info26 rfl (one_cv _) ?_; intro w2 hf hb hz))
  refine bodyPost_ret (results_cell_tmp (p := 6) (q := 7) (ty := 26) rfl _ _ (w.heap.size + 1) (cv { c with X := upd c.X r v }) _ rfl hb Try.underlying26 rfl info26) rfl ?_
  exact ⟨rfl, fr2 hf (by omega)⟩
set_option maxHeartbeats 1000000 in
theorem rsetx_zr (c : Cr) (v : Int) (w : World) : Calls Try.prog 19 #[.agg (cv c), .int .i64 31, .int .u64 v] w fun e w' => e = .returned (.tuple #[.agg (cv c), .bool true]) ∧ Fr Nil w w' := by
  go_enter Try.func19, Try.ntmps19
  go_wp2_with (first
    | (refine wpList_load_blk rfl 26 (.tmp 3) rfl w.heap.size rfl _ (Blk.alloc (Blk.new _ _ _) _) Try.underlying26 rfl info26 ?_)
    | (refine wpList_store_blk rfl 26 (.tmp 6) (.tmp 21) rfl (w.heap.size + 1) rfl (cv c) rfl (Blk.new2 _ _ _ _) info26 rfl (one_cv _) ?_; intro w2 hf hb hz))
  refine bodyPost_ret (results_cell_tmp (p := 6) (q := 7) (ty := 26) rfl _ _ (w.heap.size + 1) (cv c) _ rfl hb Try.underlying26 rfl info26) rfl ?_
  exact ⟨rfl, fr2 hf (by omega)⟩
set_option maxRecDepth 100000 in
set_option maxHeartbeats 1000000 in
theorem rsetx_bad (c : Cr) (r v : Int) (w : World) (h : r < 0 ∨ 31 < r) : Calls Try.prog 19 #[.agg (cv c), .int .i64 r, .int .u64 v] w fun e w' => e = .returned (.tuple #[.agg (cv zeroC), .bool false]) ∧ Fr Nil w w' := by
  rcases h with h | h
  · go_enter Try.func19, Try.ntmps19
    go_wp2_with (refine wpList_store_blk rfl 26 (.tmp 6) (.tmp 14) rfl (w.heap.size + 1) rfl (cv zeroC) rfl (Blk.new2 _ _ _ _) info26 rfl (one_cv _) ?_; intro w2 hf hb hz)
    refine bodyPost_ret (results_cell_tmp (p := 6) (q := 7) (ty := 26) rfl _ _ (w.heap.size + 1) (cv zeroC) _ rfl hb Try.underlying26 rfl info26) rfl ?_
    exact ⟨rfl, fr2 hf (by omega)⟩
  · go_enter Try.func19, Try.ntmps19
    go_wp2_with (refine wpList_store_blk rfl 26 (.tmp 6) (.tmp 14) rfl (w.heap.size + 1) rfl (cv zeroC) rfl (Blk.new2 _ _ _ _) info26 rfl (one_cv _) ?_; intro w2 hf hb hz)
    refine bodyPost_ret (results_cell_tmp (p := 6) (q := 7) (ty := 26) rfl _ _ (w.heap.size + 1) (cv zeroC) _ rfl hb Try.underlying26 rfl info26) rfl ?_
    exact ⟨rfl, fr2 hf (by omega)⟩

end Go.Proofs.Ytiaflkabnaofpaa
