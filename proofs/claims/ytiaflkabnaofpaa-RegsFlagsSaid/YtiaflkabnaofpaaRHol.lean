/- Contracts of the reference's Holds. -/
import Derived.Test.YtiaflkabnaofpaaRegs
import Derived.Test.YtiaflkabnaofpaaRegs3
namespace Go.Proofs.Ytiaflkabnaofpaa
open Go.RowKit
set_option linter.unusedVariables false
attribute [local go_sem] fold0

theorem rholds_bad (c : Cr) (n : Int) (w : World) (h : n < 0 ∨ 15 < n) : Calls Try.prog 11 #[.agg (cv c), .int .i64 n] w fun e w' => e = .returned (.tuple #[.bool false, .bool false]) ∧ Fr Nil w w' := by
  have H := Lib.hid h
  clear h
  rcases H.out with h | h
  · go_enter Try.func11, Try.ntmps11
    go_wp2
    all_goals go_ret2
    all_goals exact ⟨rfl, (Fr.refl _ _).alloc _⟩
  · have h0 : ¬ n < 0 := by omega
    go_enter Try.func11, Try.ntmps11
    go_wp2
    all_goals go_ret2
    all_goals exact ⟨rfl, (Fr.refl _ _).alloc _⟩
def RHoldsPost (w : World) (c : Cr) (n : Nat) (e : Ending) (w' : World) : Prop := e = .returned (.tuple #[.bool (holdsF c n), .bool true]) ∧ Fr Nil w w'
set_option maxHeartbeats 1000000 in
theorem rholds_0 (c : Cr) (w : World) : Calls Try.prog 11 #[.agg (cv c), .int .i64 0] w (RHoldsPost w c 0) := by
  have hb : Blk (w.alloc (.cells (cv c) 26)) w.heap.size 26 (cv c) := Blk.new _ _ _
  have c0 : (w.alloc (.cells (cv c) 26)).cell? ⟨w.heap.size, 34, none⟩ = some (.bool c.N) := hb.cellv (cv_34 c)
  have c1 : (w.alloc (.cells (cv c) 26)).cell? ⟨w.heap.size, 35, none⟩ = some (.bool c.Z) := hb.cellv (cv_35 c)
  have c2 : (w.alloc (.cells (cv c) 26)).cell? ⟨w.heap.size, 36, none⟩ = some (.bool c.C) := hb.cellv (cv_36 c)
  have c3 : (w.alloc (.cells (cv c) 26)).cell? ⟨w.heap.size, 37, none⟩ = some (.bool c.V) := hb.cellv (cv_37 c)
  clear hb
  go_enter Try.func11, Try.ntmps11
  go_wp2
  all_goals go_ret2
  all_goals exact ⟨by simp [holdsF, tabF, *], (Fr.refl _ _).alloc _⟩
set_option maxHeartbeats 1000000 in
theorem rholds_1 (c : Cr) (w : World) : Calls Try.prog 11 #[.agg (cv c), .int .i64 1] w (RHoldsPost w c 1) := by
  have hb : Blk (w.alloc (.cells (cv c) 26)) w.heap.size 26 (cv c) := Blk.new _ _ _
  have c0 : (w.alloc (.cells (cv c) 26)).cell? ⟨w.heap.size, 34, none⟩ = some (.bool c.N) := hb.cellv (cv_34 c)
  have c1 : (w.alloc (.cells (cv c) 26)).cell? ⟨w.heap.size, 35, none⟩ = some (.bool c.Z) := hb.cellv (cv_35 c)
  have c2 : (w.alloc (.cells (cv c) 26)).cell? ⟨w.heap.size, 36, none⟩ = some (.bool c.C) := hb.cellv (cv_36 c)
  have c3 : (w.alloc (.cells (cv c) 26)).cell? ⟨w.heap.size, 37, none⟩ = some (.bool c.V) := hb.cellv (cv_37 c)
  clear hb
  go_enter Try.func11, Try.ntmps11
  go_wp2
  all_goals go_ret2
  all_goals exact ⟨by simp [holdsF, tabF, *], (Fr.refl _ _).alloc _⟩
set_option maxHeartbeats 1000000 in
theorem rholds_2 (c : Cr) (w : World) : Calls Try.prog 11 #[.agg (cv c), .int .i64 2] w (RHoldsPost w c 2) := by
  have hb : Blk (w.alloc (.cells (cv c) 26)) w.heap.size 26 (cv c) := Blk.new _ _ _
  have c0 : (w.alloc (.cells (cv c) 26)).cell? ⟨w.heap.size, 34, none⟩ = some (.bool c.N) := hb.cellv (cv_34 c)
  have c1 : (w.alloc (.cells (cv c) 26)).cell? ⟨w.heap.size, 35, none⟩ = some (.bool c.Z) := hb.cellv (cv_35 c)
  have c2 : (w.alloc (.cells (cv c) 26)).cell? ⟨w.heap.size, 36, none⟩ = some (.bool c.C) := hb.cellv (cv_36 c)
  have c3 : (w.alloc (.cells (cv c) 26)).cell? ⟨w.heap.size, 37, none⟩ = some (.bool c.V) := hb.cellv (cv_37 c)
  clear hb
  go_enter Try.func11, Try.ntmps11
  go_wp2
  all_goals go_ret2
  all_goals exact ⟨by simp [holdsF, tabF, *], (Fr.refl _ _).alloc _⟩
set_option maxHeartbeats 1000000 in
theorem rholds_3 (c : Cr) (w : World) : Calls Try.prog 11 #[.agg (cv c), .int .i64 3] w (RHoldsPost w c 3) := by
  have hb : Blk (w.alloc (.cells (cv c) 26)) w.heap.size 26 (cv c) := Blk.new _ _ _
  have c0 : (w.alloc (.cells (cv c) 26)).cell? ⟨w.heap.size, 34, none⟩ = some (.bool c.N) := hb.cellv (cv_34 c)
  have c1 : (w.alloc (.cells (cv c) 26)).cell? ⟨w.heap.size, 35, none⟩ = some (.bool c.Z) := hb.cellv (cv_35 c)
  have c2 : (w.alloc (.cells (cv c) 26)).cell? ⟨w.heap.size, 36, none⟩ = some (.bool c.C) := hb.cellv (cv_36 c)
  have c3 : (w.alloc (.cells (cv c) 26)).cell? ⟨w.heap.size, 37, none⟩ = some (.bool c.V) := hb.cellv (cv_37 c)
  clear hb
  go_enter Try.func11, Try.ntmps11
  go_wp2
  all_goals go_ret2
  all_goals exact ⟨by simp [holdsF, tabF, *], (Fr.refl _ _).alloc _⟩
set_option maxHeartbeats 1000000 in
theorem rholds_4 (c : Cr) (w : World) : Calls Try.prog 11 #[.agg (cv c), .int .i64 4] w (RHoldsPost w c 4) := by
  have hb : Blk (w.alloc (.cells (cv c) 26)) w.heap.size 26 (cv c) := Blk.new _ _ _
  have c0 : (w.alloc (.cells (cv c) 26)).cell? ⟨w.heap.size, 34, none⟩ = some (.bool c.N) := hb.cellv (cv_34 c)
  have c1 : (w.alloc (.cells (cv c) 26)).cell? ⟨w.heap.size, 35, none⟩ = some (.bool c.Z) := hb.cellv (cv_35 c)
  have c2 : (w.alloc (.cells (cv c) 26)).cell? ⟨w.heap.size, 36, none⟩ = some (.bool c.C) := hb.cellv (cv_36 c)
  have c3 : (w.alloc (.cells (cv c) 26)).cell? ⟨w.heap.size, 37, none⟩ = some (.bool c.V) := hb.cellv (cv_37 c)
  clear hb
  go_enter Try.func11, Try.ntmps11
  go_wp2
  all_goals go_ret2
  all_goals exact ⟨by simp [holdsF, tabF, *], (Fr.refl _ _).alloc _⟩
set_option maxHeartbeats 1000000 in
theorem rholds_5 (c : Cr) (w : World) : Calls Try.prog 11 #[.agg (cv c), .int .i64 5] w (RHoldsPost w c 5) := by
  have hb : Blk (w.alloc (.cells (cv c) 26)) w.heap.size 26 (cv c) := Blk.new _ _ _
  have c0 : (w.alloc (.cells (cv c) 26)).cell? ⟨w.heap.size, 34, none⟩ = some (.bool c.N) := hb.cellv (cv_34 c)
  have c1 : (w.alloc (.cells (cv c) 26)).cell? ⟨w.heap.size, 35, none⟩ = some (.bool c.Z) := hb.cellv (cv_35 c)
  have c2 : (w.alloc (.cells (cv c) 26)).cell? ⟨w.heap.size, 36, none⟩ = some (.bool c.C) := hb.cellv (cv_36 c)
  have c3 : (w.alloc (.cells (cv c) 26)).cell? ⟨w.heap.size, 37, none⟩ = some (.bool c.V) := hb.cellv (cv_37 c)
  clear hb
  go_enter Try.func11, Try.ntmps11
  go_wp2
  all_goals go_ret2
  all_goals exact ⟨by simp [holdsF, tabF, *], (Fr.refl _ _).alloc _⟩
set_option maxHeartbeats 1000000 in
theorem rholds_6 (c : Cr) (w : World) : Calls Try.prog 11 #[.agg (cv c), .int .i64 6] w (RHoldsPost w c 6) := by
  have hb : Blk (w.alloc (.cells (cv c) 26)) w.heap.size 26 (cv c) := Blk.new _ _ _
  have c0 : (w.alloc (.cells (cv c) 26)).cell? ⟨w.heap.size, 34, none⟩ = some (.bool c.N) := hb.cellv (cv_34 c)
  have c1 : (w.alloc (.cells (cv c) 26)).cell? ⟨w.heap.size, 35, none⟩ = some (.bool c.Z) := hb.cellv (cv_35 c)
  have c2 : (w.alloc (.cells (cv c) 26)).cell? ⟨w.heap.size, 36, none⟩ = some (.bool c.C) := hb.cellv (cv_36 c)
  have c3 : (w.alloc (.cells (cv c) 26)).cell? ⟨w.heap.size, 37, none⟩ = some (.bool c.V) := hb.cellv (cv_37 c)
  clear hb
  go_enter Try.func11, Try.ntmps11
  go_wp2
  all_goals go_ret2
  all_goals exact ⟨by simp [holdsF, tabF, *], (Fr.refl _ _).alloc _⟩
set_option maxHeartbeats 1000000 in
theorem rholds_7 (c : Cr) (w : World) : Calls Try.prog 11 #[.agg (cv c), .int .i64 7] w (RHoldsPost w c 7) := by
  have hb : Blk (w.alloc (.cells (cv c) 26)) w.heap.size 26 (cv c) := Blk.new _ _ _
  have c0 : (w.alloc (.cells (cv c) 26)).cell? ⟨w.heap.size, 34, none⟩ = some (.bool c.N) := hb.cellv (cv_34 c)
  have c1 : (w.alloc (.cells (cv c) 26)).cell? ⟨w.heap.size, 35, none⟩ = some (.bool c.Z) := hb.cellv (cv_35 c)
  have c2 : (w.alloc (.cells (cv c) 26)).cell? ⟨w.heap.size, 36, none⟩ = some (.bool c.C) := hb.cellv (cv_36 c)
  have c3 : (w.alloc (.cells (cv c) 26)).cell? ⟨w.heap.size, 37, none⟩ = some (.bool c.V) := hb.cellv (cv_37 c)
  clear hb
  go_enter Try.func11, Try.ntmps11
  go_wp2
  all_goals go_ret2
  all_goals exact ⟨by simp [holdsF, tabF, *], (Fr.refl _ _).alloc _⟩
set_option maxHeartbeats 1000000 in
theorem rholds_8 (c : Cr) (w : World) : Calls Try.prog 11 #[.agg (cv c), .int .i64 8] w (RHoldsPost w c 8) := by
  have hb : Blk (w.alloc (.cells (cv c) 26)) w.heap.size 26 (cv c) := Blk.new _ _ _
  have c0 : (w.alloc (.cells (cv c) 26)).cell? ⟨w.heap.size, 34, none⟩ = some (.bool c.N) := hb.cellv (cv_34 c)
  have c1 : (w.alloc (.cells (cv c) 26)).cell? ⟨w.heap.size, 35, none⟩ = some (.bool c.Z) := hb.cellv (cv_35 c)
  have c2 : (w.alloc (.cells (cv c) 26)).cell? ⟨w.heap.size, 36, none⟩ = some (.bool c.C) := hb.cellv (cv_36 c)
  have c3 : (w.alloc (.cells (cv c) 26)).cell? ⟨w.heap.size, 37, none⟩ = some (.bool c.V) := hb.cellv (cv_37 c)
  clear hb
  go_enter Try.func11, Try.ntmps11
  go_wp2
  all_goals go_ret2
  all_goals exact ⟨by simp [holdsF, tabF, *], (Fr.refl _ _).alloc _⟩
set_option maxHeartbeats 1000000 in
theorem rholds_9 (c : Cr) (w : World) : Calls Try.prog 11 #[.agg (cv c), .int .i64 9] w (RHoldsPost w c 9) := by
  have hb : Blk (w.alloc (.cells (cv c) 26)) w.heap.size 26 (cv c) := Blk.new _ _ _
  have c0 : (w.alloc (.cells (cv c) 26)).cell? ⟨w.heap.size, 34, none⟩ = some (.bool c.N) := hb.cellv (cv_34 c)
  have c1 : (w.alloc (.cells (cv c) 26)).cell? ⟨w.heap.size, 35, none⟩ = some (.bool c.Z) := hb.cellv (cv_35 c)
  have c2 : (w.alloc (.cells (cv c) 26)).cell? ⟨w.heap.size, 36, none⟩ = some (.bool c.C) := hb.cellv (cv_36 c)
  have c3 : (w.alloc (.cells (cv c) 26)).cell? ⟨w.heap.size, 37, none⟩ = some (.bool c.V) := hb.cellv (cv_37 c)
  clear hb
  go_enter Try.func11, Try.ntmps11
  go_wp2
  all_goals go_ret2
  all_goals exact ⟨by simp [holdsF, tabF, *], (Fr.refl _ _).alloc _⟩
set_option maxHeartbeats 1000000 in
theorem rholds_10 (c : Cr) (w : World) : Calls Try.prog 11 #[.agg (cv c), .int .i64 10] w (RHoldsPost w c 10) := by
  have hb : Blk (w.alloc (.cells (cv c) 26)) w.heap.size 26 (cv c) := Blk.new _ _ _
  have c0 : (w.alloc (.cells (cv c) 26)).cell? ⟨w.heap.size, 34, none⟩ = some (.bool c.N) := hb.cellv (cv_34 c)
  have c1 : (w.alloc (.cells (cv c) 26)).cell? ⟨w.heap.size, 35, none⟩ = some (.bool c.Z) := hb.cellv (cv_35 c)
  have c2 : (w.alloc (.cells (cv c) 26)).cell? ⟨w.heap.size, 36, none⟩ = some (.bool c.C) := hb.cellv (cv_36 c)
  have c3 : (w.alloc (.cells (cv c) 26)).cell? ⟨w.heap.size, 37, none⟩ = some (.bool c.V) := hb.cellv (cv_37 c)
  clear hb
  go_enter Try.func11, Try.ntmps11
  go_wp2
  all_goals go_ret2
  all_goals exact ⟨by simp [holdsF, tabF, *], (Fr.refl _ _).alloc _⟩
set_option maxHeartbeats 1000000 in
theorem rholds_11 (c : Cr) (w : World) : Calls Try.prog 11 #[.agg (cv c), .int .i64 11] w (RHoldsPost w c 11) := by
  have hb : Blk (w.alloc (.cells (cv c) 26)) w.heap.size 26 (cv c) := Blk.new _ _ _
  have c0 : (w.alloc (.cells (cv c) 26)).cell? ⟨w.heap.size, 34, none⟩ = some (.bool c.N) := hb.cellv (cv_34 c)
  have c1 : (w.alloc (.cells (cv c) 26)).cell? ⟨w.heap.size, 35, none⟩ = some (.bool c.Z) := hb.cellv (cv_35 c)
  have c2 : (w.alloc (.cells (cv c) 26)).cell? ⟨w.heap.size, 36, none⟩ = some (.bool c.C) := hb.cellv (cv_36 c)
  have c3 : (w.alloc (.cells (cv c) 26)).cell? ⟨w.heap.size, 37, none⟩ = some (.bool c.V) := hb.cellv (cv_37 c)
  clear hb
  go_enter Try.func11, Try.ntmps11
  go_wp2
  all_goals go_ret2
  all_goals exact ⟨by simp [holdsF, tabF, *], (Fr.refl _ _).alloc _⟩
set_option maxHeartbeats 1000000 in
theorem rholds_12 (c : Cr) (w : World) : Calls Try.prog 11 #[.agg (cv c), .int .i64 12] w (RHoldsPost w c 12) := by
  have hb : Blk (w.alloc (.cells (cv c) 26)) w.heap.size 26 (cv c) := Blk.new _ _ _
  have c0 : (w.alloc (.cells (cv c) 26)).cell? ⟨w.heap.size, 34, none⟩ = some (.bool c.N) := hb.cellv (cv_34 c)
  have c1 : (w.alloc (.cells (cv c) 26)).cell? ⟨w.heap.size, 35, none⟩ = some (.bool c.Z) := hb.cellv (cv_35 c)
  have c2 : (w.alloc (.cells (cv c) 26)).cell? ⟨w.heap.size, 36, none⟩ = some (.bool c.C) := hb.cellv (cv_36 c)
  have c3 : (w.alloc (.cells (cv c) 26)).cell? ⟨w.heap.size, 37, none⟩ = some (.bool c.V) := hb.cellv (cv_37 c)
  clear hb
  go_enter Try.func11, Try.ntmps11
  go_wp2
  all_goals go_ret2
  all_goals exact ⟨by simp [holdsF, tabF, *], (Fr.refl _ _).alloc _⟩
set_option maxHeartbeats 1000000 in
theorem rholds_13 (c : Cr) (w : World) : Calls Try.prog 11 #[.agg (cv c), .int .i64 13] w (RHoldsPost w c 13) := by
  have hb : Blk (w.alloc (.cells (cv c) 26)) w.heap.size 26 (cv c) := Blk.new _ _ _
  have c0 : (w.alloc (.cells (cv c) 26)).cell? ⟨w.heap.size, 34, none⟩ = some (.bool c.N) := hb.cellv (cv_34 c)
  have c1 : (w.alloc (.cells (cv c) 26)).cell? ⟨w.heap.size, 35, none⟩ = some (.bool c.Z) := hb.cellv (cv_35 c)
  have c2 : (w.alloc (.cells (cv c) 26)).cell? ⟨w.heap.size, 36, none⟩ = some (.bool c.C) := hb.cellv (cv_36 c)
  have c3 : (w.alloc (.cells (cv c) 26)).cell? ⟨w.heap.size, 37, none⟩ = some (.bool c.V) := hb.cellv (cv_37 c)
  clear hb
  go_enter Try.func11, Try.ntmps11
  go_wp2
  all_goals go_ret2
  all_goals exact ⟨by simp [holdsF, tabF, *], (Fr.refl _ _).alloc _⟩
set_option maxHeartbeats 1000000 in
theorem rholds_14 (c : Cr) (w : World) : Calls Try.prog 11 #[.agg (cv c), .int .i64 14] w (RHoldsPost w c 14) := by
  have hb : Blk (w.alloc (.cells (cv c) 26)) w.heap.size 26 (cv c) := Blk.new _ _ _
  have c0 : (w.alloc (.cells (cv c) 26)).cell? ⟨w.heap.size, 34, none⟩ = some (.bool c.N) := hb.cellv (cv_34 c)
  have c1 : (w.alloc (.cells (cv c) 26)).cell? ⟨w.heap.size, 35, none⟩ = some (.bool c.Z) := hb.cellv (cv_35 c)
  have c2 : (w.alloc (.cells (cv c) 26)).cell? ⟨w.heap.size, 36, none⟩ = some (.bool c.C) := hb.cellv (cv_36 c)
  have c3 : (w.alloc (.cells (cv c) 26)).cell? ⟨w.heap.size, 37, none⟩ = some (.bool c.V) := hb.cellv (cv_37 c)
  clear hb
  go_enter Try.func11, Try.ntmps11
  go_wp2
  all_goals go_ret2
  all_goals exact ⟨by simp [holdsF, tabF, *], (Fr.refl _ _).alloc _⟩
set_option maxHeartbeats 1000000 in
theorem rholds_15 (c : Cr) (w : World) : Calls Try.prog 11 #[.agg (cv c), .int .i64 15] w (RHoldsPost w c 15) := by
  have hb : Blk (w.alloc (.cells (cv c) 26)) w.heap.size 26 (cv c) := Blk.new _ _ _
  have c0 : (w.alloc (.cells (cv c) 26)).cell? ⟨w.heap.size, 34, none⟩ = some (.bool c.N) := hb.cellv (cv_34 c)
  have c1 : (w.alloc (.cells (cv c) 26)).cell? ⟨w.heap.size, 35, none⟩ = some (.bool c.Z) := hb.cellv (cv_35 c)
  have c2 : (w.alloc (.cells (cv c) 26)).cell? ⟨w.heap.size, 36, none⟩ = some (.bool c.C) := hb.cellv (cv_36 c)
  have c3 : (w.alloc (.cells (cv c) 26)).cell? ⟨w.heap.size, 37, none⟩ = some (.bool c.V) := hb.cellv (cv_37 c)
  clear hb
  go_enter Try.func11, Try.ntmps11
  go_wp2
  all_goals go_ret2
  all_goals exact ⟨by simp [holdsF, tabF, *], (Fr.refl _ _).alloc _⟩
theorem rholds_ok (c : Cr) (n : Nat) (w : World) (h : n < 16) : Calls Try.prog 11 #[.agg (cv c), .int .i64 (n : Int)] w (RHoldsPost w c n) := by
  have : n = 0 ∨ n = 1 ∨ n = 2 ∨ n = 3 ∨ n = 4 ∨ n = 5 ∨ n = 6 ∨ n = 7 ∨ n = 8 ∨ n = 9 ∨ n = 10 ∨ n = 11 ∨ n = 12 ∨ n = 13 ∨ n = 14 ∨ n = 15 := by omega
  rcases this with rfl | rfl | rfl | rfl | rfl | rfl | rfl | rfl | rfl | rfl | rfl | rfl | rfl | rfl | rfl | rfl
  · exact rholds_0 c w
  · exact rholds_1 c w
  · exact rholds_2 c w
  · exact rholds_3 c w
  · exact rholds_4 c w
  · exact rholds_5 c w
  · exact rholds_6 c w
  · exact rholds_7 c w
  · exact rholds_8 c w
  · exact rholds_9 c w
  · exact rholds_10 c w
  · exact rholds_11 c w
  · exact rholds_12 c w
  · exact rholds_13 c w
  · exact rholds_14 c w
  · exact rholds_15 c w
end Go.Proofs.Ytiaflkabnaofpaa
