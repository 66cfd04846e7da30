/- Contracts of Get and of the reference's Get. -/
import Derived.Test.YtiaflkabnaofpaaRSet
import Derived.Test.YtiaflkabnaofpaaRNz
import Derived.Test.YtiaflkabnaofpaaRegs4
namespace Go.Proofs.Ytiaflkabnaofpaa
open Go.RowKit
set_option linter.unusedVariables false
attribute [local go_sem] fold0

theorem noPlace_of (sys : Int) (h : sys = 23056 ∨ sys = 23057 ∨ sys = 16389 ∨ sys = 16914) : noPlace sys := by
  unfold noPlace
  omega
set_option maxHeartbeats 1000000 in
theorem get_nzcv (c : Cr) (w : World) : Calls Try.prog 25 #[.agg (cv c), .int .i64 23056] w (GetPost w (nzP c 4) true) := by
  have hb : Blk (w.alloc (.cells (cv c) 26)) w.heap.size 26 (cv c) := Blk.new _ _ _
  have F := (Fr.refl Nil w).alloc (.cells (cv c) 26)
  go_enter Try.func25, Try.ntmps25
  go_upto_region 1 with fail
  generalize w.alloc (.cells (cv c) 26) = w2 at *
  generalize hg : w.heap.size = g at *
  go_wp2_with fail
  refine (place_no _ _ _ (noPlace_of 23056 (by decide))).mono ?_
  rintro e w3 ⟨rfl, rfl⟩
  go_wp2_with (refine wpList_load_blk rfl 26 (.tmp 2) rfl g rfl _ hb Try.underlying26 rfl info26 ?_)
  refine (nzcv_ok _ _).mono ?_
  rintro e w4 ⟨rfl, hf4⟩
  have F4 := F.trans hf4
  clear hf4 hb F
  go_wp2
  go_ret2
  exact ⟨rfl, F4⟩
set_option maxHeartbeats 1000000 in
theorem get_daif (c : Cr) (w : World) : Calls Try.prog 25 #[.agg (cv c), .int .i64 23057] w (GetPost w (if c.M = true then 128 else 0) true) := by
  cases hm : c.M
  · have hb : Blk (w.alloc (.cells (cv c) 26)) w.heap.size 26 (cv c) := Blk.new _ _ _
    have F := (Fr.refl Nil w).alloc (.cells (cv c) 26)
    go_enter Try.func25, Try.ntmps25
    go_upto_region 1 with fail
    generalize w.alloc (.cells (cv c) 26) = w2 at *
    generalize hg : w.heap.size = g at *
    have d : w2.cell? ⟨g, 39, none⟩ = some (.bool false) := by rw [← hm]; exact hb.cellv (cv_39 c)
    clear hb
    go_wp2_with fail
    refine (place_no _ _ _ (noPlace_of 23057 (by decide))).mono ?_
    rintro e w3 ⟨rfl, rfl⟩
    go_wp2
    all_goals go_ret2
    all_goals exact ⟨by simp [*], F⟩
  · have hb : Blk (w.alloc (.cells (cv c) 26)) w.heap.size 26 (cv c) := Blk.new _ _ _
    have F := (Fr.refl Nil w).alloc (.cells (cv c) 26)
    go_enter Try.func25, Try.ntmps25
    go_upto_region 1 with fail
    generalize w.alloc (.cells (cv c) 26) = w2 at *
    generalize hg : w.heap.size = g at *
    have d : w2.cell? ⟨g, 39, none⟩ = some (.bool true) := by rw [← hm]; exact hb.cellv (cv_39 c)
    clear hb
    go_wp2_with fail
    refine (place_no _ _ _ (noPlace_of 23057 (by decide))).mono ?_
    rintro e w3 ⟨rfl, rfl⟩
    go_wp2
    all_goals go_ret2
    all_goals exact ⟨by simp [*], F⟩
set_option maxHeartbeats 1000000 in
theorem get_mpid (c : Cr) (w : World) : Calls Try.prog 25 #[.agg (cv c), .int .i64 16389] w (GetPost w (IntKind.u64.wrap (2147483648 + IntKind.u64.wrap c.Id)) true) := by
  have hb : Blk (w.alloc (.cells (cv c) 26)) w.heap.size 26 (cv c) := Blk.new _ _ _
  have F := (Fr.refl Nil w).alloc (.cells (cv c) 26)
  go_enter Try.func25, Try.ntmps25
  go_upto_region 1 with fail
  generalize w.alloc (.cells (cv c) 26) = w2 at *
  generalize hg : w.heap.size = g at *
  have d : w2.cell? ⟨g, 46, none⟩ = some (.int .i64 c.Id) := hb.cellv (cv_46 c)
  clear hb
  go_wp2_with fail
  refine (place_no _ _ _ (noPlace_of 16389 (by decide))).mono ?_
  rintro e w3 ⟨rfl, rfl⟩
  go_wp2
  all_goals go_ret2
  all_goals exact ⟨by simp [*], F⟩
set_option maxHeartbeats 1000000 in
theorem get_el (c : Cr) (w : World) : Calls Try.prog 25 #[.agg (cv c), .int .i64 16914] w (GetPost w (IntKind.u64.wrap (IntKind.u64.wrap c.EL * 4)) true) := by
  have hb : Blk (w.alloc (.cells (cv c) 26)) w.heap.size 26 (cv c) := Blk.new _ _ _
  have F := (Fr.refl Nil w).alloc (.cells (cv c) 26)
  go_enter Try.func25, Try.ntmps25
  go_upto_region 1 with fail
  generalize w.alloc (.cells (cv c) 26) = w2 at *
  generalize hg : w.heap.size = g at *
  have d : w2.cell? ⟨g, 38, none⟩ = some (.int .i64 c.EL) := hb.cellv (cv_38 c)
  clear hb
  go_wp2_with fail
  refine (place_no _ _ _ (noPlace_of 16914 (by decide))).mono ?_
  rintro e w3 ⟨rfl, rfl⟩
  go_wp2
  all_goals go_ret2
  all_goals exact ⟨by simp [*], F⟩
set_option maxHeartbeats 1000000 in
theorem rget_vbar (c : Cr) (w : World) : Calls Try.prog 26 #[.agg (cv c), .int .i64 17920] w (GetPost w (c.Vbar) true) := by
  have hb : Blk (w.alloc (.cells (cv c) 26)) w.heap.size 26 (cv c) := Blk.new _ _ _
  have F := (Fr.refl Nil w).alloc (.cells (cv c) 26)
  go_enter Try.func26, Try.ntmps26
  go_upto_region 1 with fail
  generalize w.alloc (.cells (cv c) 26) = w2 at *
  generalize hg : w.heap.size = g at *
  have d : w2.cell? ⟨g, 44, none⟩ = some (.int .u64 c.Vbar) := hb.cellv (cv_44 c)
  clear hb
  go_wp2
  all_goals go_ret2
  all_goals exact ⟨by simp [*], F⟩
set_option maxHeartbeats 1000000 in
theorem rget_elr (c : Cr) (w : World) : Calls Try.prog 26 #[.agg (cv c), .int .i64 16897] w (GetPost w (c.Elr) true) := by
  have hb : Blk (w.alloc (.cells (cv c) 26)) w.heap.size 26 (cv c) := Blk.new _ _ _
  have F := (Fr.refl Nil w).alloc (.cells (cv c) 26)
  go_enter Try.func26, Try.ntmps26
  go_upto_region 1 with fail
  generalize w.alloc (.cells (cv c) 26) = w2 at *
  generalize hg : w.heap.size = g at *
  have d : w2.cell? ⟨g, 41, none⟩ = some (.int .u64 c.Elr) := hb.cellv (cv_41 c)
  clear hb
  go_wp2
  all_goals go_ret2
  all_goals exact ⟨by simp [*], F⟩
set_option maxHeartbeats 1000000 in
theorem rget_spsr (c : Cr) (w : World) : Calls Try.prog 26 #[.agg (cv c), .int .i64 16896] w (GetPost w (c.Spsr) true) := by
  have hb : Blk (w.alloc (.cells (cv c) 26)) w.heap.size 26 (cv c) := Blk.new _ _ _
  have F := (Fr.refl Nil w).alloc (.cells (cv c) 26)
  go_enter Try.func26, Try.ntmps26
  go_upto_region 1 with fail
  generalize w.alloc (.cells (cv c) 26) = w2 at *
  generalize hg : w.heap.size = g at *
  have d : w2.cell? ⟨g, 40, none⟩ = some (.int .u64 c.Spsr) := hb.cellv (cv_40 c)
  clear hb
  go_wp2
  all_goals go_ret2
  all_goals exact ⟨by simp [*], F⟩
set_option maxHeartbeats 1000000 in
theorem rget_esr (c : Cr) (w : World) : Calls Try.prog 26 #[.agg (cv c), .int .i64 17040] w (GetPost w (c.Esr) true) := by
  have hb : Blk (w.alloc (.cells (cv c) 26)) w.heap.size 26 (cv c) := Blk.new _ _ _
  have F := (Fr.refl Nil w).alloc (.cells (cv c) 26)
  go_enter Try.func26, Try.ntmps26
  go_upto_region 1 with fail
  generalize w.alloc (.cells (cv c) 26) = w2 at *
  generalize hg : w.heap.size = g at *
  have d : w2.cell? ⟨g, 42, none⟩ = some (.int .u64 c.Esr) := hb.cellv (cv_42 c)
  clear hb
  go_wp2
  all_goals go_ret2
  all_goals exact ⟨by simp [*], F⟩
set_option maxHeartbeats 1000000 in
theorem rget_far (c : Cr) (w : World) : Calls Try.prog 26 #[.agg (cv c), .int .i64 17152] w (GetPost w (c.Far) true) := by
  have hb : Blk (w.alloc (.cells (cv c) 26)) w.heap.size 26 (cv c) := Blk.new _ _ _
  have F := (Fr.refl Nil w).alloc (.cells (cv c) 26)
  go_enter Try.func26, Try.ntmps26
  go_upto_region 1 with fail
  generalize w.alloc (.cells (cv c) 26) = w2 at *
  generalize hg : w.heap.size = g at *
  have d : w2.cell? ⟨g, 43, none⟩ = some (.int .u64 c.Far) := hb.cellv (cv_43 c)
  clear hb
  go_wp2
  all_goals go_ret2
  all_goals exact ⟨by simp [*], F⟩
set_option maxHeartbeats 1000000 in
theorem rget_sp0 (c : Cr) (w : World) : Calls Try.prog 26 #[.agg (cv c), .int .i64 16904] w (GetPost w (c.S0) true) := by
  have hb : Blk (w.alloc (.cells (cv c) 26)) w.heap.size 26 (cv c) := Blk.new _ _ _
  have F := (Fr.refl Nil w).alloc (.cells (cv c) 26)
  go_enter Try.func26, Try.ntmps26
  go_upto_region 1 with fail
  generalize w.alloc (.cells (cv c) 26) = w2 at *
  generalize hg : w.heap.size = g at *
  have d : w2.cell? ⟨g, 31, none⟩ = some (.int .u64 c.S0) := hb.cellv (cv_31 c)
  clear hb
  go_wp2
  all_goals go_ret2
  all_goals exact ⟨by simp [*], F⟩
set_option maxHeartbeats 1000000 in
theorem rget_tpidr (c : Cr) (w : World) : Calls Try.prog 26 #[.agg (cv c), .int .i64 24194] w (GetPost w (c.Tpidr) true) := by
  have hb : Blk (w.alloc (.cells (cv c) 26)) w.heap.size 26 (cv c) := Blk.new _ _ _
  have F := (Fr.refl Nil w).alloc (.cells (cv c) 26)
  go_enter Try.func26, Try.ntmps26
  go_upto_region 1 with fail
  generalize w.alloc (.cells (cv c) 26) = w2 at *
  generalize hg : w.heap.size = g at *
  have d : w2.cell? ⟨g, 45, none⟩ = some (.int .u64 c.Tpidr) := hb.cellv (cv_45 c)
  clear hb
  go_wp2
  all_goals go_ret2
  all_goals exact ⟨by simp [*], F⟩
set_option maxHeartbeats 1000000 in
theorem rget_nzcv (c : Cr) (w : World) : Calls Try.prog 26 #[.agg (cv c), .int .i64 23056] w (GetPost w (nzP c 4) true) := by
  have hb : Blk (w.alloc (.cells (cv c) 26)) w.heap.size 26 (cv c) := Blk.new _ _ _
  have F := (Fr.refl Nil w).alloc (.cells (cv c) 26)
  go_enter Try.func26, Try.ntmps26
  go_upto_region 1 with fail
  generalize w.alloc (.cells (cv c) 26) = w2 at *
  generalize hg : w.heap.size = g at *
  go_wp2_with (refine wpList_load_blk rfl 26 (.tmp 2) rfl g rfl _ hb Try.underlying26 rfl info26 ?_)
  refine (rnzcv_ok _ _).mono ?_
  rintro e w4 ⟨rfl, hf4⟩
  have F4 := F.trans hf4
  clear hf4 hb F
  go_wp2
  go_ret2
  exact ⟨rfl, F4⟩
set_option maxHeartbeats 1000000 in
theorem rget_daif (c : Cr) (w : World) : Calls Try.prog 26 #[.agg (cv c), .int .i64 23057] w (GetPost w (if c.M = true then 128 else 0) true) := by
  have hb : Blk (w.alloc (.cells (cv c) 26)) w.heap.size 26 (cv c) := Blk.new _ _ _
  have F := (Fr.refl Nil w).alloc (.cells (cv c) 26)
  go_enter Try.func26, Try.ntmps26
  go_upto_region 1 with fail
  generalize w.alloc (.cells (cv c) 26) = w2 at *
  generalize hg : w.heap.size = g at *
  have d : w2.cell? ⟨g, 39, none⟩ = some (.bool c.M) := hb.cellv (cv_39 c)
  clear hb
  generalize hv : (if c.M = true then (128 : Int) else 0) = x at *
  have Hv := Lib.hid hv
  clear hv
  go_wp2_with fail
  refine (one_7 _ _).mono ?_
  rintro e w4 ⟨rfl, rfl⟩
  rw [Hv.out]
  go_wp2
  go_ret2
  exact ⟨rfl, F⟩
set_option maxHeartbeats 1000000 in
theorem rget_mpid (c : Cr) (w : World) : Calls Try.prog 26 #[.agg (cv c), .int .i64 16389] w (GetPost w (IntKind.u64.wrap (2147483648 + IntKind.u64.wrap c.Id)) true) := by
  have hb : Blk (w.alloc (.cells (cv c) 26)) w.heap.size 26 (cv c) := Blk.new _ _ _
  have F := (Fr.refl Nil w).alloc (.cells (cv c) 26)
  go_enter Try.func26, Try.ntmps26
  go_upto_region 1 with fail
  generalize w.alloc (.cells (cv c) 26) = w2 at *
  generalize hg : w.heap.size = g at *
  have d : w2.cell? ⟨g, 46, none⟩ = some (.int .i64 c.Id) := hb.cellv (cv_46 c)
  clear hb
  go_wp2
  all_goals go_ret2
  all_goals exact ⟨by simp [*], F⟩
set_option maxHeartbeats 1000000 in
theorem rget_el (c : Cr) (w : World) : Calls Try.prog 26 #[.agg (cv c), .int .i64 16914] w (GetPost w (IntKind.u64.wrap (IntKind.u64.wrap c.EL * 4)) true) := by
  have hb : Blk (w.alloc (.cells (cv c) 26)) w.heap.size 26 (cv c) := Blk.new _ _ _
  have F := (Fr.refl Nil w).alloc (.cells (cv c) 26)
  go_enter Try.func26, Try.ntmps26
  go_upto_region 1 with fail
  generalize w.alloc (.cells (cv c) 26) = w2 at *
  generalize hg : w.heap.size = g at *
  have d : w2.cell? ⟨g, 38, none⟩ = some (.int .i64 c.EL) := hb.cellv (cv_38 c)
  clear hb
  go_wp2
  all_goals go_ret2
  all_goals exact ⟨by simp [*, Int.mul_comm], F⟩
set_option maxHeartbeats 1000000 in
theorem rget_no (c : Cr) (sys : Int) (w : World) (hp : noPlace sys) (h : noGet sys) : Calls Try.prog 26 #[.agg (cv c), .int .i64 sys] w (GetPost w 0 false) := by
  obtain ⟨n1, n2, n3, n4⟩ := h
  obtain ⟨p1, p2, p3, p4, p5, p6, p7⟩ := hp
  have hb : Blk (w.alloc (.cells (cv c) 26)) w.heap.size 26 (cv c) := Blk.new _ _ _
  have F := (Fr.refl Nil w).alloc (.cells (cv c) 26)
  go_enter Try.func26, Try.ntmps26
  go_upto_region 1 with fail
  generalize w.alloc (.cells (cv c) 26) = w2 at *
  generalize hg : w.heap.size = g at *
  clear hb
  go_wp2
  all_goals go_ret2
  all_goals exact ⟨by simp [*], F⟩
end Go.Proofs.Ytiaflkabnaofpaa
