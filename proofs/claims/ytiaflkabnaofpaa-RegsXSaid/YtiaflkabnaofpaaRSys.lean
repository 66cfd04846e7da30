/- Contracts of the reference's Set. -/
import Derived.Test.YtiaflkabnaofpaaSet
namespace Go.Proofs.Ytiaflkabnaofpaa
open Go.RowKit
set_option linter.unusedVariables false
attribute [local go_sem] fold0

set_option maxHeartbeats 2000000 in
theorem rset_vbar (c : Cr) (v : Int) (w : World) (h0 : 0 ≤ v) (h1 : v ≤ 18446744073709551615) : Calls Try.prog 28 #[.agg (cv c), .int .i64 17920, .int .u64 v] w fun e w' => e = .returned (.tuple #[.agg (cv { c with Vbar := v - v % 2048 }), .bool true]) ∧ Fr Nil w w' := by
  go_enter Try.func28, Try.ntmps28
  go_upto_region 1 with fail
  have hb : Blk ((w.alloc (.cells (cv c) 26)).alloc (.cells (cv zeroC) 26)) w.heap.size 26 (cv c) := Blk.alloc (Blk.new _ _ _) _
  have hr : Blk ((w.alloc (.cells (cv c) 26)).alloc (.cells (cv zeroC) 26)) (w.heap.size + 1) 26 (cv zeroC) := Blk.new2 _ _ _ _
  have F := (((Fr.refl Nil w).alloc (.cells (cv c) 26)).alloc (.cells (cv zeroC) 26))
  have hne : w.heap.size + 1 ≠ w.heap.size := by omega
  generalize (w.alloc (.cells (cv c) 26)).alloc (.cells (cv zeroC) 26) = w2 at *
  generalize hg : w.heap.size = g at *
  generalize hg1 : g + 1 = g1 at *
  have hle : w.heap.size ≤ g := by omega
  have d : w2.cell? ⟨g, 44, none⟩ = some (.int .u64 c.Vbar) := hb.cellv (cv_44 c)
  have f : w2.frozen? ⟨g, 44, none⟩ = false := hb.frozen _
  have H1 := blk_setVbar hb (v - v % 2048)
  have H2 := Blk.farc (b := g) (i := 44) hr hne (.int .u64 (v - v % 2048))
  have H3 := Fr.setNew (g := g) (i := 44) F hle (.int .u64 (v - v % 2048))
  go_upto_region 21 with fail
  generalize w2.setCell ⟨g, 44, none⟩ (.int .u64 (v - v % 2048)) = w3 at *
  clear d f
  go_wp2_with (first
    | (refine wpList_load_blk rfl 26 (.tmp 3) rfl g rfl _ H1 Try.underlying26 rfl info26 ?_)
    | (refine wpList_store_blk0 rfl 26 (.tmp 6) (.tmp 55) rfl g1 rfl (cv { c with Vbar := v - v % 2048 }) rfl H2 info26 rfl (one_cv _) ?_; intro w5 hf5 hb5))
  refine bodyPost_ret (results_cell_tmp (p := 6) (q := 7) (ty := 26) rfl _ _ g1 (cv { c with Vbar := v - v % 2048 }) _ rfl hb5 Try.underlying26 rfl info26) rfl ?_
  exact ⟨rfl, H3.own1 hf5 (by omega)⟩
set_option maxHeartbeats 2000000 in
theorem rset_elr (c : Cr) (v : Int) (w : World) (h0 : 0 ≤ v) (h1 : v ≤ 18446744073709551615) : Calls Try.prog 28 #[.agg (cv c), .int .i64 16897, .int .u64 v] w fun e w' => e = .returned (.tuple #[.agg (cv { c with Elr := v }), .bool true]) ∧ Fr Nil w w' := by
  go_enter Try.func28, Try.ntmps28
  go_upto_region 1 with fail
  have hb : Blk ((w.alloc (.cells (cv c) 26)).alloc (.cells (cv zeroC) 26)) w.heap.size 26 (cv c) := Blk.alloc (Blk.new _ _ _) _
  have hr : Blk ((w.alloc (.cells (cv c) 26)).alloc (.cells (cv zeroC) 26)) (w.heap.size + 1) 26 (cv zeroC) := Blk.new2 _ _ _ _
  have F := (((Fr.refl Nil w).alloc (.cells (cv c) 26)).alloc (.cells (cv zeroC) 26))
  have hne : w.heap.size + 1 ≠ w.heap.size := by omega
  generalize (w.alloc (.cells (cv c) 26)).alloc (.cells (cv zeroC) 26) = w2 at *
  generalize hg : w.heap.size = g at *
  generalize hg1 : g + 1 = g1 at *
  have hle : w.heap.size ≤ g := by omega
  have d : w2.cell? ⟨g, 41, none⟩ = some (.int .u64 c.Elr) := hb.cellv (cv_41 c)
  have f : w2.frozen? ⟨g, 41, none⟩ = false := hb.frozen _
  have H1 := blk_setElr hb (v)
  have H2 := Blk.farc (b := g) (i := 41) hr hne (.int .u64 (v))
  have H3 := Fr.setNew (g := g) (i := 41) F hle (.int .u64 (v))
  go_upto_region 21 with fail
  generalize w2.setCell ⟨g, 41, none⟩ (.int .u64 (v)) = w3 at *
  clear d f
  go_wp2_with (first
    | (refine wpList_load_blk rfl 26 (.tmp 3) rfl g rfl _ H1 Try.underlying26 rfl info26 ?_)
    | (refine wpList_store_blk0 rfl 26 (.tmp 6) (.tmp 55) rfl g1 rfl (cv { c with Elr := v }) rfl H2 info26 rfl (one_cv _) ?_; intro w5 hf5 hb5))
  refine bodyPost_ret (results_cell_tmp (p := 6) (q := 7) (ty := 26) rfl _ _ g1 (cv { c with Elr := v }) _ rfl hb5 Try.underlying26 rfl info26) rfl ?_
  exact ⟨rfl, H3.own1 hf5 (by omega)⟩
set_option maxHeartbeats 2000000 in
theorem rset_spsr (c : Cr) (v : Int) (w : World) (h0 : 0 ≤ v) (h1 : v ≤ 18446744073709551615) : Calls Try.prog 28 #[.agg (cv c), .int .i64 16896, .int .u64 v] w fun e w' => e = .returned (.tuple #[.agg (cv { c with Spsr := v }), .bool true]) ∧ Fr Nil w w' := by
  go_enter Try.func28, Try.ntmps28
  go_upto_region 1 with fail
  have hb : Blk ((w.alloc (.cells (cv c) 26)).alloc (.cells (cv zeroC) 26)) w.heap.size 26 (cv c) := Blk.alloc (Blk.new _ _ _) _
  have hr : Blk ((w.alloc (.cells (cv c) 26)).alloc (.cells (cv zeroC) 26)) (w.heap.size + 1) 26 (cv zeroC) := Blk.new2 _ _ _ _
  have F := (((Fr.refl Nil w).alloc (.cells (cv c) 26)).alloc (.cells (cv zeroC) 26))
  have hne : w.heap.size + 1 ≠ w.heap.size := by omega
  generalize (w.alloc (.cells (cv c) 26)).alloc (.cells (cv zeroC) 26) = w2 at *
  generalize hg : w.heap.size = g at *
  generalize hg1 : g + 1 = g1 at *
  have hle : w.heap.size ≤ g := by omega
  have d : w2.cell? ⟨g, 40, none⟩ = some (.int .u64 c.Spsr) := hb.cellv (cv_40 c)
  have f : w2.frozen? ⟨g, 40, none⟩ = false := hb.frozen _
  have H1 := blk_setSpsr hb (v)
  have H2 := Blk.farc (b := g) (i := 40) hr hne (.int .u64 (v))
  have H3 := Fr.setNew (g := g) (i := 40) F hle (.int .u64 (v))
  go_upto_region 21 with fail
  generalize w2.setCell ⟨g, 40, none⟩ (.int .u64 (v)) = w3 at *
  clear d f
  go_wp2_with (first
    | (refine wpList_load_blk rfl 26 (.tmp 3) rfl g rfl _ H1 Try.underlying26 rfl info26 ?_)
    | (refine wpList_store_blk0 rfl 26 (.tmp 6) (.tmp 55) rfl g1 rfl (cv { c with Spsr := v }) rfl H2 info26 rfl (one_cv _) ?_; intro w5 hf5 hb5))
  refine bodyPost_ret (results_cell_tmp (p := 6) (q := 7) (ty := 26) rfl _ _ g1 (cv { c with Spsr := v }) _ rfl hb5 Try.underlying26 rfl info26) rfl ?_
  exact ⟨rfl, H3.own1 hf5 (by omega)⟩
set_option maxHeartbeats 2000000 in
theorem rset_esr (c : Cr) (v : Int) (w : World) (h0 : 0 ≤ v) (h1 : v ≤ 18446744073709551615) : Calls Try.prog 28 #[.agg (cv c), .int .i64 17040, .int .u64 v] w fun e w' => e = .returned (.tuple #[.agg (cv { c with Esr := v % 4294967296 }), .bool true]) ∧ Fr Nil w w' := by
  go_enter Try.func28, Try.ntmps28
  go_upto_region 1 with fail
  have hb : Blk ((w.alloc (.cells (cv c) 26)).alloc (.cells (cv zeroC) 26)) w.heap.size 26 (cv c) := Blk.alloc (Blk.new _ _ _) _
  have hr : Blk ((w.alloc (.cells (cv c) 26)).alloc (.cells (cv zeroC) 26)) (w.heap.size + 1) 26 (cv zeroC) := Blk.new2 _ _ _ _
  have F := (((Fr.refl Nil w).alloc (.cells (cv c) 26)).alloc (.cells (cv zeroC) 26))
  have hne : w.heap.size + 1 ≠ w.heap.size := by omega
  generalize (w.alloc (.cells (cv c) 26)).alloc (.cells (cv zeroC) 26) = w2 at *
  generalize hg : w.heap.size = g at *
  generalize hg1 : g + 1 = g1 at *
  have hle : w.heap.size ≤ g := by omega
  have d : w2.cell? ⟨g, 42, none⟩ = some (.int .u64 c.Esr) := hb.cellv (cv_42 c)
  have f : w2.frozen? ⟨g, 42, none⟩ = false := hb.frozen _
  have H1 := blk_setEsr hb (v % 4294967296)
  have H2 := Blk.farc (b := g) (i := 42) hr hne (.int .u64 (v % 4294967296))
  have H3 := Fr.setNew (g := g) (i := 42) F hle (.int .u64 (v % 4294967296))
  go_upto_region 21 with fail
  generalize w2.setCell ⟨g, 42, none⟩ (.int .u64 (v % 4294967296)) = w3 at *
  clear d f
  go_wp2_with (first
    | (refine wpList_load_blk rfl 26 (.tmp 3) rfl g rfl _ H1 Try.underlying26 rfl info26 ?_)
    | (refine wpList_store_blk0 rfl 26 (.tmp 6) (.tmp 55) rfl g1 rfl (cv { c with Esr := v % 4294967296 }) rfl H2 info26 rfl (one_cv _) ?_; intro w5 hf5 hb5))
  refine bodyPost_ret (results_cell_tmp (p := 6) (q := 7) (ty := 26) rfl _ _ g1 (cv { c with Esr := v % 4294967296 }) _ rfl hb5 Try.underlying26 rfl info26) rfl ?_
  exact ⟨rfl, H3.own1 hf5 (by omega)⟩
set_option maxHeartbeats 2000000 in
theorem rset_far (c : Cr) (v : Int) (w : World) (h0 : 0 ≤ v) (h1 : v ≤ 18446744073709551615) : Calls Try.prog 28 #[.agg (cv c), .int .i64 17152, .int .u64 v] w fun e w' => e = .returned (.tuple #[.agg (cv { c with Far := v }), .bool true]) ∧ Fr Nil w w' := by
  go_enter Try.func28, Try.ntmps28
  go_upto_region 1 with fail
  have hb : Blk ((w.alloc (.cells (cv c) 26)).alloc (.cells (cv zeroC) 26)) w.heap.size 26 (cv c) := Blk.alloc (Blk.new _ _ _) _
  have hr : Blk ((w.alloc (.cells (cv c) 26)).alloc (.cells (cv zeroC) 26)) (w.heap.size + 1) 26 (cv zeroC) := Blk.new2 _ _ _ _
  have F := (((Fr.refl Nil w).alloc (.cells (cv c) 26)).alloc (.cells (cv zeroC) 26))
  have hne : w.heap.size + 1 ≠ w.heap.size := by omega
  generalize (w.alloc (.cells (cv c) 26)).alloc (.cells (cv zeroC) 26) = w2 at *
  generalize hg : w.heap.size = g at *
  generalize hg1 : g + 1 = g1 at *
  have hle : w.heap.size ≤ g := by omega
  have d : w2.cell? ⟨g, 43, none⟩ = some (.int .u64 c.Far) := hb.cellv (cv_43 c)
  have f : w2.frozen? ⟨g, 43, none⟩ = false := hb.frozen _
  have H1 := blk_setFar hb (v)
  have H2 := Blk.farc (b := g) (i := 43) hr hne (.int .u64 (v))
  have H3 := Fr.setNew (g := g) (i := 43) F hle (.int .u64 (v))
  go_upto_region 21 with fail
  generalize w2.setCell ⟨g, 43, none⟩ (.int .u64 (v)) = w3 at *
  clear d f
  go_wp2_with (first
    | (refine wpList_load_blk rfl 26 (.tmp 3) rfl g rfl _ H1 Try.underlying26 rfl info26 ?_)
    | (refine wpList_store_blk0 rfl 26 (.tmp 6) (.tmp 55) rfl g1 rfl (cv { c with Far := v }) rfl H2 info26 rfl (one_cv _) ?_; intro w5 hf5 hb5))
  refine bodyPost_ret (results_cell_tmp (p := 6) (q := 7) (ty := 26) rfl _ _ g1 (cv { c with Far := v }) _ rfl hb5 Try.underlying26 rfl info26) rfl ?_
  exact ⟨rfl, H3.own1 hf5 (by omega)⟩
set_option maxHeartbeats 2000000 in
theorem rset_sp0 (c : Cr) (v : Int) (w : World) (h0 : 0 ≤ v) (h1 : v ≤ 18446744073709551615) : Calls Try.prog 28 #[.agg (cv c), .int .i64 16904, .int .u64 v] w fun e w' => e = .returned (.tuple #[.agg (cv { c with S0 := v }), .bool true]) ∧ Fr Nil w w' := by
  go_enter Try.func28, Try.ntmps28
  go_upto_region 1 with fail
  have hb : Blk ((w.alloc (.cells (cv c) 26)).alloc (.cells (cv zeroC) 26)) w.heap.size 26 (cv c) := Blk.alloc (Blk.new _ _ _) _
  have hr : Blk ((w.alloc (.cells (cv c) 26)).alloc (.cells (cv zeroC) 26)) (w.heap.size + 1) 26 (cv zeroC) := Blk.new2 _ _ _ _
  have F := (((Fr.refl Nil w).alloc (.cells (cv c) 26)).alloc (.cells (cv zeroC) 26))
  have hne : w.heap.size + 1 ≠ w.heap.size := by omega
  generalize (w.alloc (.cells (cv c) 26)).alloc (.cells (cv zeroC) 26) = w2 at *
  generalize hg : w.heap.size = g at *
  generalize hg1 : g + 1 = g1 at *
  have hle : w.heap.size ≤ g := by omega
  have d : w2.cell? ⟨g, 31, none⟩ = some (.int .u64 c.S0) := hb.cellv (cv_31 c)
  have f : w2.frozen? ⟨g, 31, none⟩ = false := hb.frozen _
  have H1 := blk_setS0 hb (v)
  have H2 := Blk.farc (b := g) (i := 31) hr hne (.int .u64 (v))
  have H3 := Fr.setNew (g := g) (i := 31) F hle (.int .u64 (v))
  go_upto_region 21 with fail
  generalize w2.setCell ⟨g, 31, none⟩ (.int .u64 (v)) = w3 at *
  clear d f
  go_wp2_with (first
    | (refine wpList_load_blk rfl 26 (.tmp 3) rfl g rfl _ H1 Try.underlying26 rfl info26 ?_)
    | (refine wpList_store_blk0 rfl 26 (.tmp 6) (.tmp 55) rfl g1 rfl (cv { c with S0 := v }) rfl H2 info26 rfl (one_cv _) ?_; intro w5 hf5 hb5))
  refine bodyPost_ret (results_cell_tmp (p := 6) (q := 7) (ty := 26) rfl _ _ g1 (cv { c with S0 := v }) _ rfl hb5 Try.underlying26 rfl info26) rfl ?_
  exact ⟨rfl, H3.own1 hf5 (by omega)⟩
set_option maxHeartbeats 2000000 in
theorem rset_tpidr (c : Cr) (v : Int) (w : World) (h0 : 0 ≤ v) (h1 : v ≤ 18446744073709551615) : Calls Try.prog 28 #[.agg (cv c), .int .i64 24194, .int .u64 v] w fun e w' => e = .returned (.tuple #[.agg (cv { c with Tpidr := v }), .bool true]) ∧ Fr Nil w w' := by
  go_enter Try.func28, Try.ntmps28
  go_upto_region 1 with fail
  have hb : Blk ((w.alloc (.cells (cv c) 26)).alloc (.cells (cv zeroC) 26)) w.heap.size 26 (cv c) := Blk.alloc (Blk.new _ _ _) _
  have hr : Blk ((w.alloc (.cells (cv c) 26)).alloc (.cells (cv zeroC) 26)) (w.heap.size + 1) 26 (cv zeroC) := Blk.new2 _ _ _ _
  have F := (((Fr.refl Nil w).alloc (.cells (cv c) 26)).alloc (.cells (cv zeroC) 26))
  have hne : w.heap.size + 1 ≠ w.heap.size := by omega
  generalize (w.alloc (.cells (cv c) 26)).alloc (.cells (cv zeroC) 26) = w2 at *
  generalize hg : w.heap.size = g at *
  generalize hg1 : g + 1 = g1 at *
  have hle : w.heap.size ≤ g := by omega
  have d : w2.cell? ⟨g, 45, none⟩ = some (.int .u64 c.Tpidr) := hb.cellv (cv_45 c)
  have f : w2.frozen? ⟨g, 45, none⟩ = false := hb.frozen _
  have H1 := blk_setTpidr hb (v)
  have H2 := Blk.farc (b := g) (i := 45) hr hne (.int .u64 (v))
  have H3 := Fr.setNew (g := g) (i := 45) F hle (.int .u64 (v))
  go_upto_region 21 with fail
  generalize w2.setCell ⟨g, 45, none⟩ (.int .u64 (v)) = w3 at *
  clear d f
  go_wp2_with (first
    | (refine wpList_load_blk rfl 26 (.tmp 3) rfl g rfl _ H1 Try.underlying26 rfl info26 ?_)
    | (refine wpList_store_blk0 rfl 26 (.tmp 6) (.tmp 55) rfl g1 rfl (cv { c with Tpidr := v }) rfl H2 info26 rfl (one_cv _) ?_; intro w5 hf5 hb5))
  refine bodyPost_ret (results_cell_tmp (p := 6) (q := 7) (ty := 26) rfl _ _ g1 (cv { c with Tpidr := v }) _ rfl hb5 Try.underlying26 rfl info26) rfl ?_
  exact ⟨rfl, H3.own1 hf5 (by omega)⟩
set_option maxHeartbeats 2000000 in
theorem rset_daif (c : Cr) (v : Int) (w : World) (h0 : 0 ≤ v) (h1 : v ≤ 18446744073709551615) : Calls Try.prog 28 #[.agg (cv c), .int .i64 23057, .int .u64 v] w fun e w' => e = .returned (.tuple #[.agg (cv { c with M := v / 128 % 2 == 1 }), .bool true]) ∧ Fr Nil w w' := by
  go_enter Try.func28, Try.ntmps28
  go_upto_region 1 with fail
  have hb : Blk ((w.alloc (.cells (cv c) 26)).alloc (.cells (cv zeroC) 26)) w.heap.size 26 (cv c) := Blk.alloc (Blk.new _ _ _) _
  have hr : Blk ((w.alloc (.cells (cv c) 26)).alloc (.cells (cv zeroC) 26)) (w.heap.size + 1) 26 (cv zeroC) := Blk.new2 _ _ _ _
  have F := (((Fr.refl Nil w).alloc (.cells (cv c) 26)).alloc (.cells (cv zeroC) 26))
  have hne : w.heap.size + 1 ≠ w.heap.size := by omega
  generalize (w.alloc (.cells (cv c) 26)).alloc (.cells (cv zeroC) 26) = w2 at *
  generalize hg : w.heap.size = g at *
  generalize hg1 : g + 1 = g1 at *
  have hle : w.heap.size ≤ g := by omega
  have d : w2.cell? ⟨g, 39, none⟩ = some (.bool c.M) := hb.cellv (cv_39 c)
  have f : w2.frozen? ⟨g, 39, none⟩ = false := hb.frozen _
  have H1 := blk_setM hb (v / 128 % 2 == 1)
  have H2 := Blk.farc (b := g) (i := 39) hr hne (.bool (v / 128 % 2 == 1))
  have H3 := Fr.setNew (g := g) (i := 39) F hle (.bool (v / 128 % 2 == 1))
  go_upto_region 21 with fail
  generalize w2.setCell ⟨g, 39, none⟩ (.bool (v / 128 % 2 == 1)) = w3 at *
  clear d f
  go_wp2_with (first
    | (refine wpList_load_blk rfl 26 (.tmp 3) rfl g rfl _ H1 Try.underlying26 rfl info26 ?_)
    | (refine wpList_store_blk0 rfl 26 (.tmp 6) (.tmp 55) rfl g1 rfl (cv { c with M := v / 128 % 2 == 1 }) rfl H2 info26 rfl (one_cv _) ?_; intro w5 hf5 hb5))
  refine bodyPost_ret (results_cell_tmp (p := 6) (q := 7) (ty := 26) rfl _ _ g1 (cv { c with M := v / 128 % 2 == 1 }) _ rfl hb5 Try.underlying26 rfl info26) rfl ?_
  exact ⟨rfl, H3.own1 hf5 (by omega)⟩
set_option maxHeartbeats 2000000 in
theorem rset_nzcv (c : Cr) (v : Int) (w : World) (h0 : 0 ≤ v) (h1 : v ≤ 18446744073709551615) : Calls Try.prog 28 #[.agg (cv c), .int .i64 23056, .int .u64 v] w fun e w' => e = .returned (.tuple #[.agg (cv (setR c v)), .bool true]) ∧ Fr Nil w w' := by
  go_enter Try.func28, Try.ntmps28
  go_upto_region 1 with fail
  have hb : Blk ((w.alloc (.cells (cv c) 26)).alloc (.cells (cv zeroC) 26)) w.heap.size 26 (cv c) := Blk.alloc (Blk.new _ _ _) _
  have hr : Blk ((w.alloc (.cells (cv c) 26)).alloc (.cells (cv zeroC) 26)) (w.heap.size + 1) 26 (cv zeroC) := Blk.new2 _ _ _ _
  have F := (((Fr.refl Nil w).alloc (.cells (cv c) 26)).alloc (.cells (cv zeroC) 26))
  have hne : w.heap.size + 1 ≠ w.heap.size := by omega
  generalize (w.alloc (.cells (cv c) 26)).alloc (.cells (cv zeroC) 26) = w2 at *
  generalize hg : w.heap.size = g at *
  generalize hg1 : g + 1 = g1 at *
  have hle : w.heap.size ≤ g := by omega
  go_wp2_with (refine wpList_load_blk rfl 26 (.tmp 3) rfl g rfl _ hb Try.underlying26 rfl info26 ?_)
  refine (rsetnzcv_ok _ _ _ h0 h1).mono ?_
  rintro e w3 ⟨rfl, hf3⟩
  have hb3 := Blk.fr0 hb hf3
  have hr3 := Blk.fr0 hr hf3
  have F3 := F.trans hf3
  clear hf3 hr F hb
  go_upto_region 21 with (refine wpList_store_blk0 rfl 26 (.tmp 3) (.tmp 47) rfl g rfl (cv (setR c v)) rfl hb3 info26 rfl (one_cv _) ?_; intro w4 hf4 H1)
  have H2 := Blk.fr1 hr3 hf4 hne
  have H3 := F3.own1 hf4 hle
  clear hf4 hr3 F3 hb3
  go_wp2_with (first
    | (refine wpList_load_blk rfl 26 (.tmp 3) rfl g rfl _ H1 Try.underlying26 rfl info26 ?_)
    | (refine wpList_store_blk0 rfl 26 (.tmp 6) (.tmp 55) rfl g1 rfl (cv (setR c v)) rfl H2 info26 rfl (one_cv _) ?_; intro w5 hf5 hb5))
  refine bodyPost_ret (results_cell_tmp (p := 6) (q := 7) (ty := 26) rfl _ _ g1 (cv (setR c v)) _ rfl hb5 Try.underlying26 rfl info26) rfl ?_
  exact ⟨rfl, H3.own1 hf5 (by omega)⟩
set_option maxHeartbeats 2000000 in
theorem rset_no (c : Cr) (sys v : Int) (w : World) (hp : noPlace sys) (h : noSet sys) : Calls Try.prog 28 #[.agg (cv c), .int .i64 sys, .int .u64 v] w fun e w' => e = .returned (.tuple #[.agg (cv zeroC), .bool false]) ∧ Fr Nil w w' := by
  obtain ⟨n1, n2⟩ := h
  obtain ⟨p1, p2, p3, p4, p5, p6, p7⟩ := hp
  go_enter Try.func28, Try.ntmps28
  go_upto_region 1 with fail
  have hb : Blk ((w.alloc (.cells (cv c) 26)).alloc (.cells (cv zeroC) 26)) w.heap.size 26 (cv c) := Blk.alloc (Blk.new _ _ _) _
  have hr : Blk ((w.alloc (.cells (cv c) 26)).alloc (.cells (cv zeroC) 26)) (w.heap.size + 1) 26 (cv zeroC) := Blk.new2 _ _ _ _
  have F := (((Fr.refl Nil w).alloc (.cells (cv c) 26)).alloc (.cells (cv zeroC) 26))
  have hne : w.heap.size + 1 ≠ w.heap.size := by omega
  generalize (w.alloc (.cells (cv c) 26)).alloc (.cells (cv zeroC) 26) = w2 at *
  generalize hg : w.heap.size = g at *
  generalize hg1 : g + 1 = g1 at *
  have hle : w.heap.size ≤ g := by omega
  go_wp2_with (refine wpList_store_blk0 rfl 26 (.tmp 6) (.tmp 9) rfl g1 rfl (cv zeroC) rfl hr info26 rfl (one_cv _) ?_; intro w5 hf5 hb5)
  refine bodyPost_ret (results_cell_tmp (p := 6) (q := 7) (ty := 26) rfl _ _ g1 (cv zeroC) _ rfl hb5 Try.underlying26 rfl info26) rfl ?_
  exact ⟨rfl, F.own1 hf5 (by omega)⟩
end Go.Proofs.Ytiaflkabnaofpaa
