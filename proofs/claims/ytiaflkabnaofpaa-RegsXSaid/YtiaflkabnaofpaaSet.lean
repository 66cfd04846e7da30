/- Contracts of regs.Set. -/
import Derived.Test.YtiaflkabnaofpaaRegs5
import Derived.Test.YtiaflkabnaofpaaRegs4
namespace Go.Proofs.Ytiaflkabnaofpaa
open Go.RowKit
set_option linter.unusedVariables false
attribute [local go_sem] fold0

theorem blk_setPC {w : World} {g : Nat} {c : Cr} (h : Blk w g 26 (cv c)) (v : Int) : Blk (w.setCell ⟨g, 33, none⟩ (.int .u64 v)) g 26 (cv { c with PC := v }) := (Blk.set_ h 33 _).cast (cv_setPC c v)
theorem blk_setEL {w : World} {g : Nat} {c : Cr} (h : Blk w g 26 (cv c)) (v : Int) : Blk (w.setCell ⟨g, 38, none⟩ (.int .i64 v)) g 26 (cv { c with EL := v }) := (Blk.set_ h 38 _).cast (cv_setEL c v)
theorem blk_setM {w : World} {g : Nat} {c : Cr} (h : Blk w g 26 (cv c)) (v : Bool) : Blk (w.setCell ⟨g, 39, none⟩ (.bool v)) g 26 (cv { c with M := v }) := (Blk.set_ h 39 _).cast (cv_setM c v)
theorem blk_setSpsr {w : World} {g : Nat} {c : Cr} (h : Blk w g 26 (cv c)) (v : Int) : Blk (w.setCell ⟨g, 40, none⟩ (.int .u64 v)) g 26 (cv { c with Spsr := v }) := (Blk.set_ h 40 _).cast (cv_setSpsr c v)
theorem blk_setElr {w : World} {g : Nat} {c : Cr} (h : Blk w g 26 (cv c)) (v : Int) : Blk (w.setCell ⟨g, 41, none⟩ (.int .u64 v)) g 26 (cv { c with Elr := v }) := (Blk.set_ h 41 _).cast (cv_setElr c v)
theorem blk_setEsr {w : World} {g : Nat} {c : Cr} (h : Blk w g 26 (cv c)) (v : Int) : Blk (w.setCell ⟨g, 42, none⟩ (.int .u64 v)) g 26 (cv { c with Esr := v }) := (Blk.set_ h 42 _).cast (cv_setEsr c v)
theorem blk_setFar {w : World} {g : Nat} {c : Cr} (h : Blk w g 26 (cv c)) (v : Int) : Blk (w.setCell ⟨g, 43, none⟩ (.int .u64 v)) g 26 (cv { c with Far := v }) := (Blk.set_ h 43 _).cast (cv_setFar c v)
theorem blk_setVbar {w : World} {g : Nat} {c : Cr} (h : Blk w g 26 (cv c)) (v : Int) : Blk (w.setCell ⟨g, 44, none⟩ (.int .u64 v)) g 26 (cv { c with Vbar := v }) := (Blk.set_ h 44 _).cast (cv_setVbar c v)
theorem blk_setTpidr {w : World} {g : Nat} {c : Cr} (h : Blk w g 26 (cv c)) (v : Int) : Blk (w.setCell ⟨g, 45, none⟩ (.int .u64 v)) g 26 (cv { c with Tpidr := v }) := (Blk.set_ h 45 _).cast (cv_setTpidr c v)
set_option maxHeartbeats 2000000 in
theorem set_vbar (c : Cr) (v : Int) (w : World) : Calls Try.prog 27 #[.agg (cv c), .int .i64 17920, .int .u64 v] w fun e w' => e = .returned (.tuple #[.agg (cv { c with Vbar := bits .andNot .u64 v 2047 }), .bool true]) ∧ Fr Nil w w' := by
  go_enter Try.func27, Try.ntmps27
  go_upto_region 1 with fail
  have hb : Blk ((w.alloc (.cells (cv c) 26)).alloc (.cells (cv zeroC) 26)) w.heap.size 26 (cv c) := Blk.alloc (Blk.new _ _ _) _
  have hr : Blk ((w.alloc (.cells (cv c) 26)).alloc (.cells (cv zeroC) 26)) (w.heap.size + 1) 26 (cv zeroC) := Blk.new2 _ _ _ _
  have F := (((Fr.refl Nil w).alloc (.cells (cv c) 26)).alloc (.cells (cv zeroC) 26))
  have hne : w.heap.size + 1 ≠ w.heap.size := by omega
  generalize (w.alloc (.cells (cv c) 26)).alloc (.cells (cv zeroC) 26) = w2 at *
  generalize hg : w.heap.size = g at *
  generalize hg1 : g + 1 = g1 at *
  have hle : w.heap.size ≤ g := by omega
  have d : w2.cell? ⟨g, 44, none⟩ = some (.int .u64 c.Vbar) := hb.cellv (cv_44 c)
  have f : w2.frozen? ⟨g, 44, none⟩ = false := hb.frozen _
  have H1 := blk_setVbar hb (bits .andNot .u64 v 2047)
  have H2 := Blk.farc (b := g) (i := 44) hr hne (.int .u64 (bits .andNot .u64 v 2047))
  have H3 := Fr.setNew (g := g) (i := 44) F hle (.int .u64 (bits .andNot .u64 v 2047))
  go_wp2_with fail
  refine (place_vbar _ _).mono ?_
  rintro e w3 ⟨rfl, rfl⟩
  go_upto_region 15 with fail
  generalize w2.setCell ⟨g, 44, none⟩ (.int .u64 (bits .andNot .u64 v 2047)) = w3 at *
  clear d f
  go_wp2_with (first
    | (refine wpList_load_blk rfl 26 (.tmp 3) rfl g rfl _ H1 Try.underlying26 rfl info26 ?_)
    | (refine wpList_store_blk0 rfl 26 (.tmp 6) (.tmp 38) rfl g1 rfl (cv { c with Vbar := bits .andNot .u64 v 2047 }) rfl H2 info26 rfl (one_cv _) ?_; intro w5 hf5 hb5))
  refine bodyPost_ret (results_cell_tmp (p := 6) (q := 7) (ty := 26) rfl _ _ g1 (cv { c with Vbar := bits .andNot .u64 v 2047 }) _ rfl hb5 Try.underlying26 rfl info26) rfl ?_
  exact ⟨rfl, H3.own1 hf5 (by omega)⟩
set_option maxHeartbeats 2000000 in
theorem set_elr (c : Cr) (v : Int) (w : World) : Calls Try.prog 27 #[.agg (cv c), .int .i64 16897, .int .u64 v] w fun e w' => e = .returned (.tuple #[.agg (cv { c with Elr := v }), .bool true]) ∧ Fr Nil w w' := by
  go_enter Try.func27, Try.ntmps27
  go_upto_region 1 with fail
  have hb : Blk ((w.alloc (.cells (cv c) 26)).alloc (.cells (cv zeroC) 26)) w.heap.size 26 (cv c) := Blk.alloc (Blk.new _ _ _) _
  have hr : Blk ((w.alloc (.cells (cv c) 26)).alloc (.cells (cv zeroC) 26)) (w.heap.size + 1) 26 (cv zeroC) := Blk.new2 _ _ _ _
  have F := (((Fr.refl Nil w).alloc (.cells (cv c) 26)).alloc (.cells (cv zeroC) 26))
  have hne : w.heap.size + 1 ≠ w.heap.size := by omega
  generalize (w.alloc (.cells (cv c) 26)).alloc (.cells (cv zeroC) 26) = w2 at *
  generalize hg : w.heap.size = g at *
  generalize hg1 : g + 1 = g1 at *
  have hle : w.heap.size ≤ g := by omega
  have d : w2.cell? ⟨g, 41, none⟩ = some (.int .u64 c.Elr) := hb.cellv (cv_41 c)
  have f : w2.frozen? ⟨g, 41, none⟩ = false := hb.frozen _
  have H1 := blk_setElr hb (v)
  have H2 := Blk.farc (b := g) (i := 41) hr hne (.int .u64 (v))
  have H3 := Fr.setNew (g := g) (i := 41) F hle (.int .u64 (v))
  go_wp2_with fail
  refine (place_elr _ _).mono ?_
  rintro e w3 ⟨rfl, rfl⟩
  go_upto_region 15 with fail
  generalize w2.setCell ⟨g, 41, none⟩ (.int .u64 (v)) = w3 at *
  clear d f
  go_wp2_with (first
    | (refine wpList_load_blk rfl 26 (.tmp 3) rfl g rfl _ H1 Try.underlying26 rfl info26 ?_)
    | (refine wpList_store_blk0 rfl 26 (.tmp 6) (.tmp 38) rfl g1 rfl (cv { c with Elr := v }) rfl H2 info26 rfl (one_cv _) ?_; intro w5 hf5 hb5))
  refine bodyPost_ret (results_cell_tmp (p := 6) (q := 7) (ty := 26) rfl _ _ g1 (cv { c with Elr := v }) _ rfl hb5 Try.underlying26 rfl info26) rfl ?_
  exact ⟨rfl, H3.own1 hf5 (by omega)⟩
set_option maxHeartbeats 2000000 in
theorem set_spsr (c : Cr) (v : Int) (w : World) : Calls Try.prog 27 #[.agg (cv c), .int .i64 16896, .int .u64 v] w fun e w' => e = .returned (.tuple #[.agg (cv { c with Spsr := v }), .bool true]) ∧ Fr Nil w w' := by
  go_enter Try.func27, Try.ntmps27
  go_upto_region 1 with fail
  have hb : Blk ((w.alloc (.cells (cv c) 26)).alloc (.cells (cv zeroC) 26)) w.heap.size 26 (cv c) := Blk.alloc (Blk.new _ _ _) _
  have hr : Blk ((w.alloc (.cells (cv c) 26)).alloc (.cells (cv zeroC) 26)) (w.heap.size + 1) 26 (cv zeroC) := Blk.new2 _ _ _ _
  have F := (((Fr.refl Nil w).alloc (.cells (cv c) 26)).alloc (.cells (cv zeroC) 26))
  have hne : w.heap.size + 1 ≠ w.heap.size := by omega
  generalize (w.alloc (.cells (cv c) 26)).alloc (.cells (cv zeroC) 26) = w2 at *
  generalize hg : w.heap.size = g at *
  generalize hg1 : g + 1 = g1 at *
  have hle : w.heap.size ≤ g := by omega
  have d : w2.cell? ⟨g, 40, none⟩ = some (.int .u64 c.Spsr) := hb.cellv (cv_40 c)
  have f : w2.frozen? ⟨g, 40, none⟩ = false := hb.frozen _
  have H1 := blk_setSpsr hb (v)
  have H2 := Blk.farc (b := g) (i := 40) hr hne (.int .u64 (v))
  have H3 := Fr.setNew (g := g) (i := 40) F hle (.int .u64 (v))
  go_wp2_with fail
  refine (place_spsr _ _).mono ?_
  rintro e w3 ⟨rfl, rfl⟩
  go_upto_region 15 with fail
  generalize w2.setCell ⟨g, 40, none⟩ (.int .u64 (v)) = w3 at *
  clear d f
  go_wp2_with (first
    | (refine wpList_load_blk rfl 26 (.tmp 3) rfl g rfl _ H1 Try.underlying26 rfl info26 ?_)
    | (refine wpList_store_blk0 rfl 26 (.tmp 6) (.tmp 38) rfl g1 rfl (cv { c with Spsr := v }) rfl H2 info26 rfl (one_cv _) ?_; intro w5 hf5 hb5))
  refine bodyPost_ret (results_cell_tmp (p := 6) (q := 7) (ty := 26) rfl _ _ g1 (cv { c with Spsr := v }) _ rfl hb5 Try.underlying26 rfl info26) rfl ?_
  exact ⟨rfl, H3.own1 hf5 (by omega)⟩
set_option maxHeartbeats 2000000 in
theorem set_esr (c : Cr) (v : Int) (w : World) : Calls Try.prog 27 #[.agg (cv c), .int .i64 17040, .int .u64 v] w fun e w' => e = .returned (.tuple #[.agg (cv { c with Esr := bits .and .u64 v 4294967295 }), .bool true]) ∧ Fr Nil w w' := by
  go_enter Try.func27, Try.ntmps27
  go_upto_region 1 with fail
  have hb : Blk ((w.alloc (.cells (cv c) 26)).alloc (.cells (cv zeroC) 26)) w.heap.size 26 (cv c) := Blk.alloc (Blk.new _ _ _) _
  have hr : Blk ((w.alloc (.cells (cv c) 26)).alloc (.cells (cv zeroC) 26)) (w.heap.size + 1) 26 (cv zeroC) := Blk.new2 _ _ _ _
  have F := (((Fr.refl Nil w).alloc (.cells (cv c) 26)).alloc (.cells (cv zeroC) 26))
  have hne : w.heap.size + 1 ≠ w.heap.size := by omega
  generalize (w.alloc (.cells (cv c) 26)).alloc (.cells (cv zeroC) 26) = w2 at *
  generalize hg : w.heap.size = g at *
  generalize hg1 : g + 1 = g1 at *
  have hle : w.heap.size ≤ g := by omega
  have d : w2.cell? ⟨g, 42, none⟩ = some (.int .u64 c.Esr) := hb.cellv (cv_42 c)
  have f : w2.frozen? ⟨g, 42, none⟩ = false := hb.frozen _
  have H1 := blk_setEsr hb (bits .and .u64 v 4294967295)
  have H2 := Blk.farc (b := g) (i := 42) hr hne (.int .u64 (bits .and .u64 v 4294967295))
  have H3 := Fr.setNew (g := g) (i := 42) F hle (.int .u64 (bits .and .u64 v 4294967295))
  go_wp2_with fail
  refine (place_esr _ _).mono ?_
  rintro e w3 ⟨rfl, rfl⟩
  go_upto_region 15 with fail
  generalize w2.setCell ⟨g, 42, none⟩ (.int .u64 (bits .and .u64 v 4294967295)) = w3 at *
  clear d f
  go_wp2_with (first
    | (refine wpList_load_blk rfl 26 (.tmp 3) rfl g rfl _ H1 Try.underlying26 rfl info26 ?_)
    | (refine wpList_store_blk0 rfl 26 (.tmp 6) (.tmp 38) rfl g1 rfl (cv { c with Esr := bits .and .u64 v 4294967295 }) rfl H2 info26 rfl (one_cv _) ?_; intro w5 hf5 hb5))
  refine bodyPost_ret (results_cell_tmp (p := 6) (q := 7) (ty := 26) rfl _ _ g1 (cv { c with Esr := bits .and .u64 v 4294967295 }) _ rfl hb5 Try.underlying26 rfl info26) rfl ?_
  exact ⟨rfl, H3.own1 hf5 (by omega)⟩
set_option maxHeartbeats 2000000 in
theorem set_far (c : Cr) (v : Int) (w : World) : Calls Try.prog 27 #[.agg (cv c), .int .i64 17152, .int .u64 v] w fun e w' => e = .returned (.tuple #[.agg (cv { c with Far := v }), .bool true]) ∧ Fr Nil w w' := by
  go_enter Try.func27, Try.ntmps27
  go_upto_region 1 with fail
  have hb : Blk ((w.alloc (.cells (cv c) 26)).alloc (.cells (cv zeroC) 26)) w.heap.size 26 (cv c) := Blk.alloc (Blk.new _ _ _) _
  have hr : Blk ((w.alloc (.cells (cv c) 26)).alloc (.cells (cv zeroC) 26)) (w.heap.size + 1) 26 (cv zeroC) := Blk.new2 _ _ _ _
  have F := (((Fr.refl Nil w).alloc (.cells (cv c) 26)).alloc (.cells (cv zeroC) 26))
  have hne : w.heap.size + 1 ≠ w.heap.size := by omega
  generalize (w.alloc (.cells (cv c) 26)).alloc (.cells (cv zeroC) 26) = w2 at *
  generalize hg : w.heap.size = g at *
  generalize hg1 : g + 1 = g1 at *
  have hle : w.heap.size ≤ g := by omega
  have d : w2.cell? ⟨g, 43, none⟩ = some (.int .u64 c.Far) := hb.cellv (cv_43 c)
  have f : w2.frozen? ⟨g, 43, none⟩ = false := hb.frozen _
  have H1 := blk_setFar hb (v)
  have H2 := Blk.farc (b := g) (i := 43) hr hne (.int .u64 (v))
  have H3 := Fr.setNew (g := g) (i := 43) F hle (.int .u64 (v))
  go_wp2_with fail
  refine (place_far _ _).mono ?_
  rintro e w3 ⟨rfl, rfl⟩
  go_upto_region 15 with fail
  generalize w2.setCell ⟨g, 43, none⟩ (.int .u64 (v)) = w3 at *
  clear d f
  go_wp2_with (first
    | (refine wpList_load_blk rfl 26 (.tmp 3) rfl g rfl _ H1 Try.underlying26 rfl info26 ?_)
    | (refine wpList_store_blk0 rfl 26 (.tmp 6) (.tmp 38) rfl g1 rfl (cv { c with Far := v }) rfl H2 info26 rfl (one_cv _) ?_; intro w5 hf5 hb5))
  refine bodyPost_ret (results_cell_tmp (p := 6) (q := 7) (ty := 26) rfl _ _ g1 (cv { c with Far := v }) _ rfl hb5 Try.underlying26 rfl info26) rfl ?_
  exact ⟨rfl, H3.own1 hf5 (by omega)⟩
set_option maxHeartbeats 2000000 in
theorem set_sp0 (c : Cr) (v : Int) (w : World) : Calls Try.prog 27 #[.agg (cv c), .int .i64 16904, .int .u64 v] w fun e w' => e = .returned (.tuple #[.agg (cv { c with S0 := v }), .bool true]) ∧ Fr Nil w w' := by
  go_enter Try.func27, Try.ntmps27
  go_upto_region 1 with fail
  have hb : Blk ((w.alloc (.cells (cv c) 26)).alloc (.cells (cv zeroC) 26)) w.heap.size 26 (cv c) := Blk.alloc (Blk.new _ _ _) _
  have hr : Blk ((w.alloc (.cells (cv c) 26)).alloc (.cells (cv zeroC) 26)) (w.heap.size + 1) 26 (cv zeroC) := Blk.new2 _ _ _ _
  have F := (((Fr.refl Nil w).alloc (.cells (cv c) 26)).alloc (.cells (cv zeroC) 26))
  have hne : w.heap.size + 1 ≠ w.heap.size := by omega
  generalize (w.alloc (.cells (cv c) 26)).alloc (.cells (cv zeroC) 26) = w2 at *
  generalize hg : w.heap.size = g at *
  generalize hg1 : g + 1 = g1 at *
  have hle : w.heap.size ≤ g := by omega
  have d : w2.cell? ⟨g, 31, none⟩ = some (.int .u64 c.S0) := hb.cellv (cv_31 c)
  have f : w2.frozen? ⟨g, 31, none⟩ = false := hb.frozen _
  have H1 := blk_setS0 hb (v)
  have H2 := Blk.farc (b := g) (i := 31) hr hne (.int .u64 (v))
  have H3 := Fr.setNew (g := g) (i := 31) F hle (.int .u64 (v))
  go_wp2_with fail
  refine (place_sp0 _ _).mono ?_
  rintro e w3 ⟨rfl, rfl⟩
  go_upto_region 15 with fail
  generalize w2.setCell ⟨g, 31, none⟩ (.int .u64 (v)) = w3 at *
  clear d f
  go_wp2_with (first
    | (refine wpList_load_blk rfl 26 (.tmp 3) rfl g rfl _ H1 Try.underlying26 rfl info26 ?_)
    | (refine wpList_store_blk0 rfl 26 (.tmp 6) (.tmp 38) rfl g1 rfl (cv { c with S0 := v }) rfl H2 info26 rfl (one_cv _) ?_; intro w5 hf5 hb5))
  refine bodyPost_ret (results_cell_tmp (p := 6) (q := 7) (ty := 26) rfl _ _ g1 (cv { c with S0 := v }) _ rfl hb5 Try.underlying26 rfl info26) rfl ?_
  exact ⟨rfl, H3.own1 hf5 (by omega)⟩
set_option maxHeartbeats 2000000 in
theorem set_tpidr (c : Cr) (v : Int) (w : World) : Calls Try.prog 27 #[.agg (cv c), .int .i64 24194, .int .u64 v] w fun e w' => e = .returned (.tuple #[.agg (cv { c with Tpidr := v }), .bool true]) ∧ Fr Nil w w' := by
  go_enter Try.func27, Try.ntmps27
  go_upto_region 1 with fail
  have hb : Blk ((w.alloc (.cells (cv c) 26)).alloc (.cells (cv zeroC) 26)) w.heap.size 26 (cv c) := Blk.alloc (Blk.new _ _ _) _
  have hr : Blk ((w.alloc (.cells (cv c) 26)).alloc (.cells (cv zeroC) 26)) (w.heap.size + 1) 26 (cv zeroC) := Blk.new2 _ _ _ _
  have F := (((Fr.refl Nil w).alloc (.cells (cv c) 26)).alloc (.cells (cv zeroC) 26))
  have hne : w.heap.size + 1 ≠ w.heap.size := by omega
  generalize (w.alloc (.cells (cv c) 26)).alloc (.cells (cv zeroC) 26) = w2 at *
  generalize hg : w.heap.size = g at *
  generalize hg1 : g + 1 = g1 at *
  have hle : w.heap.size ≤ g := by omega
  have d : w2.cell? ⟨g, 45, none⟩ = some (.int .u64 c.Tpidr) := hb.cellv (cv_45 c)
  have f : w2.frozen? ⟨g, 45, none⟩ = false := hb.frozen _
  have H1 := blk_setTpidr hb (v)
  have H2 := Blk.farc (b := g) (i := 45) hr hne (.int .u64 (v))
  have H3 := Fr.setNew (g := g) (i := 45) F hle (.int .u64 (v))
  go_wp2_with fail
  refine (place_tpidr _ _).mono ?_
  rintro e w3 ⟨rfl, rfl⟩
  go_upto_region 15 with fail
  generalize w2.setCell ⟨g, 45, none⟩ (.int .u64 (v)) = w3 at *
  clear d f
  go_wp2_with (first
    | (refine wpList_load_blk rfl 26 (.tmp 3) rfl g rfl _ H1 Try.underlying26 rfl info26 ?_)
    | (refine wpList_store_blk0 rfl 26 (.tmp 6) (.tmp 38) rfl g1 rfl (cv { c with Tpidr := v }) rfl H2 info26 rfl (one_cv _) ?_; intro w5 hf5 hb5))
  refine bodyPost_ret (results_cell_tmp (p := 6) (q := 7) (ty := 26) rfl _ _ g1 (cv { c with Tpidr := v }) _ rfl hb5 Try.underlying26 rfl info26) rfl ?_
  exact ⟨rfl, H3.own1 hf5 (by omega)⟩
set_option maxHeartbeats 2000000 in
theorem set_daif (c : Cr) (v : Int) (w : World) : Calls Try.prog 27 #[.agg (cv c), .int .i64 23057, .int .u64 v] w fun e w' => e = .returned (.tuple #[.agg (cv { c with M := bits .and .u64 v 128 != 0 }), .bool true]) ∧ Fr Nil w w' := by
  go_enter Try.func27, Try.ntmps27
  go_upto_region 1 with fail
  have hb : Blk ((w.alloc (.cells (cv c) 26)).alloc (.cells (cv zeroC) 26)) w.heap.size 26 (cv c) := Blk.alloc (Blk.new _ _ _) _
  have hr : Blk ((w.alloc (.cells (cv c) 26)).alloc (.cells (cv zeroC) 26)) (w.heap.size + 1) 26 (cv zeroC) := Blk.new2 _ _ _ _
  have F := (((Fr.refl Nil w).alloc (.cells (cv c) 26)).alloc (.cells (cv zeroC) 26))
  have hne : w.heap.size + 1 ≠ w.heap.size := by omega
  generalize (w.alloc (.cells (cv c) 26)).alloc (.cells (cv zeroC) 26) = w2 at *
  generalize hg : w.heap.size = g at *
  generalize hg1 : g + 1 = g1 at *
  have hle : w.heap.size ≤ g := by omega
  have d : w2.cell? ⟨g, 39, none⟩ = some (.bool c.M) := hb.cellv (cv_39 c)
  have f : w2.frozen? ⟨g, 39, none⟩ = false := hb.frozen _
  have H1 := blk_setM hb (bits .and .u64 v 128 != 0)
  have H2 := Blk.farc (b := g) (i := 39) hr hne (.bool (bits .and .u64 v 128 != 0))
  have H3 := Fr.setNew (g := g) (i := 39) F hle (.bool (bits .and .u64 v 128 != 0))
  go_upto_region 10 with fail
  generalize w2.setCell ⟨g, 39, none⟩ (.bool (bits .and .u64 v 128 != 0)) = w3 at *
  clear d f
  go_wp2_with (first
    | (refine wpList_load_blk rfl 26 (.tmp 3) rfl g rfl _ H1 Try.underlying26 rfl info26 ?_)
    | (refine wpList_store_blk0 rfl 26 (.tmp 6) (.tmp 29) rfl g1 rfl (cv { c with M := bits .and .u64 v 128 != 0 }) rfl H2 info26 rfl (one_cv _) ?_; intro w5 hf5 hb5))
  refine bodyPost_ret (results_cell_tmp (p := 6) (q := 7) (ty := 26) rfl _ _ g1 (cv { c with M := bits .and .u64 v 128 != 0 }) _ rfl hb5 Try.underlying26 rfl info26) rfl ?_
  exact ⟨rfl, H3.own1 hf5 (by omega)⟩
set_option maxHeartbeats 2000000 in
theorem set_nzcv (c : Cr) (v : Int) (w : World) (h0 : 0 ≤ v) (h1 : v ≤ 18446744073709551615) : Calls Try.prog 27 #[.agg (cv c), .int .i64 23056, .int .u64 v] w fun e w' => e = .returned (.tuple #[.agg (cv (setF c v 4)), .bool true]) ∧ Fr Nil w w' := by
  go_enter Try.func27, Try.ntmps27
  go_upto_region 1 with fail
  have hb : Blk ((w.alloc (.cells (cv c) 26)).alloc (.cells (cv zeroC) 26)) w.heap.size 26 (cv c) := Blk.alloc (Blk.new _ _ _) _
  have hr : Blk ((w.alloc (.cells (cv c) 26)).alloc (.cells (cv zeroC) 26)) (w.heap.size + 1) 26 (cv zeroC) := Blk.new2 _ _ _ _
  have F := (((Fr.refl Nil w).alloc (.cells (cv c) 26)).alloc (.cells (cv zeroC) 26))
  have hne : w.heap.size + 1 ≠ w.heap.size := by omega
  generalize (w.alloc (.cells (cv c) 26)).alloc (.cells (cv zeroC) 26) = w2 at *
  generalize hg : w.heap.size = g at *
  generalize hg1 : g + 1 = g1 at *
  have hle : w.heap.size ≤ g := by omega
  go_wp2_with (refine wpList_load_blk rfl 26 (.tmp 3) rfl g rfl _ hb Try.underlying26 rfl info26 ?_)
  refine (setnzcv_ok _ _ _ h0 h1).mono ?_
  rintro e w3 ⟨rfl, hf3⟩
  have H2 := Blk.fr0 hr hf3
  have H3 := F.trans hf3
  clear hf3 hr F hb
  go_wp2_with (refine wpList_store_blk0 rfl 26 (.tmp 6) (.tmp 22) rfl g1 rfl (cv (setF c v 4)) rfl H2 info26 rfl (one_cv _) ?_; intro w5 hf5 hb5)
  refine bodyPost_ret (results_cell_tmp (p := 6) (q := 7) (ty := 26) rfl _ _ g1 (cv (setF c v 4)) _ rfl hb5 Try.underlying26 rfl info26) rfl ?_
  exact ⟨rfl, H3.own1 hf5 (by omega)⟩
def noSet (sys : Int) : Prop := ¬ sys = 23056 ∧ ¬ sys = 23057
set_option maxHeartbeats 2000000 in
theorem set_no (c : Cr) (sys v : Int) (w : World) (hp : noPlace sys) (h : noSet sys) : Calls Try.prog 27 #[.agg (cv c), .int .i64 sys, .int .u64 v] w fun e w' => e = .returned (.tuple #[.agg (cv zeroC), .bool false]) ∧ Fr Nil w w' := by
  have HP := Lib.hid hp
  obtain ⟨n1, n2⟩ := h
  obtain ⟨p1, _, _, p4, _, _, _⟩ := hp
  go_enter Try.func27, Try.ntmps27
  go_upto_region 1 with fail
  have hb : Blk ((w.alloc (.cells (cv c) 26)).alloc (.cells (cv zeroC) 26)) w.heap.size 26 (cv c) := Blk.alloc (Blk.new _ _ _) _
  have hr : Blk ((w.alloc (.cells (cv c) 26)).alloc (.cells (cv zeroC) 26)) (w.heap.size + 1) 26 (cv zeroC) := Blk.new2 _ _ _ _
  have F := (((Fr.refl Nil w).alloc (.cells (cv c) 26)).alloc (.cells (cv zeroC) 26))
  have hne : w.heap.size + 1 ≠ w.heap.size := by omega
  generalize (w.alloc (.cells (cv c) 26)).alloc (.cells (cv zeroC) 26) = w2 at *
  generalize hg : w.heap.size = g at *
  generalize hg1 : g + 1 = g1 at *
  have hle : w.heap.size ≤ g := by omega
  go_wp2_with fail
  refine (place_no _ _ _ HP.out).mono ?_
  rintro e w3 ⟨rfl, rfl⟩
  go_wp2_with (refine wpList_store_blk0 rfl 26 (.tmp 6) (.tmp 34) rfl g1 rfl (cv zeroC) rfl hr info26 rfl (one_cv _) ?_; intro w5 hf5 hb5)
  refine bodyPost_ret (results_cell_tmp (p := 6) (q := 7) (ty := 26) rfl _ _ g1 (cv zeroC) _ rfl hb5 Try.underlying26 rfl info26) rfl ?_
  exact ⟨rfl, F.own1 hf5 (by omega)⟩
end Go.Proofs.Ytiaflkabnaofpaa
