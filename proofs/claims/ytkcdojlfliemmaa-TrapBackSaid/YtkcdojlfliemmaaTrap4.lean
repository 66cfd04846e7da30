/- The contract of trap.Back. -/
import Derived.Test.YtkcdojlfliemmaaTrap3
namespace Go.Proofs.Ytkcdojlfliemmaa
open Go.RowKit
set_option linter.unusedVariables false
attribute [local go_sem] fold0

set_option maxHeartbeats 1000000 in
theorem back_bad (c : Cr) (w : World) (h : rightF c = false) : Calls Try.prog 9 #[.agg (cv c)] w fun e w' => e = .returned (.tuple #[.agg (cv zeroC), .int .i64 1]) ∧ Fr Nil w w' := by
  have H := Lib.hid h
  clear h
  go_enter Try.func9, Try.ntmps9
  go_wp2_with (refine wpList_load_blk rfl 26 (.tmp 1) rfl w.heap.size rfl _ (Blk.alloc (Blk.new _ _ _) _) Try.underlying26 rfl info26 ?_)
  refine (right_ok _ _).mono ?_
  rintro e w2 ⟨rfl, hf⟩
  rw [H.out]
  have hr : Blk w2 (w.heap.size + 1) 26 (cv zeroC) := Blk.fr0 (Blk.new2 _ _ _ _) hf
  have F := (((Fr.refl Nil w).alloc (.cells (cv c) 26)).alloc (.cells (cv zeroC) 26)).trans hf
  clear hf
  go_wp2_with (refine wpList_store_blk0 rfl 26 (.tmp 2) (.tmp 8) rfl (w.heap.size + 1) rfl (cv zeroC) rfl hr info26 rfl (one_cv _) ?_; intro w3 hf3 hb3)
  refine bodyPost_ret (results_cell_tmp (p := 2) (q := 3) (ty := 26) rfl _ _ (w.heap.size + 1) (cv zeroC) _ rfl hb3 Try.underlying26 rfl info26) rfl ?_
  exact ⟨rfl, F.own1 hf3 (by omega)⟩
def backN (c : Cr) : Cr := { c with PC := c.Elr, Ev := true }
set_option maxHeartbeats 1000000 in
theorem back_no (c : Cr) (w : World) (h : rightF c = true) (hm : mayF c.Spsr = false) : Calls Try.prog 9 #[.agg (cv c)] w fun e w' => e = .returned (.tuple #[.agg (cv (backN c)), .int .i64 0]) ∧ Fr Nil w w' := by
  have H := Lib.hid h
  have Hm := Lib.hid hm
  clear h hm
  go_enter Try.func9, Try.ntmps9
  go_wp2_with (refine wpList_load_blk rfl 26 (.tmp 1) rfl w.heap.size rfl _ (Blk.alloc (Blk.new _ _ _) _) Try.underlying26 rfl info26 ?_)
  refine (right_ok _ _).mono ?_
  rintro e w2 ⟨rfl, hf⟩
  rw [H.out]
  have hb : Blk w2 w.heap.size 26 (cv c) := Blk.fr0 (Blk.alloc (Blk.new _ _ _) _) hf
  have hr : Blk w2 (w.heap.size + 1) 26 (cv zeroC) := Blk.fr0 (Blk.new2 _ _ _ _) hf
  have F := (((Fr.refl Nil w).alloc (.cells (cv c) 26)).alloc (.cells (cv zeroC) 26)).trans hf
  have hne : w.heap.size + 1 ≠ w.heap.size := by omega
  have d40 : w2.cell? ⟨w.heap.size, 40, none⟩ = some (.int .u64 c.Spsr) := hb.cellv (cv_40 c)
  have d41 : w2.cell? ⟨w.heap.size, 41, none⟩ = some (.int .u64 c.Elr) := hb.cellv (cv_41 c)
  have d33 : w2.cell? ⟨w.heap.size, 33, none⟩ = some (.int .u64 c.PC) := hb.cellv (cv_33 c)
  have f33 : w2.frozen? ⟨w.heap.size, 33, none⟩ = false := hb.frozen _
  have d48 : w2.cell? ⟨w.heap.size, 48, none⟩ = some (.bool c.Ev) := hb.cellv (cv_48 c)
  have f48 : w2.frozen? ⟨w.heap.size, 48, none⟩ = false := hb.frozen _
  clear hf
  have H1 := blk_setEv (blk_setPC hb c.Elr) true
  have H2 := Blk.farc (b := w.heap.size) (i := 48) (Blk.farc (b := w.heap.size) (i := 33) hr hne (.int .u64 c.Elr)) hne (.bool true)
  have H3 := Fr.setNew (g := w.heap.size) (i := 48) (Fr.setNew (g := w.heap.size) (i := 33) F (Nat.le_refl _) (.int .u64 c.Elr)) (Nat.le_refl _) (.bool true)
  go_wp2_with fail
  refine (may_ok _ _).mono ?_
  rintro e w3 ⟨rfl, rfl⟩
  rw [Hm.out]
  go_wp2_with (first
    | (refine wpList_load_blk rfl 26 (.tmp 1) rfl w.heap.size rfl _ H1 Try.underlying26 rfl info26 ?_)
    | (refine wpList_store_blk0 rfl 26 (.tmp 2) (.tmp 28) rfl (w.heap.size + 1) rfl (cv (backN c)) rfl H2 info26 rfl (one_cv _) ?_; intro w4 hf4 hb4))
  refine bodyPost_ret (results_cell_tmp (p := 2) (q := 3) (ty := 26) rfl _ _ (w.heap.size + 1) (cv (backN c)) _ rfl hb4 Try.underlying26 rfl info26) rfl ?_
  exact ⟨rfl, H3.own1 hf4 (by omega)⟩
def backM (d : Cr) (v : Int) : Cr := { d with M := bits BinOp.and IntKind.u64 v 128 != 0, EL := wrap64 (bits BinOp.and IntKind.u64 v 1), PC := d.Elr, Ev := true }
theorem setnzcv_at (c d : Cr) (v : Int) (w : World) (v0 : 0 ≤ v) (v1 : v ≤ 18446744073709551615) (hd : d = setF c v 4) : Calls Try.prog 16 #[.agg (cv c), .int .u64 v] w fun e w' => e = .returned (.agg (cv d)) ∧ Fr Nil w w' := by
  rw [hd]
  exact setnzcv_ok c v w v0 v1
set_option maxHeartbeats 4000000 in
theorem back_may (c d : Cr) (w : World) (h : rightF c = true) (hm : mayF c.Spsr = true) (s0 : 0 ≤ c.Spsr) (s1 : c.Spsr ≤ 18446744073709551615) (hd : d = setF c c.Spsr 4) : Calls Try.prog 9 #[.agg (cv c)] w fun e w' => e = .returned (.tuple #[.agg (cv (backM d c.Spsr)), .int .i64 0]) ∧ Fr Nil w w' := by
  have H := Lib.hid h
  have Hm := Lib.hid hm
  clear h hm
  go_enter Try.func9, Try.ntmps9
  go_wp2_with (refine wpList_load_blk rfl 26 (.tmp 1) rfl w.heap.size rfl _ (Blk.alloc (Blk.new _ _ _) _) Try.underlying26 rfl info26 ?_)
  refine (right_ok _ _).mono ?_
  rintro e w2 ⟨rfl, hf⟩
  rw [H.out]
  have hb : Blk w2 w.heap.size 26 (cv c) := Blk.fr0 (Blk.alloc (Blk.new _ _ _) _) hf
  have hr : Blk w2 (w.heap.size + 1) 26 (cv zeroC) := Blk.fr0 (Blk.new2 _ _ _ _) hf
  have F := (((Fr.refl Nil w).alloc (.cells (cv c) 26)).alloc (.cells (cv zeroC) 26)).trans hf
  have hne : w.heap.size + 1 ≠ w.heap.size := by omega
  have d40 : w2.cell? ⟨w.heap.size, 40, none⟩ = some (.int .u64 c.Spsr) := hb.cellv (cv_40 c)
  clear hf
  go_wp2_with fail
  refine (may_ok _ _).mono ?_
  rintro e w3 ⟨rfl, rfl⟩
  rw [Hm.out]
  go_wp2_with (refine wpList_load_blk rfl 26 (.tmp 1) rfl w.heap.size rfl _ hb Try.underlying26 rfl info26 ?_)
  refine (setnzcv_at _ d _ _ s0 s1 hd).mono ?_
  clear hd
  rintro e w3 ⟨rfl, hf3⟩
  have hb3 := Blk.fr0 hb hf3
  have hr3 := Blk.fr0 hr hf3
  have F3 := F.trans hf3
  clear hf3 hr hb F d40
  go_upto_region 6 with (refine wpList_store_blk0 rfl 26 (.tmp 1) (.tmp 15) rfl w.heap.size rfl (cv d) rfl hb3 info26 rfl (one_cv _) ?_; intro w4 hf4 hb4)
  have d39 : w4.cell? ⟨w.heap.size, 39, none⟩ = some (.bool d.M) := hb4.cellv (cv_39 d)
  have f39 : w4.frozen? ⟨w.heap.size, 39, none⟩ = false := hb4.frozen _
  have d38 : w4.cell? ⟨w.heap.size, 38, none⟩ = some (.int .i64 d.EL) := hb4.cellv (cv_38 d)
  have f38 : w4.frozen? ⟨w.heap.size, 38, none⟩ = false := hb4.frozen _
  have d41 : w4.cell? ⟨w.heap.size, 41, none⟩ = some (.int .u64 d.Elr) := hb4.cellv (cv_41 d)
  have d33 : w4.cell? ⟨w.heap.size, 33, none⟩ = some (.int .u64 d.PC) := hb4.cellv (cv_33 d)
  have f33 : w4.frozen? ⟨w.heap.size, 33, none⟩ = false := hb4.frozen _
  have d48 : w4.cell? ⟨w.heap.size, 48, none⟩ = some (.bool d.Ev) := hb4.cellv (cv_48 d)
  have f48 : w4.frozen? ⟨w.heap.size, 48, none⟩ = false := hb4.frozen _
  have hr4 : Blk w4 (w.heap.size + 1) 26 (cv zeroC) := Blk.fr hr3 hf4 hne
  have F4 : Fr Nil w w4 := F3.own1 hf4 (Nat.le_refl _)
  clear hf4
  have H1 := blk_setEv (blk_setPC (blk_setEL (blk_setM hb4 (bits BinOp.and IntKind.u64 c.Spsr 128 != 0)) (wrap64 (bits BinOp.and IntKind.u64 c.Spsr 1))) d.Elr) true
  have H2 := Blk.farc (b := w.heap.size) (i := 48) (Blk.farc (b := w.heap.size) (i := 33) (Blk.farc (b := w.heap.size) (i := 38) (Blk.farc (b := w.heap.size) (i := 39) hr4 hne (.bool (bits BinOp.and IntKind.u64 c.Spsr 128 != 0))) hne (.int .i64 (wrap64 (bits BinOp.and IntKind.u64 c.Spsr 1)))) hne (.int .u64 d.Elr)) hne (.bool true)
  have H3 := Fr.setNew (g := w.heap.size) (i := 48) (Fr.setNew (g := w.heap.size) (i := 33) (Fr.setNew (g := w.heap.size) (i := 38) (Fr.setNew (g := w.heap.size) (i := 39) F4 (Nat.le_refl _) (.bool (bits BinOp.and IntKind.u64 c.Spsr 128 != 0))) (Nat.le_refl _) (.int .i64 (wrap64 (bits BinOp.and IntKind.u64 c.Spsr 1)))) (Nat.le_refl _) (.int .u64 d.Elr)) (Nat.le_refl _) (.bool true)
  go_upto_region 9 with fail
  generalize (((w4.setCell ⟨w.heap.size, 39, none⟩ (.bool (bits BinOp.and IntKind.u64 c.Spsr 128 != 0))).setCell ⟨w.heap.size, 38, none⟩ (.int .i64 (wrap64 (bits BinOp.and IntKind.u64 c.Spsr 1)))).setCell ⟨w.heap.size, 33, none⟩ (.int .u64 d.Elr)).setCell ⟨w.heap.size, 48, none⟩ (.bool true) = w6 at *
  clear d38 d39 d41 d33 d48 f38 f39 f33 f48
  go_wp2_with (first
    | (refine wpList_load_blk rfl 26 (.tmp 1) rfl w.heap.size rfl _ H1 Try.underlying26 rfl info26 ?_)
    | (refine wpList_store_blk0 rfl 26 (.tmp 2) (.tmp 28) rfl (w.heap.size + 1) rfl (cv (backM d c.Spsr)) rfl H2 info26 rfl (one_cv _) ?_; intro w5 hf5 hb5))
  refine bodyPost_ret (results_cell_tmp (p := 2) (q := 3) (ty := 26) rfl _ _ (w.heap.size + 1) (cv (backM d c.Spsr)) _ rfl hb5 Try.underlying26 rfl info26) rfl ?_
  exact ⟨rfl, H3.own1 hf5 (by omega)⟩
end Go.Proofs.Ytkcdojlfliemmaa
