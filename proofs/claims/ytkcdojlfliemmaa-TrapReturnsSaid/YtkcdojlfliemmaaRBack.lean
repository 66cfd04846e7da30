/- The contract of the reference's Back. -/
import Derived.Test.YtkcdojlfliemmaaRMay
import Derived.Test.YtkcdojlfliemmaaRSet
import Derived.Test.YtkcdojlfliemmaaRRight
namespace Go.Proofs.Ytkcdojlfliemmaa
open Go.RowKit
set_option linter.unusedVariables false
attribute [local go_sem] fold0

set_option maxHeartbeats 1000000 in
theorem rback_bad (c : Cr) (w : World) (h : rightF c = false) : Calls Try.prog 10 #[.agg (cv c)] w fun e w' => e = .returned (.tuple #[.agg (cv zeroC), .bool false]) ∧ Fr Nil w w' := by
  have H := Lib.hid h
  clear h
  go_enter Try.func10, Try.ntmps10
  go_wp2_with (refine wpList_load_blk rfl 26 (.tmp 1) rfl w.heap.size rfl _ (Blk.alloc (Blk.new _ _ _) _) Try.underlying26 rfl info26 ?_)
  refine (rright_ok _ _).mono ?_
  rintro e w2 ⟨rfl, hf⟩
  rw [H.out]
  have hr : Blk w2 (w.heap.size + 1) 26 (cv zeroC) := Blk.fr0 (Blk.new2 _ _ _ _) hf
  have F := (((Fr.refl Nil w).alloc (.cells (cv c) 26)).alloc (.cells (cv zeroC) 26)).trans hf
  clear hf
  go_wp2_with (refine wpList_store_blk0 rfl 26 (.tmp 2) (.tmp 11) rfl (w.heap.size + 1) rfl (cv zeroC) rfl hr info26 rfl (one_cv _) ?_; intro w3 hf3 hb3)
  refine bodyPost_ret (results_cell_tmp (p := 2) (q := 3) (ty := 26) rfl _ _ (w.heap.size + 1) (cv zeroC) _ rfl hb3 Try.underlying26 rfl info26) rfl ?_
  exact ⟨rfl, F.own1 hf3 (by omega)⟩
set_option maxHeartbeats 1000000 in
theorem rback_no (c : Cr) (w : World) (h : rightF c = true) (hm : mayF c.Spsr = false) (s0 : 0 ≤ c.Spsr) (s1 : c.Spsr ≤ 18446744073709551615) : Calls Try.prog 10 #[.agg (cv c)] w fun e w' => e = .returned (.tuple #[.agg (cv (backN c)), .bool true]) ∧ Fr Nil w w' := by
  have H := Lib.hid h
  have Hm := Lib.hid hm
  clear h hm
  go_enter Try.func10, Try.ntmps10
  go_wp2_with (refine wpList_load_blk rfl 26 (.tmp 1) rfl w.heap.size rfl _ (Blk.alloc (Blk.new _ _ _) _) Try.underlying26 rfl info26 ?_)
  refine (rright_ok _ _).mono ?_
  rintro e w2 ⟨rfl, hf⟩
  rw [H.out]
  have hb : Blk w2 w.heap.size 26 (cv c) := Blk.fr0 (Blk.alloc (Blk.new _ _ _) _) hf
  have hr : Blk w2 (w.heap.size + 1) 26 (cv zeroC) := Blk.fr0 (Blk.new2 _ _ _ _) hf
  have F := (((Fr.refl Nil w).alloc (.cells (cv c) 26)).alloc (.cells (cv zeroC) 26)).trans hf
  have hne : w.heap.size + 1 ≠ w.heap.size := by omega
  have d40 : w2.cell? ⟨w.heap.size, 40, none⟩ = some (.int .u64 c.Spsr) := hb.cellv (cv_40 c)
  have d41 : w2.cell? ⟨w.heap.size, 41, none⟩ = some (.int .u64 c.Elr) := hb.cellv (cv_41 c)
  have d33 : w2.cell? ⟨w.heap.size, 33, none⟩ = some (.int .u64 c.PC) := hb.cellv (cv_33 c)
  have f33 : w2.frozen? ⟨w.heap.size, 33, none⟩ = false := hb.frozen _
  have d48 : w2.cell? ⟨w.heap.size, 48, none⟩ = some (.bool c.Ev) := hb.cellv (cv_48 c)
  have f48 : w2.frozen? ⟨w.heap.size, 48, none⟩ = false := hb.frozen _
  clear hf
  have H1 := blk_setEv (blk_setPC hb c.Elr) true
  have H2 := Blk.farc (b := w.heap.size) (i := 48) (Blk.farc (b := w.heap.size) (i := 33) hr hne (.int .u64 c.Elr)) hne (.bool true)
  have H3 := Fr.setNew (g := w.heap.size) (i := 48) (Fr.setNew (g := w.heap.size) (i := 33) F (Nat.le_refl _) (.int .u64 c.Elr)) (Nat.le_refl _) (.bool true)
  go_upto_region 7 with fail
  generalize (w2.setCell ⟨w.heap.size, 33, none⟩ (.int .u64 c.Elr)).setCell ⟨w.heap.size, 48, none⟩ (.bool true) = w3 at *
  clear d40 d41 d33 f33 d48 f48
  go_wp2_with fail
  refine (rmay_ok _ _ s0 s1).mono ?_
  rintro e w4 ⟨rfl, rfl⟩
  rw [Hm.out]
  go_wp2_with (first
    | (refine wpList_load_blk rfl 26 (.tmp 1) rfl w.heap.size rfl _ H1 Try.underlying26 rfl info26 ?_)
    | (refine wpList_store_blk0 rfl 26 (.tmp 2) (.tmp 34) rfl (w.heap.size + 1) rfl (cv (backN c)) rfl H2 info26 rfl (one_cv _) ?_; intro w4 hf4 hb4))
  refine bodyPost_ret (results_cell_tmp (p := 2) (q := 3) (ty := 26) rfl _ _ (w.heap.size + 1) (cv (backN c)) _ rfl hb4 Try.underlying26 rfl info26) rfl ?_
  exact ⟨rfl, H3.own1 hf4 (by omega)⟩
theorem rsetnzcv_at (c d : Cr) (v : Int) (w : World) (v0 : 0 ≤ v) (v1 : v ≤ 18446744073709551615) (hd : d = setR c v) : Calls Try.prog 18 #[.agg (cv c), .int .u64 v] w fun e w' => e = .returned (.agg (cv d)) ∧ Fr Nil w w' := by
  rw [hd]
  exact rsetnzcv_ok c v w v0 v1
def rbackM (d : Cr) (v : Int) : Cr := { d with M := v / 128 % 2 == 1, EL := v % 32 / 5 }
set_option maxHeartbeats 2000000 in
theorem rback_may (c d : Cr) (w : World) (h : rightF c = true) (hm : mayF c.Spsr = true) (s0 : 0 ≤ c.Spsr) (s1 : c.Spsr ≤ 18446744073709551615) (hd : d = setR (backN c) c.Spsr) : Calls Try.prog 10 #[.agg (cv c)] w fun e w' => e = .returned (.tuple #[.agg (cv (rbackM d c.Spsr)), .bool true]) ∧ Fr Nil w w' := by
  have H := Lib.hid h
  have Hm := Lib.hid hm
  clear h hm
  go_enter Try.func10, Try.ntmps10
  go_wp2_with (refine wpList_load_blk rfl 26 (.tmp 1) rfl w.heap.size rfl _ (Blk.alloc (Blk.new _ _ _) _) Try.underlying26 rfl info26 ?_)
  refine (rright_ok _ _).mono ?_
  rintro e w2 ⟨rfl, hf⟩
  rw [H.out]
  have hb : Blk w2 w.heap.size 26 (cv c) := Blk.fr0 (Blk.alloc (Blk.new _ _ _) _) hf
  have hr : Blk w2 (w.heap.size + 1) 26 (cv zeroC) := Blk.fr0 (Blk.new2 _ _ _ _) hf
  have F := (((Fr.refl Nil w).alloc (.cells (cv c) 26)).alloc (.cells (cv zeroC) 26)).trans hf
  have hne : w.heap.size + 1 ≠ w.heap.size := by omega
  have d40 : w2.cell? ⟨w.heap.size, 40, none⟩ = some (.int .u64 c.Spsr) := hb.cellv (cv_40 c)
  have d41 : w2.cell? ⟨w.heap.size, 41, none⟩ = some (.int .u64 c.Elr) := hb.cellv (cv_41 c)
  have d33 : w2.cell? ⟨w.heap.size, 33, none⟩ = some (.int .u64 c.PC) := hb.cellv (cv_33 c)
  have f33 : w2.frozen? ⟨w.heap.size, 33, none⟩ = false := hb.frozen _
  have d48 : w2.cell? ⟨w.heap.size, 48, none⟩ = some (.bool c.Ev) := hb.cellv (cv_48 c)
  have f48 : w2.frozen? ⟨w.heap.size, 48, none⟩ = false := hb.frozen _
  clear hf
  have H1 : Blk _ w.heap.size 26 (cv (backN c)) := blk_setEv (blk_setPC hb c.Elr) true
  have H2 := Blk.farc (b := w.heap.size) (i := 48) (Blk.farc (b := w.heap.size) (i := 33) hr hne (.int .u64 c.Elr)) hne (.bool true)
  have H3 := Fr.setNew (g := w.heap.size) (i := 48) (Fr.setNew (g := w.heap.size) (i := 33) F (Nat.le_refl _) (.int .u64 c.Elr)) (Nat.le_refl _) (.bool true)
  go_upto_region 7 with fail
  generalize (w2.setCell ⟨w.heap.size, 33, none⟩ (.int .u64 c.Elr)).setCell ⟨w.heap.size, 48, none⟩ (.bool true) = w3 at *
  clear d40 d41 d33 f33 d48 f48 F hr hb
  go_wp2_with fail
  refine (rmay_ok _ _ s0 s1).mono ?_
  rintro e w4 ⟨rfl, rfl⟩
  rw [Hm.out]
  go_wp2_with (refine wpList_load_blk rfl 26 (.tmp 1) rfl w.heap.size rfl _ H1 Try.underlying26 rfl info26 ?_)
  refine (rsetnzcv_at _ d _ _ s0 s1 hd).mono ?_
  clear hd
  rintro e w5 ⟨rfl, hf5⟩
  have hb5 := Blk.fr0 H1 hf5
  have hr5 := Blk.fr0 H2 hf5
  have F5 := H3.trans hf5
  clear hf5 H1 H2 H3
  go_upto_region 10 with (refine wpList_store_blk0 rfl 26 (.tmp 1) (.tmp 23) rfl w.heap.size rfl (cv d) rfl hb5 info26 rfl (one_cv _) ?_; intro w6 hf6 hb6)
  have d39 : w6.cell? ⟨w.heap.size, 39, none⟩ = some (.bool d.M) := hb6.cellv (cv_39 d)
  have f39 : w6.frozen? ⟨w.heap.size, 39, none⟩ = false := hb6.frozen _
  have d38 : w6.cell? ⟨w.heap.size, 38, none⟩ = some (.int .i64 d.EL) := hb6.cellv (cv_38 d)
  have f38 : w6.frozen? ⟨w.heap.size, 38, none⟩ = false := hb6.frozen _
  have hr6 : Blk w6 (w.heap.size + 1) 26 (cv zeroC) := Blk.fr hr5 hf6 hne
  have F6 : Fr Nil w w6 := F5.own1 hf6 (Nat.le_refl _)
  clear hf6 hr5 F5 hb5
  have H1 := blk_setEL (blk_setM hb6 (c.Spsr / 128 % 2 == 1)) (c.Spsr % 32 / 5)
  have H2 := Blk.farc (b := w.heap.size) (i := 38) (Blk.farc (b := w.heap.size) (i := 39) hr6 hne (.bool (c.Spsr / 128 % 2 == 1))) hne (.int .i64 (c.Spsr % 32 / 5))
  have H3 := Fr.setNew (g := w.heap.size) (i := 38) (Fr.setNew (g := w.heap.size) (i := 39) F6 (Nat.le_refl _) (.bool (c.Spsr / 128 % 2 == 1))) (Nat.le_refl _) (.int .i64 (c.Spsr % 32 / 5))
  go_upto_region 12 with fail
  generalize (w6.setCell ⟨w.heap.size, 39, none⟩ (.bool (c.Spsr / 128 % 2 == 1))).setCell ⟨w.heap.size, 38, none⟩ (.int .i64 (c.Spsr % 32 / 5)) = w7 at *
  clear d39 f39 d38 f38 F6 hr6 hb6
  go_wp2_with (first
    | (refine wpList_load_blk rfl 26 (.tmp 1) rfl w.heap.size rfl _ H1 Try.underlying26 rfl info26 ?_)
    | (refine wpList_store_blk0 rfl 26 (.tmp 2) (.tmp 34) rfl (w.heap.size + 1) rfl (cv (rbackM d c.Spsr)) rfl H2 info26 rfl (one_cv _) ?_; intro w8 hf8 hb8))
  refine bodyPost_ret (results_cell_tmp (p := 2) (q := 3) (ty := 26) rfl _ _ (w.heap.size + 1) (cv (rbackM d c.Spsr)) _ rfl hb8 Try.underlying26 rfl info26) rfl ?_
  exact ⟨rfl, H3.own1 hf8 (by omega)⟩
end Go.Proofs.Ytkcdojlfliemmaa
