/- The chapter's examples hold. -/
import Derived.Test.YtkcdojlfliemmaaTrap3
import Derived.Test.YtkcdojlfliemmaaEq
namespace Go.Proofs.Ytkcdojlfliemmaa
open Go.RowKit
set_option linter.unusedVariables false
attribute [local go_sem] fold0

def begC : Cr := { zeroC with PC := 4096, EL := 1, M := true }
def vbC : Cr := { zeroC with Vbar := 2048 }
def exA : Cr := { zeroC with PC := 512, EL := 1, M := true, Spsr := 133, Elr := 4100, Esr := 1442840581 }
def exB : Cr := { zeroC with PC := 3072, EL := 1, M := true, Spsr := 0, Elr := 0, Esr := 2449473569, Far := 7, Vbar := 2048 }
def exI : Cr := { zeroC with PC := 640, EL := 1, M := true, Spsr := 133, Elr := 4096 }
theorem begin_ok (w : World) : Calls Try.prog 13 #[] w fun e w' => e = .returned (.agg (cv begC)) ∧ Fr Nil w w' := by
  have hfold : (#[.int .u64 0, .int .u64 0, .int .u64 0, .int .u64 0, .int .u64 0, .int .u64 0, .int .u64 0, .int .u64 0, .int .u64 0, .int .u64 0, .int .u64 0, .int .u64 0, .int .u64 0, .int .u64 0, .int .u64 0, .int .u64 0, .int .u64 0, .int .u64 0, .int .u64 0, .int .u64 0, .int .u64 0, .int .u64 0, .int .u64 0, .int .u64 0, .int .u64 0, .int .u64 0, .int .u64 0, .int .u64 0, .int .u64 0, .int .u64 0, .int .u64 0, .int .u64 0, .int .u64 0, .int .u64 4096, .bool false, .bool false, .bool false, .bool false, .int .i64 1, .bool true, .int .u64 0, .int .u64 0, .int .u64 0, .int .u64 0, .int .u64 0, .int .u64 0, .int .i64 0, .int .i64 0, .bool false] : Array Value) = cv begC := rfl
  go_enter Try.func13, Try.ntmps13
  go_wp2_with (refine wpList_store_blk rfl 26 (.tmp 0) (.tmp 1) rfl w.heap.size rfl (cv begC) rfl (Blk.new _ _ _) info26 rfl (one_cv _) ?_; intro w2 hf hb hz)
  refine bodyPost_ret (v := .agg (cv begC)) (results_cell_row (p := 0) (ty := 26) rfl _ _ w.heap.size 26 (cv begC) (0, 0) _ rfl hb Try.underlying26 rfl info26) rfl ?_
  exact ⟨rfl, ((Fr.refl Nil w).alloc _).step hf (fun i _ hi => .inr (by rw [hi]; exact Nat.le_refl _))⟩
theorem exA_eq : enF begC 21 5 0 = exA := by kernel_rfl
theorem exB_eq : enF vbC 36 33 7 = exB := by kernel_rfl
theorem exI_eq : in3 begC = exI := by kernel_rfl
theorem enter_a (w : World) : Calls Try.prog 7 #[.agg (cv begC), .int .i64 21, .int .i64 5, .int .u64 0] w fun e w' => e = .returned (.tuple #[.agg (cv exA), .int .i64 0]) ∧ Fr Nil w w' := by
  have h := enter_ok begC 21 5 0 w (by decide) (by decide) (by decide) (by decide) (by decide)
  rw [exA_eq] at h
  exact h
theorem enter_b (w : World) : Calls Try.prog 7 #[.agg (cv vbC), .int .i64 36, .int .i64 33, .int .u64 7] w fun e w' => e = .returned (.tuple #[.agg (cv exB), .int .i64 0]) ∧ Fr Nil w w' := by
  have h := enter_ok vbC 36 33 7 w (by decide) (by decide) (by decide) (by decide) (by decide)
  rw [exB_eq] at h
  exact h
theorem irq_i (w : World) : Calls Try.prog 12 #[.agg (cv begC)] w fun e w' => e = .returned (.tuple #[.agg (cv exI), .int .i64 0]) ∧ Fr Nil w w' := by
  have h := irq_ok begC w (by decide)
  rw [exI_eq] at h
  exact h
theorem may_5 (w : World) : Calls Try.prog 8 #[.int .u64 5] w fun e w' => e = .returned (.bool true) ∧ w = w' := may_ok 5 w
theorem may_4 (w : World) : Calls Try.prog 8 #[.int .u64 4] w fun e w' => e = .returned (.bool false) ∧ w = w' := may_ok 4 w
set_option maxRecDepth 100000 in
set_option maxHeartbeats 4000000 in
theorem examples_ok (w : World) : Calls Try.prog 6 #[] w fun e w' => e = .returned (.bool true) ∧ Fr Nil w w' := by
  have hfold : (#[.int .u64 0, .int .u64 0, .int .u64 0, .int .u64 0, .int .u64 0, .int .u64 0, .int .u64 0, .int .u64 0, .int .u64 0, .int .u64 0, .int .u64 0, .int .u64 0, .int .u64 0, .int .u64 0, .int .u64 0, .int .u64 0, .int .u64 0, .int .u64 0, .int .u64 0, .int .u64 0, .int .u64 0, .int .u64 0, .int .u64 0, .int .u64 0, .int .u64 0, .int .u64 0, .int .u64 0, .int .u64 0, .int .u64 0, .int .u64 0, .int .u64 0, .int .u64 0, .int .u64 0, .int .u64 0, .bool false, .bool false, .bool false, .bool false, .int .i64 0, .bool false, .int .u64 0, .int .u64 0, .int .u64 0, .int .u64 0, .int .u64 2048, .int .u64 0, .int .i64 0, .int .i64 0, .bool false] : Array Value) = cv vbC := rfl
  go_enter Try.func6, Try.ntmps6
  go_wp2_with fail
  refine (begin_ok _).mono ?_
  rintro e w1 ⟨rfl, hf1⟩
  go_wp2_with fail
  refine (enter_a _).mono ?_
  rintro e w2 ⟨rfl, hf2⟩
  have F2 := hf1.trans hf2
  clear hf1 hf2
  go_wp2_with (refine wpList_store_blk0 rfl 26 (.tmp 1) (.tmp 10) rfl w2.heap.size rfl (cv exA) rfl (Blk.new _ _ _) info26 rfl (one_cv _) ?_; intro w3 hf3 hb3)
  have F3 := (F2.alloc (.cells (cv zeroC) 26)).own1 hf3 F2.size
  have hl3 := hb3.lt
  clear F2 hf3
  generalize w2.heap.size = g1 at *
  refine (enter_b _).mono ?_
  rintro e w4 ⟨rfl, hf4⟩
  have F4 := F3.trans hf4
  have hb4 := Blk.fr0 hb3 hf4
  have hl4 := hb4.lt
  clear F3 hf4 hb3
  go_wp2_with (refine wpList_store_blk0 rfl 26 (.tmp 3) (.tmp 15) rfl w4.heap.size rfl (cv exB) rfl (Blk.new _ _ _) info26 rfl (one_cv _) ?_; intro w5 hf5 hb5)
  have F5 := (F4.alloc (.cells (cv zeroC) 26)).own1 hf5 F4.size
  have ha5 := Blk.fr1 (Blk.alloc hb4 (.cells (cv zeroC) 26)) hf5 (by omega)
  have hl5 := hb5.lt
  have hl6 : g1 ≠ w4.heap.size := by omega
  clear F4 hf5 hb4
  generalize w4.heap.size = g2 at *
  refine (begin_ok _).mono ?_
  rintro e w6 ⟨rfl, hf6⟩
  have F6 := F5.trans hf6
  have ha6 := Blk.fr0 ha5 hf6
  have hb6 := Blk.fr0 hb5 hf6
  clear F5 hf6 ha5 hb5
  go_wp2_with fail
  refine (irq_i _).mono ?_
  rintro e w7 ⟨rfl, hf7⟩
  have F7 := F6.trans hf7
  have ha7 := Blk.fr0 ha6 hf7
  have hb7 := Blk.fr0 hb6 hf7
  have hla := ha7.lt
  have hlb := hb7.lt
  clear F6 hf7 ha6 hb6
  go_upto_region 4 with (refine wpList_store_blk0 rfl 26 (.tmp 5) (.tmp 20) rfl w7.heap.size rfl (cv exI) rfl (Blk.new _ _ _) info26 rfl (one_cv _) ?_; intro w8 hf8 hc8)
  have F8 := (F7.alloc (.cells (cv zeroC) 26)).own1 hf8 F7.size
  have ha8 := Blk.fr1 (Blk.alloc ha7 (.cells (cv zeroC) 26)) hf8 (by omega)
  have hb8 := Blk.fr1 (Blk.alloc hb7 (.cells (cv zeroC) 26)) hf8 (by omega)
  clear F7 hf8 ha7 hb7
  generalize w7.heap.size = g3 at *
  have a41 : w8.cell? ⟨g1, 41, none⟩ = some (.int .u64 4100) := ha8.cellv rfl
  have a42 : w8.cell? ⟨g1, 42, none⟩ = some (.int .u64 1442840581) := ha8.cellv rfl
  have a40 : w8.cell? ⟨g1, 40, none⟩ = some (.int .u64 133) := ha8.cellv rfl
  have a33 : w8.cell? ⟨g1, 33, none⟩ = some (.int .u64 512) := ha8.cellv rfl
  have b33 : w8.cell? ⟨g2, 33, none⟩ = some (.int .u64 3072) := hb8.cellv rfl
  have b43 : w8.cell? ⟨g2, 43, none⟩ = some (.int .u64 7) := hb8.cellv rfl
  have b38 : w8.cell? ⟨g2, 38, none⟩ = some (.int .i64 1) := hb8.cellv rfl
  have c41 : w8.cell? ⟨g3, 41, none⟩ = some (.int .u64 4096) := hc8.cellv rfl
  have c33 : w8.cell? ⟨g3, 33, none⟩ = some (.int .u64 640) := hc8.cellv rfl
  clear ha8 hb8 hc8
  go_wp2_with fail
  refine (may_5 _).mono ?_
  rintro e w9 ⟨rfl, rfl⟩
  go_wp2_with fail
  refine (may_4 _).mono ?_
  rintro e w9 ⟨rfl, rfl⟩
  go_wp2_with fail
  go_ret
  exact ⟨rfl, F8⟩
end Go.Proofs.Ytkcdojlfliemmaa
