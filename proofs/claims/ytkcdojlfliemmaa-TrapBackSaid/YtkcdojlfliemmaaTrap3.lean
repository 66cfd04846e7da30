/- The contract of trap.Enter. -/
import Derived.Test.YtkcdojlfliemmaaTrap2
namespace Go.Proofs.Ytkcdojlfliemmaa
open Go.RowKit
set_option linter.unusedVariables false
attribute [local go_sem] fold0

def esrF (cl iss : Int) : Int := IntKind.u64.wrap (bits .or .i64 (bits .or .i64 (cl * 67108864) 33554432) iss)
set_option maxRecDepth 100000 in
set_option maxHeartbeats 1000000 in
theorem enter_0 (c : Cr) (cl iss far : Int) (w : World) (h : rightF c = true) (h0 : 0 ≤ cl) (h1 : cl ≤ 63) (h2 : 0 ≤ iss) (h3 : iss < 33554432)
    (n21 : (cl == 21) = true) :
    Calls Try.prog 7 #[.agg (cv c), .int .i64 cl, .int .i64 iss, .int .u64 far] w fun e w' => e = .returned (.tuple #[.agg (cv (in0 c (esrF cl iss))), .int .i64 0]) ∧ Fr Nil w w' := by
  have H := Lib.hid h
  clear h
  go_enter Try.func7, Try.ntmps7
  go_wp2_with (refine wpList_load_blk rfl 26 (.tmp 4) rfl w.heap.size rfl _ (Blk.alloc (Blk.new _ _ _) _) Try.underlying26 rfl info26 ?_)
  refine (right_ok _ _).mono ?_
  rintro e w2 ⟨rfl, hf⟩
  rw [H.out]
  have hb : Blk w2 w.heap.size 26 (cv c) := Blk.fr0 (Blk.alloc (Blk.new _ _ _) _) hf
  have hr : Blk w2 (w.heap.size + 1) 26 (cv zeroC) := Blk.fr0 (Blk.new2 _ _ _ _) hf
  have F := (((Fr.refl Nil w).alloc (.cells (cv c) 26)).alloc (.cells (cv zeroC) 26)).trans hf
  clear hf
  go_wp2_with (refine wpList_load_blk rfl 26 (.tmp 4) rfl w.heap.size rfl _ hb Try.underlying26 rfl info26 ?_)
  refine (in0_ok _ _ _ _).mono ?_
  rintro e w3 ⟨rfl, hf3⟩
  have hr3 := Blk.fr0 hr hf3
  have F3 := F.trans hf3
  clear hf3 hr hb F
  go_wp2_with (refine wpList_store_blk0 rfl 26 (.tmp 8) (.tmp 49) rfl (w.heap.size + 1) rfl (cv (in0 c (esrF cl iss))) rfl hr3 info26 rfl (one_cv _) ?_; intro w4 hf4 hb4)
  refine bodyPost_ret (results_cell_tmp (p := 8) (q := 9) (ty := 26) rfl _ _ (w.heap.size + 1) (cv (in0 c (esrF cl iss))) _ rfl hb4 Try.underlying26 rfl info26) rfl ?_
  exact ⟨rfl, F3.own1 hf4 (by omega)⟩
set_option maxRecDepth 100000 in
set_option maxHeartbeats 1000000 in
theorem enter_2 (c : Cr) (cl iss far : Int) (w : World) (h : rightF c = true) (h0 : 0 ≤ cl) (h1 : cl ≤ 63) (h2 : 0 ≤ iss) (h3 : iss < 33554432)
    (n21 : (cl == 21) = false) (n32 : (cl == 32) = false) (n33 : (cl == 33) = false) (n34 : (cl == 34) = false) (n36 : (cl == 36) = false) (n37 : (cl == 37) = false) :
    Calls Try.prog 7 #[.agg (cv c), .int .i64 cl, .int .i64 iss, .int .u64 far] w fun e w' => e = .returned (.tuple #[.agg (cv (in2 c (esrF cl iss))), .int .i64 0]) ∧ Fr Nil w w' := by
  have H := Lib.hid h
  clear h
  go_enter Try.func7, Try.ntmps7
  go_wp2_with (refine wpList_load_blk rfl 26 (.tmp 4) rfl w.heap.size rfl _ (Blk.alloc (Blk.new _ _ _) _) Try.underlying26 rfl info26 ?_)
  refine (right_ok _ _).mono ?_
  rintro e w2 ⟨rfl, hf⟩
  rw [H.out]
  have hb : Blk w2 w.heap.size 26 (cv c) := Blk.fr0 (Blk.alloc (Blk.new _ _ _) _) hf
  have hr : Blk w2 (w.heap.size + 1) 26 (cv zeroC) := Blk.fr0 (Blk.new2 _ _ _ _) hf
  have F := (((Fr.refl Nil w).alloc (.cells (cv c) 26)).alloc (.cells (cv zeroC) 26)).trans hf
  clear hf
  go_wp2_with (refine wpList_load_blk rfl 26 (.tmp 4) rfl w.heap.size rfl _ hb Try.underlying26 rfl info26 ?_)
  refine (in2_ok _ _ _ _).mono ?_
  rintro e w3 ⟨rfl, hf3⟩
  have hr3 := Blk.fr0 hr hf3
  have F3 := F.trans hf3
  clear hf3 hr hb F
  go_wp2_with (refine wpList_store_blk0 rfl 26 (.tmp 8) (.tmp 49) rfl (w.heap.size + 1) rfl (cv (in2 c (esrF cl iss))) rfl hr3 info26 rfl (one_cv _) ?_; intro w4 hf4 hb4)
  refine bodyPost_ret (results_cell_tmp (p := 8) (q := 9) (ty := 26) rfl _ _ (w.heap.size + 1) (cv (in2 c (esrF cl iss))) _ rfl hb4 Try.underlying26 rfl info26) rfl ?_
  exact ⟨rfl, F3.own1 hf4 (by omega)⟩
set_option maxRecDepth 100000 in
set_option maxHeartbeats 1000000 in
theorem enter_1_32 (c : Cr) (cl iss far : Int) (w : World) (h : rightF c = true) (h0 : 0 ≤ cl) (h1 : cl ≤ 63) (h2 : 0 ≤ iss) (h3 : iss < 33554432)
    (n21 : (cl == 21) = false) (n32 : (cl == 32) = true) :
    Calls Try.prog 7 #[.agg (cv c), .int .i64 cl, .int .i64 iss, .int .u64 far] w fun e w' => e = .returned (.tuple #[.agg (cv (in1 c (esrF cl iss) far)), .int .i64 0]) ∧ Fr Nil w w' := by
  have H := Lib.hid h
  clear h
  go_enter Try.func7, Try.ntmps7
  go_wp2_with (refine wpList_load_blk rfl 26 (.tmp 4) rfl w.heap.size rfl _ (Blk.alloc (Blk.new _ _ _) _) Try.underlying26 rfl info26 ?_)
  refine (right_ok _ _).mono ?_
  rintro e w2 ⟨rfl, hf⟩
  rw [H.out]
  have hb : Blk w2 w.heap.size 26 (cv c) := Blk.fr0 (Blk.alloc (Blk.new _ _ _) _) hf
  have hr : Blk w2 (w.heap.size + 1) 26 (cv zeroC) := Blk.fr0 (Blk.new2 _ _ _ _) hf
  have F := (((Fr.refl Nil w).alloc (.cells (cv c) 26)).alloc (.cells (cv zeroC) 26)).trans hf
  clear hf
  go_wp2_with (refine wpList_load_blk rfl 26 (.tmp 4) rfl w.heap.size rfl _ hb Try.underlying26 rfl info26 ?_)
  refine (in1_ok _ _ _ _).mono ?_
  rintro e w3 ⟨rfl, hf3⟩
  have hr3 := Blk.fr0 hr hf3
  have F3 := F.trans hf3
  clear hf3 hr hb F
  go_wp2_with (refine wpList_store_blk0 rfl 26 (.tmp 8) (.tmp 49) rfl (w.heap.size + 1) rfl (cv (in1 c (esrF cl iss) far)) rfl hr3 info26 rfl (one_cv _) ?_; intro w4 hf4 hb4)
  refine bodyPost_ret (results_cell_tmp (p := 8) (q := 9) (ty := 26) rfl _ _ (w.heap.size + 1) (cv (in1 c (esrF cl iss) far)) _ rfl hb4 Try.underlying26 rfl info26) rfl ?_
  exact ⟨rfl, F3.own1 hf4 (by omega)⟩
set_option maxRecDepth 100000 in
set_option maxHeartbeats 1000000 in
theorem enter_1_33 (c : Cr) (cl iss far : Int) (w : World) (h : rightF c = true) (h0 : 0 ≤ cl) (h1 : cl ≤ 63) (h2 : 0 ≤ iss) (h3 : iss < 33554432)
    (n21 : (cl == 21) = false) (n32 : (cl == 32) = false) (n33 : (cl == 33) = true) :
    Calls Try.prog 7 #[.agg (cv c), .int .i64 cl, .int .i64 iss, .int .u64 far] w fun e w' => e = .returned (.tuple #[.agg (cv (in1 c (esrF cl iss) far)), .int .i64 0]) ∧ Fr Nil w w' := by
  have H := Lib.hid h
  clear h
  go_enter Try.func7, Try.ntmps7
  go_wp2_with (refine wpList_load_blk rfl 26 (.tmp 4) rfl w.heap.size rfl _ (Blk.alloc (Blk.new _ _ _) _) Try.underlying26 rfl info26 ?_)
  refine (right_ok _ _).mono ?_
  rintro e w2 ⟨rfl, hf⟩
  rw [H.out]
  have hb : Blk w2 w.heap.size 26 (cv c) := Blk.fr0 (Blk.alloc (Blk.new _ _ _) _) hf
  have hr : Blk w2 (w.heap.size + 1) 26 (cv zeroC) := Blk.fr0 (Blk.new2 _ _ _ _) hf
  have F := (((Fr.refl Nil w).alloc (.cells (cv c) 26)).alloc (.cells (cv zeroC) 26)).trans hf
  clear hf
  go_wp2_with (refine wpList_load_blk rfl 26 (.tmp 4) rfl w.heap.size rfl _ hb Try.underlying26 rfl info26 ?_)
  refine (in1_ok _ _ _ _).mono ?_
  rintro e w3 ⟨rfl, hf3⟩
  have hr3 := Blk.fr0 hr hf3
  have F3 := F.trans hf3
  clear hf3 hr hb F
  go_wp2_with (refine wpList_store_blk0 rfl 26 (.tmp 8) (.tmp 49) rfl (w.heap.size + 1) rfl (cv (in1 c (esrF cl iss) far)) rfl hr3 info26 rfl (one_cv _) ?_; intro w4 hf4 hb4)
  refine bodyPost_ret (results_cell_tmp (p := 8) (q := 9) (ty := 26) rfl _ _ (w.heap.size + 1) (cv (in1 c (esrF cl iss) far)) _ rfl hb4 Try.underlying26 rfl info26) rfl ?_
  exact ⟨rfl, F3.own1 hf4 (by omega)⟩
set_option maxRecDepth 100000 in
set_option maxHeartbeats 1000000 in
theorem enter_1_34 (c : Cr) (cl iss far : Int) (w : World) (h : rightF c = true) (h0 : 0 ≤ cl) (h1 : cl ≤ 63) (h2 : 0 ≤ iss) (h3 : iss < 33554432)
    (n21 : (cl == 21) = false) (n32 : (cl == 32) = false) (n33 : (cl == 33) = false) (n34 : (cl == 34) = true) :
    Calls Try.prog 7 #[.agg (cv c), .int .i64 cl, .int .i64 iss, .int .u64 far] w fun e w' => e = .returned (.tuple #[.agg (cv (in1 c (esrF cl iss) far)), .int .i64 0]) ∧ Fr Nil w w' := by
  have H := Lib.hid h
  clear h
  go_enter Try.func7, Try.ntmps7
  go_wp2_with (refine wpList_load_blk rfl 26 (.tmp 4) rfl w.heap.size rfl _ (Blk.alloc (Blk.new _ _ _) _) Try.underlying26 rfl info26 ?_)
  refine (right_ok _ _).mono ?_
  rintro e w2 ⟨rfl, hf⟩
  rw [H.out]
  have hb : Blk w2 w.heap.size 26 (cv c) := Blk.fr0 (Blk.alloc (Blk.new _ _ _) _) hf
  have hr : Blk w2 (w.heap.size + 1) 26 (cv zeroC) := Blk.fr0 (Blk.new2 _ _ _ _) hf
  have F := (((Fr.refl Nil w).alloc (.cells (cv c) 26)).alloc (.cells (cv zeroC) 26)).trans hf
  clear hf
  go_wp2_with (refine wpList_load_blk rfl 26 (.tmp 4) rfl w.heap.size rfl _ hb Try.underlying26 rfl info26 ?_)
  refine (in1_ok _ _ _ _).mono ?_
  rintro e w3 ⟨rfl, hf3⟩
  have hr3 := Blk.fr0 hr hf3
  have F3 := F.trans hf3
  clear hf3 hr hb F
  go_wp2_with (refine wpList_store_blk0 rfl 26 (.tmp 8) (.tmp 49) rfl (w.heap.size + 1) rfl (cv (in1 c (esrF cl iss) far)) rfl hr3 info26 rfl (one_cv _) ?_; intro w4 hf4 hb4)
  refine bodyPost_ret (results_cell_tmp (p := 8) (q := 9) (ty := 26) rfl _ _ (w.heap.size + 1) (cv (in1 c (esrF cl iss) far)) _ rfl hb4 Try.underlying26 rfl info26) rfl ?_
  exact ⟨rfl, F3.own1 hf4 (by omega)⟩
set_option maxRecDepth 100000 in
set_option maxHeartbeats 1000000 in
theorem enter_1_36 (c : Cr) (cl iss far : Int) (w : World) (h : rightF c = true) (h0 : 0 ≤ cl) (h1 : cl ≤ 63) (h2 : 0 ≤ iss) (h3 : iss < 33554432)
    (n21 : (cl == 21) = false) (n32 : (cl == 32) = false) (n33 : (cl == 33) = false) (n34 : (cl == 34) = false) (n36 : (cl == 36) = true) :
    Calls Try.prog 7 #[.agg (cv c), .int .i64 cl, .int .i64 iss, .int .u64 far] w fun e w' => e = .returned (.tuple #[.agg (cv (in1 c (esrF cl iss) far)), .int .i64 0]) ∧ Fr Nil w w' := by
  have H := Lib.hid h
  clear h
  go_enter Try.func7, Try.ntmps7
  go_wp2_with (refine wpList_load_blk rfl 26 (.tmp 4) rfl w.heap.size rfl _ (Blk.alloc (Blk.new _ _ _) _) Try.underlying26 rfl info26 ?_)
  refine (right_ok _ _).mono ?_
  rintro e w2 ⟨rfl, hf⟩
  rw [H.out]
  have hb : Blk w2 w.heap.size 26 (cv c) := Blk.fr0 (Blk.alloc (Blk.new _ _ _) _) hf
  have hr : Blk w2 (w.heap.size + 1) 26 (cv zeroC) := Blk.fr0 (Blk.new2 _ _ _ _) hf
  have F := (((Fr.refl Nil w).alloc (.cells (cv c) 26)).alloc (.cells (cv zeroC) 26)).trans hf
  clear hf
  go_wp2_with (refine wpList_load_blk rfl 26 (.tmp 4) rfl w.heap.size rfl _ hb Try.underlying26 rfl info26 ?_)
  refine (in1_ok _ _ _ _).mono ?_
  rintro e w3 ⟨rfl, hf3⟩
  have hr3 := Blk.fr0 hr hf3
  have F3 := F.trans hf3
  clear hf3 hr hb F
  go_wp2_with (refine wpList_store_blk0 rfl 26 (.tmp 8) (.tmp 49) rfl (w.heap.size + 1) rfl (cv (in1 c (esrF cl iss) far)) rfl hr3 info26 rfl (one_cv _) ?_; intro w4 hf4 hb4)
  refine bodyPost_ret (results_cell_tmp (p := 8) (q := 9) (ty := 26) rfl _ _ (w.heap.size + 1) (cv (in1 c (esrF cl iss) far)) _ rfl hb4 Try.underlying26 rfl info26) rfl ?_
  exact ⟨rfl, F3.own1 hf4 (by omega)⟩
set_option maxRecDepth 100000 in
set_option maxHeartbeats 1000000 in
theorem enter_1_37 (c : Cr) (cl iss far : Int) (w : World) (h : rightF c = true) (h0 : 0 ≤ cl) (h1 : cl ≤ 63) (h2 : 0 ≤ iss) (h3 : iss < 33554432)
    (n21 : (cl == 21) = false) (n32 : (cl == 32) = false) (n33 : (cl == 33) = false) (n34 : (cl == 34) = false) (n36 : (cl == 36) = false) (n37 : (cl == 37) = true) :
    Calls Try.prog 7 #[.agg (cv c), .int .i64 cl, .int .i64 iss, .int .u64 far] w fun e w' => e = .returned (.tuple #[.agg (cv (in1 c (esrF cl iss) far)), .int .i64 0]) ∧ Fr Nil w w' := by
  have H := Lib.hid h
  clear h
  go_enter Try.func7, Try.ntmps7
  go_wp2_with (refine wpList_load_blk rfl 26 (.tmp 4) rfl w.heap.size rfl _ (Blk.alloc (Blk.new _ _ _) _) Try.underlying26 rfl info26 ?_)
  refine (right_ok _ _).mono ?_
  rintro e w2 ⟨rfl, hf⟩
  rw [H.out]
  have hb : Blk w2 w.heap.size 26 (cv c) := Blk.fr0 (Blk.alloc (Blk.new _ _ _) _) hf
  have hr : Blk w2 (w.heap.size + 1) 26 (cv zeroC) := Blk.fr0 (Blk.new2 _ _ _ _) hf
  have F := (((Fr.refl Nil w).alloc (.cells (cv c) 26)).alloc (.cells (cv zeroC) 26)).trans hf
  clear hf
  go_wp2_with (refine wpList_load_blk rfl 26 (.tmp 4) rfl w.heap.size rfl _ hb Try.underlying26 rfl info26 ?_)
  refine (in1_ok _ _ _ _).mono ?_
  rintro e w3 ⟨rfl, hf3⟩
  have hr3 := Blk.fr0 hr hf3
  have F3 := F.trans hf3
  clear hf3 hr hb F
  go_wp2_with (refine wpList_store_blk0 rfl 26 (.tmp 8) (.tmp 49) rfl (w.heap.size + 1) rfl (cv (in1 c (esrF cl iss) far)) rfl hr3 info26 rfl (one_cv _) ?_; intro w4 hf4 hb4)
  refine bodyPost_ret (results_cell_tmp (p := 8) (q := 9) (ty := 26) rfl _ _ (w.heap.size + 1) (cv (in1 c (esrF cl iss) far)) _ rfl hb4 Try.underlying26 rfl info26) rfl ?_
  exact ⟨rfl, F3.own1 hf4 (by omega)⟩

def enF (c : Cr) (cl iss far : Int) : Cr :=
  if cl = 21 then in0 c (esrF cl iss) else if cl = 32 ∨ cl = 33 ∨ cl = 34 ∨ cl = 36 ∨ cl = 37 then in1 c (esrF cl iss) far else in2 c (esrF cl iss)
theorem beq_yes {a b : Int} (h : a = b) : (a == b) = true := by simp [h]
theorem beq_no {a b : Int} (h : ¬ a = b) : (a == b) = false := by simp [h]
theorem enter_ok (c : Cr) (cl iss far : Int) (w : World) (h : rightF c = true) (h0 : 0 ≤ cl) (h1 : cl ≤ 63) (h2 : 0 ≤ iss) (h3 : iss < 33554432) :
    Calls Try.prog 7 #[.agg (cv c), .int .i64 cl, .int .i64 iss, .int .u64 far] w fun e w' => e = .returned (.tuple #[.agg (cv (enF c cl iss far)), .int .i64 0]) ∧ Fr Nil w w' := by
  unfold enF
  by_cases k21 : cl = 21
  · rw [if_pos k21]; exact enter_0 c cl iss far w h h0 h1 h2 h3 (beq_yes k21)
  rw [if_neg k21]
  by_cases k32 : cl = 32
  · rw [if_pos (by omega)]; exact enter_1_32 c cl iss far w h h0 h1 h2 h3 (beq_no k21)  (beq_yes k32)
  by_cases k33 : cl = 33
  · rw [if_pos (by omega)]; exact enter_1_33 c cl iss far w h h0 h1 h2 h3 (beq_no k21) (beq_no k32) (beq_yes k33)
  by_cases k34 : cl = 34
  · rw [if_pos (by omega)]; exact enter_1_34 c cl iss far w h h0 h1 h2 h3 (beq_no k21) (beq_no k32) (beq_no k33) (beq_yes k34)
  by_cases k36 : cl = 36
  · rw [if_pos (by omega)]; exact enter_1_36 c cl iss far w h h0 h1 h2 h3 (beq_no k21) (beq_no k32) (beq_no k33) (beq_no k34) (beq_yes k36)
  by_cases k37 : cl = 37
  · rw [if_pos (by omega)]; exact enter_1_37 c cl iss far w h h0 h1 h2 h3 (beq_no k21) (beq_no k32) (beq_no k33) (beq_no k34) (beq_no k36) (beq_yes k37)
  rw [if_neg (by omega)]
  exact enter_2 c cl iss far w h h0 h1 h2 h3 (beq_no k21) (beq_no k32) (beq_no k33) (beq_no k34) (beq_no k36) (beq_no k37)
set_option maxRecDepth 100000 in
set_option maxHeartbeats 1000000 in
theorem enter_b0 (c : Cr) (cl iss far : Int) (w : World) (h : rightF c = false) :
    Calls Try.prog 7 #[.agg (cv c), .int .i64 cl, .int .i64 iss, .int .u64 far] w fun e w' => e = .returned (.tuple #[.agg (cv zeroC), .int .i64 1]) ∧ Fr Nil w w' := by
  have H := Lib.hid h
  clear h
  go_enter Try.func7, Try.ntmps7
  go_wp2_with (refine wpList_load_blk rfl 26 (.tmp 4) rfl w.heap.size rfl _ (Blk.alloc (Blk.new _ _ _) _) Try.underlying26 rfl info26 ?_)
  refine (right_ok _ _).mono ?_
  rintro e w2 ⟨rfl, hf⟩
  rw [H.out]
  have hr : Blk w2 (w.heap.size + 1) 26 (cv zeroC) := Blk.fr0 (Blk.new2 _ _ _ _) hf
  have F := (((Fr.refl Nil w).alloc (.cells (cv c) 26)).alloc (.cells (cv zeroC) 26)).trans hf
  clear hf
  go_wp2_with (refine wpList_store_blk0 rfl 26 (.tmp 8) (.tmp 30) rfl (w.heap.size + 1) rfl (cv zeroC) rfl hr info26 rfl (one_cv _) ?_; intro w4 hf4 hb4)
  refine bodyPost_ret (results_cell_tmp (p := 8) (q := 9) (ty := 26) rfl _ _ (w.heap.size + 1) (cv zeroC) _ rfl hb4 Try.underlying26 rfl info26) rfl ?_
  exact ⟨rfl, F.own1 hf4 (by omega)⟩
set_option maxRecDepth 100000 in
set_option maxHeartbeats 1000000 in
theorem enter_b1 (c : Cr) (cl iss far : Int) (w : World) (h : rightF c = true) (h1 : cl < 0) :
    Calls Try.prog 7 #[.agg (cv c), .int .i64 cl, .int .i64 iss, .int .u64 far] w fun e w' => e = .returned (.tuple #[.agg (cv zeroC), .int .i64 1]) ∧ Fr Nil w w' := by
  have H := Lib.hid h
  clear h
  go_enter Try.func7, Try.ntmps7
  go_wp2_with (refine wpList_load_blk rfl 26 (.tmp 4) rfl w.heap.size rfl _ (Blk.alloc (Blk.new _ _ _) _) Try.underlying26 rfl info26 ?_)
  refine (right_ok _ _).mono ?_
  rintro e w2 ⟨rfl, hf⟩
  rw [H.out]
  have hr : Blk w2 (w.heap.size + 1) 26 (cv zeroC) := Blk.fr0 (Blk.new2 _ _ _ _) hf
  have F := (((Fr.refl Nil w).alloc (.cells (cv c) 26)).alloc (.cells (cv zeroC) 26)).trans hf
  clear hf
  go_wp2_with (refine wpList_store_blk0 rfl 26 (.tmp 8) (.tmp 30) rfl (w.heap.size + 1) rfl (cv zeroC) rfl hr info26 rfl (one_cv _) ?_; intro w4 hf4 hb4)
  refine bodyPost_ret (results_cell_tmp (p := 8) (q := 9) (ty := 26) rfl _ _ (w.heap.size + 1) (cv zeroC) _ rfl hb4 Try.underlying26 rfl info26) rfl ?_
  exact ⟨rfl, F.own1 hf4 (by omega)⟩
set_option maxRecDepth 100000 in
set_option maxHeartbeats 1000000 in
theorem enter_b2 (c : Cr) (cl iss far : Int) (w : World) (h : rightF c = true) (h1 : 63 < cl) :
    Calls Try.prog 7 #[.agg (cv c), .int .i64 cl, .int .i64 iss, .int .u64 far] w fun e w' => e = .returned (.tuple #[.agg (cv zeroC), .int .i64 1]) ∧ Fr Nil w w' := by
  have H := Lib.hid h
  clear h
  go_enter Try.func7, Try.ntmps7
  go_wp2_with (refine wpList_load_blk rfl 26 (.tmp 4) rfl w.heap.size rfl _ (Blk.alloc (Blk.new _ _ _) _) Try.underlying26 rfl info26 ?_)
  refine (right_ok _ _).mono ?_
  rintro e w2 ⟨rfl, hf⟩
  rw [H.out]
  have hr : Blk w2 (w.heap.size + 1) 26 (cv zeroC) := Blk.fr0 (Blk.new2 _ _ _ _) hf
  have F := (((Fr.refl Nil w).alloc (.cells (cv c) 26)).alloc (.cells (cv zeroC) 26)).trans hf
  clear hf
  go_wp2_with (refine wpList_store_blk0 rfl 26 (.tmp 8) (.tmp 30) rfl (w.heap.size + 1) rfl (cv zeroC) rfl hr info26 rfl (one_cv _) ?_; intro w4 hf4 hb4)
  refine bodyPost_ret (results_cell_tmp (p := 8) (q := 9) (ty := 26) rfl _ _ (w.heap.size + 1) (cv zeroC) _ rfl hb4 Try.underlying26 rfl info26) rfl ?_
  exact ⟨rfl, F.own1 hf4 (by omega)⟩
set_option maxRecDepth 100000 in
set_option maxHeartbeats 1000000 in
theorem enter_b3 (c : Cr) (cl iss far : Int) (w : World) (h : rightF c = true) (h0 : 0 ≤ cl) (h1 : cl ≤ 63) (h2 : iss < 0) :
    Calls Try.prog 7 #[.agg (cv c), .int .i64 cl, .int .i64 iss, .int .u64 far] w fun e w' => e = .returned (.tuple #[.agg (cv zeroC), .int .i64 1]) ∧ Fr Nil w w' := by
  have H := Lib.hid h
  clear h
  go_enter Try.func7, Try.ntmps7
  go_wp2_with (refine wpList_load_blk rfl 26 (.tmp 4) rfl w.heap.size rfl _ (Blk.alloc (Blk.new _ _ _) _) Try.underlying26 rfl info26 ?_)
  refine (right_ok _ _).mono ?_
  rintro e w2 ⟨rfl, hf⟩
  rw [H.out]
  have hr : Blk w2 (w.heap.size + 1) 26 (cv zeroC) := Blk.fr0 (Blk.new2 _ _ _ _) hf
  have F := (((Fr.refl Nil w).alloc (.cells (cv c) 26)).alloc (.cells (cv zeroC) 26)).trans hf
  clear hf
  go_wp2_with (refine wpList_store_blk0 rfl 26 (.tmp 8) (.tmp 30) rfl (w.heap.size + 1) rfl (cv zeroC) rfl hr info26 rfl (one_cv _) ?_; intro w4 hf4 hb4)
  refine bodyPost_ret (results_cell_tmp (p := 8) (q := 9) (ty := 26) rfl _ _ (w.heap.size + 1) (cv zeroC) _ rfl hb4 Try.underlying26 rfl info26) rfl ?_
  exact ⟨rfl, F.own1 hf4 (by omega)⟩
set_option maxRecDepth 100000 in
set_option maxHeartbeats 1000000 in
theorem enter_b4 (c : Cr) (cl iss far : Int) (w : World) (h : rightF c = true) (h0 : 0 ≤ cl) (h1 : cl ≤ 63) (h2 : 33554432 ≤ iss) :
    Calls Try.prog 7 #[.agg (cv c), .int .i64 cl, .int .i64 iss, .int .u64 far] w fun e w' => e = .returned (.tuple #[.agg (cv zeroC), .int .i64 1]) ∧ Fr Nil w w' := by
  have H := Lib.hid h
  clear h
  go_enter Try.func7, Try.ntmps7
  go_wp2_with (refine wpList_load_blk rfl 26 (.tmp 4) rfl w.heap.size rfl _ (Blk.alloc (Blk.new _ _ _) _) Try.underlying26 rfl info26 ?_)
  refine (right_ok _ _).mono ?_
  rintro e w2 ⟨rfl, hf⟩
  rw [H.out]
  have hr : Blk w2 (w.heap.size + 1) 26 (cv zeroC) := Blk.fr0 (Blk.new2 _ _ _ _) hf
  have F := (((Fr.refl Nil w).alloc (.cells (cv c) 26)).alloc (.cells (cv zeroC) 26)).trans hf
  clear hf
  go_wp2_with (refine wpList_store_blk0 rfl 26 (.tmp 8) (.tmp 30) rfl (w.heap.size + 1) rfl (cv zeroC) rfl hr info26 rfl (one_cv _) ?_; intro w4 hf4 hb4)
  refine bodyPost_ret (results_cell_tmp (p := 8) (q := 9) (ty := 26) rfl _ _ (w.heap.size + 1) (cv zeroC) _ rfl hb4 Try.underlying26 rfl info26) rfl ?_
  exact ⟨rfl, F.own1 hf4 (by omega)⟩
theorem enter_bad (c : Cr) (cl iss far : Int) (w : World) (h : ¬ (rightF c = true ∧ 0 ≤ cl ∧ cl ≤ 63 ∧ 0 ≤ iss ∧ iss < 33554432)) :
    Calls Try.prog 7 #[.agg (cv c), .int .i64 cl, .int .i64 iss, .int .u64 far] w fun e w' => e = .returned (.tuple #[.agg (cv zeroC), .int .i64 1]) ∧ Fr Nil w w' := by
  cases hr : rightF c with
  | false => exact enter_b0 c cl iss far w hr
  | true =>
    by_cases a1 : cl < 0
    · exact enter_b1 c cl iss far w hr a1
    by_cases a2 : 63 < cl
    · exact enter_b2 c cl iss far w hr a2
    by_cases a3 : iss < 0
    · exact enter_b3 c cl iss far w hr (by omega) (by omega) a3
    · exact enter_b4 c cl iss far w hr (by omega) (by omega) (by
        rcases Int.lt_or_le iss 33554432 with x | x
        · exact absurd ⟨hr, by omega, by omega, by omega, x⟩ h
        · exact x)
end Go.Proofs.Ytkcdojlfliemmaa
