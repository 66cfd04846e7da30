/- The walk of RegsBack. -/
import Derived.Test.YtiaflkabnaofpaaLTurned
namespace Go.Proofs.Ytiaflkabnaofpaa
open Go.RowKit
set_option linter.unusedVariables false
attribute [local go_sem] fold0

theorem crEq_refl (c : Cr) : crEq c c = true := by simp [crEq]
theorem upd_back (X : Nat → Int) (r : Nat) (v : Int) : upd (upd X r v) r (X r) = X := by
  funext i
  unfold upd
  by_cases h : i = r
  · simp [h]
  · simp [h]
theorem crEq_back (c : Cr) (r : Nat) (v : Int) : crEq { c with X := upd (upd c.X r v) r (c.X r) } c = true := by
  rw [upd_back]; exact crEq_refl c

set_option maxRecDepth 100000 in
set_option maxHeartbeats 4000000 in
theorem regsBack_bad (c : Cr) (a1 a2 : Int) (w : World) (h : a1 < 0 ∨ 31 < a1) :
    Calls Try.prog 5 #[.agg (cv c), .int .i64 a1, .int .u64 a2] w fun e w' => e = .returned (.bool true) ∧ Below w.heap.size w w' := by
  have H := Lib.hid h
  clear h
  have heq : ∀ W : World, (binOp .eql 26 (.agg (cv zeroC)) (.agg (cv zeroC))).run Try.prog W = .ok (.bool true) W := fun W => by rw [run_eq_core, crEq_refl]
  go_enter Try.func5, Try.ntmps5
  go_wp2_with fail
  refine (examples_ok _).mono ?_
  rintro e w2 ⟨rfl, hf2⟩
  have hb2 : Blk w2 w.heap.size 26 (cv c) := Blk.fr0 (Blk.new _ _ _) hf2
  have F2 := ((Fr.refl Nil w).alloc (.cells (cv c) 26)).trans hf2
  clear hf2
  generalize hgc : w.heap.size = gc at *
  have Hgc := Lib.hid hgc
  clear hgc
  go_wp2_with (refine wpList_load_blk rfl 26 (.tmp 3) rfl gc rfl _ hb2 Try.underlying26 rfl info26 ?_)
  refine (x_bad c a1 _ H.out).mono ?_
  rintro e w3 ⟨rfl, hf3⟩
  have hb3 := Blk.fr0 hb2 hf3
  have F3 := F2.trans hf3
  clear hb2 F2 hf3
  go_wp2_with (refine wpList_load_blk rfl 26 (.tmp 3) rfl gc rfl _ hb3 Try.underlying26 rfl info26 ?_)
  refine (setx_bad c a1 _ _ H.out).mono ?_
  rintro e w4 ⟨rfl, hf4⟩
  have F4 := F3.trans hf4
  clear hb3 F3 hf4
  go_wp2_with (first
    | (refine wpList_store_blk0 rfl 26 (.tmp 10) (.tmp 30) rfl w4.heap.size rfl (cv zeroC) rfl (Blk.new _ _ _) info26 rfl (one_cv _) ?_; intro w5 hf5 hb5)
    | (refine wpList_load_blkg rfl 26 (.tmp 10) rfl w4.heap.size rfl _ hb5 Try.underlying26 rfl info26 ?_))
  go_ret
  exact ⟨rfl, ((F4.alloc _).own1 hf5 (by have := F4.size; omega)).below (by rw [Hgc.out]; exact Nat.le_refl _) (fun _ _ => id)⟩

set_option maxRecDepth 100000 in
set_option maxHeartbeats 4000000 in
theorem regsBack_zr (c : Cr) (a2 : Int) (w : World) :
    Calls Try.prog 5 #[.agg (cv c), .int .i64 31, .int .u64 a2] w fun e w' => e = .returned (.bool true) ∧ Below w.heap.size w w' := by
  have heq : ∀ W : World, (binOp .eql 26 (.agg (cv c)) (.agg (cv c))).run Try.prog W = .ok (.bool true) W := fun W => by rw [run_eq_core, crEq_refl]
  go_enter Try.func5, Try.ntmps5
  go_wp2_with fail
  refine (examples_ok _).mono ?_
  rintro e w2 ⟨rfl, hf2⟩
  have hb2 : Blk w2 w.heap.size 26 (cv c) := Blk.fr0 (Blk.new _ _ _) hf2
  have F2 := ((Fr.refl Nil w).alloc (.cells (cv c) 26)).trans hf2
  clear hf2
  generalize hgc : w.heap.size = gc at *
  have Hgc := Lib.hid hgc
  clear hgc
  go_wp2_with (refine wpList_load_blk rfl 26 (.tmp 3) rfl gc rfl _ hb2 Try.underlying26 rfl info26 ?_)
  refine (x_zr c _).mono ?_
  rintro e w3 ⟨rfl, hf3⟩
  have hb3 := Blk.fr0 hb2 hf3
  have F3 := F2.trans hf3
  clear hb2 F2 hf3
  go_wp2_with (refine wpList_load_blk rfl 26 (.tmp 3) rfl gc rfl _ hb3 Try.underlying26 rfl info26 ?_)
  refine (setx_zr c _ _).mono ?_
  rintro e w4 ⟨rfl, hf4⟩
  have hb4 := Blk.fr0 hb3 hf4
  have F4 := F3.trans hf4
  have hg4 := hb4.lt
  clear hb3 F3 hf4
  go_wp2_with (first
    | (refine wpList_store_blk0 rfl 26 (.tmp 10) (.tmp 30) rfl w4.heap.size rfl (cv c) rfl (Blk.new _ _ _) info26 rfl (one_cv _) ?_; intro w5 hf5 hb5)
    | (refine wpList_load_blk rfl 26 (.tmp 10) rfl w4.heap.size rfl _ hb5 Try.underlying26 rfl info26 ?_))
  have hc5 : Blk w5 gc 26 (cv c) := Blk.fr1 (Blk.alloc hb4 _) hf5 (by omega)
  have F5 := (F4.alloc _).own1 hf5 (by have := F4.size; omega)
  have hg5 := hc5.lt
  have hg6 := hb5.lt
  clear hf5 F4 hb4
  generalize w4.heap.size = gd at *
  refine (x_zr c _).mono ?_
  rintro e w6 ⟨rfl, hf6⟩
  have hb6 := Blk.fr0 hb5 hf6
  have hc6 := Blk.fr0 hc5 hf6
  have F6 := F5.trans hf6
  clear hb5 hc5 F5 hf6
  go_wp2_with (refine wpList_load_blk rfl 26 (.tmp 10) rfl gd rfl _ hb6 Try.underlying26 rfl info26 ?_)
  refine (setx_zr c _ _).mono ?_
  rintro e w7 ⟨rfl, hf7⟩
  have hc7 := Blk.fr0 hc6 hf7
  have F7 := F6.trans hf7
  have hg7 := hc7.lt
  clear hb6 hc6 F6 hf7
  go_wp2_with (first
    | (refine wpList_store_blk0 rfl 26 (.tmp 14) (.tmp 60) rfl w7.heap.size rfl (cv c) rfl (Blk.new _ _ _) info26 rfl (one_cv _) ?_; intro w8 hf8 hb8)
    | (refine wpList_load_blkg rfl 26 (.tmp 14) rfl w7.heap.size rfl _ hb8 Try.underlying26 rfl info26 ?_)
    | (refine wpList_load_blkg rfl 26 (.tmp 3) rfl gc rfl _ (Blk.fr1 (Blk.alloc hc7 _) hf8 (by omega)) Try.underlying26 rfl info26 ?_))
  all_goals go_ret
  all_goals exact ⟨by simp [*], ((F7.alloc _).own1 hf8 (by have := F7.size; omega)).below (by rw [Hgc.out]; exact Nat.le_refl _) (fun _ _ => id)⟩

set_option maxRecDepth 100000 in
set_option maxHeartbeats 4000000 in
theorem regsBack_ok (c : Cr) (r : Nat) (a2 : Int) (w : World) (hr : r < 31) :
    Calls Try.prog 5 #[.agg (cv c), .int .i64 (r : Int), .int .u64 a2] w fun e w' => e = .returned (.bool true) ∧ Below w.heap.size w w' := by
  have hr31 : (r : Int) < 31 := by omega
  have heq : ∀ W : World, (binOp .eql 26 (.agg (cv { c with X := upd (upd c.X r a2) r (c.X r) })) (.agg (cv c))).run Try.prog W = .ok (.bool true) W := fun W => by rw [run_eq_core, crEq_back]
  go_enter Try.func5, Try.ntmps5
  go_wp2_with fail
  refine (examples_ok _).mono ?_
  rintro e w2 ⟨rfl, hf2⟩
  have hb2 : Blk w2 w.heap.size 26 (cv c) := Blk.fr0 (Blk.new _ _ _) hf2
  have F2 := ((Fr.refl Nil w).alloc (.cells (cv c) 26)).trans hf2
  clear hf2
  generalize hgc : w.heap.size = gc at *
  have Hgc := Lib.hid hgc
  clear hgc
  go_wp2_with (refine wpList_load_blk rfl 26 (.tmp 3) rfl gc rfl _ hb2 Try.underlying26 rfl info26 ?_)
  refine (x_ok c r _ hr).mono ?_
  rintro e w3 ⟨rfl, hf3⟩
  have hb3 := Blk.fr0 hb2 hf3
  have F3 := F2.trans hf3
  clear hb2 F2 hf3
  go_wp2_with (refine wpList_load_blk rfl 26 (.tmp 3) rfl gc rfl _ hb3 Try.underlying26 rfl info26 ?_)
  refine (setx_ok c r _ _ hr).mono ?_
  rintro e w4 ⟨rfl, hf4⟩
  have hb4 := Blk.fr0 hb3 hf4
  have F4 := F3.trans hf4
  have hg4 := hb4.lt
  clear hb3 F3 hf4
  go_wp2_with (first
    | (refine wpList_store_blk0 rfl 26 (.tmp 10) (.tmp 30) rfl w4.heap.size rfl (cv { c with X := upd c.X r a2 }) rfl (Blk.new _ _ _) info26 rfl (one_cv _) ?_; intro w5 hf5 hb5)
    | (refine wpList_load_blk rfl 26 (.tmp 10) rfl w4.heap.size rfl _ hb5 Try.underlying26 rfl info26 ?_))
  have hc5 : Blk w5 gc 26 (cv c) := Blk.fr1 (Blk.alloc hb4 _) hf5 (by omega)
  have F5 := (F4.alloc _).own1 hf5 (by have := F4.size; omega)
  have hg5 := hc5.lt
  have hg6 := hb5.lt
  clear hf5 F4 hb4
  generalize w4.heap.size = gd at *
  refine (x_ok _ r _ hr).mono ?_
  rintro e w6 ⟨rfl, hf6⟩
  have hb6 := Blk.fr0 hb5 hf6
  have hc6 := Blk.fr0 hc5 hf6
  have F6 := F5.trans hf6
  clear hb5 hc5 F5 hf6
  go_wp2_with (refine wpList_load_blk rfl 26 (.tmp 10) rfl gd rfl _ hb6 Try.underlying26 rfl info26 ?_)
  refine (setx_ok _ r _ _ hr).mono ?_
  rintro e w7 ⟨rfl, hf7⟩
  have hc7 := Blk.fr0 hc6 hf7
  have F7 := F6.trans hf7
  have hg7 := hc7.lt
  clear hb6 hc6 F6 hf7
  simp only [upd_same]
  go_wp2_with (first
    | (refine wpList_store_blk0 rfl 26 (.tmp 14) (.tmp 60) rfl w7.heap.size rfl (cv { c with X := upd (upd c.X r a2) r (c.X r) }) rfl (Blk.new _ _ _) info26 rfl (one_cv _) ?_; intro w8 hf8 hb8)
    | (refine wpList_load_blkg rfl 26 (.tmp 14) rfl w7.heap.size rfl _ hb8 Try.underlying26 rfl info26 ?_)
    | (refine wpList_load_blkg rfl 26 (.tmp 3) rfl gc rfl _ (Blk.fr1 (Blk.alloc hc7 _) hf8 (by omega)) Try.underlying26 rfl info26 ?_))
  all_goals go_ret
  all_goals exact ⟨by simp [*], ((F7.alloc _).own1 hf8 (by have := F7.size; omega)).below (by rw [Hgc.out]; exact Nat.le_refl _) (fun _ _ => id)⟩

theorem regsBack_walk (c : Cr) (a1 a2 : Int) (w : World) (w0 : WfC c) (w1 : (Lit.int .i64 a1).wf = true) (w2 : (Lit.int .u64 a2).wf = true) :
    Calls Try.prog 5 #[.agg (cv c), .int .i64 a1, .int .u64 a2] w fun e w' => e = .returned (.bool true) ∧ Below w.heap.size w w' := by
  by_cases h : a1 < 0 ∨ 31 < a1
  · exact regsBack_bad c a1 a2 w h
  · by_cases h2 : a1 = 31
    · subst h2; exact regsBack_zr c a2 w
    · obtain ⟨r, rfl⟩ : ∃ r : Nat, a1 = (r : Int) := ⟨a1.toNat, by omega⟩
      exact regsBack_ok c r a2 w (by omega)
end Go.Proofs.Ytiaflkabnaofpaa
