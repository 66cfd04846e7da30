/- The walk of TrapKeeps. -/
import Derived.Test.YtkcdojlfliemmaaEx
import Derived.Test.YtkcdojlfliemmaaBase3
import Derived.Test.YtkcdojlfliemmaaArg
namespace Go.Proofs.Ytkcdojlfliemmaa
open Go.RowKit
set_option linter.unusedVariables false
attribute [local go_sem] fold0

theorem crEq_refl (c : Cr) : crEq c c = true := by simp [crEq]
def kp (c : Cr) (s e r f p : Int) : Cr := { c with Spsr := s, Elr := e, Esr := r, Far := f, PC := p, EL := 1, M := true, Wait := 0 }
theorem enF_shape (c : Cr) (cl iss far : Int) : ∃ e r f, enF c cl iss far = kp c (psF c) e r f (vecF c) := by
  unfold enF
  split
  · exact ⟨_, _, _, rfl⟩
  · split
    · exact ⟨_, _, _, rfl⟩
    · exact ⟨_, _, _, rfl⟩
theorem may_psF (c : Cr) : mayF (psF c) = true := by
  unfold psF psM nzP
  by_cases h : c.EL = 1 <;> cases c.M <;> cases c.N <;> cases c.Z <;> cases c.C <;> cases c.V <;> simp [h] <;> decide
theorem enter_kp (c : Cr) (s e r f p cl iss far : Int) (w : World) (hE : enF c cl iss far = kp c s e r f p) (h : rightF c = true) (h0 : 0 ≤ cl) (h1 : cl ≤ 63) (h2 : 0 ≤ iss) (h3 : iss < 33554432) :
    Calls Try.prog 7 #[.agg (cv c), .int .i64 cl, .int .i64 iss, .int .u64 far] w fun e' w' => e' = .returned (.tuple #[.agg (cv (kp c s e r f p)), .int .i64 0]) ∧ Fr Nil w w' := by
  rw [← hE]
  exact enter_ok c cl iss far w h h0 h1 h2 h3
theorem may_yes (s : Int) (w : World) (h : mayF s = true) : Calls Try.prog 8 #[.int .u64 s] w fun e w' => e = .returned (.bool true) ∧ w = w' := by
  rw [← h]
  exact may_ok s w
theorem eq_X (a b : Cr) (h : a.X = b.X) (w : World) : (binOp .eql 23 (.agg ((cv a).extract 0 (0 + 31))) (.agg ((cv b).extract 0 (0 + 31)))).run Try.prog w = .ok (.bool true) w := by
  obtain ⟨i0, hi, _, hs, _⟩ := info_parts Try.info22
  have h1 := run_eq_ints (P := Try.prog) w 9998 23 22 31 .u64 (by kernel_rfl) Try.underlying22 ((cv a).extract 0 31) ((cv b).extract 0 31) a.X b.X i0 hi hs (cv_ext31 a) (cv_ext31 b)
  rw [h] at h1
  simp [go_sem, h1]
theorem eq_S (a b : Cr) (h0 : a.S0 = b.S0) (h1 : a.S1 = b.S1) (w : World) : (binOp .eql 24 (.agg ((cv a).extract 31 (31 + 2))) (.agg ((cv b).extract 31 (31 + 2)))).run Try.prog w = .ok (.bool true) w := by
  obtain ⟨i0, hi, _, hs, _⟩ := info_parts Try.info22
  have h2 := run_eq_ints (P := Try.prog) w 9998 24 22 2 .u64 (by kernel_rfl) Try.underlying22 ((cv a).extract 31 33) ((cv b).extract 31 33) _ _ i0 hi hs (cv_ext2 a) (cv_ext2 b)
  rw [h0, h1] at h2
  simp [go_sem, h2]
theorem size23 : (Try.prog.info? 23).map (·.size) = some 31 := by kernel_rfl
theorem size24 : (Try.prog.info? 24).map (·.size) = some 2 := by kernel_rfl
theorem u23 : Try.prog.underlying 23 = some (.array 31 22) := by kernel_rfl
theorem u24 : Try.prog.underlying 24 = some (.array 2 22) := by kernel_rfl

theorem le_X (c : Cr) : 0 + 31 ≤ (cv c).size := by rw [cv_size]; decide
theorem le_S (c : Cr) : 31 + 2 ≤ (cv c).size := by rw [cv_size]; decide
set_option maxRecDepth 100000 in
set_option maxHeartbeats 4000000 in
theorem keeps_bad (c : Cr) (a1 a2 a3 : Int) (w : World) (h : ¬ (rightF c = true ∧ 0 ≤ a1 ∧ a1 ≤ 63 ∧ 0 ≤ a2 ∧ a2 < 33554432)) :
    Calls Try.prog 3 #[.agg (cv c), .int .i64 a1, .int .i64 a2, .int .u64 a3] w fun e w' => e = .returned (.bool true) ∧ Below w.heap.size w w' := by
  have H := Lib.hid h
  clear h
  have heq : ∀ W : World, (binOp .eql 26 (.agg (cv zeroC)) (.agg (cv zeroC))).run Try.prog W = .ok (.bool true) W := fun W => by rw [run_eq_core, crEq_refl]
  go_enter Try.func3, Try.ntmps3
  go_wp2_with fail
  refine (examples_ok _).mono ?_
  rintro e w2 ⟨rfl, hf2⟩
  have hb2 : Blk w2 w.heap.size 26 (cv c) := Blk.fr0 (Blk.new _ _ _) hf2
  have F2 := ((Fr.refl Nil w).alloc (.cells (cv c) 26)).trans hf2
  clear hf2
  generalize hgc : w.heap.size = gc at *
  have Hgc := Lib.hid hgc
  clear hgc
  go_wp2_with (refine wpList_load_blk rfl 26 (.tmp 4) rfl gc rfl _ hb2 Try.underlying26 rfl info26 ?_)
  refine (enter_bad c a1 a2 a3 _ H.out).mono ?_
  rintro e w3 ⟨rfl, hf3⟩
  have F3 := F2.trans hf3
  clear hb2 F2 hf3
  go_wp2_with (first
    | (refine wpList_store_blk0 rfl 26 (.tmp 10) (.tmp 21) rfl w3.heap.size rfl (cv zeroC) rfl (Blk.new _ _ _) info26 rfl (one_cv _) ?_; intro w5 hf5 hb5)
    | (refine wpList_load_blkg rfl 26 (.tmp 10) rfl w3.heap.size rfl _ hb5 Try.underlying26 rfl info26 ?_))
  go_ret
  exact ⟨rfl, ((F3.alloc _).own1 hf5 (by have := F3.size; omega)).below (by rw [Hgc.out]; exact Nat.le_refl _) (fun _ _ => id)⟩

set_option maxRecDepth 100000 in
set_option maxHeartbeats 4000000 in
theorem keeps_ok (c : Cr) (s e r f p l a1 a2 a3 : Int) (w : World) (hE : enF c a1 a2 a3 = kp c s e r f p) (hr : rightF c = true) (h0 : 0 ≤ a1) (h1 : a1 ≤ 63) (h2 : 0 ≤ a2) (h3 : a2 < 33554432)
    (hs : mayF s = true) (hl : c.EL = l) (hp : (IntKind.u64.wrap (p - c.Vbar) == IntKind.u64.wrap (1024 - IntKind.u64.wrap (512 * IntKind.u64.wrap l))) = true) :
    Calls Try.prog 3 #[.agg (cv c), .int .i64 a1, .int .i64 a2, .int .u64 a3] w fun e w' => e = .returned (.bool true) ∧ Below w.heap.size w w' := by
  have HE := Lib.hid hE
  have HR := Lib.hid hr
  have HS := Lib.hid hs
  have HL := Lib.hid hl
  have HP := Lib.hid hp
  have H0 := Lib.hid h0
  have H1 := Lib.hid h1
  have H2 := Lib.hid h2
  have H3 := Lib.hid h3
  clear hE hr hs hl hp h0 h1 h2 h3
  have heX := eq_X (kp c s e r f p) c rfl
  have heS := eq_S (kp c s e r f p) c rfl rfl
  have hf0 : ∀ (b : Nat) (W : World), (Instr.fieldAt 26 (.pointer (some ⟨b, 0, none⟩)) 0).run Try.prog W = .ok (.pointer (some ⟨b, 0, none⟩)) W := fun _ _ => by kernel_rfl
  have hf1 : ∀ (b : Nat) (W : World), (Instr.fieldAt 26 (.pointer (some ⟨b, 0, none⟩)) 1).run Try.prog W = .ok (.pointer (some ⟨b, 31, none⟩)) W := fun _ _ => by kernel_rfl
  go_enter Try.func3, Try.ntmps3
  go_wp2_with fail
  refine (examples_ok _).mono ?_
  rintro e w2 ⟨rfl, hf2⟩
  have hb2 : Blk w2 w.heap.size 26 (cv c) := Blk.fr0 (Blk.new _ _ _) hf2
  have F2 := ((Fr.refl Nil w).alloc (.cells (cv c) 26)).trans hf2
  clear hf2
  generalize hgc : w.heap.size = gc at *
  have Hgc := Lib.hid hgc
  clear hgc
  go_wp2_with (refine wpList_load_blk rfl 26 (.tmp 4) rfl gc rfl _ hb2 Try.underlying26 rfl info26 ?_)
  refine (enter_kp c s _ r f p a1 a2 a3 _ HE.out HR.out H0.out H1.out H2.out H3.out).mono ?_
  rintro e' w3 ⟨rfl, hf3⟩
  have F3 := F2.trans hf3
  have hb3 := Blk.fr0 hb2 hf3
  have hl3 := hb3.lt
  clear hb2 F2 hf3
  go_upto_region 7 with (refine wpList_store_blk0 rfl 26 (.tmp 10) (.tmp 21) rfl w3.heap.size rfl (cv (kp c s _ r f p)) rfl (Blk.new _ _ _) info26 rfl (one_cv _) ?_; intro w4 hf4 hb4)
  have hc4 := Blk.fr1 (Blk.alloc hb3 (.cells (cv zeroC) 26)) hf4 (by omega)
  have F4 := (F3.alloc (.cells (cv zeroC) 26)).own1 hf4 F3.size
  clear hf4 F3 hb3
  generalize w3.heap.size = gd at *
  have c34 : w4.cell? ⟨gc, 34, none⟩ = some (.bool c.N) := hc4.cellv (cv_34 c)
  have c35 : w4.cell? ⟨gc, 35, none⟩ = some (.bool c.Z) := hc4.cellv (cv_35 c)
  have c36 : w4.cell? ⟨gc, 36, none⟩ = some (.bool c.C) := hc4.cellv (cv_36 c)
  have c37 : w4.cell? ⟨gc, 37, none⟩ = some (.bool c.V) := hc4.cellv (cv_37 c)
  have c38 : w4.cell? ⟨gc, 38, none⟩ = some (.int .i64 l) := by rw [← HL.out]; exact hc4.cellv (cv_38 c)
  have c44 : w4.cell? ⟨gc, 44, none⟩ = some (.int .u64 c.Vbar) := hc4.cellv (cv_44 c)
  have c45 : w4.cell? ⟨gc, 45, none⟩ = some (.int .u64 c.Tpidr) := hc4.cellv (cv_45 c)
  have c46 : w4.cell? ⟨gc, 46, none⟩ = some (.int .i64 c.Id) := hc4.cellv (cv_46 c)
  have e33 : w4.cell? ⟨gd, 33, none⟩ = some (.int .u64 p) := hb4.cellv rfl
  have e34 : w4.cell? ⟨gd, 34, none⟩ = some (.bool c.N) := hb4.cellv rfl
  have e35 : w4.cell? ⟨gd, 35, none⟩ = some (.bool c.Z) := hb4.cellv rfl
  have e36 : w4.cell? ⟨gd, 36, none⟩ = some (.bool c.C) := hb4.cellv rfl
  have e37 : w4.cell? ⟨gd, 37, none⟩ = some (.bool c.V) := hb4.cellv rfl
  have e38 : w4.cell? ⟨gd, 38, none⟩ = some (.int .i64 1) := hb4.cellv rfl
  have e39 : w4.cell? ⟨gd, 39, none⟩ = some (.bool true) := hb4.cellv rfl
  have e40 : w4.cell? ⟨gd, 40, none⟩ = some (.int .u64 s) := hb4.cellv rfl
  have e44 : w4.cell? ⟨gd, 44, none⟩ = some (.int .u64 c.Vbar) := hb4.cellv rfl
  have e45 : w4.cell? ⟨gd, 45, none⟩ = some (.int .u64 c.Tpidr) := hb4.cellv rfl
  have e46 : w4.cell? ⟨gd, 46, none⟩ = some (.int .i64 c.Id) := hb4.cellv rfl
  have e47 : w4.cell? ⟨gd, 47, none⟩ = some (.int .i64 0) := hb4.cellv rfl
  go_step
  go_step
  go_step
  go_step
  go_step
  refine wpList_fieldg rfl 26 (.tmp 10) 0 rfl _ (hf0 gd w4) ?_
  refine wpList_load_partg rfl 23 (.tmp 33) rfl gd 0 rfl 31 _ hb4 u23 rfl size23 (le_X _) ?_
  refine wpList_fieldg rfl 26 (.tmp 4) 0 rfl _ (hf0 gc w4) ?_
  refine wpList_load_partg rfl 23 (.tmp 35) rfl gc 0 rfl 31 _ hc4 u23 rfl size23 (le_X _) ?_
  repeat (first
    | (refine wpList_fieldg rfl 26 (.tmp 10) 1 rfl _ (hf1 gd w4) ?_; refine wpList_load_partg rfl 24 (.tmp 40) rfl gd 31 rfl 2 _ hb4 u24 rfl size24 (le_S _) ?_; refine wpList_fieldg rfl 26 (.tmp 4) 1 rfl _ (hf1 gc w4) ?_; refine wpList_load_partg rfl 24 (.tmp 42) rfl gc 31 rfl 2 _ hc4 u24 rfl size24 (le_S _) ?_)
    | go_values | go_guarded | go_step | go_upon)
  go_wp2_with fail
  refine (may_yes _ _ HS.out).mono ?_
  rintro e'' w5 ⟨rfl, rfl⟩
  have hp := HP.out
  go_wp2_with fail
  go_ret
  exact ⟨by simp [*], F4.below (by rw [Hgc.out]; exact Nat.le_refl _) (fun _ _ => id)⟩
theorem right_EL (c : Cr) (h : rightF c = true) : c.EL = 0 ∨ c.EL = 1 := by
  simp only [rightF, levelF, Bool.and_eq_true, Bool.or_eq_true, beq_iff_eq] at h
  exact h.1.1.1.1
theorem vec0 (v : Int) : (IntKind.u64.wrap (IntKind.u64.wrap (IntKind.u64.wrap (v + 512) + 512) - v) == IntKind.u64.wrap (1024 - IntKind.u64.wrap (512 * IntKind.u64.wrap 0))) = true := by
  simp [IntKind.wrap, IntKind.signed, IntKind.bits]
  omega
theorem vec1 (v : Int) : (IntKind.u64.wrap (IntKind.u64.wrap (v + 512) - v) == IntKind.u64.wrap (1024 - IntKind.u64.wrap (512 * IntKind.u64.wrap 1))) = true := by
  simp [IntKind.wrap, IntKind.signed, IntKind.bits]
  omega
theorem trapKeeps_walk (c : Cr) (a1 a2 a3 : Int) (w : World) (w0 : WfC c) (w1 : (Lit.int .i64 a1).wf = true) (w2 : (Lit.int .i64 a2).wf = true) (w3 : (Lit.int .u64 a3).wf = true) :
    Calls Try.prog 3 #[.agg (cv c), .int .i64 a1, .int .i64 a2, .int .u64 a3] w fun e w' => e = .returned (.bool true) ∧ Below w.heap.size w w' := by
  by_cases h : rightF c = true ∧ 0 ≤ a1 ∧ a1 ≤ 63 ∧ 0 ≤ a2 ∧ a2 < 33554432
  · obtain ⟨hr, h0, h1, h2, h3⟩ := h
    obtain ⟨e, r, f, hE⟩ := enF_shape c a1 a2 a3
    rcases right_EL c hr with hl | hl
    · exact keeps_ok c _ e r f _ 0 a1 a2 a3 w hE hr h0 h1 h2 h3 (may_psF c) hl (by rw [vecF, if_pos hl]; exact vec0 _)
    · exact keeps_ok c _ e r f _ 1 a1 a2 a3 w hE hr h0 h1 h2 h3 (may_psF c) hl (by rw [vecF, if_neg (by omega)]; exact vec1 _)
  · exact keeps_bad c a1 a2 a3 w h
end Go.Proofs.Ytkcdojlfliemmaa
