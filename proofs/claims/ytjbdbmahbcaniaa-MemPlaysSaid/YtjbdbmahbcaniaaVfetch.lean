/- One call on both memories: the walk. -/
import Derived.Test.YtjbdbmahbcaniaaYj
set_option linter.unusedSimpArgs false
set_option linter.unusedVariables false
set_option linter.unusedSectionVars false
namespace Go.Proofs.Ytjbdbmahbcaniaa
open Go.RowKit
set_option maxRecDepth 100000

set_option maxHeartbeats 2000000 in
theorem st_fetchB (w0 w : World) (KB : Nat → Prop) (rb : Nat) (q : Bs) (s : St) (fv av : Value) (F : Nat → Int) (g : List G) (m wb : Nat) (core a v : Int) (h : Pq w0 w KB rb q s fv av F g m) (hm : m ≤ 199) (hb : Blk w wb 66 #[.pointer (some ⟨q.b, 0, none⟩), .pointer (some ⟨rb, 0, none⟩)]) (kb : KB wb) (ha : U64 a) (hv : U64 v) (hg : goodB s.n s.c 0 (a - a % 8) = false) :
    Calls Try.prog 32 #[.pointer (some ⟨wb, 0, none⟩), .agg #[.int .i64 6, .int .i64 core, .int .u64 a, .int .u64 v]] w (StepTo w0 w KB rb q s fv m) := by
  obtain ⟨a0, a1⟩ := ha
  have P1 := Lib.hid (show Pq w0 (w.alloc (.cells #[.int .i64 6, .int .i64 core, .int .u64 a, .int .u64 v] 45)) (Kx KB w.heap.size) rb q s fv av F g m from h.more _)
  have F1 := Lib.hid ((Fr.refl Nil w).alloc (.cells #[.int .i64 6, .int .i64 core, .int .u64 a, .int .u64 v] 45))
  have C1 := Lib.hid (show CeP (Kx KB w.heap.size) w.heap.size wb q.b rb 6 core a v (w.alloc (.cells #[.int .i64 6, .int .i64 core, .int .u64 a, .int .u64 v] 45)) from ⟨Blk.new w 45 #[.int .i64 6, .int .i64 core, .int .u64 a, .int .u64 v], hb.fr0 F1.out, .inr rfl, .inl kb⟩)
  have G1 := Lib.hid (Fr.refl (Non (Kx KB w.heap.size)) (w.alloc (.cells #[.int .i64 6, .int .i64 core, .int .u64 a, .int .u64 v] 45)))
  have HM := Lib.hid hm
  have HV := Lib.hid hv
  obtain ⟨b0, hb0⟩ : ∃ b, (!(goodB s.n s.c core 0)) = b := ⟨_, rfl⟩
  obtain ⟨b1, hb1⟩ : ∃ b, (!(goodB s.n s.c core a)) = b := ⟨_, rfl⟩
  have HZ := Lib.hid (show (!(goodB s.n s.c 0 (a - a % 8))) = true by rw [hg]; rfl)
  have HK := Lib.hid (show (s.n : Int) ≤ a / 8 by have := goodB_no hg; have := h.c1; omega)
  clear hg
  have BQ0 := Lib.hid (P1.out.bad (by decide) (by decide) hb0)
  have HB := Lib.hid (And.intro hb1 (And.intro a0 a1))
  have HB0 := Lib.hid hb0
  clear h hb kb hv hm hb0 hb1
  go_enter Try.func32, Try.ntmps32
  go_upto_region 1 with fail
  generalize (w.alloc (.cells #[.int .i64 6, .int .i64 core, .int .u64 a, .int .u64 v] 45)) = w1 at *
  generalize w.heap.size = xb at *
  obtain ⟨q0, q1, q2, q3, q4, q5⟩ := C1.out.all
  go_quiet ((go_at_call 41; exact Calls.quiet_of_same (BQ0.out _)))
  have P2 := Lib.hid (P1.out.still (Fr.drewN (Fr.refl Nil w1) nq))
  have C2 := Lib.hid (C1.out.on (Fr.drewN (Fr.refl _ w1) nq))
  have G2 := Lib.hid (G1.out.trans (Fr.drewN (Fr.refl _ w1) nq))
  clear q0 q1 q2 q3 q4 q5
  generalize w1.drewN nq = w2 at *
  obtain ⟨q0, q1, q2, q3, q4, q5⟩ := C2.out.all
  clear BQ0
  have BQ0 := Lib.hid (P2.out.bad HB.out.2.1 HB.out.2.2 HB.out.1)
  go_upto_region 2 with fail
  go_quiet ((go_at_call 41; exact Calls.quiet_of_same (BQ0.out _)))
  have P3 := Lib.hid (P2.out.still (Fr.drewN (Fr.refl Nil w2) nq))
  have C3 := Lib.hid (C2.out.on (Fr.drewN (Fr.refl _ w2) nq))
  have G3 := Lib.hid (G2.out.trans (Fr.drewN (Fr.refl _ w2) nq))
  clear q0 q1 q2 q3 q4 q5
  generalize w2.drewN nq = w3 at *
  obtain ⟨q0, q1, q2, q3, q4, q5⟩ := C3.out.all
  clear BQ0
  go_upto_region 40 with fail
  have PC := Lib.hid (Calls.frNil (fetch_bad q s a w3.drew (P3.out.pd.hm.fr0 (Fr.refl Nil w3).drew) P3.out.n1.2 HB.out.2.1 HB.out.2.2 (.inr HK.out)))
  go_region_held3 (fun w' => w'.cell? ⟨xb, 0, none⟩ = some (.int .i64 6) ∧ w'.cell? ⟨xb, 1, none⟩ = some (.int .i64 core) ∧ w'.cell? ⟨xb, 2, none⟩ = some (.int .u64 a) ∧ w'.cell? ⟨xb, 3, none⟩ = some (.int .u64 v) ∧ w'.cell? ⟨wb, 0, none⟩ = some (.pointer (some ⟨q.b, 0, none⟩)) ∧ w'.cell? ⟨wb, 1, none⟩ = some (.pointer (some ⟨rb, 0, none⟩))) (first | exact (C3.out.on (Fr.refl _ _).drew).all | exact (C3.out.on f4).all) (first | (go_at_call 49; refine PC.out.mono ?_; rintro e w4 ⟨rfl, f3⟩; have f4 := ((Fr.refl (Non (Kx KB xb)) w3).drew).trans f3.nil) | fail)
  have C4 := Lib.hid (C3.out.on f4)
  have G4 := Lib.hid (G3.out.trans f4)
  have P4 := Lib.hid (P3.out.still ((Fr.refl Nil w3).drew.trans f3))
  clear q0 q1 q2 q3 q4 q5 f4 PC f3
  obtain ⟨q0, q1, q2, q3, q4, q5⟩ := C4.out.all
  have BQ1 := Lib.hid (P4.out.bad (core := 0) (a := a - a % 8) (by have := HB.out.2; omega) (by have := HB.out.2; omega) HZ.out)
  have y0 : 0 ≤ a := HB.out.2.1
  have y1 : a ≤ 18446744073709551615 := HB.out.2.2
  go_upto_region 41 with fail
  go_quiet ((go_at_call 41; exact Calls.quiet_of_same (BQ1.out _)))
  have P5 := Lib.hid (P4.out.still (Fr.drewN (Fr.refl Nil w4) nq))
  have C5 := Lib.hid (C4.out.on (Fr.drewN (Fr.refl _ w4) nq))
  have G5 := Lib.hid (G4.out.trans (Fr.drewN (Fr.refl _ w4) nq))
  clear q0 q1 q2 q3 q4 q5
  generalize w4.drewN nq = w5 at *
  obtain ⟨q0, q1, q2, q3, q4, q5⟩ := C5.out.all
  clear BQ1
  go_wp2_with fail
  go_ret
  exact StepTo.mk (P5.out.up (Nat.le_succ m)) rfl rfl rfl rfl F1.out G5.out
set_option maxHeartbeats 2000000 in
theorem st_fetchO (w0 w : World) (KB : Nat → Prop) (rb : Nat) (q : Bs) (s : St) (fv av : Value) (F : Nat → Int) (g : List G) (m wb : Nat) (core a v : Int) (h : Pq w0 w KB rb q s fv av F g m) (hm : m ≤ 199) (hb : Blk w wb 66 #[.pointer (some ⟨q.b, 0, none⟩), .pointer (some ⟨rb, 0, none⟩)]) (kb : KB wb) (ha : U64 a) (hv : U64 v) (hg : goodB s.n s.c 0 (a - a % 8) = true) (h4 : a % 4 ≠ 0) :
    Calls Try.prog 32 #[.pointer (some ⟨wb, 0, none⟩), .agg #[.int .i64 6, .int .i64 core, .int .u64 a, .int .u64 v]] w (StepTo w0 w KB rb q s fv m) := by
  obtain ⟨a0, a1⟩ := ha
  have P1 := Lib.hid (show Pq w0 (w.alloc (.cells #[.int .i64 6, .int .i64 core, .int .u64 a, .int .u64 v] 45)) (Kx KB w.heap.size) rb q s fv av F g m from h.more _)
  have F1 := Lib.hid ((Fr.refl Nil w).alloc (.cells #[.int .i64 6, .int .i64 core, .int .u64 a, .int .u64 v] 45))
  have C1 := Lib.hid (show CeP (Kx KB w.heap.size) w.heap.size wb q.b rb 6 core a v (w.alloc (.cells #[.int .i64 6, .int .i64 core, .int .u64 a, .int .u64 v] 45)) from ⟨Blk.new w 45 #[.int .i64 6, .int .i64 core, .int .u64 a, .int .u64 v], hb.fr0 F1.out, .inr rfl, .inl kb⟩)
  have G1 := Lib.hid (Fr.refl (Non (Kx KB w.heap.size)) (w.alloc (.cells #[.int .i64 6, .int .i64 core, .int .u64 a, .int .u64 v] 45)))
  have HM := Lib.hid hm
  have HV := Lib.hid hv
  obtain ⟨b0, hb0⟩ : ∃ b, (!(goodB s.n s.c core 0)) = b := ⟨_, rfl⟩
  obtain ⟨b1, hb1⟩ : ∃ b, (!(goodB s.n s.c core a)) = b := ⟨_, rfl⟩
  have HZ := Lib.hid (show (!(goodB s.n s.c 0 (a - a % 8))) = false by rw [hg]; rfl)
  have HK := Lib.hid h4
  have z4 : (a % 4 != 0) = true := by simpa using h4
  clear hg h4
  have BQ0 := Lib.hid (P1.out.bad (by decide) (by decide) hb0)
  have HB := Lib.hid (And.intro hb1 (And.intro a0 a1))
  have HB0 := Lib.hid hb0
  clear h hb kb hv hm hb0 hb1
  go_enter Try.func32, Try.ntmps32
  go_upto_region 1 with fail
  generalize (w.alloc (.cells #[.int .i64 6, .int .i64 core, .int .u64 a, .int .u64 v] 45)) = w1 at *
  generalize w.heap.size = xb at *
  obtain ⟨q0, q1, q2, q3, q4, q5⟩ := C1.out.all
  go_quiet ((go_at_call 41; exact Calls.quiet_of_same (BQ0.out _)))
  have P2 := Lib.hid (P1.out.still (Fr.drewN (Fr.refl Nil w1) nq))
  have C2 := Lib.hid (C1.out.on (Fr.drewN (Fr.refl _ w1) nq))
  have G2 := Lib.hid (G1.out.trans (Fr.drewN (Fr.refl _ w1) nq))
  clear q0 q1 q2 q3 q4 q5
  generalize w1.drewN nq = w2 at *
  obtain ⟨q0, q1, q2, q3, q4, q5⟩ := C2.out.all
  clear BQ0
  have BQ0 := Lib.hid (P2.out.bad HB.out.2.1 HB.out.2.2 HB.out.1)
  go_upto_region 2 with fail
  go_quiet ((go_at_call 41; exact Calls.quiet_of_same (BQ0.out _)))
  have P3 := Lib.hid (P2.out.still (Fr.drewN (Fr.refl Nil w2) nq))
  have C3 := Lib.hid (C2.out.on (Fr.drewN (Fr.refl _ w2) nq))
  have G3 := Lib.hid (G2.out.trans (Fr.drewN (Fr.refl _ w2) nq))
  clear q0 q1 q2 q3 q4 q5
  generalize w2.drewN nq = w3 at *
  obtain ⟨q0, q1, q2, q3, q4, q5⟩ := C3.out.all
  clear BQ0
  go_upto_region 40 with fail
  have PC := Lib.hid (Calls.frNil (fetch_bad q s a w3.drew (P3.out.pd.hm.fr0 (Fr.refl Nil w3).drew) P3.out.n1.2 HB.out.2.1 HB.out.2.2 (.inl HK.out)))
  go_region_held3 (fun w' => w'.cell? ⟨xb, 0, none⟩ = some (.int .i64 6) ∧ w'.cell? ⟨xb, 1, none⟩ = some (.int .i64 core) ∧ w'.cell? ⟨xb, 2, none⟩ = some (.int .u64 a) ∧ w'.cell? ⟨xb, 3, none⟩ = some (.int .u64 v) ∧ w'.cell? ⟨wb, 0, none⟩ = some (.pointer (some ⟨q.b, 0, none⟩)) ∧ w'.cell? ⟨wb, 1, none⟩ = some (.pointer (some ⟨rb, 0, none⟩))) (first | exact (C3.out.on (Fr.refl _ _).drew).all | exact (C3.out.on f4).all) (first | (go_at_call 49; refine PC.out.mono ?_; rintro e w4 ⟨rfl, f3⟩; have f4 := ((Fr.refl (Non (Kx KB xb)) w3).drew).trans f3.nil) | fail)
  have C4 := Lib.hid (C3.out.on f4)
  have G4 := Lib.hid (G3.out.trans f4)
  have P4 := Lib.hid (P3.out.still ((Fr.refl Nil w3).drew.trans f3))
  clear q0 q1 q2 q3 q4 q5 f4 PC f3
  obtain ⟨q0, q1, q2, q3, q4, q5⟩ := C4.out.all
  have BQ1 := Lib.hid (P4.out.bad (core := 0) (a := a - a % 8) (by have := HB.out.2; omega) (by have := HB.out.2; omega) HZ.out)
  have y0 : 0 ≤ a := HB.out.2.1
  have y1 : a ≤ 18446744073709551615 := HB.out.2.2
  go_upto_region 41 with fail
  go_quiet ((go_at_call 41; exact Calls.quiet_of_same (BQ1.out _)))
  have P5 := Lib.hid (P4.out.still (Fr.drewN (Fr.refl Nil w4) nq))
  have C5 := Lib.hid (C4.out.on (Fr.drewN (Fr.refl _ w4) nq))
  have G5 := Lib.hid (G4.out.trans (Fr.drewN (Fr.refl _ w4) nq))
  clear q0 q1 q2 q3 q4 q5
  generalize w4.drewN nq = w5 at *
  obtain ⟨q0, q1, q2, q3, q4, q5⟩ := C5.out.all
  clear BQ1
  go_wp2_with fail
  go_ret
  exact StepTo.mk (P5.out.up (Nat.le_succ m)) rfl rfl rfl rfl F1.out G5.out
set_option maxHeartbeats 2000000 in
theorem st_fetchH (w0 w : World) (KB : Nat → Prop) (rb : Nat) (q : Bs) (s : St) (fv av : Value) (F : Nat → Int) (g : List G) (m wb : Nat) (core a v : Int) (h : Pq w0 w KB rb q s fv av F g m) (hm : m ≤ 199) (hb : Blk w wb 66 #[.pointer (some ⟨q.b, 0, none⟩), .pointer (some ⟨rb, 0, none⟩)]) (kb : KB wb) (ha : U64 a) (hv : U64 v) (k : Nat) (hk : k < s.n) (hz : a - a % 8 = 8 * (k : Int)) (h8 : a % 8 = 4) :
    Calls Try.prog 32 #[.pointer (some ⟨wb, 0, none⟩), .agg #[.int .i64 6, .int .i64 core, .int .u64 a, .int .u64 v]] w (StepTo w0 w KB rb q s fv m) := by
  obtain ⟨a0, a1⟩ := ha
  have P1 := Lib.hid (show Pq w0 (w.alloc (.cells #[.int .i64 6, .int .i64 core, .int .u64 a, .int .u64 v] 45)) (Kx KB w.heap.size) rb q s fv av F g m from h.more _)
  have F1 := Lib.hid ((Fr.refl Nil w).alloc (.cells #[.int .i64 6, .int .i64 core, .int .u64 a, .int .u64 v] 45))
  have C1 := Lib.hid (show CeP (Kx KB w.heap.size) w.heap.size wb q.b rb 6 core a v (w.alloc (.cells #[.int .i64 6, .int .i64 core, .int .u64 a, .int .u64 v] 45)) from ⟨Blk.new w 45 #[.int .i64 6, .int .i64 core, .int .u64 a, .int .u64 v], hb.fr0 F1.out, .inr rfl, .inl kb⟩)
  have G1 := Lib.hid (Fr.refl (Non (Kx KB w.heap.size)) (w.alloc (.cells #[.int .i64 6, .int .i64 core, .int .u64 a, .int .u64 v] 45)))
  have HM := Lib.hid hm
  have HV := Lib.hid hv
  obtain ⟨b0, hb0⟩ : ∃ b, (!(goodB s.n s.c core 0)) = b := ⟨_, rfl⟩
  obtain ⟨b1, hb1⟩ : ∃ b, (!(goodB s.n s.c core a)) = b := ⟨_, rfl⟩
  have HZ := Lib.hid (show (!(goodB s.n s.c 0 (a - a % 8))) = false by rw [hz]; unfold goodB; simp; have := h.c1; omega)
  have HK := Lib.hid (And.intro hk (And.intro hz h8))
  have z4 : (a % 4 != 0) = false := by simp; omega
  have z8 : (a % 8 == 4) = true := by simp; omega
  clear hk hz h8
  have BQ0 := Lib.hid (P1.out.bad (by decide) (by decide) hb0)
  have HB := Lib.hid (And.intro hb1 (And.intro a0 a1))
  have HB0 := Lib.hid hb0
  clear h hb kb hv hm hb0 hb1
  go_enter Try.func32, Try.ntmps32
  go_upto_region 1 with fail
  generalize (w.alloc (.cells #[.int .i64 6, .int .i64 core, .int .u64 a, .int .u64 v] 45)) = w1 at *
  generalize w.heap.size = xb at *
  obtain ⟨q0, q1, q2, q3, q4, q5⟩ := C1.out.all
  go_quiet ((go_at_call 41; exact Calls.quiet_of_same (BQ0.out _)))
  have P2 := Lib.hid (P1.out.still (Fr.drewN (Fr.refl Nil w1) nq))
  have C2 := Lib.hid (C1.out.on (Fr.drewN (Fr.refl _ w1) nq))
  have G2 := Lib.hid (G1.out.trans (Fr.drewN (Fr.refl _ w1) nq))
  clear q0 q1 q2 q3 q4 q5
  generalize w1.drewN nq = w2 at *
  obtain ⟨q0, q1, q2, q3, q4, q5⟩ := C2.out.all
  clear BQ0
  have BQ0 := Lib.hid (P2.out.bad HB.out.2.1 HB.out.2.2 HB.out.1)
  go_upto_region 2 with fail
  go_quiet ((go_at_call 41; exact Calls.quiet_of_same (BQ0.out _)))
  have P3 := Lib.hid (P2.out.still (Fr.drewN (Fr.refl Nil w2) nq))
  have C3 := Lib.hid (C2.out.on (Fr.drewN (Fr.refl _ w2) nq))
  have G3 := Lib.hid (G2.out.trans (Fr.drewN (Fr.refl _ w2) nq))
  clear q0 q1 q2 q3 q4 q5
  generalize w2.drewN nq = w3 at *
  obtain ⟨q0, q1, q2, q3, q4, q5⟩ := C3.out.all
  clear BQ0
  go_upto_region 40 with fail
  have PC := Lib.hid (Calls.frNil (FEH P3.out.pd.hm (Fr.refl Nil w3).drew HK.out.1 P3.out.n1.2 (P3.out.V HK.out.1) HK.out.2.1 HK.out.2.2))
  go_region_held3 (fun w' => w'.cell? ⟨xb, 0, none⟩ = some (.int .i64 6) ∧ w'.cell? ⟨xb, 1, none⟩ = some (.int .i64 core) ∧ w'.cell? ⟨xb, 2, none⟩ = some (.int .u64 a) ∧ w'.cell? ⟨xb, 3, none⟩ = some (.int .u64 v) ∧ w'.cell? ⟨wb, 0, none⟩ = some (.pointer (some ⟨q.b, 0, none⟩)) ∧ w'.cell? ⟨wb, 1, none⟩ = some (.pointer (some ⟨rb, 0, none⟩))) (first | exact (C3.out.on (Fr.refl _ _).drew).all | exact (C3.out.on f4).all) (first | (go_at_call 49; refine PC.out.mono ?_; rintro e w4 ⟨rfl, f3⟩; have f4 := ((Fr.refl (Non (Kx KB xb)) w3).drew).trans f3.nil) | fail)
  have C4 := Lib.hid (C3.out.on f4)
  have G4 := Lib.hid (G3.out.trans f4)
  have P4 := Lib.hid (P3.out.still ((Fr.refl Nil w3).drew.trans f3))
  clear q0 q1 q2 q3 q4 q5 f4 PC f3
  obtain ⟨q0, q1, q2, q3, q4, q5⟩ := C4.out.all
  have BQ1 := Lib.hid (P4.out.bad (core := 0) (a := a - a % 8) (by have := HB.out.2; omega) (by have := HB.out.2; omega) HZ.out)
  have y0 : 0 ≤ a := HB.out.2.1
  have y1 : a ≤ 18446744073709551615 := HB.out.2.2
  go_upto_region 41 with fail
  go_quiet ((go_at_call 41; exact Calls.quiet_of_same (BQ1.out _)))
  have P5 := Lib.hid (P4.out.still (Fr.drewN (Fr.refl Nil w4) nq))
  have C5 := Lib.hid (C4.out.on (Fr.drewN (Fr.refl _ w4) nq))
  have G5 := Lib.hid (G4.out.trans (Fr.drewN (Fr.refl _ w4) nq))
  clear q0 q1 q2 q3 q4 q5
  generalize w4.drewN nq = w5 at *
  obtain ⟨q0, q1, q2, q3, q4, q5⟩ := C5.out.all
  clear BQ1
  have E44 := Lib.hid (show IntKind.u64.wrap (a - a.tmod 8) = a - a % 8 from by rw [Int.tmod_eq_emod_of_nonneg y0, IntKind.wrap_u64]; omega)
  go_upto_region 44 with fail
  have PC := Lib.hid (P5.out.rpeek HK.out.1 HK.out.2.1 (by have := HM.out; omega) (Fr.refl Nil w5).drew)
  go_region_held3 (fun w' => w'.cell? ⟨xb, 0, none⟩ = some (.int .i64 6) ∧ w'.cell? ⟨xb, 1, none⟩ = some (.int .i64 core) ∧ w'.cell? ⟨xb, 2, none⟩ = some (.int .u64 a) ∧ w'.cell? ⟨xb, 3, none⟩ = some (.int .u64 v) ∧ w'.cell? ⟨wb, 0, none⟩ = some (.pointer (some ⟨q.b, 0, none⟩)) ∧ w'.cell? ⟨wb, 1, none⟩ = some (.pointer (some ⟨rb, 0, none⟩))) (first | exact (C5.out.on (Fr.refl _ _).drew).all | exact (C5.out.on f4).all) (first | (go_at_call 50; rw [E44.out]; refine PC.out.mono ?_; rintro e w6 ⟨rfl, f3⟩; have f4 := ((Fr.refl (Non (Kx KB xb)) w5).drew).trans f3.nil) | fail)
  have C6 := Lib.hid (C5.out.on f4)
  have G6 := Lib.hid (G5.out.trans f4)
  have P6 := Lib.hid (P5.out.still ((Fr.refl Nil w5).drew.trans f3))
  clear q0 q1 q2 q3 q4 q5 f4 PC f3
  obtain ⟨q0, q1, q2, q3, q4, q5⟩ := C6.out.all
  obtain ⟨v0, v1⟩ := P6.out.V HK.out.1
  generalize s.V k = vv at *
  go_wp2_with fail
  go_ret
  exact StepTo.mk (P6.out.up (Nat.le_succ m)) rfl rfl rfl rfl F1.out G6.out
set_option maxHeartbeats 2000000 in
theorem st_fetchL (w0 w : World) (KB : Nat → Prop) (rb : Nat) (q : Bs) (s : St) (fv av : Value) (F : Nat → Int) (g : List G) (m wb : Nat) (core a v : Int) (h : Pq w0 w KB rb q s fv av F g m) (hm : m ≤ 199) (hb : Blk w wb 66 #[.pointer (some ⟨q.b, 0, none⟩), .pointer (some ⟨rb, 0, none⟩)]) (kb : KB wb) (ha : U64 a) (hv : U64 v) (k : Nat) (hk : k < s.n) (hz : a - a % 8 = 8 * (k : Int)) (h8 : a % 8 = 0) :
    Calls Try.prog 32 #[.pointer (some ⟨wb, 0, none⟩), .agg #[.int .i64 6, .int .i64 core, .int .u64 a, .int .u64 v]] w (StepTo w0 w KB rb q s fv m) := by
  obtain ⟨a0, a1⟩ := ha
  have P1 := Lib.hid (show Pq w0 (w.alloc (.cells #[.int .i64 6, .int .i64 core, .int .u64 a, .int .u64 v] 45)) (Kx KB w.heap.size) rb q s fv av F g m from h.more _)
  have F1 := Lib.hid ((Fr.refl Nil w).alloc (.cells #[.int .i64 6, .int .i64 core, .int .u64 a, .int .u64 v] 45))
  have C1 := Lib.hid (show CeP (Kx KB w.heap.size) w.heap.size wb q.b rb 6 core a v (w.alloc (.cells #[.int .i64 6, .int .i64 core, .int .u64 a, .int .u64 v] 45)) from ⟨Blk.new w 45 #[.int .i64 6, .int .i64 core, .int .u64 a, .int .u64 v], hb.fr0 F1.out, .inr rfl, .inl kb⟩)
  have G1 := Lib.hid (Fr.refl (Non (Kx KB w.heap.size)) (w.alloc (.cells #[.int .i64 6, .int .i64 core, .int .u64 a, .int .u64 v] 45)))
  have HM := Lib.hid hm
  have HV := Lib.hid hv
  obtain ⟨b0, hb0⟩ : ∃ b, (!(goodB s.n s.c core 0)) = b := ⟨_, rfl⟩
  obtain ⟨b1, hb1⟩ : ∃ b, (!(goodB s.n s.c core a)) = b := ⟨_, rfl⟩
  have HZ := Lib.hid (show (!(goodB s.n s.c 0 (a - a % 8))) = false by rw [hz]; unfold goodB; simp; have := h.c1; omega)
  have HK := Lib.hid (And.intro hk (And.intro hz h8))
  have z4 : (a % 4 != 0) = false := by simp; omega
  have z8 : (a % 8 == 4) = false := by simp; omega
  clear hk hz h8
  have BQ0 := Lib.hid (P1.out.bad (by decide) (by decide) hb0)
  have HB := Lib.hid (And.intro hb1 (And.intro a0 a1))
  have HB0 := Lib.hid hb0
  clear h hb kb hv hm hb0 hb1
  go_enter Try.func32, Try.ntmps32
  go_upto_region 1 with fail
  generalize (w.alloc (.cells #[.int .i64 6, .int .i64 core, .int .u64 a, .int .u64 v] 45)) = w1 at *
  generalize w.heap.size = xb at *
  obtain ⟨q0, q1, q2, q3, q4, q5⟩ := C1.out.all
  go_quiet ((go_at_call 41; exact Calls.quiet_of_same (BQ0.out _)))
  have P2 := Lib.hid (P1.out.still (Fr.drewN (Fr.refl Nil w1) nq))
  have C2 := Lib.hid (C1.out.on (Fr.drewN (Fr.refl _ w1) nq))
  have G2 := Lib.hid (G1.out.trans (Fr.drewN (Fr.refl _ w1) nq))
  clear q0 q1 q2 q3 q4 q5
  generalize w1.drewN nq = w2 at *
  obtain ⟨q0, q1, q2, q3, q4, q5⟩ := C2.out.all
  clear BQ0
  have BQ0 := Lib.hid (P2.out.bad HB.out.2.1 HB.out.2.2 HB.out.1)
  go_upto_region 2 with fail
  go_quiet ((go_at_call 41; exact Calls.quiet_of_same (BQ0.out _)))
  have P3 := Lib.hid (P2.out.still (Fr.drewN (Fr.refl Nil w2) nq))
  have C3 := Lib.hid (C2.out.on (Fr.drewN (Fr.refl _ w2) nq))
  have G3 := Lib.hid (G2.out.trans (Fr.drewN (Fr.refl _ w2) nq))
  clear q0 q1 q2 q3 q4 q5
  generalize w2.drewN nq = w3 at *
  obtain ⟨q0, q1, q2, q3, q4, q5⟩ := C3.out.all
  clear BQ0
  go_upto_region 40 with fail
  have PC := Lib.hid (Calls.frNil (FEL P3.out.pd.hm (Fr.refl Nil w3).drew HK.out.1 P3.out.n1.2 (P3.out.V HK.out.1) HK.out.2.1 HK.out.2.2))
  go_region_held3 (fun w' => w'.cell? ⟨xb, 0, none⟩ = some (.int .i64 6) ∧ w'.cell? ⟨xb, 1, none⟩ = some (.int .i64 core) ∧ w'.cell? ⟨xb, 2, none⟩ = some (.int .u64 a) ∧ w'.cell? ⟨xb, 3, none⟩ = some (.int .u64 v) ∧ w'.cell? ⟨wb, 0, none⟩ = some (.pointer (some ⟨q.b, 0, none⟩)) ∧ w'.cell? ⟨wb, 1, none⟩ = some (.pointer (some ⟨rb, 0, none⟩))) (first | exact (C3.out.on (Fr.refl _ _).drew).all | exact (C3.out.on f4).all) (first | (go_at_call 49; refine PC.out.mono ?_; rintro e w4 ⟨rfl, f3⟩; have f4 := ((Fr.refl (Non (Kx KB xb)) w3).drew).trans f3.nil) | fail)
  have C4 := Lib.hid (C3.out.on f4)
  have G4 := Lib.hid (G3.out.trans f4)
  have P4 := Lib.hid (P3.out.still ((Fr.refl Nil w3).drew.trans f3))
  clear q0 q1 q2 q3 q4 q5 f4 PC f3
  obtain ⟨q0, q1, q2, q3, q4, q5⟩ := C4.out.all
  have BQ1 := Lib.hid (P4.out.bad (core := 0) (a := a - a % 8) (by have := HB.out.2; omega) (by have := HB.out.2; omega) HZ.out)
  have y0 : 0 ≤ a := HB.out.2.1
  have y1 : a ≤ 18446744073709551615 := HB.out.2.2
  go_upto_region 41 with fail
  go_quiet ((go_at_call 41; exact Calls.quiet_of_same (BQ1.out _)))
  have P5 := Lib.hid (P4.out.still (Fr.drewN (Fr.refl Nil w4) nq))
  have C5 := Lib.hid (C4.out.on (Fr.drewN (Fr.refl _ w4) nq))
  have G5 := Lib.hid (G4.out.trans (Fr.drewN (Fr.refl _ w4) nq))
  clear q0 q1 q2 q3 q4 q5
  generalize w4.drewN nq = w5 at *
  obtain ⟨q0, q1, q2, q3, q4, q5⟩ := C5.out.all
  clear BQ1
  have E44 := Lib.hid (show IntKind.u64.wrap (a - a.tmod 8) = a - a % 8 from by rw [Int.tmod_eq_emod_of_nonneg y0, IntKind.wrap_u64]; omega)
  go_upto_region 44 with fail
  have PC := Lib.hid (P5.out.rpeek HK.out.1 HK.out.2.1 (by have := HM.out; omega) (Fr.refl Nil w5).drew)
  go_region_held3 (fun w' => w'.cell? ⟨xb, 0, none⟩ = some (.int .i64 6) ∧ w'.cell? ⟨xb, 1, none⟩ = some (.int .i64 core) ∧ w'.cell? ⟨xb, 2, none⟩ = some (.int .u64 a) ∧ w'.cell? ⟨xb, 3, none⟩ = some (.int .u64 v) ∧ w'.cell? ⟨wb, 0, none⟩ = some (.pointer (some ⟨q.b, 0, none⟩)) ∧ w'.cell? ⟨wb, 1, none⟩ = some (.pointer (some ⟨rb, 0, none⟩))) (first | exact (C5.out.on (Fr.refl _ _).drew).all | exact (C5.out.on f4).all) (first | (go_at_call 50; rw [E44.out]; refine PC.out.mono ?_; rintro e w6 ⟨rfl, f3⟩; have f4 := ((Fr.refl (Non (Kx KB xb)) w5).drew).trans f3.nil) | fail)
  have C6 := Lib.hid (C5.out.on f4)
  have G6 := Lib.hid (G5.out.trans f4)
  have P6 := Lib.hid (P5.out.still ((Fr.refl Nil w5).drew.trans f3))
  clear q0 q1 q2 q3 q4 q5 f4 PC f3
  obtain ⟨q0, q1, q2, q3, q4, q5⟩ := C6.out.all
  obtain ⟨v0, v1⟩ := P6.out.V HK.out.1
  generalize s.V k = vv at *
  go_wp2_with fail
  go_ret
  exact StepTo.mk (P6.out.up (Nat.le_succ m)) rfl rfl rfl rfl F1.out G6.out
end Go.Proofs.Ytjbdbmahbcaniaa
