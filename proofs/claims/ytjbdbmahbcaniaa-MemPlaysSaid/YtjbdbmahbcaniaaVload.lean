/- One call on both memories: the walk. -/
import Derived.Test.YtjbdbmahbcaniaaYj
set_option linter.unusedSimpArgs false
set_option linter.unusedVariables false
set_option linter.unusedSectionVars false
namespace Go.Proofs.Ytjbdbmahbcaniaa
open Go.RowKit
set_option maxRecDepth 100000

set_option maxHeartbeats 2000000 in
theorem st_load (w0 w : World) (KB : Nat → Prop) (rb : Nat) (q : Bs) (s : St) (fv av : Value) (F : Nat → Int) (g : List G) (m wb : Nat) (core a v : Int) (h : Pq w0 w KB rb q s fv av F g m) (hm : m ≤ 199) (hb : Blk w wb 66 #[.pointer (some ⟨q.b, 0, none⟩), .pointer (some ⟨rb, 0, none⟩)]) (kb : KB wb) (ha : U64 a) (hv : U64 v) (hg : goodB s.n s.c core a = true) :
    Calls Try.prog 32 #[.pointer (some ⟨wb, 0, none⟩), .agg #[.int .i64 1, .int .i64 core, .int .u64 a, .int .u64 v]] w (StepTo w0 w KB rb q s fv m) := by
  obtain ⟨a0, a1⟩ := ha
  have P1 := Lib.hid (show Pq w0 (w.alloc (.cells #[.int .i64 1, .int .i64 core, .int .u64 a, .int .u64 v] 45)) (Kx KB w.heap.size) rb q s fv av F g m from h.more _)
  have F1 := Lib.hid ((Fr.refl Nil w).alloc (.cells #[.int .i64 1, .int .i64 core, .int .u64 a, .int .u64 v] 45))
  have C1 := Lib.hid (show CeP (Kx KB w.heap.size) w.heap.size wb q.b rb 1 core a v (w.alloc (.cells #[.int .i64 1, .int .i64 core, .int .u64 a, .int .u64 v] 45)) from ⟨Blk.new w 45 #[.int .i64 1, .int .i64 core, .int .u64 a, .int .u64 v], hb.fr0 F1.out, .inr rfl, .inl kb⟩)
  have G1 := Lib.hid (Fr.refl (Non (Kx KB w.heap.size)) (w.alloc (.cells #[.int .i64 1, .int .i64 core, .int .u64 a, .int .u64 v] 45)))
  have HM := Lib.hid hm
  have HV := Lib.hid hv
  obtain ⟨i, k, rfl, hak, hi, hk⟩ := goodB_nat a0 hg
  have HK := Lib.hid (And.intro hak (And.intro hi hk))
  obtain ⟨b0, hb0⟩ : ∃ b, (!(goodB s.n s.c (i : Int) 0)) = b := ⟨_, rfl⟩
  have hb1 : (!(goodB s.n s.c (i : Int) a)) = false := by rw [hg]; rfl
  clear hak hi hk hg
  have BQ0 := Lib.hid (P1.out.bad (by decide) (by decide) hb0)
  have HB := Lib.hid (And.intro hb1 (And.intro a0 a1))
  have HB0 := Lib.hid hb0
  clear h hb kb hv hm hb0 hb1
  go_enter Try.func32, Try.ntmps32
  go_upto_region 1 with fail
  generalize (w.alloc (.cells #[.int .i64 1, .int .i64 (i : Int), .int .u64 a, .int .u64 v] 45)) = w1 at *
  generalize w.heap.size = xb at *
  obtain ⟨q0, q1, q2, q3, q4, q5⟩ := C1.out.all
  go_quiet ((go_at_call 41; exact Calls.quiet_of_same (BQ0.out _)))
  have P2 := Lib.hid (P1.out.still (Fr.drewN (Fr.refl Nil w1) nq))
  have C2 := Lib.hid (C1.out.on (Fr.drewN (Fr.refl _ w1) nq))
  have G2 := Lib.hid (G1.out.trans (Fr.drewN (Fr.refl _ w1) nq))
  clear q0 q1 q2 q3 q4 q5
  generalize w1.drewN nq = w2 at *
  obtain ⟨q0, q1, q2, q3, q4, q5⟩ := C2.out.all
  clear BQ0
  have BQ0 := Lib.hid (P2.out.bad HB.out.2.1 HB.out.2.2 HB.out.1)
  go_upto_region 2 with fail
  go_quiet ((go_at_call 41; exact Calls.quiet_of_same (BQ0.out _)))
  have P3 := Lib.hid (P2.out.still (Fr.drewN (Fr.refl Nil w2) nq))
  have C3 := Lib.hid (C2.out.on (Fr.drewN (Fr.refl _ w2) nq))
  have G3 := Lib.hid (G2.out.trans (Fr.drewN (Fr.refl _ w2) nq))
  clear q0 q1 q2 q3 q4 q5
  generalize w2.drewN nq = w3 at *
  obtain ⟨q0, q1, q2, q3, q4, q5⟩ := C3.out.all
  clear BQ0
  go_upto_region 5 with fail
  have PC := Lib.hid (load_ok q s i a k w3.drew (P3.out.pd.hm.fr0 (Fr.refl Nil w3).drew) HK.out.2.1 HK.out.2.2 P3.out.n1.2 HK.out.1 (by have := P3.out.Hl HK.out.2.1; have := HM.out; omega))
  go_region_held3 (fun w' => w'.cell? ⟨xb, 0, none⟩ = some (.int .i64 1) ∧ w'.cell? ⟨xb, 1, none⟩ = some (.int .i64 (i : Int)) ∧ w'.cell? ⟨xb, 2, none⟩ = some (.int .u64 a) ∧ w'.cell? ⟨xb, 3, none⟩ = some (.int .u64 v) ∧ w'.cell? ⟨wb, 0, none⟩ = some (.pointer (some ⟨q.b, 0, none⟩)) ∧ w'.cell? ⟨wb, 1, none⟩ = some (.pointer (some ⟨rb, 0, none⟩))) (first | exact (C3.out.on (Fr.refl _ _).drew).all | exact (C3.out.on f4).all) (first | (go_at_call 15; refine PC.out.mono ?_; rintro e w4 ⟨rfl, f3⟩; have f4 := ((Fr.refl (Non (Kx KB xb)) w3).drew).trans f3.nil) | fail)
  have C4 := Lib.hid (C3.out.on f4)
  have G4 := Lib.hid (G3.out.trans f4)
  have P4 := Lib.hid (P3.out.still ((Fr.refl Nil w3).drew.trans f3))
  clear q0 q1 q2 q3 q4 q5 f4 PC f3
  obtain ⟨q0, q1, q2, q3, q4, q5⟩ := C4.out.all
  go_upto_region 8 with fail
  have PC := Lib.hid (rload_ok rb fv av s.n s.c s.d F (als g s.st) s.od.length i k (i : Int) a w4.drew (P4.out.pd.hr.fr0 (Fr.refl Nil w4).drew) rfl HK.out.1 HK.out.2.2 P4.out.n1.2 (by rw [als_len]; have := P4.out.len; have := HM.out; omega))
  rw [P4.out.ok.loadV HK.out.2.1 HK.out.2.2] at PC
  generalize (s.load i k).1 = lx at *
  generalize (s.load i k).2 = lt at *
  go_region_held3 (fun w' => w'.cell? ⟨xb, 0, none⟩ = some (.int .i64 1) ∧ w'.cell? ⟨xb, 1, none⟩ = some (.int .i64 (i : Int)) ∧ w'.cell? ⟨xb, 2, none⟩ = some (.int .u64 a) ∧ w'.cell? ⟨xb, 3, none⟩ = some (.int .u64 v) ∧ w'.cell? ⟨wb, 0, none⟩ = some (.pointer (some ⟨q.b, 0, none⟩)) ∧ w'.cell? ⟨wb, 1, none⟩ = some (.pointer (some ⟨rb, 0, none⟩))) (first | exact (C4.out.on (Fr.refl _ _).drew).all | exact (C4.out.on f4).all) (first | (go_at_call 42; refine PC.out.mono ?_; rintro e w5 ⟨rfl, f3⟩; have f4 := ((Fr.refl (Non (Kx KB xb)) w4).drew).trans f3.nil) | fail)
  have C5 := Lib.hid (C4.out.on f4)
  have G5 := Lib.hid (G4.out.trans f4)
  have P5 := Lib.hid (P4.out.still ((Fr.refl Nil w4).drew.trans f3))
  clear q0 q1 q2 q3 q4 q5 f4 PC f3
  obtain ⟨q0, q1, q2, q3, q4, q5⟩ := C5.out.all
  go_wp2_with fail
  go_ret
  exact StepTo.mk (P5.out.up (Nat.le_succ m)) rfl rfl rfl rfl F1.out G5.out
set_option maxHeartbeats 2000000 in
theorem st_loadB (w0 w : World) (KB : Nat → Prop) (rb : Nat) (q : Bs) (s : St) (fv av : Value) (F : Nat → Int) (g : List G) (m wb : Nat) (core a v : Int) (h : Pq w0 w KB rb q s fv av F g m) (hm : m ≤ 199) (hb : Blk w wb 66 #[.pointer (some ⟨q.b, 0, none⟩), .pointer (some ⟨rb, 0, none⟩)]) (kb : KB wb) (ha : U64 a) (hv : U64 v) (hg : goodB s.n s.c core a = false) :
    Calls Try.prog 32 #[.pointer (some ⟨wb, 0, none⟩), .agg #[.int .i64 1, .int .i64 core, .int .u64 a, .int .u64 v]] w (StepTo w0 w KB rb q s fv m) := by
  obtain ⟨a0, a1⟩ := ha
  have P1 := Lib.hid (show Pq w0 (w.alloc (.cells #[.int .i64 1, .int .i64 core, .int .u64 a, .int .u64 v] 45)) (Kx KB w.heap.size) rb q s fv av F g m from h.more _)
  have F1 := Lib.hid ((Fr.refl Nil w).alloc (.cells #[.int .i64 1, .int .i64 core, .int .u64 a, .int .u64 v] 45))
  have C1 := Lib.hid (show CeP (Kx KB w.heap.size) w.heap.size wb q.b rb 1 core a v (w.alloc (.cells #[.int .i64 1, .int .i64 core, .int .u64 a, .int .u64 v] 45)) from ⟨Blk.new w 45 #[.int .i64 1, .int .i64 core, .int .u64 a, .int .u64 v], hb.fr0 F1.out, .inr rfl, .inl kb⟩)
  have G1 := Lib.hid (Fr.refl (Non (Kx KB w.heap.size)) (w.alloc (.cells #[.int .i64 1, .int .i64 core, .int .u64 a, .int .u64 v] 45)))
  have HM := Lib.hid hm
  have HV := Lib.hid hv
  have HK := Lib.hid (goodB_no hg)
  obtain ⟨b0, hb0⟩ : ∃ b, (!(goodB s.n s.c core 0)) = b := ⟨_, rfl⟩
  have hb1 : (!(goodB s.n s.c core a)) = true := by rw [hg]; rfl
  clear hg
  have BQ0 := Lib.hid (P1.out.bad (by decide) (by decide) hb0)
  have HB := Lib.hid (And.intro hb1 (And.intro a0 a1))
  have HB0 := Lib.hid hb0
  clear h hb kb hv hm hb0 hb1
  go_enter Try.func32, Try.ntmps32
  go_upto_region 1 with fail
  generalize (w.alloc (.cells #[.int .i64 1, .int .i64 core, .int .u64 a, .int .u64 v] 45)) = w1 at *
  generalize w.heap.size = xb at *
  obtain ⟨q0, q1, q2, q3, q4, q5⟩ := C1.out.all
  go_quiet ((go_at_call 41; exact Calls.quiet_of_same (BQ0.out _)))
  have P2 := Lib.hid (P1.out.still (Fr.drewN (Fr.refl Nil w1) nq))
  have C2 := Lib.hid (C1.out.on (Fr.drewN (Fr.refl _ w1) nq))
  have G2 := Lib.hid (G1.out.trans (Fr.drewN (Fr.refl _ w1) nq))
  clear q0 q1 q2 q3 q4 q5
  generalize w1.drewN nq = w2 at *
  obtain ⟨q0, q1, q2, q3, q4, q5⟩ := C2.out.all
  clear BQ0
  have BQ0 := Lib.hid (P2.out.bad HB.out.2.1 HB.out.2.2 HB.out.1)
  go_upto_region 2 with fail
  go_quiet ((go_at_call 41; exact Calls.quiet_of_same (BQ0.out _)))
  have P3 := Lib.hid (P2.out.still (Fr.drewN (Fr.refl Nil w2) nq))
  have C3 := Lib.hid (C2.out.on (Fr.drewN (Fr.refl _ w2) nq))
  have G3 := Lib.hid (G2.out.trans (Fr.drewN (Fr.refl _ w2) nq))
  clear q0 q1 q2 q3 q4 q5
  generalize w2.drewN nq = w3 at *
  obtain ⟨q0, q1, q2, q3, q4, q5⟩ := C3.out.all
  clear BQ0
  go_upto_region 5 with fail
  have PC := Lib.hid (load_bad q s core a w3.drew (P3.out.pd.hm.fr0 (Fr.refl Nil w3).drew) P3.out.n1.2 HB.out.2.1 HB.out.2.2 HK.out)
  go_region_held3 (fun w' => w'.cell? ⟨xb, 0, none⟩ = some (.int .i64 1) ∧ w'.cell? ⟨xb, 1, none⟩ = some (.int .i64 core) ∧ w'.cell? ⟨xb, 2, none⟩ = some (.int .u64 a) ∧ w'.cell? ⟨xb, 3, none⟩ = some (.int .u64 v) ∧ w'.cell? ⟨wb, 0, none⟩ = some (.pointer (some ⟨q.b, 0, none⟩)) ∧ w'.cell? ⟨wb, 1, none⟩ = some (.pointer (some ⟨rb, 0, none⟩))) (first | exact (C3.out.on (Fr.refl _ _).drew).all | exact (C3.out.on f4).all) (first | (go_at_call 15; refine PC.out.mono ?_; rintro e w4 ⟨rfl, f3⟩; have f4 := ((Fr.refl (Non (Kx KB xb)) w3).drew).trans f3.nil) | fail)
  have C4 := Lib.hid (C3.out.on f4)
  have G4 := Lib.hid (G3.out.trans f4)
  have P4 := Lib.hid (P3.out.still ((Fr.refl Nil w3).drew.trans f3))
  clear q0 q1 q2 q3 q4 q5 f4 PC f3
  obtain ⟨q0, q1, q2, q3, q4, q5⟩ := C4.out.all
  go_wp2_with fail
  go_ret
  exact StepTo.mk (P4.out.up (Nat.le_succ m)) rfl rfl rfl rfl F1.out G4.out
end Go.Proofs.Ytjbdbmahbcaniaa
