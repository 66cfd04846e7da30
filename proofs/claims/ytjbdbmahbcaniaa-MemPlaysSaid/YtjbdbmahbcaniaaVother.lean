/- One call on both memories: the walk. -/
import Derived.Test.YtjbdbmahbcaniaaYj
set_option linter.unusedSimpArgs false
set_option linter.unusedVariables false
set_option linter.unusedSectionVars false
namespace Go.Proofs.Ytjbdbmahbcaniaa
open Go.RowKit
set_option maxRecDepth 100000

set_option maxHeartbeats 2000000 in
theorem st_other (w0 w : World) (KB : Nat → Prop) (rb : Nat) (q : Bs) (s : St) (fv av : Value) (F : Nat → Int) (g : List G) (m wb : Nat) (core a v : Int) (h : Pq w0 w KB rb q s fv av F g m) (hm : m ≤ 199) (hb : Blk w wb 66 #[.pointer (some ⟨q.b, 0, none⟩), .pointer (some ⟨rb, 0, none⟩)]) (kb : KB wb) (ha : U64 a) (hv : U64 v) (kd : Int) (hg : kd < 1 ∨ 9 < kd) :
    Calls Try.prog 32 #[.pointer (some ⟨wb, 0, none⟩), .agg #[.int .i64 kd, .int .i64 core, .int .u64 a, .int .u64 v]] w (StepTo w0 w KB rb q s fv m) := by
  obtain ⟨a0, a1⟩ := ha
  have P1 := Lib.hid (show Pq w0 (w.alloc (.cells #[.int .i64 kd, .int .i64 core, .int .u64 a, .int .u64 v] 45)) (Kx KB w.heap.size) rb q s fv av F g m from h.more _)
  have F1 := Lib.hid ((Fr.refl Nil w).alloc (.cells #[.int .i64 kd, .int .i64 core, .int .u64 a, .int .u64 v] 45))
  have C1 := Lib.hid (show CeP (Kx KB w.heap.size) w.heap.size wb q.b rb kd core a v (w.alloc (.cells #[.int .i64 kd, .int .i64 core, .int .u64 a, .int .u64 v] 45)) from ⟨Blk.new w 45 #[.int .i64 kd, .int .i64 core, .int .u64 a, .int .u64 v], hb.fr0 F1.out, .inr rfl, .inl kb⟩)
  have G1 := Lib.hid (Fr.refl (Non (Kx KB w.heap.size)) (w.alloc (.cells #[.int .i64 kd, .int .i64 core, .int .u64 a, .int .u64 v] 45)))
  have HM := Lib.hid hm
  have HV := Lib.hid hv
  obtain ⟨b0, hb0⟩ : ∃ b, (!(goodB s.n s.c core 0)) = b := ⟨_, rfl⟩
  obtain ⟨b1, hb1⟩ : ∃ b, (!(goodB s.n s.c core a)) = b := ⟨_, rfl⟩
  have z1 : (kd == 1) = false := by simp; omega
  have z2 : (kd == 2) = false := by simp; omega
  have z3 : (kd == 3) = false := by simp; omega
  have z4 : (kd == 4) = false := by simp; omega
  have z5 : (kd == 5) = false := by simp; omega
  have z6 : (kd == 6) = false := by simp; omega
  have z7 : (kd == 7) = false := by simp; omega
  have z8 : (kd == 8) = false := by simp; omega
  have z9 : (kd == 9) = false := by simp; omega
  clear hg
  have BQ0 := Lib.hid (P1.out.bad (by decide) (by decide) hb0)
  have HB := Lib.hid (And.intro hb1 (And.intro a0 a1))
  have HB0 := Lib.hid hb0
  clear h hb kb hv hm hb0 hb1
  go_enter Try.func32, Try.ntmps32
  go_upto_region 1 with fail
  generalize (w.alloc (.cells #[.int .i64 kd, .int .i64 core, .int .u64 a, .int .u64 v] 45)) = w1 at *
  generalize w.heap.size = xb at *
  obtain ⟨q0, q1, q2, q3, q4, q5⟩ := C1.out.all
  go_quiet ((go_at_call 41; exact Calls.quiet_of_same (BQ0.out _)))
  have P2 := Lib.hid (P1.out.still (Fr.drewN (Fr.refl Nil w1) nq))
  have C2 := Lib.hid (C1.out.on (Fr.drewN (Fr.refl _ w1) nq))
  have G2 := Lib.hid (G1.out.trans (Fr.drewN (Fr.refl _ w1) nq))
  clear q0 q1 q2 q3 q4 q5
  generalize w1.drewN nq = w2 at *
  obtain ⟨q0, q1, q2, q3, q4, q5⟩ := C2.out.all
  clear BQ0
  have BQ0 := Lib.hid (P2.out.bad HB.out.2.1 HB.out.2.2 HB.out.1)
  go_upto_region 2 with fail
  go_quiet ((go_at_call 41; exact Calls.quiet_of_same (BQ0.out _)))
  have P3 := Lib.hid (P2.out.still (Fr.drewN (Fr.refl Nil w2) nq))
  have C3 := Lib.hid (C2.out.on (Fr.drewN (Fr.refl _ w2) nq))
  have G3 := Lib.hid (G2.out.trans (Fr.drewN (Fr.refl _ w2) nq))
  clear q0 q1 q2 q3 q4 q5
  generalize w2.drewN nq = w3 at *
  obtain ⟨q0, q1, q2, q3, q4, q5⟩ := C3.out.all
  clear BQ0
  go_wp2_with fail
  go_ret
  exact StepTo.mk (P3.out.up (Nat.le_succ m)) rfl rfl rfl rfl F1.out G3.out
end Go.Proofs.Ytjbdbmahbcaniaa
