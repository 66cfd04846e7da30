/- One call on both memories: the walk. -/
import Derived.Test.YtjbdbmahbcaniaaYj
set_option linter.unusedSimpArgs false
set_option linter.unusedVariables false
set_option linter.unusedSectionVars false
namespace Go.Proofs.Ytjbdbmahbcaniaa
open Go.RowKit
set_option maxRecDepth 100000

set_option maxHeartbeats 2000000 in
theorem st_drainB (w0 w : World) (KB : Nat → Prop) (rb : Nat) (q : Bs) (s : St) (fv av : Value) (F : Nat → Int) (g : List G) (m wb : Nat) (core a v : Int) (h : Pq w0 w KB rb q s fv av F g m) (hm : m ≤ 199) (hb : Blk w wb 66 #[.pointer (some ⟨q.b, 0, none⟩), .pointer (some ⟨rb, 0, none⟩)]) (kb : KB wb) (ha : U64 a) (hv : U64 v) (hg : core < 0 ∨ (s.c : Int) ≤ core) :
    Calls Try.prog 32 #[.pointer (some ⟨wb, 0, none⟩), .agg #[.int .i64 3, .int .i64 core, .int .u64 a, .int .u64 v]] w (StepTo w0 w KB rb q s fv m) := by
  obtain ⟨a0, a1⟩ := ha
  have P1 := Lib.hid (show Pq w0 (w.alloc (.cells #[.int .i64 3, .int .i64 core, .int .u64 a, .int .u64 v] 45)) (Kx KB w.heap.size) rb q s fv av F g m from h.more _)
  have F1 := Lib.hid ((Fr.refl Nil w).alloc (.cells #[.int .i64 3, .int .i64 core, .int .u64 a, .int .u64 v] 45))
  have C1 := Lib.hid (show CeP (Kx KB w.heap.size) w.heap.size wb q.b rb 3 core a v (w.alloc (.cells #[.int .i64 3, .int .i64 core, .int .u64 a, .int .u64 v] 45)) from ⟨Blk.new w 45 #[.int .i64 3, .int .i64 core, .int .u64 a, .int .u64 v], hb.fr0 F1.out, .inr rfl, .inl kb⟩)
  have G1 := Lib.hid (Fr.refl (Non (Kx KB w.heap.size)) (w.alloc (.cells #[.int .i64 3, .int .i64 core, .int .u64 a, .int .u64 v] 45)))
  have HM := Lib.hid hm
  have HV := Lib.hid hv
  have HK := Lib.hid hg
  obtain ⟨b1, hb1⟩ : ∃ b, (!(goodB s.n s.c core a)) = b := ⟨_, rfl⟩
  have hb0 : (!(goodB s.n s.c core 0)) = true := by rw [goodB_zero h.n1.1]; simp; omega
  clear hg
  have BQ0 := Lib.hid (P1.out.bad (by decide) (by decide) hb0)
  have HB := Lib.hid (And.intro hb1 (And.intro a0 a1))
  have HB0 := Lib.hid hb0
  clear h hb kb hv hm hb0 hb1
  go_enter Try.func32, Try.ntmps32
  go_upto_region 1 with fail
  generalize (w.alloc (.cells #[.int .i64 3, .int .i64 core, .int .u64 a, .int .u64 v] 45)) = w1 at *
  generalize w.heap.size = xb at *
  obtain ⟨q0, q1, q2, q3, q4, q5⟩ := C1.out.all
  go_quiet ((go_at_call 41; exact Calls.quiet_of_same (BQ0.out _)))
  have P2 := Lib.hid (P1.out.still (Fr.drewN (Fr.refl Nil w1) nq))
  have C2 := Lib.hid (C1.out.on (Fr.drewN (Fr.refl _ w1) nq))
  have G2 := Lib.hid (G1.out.trans (Fr.drewN (Fr.refl _ w1) nq))
  clear q0 q1 q2 q3 q4 q5
  generalize w1.drewN nq = w2 at *
  obtain ⟨q0, q1, q2, q3, q4, q5⟩ := C2.out.all
  clear BQ0
  have BQ0 := Lib.hid (P2.out.bad HB.out.2.1 HB.out.2.2 HB.out.1)
  go_upto_region 2 with fail
  go_quiet ((go_at_call 41; exact Calls.quiet_of_same (BQ0.out _)))
  have P3 := Lib.hid (P2.out.still (Fr.drewN (Fr.refl Nil w2) nq))
  have C3 := Lib.hid (C2.out.on (Fr.drewN (Fr.refl _ w2) nq))
  have G3 := Lib.hid (G2.out.trans (Fr.drewN (Fr.refl _ w2) nq))
  clear q0 q1 q2 q3 q4 q5
  generalize w2.drewN nq = w3 at *
  obtain ⟨q0, q1, q2, q3, q4, q5⟩ := C3.out.all
  clear BQ0
  go_upto_region 17 with fail
  have PA := Lib.hid (drain_bad q s core w3.drew (P3.out.pd.hm.fr0 (Fr.refl Nil w3).drew) HK.out)
  have PB := Lib.hid (drain_bad q s core (w3.drew.alloc (.cells #[.int .u64 0, .int .u64 0, .int .i64 0] 47)) (P3.out.pd.hm.fr0 ((Fr.refl Nil w3).drew.alloc _)) HK.out)
  go_region_held3 (fun w' => w'.cell? ⟨xb, 0, none⟩ = some (.int .i64 3) ∧ w'.cell? ⟨xb, 1, none⟩ = some (.int .i64 core) ∧ w'.cell? ⟨xb, 2, none⟩ = some (.int .u64 a) ∧ w'.cell? ⟨xb, 3, none⟩ = some (.int .u64 v) ∧ w'.cell? ⟨wb, 0, none⟩ = some (.pointer (some ⟨q.b, 0, none⟩)) ∧ w'.cell? ⟨wb, 1, none⟩ = some (.pointer (some ⟨rb, 0, none⟩))) (first | exact (C3.out.on (Fr.refl _ _).drew).all | exact (C3.out.on f4).all | exact (C3.out.on (f4.alloc _)).all | exact (C3.out.on ((Fr.refl _ _).drew.alloc _)).all | exact (C3.out.on (((f4.setNew (g := w3.heap.size) (Nat.le_refl _) _).setNew (g := w3.heap.size) (Nat.le_refl _) _).setNew (g := w3.heap.size) (Nat.le_refl _) _)).all) (first | (go_at_call 24; refine PA.out.mono ?_; rintro e w4 ⟨rfl, f3⟩; have f4 : Fr (Non (Kx KB xb)) w3 w4 := ((Fr.refl _ w3).drew).trans f3.nil; have p4 := P3.out.still ((Fr.refl Nil w3).drew.trans f3)) | (go_at_call 24; refine PB.out.mono ?_; rintro e w4 ⟨rfl, f3⟩; have f4 : Fr (Non (Kx KB xb)) w3 w4 := ((Fr.refl _ w3).drew.alloc _).trans f3.nil; have p4 := ((P3.out.still (Fr.refl Nil w3).drew).more (.cells #[.int .u64 0, .int .u64 0, .int .i64 0] 47)).still f3; have zb : Blk w4 w3.heap.size 47 #[.int .u64 0, .int .u64 0, .int .i64 0] := (Blk.new w3.drew 47 #[.int .u64 0, .int .u64 0, .int .i64 0]).fr f3 id; have z0 := zb.cellv (i := 0) rfl; have z1 := zb.cellv (i := 1) rfl; have z2 := zb.cellv (i := 2) rfl; have zf0 := zb.frozen 0; have zf1 := zb.frozen 1; have zf2 := zb.frozen 2) | fail)
  · have P5 := Lib.hid (show Pq w0 (w4.alloc (.cells #[.int .u64 0, .int .u64 0, .int .i64 0] 47)) (Kx (Kx KB xb) w4.heap.size) rb q s fv av F g m from p4.more (.cells #[.int .u64 0, .int .u64 0, .int .i64 0] 47))
    have Z5 := Lib.hid (Blk.new w4 47 #[.int .u64 0, .int .u64 0, .int .i64 0])
    have f5 := f4.alloc (.cells #[.int .u64 0, .int .u64 0, .int .i64 0] 47)
    have C5 := Lib.hid ((C3.out.on f5).wide (sb := w4.heap.size))
    have G5 := Lib.hid (G3.out.trans f5)
    clear q0 q1 q2 q3 q4 q5 f5 f4 f3 p4 PA PB
    generalize (w4.alloc (.cells #[.int .u64 0, .int .u64 0, .int .i64 0] 47)) = w5 at *
    generalize w4.heap.size = sb at *
    obtain ⟨q0, q1, q2, q3, q4, q5⟩ := C5.out.all
    go_wp2_with (first | (refine wpList_load_blk rfl 47 (.tmp 16) rfl sb rfl _ Z5.out Try.underlying47 rfl (by kernel_rfl) ?_) | (refine wpList_load_blkg (by kernel_rfl) 47 (.tmp 16) rfl sb rfl _ Z5.out Try.underlying47 rfl (by kernel_rfl) ?_) | fail)
    go_ret
    exact StepTo.mk ((P5.out.less fun k hk => .inl hk).up (Nat.le_succ m)) rfl rfl rfl rfl F1.out G5.out
  · have P5 := Lib.hid (show Pq w0 (((w4.setCell ⟨w3.heap.size, 0, none⟩ (.int .u64 0)).setCell ⟨w3.heap.size, 1, none⟩ (.int .u64 0)).setCell ⟨w3.heap.size, 2, none⟩ (.int .i64 0)) (Kx (Kx KB xb) w3.heap.size) rb q s fv av F g m from (show Pq w0 w4 (Kx (Kx KB xb) w3.heap.size) rb q s fv av F g m from p4).setKB (b := w3.heap.size) (.inr rfl) P3.out.pd.fr.size (Fr.set3 w4 w3.heap.size (.int .u64 0) (.int .u64 0) (.int .i64 0)))
    have Z5 := Lib.hid (zb.set3 (.int .u64 0) (.int .u64 0) (.int .i64 0))
    have f5 := ((f4.setNew (g := w3.heap.size) (i := 0) (Nat.le_refl _) (.int .u64 0)).setNew (g := w3.heap.size) (i := 1) (Nat.le_refl _) (.int .u64 0)).setNew (g := w3.heap.size) (i := 2) (Nat.le_refl _) (.int .i64 0)
    have C5 := Lib.hid ((C3.out.on f5).wide (sb := w3.heap.size))
    have G5 := Lib.hid (G3.out.trans f5)
    clear q0 q1 q2 q3 q4 q5 f5 f4 f3 p4 PA PB zb z0 z1 z2 zf0 zf1 zf2
    generalize (((w4.setCell ⟨w3.heap.size, 0, none⟩ (.int .u64 0)).setCell ⟨w3.heap.size, 1, none⟩ (.int .u64 0)).setCell ⟨w3.heap.size, 2, none⟩ (.int .i64 0)) = w5 at *
    generalize w3.heap.size = sb at *
    obtain ⟨q0, q1, q2, q3, q4, q5⟩ := C5.out.all
    go_wp2_with (first | (refine wpList_load_blk rfl 47 (.tmp 16) rfl sb rfl _ Z5.out Try.underlying47 rfl (by kernel_rfl) ?_) | (refine wpList_load_blkg (by kernel_rfl) 47 (.tmp 16) rfl sb rfl _ Z5.out Try.underlying47 rfl (by kernel_rfl) ?_) | fail)
    go_ret
    exact StepTo.mk ((P5.out.less fun k hk => .inl hk).up (Nat.le_succ m)) rfl rfl rfl rfl F1.out G5.out
set_option maxHeartbeats 2000000 in
theorem st_drainN (w0 w : World) (KB : Nat → Prop) (rb : Nat) (q : Bs) (s : St) (fv av : Value) (F : Nat → Int) (g : List G) (m wb : Nat) (core a v : Int) (h : Pq w0 w KB rb q s fv av F g m) (hm : m ≤ 199) (hb : Blk w wb 66 #[.pointer (some ⟨q.b, 0, none⟩), .pointer (some ⟨rb, 0, none⟩)]) (kb : KB wb) (ha : U64 a) (hv : U64 v) (hg : 0 ≤ core ∧ core < (s.c : Int)) (hf : ∀ i : Nat, core = (i : Int) → s.H i = []) :
    Calls Try.prog 32 #[.pointer (some ⟨wb, 0, none⟩), .agg #[.int .i64 3, .int .i64 core, .int .u64 a, .int .u64 v]] w (StepTo w0 w KB rb q s fv m) := by
  obtain ⟨a0, a1⟩ := ha
  have P1 := Lib.hid (show Pq w0 (w.alloc (.cells #[.int .i64 3, .int .i64 core, .int .u64 a, .int .u64 v] 45)) (Kx KB w.heap.size) rb q s fv av F g m from h.more _)
  have F1 := Lib.hid ((Fr.refl Nil w).alloc (.cells #[.int .i64 3, .int .i64 core, .int .u64 a, .int .u64 v] 45))
  have C1 := Lib.hid (show CeP (Kx KB w.heap.size) w.heap.size wb q.b rb 3 core a v (w.alloc (.cells #[.int .i64 3, .int .i64 core, .int .u64 a, .int .u64 v] 45)) from ⟨Blk.new w 45 #[.int .i64 3, .int .i64 core, .int .u64 a, .int .u64 v], hb.fr0 F1.out, .inr rfl, .inl kb⟩)
  have G1 := Lib.hid (Fr.refl (Non (Kx KB w.heap.size)) (w.alloc (.cells #[.int .i64 3, .int .i64 core, .int .u64 a, .int .u64 v] 45)))
  have HM := Lib.hid hm
  have HV := Lib.hid hv
  obtain ⟨i, rfl, hi⟩ : ∃ i : Nat, core = (i : Int) ∧ i < s.c := ⟨core.toNat, by omega, by omega⟩
  have HK := Lib.hid (And.intro hi (hf i rfl))
  clear hf
  obtain ⟨b1, hb1⟩ : ∃ b, (!(goodB s.n s.c (i : Int) a)) = b := ⟨_, rfl⟩
  have hb0 : (!(goodB s.n s.c (i : Int) 0)) = false := by rw [goodB_zero h.n1.1]; simp; omega
  clear hi hg
  have BQ0 := Lib.hid (P1.out.bad (by decide) (by decide) hb0)
  have HB := Lib.hid (And.intro hb1 (And.intro a0 a1))
  have HB0 := Lib.hid hb0
  clear h hb kb hv hm hb0 hb1
  go_enter Try.func32, Try.ntmps32
  go_upto_region 1 with fail
  generalize (w.alloc (.cells #[.int .i64 3, .int .i64 (i : Int), .int .u64 a, .int .u64 v] 45)) = w1 at *
  generalize w.heap.size = xb at *
  obtain ⟨q0, q1, q2, q3, q4, q5⟩ := C1.out.all
  go_quiet ((go_at_call 41; exact Calls.quiet_of_same (BQ0.out _)))
  have P2 := Lib.hid (P1.out.still (Fr.drewN (Fr.refl Nil w1) nq))
  have C2 := Lib.hid (C1.out.on (Fr.drewN (Fr.refl _ w1) nq))
  have G2 := Lib.hid (G1.out.trans (Fr.drewN (Fr.refl _ w1) nq))
  clear q0 q1 q2 q3 q4 q5
  generalize w1.drewN nq = w2 at *
  obtain ⟨q0, q1, q2, q3, q4, q5⟩ := C2.out.all
  clear BQ0
  have BQ0 := Lib.hid (P2.out.bad HB.out.2.1 HB.out.2.2 HB.out.1)
  go_upto_region 2 with fail
  go_quiet ((go_at_call 41; exact Calls.quiet_of_same (BQ0.out _)))
  have P3 := Lib.hid (P2.out.still (Fr.drewN (Fr.refl Nil w2) nq))
  have C3 := Lib.hid (C2.out.on (Fr.drewN (Fr.refl _ w2) nq))
  have G3 := Lib.hid (G2.out.trans (Fr.drewN (Fr.refl _ w2) nq))
  clear q0 q1 q2 q3 q4 q5
  generalize w2.drewN nq = w3 at *
  obtain ⟨q0, q1, q2, q3, q4, q5⟩ := C3.out.all
  clear BQ0
  go_upto_region 17 with fail
  have PA := Lib.hid (drain_none q s i w3.drew (P3.out.pd.hm.fr0 (Fr.refl Nil w3).drew) HK.out.1 HK.out.2)
  have PB := Lib.hid (drain_none q s i (w3.drew.alloc (.cells #[.int .u64 0, .int .u64 0, .int .i64 0] 47)) (P3.out.pd.hm.fr0 ((Fr.refl Nil w3).drew.alloc _)) HK.out.1 HK.out.2)
  go_region_held3 (fun w' => w'.cell? ⟨xb, 0, none⟩ = some (.int .i64 3) ∧ w'.cell? ⟨xb, 1, none⟩ = some (.int .i64 (i : Int)) ∧ w'.cell? ⟨xb, 2, none⟩ = some (.int .u64 a) ∧ w'.cell? ⟨xb, 3, none⟩ = some (.int .u64 v) ∧ w'.cell? ⟨wb, 0, none⟩ = some (.pointer (some ⟨q.b, 0, none⟩)) ∧ w'.cell? ⟨wb, 1, none⟩ = some (.pointer (some ⟨rb, 0, none⟩))) (first | exact (C3.out.on (Fr.refl _ _).drew).all | exact (C3.out.on f4).all | exact (C3.out.on (f4.alloc _)).all | exact (C3.out.on ((Fr.refl _ _).drew.alloc _)).all | exact (C3.out.on (((f4.setNew (g := w3.heap.size) (Nat.le_refl _) _).setNew (g := w3.heap.size) (Nat.le_refl _) _).setNew (g := w3.heap.size) (Nat.le_refl _) _)).all) (first | (go_at_call 24; refine PA.out.mono ?_; rintro e w4 ⟨rfl, f3⟩; have f4 : Fr (Non (Kx KB xb)) w3 w4 := ((Fr.refl _ w3).drew).trans f3.nil; have p4 := P3.out.still ((Fr.refl Nil w3).drew.trans f3)) | (go_at_call 24; refine PB.out.mono ?_; rintro e w4 ⟨rfl, f3⟩; have f4 : Fr (Non (Kx KB xb)) w3 w4 := ((Fr.refl _ w3).drew.alloc _).trans f3.nil; have p4 := ((P3.out.still (Fr.refl Nil w3).drew).more (.cells #[.int .u64 0, .int .u64 0, .int .i64 0] 47)).still f3; have zb : Blk w4 w3.heap.size 47 #[.int .u64 0, .int .u64 0, .int .i64 0] := (Blk.new w3.drew 47 #[.int .u64 0, .int .u64 0, .int .i64 0]).fr f3 id; have z0 := zb.cellv (i := 0) rfl; have z1 := zb.cellv (i := 1) rfl; have z2 := zb.cellv (i := 2) rfl; have zf0 := zb.frozen 0; have zf1 := zb.frozen 1; have zf2 := zb.frozen 2) | fail)
  · have P5 := Lib.hid (show Pq w0 (w4.alloc (.cells #[.int .u64 0, .int .u64 0, .int .i64 0] 47)) (Kx (Kx KB xb) w4.heap.size) rb q s fv av F g m from p4.more (.cells #[.int .u64 0, .int .u64 0, .int .i64 0] 47))
    have Z5 := Lib.hid (Blk.new w4 47 #[.int .u64 0, .int .u64 0, .int .i64 0])
    have f5 := f4.alloc (.cells #[.int .u64 0, .int .u64 0, .int .i64 0] 47)
    have C5 := Lib.hid ((C3.out.on f5).wide (sb := w4.heap.size))
    have G5 := Lib.hid (G3.out.trans f5)
    clear q0 q1 q2 q3 q4 q5 f5 f4 f3 p4 PA PB
    generalize (w4.alloc (.cells #[.int .u64 0, .int .u64 0, .int .i64 0] 47)) = w5 at *
    generalize w4.heap.size = sb at *
    obtain ⟨q0, q1, q2, q3, q4, q5⟩ := C5.out.all
    go_upto_region 20 with (first | (refine wpList_load_blk rfl 47 (.tmp 16) rfl sb rfl _ Z5.out Try.underlying47 rfl (by kernel_rfl) ?_) | (refine wpList_load_blkg (by kernel_rfl) 47 (.tmp 16) rfl sb rfl _ Z5.out Try.underlying47 rfl (by kernel_rfl) ?_) | fail)
    have PC := Lib.hid ((P5.out.pd.still (Fr.refl Nil w5).drew).rdrainN P5.out.ok HK.out.1 HK.out.2 (by have := P5.out.len; have := HM.out; omega))
    go_region_held3 (fun w' => w'.cell? ⟨xb, 0, none⟩ = some (.int .i64 3) ∧ w'.cell? ⟨xb, 1, none⟩ = some (.int .i64 (i : Int)) ∧ w'.cell? ⟨xb, 2, none⟩ = some (.int .u64 a) ∧ w'.cell? ⟨xb, 3, none⟩ = some (.int .u64 v) ∧ w'.cell? ⟨wb, 0, none⟩ = some (.pointer (some ⟨q.b, 0, none⟩)) ∧ w'.cell? ⟨wb, 1, none⟩ = some (.pointer (some ⟨rb, 0, none⟩))) (first | exact (C5.out.on (Fr.refl _ _).drew).all | exact (C5.out.on f4).all) (first | (go_at_call 44; refine PC.out.mono ?_; rintro e w6 ⟨rfl, f3⟩; have f4 := ((Fr.refl (Non (Kx (Kx KB xb) sb)) w5).drew).trans f3.nil) | fail)
    have C6 := Lib.hid (C5.out.on f4)
    have G6 := Lib.hid (G5.out.trans f4.nonW)
    have Z6 := Lib.hid (Z5.out.fr f4 fun hn => hn (.inr rfl))
    have P6 := Lib.hid (P5.out.still ((Fr.refl Nil w5).drew.trans f3))
    clear q0 q1 q2 q3 q4 q5 f4 PC f3
    obtain ⟨q0, q1, q2, q3, q4, q5⟩ := C6.out.all
    go_wp2_with (first | (refine wpList_load_blk rfl 47 (.tmp 16) rfl sb rfl _ Z6.out Try.underlying47 rfl (by kernel_rfl) ?_) | (refine wpList_load_blkg (by kernel_rfl) 47 (.tmp 16) rfl sb rfl _ Z6.out Try.underlying47 rfl (by kernel_rfl) ?_) | fail)
    go_ret
    exact StepTo.mk ((P6.out.less fun k hk => .inl hk).up (Nat.le_succ m)) rfl rfl rfl rfl F1.out G6.out
  · have P5 := Lib.hid (show Pq w0 (((w4.setCell ⟨w3.heap.size, 0, none⟩ (.int .u64 0)).setCell ⟨w3.heap.size, 1, none⟩ (.int .u64 0)).setCell ⟨w3.heap.size, 2, none⟩ (.int .i64 0)) (Kx (Kx KB xb) w3.heap.size) rb q s fv av F g m from (show Pq w0 w4 (Kx (Kx KB xb) w3.heap.size) rb q s fv av F g m from p4).setKB (b := w3.heap.size) (.inr rfl) P3.out.pd.fr.size (Fr.set3 w4 w3.heap.size (.int .u64 0) (.int .u64 0) (.int .i64 0)))
    have Z5 := Lib.hid (zb.set3 (.int .u64 0) (.int .u64 0) (.int .i64 0))
    have f5 := ((f4.setNew (g := w3.heap.size) (i := 0) (Nat.le_refl _) (.int .u64 0)).setNew (g := w3.heap.size) (i := 1) (Nat.le_refl _) (.int .u64 0)).setNew (g := w3.heap.size) (i := 2) (Nat.le_refl _) (.int .i64 0)
    have C5 := Lib.hid ((C3.out.on f5).wide (sb := w3.heap.size))
    have G5 := Lib.hid (G3.out.trans f5)
    clear q0 q1 q2 q3 q4 q5 f5 f4 f3 p4 PA PB zb z0 z1 z2 zf0 zf1 zf2
    generalize (((w4.setCell ⟨w3.heap.size, 0, none⟩ (.int .u64 0)).setCell ⟨w3.heap.size, 1, none⟩ (.int .u64 0)).setCell ⟨w3.heap.size, 2, none⟩ (.int .i64 0)) = w5 at *
    generalize w3.heap.size = sb at *
    obtain ⟨q0, q1, q2, q3, q4, q5⟩ := C5.out.all
    go_upto_region 20 with (first | (refine wpList_load_blk rfl 47 (.tmp 16) rfl sb rfl _ Z5.out Try.underlying47 rfl (by kernel_rfl) ?_) | (refine wpList_load_blkg (by kernel_rfl) 47 (.tmp 16) rfl sb rfl _ Z5.out Try.underlying47 rfl (by kernel_rfl) ?_) | fail)
    have PC := Lib.hid ((P5.out.pd.still (Fr.refl Nil w5).drew).rdrainN P5.out.ok HK.out.1 HK.out.2 (by have := P5.out.len; have := HM.out; omega))
    go_region_held3 (fun w' => w'.cell? ⟨xb, 0, none⟩ = some (.int .i64 3) ∧ w'.cell? ⟨xb, 1, none⟩ = some (.int .i64 (i : Int)) ∧ w'.cell? ⟨xb, 2, none⟩ = some (.int .u64 a) ∧ w'.cell? ⟨xb, 3, none⟩ = some (.int .u64 v) ∧ w'.cell? ⟨wb, 0, none⟩ = some (.pointer (some ⟨q.b, 0, none⟩)) ∧ w'.cell? ⟨wb, 1, none⟩ = some (.pointer (some ⟨rb, 0, none⟩))) (first | exact (C5.out.on (Fr.refl _ _).drew).all | exact (C5.out.on f4).all) (first | (go_at_call 44; refine PC.out.mono ?_; rintro e w6 ⟨rfl, f3⟩; have f4 := ((Fr.refl (Non (Kx (Kx KB xb) sb)) w5).drew).trans f3.nil) | fail)
    have C6 := Lib.hid (C5.out.on f4)
    have G6 := Lib.hid (G5.out.trans f4.nonW)
    have Z6 := Lib.hid (Z5.out.fr f4 fun hn => hn (.inr rfl))
    have P6 := Lib.hid (P5.out.still ((Fr.refl Nil w5).drew.trans f3))
    clear q0 q1 q2 q3 q4 q5 f4 PC f3
    obtain ⟨q0, q1, q2, q3, q4, q5⟩ := C6.out.all
    go_wp2_with (first | (refine wpList_load_blk rfl 47 (.tmp 16) rfl sb rfl _ Z6.out Try.underlying47 rfl (by kernel_rfl) ?_) | (refine wpList_load_blkg (by kernel_rfl) 47 (.tmp 16) rfl sb rfl _ Z6.out Try.underlying47 rfl (by kernel_rfl) ?_) | fail)
    go_ret
    exact StepTo.mk ((P6.out.less fun k hk => .inl hk).up (Nat.le_succ m)) rfl rfl rfl rfl F1.out G6.out
end Go.Proofs.Ytjbdbmahbcaniaa
