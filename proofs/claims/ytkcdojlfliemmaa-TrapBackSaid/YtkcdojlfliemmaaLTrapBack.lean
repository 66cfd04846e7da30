/- The walk of TrapBack. -/
import Derived.Test.YtkcdojlfliemmaaLKeepsS
import Derived.Test.YtkcdojlfliemmaaTrap4
namespace Go.Proofs.Ytkcdojlfliemmaa
open Go.RowKit
set_option linter.unusedVariables false
attribute [local go_sem] fold0

theorem run_neq_core (a b : Cr) (w : World) : (binOp .neq 26 (.agg (cv a)) (.agg (cv b))).run Try.prog w = .ok (.bool (!crEq a b)) w := by
  have h := run_eq_core a b w
  have e1 : (binOp .eql 26 (.agg (cv a)) (.agg (cv b))).run Try.prog w = ((Op.equal 26 (.agg (cv a)) (.agg (cv b))).run Try.prog w).andThen fun v w' => .ok (.bool v) w' := by
    unfold binOp
    simp only [Sem.run_bind, Sem.run_pure]
  have e2 : (binOp .neq 26 (.agg (cv a)) (.agg (cv b))).run Try.prog w = ((Op.equal 26 (.agg (cv a)) (.agg (cv b))).run Try.prog w).andThen fun v w' => .ok (.bool (!v)) w' := by
    unfold binOp
    simp only [Sem.run_bind, Sem.run_pure]
  rw [e1] at h
  rw [e2]
  generalize (Op.equal 26 (.agg (cv a)) (.agg (cv b))).run Try.prog w = r at h ⊢
  cases r with
  | ok v w' =>
    simp only [Result.andThen_ok, Result.ok.injEq, Value.bool.injEq] at h ⊢
    exact ⟨by rw [h.1], h.2⟩
  | _ => simp [Result.andThen] at h
set_option maxRecDepth 100000 in
set_option maxHeartbeats 4000000 in
theorem back_walk_bad (c c0 : Cr) (a1 a2 a3 : Int) (w : World) (hc0 : c0 = { c with Wait := 0 })
    (ha : ∀ w, Calls Try.prog 7 #[.agg (cv c0), .int .i64 a1, .int .i64 a2, .int .u64 a3] w fun e w' => e = .returned (.tuple #[.agg (cv zeroC), .int .i64 1]) ∧ Fr Nil w w')
    (hb : ∀ w, Calls Try.prog 12 #[.agg (cv c0)] w fun e w' => e = .returned (.tuple #[.agg (cv zeroC), .int .i64 1]) ∧ Fr Nil w w') :
    Calls Try.prog 5 #[.agg (cv c), .int .i64 a1, .int .i64 a2, .int .u64 a3] w fun e w' => e = .returned (.bool true) ∧ Below w.heap.size w w' := by
  have HC0 := Lib.hid hc0
  have HA := Lib.hid ha
  have HB := Lib.hid hb
  clear hc0 ha hb
  have heq : ∀ W : World, (binOp .eql 26 (.agg (cv zeroC)) (.agg (cv zeroC))).run Try.prog W = .ok (.bool true) W := fun W => by rw [run_eq_core, crEq_refl]
  go_enter Try.func5, Try.ntmps5
  go_wp2_with fail
  refine (examples_ok _).mono ?_
  rintro e w2 ⟨rfl, hf2⟩
  have gch2 : Blk w2 w.heap.size 26 (cv c) := Blk.fr0 (Blk.new _ _ _) hf2
  have F2 := ((Fr.refl Nil w).alloc (.cells (cv c) 26)).trans hf2
  clear hf2
  generalize hgc : w.heap.size = gc at *
  have Hgc := Lib.hid hgc
  have hge : w.heap.size ≤ gc := by omega
  clear hgc
  have dgc47 : w2.cell? ⟨gc, 47, none⟩ = some (.int .i64 c.Wait) := gch2.cellv (cv_47 _)
  have fgc47 : w2.frozen? ⟨gc, 47, none⟩ = false := gch2.frozen _
  have gch3 := (blk_setWait gch2 (0))
  have F3 := (Fr.setNew (g := gc) (i := 47) F2 hge (.int .i64 (0)))
  go_upto_region 5 with fail
  generalize (w2.setCell ⟨gc, 47, none⟩ (.int .i64 (0))) = w3 at *
  clear dgc47 fgc47 gch2 F2
  rw [← HC0.out] at gch3
  go_wp2_with (refine wpList_load_blk rfl 26 (.tmp 4) rfl gc rfl _ gch3 Try.underlying26 rfl info26 ?_)
  refine (HA.out _).mono ?_
  rintro e w4 ⟨rfl, hf4⟩
  have gch4 := Blk.fr0 gch3 hf4
  have F4 := F3.trans hf4
  clear gch3 F3 hf4
  have gcl5 := gch4.lt
  go_upto_region 6 with (refine wpList_store_blk0 rfl 26 (.tmp 10) (.tmp 29) rfl w4.heap.size rfl (cv zeroC) rfl (Blk.new _ _ _) info26 rfl (one_cv _) ?_; intro w5 hf5 gah5)
  have gch5 := Blk.fr1 (Blk.alloc gch4 (.cells (cv zeroC) 26)) hf5 (by omega)
  have F5 := (F4.alloc (.cells (cv zeroC) 26)).own1 hf5 F4.size
  clear gch4 F4 hf5
  generalize w4.heap.size = ga at *
  go_wp2_with (refine wpList_load_blk rfl 26 (.tmp 4) rfl gc rfl _ gch5 Try.underlying26 rfl info26 ?_)
  refine (HB.out _).mono ?_
  rintro e w6 ⟨rfl, hf6⟩
  have gch6 := Blk.fr0 gch5 hf6
  have gah6 := Blk.fr0 gah5 hf6
  have F6 := F5.trans hf6
  clear gch5 gah5 F5 hf6
  have gcl7 := gch6.lt
  have gal7 := gah6.lt
  go_upto_region 8 with (refine wpList_store_blk0 rfl 26 (.tmp 12) (.tmp 34) rfl w6.heap.size rfl (cv zeroC) rfl (Blk.new _ _ _) info26 rfl (one_cv _) ?_; intro w7 hf7 gbh7)
  have gch7 := Blk.fr1 (Blk.alloc gch6 (.cells (cv zeroC) 26)) hf7 (by omega)
  have gah7 := Blk.fr1 (Blk.alloc gah6 (.cells (cv zeroC) 26)) hf7 (by omega)
  have F7 := (F6.alloc (.cells (cv zeroC) 26)).own1 hf7 F6.size
  clear gch6 gah6 F6 hf7
  generalize w6.heap.size = gb at *
  go_wp2_with (first | (refine wpList_load_blkg rfl 26 (.tmp 10) rfl ga rfl _ gah7 Try.underlying26 rfl info26 ?_) | (refine wpList_load_blkg rfl 26 (.tmp 12) rfl gb rfl _ gbh7 Try.underlying26 rfl info26 ?_))
  all_goals go_ret
  all_goals exact ⟨by first | rfl | simp [*], F7.below (by rw [Hgc.out]; exact Nat.le_refl _) (fun _ _ => id)⟩
set_option maxRecDepth 100000 in
set_option maxHeartbeats 4000000 in
theorem back_walk_e1 (c c0 A B X Y : Cr) (a1 a2 a3 : Int) (w : World) (hc0 : c0 = { c with Wait := 0 })
    (ha : ∀ w, Calls Try.prog 7 #[.agg (cv c0), .int .i64 a1, .int .i64 a2, .int .u64 a3] w fun e w' => e = .returned (.tuple #[.agg (cv A), .int .i64 1]) ∧ Fr Nil w w')
    (hb : ∀ w, Calls Try.prog 12 #[.agg (cv c0)] w fun e w' => e = .returned (.tuple #[.agg (cv B), .int .i64 0]) ∧ Fr Nil w w')
    (hx : ∀ w, Calls Try.prog 9 #[.agg (cv B)] w fun e w' => e = .returned (.tuple #[.agg (cv X), .int .i64 0]) ∧ Fr Nil w w')
    (ex : crEq X { c0 with Spsr := B.Spsr, Elr := B.Elr, Ev := true } = true) :
    Calls Try.prog 5 #[.agg (cv c), .int .i64 a1, .int .i64 a2, .int .u64 a3] w fun e w' => e = .returned (.bool true) ∧ Below w.heap.size w w' := by
  have HC0 := Lib.hid hc0
  have HA := Lib.hid ha
  have HB := Lib.hid hb
  have HX := Lib.hid hx
  clear hc0 ha hb hx
  have hneq : ∀ W : World, (binOp .neq 26 (.agg (cv X)) (.agg (cv { c0 with Spsr := B.Spsr, Elr := B.Elr, Ev := true }))).run Try.prog W = .ok (.bool false) W := fun W => by rw [run_neq_core, ex]; rfl
  clear ex
  go_enter Try.func5, Try.ntmps5
  go_wp2_with fail
  refine (examples_ok _).mono ?_
  rintro e w2 ⟨rfl, hf2⟩
  have gch2 : Blk w2 w.heap.size 26 (cv c) := Blk.fr0 (Blk.new _ _ _) hf2
  have F2 := ((Fr.refl Nil w).alloc (.cells (cv c) 26)).trans hf2
  clear hf2
  generalize hgc : w.heap.size = gc at *
  have Hgc := Lib.hid hgc
  have hge : w.heap.size ≤ gc := by omega
  clear hgc
  have dgc47 : w2.cell? ⟨gc, 47, none⟩ = some (.int .i64 c.Wait) := gch2.cellv (cv_47 _)
  have fgc47 : w2.frozen? ⟨gc, 47, none⟩ = false := gch2.frozen _
  have gch3 := (blk_setWait gch2 (0))
  have F3 := (Fr.setNew (g := gc) (i := 47) F2 hge (.int .i64 (0)))
  go_upto_region 5 with fail
  generalize (w2.setCell ⟨gc, 47, none⟩ (.int .i64 (0))) = w3 at *
  clear dgc47 fgc47 gch2 F2
  rw [← HC0.out] at gch3
  go_wp2_with (refine wpList_load_blk rfl 26 (.tmp 4) rfl gc rfl _ gch3 Try.underlying26 rfl info26 ?_)
  refine (HA.out _).mono ?_
  rintro e w4 ⟨rfl, hf4⟩
  have gch4 := Blk.fr0 gch3 hf4
  have F4 := F3.trans hf4
  clear gch3 F3 hf4
  have gcl5 := gch4.lt
  go_upto_region 6 with (refine wpList_store_blk0 rfl 26 (.tmp 10) (.tmp 29) rfl w4.heap.size rfl (cv A) rfl (Blk.new _ _ _) info26 rfl (one_cv _) ?_; intro w5 hf5 gah5)
  have gch5 := Blk.fr1 (Blk.alloc gch4 (.cells (cv zeroC) 26)) hf5 (by omega)
  have F5 := (F4.alloc (.cells (cv zeroC) 26)).own1 hf5 F4.size
  clear gch4 F4 hf5
  generalize w4.heap.size = ga at *
  go_wp2_with (refine wpList_load_blk rfl 26 (.tmp 4) rfl gc rfl _ gch5 Try.underlying26 rfl info26 ?_)
  refine (HB.out _).mono ?_
  rintro e w6 ⟨rfl, hf6⟩
  have gch6 := Blk.fr0 gch5 hf6
  have gah6 := Blk.fr0 gah5 hf6
  have F6 := F5.trans hf6
  clear gch5 gah5 F5 hf6
  have gcl7 := gch6.lt
  have gal7 := gah6.lt
  go_upto_region 9 with (refine wpList_store_blk0 rfl 26 (.tmp 12) (.tmp 34) rfl w6.heap.size rfl (cv B) rfl (Blk.new _ _ _) info26 rfl (one_cv _) ?_; intro w7 hf7 gbh7)
  have gch7 := Blk.fr1 (Blk.alloc gch6 (.cells (cv zeroC) 26)) hf7 (by omega)
  have gah7 := Blk.fr1 (Blk.alloc gah6 (.cells (cv zeroC) 26)) hf7 (by omega)
  have F7 := (F6.alloc (.cells (cv zeroC) 26)).own1 hf7 F6.size
  clear gch6 gah6 F6 hf7
  generalize w6.heap.size = gb at *
  go_wp2_with (refine wpList_load_blk rfl 26 (.tmp 12) rfl gb rfl _ gbh7 Try.underlying26 rfl info26 ?_)
  refine (HX.out _).mono ?_
  rintro e w8 ⟨rfl, hf8⟩
  have gch8 := Blk.fr0 gch7 hf8
  have gah8 := Blk.fr0 gah7 hf8
  have gbh8 := Blk.fr0 gbh7 hf8
  have F8 := F7.trans hf8
  clear gch7 gah7 gbh7 F7 hf8
  have gcl9 := gch8.lt
  have gal9 := gah8.lt
  have gbl9 := gbh8.lt
  go_upto_region 10 with (refine wpList_store_blk0 rfl 26 (.tmp 14) (.tmp 56) rfl w8.heap.size rfl (cv X) rfl (Blk.new _ _ _) info26 rfl (one_cv _) ?_; intro w9 hf9 gxh9)
  have gch9 := Blk.fr1 (Blk.alloc gch8 (.cells (cv zeroC) 26)) hf9 (by omega)
  have gah9 := Blk.fr1 (Blk.alloc gah8 (.cells (cv zeroC) 26)) hf9 (by omega)
  have gbh9 := Blk.fr1 (Blk.alloc gbh8 (.cells (cv zeroC) 26)) hf9 (by omega)
  have F9 := (F8.alloc (.cells (cv zeroC) 26)).own1 hf9 F8.size
  clear gch8 gah8 gbh8 F8 hf9
  generalize w8.heap.size = gx at *
  have gcl10 := gch9.lt
  have gal10 := gah9.lt
  have gbl10 := gbh9.lt
  have gxl10 := gxh9.lt
  go_upto_region 11 with (first | (refine wpList_load_blk rfl 26 (.tmp 4) rfl gc rfl _ gch9 Try.underlying26 rfl info26 ?_) | (refine wpList_store_blk0 rfl 26 (.tmp 16) (.tmp 58) rfl w9.heap.size rfl (cv c0) rfl (Blk.new _ _ _) info26 rfl (one_cv _) ?_; intro w10 hf10 gwh10))
  have gch10 := Blk.fr1 (Blk.alloc gch9 (.cells (cv zeroC) 26)) hf10 (by omega)
  have gah10 := Blk.fr1 (Blk.alloc gah9 (.cells (cv zeroC) 26)) hf10 (by omega)
  have gbh10 := Blk.fr1 (Blk.alloc gbh9 (.cells (cv zeroC) 26)) hf10 (by omega)
  have gxh10 := Blk.fr1 (Blk.alloc gxh9 (.cells (cv zeroC) 26)) hf10 (by omega)
  have F10 := (F9.alloc (.cells (cv zeroC) 26)).own1 hf10 F9.size
  clear gch9 gah9 gbh9 gxh9 F9 hf10
  generalize w9.heap.size = gw at *
  have hgw : w.heap.size ≤ gw := by omega
  have dgb40 : w10.cell? ⟨gb, 40, none⟩ = some (.int .u64 B.Spsr) := gbh10.cellv (cv_40 _)
  have dgb41 : w10.cell? ⟨gb, 41, none⟩ = some (.int .u64 B.Elr) := gbh10.cellv (cv_41 _)
  have dgw40 : w10.cell? ⟨gw, 40, none⟩ = some (.int .u64 c0.Spsr) := gwh10.cellv (cv_40 _)
  have dgw41 : w10.cell? ⟨gw, 41, none⟩ = some (.int .u64 c0.Elr) := gwh10.cellv (cv_41 _)
  have dgw48 : w10.cell? ⟨gw, 48, none⟩ = some (.bool c0.Ev) := gwh10.cellv (cv_48 _)
  have fgw40 : w10.frozen? ⟨gw, 40, none⟩ = false := gwh10.frozen _
  have fgw41 : w10.frozen? ⟨gw, 41, none⟩ = false := gwh10.frozen _
  have fgw48 : w10.frozen? ⟨gw, 48, none⟩ = false := gwh10.frozen _
  have negc11 : gc ≠ gw := by omega
  have nega11 : ga ≠ gw := by omega
  have negb11 : gb ≠ gw := by omega
  have negx11 : gx ≠ gw := by omega
  have gwh11 := (blk_setEv (blk_setElr (blk_setSpsr gwh10 (B.Spsr)) (B.Elr)) (true))
  have gch11 := (Blk.farc (b := gw) (i := 48) (Blk.farc (b := gw) (i := 41) (Blk.farc (b := gw) (i := 40) gch10 negc11 (.int .u64 (B.Spsr))) negc11 (.int .u64 (B.Elr))) negc11 (.bool (true)))
  have gah11 := (Blk.farc (b := gw) (i := 48) (Blk.farc (b := gw) (i := 41) (Blk.farc (b := gw) (i := 40) gah10 nega11 (.int .u64 (B.Spsr))) nega11 (.int .u64 (B.Elr))) nega11 (.bool (true)))
  have gbh11 := (Blk.farc (b := gw) (i := 48) (Blk.farc (b := gw) (i := 41) (Blk.farc (b := gw) (i := 40) gbh10 negb11 (.int .u64 (B.Spsr))) negb11 (.int .u64 (B.Elr))) negb11 (.bool (true)))
  have gxh11 := (Blk.farc (b := gw) (i := 48) (Blk.farc (b := gw) (i := 41) (Blk.farc (b := gw) (i := 40) gxh10 negx11 (.int .u64 (B.Spsr))) negx11 (.int .u64 (B.Elr))) negx11 (.bool (true)))
  have F11 := (Fr.setNew (g := gw) (i := 48) (Fr.setNew (g := gw) (i := 41) (Fr.setNew (g := gw) (i := 40) F10 hgw (.int .u64 (B.Spsr))) hgw (.int .u64 (B.Elr))) hgw (.bool (true)))
  go_upto_region 14 with fail
  generalize (((w10.setCell ⟨gw, 40, none⟩ (.int .u64 (B.Spsr))).setCell ⟨gw, 41, none⟩ (.int .u64 (B.Elr))).setCell ⟨gw, 48, none⟩ (.bool (true))) = w11 at *
  clear dgb40 dgb41 dgw40 dgw41 dgw48 fgw40 fgw41 fgw48 gch10 gah10 gbh10 gxh10 gwh10 F10
  go_upto_region 16 with (first | (refine wpList_load_blkg rfl 26 (.tmp 14) rfl gx rfl _ gxh11 Try.underlying26 rfl info26 ?_) | (refine wpList_load_blkg rfl 26 (.tmp 16) rfl gw rfl _ gwh11 Try.underlying26 rfl info26 ?_))
  go_wp2_with fail
  all_goals go_ret
  all_goals exact ⟨by first | rfl | simp [*], F11.below (by rw [Hgc.out]; exact Nat.le_refl _) (fun _ _ => id)⟩
set_option maxRecDepth 100000 in
set_option maxHeartbeats 4000000 in
theorem back_walk_21 (c c0 A B X Y : Cr) (a1 a2 a3 : Int) (w : World) (hc0 : c0 = { c with Wait := 0 })
    (ha : ∀ w, Calls Try.prog 7 #[.agg (cv c0), .int .i64 a1, .int .i64 a2, .int .u64 a3] w fun e w' => e = .returned (.tuple #[.agg (cv A), .int .i64 0]) ∧ Fr Nil w w')
    (hb : ∀ w, Calls Try.prog 12 #[.agg (cv c0)] w fun e w' => e = .returned (.tuple #[.agg (cv B), .int .i64 0]) ∧ Fr Nil w w')
    (hx : ∀ w, Calls Try.prog 9 #[.agg (cv B)] w fun e w' => e = .returned (.tuple #[.agg (cv X), .int .i64 0]) ∧ Fr Nil w w')
    (ex : crEq X { c0 with Spsr := B.Spsr, Elr := B.Elr, Ev := true } = true)
    (hy : ∀ w, Calls Try.prog 9 #[.agg (cv A)] w fun e w' => e = .returned (.tuple #[.agg (cv Y), .int .i64 0]) ∧ Fr Nil w w')
    (ey : crEq Y { c0 with Spsr := A.Spsr, Elr := A.Elr, Esr := A.Esr, Far := A.Far, Ev := true, PC := IntKind.u64.wrap (c0.PC + 4) } = true)
    (n21 : (a1 == 21) = true) :
    Calls Try.prog 5 #[.agg (cv c), .int .i64 a1, .int .i64 a2, .int .u64 a3] w fun e w' => e = .returned (.bool true) ∧ Below w.heap.size w w' := by
  have HC0 := Lib.hid hc0
  have HA := Lib.hid ha
  have HB := Lib.hid hb
  have HX := Lib.hid hx
  have HY := Lib.hid hy
  clear hc0 ha hb hx hy
  have hneq : ∀ W : World, (binOp .neq 26 (.agg (cv X)) (.agg (cv { c0 with Spsr := B.Spsr, Elr := B.Elr, Ev := true }))).run Try.prog W = .ok (.bool false) W := fun W => by rw [run_neq_core, ex]; rfl
  have heq : ∀ W : World, (binOp .eql 26 (.agg (cv Y)) (.agg (cv { c0 with Spsr := A.Spsr, Elr := A.Elr, Ev := true, Esr := A.Esr, Far := A.Far, PC := IntKind.u64.wrap (c0.PC + 4) }))).run Try.prog W = .ok (.bool true) W := fun W => by rw [run_eq_core, ey]
  clear ex ey
  go_enter Try.func5, Try.ntmps5
  go_wp2_with fail
  refine (examples_ok _).mono ?_
  rintro e w2 ⟨rfl, hf2⟩
  have gch2 : Blk w2 w.heap.size 26 (cv c) := Blk.fr0 (Blk.new _ _ _) hf2
  have F2 := ((Fr.refl Nil w).alloc (.cells (cv c) 26)).trans hf2
  clear hf2
  generalize hgc : w.heap.size = gc at *
  have Hgc := Lib.hid hgc
  have hge : w.heap.size ≤ gc := by omega
  clear hgc
  have dgc47 : w2.cell? ⟨gc, 47, none⟩ = some (.int .i64 c.Wait) := gch2.cellv (cv_47 _)
  have fgc47 : w2.frozen? ⟨gc, 47, none⟩ = false := gch2.frozen _
  have gch3 := (blk_setWait gch2 (0))
  have F3 := (Fr.setNew (g := gc) (i := 47) F2 hge (.int .i64 (0)))
  go_upto_region 5 with fail
  generalize (w2.setCell ⟨gc, 47, none⟩ (.int .i64 (0))) = w3 at *
  clear dgc47 fgc47 gch2 F2
  rw [← HC0.out] at gch3
  go_wp2_with (refine wpList_load_blk rfl 26 (.tmp 4) rfl gc rfl _ gch3 Try.underlying26 rfl info26 ?_)
  refine (HA.out _).mono ?_
  rintro e w4 ⟨rfl, hf4⟩
  have gch4 := Blk.fr0 gch3 hf4
  have F4 := F3.trans hf4
  clear gch3 F3 hf4
  have gcl5 := gch4.lt
  go_upto_region 6 with (refine wpList_store_blk0 rfl 26 (.tmp 10) (.tmp 29) rfl w4.heap.size rfl (cv A) rfl (Blk.new _ _ _) info26 rfl (one_cv _) ?_; intro w5 hf5 gah5)
  have gch5 := Blk.fr1 (Blk.alloc gch4 (.cells (cv zeroC) 26)) hf5 (by omega)
  have F5 := (F4.alloc (.cells (cv zeroC) 26)).own1 hf5 F4.size
  clear gch4 F4 hf5
  generalize w4.heap.size = ga at *
  go_wp2_with (refine wpList_load_blk rfl 26 (.tmp 4) rfl gc rfl _ gch5 Try.underlying26 rfl info26 ?_)
  refine (HB.out _).mono ?_
  rintro e w6 ⟨rfl, hf6⟩
  have gch6 := Blk.fr0 gch5 hf6
  have gah6 := Blk.fr0 gah5 hf6
  have F6 := F5.trans hf6
  clear gch5 gah5 F5 hf6
  have gcl7 := gch6.lt
  have gal7 := gah6.lt
  go_upto_region 9 with (refine wpList_store_blk0 rfl 26 (.tmp 12) (.tmp 34) rfl w6.heap.size rfl (cv B) rfl (Blk.new _ _ _) info26 rfl (one_cv _) ?_; intro w7 hf7 gbh7)
  have gch7 := Blk.fr1 (Blk.alloc gch6 (.cells (cv zeroC) 26)) hf7 (by omega)
  have gah7 := Blk.fr1 (Blk.alloc gah6 (.cells (cv zeroC) 26)) hf7 (by omega)
  have F7 := (F6.alloc (.cells (cv zeroC) 26)).own1 hf7 F6.size
  clear gch6 gah6 F6 hf7
  generalize w6.heap.size = gb at *
  go_wp2_with (refine wpList_load_blk rfl 26 (.tmp 12) rfl gb rfl _ gbh7 Try.underlying26 rfl info26 ?_)
  refine (HX.out _).mono ?_
  rintro e w8 ⟨rfl, hf8⟩
  have gch8 := Blk.fr0 gch7 hf8
  have gah8 := Blk.fr0 gah7 hf8
  have gbh8 := Blk.fr0 gbh7 hf8
  have F8 := F7.trans hf8
  clear gch7 gah7 gbh7 F7 hf8
  have gcl9 := gch8.lt
  have gal9 := gah8.lt
  have gbl9 := gbh8.lt
  go_upto_region 10 with (refine wpList_store_blk0 rfl 26 (.tmp 14) (.tmp 56) rfl w8.heap.size rfl (cv X) rfl (Blk.new _ _ _) info26 rfl (one_cv _) ?_; intro w9 hf9 gxh9)
  have gch9 := Blk.fr1 (Blk.alloc gch8 (.cells (cv zeroC) 26)) hf9 (by omega)
  have gah9 := Blk.fr1 (Blk.alloc gah8 (.cells (cv zeroC) 26)) hf9 (by omega)
  have gbh9 := Blk.fr1 (Blk.alloc gbh8 (.cells (cv zeroC) 26)) hf9 (by omega)
  have F9 := (F8.alloc (.cells (cv zeroC) 26)).own1 hf9 F8.size
  clear gch8 gah8 gbh8 F8 hf9
  generalize w8.heap.size = gx at *
  have gcl10 := gch9.lt
  have gal10 := gah9.lt
  have gbl10 := gbh9.lt
  have gxl10 := gxh9.lt
  go_upto_region 11 with (first | (refine wpList_load_blk rfl 26 (.tmp 4) rfl gc rfl _ gch9 Try.underlying26 rfl info26 ?_) | (refine wpList_store_blk0 rfl 26 (.tmp 16) (.tmp 58) rfl w9.heap.size rfl (cv c0) rfl (Blk.new _ _ _) info26 rfl (one_cv _) ?_; intro w10 hf10 gwh10))
  have gch10 := Blk.fr1 (Blk.alloc gch9 (.cells (cv zeroC) 26)) hf10 (by omega)
  have gah10 := Blk.fr1 (Blk.alloc gah9 (.cells (cv zeroC) 26)) hf10 (by omega)
  have gbh10 := Blk.fr1 (Blk.alloc gbh9 (.cells (cv zeroC) 26)) hf10 (by omega)
  have gxh10 := Blk.fr1 (Blk.alloc gxh9 (.cells (cv zeroC) 26)) hf10 (by omega)
  have F10 := (F9.alloc (.cells (cv zeroC) 26)).own1 hf10 F9.size
  clear gch9 gah9 gbh9 gxh9 F9 hf10
  generalize w9.heap.size = gw at *
  have hgw : w.heap.size ≤ gw := by omega
  have dgb40 : w10.cell? ⟨gb, 40, none⟩ = some (.int .u64 B.Spsr) := gbh10.cellv (cv_40 _)
  have dgb41 : w10.cell? ⟨gb, 41, none⟩ = some (.int .u64 B.Elr) := gbh10.cellv (cv_41 _)
  have dgw40 : w10.cell? ⟨gw, 40, none⟩ = some (.int .u64 c0.Spsr) := gwh10.cellv (cv_40 _)
  have dgw41 : w10.cell? ⟨gw, 41, none⟩ = some (.int .u64 c0.Elr) := gwh10.cellv (cv_41 _)
  have dgw48 : w10.cell? ⟨gw, 48, none⟩ = some (.bool c0.Ev) := gwh10.cellv (cv_48 _)
  have fgw40 : w10.frozen? ⟨gw, 40, none⟩ = false := gwh10.frozen _
  have fgw41 : w10.frozen? ⟨gw, 41, none⟩ = false := gwh10.frozen _
  have fgw48 : w10.frozen? ⟨gw, 48, none⟩ = false := gwh10.frozen _
  have negc11 : gc ≠ gw := by omega
  have nega11 : ga ≠ gw := by omega
  have negb11 : gb ≠ gw := by omega
  have negx11 : gx ≠ gw := by omega
  have gwh11 := (blk_setEv (blk_setElr (blk_setSpsr gwh10 (B.Spsr)) (B.Elr)) (true))
  have gch11 := (Blk.farc (b := gw) (i := 48) (Blk.farc (b := gw) (i := 41) (Blk.farc (b := gw) (i := 40) gch10 negc11 (.int .u64 (B.Spsr))) negc11 (.int .u64 (B.Elr))) negc11 (.bool (true)))
  have gah11 := (Blk.farc (b := gw) (i := 48) (Blk.farc (b := gw) (i := 41) (Blk.farc (b := gw) (i := 40) gah10 nega11 (.int .u64 (B.Spsr))) nega11 (.int .u64 (B.Elr))) nega11 (.bool (true)))
  have gbh11 := (Blk.farc (b := gw) (i := 48) (Blk.farc (b := gw) (i := 41) (Blk.farc (b := gw) (i := 40) gbh10 negb11 (.int .u64 (B.Spsr))) negb11 (.int .u64 (B.Elr))) negb11 (.bool (true)))
  have gxh11 := (Blk.farc (b := gw) (i := 48) (Blk.farc (b := gw) (i := 41) (Blk.farc (b := gw) (i := 40) gxh10 negx11 (.int .u64 (B.Spsr))) negx11 (.int .u64 (B.Elr))) negx11 (.bool (true)))
  have F11 := (Fr.setNew (g := gw) (i := 48) (Fr.setNew (g := gw) (i := 41) (Fr.setNew (g := gw) (i := 40) F10 hgw (.int .u64 (B.Spsr))) hgw (.int .u64 (B.Elr))) hgw (.bool (true)))
  go_upto_region 14 with fail
  generalize (((w10.setCell ⟨gw, 40, none⟩ (.int .u64 (B.Spsr))).setCell ⟨gw, 41, none⟩ (.int .u64 (B.Elr))).setCell ⟨gw, 48, none⟩ (.bool (true))) = w11 at *
  clear dgb40 dgb41 dgw40 dgw41 dgw48 fgw40 fgw41 fgw48 gch10 gah10 gbh10 gxh10 gwh10 F10
  go_upto_region 16 with (first | (refine wpList_load_blkg rfl 26 (.tmp 14) rfl gx rfl _ gxh11 Try.underlying26 rfl info26 ?_) | (refine wpList_load_blkg rfl 26 (.tmp 16) rfl gw rfl _ gwh11 Try.underlying26 rfl info26 ?_))
  go_wp2_with (refine wpList_load_blk rfl 26 (.tmp 10) rfl ga rfl _ gah11 Try.underlying26 rfl info26 ?_)
  refine (HY.out _).mono ?_
  rintro e w12 ⟨rfl, hf12⟩
  have gch12 := Blk.fr0 gch11 hf12
  have gah12 := Blk.fr0 gah11 hf12
  have gbh12 := Blk.fr0 gbh11 hf12
  have gxh12 := Blk.fr0 gxh11 hf12
  have gwh12 := Blk.fr0 gwh11 hf12
  have F12 := F11.trans hf12
  clear gch11 gah11 gbh11 gxh11 gwh11 F11 hf12
  have gcl13 := gch12.lt
  have gal13 := gah12.lt
  have gbl13 := gbh12.lt
  have gxl13 := gxh12.lt
  have gwl13 := gwh12.lt
  go_upto_region 19 with (refine wpList_store_blk0 rfl 26 (.tmp 17) (.tmp 79) rfl w12.heap.size rfl (cv Y) rfl (Blk.new _ _ _) info26 rfl (one_cv _) ?_; intro w13 hf13 gyh13)
  have gch13 := Blk.fr1 (Blk.alloc gch12 (.cells (cv zeroC) 26)) hf13 (by omega)
  have gah13 := Blk.fr1 (Blk.alloc gah12 (.cells (cv zeroC) 26)) hf13 (by omega)
  have gbh13 := Blk.fr1 (Blk.alloc gbh12 (.cells (cv zeroC) 26)) hf13 (by omega)
  have gxh13 := Blk.fr1 (Blk.alloc gxh12 (.cells (cv zeroC) 26)) hf13 (by omega)
  have gwh13 := Blk.fr1 (Blk.alloc gwh12 (.cells (cv zeroC) 26)) hf13 (by omega)
  have F13 := (F12.alloc (.cells (cv zeroC) 26)).own1 hf13 F12.size
  clear gch12 gah12 gbh12 gxh12 gwh12 F12 hf13
  generalize w12.heap.size = gy at *
  have dga40 : w13.cell? ⟨ga, 40, none⟩ = some (.int .u64 A.Spsr) := gah13.cellv (cv_40 _)
  have dga41 : w13.cell? ⟨ga, 41, none⟩ = some (.int .u64 A.Elr) := gah13.cellv (cv_41 _)
  have dga42 : w13.cell? ⟨ga, 42, none⟩ = some (.int .u64 A.Esr) := gah13.cellv (cv_42 _)
  have dga43 : w13.cell? ⟨ga, 43, none⟩ = some (.int .u64 A.Far) := gah13.cellv (cv_43 _)
  have dgw40 : w13.cell? ⟨gw, 40, none⟩ = some (.int .u64 B.Spsr) := gwh13.cellv (cv_40 _)
  have dgw41 : w13.cell? ⟨gw, 41, none⟩ = some (.int .u64 B.Elr) := gwh13.cellv (cv_41 _)
  have dgw42 : w13.cell? ⟨gw, 42, none⟩ = some (.int .u64 c0.Esr) := gwh13.cellv (cv_42 _)
  have dgw43 : w13.cell? ⟨gw, 43, none⟩ = some (.int .u64 c0.Far) := gwh13.cellv (cv_43 _)
  have dgw33 : w13.cell? ⟨gw, 33, none⟩ = some (.int .u64 c0.PC) := gwh13.cellv (cv_33 _)
  have fgw40 : w13.frozen? ⟨gw, 40, none⟩ = false := gwh13.frozen _
  have fgw41 : w13.frozen? ⟨gw, 41, none⟩ = false := gwh13.frozen _
  have fgw42 : w13.frozen? ⟨gw, 42, none⟩ = false := gwh13.frozen _
  have fgw43 : w13.frozen? ⟨gw, 43, none⟩ = false := gwh13.frozen _
  have fgw33 : w13.frozen? ⟨gw, 33, none⟩ = false := gwh13.frozen _
  have negc14 : gc ≠ gw := by omega
  have nega14 : ga ≠ gw := by omega
  have negb14 : gb ≠ gw := by omega
  have negx14 : gx ≠ gw := by omega
  have negy14 : gy ≠ gw := by omega
  have gwh14 := (blk_setPC (blk_setFar (blk_setEsr (blk_setElr (blk_setSpsr gwh13 (A.Spsr)) (A.Elr)) (A.Esr)) (A.Far)) (IntKind.u64.wrap (c0.PC + 4)))
  have gch14 := (Blk.farc (b := gw) (i := 33) (Blk.farc (b := gw) (i := 43) (Blk.farc (b := gw) (i := 42) (Blk.farc (b := gw) (i := 41) (Blk.farc (b := gw) (i := 40) gch13 negc14 (.int .u64 (A.Spsr))) negc14 (.int .u64 (A.Elr))) negc14 (.int .u64 (A.Esr))) negc14 (.int .u64 (A.Far))) negc14 (.int .u64 (IntKind.u64.wrap (c0.PC + 4))))
  have gah14 := (Blk.farc (b := gw) (i := 33) (Blk.farc (b := gw) (i := 43) (Blk.farc (b := gw) (i := 42) (Blk.farc (b := gw) (i := 41) (Blk.farc (b := gw) (i := 40) gah13 nega14 (.int .u64 (A.Spsr))) nega14 (.int .u64 (A.Elr))) nega14 (.int .u64 (A.Esr))) nega14 (.int .u64 (A.Far))) nega14 (.int .u64 (IntKind.u64.wrap (c0.PC + 4))))
  have gbh14 := (Blk.farc (b := gw) (i := 33) (Blk.farc (b := gw) (i := 43) (Blk.farc (b := gw) (i := 42) (Blk.farc (b := gw) (i := 41) (Blk.farc (b := gw) (i := 40) gbh13 negb14 (.int .u64 (A.Spsr))) negb14 (.int .u64 (A.Elr))) negb14 (.int .u64 (A.Esr))) negb14 (.int .u64 (A.Far))) negb14 (.int .u64 (IntKind.u64.wrap (c0.PC + 4))))
  have gxh14 := (Blk.farc (b := gw) (i := 33) (Blk.farc (b := gw) (i := 43) (Blk.farc (b := gw) (i := 42) (Blk.farc (b := gw) (i := 41) (Blk.farc (b := gw) (i := 40) gxh13 negx14 (.int .u64 (A.Spsr))) negx14 (.int .u64 (A.Elr))) negx14 (.int .u64 (A.Esr))) negx14 (.int .u64 (A.Far))) negx14 (.int .u64 (IntKind.u64.wrap (c0.PC + 4))))
  have gyh14 := (Blk.farc (b := gw) (i := 33) (Blk.farc (b := gw) (i := 43) (Blk.farc (b := gw) (i := 42) (Blk.farc (b := gw) (i := 41) (Blk.farc (b := gw) (i := 40) gyh13 negy14 (.int .u64 (A.Spsr))) negy14 (.int .u64 (A.Elr))) negy14 (.int .u64 (A.Esr))) negy14 (.int .u64 (A.Far))) negy14 (.int .u64 (IntKind.u64.wrap (c0.PC + 4))))
  have F14 := (Fr.setNew (g := gw) (i := 33) (Fr.setNew (g := gw) (i := 43) (Fr.setNew (g := gw) (i := 42) (Fr.setNew (g := gw) (i := 41) (Fr.setNew (g := gw) (i := 40) F13 hgw (.int .u64 (A.Spsr))) hgw (.int .u64 (A.Elr))) hgw (.int .u64 (A.Esr))) hgw (.int .u64 (A.Far))) hgw (.int .u64 (IntKind.u64.wrap (c0.PC + 4))))
  go_upto_region 25 with fail
  generalize (((((w13.setCell ⟨gw, 40, none⟩ (.int .u64 (A.Spsr))).setCell ⟨gw, 41, none⟩ (.int .u64 (A.Elr))).setCell ⟨gw, 42, none⟩ (.int .u64 (A.Esr))).setCell ⟨gw, 43, none⟩ (.int .u64 (A.Far))).setCell ⟨gw, 33, none⟩ (.int .u64 (IntKind.u64.wrap (c0.PC + 4)))) = w14 at *
  clear dga40 dga41 dga42 dga43 dgw40 dgw41 dgw42 dgw43 dgw33 fgw40 fgw41 fgw42 fgw43 fgw33 gch13 gah13 gbh13 gxh13 gwh13 gyh13 F13
  go_wp2_with (first | (refine wpList_load_blkg rfl 26 (.tmp 17) rfl gy rfl _ gyh14 Try.underlying26 rfl info26 ?_) | (refine wpList_load_blkg rfl 26 (.tmp 16) rfl gw rfl _ gwh14 Try.underlying26 rfl info26 ?_))
  all_goals go_ret
  all_goals exact ⟨by first | rfl | simp [*], F14.below (by rw [Hgc.out]; exact Nat.le_refl _) (fun _ _ => id)⟩
set_option maxRecDepth 100000 in
set_option maxHeartbeats 4000000 in
theorem back_walk_n21 (c c0 A B X Y : Cr) (a1 a2 a3 : Int) (w : World) (hc0 : c0 = { c with Wait := 0 })
    (ha : ∀ w, Calls Try.prog 7 #[.agg (cv c0), .int .i64 a1, .int .i64 a2, .int .u64 a3] w fun e w' => e = .returned (.tuple #[.agg (cv A), .int .i64 0]) ∧ Fr Nil w w')
    (hb : ∀ w, Calls Try.prog 12 #[.agg (cv c0)] w fun e w' => e = .returned (.tuple #[.agg (cv B), .int .i64 0]) ∧ Fr Nil w w')
    (hx : ∀ w, Calls Try.prog 9 #[.agg (cv B)] w fun e w' => e = .returned (.tuple #[.agg (cv X), .int .i64 0]) ∧ Fr Nil w w')
    (ex : crEq X { c0 with Spsr := B.Spsr, Elr := B.Elr, Ev := true } = true)
    (hy : ∀ w, Calls Try.prog 9 #[.agg (cv A)] w fun e w' => e = .returned (.tuple #[.agg (cv Y), .int .i64 0]) ∧ Fr Nil w w')
    (ey : crEq Y { c0 with Spsr := A.Spsr, Elr := A.Elr, Esr := A.Esr, Far := A.Far, Ev := true } = true)
    (n21 : (a1 == 21) = false) :
    Calls Try.prog 5 #[.agg (cv c), .int .i64 a1, .int .i64 a2, .int .u64 a3] w fun e w' => e = .returned (.bool true) ∧ Below w.heap.size w w' := by
  have HC0 := Lib.hid hc0
  have HA := Lib.hid ha
  have HB := Lib.hid hb
  have HX := Lib.hid hx
  have HY := Lib.hid hy
  clear hc0 ha hb hx hy
  have hneq : ∀ W : World, (binOp .neq 26 (.agg (cv X)) (.agg (cv { c0 with Spsr := B.Spsr, Elr := B.Elr, Ev := true }))).run Try.prog W = .ok (.bool false) W := fun W => by rw [run_neq_core, ex]; rfl
  have heq : ∀ W : World, (binOp .eql 26 (.agg (cv Y)) (.agg (cv { c0 with Spsr := A.Spsr, Elr := A.Elr, Ev := true, Esr := A.Esr, Far := A.Far }))).run Try.prog W = .ok (.bool true) W := fun W => by rw [run_eq_core, ey]
  clear ex ey
  go_enter Try.func5, Try.ntmps5
  go_wp2_with fail
  refine (examples_ok _).mono ?_
  rintro e w2 ⟨rfl, hf2⟩
  have gch2 : Blk w2 w.heap.size 26 (cv c) := Blk.fr0 (Blk.new _ _ _) hf2
  have F2 := ((Fr.refl Nil w).alloc (.cells (cv c) 26)).trans hf2
  clear hf2
  generalize hgc : w.heap.size = gc at *
  have Hgc := Lib.hid hgc
  have hge : w.heap.size ≤ gc := by omega
  clear hgc
  have dgc47 : w2.cell? ⟨gc, 47, none⟩ = some (.int .i64 c.Wait) := gch2.cellv (cv_47 _)
  have fgc47 : w2.frozen? ⟨gc, 47, none⟩ = false := gch2.frozen _
  have gch3 := (blk_setWait gch2 (0))
  have F3 := (Fr.setNew (g := gc) (i := 47) F2 hge (.int .i64 (0)))
  go_upto_region 5 with fail
  generalize (w2.setCell ⟨gc, 47, none⟩ (.int .i64 (0))) = w3 at *
  clear dgc47 fgc47 gch2 F2
  rw [← HC0.out] at gch3
  go_wp2_with (refine wpList_load_blk rfl 26 (.tmp 4) rfl gc rfl _ gch3 Try.underlying26 rfl info26 ?_)
  refine (HA.out _).mono ?_
  rintro e w4 ⟨rfl, hf4⟩
  have gch4 := Blk.fr0 gch3 hf4
  have F4 := F3.trans hf4
  clear gch3 F3 hf4
  have gcl5 := gch4.lt
  go_upto_region 6 with (refine wpList_store_blk0 rfl 26 (.tmp 10) (.tmp 29) rfl w4.heap.size rfl (cv A) rfl (Blk.new _ _ _) info26 rfl (one_cv _) ?_; intro w5 hf5 gah5)
  have gch5 := Blk.fr1 (Blk.alloc gch4 (.cells (cv zeroC) 26)) hf5 (by omega)
  have F5 := (F4.alloc (.cells (cv zeroC) 26)).own1 hf5 F4.size
  clear gch4 F4 hf5
  generalize w4.heap.size = ga at *
  go_wp2_with (refine wpList_load_blk rfl 26 (.tmp 4) rfl gc rfl _ gch5 Try.underlying26 rfl info26 ?_)
  refine (HB.out _).mono ?_
  rintro e w6 ⟨rfl, hf6⟩
  have gch6 := Blk.fr0 gch5 hf6
  have gah6 := Blk.fr0 gah5 hf6
  have F6 := F5.trans hf6
  clear gch5 gah5 F5 hf6
  have gcl7 := gch6.lt
  have gal7 := gah6.lt
  go_upto_region 9 with (refine wpList_store_blk0 rfl 26 (.tmp 12) (.tmp 34) rfl w6.heap.size rfl (cv B) rfl (Blk.new _ _ _) info26 rfl (one_cv _) ?_; intro w7 hf7 gbh7)
  have gch7 := Blk.fr1 (Blk.alloc gch6 (.cells (cv zeroC) 26)) hf7 (by omega)
  have gah7 := Blk.fr1 (Blk.alloc gah6 (.cells (cv zeroC) 26)) hf7 (by omega)
  have F7 := (F6.alloc (.cells (cv zeroC) 26)).own1 hf7 F6.size
  clear gch6 gah6 F6 hf7
  generalize w6.heap.size = gb at *
  go_wp2_with (refine wpList_load_blk rfl 26 (.tmp 12) rfl gb rfl _ gbh7 Try.underlying26 rfl info26 ?_)
  refine (HX.out _).mono ?_
  rintro e w8 ⟨rfl, hf8⟩
  have gch8 := Blk.fr0 gch7 hf8
  have gah8 := Blk.fr0 gah7 hf8
  have gbh8 := Blk.fr0 gbh7 hf8
  have F8 := F7.trans hf8
  clear gch7 gah7 gbh7 F7 hf8
  have gcl9 := gch8.lt
  have gal9 := gah8.lt
  have gbl9 := gbh8.lt
  go_upto_region 10 with (refine wpList_store_blk0 rfl 26 (.tmp 14) (.tmp 56) rfl w8.heap.size rfl (cv X) rfl (Blk.new _ _ _) info26 rfl (one_cv _) ?_; intro w9 hf9 gxh9)
  have gch9 := Blk.fr1 (Blk.alloc gch8 (.cells (cv zeroC) 26)) hf9 (by omega)
  have gah9 := Blk.fr1 (Blk.alloc gah8 (.cells (cv zeroC) 26)) hf9 (by omega)
  have gbh9 := Blk.fr1 (Blk.alloc gbh8 (.cells (cv zeroC) 26)) hf9 (by omega)
  have F9 := (F8.alloc (.cells (cv zeroC) 26)).own1 hf9 F8.size
  clear gch8 gah8 gbh8 F8 hf9
  generalize w8.heap.size = gx at *
  have gcl10 := gch9.lt
  have gal10 := gah9.lt
  have gbl10 := gbh9.lt
  have gxl10 := gxh9.lt
  go_upto_region 11 with (first | (refine wpList_load_blk rfl 26 (.tmp 4) rfl gc rfl _ gch9 Try.underlying26 rfl info26 ?_) | (refine wpList_store_blk0 rfl 26 (.tmp 16) (.tmp 58) rfl w9.heap.size rfl (cv c0) rfl (Blk.new _ _ _) info26 rfl (one_cv _) ?_; intro w10 hf10 gwh10))
  have gch10 := Blk.fr1 (Blk.alloc gch9 (.cells (cv zeroC) 26)) hf10 (by omega)
  have gah10 := Blk.fr1 (Blk.alloc gah9 (.cells (cv zeroC) 26)) hf10 (by omega)
  have gbh10 := Blk.fr1 (Blk.alloc gbh9 (.cells (cv zeroC) 26)) hf10 (by omega)
  have gxh10 := Blk.fr1 (Blk.alloc gxh9 (.cells (cv zeroC) 26)) hf10 (by omega)
  have F10 := (F9.alloc (.cells (cv zeroC) 26)).own1 hf10 F9.size
  clear gch9 gah9 gbh9 gxh9 F9 hf10
  generalize w9.heap.size = gw at *
  have hgw : w.heap.size ≤ gw := by omega
  have dgb40 : w10.cell? ⟨gb, 40, none⟩ = some (.int .u64 B.Spsr) := gbh10.cellv (cv_40 _)
  have dgb41 : w10.cell? ⟨gb, 41, none⟩ = some (.int .u64 B.Elr) := gbh10.cellv (cv_41 _)
  have dgw40 : w10.cell? ⟨gw, 40, none⟩ = some (.int .u64 c0.Spsr) := gwh10.cellv (cv_40 _)
  have dgw41 : w10.cell? ⟨gw, 41, none⟩ = some (.int .u64 c0.Elr) := gwh10.cellv (cv_41 _)
  have dgw48 : w10.cell? ⟨gw, 48, none⟩ = some (.bool c0.Ev) := gwh10.cellv (cv_48 _)
  have fgw40 : w10.frozen? ⟨gw, 40, none⟩ = false := gwh10.frozen _
  have fgw41 : w10.frozen? ⟨gw, 41, none⟩ = false := gwh10.frozen _
  have fgw48 : w10.frozen? ⟨gw, 48, none⟩ = false := gwh10.frozen _
  have negc11 : gc ≠ gw := by omega
  have nega11 : ga ≠ gw := by omega
  have negb11 : gb ≠ gw := by omega
  have negx11 : gx ≠ gw := by omega
  have gwh11 := (blk_setEv (blk_setElr (blk_setSpsr gwh10 (B.Spsr)) (B.Elr)) (true))
  have gch11 := (Blk.farc (b := gw) (i := 48) (Blk.farc (b := gw) (i := 41) (Blk.farc (b := gw) (i := 40) gch10 negc11 (.int .u64 (B.Spsr))) negc11 (.int .u64 (B.Elr))) negc11 (.bool (true)))
  have gah11 := (Blk.farc (b := gw) (i := 48) (Blk.farc (b := gw) (i := 41) (Blk.farc (b := gw) (i := 40) gah10 nega11 (.int .u64 (B.Spsr))) nega11 (.int .u64 (B.Elr))) nega11 (.bool (true)))
  have gbh11 := (Blk.farc (b := gw) (i := 48) (Blk.farc (b := gw) (i := 41) (Blk.farc (b := gw) (i := 40) gbh10 negb11 (.int .u64 (B.Spsr))) negb11 (.int .u64 (B.Elr))) negb11 (.bool (true)))
  have gxh11 := (Blk.farc (b := gw) (i := 48) (Blk.farc (b := gw) (i := 41) (Blk.farc (b := gw) (i := 40) gxh10 negx11 (.int .u64 (B.Spsr))) negx11 (.int .u64 (B.Elr))) negx11 (.bool (true)))
  have F11 := (Fr.setNew (g := gw) (i := 48) (Fr.setNew (g := gw) (i := 41) (Fr.setNew (g := gw) (i := 40) F10 hgw (.int .u64 (B.Spsr))) hgw (.int .u64 (B.Elr))) hgw (.bool (true)))
  go_upto_region 14 with fail
  generalize (((w10.setCell ⟨gw, 40, none⟩ (.int .u64 (B.Spsr))).setCell ⟨gw, 41, none⟩ (.int .u64 (B.Elr))).setCell ⟨gw, 48, none⟩ (.bool (true))) = w11 at *
  clear dgb40 dgb41 dgw40 dgw41 dgw48 fgw40 fgw41 fgw48 gch10 gah10 gbh10 gxh10 gwh10 F10
  go_upto_region 16 with (first | (refine wpList_load_blkg rfl 26 (.tmp 14) rfl gx rfl _ gxh11 Try.underlying26 rfl info26 ?_) | (refine wpList_load_blkg rfl 26 (.tmp 16) rfl gw rfl _ gwh11 Try.underlying26 rfl info26 ?_))
  go_wp2_with (refine wpList_load_blk rfl 26 (.tmp 10) rfl ga rfl _ gah11 Try.underlying26 rfl info26 ?_)
  refine (HY.out _).mono ?_
  rintro e w12 ⟨rfl, hf12⟩
  have gch12 := Blk.fr0 gch11 hf12
  have gah12 := Blk.fr0 gah11 hf12
  have gbh12 := Blk.fr0 gbh11 hf12
  have gxh12 := Blk.fr0 gxh11 hf12
  have gwh12 := Blk.fr0 gwh11 hf12
  have F12 := F11.trans hf12
  clear gch11 gah11 gbh11 gxh11 gwh11 F11 hf12
  have gcl13 := gch12.lt
  have gal13 := gah12.lt
  have gbl13 := gbh12.lt
  have gxl13 := gxh12.lt
  have gwl13 := gwh12.lt
  go_upto_region 19 with (refine wpList_store_blk0 rfl 26 (.tmp 17) (.tmp 79) rfl w12.heap.size rfl (cv Y) rfl (Blk.new _ _ _) info26 rfl (one_cv _) ?_; intro w13 hf13 gyh13)
  have gch13 := Blk.fr1 (Blk.alloc gch12 (.cells (cv zeroC) 26)) hf13 (by omega)
  have gah13 := Blk.fr1 (Blk.alloc gah12 (.cells (cv zeroC) 26)) hf13 (by omega)
  have gbh13 := Blk.fr1 (Blk.alloc gbh12 (.cells (cv zeroC) 26)) hf13 (by omega)
  have gxh13 := Blk.fr1 (Blk.alloc gxh12 (.cells (cv zeroC) 26)) hf13 (by omega)
  have gwh13 := Blk.fr1 (Blk.alloc gwh12 (.cells (cv zeroC) 26)) hf13 (by omega)
  have F13 := (F12.alloc (.cells (cv zeroC) 26)).own1 hf13 F12.size
  clear gch12 gah12 gbh12 gxh12 gwh12 F12 hf13
  generalize w12.heap.size = gy at *
  have dga40 : w13.cell? ⟨ga, 40, none⟩ = some (.int .u64 A.Spsr) := gah13.cellv (cv_40 _)
  have dga41 : w13.cell? ⟨ga, 41, none⟩ = some (.int .u64 A.Elr) := gah13.cellv (cv_41 _)
  have dga42 : w13.cell? ⟨ga, 42, none⟩ = some (.int .u64 A.Esr) := gah13.cellv (cv_42 _)
  have dga43 : w13.cell? ⟨ga, 43, none⟩ = some (.int .u64 A.Far) := gah13.cellv (cv_43 _)
  have dgw40 : w13.cell? ⟨gw, 40, none⟩ = some (.int .u64 B.Spsr) := gwh13.cellv (cv_40 _)
  have dgw41 : w13.cell? ⟨gw, 41, none⟩ = some (.int .u64 B.Elr) := gwh13.cellv (cv_41 _)
  have dgw42 : w13.cell? ⟨gw, 42, none⟩ = some (.int .u64 c0.Esr) := gwh13.cellv (cv_42 _)
  have dgw43 : w13.cell? ⟨gw, 43, none⟩ = some (.int .u64 c0.Far) := gwh13.cellv (cv_43 _)
  have fgw40 : w13.frozen? ⟨gw, 40, none⟩ = false := gwh13.frozen _
  have fgw41 : w13.frozen? ⟨gw, 41, none⟩ = false := gwh13.frozen _
  have fgw42 : w13.frozen? ⟨gw, 42, none⟩ = false := gwh13.frozen _
  have fgw43 : w13.frozen? ⟨gw, 43, none⟩ = false := gwh13.frozen _
  have negc14 : gc ≠ gw := by omega
  have nega14 : ga ≠ gw := by omega
  have negb14 : gb ≠ gw := by omega
  have negx14 : gx ≠ gw := by omega
  have negy14 : gy ≠ gw := by omega
  have gwh14 := (blk_setFar (blk_setEsr (blk_setElr (blk_setSpsr gwh13 (A.Spsr)) (A.Elr)) (A.Esr)) (A.Far))
  have gch14 := (Blk.farc (b := gw) (i := 43) (Blk.farc (b := gw) (i := 42) (Blk.farc (b := gw) (i := 41) (Blk.farc (b := gw) (i := 40) gch13 negc14 (.int .u64 (A.Spsr))) negc14 (.int .u64 (A.Elr))) negc14 (.int .u64 (A.Esr))) negc14 (.int .u64 (A.Far)))
  have gah14 := (Blk.farc (b := gw) (i := 43) (Blk.farc (b := gw) (i := 42) (Blk.farc (b := gw) (i := 41) (Blk.farc (b := gw) (i := 40) gah13 nega14 (.int .u64 (A.Spsr))) nega14 (.int .u64 (A.Elr))) nega14 (.int .u64 (A.Esr))) nega14 (.int .u64 (A.Far)))
  have gbh14 := (Blk.farc (b := gw) (i := 43) (Blk.farc (b := gw) (i := 42) (Blk.farc (b := gw) (i := 41) (Blk.farc (b := gw) (i := 40) gbh13 negb14 (.int .u64 (A.Spsr))) negb14 (.int .u64 (A.Elr))) negb14 (.int .u64 (A.Esr))) negb14 (.int .u64 (A.Far)))
  have gxh14 := (Blk.farc (b := gw) (i := 43) (Blk.farc (b := gw) (i := 42) (Blk.farc (b := gw) (i := 41) (Blk.farc (b := gw) (i := 40) gxh13 negx14 (.int .u64 (A.Spsr))) negx14 (.int .u64 (A.Elr))) negx14 (.int .u64 (A.Esr))) negx14 (.int .u64 (A.Far)))
  have gyh14 := (Blk.farc (b := gw) (i := 43) (Blk.farc (b := gw) (i := 42) (Blk.farc (b := gw) (i := 41) (Blk.farc (b := gw) (i := 40) gyh13 negy14 (.int .u64 (A.Spsr))) negy14 (.int .u64 (A.Elr))) negy14 (.int .u64 (A.Esr))) negy14 (.int .u64 (A.Far)))
  have F14 := (Fr.setNew (g := gw) (i := 43) (Fr.setNew (g := gw) (i := 42) (Fr.setNew (g := gw) (i := 41) (Fr.setNew (g := gw) (i := 40) F13 hgw (.int .u64 (A.Spsr))) hgw (.int .u64 (A.Elr))) hgw (.int .u64 (A.Esr))) hgw (.int .u64 (A.Far)))
  go_upto_region 25 with fail
  generalize ((((w13.setCell ⟨gw, 40, none⟩ (.int .u64 (A.Spsr))).setCell ⟨gw, 41, none⟩ (.int .u64 (A.Elr))).setCell ⟨gw, 42, none⟩ (.int .u64 (A.Esr))).setCell ⟨gw, 43, none⟩ (.int .u64 (A.Far))) = w14 at *
  clear dga40 dga41 dga42 dga43 dgw40 dgw41 dgw42 dgw43 fgw40 fgw41 fgw42 fgw43 gch13 gah13 gbh13 gxh13 gwh13 gyh13 F13
  go_wp2_with (first | (refine wpList_load_blkg rfl 26 (.tmp 17) rfl gy rfl _ gyh14 Try.underlying26 rfl info26 ?_) | (refine wpList_load_blkg rfl 26 (.tmp 16) rfl gw rfl _ gwh14 Try.underlying26 rfl info26 ?_))
  all_goals go_ret
  all_goals exact ⟨by first | rfl | simp [*], F14.below (by rw [Hgc.out]; exact Nat.le_refl _) (fun _ _ => id)⟩

theorem flag_back (c : Cr) (s : Int) (hs : s = psF c) (hl : c.EL = 0 ∨ c.EL = 1) : bitB s 2147483648 = c.N ∧ bitB s 1073741824 = c.Z ∧ bitB s 536870912 = c.C ∧ bitB s 268435456 = c.V ∧ (bits BinOp.and IntKind.u64 s 128 != 0) = c.M ∧ bits BinOp.and IntKind.u64 s 1 = c.EL ∧ 0 ≤ s ∧ s ≤ 18446744073709551615 := by
  subst hs
  unfold psF psM nzP
  rcases hl with h | h <;> cases c.M <;> cases c.N <;> cases c.Z <;> cases c.C <;> cases c.V <;> simp [h] <;> decide
theorem kp_back (c : Cr) (s e r f p : Int) (hs : s = psF c) (hl : c.EL = 0 ∨ c.EL = 1) (hw : c.Wait = 0) :
    backM (setF (kp c s e r f p) s 4) s = { c with Spsr := s, Elr := e, Esr := r, Far := f, PC := e, Ev := true } := by
  obtain ⟨h1, h2, h3, h4, h5, h6', _, _⟩ := flag_back c s hs hl
  have h6 : wrap64 (bits BinOp.and IntKind.u64 s 1) = c.EL := by rw [h6']; unfold wrap64; omega
  simp only [backM, setF, kp, h1, h2, h3, h4, h5, h6]
  cases c
  simp_all
theorem kp_right (c : Cr) (s e r f p : Int) (h : rightF c = true) : rightF (kp c s e r f p) = true := by
  simp only [rightF, Bool.and_eq_true] at h
  show ((((((1 : Int) == 0 || (1 : Int) == 1) && decide ((0 : Int) ≤ 0)) && decide ((0 : Int) ≤ 2)) && decide (0 ≤ c.Id)) && decide (c.Id < 8)) = true
  rw [h.1.2, h.2]
  rfl
theorem back_kp (c : Cr) (s e r f p : Int) (hs : s = psF c) (hl : c.EL = 0 ∨ c.EL = 1) (hw : c.Wait = 0) (h : rightF c = true) (w : World) :
    Calls Try.prog 9 #[.agg (cv (kp c s e r f p))] w fun e' w' => e' = .returned (.tuple #[.agg (cv { c with Spsr := s, Elr := e, Esr := r, Far := f, PC := e, Ev := true }), .int .i64 0]) ∧ Fr Nil w w' := by
  obtain ⟨_, _, _, _, _, _, h7, h8⟩ := flag_back c s hs hl
  rw [← kp_back c s e r f p hs hl hw]
  exact back_may (kp c s e r f p) _ w (kp_right c s e r f p h) (by show mayF s = true; rw [hs]; exact may_psF c) h7 h8 rfl
theorem in3_kp (c : Cr) : in3 c = kp c (psF c) c.PC c.Esr c.Far (IntKind.u64.wrap (vecF c + 128)) := rfl
theorem enF_21 (c : Cr) (cl iss far : Int) (h : cl = 21) : ∃ r f, enF c cl iss far = kp c (psF c) (IntKind.u64.wrap (c.PC + 4)) r f (vecF c) := by
  unfold enF
  rw [if_pos h]
  exact ⟨_, _, rfl⟩
theorem enF_n21 (c : Cr) (cl iss far : Int) (h : ¬ cl = 21) : ∃ r f, enF c cl iss far = kp c (psF c) c.PC r f (vecF c) := by
  unfold enF
  rw [if_neg h]
  split
  · exact ⟨_, _, rfl⟩
  · exact ⟨_, _, rfl⟩
theorem irq_kp (c : Cr) (w : World) (h : rightF c = true) : Calls Try.prog 12 #[.agg (cv c)] w fun e w' => e = .returned (.tuple #[.agg (cv (kp c (psF c) c.PC c.Esr c.Far (IntKind.u64.wrap (vecF c + 128)))), .int .i64 0]) ∧ Fr Nil w w' := by
  rw [← in3_kp]
  exact irq_ok c w h
theorem trapBack_walk (c : Cr) (a1 a2 a3 : Int) (w : World) (w0 : WfC c) (w1 : (Lit.int .i64 a1).wf = true) (w2 : (Lit.int .i64 a2).wf = true) (w3 : (Lit.int .u64 a3).wf = true) :
    Calls Try.prog 5 #[.agg (cv c), .int .i64 a1, .int .i64 a2, .int .u64 a3] w fun e w' => e = .returned (.bool true) ∧ Below w.heap.size w w' := by
  obtain ⟨c0, hc0⟩ : ∃ c0 : Cr, c0 = { c with Wait := 0 } := ⟨_, rfl⟩
  have hw : c0.Wait = 0 := by rw [hc0]
  cases hr : rightF c0 with
  | false => exact back_walk_bad c c0 a1 a2 a3 w hc0 (fun w => enter_bad c0 a1 a2 a3 w (by rw [hr]; simp)) (fun w => irq_bad c0 w hr)
  | true =>
    have hl := right_EL c0 hr
    by_cases h : 0 ≤ a1 ∧ a1 ≤ 63 ∧ 0 ≤ a2 ∧ a2 < 33554432
    · obtain ⟨h0, h1, h2, h3⟩ := h
      by_cases k : a1 = 21
      · obtain ⟨r, f, hE⟩ := enF_21 c0 a1 a2 a3 k
        exact back_walk_21 c c0 _ _ _ _ a1 a2 a3 w hc0 (fun w => enter_kp c0 _ _ r f _ a1 a2 a3 w hE hr h0 h1 h2 h3) (fun w => irq_kp c0 w hr) (fun w => back_kp c0 _ _ _ _ _ rfl hl hw hr w) (crEq_refl _)
          (fun w => back_kp c0 _ _ r f _ rfl hl hw hr w) (crEq_refl _) (beq_yes k)
      · obtain ⟨r, f, hE⟩ := enF_n21 c0 a1 a2 a3 k
        exact back_walk_n21 c c0 _ _ _ _ a1 a2 a3 w hc0 (fun w => enter_kp c0 _ _ r f _ a1 a2 a3 w hE hr h0 h1 h2 h3) (fun w => irq_kp c0 w hr) (fun w => back_kp c0 _ _ _ _ _ rfl hl hw hr w) (crEq_refl _)
          (fun w => back_kp c0 _ _ r f _ rfl hl hw hr w) (crEq_refl _) (beq_no k)
    · exact back_walk_e1 c c0 _ _ _ zeroC a1 a2 a3 w hc0 (fun w => enter_bad c0 a1 a2 a3 w (fun x => h ⟨x.2.1, x.2.2.1, x.2.2.2.1, x.2.2.2.2⟩)) (fun w => irq_kp c0 w hr) (fun w => back_kp c0 _ _ _ _ _ rfl hl hw hr w) (crEq_refl _)
end Go.Proofs.Ytkcdojlfliemmaa
