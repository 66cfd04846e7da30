/- The chapter's examples: the walk. -/
import Derived.Test.YtpcpjmbfinpmlaaDoorRxp
import Derived.Test.YtpcpjmbfinpmlaaDoorEqi
import Derived.BigFrame
set_option linter.unusedSimpArgs false
set_option linter.unusedVariables false
set_option linter.unusedSectionVars false
namespace Go.Proofs.YtpcpjmbfinpmlaaDoor
open Go.RowKit
set_option maxRecDepth 100000

theorem prs_two {w : World} {b x y z v : Nat} (P : Nat → Int × Int) {X Y Z V : Int} (h : Blk w b 60 #[.int .i64 X, .int .i64 Y, .int .i64 Z, .int .i64 V]) (h0 : P 0 = (X, Y)) (h1 : P 1 = (Z, V)) : Prs w (some ⟨b, 0, none⟩) 2 P := fun i hi => by
  refine ⟨b, 0, rfl, h.lt, ?_⟩
  have : i = 0 ∨ i = 1 := by omega
  rcases this with rfl | rfl
  · rw [h0]; exact ⟨h.cellv rfl, h.cellv rfl⟩
  · rw [h1]; exact ⟨h.cellv rfl, h.cellv rfl⟩
theorem run_eq2 (x y z v : Int) (w : World) : (Op.equalIn 10000 60 (.agg #[.int .i64 x, .int .i64 y]) (.agg #[.int .i64 z, .int .i64 v])).run Tryd.prog w = .ok (x == z && y == v) w := by
  obtain ⟨i0, hi, _, hs, _⟩ := info_parts Tryd.info3
  have h := run_eq_ints (P := Tryd.prog) w 9998 60 3 2 .i64 Tryd.underlying60 Tryd.underlying3 #[.int .i64 x, .int .i64 y] #[.int .i64 z, .int .i64 v] (fun i => if i = 0 then x else y) (fun i => if i = 0 then z else v) i0 hi hs
    (fun i hi => by
      have : i = 0 ∨ i = 1 := by omega
      rcases this with rfl | rfl <;> rfl) (fun i hi => by
      have : i = 0 ∨ i = 1 := by omega
      rcases this with rfl | rfl <;> rfl)
  rw [h]
  simp [List.range'_succ]
theorem prs_one {w : World} {b : Nat} (P : Nat → Int × Int) {X Y : Int} (h : Blk w b 60 #[.int .i64 X, .int .i64 Y]) (h0 : P 0 = (X, Y)) : Prs w (some ⟨b, 0, none⟩) 1 P := fun i hi => by
  obtain rfl : i = 0 := by omega
  refine ⟨b, 0, rfl, h.lt, ?_⟩
  rw [h0]
  exact ⟨h.cellv rfl, h.cellv rfl⟩
theorem of_yes {w : World} {n : Nat} {r : Rn} {e : Ending} {w' : World} (h : OfTo w n (r, true) e w') : ∃ b, e = .returned (.tuple #[.pointer (some ⟨b, 0, none⟩), .int .i64 0]) ∧ RelAt w' b n r ∧ Fr Nil w w' := by
  obtain ⟨h1, h2⟩ := h
  rw [if_pos rfl] at h1
  obtain ⟨b, h3, h4, -⟩ := h1
  exact ⟨b, h3, h4, h2⟩
set_option maxHeartbeats 1500000 in
theorem examples_ok (w : World) (hT : Tab w) : Calls Tryd.prog 7 #[] w fun e w' => e = .returned (.bool true) ∧ Fr Nil w w' := by
  have HT := Lib.hid hT
  clear hT
  go_enter Tryd.func7, Tryd.ntmps7
  have F0 := Lib.hid (Fr.refl Nil w)
  go_wp2_with fail
  have B1 := Lib.hid (Blk.new w 60 #[.int .i64 0, .int .i64 1, .int .i64 1, .int .i64 2])
  have fa1 := (Fr.refl Nil w).alloc (.cells #[.int .i64 0, .int .i64 1, .int .i64 1, .int .i64 2] 60)
  generalize (w.alloc (.cells #[.int .i64 0, .int .i64 1, .int .i64 1, .int .i64 2] 60)) = v1 at *
  generalize w.heap.size = q1 at *
  have F1 := Lib.hid (F0.out.trans fa1)
  clear F0
  clear fa1
  refine (of_ok 4 (some ⟨q1, 0, none⟩) 2 2 exP1 v1 (by omega) (prs_two (x := 0) (y := 0) (z := 0) (v := 0) exP1 B1.out rfl rfl) (by decide)).mono ?_
  rw [ex1]
  intro e w1 ho1
  obtain ⟨b1, rfl, r1, f1⟩ := of_yes ho1
  have F2 := Lib.hid (F1.out.trans f1)
  clear F1
  have R1_2 := Lib.hid r1
  clear ho1 r1 f1 B1
  go_wp2_with fail
  have B2 := Lib.hid (Blk.new w1 60 #[.int .i64 2, .int .i64 1, .int .i64 3, .int .i64 0])
  have fa2 := (Fr.refl Nil w1).alloc (.cells #[.int .i64 2, .int .i64 1, .int .i64 3, .int .i64 0] 60)
  generalize (w1.alloc (.cells #[.int .i64 2, .int .i64 1, .int .i64 3, .int .i64 0] 60)) = v2 at *
  generalize w1.heap.size = q2 at *
  have F3 := Lib.hid (F2.out.trans fa2)
  have R1_3 := Lib.hid (R1_2.out.fr0 fa2)
  clear F2 R1_2
  clear fa2
  refine (of_ok 4 (some ⟨q2, 0, none⟩) 2 2 exP2 v2 (by omega) (prs_two (x := 0) (y := 0) (z := 0) (v := 0) exP2 B2.out rfl rfl) (by decide)).mono ?_
  rw [ex2]
  intro e w2 ho2
  obtain ⟨b2, rfl, r2, f2⟩ := of_yes ho2
  have F4 := Lib.hid (F3.out.trans f2)
  have R1_4 := Lib.hid (R1_3.out.fr0 f2)
  clear F3 R1_3
  have R2_4 := Lib.hid r2
  clear ho2 r2 f2 B2
  go_wp2_with fail
  have B3 := Lib.hid (Blk.new w2 60 #[.int .i64 0, .int .i64 1, .int .i64 1, .int .i64 0])
  have fa3 := (Fr.refl Nil w2).alloc (.cells #[.int .i64 0, .int .i64 1, .int .i64 1, .int .i64 0] 60)
  generalize (w2.alloc (.cells #[.int .i64 0, .int .i64 1, .int .i64 1, .int .i64 0] 60)) = v3 at *
  generalize w2.heap.size = q3 at *
  have F5 := Lib.hid (F4.out.trans fa3)
  have R1_5 := Lib.hid (R1_4.out.fr0 fa3)
  have R2_5 := Lib.hid (R2_4.out.fr0 fa3)
  clear F4 R1_4 R2_4
  clear fa3
  refine (of_ok 4 (some ⟨q3, 0, none⟩) 2 2 exP3 v3 (by omega) (prs_two (x := 0) (y := 0) (z := 0) (v := 0) exP3 B3.out rfl rfl) (by decide)).mono ?_
  rw [ex3]
  intro e w3 ho3
  obtain ⟨b3, rfl, r3, f3⟩ := of_yes ho3
  have F6 := Lib.hid (F5.out.trans f3)
  have R1_6 := Lib.hid (R1_5.out.fr0 f3)
  have R2_6 := Lib.hid (R2_5.out.fr0 f3)
  clear F5 R1_5 R2_5
  have R3_6 := Lib.hid r3
  clear ho3 r3 f3 B3
  go_wp2_with fail
  refine (new_bad 65 w3 (.inr (by omega))).mono ?_
  rintro e w9 ⟨rfl, rfl⟩
  rw [show (if (65 : Int) < 0 then (1 : Int) else 5) = 5 from rfl]
  go_wp2_with fail
  have B4 := Lib.hid (Blk.new w3 60 #[.int .i64 0, .int .i64 1])
  have fa4 := (Fr.refl Nil w3).alloc (.cells #[.int .i64 0, .int .i64 1] 60)
  generalize (w3.alloc (.cells #[.int .i64 0, .int .i64 1] 60)) = v4 at *
  generalize w3.heap.size = q4 at *
  have F7 := Lib.hid (F6.out.trans fa4)
  have R1_7 := Lib.hid (R1_6.out.fr0 fa4)
  have R2_7 := Lib.hid (R2_6.out.fr0 fa4)
  have R3_7 := Lib.hid (R3_6.out.fr0 fa4)
  clear F6 R1_6 R2_6 R3_6
  clear fa4
  refine (of_ok 1 (some ⟨q4, 0, none⟩) 1 1 exP1 v4 (by omega) (prs_one exP1 B4.out rfl) (by decide)).mono ?_
  intro e w4 ho4
  obtain ⟨ho4, f4⟩ := ho4
  rw [ex4, if_neg (by decide)] at ho4
  subst ho4
  have F8 := Lib.hid (F7.out.trans f4)
  have R1_8 := Lib.hid (R1_7.out.fr0 f4)
  have R2_8 := Lib.hid (R2_7.out.fr0 f4)
  have R3_8 := Lib.hid (R3_7.out.fr0 f4)
  clear F7 R1_7 R2_7 R3_7
  clear f4 B4
  go_wp2_with fail
  refine (closed_ok b1 4 exR1 w4 R1_8.out).mono ?_
  rintro e w5 ⟨g5, rfl, r5, f5, -⟩
  have F9 := Lib.hid (F8.out.trans f5)
  have R1_9 := Lib.hid (R1_8.out.fr0 f5)
  have R2_9 := Lib.hid (R2_8.out.fr0 f5)
  have R3_9 := Lib.hid (R3_8.out.fr0 f5)
  clear F8 R1_8 R2_8 R3_8
  clear f5
  have R5_0 := Lib.hid r5
  clear r5
  go_wp2_with fail
  refine (pairs_ok g5 4 (clo 4 exR1) w5 R5_0.out (HT.out.fr0 F9.out)).mono ?_
  rw [ex_pairs]
  rintro e w6 ⟨a6, c6, rfl, l6⟩
  have f6 := l6.fr
  have L6 := Lib.hid l6.win
  clear l6
  have F10 := Lib.hid (F9.out.trans f6)
  have R1_10 := Lib.hid (R1_9.out.fr0 f6)
  have R2_10 := Lib.hid (R2_9.out.fr0 f6)
  have R3_10 := Lib.hid (R3_9.out.fr0 f6)
  have R5_10 := Lib.hid (R5_0.out.fr0 f6)
  clear F9 R1_9 R2_9 R3_9 R5_0
  clear f6
  go_wp2_with fail
  refine (order_ok b2 4 exR2 w6 R2_10.out (HT.out.fr0 F10.out)).mono ?_
  rintro e w7 ⟨l7, o7, f7, h7⟩
  obtain rfl := o7.unique ex_order
  rcases h7 with ⟨h7, -⟩ | ⟨-, a7, c7, rfl, l7⟩
  · exact absurd h7 (by decide)
  have L6b := Lib.hid (L6.out.fr f7 fun _ _ => id)
  have L7 := Lib.hid l7.win
  clear l7 o7 L6
  have F11 := Lib.hid (F10.out.trans f7)
  have R1_11 := Lib.hid (R1_10.out.fr0 f7)
  have R2_11 := Lib.hid (R2_10.out.fr0 f7)
  have R3_11 := Lib.hid (R3_10.out.fr0 f7)
  clear F10 R1_10 R2_10 R3_10
  clear f7
  go_wp2_with fail
  refine (loop_ok b3 4 exR3 w7 R3_11.out).mono ?_
  rintro e w8 ⟨h8, f8⟩
  have hx : e = .returned (.tuple #[.int .i64 0, .bool true]) := by
    rcases h8 with ⟨a, ha, -, hm, rfl⟩ | ⟨hn, -⟩
    · rcases Nat.eq_zero_or_pos a with rfl | h
      · rfl
      · have := hm 0 h
        rw [ex_loop] at this
        cases this
    · have := hn 0 (by omega)
      rw [ex_loop] at this
      cases this
  subst hx
  have L6c := Lib.hid (L6b.out.fr f8 fun _ _ => id)
  have L7b := Lib.hid (L7.out.fr f8 fun _ _ => id)
  clear h8 L6b L7
  have F12 := Lib.hid (F11.out.trans f8)
  have R1_12 := Lib.hid (R1_11.out.fr0 f8)
  have R2_12 := Lib.hid (R2_11.out.fr0 f8)
  have R3_12 := Lib.hid (R3_11.out.fr0 f8)
  clear F11 R1_11 R2_11 R3_11
  clear f8
  go_wp2_with fail
  refine (order_ok b3 4 exR3 w8 R3_12.out (HT.out.fr0 F12.out)).mono ?_
  rintro e w10 ⟨l10, o10, f10, h10⟩
  obtain rfl := o10.unique ex_none
  rcases h10 with ⟨-, rfl⟩ | ⟨h10, -⟩
  rotate_left
  · exact absurd h10 (by decide)
  have L6d := Lib.hid (L6c.out.fr f10 fun _ _ => id)
  have L7c := Lib.hid (L7b.out.fr f10 fun _ _ => id)
  clear o10 L6c L7b
  have F13 := Lib.hid (F12.out.trans f10)
  have R1_13 := Lib.hid (R1_12.out.fr0 f10)
  have R2_13 := Lib.hid (R2_12.out.fr0 f10)
  have R3_13 := Lib.hid (R3_12.out.fr0 f10)
  clear F12 R1_12 R2_12 R3_12
  clear f10
  have h1 := has_ok b1 4 exR1 0 1 w10 R1_13.out
  have h2 := has_ok b1 4 exR1 1 0 w10 R1_13.out
  rw [ex_has.1] at h1
  rw [ex_has.2] at h2
  have H1 := Lib.hid h1
  have H2 := Lib.hid h2
  clear h1 h2
  obtain ⟨g6, o6, k6, ev6, -, -, -, -, -⟩ := L6d.out.form (by decide)
  cases ev6
  obtain ⟨g7, o7, k7, ev7, -, -, -, -, -⟩ := L7c.out.form (by decide)
  cases ev7
  have c60 := L6d.out.cellAt (j := 2) (u := .int .i64 0) rfl
  have c61 := L6d.out.cellAt (j := 3) (u := .int .i64 2) rfl
  have c70 := L7c.out.cellAt (j := 0) (u := .int .i64 2) rfl
  have c71 := L7c.out.cellAt (j := 1) (u := .int .i64 1) rfl
  have c72 := L7c.out.cellAt (j := 2) (u := .int .i64 3) rfl
  have n6 : [((0 : Nat), (1 : Nat)), (0, 2), (1, 2)].length = 3 := rfl
  have n7 : [(2 : Nat), 1, 3, 0].length = 4 := rfl

  clear L6d L7c n6 n7 R1_13 R2_13 R3_13
  have eq2 := run_eq2 0 2 0 2
  rw [Nat.add_zero] at c70
  go_upto_region 12 with fail
  go_wp2_with fail
  refine H1.out.mono ?_
  rintro e w11 ⟨rfl, rfl⟩
  go_wp2_with fail
  refine H2.out.mono ?_
  rintro e w11 ⟨rfl, rfl⟩
  go_wp2_with fail
  go_ret
  exact ⟨rfl, F13.out⟩
end Go.Proofs.YtpcpjmbfinpmlaaDoor
