/- The chapter's example. -/
import Derived.Test.YtjbdbmahbcaniaaMine
set_option linter.unusedSimpArgs false
set_option linter.unusedSectionVars false
namespace Go.Proofs.Ytjbdbmahbcaniaa
open Go.RowKit
set_option linter.unusedVariables false
set_option maxRecDepth 100000

def K1 : St := { St0 4 2 2 with V := upd (St0 4 2 2).V 1 1 }
def K2 : St := K1.hold 0 ⟨8, 5, 1⟩
def K3 : St := K2.hold 0 ⟨8, 6, 2⟩
def K4 : St := K3.drain1 0
def K5 : St := K4.put 0 2 9
theorem fineK4 : Fine K4 0 := by
  intro x hx
  have e : K4.H 0 = [⟨8, 6, 2⟩] := rfl
  rw [e] at hx
  simp at hx
  subst hx
  exact ⟨by decide, by decide, by decide⟩
theorem fineK3 : Fine K3 0 := by
  intro x hx
  have e : K3.H 0 = [⟨8, 5, 1⟩, ⟨8, 6, 2⟩] := rfl
  rw [e] at hx
  simp at hx
  rcases hx with rfl | rfl
  · exact ⟨by decide, by decide, by decide⟩
  · exact ⟨by decide, by decide, by decide⟩
def KnownPost (w : World) (e : Ending) (w' : World) : Prop := e = .returned (.bool true) ∧ Fr Nil w w'
set_option maxHeartbeats 1000000 in
theorem known_ok (w : World) : Calls Try.prog 11 #[] w (KnownPost w) := by
  go_enter Try.func11, Try.ntmps11
  go_wp2_with fail
  refine (mine_new 4 2 2 w rfl rfl rfl (by decide) (by decide) (by decide) (by decide) (by decide) (by decide)).mono ?_
  rintro e w1 ⟨b, q0, rfl, m0⟩
  have C1 := Lib.hid (m0.set 1 (a := 8) (v := 1) rfl (by decide) (by decide) rfl)
  go_wp2_with fail
  refine C1.out.mono ?_
  rintro e w2 ⟨rfl, q1, m1, _⟩
  clear m0 C1
  have C1 := Lib.hid (m1.store 0 1 (c := 0) (a := 8) (v := 5) rfl rfl (by decide) (by decide) (by decide) (by decide) (by decide) (by decide) (t := 1) rfl)
  go_wp2_with fail
  refine C1.out.mono ?_
  rintro e w3 ⟨rfl, q2, m2, _⟩
  clear m1 C1
  have M2 : Mine w b q2 K2 w3 := m2
  clear m2
  have C1 := Lib.hid (M2.load 0 1 (c := 0) (a := 8) rfl rfl (by decide) (by decide) (by decide) (by decide) (x := 5) (t := 1) rfl)
  go_wp2_with fail
  refine C1.out.mono ?_
  rintro e w4 ⟨rfl, m3, _⟩
  clear M2 C1
  have C1 := Lib.hid (m3.load 1 1 (c := 1) (a := 8) rfl rfl (by decide) (by decide) (by decide) (by decide) (x := 1) (t := 0) rfl)
  go_wp2_with fail
  refine C1.out.mono ?_
  rintro e w5 ⟨rfl, m4, _⟩
  clear m3 C1
  have C1 := Lib.hid (m4.store 0 1 (c := 0) (a := 8) (v := 6) rfl rfl (by decide) (by decide) (by decide) (by decide) (by decide) (by decide) (t := 2) rfl)
  go_wp2_with fail
  refine C1.out.mono ?_
  rintro e w6 ⟨rfl, q3, m5', _⟩
  have m5 : Mine w b q3 K3 w6 := m5'
  clear m4 C1 m5'
  have C1 := Lib.hid (m5.full 0 0 (c := 0) (a := 0) (v := 7) rfl rfl (by decide) (by decide) (by decide) rfl)
  go_wp2_with fail
  refine C1.out.mono ?_
  rintro e w7 ⟨rfl, m6, _⟩
  clear m5 C1
  have C1 := Lib.hid (m6.drain 0 (c := 0) rfl (x := ⟨8, 5, 1⟩) (l := [⟨8, 6, 2⟩]) (by decide) rfl (by decide) fineK3 (by decide) (by decide))
  go_wp2_with fail
  refine C1.out.mono ?_
  rintro e w8 ⟨rfl, q4, m7', _⟩
  have m7 : Mine w b q4 K4 w8 := m7'
  clear m6 C1 m7'
  go_upto_region 10 with fail
  obtain ⟨m8, o8⟩ := m7.loc 47 #[.int .u64 8, .int .u64 5, .int .i64 1]
  have hsz : (w8.alloc (.cells #[.int .u64 8, .int .u64 5, .int .i64 1] 47)).heap.size = w8.heap.size + 1 := by simp
  generalize (w8.alloc (.cells #[.int .u64 8, .int .u64 5, .int .i64 1] 47)) = w9 at *
  generalize w8.heap.size = B at *
  have O8 := Lib.hid o8
  clear m7 o8 hsz
  have C1 := Lib.hid (m8.put 0 2 (c := 0) (a := 16) (v := 9) rfl rfl (by decide) (by decide) (by decide) fineK4 (by decide) (by decide) (by decide) (t := 3) rfl)
  go_wp2_with fail
  refine C1.out.mono ?_
  rintro e w10 ⟨x, q5, rfl, m9', o9, st9, _⟩
  have m9 : Mine w b q5 K5 w10 := m9'
  have hl : K4.H 0 = [⟨8, 6, 2⟩] := rfl
  rw [hl] at o9
  have O9 := Lib.hid o9
  have P9 := Lib.hid (O8.out.step st9)
  obtain ⟨gx, ox, cx, hx, hxl, hxm, _⟩ := o9.win.form (by decide)
  have HX := Lib.hid hx
  clear m8 C1 m9' o9 st9 hl O8
  rw [hx]
  clear hx
  have C1 := Lib.hid (m9.order (by decide))
  go_wp2_with fail
  refine C1.out.mono ?_
  rintro e w11 ⟨y, rfl, m10, f10, wy, _⟩
  have hl : K5.od = [1, 2, 3] := rfl
  rw [hl] at wy
  obtain ⟨gy, oy, cy, hy, hyl, hym, _, hcy, _⟩ := wy.form (by decide)
  have d2 : w11.cell? ⟨gy, oy + 2, none⟩ = some (.int .i64 3) := hcy 2 _ rfl
  have o11 := (O9.out.still f10).win
  rw [HX.out] at o11
  have e2 : w11.cell? ⟨gx, ox + 2, none⟩ = some (.int .i64 2) := o11.cellAt (j := 2) rfl
  have l1 : (1 : Int) ≤ (cx : Int) := by simp at hxl; omega
  have p11 := (P9.out.still f10).blk
  have b0 : w11.cell? ⟨B, 0, none⟩ = some (.int .u64 8) := p11.cellv rfl
  have b1 : w11.cell? ⟨B, 1, none⟩ = some (.int .u64 5) := p11.cellv rfl
  have b2 : w11.cell? ⟨B, 2, none⟩ = some (.int .i64 1) := p11.cellv rfl
  rw [hy]
  have C2 := Lib.hid (m10.setRun 0 (a := 0) (v := 1) rfl (by decide) (by decide) (by decide))
  clear m9 C1 hl wy hy hcy o11 p11 O9 P9
  go_wp2_with fail
  refine C2.out.mono ?_
  rintro e w12 ⟨rfl, m12, _⟩
  go_wp2_with fail
  go_ret
  exact ⟨rfl, m12.fr⟩
end Go.Proofs.Ytjbdbmahbcaniaa
