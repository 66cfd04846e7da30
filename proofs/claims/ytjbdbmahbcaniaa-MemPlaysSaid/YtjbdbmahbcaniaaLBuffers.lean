/- MemBuffers, walked. -/
import Derived.Test.YtjbdbmahbcaniaaKnow
namespace Go.Proofs.Ytjbdbmahbcaniaa
open Go.RowKit
set_option linter.unusedVariables false
set_option maxRecDepth 100000

theorem Fr.bel {w w' : World} (h : Fr Nil w w') : Below w.heap.size w w' := h.below (Nat.le_refl _) fun _ _ => id
def B1 (a : Int) : St := { St0 2 2 1 with V := upd (St0 2 2 1).V 0 a }
def B2 (a b : Int) : St := { B1 a with V := upd (B1 a).V 1 b }
def B3 (a b x : Int) : St := (B2 a b).hold 0 ⟨0, x, 1⟩
def B4 (a b x y : Int) : St := (B3 a b x).hold 1 ⟨8, y, 2⟩
def B5 (a b x y : Int) : St := (B4 a b x y).drains 0 1
def B6 (a b x y : Int) : St := (B5 a b x y).drains 1 1
theorem fineB4 (a b x y : Int) : Fine (B4 a b x y) 0 := by
  intro z hz
  have e : (B4 a b x y).H 0 = [⟨0, x, 1⟩] := rfl
  rw [e] at hz
  simp at hz
  subst hz
  exact ⟨by show (0 / 8 : Int).toNat < 2; decide, rfl, by show 1 < 3; decide⟩
theorem fineB5 (a b x y : Int) : Fine (B5 a b x y) 1 := by
  intro z hz
  have e : (B5 a b x y).H 1 = [⟨8, y, 2⟩] := rfl
  rw [e] at hz
  simp at hz
  subst hz
  exact ⟨by show (8 / 8 : Int).toNat < 2; decide, rfl, by show 2 < 3; decide⟩
set_option maxHeartbeats 1000000 in
theorem memBuffers_walk (a b x y : Int) (w : World) (wa : (Lit.int .u64 a).wf = true) (wb : (Lit.int .u64 b).wf = true) (wx : (Lit.int .u64 x).wf = true) (wy : (Lit.int .u64 y).wf = true) :
    Calls Try.prog 3 #[.int .u64 a, .int .u64 b, .int .u64 x, .int .u64 y] w fun e w' => e = .returned (.bool true) ∧ Below w.heap.size w w' := by
  clear wa wb wx wy
  go_enter Try.func3, Try.ntmps3
  go_wp2_with fail
  refine (known_ok w).mono ?_
  rintro e w0 ⟨rfl, f0⟩
  have F0 := Lib.hid f0
  clear f0
  go_wp2_with fail
  refine (mine_new 2 2 1 w0 rfl rfl rfl (by decide) (by decide) (by decide) (by decide) (by decide) (by decide)).mono ?_
  rintro e w1 ⟨m, q0, rfl, m0⟩
  have C1 := Lib.hid (m0.set 0 (a := 0) (v := a) rfl (by decide) (by decide) rfl)
  go_wp2_with fail
  refine C1.out.mono ?_
  rintro e w2 ⟨rfl, q1, m1', _⟩
  have m1 : Mine w0 m q1 (B1 a) w2 := m1'
  clear m0 C1 m1'
  have C1 := Lib.hid (m1.set 1 (a := 8) (v := b) rfl (by show 1 < 2; decide) (by show 2 ≤ 8192; decide) rfl)
  go_wp2_with fail
  refine C1.out.mono ?_
  rintro e w3 ⟨rfl, q2, m2', _⟩
  have m2 : Mine w0 m q2 (B2 a b) w3 := m2'
  clear m1 C1 m2'
  have C1 := Lib.hid (m2.store 0 0 (c := 0) (a := 0) (v := x) rfl rfl (by show 0 < 2; decide) (by show 0 < 2; decide) (by show 2 ≤ 8192; decide) (by show 0 < 1; decide) (by show 1 ≤ 32; decide) (by show 1 ≤ 1000000; decide) (t := 1) rfl)
  go_wp2_with fail
  refine C1.out.mono ?_
  rintro e w4 ⟨rfl, q3, m3', _⟩
  have m3 : Mine w0 m q3 (B3 a b x) w4 := m3'
  clear m2 C1 m3'
  have C1 := Lib.hid (m3.store 1 1 (c := 1) (a := 8) (v := y) rfl rfl (by show 1 < 2; decide) (by show 1 < 2; decide) (by show 2 ≤ 8192; decide) (by show 0 < 1; decide) (by show 1 ≤ 32; decide) (by show 2 ≤ 1000000; decide) (t := 2) rfl)
  go_wp2_with fail
  refine C1.out.mono ?_
  rintro e w5 ⟨rfl, q4, m4', _⟩
  have m4 : Mine w0 m q4 (B4 a b x y) w5 := m4'
  clear m3 C1 m4'
  have C1 := Lib.hid (m4.load 0 1 (c := 0) (a := 8) rfl rfl (by show 0 < 2; decide) (by show 1 < 2; decide) (by show 2 ≤ 8192; decide) (by show 1 ≤ 1000000; decide) (x := b) (t := 0) rfl)
  go_wp2_with fail
  refine C1.out.mono ?_
  rintro e w6 ⟨rfl, m5, _⟩
  clear m4 C1
  have C1 := Lib.hid (m5.load 1 0 (c := 1) (a := 0) rfl rfl (by show 1 < 2; decide) (by show 0 < 2; decide) (by show 2 ≤ 8192; decide) (by show 1 ≤ 1000000; decide) (x := a) (t := 0) rfl)
  go_wp2_with fail
  refine C1.out.mono ?_
  rintro e w7 ⟨rfl, m6, _⟩
  clear m5 C1
  have C1 := Lib.hid (m6.flush 0 (c := 0) rfl (by show 0 < 2; decide) (by show 2 ≤ 8192; decide) (fineB4 a b x y) (by show 3 ≤ 100000; decide) (by show 0 ≤ 100000; decide) (by show 1 ≤ 1000; decide))
  go_wp2_with fail
  refine C1.out.mono ?_
  rintro e w8 ⟨v1, q5, rfl, m7', _⟩
  have m7 : Mine w0 m q5 (B5 a b x y) w8 := m7'
  clear m6 C1 m7'
  have C1 := Lib.hid (m7.flush 1 (c := 1) rfl (by show 1 < 2; decide) (by show 2 ≤ 8192; decide) (fineB5 a b x y) (by show 3 ≤ 100000; decide) (by show 1 ≤ 100000; decide) (by show 1 ≤ 1000; decide))
  go_wp2_with fail
  refine C1.out.mono ?_
  rintro e w9 ⟨v2, q6, rfl, m8', _⟩
  have m8 : Mine w0 m q6 (B6 a b x y) w9 := m8'
  clear m7 C1 m8'
  have C1 := Lib.hid (m8.load 0 1 (c := 0) (a := 8) rfl rfl (by show 0 < 2; decide) (by show 1 < 2; decide) (by show 2 ≤ 8192; decide) (by show 0 ≤ 1000000; decide) (x := y) (t := 2) rfl)
  go_wp2_with fail
  refine C1.out.mono ?_
  rintro e w10 ⟨rfl, m9, _⟩
  clear m8 C1
  have C1 := Lib.hid (m9.load 1 0 (c := 1) (a := 0) rfl rfl (by show 1 < 2; decide) (by show 0 < 2; decide) (by show 2 ≤ 8192; decide) (by show 0 ≤ 1000000; decide) (x := x) (t := 1) rfl)
  go_wp2_with fail
  refine C1.out.mono ?_
  rintro e w11 ⟨rfl, m10, _⟩
  clear m9 C1
  have MF := Lib.hid m10.fr
  clear m10
  go_wp2_with fail
  go_ret
  exact ⟨rfl, (F0.out.trans MF.out).bel⟩
end Go.Proofs.Ytjbdbmahbcaniaa
