/- The chapter's example, walked. -/
import Derived.Test.YtpgelocofoidnaaGmade
set_option linter.unusedSimpArgs false
set_option linter.unusedSectionVars false
namespace Go.Proofs.Ytpgelocofoidnaa
open Go.RowKit
set_option linter.unusedVariables false
set_option maxRecDepth 100000

theorem Fr.old {w w' : World} (h : Fr (Not fun k => k < w.heap.size) w w') : Fr Nil w w' := h.mono fun k hk hn => hn hk
set_option maxHeartbeats 2000000 in
theorem known_ok (w : World) : Calls Try.prog 11 #[] w fun e w' => e = .returned (.bool true) ∧ Fr Nil w w' := by
  go_enter Try.func11, Try.ntmps11
  go_wp2_with fail
  refine (new_ok (fun k => k < w.heap.size) 2 (z := 2) w rfl (by omega) (by omega) fun k hk => hk).mono ?_
  rintro e w1 ⟨gb, rfl, g1, f1, -⟩
  have G1 := Lib.hid g1
  have F1 := Lib.hid f1
  clear g1 f1
  go_wp2_with fail
  refine (send_ok _ gb _ 2 3 w1 G1.out).mono ?_
  rintro e w2 ⟨rfl, g2, f2⟩
  rw [x_send]
  have G2 := Lib.hid (show Gk _ w2 gb x1 from g2)
  have F2 := Lib.hid (F1.out.nil.trans f2)
  clear g2 f2 G1 F1
  go_wp2_with fail
  refine (G2.out.best 1).mono ?_
  rintro e w3 ⟨rfl, g3, f3⟩
  rw [x_no]
  have G3 := Lib.hid g3
  have F3 := Lib.hid (F2.out.trans f3)
  clear g3 f3 G2 F2
  go_wp2_with fail
  refine (enable_ok _ gb x1 1 3 true w3 G3.out).mono ?_
  rintro e w4 ⟨rfl, g4, f4⟩
  rw [x_en]
  have G4 := Lib.hid (show Gk _ w4 gb x2 from g4)
  have F4 := Lib.hid (F3.out.trans f4)
  clear g4 f4 G3 F3
  go_wp2_with fail
  refine (G4.out.best 1).mono ?_
  rintro e w5 ⟨rfl, g5, f5⟩
  rw [x_yes]
  have G5 := Lib.hid g5
  have F5 := Lib.hid (F4.out.trans f5)
  clear g5 f5 G4 F4
  go_wp2_with fail
  refine (G5.out.best 0).mono ?_
  rintro e w6 ⟨rfl, g6, f6⟩
  rw [x_other]
  have G6 := Lib.hid g6
  have F6 := Lib.hid (F5.out.trans f6)
  clear g6 f6 G5 F5
  go_wp2_with fail
  refine (ack_ok _ gb x2 1 w6 G6.out 0 (by omega) x_at.1).mono ?_
  rintro e w7 ⟨rfl, g7, f7⟩
  rw [x_ack]
  have G7 := Lib.hid (show Gk _ w7 gb x3 from g7)
  have F7 := Lib.hid (F6.out.trans f7)
  clear g7 f7 G6 F6
  go_wp2_with fail
  refine (G7.out.active 1 3).mono ?_
  rintro e w8 ⟨rfl, rfl⟩
  rw [x_act]
  go_wp2_with fail
  refine (G7.out.run 1).mono ?_
  rintro e w9 ⟨rfl, g9, f9⟩
  rw [x_run]
  have G9 := Lib.hid g9
  have F9 := Lib.hid (F7.out.trans f9)
  clear g9 f9 G7 F7
  go_wp2_with fail
  refine (ack_ok _ gb x3 1 w9 G9.out 1 (by omega) x_at.2.1).mono ?_
  rintro e w10 ⟨rfl, g10, f10⟩
  rw [x_again]
  have G10 := Lib.hid (show Gk _ w10 gb x4 from g10)
  have F10 := Lib.hid (F9.out.trans f10)
  clear g10 f10 G9 F9
  go_wp2_with fail
  refine (eoi_ok _ gb x4 1 3 w10 G10.out 1 (by omega) x_at.2.2).mono ?_
  rintro e w11 ⟨rfl, g11, f11⟩
  rw [x_end.1, x_end.2, show code true = 0 from rfl]
  have G11 := Lib.hid (show Gk _ w11 gb x5 from g11)
  have F11 := Lib.hid (F10.out.trans f11)
  clear g11 f11 G10 F10
  have R := Lib.hid (G11.out.run 1)
  rw [x_last] at R
  go_wp2_with (go_at_call 22; refine R.out.mono ?_; rintro e w12 ⟨rfl, -, f12⟩; have F12 := Lib.hid (F11.out.trans f12); clear f12)
  go_ret
  exact ⟨rfl, F12.out.old⟩
end Go.Proofs.Ytpgelocofoidnaa
