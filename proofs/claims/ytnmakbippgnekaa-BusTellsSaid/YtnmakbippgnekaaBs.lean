/- The bus: Sys, SetSys, Tick. -/
import Derived.Test.YtnmakbippgnekaaBw
set_option linter.unusedSimpArgs false
set_option linter.unusedVariables false
set_option linter.unusedSectionVars false
namespace Go.Proofs.Ytnmakbippgnekaa
open Go.RowKit
set_option maxRecDepth 100000

section
variable {K : Nat → Prop} {w w' : World} {bb gb tb : Nat} {B : BS}
def BS.lined (B : BS) (t : Tim.Ts) : BS := { B with t := t, g := linesG t t.n B.g }
theorem mask_c (s : GS) (c v : Int) : (s.mask c v).c = s.c := by unfold GS.mask; split <;> rfl
theorem put_c (s : GS) (c id : Nat) (y : I) : (s.put c id y).c = s.c := by unfold GS.put; split <;> rfl
theorem eoi_c (s : GS) (c id : Int) : (s.eoi c id).c = s.c := by
  unfold GS.eoi GS.eoiN
  split
  · split
    · exact put_c _ _ _ _
    · rfl
  · rfl
theorem sendK_c (s : GS) (t : Int) (id : Nat) : ∀ k, (s.sendK t id k).c = s.c
  | 0 => rfl
  | k + 1 => by
    unfold GS.sendK
    split
    · exact (put_c _ _ _ _).trans (sendK_c s t id k)
    · exact sendK_c s t id k
theorem send_c (s : GS) (t id : Int) : (s.send t id).c = s.c := by
  unfold GS.send
  split
  · exact sendK_c _ _ _ _
  · rfl
theorem ack_c (s : GS) (c : Int) : (s.ack c).c = s.c := by
  unfold GS.ack
  split
  · exact GS.take_c _ _ _
  · rfl
theorem Bk.write (h : Bk K w bb gb tb B) (c sy x : Int) (x0 : 0 ≤ x) (x1 : x ≤ 18446744073709551615) : Calls Try.prog 26 #[.pointer (some ⟨tb, 0, none⟩), .int .i64 c, .int .i64 sy, .int .u64 x] w (Bn K bb gb tb w { B with t := Tim.wrS B.t c sy x } (.int .i64 (Tim.wrV B.t c sy))) :=
  h.tim (fun tr ht => Tim.write_ok tb tr B.t c sy x w ht x0 x1) (Tim.wrS_right h.right c sy x x0 x1).2 (Tim.wrS_right h.right c sy x x0 x1).1
theorem Bk.tick (h : Bk K w bb gb tb B) (x : Int) : Calls Try.prog 31 #[.pointer (some ⟨tb, 0, none⟩), .int .u64 x] w (Bn K bb gb tb w { B with t := { B.t with t := IntKind.u64.wrap (B.t.t + x) } } (.tuple #[])) :=
  h.tim (fun tr ht => Tim.tick_ok tb tr B.t x w ht) rfl (Tim.tick_right h.right _)
theorem tick_ok (x : Int) (w : World) (h : Bk K w bb gb tb B) : Calls Try.prog 16 #[.pointer (some ⟨bb, 0, none⟩), .int .u64 x] w (Bn K bb gb tb w (B.lined { B.t with t := IntKind.u64.wrap (B.t.t + x) }) (.tuple #[])) := by
  obtain ⟨c0, c1, c2⟩ := h.cells
  have TK := Lib.hid (h.tick x)
  clear h
  go_enter Try.func16, Try.ntmps16
  go_wp2_with fail
  refine TK.out.mono ?_
  rintro e w4 ⟨rfl, h4, f4⟩
  have LI := Lib.hid (lines_ok w4 h4)
  have F4 := Lib.hid f4
  clear h4 f4 TK c0 c1 c2
  go_wp2_with fail
  refine LI.out.mono ?_
  rintro e w5 ⟨rfl, h5, f5⟩
  have H5 := Lib.hid (And.intro h5 (F4.out.trans f5))
  clear h5 f5
  go_wp2_with fail
  go_end0
  exact ⟨rfl, H5.out.1, H5.out.2⟩
/-- A system register that is read: the state behind it, what it tells, the fault. -/
def sysS (B : BS) (c el sy : Int) : BS := if mayB B.t.n c el = true ∧ (Tim.rdV B.t c sy).2 ≠ 0 ∧ el = 1 ∧ sy = 18016 then { B with g := B.g.ack c } else B
def sysV (B : BS) (c el sy : Int) : Int × Int :=
  if mayB B.t.n c el = true then
    if (Tim.rdV B.t c sy).2 = 0 then ((Tim.rdV B.t c sy).1, 0)
    else if el = 1 ∧ sy = 18016 then (IntKind.u64.wrap (B.g.ackV c), 0) else if el = 1 ∧ sy = 16944 then (IntKind.u64.wrap (B.g.limit c), 0) else (0, 2)
  else (0, 2)
set_option maxHeartbeats 2000000 in
theorem sys_ok (c el sy : Int) (w : World) (h : Bk K w bb gb tb B) (n : Nat) (hn : n ≤ 1000) (ha : AtLe B.g n) :
    Calls Try.prog 17 #[.pointer (some ⟨bb, 0, none⟩), .int .i64 c, .int .i64 el, .int .i64 sy] w (Bn K bb gb tb w (sysS B c el sy) (.tuple #[.int .u64 (sysV B c el sy).1, .int .i64 (sysV B c el sy).2])) := by
  obtain ⟨c0, c1, c2⟩ := h.cells
  have MA := Lib.hid (may_ok c el w h)
  have H := Lib.hid h
  have HA := Lib.hid ha
  have RD := Lib.hid (h.timR (f := 32) (args := #[.pointer (some ⟨tb, 0, none⟩), .int .i64 c, .int .i64 sy]) fun tr ht => Tim.read_ok tb tr B.t c sy w ht h.right)
  unfold sysS sysV
  clear h ha
  cases hm : mayB B.t.n c el
  · rw [hm] at MA
    rw [if_neg (by simp), if_neg (by simp)]
    go_enter Try.func17, Try.ntmps17
    go_wp2_with fail
    refine MA.out.mono ?_
    rintro e w4 ⟨rfl, rfl⟩
    go_wp2_with fail
    go_ret2
    exact Bn.refl H.out (Fr.refl _ _) _
  · rw [hm] at MA
    rw [if_pos rfl]
    simp only [true_and]
    clear hm
    obtain ⟨r, hr⟩ : ∃ r, r = Tim.rdV B.t c sy := ⟨_, rfl⟩
    rw [← hr] at RD ⊢
    obtain ⟨r1, r2⟩ := r
    clear hr
    simp only at RD ⊢
    by_cases h2 : r2 = 0
    · subst h2
      rw [if_neg (by simp), if_pos rfl]
      go_enter Try.func17, Try.ntmps17
      go_wp2_with fail
      refine MA.out.mono ?_
      rintro e w4 ⟨rfl, rfl⟩
      go_wp2_with fail
      refine RD.out.mono ?_
      rintro e w4 ⟨rfl, f4⟩
      have F4 := Lib.hid f4
      clear f4
      go_wp2_with fail
      go_ret2
      exact Bn.refl H.out F4.out _
    · have e2 : (r2 == 0) = false := by simpa using h2
      rw [if_neg h2]
      have go1 : (el == 1) = true ∧ (sy == 18016) = true ∨ (el == 1) = true ∧ (sy == 18016) = false ∧ (sy == 16944) = true ∨ (el == 1) = true ∧ (sy == 18016) = false ∧ (sy == 16944) = false ∨ (el == 1) = false := by
        cases e1 : (el == 1) <;> cases e2 : (sy == 18016) <;> cases e3 : (sy == 16944) <;> simp
      rcases go1 with ⟨e3, e4⟩ | ⟨e3, e4, e5⟩ | ⟨e3, e4, e5⟩ | e3
      · have a1 := eq_of_beq e3
        have a2 := eq_of_beq e4
        rw [if_pos ⟨h2, a1, a2⟩, if_pos ⟨a1, a2⟩]
        clear h2 a1 a2
        go_enter Try.func17, Try.ntmps17
        go_wp2_with fail
        refine MA.out.mono ?_
        rintro e w4 ⟨rfl, rfl⟩
        go_wp2_with fail
        refine RD.out.mono ?_
        rintro e w4 ⟨rfl, f4⟩
        have F4 := Lib.hid f4
        obtain ⟨d0, d1, d2⟩ := (H.out.still f4).cells
        clear f4
        have AK := Lib.hid ((H.out.still F4.out).gic (fun K' hg => ack_ok K' gb B.g c w4 hg n hn HA.out) (ack_c _ _))
        clear hn
        go_wp2_with fail
        refine AK.out.mono ?_
        rintro e w5 ⟨rfl, h5, f5⟩
        have H5 := Lib.hid (And.intro h5 (F4.out.nil.trans f5))
        clear h5 f5
        go_wp2_with fail
        go_ret2
        exact ⟨rfl, H5.out.1, H5.out.2⟩
      · have a1 := eq_of_beq e3
        have a2 : sy ≠ 18016 := fun e => by rw [e] at e4; cases e4
        have a3 := eq_of_beq e5
        rw [if_neg (fun e => a2 e.2.2), if_neg (fun e => a2 e.2), if_pos ⟨a1, a3⟩]
        clear h2 a1 a2 a3
        go_enter Try.func17, Try.ntmps17
        go_wp2_with fail
        refine MA.out.mono ?_
        rintro e w4 ⟨rfl, rfl⟩
        go_wp2_with fail
        refine RD.out.mono ?_
        rintro e w4 ⟨rfl, f4⟩
        have F4 := Lib.hid f4
        obtain ⟨d0, d1, d2⟩ := (H.out.still f4).cells
        clear f4
        have AK := Lib.hid ((H.out.still F4.out).gicR fun K' hg => hg.limit c)
        go_wp2_with fail
        refine AK.out.mono ?_
        rintro e w5 ⟨rfl, rfl⟩
        go_wp2_with fail
        go_ret2
        exact Bn.refl H.out F4.out _
      · have a2 : sy ≠ 18016 := fun e => by rw [e] at e4; cases e4
        have a3 : sy ≠ 16944 := fun e => by rw [e] at e5; cases e5
        rw [if_neg (fun e => a2 e.2.2), if_neg (fun e => a2 e.2), if_neg (fun e => a3 e.2)]
        clear h2 a2 a3
        go_enter Try.func17, Try.ntmps17
        go_wp2_with fail
        refine MA.out.mono ?_
        rintro e w4 ⟨rfl, rfl⟩
        go_wp2_with fail
        refine RD.out.mono ?_
        rintro e w4 ⟨rfl, f4⟩
        have F4 := Lib.hid f4
        clear f4
        go_wp2_with fail
        go_ret2
        exact Bn.refl H.out F4.out _
      · have a2 : el ≠ 1 := fun e => by rw [e] at e3; cases e3
        rw [if_neg (fun e => a2 e.2.1), if_neg (fun e => a2 e.1), if_neg (fun e => a2 e.1)]
        clear h2 a2
        go_enter Try.func17, Try.ntmps17
        go_wp2_with fail
        refine MA.out.mono ?_
        rintro e w4 ⟨rfl, rfl⟩
        go_wp2_with fail
        refine RD.out.mono ?_
        rintro e w4 ⟨rfl, f4⟩
        have F4 := Lib.hid f4
        clear f4
        go_wp2_with fail
        go_ret2
        exact Bn.refl H.out F4.out _
end
end Go.Proofs.Ytnmakbippgnekaa
