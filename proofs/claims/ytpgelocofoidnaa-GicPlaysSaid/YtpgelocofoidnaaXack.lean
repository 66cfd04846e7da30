/- The document's Ack, Eoi. -/
import Derived.Test.YtpgelocofoidnaaXbest
set_option linter.unusedSimpArgs false
set_option linter.unusedVariables false
set_option linter.unusedSectionVars false
namespace Go.Proofs.Ytpgelocofoidnaa
open Go.RowKit
set_option maxRecDepth 100000

theorem RS.put_put (r : RS) (c id : Nat) (y z : J) : (r.put c id y).put c id z = r.put c id z := by
  unfold RS.put
  by_cases e : id < 32
  · rw [if_pos e, if_pos e, if_pos e]
    simp only [upd_same]
    congr 1
    funext i
    by_cases h : i = c
    · subst h
      rw [upd_same, upd_same]
      funext j
      by_cases h2 : j = id
      · subst h2; rw [upd_same, upd_same]
      · rw [upd_other _ _ h2, upd_other _ _ h2, upd_other _ _ h2]
    · rw [upd_other _ _ h, upd_other _ _ h, upd_other _ _ h]
  · rw [if_neg e, if_neg e, if_neg e]
    show ({ r with sh := upd (upd r.sh (id - 32) y) (id - 32) z } : RS) = { r with sh := upd r.sh (id - 32) z }
    congr 1
    funext j
    by_cases h2 : j = id - 32
    · subst h2; rw [upd_same, upd_same]
    · rw [upd_other _ _ h2, upd_other _ _ h2, upd_other _ _ h2]
theorem RS.put_get (r : RS) (c id : Nat) (y : J) : (r.put c id y).get c id = y := RS.get_hit r y ⟨rfl, fun _ => rfl⟩
/-- A spot of the controller, by its cells. -/
structure Spt (w : World) (rb : Nat) (L : Lay) (r : RS) (c id : Nat) (y : J) (sb so : Nat) : Prop where
  at_ : RefAt w rb L (r.put c id y)
  hc : c < r.c
  hi : id < 64
  hb : sb = spB L c id
  ho : so = spO L c id
theorem RS.put_self (r : RS) (c id : Nat) : r.put c id (r.get c id) = r := by
  unfold RS.put RS.get
  by_cases e : id < 32
  · rw [if_pos e, if_pos e, upd_id, upd_id]
  · rw [if_neg e, if_neg e, upd_id]
theorem RefAt.spt {w : World} {rb : Nat} {L : Lay} {r : RS} (h : RefAt w rb L r) {c id : Nat} (hc : c < r.c) (hi : id < 64) : Spt w rb L r c id (r.get c id) (spB L c id) (spO L c id) :=
  ⟨by rw [RS.put_self]; exact h, hc, hi, rfl, rfl⟩
section
variable {w : World} {rb : Nat} {L : Lay} {r : RS} {c id sb so : Nat} {y : J}
theorem Spt.cell (h : Spt w rb L r c id y sb so) {j : Nat} {v : Value} (hv : (jc y)[j]? = some v) : w.cell? ⟨sb, so + j, none⟩ = some v := by
  rw [h.hb, h.ho]
  exact h.at_.sp_c (by rw [RS.put_c]; exact h.hc) h.hi (by rw [RS.put_get]; exact hv)
theorem Spt.frz (h : Spt w rb L r c id y sb so) (o : Nat) : w.frozen? ⟨sb, o, none⟩ = false := by
  rw [h.hb]
  exact h.at_.sp_z (by rw [RS.put_c]; exact h.hc) o
theorem Spt.set_ (h : Spt w rb L r c id y sb so) {j : Nat} {u : Value} {z : J} (hj : j < 8) (hy : (jc y).set j u = jc z) : Spt (w.setCell ⟨sb, so + j, none⟩ u) rb L r c id z sb so := by
  refine ⟨?_, h.hc, h.hi, h.hb, h.ho⟩
  rw [h.hb, h.ho]
  have := h.at_.sp_set (c := c) (id := id) (by rw [RS.put_c]; exact h.hc) h.hi hj (u := u) (y := z) (by rw [RS.put_get]; exact hy)
  rw [RS.put_put] at this
  exact this
theorem Spt.foot (h : Spt w rb L r c id y sb so) : RFoot rb L r.c sb := by
  have := h.at_.sp_foot (c := c) (id := id) (by rw [RS.put_c]; exact h.hc)
  rw [RS.put_c] at this
  rw [h.hb]; exact this
end
def RackTo (w : World) (rb : Nat) (L : Lay) (r : RS) (c : Int) (e : Ending) (w' : World) : Prop :=
  ∃ r' v, e = .returned (.int .i64 v) ∧ RefAt w' rb L r' ∧ Fr (RFoot rb L r.c) w w' ∧
    ((v = 1023 ∧ r' = r ∧ (okR r c 0 = false ∨ (okR r c 0 = true ∧ BestP r c.toNat (rrun r c.toNat 64) 64 (-1)))) ∨ (∃ n : Nat, n < 64 ∧ v = (n : Int) ∧ r' = r.takeR c.toNat n ∧ okR r c 0 = true ∧ BestP r c.toNat (rrun r c.toNat 64) 64 (n : Int)))
set_option maxHeartbeats 1000000 in
theorem rack_ok (rb : Nat) (L : Lay) (r : RS) (c : Int) (w : World) (h : RefAt w rb L r) : Calls Try.prog 50 #[.pointer (some ⟨rb, 0, none⟩), .int .i64 c] w (RackTo w rb L r c) := by
  have HG := Lib.hid h
  have BE := Lib.hid (rbest_ok rb L r c w h)
  clear h
  go_enter Try.func50, Try.ntmps50
  go_wp2_with fail
  refine BE.out.mono ?_
  rintro e w2 ⟨hb, hf⟩
  have F2 := Lib.hid hf
  have G2 := Lib.hid (HG.out.fr0 hf)
  clear hf
  cases hk : okR r c 0
  · rw [hk] at hb
    have he : e = .returned (.tuple #[.int .i64 0, .bool false]) := hb
    subst he
    have HK := Lib.hid hk
    clear hb hk
    go_wp2_with fail
    go_ret
    exact ⟨r, 1023, rfl, G2.out, F2.out.nil, .inl ⟨rfl, rfl, .inl HK.out⟩⟩
  · rw [hk] at hb
    have HK := Lib.hid hk
    have he : ∃ b, BestP r c.toNat (rrun r c.toNat 64) 64 b ∧ e = .returned (.tuple #[.int .i64 (bestV b).1, .bool (bestV b).2]) := hb
    obtain ⟨b, hb2, rfl⟩ := he
    have HB := Lib.hid hb2
    obtain ⟨c', -, hc, -, h1, -⟩ := okR_nat hk
    have hct : c.toNat = c' := by omega
    rcases hb2 with ⟨e, _⟩ | ⟨n, e, hn, _, _⟩
    · subst e
      have E1 : (bestV (-1)).1 = 0 := rfl
      have E2 : (bestV (-1)).2 = false := rfl
      rw [E1, E2]
      clear hb hk E1 E2 hc h1 hct
      go_wp2_with fail
      go_ret
      exact ⟨r, 1023, rfl, G2.out, F2.out.nil, .inl ⟨rfl, rfl, .inr ⟨HK.out, HB.out⟩⟩⟩
    · subst e
      have E : bestV (n : Int) = ((n : Int), true) := by unfold bestV; rw [if_neg (by omega)]
      rw [E]
      have OF := Lib.hid (show Calls Try.prog 55 #[.pointer (some ⟨rb, 0, none⟩), .int .i64 c, .int .i64 (n : Int)] w2 fun e w' => e = .returned (.pointer (some ⟨spB L c' n, spO L c' n, none⟩)) ∧ w2 = w' by rw [hc]; exact rof_ok rb L r c' n w2 G2.out h1 hn)
      have S0 := Lib.hid (G2.out.spt h1 hn)
      have HC := Lib.hid (show c = (c' : Int) ∧ c.toNat = c' from ⟨hc, hct⟩)
      have HN := Lib.hid hn
      have c1 := S0.out.cell (j := 1) rfl
      have z1 := S0.out.frz (spO L c' n + 1)
      have F3 := Lib.hid (show Fr (RFoot rb L r.c) w (w2.setCell ⟨spB L c' n, spO L c' n + 1, none⟩ (.bool false)) from F2.out.nil.setCell (.inl S0.out.foot) _)
      have S1 := Lib.hid (S0.out.set_ (j := 1) (u := .bool false) (z := ⟨{ (r.get c' n).x with la := false }, (r.get c' n).by_, (r.get c' n).was⟩) (by decide) rfl)
      generalize spB L c' n = sb at *
      generalize spO L c' n = so at *
      clear hb hk hc h1 hct E S0 hn
      go_upto_region 6 with (go_at_call 55; refine OF.out.mono ?_; rintro e w9 ⟨rfl, rfl⟩)
      clear c1 z1 OF
      generalize (w2.setCell ⟨sb, so + 1, none⟩ (.bool false)) = w3 at *
      have c3 := S1.out.cell (j := 3) rfl
      have z3 := S1.out.frz (so + 3)
      have F4 := Lib.hid (show Fr (RFoot rb L r.c) w (w3.setCell ⟨sb, so + 3, none⟩ (.bool true)) from F3.out.setCell (.inl S1.out.foot) _)
      have S2 := Lib.hid (S1.out.set_ (j := 3) (u := .bool true) (z := ⟨{ (r.get c' n).x with la := false, ac := true }, (r.get c' n).by_, (r.get c' n).was⟩) (by decide) rfl)
      go_upto_region 7 with fail
      clear c3 z3 S1 F3
      generalize (w3.setCell ⟨sb, so + 3, none⟩ (.bool true)) = w4 at *
      have c6 := S2.out.cell (j := 6) rfl
      have z6 := S2.out.frz (so + 6)
      have F5 := Lib.hid (show Fr (RFoot rb L r.c) w (w4.setCell ⟨sb, so + 6, none⟩ (.int .i64 c)) from F4.out.setCell (.inl S2.out.foot) _)
      have S3 := Lib.hid (S2.out.set_ (j := 6) (u := .int .i64 c) (z := ⟨{ (r.get c' n).x with la := false, ac := true }, c, (r.get c' n).was⟩) (by decide) rfl)
      go_upto_region 8 with fail
      clear c6 z6 S2 F4
      generalize (w4.setCell ⟨sb, so + 6, none⟩ (.int .i64 c)) = w5 at *
      have c4 := S3.out.cell (j := 4) rfl
      have c7 := S3.out.cell (j := 7) rfl
      have z7 := S3.out.frz (so + 7)
      have F6 := Lib.hid (show Fr (RFoot rb L r.c) w (w5.setCell ⟨sb, so + 7, none⟩ (.int .i64 (r.get c' n).x.rk)) from F5.out.setCell (.inl S3.out.foot) _)
      have S4 := Lib.hid (S3.out.set_ (j := 7) (u := .int .i64 (r.get c' n).x.rk) (z := ⟨{ (r.get c' n).x with la := false, ac := true }, c, (r.get c' n).x.rk⟩) (by decide) rfl)
      go_upto_region 9 with fail
      clear c4 c7 z7 S3 F5
      generalize (w5.setCell ⟨sb, so + 7, none⟩ (.int .i64 (r.get c' n).x.rk)) = w6 at *
      go_wp2_with fail
      go_ret
      refine ⟨_, _, rfl, S4.out.at_, F6.out, .inr ⟨n, HN.out, rfl, ?_, HK.out, HB.out⟩⟩
      rw [HC.out.2, HC.out.1]
      rfl
def RS.eoiRB (r : RS) (c id : Int) : Bool := okR r c id && mine r c.toNat id.toNat
def RS.eoiR (r : RS) (c id : Int) : RS := if r.eoiRB c id = true then r.dropR c.toNat id.toNat else r
theorem RS.eoiR_c (r : RS) (c id : Int) : (r.eoiR c id).c = r.c := by
  unfold RS.eoiR
  split
  · exact RS.put_c _ _ _ _
  · rfl
set_option maxHeartbeats 1000000 in
theorem reoi_ok (rb : Nat) (L : Lay) (r : RS) (c id : Int) (w : World) (h : RefAt w rb L r) : Calls Try.prog 51 #[.pointer (some ⟨rb, 0, none⟩), .int .i64 c, .int .i64 id] w (Rt w rb L (r.eoiR c id) (.tuple #[.bool (r.eoiRB c id), .int .i64 (code (okR r c id))])) := by
  have BD := Lib.hid (bad_ok rb L r c id w h)
  cases hk : okR r c id
  · rw [hk] at BD
    have e0 : r.eoiRB c id = false := by unfold RS.eoiRB; rw [hk]; rfl
    have e1 : r.eoiR c id = r := by unfold RS.eoiR; rw [e0]; rfl
    rw [e0, e1]
    have HG := Lib.hid h
    clear h hk e0 e1
    go_enter Try.func51, Try.ntmps51
    go_wp2_with (go_at_call 52; refine BD.out.mono ?_; rintro e w2 ⟨rfl, rfl⟩)
    go_ret2
    exact ⟨rfl, HG.out, Fr.refl _ _⟩
  · rw [hk] at BD
    obtain ⟨c', id', hc, hi, h1, h2⟩ := okR_nat hk
    have OF := Lib.hid (show Calls Try.prog 55 #[.pointer (some ⟨rb, 0, none⟩), .int .i64 c, .int .i64 id] w fun e w' => e = .returned (.pointer (some ⟨spB L c' id', spO L c' id', none⟩)) ∧ w = w' by rw [hc, hi]; exact rof_ok rb L r c' id' w h h1 h2)
    have S0 := Lib.hid (h.spt h1 h2)
    have HG := Lib.hid h
    have e0 : r.eoiRB c id = ((r.get c' id').x.ac && (r.get c' id').by_ == c) := by
      unfold RS.eoiRB mine
      rw [hk, hc, hi]
      rfl
    have HRC := Lib.hid (RS.eoiR_c r c id)
    have HRE := Lib.hid (show r.eoiRB c id = true → r.eoiR c id = r.put c' id' ⟨{ (r.get c' id').x with ac := false }, -1, (r.get c' id').was⟩ from fun ht => by unfold RS.eoiR; rw [if_pos ht, hc, hi]; rfl)
    have HRN := Lib.hid (show r.eoiRB c id = false → r.eoiR c id = r from fun ht => by unfold RS.eoiR; rw [if_neg (by rw [ht]; decide)])
    have c3 := S0.out.cell (j := 3) rfl
    have c6 := S0.out.cell (j := 6) rfl
    have z3 := S0.out.frz (spO L c' id' + 3)
    have F1 := Lib.hid (show Fr (RFoot rb L r.c) w (w.setCell ⟨spB L c' id', spO L c' id' + 3, none⟩ (.bool false)) from (Fr.refl _ w).setCell (.inl S0.out.foot) _)
    have S1 := Lib.hid (S0.out.set_ (j := 3) (u := .bool false) (z := ⟨{ (r.get c' id').x with ac := false }, (r.get c' id').by_, (r.get c' id').was⟩) (by decide) rfl)
    clear h hk hc hi h1 h2 S0
    generalize spB L c' id' = sb at *
    generalize spO L c' id' = so at *
    generalize hac : (r.get c' id').x.ac = ac at *
    generalize hby : (r.get c' id').by_ = by_ at *
    clear hac hby
    cases ac
    · have e2 : r.eoiRB c id = false := by rw [e0]; rfl
      have e3 := HRN.out e2
      rw [e2, e3]
      clear e0 e2 e3
      go_enter Try.func51, Try.ntmps51
      go_wp2_with (first | (go_at_call 52; refine BD.out.mono ?_; rintro e w2 ⟨rfl, rfl⟩) | (go_at_call 55; refine OF.out.mono ?_; rintro e w2 ⟨rfl, rfl⟩))
      go_ret2
      exact ⟨rfl, HG.out, Fr.refl _ _⟩
    · cases hb : (by_ == c)
      · have e2 : r.eoiRB c id = false := by rw [e0, hb]; rfl
        have e3 := HRN.out e2
        have hb2 : (by_ != c) = true := by rw [bne, hb]; rfl
        rw [e2, e3]
        clear e0 e2 e3
        go_enter Try.func51, Try.ntmps51
        go_wp2_with (first | (go_at_call 52; refine BD.out.mono ?_; rintro e w2 ⟨rfl, rfl⟩) | (go_at_call 55; refine OF.out.mono ?_; rintro e w2 ⟨rfl, rfl⟩))
        go_ret2
        exact ⟨rfl, HG.out, Fr.refl _ _⟩
      · have e2 : r.eoiRB c id = true := by rw [e0, hb]; rfl
        have e3 := HRE.out e2
        have hb2 : (by_ != c) = false := by rw [bne, hb]; rfl
        have HE3 := Lib.hid e3
        rw [e2]
        clear e0 e2 e3
        go_enter Try.func51, Try.ntmps51
        go_upto_region 8 with (first | (go_at_call 52; refine BD.out.mono ?_; rintro e w2 ⟨rfl, rfl⟩) | (go_at_call 55; refine OF.out.mono ?_; rintro e w2 ⟨rfl, rfl⟩))
        clear c3 c6 z3 hb hb2
        generalize (w.setCell ⟨sb, so + 3, none⟩ (.bool false)) = w3 at *
        have c6 := S1.out.cell (j := 6) rfl
        have z6 := S1.out.frz (so + 6)
        have F2 := Lib.hid (show Fr (RFoot rb L r.c) w (w3.setCell ⟨sb, so + 6, none⟩ (.int .i64 (-1))) from F1.out.setCell (.inl S1.out.foot) _)
        have S2 := Lib.hid (S1.out.set_ (j := 6) (u := .int .i64 (-1)) (z := ⟨{ (r.get c' id').x with ac := false }, -1, (r.get c' id').was⟩) (by decide) rfl)
        go_upto_region 9 with fail
        clear c6 z6 S1 F1
        generalize (w3.setCell ⟨sb, so + 6, none⟩ (.int .i64 (-1))) = w4 at *
        go_wp2_with fail
        go_ret2
        exact ⟨rfl, by rw [HE3.out]; exact S2.out.at_, by rw [HRC.out]; exact F2.out⟩
end Go.Proofs.Ytpgelocofoidnaa
