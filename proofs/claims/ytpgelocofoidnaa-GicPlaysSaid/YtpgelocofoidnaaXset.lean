/- The document's Set, Route, Mask. -/
import Derived.Test.YtpgelocofoidnaaXs
set_option linter.unusedSimpArgs false
set_option linter.unusedVariables false
set_option linter.unusedSectionVars false
namespace Go.Proofs.Ytpgelocofoidnaa
open Go.RowKit
set_option maxRecDepth 100000
def RS.lineR (r : RS) (c id : Int) (v : Bool) : RS := if decide (16 ≤ id) = true then r.setF c id fun x => { x with hi := v } else r
def RS.rankR (r : RS) (c id : Int) (v : Int) : RS := if (decide (0 ≤ v) && decide (v ≤ 255)) = true then r.setF c id fun x => { x with rk := v } else r
def RS.routeR (r : RS) (id v : Int) : RS := if decide (32 ≤ id) = true then r.setF v id fun x => { x with dst := v } else r

set_option maxHeartbeats 1000000
theorem rset_0 (rb : Nat) (L : Lay) (r : RS) (c id : Int) (on : Bool) (n : Int) (w : World) (h : RefAt w rb L r) : Calls Try.prog 46 #[.pointer (some ⟨rb, 0, none⟩), .int .i64 0, .int .i64 c, .int .i64 id, .bool on, .int .i64 n] w (Rt w rb L (r.setF c id fun x => { x with en := on }) (.int .i64 (code (okR r c id)))) := by
  have BD := Lib.hid (bad_ok rb L r c id w h)
  cases hk : okR r c id
  · rw [hk] at BD
    have e1 : (r.setF c id fun x => { x with en := on }) = r := by exact RS.setF_no r _ hk
    have e2 : code (false) = 1 := by simp [code]
    have HR := Lib.hid (show Rt w rb L (r.setF c id fun x => { x with en := on }) (.int .i64 (code (false))) (.returned (.int .i64 1)) w from ⟨by rw [e2], by rw [e1]; exact h, Fr.refl _ _⟩)
    clear h hk e1 e2
    go_enter Try.func46, Try.ntmps46
    go_wp2_with (go_at_call 52; refine BD.out.mono ?_; rintro e w2 ⟨rfl, rfl⟩)
    go_ret
    exact HR.out
  · rw [hk] at BD
    obtain ⟨c', id', hc, hi, h1, h2⟩ := okR_nat hk
    have OF := Lib.hid (show Calls Try.prog 55 #[.pointer (some ⟨rb, 0, none⟩), .int .i64 c, .int .i64 id] w fun e w' => e = .returned (.pointer (some ⟨spB L c' id', spO L c' id', none⟩)) ∧ w = w' by rw [hc, hi]; exact rof_ok rb L r c' id' w h h1 h2)
    have c1 := h.sp_c h1 h2 (j := 0) rfl
    have z1 := h.sp_z h1 (id := id') (spO L c' id' + 0)
    have e1 : (r.setF c id fun x => { x with en := on }) = r.put c' id' ⟨{ (r.get c' id').x with en := on }, (r.get c' id').by_, (r.get c' id').was⟩ := by rw [hc, hi, RS.setF_nat r _ h1 h2]
    have e2 : code (true) = 0 := by simp [code, code]
    have HR := Lib.hid (show Rt w rb L (r.setF c id fun x => { x with en := on }) (.int .i64 (code (true))) (.returned (.int .i64 0)) (w.setCell ⟨spB L c' id', spO L c' id' + 0, none⟩ (.bool on)) from ⟨by rw [e2], by rw [e1]; exact h.sp_set h1 h2 (by decide) rfl, Fr.setCell (Fr.refl _ _) (.inl (by rw [e1, RS.put_c]; exact h.sp_foot h1)) _⟩)
    clear h hk h1 h2 e1 e2
    clear hc hi
    generalize spB L c' id' = sb at *
    generalize spO L c' id' = so at *
    rw [Nat.add_zero] at c1 z1 HR
    go_enter Try.func46, Try.ntmps46
    go_wp2_with (first | (go_at_call 52; refine BD.out.mono ?_; rintro e w2 ⟨rfl, rfl⟩) | (go_at_call 55; refine OF.out.mono ?_; rintro e w2 ⟨rfl, rfl⟩))
    go_ret
    exact HR.out
theorem rset_1 (rb : Nat) (L : Lay) (r : RS) (c id : Int) (on : Bool) (n : Int) (w : World) (h : RefAt w rb L r) : Calls Try.prog 46 #[.pointer (some ⟨rb, 0, none⟩), .int .i64 1, .int .i64 c, .int .i64 id, .bool on, .int .i64 n] w (Rt w rb L (r.setF c id fun x => { x with la := on }) (.int .i64 (code (okR r c id)))) := by
  have BD := Lib.hid (bad_ok rb L r c id w h)
  cases hk : okR r c id
  · rw [hk] at BD
    have e1 : (r.setF c id fun x => { x with la := on }) = r := by exact RS.setF_no r _ hk
    have e2 : code (false) = 1 := by simp [code]
    have HR := Lib.hid (show Rt w rb L (r.setF c id fun x => { x with la := on }) (.int .i64 (code (false))) (.returned (.int .i64 1)) w from ⟨by rw [e2], by rw [e1]; exact h, Fr.refl _ _⟩)
    clear h hk e1 e2
    go_enter Try.func46, Try.ntmps46
    go_wp2_with (go_at_call 52; refine BD.out.mono ?_; rintro e w2 ⟨rfl, rfl⟩)
    go_ret
    exact HR.out
  · rw [hk] at BD
    obtain ⟨c', id', hc, hi, h1, h2⟩ := okR_nat hk
    have OF := Lib.hid (show Calls Try.prog 55 #[.pointer (some ⟨rb, 0, none⟩), .int .i64 c, .int .i64 id] w fun e w' => e = .returned (.pointer (some ⟨spB L c' id', spO L c' id', none⟩)) ∧ w = w' by rw [hc, hi]; exact rof_ok rb L r c' id' w h h1 h2)
    have c1 := h.sp_c h1 h2 (j := 1) rfl
    have z1 := h.sp_z h1 (id := id') (spO L c' id' + 1)
    have e1 : (r.setF c id fun x => { x with la := on }) = r.put c' id' ⟨{ (r.get c' id').x with la := on }, (r.get c' id').by_, (r.get c' id').was⟩ := by rw [hc, hi, RS.setF_nat r _ h1 h2]
    have e2 : code (true) = 0 := by simp [code, code]
    have HR := Lib.hid (show Rt w rb L (r.setF c id fun x => { x with la := on }) (.int .i64 (code (true))) (.returned (.int .i64 0)) (w.setCell ⟨spB L c' id', spO L c' id' + 1, none⟩ (.bool on)) from ⟨by rw [e2], by rw [e1]; exact h.sp_set h1 h2 (by decide) rfl, Fr.setCell (Fr.refl _ _) (.inl (by rw [e1, RS.put_c]; exact h.sp_foot h1)) _⟩)
    clear h hk h1 h2 e1 e2
    clear hc hi
    generalize spB L c' id' = sb at *
    generalize spO L c' id' = so at *
    go_enter Try.func46, Try.ntmps46
    go_wp2_with (first | (go_at_call 52; refine BD.out.mono ?_; rintro e w2 ⟨rfl, rfl⟩) | (go_at_call 55; refine OF.out.mono ?_; rintro e w2 ⟨rfl, rfl⟩))
    go_ret
    exact HR.out
theorem rset_2 (rb : Nat) (L : Lay) (r : RS) (c id : Int) (on : Bool) (n : Int) (w : World) (h : RefAt w rb L r) : Calls Try.prog 46 #[.pointer (some ⟨rb, 0, none⟩), .int .i64 2, .int .i64 c, .int .i64 id, .bool on, .int .i64 n] w (Rt w rb L (r.lineR c id on) (.int .i64 (code (decide (16 ≤ id) && okR r c id)))) := by
  have BD := Lib.hid (bad_ok rb L r c id w h)
  cases hk : okR r c id
  · rw [hk] at BD
    have e1 : (r.lineR c id on) = r := by unfold RS.lineR; split; exact RS.setF_no r _ hk; rfl
    have e2 : code (decide (16 ≤ id) && false) = 1 := by simp [code]
    have HR := Lib.hid (show Rt w rb L (r.lineR c id on) (.int .i64 (code (decide (16 ≤ id) && false))) (.returned (.int .i64 1)) w from ⟨by rw [e2], by rw [e1]; exact h, Fr.refl _ _⟩)
    clear h hk e1 e2
    go_enter Try.func46, Try.ntmps46
    go_wp2_with (go_at_call 52; refine BD.out.mono ?_; rintro e w2 ⟨rfl, rfl⟩)
    go_ret
    exact HR.out
  · rw [hk] at BD
    obtain ⟨c', id', hc, hi, h1, h2⟩ := okR_nat hk
    by_cases h16 : 16 ≤ id
    rotate_left
    · have e1 : (r.lineR c id on) = r := by unfold RS.lineR; rw [if_neg (by simpa using h16)]
      have e2 : code (decide (16 ≤ id) && true) = 1 := by simp [code]; omega
      have HR := Lib.hid (show Rt w rb L (r.lineR c id on) (.int .i64 (code (decide (16 ≤ id) && true))) (.returned (.int .i64 1)) w from ⟨by rw [e2], by rw [e1]; exact h, Fr.refl _ _⟩)
      clear h hk e1 e2 hc hi h1 h2
      have d1 : decide (id < 16) = true := by simp; omega
      clear h16
      go_enter Try.func46, Try.ntmps46
      go_wp2_with (go_at_call 52; refine BD.out.mono ?_; rintro e w2 ⟨rfl, rfl⟩)
      go_ret
      exact HR.out
    have OF := Lib.hid (show Calls Try.prog 55 #[.pointer (some ⟨rb, 0, none⟩), .int .i64 c, .int .i64 id] w fun e w' => e = .returned (.pointer (some ⟨spB L c' id', spO L c' id', none⟩)) ∧ w = w' by rw [hc, hi]; exact rof_ok rb L r c' id' w h h1 h2)
    have c1 := h.sp_c h1 h2 (j := 2) rfl
    have z1 := h.sp_z h1 (id := id') (spO L c' id' + 2)
    have e1 : (r.lineR c id on) = r.put c' id' ⟨{ (r.get c' id').x with hi := on }, (r.get c' id').by_, (r.get c' id').was⟩ := by unfold RS.lineR; rw [if_pos (by simpa using h16)]; rw [hc, hi, RS.setF_nat r _ h1 h2]
    have e2 : code (decide (16 ≤ id) && true) = 0 := by simp [code, h16]
    have HR := Lib.hid (show Rt w rb L (r.lineR c id on) (.int .i64 (code (decide (16 ≤ id) && true))) (.returned (.int .i64 0)) (w.setCell ⟨spB L c' id', spO L c' id' + 2, none⟩ (.bool on)) from ⟨by rw [e2], by rw [e1]; exact h.sp_set h1 h2 (by decide) rfl, Fr.setCell (Fr.refl _ _) (.inl (by rw [e1, RS.put_c]; exact h.sp_foot h1)) _⟩)
    clear h hk h1 h2 e1 e2
    have d1 : decide (id < 16) = false := by simp; omega
    clear hc hi
    generalize spB L c' id' = sb at *
    generalize spO L c' id' = so at *
    go_enter Try.func46, Try.ntmps46
    go_wp2_with (first | (go_at_call 52; refine BD.out.mono ?_; rintro e w2 ⟨rfl, rfl⟩) | (go_at_call 55; refine OF.out.mono ?_; rintro e w2 ⟨rfl, rfl⟩))
    go_ret
    exact HR.out
theorem rset_3 (rb : Nat) (L : Lay) (r : RS) (c id : Int) (on : Bool) (n : Int) (w : World) (h : RefAt w rb L r) : Calls Try.prog 46 #[.pointer (some ⟨rb, 0, none⟩), .int .i64 3, .int .i64 c, .int .i64 id, .bool on, .int .i64 n] w (Rt w rb L (r.rankR c id n) (.int .i64 (code ((decide (0 ≤ n) && decide (n ≤ 255)) && okR r c id)))) := by
  have BD := Lib.hid (bad_ok rb L r c id w h)
  cases hk : okR r c id
  · rw [hk] at BD
    have e1 : (r.rankR c id n) = r := by unfold RS.rankR; split; exact RS.setF_no r _ hk; rfl
    have e2 : code ((decide (0 ≤ n) && decide (n ≤ 255)) && false) = 1 := by simp [code]
    have HR := Lib.hid (show Rt w rb L (r.rankR c id n) (.int .i64 (code ((decide (0 ≤ n) && decide (n ≤ 255)) && false))) (.returned (.int .i64 1)) w from ⟨by rw [e2], by rw [e1]; exact h, Fr.refl _ _⟩)
    clear h hk e1 e2
    go_enter Try.func46, Try.ntmps46
    go_wp2_with (go_at_call 52; refine BD.out.mono ?_; rintro e w2 ⟨rfl, rfl⟩)
    go_ret
    exact HR.out
  · rw [hk] at BD
    obtain ⟨c', id', hc, hi, h1, h2⟩ := okR_nat hk
    by_cases h0 : 0 ≤ n
    rotate_left
    · have e1 : (r.rankR c id n) = r := by unfold RS.rankR; rw [if_neg (by simp; omega)]
      have e2 : code ((decide (0 ≤ n) && decide (n ≤ 255)) && true) = 1 := by simp [code]; omega
      have HR := Lib.hid (show Rt w rb L (r.rankR c id n) (.int .i64 (code ((decide (0 ≤ n) && decide (n ≤ 255)) && true))) (.returned (.int .i64 1)) w from ⟨by rw [e2], by rw [e1]; exact h, Fr.refl _ _⟩)
      clear h hk e1 e2 hc hi h1 h2
      have d1 : decide (n < 0) = true := by simp; omega
      clear h0
      go_enter Try.func46, Try.ntmps46
      go_wp2_with (go_at_call 52; refine BD.out.mono ?_; rintro e w2 ⟨rfl, rfl⟩)
      go_ret
      exact HR.out
    by_cases h255 : n ≤ 255
    rotate_left
    · have e1 : (r.rankR c id n) = r := by unfold RS.rankR; rw [if_neg (by simp; omega)]
      have e2 : code ((decide (0 ≤ n) && decide (n ≤ 255)) && true) = 1 := by simp [code]; omega
      have HR := Lib.hid (show Rt w rb L (r.rankR c id n) (.int .i64 (code ((decide (0 ≤ n) && decide (n ≤ 255)) && true))) (.returned (.int .i64 1)) w from ⟨by rw [e2], by rw [e1]; exact h, Fr.refl _ _⟩)
      clear h hk e1 e2 hc hi h1 h2
      have d1 : decide (n < 0) = false := by simp; omega
      have d2 : decide (255 < n) = true := by simp; omega
      clear h0 h255
      go_enter Try.func46, Try.ntmps46
      go_wp2_with (go_at_call 52; refine BD.out.mono ?_; rintro e w2 ⟨rfl, rfl⟩)
      go_ret
      exact HR.out
    have OF := Lib.hid (show Calls Try.prog 55 #[.pointer (some ⟨rb, 0, none⟩), .int .i64 c, .int .i64 id] w fun e w' => e = .returned (.pointer (some ⟨spB L c' id', spO L c' id', none⟩)) ∧ w = w' by rw [hc, hi]; exact rof_ok rb L r c' id' w h h1 h2)
    have c1 := h.sp_c h1 h2 (j := 4) rfl
    have z1 := h.sp_z h1 (id := id') (spO L c' id' + 4)
    have e1 : (r.rankR c id n) = r.put c' id' ⟨{ (r.get c' id').x with rk := n }, (r.get c' id').by_, (r.get c' id').was⟩ := by unfold RS.rankR; rw [if_pos (by simp; omega)]; rw [hc, hi, RS.setF_nat r _ h1 h2]
    have e2 : code ((decide (0 ≤ n) && decide (n ≤ 255)) && true) = 0 := by simp [code, h0, h255]
    have HR := Lib.hid (show Rt w rb L (r.rankR c id n) (.int .i64 (code ((decide (0 ≤ n) && decide (n ≤ 255)) && true))) (.returned (.int .i64 0)) (w.setCell ⟨spB L c' id', spO L c' id' + 4, none⟩ (.int .i64 n)) from ⟨by rw [e2], by rw [e1]; exact h.sp_set h1 h2 (by decide) rfl, Fr.setCell (Fr.refl _ _) (.inl (by rw [e1, RS.put_c]; exact h.sp_foot h1)) _⟩)
    clear h hk h1 h2 e1 e2
    have d1 : decide (n < 0) = false := by simp; omega
    have d2 : decide (255 < n) = false := by simp; omega
    clear hc hi
    generalize spB L c' id' = sb at *
    generalize spO L c' id' = so at *
    go_enter Try.func46, Try.ntmps46
    go_wp2_with (first | (go_at_call 52; refine BD.out.mono ?_; rintro e w2 ⟨rfl, rfl⟩) | (go_at_call 55; refine OF.out.mono ?_; rintro e w2 ⟨rfl, rfl⟩))
    go_ret
    exact HR.out
theorem rroute_ok (rb : Nat) (L : Lay) (r : RS) (id v : Int) (w : World) (h : RefAt w rb L r) : Calls Try.prog 47 #[.pointer (some ⟨rb, 0, none⟩), .int .i64 id, .int .i64 v] w (Rt w rb L (r.routeR id v) (.int .i64 (code (decide (32 ≤ id) && okR r v id)))) := by
  have BD := Lib.hid (bad_ok rb L r v id w h)
  cases hk : okR r v id
  · rw [hk] at BD
    have e1 : (r.routeR id v) = r := by unfold RS.routeR; split; exact RS.setF_no r _ hk; rfl
    have e2 : code (decide (32 ≤ id) && false) = 1 := by simp [code]
    have HR := Lib.hid (show Rt w rb L (r.routeR id v) (.int .i64 (code (decide (32 ≤ id) && false))) (.returned (.int .i64 1)) w from ⟨by rw [e2], by rw [e1]; exact h, Fr.refl _ _⟩)
    clear h hk e1 e2
    go_enter Try.func47, Try.ntmps47
    go_wp2_with (go_at_call 52; refine BD.out.mono ?_; rintro e w2 ⟨rfl, rfl⟩)
    go_ret
    exact HR.out
  · rw [hk] at BD
    obtain ⟨c', id', hc, hi, h1, h2⟩ := okR_nat hk
    by_cases h32 : 32 ≤ id
    rotate_left
    · have e1 : (r.routeR id v) = r := by unfold RS.routeR; rw [if_neg (by simpa using h32)]
      have e2 : code (decide (32 ≤ id) && true) = 1 := by simp [code]; omega
      have HR := Lib.hid (show Rt w rb L (r.routeR id v) (.int .i64 (code (decide (32 ≤ id) && true))) (.returned (.int .i64 1)) w from ⟨by rw [e2], by rw [e1]; exact h, Fr.refl _ _⟩)
      clear h hk e1 e2 hc hi h1 h2
      have d1 : decide (id < 32) = true := by simp; omega
      clear h32
      go_enter Try.func47, Try.ntmps47
      go_wp2_with (go_at_call 52; refine BD.out.mono ?_; rintro e w2 ⟨rfl, rfl⟩)
      go_ret
      exact HR.out
    have c1 := h.sp_c h1 h2 (j := 5) rfl
    have z1 := h.sp_z h1 (id := id') (spO L c' id' + 5)
    have e1 : (r.routeR id v) = r.put c' id' ⟨{ (r.get c' id').x with dst := v }, (r.get c' id').by_, (r.get c' id').was⟩ := by unfold RS.routeR; rw [if_pos (by simpa using h32)]; rw [hc, hi, RS.setF_nat r _ h1 h2]
    have e2 : code (decide (32 ≤ id) && true) = 0 := by simp [code, h32]
    have HR := Lib.hid (show Rt w rb L (r.routeR id v) (.int .i64 (code (decide (32 ≤ id) && true))) (.returned (.int .i64 0)) (w.setCell ⟨spB L c' id', spO L c' id' + 5, none⟩ (.int .i64 v)) from ⟨by rw [e2], by rw [e1]; exact h.sp_set h1 h2 (by decide) rfl, Fr.setCell (Fr.refl _ _) (.inl (by rw [e1, RS.put_c]; exact h.sp_foot h1)) _⟩)
    have c0 := h.sh_c
    obtain ⟨k, rfl⟩ : ∃ k, id' = k + 32 := ⟨id' - 32, by omega⟩
    have d1 : decide (id < 32) = false := by simp; omega
    have d2 : id - 32 = (k : Int) := by omega
    have d3 : (k : Int) < 32 := by omega
    have hB : spB L c' (k + 32) = L.sb := by unfold spB; rw [if_neg (by omega)]
    have hO : spO L c' (k + 32) = L.so + k * 8 := by unfold spO; rw [if_neg (by omega), Nat.add_sub_cancel]
    have i1 : id ≤ 63 := by omega
    have i2 : 32 ≤ id := h32
    rw [hB, hO] at c1 z1 HR
    clear h hk h1 h2 e1 e2 hB hO h32
    clear hc hi
    go_enter Try.func47, Try.ntmps47
    go_wp2_with (go_at_call 52; refine BD.out.mono ?_; rintro e w2 ⟨rfl, rfl⟩)
    go_ret
    exact HR.out
theorem rmask_ok (rb : Nat) (L : Lay) (r : RS) (c v : Int) (w : World) (h : RefAt w rb L r) : Calls Try.prog 48 #[.pointer (some ⟨rb, 0, none⟩), .int .i64 c, .int .i64 v] w (Rt w rb L (r.maskR c v) (.int .i64 (code (decide (0 ≤ c) && decide (c < (r.c : Int)) && decide (0 ≤ v) && decide (v ≤ 255))))) := by
  have BD := Lib.hid (bad_ok rb L r c 0 w h)
  have ek : okR r c 0 = (decide (0 ≤ c) && decide (c < (r.c : Int))) := by unfold okR; simp
  cases hk : okR r c 0
  · rw [hk] at BD
    have e0 : (decide (0 ≤ c) && decide (c < (r.c : Int))) = false := by rw [← ek]; exact hk
    have e1 : r.maskR c v = r := by unfold RS.maskR; rw [e0]; rfl
    rw [e0]
    have HR := Lib.hid (show Rt w rb L (r.maskR c v) (.int .i64 (code (false && decide (0 ≤ v) && decide (v ≤ 255)))) (.returned (.int .i64 1)) w from ⟨rfl, by rw [e1]; exact h, Fr.refl _ _⟩)
    clear h hk e1 e0 ek
    go_enter Try.func48, Try.ntmps48
    go_wp2_with (go_at_call 52; refine BD.out.mono ?_; rintro e w2 ⟨rfl, rfl⟩)
    go_ret
    exact HR.out
  · rw [hk] at BD
    have e0 : (decide (0 ≤ c) && decide (c < (r.c : Int))) = true := by rw [← ek]; exact hk
    rw [e0]
    obtain ⟨c', -, rfl, -, h1, -⟩ := okR_nat hk
    by_cases g0 : 0 ≤ v
    · by_cases g1 : v ≤ 255
      · have e1 : r.maskR (c' : Int) v = { r with lim := upd r.lim c' v } := by unfold RS.maskR; rw [e0, if_pos (by simp; omega), Int.toNat_natCast]
        have e2 : code (true && decide (0 ≤ v) && decide (v ≤ 255)) = 0 := by simp [code, g0, g1]
        have c0 := h.lim_c
        have c1 := h.lims_c h1
        have z1 := h.lim_z (L.lo + c')
        have cn : (c' : Int) < (r.c : Int) := by omega
        have c8 : (r.c : Int) ≤ 8 := by have := h.c8; omega
        have HR := Lib.hid (show Rt w rb L (r.maskR (c' : Int) v) (.int .i64 (code (true && decide (0 ≤ v) && decide (v ≤ 255)))) (.returned (.int .i64 0)) (w.setCell ⟨L.lb, L.lo + c', none⟩ (.int .i64 v)) from ⟨by rw [e2], by rw [e1]; exact h.lim_set h1 v, Fr.setCell (Fr.refl _ _) (.inl (by rw [e1]; exact .inr (.inr (.inr (.inl rfl))))) _⟩)
        have d1 : decide (v < 0) = false := by simp; omega
        have d2 : decide (255 < v) = false := by simp; omega
        clear h hk h1 e1 e2 e0 ek g0 g1
        go_enter Try.func48, Try.ntmps48
        go_wp2_with (go_at_call 52; refine BD.out.mono ?_; rintro e w2 ⟨rfl, rfl⟩)
        go_ret
        exact HR.out
      · have e1 : r.maskR (c' : Int) v = r := by unfold RS.maskR; rw [e0, if_neg (by simp; omega)]
        have e2 : code (true && decide (0 ≤ v) && decide (v ≤ 255)) = 1 := by simp [code]; omega
        have HR := Lib.hid (show Rt w rb L (r.maskR (c' : Int) v) (.int .i64 (code (true && decide (0 ≤ v) && decide (v ≤ 255)))) (.returned (.int .i64 1)) w from ⟨by rw [e2], by rw [e1]; exact h, Fr.refl _ _⟩)
        have d1 : decide (v < 0) = false := by simp; omega
        have d2 : decide (255 < v) = true := by simp; omega
        clear h hk h1 e1 e2 e0 ek g0 g1
        go_enter Try.func48, Try.ntmps48
        go_wp2_with (go_at_call 52; refine BD.out.mono ?_; rintro e w2 ⟨rfl, rfl⟩)
        go_ret
        exact HR.out
    · have e1 : r.maskR (c' : Int) v = r := by unfold RS.maskR; rw [e0, if_neg (by simp; omega)]
      have e2 : code (true && decide (0 ≤ v) && decide (v ≤ 255)) = 1 := by simp [code]; omega
      have HR := Lib.hid (show Rt w rb L (r.maskR (c' : Int) v) (.int .i64 (code (true && decide (0 ≤ v) && decide (v ≤ 255)))) (.returned (.int .i64 1)) w from ⟨by rw [e2], by rw [e1]; exact h, Fr.refl _ _⟩)
      have d1 : decide (v < 0) = true := by simp; omega
      clear h hk h1 e1 e2 e0 ek g0
      go_enter Try.func48, Try.ntmps48
      go_wp2_with (go_at_call 52; refine BD.out.mono ?_; rintro e w2 ⟨rfl, rfl⟩)
      go_ret
      exact HR.out
end Go.Proofs.Ytpgelocofoidnaa

