/- The document's relation in memory; New, In, Add of it; a relation made both ways. -/
import Derived.Test.YtpcpjmbfinpmlaaDoorRof
set_option linter.unusedSimpArgs false
set_option linter.unusedVariables false
set_option linter.unusedSectionVars false
namespace Go.Proofs.YtpcpjmbfinpmlaaDoor
open Go.RowKit
set_option maxRecDepth 100000

def rbs (r : Rn) : List Value := (List.range 4096).map fun j => .bool (r (j / 64) (j % 64))
def rfc (n : Nat) (r : Rn) : List Value := .int .i64 (n : Int) :: rbs r
structure RefAt (w : World) (b n : Nat) (r : Rn) : Prop where
  blk : Blk w b 43 (rfc n r).toArray
  n64 : n ≤ 64
theorem rfc_get (n : Nat) (r : Rn) {a c : Nat} (ha : a < 64) (hc : c < 64) : (rfc n r)[1 + a * 64 + c]? = some (.bool (r a c)) := by
  have h1 : a * 64 + c < 4096 := by omega
  rw [show 1 + a * 64 + c = (a * 64 + c) + 1 by omega]
  simp only [rfc, List.getElem?_cons_succ, rbs, List.getElem?_map, List.getElem?_range h1, Option.map_some]
  rw [show (a * 64 + c) / 64 = a by omega, show (a * 64 + c) % 64 = c by omega]
theorem rfc_set (n : Nat) (r : Rn) {a c : Nat} (ha : a < 64) (hc : c < 64) (v : Bool) : (rfc n r).set (1 + a * 64 + c) (.bool v) = rfc n (upd r a (upd (r a) c v)) := by
  rw [show 1 + a * 64 + c = (a * 64 + c) + 1 by omega, rfc, List.set_cons_succ]
  show _ = Value.int .i64 (n : Int) :: rbs _
  congr 1
  apply List.ext_getElem (by simp [rbs])
  intro i h1 h2
  simp [rbs] at h1
  by_cases e : i = a * 64 + c
  · subst e
    simp [rbs, upd, show (a * 64 + c) / 64 = a by omega, show (a * 64 + c) % 64 = c by omega]
  · rw [List.getElem_set_ne (by omega)]
    simp only [rbs, List.getElem_map, List.getElem_range, upd]
    by_cases e1 : i / 64 = a
    · have e2 : ¬ i % 64 = c := fun h => e (by omega)
      simp [e1, e2, upd]
    · simp [e1]
section
variable {w w' : World} {b n : Nat} {r : Rn}
theorem RefAt.fr {S : Nat → Prop} (h : RefAt w b n r) (hf : Fr S w w') (hs : ¬ S b) : RefAt w' b n r := ⟨h.blk.fr hf hs, h.n64⟩
theorem RefAt.fr0 (h : RefAt w b n r) (hf : Fr Nil w w') : RefAt w' b n r := h.fr hf id
theorem RefAt.n_c (h : RefAt w b n r) : w.cell? ⟨b, 0, none⟩ = some (.int .i64 (n : Int)) := h.blk.cellv (by simp [rfc])
theorem RefAt.c_c (h : RefAt w b n r) {a c : Nat} (ha : a < 64) (hc : c < 64) : w.cell? ⟨b, 1 + a * 64 + c, none⟩ = some (.bool (r a c)) := h.blk.cellv (by rw [List.getElem?_toArray, rfc_get n r ha hc])
theorem RefAt.set_ (h : RefAt w b n r) {a c : Nat} (ha : a < 64) (hc : c < 64) (v : Bool) : RefAt (w.setCell ⟨b, 1 + a * 64 + c, none⟩ (.bool v)) b n (upd r a (upd (r a) c v)) := ⟨blk_list h.blk (rfc_set n r ha hc v), h.n64⟩
end
theorem in_ok (b n : Nat) (r : Rn) (a : Int) (w : World) (h : RefAt w b n r) : Calls Tryd.prog 14 #[.pointer (some ⟨b, 0, none⟩), .int .i64 a] w fun e w' => e = .returned (.bool (inB n a)) ∧ w = w' := by
  have c0 := h.n_c
  have n64 : (n : Int) ≤ 64 := by have := h.n64; omega
  have E : inB n a = (decide (0 ≤ a) && decide (a < (n : Int))) := rfl
  have HE := Lib.hid E
  clear E h
  generalize inB n a = q at *
  go_enter Tryd.func14, Tryd.ntmps14
  go_wp2
  all_goals
    go_ret
    rw [HE.out]
    exact ⟨by simp [*] <;> omega, rfl⟩
theorem rnew_bad (z : Int) (w : World) (h : z < 0 ∨ 64 < z) : Calls Tryd.prog 40 #[.int .i64 z] w fun e w' => e = .returned (.tuple #[.pointer none, .int .i64 (if z < 0 then 1 else 5)]) ∧ w = w' := by
  by_cases h1 : z < 0
  · rw [if_pos h1]
    clear h
    go_enter Tryd.func40, Tryd.ntmps40
    go_wp2
    go_ret2
    exact ⟨rfl, rfl⟩
  · rw [if_neg h1]
    have h2 : 64 < z := by omega
    clear h
    go_enter Tryd.func40, Tryd.ntmps40
    go_wp2
    go_ret2
    exact ⟨rfl, rfl⟩
theorem rfc_zero (n : Nat) : (Tryd.zeroCells43.setIfInBounds 0 (.int .i64 (n : Int))) = (rfc n noR).toArray := by
  have e : Tryd.zeroCells43 = (.int .i64 0 :: (List.range 4096).map fun _ => Value.bool false).toArray := by kernel_rfl
  rw [e, List.setIfInBounds_toArray, List.set_cons_zero]
  rfl
def RnewTo (w : World) (n : Nat) (e : Ending) (w' : World) : Prop := ∃ b, e = .returned (.tuple #[.pointer (some ⟨b, 0, none⟩), .int .i64 0]) ∧ RefAt w' b n noR ∧ Fr Nil w w' ∧ w.heap.size ≤ b
theorem rnew_ok (n : Nat) (w : World) (h : n ≤ 64) : Calls Tryd.prog 40 #[.int .i64 (n : Int)] w (RnewTo w n) := by
  have h2 : (n : Int) ≤ 64 := by omega
  have BN := Lib.hid (show RefAt (w.alloc (.cells (Tryd.zeroCells43.setIfInBounds 0 (.int .i64 (n : Int))) 43)) w.heap.size n noR from ⟨by rw [rfc_zero]; exact Blk.new w 43 _, h⟩)
  have FN := Lib.hid ((Fr.refl Nil w).alloc (.cells (Tryd.zeroCells43.setIfInBounds 0 (.int .i64 (n : Int))) 43))
  clear h
  go_enter Tryd.func40, Tryd.ntmps40
  go_wp2
  go_ret2
  exact ⟨_, rfl, BN.out, FN.out, Nat.le_refl _⟩
def putR (n : Nat) (r : Rn) (p : Int × Int) : Rn := if inP n p = true then addR r p.1.toNat p.2.toNat else r
def RputTo (w : World) (b n : Nat) (r : Rn) (p : Int × Int) (e : Ending) (w' : World) : Prop :=
  e = .returned (.int .i64 (code (inP n p))) ∧ RefAt w' b n (putR n r p) ∧ Fr (One b) w w'
set_option maxHeartbeats 1000000 in
theorem rput_ok (b n : Nat) (r : Rn) (x y : Int) (w : World) (h : RefAt w b n r) : Calls Tryd.prog 41 #[.pointer (some ⟨b, 0, none⟩), .int .i64 x, .int .i64 y] w (RputTo w b n r (x, y)) := by
  have IX := Lib.hid (in_ok b n r x w h)
  have IY := Lib.hid (in_ok b n r y w h)
  have HB := Lib.hid h
  have EP : inP n (x, y) = (inB n x && inB n y) := rfl
  cases hx : inB n x
  · have E : Hid (inP n (x, y) = false) := Lib.hid (by rw [EP, hx]; rfl)
    rw [hx] at IX
    clear h hx EP
    go_enter Tryd.func41, Tryd.ntmps41
    go_wp2_with (go_at_call 14; refine IX.out.mono ?_; rintro e w2 ⟨rfl, rfl⟩)
    go_ret
    refine ⟨by rw [E.out]; rfl, ?_, Fr.refl _ _⟩
    unfold putR
    rw [E.out]
    exact HB.out
  · cases hy : inB n y
    · have E : Hid (inP n (x, y) = false) := Lib.hid (by rw [EP, hx, hy]; rfl)
      rw [hx] at IX
      rw [hy] at IY
      clear h hx hy EP
      go_enter Tryd.func41, Tryd.ntmps41
      go_wp2_with fail
      refine IX.out.mono ?_
      rintro e w2 ⟨rfl, rfl⟩
      go_wp2_with (go_at_call 14; refine IY.out.mono ?_; rintro e w2 ⟨rfl, rfl⟩)
      go_ret
      refine ⟨by rw [E.out]; rfl, ?_, Fr.refl _ _⟩
      unfold putR
      rw [E.out]
      exact HB.out
    · have E : Hid (inP n (x, y) = true) := Lib.hid (by rw [EP, hx, hy]; rfl)
      rw [hx] at IX
      rw [hy] at IY
      obtain ⟨a, rfl, ha⟩ := inB_nat hx
      obtain ⟨c, rfl, hc⟩ := inB_nat hy
      have n64 := h.n64
      have c1 := h.c_c (a := a) (c := c) (by omega) (by omega)
      have z1 := h.blk.frozen (1 + a * 64 + c)
      have R2 := Lib.hid (h.set_ (a := a) (c := c) (by omega) (by omega) true)
      have F2 := Lib.hid ((Fr.refl (One b) w).set1 (i := 1 + a * 64 + c) (.bool true))
      have a64 : (a : Int) < 64 := by omega
      have c64 : (c : Int) < 64 := by omega
      clear h hx hy EP ha hc n64
      go_enter Tryd.func41, Tryd.ntmps41
      go_wp2_with fail
      refine IX.out.mono ?_
      rintro e w2 ⟨rfl, rfl⟩
      go_wp2_with fail
      refine IY.out.mono ?_
      rintro e w2 ⟨rfl, rfl⟩
      go_wp2_with fail
      go_ret
      refine ⟨by rw [E.out]; rfl, ?_, F2.out⟩
      unfold putR
      rw [E.out, if_pos rfl]
      exact R2.out
/-- Both. -/
def mdR (n : Nat) (P : Nat → Int × Int) : Nat → Rn
  | 0 => noR
  | k + 1 => putR n (mdR n P k) (P k)
def MadeTo (w : World) (z : Int) (P : Nat → Int × Int) (len : Nat) (e : Ending) (w' : World) : Prop :=
  ((z < 0 ∨ 64 < z) ∧ e = .returned (.tuple #[.pointer none, .pointer none, .bool true]) ∧ w = w') ∨
  (∃ (n br bx : Nat), z = (n : Int) ∧ n ≤ 64 ∧ e = .returned (.tuple #[.pointer (some ⟨br, 0, none⟩), .pointer (some ⟨bx, 0, none⟩), .bool true]) ∧ RelAt w' br n (mdR n P (min len 5000)) ∧ RefAt w' bx n (mdR n P (min len 5000)) ∧ Fr Nil w w' ∧ w.heap.size ≤ br ∧ w.heap.size ≤ bx)
end Go.Proofs.YtpcpjmbfinpmlaaDoor
