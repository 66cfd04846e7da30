/- The chapter's example holds: known answers true. -/
import Derived.Test.YtffjembeimpdmaaRef
namespace Go.Proofs.Ytffjembeimpdmaa
open Go.RowKit
set_option linter.unusedVariables false

theorem own_form {w : World} {base : Nat} {v : Value} {n : Nat} {xs : List Int} (h : w.ownsRow base 3 1 v n (xs.map (Value.int .i64))) (hn : 0 < n) :
    ∃ g cap, v = .slice (some ⟨g, 0, none⟩) n cap ∧ base ≤ g ∧ n ≤ cap ∧ ∀ i x, xs[i]? = some x → w.cell? ⟨g, i, none⟩ = some (.int .i64 x) := by
  rcases h.2 with ⟨_, h0⟩ | ⟨g, cap, cur, hv, hb, hg, hnc, hm, hs, ht⟩
  · omega
  · subst hv
    refine ⟨g, cap, rfl, hb, hnc, fun i x hx => ?_⟩
    have := h.cells (g := g) rfl i (.int .i64 x) (by rw [List.getElem?_map, hx]; rfl)
    by_cases hi : i = 0
    · subst hi; simpa [Addr.add] using this
    · simpa [Addr.add, hi] using this

def KnownPost (w : World) (e : Ending) (w' : World) : Prop := e = .returned (.bool true) ∧ Fr Nil w w'
set_option maxHeartbeats 2000000 in
theorem known_ok (w : World) : Calls Try.prog 7 #[] w (KnownPost w) := by
  go_enter Try.func7, Try.ntmps7
  go_wp2_with fail
  refine (new_ok 2 _ (by omega) (by omega)).mono ?_
  rintro e w1 ⟨rfl, rfl⟩
  have hm0 : MonAt (w.alloc (.cells (cs17 2 (fun _ => 0) (fun _ => false)) 58)) w.heap.size 2 (fun _ => 0) (fun _ => false) := Blk.new _ _ _
  have hf0 : Fr Nil w (w.alloc (.cells (cs17 2 (fun _ => 0) (fun _ => false)) 58)) := (Fr.refl _ _).alloc _
  generalize (w.alloc (.cells (cs17 2 (fun _ => 0) (fun _ => false)) 58)) = w1 at *
  generalize hb : w.heap.size = b at *
  have Hb := Lib.hid hb
  clear hb
  go_wp2_with fail
  refine (mark_ok b 0 2 100 _ _ _ hm0 (by omega) (by omega) (by omega) (by omega)).mono ?_
  rintro e w2 ⟨rfl, hm1, hf1⟩
  go_wp2_with fail
  refine (mark_ok b 1 2 127 _ _ _ hm1 (by omega) (by omega) (by omega) (by omega)).mono ?_
  rintro e w3 ⟨rfl, hm2, hf2⟩
  go_wp2_with fail
  refine (wrote_ok b 1 2 64 _ _ _ hm2 (by omega) (by omega) (by omega) (by omega) (by omega)).mono ?_
  rintro e w4 ⟨v, rfl, hown, hm3, hf3⟩
  have ex : HL (upd (upd (fun _ => (0 : Int)) 0 (100 / 64)) 1 (127 / 64)) (upd (upd (fun _ => false) 0 true) 1 true) 1 (64 / 64) 8 = [0] := by decide
  rw [ex] at hown
  clear ex
  have el : LA (upd (upd (fun _ => (0 : Int)) 0 (100 / 64)) 1 (127 / 64)) (upd (upd (fun _ => false) 0 true) 1 true) 1 (64 / 64) 8 1 = 1 := by decide
  have ei : IA (upd (upd (fun _ => (0 : Int)) 0 (100 / 64)) 1 (127 / 64)) (upd (upd (fun _ => false) 0 true) 1 true) 1 (64 / 64) 8 1 = true := by decide
  have ei0 : IA (upd (upd (fun _ => (0 : Int)) 0 (100 / 64)) 1 (127 / 64)) (upd (upd (fun _ => false) 0 true) 1 true) 1 (64 / 64) 8 0 = false := by decide
  generalize LA (upd (upd (fun _ => (0 : Int)) 0 (100 / 64)) 1 (127 / 64)) (upd (upd (fun _ => false) 0 true) 1 true) 1 (64 / 64) 8 = L3 at *
  generalize IA (upd (upd (fun _ => (0 : Int)) 0 (100 / 64)) 1 (127 / 64)) (upd (upd (fun _ => false) 0 true) 1 true) 1 (64 / 64) 8 = I3 at *
  obtain ⟨g, cap, rfl, hg, hcap, hc⟩ := own_form hown (by decide)
  have k1 := marked_ok b 1 2 L3 I3 w4 hm3 (by omega) (by omega) (by omega) (by omega)
  rw [el, ei] at k1
  have K1 := Lib.hid k1
  clear k1
  have k2 := fun W h => take_ok b 0 2 64 L3 I3 W h (by omega) (by omega) (by omega) (by omega)
  rw [ei0] at k2
  have K2 := Lib.hid k2
  clear k2
  have k3 := fun W h => take_ok b 1 2 64 (upd L3 0 0) (upd I3 0 false) W h (by omega) (by omega) (by omega) (by omega)
  rw [show upd I3 0 false 1 = true from (upd_other I3 false (by omega)).trans ei, show upd L3 0 0 1 = 1 from (upd_other L3 0 (by omega)).trans el] at k3
  have K3 := Lib.hid k3
  clear k3
  have k4 := fun W h => take_ok b 1 2 64 (upd (upd L3 0 0) 1 0) (upd (upd I3 0 false) 1 false) W h (by omega) (by omega) (by omega) (by omega)
  rw [show upd (upd I3 0 false) 1 false 1 = false from upd_same _ _ _] at k4
  have K4 := Lib.hid k4
  clear k4 el ei ei0
  go_wp2_with fail
  refine K1.out.mono ?_
  rintro e w5 ⟨rfl, hf4⟩
  go_wp2_with fail
  refine (K2.out _ (Blk.fr0 hm3 hf4)).mono ?_
  rintro e w6 ⟨rfl, hm5, hf5⟩
  go_wp2_with fail
  refine (K3.out _ hm5).mono ?_
  rintro e w7 ⟨rfl, hm6, hf6⟩
  go_wp2_with fail
  refine (K4.out _ hm6).mono ?_
  rintro e w8 ⟨rfl, hm7, hf7⟩
  have F4 : Fr (One b) w4 w8 := (((Fr.nil hf4).trans hf5).trans hf6).trans hf7
  have F : Fr Nil w w8 := by
    refine Fr.step (S' := One b) hf0 ((hf1.trans hf2).trans (hf3.trans F4)) ?_
    intro i _ hi
    right
    rw [hi, ← Hb.out]
    exact Nat.le_refl _
  have c0 : w8.cell? ⟨g, 0, none⟩ = some (.int .i64 0) := by
    rw [F4.cell (p := ⟨g, 0, none⟩) ?_ ?_]
    · exact hc 0 0 rfl
    · exact World.block_lt_of_cell? _ _ (hc 0 0 rfl)
    · intro hx
      have := hm2.lt
      unfold One at hx
      simp at hx
      omega
  go_wp2
  go_ret
  exact ⟨rfl, F⟩
end Go.Proofs.Ytffjembeimpdmaa
