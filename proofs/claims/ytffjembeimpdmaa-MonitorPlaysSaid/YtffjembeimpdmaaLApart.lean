/- The walk of MonitorApart. -/
import Derived.Test.YtffjembeimpdmaaLHolds
namespace Go.Proofs.Ytffjembeimpdmaa
open Go.RowKit
set_option linter.unusedVariables false

def ApS (L : Nat → Int) (I : Nat → Bool) (ln : Int) : Prop := I 0 = true ∧ L 0 = ln
def ApR (w : World) (b : Nat) (ln : Int) (len : Nat) (i : Value) (wr : World) : Prop :=
  ∃ k : Nat, k ≤ len ∧ i = .int .i64 k ∧ ∃ L I, MonAt wr b 3 L I ∧ ApS L I ln ∧ Fr Nil w wr
theorem ap_other {L : Nat → Int} {I : Nat → Bool} {t : Nat} {ln : Int} (hs : ApS L I ln) (ht : 0 < t) (l : Int) (x : Bool) : ApS (upd L t l) (upd I t x) ln := by
  unfold ApS
  rw [upd_other _ _ (by omega), upd_other _ _ (by omega)]
  exact hs
theorem ap_wrote0 {L : Nat → Int} {I : Nat → Bool} {ln ln' : Int} (hs : ApS L I ln) : ApS (LA L I 0 ln' 8) (IA L I 0 ln' 8) ln := by
  obtain ⟨h1, h2⟩ := hs
  exact ⟨by simp [IA, hit, h1], by simp [LA, hit, h2]⟩
theorem ap_wrote {L : Nat → Int} {I : Nat → Bool} {t : Nat} {ln ln' : Int} (hs : ApS L I ln) (hl : ¬ ln' = ln) : ApS (LA L I t ln' 8) (IA L I t ln' 8) ln := by
  obtain ⟨h1, h2⟩ := hs
  have hl' : ¬ ln = ln' := fun e => hl e.symm
  exact ⟨by simp [IA, hit, h1, h2, hl'], by simp [LA, hit, h2, hl']⟩
theorem ap_none {L : Nat → Int} {I : Nat → Bool} {t : Nat} {ln ln' : Int} (hs : ApS L I ln) (hl : ¬ ln' = ln) : ∀ x ∈ HL L I t ln' 8, x ≠ 0 := by
  obtain ⟨h1, h2⟩ := hs
  intro x hx
  unfold HL at hx
  obtain ⟨j, hj, rfl⟩ := List.mem_map.1 hx
  have := (List.mem_filter.1 hj).2
  intro e
  have hj0 : j = 0 := by omega
  subst hj0
  have hl' : ¬ ln = ln' := fun e => hl e.symm
  simp [hit, h2, hl'] at this

/-- One element of a slice of integers of one's own. -/
theorem own_at {w : World} {base : Nat} {v : Value} {xs : List Int} (h : w.ownsRow base 3 1 v xs.length (xs.map (Value.int .i64))) {k : Nat} (hk : k < xs.length) :
    ∃ g cap, v = .slice (some ⟨g, 0, none⟩) xs.length cap ∧ base ≤ g ∧ g < w.heap.size ∧ w.cell? ⟨g, k, none⟩ = some (.int .i64 xs[k]) := by
  obtain ⟨g, cap, hv, hb, hc, hx⟩ := own_form h (by omega)
  have := hx k xs[k] (List.getElem?_eq_getElem hk)
  exact ⟨g, cap, hv, hb, World.block_lt_of_cell? _ _ this, this⟩
/-- A slice of one's own, its length told. -/
theorem own_len {w : World} {base : Nat} {v : Value} {xs : List Int} (h : w.ownsRow base 3 1 v xs.length (xs.map (Value.int .i64))) : ∃ a cap, v = .slice a xs.length cap := by
  rcases h.2 with ⟨rfl, h0⟩ | ⟨g, cap, cur, hv, _⟩
  · exact ⟨none, 0, by rw [h0]⟩
  · exact ⟨_, _, hv⟩

theorem new_cell {w w5 : World} {cs : Array Value} {t : TypeId} {b i : Nat} {v : Value} (hf : Fr (One b) (w.alloc (.cells cs t)) w5) (hb : b < w.heap.size) (hi : cs[i]? = some v) : w5.cell? ⟨w.heap.size, i, none⟩ = some v := by
  have h1 : Blk w5 w.heap.size t cs := Blk.fr1 (Blk.new _ _ _) hf (by omega)
  exact h1.cellv hi
set_option maxRecDepth 100000 in
set_option maxHeartbeats 4000000 in
theorem monitorApart_walk (a0 : Int) (a1 : Option Addr) (len1 cap1 : Nat) (Z1 : Nat → Nat → Int) (w : World) (w0 : (Lit.int .u64 a0).wf = true)
    (l1 : len1 ≤ cap1) (m1 : cap1 ≤ maxLen) (s1 : SlRows [.i64, .i64, .u64] w a1 len1 Z1) :
    Calls Try.prog 6 #[.int .u64 a0, .slice a1 len1 cap1] w fun e w' => e = .returned (.bool true) ∧ Below w.heap.size w w' := by
  obtain ⟨g0, g1⟩ := bounds_u64 w0
  clear w0
  unfold maxLen at m1
  go_enter Try.func6, Try.ntmps6
  go_wp2_with fail
  refine (known_ok w).mono ?_
  rintro e w1 ⟨rfl, hf0⟩
  go_wp2_with fail
  refine (new_ok 3 _ (by omega) (by omega)).mono ?_
  rintro e w2 ⟨rfl, rfl⟩
  have hm0 : MonAt (w1.alloc (.cells (cs17 3 (fun _ => 0) (fun _ => false)) 58)) w1.heap.size 3 (fun _ => 0) (fun _ => false) := Blk.new _ _ _
  have hf1 : Fr Nil w (w1.alloc (.cells (cs17 3 (fun _ => 0) (fun _ => false)) 58)) := hf0.alloc _
  have hb : w.heap.size ≤ w1.heap.size := hf0.size
  clear hf0
  generalize (w1.alloc (.cells (cs17 3 (fun _ => 0) (fun _ => false)) 58)) = w2 at *
  generalize w1.heap.size = b at *
  go_wp2_with fail
  refine (mark_ok b 0 3 _ _ _ _ hm0 (by omega) (by omega) g0 g1).mono ?_
  rintro e w3 ⟨rfl, hm1, hf2⟩
  have hs0 : ApS (upd (fun _ => 0) 0 (a0 / 64)) (upd (fun _ => false) 0 true) (a0 / 64) := ⟨upd_same _ _ _, upd_same _ _ _⟩
  have hf3 := hf1.own1 hf2 hb
  have hq1 : 0 ≤ a0 / 64 := by omega
  have hq2 : a0 / 64 ≤ 288230376151711743 := by omega
  have hq3 : a0 / 64 * 64 = a0 - a0 % 64 := by omega
  have Hq3 := Lib.hid hq3
  clear hm0 hf1 hf2 hq3
  go_wp2_with fail
  go_loopw [8] (fun i wr => ApR w b (a0 / 64) len1 i wr) (fun i _ => len1 - (intOf i).toNat)
  case atStart => exact ⟨0, by omega, rfl, _, _, hm1, hs0, hf3⟩
  case round =>
    obtain ⟨i, hi, rfl, L, I, hm, hs, hfr⟩ := hrel
    clear hm1 hs0 hf3
    by_cases hlt : i < len1 ∧ i < 100
    · obtain ⟨hlt1, hlt2⟩ := hlt
      have hlt2' : (i : Int) < 100 := by omega
      obtain ⟨b1, o1, rfl, hb1, c0, c1, c2, e0, e1, e2⟩ := s1.at3 hfr hlt1
      obtain ⟨x0, x1⟩ := bounds_i64 e1
      obtain ⟨x2, x3⟩ := bounds_u64 e2
      clear s1 e0 e1 e2
      generalize Z1 i 0 = kd at *
      generalize Z1 i 1 = cr at *
      generalize Z1 i 2 = ad at *
      have p0 := pk_lo cr 2 (by omega)
      have p1 := pk_hi cr 2 (by omega)
      obtain ⟨c, ew⟩ : ∃ c : Nat, 1 + pk cr 2 = (c : Int) := ⟨(1 + pk cr 2).toNat, by omega⟩
      have hw4 : c < 3 := by omega
      have hw0 : 0 < c := by omega
      have Ew := Lib.hid ew
      clear ew
      go_wp2_with fail
      refine (pick_any _ _ _ x0 x1 (by omega) (by omega)).mono ?_
      rintro e w4 ⟨rfl, rfl⟩
      by_cases k1 : kd = 1
      · subst k1
        go_wp2_with fail
        rw [Ew.out]
        go_wp2_with fail
        refine (mark_ok b c 3 _ _ _ _ (Blk.alloc hm _) (by omega) (by omega) x2 x3).mono ?_
        rintro e w5 ⟨rfl, hm', hf'⟩
        have hs' := ap_other hs hw0 (ad / 64) true
        have hfr' : Fr Nil w _ := (hfr.alloc _).own1 hf' hb
        go_wp2_with fail
        refine (marked_ok b 0 3 _ _ _ hm' (by omega) (by omega) (by rw [hs'.2]; exact hq1) (by rw [hs'.2]; exact hq2)).mono ?_
        rintro e w9 ⟨rfl, hf9⟩
        rw [hs'.2, hs'.1, Hq3.out]
        go_wp2_with fail
        go_roundw
        case rel => exact ⟨i + 1, by omega, rfl, _, _, Blk.fr0 hm' hf9, hs', hfr'.trans hf9⟩
        case measure => simp [intOf]; omega
      by_cases k2 : kd = 2
      · subst k2
        clear k1
        go_wp2_with fail
        rw [Ew.out]
        go_wp2_with fail
        refine (clear_ok b c 3 _ _ _ (Blk.alloc hm _) (by omega) (by omega)).mono ?_
        rintro e w5 ⟨rfl, hm', hf'⟩
        have hs' := ap_other hs hw0 0 false
        have hfr' : Fr Nil w _ := (hfr.alloc _).own1 hf' hb
        go_wp2_with fail
        refine (marked_ok b 0 3 _ _ _ hm' (by omega) (by omega) (by rw [hs'.2]; exact hq1) (by rw [hs'.2]; exact hq2)).mono ?_
        rintro e w9 ⟨rfl, hf9⟩
        rw [hs'.2, hs'.1, Hq3.out]
        go_wp2_with fail
        go_roundw
        case rel => exact ⟨i + 1, by omega, rfl, _, _, Blk.fr0 hm' hf9, hs', hfr'.trans hf9⟩
        case measure => simp [intOf]; omega
      by_cases k3 : kd = 3
      · subst k3
        clear k1 k2
        by_cases hl : ad / 64 = a0 / 64
        · have hl' : (ad / 64 != a0 / 64) = false := by simp [hl]
          clear hl
          go_wp2_with fail
          refine (wrote_ok b 0 3 _ _ _ _ (Blk.alloc hm _) (by omega) (by omega) (by omega) x2 x3).mono ?_
          rintro e w6 ⟨v6, rfl, hown6, hm', hf'⟩
          clear hown6
          have hs' := ap_wrote0 (ln' := ad / 64) hs
          have hfr' : Fr Nil w _ := (hfr.alloc _).own1 hf' hb
          go_wp2_with fail
          refine (marked_ok b 0 3 _ _ _ hm' (by omega) (by omega) (by rw [hs'.2]; exact hq1) (by rw [hs'.2]; exact hq2)).mono ?_
          rintro e w9 ⟨rfl, hf9⟩
          rw [hs'.2, hs'.1, Hq3.out]
          go_wp2_with fail
          go_roundw
          case rel => exact ⟨i + 1, by omega, rfl, _, _, Blk.fr0 hm' hf9, hs', hfr'.trans hf9⟩
          case measure => simp [intOf]; omega
        · have hl' : (ad / 64 != a0 / 64) = true := by simp [hl]
          have Hl := Lib.hid hl
          clear hl
          go_wp2_with fail
          rw [Ew.out]
          go_wp2_with fail
          refine (wrote_ok b c 3 _ _ _ _ (Blk.alloc hm _) (by omega) (by omega) (by omega) x2 x3).mono ?_
          rintro e w5 ⟨v, rfl, hown, hm5, hf5⟩
          have o2 : w5.cell? ⟨wr.heap.size, 2, none⟩ = some (.int .u64 ad) := new_cell hf5 (Blk.lt hm) rfl
          have hnone := ap_none (t := c) hs Hl.out
          have hle8 := HL_le (L := L) (I := I) (c := (c : Int)) (ln := ad / 64) (k := 8)
          generalize HL L I c (ad / 64) 8 = xs at *
          obtain ⟨va, vc, rfl⟩ := own_len hown
          go_wp2_with fail
          go_loop [13] (fun k => ∃ j : Nat, j ≤ xs.length ∧ k = .int .i64 j) (fun k => xs.length - (intOf k).toNat)
          case atStart => exact ⟨0, by omega, rfl⟩
          case round =>
            obtain ⟨j, hj, rfl⟩ := hrel
            by_cases hjl : j < xs.length
            · obtain ⟨g, cap, hv, hg, hgl, hcell⟩ := own_at hown hjl
              have hx0 : (xs[j] == 0) = false := by simpa using hnone _ (List.getElem_mem hjl)
              generalize xs[j] = xj at *
              injection hv with hv1 hv2 hv3
              subst hv1
              go_wp2_with fail
              go_round
              case rel => exact ⟨j + 1, by omega, rfl⟩
              case measure => simp [intOf]; omega
            · have hjl' : decide (j < xs.length) = false := by simpa using hjl
              go_wp2_with fail
              refine (wrote_ok b 0 3 _ _ _ _ hm5 (by omega) (by omega) (by omega) x2 x3).mono ?_
              rintro e w6 ⟨v6, rfl, hown6, hm', hf'⟩
              clear hown6
              have hs' := ap_wrote0 (ln' := ad / 64) (ap_wrote (t := c) hs Hl.out)
              have hfr' : Fr Nil w _ := ((hfr.alloc _).own1 hf5 hb).own1 hf' hb
              go_wp2_with fail
              refine (marked_ok b 0 3 _ _ _ hm' (by omega) (by omega) (by rw [hs'.2]; exact hq1) (by rw [hs'.2]; exact hq2)).mono ?_
              rintro e w9 ⟨rfl, hf9⟩
              rw [hs'.2, hs'.1, Hq3.out]
              go_wp2_with fail
              go_roundw
              case rel => exact ⟨i + 1, by omega, rfl, _, _, Blk.fr0 hm' hf9, hs', hfr'.trans hf9⟩
              case measure => simp [intOf]; omega
      by_cases k4 : kd = 4
      · subst k4
        clear k1 k2 k3
        go_wp2_with fail
        rw [Ew.out]
        go_wp2_with fail
        refine (take_ok b c 3 _ _ _ _ (Blk.alloc hm _) (by omega) (by omega) x2 x3).mono ?_
        rintro e w5 ⟨rfl, hm', hf'⟩
        have hs' := ap_other hs hw0 0 false
        have hfr' : Fr Nil w _ := (hfr.alloc _).own1 hf' hb
        go_wp2_with fail
        refine (marked_ok b 0 3 _ _ _ hm' (by omega) (by omega) (by rw [hs'.2]; exact hq1) (by rw [hs'.2]; exact hq2)).mono ?_
        rintro e w9 ⟨rfl, hf9⟩
        rw [hs'.2, hs'.1, Hq3.out]
        go_wp2_with fail
        go_roundw
        case rel => exact ⟨i + 1, by omega, rfl, _, _, Blk.fr0 hm' hf9, hs', hfr'.trans hf9⟩
        case measure => simp [intOf]; omega
      · go_wp2_with fail
        rw [Ew.out]
        have hs' := hs
        go_wp2_with fail
        refine (marked_ok b 0 3 _ _ _ (Blk.alloc hm _) (by omega) (by omega) (by rw [hs'.2]; exact hq1) (by rw [hs'.2]; exact hq2)).mono ?_
        rintro e w9 ⟨rfl, hf9⟩
        rw [hs'.2, hs'.1, Hq3.out]
        go_wp2_with fail
        go_roundw
        case rel => exact ⟨i + 1, by omega, rfl, _, _, Blk.fr0 (Blk.alloc hm _) hf9, hs', (hfr.alloc _).trans hf9⟩
        case measure => simp [intOf]; omega
    · have H := Lib.hid hlt
      clear hlt
      have hlt3 : len1 ≤ i ∨ 100 ≤ i := by have := H.out; omega
      clear H
      rcases hlt3 with hx | hx
      · go_wp2
        go_ret
        exact ⟨rfl, hfr.below (Nat.le_refl _) (fun _ _ => id)⟩
      · have hx' : 100 ≤ (i : Int) := by omega
        go_wp2
        all_goals go_ret
        all_goals exact ⟨rfl, hfr.below (Nat.le_refl _) (fun _ _ => id)⟩
end Go.Proofs.Ytffjembeimpdmaa
