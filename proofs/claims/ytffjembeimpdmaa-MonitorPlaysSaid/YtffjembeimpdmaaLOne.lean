/- The walk of MonitorOne. -/
import Derived.Test.YtffjembeimpdmaaKnown
import Derived.Test.YtffjembeimpdmaaLaw
namespace Go.Proofs.Ytffjembeimpdmaa
open Go.RowKit
set_option linter.unusedVariables false

theorem Fr.own1 {w wr w' : World} {b : Nat} (h : Fr Nil w wr) (k : Fr (One b) wr w') (hb : w.heap.size ≤ b) : Fr Nil w w' :=
  h.step k fun _ _ hi => .inr (by rw [hi]; exact hb)
theorem SlInts.keep {k : IntKind} {w w' : World} {a : Option Addr} {len : Nat} {Z : Nat → Int} (h : SlInts k w a len Z) (hf : Fr Nil w w') : SlInts k w' a len Z := by
  intro i hi
  obtain ⟨b, off, ha, hb, hc, hw⟩ := h i hi
  exact ⟨b, off, ha, Nat.lt_of_lt_of_le hb hf.size, (hf.cell (p := ⟨b, off + i, none⟩) hb id).trans hc, hw⟩

theorem after_all {L : Nat → Int} {I : Nat → Bool} {kk : Nat} {q kv : Int} (h0 : 0 ≤ kv) (h1 : kv < 64) (hall : ∀ j, j < 8 → L j = q ∧ I j = true) :
    ∀ j, j < 8 → IA (upd L kk 0) (upd I kk false) kk ((64 * q + kv) / 64) 8 j = false := by
  intro j hj
  have hq : (64 * q + kv) / 64 = q := by omega
  rw [hq]
  by_cases hjk : j = kk
  · subst hjk
    simp [IA, upd]
  · have h2 := hall j hj
    have hjk' : ¬ (j : Int) = (kk : Int) := by omega
    simp [IA, hit, upd, hjk, hjk', h2.1, h2.2, hj]
def OneR1 (w : World) (b : Nat) (ln : Int) (i : Value) (wr : World) : Prop :=
  ∃ k : Nat, k ≤ 8 ∧ i = .int .i64 k ∧ ∃ L I, MonAt wr b 8 L I ∧ (∀ j, j < k → L j = ln ∧ I j = true) ∧ Fr Nil w wr
def OneR2 (w : World) (b : Nat) (ln : Int) (len : Nat) (won i : Value) (wr : World) : Prop :=
  ∃ k : Nat, k ≤ len ∧ i = .int .i64 k ∧ ∃ L I, MonAt wr b 8 L I ∧ Fr Nil w wr ∧
    ((k ≤ 0 ∧ won = .int .i64 0 ∧ ∀ j, j < 8 → L j = ln ∧ I j = true) ∨ (1 ≤ k ∧ won = .int .i64 1 ∧ ∀ j, j < 8 → I j = false))

set_option maxHeartbeats 4000000 in
theorem monitorOne_walk (a0 : Int) (a1 : Option Addr) (len1 cap1 : Nat) (Z1 : Nat → Int) (a2 : Option Addr) (len2 cap2 : Nat) (Z2 : Nat → Int) (w : World) (w0 : (Lit.int .u64 a0).wf = true)
    (l1 : len1 ≤ cap1) (m1 : cap1 ≤ maxLen) (s1 : SlInts .i64 w a1 len1 Z1) (l2 : len2 ≤ cap2) (m2 : cap2 ≤ maxLen) (s2 : SlInts .i64 w a2 len2 Z2) :
    Calls Try.prog 3 #[.int .u64 a0, .slice a1 len1 cap1, .slice a2 len2 cap2] w fun e w' => e = .returned (.bool true) ∧ Below w.heap.size w w' := by
  obtain ⟨g0, g1⟩ := bounds_u64 w0
  clear w0
  unfold maxLen at m1 m2
  go_enter Try.func3, Try.ntmps3
  go_wp2_with fail
  refine (known_ok w).mono ?_
  rintro e w1 ⟨rfl, hf0⟩
  go_wp2_with fail
  refine (new_ok 8 _ (by omega) (by omega)).mono ?_
  rintro e w2 ⟨rfl, rfl⟩
  have hm0 : MonAt (w1.alloc (.cells (cs17 8 (fun _ => 0) (fun _ => false)) 58)) w1.heap.size 8 (fun _ => 0) (fun _ => false) := Blk.new _ _ _
  have hf1 : Fr Nil w (w1.alloc (.cells (cs17 8 (fun _ => 0) (fun _ => false)) 58)) := hf0.alloc _
  have hb : w.heap.size ≤ w1.heap.size := hf0.size
  clear hf0
  generalize (w1.alloc (.cells (cs17 8 (fun _ => 0) (fun _ => false)) 58)) = w2 at *
  generalize w1.heap.size = b at *
  go_wp2_with fail
  have hq0 : a0 - a0 % 64 = 64 * (a0 / 64) := by omega
  have hq1 : 0 ≤ a0 / 64 := by omega
  have hq2 : a0 / 64 ≤ 288230376151711743 := by omega
  rw [hq0]
  clear hq0
  generalize a0 / 64 = q at *
  go_loopw [11] (fun i wr => OneR1 w b q i wr) (fun i _ => 8 - (intOf i).toNat)
  case atStart => exact ⟨0, by omega, rfl, _, _, hm0, fun j hj => absurd hj (by omega), hf1⟩
  case round =>
    obtain ⟨k, hk, rfl, L, I, hm, hall, hfr⟩ := hrel
    clear hm0 hf1
    by_cases hlt : k < 8
    · have hlt' : (k : Int) < 8 := by omega
      go_wp2_with (go_at_call 9; refine (mark_ok b k 8 _ _ _ _ hm (by omega) (by omega) (by omega) (by omega)).mono ?_; rintro e w3 ⟨rfl, hm', hf'⟩)
      have hx : (64 * q + (k : Int) * 8) / 64 = q := by omega
      have Hx := Lib.hid hx
      clear hx
      go_roundw
      case rel =>
        rw [Hx.out] at hm'
        refine ⟨k + 1, by omega, rfl, _, _, hm', ?_, hfr.own1 hf' hb⟩
        intro j hj
        by_cases hjk : j = k
        · subst hjk; exact ⟨upd_same _ _ _, upd_same _ _ _⟩
        · rw [upd_other _ _ hjk, upd_other _ _ hjk]; exact hall j (by omega)
      case measure => simp [intOf]; omega
    · have hk8 : 8 ≤ k := by omega
      have hk8' : 8 ≤ (k : Int) := by omega
      go_wp2_with fail
      go_loopw [12, 13] (fun won i wr => OneR2 w b q len1 won i wr) (fun _ i _ => len1 - (intOf i).toNat)
      case atStart => exact ⟨0, by omega, rfl, L, I, hm, hfr, .inl ⟨Nat.le_refl _, rfl, fun j hj => hall j (by omega)⟩⟩
      case round =>
        obtain ⟨i, hi, rfl, L2, I2, hm2, hfr2, hcase⟩ := hrel
        clear hm hall hfr
        by_cases hlt : i < len1 ∧ i < 30
        · obtain ⟨hlt1, hlt2⟩ := hlt
          have hlt2' : (i : Int) < 30 := by omega
          obtain ⟨b1, o1, rfl, hb1, hc1, hw1⟩ := s1.keep hfr2 i hlt1
          obtain ⟨g2, g3⟩ := bounds_i64 hw1
          clear hw1 s1
          have p0 := pk_lo (Z1 i) 8 (by omega)
          have p1 := pk_hi (Z1 i) 8 (by omega)
          generalize hkk : (pk (Z1 i) 8).toNat = kk
          have ekk : pk (Z1 i) 8 = (kk : Int) := by omega
          rcases hcase with hc | hc
          · obtain ⟨hi0, rfl, hall⟩ := hc
            have hA : ∀ kv : Int, 0 ≤ kv → kv < 64 → (I2 kk && L2 kk == (64 * q + kv) / 64) = true := by
              intro kv h0 h1
              rw [(hall kk (by omega)).1, (hall kk (by omega)).2]
              have : (64 * q + kv) / 64 = q := by omega
              simp [this]
            by_cases h2 : i < len2
            · obtain ⟨b2, o2, rfl, hb2, hc2, hw2⟩ := s2.keep hfr2 i h2
              obtain ⟨g4, g5⟩ := bounds_i64 hw2
              clear hw2 s2
              have p2 := pk_lo (Z2 i) 64 (by omega)
              have p3 := pk_hi (Z2 i) 64 (by omega)
              go_wp2_with fail
              refine (pick_any _ _ _ g2 g3 (by omega) (by omega)).mono ?_
              rintro e w3 ⟨rfl, rfl⟩
              rw [ekk]
              go_wp2_with fail
              refine (pick_any _ _ _ g4 g5 (by omega) (by omega)).mono ?_
              rintro e w3 ⟨rfl, rfl⟩
              generalize pk (Z2 i) 64 = kv at *
              go_wp2_with fail
              refine (take_ok b kk 8 _ _ _ _ hm2 (by omega) (by omega) (by omega) (by omega)).mono ?_
              rintro e w4 ⟨rfl, hm3, hf3⟩
              rw [hA kv (by omega) (by omega)]
              clear hA
              go_wp2_with fail
              refine (wrote_ok b kk 8 _ _ _ _ hm3 (by omega) (by omega) (by omega) (by omega) (by omega)).mono ?_
              rintro e w5 ⟨v, rfl, hown, hm4, hf4⟩
              clear hown
              have hI := after_all (kk := kk) (q := q) (kv := kv) (by omega) (by omega) hall
              have HI := Lib.hid hI
              clear hI hall
              go_wp2_with fail
              go_roundw
              case rel => exact ⟨i + 1, by omega, rfl, _, _, hm4, (hfr2.own1 hf3 hb).own1 hf4 hb, .inr ⟨by omega, rfl, HI.out⟩⟩
              case measure => simp [intOf]; omega
            · go_wp2_with fail
              refine (pick_any _ _ _ g2 g3 (by omega) (by omega)).mono ?_
              rintro e w3 ⟨rfl, rfl⟩
              rw [ekk]
              have hA0 := hA 0 (by omega) (by omega)
              rw [Int.add_zero] at hA0
              go_wp2_with fail
              refine (take_ok b kk 8 _ _ _ _ hm2 (by omega) (by omega) (by omega) (by omega)).mono ?_
              rintro e w4 ⟨rfl, hm3, hf3⟩
              rw [hA0]
              clear hA
              go_wp2_with fail
              refine (wrote_ok b kk 8 _ _ _ _ hm3 (by omega) (by omega) (by omega) (by omega) (by omega)).mono ?_
              rintro e w5 ⟨v, rfl, hown, hm4, hf4⟩
              clear hown
              have hI := after_all (kk := kk) (q := q) (kv := 0) (by omega) (by omega) hall
              rw [Int.add_zero] at hI
              have HI := Lib.hid hI
              clear hI hall
              go_wp2_with fail
              go_roundw
              case rel => exact ⟨i + 1, by omega, rfl, _, _, hm4, (hfr2.own1 hf3 hb).own1 hf4 hb, .inr ⟨by omega, rfl, HI.out⟩⟩
              case measure => simp [intOf]; omega
          · obtain ⟨h1i, rfl, hnone⟩ := hc
            have hB : ∀ x : Bool, (I2 kk && x) = false := by intro x; rw [hnone kk (by omega)]; rfl
            have hN : ∀ j, j < 8 → upd I2 kk false j = false := by
              intro j hj
              by_cases hjk : j = kk
              · subst hjk; exact upd_same _ _ _
              · rw [upd_other _ _ hjk]; exact hnone j hj
            have HN := Lib.hid hN
            clear hN hnone
            by_cases h2 : i < len2
            · obtain ⟨b2, o2, rfl, hb2, hc2, hw2⟩ := s2.keep hfr2 i h2
              obtain ⟨g4, g5⟩ := bounds_i64 hw2
              clear hw2 s2
              have p2 := pk_lo (Z2 i) 64 (by omega)
              have p3 := pk_hi (Z2 i) 64 (by omega)
              go_wp2_with fail
              refine (pick_any _ _ _ g2 g3 (by omega) (by omega)).mono ?_
              rintro e w3 ⟨rfl, rfl⟩
              rw [ekk]
              go_wp2_with fail
              refine (pick_any _ _ _ g4 g5 (by omega) (by omega)).mono ?_
              rintro e w3 ⟨rfl, rfl⟩
              generalize pk (Z2 i) 64 = kv at *
              go_wp2_with fail
              refine (take_ok b kk 8 _ _ _ _ hm2 (by omega) (by omega) (by omega) (by omega)).mono ?_
              rintro e w4 ⟨rfl, hm3, hf3⟩
              rw [hB]
              go_wp2_with fail
              go_roundw
              case rel => exact ⟨i + 1, by omega, rfl, _, _, hm3, hfr2.own1 hf3 hb, .inr ⟨by omega, rfl, HN.out⟩⟩
              case measure => simp [intOf]; omega
            · go_wp2_with fail
              refine (pick_any _ _ _ g2 g3 (by omega) (by omega)).mono ?_
              rintro e w3 ⟨rfl, rfl⟩
              rw [ekk]
              go_wp2_with fail
              refine (take_ok b kk 8 _ _ _ _ hm2 (by omega) (by omega) (by omega) (by omega)).mono ?_
              rintro e w4 ⟨rfl, hm3, hf3⟩
              rw [hB]
              go_wp2_with fail
              go_roundw
              case rel => exact ⟨i + 1, by omega, rfl, _, _, hm3, hfr2.own1 hf3 hb, .inr ⟨by omega, rfl, HN.out⟩⟩
              case measure => simp [intOf]; omega
        · have H := Lib.hid hlt
          clear hlt
          have hlt3 : len1 ≤ i ∨ 30 ≤ i := by have := H.out; omega
          clear H
          rcases hlt3 with h | h
          · rcases hcase with ⟨hi0, rfl, _⟩ | ⟨h1i, rfl, _⟩
            · have h0 : len1 ≤ 0 := by omega
              have h0' : ((len1 : Int) == 0) = true := by simp; omega
              go_wp2_with fail
              go_ret
              exact ⟨rfl, hfr2.below (Nat.le_refl _) (fun _ _ => id)⟩
            · go_wp2_with fail
              go_ret
              exact ⟨rfl, hfr2.below (Nat.le_refl _) (fun _ _ => id)⟩
          · have h' : 30 ≤ (i : Int) := by omega
            rcases hcase with ⟨hi0, rfl, _⟩ | ⟨h1i, rfl, _⟩
            · exfalso; omega
            · go_wp2_with fail
              all_goals go_ret
              all_goals exact ⟨rfl, hfr2.below (Nat.le_refl _) (fun _ _ => id)⟩
end Go.Proofs.Ytffjembeimpdmaa
