/- The walk of MonitorHolds. -/
import Derived.Test.YtffjembeimpdmaaLOne
namespace Go.Proofs.Ytffjembeimpdmaa
open Go.RowKit
set_option linter.unusedVariables false

theorem SlRows.at3 {k0 k1 k2 : IntKind} {w w' : World} {a : Option Addr} {len : Nat} {V : Nat → Nat → Int} (h : SlRows [k0, k1, k2] w a len V) (hf : Fr Nil w w') {i : Nat} (hi : i < len) :
    ∃ b off, a = some ⟨b, off, none⟩ ∧ b < w'.heap.size ∧ w'.cell? ⟨b, off + i * 3, none⟩ = some (.int k0 (V i 0)) ∧ w'.cell? ⟨b, off + i * 3 + 1, none⟩ = some (.int k1 (V i 1)) ∧ w'.cell? ⟨b, off + i * 3 + 2, none⟩ = some (.int k2 (V i 2)) ∧
      (Lit.int k0 (V i 0)).wf = true ∧ (Lit.int k1 (V i 1)).wf = true ∧ (Lit.int k2 (V i 2)).wf = true := by
  obtain ⟨b, off, ha, hb, hc⟩ := h i hi
  have h0 := hc 0 k0 rfl
  have h1 := hc 1 k1 rfl
  have h2 := hc 2 k2 rfl
  refine ⟨b, off, ha, Nat.lt_of_lt_of_le hb hf.size, ?_, ?_, ?_, h0.2, h1.2, h2.2⟩
  · exact (hf.cell (p := ⟨b, off + i * 3, none⟩) hb id).trans h0.1
  · exact (hf.cell (p := ⟨b, off + i * 3 + 1, none⟩) hb id).trans h1.1
  · exact (hf.cell (p := ⟨b, off + i * 3 + 2, none⟩) hb id).trans h2.1

def HoldS (L : Nat → Int) (I : Nat → Bool) (c : Nat) (ln : Int) (h : Bool) : Prop := I c = h ∧ (h = true → L c = ln)
def HoldR (w : World) (b c : Nat) (ln : Int) (len : Nat) (hv i : Value) (wr : World) : Prop :=
  ∃ k : Nat, k ≤ len ∧ i = .int .i64 k ∧ ∃ L I h, MonAt wr b 4 L I ∧ hv = .bool h ∧ HoldS L I c ln h ∧ Fr Nil w wr

theorem hold_other {L : Nat → Int} {I : Nat → Bool} {c t : Nat} {ln : Int} {h : Bool} (hs : HoldS L I c ln h) (ht : c ≠ t) (l : Int) (x : Bool) : HoldS (upd L t l) (upd I t x) c ln h := by
  unfold HoldS
  rw [upd_other _ _ ht, upd_other _ _ ht]
  exact hs
theorem hold_gone {L : Nat → Int} {I : Nat → Bool} {c : Nat} {ln : Int} (l : Int) : HoldS (upd L c l) (upd I c false) c ln false := by
  unfold HoldS
  rw [upd_same]
  exact ⟨rfl, fun h => by cases h⟩
theorem hold_wrote_hit {L : Nat → Int} {I : Nat → Bool} {c t : Nat} {ln : Int} {h : Bool} (hs : HoldS L I c ln h) (hc : c < 8) (ht : c ≠ t) : HoldS (LA L I t ln 8) (IA L I t ln 8) c ln false := by
  obtain ⟨h1, h2⟩ := hs
  have ht' : ¬ (c : Int) = (t : Int) := by omega
  refine ⟨?_, fun h => by cases h⟩
  cases h with
  | true => simp [IA, hit, ht', h1, h2 rfl, hc]
  | false => simp [IA, h1]
theorem hold_wrote_self {L : Nat → Int} {I : Nat → Bool} {c : Nat} {ln ln' : Int} {h : Bool} (hs : HoldS L I c ln h) : HoldS (LA L I c ln' 8) (IA L I c ln' 8) c ln h := by
  obtain ⟨h1, h2⟩ := hs
  exact ⟨by simp [IA, hit, h1], fun h => by simpa [LA, hit] using h2 h⟩
theorem hold_wrote_line {L : Nat → Int} {I : Nat → Bool} {c t : Nat} {ln ln' : Int} {h : Bool} (hs : HoldS L I c ln h) (hl : ¬ ln' = ln) : HoldS (LA L I t ln' 8) (IA L I t ln' 8) c ln h := by
  obtain ⟨h1, h2⟩ := hs
  cases h with
  | false => exact ⟨by simp [IA, h1], fun h => by cases h⟩
  | true =>
    have h3 := h2 rfl
    have hl' : ¬ ln = ln' := fun e => hl e.symm
    exact ⟨by simp [IA, hit, h1, h3, hl'], fun _ => by simp [LA, hit, h3, hl']⟩

set_option maxRecDepth 100000 in
set_option maxHeartbeats 4000000 in
theorem monitorHolds_walk (a0 : Int) (a1 : Option Addr) (len1 cap1 : Nat) (Z1 : Nat → Nat → Int) (a2 : Int) (w : World) (w0 : (Lit.int .u64 a0).wf = true)
    (l1 : len1 ≤ cap1) (m1 : cap1 ≤ maxLen) (s1 : SlRows [.i64, .i64, .u64] w a1 len1 Z1) (w2 : (Lit.int .i64 a2).wf = true) :
    Calls Try.prog 5 #[.int .u64 a0, .slice a1 len1 cap1, .int .i64 a2] w fun e w' => e = .returned (.bool true) ∧ Below w.heap.size w w' := by
  obtain ⟨g0, g1⟩ := bounds_u64 w0
  obtain ⟨g2, g3⟩ := bounds_i64 w2
  clear w0 w2
  unfold maxLen at m1
  have p0 := pk_lo a2 4 (by omega)
  have p1 := pk_hi a2 4 (by omega)
  obtain ⟨c, ec⟩ : ∃ c : Nat, pk a2 4 = (c : Int) := ⟨(pk a2 4).toNat, by omega⟩
  have hc4 : c < 4 := by omega
  have Ec := Lib.hid ec
  clear ec p0 p1
  go_enter Try.func5, Try.ntmps5
  go_wp2_with fail
  refine (known_ok w).mono ?_
  rintro e w1 ⟨rfl, hf0⟩
  go_wp2_with fail
  refine (new_ok 4 _ (by omega) (by omega)).mono ?_
  rintro e w2 ⟨rfl, rfl⟩
  have hm0 : MonAt (w1.alloc (.cells (cs17 4 (fun _ => 0) (fun _ => false)) 58)) w1.heap.size 4 (fun _ => 0) (fun _ => false) := Blk.new _ _ _
  have hf1 : Fr Nil w (w1.alloc (.cells (cs17 4 (fun _ => 0) (fun _ => false)) 58)) := hf0.alloc _
  have hb : w.heap.size ≤ w1.heap.size := hf0.size
  clear hf0
  generalize (w1.alloc (.cells (cs17 4 (fun _ => 0) (fun _ => false)) 58)) = w2 at *
  generalize w1.heap.size = b at *
  go_wp2_with fail
  refine (pick_any _ _ _ g2 g3 (by omega) (by omega)).mono ?_
  rintro e w3 ⟨rfl, rfl⟩
  rw [Ec.out]
  go_wp2_with fail
  refine (mark_ok b c 4 _ _ _ _ hm0 (by omega) (by omega) g0 g1).mono ?_
  rintro e w3 ⟨rfl, hm1, hf2⟩
  have hs0 : HoldS (upd (fun _ => 0) c (a0 / 64)) (upd (fun _ => false) c true) c (a0 / 64) true := ⟨upd_same _ _ _, fun _ => upd_same _ _ _⟩
  have hf3 := hf1.own1 hf2 hb
  clear hm0 hf1 hf2
  go_wp2_with fail
  go_loopw [11, 12] (fun h i wr => HoldR w b c (a0 / 64) len1 h i wr) (fun _ i _ => len1 - (intOf i).toNat)
  case atStart => exact ⟨0, by omega, rfl, _, _, _, hm1, rfl, hs0, hf3⟩
  case round =>
    obtain ⟨i, hi, rfl, L, I, h, hm, rfl, hs, hfr⟩ := hrel
    clear hm1 hs0 hf3
    by_cases hlt : i < len1 ∧ i < 100
    · obtain ⟨hlt1, hlt2⟩ := hlt
      have hlt2' : (i : Int) < 100 := by omega
      obtain ⟨b1, o1, rfl, hb1, c0, c1, c2, e0, e1, e2⟩ := s1.at3 hfr hlt1
      obtain ⟨x0, x1⟩ := bounds_i64 e1
      obtain ⟨x2, x3⟩ := bounds_u64 e2
      clear s1 e0 e1 e2
      generalize Z1 i 0 = kd at *
      generalize Z1 i 1 = cr at *
      generalize Z1 i 2 = ad at *
      have p0 := pk_lo cr 4 (by omega)
      have p1 := pk_hi cr 4 (by omega)
      obtain ⟨wh, ew⟩ : ∃ c : Nat, pk cr 4 = (c : Int) := ⟨(pk cr 4).toNat, by omega⟩
      have hw4 : wh < 4 := by omega
      have Ew := Lib.hid ew
      clear ew p0 p1
      obtain ⟨t, et⟩ : ∃ t : Nat, ((c : Int) + 1 + (wh : Int) % 3) % 4 = (t : Int) := ⟨(((c : Int) + 1 + (wh : Int) % 3) % 4).toNat, by omega⟩
      have ht4 : t < 4 := by omega
      have htc : c ≠ t := by omega
      have Et := Lib.hid et
      clear et
      go_wp2_with fail
      refine (pick_any _ _ _ x0 x1 (by omega) (by omega)).mono ?_
      rintro e w4 ⟨rfl, rfl⟩
      rw [Ew.out]
      by_cases k1 : kd = 1
      · subst k1
        go_wp2_with fail
        rw [Et.out]
        refine (mark_ok b t 4 _ _ _ _ (Blk.alloc hm _) (by omega) (by omega) x2 x3).mono ?_
        rintro e w5 ⟨rfl, hm', hf'⟩
        go_wp2_with fail
        go_roundw
        case rel => exact ⟨i + 1, by omega, rfl, _, _, _, hm', rfl, hold_other hs htc _ _, (hfr.alloc _).own1 hf' hb⟩
        case measure => simp [intOf]; omega
      by_cases k2 : kd = 2
      · subst k2
        clear k1
        by_cases wc : wh = c
        · subst wc
          go_wp2_with fail
          refine (clear_ok b wh 4 _ _ _ (Blk.alloc hm _) (by omega) (by omega)).mono ?_
          rintro e w5 ⟨rfl, hm', hf'⟩
          go_wp2_with fail
          go_roundw
          case rel => exact ⟨i + 1, by omega, rfl, _, _, _, hm', rfl, hold_gone _, (hfr.alloc _).own1 hf' hb⟩
          case measure => simp [intOf]; omega
        · have wb : ((wh : Int) == (c : Int)) = false := by simp; omega
          have wb' : ((wh : Int) != (c : Int)) = true := by simp; omega
          have wc' : c ≠ wh := Ne.symm wc
          go_wp2_with fail
          refine (clear_ok b wh 4 _ _ _ (Blk.alloc hm _) (by omega) (by omega)).mono ?_
          rintro e w5 ⟨rfl, hm', hf'⟩
          go_wp2_with fail
          go_roundw
          case rel => exact ⟨i + 1, by omega, rfl, _, _, _, hm', rfl, hold_other hs wc' _ _, (hfr.alloc _).own1 hf' hb⟩
          case measure => simp [intOf]; omega
      by_cases k3 : kd = 3
      · subst k3
        clear k1 k2
        by_cases wc : wh = c
        · subst wc
          go_wp2_with fail
          refine (wrote_ok b wh 4 _ _ _ _ (Blk.alloc hm _) (by omega) (by omega) (by omega) x2 x3).mono ?_
          rintro e w5 ⟨v, rfl, hown, hm', hf'⟩
          clear hown
          go_wp2_with fail
          go_roundw
          case rel => exact ⟨i + 1, by omega, rfl, _, _, _, hm', rfl, hold_wrote_self hs, (hfr.alloc _).own1 hf' hb⟩
          case measure => simp [intOf]; omega
        · have wb' : ((wh : Int) != (c : Int)) = true := by simp; omega
          have wc' : c ≠ wh := Ne.symm wc
          by_cases hl : ad / 64 = a0 / 64
          · have hl' : (ad / 64 == a0 / 64) = true := by simp [hl]
            have Hl := Lib.hid hl
            clear hl
            go_wp2_with fail
            refine (wrote_ok b wh 4 _ _ _ _ (Blk.alloc hm _) (by omega) (by omega) (by omega) x2 x3).mono ?_
            rintro e w5 ⟨v, rfl, hown, hm', hf'⟩
            clear hown
            go_wp2_with fail
            go_roundw
            case rel => exact ⟨i + 1, by omega, rfl, _, _, _, hm', rfl, by rw [Hl.out]; exact hold_wrote_hit hs (by omega) wc', (hfr.alloc _).own1 hf' hb⟩
            case measure => simp [intOf]; omega
          · have hl' : (ad / 64 == a0 / 64) = false := by simp [hl]
            go_wp2_with fail
            refine (wrote_ok b wh 4 _ _ _ _ (Blk.alloc hm _) (by omega) (by omega) (by omega) x2 x3).mono ?_
            rintro e w5 ⟨v, rfl, hown, hm', hf'⟩
            clear hown
            go_wp2_with fail
            go_roundw
            case rel => exact ⟨i + 1, by omega, rfl, _, _, _, hm', rfl, hold_wrote_line hs hl, (hfr.alloc _).own1 hf' hb⟩
            case measure => simp [intOf]; omega
      by_cases k4 : kd = 4
      · subst k4
        clear k1 k2 k3
        by_cases wc : wh = c
        · subst wc
          go_wp2_with fail
          refine (take_ok b wh 4 _ _ _ _ (Blk.alloc hm _) (by omega) (by omega) x2 x3).mono ?_
          rintro e w5 ⟨rfl, hm', hf'⟩
          go_wp2_with fail
          go_roundw
          case rel => exact ⟨i + 1, by omega, rfl, _, _, _, hm', rfl, hold_gone _, (hfr.alloc _).own1 hf' hb⟩
          case measure => simp [intOf]; omega
        · have wb : ((wh : Int) == (c : Int)) = false := by simp; omega
          have wb' : ((wh : Int) != (c : Int)) = true := by simp; omega
          have wc' : c ≠ wh := Ne.symm wc
          go_wp2_with fail
          refine (take_ok b wh 4 _ _ _ _ (Blk.alloc hm _) (by omega) (by omega) x2 x3).mono ?_
          rintro e w5 ⟨rfl, hm', hf'⟩
          go_wp2_with fail
          go_roundw
          case rel => exact ⟨i + 1, by omega, rfl, _, _, _, hm', rfl, hold_other hs wc' _ _, (hfr.alloc _).own1 hf' hb⟩
          case measure => simp [intOf]; omega
      · go_wp2_with fail
        go_roundw
        case rel => exact ⟨i + 1, by omega, rfl, _, _, _, Blk.alloc hm _, rfl, hs, hfr.alloc _⟩
        case measure => simp [intOf]; omega
    · have H := Lib.hid hlt
      clear hlt
      have hlt3 : len1 ≤ i ∨ 100 ≤ i := by have := H.out; omega
      clear H
      have er : (I c && L c == a0 / 64) = h := by
        obtain ⟨h1, h2⟩ := hs
        cases h with
        | false => rw [h1]; rfl
        | true => rw [h1, h2 rfl]; simp
      have er2 : ∀ x : Bool, (upd I c false c && x) = false := by intro x; rw [upd_same]; rfl
      have Er := Lib.hid er
      have Er2 := Lib.hid er2
      clear er er2
      rcases hlt3 with hx | hx
      · go_wp2_with fail
        refine (take_ok b c 4 _ _ _ _ hm (by omega) (by omega) g0 g1).mono ?_
        rintro e w5 ⟨rfl, hm5, hf5⟩
        rw [Er.out]
        go_wp2_with fail
        refine (take_ok b c 4 _ _ _ _ hm5 (by omega) (by omega) g0 g1).mono ?_
        rintro e w6 ⟨rfl, hm6, hf6⟩
        rw [Er2.out]
        have hfin := Fr.below ((hfr.own1 hf5 hb).own1 hf6 hb) (Nat.le_refl _) (fun _ _ => id)
        go_wp2
        go_ret
        exact ⟨by simp, hfin⟩
      · have hx' : 100 ≤ (i : Int) := by omega
        by_cases hx2 : i < len1
        · have hx3 : (i : Int) < len1 := by omega
          go_wp2_with fail
          refine (take_ok b c 4 _ _ _ _ hm (by omega) (by omega) g0 g1).mono ?_
          rintro e w5 ⟨rfl, hm5, hf5⟩
          rw [Er.out]
          go_wp2_with fail
          refine (take_ok b c 4 _ _ _ _ hm5 (by omega) (by omega) g0 g1).mono ?_
          rintro e w6 ⟨rfl, hm6, hf6⟩
          rw [Er2.out]
          have hfin := Fr.below ((hfr.own1 hf5 hb).own1 hf6 hb) (Nat.le_refl _) (fun _ _ => id)
          go_wp2
          go_ret
          exact ⟨by simp, hfin⟩
        · go_wp2_with fail
          refine (take_ok b c 4 _ _ _ _ hm (by omega) (by omega) g0 g1).mono ?_
          rintro e w5 ⟨rfl, hm5, hf5⟩
          rw [Er.out]
          go_wp2_with fail
          refine (take_ok b c 4 _ _ _ _ hm5 (by omega) (by omega) g0 g1).mono ?_
          rintro e w6 ⟨rfl, hm6, hf6⟩
          rw [Er2.out]
          have hfin := Fr.below ((hfr.own1 hf5 hb).own1 hf6 hb) (Nat.le_refl _) (fun _ _ => id)
          go_wp2
          go_ret
          exact ⟨by simp, hfin⟩
end Go.Proofs.Ytffjembeimpdmaa
