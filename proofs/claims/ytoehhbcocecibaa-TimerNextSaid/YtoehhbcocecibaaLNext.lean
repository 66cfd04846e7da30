/- TimerNext, walked (lines printed by gen_next.py). -/
import Derived.Test.YtoehhbcocecibaaLAdds
namespace Go.Proofs.Ytoehhbcocecibaa
open Go.RowKit
set_option linter.unusedVariables false
set_option maxRecDepth 100000

theorem TM.far {w w1 w2 : World} {b r B : Nat} {s : Ts} (h : TM w b r s w1) (hf : Fr (One B) w1 w2) (hB : w.heap.size ≤ B) (n1 : b ≠ B) (n2 : r ≠ B) : TM w b r s w2 :=
  ⟨h.mem.fr hf n1 n2, h.fr.step hf fun i _ hi => .inr (by rw [show i = B from hi]; exact hB), h.lb, h.lr, h.right⟩
theorem hiB_nat (s : Ts) (i : Nat) (hi : i < s.n) : hiB s (i : Int) = (decide (s.c i = 1) && decide (s.v i ≤ s.t)) := by
  unfold hiB
  rw [Int.toNat_natCast, decide_eq_true (show (0 : Int) ≤ (i : Int) ∧ (i : Int) < (s.n : Int) by omega), Bool.true_and]
/-- Just when it was told. -/
theorem next_law {s : Ts} (hr : Right s) {k : Nat} (hk : k < s.n) (hc : candB s k = true) (hm : ∀ i, i < s.n → candB s i = true → ltM (s.v i, (i : Int)) (s.v k, (k : Int)) = false) :
    1 ≤ s.v k - s.t ∧ s.v k - s.t ≤ 18446744073709551615 ∧ IntKind.u64.wrap (s.t + (s.v k - s.t - 1)) = s.v k - 1 ∧ IntKind.u64.wrap (s.v k - 1 + 1) = s.v k ∧ (∀ i, i < s.n → hiB { s with t := s.v k - 1 } ((i : Nat) : Int) = hiB s ((i : Nat) : Int)) ∧
      (∀ i, i < k → hiB { s with t := s.v k } ((i : Nat) : Int) = hiB s ((i : Nat) : Int)) ∧ hiB { s with t := s.v k } ((k : Nat) : Int) = true ∧ hiB s ((k : Nat) : Int) = false := by
  have h0 := hr.t0
  have h1 := hr.t1
  have h2 := hr.v0 k hk
  have h3 := hr.v1 k hk
  unfold candB at hc
  simp only [Bool.and_eq_true, decide_eq_true_eq] at hc
  obtain ⟨hc1, hc2⟩ := hc
  have key : ∀ i, i < s.n → s.c i = 1 → s.t < s.v i → s.v k < s.v i ∨ s.v k = s.v i ∧ k ≤ i := by
    intro i hi c v
    have := hm i hi (by unfold candB; simp [c, v])
    simp only [ltM, decide_eq_false_iff_not] at this
    omega
  refine ⟨by omega, by omega, by rw [IntKind.wrap_u64]; omega, by rw [IntKind.wrap_u64]; omega, fun i hi => ?_, fun i hi => ?_, ?_, ?_⟩
  · rw [hiB_nat _ _ (show i < ({ s with t := s.v k - 1 } : Ts).n from hi), hiB_nat _ _ hi]
    show (decide (s.c i = 1) && decide (s.v i ≤ s.v k - 1)) = _
    by_cases c : s.c i = 1
    · have := key i hi c
      congr 1
      refine decide_eq_decide.2 ⟨fun h => ?_, fun h => by omega⟩
      by_cases v : s.t < s.v i
      · have := this v; omega
      · omega
    · simp [c]
  · have hi' : i < s.n := by omega
    rw [hiB_nat _ _ (show i < ({ s with t := s.v k } : Ts).n from hi'), hiB_nat _ _ hi']
    show (decide (s.c i = 1) && decide (s.v i ≤ s.v k)) = _
    by_cases c : s.c i = 1
    · have := key i hi' c
      congr 1
      refine decide_eq_decide.2 ⟨fun h => ?_, fun h => by omega⟩
      by_cases v : s.t < s.v i
      · have := this v; omega
      · omega
    · simp [c]
  · rw [hiB_nat _ _ (show k < ({ s with t := s.v k } : Ts).n from hk)]
    show (decide (s.c k = 1) && decide (s.v k ≤ s.v k)) = true
    simp [hc1]
  · rw [hiB_nat _ _ hk]
    simp [hc1]; omega
def wasA (s : Ts) (c : Nat) : Array Value := ((List.range 8).map fun i => Value.bool (decide (i < c) && hiB s (i : Int))).toArray
theorem wasA_get (s : Ts) (c i : Nat) (hi : i < 8) : (wasA s c)[i]? = some (.bool (decide (i < c) && hiB s (i : Int))) := by
  unfold wasA
  rw [List.getElem?_toArray, List.getElem?_map, List.getElem?_range hi]
  rfl
theorem wasA_set (s : Ts) (c : Nat) : (wasA s c).setIfInBounds c (.bool (hiB s (c : Int))) = wasA s (c + 1) := by
  unfold wasA
  rw [map_range_set]
  congr 1
  refine List.map_congr_left fun i _ => ?_
  by_cases h : i = c
  · subst h; rw [upd_same]; simp
  · rw [upd_other _ _ h]
    have : decide (i < c) = decide (i < c + 1) := decide_eq_decide.2 (by omega)
    rw [this]
theorem wasA_zero (s : Ts) : wasA s 0 = #[.bool false, .bool false, .bool false, .bool false, .bool false, .bool false, .bool false, .bool false] := by
  unfold wasA
  simp [List.range_succ]
set_option maxHeartbeats 8000000 in
theorem timerNext_walk (cores : Int) (a1 : Option Addr) (len cap : Nat) (V : Nat → Nat → Int) (w : World) (w1 : (Lit.int .i64 cores).wf = true) (hl : len ≤ cap) (hcap : cap ≤ maxLen) (hs : SlRows [.i64, .i64, .i64, .u64] w a1 len V) :
    Calls Try.prog 4 #[.int .i64 cores, .slice a1 len cap] w fun e w' => e = .returned (.bool true) ∧ Below w.heap.size w w' := by
  obtain ⟨c0, c1⟩ := i64_rng w1
  have HS := Lib.hid hs
  have hlen : (len : Int) ≤ 9223372036854775807 := by simp only [maxLen] at hcap; omega
  obtain ⟨D, hD⟩ : ∃ D : Nat, np cores % 8 = (D : Int) := ⟨(np cores % 8).toNat, by omega⟩
  have d0 : (0 : Int) ≤ (D : Int) := by omega
  have d8 : (D : Int) < 8 := by omega
  have DN := Lib.hid (show D < 8 by omega)
  clear hs hl hcap w1
  by_cases hn : cores < 0
  · have hnp : np cores = -(cores + 1) := by unfold np; rw [if_pos hn]
    have ht : -((cores + 1).tmod 8) = (D : Int) := by rw [← hD, hnp, ← Int.neg_tmod, Int.tmod_eq_emod_of_nonneg (by omega)]
    clear hD hnp
    go_enter Try.func4, Try.ntmps4
    go_wp2_with fail
    refine (known_ok w).mono ?_
    rintro e wa ⟨rfl, f0⟩
    have F0 := Lib.hid f0
    clear f0
    go_wp2_with fail
    refine (new_ok (1 + D) (z := 1 + (D : Int)) wa (by omega) (by omega) (by have := DN.out; omega)).mono ?_
    rintro e wb ⟨b, r, rfl, t0⟩
    have T2 := Lib.hid t0
    clear t0 ht hn c0 c1
    go_wp2_with fail
    go_loopw [8] (fun i wr => ∃ (k : Nat) (s : Ts), i = .int .i64 (k : Int) ∧ k ≤ 60 ∧ k ≤ len ∧ TM wa b r s wr ∧ s.n = 1 + D) (fun i _ => 60 - (intOf i).toNat)
    case atStart => exact ⟨0, _, rfl, by omega, by omega, T2.out, rfl⟩
    case round =>
      obtain ⟨k, s, rfl, hk1, hk2, mn, sn⟩ := hrel
      have MN := Lib.hid mn
      have SN := Lib.hid sn
      clear mn sn T2
      by_cases hgo : k < len ∧ k < 60
      · obtain ⟨hkl, hk60⟩ := hgo
        obtain ⟨bs, off, ha, hbs, hcell⟩ := HS.out k hkl
        have hbs2 : bs < wa.heap.size := Nat.lt_of_lt_of_le hbs F0.out.size
        have hcr : ∀ j, wr.cell? ⟨bs, off + k * 4 + j, none⟩ = w.cell? ⟨bs, off + k * 4 + j, none⟩ := fun j => (MN.out.fr.cell (p := ⟨bs, off + k * 4 + j, none⟩) hbs2 id).trans (F0.out.cell (p := ⟨bs, off + k * 4 + j, none⟩) hbs id)
        have q0 : wr.cell? ⟨bs, off + k * 4, none⟩ = some (.int .i64 (V k 0)) := (hcr 0).trans (hcell 0 .i64 rfl).1
        have q1 : wr.cell? ⟨bs, off + k * 4 + 1, none⟩ = some (.int .i64 (V k 1)) := (hcr 1).trans (hcell 1 .i64 rfl).1
        have q2 : wr.cell? ⟨bs, off + k * 4 + 2, none⟩ = some (.int .i64 (V k 2)) := (hcr 2).trans (hcell 2 .i64 rfl).1
        have q3 : wr.cell? ⟨bs, off + k * 4 + 3, none⟩ = some (.int .u64 (V k 3)) := (hcr 3).trans (hcell 3 .u64 rfl).1
        obtain ⟨z0, z1⟩ := i64_rng (hcell 2 .i64 rfl).2
        obtain ⟨x0, x1⟩ := u64_rng (hcell 3 .u64 rfl).2
        have KL := Lib.hid hkl
        have K60 := Lib.hid hk60
        have hk60' : (k : Int) < 60 := by omega
        have hkl' : (k : Int) < (len : Int) := by omega
        have k0 : (0 : Int) ≤ (k : Int) := by omega
        subst ha
        have hkeep : ∀ w', Fr Nil wa w' → w'.cell? ⟨bs, off + k * 4 + 1, none⟩ = some (.int .i64 (V k 1)) ∧ w'.cell? ⟨bs, off + k * 4 + 2, none⟩ = some (.int .i64 (V k 2)) ∧ w'.cell? ⟨bs, off + k * 4 + 3, none⟩ = some (.int .u64 (V k 3)) ∧ Fr Nil wa w' := fun w' h1 =>
          ⟨((h1.cell (p := ⟨bs, off + k * 4 + 1, none⟩) hbs2 id).trans (F0.out.cell (p := ⟨bs, off + k * 4 + 1, none⟩) hbs id)).trans (hcell 1 .i64 rfl).1, ((h1.cell (p := ⟨bs, off + k * 4 + 2, none⟩) hbs2 id).trans (F0.out.cell (p := ⟨bs, off + k * 4 + 2, none⟩) hbs id)).trans (hcell 2 .i64 rfl).1, ((h1.cell (p := ⟨bs, off + k * 4 + 3, none⟩) hbs2 id).trans (F0.out.cell (p := ⟨bs, off + k * 4 + 3, none⟩) hbs id)).trans (hcell 3 .u64 rfl).1, h1⟩
        clear hcell hbs hbs2 hcr hk1 hk2
        have CS := Lib.hid (fun w' => sys_ok (V k 2) w' z0 z1)
        have X0 := Lib.hid x0
        have X1 := Lib.hid x1
        clear z0 z1 x0 x1
        generalize V k 0 = kind at *
        generalize V k 1 = core at *
        generalize V k 2 = sn at *
        generalize V k 3 = x at *
        have HKK := Lib.hid hkeep
        clear hkeep
        by_cases h2 : kind = 2
        · subst h2
          go_upto_region 13 with fail
          go_region_held3 (fun w' => w'.cell? ⟨bs, off + k * 4 + 1, none⟩ = some (.int .i64 core) ∧ w'.cell? ⟨bs, off + k * 4 + 2, none⟩ = some (.int .i64 sn) ∧ w'.cell? ⟨bs, off + k * 4 + 3, none⟩ = some (.int .u64 x) ∧ Fr Nil wa w') (first | exact HKK.out _ MN.out.fr.drew | exact HKK.out _ M2.fr | exact HKK.out _ M3.fr) (first | (go_at_call 10; refine (CS.out _).mono ?_; rintro e w2 ⟨rfl, f2⟩; have M2 := (MN.out.still (Fr.refl Nil _).drew).still f2) | (go_at_call 14; refine (M2.write core (sysV sn) x X0.out X1.out rfl).mono ?_; rintro e w3 ⟨rfl, M3, f3⟩) | fail)
          have N3 := Lib.hid M3
          clear M3 f3 f2 M2 MN
          go_wp2_with fail
          go_roundw
          case rel => exact ⟨k + 1, _, by simp, K60.out, KL.out, N3.out, (wrS_nt _ _ _ _).1.trans SN.out⟩
          case measure => have := K60.out; simp [intOf]; omega
        · have h2' : (kind == 2) = false := by simpa using h2
          by_cases h3 : kind = 3
          · subst h3
            have CT := Lib.hid (MN.out.tick x)
            clear h2 h2' q1 q2 CS HKK
            go_wp2_with fail
            refine CT.out.mono ?_
            rintro e w5 ⟨rfl, m5, f5⟩
            have M5 := Lib.hid m5
            clear m5 f5 CT q0
            go_wp2_with fail
            go_roundw
            case rel => exact ⟨k + 1, _, by simp, K60.out, KL.out, M5.out, SN.out⟩
            case measure => have := K60.out; simp [intOf]; omega
          · have h3' : (kind == 3) = false := by simpa using h3
            clear h2 h3 q1 q2 q3 CS HKK
            go_wp2_with fail
            go_roundw
            case rel => exact ⟨k + 1, s, by simp, K60.out, KL.out, MN.out, SN.out⟩
            case measure => have := K60.out; simp [intOf]; omega
      · have hx : (k < len ∧ k = 60) ∨ k = len := by omega
        have NX := Lib.hid MN.out.next
        clear hgo HS MN
        rcases hx with ⟨hkl, rfl⟩ | rfl
        · have hkl' : (60 : Int) < (len : Int) := by omega
          clear hk1 hk2 hkl
          go_wp2_with fail
          refine NX.out.mono ?_
          rintro e wn ⟨x, y, z, nr, rfl, mm, _⟩
          have MM := Lib.hid mm
          clear mm NX
          rcases nr with ⟨rfl, rfl, rfl, _⟩ | ⟨c, hc, hcd, hmin, rfl, hy, rfl⟩
          · have FF := Lib.hid MM.out.fr
            clear MM
            go_wp2_with fail
            go_ret
            exact ⟨rfl, (F0.out.trans FF.out).bel⟩
          · obtain ⟨l1, l2, l3, l4, l5, l6, l7, l8⟩ := next_law MM.out.right hc hcd hmin
            rw [← hy] at l1 l2 l3
            have HY := Lib.hid hy
            have L3 := Lib.hid l3
            have L4 := Lib.hid l4
            have L5 := Lib.hid l5
            have L6 := Lib.hid l6
            have L7 := Lib.hid l7
            have L8 := Lib.hid l8
            have hc8 : (c : Int) < 8 := by have := SN.out; have := DN.out; omega
            have c0 : (0 : Int) ≤ (c : Int) := by omega
            have cD : (c : Int) < 1 + (D : Int) := by have := SN.out; omega
            have cD2 : decide (1 + (D : Int) ≤ (c : Int)) = false := decide_eq_false (by omega)
            have y1 : IntKind.u64.wrap (y - 1) = y - 1 := by rw [IntKind.wrap_u64]; omega
            have y0 : (y == 0) = false := by simp; omega
            have HC := Lib.hid hc
            clear hy l3 l4 l5 l6 l7 l8 hcd hmin l1 l2 hc
            go_upto_region 20 with fail
            have hB : Blk (wn.alloc (.cells #[.bool false, .bool false, .bool false, .bool false, .bool false, .bool false, .bool false, .bool false] 49)) wn.heap.size 49 (wasA s 0) := (Blk.new wn 49 _).cast (wasA_zero s).symm
            have MA := MM.out.still ((Fr.refl Nil wn).alloc (.cells #[.bool false, .bool false, .bool false, .bool false, .bool false, .bool false, .bool false, .bool false] 49))
            have nb : b ≠ wn.heap.size := by have := MM.out.mem.top.lt; omega
            have nr : r ≠ wn.heap.size := by have := MM.out.mem.regs.lt; omega
            have lB : wa.heap.size ≤ wn.heap.size := MM.out.fr.size
            generalize (wn.alloc (.cells #[.bool false, .bool false, .bool false, .bool false, .bool false, .bool false, .bool false, .bool false] 49)) = wz at *
            generalize wn.heap.size = B at *
            have HB := Lib.hid hB
            have HM := Lib.hid MA
            have NB := Lib.hid (And.intro lB (And.intro nb nr))
            clear hB MA nb nr lB MM
            go_wp2_with fail
            go_loopw [13] (fun i wr2 => ∃ j : Nat, i = .int .i64 (j : Int) ∧ j ≤ 1 + D ∧ TM wa b r s wr2 ∧ Blk wr2 B 49 (wasA s j)) (fun i _ => 8 - (intOf i).toNat)
            case atStart => exact ⟨0, rfl, by omega, HM.out, HB.out⟩
            case round =>
              obtain ⟨j, rfl, hj, m2, b2⟩ := hrel
              have M2 := Lib.hid m2
              have B2 := Lib.hid b2
              clear m2 b2 HM HB
              by_cases hjl : j < 1 + D
              · have j0 : (0 : Int) ≤ (j : Int) := by omega
                have j1 : (j : Int) < 1 + (D : Int) := by omega
                have j8 : (j : Int) < 8 := by have := DN.out; omega
                have J8 := Lib.hid (show j < 8 by have := DN.out; omega)
                have JL := Lib.hid hjl
                have CH := Lib.hid (M2.out.high (j : Int) rfl)
                clear hjl hj
                go_wp2_with fail
                refine CH.out.mono ?_
                rintro e w5 ⟨rfl, m5, f5⟩
                have B5 := Lib.hid (B2.out.fr f5 id)
                have M5 := Lib.hid m5
                have g1 := B5.out.cellv (wasA_get s j j J8.out)
                have g2 := B5.out.frozen j
                clear m5 f5 CH B2 M2
                generalize hh : hiB s (j : Int) = hv at *
                have HH := Lib.hid hh
                clear hh
                go_wp2_with fail
                go_roundw
                case rel => exact ⟨j + 1, by simp, JL.out, M5.out.far ((Fr.refl (One B) _).set1 _) NB.out.1 NB.out.2.1 NB.out.2.2, by have := B5.out.set_ j (.bool hv); rw [← HH.out, wasA_set] at this; rw [← HH.out]; exact this⟩
                case measure => have := J8.out; simp [intOf]; omega
              · have hje : j = 1 + D := by omega
                subst hje
                have j1 : 1 + (D : Int) ≤ ((1 + D : Nat) : Int) := by omega
                have q := B2.out.cellv (wasA_get s (1 + D) c (by omega))
                rw [L8.out, Bool.and_false] at q
                have ct := M2.out.tick (y - 1)
                rw [L3.out] at ct
                have CT := Lib.hid ct
                clear ct hjl hj
                go_wp2_with fail
                refine CT.out.mono ?_
                rintro e w5 ⟨rfl, m5, f5⟩
                have M5 := Lib.hid m5
                have B5 := Lib.hid (B2.out.fr f5 (fun h => h.elim (fun h => NB.out.2.1 h.symm) (fun h => NB.out.2.2 h.symm)))
                clear m5 f5 CT B2 M2 q
                go_wp2_with fail
                go_loopw [14] (fun i wr3 => ∃ i3 : Nat, i = .int .i64 (i3 : Int) ∧ i3 ≤ 1 + D ∧ TM wa b r { s with t := s.v c - 1 } wr3 ∧ Blk wr3 B 49 (wasA s (1 + D))) (fun i _ => 8 - (intOf i).toNat)
                case atStart => exact ⟨0, rfl, by omega, M5.out, B5.out⟩
                case round =>
                  obtain ⟨i3, rfl, hi3, m3, b3⟩ := hrel
                  have M3 := Lib.hid m3
                  have B3 := Lib.hid b3
                  clear m3 b3 M5 B5
                  by_cases hil : i3 < 1 + D
                  · have i0 : (0 : Int) ≤ (i3 : Int) := by omega
                    have i1 : (i3 : Int) < 1 + (D : Int) := by omega
                    have i8 : (i3 : Int) < 8 := by have := DN.out; omega
                    have I8 := Lib.hid (show i3 < 8 by have := DN.out; omega)
                    have IL := Lib.hid hil
                    have ch := M3.out.high (i3 : Int) (L5.out i3 (by have := SN.out; omega))
                    have hq : ∀ w', Fr Nil wr w' → w'.cell? ⟨B, i3, none⟩ = some (.bool (hiB s (i3 : Int))) := fun w' h => by
                      have := (B3.out.fr h id).cellv (wasA_get s (1 + D) i3 I8.out)
                      rwa [decide_eq_true IL.out, Bool.true_and] at this
                    clear hil hi3
                    have hch : ∀ w', Fr Nil wr w' → Calls Try.prog 17 #[.pointer (some ⟨b, 0, none⟩), .int .i64 (i3 : Int)] w' (Rd wa b r { s with t := s.v c - 1 } w' (.bool (hiB s (i3 : Int)))) := fun w' h => (M3.out.still h).high (i3 : Int) (L5.out i3 (by have := SN.out; have := IL.out; omega))
                    have HCH := Lib.hid hch
                    have HQ := Lib.hid hq
                    clear ch hch hq
                    generalize hiB s (i3 : Int) = hv at *
                    go_upto_region 30 with fail
                    go_region_held3 (fun w' => w'.cell? ⟨B, i3, none⟩ = some (.bool hv) ∧ Fr Nil wr w') (first | exact ⟨HQ.out _ (Fr.refl Nil _).drew, (Fr.refl Nil _).drew⟩ | exact ⟨HQ.out _ G5, G5⟩) (first | (go_at_call 17; refine (HCH.out _ (Fr.refl Nil _).drew).mono ?_; rintro e w5 ⟨rfl, m5, f5⟩; have G5 := ((Fr.refl Nil wr).drew).trans f5) | fail)
                    have G6 := Lib.hid G5
                    clear G5 m5 f5
                    go_wp2_with fail
                    go_roundw
                    case rel => exact ⟨i3 + 1, by simp, IL.out, M3.out.still G6.out, B3.out.fr G6.out id⟩
                    case measure => have := I8.out; simp [intOf]; omega
                  · have hie : i3 = 1 + D := by omega
                    subst hie
                    have i1 : 1 + (D : Int) ≤ ((1 + D : Nat) : Int) := by omega
                    have ct := M3.out.tick 1
                    rw [show IntKind.u64.wrap (({ s with t := s.v c - 1 } : Ts).t + 1) = s.v c from L4.out] at ct
                    have CT := Lib.hid ct
                    clear ct hil hi3
                    go_wp2_with fail
                    refine CT.out.mono ?_
                    rintro e w5 ⟨rfl, m5', f5⟩
                    have m5 : TM wa b r { s with t := s.v c } w5 := m5'
                    have M5 := Lib.hid m5
                    have B5 := Lib.hid (B3.out.fr f5 (fun h => h.elim (fun h => NB.out.2.1 h.symm) (fun h => NB.out.2.2 h.symm)))
                    clear m5 m5' f5 CT B3 M3
                    go_wp2_with fail
                    go_loopw [15] (fun i wr4 => ∃ i4 : Nat, i = .int .i64 (i4 : Int) ∧ i4 ≤ c ∧ TM wa b r { s with t := s.v c } wr4 ∧ Blk wr4 B 49 (wasA s (1 + D))) (fun i _ => 8 - (intOf i).toNat)
                    case atStart => exact ⟨0, rfl, by omega, M5.out, B5.out⟩
                    case round =>
                      obtain ⟨i4, rfl, hi4, m4, b4⟩ := hrel
                      have M4 := Lib.hid m4
                      have B4 := Lib.hid b4
                      clear m4 b4 M5 B5
                      by_cases hil : i4 < c
                      · have i0 : (0 : Int) ≤ (i4 : Int) := by omega
                        have i1' : (i4 : Int) < (c : Int) := by omega
                        have i8 : (i4 : Int) < 8 := by omega
                        have I8 := Lib.hid (show i4 < 8 by omega)
                        have IL := Lib.hid hil
                        have hq : ∀ w', Fr Nil wr w' → w'.cell? ⟨B, i4, none⟩ = some (.bool (hiB s (i4 : Int))) := fun w' h => by
                          have := (B4.out.fr h id).cellv (wasA_get s (1 + D) i4 I8.out)
                          rwa [decide_eq_true (show i4 < 1 + D by have := IL.out; omega), Bool.true_and] at this
                        have hch : ∀ w', Fr Nil wr w' → Calls Try.prog 17 #[.pointer (some ⟨b, 0, none⟩), .int .i64 (i4 : Int)] w' (Rd wa b r { s with t := s.v c } w' (.bool (hiB s (i4 : Int)))) := fun w' h => (M4.out.still h).high (i4 : Int) (L6.out i4 IL.out)
                        clear hil hi4
                        have HCH := Lib.hid hch
                        have HQ := Lib.hid hq
                        clear hch hq
                        generalize hiB s (i4 : Int) = hv at *
                        go_upto_region 36 with fail
                        go_region_held3 (fun w' => w'.cell? ⟨B, i4, none⟩ = some (.bool hv) ∧ Fr Nil wr w') (first | exact ⟨HQ.out _ (Fr.refl Nil _).drew, (Fr.refl Nil _).drew⟩ | exact ⟨HQ.out _ G5, G5⟩) (first | (go_at_call 17; refine (HCH.out _ (Fr.refl Nil _).drew).mono ?_; rintro e w5 ⟨rfl, m5, f5⟩; have G5 := ((Fr.refl Nil wr).drew).trans f5) | fail)
                        have G6 := Lib.hid G5
                        clear G5 m5 f5
                        go_wp2_with fail
                        go_roundw
                        case rel => exact ⟨i4 + 1, by simp, IL.out, M4.out.still G6.out, B4.out.fr G6.out id⟩
                        case measure => have := I8.out; simp [intOf]; omega
                      · have i1' : (c : Int) ≤ (i4 : Int) := by omega
                        have CH := Lib.hid (M4.out.high (c : Int) L7.out)
                        clear hil hi4
                        go_wp2_with fail
                        refine CH.out.mono ?_
                        rintro e w6 ⟨rfl, m6, f6⟩
                        have N6 := Lib.hid (F0.out.trans m6.fr)
                        clear m6 f6 CH
                        go_wp2_with fail
                        go_ret
                        exact ⟨rfl, N6.out.bel⟩
        · have hkl' : decide (k < k) = false := by simp
          clear hk1 hk2
          go_wp2_with fail
          refine NX.out.mono ?_
          rintro e wn ⟨x, y, z, nr, rfl, mm, _⟩
          have MM := Lib.hid mm
          clear mm NX
          rcases nr with ⟨rfl, rfl, rfl, _⟩ | ⟨c, hc, hcd, hmin, rfl, hy, rfl⟩
          · have FF := Lib.hid MM.out.fr
            clear MM
            go_wp2_with fail
            go_ret
            exact ⟨rfl, (F0.out.trans FF.out).bel⟩
          · obtain ⟨l1, l2, l3, l4, l5, l6, l7, l8⟩ := next_law MM.out.right hc hcd hmin
            rw [← hy] at l1 l2 l3
            have HY := Lib.hid hy
            have L3 := Lib.hid l3
            have L4 := Lib.hid l4
            have L5 := Lib.hid l5
            have L6 := Lib.hid l6
            have L7 := Lib.hid l7
            have L8 := Lib.hid l8
            have hc8 : (c : Int) < 8 := by have := SN.out; have := DN.out; omega
            have c0 : (0 : Int) ≤ (c : Int) := by omega
            have cD : (c : Int) < 1 + (D : Int) := by have := SN.out; omega
            have cD2 : decide (1 + (D : Int) ≤ (c : Int)) = false := decide_eq_false (by omega)
            have y1 : IntKind.u64.wrap (y - 1) = y - 1 := by rw [IntKind.wrap_u64]; omega
            have y0 : (y == 0) = false := by simp; omega
            have HC := Lib.hid hc
            clear hy l3 l4 l5 l6 l7 l8 hcd hmin l1 l2 hc
            go_upto_region 20 with fail
            have hB : Blk (wn.alloc (.cells #[.bool false, .bool false, .bool false, .bool false, .bool false, .bool false, .bool false, .bool false] 49)) wn.heap.size 49 (wasA s 0) := (Blk.new wn 49 _).cast (wasA_zero s).symm
            have MA := MM.out.still ((Fr.refl Nil wn).alloc (.cells #[.bool false, .bool false, .bool false, .bool false, .bool false, .bool false, .bool false, .bool false] 49))
            have nb : b ≠ wn.heap.size := by have := MM.out.mem.top.lt; omega
            have nr : r ≠ wn.heap.size := by have := MM.out.mem.regs.lt; omega
            have lB : wa.heap.size ≤ wn.heap.size := MM.out.fr.size
            generalize (wn.alloc (.cells #[.bool false, .bool false, .bool false, .bool false, .bool false, .bool false, .bool false, .bool false] 49)) = wz at *
            generalize wn.heap.size = B at *
            have HB := Lib.hid hB
            have HM := Lib.hid MA
            have NB := Lib.hid (And.intro lB (And.intro nb nr))
            clear hB MA nb nr lB MM
            go_wp2_with fail
            go_loopw [13] (fun i wr2 => ∃ j : Nat, i = .int .i64 (j : Int) ∧ j ≤ 1 + D ∧ TM wa b r s wr2 ∧ Blk wr2 B 49 (wasA s j)) (fun i _ => 8 - (intOf i).toNat)
            case atStart => exact ⟨0, rfl, by omega, HM.out, HB.out⟩
            case round =>
              obtain ⟨j, rfl, hj, m2, b2⟩ := hrel
              have M2 := Lib.hid m2
              have B2 := Lib.hid b2
              clear m2 b2 HM HB
              by_cases hjl : j < 1 + D
              · have j0 : (0 : Int) ≤ (j : Int) := by omega
                have j1 : (j : Int) < 1 + (D : Int) := by omega
                have j8 : (j : Int) < 8 := by have := DN.out; omega
                have J8 := Lib.hid (show j < 8 by have := DN.out; omega)
                have JL := Lib.hid hjl
                have CH := Lib.hid (M2.out.high (j : Int) rfl)
                clear hjl hj
                go_wp2_with fail
                refine CH.out.mono ?_
                rintro e w5 ⟨rfl, m5, f5⟩
                have B5 := Lib.hid (B2.out.fr f5 id)
                have M5 := Lib.hid m5
                have g1 := B5.out.cellv (wasA_get s j j J8.out)
                have g2 := B5.out.frozen j
                clear m5 f5 CH B2 M2
                generalize hh : hiB s (j : Int) = hv at *
                have HH := Lib.hid hh
                clear hh
                go_wp2_with fail
                go_roundw
                case rel => exact ⟨j + 1, by simp, JL.out, M5.out.far ((Fr.refl (One B) _).set1 _) NB.out.1 NB.out.2.1 NB.out.2.2, by have := B5.out.set_ j (.bool hv); rw [← HH.out, wasA_set] at this; rw [← HH.out]; exact this⟩
                case measure => have := J8.out; simp [intOf]; omega
              · have hje : j = 1 + D := by omega
                subst hje
                have j1 : 1 + (D : Int) ≤ ((1 + D : Nat) : Int) := by omega
                have q := B2.out.cellv (wasA_get s (1 + D) c (by omega))
                rw [L8.out, Bool.and_false] at q
                have ct := M2.out.tick (y - 1)
                rw [L3.out] at ct
                have CT := Lib.hid ct
                clear ct hjl hj
                go_wp2_with fail
                refine CT.out.mono ?_
                rintro e w5 ⟨rfl, m5, f5⟩
                have M5 := Lib.hid m5
                have B5 := Lib.hid (B2.out.fr f5 (fun h => h.elim (fun h => NB.out.2.1 h.symm) (fun h => NB.out.2.2 h.symm)))
                clear m5 f5 CT B2 M2 q
                go_wp2_with fail
                go_loopw [14] (fun i wr3 => ∃ i3 : Nat, i = .int .i64 (i3 : Int) ∧ i3 ≤ 1 + D ∧ TM wa b r { s with t := s.v c - 1 } wr3 ∧ Blk wr3 B 49 (wasA s (1 + D))) (fun i _ => 8 - (intOf i).toNat)
                case atStart => exact ⟨0, rfl, by omega, M5.out, B5.out⟩
                case round =>
                  obtain ⟨i3, rfl, hi3, m3, b3⟩ := hrel
                  have M3 := Lib.hid m3
                  have B3 := Lib.hid b3
                  clear m3 b3 M5 B5
                  by_cases hil : i3 < 1 + D
                  · have i0 : (0 : Int) ≤ (i3 : Int) := by omega
                    have i1 : (i3 : Int) < 1 + (D : Int) := by omega
                    have i8 : (i3 : Int) < 8 := by have := DN.out; omega
                    have I8 := Lib.hid (show i3 < 8 by have := DN.out; omega)
                    have IL := Lib.hid hil
                    have ch := M3.out.high (i3 : Int) (L5.out i3 (by have := SN.out; omega))
                    have hq : ∀ w', Fr Nil wr w' → w'.cell? ⟨B, i3, none⟩ = some (.bool (hiB s (i3 : Int))) := fun w' h => by
                      have := (B3.out.fr h id).cellv (wasA_get s (1 + D) i3 I8.out)
                      rwa [decide_eq_true IL.out, Bool.true_and] at this
                    clear hil hi3
                    have hch : ∀ w', Fr Nil wr w' → Calls Try.prog 17 #[.pointer (some ⟨b, 0, none⟩), .int .i64 (i3 : Int)] w' (Rd wa b r { s with t := s.v c - 1 } w' (.bool (hiB s (i3 : Int)))) := fun w' h => (M3.out.still h).high (i3 : Int) (L5.out i3 (by have := SN.out; have := IL.out; omega))
                    have HCH := Lib.hid hch
                    have HQ := Lib.hid hq
                    clear ch hch hq
                    generalize hiB s (i3 : Int) = hv at *
                    go_upto_region 30 with fail
                    go_region_held3 (fun w' => w'.cell? ⟨B, i3, none⟩ = some (.bool hv) ∧ Fr Nil wr w') (first | exact ⟨HQ.out _ (Fr.refl Nil _).drew, (Fr.refl Nil _).drew⟩ | exact ⟨HQ.out _ G5, G5⟩) (first | (go_at_call 17; refine (HCH.out _ (Fr.refl Nil _).drew).mono ?_; rintro e w5 ⟨rfl, m5, f5⟩; have G5 := ((Fr.refl Nil wr).drew).trans f5) | fail)
                    have G6 := Lib.hid G5
                    clear G5 m5 f5
                    go_wp2_with fail
                    go_roundw
                    case rel => exact ⟨i3 + 1, by simp, IL.out, M3.out.still G6.out, B3.out.fr G6.out id⟩
                    case measure => have := I8.out; simp [intOf]; omega
                  · have hie : i3 = 1 + D := by omega
                    subst hie
                    have i1 : 1 + (D : Int) ≤ ((1 + D : Nat) : Int) := by omega
                    have ct := M3.out.tick 1
                    rw [show IntKind.u64.wrap (({ s with t := s.v c - 1 } : Ts).t + 1) = s.v c from L4.out] at ct
                    have CT := Lib.hid ct
                    clear ct hil hi3
                    go_wp2_with fail
                    refine CT.out.mono ?_
                    rintro e w5 ⟨rfl, m5', f5⟩
                    have m5 : TM wa b r { s with t := s.v c } w5 := m5'
                    have M5 := Lib.hid m5
                    have B5 := Lib.hid (B3.out.fr f5 (fun h => h.elim (fun h => NB.out.2.1 h.symm) (fun h => NB.out.2.2 h.symm)))
                    clear m5 m5' f5 CT B3 M3
                    go_wp2_with fail
                    go_loopw [15] (fun i wr4 => ∃ i4 : Nat, i = .int .i64 (i4 : Int) ∧ i4 ≤ c ∧ TM wa b r { s with t := s.v c } wr4 ∧ Blk wr4 B 49 (wasA s (1 + D))) (fun i _ => 8 - (intOf i).toNat)
                    case atStart => exact ⟨0, rfl, by omega, M5.out, B5.out⟩
                    case round =>
                      obtain ⟨i4, rfl, hi4, m4, b4⟩ := hrel
                      have M4 := Lib.hid m4
                      have B4 := Lib.hid b4
                      clear m4 b4 M5 B5
                      by_cases hil : i4 < c
                      · have i0 : (0 : Int) ≤ (i4 : Int) := by omega
                        have i1' : (i4 : Int) < (c : Int) := by omega
                        have i8 : (i4 : Int) < 8 := by omega
                        have I8 := Lib.hid (show i4 < 8 by omega)
                        have IL := Lib.hid hil
                        have hq : ∀ w', Fr Nil wr w' → w'.cell? ⟨B, i4, none⟩ = some (.bool (hiB s (i4 : Int))) := fun w' h => by
                          have := (B4.out.fr h id).cellv (wasA_get s (1 + D) i4 I8.out)
                          rwa [decide_eq_true (show i4 < 1 + D by have := IL.out; omega), Bool.true_and] at this
                        have hch : ∀ w', Fr Nil wr w' → Calls Try.prog 17 #[.pointer (some ⟨b, 0, none⟩), .int .i64 (i4 : Int)] w' (Rd wa b r { s with t := s.v c } w' (.bool (hiB s (i4 : Int)))) := fun w' h => (M4.out.still h).high (i4 : Int) (L6.out i4 IL.out)
                        clear hil hi4
                        have HCH := Lib.hid hch
                        have HQ := Lib.hid hq
                        clear hch hq
                        generalize hiB s (i4 : Int) = hv at *
                        go_upto_region 36 with fail
                        go_region_held3 (fun w' => w'.cell? ⟨B, i4, none⟩ = some (.bool hv) ∧ Fr Nil wr w') (first | exact ⟨HQ.out _ (Fr.refl Nil _).drew, (Fr.refl Nil _).drew⟩ | exact ⟨HQ.out _ G5, G5⟩) (first | (go_at_call 17; refine (HCH.out _ (Fr.refl Nil _).drew).mono ?_; rintro e w5 ⟨rfl, m5, f5⟩; have G5 := ((Fr.refl Nil wr).drew).trans f5) | fail)
                        have G6 := Lib.hid G5
                        clear G5 m5 f5
                        go_wp2_with fail
                        go_roundw
                        case rel => exact ⟨i4 + 1, by simp, IL.out, M4.out.still G6.out, B4.out.fr G6.out id⟩
                        case measure => have := I8.out; simp [intOf]; omega
                      · have i1' : (c : Int) ≤ (i4 : Int) := by omega
                        have CH := Lib.hid (M4.out.high (c : Int) L7.out)
                        clear hil hi4
                        go_wp2_with fail
                        refine CH.out.mono ?_
                        rintro e w6 ⟨rfl, m6, f6⟩
                        have N6 := Lib.hid (F0.out.trans m6.fr)
                        clear m6 f6 CH
                        go_wp2_with fail
                        go_ret
                        exact ⟨rfl, N6.out.bel⟩
  · have hnp : np cores = cores := by unfold np; rw [if_neg hn]
    have hn' : 0 ≤ cores := by omega
    have ht : cores.tmod 8 = (D : Int) := by rw [← hD, hnp, Int.tmod_eq_emod_of_nonneg hn']
    clear hD hnp
    go_enter Try.func4, Try.ntmps4
    go_wp2_with fail
    refine (known_ok w).mono ?_
    rintro e wa ⟨rfl, f0⟩
    have F0 := Lib.hid f0
    clear f0
    go_wp2_with fail
    refine (new_ok (1 + D) (z := 1 + (D : Int)) wa (by omega) (by omega) (by have := DN.out; omega)).mono ?_
    rintro e wb ⟨b, r, rfl, t0⟩
    have T2 := Lib.hid t0
    clear t0 ht hn hn' c0 c1
    go_wp2_with fail
    go_loopw [8] (fun i wr => ∃ (k : Nat) (s : Ts), i = .int .i64 (k : Int) ∧ k ≤ 60 ∧ k ≤ len ∧ TM wa b r s wr ∧ s.n = 1 + D) (fun i _ => 60 - (intOf i).toNat)
    case atStart => exact ⟨0, _, rfl, by omega, by omega, T2.out, rfl⟩
    case round =>
      obtain ⟨k, s, rfl, hk1, hk2, mn, sn⟩ := hrel
      have MN := Lib.hid mn
      have SN := Lib.hid sn
      clear mn sn T2
      by_cases hgo : k < len ∧ k < 60
      · obtain ⟨hkl, hk60⟩ := hgo
        obtain ⟨bs, off, ha, hbs, hcell⟩ := HS.out k hkl
        have hbs2 : bs < wa.heap.size := Nat.lt_of_lt_of_le hbs F0.out.size
        have hcr : ∀ j, wr.cell? ⟨bs, off + k * 4 + j, none⟩ = w.cell? ⟨bs, off + k * 4 + j, none⟩ := fun j => (MN.out.fr.cell (p := ⟨bs, off + k * 4 + j, none⟩) hbs2 id).trans (F0.out.cell (p := ⟨bs, off + k * 4 + j, none⟩) hbs id)
        have q0 : wr.cell? ⟨bs, off + k * 4, none⟩ = some (.int .i64 (V k 0)) := (hcr 0).trans (hcell 0 .i64 rfl).1
        have q1 : wr.cell? ⟨bs, off + k * 4 + 1, none⟩ = some (.int .i64 (V k 1)) := (hcr 1).trans (hcell 1 .i64 rfl).1
        have q2 : wr.cell? ⟨bs, off + k * 4 + 2, none⟩ = some (.int .i64 (V k 2)) := (hcr 2).trans (hcell 2 .i64 rfl).1
        have q3 : wr.cell? ⟨bs, off + k * 4 + 3, none⟩ = some (.int .u64 (V k 3)) := (hcr 3).trans (hcell 3 .u64 rfl).1
        obtain ⟨z0, z1⟩ := i64_rng (hcell 2 .i64 rfl).2
        obtain ⟨x0, x1⟩ := u64_rng (hcell 3 .u64 rfl).2
        have KL := Lib.hid hkl
        have K60 := Lib.hid hk60
        have hk60' : (k : Int) < 60 := by omega
        have hkl' : (k : Int) < (len : Int) := by omega
        have k0 : (0 : Int) ≤ (k : Int) := by omega
        subst ha
        have hkeep : ∀ w', Fr Nil wa w' → w'.cell? ⟨bs, off + k * 4 + 1, none⟩ = some (.int .i64 (V k 1)) ∧ w'.cell? ⟨bs, off + k * 4 + 2, none⟩ = some (.int .i64 (V k 2)) ∧ w'.cell? ⟨bs, off + k * 4 + 3, none⟩ = some (.int .u64 (V k 3)) ∧ Fr Nil wa w' := fun w' h1 =>
          ⟨((h1.cell (p := ⟨bs, off + k * 4 + 1, none⟩) hbs2 id).trans (F0.out.cell (p := ⟨bs, off + k * 4 + 1, none⟩) hbs id)).trans (hcell 1 .i64 rfl).1, ((h1.cell (p := ⟨bs, off + k * 4 + 2, none⟩) hbs2 id).trans (F0.out.cell (p := ⟨bs, off + k * 4 + 2, none⟩) hbs id)).trans (hcell 2 .i64 rfl).1, ((h1.cell (p := ⟨bs, off + k * 4 + 3, none⟩) hbs2 id).trans (F0.out.cell (p := ⟨bs, off + k * 4 + 3, none⟩) hbs id)).trans (hcell 3 .u64 rfl).1, h1⟩
        clear hcell hbs hbs2 hcr hk1 hk2
        have CS := Lib.hid (fun w' => sys_ok (V k 2) w' z0 z1)
        have X0 := Lib.hid x0
        have X1 := Lib.hid x1
        clear z0 z1 x0 x1
        generalize V k 0 = kind at *
        generalize V k 1 = core at *
        generalize V k 2 = sn at *
        generalize V k 3 = x at *
        have HKK := Lib.hid hkeep
        clear hkeep
        by_cases h2 : kind = 2
        · subst h2
          go_upto_region 13 with fail
          go_region_held3 (fun w' => w'.cell? ⟨bs, off + k * 4 + 1, none⟩ = some (.int .i64 core) ∧ w'.cell? ⟨bs, off + k * 4 + 2, none⟩ = some (.int .i64 sn) ∧ w'.cell? ⟨bs, off + k * 4 + 3, none⟩ = some (.int .u64 x) ∧ Fr Nil wa w') (first | exact HKK.out _ MN.out.fr.drew | exact HKK.out _ M2.fr | exact HKK.out _ M3.fr) (first | (go_at_call 10; refine (CS.out _).mono ?_; rintro e w2 ⟨rfl, f2⟩; have M2 := (MN.out.still (Fr.refl Nil _).drew).still f2) | (go_at_call 14; refine (M2.write core (sysV sn) x X0.out X1.out rfl).mono ?_; rintro e w3 ⟨rfl, M3, f3⟩) | fail)
          have N3 := Lib.hid M3
          clear M3 f3 f2 M2 MN
          go_wp2_with fail
          go_roundw
          case rel => exact ⟨k + 1, _, by simp, K60.out, KL.out, N3.out, (wrS_nt _ _ _ _).1.trans SN.out⟩
          case measure => have := K60.out; simp [intOf]; omega
        · have h2' : (kind == 2) = false := by simpa using h2
          by_cases h3 : kind = 3
          · subst h3
            have CT := Lib.hid (MN.out.tick x)
            clear h2 h2' q1 q2 CS HKK
            go_wp2_with fail
            refine CT.out.mono ?_
            rintro e w5 ⟨rfl, m5, f5⟩
            have M5 := Lib.hid m5
            clear m5 f5 CT q0
            go_wp2_with fail
            go_roundw
            case rel => exact ⟨k + 1, _, by simp, K60.out, KL.out, M5.out, SN.out⟩
            case measure => have := K60.out; simp [intOf]; omega
          · have h3' : (kind == 3) = false := by simpa using h3
            clear h2 h3 q1 q2 q3 CS HKK
            go_wp2_with fail
            go_roundw
            case rel => exact ⟨k + 1, s, by simp, K60.out, KL.out, MN.out, SN.out⟩
            case measure => have := K60.out; simp [intOf]; omega
      · have hx : (k < len ∧ k = 60) ∨ k = len := by omega
        have NX := Lib.hid MN.out.next
        clear hgo HS MN
        rcases hx with ⟨hkl, rfl⟩ | rfl
        · have hkl' : (60 : Int) < (len : Int) := by omega
          clear hk1 hk2 hkl
          go_wp2_with fail
          refine NX.out.mono ?_
          rintro e wn ⟨x, y, z, nr, rfl, mm, _⟩
          have MM := Lib.hid mm
          clear mm NX
          rcases nr with ⟨rfl, rfl, rfl, _⟩ | ⟨c, hc, hcd, hmin, rfl, hy, rfl⟩
          · have FF := Lib.hid MM.out.fr
            clear MM
            go_wp2_with fail
            go_ret
            exact ⟨rfl, (F0.out.trans FF.out).bel⟩
          · obtain ⟨l1, l2, l3, l4, l5, l6, l7, l8⟩ := next_law MM.out.right hc hcd hmin
            rw [← hy] at l1 l2 l3
            have HY := Lib.hid hy
            have L3 := Lib.hid l3
            have L4 := Lib.hid l4
            have L5 := Lib.hid l5
            have L6 := Lib.hid l6
            have L7 := Lib.hid l7
            have L8 := Lib.hid l8
            have hc8 : (c : Int) < 8 := by have := SN.out; have := DN.out; omega
            have c0 : (0 : Int) ≤ (c : Int) := by omega
            have cD : (c : Int) < 1 + (D : Int) := by have := SN.out; omega
            have cD2 : decide (1 + (D : Int) ≤ (c : Int)) = false := decide_eq_false (by omega)
            have y1 : IntKind.u64.wrap (y - 1) = y - 1 := by rw [IntKind.wrap_u64]; omega
            have y0 : (y == 0) = false := by simp; omega
            have HC := Lib.hid hc
            clear hy l3 l4 l5 l6 l7 l8 hcd hmin l1 l2 hc
            go_upto_region 20 with fail
            have hB : Blk (wn.alloc (.cells #[.bool false, .bool false, .bool false, .bool false, .bool false, .bool false, .bool false, .bool false] 49)) wn.heap.size 49 (wasA s 0) := (Blk.new wn 49 _).cast (wasA_zero s).symm
            have MA := MM.out.still ((Fr.refl Nil wn).alloc (.cells #[.bool false, .bool false, .bool false, .bool false, .bool false, .bool false, .bool false, .bool false] 49))
            have nb : b ≠ wn.heap.size := by have := MM.out.mem.top.lt; omega
            have nr : r ≠ wn.heap.size := by have := MM.out.mem.regs.lt; omega
            have lB : wa.heap.size ≤ wn.heap.size := MM.out.fr.size
            generalize (wn.alloc (.cells #[.bool false, .bool false, .bool false, .bool false, .bool false, .bool false, .bool false, .bool false] 49)) = wz at *
            generalize wn.heap.size = B at *
            have HB := Lib.hid hB
            have HM := Lib.hid MA
            have NB := Lib.hid (And.intro lB (And.intro nb nr))
            clear hB MA nb nr lB MM
            go_wp2_with fail
            go_loopw [13] (fun i wr2 => ∃ j : Nat, i = .int .i64 (j : Int) ∧ j ≤ 1 + D ∧ TM wa b r s wr2 ∧ Blk wr2 B 49 (wasA s j)) (fun i _ => 8 - (intOf i).toNat)
            case atStart => exact ⟨0, rfl, by omega, HM.out, HB.out⟩
            case round =>
              obtain ⟨j, rfl, hj, m2, b2⟩ := hrel
              have M2 := Lib.hid m2
              have B2 := Lib.hid b2
              clear m2 b2 HM HB
              by_cases hjl : j < 1 + D
              · have j0 : (0 : Int) ≤ (j : Int) := by omega
                have j1 : (j : Int) < 1 + (D : Int) := by omega
                have j8 : (j : Int) < 8 := by have := DN.out; omega
                have J8 := Lib.hid (show j < 8 by have := DN.out; omega)
                have JL := Lib.hid hjl
                have CH := Lib.hid (M2.out.high (j : Int) rfl)
                clear hjl hj
                go_wp2_with fail
                refine CH.out.mono ?_
                rintro e w5 ⟨rfl, m5, f5⟩
                have B5 := Lib.hid (B2.out.fr f5 id)
                have M5 := Lib.hid m5
                have g1 := B5.out.cellv (wasA_get s j j J8.out)
                have g2 := B5.out.frozen j
                clear m5 f5 CH B2 M2
                generalize hh : hiB s (j : Int) = hv at *
                have HH := Lib.hid hh
                clear hh
                go_wp2_with fail
                go_roundw
                case rel => exact ⟨j + 1, by simp, JL.out, M5.out.far ((Fr.refl (One B) _).set1 _) NB.out.1 NB.out.2.1 NB.out.2.2, by have := B5.out.set_ j (.bool hv); rw [← HH.out, wasA_set] at this; rw [← HH.out]; exact this⟩
                case measure => have := J8.out; simp [intOf]; omega
              · have hje : j = 1 + D := by omega
                subst hje
                have j1 : 1 + (D : Int) ≤ ((1 + D : Nat) : Int) := by omega
                have q := B2.out.cellv (wasA_get s (1 + D) c (by omega))
                rw [L8.out, Bool.and_false] at q
                have ct := M2.out.tick (y - 1)
                rw [L3.out] at ct
                have CT := Lib.hid ct
                clear ct hjl hj
                go_wp2_with fail
                refine CT.out.mono ?_
                rintro e w5 ⟨rfl, m5, f5⟩
                have M5 := Lib.hid m5
                have B5 := Lib.hid (B2.out.fr f5 (fun h => h.elim (fun h => NB.out.2.1 h.symm) (fun h => NB.out.2.2 h.symm)))
                clear m5 f5 CT B2 M2 q
                go_wp2_with fail
                go_loopw [14] (fun i wr3 => ∃ i3 : Nat, i = .int .i64 (i3 : Int) ∧ i3 ≤ 1 + D ∧ TM wa b r { s with t := s.v c - 1 } wr3 ∧ Blk wr3 B 49 (wasA s (1 + D))) (fun i _ => 8 - (intOf i).toNat)
                case atStart => exact ⟨0, rfl, by omega, M5.out, B5.out⟩
                case round =>
                  obtain ⟨i3, rfl, hi3, m3, b3⟩ := hrel
                  have M3 := Lib.hid m3
                  have B3 := Lib.hid b3
                  clear m3 b3 M5 B5
                  by_cases hil : i3 < 1 + D
                  · have i0 : (0 : Int) ≤ (i3 : Int) := by omega
                    have i1 : (i3 : Int) < 1 + (D : Int) := by omega
                    have i8 : (i3 : Int) < 8 := by have := DN.out; omega
                    have I8 := Lib.hid (show i3 < 8 by have := DN.out; omega)
                    have IL := Lib.hid hil
                    have ch := M3.out.high (i3 : Int) (L5.out i3 (by have := SN.out; omega))
                    have hq : ∀ w', Fr Nil wr w' → w'.cell? ⟨B, i3, none⟩ = some (.bool (hiB s (i3 : Int))) := fun w' h => by
                      have := (B3.out.fr h id).cellv (wasA_get s (1 + D) i3 I8.out)
                      rwa [decide_eq_true IL.out, Bool.true_and] at this
                    clear hil hi3
                    have hch : ∀ w', Fr Nil wr w' → Calls Try.prog 17 #[.pointer (some ⟨b, 0, none⟩), .int .i64 (i3 : Int)] w' (Rd wa b r { s with t := s.v c - 1 } w' (.bool (hiB s (i3 : Int)))) := fun w' h => (M3.out.still h).high (i3 : Int) (L5.out i3 (by have := SN.out; have := IL.out; omega))
                    have HCH := Lib.hid hch
                    have HQ := Lib.hid hq
                    clear ch hch hq
                    generalize hiB s (i3 : Int) = hv at *
                    go_upto_region 30 with fail
                    go_region_held3 (fun w' => w'.cell? ⟨B, i3, none⟩ = some (.bool hv) ∧ Fr Nil wr w') (first | exact ⟨HQ.out _ (Fr.refl Nil _).drew, (Fr.refl Nil _).drew⟩ | exact ⟨HQ.out _ G5, G5⟩) (first | (go_at_call 17; refine (HCH.out _ (Fr.refl Nil _).drew).mono ?_; rintro e w5 ⟨rfl, m5, f5⟩; have G5 := ((Fr.refl Nil wr).drew).trans f5) | fail)
                    have G6 := Lib.hid G5
                    clear G5 m5 f5
                    go_wp2_with fail
                    go_roundw
                    case rel => exact ⟨i3 + 1, by simp, IL.out, M3.out.still G6.out, B3.out.fr G6.out id⟩
                    case measure => have := I8.out; simp [intOf]; omega
                  · have hie : i3 = 1 + D := by omega
                    subst hie
                    have i1 : 1 + (D : Int) ≤ ((1 + D : Nat) : Int) := by omega
                    have ct := M3.out.tick 1
                    rw [show IntKind.u64.wrap (({ s with t := s.v c - 1 } : Ts).t + 1) = s.v c from L4.out] at ct
                    have CT := Lib.hid ct
                    clear ct hil hi3
                    go_wp2_with fail
                    refine CT.out.mono ?_
                    rintro e w5 ⟨rfl, m5', f5⟩
                    have m5 : TM wa b r { s with t := s.v c } w5 := m5'
                    have M5 := Lib.hid m5
                    have B5 := Lib.hid (B3.out.fr f5 (fun h => h.elim (fun h => NB.out.2.1 h.symm) (fun h => NB.out.2.2 h.symm)))
                    clear m5 m5' f5 CT B3 M3
                    go_wp2_with fail
                    go_loopw [15] (fun i wr4 => ∃ i4 : Nat, i = .int .i64 (i4 : Int) ∧ i4 ≤ c ∧ TM wa b r { s with t := s.v c } wr4 ∧ Blk wr4 B 49 (wasA s (1 + D))) (fun i _ => 8 - (intOf i).toNat)
                    case atStart => exact ⟨0, rfl, by omega, M5.out, B5.out⟩
                    case round =>
                      obtain ⟨i4, rfl, hi4, m4, b4⟩ := hrel
                      have M4 := Lib.hid m4
                      have B4 := Lib.hid b4
                      clear m4 b4 M5 B5
                      by_cases hil : i4 < c
                      · have i0 : (0 : Int) ≤ (i4 : Int) := by omega
                        have i1' : (i4 : Int) < (c : Int) := by omega
                        have i8 : (i4 : Int) < 8 := by omega
                        have I8 := Lib.hid (show i4 < 8 by omega)
                        have IL := Lib.hid hil
                        have hq : ∀ w', Fr Nil wr w' → w'.cell? ⟨B, i4, none⟩ = some (.bool (hiB s (i4 : Int))) := fun w' h => by
                          have := (B4.out.fr h id).cellv (wasA_get s (1 + D) i4 I8.out)
                          rwa [decide_eq_true (show i4 < 1 + D by have := IL.out; omega), Bool.true_and] at this
                        have hch : ∀ w', Fr Nil wr w' → Calls Try.prog 17 #[.pointer (some ⟨b, 0, none⟩), .int .i64 (i4 : Int)] w' (Rd wa b r { s with t := s.v c } w' (.bool (hiB s (i4 : Int)))) := fun w' h => (M4.out.still h).high (i4 : Int) (L6.out i4 IL.out)
                        clear hil hi4
                        have HCH := Lib.hid hch
                        have HQ := Lib.hid hq
                        clear hch hq
                        generalize hiB s (i4 : Int) = hv at *
                        go_upto_region 36 with fail
                        go_region_held3 (fun w' => w'.cell? ⟨B, i4, none⟩ = some (.bool hv) ∧ Fr Nil wr w') (first | exact ⟨HQ.out _ (Fr.refl Nil _).drew, (Fr.refl Nil _).drew⟩ | exact ⟨HQ.out _ G5, G5⟩) (first | (go_at_call 17; refine (HCH.out _ (Fr.refl Nil _).drew).mono ?_; rintro e w5 ⟨rfl, m5, f5⟩; have G5 := ((Fr.refl Nil wr).drew).trans f5) | fail)
                        have G6 := Lib.hid G5
                        clear G5 m5 f5
                        go_wp2_with fail
                        go_roundw
                        case rel => exact ⟨i4 + 1, by simp, IL.out, M4.out.still G6.out, B4.out.fr G6.out id⟩
                        case measure => have := I8.out; simp [intOf]; omega
                      · have i1' : (c : Int) ≤ (i4 : Int) := by omega
                        have CH := Lib.hid (M4.out.high (c : Int) L7.out)
                        clear hil hi4
                        go_wp2_with fail
                        refine CH.out.mono ?_
                        rintro e w6 ⟨rfl, m6, f6⟩
                        have N6 := Lib.hid (F0.out.trans m6.fr)
                        clear m6 f6 CH
                        go_wp2_with fail
                        go_ret
                        exact ⟨rfl, N6.out.bel⟩
        · have hkl' : decide (k < k) = false := by simp
          clear hk1 hk2
          go_wp2_with fail
          refine NX.out.mono ?_
          rintro e wn ⟨x, y, z, nr, rfl, mm, _⟩
          have MM := Lib.hid mm
          clear mm NX
          rcases nr with ⟨rfl, rfl, rfl, _⟩ | ⟨c, hc, hcd, hmin, rfl, hy, rfl⟩
          · have FF := Lib.hid MM.out.fr
            clear MM
            go_wp2_with fail
            go_ret
            exact ⟨rfl, (F0.out.trans FF.out).bel⟩
          · obtain ⟨l1, l2, l3, l4, l5, l6, l7, l8⟩ := next_law MM.out.right hc hcd hmin
            rw [← hy] at l1 l2 l3
            have HY := Lib.hid hy
            have L3 := Lib.hid l3
            have L4 := Lib.hid l4
            have L5 := Lib.hid l5
            have L6 := Lib.hid l6
            have L7 := Lib.hid l7
            have L8 := Lib.hid l8
            have hc8 : (c : Int) < 8 := by have := SN.out; have := DN.out; omega
            have c0 : (0 : Int) ≤ (c : Int) := by omega
            have cD : (c : Int) < 1 + (D : Int) := by have := SN.out; omega
            have cD2 : decide (1 + (D : Int) ≤ (c : Int)) = false := decide_eq_false (by omega)
            have y1 : IntKind.u64.wrap (y - 1) = y - 1 := by rw [IntKind.wrap_u64]; omega
            have y0 : (y == 0) = false := by simp; omega
            have HC := Lib.hid hc
            clear hy l3 l4 l5 l6 l7 l8 hcd hmin l1 l2 hc
            go_upto_region 20 with fail
            have hB : Blk (wn.alloc (.cells #[.bool false, .bool false, .bool false, .bool false, .bool false, .bool false, .bool false, .bool false] 49)) wn.heap.size 49 (wasA s 0) := (Blk.new wn 49 _).cast (wasA_zero s).symm
            have MA := MM.out.still ((Fr.refl Nil wn).alloc (.cells #[.bool false, .bool false, .bool false, .bool false, .bool false, .bool false, .bool false, .bool false] 49))
            have nb : b ≠ wn.heap.size := by have := MM.out.mem.top.lt; omega
            have nr : r ≠ wn.heap.size := by have := MM.out.mem.regs.lt; omega
            have lB : wa.heap.size ≤ wn.heap.size := MM.out.fr.size
            generalize (wn.alloc (.cells #[.bool false, .bool false, .bool false, .bool false, .bool false, .bool false, .bool false, .bool false] 49)) = wz at *
            generalize wn.heap.size = B at *
            have HB := Lib.hid hB
            have HM := Lib.hid MA
            have NB := Lib.hid (And.intro lB (And.intro nb nr))
            clear hB MA nb nr lB MM
            go_wp2_with fail
            go_loopw [13] (fun i wr2 => ∃ j : Nat, i = .int .i64 (j : Int) ∧ j ≤ 1 + D ∧ TM wa b r s wr2 ∧ Blk wr2 B 49 (wasA s j)) (fun i _ => 8 - (intOf i).toNat)
            case atStart => exact ⟨0, rfl, by omega, HM.out, HB.out⟩
            case round =>
              obtain ⟨j, rfl, hj, m2, b2⟩ := hrel
              have M2 := Lib.hid m2
              have B2 := Lib.hid b2
              clear m2 b2 HM HB
              by_cases hjl : j < 1 + D
              · have j0 : (0 : Int) ≤ (j : Int) := by omega
                have j1 : (j : Int) < 1 + (D : Int) := by omega
                have j8 : (j : Int) < 8 := by have := DN.out; omega
                have J8 := Lib.hid (show j < 8 by have := DN.out; omega)
                have JL := Lib.hid hjl
                have CH := Lib.hid (M2.out.high (j : Int) rfl)
                clear hjl hj
                go_wp2_with fail
                refine CH.out.mono ?_
                rintro e w5 ⟨rfl, m5, f5⟩
                have B5 := Lib.hid (B2.out.fr f5 id)
                have M5 := Lib.hid m5
                have g1 := B5.out.cellv (wasA_get s j j J8.out)
                have g2 := B5.out.frozen j
                clear m5 f5 CH B2 M2
                generalize hh : hiB s (j : Int) = hv at *
                have HH := Lib.hid hh
                clear hh
                go_wp2_with fail
                go_roundw
                case rel => exact ⟨j + 1, by simp, JL.out, M5.out.far ((Fr.refl (One B) _).set1 _) NB.out.1 NB.out.2.1 NB.out.2.2, by have := B5.out.set_ j (.bool hv); rw [← HH.out, wasA_set] at this; rw [← HH.out]; exact this⟩
                case measure => have := J8.out; simp [intOf]; omega
              · have hje : j = 1 + D := by omega
                subst hje
                have j1 : 1 + (D : Int) ≤ ((1 + D : Nat) : Int) := by omega
                have q := B2.out.cellv (wasA_get s (1 + D) c (by omega))
                rw [L8.out, Bool.and_false] at q
                have ct := M2.out.tick (y - 1)
                rw [L3.out] at ct
                have CT := Lib.hid ct
                clear ct hjl hj
                go_wp2_with fail
                refine CT.out.mono ?_
                rintro e w5 ⟨rfl, m5, f5⟩
                have M5 := Lib.hid m5
                have B5 := Lib.hid (B2.out.fr f5 (fun h => h.elim (fun h => NB.out.2.1 h.symm) (fun h => NB.out.2.2 h.symm)))
                clear m5 f5 CT B2 M2 q
                go_wp2_with fail
                go_loopw [14] (fun i wr3 => ∃ i3 : Nat, i = .int .i64 (i3 : Int) ∧ i3 ≤ 1 + D ∧ TM wa b r { s with t := s.v c - 1 } wr3 ∧ Blk wr3 B 49 (wasA s (1 + D))) (fun i _ => 8 - (intOf i).toNat)
                case atStart => exact ⟨0, rfl, by omega, M5.out, B5.out⟩
                case round =>
                  obtain ⟨i3, rfl, hi3, m3, b3⟩ := hrel
                  have M3 := Lib.hid m3
                  have B3 := Lib.hid b3
                  clear m3 b3 M5 B5
                  by_cases hil : i3 < 1 + D
                  · have i0 : (0 : Int) ≤ (i3 : Int) := by omega
                    have i1 : (i3 : Int) < 1 + (D : Int) := by omega
                    have i8 : (i3 : Int) < 8 := by have := DN.out; omega
                    have I8 := Lib.hid (show i3 < 8 by have := DN.out; omega)
                    have IL := Lib.hid hil
                    have ch := M3.out.high (i3 : Int) (L5.out i3 (by have := SN.out; omega))
                    have hq : ∀ w', Fr Nil wr w' → w'.cell? ⟨B, i3, none⟩ = some (.bool (hiB s (i3 : Int))) := fun w' h => by
                      have := (B3.out.fr h id).cellv (wasA_get s (1 + D) i3 I8.out)
                      rwa [decide_eq_true IL.out, Bool.true_and] at this
                    clear hil hi3
                    have hch : ∀ w', Fr Nil wr w' → Calls Try.prog 17 #[.pointer (some ⟨b, 0, none⟩), .int .i64 (i3 : Int)] w' (Rd wa b r { s with t := s.v c - 1 } w' (.bool (hiB s (i3 : Int)))) := fun w' h => (M3.out.still h).high (i3 : Int) (L5.out i3 (by have := SN.out; have := IL.out; omega))
                    have HCH := Lib.hid hch
                    have HQ := Lib.hid hq
                    clear ch hch hq
                    generalize hiB s (i3 : Int) = hv at *
                    go_upto_region 30 with fail
                    go_region_held3 (fun w' => w'.cell? ⟨B, i3, none⟩ = some (.bool hv) ∧ Fr Nil wr w') (first | exact ⟨HQ.out _ (Fr.refl Nil _).drew, (Fr.refl Nil _).drew⟩ | exact ⟨HQ.out _ G5, G5⟩) (first | (go_at_call 17; refine (HCH.out _ (Fr.refl Nil _).drew).mono ?_; rintro e w5 ⟨rfl, m5, f5⟩; have G5 := ((Fr.refl Nil wr).drew).trans f5) | fail)
                    have G6 := Lib.hid G5
                    clear G5 m5 f5
                    go_wp2_with fail
                    go_roundw
                    case rel => exact ⟨i3 + 1, by simp, IL.out, M3.out.still G6.out, B3.out.fr G6.out id⟩
                    case measure => have := I8.out; simp [intOf]; omega
                  · have hie : i3 = 1 + D := by omega
                    subst hie
                    have i1 : 1 + (D : Int) ≤ ((1 + D : Nat) : Int) := by omega
                    have ct := M3.out.tick 1
                    rw [show IntKind.u64.wrap (({ s with t := s.v c - 1 } : Ts).t + 1) = s.v c from L4.out] at ct
                    have CT := Lib.hid ct
                    clear ct hil hi3
                    go_wp2_with fail
                    refine CT.out.mono ?_
                    rintro e w5 ⟨rfl, m5', f5⟩
                    have m5 : TM wa b r { s with t := s.v c } w5 := m5'
                    have M5 := Lib.hid m5
                    have B5 := Lib.hid (B3.out.fr f5 (fun h => h.elim (fun h => NB.out.2.1 h.symm) (fun h => NB.out.2.2 h.symm)))
                    clear m5 m5' f5 CT B3 M3
                    go_wp2_with fail
                    go_loopw [15] (fun i wr4 => ∃ i4 : Nat, i = .int .i64 (i4 : Int) ∧ i4 ≤ c ∧ TM wa b r { s with t := s.v c } wr4 ∧ Blk wr4 B 49 (wasA s (1 + D))) (fun i _ => 8 - (intOf i).toNat)
                    case atStart => exact ⟨0, rfl, by omega, M5.out, B5.out⟩
                    case round =>
                      obtain ⟨i4, rfl, hi4, m4, b4⟩ := hrel
                      have M4 := Lib.hid m4
                      have B4 := Lib.hid b4
                      clear m4 b4 M5 B5
                      by_cases hil : i4 < c
                      · have i0 : (0 : Int) ≤ (i4 : Int) := by omega
                        have i1' : (i4 : Int) < (c : Int) := by omega
                        have i8 : (i4 : Int) < 8 := by omega
                        have I8 := Lib.hid (show i4 < 8 by omega)
                        have IL := Lib.hid hil
                        have hq : ∀ w', Fr Nil wr w' → w'.cell? ⟨B, i4, none⟩ = some (.bool (hiB s (i4 : Int))) := fun w' h => by
                          have := (B4.out.fr h id).cellv (wasA_get s (1 + D) i4 I8.out)
                          rwa [decide_eq_true (show i4 < 1 + D by have := IL.out; omega), Bool.true_and] at this
                        have hch : ∀ w', Fr Nil wr w' → Calls Try.prog 17 #[.pointer (some ⟨b, 0, none⟩), .int .i64 (i4 : Int)] w' (Rd wa b r { s with t := s.v c } w' (.bool (hiB s (i4 : Int)))) := fun w' h => (M4.out.still h).high (i4 : Int) (L6.out i4 IL.out)
                        clear hil hi4
                        have HCH := Lib.hid hch
                        have HQ := Lib.hid hq
                        clear hch hq
                        generalize hiB s (i4 : Int) = hv at *
                        go_upto_region 36 with fail
                        go_region_held3 (fun w' => w'.cell? ⟨B, i4, none⟩ = some (.bool hv) ∧ Fr Nil wr w') (first | exact ⟨HQ.out _ (Fr.refl Nil _).drew, (Fr.refl Nil _).drew⟩ | exact ⟨HQ.out _ G5, G5⟩) (first | (go_at_call 17; refine (HCH.out _ (Fr.refl Nil _).drew).mono ?_; rintro e w5 ⟨rfl, m5, f5⟩; have G5 := ((Fr.refl Nil wr).drew).trans f5) | fail)
                        have G6 := Lib.hid G5
                        clear G5 m5 f5
                        go_wp2_with fail
                        go_roundw
                        case rel => exact ⟨i4 + 1, by simp, IL.out, M4.out.still G6.out, B4.out.fr G6.out id⟩
                        case measure => have := I8.out; simp [intOf]; omega
                      · have i1' : (c : Int) ≤ (i4 : Int) := by omega
                        have CH := Lib.hid (M4.out.high (c : Int) L7.out)
                        clear hil hi4
                        go_wp2_with fail
                        refine CH.out.mono ?_
                        rintro e w6 ⟨rfl, m6, f6⟩
                        have N6 := Lib.hid (F0.out.trans m6.fr)
                        clear m6 f6 CH
                        go_wp2_with fail
                        go_ret
                        exact ⟨rfl, N6.out.bel⟩
end Go.Proofs.Ytoehhbcocecibaa
