/- TimerApart, walked. -/
import Derived.Test.YtoehhbcocecibaaKnow
import Derived.Test.YtoehhbcocecibaaLaw
import Derived.Deep.RegionHeld3
import Derived.Deep.MidRow
import Derived.Deep.RegionLaw
namespace Go.Proofs.Ytoehhbcocecibaa
open Go.RowKit
set_option linter.unusedVariables false
set_option maxRecDepth 100000

/-- What stays as it was written. -/
def Apart (s : Ts) (m : Nat) (cval : Int) : Prop := s.n = 4 ∧ s.t = 0 ∧ s.c 2 = m ∧ s.v 2 = cval
theorem Apart.write {s : Ts} {m : Nat} {cval : Int} (h : Apart s m cval) (i sys x : Int) (hi : i ≠ 2) : Apart (wrS s i sys x) m cval := by
  obtain ⟨h1, h2, h3, h4⟩ := h
  unfold wrS
  split
  · rename_i hr
    have hne : 2 ≠ i.toNat := by omega
    split
    · exact ⟨h1, h2, by show upd s.c i.toNat _ 2 = m; rw [upd_other _ _ hne]; exact h3, h4⟩
    · split
      · exact ⟨h1, h2, h3, by show upd s.v i.toNat _ 2 = cval; rw [upd_other _ _ hne]; exact h4⟩
      · exact ⟨h1, h2, h3, h4⟩
  · exact ⟨h1, h2, h3, h4⟩
theorem Apart.first (ctl cval : Int) : Apart (wrS (wrS (T0 4) 2 24345 ctl) 2 24346 cval) (ctl % 4).toNat cval := ⟨rfl, rfl, rfl, rfl⟩
theorem Apart.ctl {s : Ts} {m : Nat} {cval : Int} (h : Apart s m cval) : rdV s 2 24345 = (if (decide (m % 2 = 1) && decide (cval ≤ 0)) = true then (m : Int) + 4 else (m : Int), 0) := by
  obtain ⟨h1, h2, h3, h4⟩ := h
  have : rdV s 2 24345 = (ctlV (s.c 2) s.t (s.v 2), 0) := by unfold rdV; rw [h1]; simp
  rw [this, h2, h3, h4]
  rfl
theorem Apart.cval {s : Ts} {m : Nat} {cval : Int} (h : Apart s m cval) : rdV s 2 24346 = (cval, 0) := by
  obtain ⟨h1, h2, h3, h4⟩ := h
  have : rdV s 2 24346 = (s.v 2, 0) := by unfold rdV; rw [h1]; simp
  rw [this, h4]
theorem Apart.high {s : Ts} {m : Nat} {cval : Int} (h : Apart s m cval) : hiB s 2 = (decide (m = 1) && decide (cval ≤ 0)) := by
  obtain ⟨h1, h2, h3, h4⟩ := h
  have : hiB s 2 = (decide (s.c 2 = 1) && decide (s.v 2 ≤ s.t)) := by unfold hiB; rw [h1]; simp
  rw [this, h2, h3, h4]
theorem bitsOne (x : Int) (h0 : 0 ≤ x) (h1 : x ≤ 18446744073709551615) : bits .and .u64 x 1 = x % 2 := by
  have := and_low x 1 (by omega) h0 h1
  rw [show (2 : Int) ^ 1 - 1 = 1 from rfl, show (2 : Int) ^ 1 = 2 from rfl] at this
  exact this
set_option maxHeartbeats 4000000 in
theorem timerApart_walk (ctl cval : Int) (a0 : Option Addr) (len cap : Nat) (V : Nat → Nat → Int) (w : World) (w1 : (Lit.int .u64 ctl).wf = true) (w2 : (Lit.int .u64 cval).wf = true) (hl : len ≤ cap) (hcap : cap ≤ maxLen) (hs : SlRows [.i64, .i64, .i64, .u64] w a0 len V) :
    Calls Try.prog 6 #[.int .u64 ctl, .int .u64 cval, .slice a0 len cap] w fun e w' => e = .returned (.bool true) ∧ Below w.heap.size w w' := by
  obtain ⟨c0, c1⟩ := u64_rng w1
  obtain ⟨v0, v1⟩ := u64_rng w2
  have HS := Lib.hid hs
  have hlen : (len : Int) ≤ 9223372036854775807 := by simp only [maxLen] at hcap; omega
  have V0 := Lib.hid v0
  have V1 := Lib.hid v1
  have C0 := Lib.hid c0
  have C1 := Lib.hid c1
  clear hs hl hcap w1 w2 c0 c1 v0 v1
  go_enter Try.func6, Try.ntmps6
  go_wp2_with fail
  refine (known_ok w).mono ?_
  rintro e wa ⟨rfl, f0⟩
  have F0 := Lib.hid f0
  clear f0
  go_wp2_with fail
  refine (new_ok 4 wa rfl (by decide) (by decide)).mono ?_
  rintro e wb ⟨b, r, rfl, m0⟩
  have K1 := Lib.hid (m0.write 2 24345 ctl C0.out C1.out (y := 0) rfl)
  clear m0
  go_wp2_with fail
  refine K1.out.mono ?_
  rintro e wc ⟨rfl, m1, _⟩
  have K2 := Lib.hid (m1.write 2 24346 cval V0.out V1.out (y := 0) rfl)
  clear m1 K1
  go_wp2_with fail
  refine K2.out.mono ?_
  rintro e wd ⟨rfl, m2, _⟩
  have M2 := Lib.hid m2
  clear m2 K2
  go_wp2_with fail
  go_loopw [10] (fun i wr => ∃ (k : Nat) (s : Ts), i = .int .i64 (k : Int) ∧ k ≤ 60 ∧ k ≤ len ∧ TM wa b r s wr ∧ Apart s (ctl % 4).toNat cval) (fun i _ => 60 - (intOf i).toNat)
  case atStart => exact ⟨0, _, rfl, by omega, by omega, M2.out, Apart.first ctl cval⟩
  case round =>
    obtain ⟨k, s, rfl, hk1, hk2, mn, ap⟩ := hrel
    have MN := Lib.hid mn
    have AP := Lib.hid ap
    clear mn ap M2
    by_cases hgo : k < len ∧ k < 60
    · obtain ⟨hkl, hk60⟩ := hgo
      obtain ⟨bs, off, ha, hbs, hcell⟩ := HS.out k hkl
      have hbs2 : bs < wa.heap.size := Nat.lt_of_lt_of_le hbs F0.out.size
      have hcr : ∀ j, wr.cell? ⟨bs, off + k * 4 + j, none⟩ = w.cell? ⟨bs, off + k * 4 + j, none⟩ := fun j => (MN.out.fr.cell (p := ⟨bs, off + k * 4 + j, none⟩) hbs2 id).trans (F0.out.cell (p := ⟨bs, off + k * 4 + j, none⟩) hbs id)
      have q1 : wr.cell? ⟨bs, off + k * 4 + 1, none⟩ = some (.int .i64 (V k 1)) := (hcr 1).trans (hcell 1 .i64 rfl).1
      have q2 : wr.cell? ⟨bs, off + k * 4 + 2, none⟩ = some (.int .i64 (V k 2)) := (hcr 2).trans (hcell 2 .i64 rfl).1
      have q3 : wr.cell? ⟨bs, off + k * 4 + 3, none⟩ = some (.int .u64 (V k 3)) := (hcr 3).trans (hcell 3 .u64 rfl).1
      obtain ⟨z0, z1⟩ := i64_rng (hcell 2 .i64 rfl).2
      obtain ⟨x0, x1⟩ := u64_rng (hcell 3 .u64 rfl).2
      have KL := Lib.hid hkl
      have K60 := Lib.hid hk60
      have hk60' : (k : Int) < 60 := by omega
      have hkl' : (k : Int) < (len : Int) := by omega
      have k0 : (0 : Int) ≤ (k : Int) := by omega
      have HBS := Lib.hid hbs
      have HA := Lib.hid ha
      subst ha
      have hkeep : ∀ w' s', TM wa b r s' w' → Apart s' (ctl % 4).toNat cval → w'.cell? ⟨bs, off + k * 4 + 2, none⟩ = some (.int .i64 (V k 2)) ∧ w'.cell? ⟨bs, off + k * 4 + 3, none⟩ = some (.int .u64 (V k 3)) ∧ ∃ s', TM wa b r s' w' ∧ Apart s' (ctl % 4).toNat cval := fun w' s' h1 h2 =>
        ⟨((h1.fr.cell (p := ⟨bs, off + k * 4 + 2, none⟩) hbs2 id).trans (F0.out.cell (p := ⟨bs, off + k * 4 + 2, none⟩) hbs id)).trans (hcell 2 .i64 rfl).1, ((h1.fr.cell (p := ⟨bs, off + k * 4 + 3, none⟩) hbs2 id).trans (F0.out.cell (p := ⟨bs, off + k * 4 + 3, none⟩) hbs id)).trans (hcell 3 .u64 rfl).1, s', h1, h2⟩
      clear hcell hbs hbs2 hcr hk1 hk2 HA
      have CS := Lib.hid (fun w' => sys_ok (V k 2) w' z0 z1)
      have X0 := Lib.hid x0
      have X1 := Lib.hid x1
      clear z0 z1 x0 x1
      generalize V k 1 = core at *
      generalize V k 2 = sn at *
      generalize V k 3 = x at *
      by_cases h2 : core = 2
      · subst h2
        clear q2 q3 CS
        go_wp2_with fail
        go_roundw
        case rel => exact ⟨k + 1, s, by simp, K60.out, KL.out, MN.out, AP.out⟩
        case measure => have := K60.out; simp [intOf]; omega
      · have h2' : (core == 2) = false := by simpa using h2
        have H2 := Lib.hid h2
        clear h2
        go_upto_region 12 with fail
        have HKK := Lib.hid hkeep
        clear hkeep
        go_region_held3 (fun w' => w'.cell? ⟨bs, off + k * 4 + 2, none⟩ = some (.int .i64 sn) ∧ w'.cell? ⟨bs, off + k * 4 + 3, none⟩ = some (.int .u64 x) ∧ ∃ s', TM wa b r s' w' ∧ Apart s' (ctl % 4).toNat cval) (first | exact HKK.out _ _ (MN.out.still (Fr.refl Nil _).drew) AP.out | exact HKK.out _ _ M2 AP.out | exact HKK.out _ _ M3 (AP.out.write _ _ _ H2.out)) (first | (go_at_call 10; refine (CS.out _).mono ?_; rintro e w2 ⟨rfl, f2⟩; have M2 := (MN.out.still (Fr.refl Nil _).drew).still f2) | (go_at_call 14; refine (M2.write core (sysV sn) x X0.out X1.out rfl).mono ?_; rintro e w3 ⟨rfl, M3, f3⟩) | fail)
        go_wp2_with fail
        go_roundw
        case rel => exact ⟨k + 1, _, by simp, K60.out, KL.out, M3, AP.out.write _ _ _ H2.out⟩
        case measure => have := K60.out; simp [intOf]; omega
    · have hx : (k < len ∧ k = 60) ∨ k = len := by omega
      obtain ⟨m, hm4, hme⟩ : ∃ m : Nat, m < 4 ∧ (ctl % 4).toNat = m := ⟨_, by have := C0.out; omega, rfl⟩
      rw [hme] at AP
      have e1 : ∀ a, (if (decide (m % 2 = 1) && decide (cval ≤ 0)) = true then (m : Int) + 4 else (m : Int)) = a → Calls Try.prog 11 #[.pointer (some ⟨b, 0, none⟩), .int .i64 2, .int .i64 24345] wr (Rd wa b r s wr (.tuple #[.int .u64 a, .int .i64 0])) := fun a ha => MN.out.read 2 24345 (AP.out.ctl.trans (by rw [ha]))
      have e2 : ∀ we, TM wa b r s we → Calls Try.prog 11 #[.pointer (some ⟨b, 0, none⟩), .int .i64 2, .int .i64 24346] we (Rd wa b r s we (.tuple #[.int .u64 cval, .int .i64 0])) := fun we h => h.read 2 24346 AP.out.cval
      have e3 : ∀ h, (decide (m = 1) && decide (cval ≤ 0)) = h → ∀ we, TM wa b r s we → Calls Try.prog 17 #[.pointer (some ⟨b, 0, none⟩), .int .i64 2] we (Rd wa b r s we (.bool h)) := fun h hh we hm => hm.high 2 (AP.out.high.trans hh)
      have E1 := Lib.hid e1
      have E2 := Lib.hid e2
      have E3 := Lib.hid e3
      have b3 : bits .and .u64 ctl 3 = (m : Int) := by rw [bits3 ctl C0.out C1.out]; have := C0.out; omega
      have b1 : bits .and .u64 ctl 1 = ((m % 2 : Nat) : Int) := by rw [bitsOne ctl C0.out C1.out]; have := C0.out; omega
      clear hgo hme e1 e2 e3 AP MN HS
      have hm' : m = 0 ∨ m = 1 ∨ m = 2 ∨ m = 3 := by omega
      clear hm4
      have V0' := V0.out
      rcases hx with ⟨hkl, rfl⟩ | rfl
      · have hkl' : (60 : Int) < (len : Int) := by omega
        clear hk1 hk2 hkl
        by_cases hz : cval = 0
        · subst hz
          clear V0' V1 V0
          rcases hm' with rfl | rfl | rfl | rfl
          · obtain ⟨mm, m2, a, b3', b1', b2', o1, o2, hc⟩ : ∃ mm m2 a : Int, bits .and .u64 ctl 3 = mm ∧ bits .and .u64 ctl 1 = m2 ∧ bits .or .u64 mm 0 = a ∧ (m2 == 1) = false ∧ (mm == 1) = false ∧ Calls Try.prog 11 #[.pointer (some ⟨b, 0, none⟩), .int .i64 2, .int .i64 24345] wr (Rd wa b r s wr (.tuple #[.int .u64 a, .int .i64 0])) := ⟨0, 0, 0, b3, b1, rfl, rfl, rfl, E1.out 0 (by simp)⟩
            have E6 := Lib.hid hc
            have E7 := Lib.hid (E3.out false (by simp))
            clear E1 E3 b3 b1 hc
            go_wp2_with fail
            refine E6.out.mono ?_
            rintro e we ⟨rfl, n1, _⟩
            have E4 := Lib.hid (E2.out _ n1)
            clear n1 E6
            go_wp2_with fail
            refine E4.out.mono ?_
            rintro e wf ⟨rfl, n2, _⟩
            have E5 := Lib.hid (E7.out _ n2)
            clear n2 E4
            go_wp2_with fail
            refine E5.out.mono ?_
            rintro e wg ⟨rfl, n3, _⟩
            have N3 := Lib.hid n3.fr
            clear n3 E5
            go_wp2_with fail
            go_ret
            exact ⟨rfl, (F0.out.trans N3.out).bel⟩
          · obtain ⟨mm, m2, a, b3', b1', b2', o1, o2, hc⟩ : ∃ mm m2 a : Int, bits .and .u64 ctl 3 = mm ∧ bits .and .u64 ctl 1 = m2 ∧ bits .or .u64 mm 4 = a ∧ (m2 == 1) = true ∧ (mm == 1) = true ∧ Calls Try.prog 11 #[.pointer (some ⟨b, 0, none⟩), .int .i64 2, .int .i64 24345] wr (Rd wa b r s wr (.tuple #[.int .u64 a, .int .i64 0])) := ⟨1, 1, 5, b3, b1, rfl, rfl, rfl, E1.out 5 (by simp)⟩
            have E6 := Lib.hid hc
            have E7 := Lib.hid (E3.out true (by simp))
            clear E1 E3 b3 b1 hc
            go_wp2_with fail
            refine E6.out.mono ?_
            rintro e we ⟨rfl, n1, _⟩
            have E4 := Lib.hid (E2.out _ n1)
            clear n1 E6
            go_wp2_with fail
            refine E4.out.mono ?_
            rintro e wf ⟨rfl, n2, _⟩
            have E5 := Lib.hid (E7.out _ n2)
            clear n2 E4
            go_wp2_with fail
            refine E5.out.mono ?_
            rintro e wg ⟨rfl, n3, _⟩
            have N3 := Lib.hid n3.fr
            clear n3 E5
            go_wp2_with fail
            go_ret
            exact ⟨rfl, (F0.out.trans N3.out).bel⟩
          · obtain ⟨mm, m2, a, b3', b1', b2', o1, o2, hc⟩ : ∃ mm m2 a : Int, bits .and .u64 ctl 3 = mm ∧ bits .and .u64 ctl 1 = m2 ∧ bits .or .u64 mm 0 = a ∧ (m2 == 1) = false ∧ (mm == 1) = false ∧ Calls Try.prog 11 #[.pointer (some ⟨b, 0, none⟩), .int .i64 2, .int .i64 24345] wr (Rd wa b r s wr (.tuple #[.int .u64 a, .int .i64 0])) := ⟨2, 0, 2, b3, b1, rfl, rfl, rfl, E1.out 2 (by simp)⟩
            have E6 := Lib.hid hc
            have E7 := Lib.hid (E3.out false (by simp))
            clear E1 E3 b3 b1 hc
            go_wp2_with fail
            refine E6.out.mono ?_
            rintro e we ⟨rfl, n1, _⟩
            have E4 := Lib.hid (E2.out _ n1)
            clear n1 E6
            go_wp2_with fail
            refine E4.out.mono ?_
            rintro e wf ⟨rfl, n2, _⟩
            have E5 := Lib.hid (E7.out _ n2)
            clear n2 E4
            go_wp2_with fail
            refine E5.out.mono ?_
            rintro e wg ⟨rfl, n3, _⟩
            have N3 := Lib.hid n3.fr
            clear n3 E5
            go_wp2_with fail
            go_ret
            exact ⟨rfl, (F0.out.trans N3.out).bel⟩
          · obtain ⟨mm, m2, a, b3', b1', b2', o1, o2, hc⟩ : ∃ mm m2 a : Int, bits .and .u64 ctl 3 = mm ∧ bits .and .u64 ctl 1 = m2 ∧ bits .or .u64 mm 4 = a ∧ (m2 == 1) = true ∧ (mm == 1) = false ∧ Calls Try.prog 11 #[.pointer (some ⟨b, 0, none⟩), .int .i64 2, .int .i64 24345] wr (Rd wa b r s wr (.tuple #[.int .u64 a, .int .i64 0])) := ⟨3, 1, 7, b3, b1, rfl, rfl, rfl, E1.out 7 (by simp)⟩
            have E6 := Lib.hid hc
            have E7 := Lib.hid (E3.out false (by simp))
            clear E1 E3 b3 b1 hc
            go_wp2_with fail
            refine E6.out.mono ?_
            rintro e we ⟨rfl, n1, _⟩
            have E4 := Lib.hid (E2.out _ n1)
            clear n1 E6
            go_wp2_with fail
            refine E4.out.mono ?_
            rintro e wf ⟨rfl, n2, _⟩
            have E5 := Lib.hid (E7.out _ n2)
            clear n2 E4
            go_wp2_with fail
            refine E5.out.mono ?_
            rintro e wg ⟨rfl, n3, _⟩
            have N3 := Lib.hid n3.fr
            clear n3 E5
            go_wp2_with fail
            go_ret
            exact ⟨rfl, (F0.out.trans N3.out).bel⟩
        · have hz1 : (cval == 0) = false := by simpa using hz
          have hz2 : ¬ (cval ≤ 0) := by omega
          have HZ := Lib.hid hz2
          clear hz hz2 V0' V0 V1
          rcases hm' with rfl | rfl | rfl | rfl
          · obtain ⟨mm, m2, a, b3', b1', b2', o1, o2, hc⟩ : ∃ mm m2 a : Int, bits .and .u64 ctl 3 = mm ∧ bits .and .u64 ctl 1 = m2 ∧ bits .or .u64 mm 0 = a ∧ (m2 == 1) = false ∧ (mm == 1) = false ∧ Calls Try.prog 11 #[.pointer (some ⟨b, 0, none⟩), .int .i64 2, .int .i64 24345] wr (Rd wa b r s wr (.tuple #[.int .u64 a, .int .i64 0])) := ⟨0, 0, 0, b3, b1, rfl, rfl, rfl, E1.out 0 (by simp [HZ.out])⟩
            have E6 := Lib.hid hc
            have E7 := Lib.hid (E3.out false (by simp [HZ.out]))
            clear E1 E3 b3 b1 hc
            go_wp2_with fail
            refine E6.out.mono ?_
            rintro e we ⟨rfl, n1, _⟩
            have E4 := Lib.hid (E2.out _ n1)
            clear n1 E6
            go_wp2_with fail
            refine E4.out.mono ?_
            rintro e wf ⟨rfl, n2, _⟩
            have E5 := Lib.hid (E7.out _ n2)
            clear n2 E4
            go_wp2_with fail
            refine E5.out.mono ?_
            rintro e wg ⟨rfl, n3, _⟩
            have N3 := Lib.hid n3.fr
            clear n3 E5
            go_wp2_with fail
            go_ret
            exact ⟨rfl, (F0.out.trans N3.out).bel⟩
          · obtain ⟨mm, m2, a, b3', b1', b2', o1, o2, hc⟩ : ∃ mm m2 a : Int, bits .and .u64 ctl 3 = mm ∧ bits .and .u64 ctl 1 = m2 ∧ bits .or .u64 mm 0 = a ∧ (m2 == 1) = true ∧ (mm == 1) = true ∧ Calls Try.prog 11 #[.pointer (some ⟨b, 0, none⟩), .int .i64 2, .int .i64 24345] wr (Rd wa b r s wr (.tuple #[.int .u64 a, .int .i64 0])) := ⟨1, 1, 1, b3, b1, rfl, rfl, rfl, E1.out 1 (by simp [HZ.out])⟩
            have E6 := Lib.hid hc
            have E7 := Lib.hid (E3.out false (by simp [HZ.out]))
            clear E1 E3 b3 b1 hc
            go_wp2_with fail
            refine E6.out.mono ?_
            rintro e we ⟨rfl, n1, _⟩
            have E4 := Lib.hid (E2.out _ n1)
            clear n1 E6
            go_wp2_with fail
            refine E4.out.mono ?_
            rintro e wf ⟨rfl, n2, _⟩
            have E5 := Lib.hid (E7.out _ n2)
            clear n2 E4
            go_wp2_with fail
            refine E5.out.mono ?_
            rintro e wg ⟨rfl, n3, _⟩
            have N3 := Lib.hid n3.fr
            clear n3 E5
            go_wp2_with fail
            go_ret
            exact ⟨rfl, (F0.out.trans N3.out).bel⟩
          · obtain ⟨mm, m2, a, b3', b1', b2', o1, o2, hc⟩ : ∃ mm m2 a : Int, bits .and .u64 ctl 3 = mm ∧ bits .and .u64 ctl 1 = m2 ∧ bits .or .u64 mm 0 = a ∧ (m2 == 1) = false ∧ (mm == 1) = false ∧ Calls Try.prog 11 #[.pointer (some ⟨b, 0, none⟩), .int .i64 2, .int .i64 24345] wr (Rd wa b r s wr (.tuple #[.int .u64 a, .int .i64 0])) := ⟨2, 0, 2, b3, b1, rfl, rfl, rfl, E1.out 2 (by simp [HZ.out])⟩
            have E6 := Lib.hid hc
            have E7 := Lib.hid (E3.out false (by simp [HZ.out]))
            clear E1 E3 b3 b1 hc
            go_wp2_with fail
            refine E6.out.mono ?_
            rintro e we ⟨rfl, n1, _⟩
            have E4 := Lib.hid (E2.out _ n1)
            clear n1 E6
            go_wp2_with fail
            refine E4.out.mono ?_
            rintro e wf ⟨rfl, n2, _⟩
            have E5 := Lib.hid (E7.out _ n2)
            clear n2 E4
            go_wp2_with fail
            refine E5.out.mono ?_
            rintro e wg ⟨rfl, n3, _⟩
            have N3 := Lib.hid n3.fr
            clear n3 E5
            go_wp2_with fail
            go_ret
            exact ⟨rfl, (F0.out.trans N3.out).bel⟩
          · obtain ⟨mm, m2, a, b3', b1', b2', o1, o2, hc⟩ : ∃ mm m2 a : Int, bits .and .u64 ctl 3 = mm ∧ bits .and .u64 ctl 1 = m2 ∧ bits .or .u64 mm 0 = a ∧ (m2 == 1) = true ∧ (mm == 1) = false ∧ Calls Try.prog 11 #[.pointer (some ⟨b, 0, none⟩), .int .i64 2, .int .i64 24345] wr (Rd wa b r s wr (.tuple #[.int .u64 a, .int .i64 0])) := ⟨3, 1, 3, b3, b1, rfl, rfl, rfl, E1.out 3 (by simp [HZ.out])⟩
            have E6 := Lib.hid hc
            have E7 := Lib.hid (E3.out false (by simp [HZ.out]))
            clear E1 E3 b3 b1 hc
            go_wp2_with fail
            refine E6.out.mono ?_
            rintro e we ⟨rfl, n1, _⟩
            have E4 := Lib.hid (E2.out _ n1)
            clear n1 E6
            go_wp2_with fail
            refine E4.out.mono ?_
            rintro e wf ⟨rfl, n2, _⟩
            have E5 := Lib.hid (E7.out _ n2)
            clear n2 E4
            go_wp2_with fail
            refine E5.out.mono ?_
            rintro e wg ⟨rfl, n3, _⟩
            have N3 := Lib.hid n3.fr
            clear n3 E5
            go_wp2_with fail
            go_ret
            exact ⟨rfl, (F0.out.trans N3.out).bel⟩
      · clear hk1 hk2
        by_cases hz : cval = 0
        · subst hz
          clear V0' V1 V0
          rcases hm' with rfl | rfl | rfl | rfl
          · obtain ⟨mm, m2, a, b3', b1', b2', o1, o2, hc⟩ : ∃ mm m2 a : Int, bits .and .u64 ctl 3 = mm ∧ bits .and .u64 ctl 1 = m2 ∧ bits .or .u64 mm 0 = a ∧ (m2 == 1) = false ∧ (mm == 1) = false ∧ Calls Try.prog 11 #[.pointer (some ⟨b, 0, none⟩), .int .i64 2, .int .i64 24345] wr (Rd wa b r s wr (.tuple #[.int .u64 a, .int .i64 0])) := ⟨0, 0, 0, b3, b1, rfl, rfl, rfl, E1.out 0 (by simp)⟩
            have E6 := Lib.hid hc
            have E7 := Lib.hid (E3.out false (by simp))
            clear E1 E3 b3 b1 hc
            go_wp2_with fail
            refine E6.out.mono ?_
            rintro e we ⟨rfl, n1, _⟩
            have E4 := Lib.hid (E2.out _ n1)
            clear n1 E6
            go_wp2_with fail
            refine E4.out.mono ?_
            rintro e wf ⟨rfl, n2, _⟩
            have E5 := Lib.hid (E7.out _ n2)
            clear n2 E4
            go_wp2_with fail
            refine E5.out.mono ?_
            rintro e wg ⟨rfl, n3, _⟩
            have N3 := Lib.hid n3.fr
            clear n3 E5
            go_wp2_with fail
            go_ret
            exact ⟨rfl, (F0.out.trans N3.out).bel⟩
          · obtain ⟨mm, m2, a, b3', b1', b2', o1, o2, hc⟩ : ∃ mm m2 a : Int, bits .and .u64 ctl 3 = mm ∧ bits .and .u64 ctl 1 = m2 ∧ bits .or .u64 mm 4 = a ∧ (m2 == 1) = true ∧ (mm == 1) = true ∧ Calls Try.prog 11 #[.pointer (some ⟨b, 0, none⟩), .int .i64 2, .int .i64 24345] wr (Rd wa b r s wr (.tuple #[.int .u64 a, .int .i64 0])) := ⟨1, 1, 5, b3, b1, rfl, rfl, rfl, E1.out 5 (by simp)⟩
            have E6 := Lib.hid hc
            have E7 := Lib.hid (E3.out true (by simp))
            clear E1 E3 b3 b1 hc
            go_wp2_with fail
            refine E6.out.mono ?_
            rintro e we ⟨rfl, n1, _⟩
            have E4 := Lib.hid (E2.out _ n1)
            clear n1 E6
            go_wp2_with fail
            refine E4.out.mono ?_
            rintro e wf ⟨rfl, n2, _⟩
            have E5 := Lib.hid (E7.out _ n2)
            clear n2 E4
            go_wp2_with fail
            refine E5.out.mono ?_
            rintro e wg ⟨rfl, n3, _⟩
            have N3 := Lib.hid n3.fr
            clear n3 E5
            go_wp2_with fail
            go_ret
            exact ⟨rfl, (F0.out.trans N3.out).bel⟩
          · obtain ⟨mm, m2, a, b3', b1', b2', o1, o2, hc⟩ : ∃ mm m2 a : Int, bits .and .u64 ctl 3 = mm ∧ bits .and .u64 ctl 1 = m2 ∧ bits .or .u64 mm 0 = a ∧ (m2 == 1) = false ∧ (mm == 1) = false ∧ Calls Try.prog 11 #[.pointer (some ⟨b, 0, none⟩), .int .i64 2, .int .i64 24345] wr (Rd wa b r s wr (.tuple #[.int .u64 a, .int .i64 0])) := ⟨2, 0, 2, b3, b1, rfl, rfl, rfl, E1.out 2 (by simp)⟩
            have E6 := Lib.hid hc
            have E7 := Lib.hid (E3.out false (by simp))
            clear E1 E3 b3 b1 hc
            go_wp2_with fail
            refine E6.out.mono ?_
            rintro e we ⟨rfl, n1, _⟩
            have E4 := Lib.hid (E2.out _ n1)
            clear n1 E6
            go_wp2_with fail
            refine E4.out.mono ?_
            rintro e wf ⟨rfl, n2, _⟩
            have E5 := Lib.hid (E7.out _ n2)
            clear n2 E4
            go_wp2_with fail
            refine E5.out.mono ?_
            rintro e wg ⟨rfl, n3, _⟩
            have N3 := Lib.hid n3.fr
            clear n3 E5
            go_wp2_with fail
            go_ret
            exact ⟨rfl, (F0.out.trans N3.out).bel⟩
          · obtain ⟨mm, m2, a, b3', b1', b2', o1, o2, hc⟩ : ∃ mm m2 a : Int, bits .and .u64 ctl 3 = mm ∧ bits .and .u64 ctl 1 = m2 ∧ bits .or .u64 mm 4 = a ∧ (m2 == 1) = true ∧ (mm == 1) = false ∧ Calls Try.prog 11 #[.pointer (some ⟨b, 0, none⟩), .int .i64 2, .int .i64 24345] wr (Rd wa b r s wr (.tuple #[.int .u64 a, .int .i64 0])) := ⟨3, 1, 7, b3, b1, rfl, rfl, rfl, E1.out 7 (by simp)⟩
            have E6 := Lib.hid hc
            have E7 := Lib.hid (E3.out false (by simp))
            clear E1 E3 b3 b1 hc
            go_wp2_with fail
            refine E6.out.mono ?_
            rintro e we ⟨rfl, n1, _⟩
            have E4 := Lib.hid (E2.out _ n1)
            clear n1 E6
            go_wp2_with fail
            refine E4.out.mono ?_
            rintro e wf ⟨rfl, n2, _⟩
            have E5 := Lib.hid (E7.out _ n2)
            clear n2 E4
            go_wp2_with fail
            refine E5.out.mono ?_
            rintro e wg ⟨rfl, n3, _⟩
            have N3 := Lib.hid n3.fr
            clear n3 E5
            go_wp2_with fail
            go_ret
            exact ⟨rfl, (F0.out.trans N3.out).bel⟩
        · have hz1 : (cval == 0) = false := by simpa using hz
          have hz2 : ¬ (cval ≤ 0) := by omega
          have HZ := Lib.hid hz2
          clear hz hz2 V0' V0 V1
          rcases hm' with rfl | rfl | rfl | rfl
          · obtain ⟨mm, m2, a, b3', b1', b2', o1, o2, hc⟩ : ∃ mm m2 a : Int, bits .and .u64 ctl 3 = mm ∧ bits .and .u64 ctl 1 = m2 ∧ bits .or .u64 mm 0 = a ∧ (m2 == 1) = false ∧ (mm == 1) = false ∧ Calls Try.prog 11 #[.pointer (some ⟨b, 0, none⟩), .int .i64 2, .int .i64 24345] wr (Rd wa b r s wr (.tuple #[.int .u64 a, .int .i64 0])) := ⟨0, 0, 0, b3, b1, rfl, rfl, rfl, E1.out 0 (by simp [HZ.out])⟩
            have E6 := Lib.hid hc
            have E7 := Lib.hid (E3.out false (by simp [HZ.out]))
            clear E1 E3 b3 b1 hc
            go_wp2_with fail
            refine E6.out.mono ?_
            rintro e we ⟨rfl, n1, _⟩
            have E4 := Lib.hid (E2.out _ n1)
            clear n1 E6
            go_wp2_with fail
            refine E4.out.mono ?_
            rintro e wf ⟨rfl, n2, _⟩
            have E5 := Lib.hid (E7.out _ n2)
            clear n2 E4
            go_wp2_with fail
            refine E5.out.mono ?_
            rintro e wg ⟨rfl, n3, _⟩
            have N3 := Lib.hid n3.fr
            clear n3 E5
            go_wp2_with fail
            go_ret
            exact ⟨rfl, (F0.out.trans N3.out).bel⟩
          · obtain ⟨mm, m2, a, b3', b1', b2', o1, o2, hc⟩ : ∃ mm m2 a : Int, bits .and .u64 ctl 3 = mm ∧ bits .and .u64 ctl 1 = m2 ∧ bits .or .u64 mm 0 = a ∧ (m2 == 1) = true ∧ (mm == 1) = true ∧ Calls Try.prog 11 #[.pointer (some ⟨b, 0, none⟩), .int .i64 2, .int .i64 24345] wr (Rd wa b r s wr (.tuple #[.int .u64 a, .int .i64 0])) := ⟨1, 1, 1, b3, b1, rfl, rfl, rfl, E1.out 1 (by simp [HZ.out])⟩
            have E6 := Lib.hid hc
            have E7 := Lib.hid (E3.out false (by simp [HZ.out]))
            clear E1 E3 b3 b1 hc
            go_wp2_with fail
            refine E6.out.mono ?_
            rintro e we ⟨rfl, n1, _⟩
            have E4 := Lib.hid (E2.out _ n1)
            clear n1 E6
            go_wp2_with fail
            refine E4.out.mono ?_
            rintro e wf ⟨rfl, n2, _⟩
            have E5 := Lib.hid (E7.out _ n2)
            clear n2 E4
            go_wp2_with fail
            refine E5.out.mono ?_
            rintro e wg ⟨rfl, n3, _⟩
            have N3 := Lib.hid n3.fr
            clear n3 E5
            go_wp2_with fail
            go_ret
            exact ⟨rfl, (F0.out.trans N3.out).bel⟩
          · obtain ⟨mm, m2, a, b3', b1', b2', o1, o2, hc⟩ : ∃ mm m2 a : Int, bits .and .u64 ctl 3 = mm ∧ bits .and .u64 ctl 1 = m2 ∧ bits .or .u64 mm 0 = a ∧ (m2 == 1) = false ∧ (mm == 1) = false ∧ Calls Try.prog 11 #[.pointer (some ⟨b, 0, none⟩), .int .i64 2, .int .i64 24345] wr (Rd wa b r s wr (.tuple #[.int .u64 a, .int .i64 0])) := ⟨2, 0, 2, b3, b1, rfl, rfl, rfl, E1.out 2 (by simp [HZ.out])⟩
            have E6 := Lib.hid hc
            have E7 := Lib.hid (E3.out false (by simp [HZ.out]))
            clear E1 E3 b3 b1 hc
            go_wp2_with fail
            refine E6.out.mono ?_
            rintro e we ⟨rfl, n1, _⟩
            have E4 := Lib.hid (E2.out _ n1)
            clear n1 E6
            go_wp2_with fail
            refine E4.out.mono ?_
            rintro e wf ⟨rfl, n2, _⟩
            have E5 := Lib.hid (E7.out _ n2)
            clear n2 E4
            go_wp2_with fail
            refine E5.out.mono ?_
            rintro e wg ⟨rfl, n3, _⟩
            have N3 := Lib.hid n3.fr
            clear n3 E5
            go_wp2_with fail
            go_ret
            exact ⟨rfl, (F0.out.trans N3.out).bel⟩
          · obtain ⟨mm, m2, a, b3', b1', b2', o1, o2, hc⟩ : ∃ mm m2 a : Int, bits .and .u64 ctl 3 = mm ∧ bits .and .u64 ctl 1 = m2 ∧ bits .or .u64 mm 0 = a ∧ (m2 == 1) = true ∧ (mm == 1) = false ∧ Calls Try.prog 11 #[.pointer (some ⟨b, 0, none⟩), .int .i64 2, .int .i64 24345] wr (Rd wa b r s wr (.tuple #[.int .u64 a, .int .i64 0])) := ⟨3, 1, 3, b3, b1, rfl, rfl, rfl, E1.out 3 (by simp [HZ.out])⟩
            have E6 := Lib.hid hc
            have E7 := Lib.hid (E3.out false (by simp [HZ.out]))
            clear E1 E3 b3 b1 hc
            go_wp2_with fail
            refine E6.out.mono ?_
            rintro e we ⟨rfl, n1, _⟩
            have E4 := Lib.hid (E2.out _ n1)
            clear n1 E6
            go_wp2_with fail
            refine E4.out.mono ?_
            rintro e wf ⟨rfl, n2, _⟩
            have E5 := Lib.hid (E7.out _ n2)
            clear n2 E4
            go_wp2_with fail
            refine E5.out.mono ?_
            rintro e wg ⟨rfl, n3, _⟩
            have N3 := Lib.hid n3.fr
            clear n3 E5
            go_wp2_with fail
            go_ret
            exact ⟨rfl, (F0.out.trans N3.out).bel⟩
end Go.Proofs.Ytoehhbcocecibaa
