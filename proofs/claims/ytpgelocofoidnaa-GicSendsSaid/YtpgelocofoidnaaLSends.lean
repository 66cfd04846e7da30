/- GicSends, walked. -/
import Derived.Test.YtpgelocofoidnaaGarr
import Derived.StillTailTactics
set_option linter.unusedSimpArgs false
set_option linter.unusedVariables false
namespace Go.Proofs.Ytpgelocofoidnaa
open Go.RowKit
set_option maxRecDepth 100000

theorem sendK_get (s : GS) (t : Int) (id : Nat) (hi : id < 32) (c i : Nat) : ∀ k, (s.sendK t id k).get c i = if c < k ∧ i = id ∧ bitB t c = true then { s.get c i with la := true } else s.get c i
  | 0 => by simp [GS.sendK]
  | k + 1 => by
    have ih := sendK_get s t id hi c i k
    unfold GS.sendK
    by_cases hb : bitB t k = true
    · rw [if_pos hb]
      by_cases hq : i = id
      · subst hq
        by_cases hc : c = k
        · subst hc
          rw [GS.get_put, sendK_get s t i hi c i c]
          simp [hb]
        · rw [GS.get_put_core _ _ _ _ _ _ hc hi, ih]
          have e : (c < k + 1) = (c < k) := by apply propext; omega
          simp only [e]
      · rw [GS.get_put_ne _ _ _ _ _ _ hq, ih]
        simp [hq]
    · rw [if_neg hb, ih]
      by_cases hc : c = k
      · subst hc
        simp [hb]
      · have e : (c < k + 1) = (c < k) := by apply propext; omega
        simp only [e]
theorem send_tell {s : GS} {t : Int} {id : Nat} (hc : s.c = 3) (hf : fits s t (id : Int) = true) {c i : Nat} (h1 : c < 3) (h2 : i < 64) :
    (s.send t (id : Int)).tellB I.pn (c : Int) (i : Int) = (s.tellB I.pn (c : Int) (i : Int) || ((i : Int) == (id : Int) && bitB t c)) := by
  have hid : id < 32 := by
    simp only [fits, Bool.and_eq_true, decide_eq_true_eq] at hf
    omega
  have e : s.send t (id : Int) = s.sendK t id s.c := by unfold GS.send; rw [hf, if_pos rfl, Int.toNat_natCast]
  have ec : (s.send t (id : Int)).c = 3 := (GS.send_c _ _ _).trans hc
  rw [tell_nat _ I.pn (c := c) (id := i) (by omega) h2, tell_nat s I.pn (c := c) (id := i) (by omega) h2, e, sendK_get s t id hid, hc]
  have hq : ((i : Int) == (id : Int)) = decide (i = id) := by
    by_cases h : i = id
    · subst h; simp
    · have : (i : Int) ≠ (id : Int) := by omega
      simp [h, this]
  rw [hq]
  by_cases h : i = id
  · cases hb : bitB t c
    · simp [h]
    · simp [h, h1, I.pn]
  · simp [h]
def pj (s : GS) (j : Nat) : Bool := s.tellB I.pn ((j / 64 : Nat) : Int) ((j % 64 : Nat) : Int)
theorem pj_at (s : GS) {k i : Nat} (h : i < 64) : pj s (k * 64 + i) = s.tellB I.pn (k : Int) (i : Int) := by
  unfold pj
  rw [show (k * 64 + i) / 64 = k by omega, show (k * 64 + i) % 64 = i by omega]
theorem pj_step (s : GS) (m : Nat) : barr 192 (upd (fun j => decide (j < m) && pj s j) m (pj s m)) = barr 192 fun j => decide (j < m + 1) && pj s j := barr_congr fun j hj => by
  by_cases e : j = m
  · subst e; rw [upd_same]; simp
  · rw [upd_other _ _ e]
    have : decide (j < m) = decide (j < m + 1) := by simp; omega
    rw [this]
set_option maxHeartbeats 4000000 in
theorem gicSends_walk (a0 : Option Addr) (len cap : Nat) (S : Nat → Stp) (t id : Int) (w : World) (hl : len ≤ cap) (hcap : cap ≤ maxLen) (hs : Steps w a0 len S) (w1 : (Lit.int .i64 t).wf = true) (w2 : (Lit.int .i64 id).wf = true) :
    Calls Try.prog 7 #[.slice a0 len cap, .int .i64 t, .int .i64 id] w fun e w' => e = .returned (.bool true) ∧ Below w.heap.size w w' := by
  have HS := Lib.hid hs
  have HL := Lib.hid (And.intro hl hcap)
  clear hs hl hcap w1 w2
  go_enter Try.func7, Try.ntmps7
  go_wp2_with fail
  refine (known_ok w).mono ?_
  rintro e wa ⟨rfl, f0⟩
  have F0 := Lib.hid f0
  clear f0
  go_wp2_with fail
  refine (made_ok (fun k => k < w.heap.size) a0 len cap S wa (fun k hk => Nat.lt_of_lt_of_le hk F0.out.size) (HS.out.fr F0.out fun _ _ _ _ x => x) (fun h0 b off e hb => by
    obtain ⟨b', off', e', hb', -⟩ := HS.out 0 h0
    rw [e'] at e
    cases e
    exact hb') HL.out.1 HL.out.2).mono ?_
  rintro e wb ⟨gb, n, rfl, g0, hn, f1⟩
  have hc := runS_c S n
  have hA : AtLe (runS S n) 100 := (runS_at S n).mono rfl rfl hn
  generalize runS S n = s at *
  have G0 := Lib.hid g0
  have HC := Lib.hid hc
  have HAt := Lib.hid hA
  have F1 := Lib.hid (F0.out.nil.trans f1)
  clear g0 hc hA f1
  go_upto_region 6 with fail
  have B4 := Lib.hid (Blk.cast (cs' := (barr 192 fun j => decide (j < 0) && pj s j).toArray) (Blk.new wb 44 Try.zeroCells44) (by rw [barr_congr (g := fun _ => false) (fun k _ => by simp)]; kernel_rfl))
  have G4 := Lib.hid (G0.out.more (.cells Try.zeroCells44 44))
  have F4 := Lib.hid (F1.out.alloc (.cells Try.zeroCells44 44))
  generalize (wb.alloc (.cells Try.zeroCells44 44)) = w4 at *
  obtain ⟨bb, hbb⟩ : ∃ bb, bb = wb.heap.size := ⟨_, rfl⟩
  rw [← hbb] at G4 B4 ⊢
  have HBB := Lib.hid (show w.heap.size ≤ bb by have := F1.out.size; omega)
  clear hbb G0 F1
  go_wp2_with fail
  go_loopw [10] (fun i wr => ∃ k : Nat, k ≤ 3 ∧ i = .int .i64 (k : Int) ∧ Gk (More (fun k => k < w.heap.size) bb) wr gb s ∧ Blk wr bb 44 (barr 192 fun j => decide (j < k * 64) && pj s j).toArray ∧ Fr (Not fun k => k < w.heap.size) w wr) (fun i _ => 3 - (intOf i).toNat)
  case atStart => exact ⟨0, by omega, rfl, G4.out, B4.out.cast (by rw [Nat.zero_mul]), F4.out⟩
  case round =>
    obtain ⟨k, hk, rfl, hg, hb, hf⟩ := hrel
    have HG := Lib.hid hg
    have HF := Lib.hid hf
    have HBk := Lib.hid hb
    clear hg hf hb
    by_cases hlt : k < 3
    · have k3 : (k : Int) < 3 := by omega
      have HK := Lib.hid hlt
      clear hk hlt
      go_wp2_with fail
      go_loopw [11] (fun i wr => ∃ m : Nat, m ≤ 64 ∧ i = .int .i64 (m : Int) ∧ Gk (More (fun k => k < w.heap.size) bb) wr gb s ∧ Blk wr bb 44 (barr 192 fun j => decide (j < k * 64 + m) && pj s j).toArray ∧ Fr (Not fun k => k < w.heap.size) w wr) (fun i _ => 64 - (intOf i).toNat)
      case atStart => exact ⟨0, by omega, rfl, HG.out, HBk.out, HF.out⟩
      case round =>
        obtain ⟨m, hm, rfl, hg, hb, hf⟩ := hrel
        clear HG HF HBk
        have HG := Lib.hid hg
        have HF := Lib.hid hf
        have HBk := Lib.hid hb
        clear hg hf hb
        by_cases hlt : m < 64
        · have PN := (HG.out.still (Fr.refl Nil wr).drew).pending (k : Int) (m : Int)
          rw [← pj_at s hlt] at PN
          have PN' := Lib.hid PN
          have m64 : (m : Int) < 64 := by omega
          have HM := Lib.hid hlt
          have lt := show k * 64 + m < 192 by have := HK.out; omega
          clear hm hlt PN
          go_upto_region 12 with fail
          go_still_tail 8, (by kernel_rfl)
          refine wpStill_step (fun K hK => ?_)
          go_simp
          refine ⟨_, PN'.out.mono (fun e w' h => ⟨h.1, h.2.symm⟩), hK _ ?_⟩
          clear hK K
          repeat still_step
          refine wpStill_nil ?_
          change wpList _ _ _ _ _ wr.drew
          have HG2 := Lib.hid (HG.out.still (Fr.refl Nil wr).drew)
          have HB2 := Lib.hid HBk.out.drew
          have HF2 := Lib.hid HF.out.drew
          clear PN' HG HBk HF
          generalize wr.drew = wr2 at *
          have c1 := HB2.out.bget lt
          have z1 := HB2.out.frozen (k * 64 + m)
          have B5 := Lib.hid (HB2.out.bset lt (pj s (k * 64 + m)))
          have G5 := Lib.hid (HG2.out.setK (b := bb) (.inr rfl) (k * 64 + m) (.bool (pj s (k * 64 + m))))
          have F5 := Lib.hid (HF2.out.setCell (p := ⟨bb, k * 64 + m, none⟩) (.inl (show Not (fun k => k < w.heap.size) bb by have := HBB.out; unfold Not; omega)) (.bool (pj s (k * 64 + m))))
          clear lt HG2 HB2 HF2
          go_wp2_with fail
          go_roundw
          case rel => exact ⟨m + 1, HM.out, by go_num, G5.out, B5.out.cast (by rw [pj_step]; rfl), F5.out⟩
          case measure => have := HM.out; simp [intOf]; omega
        · have hm2 : 64 ≤ m := by omega
          have l64 : decide ((m : Int) < 64) = false := by simp; omega
          obtain rfl : m = 64 := by omega
          have HB2 := Lib.hid (show Blk wr bb 44 (barr 192 fun j => decide (j < (k + 1) * 64) && pj s j).toArray by have := HBk.out; rwa [show k * 64 + 64 = (k + 1) * 64 by omega] at this)
          clear hm hlt HBk hm2
          go_wp2_with fail
          go_roundw
          case rel => exact ⟨k + 1, HK.out, by go_num, HG.out, HB2.out, HF.out⟩
          case measure => have := HK.out; simp [intOf]; omega
    · have l3 : decide ((k : Int) < 3) = false := by simp; omega
      have K3 := Lib.hid (show 3 ≤ k by omega)
      have HBX := Lib.hid (show Blk wr bb 44 (barr 192 (pj s)).toArray from HBk.out.cast (by rw [barr_congr]; intro j hj; have : decide (j < k * 64) = true := by simp; omega
                                                                                             rw [this]; rfl))
      clear hk hlt HBk
      go_wp2_with fail
      refine (send_ok _ gb s t id _ HG.out).mono ?_
      rintro e w5 ⟨rfl, g5, f5⟩
      have B5 := Lib.hid (HBX.out.fr f5 fun hn => hn (.inr rfl))
      have F5 := Lib.hid (HF.out.step f5 fun i hi hn => .inl fun hk => hn (.inl hk))
      have G5 := Lib.hid g5
      clear g5 f5 HG HF HBX
      have ft : fits s t id = (decide (0 ≤ id) && decide (id ≤ 15) && decide (0 ≤ t) && decide (t < 8)) := by unfold fits; rw [HC.out]; rfl
      cases hk : fits s t id
      · have E1 : s.send t id = s := by unfold GS.send; rw [hk]; rfl
        have E2 : s.sendC t id = 1 := by unfold GS.sendC; rw [hk]; rfl
        rw [E1] at G5
        rw [E2]
        rw [hk] at ft
        have hk2 : decide (0 ≤ id) = false ∨ (decide (0 ≤ id) = true ∧ decide (id < 16) = false) ∨ (decide (0 ≤ id) = true ∧ decide (id < 16) = true ∧ decide (0 ≤ t) = false) ∨ (decide (0 ≤ id) = true ∧ decide (id < 16) = true ∧ decide (0 ≤ t) = true ∧ decide (t < 8) = false) := by
          have ft' := ft.symm
          simp only [Bool.and_eq_false_iff, decide_eq_false_iff_not] at ft'
          simp only [decide_eq_true_eq, decide_eq_false_iff_not]
          omega
        clear hk E1 E2 ft
        rcases hk2 with h1 | ⟨h1, h2⟩ | ⟨h1, h2, h3⟩ | ⟨h1, h2, h3, h4⟩
        all_goals
          go_upto_region 17 with fail
          go_wp2_with fail
          go_loop [14] (fun i => ∃ c : Nat, c ≤ 3 ∧ i = .int .i64 (c : Int)) (fun i => 3 - (intOf i).toNat)
          case atStart => exact ⟨0, by omega, rfl⟩
          case round =>
            obtain ⟨c, hc, rfl⟩ := hrel
            by_cases hlt : c < 3
            · have c3 : (c : Int) < 3 := by omega
              have HCC := Lib.hid hlt
              clear hc hlt
              go_wp2_with fail
              go_loop [15] (fun i => ∃ m : Nat, m ≤ 64 ∧ i = .int .i64 (m : Int)) (fun i => 64 - (intOf i).toNat)
              case atStart => exact ⟨0, by omega, rfl⟩
              case round =>
                obtain ⟨m, hm, rfl⟩ := hrel
                by_cases hlt : m < 64
                · have PN := G5.out.pending (c : Int) (m : Int)
                  have c1 := B5.out.bget (k := c * 64 + m) (by have := HCC.out; omega)
                  rw [pj_at s hlt] at c1
                  have m64 : (m : Int) < 64 := by omega
                  have HM := Lib.hid hlt
                  have PN' := Lib.hid PN
                  clear hm hlt PN
                  generalize s.tellB I.pn (c : Int) (m : Int) = pb at *
                  cases pb
                  all_goals
                    go_wp2_with (go_at_call 18; refine PN'.out.mono ?_; rintro e w9 ⟨rfl, rfl⟩)
                    go_round
                    case rel => exact ⟨m + 1, HM.out, by go_num⟩
                    case measure => have := HM.out; simp [intOf]; omega
                · have l64 : decide ((m : Int) < 64) = false := by simp; omega
                  obtain rfl : m = 64 := by omega
                  clear hm hlt
                  go_wp2_with fail
                  go_round
                  case rel => exact ⟨c + 1, HCC.out, by go_num⟩
                  case measure => have := HCC.out; simp [intOf]; omega
            · have l3 : decide ((c : Int) < 3) = false := by simp; omega
              clear hc hlt
              go_wp2_with fail
              go_ret
              exact ⟨rfl, F5.out.old.below (Nat.le_refl _) fun _ _ x => x⟩
      · obtain ⟨id, rfl⟩ : ∃ n : Nat, id = (n : Int) := ⟨id.toNat, by rw [hk] at ft; have ft' := ft.symm; simp only [decide_eq_true_eq, Bool.and_eq_true] at ft'; omega⟩
        have E2 : s.sendC t (id : Int) = 0 := by unfold GS.sendC; rw [hk]; rfl
        rw [E2]
        have TL := Lib.hid (fun (c i : Nat) (h1 : c < 3) (h2 : i < 64) => send_tell (t := t) HC.out hk h1 h2)
        rw [hk] at ft
        have ft' := ft.symm
        simp only [Bool.and_eq_true, decide_eq_true_eq] at ft'
        obtain ⟨⟨⟨i0, i1⟩, i2⟩, i3⟩ := ft'
        have d0 : decide (0 ≤ (id : Int)) = true := by simp
        have d1 : decide ((id : Int) < 16) = true := by simp; omega
        have d2 : decide (0 ≤ t) = true := by simp; exact i2
        have d3 : decide (t < 8) = true := by simp; exact i3
        clear hk E2 ft i0 i1 i2 i3
        go_upto_region 17 with fail
        go_wp2_with fail
        go_loop [14] (fun i => ∃ c : Nat, c ≤ 3 ∧ i = .int .i64 (c : Int)) (fun i => 3 - (intOf i).toNat)
        case atStart => exact ⟨0, by omega, rfl⟩
        case round =>
          obtain ⟨c, hc, rfl⟩ := hrel
          by_cases hlt : c < 3
          · have c3 : (c : Int) < 3 := by omega
            have HCC := Lib.hid hlt
            clear hc hlt
            go_wp2_with fail
            go_loop [15] (fun i => ∃ m : Nat, m ≤ 64 ∧ i = .int .i64 (m : Int)) (fun i => 64 - (intOf i).toNat)
            case atStart => exact ⟨0, by omega, rfl⟩
            case round =>
              obtain ⟨m, hm, rfl⟩ := hrel
              by_cases hlt : m < 64
              · have PN := G5.out.pending (c : Int) (m : Int)
                have c1 := B5.out.bget (k := c * 64 + m) (by have := HCC.out; omega)
                rw [pj_at s hlt] at c1
                have m64 : (m : Int) < 64 := by omega
                have HM := Lib.hid hlt
                rw [TL.out c m HCC.out hlt] at PN
                have PN' := Lib.hid PN
                have bq : bitB t c = (bits BinOp.and IntKind.i64 (t / 2 ^ c) 1 == 1) := rfl
                clear hm hlt PN
                rw [bq] at PN'
                generalize s.tellB I.pn (c : Int) (m : Int) = pb at *
                cases pb
                · cases hq : ((m : Int) == (id : Int))
                  · rw [hq] at PN'
                    simp only [Bool.false_or, Bool.false_and] at PN'
                    go_wp2_with (go_at_call 18; refine PN'.out.mono ?_; rintro e w9 ⟨rfl, rfl⟩)
                    go_round
                    case rel => exact ⟨m + 1, HM.out, by go_num⟩
                    case measure => have := HM.out; simp [intOf]; omega
                  · rw [hq] at PN'
                    simp only [Bool.false_or, Bool.true_and] at PN'
                    cases hz : (bits BinOp.and IntKind.i64 (t / 2 ^ c) 1 == 1)
                    all_goals
                      rw [hz] at PN'
                      go_wp2_with (go_at_call 18; refine PN'.out.mono ?_; rintro e w9 ⟨rfl, rfl⟩)
                      go_round
                      case rel => exact ⟨m + 1, HM.out, by go_num⟩
                      case measure => have := HM.out; simp [intOf]; omega
                · simp only [Bool.true_or] at PN'
                  go_wp2_with (go_at_call 18; refine PN'.out.mono ?_; rintro e w9 ⟨rfl, rfl⟩)
                  go_round
                  case rel => exact ⟨m + 1, HM.out, by go_num⟩
                  case measure => have := HM.out; simp [intOf]; omega
              · have l64 : decide ((m : Int) < 64) = false := by simp; omega
                obtain rfl : m = 64 := by omega
                clear hm hlt
                go_wp2_with fail
                go_round
                case rel => exact ⟨c + 1, HCC.out, by go_num⟩
                case measure => have := HCC.out; simp [intOf]; omega
          · have l3 : decide ((c : Int) < 3) = false := by simp; omega
            clear hc hlt
            go_wp2_with fail
            go_ret
            exact ⟨rfl, F5.out.old.below (Nat.le_refl _) fun _ _ x => x⟩
end Go.Proofs.Ytpgelocofoidnaa
