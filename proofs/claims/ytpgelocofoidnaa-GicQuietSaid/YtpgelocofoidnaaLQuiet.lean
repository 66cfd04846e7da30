/- GicQuiet, walked. -/
import Derived.Test.YtpgelocofoidnaaGpl
set_option linter.unusedSimpArgs false
set_option linter.unusedSectionVars false
namespace Go.Proofs.Ytpgelocofoidnaa
open Go.RowKit
set_option linter.unusedVariables false
set_option maxRecDepth 100000

def enK (s : GS) (c : Nat) : Nat → GS
  | 0 => s
  | k + 1 => (enK s c k).enable (c : Int) (k : Int) false
theorem enK_c (s : GS) (c : Nat) : ∀ k, (enK s c k).c = s.c
  | 0 => rfl
  | k + 1 => (GS.setF_c _ _ _ _).trans (enK_c s c k)
theorem enK_at (s : GS) (c : Nat) : ∀ k, (enK s c k).at_ = s.at_
  | 0 => rfl
  | k + 1 => (GS.setF_at _ _ _ _).trans (enK_at s c k)
theorem enK_get {s : GS} {c : Nat} (h : c < s.c) : ∀ k, k ≤ 64 → ∀ id, id < k → ((enK s c k).get c id).en = false
  | 0, _, id, h => absurd h (by omega)
  | k + 1, hk, id, hid => by
    have e : enK s c (k + 1) = (enK s c k).put c k { (enK s c k).get c k with en := false } := GS.setF_nat (enK s c k) (fun x => { x with en := false }) (by rw [enK_c]; exact h) (by omega)
    rw [e]
    by_cases hq : id = k
    · subst hq; rw [GS.get_put]
    · rw [GS.get_put_ne _ _ _ _ _ _ hq]
      exact enK_get h k (by omega) id (by omega)
theorem enK_best {s : GS} {c : Nat} (h : c < s.c) : (enK s c 64).best (c : Int) = (0, false) :=
  best_none (by rw [enK_c]; exact h) fun id hid => by
    unfold candB
    rw [enK_get h 64 (by omega) id hid]
    rfl
theorem mask_best {s : GS} {c : Nat} (h : c < s.c) (hr : RankOk s) : (s.mask (c : Int) 0).best (c : Int) = (0, false) ∧ (s.mask (c : Int) 0).c = s.c ∧ (s.mask (c : Int) 0).at_ = s.at_ := by
  have e : s.mask (c : Int) 0 = { s with lim := upd s.lim c 0 } := by
    unfold GS.mask
    rw [there_nat h, if_pos (by decide), Int.toNat_natCast]
  rw [e]
  exact ⟨best_masked (s := { s with lim := upd s.lim c 0 }) h hr (by show upd s.lim c 0 c ≤ 0; rw [upd_same]; exact Int.le_refl 0), rfl, rfl⟩
set_option maxHeartbeats 4000000 in
theorem gicQuiet_walk (a0 : Option Addr) (len cap : Nat) (S : Nat → Stp) (core : Int) (how : Bool) (w : World) (hl : len ≤ cap) (hcap : cap ≤ maxLen) (hs : Steps w a0 len S) (w1 : (Lit.int .i64 core).wf = true) :
    Calls Try.prog 6 #[.slice a0 len cap, .int .i64 core, .bool how] w fun e w' => e = .returned (.bool true) ∧ Below w.heap.size w w' := by
  obtain ⟨p1, p2⟩ := i64_rng w1
  have HS := Lib.hid hs
  have HL := Lib.hid (And.intro hl hcap)
  have PK := Lib.hid (fun W => pick_ok core 3 W p1 p2 (by omega) (by omega))
  obtain ⟨c, hc, hc3⟩ : ∃ c : Nat, pk core 3 = (c : Int) ∧ c < 3 := ⟨(pk core 3).toNat, by have := pk_rng core 3 (by omega); omega, by have := pk_rng core 3 (by omega); omega⟩
  rw [hc] at PK
  have C3 := Lib.hid hc3
  clear hs hl hcap w1 hc hc3 p1 p2
  go_enter Try.func6, Try.ntmps6
  go_wp2_with fail
  refine (known_ok w).mono ?_
  rintro e wa ⟨rfl, f0⟩
  have F0 := Lib.hid f0
  clear f0
  go_wp2_with fail
  refine (made_ok (fun k => k < w.heap.size) a0 len cap S wa (fun k hk => Nat.lt_of_lt_of_le hk F0.out.size) (HS.out.fr F0.out fun _ _ _ _ x => x) (fun h0 b off e hb => by
    obtain ⟨b', off', e', hb', -⟩ := HS.out 0 h0
    rw [e'] at e
    cases e
    exact hb') HL.out.1 HL.out.2).mono ?_
  rintro e wb ⟨gb, n, rfl, g0, hn, f1⟩
  have hc := runS_c S n
  have hA : AtLe (runS S n) 100 := (runS_at S n).mono rfl rfl hn
  have hR := rankOk_run S n
  generalize runS S n = s at *
  have G0 := Lib.hid g0
  have HC := Lib.hid hc
  have HAt := Lib.hid hA
  have HR := Lib.hid hR
  have F1 := Lib.hid (F0.out.nil.trans f1)
  have CS := Lib.hid (show c < s.c by have := C3.out; omega)
  clear g0 hc hA f1 hR
  go_wp2_with fail
  refine (PK.out _).mono ?_
  rintro e w9 ⟨rfl, rfl⟩
  cases how
  · go_wp2_with fail
    go_loopw [10] (fun i wr => ∃ k : Nat, k ≤ 64 ∧ i = .int .i64 (k : Int) ∧ Gk (fun k => k < w.heap.size) wr gb (enK s c k) ∧ Fr (Not fun k => k < w.heap.size) w wr) (fun i _ => 64 - (intOf i).toNat)
    case atStart => exact ⟨0, by omega, rfl, G0.out, F1.out⟩
    case round =>
      obtain ⟨k, hk, rfl, hg, hf⟩ := hrel
      have HG := Lib.hid hg
      have HF := Lib.hid hf
      clear hg hf
      by_cases hlt : k < 64
      · have OK := Lib.hid (enable_ok _ gb _ (c : Int) (k : Int) false wr HG.out)
        have HK := Lib.hid hlt
        have l1 : (k : Int) < 64 := by omega
        clear hk hlt
        go_wp2_with (go_at_call 15; refine OK.out.mono ?_; rintro e w3 ⟨rfl, g3, f3⟩; have G3 := Lib.hid g3; have F3 := Lib.hid f3; clear g3 f3)
        go_roundw
        case rel => exact ⟨k + 1, HK.out, by go_num, G3.out, HF.out.trans F3.out⟩
        case measure => have := HK.out; simp [intOf]; omega
      · obtain rfl : k = 64 := by omega
        have BE := Lib.hid (enK_best CS.out)
        have CS4 := Lib.hid (show c < (enK s c 64).c by rw [enK_c]; exact CS.out)
        have AT4 := Lib.hid (show AtLe (enK s c 64) 100 from HAt.out.mono (enK_c _ _ _) (enK_at _ _ _) (Nat.le_refl _))
        generalize enK s c 64 = s4 at *
        clear hk hlt
        go_wp2_with fail
        refine (HG.out.run (c : Int)).mono ?_
        rintro e w3 ⟨rfl, g3, f3⟩
        have G3 := Lib.hid g3
        have F3 := Lib.hid (HF.out.trans f3)
        clear g3 f3
        go_wp2_with fail
        refine (G3.out.best (c : Int)).mono ?_
        rintro e w4 ⟨rfl, g4, f4⟩
        rw [BE.out]
        have G4 := Lib.hid g4
        have F4 := Lib.hid (F3.out.trans f4)
        clear g4 f4
        go_wp2_with fail
        refine (ack_ok _ gb s4 (c : Int) w4 G4.out 100 (by omega) AT4.out).mono ?_
        rintro e w5 ⟨rfl, g5, f5⟩
        rw [(ack_no (s := s4) (c := (c : Int)) (by rw [BE.out])).1] at g5
        rw [(ack_no (s := s4) (c := (c : Int)) (by rw [BE.out])).2]
        have F5 := Lib.hid (F4.out.trans f5)
        have RN' := Lib.hid (g5.run (c : Int))
        clear g5 f5
        go_wp2_with (go_at_call 22; refine RN'.out.mono ?_; rintro e w6 ⟨rfl, -, f6⟩; have F6 := Lib.hid (F5.out.trans f6); clear f6)
        go_ret
        exact ⟨by simp, F6.out.old.below (Nat.le_refl _) fun _ _ => id⟩
  · go_wp2_with fail
    refine (mask_ok _ gb s (c : Int) 0 _ G0.out).mono ?_
    rintro e w2 ⟨rfl, g2, f2⟩
    have BE := Lib.hid (mask_best CS.out HR.out).1
    have AT4 := Lib.hid (show AtLe (s.mask (c : Int) 0) 100 from HAt.out.mono (mask_best CS.out HR.out).2.1 (mask_best CS.out HR.out).2.2 (Nat.le_refl _))
    generalize s.mask (c : Int) 0 = s4 at *
    have G2 := Lib.hid g2
    have F2 := Lib.hid (F1.out.trans f2)
    clear g2 f2
    go_wp2_with fail
    go_loopw [10] (fun i wr => i = .int .i64 0 ∧ Gk (fun k => k < w.heap.size) wr gb s4 ∧ Fr (Not fun k => k < w.heap.size) w wr) (fun i _ => 64 - (intOf i).toNat)
    case atStart => exact ⟨rfl, G2.out, F2.out⟩
    case round =>
      obtain ⟨rfl, hg, hf⟩ := hrel
      have HG := Lib.hid hg
      have HF := Lib.hid hf
      clear hg hf
      go_wp2_with fail
      refine (HG.out.run (c : Int)).mono ?_
      rintro e w3 ⟨rfl, g3, f3⟩
      have G3 := Lib.hid g3
      have F3 := Lib.hid (HF.out.trans f3)
      clear g3 f3
      go_wp2_with fail
      refine (G3.out.best (c : Int)).mono ?_
      rintro e w4 ⟨rfl, g4, f4⟩
      rw [BE.out]
      have G4 := Lib.hid g4
      have F4 := Lib.hid (F3.out.trans f4)
      clear g4 f4
      go_wp2_with fail
      refine (ack_ok _ gb s4 (c : Int) w4 G4.out 100 (by omega) AT4.out).mono ?_
      rintro e w5 ⟨rfl, g5, f5⟩
      rw [(ack_no (s := s4) (c := (c : Int)) (by rw [BE.out])).1] at g5
      rw [(ack_no (s := s4) (c := (c : Int)) (by rw [BE.out])).2]
      have F5 := Lib.hid (F4.out.trans f5)
      have RN' := Lib.hid (g5.run (c : Int))
      clear g5 f5
      go_wp2_with (go_at_call 22; refine RN'.out.mono ?_; rintro e w6 ⟨rfl, -, f6⟩; have F6 := Lib.hid (F5.out.trans f6); clear f6)
      go_ret
      exact ⟨by simp, F6.out.old.below (Nat.le_refl _) fun _ _ => id⟩
end Go.Proofs.Ytpgelocofoidnaa
