/- GicApart, walked. -/
import Derived.Test.YtpgelocofoidnaaGarr
set_option linter.unusedSimpArgs false
set_option linter.unusedSectionVars false
namespace Go.Proofs.Ytpgelocofoidnaa
open Go.RowKit
set_option linter.unusedVariables false
set_option maxRecDepth 100000

set_option maxHeartbeats 4000000 in
theorem gicApart_walk (a0 : Option Addr) (len cap : Nat) (S : Nat → Stp) (a1 : Option Addr) (len1 cap1 : Nat) (S1 : Nat → Stp) (w : World) (hl : len ≤ cap) (hcap : cap ≤ maxLen) (hs : Steps w a0 len S) (hl1 : len1 ≤ cap1) (hcap1 : cap1 ≤ maxLen) (hs1 : Steps w a1 len1 S1) :
    Calls Try.prog 8 #[.slice a0 len cap, .slice a1 len1 cap1] w fun e w' => e = .returned (.bool true) ∧ Below w.heap.size w w' := by
  have HS := Lib.hid hs
  have HL := Lib.hid (And.intro hl hcap)
  have HS1 := Lib.hid hs1
  have hlen1 : (len1 : Int) ≤ 9223372036854775807 := by simp only [maxLen] at hcap1; omega
  clear hs hl hcap hs1 hl1 hcap1
  go_enter Try.func8, Try.ntmps8
  go_wp2_with fail
  refine (known_ok w).mono ?_
  rintro e wa ⟨rfl, f0⟩
  have F0 := Lib.hid f0
  clear f0
  go_wp2_with fail
  refine (made_ok (fun k => k < w.heap.size) a0 len cap S wa (fun k hk => Nat.lt_of_lt_of_le hk F0.out.size) (HS.out.fr F0.out fun _ _ _ _ x => x) (fun h0 b off e hb => by
    obtain ⟨b', off', e', hb', -⟩ := HS.out 0 h0
    rw [e'] at e
    cases e
    exact hb') HL.out.1 HL.out.2).mono ?_
  rintro e wb ⟨gb, n, rfl, g0, hn, f1⟩
  have hc := runS_c S n
  have hA : AtLe (runS S n) 100 := (runS_at S n).mono rfl rfl hn
  generalize runS S n = s at *
  have G0 := Lib.hid g0
  have HC := Lib.hid hc
  have HAt := Lib.hid hA
  have F1 := Lib.hid (F0.out.nil.trans f1)
  clear g0 hc hA f1
  go_wp2_with fail
  refine (G0.out.best 1).mono ?_
  rintro e w2 ⟨rfl, g2, f2⟩
  have G2 := Lib.hid g2
  have F2 := Lib.hid (F1.out.trans f2)
  clear g2 f2
  go_wp2_with fail
  refine (G2.out.run 1).mono ?_
  rintro e w3 ⟨rfl, g3, f3⟩
  have G3 := Lib.hid g3
  have F3 := Lib.hid (F2.out.trans f3)
  clear g3 f3 G2 F2
  go_wp2_with fail
  refine (G3.out.limit 1).mono ?_
  rintro e w9 ⟨rfl, rfl⟩
  generalize hBEST : s.best 1 = best at *
  generalize hRUN : s.run 1 = rn at *
  generalize hLIM : s.limit 1 = lm at *
  have HB := Lib.hid (And.intro hBEST (And.intro hRUN hLIM))
  clear hBEST hRUN hLIM
  go_upto_region 9 with fail
  have B4 := Lib.hid (Blk.cast (cs' := (barr 32 fun _ => false).toArray) (Blk.new w3 46 #[.bool false, .bool false, .bool false, .bool false, .bool false, .bool false, .bool false, .bool false, .bool false, .bool false, .bool false, .bool false, .bool false, .bool false, .bool false, .bool false, .bool false, .bool false, .bool false, .bool false, .bool false, .bool false, .bool false, .bool false, .bool false, .bool false, .bool false, .bool false, .bool false, .bool false, .bool false, .bool false]) (by rfl))
  have G4 := Lib.hid (G3.out.more (.cells #[.bool false, .bool false, .bool false, .bool false, .bool false, .bool false, .bool false, .bool false, .bool false, .bool false, .bool false, .bool false, .bool false, .bool false, .bool false, .bool false, .bool false, .bool false, .bool false, .bool false, .bool false, .bool false, .bool false, .bool false, .bool false, .bool false, .bool false, .bool false, .bool false, .bool false, .bool false, .bool false] 46))
  have F4 := Lib.hid (F3.out.alloc (.cells #[.bool false, .bool false, .bool false, .bool false, .bool false, .bool false, .bool false, .bool false, .bool false, .bool false, .bool false, .bool false, .bool false, .bool false, .bool false, .bool false, .bool false, .bool false, .bool false, .bool false, .bool false, .bool false, .bool false, .bool false, .bool false, .bool false, .bool false, .bool false, .bool false, .bool false, .bool false, .bool false] 46))
  generalize (w3.alloc (.cells #[.bool false, .bool false, .bool false, .bool false, .bool false, .bool false, .bool false, .bool false, .bool false, .bool false, .bool false, .bool false, .bool false, .bool false, .bool false, .bool false, .bool false, .bool false, .bool false, .bool false, .bool false, .bool false, .bool false, .bool false, .bool false, .bool false, .bool false, .bool false, .bool false, .bool false, .bool false, .bool false] 46)) = w4 at *
  obtain ⟨bb, hbb⟩ : ∃ bb, bb = w3.heap.size := ⟨_, rfl⟩
  rw [← hbb] at G4 B4 ⊢
  have HBB := Lib.hid (show w.heap.size ≤ bb by have := F3.out.size; omega)
  clear hbb G3 F3
  go_wp2_with fail
  go_loopw [12] (fun i wr => ∃ k : Nat, k ≤ 32 ∧ i = .int .i64 (k : Int) ∧ Gk (More (fun k => k < w.heap.size) bb) wr gb s ∧ Blk wr bb 46 (barr 32 fun j => decide (j < k) && s.tellB I.pn 1 (j : Int)).toArray ∧ Fr (Not fun k => k < w.heap.size) w wr) (fun i _ => 32 - (intOf i).toNat)
  case atStart => exact ⟨0, by omega, rfl, G4.out, B4.out.cast (by rw [barr_congr]; intro k hk; simp), F4.out⟩
  case round =>
    obtain ⟨k, hk, rfl, hg, hb, hf⟩ := hrel
    have HG := Lib.hid hg
    have HF := Lib.hid hf
    have HBk := Lib.hid hb
    clear hg hf hb
    by_cases hlt : k < 32
    · have PN := Lib.hid (HG.out.pending 1 (k : Int))
      have k32 : (k : Int) < 32 := by omega
      have HK := Lib.hid hlt
      have c1 := HBk.out.bget hlt
      have z1 := HBk.out.frozen k
      have E1 : Hid (barr 32 (upd (fun j => decide (j < k) && s.tellB I.pn 1 (j : Int)) k (s.tellB I.pn 1 (k : Int))) = barr 32 fun j => decide (j < k + 1) && s.tellB I.pn 1 (j : Int)) := Lib.hid (barr_congr fun j hj => by
        by_cases e : j = k
        · subst e; rw [upd_same]; simp
        · rw [upd_other _ _ e]
          have : decide (j < k) = decide (j < k + 1) := by simp; omega
          rw [this])
      have B5 := Lib.hid (HBk.out.bset hlt (s.tellB I.pn 1 (k : Int)))
      have G5 := Lib.hid (HG.out.setK (b := bb) (.inr rfl) k (.bool (s.tellB I.pn 1 (k : Int))))
      have F5 := Lib.hid (HF.out.setCell (p := ⟨bb, k, none⟩) (.inl (show Not (fun k => k < w.heap.size) bb by have := HBB.out; unfold Not; omega)) (.bool (s.tellB I.pn 1 (k : Int))))
      clear hk hlt HBk HG HF
      go_wp2_with (go_at_call 18; refine PN.out.mono ?_; rintro e w9 ⟨rfl, rfl⟩)
      go_roundw
      case rel => exact ⟨k + 1, HK.out, by go_num, G5.out, B5.out.cast (by rw [E1.out]), F5.out⟩
      case measure => have := HK.out; simp [intOf]; omega
    · obtain ⟨k0, hk0⟩ : ∃ k0, k0 = k := ⟨k, rfl⟩
      subst hk0
      have K32 := Lib.hid (show 32 ≤ k0 by omega)
      have l32 : decide ((k0 : Int) < 32) = false := by simp; omega
      have G5 := Lib.hid (HG.out.more (.cells #[.pointer (some ⟨gb, 0, none⟩), .pointer none] 50))
      have B5 := Lib.hid (Blk.new wr 50 #[.pointer (some ⟨gb, 0, none⟩), .pointer none])
      have F5 := Lib.hid (HF.out.alloc (.cells #[.pointer (some ⟨gb, 0, none⟩), .pointer none] 50))
      have BA := Lib.hid (HBk.out.alloc (.cells #[.pointer (some ⟨gb, 0, none⟩), .pointer none] 50))
      have HBX := Lib.hid (show w.heap.size ≤ wr.heap.size from HF.out.size)
      clear hk hlt HBk HG HF
      go_upto_region 14 with fail
      generalize (wr.alloc (.cells #[.pointer (some ⟨gb, 0, none⟩), .pointer none] 50)) = w5 at *
      obtain ⟨bx, hbx⟩ : ∃ bx, bx = wr.heap.size := ⟨_, rfl⟩
      rw [← hbx] at G5 B5 HBX ⊢
      clear hbx
      go_wp2_with fail
      go_loopw [14] (fun i wr => ∃ (k : Nat) (s' : GS), k ≤ len1 ∧ k ≤ 60 ∧ i = .int .i64 (k : Int) ∧ Gk (More (More (fun k => k < w.heap.size) bb) bx) wr gb s' ∧ Alike s s' 1 ∧ AtLe s' (100 + k) ∧ Fr (Not (More (More (fun k => k < w.heap.size) bb) bx)) w5 wr) (fun i _ => 60 - (intOf i).toNat)
      case atStart => exact ⟨0, s, by omega, by omega, rfl, G5.out, Alike.refl _ _, HAt.out.mono rfl rfl (by omega), Fr.refl _ _⟩
      case round =>
        obtain ⟨k, s', hk, hk2, rfl, hg, hal, hat, hf⟩ := hrel
        have HG := Lib.hid hg
        have HF := Lib.hid hf
        have HAl := Lib.hid hal
        have HA2 := Lib.hid hat
        have HK := Lib.hid (And.intro hk hk2)
        clear hg hf hal hat hk hk2
        by_cases hlt : k < len1
        · have l1 : decide ((k : Int) < (len1 : Int)) = true := by simp; exact hlt
          by_cases h60 : k < 60
          · have l2 : decide ((k : Int) < 60) = true := by simp; omega
            obtain ⟨b, off, hab, hb, h0, h1, h2, h3, h4, h5⟩ := ((HS1.out.fr F5.out fun b off e hb hn => hn hb).fr HF.out (fun b off e hb hn => hn (.inl (.inl (by
              obtain ⟨b', off', e', hb', -⟩ := HS1.out k hlt
              rw [e'] at e
              cases e
              exact hb'))))) k hlt
            subst hab
            have n1 : (k : Int) < (len1 : Int) := by omega
            have n2 : (k : Int) < 60 := by omega
            have L := Lib.hid (And.intro hlt h60)
            have H5 := Lib.hid h5
            clear hb h5 hlt h60
            go_upto_region 18 with fail
            have B6 := Lib.hid (Blk.new wr 52 #[.int .i64 (S1 k).k, .int .i64 (S1 k).c, .int .i64 (S1 k).i, .int .i64 (S1 k).n, .bool (S1 k).on])
            have G6 := Lib.hid (HG.out.more (.cells #[.int .i64 (S1 k).k, .int .i64 (S1 k).c, .int .i64 (S1 k).i, .int .i64 (S1 k).n, .bool (S1 k).on] 52))
            have F6 := Lib.hid (HF.out.alloc (.cells #[.int .i64 (S1 k).k, .int .i64 (S1 k).c, .int .i64 (S1 k).i, .int .i64 (S1 k).n, .bool (S1 k).on] 52))
            generalize (wr.alloc (.cells #[.int .i64 (S1 k).k, .int .i64 (S1 k).c, .int .i64 (S1 k).i, .int .i64 (S1 k).n, .bool (S1 k).on] 52)) = w6 at *
            obtain ⟨sb, hsb⟩ : ∃ sb, sb = wr.heap.size := ⟨_, rfl⟩
            rw [← hsb] at G6 B6 ⊢
            have HSB := Lib.hid (show w5.heap.size ≤ sb by have := HF.out.size; omega)
            clear hsb h0 h1 h2 h3 h4
            obtain ⟨q1, q2⟩ := i64_rng H5.out
            have PK := Lib.hid (fun W => pick_ok (S1 k).i 32 W q1 q2 (by omega) (by omega))
            obtain ⟨id, hid, hid2⟩ : ∃ id : Nat, pk (S1 k).i 32 = (id : Int) ∧ id < 32 := ⟨(pk (S1 k).i 32).toNat, by have := pk_rng (S1 k).i 32 (by omega); omega, by have := pk_rng (S1 k).i 32 (by omega); omega⟩
            rw [hid] at PK
            have B7 := Lib.hid ((B6.out.set_ 1 (.int .i64 0)).set_ 2 (.int .i64 (id : Int)))
            have G7 := Lib.hid ((G6.out.setK (b := sb) (.inr rfl) 1 (.int .i64 0)).setK (b := sb) (.inr rfl) 2 (.int .i64 (id : Int)))
            have F7 := Lib.hid ((F6.out.setNew (g := sb) (i := 1) HSB.out (.int .i64 0)).setNew (g := sb) (i := 2) HSB.out (.int .i64 (id : Int)))
            have c1 := B6.out.cellv (i := 1) rfl
            have z1 := B6.out.frozen 1
            have c2 := (B6.out.set_ 1 (.int .i64 0)).cellv (i := 2) rfl
            have z2 := (B6.out.set_ 1 (.int .i64 0)).frozen 2
            clear q1 q2 G6 F6 hid
            go_upto_region 20 with (go_at_call 13; refine (PK.out _).mono ?_; rintro e w9 ⟨rfl, rfl⟩)
            clear c1 z1 c2 z2 B6 PK
            generalize (w6.setCell ⟨sb, 1, none⟩ (.int .i64 0)).setCell ⟨sb, 2, none⟩ (.int .i64 (id : Int)) = w7 at *
            simp only [List.setIfInBounds_toArray, List.set_cons_zero, List.set_cons_succ] at B7
            have ID := Lib.hid hid2
            generalize (S1 k).k = kd at *
            generalize (S1 k).n = nn at *
            generalize (S1 k).on = on at *
            clear hid2 H5
            by_cases k6 : kd = 6
            · subst k6
              have z0 := B7.out.frozen 0
              have c0 := B7.out.cellv (i := 0) rfl
              have B8 := Lib.hid (B7.out.set_ 0 (.int .i64 0))
              have G8 := Lib.hid (G7.out.setK (b := sb) (.inr rfl) 0 (.int .i64 0))
              have F8 := Lib.hid (F7.out.setNew (g := sb) (i := 0) HSB.out (.int .i64 0))
              clear G7 F7 B7
              go_upto_region 22 with fail
              clear z0 c0
              generalize (w7.setCell ⟨sb, 0, none⟩ (.int .i64 0)) = w8 at *
              simp only [List.setIfInBounds_toArray, List.set_cons_zero, List.set_cons_succ] at B8
              have c0 := B8.out.cellv (i := 0) rfl
              have c1 := B8.out.cellv (i := 1) rfl
              have c2 := B8.out.cellv (i := 2) rfl
              have c3 := B8.out.cellv (i := 3) rfl
              have c4 := B8.out.cellv (i := 4) rfl
              have OK := Lib.hid (only_ok (More (More (More (fun k => k < w.heap.size) bb) bx) sb) gb s' bx ⟨0, 0, (id : Int), nn, on⟩ w8 G8.out (.inl (.inr rfl)) ((B5.out.fr F8.out fun hn => hn (.inr rfl)).cellv (i := 0) rfl) (100 + k) (by have := L.out; omega) HA2.out)
              unfold stv at OK
              have AL := Lib.hid (HAl.out.trans (Alike.only s' 0 nn id on (by rw [HAl.out.c_, HC.out]; omega) ID.out (by decide) (by decide) (by decide) (by decide) (by decide)))
              clear B8 G8 HAl
              go_wp2_with (go_at_call 29; refine OK.out.mono ?_; rintro e w9 ⟨rfl, g9, f9⟩; have G9 := Lib.hid g9; have F9 := Lib.hid (Fr.more F8.out f9 HSB.out); clear g9 f9)
              go_roundw
              case rel => exact ⟨k + 1, _, by have := L.out; omega, by have := L.out; omega, by go_num, G9.out.less fun k hk => .inl hk, AL.out, HA2.out.only _, F9.out⟩
              case measure => have := L.out; simp [intOf]; omega
            by_cases k4 : kd = 4
            · subst k4
              clear k6
              have z0 := B7.out.frozen 0
              have c0 := B7.out.cellv (i := 0) rfl
              have B8 := Lib.hid (B7.out.set_ 0 (.int .i64 0))
              have G8 := Lib.hid (G7.out.setK (b := sb) (.inr rfl) 0 (.int .i64 0))
              have F8 := Lib.hid (F7.out.setNew (g := sb) (i := 0) HSB.out (.int .i64 0))
              clear G7 F7 B7
              go_upto_region 22 with fail
              clear z0 c0
              generalize (w7.setCell ⟨sb, 0, none⟩ (.int .i64 0)) = w8 at *
              simp only [List.setIfInBounds_toArray, List.set_cons_zero, List.set_cons_succ] at B8
              have c0 := B8.out.cellv (i := 0) rfl
              have c1 := B8.out.cellv (i := 1) rfl
              have c2 := B8.out.cellv (i := 2) rfl
              have c3 := B8.out.cellv (i := 3) rfl
              have c4 := B8.out.cellv (i := 4) rfl
              have OK := Lib.hid (only_ok (More (More (More (fun k => k < w.heap.size) bb) bx) sb) gb s' bx ⟨0, 0, (id : Int), nn, on⟩ w8 G8.out (.inl (.inr rfl)) ((B5.out.fr F8.out fun hn => hn (.inr rfl)).cellv (i := 0) rfl) (100 + k) (by have := L.out; omega) HA2.out)
              unfold stv at OK
              have AL := Lib.hid (HAl.out.trans (Alike.only s' 0 nn id on (by rw [HAl.out.c_, HC.out]; omega) ID.out (by decide) (by decide) (by decide) (by decide) (by decide)))
              clear B8 G8 HAl
              go_wp2_with (go_at_call 29; refine OK.out.mono ?_; rintro e w9 ⟨rfl, g9, f9⟩; have G9 := Lib.hid g9; have F9 := Lib.hid (Fr.more F8.out f9 HSB.out); clear g9 f9)
              go_roundw
              case rel => exact ⟨k + 1, _, by have := L.out; omega, by have := L.out; omega, by go_num, G9.out.less fun k hk => .inl hk, AL.out, HA2.out.only _, F9.out⟩
              case measure => have := L.out; simp [intOf]; omega
            by_cases k7 : kd = 7
            · subst k7
              clear k6 k4
              have z0 := B7.out.frozen 0
              have c0 := B7.out.cellv (i := 0) rfl
              have B8 := Lib.hid (B7.out.set_ 0 (.int .i64 0))
              have G8 := Lib.hid (G7.out.setK (b := sb) (.inr rfl) 0 (.int .i64 0))
              have F8 := Lib.hid (F7.out.setNew (g := sb) (i := 0) HSB.out (.int .i64 0))
              clear G7 F7 B7
              go_upto_region 22 with fail
              clear z0 c0
              generalize (w7.setCell ⟨sb, 0, none⟩ (.int .i64 0)) = w8 at *
              simp only [List.setIfInBounds_toArray, List.set_cons_zero, List.set_cons_succ] at B8
              have c0 := B8.out.cellv (i := 0) rfl
              have c1 := B8.out.cellv (i := 1) rfl
              have c2 := B8.out.cellv (i := 2) rfl
              have c3 := B8.out.cellv (i := 3) rfl
              have c4 := B8.out.cellv (i := 4) rfl
              have OK := Lib.hid (only_ok (More (More (More (fun k => k < w.heap.size) bb) bx) sb) gb s' bx ⟨0, 0, (id : Int), nn, on⟩ w8 G8.out (.inl (.inr rfl)) ((B5.out.fr F8.out fun hn => hn (.inr rfl)).cellv (i := 0) rfl) (100 + k) (by have := L.out; omega) HA2.out)
              unfold stv at OK
              have AL := Lib.hid (HAl.out.trans (Alike.only s' 0 nn id on (by rw [HAl.out.c_, HC.out]; omega) ID.out (by decide) (by decide) (by decide) (by decide) (by decide)))
              clear B8 G8 HAl
              go_wp2_with (go_at_call 29; refine OK.out.mono ?_; rintro e w9 ⟨rfl, g9, f9⟩; have G9 := Lib.hid g9; have F9 := Lib.hid (Fr.more F8.out f9 HSB.out); clear g9 f9)
              go_roundw
              case rel => exact ⟨k + 1, _, by have := L.out; omega, by have := L.out; omega, by go_num, G9.out.less fun k hk => .inl hk, AL.out, HA2.out.only _, F9.out⟩
              case measure => have := L.out; simp [intOf]; omega
            by_cases k8 : kd = 8
            · subst k8
              clear k6 k4 k7
              have z0 := B7.out.frozen 0
              have c0 := B7.out.cellv (i := 0) rfl
              have B8 := Lib.hid (B7.out.set_ 0 (.int .i64 0))
              have G8 := Lib.hid (G7.out.setK (b := sb) (.inr rfl) 0 (.int .i64 0))
              have F8 := Lib.hid (F7.out.setNew (g := sb) (i := 0) HSB.out (.int .i64 0))
              clear G7 F7 B7
              go_upto_region 22 with fail
              clear z0 c0
              generalize (w7.setCell ⟨sb, 0, none⟩ (.int .i64 0)) = w8 at *
              simp only [List.setIfInBounds_toArray, List.set_cons_zero, List.set_cons_succ] at B8
              have c0 := B8.out.cellv (i := 0) rfl
              have c1 := B8.out.cellv (i := 1) rfl
              have c2 := B8.out.cellv (i := 2) rfl
              have c3 := B8.out.cellv (i := 3) rfl
              have c4 := B8.out.cellv (i := 4) rfl
              have OK := Lib.hid (only_ok (More (More (More (fun k => k < w.heap.size) bb) bx) sb) gb s' bx ⟨0, 0, (id : Int), nn, on⟩ w8 G8.out (.inl (.inr rfl)) ((B5.out.fr F8.out fun hn => hn (.inr rfl)).cellv (i := 0) rfl) (100 + k) (by have := L.out; omega) HA2.out)
              unfold stv at OK
              have AL := Lib.hid (HAl.out.trans (Alike.only s' 0 nn id on (by rw [HAl.out.c_, HC.out]; omega) ID.out (by decide) (by decide) (by decide) (by decide) (by decide)))
              clear B8 G8 HAl
              go_wp2_with (go_at_call 29; refine OK.out.mono ?_; rintro e w9 ⟨rfl, g9, f9⟩; have G9 := Lib.hid g9; have F9 := Lib.hid (Fr.more F8.out f9 HSB.out); clear g9 f9)
              go_roundw
              case rel => exact ⟨k + 1, _, by have := L.out; omega, by have := L.out; omega, by go_num, G9.out.less fun k hk => .inl hk, AL.out, HA2.out.only _, F9.out⟩
              case measure => have := L.out; simp [intOf]; omega
            have z0 := B7.out.frozen 0
            have c0 := B7.out.cellv (i := 0) rfl
            have q6 : (kd == 6) = false := by simp [k6]
            have q4 : (kd == 4) = false := by simp [k4]
            have q7 : (kd == 7) = false := by simp [k7]
            have q8 : (kd == 8) = false := by simp [k8]
            go_upto_region 22 with fail
            clear c0 z0 q4 q6 q7 q8
            have B8 := B7
            have G8 := G7
            have F8 := F7
            clear G7 F7 B7
            generalize w7 = w8 at *
            have c0 := B8.out.cellv (i := 0) rfl
            have c1 := B8.out.cellv (i := 1) rfl
            have c2 := B8.out.cellv (i := 2) rfl
            have c3 := B8.out.cellv (i := 3) rfl
            have c4 := B8.out.cellv (i := 4) rfl
            have OK := Lib.hid (only_ok (More (More (More (fun k => k < w.heap.size) bb) bx) sb) gb s' bx ⟨kd, 0, (id : Int), nn, on⟩ w8 G8.out (.inl (.inr rfl)) ((B5.out.fr F8.out fun hn => hn (.inr rfl)).cellv (i := 0) rfl) (100 + k) (by have := L.out; omega) HA2.out)
            unfold stv at OK
            have AL := Lib.hid (HAl.out.trans (Alike.only s' kd nn id on (by rw [HAl.out.c_, HC.out]; omega) ID.out (by decide) k4 k6 k7 k8))
            clear B8 G8 HAl k4 k6 k7 k8
            go_wp2_with (go_at_call 29; refine OK.out.mono ?_; rintro e w9 ⟨rfl, g9, f9⟩; have G9 := Lib.hid g9; have F9 := Lib.hid (Fr.more F8.out f9 HSB.out); clear g9 f9)
            go_roundw
            case rel => exact ⟨k + 1, _, by have := L.out; omega, by have := L.out; omega, by go_num, G9.out.less fun k hk => .inl hk, AL.out, HA2.out.only _, F9.out⟩
            case measure => have := L.out; simp [intOf]; omega
          · have l2 : decide ((k : Int) < 60) = false := by simp; omega
            have l3 : decide (k < 60) = false := by simp; omega
            have l4 : decide (k < len1) = true := by simp; exact hlt
            have B9 := Lib.hid (BA.out.fr HF.out fun hn => hn (.inl (.inr rfl)))
            clear HS HS1 HL HA2 B5
            go_wp2_with fail
            go_loopw [16] (fun i wr => ∃ k : Nat, k ≤ 32 ∧ i = .int .i64 (k : Int) ∧ Gk (More (More (fun k => k < w.heap.size) bb) bx) wr gb s' ∧ Blk wr bb 46 (barr 32 fun j => decide (j < k0) && s.tellB I.pn 1 (j : Int)).toArray ∧ Fr (Not (More (More (fun k => k < w.heap.size) bb) bx)) w5 wr) (fun i _ => 32 - (intOf i).toNat)
            case atStart => exact ⟨0, by omega, rfl, HG.out, B9.out, HF.out⟩
            case round =>
              obtain ⟨k3, hk, rfl, hg, hb, hf⟩ := hrel
              clear HG HF B9
              have HG := Lib.hid hg
              have HF := Lib.hid hf
              have HBk := Lib.hid hb
              clear hg hf hb
              by_cases hlt : k3 < 32
              · have PN := fun n => ((HG.out.still (Fr.drewN (Fr.refl Nil wr) n)).pending 1 (k3 : Int)).mono (R' := fun e w' => e = .returned (.bool (s'.tellB I.pn 1 (k3 : Int))) ∧ w' = wr.drewN n) fun e w' h => ⟨h.1, h.2.symm⟩
                have e1 : s'.tellB I.pn 1 (k3 : Int) = s.tellB I.pn 1 (k3 : Int) := by
                  have a1 := tell_nat s I.pn (c := 1) (id := k3) (by rw [HC.out]; omega) (by omega)
                  have a2 := tell_nat s' I.pn (c := 1) (id := k3) (by rw [HAl.out.c_, HC.out]; omega) (by omega)
                  rw [HAl.out.get] at a2
                  exact a2.trans a1.symm
                rw [e1] at PN
                have PN' := Lib.hid PN
                have c1 := HBk.out.bget hlt
                have e2 : (decide (k3 < k0) && s.tellB I.pn 1 (k3 : Int)) = s.tellB I.pn 1 (k3 : Int) := by
                  have : decide (k3 < k0) = true := by have := K32.out; simp; omega
                  rw [this]; rfl
                rw [e2] at c1
                have k32 : (k3 : Int) < 32 := by omega
                have HK3 := Lib.hid hlt
                clear hk hlt PN e1 e2
                generalize s.tellB I.pn 1 (k3 : Int) = pb at *
                go_upto_region 26 with fail
                go_quiet ((go_at_call 18; exact Calls.quiet_of_same (PN'.out _)))
                go_wp2_with fail
                go_roundw
                case rel => exact ⟨k3 + 1, HK3.out, by go_num, HG.out.still (Fr.drewN (Fr.refl _ _) _), HBk.out.drewN _, HF.out.drewN _⟩
                case measure => have := HK3.out; simp [intOf]; omega
              · have l5 : decide ((k3 : Int) < 32) = false := by simp; omega
                have BE := HG.out.best 1
                rw [show s'.best 1 = best from (HAl.out.best (c := 1) (by rw [HC.out]; omega)).trans HB.out.1] at BE
                have BE' := Lib.hid BE
                have RE : Hid (s'.run 1 = rn) := Lib.hid ((run_nat s' (c := 1) (by rw [HAl.out.c_, HC.out]; omega)).trans (by rw [HAl.out.at_]; exact (run_nat s (c := 1) (by rw [HC.out]; omega)).symm.trans HB.out.2.1))
                have LE : Hid (s'.limit 1 = lm) := Lib.hid ((limit_nat s' (c := 1) (by rw [HAl.out.c_, HC.out]; omega)).trans (by rw [HAl.out.lim]; exact (limit_nat s (c := 1) (by rw [HC.out]; omega)).symm.trans HB.out.2.2))
                clear hk hlt BE HBk
                go_wp2_with fail
                refine BE'.out.mono ?_
                rintro e w10 ⟨rfl, g10, f10⟩
                have G10 := Lib.hid g10
                have F10 := Lib.hid (HF.out.trans f10)
                have RN := g10.run 1
                rw [RE.out] at RN
                have RN' := Lib.hid RN
                clear g10 f10 RN
                go_wp2_with (first | (go_at_call 22; refine RN'.out.mono ?_; rintro e w11 ⟨rfl, g11, f11⟩; have F11 := Lib.hid (F10.out.trans f11); have LM := Lib.hid (g11.limit 1); clear g11 f11; rw [LE.out] at LM) | (go_at_call 28; refine LM.out.mono ?_; rintro e w12 ⟨rfl, rfl⟩))
                go_ret
                exact ⟨by simp, (F5.out.step F11.out fun i hi hn => .inl fun hk => hn (.inl (.inl hk))).old.below (Nat.le_refl _) fun _ _ => id⟩
        · have l1 : decide ((k : Int) < (len1 : Int)) = false := by simp; omega
          have l4 : decide (k < len1) = false := by simp; omega
          have B9 := Lib.hid (BA.out.fr HF.out fun hn => hn (.inl (.inr rfl)))
          clear HS HS1 HL HA2 B5
          go_wp2_with fail
          go_loopw [16] (fun i wr => ∃ k : Nat, k ≤ 32 ∧ i = .int .i64 (k : Int) ∧ Gk (More (More (fun k => k < w.heap.size) bb) bx) wr gb s' ∧ Blk wr bb 46 (barr 32 fun j => decide (j < k0) && s.tellB I.pn 1 (j : Int)).toArray ∧ Fr (Not (More (More (fun k => k < w.heap.size) bb) bx)) w5 wr) (fun i _ => 32 - (intOf i).toNat)
          case atStart => exact ⟨0, by omega, rfl, HG.out, B9.out, HF.out⟩
          case round =>
            obtain ⟨k3, hk, rfl, hg, hb, hf⟩ := hrel
            clear HG HF B9
            have HG := Lib.hid hg
            have HF := Lib.hid hf
            have HBk := Lib.hid hb
            clear hg hf hb
            by_cases hlt : k3 < 32
            · have PN := fun n => ((HG.out.still (Fr.drewN (Fr.refl Nil wr) n)).pending 1 (k3 : Int)).mono (R' := fun e w' => e = .returned (.bool (s'.tellB I.pn 1 (k3 : Int))) ∧ w' = wr.drewN n) fun e w' h => ⟨h.1, h.2.symm⟩
              have e1 : s'.tellB I.pn 1 (k3 : Int) = s.tellB I.pn 1 (k3 : Int) := by
                have a1 := tell_nat s I.pn (c := 1) (id := k3) (by rw [HC.out]; omega) (by omega)
                have a2 := tell_nat s' I.pn (c := 1) (id := k3) (by rw [HAl.out.c_, HC.out]; omega) (by omega)
                rw [HAl.out.get] at a2
                exact a2.trans a1.symm
              rw [e1] at PN
              have PN' := Lib.hid PN
              have c1 := HBk.out.bget hlt
              have e2 : (decide (k3 < k0) && s.tellB I.pn 1 (k3 : Int)) = s.tellB I.pn 1 (k3 : Int) := by
                have : decide (k3 < k0) = true := by have := K32.out; simp; omega
                rw [this]; rfl
              rw [e2] at c1
              have k32 : (k3 : Int) < 32 := by omega
              have HK3 := Lib.hid hlt
              clear hk hlt PN e1 e2
              generalize s.tellB I.pn 1 (k3 : Int) = pb at *
              go_upto_region 26 with fail
              go_quiet ((go_at_call 18; exact Calls.quiet_of_same (PN'.out _)))
              go_wp2_with fail
              go_roundw
              case rel => exact ⟨k3 + 1, HK3.out, by go_num, HG.out.still (Fr.drewN (Fr.refl _ _) _), HBk.out.drewN _, HF.out.drewN _⟩
              case measure => have := HK3.out; simp [intOf]; omega
            · have l5 : decide ((k3 : Int) < 32) = false := by simp; omega
              have BE := HG.out.best 1
              rw [show s'.best 1 = best from (HAl.out.best (c := 1) (by rw [HC.out]; omega)).trans HB.out.1] at BE
              have BE' := Lib.hid BE
              have RE : Hid (s'.run 1 = rn) := Lib.hid ((run_nat s' (c := 1) (by rw [HAl.out.c_, HC.out]; omega)).trans (by rw [HAl.out.at_]; exact (run_nat s (c := 1) (by rw [HC.out]; omega)).symm.trans HB.out.2.1))
              have LE : Hid (s'.limit 1 = lm) := Lib.hid ((limit_nat s' (c := 1) (by rw [HAl.out.c_, HC.out]; omega)).trans (by rw [HAl.out.lim]; exact (limit_nat s (c := 1) (by rw [HC.out]; omega)).symm.trans HB.out.2.2))
              clear hk hlt BE HBk
              go_wp2_with fail
              refine BE'.out.mono ?_
              rintro e w10 ⟨rfl, g10, f10⟩
              have G10 := Lib.hid g10
              have F10 := Lib.hid (HF.out.trans f10)
              have RN := g10.run 1
              rw [RE.out] at RN
              have RN' := Lib.hid RN
              clear g10 f10 RN
              go_wp2_with (first | (go_at_call 22; refine RN'.out.mono ?_; rintro e w11 ⟨rfl, g11, f11⟩; have F11 := Lib.hid (F10.out.trans f11); have LM := Lib.hid (g11.limit 1); clear g11 f11; rw [LE.out] at LM) | (go_at_call 28; refine LM.out.mono ?_; rintro e w12 ⟨rfl, rfl⟩))
              go_ret
              exact ⟨by simp, (F5.out.step F11.out fun i hi hn => .inl fun hk => hn (.inl (.inl hk))).old.below (Nat.le_refl _) fun _ _ => id⟩
end Go.Proofs.Ytpgelocofoidnaa
