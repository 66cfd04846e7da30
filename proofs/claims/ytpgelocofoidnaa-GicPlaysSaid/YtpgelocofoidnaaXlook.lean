/- All that can be asked is as the document's: looks. -/
import Derived.Test.YtpgelocofoidnaaXnew
set_option linter.unusedSimpArgs false
set_option linter.unusedVariables false
set_option linter.unusedSectionVars false
namespace Go.Proofs.Ytpgelocofoidnaa
open Go.RowKit
set_option maxRecDepth 100000

/-- The law's two controllers in memory. -/
structure Wd (w0 : World) (K KR : Nat → Prop) (w : World) (wb gb rb : Nat) (L : Lay) (s : GS) (r : RS) : Prop where
  hg : Gk K w gb s
  hr : RefAt w rb L r
  box : Blk w wb 50 #[.pointer (some ⟨gb, 0, none⟩), .pointer (some ⟨rb, 0, none⟩)]
  kr : ∀ k, RFoot rb L r.c k → KR k
  kk : ∀ k, KR k → K k
  kb : K wb
  nb : ¬ KR wb
  old : ∀ k, k < w0.heap.size → K k
  nr : ∀ k, KR k → w0.heap.size ≤ k
  fr : Fr Nil w0 w
section
variable {w0 w w' : World} {K KR : Nat → Prop} {wb gb rb : Nat} {L : Lay} {s s' : GS} {r r' : RS}
theorem Wd.still (h : Wd w0 K KR w wb gb rb L s r) (f : Fr Nil w w') : Wd w0 K KR w' wb gb rb L s r :=
  ⟨h.hg.still f, h.hr.fr0 f, h.box.fr0 f, h.kr, h.kk, h.kb, h.nb, h.old, h.nr, h.fr.trans f⟩
theorem Wd.prog (h : Wd w0 K KR w wb gb rb L s r) (hg : Gk K w' gb s') (f : Fr (Not K) w w') : Wd w0 K KR w' wb gb rb L s' r :=
  ⟨hg, h.hr.fr f fun k hk hn => hn (h.kk k (h.kr k hk)), h.box.fr f fun hn => hn h.kb, h.kr, h.kk, h.kb, h.nb, h.old, h.nr, h.fr.step f fun i _ hn => .inr (by
    rcases Nat.lt_or_ge i w0.heap.size with h1 | h1
    · exact absurd (h.old i h1) hn
    · exact h1)⟩
theorem Wd.ref (h : Wd w0 K KR w wb gb rb L s r) (hr : RefAt w' rb L r') (hc : r'.c = r.c) (f : Fr (RFoot rb L r'.c) w w') : Wd w0 K KR w' wb gb rb L s r' := by
  rw [hc] at f
  exact ⟨h.hg.frK f fun k hk => h.kk k (h.kr k hk), hr, h.box.fr f fun hn => h.nb (h.kr _ hn), by rw [hc]; exact h.kr, h.kk, h.kb, h.nb, h.old, h.nr, h.fr.step f fun i _ hn => .inr (h.nr i (h.kr i hn))⟩
theorem Gk.best0 (h : Gk K w gb s) (c : Int) : Calls Try.prog 26 #[.pointer (some ⟨gb, 0, none⟩), .int .i64 c] w fun e w' => e = .returned (.tuple #[.int .i64 (s.best c).1, .bool (s.best c).2]) ∧ Fr Nil w w' := by
  obtain ⟨cb, av, hg, hf⟩ := h.mem
  exact best_at gb cb av s c w hg h.c8
theorem Gk.run0 (h : Gk K w gb s) (c : Int) : Calls Try.prog 22 #[.pointer (some ⟨gb, 0, none⟩), .int .i64 c] w fun e w' => e = .returned (.int .i64 (s.run c)) ∧ Fr Nil w w' := by
  obtain ⟨cb, av, hg, hf⟩ := h.mem
  exact run_at gb cb av s c w hg h.c8
theorem okR_zero (h : Sim s r) (c : Int) : okR r c 0 = thereB s c := by
  unfold okR thereB
  rw [h.c]
  simp
theorem Sim.rbest (h : Sim s r) {c : Int} {e : Ending} (hb : RbestTo w r c e w') : e = .returned (.tuple #[.int .i64 (s.best c).1, .bool (s.best c).2]) ∧ Fr Nil w w' := by
  refine ⟨?_, hb.2⟩
  have h1 := hb.1
  have h2 := okR_zero h c
  cases hk : okR r c 0
  · rw [hk] at h1 h2
    have : s.best c = (0, false) := by unfold GS.best; rw [← h2]; rfl
    rw [this]
    exact h1
  · rw [hk] at h1 h2
    obtain ⟨c', rfl, hc⟩ := thereB_nat h2.symm
    have h3 : ∃ b, BestP r (c' : Int).toNat (rrun r (c' : Int).toNat 64) 64 b ∧ e = .returned (.tuple #[.int .i64 (bestV b).1, .bool (bestV b).2]) := h1
    obtain ⟨b, hb2, rfl⟩ := h3
    rw [Int.toNat_natCast] at hb2
    rw [h.best hc hb2]
end
set_option maxHeartbeats 4000000 in
theorem looks_ok (w0 : World) (K KR : Nat → Prop) (wb gb rb : Nat) (L : Lay) (s : GS) (r : RS) (id : Int) (w : World) (h : Wd w0 K KR w wb gb rb L s r) (hs : Sim s r) (wf : (Lit.int .i64 id).wf = true) :
    Calls Try.prog 32 #[.pointer (some ⟨wb, 0, none⟩), .int .i64 id] w fun e w' => e = .returned (.bool true) ∧ Fr Nil w w' := by
  have HW := Lib.hid h
  have SM := Lib.hid hs
  have I84 := Lib.hid (show (Try.prog.info? 84).map (·.size) = some 8 by kernel_rfl)
  have c8 : (r.c : Int) ≤ 8 := by have := h.hr.c8; omega
  clear h hs
  go_enter Try.func32, Try.ntmps32
  go_wp2_with fail
  go_loopw [5] (fun i wr => ∃ j : Nat, j ≤ r.c + 2 ∧ i = .int .i64 ((j : Int) - 1) ∧ Fr Nil w wr) (fun i _ => ((r.c : Int) + 1 - intOf i).toNat)
  case atStart => exact ⟨0, by omega, rfl, Fr.refl _ _⟩
  case round =>
    obtain ⟨j, hj, rfl, hf⟩ := hrel
    have W1 := Lib.hid (HW.out.still hf)
    have HF := Lib.hid hf
    have b0 := W1.out.box.cellv (i := 0) rfl
    have b1 := W1.out.box.cellv (i := 1) rfl
    have n0 := W1.out.hr.c_c
    clear hf
    generalize hcz : (j : Int) - 1 = cz at *
    have HCZ := Lib.hid hcz
    clear hcz
    by_cases hlt : j ≤ r.c + 1
    · have cn : cz ≤ (r.c : Int) := by have := HCZ.out; omega
      have cl : -1 ≤ cz := by have := HCZ.out; omega
      have HJ := Lib.hid hlt
      clear hj hlt
      go_wp2_with fail
      refine (bad_ok rb L r cz 0 wr W1.out.hr).mono ?_
      rintro e w2 ⟨rfl, rfl⟩
      go_wp2_with fail
      refine (rbest_ok rb L r cz wr W1.out.hr).mono ?_
      intro e w2 hb
      obtain ⟨rfl, f2⟩ := SM.out.rbest hb
      have W2 := Lib.hid (W1.out.still f2)
      have F2 := Lib.hid (HF.out.trans f2)
      clear b0 b1 n0 hb f2 W1 HF
      have b0 := W2.out.box.cellv (i := 0) rfl
      have b1 := W2.out.box.cellv (i := 1) rfl
      go_wp2_with fail
      refine (W2.out.hg.best0 cz).mono ?_
      rintro e w3 ⟨rfl, f3⟩
      have W3 := Lib.hid (W2.out.still f3)
      have F3 := Lib.hid (F2.out.trans f3)
      clear b0 b1 f3 W2 F2
      have b0 := W3.out.box.cellv (i := 0) rfl
      have b1 := W3.out.box.cellv (i := 1) rfl
      generalize (s.best cz).1 = q1 at *
      generalize (s.best cz).2 = q2 at *
      cases hk : okR r cz 0
      · have E1 : s.run cz = 0 := by unfold GS.run; rw [← okR_zero SM.out cz, hk]; rfl
        have E2 : s.limit cz = 0 := by unfold GS.limit; rw [← okR_zero SM.out cz, hk]; rfl
        have KI := Lib.hid (show okR r cz id = false by
          unfold okR at hk ⊢
          simp only [Bool.and_eq_false_iff, decide_eq_false_iff_not] at hk ⊢
          omega)
        clear hk
        go_wp2_with fail
        have RU := W3.out.hg.run0 cz
        rw [E1] at RU
        refine RU.mono ?_
        rintro e w4 ⟨rfl, f4⟩
        have W4 := Lib.hid (W3.out.still f4)
        have F4 := Lib.hid (F3.out.trans f4)
        clear b0 b1 f4 W3 F3 RU E1
        have b0 := W4.out.box.cellv (i := 0) rfl
        have b1 := W4.out.box.cellv (i := 1) rfl
        have LI := Lib.hid (W4.out.hg.limit cz)
        rw [E2] at LI
        have BD := Lib.hid (bad_ok rb L r cz id w4 W4.out.hr)
        rw [KI.out] at BD
        clear E2
        go_upto_region 18 with (first | (go_at_call 28; refine LI.out.mono ?_; rintro e w9 ⟨rfl, rfl⟩) | (go_at_call 52; refine BD.out.mono ?_; rintro e w9 ⟨rfl, rfl⟩))
        have TE := Lib.hid (show s.tellB (·.en) cz id = false by unfold GS.tellB; rw [← okR_eq SM.out, KI.out]; rfl)
        have TP := Lib.hid (show s.tellB I.pn cz id = false by unfold GS.tellB; rw [← okR_eq SM.out, KI.out]; rfl)
        have TA := Lib.hid (show s.tellB (·.ac) cz id = false by unfold GS.tellB; rw [← okR_eq SM.out, KI.out]; rfl)
        have TR := Lib.hid (show s.rate cz id = 0 by unfold GS.rate; rw [← okR_eq SM.out, KI.out]; rfl)
        have XB := Lib.hid (Blk.new w4 84 #[.bool false, .bool false, .bool false, .bool false, .int .i64 0, .int .i64 0, .int .i64 0, .int .i64 0])
        have W5 := Lib.hid (W4.out.still ((Fr.refl Nil w4).alloc (.cells #[.bool false, .bool false, .bool false, .bool false, .int .i64 0, .int .i64 0, .int .i64 0, .int .i64 0] 84)))
        have F45 := Lib.hid ((Fr.refl Nil w4).alloc (.cells #[.bool false, .bool false, .bool false, .bool false, .int .i64 0, .int .i64 0, .int .i64 0, .int .i64 0] 84))
        have F5 := Lib.hid (F4.out.alloc (.cells #[.bool false, .bool false, .bool false, .bool false, .int .i64 0, .int .i64 0, .int .i64 0, .int .i64 0] 84))
        generalize (w4.alloc (.cells #[.bool false, .bool false, .bool false, .bool false, .int .i64 0, .int .i64 0, .int .i64 0, .int .i64 0] 84)) = w5 at *
        obtain ⟨xb, hxb⟩ : ∃ xb, xb = w4.heap.size := ⟨_, rfl⟩
        have HX := Lib.hid (Nat.le_of_eq hxb.symm)
        rw [← hxb] at XB ⊢
        clear hxb b0 b1 LI BD W4 F4
        have b0 := W5.out.box.cellv (i := 0) rfl
        have x0 := XB.out.cellv (i := 0) rfl
        have x3 := XB.out.cellv (i := 3) rfl
        have x4 := XB.out.cellv (i := 4) rfl
        have PN0 := rpend_ok xb 0 (false) (false) w5 (XB.out.cellv (i := 1) rfl) (XB.out.cellv (i := 2) rfl)
        rw [show (false || false) = false from rfl] at PN0
        have PN := Lib.hid PN0
        clear PN0
        have CE := Lib.hid (fun k => ((W5.out.still (Fr.drewN (Fr.refl Nil w5) k)).hg.enabled cz id).mono (R' := fun e w' => e = .returned (.bool (false)) ∧ w' = w5.drewN k) fun e w' hh => ⟨by rw [TE.out] at hh; exact hh.1, hh.2.symm⟩)
        have CP := Lib.hid (fun k => ((W5.out.still (Fr.drewN (Fr.refl Nil w5) k)).hg.pending cz id).mono (R' := fun e w' => e = .returned (.bool (false)) ∧ w' = w5.drewN k) fun e w' hh => ⟨by rw [TP.out] at hh; exact hh.1, hh.2.symm⟩)
        have CA := Lib.hid (fun k => ((W5.out.still (Fr.drewN (Fr.refl Nil w5) k)).hg.active cz id).mono (R' := fun e w' => e = .returned (.bool (false)) ∧ w' = w5.drewN k) fun e w' hh => ⟨by rw [TA.out] at hh; exact hh.1, hh.2.symm⟩)
        have CR := Lib.hid (fun k => ((W5.out.still (Fr.drewN (Fr.refl Nil w5) k)).hg.rate cz id).mono (R' := fun e w' => e = .returned (.int .i64 (0)) ∧ w' = w5.drewN k) fun e w' hh => ⟨by rw [TR.out] at hh; exact hh.1, hh.2.symm⟩)
        clear TE TP TA TR
        go_upto_region 21 with (go_at_call 56; refine PN.out.mono ?_; rintro e w9 ⟨rfl, rfl⟩)
        go_quiet (first | (go_at_call 33; exact Calls.quiet_of_same (CE.out _)) | (go_at_call 18; exact Calls.quiet_of_same (CP.out _)) | (go_at_call 19; exact Calls.quiet_of_same (CA.out _)) | (go_at_call 23; exact Calls.quiet_of_same (CR.out _)))
        go_wp2_with fail
        go_roundw
        case rel => exact ⟨j + 1, by have := HJ.out; omega, by rw [show ((j + 1 : Nat) : Int) - 1 = cz + 1 by have := HCZ.out; omega], F5.out.drewN _⟩
        case measure => simp only [intOf]; first | omega | (have := HCC.out; omega)
      · have hk2 := hk
        rw [okR_zero SM.out cz] at hk2
        obtain ⟨c', hc', hcs⟩ := thereB_nat hk2
        have hcr : c' < r.c := by rw [SM.out.c]; exact hcs
        have E1 : s.run cz = rrun r c' 64 := by rw [hc', run_nat s hcs, SM.out.run hcs]
        have E2 : s.limit cz = r.lim c' := by rw [hc', limit_nat s hcs, SM.out.lim c' hcs]
        have RR := Lib.hid (show Calls Try.prog 54 #[.pointer (some ⟨rb, 0, none⟩), .int .i64 cz] w3 fun e w' => e = .returned (.int .i64 (rrun r c' 64)) ∧ w3 = w' by rw [hc']; exact rrun_ok rb L r c' w3 W3.out.hr hcr)
        have HC := Lib.hid (And.intro hc' hcr)
        have HS := Lib.hid hcs
        have l0 := W3.out.hr.lim_c
        have l1 := W3.out.hr.lims_c hcr
        have cb : (c' : Int) < (r.c : Int) := by omega
        have hcI : cz = (c' : Int) := hc'
        clear hk hk2 hc' hcs hcr
        generalize rrun r c' 64 = rn at *
        generalize hlm : r.lim c' = lm at *
        clear hlm
        have RU := W3.out.hg.run0 cz
        rw [E1] at RU
        clear E1
        subst hcI
        go_wp2_with (go_at_call 54; refine RR.out.mono ?_; rintro e w9 ⟨rfl, rfl⟩)
        refine RU.mono ?_
        rintro e w4 ⟨rfl, f4⟩
        have W4 := Lib.hid (W3.out.still f4)
        have F4 := Lib.hid (F3.out.trans f4)
        clear b0 b1 f4 W3 F3 RU RR l0 l1
        have b0 := W4.out.box.cellv (i := 0) rfl
        have b1 := W4.out.box.cellv (i := 1) rfl
        have LI := Lib.hid (W4.out.hg.limit (c' : Int))
        rw [E2] at LI
        have BD := Lib.hid (bad_ok rb L r (c' : Int) id w4 W4.out.hr)
        clear E2
        generalize hcz2 : (c' : Int) = cz at *
        have HCC := Lib.hid hcz2
        clear hcz2
        cases hki : okR r cz id
        · have KI := Lib.hid hki
          rw [hki] at BD
          clear hki
          go_upto_region 18 with (first | (go_at_call 28; refine LI.out.mono ?_; rintro e w9 ⟨rfl, rfl⟩) | (go_at_call 52; refine BD.out.mono ?_; rintro e w9 ⟨rfl, rfl⟩))
          have TE := Lib.hid (show s.tellB (·.en) cz id = false by unfold GS.tellB; rw [← okR_eq SM.out, KI.out]; rfl)
          have TP := Lib.hid (show s.tellB I.pn cz id = false by unfold GS.tellB; rw [← okR_eq SM.out, KI.out]; rfl)
          have TA := Lib.hid (show s.tellB (·.ac) cz id = false by unfold GS.tellB; rw [← okR_eq SM.out, KI.out]; rfl)
          have TR := Lib.hid (show s.rate cz id = 0 by unfold GS.rate; rw [← okR_eq SM.out, KI.out]; rfl)
          have XB := Lib.hid (Blk.new w4 84 #[.bool false, .bool false, .bool false, .bool false, .int .i64 0, .int .i64 0, .int .i64 0, .int .i64 0])
          have W5 := Lib.hid (W4.out.still ((Fr.refl Nil w4).alloc (.cells #[.bool false, .bool false, .bool false, .bool false, .int .i64 0, .int .i64 0, .int .i64 0, .int .i64 0] 84)))
          have F45 := Lib.hid ((Fr.refl Nil w4).alloc (.cells #[.bool false, .bool false, .bool false, .bool false, .int .i64 0, .int .i64 0, .int .i64 0, .int .i64 0] 84))
          have F5 := Lib.hid (F4.out.alloc (.cells #[.bool false, .bool false, .bool false, .bool false, .int .i64 0, .int .i64 0, .int .i64 0, .int .i64 0] 84))
          generalize (w4.alloc (.cells #[.bool false, .bool false, .bool false, .bool false, .int .i64 0, .int .i64 0, .int .i64 0, .int .i64 0] 84)) = w5 at *
          obtain ⟨xb, hxb⟩ : ∃ xb, xb = w4.heap.size := ⟨_, rfl⟩
          have HX := Lib.hid (Nat.le_of_eq hxb.symm)
          rw [← hxb] at XB ⊢
          clear hxb b0 b1 LI BD W4 F4
          have b0 := W5.out.box.cellv (i := 0) rfl
          have x0 := XB.out.cellv (i := 0) rfl
          have x3 := XB.out.cellv (i := 3) rfl
          have x4 := XB.out.cellv (i := 4) rfl
          have PN0 := rpend_ok xb 0 (false) (false) w5 (XB.out.cellv (i := 1) rfl) (XB.out.cellv (i := 2) rfl)
          rw [show (false || false) = false from rfl] at PN0
          have PN := Lib.hid PN0
          clear PN0
          have CE := Lib.hid (fun k => ((W5.out.still (Fr.drewN (Fr.refl Nil w5) k)).hg.enabled cz id).mono (R' := fun e w' => e = .returned (.bool (false)) ∧ w' = w5.drewN k) fun e w' hh => ⟨by rw [TE.out] at hh; exact hh.1, hh.2.symm⟩)
          have CP := Lib.hid (fun k => ((W5.out.still (Fr.drewN (Fr.refl Nil w5) k)).hg.pending cz id).mono (R' := fun e w' => e = .returned (.bool (false)) ∧ w' = w5.drewN k) fun e w' hh => ⟨by rw [TP.out] at hh; exact hh.1, hh.2.symm⟩)
          have CA := Lib.hid (fun k => ((W5.out.still (Fr.drewN (Fr.refl Nil w5) k)).hg.active cz id).mono (R' := fun e w' => e = .returned (.bool (false)) ∧ w' = w5.drewN k) fun e w' hh => ⟨by rw [TA.out] at hh; exact hh.1, hh.2.symm⟩)
          have CR := Lib.hid (fun k => ((W5.out.still (Fr.drewN (Fr.refl Nil w5) k)).hg.rate cz id).mono (R' := fun e w' => e = .returned (.int .i64 (0)) ∧ w' = w5.drewN k) fun e w' hh => ⟨by rw [TR.out] at hh; exact hh.1, hh.2.symm⟩)
          clear TE TP TA TR
          go_upto_region 21 with (go_at_call 56; refine PN.out.mono ?_; rintro e w9 ⟨rfl, rfl⟩)
          go_quiet (first | (go_at_call 33; exact Calls.quiet_of_same (CE.out _)) | (go_at_call 18; exact Calls.quiet_of_same (CP.out _)) | (go_at_call 19; exact Calls.quiet_of_same (CA.out _)) | (go_at_call 23; exact Calls.quiet_of_same (CR.out _)))
          go_wp2_with fail
          go_roundw
          case rel => exact ⟨j + 1, by have := HJ.out; omega, by rw [show ((j + 1 : Nat) : Int) - 1 = cz + 1 by have := HCZ.out; omega], F5.out.drewN _⟩
          case measure => simp only [intOf]; first | omega | (have := HCC.out; omega)
        · have KI := Lib.hid hki
          rw [hki] at BD
          obtain ⟨c2, i2, hc2, hi2, h1, h2⟩ := okR_nat hki
          have hcc : c2 = c' := by have := HCC.out; omega
          subst hcc
          have hgx := SM.out.get c2 i2 HS.out h2
          have OFA := Lib.hid (fun W (hW : RefAt W rb L r) => show Calls Try.prog 55 #[.pointer (some ⟨rb, 0, none⟩), .int .i64 cz, .int .i64 id] W fun e w' => e = .returned (.pointer (some ⟨spB L c2 i2, spO L c2 i2, none⟩)) ∧ W = w' by rw [hc2, hi2]; exact rof_ok rb L r c2 i2 W hW h1 h2)
          have TE := Lib.hid (show s.tellB (·.en) cz id = (r.get c2 i2).x.en by rw [hc2, hi2, tell_nat s _ HS.out h2, hgx])
          have TP := Lib.hid (show s.tellB I.pn cz id = ((r.get c2 i2).x.la || (r.get c2 i2).x.hi) by rw [hc2, hi2, tell_nat s _ HS.out h2, hgx]; rfl)
          have TA := Lib.hid (show s.tellB (·.ac) cz id = (r.get c2 i2).x.ac by rw [hc2, hi2, tell_nat s _ HS.out h2, hgx])
          have TR := Lib.hid (show s.rate cz id = (r.get c2 i2).x.rk by rw [hc2, hi2, rate_nat s HS.out h2, hgx])
          have HI := Lib.hid (And.intro h1 h2)
          clear hki hc2 hi2 h1 h2 hgx
          go_upto_region 18 with (first | (go_at_call 28; refine LI.out.mono ?_; rintro e w9 ⟨rfl, rfl⟩) | (go_at_call 52; refine BD.out.mono ?_; rintro e w9 ⟨rfl, rfl⟩))
          have XB := Lib.hid (Blk.new w4 84 #[.bool false, .bool false, .bool false, .bool false, .int .i64 0, .int .i64 0, .int .i64 0, .int .i64 0])
          have W5 := Lib.hid (W4.out.still ((Fr.refl Nil w4).alloc (.cells #[.bool false, .bool false, .bool false, .bool false, .int .i64 0, .int .i64 0, .int .i64 0, .int .i64 0] 84)))
          have F45 := Lib.hid ((Fr.refl Nil w4).alloc (.cells #[.bool false, .bool false, .bool false, .bool false, .int .i64 0, .int .i64 0, .int .i64 0, .int .i64 0] 84))
          have F5 := Lib.hid (F4.out.alloc (.cells #[.bool false, .bool false, .bool false, .bool false, .int .i64 0, .int .i64 0, .int .i64 0, .int .i64 0] 84))
          generalize (w4.alloc (.cells #[.bool false, .bool false, .bool false, .bool false, .int .i64 0, .int .i64 0, .int .i64 0, .int .i64 0] 84)) = w5 at *
          obtain ⟨xb, hxb⟩ : ∃ xb, xb = w4.heap.size := ⟨_, rfl⟩
          have HX := Lib.hid (Nat.le_of_eq hxb.symm)
          rw [← hxb] at XB ⊢
          clear hxb b0 b1 LI BD
          have OF := Lib.hid (OFA.out w5 W5.out.hr)
          have b1 := W5.out.box.cellv (i := 1) rfl
          have S0 := W5.out.hr.spt HI.out.1 HI.out.2
          have y0 := S0.cell (j := 0) rfl
          have y1 := S0.cell (j := 1) rfl
          have y2 := S0.cell (j := 2) rfl
          have y3 := S0.cell (j := 3) rfl
          have y4 := S0.cell (j := 4) rfl
          have y5 := S0.cell (j := 5) rfl
          have y6 := S0.cell (j := 6) rfl
          have y7 := S0.cell (j := 7) rfl
          rw [Nat.add_zero] at y0
          clear OFA S0 HI
          generalize spB L c2 i2 = sb at *
          generalize spO L c2 i2 = so at *
          generalize (r.get c2 i2).x.en = ve at *
          generalize (r.get c2 i2).x.la = vl at *
          generalize (r.get c2 i2).x.hi = vh at *
          generalize (r.get c2 i2).x.ac = va at *
          generalize (r.get c2 i2).x.rk = vr at *
          generalize (r.get c2 i2).x.dst = vd at *
          generalize (r.get c2 i2).by_ = v6 at *
          generalize (r.get c2 i2).was = v7 at *
          go_upto_region 20 with (first | (go_at_call 55; refine OF.out.mono ?_; rintro e w9 ⟨rfl, rfl⟩) | (refine wpList_store_blk0 rfl 84 (.tmp 14) (.tmp 114) rfl xb rfl #[.bool ve, .bool vl, .bool vh, .bool va, .int .i64 vr, .int .i64 vd, .int .i64 v6, .int .i64 v7] rfl XB.out I84.out rfl (by simp [Value.oneCell']) ?_; intro w6 hf6 hb6))
          have W6 := Lib.hid (W4.out.still (F45.out.own1 hf6 HX.out))
          have F6 := Lib.hid (F4.out.trans (F45.out.own1 hf6 HX.out))
          clear W5 F5 XB W4 F4 F45 HX b1 y0 y1 y2 y3 y4 y5 y6 y7 OF
          have W5 := W6
          have F5 := F6
          have XB := Lib.hid hb6
          clear W6 F6 hf6 hb6
          have b0 := W5.out.box.cellv (i := 0) rfl
          have x0 := XB.out.cellv (i := 0) rfl
          have x3 := XB.out.cellv (i := 3) rfl
          have x4 := XB.out.cellv (i := 4) rfl
          have PN0 := rpend_ok xb 0 (vl) (vh) w6 (XB.out.cellv (i := 1) rfl) (XB.out.cellv (i := 2) rfl)
          have PN := Lib.hid PN0
          clear PN0
          have CE := Lib.hid (fun k => ((W5.out.still (Fr.drewN (Fr.refl Nil w6) k)).hg.enabled cz id).mono (R' := fun e w' => e = .returned (.bool (ve)) ∧ w' = w6.drewN k) fun e w' hh => ⟨by rw [TE.out] at hh; exact hh.1, hh.2.symm⟩)
          have CP := Lib.hid (fun k => ((W5.out.still (Fr.drewN (Fr.refl Nil w6) k)).hg.pending cz id).mono (R' := fun e w' => e = .returned (.bool (vl || vh)) ∧ w' = w6.drewN k) fun e w' hh => ⟨by rw [TP.out] at hh; exact hh.1, hh.2.symm⟩)
          have CA := Lib.hid (fun k => ((W5.out.still (Fr.drewN (Fr.refl Nil w6) k)).hg.active cz id).mono (R' := fun e w' => e = .returned (.bool (va)) ∧ w' = w6.drewN k) fun e w' hh => ⟨by rw [TA.out] at hh; exact hh.1, hh.2.symm⟩)
          have CR := Lib.hid (fun k => ((W5.out.still (Fr.drewN (Fr.refl Nil w6) k)).hg.rate cz id).mono (R' := fun e w' => e = .returned (.int .i64 (vr)) ∧ w' = w6.drewN k) fun e w' hh => ⟨by rw [TR.out] at hh; exact hh.1, hh.2.symm⟩)
          clear TE TP TA TR
          generalize (vl || vh) = vp at *
          go_upto_region 21 with (go_at_call 56; refine PN.out.mono ?_; rintro e w9 ⟨rfl, rfl⟩)
          go_quiet (first | (go_at_call 33; exact Calls.quiet_of_same (CE.out _)) | (go_at_call 18; exact Calls.quiet_of_same (CP.out _)) | (go_at_call 19; exact Calls.quiet_of_same (CA.out _)) | (go_at_call 23; exact Calls.quiet_of_same (CR.out _)))
          go_wp2_with fail
          go_roundw
          case rel => exact ⟨j + 1, by have := HJ.out; omega, by rw [show ((j + 1 : Nat) : Int) - 1 = cz + 1 by have := HCZ.out; omega], F5.out.drewN _⟩
          case measure => simp only [intOf]; first | omega | (have := HCC.out; omega)
    · have l1 : decide (cz ≤ (r.c : Int)) = false := by have := HCZ.out; simp; omega
      have HJ := Lib.hid hj
      clear hj hlt
      have r1 : 0 < r.c := by have := W1.out.hg.c1; rw [SM.out.c]; omega
      have s1 : 0 < s.c := W1.out.hg.c1
      have GO := Lib.hid (W1.out.hg.goes id)
      by_cases hi : 32 ≤ id
      · by_cases hi2 : id < 64
        · obtain ⟨k, hk⟩ : ∃ k : Nat, id = ((k + 32 : Nat) : Int) := ⟨(id - 32).toNat, by omega⟩
          have k64 : k + 32 < 64 := by omega
          have hB : spB L 0 (k + 32) = L.sb := by unfold spB; rw [if_neg (by omega)]
          have hO : spO L 0 (k + 32) = L.so + k * 8 := by unfold spO; rw [if_neg (by omega), Nat.add_sub_cancel]
          have d5 := W1.out.hr.sp_c r1 k64 (j := 5) rfl
          rw [hB, hO] at d5
          have d2 := W1.out.hr.sh_c
          have E : s.goes id = (r.get 0 (k + 32)).x.dst := by
            have hok : okI s 0 id = true := by rw [hk]; exact okI_of (c := 0) s1 k64
            unfold GS.goes
            rw [hok, if_pos (by simpa using hi), hk, Int.toNat_natCast, SM.out.get 0 (k + 32) s1 k64]
          rw [E] at GO
          generalize (r.get 0 (k + 32)).x.dst = v at *
          have e1 : decide (32 ≤ id) = true := by simp; omega
          have e2 : id - 32 = (k : Int) := by omega
          have e3 : (k : Int) < 32 := by omega
          clear hB hO E hk k64
          go_wp2_with (go_at_call 34; refine GO.out.mono ?_; rintro e w9 ⟨rfl, rfl⟩)
          go_ret
          exact ⟨rfl, HF.out⟩
        · have E : s.goes id = 0 := by
            unfold GS.goes okI
            rw [if_neg (by simp; omega)]
          rw [E] at GO
          have e1 : decide (32 ≤ id) = true := by simp; omega
          have e2 : decide (id < 64) = false := by simp; omega
          clear E
          go_wp2_with (go_at_call 34; refine GO.out.mono ?_; rintro e w9 ⟨rfl, rfl⟩)
          go_ret
          exact ⟨rfl, HF.out⟩
      · have E : s.goes id = 0 := by
          unfold GS.goes
          rw [if_neg (by simp; omega)]
        rw [E] at GO
        have e1 : decide (32 ≤ id) = false := by simp; omega
        clear E
        go_wp2_with (go_at_call 34; refine GO.out.mono ?_; rintro e w9 ⟨rfl, rfl⟩)
        go_ret
        exact ⟨rfl, HF.out⟩
end Go.Proofs.Ytpgelocofoidnaa
