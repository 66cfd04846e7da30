/- What tells of an interrupt. -/
import Derived.Test.YtnmakbippgnekaaGset
set_option linter.unusedSimpArgs false
set_option linter.unusedSectionVars false
namespace Go.Proofs.Ytnmakbippgnekaa
open Go.RowKit
set_option linter.unusedVariables false
set_option maxRecDepth 100000

def GS.tellB (s : GS) (f : I → Bool) (c id : Int) : Bool := okI s c id && f (s.get c.toNat id.toNat)
def I.pn (x : I) : Bool := x.la || x.hi
def GS.rate (s : GS) (c id : Int) : Int := if okI s c id = true then (s.get c.toNat id.toNat).rk else 0
def GS.goes (s : GS) (id : Int) : Int := if (okI s 0 id && decide (32 ≤ id)) = true then (s.get 0 id.toNat).dst else 0
def GS.limit (s : GS) (c : Int) : Int := if thereB s c = true then s.lim c.toNat else 0
def GS.maskC (s : GS) (c v : Int) : Int := code (thereB s c && decide (0 ≤ v) && decide (v ≤ 255))
def GS.mask (s : GS) (c v : Int) : GS := if (thereB s c && decide (0 ≤ v) && decide (v ≤ 255)) = true then { s with lim := upd s.lim c.toNat v } else s
theorem thereB_nat {s : GS} {c : Int} (h : thereB s c = true) : ∃ c' : Nat, c = (c' : Int) ∧ c' < s.c := by
  simp only [thereB, Bool.and_eq_true, decide_eq_true_eq] at h
  exact ⟨c.toNat, by omega, by omega⟩
theorem pnd_ok {w : World} {gb cb : Nat} {av : Nat → Value} {s : GS} {c id sb so : Nat} (h : Sp w gb cb av s c id sb so) :
    Calls Try.prog 36 #[.pointer (some ⟨sb, so, none⟩)] w fun e w' => e = .returned (.bool (s.get c id).pn) ∧ w = w' := by
  have h1 := h.cell 1 _ rfl
  have h2 := h.cell 2 _ rfl
  have E : (s.get c id).pn = ((s.get c id).la || (s.get c id).hi) := rfl
  rw [E]
  clear E h
  cases hl : (s.get c id).la
  all_goals
    rw [hl] at h1
    clear hl
    go_enter Try.func36, Try.ntmps36
    go_wp2
    go_ret
    exact ⟨rfl, rfl⟩

set_option maxHeartbeats 1000000 in
theorem enabled_at (gb cb : Nat) (av : Nat → Value) (s : GS) (c id : Int) (w : World) (h : GicAt w gb cb av s) (hc : s.c ≤ 8) :
    Calls Try.prog 65 #[.pointer (some ⟨gb, 0, none⟩), .int .i64 c, .int .i64 id] w fun e w' => e = .returned (.bool (s.tellB (·.en) c id)) ∧ w = w' := by
  cases hk : okI s c id
  · have OF := Lib.hid (of_no gb cb av s c id w h hc hk)
    have E : s.tellB (·.en) c id = false := by unfold GS.tellB; rw [hk]; rfl
    rw [E]
    clear hk E h
    go_enter Try.func65, Try.ntmps65
    go_wp2_with (go_at_call 35; refine OF.out.mono ?_; rintro e w2 ⟨rfl, rfl⟩)
    go_ret
    exact ⟨rfl, rfl⟩
  · obtain ⟨c, id, rfl, rfl, h1, h2⟩ := okI_nat hk
    have OF := Lib.hid (of_yes gb cb av s c id w h hc h1 h2)
    have E : s.tellB (·.en) (c : Int) (id : Int) = (s.get c id).en := by unfold GS.tellB; rw [hk, Bool.true_and, Int.toNat_natCast, Int.toNat_natCast]
    rw [E]
    clear h h1 h2 hk E
    go_enter Try.func65, Try.ntmps65
    go_wp2_with (first | (go_at_call 35; refine OF.out.mono ?_; rintro e w2 ⟨sb, so, rfl, SP, rfl⟩; have c0 := SP.cell 0 _ rfl; simp only [Nat.add_zero] at c0; have SP' := Lib.hid SP; clear SP) )
    go_ret
    exact ⟨rfl, rfl⟩

set_option maxHeartbeats 1000000 in
theorem active_at (gb cb : Nat) (av : Nat → Value) (s : GS) (c id : Int) (w : World) (h : GicAt w gb cb av s) (hc : s.c ≤ 8) :
    Calls Try.prog 69 #[.pointer (some ⟨gb, 0, none⟩), .int .i64 c, .int .i64 id] w fun e w' => e = .returned (.bool (s.tellB (·.ac) c id)) ∧ w = w' := by
  cases hk : okI s c id
  · have OF := Lib.hid (of_no gb cb av s c id w h hc hk)
    have E : s.tellB (·.ac) c id = false := by unfold GS.tellB; rw [hk]; rfl
    rw [E]
    clear hk E h
    go_enter Try.func69, Try.ntmps69
    go_wp2_with (go_at_call 35; refine OF.out.mono ?_; rintro e w2 ⟨rfl, rfl⟩)
    go_ret
    exact ⟨rfl, rfl⟩
  · obtain ⟨c, id, rfl, rfl, h1, h2⟩ := okI_nat hk
    have OF := Lib.hid (of_yes gb cb av s c id w h hc h1 h2)
    have E : s.tellB (·.ac) (c : Int) (id : Int) = (s.get c id).ac := by unfold GS.tellB; rw [hk, Bool.true_and, Int.toNat_natCast, Int.toNat_natCast]
    rw [E]
    clear h h1 h2 hk E
    go_enter Try.func69, Try.ntmps69
    go_wp2_with (first | (go_at_call 35; refine OF.out.mono ?_; rintro e w2 ⟨sb, so, rfl, SP, rfl⟩; have c0 := SP.cell 3 _ rfl; have SP' := Lib.hid SP; clear SP) )
    go_ret
    exact ⟨rfl, rfl⟩

set_option maxHeartbeats 1000000 in
theorem pending_at (gb cb : Nat) (av : Nat → Value) (s : GS) (c id : Int) (w : World) (h : GicAt w gb cb av s) (hc : s.c ≤ 8) :
    Calls Try.prog 21 #[.pointer (some ⟨gb, 0, none⟩), .int .i64 c, .int .i64 id] w fun e w' => e = .returned (.bool (s.tellB I.pn c id)) ∧ w = w' := by
  cases hk : okI s c id
  · have OF := Lib.hid (of_no gb cb av s c id w h hc hk)
    have E : s.tellB I.pn c id = false := by unfold GS.tellB; rw [hk]; rfl
    rw [E]
    clear hk E h
    go_enter Try.func21, Try.ntmps21
    go_wp2_with (go_at_call 35; refine OF.out.mono ?_; rintro e w2 ⟨rfl, rfl⟩)
    go_ret
    exact ⟨rfl, rfl⟩
  · obtain ⟨c, id, rfl, rfl, h1, h2⟩ := okI_nat hk
    have OF := Lib.hid (of_yes gb cb av s c id w h hc h1 h2)
    have E : s.tellB I.pn (c : Int) (id : Int) = (s.get c id).pn := by unfold GS.tellB; rw [hk, Bool.true_and, Int.toNat_natCast, Int.toNat_natCast]
    rw [E]
    clear h h1 h2 hk E
    go_enter Try.func21, Try.ntmps21
    go_wp2_with (first | (go_at_call 35; refine OF.out.mono ?_; rintro e w2 ⟨sb, so, rfl, SP, rfl⟩; have PN := Lib.hid (pnd_ok SP); have SP' := Lib.hid SP; clear SP) | (go_at_call 36; refine PN.out.mono ?_; rintro e w3 ⟨rfl, rfl⟩))
    go_ret
    exact ⟨rfl, rfl⟩

set_option maxHeartbeats 1000000 in
theorem rate_at (gb cb : Nat) (av : Nat → Value) (s : GS) (c id : Int) (w : World) (h : GicAt w gb cb av s) (hc : s.c ≤ 8) :
    Calls Try.prog 19 #[.pointer (some ⟨gb, 0, none⟩), .int .i64 c, .int .i64 id] w fun e w' => e = .returned (.int .i64 (s.rate c id)) ∧ w = w' := by
  cases hk : okI s c id
  · have OF := Lib.hid (of_no gb cb av s c id w h hc hk)
    have E : s.rate c id = 0 := by unfold GS.rate; rw [hk]; rfl
    rw [E]
    clear hk E h
    go_enter Try.func19, Try.ntmps19
    go_wp2_with (go_at_call 35; refine OF.out.mono ?_; rintro e w2 ⟨rfl, rfl⟩)
    go_ret
    exact ⟨rfl, rfl⟩
  · obtain ⟨c, id, rfl, rfl, h1, h2⟩ := okI_nat hk
    have OF := Lib.hid (of_yes gb cb av s c id w h hc h1 h2)
    have E : s.rate (c : Int) (id : Int) = (s.get c id).rk := by unfold GS.rate; rw [hk, if_pos rfl, Int.toNat_natCast, Int.toNat_natCast]
    rw [E]
    clear h h1 h2 hk E
    go_enter Try.func19, Try.ntmps19
    go_wp2_with (first | (go_at_call 35; refine OF.out.mono ?_; rintro e w2 ⟨sb, so, rfl, SP, rfl⟩; have c0 := SP.cell 4 _ rfl; have SP' := Lib.hid SP; clear SP))
    go_ret
    exact ⟨rfl, rfl⟩
set_option maxHeartbeats 1000000 in
theorem goes_at (gb cb : Nat) (av : Nat → Value) (s : GS) (id : Int) (w : World) (h : GicAt w gb cb av s) (hc : s.c ≤ 8) :
    Calls Try.prog 71 #[.pointer (some ⟨gb, 0, none⟩), .int .i64 id] w fun e w' => e = .returned (.int .i64 (s.goes id)) ∧ w = w' := by
  cases hk : okI s 0 id
  · have OF := Lib.hid (of_no gb cb av s 0 id w h hc hk)
    have E : s.goes id = 0 := by unfold GS.goes; rw [hk]; rfl
    rw [E]
    clear hk E h
    go_enter Try.func71, Try.ntmps71
    go_wp2_with (go_at_call 35; refine OF.out.mono ?_; rintro e w2 ⟨rfl, rfl⟩)
    go_ret
    exact ⟨rfl, rfl⟩
  · obtain ⟨c, id, hz, rfl, h1, h2⟩ := okI_nat hk
    obtain rfl : c = 0 := by omega
    have OF := Lib.hid (of_yes gb cb av s 0 id w h hc h1 h2)
    have E : s.goes (id : Int) = if decide (32 ≤ (id : Int)) = true then (s.get 0 id).dst else 0 := by unfold GS.goes; rw [hk, Bool.true_and, Int.toNat_natCast]
    rw [E]
    clear h h1 h2 hk E hz
    cases hd : decide (32 ≤ (id : Int))
    · rw [if_neg (by decide)]
      go_enter Try.func71, Try.ntmps71
      go_wp2_with (first | (go_at_call 35; refine OF.out.mono ?_; rintro e w2 ⟨sb, so, rfl, SP, rfl⟩; have c0 := SP.cell 5 _ rfl; have SP' := Lib.hid SP; clear SP))
      go_ret
      exact ⟨rfl, rfl⟩
    · rw [if_pos rfl]
      go_enter Try.func71, Try.ntmps71
      go_wp2_with (first | (go_at_call 35; refine OF.out.mono ?_; rintro e w2 ⟨sb, so, rfl, SP, rfl⟩; have c0 := SP.cell 5 _ rfl; have SP' := Lib.hid SP; clear SP))
      go_ret
      exact ⟨rfl, rfl⟩
set_option maxHeartbeats 1000000 in
theorem limit_at (gb cb : Nat) (av : Nat → Value) (s : GS) (c : Int) (w : World) (h : GicAt w gb cb av s) (hc : s.c ≤ 8) :
    Calls Try.prog 34 #[.pointer (some ⟨gb, 0, none⟩), .int .i64 c] w fun e w' => e = .returned (.int .i64 (s.limit c)) ∧ w = w' := by
  have TH := there_ok gb cb av s c w h hc
  cases hk : thereB s c
  · rw [hk] at TH
    have TH' := Lib.hid TH
    have E : s.limit c = 0 := by unfold GS.limit; rw [hk]; rfl
    rw [E]
    clear hk E h TH
    go_enter Try.func34, Try.ntmps34
    go_wp2_with (go_at_call 41; refine TH'.out.mono ?_; rintro e w2 ⟨rfl, rfl⟩)
    go_ret
    exact ⟨rfl, rfl⟩
  · rw [hk] at TH
    have TH' := Lib.hid TH
    obtain ⟨c, rfl, h1⟩ := thereB_nat hk
    have E : s.limit (c : Int) = s.lim c := by unfold GS.limit; rw [hk, if_pos rfl, Int.toNat_natCast]
    rw [E]
    have c0 := h.cores_c
    have c1 := h.lim_c h1
    have n1 : (c : Int) < (s.c : Int) := by omega
    have n8 : (s.c : Int) ≤ 8 := by omega
    clear h E hk TH h1 hc
    go_enter Try.func34, Try.ntmps34
    go_wp2_with (go_at_call 41; refine TH'.out.mono ?_; rintro e w2 ⟨rfl, rfl⟩)
    go_ret
    exact ⟨rfl, rfl⟩
set_option maxHeartbeats 1000000 in
theorem mask_ok (K : Nat → Prop) (gb : Nat) (s : GS) (c v : Int) (w : World) (h : Gk K w gb s) :
    Calls Try.prog 28 #[.pointer (some ⟨gb, 0, none⟩), .int .i64 c, .int .i64 v] w (Tn K gb w (s.mask c v) (.int .i64 (s.maskC c v))) := by
  obtain ⟨cb, av, hg, hf⟩ := h.mem
  have TH := there_ok gb cb av s c w hg h.c8
  have HK := Lib.hid h
  have HF := Lib.hid hf
  have HG := Lib.hid hg
  cases hk : thereB s c && decide (0 ≤ v) && decide (v ≤ 255)
  · have E1 : s.mask c v = s := by unfold GS.mask; rw [hk]; rfl
    have E2 : s.maskC c v = 1 := by unfold GS.maskC; rw [hk]; rfl
    rw [E1, E2]
    clear E1 E2 hg hf h
    have hk2 : thereB s c = false ∨ (thereB s c = true ∧ decide (v < 0) = true) ∨ (thereB s c = true ∧ decide (v < 0) = false ∧ decide (255 < v) = true) := by
      cases hb : thereB s c
      · exact .inl rfl
      · rw [hb] at hk
        simp at hk ⊢
        omega
    clear hk
    rcases hk2 with h1 | ⟨h1, h2⟩ | ⟨h1, h2, h3⟩
    all_goals
      rw [h1] at TH
      have TH' := Lib.hid TH
      clear h1 TH
      go_enter Try.func28, Try.ntmps28
      go_wp2_with (go_at_call 41; refine TH'.out.mono ?_; rintro e w2 ⟨rfl, rfl⟩)
      go_ret
      exact Tn.of HK.out HF.out (Fr.refl Nil w) HG.out (Fr.refl _ w) rfl fun i k hi hk => .inl hk
  · have E1 : s.mask c v = { s with lim := upd s.lim c.toNat v } := by unfold GS.mask; rw [hk]; rfl
    have E2 : s.maskC c v = 0 := by unfold GS.maskC; rw [hk]; rfl
    rw [E1, E2]
    simp only [Bool.and_eq_true, decide_eq_true_eq] at hk
    obtain ⟨⟨k1, k2⟩, k3⟩ := hk
    rw [k1] at TH
    obtain ⟨c, rfl, h1⟩ := thereB_nat k1
    rw [Int.toNat_natCast]
    have TH' := Lib.hid TH
    have c0 := hg.cores_c
    have c1 := hg.lim_c h1
    have fz := hg.cores.frozen (c * 194 + 192)
    have n1 : (c : Int) < (s.c : Int) := by omega
    have n8 : (s.c : Int) ≤ 8 := by have := HK.out.c8; omega
    have H1 := Lib.hid h1
    have b1 : decide (v < 0) = false := by simp; omega
    have b2 : decide (255 < v) = false := by simp; omega
    clear h E1 E2 k1 k2 k3 TH h1 hg hf
    go_enter Try.func28, Try.ntmps28
    go_wp2_with (go_at_call 41; refine TH'.out.mono ?_; rintro e w2 ⟨rfl, rfl⟩)
    go_ret
    exact Tn.of HK.out HF.out (Fr.refl Nil w) (HG.out.setLim H1.out v) ((Fr.refl _ w).setCell (.inl (.inr (.inl rfl))) _) rfl fun i k hi hk => .inl hk

end Go.Proofs.Ytnmakbippgnekaa
