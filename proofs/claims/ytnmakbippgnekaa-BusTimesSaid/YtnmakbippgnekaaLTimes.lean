/- BusTimes: the walk. -/
import Derived.Test.YtnmakbippgnekaaPt
import Derived.Test.YtnmakbippgnekaaLBits
set_option linter.unusedSimpArgs false
set_option linter.unusedVariables false
set_option linter.unusedSectionVars false
namespace Go.Proofs.Ytnmakbippgnekaa
open Go.RowKit
set_option maxRecDepth 100000

section
variable (c : Nat) (hc : c < 3) (x y : Int)
def S1 : BS := ⟨G1 c, t1 c x, []⟩
def S2 : BS := ⟨G2 c (decide (x ≤ 0)), t2 c x, []⟩
def S3 : BS := ⟨G3 c (decide (x ≤ 0)), t2 c x, []⟩
def S4 : BS := ⟨G4 c (decide (x ≤ 0)) (decide (x ≤ y)), t4 c x y, []⟩
def S5 : BS := ⟨G5 c (decide (x ≤ 0)) (decide (x ≤ y)), t4 c x y, []⟩
def S6 : BS := ⟨G6 c (decide (x ≤ 0)) (decide (x ≤ y)), t4 c x y, []⟩
def S7 : BS := ⟨G7 c (decide (x ≤ 0)), t4 c x y, []⟩
def S8 : BS := ⟨G8 c (decide (x ≤ 0)), t4 c x y, []⟩
def S9 : BS := ⟨G9 c (decide (x ≤ 0)), t4 c x y, []⟩
def S10 : BS := ⟨G10 c (decide (x ≤ 0)), t4 c x y, []⟩
def S11 : BS := ⟨G11 c (decide (x ≤ 0)), t11 c x y, []⟩
def S12 : BS := ⟨G12 c (decide (x ≤ 0)), t11 c x y, []⟩
include hc
theorem n1 : (t1 c x).n = 3 := by rw [t1_eq c hc]; rfl
theorem n2 : (t2 c x).n = 3 := by rw [t2_eq c hc]; rfl
theorem es1 : setS (B0 3) (c : Int) 0 24346 x = S1 c x ∧ setV (B0 3) (c : Int) 0 24346 = 0 := by
  obtain ⟨h1, h2⟩ := setS_tim (B0 3) c hc 0 24346 x (.inl rfl) (.inr rfl)
  refine ⟨h1.trans ?_, h2⟩
  have k : ∀ k : Nat, k < 3 → Tim.hiB (t1 c x) (k : Int) = bc c k false := fun k hk => hi_no _ c k (by rw [n1 c hc]; exact hk) (by rw [t1_eq c hc]; exact Nat.zero_ne_one)
  exact (lined_linc (B0 3) (t1 c x) c false (n1 c hc x) (k 0 (by decide)) (k 1 (by decide)) (k 2 (by decide))).trans (by simp only [S1, B0, G1])
theorem es2 : setS (S1 c x) (c : Int) 0 24345 1 = S2 c x ∧ setV (S1 c x) (c : Int) 0 24345 = 0 := by
  obtain ⟨h1, h2⟩ := setS_tim (S1 c x) c (by show c < (t1 c x).n; rw [n1 c hc]; exact hc) 0 24345 1 (.inl rfl) (.inl rfl)
  refine ⟨h1.trans ?_, h2⟩
  have k : ∀ k : Nat, k < 3 → Tim.hiB (t2 c x) (k : Int) = bc c k (decide (x ≤ 0)) := fun k hk => by
    have := hi_bc (t2 c x) c k (by rw [n2 c hc]; exact hk) (fun e => by rw [t2_eq c hc]; show upd (fun _ => 0) c 1 k ≠ 1; rw [upd_other _ _ e]; exact Nat.zero_ne_one) (by rw [t2_eq c hc]; show upd (fun _ => 0) c 1 c = 1; rw [upd_same])
    rw [this, t2_eq c hc]
    show bc c k (decide (upd (fun _ => 0) c x c ≤ 0)) = _
    rw [upd_same]
  exact (lined_linc (S1 c x) (t2 c x) c _ (n2 c hc x) (k 0 (by decide)) (k 1 (by decide)) (k 2 (by decide))).trans (by simp only [S2, S1, G2])
theorem es3 : wrB (S2 c x) (c : Int) 134217728 134217728 = S3 c x ∧ wrF (S2 c x) (c : Int) 134217728 = 0 := by
  obtain ⟨h1, h2⟩ := wrB_reg (S2 c x) (c : Int) 134217728 134217728 0 (okA_nat (by show c < (t2 c x).n; rw [n2 c hc]; exact hc) rfl) (by kernel_rfl)
  exact ⟨h1.trans (by simp only [S3, S2, G3, en27, wrReg, regK]; rfl), h2⟩
theorem es4 (y0 : 0 ≤ y) (y1 : y ≤ 18446744073709551615) : (S3 c x).lined { (S3 c x).t with t := IntKind.u64.wrap ((S3 c x).t.t + y) } = S4 c x y := by
  have e4 := t4_eq c hc x y y0 y1
  have k : ∀ k : Nat, k < 3 → Tim.hiB (t4 c x y) (k : Int) = bc c k (decide (x ≤ y)) := fun k hk => by
    have := hi_bc (t4 c x y) c k (by rw [e4]; exact hk) (fun e => by rw [e4]; show upd (fun _ => 0) c 1 k ≠ 1; rw [upd_other _ _ e]; exact Nat.zero_ne_one) (by rw [e4]; show upd (fun _ => 0) c 1 c = 1; rw [upd_same])
    rw [this, e4]
    show bc c k (decide (upd (fun _ => 0) c x c ≤ y)) = _
    rw [upd_same]
  have e := lined_linc (S3 c x) (t4 c x y) c _ (by rw [e4]) (k 0 (by decide)) (k 1 (by decide)) (k 2 (by decide))
  exact e.trans (by simp only [S4, S3, G4])
theorem n4 : (t4 c x y).n = 3 := by show (t2 c x).n = 3; exact n2 c hc x
theorem es5 : sysS (S4 c x y) (c : Int) 1 18016 = S5 c x y ∧ sysV (S4 c x y) (c : Int) 1 18016 = (if decide (x ≤ y) = true then 27 else 1023, 0) := by
  obtain ⟨h1, h2⟩ := sysS_iar (S4 c x y) c (by show c < (t4 c x y).n; rw [n4 c hc]; exact hc)
  exact ⟨h1.trans (by simp only [S5, S4, G5]), h2.trans (by simp only [S4]; rw [v4 c hc])⟩
theorem es6 : sysS (S5 c x y) (ot c : Int) 1 18016 = S6 c x y ∧ sysV (S5 c x y) (ot c : Int) 1 18016 = (1023, 0) := by
  obtain ⟨h1, h2⟩ := sysS_iar (S5 c x y) (ot c) (by show ot c < (t4 c x y).n; rw [n4 c hc]; exact Nat.mod_lt _ (by decide))
  exact ⟨h1.trans (by simp only [S6, S5, G6]), h2.trans (by simp only [S5]; rw [v5 c hc])⟩
theorem es7 (h : decide (x ≤ y) = true) : sysS (S6 c x y) (c : Int) 1 18016 = S7 c x y ∧ sysV (S6 c x y) (c : Int) 1 18016 = (1023, 0) := by
  obtain ⟨h1, h2⟩ := sysS_iar (S6 c x y) c (by show c < (t4 c x y).n; rw [n4 c hc]; exact hc)
  unfold S6 at h1 h2 ⊢
  rw [h] at h1 h2 ⊢
  exact ⟨h1.trans (by simp only [S7, G7]), h2.trans (by rw [v6 c hc])⟩
theorem es8 : setS (S7 c x y) (c : Int) 1 18017 27 = S8 c x y ∧ setV (S7 c x y) (c : Int) 1 18017 = 0 :=
  by
  obtain ⟨h1, h2⟩ := setS_eoi (S7 c x y) c (by show c < (t4 c x y).n; rw [n4 c hc]; exact hc) 27
  exact ⟨h1.trans (by simp only [S8, S7, G8]; rfl), h2⟩
theorem es9 : sysS (S8 c x y) (c : Int) 1 18016 = S9 c x y ∧ sysV (S8 c x y) (c : Int) 1 18016 = (27, 0) := by
  obtain ⟨h1, h2⟩ := sysS_iar (S8 c x y) c (by show c < (t4 c x y).n; rw [n4 c hc]; exact hc)
  exact ⟨h1.trans (by simp only [S9, S8, G9]), h2.trans (by simp only [S8]; rw [v8 c hc])⟩
theorem es10 : setS (S9 c x y) (c : Int) 1 18017 27 = S10 c x y ∧ setV (S9 c x y) (c : Int) 1 18017 = 0 :=
  by
  obtain ⟨h1, h2⟩ := setS_eoi (S9 c x y) c (by show c < (t4 c x y).n; rw [n4 c hc]; exact hc) 27
  exact ⟨h1.trans (by simp only [S10, S9, G10]; rfl), h2⟩
theorem es11 (y0 : 0 ≤ y) (y1 : y ≤ 18446744073709551615) : setS (S10 c x y) (c : Int) 0 24345 3 = S11 c x y ∧ setV (S10 c x y) (c : Int) 0 24345 = 0 := by
  obtain ⟨h1, h2⟩ := setS_tim (S10 c x y) c (by show c < (t4 c x y).n; rw [n4 c hc]; exact hc) 0 24345 3 (.inl rfl) (.inl rfl)
  refine ⟨h1.trans ?_, h2⟩
  have e := t11_eq c hc x y y0 y1
  have k : ∀ k : Nat, k < 3 → Tim.hiB (t11 c x y) (k : Int) = bc c k false := fun k hk => hi_no _ c k (by rw [e]; exact hk) (by
    rw [e]
    show upd (upd (fun _ => 0) c 1) c 3 k ≠ 1
    by_cases e2 : k = c
    · rw [e2, upd_same]; decide
    · rw [upd_other _ _ e2, upd_other _ _ e2]; exact Nat.zero_ne_one)
  have e3 := lined_linc (S10 c x y) (t11 c x y) c false (by rw [e]) (k 0 (by decide)) (k 1 (by decide)) (k 2 (by decide))
  exact e3.trans (by simp only [S11, S10, G11])
theorem es12 (y0 : 0 ≤ y) (y1 : y ≤ 18446744073709551615) : sysS (S11 c x y) (c : Int) 1 18016 = S12 c x y ∧ sysV (S11 c x y) (c : Int) 1 18016 = (1023, 0) := by
  obtain ⟨h1, h2⟩ := sysS_iar (S11 c x y) c (by show c < (t11 c x y).n; rw [t11_eq c hc x y y0 y1]; exact hc)
  exact ⟨h1.trans (by simp only [S12, S11, G12]), h2.trans (by simp only [S11]; rw [v11 c hc])⟩
end
set_option maxHeartbeats 2000000 in
theorem busTimes_walk (z x y : Int) (w : World) (w1 : (Lit.int .i64 z).wf = true) (w2 : (Lit.int .u64 x).wf = true) (w3 : (Lit.int .u64 y).wf = true) :
    Calls Try.prog 4 #[.int .i64 z, .int .u64 x, .int .u64 y] w fun e w' => e = .returned (.bool true) ∧ Below w.heap.size w w' := by
  obtain ⟨z0, z1⟩ := i64_rng w1
  obtain ⟨x0, x1⟩ := u64_rng w2
  obtain ⟨y0, y1⟩ := u64_rng w3
  have KN := Lib.hid (known_ok w)
  obtain ⟨c, hcp, hc⟩ := pk3 (x := z) (n := 3) (by omega)
  have PI := fun w => pick_ok z 3 w z0 z1 (by omega) (by omega)
  rw [show pk z 3 = (c : Int) from hcp] at PI
  have PI := Lib.hid PI
  have HX := Lib.hid (And.intro x0 x1)
  have HY := Lib.hid (And.intro y0 y1)
  have E1 := Lib.hid (es1 c hc x)
  have E2 := Lib.hid (es2 c hc x)
  have E3 := Lib.hid (es3 c hc x)
  have E4 := Lib.hid (es4 c hc x y y0 y1)
  have E5 := Lib.hid (es5 c hc x y)
  have E6 := Lib.hid (es6 c hc x y)
  have E7 := Lib.hid (es7 c hc x y)
  have E8 := Lib.hid (es8 c hc x y)
  have E9 := Lib.hid (es9 c hc x y)
  have E10 := Lib.hid (es10 c hc x y)
  have E11 := Lib.hid (es11 c hc x y y0 y1)
  have E12 := Lib.hid (es12 c hc x y y0 y1)
  have A1 := Lib.hid (show AtLe (S1 c x).g 0 from E1.out.1 ▸ (AtLe.b0 3).set_ (c : Int) 0 24346 x)
  have A2 := Lib.hid (show AtLe (S2 c x).g 0 from E2.out.1 ▸ A1.out.set_ (c : Int) 0 24345 1)
  have A3 := Lib.hid (show AtLe (S3 c x).g 0 from E3.out.1 ▸ A2.out.wr (c : Int) 134217728 134217728)
  have A4 := Lib.hid (show AtLe (S4 c x y).g 0 from E4.out ▸ A3.out.lined _)
  have A5 := Lib.hid (show AtLe (S5 c x y).g 1 from E5.out.1 ▸ A4.out.sys (c : Int) 1 18016)
  have A6 := Lib.hid (show AtLe (S6 c x y).g 2 from E6.out.1 ▸ A5.out.sys (ot c : Int) 1 18016)
  have HO := Lib.hid (show ((c : Int) + 1) % 3 = (ot c : Int) from by unfold ot; omega)
  have ho := HO.out
  have c2 : (c : Int) < 3 := by omega
  clear hc hcp z0 z1 x0 x1 y0 y1 w1 w2 w3
  cases hd : decide (x ≤ y)
  all_goals
    have HD := Lib.hid hd
    have E5' := E5.out.2
    simp only [hd, if_true, if_false, Bool.false_eq_true] at E5'
    have E5' := Lib.hid E5'
    go_enter Try.func4, Try.ntmps4
    go_wp2_with fail
    refine KN.out.mono ?_
    rintro e wa ⟨rfl, f1⟩
    have F1 := Lib.hid f1
    clear f1 KN
    go_wp2_with fail
    refine (bw_new (w0 := w) F1.out.nil 3 rfl (by decide) (by decide)).mono ?_
    rintro e w1 ⟨bb, gb, tb, rfl, h1⟩
    have H1 := Lib.hid h1
    clear h1 F1
    go_wp2_with fail
    refine (PI.out _).mono ?_
    rintro e w2 ⟨rfl, rfl⟩
    go_wp2_with fail
    refine (H1.out.set_ (c : Int) 0 24346 x HX.out.1 HX.out.2 0 (by decide) (AtLe.b0 3) E1.out.2 E1.out.1).mono ?_
    rintro e w2 ⟨rfl, h2⟩
    have H2 := Lib.hid h2
    clear h2 H1
    go_wp2_with fail
    refine (H2.out.set_ (c : Int) 0 24345 1 (by decide) (by decide) 0 (by decide) A1.out E2.out.2 E2.out.1).mono ?_
    rintro e w3 ⟨rfl, h3⟩
    have H3 := Lib.hid h3
    clear h3 H2
    go_wp2_with fail
    refine (H3.out.write (c : Int) 134217728 134217728 (by decide) (by decide) (by decide) (by decide) E3.out.2 E3.out.1).mono ?_
    rintro e w4 ⟨rfl, h4⟩
    have H4 := Lib.hid h4
    clear h4 H3
    go_wp2_with fail
    refine (H4.out.tick y E4.out).mono ?_
    rintro e w5 ⟨rfl, h5⟩
    have H5 := Lib.hid h5
    clear h5 H4
    go_wp2_with fail
    refine (H5.out.sys (c : Int) 1 18016 0 (by decide) A4.out E5'.out E5.out.1).mono ?_
    rintro e w6 ⟨rfl, h6⟩
    have H6 := Lib.hid h6
    clear h6 H5
    go_wp2_with fail
    refine (H6.out.sys (ot c : Int) 1 18016 1 (by decide) A5.out E6.out.2 E6.out.1).mono ?_
    rintro e w7 ⟨rfl, h7⟩
    have H7 := Lib.hid h7
    clear h7 H6
  · go_wp2_with fail
    go_ret
    exact ⟨rfl, H7.out.below⟩
  · have E7' := Lib.hid (E7.out HD.out)
    have A7 := Lib.hid (show AtLe (S7 c x y).g 3 from E7'.out.1 ▸ A6.out.sys (c : Int) 1 18016)
    have A8 := Lib.hid (show AtLe (S8 c x y).g 3 from E8.out.1 ▸ A7.out.set_ (c : Int) 1 18017 27)
    have A9 := Lib.hid (show AtLe (S9 c x y).g 4 from E9.out.1 ▸ A8.out.sys (c : Int) 1 18016)
    have A10 := Lib.hid (show AtLe (S10 c x y).g 4 from E10.out.1 ▸ A9.out.set_ (c : Int) 1 18017 27)
    have A11 := Lib.hid (show AtLe (S11 c x y).g 4 from E11.out.1 ▸ A10.out.set_ (c : Int) 0 24345 3)
    go_wp2_with fail
    refine (H7.out.sys (c : Int) 1 18016 2 (by decide) A6.out E7'.out.2 E7'.out.1).mono ?_
    rintro e w8 ⟨rfl, h8⟩
    have H8 := Lib.hid h8
    clear h8 H7
    go_wp2_with fail
    refine (H8.out.set_ (c : Int) 1 18017 27 (by decide) (by decide) 3 (by decide) A7.out E8.out.2 E8.out.1).mono ?_
    rintro e w9 ⟨rfl, h9⟩
    have H9 := Lib.hid h9
    clear h9 H8
    go_wp2_with fail
    refine (H9.out.sys (c : Int) 1 18016 3 (by decide) A8.out E9.out.2 E9.out.1).mono ?_
    rintro e w10 ⟨rfl, h10⟩
    have H10 := Lib.hid h10
    clear h10 H9
    go_wp2_with fail
    refine (H10.out.set_ (c : Int) 1 18017 27 (by decide) (by decide) 4 (by decide) A9.out E10.out.2 E10.out.1).mono ?_
    rintro e w11 ⟨rfl, h11⟩
    have H11 := Lib.hid h11
    clear h11 H10
    go_wp2_with fail
    refine (H11.out.set_ (c : Int) 0 24345 3 (by decide) (by decide) 4 (by decide) A10.out E11.out.2 E11.out.1).mono ?_
    rintro e w12 ⟨rfl, h12⟩
    have H12 := Lib.hid h12
    clear h12 H11
    go_wp2_with fail
    refine (H12.out.sys (c : Int) 1 18016 4 (by decide) A11.out E12.out.2 E12.out.1).mono ?_
    rintro e w13 ⟨rfl, h13⟩
    have H13 := Lib.hid h13
    clear h13 H12
    go_wp2_with fail
    go_ret
    exact ⟨rfl, H13.out.below⟩
end Go.Proofs.Ytnmakbippgnekaa
