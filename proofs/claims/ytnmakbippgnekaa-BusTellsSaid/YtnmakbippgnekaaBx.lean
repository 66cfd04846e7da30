/- The bus: SetSys. -/
import Derived.Test.YtnmakbippgnekaaBs
import Derived.Test.YtnmakbippgnekaaGeoi
set_option linter.unusedSimpArgs false
set_option linter.unusedVariables false
set_option linter.unusedSectionVars false
namespace Go.Proofs.Ytnmakbippgnekaa
open Go.RowKit
set_option maxRecDepth 100000

section
variable {K : Nat → Prop} {w w' : World} {bb gb tb : Nat} {B : BS}
/-- To which cores an interrupt is sent. -/
def sgiT (n : Nat) (c v : Int) : Int := if hasb v 40 = true then 2 ^ n - 1 - 2 ^ c.toNat else v % 65536 % 2 ^ n
def setS (B : BS) (c el sy v : Int) : BS :=
  if mayB B.t.n c el = true then
    if Tim.wrV B.t c sy = 0 then B.lined (Tim.wrS B.t c sy v)
    else if el = 1 ∧ sy = 16944 then { B with g := B.g.mask c (v % 256) }
    else if el = 1 ∧ sy = 18017 then { B with g := B.g.eoi c (v % 16777216) }
    else if el = 1 ∧ sy = 18013 then { B with g := B.g.send (sgiT B.t.n c v) (v / 16777216 % 16) } else B
  else B
def setV (B : BS) (c el sy : Int) : Int :=
  if mayB B.t.n c el = true then
    if Tim.wrV B.t c sy = 0 then 0 else if el = 1 ∧ sy = 16944 then 0 else if el = 1 ∧ sy = 18017 then 0 else if el = 1 ∧ sy = 18013 then 0 else 2
  else 2
theorem wrS_no {t : Tim.Ts} {c sy v : Int} (h : Tim.wrV t c sy ≠ 0) : Tim.wrS t c sy v = t := by
  unfold Tim.wrV at h
  unfold Tim.wrS
  split
  · rename_i h1
    by_cases h2 : sy = 24345 ∨ sy = 24346
    · rw [if_pos ⟨h1, h2⟩] at h; exact absurd rfl h
    · rw [if_neg (fun e => h2 (.inl e)), if_neg (fun e => h2 (.inr e))]
  · rfl
theorem and24 (v : Int) (v0 : 0 ≤ v) (v1 : v ≤ 18446744073709551615) : bits .and .u64 v 16777215 = v % 16777216 := and_low v 24 (by omega) v0 v1
theorem shr24 (v : Int) (v0 : 0 ≤ v) (v1 : v ≤ 18446744073709551615) : bits .and .u64 (v / 16777216) 15 = v / 16777216 % 16 := and_low (v / 16777216) 4 (by omega) (by omega) (by omega)
theorem andI (x : Int) (a m : Nat) (ha : a < 2 ^ 64) (hx : BitVec.ofInt 64 x = BitVec.ofNat 64 a) (hm : m < 2 ^ 63) : bits .and .i64 x (m : Int) = ((a &&& m : Nat) : Int) := by
  have e : bits .and .i64 x (m : Int) = IntKind.i64.wrap (((BitVec.ofInt 64 x &&& BitVec.ofNat 64 m).toNat : Nat) : Int) := by
    unfold bits
    simp only [IntKind.bits, BitVec.ofInt_natCast]
    rfl
  rw [e, hx, BitVec.toNat_and, BitVec.toNat_ofNat, BitVec.toNat_ofNat, Nat.mod_eq_of_lt ha, Nat.mod_eq_of_lt (by omega), IntKind.wrap_i64]
  have : a &&& m ≤ m := Nat.and_le_right
  omega
theorem ofInt_wrap (v : Int) (v0 : 0 ≤ v) (v1 : v ≤ 18446744073709551615) : BitVec.ofInt 64 (IntKind.i64.wrap v) = BitVec.ofNat 64 v.toNat := by
  apply BitVec.eq_of_toInt_eq
  rw [BitVec.toInt_ofInt, BitVec.toInt_ofNat', IntKind.wrap_i64]
  simp only [Int.bmod_def]
  have : ((v.toNat : Nat) : Int) = v := by omega
  omega
theorem sgi_and (n : Nat) (v : Int) (hn : n ≤ 8) (v0 : 0 ≤ v) (v1 : v ≤ 18446744073709551615) : bits .and .i64 (bits .and .i64 (wrap64 v) 65535) (2 ^ n - 1) = v % 65536 % 2 ^ n := by
  rw [show wrap64 v = IntKind.i64.wrap v from by unfold wrap64; exact (IntKind.wrap_i64 v).symm]
  have h1 := andI (IntKind.i64.wrap v) v.toNat 65535 (by omega) (ofInt_wrap v v0 v1) (by omega)
  rw [show ((65535 : Nat) : Int) = 65535 from rfl, show (65535 : Nat) = 2 ^ 16 - 1 from rfl, Nat.and_two_pow_sub_one_eq_mod] at h1
  rw [h1]
  have hp : (2 : Nat) ^ n ≤ 2 ^ 8 := Nat.pow_le_pow_right (by omega) hn
  have hq : 0 < (2 : Nat) ^ n := Nat.pow_pos (by omega)
  have h2 := andI ((v.toNat % 2 ^ 16 : Nat) : Int) (v.toNat % 2 ^ 16) (2 ^ n - 1) (by omega) (BitVec.ofInt_natCast _ _) (by omega)
  rw [Nat.and_two_pow_sub_one_eq_mod] at h2
  rw [powN, show (((2 ^ n : Nat) : Int) - 1) = ((2 ^ n - 1 : Nat) : Int) by omega, h2]
  rw [Int.natCast_emod, Int.natCast_emod]
  have : ((v.toNat : Nat) : Int) = v := by omega
  rw [this]
  rfl
theorem sgi_all (n : Nat) (hn : n ≤ 8) : wrap64 (wrap64 (2 ^ n) - 1) = 2 ^ n - 1 := by
  have : n = 0 ∨ n = 1 ∨ n = 2 ∨ n = 3 ∨ n = 4 ∨ n = 5 ∨ n = 6 ∨ n = 7 ∨ n = 8 := by omega
  rcases this with rfl | rfl | rfl | rfl | rfl | rfl | rfl | rfl | rfl <;> (unfold wrap64; decide)
theorem sgi_not : ∀ n, n ≤ 8 → ∀ i, i < n → bits .andNot .i64 (2 ^ n - 1) (wrap64 (2 ^ i)) = 2 ^ n - 1 - 2 ^ i := by unfold wrap64; decide
set_option maxHeartbeats 2000000 in
theorem setsys_sgi (c v : Int) (w : World) (h : Bk K w bb gb tb B) (hm : mayB B.t.n c 1 = true) (hr : Tim.wrV B.t c 18013 ≠ 0) (v0 : 0 ≤ v) (v1 : v ≤ 18446744073709551615) :
    Calls Try.prog 11 #[.pointer (some ⟨bb, 0, none⟩), .int .i64 c, .int .i64 1, .int .i64 18013, .int .u64 v] w (Bn K bb gb tb w { B with g := B.g.send (sgiT B.t.n c v) (v / 16777216 % 16) } (.int .i64 0)) := by
  have e2 : (Tim.wrV B.t c 18013 == 0) = false := by simpa using hr
  obtain ⟨c0, c1, c2⟩ := h.cells
  have MA := Lib.hid (may_ok c 1 w h)
  rw [hm] at MA
  have RD := h.write c 18013 v v0 v1
  rw [wrS_no hr] at RD
  have RD := Lib.hid RD
  obtain ⟨n, hn⟩ : ∃ n, B.t.n = n := ⟨_, rfl⟩
  have hc : ∃ i : Nat, c = (i : Int) ∧ i < n := by
    rw [hn] at hm
    unfold mayB at hm
    simp only [Bool.and_eq_true, decide_eq_true_eq] at hm
    exact ⟨c.toNat, by omega, by omega⟩
  obtain ⟨i, rfl, hi⟩ := hc
  have n8 : n ≤ 8 := by have := h.n8; omega
  rw [hn] at c0 ⊢
  have HN := Lib.hid (And.intro hn (And.intro hi n8))
  have nn8 : (n : Int) ≤ 8 := by omega
  have in8 : (i : Int) < 8 := by omega
  have EA := Lib.hid (sgi_all n n8)
  have ET := Lib.hid (sgi_and n v n8 v0 v1)
  have EN := Lib.hid (sgi_not n n8 i hi)
  have e24 := shr24 v v0 v1
  have e40 : bits .and .u64 (v / 1099511627776) 1 = v / 1099511627776 % 2 := bitI v 40 v0 v1
  have ew : sgiT n (i : Int) v = if (v / 1099511627776 % 2 == 1) = true then 2 ^ n - 1 - 2 ^ i else v % 65536 % 2 ^ n := by unfold sgiT hasb; rfl
  obtain ⟨T, hT⟩ : ∃ T, T = sgiT n (i : Int) v := ⟨_, rfl⟩
  have SN := Lib.hid (fun W (hB : Bk K W bb gb tb B) => hB.gic (fun K' hg => send_ok K' gb B.g T (v / 16777216 % 16) W hg) (send_c _ _ _))
  rw [← hT] at ew ⊢
  clear h hm hr hn hi n8 hT
  generalize Tim.wrV B.t (i : Int) 18013 = wv at *
  cases hb : (v / 1099511627776 % 2 == 1)
  all_goals
    simp only [hb, if_true, if_false, Bool.false_eq_true] at ew
    have EW := Lib.hid ew
    clear ew
    go_enter Try.func11, Try.ntmps11
    go_wp2_with fail
    refine MA.out.mono ?_
    rintro e w4 ⟨rfl, rfl⟩
    go_wp2_with fail
    refine RD.out.mono ?_
    rintro e w4 ⟨rfl, h4, f4⟩
    have H4 := Lib.hid h4
    obtain ⟨d0, d1, d2⟩ := h4.cells
    rw [HN.out.1] at d0
    have F4 := Lib.hid f4
    clear h4 f4
    go_upto_region 13 with fail
    rw [EA.out]
    go_upto_region 14 with fail
    rw [ET.out]
  · rw [← EW.out]
    go_wp2_with fail
    refine (SN.out _ H4.out).mono ?_
    rintro e w5 ⟨rfl, h5, f5⟩
    have H5 := Lib.hid (And.intro h5 (F4.out.trans f5))
    clear h5 f5 d0 d1 d2
    go_wp2_with fail
    go_ret
    exact ⟨rfl, H5.out.1, H5.out.2⟩
  · go_upto_region 16 with fail
    rw [EN.out, ← EW.out]
    go_wp2_with fail
    refine (SN.out _ H4.out).mono ?_
    rintro e w5 ⟨rfl, h5, f5⟩
    have H5 := Lib.hid (And.intro h5 (F4.out.trans f5))
    clear h5 f5 d0 d1 d2
    go_wp2_with fail
    go_ret
    exact ⟨rfl, H5.out.1, H5.out.2⟩
set_option maxHeartbeats 2000000 in
theorem setsys_pmr (c v : Int) (w : World) (h : Bk K w bb gb tb B) (hm : mayB B.t.n c 1 = true) (hr : Tim.wrV B.t c 16944 ≠ 0) (v0 : 0 ≤ v) (v1 : v ≤ 18446744073709551615) :
    Calls Try.prog 11 #[.pointer (some ⟨bb, 0, none⟩), .int .i64 c, .int .i64 1, .int .i64 16944, .int .u64 v] w (Bn K bb gb tb w { B with g := B.g.mask c (v % 256) } (.int .i64 0)) := by
  have e2 : (Tim.wrV B.t c 16944 == 0) = false := by simpa using hr
  obtain ⟨c0, c1, c2⟩ := h.cells
  have MA := Lib.hid (may_ok c 1 w h)
  rw [hm] at MA
  have RD := h.write c 16944 v v0 v1
  rw [wrS_no hr] at RD
  have RD := Lib.hid RD
  have em := and255 v v0 v1
  have e24 := and24 v v0 v1
  have m0 : 0 ≤ v % 256 := by omega
  have m1 : v % 256 ≤ 255 := by omega
  have m2 : 0 ≤ v % 16777216 := by omega
  have m3 : v % 16777216 ≤ 16777215 := by omega
  have SN := Lib.hid (fun W (hB : Bk K W bb gb tb B) => hB.gic (fun K' hg => mask_ok K' gb B.g c (v % 256) W hg) (mask_c _ _ _))
  clear h hm hr
  generalize Tim.wrV B.t c 16944 = wv at *
  generalize v % 256 = v8 at *
  generalize v % 16777216 = v24 at *
  go_enter Try.func11, Try.ntmps11
  go_wp2_with fail
  refine MA.out.mono ?_
  rintro e w4 ⟨rfl, rfl⟩
  go_wp2_with fail
  refine RD.out.mono ?_
  rintro e w4 ⟨rfl, h4, f4⟩
  have H4 := Lib.hid h4
  obtain ⟨d0, d1, d2⟩ := h4.cells
  have F4 := Lib.hid f4
  clear h4 f4
  go_wp2_with fail
  refine (SN.out _ H4.out).mono ?_
  rintro e w5 ⟨rfl, h5, f5⟩
  have H5 := Lib.hid (And.intro h5 (F4.out.trans f5))
  clear h5 f5 d0 d1 d2
  go_wp2_with fail
  go_ret
  exact ⟨rfl, H5.out.1, H5.out.2⟩
set_option maxHeartbeats 2000000 in
theorem setsys_eoir (c v : Int) (w : World) (h : Bk K w bb gb tb B) (hm : mayB B.t.n c 1 = true) (hr : Tim.wrV B.t c 18017 ≠ 0) (v0 : 0 ≤ v) (v1 : v ≤ 18446744073709551615) (n : Nat) (hn : n ≤ 1000) (ha : AtLe B.g n) :
    Calls Try.prog 11 #[.pointer (some ⟨bb, 0, none⟩), .int .i64 c, .int .i64 1, .int .i64 18017, .int .u64 v] w (Bn K bb gb tb w { B with g := B.g.eoi c (v % 16777216) } (.int .i64 0)) := by
  have e2 : (Tim.wrV B.t c 18017 == 0) = false := by simpa using hr
  obtain ⟨c0, c1, c2⟩ := h.cells
  have MA := Lib.hid (may_ok c 1 w h)
  rw [hm] at MA
  have RD := h.write c 18017 v v0 v1
  rw [wrS_no hr] at RD
  have RD := Lib.hid RD
  have em := and255 v v0 v1
  have e24 := and24 v v0 v1
  have m0 : 0 ≤ v % 256 := by omega
  have m1 : v % 256 ≤ 255 := by omega
  have m2 : 0 ≤ v % 16777216 := by omega
  have m3 : v % 16777216 ≤ 16777215 := by omega
  have SN := Lib.hid (fun W (hB : Bk K W bb gb tb B) => hB.gic (fun K' hg => eoi_ok K' gb B.g c (v % 16777216) W hg n hn ha) (eoi_c _ _ _))
  clear h hm hr
  generalize Tim.wrV B.t c 18017 = wv at *
  generalize v % 256 = v8 at *
  generalize v % 16777216 = v24 at *
  go_enter Try.func11, Try.ntmps11
  go_wp2_with fail
  refine MA.out.mono ?_
  rintro e w4 ⟨rfl, rfl⟩
  go_wp2_with fail
  refine RD.out.mono ?_
  rintro e w4 ⟨rfl, h4, f4⟩
  have H4 := Lib.hid h4
  obtain ⟨d0, d1, d2⟩ := h4.cells
  have F4 := Lib.hid f4
  clear h4 f4
  go_wp2_with fail
  refine (SN.out _ H4.out).mono ?_
  rintro e w5 ⟨rfl, h5, f5⟩
  have H5 := Lib.hid (And.intro h5 (F4.out.trans f5))
  clear h5 f5 d0 d1 d2
  go_wp2_with fail
  go_ret
  exact ⟨rfl, H5.out.1, H5.out.2⟩
set_option maxHeartbeats 2000000 in
/-- A level, a register: where nothing is done. -/
theorem setsys_no (c el sy v : Int) (w : World) (h : Bk K w bb gb tb B) (hm : mayB B.t.n c el = true) (hr : Tim.wrV B.t c sy ≠ 0) (v0 : 0 ≤ v) (v1 : v ≤ 18446744073709551615) (hn : el ≠ 1 ∨ (sy ≠ 16944 ∧ sy ≠ 18017 ∧ sy ≠ 18013)) :
    Calls Try.prog 11 #[.pointer (some ⟨bb, 0, none⟩), .int .i64 c, .int .i64 el, .int .i64 sy, .int .u64 v] w (Bn K bb gb tb w B (.int .i64 2)) := by
  have e2 : (Tim.wrV B.t c sy == 0) = false := by simpa using hr
  obtain ⟨c0, c1, c2⟩ := h.cells
  have MA := Lib.hid (may_ok c el w h)
  rw [hm] at MA
  have RD := h.write c sy v v0 v1
  rw [wrS_no hr] at RD
  have RD := Lib.hid RD
  have e3 : (el == 1) = false ∨ (el == 1) = true ∧ (sy == 16944) = false ∧ (sy == 18017) = false ∧ (sy == 18013) = false := by
    rcases hn with e | ⟨h1, h2, h3⟩
    · exact .inl (by simpa using e)
    · cases e4 : (el == 1)
      · exact .inl rfl
      · exact .inr ⟨rfl, by simpa using h1, by simpa using h2, by simpa using h3⟩
  clear h hm hr hn
  generalize Tim.wrV B.t c sy = wv at *
  rcases e3 with e3 | ⟨e3, e4, e5, e6⟩
  all_goals
    go_enter Try.func11, Try.ntmps11
    go_wp2_with fail
    refine MA.out.mono ?_
    rintro e w4 ⟨rfl, rfl⟩
    go_wp2_with fail
    refine RD.out.mono ?_
    rintro e w4 ⟨rfl, h4, f4⟩
    have H4 := Lib.hid (And.intro h4 f4)
    clear h4 f4
    go_wp2_with fail
    go_ret
    exact ⟨rfl, H4.out.1, H4.out.2⟩
theorem setsys_tim (c el sy v : Int) (w : World) (h : Bk K w bb gb tb B) (hm : mayB B.t.n c el = true) (hr : Tim.wrV B.t c sy = 0) (v0 : 0 ≤ v) (v1 : v ≤ 18446744073709551615) :
    Calls Try.prog 11 #[.pointer (some ⟨bb, 0, none⟩), .int .i64 c, .int .i64 el, .int .i64 sy, .int .u64 v] w (Bn K bb gb tb w (B.lined (Tim.wrS B.t c sy v)) (.int .i64 0)) := by
  obtain ⟨c0, c1, c2⟩ := h.cells
  have MA := Lib.hid (may_ok c el w h)
  rw [hm] at MA
  have RD := h.write c sy v v0 v1
  rw [hr] at RD
  have RD := Lib.hid RD
  clear h hm hr
  go_enter Try.func11, Try.ntmps11
  go_wp2_with fail
  refine MA.out.mono ?_
  rintro e w4 ⟨rfl, rfl⟩
  go_wp2_with fail
  refine RD.out.mono ?_
  rintro e w4 ⟨rfl, h4, f4⟩
  have LI := Lib.hid (lines_ok w4 h4)
  have F4 := Lib.hid f4
  clear h4 f4 RD c0 c1 c2
  go_wp2_with fail
  refine LI.out.mono ?_
  rintro e w5 ⟨rfl, h5, f5⟩
  have H5 := Lib.hid (And.intro h5 (F4.out.trans f5))
  clear h5 f5
  go_wp2_with fail
  go_ret
  exact ⟨rfl, H5.out.1, H5.out.2⟩
theorem setsys_may (c el sy v : Int) (w : World) (h : Bk K w bb gb tb B) (hm : mayB B.t.n c el = false) :
    Calls Try.prog 11 #[.pointer (some ⟨bb, 0, none⟩), .int .i64 c, .int .i64 el, .int .i64 sy, .int .u64 v] w (Bn K bb gb tb w B (.int .i64 2)) := by
  have MA := Lib.hid (may_ok c el w h)
  have H := Lib.hid h
  rw [hm] at MA
  clear h hm
  go_enter Try.func11, Try.ntmps11
  go_wp2_with fail
  refine MA.out.mono ?_
  rintro e w4 ⟨rfl, rfl⟩
  go_wp2_with fail
  go_ret
  exact Bn.refl H.out (Fr.refl _ _) _
theorem setsys_ok (c el sy v : Int) (w : World) (h : Bk K w bb gb tb B) (v0 : 0 ≤ v) (v1 : v ≤ 18446744073709551615) (n : Nat) (hn : n ≤ 1000) (ha : AtLe B.g n) :
    Calls Try.prog 11 #[.pointer (some ⟨bb, 0, none⟩), .int .i64 c, .int .i64 el, .int .i64 sy, .int .u64 v] w (Bn K bb gb tb w (setS B c el sy v) (.int .i64 (setV B c el sy))) := by
  unfold setS setV
  cases hm : mayB B.t.n c el
  · rw [if_neg (by simp), if_neg (by simp)]
    exact setsys_may c el sy v w h hm
  · rw [if_pos rfl, if_pos rfl]
    by_cases hr : Tim.wrV B.t c sy = 0
    · rw [if_pos hr, if_pos hr]
      exact setsys_tim c el sy v w h hm hr v0 v1
    · rw [if_neg hr, if_neg hr]
      by_cases he : el = 1
      · subst he
        by_cases s1 : sy = 16944
        · subst s1
          rw [if_pos (show (1 : Int) = 1 ∧ (16944 : Int) = 16944 from ⟨rfl, rfl⟩), if_pos (show (1 : Int) = 1 ∧ (16944 : Int) = 16944 from ⟨rfl, rfl⟩)]
          exact setsys_pmr c v w h hm hr v0 v1
        · rw [if_neg (show ¬ ((1 : Int) = 1 ∧ sy = 16944) from fun e => s1 e.2), if_neg (show ¬ ((1 : Int) = 1 ∧ sy = 16944) from fun e => s1 e.2)]
          by_cases s2 : sy = 18017
          · subst s2
            rw [if_pos (show (1 : Int) = 1 ∧ (18017 : Int) = 18017 from ⟨rfl, rfl⟩), if_pos (show (1 : Int) = 1 ∧ (18017 : Int) = 18017 from ⟨rfl, rfl⟩)]
            exact setsys_eoir c v w h hm hr v0 v1 n hn ha
          · rw [if_neg (show ¬ ((1 : Int) = 1 ∧ sy = 18017) from fun e => s2 e.2), if_neg (show ¬ ((1 : Int) = 1 ∧ sy = 18017) from fun e => s2 e.2)]
            by_cases s3 : sy = 18013
            · subst s3
              rw [if_pos (show (1 : Int) = 1 ∧ (18013 : Int) = 18013 from ⟨rfl, rfl⟩), if_pos (show (1 : Int) = 1 ∧ (18013 : Int) = 18013 from ⟨rfl, rfl⟩)]
              exact setsys_sgi c v w h hm hr v0 v1
            · rw [if_neg (show ¬ ((1 : Int) = 1 ∧ sy = 18013) from fun e => s3 e.2), if_neg (show ¬ ((1 : Int) = 1 ∧ sy = 18013) from fun e => s3 e.2)]
              exact setsys_no c 1 sy v w h hm hr v0 v1 (.inr ⟨s1, s2, s3⟩)
      · rw [if_neg (show ¬ (el = 1 ∧ sy = 16944) from fun e => he e.1), if_neg (show ¬ (el = 1 ∧ sy = 16944) from fun e => he e.1), if_neg (show ¬ (el = 1 ∧ sy = 18017) from fun e => he e.1), if_neg (show ¬ (el = 1 ∧ sy = 18017) from fun e => he e.1), if_neg (show ¬ (el = 1 ∧ sy = 18013) from fun e => he e.1), if_neg (show ¬ (el = 1 ∧ sy = 18013) from fun e => he e.1)]
        exact setsys_no c el sy v w h hm hr v0 v1 (.inl he)
end
end Go.Proofs.Ytnmakbippgnekaa
