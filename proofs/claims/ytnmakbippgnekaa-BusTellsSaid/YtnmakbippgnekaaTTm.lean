/- The timer of chapter 11 as it lies; its contracts. -/
import Derived.Test.YtnmakbippgnekaaWin
import Derived.Test.YtnmakbippgnekaaBase3
import Derived.Test.YtnmakbippgnekaaRws
import Derived.Test.YtnmakbippgnekaaNum
import Derived.Test.YtnmakbippgnekaaRows
set_option linter.unusedSimpArgs false
set_option linter.unusedSectionVars false
namespace Go.Proofs.Ytnmakbippgnekaa.Tim
open Go.RowKit
set_option linter.unusedVariables false

structure Ts where
  n : Nat
  t : Int
  c : Nat → Nat
  v : Nat → Int
def reg (b : Nat) (c : Nat → Nat) (v : Nat → Int) (i : Nat) : List Value := [.pointer (some ⟨b, 0, none⟩), .int .u64 (c i : Int), .int .u64 (v i)]
def regs (b : Nat) (s : Ts) : Array Value := (rows (reg b s.c s.v) s.n).toArray
theorem reg_length (b : Nat) (c : Nat → Nat) (v : Nat → Int) (i : Nat) : (reg b c v i).length = 3 := rfl
theorem regs_get {b : Nat} {s : Ts} {i j : Nat} (h : i < s.n) (hj : j < 3) : (regs b s)[i * 3 + j]? = (reg b s.c s.v i)[j]? := by
  have := rows_get (reg b s.c s.v) 3 (reg_length b s.c s.v) h hj
  simpa [regs] using this
structure Right (s : Ts) : Prop where
  n1 : 1 ≤ s.n
  n8 : s.n ≤ 8
  t0 : 0 ≤ s.t
  t1 : s.t ≤ 18446744073709551615
  c4 : ∀ i, i < s.n → s.c i < 4
  v0 : ∀ i, i < s.n → 0 ≤ s.v i
  v1 : ∀ i, i < s.n → s.v i ≤ 18446744073709551615
structure TmAt (w : World) (b r : Nat) (s : Ts) : Prop where
  top : Blk w b 86 #[.int .u64 s.t, .slice (some ⟨r, 0, none⟩) s.n s.n]
  regs : Blk w r 88 (regs b s)
theorem TmAt.fr {w w' : World} {b r : Nat} {s : Ts} {S : Nat → Prop} (h : TmAt w b r s) (hf : Fr S w w') (h1 : ¬ S b) (h2 : ¬ S r) : TmAt w' b r s := ⟨h.top.fr hf h1, h.regs.fr hf h2⟩
theorem TmAt.fr0 {w w' : World} {b r : Nat} {s : Ts} (h : TmAt w b r s) (hf : Fr Nil w w') : TmAt w' b r s := h.fr hf id id
theorem TmAt.ne {w : World} {b r : Nat} {s : Ts} (h : TmAt w b r s) : b ≠ r := h.top.ne_ h.regs (by decide)
section
variable {w : World} {b r : Nat} {s : Ts} (h : TmAt w b r s)
include h
theorem TmAt.cnt : w.cell? ⟨b, 0, none⟩ = some (.int .u64 s.t) := h.top.cellv rfl
theorem TmAt.sl : w.cell? ⟨b, 1, none⟩ = some (.slice (some ⟨r, 0, none⟩) s.n s.n) := h.top.cellv rfl
theorem TmAt.r0 {i : Nat} (hi : i < s.n) : w.cell? ⟨r, i * 3, none⟩ = some (.pointer (some ⟨b, 0, none⟩)) := h.regs.cellv (by rw [← Nat.add_zero (i * 3), regs_get hi (by omega)]; rfl)
theorem TmAt.r1 {i : Nat} (hi : i < s.n) : w.cell? ⟨r, i * 3 + 1, none⟩ = some (.int .u64 (s.c i : Int)) := h.regs.cellv (by rw [regs_get hi (by omega)]; rfl)
theorem TmAt.r2 {i : Nat} (hi : i < s.n) : w.cell? ⟨r, i * 3 + 2, none⟩ = some (.int .u64 (s.v i)) := h.regs.cellv (by rw [regs_get hi (by omega)]; rfl)
end
theorem of_ok (b r : Nat) (s : Ts) (i : Nat) (w : World) (hm : TmAt w b r s) (hi : i < s.n) : Calls Try.prog 38 #[.pointer (some ⟨b, 0, none⟩), .int .i64 (i : Int)] w fun e w' => e = .returned (.pointer (some ⟨r, i * 3, none⟩)) ∧ w = w' := by
  have c1 := hm.sl
  have i0 : (0 : Int) ≤ (i : Int) := by omega
  have i1 : (i : Int) < (s.n : Int) := by omega
  clear hm hi
  generalize s.n = n at *
  go_enter Try.func38, Try.ntmps38
  go_wp2
  go_ret
  exact ⟨rfl, rfl⟩
theorem of_bad (b r : Nat) (s : Ts) (i : Int) (w : World) (hm : TmAt w b r s) (hi : i < 0 ∨ (s.n : Int) ≤ i) : Calls Try.prog 38 #[.pointer (some ⟨b, 0, none⟩), .int .i64 i] w fun e w' => e = .returned (.pointer none) ∧ w = w' := by
  have c1 := hm.sl
  clear hm
  generalize s.n = n at *
  by_cases h0 : i < 0
  · clear hi
    go_enter Try.func38, Try.ntmps38
    go_wp2
    go_ret
    exact ⟨rfl, rfl⟩
  · have h1 : (n : Int) ≤ i := by omega
    clear hi
    go_enter Try.func38, Try.ntmps38
    go_wp2
    go_ret
    exact ⟨rfl, rfl⟩
/-- Has a moment come? -/
def cmB (c : Nat) (t v : Int) : Bool := decide (c % 2 = 1) && decide (v ≤ t)
theorem bits1 (c : Nat) (h : c < 4) : bits .and .u64 (c : Int) 1 = ((c % 2 : Nat) : Int) := by
  have := and_low (c : Int) 1 (by omega) (by omega) (by omega)
  rw [show (2 : Int) ^ 1 - 1 = 1 from rfl, show (2 : Int) ^ 1 = 2 from rfl] at this
  rw [this]; omega
theorem bits3 (x : Int) (h0 : 0 ≤ x) (h1 : x ≤ 18446744073709551615) : bits .and .u64 x 3 = x % 4 := by
  have := and_low x 2 (by omega) h0 h1
  rw [show (2 : Int) ^ 2 - 1 = 3 from rfl, show (2 : Int) ^ 2 = 4 from rfl] at this
  exact this
theorem bits2 (c : Nat) (h : c < 4) : bits .and .u64 (c : Int) 2 = ((c / 2 * 2 : Nat) : Int) := by
  have : c = 0 ∨ c = 1 ∨ c = 2 ∨ c = 3 := by omega
  rcases this with rfl | rfl | rfl | rfl <;> rfl
theorem bits4 (c : Nat) (h : c < 4) : bits .or .u64 (c : Int) 4 = (c : Int) + 4 := by
  have : c = 0 ∨ c = 1 ∨ c = 2 ∨ c = 3 := by omega
  rcases this with rfl | rfl | rfl | rfl <;> rfl
theorem come_ok (b r : Nat) (s : Ts) (i : Nat) (w : World) (hm : TmAt w b r s) (hg : Right s) (hi : i < s.n) : Calls Try.prog 60 #[.pointer (some ⟨r, i * 3, none⟩)] w fun e w' => e = .returned (.bool (cmB (s.c i) s.t (s.v i))) ∧ Fr Nil w w' := by
  have c0 := hm.cnt
  have c1 := hm.r0 hi
  have c2 := hm.r1 hi
  have c3 := hm.r2 hi
  have hb := bits1 _ (hg.c4 i hi)
  clear hm hg hi
  generalize s.c i = c at *
  generalize s.v i = v at *
  generalize s.t = t at *
  by_cases h1 : c % 2 = 1
  · rw [h1] at hb
    have hb' : bits .and .u64 (c : Int) 1 = 1 := hb
    clear hb
    by_cases h2 : v ≤ t
    · have e : cmB c t v = true := by simp [cmB, h1, h2]
      have E := Lib.hid e
      clear e h1
      go_enter Try.func60, Try.ntmps60
      go_wp2
      go_quiet (fail)
      go_wp2
      go_ret
      exact ⟨by rw [E.out]; simp <;> omega, Fr.drewN (Fr.refl _ _) _⟩
    · have e : cmB c t v = false := by simp [cmB, h2]
      have E := Lib.hid e
      have h3 : t < v := by omega
      clear e h1 h2
      go_enter Try.func60, Try.ntmps60
      go_wp2
      go_quiet (fail)
      go_wp2
      go_ret
      exact ⟨by rw [E.out]; simp <;> omega, Fr.drewN (Fr.refl _ _) _⟩
  · have h0 : c % 2 = 0 := by omega
    rw [h0] at hb
    have hb' : bits .and .u64 (c : Int) 1 = 0 := hb
    have e : cmB c t v = false := by simp [cmB, h0]
    have E := Lib.hid e
    clear e h1 h0 hb
    go_enter Try.func60, Try.ntmps60
    go_wp2
    go_quiet (fail)
    go_wp2
    go_ret
    exact ⟨by rw [E.out]; simp <;> omega, Fr.drewN (Fr.refl _ _) _⟩
/-- CTL as it reads. -/
def ctlV (c : Nat) (t v : Int) : Int := if cmB c t v = true then (c : Int) + 4 else (c : Int)
theorem control_ok (b r : Nat) (s : Ts) (i : Nat) (w : World) (hm : TmAt w b r s) (hg : Right s) (hi : i < s.n) : Calls Try.prog 43 #[.pointer (some ⟨r, i * 3, none⟩)] w fun e w' => e = .returned (.int .u64 (ctlV (s.c i) s.t (s.v i))) ∧ Fr Nil w w' := by
  have CM := Lib.hid (come_ok b r s i w hm hg hi)
  have HM := Lib.hid hm
  have HI := Lib.hid hi
  have hb := bits4 _ (hg.c4 i hi)
  clear hm hg hi
  unfold ctlV
  cases hc : cmB (s.c i) s.t (s.v i)
  · rw [hc] at CM
    clear hc hb
    go_enter Try.func43, Try.ntmps43
    go_wp2_with fail
    refine CM.out.mono ?_
    rintro e w2 ⟨rfl, f2⟩
    have c2 := (HM.out.fr0 f2).r1 HI.out
    go_wp2_with fail
    go_ret
    exact ⟨by simp, f2⟩
  · rw [hc] at CM
    clear hc
    go_enter Try.func43, Try.ntmps43
    go_wp2_with fail
    refine CM.out.mono ?_
    rintro e w2 ⟨rfl, f2⟩
    have c2 := (HM.out.fr0 f2).r1 HI.out
    go_wp2_with fail
    go_ret
    exact ⟨by simp, f2⟩
theorem moment_ok (b r : Nat) (s : Ts) (i : Nat) (w : World) (hm : TmAt w b r s) (hi : i < s.n) : Calls Try.prog 44 #[.pointer (some ⟨r, i * 3, none⟩)] w fun e w' => e = .returned (.int .u64 (s.v i)) ∧ w = w' := by
  have c3 := hm.r2 hi
  clear hm hi
  go_enter Try.func44, Try.ntmps44
  go_wp2
  go_ret
  exact ⟨rfl, rfl⟩
theorem count_ok (b r : Nat) (s : Ts) (w : World) (hm : TmAt w b r s) : Calls Try.prog 42 #[.pointer (some ⟨b, 0, none⟩)] w fun e w' => e = .returned (.int .u64 s.t) ∧ w = w' := by
  have c3 := hm.cnt
  clear hm
  go_enter Try.func42, Try.ntmps42
  go_wp2
  go_ret
  exact ⟨rfl, rfl⟩
/-- What Read answers. -/
def rdV (s : Ts) (i sys : Int) : Int × Int :=
  if 0 ≤ i ∧ i < s.n then
    if sys = 24322 then (s.t, 0) else if sys = 24345 then (ctlV (s.c i.toNat) s.t (s.v i.toNat), 0) else if sys = 24346 then (s.v i.toNat, 0) else (0, 1)
  else (0, 1)
theorem read_ok (b r : Nat) (s : Ts) (i : Int) (sys : Int) (w : World) (hm : TmAt w b r s) (hg : Right s) : Calls Try.prog 32 #[.pointer (some ⟨b, 0, none⟩), .int .i64 i, .int .i64 sys] w fun e w' => e = .returned (.tuple #[.int .u64 (rdV s i sys).1, .int .i64 (rdV s i sys).2]) ∧ Fr Nil w w' := by
  unfold rdV
  by_cases h : 0 ≤ i ∧ i < s.n
  · rw [if_pos h]
    obtain ⟨k, rfl⟩ : ∃ k : Nat, i = (k : Int) := ⟨i.toNat, by omega⟩
    have hk : k < s.n := by omega
    rw [Int.toNat_natCast]
    have OF := Lib.hid (of_ok b r s k w hm hk)
    by_cases h1 : sys = 24322
    · subst h1
      have CT := Lib.hid (count_ok b r s w hm)
      clear hm hg h hk
      go_enter Try.func32, Try.ntmps32
      go_wp2_with fail
      refine OF.out.mono ?_
      rintro e w2 ⟨rfl, rfl⟩
      go_wp2_with fail
      refine CT.out.mono ?_
      rintro e w2 ⟨rfl, rfl⟩
      go_wp2_with fail
      go_ret2
      exact ⟨by simp, Fr.refl _ _⟩
    · rw [if_neg h1]
      have b1 : (sys == 24322) = false := by simp [h1]
      by_cases h2 : sys = 24345
      · subst h2
        have CT := Lib.hid (control_ok b r s k w hm hg hk)
        clear hm hg h hk h1 b1
        go_enter Try.func32, Try.ntmps32
        go_wp2_with fail
        refine OF.out.mono ?_
        rintro e w2 ⟨rfl, rfl⟩
        go_wp2_with fail
        refine CT.out.mono ?_
        rintro e w2 ⟨rfl, f2⟩
        go_wp2_with fail
        go_ret2
        exact ⟨by simp, f2⟩
      · rw [if_neg h2]
        have b2 : (sys == 24345) = false := by simp [h2]
        by_cases h3 : sys = 24346
        · subst h3
          have CT := Lib.hid (moment_ok b r s k w hm hk)
          clear hm hg h hk h1 b1 h2 b2
          go_enter Try.func32, Try.ntmps32
          go_wp2_with fail
          refine OF.out.mono ?_
          rintro e w2 ⟨rfl, rfl⟩
          go_wp2_with fail
          refine CT.out.mono ?_
          rintro e w2 ⟨rfl, rfl⟩
          go_wp2_with fail
          go_ret2
          exact ⟨by simp, Fr.refl _ _⟩
        · rw [if_neg h3]
          have b3 : (sys == 24346) = false := by simp [h3]
          clear hm hg h hk h1 h2 h3
          go_enter Try.func32, Try.ntmps32
          go_wp2_with fail
          refine OF.out.mono ?_
          rintro e w2 ⟨rfl, rfl⟩
          go_wp2_with fail
          go_ret2
          exact ⟨rfl, Fr.refl _ _⟩
  · rw [if_neg h]
    have OF := Lib.hid (of_bad b r s i w hm (by omega))
    clear hm hg h
    go_enter Try.func32, Try.ntmps32
    go_wp2_with fail
    refine OF.out.mono ?_
    rintro e w2 ⟨rfl, rfl⟩
    go_wp2_with fail
    go_ret2
    exact ⟨rfl, Fr.refl _ _⟩
theorem regs_setc (b : Nat) (s : Ts) {i : Nat} (hi : i < s.n) (x : Nat) : (regs b s).setIfInBounds (i * 3 + 1) (.int .u64 (x : Int)) = regs b { s with c := upd s.c i x } := by
  unfold regs
  rw [List.setIfInBounds_toArray]
  congr 1
  rw [rows_set (reg b s.c s.v) 3 (reg_length b s.c s.v) (j := 1) hi (by omega) (.int .u64 (x : Int))]
  refine rows_congr fun j _ => ?_
  by_cases h : j = i
  · subst h; rw [upd_same]; simp [reg, upd_same]
  · rw [upd_other _ _ h]; simp [reg, upd_other _ _ h]
theorem regs_setv (b : Nat) (s : Ts) {i : Nat} (hi : i < s.n) (x : Int) : (regs b s).setIfInBounds (i * 3 + 2) (.int .u64 x) = regs b { s with v := upd s.v i x } := by
  unfold regs
  rw [List.setIfInBounds_toArray]
  congr 1
  rw [rows_set (reg b s.c s.v) 3 (reg_length b s.c s.v) (j := 2) hi (by omega) (.int .u64 x)]
  refine rows_congr fun j _ => ?_
  by_cases h : j = i
  · subst h; rw [upd_same]; simp [reg, upd_same]
  · rw [upd_other _ _ h]; simp [reg, upd_other _ _ h]
/-- What Write does, and answers. -/
def wrS (s : Ts) (i sys x : Int) : Ts :=
  if 0 ≤ i ∧ i < s.n then
    if sys = 24345 then { s with c := upd s.c i.toNat (x % 4).toNat } else if sys = 24346 then { s with v := upd s.v i.toNat x } else s
  else s
def wrV (s : Ts) (i sys : Int) : Int := if (0 ≤ i ∧ i < s.n) ∧ (sys = 24345 ∨ sys = 24346) then 0 else 1
def TmTo (w : World) (b r : Nat) (s' : Ts) (v : Value) (e : Ending) (w' : World) : Prop := e = .returned v ∧ TmAt w' b r s' ∧ Fr (Two b r) w w'
theorem write_ok (b r : Nat) (s : Ts) (i sys x : Int) (w : World) (hm : TmAt w b r s) (x0 : 0 ≤ x) (x1 : x ≤ 18446744073709551615) : Calls Try.prog 26 #[.pointer (some ⟨b, 0, none⟩), .int .i64 i, .int .i64 sys, .int .u64 x] w (TmTo w b r (wrS s i sys x) (.int .i64 (wrV s i sys))) := by
  unfold wrS wrV
  by_cases h : 0 ≤ i ∧ i < s.n
  · rw [if_pos h]
    obtain ⟨k, rfl⟩ : ∃ k : Nat, i = (k : Int) := ⟨i.toNat, by omega⟩
    have hk : k < s.n := by omega
    rw [Int.toNat_natCast]
    have OF := Lib.hid (of_ok b r s k w hm hk)
    by_cases h1 : sys = 24345
    · subst h1
      rw [if_pos rfl, if_pos (⟨h, .inl rfl⟩ : (0 ≤ (k : Int) ∧ (k : Int) < (s.n : Int)) ∧ ((24345 : Int) = 24345 ∨ (24345 : Int) = 24346))]
      have f1 := hm.regs.frozen (k * 3 + 1)
      have c1 := hm.r1 hk
      have hb := bits3 x x0 x1
      obtain ⟨y, hy⟩ : ∃ y : Nat, x % 4 = (y : Int) := ⟨(x % 4).toNat, by omega⟩
      rw [hy] at hb
      have M2 := Lib.hid (show TmAt (w.setCell ⟨r, k * 3 + 1, none⟩ (.int .u64 (y : Int))) b r { s with c := upd s.c k y } from ⟨hm.top.farc hm.ne _, (hm.regs.set_ _ _).cast (regs_setc b s hk y)⟩)
      have hy2 : (x % 4).toNat = y := by omega
      rw [hy2]
      clear hm h hk hy hy2
      go_enter Try.func26, Try.ntmps26
      go_wp2_with fail
      refine OF.out.mono ?_
      rintro e w2 ⟨rfl, rfl⟩
      go_wp2_with fail
      go_ret
      exact ⟨rfl, M2.out, (Fr.refl _ _).set2' _⟩
    · rw [if_neg h1]
      have b1 : (sys == 24345) = false := by simp [h1]
      by_cases h2 : sys = 24346
      · subst h2
        rw [if_pos rfl, if_pos (⟨h, .inr rfl⟩ : (0 ≤ (k : Int) ∧ (k : Int) < (s.n : Int)) ∧ ((24346 : Int) = 24345 ∨ (24346 : Int) = 24346))]
        have f1 := hm.regs.frozen (k * 3 + 2)
        have c1 := hm.r2 hk
        have M2 := Lib.hid (show TmAt (w.setCell ⟨r, k * 3 + 2, none⟩ (.int .u64 x)) b r { s with v := upd s.v k x } from ⟨hm.top.farc hm.ne _, (hm.regs.set_ _ _).cast (regs_setv b s hk x)⟩)
        clear hm h hk h1 b1
        go_enter Try.func26, Try.ntmps26
        go_wp2_with fail
        refine OF.out.mono ?_
        rintro e w2 ⟨rfl, rfl⟩
        go_wp2_with fail
        go_ret
        exact ⟨rfl, M2.out, (Fr.refl _ _).set2' _⟩
      · rw [if_neg h2, if_neg (by rintro ⟨_, h | h⟩; exact h1 h; exact h2 h)]
        have b2 : (sys == 24346) = false := by simp [h2]
        have M2 := Lib.hid hm
        clear hm h hk h1 h2
        go_enter Try.func26, Try.ntmps26
        go_wp2_with fail
        refine OF.out.mono ?_
        rintro e w2 ⟨rfl, rfl⟩
        go_wp2_with fail
        go_ret
        exact ⟨rfl, M2.out, Fr.refl _ _⟩
  · rw [if_neg h, if_neg (fun h' => h h'.1)]
    have OF := Lib.hid (of_bad b r s i w hm (by omega))
    have M2 := Lib.hid hm
    clear hm h
    go_enter Try.func26, Try.ntmps26
    go_wp2_with fail
    refine OF.out.mono ?_
    rintro e w2 ⟨rfl, rfl⟩
    go_wp2_with fail
    go_ret
    exact ⟨rfl, M2.out, Fr.refl _ _⟩
theorem tick_ok (b r : Nat) (s : Ts) (x : Int) (w : World) (hm : TmAt w b r s) : Calls Try.prog 31 #[.pointer (some ⟨b, 0, none⟩), .int .u64 x] w (TmTo w b r { s with t := IntKind.u64.wrap (s.t + x) } (.tuple #[])) := by
  have c0 := hm.cnt
  have f0 := hm.top.frozen 0
  have M2 := Lib.hid (show TmAt (w.setCell ⟨b, 0, none⟩ (.int .u64 (IntKind.u64.wrap (s.t + x)))) b r { s with t := IntKind.u64.wrap (s.t + x) } from ⟨(hm.top.set_ 0 _).cast rfl, hm.regs.farc (Ne.symm hm.ne) _⟩)
  clear hm
  go_enter Try.func31, Try.ntmps31
  go_wp2
  go_end0
  exact ⟨rfl, M2.out, (Fr.refl _ _).set2 _⟩
/-- Is a line high? -/
def hiB (s : Ts) (i : Int) : Bool := decide (0 ≤ i ∧ i < s.n) && (decide (s.c i.toNat = 1) && decide (s.v i.toNat ≤ s.t))
theorem high_ok (b r : Nat) (s : Ts) (i : Int) (w : World) (hm : TmAt w b r s) (hg : Right s) : Calls Try.prog 40 #[.pointer (some ⟨b, 0, none⟩), .int .i64 i] w fun e w' => e = .returned (.bool (hiB s i)) ∧ Fr Nil w w' := by
  by_cases h : 0 ≤ i ∧ i < s.n
  · obtain ⟨k, rfl⟩ : ∃ k : Nat, i = (k : Int) := ⟨i.toNat, by omega⟩
    have hk : k < s.n := by omega
    have OF := Lib.hid (of_ok b r s k w hm hk)
    have CM := come_ok b r s k w hm hg hk
    have c1 := hm.r1 hk
    have hb := bits2 _ (hg.c4 k hk)
    have hc := hg.c4 k hk
    have e : hiB s (k : Int) = (decide (s.c k = 1) && decide (s.v k ≤ s.t)) := by simp [hiB, hk]
    rw [e]
    by_cases h2 : s.c k / 2 = 0
    · rw [h2] at hb
      have hb' : bits .and .u64 (s.c k : Int) 2 = 0 := hb
      have e2 : cmB (s.c k) s.t (s.v k) = (decide (s.c k = 1) && decide (s.v k ≤ s.t)) := by
        unfold cmB
        have : s.c k = 0 ∨ s.c k = 1 := by omega
        rcases this with h | h <;> simp [h]
      rw [e2] at CM
      have CMH := Lib.hid CM
      clear hm hg h hk CM e e2 h2 hb hc
      go_enter Try.func40, Try.ntmps40
      go_wp2_with fail
      refine OF.out.mono ?_
      rintro e w2 ⟨rfl, rfl⟩
      go_wp2_with fail
      refine CMH.out.mono ?_
      rintro e w2 ⟨rfl, f2⟩
      go_wp2_with fail
      go_ret
      exact ⟨by simp, f2⟩
    · have h3 : s.c k / 2 = 1 := by omega
      rw [h3] at hb
      have hb' : bits .and .u64 (s.c k : Int) 2 = 2 := hb
      have e2 : (decide (s.c k = 1) && decide (s.v k ≤ s.t)) = false := by
        have : ¬ s.c k = 1 := by omega
        simp [this]
      rw [e2]
      clear hm hg h hk CM e e2 h2 h3 hb hc
      go_enter Try.func40, Try.ntmps40
      go_wp2_with fail
      refine OF.out.mono ?_
      rintro e w2 ⟨rfl, rfl⟩
      go_wp2_with fail
      go_ret
      exact ⟨by simp, Fr.refl _ _⟩
  · have e : hiB s i = false := by simp [hiB]; omega
    rw [e]
    have OF := Lib.hid (of_bad b r s i w hm (by omega))
    clear hm hg h e
    go_enter Try.func40, Try.ntmps40
    go_wp2_with fail
    refine OF.out.mono ?_
    rintro e w2 ⟨rfl, rfl⟩
    go_wp2_with fail
    go_ret
    exact ⟨by simp, Fr.refl _ _⟩
end Go.Proofs.Ytnmakbippgnekaa.Tim
