/- play: raw numbers as stores and drains. -/
import Derived.Test.YtjbdbmahbcaniaaLNew
import Derived.Test.YtjbdbmahbcaniaaCnt
import Derived.Test.YtjbdbmahbcaniaaLaw
namespace Go.Proofs.Ytjbdbmahbcaniaa
open Go.RowKit
set_option linter.unusedVariables false
set_option maxRecDepth 100000

theorem i64_rng {x : Int} (h : (Lit.int .i64 x).wf = true) : -9223372036854775808 ≤ x ∧ x ≤ 9223372036854775807 := by
  simp only [Lit.wf, Bool.and_eq_true, decide_eq_true_eq] at h
  exact h
theorem u64_rng {a : Int} (h : (Lit.int .u64 a).wf = true) : 0 ≤ a ∧ a ≤ 18446744073709551615 := by
  simp only [Lit.wf, Bool.and_eq_true, decide_eq_true_eq] at h
  exact h
/-- A number of a list that came in, as pick sees it. -/
theorem pk_nat (c : Int) (m : Nat) (hm : 0 < m) : ∃ N : Nat, pk c (m : Int) = (N : Int) ∧ N < m := by
  have := pk_rng c m (by omega)
  exact ⟨(pk c m).toNat, by omega, by omega⟩
def PlayTo (w : World) (b d m : Nat) (e : Ending) (w' : World) : Prop := e = .returned (.bool true) ∧ ∃ q s, Mine w b q s w' ∧ Good s 4 3 d m
/-- One drain, whatever waits. -/
def Drained (w : World) (b : Nat) (q : Bs) (s : St) (w1 : World) (s' : St) (e : Ending) (w' : World) : Prop := ∃ x y z f, e = .returned (.tuple #[.agg #[.int .u64 x, .int .u64 y, .int .i64 z], .int .i64 f]) ∧ ∃ q', Mine w b q' s' w' ∧ Step w1 q s w' q' s'
theorem Step.refl0 {w1 w2 : World} {q : Bs} {s : St} (hf : Fr Nil w1 w2) : Step w1 q s w2 q s := ⟨hf.nil, fun _ h => .inl h⟩
theorem Mine.drainAny {w w1 : World} {b : Nat} {q : Bs} {s : St} (h : Mine w b q s w1) {n c d m : Nat} (hg : Good s n c d m) (i : Nat) {z : Int} (hc : z = (i : Int)) (hi : i < c) (hn : n ≤ 8192) (hm : m ≤ 90000) :
    Calls Try.prog 24 #[.pointer (some ⟨b, 0, none⟩), .int .i64 z] w1 (Drained w b q s w1 (s.drain1 i)) := by
  cases hx : s.H i with
  | nil =>
    refine (h.drainNone i hc (by rw [hg.c]; exact hi) hx).mono ?_
    rintro e w' ⟨rfl, m2, hf⟩
    have e : s.drain1 i = s := by unfold St.drain1; rw [hx]
    rw [e]
    exact ⟨_, _, _, _, rfl, q, m2, Step.refl0 hf⟩
  | cons x l =>
    have := hg.st
    have := hg.od
    refine (h.drain i hc (by rw [hg.c]; exact hi) hx (by rw [hg.n]; exact hn) (hg.fine hi) (by omega) (by omega)).mono ?_
    rintro e w' ⟨rfl, q', m2, st⟩
    exact ⟨_, _, _, _, rfl, q', m2, st⟩
set_option maxHeartbeats 2000000 in
theorem play_ok {w w1 : World} {b d m : Nat} {q : Bs} {s : St} (h : Mine w b q s w1) (hg : Good s 4 3 d m) (hd1 : 1 ≤ d) (hd : d ≤ 32) (hm : m ≤ 1000) (a : Option Addr) (len cap : Nat) (Z : Nat → Int) (hl : len ≤ cap) (hcap : cap ≤ maxLen) (hs : SlInts .i64 w a len Z) :
    Calls Try.prog 28 #[.pointer (some ⟨b, 0, none⟩), .slice a len cap, .int .i64 (d : Int)] w1 (PlayTo w b d (m + 150)) := by
  have hlen : (len : Int) ≤ 9223372036854775807 := by simp only [maxLen] at hcap; omega
  have H := Lib.hid h
  have HG := Lib.hid hg
  have HS := Lib.hid hs
  have HD1 := Lib.hid hd1
  have HD := Lib.hid hd
  have HMM := Lib.hid hm
  have HL := Lib.hid hl
  have HCAP := Lib.hid hcap
  clear h hg hs hd1 hd hm hl hcap
  go_enter Try.func28, Try.ntmps28
  go_wp2_with fail
  go_loopw [7] (fun i wr => ∃ (k : Nat) (q' : Bs) (s' : St), i = .int .i64 (k : Int) ∧ k ≤ 150 ∧ k ≤ len ∧ Mine w b q' s' wr ∧ Good s' 4 3 d (m + k)) (fun i _ => 150 - (intOf i).toNat)
  case atStart => exact ⟨0, q, s, rfl, by omega, by omega, H.out, HG.out⟩
  case round =>
    obtain ⟨k, q1, s1, rfl, hk1, hk2, mn, gd⟩ := hrel
    have MN := Lib.hid mn
    have GD := Lib.hid gd
    clear mn gd
    by_cases hkl : k < len
    · by_cases hk150 : k < 150
      · obtain ⟨bs, off, ha, hbs, hcell, hwf⟩ := HS.out k hkl
        have hc : wr.cell? ⟨bs, off + k, none⟩ = some (.int .i64 (Z k)) := (MN.out.fr.cell (p := ⟨bs, off + k, none⟩) hbs id).trans hcell
        obtain ⟨z0, z1⟩ := i64_rng hwf
        obtain ⟨N, hN, hN36⟩ := pk_nat (Z k) 36 (by omega)
        have hpk := fun w => pick_ok (Z k) 36 w z0 z1 (by omega) (by omega)
        have hN' : pk (Z k) 36 = (N : Int) := hN
        rw [hN'] at hpk
        have PK := Lib.hid hpk
        clear hpk hN hN' hcell hwf z0 z1 hbs
        subst ha
        have n0 : (0 : Int) ≤ (N : Int) := by omega
        have n1 : (N : Int) < 36 := by omega
        have k0 : (0 : Int) ≤ (k : Int) := by omega
        have k1 : (k : Int) < 150 := by omega
        have k2 : (k : Int) < (len : Int) := by omega
        have HK := Lib.hid (And.intro hkl hk150)
        have HN36 := Lib.hid hN36
        clear hkl hk150 hk1 hk2 hN36
        by_cases h3 : (N : Int) / 3 % 4 = 3
        · have DR := Lib.hid (MN.out.drainAny GD.out (N % 3) (z := (N : Int) % 3) (by omega) (by omega) (by omega) (by have := HMM.out; have := HK.out; omega))
          go_wp2_with fail
          refine (PK.out _).mono ?_
          rintro e w2 ⟨rfl, rfl⟩
          go_wp2_with fail
          refine DR.out.mono ?_
          rintro e w3 ⟨x, y, z, f, rfl, q2, m2, _⟩
          have M2 := Lib.hid m2
          clear m2
          go_wp2_with fail
          go_roundw
          case rel => exact ⟨k + 1, q2, _, by simp, by have := HK.out; omega, by have := HK.out; omega, M2.out, (GD.out.drain1 (by omega)).up (by omega)⟩
          case measure => have := HK.out; simp [intOf]; omega
        · have hi3 : N % 3 < 3 := Nat.mod_lt _ (by omega)
          have hh := GD.out.held hi3
          have HE := Lib.hid (MN.out.held (N % 3) (c := (N : Int) % 3) (by omega) (by rw [GD.out.c]; exact hi3) (by have := HD.out; omega))
          go_wp2_with fail
          refine (PK.out _).mono ?_
          rintro e w2 ⟨rfl, rfl⟩
          go_wp2_with fail
          refine HE.out.mono ?_
          rintro e w3 ⟨v, rfl, m2, _, ov, _⟩
          obtain ⟨ao, cap2, hv, _, _, _⟩ := ov.win.shape
          rw [hv]
          have M2 := Lib.hid m2
          clear m2 ov hv
          rcases Nat.lt_or_ge (s1.H (N % 3)).length d with hlt | hge
          · have SR := Lib.hid (M2.out.store (N % 3) (N / 12) (c := (N : Int) % 3) (a := 8 * ((N : Int) / 12)) (v := (k : Int) + 1) (by omega) (by omega) (by rw [GD.out.c]; exact hi3) (by rw [GD.out.n]; have := HN36.out; omega) (by rw [GD.out.n]; omega) (by rw [GD.out.d]; exact hlt) (by rw [GD.out.d]; exact HD.out) (by have := GD.out.st; have := HMM.out; have := HK.out; omega) rfl)
            have hlt' : ((s1.H (N % 3)).length : Int) < (d : Int) := by omega
            have LT := Lib.hid hlt
            clear hh hlt
            generalize hgl : (s1.H (N % 3)).length = hl at *
            have HGL := Lib.hid hgl
            clear hgl
            go_wp2_with fail
            refine SR.out.mono ?_
            rintro e w4 ⟨rfl, q3, m3, _⟩
            have M3 := Lib.hid m3
            clear m3
            go_wp2_with fail
            go_roundw
            case rel => exact ⟨k + 1, q3, _, by simp, by have := HK.out; omega, by have := HK.out; omega, M3.out, GD.out.hold (k := N / 12) hi3 (by have := HN36.out; omega) (by show 8 * ((N : Int) / 12) = _; omega) rfl (by rw [HGL.out]; exact LT.out)⟩
            case measure => have := HK.out; simp [intOf]; omega
          · have heq : (s1.H (N % 3)).length = d := by omega
            have SR := Lib.hid (M2.out.full (N % 3) (N / 12) (c := (N : Int) % 3) (a := 8 * ((N : Int) / 12)) (v := (k : Int) + 1) (by omega) (by omega) (by rw [GD.out.c]; exact hi3) (by rw [GD.out.n]; have := HN36.out; omega) (by rw [GD.out.n]; omega) (by rw [GD.out.d]; exact heq))
            rw [heq]
            clear hh hge heq
            go_wp2_with fail
            refine SR.out.mono ?_
            rintro e w4 ⟨rfl, m3, _⟩
            have M3 := Lib.hid m3
            clear m3
            go_wp2_with fail
            go_roundw
            case rel => exact ⟨k + 1, q1, _, by simp, by have := HK.out; omega, by have := HK.out; omega, M3.out, GD.out.up (by omega)⟩
            case measure => have := HK.out; simp [intOf]; omega
      · have k2 : (k : Int) < (len : Int) := by omega
        have k3 : (150 : Int) ≤ (k : Int) := by omega
        clear hkl hk150
        go_wp2_with fail
        go_ret
        exact ⟨rfl, q1, s1, MN.out, GD.out.up (by omega)⟩
    · have k2 : (len : Int) ≤ (k : Int) := by omega
      clear hkl
      go_wp2_with fail
      go_ret
      exact ⟨rfl, q1, s1, MN.out, GD.out.up (by omega)⟩
end Go.Proofs.Ytjbdbmahbcaniaa
