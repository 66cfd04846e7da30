/- The document's Mask (lines printed by gen_rmsk.py). -/
import Derived.Test.YthmlkealefboaaaMks
namespace Go.Proofs.Ythmlkealefboaaa
open Go.RowKit
set_option linter.unusedVariables false
set_option maxRecDepth 100000

def RMskC (n immr imms v e : Int) : Prop := ∀ w : World, Calls Try.prog 20 #[.int .i64 n, .int .i64 immr, .int .i64 imms] w fun x w' => x = .returned (.tuple #[.int .u64 v, .int .i64 e]) ∧ Fr Nil w w'
theorem rmsk_n0 (n immr imms : Int) (h : n < 0) : RMskC n immr imms 0 1 := by
  intro w
  go_enter Try.func20, Try.ntmps20
  go_wp2_with fail
  go_ret2
  exact ⟨rfl, Fr.refl _ _⟩
theorem rmsk_n1 (n immr imms : Int) (h0 : 0 ≤ n) (h : 1 < n) : RMskC n immr imms 0 1 := by
  intro w
  go_enter Try.func20, Try.ntmps20
  go_wp2_with fail
  go_ret2
  exact ⟨rfl, Fr.refl _ _⟩
theorem rmsk_r0 (n immr imms : Int) (h0 : 0 ≤ n) (h1 : n ≤ 1) (h : immr < 0) : RMskC n immr imms 0 1 := by
  intro w
  go_enter Try.func20, Try.ntmps20
  go_wp2_with fail
  go_ret2
  exact ⟨rfl, Fr.refl _ _⟩
theorem rmsk_r1 (n immr imms : Int) (h0 : 0 ≤ n) (h1 : n ≤ 1) (h2 : 0 ≤ immr) (h : 63 < immr) : RMskC n immr imms 0 1 := by
  intro w
  go_enter Try.func20, Try.ntmps20
  go_wp2_with fail
  go_ret2
  exact ⟨rfl, Fr.refl _ _⟩
theorem rmsk_s0 (n immr imms : Int) (h0 : 0 ≤ n) (h1 : n ≤ 1) (h2 : 0 ≤ immr) (h3 : immr ≤ 63) (h : imms < 0) : RMskC n immr imms 0 1 := by
  intro w
  go_enter Try.func20, Try.ntmps20
  go_wp2_with fail
  go_ret2
  exact ⟨rfl, Fr.refl _ _⟩
theorem rmsk_s1 (n immr imms : Int) (h0 : 0 ≤ n) (h1 : n ≤ 1) (h2 : 0 ≤ immr) (h3 : immr ≤ 63) (h4 : 0 ≤ imms) (h : 63 < imms) : RMskC n immr imms 0 1 := by
  intro w
  go_enter Try.func20, Try.ntmps20
  go_wp2_with fail
  go_ret2
  exact ⟨rfl, Fr.refl _ _⟩
theorem rmsk_bad (n immr imms : Int) (h : n < 0 ∨ 1 < n ∨ immr < 0 ∨ 63 < immr ∨ imms < 0 ∨ 63 < imms) : RMskC n immr imms 0 1 := by
  by_cases a : n < 0
  · exact rmsk_n0 n immr imms a
  by_cases b : 1 < n
  · exact rmsk_n1 n immr imms (by omega) b
  by_cases c : immr < 0
  · exact rmsk_r0 n immr imms (by omega) (by omega) c
  by_cases d : 63 < immr
  · exact rmsk_r1 n immr imms (by omega) (by omega) (by omega) d
  by_cases e : imms < 0
  · exact rmsk_s0 n immr imms (by omega) (by omega) (by omega) (by omega) e
  · exact rmsk_s1 n immr imms (by omega) (by omega) (by omega) (by omega) (by omega) (by omega)
theorem pow_or (j : Nat) (hj : j < 64) : bits .or .u64 ((2 ^ j - 1 : Nat) : Int) (IntKind.u64.wrap ((2 : Int) ^ j)) = ((2 ^ (j + 1) - 1 : Nat) : Int) := by
  have h1 : 2 ^ j ≤ 2 ^ 63 := Nat.pow_le_pow_right (by omega) (by omega)
  have h0 := Nat.two_pow_pos j
  have e : IntKind.u64.wrap ((2 : Int) ^ j) = ((2 ^ j * 1 : Nat) : Int) := by rw [powN, IntKind.wrap_u64]; omega
  have hl : 2 ^ j - 1 < 2 ^ j := by omega
  rw [e, orN _ _ (by omega) (by omega), Nat.or_comm, ← Nat.two_pow_add_eq_or_of_lt hl, Nat.pow_succ]
  congr 1
  omega
set_option maxHeartbeats 4000000 in
theorem rmsk_32 (T k : Nat) (hT : T < 64) (h0 : 0 ≤ k) (h1 : k ≤ 31) : ((k % 32 = 32 - 1) → RMskC 0 (T : Int) (k : Int) 0 2) ∧ (k % 32 < 32 - 1 → RMskC 0 (T : Int) (k : Int) (mkN 32 (k % 32) (T % 32) : Int) 0) := by
  have k0 : (0 : Int) ≤ (k : Int) := by omega
  have k1 : (k : Int) ≤ 63 := by omega
  have t0 : (0 : Int) ≤ (T : Int) := by omega
  have t1 : (T : Int) ≤ 63 := by omega
  obtain ⟨d, hd⟩ : ∃ d : Int, (63 : Int) - (k : Int) = d := ⟨_, rfl⟩
  have d0 : 32 ≤ d := by omega
  have d1 : d ≤ 63 := by omega
  have et : (k : Int).tmod 32 = ((k % 32 : Nat) : Int) := by rw [Int.tmod_eq_emod_of_nonneg (by omega)]; omega
  have eu : (T : Int).tmod 32 = ((T % 32 : Nat) : Int) := by rw [Int.tmod_eq_emod_of_nonneg (by omega)]; omega
  have HT := Lib.hid (show T % 32 < 32 from Nat.mod_lt _ (by omega))
  have q8 : T % 32 % 32 = T % 32 := Nat.mod_mod _ _
  clear h0 h1 hT
  generalize k % 32 = s at *
  generalize T % 32 = u at *
  refine ⟨fun hs w => ?_, fun hs w => ?_⟩
  · subst hs
    go_enter Try.func20, Try.ntmps20
    go_wp2_with fail
    go_loopw [8] (fun o wr => ∃ v : Int, o = .int .i64 v ∧ (v = 32) ∧ Fr Nil w wr) (fun o _ => (intOf o).toNat)
    case atStart => exact ⟨32, rfl, by simp, Fr.refl _ _⟩
    case round =>
      obtain ⟨v, rfl, hv, fr⟩ := hrel
      have FH := Lib.hid fr
      clear fr
      rcases hv with rfl
      · go_wp2_with fail
        go_ret2
        exact ⟨rfl, FH.out⟩
  · have hb : ((s : Int) == 31) = false := by simp; omega
    have HS := Lib.hid (show s < 31 by omega)
    have s0 : (0 : Int) ≤ (s : Int) := by omega
    have s1 : (s : Int) < 32 := by omega
    obtain ⟨p, hp⟩ : ∃ p : Nat, 2 ^ (s + 1) - 1 = p := ⟨_, rfl⟩
    have hx : p < 2 ^ 32 := by
      have : 2 ^ (s + 1) ≤ 2 ^ 32 := Nat.pow_le_pow_right (by omega) (by omega)
      have := Nat.two_pow_pos (s + 1)
      omega
    have hx64 : (2 : Nat) ^ 32 ≤ 2 ^ 64 := Nat.pow_le_pow_right (by omega) (by omega)
    have rr := fun w => rror_ok p u 32 w (by omega) (by omega) (by omega) hx
    rw [q8] at rr
    have hR := rorN_lt p u 32 HT.out hx
    have hmk : mkN 32 s u = rep (rorN p u 32) 32 64 := by unfold mkN; rw [hp]
    rw [hmk]
    clear hmk
    generalize rorN p u 32 = R at *
    have HR := Lib.hid hR
    have RR := Lib.hid rr
    clear hR rr hx hx64 hs q8
    go_enter Try.func20, Try.ntmps20
    go_wp2_with fail
    go_loopw [8] (fun o wr => ∃ v : Int, o = .int .i64 v ∧ (v = 32) ∧ Fr Nil w wr) (fun o _ => (intOf o).toNat)
    case atStart => exact ⟨32, rfl, by simp, Fr.refl _ _⟩
    case round =>
      obtain ⟨v, rfl, hv, fr⟩ := hrel
      have FH := Lib.hid fr
      clear fr
      rcases hv with rfl
      · go_wp2_with fail
        go_loopw [10, 11] (fun o i wr => ∃ j : Nat, i = .int .i64 (j : Int) ∧ o = .int .u64 ((2 ^ j - 1 : Nat) : Int) ∧ j ≤ s + 1 ∧ Fr Nil w wr) (fun _ i _ => 100 - (intOf i).toNat)
        case atStart => exact ⟨0, rfl, rfl, by omega, FH.out⟩
        case round =>
          obtain ⟨j, rfl, rfl, hj, fr⟩ := hrel
          have FJ := Lib.hid fr
          clear fr
          by_cases hjs : j ≤ s
          · have j0 : (0 : Int) ≤ (j : Int) := by omega
            have j1 : (j : Int) ≤ (s : Int) := by omega
            have j2 : (j : Int) < 64 := by have := HS.out; omega
            have hor := pow_or j (by omega)
            have HJ := Lib.hid hjs
            have HOR := Lib.hid hor
            clear hor hjs hj
            go_wp2_with fail
            go_roundw
            case rel => exact ⟨j + 1, by simp, by first | (rw [← HOR.out]; done) | (rw [← HOR.out]; simp), by have := HJ.out; omega, FJ.out⟩
            case measure => have := HJ.out; have := HS.out; simp [intOf]; omega
          · have hje : j = s + 1 := by omega
            subst hje
            have j1 : (s : Int) < ((s + 1 : Nat) : Int) := by omega
            rw [hp]
            clear hjs hj
            go_wp2_with fail
            refine (RR.out _).mono ?_
            rintro e w2 ⟨rfl, f2⟩
            have F2 := Lib.hid (FJ.out.trans f2)
            clear f2 RR
            go_wp2_with fail
            go_loopw [12, 13] (fun o i wr => ∃ m : Nat, i = .int .i64 (m : Int) ∧ o = .int .u64 (rep R 32 m : Int) ∧ m ≤ 64 ∧ Fr Nil w wr) (fun _ i _ => 100 - (intOf i).toNat)
            case atStart => exact ⟨0, rfl, rfl, by omega, F2.out⟩
            case round =>
              obtain ⟨m, rfl, rfl, hm, fr⟩ := hrel
              have FR := Lib.hid fr
              clear fr
              by_cases hm64 : m < 64
              · have m0 : (0 : Int) ≤ (m : Int) := by omega
                have m1 : (m : Int) < 64 := by omega
                have hor := rep_orbit R 32 m hm64
                have em : (m : Int).tmod 32 = ((m % 32 : Nat) : Int) := by rw [Int.tmod_eq_emod_of_nonneg (by omega)]; omega
                have hb := fun w => bit_ok (R : Int) (m % 32) w (by omega) (by omega) (by have := HR.out; have h2 : (2 : Nat) ^ 32 ≤ 2 ^ 64 := Nat.pow_le_pow_right (by omega) (by omega); omega)
                rw [← bit_cast] at hor
                have HB := Lib.hid hb
                have HOR := Lib.hid hor
                have HM := Lib.hid hm64
                clear hor hb hm64 hm
                generalize m % 32 = mz at *
                go_wp2_with fail
                refine (HB.out _).mono ?_
                rintro e w3 ⟨rfl, rfl⟩
                go_wp2_with fail
                go_roundw
                case rel => exact ⟨m + 1, by simp, by rw [← HOR.out], by have := HM.out; omega, FR.out⟩
                case measure => have := HM.out; simp [intOf]; omega
              · have hme : m = 64 := by omega
                subst hme
                clear hm hm64
                go_wp2_with fail
                go_ret2
                exact ⟨rfl, FR.out⟩
set_option maxHeartbeats 4000000 in
theorem rmsk_16 (T k : Nat) (hT : T < 64) (h0 : 32 ≤ k) (h1 : k ≤ 47) : ((k % 16 = 16 - 1) → RMskC 0 (T : Int) (k : Int) 0 2) ∧ (k % 16 < 16 - 1 → RMskC 0 (T : Int) (k : Int) (mkN 16 (k % 16) (T % 16) : Int) 0) := by
  have k0 : (0 : Int) ≤ (k : Int) := by omega
  have k1 : (k : Int) ≤ 63 := by omega
  have t0 : (0 : Int) ≤ (T : Int) := by omega
  have t1 : (T : Int) ≤ 63 := by omega
  obtain ⟨d, hd⟩ : ∃ d : Int, (63 : Int) - (k : Int) = d := ⟨_, rfl⟩
  have d0 : 16 ≤ d := by omega
  have d1 : d ≤ 31 := by omega
  have et : (k : Int).tmod 16 = ((k % 16 : Nat) : Int) := by rw [Int.tmod_eq_emod_of_nonneg (by omega)]; omega
  have eu : (T : Int).tmod 16 = ((T % 16 : Nat) : Int) := by rw [Int.tmod_eq_emod_of_nonneg (by omega)]; omega
  have HT := Lib.hid (show T % 16 < 16 from Nat.mod_lt _ (by omega))
  have q8 : T % 16 % 16 = T % 16 := Nat.mod_mod _ _
  clear h0 h1 hT
  generalize k % 16 = s at *
  generalize T % 16 = u at *
  refine ⟨fun hs w => ?_, fun hs w => ?_⟩
  · subst hs
    go_enter Try.func20, Try.ntmps20
    go_wp2_with fail
    go_loopw [8] (fun o wr => ∃ v : Int, o = .int .i64 v ∧ (v = 32 ∨ v = 16) ∧ Fr Nil w wr) (fun o _ => (intOf o).toNat)
    case atStart => exact ⟨32, rfl, by simp, Fr.refl _ _⟩
    case round =>
      obtain ⟨v, rfl, hv, fr⟩ := hrel
      have FH := Lib.hid fr
      clear fr
      rcases hv with rfl | rfl
      · go_wp2_with fail
        go_roundw
        case rel => exact ⟨16, rfl, by simp, FH.out⟩
        case measure => simp [intOf]
      · go_wp2_with fail
        go_ret2
        exact ⟨rfl, FH.out⟩
  · have hb : ((s : Int) == 15) = false := by simp; omega
    have HS := Lib.hid (show s < 15 by omega)
    have s0 : (0 : Int) ≤ (s : Int) := by omega
    have s1 : (s : Int) < 16 := by omega
    obtain ⟨p, hp⟩ : ∃ p : Nat, 2 ^ (s + 1) - 1 = p := ⟨_, rfl⟩
    have hx : p < 2 ^ 16 := by
      have : 2 ^ (s + 1) ≤ 2 ^ 16 := Nat.pow_le_pow_right (by omega) (by omega)
      have := Nat.two_pow_pos (s + 1)
      omega
    have hx64 : (2 : Nat) ^ 16 ≤ 2 ^ 64 := Nat.pow_le_pow_right (by omega) (by omega)
    have rr := fun w => rror_ok p u 16 w (by omega) (by omega) (by omega) hx
    rw [q8] at rr
    have hR := rorN_lt p u 16 HT.out hx
    have hmk : mkN 16 s u = rep (rorN p u 16) 16 64 := by unfold mkN; rw [hp]
    rw [hmk]
    clear hmk
    generalize rorN p u 16 = R at *
    have HR := Lib.hid hR
    have RR := Lib.hid rr
    clear hR rr hx hx64 hs q8
    go_enter Try.func20, Try.ntmps20
    go_wp2_with fail
    go_loopw [8] (fun o wr => ∃ v : Int, o = .int .i64 v ∧ (v = 32 ∨ v = 16) ∧ Fr Nil w wr) (fun o _ => (intOf o).toNat)
    case atStart => exact ⟨32, rfl, by simp, Fr.refl _ _⟩
    case round =>
      obtain ⟨v, rfl, hv, fr⟩ := hrel
      have FH := Lib.hid fr
      clear fr
      rcases hv with rfl | rfl
      · go_wp2_with fail
        go_roundw
        case rel => exact ⟨16, rfl, by simp, FH.out⟩
        case measure => simp [intOf]
      · go_wp2_with fail
        go_loopw [10, 11] (fun o i wr => ∃ j : Nat, i = .int .i64 (j : Int) ∧ o = .int .u64 ((2 ^ j - 1 : Nat) : Int) ∧ j ≤ s + 1 ∧ Fr Nil w wr) (fun _ i _ => 100 - (intOf i).toNat)
        case atStart => exact ⟨0, rfl, rfl, by omega, FH.out⟩
        case round =>
          obtain ⟨j, rfl, rfl, hj, fr⟩ := hrel
          have FJ := Lib.hid fr
          clear fr
          by_cases hjs : j ≤ s
          · have j0 : (0 : Int) ≤ (j : Int) := by omega
            have j1 : (j : Int) ≤ (s : Int) := by omega
            have j2 : (j : Int) < 64 := by have := HS.out; omega
            have hor := pow_or j (by omega)
            have HJ := Lib.hid hjs
            have HOR := Lib.hid hor
            clear hor hjs hj
            go_wp2_with fail
            go_roundw
            case rel => exact ⟨j + 1, by simp, by first | (rw [← HOR.out]; done) | (rw [← HOR.out]; simp), by have := HJ.out; omega, FJ.out⟩
            case measure => have := HJ.out; have := HS.out; simp [intOf]; omega
          · have hje : j = s + 1 := by omega
            subst hje
            have j1 : (s : Int) < ((s + 1 : Nat) : Int) := by omega
            rw [hp]
            clear hjs hj
            go_wp2_with fail
            refine (RR.out _).mono ?_
            rintro e w2 ⟨rfl, f2⟩
            have F2 := Lib.hid (FJ.out.trans f2)
            clear f2 RR
            go_wp2_with fail
            go_loopw [12, 13] (fun o i wr => ∃ m : Nat, i = .int .i64 (m : Int) ∧ o = .int .u64 (rep R 16 m : Int) ∧ m ≤ 64 ∧ Fr Nil w wr) (fun _ i _ => 100 - (intOf i).toNat)
            case atStart => exact ⟨0, rfl, rfl, by omega, F2.out⟩
            case round =>
              obtain ⟨m, rfl, rfl, hm, fr⟩ := hrel
              have FR := Lib.hid fr
              clear fr
              by_cases hm64 : m < 64
              · have m0 : (0 : Int) ≤ (m : Int) := by omega
                have m1 : (m : Int) < 64 := by omega
                have hor := rep_orbit R 16 m hm64
                have em : (m : Int).tmod 16 = ((m % 16 : Nat) : Int) := by rw [Int.tmod_eq_emod_of_nonneg (by omega)]; omega
                have hb := fun w => bit_ok (R : Int) (m % 16) w (by omega) (by omega) (by have := HR.out; have h2 : (2 : Nat) ^ 16 ≤ 2 ^ 64 := Nat.pow_le_pow_right (by omega) (by omega); omega)
                rw [← bit_cast] at hor
                have HB := Lib.hid hb
                have HOR := Lib.hid hor
                have HM := Lib.hid hm64
                clear hor hb hm64 hm
                generalize m % 16 = mz at *
                go_wp2_with fail
                refine (HB.out _).mono ?_
                rintro e w3 ⟨rfl, rfl⟩
                go_wp2_with fail
                go_roundw
                case rel => exact ⟨m + 1, by simp, by rw [← HOR.out], by have := HM.out; omega, FR.out⟩
                case measure => have := HM.out; simp [intOf]; omega
              · have hme : m = 64 := by omega
                subst hme
                clear hm hm64
                go_wp2_with fail
                go_ret2
                exact ⟨rfl, FR.out⟩
set_option maxHeartbeats 4000000 in
theorem rmsk_8 (T k : Nat) (hT : T < 64) (h0 : 48 ≤ k) (h1 : k ≤ 55) : ((k % 8 = 8 - 1) → RMskC 0 (T : Int) (k : Int) 0 2) ∧ (k % 8 < 8 - 1 → RMskC 0 (T : Int) (k : Int) (mkN 8 (k % 8) (T % 8) : Int) 0) := by
  have k0 : (0 : Int) ≤ (k : Int) := by omega
  have k1 : (k : Int) ≤ 63 := by omega
  have t0 : (0 : Int) ≤ (T : Int) := by omega
  have t1 : (T : Int) ≤ 63 := by omega
  obtain ⟨d, hd⟩ : ∃ d : Int, (63 : Int) - (k : Int) = d := ⟨_, rfl⟩
  have d0 : 8 ≤ d := by omega
  have d1 : d ≤ 15 := by omega
  have et : (k : Int).tmod 8 = ((k % 8 : Nat) : Int) := by rw [Int.tmod_eq_emod_of_nonneg (by omega)]; omega
  have eu : (T : Int).tmod 8 = ((T % 8 : Nat) : Int) := by rw [Int.tmod_eq_emod_of_nonneg (by omega)]; omega
  have HT := Lib.hid (show T % 8 < 8 from Nat.mod_lt _ (by omega))
  have q8 : T % 8 % 8 = T % 8 := Nat.mod_mod _ _
  clear h0 h1 hT
  generalize k % 8 = s at *
  generalize T % 8 = u at *
  refine ⟨fun hs w => ?_, fun hs w => ?_⟩
  · subst hs
    go_enter Try.func20, Try.ntmps20
    go_wp2_with fail
    go_loopw [8] (fun o wr => ∃ v : Int, o = .int .i64 v ∧ (v = 32 ∨ v = 16 ∨ v = 8) ∧ Fr Nil w wr) (fun o _ => (intOf o).toNat)
    case atStart => exact ⟨32, rfl, by simp, Fr.refl _ _⟩
    case round =>
      obtain ⟨v, rfl, hv, fr⟩ := hrel
      have FH := Lib.hid fr
      clear fr
      rcases hv with rfl | rfl | rfl
      · go_wp2_with fail
        go_roundw
        case rel => exact ⟨16, rfl, by simp, FH.out⟩
        case measure => simp [intOf]
      · go_wp2_with fail
        go_roundw
        case rel => exact ⟨8, rfl, by simp, FH.out⟩
        case measure => simp [intOf]
      · go_wp2_with fail
        go_ret2
        exact ⟨rfl, FH.out⟩
  · have hb : ((s : Int) == 7) = false := by simp; omega
    have HS := Lib.hid (show s < 7 by omega)
    have s0 : (0 : Int) ≤ (s : Int) := by omega
    have s1 : (s : Int) < 8 := by omega
    obtain ⟨p, hp⟩ : ∃ p : Nat, 2 ^ (s + 1) - 1 = p := ⟨_, rfl⟩
    have hx : p < 2 ^ 8 := by
      have : 2 ^ (s + 1) ≤ 2 ^ 8 := Nat.pow_le_pow_right (by omega) (by omega)
      have := Nat.two_pow_pos (s + 1)
      omega
    have hx64 : (2 : Nat) ^ 8 ≤ 2 ^ 64 := Nat.pow_le_pow_right (by omega) (by omega)
    have rr := fun w => rror_ok p u 8 w (by omega) (by omega) (by omega) hx
    rw [q8] at rr
    have hR := rorN_lt p u 8 HT.out hx
    have hmk : mkN 8 s u = rep (rorN p u 8) 8 64 := by unfold mkN; rw [hp]
    rw [hmk]
    clear hmk
    generalize rorN p u 8 = R at *
    have HR := Lib.hid hR
    have RR := Lib.hid rr
    clear hR rr hx hx64 hs q8
    go_enter Try.func20, Try.ntmps20
    go_wp2_with fail
    go_loopw [8] (fun o wr => ∃ v : Int, o = .int .i64 v ∧ (v = 32 ∨ v = 16 ∨ v = 8) ∧ Fr Nil w wr) (fun o _ => (intOf o).toNat)
    case atStart => exact ⟨32, rfl, by simp, Fr.refl _ _⟩
    case round =>
      obtain ⟨v, rfl, hv, fr⟩ := hrel
      have FH := Lib.hid fr
      clear fr
      rcases hv with rfl | rfl | rfl
      · go_wp2_with fail
        go_roundw
        case rel => exact ⟨16, rfl, by simp, FH.out⟩
        case measure => simp [intOf]
      · go_wp2_with fail
        go_roundw
        case rel => exact ⟨8, rfl, by simp, FH.out⟩
        case measure => simp [intOf]
      · go_wp2_with fail
        go_loopw [10, 11] (fun o i wr => ∃ j : Nat, i = .int .i64 (j : Int) ∧ o = .int .u64 ((2 ^ j - 1 : Nat) : Int) ∧ j ≤ s + 1 ∧ Fr Nil w wr) (fun _ i _ => 100 - (intOf i).toNat)
        case atStart => exact ⟨0, rfl, rfl, by omega, FH.out⟩
        case round =>
          obtain ⟨j, rfl, rfl, hj, fr⟩ := hrel
          have FJ := Lib.hid fr
          clear fr
          by_cases hjs : j ≤ s
          · have j0 : (0 : Int) ≤ (j : Int) := by omega
            have j1 : (j : Int) ≤ (s : Int) := by omega
            have j2 : (j : Int) < 64 := by have := HS.out; omega
            have hor := pow_or j (by omega)
            have HJ := Lib.hid hjs
            have HOR := Lib.hid hor
            clear hor hjs hj
            go_wp2_with fail
            go_roundw
            case rel => exact ⟨j + 1, by simp, by first | (rw [← HOR.out]; done) | (rw [← HOR.out]; simp), by have := HJ.out; omega, FJ.out⟩
            case measure => have := HJ.out; have := HS.out; simp [intOf]; omega
          · have hje : j = s + 1 := by omega
            subst hje
            have j1 : (s : Int) < ((s + 1 : Nat) : Int) := by omega
            rw [hp]
            clear hjs hj
            go_wp2_with fail
            refine (RR.out _).mono ?_
            rintro e w2 ⟨rfl, f2⟩
            have F2 := Lib.hid (FJ.out.trans f2)
            clear f2 RR
            go_wp2_with fail
            go_loopw [12, 13] (fun o i wr => ∃ m : Nat, i = .int .i64 (m : Int) ∧ o = .int .u64 (rep R 8 m : Int) ∧ m ≤ 64 ∧ Fr Nil w wr) (fun _ i _ => 100 - (intOf i).toNat)
            case atStart => exact ⟨0, rfl, rfl, by omega, F2.out⟩
            case round =>
              obtain ⟨m, rfl, rfl, hm, fr⟩ := hrel
              have FR := Lib.hid fr
              clear fr
              by_cases hm64 : m < 64
              · have m0 : (0 : Int) ≤ (m : Int) := by omega
                have m1 : (m : Int) < 64 := by omega
                have hor := rep_orbit R 8 m hm64
                have em : (m : Int).tmod 8 = ((m % 8 : Nat) : Int) := by rw [Int.tmod_eq_emod_of_nonneg (by omega)]; omega
                have hb := fun w => bit_ok (R : Int) (m % 8) w (by omega) (by omega) (by have := HR.out; have h2 : (2 : Nat) ^ 8 ≤ 2 ^ 64 := Nat.pow_le_pow_right (by omega) (by omega); omega)
                rw [← bit_cast] at hor
                have HB := Lib.hid hb
                have HOR := Lib.hid hor
                have HM := Lib.hid hm64
                clear hor hb hm64 hm
                generalize m % 8 = mz at *
                go_wp2_with fail
                refine (HB.out _).mono ?_
                rintro e w3 ⟨rfl, rfl⟩
                go_wp2_with fail
                go_roundw
                case rel => exact ⟨m + 1, by simp, by rw [← HOR.out], by have := HM.out; omega, FR.out⟩
                case measure => have := HM.out; simp [intOf]; omega
              · have hme : m = 64 := by omega
                subst hme
                clear hm hm64
                go_wp2_with fail
                go_ret2
                exact ⟨rfl, FR.out⟩
set_option maxHeartbeats 4000000 in
theorem rmsk_4 (T k : Nat) (hT : T < 64) (h0 : 56 ≤ k) (h1 : k ≤ 59) : ((k % 4 = 4 - 1) → RMskC 0 (T : Int) (k : Int) 0 2) ∧ (k % 4 < 4 - 1 → RMskC 0 (T : Int) (k : Int) (mkN 4 (k % 4) (T % 4) : Int) 0) := by
  have k0 : (0 : Int) ≤ (k : Int) := by omega
  have k1 : (k : Int) ≤ 63 := by omega
  have t0 : (0 : Int) ≤ (T : Int) := by omega
  have t1 : (T : Int) ≤ 63 := by omega
  obtain ⟨d, hd⟩ : ∃ d : Int, (63 : Int) - (k : Int) = d := ⟨_, rfl⟩
  have d0 : 4 ≤ d := by omega
  have d1 : d ≤ 7 := by omega
  have et : (k : Int).tmod 4 = ((k % 4 : Nat) : Int) := by rw [Int.tmod_eq_emod_of_nonneg (by omega)]; omega
  have eu : (T : Int).tmod 4 = ((T % 4 : Nat) : Int) := by rw [Int.tmod_eq_emod_of_nonneg (by omega)]; omega
  have HT := Lib.hid (show T % 4 < 4 from Nat.mod_lt _ (by omega))
  have q8 : T % 4 % 4 = T % 4 := Nat.mod_mod _ _
  clear h0 h1 hT
  generalize k % 4 = s at *
  generalize T % 4 = u at *
  refine ⟨fun hs w => ?_, fun hs w => ?_⟩
  · subst hs
    go_enter Try.func20, Try.ntmps20
    go_wp2_with fail
    go_loopw [8] (fun o wr => ∃ v : Int, o = .int .i64 v ∧ (v = 32 ∨ v = 16 ∨ v = 8 ∨ v = 4) ∧ Fr Nil w wr) (fun o _ => (intOf o).toNat)
    case atStart => exact ⟨32, rfl, by simp, Fr.refl _ _⟩
    case round =>
      obtain ⟨v, rfl, hv, fr⟩ := hrel
      have FH := Lib.hid fr
      clear fr
      rcases hv with rfl | rfl | rfl | rfl
      · go_wp2_with fail
        go_roundw
        case rel => exact ⟨16, rfl, by simp, FH.out⟩
        case measure => simp [intOf]
      · go_wp2_with fail
        go_roundw
        case rel => exact ⟨8, rfl, by simp, FH.out⟩
        case measure => simp [intOf]
      · go_wp2_with fail
        go_roundw
        case rel => exact ⟨4, rfl, by simp, FH.out⟩
        case measure => simp [intOf]
      · go_wp2_with fail
        go_ret2
        exact ⟨rfl, FH.out⟩
  · have hb : ((s : Int) == 3) = false := by simp; omega
    have HS := Lib.hid (show s < 3 by omega)
    have s0 : (0 : Int) ≤ (s : Int) := by omega
    have s1 : (s : Int) < 4 := by omega
    obtain ⟨p, hp⟩ : ∃ p : Nat, 2 ^ (s + 1) - 1 = p := ⟨_, rfl⟩
    have hx : p < 2 ^ 4 := by
      have : 2 ^ (s + 1) ≤ 2 ^ 4 := Nat.pow_le_pow_right (by omega) (by omega)
      have := Nat.two_pow_pos (s + 1)
      omega
    have hx64 : (2 : Nat) ^ 4 ≤ 2 ^ 64 := Nat.pow_le_pow_right (by omega) (by omega)
    have rr := fun w => rror_ok p u 4 w (by omega) (by omega) (by omega) hx
    rw [q8] at rr
    have hR := rorN_lt p u 4 HT.out hx
    have hmk : mkN 4 s u = rep (rorN p u 4) 4 64 := by unfold mkN; rw [hp]
    rw [hmk]
    clear hmk
    generalize rorN p u 4 = R at *
    have HR := Lib.hid hR
    have RR := Lib.hid rr
    clear hR rr hx hx64 hs q8
    go_enter Try.func20, Try.ntmps20
    go_wp2_with fail
    go_loopw [8] (fun o wr => ∃ v : Int, o = .int .i64 v ∧ (v = 32 ∨ v = 16 ∨ v = 8 ∨ v = 4) ∧ Fr Nil w wr) (fun o _ => (intOf o).toNat)
    case atStart => exact ⟨32, rfl, by simp, Fr.refl _ _⟩
    case round =>
      obtain ⟨v, rfl, hv, fr⟩ := hrel
      have FH := Lib.hid fr
      clear fr
      rcases hv with rfl | rfl | rfl | rfl
      · go_wp2_with fail
        go_roundw
        case rel => exact ⟨16, rfl, by simp, FH.out⟩
        case measure => simp [intOf]
      · go_wp2_with fail
        go_roundw
        case rel => exact ⟨8, rfl, by simp, FH.out⟩
        case measure => simp [intOf]
      · go_wp2_with fail
        go_roundw
        case rel => exact ⟨4, rfl, by simp, FH.out⟩
        case measure => simp [intOf]
      · go_wp2_with fail
        go_loopw [10, 11] (fun o i wr => ∃ j : Nat, i = .int .i64 (j : Int) ∧ o = .int .u64 ((2 ^ j - 1 : Nat) : Int) ∧ j ≤ s + 1 ∧ Fr Nil w wr) (fun _ i _ => 100 - (intOf i).toNat)
        case atStart => exact ⟨0, rfl, rfl, by omega, FH.out⟩
        case round =>
          obtain ⟨j, rfl, rfl, hj, fr⟩ := hrel
          have FJ := Lib.hid fr
          clear fr
          by_cases hjs : j ≤ s
          · have j0 : (0 : Int) ≤ (j : Int) := by omega
            have j1 : (j : Int) ≤ (s : Int) := by omega
            have j2 : (j : Int) < 64 := by have := HS.out; omega
            have hor := pow_or j (by omega)
            have HJ := Lib.hid hjs
            have HOR := Lib.hid hor
            clear hor hjs hj
            go_wp2_with fail
            go_roundw
            case rel => exact ⟨j + 1, by simp, by first | (rw [← HOR.out]; done) | (rw [← HOR.out]; simp), by have := HJ.out; omega, FJ.out⟩
            case measure => have := HJ.out; have := HS.out; simp [intOf]; omega
          · have hje : j = s + 1 := by omega
            subst hje
            have j1 : (s : Int) < ((s + 1 : Nat) : Int) := by omega
            rw [hp]
            clear hjs hj
            go_wp2_with fail
            refine (RR.out _).mono ?_
            rintro e w2 ⟨rfl, f2⟩
            have F2 := Lib.hid (FJ.out.trans f2)
            clear f2 RR
            go_wp2_with fail
            go_loopw [12, 13] (fun o i wr => ∃ m : Nat, i = .int .i64 (m : Int) ∧ o = .int .u64 (rep R 4 m : Int) ∧ m ≤ 64 ∧ Fr Nil w wr) (fun _ i _ => 100 - (intOf i).toNat)
            case atStart => exact ⟨0, rfl, rfl, by omega, F2.out⟩
            case round =>
              obtain ⟨m, rfl, rfl, hm, fr⟩ := hrel
              have FR := Lib.hid fr
              clear fr
              by_cases hm64 : m < 64
              · have m0 : (0 : Int) ≤ (m : Int) := by omega
                have m1 : (m : Int) < 64 := by omega
                have hor := rep_orbit R 4 m hm64
                have em : (m : Int).tmod 4 = ((m % 4 : Nat) : Int) := by rw [Int.tmod_eq_emod_of_nonneg (by omega)]; omega
                have hb := fun w => bit_ok (R : Int) (m % 4) w (by omega) (by omega) (by have := HR.out; have h2 : (2 : Nat) ^ 4 ≤ 2 ^ 64 := Nat.pow_le_pow_right (by omega) (by omega); omega)
                rw [← bit_cast] at hor
                have HB := Lib.hid hb
                have HOR := Lib.hid hor
                have HM := Lib.hid hm64
                clear hor hb hm64 hm
                generalize m % 4 = mz at *
                go_wp2_with fail
                refine (HB.out _).mono ?_
                rintro e w3 ⟨rfl, rfl⟩
                go_wp2_with fail
                go_roundw
                case rel => exact ⟨m + 1, by simp, by rw [← HOR.out], by have := HM.out; omega, FR.out⟩
                case measure => have := HM.out; simp [intOf]; omega
              · have hme : m = 64 := by omega
                subst hme
                clear hm hm64
                go_wp2_with fail
                go_ret2
                exact ⟨rfl, FR.out⟩
set_option maxHeartbeats 4000000 in
theorem rmsk_2 (T k : Nat) (hT : T < 64) (h0 : 60 ≤ k) (h1 : k ≤ 61) : ((k % 2 = 2 - 1) → RMskC 0 (T : Int) (k : Int) 0 2) ∧ (k % 2 < 2 - 1 → RMskC 0 (T : Int) (k : Int) (mkN 2 (k % 2) (T % 2) : Int) 0) := by
  have k0 : (0 : Int) ≤ (k : Int) := by omega
  have k1 : (k : Int) ≤ 63 := by omega
  have t0 : (0 : Int) ≤ (T : Int) := by omega
  have t1 : (T : Int) ≤ 63 := by omega
  obtain ⟨d, hd⟩ : ∃ d : Int, (63 : Int) - (k : Int) = d := ⟨_, rfl⟩
  have d0 : 2 ≤ d := by omega
  have d1 : d ≤ 3 := by omega
  have et : (k : Int).tmod 2 = ((k % 2 : Nat) : Int) := by rw [Int.tmod_eq_emod_of_nonneg (by omega)]; omega
  have eu : (T : Int).tmod 2 = ((T % 2 : Nat) : Int) := by rw [Int.tmod_eq_emod_of_nonneg (by omega)]; omega
  have HT := Lib.hid (show T % 2 < 2 from Nat.mod_lt _ (by omega))
  have q8 : T % 2 % 2 = T % 2 := Nat.mod_mod _ _
  clear h0 h1 hT
  generalize k % 2 = s at *
  generalize T % 2 = u at *
  refine ⟨fun hs w => ?_, fun hs w => ?_⟩
  · subst hs
    go_enter Try.func20, Try.ntmps20
    go_wp2_with fail
    go_loopw [8] (fun o wr => ∃ v : Int, o = .int .i64 v ∧ (v = 32 ∨ v = 16 ∨ v = 8 ∨ v = 4 ∨ v = 2) ∧ Fr Nil w wr) (fun o _ => (intOf o).toNat)
    case atStart => exact ⟨32, rfl, by simp, Fr.refl _ _⟩
    case round =>
      obtain ⟨v, rfl, hv, fr⟩ := hrel
      have FH := Lib.hid fr
      clear fr
      rcases hv with rfl | rfl | rfl | rfl | rfl
      · go_wp2_with fail
        go_roundw
        case rel => exact ⟨16, rfl, by simp, FH.out⟩
        case measure => simp [intOf]
      · go_wp2_with fail
        go_roundw
        case rel => exact ⟨8, rfl, by simp, FH.out⟩
        case measure => simp [intOf]
      · go_wp2_with fail
        go_roundw
        case rel => exact ⟨4, rfl, by simp, FH.out⟩
        case measure => simp [intOf]
      · go_wp2_with fail
        go_roundw
        case rel => exact ⟨2, rfl, by simp, FH.out⟩
        case measure => simp [intOf]
      · go_wp2_with fail
        go_ret2
        exact ⟨rfl, FH.out⟩
  · have hb : ((s : Int) == 1) = false := by simp; omega
    have HS := Lib.hid (show s < 1 by omega)
    have s0 : (0 : Int) ≤ (s : Int) := by omega
    have s1 : (s : Int) < 2 := by omega
    obtain ⟨p, hp⟩ : ∃ p : Nat, 2 ^ (s + 1) - 1 = p := ⟨_, rfl⟩
    have hx : p < 2 ^ 2 := by
      have : 2 ^ (s + 1) ≤ 2 ^ 2 := Nat.pow_le_pow_right (by omega) (by omega)
      have := Nat.two_pow_pos (s + 1)
      omega
    have hx64 : (2 : Nat) ^ 2 ≤ 2 ^ 64 := Nat.pow_le_pow_right (by omega) (by omega)
    have rr := fun w => rror_ok p u 2 w (by omega) (by omega) (by omega) hx
    rw [q8] at rr
    have hR := rorN_lt p u 2 HT.out hx
    have hmk : mkN 2 s u = rep (rorN p u 2) 2 64 := by unfold mkN; rw [hp]
    rw [hmk]
    clear hmk
    generalize rorN p u 2 = R at *
    have HR := Lib.hid hR
    have RR := Lib.hid rr
    clear hR rr hx hx64 hs q8
    go_enter Try.func20, Try.ntmps20
    go_wp2_with fail
    go_loopw [8] (fun o wr => ∃ v : Int, o = .int .i64 v ∧ (v = 32 ∨ v = 16 ∨ v = 8 ∨ v = 4 ∨ v = 2) ∧ Fr Nil w wr) (fun o _ => (intOf o).toNat)
    case atStart => exact ⟨32, rfl, by simp, Fr.refl _ _⟩
    case round =>
      obtain ⟨v, rfl, hv, fr⟩ := hrel
      have FH := Lib.hid fr
      clear fr
      rcases hv with rfl | rfl | rfl | rfl | rfl
      · go_wp2_with fail
        go_roundw
        case rel => exact ⟨16, rfl, by simp, FH.out⟩
        case measure => simp [intOf]
      · go_wp2_with fail
        go_roundw
        case rel => exact ⟨8, rfl, by simp, FH.out⟩
        case measure => simp [intOf]
      · go_wp2_with fail
        go_roundw
        case rel => exact ⟨4, rfl, by simp, FH.out⟩
        case measure => simp [intOf]
      · go_wp2_with fail
        go_roundw
        case rel => exact ⟨2, rfl, by simp, FH.out⟩
        case measure => simp [intOf]
      · go_wp2_with fail
        go_loopw [10, 11] (fun o i wr => ∃ j : Nat, i = .int .i64 (j : Int) ∧ o = .int .u64 ((2 ^ j - 1 : Nat) : Int) ∧ j ≤ s + 1 ∧ Fr Nil w wr) (fun _ i _ => 100 - (intOf i).toNat)
        case atStart => exact ⟨0, rfl, rfl, by omega, FH.out⟩
        case round =>
          obtain ⟨j, rfl, rfl, hj, fr⟩ := hrel
          have FJ := Lib.hid fr
          clear fr
          by_cases hjs : j ≤ s
          · have j0 : (0 : Int) ≤ (j : Int) := by omega
            have j1 : (j : Int) ≤ (s : Int) := by omega
            have j2 : (j : Int) < 64 := by have := HS.out; omega
            have hor := pow_or j (by omega)
            have HJ := Lib.hid hjs
            have HOR := Lib.hid hor
            clear hor hjs hj
            go_wp2_with fail
            go_roundw
            case rel => exact ⟨j + 1, by simp, by first | (rw [← HOR.out]; done) | (rw [← HOR.out]; simp), by have := HJ.out; omega, FJ.out⟩
            case measure => have := HJ.out; have := HS.out; simp [intOf]; omega
          · have hje : j = s + 1 := by omega
            subst hje
            have j1 : (s : Int) < ((s + 1 : Nat) : Int) := by omega
            rw [hp]
            clear hjs hj
            go_wp2_with fail
            refine (RR.out _).mono ?_
            rintro e w2 ⟨rfl, f2⟩
            have F2 := Lib.hid (FJ.out.trans f2)
            clear f2 RR
            go_wp2_with fail
            go_loopw [12, 13] (fun o i wr => ∃ m : Nat, i = .int .i64 (m : Int) ∧ o = .int .u64 (rep R 2 m : Int) ∧ m ≤ 64 ∧ Fr Nil w wr) (fun _ i _ => 100 - (intOf i).toNat)
            case atStart => exact ⟨0, rfl, rfl, by omega, F2.out⟩
            case round =>
              obtain ⟨m, rfl, rfl, hm, fr⟩ := hrel
              have FR := Lib.hid fr
              clear fr
              by_cases hm64 : m < 64
              · have m0 : (0 : Int) ≤ (m : Int) := by omega
                have m1 : (m : Int) < 64 := by omega
                have hor := rep_orbit R 2 m hm64
                have em : (m : Int).tmod 2 = ((m % 2 : Nat) : Int) := by rw [Int.tmod_eq_emod_of_nonneg (by omega)]; omega
                have hb := fun w => bit_ok (R : Int) (m % 2) w (by omega) (by omega) (by have := HR.out; have h2 : (2 : Nat) ^ 2 ≤ 2 ^ 64 := Nat.pow_le_pow_right (by omega) (by omega); omega)
                rw [← bit_cast] at hor
                have HB := Lib.hid hb
                have HOR := Lib.hid hor
                have HM := Lib.hid hm64
                clear hor hb hm64 hm
                generalize m % 2 = mz at *
                go_wp2_with fail
                refine (HB.out _).mono ?_
                rintro e w3 ⟨rfl, rfl⟩
                go_wp2_with fail
                go_roundw
                case rel => exact ⟨m + 1, by simp, by rw [← HOR.out], by have := HM.out; omega, FR.out⟩
                case measure => have := HM.out; simp [intOf]; omega
              · have hme : m = 64 := by omega
                subst hme
                clear hm hm64
                go_wp2_with fail
                go_ret2
                exact ⟨rfl, FR.out⟩
set_option maxHeartbeats 4000000 in
theorem rmsk_64 (T k : Nat) (hT : T < 64) (h0 : 0 ≤ k) (h1 : k ≤ 63) : ((k % 64 = 64 - 1) → RMskC 1 (T : Int) (k : Int) 0 2) ∧ (k % 64 < 64 - 1 → RMskC 1 (T : Int) (k : Int) (mkN 64 (k % 64) (T % 64) : Int) 0) := by
  have k0 : (0 : Int) ≤ (k : Int) := by omega
  have k1 : (k : Int) ≤ 63 := by omega
  have t0 : (0 : Int) ≤ (T : Int) := by omega
  have t1 : (T : Int) ≤ 63 := by omega
  obtain ⟨d, hd⟩ : ∃ d : Int, (63 : Int) - (k : Int) = d := ⟨_, rfl⟩
  have d0 : 0 ≤ d := by omega
  have d1 : d ≤ 63 := by omega
  have et : (k : Int).tmod 64 = ((k % 64 : Nat) : Int) := by rw [Int.tmod_eq_emod_of_nonneg (by omega)]; omega
  have eu : (T : Int).tmod 64 = ((T % 64 : Nat) : Int) := by rw [Int.tmod_eq_emod_of_nonneg (by omega)]; omega
  have HT := Lib.hid (show T % 64 < 64 from Nat.mod_lt _ (by omega))
  have q8 : T % 64 % 64 = T % 64 := Nat.mod_mod _ _
  clear h0 h1 hT
  generalize k % 64 = s at *
  generalize T % 64 = u at *
  refine ⟨fun hs w => ?_, fun hs w => ?_⟩
  · subst hs
    go_enter Try.func20, Try.ntmps20
    go_wp2_with fail
    go_ret2
    exact ⟨rfl, Fr.refl _ _⟩
  · have hb : ((s : Int) == 63) = false := by simp; omega
    have HS := Lib.hid (show s < 63 by omega)
    have s0 : (0 : Int) ≤ (s : Int) := by omega
    have s1 : (s : Int) < 64 := by omega
    obtain ⟨p, hp⟩ : ∃ p : Nat, 2 ^ (s + 1) - 1 = p := ⟨_, rfl⟩
    have hx : p < 2 ^ 64 := by
      have : 2 ^ (s + 1) ≤ 2 ^ 64 := Nat.pow_le_pow_right (by omega) (by omega)
      have := Nat.two_pow_pos (s + 1)
      omega
    have hx64 : (2 : Nat) ^ 64 ≤ 2 ^ 64 := Nat.pow_le_pow_right (by omega) (by omega)
    have rr := fun w => rror_ok p u 64 w (by omega) (by omega) (by omega) hx
    rw [q8] at rr
    have hR := rorN_lt p u 64 HT.out hx
    have hmk : mkN 64 s u = rep (rorN p u 64) 64 64 := by unfold mkN; rw [hp]
    rw [hmk]
    clear hmk
    generalize rorN p u 64 = R at *
    have HR := Lib.hid hR
    have RR := Lib.hid rr
    clear hR rr hx hx64 hs q8
    go_enter Try.func20, Try.ntmps20
    go_wp2_with fail
    go_loopw [10, 11] (fun o i wr => ∃ j : Nat, i = .int .i64 (j : Int) ∧ o = .int .u64 ((2 ^ j - 1 : Nat) : Int) ∧ j ≤ s + 1 ∧ Fr Nil w wr) (fun _ i _ => 100 - (intOf i).toNat)
    case atStart => exact ⟨0, rfl, rfl, by omega, Fr.refl _ _⟩
    case round =>
      obtain ⟨j, rfl, rfl, hj, fr⟩ := hrel
      have FJ := Lib.hid fr
      clear fr
      by_cases hjs : j ≤ s
      · have j0 : (0 : Int) ≤ (j : Int) := by omega
        have j1 : (j : Int) ≤ (s : Int) := by omega
        have j2 : (j : Int) < 64 := by have := HS.out; omega
        have hor := pow_or j (by omega)
        have HJ := Lib.hid hjs
        have HOR := Lib.hid hor
        clear hor hjs hj
        go_wp2_with fail
        go_roundw
        case rel => exact ⟨j + 1, by simp, by first | (rw [← HOR.out]; done) | (rw [← HOR.out]; simp), by have := HJ.out; omega, FJ.out⟩
        case measure => have := HJ.out; have := HS.out; simp [intOf]; omega
      · have hje : j = s + 1 := by omega
        subst hje
        have j1 : (s : Int) < ((s + 1 : Nat) : Int) := by omega
        rw [hp]
        clear hjs hj
        go_wp2_with fail
        refine (RR.out _).mono ?_
        rintro e w2 ⟨rfl, f2⟩
        have F2 := Lib.hid (FJ.out.trans f2)
        clear f2 RR
        go_wp2_with fail
        go_loopw [12, 13] (fun o i wr => ∃ m : Nat, i = .int .i64 (m : Int) ∧ o = .int .u64 (rep R 64 m : Int) ∧ m ≤ 64 ∧ Fr Nil w wr) (fun _ i _ => 100 - (intOf i).toNat)
        case atStart => exact ⟨0, rfl, rfl, by omega, F2.out⟩
        case round =>
          obtain ⟨m, rfl, rfl, hm, fr⟩ := hrel
          have FR := Lib.hid fr
          clear fr
          by_cases hm64 : m < 64
          · have m0 : (0 : Int) ≤ (m : Int) := by omega
            have m1 : (m : Int) < 64 := by omega
            have hor := rep_orbit R 64 m hm64
            have em : (m : Int).tmod 64 = ((m % 64 : Nat) : Int) := by rw [Int.tmod_eq_emod_of_nonneg (by omega)]; omega
            have hb := fun w => bit_ok (R : Int) (m % 64) w (by omega) (by omega) (by have := HR.out; have h2 : (2 : Nat) ^ 64 ≤ 2 ^ 64 := Nat.pow_le_pow_right (by omega) (by omega); omega)
            rw [← bit_cast] at hor
            have HB := Lib.hid hb
            have HOR := Lib.hid hor
            have HM := Lib.hid hm64
            clear hor hb hm64 hm
            generalize m % 64 = mz at *
            go_wp2_with fail
            refine (HB.out _).mono ?_
            rintro e w3 ⟨rfl, rfl⟩
            go_wp2_with fail
            go_roundw
            case rel => exact ⟨m + 1, by simp, by rw [← HOR.out], by have := HM.out; omega, FR.out⟩
            case measure => have := HM.out; simp [intOf]; omega
          · have hme : m = 64 := by omega
            subst hme
            clear hm hm64
            go_wp2_with fail
            go_ret2
            exact ⟨rfl, FR.out⟩
set_option maxHeartbeats 4000000 in
theorem rmsk_0 (T k : Nat) (hT : T < 64) (h0 : 62 ≤ k) (h1 : k ≤ 63) : RMskC 0 (T : Int) (k : Int) 0 2 := by
  intro w
  have k0 : (0 : Int) ≤ (k : Int) := by omega
  have k1 : (k : Int) ≤ 63 := by omega
  have t0 : (0 : Int) ≤ (T : Int) := by omega
  have t1 : (T : Int) ≤ 63 := by omega
  obtain ⟨d, hd⟩ : ∃ d : Int, (63 : Int) - (k : Int) = d := ⟨_, rfl⟩
  have hd2 : d = 0 ∨ d = 1 := by omega
  clear h0 h1 hT
  rcases hd2 with rfl | rfl
  · go_enter Try.func20, Try.ntmps20
    go_wp2_with fail
    go_loopw [8] (fun o wr => ∃ v : Int, o = .int .i64 v ∧ (v = 32 ∨ v = 16 ∨ v = 8 ∨ v = 4 ∨ v = 2 ∨ v = 1 ∨ v = 0) ∧ Fr Nil w wr) (fun o _ => (intOf o).toNat)
    case atStart => exact ⟨32, rfl, by simp, Fr.refl _ _⟩
    case round =>
      obtain ⟨v, rfl, hv, fr⟩ := hrel
      have FH := Lib.hid fr
      clear fr
      rcases hv with rfl | rfl | rfl | rfl | rfl | rfl | rfl
      · go_wp2_with fail
        go_roundw
        case rel => exact ⟨16, rfl, by simp, FH.out⟩
        case measure => simp [intOf]
      · go_wp2_with fail
        go_roundw
        case rel => exact ⟨8, rfl, by simp, FH.out⟩
        case measure => simp [intOf]
      · go_wp2_with fail
        go_roundw
        case rel => exact ⟨4, rfl, by simp, FH.out⟩
        case measure => simp [intOf]
      · go_wp2_with fail
        go_roundw
        case rel => exact ⟨2, rfl, by simp, FH.out⟩
        case measure => simp [intOf]
      · go_wp2_with fail
        go_roundw
        case rel => exact ⟨1, rfl, by simp, FH.out⟩
        case measure => simp [intOf]
      · go_wp2_with fail
        go_roundw
        case rel => exact ⟨0, rfl, by simp, FH.out⟩
        case measure => simp [intOf]
      · go_wp2_with fail
        go_ret2
        exact ⟨rfl, FH.out⟩
  · go_enter Try.func20, Try.ntmps20
    go_wp2_with fail
    go_loopw [8] (fun o wr => ∃ v : Int, o = .int .i64 v ∧ (v = 32 ∨ v = 16 ∨ v = 8 ∨ v = 4 ∨ v = 2 ∨ v = 1) ∧ Fr Nil w wr) (fun o _ => (intOf o).toNat)
    case atStart => exact ⟨32, rfl, by simp, Fr.refl _ _⟩
    case round =>
      obtain ⟨v, rfl, hv, fr⟩ := hrel
      have FH := Lib.hid fr
      clear fr
      rcases hv with rfl | rfl | rfl | rfl | rfl | rfl
      · go_wp2_with fail
        go_roundw
        case rel => exact ⟨16, rfl, by simp, FH.out⟩
        case measure => simp [intOf]
      · go_wp2_with fail
        go_roundw
        case rel => exact ⟨8, rfl, by simp, FH.out⟩
        case measure => simp [intOf]
      · go_wp2_with fail
        go_roundw
        case rel => exact ⟨4, rfl, by simp, FH.out⟩
        case measure => simp [intOf]
      · go_wp2_with fail
        go_roundw
        case rel => exact ⟨2, rfl, by simp, FH.out⟩
        case measure => simp [intOf]
      · go_wp2_with fail
        go_roundw
        case rel => exact ⟨1, rfl, by simp, FH.out⟩
        case measure => simp [intOf]
      · go_wp2_with fail
        go_ret2
        exact ⟨rfl, FH.out⟩
end Go.Proofs.Ythmlkealefboaaa
