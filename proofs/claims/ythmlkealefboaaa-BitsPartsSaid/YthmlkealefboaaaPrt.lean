/- bits.Parts, walked. -/
import Derived.Test.YthmlkealefboaaaOcn
import Derived.Test.YthmlkealefboaaaBit
import Derived.WalkMore
namespace Go.Proofs.Ythmlkealefboaaa
open Go.RowKit
set_option linter.unusedVariables false
set_option maxRecDepth 100000
def RorE (v : Nat) (w : World) (e : Ending) (w' : World) : Prop := ∃ c : Int, e = .returned (.tuple #[.int .u64 (v : Int), .int .i64 c]) ∧ Fr Nil w w'
theorem ror_turn (P r z : Nat) (zi : Int) (hzi : (z : Int) = zi) (hz : Size z) (hr : r < z) (hP : P < 2 ^ 64) (w : World) : Calls Try.prog 17 #[.int .u64 (P : Int), .int .i64 (r : Int), .int .i64 zi] w (RorE (turnV P r z) w) := by
  subst hzi
  have hz2 := hz.pos
  by_cases h : P < 2 ^ z
  · refine (ror_ok (P : Int) r z w (by omega) (by omega) (by omega) hz2.2 (by rw [powN]; omega)).mono ?_
    rintro e w' ⟨he, hf⟩
    rw [Nat.mod_eq_of_lt hr, rorV_nat] at he
    unfold turnV
    rw [if_pos h]
    exact ⟨0, he, hf⟩
  · have hlt : z < 64 := by
      rcases Nat.lt_or_ge z 64 with h1 | h1
      · exact h1
      · exfalso
        have : z = 64 := by omega
        subst this
        exact h hP
    refine (ror_bits (P : Int) r z w (by omega) (by omega) hlt (by rw [powN]; omega)).mono ?_
    rintro e w' ⟨he, hf⟩
    unfold turnV
    rw [if_neg h]
    exact ⟨2, he, hf⟩
theorem onesV_lt64 (o : Nat) : onesV o < 2 ^ 64 := Nat.mod_lt _ (by decide)
theorem oc_lt (x : Nat) : oc x < 128 := Nat.mod_lt _ (by decide)
theorem xor_max (m : Nat) (hm : m < 2 ^ 64) : (bits .xor .u64 IntKind.u64.max (m : Int) == 0) = decide (m = 2 ^ 64 - 1) := by
  have e : bits .xor .u64 IntKind.u64.max (m : Int) = IntKind.u64.wrap (((BitVec.ofNat 64 (2 ^ 64 - 1) ^^^ BitVec.ofNat 64 m).toNat : Nat) : Int) := by
    have h1 : IntKind.u64.max = ((2 ^ 64 - 1 : Nat) : Int) := by decide
    rw [h1]
    unfold bits
    simp only [IntKind.bits, BitVec.ofInt_natCast]
    rfl
  have h2 : BitVec.ofNat 64 (2 ^ 64 - 1) ^^^ BitVec.ofNat 64 m = ~~~ BitVec.ofNat 64 m := by
    rw [show BitVec.ofNat 64 (2 ^ 64 - 1) = BitVec.allOnes 64 from rfl, BitVec.allOnes_xor]
  rw [e, h2, BitVec.toNat_not, BitVec.toNat_ofNat, Nat.mod_eq_of_lt hm, IntKind.wrap_u64]
  rw [Bool.eq_iff_iff, beq_iff_eq, decide_eq_true_eq]
  omega
def SomeP (m : Nat) (w : World) (e : Ending) (w' : World) : Prop := ∃ n r s c : Int, e = .returned (.tuple #[.int .i64 n, .int .i64 r, .int .i64 s, .int .i64 c]) ∧ PartsR m n r s c ∧ Fr Nil w w'
/-- No turn ahead of r was it. -/
def NoTurn (m z r : Nat) : Prop := ∀ R, R < r → turnV (onesV (oc (m % 2 ^ z))) R z ≠ m % 2 ^ z
theorem NoTurn.succ {m z r : Nat} (h : NoTurn m z r) (hr : turnV (onesV (oc (m % 2 ^ z))) r z ≠ m % 2 ^ z) : NoTurn m z (r + 1) := fun R hR => by
  by_cases e : R = r
  · subst e; exact hr
  · exact h R (by omega)
theorem turn_found {m z r : Nat} (hm : m < 2 ^ 64) (h0 : m ≠ 0) (h1 : m ≠ 2 ^ 64 - 1) (hh : hs m = z) (hr : r < z) (hn : NoTurn m z r) (hf : turnV (onesV (oc (m % 2 ^ z))) r z = m % 2 ^ z) :
    1 ≤ oc (m % 2 ^ z) ∧ oc (m % 2 ^ z) < z ∧ PartsR m (if z = 64 then 1 else 0) r ((if z = 64 then oc (m % 2 ^ z) - 1 else 64 - 2 * z + (oc (m % 2 ^ z) - 1) : Nat) : Int) 0 := by
  have h := found_ok hm h0 h1 (r := r) (by rw [hh]; exact hr) (by rw [hh]; exact hf)
  rw [hh] at h
  obtain ⟨a, b, c⟩ := h
  have hz : Size z := by rw [← hh]; exact hs_size m
  refine ⟨a, by omega, .inl ⟨z, oc (m % 2 ^ z) - 1, r, hz, b, hr, c, fun R' hR' he => ?_, rfl, rfl, rfl, rfl⟩⟩
  have t := table hz b (r := R') (by omega)
  rw [he] at t
  refine hn R' hR' ?_
  rw [onesV_lt (by have := hz.pos; omega)]
  unfold turnV
  rw [show oc (m % 2 ^ z) = oc (m % 2 ^ z) - 1 + 1 by omega, if_pos (ones_lt b), ← mkN_mod hz b (by omega), he]
theorem turn_lost {m z : Nat} (hh : hs m = z) (hn : NoTurn m z z) : PartsR m 0 0 0 2 := .inr ⟨rfl, rfl, rfl, rfl, lost_ok fun r hr => by rw [hh] at hr ⊢; exact hn r hr⟩
theorem shl_ones (o : Nat) : IntKind.u64.wrap (IntKind.u64.wrap (2 ^ min o 64) - 1) = (onesV o : Int) := by
  rcases Nat.lt_or_ge o 64 with h | h
  · rw [Nat.min_eq_left (by omega), onesV_lt h, powN, IntKind.wrap_u64, IntKind.wrap_u64]
    have h1 : 2 ^ o ≤ 2 ^ 63 := Nat.pow_le_pow_right (by omega) (by omega)
    have h0 := Nat.two_pow_pos o
    omega
  · rw [Nat.min_eq_right h, onesV_ge h, powN, IntKind.wrap_u64, IntKind.wrap_u64]
    omega

theorem orT_32 : ∀ j : Nat, j < 31 → bits .or .i64 0 (j : Int) = ((64 - 2 * 32 + j : Nat) : Int) := by decide +kernel
theorem orT_16 : ∀ j : Nat, j < 15 → bits .or .i64 32 (j : Int) = ((64 - 2 * 16 + j : Nat) : Int) := by decide +kernel
theorem orT_8 : ∀ j : Nat, j < 7 → bits .or .i64 48 (j : Int) = ((64 - 2 * 8 + j : Nat) : Int) := by decide +kernel
theorem orT_4 : ∀ j : Nat, j < 3 → bits .or .i64 56 (j : Int) = ((64 - 2 * 4 + j : Nat) : Int) := by decide +kernel
theorem orT_2 : ∀ j : Nat, j < 1 → bits .or .i64 60 (j : Int) = ((64 - 2 * 2 + j : Nat) : Int) := by decide +kernel
theorem PartsR.cast {m : Nat} {n n' r s s' e : Int} (h : PartsR m n r s e) (hn : n = n') (hs : s = s') : PartsR m n' r s' e := by subst hn hs; exact h
theorem oc_zero : oc 0 = 0 := by decide +kernel
theorem oc_full {z : Nat} (hz : Size z) : oc (2 ^ z - 1) = z := by rcases hz with rfl | rfl | rfl | rfl | rfl | rfl <;> decide +kernel
theorem none_zero : PartsR 0 0 0 0 2 := .inr ⟨rfl, rfl, rfl, rfl, fun z S R hz hS hR he => by
  have t := (table hz hS hR).2
  rw [he, Nat.zero_mod, oc_zero] at t
  omega⟩
theorem none_full : PartsR (2 ^ 64 - 1) 0 0 0 2 := .inr ⟨rfl, rfl, rfl, rfl, fun z S R hz hS hR he => by
  have t := (table hz hS hR).2
  have e : (2 ^ 64 - 1) % 2 ^ z = 2 ^ z - 1 := by rcases hz with rfl | rfl | rfl | rfl | rfl | rfl <;> decide
  rw [he, e, oc_full hz] at t
  omega⟩
set_option maxHeartbeats 4000000 in
theorem parts_ok (m : Nat) (hm : m < 2 ^ 64) (w : World) : Calls Try.prog 21 #[.int .u64 (m : Int)] w (SomeP m w) := by
  have m0 : (0 : Int) ≤ (m : Int) := by omega
  have m1 : (m : Int) ≤ 18446744073709551615 := by omega
  by_cases z0 : m = 0
  · subst z0
    have e0 : ((0 : Nat) : Int) = 0 := rfl
    rw [e0]
    clear e0
    go_enter Try.func21, Try.ntmps21
    go_wp2_with fail
    go_step3
    go_wp2_with fail
    rw [Exit.noGoto_ret]
    refine bodyPost_ret (results_tmp4 rfl _ _) rfl ?_
    exact ⟨_, _, _, _, rfl, none_zero, Fr.refl _ _⟩
  by_cases z1 : m = 2 ^ 64 - 1
  · have h0 : ((m : Int) == 0) = false := by simp; omega
    have h1 : (bits .xor .u64 IntKind.u64.max (m : Int) == 0) = true := by rw [xor_max m hm]; simpa using z1
    have h1' : (bits .xor .u64 (if IntKind.u64.signed = true then -1 else IntKind.u64.max) (m : Int) == 0) = true := h1
    have Z1 := Lib.hid z1
    clear z0 z1 hm
    go_enter Try.func21, Try.ntmps21
    go_wp2_with fail
    go_step3
    go_wp2_with fail
    refine bodyPost_ret (results_tmp4 rfl _ _) rfl ?_
    exact ⟨_, _, _, _, rfl, by rw [Z1.out]; exact none_full, Fr.refl _ _⟩
  have h0 : ((m : Int) == 0) = false := by simp; omega
  have h1 : (bits .xor .u64 IntKind.u64.max (m : Int) == 0) = false := by rw [xor_max m hm]; simpa using z1
  have h1' : (bits .xor .u64 (if IntKind.u64.signed = true then -1 else IntKind.u64.max) (m : Int) == 0) = false := h1
  have Z0 := Lib.hid z0
  have Z1 := Lib.hid z1
  have HM := Lib.hid hm

  have R32 := Lib.hid (rot_32 m hm)
  have R16 := Lib.hid (rot_16 m hm)
  have R8 := Lib.hid (rot_8 m hm)
  have R4 := Lib.hid (rot_4 m hm)
  have R2 := Lib.hid (rot_2 m hm)
  clear z0 z1 hm
  go_enter Try.func21, Try.ntmps21
  go_wp2_with fail
  go_step3
  go_wp2_with fail
  clear h0 h1 h1'
  go_loop [6] (fun s => (s = .int .i64 64 ∧ Hid (True)) ∨ (s = .int .i64 32 ∧ Hid (rotN m 32 = m)) ∨ (s = .int .i64 16 ∧ Hid (rotN m 32 = m ∧ rotN m 16 = m)) ∨ (s = .int .i64 8 ∧ Hid (rotN m 32 = m ∧ rotN m 16 = m ∧ rotN m 8 = m)) ∨ (s = .int .i64 4 ∧ Hid (rotN m 32 = m ∧ rotN m 16 = m ∧ rotN m 8 = m ∧ rotN m 4 = m)) ∨ (s = .int .i64 2 ∧ Hid (rotN m 32 = m ∧ rotN m 16 = m ∧ rotN m 8 = m ∧ rotN m 4 = m ∧ rotN m 2 = m))) (fun s => (intOf s).toNat)
  case atStart => exact .inl ⟨rfl, Lib.hid trivial⟩
  case round =>
    rcases hrel with ⟨rfl, hp⟩ | ⟨rfl, hp⟩ | ⟨rfl, hp⟩ | ⟨rfl, hp⟩ | ⟨rfl, hp⟩ | ⟨rfl, hp⟩
    · by_cases hr : rotN m 32 = m
      · have hb : ((rotN m 32 : Int) == (m : Int)) = true := by simp [hr]
        have HR := Lib.hid hr
        clear hr
        go_wp2_with (go_at_call 25; refine (R32.out _).mono ?_; rintro e w2 ⟨rfl, rfl⟩)
        go_round
        case rel => exact .inr (.inl ⟨rfl, Lib.hid HR.out⟩)
        case measure => simp [intOf]
      · have hb : ((rotN m 32 : Int) == (m : Int)) = false := by simp; omega
        have HR := Lib.hid hr
        clear hr
        have HS := Lib.hid (show hs m = 64 from by have h := hp.out; unfold hs; exact if_pos HR.out)
        have hA : bits .and .u64 (m : Int) 18446744073709551615 = ((m % 2 ^ 64 : Nat) : Int) := by
          have := and_low (m : Int) 64 (by omega) m0 m1
          rw [powN] at this
          exact this.trans (by rw [Int.natCast_emod])
        obtain ⟨A, hAe⟩ : ∃ A, m % 2 ^ 64 = A := ⟨_, rfl⟩
        rw [hAe] at hA
        have hAl : A < 2 ^ 64 := by rw [← hAe]; exact Nat.lt_of_le_of_lt (Nat.mod_le _ _) HM.out
        have OL := Lib.hid (oc_lt A)
        have AE := Lib.hid hAe
        have OC := Lib.hid (oc_ok A · hAl)
        clear hAe hAl
        go_wp2_with (first | (go_at_call 25; refine (R32.out _).mono ?_; rintro e w2 ⟨rfl, rfl⟩) | (go_at_call 26; refine (OC.out _).mono ?_; rintro e w2 ⟨rfl, rfl⟩))
        go_step3
        go_wp2_with fail
        go_loopw [39] (fun i wr => ∃ r : Nat, r ≤ 64 ∧ i = .int .i64 (r : Int) ∧ Hid (NoTurn m 64 r) ∧ Fr Nil w wr) (fun i _ => 64 - (intOf i).toNat)
        case atStart => exact ⟨0, Nat.zero_le _, rfl, Lib.hid (fun R hR => absurd hR (Nat.not_lt_zero R)), Fr.refl _ _⟩
        case round =>
          obtain ⟨r, hr, rfl, hn, hf⟩ := hrel
          by_cases hlt : r < 64
          · have hlt2 : (r : Int) < 64 := by omega
            have ho : oc A < 128 := OL.out
            have RT := Lib.hid (ror_turn (onesV (oc A)) r 64 64 rfl (by unfold Size; omega) hlt (onesV_lt64 _))
            go_wp2_with fail
            rw [shl_ones]
            refine (RT.out _).mono ?_
            rintro e w3 ⟨c, rfl, f3⟩
            by_cases ht : turnV (onesV (oc A)) r 64 = A
            · have hb : (((turnV (onesV (oc A)) r 64 : Nat) : Int) != (A : Int)) = false := by simp [ht]
              obtain ⟨q1, q2, q3⟩ := turn_found (r := r) HM.out Z0.out Z1.out HS.out hlt hn.out (by rw [AE.out]; exact ht)
              rw [AE.out] at q1 q2 q3
              have Q3 := Lib.hid q3
              clear q3 ht
              have e3 : ((if (64 : Nat) = 64 then oc A - 1 else 64 - 2 * 64 + (oc A - 1) : Nat) : Int) = (oc A : Int) - 1 := by rw [if_pos rfl]; omega
              have E3 := Lib.hid e3
              clear e3
              go_wp2_with fail
              rw [Exit.noGoto_ret]
              refine bodyPost_ret (results_tmp4 rfl _ _) rfl ?_
              exact ⟨_, _, _, _, rfl, PartsR.cast Q3.out rfl E3.out, hf.trans f3⟩
            · have hb : (((turnV (onesV (oc A)) r 64 : Nat) : Int) != (A : Int)) = true := by simp; omega
              have HN := Lib.hid (hn.out.succ (by rw [AE.out]; exact ht))
              clear ht
              go_wp2_with fail
              go_roundw
              case rel => exact ⟨r + 1, by omega, by go_num, HN, hf.trans f3⟩
              case measure => simp [intOf]; omega
          · have hre : r = 64 := by omega
            have hnl : decide ((r : Int) < 64) = false := by simp; omega
            have hn2 : NoTurn m 64 64 := by have := hn.out; rw [hre] at this; exact this
            have PL := Lib.hid (turn_lost HS.out hn2)
            go_wp2_with fail
            rw [Exit.noGoto_ret]
            refine bodyPost_ret (results_tmp4 rfl _ _) rfl ?_
            exact ⟨_, _, _, _, rfl, PL.out, hf⟩
    · by_cases hr : rotN m 16 = m
      · have hb : ((rotN m 16 : Int) == (m : Int)) = true := by simp [hr]
        have HR := Lib.hid hr
        clear hr
        go_wp2_with (go_at_call 25; refine (R16.out _).mono ?_; rintro e w2 ⟨rfl, rfl⟩)
        go_round
        case rel => exact .inr (.inr (.inl ⟨rfl, Lib.hid (by have h := hp.out; have k := HR.out; first | exact ⟨h, k⟩ | exact ⟨h.1, h.2, k⟩ | exact ⟨h.1, h.2.1, h.2.2, k⟩ | exact ⟨h.1, h.2.1, h.2.2.1, h.2.2.2, k⟩)⟩))
        case measure => simp [intOf]
      · have hb : ((rotN m 16 : Int) == (m : Int)) = false := by simp; omega
        have HR := Lib.hid hr
        clear hr
        have HS := Lib.hid (show hs m = 32 from by have h := hp.out; unfold hs; rw [if_neg (fun e => e (h))]; exact if_pos HR.out)
        have hA : bits .and .u64 (m : Int) 4294967295 = ((m % 2 ^ 32 : Nat) : Int) := by
          have := and_low (m : Int) 32 (by omega) m0 m1
          rw [powN] at this
          exact this.trans (by rw [Int.natCast_emod])
        obtain ⟨A, hAe⟩ : ∃ A, m % 2 ^ 32 = A := ⟨_, rfl⟩
        rw [hAe] at hA
        have hAl : A < 2 ^ 64 := by rw [← hAe]; exact Nat.lt_of_le_of_lt (Nat.mod_le _ _) HM.out
        have OL := Lib.hid (oc_lt A)
        have AE := Lib.hid hAe
        have OC := Lib.hid (oc_ok A · hAl)
        clear hAe hAl
        go_wp2_with (first | (go_at_call 25; refine (R16.out _).mono ?_; rintro e w2 ⟨rfl, rfl⟩) | (go_at_call 26; refine (OC.out _).mono ?_; rintro e w2 ⟨rfl, rfl⟩))
        go_step3
        go_wp2_with fail
        go_loopw [39] (fun i wr => ∃ r : Nat, r ≤ 32 ∧ i = .int .i64 (r : Int) ∧ Hid (NoTurn m 32 r) ∧ Fr Nil w wr) (fun i _ => 32 - (intOf i).toNat)
        case atStart => exact ⟨0, Nat.zero_le _, rfl, Lib.hid (fun R hR => absurd hR (Nat.not_lt_zero R)), Fr.refl _ _⟩
        case round =>
          obtain ⟨r, hr, rfl, hn, hf⟩ := hrel
          by_cases hlt : r < 32
          · have hlt2 : (r : Int) < 32 := by omega
            have ho : oc A < 128 := OL.out
            have RT := Lib.hid (ror_turn (onesV (oc A)) r 32 32 rfl (by unfold Size; omega) hlt (onesV_lt64 _))
            go_wp2_with fail
            rw [shl_ones]
            refine (RT.out _).mono ?_
            rintro e w3 ⟨c, rfl, f3⟩
            by_cases ht : turnV (onesV (oc A)) r 32 = A
            · have hb : (((turnV (onesV (oc A)) r 32 : Nat) : Int) != (A : Int)) = false := by simp [ht]
              obtain ⟨q1, q2, q3⟩ := turn_found (r := r) HM.out Z0.out Z1.out HS.out hlt hn.out (by rw [AE.out]; exact ht)
              rw [AE.out] at q1 q2 q3
              have Q3 := Lib.hid q3
              clear q3 ht
              have e3 : ((if (32 : Nat) = 64 then oc A - 1 else 64 - 2 * 32 + (oc A - 1) : Nat) : Int) = bits .or .i64 0 ((oc A : Int) - 1) := by
                rw [if_neg (by decide)]
                obtain ⟨j, hj⟩ : ∃ j, oc A = j + 1 := ⟨oc A - 1, by omega⟩
                rw [hj, show ((j + 1 : Nat) : Int) - 1 = (j : Int) by omega, orT_32 j (by omega)]
                rfl
              have E3 := Lib.hid e3
              clear e3
              go_wp2_with fail
              rw [Exit.noGoto_ret]
              refine bodyPost_ret (results_tmp4 rfl _ _) rfl ?_
              exact ⟨_, _, _, _, rfl, PartsR.cast Q3.out rfl E3.out, hf.trans f3⟩
            · have hb : (((turnV (onesV (oc A)) r 32 : Nat) : Int) != (A : Int)) = true := by simp; omega
              have HN := Lib.hid (hn.out.succ (by rw [AE.out]; exact ht))
              clear ht
              go_wp2_with fail
              go_roundw
              case rel => exact ⟨r + 1, by omega, by go_num, HN, hf.trans f3⟩
              case measure => simp [intOf]; omega
          · have hre : r = 32 := by omega
            have hnl : decide ((r : Int) < 32) = false := by simp; omega
            have hn2 : NoTurn m 32 32 := by have := hn.out; rw [hre] at this; exact this
            have PL := Lib.hid (turn_lost HS.out hn2)
            go_wp2_with fail
            rw [Exit.noGoto_ret]
            refine bodyPost_ret (results_tmp4 rfl _ _) rfl ?_
            exact ⟨_, _, _, _, rfl, PL.out, hf⟩
    · by_cases hr : rotN m 8 = m
      · have hb : ((rotN m 8 : Int) == (m : Int)) = true := by simp [hr]
        have HR := Lib.hid hr
        clear hr
        go_wp2_with (go_at_call 25; refine (R8.out _).mono ?_; rintro e w2 ⟨rfl, rfl⟩)
        go_round
        case rel => exact .inr (.inr (.inr (.inl ⟨rfl, Lib.hid (by have h := hp.out; have k := HR.out; first | exact ⟨h, k⟩ | exact ⟨h.1, h.2, k⟩ | exact ⟨h.1, h.2.1, h.2.2, k⟩ | exact ⟨h.1, h.2.1, h.2.2.1, h.2.2.2, k⟩)⟩)))
        case measure => simp [intOf]
      · have hb : ((rotN m 8 : Int) == (m : Int)) = false := by simp; omega
        have HR := Lib.hid hr
        clear hr
        have HS := Lib.hid (show hs m = 16 from by have h := hp.out; unfold hs; rw [if_neg (fun e => e (h.1))]; rw [if_neg (fun e => e (h.2))]; exact if_pos HR.out)
        have hA : bits .and .u64 (m : Int) 65535 = ((m % 2 ^ 16 : Nat) : Int) := by
          have := and_low (m : Int) 16 (by omega) m0 m1
          rw [powN] at this
          exact this.trans (by rw [Int.natCast_emod])
        obtain ⟨A, hAe⟩ : ∃ A, m % 2 ^ 16 = A := ⟨_, rfl⟩
        rw [hAe] at hA
        have hAl : A < 2 ^ 64 := by rw [← hAe]; exact Nat.lt_of_le_of_lt (Nat.mod_le _ _) HM.out
        have OL := Lib.hid (oc_lt A)
        have AE := Lib.hid hAe
        have OC := Lib.hid (oc_ok A · hAl)
        clear hAe hAl
        go_wp2_with (first | (go_at_call 25; refine (R8.out _).mono ?_; rintro e w2 ⟨rfl, rfl⟩) | (go_at_call 26; refine (OC.out _).mono ?_; rintro e w2 ⟨rfl, rfl⟩))
        go_step3
        go_wp2_with fail
        go_loopw [39] (fun i wr => ∃ r : Nat, r ≤ 16 ∧ i = .int .i64 (r : Int) ∧ Hid (NoTurn m 16 r) ∧ Fr Nil w wr) (fun i _ => 16 - (intOf i).toNat)
        case atStart => exact ⟨0, Nat.zero_le _, rfl, Lib.hid (fun R hR => absurd hR (Nat.not_lt_zero R)), Fr.refl _ _⟩
        case round =>
          obtain ⟨r, hr, rfl, hn, hf⟩ := hrel
          by_cases hlt : r < 16
          · have hlt2 : (r : Int) < 16 := by omega
            have ho : oc A < 128 := OL.out
            have RT := Lib.hid (ror_turn (onesV (oc A)) r 16 16 rfl (by unfold Size; omega) hlt (onesV_lt64 _))
            go_wp2_with fail
            rw [shl_ones]
            refine (RT.out _).mono ?_
            rintro e w3 ⟨c, rfl, f3⟩
            by_cases ht : turnV (onesV (oc A)) r 16 = A
            · have hb : (((turnV (onesV (oc A)) r 16 : Nat) : Int) != (A : Int)) = false := by simp [ht]
              obtain ⟨q1, q2, q3⟩ := turn_found (r := r) HM.out Z0.out Z1.out HS.out hlt hn.out (by rw [AE.out]; exact ht)
              rw [AE.out] at q1 q2 q3
              have Q3 := Lib.hid q3
              clear q3 ht
              have e3 : ((if (16 : Nat) = 64 then oc A - 1 else 64 - 2 * 16 + (oc A - 1) : Nat) : Int) = bits .or .i64 32 ((oc A : Int) - 1) := by
                rw [if_neg (by decide)]
                obtain ⟨j, hj⟩ : ∃ j, oc A = j + 1 := ⟨oc A - 1, by omega⟩
                rw [hj, show ((j + 1 : Nat) : Int) - 1 = (j : Int) by omega, orT_16 j (by omega)]
                rfl
              have E3 := Lib.hid e3
              clear e3
              go_wp2_with fail
              rw [Exit.noGoto_ret]
              refine bodyPost_ret (results_tmp4 rfl _ _) rfl ?_
              exact ⟨_, _, _, _, rfl, PartsR.cast Q3.out rfl E3.out, hf.trans f3⟩
            · have hb : (((turnV (onesV (oc A)) r 16 : Nat) : Int) != (A : Int)) = true := by simp; omega
              have HN := Lib.hid (hn.out.succ (by rw [AE.out]; exact ht))
              clear ht
              go_wp2_with fail
              go_roundw
              case rel => exact ⟨r + 1, by omega, by go_num, HN, hf.trans f3⟩
              case measure => simp [intOf]; omega
          · have hre : r = 16 := by omega
            have hnl : decide ((r : Int) < 16) = false := by simp; omega
            have hn2 : NoTurn m 16 16 := by have := hn.out; rw [hre] at this; exact this
            have PL := Lib.hid (turn_lost HS.out hn2)
            go_wp2_with fail
            rw [Exit.noGoto_ret]
            refine bodyPost_ret (results_tmp4 rfl _ _) rfl ?_
            exact ⟨_, _, _, _, rfl, PL.out, hf⟩
    · by_cases hr : rotN m 4 = m
      · have hb : ((rotN m 4 : Int) == (m : Int)) = true := by simp [hr]
        have HR := Lib.hid hr
        clear hr
        go_wp2_with (go_at_call 25; refine (R4.out _).mono ?_; rintro e w2 ⟨rfl, rfl⟩)
        go_round
        case rel => exact .inr (.inr (.inr (.inr (.inl ⟨rfl, Lib.hid (by have h := hp.out; have k := HR.out; first | exact ⟨h, k⟩ | exact ⟨h.1, h.2, k⟩ | exact ⟨h.1, h.2.1, h.2.2, k⟩ | exact ⟨h.1, h.2.1, h.2.2.1, h.2.2.2, k⟩)⟩))))
        case measure => simp [intOf]
      · have hb : ((rotN m 4 : Int) == (m : Int)) = false := by simp; omega
        have HR := Lib.hid hr
        clear hr
        have HS := Lib.hid (show hs m = 8 from by have h := hp.out; unfold hs; rw [if_neg (fun e => e (h.1))]; rw [if_neg (fun e => e (h.2.1))]; rw [if_neg (fun e => e (h.2.2))]; exact if_pos HR.out)
        have hA : bits .and .u64 (m : Int) 255 = ((m % 2 ^ 8 : Nat) : Int) := by
          have := and_low (m : Int) 8 (by omega) m0 m1
          rw [powN] at this
          exact this.trans (by rw [Int.natCast_emod])
        obtain ⟨A, hAe⟩ : ∃ A, m % 2 ^ 8 = A := ⟨_, rfl⟩
        rw [hAe] at hA
        have hAl : A < 2 ^ 64 := by rw [← hAe]; exact Nat.lt_of_le_of_lt (Nat.mod_le _ _) HM.out
        have OL := Lib.hid (oc_lt A)
        have AE := Lib.hid hAe
        have OC := Lib.hid (oc_ok A · hAl)
        clear hAe hAl
        go_wp2_with (first | (go_at_call 25; refine (R4.out _).mono ?_; rintro e w2 ⟨rfl, rfl⟩) | (go_at_call 26; refine (OC.out _).mono ?_; rintro e w2 ⟨rfl, rfl⟩))
        go_step3
        go_wp2_with fail
        go_loopw [39] (fun i wr => ∃ r : Nat, r ≤ 8 ∧ i = .int .i64 (r : Int) ∧ Hid (NoTurn m 8 r) ∧ Fr Nil w wr) (fun i _ => 8 - (intOf i).toNat)
        case atStart => exact ⟨0, Nat.zero_le _, rfl, Lib.hid (fun R hR => absurd hR (Nat.not_lt_zero R)), Fr.refl _ _⟩
        case round =>
          obtain ⟨r, hr, rfl, hn, hf⟩ := hrel
          by_cases hlt : r < 8
          · have hlt2 : (r : Int) < 8 := by omega
            have ho : oc A < 128 := OL.out
            have RT := Lib.hid (ror_turn (onesV (oc A)) r 8 8 rfl (by unfold Size; omega) hlt (onesV_lt64 _))
            go_wp2_with fail
            rw [shl_ones]
            refine (RT.out _).mono ?_
            rintro e w3 ⟨c, rfl, f3⟩
            by_cases ht : turnV (onesV (oc A)) r 8 = A
            · have hb : (((turnV (onesV (oc A)) r 8 : Nat) : Int) != (A : Int)) = false := by simp [ht]
              obtain ⟨q1, q2, q3⟩ := turn_found (r := r) HM.out Z0.out Z1.out HS.out hlt hn.out (by rw [AE.out]; exact ht)
              rw [AE.out] at q1 q2 q3
              have Q3 := Lib.hid q3
              clear q3 ht
              have e3 : ((if (8 : Nat) = 64 then oc A - 1 else 64 - 2 * 8 + (oc A - 1) : Nat) : Int) = bits .or .i64 48 ((oc A : Int) - 1) := by
                rw [if_neg (by decide)]
                obtain ⟨j, hj⟩ : ∃ j, oc A = j + 1 := ⟨oc A - 1, by omega⟩
                rw [hj, show ((j + 1 : Nat) : Int) - 1 = (j : Int) by omega, orT_8 j (by omega)]
                rfl
              have E3 := Lib.hid e3
              clear e3
              go_wp2_with fail
              rw [Exit.noGoto_ret]
              refine bodyPost_ret (results_tmp4 rfl _ _) rfl ?_
              exact ⟨_, _, _, _, rfl, PartsR.cast Q3.out rfl E3.out, hf.trans f3⟩
            · have hb : (((turnV (onesV (oc A)) r 8 : Nat) : Int) != (A : Int)) = true := by simp; omega
              have HN := Lib.hid (hn.out.succ (by rw [AE.out]; exact ht))
              clear ht
              go_wp2_with fail
              go_roundw
              case rel => exact ⟨r + 1, by omega, by go_num, HN, hf.trans f3⟩
              case measure => simp [intOf]; omega
          · have hre : r = 8 := by omega
            have hnl : decide ((r : Int) < 8) = false := by simp; omega
            have hn2 : NoTurn m 8 8 := by have := hn.out; rw [hre] at this; exact this
            have PL := Lib.hid (turn_lost HS.out hn2)
            go_wp2_with fail
            rw [Exit.noGoto_ret]
            refine bodyPost_ret (results_tmp4 rfl _ _) rfl ?_
            exact ⟨_, _, _, _, rfl, PL.out, hf⟩
    · by_cases hr : rotN m 2 = m
      · have hb : ((rotN m 2 : Int) == (m : Int)) = true := by simp [hr]
        have HR := Lib.hid hr
        clear hr
        go_wp2_with (go_at_call 25; refine (R2.out _).mono ?_; rintro e w2 ⟨rfl, rfl⟩)
        go_round
        case rel => exact .inr (.inr (.inr (.inr (.inr (⟨rfl, Lib.hid (by have h := hp.out; have k := HR.out; first | exact ⟨h, k⟩ | exact ⟨h.1, h.2, k⟩ | exact ⟨h.1, h.2.1, h.2.2, k⟩ | exact ⟨h.1, h.2.1, h.2.2.1, h.2.2.2, k⟩)⟩)))))
        case measure => simp [intOf]
      · have hb : ((rotN m 2 : Int) == (m : Int)) = false := by simp; omega
        have HR := Lib.hid hr
        clear hr
        have HS := Lib.hid (show hs m = 4 from by have h := hp.out; unfold hs; rw [if_neg (fun e => e (h.1))]; rw [if_neg (fun e => e (h.2.1))]; rw [if_neg (fun e => e (h.2.2.1))]; rw [if_neg (fun e => e (h.2.2.2))]; exact if_pos HR.out)
        have hA : bits .and .u64 (m : Int) 15 = ((m % 2 ^ 4 : Nat) : Int) := by
          have := and_low (m : Int) 4 (by omega) m0 m1
          rw [powN] at this
          exact this.trans (by rw [Int.natCast_emod])
        obtain ⟨A, hAe⟩ : ∃ A, m % 2 ^ 4 = A := ⟨_, rfl⟩
        rw [hAe] at hA
        have hAl : A < 2 ^ 64 := by rw [← hAe]; exact Nat.lt_of_le_of_lt (Nat.mod_le _ _) HM.out
        have OL := Lib.hid (oc_lt A)
        have AE := Lib.hid hAe
        have OC := Lib.hid (oc_ok A · hAl)
        clear hAe hAl
        go_wp2_with (first | (go_at_call 25; refine (R2.out _).mono ?_; rintro e w2 ⟨rfl, rfl⟩) | (go_at_call 26; refine (OC.out _).mono ?_; rintro e w2 ⟨rfl, rfl⟩))
        go_step3
        go_wp2_with fail
        go_loopw [39] (fun i wr => ∃ r : Nat, r ≤ 4 ∧ i = .int .i64 (r : Int) ∧ Hid (NoTurn m 4 r) ∧ Fr Nil w wr) (fun i _ => 4 - (intOf i).toNat)
        case atStart => exact ⟨0, Nat.zero_le _, rfl, Lib.hid (fun R hR => absurd hR (Nat.not_lt_zero R)), Fr.refl _ _⟩
        case round =>
          obtain ⟨r, hr, rfl, hn, hf⟩ := hrel
          by_cases hlt : r < 4
          · have hlt2 : (r : Int) < 4 := by omega
            have ho : oc A < 128 := OL.out
            have RT := Lib.hid (ror_turn (onesV (oc A)) r 4 4 rfl (by unfold Size; omega) hlt (onesV_lt64 _))
            go_wp2_with fail
            rw [shl_ones]
            refine (RT.out _).mono ?_
            rintro e w3 ⟨c, rfl, f3⟩
            by_cases ht : turnV (onesV (oc A)) r 4 = A
            · have hb : (((turnV (onesV (oc A)) r 4 : Nat) : Int) != (A : Int)) = false := by simp [ht]
              obtain ⟨q1, q2, q3⟩ := turn_found (r := r) HM.out Z0.out Z1.out HS.out hlt hn.out (by rw [AE.out]; exact ht)
              rw [AE.out] at q1 q2 q3
              have Q3 := Lib.hid q3
              clear q3 ht
              have e3 : ((if (4 : Nat) = 64 then oc A - 1 else 64 - 2 * 4 + (oc A - 1) : Nat) : Int) = bits .or .i64 56 ((oc A : Int) - 1) := by
                rw [if_neg (by decide)]
                obtain ⟨j, hj⟩ : ∃ j, oc A = j + 1 := ⟨oc A - 1, by omega⟩
                rw [hj, show ((j + 1 : Nat) : Int) - 1 = (j : Int) by omega, orT_4 j (by omega)]
                rfl
              have E3 := Lib.hid e3
              clear e3
              go_wp2_with fail
              rw [Exit.noGoto_ret]
              refine bodyPost_ret (results_tmp4 rfl _ _) rfl ?_
              exact ⟨_, _, _, _, rfl, PartsR.cast Q3.out rfl E3.out, hf.trans f3⟩
            · have hb : (((turnV (onesV (oc A)) r 4 : Nat) : Int) != (A : Int)) = true := by simp; omega
              have HN := Lib.hid (hn.out.succ (by rw [AE.out]; exact ht))
              clear ht
              go_wp2_with fail
              go_roundw
              case rel => exact ⟨r + 1, by omega, by go_num, HN, hf.trans f3⟩
              case measure => simp [intOf]; omega
          · have hre : r = 4 := by omega
            have hnl : decide ((r : Int) < 4) = false := by simp; omega
            have hn2 : NoTurn m 4 4 := by have := hn.out; rw [hre] at this; exact this
            have PL := Lib.hid (turn_lost HS.out hn2)
            go_wp2_with fail
            rw [Exit.noGoto_ret]
            refine bodyPost_ret (results_tmp4 rfl _ _) rfl ?_
            exact ⟨_, _, _, _, rfl, PL.out, hf⟩
    ·
      have HS := Lib.hid (show hs m = 2 from by have h := hp.out; unfold hs; rw [if_neg (fun e => e (h.1))]; rw [if_neg (fun e => e (h.2.1))]; rw [if_neg (fun e => e (h.2.2.1))]; rw [if_neg (fun e => e (h.2.2.2.1))]; rw [if_neg (fun e => e (h.2.2.2.2))])
      have hA : bits .and .u64 (m : Int) 3 = ((m % 2 ^ 2 : Nat) : Int) := by
        have := and_low (m : Int) 2 (by omega) m0 m1
        rw [powN] at this
        exact this.trans (by rw [Int.natCast_emod])
      obtain ⟨A, hAe⟩ : ∃ A, m % 2 ^ 2 = A := ⟨_, rfl⟩
      rw [hAe] at hA
      have hAl : A < 2 ^ 64 := by rw [← hAe]; exact Nat.lt_of_le_of_lt (Nat.mod_le _ _) HM.out
      have OL := Lib.hid (oc_lt A)
      have AE := Lib.hid hAe
      have OC := Lib.hid (oc_ok A · hAl)
      clear hAe hAl
      go_wp2_with (go_at_call 26; refine (OC.out _).mono ?_; rintro e w2 ⟨rfl, rfl⟩)
      go_step3
      go_wp2_with fail
      go_loopw [39] (fun i wr => ∃ r : Nat, r ≤ 2 ∧ i = .int .i64 (r : Int) ∧ Hid (NoTurn m 2 r) ∧ Fr Nil w wr) (fun i _ => 2 - (intOf i).toNat)
      case atStart => exact ⟨0, Nat.zero_le _, rfl, Lib.hid (fun R hR => absurd hR (Nat.not_lt_zero R)), Fr.refl _ _⟩
      case round =>
        obtain ⟨r, hr, rfl, hn, hf⟩ := hrel
        by_cases hlt : r < 2
        · have hlt2 : (r : Int) < 2 := by omega
          have ho : oc A < 128 := OL.out
          have RT := Lib.hid (ror_turn (onesV (oc A)) r 2 2 rfl (by unfold Size; omega) hlt (onesV_lt64 _))
          go_wp2_with fail
          rw [shl_ones]
          refine (RT.out _).mono ?_
          rintro e w3 ⟨c, rfl, f3⟩
          by_cases ht : turnV (onesV (oc A)) r 2 = A
          · have hb : (((turnV (onesV (oc A)) r 2 : Nat) : Int) != (A : Int)) = false := by simp [ht]
            obtain ⟨q1, q2, q3⟩ := turn_found (r := r) HM.out Z0.out Z1.out HS.out hlt hn.out (by rw [AE.out]; exact ht)
            rw [AE.out] at q1 q2 q3
            have Q3 := Lib.hid q3
            clear q3 ht
            have e3 : ((if (2 : Nat) = 64 then oc A - 1 else 64 - 2 * 2 + (oc A - 1) : Nat) : Int) = bits .or .i64 60 ((oc A : Int) - 1) := by
              rw [if_neg (by decide)]
              obtain ⟨j, hj⟩ : ∃ j, oc A = j + 1 := ⟨oc A - 1, by omega⟩
              rw [hj, show ((j + 1 : Nat) : Int) - 1 = (j : Int) by omega, orT_2 j (by omega)]
              rfl
            have E3 := Lib.hid e3
            clear e3
            go_wp2_with fail
            rw [Exit.noGoto_ret]
            refine bodyPost_ret (results_tmp4 rfl _ _) rfl ?_
            exact ⟨_, _, _, _, rfl, PartsR.cast Q3.out rfl E3.out, hf.trans f3⟩
          · have hb : (((turnV (onesV (oc A)) r 2 : Nat) : Int) != (A : Int)) = true := by simp; omega
            have HN := Lib.hid (hn.out.succ (by rw [AE.out]; exact ht))
            clear ht
            go_wp2_with fail
            go_roundw
            case rel => exact ⟨r + 1, by omega, by go_num, HN, hf.trans f3⟩
            case measure => simp [intOf]; omega
        · have hre : r = 2 := by omega
          have hnl : decide ((r : Int) < 2) = false := by simp; omega
          have hn2 : NoTurn m 2 2 := by have := hn.out; rw [hre] at this; exact this
          have PL := Lib.hid (turn_lost HS.out hn2)
          go_wp2_with fail
          rw [Exit.noGoto_ret]
          refine bodyPost_ret (results_tmp4 rfl _ _) rfl ?_
          exact ⟨_, _, _, _, rfl, PL.out, hf⟩
end Go.Proofs.Ythmlkealefboaaa
