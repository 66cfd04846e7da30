/- bits.Mask (lines printed by gen_msk.py). -/
import Derived.Test.YthmlkealefboaaaRep
import Derived.Test.YthmlkealefboaaaLen
namespace Go.Proofs.Ythmlkealefboaaa
open Go.RowKit
set_option linter.unusedVariables false
set_option maxRecDepth 100000

theorem or_i64 (x : Int) (m : Nat) (x0 : -9223372036854775808 ≤ x) (x1 : x ≤ 9223372036854775807) (hm : m < 9223372036854775808) (h : bits .or .i64 x (m : Int) = (m : Int)) : 0 ≤ x ∧ x ≤ (m : Int) := by
  have e : bits .or .i64 x (m : Int) = IntKind.i64.wrap (((BitVec.ofInt 64 x ||| BitVec.ofNat 64 m).toNat : Nat) : Int) := by
    unfold bits
    simp only [IntKind.bits, BitVec.ofInt_natCast]
    rfl
  rw [e, BitVec.toNat_or, BitVec.toNat_ofNat, Nat.mod_eq_of_lt (by omega), BitVec.toNat_ofInt, IntKind.wrap_i64] at h
  have hlt : (x % (2 ^ 64 : Nat)).toNat ||| m < 2 ^ 64 := Nat.or_lt_two_pow (by omega) (by omega)
  have hle : (x % (2 ^ 64 : Nat)).toNat ≤ (x % (2 ^ 64 : Nat)).toNat ||| m := Nat.left_le_or
  generalize (x % (2 ^ 64 : Nat)).toNat ||| m = y at *
  omega
theorem or63 : ∀ k : Nat, k < 64 → bits .or .i64 (k : Int) 63 = 63 := by decide
theorem key0 : ∀ k : Nat, k < 64 → bits .and .i64 (bits .xor .i64 (-1) (k : Int)) 63 = ((63 - k : Nat) : Int) := by decide
theorem or64 : ∀ k : Nat, k < 64 → bits .or .i64 64 (k : Int) = 64 + (k : Int) := by decide
theorem or0 : ∀ k : Nat, k < 64 → bits .or .i64 0 (k : Int) = (k : Int) := by decide
theorem and_sz : ∀ k : Nat, k < 64 → (bits .and .i64 (k : Int) 1 = ((k % 2 : Nat) : Int) ∧ bits .and .i64 (k : Int) 3 = ((k % 4 : Nat) : Int) ∧ bits .and .i64 (k : Int) 7 = ((k % 8 : Nat) : Int) ∧ bits .and .i64 (k : Int) 15 = ((k % 16 : Nat) : Int) ∧ bits .and .i64 (k : Int) 31 = ((k % 32 : Nat) : Int) ∧ bits .and .i64 (k : Int) 63 = ((k % 64 : Nat) : Int)) := by decide
def MskC (n immr imms v e : Int) : Prop := ∀ w : World, Calls Try.prog 19 #[.int .i64 n, .int .i64 immr, .int .i64 imms] w fun x w' => x = .returned (.tuple #[.int .u64 v, .int .i64 e]) ∧ Fr Nil w w'
set_option maxHeartbeats 2000000 in
theorem msk_n (n immr imms : Int) (h : (bits .or .i64 n 1 == 1) = false) : MskC n immr imms 0 1 := by
  intro w
  have h' : (bits .or .i64 n 1 != 1) = true := by simp [bne, h]
  go_enter Try.func19, Try.ntmps19
  go_wp2_with fail
  go_ret2
  exact ⟨rfl, Fr.refl _ _⟩
set_option maxHeartbeats 2000000 in
theorem msk_r (n immr imms : Int) (h0 : bits .or .i64 n 1 = 1) (h : (bits .or .i64 immr 63 == 63) = false) : MskC n immr imms 0 1 := by
  intro w
  have h' : (bits .or .i64 immr 63 != 63) = true := by simp [bne, h]
  go_enter Try.func19, Try.ntmps19
  go_wp2_with fail
  go_ret2
  exact ⟨rfl, Fr.refl _ _⟩
set_option maxHeartbeats 2000000 in
theorem msk_s (n immr imms : Int) (h0 : bits .or .i64 n 1 = 1) (h1 : bits .or .i64 immr 63 = 63) (h : (bits .or .i64 imms 63 == 63) = false) : MskC n immr imms 0 1 := by
  intro w
  have h' : (bits .or .i64 imms 63 != 63) = true := by simp [bne, h]
  go_enter Try.func19, Try.ntmps19
  go_wp2_with fail
  go_ret2
  exact ⟨rfl, Fr.refl _ _⟩
set_option maxHeartbeats 4000000 in
theorem msk_32 (T k : Nat) (hT : T < 64) (h0 : 0 ≤ k) (h1 : k ≤ 31) : ((k % 32 = 32 - 1) → MskC 0 (T : Int) (k : Int) 0 2) ∧ (k % 32 < 32 - 1 → MskC 0 (T : Int) (k : Int) (mkN 32 (k % 32) (T % 32) : Int) 0) := by
  have q1 := or63 T hT
  have q2 := or63 k (by omega)
  have q3 := key0 k (by omega)
  have q5 := (and_sz k (by omega)).2.2.2.2.1
  have q6 := (and_sz T hT).2.2.2.2.1
  have q7 : bits .or .i64 0 1 = 1 := by decide
  obtain ⟨y, hy⟩ : ∃ y : Nat, y = 63 - k := ⟨_, rfl⟩
  have q4 : bits .or .i64 0 ((y : Nat) : Int) = (y : Int) := or0 y (by omega)
  obtain ⟨K, hK⟩ : ∃ K : Int, (y : Int) = K := ⟨_, rfl⟩
  have LN := Lib.hid (lenb_6 K (by omega) (by omega))
  have y2 : 2 ≤ K := by omega
  have y3 : K ≤ 127 := by omega
  rw [← hy] at q3
  have q4' : bits .or .i64 0 ((y : Nat) : Int) = K := q4.trans hK
  clear q4 hK
  obtain ⟨Y, hY⟩ : ∃ Y : Int, (y : Int) = Y := ⟨_, rfl⟩
  rw [hY] at q3 q4'
  clear hY
  have k0 : (0 : Int) ≤ (k : Int) := by omega
  have k1 : (k : Int) < 64 := by omega
  clear hy h0 h1 y
  have q8 : T % 32 % 32 = T % 32 := Nat.mod_mod _ _
  have HT := Lib.hid (show T % 32 < 32 from Nat.mod_lt _ (by omega))
  clear hT
  generalize k % 32 = s at *
  refine ⟨fun hs w => ?_, fun hs w => ?_⟩
  · subst hs
    go_enter Try.func19, Try.ntmps19
    go_upto_region 4 with fail
    rw [if_pos (show IntKind.i64.signed = true from rfl), q3, q4']
    go_wp2_with fail
    refine (LN.out _).mono ?_
    rintro e w2 ⟨rfl, rfl⟩
    go_wp2_with fail
    go_ret2
    exact ⟨rfl, Fr.refl _ _⟩
  · have hb : ((s : Int) == 31) = false := by simp; omega
    have HS := Lib.hid hs
    have s0 : (0 : Int) ≤ (s : Int) := by omega
    have s1 : (s : Int) < 32 := by omega
    obtain ⟨p, hp⟩ : ∃ p : Nat, 2 ^ (s + 1) = p := ⟨_, rfl⟩
    have p1 : p ≤ 2 ^ 63 := by rw [← hp]; exact Nat.pow_le_pow_right (by omega) (by omega)
    have p0 : 0 < p := by rw [← hp]; exact Nat.two_pow_pos _
    have e1 : IntKind.u64.wrap (2 * 2 ^ s) = (p : Int) := by
      have e : (2 : Int) * 2 ^ s = (p : Int) := by rw [← hp, ← powN, pw]
      rw [e, IntKind.wrap_u64]; omega
    have e2 : IntKind.u64.wrap ((p : Int) - 1) = ((p - 1 : Nat) : Int) := by rw [IntKind.wrap_u64]; omega
    have hx : p - 1 < 2 ^ 32 := by
      have : p ≤ 2 ^ 32 := by rw [← hp]; exact Nat.pow_le_pow_right (by omega) (by omega)
      omega
    have rr := (fun w => ror_ok ((p - 1 : Nat) : Int) (T % 32) 32 w (by omega) (by have : (2 : Nat) ^ 32 ≤ 2 ^ 64 := Nat.pow_le_pow_right (by omega) (by omega); omega) (by omega) (by omega) (by rw [powN]; omega))
    rw [rorV_nat, q8] at rr
    have hR := rorN_lt (p - 1) (T % 32) 32 HT.out hx
    have hmk : mkN 32 s (T % 32) = rep (rorN (p - 1) (T % 32) 32) 32 64 := by unfold mkN; rw [hp]
    rw [hmk]
    clear hmk
    generalize rorN (p - 1) (T % 32) 32 = R at *
    have hself := rep_self _ _ hR
    have HSELF := Lib.hid hself
    have RR := Lib.hid rr
    clear hself hR rr
    clear hp hx hs p0 p1
    go_enter Try.func19, Try.ntmps19
    go_upto_region 4 with fail
    rw [if_pos (show IntKind.i64.signed = true from rfl), q3, q4']
    go_wp2_with fail
    refine (LN.out _).mono ?_
    rintro e w2 ⟨rfl, rfl⟩
    go_wp2_with fail
    refine (RR.out _).mono ?_
    rintro e w2 ⟨rfl, f2⟩
    have F2 := Lib.hid f2
    clear f2 RR LN
    go_wp2_with fail
    go_loopw [11, 13] (fun o i wr => ∃ v : Nat, i = .int .i64 (v : Int) ∧ o = .int .u64 (rep R 32 v : Int) ∧ (v = 32 ∨ v = 64) ∧ Fr Nil w wr) (fun _ i _ => 100 - (intOf i).toNat)
    case atStart => exact ⟨32, rfl, by rw [HSELF.out], by simp, F2.out⟩
    case round =>
      obtain ⟨v, rfl, rfl, hv, fr⟩ := hrel
      have FR := Lib.hid fr
      clear fr
      by_cases hv64 : v = 64
      · subst hv64
        clear hv
        go_wp2_with fail
        go_ret2
        exact ⟨rfl, FR.out⟩
      · have hd : 32 ∣ v := by rcases hv with h | h <;> omega
        have hv2 : v ≤ 32 := by omega
        have hor := rep_or R 32 v hd (by omega)
        have HV := Lib.hid (show (v + v = 32 ∨ v + v = 64) by omega)
        have HV2 := Lib.hid (show 1 ≤ v ∧ v ≤ 32 by omega)
        have v0 : (0 : Int) ≤ (v : Int) := by omega
        have v1 : (v : Int) < 64 := by omega
        clear hd hv hv64 hv2
        generalize rep R 32 v = X at *
        generalize hX2 : rep R 32 (v + v) = X2 at *
        have HX2 := Lib.hid hX2
        clear hX2
        go_wp2_with fail
        go_roundw
        case rel => exact ⟨v + v, by simp <;> omega, by rw [HX2.out], HV.out, FR.out⟩
        case measure => have := HV2.out; simp [intOf]; omega
set_option maxHeartbeats 4000000 in
theorem msk_16 (T k : Nat) (hT : T < 64) (h0 : 32 ≤ k) (h1 : k ≤ 47) : ((k % 16 = 16 - 1) → MskC 0 (T : Int) (k : Int) 0 2) ∧ (k % 16 < 16 - 1 → MskC 0 (T : Int) (k : Int) (mkN 16 (k % 16) (T % 16) : Int) 0) := by
  have q1 := or63 T hT
  have q2 := or63 k (by omega)
  have q3 := key0 k (by omega)
  have q5 := (and_sz k (by omega)).2.2.2.1
  have q6 := (and_sz T hT).2.2.2.1
  have q7 : bits .or .i64 0 1 = 1 := by decide
  obtain ⟨y, hy⟩ : ∃ y : Nat, y = 63 - k := ⟨_, rfl⟩
  have q4 : bits .or .i64 0 ((y : Nat) : Int) = (y : Int) := or0 y (by omega)
  obtain ⟨K, hK⟩ : ∃ K : Int, (y : Int) = K := ⟨_, rfl⟩
  have LN := Lib.hid (lenb_5 K (by omega) (by omega))
  have y2 : 2 ≤ K := by omega
  have y3 : K ≤ 127 := by omega
  rw [← hy] at q3
  have q4' : bits .or .i64 0 ((y : Nat) : Int) = K := q4.trans hK
  clear q4 hK
  obtain ⟨Y, hY⟩ : ∃ Y : Int, (y : Int) = Y := ⟨_, rfl⟩
  rw [hY] at q3 q4'
  clear hY
  have k0 : (0 : Int) ≤ (k : Int) := by omega
  have k1 : (k : Int) < 64 := by omega
  clear hy h0 h1 y
  have q8 : T % 16 % 16 = T % 16 := Nat.mod_mod _ _
  have HT := Lib.hid (show T % 16 < 16 from Nat.mod_lt _ (by omega))
  clear hT
  generalize k % 16 = s at *
  refine ⟨fun hs w => ?_, fun hs w => ?_⟩
  · subst hs
    go_enter Try.func19, Try.ntmps19
    go_upto_region 4 with fail
    rw [if_pos (show IntKind.i64.signed = true from rfl), q3, q4']
    go_wp2_with fail
    refine (LN.out _).mono ?_
    rintro e w2 ⟨rfl, rfl⟩
    go_wp2_with fail
    go_ret2
    exact ⟨rfl, Fr.refl _ _⟩
  · have hb : ((s : Int) == 15) = false := by simp; omega
    have HS := Lib.hid hs
    have s0 : (0 : Int) ≤ (s : Int) := by omega
    have s1 : (s : Int) < 16 := by omega
    obtain ⟨p, hp⟩ : ∃ p : Nat, 2 ^ (s + 1) = p := ⟨_, rfl⟩
    have p1 : p ≤ 2 ^ 63 := by rw [← hp]; exact Nat.pow_le_pow_right (by omega) (by omega)
    have p0 : 0 < p := by rw [← hp]; exact Nat.two_pow_pos _
    have e1 : IntKind.u64.wrap (2 * 2 ^ s) = (p : Int) := by
      have e : (2 : Int) * 2 ^ s = (p : Int) := by rw [← hp, ← powN, pw]
      rw [e, IntKind.wrap_u64]; omega
    have e2 : IntKind.u64.wrap ((p : Int) - 1) = ((p - 1 : Nat) : Int) := by rw [IntKind.wrap_u64]; omega
    have hx : p - 1 < 2 ^ 16 := by
      have : p ≤ 2 ^ 16 := by rw [← hp]; exact Nat.pow_le_pow_right (by omega) (by omega)
      omega
    have rr := (fun w => ror_ok ((p - 1 : Nat) : Int) (T % 16) 16 w (by omega) (by have : (2 : Nat) ^ 16 ≤ 2 ^ 64 := Nat.pow_le_pow_right (by omega) (by omega); omega) (by omega) (by omega) (by rw [powN]; omega))
    rw [rorV_nat, q8] at rr
    have hR := rorN_lt (p - 1) (T % 16) 16 HT.out hx
    have hmk : mkN 16 s (T % 16) = rep (rorN (p - 1) (T % 16) 16) 16 64 := by unfold mkN; rw [hp]
    rw [hmk]
    clear hmk
    generalize rorN (p - 1) (T % 16) 16 = R at *
    have hself := rep_self _ _ hR
    have HSELF := Lib.hid hself
    have RR := Lib.hid rr
    clear hself hR rr
    clear hp hx hs p0 p1
    go_enter Try.func19, Try.ntmps19
    go_upto_region 4 with fail
    rw [if_pos (show IntKind.i64.signed = true from rfl), q3, q4']
    go_wp2_with fail
    refine (LN.out _).mono ?_
    rintro e w2 ⟨rfl, rfl⟩
    go_wp2_with fail
    refine (RR.out _).mono ?_
    rintro e w2 ⟨rfl, f2⟩
    have F2 := Lib.hid f2
    clear f2 RR LN
    go_wp2_with fail
    go_loopw [11, 13] (fun o i wr => ∃ v : Nat, i = .int .i64 (v : Int) ∧ o = .int .u64 (rep R 16 v : Int) ∧ (v = 16 ∨ v = 32 ∨ v = 64) ∧ Fr Nil w wr) (fun _ i _ => 100 - (intOf i).toNat)
    case atStart => exact ⟨16, rfl, by rw [HSELF.out], by simp, F2.out⟩
    case round =>
      obtain ⟨v, rfl, rfl, hv, fr⟩ := hrel
      have FR := Lib.hid fr
      clear fr
      by_cases hv64 : v = 64
      · subst hv64
        clear hv
        go_wp2_with fail
        go_ret2
        exact ⟨rfl, FR.out⟩
      · have hd : 16 ∣ v := by rcases hv with h | h | h <;> omega
        have hv2 : v ≤ 32 := by omega
        have hor := rep_or R 16 v hd (by omega)
        have HV := Lib.hid (show (v + v = 16 ∨ v + v = 32 ∨ v + v = 64) by omega)
        have HV2 := Lib.hid (show 1 ≤ v ∧ v ≤ 32 by omega)
        have v0 : (0 : Int) ≤ (v : Int) := by omega
        have v1 : (v : Int) < 64 := by omega
        clear hd hv hv64 hv2
        generalize rep R 16 v = X at *
        generalize hX2 : rep R 16 (v + v) = X2 at *
        have HX2 := Lib.hid hX2
        clear hX2
        go_wp2_with fail
        go_roundw
        case rel => exact ⟨v + v, by simp <;> omega, by rw [HX2.out], HV.out, FR.out⟩
        case measure => have := HV2.out; simp [intOf]; omega
set_option maxHeartbeats 4000000 in
theorem msk_8 (T k : Nat) (hT : T < 64) (h0 : 48 ≤ k) (h1 : k ≤ 55) : ((k % 8 = 8 - 1) → MskC 0 (T : Int) (k : Int) 0 2) ∧ (k % 8 < 8 - 1 → MskC 0 (T : Int) (k : Int) (mkN 8 (k % 8) (T % 8) : Int) 0) := by
  have q1 := or63 T hT
  have q2 := or63 k (by omega)
  have q3 := key0 k (by omega)
  have q5 := (and_sz k (by omega)).2.2.1
  have q6 := (and_sz T hT).2.2.1
  have q7 : bits .or .i64 0 1 = 1 := by decide
  obtain ⟨y, hy⟩ : ∃ y : Nat, y = 63 - k := ⟨_, rfl⟩
  have q4 : bits .or .i64 0 ((y : Nat) : Int) = (y : Int) := or0 y (by omega)
  obtain ⟨K, hK⟩ : ∃ K : Int, (y : Int) = K := ⟨_, rfl⟩
  have LN := Lib.hid (lenb_4 K (by omega) (by omega))
  have y2 : 2 ≤ K := by omega
  have y3 : K ≤ 127 := by omega
  rw [← hy] at q3
  have q4' : bits .or .i64 0 ((y : Nat) : Int) = K := q4.trans hK
  clear q4 hK
  obtain ⟨Y, hY⟩ : ∃ Y : Int, (y : Int) = Y := ⟨_, rfl⟩
  rw [hY] at q3 q4'
  clear hY
  have k0 : (0 : Int) ≤ (k : Int) := by omega
  have k1 : (k : Int) < 64 := by omega
  clear hy h0 h1 y
  have q8 : T % 8 % 8 = T % 8 := Nat.mod_mod _ _
  have HT := Lib.hid (show T % 8 < 8 from Nat.mod_lt _ (by omega))
  clear hT
  generalize k % 8 = s at *
  refine ⟨fun hs w => ?_, fun hs w => ?_⟩
  · subst hs
    go_enter Try.func19, Try.ntmps19
    go_upto_region 4 with fail
    rw [if_pos (show IntKind.i64.signed = true from rfl), q3, q4']
    go_wp2_with fail
    refine (LN.out _).mono ?_
    rintro e w2 ⟨rfl, rfl⟩
    go_wp2_with fail
    go_ret2
    exact ⟨rfl, Fr.refl _ _⟩
  · have hb : ((s : Int) == 7) = false := by simp; omega
    have HS := Lib.hid hs
    have s0 : (0 : Int) ≤ (s : Int) := by omega
    have s1 : (s : Int) < 8 := by omega
    obtain ⟨p, hp⟩ : ∃ p : Nat, 2 ^ (s + 1) = p := ⟨_, rfl⟩
    have p1 : p ≤ 2 ^ 63 := by rw [← hp]; exact Nat.pow_le_pow_right (by omega) (by omega)
    have p0 : 0 < p := by rw [← hp]; exact Nat.two_pow_pos _
    have e1 : IntKind.u64.wrap (2 * 2 ^ s) = (p : Int) := by
      have e : (2 : Int) * 2 ^ s = (p : Int) := by rw [← hp, ← powN, pw]
      rw [e, IntKind.wrap_u64]; omega
    have e2 : IntKind.u64.wrap ((p : Int) - 1) = ((p - 1 : Nat) : Int) := by rw [IntKind.wrap_u64]; omega
    have hx : p - 1 < 2 ^ 8 := by
      have : p ≤ 2 ^ 8 := by rw [← hp]; exact Nat.pow_le_pow_right (by omega) (by omega)
      omega
    have rr := (fun w => ror_ok ((p - 1 : Nat) : Int) (T % 8) 8 w (by omega) (by have : (2 : Nat) ^ 8 ≤ 2 ^ 64 := Nat.pow_le_pow_right (by omega) (by omega); omega) (by omega) (by omega) (by rw [powN]; omega))
    rw [rorV_nat, q8] at rr
    have hR := rorN_lt (p - 1) (T % 8) 8 HT.out hx
    have hmk : mkN 8 s (T % 8) = rep (rorN (p - 1) (T % 8) 8) 8 64 := by unfold mkN; rw [hp]
    rw [hmk]
    clear hmk
    generalize rorN (p - 1) (T % 8) 8 = R at *
    have hself := rep_self _ _ hR
    have HSELF := Lib.hid hself
    have RR := Lib.hid rr
    clear hself hR rr
    clear hp hx hs p0 p1
    go_enter Try.func19, Try.ntmps19
    go_upto_region 4 with fail
    rw [if_pos (show IntKind.i64.signed = true from rfl), q3, q4']
    go_wp2_with fail
    refine (LN.out _).mono ?_
    rintro e w2 ⟨rfl, rfl⟩
    go_wp2_with fail
    refine (RR.out _).mono ?_
    rintro e w2 ⟨rfl, f2⟩
    have F2 := Lib.hid f2
    clear f2 RR LN
    go_wp2_with fail
    go_loopw [11, 13] (fun o i wr => ∃ v : Nat, i = .int .i64 (v : Int) ∧ o = .int .u64 (rep R 8 v : Int) ∧ (v = 8 ∨ v = 16 ∨ v = 32 ∨ v = 64) ∧ Fr Nil w wr) (fun _ i _ => 100 - (intOf i).toNat)
    case atStart => exact ⟨8, rfl, by rw [HSELF.out], by simp, F2.out⟩
    case round =>
      obtain ⟨v, rfl, rfl, hv, fr⟩ := hrel
      have FR := Lib.hid fr
      clear fr
      by_cases hv64 : v = 64
      · subst hv64
        clear hv
        go_wp2_with fail
        go_ret2
        exact ⟨rfl, FR.out⟩
      · have hd : 8 ∣ v := by rcases hv with h | h | h | h <;> omega
        have hv2 : v ≤ 32 := by omega
        have hor := rep_or R 8 v hd (by omega)
        have HV := Lib.hid (show (v + v = 8 ∨ v + v = 16 ∨ v + v = 32 ∨ v + v = 64) by omega)
        have HV2 := Lib.hid (show 1 ≤ v ∧ v ≤ 32 by omega)
        have v0 : (0 : Int) ≤ (v : Int) := by omega
        have v1 : (v : Int) < 64 := by omega
        clear hd hv hv64 hv2
        generalize rep R 8 v = X at *
        generalize hX2 : rep R 8 (v + v) = X2 at *
        have HX2 := Lib.hid hX2
        clear hX2
        go_wp2_with fail
        go_roundw
        case rel => exact ⟨v + v, by simp <;> omega, by rw [HX2.out], HV.out, FR.out⟩
        case measure => have := HV2.out; simp [intOf]; omega
set_option maxHeartbeats 4000000 in
theorem msk_4 (T k : Nat) (hT : T < 64) (h0 : 56 ≤ k) (h1 : k ≤ 59) : ((k % 4 = 4 - 1) → MskC 0 (T : Int) (k : Int) 0 2) ∧ (k % 4 < 4 - 1 → MskC 0 (T : Int) (k : Int) (mkN 4 (k % 4) (T % 4) : Int) 0) := by
  have q1 := or63 T hT
  have q2 := or63 k (by omega)
  have q3 := key0 k (by omega)
  have q5 := (and_sz k (by omega)).2.1
  have q6 := (and_sz T hT).2.1
  have q7 : bits .or .i64 0 1 = 1 := by decide
  obtain ⟨y, hy⟩ : ∃ y : Nat, y = 63 - k := ⟨_, rfl⟩
  have q4 : bits .or .i64 0 ((y : Nat) : Int) = (y : Int) := or0 y (by omega)
  obtain ⟨K, hK⟩ : ∃ K : Int, (y : Int) = K := ⟨_, rfl⟩
  have LN := Lib.hid (lenb_3 K (by omega) (by omega))
  have y2 : 2 ≤ K := by omega
  have y3 : K ≤ 127 := by omega
  rw [← hy] at q3
  have q4' : bits .or .i64 0 ((y : Nat) : Int) = K := q4.trans hK
  clear q4 hK
  obtain ⟨Y, hY⟩ : ∃ Y : Int, (y : Int) = Y := ⟨_, rfl⟩
  rw [hY] at q3 q4'
  clear hY
  have k0 : (0 : Int) ≤ (k : Int) := by omega
  have k1 : (k : Int) < 64 := by omega
  clear hy h0 h1 y
  have q8 : T % 4 % 4 = T % 4 := Nat.mod_mod _ _
  have HT := Lib.hid (show T % 4 < 4 from Nat.mod_lt _ (by omega))
  clear hT
  generalize k % 4 = s at *
  refine ⟨fun hs w => ?_, fun hs w => ?_⟩
  · subst hs
    go_enter Try.func19, Try.ntmps19
    go_upto_region 4 with fail
    rw [if_pos (show IntKind.i64.signed = true from rfl), q3, q4']
    go_wp2_with fail
    refine (LN.out _).mono ?_
    rintro e w2 ⟨rfl, rfl⟩
    go_wp2_with fail
    go_ret2
    exact ⟨rfl, Fr.refl _ _⟩
  · have hb : ((s : Int) == 3) = false := by simp; omega
    have HS := Lib.hid hs
    have s0 : (0 : Int) ≤ (s : Int) := by omega
    have s1 : (s : Int) < 4 := by omega
    obtain ⟨p, hp⟩ : ∃ p : Nat, 2 ^ (s + 1) = p := ⟨_, rfl⟩
    have p1 : p ≤ 2 ^ 63 := by rw [← hp]; exact Nat.pow_le_pow_right (by omega) (by omega)
    have p0 : 0 < p := by rw [← hp]; exact Nat.two_pow_pos _
    have e1 : IntKind.u64.wrap (2 * 2 ^ s) = (p : Int) := by
      have e : (2 : Int) * 2 ^ s = (p : Int) := by rw [← hp, ← powN, pw]
      rw [e, IntKind.wrap_u64]; omega
    have e2 : IntKind.u64.wrap ((p : Int) - 1) = ((p - 1 : Nat) : Int) := by rw [IntKind.wrap_u64]; omega
    have hx : p - 1 < 2 ^ 4 := by
      have : p ≤ 2 ^ 4 := by rw [← hp]; exact Nat.pow_le_pow_right (by omega) (by omega)
      omega
    have rr := (fun w => ror_ok ((p - 1 : Nat) : Int) (T % 4) 4 w (by omega) (by have : (2 : Nat) ^ 4 ≤ 2 ^ 64 := Nat.pow_le_pow_right (by omega) (by omega); omega) (by omega) (by omega) (by rw [powN]; omega))
    rw [rorV_nat, q8] at rr
    have hR := rorN_lt (p - 1) (T % 4) 4 HT.out hx
    have hmk : mkN 4 s (T % 4) = rep (rorN (p - 1) (T % 4) 4) 4 64 := by unfold mkN; rw [hp]
    rw [hmk]
    clear hmk
    generalize rorN (p - 1) (T % 4) 4 = R at *
    have hself := rep_self _ _ hR
    have HSELF := Lib.hid hself
    have RR := Lib.hid rr
    clear hself hR rr
    clear hp hx hs p0 p1
    go_enter Try.func19, Try.ntmps19
    go_upto_region 4 with fail
    rw [if_pos (show IntKind.i64.signed = true from rfl), q3, q4']
    go_wp2_with fail
    refine (LN.out _).mono ?_
    rintro e w2 ⟨rfl, rfl⟩
    go_wp2_with fail
    refine (RR.out _).mono ?_
    rintro e w2 ⟨rfl, f2⟩
    have F2 := Lib.hid f2
    clear f2 RR LN
    go_wp2_with fail
    go_loopw [11, 13] (fun o i wr => ∃ v : Nat, i = .int .i64 (v : Int) ∧ o = .int .u64 (rep R 4 v : Int) ∧ (v = 4 ∨ v = 8 ∨ v = 16 ∨ v = 32 ∨ v = 64) ∧ Fr Nil w wr) (fun _ i _ => 100 - (intOf i).toNat)
    case atStart => exact ⟨4, rfl, by rw [HSELF.out], by simp, F2.out⟩
    case round =>
      obtain ⟨v, rfl, rfl, hv, fr⟩ := hrel
      have FR := Lib.hid fr
      clear fr
      by_cases hv64 : v = 64
      · subst hv64
        clear hv
        go_wp2_with fail
        go_ret2
        exact ⟨rfl, FR.out⟩
      · have hd : 4 ∣ v := by rcases hv with h | h | h | h | h <;> omega
        have hv2 : v ≤ 32 := by omega
        have hor := rep_or R 4 v hd (by omega)
        have HV := Lib.hid (show (v + v = 4 ∨ v + v = 8 ∨ v + v = 16 ∨ v + v = 32 ∨ v + v = 64) by omega)
        have HV2 := Lib.hid (show 1 ≤ v ∧ v ≤ 32 by omega)
        have v0 : (0 : Int) ≤ (v : Int) := by omega
        have v1 : (v : Int) < 64 := by omega
        clear hd hv hv64 hv2
        generalize rep R 4 v = X at *
        generalize hX2 : rep R 4 (v + v) = X2 at *
        have HX2 := Lib.hid hX2
        clear hX2
        go_wp2_with fail
        go_roundw
        case rel => exact ⟨v + v, by simp <;> omega, by rw [HX2.out], HV.out, FR.out⟩
        case measure => have := HV2.out; simp [intOf]; omega
set_option maxHeartbeats 4000000 in
theorem msk_2 (T k : Nat) (hT : T < 64) (h0 : 60 ≤ k) (h1 : k ≤ 61) : ((k % 2 = 2 - 1) → MskC 0 (T : Int) (k : Int) 0 2) ∧ (k % 2 < 2 - 1 → MskC 0 (T : Int) (k : Int) (mkN 2 (k % 2) (T % 2) : Int) 0) := by
  have q1 := or63 T hT
  have q2 := or63 k (by omega)
  have q3 := key0 k (by omega)
  have q5 := (and_sz k (by omega)).1
  have q6 := (and_sz T hT).1
  have q7 : bits .or .i64 0 1 = 1 := by decide
  obtain ⟨y, hy⟩ : ∃ y : Nat, y = 63 - k := ⟨_, rfl⟩
  have q4 : bits .or .i64 0 ((y : Nat) : Int) = (y : Int) := or0 y (by omega)
  obtain ⟨K, hK⟩ : ∃ K : Int, (y : Int) = K := ⟨_, rfl⟩
  have LN := Lib.hid (lenb_2 K (by omega) (by omega))
  have y2 : 2 ≤ K := by omega
  have y3 : K ≤ 127 := by omega
  rw [← hy] at q3
  have q4' : bits .or .i64 0 ((y : Nat) : Int) = K := q4.trans hK
  clear q4 hK
  obtain ⟨Y, hY⟩ : ∃ Y : Int, (y : Int) = Y := ⟨_, rfl⟩
  rw [hY] at q3 q4'
  clear hY
  have k0 : (0 : Int) ≤ (k : Int) := by omega
  have k1 : (k : Int) < 64 := by omega
  clear hy h0 h1 y
  have q8 : T % 2 % 2 = T % 2 := Nat.mod_mod _ _
  have HT := Lib.hid (show T % 2 < 2 from Nat.mod_lt _ (by omega))
  clear hT
  generalize k % 2 = s at *
  refine ⟨fun hs w => ?_, fun hs w => ?_⟩
  · subst hs
    go_enter Try.func19, Try.ntmps19
    go_upto_region 4 with fail
    rw [if_pos (show IntKind.i64.signed = true from rfl), q3, q4']
    go_wp2_with fail
    refine (LN.out _).mono ?_
    rintro e w2 ⟨rfl, rfl⟩
    go_wp2_with fail
    go_ret2
    exact ⟨rfl, Fr.refl _ _⟩
  · have hb : ((s : Int) == 1) = false := by simp; omega
    have HS := Lib.hid hs
    have s0 : (0 : Int) ≤ (s : Int) := by omega
    have s1 : (s : Int) < 2 := by omega
    obtain ⟨p, hp⟩ : ∃ p : Nat, 2 ^ (s + 1) = p := ⟨_, rfl⟩
    have p1 : p ≤ 2 ^ 63 := by rw [← hp]; exact Nat.pow_le_pow_right (by omega) (by omega)
    have p0 : 0 < p := by rw [← hp]; exact Nat.two_pow_pos _
    have e1 : IntKind.u64.wrap (2 * 2 ^ s) = (p : Int) := by
      have e : (2 : Int) * 2 ^ s = (p : Int) := by rw [← hp, ← powN, pw]
      rw [e, IntKind.wrap_u64]; omega
    have e2 : IntKind.u64.wrap ((p : Int) - 1) = ((p - 1 : Nat) : Int) := by rw [IntKind.wrap_u64]; omega
    have hx : p - 1 < 2 ^ 2 := by
      have : p ≤ 2 ^ 2 := by rw [← hp]; exact Nat.pow_le_pow_right (by omega) (by omega)
      omega
    have rr := (fun w => ror_ok ((p - 1 : Nat) : Int) (T % 2) 2 w (by omega) (by have : (2 : Nat) ^ 2 ≤ 2 ^ 64 := Nat.pow_le_pow_right (by omega) (by omega); omega) (by omega) (by omega) (by rw [powN]; omega))
    rw [rorV_nat, q8] at rr
    have hR := rorN_lt (p - 1) (T % 2) 2 HT.out hx
    have hmk : mkN 2 s (T % 2) = rep (rorN (p - 1) (T % 2) 2) 2 64 := by unfold mkN; rw [hp]
    rw [hmk]
    clear hmk
    generalize rorN (p - 1) (T % 2) 2 = R at *
    have hself := rep_self _ _ hR
    have HSELF := Lib.hid hself
    have RR := Lib.hid rr
    clear hself hR rr
    clear hp hx hs p0 p1
    go_enter Try.func19, Try.ntmps19
    go_upto_region 4 with fail
    rw [if_pos (show IntKind.i64.signed = true from rfl), q3, q4']
    go_wp2_with fail
    refine (LN.out _).mono ?_
    rintro e w2 ⟨rfl, rfl⟩
    go_wp2_with fail
    refine (RR.out _).mono ?_
    rintro e w2 ⟨rfl, f2⟩
    have F2 := Lib.hid f2
    clear f2 RR LN
    go_wp2_with fail
    go_loopw [11, 13] (fun o i wr => ∃ v : Nat, i = .int .i64 (v : Int) ∧ o = .int .u64 (rep R 2 v : Int) ∧ (v = 2 ∨ v = 4 ∨ v = 8 ∨ v = 16 ∨ v = 32 ∨ v = 64) ∧ Fr Nil w wr) (fun _ i _ => 100 - (intOf i).toNat)
    case atStart => exact ⟨2, rfl, by rw [HSELF.out], by simp, F2.out⟩
    case round =>
      obtain ⟨v, rfl, rfl, hv, fr⟩ := hrel
      have FR := Lib.hid fr
      clear fr
      by_cases hv64 : v = 64
      · subst hv64
        clear hv
        go_wp2_with fail
        go_ret2
        exact ⟨rfl, FR.out⟩
      · have hd : 2 ∣ v := by rcases hv with h | h | h | h | h | h <;> omega
        have hv2 : v ≤ 32 := by omega
        have hor := rep_or R 2 v hd (by omega)
        have HV := Lib.hid (show (v + v = 2 ∨ v + v = 4 ∨ v + v = 8 ∨ v + v = 16 ∨ v + v = 32 ∨ v + v = 64) by omega)
        have HV2 := Lib.hid (show 1 ≤ v ∧ v ≤ 32 by omega)
        have v0 : (0 : Int) ≤ (v : Int) := by omega
        have v1 : (v : Int) < 64 := by omega
        clear hd hv hv64 hv2
        generalize rep R 2 v = X at *
        generalize hX2 : rep R 2 (v + v) = X2 at *
        have HX2 := Lib.hid hX2
        clear hX2
        go_wp2_with fail
        go_roundw
        case rel => exact ⟨v + v, by simp <;> omega, by rw [HX2.out], HV.out, FR.out⟩
        case measure => have := HV2.out; simp [intOf]; omega
set_option maxHeartbeats 4000000 in
theorem msk_64 (T k : Nat) (hT : T < 64) (h0 : 0 ≤ k) (h1 : k ≤ 63) : ((k % 64 = 64 - 1) → MskC 1 (T : Int) (k : Int) 0 2) ∧ (k % 64 < 64 - 1 → MskC 1 (T : Int) (k : Int) (mkN 64 (k % 64) (T % 64) : Int) 0) := by
  have q1 := or63 T hT
  have q2 := or63 k (by omega)
  have q3 := key0 k (by omega)
  have q5 := (and_sz k (by omega)).2.2.2.2.2
  have q6 := (and_sz T hT).2.2.2.2.2
  have q7 : bits .or .i64 1 1 = 1 := by decide
  obtain ⟨y, hy⟩ : ∃ y : Nat, y = 63 - k := ⟨_, rfl⟩
  have q4 : bits .or .i64 64 ((y : Nat) : Int) = 64 + (y : Int) := or64 y (by omega)
  obtain ⟨K, hK⟩ : ∃ K : Int, 64 + (y : Int) = K := ⟨_, rfl⟩
  have LN := Lib.hid (lenb_7 K (by omega) (by omega))
  have y2 : 2 ≤ K := by omega
  have y3 : K ≤ 127 := by omega
  rw [← hy] at q3
  have q4' : bits .or .i64 64 ((y : Nat) : Int) = K := q4.trans hK
  clear q4 hK
  obtain ⟨Y, hY⟩ : ∃ Y : Int, (y : Int) = Y := ⟨_, rfl⟩
  rw [hY] at q3 q4'
  clear hY
  have k0 : (0 : Int) ≤ (k : Int) := by omega
  have k1 : (k : Int) < 64 := by omega
  clear hy h0 h1 y
  have q8 : T % 64 % 64 = T % 64 := Nat.mod_mod _ _
  have HT := Lib.hid (show T % 64 < 64 from Nat.mod_lt _ (by omega))
  clear hT
  generalize k % 64 = s at *
  refine ⟨fun hs w => ?_, fun hs w => ?_⟩
  · subst hs
    go_enter Try.func19, Try.ntmps19
    go_upto_region 4 with fail
    rw [if_pos (show IntKind.i64.signed = true from rfl), q3, q4']
    go_wp2_with fail
    refine (LN.out _).mono ?_
    rintro e w2 ⟨rfl, rfl⟩
    go_wp2_with fail
    go_ret2
    exact ⟨rfl, Fr.refl _ _⟩
  · have hb : ((s : Int) == 63) = false := by simp; omega
    have HS := Lib.hid hs
    have s0 : (0 : Int) ≤ (s : Int) := by omega
    have s1 : (s : Int) < 64 := by omega
    obtain ⟨p, hp⟩ : ∃ p : Nat, 2 ^ (s + 1) = p := ⟨_, rfl⟩
    have p1 : p ≤ 2 ^ 63 := by rw [← hp]; exact Nat.pow_le_pow_right (by omega) (by omega)
    have p0 : 0 < p := by rw [← hp]; exact Nat.two_pow_pos _
    have e1 : IntKind.u64.wrap (2 * 2 ^ s) = (p : Int) := by
      have e : (2 : Int) * 2 ^ s = (p : Int) := by rw [← hp, ← powN, pw]
      rw [e, IntKind.wrap_u64]; omega
    have e2 : IntKind.u64.wrap ((p : Int) - 1) = ((p - 1 : Nat) : Int) := by rw [IntKind.wrap_u64]; omega
    have hx : p - 1 < 2 ^ 64 := by
      have : p ≤ 2 ^ 64 := by rw [← hp]; exact Nat.pow_le_pow_right (by omega) (by omega)
      omega
    have rr := (fun w => ror_ok ((p - 1 : Nat) : Int) (T % 64) 64 w (by omega) (by have : (2 : Nat) ^ 64 ≤ 2 ^ 64 := Nat.pow_le_pow_right (by omega) (by omega); omega) (by omega) (by omega) (by rw [powN]; omega))
    rw [rorV_nat, q8] at rr
    have hR := rorN_lt (p - 1) (T % 64) 64 HT.out hx
    have hmk : mkN 64 s (T % 64) = rep (rorN (p - 1) (T % 64) 64) 64 64 := by unfold mkN; rw [hp]
    rw [hmk]
    clear hmk
    generalize rorN (p - 1) (T % 64) 64 = R at *
    have hself := rep_self _ _ hR
    have HSELF := Lib.hid hself
    have RR := Lib.hid rr
    clear hself hR rr
    clear hp hx hs p0 p1
    go_enter Try.func19, Try.ntmps19
    go_upto_region 4 with fail
    rw [if_pos (show IntKind.i64.signed = true from rfl), q3, q4']
    go_wp2_with fail
    refine (LN.out _).mono ?_
    rintro e w2 ⟨rfl, rfl⟩
    go_wp2_with fail
    refine (RR.out _).mono ?_
    rintro e w2 ⟨rfl, f2⟩
    have F2 := Lib.hid f2
    clear f2 RR LN
    go_wp2_with fail
    go_loopw [11, 13] (fun o i wr => ∃ v : Nat, i = .int .i64 (v : Int) ∧ o = .int .u64 (rep R 64 v : Int) ∧ (v = 64) ∧ Fr Nil w wr) (fun _ i _ => 100 - (intOf i).toNat)
    case atStart => exact ⟨64, rfl, by rw [HSELF.out], by simp, F2.out⟩
    case round =>
      obtain ⟨v, rfl, rfl, hv, fr⟩ := hrel
      have FR := Lib.hid fr
      clear fr
      by_cases hv64 : v = 64
      · subst hv64
        clear hv
        go_wp2_with fail
        go_ret2
        exact ⟨rfl, FR.out⟩
      · have hd : 64 ∣ v := by rcases hv with h <;> omega
        have hv2 : v ≤ 32 := by omega
        have hor := rep_or R 64 v hd (by omega)
        have HV := Lib.hid (show (v + v = 64) by omega)
        have HV2 := Lib.hid (show 1 ≤ v ∧ v ≤ 32 by omega)
        have v0 : (0 : Int) ≤ (v : Int) := by omega
        have v1 : (v : Int) < 64 := by omega
        clear hd hv hv64 hv2
        generalize rep R 64 v = X at *
        generalize hX2 : rep R 64 (v + v) = X2 at *
        have HX2 := Lib.hid hX2
        clear hX2
        go_wp2_with fail
        go_roundw
        case rel => exact ⟨v + v, by simp <;> omega, by rw [HX2.out], HV.out, FR.out⟩
        case measure => have := HV2.out; simp [intOf]; omega
set_option maxHeartbeats 2000000 in
theorem msk_0 (T k : Nat) (hT : T < 64) (h0 : 62 ≤ k) (h1 : k ≤ 63) : MskC 0 (T : Int) (k : Int) 0 2 := by
  intro w
  have q1 := or63 T hT
  have q2 := or63 k (by omega)
  have q3 := key0 k (by omega)
  have q7 : bits .or .i64 0 1 = 1 := by decide
  obtain ⟨y, hy⟩ : ∃ y : Nat, y = 63 - k := ⟨_, rfl⟩
  have q4 : bits .or .i64 0 ((y : Nat) : Int) = (y : Int) := or0 y (by omega)
  rw [← hy] at q3
  obtain ⟨Y, hY⟩ : ∃ Y : Int, (y : Int) = Y := ⟨_, rfl⟩
  have y2 : Y < 2 := by omega
  rw [hY] at q3 q4
  clear hY
  clear hy h0 h1 hT y
  go_enter Try.func19, Try.ntmps19
  go_upto_region 4 with fail
  rw [if_pos (show IntKind.i64.signed = true from rfl), q3, q4]
  go_wp2_with fail
  go_ret2
  exact ⟨rfl, Fr.refl _ _⟩
end Go.Proofs.Ythmlkealefboaaa
