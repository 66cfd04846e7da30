/- The bus: registers of bits. -/
import Derived.Test.YtnmakbippgnekaaBl
set_option linter.unusedSimpArgs false
set_option linter.unusedVariables false
set_option linter.unusedSectionVars false
namespace Go.Proofs.Ytnmakbippgnekaa
open Go.RowKit
set_option maxRecDepth 100000

/-- The bits of those of which something is so. -/
def setN (P : Nat → Bool) : Nat → Nat
  | 0 => 0
  | k + 1 => if P k = true then setN P k + 2 ^ k else setN P k
theorem setN_lt (P : Nat → Bool) : ∀ k, setN P k < 2 ^ k
  | 0 => by simp [setN]
  | k + 1 => by
    have := setN_lt P k
    rw [Nat.pow_succ]
    unfold setN
    split <;> omega
theorem pow63 (k : Nat) (hk : k < 64) : (2 : Int) ^ k ≤ 9223372036854775808 := by
  rw [powN]
  have := Nat.pow_le_pow_right (show 0 < 2 by omega) (show k ≤ 63 by omega)
  omega
theorem setN_or (P : Nat → Bool) (k : Nat) (hk : k < 64) (h : P k = true) : bits .or .u64 (setN P k : Int) (IntKind.u64.wrap (2 ^ k)) = (setN P (k + 1) : Int) := by
  have h1 := setN_lt P k
  have h0 := pow63 k hk
  have h3 := pwp k
  have h2 := or_add (setN P k : Int) 1 k hk (by omega) (by rw [powN]; omega) (by omega) (by omega)
  rw [Int.one_mul] at h2
  have hw : IntKind.u64.wrap (2 ^ k) = 2 ^ k := by rw [IntKind.wrap_u64]; omega
  rw [hw, h2, powN]
  conv => rhs; unfold setN
  rw [if_pos h]
  omega
theorem setN_no (P : Nat → Bool) (k : Nat) (h : P k = false) : setN P (k + 1) = setN P k := by
  conv => lhs; unfold setN
  rw [if_neg (by rw [h]; simp)]

set_option maxHeartbeats 1000000 in
theorem bits65_ok {K : Nat → Prop} {bb gb tb : Nat} {B : BS} (P : Nat → Bool) (c : Int) (w : World) (h : Bk K w bb gb tb B)
    (hP : ∀ (id : Nat), id < 64 → Calls Try.prog 65 #[.pointer (some ⟨gb, 0, none⟩), .int .i64 c, .int .i64 (id : Int)] w fun e w' => e = .returned (.bool (P id)) ∧ w = w') :
    Calls Try.prog 64 #[.pointer (some ⟨bb, 0, none⟩), .int .i64 c, .func (.func 65) #[] #[]] w fun e w' => e = .returned (.int .u64 (setN P 64 : Int)) ∧ w = w' := by
  obtain ⟨c0, c1, c2⟩ := h.cells
  have HP := Lib.hid hP
  clear h hP
  go_enter Try.func64, Try.ntmps64
  go_wp2_with fail
  go_loopw [7, 9] (fun v i wr => ∃ k : Nat, k ≤ 64 ∧ v = .int .u64 (setN P k : Int) ∧ i = .int .i64 (k : Int) ∧ w = wr) (fun _ i _ => 64 - (intOf i).toNat)
  case atStart => exact ⟨0, Nat.zero_le _, rfl, rfl, rfl⟩
  case round =>
    obtain ⟨k, hk, rfl, rfl, rfl⟩ := hrel
    by_cases hlt : k < 64
    · have HJ := Lib.hid hlt
      have kn : (k : Int) < 64 := by omega
      have CP := Lib.hid (HP.out k hlt)
      cases hb : P k
      · have EN := Lib.hid (setN_no P k hb)
        rw [hb] at CP
        generalize setN P k = v0 at *
        clear hk hlt hb
        go_wp2_with fail
        refine CP.out.mono ?_
        rintro e w4 ⟨rfl, rfl⟩
        go_wp2_with fail
        go_roundw
        case rel => exact ⟨k + 1, HJ.out, by rw [EN.out], by go_num, trivial⟩
        case measure => have := HJ.out; simp [intOf]; omega
      · have EN := Lib.hid (setN_or P k hlt hb)
        rw [hb] at CP
        generalize (setN P k : Int) = v0 at *
        clear hk hlt hb
        go_wp2_with fail
        refine CP.out.mono ?_
        rintro e w4 ⟨rfl, rfl⟩
        go_wp2_with fail
        go_roundw
        case rel => exact ⟨k + 1, HJ.out, by rw [EN.out], by go_num, trivial⟩
        case measure => have := HJ.out; simp [intOf]; omega
    · obtain rfl : k = 64 := by omega
      clear hk hlt
      go_wp2_with fail
      go_ret
      exact ⟨rfl, rfl⟩
set_option maxHeartbeats 1000000 in
theorem bits21_ok {K : Nat → Prop} {bb gb tb : Nat} {B : BS} (P : Nat → Bool) (c : Int) (w : World) (h : Bk K w bb gb tb B)
    (hP : ∀ (id : Nat), id < 64 → Calls Try.prog 21 #[.pointer (some ⟨gb, 0, none⟩), .int .i64 c, .int .i64 (id : Int)] w fun e w' => e = .returned (.bool (P id)) ∧ w = w') :
    Calls Try.prog 64 #[.pointer (some ⟨bb, 0, none⟩), .int .i64 c, .func (.func 21) #[] #[]] w fun e w' => e = .returned (.int .u64 (setN P 64 : Int)) ∧ w = w' := by
  obtain ⟨c0, c1, c2⟩ := h.cells
  have HP := Lib.hid hP
  clear h hP
  go_enter Try.func64, Try.ntmps64
  go_wp2_with fail
  go_loopw [7, 9] (fun v i wr => ∃ k : Nat, k ≤ 64 ∧ v = .int .u64 (setN P k : Int) ∧ i = .int .i64 (k : Int) ∧ w = wr) (fun _ i _ => 64 - (intOf i).toNat)
  case atStart => exact ⟨0, Nat.zero_le _, rfl, rfl, rfl⟩
  case round =>
    obtain ⟨k, hk, rfl, rfl, rfl⟩ := hrel
    by_cases hlt : k < 64
    · have HJ := Lib.hid hlt
      have kn : (k : Int) < 64 := by omega
      have CP := Lib.hid (HP.out k hlt)
      cases hb : P k
      · have EN := Lib.hid (setN_no P k hb)
        rw [hb] at CP
        generalize setN P k = v0 at *
        clear hk hlt hb
        go_wp2_with fail
        refine CP.out.mono ?_
        rintro e w4 ⟨rfl, rfl⟩
        go_wp2_with fail
        go_roundw
        case rel => exact ⟨k + 1, HJ.out, by rw [EN.out], by go_num, trivial⟩
        case measure => have := HJ.out; simp [intOf]; omega
      · have EN := Lib.hid (setN_or P k hlt hb)
        rw [hb] at CP
        generalize (setN P k : Int) = v0 at *
        clear hk hlt hb
        go_wp2_with fail
        refine CP.out.mono ?_
        rintro e w4 ⟨rfl, rfl⟩
        go_wp2_with fail
        go_roundw
        case rel => exact ⟨k + 1, HJ.out, by rw [EN.out], by go_num, trivial⟩
        case measure => have := HJ.out; simp [intOf]; omega
    · obtain rfl : k = 64 := by omega
      clear hk hlt
      go_wp2_with fail
      go_ret
      exact ⟨rfl, rfl⟩
set_option maxHeartbeats 1000000 in
theorem bits69_ok {K : Nat → Prop} {bb gb tb : Nat} {B : BS} (P : Nat → Bool) (c : Int) (w : World) (h : Bk K w bb gb tb B)
    (hP : ∀ (id : Nat), id < 64 → Calls Try.prog 69 #[.pointer (some ⟨gb, 0, none⟩), .int .i64 c, .int .i64 (id : Int)] w fun e w' => e = .returned (.bool (P id)) ∧ w = w') :
    Calls Try.prog 64 #[.pointer (some ⟨bb, 0, none⟩), .int .i64 c, .func (.func 69) #[] #[]] w fun e w' => e = .returned (.int .u64 (setN P 64 : Int)) ∧ w = w' := by
  obtain ⟨c0, c1, c2⟩ := h.cells
  have HP := Lib.hid hP
  clear h hP
  go_enter Try.func64, Try.ntmps64
  go_wp2_with fail
  go_loopw [7, 9] (fun v i wr => ∃ k : Nat, k ≤ 64 ∧ v = .int .u64 (setN P k : Int) ∧ i = .int .i64 (k : Int) ∧ w = wr) (fun _ i _ => 64 - (intOf i).toNat)
  case atStart => exact ⟨0, Nat.zero_le _, rfl, rfl, rfl⟩
  case round =>
    obtain ⟨k, hk, rfl, rfl, rfl⟩ := hrel
    by_cases hlt : k < 64
    · have HJ := Lib.hid hlt
      have kn : (k : Int) < 64 := by omega
      have CP := Lib.hid (HP.out k hlt)
      cases hb : P k
      · have EN := Lib.hid (setN_no P k hb)
        rw [hb] at CP
        generalize setN P k = v0 at *
        clear hk hlt hb
        go_wp2_with fail
        refine CP.out.mono ?_
        rintro e w4 ⟨rfl, rfl⟩
        go_wp2_with fail
        go_roundw
        case rel => exact ⟨k + 1, HJ.out, by rw [EN.out], by go_num, trivial⟩
        case measure => have := HJ.out; simp [intOf]; omega
      · have EN := Lib.hid (setN_or P k hlt hb)
        rw [hb] at CP
        generalize (setN P k : Int) = v0 at *
        clear hk hlt hb
        go_wp2_with fail
        refine CP.out.mono ?_
        rintro e w4 ⟨rfl, rfl⟩
        go_wp2_with fail
        go_roundw
        case rel => exact ⟨k + 1, HJ.out, by rw [EN.out], by go_num, trivial⟩
        case measure => have := HJ.out; simp [intOf]; omega
    · obtain rfl : k = 64 := by omega
      clear hk hlt
      go_wp2_with fail
      go_ret
      exact ⟨rfl, rfl⟩
theorem bitI (v : Int) (k : Nat) (v0 : 0 ≤ v) (v1 : v ≤ 18446744073709551615) : bits .and .u64 (v / 2 ^ k) 1 = v / 2 ^ k % 2 := by
  obtain ⟨h0, h1⟩ := shr_rng v k v0 v1
  exact and_low (v / 2 ^ k) 1 (by omega) h0 h1
/-- Is a bit there? -/
def hasb (v : Int) (k : Nat) : Bool := v / 2 ^ k % 2 == 1
/-- What is done to all whose bits are there. -/
def allG (f : GS → Nat → GS) (v : Int) : Nat → GS → GS
  | 0, g => g
  | k + 1, g => if hasb v k = true then f (allG f v k g) k else allG f v k g
theorem allG_c (f : GS → Nat → GS) (hf : ∀ g k, (f g k).c = g.c) (v : Int) (g : GS) : ∀ k, (allG f v k g).c = g.c
  | 0 => rfl
  | k + 1 => by
    unfold allG
    split
    · exact (hf _ _).trans (allG_c f hf v g k)
    · exact allG_c f hf v g k
theorem enable_c (s : GS) (c id : Int) (v : Bool) : (s.enable c id v).c = s.c := setF_c _ _ _ _
set_option maxHeartbeats 1000000 in
theorem all67_ok {K : Nat → Prop} {bb gb tb : Nat} {B : BS} (c v : Int) (on : Bool) (w : World) (h : Bk K w bb gb tb B) (v0 : 0 ≤ v) (v1 : v ≤ 18446744073709551615) :
    Calls Try.prog 66 #[.pointer (some ⟨bb, 0, none⟩), .int .i64 c, .int .u64 v, .func (.func 67) #[] #[], .bool on] w (Bn K bb gb tb w { B with g := allG (fun g k => g.enable c (k : Int) on) v 64 B.g } (.tuple #[])) := by
  have H := Lib.hid h
  clear h
  go_enter Try.func66, Try.ntmps66
  go_wp2_with fail
  go_loopw [11] (fun i wr => ∃ k : Nat, k ≤ 64 ∧ i = .int .i64 (k : Int) ∧ Bk K wr bb gb tb { B with g := allG (fun g k => g.enable c (k : Int) on) v k B.g } ∧ Fr (Not K) w wr) (fun i _ => 64 - (intOf i).toNat)
  case atStart => exact ⟨0, Nat.zero_le _, rfl, H.out, Fr.refl _ _⟩
  case round =>
    obtain ⟨k, hk, rfl, hB, hf⟩ := hrel
    have HB := Lib.hid hB
    have HF := Lib.hid hf
    obtain ⟨c0, c1, c2⟩ := hB.cells
    clear hB hf
    by_cases hlt : k < 64
    · have HJ := Lib.hid hlt
      have kn : (k : Int) < 64 := by omega
      have BI := bitI v k v0 v1
      have HV := Lib.hid (And.intro v0 v1)
      obtain ⟨z, hz⟩ : ∃ z, v / 2 ^ k = z := ⟨_, rfl⟩
      have hbz : hasb v k = (z % 2 == 1) := by unfold hasb; rw [hz]
      rw [hz] at BI
      cases hb : (z % 2 == 1)
      · have EN := Lib.hid (show allG (fun g k => g.enable c (k : Int) on) v (k + 1) B.g = allG (fun g k => g.enable c (k : Int) on) v k B.g from by
          conv => lhs; unfold allG
          rw [if_neg (by rw [hbz, hb]; simp)])
        clear hk hlt hbz
        go_wp2_with fail
        go_roundw
        case rel => exact ⟨k + 1, HJ.out, by go_num, by rw [EN.out]; exact HB.out, HF.out⟩
        case measure => have := HJ.out; simp [intOf]; omega
      · have EN := Lib.hid (show allG (fun g k => g.enable c (k : Int) on) v (k + 1) B.g = (allG (fun g k => g.enable c (k : Int) on) v k B.g).enable c (k : Int) on from by
          conv => lhs; unfold allG
          rw [if_pos (by rw [hbz, hb])])
        clear hk hlt hbz
        go_wp2_with fail
        refine (HB.out.gic (fun K' hg => enable_ok K' gb _ c (k : Int) on wr hg) (enable_c _ _ _ _)).mono ?_
        rintro e w5 ⟨rfl, h5, f5⟩
        have H5 := Lib.hid h5
        have HF5 := Lib.hid (HF.out.trans f5)
        clear h5 f5 c0 c1 c2
        go_wp2_with fail
        go_roundw
        case rel => exact ⟨k + 1, HJ.out, by go_num, by rw [EN.out]; exact H5.out, HF5.out⟩
        case measure => have := HJ.out; simp [intOf]; omega
    · obtain rfl : k = 64 := by omega
      clear hk hlt
      go_wp2_with fail
      go_end0
      exact ⟨rfl, HB.out, HF.out⟩
theorem pend_c (s : GS) (c id : Int) (v : Bool) : (s.pend c id v).c = s.c := setF_c _ _ _ _
set_option maxHeartbeats 1000000 in
theorem all68_ok {K : Nat → Prop} {bb gb tb : Nat} {B : BS} (c v : Int) (on : Bool) (w : World) (h : Bk K w bb gb tb B) (v0 : 0 ≤ v) (v1 : v ≤ 18446744073709551615) :
    Calls Try.prog 66 #[.pointer (some ⟨bb, 0, none⟩), .int .i64 c, .int .u64 v, .func (.func 68) #[] #[], .bool on] w (Bn K bb gb tb w { B with g := allG (fun g k => g.pend c (k : Int) on) v 64 B.g } (.tuple #[])) := by
  have H := Lib.hid h
  clear h
  go_enter Try.func66, Try.ntmps66
  go_wp2_with fail
  go_loopw [11] (fun i wr => ∃ k : Nat, k ≤ 64 ∧ i = .int .i64 (k : Int) ∧ Bk K wr bb gb tb { B with g := allG (fun g k => g.pend c (k : Int) on) v k B.g } ∧ Fr (Not K) w wr) (fun i _ => 64 - (intOf i).toNat)
  case atStart => exact ⟨0, Nat.zero_le _, rfl, H.out, Fr.refl _ _⟩
  case round =>
    obtain ⟨k, hk, rfl, hB, hf⟩ := hrel
    have HB := Lib.hid hB
    have HF := Lib.hid hf
    obtain ⟨c0, c1, c2⟩ := hB.cells
    clear hB hf
    by_cases hlt : k < 64
    · have HJ := Lib.hid hlt
      have kn : (k : Int) < 64 := by omega
      have BI := bitI v k v0 v1
      have HV := Lib.hid (And.intro v0 v1)
      obtain ⟨z, hz⟩ : ∃ z, v / 2 ^ k = z := ⟨_, rfl⟩
      have hbz : hasb v k = (z % 2 == 1) := by unfold hasb; rw [hz]
      rw [hz] at BI
      cases hb : (z % 2 == 1)
      · have EN := Lib.hid (show allG (fun g k => g.pend c (k : Int) on) v (k + 1) B.g = allG (fun g k => g.pend c (k : Int) on) v k B.g from by
          conv => lhs; unfold allG
          rw [if_neg (by rw [hbz, hb]; simp)])
        clear hk hlt hbz
        go_wp2_with fail
        go_roundw
        case rel => exact ⟨k + 1, HJ.out, by go_num, by rw [EN.out]; exact HB.out, HF.out⟩
        case measure => have := HJ.out; simp [intOf]; omega
      · have EN := Lib.hid (show allG (fun g k => g.pend c (k : Int) on) v (k + 1) B.g = (allG (fun g k => g.pend c (k : Int) on) v k B.g).pend c (k : Int) on from by
          conv => lhs; unfold allG
          rw [if_pos (by rw [hbz, hb])])
        clear hk hlt hbz
        go_wp2_with fail
        refine (HB.out.gic (fun K' hg => pend_ok K' gb _ c (k : Int) on wr hg) (pend_c _ _ _ _)).mono ?_
        rintro e w5 ⟨rfl, h5, f5⟩
        have H5 := Lib.hid h5
        have HF5 := Lib.hid (HF.out.trans f5)
        clear h5 f5 c0 c1 c2
        go_wp2_with fail
        go_roundw
        case rel => exact ⟨k + 1, HJ.out, by go_num, by rw [EN.out]; exact H5.out, HF5.out⟩
        case measure => have := HJ.out; simp [intOf]; omega
    · obtain rfl : k = 64 := by omega
      clear hk hlt
      go_wp2_with fail
      go_end0
      exact ⟨rfl, HB.out, HF.out⟩
end Go.Proofs.Ytnmakbippgnekaa
