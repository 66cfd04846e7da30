/- The walk of the reference's Field, and of AluMoves. -/
import Derived.Test.YtbhpakjflcmnoaaRField
namespace Go.Proofs.Ytbhpakjflcmnoaa
open Go.RowKit
set_option linter.unusedVariables false

theorem ones_start (M b : Int) (lo : Nat) : ones M b lo lo = M := by
  unfold ones
  rw [Int.sub_self, Int.mul_zero, Int.add_zero]
set_option maxHeartbeats 4000000 in
theorem rfield_lo_false (v : Int) (r i : Nat) (w : World) (hr : r < 64) (hi : i < 64) (hlt : i < r) (v0 : 0 ≤ v) (v1 : v ≤ 18446744073709551615) :
    Calls Try.prog 18 #[.int .u64 v, .bool false, .int .i64 (r : Int), .int .i64 (i : Int)] w fun e w' => e = .returned (.tuple #[.int .u64 (piece v 0 (64 - r) (i + 1)), .bool true]) ∧ w = w' := by
  have r0 : (0 : Int) ≤ (r : Int) := by omega
  have r1 : (r : Int) ≤ 63 := by omega
  have i0 : (0 : Int) ≤ (i : Int) := by omega
  have i1 : (i : Int) ≤ 63 := by omega
  have hb : v / 2 ^ i % 2 = 0 ∨ v / 2 ^ i % 2 = 1 := by omega
  have hxi := shr_rng v i v0 v1
  have hl : (i : Int) < (r : Int) := by omega
  obtain ⟨t, ht⟩ : ∃ t, t = 64 - r := ⟨_, rfl⟩
  rw [← ht]
  have et : (64 : Int) - (r : Int) = (t : Int) := by omega
  obtain ⟨tp, htp⟩ : ∃ tp, tp = t + i := ⟨_, rfl⟩
  have etp : (t : Int) + (i : Int) = (tp : Int) := by omega
  have htl : tp < 64 := by omega
  have HTP := Lib.hid htp
  obtain ⟨m0, m1⟩ := piece_rng v 0 t (i + 1)
  have hlo : t + (i + 1) = tp + 1 := by omega
  rw [hlo] at m1
  clear ht htp
  go_enter Try.func18, Try.ntmps18
  go_wp2_with fail
  go_loop [12, 13] (fun o kk => ∃ k : Nat, 0 ≤ k ∧ k ≤ i + 1 ∧ kk = .int .i64 (k : Int) ∧ o = .int .u64 (piece v 0 t (k - 0))) (fun _ kk => 65 - (intOf kk).toNat)
  case atStart => exact ⟨0, by omega, by omega, rfl, by rw [Nat.sub_self]; unfold piece; simp⟩
  case round =>
    obtain ⟨k, hk0, hk1, rfl, rfl⟩ := hrel
    by_cases hc : k ≤ i
    · have hcl : (k : Int) ≤ (i : Int) := by omega
      have hdec : decide ((k : Int) ≤ (i : Int)) = true := by simpa using hcl
      have k0 : (0 : Int) ≤ (k : Int) := by omega
      have hx := shr_rng v k v0 v1
      obtain ⟨m, hm⟩ : ∃ m, m = t + (k - 0) := ⟨_, rfl⟩
      have em : (t : Int) + (k : Int) = (m : Int) := by omega
      have em2 : (t : Int) + (k : Int) - 0 = (m : Int) := by omega
      have m0' : (0 : Int) ≤ (m : Int) := by omega
      have m1' : (m : Int) < 64 := by omega
      have hor := or_piece v 0 t (k - 0) (by omega)
      have ek : 0 + (k - 0) = k := by omega
      have ek2 : k + 1 - 0 = k - 0 + 1 := by omega
      rw [ek, ← hm] at hor
      have Hor := Lib.hid hor
      clear hor hm
      go_wp2
      all_goals exact ⟨⟨k + 1, by omega, by omega, by simp, by rw [ek2, ← Hor.out]; try rfl⟩, by simp [intOf]; omega⟩
    · have he : k = i + 1 := by omega
      subst he
      have en : i + 1 - 0 = (i + 1) := by omega
      rw [en]
      have hcl : ¬ ((i + 1 : Nat) : Int) ≤ (i : Int) := by omega
      have hdec : decide (((i + 1 : Nat) : Int) ≤ (i : Int)) = false := by simpa using hcl
      have hM : piece v 0 t (i + 1) = piece v 0 t (i + 1) := rfl
      generalize hMM : piece v 0 t (i + 1) = M at *
      have HMM := Lib.hid hMM
      clear hMM hM en
      go_wp2_with fail
      go_loop [12, 15] (fun o kk => o = .int .u64 M ∧ kk = .int .i64 ((tp : Int) + 1)) (fun _ _ => 0)
      case atStart => exact ⟨rfl, rfl⟩
      case round =>
        obtain ⟨rfl, rfl⟩ := hrel
        go_wp2
        all_goals (go_ret2; exact ⟨by rw [HMM.out]; rfl, rfl⟩)
set_option maxHeartbeats 4000000 in
theorem rfield_lo_true (v : Int) (r i : Nat) (w : World) (hr : r < 64) (hi : i < 64) (hlt : i < r) (v0 : 0 ≤ v) (v1 : v ≤ 18446744073709551615) :
    Calls Try.prog 18 #[.int .u64 v, .bool true, .int .i64 (r : Int), .int .i64 (i : Int)] w fun e w' => e = .returned (.tuple #[.int .u64 (ones (piece v 0 (64 - r) (i + 1)) (v / 2 ^ i % 2) ((64 - r + i) + 1) 64), .bool true]) ∧ w = w' := by
  have r0 : (0 : Int) ≤ (r : Int) := by omega
  have r1 : (r : Int) ≤ 63 := by omega
  have i0 : (0 : Int) ≤ (i : Int) := by omega
  have i1 : (i : Int) ≤ 63 := by omega
  have hb : v / 2 ^ i % 2 = 0 ∨ v / 2 ^ i % 2 = 1 := by omega
  have hxi := shr_rng v i v0 v1
  have hl : (i : Int) < (r : Int) := by omega
  obtain ⟨t, ht⟩ : ∃ t, t = 64 - r := ⟨_, rfl⟩
  rw [← ht]
  have et : (64 : Int) - (r : Int) = (t : Int) := by omega
  obtain ⟨tp, htp⟩ : ∃ tp, tp = t + i := ⟨_, rfl⟩
  have etp : (t : Int) + (i : Int) = (tp : Int) := by omega
  have htl : tp < 64 := by omega
  have HTP := Lib.hid htp
  obtain ⟨m0, m1⟩ := piece_rng v 0 t (i + 1)
  have hlo : t + (i + 1) = tp + 1 := by omega
  rw [hlo] at m1
  clear ht htp
  go_enter Try.func18, Try.ntmps18
  go_wp2_with fail
  go_loop [12, 13] (fun o kk => ∃ k : Nat, 0 ≤ k ∧ k ≤ i + 1 ∧ kk = .int .i64 (k : Int) ∧ o = .int .u64 (piece v 0 t (k - 0))) (fun _ kk => 65 - (intOf kk).toNat)
  case atStart => exact ⟨0, by omega, by omega, rfl, by rw [Nat.sub_self]; unfold piece; simp⟩
  case round =>
    obtain ⟨k, hk0, hk1, rfl, rfl⟩ := hrel
    by_cases hc : k ≤ i
    · have hcl : (k : Int) ≤ (i : Int) := by omega
      have hdec : decide ((k : Int) ≤ (i : Int)) = true := by simpa using hcl
      have k0 : (0 : Int) ≤ (k : Int) := by omega
      have hx := shr_rng v k v0 v1
      obtain ⟨m, hm⟩ : ∃ m, m = t + (k - 0) := ⟨_, rfl⟩
      have em : (t : Int) + (k : Int) = (m : Int) := by omega
      have em2 : (t : Int) + (k : Int) - 0 = (m : Int) := by omega
      have m0' : (0 : Int) ≤ (m : Int) := by omega
      have m1' : (m : Int) < 64 := by omega
      have hor := or_piece v 0 t (k - 0) (by omega)
      have ek : 0 + (k - 0) = k := by omega
      have ek2 : k + 1 - 0 = k - 0 + 1 := by omega
      rw [ek, ← hm] at hor
      have Hor := Lib.hid hor
      clear hor hm
      go_wp2
      all_goals exact ⟨⟨k + 1, by omega, by omega, by simp, by rw [ek2, ← Hor.out]; try rfl⟩, by simp [intOf]; omega⟩
    · have he : k = i + 1 := by omega
      subst he
      have en : i + 1 - 0 = (i + 1) := by omega
      rw [en]
      have hcl : ¬ ((i + 1 : Nat) : Int) ≤ (i : Int) := by omega
      have hdec : decide (((i + 1 : Nat) : Int) ≤ (i : Int)) = false := by simpa using hcl
      have hM : piece v 0 t (i + 1) = piece v 0 t (i + 1) := rfl
      generalize hMM : piece v 0 t (i + 1) = M at *
      have HMM := Lib.hid hMM
      clear hMM hM en
      go_wp2_with fail
      go_loop [12, 15] (fun o kk => ∃ k : Nat, tp + 1 ≤ k ∧ k ≤ 64 ∧ kk = .int .i64 (k : Int) ∧ o = .int .u64 (ones M (v / 2 ^ i % 2) (tp + 1) k)) (fun _ kk => 64 - (intOf kk).toNat)
      case atStart => exact ⟨tp + 1, by omega, by omega, by simp, by rw [ones_start]⟩
      case round =>
        obtain ⟨k, hq0, hq1, rfl, rfl⟩ := hrel
        by_cases hq : k < 64
        · have hql : (k : Int) < 64 := by omega
          have hqd : decide ((k : Int) < 64) = true := by simpa using hql
          have k0 : (0 : Int) ≤ (k : Int) := by omega
          have hor := or_ones M (v / 2 ^ i % 2) (tp + 1) k hq0 hq m0 m1 hb
          have Hor := Lib.hid hor
          clear hor
          go_wp2
          all_goals exact ⟨⟨k + 1, by omega, by omega, by simp, by rw [← Hor.out]⟩, by simp [intOf]; omega⟩
        · have he : k = 64 := by omega
          subst he
          go_wp2
          all_goals (go_ret2; exact ⟨by rw [HMM.out, ← HTP.out]; rfl, rfl⟩)
set_option maxHeartbeats 4000000 in
theorem rfield_hi_false (v : Int) (r i : Nat) (w : World) (hr : r < 64) (hi : i < 64) (hge : r ≤ i) (v0 : 0 ≤ v) (v1 : v ≤ 18446744073709551615) :
    Calls Try.prog 18 #[.int .u64 v, .bool false, .int .i64 (r : Int), .int .i64 (i : Int)] w fun e w' => e = .returned (.tuple #[.int .u64 (piece v r 0 (i - r + 1)), .bool true]) ∧ w = w' := by
  have r0 : (0 : Int) ≤ (r : Int) := by omega
  have r1 : (r : Int) ≤ 63 := by omega
  have i0 : (0 : Int) ≤ (i : Int) := by omega
  have i1 : (i : Int) ≤ 63 := by omega
  have hb : v / 2 ^ i % 2 = 0 ∨ v / 2 ^ i % 2 = 1 := by omega
  have hxi := shr_rng v i v0 v1
  have hl : (r : Int) ≤ (i : Int) := by omega
  obtain ⟨tp, htp⟩ : ∃ tp, tp = i - r := ⟨_, rfl⟩
  have etp : (i : Int) - (r : Int) = (tp : Int) := by omega
  have htl : tp < 64 := by omega
  have HTP := Lib.hid htp
  obtain ⟨m0, m1⟩ := piece_rng v r 0 (i - r + 1)
  have hlo : 0 + (i - r + 1) = tp + 1 := by omega
  rw [hlo] at m1
  clear htp
  go_enter Try.func18, Try.ntmps18
  go_wp2_with fail
  go_loop [12, 13] (fun o kk => ∃ k : Nat, r ≤ k ∧ k ≤ i + 1 ∧ kk = .int .i64 (k : Int) ∧ o = .int .u64 (piece v r 0 (k - r))) (fun _ kk => 65 - (intOf kk).toNat)
  case atStart => exact ⟨r, by omega, by omega, rfl, by rw [Nat.sub_self]; unfold piece; simp⟩
  case round =>
    obtain ⟨k, hk0, hk1, rfl, rfl⟩ := hrel
    by_cases hc : k ≤ i
    · have hcl : (k : Int) ≤ (i : Int) := by omega
      have hdec : decide ((k : Int) ≤ (i : Int)) = true := by simpa using hcl
      have k0 : (0 : Int) ≤ (k : Int) := by omega
      have hx := shr_rng v k v0 v1
      obtain ⟨m, hm⟩ : ∃ m, m = 0 + (k - r) := ⟨_, rfl⟩
      have em : (k : Int) - (r : Int) = (m : Int) := by omega
      have em2 : 0 + (k : Int) - (r : Int) = (m : Int) := by omega
      have m0' : (0 : Int) ≤ (m : Int) := by omega
      have m1' : (m : Int) < 64 := by omega
      have hor := or_piece v r 0 (k - r) (by omega)
      have ek : r + (k - r) = k := by omega
      have ek2 : k + 1 - r = k - r + 1 := by omega
      rw [ek, ← hm] at hor
      have Hor := Lib.hid hor
      clear hor hm
      go_wp2
      all_goals exact ⟨⟨k + 1, by omega, by omega, by simp, by rw [ek2, ← Hor.out]; try rfl⟩, by simp [intOf]; omega⟩
    · have he : k = i + 1 := by omega
      subst he
      have en : i + 1 - r = (i - r + 1) := by omega
      rw [en]
      have hcl : ¬ ((i + 1 : Nat) : Int) ≤ (i : Int) := by omega
      have hdec : decide (((i + 1 : Nat) : Int) ≤ (i : Int)) = false := by simpa using hcl
      have hM : piece v r 0 (i - r + 1) = piece v r 0 (i - r + 1) := rfl
      generalize hMM : piece v r 0 (i - r + 1) = M at *
      have HMM := Lib.hid hMM
      clear hMM hM en
      go_wp2_with fail
      go_loop [12, 15] (fun o kk => o = .int .u64 M ∧ kk = .int .i64 ((tp : Int) + 1)) (fun _ _ => 0)
      case atStart => exact ⟨rfl, rfl⟩
      case round =>
        obtain ⟨rfl, rfl⟩ := hrel
        go_wp2
        all_goals (go_ret2; exact ⟨by rw [HMM.out]; rfl, rfl⟩)
set_option maxHeartbeats 4000000 in
theorem rfield_hi_true (v : Int) (r i : Nat) (w : World) (hr : r < 64) (hi : i < 64) (hge : r ≤ i) (v0 : 0 ≤ v) (v1 : v ≤ 18446744073709551615) :
    Calls Try.prog 18 #[.int .u64 v, .bool true, .int .i64 (r : Int), .int .i64 (i : Int)] w fun e w' => e = .returned (.tuple #[.int .u64 (ones (piece v r 0 (i - r + 1)) (v / 2 ^ i % 2) ((i - r) + 1) 64), .bool true]) ∧ w = w' := by
  have r0 : (0 : Int) ≤ (r : Int) := by omega
  have r1 : (r : Int) ≤ 63 := by omega
  have i0 : (0 : Int) ≤ (i : Int) := by omega
  have i1 : (i : Int) ≤ 63 := by omega
  have hb : v / 2 ^ i % 2 = 0 ∨ v / 2 ^ i % 2 = 1 := by omega
  have hxi := shr_rng v i v0 v1
  have hl : (r : Int) ≤ (i : Int) := by omega
  obtain ⟨tp, htp⟩ : ∃ tp, tp = i - r := ⟨_, rfl⟩
  have etp : (i : Int) - (r : Int) = (tp : Int) := by omega
  have htl : tp < 64 := by omega
  have HTP := Lib.hid htp
  obtain ⟨m0, m1⟩ := piece_rng v r 0 (i - r + 1)
  have hlo : 0 + (i - r + 1) = tp + 1 := by omega
  rw [hlo] at m1
  clear htp
  go_enter Try.func18, Try.ntmps18
  go_wp2_with fail
  go_loop [12, 13] (fun o kk => ∃ k : Nat, r ≤ k ∧ k ≤ i + 1 ∧ kk = .int .i64 (k : Int) ∧ o = .int .u64 (piece v r 0 (k - r))) (fun _ kk => 65 - (intOf kk).toNat)
  case atStart => exact ⟨r, by omega, by omega, rfl, by rw [Nat.sub_self]; unfold piece; simp⟩
  case round =>
    obtain ⟨k, hk0, hk1, rfl, rfl⟩ := hrel
    by_cases hc : k ≤ i
    · have hcl : (k : Int) ≤ (i : Int) := by omega
      have hdec : decide ((k : Int) ≤ (i : Int)) = true := by simpa using hcl
      have k0 : (0 : Int) ≤ (k : Int) := by omega
      have hx := shr_rng v k v0 v1
      obtain ⟨m, hm⟩ : ∃ m, m = 0 + (k - r) := ⟨_, rfl⟩
      have em : (k : Int) - (r : Int) = (m : Int) := by omega
      have em2 : 0 + (k : Int) - (r : Int) = (m : Int) := by omega
      have m0' : (0 : Int) ≤ (m : Int) := by omega
      have m1' : (m : Int) < 64 := by omega
      have hor := or_piece v r 0 (k - r) (by omega)
      have ek : r + (k - r) = k := by omega
      have ek2 : k + 1 - r = k - r + 1 := by omega
      rw [ek, ← hm] at hor
      have Hor := Lib.hid hor
      clear hor hm
      go_wp2
      all_goals exact ⟨⟨k + 1, by omega, by omega, by simp, by rw [ek2, ← Hor.out]; try rfl⟩, by simp [intOf]; omega⟩
    · have he : k = i + 1 := by omega
      subst he
      have en : i + 1 - r = (i - r + 1) := by omega
      rw [en]
      have hcl : ¬ ((i + 1 : Nat) : Int) ≤ (i : Int) := by omega
      have hdec : decide (((i + 1 : Nat) : Int) ≤ (i : Int)) = false := by simpa using hcl
      have hM : piece v r 0 (i - r + 1) = piece v r 0 (i - r + 1) := rfl
      generalize hMM : piece v r 0 (i - r + 1) = M at *
      have HMM := Lib.hid hMM
      clear hMM hM en
      go_wp2_with fail
      go_loop [12, 15] (fun o kk => ∃ k : Nat, tp + 1 ≤ k ∧ k ≤ 64 ∧ kk = .int .i64 (k : Int) ∧ o = .int .u64 (ones M (v / 2 ^ i % 2) (tp + 1) k)) (fun _ kk => 64 - (intOf kk).toNat)
      case atStart => exact ⟨tp + 1, by omega, by omega, by simp, by rw [ones_start]⟩
      case round =>
        obtain ⟨k, hq0, hq1, rfl, rfl⟩ := hrel
        by_cases hq : k < 64
        · have hql : (k : Int) < 64 := by omega
          have hqd : decide ((k : Int) < 64) = true := by simpa using hql
          have k0 : (0 : Int) ≤ (k : Int) := by omega
          have hor := or_ones M (v / 2 ^ i % 2) (tp + 1) k hq0 hq m0 m1 hb
          have Hor := Lib.hid hor
          clear hor
          go_wp2
          all_goals exact ⟨⟨k + 1, by omega, by omega, by simp, by rw [← Hor.out]⟩, by simp [intOf]; omega⟩
        · have he : k = 64 := by omega
          subst he
          go_wp2
          all_goals (go_ret2; exact ⟨by rw [HMM.out, ← HTP.out]; rfl, rfl⟩)
end Go.Proofs.Ytbhpakjflcmnoaa
