/- The walk of AluMoves. -/
import Derived.Test.YtbhpakjflcmnoaaRField2
namespace Go.Proofs.Ytbhpakjflcmnoaa
open Go.RowKit
set_option linter.unusedVariables false

theorem sh_nat (s : Nat) (h : s < 64) : sh (s : Int) = s := by unfold sh; omega
set_option maxHeartbeats 1000000 in
theorem rshift_0 (v : Int) (s : Nat) (w : World) (hlt : s < 64) (a0 : 0 ≤ v) (a1 : v ≤ 18446744073709551615) : Calls Try.prog 16 #[.int .u64 v, .int .i64 0, .int .i64 (s : Int)] w fun e w' => e = .returned (.tuple #[.int .u64 (shiftV 0 v s), .bool true]) ∧ w = w' := by
  have h := rreckon_9 v (s : Int) w a0 a1 (by omega) (by omega)
  have e : opV 9 v (s : Int) = shiftV 0 v s := by
    have := sh_nat s hlt
    unfold opV shiftV
    simp only [this]
  rw [e] at h
  have H := Lib.hid h
  clear h e
  generalize shiftV 0 v s = x at *
  have s0 : (0 : Int) ≤ (s : Int) := by omega
  have s1 : (s : Int) ≤ 63 := by omega
  go_enter Try.func16, Try.ntmps16
  go_wp2_with fail
  refine H.out.mono ?_
  rintro e w2 ⟨rfl, rfl⟩
  go_wp2_with fail
  go_ret2
  exact ⟨rfl, rfl⟩
set_option maxHeartbeats 1000000 in
theorem rshift_1 (v : Int) (s : Nat) (w : World) (hlt : s < 64) (a0 : 0 ≤ v) (a1 : v ≤ 18446744073709551615) : Calls Try.prog 16 #[.int .u64 v, .int .i64 1, .int .i64 (s : Int)] w fun e w' => e = .returned (.tuple #[.int .u64 (shiftV 1 v s), .bool true]) ∧ w = w' := by
  have h := rreckon_10 v (s : Int) w a0 a1 (by omega) (by omega)
  have e : opV 10 v (s : Int) = shiftV 1 v s := by
    have := sh_nat s hlt
    unfold opV shiftV
    simp only [this]
  rw [e] at h
  have H := Lib.hid h
  clear h e
  generalize shiftV 1 v s = x at *
  have s0 : (0 : Int) ≤ (s : Int) := by omega
  have s1 : (s : Int) ≤ 63 := by omega
  go_enter Try.func16, Try.ntmps16
  go_wp2_with fail
  refine H.out.mono ?_
  rintro e w2 ⟨rfl, rfl⟩
  go_wp2_with fail
  go_ret2
  exact ⟨rfl, rfl⟩
set_option maxHeartbeats 1000000 in
theorem rshift_2 (v : Int) (s : Nat) (w : World) (hlt : s < 64) (a0 : 0 ≤ v) (a1 : v ≤ 18446744073709551615) : Calls Try.prog 16 #[.int .u64 v, .int .i64 2, .int .i64 (s : Int)] w fun e w' => e = .returned (.tuple #[.int .u64 (shiftV 2 v s), .bool true]) ∧ w = w' := by
  have h := rreckon_11 v (s : Int) w a0 a1 (by omega) (by omega)
  have e : opV 11 v (s : Int) = shiftV 2 v s := by
    have := sh_nat s hlt
    unfold opV shiftV
    simp only [this]
  rw [e] at h
  have H := Lib.hid h
  clear h e
  generalize shiftV 2 v s = x at *
  have s0 : (0 : Int) ≤ (s : Int) := by omega
  have s1 : (s : Int) ≤ 63 := by omega
  go_enter Try.func16, Try.ntmps16
  go_wp2_with fail
  refine H.out.mono ?_
  rintro e w2 ⟨rfl, rfl⟩
  go_wp2_with fail
  go_ret2
  exact ⟨rfl, rfl⟩
set_option maxHeartbeats 1000000 in
theorem rshift_3 (v : Int) (s : Nat) (w : World) (hlt : s < 64) (a0 : 0 ≤ v) (a1 : v ≤ 18446744073709551615) : Calls Try.prog 16 #[.int .u64 v, .int .i64 3, .int .i64 (s : Int)] w fun e w' => e = .returned (.tuple #[.int .u64 (shiftV 3 v s), .bool true]) ∧ w = w' := by
  have h := rreckon_12 v (s : Int) w a0 a1 (by omega) (by omega)
  have e : opV 12 v (s : Int) = shiftV 3 v s := by
    have := sh_nat s hlt
    unfold opV shiftV
    simp only [this]
  rw [e] at h
  have H := Lib.hid h
  clear h e
  generalize shiftV 3 v s = x at *
  have s0 : (0 : Int) ≤ (s : Int) := by omega
  have s1 : (s : Int) ≤ 63 := by omega
  go_enter Try.func16, Try.ntmps16
  go_wp2_with fail
  refine H.out.mono ?_
  rintro e w2 ⟨rfl, rfl⟩
  go_wp2_with fail
  go_ret2
  exact ⟨rfl, rfl⟩
theorem rshift_bad (v k s : Int) (w : World) (h : k < 0 ∨ 3 < k ∨ s < 0 ∨ 63 < s) : Calls Try.prog 16 #[.int .u64 v, .int .i64 k, .int .i64 s] w fun e w' => e = .returned (.tuple #[.int .u64 0, .bool false]) ∧ w = w' := by
  by_cases h1 : k < 0
  · clear h
    go_enter Try.func16, Try.ntmps16
    go_wp2
    all_goals go_ret2
    all_goals exact ⟨by rfl, rfl⟩
  by_cases h2 : 3 < k
  · clear h
    have g1 : 0 ≤ k := by omega
    go_enter Try.func16, Try.ntmps16
    go_wp2
    all_goals go_ret2
    all_goals exact ⟨by rfl, rfl⟩
  by_cases h3 : s < 0
  · clear h
    have g1 : 0 ≤ k := by omega
    have g2 : k ≤ 3 := by omega
    go_enter Try.func16, Try.ntmps16
    go_wp2
    all_goals go_ret2
    all_goals exact ⟨by rfl, rfl⟩
  have h4 : 63 < s := by omega
  have g1 : 0 ≤ k := by omega
  have g2 : k ≤ 3 := by omega
  have g3 : 0 ≤ s := by omega
  clear h
  go_enter Try.func16, Try.ntmps16
  go_wp2
  all_goals go_ret2
  all_goals exact ⟨by rfl, rfl⟩
theorem rfield_bad (v : Int) (sg : Bool) (r s : Int) (w : World) (h : r < 0 ∨ 63 < r ∨ s < 0 ∨ 63 < s) : Calls Try.prog 18 #[.int .u64 v, .bool sg, .int .i64 r, .int .i64 s] w fun e w' => e = .returned (.tuple #[.int .u64 0, .bool false]) ∧ w = w' := by
  by_cases h1 : r < 0
  · clear h
    go_enter Try.func18, Try.ntmps18
    go_wp2
    all_goals go_ret2
    all_goals exact ⟨by rfl, rfl⟩
  by_cases h2 : 63 < r
  · clear h
    have g1 : 0 ≤ r := by omega
    go_enter Try.func18, Try.ntmps18
    go_wp2
    all_goals go_ret2
    all_goals exact ⟨by rfl, rfl⟩
  by_cases h3 : s < 0
  · clear h
    have g1 : 0 ≤ r := by omega
    have g2 : r ≤ 63 := by omega
    go_enter Try.func18, Try.ntmps18
    go_wp2
    all_goals go_ret2
    all_goals exact ⟨by rfl, rfl⟩
  have h4 : 63 < s := by omega
  have g1 : 0 ≤ r := by omega
  have g2 : r ≤ 63 := by omega
  have g3 : 0 ≤ s := by omega
  clear h
  go_enter Try.func18, Try.ntmps18
  go_wp2
  all_goals go_ret2
  all_goals exact ⟨by rfl, rfl⟩
def RSH (v k s x : Int) (ok : Bool) : Prop := ∀ w, Calls Try.prog 16 #[.int .u64 v, .int .i64 k, .int .i64 s] w fun e' w' => e' = .returned (.tuple #[.int .u64 x, .bool ok]) ∧ w = w'
def RFD (v : Int) (sg : Bool) (r i x : Int) (ok : Bool) : Prop := ∀ w, Calls Try.prog 18 #[.int .u64 v, .bool sg, .int .i64 r, .int .i64 i] w fun e' w' => e' = .returned (.tuple #[.int .u64 x, .bool ok]) ∧ w = w'
set_option maxHeartbeats 2000000 in
theorem moves_ok_ok (v k s x r i y : Int) (sg : Bool) (w : World) (h1 : SH v k s x 0) (h2 : RSH v k s x true) (h3 : FD v sg r i y 0) (h4 : RFD v sg r i y true) :
    Calls Try.prog 7 #[.int .u64 v, .int .i64 k, .int .i64 s, .bool sg, .int .i64 r, .int .i64 i] w fun e w' => e = .returned (.bool true) ∧ Below w.heap.size w w' := by
  have H1 := Lib.hid h1
  have H2 := Lib.hid h2
  have H3 := Lib.hid h3
  have H4 := Lib.hid h4
  clear h1 h2 h3 h4
  go_enter Try.func7, Try.ntmps7
  go_wp2_with fail
  refine (examples_ok _).mono ?_
  rintro e w1 ⟨rfl, hf1⟩
  go_wp2_with fail
  refine (H1.out _).mono ?_
  rintro e w2 ⟨rfl, rfl⟩
  go_wp2_with fail
  refine (H2.out _).mono ?_
  rintro e w2 ⟨rfl, rfl⟩
  go_wp2_with fail
  refine (H3.out _).mono ?_
  rintro e w2 ⟨rfl, rfl⟩
  go_wp2_with fail
  refine (H4.out _).mono ?_
  rintro e w2 ⟨rfl, rfl⟩
  go_wp2_with fail
  all_goals go_ret
  all_goals exact ⟨by first | rfl | simp [*], hf1.below (Nat.le_refl _) (fun _ _ => id)⟩
set_option maxHeartbeats 2000000 in
theorem moves_ok_bad (v k s x r i y : Int) (sg : Bool) (w : World) (h1 : SH v k s x 0) (h2 : RSH v k s x true) (h3 : FD v sg r i y 1) (h4 : RFD v sg r i y false) :
    Calls Try.prog 7 #[.int .u64 v, .int .i64 k, .int .i64 s, .bool sg, .int .i64 r, .int .i64 i] w fun e w' => e = .returned (.bool true) ∧ Below w.heap.size w w' := by
  have H1 := Lib.hid h1
  have H2 := Lib.hid h2
  have H3 := Lib.hid h3
  have H4 := Lib.hid h4
  clear h1 h2 h3 h4
  go_enter Try.func7, Try.ntmps7
  go_wp2_with fail
  refine (examples_ok _).mono ?_
  rintro e w1 ⟨rfl, hf1⟩
  go_wp2_with fail
  refine (H1.out _).mono ?_
  rintro e w2 ⟨rfl, rfl⟩
  go_wp2_with fail
  refine (H2.out _).mono ?_
  rintro e w2 ⟨rfl, rfl⟩
  go_wp2_with fail
  refine (H3.out _).mono ?_
  rintro e w2 ⟨rfl, rfl⟩
  go_wp2_with fail
  refine (H4.out _).mono ?_
  rintro e w2 ⟨rfl, rfl⟩
  go_wp2_with fail
  all_goals go_ret
  all_goals exact ⟨by first | rfl | simp [*], hf1.below (Nat.le_refl _) (fun _ _ => id)⟩
set_option maxHeartbeats 2000000 in
theorem moves_bad_ok (v k s x r i y : Int) (sg : Bool) (w : World) (h1 : SH v k s x 1) (h2 : RSH v k s x false) (h3 : FD v sg r i y 0) (h4 : RFD v sg r i y true) :
    Calls Try.prog 7 #[.int .u64 v, .int .i64 k, .int .i64 s, .bool sg, .int .i64 r, .int .i64 i] w fun e w' => e = .returned (.bool true) ∧ Below w.heap.size w w' := by
  have H1 := Lib.hid h1
  have H2 := Lib.hid h2
  have H3 := Lib.hid h3
  have H4 := Lib.hid h4
  clear h1 h2 h3 h4
  go_enter Try.func7, Try.ntmps7
  go_wp2_with fail
  refine (examples_ok _).mono ?_
  rintro e w1 ⟨rfl, hf1⟩
  go_wp2_with fail
  refine (H1.out _).mono ?_
  rintro e w2 ⟨rfl, rfl⟩
  go_wp2_with fail
  refine (H2.out _).mono ?_
  rintro e w2 ⟨rfl, rfl⟩
  go_wp2_with fail
  refine (H3.out _).mono ?_
  rintro e w2 ⟨rfl, rfl⟩
  go_wp2_with fail
  refine (H4.out _).mono ?_
  rintro e w2 ⟨rfl, rfl⟩
  go_wp2_with fail
  all_goals go_ret
  all_goals exact ⟨by first | rfl | simp [*], hf1.below (Nat.le_refl _) (fun _ _ => id)⟩
set_option maxHeartbeats 2000000 in
theorem moves_bad_bad (v k s x r i y : Int) (sg : Bool) (w : World) (h1 : SH v k s x 1) (h2 : RSH v k s x false) (h3 : FD v sg r i y 1) (h4 : RFD v sg r i y false) :
    Calls Try.prog 7 #[.int .u64 v, .int .i64 k, .int .i64 s, .bool sg, .int .i64 r, .int .i64 i] w fun e w' => e = .returned (.bool true) ∧ Below w.heap.size w w' := by
  have H1 := Lib.hid h1
  have H2 := Lib.hid h2
  have H3 := Lib.hid h3
  have H4 := Lib.hid h4
  clear h1 h2 h3 h4
  go_enter Try.func7, Try.ntmps7
  go_wp2_with fail
  refine (examples_ok _).mono ?_
  rintro e w1 ⟨rfl, hf1⟩
  go_wp2_with fail
  refine (H1.out _).mono ?_
  rintro e w2 ⟨rfl, rfl⟩
  go_wp2_with fail
  refine (H2.out _).mono ?_
  rintro e w2 ⟨rfl, rfl⟩
  go_wp2_with fail
  refine (H3.out _).mono ?_
  rintro e w2 ⟨rfl, rfl⟩
  go_wp2_with fail
  refine (H4.out _).mono ?_
  rintro e w2 ⟨rfl, rfl⟩
  go_wp2_with fail
  all_goals go_ret
  all_goals exact ⟨by first | rfl | simp [*], hf1.below (Nat.le_refl _) (fun _ _ => id)⟩
theorem rsh_ok (k : Nat) (v : Int) (s : Nat) (hk : k ≤ 3) (hs : s < 64) (h0 : 0 ≤ v) (h1 : v ≤ 18446744073709551615) : RSH v (k : Int) (s : Int) (shiftV k v s) true := by
  intro w
  have : k = 0 ∨ k = 1 ∨ k = 2 ∨ k = 3 := by omega
  rcases this with rfl | rfl | rfl | rfl
  · exact rshift_0 v s w hs h0 h1
  · exact rshift_1 v s w hs h0 h1
  · exact rshift_2 v s w hs h0 h1
  · exact rshift_3 v s w hs h0 h1
theorem field_two (v : Int) (sg : Bool) (r i : Nat) (hr : r < 64) (hi : i < 64) (v0 : 0 ≤ v) (v1 : v ≤ 18446744073709551615) : ∃ y, FD v sg (r : Int) (i : Int) y 0 ∧ RFD v sg (r : Int) (i : Int) y true := by
  have lo := field_low v r i hr hi
  have hg := field_high v r i hr hi
  cases sg with
  | false =>
    have h : FD v false (r : Int) (i : Int) (fieldV false v (63 - i) (downF r i)) 0 := fun w => field_false v r i w hr hi v0 v1
    have e : fieldV false v (63 - i) (downF r i) = IntKind.u64.wrap (v * 2 ^ (63 - i)) / 2 ^ downF r i := rfl
    rw [e, lo] at h
    refine ⟨_, h, ?_⟩
    by_cases hc : i < r
    · unfold fromF atF
      rw [if_pos hc, if_pos hc]
      exact fun w => rfield_lo_false v r i w hr hi hc v0 v1
    · unfold fromF atF
      rw [if_neg hc, if_neg hc]
      exact fun w => rfield_hi_false v r i w hr hi (by omega) v0 v1
  | true =>
    have h : FD v true (r : Int) (i : Int) (fieldV true v (63 - i) (downF r i)) 0 := fun w => field_true v r i w hr hi v0 v1
    have e : fieldV true v (63 - i) (downF r i) = IntKind.u64.wrap (wrap64 (IntKind.u64.wrap (v * 2 ^ (63 - i))) / 2 ^ downF r i) := rfl
    rw [e, hg] at h
    refine ⟨_, h, ?_⟩
    by_cases hc : i < r
    · unfold topF fromF atF
      rw [if_pos hc, if_pos hc]
      exact fun w => rfield_lo_true v r i w hr hi hc v0 v1
    · have e2 : topF r i = i - r := by unfold topF fromF atF; rw [if_neg hc, if_neg hc, Nat.zero_add]
      rw [e2]
      unfold fromF atF
      rw [if_neg hc, if_neg hc]
      exact fun w => rfield_hi_true v r i w hr hi (by omega) v0 v1
theorem aluMoves_walk (a1 a2 a3 : Int) (a4 : Bool) (a5 a6 : Int) (w : World) (w1 : (Lit.int .u64 a1).wf = true) (w2 : (Lit.int .i64 a2).wf = true) (w3 : (Lit.int .i64 a3).wf = true) (w5 : (Lit.int .i64 a5).wf = true) (w6 : (Lit.int .i64 a6).wf = true) :
    Calls Try.prog 7 #[.int .u64 a1, .int .i64 a2, .int .i64 a3, .bool a4, .int .i64 a5, .int .i64 a6] w fun e w' => e = .returned (.bool true) ∧ Below w.heap.size w w' := by
  obtain ⟨v0, v1⟩ := u64_rng2 w1
  have sA : (∃ x, SH a1 a2 a3 x 0 ∧ RSH a1 a2 a3 x true) ∨ (SH a1 a2 a3 0 1 ∧ RSH a1 a2 a3 0 false) := by
    by_cases h : a2 < 0 ∨ 3 < a2 ∨ a3 < 0 ∨ 63 < a3
    · exact Or.inr ⟨fun w => shift_bad a1 a2 a3 w h, fun w => rshift_bad a1 a2 a3 w h⟩
    · obtain ⟨k, rfl⟩ : ∃ k : Nat, a2 = (k : Int) := ⟨a2.toNat, by omega⟩
      obtain ⟨s, rfl⟩ : ∃ s : Nat, a3 = (s : Int) := ⟨a3.toNat, by omega⟩
      exact Or.inl ⟨_, sh_ok k a1 s (by omega) (by omega) v0 v1, rsh_ok k a1 s (by omega) (by omega) v0 v1⟩
  have sB : (∃ y, FD a1 a4 a5 a6 y 0 ∧ RFD a1 a4 a5 a6 y true) ∨ (FD a1 a4 a5 a6 0 1 ∧ RFD a1 a4 a5 a6 0 false) := by
    by_cases h : a5 < 0 ∨ 63 < a5 ∨ a6 < 0 ∨ 63 < a6
    · exact Or.inr ⟨fun w => field_bad a1 a4 a5 a6 w h, fun w => rfield_bad a1 a4 a5 a6 w h⟩
    · obtain ⟨r, rfl⟩ : ∃ r : Nat, a5 = (r : Int) := ⟨a5.toNat, by omega⟩
      obtain ⟨i, rfl⟩ : ∃ i : Nat, a6 = (i : Int) := ⟨a6.toNat, by omega⟩
      exact Or.inl (field_two a1 a4 r i (by omega) (by omega) v0 v1)
  rcases sA with ⟨x, p1, p2⟩ | ⟨p1, p2⟩ <;> rcases sB with ⟨y, q1, q2⟩ | ⟨q1, q2⟩
  · exact moves_ok_ok _ _ _ _ _ _ _ _ w p1 p2 q1 q2
  · exact moves_ok_bad _ _ _ _ _ _ _ _ w p1 p2 q1 q2
  · exact moves_bad_ok _ _ _ _ _ _ _ _ w p1 p2 q1 q2
  · exact moves_bad_bad _ _ _ _ _ _ _ _ w p1 p2 q1 q2
end Go.Proofs.Ytbhpakjflcmnoaa
