/- The walk of AluTurns. -/
import Derived.Test.YtbhpakjflcmnoaaLLaws
import Derived.Test.YtbhpakjflcmnoaaRRef2
namespace Go.Proofs.Ytbhpakjflcmnoaa
open Go.RowKit
set_option linter.unusedVariables false

def SH (v k s x e : Int) : Prop := ∀ w, Calls Try.prog 15 #[.int .u64 v, .int .i64 k, .int .i64 s] w fun e' w' => e' = .returned (.tuple #[.int .u64 x, .int .i64 e]) ∧ w = w'
def FD (v : Int) (sg : Bool) (r i x e : Int) : Prop := ∀ w, Calls Try.prog 17 #[.int .u64 v, .bool sg, .int .i64 r, .int .i64 i] w fun e' w' => e' = .returned (.tuple #[.int .u64 x, .int .i64 e]) ∧ w = w'
theorem turns_bad (v s r i : Int) (w : World) (h1 : SH v 3 s 0 1) :
    Calls Try.prog 8 #[.int .u64 v, .int .i64 s, .int .i64 r, .int .i64 i] w fun e w' => e = .returned (.bool true) ∧ Below w.heap.size w w' := by
  have H1 := Lib.hid h1
  clear h1
  go_enter Try.func8, Try.ntmps8
  go_wp2_with fail
  refine (examples_ok _).mono ?_
  rintro e w1 ⟨rfl, hf1⟩
  go_wp2_with fail
  refine (H1.out _).mono ?_
  rintro e w2 ⟨rfl, rfl⟩
  go_wp2_with fail
  go_ret
  exact ⟨by first | rfl | simp [*], hf1.below (Nat.le_refl _) (fun _ _ => id)⟩
set_option maxRecDepth 100000 in
set_option maxHeartbeats 4000000 in
theorem turns_ibad (v a up dn pt ag r i : Int) (s t : Nat) (w : World) (hs : s < 64)
    (et : (64 - (s : Int)) % 64 = (t : Int)) (h1 : SH v 3 (s : Int) a 0) (h2 : SH a 3 (t : Int) v 0) (h3 : SH v 0 (s : Int) up 0) (h4 : SH up 1 (s : Int) dn 0) (h5 : FD v true 0 63 v 0) (h6 : FD v false r i pt 1) (h7 : FD v true r i ag 1)
    (e1 : bits .and .u64 v (18446744073709551615 / 2 ^ s) = dn) (e2 : bits .and .u64 pt ag = pt) :
    Calls Try.prog 8 #[.int .u64 v, .int .i64 (s : Int), .int .i64 r, .int .i64 i] w fun e w' => e = .returned (.bool true) ∧ Below w.heap.size w w' := by
  have H1 := Lib.hid h1
  have H2 := Lib.hid h2
  have H3 := Lib.hid h3
  have H4 := Lib.hid h4
  have H5 := Lib.hid h5
  have H6 := Lib.hid h6
  have H7 := Lib.hid h7
  clear h1 h2 h3 h4 h5 h6 h7
  have s0 : (0 : Int) ≤ (s : Int) := by omega
  have s1 : (s : Int) < 64 := by omega
  go_enter Try.func8, Try.ntmps8
  go_wp2_with fail
  refine (examples_ok _).mono ?_
  rintro e w1 ⟨rfl, hf1⟩
  go_wp2_with fail
  refine (H1.out _).mono ?_
  rintro e w2 ⟨rfl, rfl⟩
  go_wp2_with fail
  refine (H2.out _).mono ?_
  rintro e w2 ⟨rfl, rfl⟩
  go_wp2_with fail
  refine (H3.out _).mono ?_
  rintro e w2 ⟨rfl, rfl⟩
  go_wp2_with fail
  refine (H4.out _).mono ?_
  rintro e w2 ⟨rfl, rfl⟩
  go_wp2_with fail
  refine (H5.out _).mono ?_
  rintro e w2 ⟨rfl, rfl⟩
  go_wp2_with fail
  refine (H6.out _).mono ?_
  rintro e w2 ⟨rfl, rfl⟩
  go_wp2_with fail
  refine (H7.out _).mono ?_
  rintro e w2 ⟨rfl, rfl⟩
  go_wp2_with fail
  all_goals go_ret
  all_goals exact ⟨by first | rfl | simp [*], hf1.below (Nat.le_refl _) (fun _ _ => id)⟩
set_option maxRecDepth 100000 in
set_option maxHeartbeats 4000000 in
theorem turns_act (v a up dn pt ag r i : Int) (s t : Nat) (w : World) (hs : s < 64)
    (et : (64 - (s : Int)) % 64 = (t : Int)) (h1 : SH v 3 (s : Int) a 0) (h2 : SH a 3 (t : Int) v 0) (h3 : SH v 0 (s : Int) up 0) (h4 : SH up 1 (s : Int) dn 0) (h5 : FD v true 0 63 v 0) (h6 : FD v false r i pt 0) (h7 : FD v true r i ag 0)
    (e1 : bits .and .u64 v (18446744073709551615 / 2 ^ s) = dn) (e2 : bits .and .u64 pt ag = pt) (d0 d : Nat) (ed0 : i - r = (d0 : Int)) (ed : (d0 : Int) + 1 = (d : Int)) (hd : d < 64) (hri : r ≤ i) (hi : i < 63) (ep : pt / 2 ^ d = 0) :
    Calls Try.prog 8 #[.int .u64 v, .int .i64 (s : Int), .int .i64 r, .int .i64 i] w fun e w' => e = .returned (.bool true) ∧ Below w.heap.size w w' := by
  have H1 := Lib.hid h1
  have H2 := Lib.hid h2
  have H3 := Lib.hid h3
  have H4 := Lib.hid h4
  have H5 := Lib.hid h5
  have H6 := Lib.hid h6
  have H7 := Lib.hid h7
  clear h1 h2 h3 h4 h5 h6 h7
  have s0 : (0 : Int) ≤ (s : Int) := by omega
  have s1 : (s : Int) < 64 := by omega
  have d1 : (0 : Int) ≤ (d : Int) := by omega
  have d2 : (d : Int) < 64 := by omega
  go_enter Try.func8, Try.ntmps8
  go_wp2_with fail
  refine (examples_ok _).mono ?_
  rintro e w1 ⟨rfl, hf1⟩
  go_wp2_with fail
  refine (H1.out _).mono ?_
  rintro e w2 ⟨rfl, rfl⟩
  go_wp2_with fail
  refine (H2.out _).mono ?_
  rintro e w2 ⟨rfl, rfl⟩
  go_wp2_with fail
  refine (H3.out _).mono ?_
  rintro e w2 ⟨rfl, rfl⟩
  go_wp2_with fail
  refine (H4.out _).mono ?_
  rintro e w2 ⟨rfl, rfl⟩
  go_wp2_with fail
  refine (H5.out _).mono ?_
  rintro e w2 ⟨rfl, rfl⟩
  go_wp2_with fail
  refine (H6.out _).mono ?_
  rintro e w2 ⟨rfl, rfl⟩
  go_wp2_with fail
  refine (H7.out _).mono ?_
  rintro e w2 ⟨rfl, rfl⟩
  go_wp2_with fail
  all_goals go_ret
  all_goals exact ⟨by first | rfl | simp [*], hf1.below (Nat.le_refl _) (fun _ _ => id)⟩
set_option maxRecDepth 100000 in
set_option maxHeartbeats 4000000 in
theorem turns_lt (v a up dn pt ag r i : Int) (s t : Nat) (w : World) (hs : s < 64)
    (et : (64 - (s : Int)) % 64 = (t : Int)) (h1 : SH v 3 (s : Int) a 0) (h2 : SH a 3 (t : Int) v 0) (h3 : SH v 0 (s : Int) up 0) (h4 : SH up 1 (s : Int) dn 0) (h5 : FD v true 0 63 v 0) (h6 : FD v false r i pt 0) (h7 : FD v true r i ag 0)
    (e1 : bits .and .u64 v (18446744073709551615 / 2 ^ s) = dn) (e2 : bits .and .u64 pt ag = pt) (hri : i < r) :
    Calls Try.prog 8 #[.int .u64 v, .int .i64 (s : Int), .int .i64 r, .int .i64 i] w fun e w' => e = .returned (.bool true) ∧ Below w.heap.size w w' := by
  have H1 := Lib.hid h1
  have H2 := Lib.hid h2
  have H3 := Lib.hid h3
  have H4 := Lib.hid h4
  have H5 := Lib.hid h5
  have H6 := Lib.hid h6
  have H7 := Lib.hid h7
  clear h1 h2 h3 h4 h5 h6 h7
  have s0 : (0 : Int) ≤ (s : Int) := by omega
  have s1 : (s : Int) < 64 := by omega
  go_enter Try.func8, Try.ntmps8
  go_wp2_with fail
  refine (examples_ok _).mono ?_
  rintro e w1 ⟨rfl, hf1⟩
  go_wp2_with fail
  refine (H1.out _).mono ?_
  rintro e w2 ⟨rfl, rfl⟩
  go_wp2_with fail
  refine (H2.out _).mono ?_
  rintro e w2 ⟨rfl, rfl⟩
  go_wp2_with fail
  refine (H3.out _).mono ?_
  rintro e w2 ⟨rfl, rfl⟩
  go_wp2_with fail
  refine (H4.out _).mono ?_
  rintro e w2 ⟨rfl, rfl⟩
  go_wp2_with fail
  refine (H5.out _).mono ?_
  rintro e w2 ⟨rfl, rfl⟩
  go_wp2_with fail
  refine (H6.out _).mono ?_
  rintro e w2 ⟨rfl, rfl⟩
  go_wp2_with fail
  refine (H7.out _).mono ?_
  rintro e w2 ⟨rfl, rfl⟩
  go_wp2_with fail
  all_goals go_ret
  all_goals exact ⟨by first | rfl | simp [*], hf1.below (Nat.le_refl _) (fun _ _ => id)⟩
set_option maxRecDepth 100000 in
set_option maxHeartbeats 4000000 in
theorem turns_top (v a up dn pt ag r i : Int) (s t : Nat) (w : World) (hs : s < 64)
    (et : (64 - (s : Int)) % 64 = (t : Int)) (h1 : SH v 3 (s : Int) a 0) (h2 : SH a 3 (t : Int) v 0) (h3 : SH v 0 (s : Int) up 0) (h4 : SH up 1 (s : Int) dn 0) (h5 : FD v true 0 63 v 0) (h6 : FD v false r i pt 0) (h7 : FD v true r i ag 0)
    (e1 : bits .and .u64 v (18446744073709551615 / 2 ^ s) = dn) (e2 : bits .and .u64 pt ag = pt) (hri : r ≤ i) (hi : 63 ≤ i) :
    Calls Try.prog 8 #[.int .u64 v, .int .i64 (s : Int), .int .i64 r, .int .i64 i] w fun e w' => e = .returned (.bool true) ∧ Below w.heap.size w w' := by
  have H1 := Lib.hid h1
  have H2 := Lib.hid h2
  have H3 := Lib.hid h3
  have H4 := Lib.hid h4
  have H5 := Lib.hid h5
  have H6 := Lib.hid h6
  have H7 := Lib.hid h7
  clear h1 h2 h3 h4 h5 h6 h7
  have s0 : (0 : Int) ≤ (s : Int) := by omega
  have s1 : (s : Int) < 64 := by omega
  go_enter Try.func8, Try.ntmps8
  go_wp2_with fail
  refine (examples_ok _).mono ?_
  rintro e w1 ⟨rfl, hf1⟩
  go_wp2_with fail
  refine (H1.out _).mono ?_
  rintro e w2 ⟨rfl, rfl⟩
  go_wp2_with fail
  refine (H2.out _).mono ?_
  rintro e w2 ⟨rfl, rfl⟩
  go_wp2_with fail
  refine (H3.out _).mono ?_
  rintro e w2 ⟨rfl, rfl⟩
  go_wp2_with fail
  refine (H4.out _).mono ?_
  rintro e w2 ⟨rfl, rfl⟩
  go_wp2_with fail
  refine (H5.out _).mono ?_
  rintro e w2 ⟨rfl, rfl⟩
  go_wp2_with fail
  refine (H6.out _).mono ?_
  rintro e w2 ⟨rfl, rfl⟩
  go_wp2_with fail
  refine (H7.out _).mono ?_
  rintro e w2 ⟨rfl, rfl⟩
  go_wp2_with fail
  all_goals go_ret
  all_goals exact ⟨by first | rfl | simp [*], hf1.below (Nat.le_refl _) (fun _ _ => id)⟩
theorem powN (k : Nat) : (2 : Int) ^ k = ((2 ^ k : Nat) : Int) := by rw [Int.natCast_pow]; rfl
theorem ror_back (v : Int) (s : Nat) (hs : s < 64) (h0 : 0 ≤ v) (h1 : v ≤ 18446744073709551615) : rorF (rorF v s) ((64 - s) % 64) = v := by
  by_cases h : s = 0
  · subst h
    unfold rorF
    simp
  · have e : (64 - s) % 64 = 64 - s := Nat.mod_eq_of_lt (by omega)
    have e2 : 64 - (64 - s) = s := by omega
    rw [e]
    unfold rorF
    rw [e2]
    have p1 := pwp s
    have p2 := pwp (64 - s)
    have hq : v / 2 ^ s < 2 ^ (64 - s) := by
      apply Int.ediv_lt_of_lt_mul p1
      rw [← Int.pow_add]
      have : 64 - s + s = 64 := by omega
      rw [this]
      exact Int.lt_of_le_of_lt h1 (by decide)
    have hq0 : 0 ≤ v / 2 ^ s := Int.ediv_nonneg h0 (by omega)
    have d1 : (v / 2 ^ s + v % 2 ^ s * 2 ^ (64 - s)) / 2 ^ (64 - s) = v % 2 ^ s := by
      rw [Int.add_mul_ediv_right _ _ (by omega), Int.ediv_eq_zero_of_lt hq0 hq, Int.zero_add]
    have d2 : (v / 2 ^ s + v % 2 ^ s * 2 ^ (64 - s)) % 2 ^ (64 - s) = v / 2 ^ s := by
      rw [Int.add_mul_emod_self_right, Int.emod_eq_of_lt hq0 hq]
    rw [d1, d2]
    have := Int.mul_ediv_add_emod v (2 ^ s)
    rw [Int.mul_comm] at this
    omega
theorem up_down (v : Int) (s : Nat) (hs : s < 64) (h0 : 0 ≤ v) (h1 : v ≤ 18446744073709551615) : bits .and .u64 v (18446744073709551615 / 2 ^ s) = IntKind.u64.wrap (v * 2 ^ s) / 2 ^ s := by
  obtain ⟨n, rfl⟩ : ∃ n : Nat, v = (n : Int) := ⟨v.toNat, by omega⟩
  have hn : n < 2 ^ 64 := by omega
  have h64 : 2 ^ 64 = 2 ^ (64 - s) * 2 ^ s := by rw [← Nat.pow_add]; congr 1; omega
  have e1 : (18446744073709551615 : Int) / 2 ^ s = ((2 ^ (64 - s) - 1 : Nat) : Int) := by
    have : (2 ^ 64 - 1) / 2 ^ s = 2 ^ (64 - s) - 1 := by
      have hp := Nat.two_pow_pos s
      have hp2 := Nat.two_pow_pos (64 - s)
      have hx : 2 ^ 64 - 1 = 2 ^ s * (2 ^ (64 - s) - 1) + (2 ^ s - 1) := by
        rw [Nat.mul_sub, Nat.mul_one, Nat.mul_comm, ← h64]
        have : 2 ^ s ≤ 2 ^ 64 := Nat.pow_le_pow_right (by omega) (by omega)
        omega
      rw [hx, Nat.mul_add_div hp, Nat.div_eq_of_lt (by omega), Nat.add_zero]
    rw [powN, ← this]
    rfl
  have hlt : 2 ^ (64 - s) - 1 < 2 ^ 64 := by
    have : 2 ^ (64 - s) ≤ 2 ^ 64 := Nat.pow_le_pow_right (by omega) (by omega)
    have := Nat.two_pow_pos (64 - s)
    omega
  rw [e1, bitsN n _ hn hlt, Nat.and_two_pow_sub_one_eq_mod]
  have e2 : IntKind.u64.wrap ((n : Int) * 2 ^ s) = ((n * 2 ^ s % 2 ^ 64 : Nat) : Int) := by
    rw [IntKind.wrap_u64, powN]
    omega
  have e3 : n * 2 ^ s % 2 ^ 64 / 2 ^ s = n % 2 ^ (64 - s) := by
    rw [h64, Nat.mul_mod_mul_right, Nat.mul_div_cancel _ (Nat.two_pow_pos s)]
  rw [e2, powN, ← e3]
  rfl
theorem whole_same (v : Int) (h0 : 0 ≤ v) (h1 : v ≤ 18446744073709551615) : fieldV true v (63 - 63) (downF 0 63) = v := by
  have e : downF 0 63 = 0 := rfl
  rw [e]
  unfold fieldV
  rw [if_pos rfl, Int.pow_zero, Int.mul_one, Int.ediv_one]
  rw [IntKind.wrap_u64, IntKind.wrap_u64]
  unfold wrap64
  omega
theorem sar_split (X : Int) (d : Nat) (hd : d ≤ 64) : sarN X d = X / 2 ^ d + (2 ^ d - 1) * 2 ^ (64 - d) := by
  unfold sarN
  have h64 : (18446744073709551616 : Int) = 2 ^ (64 - d) * 2 ^ d := by
    rw [← Int.pow_add]
    have : 64 - d + d = 64 := by omega
    rw [this]; rfl
  rw [h64, ← Int.mul_assoc, Int.add_mul_ediv_right _ _ (by have := pwp d; omega)]
theorem part_again (X : Int) (d : Nat) (hd : d < 64) (h0 : 0 ≤ X) (h1 : X ≤ 18446744073709551615) : bits .and .u64 (X / 2 ^ d) (IntKind.u64.wrap (wrap64 X / 2 ^ d)) = X / 2 ^ d := by
  rw [sar_same X d hd h0 h1]
  obtain ⟨n, rfl⟩ : ∃ n : Nat, X = (n : Int) := ⟨X.toNat, by omega⟩
  have hn : n < 2 ^ 64 := by omega
  have e1 : (n : Int) / 2 ^ d = ((n / 2 ^ d : Nat) : Int) := by rw [powN]; rfl
  have hq : n / 2 ^ d < 2 ^ 64 := Nat.lt_of_le_of_lt (Nat.div_le_self _ _) hn
  split
  · rw [sar_split _ d (by omega), e1]
    have hlt : n / 2 ^ d < 2 ^ (64 - d) := by
      rw [Nat.div_lt_iff_lt_mul (Nat.two_pow_pos d), ← Nat.pow_add]
      have : 64 - d + d = 64 := by omega
      rw [this]; exact hn
    have e2 : ((n / 2 ^ d : Nat) : Int) + (2 ^ d - 1) * 2 ^ (64 - d) = ((2 ^ (64 - d) * (2 ^ d - 1) + n / 2 ^ d : Nat) : Int) := by
      have := Nat.two_pow_pos d
      have h1 : ((1 : Nat) : Int) = 1 := rfl
      rw [powN, powN, Int.natCast_add, Int.natCast_mul, Int.natCast_sub (by omega), Int.mul_comm, h1, Int.add_comm]
    have hb : 2 ^ (64 - d) * (2 ^ d - 1) + n / 2 ^ d < 2 ^ 64 := by
      have h64 : 2 ^ 64 = 2 ^ (64 - d) * 2 ^ d := by rw [← Nat.pow_add]; congr 1; omega
      have := Nat.two_pow_pos d
      rw [Nat.mul_sub, Nat.mul_one, ← h64]
      have : 2 ^ (64 - d) ≤ 2 ^ 64 := Nat.pow_le_pow_right (by omega) (by omega)
      omega
    rw [e2, bitsN _ _ hq hb, Nat.two_pow_add_eq_or_of_lt hlt, Nat.and_or_distrib_left, Nat.and_self]
    congr 1
    apply Nat.eq_of_testBit_eq
    intro i
    rw [Nat.testBit_or, Nat.testBit_and]
    cases (n / 2 ^ d).testBit i <;> simp
  · rw [e1, bitsN _ _ hq hq, Nat.and_self]
theorem sh_ok (k : Nat) (v : Int) (s : Nat) (hk : k ≤ 3) (hs : s < 64) (h0 : 0 ≤ v) (h1 : v ≤ 18446744073709551615) : SH v (k : Int) (s : Int) (shiftV k v s) 0 := by
  intro w
  have : k = 0 ∨ k = 1 ∨ k = 2 ∨ k = 3 := by omega
  rcases this with rfl | rfl | rfl | rfl
  · exact shift_0 v s w hs h0 h1
  · exact shift_1 v s w hs h0 h1
  · exact shift_2 v s w hs h0 h1
  · exact shift_3 v s w hs h0 h1
theorem aluTurns_walk (a1 a2 a3 a4 : Int) (w : World) (w1 : (Lit.int .u64 a1).wf = true) (w2 : (Lit.int .i64 a2).wf = true) (w3 : (Lit.int .i64 a3).wf = true) (w4 : (Lit.int .i64 a4).wf = true) :
    Calls Try.prog 8 #[.int .u64 a1, .int .i64 a2, .int .i64 a3, .int .i64 a4] w fun e w' => e = .returned (.bool true) ∧ Below w.heap.size w w' := by
  obtain ⟨v0, v1⟩ := u64_rng2 w1
  by_cases hb : a2 < 0 ∨ 63 < a2
  · exact turns_bad a1 a2 a3 a4 w (fun w => shift_bad a1 3 a2 w (by omega))
  obtain ⟨s, rfl⟩ : ∃ s : Nat, a2 = (s : Int) := ⟨a2.toNat, by omega⟩
  have hs : s < 64 := by omega
  have ht : (64 - s) % 64 < 64 := Nat.mod_lt _ (by omega)
  have et : (64 - (s : Int)) % 64 = (((64 - s) % 64 : Nat) : Int) := by omega
  have rr := ror_rng a1 s hs v0 v1
  have ru := wrap_rng (a1 * 2 ^ s)
  have h1 : SH a1 3 (s : Int) (rorF a1 s) 0 := sh_ok 3 a1 s (by omega) hs v0 v1
  have h2 : SH (rorF a1 s) 3 (((64 - s) % 64 : Nat) : Int) a1 0 := by
    have h := sh_ok 3 (rorF a1 s) ((64 - s) % 64) (by omega) ht rr.1 rr.2
    have e : shiftV 3 (rorF a1 s) ((64 - s) % 64) = a1 := ror_back a1 s hs v0 v1
    rw [e] at h
    exact h
  have h3 : SH a1 0 (s : Int) (IntKind.u64.wrap (a1 * 2 ^ s)) 0 := sh_ok 0 a1 s (by omega) hs v0 v1
  have h4 : SH (IntKind.u64.wrap (a1 * 2 ^ s)) 1 (s : Int) (IntKind.u64.wrap (a1 * 2 ^ s) / 2 ^ s) 0 := sh_ok 1 _ s (by omega) hs ru.1 ru.2
  have h5 : FD a1 true 0 63 a1 0 := by
    intro w
    have h := field_true a1 0 63 w (by omega) (by omega) v0 v1
    rw [whole_same a1 v0 v1] at h
    exact h
  have e1 := up_down a1 s hs v0 v1
  by_cases hi : a3 < 0 ∨ 63 < a3 ∨ a4 < 0 ∨ 63 < a4
  · exact turns_ibad a1 _ _ _ 0 0 a3 a4 s _ w hs et h1 h2 h3 h4 h5 (fun w => field_bad a1 false a3 a4 w hi) (fun w => field_bad a1 true a3 a4 w hi) e1 (by decide)
  obtain ⟨r, rfl⟩ : ∃ r : Nat, a3 = (r : Int) := ⟨a3.toNat, by omega⟩
  obtain ⟨i, rfl⟩ : ∃ i : Nat, a4 = (i : Int) := ⟨a4.toNat, by omega⟩
  have hr : r < 64 := by omega
  have hi2 : i < 64 := by omega
  have hd : downF r i < 64 := by unfold downF; split <;> omega
  have h6 : FD a1 false (r : Int) (i : Int) (fieldV false a1 (63 - i) (downF r i)) 0 := fun w => field_false a1 r i w hr hi2 v0 v1
  have h7 : FD a1 true (r : Int) (i : Int) (fieldV true a1 (63 - i) (downF r i)) 0 := fun w => field_true a1 r i w hr hi2 v0 v1
  have rx := wrap_rng (a1 * 2 ^ (63 - i))
  have e2 : bits .and .u64 (fieldV false a1 (63 - i) (downF r i)) (fieldV true a1 (63 - i) (downF r i)) = fieldV false a1 (63 - i) (downF r i) := by
    unfold fieldV
    rw [if_neg (by decide), if_pos rfl]
    exact part_again _ _ hd rx.1 rx.2
  by_cases c1 : i < r
  · exact turns_lt a1 _ _ _ _ _ (r : Int) (i : Int) s _ w hs et h1 h2 h3 h4 h5 h6 h7 e1 e2 (by omega)
  by_cases c2 : i = 63
  · exact turns_top a1 _ _ _ _ _ (r : Int) (i : Int) s _ w hs et h1 h2 h3 h4 h5 h6 h7 e1 e2 (by omega) (by omega)
  refine turns_act a1 _ _ _ _ _ (r : Int) (i : Int) s _ w hs et h1 h2 h3 h4 h5 h6 h7 e1 e2 (i - r) (i - r + 1) (by omega) (by omega) (by omega) (by omega) (by omega) ?_
  unfold fieldV
  rw [if_neg (by decide)]
  have e3 : downF r i = 63 - i + r := by unfold downF; rw [if_neg c1]
  rw [e3, Int.ediv_ediv_of_nonneg (Int.le_of_lt (pwp _)), ← Int.pow_add]
  have e4 : 63 - i + r + (i - r + 1) = 64 := by omega
  rw [e4]
  exact Int.ediv_eq_zero_of_lt rx.1 (Int.lt_of_le_of_lt rx.2 (by decide))
end Go.Proofs.Ytbhpakjflcmnoaa
