/- The walk of RegsTurned. -/
import Derived.Test.YtiaflkabnaofpaaEx
import Derived.Test.YtiaflkabnaofpaaArg
namespace Go.Proofs.Ytiaflkabnaofpaa
open Go.RowKit
set_option linter.unusedVariables false

theorem bits_xor_i64 (a b : Int) : bits .xor .i64 a b = IntKind.i64.wrap ((BitVec.ofInt 64 a ^^^ BitVec.ofInt 64 b).toNat : Int) := rfl
theorem xor_nat1 (n : Nat) (h : n < 16) : n ^^^ 1 < 16 := by
  have : n = 0 ∨ n = 1 ∨ n = 2 ∨ n = 3 ∨ n = 4 ∨ n = 5 ∨ n = 6 ∨ n = 7 ∨ n = 8 ∨ n = 9 ∨ n = 10 ∨ n = 11 ∨ n = 12 ∨ n = 13 ∨ n = 14 ∨ n = 15 := by omega
  rcases this with rfl | rfl | rfl | rfl | rfl | rfl | rfl | rfl | rfl | rfl | rfl | rfl | rfl | rfl | rfl | rfl <;> decide
theorem xor_in (n : Nat) (h : n < 16) : bits .xor .i64 (n : Int) 1 = ((n ^^^ 1 : Nat) : Int) := by
  have : n = 0 ∨ n = 1 ∨ n = 2 ∨ n = 3 ∨ n = 4 ∨ n = 5 ∨ n = 6 ∨ n = 7 ∨ n = 8 ∨ n = 9 ∨ n = 10 ∨ n = 11 ∨ n = 12 ∨ n = 13 ∨ n = 14 ∨ n = 15 := by omega
  rcases this with rfl | rfl | rfl | rfl | rfl | rfl | rfl | rfl | rfl | rfl | rfl | rfl | rfl | rfl | rfl | rfl <;> decide
theorem xor_out (a : Int) (h1 : -9223372036854775808 ≤ a) (h2 : a ≤ 9223372036854775807) (h : a < 0 ∨ 15 < a) : bits .xor .i64 a 1 < 0 ∨ 15 < bits .xor .i64 a 1 := by
  rw [bits_xor_i64]
  generalize hx : BitVec.ofInt 64 a = x
  have hxa : (x.toNat : Int) = a % 18446744073709551616 := by rw [← hx, BitVec.toNat_ofInt]; omega
  have hy : (x ^^^ BitVec.ofInt 64 1).toNat = x.toNat ^^^ 1 := by rw [BitVec.toNat_xor]; rfl
  rw [hy, IntKind.wrap_i64]
  have hb : x.toNat < 18446744073709551616 := x.isLt
  have hN : x.toNat ^^^ 1 < 18446744073709551616 := by rw [← hy]; exact (x ^^^ BitVec.ofInt 64 1).isLt
  generalize hn : x.toNat ^^^ 1 = N at *
  have hback : x.toNat = N ^^^ 1 := by rw [← hn, Nat.xor_assoc, Nat.xor_self, Nat.xor_zero]
  by_cases hN16 : N < 16
  · have := xor_nat1 N hN16
    rw [← hback] at this
    omega
  · omega
theorem holds_turn (c : Cr) (n : Nat) (h : n < 14) : (holdsF c n != holdsF c (n ^^^ 1)) = true := by
  have : n = 0 ∨ n = 1 ∨ n = 2 ∨ n = 3 ∨ n = 4 ∨ n = 5 ∨ n = 6 ∨ n = 7 ∨ n = 8 ∨ n = 9 ∨ n = 10 ∨ n = 11 ∨ n = 12 ∨ n = 13 := by omega
  unfold holdsF
  rcases this with rfl | rfl | rfl | rfl | rfl | rfl | rfl | rfl | rfl | rfl | rfl | rfl | rfl | rfl <;> simp [tabF] <;> cases c.Z <;> cases c.C <;> cases c.N <;> cases c.V <;> decide
theorem holds_last (c : Cr) (n : Nat) (h : 14 ≤ n) (h2 : n < 16) : holdsF c n = true ∧ holdsF c (n ^^^ 1) = true := by
  have : n = 14 ∨ n = 15 := by omega
  rcases this with rfl | rfl <;> exact ⟨rfl, rfl⟩

set_option maxRecDepth 100000 in
set_option maxHeartbeats 4000000 in
theorem regsTurned_walk (c : Cr) (a1 : Int) (w : World) (w0 : WfC c) (w1 : (Lit.int .i64 a1).wf = true) :
    Calls Try.prog 3 #[.agg (cv c), .int .i64 a1] w fun e w' => e = .returned (.bool true) ∧ Below w.heap.size w w' := by
  obtain ⟨g0, g1⟩ := bounds_i64 w1
  clear w1 w0
  go_enter Try.func3, Try.ntmps3
  go_wp2_with fail
  refine (examples_ok _).mono ?_
  rintro e w2 ⟨rfl, hf2⟩
  have hb2 : Blk w2 w.heap.size 26 (cv c) := Blk.fr0 (Blk.new _ _ _) hf2
  have F2 := ((Fr.refl Nil w).alloc (.cells (cv c) 26)).trans hf2
  clear hf2
  generalize hgc : w.heap.size = gc at *
  have Hgc := Lib.hid hgc
  clear hgc
  go_wp2_with (refine wpList_load_blk rfl 26 (.tmp 2) rfl gc rfl _ hb2 Try.underlying26 rfl info26 ?_)
  by_cases hin : 0 ≤ a1 ∧ a1 < 16
  · obtain ⟨n, rfl⟩ : ∃ n : Nat, a1 = (n : Int) := ⟨a1.toNat, by omega⟩
    have hn : n < 16 := by omega
    clear hin g0 g1
    refine (holds_ok c n _ hn).mono ?_
    rintro e w3 ⟨rfl, hf3⟩
    have hb3 := Blk.fr0 hb2 hf3
    have F3 := F2.trans hf3
    have hx := xor_in n hn
    clear hb2 F2 hf3
    go_wp2_with (refine wpList_load_blk rfl 26 (.tmp 2) rfl gc rfl _ hb3 Try.underlying26 rfl info26 ?_)
    refine (holds_ok c (n ^^^ 1) _ (xor_nat1 n hn)).mono ?_
    rintro e w4 ⟨rfl, hf4⟩
    have F4 := F3.trans hf4
    clear hb3 F3 hf4 hx
    by_cases hl : 14 ≤ n
    · rw [(holds_last c n hl hn).1, (holds_last c n hl hn).2]
      have hl' : 14 ≤ (n : Int) := by omega
      go_wp2
      go_ret
      exact ⟨rfl, F4.below (by rw [Hgc.out]; exact Nat.le_refl _) (fun _ _ => id)⟩
    · have ht := holds_turn c n (by omega)
      generalize holdsF c n = x at *
      generalize holdsF c (n ^^^ 1) = y at *
      have hl' : (n : Int) < 14 := by omega
      go_wp2
      go_ret
      exact ⟨(by cases x <;> cases y <;> simp_all), F4.below (by rw [Hgc.out]; exact Nat.le_refl _) (fun _ _ => id)⟩
  · have hout : a1 < 0 ∨ 15 < a1 := by omega
    have Hout := Lib.hid hout
    have Hx := Lib.hid (xor_out a1 g0 g1 hout)
    clear hin hout
    refine (holds_bad c a1 _ Hout.out).mono ?_
    rintro e w3 ⟨rfl, hf3⟩
    have hb3 := Blk.fr0 hb2 hf3
    have F3 := F2.trans hf3
    clear hb2 F2 hf3
    go_wp2_with (refine wpList_load_blk rfl 26 (.tmp 2) rfl gc rfl _ hb3 Try.underlying26 rfl info26 ?_)
    refine (holds_bad c _ _ Hx.out).mono ?_
    rintro e w4 ⟨rfl, hf4⟩
    have F4 := F3.trans hf4
    go_wp2
    go_ret
    exact ⟨rfl, F4.below (by rw [Hgc.out]; exact Nat.le_refl _) (fun _ _ => id)⟩
end Go.Proofs.Ytiaflkabnaofpaa
