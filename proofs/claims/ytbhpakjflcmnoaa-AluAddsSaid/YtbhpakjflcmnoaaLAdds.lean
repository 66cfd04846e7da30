/- The walk of AluAdds. -/
import Derived.Test.YtbhpakjflcmnoaaEx
import Derived.Test.YtbhpakjflcmnoaaRAdd
namespace Go.Proofs.Ytbhpakjflcmnoaa
open Go.RowKit
set_option linter.unusedVariables false

set_option maxHeartbeats 2000000 in
theorem adds_gen (a b s : Int) (cy n z c v : Bool) (w : World)
    (hA : ∀ w, Calls Try.prog 12 #[.int .u64 a, .int .u64 b, .bool cy] w fun e w' => e = .returned (.tuple #[.int .u64 s, .agg #[.bool n, .bool z, .bool c, .bool v]]) ∧ Fr Nil w w')
    (hB : ∀ w, Calls Try.prog 13 #[.int .u64 a, .int .u64 b, .bool cy] w fun e w' => e = .returned (.tuple #[.int .u64 s, .agg #[.bool n, .bool z, .bool c, .bool v]]) ∧ Fr Nil w w') :
    Calls Try.prog 4 #[.int .u64 a, .int .u64 b, .bool cy] w fun e w' => e = .returned (.bool true) ∧ Below w.heap.size w w' := by
  have HA := Lib.hid hA
  have HB := Lib.hid hB
  clear hA hB
  go_enter Try.func4, Try.ntmps4
  go_wp2_with fail
  refine (examples_ok _).mono ?_
  rintro e w1 ⟨rfl, hf1⟩
  go_wp2_with fail
  refine (HA.out _).mono ?_
  rintro e w2 ⟨rfl, hf2⟩
  have F2 := hf1.trans hf2
  clear hf1 hf2
  go_wp2_with fail
  refine (HB.out _).mono ?_
  rintro e w3 ⟨rfl, hf3⟩
  have b3 : Blk w3 w2.heap.size 31 #[.bool n, .bool z, .bool c, .bool v] := Blk.fr0 (Blk.new _ _ _) hf3
  have F3 := (F2.alloc (.cells #[.bool n, .bool z, .bool c, .bool v] 31)).trans hf3
  have hl := b3.lt
  clear F2 hf3
  generalize w2.heap.size = g1 at *
  go_upto_region 6 with fail
  have b4 : Blk (w3.alloc (.cells #[.bool n, .bool z, .bool c, .bool v] 34)) g1 31 #[.bool n, .bool z, .bool c, .bool v] := Blk.alloc b3 _
  have c4 : Blk (w3.alloc (.cells #[.bool n, .bool z, .bool c, .bool v] 34)) w3.heap.size 34 #[.bool n, .bool z, .bool c, .bool v] := Blk.new _ _ _
  have F4 := F3.alloc (.cells #[.bool n, .bool z, .bool c, .bool v] 34)
  clear F3 b3
  generalize w3.alloc (.cells #[.bool n, .bool z, .bool c, .bool v] 34) = w4 at *
  generalize w3.heap.size = g2 at *
  have x0 : w4.cell? ⟨g1, 0, none⟩ = some (.bool n) := b4.cellv rfl
  have x1 : w4.cell? ⟨g1, 1, none⟩ = some (.bool z) := b4.cellv rfl
  have x2 : w4.cell? ⟨g1, 2, none⟩ = some (.bool c) := b4.cellv rfl
  have x3 : w4.cell? ⟨g1, 3, none⟩ = some (.bool v) := b4.cellv rfl
  have y0 : w4.cell? ⟨g2, 0, none⟩ = some (.bool n) := c4.cellv rfl
  have y1 : w4.cell? ⟨g2, 1, none⟩ = some (.bool z) := c4.cellv rfl
  have y2 : w4.cell? ⟨g2, 2, none⟩ = some (.bool c) := c4.cellv rfl
  have y3 : w4.cell? ⟨g2, 3, none⟩ = some (.bool v) := c4.cellv rfl
  clear b4 c4
  go_wp2_with fail
  all_goals go_ret
  all_goals exact ⟨by first | rfl | simp [*], F4.below (Nat.le_refl _) (fun _ _ => id)⟩
theorem u64_rng' {a : Int} (h : (Lit.int .u64 a).wf = true) : 0 ≤ a ∧ a ≤ 18446744073709551615 := by
  simp only [Lit.wf, Bool.and_eq_true, decide_eq_true_eq] at h
  exact h
theorem aluAdds_walk (a1 a2 : Int) (a3 : Bool) (w : World) (w1 : (Lit.int .u64 a1).wf = true) (w2 : (Lit.int .u64 a2).wf = true) :
    Calls Try.prog 4 #[.int .u64 a1, .int .u64 a2, .bool a3] w fun e w' => e = .returned (.bool true) ∧ Below w.heap.size w w' := by
  obtain ⟨a0, a9⟩ := u64_rng' w1
  obtain ⟨b0, b9⟩ := u64_rng' w2
  obtain ⟨n, rfl⟩ : ∃ n : Nat, a1 = (n : Int) := ⟨a1.toNat, by omega⟩
  obtain ⟨m, rfl⟩ : ∃ m : Nat, a2 = (m : Int) := ⟨a2.toNat, by omega⟩
  have hn : n < 2 ^ 64 := by omega
  have hm : m < 2 ^ 64 := by omega
  cases a3 with
  | false =>
    refine adds_gen n m _ false _ _ _ _ w (fun w => ?_) (fun w => radd_0 n m w hn hm)
    have h := add_0 n m w a0 b0
    have e1 := flags_same n m 0 (by omega) hn hm
    have e2 := s_64 n m 0 hn hm
    simp only [Int.natCast_zero, Int.cast_ofNat_Int] at e1 e2
    rw [e1, ← e2] at h
    exact h
  | true =>
    refine adds_gen n m _ true _ _ _ _ w (fun w => ?_) (fun w => radd_1 n m w hn hm)
    have h := add_1 n m w a0 b0
    have e1 := flags_same n m 1 (by omega) hn hm
    have e2 := s_64 n m 1 hn hm
    have e3 : ((1 : Nat) : Int) = 1 := rfl
    rw [e3] at e1 e2
    rw [e1, ← e2] at h
    exact h
end Go.Proofs.Ytbhpakjflcmnoaa
