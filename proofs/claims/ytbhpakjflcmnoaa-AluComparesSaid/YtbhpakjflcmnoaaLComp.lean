/- The walk of AluCompares. -/
import Derived.Test.YtbhpakjflcmnoaaLLaws
namespace Go.Proofs.Ytbhpakjflcmnoaa
open Go.RowKit
set_option linter.unusedVariables false

set_option maxRecDepth 100000 in
set_option maxHeartbeats 8000000 in
theorem comp_gen (a b nb s : Int) (L B S O n v : Bool) (w : World)
    (e1 : bits .xor .u64 b 18446744073709551615 = nb)
    (hA : ∀ w, Calls Try.prog 12 #[.int .u64 a, .int .u64 nb, .bool true] w fun e w' => e = .returned (.tuple #[.int .u64 s, .agg #[.bool n, .bool S, .bool (!L), .bool v]]) ∧ Fr Nil w w')
    (es : IntKind.u64.wrap (a - b) = s)
    (h1 : RK 14 a b (tr L)) (h2 : RK 15 a b (tr B)) (h3 : RK 13 a b (tr S)) (h4 : RK 14 b a (tr O))
    (eS : (a == b) = S) (hB : B = (n != v)) (hx : (L = true ∧ S = false ∧ O = false) ∨ (L = false ∧ S = true ∧ O = false) ∨ (L = false ∧ S = false ∧ O = true)) :
    Calls Try.prog 6 #[.int .u64 a, .int .u64 b] w fun e w' => e = .returned (.bool true) ∧ Below w.heap.size w w' := by
  have HA := Lib.hid hA
  have H1 := Lib.hid h1
  have H2 := Lib.hid h2
  have H3 := Lib.hid h3
  have H4 := Lib.hid h4
  clear hA h1 h2 h3 h4
  subst hB
  rcases hx with ⟨rfl, rfl, rfl⟩ | ⟨rfl, rfl, rfl⟩ | ⟨rfl, rfl, rfl⟩
  · cases n <;> cases v
    · have tL : tr true = 1 := rfl
      have tB : tr false = 0 := rfl
      have tS : tr false = 0 := rfl
      have tO : tr false = 0 := rfl
      have q1 : (false != false) = false := rfl
      have q2 : (!true) = false := rfl
      rw [q1] at H2
      rw [q2] at HA
      go_enter Try.func6, Try.ntmps6
      go_wp2_with fail
      refine (examples_ok _).mono ?_
      rintro e w1 ⟨rfl, hf1⟩
      go_wp2_with fail
      refine (HA.out _).mono ?_
      rintro e w2 ⟨rfl, hf2⟩
      have F2 := hf1.trans hf2
      clear hf1 hf2
      go_upto_region 5 with fail
      have b4 : Blk (w2.alloc (.cells #[.bool false, .bool false, .bool false, .bool false] 31)) w2.heap.size 31 #[.bool false, .bool false, .bool false, .bool false] := Blk.new _ _ _
      have F4 := F2.alloc (.cells #[.bool false, .bool false, .bool false, .bool false] 31)
      clear F2
      generalize w2.alloc (.cells #[.bool false, .bool false, .bool false, .bool false] 31) = w4 at *
      generalize w2.heap.size = g1 at *
      have x0 : w4.cell? ⟨g1, 0, none⟩ = some (.bool false) := b4.cellv rfl
      have x1 : w4.cell? ⟨g1, 1, none⟩ = some (.bool false) := b4.cellv rfl
      have x2 : w4.cell? ⟨g1, 2, none⟩ = some (.bool false) := b4.cellv rfl
      have x3 : w4.cell? ⟨g1, 3, none⟩ = some (.bool false) := b4.cellv rfl
      clear b4
      go_wp2_with fail
      refine (H1.out _).mono ?_
      rintro e w5 ⟨rfl, rfl⟩
      go_wp2_with fail
      refine (H2.out _).mono ?_
      rintro e w5 ⟨rfl, rfl⟩
      go_wp2_with fail
      refine (H3.out _).mono ?_
      rintro e w5 ⟨rfl, rfl⟩
      go_wp2_with fail
      refine (H4.out _).mono ?_
      rintro e w5 ⟨rfl, rfl⟩
      go_wp2_with fail
      all_goals go_ret
      all_goals exact ⟨by first | rfl | simp [*], F4.below (Nat.le_refl _) (fun _ _ => id)⟩
    · have tL : tr true = 1 := rfl
      have tB : tr true = 1 := rfl
      have tS : tr false = 0 := rfl
      have tO : tr false = 0 := rfl
      have q1 : (false != true) = true := rfl
      have q2 : (!true) = false := rfl
      rw [q1] at H2
      rw [q2] at HA
      go_enter Try.func6, Try.ntmps6
      go_wp2_with fail
      refine (examples_ok _).mono ?_
      rintro e w1 ⟨rfl, hf1⟩
      go_wp2_with fail
      refine (HA.out _).mono ?_
      rintro e w2 ⟨rfl, hf2⟩
      have F2 := hf1.trans hf2
      clear hf1 hf2
      go_upto_region 5 with fail
      have b4 : Blk (w2.alloc (.cells #[.bool false, .bool false, .bool false, .bool true] 31)) w2.heap.size 31 #[.bool false, .bool false, .bool false, .bool true] := Blk.new _ _ _
      have F4 := F2.alloc (.cells #[.bool false, .bool false, .bool false, .bool true] 31)
      clear F2
      generalize w2.alloc (.cells #[.bool false, .bool false, .bool false, .bool true] 31) = w4 at *
      generalize w2.heap.size = g1 at *
      have x0 : w4.cell? ⟨g1, 0, none⟩ = some (.bool false) := b4.cellv rfl
      have x1 : w4.cell? ⟨g1, 1, none⟩ = some (.bool false) := b4.cellv rfl
      have x2 : w4.cell? ⟨g1, 2, none⟩ = some (.bool false) := b4.cellv rfl
      have x3 : w4.cell? ⟨g1, 3, none⟩ = some (.bool true) := b4.cellv rfl
      clear b4
      go_wp2_with fail
      refine (H1.out _).mono ?_
      rintro e w5 ⟨rfl, rfl⟩
      go_wp2_with fail
      refine (H2.out _).mono ?_
      rintro e w5 ⟨rfl, rfl⟩
      go_wp2_with fail
      refine (H3.out _).mono ?_
      rintro e w5 ⟨rfl, rfl⟩
      go_wp2_with fail
      refine (H4.out _).mono ?_
      rintro e w5 ⟨rfl, rfl⟩
      go_wp2_with fail
      all_goals go_ret
      all_goals exact ⟨by first | rfl | simp [*], F4.below (Nat.le_refl _) (fun _ _ => id)⟩
    · have tL : tr true = 1 := rfl
      have tB : tr true = 1 := rfl
      have tS : tr false = 0 := rfl
      have tO : tr false = 0 := rfl
      have q1 : (true != false) = true := rfl
      have q2 : (!true) = false := rfl
      rw [q1] at H2
      rw [q2] at HA
      go_enter Try.func6, Try.ntmps6
      go_wp2_with fail
      refine (examples_ok _).mono ?_
      rintro e w1 ⟨rfl, hf1⟩
      go_wp2_with fail
      refine (HA.out _).mono ?_
      rintro e w2 ⟨rfl, hf2⟩
      have F2 := hf1.trans hf2
      clear hf1 hf2
      go_upto_region 5 with fail
      have b4 : Blk (w2.alloc (.cells #[.bool true, .bool false, .bool false, .bool false] 31)) w2.heap.size 31 #[.bool true, .bool false, .bool false, .bool false] := Blk.new _ _ _
      have F4 := F2.alloc (.cells #[.bool true, .bool false, .bool false, .bool false] 31)
      clear F2
      generalize w2.alloc (.cells #[.bool true, .bool false, .bool false, .bool false] 31) = w4 at *
      generalize w2.heap.size = g1 at *
      have x0 : w4.cell? ⟨g1, 0, none⟩ = some (.bool true) := b4.cellv rfl
      have x1 : w4.cell? ⟨g1, 1, none⟩ = some (.bool false) := b4.cellv rfl
      have x2 : w4.cell? ⟨g1, 2, none⟩ = some (.bool false) := b4.cellv rfl
      have x3 : w4.cell? ⟨g1, 3, none⟩ = some (.bool false) := b4.cellv rfl
      clear b4
      go_wp2_with fail
      refine (H1.out _).mono ?_
      rintro e w5 ⟨rfl, rfl⟩
      go_wp2_with fail
      refine (H2.out _).mono ?_
      rintro e w5 ⟨rfl, rfl⟩
      go_wp2_with fail
      refine (H3.out _).mono ?_
      rintro e w5 ⟨rfl, rfl⟩
      go_wp2_with fail
      refine (H4.out _).mono ?_
      rintro e w5 ⟨rfl, rfl⟩
      go_wp2_with fail
      all_goals go_ret
      all_goals exact ⟨by first | rfl | simp [*], F4.below (Nat.le_refl _) (fun _ _ => id)⟩
    · have tL : tr true = 1 := rfl
      have tB : tr false = 0 := rfl
      have tS : tr false = 0 := rfl
      have tO : tr false = 0 := rfl
      have q1 : (true != true) = false := rfl
      have q2 : (!true) = false := rfl
      rw [q1] at H2
      rw [q2] at HA
      go_enter Try.func6, Try.ntmps6
      go_wp2_with fail
      refine (examples_ok _).mono ?_
      rintro e w1 ⟨rfl, hf1⟩
      go_wp2_with fail
      refine (HA.out _).mono ?_
      rintro e w2 ⟨rfl, hf2⟩
      have F2 := hf1.trans hf2
      clear hf1 hf2
      go_upto_region 5 with fail
      have b4 : Blk (w2.alloc (.cells #[.bool true, .bool false, .bool false, .bool true] 31)) w2.heap.size 31 #[.bool true, .bool false, .bool false, .bool true] := Blk.new _ _ _
      have F4 := F2.alloc (.cells #[.bool true, .bool false, .bool false, .bool true] 31)
      clear F2
      generalize w2.alloc (.cells #[.bool true, .bool false, .bool false, .bool true] 31) = w4 at *
      generalize w2.heap.size = g1 at *
      have x0 : w4.cell? ⟨g1, 0, none⟩ = some (.bool true) := b4.cellv rfl
      have x1 : w4.cell? ⟨g1, 1, none⟩ = some (.bool false) := b4.cellv rfl
      have x2 : w4.cell? ⟨g1, 2, none⟩ = some (.bool false) := b4.cellv rfl
      have x3 : w4.cell? ⟨g1, 3, none⟩ = some (.bool true) := b4.cellv rfl
      clear b4
      go_wp2_with fail
      refine (H1.out _).mono ?_
      rintro e w5 ⟨rfl, rfl⟩
      go_wp2_with fail
      refine (H2.out _).mono ?_
      rintro e w5 ⟨rfl, rfl⟩
      go_wp2_with fail
      refine (H3.out _).mono ?_
      rintro e w5 ⟨rfl, rfl⟩
      go_wp2_with fail
      refine (H4.out _).mono ?_
      rintro e w5 ⟨rfl, rfl⟩
      go_wp2_with fail
      all_goals go_ret
      all_goals exact ⟨by first | rfl | simp [*], F4.below (Nat.le_refl _) (fun _ _ => id)⟩
  · cases n <;> cases v
    · have tL : tr false = 0 := rfl
      have tB : tr false = 0 := rfl
      have tS : tr true = 1 := rfl
      have tO : tr false = 0 := rfl
      have q1 : (false != false) = false := rfl
      have q2 : (!false) = true := rfl
      rw [q1] at H2
      rw [q2] at HA
      go_enter Try.func6, Try.ntmps6
      go_wp2_with fail
      refine (examples_ok _).mono ?_
      rintro e w1 ⟨rfl, hf1⟩
      go_wp2_with fail
      refine (HA.out _).mono ?_
      rintro e w2 ⟨rfl, hf2⟩
      have F2 := hf1.trans hf2
      clear hf1 hf2
      go_upto_region 5 with fail
      have b4 : Blk (w2.alloc (.cells #[.bool false, .bool true, .bool true, .bool false] 31)) w2.heap.size 31 #[.bool false, .bool true, .bool true, .bool false] := Blk.new _ _ _
      have F4 := F2.alloc (.cells #[.bool false, .bool true, .bool true, .bool false] 31)
      clear F2
      generalize w2.alloc (.cells #[.bool false, .bool true, .bool true, .bool false] 31) = w4 at *
      generalize w2.heap.size = g1 at *
      have x0 : w4.cell? ⟨g1, 0, none⟩ = some (.bool false) := b4.cellv rfl
      have x1 : w4.cell? ⟨g1, 1, none⟩ = some (.bool true) := b4.cellv rfl
      have x2 : w4.cell? ⟨g1, 2, none⟩ = some (.bool true) := b4.cellv rfl
      have x3 : w4.cell? ⟨g1, 3, none⟩ = some (.bool false) := b4.cellv rfl
      clear b4
      go_wp2_with fail
      refine (H1.out _).mono ?_
      rintro e w5 ⟨rfl, rfl⟩
      go_wp2_with fail
      refine (H2.out _).mono ?_
      rintro e w5 ⟨rfl, rfl⟩
      go_wp2_with fail
      refine (H3.out _).mono ?_
      rintro e w5 ⟨rfl, rfl⟩
      go_wp2_with fail
      refine (H4.out _).mono ?_
      rintro e w5 ⟨rfl, rfl⟩
      go_wp2_with fail
      all_goals go_ret
      all_goals exact ⟨by first | rfl | simp [*], F4.below (Nat.le_refl _) (fun _ _ => id)⟩
    · have tL : tr false = 0 := rfl
      have tB : tr true = 1 := rfl
      have tS : tr true = 1 := rfl
      have tO : tr false = 0 := rfl
      have q1 : (false != true) = true := rfl
      have q2 : (!false) = true := rfl
      rw [q1] at H2
      rw [q2] at HA
      go_enter Try.func6, Try.ntmps6
      go_wp2_with fail
      refine (examples_ok _).mono ?_
      rintro e w1 ⟨rfl, hf1⟩
      go_wp2_with fail
      refine (HA.out _).mono ?_
      rintro e w2 ⟨rfl, hf2⟩
      have F2 := hf1.trans hf2
      clear hf1 hf2
      go_upto_region 5 with fail
      have b4 : Blk (w2.alloc (.cells #[.bool false, .bool true, .bool true, .bool true] 31)) w2.heap.size 31 #[.bool false, .bool true, .bool true, .bool true] := Blk.new _ _ _
      have F4 := F2.alloc (.cells #[.bool false, .bool true, .bool true, .bool true] 31)
      clear F2
      generalize w2.alloc (.cells #[.bool false, .bool true, .bool true, .bool true] 31) = w4 at *
      generalize w2.heap.size = g1 at *
      have x0 : w4.cell? ⟨g1, 0, none⟩ = some (.bool false) := b4.cellv rfl
      have x1 : w4.cell? ⟨g1, 1, none⟩ = some (.bool true) := b4.cellv rfl
      have x2 : w4.cell? ⟨g1, 2, none⟩ = some (.bool true) := b4.cellv rfl
      have x3 : w4.cell? ⟨g1, 3, none⟩ = some (.bool true) := b4.cellv rfl
      clear b4
      go_wp2_with fail
      refine (H1.out _).mono ?_
      rintro e w5 ⟨rfl, rfl⟩
      go_wp2_with fail
      refine (H2.out _).mono ?_
      rintro e w5 ⟨rfl, rfl⟩
      go_wp2_with fail
      refine (H3.out _).mono ?_
      rintro e w5 ⟨rfl, rfl⟩
      go_wp2_with fail
      refine (H4.out _).mono ?_
      rintro e w5 ⟨rfl, rfl⟩
      go_wp2_with fail
      all_goals go_ret
      all_goals exact ⟨by first | rfl | simp [*], F4.below (Nat.le_refl _) (fun _ _ => id)⟩
    · have tL : tr false = 0 := rfl
      have tB : tr true = 1 := rfl
      have tS : tr true = 1 := rfl
      have tO : tr false = 0 := rfl
      have q1 : (true != false) = true := rfl
      have q2 : (!false) = true := rfl
      rw [q1] at H2
      rw [q2] at HA
      go_enter Try.func6, Try.ntmps6
      go_wp2_with fail
      refine (examples_ok _).mono ?_
      rintro e w1 ⟨rfl, hf1⟩
      go_wp2_with fail
      refine (HA.out _).mono ?_
      rintro e w2 ⟨rfl, hf2⟩
      have F2 := hf1.trans hf2
      clear hf1 hf2
      go_upto_region 5 with fail
      have b4 : Blk (w2.alloc (.cells #[.bool true, .bool true, .bool true, .bool false] 31)) w2.heap.size 31 #[.bool true, .bool true, .bool true, .bool false] := Blk.new _ _ _
      have F4 := F2.alloc (.cells #[.bool true, .bool true, .bool true, .bool false] 31)
      clear F2
      generalize w2.alloc (.cells #[.bool true, .bool true, .bool true, .bool false] 31) = w4 at *
      generalize w2.heap.size = g1 at *
      have x0 : w4.cell? ⟨g1, 0, none⟩ = some (.bool true) := b4.cellv rfl
      have x1 : w4.cell? ⟨g1, 1, none⟩ = some (.bool true) := b4.cellv rfl
      have x2 : w4.cell? ⟨g1, 2, none⟩ = some (.bool true) := b4.cellv rfl
      have x3 : w4.cell? ⟨g1, 3, none⟩ = some (.bool false) := b4.cellv rfl
      clear b4
      go_wp2_with fail
      refine (H1.out _).mono ?_
      rintro e w5 ⟨rfl, rfl⟩
      go_wp2_with fail
      refine (H2.out _).mono ?_
      rintro e w5 ⟨rfl, rfl⟩
      go_wp2_with fail
      refine (H3.out _).mono ?_
      rintro e w5 ⟨rfl, rfl⟩
      go_wp2_with fail
      refine (H4.out _).mono ?_
      rintro e w5 ⟨rfl, rfl⟩
      go_wp2_with fail
      all_goals go_ret
      all_goals exact ⟨by first | rfl | simp [*], F4.below (Nat.le_refl _) (fun _ _ => id)⟩
    · have tL : tr false = 0 := rfl
      have tB : tr false = 0 := rfl
      have tS : tr true = 1 := rfl
      have tO : tr false = 0 := rfl
      have q1 : (true != true) = false := rfl
      have q2 : (!false) = true := rfl
      rw [q1] at H2
      rw [q2] at HA
      go_enter Try.func6, Try.ntmps6
      go_wp2_with fail
      refine (examples_ok _).mono ?_
      rintro e w1 ⟨rfl, hf1⟩
      go_wp2_with fail
      refine (HA.out _).mono ?_
      rintro e w2 ⟨rfl, hf2⟩
      have F2 := hf1.trans hf2
      clear hf1 hf2
      go_upto_region 5 with fail
      have b4 : Blk (w2.alloc (.cells #[.bool true, .bool true, .bool true, .bool true] 31)) w2.heap.size 31 #[.bool true, .bool true, .bool true, .bool true] := Blk.new _ _ _
      have F4 := F2.alloc (.cells #[.bool true, .bool true, .bool true, .bool true] 31)
      clear F2
      generalize w2.alloc (.cells #[.bool true, .bool true, .bool true, .bool true] 31) = w4 at *
      generalize w2.heap.size = g1 at *
      have x0 : w4.cell? ⟨g1, 0, none⟩ = some (.bool true) := b4.cellv rfl
      have x1 : w4.cell? ⟨g1, 1, none⟩ = some (.bool true) := b4.cellv rfl
      have x2 : w4.cell? ⟨g1, 2, none⟩ = some (.bool true) := b4.cellv rfl
      have x3 : w4.cell? ⟨g1, 3, none⟩ = some (.bool true) := b4.cellv rfl
      clear b4
      go_wp2_with fail
      refine (H1.out _).mono ?_
      rintro e w5 ⟨rfl, rfl⟩
      go_wp2_with fail
      refine (H2.out _).mono ?_
      rintro e w5 ⟨rfl, rfl⟩
      go_wp2_with fail
      refine (H3.out _).mono ?_
      rintro e w5 ⟨rfl, rfl⟩
      go_wp2_with fail
      refine (H4.out _).mono ?_
      rintro e w5 ⟨rfl, rfl⟩
      go_wp2_with fail
      all_goals go_ret
      all_goals exact ⟨by first | rfl | simp [*], F4.below (Nat.le_refl _) (fun _ _ => id)⟩
  · cases n <;> cases v
    · have tL : tr false = 0 := rfl
      have tB : tr false = 0 := rfl
      have tS : tr false = 0 := rfl
      have tO : tr true = 1 := rfl
      have q1 : (false != false) = false := rfl
      have q2 : (!false) = true := rfl
      rw [q1] at H2
      rw [q2] at HA
      go_enter Try.func6, Try.ntmps6
      go_wp2_with fail
      refine (examples_ok _).mono ?_
      rintro e w1 ⟨rfl, hf1⟩
      go_wp2_with fail
      refine (HA.out _).mono ?_
      rintro e w2 ⟨rfl, hf2⟩
      have F2 := hf1.trans hf2
      clear hf1 hf2
      go_upto_region 5 with fail
      have b4 : Blk (w2.alloc (.cells #[.bool false, .bool false, .bool true, .bool false] 31)) w2.heap.size 31 #[.bool false, .bool false, .bool true, .bool false] := Blk.new _ _ _
      have F4 := F2.alloc (.cells #[.bool false, .bool false, .bool true, .bool false] 31)
      clear F2
      generalize w2.alloc (.cells #[.bool false, .bool false, .bool true, .bool false] 31) = w4 at *
      generalize w2.heap.size = g1 at *
      have x0 : w4.cell? ⟨g1, 0, none⟩ = some (.bool false) := b4.cellv rfl
      have x1 : w4.cell? ⟨g1, 1, none⟩ = some (.bool false) := b4.cellv rfl
      have x2 : w4.cell? ⟨g1, 2, none⟩ = some (.bool true) := b4.cellv rfl
      have x3 : w4.cell? ⟨g1, 3, none⟩ = some (.bool false) := b4.cellv rfl
      clear b4
      go_wp2_with fail
      refine (H1.out _).mono ?_
      rintro e w5 ⟨rfl, rfl⟩
      go_wp2_with fail
      refine (H2.out _).mono ?_
      rintro e w5 ⟨rfl, rfl⟩
      go_wp2_with fail
      refine (H3.out _).mono ?_
      rintro e w5 ⟨rfl, rfl⟩
      go_wp2_with fail
      refine (H4.out _).mono ?_
      rintro e w5 ⟨rfl, rfl⟩
      go_wp2_with fail
      all_goals go_ret
      all_goals exact ⟨by first | rfl | simp [*], F4.below (Nat.le_refl _) (fun _ _ => id)⟩
    · have tL : tr false = 0 := rfl
      have tB : tr true = 1 := rfl
      have tS : tr false = 0 := rfl
      have tO : tr true = 1 := rfl
      have q1 : (false != true) = true := rfl
      have q2 : (!false) = true := rfl
      rw [q1] at H2
      rw [q2] at HA
      go_enter Try.func6, Try.ntmps6
      go_wp2_with fail
      refine (examples_ok _).mono ?_
      rintro e w1 ⟨rfl, hf1⟩
      go_wp2_with fail
      refine (HA.out _).mono ?_
      rintro e w2 ⟨rfl, hf2⟩
      have F2 := hf1.trans hf2
      clear hf1 hf2
      go_upto_region 5 with fail
      have b4 : Blk (w2.alloc (.cells #[.bool false, .bool false, .bool true, .bool true] 31)) w2.heap.size 31 #[.bool false, .bool false, .bool true, .bool true] := Blk.new _ _ _
      have F4 := F2.alloc (.cells #[.bool false, .bool false, .bool true, .bool true] 31)
      clear F2
      generalize w2.alloc (.cells #[.bool false, .bool false, .bool true, .bool true] 31) = w4 at *
      generalize w2.heap.size = g1 at *
      have x0 : w4.cell? ⟨g1, 0, none⟩ = some (.bool false) := b4.cellv rfl
      have x1 : w4.cell? ⟨g1, 1, none⟩ = some (.bool false) := b4.cellv rfl
      have x2 : w4.cell? ⟨g1, 2, none⟩ = some (.bool true) := b4.cellv rfl
      have x3 : w4.cell? ⟨g1, 3, none⟩ = some (.bool true) := b4.cellv rfl
      clear b4
      go_wp2_with fail
      refine (H1.out _).mono ?_
      rintro e w5 ⟨rfl, rfl⟩
      go_wp2_with fail
      refine (H2.out _).mono ?_
      rintro e w5 ⟨rfl, rfl⟩
      go_wp2_with fail
      refine (H3.out _).mono ?_
      rintro e w5 ⟨rfl, rfl⟩
      go_wp2_with fail
      refine (H4.out _).mono ?_
      rintro e w5 ⟨rfl, rfl⟩
      go_wp2_with fail
      all_goals go_ret
      all_goals exact ⟨by first | rfl | simp [*], F4.below (Nat.le_refl _) (fun _ _ => id)⟩
    · have tL : tr false = 0 := rfl
      have tB : tr true = 1 := rfl
      have tS : tr false = 0 := rfl
      have tO : tr true = 1 := rfl
      have q1 : (true != false) = true := rfl
      have q2 : (!false) = true := rfl
      rw [q1] at H2
      rw [q2] at HA
      go_enter Try.func6, Try.ntmps6
      go_wp2_with fail
      refine (examples_ok _).mono ?_
      rintro e w1 ⟨rfl, hf1⟩
      go_wp2_with fail
      refine (HA.out _).mono ?_
      rintro e w2 ⟨rfl, hf2⟩
      have F2 := hf1.trans hf2
      clear hf1 hf2
      go_upto_region 5 with fail
      have b4 : Blk (w2.alloc (.cells #[.bool true, .bool false, .bool true, .bool false] 31)) w2.heap.size 31 #[.bool true, .bool false, .bool true, .bool false] := Blk.new _ _ _
      have F4 := F2.alloc (.cells #[.bool true, .bool false, .bool true, .bool false] 31)
      clear F2
      generalize w2.alloc (.cells #[.bool true, .bool false, .bool true, .bool false] 31) = w4 at *
      generalize w2.heap.size = g1 at *
      have x0 : w4.cell? ⟨g1, 0, none⟩ = some (.bool true) := b4.cellv rfl
      have x1 : w4.cell? ⟨g1, 1, none⟩ = some (.bool false) := b4.cellv rfl
      have x2 : w4.cell? ⟨g1, 2, none⟩ = some (.bool true) := b4.cellv rfl
      have x3 : w4.cell? ⟨g1, 3, none⟩ = some (.bool false) := b4.cellv rfl
      clear b4
      go_wp2_with fail
      refine (H1.out _).mono ?_
      rintro e w5 ⟨rfl, rfl⟩
      go_wp2_with fail
      refine (H2.out _).mono ?_
      rintro e w5 ⟨rfl, rfl⟩
      go_wp2_with fail
      refine (H3.out _).mono ?_
      rintro e w5 ⟨rfl, rfl⟩
      go_wp2_with fail
      refine (H4.out _).mono ?_
      rintro e w5 ⟨rfl, rfl⟩
      go_wp2_with fail
      all_goals go_ret
      all_goals exact ⟨by first | rfl | simp [*], F4.below (Nat.le_refl _) (fun _ _ => id)⟩
    · have tL : tr false = 0 := rfl
      have tB : tr false = 0 := rfl
      have tS : tr false = 0 := rfl
      have tO : tr true = 1 := rfl
      have q1 : (true != true) = false := rfl
      have q2 : (!false) = true := rfl
      rw [q1] at H2
      rw [q2] at HA
      go_enter Try.func6, Try.ntmps6
      go_wp2_with fail
      refine (examples_ok _).mono ?_
      rintro e w1 ⟨rfl, hf1⟩
      go_wp2_with fail
      refine (HA.out _).mono ?_
      rintro e w2 ⟨rfl, hf2⟩
      have F2 := hf1.trans hf2
      clear hf1 hf2
      go_upto_region 5 with fail
      have b4 : Blk (w2.alloc (.cells #[.bool true, .bool false, .bool true, .bool true] 31)) w2.heap.size 31 #[.bool true, .bool false, .bool true, .bool true] := Blk.new _ _ _
      have F4 := F2.alloc (.cells #[.bool true, .bool false, .bool true, .bool true] 31)
      clear F2
      generalize w2.alloc (.cells #[.bool true, .bool false, .bool true, .bool true] 31) = w4 at *
      generalize w2.heap.size = g1 at *
      have x0 : w4.cell? ⟨g1, 0, none⟩ = some (.bool true) := b4.cellv rfl
      have x1 : w4.cell? ⟨g1, 1, none⟩ = some (.bool false) := b4.cellv rfl
      have x2 : w4.cell? ⟨g1, 2, none⟩ = some (.bool true) := b4.cellv rfl
      have x3 : w4.cell? ⟨g1, 3, none⟩ = some (.bool true) := b4.cellv rfl
      clear b4
      go_wp2_with fail
      refine (H1.out _).mono ?_
      rintro e w5 ⟨rfl, rfl⟩
      go_wp2_with fail
      refine (H2.out _).mono ?_
      rintro e w5 ⟨rfl, rfl⟩
      go_wp2_with fail
      refine (H3.out _).mono ?_
      rintro e w5 ⟨rfl, rfl⟩
      go_wp2_with fail
      refine (H4.out _).mono ?_
      rintro e w5 ⟨rfl, rfl⟩
      go_wp2_with fail
      all_goals go_ret
      all_goals exact ⟨by first | rfl | simp [*], F4.below (Nat.le_refl _) (fun _ _ => id)⟩
theorem not_all (b : Int) (b0 : 0 ≤ b) (b9 : b ≤ 18446744073709551615) : bits .xor .u64 b 18446744073709551615 = 18446744073709551615 - b := by
  obtain ⟨m, rfl⟩ : ∃ m : Nat, b = (m : Int) := ⟨b.toNat, by omega⟩
  have hm : m < 2 ^ 64 := by omega
  have e := xorN m 18446744073709551615 hm (by decide)
  have e3 : ((18446744073709551615 : Nat) : Int) = 18446744073709551615 := rfl
  rw [e3] at e
  rw [e]
  have key : m ^^^ 18446744073709551615 = 2 ^ 64 - 1 - m := by
    apply Nat.eq_of_testBit_eq
    intro i
    rw [Nat.testBit_xor, show (18446744073709551615 : Nat) = 2 ^ 64 - 1 from rfl, Nat.testBit_two_pow_sub_one]
    have h2 := Nat.testBit_two_pow_sub_succ hm i
    have e5 : 2 ^ 64 - (m + 1) = 2 ^ 64 - 1 - m := by omega
    rw [e5] at h2
    rw [h2]
    by_cases hi : i < 64
    · simp [hi]
    · simp [hi]
      exact Nat.testBit_lt_two_pow (Nat.lt_of_lt_of_le hm (Nat.pow_le_pow_right (by omega) (by omega)))
  rw [key]
  omega
theorem tr_def (b : Bool) : tr b = tr b := rfl
theorem aluCompares_walk (a1 a2 : Int) (w : World) (w1 : (Lit.int .u64 a1).wf = true) (w2 : (Lit.int .u64 a2).wf = true) :
    Calls Try.prog 6 #[.int .u64 a1, .int .u64 a2] w fun e w' => e = .returned (.bool true) ∧ Below w.heap.size w w' := by
  obtain ⟨a0, a9⟩ := u64_rng2 w1
  obtain ⟨b0, b9⟩ := u64_rng2 w2
  obtain ⟨x, hx⟩ : ∃ x : Nat, a1 = (x : Int) := ⟨a1.toNat, by omega⟩
  obtain ⟨y, hy⟩ : ∃ y : Nat, 18446744073709551615 - a2 = (y : Int) := ⟨(18446744073709551615 - a2).toNat, by omega⟩
  have hxl : x < 2 ^ 64 := by omega
  have hyl : y < 2 ^ 64 := by omega
  have hfl := flags_same x y 1 (by omega) hxl hyl
  have hs := s_64 x y 1 hxl hyl
  have hc := c_64 x y 1 hxl hyl
  have e3 : ((1 : Nat) : Int) = 1 := rfl
  rw [e3] at hfl hs hc
  have hsv : sumF x y 1 = IntKind.u64.wrap (a1 - a2) := by
    unfold sumF
    rw [IntKind.wrap_u64]
    omega
  have hov : (outF x y 1 == 1) = !(decide (a1 < a2)) := by
    unfold outF
    rw [Bool.eq_iff_iff, beq_iff_eq, Bool.not_eq_true', decide_eq_false_iff_not]
    omega
  have hz : (sumF x y 1 == 0) = (a1 == a2) := by
    unfold sumF
    rw [Bool.eq_iff_iff, beq_iff_eq, beq_iff_eq]
    omega
  have hsgn : decide (wrap64 a1 < wrap64 a2) = (((sN x y 1 64 : Int) / 9223372036854775808 == 1) != ((cN x y 1 64 : Int) != (cN x y 1 63 : Int))) := by
    rw [hs, hc]
    have c63 : (cN x y 1 63 : Int) = ((x : Int) % 9223372036854775808 + (y : Int) % 9223372036854775808 + 1) / 9223372036854775808 := by
      unfold cN
      omega
    rw [c63]
    unfold sumF outF
    have p1 : (((x : Int) + (y : Int) + 1) % 18446744073709551616 / 9223372036854775808 == 1) = decide (((x : Int) + (y : Int) + 1) % 18446744073709551616 / 9223372036854775808 = 1) := rfl
    have p2 : (((x : Int) + (y : Int) + 1) / 18446744073709551616 != ((x : Int) % 9223372036854775808 + (y : Int) % 9223372036854775808 + 1) / 9223372036854775808) = !decide (((x : Int) + (y : Int) + 1) / 18446744073709551616 = ((x : Int) % 9223372036854775808 + (y : Int) % 9223372036854775808 + 1) / 9223372036854775808) := rfl
    rw [p1, p2]
    by_cases q1 : ((x : Int) + (y : Int) + 1) % 18446744073709551616 / 9223372036854775808 = 1 <;>
    by_cases q2 : ((x : Int) + (y : Int) + 1) / 18446744073709551616 = ((x : Int) % 9223372036854775808 + (y : Int) % 9223372036854775808 + 1) / 9223372036854775808
    · have : wrap64 a1 < wrap64 a2 := by unfold wrap64; omega
      simp [q1, q2, this]
    · have : ¬ wrap64 a1 < wrap64 a2 := by unfold wrap64; omega
      simp [q1, q2, this]
    · have : ¬ wrap64 a1 < wrap64 a2 := by unfold wrap64; omega
      simp [q1, q2, this]
    · have : wrap64 a1 < wrap64 a2 := by unfold wrap64; omega
      simp [q1, q2, this]
  have hA : ∀ w, Calls Try.prog 12 #[.int .u64 a1, .int .u64 (18446744073709551615 - a2), .bool true] w fun e w' => e = .returned (.tuple #[.int .u64 (IntKind.u64.wrap (a1 - a2)), .agg #[.bool ((sN x y 1 64 : Int) / 9223372036854775808 == 1), .bool (a1 == a2), .bool (!(decide (a1 < a2))), .bool ((cN x y 1 64 : Int) != (cN x y 1 63 : Int))]]) ∧ Fr Nil w w' := by
    intro w
    have h := add_1 a1 (18446744073709551615 - a2) w a0 (by omega)
    rw [hy, hx, hfl, hsv, hc, hov] at h
    rw [hs, hz] at h
    rw [hs, hc, hx, hy]
    rw [hx] at h
    exact h
  have h1 : RK 14 a1 a2 (tr (decide (a1 < a2))) := rk_ok 14 a1 a2 (by omega) (by omega) a0 a9 b0 b9
  have h2 : RK 15 a1 a2 (tr (decide (wrap64 a1 < wrap64 a2))) := rk_ok 15 a1 a2 (by omega) (by omega) a0 a9 b0 b9
  have h3 : RK 13 a1 a2 (tr (a1 == a2)) := rk_ok 13 a1 a2 (by omega) (by omega) a0 a9 b0 b9
  have h4 : RK 14 a2 a1 (tr (decide (a2 < a1))) := rk_ok 14 a2 a1 (by omega) (by omega) b0 b9 a0 a9
  refine comp_gen a1 a2 (18446744073709551615 - a2) _ _ _ _ _ _ _ w (not_all a2 b0 b9) hA rfl h1 h2 h3 h4 rfl hsgn ?_
  rcases Int.lt_trichotomy a1 a2 with h | h | h
  · left
    refine ⟨by simpa using h, by simp; omega, by simp; omega⟩
  · right; left
    refine ⟨by simp; omega, by simpa using h, by simp; omega⟩
  · right; right
    refine ⟨by simp; omega, by simp; omega, by simpa using h⟩
end Go.Proofs.Ytbhpakjflcmnoaa
