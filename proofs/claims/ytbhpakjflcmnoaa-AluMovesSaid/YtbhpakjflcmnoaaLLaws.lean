/- The walk of AluLaws. -/
import Derived.Test.YtbhpakjflcmnoaaEx
import Derived.Test.YtbhpakjflcmnoaaSum
namespace Go.Proofs.Ytbhpakjflcmnoaa
open Go.RowKit
set_option linter.unusedVariables false

def RK (k a b v : Int) : Prop := ∀ w, Calls Try.prog 14 #[.int .i64 k, .int .u64 a, .int .u64 b] w fun e w' => e = .returned (.int .u64 v) ∧ w = w'
theorem rk_ok (k : Nat) (a b : Int) (k0 : 1 ≤ k) (k1 : k ≤ 15) (a0 : 0 ≤ a) (a1 : a ≤ 18446744073709551615) (b0 : 0 ≤ b) (b1 : b ≤ 18446744073709551615) : RK k a b (opV k a b) := by
  intro w
  have h := reckon_ok k a b w k0 k1 a0 a1 b0 b1
  have H := Lib.hid h
  clear h k0 k1
  generalize opV k a b = v at *
  go_enter Try.func14, Try.ntmps14
  go_wp2_with fail
  refine H.out.mono ?_
  rintro e w2 ⟨rfl, rfl⟩
  go_wp2_with fail
  go_ret
  exact ⟨rfl, rfl⟩
set_option maxRecDepth 100000 in
set_option maxHeartbeats 4000000 in
theorem laws_zero (a b c x bc ab ac m q r s s2 t oo an : Int) (n z cc v : Bool) (w : World)
    (hA : ∀ w, Calls Try.prog 12 #[.int .u64 a, .int .u64 b, .bool false] w fun e w' => e = .returned (.tuple #[.int .u64 x, .agg #[.bool n, .bool z, .bool cc, .bool v]]) ∧ Fr Nil w w')
    (hB : ∀ w, Calls Try.prog 12 #[.int .u64 b, .int .u64 a, .bool false] w fun e w' => e = .returned (.tuple #[.int .u64 x, .agg #[.bool n, .bool z, .bool cc, .bool v]]) ∧ Fr Nil w w')
    (h1 : RK 1 a b x) (h2 : RK 2 x b a) (h3 : RK 1 b c bc) (h4 : RK 6 a bc m) (h5 : RK 6 a b ab) (h6 : RK 6 a c ac) (h7 : RK 1 ab ac m)
    (h8 : RK 7 a b q) (h9 : RK 8 a b s) (h11 : RK 5 a b t) (h12 : RK 5 t b a) (h13 : RK 4 a b oo) (h14 : RK 3 a b an) (e1 : IntKind.u64.wrap (oo + an) = IntKind.u64.wrap (a + b))
    (hb : b = 0) (hq : q = 0) :
    Calls Try.prog 5 #[.int .u64 a, .int .u64 b, .int .u64 c] w fun e w' => e = .returned (.bool true) ∧ Below w.heap.size w w' := by
  have HA := Lib.hid hA
  have HB := Lib.hid hB
  have H1 := Lib.hid h1
  have H2 := Lib.hid h2
  have H3 := Lib.hid h3
  have H4 := Lib.hid h4
  have H5 := Lib.hid h5
  have H6 := Lib.hid h6
  have H7 := Lib.hid h7
  have H8 := Lib.hid h8
  have H9 := Lib.hid h9
  have H11 := Lib.hid h11
  have H12 := Lib.hid h12
  have H13 := Lib.hid h13
  have H14 := Lib.hid h14
  clear hA hB h1 h2 h3 h4 h5 h6 h7 h8 h9 h11 h12 h13 h14
  have hb1 : (b != 0) = false := by simp [hb]
  have hb2 : (b == 0) = true := by simp [hb]
  have hq1 : (q != 0) = false := by simp [hq]
  clear hb hq
  go_enter Try.func5, Try.ntmps5
  go_wp2_with fail
  refine (examples_ok _).mono ?_
  rintro e w1 ⟨rfl, hf1⟩
  go_wp2_with fail
  refine (HA.out _).mono ?_
  rintro e w2 ⟨rfl, hf2⟩
  have F2 := hf1.trans hf2
  clear hf1 hf2
  go_wp2_with fail
  refine (HB.out _).mono ?_
  rintro e w3 ⟨rfl, hf3⟩
  have b3 : Blk w3 w2.heap.size 31 #[.bool n, .bool z, .bool cc, .bool v] := Blk.fr0 (Blk.new _ _ _) hf3
  have F3 := (F2.alloc (.cells #[.bool n, .bool z, .bool cc, .bool v] 31)).trans hf3
  have hl := b3.lt
  clear F2 hf3
  generalize w2.heap.size = g1 at *
  go_upto_region 6 with fail
  have b4 : Blk (w3.alloc (.cells #[.bool n, .bool z, .bool cc, .bool v] 31)) g1 31 #[.bool n, .bool z, .bool cc, .bool v] := Blk.alloc b3 _
  have c4 : Blk (w3.alloc (.cells #[.bool n, .bool z, .bool cc, .bool v] 31)) w3.heap.size 31 #[.bool n, .bool z, .bool cc, .bool v] := Blk.new _ _ _
  have F4 := F3.alloc (.cells #[.bool n, .bool z, .bool cc, .bool v] 31)
  clear F3 b3
  generalize w3.alloc (.cells #[.bool n, .bool z, .bool cc, .bool v] 31) = w4 at *
  generalize w3.heap.size = g2 at *
  have x0 : w4.cell? ⟨g1, 0, none⟩ = some (.bool n) := b4.cellv rfl
  have x1 : w4.cell? ⟨g1, 1, none⟩ = some (.bool z) := b4.cellv rfl
  have x2 : w4.cell? ⟨g1, 2, none⟩ = some (.bool cc) := b4.cellv rfl
  have x3 : w4.cell? ⟨g1, 3, none⟩ = some (.bool v) := b4.cellv rfl
  have y0 : w4.cell? ⟨g2, 0, none⟩ = some (.bool n) := c4.cellv rfl
  have y1 : w4.cell? ⟨g2, 1, none⟩ = some (.bool z) := c4.cellv rfl
  have y2 : w4.cell? ⟨g2, 2, none⟩ = some (.bool cc) := c4.cellv rfl
  have y3 : w4.cell? ⟨g2, 3, none⟩ = some (.bool v) := c4.cellv rfl
  clear b4 c4
  go_wp2_with fail
  refine (H1.out _).mono ?_
  rintro e w5 ⟨rfl, rfl⟩
  go_wp2_with fail
  refine (H2.out _).mono ?_
  rintro e w5 ⟨rfl, rfl⟩
  go_wp2_with fail
  refine (H3.out _).mono ?_
  rintro e w5 ⟨rfl, rfl⟩
  go_wp2_with fail
  refine (H4.out _).mono ?_
  rintro e w5 ⟨rfl, rfl⟩
  go_wp2_with fail
  refine (H5.out _).mono ?_
  rintro e w5 ⟨rfl, rfl⟩
  go_wp2_with fail
  refine (H6.out _).mono ?_
  rintro e w5 ⟨rfl, rfl⟩
  go_wp2_with fail
  refine (H7.out _).mono ?_
  rintro e w5 ⟨rfl, rfl⟩
  go_wp2_with fail
  refine (H8.out _).mono ?_
  rintro e w5 ⟨rfl, rfl⟩
  go_wp2_with fail
  refine (H9.out _).mono ?_
  rintro e w5 ⟨rfl, rfl⟩
  go_wp2_with fail
  refine (H11.out _).mono ?_
  rintro e w5 ⟨rfl, rfl⟩
  go_wp2_with fail
  refine (H12.out _).mono ?_
  rintro e w5 ⟨rfl, rfl⟩
  go_wp2_with fail
  refine (H13.out _).mono ?_
  rintro e w5 ⟨rfl, rfl⟩
  go_wp2_with fail
  refine (H14.out _).mono ?_
  rintro e w5 ⟨rfl, rfl⟩
  go_wp2_with fail
  all_goals go_ret
  all_goals exact ⟨by first | rfl | simp [*], F4.below (Nat.le_refl _) (fun _ _ => id)⟩
set_option maxRecDepth 100000 in
set_option maxHeartbeats 4000000 in
theorem laws_eq (a b c x bc ab ac m q r s s2 t oo an : Int) (n z cc v : Bool) (w : World)
    (hA : ∀ w, Calls Try.prog 12 #[.int .u64 a, .int .u64 b, .bool false] w fun e w' => e = .returned (.tuple #[.int .u64 x, .agg #[.bool n, .bool z, .bool cc, .bool v]]) ∧ Fr Nil w w')
    (hB : ∀ w, Calls Try.prog 12 #[.int .u64 b, .int .u64 a, .bool false] w fun e w' => e = .returned (.tuple #[.int .u64 x, .agg #[.bool n, .bool z, .bool cc, .bool v]]) ∧ Fr Nil w w')
    (h1 : RK 1 a b x) (h2 : RK 2 x b a) (h3 : RK 1 b c bc) (h4 : RK 6 a bc m) (h5 : RK 6 a b ab) (h6 : RK 6 a c ac) (h7 : RK 1 ab ac m)
    (h8 : RK 7 a b q) (h9 : RK 8 a b s) (h11 : RK 5 a b t) (h12 : RK 5 t b a) (h13 : RK 4 a b oo) (h14 : RK 3 a b an) (e1 : IntKind.u64.wrap (oo + an) = IntKind.u64.wrap (a + b))
    (hb : ¬ b = 0) (h10 : RK 8 (IntKind.u64.wrap (-a)) b s2) (er : IntKind.u64.wrap (a - IntKind.u64.wrap (q * b)) = r) (hr : r < b) (hqa : q ≤ a) (es : (s2 == IntKind.u64.wrap (-s)) = true) :
    Calls Try.prog 5 #[.int .u64 a, .int .u64 b, .int .u64 c] w fun e w' => e = .returned (.bool true) ∧ Below w.heap.size w w' := by
  have HA := Lib.hid hA
  have HB := Lib.hid hB
  have H1 := Lib.hid h1
  have H2 := Lib.hid h2
  have H3 := Lib.hid h3
  have H4 := Lib.hid h4
  have H5 := Lib.hid h5
  have H6 := Lib.hid h6
  have H7 := Lib.hid h7
  have H8 := Lib.hid h8
  have H9 := Lib.hid h9
  have H11 := Lib.hid h11
  have H12 := Lib.hid h12
  have H13 := Lib.hid h13
  have H14 := Lib.hid h14
  have H10 := Lib.hid h10
  clear hA hB h1 h2 h3 h4 h5 h6 h7 h8 h9 h11 h12 h13 h14 h10
  have hb1 : (b != 0) = true := by simpa using hb
  have hb2 : (b == 0) = false := by simpa using hb
  have hr1 : decide (b ≤ r) = false := by simpa using hr
  have hq1 : decide (a < q) = false := by simpa using hqa
  go_enter Try.func5, Try.ntmps5
  go_wp2_with fail
  refine (examples_ok _).mono ?_
  rintro e w1 ⟨rfl, hf1⟩
  go_wp2_with fail
  refine (HA.out _).mono ?_
  rintro e w2 ⟨rfl, hf2⟩
  have F2 := hf1.trans hf2
  clear hf1 hf2
  go_wp2_with fail
  refine (HB.out _).mono ?_
  rintro e w3 ⟨rfl, hf3⟩
  have b3 : Blk w3 w2.heap.size 31 #[.bool n, .bool z, .bool cc, .bool v] := Blk.fr0 (Blk.new _ _ _) hf3
  have F3 := (F2.alloc (.cells #[.bool n, .bool z, .bool cc, .bool v] 31)).trans hf3
  have hl := b3.lt
  clear F2 hf3
  generalize w2.heap.size = g1 at *
  go_upto_region 6 with fail
  have b4 : Blk (w3.alloc (.cells #[.bool n, .bool z, .bool cc, .bool v] 31)) g1 31 #[.bool n, .bool z, .bool cc, .bool v] := Blk.alloc b3 _
  have c4 : Blk (w3.alloc (.cells #[.bool n, .bool z, .bool cc, .bool v] 31)) w3.heap.size 31 #[.bool n, .bool z, .bool cc, .bool v] := Blk.new _ _ _
  have F4 := F3.alloc (.cells #[.bool n, .bool z, .bool cc, .bool v] 31)
  clear F3 b3
  generalize w3.alloc (.cells #[.bool n, .bool z, .bool cc, .bool v] 31) = w4 at *
  generalize w3.heap.size = g2 at *
  have x0 : w4.cell? ⟨g1, 0, none⟩ = some (.bool n) := b4.cellv rfl
  have x1 : w4.cell? ⟨g1, 1, none⟩ = some (.bool z) := b4.cellv rfl
  have x2 : w4.cell? ⟨g1, 2, none⟩ = some (.bool cc) := b4.cellv rfl
  have x3 : w4.cell? ⟨g1, 3, none⟩ = some (.bool v) := b4.cellv rfl
  have y0 : w4.cell? ⟨g2, 0, none⟩ = some (.bool n) := c4.cellv rfl
  have y1 : w4.cell? ⟨g2, 1, none⟩ = some (.bool z) := c4.cellv rfl
  have y2 : w4.cell? ⟨g2, 2, none⟩ = some (.bool cc) := c4.cellv rfl
  have y3 : w4.cell? ⟨g2, 3, none⟩ = some (.bool v) := c4.cellv rfl
  clear b4 c4
  go_wp2_with fail
  refine (H1.out _).mono ?_
  rintro e w5 ⟨rfl, rfl⟩
  go_wp2_with fail
  refine (H2.out _).mono ?_
  rintro e w5 ⟨rfl, rfl⟩
  go_wp2_with fail
  refine (H3.out _).mono ?_
  rintro e w5 ⟨rfl, rfl⟩
  go_wp2_with fail
  refine (H4.out _).mono ?_
  rintro e w5 ⟨rfl, rfl⟩
  go_wp2_with fail
  refine (H5.out _).mono ?_
  rintro e w5 ⟨rfl, rfl⟩
  go_wp2_with fail
  refine (H6.out _).mono ?_
  rintro e w5 ⟨rfl, rfl⟩
  go_wp2_with fail
  refine (H7.out _).mono ?_
  rintro e w5 ⟨rfl, rfl⟩
  go_wp2_with fail
  refine (H8.out _).mono ?_
  rintro e w5 ⟨rfl, rfl⟩
  go_wp2_with fail
  refine (H9.out _).mono ?_
  rintro e w5 ⟨rfl, rfl⟩
  go_wp2_with fail
  refine (H10.out _).mono ?_
  rintro e w5 ⟨rfl, rfl⟩
  go_wp2_with fail
  refine (H11.out _).mono ?_
  rintro e w5 ⟨rfl, rfl⟩
  go_wp2_with fail
  refine (H12.out _).mono ?_
  rintro e w5 ⟨rfl, rfl⟩
  go_wp2_with fail
  refine (H13.out _).mono ?_
  rintro e w5 ⟨rfl, rfl⟩
  go_wp2_with fail
  refine (H14.out _).mono ?_
  rintro e w5 ⟨rfl, rfl⟩
  go_wp2_with fail
  all_goals go_ret
  all_goals exact ⟨by first | rfl | simp [*], F4.below (Nat.le_refl _) (fun _ _ => id)⟩
set_option maxRecDepth 100000 in
set_option maxHeartbeats 4000000 in
theorem laws_min (a b c x bc ab ac m q r s s2 t oo an : Int) (n z cc v : Bool) (w : World)
    (hA : ∀ w, Calls Try.prog 12 #[.int .u64 a, .int .u64 b, .bool false] w fun e w' => e = .returned (.tuple #[.int .u64 x, .agg #[.bool n, .bool z, .bool cc, .bool v]]) ∧ Fr Nil w w')
    (hB : ∀ w, Calls Try.prog 12 #[.int .u64 b, .int .u64 a, .bool false] w fun e w' => e = .returned (.tuple #[.int .u64 x, .agg #[.bool n, .bool z, .bool cc, .bool v]]) ∧ Fr Nil w w')
    (h1 : RK 1 a b x) (h2 : RK 2 x b a) (h3 : RK 1 b c bc) (h4 : RK 6 a bc m) (h5 : RK 6 a b ab) (h6 : RK 6 a c ac) (h7 : RK 1 ab ac m)
    (h8 : RK 7 a b q) (h9 : RK 8 a b s) (h11 : RK 5 a b t) (h12 : RK 5 t b a) (h13 : RK 4 a b oo) (h14 : RK 3 a b an) (e1 : IntKind.u64.wrap (oo + an) = IntKind.u64.wrap (a + b))
    (hb : ¬ b = 0) (h10 : RK 8 (IntKind.u64.wrap (-a)) b s2) (er : IntKind.u64.wrap (a - IntKind.u64.wrap (q * b)) = r) (hr : r < b) (hqa : q ≤ a) (es : (s2 == IntKind.u64.wrap (-s)) = false) (ea : (a == 9223372036854775808) = true) :
    Calls Try.prog 5 #[.int .u64 a, .int .u64 b, .int .u64 c] w fun e w' => e = .returned (.bool true) ∧ Below w.heap.size w w' := by
  have HA := Lib.hid hA
  have HB := Lib.hid hB
  have H1 := Lib.hid h1
  have H2 := Lib.hid h2
  have H3 := Lib.hid h3
  have H4 := Lib.hid h4
  have H5 := Lib.hid h5
  have H6 := Lib.hid h6
  have H7 := Lib.hid h7
  have H8 := Lib.hid h8
  have H9 := Lib.hid h9
  have H11 := Lib.hid h11
  have H12 := Lib.hid h12
  have H13 := Lib.hid h13
  have H14 := Lib.hid h14
  have H10 := Lib.hid h10
  clear hA hB h1 h2 h3 h4 h5 h6 h7 h8 h9 h11 h12 h13 h14 h10
  have hb1 : (b != 0) = true := by simpa using hb
  have hb2 : (b == 0) = false := by simpa using hb
  have hr1 : decide (b ≤ r) = false := by simpa using hr
  have hq1 : decide (a < q) = false := by simpa using hqa
  go_enter Try.func5, Try.ntmps5
  go_wp2_with fail
  refine (examples_ok _).mono ?_
  rintro e w1 ⟨rfl, hf1⟩
  go_wp2_with fail
  refine (HA.out _).mono ?_
  rintro e w2 ⟨rfl, hf2⟩
  have F2 := hf1.trans hf2
  clear hf1 hf2
  go_wp2_with fail
  refine (HB.out _).mono ?_
  rintro e w3 ⟨rfl, hf3⟩
  have b3 : Blk w3 w2.heap.size 31 #[.bool n, .bool z, .bool cc, .bool v] := Blk.fr0 (Blk.new _ _ _) hf3
  have F3 := (F2.alloc (.cells #[.bool n, .bool z, .bool cc, .bool v] 31)).trans hf3
  have hl := b3.lt
  clear F2 hf3
  generalize w2.heap.size = g1 at *
  go_upto_region 6 with fail
  have b4 : Blk (w3.alloc (.cells #[.bool n, .bool z, .bool cc, .bool v] 31)) g1 31 #[.bool n, .bool z, .bool cc, .bool v] := Blk.alloc b3 _
  have c4 : Blk (w3.alloc (.cells #[.bool n, .bool z, .bool cc, .bool v] 31)) w3.heap.size 31 #[.bool n, .bool z, .bool cc, .bool v] := Blk.new _ _ _
  have F4 := F3.alloc (.cells #[.bool n, .bool z, .bool cc, .bool v] 31)
  clear F3 b3
  generalize w3.alloc (.cells #[.bool n, .bool z, .bool cc, .bool v] 31) = w4 at *
  generalize w3.heap.size = g2 at *
  have x0 : w4.cell? ⟨g1, 0, none⟩ = some (.bool n) := b4.cellv rfl
  have x1 : w4.cell? ⟨g1, 1, none⟩ = some (.bool z) := b4.cellv rfl
  have x2 : w4.cell? ⟨g1, 2, none⟩ = some (.bool cc) := b4.cellv rfl
  have x3 : w4.cell? ⟨g1, 3, none⟩ = some (.bool v) := b4.cellv rfl
  have y0 : w4.cell? ⟨g2, 0, none⟩ = some (.bool n) := c4.cellv rfl
  have y1 : w4.cell? ⟨g2, 1, none⟩ = some (.bool z) := c4.cellv rfl
  have y2 : w4.cell? ⟨g2, 2, none⟩ = some (.bool cc) := c4.cellv rfl
  have y3 : w4.cell? ⟨g2, 3, none⟩ = some (.bool v) := c4.cellv rfl
  clear b4 c4
  go_wp2_with fail
  refine (H1.out _).mono ?_
  rintro e w5 ⟨rfl, rfl⟩
  go_wp2_with fail
  refine (H2.out _).mono ?_
  rintro e w5 ⟨rfl, rfl⟩
  go_wp2_with fail
  refine (H3.out _).mono ?_
  rintro e w5 ⟨rfl, rfl⟩
  go_wp2_with fail
  refine (H4.out _).mono ?_
  rintro e w5 ⟨rfl, rfl⟩
  go_wp2_with fail
  refine (H5.out _).mono ?_
  rintro e w5 ⟨rfl, rfl⟩
  go_wp2_with fail
  refine (H6.out _).mono ?_
  rintro e w5 ⟨rfl, rfl⟩
  go_wp2_with fail
  refine (H7.out _).mono ?_
  rintro e w5 ⟨rfl, rfl⟩
  go_wp2_with fail
  refine (H8.out _).mono ?_
  rintro e w5 ⟨rfl, rfl⟩
  go_wp2_with fail
  refine (H9.out _).mono ?_
  rintro e w5 ⟨rfl, rfl⟩
  go_wp2_with fail
  refine (H10.out _).mono ?_
  rintro e w5 ⟨rfl, rfl⟩
  go_wp2_with fail
  refine (H11.out _).mono ?_
  rintro e w5 ⟨rfl, rfl⟩
  go_wp2_with fail
  refine (H12.out _).mono ?_
  rintro e w5 ⟨rfl, rfl⟩
  go_wp2_with fail
  refine (H13.out _).mono ?_
  rintro e w5 ⟨rfl, rfl⟩
  go_wp2_with fail
  refine (H14.out _).mono ?_
  rintro e w5 ⟨rfl, rfl⟩
  go_wp2_with fail
  all_goals go_ret
  all_goals exact ⟨by first | rfl | simp [*], F4.below (Nat.le_refl _) (fun _ _ => id)⟩
theorem wrap_rng (x : Int) : 0 ≤ IntKind.u64.wrap x ∧ IntKind.u64.wrap x ≤ 18446744073709551615 := by rw [IntKind.wrap_u64]; omega
theorem add_ex (a b : Int) (w : World) (a0 : 0 ≤ a) (a9 : a ≤ 18446744073709551615) (b0 : 0 ≤ b) (b9 : b ≤ 18446744073709551615) : Calls Try.prog 12 #[.int .u64 a, .int .u64 b, .bool false] w fun e w' => e = .returned (.tuple #[.int .u64 (IntKind.u64.wrap (a + b)), .agg (flg a b 0)]) ∧ Fr Nil w w' := by
  have h := add_0 a b w a0 b0
  have e : sumF a b 0 = IntKind.u64.wrap (a + b) := by rw [IntKind.wrap_u64]; unfold sumF; omega
  rw [e] at h
  exact h
theorem bits_comm (x y : Int) : bits .and .u64 x y = bits .and .u64 y x := by
  unfold bits
  simp only []
  rw [BitVec.and_comm]
theorem flg_comm (a b : Int) : flg b a 0 = flg a b 0 := by
  have e : sumF b a 0 = sumF a b 0 := by unfold sumF; rw [Int.add_comm b a]
  have e2 : outF b a 0 = outF a b 0 := by unfold outF; rw [Int.add_comm b a]
  unfold flg
  rw [e, e2, bits_comm]
theorem xor_back (a b : Int) (a0 : 0 ≤ a) (a9 : a ≤ 18446744073709551615) (b0 : 0 ≤ b) (b9 : b ≤ 18446744073709551615) : bits .xor .u64 (bits .xor .u64 a b) b = a ∧ 0 ≤ bits .xor .u64 a b ∧ bits .xor .u64 a b ≤ 18446744073709551615 := by
  obtain ⟨n, rfl⟩ : ∃ n : Nat, a = (n : Int) := ⟨a.toNat, by omega⟩
  obtain ⟨m, rfl⟩ : ∃ m : Nat, b = (m : Int) := ⟨b.toNat, by omega⟩
  have hn : n < 2 ^ 64 := by omega
  have hm : m < 2 ^ 64 := by omega
  have hx := Nat.xor_lt_two_pow hn hm
  rw [xorN n m hn hm, xorN _ m hx hm, Nat.xor_assoc, Nat.xor_self, Nat.xor_zero]
  omega
theorem or_and (a b : Int) (a0 : 0 ≤ a) (a9 : a ≤ 18446744073709551615) (b0 : 0 ≤ b) (b9 : b ≤ 18446744073709551615) : bits .or .u64 a b + bits .and .u64 a b = a + b := by
  obtain ⟨n, rfl⟩ : ∃ n : Nat, a = (n : Int) := ⟨a.toNat, by omega⟩
  obtain ⟨m, rfl⟩ : ∃ m : Nat, b = (m : Int) := ⟨b.toNat, by omega⟩
  have hn : n < 2 ^ 64 := by omega
  have hm : m < 2 ^ 64 := by omega
  rw [orN n m hn hm, bitsN n m hn hm]
  have key : ∀ k n m : Nat, n < 2 ^ k → m < 2 ^ k → (n ||| m) + (n &&& m) = n + m := by
    intro k
    induction k with
    | zero => intro n m hn hm; have : n = 0 := by omega
              have : m = 0 := by omega
              subst_vars; rfl
    | succ k ih =>
      intro n m hn hm
      have h := ih (n / 2) (m / 2) (by rw [Nat.pow_succ] at hn; omega) (by rw [Nat.pow_succ] at hm; omega)
      have o1 := Nat.or_div_two (a := n) (b := m)
      have a1 := Nat.and_div_two (a := n) (b := m)
      have o2 : (n ||| m) % 2 = (n % 2 ||| m % 2) := Nat.or_mod_two_pow (n := 1)
      have a2 : (n &&& m) % 2 = (n % 2 &&& m % 2) := Nat.and_mod_two_pow (n := 1)
      have e : (n % 2 ||| m % 2) + (n % 2 &&& m % 2) = n % 2 + m % 2 := by
        rcases Nat.mod_two_eq_zero_or_one n with h1 | h1 <;> rcases Nat.mod_two_eq_zero_or_one m with h2 | h2 <;> rw [h1, h2] <;> rfl
      omega
  have := key 64 n m hn hm
  omega
theorem neg_sdiv (a b : Int) (a0 : 0 ≤ a) (a9 : a ≤ 18446744073709551615) (b0 : 0 ≤ b) (b9 : b ≤ 18446744073709551615) (hb : ¬ b = 0) (ha : ¬ a = 9223372036854775808) :
    sdF (IntKind.u64.wrap (-a)) b = IntKind.u64.wrap (-(sdF a b)) := by
  unfold sdF
  rw [if_neg hb, if_neg hb]
  by_cases h1 : wrap64 b = -1
  · rw [if_pos h1, if_pos h1]
  · rw [if_neg h1, if_neg h1]
    have e : wrap64 (IntKind.u64.wrap (-a)) = -(wrap64 a) := by rw [IntKind.wrap_u64]; unfold wrap64; omega
    rw [e, Int.neg_tdiv]
    generalize (wrap64 a).tdiv (wrap64 b) = q
    rw [IntKind.wrap_u64, IntKind.wrap_u64, IntKind.wrap_u64]
    unfold wrap64
    omega
theorem u64_rng2 {a : Int} (h : (Lit.int .u64 a).wf = true) : 0 ≤ a ∧ a ≤ 18446744073709551615 := by
  simp only [Lit.wf, Bool.and_eq_true, decide_eq_true_eq] at h
  exact h
theorem mul_dist (a b c : Int) : IntKind.u64.wrap (IntKind.u64.wrap (a * b) + IntKind.u64.wrap (a * c)) = IntKind.u64.wrap (a * IntKind.u64.wrap (b + c)) := by
  rw [IntKind.wrap_u64, IntKind.wrap_u64, IntKind.wrap_u64, IntKind.wrap_u64, IntKind.wrap_u64, ← Int.add_emod, ← Int.mul_add, Int.mul_emod, Int.mul_emod a ((b + c) % 18446744073709551616), Int.emod_emod]
theorem aluLaws_walk (a1 a2 a3 : Int) (w : World) (w1 : (Lit.int .u64 a1).wf = true) (w2 : (Lit.int .u64 a2).wf = true) (w3 : (Lit.int .u64 a3).wf = true) :
    Calls Try.prog 5 #[.int .u64 a1, .int .u64 a2, .int .u64 a3] w fun e w' => e = .returned (.bool true) ∧ Below w.heap.size w w' := by
  obtain ⟨a0, a9⟩ := u64_rng2 w1
  obtain ⟨b0, b9⟩ := u64_rng2 w2
  obtain ⟨c0, c9⟩ := u64_rng2 w3
  have rx := wrap_rng (a1 + a2)
  have rbc := wrap_rng (a2 + a3)
  have rab := wrap_rng (a1 * a2)
  have rac := wrap_rng (a1 * a3)
  have rna := wrap_rng (-a1)
  obtain ⟨x1, x2, x3⟩ := xor_back a1 a2 a0 a9 b0 b9
  have h1 : RK 1 a1 a2 (IntKind.u64.wrap (a1 + a2)) := rk_ok 1 a1 a2 (by omega) (by omega) a0 a9 b0 b9
  have h2 : RK 2 (IntKind.u64.wrap (a1 + a2)) a2 a1 := by
    have h := rk_ok 2 (IntKind.u64.wrap (a1 + a2)) a2 (by omega) (by omega) rx.1 rx.2 b0 b9
    have e : opV 2 (IntKind.u64.wrap (a1 + a2)) a2 = a1 := by
      show IntKind.u64.wrap (IntKind.u64.wrap (a1 + a2) - a2) = a1
      rw [IntKind.wrap_u64, IntKind.wrap_u64]; omega
    rw [e] at h
    exact h
  have h3 : RK 1 a2 a3 (IntKind.u64.wrap (a2 + a3)) := rk_ok 1 a2 a3 (by omega) (by omega) b0 b9 c0 c9
  have h4 : RK 6 a1 (IntKind.u64.wrap (a2 + a3)) (IntKind.u64.wrap (a1 * IntKind.u64.wrap (a2 + a3))) := rk_ok 6 a1 _ (by omega) (by omega) a0 a9 rbc.1 rbc.2
  have h5 : RK 6 a1 a2 (IntKind.u64.wrap (a1 * a2)) := rk_ok 6 a1 a2 (by omega) (by omega) a0 a9 b0 b9
  have h6 : RK 6 a1 a3 (IntKind.u64.wrap (a1 * a3)) := rk_ok 6 a1 a3 (by omega) (by omega) a0 a9 c0 c9
  have h7 : RK 1 (IntKind.u64.wrap (a1 * a2)) (IntKind.u64.wrap (a1 * a3)) (IntKind.u64.wrap (a1 * IntKind.u64.wrap (a2 + a3))) := by
    rw [← mul_dist]
    exact rk_ok 1 _ _ (by omega) (by omega) rab.1 rab.2 rac.1 rac.2
  have h8 : RK 7 a1 a2 (if a2 = 0 then 0 else a1 / a2) := rk_ok 7 a1 a2 (by omega) (by omega) a0 a9 b0 b9
  have h9 : RK 8 a1 a2 (sdF a1 a2) := rk_ok 8 a1 a2 (by omega) (by omega) a0 a9 b0 b9
  have h10 : RK 8 (IntKind.u64.wrap (-a1)) a2 (sdF (IntKind.u64.wrap (-a1)) a2) := rk_ok 8 _ a2 (by omega) (by omega) rna.1 rna.2 b0 b9
  have h11 : RK 5 a1 a2 (bits .xor .u64 a1 a2) := rk_ok 5 a1 a2 (by omega) (by omega) a0 a9 b0 b9
  have h12 : RK 5 (bits .xor .u64 a1 a2) a2 a1 := by
    have h := rk_ok 5 (bits .xor .u64 a1 a2) a2 (by omega) (by omega) x2 x3 b0 b9
    have e : opV 5 (bits .xor .u64 a1 a2) a2 = a1 := x1
    rw [e] at h
    exact h
  have h13 : RK 4 a1 a2 (bits .or .u64 a1 a2) := rk_ok 4 a1 a2 (by omega) (by omega) a0 a9 b0 b9
  have h14 : RK 3 a1 a2 (bits .and .u64 a1 a2) := rk_ok 3 a1 a2 (by omega) (by omega) a0 a9 b0 b9
  have e1 : IntKind.u64.wrap (bits .or .u64 a1 a2 + bits .and .u64 a1 a2) = IntKind.u64.wrap (a1 + a2) := by rw [or_and a1 a2 a0 a9 b0 b9]
  have hA := fun w => add_ex a1 a2 w a0 a9 b0 b9
  have hB : ∀ w, Calls Try.prog 12 #[.int .u64 a2, .int .u64 a1, .bool false] w fun e w' => e = .returned (.tuple #[.int .u64 (IntKind.u64.wrap (a1 + a2)), .agg (flg a1 a2 0)]) ∧ Fr Nil w w' := by
    intro w
    have h := add_ex a2 a1 w b0 b9 a0 a9
    rw [flg_comm, Int.add_comm a2 a1] at h
    exact h
  by_cases hb : a2 = 0
  · rw [if_pos hb] at h8
    exact laws_zero a1 a2 a3 _ _ _ _ _ _ 0 _ 0 _ _ _ _ _ _ _ w hA hB h1 h2 h3 h4 h5 h6 h7 h8 h9 h11 h12 h13 h14 e1 hb rfl
  · rw [if_neg hb] at h8
    have hq := Int.mul_ediv_add_emod a1 a2
    have hm0 := Int.emod_nonneg a1 hb
    have hm1 := Int.emod_lt_of_pos a1 (show 0 < a2 by omega)
    have hqa : a1 / a2 ≤ a1 := Int.ediv_le_self _ a0
    have hq0 : 0 ≤ a1 / a2 := Int.ediv_nonneg a0 b0
    have hqb : a1 / a2 * a2 = a1 - a1 % a2 := by rw [Int.mul_comm]; omega
    have er : IntKind.u64.wrap (a1 - IntKind.u64.wrap (a1 / a2 * a2)) = a1 % a2 := by
      rw [hqb, IntKind.wrap_u64, IntKind.wrap_u64]
      have : a1 % a2 ≤ a1 := by
        have : 0 ≤ a1 / a2 * a2 := Int.mul_nonneg hq0 b0
        omega
      omega
    by_cases ha : a1 = 9223372036854775808
    · by_cases es : (sdF (IntKind.u64.wrap (-a1)) a2 == IntKind.u64.wrap (-(sdF a1 a2))) = true
      · exact laws_eq a1 a2 a3 _ _ _ _ _ _ _ _ _ _ _ _ _ _ _ _ w hA hB h1 h2 h3 h4 h5 h6 h7 h8 h9 h11 h12 h13 h14 e1 hb h10 er hm1 hqa es
      · exact laws_min a1 a2 a3 _ _ _ _ _ _ _ _ _ _ _ _ _ _ _ _ w hA hB h1 h2 h3 h4 h5 h6 h7 h8 h9 h11 h12 h13 h14 e1 hb h10 er hm1 hqa (by simpa using es) (by simp [ha])
    · exact laws_eq a1 a2 a3 _ _ _ _ _ _ _ _ _ _ _ _ _ _ _ _ w hA hB h1 h2 h3 h4 h5 h6 h7 h8 h9 h11 h12 h13 h14 e1 hb h10 er hm1 hqa (by rw [neg_sdiv a1 a2 a0 a9 b0 b9 hb ha]; simp)
end Go.Proofs.Ytbhpakjflcmnoaa
