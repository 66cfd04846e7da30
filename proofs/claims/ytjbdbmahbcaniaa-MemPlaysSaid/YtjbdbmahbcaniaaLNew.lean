/- MemNew, walked. -/
import Derived.Test.YtjbdbmahbcaniaaLBuffers
import Derived.IntWalk
namespace Go.Proofs.Ytjbdbmahbcaniaa
open Go.RowKit
set_option linter.unusedVariables false
set_option maxRecDepth 100000

section
variable {w w1 w2 : World} {b : Nat} {q : Bs} {s s' : St}
theorem Mine.words (h : Mine w b q s w1) : Calls Try.prog 18 #[.pointer (some ⟨b, 0, none⟩)] w1 fun e w' => e = .returned (.int .i64 (s.n : Int)) ∧ w1 = w' := by
  rw [← h.b]; exact words_ok q s w1 h.mem
theorem Mine.cores (h : Mine w b q s w1) : Calls Try.prog 19 #[.pointer (some ⟨b, 0, none⟩)] w1 fun e w' => e = .returned (.int .i64 (s.c : Int)) ∧ w1 = w' := by
  rw [← h.b]; exact cores_ok q s w1 h.mem
theorem Mine.dep (h : Mine w b q s w1) : Calls Try.prog 20 #[.pointer (some ⟨b, 0, none⟩)] w1 fun e w' => e = .returned (.int .i64 (s.d : Int)) ∧ w1 = w' := by
  rw [← h.b]; exact depth_ok q s w1 h.mem
theorem Mine.loadBad (h : Mine w b q s w1) (c a : Int) (hn : s.n ≤ 8192) (a0 : 0 ≤ a) (a1 : a ≤ 18446744073709551615) (hb : (c < 0 ∨ (s.c : Int) ≤ c) ∨ (a % 8 ≠ 0 ∨ (s.n : Int) ≤ a / 8)) :
    Calls Try.prog 15 #[.pointer (some ⟨b, 0, none⟩), .int .i64 c, .int .u64 a] w1 (Still w b q s w1 (.tuple #[.int .u64 0, .int .i64 0, .int .i64 1])) := by
  rw [← h.b]
  refine (load_bad q s c a w1 h.mem hn a0 a1 hb).mono ?_
  rintro e w' ⟨rfl, hf⟩
  rw [h.b]
  exact ⟨rfl, h.still hf, hf⟩
end
theorem wrong_yes (x y z : Int) (w : World) (h : x < 1 ∨ 8192 < x ∨ y < 1 ∨ 8 < y ∨ z < 1 ∨ 32 < z) : Calls Try.prog 17 #[.int .i64 x, .int .i64 y, .int .i64 z] w fun e w' => e = .returned (.bool true) ∧ w = w' := by
  by_cases h1 : x < 1
  · clear h
    go_enter Try.func17, Try.ntmps17
    go_wp2
    go_ret
    exact ⟨rfl, rfl⟩
  by_cases h2 : 8192 < x
  · clear h
    go_enter Try.func17, Try.ntmps17
    go_wp2
    go_ret
    exact ⟨rfl, rfl⟩
  by_cases h3 : y < 1
  · clear h
    go_enter Try.func17, Try.ntmps17
    go_wp2
    go_ret
    exact ⟨rfl, rfl⟩
  by_cases h4 : 8 < y
  · clear h
    go_enter Try.func17, Try.ntmps17
    go_wp2
    go_ret
    exact ⟨rfl, rfl⟩
  by_cases h5 : z < 1
  · clear h
    go_enter Try.func17, Try.ntmps17
    go_wp2
    go_ret
    exact ⟨rfl, rfl⟩
  have h6 : 32 < z := by omega
  clear h
  go_enter Try.func17, Try.ntmps17
  go_wp2
  go_ret
  exact ⟨rfl, rfl⟩
theorem wrong_no (x y z : Int) (w : World) (h1 : 1 ≤ x) (h2 : x ≤ 8192) (h3 : 1 ≤ y) (h4 : y ≤ 8) (h5 : 1 ≤ z) (h6 : z ≤ 32) : Calls Try.prog 17 #[.int .i64 x, .int .i64 y, .int .i64 z] w fun e w' => e = .returned (.bool false) ∧ w = w' := by
  go_enter Try.func17, Try.ntmps17
  go_wp2
  go_ret
  exact ⟨by simp; omega, rfl⟩
theorem new_bad2 (x y z : Int) (w : World) (h : x < 1 ∨ 8192 < x ∨ y < 1 ∨ 8 < y ∨ z < 1 ∨ 32 < z) : Calls Try.prog 4 #[.int .i64 x, .int .i64 y, .int .i64 z] w fun e w' => e = .returned (.bool true) ∧ Below w.heap.size w w' := by
  have H1 := Lib.hid fun w => new_bad x y z w h
  have H2 := Lib.hid fun w => wrong_yes x y z w h
  clear h
  go_enter Try.func4, Try.ntmps4
  go_wp2_with fail
  refine (known_ok w).mono ?_
  rintro e w0 ⟨rfl, f0⟩
  have F0 := Lib.hid f0
  clear f0
  go_wp2_with fail
  refine (H1.out _).mono ?_
  rintro e w1 ⟨rfl, rfl⟩
  go_wp2_with fail
  refine (H2.out _).mono ?_
  rintro e w1 ⟨rfl, rfl⟩
  go_wp2_with fail
  go_ret
  exact ⟨rfl, F0.out.bel⟩
theorem st0_load (n c d i k : Nat) : (St0 n c d).load i k = (0, 0) := rfl
set_option maxHeartbeats 1000000 in
theorem new_good2 (n c d : Nat) (w : World) (n1 : 1 ≤ n) (n2 : n ≤ 8192) (c1 : 1 ≤ c) (c2 : c ≤ 8) (d1 : 1 ≤ d) (d2 : d ≤ 32) : Calls Try.prog 4 #[.int .i64 (n : Int), .int .i64 (c : Int), .int .i64 (d : Int)] w fun e w' => e = .returned (.bool true) ∧ Below w.heap.size w w' := by
  have b1 : (1 : Int) ≤ (n : Int) := by omega
  have b2 : (n : Int) ≤ 8192 := by omega
  have b3 : (1 : Int) ≤ (c : Int) := by omega
  have b4 : (c : Int) ≤ 8 := by omega
  have b5 : (1 : Int) ≤ (d : Int) := by omega
  have b6 : (d : Int) ≤ 32 := by omega
  have H1 := Lib.hid fun w => mine_new n c d w rfl rfl rfl n1 n2 c1 c2 d1 d2
  have N := Lib.hid (And.intro n1 n2)
  have C := Lib.hid (And.intro c1 c2)
  clear n1 n2 c1 c2 d1 d2
  go_enter Try.func4, Try.ntmps4
  go_wp2_with fail
  refine (known_ok w).mono ?_
  rintro e w0 ⟨rfl, f0⟩
  have F0 := Lib.hid f0
  clear f0
  go_wp2_with fail
  refine (H1.out _).mono ?_
  rintro e w1 ⟨m, q, rfl, m0⟩
  go_wp2_with fail
  refine (wrong_no (n : Int) c d w1 b1 b2 b3 b4 b5 b6).mono ?_
  rintro e w2 ⟨rfl, rfl⟩
  have C1 := Lib.hid (m0.load (c - 1) (n - 1) (c := (c : Int) - 1) (a := 8 * ((n : Int) - 1)) (by have := C.out; omega) (by have := N.out; omega) (by have := C.out; show c - 1 < c; omega) (by have := N.out; show n - 1 < n; omega) N.out.2 (by show 0 ≤ 1000000; decide) (st0_load _ _ _ _ _))
  go_wp2_with fail
  refine C1.out.mono ?_
  rintro e w2 ⟨rfl, m1, _⟩
  have C1 := Lib.hid (m1.loadBad ((c : Int) - 1) (8 * (n : Int)) N.out.2 (by omega) (by omega) (.inr (.inr (by show (n : Int) ≤ _; omega))))
  go_wp2_with fail
  refine C1.out.mono ?_
  rintro e w3 ⟨rfl, m2, _⟩
  have C1 := Lib.hid m2.words
  have C2 := Lib.hid m2.cores
  have C3 := Lib.hid m2.dep
  have C4 := Lib.hid (m2.tickets (by show 1 ≤ 1000000; decide))
  clear m0 m1
  have M2 := Lib.hid m2
  clear m2
  go_wp2_with fail
  refine C1.out.mono ?_
  rintro e w4 ⟨rfl, rfl⟩
  have e1 : (St0 n c d).n = n := rfl
  have e2 : (St0 n c d).c = c := rfl
  have e3 : (St0 n c d).d = d := rfl
  have e4 : (St0 n c d).st.length = 1 := rfl
  go_wp2_with fail
  refine C2.out.mono ?_
  rintro e w4 ⟨rfl, rfl⟩
  go_wp2_with fail
  refine C3.out.mono ?_
  rintro e w4 ⟨rfl, rfl⟩
  go_wp2_with fail
  refine C4.out.mono ?_
  rintro e w4 ⟨rfl, m3, _⟩
  have C1 := Lib.hid (m3.order (by show 0 ≤ 1000000; decide))
  clear m3
  go_wp2_with fail
  refine C1.out.mono ?_
  rintro e w5 ⟨v, rfl, m4, _, wv, _⟩
  obtain ⟨ao, cap, hv, _, _, _⟩ := wv.shape
  rw [hv]
  have hl : (St0 n c d).od.length = 0 := rfl
  have MF := Lib.hid m4.fr
  clear m4 wv hv
  go_wp2_with fail
  go_ret
  exact ⟨rfl, (F0.out.trans MF.out).bel⟩
theorem memNew_walk (x y z : Int) (w : World) (w1 : (Lit.int .i64 x).wf = true) (w2 : (Lit.int .i64 y).wf = true) (w3 : (Lit.int .i64 z).wf = true) :
    Calls Try.prog 4 #[.int .i64 x, .int .i64 y, .int .i64 z] w fun e w' => e = .returned (.bool true) ∧ Below w.heap.size w w' := by
  by_cases h : x < 1 ∨ 8192 < x ∨ y < 1 ∨ 8 < y ∨ z < 1 ∨ 32 < z
  · exact new_bad2 x y z w h
  · obtain ⟨n, rfl⟩ : ∃ n : Nat, x = (n : Int) := ⟨x.toNat, by omega⟩
    obtain ⟨c, rfl⟩ : ∃ n : Nat, y = (n : Int) := ⟨y.toNat, by omega⟩
    obtain ⟨d, rfl⟩ : ∃ n : Nat, z = (n : Int) := ⟨z.toNat, by omega⟩
    exact new_good2 n c d w (by omega) (by omega) (by omega) (by omega) (by omega) (by omega)
end Go.Proofs.Ytjbdbmahbcaniaa
