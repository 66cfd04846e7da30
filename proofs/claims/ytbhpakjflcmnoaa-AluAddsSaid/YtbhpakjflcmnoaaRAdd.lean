/- The contract of the reference's Add. -/
import Derived.Test.YtbhpakjflcmnoaaSum
import Derived.Test.YtbhpakjflcmnoaaTurn
namespace Go.Proofs.Ytbhpakjflcmnoaa
open Go.RowKit
set_option linter.unusedVariables false

theorem info34 : (Try.prog.info? 34).map (·.size) = some 4 := by kernel_rfl
theorem div_mod_cast (a k : Nat) : (a : Int) / 2 ^ k % 2 = ((a / 2 ^ k % 2 : Nat) : Int) := by
  rw [Int.natCast_emod, Int.natCast_ediv, Int.natCast_pow]; rfl
def lN (a b c k : Nat) : Nat := match k with | 0 => 0 | k + 1 => cN a b c k
def ff : Array Value := #[.bool false, .bool false, .bool false, .bool false]
theorem n_cast (a b c k : Nat) : (a : Int) / 2 ^ k % 2 + (b : Int) / 2 ^ k % 2 + (cN a b c k : Int) = (nN a b c k : Int) := by
  rw [div_mod_cast, div_mod_cast]
  unfold nN
  omega
theorem or_step (a b c k : Nat) (hk : k < 64) : bits .or .u64 (sN a b c k : Int) (IntKind.u64.wrap (((a : Int) / 2 ^ k % 2 + (b : Int) / 2 ^ k % 2 + (cN a b c k : Int)) % 2 * 2 ^ k)) = (sN a b c (k + 1) : Int) := by
  rw [n_cast]
  have e : ((nN a b c k : Int) % 2) = ((nN a b c k % 2 : Nat) : Int) := by omega
  have hw : IntKind.u64.wrap (((nN a b c k % 2 : Nat) : Int) * 2 ^ k) = ((nN a b c k % 2 : Nat) : Int) * 2 ^ k := by
    have hp : 2 ^ k ≤ 2 ^ 63 := Nat.pow_le_pow_right (by omega) (by omega)
    have e1 : ((nN a b c k % 2 : Nat) : Int) * 2 ^ k = ((2 ^ k * (nN a b c k % 2) : Nat) : Int) := by
      rw [Int.natCast_mul, Int.natCast_pow, Int.mul_comm]; rfl
    have h2 : 2 ^ k * (nN a b c k % 2) ≤ 2 ^ 63 := by
      rcases Nat.mod_two_eq_zero_or_one (nN a b c k) with e | e <;> rw [e] <;> omega
    rw [e1, IntKind.wrap_u64]
    omega
  rw [e, hw]
  exact or_next a b c k hk
theorem c_step (a b c k : Nat) : ((a : Int) / 2 ^ k % 2 + (b : Int) / 2 ^ k % 2 + (cN a b c k : Int)) / 2 = (cN a b c (k + 1) : Int) := by
  rw [n_cast, c_next]
  omega
theorem s_rng (a b c k : Nat) (hk : k ≤ 64) : (0 : Int) ≤ (sN a b c k : Int) ∧ (sN a b c k : Int) ≤ 18446744073709551615 := by
  have h := s_lt a b c k
  have hp : 2 ^ k ≤ 2 ^ 64 := Nat.pow_le_pow_right (by omega) hk
  omega
set_option maxHeartbeats 4000000 in
theorem radd_0 (a b : Nat) (w : World) (ha : a < 2 ^ 64) (hb : b < 2 ^ 64) : Calls Try.prog 13 #[.int .u64 (a : Int), .int .u64 (b : Int), .bool false] w fun e w' => e = .returned (.tuple #[.int .u64 (sN a b 0 64 : Int), .agg #[.bool ((sN a b 0 64 : Int) / 9223372036854775808 == 1), .bool ((sN a b 0 64 : Int) == 0), .bool ((cN a b 0 64 : Int) == 1), .bool ((cN a b 0 64 : Int) != (cN a b 0 63 : Int))]]) ∧ Fr Nil w w' := by
  go_enter Try.func13, Try.ntmps13
  go_wp2_with fail
  go_loopw [8, 9, 10, 11] (fun s c l i wr => ∃ k : Nat, k ≤ 64 ∧ i = .int .i64 k ∧ s = .int .u64 (sN a b 0 k : Int) ∧ c = .int .u64 (cN a b 0 k : Int) ∧ l = .int .u64 (lN a b 0 k : Int) ∧ Blk wr w.heap.size 34 ff ∧ Fr Nil w wr) (fun _ _ _ i _ => 64 - (intOf i).toNat)
  case atStart => exact ⟨0, by omega, rfl, by unfold sN; simp [Nat.mod_one], by unfold cN; simp [Nat.mod_one], rfl, Blk.new _ _ _, (Fr.refl Nil w).alloc _⟩
  case round =>
    obtain ⟨k, hk, rfl, rfl, rfl, rfl, hblk, F⟩ := hrel
    by_cases hlt : k < 64
    · have hl : ((k : Int) < 64) := by omega
      have hdec : decide ((k : Int) < 64) = true := by simpa using hl
      have k0 : (0 : Int) ≤ (k : Int) := by omega
      have hx := shr_rng (a : Int) k (by omega) (by omega)
      have hy := shr_rng (b : Int) k (by omega) (by omega)
      have hcl := c_le a b 0 (by omega) k
      have hc0 : (0 : Int) ≤ (cN a b 0 k : Int) := by omega
      have hc1 : (cN a b 0 k : Int) ≤ 1 := by omega
      go_wp2_with fail
      go_quiet (fail)
      go_wp2_with fail
      exact ⟨⟨k + 1, by omega, by simp, by rw [or_step a b 0 k hlt], by rw [c_step], rfl, Blk.drewN hblk _, F.drewN _⟩, by simp [intOf]; omega⟩
    · have he : k = 64 := by omega
      subst he
      have hs := s_rng a b 0 64 (by omega)
      have l63 : lN a b 0 64 = cN a b 0 63 := rfl
      rw [l63]
      generalize hS : sN a b 0 64 = S at *
      generalize hC : cN a b 0 64 = C at *
      generalize hL : cN a b 0 63 = L at *
      clear l63
      have x0 : wr.cell? ⟨w.heap.size, 0, none⟩ = some (.bool false) := hblk.cellv rfl
      have x1 : wr.cell? ⟨w.heap.size, 1, none⟩ = some (.bool false) := hblk.cellv rfl
      have x2 : wr.cell? ⟨w.heap.size, 2, none⟩ = some (.bool false) := hblk.cellv rfl
      have x3 : wr.cell? ⟨w.heap.size, 3, none⟩ = some (.bool false) := hblk.cellv rfl
      have f0 : wr.frozen? ⟨w.heap.size, 0, none⟩ = false := hblk.frozen _
      have f1 : wr.frozen? ⟨w.heap.size, 1, none⟩ = false := hblk.frozen _
      have f2 : wr.frozen? ⟨w.heap.size, 2, none⟩ = false := hblk.frozen _
      have f3 : wr.frozen? ⟨w.heap.size, 3, none⟩ = false := hblk.frozen _
      have H : Blk ((((wr.setCell ⟨w.heap.size, 0, none⟩ (.bool ((S : Int) / 9223372036854775808 == 1))).setCell ⟨w.heap.size, 1, none⟩ (.bool ((S : Int) == 0))).setCell ⟨w.heap.size, 2, none⟩ (.bool ((C : Int) == 1))).setCell ⟨w.heap.size, 3, none⟩ (.bool ((C : Int) != (L : Int)))) w.heap.size 34 #[.bool ((S : Int) / 9223372036854775808 == 1), .bool ((S : Int) == 0), .bool ((C : Int) == 1), .bool ((C : Int) != (L : Int))] :=
        (((hblk.set_ 0 (.bool ((S : Int) / 9223372036854775808 == 1))).set_ 1 (.bool ((S : Int) == 0))).set_ 2 (.bool ((C : Int) == 1))).set_ 3 (.bool ((C : Int) != (L : Int)))
      have HF := Fr.setNew (g := w.heap.size) (i := 3) (Fr.setNew (g := w.heap.size) (i := 2) (Fr.setNew (g := w.heap.size) (i := 1) (Fr.setNew (g := w.heap.size) (i := 0) F (Nat.le_refl _) (.bool ((S : Int) / 9223372036854775808 == 1))) (Nat.le_refl _) (.bool ((S : Int) == 0))) (Nat.le_refl _) (.bool ((C : Int) == 1))) (Nat.le_refl _) (.bool ((C : Int) != (L : Int)))
      go_wp2_with fail
      generalize (((wr.setCell ⟨w.heap.size, 0, none⟩ (.bool ((S : Int) / 9223372036854775808 == 1))).setCell ⟨w.heap.size, 1, none⟩ (.bool ((S : Int) == 0))).setCell ⟨w.heap.size, 2, none⟩ (.bool ((C : Int) == 1))).setCell ⟨w.heap.size, 3, none⟩ (.bool ((C : Int) != (L : Int))) = w5 at *
      refine bodyPost_ret (results_tmp_cell (p := 6) (q := 7) (ty := 34) rfl _ _ w.heap.size _ _ rfl H Try.underlying34 rfl info34) rfl ?_
      exact ⟨by rw [hS, hC, hL]; rfl, HF⟩
set_option maxHeartbeats 4000000 in
theorem radd_1 (a b : Nat) (w : World) (ha : a < 2 ^ 64) (hb : b < 2 ^ 64) : Calls Try.prog 13 #[.int .u64 (a : Int), .int .u64 (b : Int), .bool true] w fun e w' => e = .returned (.tuple #[.int .u64 (sN a b 1 64 : Int), .agg #[.bool ((sN a b 1 64 : Int) / 9223372036854775808 == 1), .bool ((sN a b 1 64 : Int) == 0), .bool ((cN a b 1 64 : Int) == 1), .bool ((cN a b 1 64 : Int) != (cN a b 1 63 : Int))]]) ∧ Fr Nil w w' := by
  go_enter Try.func13, Try.ntmps13
  go_wp2_with fail
  go_loopw [8, 9, 10, 11] (fun s c l i wr => ∃ k : Nat, k ≤ 64 ∧ i = .int .i64 k ∧ s = .int .u64 (sN a b 1 k : Int) ∧ c = .int .u64 (cN a b 1 k : Int) ∧ l = .int .u64 (lN a b 1 k : Int) ∧ Blk wr w.heap.size 34 ff ∧ Fr Nil w wr) (fun _ _ _ i _ => 64 - (intOf i).toNat)
  case atStart => exact ⟨0, by omega, rfl, by unfold sN; simp [Nat.mod_one], by unfold cN; simp [Nat.mod_one], rfl, Blk.new _ _ _, (Fr.refl Nil w).alloc _⟩
  case round =>
    obtain ⟨k, hk, rfl, rfl, rfl, rfl, hblk, F⟩ := hrel
    by_cases hlt : k < 64
    · have hl : ((k : Int) < 64) := by omega
      have hdec : decide ((k : Int) < 64) = true := by simpa using hl
      have k0 : (0 : Int) ≤ (k : Int) := by omega
      have hx := shr_rng (a : Int) k (by omega) (by omega)
      have hy := shr_rng (b : Int) k (by omega) (by omega)
      have hcl := c_le a b 1 (by omega) k
      have hc0 : (0 : Int) ≤ (cN a b 1 k : Int) := by omega
      have hc1 : (cN a b 1 k : Int) ≤ 1 := by omega
      go_wp2_with fail
      go_quiet (fail)
      go_wp2_with fail
      exact ⟨⟨k + 1, by omega, by simp, by rw [or_step a b 1 k hlt], by rw [c_step], rfl, Blk.drewN hblk _, F.drewN _⟩, by simp [intOf]; omega⟩
    · have he : k = 64 := by omega
      subst he
      have hs := s_rng a b 1 64 (by omega)
      have l63 : lN a b 1 64 = cN a b 1 63 := rfl
      rw [l63]
      generalize hS : sN a b 1 64 = S at *
      generalize hC : cN a b 1 64 = C at *
      generalize hL : cN a b 1 63 = L at *
      clear l63
      have x0 : wr.cell? ⟨w.heap.size, 0, none⟩ = some (.bool false) := hblk.cellv rfl
      have x1 : wr.cell? ⟨w.heap.size, 1, none⟩ = some (.bool false) := hblk.cellv rfl
      have x2 : wr.cell? ⟨w.heap.size, 2, none⟩ = some (.bool false) := hblk.cellv rfl
      have x3 : wr.cell? ⟨w.heap.size, 3, none⟩ = some (.bool false) := hblk.cellv rfl
      have f0 : wr.frozen? ⟨w.heap.size, 0, none⟩ = false := hblk.frozen _
      have f1 : wr.frozen? ⟨w.heap.size, 1, none⟩ = false := hblk.frozen _
      have f2 : wr.frozen? ⟨w.heap.size, 2, none⟩ = false := hblk.frozen _
      have f3 : wr.frozen? ⟨w.heap.size, 3, none⟩ = false := hblk.frozen _
      have H : Blk ((((wr.setCell ⟨w.heap.size, 0, none⟩ (.bool ((S : Int) / 9223372036854775808 == 1))).setCell ⟨w.heap.size, 1, none⟩ (.bool ((S : Int) == 0))).setCell ⟨w.heap.size, 2, none⟩ (.bool ((C : Int) == 1))).setCell ⟨w.heap.size, 3, none⟩ (.bool ((C : Int) != (L : Int)))) w.heap.size 34 #[.bool ((S : Int) / 9223372036854775808 == 1), .bool ((S : Int) == 0), .bool ((C : Int) == 1), .bool ((C : Int) != (L : Int))] :=
        (((hblk.set_ 0 (.bool ((S : Int) / 9223372036854775808 == 1))).set_ 1 (.bool ((S : Int) == 0))).set_ 2 (.bool ((C : Int) == 1))).set_ 3 (.bool ((C : Int) != (L : Int)))
      have HF := Fr.setNew (g := w.heap.size) (i := 3) (Fr.setNew (g := w.heap.size) (i := 2) (Fr.setNew (g := w.heap.size) (i := 1) (Fr.setNew (g := w.heap.size) (i := 0) F (Nat.le_refl _) (.bool ((S : Int) / 9223372036854775808 == 1))) (Nat.le_refl _) (.bool ((S : Int) == 0))) (Nat.le_refl _) (.bool ((C : Int) == 1))) (Nat.le_refl _) (.bool ((C : Int) != (L : Int)))
      go_wp2_with fail
      generalize (((wr.setCell ⟨w.heap.size, 0, none⟩ (.bool ((S : Int) / 9223372036854775808 == 1))).setCell ⟨w.heap.size, 1, none⟩ (.bool ((S : Int) == 0))).setCell ⟨w.heap.size, 2, none⟩ (.bool ((C : Int) == 1))).setCell ⟨w.heap.size, 3, none⟩ (.bool ((C : Int) != (L : Int))) = w5 at *
      refine bodyPost_ret (results_tmp_cell (p := 6) (q := 7) (ty := 34) rfl _ _ w.heap.size _ _ rfl H Try.underlying34 rfl info34) rfl ?_
      exact ⟨by rw [hS, hC, hL]; rfl, HF⟩
end Go.Proofs.Ytbhpakjflcmnoaa
