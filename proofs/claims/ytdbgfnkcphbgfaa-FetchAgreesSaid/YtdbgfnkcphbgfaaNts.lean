/- Chapter 15: notes in memory; right, allRight. -/
import Derived.Test.YtdbgfnkcphbgfaaProg
import Derived.Test.YtdbgfnkcphbgfaaPln
import Derived.Test.YtdbgfnkcphbgfaaBase3
import Derived.Test.YtdbgfnkcphbgfaaWin
import Derived.Test.YtdbgfnkcphbgfaaNum
import Derived.Test.YtdbgfnkcphbgfaaRws
import Derived.Test.YtdbgfnkcphbgfaaLaw
namespace Go.Proofs.Ytdbgfnkcphbgfaa
open Go.RowKit
set_option linter.unusedVariables false

structure N.Ok (n : N) : Prop where
  k0 : -9223372036854775808 ≤ n.k
  k1 : n.k ≤ 9223372036854775807
  c0 : -9223372036854775808 ≤ n.c
  c1 : n.c ≤ 9223372036854775807
  a0 : 0 ≤ n.a
  a1 : n.a ≤ 18446744073709551615
  w0 : 0 ≤ n.w
  w1 : n.w ≤ 4294967295
def nv (n : N) : Value := .agg #[.int .i64 n.k, .int .i64 n.c, .int .u64 n.a, .int .u32 n.w]
def ncells (n : N) : List Value := [.int .i64 n.k, .int .i64 n.c, .int .u64 n.a, .int .u32 n.w]
def ncs (l : List N) : List Value := l.flatMap ncells
theorem ncs_length (l : List N) : (ncs l).length = l.length * 4 := by
  induction l with
  | nil => rfl
  | cons n l ih => simp only [ncs, List.flatMap_cons, List.length_append, List.length_cons] at ih ⊢; rw [ih]; simp [ncells]; omega
theorem ncs_append (a b : List N) : ncs (a ++ b) = ncs a ++ ncs b := by simp [ncs]
theorem ncs_get {l : List N} {i : Nat} {n : N} (h : l[i]? = some n) {j : Nat} (hj : j < 4) : (ncs l)[i * 4 + j]? = (ncells n)[j]? := by
  induction l generalizing i with
  | nil => simp at h
  | cons m l ih =>
    cases i with
    | zero =>
      simp only [List.getElem?_cons_zero, Option.some.injEq] at h
      subst h
      simp only [ncs, List.flatMap_cons, Nat.zero_mul, Nat.zero_add]
      rw [List.getElem?_append_left (by simpa [ncells] using hj)]
    | succ i =>
      rw [List.getElem?_cons_succ] at h
      simp only [ncs, List.flatMap_cons]
      rw [List.getElem?_append_right (by simp [ncells]; omega)]
      have e : (i + 1) * 4 + j - (ncells m).length = i * 4 + j := by simp [ncells]; omega
      rw [e]
      exact ih h
/-- Notes that lie where a slice points. -/
def Nts (w : World) (a : Option Addr) (l : List N) : Prop :=
  ∀ i n, l[i]? = some n → ∃ b off, a = some ⟨b, off, none⟩ ∧ b < w.heap.size ∧ w.cell? ⟨b, off + i * 4, none⟩ = some (.int .i64 n.k) ∧ w.cell? ⟨b, off + i * 4 + 1, none⟩ = some (.int .i64 n.c) ∧
    w.cell? ⟨b, off + i * 4 + 2, none⟩ = some (.int .u64 n.a) ∧ w.cell? ⟨b, off + i * 4 + 3, none⟩ = some (.int .u32 n.w)
theorem Nts.bel {w w' : World} {a : Option Addr} {l : List N} {B : Nat} (h : Nts w a l) (hb : Below B w w') (hB : ∀ b off, a = some ⟨b, off, none⟩ → b < w.heap.size → b < B) : Nts w' a l := by
  intro i n hi
  obtain ⟨b, off, ha, hlt, h0, h1, h2, h3⟩ := h i n hi
  have hbB := hB b off ha hlt
  exact ⟨b, off, ha, Nat.lt_of_lt_of_le hlt hb.size, (hb.cell (p := ⟨b, _, none⟩) hbB).trans h0, (hb.cell (p := ⟨b, _, none⟩) hbB).trans h1, (hb.cell (p := ⟨b, _, none⟩) hbB).trans h2, (hb.cell (p := ⟨b, _, none⟩) hbB).trans h3⟩
theorem Nts.fr {w w' : World} {a : Option Addr} {l : List N} (h : Nts w a l) (hf : Fr Nil w w') : Nts w' a l := h.bel (Fr.bel hf) fun _ _ _ h => h
theorem Nts.pre {w : World} {a : Option Addr} {l : List N} (h : Nts w a l) (k : Nat) : Nts w a (l.take k) := fun i n hi => by
  rw [List.getElem?_take] at hi
  split at hi
  · exact h i n hi
  · cases hi
theorem Win.nts {w : World} {ao : Option Addr} {n cap : Nat} {l : List N} (h : Win w 31 4 (.slice ao n cap) n (ncs l)) : Nts w ao l := by
  intro i m hi
  have hl := h.1
  rw [ncs_length] at hl
  have hn : 0 < n := by
    have := (List.getElem?_eq_some_iff.1 hi).1
    omega
  obtain ⟨g, off, cap', hv, _, _, hg, hc, _⟩ := h.form hn
  cases hv
  refine ⟨g, off, rfl, hg, ?_, ?_, ?_, ?_⟩
  · exact hc _ _ (by rw [show i * 4 = i * 4 + 0 from rfl, ncs_get hi (by omega)]; rfl)
  · rw [Nat.add_assoc]; exact hc _ _ (by rw [ncs_get hi (by omega)]; rfl)
  · rw [Nat.add_assoc]; exact hc _ _ (by rw [ncs_get hi (by omega)]; rfl)
  · rw [Nat.add_assoc]; exact hc _ _ (by rw [ncs_get hi (by omega)]; rfl)

theorem and3 (a : Int) (h0 : 0 ≤ a) (h1 : a ≤ 18446744073709551615) : bits .and .u64 a 3 = a % 4 := by
  have := and_low a 2 (by omega) h0 h1
  simpa using this
theorem ret_bool {a b : Bool} (h : a = b) : Ending.returned (.bool a) = .returned (.bool b) := by rw [h]
def rightP (n : N) : Prop :=
  (n.k = 1 ∧ n.c = 0 ∧ n.a % 4 = 0) ∨ (n.k = 2 ∧ n.c = 0 ∧ n.w = 0) ∨ (n.k = 3 ∧ n.c = 0 ∧ n.a = 0 ∧ n.w = 0) ∨ (n.k = 4 ∧ 0 ≤ n.c ∧ n.c < 8 ∧ n.a = 0 ∧ n.w = 0) ∨ (n.k = 5 ∧ 0 ≤ n.c ∧ n.c < 8 ∧ n.a % 4 = 0)
theorem rightN_iff (n : N) : rightN n = true ↔ rightP n := by
  unfold rightN rightP
  (repeat' split) <;> simp_all <;> omega
theorem right_t {n : N} (h : rightP n) : rightN n = true := (rightN_iff n).2 h
theorem right_f {n : N} (h : ¬ rightP n) : rightN n = false := by rw [← Bool.not_eq_true]; exact fun e => h ((rightN_iff n).1 e)
set_option maxRecDepth 100000 in
set_option maxHeartbeats 4000000 in
theorem right_ok (n : N) (ok : n.Ok) (w : World) : Calls Try.prog 21 #[nv n] w fun e w' => e = .returned (.bool (rightN n)) ∧ Fr Nil w w' := by
  obtain ⟨k, c, a, x⟩ := n
  obtain ⟨k0, k1, c0, c1, a0, a1, w0, w1⟩ := ok
  have A3 := and3 a a0 a1
  dsimp only at k0 k1 c0 c1 a0 a1 w0 w1
  unfold nv
  dsimp only
  have hk : k = 1 ∨ k = 2 ∨ k = 3 ∨ k = 4 ∨ k = 5 ∨ (k ≠ 1 ∧ k ≠ 2 ∧ k ≠ 3 ∧ k ≠ 4 ∧ k ≠ 5) := by omega
  rcases hk with rfl | rfl | rfl | rfl | rfl | ⟨e1, e2, e3, e4, e5⟩
  all_goals
    go_enter Try.func21, Try.ntmps21
    go_wp2
    all_goals
      go_ret
      clear A3
      refine ⟨ret_bool ?_, (Fr.refl Nil w).alloc _⟩
      try simp only [bne_iff_ne, ne_eq, bne_eq_false_iff_eq, beq_iff_eq, beq_eq_false_iff_ne] at *
      first
        | exact (right_t (by unfold rightP; dsimp only; omega)).symm
        | exact (right_f (by unfold rightP; dsimp only; omega)).symm
        | exact (right_t (by unfold rightP; dsimp only; omega))
        | exact (right_f (by unfold rightP; dsimp only; omega))
end Go.Proofs.Ytdbgfnkcphbgfaa
