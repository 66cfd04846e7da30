/- Rows of cells of one length, and functions laid out. -/
import Derived.Test.YtnmakbippgnekaaBase2
set_option linter.unusedSimpArgs false
set_option linter.unusedSectionVars false
namespace Go.Proofs.Ytnmakbippgnekaa
open Go.RowKit
set_option linter.unusedVariables false

/-- Rows of one length, one behind the other. -/
def rows (f : Nat → List Value) (m : Nat) : List Value := (List.range m).flatMap f
theorem rows_succ (f : Nat → List Value) (m : Nat) : rows f (m + 1) = rows f m ++ f m := by simp [rows, List.range_succ]
theorem rows_length (f : Nat → List Value) (s : Nat) (hf : ∀ i, (f i).length = s) (m : Nat) : (rows f m).length = m * s := by
  induction m with
  | zero => simp [rows]
  | succ m ih => rw [rows_succ, List.length_append, ih, hf, Nat.add_mul, Nat.one_mul]
theorem rows_get (f : Nat → List Value) (s : Nat) (hf : ∀ i, (f i).length = s) {m i j : Nat} (hi : i < m) (hj : j < s) : (rows f m)[i * s + j]? = (f i)[j]? := by
  induction m with
  | zero => omega
  | succ m ih =>
    rw [rows_succ]
    by_cases h : i = m
    · subst h
      rw [List.getElem?_append_right (by rw [rows_length f s hf]; omega), rows_length f s hf, Nat.add_sub_cancel_left]
    · have : i * s + j < m * s := by
        have := Nat.mul_le_mul_right s (show i + 1 ≤ m by omega)
        rw [Nat.add_mul] at this
        omega
      rw [List.getElem?_append_left (by rw [rows_length f s hf]; exact this)]
      exact ih (by omega)
theorem rows_congr {f g : Nat → List Value} {m : Nat} (h : ∀ i, i < m → f i = g i) : rows f m = rows g m := by
  induction m with
  | zero => rfl
  | succ m ih => rw [rows_succ, rows_succ, ih fun i hi => h i (by omega), h m (by omega)]
theorem rows_put (f : Nat → List Value) (s : Nat) (hf : ∀ i, (f i).length = s) {m i : Nat} (hi : i < m) (y : List Value) (hy : y.length = s) :
    (rows f m).take (i * s) ++ y ++ (rows f m).drop (i * s + s) = rows (upd f i y) m := by
  induction m with
  | zero => omega
  | succ m ih =>
    rw [rows_succ, rows_succ]
    have hl := rows_length f s hf m
    by_cases h : i = m
    · subst h
      rw [List.take_append_of_le_length (by omega), List.take_of_length_le (by omega), List.drop_of_length_le (by rw [List.length_append, hl, hf]; exact Nat.le_refl _), List.append_nil, upd_same]
      congr 1
      exact rows_congr fun k hk => (upd_other f y (by omega)).symm
    · have hle : i * s + s ≤ m * s := by
        have := Nat.mul_le_mul_right s (show i + 1 ≤ m by omega)
        rw [Nat.add_mul, Nat.one_mul] at this
        exact this
      rw [List.take_append_of_le_length (by omega), List.drop_append_of_le_length (by omega), ← List.append_assoc, ih (by omega), upd_other f y (by omega)]
theorem rows_set (f : Nat → List Value) (s : Nat) (hf : ∀ i, (f i).length = s) {m i j : Nat} (hi : i < m) (hj : j < s) (u : Value) : (rows f m).set (i * s + j) u = rows (upd f i ((f i).set j u)) m := by
  induction m with
  | zero => omega
  | succ m ih =>
    rw [rows_succ, rows_succ]
    have hl := rows_length f s hf m
    by_cases h : i = m
    · subst h
      rw [List.set_append_right _ _ (by omega), hl, Nat.add_sub_cancel_left, upd_same]
      congr 1
      exact rows_congr fun k hk => (upd_other f _ (by omega)).symm
    · have hle : i * s + s ≤ m * s := by
        have := Nat.mul_le_mul_right s (show i + 1 ≤ m by omega)
        rw [Nat.add_mul, Nat.one_mul] at this
        exact this
      rw [List.set_append_left _ _ (by omega), ih (by omega), upd_other f _ (by omega)]

theorem map_range_set {α : Type} (f : Nat → α) (n k : Nat) (v : α) : (((List.range n).map f).toArray.setIfInBounds k v) = ((List.range n).map (upd f k v)).toArray := by
  rw [List.setIfInBounds_toArray]
  congr 1
  apply List.ext_getElem?
  intro i
  rw [List.getElem?_set]
  by_cases hi : i < n
  · by_cases hk : k = i
    · subst hk; simp [List.getElem?_range hi, upd, hi]
    · simp [List.getElem?_range hi, upd, hk, Ne.symm hk]
  · by_cases hk : k = i
    · subst hk; simp [hi]
    · simp [hk, hi]
theorem i64_rng {x : Int} (h : (Lit.int .i64 x).wf = true) : -9223372036854775808 ≤ x ∧ x ≤ 9223372036854775807 := by
  simp only [Lit.wf, Bool.and_eq_true, decide_eq_true_eq] at h
  exact h
theorem u64_rng {a : Int} (h : (Lit.int .u64 a).wf = true) : 0 ≤ a ∧ a ≤ 18446744073709551615 := by
  simp only [Lit.wf, Bool.and_eq_true, decide_eq_true_eq] at h
  exact h
theorem Fr.bel {w w' : World} (h : Fr Nil w w') : Below w.heap.size w w' := h.below (Nat.le_refl _) fun _ _ => id
end Go.Proofs.Ytnmakbippgnekaa
