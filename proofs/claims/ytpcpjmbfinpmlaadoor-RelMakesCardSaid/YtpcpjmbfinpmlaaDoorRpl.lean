/- The pairs of a relation: plain. -/
import Derived.Test.YtpcpjmbfinpmlaaDoorRadd
set_option linter.unusedSimpArgs false
set_option linter.unusedVariables false
set_option linter.unusedSectionVars false
namespace Go.Proofs.YtpcpjmbfinpmlaaDoor
open Go.RowKit
set_option maxRecDepth 100000

def some_ (f : Nat → Bool) (t : Nat) : List Nat := (List.range t).filter f
def prow (r : Rn) (a t : Nat) : List (Nat × Nat) := (some_ (r a) t).map fun c => (a, c)
def prsK (r : Rn) : Nat → List (Nat × Nat)
  | 0 => []
  | k + 1 => prsK r k ++ prow r k 64
def prs (r : Rn) : List (Nat × Nat) := prsK r 64
def pcs (l : List (Nat × Nat)) : List Value := l.flatMap fun p => [.int .i64 (p.1 : Int), .int .i64 (p.2 : Int)]
theorem pcs_app (l m : List (Nat × Nat)) : pcs (l ++ m) = pcs l ++ pcs m := by simp [pcs]
theorem pcs_length (l : List (Nat × Nat)) : (pcs l).length = l.length * 2 := by
  induction l with
  | nil => rfl
  | cons p l ih => simp only [pcs, List.flatMap_cons, List.length_append, List.length_cons, List.length_nil] at ih ⊢; omega
theorem pcs_get : ∀ (l : List (Nat × Nat)) (k : Nat) (h : k < l.length), (pcs l)[k * 2]? = some (.int .i64 (l[k].1 : Int)) ∧ (pcs l)[k * 2 + 1]? = some (.int .i64 (l[k].2 : Int))
  | [], k, h => absurd h (by simp)
  | p :: l, 0, h => ⟨rfl, rfl⟩
  | p :: l, k + 1, h => by
    have ih := pcs_get l k (by simpa using h)
    have e : pcs (p :: l) = .int .i64 (p.1 : Int) :: .int .i64 (p.2 : Int) :: pcs l := rfl
    rw [e, show (k + 1) * 2 = k * 2 + 1 + 1 by omega]
    simp only [List.getElem?_cons_succ, List.getElem_cons_succ]
    exact ih
theorem some_len (f : Nat → Bool) (t : Nat) : (some_ f t).length ≤ t := by
  have := List.length_filter_le f (List.range t)
  simpa [some_] using this
theorem prow_len (r : Rn) (a t : Nat) : (prow r a t).length ≤ t := by
  unfold prow
  rw [List.length_map]
  exact some_len _ _
theorem prsK_len (r : Rn) : ∀ k, (prsK r k).length ≤ k * 64
  | 0 => by simp [prsK]
  | k + 1 => by
    have := prsK_len r k
    have := prow_len r k 64
    unfold prsK
    rw [List.length_append]
    omega
theorem some_skip {f : Nat → Bool} {t u : Nat} (h : t ≤ u) (hn : ∀ i, t ≤ i → i < u → f i = false) : some_ f u = some_ f t := by
  induction u with
  | zero =>
    obtain rfl : t = 0 := by omega
    rfl
  | succ u ih =>
    by_cases e : t = u + 1
    · rw [e]
    · unfold some_
      rw [List.range_succ, List.filter_append]
      have h1 : f u = false := hn u (by omega) (by omega)
      have h2 := ih (by omega) (fun i hi hu => hn i hi (by omega))
      unfold some_ at h2
      rw [h2]
      simp [h1]
theorem some_take {f : Nat → Bool} {u : Nat} (h : f u = true) : some_ f (u + 1) = some_ f u ++ [u] := by
  unfold some_
  rw [List.range_succ, List.filter_append]
  simp [h]
theorem prow_skip {r : Rn} {a t u : Nat} (h : t ≤ u) (hn : ∀ i, t ≤ i → i < u → r a i = false) : prow r a u = prow r a t := by
  unfold prow
  rw [some_skip h hn]
theorem prow_take {r : Rn} {a u : Nat} (h : r a u = true) : prow r a (u + 1) = prow r a u ++ [(a, u)] := by
  unfold prow
  rw [some_take h]
  simp
theorem mem_some {f : Nat → Bool} {t i : Nat} : i ∈ some_ f t ↔ i < t ∧ f i = true := by simp [some_]
theorem mem_prow {r : Rn} {a t : Nat} {p : Nat × Nat} : p ∈ prow r a t ↔ p.1 = a ∧ p.2 < t ∧ r a p.2 = true := by
  unfold prow
  rw [List.mem_map]
  constructor
  · rintro ⟨c, hc, rfl⟩
    exact ⟨rfl, mem_some.1 hc⟩
  · rintro ⟨h1, h2⟩
    exact ⟨p.2, mem_some.2 h2, by rw [← h1]⟩
theorem mem_prsK {r : Rn} {p : Nat × Nat} : ∀ {k : Nat}, p ∈ prsK r k ↔ p.1 < k ∧ p.2 < 64 ∧ r p.1 p.2 = true
  | 0 => by simp [prsK]
  | k + 1 => by
    unfold prsK
    rw [List.mem_append, mem_prsK (k := k), mem_prow]
    constructor
    · rintro (⟨h1, h2⟩ | ⟨h1, h2, h3⟩)
      · exact ⟨by omega, h2⟩
      · exact ⟨by omega, h2, by rw [h1]; exact h3⟩
    · rintro ⟨h1, h2, h3⟩
      by_cases e : p.1 = k
      · exact .inr ⟨e, h2, by rw [← e]; exact h3⟩
      · exact .inl ⟨by omega, h2, h3⟩
theorem mem_prs {r : Rn} {p : Nat × Nat} : p ∈ prs r ↔ p.1 < 64 ∧ p.2 < 64 ∧ r p.1 p.2 = true := mem_prsK
theorem prs_congr {r s : Rn} (h : ∀ a c, a < 64 → c < 64 → r a c = s a c) : prs r = prs s := by
  have e : ∀ k, k ≤ 64 → prsK r k = prsK s k := by
    intro k
    induction k with
    | zero => intro _; rfl
    | succ k ih =>
      intro hk
      unfold prsK
      rw [ih (by omega)]
      congr 1
      unfold prow some_
      congr 1
      refine List.filter_congr fun c hc => ?_
      exact h k c (by omega) (by simpa using hc)
  exact e 64 (Nat.le_refl _)
theorem prs_inj {r s : Rn} (h : prs r = prs s) {a c : Nat} (ha : a < 64) (hc : c < 64) : r a c = s a c := by
  have e : ((a, c) ∈ prs r) = ((a, c) ∈ prs s) := by rw [h]
  rw [mem_prs, mem_prs] at e
  cases h1 : r a c <;> cases h2 : s a c
  · rfl
  · simp [h1, h2, ha, hc] at e
  · simp [h1, h2, ha, hc] at e
  · rfl
/-- What is left of a row. -/
def rest (f : Nat → Bool) (t : Nat) : Nat → Bool := fun i => f i && decide (t ≤ i)
theorem rest_zero (f : Nat → Bool) : rest f 0 = f := by funext i; simp [rest]
theorem rest_next {f : Nat → Bool} {t u : Nat} (h : t ≤ u) (hn : ∀ i, i < u → rest f t i = false) : upd (rest f t) u false = rest f (u + 1) := by
  funext i
  unfold upd
  by_cases e : i = u
  · subst e
    simp [rest]
  · rw [if_neg e]
    by_cases h1 : i < u
    · rw [hn i h1]
      have : decide (u + 1 ≤ i) = false := by simp; omega
      simp [rest, this]
    · have h2 : decide (u + 1 ≤ i) = true := by simp; omega
      have h3 : decide (t ≤ i) = true := by simp; omega
      simp [rest, h2, h3]
end Go.Proofs.YtpcpjmbfinpmlaaDoor
