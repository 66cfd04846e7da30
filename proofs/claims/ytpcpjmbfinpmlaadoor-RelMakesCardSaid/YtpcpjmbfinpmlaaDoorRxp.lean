/- The chapter's examples: plain. -/
import Derived.Test.YtpcpjmbfinpmlaaDoorOrd
set_option linter.unusedSimpArgs false
set_option linter.unusedVariables false
set_option linter.unusedSectionVars false
namespace Go.Proofs.YtpcpjmbfinpmlaaDoor
open Go.RowKit
set_option maxRecDepth 100000

theorem clK_eq (n : Nat) (r : Rn) (k a c : Nat) : clK n r (k + 1) a c = (clK n r k a c || (decide (a < n) && clK n r k a k && clK n r k k c)) := by
  show clA (clK n r k) k n a c = _
  exact clA_eq _ _ _ _ _
/-- The closure, computed. -/
def clF (n : Nat) (r : Rn) : Nat → Rn
  | 0 => r
  | k + 1 => fun a c => clF n r k a c || (decide (a < n) && clF n r k a k && clF n r k k c)
theorem clK_clF (n : Nat) (r : Rn) : ∀ k a c, clK n r k a c = clF n r k a c
  | 0, _, _ => rfl
  | k + 1, a, c => by
    rw [clK_eq, clK_clF n r k, clK_clF n r k, clK_clF n r k]
    rfl
def leastB (r : Rn) (n : Nat) (L : List Nat) (b : Nat) : Bool := decide (b < n) && !(L.contains b) && decide (wts r L b = 0) && (List.range b).all fun c => !(decide (c < n) && !(L.contains c) && decide (wts r L c = 0))
theorem least_of {r : Rn} {n : Nat} {L : List Nat} {b : Nat} (h : leastB r n L b = true) : Least r n L b := by
  unfold leastB at h
  simp only [Bool.and_eq_true, decide_eq_true_eq, Bool.not_eq_true', List.all_eq_true, List.mem_range] at h
  obtain ⟨⟨⟨h1, h2⟩, h3⟩, h4⟩ := h
  refine ⟨⟨h1, by simpa using h2, h3⟩, fun c hc => ?_⟩
  rcases Nat.lt_or_ge c b with hl | hl
  · have := h4 c hl
    obtain ⟨c1, c2, c3⟩ := hc
    have e : L.contains c = false := by simpa using c2
    simp [c1, e, c3] at this
    exact absurd this c2
  · exact hl
def doneB (r : Rn) (n : Nat) (L : List Nat) : Bool := (List.range n).all fun c => !(!(L.contains c) && decide (wts r L c = 0))
theorem done_of {r : Rn} {n : Nat} {L : List Nat} (h : doneB r n L = true) (b : Nat) : ¬ Free r n L b := by
  rintro ⟨h1, h2, h3⟩
  unfold doneB at h
  simp only [List.all_eq_true, List.mem_range] at h
  have := h b h1
  have e : L.contains b = false := by simpa using h2
  simp [e, h3] at this
  exact h2 this
def exP1 (i : Nat) : Int × Int := if i = 0 then (0, 1) else (1, 2)
def exP2 (i : Nat) : Int × Int := if i = 0 then (2, 1) else (3, 0)
def exP3 (i : Nat) : Int × Int := if i = 0 then (0, 1) else (1, 0)
def exR1 : Rn := (ofS 4 exP1 2).1
def exR2 : Rn := (ofS 4 exP2 2).1
def exR3 : Rn := (ofS 4 exP3 2).1
theorem ex1 : ofS 4 exP1 2 = (exR1, true) := Prod.ext rfl (by decide +kernel)
theorem ex2 : ofS 4 exP2 2 = (exR2, true) := Prod.ext rfl (by decide +kernel)
theorem ex3 : ofS 4 exP3 2 = (exR3, true) := Prod.ext rfl (by decide +kernel)
theorem ex4 : (ofS 1 exP1 1).2 = false := by decide +kernel
theorem ofS_ok (n : Nat) (P : Nat → Int × Int) : ∀ k a c, (ofS n P k).1 a c = true → a < n ∧ c < n
  | 0, a, c, h => by cases h
  | k + 1, a, c, h => by
    have ih := ofS_ok n P k
    unfold ofS at h
    split at h
    · split at h
      · rename_i h1 h2
        unfold inP at h2
        simp only [Bool.and_eq_true] at h2
        dsimp only at h
        rw [addR_eq] at h
        simp only [Bool.or_eq_true, Bool.and_eq_true, decide_eq_true_eq] at h
        rcases h with h | ⟨e1, e2⟩
        · exact ih a c h
        · obtain ⟨x, hx, hx2⟩ := inB_nat h2.1
          obtain ⟨y, hy, hy2⟩ := inB_nat h2.2
          rw [hx] at e1
          rw [hy] at e2
          simp at e1 e2
          omega
      · exact ih a c h
    · exact ih a c h
def exE : Rn := fun a c => (a == 0 && c == 1) || (a == 0 && c == 2) || (a == 1 && c == 2)
theorem ex_pairs : prs (clo 4 exR1) = [(0, 1), (0, 2), (1, 2)] := by
  have e : prs (clo 4 exR1) = prs exE := prs_congr fun a c _ _ => by
    show clK 4 exR1 4 a c = exE a c
    by_cases h : a < 4 ∧ c < 4
    · obtain ⟨h1, h2⟩ := h
      rw [clK_clF]
      have : ∀ a, a < 4 → ∀ c, c < 4 → clF 4 exR1 4 a c = exE a c := by decide +kernel
      exact this a h1 c h2
    · cases hq : clK 4 exR1 4 a c
      · symm
        unfold exE
        simp only [Bool.or_eq_false_iff, Bool.and_eq_false_iff, beq_eq_false_iff_ne]
        omega
      · exact absurd (clK_ok (ofS_ok 4 exP1 2) 4 a c hq) h
  rw [e]
  decide +kernel
theorem ex_order : OrdF exR2 4 [2, 1, 3, 0] := by
  have h1 : Ords exR2 4 [2] := Ords.snoc (L := []) Ords.nil (least_of (by decide +kernel))
  have h2 : Ords exR2 4 [2, 1] := Ords.snoc (L := [2]) h1 (least_of (by decide +kernel))
  have h3 : Ords exR2 4 [2, 1, 3] := Ords.snoc (L := [2, 1]) h2 (least_of (by decide +kernel))
  have h4 : Ords exR2 4 [2, 1, 3, 0] := Ords.snoc (L := [2, 1, 3]) h3 (least_of (by decide +kernel))
  exact ⟨h4, fun b => done_of (by decide +kernel) b⟩
theorem ex_none : OrdF exR3 4 [2, 3] := by
  have h1 : Ords exR3 4 [2] := Ords.snoc (L := []) Ords.nil (least_of (by decide +kernel))
  have h2 : Ords exR3 4 [2, 3] := Ords.snoc (L := [2]) h1 (least_of (by decide +kernel))
  exact ⟨h2, fun b => done_of (by decide +kernel) b⟩
theorem ex_loop : clo 4 exR3 0 0 = true := by
  show clK 4 exR3 4 0 0 = true
  rw [clK_clF]
  decide +kernel
theorem ex_has : has 4 exR1 0 1 = true ∧ has 4 exR1 1 0 = false := by decide +kernel
end Go.Proofs.YtpcpjmbfinpmlaaDoor
