/- What an exception leaves: its shape. -/
import Derived.Test.YtkcdojlfliemmaaEx
import Derived.Test.YtkcdojlfliemmaaBase3
import Derived.Test.YtkcdojlfliemmaaArg
namespace Go.Proofs.Ytkcdojlfliemmaa
open Go.RowKit
set_option linter.unusedVariables false
attribute [local go_sem] fold0

theorem crEq_refl (c : Cr) : crEq c c = true := by simp [crEq]
def kp (c : Cr) (s e r f p : Int) : Cr := { c with Spsr := s, Elr := e, Esr := r, Far := f, PC := p, EL := 1, M := true, Wait := 0 }
theorem enF_shape (c : Cr) (cl iss far : Int) : ∃ e r f, enF c cl iss far = kp c (psF c) e r f (vecF c) := by
  unfold enF
  split
  · exact ⟨_, _, _, rfl⟩
  · split
    · exact ⟨_, _, _, rfl⟩
    · exact ⟨_, _, _, rfl⟩
theorem may_psF (c : Cr) : mayF (psF c) = true := by
  unfold psF psM nzP
  by_cases h : c.EL = 1 <;> cases c.M <;> cases c.N <;> cases c.Z <;> cases c.C <;> cases c.V <;> simp [h] <;> decide
theorem enter_kp (c : Cr) (s e r f p cl iss far : Int) (w : World) (hE : enF c cl iss far = kp c s e r f p) (h : rightF c = true) (h0 : 0 ≤ cl) (h1 : cl ≤ 63) (h2 : 0 ≤ iss) (h3 : iss < 33554432) :
    Calls Try.prog 7 #[.agg (cv c), .int .i64 cl, .int .i64 iss, .int .u64 far] w fun e' w' => e' = .returned (.tuple #[.agg (cv (kp c s e r f p)), .int .i64 0]) ∧ Fr Nil w w' := by
  rw [← hE]
  exact enter_ok c cl iss far w h h0 h1 h2 h3
theorem may_yes (s : Int) (w : World) (h : mayF s = true) : Calls Try.prog 8 #[.int .u64 s] w fun e w' => e = .returned (.bool true) ∧ w = w' := by
  rw [← h]
  exact may_ok s w
theorem right_EL (c : Cr) (h : rightF c = true) : c.EL = 0 ∨ c.EL = 1 := by
  simp only [rightF, levelF, Bool.and_eq_true, Bool.or_eq_true, beq_iff_eq] at h
  exact h.1.1.1.1
end Go.Proofs.Ytkcdojlfliemmaa
