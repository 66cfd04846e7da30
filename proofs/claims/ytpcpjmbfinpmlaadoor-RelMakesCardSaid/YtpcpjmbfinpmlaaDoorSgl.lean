/- wpStill behind a structure, so that nothing unfolds it unasked; a law for an operation that is skipped. -/
import Derived.Test.YtpcpjmbfinpmlaaDoorRtu
set_option linter.unusedSimpArgs false
set_option linter.unusedVariables false
set_option linter.unusedSectionVars false
namespace Go.Proofs.YtpcpjmbfinpmlaaDoor
open Go.RowKit
/-- wpStill behind a structure: nothing unfolds it unasked. -/
structure SG (P : Program) (ops : Array Oper) (w : World) (Q : Act → Prop) (l : List Oper) (a : Act) : Prop where
  out : wpStill P ops w Q l a
section
variable {P : Program} {ops : Array Oper} {w : World} {Q : Act → Prop} {a : Act} {o : Oper} {rest : List Oper}
theorem SG.nil (h : Q a) : SG P ops w Q [] a := ⟨wpStill_nil h⟩
theorem SG.step (h : ∀ K : Act → Prop, (∀ a, SG P ops w Q rest a → K a) → if Region.wanted o (yielded ops a.tmps) then o.still P a w K else K (a.put o.dst undef)) : SG P ops w Q (o :: rest) a :=
  ⟨wpStill_step fun K hK => h K fun a ha => hK a ha.out⟩
theorem SG.skip (h : Region.wanted o (yielded ops a.tmps) = false) (hh : ∀ K : Act → Prop, (∀ a, SG P ops w Q rest a → K a) → K (a.put o.dst undef)) : SG P ops w Q (o :: rest) a := by
  refine ⟨?_⟩
  unfold wpStill
  rw [h]
  exact hh _ fun _ h => h.out
end
end Go.Proofs.YtpcpjmbfinpmlaaDoor
