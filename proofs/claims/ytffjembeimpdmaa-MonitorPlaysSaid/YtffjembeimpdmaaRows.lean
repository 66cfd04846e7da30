/-
  No cell of these rows narrows 'for every input' (looked for: loops, veiled, ifaces, maps, wideKeys, modest, calm, conditions, laid).
  DERIVED. THE GIVEN ROWS OF THIS SEAT. 4 by the template 'for every input the law returns true; each argument reads behind the call as it read before'; 0 by the template 'total and deterministic' (their statements: YtffjembeimpdmaaTotals.lean).
  GIVEN WITH THE SEED: the statements are not yours to turn. If you find one false, say at which input.
  Laid BY PROGRAM, IN A SANDBOX (cutbox-rows.mjs): the forced cells as the released guide's own fill.sh prints them over the translation b114ae0c1d1b39ff… (all of the seat's roots in one cut). By AI agents, Wed Nov 11 2026. No macro, syntax, notation, axiom, sorry.
-/
import Derived.Test.YtffjembeimpdmaaChecked
import GoSem.Claim
import GoSem.ClaimJoined
import GoSem.ClaimMapViews
import Derived.JoinedTies
import Derived.KernelRfl
namespace Go.Proofs.Ytffjembeimpdmaa
/- THE CELL 'sum', in the pinned program and in every row, IS THE sha256 OF THE DUMP (.gsa) THAT YtffjembeimpdmaaProg.lean LOADS. Nothing in Lean hashes anything: it is a label: what it is worth is what the hold of that sum in a sandbox is worth. -/
noncomputable def Try.pinned : Pinned := { name := "ytffjembeimpdmaa", sum := "b114ae0c1d1b39ff9975553330b8f056f07392a4f37eb8a9b9d973b68cab55ae", checked := Try.checked }
namespace Rows
def none {H : Type} : Left H := { results := [], args := [] }

/-- 'understudylaw09.MonitorOne': WHATEVER THE INPUT: true; the input reads as it did. -/
def monitorOneSpec : ChangeSpec := { name := "monitorOne", fn := fun _ => fun
  | [d1, d2, d3] => { results := [.lit (.bool true)], args := [d1, d2, d3] }
  | _ => none }
def monitorOneRow : OpenClaim := { program := "ytffjembeimpdmaa", sum := "b114ae0c1d1b39ff9975553330b8f056f07392a4f37eb8a9b9d973b68cab55ae", func := "understudy/understudylaw09.MonitorOne", spec := "monitorOne", apart := false }
def MonitorOneSaid : Prop := monitorOneRow.holds Try.pinned (OpenSpec.ofChange monitorOneSpec)

/-- ITS FALSE NEIGHBOUR: 'it returns false'. Refute it at one input. -/
def monitorOneWrong : ChangeSpec := { name := "monitorOne", fn := fun _ => fun
  | [d1, d2, d3] => { results := [.lit (.bool false)], args := [d1, d2, d3] }
  | _ => none }
def MonitorOneWrongFalsely : Prop := monitorOneRow.holds Try.pinned (OpenSpec.ofChange monitorOneWrong)

/-- 'understudylaw09.MonitorPlays': WHATEVER THE INPUT: true; the input reads as it did. -/
def monitorPlaysSpec : ChangeSpec := { name := "monitorPlays", fn := fun _ => fun
  | [d1, d2] => { results := [.lit (.bool true)], args := [d1, d2] }
  | _ => none }
def monitorPlaysRow : OpenClaim := { program := "ytffjembeimpdmaa", sum := "b114ae0c1d1b39ff9975553330b8f056f07392a4f37eb8a9b9d973b68cab55ae", func := "understudy/understudylaw09.MonitorPlays", spec := "monitorPlays", apart := false }
def MonitorPlaysSaid : Prop := monitorPlaysRow.holds Try.pinned (OpenSpec.ofChange monitorPlaysSpec)

/-- ITS FALSE NEIGHBOUR: 'it returns false'. Refute it at one input. -/
def monitorPlaysWrong : ChangeSpec := { name := "monitorPlays", fn := fun _ => fun
  | [d1, d2] => { results := [.lit (.bool false)], args := [d1, d2] }
  | _ => none }
def MonitorPlaysWrongFalsely : Prop := monitorPlaysRow.holds Try.pinned (OpenSpec.ofChange monitorPlaysWrong)

/-- 'understudylaw09.MonitorHolds': WHATEVER THE INPUT: true; the input reads as it did. -/
def monitorHoldsSpec : ChangeSpec := { name := "monitorHolds", fn := fun _ => fun
  | [d1, d2, d3] => { results := [.lit (.bool true)], args := [d1, d2, d3] }
  | _ => none }
def monitorHoldsRow : OpenClaim := { program := "ytffjembeimpdmaa", sum := "b114ae0c1d1b39ff9975553330b8f056f07392a4f37eb8a9b9d973b68cab55ae", func := "understudy/understudylaw09.MonitorHolds", spec := "monitorHolds", apart := false }
def MonitorHoldsSaid : Prop := monitorHoldsRow.holds Try.pinned (OpenSpec.ofChange monitorHoldsSpec)

/-- ITS FALSE NEIGHBOUR: 'it returns false'. Refute it at one input. -/
def monitorHoldsWrong : ChangeSpec := { name := "monitorHolds", fn := fun _ => fun
  | [d1, d2, d3] => { results := [.lit (.bool false)], args := [d1, d2, d3] }
  | _ => none }
def MonitorHoldsWrongFalsely : Prop := monitorHoldsRow.holds Try.pinned (OpenSpec.ofChange monitorHoldsWrong)

/-- 'understudylaw09.MonitorApart': WHATEVER THE INPUT: true; the input reads as it did. -/
def monitorApartSpec : ChangeSpec := { name := "monitorApart", fn := fun _ => fun
  | [d1, d2] => { results := [.lit (.bool true)], args := [d1, d2] }
  | _ => none }
def monitorApartRow : OpenClaim := { program := "ytffjembeimpdmaa", sum := "b114ae0c1d1b39ff9975553330b8f056f07392a4f37eb8a9b9d973b68cab55ae", func := "understudy/understudylaw09.MonitorApart", spec := "monitorApart", apart := false }
def MonitorApartSaid : Prop := monitorApartRow.holds Try.pinned (OpenSpec.ofChange monitorApartSpec)

/-- ITS FALSE NEIGHBOUR: 'it returns false'. Refute it at one input. -/
def monitorApartWrong : ChangeSpec := { name := "monitorApart", fn := fun _ => fun
  | [d1, d2] => { results := [.lit (.bool false)], args := [d1, d2] }
  | _ => none }
def MonitorApartWrongFalsely : Prop := monitorApartRow.holds Try.pinned (OpenSpec.ofChange monitorApartWrong)

/- THE SECOND FORM. 'bulk': how many values and letters a reading holds, each counted each time it is reached (what is shared counts as often as it is met; a slice's spare places count too). A statement '..UptoSaid' is the law's where the arguments, and the package variables that the reading takes, are together of bulk at most 1048576: NARROWER than '..Said'. Prove '..Said' where nothing that the law and all that it calls make is longer than what came in: it says more and counts as full. Else prove '..UptoSaid'. A law counts once. -/
mutual
def uptoBulk {H : Type} : DataW H → Nat
  | .lit (.string bytes) => bytes.length + 1
  | .lit _ => 1
  | .nil => 1
  | .ptr d => uptoBulk d + 1
  | .slice elems spare => uptoBulkAll elems + uptoBulkAll spare + 1
  | .agg parts => uptoBulkAll parts + 1
  | .iface _ d => uptoBulk d + 1
  | .map entries => uptoBulkEntries entries + 1
  | .held _ => 1
def uptoBulkAll {H : Type} : List (DataW H) → Nat
  | [] => 0
  | d :: r => uptoBulk d + uptoBulkAll r
def uptoBulkEntries {H : Type} : List (Lit × DataW H) → Nat
  | [] => 0
  | x :: r => uptoBulkEntry x + uptoBulkEntries r
def uptoBulkEntry {H : Type} : Lit × DataW H → Nat
  | (.string bytes, d) => bytes.length + uptoBulk d + 1
  | (_, d) => uptoBulk d + 1
 end
def uptoSmall : (H : Type) → List (DataW H) → Bool := fun _ ds => decide (uptoBulkAll ds ≤ 1048576)
def OpenSpec.upto (s : _root_.Go.ChangeSpec) : _root_.Go.OpenSpec := { _root_.Go.OpenSpec.ofChange s with cond := some uptoSmall }

/-- 'understudylaw09.MonitorOne', WHERE WHAT IT READS IS OF BULK AT MOST 1048576: true; the input reads as it did. -/
def monitorOneUptoRow : OpenClaim := { program := "ytffjembeimpdmaa", sum := "b114ae0c1d1b39ff9975553330b8f056f07392a4f37eb8a9b9d973b68cab55ae", func := "understudy/understudylaw09.MonitorOne", spec := "monitorOne", apart := false, narrowed := true }
def MonitorOneUptoSaid : Prop := monitorOneUptoRow.holds Try.pinned (OpenSpec.upto monitorOneSpec)

/-- 'understudylaw09.MonitorPlays', WHERE WHAT IT READS IS OF BULK AT MOST 1048576: true; the input reads as it did. -/
def monitorPlaysUptoRow : OpenClaim := { program := "ytffjembeimpdmaa", sum := "b114ae0c1d1b39ff9975553330b8f056f07392a4f37eb8a9b9d973b68cab55ae", func := "understudy/understudylaw09.MonitorPlays", spec := "monitorPlays", apart := false, narrowed := true }
def MonitorPlaysUptoSaid : Prop := monitorPlaysUptoRow.holds Try.pinned (OpenSpec.upto monitorPlaysSpec)

/-- 'understudylaw09.MonitorHolds', WHERE WHAT IT READS IS OF BULK AT MOST 1048576: true; the input reads as it did. -/
def monitorHoldsUptoRow : OpenClaim := { program := "ytffjembeimpdmaa", sum := "b114ae0c1d1b39ff9975553330b8f056f07392a4f37eb8a9b9d973b68cab55ae", func := "understudy/understudylaw09.MonitorHolds", spec := "monitorHolds", apart := false, narrowed := true }
def MonitorHoldsUptoSaid : Prop := monitorHoldsUptoRow.holds Try.pinned (OpenSpec.upto monitorHoldsSpec)

/-- 'understudylaw09.MonitorApart', WHERE WHAT IT READS IS OF BULK AT MOST 1048576: true; the input reads as it did. -/
def monitorApartUptoRow : OpenClaim := { program := "ytffjembeimpdmaa", sum := "b114ae0c1d1b39ff9975553330b8f056f07392a4f37eb8a9b9d973b68cab55ae", func := "understudy/understudylaw09.MonitorApart", spec := "monitorApart", apart := false, narrowed := true }
def MonitorApartUptoSaid : Prop := monitorApartUptoRow.holds Try.pinned (OpenSpec.upto monitorApartSpec)

end Rows
end Go.Proofs.Ytffjembeimpdmaa
