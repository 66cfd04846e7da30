/-
  No cell of these rows narrows 'for every input' (looked for: loops, veiled, ifaces, maps, wideKeys, modest, calm, conditions, laid).
  DERIVED. THE GIVEN ROWS OF THIS SEAT. 6 by the template 'for every input the law returns true; each argument reads behind the call as it read before'; 0 by the template 'total and deterministic' (their statements: YtiaflkabnaofpaaTotals.lean).
  GIVEN WITH THE SEED: the statements are not yours to turn. If you find one false, say at which input.
  Laid BY PROGRAM, IN A SANDBOX (cutbox-rows.mjs): the forced cells as the released guide's own fill.sh prints them over the translation 33a45ca42e0708d8… (all of the seat's roots in one cut). By AI agents, Wed Nov 11 2026. No macro, syntax, notation, axiom, sorry.
-/
import Derived.Test.YtiaflkabnaofpaaChecked
import GoSem.Claim
import GoSem.ClaimJoined
import GoSem.ClaimMapViews
import Derived.JoinedTies
import Derived.KernelRfl
namespace Go.Proofs.Ytiaflkabnaofpaa
/- THE CELL 'sum', in the pinned program and in every row, IS THE sha256 OF THE DUMP (.gsa) THAT YtiaflkabnaofpaaProg.lean LOADS. Nothing in Lean hashes anything: it is a label: what it is worth is what the hold of that sum in a sandbox is worth. -/
noncomputable def Try.pinned : Pinned := { name := "ytiaflkabnaofpaa", sum := "33a45ca42e0708d825aaa3c22c8adda7dd581977ceac329fef6b64e5065942f4", checked := Try.checked }
namespace Rows
def none {H : Type} : Left H := { results := [], args := [] }

/-- 'understudylaw04.RegsTurned': WHATEVER THE INPUT: true; the input reads as it did. -/
def regsTurnedSpec : ChangeSpec := { name := "regsTurned", fn := fun _ => fun
  | [d1, d2] => { results := [.lit (.bool true)], args := [d1, d2] }
  | _ => none }
def regsTurnedRow : OpenClaim := { program := "ytiaflkabnaofpaa", sum := "33a45ca42e0708d825aaa3c22c8adda7dd581977ceac329fef6b64e5065942f4", func := "understudy/understudylaw04.RegsTurned", spec := "regsTurned", apart := false }
def RegsTurnedSaid : Prop := regsTurnedRow.holds Try.pinned (OpenSpec.ofChange regsTurnedSpec)

/-- ITS FALSE NEIGHBOUR: 'it returns false'. Refute it at one input. -/
def regsTurnedWrong : ChangeSpec := { name := "regsTurned", fn := fun _ => fun
  | [d1, d2] => { results := [.lit (.bool false)], args := [d1, d2] }
  | _ => none }
def RegsTurnedWrongFalsely : Prop := regsTurnedRow.holds Try.pinned (OpenSpec.ofChange regsTurnedWrong)

/-- 'understudylaw04.RegsFlags': WHATEVER THE INPUT: true; the input reads as it did. -/
def regsFlagsSpec : ChangeSpec := { name := "regsFlags", fn := fun _ => fun
  | [d1, d2, d3] => { results := [.lit (.bool true)], args := [d1, d2, d3] }
  | _ => none }
def regsFlagsRow : OpenClaim := { program := "ytiaflkabnaofpaa", sum := "33a45ca42e0708d825aaa3c22c8adda7dd581977ceac329fef6b64e5065942f4", func := "understudy/understudylaw04.RegsFlags", spec := "regsFlags", apart := false }
def RegsFlagsSaid : Prop := regsFlagsRow.holds Try.pinned (OpenSpec.ofChange regsFlagsSpec)

/-- ITS FALSE NEIGHBOUR: 'it returns false'. Refute it at one input. -/
def regsFlagsWrong : ChangeSpec := { name := "regsFlags", fn := fun _ => fun
  | [d1, d2, d3] => { results := [.lit (.bool false)], args := [d1, d2, d3] }
  | _ => none }
def RegsFlagsWrongFalsely : Prop := regsFlagsRow.holds Try.pinned (OpenSpec.ofChange regsFlagsWrong)

/-- 'understudylaw04.RegsBack': WHATEVER THE INPUT: true; the input reads as it did. -/
def regsBackSpec : ChangeSpec := { name := "regsBack", fn := fun _ => fun
  | [d1, d2, d3] => { results := [.lit (.bool true)], args := [d1, d2, d3] }
  | _ => none }
def regsBackRow : OpenClaim := { program := "ytiaflkabnaofpaa", sum := "33a45ca42e0708d825aaa3c22c8adda7dd581977ceac329fef6b64e5065942f4", func := "understudy/understudylaw04.RegsBack", spec := "regsBack", apart := false }
def RegsBackSaid : Prop := regsBackRow.holds Try.pinned (OpenSpec.ofChange regsBackSpec)

/-- ITS FALSE NEIGHBOUR: 'it returns false'. Refute it at one input. -/
def regsBackWrong : ChangeSpec := { name := "regsBack", fn := fun _ => fun
  | [d1, d2, d3] => { results := [.lit (.bool false)], args := [d1, d2, d3] }
  | _ => none }
def RegsBackWrongFalsely : Prop := regsBackRow.holds Try.pinned (OpenSpec.ofChange regsBackWrong)

/-- 'understudylaw04.RegsX': WHATEVER THE INPUT: true; the input reads as it did. -/
def regsXSpec : ChangeSpec := { name := "regsX", fn := fun _ => fun
  | [d1, d2, d3, d4] => { results := [.lit (.bool true)], args := [d1, d2, d3, d4] }
  | _ => none }
def regsXRow : OpenClaim := { program := "ytiaflkabnaofpaa", sum := "33a45ca42e0708d825aaa3c22c8adda7dd581977ceac329fef6b64e5065942f4", func := "understudy/understudylaw04.RegsX", spec := "regsX", apart := false }
def RegsXSaid : Prop := regsXRow.holds Try.pinned (OpenSpec.ofChange regsXSpec)

/-- ITS FALSE NEIGHBOUR: 'it returns false'. Refute it at one input. -/
def regsXWrong : ChangeSpec := { name := "regsX", fn := fun _ => fun
  | [d1, d2, d3, d4] => { results := [.lit (.bool false)], args := [d1, d2, d3, d4] }
  | _ => none }
def RegsXWrongFalsely : Prop := regsXRow.holds Try.pinned (OpenSpec.ofChange regsXWrong)

/-- 'understudylaw04.RegsSystem': WHATEVER THE INPUT: true; the input reads as it did. -/
def regsSystemSpec : ChangeSpec := { name := "regsSystem", fn := fun _ => fun
  | [d1, d2, d3] => { results := [.lit (.bool true)], args := [d1, d2, d3] }
  | _ => none }
def regsSystemRow : OpenClaim := { program := "ytiaflkabnaofpaa", sum := "33a45ca42e0708d825aaa3c22c8adda7dd581977ceac329fef6b64e5065942f4", func := "understudy/understudylaw04.RegsSystem", spec := "regsSystem", apart := false }
def RegsSystemSaid : Prop := regsSystemRow.holds Try.pinned (OpenSpec.ofChange regsSystemSpec)

/-- ITS FALSE NEIGHBOUR: 'it returns false'. Refute it at one input. -/
def regsSystemWrong : ChangeSpec := { name := "regsSystem", fn := fun _ => fun
  | [d1, d2, d3] => { results := [.lit (.bool false)], args := [d1, d2, d3] }
  | _ => none }
def RegsSystemWrongFalsely : Prop := regsSystemRow.holds Try.pinned (OpenSpec.ofChange regsSystemWrong)

/-- 'understudylaw04.RegsSet': WHATEVER THE INPUT: true; the input reads as it did. -/
def regsSetSpec : ChangeSpec := { name := "regsSet", fn := fun _ => fun
  | [d1, d2, d3] => { results := [.lit (.bool true)], args := [d1, d2, d3] }
  | _ => none }
def regsSetRow : OpenClaim := { program := "ytiaflkabnaofpaa", sum := "33a45ca42e0708d825aaa3c22c8adda7dd581977ceac329fef6b64e5065942f4", func := "understudy/understudylaw04.RegsSet", spec := "regsSet", apart := false }
def RegsSetSaid : Prop := regsSetRow.holds Try.pinned (OpenSpec.ofChange regsSetSpec)

/-- ITS FALSE NEIGHBOUR: 'it returns false'. Refute it at one input. -/
def regsSetWrong : ChangeSpec := { name := "regsSet", fn := fun _ => fun
  | [d1, d2, d3] => { results := [.lit (.bool false)], args := [d1, d2, d3] }
  | _ => none }
def RegsSetWrongFalsely : Prop := regsSetRow.holds Try.pinned (OpenSpec.ofChange regsSetWrong)

/- THE SECOND FORM. 'bulk': how many values and letters a reading holds, each counted each time it is reached (what is shared counts as often as it is met; a slice's spare places count too). A statement '..UptoSaid' is the law's where the arguments, and the package variables that the reading takes, are together of bulk at most 1048576: NARROWER than '..Said'. Prove '..Said' where nothing that the law and all that it calls make is longer than what came in: it says more and counts as full. Else prove '..UptoSaid'. A law counts once. -/
mutual
def uptoBulk {H : Type} : DataW H → Nat
  | .lit (.string bytes) => bytes.length + 1
  | .lit _ => 1
  | .nil => 1
  | .ptr d => uptoBulk d + 1
  | .slice elems spare => uptoBulkAll elems + uptoBulkAll spare + 1
  | .agg parts => uptoBulkAll parts + 1
  | .iface _ d => uptoBulk d + 1
  | .map entries => uptoBulkEntries entries + 1
  | .held _ => 1
def uptoBulkAll {H : Type} : List (DataW H) → Nat
  | [] => 0
  | d :: r => uptoBulk d + uptoBulkAll r
def uptoBulkEntries {H : Type} : List (Lit × DataW H) → Nat
  | [] => 0
  | x :: r => uptoBulkEntry x + uptoBulkEntries r
def uptoBulkEntry {H : Type} : Lit × DataW H → Nat
  | (.string bytes, d) => bytes.length + uptoBulk d + 1
  | (_, d) => uptoBulk d + 1
 end
def uptoSmall : (H : Type) → List (DataW H) → Bool := fun _ ds => decide (uptoBulkAll ds ≤ 1048576)
def OpenSpec.upto (s : _root_.Go.ChangeSpec) : _root_.Go.OpenSpec := { _root_.Go.OpenSpec.ofChange s with cond := some uptoSmall }

/-- 'understudylaw04.RegsTurned', WHERE WHAT IT READS IS OF BULK AT MOST 1048576: true; the input reads as it did. -/
def regsTurnedUptoRow : OpenClaim := { program := "ytiaflkabnaofpaa", sum := "33a45ca42e0708d825aaa3c22c8adda7dd581977ceac329fef6b64e5065942f4", func := "understudy/understudylaw04.RegsTurned", spec := "regsTurned", apart := false, narrowed := true }
def RegsTurnedUptoSaid : Prop := regsTurnedUptoRow.holds Try.pinned (OpenSpec.upto regsTurnedSpec)

/-- 'understudylaw04.RegsFlags', WHERE WHAT IT READS IS OF BULK AT MOST 1048576: true; the input reads as it did. -/
def regsFlagsUptoRow : OpenClaim := { program := "ytiaflkabnaofpaa", sum := "33a45ca42e0708d825aaa3c22c8adda7dd581977ceac329fef6b64e5065942f4", func := "understudy/understudylaw04.RegsFlags", spec := "regsFlags", apart := false, narrowed := true }
def RegsFlagsUptoSaid : Prop := regsFlagsUptoRow.holds Try.pinned (OpenSpec.upto regsFlagsSpec)

/-- 'understudylaw04.RegsBack', WHERE WHAT IT READS IS OF BULK AT MOST 1048576: true; the input reads as it did. -/
def regsBackUptoRow : OpenClaim := { program := "ytiaflkabnaofpaa", sum := "33a45ca42e0708d825aaa3c22c8adda7dd581977ceac329fef6b64e5065942f4", func := "understudy/understudylaw04.RegsBack", spec := "regsBack", apart := false, narrowed := true }
def RegsBackUptoSaid : Prop := regsBackUptoRow.holds Try.pinned (OpenSpec.upto regsBackSpec)

/-- 'understudylaw04.RegsX', WHERE WHAT IT READS IS OF BULK AT MOST 1048576: true; the input reads as it did. -/
def regsXUptoRow : OpenClaim := { program := "ytiaflkabnaofpaa", sum := "33a45ca42e0708d825aaa3c22c8adda7dd581977ceac329fef6b64e5065942f4", func := "understudy/understudylaw04.RegsX", spec := "regsX", apart := false, narrowed := true }
def RegsXUptoSaid : Prop := regsXUptoRow.holds Try.pinned (OpenSpec.upto regsXSpec)

/-- 'understudylaw04.RegsSystem', WHERE WHAT IT READS IS OF BULK AT MOST 1048576: true; the input reads as it did. -/
def regsSystemUptoRow : OpenClaim := { program := "ytiaflkabnaofpaa", sum := "33a45ca42e0708d825aaa3c22c8adda7dd581977ceac329fef6b64e5065942f4", func := "understudy/understudylaw04.RegsSystem", spec := "regsSystem", apart := false, narrowed := true }
def RegsSystemUptoSaid : Prop := regsSystemUptoRow.holds Try.pinned (OpenSpec.upto regsSystemSpec)

/-- 'understudylaw04.RegsSet', WHERE WHAT IT READS IS OF BULK AT MOST 1048576: true; the input reads as it did. -/
def regsSetUptoRow : OpenClaim := { program := "ytiaflkabnaofpaa", sum := "33a45ca42e0708d825aaa3c22c8adda7dd581977ceac329fef6b64e5065942f4", func := "understudy/understudylaw04.RegsSet", spec := "regsSet", apart := false, narrowed := true }
def RegsSetUptoSaid : Prop := regsSetUptoRow.holds Try.pinned (OpenSpec.upto regsSetSpec)

end Rows
end Go.Proofs.Ytiaflkabnaofpaa
