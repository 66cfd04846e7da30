/-
  No cell of these rows narrows 'for every input' (looked for: loops, veiled, ifaces, maps, wideKeys, modest, calm, conditions, laid).
  DERIVED. THE GIVEN ROWS OF THIS SEAT. 3 by the template 'for every input the law returns true; each argument reads behind the call as it read before'; 0 by the template 'total and deterministic' (their statements: YtdbgfnkcphbgfaaTotals.lean).
  GIVEN WITH THE SEED: the statements are not yours to turn. If you find one false, say at which input.
  Laid BY PROGRAM, IN A SANDBOX (cutbox-rows.mjs): the forced cells as the released guide's own fill.sh prints them over the translation 99063509ad2131b2… (all of the seat's roots in one cut). By AI agents, Wed Nov 11 2026. No macro, syntax, notation, axiom, sorry.
-/
import Derived.Test.YtdbgfnkcphbgfaaChecked
import GoSem.Claim
import GoSem.ClaimJoined
import GoSem.ClaimMapViews
import Derived.JoinedTies
import Derived.KernelRfl
namespace Go.Proofs.Ytdbgfnkcphbgfaa
/- THE CELL 'sum', in the pinned program and in every row, IS THE sha256 OF THE DUMP (.gsa) THAT YtdbgfnkcphbgfaaProg.lean LOADS. Nothing in Lean hashes anything: it is a label: what it is worth is what the hold of that sum in a sandbox is worth. -/
noncomputable def Try.pinned : Pinned := { name := "ytdbgfnkcphbgfaa", sum := "99063509ad2131b2adfcfc11e493069457f25c6aa0d86004ff49df3e4aa7fc47", checked := Try.checked }
namespace Rows
def none {H : Type} : Left H := { results := [], args := [] }

/-- 'understudylaw15.FetchSees': WHATEVER THE INPUT: true; the input reads as it did. -/
def fetchSeesSpec : ChangeSpec := { name := "fetchSees", fn := fun _ => fun
  | [d1, d2, d3, d4, d5] => { results := [.lit (.bool true)], args := [d1, d2, d3, d4, d5] }
  | _ => none }
def fetchSeesRow : OpenClaim := { program := "ytdbgfnkcphbgfaa", sum := "99063509ad2131b2adfcfc11e493069457f25c6aa0d86004ff49df3e4aa7fc47", func := "understudy/understudylaw15.FetchSees", spec := "fetchSees", unfollowed := true, recurses := true, apart := false }
def FetchSeesSaid : Prop := fetchSeesRow.holds Try.pinned (OpenSpec.ofChange fetchSeesSpec)

/-- ITS FALSE NEIGHBOUR: 'it returns false'. Refute it at one input. -/
def fetchSeesWrong : ChangeSpec := { name := "fetchSees", fn := fun _ => fun
  | [d1, d2, d3, d4, d5] => { results := [.lit (.bool false)], args := [d1, d2, d3, d4, d5] }
  | _ => none }
def FetchSeesWrongFalsely : Prop := fetchSeesRow.holds Try.pinned (OpenSpec.ofChange fetchSeesWrong)

/-- 'understudylaw15.FetchLess': WHATEVER THE INPUT: true; the input reads as it did. -/
def fetchLessSpec : ChangeSpec := { name := "fetchLess", fn := fun _ => fun
  | [d1, d2, d3, d4, d5] => { results := [.lit (.bool true)], args := [d1, d2, d3, d4, d5] }
  | _ => none }
def fetchLessRow : OpenClaim := { program := "ytdbgfnkcphbgfaa", sum := "99063509ad2131b2adfcfc11e493069457f25c6aa0d86004ff49df3e4aa7fc47", func := "understudy/understudylaw15.FetchLess", spec := "fetchLess", unfollowed := true, recurses := true, apart := false }
def FetchLessSaid : Prop := fetchLessRow.holds Try.pinned (OpenSpec.ofChange fetchLessSpec)

/-- ITS FALSE NEIGHBOUR: 'it returns false'. Refute it at one input. -/
def fetchLessWrong : ChangeSpec := { name := "fetchLess", fn := fun _ => fun
  | [d1, d2, d3, d4, d5] => { results := [.lit (.bool false)], args := [d1, d2, d3, d4, d5] }
  | _ => none }
def FetchLessWrongFalsely : Prop := fetchLessRow.holds Try.pinned (OpenSpec.ofChange fetchLessWrong)

/-- 'understudylaw15.FetchAgrees': WHATEVER THE INPUT: true; the input reads as it did. -/
def fetchAgreesSpec : ChangeSpec := { name := "fetchAgrees", fn := fun _ => fun
  | [d1, d2, d3, d4] => { results := [.lit (.bool true)], args := [d1, d2, d3, d4] }
  | _ => none }
def fetchAgreesRow : OpenClaim := { program := "ytdbgfnkcphbgfaa", sum := "99063509ad2131b2adfcfc11e493069457f25c6aa0d86004ff49df3e4aa7fc47", func := "understudy/understudylaw15.FetchAgrees", spec := "fetchAgrees", unfollowed := true, recurses := true, apart := false }
def FetchAgreesSaid : Prop := fetchAgreesRow.holds Try.pinned (OpenSpec.ofChange fetchAgreesSpec)

/-- ITS FALSE NEIGHBOUR: 'it returns false'. Refute it at one input. -/
def fetchAgreesWrong : ChangeSpec := { name := "fetchAgrees", fn := fun _ => fun
  | [d1, d2, d3, d4] => { results := [.lit (.bool false)], args := [d1, d2, d3, d4] }
  | _ => none }
def FetchAgreesWrongFalsely : Prop := fetchAgreesRow.holds Try.pinned (OpenSpec.ofChange fetchAgreesWrong)

/- THE SECOND FORM. 'bulk': how many values and letters a reading holds, each counted each time it is reached (what is shared counts as often as it is met; a slice's spare places count too). A statement '..UptoSaid' is the law's where the arguments, and the package variables that the reading takes, are together of bulk at most 1048576: NARROWER than '..Said'. Prove '..Said' where nothing that the law and all that it calls make is longer than what came in: it says more and counts as full. Else prove '..UptoSaid'. A law counts once. -/
mutual
def uptoBulk {H : Type} : DataW H → Nat
  | .lit (.string bytes) => bytes.length + 1
  | .lit _ => 1
  | .nil => 1
  | .ptr d => uptoBulk d + 1
  | .slice elems spare => uptoBulkAll elems + uptoBulkAll spare + 1
  | .agg parts => uptoBulkAll parts + 1
  | .iface _ d => uptoBulk d + 1
  | .map entries => uptoBulkEntries entries + 1
  | .held _ => 1
def uptoBulkAll {H : Type} : List (DataW H) → Nat
  | [] => 0
  | d :: r => uptoBulk d + uptoBulkAll r
def uptoBulkEntries {H : Type} : List (Lit × DataW H) → Nat
  | [] => 0
  | x :: r => uptoBulkEntry x + uptoBulkEntries r
def uptoBulkEntry {H : Type} : Lit × DataW H → Nat
  | (.string bytes, d) => bytes.length + uptoBulk d + 1
  | (_, d) => uptoBulk d + 1
 end
def uptoSmall : (H : Type) → List (DataW H) → Bool := fun _ ds => decide (uptoBulkAll ds ≤ 1048576)
def OpenSpec.upto (s : _root_.Go.ChangeSpec) : _root_.Go.OpenSpec := { _root_.Go.OpenSpec.ofChange s with cond := some uptoSmall }

/-- 'understudylaw15.FetchSees', WHERE WHAT IT READS IS OF BULK AT MOST 1048576: true; the input reads as it did. -/
def fetchSeesUptoRow : OpenClaim := { program := "ytdbgfnkcphbgfaa", sum := "99063509ad2131b2adfcfc11e493069457f25c6aa0d86004ff49df3e4aa7fc47", func := "understudy/understudylaw15.FetchSees", spec := "fetchSees", unfollowed := true, recurses := true, apart := false, narrowed := true }
def FetchSeesUptoSaid : Prop := fetchSeesUptoRow.holds Try.pinned (OpenSpec.upto fetchSeesSpec)

/-- 'understudylaw15.FetchLess', WHERE WHAT IT READS IS OF BULK AT MOST 1048576: true; the input reads as it did. -/
def fetchLessUptoRow : OpenClaim := { program := "ytdbgfnkcphbgfaa", sum := "99063509ad2131b2adfcfc11e493069457f25c6aa0d86004ff49df3e4aa7fc47", func := "understudy/understudylaw15.FetchLess", spec := "fetchLess", unfollowed := true, recurses := true, apart := false, narrowed := true }
def FetchLessUptoSaid : Prop := fetchLessUptoRow.holds Try.pinned (OpenSpec.upto fetchLessSpec)

/-- 'understudylaw15.FetchAgrees', WHERE WHAT IT READS IS OF BULK AT MOST 1048576: true; the input reads as it did. -/
def fetchAgreesUptoRow : OpenClaim := { program := "ytdbgfnkcphbgfaa", sum := "99063509ad2131b2adfcfc11e493069457f25c6aa0d86004ff49df3e4aa7fc47", func := "understudy/understudylaw15.FetchAgrees", spec := "fetchAgrees", unfollowed := true, recurses := true, apart := false, narrowed := true }
def FetchAgreesUptoSaid : Prop := fetchAgreesUptoRow.holds Try.pinned (OpenSpec.upto fetchAgreesSpec)

end Rows
end Go.Proofs.Ytdbgfnkcphbgfaa
