/-
  No cell of these rows narrows 'for every input' (looked for: loops, veiled, ifaces, maps, wideKeys, modest, calm, conditions, laid).
  DERIVED. THE GIVEN ROWS OF THIS SEAT. 4 by the template 'for every input the law returns true; each argument reads behind the call as it read before'; 0 by the template 'total and deterministic' (their statements: YtnmakbippgnekaaTotals.lean).
  GIVEN WITH THE SEED: the statements are not yours to turn. If you find one false, say at which input.
  Laid BY PROGRAM, IN A SANDBOX (cutbox-rows.mjs): the forced cells as the released guide's own fill.sh prints them over the translation 27c6701d074cb7e0… (all of the seat's roots in one cut). By AI agents, Wed Nov 11 2026. No macro, syntax, notation, axiom, sorry.
-/
import Derived.Test.YtnmakbippgnekaaChecked
import GoSem.Claim
import GoSem.ClaimJoined
import GoSem.ClaimMapViews
import Derived.JoinedTies
import Derived.KernelRfl
namespace Go.Proofs.Ytnmakbippgnekaa
/- THE CELL 'sum', in the pinned program and in every row, IS THE sha256 OF THE DUMP (.gsa) THAT YtnmakbippgnekaaProg.lean LOADS. Nothing in Lean hashes anything: it is a label: what it is worth is what the hold of that sum in a sandbox is worth. -/
noncomputable def Try.pinned : Pinned := { name := "ytnmakbippgnekaa", sum := "27c6701d074cb7e0d7e1f1b3568b26daf5271961c7169161c8f4f28ca4d22ab3", checked := Try.checked }
namespace Rows
def none {H : Type} : Left H := { results := [], args := [] }

/-- 'understudylaw12.BusTells': WHATEVER THE INPUT: true; the input reads as it did. -/
def busTellsSpec : ChangeSpec := { name := "busTells", fn := fun _ => fun
  | [d] => { results := [.lit (.bool true)], args := [d] }
  | _ => none }
def busTellsRow : OpenClaim := { program := "ytnmakbippgnekaa", sum := "27c6701d074cb7e0d7e1f1b3568b26daf5271961c7169161c8f4f28ca4d22ab3", func := "understudy/understudylaw12.BusTells", spec := "busTells", unfollowed := true, recurses := true, apart := false }
def BusTellsSaid : Prop := busTellsRow.holds Try.pinned (OpenSpec.ofChange busTellsSpec)

/-- ITS FALSE NEIGHBOUR: 'it returns false'. Refute it at one input. -/
def busTellsWrong : ChangeSpec := { name := "busTells", fn := fun _ => fun
  | [d] => { results := [.lit (.bool false)], args := [d] }
  | _ => none }
def BusTellsWrongFalsely : Prop := busTellsRow.holds Try.pinned (OpenSpec.ofChange busTellsWrong)

/-- 'understudylaw12.BusTimes': WHATEVER THE INPUT: true; the input reads as it did. -/
def busTimesSpec : ChangeSpec := { name := "busTimes", fn := fun _ => fun
  | [d1, d2, d3] => { results := [.lit (.bool true)], args := [d1, d2, d3] }
  | _ => none }
def busTimesRow : OpenClaim := { program := "ytnmakbippgnekaa", sum := "27c6701d074cb7e0d7e1f1b3568b26daf5271961c7169161c8f4f28ca4d22ab3", func := "understudy/understudylaw12.BusTimes", spec := "busTimes", unfollowed := true, recurses := true, apart := false }
def BusTimesSaid : Prop := busTimesRow.holds Try.pinned (OpenSpec.ofChange busTimesSpec)

/-- ITS FALSE NEIGHBOUR: 'it returns false'. Refute it at one input. -/
def busTimesWrong : ChangeSpec := { name := "busTimes", fn := fun _ => fun
  | [d1, d2, d3] => { results := [.lit (.bool false)], args := [d1, d2, d3] }
  | _ => none }
def BusTimesWrongFalsely : Prop := busTimesRow.holds Try.pinned (OpenSpec.ofChange busTimesWrong)

/-- 'understudylaw12.BusRanks': WHATEVER THE INPUT: true; the input reads as it did. -/
def busRanksSpec : ChangeSpec := { name := "busRanks", fn := fun _ => fun
  | [d1, d2, d3] => { results := [.lit (.bool true)], args := [d1, d2, d3] }
  | _ => none }
def busRanksRow : OpenClaim := { program := "ytnmakbippgnekaa", sum := "27c6701d074cb7e0d7e1f1b3568b26daf5271961c7169161c8f4f28ca4d22ab3", func := "understudy/understudylaw12.BusRanks", spec := "busRanks", unfollowed := true, recurses := true, apart := false }
def BusRanksSaid : Prop := busRanksRow.holds Try.pinned (OpenSpec.ofChange busRanksSpec)

/-- ITS FALSE NEIGHBOUR: 'it returns false'. Refute it at one input. -/
def busRanksWrong : ChangeSpec := { name := "busRanks", fn := fun _ => fun
  | [d1, d2, d3] => { results := [.lit (.bool false)], args := [d1, d2, d3] }
  | _ => none }
def BusRanksWrongFalsely : Prop := busRanksRow.holds Try.pinned (OpenSpec.ofChange busRanksWrong)

/-- 'understudylaw12.BusBits': WHATEVER THE INPUT: true; the input reads as it did. -/
def busBitsSpec : ChangeSpec := { name := "busBits", fn := fun _ => fun
  | [d1, d2, d3, d4, d5] => { results := [.lit (.bool true)], args := [d1, d2, d3, d4, d5] }
  | _ => none }
def busBitsRow : OpenClaim := { program := "ytnmakbippgnekaa", sum := "27c6701d074cb7e0d7e1f1b3568b26daf5271961c7169161c8f4f28ca4d22ab3", func := "understudy/understudylaw12.BusBits", spec := "busBits", unfollowed := true, recurses := true, apart := false }
def BusBitsSaid : Prop := busBitsRow.holds Try.pinned (OpenSpec.ofChange busBitsSpec)

/-- ITS FALSE NEIGHBOUR: 'it returns false'. Refute it at one input. -/
def busBitsWrong : ChangeSpec := { name := "busBits", fn := fun _ => fun
  | [d1, d2, d3, d4, d5] => { results := [.lit (.bool false)], args := [d1, d2, d3, d4, d5] }
  | _ => none }
def BusBitsWrongFalsely : Prop := busBitsRow.holds Try.pinned (OpenSpec.ofChange busBitsWrong)

/- THE SECOND FORM. 'bulk': how many values and letters a reading holds, each counted each time it is reached (what is shared counts as often as it is met; a slice's spare places count too). A statement '..UptoSaid' is the law's where the arguments, and the package variables that the reading takes, are together of bulk at most 1048576: NARROWER than '..Said'. Prove '..Said' where nothing that the law and all that it calls make is longer than what came in: it says more and counts as full. Else prove '..UptoSaid'. A law counts once. -/
mutual
def uptoBulk {H : Type} : DataW H → Nat
  | .lit (.string bytes) => bytes.length + 1
  | .lit _ => 1
  | .nil => 1
  | .ptr d => uptoBulk d + 1
  | .slice elems spare => uptoBulkAll elems + uptoBulkAll spare + 1
  | .agg parts => uptoBulkAll parts + 1
  | .iface _ d => uptoBulk d + 1
  | .map entries => uptoBulkEntries entries + 1
  | .held _ => 1
def uptoBulkAll {H : Type} : List (DataW H) → Nat
  | [] => 0
  | d :: r => uptoBulk d + uptoBulkAll r
def uptoBulkEntries {H : Type} : List (Lit × DataW H) → Nat
  | [] => 0
  | x :: r => uptoBulkEntry x + uptoBulkEntries r
def uptoBulkEntry {H : Type} : Lit × DataW H → Nat
  | (.string bytes, d) => bytes.length + uptoBulk d + 1
  | (_, d) => uptoBulk d + 1
 end
def uptoSmall : (H : Type) → List (DataW H) → Bool := fun _ ds => decide (uptoBulkAll ds ≤ 1048576)
def OpenSpec.upto (s : _root_.Go.ChangeSpec) : _root_.Go.OpenSpec := { _root_.Go.OpenSpec.ofChange s with cond := some uptoSmall }

/-- 'understudylaw12.BusTells', WHERE WHAT IT READS IS OF BULK AT MOST 1048576: true; the input reads as it did. -/
def busTellsUptoRow : OpenClaim := { program := "ytnmakbippgnekaa", sum := "27c6701d074cb7e0d7e1f1b3568b26daf5271961c7169161c8f4f28ca4d22ab3", func := "understudy/understudylaw12.BusTells", spec := "busTells", unfollowed := true, recurses := true, apart := false, narrowed := true }
def BusTellsUptoSaid : Prop := busTellsUptoRow.holds Try.pinned (OpenSpec.upto busTellsSpec)

/-- 'understudylaw12.BusTimes', WHERE WHAT IT READS IS OF BULK AT MOST 1048576: true; the input reads as it did. -/
def busTimesUptoRow : OpenClaim := { program := "ytnmakbippgnekaa", sum := "27c6701d074cb7e0d7e1f1b3568b26daf5271961c7169161c8f4f28ca4d22ab3", func := "understudy/understudylaw12.BusTimes", spec := "busTimes", unfollowed := true, recurses := true, apart := false, narrowed := true }
def BusTimesUptoSaid : Prop := busTimesUptoRow.holds Try.pinned (OpenSpec.upto busTimesSpec)

/-- 'understudylaw12.BusRanks', WHERE WHAT IT READS IS OF BULK AT MOST 1048576: true; the input reads as it did. -/
def busRanksUptoRow : OpenClaim := { program := "ytnmakbippgnekaa", sum := "27c6701d074cb7e0d7e1f1b3568b26daf5271961c7169161c8f4f28ca4d22ab3", func := "understudy/understudylaw12.BusRanks", spec := "busRanks", unfollowed := true, recurses := true, apart := false, narrowed := true }
def BusRanksUptoSaid : Prop := busRanksUptoRow.holds Try.pinned (OpenSpec.upto busRanksSpec)

/-- 'understudylaw12.BusBits', WHERE WHAT IT READS IS OF BULK AT MOST 1048576: true; the input reads as it did. -/
def busBitsUptoRow : OpenClaim := { program := "ytnmakbippgnekaa", sum := "27c6701d074cb7e0d7e1f1b3568b26daf5271961c7169161c8f4f28ca4d22ab3", func := "understudy/understudylaw12.BusBits", spec := "busBits", unfollowed := true, recurses := true, apart := false, narrowed := true }
def BusBitsUptoSaid : Prop := busBitsUptoRow.holds Try.pinned (OpenSpec.upto busBitsSpec)

end Rows
end Go.Proofs.Ytnmakbippgnekaa
