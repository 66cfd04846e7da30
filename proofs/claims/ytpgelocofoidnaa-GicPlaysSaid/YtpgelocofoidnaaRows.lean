/-
  No cell of these rows narrows 'for every input' (looked for: loops, veiled, ifaces, maps, wideKeys, modest, calm, conditions, laid).
  DERIVED. THE GIVEN ROWS OF THIS SEAT. 8 by the template 'for every input the law returns true; each argument reads behind the call as it read before'; 0 by the template 'total and deterministic' (their statements: YtpgelocofoidnaaTotals.lean).
  GIVEN WITH THE SEED: the statements are not yours to turn. If you find one false, say at which input.
  Laid BY PROGRAM, IN A SANDBOX (cutbox-rows.mjs): the forced cells as the released guide's own fill.sh prints them over the translation 62f123bbe483d69b… (all of the seat's roots in one cut). By AI agents, Wed Nov 11 2026. No macro, syntax, notation, axiom, sorry.
-/
import Derived.Test.YtpgelocofoidnaaChecked
import GoSem.Claim
import GoSem.ClaimJoined
import GoSem.ClaimMapViews
import Derived.JoinedTies
import Derived.KernelRfl
namespace Go.Proofs.Ytpgelocofoidnaa
/- THE CELL 'sum', in the pinned program and in every row, IS THE sha256 OF THE DUMP (.gsa) THAT YtpgelocofoidnaaProg.lean LOADS. Nothing in Lean hashes anything: it is a label: what it is worth is what the hold of that sum in a sandbox is worth. -/
noncomputable def Try.pinned : Pinned := { name := "ytpgelocofoidnaa", sum := "62f123bbe483d69bad23060482dc50a8e3542fd46c5c9de7fe0dd35b3cca70b9", checked := Try.checked }
namespace Rows
def none {H : Type} : Left H := { results := [], args := [] }

/-- 'understudylaw10.GicLines': WHATEVER THE INPUT: true; the input reads as it did. -/
def gicLinesSpec : ChangeSpec := { name := "gicLines", fn := fun _ => fun
  | [d1, d2] => { results := [.lit (.bool true)], args := [d1, d2] }
  | _ => none }
def gicLinesRow : OpenClaim := { program := "ytpgelocofoidnaa", sum := "62f123bbe483d69bad23060482dc50a8e3542fd46c5c9de7fe0dd35b3cca70b9", func := "understudy/understudylaw10.GicLines", spec := "gicLines", unfollowed := true, recurses := true, apart := false }
def GicLinesSaid : Prop := gicLinesRow.holds Try.pinned (OpenSpec.ofChange gicLinesSpec)

/-- ITS FALSE NEIGHBOUR: 'it returns false'. Refute it at one input. -/
def gicLinesWrong : ChangeSpec := { name := "gicLines", fn := fun _ => fun
  | [d1, d2] => { results := [.lit (.bool false)], args := [d1, d2] }
  | _ => none }
def GicLinesWrongFalsely : Prop := gicLinesRow.holds Try.pinned (OpenSpec.ofChange gicLinesWrong)

/-- 'understudylaw10.GicNests': WHATEVER THE INPUT: true; the input reads as it did. -/
def gicNestsSpec : ChangeSpec := { name := "gicNests", fn := fun _ => fun
  | [d] => { results := [.lit (.bool true)], args := [d] }
  | _ => none }
def gicNestsRow : OpenClaim := { program := "ytpgelocofoidnaa", sum := "62f123bbe483d69bad23060482dc50a8e3542fd46c5c9de7fe0dd35b3cca70b9", func := "understudy/understudylaw10.GicNests", spec := "gicNests", unfollowed := true, recurses := true, apart := false }
def GicNestsSaid : Prop := gicNestsRow.holds Try.pinned (OpenSpec.ofChange gicNestsSpec)

/-- ITS FALSE NEIGHBOUR: 'it returns false'. Refute it at one input. -/
def gicNestsWrong : ChangeSpec := { name := "gicNests", fn := fun _ => fun
  | [d] => { results := [.lit (.bool false)], args := [d] }
  | _ => none }
def GicNestsWrongFalsely : Prop := gicNestsRow.holds Try.pinned (OpenSpec.ofChange gicNestsWrong)

/-- 'understudylaw10.GicOrder': WHATEVER THE INPUT: true; the input reads as it did. -/
def gicOrderSpec : ChangeSpec := { name := "gicOrder", fn := fun _ => fun
  | [d1, d2] => { results := [.lit (.bool true)], args := [d1, d2] }
  | _ => none }
def gicOrderRow : OpenClaim := { program := "ytpgelocofoidnaa", sum := "62f123bbe483d69bad23060482dc50a8e3542fd46c5c9de7fe0dd35b3cca70b9", func := "understudy/understudylaw10.GicOrder", spec := "gicOrder", unfollowed := true, recurses := true, apart := false }
def GicOrderSaid : Prop := gicOrderRow.holds Try.pinned (OpenSpec.ofChange gicOrderSpec)

/-- ITS FALSE NEIGHBOUR: 'it returns false'. Refute it at one input. -/
def gicOrderWrong : ChangeSpec := { name := "gicOrder", fn := fun _ => fun
  | [d1, d2] => { results := [.lit (.bool false)], args := [d1, d2] }
  | _ => none }
def GicOrderWrongFalsely : Prop := gicOrderRow.holds Try.pinned (OpenSpec.ofChange gicOrderWrong)

/-- 'understudylaw10.GicQuiet': WHATEVER THE INPUT: true; the input reads as it did. -/
def gicQuietSpec : ChangeSpec := { name := "gicQuiet", fn := fun _ => fun
  | [d1, d2, d3] => { results := [.lit (.bool true)], args := [d1, d2, d3] }
  | _ => none }
def gicQuietRow : OpenClaim := { program := "ytpgelocofoidnaa", sum := "62f123bbe483d69bad23060482dc50a8e3542fd46c5c9de7fe0dd35b3cca70b9", func := "understudy/understudylaw10.GicQuiet", spec := "gicQuiet", unfollowed := true, recurses := true, apart := false }
def GicQuietSaid : Prop := gicQuietRow.holds Try.pinned (OpenSpec.ofChange gicQuietSpec)

/-- ITS FALSE NEIGHBOUR: 'it returns false'. Refute it at one input. -/
def gicQuietWrong : ChangeSpec := { name := "gicQuiet", fn := fun _ => fun
  | [d1, d2, d3] => { results := [.lit (.bool false)], args := [d1, d2, d3] }
  | _ => none }
def GicQuietWrongFalsely : Prop := gicQuietRow.holds Try.pinned (OpenSpec.ofChange gicQuietWrong)

/-- 'understudylaw10.GicSends': WHATEVER THE INPUT: true; the input reads as it did. -/
def gicSendsSpec : ChangeSpec := { name := "gicSends", fn := fun _ => fun
  | [d1, d2, d3] => { results := [.lit (.bool true)], args := [d1, d2, d3] }
  | _ => none }
def gicSendsRow : OpenClaim := { program := "ytpgelocofoidnaa", sum := "62f123bbe483d69bad23060482dc50a8e3542fd46c5c9de7fe0dd35b3cca70b9", func := "understudy/understudylaw10.GicSends", spec := "gicSends", unfollowed := true, recurses := true, apart := false }
def GicSendsSaid : Prop := gicSendsRow.holds Try.pinned (OpenSpec.ofChange gicSendsSpec)

/-- ITS FALSE NEIGHBOUR: 'it returns false'. Refute it at one input. -/
def gicSendsWrong : ChangeSpec := { name := "gicSends", fn := fun _ => fun
  | [d1, d2, d3] => { results := [.lit (.bool false)], args := [d1, d2, d3] }
  | _ => none }
def GicSendsWrongFalsely : Prop := gicSendsRow.holds Try.pinned (OpenSpec.ofChange gicSendsWrong)

/-- 'understudylaw10.GicApart': WHATEVER THE INPUT: true; the input reads as it did. -/
def gicApartSpec : ChangeSpec := { name := "gicApart", fn := fun _ => fun
  | [d1, d2] => { results := [.lit (.bool true)], args := [d1, d2] }
  | _ => none }
def gicApartRow : OpenClaim := { program := "ytpgelocofoidnaa", sum := "62f123bbe483d69bad23060482dc50a8e3542fd46c5c9de7fe0dd35b3cca70b9", func := "understudy/understudylaw10.GicApart", spec := "gicApart", unfollowed := true, recurses := true, apart := false }
def GicApartSaid : Prop := gicApartRow.holds Try.pinned (OpenSpec.ofChange gicApartSpec)

/-- ITS FALSE NEIGHBOUR: 'it returns false'. Refute it at one input. -/
def gicApartWrong : ChangeSpec := { name := "gicApart", fn := fun _ => fun
  | [d1, d2] => { results := [.lit (.bool false)], args := [d1, d2] }
  | _ => none }
def GicApartWrongFalsely : Prop := gicApartRow.holds Try.pinned (OpenSpec.ofChange gicApartWrong)

/-- 'understudylaw10.GicPlays': WHATEVER THE INPUT: true; the input reads as it did. -/
def gicPlaysSpec : ChangeSpec := { name := "gicPlays", fn := fun _ => fun
  | [d1, d2] => { results := [.lit (.bool true)], args := [d1, d2] }
  | _ => none }
def gicPlaysRow : OpenClaim := { program := "ytpgelocofoidnaa", sum := "62f123bbe483d69bad23060482dc50a8e3542fd46c5c9de7fe0dd35b3cca70b9", func := "understudy/understudylaw10.GicPlays", spec := "gicPlays", unfollowed := true, recurses := true, apart := false }
def GicPlaysSaid : Prop := gicPlaysRow.holds Try.pinned (OpenSpec.ofChange gicPlaysSpec)

/-- ITS FALSE NEIGHBOUR: 'it returns false'. Refute it at one input. -/
def gicPlaysWrong : ChangeSpec := { name := "gicPlays", fn := fun _ => fun
  | [d1, d2] => { results := [.lit (.bool false)], args := [d1, d2] }
  | _ => none }
def GicPlaysWrongFalsely : Prop := gicPlaysRow.holds Try.pinned (OpenSpec.ofChange gicPlaysWrong)

/-- 'understudylaw10.GicTakes': WHATEVER THE INPUT: true; the input reads as it did. -/
def gicTakesSpec : ChangeSpec := { name := "gicTakes", fn := fun _ => fun
  | [d1, d2] => { results := [.lit (.bool true)], args := [d1, d2] }
  | _ => none }
def gicTakesRow : OpenClaim := { program := "ytpgelocofoidnaa", sum := "62f123bbe483d69bad23060482dc50a8e3542fd46c5c9de7fe0dd35b3cca70b9", func := "understudy/understudylaw10.GicTakes", spec := "gicTakes", unfollowed := true, recurses := true, apart := false }
def GicTakesSaid : Prop := gicTakesRow.holds Try.pinned (OpenSpec.ofChange gicTakesSpec)

/-- ITS FALSE NEIGHBOUR: 'it returns false'. Refute it at one input. -/
def gicTakesWrong : ChangeSpec := { name := "gicTakes", fn := fun _ => fun
  | [d1, d2] => { results := [.lit (.bool false)], args := [d1, d2] }
  | _ => none }
def GicTakesWrongFalsely : Prop := gicTakesRow.holds Try.pinned (OpenSpec.ofChange gicTakesWrong)

/- THE SECOND FORM. 'bulk': how many values and letters a reading holds, each counted each time it is reached (what is shared counts as often as it is met; a slice's spare places count too). A statement '..UptoSaid' is the law's where the arguments, and the package variables that the reading takes, are together of bulk at most 1048576: NARROWER than '..Said'. Prove '..Said' where nothing that the law and all that it calls make is longer than what came in: it says more and counts as full. Else prove '..UptoSaid'. A law counts once. -/
mutual
def uptoBulk {H : Type} : DataW H → Nat
  | .lit (.string bytes) => bytes.length + 1
  | .lit _ => 1
  | .nil => 1
  | .ptr d => uptoBulk d + 1
  | .slice elems spare => uptoBulkAll elems + uptoBulkAll spare + 1
  | .agg parts => uptoBulkAll parts + 1
  | .iface _ d => uptoBulk d + 1
  | .map entries => uptoBulkEntries entries + 1
  | .held _ => 1
def uptoBulkAll {H : Type} : List (DataW H) → Nat
  | [] => 0
  | d :: r => uptoBulk d + uptoBulkAll r
def uptoBulkEntries {H : Type} : List (Lit × DataW H) → Nat
  | [] => 0
  | x :: r => uptoBulkEntry x + uptoBulkEntries r
def uptoBulkEntry {H : Type} : Lit × DataW H → Nat
  | (.string bytes, d) => bytes.length + uptoBulk d + 1
  | (_, d) => uptoBulk d + 1
 end
def uptoSmall : (H : Type) → List (DataW H) → Bool := fun _ ds => decide (uptoBulkAll ds ≤ 1048576)
def OpenSpec.upto (s : _root_.Go.ChangeSpec) : _root_.Go.OpenSpec := { _root_.Go.OpenSpec.ofChange s with cond := some uptoSmall }

/-- 'understudylaw10.GicLines', WHERE WHAT IT READS IS OF BULK AT MOST 1048576: true; the input reads as it did. -/
def gicLinesUptoRow : OpenClaim := { program := "ytpgelocofoidnaa", sum := "62f123bbe483d69bad23060482dc50a8e3542fd46c5c9de7fe0dd35b3cca70b9", func := "understudy/understudylaw10.GicLines", spec := "gicLines", unfollowed := true, recurses := true, apart := false, narrowed := true }
def GicLinesUptoSaid : Prop := gicLinesUptoRow.holds Try.pinned (OpenSpec.upto gicLinesSpec)

/-- 'understudylaw10.GicNests', WHERE WHAT IT READS IS OF BULK AT MOST 1048576: true; the input reads as it did. -/
def gicNestsUptoRow : OpenClaim := { program := "ytpgelocofoidnaa", sum := "62f123bbe483d69bad23060482dc50a8e3542fd46c5c9de7fe0dd35b3cca70b9", func := "understudy/understudylaw10.GicNests", spec := "gicNests", unfollowed := true, recurses := true, apart := false, narrowed := true }
def GicNestsUptoSaid : Prop := gicNestsUptoRow.holds Try.pinned (OpenSpec.upto gicNestsSpec)

/-- 'understudylaw10.GicOrder', WHERE WHAT IT READS IS OF BULK AT MOST 1048576: true; the input reads as it did. -/
def gicOrderUptoRow : OpenClaim := { program := "ytpgelocofoidnaa", sum := "62f123bbe483d69bad23060482dc50a8e3542fd46c5c9de7fe0dd35b3cca70b9", func := "understudy/understudylaw10.GicOrder", spec := "gicOrder", unfollowed := true, recurses := true, apart := false, narrowed := true }
def GicOrderUptoSaid : Prop := gicOrderUptoRow.holds Try.pinned (OpenSpec.upto gicOrderSpec)

/-- 'understudylaw10.GicQuiet', WHERE WHAT IT READS IS OF BULK AT MOST 1048576: true; the input reads as it did. -/
def gicQuietUptoRow : OpenClaim := { program := "ytpgelocofoidnaa", sum := "62f123bbe483d69bad23060482dc50a8e3542fd46c5c9de7fe0dd35b3cca70b9", func := "understudy/understudylaw10.GicQuiet", spec := "gicQuiet", unfollowed := true, recurses := true, apart := false, narrowed := true }
def GicQuietUptoSaid : Prop := gicQuietUptoRow.holds Try.pinned (OpenSpec.upto gicQuietSpec)

/-- 'understudylaw10.GicSends', WHERE WHAT IT READS IS OF BULK AT MOST 1048576: true; the input reads as it did. -/
def gicSendsUptoRow : OpenClaim := { program := "ytpgelocofoidnaa", sum := "62f123bbe483d69bad23060482dc50a8e3542fd46c5c9de7fe0dd35b3cca70b9", func := "understudy/understudylaw10.GicSends", spec := "gicSends", unfollowed := true, recurses := true, apart := false, narrowed := true }
def GicSendsUptoSaid : Prop := gicSendsUptoRow.holds Try.pinned (OpenSpec.upto gicSendsSpec)

/-- 'understudylaw10.GicApart', WHERE WHAT IT READS IS OF BULK AT MOST 1048576: true; the input reads as it did. -/
def gicApartUptoRow : OpenClaim := { program := "ytpgelocofoidnaa", sum := "62f123bbe483d69bad23060482dc50a8e3542fd46c5c9de7fe0dd35b3cca70b9", func := "understudy/understudylaw10.GicApart", spec := "gicApart", unfollowed := true, recurses := true, apart := false, narrowed := true }
def GicApartUptoSaid : Prop := gicApartUptoRow.holds Try.pinned (OpenSpec.upto gicApartSpec)

/-- 'understudylaw10.GicPlays', WHERE WHAT IT READS IS OF BULK AT MOST 1048576: true; the input reads as it did. -/
def gicPlaysUptoRow : OpenClaim := { program := "ytpgelocofoidnaa", sum := "62f123bbe483d69bad23060482dc50a8e3542fd46c5c9de7fe0dd35b3cca70b9", func := "understudy/understudylaw10.GicPlays", spec := "gicPlays", unfollowed := true, recurses := true, apart := false, narrowed := true }
def GicPlaysUptoSaid : Prop := gicPlaysUptoRow.holds Try.pinned (OpenSpec.upto gicPlaysSpec)

/-- 'understudylaw10.GicTakes', WHERE WHAT IT READS IS OF BULK AT MOST 1048576: true; the input reads as it did. -/
def gicTakesUptoRow : OpenClaim := { program := "ytpgelocofoidnaa", sum := "62f123bbe483d69bad23060482dc50a8e3542fd46c5c9de7fe0dd35b3cca70b9", func := "understudy/understudylaw10.GicTakes", spec := "gicTakes", unfollowed := true, recurses := true, apart := false, narrowed := true }
def GicTakesUptoSaid : Prop := gicTakesUptoRow.holds Try.pinned (OpenSpec.upto gicTakesSpec)

end Rows
end Go.Proofs.Ytpgelocofoidnaa
