/-
  No cell of these rows narrows 'for every input' (looked for: loops, veiled, ifaces, maps, wideKeys, modest, calm, conditions, laid).
  DERIVED. THE GIVEN ROWS OF THIS SEAT. 8 by the template 'for every input the law returns true; each argument reads behind the call as it read before'; 0 by the template 'total and deterministic' (their statements: YtjbdbmahbcaniaaTotals.lean).
  GIVEN WITH THE SEED: the statements are not yours to turn. If you find one false, say at which input.
  Laid BY PROGRAM, IN A SANDBOX (cutbox-rows.mjs): the forced cells as the released guide's own fill.sh prints them over the translation d5896765e35de253… (all of the seat's roots in one cut). By AI agents, Wed Nov 11 2026. No macro, syntax, notation, axiom, sorry.
-/
import Derived.Test.YtjbdbmahbcaniaaChecked
import GoSem.Claim
import GoSem.ClaimJoined
import GoSem.ClaimMapViews
import Derived.JoinedTies
import Derived.KernelRfl
namespace Go.Proofs.Ytjbdbmahbcaniaa
/- THE CELL 'sum', in the pinned program and in every row, IS THE sha256 OF THE DUMP (.gsa) THAT YtjbdbmahbcaniaaProg.lean LOADS. Nothing in Lean hashes anything: it is a label: what it is worth is what the hold of that sum in a sandbox is worth. -/
noncomputable def Try.pinned : Pinned := { name := "ytjbdbmahbcaniaa", sum := "d5896765e35de253bbe0167c65a680eb9d61b835989b25fb43e23bc85499c78d", checked := Try.checked }
namespace Rows
def none {H : Type} : Left H := { results := [], args := [] }

/-- 'understudylaw08.MemBuffers': WHATEVER THE INPUT: true; the input reads as it did. -/
def memBuffersSpec : ChangeSpec := { name := "memBuffers", fn := fun _ => fun
  | [d1, d2, d3, d4] => { results := [.lit (.bool true)], args := [d1, d2, d3, d4] }
  | _ => none }
def memBuffersRow : OpenClaim := { program := "ytjbdbmahbcaniaa", sum := "d5896765e35de253bbe0167c65a680eb9d61b835989b25fb43e23bc85499c78d", func := "understudy/understudylaw08.MemBuffers", spec := "memBuffers", unfollowed := true, recurses := true, apart := false }
def MemBuffersSaid : Prop := memBuffersRow.holds Try.pinned (OpenSpec.ofChange memBuffersSpec)

/-- ITS FALSE NEIGHBOUR: 'it returns false'. Refute it at one input. -/
def memBuffersWrong : ChangeSpec := { name := "memBuffers", fn := fun _ => fun
  | [d1, d2, d3, d4] => { results := [.lit (.bool false)], args := [d1, d2, d3, d4] }
  | _ => none }
def MemBuffersWrongFalsely : Prop := memBuffersRow.holds Try.pinned (OpenSpec.ofChange memBuffersWrong)

/-- 'understudylaw08.MemNew': WHATEVER THE INPUT: true; the input reads as it did. -/
def memNewSpec : ChangeSpec := { name := "memNew", fn := fun _ => fun
  | [d1, d2, d3] => { results := [.lit (.bool true)], args := [d1, d2, d3] }
  | _ => none }
def memNewRow : OpenClaim := { program := "ytjbdbmahbcaniaa", sum := "d5896765e35de253bbe0167c65a680eb9d61b835989b25fb43e23bc85499c78d", func := "understudy/understudylaw08.MemNew", spec := "memNew", unfollowed := true, recurses := true, apart := false }
def MemNewSaid : Prop := memNewRow.holds Try.pinned (OpenSpec.ofChange memNewSpec)

/-- ITS FALSE NEIGHBOUR: 'it returns false'. Refute it at one input. -/
def memNewWrong : ChangeSpec := { name := "memNew", fn := fun _ => fun
  | [d1, d2, d3] => { results := [.lit (.bool false)], args := [d1, d2, d3] }
  | _ => none }
def MemNewWrongFalsely : Prop := memNewRow.holds Try.pinned (OpenSpec.ofChange memNewWrong)

/-- 'understudylaw08.MemAlone': WHATEVER THE INPUT: true; the input reads as it did. -/
def memAloneSpec : ChangeSpec := { name := "memAlone", fn := fun _ => fun
  | [d1, d2] => { results := [.lit (.bool true)], args := [d1, d2] }
  | _ => none }
def memAloneRow : OpenClaim := { program := "ytjbdbmahbcaniaa", sum := "d5896765e35de253bbe0167c65a680eb9d61b835989b25fb43e23bc85499c78d", func := "understudy/understudylaw08.MemAlone", spec := "memAlone", unfollowed := true, recurses := true, apart := false }
def MemAloneSaid : Prop := memAloneRow.holds Try.pinned (OpenSpec.ofChange memAloneSpec)

/-- ITS FALSE NEIGHBOUR: 'it returns false'. Refute it at one input. -/
def memAloneWrong : ChangeSpec := { name := "memAlone", fn := fun _ => fun
  | [d1, d2] => { results := [.lit (.bool false)], args := [d1, d2] }
  | _ => none }
def MemAloneWrongFalsely : Prop := memAloneRow.holds Try.pinned (OpenSpec.ofChange memAloneWrong)

/-- 'understudylaw08.MemPut': WHATEVER THE INPUT: true; the input reads as it did. -/
def memPutSpec : ChangeSpec := { name := "memPut", fn := fun _ => fun
  | [d1, d2, d3, d4] => { results := [.lit (.bool true)], args := [d1, d2, d3, d4] }
  | _ => none }
def memPutRow : OpenClaim := { program := "ytjbdbmahbcaniaa", sum := "d5896765e35de253bbe0167c65a680eb9d61b835989b25fb43e23bc85499c78d", func := "understudy/understudylaw08.MemPut", spec := "memPut", unfollowed := true, recurses := true, apart := false }
def MemPutSaid : Prop := memPutRow.holds Try.pinned (OpenSpec.ofChange memPutSpec)

/-- ITS FALSE NEIGHBOUR: 'it returns false'. Refute it at one input. -/
def memPutWrong : ChangeSpec := { name := "memPut", fn := fun _ => fun
  | [d1, d2, d3, d4] => { results := [.lit (.bool false)], args := [d1, d2, d3, d4] }
  | _ => none }
def MemPutWrongFalsely : Prop := memPutRow.holds Try.pinned (OpenSpec.ofChange memPutWrong)

/-- 'understudylaw08.MemTells': WHATEVER THE INPUT: true; the input reads as it did. -/
def memTellsSpec : ChangeSpec := { name := "memTells", fn := fun _ => fun
  | [d1, d2] => { results := [.lit (.bool true)], args := [d1, d2] }
  | _ => none }
def memTellsRow : OpenClaim := { program := "ytjbdbmahbcaniaa", sum := "d5896765e35de253bbe0167c65a680eb9d61b835989b25fb43e23bc85499c78d", func := "understudy/understudylaw08.MemTells", spec := "memTells", unfollowed := true, recurses := true, apart := false }
def MemTellsSaid : Prop := memTellsRow.holds Try.pinned (OpenSpec.ofChange memTellsSpec)

/-- ITS FALSE NEIGHBOUR: 'it returns false'. Refute it at one input. -/
def memTellsWrong : ChangeSpec := { name := "memTells", fn := fun _ => fun
  | [d1, d2] => { results := [.lit (.bool false)], args := [d1, d2] }
  | _ => none }
def MemTellsWrongFalsely : Prop := memTellsRow.holds Try.pinned (OpenSpec.ofChange memTellsWrong)

/-- 'understudylaw08.MemOwn': WHATEVER THE INPUT: true; the input reads as it did. -/
def memOwnSpec : ChangeSpec := { name := "memOwn", fn := fun _ => fun
  | [d1, d2, d3, d4] => { results := [.lit (.bool true)], args := [d1, d2, d3, d4] }
  | _ => none }
def memOwnRow : OpenClaim := { program := "ytjbdbmahbcaniaa", sum := "d5896765e35de253bbe0167c65a680eb9d61b835989b25fb43e23bc85499c78d", func := "understudy/understudylaw08.MemOwn", spec := "memOwn", unfollowed := true, recurses := true, apart := false }
def MemOwnSaid : Prop := memOwnRow.holds Try.pinned (OpenSpec.ofChange memOwnSpec)

/-- ITS FALSE NEIGHBOUR: 'it returns false'. Refute it at one input. -/
def memOwnWrong : ChangeSpec := { name := "memOwn", fn := fun _ => fun
  | [d1, d2, d3, d4] => { results := [.lit (.bool false)], args := [d1, d2, d3, d4] }
  | _ => none }
def MemOwnWrongFalsely : Prop := memOwnRow.holds Try.pinned (OpenSpec.ofChange memOwnWrong)

/-- 'understudylaw08.MemOrder': WHATEVER THE INPUT: true; the input reads as it did. -/
def memOrderSpec : ChangeSpec := { name := "memOrder", fn := fun _ => fun
  | [d1, d2] => { results := [.lit (.bool true)], args := [d1, d2] }
  | _ => none }
def memOrderRow : OpenClaim := { program := "ytjbdbmahbcaniaa", sum := "d5896765e35de253bbe0167c65a680eb9d61b835989b25fb43e23bc85499c78d", func := "understudy/understudylaw08.MemOrder", spec := "memOrder", unfollowed := true, recurses := true, apart := false }
def MemOrderSaid : Prop := memOrderRow.holds Try.pinned (OpenSpec.ofChange memOrderSpec)

/-- ITS FALSE NEIGHBOUR: 'it returns false'. Refute it at one input. -/
def memOrderWrong : ChangeSpec := { name := "memOrder", fn := fun _ => fun
  | [d1, d2] => { results := [.lit (.bool false)], args := [d1, d2] }
  | _ => none }
def MemOrderWrongFalsely : Prop := memOrderRow.holds Try.pinned (OpenSpec.ofChange memOrderWrong)

/-- 'understudylaw08.MemPlays': WHATEVER THE INPUT: true; the input reads as it did. -/
def memPlaysSpec : ChangeSpec := { name := "memPlays", fn := fun _ => fun
  | [d1, d2, d3, d4] => { results := [.lit (.bool true)], args := [d1, d2, d3, d4] }
  | _ => none }
def memPlaysRow : OpenClaim := { program := "ytjbdbmahbcaniaa", sum := "d5896765e35de253bbe0167c65a680eb9d61b835989b25fb43e23bc85499c78d", func := "understudy/understudylaw08.MemPlays", spec := "memPlays", unfollowed := true, recurses := true, apart := false }
def MemPlaysSaid : Prop := memPlaysRow.holds Try.pinned (OpenSpec.ofChange memPlaysSpec)

/-- ITS FALSE NEIGHBOUR: 'it returns false'. Refute it at one input. -/
def memPlaysWrong : ChangeSpec := { name := "memPlays", fn := fun _ => fun
  | [d1, d2, d3, d4] => { results := [.lit (.bool false)], args := [d1, d2, d3, d4] }
  | _ => none }
def MemPlaysWrongFalsely : Prop := memPlaysRow.holds Try.pinned (OpenSpec.ofChange memPlaysWrong)

/- THE SECOND FORM. 'bulk': how many values and letters a reading holds, each counted each time it is reached (what is shared counts as often as it is met; a slice's spare places count too). A statement '..UptoSaid' is the law's where the arguments, and the package variables that the reading takes, are together of bulk at most 1048576: NARROWER than '..Said'. Prove '..Said' where nothing that the law and all that it calls make is longer than what came in: it says more and counts as full. Else prove '..UptoSaid'. A law counts once. -/
mutual
def uptoBulk {H : Type} : DataW H → Nat
  | .lit (.string bytes) => bytes.length + 1
  | .lit _ => 1
  | .nil => 1
  | .ptr d => uptoBulk d + 1
  | .slice elems spare => uptoBulkAll elems + uptoBulkAll spare + 1
  | .agg parts => uptoBulkAll parts + 1
  | .iface _ d => uptoBulk d + 1
  | .map entries => uptoBulkEntries entries + 1
  | .held _ => 1
def uptoBulkAll {H : Type} : List (DataW H) → Nat
  | [] => 0
  | d :: r => uptoBulk d + uptoBulkAll r
def uptoBulkEntries {H : Type} : List (Lit × DataW H) → Nat
  | [] => 0
  | x :: r => uptoBulkEntry x + uptoBulkEntries r
def uptoBulkEntry {H : Type} : Lit × DataW H → Nat
  | (.string bytes, d) => bytes.length + uptoBulk d + 1
  | (_, d) => uptoBulk d + 1
 end
def uptoSmall : (H : Type) → List (DataW H) → Bool := fun _ ds => decide (uptoBulkAll ds ≤ 1048576)
def OpenSpec.upto (s : _root_.Go.ChangeSpec) : _root_.Go.OpenSpec := { _root_.Go.OpenSpec.ofChange s with cond := some uptoSmall }

/-- 'understudylaw08.MemBuffers', WHERE WHAT IT READS IS OF BULK AT MOST 1048576: true; the input reads as it did. -/
def memBuffersUptoRow : OpenClaim := { program := "ytjbdbmahbcaniaa", sum := "d5896765e35de253bbe0167c65a680eb9d61b835989b25fb43e23bc85499c78d", func := "understudy/understudylaw08.MemBuffers", spec := "memBuffers", unfollowed := true, recurses := true, apart := false, narrowed := true }
def MemBuffersUptoSaid : Prop := memBuffersUptoRow.holds Try.pinned (OpenSpec.upto memBuffersSpec)

/-- 'understudylaw08.MemNew', WHERE WHAT IT READS IS OF BULK AT MOST 1048576: true; the input reads as it did. -/
def memNewUptoRow : OpenClaim := { program := "ytjbdbmahbcaniaa", sum := "d5896765e35de253bbe0167c65a680eb9d61b835989b25fb43e23bc85499c78d", func := "understudy/understudylaw08.MemNew", spec := "memNew", unfollowed := true, recurses := true, apart := false, narrowed := true }
def MemNewUptoSaid : Prop := memNewUptoRow.holds Try.pinned (OpenSpec.upto memNewSpec)

/-- 'understudylaw08.MemAlone', WHERE WHAT IT READS IS OF BULK AT MOST 1048576: true; the input reads as it did. -/
def memAloneUptoRow : OpenClaim := { program := "ytjbdbmahbcaniaa", sum := "d5896765e35de253bbe0167c65a680eb9d61b835989b25fb43e23bc85499c78d", func := "understudy/understudylaw08.MemAlone", spec := "memAlone", unfollowed := true, recurses := true, apart := false, narrowed := true }
def MemAloneUptoSaid : Prop := memAloneUptoRow.holds Try.pinned (OpenSpec.upto memAloneSpec)

/-- 'understudylaw08.MemPut', WHERE WHAT IT READS IS OF BULK AT MOST 1048576: true; the input reads as it did. -/
def memPutUptoRow : OpenClaim := { program := "ytjbdbmahbcaniaa", sum := "d5896765e35de253bbe0167c65a680eb9d61b835989b25fb43e23bc85499c78d", func := "understudy/understudylaw08.MemPut", spec := "memPut", unfollowed := true, recurses := true, apart := false, narrowed := true }
def MemPutUptoSaid : Prop := memPutUptoRow.holds Try.pinned (OpenSpec.upto memPutSpec)

/-- 'understudylaw08.MemTells', WHERE WHAT IT READS IS OF BULK AT MOST 1048576: true; the input reads as it did. -/
def memTellsUptoRow : OpenClaim := { program := "ytjbdbmahbcaniaa", sum := "d5896765e35de253bbe0167c65a680eb9d61b835989b25fb43e23bc85499c78d", func := "understudy/understudylaw08.MemTells", spec := "memTells", unfollowed := true, recurses := true, apart := false, narrowed := true }
def MemTellsUptoSaid : Prop := memTellsUptoRow.holds Try.pinned (OpenSpec.upto memTellsSpec)

/-- 'understudylaw08.MemOwn', WHERE WHAT IT READS IS OF BULK AT MOST 1048576: true; the input reads as it did. -/
def memOwnUptoRow : OpenClaim := { program := "ytjbdbmahbcaniaa", sum := "d5896765e35de253bbe0167c65a680eb9d61b835989b25fb43e23bc85499c78d", func := "understudy/understudylaw08.MemOwn", spec := "memOwn", unfollowed := true, recurses := true, apart := false, narrowed := true }
def MemOwnUptoSaid : Prop := memOwnUptoRow.holds Try.pinned (OpenSpec.upto memOwnSpec)

/-- 'understudylaw08.MemOrder', WHERE WHAT IT READS IS OF BULK AT MOST 1048576: true; the input reads as it did. -/
def memOrderUptoRow : OpenClaim := { program := "ytjbdbmahbcaniaa", sum := "d5896765e35de253bbe0167c65a680eb9d61b835989b25fb43e23bc85499c78d", func := "understudy/understudylaw08.MemOrder", spec := "memOrder", unfollowed := true, recurses := true, apart := false, narrowed := true }
def MemOrderUptoSaid : Prop := memOrderUptoRow.holds Try.pinned (OpenSpec.upto memOrderSpec)

/-- 'understudylaw08.MemPlays', WHERE WHAT IT READS IS OF BULK AT MOST 1048576: true; the input reads as it did. -/
def memPlaysUptoRow : OpenClaim := { program := "ytjbdbmahbcaniaa", sum := "d5896765e35de253bbe0167c65a680eb9d61b835989b25fb43e23bc85499c78d", func := "understudy/understudylaw08.MemPlays", spec := "memPlays", unfollowed := true, recurses := true, apart := false, narrowed := true }
def MemPlaysUptoSaid : Prop := memPlaysUptoRow.holds Try.pinned (OpenSpec.upto memPlaysSpec)

end Rows
end Go.Proofs.Ytjbdbmahbcaniaa
