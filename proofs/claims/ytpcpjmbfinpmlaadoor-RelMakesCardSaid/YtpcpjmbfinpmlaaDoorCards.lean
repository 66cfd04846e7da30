/-
  DERIVED. GIVEN WITH THE SEED: THE CARDS: each row of YtpcpjmbfinpmlaaDoorRows.lean that lists a variable, with what it lists TIED to the program's text (the seventh form; the later family's looks); each row that meets fmt, with fmt's text TOLD by the authors' own Lean function (tested against real Go, not proved from fmt's source: count such statements apart). THE CARD IS WHAT COUNTS. Prove the row's statement (the work); the ties are given (YtpcpjmbfinpmlaaDoorTie.lean); close each card by the builder's one call (the guide's Derived/Test/ToyasCard.lean, 'card_holds'). Laid BY PROGRAM, IN A SANDBOX (cutbox-door.mjs). By AI agents, Wed Nov 11 2026. No macro, syntax, notation, axiom, sorry.
-/
import Derived.Test.YtpcpjmbfinpmlaaDoorRows
import GoSem.ClaimSeven
namespace Go.Proofs.YtpcpjmbfinpmlaaDoor
namespace Rows

/-- THE TIED CARD OF 'understudylaw13.RelWays'. -/
def relWaysCard : Claim7 := { stood := { row := relWaysRow, standIns := [], harness := (true, "f76c9e94293797caf43a7960e345d6a6346fc8d9da068b73bbe126b4619b5fad"), looks := true }, kinds := [], alts := [], laidByText := true, laidKinds := [.data], laidTests := true, laidLooks := .later }
def RelWaysCardSaid : Prop := Claim7.holds Tryd.pinned (.plain (OpenSpec.ofChange relWaysSpec)) relWaysCard

/-- THE TIED CARD OF 'understudylaw13.RelMakes'. -/
def relMakesCard : Claim7 := { stood := { row := relMakesRow, standIns := [], harness := (true, "f76c9e94293797caf43a7960e345d6a6346fc8d9da068b73bbe126b4619b5fad"), looks := true }, kinds := [], alts := [], laidByText := true, laidKinds := [.data], laidTests := true, laidLooks := .later }
def RelMakesCardSaid : Prop := Claim7.holds Tryd.pinned (.plain (OpenSpec.ofChange relMakesSpec)) relMakesCard

/-- THE TIED CARD OF 'understudylaw13.RelLaws'. -/
def relLawsCard : Claim7 := { stood := { row := relLawsRow, standIns := [], harness := (true, "f76c9e94293797caf43a7960e345d6a6346fc8d9da068b73bbe126b4619b5fad"), looks := true }, kinds := [], alts := [], laidByText := true, laidKinds := [.data], laidTests := true, laidLooks := .later }
def RelLawsCardSaid : Prop := Claim7.holds Tryd.pinned (.plain (OpenSpec.ofChange relLawsSpec)) relLawsCard

/-- THE TIED CARD OF 'understudylaw13.RelJoins'. -/
def relJoinsCard : Claim7 := { stood := { row := relJoinsRow, standIns := [], harness := (true, "f76c9e94293797caf43a7960e345d6a6346fc8d9da068b73bbe126b4619b5fad"), looks := true }, kinds := [], alts := [], laidByText := true, laidKinds := [.data], laidTests := true, laidLooks := .later }
def RelJoinsCardSaid : Prop := Claim7.holds Tryd.pinned (.plain (OpenSpec.ofChange relJoinsSpec)) relJoinsCard

/-- THE SECOND FORM's CARD OF 'understudylaw13.RelWays'. -/
def relWaysUptoCard : Claim7 := { stood := { row := relWaysUptoRow, standIns := [], harness := (true, "f76c9e94293797caf43a7960e345d6a6346fc8d9da068b73bbe126b4619b5fad"), looks := true }, kinds := [], alts := [], laidByText := true, laidKinds := [.data], laidTests := true, laidLooks := .later }
def RelWaysUptoCardSaid : Prop := Claim7.holds Tryd.pinned (.plain (OpenSpec.upto relWaysSpec)) relWaysUptoCard

/-- THE SECOND FORM's CARD OF 'understudylaw13.RelMakes'. -/
def relMakesUptoCard : Claim7 := { stood := { row := relMakesUptoRow, standIns := [], harness := (true, "f76c9e94293797caf43a7960e345d6a6346fc8d9da068b73bbe126b4619b5fad"), looks := true }, kinds := [], alts := [], laidByText := true, laidKinds := [.data], laidTests := true, laidLooks := .later }
def RelMakesUptoCardSaid : Prop := Claim7.holds Tryd.pinned (.plain (OpenSpec.upto relMakesSpec)) relMakesUptoCard

/-- THE SECOND FORM's CARD OF 'understudylaw13.RelLaws'. -/
def relLawsUptoCard : Claim7 := { stood := { row := relLawsUptoRow, standIns := [], harness := (true, "f76c9e94293797caf43a7960e345d6a6346fc8d9da068b73bbe126b4619b5fad"), looks := true }, kinds := [], alts := [], laidByText := true, laidKinds := [.data], laidTests := true, laidLooks := .later }
def RelLawsUptoCardSaid : Prop := Claim7.holds Tryd.pinned (.plain (OpenSpec.upto relLawsSpec)) relLawsUptoCard

/-- THE SECOND FORM's CARD OF 'understudylaw13.RelJoins'. -/
def relJoinsUptoCard : Claim7 := { stood := { row := relJoinsUptoRow, standIns := [], harness := (true, "f76c9e94293797caf43a7960e345d6a6346fc8d9da068b73bbe126b4619b5fad"), looks := true }, kinds := [], alts := [], laidByText := true, laidKinds := [.data], laidTests := true, laidLooks := .later }
def RelJoinsUptoCardSaid : Prop := Claim7.holds Tryd.pinned (.plain (OpenSpec.upto relJoinsSpec)) relJoinsUptoCard
end Rows
end Go.Proofs.YtpcpjmbfinpmlaaDoor
