/-
  DERIVED. GIVEN WITH THE SEED: THE CARDS: each row of YteldgdelmaeokaaGreatDoorRows.lean that lists a variable, with what it lists TIED to the program's text (the seventh form; the later family's looks); each row that meets fmt, with fmt's text TOLD by the authors' own Lean function (tested against real Go, not proved from fmt's source: count such statements apart). THE CARD IS WHAT COUNTS. Prove the row's statement (the work); the ties are given (YteldgdelmaeokaaGreatDoorTie.lean); close each card by the builder's one call (the guide's Derived/Test/ToyasCard.lean, 'card_holds'). Laid BY PROGRAM, IN A SANDBOX (cutbox-door.mjs). By AI agents, Wed Nov 11 2026. No macro, syntax, notation, axiom, sorry.
-/
import Derived.Test.YteldgdelmaeokaaGreatDoorRows
import GoSem.ClaimSeven
namespace Go.Proofs.YteldgdelmaeokaaGreatDoor
namespace Rows

/-- THE TIED CARD OF 'laws.FnItems'. -/
def fnItemsCard : Claim7 := { stood := { row := fnItemsRow, standIns := [], harness := (true, "31ea592cba1688372b1dec7349fc104dab9914f5a79827d6aa8d29a35e723b17"), looks := false }, kinds := [], alts := [], laidByText := true, laidKinds := [.data, .data, .data], laidTests := true, laidLooks := .later }
def FnItemsCardSaid : Prop := Claim7.holds Tryz.pinned (.plain (OpenSpec.ofChange fnItemsSpec)) fnItemsCard

/-- THE TIED CARD OF 'laws.FnAlternatives'. -/
def fnAlternativesCard : Claim7 := { stood := { row := fnAlternativesRow, standIns := [], harness := (true, "31ea592cba1688372b1dec7349fc104dab9914f5a79827d6aa8d29a35e723b17"), looks := false }, kinds := [], alts := [], laidByText := true, laidKinds := [.data, .data, .data], laidTests := true, laidLooks := .later }
def FnAlternativesCardSaid : Prop := Claim7.holds Tryz.pinned (.plain (OpenSpec.ofChange fnAlternativesSpec)) fnAlternativesCard

/-- THE SECOND FORM's CARD OF 'laws.FnItems'. -/
def fnItemsUptoCard : Claim7 := { stood := { row := fnItemsUptoRow, standIns := [], harness := (true, "31ea592cba1688372b1dec7349fc104dab9914f5a79827d6aa8d29a35e723b17"), looks := false }, kinds := [], alts := [], laidByText := true, laidKinds := [.data, .data, .data], laidTests := true, laidLooks := .later }
def FnItemsUptoCardSaid : Prop := Claim7.holds Tryz.pinned (.plain (OpenSpec.upto fnItemsSpec)) fnItemsUptoCard

/-- THE SECOND FORM's CARD OF 'laws.FnAlternatives'. -/
def fnAlternativesUptoCard : Claim7 := { stood := { row := fnAlternativesUptoRow, standIns := [], harness := (true, "31ea592cba1688372b1dec7349fc104dab9914f5a79827d6aa8d29a35e723b17"), looks := false }, kinds := [], alts := [], laidByText := true, laidKinds := [.data, .data, .data], laidTests := true, laidLooks := .later }
def FnAlternativesUptoCardSaid : Prop := Claim7.holds Tryz.pinned (.plain (OpenSpec.upto fnAlternativesSpec)) fnAlternativesUptoCard
end Rows
end Go.Proofs.YteldgdelmaeokaaGreatDoor
