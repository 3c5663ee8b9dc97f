/-
  DERIVED. GIVEN WITH THE SEED: THE CARDS: each row of YteldgdelmaeokaaDoorRows.lean that lists a variable, with what it lists TIED to the program's text (the seventh form; the later family's looks); each row that meets fmt, with fmt's text TOLD by the authors' own Lean function (tested against real Go, not proved from fmt's source: count such statements apart). THE CARD IS WHAT COUNTS. Prove the row's statement (the work); the ties are given (YteldgdelmaeokaaDoorTie.lean); close each card by the builder's one call (the guide's Derived/Test/ToyasCard.lean, 'card_holds'). Laid BY PROGRAM, IN A SANDBOX (cutbox-door.mjs). By AI agents, Wed Nov 11 2026. No macro, syntax, notation, axiom, sorry.
-/
import Derived.Test.YteldgdelmaeokaaDoorRows
import GoSem.ClaimSeven
namespace Go.Proofs.YteldgdelmaeokaaDoor
namespace Rows

/-- THE TIED CARD OF 'laws.FnReplacements'. -/
def fnReplacementsCard : Claim7 := { stood := { row := fnReplacementsRow, standIns := [], harness := (true, "9a44491d2125b8a3767f8e4663ee245ee5a033be69301445cf69244eb54474f3"), looks := false }, kinds := [], alts := [], laidByText := true, laidKinds := [.data, .data, .data], laidTests := true, laidLooks := .later }
def FnReplacementsCardSaid : Prop := Claim7.holds Tryd.pinned (.plain (OpenSpec.ofChange fnReplacementsSpec)) fnReplacementsCard

/-- THE TIED CARD OF 'laws.FnParts'. -/
def fnPartsCard : Claim7 := { stood := { row := fnPartsRow, standIns := [], harness := (true, "9a44491d2125b8a3767f8e4663ee245ee5a033be69301445cf69244eb54474f3"), looks := false }, kinds := [], alts := [], laidByText := true, laidKinds := [.data, .data, .data], laidTests := true, laidLooks := .later }
def FnPartsCardSaid : Prop := Claim7.holds Tryd.pinned (.plain (OpenSpec.ofChange fnPartsSpec)) fnPartsCard

/-- THE TIED CARD OF 'laws.FnLeaves'. -/
def fnLeavesCard : Claim7 := { stood := { row := fnLeavesRow, standIns := [], harness := (true, "9a44491d2125b8a3767f8e4663ee245ee5a033be69301445cf69244eb54474f3"), looks := false }, kinds := [], alts := [], laidByText := true, laidKinds := [.data, .data, .data], laidTests := true, laidLooks := .later }
def FnLeavesCardSaid : Prop := Claim7.holds Tryd.pinned (.plain (OpenSpec.ofChange fnLeavesSpec)) fnLeavesCard

/-- THE SECOND FORM's CARD OF 'laws.FnReplacements'. -/
def fnReplacementsUptoCard : Claim7 := { stood := { row := fnReplacementsUptoRow, standIns := [], harness := (true, "9a44491d2125b8a3767f8e4663ee245ee5a033be69301445cf69244eb54474f3"), looks := false }, kinds := [], alts := [], laidByText := true, laidKinds := [.data, .data, .data], laidTests := true, laidLooks := .later }
def FnReplacementsUptoCardSaid : Prop := Claim7.holds Tryd.pinned (.plain (OpenSpec.upto fnReplacementsSpec)) fnReplacementsUptoCard

/-- THE SECOND FORM's CARD OF 'laws.FnParts'. -/
def fnPartsUptoCard : Claim7 := { stood := { row := fnPartsUptoRow, standIns := [], harness := (true, "9a44491d2125b8a3767f8e4663ee245ee5a033be69301445cf69244eb54474f3"), looks := false }, kinds := [], alts := [], laidByText := true, laidKinds := [.data, .data, .data], laidTests := true, laidLooks := .later }
def FnPartsUptoCardSaid : Prop := Claim7.holds Tryd.pinned (.plain (OpenSpec.upto fnPartsSpec)) fnPartsUptoCard

/-- THE SECOND FORM's CARD OF 'laws.FnLeaves'. -/
def fnLeavesUptoCard : Claim7 := { stood := { row := fnLeavesUptoRow, standIns := [], harness := (true, "9a44491d2125b8a3767f8e4663ee245ee5a033be69301445cf69244eb54474f3"), looks := false }, kinds := [], alts := [], laidByText := true, laidKinds := [.data, .data, .data], laidTests := true, laidLooks := .later }
def FnLeavesUptoCardSaid : Prop := Claim7.holds Tryd.pinned (.plain (OpenSpec.upto fnLeavesSpec)) fnLeavesUptoCard
end Rows
end Go.Proofs.YteldgdelmaeokaaDoor
