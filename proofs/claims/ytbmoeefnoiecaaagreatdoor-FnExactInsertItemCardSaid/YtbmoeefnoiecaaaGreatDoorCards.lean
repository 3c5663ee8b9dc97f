/-
  DERIVED. GIVEN WITH THE SEED: THE CARDS: each row of YtbmoeefnoiecaaaGreatDoorRows.lean that lists a variable, with what it lists TIED to the program's text (the seventh form; the later family's looks); each row that meets fmt, with fmt's text TOLD by the authors' own Lean function (tested against real Go, not proved from fmt's source: count such statements apart). THE CARD IS WHAT COUNTS. Prove the row's statement (the work); the ties are given (YtbmoeefnoiecaaaGreatDoorTie.lean); close each card by the builder's one call (the guide's Derived/Test/ToyasCard.lean, 'card_holds'). Laid BY PROGRAM, IN A SANDBOX (cutbox-door.mjs). By AI agents, Wed Nov 11 2026. No macro, syntax, notation, axiom, sorry.
-/
import Derived.Test.YtbmoeefnoiecaaaGreatDoorRows
import GoSem.ClaimSeven
namespace Go.Proofs.YtbmoeefnoiecaaaGreatDoor
namespace Rows

/-- THE TIED CARD OF 'laws.FnExactFindPart'. -/
def fnExactFindPartCard : Claim7 := { stood := { row := fnExactFindPartRow, standIns := [], harness := (true, "6200cdf5cf01aa5626a4a5757c541ded527ec874d96f12e3cc6bdd12ff46b75f"), looks := false }, kinds := [], alts := [], laidByText := true, laidKinds := [.data, .data, .data], laidTests := true, laidLooks := .later }
def FnExactFindPartCardSaid : Prop := Claim7.holds Tryz.pinned (.plain (OpenSpec.ofChange fnExactFindPartSpec)) fnExactFindPartCard

/-- THE TIED CARD OF 'laws.FnExactReplacePart'. -/
def fnExactReplacePartCard : Claim7 := { stood := { row := fnExactReplacePartRow, standIns := [], harness := (true, "6200cdf5cf01aa5626a4a5757c541ded527ec874d96f12e3cc6bdd12ff46b75f"), looks := false }, kinds := [], alts := [], laidByText := true, laidKinds := [.data, .data, .data], laidTests := true, laidLooks := .later }
def FnExactReplacePartCardSaid : Prop := Claim7.holds Tryz.pinned (.plain (OpenSpec.ofChange fnExactReplacePartSpec)) fnExactReplacePartCard

/-- THE TIED CARD OF 'laws.FnExactInsertItem'. -/
def fnExactInsertItemCard : Claim7 := { stood := { row := fnExactInsertItemRow, standIns := [], harness := (true, "6200cdf5cf01aa5626a4a5757c541ded527ec874d96f12e3cc6bdd12ff46b75f"), looks := false }, kinds := [], alts := [], laidByText := true, laidKinds := [.data, .data, .data], laidTests := true, laidLooks := .later }
def FnExactInsertItemCardSaid : Prop := Claim7.holds Tryz.pinned (.plain (OpenSpec.ofChange fnExactInsertItemSpec)) fnExactInsertItemCard

/-- THE TIED CARD OF 'laws.FnExactRemoveItem'. -/
def fnExactRemoveItemCard : Claim7 := { stood := { row := fnExactRemoveItemRow, standIns := [], harness := (true, "6200cdf5cf01aa5626a4a5757c541ded527ec874d96f12e3cc6bdd12ff46b75f"), looks := false }, kinds := [], alts := [], laidByText := true, laidKinds := [.data, .data, .data], laidTests := true, laidLooks := .later }
def FnExactRemoveItemCardSaid : Prop := Claim7.holds Tryz.pinned (.plain (OpenSpec.ofChange fnExactRemoveItemSpec)) fnExactRemoveItemCard

/-- THE SECOND FORM's CARD OF 'laws.FnExactFindPart'. -/
def fnExactFindPartUptoCard : Claim7 := { stood := { row := fnExactFindPartUptoRow, standIns := [], harness := (true, "6200cdf5cf01aa5626a4a5757c541ded527ec874d96f12e3cc6bdd12ff46b75f"), looks := false }, kinds := [], alts := [], laidByText := true, laidKinds := [.data, .data, .data], laidTests := true, laidLooks := .later }
def FnExactFindPartUptoCardSaid : Prop := Claim7.holds Tryz.pinned (.plain (OpenSpec.upto fnExactFindPartSpec)) fnExactFindPartUptoCard

/-- THE SECOND FORM's CARD OF 'laws.FnExactReplacePart'. -/
def fnExactReplacePartUptoCard : Claim7 := { stood := { row := fnExactReplacePartUptoRow, standIns := [], harness := (true, "6200cdf5cf01aa5626a4a5757c541ded527ec874d96f12e3cc6bdd12ff46b75f"), looks := false }, kinds := [], alts := [], laidByText := true, laidKinds := [.data, .data, .data], laidTests := true, laidLooks := .later }
def FnExactReplacePartUptoCardSaid : Prop := Claim7.holds Tryz.pinned (.plain (OpenSpec.upto fnExactReplacePartSpec)) fnExactReplacePartUptoCard

/-- THE SECOND FORM's CARD OF 'laws.FnExactInsertItem'. -/
def fnExactInsertItemUptoCard : Claim7 := { stood := { row := fnExactInsertItemUptoRow, standIns := [], harness := (true, "6200cdf5cf01aa5626a4a5757c541ded527ec874d96f12e3cc6bdd12ff46b75f"), looks := false }, kinds := [], alts := [], laidByText := true, laidKinds := [.data, .data, .data], laidTests := true, laidLooks := .later }
def FnExactInsertItemUptoCardSaid : Prop := Claim7.holds Tryz.pinned (.plain (OpenSpec.upto fnExactInsertItemSpec)) fnExactInsertItemUptoCard

/-- THE SECOND FORM's CARD OF 'laws.FnExactRemoveItem'. -/
def fnExactRemoveItemUptoCard : Claim7 := { stood := { row := fnExactRemoveItemUptoRow, standIns := [], harness := (true, "6200cdf5cf01aa5626a4a5757c541ded527ec874d96f12e3cc6bdd12ff46b75f"), looks := false }, kinds := [], alts := [], laidByText := true, laidKinds := [.data, .data, .data], laidTests := true, laidLooks := .later }
def FnExactRemoveItemUptoCardSaid : Prop := Claim7.holds Tryz.pinned (.plain (OpenSpec.upto fnExactRemoveItemSpec)) fnExactRemoveItemUptoCard
end Rows
end Go.Proofs.YtbmoeefnoiecaaaGreatDoor
