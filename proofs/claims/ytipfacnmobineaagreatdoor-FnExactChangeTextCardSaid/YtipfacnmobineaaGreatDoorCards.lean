/-
  DERIVED. GIVEN WITH THE SEED: THE CARDS: each row of YtipfacnmobineaaGreatDoorRows.lean that lists a variable, with what it lists TIED to the program's text (the seventh form; the later family's looks); each row that meets fmt, with fmt's text TOLD by the authors' own Lean function (tested against real Go, not proved from fmt's source: count such statements apart). THE CARD IS WHAT COUNTS. Prove the row's statement (the work); the ties are given (YtipfacnmobineaaGreatDoorTie.lean); close each card by the builder's one call (the guide's Derived/Test/ToyasCard.lean, 'card_holds'). Laid BY PROGRAM, IN A SANDBOX (cutbox-door.mjs). By AI agents, Wed Nov 11 2026. No macro, syntax, notation, axiom, sorry.
-/
import Derived.Test.YtipfacnmobineaaGreatDoorRows
import GoSem.ClaimSeven
namespace Go.Proofs.YtipfacnmobineaaGreatDoor
namespace Rows

/-- THE TIED CARD OF 'laws.FnExactApplyChanges'. -/
def fnExactApplyChangesCard : Claim7 := { stood := { row := fnExactApplyChangesRow, standIns := [], harness := (true, "ee26580f90aae3082e1ef0f767ac02f3ce8b1ca199c7989265789f18849dd4f4"), looks := true }, kinds := [], alts := [], laidByText := true, laidKinds := [.data, .data, .data], laidTests := true, laidLooks := .later }
def FnExactApplyChangesCardSaid : Prop := Claim7.holds Tryz.pinned (.plain (OpenSpec.ofChange fnExactApplyChangesSpec)) fnExactApplyChangesCard

/-- THE TIED CARD OF 'laws.FnExactInvertChanges'. -/
def fnExactInvertChangesCard : Claim7 := { stood := { row := fnExactInvertChangesRow, standIns := [], harness := (true, "ee26580f90aae3082e1ef0f767ac02f3ce8b1ca199c7989265789f18849dd4f4"), looks := true }, kinds := [], alts := [], laidByText := true, laidKinds := [.data, .data, .data], laidTests := true, laidLooks := .later }
def FnExactInvertChangesCardSaid : Prop := Claim7.holds Tryz.pinned (.plain (OpenSpec.ofChange fnExactInvertChangesSpec)) fnExactInvertChangesCard

/-- THE TIED CARD OF 'laws.FnExactChangeText'. -/
def fnExactChangeTextCard : Claim7 := { stood := { row := fnExactChangeTextRow, standIns := [], harness := (true, "ee26580f90aae3082e1ef0f767ac02f3ce8b1ca199c7989265789f18849dd4f4"), looks := true }, kinds := [], alts := [], laidByText := true, laidKinds := [.data, .data, .data], laidTests := true, laidLooks := .later }
def FnExactChangeTextCardSaid : Prop := Claim7.holds Tryz.pinned (.plain (OpenSpec.ofChange fnExactChangeTextSpec)) fnExactChangeTextCard

/-- THE SECOND FORM's CARD OF 'laws.FnExactApplyChanges'. -/
def fnExactApplyChangesUptoCard : Claim7 := { stood := { row := fnExactApplyChangesUptoRow, standIns := [], harness := (true, "ee26580f90aae3082e1ef0f767ac02f3ce8b1ca199c7989265789f18849dd4f4"), looks := true }, kinds := [], alts := [], laidByText := true, laidKinds := [.data, .data, .data], laidTests := true, laidLooks := .later }
def FnExactApplyChangesUptoCardSaid : Prop := Claim7.holds Tryz.pinned (.plain (OpenSpec.upto fnExactApplyChangesSpec)) fnExactApplyChangesUptoCard

/-- THE SECOND FORM's CARD OF 'laws.FnExactInvertChanges'. -/
def fnExactInvertChangesUptoCard : Claim7 := { stood := { row := fnExactInvertChangesUptoRow, standIns := [], harness := (true, "ee26580f90aae3082e1ef0f767ac02f3ce8b1ca199c7989265789f18849dd4f4"), looks := true }, kinds := [], alts := [], laidByText := true, laidKinds := [.data, .data, .data], laidTests := true, laidLooks := .later }
def FnExactInvertChangesUptoCardSaid : Prop := Claim7.holds Tryz.pinned (.plain (OpenSpec.upto fnExactInvertChangesSpec)) fnExactInvertChangesUptoCard

/-- THE SECOND FORM's CARD OF 'laws.FnExactChangeText'. -/
def fnExactChangeTextUptoCard : Claim7 := { stood := { row := fnExactChangeTextUptoRow, standIns := [], harness := (true, "ee26580f90aae3082e1ef0f767ac02f3ce8b1ca199c7989265789f18849dd4f4"), looks := true }, kinds := [], alts := [], laidByText := true, laidKinds := [.data, .data, .data], laidTests := true, laidLooks := .later }
def FnExactChangeTextUptoCardSaid : Prop := Claim7.holds Tryz.pinned (.plain (OpenSpec.upto fnExactChangeTextSpec)) fnExactChangeTextUptoCard
end Rows
end Go.Proofs.YtipfacnmobineaaGreatDoor
