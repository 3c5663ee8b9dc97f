/-
  DERIVED. GIVEN WITH THE SEED: THE CARDS: each row of YtopplnfjdgoaaaaDoorRows.lean that lists a variable, with what it lists TIED to the program's text (the seventh form; the later family's looks); each row that meets fmt, with fmt's text TOLD by the authors' own Lean function (tested against real Go, not proved from fmt's source: count such statements apart). THE CARD IS WHAT COUNTS. Prove the row's statement (the work); the ties are given (YtopplnfjdgoaaaaDoorTie.lean); close each card by the builder's one call (the guide's Derived/Test/ToyasCard.lean, 'card_holds'). Laid BY PROGRAM, IN A SANDBOX (cutbox-door.mjs). By AI agents, Wed Nov 11 2026. No macro, syntax, notation, axiom, sorry.
-/
import Derived.Test.YtopplnfjdgoaaaaDoorRows
import GoSem.ClaimSeven
namespace Go.Proofs.YtopplnfjdgoaaaaDoor
namespace Rows

/-- THE TIED CARD OF 'laws.FnExactFormatMutation'. -/
def fnExactFormatMutationCard : Claim7 := { stood := { row := fnExactFormatMutationRow, standIns := [], harness := (true, "708dfa2663b98cff88e473fc92ad14d455130b98e4022d1559228b0344d18449"), looks := false }, kinds := [], alts := [], laidByText := true, laidKinds := [.data, .data, .data], laidTests := true, laidLooks := .later }
def FnExactFormatMutationCardSaid : Prop := Claim7.holds Tryd.pinned (.plain (OpenSpec.ofChange fnExactFormatMutationSpec)) fnExactFormatMutationCard

/-- THE TIED CARD OF 'laws.FnExactFormatEntry'. -/
def fnExactFormatEntryCard : Claim7 := { stood := { row := fnExactFormatEntryRow, standIns := [], harness := (true, "708dfa2663b98cff88e473fc92ad14d455130b98e4022d1559228b0344d18449"), looks := false }, kinds := [], alts := [], laidByText := true, laidKinds := [.data, .data, .data], laidTests := true, laidLooks := .later }
def FnExactFormatEntryCardSaid : Prop := Claim7.holds Tryd.pinned (.plain (OpenSpec.ofChange fnExactFormatEntrySpec)) fnExactFormatEntryCard

/-- THE TIED CARD OF 'laws.FnMutations'. -/
def fnMutationsCard : Claim7 := { stood := { row := fnMutationsRow, standIns := [], harness := (true, "708dfa2663b98cff88e473fc92ad14d455130b98e4022d1559228b0344d18449"), looks := false }, kinds := [], alts := [], laidByText := true, laidKinds := [.data, .data, .data], laidTests := true, laidLooks := .later }
def FnMutationsCardSaid : Prop := Claim7.holds Tryd.pinned (.plain (OpenSpec.ofChange fnMutationsSpec)) fnMutationsCard

/-- THE SECOND FORM's CARD OF 'laws.FnExactFormatMutation'. -/
def fnExactFormatMutationUptoCard : Claim7 := { stood := { row := fnExactFormatMutationUptoRow, standIns := [], harness := (true, "708dfa2663b98cff88e473fc92ad14d455130b98e4022d1559228b0344d18449"), looks := false }, kinds := [], alts := [], laidByText := true, laidKinds := [.data, .data, .data], laidTests := true, laidLooks := .later }
def FnExactFormatMutationUptoCardSaid : Prop := Claim7.holds Tryd.pinned (.plain (OpenSpec.upto fnExactFormatMutationSpec)) fnExactFormatMutationUptoCard

/-- THE SECOND FORM's CARD OF 'laws.FnExactFormatEntry'. -/
def fnExactFormatEntryUptoCard : Claim7 := { stood := { row := fnExactFormatEntryUptoRow, standIns := [], harness := (true, "708dfa2663b98cff88e473fc92ad14d455130b98e4022d1559228b0344d18449"), looks := false }, kinds := [], alts := [], laidByText := true, laidKinds := [.data, .data, .data], laidTests := true, laidLooks := .later }
def FnExactFormatEntryUptoCardSaid : Prop := Claim7.holds Tryd.pinned (.plain (OpenSpec.upto fnExactFormatEntrySpec)) fnExactFormatEntryUptoCard

/-- THE SECOND FORM's CARD OF 'laws.FnMutations'. -/
def fnMutationsUptoCard : Claim7 := { stood := { row := fnMutationsUptoRow, standIns := [], harness := (true, "708dfa2663b98cff88e473fc92ad14d455130b98e4022d1559228b0344d18449"), looks := false }, kinds := [], alts := [], laidByText := true, laidKinds := [.data, .data, .data], laidTests := true, laidLooks := .later }
def FnMutationsUptoCardSaid : Prop := Claim7.holds Tryd.pinned (.plain (OpenSpec.upto fnMutationsSpec)) fnMutationsUptoCard
end Rows
end Go.Proofs.YtopplnfjdgoaaaaDoor
