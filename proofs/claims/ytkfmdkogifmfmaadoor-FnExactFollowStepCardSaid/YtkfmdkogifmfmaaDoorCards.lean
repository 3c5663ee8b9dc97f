/-
  DERIVED. GIVEN WITH THE SEED: THE CARDS: each row of YtkfmdkogifmfmaaDoorRows.lean that lists a variable, with what it lists TIED to the program's text (the seventh form; the later family's looks); each row that meets fmt, with fmt's text TOLD by the authors' own Lean function (tested against real Go, not proved from fmt's source: count such statements apart). THE CARD IS WHAT COUNTS. Prove the row's statement (the work); the ties are given (YtkfmdkogifmfmaaDoorTie.lean); close each card by the builder's one call (the guide's Derived/Test/ToyasCard.lean, 'card_holds'). Laid BY PROGRAM, IN A SANDBOX (cutbox-door.mjs). By AI agents, Wed Nov 11 2026. No macro, syntax, notation, axiom, sorry.
-/
import Derived.Test.YtkfmdkogifmfmaaDoorRows
import GoSem.ClaimSeven
namespace Go.Proofs.YtkfmdkogifmfmaaDoor
namespace Rows

/-- THE TIED CARD OF 'laws.FnExactFormatDiagnosis'. -/
def fnExactFormatDiagnosisCard : Claim7 := { stood := { row := fnExactFormatDiagnosisRow, standIns := [], harness := (true, "baa743242f9a433d8fd1b05f8042359d6b7e04ebd8349ae6c52d7abe444910dd"), looks := false }, kinds := [], alts := [], laidByText := true, laidKinds := [.data, .data, .data], laidTests := true, laidLooks := .later }
def FnExactFormatDiagnosisCardSaid : Prop := Claim7.holds Tryd.pinned (.plain (OpenSpec.ofChange fnExactFormatDiagnosisSpec)) fnExactFormatDiagnosisCard

/-- THE TIED CARD OF 'laws.FnExactStepOf'. -/
def fnExactStepOfCard : Claim7 := { stood := { row := fnExactStepOfRow, standIns := [], harness := (true, "baa743242f9a433d8fd1b05f8042359d6b7e04ebd8349ae6c52d7abe444910dd"), looks := false }, kinds := [], alts := [], laidByText := true, laidKinds := [.data, .data, .data], laidTests := true, laidLooks := .later }
def FnExactStepOfCardSaid : Prop := Claim7.holds Tryd.pinned (.plain (OpenSpec.ofChange fnExactStepOfSpec)) fnExactStepOfCard

/-- THE TIED CARD OF 'laws.FnExactFollowStep'. -/
def fnExactFollowStepCard : Claim7 := { stood := { row := fnExactFollowStepRow, standIns := [], harness := (true, "baa743242f9a433d8fd1b05f8042359d6b7e04ebd8349ae6c52d7abe444910dd"), looks := false }, kinds := [], alts := [], laidByText := true, laidKinds := [.data, .data, .data], laidTests := true, laidLooks := .later }
def FnExactFollowStepCardSaid : Prop := Claim7.holds Tryd.pinned (.plain (OpenSpec.ofChange fnExactFollowStepSpec)) fnExactFollowStepCard

/-- THE SECOND FORM's CARD OF 'laws.FnExactFormatDiagnosis'. -/
def fnExactFormatDiagnosisUptoCard : Claim7 := { stood := { row := fnExactFormatDiagnosisUptoRow, standIns := [], harness := (true, "baa743242f9a433d8fd1b05f8042359d6b7e04ebd8349ae6c52d7abe444910dd"), looks := false }, kinds := [], alts := [], laidByText := true, laidKinds := [.data, .data, .data], laidTests := true, laidLooks := .later }
def FnExactFormatDiagnosisUptoCardSaid : Prop := Claim7.holds Tryd.pinned (.plain (OpenSpec.upto fnExactFormatDiagnosisSpec)) fnExactFormatDiagnosisUptoCard

/-- THE SECOND FORM's CARD OF 'laws.FnExactStepOf'. -/
def fnExactStepOfUptoCard : Claim7 := { stood := { row := fnExactStepOfUptoRow, standIns := [], harness := (true, "baa743242f9a433d8fd1b05f8042359d6b7e04ebd8349ae6c52d7abe444910dd"), looks := false }, kinds := [], alts := [], laidByText := true, laidKinds := [.data, .data, .data], laidTests := true, laidLooks := .later }
def FnExactStepOfUptoCardSaid : Prop := Claim7.holds Tryd.pinned (.plain (OpenSpec.upto fnExactStepOfSpec)) fnExactStepOfUptoCard

/-- THE SECOND FORM's CARD OF 'laws.FnExactFollowStep'. -/
def fnExactFollowStepUptoCard : Claim7 := { stood := { row := fnExactFollowStepUptoRow, standIns := [], harness := (true, "baa743242f9a433d8fd1b05f8042359d6b7e04ebd8349ae6c52d7abe444910dd"), looks := false }, kinds := [], alts := [], laidByText := true, laidKinds := [.data, .data, .data], laidTests := true, laidLooks := .later }
def FnExactFollowStepUptoCardSaid : Prop := Claim7.holds Tryd.pinned (.plain (OpenSpec.upto fnExactFollowStepSpec)) fnExactFollowStepUptoCard
end Rows
end Go.Proofs.YtkfmdkogifmfmaaDoor
