/-
  No cell of these rows narrows 'for every input' (looked for: loops, veiled, ifaces, maps, wideKeys, modest, calm, conditions, laid).
  DERIVED. THE GIVEN ROWS OF THIS SEAT. 7 by the template 'for every input the law returns true; each argument reads behind the call as it read before'; 0 by the template 'total and deterministic' (their statements: YtacehndbkimggaaTotals.lean).
  GIVEN WITH THE SEED: the statements are not yours to turn. If you find one false, say at which input.
  Laid BY PROGRAM, IN A SANDBOX (cutbox-rows.mjs): the forced cells as the released guide's own fill.sh prints them over the translation 8c1dd221777c06b6… (all of the seat's roots in one cut). By AI agents, Wed Nov 11 2026. No macro, syntax, notation, axiom, sorry.
-/
import Derived.Test.YtacehndbkimggaaChecked
import GoSem.Claim
import GoSem.ClaimJoined
import GoSem.ClaimMapViews
import Derived.JoinedTies
import Derived.KernelRfl
namespace Go.Proofs.Ytacehndbkimggaa
/- THE CELL 'sum', in the pinned program and in every row, IS THE sha256 OF THE DUMP (.gsa) THAT YtacehndbkimggaaProg.lean LOADS. Nothing in Lean hashes anything: it is a label: what it is worth is what the hold of that sum in a sandbox is worth. -/
noncomputable def Try.pinned : Pinned := { name := "ytacehndbkimggaa", sum := "8c1dd221777c06b637d33456498e096881612ebd31726d20efd0f52ab0b70912", checked := Try.checked }
namespace Rows
def none {H : Type} : Left H := { results := [], args := [] }

/-- 'laws.FnExactApplyMutation': WHATEVER THE INPUT: true; the input reads as it did. -/
def fnExactApplyMutationSpec : ChangeSpec := { name := "fnExactApplyMutation", fn := fun _ => fun
  | [d1, d2] => { results := [.lit (.bool true)], args := [d1, d2] }
  | _ => none }
def fnExactApplyMutationRow : OpenClaim := { program := "ytacehndbkimggaa", sum := "8c1dd221777c06b637d33456498e096881612ebd31726d20efd0f52ab0b70912", func := "loop.example/g00518/laws.FnExactApplyMutation", spec := "fnExactApplyMutation", apart := false }
def FnExactApplyMutationSaid : Prop := fnExactApplyMutationRow.holds Try.pinned (OpenSpec.ofChange fnExactApplyMutationSpec)

/-- ITS FALSE NEIGHBOUR: 'it returns false'. Refute it at one input. -/
def fnExactApplyMutationWrong : ChangeSpec := { name := "fnExactApplyMutation", fn := fun _ => fun
  | [d1, d2] => { results := [.lit (.bool false)], args := [d1, d2] }
  | _ => none }
def FnExactApplyMutationWrongFalsely : Prop := fnExactApplyMutationRow.holds Try.pinned (OpenSpec.ofChange fnExactApplyMutationWrong)

/-- 'laws.FnExactInvertMutation': WHATEVER THE INPUT: true; the input reads as it did. -/
def fnExactInvertMutationSpec : ChangeSpec := { name := "fnExactInvertMutation", fn := fun _ => fun
  | [d1, d2] => { results := [.lit (.bool true)], args := [d1, d2] }
  | _ => none }
def fnExactInvertMutationRow : OpenClaim := { program := "ytacehndbkimggaa", sum := "8c1dd221777c06b637d33456498e096881612ebd31726d20efd0f52ab0b70912", func := "loop.example/g00518/laws.FnExactInvertMutation", spec := "fnExactInvertMutation", apart := false }
def FnExactInvertMutationSaid : Prop := fnExactInvertMutationRow.holds Try.pinned (OpenSpec.ofChange fnExactInvertMutationSpec)

/-- ITS FALSE NEIGHBOUR: 'it returns false'. Refute it at one input. -/
def fnExactInvertMutationWrong : ChangeSpec := { name := "fnExactInvertMutation", fn := fun _ => fun
  | [d1, d2] => { results := [.lit (.bool false)], args := [d1, d2] }
  | _ => none }
def FnExactInvertMutationWrongFalsely : Prop := fnExactInvertMutationRow.holds Try.pinned (OpenSpec.ofChange fnExactInvertMutationWrong)

/-- 'laws.FnExactMutationOf': WHATEVER THE INPUT: true; the input reads as it did. -/
def fnExactMutationOfSpec : ChangeSpec := { name := "fnExactMutationOf", fn := fun _ => fun
  | [d1, d2] => { results := [.lit (.bool true)], args := [d1, d2] }
  | _ => none }
def fnExactMutationOfRow : OpenClaim := { program := "ytacehndbkimggaa", sum := "8c1dd221777c06b637d33456498e096881612ebd31726d20efd0f52ab0b70912", func := "loop.example/g00518/laws.FnExactMutationOf", spec := "fnExactMutationOf", unfollowed := true, recurses := true, apart := false }
def FnExactMutationOfSaid : Prop := fnExactMutationOfRow.holds Try.pinned (OpenSpec.ofChange fnExactMutationOfSpec)

/-- ITS FALSE NEIGHBOUR: 'it returns false'. Refute it at one input. -/
def fnExactMutationOfWrong : ChangeSpec := { name := "fnExactMutationOf", fn := fun _ => fun
  | [d1, d2] => { results := [.lit (.bool false)], args := [d1, d2] }
  | _ => none }
def FnExactMutationOfWrongFalsely : Prop := fnExactMutationOfRow.holds Try.pinned (OpenSpec.ofChange fnExactMutationOfWrong)

/-- 'laws.FnExactMutateBytes': WHATEVER THE INPUT: true; the input reads as it did. -/
def fnExactMutateBytesSpec : ChangeSpec := { name := "fnExactMutateBytes", fn := fun _ => fun
  | [d1, d2, d3] => { results := [.lit (.bool true)], args := [d1, d2, d3] }
  | _ => none }
def fnExactMutateBytesRow : OpenClaim := { program := "ytacehndbkimggaa", sum := "8c1dd221777c06b637d33456498e096881612ebd31726d20efd0f52ab0b70912", func := "loop.example/g00518/laws.FnExactMutateBytes", spec := "fnExactMutateBytes", unfollowed := true, recurses := true, apart := false }
def FnExactMutateBytesSaid : Prop := fnExactMutateBytesRow.holds Try.pinned (OpenSpec.ofChange fnExactMutateBytesSpec)

/-- ITS FALSE NEIGHBOUR: 'it returns false'. Refute it at one input. -/
def fnExactMutateBytesWrong : ChangeSpec := { name := "fnExactMutateBytes", fn := fun _ => fun
  | [d1, d2, d3] => { results := [.lit (.bool false)], args := [d1, d2, d3] }
  | _ => none }
def FnExactMutateBytesWrongFalsely : Prop := fnExactMutateBytesRow.holds Try.pinned (OpenSpec.ofChange fnExactMutateBytesWrong)

/-- 'laws.FnExactDistance': WHATEVER THE INPUT: true; the input reads as it did. -/
def fnExactDistanceSpec : ChangeSpec := { name := "fnExactDistance", fn := fun _ => fun
  | [d1, d2] => { results := [.lit (.bool true)], args := [d1, d2] }
  | _ => none }
def fnExactDistanceRow : OpenClaim := { program := "ytacehndbkimggaa", sum := "8c1dd221777c06b637d33456498e096881612ebd31726d20efd0f52ab0b70912", func := "loop.example/g00518/laws.FnExactDistance", spec := "fnExactDistance", unfollowed := true, recurses := true, apart := false }
def FnExactDistanceSaid : Prop := fnExactDistanceRow.holds Try.pinned (OpenSpec.ofChange fnExactDistanceSpec)

/-- ITS FALSE NEIGHBOUR: 'it returns false'. Refute it at one input. -/
def fnExactDistanceWrong : ChangeSpec := { name := "fnExactDistance", fn := fun _ => fun
  | [d1, d2] => { results := [.lit (.bool false)], args := [d1, d2] }
  | _ => none }
def FnExactDistanceWrongFalsely : Prop := fnExactDistanceRow.holds Try.pinned (OpenSpec.ofChange fnExactDistanceWrong)

/-- 'laws.FnDistances': WHATEVER THE INPUT: true; the input reads as it did. -/
def fnDistancesSpec : ChangeSpec := { name := "fnDistances", fn := fun _ => fun
  | [d] => { results := [.lit (.bool true)], args := [d] }
  | _ => none }
def fnDistancesRow : OpenClaim := { program := "ytacehndbkimggaa", sum := "8c1dd221777c06b637d33456498e096881612ebd31726d20efd0f52ab0b70912", func := "loop.example/g00518/laws.FnDistances", spec := "fnDistances", unfollowed := true, recurses := true, apart := false }
def FnDistancesSaid : Prop := fnDistancesRow.holds Try.pinned (OpenSpec.ofChange fnDistancesSpec)

/-- ITS FALSE NEIGHBOUR: 'it returns false'. Refute it at one input. -/
def fnDistancesWrong : ChangeSpec := { name := "fnDistances", fn := fun _ => fun
  | [d] => { results := [.lit (.bool false)], args := [d] }
  | _ => none }
def FnDistancesWrongFalsely : Prop := fnDistancesRow.holds Try.pinned (OpenSpec.ofChange fnDistancesWrong)

/-- 'laws.FnMutationChoice': WHATEVER THE INPUT: true; the input reads as it did. -/
def fnMutationChoiceSpec : ChangeSpec := { name := "fnMutationChoice", fn := fun _ => fun
  | [d] => { results := [.lit (.bool true)], args := [d] }
  | _ => none }
def fnMutationChoiceRow : OpenClaim := { program := "ytacehndbkimggaa", sum := "8c1dd221777c06b637d33456498e096881612ebd31726d20efd0f52ab0b70912", func := "loop.example/g00518/laws.FnMutationChoice", spec := "fnMutationChoice", unfollowed := true, recurses := true, apart := false }
def FnMutationChoiceSaid : Prop := fnMutationChoiceRow.holds Try.pinned (OpenSpec.ofChange fnMutationChoiceSpec)

/-- ITS FALSE NEIGHBOUR: 'it returns false'. Refute it at one input. -/
def fnMutationChoiceWrong : ChangeSpec := { name := "fnMutationChoice", fn := fun _ => fun
  | [d] => { results := [.lit (.bool false)], args := [d] }
  | _ => none }
def FnMutationChoiceWrongFalsely : Prop := fnMutationChoiceRow.holds Try.pinned (OpenSpec.ofChange fnMutationChoiceWrong)

/- THE SECOND FORM. 'bulk': how many values and letters a reading holds, each counted each time it is reached (what is shared counts as often as it is met; a slice's spare places count too). A statement '..UptoSaid' is the law's where the arguments, and the package variables that the reading takes, are together of bulk at most 1048576: NARROWER than '..Said'. Prove '..Said' where nothing that the law and all that it calls make is longer than what came in: it says more and counts as full. Else prove '..UptoSaid'. A law counts once. -/
mutual
def uptoBulk {H : Type} : DataW H → Nat
  | .lit (.string bytes) => bytes.length + 1
  | .lit _ => 1
  | .nil => 1
  | .ptr d => uptoBulk d + 1
  | .slice elems spare => uptoBulkAll elems + uptoBulkAll spare + 1
  | .agg parts => uptoBulkAll parts + 1
  | .iface _ d => uptoBulk d + 1
  | .map entries => uptoBulkEntries entries + 1
  | .held _ => 1
def uptoBulkAll {H : Type} : List (DataW H) → Nat
  | [] => 0
  | d :: r => uptoBulk d + uptoBulkAll r
def uptoBulkEntries {H : Type} : List (Lit × DataW H) → Nat
  | [] => 0
  | x :: r => uptoBulkEntry x + uptoBulkEntries r
def uptoBulkEntry {H : Type} : Lit × DataW H → Nat
  | (.string bytes, d) => bytes.length + uptoBulk d + 1
  | (_, d) => uptoBulk d + 1
 end
def uptoSmall : (H : Type) → List (DataW H) → Bool := fun _ ds => decide (uptoBulkAll ds ≤ 1048576)
def OpenSpec.upto (s : _root_.Go.ChangeSpec) : _root_.Go.OpenSpec := { _root_.Go.OpenSpec.ofChange s with cond := some uptoSmall }

/-- 'laws.FnExactApplyMutation', WHERE WHAT IT READS IS OF BULK AT MOST 1048576: true; the input reads as it did. -/
def fnExactApplyMutationUptoRow : OpenClaim := { program := "ytacehndbkimggaa", sum := "8c1dd221777c06b637d33456498e096881612ebd31726d20efd0f52ab0b70912", func := "loop.example/g00518/laws.FnExactApplyMutation", spec := "fnExactApplyMutation", apart := false, narrowed := true }
def FnExactApplyMutationUptoSaid : Prop := fnExactApplyMutationUptoRow.holds Try.pinned (OpenSpec.upto fnExactApplyMutationSpec)

/-- 'laws.FnExactInvertMutation', WHERE WHAT IT READS IS OF BULK AT MOST 1048576: true; the input reads as it did. -/
def fnExactInvertMutationUptoRow : OpenClaim := { program := "ytacehndbkimggaa", sum := "8c1dd221777c06b637d33456498e096881612ebd31726d20efd0f52ab0b70912", func := "loop.example/g00518/laws.FnExactInvertMutation", spec := "fnExactInvertMutation", apart := false, narrowed := true }
def FnExactInvertMutationUptoSaid : Prop := fnExactInvertMutationUptoRow.holds Try.pinned (OpenSpec.upto fnExactInvertMutationSpec)

/-- 'laws.FnExactMutationOf', WHERE WHAT IT READS IS OF BULK AT MOST 1048576: true; the input reads as it did. -/
def fnExactMutationOfUptoRow : OpenClaim := { program := "ytacehndbkimggaa", sum := "8c1dd221777c06b637d33456498e096881612ebd31726d20efd0f52ab0b70912", func := "loop.example/g00518/laws.FnExactMutationOf", spec := "fnExactMutationOf", unfollowed := true, recurses := true, apart := false, narrowed := true }
def FnExactMutationOfUptoSaid : Prop := fnExactMutationOfUptoRow.holds Try.pinned (OpenSpec.upto fnExactMutationOfSpec)

/-- 'laws.FnExactMutateBytes', WHERE WHAT IT READS IS OF BULK AT MOST 1048576: true; the input reads as it did. -/
def fnExactMutateBytesUptoRow : OpenClaim := { program := "ytacehndbkimggaa", sum := "8c1dd221777c06b637d33456498e096881612ebd31726d20efd0f52ab0b70912", func := "loop.example/g00518/laws.FnExactMutateBytes", spec := "fnExactMutateBytes", unfollowed := true, recurses := true, apart := false, narrowed := true }
def FnExactMutateBytesUptoSaid : Prop := fnExactMutateBytesUptoRow.holds Try.pinned (OpenSpec.upto fnExactMutateBytesSpec)

/-- 'laws.FnExactDistance', WHERE WHAT IT READS IS OF BULK AT MOST 1048576: true; the input reads as it did. -/
def fnExactDistanceUptoRow : OpenClaim := { program := "ytacehndbkimggaa", sum := "8c1dd221777c06b637d33456498e096881612ebd31726d20efd0f52ab0b70912", func := "loop.example/g00518/laws.FnExactDistance", spec := "fnExactDistance", unfollowed := true, recurses := true, apart := false, narrowed := true }
def FnExactDistanceUptoSaid : Prop := fnExactDistanceUptoRow.holds Try.pinned (OpenSpec.upto fnExactDistanceSpec)

/-- 'laws.FnDistances', WHERE WHAT IT READS IS OF BULK AT MOST 1048576: true; the input reads as it did. -/
def fnDistancesUptoRow : OpenClaim := { program := "ytacehndbkimggaa", sum := "8c1dd221777c06b637d33456498e096881612ebd31726d20efd0f52ab0b70912", func := "loop.example/g00518/laws.FnDistances", spec := "fnDistances", unfollowed := true, recurses := true, apart := false, narrowed := true }
def FnDistancesUptoSaid : Prop := fnDistancesUptoRow.holds Try.pinned (OpenSpec.upto fnDistancesSpec)

/-- 'laws.FnMutationChoice', WHERE WHAT IT READS IS OF BULK AT MOST 1048576: true; the input reads as it did. -/
def fnMutationChoiceUptoRow : OpenClaim := { program := "ytacehndbkimggaa", sum := "8c1dd221777c06b637d33456498e096881612ebd31726d20efd0f52ab0b70912", func := "loop.example/g00518/laws.FnMutationChoice", spec := "fnMutationChoice", unfollowed := true, recurses := true, apart := false, narrowed := true }
def FnMutationChoiceUptoSaid : Prop := fnMutationChoiceUptoRow.holds Try.pinned (OpenSpec.upto fnMutationChoiceSpec)

end Rows
end Go.Proofs.Ytacehndbkimggaa
