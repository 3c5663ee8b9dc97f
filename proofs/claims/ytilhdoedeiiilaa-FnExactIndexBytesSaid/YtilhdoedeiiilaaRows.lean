/-
  No cell of these rows narrows 'for every input' (looked for: loops, veiled, ifaces, maps, wideKeys, modest, calm, conditions, laid).
  DERIVED. THE GIVEN ROWS OF THIS SEAT. 12 by the template 'for every input the law returns true; each argument reads behind the call as it read before'; 0 by the template 'total and deterministic' (their statements: YtilhdoedeiiilaaTotals.lean).
  GIVEN WITH THE SEED: the statements are not yours to turn. If you find one false, say at which input.
  Laid BY PROGRAM, IN A SANDBOX (cutbox-rows.mjs): the forced cells as the released guide's own fill.sh prints them over the translation bf6dfbabb178933e… (all of the seat's roots in one cut). By AI agents, Wed Nov 11 2026. No macro, syntax, notation, axiom, sorry.
-/
import Derived.Test.YtilhdoedeiiilaaChecked
import GoSem.Claim
import GoSem.ClaimJoined
import GoSem.ClaimMapViews
import Derived.JoinedTies
import Derived.KernelRfl
namespace Go.Proofs.Ytilhdoedeiiilaa
/- THE CELL 'sum', in the pinned program and in every row, IS THE sha256 OF THE DUMP (.gsa) THAT YtilhdoedeiiilaaProg.lean LOADS. Nothing in Lean hashes anything: it is a label: what it is worth is what the hold of that sum in a sandbox is worth. -/
noncomputable def Try.pinned : Pinned := { name := "ytilhdoedeiiilaa", sum := "bf6dfbabb178933e5c7b59f7afac759fa39032f24aed4357b9d87f6e7e987cf7", checked := Try.checked }
namespace Rows
def none {H : Type} : Left H := { results := [], args := [] }

/-- 'laws.FnExactIsWithin': WHATEVER THE INPUT: true; the input reads as it did. -/
def fnExactIsWithinSpec : ChangeSpec := { name := "fnExactIsWithin", fn := fun _ => fun
  | [d1, d2] => { results := [.lit (.bool true)], args := [d1, d2] }
  | _ => none }
def fnExactIsWithinRow : OpenClaim := { program := "ytilhdoedeiiilaa", sum := "bf6dfbabb178933e5c7b59f7afac759fa39032f24aed4357b9d87f6e7e987cf7", func := "loop.example/g00518/laws.FnExactIsWithin", spec := "fnExactIsWithin", apart := false }
def FnExactIsWithinSaid : Prop := fnExactIsWithinRow.holds Try.pinned (OpenSpec.ofChange fnExactIsWithinSpec)

/-- ITS FALSE NEIGHBOUR: 'it returns false'. Refute it at one input. -/
def fnExactIsWithinWrong : ChangeSpec := { name := "fnExactIsWithin", fn := fun _ => fun
  | [d1, d2] => { results := [.lit (.bool false)], args := [d1, d2] }
  | _ => none }
def FnExactIsWithinWrongFalsely : Prop := fnExactIsWithinRow.holds Try.pinned (OpenSpec.ofChange fnExactIsWithinWrong)

/-- 'laws.FnExactAllReplacements': WHATEVER THE INPUT: true; the input reads as it did. -/
def fnExactAllReplacementsSpec : ChangeSpec := { name := "fnExactAllReplacements", fn := fun _ => fun
  | [d] => { results := [.lit (.bool true)], args := [d] }
  | _ => none }
def fnExactAllReplacementsRow : OpenClaim := { program := "ytilhdoedeiiilaa", sum := "bf6dfbabb178933e5c7b59f7afac759fa39032f24aed4357b9d87f6e7e987cf7", func := "loop.example/g00518/laws.FnExactAllReplacements", spec := "fnExactAllReplacements", apart := false }
def FnExactAllReplacementsSaid : Prop := fnExactAllReplacementsRow.holds Try.pinned (OpenSpec.ofChange fnExactAllReplacementsSpec)

/-- ITS FALSE NEIGHBOUR: 'it returns false'. Refute it at one input. -/
def fnExactAllReplacementsWrong : ChangeSpec := { name := "fnExactAllReplacements", fn := fun _ => fun
  | [d] => { results := [.lit (.bool false)], args := [d] }
  | _ => none }
def FnExactAllReplacementsWrongFalsely : Prop := fnExactAllReplacementsRow.holds Try.pinned (OpenSpec.ofChange fnExactAllReplacementsWrong)

/-- 'laws.FnExactParentPath': WHATEVER THE INPUT: true; the input reads as it did. -/
def fnExactParentPathSpec : ChangeSpec := { name := "fnExactParentPath", fn := fun _ => fun
  | [d] => { results := [.lit (.bool true)], args := [d] }
  | _ => none }
def fnExactParentPathRow : OpenClaim := { program := "ytilhdoedeiiilaa", sum := "bf6dfbabb178933e5c7b59f7afac759fa39032f24aed4357b9d87f6e7e987cf7", func := "loop.example/g00518/laws.FnExactParentPath", spec := "fnExactParentPath", unfollowed := true, recurses := true, apart := false }
def FnExactParentPathSaid : Prop := fnExactParentPathRow.holds Try.pinned (OpenSpec.ofChange fnExactParentPathSpec)

/-- ITS FALSE NEIGHBOUR: 'it returns false'. Refute it at one input. -/
def fnExactParentPathWrong : ChangeSpec := { name := "fnExactParentPath", fn := fun _ => fun
  | [d] => { results := [.lit (.bool false)], args := [d] }
  | _ => none }
def FnExactParentPathWrongFalsely : Prop := fnExactParentPathRow.holds Try.pinned (OpenSpec.ofChange fnExactParentPathWrong)

/-- 'laws.FnExactNextNumber': WHATEVER THE INPUT: true; the input reads as it did. -/
def fnExactNextNumberSpec : ChangeSpec := { name := "fnExactNextNumber", fn := fun _ => fun
  | [d] => { results := [.lit (.bool true)], args := [d] }
  | _ => none }
def fnExactNextNumberRow : OpenClaim := { program := "ytilhdoedeiiilaa", sum := "bf6dfbabb178933e5c7b59f7afac759fa39032f24aed4357b9d87f6e7e987cf7", func := "loop.example/g00518/laws.FnExactNextNumber", spec := "fnExactNextNumber", apart := false }
def FnExactNextNumberSaid : Prop := fnExactNextNumberRow.holds Try.pinned (OpenSpec.ofChange fnExactNextNumberSpec)

/-- ITS FALSE NEIGHBOUR: 'it returns false'. Refute it at one input. -/
def fnExactNextNumberWrong : ChangeSpec := { name := "fnExactNextNumber", fn := fun _ => fun
  | [d] => { results := [.lit (.bool false)], args := [d] }
  | _ => none }
def FnExactNextNumberWrongFalsely : Prop := fnExactNextNumberRow.holds Try.pinned (OpenSpec.ofChange fnExactNextNumberWrong)

/-- 'laws.FnExactJoinPath': WHATEVER THE INPUT: true; the input reads as it did. -/
def fnExactJoinPathSpec : ChangeSpec := { name := "fnExactJoinPath", fn := fun _ => fun
  | [d] => { results := [.lit (.bool true)], args := [d] }
  | _ => none }
def fnExactJoinPathRow : OpenClaim := { program := "ytilhdoedeiiilaa", sum := "bf6dfbabb178933e5c7b59f7afac759fa39032f24aed4357b9d87f6e7e987cf7", func := "loop.example/g00518/laws.FnExactJoinPath", spec := "fnExactJoinPath", apart := false }
def FnExactJoinPathSaid : Prop := fnExactJoinPathRow.holds Try.pinned (OpenSpec.ofChange fnExactJoinPathSpec)

/-- ITS FALSE NEIGHBOUR: 'it returns false'. Refute it at one input. -/
def fnExactJoinPathWrong : ChangeSpec := { name := "fnExactJoinPath", fn := fun _ => fun
  | [d] => { results := [.lit (.bool false)], args := [d] }
  | _ => none }
def FnExactJoinPathWrongFalsely : Prop := fnExactJoinPathRow.holds Try.pinned (OpenSpec.ofChange fnExactJoinPathWrong)

/-- 'laws.FnExactIndexBytes': WHATEVER THE INPUT: true; the input reads as it did. -/
def fnExactIndexBytesSpec : ChangeSpec := { name := "fnExactIndexBytes", fn := fun _ => fun
  | [d1, d2] => { results := [.lit (.bool true)], args := [d1, d2] }
  | _ => none }
def fnExactIndexBytesRow : OpenClaim := { program := "ytilhdoedeiiilaa", sum := "bf6dfbabb178933e5c7b59f7afac759fa39032f24aed4357b9d87f6e7e987cf7", func := "loop.example/g00518/laws.FnExactIndexBytes", spec := "fnExactIndexBytes", apart := false }
def FnExactIndexBytesSaid : Prop := fnExactIndexBytesRow.holds Try.pinned (OpenSpec.ofChange fnExactIndexBytesSpec)

/-- ITS FALSE NEIGHBOUR: 'it returns false'. Refute it at one input. -/
def fnExactIndexBytesWrong : ChangeSpec := { name := "fnExactIndexBytes", fn := fun _ => fun
  | [d1, d2] => { results := [.lit (.bool false)], args := [d1, d2] }
  | _ => none }
def FnExactIndexBytesWrongFalsely : Prop := fnExactIndexBytesRow.holds Try.pinned (OpenSpec.ofChange fnExactIndexBytesWrong)

/-- 'laws.FnExactDistance': WHATEVER THE INPUT: true; the input reads as it did. -/
def fnExactDistanceSpec : ChangeSpec := { name := "fnExactDistance", fn := fun _ => fun
  | [d1, d2] => { results := [.lit (.bool true)], args := [d1, d2] }
  | _ => none }
def fnExactDistanceRow : OpenClaim := { program := "ytilhdoedeiiilaa", sum := "bf6dfbabb178933e5c7b59f7afac759fa39032f24aed4357b9d87f6e7e987cf7", func := "loop.example/g00518/laws.FnExactDistance", spec := "fnExactDistance", unfollowed := true, recurses := true, apart := false }
def FnExactDistanceSaid : Prop := fnExactDistanceRow.holds Try.pinned (OpenSpec.ofChange fnExactDistanceSpec)

/-- ITS FALSE NEIGHBOUR: 'it returns false'. Refute it at one input. -/
def fnExactDistanceWrong : ChangeSpec := { name := "fnExactDistance", fn := fun _ => fun
  | [d1, d2] => { results := [.lit (.bool false)], args := [d1, d2] }
  | _ => none }
def FnExactDistanceWrongFalsely : Prop := fnExactDistanceRow.holds Try.pinned (OpenSpec.ofChange fnExactDistanceWrong)

/-- 'laws.FnExactFindEntry': WHATEVER THE INPUT: true; the input reads as it did. -/
def fnExactFindEntrySpec : ChangeSpec := { name := "fnExactFindEntry", fn := fun _ => fun
  | [d1, d2] => { results := [.lit (.bool true)], args := [d1, d2] }
  | _ => none }
def fnExactFindEntryRow : OpenClaim := { program := "ytilhdoedeiiilaa", sum := "bf6dfbabb178933e5c7b59f7afac759fa39032f24aed4357b9d87f6e7e987cf7", func := "loop.example/g00518/laws.FnExactFindEntry", spec := "fnExactFindEntry", unfollowed := true, recurses := true, apart := false }
def FnExactFindEntrySaid : Prop := fnExactFindEntryRow.holds Try.pinned (OpenSpec.ofChange fnExactFindEntrySpec)

/-- ITS FALSE NEIGHBOUR: 'it returns false'. Refute it at one input. -/
def fnExactFindEntryWrong : ChangeSpec := { name := "fnExactFindEntry", fn := fun _ => fun
  | [d1, d2] => { results := [.lit (.bool false)], args := [d1, d2] }
  | _ => none }
def FnExactFindEntryWrongFalsely : Prop := fnExactFindEntryRow.holds Try.pinned (OpenSpec.ofChange fnExactFindEntryWrong)

/-- 'laws.FnExactEntryAt': WHATEVER THE INPUT: true; the input reads as it did. -/
def fnExactEntryAtSpec : ChangeSpec := { name := "fnExactEntryAt", fn := fun _ => fun
  | [d1, d2] => { results := [.lit (.bool true)], args := [d1, d2] }
  | _ => none }
def fnExactEntryAtRow : OpenClaim := { program := "ytilhdoedeiiilaa", sum := "bf6dfbabb178933e5c7b59f7afac759fa39032f24aed4357b9d87f6e7e987cf7", func := "loop.example/g00518/laws.FnExactEntryAt", spec := "fnExactEntryAt", apart := false }
def FnExactEntryAtSaid : Prop := fnExactEntryAtRow.holds Try.pinned (OpenSpec.ofChange fnExactEntryAtSpec)

/-- ITS FALSE NEIGHBOUR: 'it returns false'. Refute it at one input. -/
def fnExactEntryAtWrong : ChangeSpec := { name := "fnExactEntryAt", fn := fun _ => fun
  | [d1, d2] => { results := [.lit (.bool false)], args := [d1, d2] }
  | _ => none }
def FnExactEntryAtWrongFalsely : Prop := fnExactEntryAtRow.holds Try.pinned (OpenSpec.ofChange fnExactEntryAtWrong)

/-- 'laws.FnExactSmallestAround': WHATEVER THE INPUT: true; the input reads as it did. -/
def fnExactSmallestAroundSpec : ChangeSpec := { name := "fnExactSmallestAround", fn := fun _ => fun
  | [d1, d2, d3] => { results := [.lit (.bool true)], args := [d1, d2, d3] }
  | _ => none }
def fnExactSmallestAroundRow : OpenClaim := { program := "ytilhdoedeiiilaa", sum := "bf6dfbabb178933e5c7b59f7afac759fa39032f24aed4357b9d87f6e7e987cf7", func := "loop.example/g00518/laws.FnExactSmallestAround", spec := "fnExactSmallestAround", apart := false }
def FnExactSmallestAroundSaid : Prop := fnExactSmallestAroundRow.holds Try.pinned (OpenSpec.ofChange fnExactSmallestAroundSpec)

/-- ITS FALSE NEIGHBOUR: 'it returns false'. Refute it at one input. -/
def fnExactSmallestAroundWrong : ChangeSpec := { name := "fnExactSmallestAround", fn := fun _ => fun
  | [d1, d2, d3] => { results := [.lit (.bool false)], args := [d1, d2, d3] }
  | _ => none }
def FnExactSmallestAroundWrongFalsely : Prop := fnExactSmallestAroundRow.holds Try.pinned (OpenSpec.ofChange fnExactSmallestAroundWrong)

/-- 'laws.FnExactEqualIndexes': WHATEVER THE INPUT: true; the input reads as it did. -/
def fnExactEqualIndexesSpec : ChangeSpec := { name := "fnExactEqualIndexes", fn := fun _ => fun
  | [d1, d2] => { results := [.lit (.bool true)], args := [d1, d2] }
  | _ => none }
def fnExactEqualIndexesRow : OpenClaim := { program := "ytilhdoedeiiilaa", sum := "bf6dfbabb178933e5c7b59f7afac759fa39032f24aed4357b9d87f6e7e987cf7", func := "loop.example/g00518/laws.FnExactEqualIndexes", spec := "fnExactEqualIndexes", apart := false }
def FnExactEqualIndexesSaid : Prop := fnExactEqualIndexesRow.holds Try.pinned (OpenSpec.ofChange fnExactEqualIndexesSpec)

/-- ITS FALSE NEIGHBOUR: 'it returns false'. Refute it at one input. -/
def fnExactEqualIndexesWrong : ChangeSpec := { name := "fnExactEqualIndexes", fn := fun _ => fun
  | [d1, d2] => { results := [.lit (.bool false)], args := [d1, d2] }
  | _ => none }
def FnExactEqualIndexesWrongFalsely : Prop := fnExactEqualIndexesRow.holds Try.pinned (OpenSpec.ofChange fnExactEqualIndexesWrong)

/-- 'laws.FnExactIsStep': WHATEVER THE INPUT: true; the input reads as it did. -/
def fnExactIsStepSpec : ChangeSpec := { name := "fnExactIsStep", fn := fun _ => fun
  | [d] => { results := [.lit (.bool true)], args := [d] }
  | _ => none }
def fnExactIsStepRow : OpenClaim := { program := "ytilhdoedeiiilaa", sum := "bf6dfbabb178933e5c7b59f7afac759fa39032f24aed4357b9d87f6e7e987cf7", func := "loop.example/g00518/laws.FnExactIsStep", spec := "fnExactIsStep", apart := false }
def FnExactIsStepSaid : Prop := fnExactIsStepRow.holds Try.pinned (OpenSpec.ofChange fnExactIsStepSpec)

/-- ITS FALSE NEIGHBOUR: 'it returns false'. Refute it at one input. -/
def fnExactIsStepWrong : ChangeSpec := { name := "fnExactIsStep", fn := fun _ => fun
  | [d] => { results := [.lit (.bool false)], args := [d] }
  | _ => none }
def FnExactIsStepWrongFalsely : Prop := fnExactIsStepRow.holds Try.pinned (OpenSpec.ofChange fnExactIsStepWrong)

/- THE SECOND FORM. 'bulk': how many values and letters a reading holds, each counted each time it is reached (what is shared counts as often as it is met; a slice's spare places count too). A statement '..UptoSaid' is the law's where the arguments, and the package variables that the reading takes, are together of bulk at most 1048576: NARROWER than '..Said'. Prove '..Said' where nothing that the law and all that it calls make is longer than what came in: it says more and counts as full. Else prove '..UptoSaid'. A law counts once. -/
mutual
def uptoBulk {H : Type} : DataW H → Nat
  | .lit (.string bytes) => bytes.length + 1
  | .lit _ => 1
  | .nil => 1
  | .ptr d => uptoBulk d + 1
  | .slice elems spare => uptoBulkAll elems + uptoBulkAll spare + 1
  | .agg parts => uptoBulkAll parts + 1
  | .iface _ d => uptoBulk d + 1
  | .map entries => uptoBulkEntries entries + 1
  | .held _ => 1
def uptoBulkAll {H : Type} : List (DataW H) → Nat
  | [] => 0
  | d :: r => uptoBulk d + uptoBulkAll r
def uptoBulkEntries {H : Type} : List (Lit × DataW H) → Nat
  | [] => 0
  | x :: r => uptoBulkEntry x + uptoBulkEntries r
def uptoBulkEntry {H : Type} : Lit × DataW H → Nat
  | (.string bytes, d) => bytes.length + uptoBulk d + 1
  | (_, d) => uptoBulk d + 1
 end
def uptoSmall : (H : Type) → List (DataW H) → Bool := fun _ ds => decide (uptoBulkAll ds ≤ 1048576)
def OpenSpec.upto (s : _root_.Go.ChangeSpec) : _root_.Go.OpenSpec := { _root_.Go.OpenSpec.ofChange s with cond := some uptoSmall }

/-- 'laws.FnExactIsWithin', WHERE WHAT IT READS IS OF BULK AT MOST 1048576: true; the input reads as it did. -/
def fnExactIsWithinUptoRow : OpenClaim := { program := "ytilhdoedeiiilaa", sum := "bf6dfbabb178933e5c7b59f7afac759fa39032f24aed4357b9d87f6e7e987cf7", func := "loop.example/g00518/laws.FnExactIsWithin", spec := "fnExactIsWithin", apart := false, narrowed := true }
def FnExactIsWithinUptoSaid : Prop := fnExactIsWithinUptoRow.holds Try.pinned (OpenSpec.upto fnExactIsWithinSpec)

/-- 'laws.FnExactAllReplacements', WHERE WHAT IT READS IS OF BULK AT MOST 1048576: true; the input reads as it did. -/
def fnExactAllReplacementsUptoRow : OpenClaim := { program := "ytilhdoedeiiilaa", sum := "bf6dfbabb178933e5c7b59f7afac759fa39032f24aed4357b9d87f6e7e987cf7", func := "loop.example/g00518/laws.FnExactAllReplacements", spec := "fnExactAllReplacements", apart := false, narrowed := true }
def FnExactAllReplacementsUptoSaid : Prop := fnExactAllReplacementsUptoRow.holds Try.pinned (OpenSpec.upto fnExactAllReplacementsSpec)

/-- 'laws.FnExactParentPath', WHERE WHAT IT READS IS OF BULK AT MOST 1048576: true; the input reads as it did. -/
def fnExactParentPathUptoRow : OpenClaim := { program := "ytilhdoedeiiilaa", sum := "bf6dfbabb178933e5c7b59f7afac759fa39032f24aed4357b9d87f6e7e987cf7", func := "loop.example/g00518/laws.FnExactParentPath", spec := "fnExactParentPath", unfollowed := true, recurses := true, apart := false, narrowed := true }
def FnExactParentPathUptoSaid : Prop := fnExactParentPathUptoRow.holds Try.pinned (OpenSpec.upto fnExactParentPathSpec)

/-- 'laws.FnExactNextNumber', WHERE WHAT IT READS IS OF BULK AT MOST 1048576: true; the input reads as it did. -/
def fnExactNextNumberUptoRow : OpenClaim := { program := "ytilhdoedeiiilaa", sum := "bf6dfbabb178933e5c7b59f7afac759fa39032f24aed4357b9d87f6e7e987cf7", func := "loop.example/g00518/laws.FnExactNextNumber", spec := "fnExactNextNumber", apart := false, narrowed := true }
def FnExactNextNumberUptoSaid : Prop := fnExactNextNumberUptoRow.holds Try.pinned (OpenSpec.upto fnExactNextNumberSpec)

/-- 'laws.FnExactJoinPath', WHERE WHAT IT READS IS OF BULK AT MOST 1048576: true; the input reads as it did. -/
def fnExactJoinPathUptoRow : OpenClaim := { program := "ytilhdoedeiiilaa", sum := "bf6dfbabb178933e5c7b59f7afac759fa39032f24aed4357b9d87f6e7e987cf7", func := "loop.example/g00518/laws.FnExactJoinPath", spec := "fnExactJoinPath", apart := false, narrowed := true }
def FnExactJoinPathUptoSaid : Prop := fnExactJoinPathUptoRow.holds Try.pinned (OpenSpec.upto fnExactJoinPathSpec)

/-- 'laws.FnExactIndexBytes', WHERE WHAT IT READS IS OF BULK AT MOST 1048576: true; the input reads as it did. -/
def fnExactIndexBytesUptoRow : OpenClaim := { program := "ytilhdoedeiiilaa", sum := "bf6dfbabb178933e5c7b59f7afac759fa39032f24aed4357b9d87f6e7e987cf7", func := "loop.example/g00518/laws.FnExactIndexBytes", spec := "fnExactIndexBytes", apart := false, narrowed := true }
def FnExactIndexBytesUptoSaid : Prop := fnExactIndexBytesUptoRow.holds Try.pinned (OpenSpec.upto fnExactIndexBytesSpec)

/-- 'laws.FnExactDistance', WHERE WHAT IT READS IS OF BULK AT MOST 1048576: true; the input reads as it did. -/
def fnExactDistanceUptoRow : OpenClaim := { program := "ytilhdoedeiiilaa", sum := "bf6dfbabb178933e5c7b59f7afac759fa39032f24aed4357b9d87f6e7e987cf7", func := "loop.example/g00518/laws.FnExactDistance", spec := "fnExactDistance", unfollowed := true, recurses := true, apart := false, narrowed := true }
def FnExactDistanceUptoSaid : Prop := fnExactDistanceUptoRow.holds Try.pinned (OpenSpec.upto fnExactDistanceSpec)

/-- 'laws.FnExactFindEntry', WHERE WHAT IT READS IS OF BULK AT MOST 1048576: true; the input reads as it did. -/
def fnExactFindEntryUptoRow : OpenClaim := { program := "ytilhdoedeiiilaa", sum := "bf6dfbabb178933e5c7b59f7afac759fa39032f24aed4357b9d87f6e7e987cf7", func := "loop.example/g00518/laws.FnExactFindEntry", spec := "fnExactFindEntry", unfollowed := true, recurses := true, apart := false, narrowed := true }
def FnExactFindEntryUptoSaid : Prop := fnExactFindEntryUptoRow.holds Try.pinned (OpenSpec.upto fnExactFindEntrySpec)

/-- 'laws.FnExactEntryAt', WHERE WHAT IT READS IS OF BULK AT MOST 1048576: true; the input reads as it did. -/
def fnExactEntryAtUptoRow : OpenClaim := { program := "ytilhdoedeiiilaa", sum := "bf6dfbabb178933e5c7b59f7afac759fa39032f24aed4357b9d87f6e7e987cf7", func := "loop.example/g00518/laws.FnExactEntryAt", spec := "fnExactEntryAt", apart := false, narrowed := true }
def FnExactEntryAtUptoSaid : Prop := fnExactEntryAtUptoRow.holds Try.pinned (OpenSpec.upto fnExactEntryAtSpec)

/-- 'laws.FnExactSmallestAround', WHERE WHAT IT READS IS OF BULK AT MOST 1048576: true; the input reads as it did. -/
def fnExactSmallestAroundUptoRow : OpenClaim := { program := "ytilhdoedeiiilaa", sum := "bf6dfbabb178933e5c7b59f7afac759fa39032f24aed4357b9d87f6e7e987cf7", func := "loop.example/g00518/laws.FnExactSmallestAround", spec := "fnExactSmallestAround", apart := false, narrowed := true }
def FnExactSmallestAroundUptoSaid : Prop := fnExactSmallestAroundUptoRow.holds Try.pinned (OpenSpec.upto fnExactSmallestAroundSpec)

/-- 'laws.FnExactEqualIndexes', WHERE WHAT IT READS IS OF BULK AT MOST 1048576: true; the input reads as it did. -/
def fnExactEqualIndexesUptoRow : OpenClaim := { program := "ytilhdoedeiiilaa", sum := "bf6dfbabb178933e5c7b59f7afac759fa39032f24aed4357b9d87f6e7e987cf7", func := "loop.example/g00518/laws.FnExactEqualIndexes", spec := "fnExactEqualIndexes", apart := false, narrowed := true }
def FnExactEqualIndexesUptoSaid : Prop := fnExactEqualIndexesUptoRow.holds Try.pinned (OpenSpec.upto fnExactEqualIndexesSpec)

/-- 'laws.FnExactIsStep', WHERE WHAT IT READS IS OF BULK AT MOST 1048576: true; the input reads as it did. -/
def fnExactIsStepUptoRow : OpenClaim := { program := "ytilhdoedeiiilaa", sum := "bf6dfbabb178933e5c7b59f7afac759fa39032f24aed4357b9d87f6e7e987cf7", func := "loop.example/g00518/laws.FnExactIsStep", spec := "fnExactIsStep", apart := false, narrowed := true }
def FnExactIsStepUptoSaid : Prop := fnExactIsStepUptoRow.holds Try.pinned (OpenSpec.upto fnExactIsStepSpec)

end Rows
end Go.Proofs.Ytilhdoedeiiilaa
